/- ValueBytes: what the law does. -/
import Derived.Test.YtjjhfdjpmonlaaaK11
import Derived.Test.YtjjhfdjpmonlaaaK14
import Derived.Test.YtjjhfdjpmonlaaaVF
namespace Go.Proofs.Ytjjhfdjpmonlaaa
open Go Go.W
namespace Byt1

abbrev Done (w : World) : Post := fun r w' => r = .returned (.bool true) ∧ Fr0 w w'
/-- byte slices in a row -/
abbrev TrE (row : Sl) (l : List (Sl × List UInt8)) : En := .all (.rd row (l.map fun p => p.1.v) :: l.map fun p => .rd p.1 (p.2.map byteV))
theorem tr_row {w : World} {row : Sl} {l : List (Sl × List UInt8)} (h : (TrE row l).P w) : Rd w row (l.map fun p => p.1.v) := h _ List.mem_cons_self
theorem tr_at {w : World} {row : Sl} {l : List (Sl × List UInt8)} (h : (TrE row l).P w) {i : Nat} {s : Sl} {b : List UInt8} (hi : l[i]? = some (s, b)) : Bytes w s b :=
  h (.rd s (b.map byteV)) (List.mem_cons_of_mem _ (List.mem_map.2 ⟨(s, b), List.mem_of_getElem? hi, rfl⟩))
section
variable {w : World} {ra raw : Sl} {va : List (Val × Sl)} {raws : List UInt8} {at' c : Int}
open enthymemelaw06_ValueBytes in
theorem loop6 (i : Nat) (tr : Sl) (lt : List (Sl × List UInt8)) (hlt : ∀ p ∈ lt, p.2.length ≤ 100000) (ht : lt.length ≤ 1000)
    (hk : ∀ w2, Fr0 w w2 → (ValsE ra va).P w2 → Bytes w2 raw raws → S3T at' raw c ra (i : Int) w2 (Done w)) :
    ∀ (d k : Nat) (w1 : World), k + d = lt.length → Fr0 w w1 → (ValsE ra va).P w1 → Bytes w1 raw raws → (TrE tr lt).P w1 → L6T at' raw c ra (i : Int) tr (k : Int) w1 (Done w) := by
  intro d
  induction d with
  | zero =>
    intro k w1 hk' f hva hraw htr
    have nr := (tr_row htr).1
    simp only [List.length_map] at nr
    exact L6T_step _ _ _ _ _ _ _ _ _ (sel_false (decide_eq_false (by omega)) (hk w1 f hva hraw))
  | succ d ih =>
    intro k w1 hk' f hva hraw htr
    have nr := (tr_row htr).1
    simp only [List.length_map] at nr
    have hg : lt[k]? = some (lt[k]'(by omega)) := List.getElem?_eq_getElem (by omega)
    have hl := hlt _ (List.mem_of_getElem? hg)
    generalize lt[k]'(by omega) = p at hg hl
    obtain ⟨s, b⟩ := p
    have hl : b.length ≤ 100000 := hl
    have hgv : (lt.map fun p => p.1.v)[k]? = some s.v := by rw [List.getElem?_map, hg]; rfl
    have H : LH F0 w1 w1 [] [ValsE ra va, .rd raw (raws.map byteV), TrE tr lt] := lh0 _ (by
      intro e he
      simp only [List.mem_cons, List.not_mem_nil, or_false] at he
      rcases he with rfl | rfl | rfl
      · exact hva
      · exact hraw
      · exact htr)
    have T : ∀ {w' : World} {L D : List En}, LH F0 w1 w' L ([ValsE ra va, .rd raw (raws.map byteV), TrE tr lt] ++ D) → Rd w' tr (lt.map fun p => p.1.v) := fun H => tr_row (H.getD 2)
    have next : ∀ {w2 : World} {L D : List En}, LH F0 w1 w2 L ([ValsE ra va, .rd raw (raws.map byteV), TrE tr lt] ++ D) → S8T at' raw c ra (i : Int) tr (k : Int) w2 (Done w) := fun {w2} {L} {D} H2 => by
      show L6T _ _ _ _ _ _ (IntKind.wrap .i64 ((k : Int) + 1)) _ _
      rw [i64_next _ (by omega)]
      exact ih (k + 1) w2 (by omega) (f.tr0 H2.fr) (H2.getD 0) (H2.getD 1) (H2.getD 2)
    refine L6T_step _ _ _ _ _ _ _ _ _ (sel_true (decide_eq_true (by omega)) ⟨by omega, by omega, ?_⟩)
    rw [Int.toNat_natCast]
    refine (T (D := []) H).get hgv rfl fun p hp hc => ⟨_, hc, H.callq (c_Decode b s w1 (tr_at (H.getD 2) hg) (by omega)) ?_⟩
    rintro _ w2 ⟨sv, rfl, ov, nv⟩ _ F2
    have H2 := F2.rd (EntsD sv (decV b).2.m) ov.rdn (rdn_fp nv)
    have good : ∀ {w3 : World} {b27 : Nat}, (decV b).1 = 0 → LH F0 w1 w3 [.g b27] [ValsE ra va, .rd raw (raws.map byteV), TrE tr lt, EntsD sv (decV b).2.m] →
        callF [b27] Try.prog n_value_Valid #[vagg (decV b).2 sv] w3 fun r_ w10 => ∃ t181 : Int, r_ = .returned (.int .i64 t181) ∧
          sel (t181 != 0) (S7T w10 (Done w)) ((0 : Int) ≤ (k : Int) ∧ (k : Int) < ((tr.n : Nat) : Int) ∧ optP tr.a fun t189_p => ∃ t190 : Sl, w10.cell? (t189_p.add (Int.toNat (k : Int) * 1)) = some (t190.v) ∧
          callF [b27] Try.prog n_enthymemelaw06_plain #[vagg (decV b).2 sv] w10 fun r_ w11 => ∃ t185_0 : Int, ∃ t185_1 : Int, ∃ t185_2 : Int, ∃ t185_3 : Int, ∃ t185_4 : ByteArray, ∃ t185_5 : Sl, r_ = .returned (.agg #[.int .i64 t185_0, .int .i64 t185_1, .int .i64 t185_2, .int .u64 t185_3, .string t185_4, t185_5.v]) ∧
          w11.cell? (t189_p.add (Int.toNat (k : Int) * 1)) = some (t190.v) ∧ callF [b27] Try.prog n_enthymemeref06_Encode #[.agg #[.int .i64 t185_0, .int .i64 t185_1, .int .i64 t185_2, .int .u64 t185_3, .string t185_4, t185_5.v]] w11 fun r_ w12 => ∃ t186 : Sl, r_ = .returned (t186.v) ∧
          w12.cell? (t189_p.add (Int.toNat (k : Int) * 1)) = some (t190.v) ∧ callF [b27] Try.prog n_enthymemeref01_SameBytes #[t186.v, t190.v] w12 fun r_ w13 => ∃ t191 : Bool, r_ = .returned (.bool t191) ∧
          sel (!t191) (S7T w13 (Done w)) (S8T at' raw c ra (i : Int) tr (k : Int) w13 (Done w))) := by
      intro w3 b27 h0 H3
      obtain ⟨g1, g2, g3⟩ := decV_back hl h0
      have gm := g3.m
      refine H3.callg (c_Valid (decV b).2 sv w3 (H3.getD 3) gm) ?_
      rintro _ w4 rfl H4
      refine ⟨_, rfl, sel_false (by rw [g2]; rfl) ⟨by omega, by omega, ?_⟩⟩
      rw [Int.toNat_natCast]
      refine (tr_row (H4.getD 2)).get hgv rfl fun p hp hc => ⟨_, hc, H4.callr (l_plain (decV b).2 sv w4 (H4.getD 3) gm) ?_⟩
      rintro _ w5 ⟨sp, rfl, op, np⟩ _ F5
      have H5 := F5.rd (EntsD sp (decV b).2.m) op.rdn (rdn_fp np)
      refine ⟨_, _, _, _, _, _, rfl, rdc (tr_row (H5.getD 2)) hgv hp, H5.callr (r_Encode (decV b).2 sp w5 (H5.getD 4) g3) ?_⟩
      rintro _ w6 ⟨se, rfl, oe, ne⟩ H6 _
      rw [g1] at oe
      refine ⟨_, rfl, rdc (tr_row (H6.getD 2)) hgv hp, H6.callg (same_bytes oe.rd (tr_at (H6.getD 2) hg) (by omega)) ?_⟩
      rintro _ w7 rfl H7
      exact ⟨_, rfl, sel_false (by simp) (next (D := [_, _]) H7)⟩
    refine ⟨_, _, _, _, _, _, _, rfl, H2.newg fun b27 w3 H3 => ?_⟩
    rcases decV_err b with h0 | ⟨h2, _⟩
    · rw [h0]
      exact sel_false rfl (sel_true rfl (H3.locg fun w4 H4 => good h0 H4))
    · rw [h2]
      exact sel_true rfl (sel_false rfl (sel_false rfl (H3.locg fun w4 H4 => next (D := [_]) H4)))
/-- four slices -/
theorem four_tr {w0 w' : World} {L D : List En} {b x y : Sl} {vb X Y : List UInt8} (H : LH F0 w0 w' L D) (hx : En.by x X ∈ L) (hy : En.by y Y ∈ L) (hr : En.rd raw (raws.map byteV) ∈ D) (hb : En.rd b (vb.map byteV) ∈ D) (k : Nat) (hk : k ≤ vb.length) {K : World → Prop}
    (hK : ∀ w14, LH F0 w0 w14 (L ++ [.row ty_sl_uint8 1 ⟨some (at0 w'.heap.size), 4, 4⟩ [(sub raw 0 (min 40 raws.length)).v, x.v, (sub b 0 k).v, y.v]]) D → (TrE ⟨some (at0 w'.heap.size), 4, 4⟩ [(sub raw 0 (min 40 raws.length), raws.take (min 40 raws.length)), (x, X), (sub b 0 k, vb.take k), (y, Y)]).P w14 → K w14) :
    nwV w' (.cells #[.slice (if raw.c = 0 then raw.a else raw.a.map (·.add (0 * 1))) ((Int.toNat (if 40 < ((raw.n : Nat) : Int) then 40 else ((raw.n : Nat) : Int))) - 0) (raw.c - 0), x.v, .slice (if b.c = 0 then b.a else b.a.map (·.add (0 * 1))) ((Int.toNat (k : Int)) - 0) (b.c - 0), y.v] ty_sl_uint8) K := by
  have nr := Bytes.len (show Bytes w' raw raws from H.rd _ hr)
  have e : Int.toNat (if 40 < ((raw.n : Nat) : Int) then 40 else ((raw.n : Nat) : Int)) = min 40 raws.length := by
    split <;> omega
  rw [e, Int.toNat_natCast]
  refine H.nwrow (e := ty_sl_uint8) (sz := 1) (n := 4) (cs := [(sub raw 0 (min 40 raws.length)).v, x.v, (sub b 0 k).v, y.v]) rfl (by decide) fun w14 H14 => hK w14 H14 fun e he => ?_
  have h1 := (show Rd w14 raw (raws.map byteV) from H14.rd _ hr).sub 0 (min 40 raws.length) (Nat.zero_le _) (by simp; omega)
  have h2 := (show Rd w14 b (vb.map byteV) from H14.rd _ hb).sub 0 k (Nat.zero_le _) (by simpa using hk)
  rw [List.drop_zero, ← List.map_take] at h1 h2
  simp only [List.map_cons, List.map_nil, List.mem_cons, List.not_mem_nil, or_false] at he
  rcases he with rfl | rfl | rfl | rfl | rfl
  · exact OwnRow.rd1 (H14.own (.row ty_sl_uint8 1 ⟨some (at0 w'.heap.size), 4, 4⟩ _) (by simp))
  · exact h1
  · exact (own_bytes (H14.own (.by x X) (by simp [hx]))).rd
  · exact h2
  · exact (own_bytes (H14.own (.by y Y) (by simp [hy]))).rd
theorem enc_pos (v : Val) : 1 ≤ (encV v).length := by
  have := encU_pos v.u
  unfold encV encH
  simp only [List.length_append]
  omega
set_option maxHeartbeats 1000000 in
open enthymemelaw06_ValueBytes in
theorem mid (i : Nat) (cb : UInt8) (hc : c = (cb.toNat : Int)) (h1 : I64 at') (v : Val) (sv b : Sl) (hv : va[i]? = some (v, sv)) (wf : Wf v) (hsm : (encV v).length ≤ 10000)
    (hk : ∀ w2, Fr0 w w2 → (ValsE ra va).P w2 → Bytes w2 raw raws → S3T at' raw c ra (i : Int) w2 (Done w)) {w1 : World} (f : Fr0 w w1) (hva : (ValsE ra va).P w1) (hraw : Bytes w1 raw raws) (hb : Bytes w1 b (encV v)) :
    S2T at' raw c ra (i : Int) b 0 w1 (Done w) := by
  subst hc
  have hli := (List.getElem?_eq_some_iff.1 hv).1
  have nva := vals_row hva
  have hpos := enc_pos v
  have nb := Bytes.len hb
  have nbc : b.n ≤ b.c := hb.2.1
  have nrc : raw.n ≤ raw.c := hraw.2.1
  have nrn := Bytes.len hraw
  have H : LH F0 w1 w1 [] [ValsE ra va, .rd raw (raws.map byteV), .rd b ((encV v).map byteV)] := lh0 _ (by
    intro e he
    simp only [List.mem_cons, List.not_mem_nil, or_false] at he
    rcases he with rfl | rfl | rfl
    · exact hva
    · exact hraw
    · exact hb)
  -- the end
  have fin : ∀ {w' : World} {L : List En} (x y : Sl) (X Y : List UInt8) (k : Nat), LH F0 w1 w' L [ValsE ra va, .rd raw (raws.map byteV), .rd b ((encV v).map byteV)] → En.by x X ∈ L → En.by y Y ∈ L → X.length ≤ 100000 → Y.length ≤ 100000 → k ≤ (encV v).length →
      nwV w' (.cells #[.slice (if raw.c = 0 then raw.a else raw.a.map (·.add (0 * 1))) ((Int.toNat (if 40 < ((raw.n : Nat) : Int) then 40 else ((raw.n : Nat) : Int))) - 0) (raw.c - 0), x.v, .slice (if b.c = 0 then b.a else b.a.map (·.add (0 * 1))) ((Int.toNat (k : Int)) - 0) (b.c - 0), y.v] ty_sl_uint8) fun w14 =>
        S5T at' raw (cb.toNat : Int) ra (i : Int) ⟨some (Addr.mk w'.heap.size 0 none), 4, 4⟩ w14 (Done w) := by
    intro w' L x y X Y k H' hx hy lx ly hkk
    refine four_tr (raws := raws) (raw := raw) (b := b) (vb := encV v) H' hx hy (by simp) (by simp) k hkk fun w14 H14 ht => ?_
    exact loop6 i _ _ (by
      intro p hp
      simp only [List.mem_cons, List.not_mem_nil, or_false] at hp
      rcases hp with rfl | rfl | rfl | rfl
      · simp; omega
      · exact lx
      · simp; omega
      · exact ly) (by simp) hk 4 0 w14 rfl (f.tr0 H14.fr) (H14.getD 0) (H14.getD 1) ht
  refine sel_false (by simp) ((r_read hb (by omega)).mono ?_)
  rintro _ w2 ⟨rb, fp, rfl, rep, f2, nf⟩
  have H2 := H.push (.rdr rb ⟨encV v, 0⟩ fp) f2 rep (fun q hq => nf q (mem_nub.1 hq))
  refine ⟨some (at0 rb), rfl, H2.dr fun w3 H3 => sel_false rfl ⟨by omega, by omega, ?_⟩⟩
  refine val_at (H3.getD 0) hv fun p hp cc => ⟨v.t.k, (by
    have := cc.c0
    simp only [add0] at this ⊢
    exact this), H3.rm0 0 rfl (fun hr => r_int hr) fun w4 H4 => ⟨_, rfl, ?_⟩⟩
  have e1 : (rdI ⟨encV v, 0⟩).1 = v.t.k := by
    have : encV v = encI v.t.k ++ (encI v.t.n ++ encI v.t.x ++ encU v.u ++ encR v.s ++ encI (v.m.length : Int) ++ v.m.flatMap encE) := by
      unfold encV encH
      simp [List.append_assoc]
    rw [this, rdI_enc _ wf.k]
  have c4 := (vcells (H4.getD 0) hv hp).c0
  refine ⟨?_, sel_false (by rw [e1]; simp) (sel_false ?_ ?_)⟩
  · simp only [add0] at c4 ⊢
    exact c4
  · simp
    omega
  have H5 := H4.sieve [false]
  refine H5.nwrow (e := ty_uint8) (sz := 1) (n := 0) (cs := []) rfl (by decide) fun w5 H6 => ?_
  refine (show LH F0 w1 w5 [.by ⟨some (at0 w4.heap.size), 0, 0⟩ []] _ from H6).apb0 0 (s := ⟨some (at0 w4.heap.size), 0, 0⟩) (src := b) rfl (H6.getD 2) (by simp; omega) fun x w6 H7 => ?_
  have nx := (own_bytes (H7.get 0)).1
  simp only [List.length_map, List.nil_append] at nx
  refine H7.call (around0 at' _ w6 (by omega) h1) ?_
  rintro _ w7 ⟨t, rfl, ht⟩ H8
  refine ⟨_, rfl, by omega, ht, ?_⟩
  refine H8.stb 0 t cb rfl (by simp; omega) fun w8 H9 => H9.dr fun w9 H10 => ⟨?_, ?_, ?_⟩
  · split <;> omega
  · split <;> omega
  have lX : ((encV v).set t cb).length ≤ 100000 := by rw [List.length_set]; omega
  have lY : (encV v ++ [cb]).length ≤ 100000 := by simp only [List.length_append, List.length_singleton]; omega
  have bb : ∀ {w' : World} {L : List En}, LH F0 w1 w' L [ValsE ra va, .rd raw (raws.map byteV), .rd b ((encV v).map byteV)] → Bytes w' b (encV v) := fun H => H.getD 2
  have l1 : ([] : List UInt8).length + (encV v).length ≤ 100000000000000 := by simp only [List.length_nil]; omega
  have l2 : (encV v).length + [cb].length ≤ 100000000000000 := by simp only [List.length_singleton]; omega
  have A : ∀ {w' : World} {L : List En} {K : Post}, LH F0 w1 w' L [ValsE ra va, .rd raw (raws.map byteV), .rd b ((encV v).map byteV)] → (∀ (k : Nat) w'', k ≤ (encV v).length → LH F0 w1 w'' L [ValsE ra va, .rd raw (raws.map byteV), .rd b ((encV v).map byteV)] → K (.returned (.int .i64 (k : Int))) w'') →
      Calls Try.prog n_enthymemeref01_Around #[.int .i64 at', .int .i64 ((b.n : Nat) : Int)] w' K := fun {w'} {L} {K} H' hK => H'.call (around0 at' _ w' (by omega) h1) (by
        rintro _ w'' ⟨k, rfl, hkk⟩ H''
        exact hK k w'' (by omega) H'')
  have N : ∀ {w' : World} {L : List En} {K : World → Prop}, LH F0 w1 w' L [ValsE ra va, .rd raw (raws.map byteV), .rd b ((encV v).map byteV)] → (∀ w'', LH F0 w1 w'' (L ++ [.by ⟨some (at0 w'.heap.size), 0, 0⟩ []]) [ValsE ra va, .rd raw (raws.map byteV), .rd b ((encV v).map byteV)] → K w'') → nwV w' (.cells #[] ty_uint8) K := fun H' hK => H'.nwrow (e := ty_uint8) (sz := 1) (n := 0) (cs := []) rfl (by decide) fun w'' H'' => hK w'' H''
  have C : ∀ {w' : World} {L : List En} {K : World → Prop}, LH F0 w1 w' L [ValsE ra va, .rd raw (raws.map byteV), .rd b ((encV v).map byteV)] → (∀ w'', LH F0 w1 w'' (L ++ [.by ⟨some (at0 w'.heap.size), 1, 1⟩ [cb]]) [ValsE ra va, .rd raw (raws.map byteV), .rd b ((encV v).map byteV)] → K w'') → nwV w' (.cells #[.int .u8 (cb.toNat : Int)] ty_uint8) K := fun H' hK => H'.nwrow (e := ty_uint8) (sz := 1) (n := 1) (cs := [.int .u8 (cb.toNat : Int)]) rfl (by decide) fun w'' H'' => hK w'' H''
  refine ⟨A H10 fun k w11 hk' H11 => ⟨_, rfl, by omega, by omega, N H11 fun w12 H12 => ⟨?_, ?_⟩, C H11 fun w12 H12 => N H12 fun w13 H13 => ?_⟩, ⟨N H10 fun w11 H11 => ⟨A H11 fun k w12 hk' H12 => ⟨_, rfl, by omega, by omega, ?_, ?_⟩, C H11 fun w12 H12 => A H12 fun k w13 hk' H13 => ⟨_, rfl, by omega, by omega, ?_⟩⟩, C H10 fun w11 H11 => ⟨A H11 fun k w12 hk' H12 => ⟨_, rfl, by omega, by omega, N H12 fun w13 H13 => ?_⟩, N H11 fun w12 H12 => A H12 fun k w13 hk' H13 => ⟨_, rfl, by omega, by omega, ?_⟩⟩⟩⟩
  · refine H12.apb0 1 (s := ⟨some (at0 w11.heap.size), 0, 0⟩) (src := b) rfl (bb H12) l1 fun s1 w13 H13 => C H13 fun w14 H14 => ?_
    refine H14.apb0 1 (s := s1) (src := ⟨some (at0 w13.heap.size), 1, 1⟩) rfl (own_bytes (H14.get 2)).rd l2 fun s2 w15 H15 => ?_
    exact fin x s2 _ _ k H15 (by simp) (by simp) lX lY hk'
  · refine C H12 fun w13 H13 => H13.apb0 1 (s := ⟨some (at0 w11.heap.size), 0, 0⟩) (src := b) rfl (bb H13) l1 fun s1 w14 H14 => ?_
    refine H14.apb0 1 (s := s1) (src := ⟨some (at0 w12.heap.size), 1, 1⟩) rfl (own_bytes (H14.get 2)).rd l2 fun s2 w15 H15 => ?_
    exact fin x s2 _ _ k H15 (by simp) (by simp) lX lY hk'
  · refine H13.apb0 2 (s := ⟨some (at0 w12.heap.size), 0, 0⟩) (src := b) rfl (bb H13) l1 fun s1 w14 H14 => ?_
    refine H14.apb0 2 (s := s1) (src := ⟨some (at0 w11.heap.size), 1, 1⟩) rfl (own_bytes (H14.get 1)).rd l2 fun s2 w15 H15 => ?_
    exact fin x s2 _ _ k H15 (by simp) (by simp) lX lY hk'
  · refine H12.apb0 1 (s := ⟨some (at0 w9.heap.size), 0, 0⟩) (src := b) rfl (bb H12) l1 fun s1 w13 H13 => C H13 fun w14 H14 => ?_
    refine H14.apb0 1 (s := s1) (src := ⟨some (at0 w13.heap.size), 1, 1⟩) rfl (own_bytes (H14.get 2)).rd l2 fun s2 w15 H15 => ?_
    exact fin x s2 _ _ k H15 (by simp) (by simp) lX lY hk'
  · refine C H12 fun w13 H13 => H13.apb0 1 (s := ⟨some (at0 w9.heap.size), 0, 0⟩) (src := b) rfl (bb H13) l1 fun s1 w14 H14 => ?_
    refine H14.apb0 1 (s := s1) (src := ⟨some (at0 w12.heap.size), 1, 1⟩) rfl (own_bytes (H14.get 2)).rd l2 fun s2 w15 H15 => ?_
    exact fin x s2 _ _ k H15 (by simp) (by simp) lX lY hk'
  · refine H13.apb0 1 (s := ⟨some (at0 w9.heap.size), 0, 0⟩) (src := b) rfl (bb H13) l1 fun s1 w14 H14 => ?_
    refine H14.apb0 1 (s := s1) (src := ⟨some (at0 w11.heap.size), 1, 1⟩) rfl (own_bytes (H14.get 2)).rd l2 fun s2 w15 H15 => ?_
    exact fin x s2 _ _ k H15 (by simp) (by simp) lX lY hk'
  · refine H13.apb0 2 (s := ⟨some (at0 w12.heap.size), 0, 0⟩) (src := b) rfl (bb H13) l1 fun s1 w14 H14 => ?_
    refine H14.apb0 2 (s := s1) (src := ⟨some (at0 w9.heap.size), 1, 1⟩) rfl (own_bytes (H14.get 1)).rd l2 fun s2 w15 H15 => ?_
    exact fin x s2 _ _ k H15 (by simp) (by simp) lX lY hk'
  · refine H13.apb0 2 (s := ⟨some (at0 w11.heap.size), 0, 0⟩) (src := b) rfl (bb H13) l1 fun s1 w14 H14 => ?_
    refine H14.apb0 2 (s := s1) (src := ⟨some (at0 w9.heap.size), 1, 1⟩) rfl (own_bytes (H14.get 1)).rd l2 fun s2 w15 H15 => ?_
    exact fin x s2 _ _ k H15 (by simp) (by simp) lX lY hk'
theorem enc_small {v : Val} (h : Ro 8 v) : (encV v).length ≤ 10000 := by
  have wf := h.wf (by omega)
  have h1 := encI_len _ wf.k
  have h2 := encI_len _ wf.n
  have h3 := encI_len _ wf.x
  have h4 := encU_len10 _ wf.u
  have hs := h.s
  have hm := h.m
  have h5 := encU_len10 v.s.length (by omega)
  have h6 := encI_len (v.m.length : Int) (by constructor <;> omega)
  have h7 : ∀ l : List Ent, (∀ e ∈ l, e ∈ v.m) → (l.flatMap encE).length ≤ 100 * l.length := by
    intro l
    induction l with
    | nil => intro _; simp
    | cons e l ih =>
      intro hh
      have g := h.e e (hh e (by simp))
      have g1 := encU_len10 _ g.1
      have g2 := encU_len10 _ g.2.1
      have g3 := encU_len10 e.s.length (by omega)
      have g4 := ih fun e he => hh e (by simp [he])
      simp only [List.flatMap_cons, List.length_append, List.length_cons, encE, encR]
      omega
  have h8 := h7 v.m fun e he => he
  unfold encV encH encR
  simp only [List.length_append]
  omega
open enthymemelaw06_ValueBytes in
theorem loop0 (cb : UInt8) (hc : c = (cb.toNat : Int)) (h1 : I64 at') (roa : ∀ p ∈ va, Ro 8 p.1) (na : va.length ≤ 1000) :
    ∀ (d i : Nat) (w1 : World), i + d = va.length → Fr0 w w1 → (ValsE ra va).P w1 → Bytes w1 raw raws → L0T at' raw c ra (i : Int) w1 (Done w) := by
  intro d
  induction d with
  | zero =>
    intro i w1 hi f hva hraw
    have nra := vals_row hva
    refine L0T_step _ _ _ _ _ _ _ (sel_false (decide_eq_false (by omega)) ((l_lives w1).mono ?_))
    rintro _ w2 ⟨rfl, f2⟩
    exact ⟨_, rfl, rfl, f.tr0 f2⟩
  | succ d ih =>
    intro i w1 hi f hva hraw
    have nra := vals_row hva
    have hv : va[i]? = some (va[i]'(by omega)) := List.getElem?_eq_getElem (by omega)
    have rv := roa _ (List.mem_of_getElem? hv)
    generalize va[i]'(by omega) = p at hv rv
    obtain ⟨v, sv⟩ := p
    have rv : Ro 8 v := rv
    have hm8 := rv.m
    have wf := rv.wf (by omega)
    have hsm := enc_small rv
    have next : ∀ w2, Fr0 w w2 → (ValsE ra va).P w2 → Bytes w2 raw raws → S3T at' raw c ra (i : Int) w2 (Done w) := fun w2 f2 a2 b2 => by
      show L0T _ _ _ _ (IntKind.wrap .i64 ((i : Int) + 1)) _ _
      rw [i64_next _ (by omega)]
      exact ih (i + 1) w2 (by omega) f2 a2 b2
    have H : LH F0 w1 w1 [] [ValsE ra va, .rd raw (raws.map byteV)] := lh0 _ (by
      intro e he
      simp only [List.mem_cons, List.not_mem_nil, or_false] at he
      rcases he with rfl | rfl
      · exact hva
      · exact hraw)
    refine L0T_step _ _ _ _ _ _ _ (sel_true (decide_eq_true (by omega)) ⟨by omega, by omega, ?_⟩)
    refine val_at (H.getD 0) hv fun p hp cc => ⟨_, _, _, _, _, _, cc.c0, cc.c1, cc.c2, cc.c3, cc.c4, cc.c5, H.call (r_Valid v sv w1 (val_ents (H.getD 0) hv) (by omega)) ?_⟩
    rintro _ w2 rfl H2
    refine ⟨_, rfl, by omega, by omega, ?_⟩
    refine val_at (H2.getD 0) hv fun p hp cc => ⟨_, _, _, _, _, _, cc.c0, cc.c1, cc.c2, cc.c3, cc.c4, cc.c5, H2.callq (l_own v sv w2 (val_ents (H2.getD 0) hv) (by omega)) ?_⟩
    rintro _ w3 ⟨so, rfl, oo, no⟩ _ F3
    have H3 := F3.rd (EntsD so v.m) oo.rdn (rdn_fp no)
    refine ⟨_, _, _, _, _, _, rfl, H3.callq (c_Encode v so w3 (H3.getD 2) (by omega) fun _ => wf) ?_⟩
    rintro _ w4 ⟨b, rfl, ob, nb⟩ _ F4
    have H4 := F4.rd (.rd b _) ob.rd (rd_fp nb)
    refine ⟨_, _, rfl, by omega, by omega, ?_⟩
    refine val_at (H4.getD 0) hv fun p hp cc => ⟨_, _, _, _, _, _, cc.c0, cc.c1, cc.c2, cc.c3, cc.c4, cc.c5, H4.callq (r_Encode v sv w4 (val_ents (H4.getD 0) hv) wf) ?_⟩
    rintro _ w5 ⟨se, rfl, oe, ne⟩ _ F5
    have H5 := F5.rd (.rd se _) oe.rd (rd_fp ne)
    refine ⟨_, rfl, H5.callq (c_Decode (encV v) se w5 (H5.getD 4) (by omega)) ?_⟩
    rintro _ w6 ⟨sd, rfl, od, nd⟩ _ F6
    have H6 := F6.rd (EntsD sd (decV (encV v)).2.m) od.rdn (rdn_fp nd)
    have dec := decV_any wf
    refine ⟨_, _, _, _, _, _, _, rfl, H6.newg fun b21 w7 H7 => sel_false (by simp) ?_⟩
    by_cases hok : validV v = 0
    · rw [if_neg (by simpa using hok)] at dec
      rw [if_pos hok] at H7
      rw [dec] at H7 ⊢
      rw [hok]
      refine sel_true rfl (sel_false rfl (H7.locg fun w8 H8 => H8.callg (same_bytes (show Bytes w8 b (encV v) from H8.getD 3) (show Bytes w8 se (encV v) from H8.getD 4) (by omega)) ?_))
      rintro _ w9 rfl H9
      refine ⟨_, rfl, sel_false (by simp) ⟨by omega, by omega, ?_⟩⟩
      refine val_at (H9.getD 0) hv fun p hp cc => ⟨_, _, _, _, _, _, cc.c0, cc.c1, cc.c2, cc.c3, cc.c4, cc.c5, H9.callr (l_plain v sd w9 (H9.getD 5) (by omega)) ?_⟩
      rintro _ w10 ⟨sp, rfl, op, np⟩ _ F10
      have H10 := F10.rd (EntsD sp v.m) op.rdn (rdn_fp np)
      have cc := vcells (H10.getD 0) hv hp
      refine ⟨_, _, _, _, _, _, rfl, cc.c0, cc.c1, cc.c2, cc.c3, cc.c4, cc.c5, H10.callg (r_Same v v (H10.getD 6) (val_ents (H10.getD 0) hv) (rv.sm (by omega))) ?_⟩
      rintro _ w11 rfl H11
      exact ⟨_, rfl, sel_false (by rw [cmpV_self]; rfl) (sel_false rfl (mid i cb hc h1 v sv b hv wf hsm next (f.tr0 H11.fr) (H11.getD 0) (H11.getD 1) (H11.getD 3)))⟩
    · rw [if_pos hok] at dec
      rw [if_neg hok] at H7 ob
      rw [dec]
      have nb0 := ob.1
      simp only [List.map_nil, List.length_nil] at nb0
      refine sel_false (by simpa using hok) (sel_true (by simpa using hok) (sel_false rfl (sel_false (by rw [nb0]; rfl) (H7.locg fun w8 H8 => ?_))))
      exact sel_true (by simpa using hok) (next w8 (f.tr0 H8.fr) (H8.getD 0) (H8.getD 1))
end
theorem walk (n : Int) (l : Sl) (at' how by' : Int) (raw : Sl) (c : Int) (w : World) (hn : I64 n) (hl : ArgNums w l) (h1 : I64 at') (h2 : I64 how) (h3 : I64 by') (hr : ArgBytes w raw) (hc : 0 ≤ c ∧ c ≤ 255) :
    Calls Try.prog n_enthymemelaw06_ValueBytes #[.int .i64 n, l.v, .int .i64 at', .int .i64 how, .int .i64 by', raw.v, .int .u8 c] w fun r w' => r = .returned (.bool true) ∧ Fr0 w w' := by
  obtain ⟨xs, hls, _, hx⟩ := hl
  obtain ⟨raws, hrs, _⟩ := hr
  refine enthymemelaw06_ValueBytes.okT _ _ _ _ _ _ _ w _ ((lh0 [.rd raw (raws.map byteV)] (by simp only [List.mem_cons, List.not_mem_nil, or_false]; rintro e rfl; exact hrs)).callq (r_some n hn l xs at' how by' h1 h2 h3 w hls hx) ?_)
  rintro _ w1 ⟨s, vs, four, row, rfl, hrow, nrow⟩ _ F1
  have H1 := F1.rd (ValsE row vs) hrow nrow
  have h4 := four.len
  refine ⟨_, rfl, loop0 (UInt8.ofNat c.toNat) ?_ h1 (fun p hp => four.ro p hp) (by omega) vs.length 0 w1 (by omega) H1.fr (H1.getD 1) (H1.getD 0)⟩
  rw [UInt8.toNat_ofNat']
  omega
end Byt1
end Go.Proofs.Ytjjhfdjpmonlaaa

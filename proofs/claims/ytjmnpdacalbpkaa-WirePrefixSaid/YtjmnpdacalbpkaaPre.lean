/- enthymemelaw02.WirePrefix returns true for every input and writes nothing that was there before. -/
import Derived.Test.YtjmnpdacalbpkaaWP
import Derived.Test.YtjmnpdacalbpkaaVJ
namespace Go.Proofs.Ytjmnpdacalbpkaa
open Go Go.W
namespace Pre
/-- after the loop -/
theorem fin {w0 w : World} {cut : Int} (hcut : I64 cut) (F : Fr0 w0 w) {rb lb : Nat} {fp lp : List Nat} {st : RS} {c : UInt8} (he : st.err = 3) (hr : RdRep w rb st fp) (hl : RdRep w lb ⟨[c], 0⟩ lp) (hfp : ∀ x ∈ fp, w0.heap.size ≤ x) :
    enthymemelaw02_WirePrefix.S16 cut (some (at0 rb)) (some (at0 lb)) w fun r w' => r = .returned (.bool true) ∧ Fr0 w0 w' := by
  have e3 : rdEnd st = 3 := by unfold rdEnd; rw [he]; rfl
  have ne : st.err ≠ 0 := by rw [he]; decide
  refine (r_end hr).mono ?_
  rw [e3]
  rintro r w1 ⟨rfl, f1⟩
  refine ⟨_, rfl, sel_false rfl ((r_end (hl.fr0 f1)).mono ?_)⟩
  rintro r w2 ⟨rfl, f2⟩
  refine ⟨_, rfl, sel_false rfl ((around_any cut 6 w2 (by omega) hcut).mono ?_)⟩
  rintro r w3 ⟨rfl, rfl⟩
  generalize aroundI cut 6 = k
  have r2 := hr.fr0 (f1.tr0 f2)
  refine ⟨_, rfl, (l_read r2 k).mono ?_⟩
  rw [rdV_err ne]
  rintro r w3 ⟨v, rfl, v3, r3, f3⟩
  refine ⟨_, _, _, _, _, rfl, ?_⟩
  intro w4
  have f4 : Fr0 w3 w4 := Fr.alloc _ _ _
  have hs4 : w4.heap.size = w3.heap.size + 1 := size_alloc _ _
  have F3 : Fr0 w0 w3 := fr_at (F.tr0 (f1.tr0 f2)) (hfp rb hr.mem) f3
  have d4 : w4.heap[w3.heap.size]? = some (.cells #[.int .i64 0, .int .u64 0, .int .i64 0, .slice none 0 0, .slice none 0 0] ty_enthymemeref02_Val (0, 0)) := heap_new _ _
  refine init5 d4 _ _ _ _ _ (fun w5 => enthymemelaw02_WirePrefix.S19 (some (at0 rb)) (at0 w3.heap.size) w5 _) fun w5 d5 g5 => ?_
  have hs3 := F3.size
  have F5 : Fr0 w3 w5 := f4.trn g5 fun x e => by omega
  refine ⟨_, _, _, _, _, cellAt (p := at0 w3.heap.size) d5 rfl rfl, cellAt (p := at0 w3.heap.size) d5 rfl rfl, cellAt (p := at0 w3.heap.size) d5 rfl rfl, cellAt (p := at0 w3.heap.size) d5 rfl rfl, cellAt (p := at0 w3.heap.size) d5 rfl rfl, _, cellAt (p := at0 w3.heap.size) d5 rfl rfl, ?_⟩
  have nb : ∀ {y : Nat}, y ∈ blkL (⟨none, 0, 0⟩ : Sl) → False := fun h => by simp [blkL] at h
  refine (l_same (c := v) (d := ⟨v.k, 0, 0, ⟨none, 0, 0⟩, ⟨none, 0, 0⟩⟩) (b := ⟨k, 0, 0, [], []⟩) (B := fun _ => True) (v3.fr0 F5) ⟨v3.k, rfl, rfl, Rd.nil _, Rd.nil _, fun y hy => (nb hy).elim, fun y hy => (nb hy).elim⟩ (by simp) (by simp)).mono ?_
  rintro r w6 ⟨rfl, f6⟩
  refine ⟨_, rfl, sel_true (by simp) ((r_end ((r3.fr0 F5).fr0 f6)).mono ?_)⟩
  rw [e3]
  rintro r w7 ⟨rfl, f7⟩
  refine ⟨_, rfl, sel_true rfl ((lives_any w7).mono ?_)⟩
  rintro r w8 ⟨rfl, f8⟩
  exact ⟨_, rfl, rfl, F3.tr0 (F5.tr0 (f6.tr0 (f7.tr0 f8)))⟩
theorem loop {w0 : World} {A : Nat → Prop} {all : Sl} {vs : List V} {cut : Int} {c : UInt8} (hcut : I64 cut) (hl : vs.length ≤ 1000) {rb lb : Nat} {fp lp : List Nat} (hfp : ∀ x ∈ fp, w0.heap.size ≤ x) (hlp : ∀ x ∈ lp, w0.heap.size ≤ x) (ha : ∀ x, A x → x ∉ fp ∧ x ∉ lp) (hd : ∀ x ∈ fp, x ∉ lp) (hrb : rb ∈ fp) (hlb : lb ∈ lp) (st0 st1 : RS) (h0 : (rdVs st0 vs).err = 3) (h1 : rdVs st1 vs = ⟨[c], 0⟩) :
    ∀ (d i : Nat), i + d = vs.length → ∀ (w : World) (st sl : RS), Fr0 w0 w → RdVals A w all vs → RdRep w rb st fp → RdRep w lb sl lp → rdVs st (vs.drop i) = rdVs st0 vs → rdVs sl (vs.drop i) = rdVs st1 vs →
      enthymemelaw02_WirePrefix.L11 cut all (some (at0 rb)) (some (at0 lb)) (i : Int) w fun r w' => r = .returned (.bool true) ∧ Fr0 w0 w' := by
  intro d
  induction d with
  | zero =>
    intro i hi w st sl F hv hr hll e0 e1
    rw [List.drop_of_length_le (by omega)] at e0 e1
    rw [h1] at e1
    simp only [rdVs] at e0 e1
    rw [e1] at hll
    exact enthymemelaw02_WirePrefix.L11_step _ _ _ _ _ _ _ (sel_false (decide_eq_false (by rw [hv.len]; omega)) (fin hcut F (by rw [e0]; exact h0) hr hll hfp))
  | succ d ih =>
    intro i hi w st sl F hv hr hll e0 e1
    have hlt : i < vs.length := by omega
    have hg : vs[i]? = some vs[i] := List.getElem?_eq_getElem hlt
    rw [List.drop_eq_getElem_cons hlt] at e0 e1
    simp only [rdVs] at e0 e1
    generalize vs[i] = v at hg e0 e1
    obtain ⟨p, vc, hp, hc, hx⟩ := hv.elem3 hg
    have xw := hx _ _ (Fr.refl (fun _ => False) w) (fun _ _ h => h)
    refine enthymemelaw02_WirePrefix.L11_step _ _ _ _ _ _ _ (sel_true (decide_eq_true (by rw [hv.len]; omega)) ⟨by omega, by rw [hv.len]; omega, optP_mk hp ⟨_, xw 0 _ rfl, ?_⟩⟩)
    rw [hc.k]
    refine (l_read hr v.kind).mono ?_
    rintro r w1 ⟨c1, rfl, v1, r1, f1⟩
    have n1 : ∀ x, A x → ¬ x = rb := fun x hx e => (ha x hx).1 (e ▸ hrb)
    have x1 := hx _ _ f1 n1
    have hv1 := hv.fr f1 n1
    have ll1 := hll.fr f1 fun x hx e => hd rb hrb (e ▸ hx)
    refine ⟨_, _, _, _, _, rfl, by omega, by rw [hv.len]; omega, optP_mk hp ⟨_, x1 0 _ rfl, ?_⟩⟩
    rw [hc.k]
    refine (l_read ll1 v.kind).mono ?_
    rintro r w2 ⟨c2, rfl, v2, r2, f2⟩
    have n2 : ∀ x, A x → ¬ x = lb := fun x hx e => (ha x hx).2 (e ▸ hlb)
    refine ⟨_, _, _, _, _, rfl, ?_⟩
    show enthymemelaw02_WirePrefix.L11 cut all (some (at0 rb)) (some (at0 lb)) (IntKind.wrap .i64 ((i : Int) + 1)) w2 _
    rw [i64_next i (by omega)]
    exact ih (i + 1) (by omega) w2 _ _ (fr_at (fr_at F (hfp rb hrb) f1) (hlp lb hlb) f2) (hv1.fr f2 n2) (r1.fr f2 fun x hx e => hd x hx (e ▸ hlb)) r2 e0 e1
theorem walk (ls : Sl) (cut c : Int) (w : World) (hls : ArgNums w ls) (hcut : I64 cut) (hc : 0 ≤ c ∧ c ≤ 255) :
    Calls Try.prog n_enthymemelaw02_WirePrefix #[ls.v, .int .i64 cut, .int .u8 c] w fun r w' => r = .returned (.bool true) ∧ Fr0 w w' := by
  obtain ⟨l, hls, _, hli⟩ := hls
  obtain ⟨cb, hcb⟩ : ∃ cb : UInt8, c = (cb.toNat : Int) := ⟨UInt8.ofNat c.toNat, by simp; omega⟩
  subst hcb
  refine enthymemelaw02_WirePrefix.ok _ _ _ w _ ((r_vals hls hli).mono ?_)
  rintro r w1 ⟨all, vs, rfl, hl, hg, f1, o1⟩
  have ok : ∀ v ∈ vs, v.Ok := fun v hv => (hg v hv).ok
  refine ⟨all, rfl, (l_encode o1.rd ok (by omega) (fun x hx => hx.2)).mono ?_⟩
  rintro r w2 ⟨b, rfl, b2, f2, n2⟩
  have hfl := flatV_len vs ok
  have hbn := Bytes.len b2.rd
  have s1 := f1.size
  have s2 := f2.size
  refine ⟨b, rfl, sel_intro (fun h => ?_) (fun h => ?_)⟩
  · refine (r_read (Rd.nil w2) (bs := []) (by simp)).mono ?_
    rintro r w3 ⟨rb, fp, rfl, r3, f3, n3⟩
    refine ⟨_, rfl, sel_true rfl ((r_end r3).mono ?_)⟩
    rintro r w4 ⟨rfl, f4⟩
    refine ⟨_, rfl, sel_true rfl ((lives_any w4).mono ?_)⟩
    rintro r w5 ⟨rfl, f5⟩
    exact ⟨_, rfl, rfl, f1.tr0 (f2.tr0 (f3.tr0 (f4.tr0 f5)))⟩
  · have hpos : 0 < (vs.flatMap encV).length := by
      rw [← hbn]
      have : ¬ ((b.n : Nat) : Int) = 0 := by simpa using h
      omega
    refine (around_any cut ((b.n : Nat) : Int) w2 (by omega) hcut).mono ?_
    rintro r w3 ⟨rfl, rfl⟩
    have hr := aroundI_range cut ((b.n : Nat) : Int) (by omega)
    generalize aroundI cut ((b.n : Nat) : Int) = m0 at hr
    obtain ⟨m, rfl⟩ := Int.eq_ofNat_of_zero_le hr.1
    have hcap := b2.2.cap
    refine ⟨_, rfl, by omega, by omega, ?_⟩
    have hsub := Bytes.sub b2.rd 0 m (by omega) (by omega)
    rw [List.drop_zero] at hsub
    refine (r_read (s := sub b 0 m) hsub (by simp; omega)).mono ?_
    rintro r w3 ⟨rb, fp, rfl, r3, f3, n3⟩
    have b3 := b2.fr0 f3
    refine ⟨_, rfl, (few_any b3.rd b.n (by omega)).mono ?_⟩
    rintro r w4 ⟨t, rfl, t4, f4, n4⟩
    rw [List.take_of_length_le (by omega)] at t4
    refine ⟨t, rfl, ?_⟩
    intro w5
    have f5 : Fr0 w4 w5 := Fr.alloc _ _ _
    obtain ⟨t', w6, g1, g2, g3, g4⟩ := grow_bytes (src := ⟨some ⟨w4.heap.size, 0, none⟩, 1, 1⟩) (w0 := w3) (f4.tr0 f5) (t4.fr0 f5) n4 (one_byte w4 cb) (by rw [List.length_singleton]; omega)
    refine ⟨t', w6, g1, (r_read g2.rd (by rw [List.length_append, List.length_singleton]; omega)).mono ?_⟩
    rintro r w7 ⟨lb, lp, rfl, r7, f7, n7⟩
    have s3 := f3.size
    have s6 := g3.size
    have F7 : Fr0 w3 w7 := g3.tr0 f7
    have cutp : (rdVs ⟨(vs.flatMap encV).take m, 0⟩ vs).err = 3 := rdVs_cut vs _ ((vs.flatMap encV).drop m) hg (List.take_append_drop _ _).symm (fun h => by have := congrArg List.length h; rw [List.length_drop, List.length_nil] at this; omega)
    refine ⟨_, rfl, sel_false rfl (sel_false rfl ?_)⟩
    exact loop (A := fun x => w.heap.size ≤ x ∧ x < w1.heap.size) hcut (by omega) (fun x hx => by have := n3 x hx; omega) (fun x hx => by have := n7 x hx; omega) (fun x hx => ⟨fun hm => by have := n3 x hm; omega, fun hm => by have := n7 x hm; omega⟩) (fun x hx hm => by have := n7 x hm; have := r3.lt x hx; omega) r3.mem r7.mem ⟨(vs.flatMap encV).take m, 0⟩ ⟨vs.flatMap encV ++ [cb], 0⟩ cutp (rdVs_full vs [cb] hg)
      vs.length 0 (by omega) w7 _ _ (f1.tr0 (f2.tr0 (f3.tr0 F7))) (o1.rd.fr0 (f2.tr0 (f3.tr0 F7))) (r3.fr0 F7) r7 rfl rfl
end Pre
end Go.Proofs.Ytjmnpdacalbpkaa

/- enthymemelaw02.WireReads returns true for every input and writes nothing that was there before. -/
import Derived.Test.YtjmnpdacalbpkaaRH
import Derived.Test.YtjmnpdacalbpkaaOne
import Derived.Test.YtjmnpdacalbpkaaVG
namespace Go.Proofs.Ytjmnpdacalbpkaa
open Go Go.W
namespace Rea
/-- the reads of one reader, side by side -/
theorem l13 {w0 : World} {ks all : Sl} {kl : List Int} {i : Nat} (hks : Nums w0 ks kl) (hki : ∀ x ∈ kl, I64 x) {rb qb : Nat} {fp D : List Nat} (hfp : ∀ x ∈ fp, w0.heap.size ≤ x) (hqb : w0.heap.size ≤ qb) (hqf : qb ∉ fp) (hDf : ∀ x ∈ D, x ∉ fp) (R : Post)
    (hR : ∀ w', Fr (fun x => x ∈ fp ∨ x = qb) w0 w' → enthymemelaw02_WireReads.S19 ks all (i : Int) w' R) :
    ∀ (d k : Nat), k + d = 10 → ∀ (w : World) (st : RS), st.bs.length ≤ 1000 → Fr (fun x => x ∈ fp ∨ x = qb) w0 w → (∀ x ∈ D, x < w.heap.size) → RdRep w rb st fp → RfRep w qb st D → enthymemelaw02_WireReads.L13 ks all (i : Int) (some (at0 rb)) (at0 qb) (k : Int) w R := by
  have hn := Nums.len hks
  have ksf : ∀ {w : World}, Fr (fun x => x ∈ fp ∨ x = qb) w0 w → Nums w ks kl := fun {w} F => by
    refine hks.fr0 (F.new fun x hx hm => ?_)
    rcases hm with h | h
    · have := hfp x h; omega
    · omega
  intro d
  induction d with
  | zero =>
    intro k hk w st hsm F hD hr hq
    exact enthymemelaw02_WireReads.L13_step _ _ _ _ _ _ _ _ (sel_intro (fun h => sel_false (decide_eq_false (by omega)) (hR w F)) (fun h => hR w F))
  | succ d ih =>
    intro k hk w st hsm F hD hr hq
    refine enthymemelaw02_WireReads.L13_step _ _ _ _ _ _ _ _ (sel_intro (fun h => sel_true (decide_eq_true (by omega)) ?_) (fun h => hR w F))
    have hlt : k < kl.length := by have := of_decide_eq_true h; omega
    have hg : kl[k]? = some kl[k] := List.getElem?_eq_getElem hlt
    refine ⟨by omega, by omega, Nums.cell (ksf F) hg (by rw [Int.toNat_natCast]) fun p _ hp => ⟨_, hp, (around_any _ 6 w (by omega) (hki _ (List.getElem_mem hlt))).mono ?_⟩⟩
    rintro r w1 ⟨rfl, rfl⟩
    generalize aroundI kl[k] 6 = kd
    refine ⟨_, rfl, (l_read hr kd).mono ?_⟩
    rintro r w1 ⟨c, rfl, v1, r1, f1⟩
    have hrb := hr.mem
    have s1 := f1.size
    have q1 := hq.fr f1 (fun e => hqf (e ▸ hrb)) fun x hx e => hDf x hx (e ▸ hrb)
    refine ⟨_, _, _, _, _, rfl, (f_read q1 (fun x hx => by have := hD x hx; omega) kd).mono ?_⟩
    rintro r w2 ⟨c2, rfl, v2, q2, f2⟩
    have s2 := f2.size
    have hql := hq.lt
    have vok := rdV_ok st kd hsm
    have hb := vok.b
    have hl := vok.l
    have v1' := v1.fr f2 fun x hx e => by omega
    have r2 := r1.fr f2 fun x hx e => hqf (e ▸ hx)
    refine ⟨_, _, _, _, _, rfl, (l_same (c := c) (d := c2) v1' v2 (by omega) (by omega)).mono ?_⟩
    rintro r w3 ⟨rfl, f3⟩
    refine ⟨_, rfl, sel_false (by simp) ((r_end (r2.fr0 f3)).mono ?_)⟩
    rintro r w4 ⟨rfl, f4⟩
    refine ⟨_, rfl, (f_end ((q2.fr0 f3).fr0 f4)).mono ?_⟩
    rintro r w5 ⟨rfl, rfl⟩
    have f34 : Fr0 w2 w4 := f3.tr0 f4
    have s4 := f34.size
    refine ⟨_, rfl, sel_false (by simp) ?_⟩
    show enthymemelaw02_WireReads.L13 ks all (i : Int) (some (at0 rb)) (at0 qb) (IntKind.wrap .i64 ((k : Int) + 1)) w4 R
    rw [i64_next k (by omega)]
    exact ih (k + 1) (by omega) w4 _ (Nat.le_trans (rdV_small st kd) hsm) (((F.trans f1 fun x _ e => .inl (e ▸ hrb)).trans f2 fun x _ e => .inr e).tr0 f34) (fun x hx => by have := hD x hx; omega) (r2.fr0 f34) (q2.fr0 f34)
/-- the two byte slices -/
theorem l6 {w0 : World} {ks : Sl} {kl : List Int} {ab : Nat} {s0 s1 : Sl} {b0 b1 : List UInt8} (hks : Nums w0 ks kl) (hki : ∀ x ∈ kl, I64 x) (hb0 : b0.length ≤ 1000) (hb1 : b1.length ≤ 1000) :
    ∀ (d i : Nat), i + d = 2 → ∀ (w : World), Fr0 w0 w → w.heap[ab]? = some (.cells #[s0.v, s1.v] ty_sl_uint8 (0, 0)) → Bytes w s0 b0 → Bytes w s1 b1 → (∀ x ∈ blkL s0, x < w.heap.size) → (∀ x ∈ blkL s1, x < w.heap.size) →
      enthymemelaw02_WireReads.L6 ks ⟨some (at0 ab), 2, 2⟩ (i : Int) w fun r w' => r = .returned (.bool true) ∧ Fr0 w0 w' := by
  intro d
  induction d with
  | zero =>
    intro i hi w F ha h0 h1 l0 l1
    refine enthymemelaw02_WireReads.L6_step _ _ _ _ _ (sel_false (decide_eq_false (by omega)) ((lives_any w).mono ?_))
    rintro r w1 ⟨rfl, f1⟩
    exact ⟨_, rfl, rfl, F.tr0 f1⟩
  | succ d ih =>
    intro i hi w F ha h0 h1 l0 l1
    obtain ⟨s, b, hs, hb, hc, hl, hlt⟩ : ∃ (s : Sl) (b : List UInt8), (i = 0 ∧ s = s0 ∨ i = 1 ∧ s = s1) ∧ Bytes w s b ∧ (∀ w' : World, w'.heap[ab]? = some (.cells #[s0.v, s1.v] ty_sl_uint8 (0, 0)) → w'.cell? ((at0 ab).add (Int.toNat (i : Int) * 1)) = some s.v) ∧ b.length ≤ 1000 ∧ ∀ x ∈ blkL s, x < w.heap.size := by
      have : i = 0 ∨ i = 1 := by omega
      rcases this with rfl | rfl
      · exact ⟨s0, b0, .inl ⟨rfl, rfl⟩, h0, fun w' h => cellAt (p := at0 ab) h rfl rfl, hb0, l0⟩
      · exact ⟨s1, b1, .inr ⟨rfl, rfl⟩, h1, fun w' h => cellAt (p := at0 ab) h rfl rfl, hb1, l1⟩
    refine enthymemelaw02_WireReads.L6_step _ _ _ _ _ (sel_true (decide_eq_true (by omega)) ⟨by omega, by show (i : Int) < 2; omega, s, hc w ha, (r_read hb (by omega)).mono ?_⟩)
    rintro r w1 ⟨rb, fp, rfl, r1, f1, n1⟩
    have ha1 := f1.at ha id
    refine ⟨_, rfl, by omega, by show (i : Int) < 2; omega, s, hc w1 ha1, ?_⟩
    intro w2
    have f2 : Fr0 w1 w2 := Fr.alloc _ _ _
    have hs2 : w2.heap.size = w1.heap.size + 1 := size_alloc _ _
    have hs1 := f1.size
    have hs0 := F.size
    have lt1 := r1.lt
    have q2 : RfRep w2 w1.heap.size ⟨b, 0⟩ (blkL s) := ⟨s, fun x hx => hx, fun hm => by have := hlt _ hm; omega, heap_new _ _, hb.fr0 (f1.tr0 f2), by simp only; omega⟩
    refine sel_false rfl ?_
    refine l13 (w0 := w) (rb := rb) (qb := w1.heap.size) (fp := fp) (D := blkL s) (hks.fr0 F) hki n1 hs1 (fun hm => by have := lt1 _ hm; omega) (fun x hx hm => by have := hlt x hx; have := n1 x hm; omega) _ (fun w' F' => ?_) 10 0 (by omega) w2 _ (by simp only; omega) ((f1.tr0 f2).of0) (fun x hx => by have := hlt x hx; omega) (r1.fr0 f2) q2
    have F0 : Fr0 w w' := F'.new fun x hx hm => by
      rcases hm with h | h
      · have := n1 x h; omega
      · omega
    have hs' := F0.size
    show enthymemelaw02_WireReads.L6 ks ⟨some (at0 ab), 2, 2⟩ (IntKind.wrap .i64 ((i : Int) + 1)) w' _
    rw [i64_next i (by omega)]
    exact ih (i + 1) (by omega) w' (F.tr0 F0) (F0.at ha id) (h0.fr0 F0) (h1.fr0 F0) (fun x hx => by have := l0 x hx; omega) (fun x hx => by have := l1 x hx; omega)
theorem s4 {w0 w : World} {raw ks turned : Sl} {rl tl : List UInt8} {kl : List Int} (F : Fr0 w0 w) (hraw : Bytes w0 raw rl) (hks : Nums w0 ks kl) (hki : ∀ x ∈ kl, I64 x) (ht : BytesO w turned tl) (hl : tl.length ≤ 1000) :
    enthymemelaw02_WireReads.S4 raw ks turned w fun r w' => r = .returned (.bool true) ∧ Fr0 w0 w' := by
  refine (few_any (hraw.fr0 F) 60 (by omega)).mono ?_
  rintro r w1 ⟨few, rfl, b1, f1, n1⟩
  refine ⟨few, rfl, ?_⟩
  intro w2
  have f2 : Fr0 w1 w2 := Fr.alloc _ _ _
  have hs2 : w2.heap.size = w1.heap.size + 1 := size_alloc _ _
  have hs1 := f1.size
  exact l6 (ab := w1.heap.size) hks hki (by simp; omega) hl 2 0 (by omega) w2 (F.tr0 (f1.tr0 f2)) (heap_new _ _) (b1.fr0 f2).rd (ht.fr0 (f1.tr0 f2)).rd (fun x hx => by have := b1.lt x hx; omega) (fun x hx => by have := ht.lt x hx; omega)
theorem walk (raw ls : Sl) (at' c : Int) (ks : Sl) (w : World) (hraw : ArgBytes w raw) (hls : ArgNums w ls) (hat : I64 at') (hc : 0 ≤ c ∧ c ≤ 255) (hks : ArgNums w ks) :
    Calls Try.prog n_enthymemelaw02_WireReads #[raw.v, ls.v, .int .i64 at', .int .u8 c, ks.v] w fun r w' => r = .returned (.bool true) ∧ Fr0 w w' := by
  obtain ⟨l, hls, _, hli⟩ := hls
  obtain ⟨rl, hraw, _⟩ := hraw
  obtain ⟨kl, hks, _, hki⟩ := hks
  obtain ⟨cb, hcb⟩ : ∃ cb : UInt8, c = (cb.toNat : Int) := ⟨UInt8.ofNat c.toNat, by simp; omega⟩
  subst hcb
  refine enthymemelaw02_WireReads.ok _ _ _ _ _ w _ ((r_vals hls hli).mono ?_)
  rintro r w1 ⟨vals, vs, rfl, hl, hg, f1, o1⟩
  refine ⟨vals, rfl, (e_encode o1.rd (fun v hv => (hg v hv).ok) (by omega)).mono ?_⟩
  rintro r w2 ⟨b, rfl, b2, f2, n2⟩
  have hfl := One.gens_len vs hg
  have hbn := Bytes.len b2.rd
  have s1 := f1.size
  refine ⟨b, rfl, sel_intro (fun h => ?_) (fun h => s4 (f1.tr0 f2) hraw hks hki b2 (by omega))⟩
  have hpos := of_decide_eq_true h
  refine (around_any at' ((b.n : Nat) : Int) w2 (by omega) hat).mono ?_
  rintro r w3 ⟨rfl, rfl⟩
  have hr := aroundI_range at' ((b.n : Nat) : Int) (by omega)
  generalize aroundI at' ((b.n : Nat) : Int) = m0 at hr
  obtain ⟨m, rfl⟩ := Int.eq_ofNat_of_zero_le hr.1
  obtain ⟨p, hp, _, a1, a2, a3, a4⟩ := ow_set b2 m (by rw [List.length_map]; omega) (byteV cb)
  refine ⟨_, rfl, by omega, by omega, optP_mk hp ?_⟩
  rw [Int.toNat_natCast, Nat.mul_one]
  exact ⟨a1, a2, s4 (tl := (vs.flatMap encV).set m cb) (fr_own (f1.tr0 f2) (fun x hx => by have := n2 x hx; omega) a4) hraw hks hki (by unfold BytesO; rw [List.map_set]; exact a3) (by rw [List.length_set]; omega)⟩
end Rea
end Go.Proofs.Ytjmnpdacalbpkaa

/- enthymemelaw02.WireRound returns true for every input and writes nothing that was there before. -/
import Derived.Test.YtjmnpdacalbpkaaWX
import Derived.Test.YtjmnpdacalbpkaaVH
namespace Go.Proofs.Ytjmnpdacalbpkaa
open Go Go.W

theorem RdVals.elem2 {A : Nat → Prop} {w : World} {s : Sl} {vs : List V} (h : RdVals A w s vs) {i : Nat} {v : V} (hi : vs[i]? = some v) {K : Addr → Prop}
    (hk : ∀ p c, VIs A w c v → (∀ (M : Nat → Prop) (w' : World), Fr M w w' → (∀ x, A x → ¬ M x) → ∀ j x, (vcells c)[j]? = some x → w'.cell? ((p.add (Int.toNat (i : Int) * 5)).add j) = some x) → K p) : W.optP s.a K := by
  obtain ⟨cs, h1, _, h3, h4, h5⟩ := h
  obtain ⟨c, hc, hv⟩ := h4.get' hi
  refine h3.elem (sz := 5) (fun _ => rfl) (by omega) hc fun p hp hx => hk p c hv fun M w' f hn j x hj => ?_
  rw [Int.toNat_natCast]
  refine cell_fr f (hx j x hj) ?_
  rw [add_block, add_block]
  exact hn _ (h5 _ (by simp [blkL, hp]))
/-- the same address for two readings -/
theorem RdVals.elem3 {A : Nat → Prop} {w : World} {s : Sl} {vs : List V} (h : RdVals A w s vs) {i : Nat} {v : V} (hi : vs[i]? = some v) :
    ∃ p c, s.a = some p ∧ VIs A w c v ∧ (∀ (M : Nat → Prop) (w' : World), Fr M w w' → (∀ x, A x → ¬ M x) → ∀ j x, (vcells c)[j]? = some x → w'.cell? ((p.add (Int.toNat (i : Int) * 5)).add j) = some x) := by
  have : W.optP s.a fun p => ∃ c, s.a = some p ∧ VIs A w c v ∧ (∀ (M : Nat → Prop) (w' : World), Fr M w w' → (∀ x, A x → ¬ M x) → ∀ j x, (vcells c)[j]? = some x → w'.cell? ((p.add (Int.toNat (i : Int) * 5)).add j) = some x) := by
    obtain ⟨cs, h1, _, h3, h4, h5⟩ := h
    obtain ⟨c, hc, hv⟩ := h4.get' hi
    refine h3.elem (sz := 5) (fun _ => rfl) (by omega) hc fun p hp hx => ⟨c, hp, hv, fun M w' f hn j x hj => ?_⟩
    rw [Int.toNat_natCast]
    refine cell_fr f (hx j x hj) ?_
    rw [add_block, add_block]
    exact hn _ (h5 _ (by simp [blkL, hp]))
  obtain ⟨p, hp, c, hc⟩ := optP_elim this
  exact ⟨p, c, hc⟩
theorem optP_mk {q : Option Addr} {p : Addr} {K : Addr → Prop} (h : q = some p) (hk : K p) : W.optP q K := by subst h; exact hk
theorem rdV_enc (v : V) (h : v.Gen) (r : List UInt8) : rdV ⟨encV v ++ r, 0⟩ v.kind = (v, ⟨r, 0⟩) := by
  have hb := h.ok.b
  have hl := h.ok.l
  have hn := h.norm
  have h0 := h.k0
  have h5 := h.k5
  unfold rdV encV
  by_cases k0 : v.kind = 0
  · rw [if_pos k0, if_pos k0, rdU_enc _ h.ok.u]
    simp only [k0] at hn ⊢
    rw [hn]; simp
  rw [if_neg k0, if_neg k0]
  by_cases k1 : v.kind = 1
  · rw [if_pos k1, if_pos k1, rdI_enc _ h.ok.n]
    simp only [k1] at hn ⊢
    rw [hn]; simp
  rw [if_neg k1, if_neg k1]
  by_cases k2 : v.kind = 2
  · rw [if_pos k2, if_pos k2, rdB_enc]
    have := h.two k2
    simp only [k2] at hn ⊢
    rw [hn]
    rcases this with e | e <;> simp [e]
  rw [if_neg k2, if_neg k2]
  by_cases k3 : v.kind = 3 ∨ v.kind = 4
  · rw [if_pos k3, if_pos k3, rdRaw_enc _ (by omega)]
    rw [if_neg k0, if_neg (by omega), if_pos k3, if_neg (by omega)] at hn
    simp only [Prod.mk.injEq, and_true]
    exact hn.symm
  · rw [if_neg k3, if_neg k3, rdInts_enc _ (by omega) h.ok.i]
    rw [if_neg k0, if_neg (by omega), if_neg k3, if_pos (by omega)] at hn
    simp only [Prod.mk.injEq, and_true]
    exact hn.symm
namespace Rou
theorem loop {w0 : World} {A : Nat → Prop} {all : Sl} {vs : List V} (hg : ∀ v ∈ vs, V.Gen v) (hl : vs.length ≤ 1000) {rb : Nat} {fp : List Nat} (hfp : ∀ x ∈ fp, w0.heap.size ≤ x) (ha : ∀ x, A x → x ∉ fp) :
    ∀ (d i : Nat), i + d = vs.length → ∀ (w : World), Fr0 w0 w → RdVals A w all vs → RdRep w rb ⟨(vs.drop i).flatMap encV, 0⟩ fp →
      enthymemelaw02_WireRound.L6 all (some (at0 rb)) (i : Int) w fun r w' => r = .returned (.bool true) ∧ Fr0 w0 w' := by
  intro d
  induction d with
  | zero =>
    intro i hi w F hv hr
    refine enthymemelaw02_WireRound.L6_step _ _ _ _ _ (sel_false (decide_eq_false (by rw [hv.len]; omega)) ((r_end hr).mono ?_))
    rintro r w1 ⟨rfl, f1⟩
    refine ⟨_, rfl, sel_true (by rw [List.drop_of_length_le (by omega)]; rfl) ((lives_any w1).mono ?_)⟩
    rintro r w2 ⟨rfl, f2⟩
    exact ⟨_, rfl, rfl, F.tr0 (f1.tr0 f2)⟩
  | succ d ih =>
    intro i hi w F hv hr
    have hlt : i < vs.length := by omega
    have hg' : vs[i]? = some vs[i] := List.getElem?_eq_getElem hlt
    have hgen := hg _ (List.getElem_mem hlt)
    rw [List.drop_eq_getElem_cons hlt, List.flatMap_cons] at hr
    generalize vs[i] = v at hg' hgen hr
    obtain ⟨p, c, hp, hc, hx⟩ := hv.elem3 hg'
    have fd : Fr0 w w.drew := Fr.drew _ _
    have xd := hx _ _ fd (fun _ _ h => h)
    refine enthymemelaw02_WireRound.L6_step _ _ _ _ _ (sel_true (decide_eq_true (by rw [hv.len]; omega)) ⟨by omega, by rw [hv.len]; omega, optP_mk hp ⟨_, xd 0 _ rfl, by omega, by rw [hv.len]; omega, optP_mk hp ⟨_, _, _, _, _, xd 0 _ rfl, xd 1 _ rfl, xd 2 _ rfl, xd 3 _ rfl, xd 4 _ rfl, ?_⟩⟩⟩)
    rw [hc.k]
    refine (l_read (hr.fr0 fd) v.kind).mono ?_
    rw [rdV_enc v hgen]
    rintro r w1 ⟨c1, rfl, v1, r1, f1⟩
    have fw : Fr (· = rb) w w1 := fd.of0.trans f1 fun _ _ h => h
    have nrb : ∀ x, A x → ¬ x = rb := fun x hx e => ha x hx (e ▸ hr.mem)
    have x1 := hx _ _ fw nrb
    refine ⟨_, _, _, _, _, rfl, by rw [← hc.k]; exact x1 0 _ rfl, x1 1 _ rfl, x1 2 _ rfl, x1 3 _ rfl, x1 4 _ rfl, ?_⟩
    have hb := hgen.ok.b
    have hll := hgen.ok.l
    rw [← hc.k]
    refine (l_same (c := c1) (d := c) v1 (hc.fr fw nrb) (by simp only; omega) (by simp only; omega)).mono ?_
    rintro r w2 ⟨rfl, f2⟩
    refine ⟨_, rfl, sel_false (by simp) ?_⟩
    show enthymemelaw02_WireRound.L6 all (some (at0 rb)) (IntKind.wrap .i64 ((i : Int) + 1)) w2 _
    rw [i64_next i (by omega)]
    exact ih (i + 1) (by omega) w2 ((fr_at F (hfp rb hr.mem) fw).tr0 f2) ((hv.fr fw nrb).fr0 f2) (r1.fr0 f2)
theorem walk (ls : Sl) (u n : Int) (w : World) (hls : ArgNums w ls) (hu : U64 u) (hn : I64 n) :
    Calls Try.prog n_enthymemelaw02_WireRound #[ls.v, .int .u64 u, .int .i64 n] w fun r w' => r = .returned (.bool true) ∧ Fr0 w w' := by
  obtain ⟨l, hls, _, hli⟩ := hls
  obtain ⟨m, rfl⟩ := Int.eq_ofNat_of_zero_le hu.1
  refine enthymemelaw02_WireRound.ok _ _ _ w _ ((r_vals hls hli).mono ?_)
  rintro r w1 ⟨s, vs, rfl, hl, hg, f1, o1⟩
  refine ⟨s, rfl, ?_⟩
  intro w2
  have f2 : Fr0 w1 w2 := Fr.alloc _ _ _
  have hs2 : w2.heap.size = w1.heap.size + 1 := size_alloc _ _
  have hs1 := f1.size
  have hr : CRow w2 ⟨some ⟨w1.heap.size, 0, none⟩, 2, 2⟩ ([(⟨0, m, 0, ⟨none, 0, 0⟩, ⟨none, 0, 0⟩⟩ : VC), ⟨1, 0, n, ⟨none, 0, 0⟩, ⟨none, 0, 0⟩⟩].flatMap vcells) := (Row.made w1 ty_enthymemeref02_Val 2 2 _).crow
  have nb : ∀ {y : Nat}, y ∈ blkL (⟨none, 0, 0⟩ : Sl) → False := fun h => by simp [blkL] at h
  have hum : m < 18446744073709551616 := by have := hu.2; omega
  obtain ⟨s', w3, g1, g2, g3, g4⟩ := append_vals (ty := ty_sl_enthymemeref02_Val) (o1.fr0 f2) (by omega) hr rfl (vs' := [⟨0, m, 0, [], []⟩, ⟨1, 0, n, [], []⟩]) ⟨⟨rfl, rfl, rfl, Rd.nil _, Rd.nil _, fun y hy => (nb hy).elim, fun y hy => (nb hy).elim⟩, ⟨rfl, rfl, rfl, Rd.nil _, Rd.nil _, fun y hy => (nb hy).elim, fun y hy => (nb hy).elim⟩, trivial⟩ (by simp; omega) (by omega)
  have hg' : ∀ v ∈ vs ++ [⟨0, m, 0, [], []⟩, ⟨1, 0, n, [], []⟩], V.Gen v := fun v hv => by
    rcases List.mem_append.1 hv with h | h
    · exact hg v h
    · simp at h
      rcases h with rfl | rfl
      · exact ⟨by simp, by simp, ⟨hum, by simp only; omega, by simp, by simp, by simp⟩, by simp, by simp, by simp, by simp⟩
      · exact ⟨by simp, by simp, ⟨by simp, hn, by simp, by simp, by simp⟩, by simp, by simp, by simp, by simp⟩
  generalize hvs' : vs ++ [⟨0, m, 0, [], []⟩, ⟨1, 0, n, [], []⟩] = vs' at g2 hg'
  have hl' : vs'.length ≤ 10 := by rw [← hvs']; simp; omega
  have o1b : ∀ x ∈ blkL s, w.heap.size ≤ x := by obtain ⟨_, _, _, _, h4⟩ := o1; exact fun x hx => (h4 x hx).1
  have F3 : Fr0 w w3 := (f1.tr0 f2).trn g3 o1b
  refine ⟨s', w3, g1, (l_encode g2.rd (fun v hv => (hg' v hv).ok) (by omega) (fun x hx => hx.2)).mono ?_⟩
  rintro r w4 ⟨b, rfl, b4, f4, _⟩
  have hfl := flatV_len vs' fun v hv => (hg' v hv).ok
  refine ⟨b, rfl, (r_read b4.rd (by omega)).mono ?_⟩
  rintro r w5 ⟨rb, fp, rfl, r5, f5, n5⟩
  have hs4 := f4.size
  have hs3 := F3.size
  refine ⟨_, rfl, sel_false rfl ?_⟩
  exact loop hg' (by omega) (fun x hx => by have := n5 x hx; omega) (fun x hx hm => by have := n5 x hm; omega) vs'.length 0 (by omega) w5 (F3.tr0 (f4.tr0 f5)) (g2.rd.fr0 (f4.tr0 f5)) (by rw [List.drop_zero]; exact r5)
end Rou
end Go.Proofs.Ytjmnpdacalbpkaa

/- Plain laws about arrays: writes. No program in sight. -/
import Derived.Test.YtjjhfdjpmonlaaaK11
namespace Go.Proofs.Ytjjhfdjpmonlaaa
open Go Go.W

/-- an element of arrays of a sort -/
structure Elm (s : Srt) (u : Val) : Prop where
  t : u.t = elemS s
  m : u.m = []
  k2 : s.k = 2 → bel u.u s.n = true ∧ u.s = []
  k3 : s.k = 3 → u.u = 0 ∧ (u.s.length : Int) ≤ s.n
theorem elm_of {s : Srt} {u : Val} (ha : arrS s = true) (ht : u.t = elemS s) (hb : validB u = true) : Elm s u := by
  have hk : s.k = 2 ∨ s.k = 3 := by unfold arrS at ha; simpa using ha
  unfold validB at hb
  rw [ht] at hb
  rcases hk with hk | hk
  · have e : elemS s = ⟨0, s.n, 0⟩ := by unfold elemS; rw [if_pos hk]
    rw [e] at hb
    simp at hb
    exact ⟨ht, hb.2, fun _ => ⟨hb.1.1, hb.1.2⟩, fun h => by omega⟩
  · have e : elemS s = ⟨1, s.n, 0⟩ := by unfold elemS; rw [if_neg (by omega)]
    rw [e] at hb
    simp at hb
    exact ⟨ht, hb.2, fun h => by omega, fun _ => ⟨hb.1.2, hb.1.1⟩⟩
theorem Elm.valid {s : Srt} {u : Val} (h : Elm s u) (ha : arrS s = true) (hs : validS s = true) : validV u = 0 := by
  have hk : s.k = 2 ∨ s.k = 3 := by unfold arrS at ha; simpa using ha
  have hv : validS u.t = true := by rw [h.t]; exact elem_ok hs
  have hb : validB u = true := by
    unfold validB
    rw [h.t]
    rcases hk with hk | hk
    · have e : elemS s = ⟨0, s.n, 0⟩ := by unfold elemS; rw [if_pos hk]
      rw [e, if_pos rfl, (h.k2 hk).1, (h.k2 hk).2, h.m]; rfl
    · have e : elemS s = ⟨1, s.n, 0⟩ := by unfold elemS; rw [if_neg (by omega)]
      have := h.k3 hk
      rw [e]
      simp [h.m, this.1, this.2]
  unfold validV
  rw [if_pos hv, if_pos hb]
theorem Elm.fit {s : Srt} {u : Val} (h : Elm s u) (ha : arrS s = true) : fitS s u.t = true := by
  have hk : s.k = 2 ∨ s.k = 3 := by unfold arrS at ha; simpa using ha
  rw [h.t]
  unfold fitS elemS
  rcases hk with hk | hk
  · simp [hk]
  · simp [hk]
theorem Elm.okE {s : Srt} {u : Val} (h : Elm s u) (ha : arrS s = true) (x : Nat) (hx : bel x s.x = true) (hz : nzE ⟨x, u.u, u.s⟩ = true) : okE s ⟨x, u.u, u.s⟩ = true := by
  have hk : s.k = 2 ∨ s.k = 3 := by unfold arrS at ha; simpa using ha
  unfold Go.Proofs.Ytjjhfdjpmonlaaa.okE
  unfold nzE at hz
  rcases hk with hk | hk
  · have := h.k2 hk
    simp only [hx, this.1, this.2, hk]
    rw [this.2] at hz
    simpa using hz
  · have := h.k3 hk
    simp only [hx, this.1, hk]
    rw [this.1] at hz
    simp at hz ⊢
    exact ⟨hz, this.2⟩
/-- a valid array -/
structure VA (s : Srt) (a : Val) : Prop where
  t : a.t = s
  v : validV a = 0
theorem sto_ok {s : Srt} {a u : Val} (h : VA s a) (ha : arrS s = true) (hu : Elm s u) {x : Nat} (hx : bel x s.x = true) : stoE a x u = 0 ∧ VA s (stoV a x u) ∧ (stoV a x u) = ⟨s, 0, [], putM ⟨x, u.u, u.s⟩ a.m⟩ := by
  have hs : validS s = true := by rw [← h.t]; exact valid_of h.v
  have he : stoE a x u = 0 := by
    unfold stoE
    rw [if_neg (by rw [h.v]; simp), if_neg (by rw [hu.valid ha hs]; simp), h.t, hu.fit ha, hx]
    rfl
  have hv : stoV a x u = ⟨s, 0, [], putM ⟨x, u.u, u.s⟩ a.m⟩ := by
    unfold stoV
    rw [if_neg (by rw [he]; simp), h.t]
  refine ⟨he, ?_, hv⟩
  have A := arr_of h.v (by rw [h.t]; exact ha)
  have ho := okM_put s ⟨x, u.u, u.s⟩ (hu.okE ha x hx) a.m none rfl (h.t ▸ A.ok)
  refine ⟨by rw [hv], ?_⟩
  rw [hv]
  have hk : s.k ≠ 0 ∧ s.k ≠ 1 := by
    unfold arrS at ha
    simp at ha
    omega
  have hb : validB ⟨s, 0, [], putM ⟨x, u.u, u.s⟩ a.m⟩ = true := by
    unfold validB
    rw [if_neg hk.1, if_neg hk.2, ho]; rfl
  unfold validV
  rw [if_pos hs, if_pos hb]
theorem sel_ok {s : Srt} {a : Val} (h : VA s a) (ha : arrS s = true) {x : Nat} (hx : bel x s.x = true) : selE a x = 0 ∧ selV a x = ⟨elemS s, (selM a.m x).1, (selM a.m x).2, []⟩ := by
  have he : selE a x = 0 := by
    unfold selE
    rw [if_neg (by rw [h.v]; simp), h.t, ha, hx]
    rfl
  refine ⟨he, ?_⟩
  unfold selV
  rw [if_neg (by rw [he]; simp), h.t]
theorem sel_elm {s : Srt} {a : Val} (h : VA s a) (ha : arrS s = true) {x : Nat} (hx : bel x s.x = true) : Elm s (selV a x) := by
  rw [(sel_ok h ha hx).2]
  have hs : validS s = true := by rw [← h.t]; exact valid_of h.v
  have A := arr_of h.v (by rw [h.t]; exact ha)
  have vs := vs_of hs
  rcases selM_in a.m x with h' | ⟨e, he, h'⟩
  · rw [h']
    refine ⟨rfl, rfl, fun hk => ⟨?_, rfl⟩, fun hk => ⟨rfl, by simpa using vs.n0⟩⟩
    unfold bel
    have : (0 : Nat) < 2 ^ s.n.toNat := Nat.pow_pos (by omega)
    simp [this]
  · rw [h']
    have hm : ∀ (l : List Ent) (p : Option Nat), okM s p l = true → e ∈ l → okE s e = true := by
      intro l
      induction l with
      | nil => intro p _ hh; cases hh
      | cons b l ih =>
        intro p hh hm
        rw [okM_cons] at hh
        simp only [Bool.and_eq_true] at hh
        rcases List.mem_cons.1 hm with rfl | hm
        · exact hh.1.2
        · exact ih _ hh.2 hm
    have ho := hm a.m none (by rw [← h.t]; exact A.ok) he
    unfold Go.Proofs.Ytjjhfdjpmonlaaa.okE at ho
    simp only [Bool.and_eq_true, Bool.or_eq_true, bne_iff_ne, ne_eq, beq_iff_eq, List.isEmpty_iff, decide_eq_true_eq] at ho
    exact ⟨rfl, rfl, fun hk => ho.1.2.resolve_left (fun h => h hk), fun hk => ho.2.resolve_left (fun h => h hk)⟩
/-- arrays are equal if their elements are -/
theorem arr_ext {s : Srt} {a b : Val} (ha : arrS s = true) (A : VA s a) (B : VA s b) (h : ∀ n, selM a.m n = selM b.m n) : a = b := by
  have A1 := arr_of A.v (by rw [A.t]; exact ha)
  have B1 := arr_of B.v (by rw [B.t]; exact ha)
  have := sel_ext A1.so B1.so A1.nz B1.nz h
  obtain ⟨t, u, s', m⟩ := a
  obtain ⟨t', u', s'', m'⟩ := b
  have e1 := A1.u; have e2 := A1.s; have e3 := B1.u; have e4 := B1.s; have e5 := A.t; have e6 := B.t
  simp only at e1 e2 e3 e4 e5 e6 this
  rw [e1, e2, e3, e4, e5, e6, this]
theorem sto_sel {s : Srt} {a u : Val} (h : VA s a) (ha : arrS s = true) (hu : Elm s u) {x : Nat} (hx : bel x s.x = true) (n : Nat) : selM (stoV a x u).m n = if n = x then (u.u, u.s) else selM a.m n := by
  rw [(sto_ok h ha hu hx).2.2]
  exact sel_put ⟨x, u.u, u.s⟩ a.m n (arr_of h.v (by rw [h.t]; exact ha)).so
theorem back_eq {s : Srt} {a u : Val} (h : VA s a) (ha : arrS s = true) (hu : Elm s u) {x : Nat} (hx : bel x s.x = true) : stoV (stoV a x u) x (selV a x) = a := by
  have h1 := (sto_ok h ha hu hx).2.1
  have he := sel_elm h ha hx
  refine arr_ext ha (sto_ok h1 ha he hx).2.1 h fun n => ?_
  rw [sto_sel h1 ha he hx, sto_sel h ha hu hx, (sel_ok h ha hx).2]
  by_cases hn : n = x
  · rw [if_pos hn, hn]
  · rw [if_neg hn, if_neg hn]
theorem turn_eq {s : Srt} {a u v : Val} (h : VA s a) (ha : arrS s = true) (hu : Elm s u) (hv : Elm s v) {x y : Nat} (hx : bel x s.x = true) (hy : bel y s.x = true) (hne : x ≠ y) : stoV (stoV a x u) y v = stoV (stoV a y v) x u := by
  have h1 := (sto_ok h ha hu hx).2.1
  have h2 := (sto_ok h ha hv hy).2.1
  refine arr_ext ha (sto_ok h1 ha hv hy).2.1 (sto_ok h2 ha hu hx).2.1 fun n => ?_
  rw [sto_sel h1 ha hv hy, sto_sel h2 ha hu hx, sto_sel h ha hu hx, sto_sel h ha hv hy]
  by_cases h1 : n = x
  · rw [if_pos h1, if_pos h1, if_neg (by omega)]
  · rw [if_neg h1, if_neg h1]
theorem last_eq {s : Srt} {a u v : Val} (h : VA s a) (ha : arrS s = true) (hu : Elm s u) (hv : Elm s v) {x : Nat} (hx : bel x s.x = true) : stoV (stoV a x u) x v = stoV a x v := by
  have h1 := (sto_ok h ha hu hx).2.1
  refine arr_ext ha (sto_ok h1 ha hv hx).2.1 (sto_ok h ha hv hx).2.1 fun n => ?_
  rw [sto_sel h1 ha hv hx, sto_sel h ha hv hx, sto_sel h ha hu hx]
  split <;> rfl
theorem sel_sto {s : Srt} {a u : Val} (h : VA s a) (ha : arrS s = true) (hu : Elm s u) {x z : Nat} (hx : bel x s.x = true) (hz : bel z s.x = true) : selV (stoV a x u) z = if z = x then u else selV a z := by
  have h1 := (sto_ok h ha hu hx).2.1
  rw [(sel_ok h1 ha hz).2, sto_sel h ha hu hx]
  by_cases hn : z = x
  · rw [if_pos hn, if_pos hn]
    obtain ⟨t, c, b, m⟩ := u
    have e1 := hu.t; have e2 := hu.m
    simp only at e1 e2
    rw [e1, e2]
  · rw [if_neg hn, if_neg hn, (sel_ok h ha hz).2]
theorem made_va {s : Srt} {v : Val} (hs : validS s = true) (h : Made s v) : VA s v := by
  refine ⟨h.t, ?_⟩
  unfold validV
  rw [h.t, if_pos hs, if_pos h.ok]
theorem cmp_ne {x : Int} (h : x = 0) : (x != 0) = false := by rw [h]; rfl
end Go.Proofs.Ytjjhfdjpmonlaaa

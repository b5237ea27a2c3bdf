/- The order of expressions; no program in sight. -/
import Derived.Test.YtknlbofiicflgaaGreatR1
namespace Go.Proofs.YtknlbofiicflgaaGreat
open Go Go.W

theorem cmpI_neg (a b : Int) : cmpI b a = -cmpI a b := by
  have s : ∀ a b : Int, (cmpI a b = -1 ∧ a < b) ∨ (cmpI a b = 1 ∧ b < a) ∨ (cmpI a b = 0 ∧ a = b) := fun a b => by
    unfold cmpI
    split
    · exact .inl ⟨rfl, by omega⟩
    · split
      · exact .inr (.inl ⟨rfl, by omega⟩)
      · exact .inr (.inr ⟨rfl, by omega⟩)
  rcases s a b with h1 | h1 | h1 <;> rcases s b a with h2 | h2 | h2 <;> omega
theorem orI_neg (c d : Int) (l m : List Int) (h : d = -c) (hl : orI m = -orI l) : orI (d :: m) = -orI (c :: l) := by
  show (if d ≠ 0 then d else orI m) = -(if c ≠ 0 then c else orI l)
  split
  · rw [if_pos (by omega)]; exact h
  · rw [if_neg (by omega)]; exact hl
theorem orI_one (c : Int) : orI [c] = c := by
  show (if c ≠ 0 then c else 0) = c
  split <;> omega
theorem cmpR_eq (k : Int) (lo hi : UInt8) (l : List Rx) (b : Rx) : cmpR (.mk k lo hi l) b = orI [cmpI k b.k, cmpI lo.toNat b.lo.toNat, cmpI hi.toNat b.hi.toNat, cmpL l b.l] := by
  unfold cmpR
  generalize cmpI k b.k = c0
  generalize cmpI lo.toNat b.lo.toNat = c1
  generalize cmpI hi.toNat b.hi.toNat = c2
  generalize cmpL l b.l = c3
  simp only [orI]
  by_cases h0 : c0 = 0
  · by_cases h1 : c1 = 0
    · by_cases h2 : c2 = 0
      · by_cases h3 : c3 = 0 <;> simp [h0, h1, h2, h3]
      · simp [h0, h1, h2]
    · simp [h0, h1]
  · simp [h0]
mutual
theorem cmpR_neg : ∀ a b : Rx, cmpR b a = -cmpR a b
  | .mk k lo hi l, .mk k' lo' hi' l' => by
    rw [cmpR_eq, cmpR_eq]
    exact orI_neg _ _ _ _ (cmpI_neg _ _) (orI_neg _ _ _ _ (cmpI_neg _ _) (orI_neg _ _ _ _ (cmpI_neg _ _) (by rw [orI_one, orI_one]; exact cmpL_neg l l')))
theorem cmpL_neg : ∀ a b : List Rx, cmpL b a = -cmpL a b
  | [], [] => by unfold cmpL; rfl
  | [], _ :: _ => by unfold cmpL; rfl
  | _ :: _, [] => by unfold cmpL; rfl
  | x :: l, y :: m => by
    have h1 := cmpR_neg x y
    have h2 := cmpL_neg l m
    show (if cmpR y x ≠ 0 then cmpR y x else cmpL m l) = -(if cmpR x y ≠ 0 then cmpR x y else cmpL l m)
    split
    · rw [if_pos (by omega)]; exact h1
    · rw [if_neg (by omega)]; exact h2
end
/-- three results of an order -/
structure Tri (x y z : Int) : Prop where
  le : x ≤ 0 → y ≤ 0 → z ≤ 0
  lt : x < 0 → y ≤ 0 → z < 0
  lt' : x ≤ 0 → y < 0 → z < 0
  eq : x = 0 → y = 0 → z = 0
theorem cmpI_tri (a b c : Int) : Tri (cmpI a b) (cmpI b c) (cmpI a c) := by
  have s : ∀ a b : Int, (cmpI a b = -1 ∧ a < b) ∨ (cmpI a b = 1 ∧ b < a) ∨ (cmpI a b = 0 ∧ a = b) := fun a b => by
    unfold cmpI
    split
    · exact .inl ⟨rfl, by omega⟩
    · split
      · exact .inr (.inl ⟨rfl, by omega⟩)
      · exact .inr (.inr ⟨rfl, by omega⟩)
  rcases s a b with h1 | h1 | h1 <;> rcases s b c with h2 | h2 | h2 <;> rcases s a c with h3 | h3 | h3 <;> constructor <;> omega
theorem tri_or {x y z x' y' z' : Int} (h : Tri x y z) (h' : Tri x' y' z') : Tri (if x ≠ 0 then x else x') (if y ≠ 0 then y else y') (if z ≠ 0 then z else z') := by
  obtain ⟨a1, a2, a3, a4⟩ := h
  obtain ⟨b1, b2, b3, b4⟩ := h'
  by_cases hx : x = 0
  · by_cases hy : y = 0
    · have hz := a4 hx hy
      rw [if_neg (by omega), if_neg (by omega), if_neg (by omega)]
      exact ⟨b1, b2, b3, b4⟩
    · rw [if_neg (by omega : ¬ x ≠ 0), if_pos hy]
      constructor
      · intro h1 h2; have := a3 (by omega) (by omega); rw [if_pos (by omega)]; omega
      · intro h1 h2; have := a3 (by omega) (by omega); rw [if_pos (by omega)]; omega
      · intro h1 h2; have := a3 (by omega) (by omega); rw [if_pos (by omega)]; omega
      · intro h1 h2; omega
  · rw [if_pos hx]
    by_cases hy : y = 0
    · rw [if_neg (by omega : ¬ y ≠ 0)]
      constructor
      · intro h1 h2; have := a2 (by omega) (by omega); rw [if_pos (by omega)]; omega
      · intro h1 h2; have := a2 (by omega) (by omega); rw [if_pos (by omega)]; omega
      · intro h1 h2; have := a2 (by omega) (by omega); rw [if_pos (by omega)]; omega
      · intro h1 h2; omega
    · rw [if_pos hy]
      constructor
      · intro h1 h2; have := a2 (by omega) (by omega); rw [if_pos (by omega)]; omega
      · intro h1 h2; have := a2 (by omega) (by omega); rw [if_pos (by omega)]; omega
      · intro h1 h2; have := a2 (by omega) (by omega); rw [if_pos (by omega)]; omega
      · intro h1 h2; omega
mutual
theorem cmpR_tri : ∀ a b c : Rx, Tri (cmpR a b) (cmpR b c) (cmpR a c)
  | .mk k lo hi l, .mk k' lo' hi' l', .mk k2 lo2 hi2 l2 => by
    rw [cmpR_eq, cmpR_eq, cmpR_eq]
    have := cmpL_tri l l' l2
    exact tri_or (cmpI_tri _ _ _) (tri_or (cmpI_tri _ _ _) (tri_or (cmpI_tri _ _ _) (by
      show Tri (orI [cmpL l l']) (orI [cmpL l' l2]) (orI [cmpL l l2])
      rw [orI_one, orI_one, orI_one]
      exact this)))
theorem cmpL_tri : ∀ a b c : List Rx, Tri (cmpL a b) (cmpL b c) (cmpL a c)
  | [], [], [] => by unfold cmpL; constructor <;> omega
  | [], [], _ :: _ => by unfold cmpL; constructor <;> omega
  | [], _ :: _, [] => by unfold cmpL; constructor <;> omega
  | _ :: _, [], [] => by unfold cmpL; constructor <;> omega
  | _ :: _, [], _ :: _ => by
    have e1 : ∀ (x : Rx) (l : List Rx), cmpL (x :: l) [] = 1 := fun _ _ => rfl
    have e2 : ∀ (x : Rx) (l : List Rx), cmpL [] (x :: l) = -1 := fun _ _ => rfl
    rw [e1, e2]
    constructor <;> omega
  | [], y :: m, z :: n => by
    have e2 : ∀ (x : Rx) (l : List Rx), cmpL [] (x :: l) = -1 := fun _ _ => rfl
    rw [e2, e2]
    constructor <;> omega
  | x :: l, y :: m, [] => by
    have e1 : ∀ (x : Rx) (l : List Rx), cmpL (x :: l) [] = 1 := fun _ _ => rfl
    rw [e1, e1]
    constructor <;> omega
  | x :: l, y :: m, z :: n => tri_or (cmpR_tri x y z) (cmpL_tri l m n)
end
end Go.Proofs.YtknlbofiicflgaaGreat

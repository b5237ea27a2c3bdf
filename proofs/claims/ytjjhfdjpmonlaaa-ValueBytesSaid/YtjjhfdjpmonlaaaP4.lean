/- Plain laws: equal values, and first differences. No program in sight. -/
import Derived.Test.YtjjhfdjpmonlaaaP3
namespace Go.Proofs.Ytjjhfdjpmonlaaa
open Go Go.W

theorem orI_zero : ∀ l : List Int, orI l = 0 ↔ ∀ c ∈ l, c = 0
  | [] => by simp [orI]
  | c :: l => by
    unfold orI
    by_cases h : c = 0
    · rw [if_neg (by simpa using h), orI_zero l]; simp [h]
    · rw [if_pos h]; simp [h]
theorem cmpE_zero (a b : Ent) : cmpE a b = 0 ↔ a = b := by
  obtain ⟨i, u, s⟩ := a
  obtain ⟨j, v, t⟩ := b
  unfold cmpE
  rw [orI_zero]
  simp only [List.mem_cons, List.not_mem_nil, or_false, forall_eq_or_imp, forall_eq, cmpI_zero, cmpS_zero, Ent.mk.injEq]
  constructor
  · rintro ⟨h1, h2, h3⟩; exact ⟨by omega, by omega, h3⟩
  · rintro ⟨h1, h2, h3⟩; exact ⟨by omega, by omega, h3⟩
theorem cmpM_zero : ∀ a b : List Ent, cmpM a b = 0 ↔ a = b
  | [], [] => by simp [cmpM]
  | [], _ :: _ => by simp [cmpM]
  | _ :: _, [] => by simp [cmpM]
  | a :: l, b :: m => by
    unfold cmpM
    by_cases h : cmpE a b = 0
    · rw [if_neg (by simpa using h), cmpM_zero l m, (cmpE_zero a b).1 h]
      simp
    · rw [if_pos h]
      constructor
      · intro h'; exact absurd h' h
      · intro h'; exact absurd ((cmpE_zero a b).2 (List.cons.inj h').1) h
theorem cmpV_zero (a b : Val) : cmpV a b = 0 ↔ a = b := by
  obtain ⟨⟨k, n, x⟩, u, s, m⟩ := a
  obtain ⟨⟨k', n', x'⟩, u', s', m'⟩ := b
  unfold cmpV
  by_cases h : headC ⟨⟨k, n, x⟩, u, s, m⟩ ⟨⟨k', n', x'⟩, u', s', m'⟩ = 0
  · rw [if_neg (by simpa using h), cmpM_zero]
    unfold headC at h
    rw [orI_zero] at h
    simp only [List.mem_cons, List.not_mem_nil, or_false, forall_eq_or_imp, forall_eq, cmpI_zero, cmpS_zero] at h
    obtain ⟨h1, h2, h3, h4, h5⟩ := h
    have h4 : u = u' := by omega
    simp [h1, h2, h3, h4, h5]
  · rw [if_pos h]
    constructor
    · intro h'; exact absurd h' h
    · intro h'
      rw [h'] at h
      refine absurd ?_ h
      unfold headC
      rw [orI_zero]
      simp [(cmpI_zero _ _).2, cmpS_self]
noncomputable instance : DecidableEq Val := fun a b => Classical.propDecidable (a = b)
theorem cmpV_eqb (a b : Val) : (cmpV a b == 0) = decide (a = b) := by
  by_cases h : a = b
  · rw [(cmpV_zero a b).2 h]; simp [h]
  · have : cmpV a b ≠ 0 := fun h' => h ((cmpV_zero a b).1 h')
    simp [h, this]
/-- the elements below a number are equal -/
def eqU (a b : List Ent) : Nat → Bool
  | 0 => true
  | z + 1 => eqU a b z && selM a z == selM b z
theorem eqU_iff (a b : List Ent) : ∀ z, eqU a b z = true ↔ ∀ n, n < z → selM a n = selM b n
  | 0 => by simp [eqU]
  | z + 1 => by
    unfold eqU
    rw [Bool.and_eq_true, eqU_iff a b z, beq_iff_eq]
    constructor
    · rintro ⟨h1, h2⟩ n hn
      by_cases h : n = z
      · rw [h]; exact h2
      · exact h1 n (by omega)
    · intro h
      exact ⟨fun n hn => h n (by omega), h z (by omega)⟩
theorem okM_ix (s : Srt) : ∀ (l : List Ent) (p : Option Nat), okM s p l = true → ∀ e ∈ l, bel e.i s.x = true
  | [], p, _ => fun e he => by cases he
  | a :: l, p, h => by
    rw [okM_cons] at h
    simp only [Bool.and_eq_true] at h
    intro e he
    rcases List.mem_cons.1 he with rfl | he
    · have h1 := h.1.2
      unfold okE at h1
      simp only [Bool.and_eq_true] at h1
      exact h1.1.1.1
    · exact okM_ix s l _ h.2 e he
structure DiffOf (s : Srt) (a b : Val) (d : Nat) : Prop where
  lt : d < 2 ^ s.x.toNat
  low : ∀ n, n < d → selM a.m n = selM b.m n
  at' : selM a.m d = selM b.m d ↔ a = b
  all : eqU a.m b.m (2 ^ s.x.toNat) = decide (a = b)
theorem bel_lt {u : Nat} {n : Int} (h : bel u n = true) (hn : n ≤ 63) : u < 2 ^ n.toNat := by
  unfold bel at h
  have : (n == 64) = false := by simp; omega
  rw [this, Bool.false_or, decide_eq_true_eq] at h
  exact h
theorem dif_of {s : Srt} {a b : Val} (ha : arrS s = true) (hx : s.x ≤ 16) (A : VA s a) (B : VA s b) : difE a b = 0 ∧ DiffOf s a b (difV a b) := by
  have he : difE a b = 0 := by
    unfold difE
    rw [if_neg (by rw [A.v]; simp), if_neg (by rw [B.v]; simp), A.t, B.t, ha]
    simp [sameT]
  refine ⟨he, ?_⟩
  have hv : difV a b = diffM a.m b.m := by unfold difV; rw [if_neg (by rw [he]; simp)]
  have A1 := arr_of A.v (by rw [A.t]; exact ha)
  have B1 := arr_of B.v (by rw [B.t]; exact ha)
  have hp : 1 ≤ 2 ^ s.x.toNat := Nat.pow_pos (by omega)
  have ia : ∀ e ∈ a.m, e.i < 2 ^ s.x.toNat := fun e he => bel_lt (by rw [← A.t]; exact okM_ix a.t a.m none A1.ok e he) (by omega)
  have ib : ∀ e ∈ b.m, e.i < 2 ^ s.x.toNat := fun e he => bel_lt (by rw [← B.t]; exact okM_ix b.t b.m none B1.ok e he) (by omega)
  have hall : eqU a.m b.m (2 ^ s.x.toNat) = decide (a = b) := by
    by_cases h : a = b
    · subst h
      rw [(eqU_iff _ _ _).2 fun _ _ => rfl]; simp
    · cases hu : eqU a.m b.m (2 ^ s.x.toNat) with
      | false => simp [h]
      | true =>
        rw [eqU_iff] at hu
        refine absurd (arr_ext ha A B fun n => ?_) h
        by_cases hn : n < 2 ^ s.x.toNat
        · exact hu n hn
        · rw [selM_none fun e he => by have := ia e he; omega, selM_none fun e he => by have := ib e he; omega]
  rw [hv, diffM_O]
  cases hd : diffO a.m b.m with
  | none =>
    have hm := diffO_none hd
    have hab : a = b := arr_ext ha A B fun n => by rw [hm]
    subst hab
    exact ⟨hp, fun _ _ => rfl, by simp, hall⟩
  | some d =>
    obtain ⟨h1, ⟨e, he, hed⟩, h3⟩ := diffO_some A1.so B1.so A1.nz B1.nz hd
    refine ⟨?_, h3, ⟨fun h => absurd h h1, fun h => by rw [h]⟩, hall⟩
    show d < _
    rw [← hed]
    exact he.elim (ia e) (ib e)
theorem sel_same {s : Srt} {a b : Val} (ha : arrS s = true) (A : VA s a) (B : VA s b) {x : Nat} (hx : bel x s.x = true) : (cmpV (selV a x) (selV b x) == 0) = (selM a.m x == selM b.m x) := by
  rw [cmpV_eqb, (sel_ok A ha hx).2, (sel_ok B ha hx).2]
  by_cases h : selM a.m x = selM b.m x
  · simp [h]
  · rw [beq_false_of_ne h]
    simp
    intro h1 h2
    exact h (Prod.ext h1 h2)
end Go.Proofs.Ytjjhfdjpmonlaaa

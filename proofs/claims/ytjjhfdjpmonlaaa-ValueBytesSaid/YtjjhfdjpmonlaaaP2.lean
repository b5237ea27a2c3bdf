/- Plain laws about arrays: elements decide. No program in sight. -/
import Derived.Test.YtjjhfdjpmonlaaaK7
namespace Go.Proofs.Ytjjhfdjpmonlaaa
open Go Go.W

/-- entries that are something -/
def NZ (m : List Ent) : Prop := ∀ e ∈ m, nzE e = true
theorem NZ.tail {a : Ent} {l : List Ent} (h : NZ (a :: l)) : NZ l := fun e he => h e (by simp [he])
theorem okM_nz (s : Srt) : ∀ (l : List Ent) (p : Option Nat), okM s p l = true → NZ l
  | [], p, _ => fun e he => by cases he
  | e :: l, p, h => by
    rw [okM_cons] at h
    simp only [Bool.and_eq_true] at h
    intro x hx
    rcases List.mem_cons.1 hx with rfl | hx
    · have := h.1.2
      unfold okE at this
      simp only [Bool.and_eq_true] at this
      have h2 := this.1.1.2
      unfold nzE
      rw [Bool.not_and] at h2
      exact h2
    · exact okM_nz s l _ h.2 x hx
theorem selM_cons (a : Ent) (l : List Ent) (x : Nat) : selM (a :: l) x = if a.i = x then (a.u, a.s) else selM l x := by
  unfold selM
  rw [List.find?_cons]
  by_cases h : a.i = x
  · have : (a.i == x) = true := by simpa using h
    rw [this, if_pos h]
  · have : (a.i == x) = false := by simpa using h
    rw [this, if_neg h]
theorem selM_none {m : List Ent} {x : Nat} (h : ∀ e ∈ m, e.i ≠ x) : selM m x = (0, []) := by
  induction m with
  | nil => rfl
  | cons a l ih => rw [selM_cons, if_neg (h a (by simp)), ih fun e he => h e (by simp [he])]
theorem Sorted.gt {a : Ent} {l : List Ent} (h : Sorted (a :: l)) : ∀ e ∈ l, a.i < e.i := fun e he => by
  obtain ⟨j, hj⟩ := List.mem_iff_getElem?.1 he
  exact h 0 (j + 1) a e (by omega) rfl (by simpa using hj)
theorem nz_ne {e : Ent} (h : nzE e = true) : (e.u, e.s) ≠ (0, []) := fun hh => by
  have h1 : e.u = 0 := congrArg Prod.fst hh
  have h2 : e.s = [] := congrArg Prod.snd hh
  unfold nzE at h
  rw [h1, h2] at h
  cases h
theorem eqE_iff (a b : Ent) : eqE a b = true ↔ a = b := by
  obtain ⟨i, u, s⟩ := a
  obtain ⟨j, v, t⟩ := b
  unfold eqE
  simp
def diffO : List Ent → List Ent → Option Nat
  | [], [] => none
  | [], b :: _ => some b.i
  | a :: _, [] => some a.i
  | a :: l, b :: m => if eqE a b then diffO l m else some (min a.i b.i)
theorem diffM_O : ∀ a b, diffM a b = (diffO a b).getD 0
  | [], [] => rfl
  | [], b :: _ => rfl
  | a :: _, [] => rfl
  | a :: l, b :: m => by
    unfold diffM diffO
    split
    · exact diffM_O l m
    · rfl
theorem diffO_none : ∀ {a b : List Ent}, diffO a b = none → a = b
  | [], [], _ => rfl
  | [], b :: _, h => by cases h
  | a :: _, [], h => by cases h
  | a :: l, b :: m, h => by
    unfold diffO at h
    split at h
    · rename_i he
      rw [(eqE_iff a b).1 he, diffO_none h]
    · cases h
/-- the first difference -/
theorem diffO_some : ∀ {a b : List Ent} {d : Nat}, Sorted a → Sorted b → NZ a → NZ b → diffO a b = some d → selM a d ≠ selM b d ∧ (∃ e, (e ∈ a ∨ e ∈ b) ∧ e.i = d) ∧ ∀ n, n < d → selM a n = selM b n
  | [], [], d, _, _, _, _, h => by cases h
  | [], b :: m, d, _, sb, _, nb, h => by
    cases h
    refine ⟨?_, ⟨b, .inr (by simp), rfl⟩, fun n hn => ?_⟩
    · rw [selM_cons, if_pos rfl]
      exact (nz_ne (nb b (by simp))).symm
    · rw [selM_none (m := b :: m) fun e he => by
        rcases List.mem_cons.1 he with rfl | he
        · omega
        · have := sb.gt e he; omega]
      rfl
  | a :: l, [], d, sa, _, na, _, h => by
    cases h
    refine ⟨?_, ⟨a, .inl (by simp), rfl⟩, fun n hn => ?_⟩
    · rw [selM_cons, if_pos rfl]
      exact nz_ne (na a (by simp))
    · rw [selM_none (m := a :: l) fun e he => by
        rcases List.mem_cons.1 he with rfl | he
        · omega
        · have := sa.gt e he; omega]
      rfl
  | a :: l, b :: m, d, sa, sb, na, nb, h => by
    unfold diffO at h
    split at h
    · rename_i he
      have hab := (eqE_iff a b).1 he
      subst hab
      obtain ⟨h1, ⟨e, hem, hed⟩, h3⟩ := diffO_some sa.tail sb.tail na.tail nb.tail h
      have hlt : a.i < d := by
        rcases hem with hem | hem
        · have := sa.gt e hem; omega
        · have := sb.gt e hem; omega
      refine ⟨?_, ⟨e, hem.imp (fun h => by simp [h]) (fun h => by simp [h]), hed⟩, fun n hn => ?_⟩
      · rw [selM_cons, selM_cons, if_neg (by omega), if_neg (by omega)]
        exact h1
      · rw [selM_cons, selM_cons]
        split
        · rfl
        · exact h3 n hn
    · rename_i hne
      have hne' : a ≠ b := fun e => hne ((eqE_iff a b).2 e)
      cases h
      have low : ∀ (c : Ent) (k : List Ent) (n : Nat), Sorted (c :: k) → n < c.i → selM (c :: k) n = (0, []) := fun c k n hs hn => selM_none fun e he => by
        rcases List.mem_cons.1 he with rfl | he
        · omega
        · have := hs.gt e he; omega
      refine ⟨?_, ?_, fun n hn => ?_⟩
      · rcases Nat.lt_trichotomy a.i b.i with h | h | h
        · rw [Nat.min_eq_left (by omega), selM_cons, if_pos rfl, low b m a.i sb h]
          exact nz_ne (na a (by simp))
        · rw [Nat.min_eq_left (by omega), selM_cons, if_pos rfl, selM_cons, if_pos h.symm]
          intro hh
          apply hne'
          obtain ⟨i, u, s⟩ := a
          obtain ⟨j, v, t⟩ := b
          simp only [Prod.mk.injEq] at hh
          simp only at h
          rw [h, hh.1, hh.2]
        · rw [Nat.min_eq_right (by omega), selM_cons b m, if_pos rfl, low a l b.i sa h]
          exact (nz_ne (nb b (by simp))).symm
      · rcases Nat.le_total a.i b.i with h | h
        · exact ⟨a, .inl (by simp), by omega⟩
        · exact ⟨b, .inr (by simp), by omega⟩
      · rw [low a l n sa (by omega), low b m n sb (by omega)]
theorem sel_ext {a b : List Ent} (sa : Sorted a) (sb : Sorted b) (na : NZ a) (nb : NZ b) (h : ∀ n, selM a n = selM b n) : a = b := by
  cases hd : diffO a b with
  | none => exact diffO_none hd
  | some d => exact absurd (h d) (diffO_some sa sb na nb hd).1
/-! #### What was put -/
theorem sel_put (e : Ent) : ∀ (m : List Ent) (x : Nat), Sorted m → selM (putM e m) x = if x = e.i then (e.u, e.s) else selM m x
  | [], x, _ => by
    unfold putM
    by_cases hz : nzE e = true
    · rw [if_pos hz, selM_cons]
      by_cases h : x = e.i
      · rw [if_pos h, if_pos h.symm]
      · rw [if_neg h, if_neg (fun h' => h h'.symm)]
    · rw [if_neg hz]
      by_cases h : x = e.i
      · rw [if_pos h]
        have hz' : nzE e = false := by simpa using hz
        unfold nzE at hz'
        simp at hz'
        rw [hz'.1, hz'.2]
        rfl
      · rw [if_neg h]
  | a :: l, x, hs => by
    unfold putM
    split
    · rename_i hlt
      rw [selM_cons, sel_put e l x hs.tail, selM_cons]
      by_cases h : a.i = x
      · rw [if_pos h, if_pos h, if_neg (by omega)]
      · rw [if_neg h, if_neg h]
    · rename_i hnl
      have rest : x ≠ e.i → selM (if a.i = e.i then l else a :: l) x = selM (a :: l) x := by
        intro hx
        split
        · rename_i h
          rw [selM_cons, if_neg (by omega)]
        · rfl
      have absent : nzE e = false → x = e.i → selM (if a.i = e.i then l else a :: l) x = (0, []) := by
        intro _ hx
        split
        · rename_i h
          exact selM_none fun y hy => by have := hs.gt y hy; omega
        · rename_i h
          exact selM_none fun y hy => by
            rcases List.mem_cons.1 hy with rfl | hy
            · omega
            · have := hs.gt y hy; omega
      by_cases hz : nzE e = true
      · rw [if_pos hz]
        show selM (e :: _) x = _
        rw [selM_cons]
        by_cases h : x = e.i
        · rw [if_pos h, if_pos h.symm]
        · rw [if_neg h, if_neg (fun h' => h h'.symm)]
          exact rest h
      · have hz' : nzE e = false := by simpa using hz
        rw [if_neg hz, List.nil_append]
        by_cases h : x = e.i
        · rw [if_pos h, absent hz' h]
          unfold nzE at hz'
          simp at hz'
          rw [hz'.1, hz'.2]
        · rw [if_neg h]
          exact rest h
/-- the reference's way to the first difference -/
def leastF (D : Nat → Bool) : List Nat → Nat → Nat
  | [], b => b
  | n :: l, b => leastF D l (if n < b && D n then n else b)
theorem leastF_spec (D : Nat → Bool) : ∀ (l : List Nat) (b : Nat), (leastF D l b = b ∨ (leastF D l b ∈ l ∧ D (leastF D l b) = true)) ∧ leastF D l b ≤ b ∧ ∀ n ∈ l, D n = true → leastF D l b ≤ n
  | [], b => ⟨.inl rfl, Nat.le_refl _, by simp⟩
  | n :: l, b => by
    unfold leastF
    obtain ⟨h1, h2, h3⟩ := leastF_spec D l (if n < b && D n then n else b)
    by_cases hc : (n < b && D n) = true
    · rw [if_pos hc] at h1 h2 h3 ⊢
      simp only [Bool.and_eq_true, decide_eq_true_eq] at hc
      refine ⟨?_, by omega, fun x hx hd => ?_⟩
      · rcases h1 with h | ⟨h, h'⟩
        · exact .inr ⟨by rw [h]; simp, by rw [h]; exact hc.2⟩
        · exact .inr ⟨by simp [h], h'⟩
      · rcases List.mem_cons.1 hx with rfl | hx
        · exact h2
        · exact h3 x hx hd
    · rw [if_neg hc] at h1 h2 h3 ⊢
      refine ⟨h1.imp id fun ⟨h, h'⟩ => ⟨by simp [h], h'⟩, h2, fun x hx hd => ?_⟩
      rcases List.mem_cons.1 hx with rfl | hx
      · simp only [Bool.and_eq_true, decide_eq_true_eq] at hc
        have : ¬ x < b := fun hh => hc ⟨hh, hd⟩
        omega
      · exact h3 x hx hd
theorem leastF_diff {a b : List Ent} (sa : Sorted a) (sb : Sorted b) (na : NZ a) (nb : NZ b) (B : Nat) (hB : ∀ e, e ∈ a ∨ e ∈ b → e.i < B) (D : Nat → Bool) (hD : ∀ n, D n = true ↔ selM a n ≠ selM b n) :
    (if leastF D (a.map (·.i) ++ b.map (·.i)) B = B then 0 else leastF D (a.map (·.i) ++ b.map (·.i)) B) = diffM a b := by
  obtain ⟨h1, h2, h3⟩ := leastF_spec D (a.map (·.i) ++ b.map (·.i)) B
  have mem : ∀ n, n ∈ a.map (·.i) ++ b.map (·.i) ↔ ∃ e, (e ∈ a ∨ e ∈ b) ∧ e.i = n := by
    intro n
    simp only [List.mem_append, List.mem_map]
    constructor
    · rintro (⟨e, he, rfl⟩ | ⟨e, he, rfl⟩)
      · exact ⟨e, .inl he, rfl⟩
      · exact ⟨e, .inr he, rfl⟩
    · rintro ⟨e, he | he, rfl⟩
      · exact .inl ⟨e, he, rfl⟩
      · exact .inr ⟨e, he, rfl⟩
  rw [diffM_O]
  cases hd : diffO a b with
  | none =>
    have := diffO_none hd
    subst this
    have hn : leastF D (a.map (·.i) ++ a.map (·.i)) B = B := by
      rcases h1 with h | ⟨_, h⟩
      · exact h
      · exact absurd rfl ((hD _).1 h)
    rw [if_pos hn]; rfl
  | some d =>
    obtain ⟨g1, ⟨e, he, hed⟩, g3⟩ := diffO_some sa sb na nb hd
    have hdl : d < B := by rw [← hed]; exact hB e he
    have hle := h3 d ((mem d).2 ⟨e, he, hed⟩) ((hD d).2 g1)
    have hne : leastF D (a.map (·.i) ++ b.map (·.i)) B ≠ B := by omega
    rw [if_neg hne]
    rcases h1 with h | ⟨_, h⟩
    · exact absurd h hne
    · have : ¬ leastF D (a.map (·.i) ++ b.map (·.i)) B < d := fun hh => (hD _).1 h (g3 _ hh)
      show _ = d
      omega
theorem okM_bound (s : Srt) (hs : VS s) : ∀ (l : List Ent) (p : Option Nat), okM s p l = true → s.x ≤ 16 → ∀ e ∈ l, e.i < 65536
  | [], p, _, _ => fun e he => by cases he
  | a :: l, p, h, hx => by
    rw [okM_cons] at h
    simp only [Bool.and_eq_true] at h
    intro e he
    rcases List.mem_cons.1 he with rfl | he
    · have h1 := h.1.2
      unfold okE at h1
      simp only [Bool.and_eq_true] at h1
      have h2 := h1.1.1.1
      unfold bel at h2
      have hx0 := hs.x0
      have : (s.x == 64) = false := by simp; omega
      rw [this, Bool.false_or, decide_eq_true_eq] at h2
      have hp : (2 : Nat) ^ s.x.toNat ≤ 2 ^ 16 := Nat.pow_le_pow_right (by omega) (by omega)
      omega
    · exact okM_bound s hs l _ h.2 hx e he
/-- what a valid array is -/
structure Arr (v : Val) : Prop where
  so : Sorted v.m
  nz : NZ v.m
  x1 : 1 ≤ v.t.x
  x2 : v.t.x ≤ 16
  ix : ∀ e ∈ v.m, e.i < 65536
  u : v.u = 0
  s : v.s = []
  ok : okM v.t none v.m = true
theorem arr_of {v : Val} (h : validV v = 0) (ha : arrS v.t = true) : Arr v := by
  have hv := valid_of h
  have vs := vs_of hv
  have hx : 1 ≤ v.t.x ∧ v.t.x ≤ 16 := by
    unfold validS at hv
    unfold arrS at ha
    simp only [Bool.or_eq_true, Bool.and_eq_true, decide_eq_true_eq, beq_iff_eq] at hv ha
    omega
  have hb : validB v = true := by
    unfold validV at h
    rw [if_pos hv] at h
    by_cases hh : validB v = true
    · exact hh
    · rw [if_neg hh] at h; omega
  unfold validB at hb
  have hk : v.t.k ≠ 0 ∧ v.t.k ≠ 1 := by
    unfold arrS at ha
    simp only [Bool.or_eq_true, beq_iff_eq] at ha
    omega
  rw [if_neg hk.1, if_neg hk.2] at hb
  simp only [Bool.and_eq_true, beq_iff_eq, List.isEmpty_iff] at hb
  exact ⟨(okM_sorted _ _ _ hb.2).1, okM_nz _ _ _ hb.2, hx.1, hx.2, okM_bound v.t vs v.m none hb.2 hx.2, hb.1.1, hb.1.2, hb.2⟩
end Go.Proofs.Ytjjhfdjpmonlaaa

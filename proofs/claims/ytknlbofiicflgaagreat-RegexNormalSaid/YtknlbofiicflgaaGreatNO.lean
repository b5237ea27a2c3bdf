/- Expressions, plain: the order is one of equals; sorting, leaving out equal ones, and putting in one after the other. No program in sight. -/
import Derived.Test.YtknlbofiicflgaaGreatG7
namespace Go.Proofs.YtknlbofiicflgaaGreat
open Go Go.W

def insX (x : Rx) : List Rx → List Rx
  | [] => [x]
  | y :: p => if cmpR x y < 0 then y :: insX x p else x :: y :: p
def sortX (l : List Rx) : List Rx := (l.foldl (fun p x => insX x p) []).reverse
def compGoX (p : Rx) : List Rx → List Rx
  | [] => []
  | x :: l => if cmpR x p == 0 then compGoX x l else x :: compGoX x l
def compX : List Rx → List Rx
  | [] => []
  | a :: l => a :: compGoX a l
/-! #### The order -/
theorem cmpI_zero {a b : Int} (h : cmpI a b = 0) : a = b := by
  unfold cmpI at h
  split at h
  · cases h
  · split at h
    · cases h
    · omega
theorem orI_zero : ∀ {l : List Int}, orI l = 0 → ∀ x ∈ l, x = 0
  | [], _ => fun x hx => by cases hx
  | a :: l, h => by
    unfold orI at h
    split at h
    · rename_i hne; exact absurd h hne
    · rename_i he
      have he : a = 0 := by simpa using he
      intro x hx
      rcases List.mem_cons.1 hx with rfl | hx
      · exact he
      · exact orI_zero h x hx
theorem u8_nat {a b : UInt8} (h : (a.toNat : Int) = b.toNat) : a = b := UInt8.toNat_inj.1 (by omega)
mutual
theorem cmp_eq : ∀ a b : Rx, cmpR a b = 0 → a = b
  | .mk k lo hi l, .mk k' lo' hi' l', h => by
    rw [cmpR_eq] at h
    have h := orI_zero h
    have h1 := cmpI_zero (h _ (List.mem_cons_self ..))
    have h2 := u8_nat (cmpI_zero (h _ (List.mem_cons_of_mem _ (List.mem_cons_self ..))))
    have h3 := u8_nat (cmpI_zero (h _ (List.mem_cons_of_mem _ (List.mem_cons_of_mem _ (List.mem_cons_self ..)))))
    have h4 := cmps_eq l l' (h _ (List.mem_cons_of_mem _ (List.mem_cons_of_mem _ (List.mem_cons_of_mem _ (List.mem_cons_self ..)))))
    simp only [Rx.k, Rx.lo, Rx.hi] at h1 h2 h3
    rw [h1, h2, h3, h4]
theorem cmps_eq : ∀ l m : List Rx, cmpL l m = 0 → l = m
  | [], [], _ => rfl
  | [], _ :: _, h => by unfold cmpL at h; cases h
  | _ :: _, [], h => by unfold cmpL at h; cases h
  | a :: l, b :: m, h => by
    unfold cmpL at h
    split at h
    · rename_i hne; exact absurd h hne
    · rename_i he
      rw [cmp_eq a b (by simpa using he), cmps_eq l m h]
end
theorem cmp_self (a : Rx) : cmpR a a = 0 := by have := cmpR_neg a a; omega
theorem cmp_iff {a b : Rx} : (cmpR a b == 0) = true ↔ a = b := ⟨fun h => cmp_eq a b (eq_of_beq h), fun h => by subst h; rw [cmp_self]; rfl⟩
theorem cmp_iff0 {a b : Rx} : cmpR a b = 0 ↔ a = b := ⟨cmp_eq a b, fun h => by subst h; exact cmp_self a⟩
theorem cmp_ne {a b : Rx} : (!(cmpR a b == 0)) = true ↔ a ≠ b := by rw [Bool.not_eq_true', ← Bool.not_eq_true, not_congr cmp_iff]
abbrev Inc (l : List Rx) : Prop := l.Pairwise fun a b => cmpR a b < 0
abbrev Asc (l : List Rx) : Prop := l.Pairwise fun a b => cmpR a b ≤ 0
theorem Inc.nodup {l : List Rx} (h : Inc l) : l.Nodup := List.nodup_iff_pairwise_ne.2 (h.imp fun {a b} hab e => by subst e; rw [cmp_self] at hab; omega)
theorem Inc.asc {l : List Rx} (h : Inc l) : Asc l := h.imp fun {a b} hab => by omega
theorem asc_unique {l m : List Rx} (hl : Asc l) (hm : Asc m) (h : l.Perm m) : l = m := List.Perm.eq_of_pairwise (fun a b _ _ h1 h2 => cmp_eq a b (by have := cmpR_neg a b; omega)) hl hm h
theorem inc_unique {l m : List Rx} (hl : Inc l) (hm : Inc m) (h : ∀ t, t ∈ l ↔ t ∈ m) : l = m := asc_unique hl.asc hm.asc ((List.perm_ext_iff_of_nodup hl.nodup hm.nodup).2 h)
/-! #### Sorting -/
theorem insX_perm (x : Rx) : ∀ p : List Rx, (insX x p).Perm (x :: p)
  | [] => .refl _
  | y :: p => by
    unfold insX
    split
    · exact ((insX_perm x p).cons y).trans (.swap x y p)
    · exact .refl _
theorem insX_desc (x : Rx) : ∀ {p : List Rx}, p.Pairwise (fun a b => cmpR b a ≤ 0) → (insX x p).Pairwise fun a b => cmpR b a ≤ 0
  | [], _ => by unfold insX; simp
  | y :: p, h => by
    have hp := List.pairwise_cons.1 h
    unfold insX
    split
    · rename_i hxy
      refine List.pairwise_cons.2 ⟨fun t ht => ?_, insX_desc x hp.2⟩
      rcases List.mem_cons.1 ((insX_perm x p).mem_iff.1 ht) with rfl | ht
      · omega
      · exact hp.1 t ht
    · rename_i hxy
      have hyx : cmpR y x ≤ 0 := by have := cmpR_neg x y; omega
      refine List.pairwise_cons.2 ⟨fun t ht => ?_, h⟩
      rcases List.mem_cons.1 ht with rfl | ht
      · exact hyx
      · exact (cmpR_tri t y x).le (hp.1 t ht) hyx
theorem sortX_perm (l : List Rx) : (sortX l).Perm l := by
  have : ∀ (l p : List Rx), (l.foldl (fun p x => insX x p) p).Perm (l ++ p) := by
    intro l
    induction l with
    | nil => intro p; exact .refl _
    | cons a l ih =>
      intro p
      rw [List.foldl_cons]
      exact (ih _).trans (((insX_perm a p).append_left l).trans List.perm_middle)
  unfold sortX
  have h := this l []
  rw [List.append_nil] at h
  exact (List.reverse_perm _).trans h
theorem sortX_asc (l : List Rx) : Asc (sortX l) := by
  have : ∀ (l p : List Rx), p.Pairwise (fun a b => cmpR b a ≤ 0) → (l.foldl (fun p x => insX x p) p).Pairwise fun a b => cmpR b a ≤ 0 := by
    intro l
    induction l with
    | nil => intro p h; exact h
    | cons a l ih => intro p h; exact ih _ (insX_desc a h)
  unfold sortX
  exact List.pairwise_reverse.2 (this l [] .nil)
theorem sortX_of {l m : List Rx} (h : Asc m) (hp : m.Perm l) : m = sortX l := asc_unique h (sortX_asc l) (hp.trans (sortX_perm l).symm)
theorem compGoX_mem {t : Rx} : ∀ {l : List Rx} {p : Rx}, (t = p ∨ t ∈ compGoX p l) ↔ (t = p ∨ t ∈ l)
  | [], p => by unfold compGoX; simp
  | x :: l, p => by
    unfold compGoX
    split
    · rename_i h
      have e : x = p := cmp_iff.1 h
      subst e
      rw [compGoX_mem, List.mem_cons]
      constructor
      · rintro (h | h) <;> simp [h]
      · rintro (h | h | h) <;> simp [h]
    · rw [List.mem_cons, List.mem_cons]
      have := compGoX_mem (t := t) (l := l) (p := x)
      constructor
      · rintro (h | h)
        · exact .inl h
        · exact .inr (this.1 h)
      · rintro (h | h)
        · exact .inl h
        · exact .inr (this.2 h)
theorem compGoX_inc : ∀ {l : List Rx} {p : Rx}, Asc (p :: l) → Inc (p :: compGoX p l)
  | [], p, _ => by unfold compGoX; simp
  | x :: l, p, h => by
    obtain ⟨h1, h2⟩ := List.pairwise_cons.1 h
    unfold compGoX
    split
    · rename_i hx
      have e : x = p := cmp_iff.1 hx
      subst e
      exact compGoX_inc h2
    · rename_i hx
      have hlt : cmpR p x < 0 := by
        have h3 := h1 x (by simp)
        have h4 := cmpR_neg x p
        have h5 : cmpR x p ≠ 0 := fun e => hx (by rw [e]; rfl)
        omega
      have hi := compGoX_inc h2
      refine List.pairwise_cons.2 ⟨fun t ht => ?_, hi⟩
      rcases List.mem_cons.1 ht with rfl | ht
      · exact hlt
      · exact (cmpR_tri p x t).lt hlt (by have := (List.pairwise_cons.1 hi).1 t ht; omega)
theorem compX_inc {l : List Rx} (h : Asc l) : Inc (compX l) := by
  cases l with
  | nil => exact .nil
  | cons a l => exact compGoX_inc h
theorem compX_mem {t : Rx} {l : List Rx} : t ∈ compX l ↔ t ∈ l := by
  cases l with
  | nil => exact Iff.rfl
  | cons a l => show t ∈ a :: compGoX a l ↔ _; rw [List.mem_cons, List.mem_cons]; exact compGoX_mem
/-- the sorted ones, each once -/
def setX (l : List Rx) : List Rx := compX (sortX l)
theorem setX_inc (l : List Rx) : Inc (setX l) := compX_inc (sortX_asc l)
theorem setX_mem {t : Rx} {l : List Rx} : t ∈ setX l ↔ t ∈ l := by unfold setX; rw [compX_mem, (sortX_perm l).mem_iff]
theorem setX_of {l : List Rx} (h : Inc l) : setX l = l := inc_unique (setX_inc l) h fun t => setX_mem
/-! #### Putting in one after the other -/
def putX (r : Rx) : List Rx → List Rx
  | [] => [r]
  | y :: p => if cmpR y r < 0 then y :: putX r p else if cmpR y r = 0 then y :: p else r :: y :: p
theorem putX_mem {t r : Rx} : ∀ {p : List Rx}, t ∈ putX r p ↔ t = r ∨ t ∈ p
  | [] => by unfold putX; simp
  | y :: p => by
    unfold putX
    split
    · rw [List.mem_cons, putX_mem, List.mem_cons]
      constructor
      · rintro (h | h | h) <;> simp [h]
      · rintro (h | h | h) <;> simp [h]
    · split
      · rename_i he
        have e := cmp_eq y r he
        subst e
        simp
      · simp
theorem putX_inc {r : Rx} : ∀ {p : List Rx}, Inc p → Inc (putX r p)
  | [], _ => by unfold putX; simp
  | y :: p, h => by
    obtain ⟨h1, h2⟩ := List.pairwise_cons.1 h
    unfold putX
    split
    · rename_i hy
      refine List.pairwise_cons.2 ⟨fun t ht => ?_, putX_inc h2⟩
      rcases putX_mem.1 ht with rfl | ht
      · exact hy
      · exact h1 t ht
    · split
      · exact h
      · rename_i hy hne
        have hr : cmpR r y < 0 := by have := cmpR_neg r y; omega
        refine List.pairwise_cons.2 ⟨fun t ht => ?_, h⟩
        rcases List.mem_cons.1 ht with rfl | ht
        · exact hr
        · exact (cmpR_tri r y t).lt hr (by have := h1 t ht; omega)
/-- what the reference collects -/
def outX (k : Int) : List Rx → List Rx → List Rx
  | out, [] => out
  | out, t :: l => outX k (if k = 3 then out ++ [t] else putX t out) l
theorem outX_cat : ∀ (l out : List Rx), outX 3 out l = out ++ l
  | [], out => by unfold outX; simp
  | t :: l, out => by unfold outX; rw [outX_cat l, if_pos rfl]; simp
theorem outX_inc {k : Int} (hk : k ≠ 3) : ∀ (l : List Rx) {out : List Rx}, Inc out → Inc (outX k out l)
  | [], _, h => h
  | t :: l, out, h => by unfold outX; rw [if_neg hk]; exact outX_inc hk l (putX_inc h)
theorem outX_mem {k : Int} (hk : k ≠ 3) {t : Rx} : ∀ (l : List Rx) {out : List Rx}, t ∈ outX k out l ↔ t ∈ out ∨ t ∈ l
  | [], out => by unfold outX; simp
  | a :: l, out => by
    unfold outX
    rw [if_neg hk, outX_mem hk l, putX_mem, List.mem_cons]
    constructor
    · rintro ((h | h) | h) <;> simp [h]
    · rintro (h | h | h) <;> simp [h]
theorem outX_eq (k : Int) (l : List Rx) : outX k [] l = if k = 3 then l else setX l := by
  split
  · rename_i h; subst h; rw [outX_cat]; rfl
  · rename_i h
    exact inc_unique (outX_inc h l .nil) (setX_inc l) fun t => by rw [outX_mem h, setX_mem]; simp
/-! #### Measures -/
/-- a measure, added up -/
def ms (μ : Rx → Nat) : List Rx → Nat
  | [] => 0
  | a :: l => μ a + ms μ l
section
variable {μ : Rx → Nat}
theorem ms_app : ∀ l m : List Rx, ms μ (l ++ m) = ms μ l + ms μ m
  | [], m => by simp [ms]
  | a :: l, m => by show μ a + ms μ (l ++ m) = μ a + ms μ l + ms μ m; rw [ms_app l m]; omega
theorem ms_perm {l m : List Rx} (h : l.Perm m) : ms μ l = ms μ m := by
  induction h with
  | nil => rfl
  | cons x _ ih => show μ x + _ = μ x + _; rw [ih]
  | swap x y l => show μ y + (μ x + _) = μ x + (μ y + _); omega
  | trans _ _ h1 h2 => rw [h1, h2]
end
mutual
/-- how many leaves -/
def lvX : Rx → Nat | .mk _ _ _ l => max 1 (lvsX l)
def lvsX : List Rx → Nat
  | [] => 0
  | a :: l => lvX a + lvsX l
end
theorem lvs_ms : ∀ l : List Rx, lvsX l = ms lvX l
  | [] => rfl
  | a :: l => by unfold lvsX; rw [lvs_ms l]; rfl
theorem lv_mk (k : Int) (lo hi : UInt8) (l : List Rx) : lvX (.mk k lo hi l) = max 1 (ms lvX l) := by unfold lvX; rw [lvs_ms]
/-! #### Few parts -/
mutual
/-- a node that is sorted has few leaves -/
def fewR (N : Nat) : Rx → Prop | .mk k _ _ l => fewRs N l ∧ (k = 4 ∨ k = 5 → ms lvX l ≤ N)
def fewRs (N : Nat) : List Rx → Prop
  | [] => True
  | a :: l => fewR N a ∧ fewRs N l
end
theorem fewRs_iff {N : Nat} : ∀ {l : List Rx}, fewRs N l ↔ ∀ t ∈ l, fewR N t
  | [] => by unfold fewRs; simp
  | a :: l => by unfold fewRs; rw [fewRs_iff]; simp
theorem few_l {N : Nat} {x : Rx} (h : fewR N x) : ∀ t ∈ x.l, fewR N t := by
  cases x
  unfold fewR at h
  exact fewRs_iff.1 h.1
mutual
theorem few_lv {N : Nat} : ∀ x : Rx, lvX x ≤ N → fewR N x
  | .mk k lo hi l, h => by
    rw [lv_mk] at h
    unfold fewR
    exact ⟨few_lvs l (by omega), fun _ => by omega⟩
theorem few_lvs {N : Nat} : ∀ l : List Rx, ms lvX l ≤ N → fewRs N l
  | [], _ => by unfold fewRs; trivial
  | a :: l, h => by
    have h : lvX a + ms lvX l ≤ N := h
    unfold fewRs
    exact ⟨few_lv a (by omega), few_lvs l (by omega)⟩
end
end Go.Proofs.YtknlbofiicflgaaGreat

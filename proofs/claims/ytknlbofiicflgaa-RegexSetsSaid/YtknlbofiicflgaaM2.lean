/- Package regex: repeated, the closures of spans, spans, Match: the contracts. -/
import Derived.Test.YtknlbofiicflgaaM1
namespace Go.Proofs.Ytknlbofiicflgaa
open Go Go.W

theorem anyM_congr {p q : Nat → Bool} : ∀ (d i : Nat), (∀ m, i ≤ m → m < i + d → p m = q m) → anyM p i d = anyM q i d
  | 0, _, _ => rfl
  | d + 1, i, h => by
    unfold anyM
    rw [h i (Nat.le_refl _) (by omega), anyM_congr d (i + 1) fun m h1 h2 => h m (by omega) (by omega)]
theorem anyM_snoc (p : Nat → Bool) : ∀ (d i : Nat), anyM p i (d + 1) = (anyM p i d || p (i + d))
  | 0, i => by unfold anyM; simp [anyM]
  | d + 1, i => by
    have h := anyM_snoc p d (i + 1)
    show (p i || anyM p (i + 1) (d + 1)) = ((p i || anyM p (i + 1) d) || p (i + (d + 1)))
    rw [h, Bool.or_assoc, show i + 1 + d = i + (d + 1) by omega]
theorem anyM_up {p : Nat → Bool} {i d e : Nat} (h : anyM p i d = true) (hd : d ≤ e) : anyM p i e = true := by
  induction e with
  | zero =>
    have : d = 0 := by omega
    subst this
    exact h
  | succ e ih =>
    by_cases hde : d = e + 1
    · rw [← hde]; exact h
    · rw [anyM_snoc, ih (by omega)]; rfl
def epsQ (i j : Nat) : Bool := i == j
def rngQ (lo hi : UInt8) (u : List UInt8) (i j : Nat) : Bool := (j == i + 1) && (match u[i]? with | some b => decide (lo.toNat ≤ b.toNat) && decide (b.toNat ≤ hi.toNat) | none => false)
def meetQ (a b : Nat → Nat → Bool) (i j : Nat) : Bool := anyM (fun m => a i m && b m j) i (j + 1 - i)
def bothQ (all : Bool) (a b : Nat → Nat → Bool) (i j : Nat) : Bool := if all then a i j && b i j else a i j || b i j
def starQ (a : Nat → Nat → Bool) : Nat → Nat → Nat → Bool
  | 0, i, j => i == j
  | f + 1, i, j => (i == j) || anyM (fun m => a i m && starQ a f m j) (i + 1) (j - i)
theorem starQ_same (a : Nat → Nat → Bool) : ∀ (f g i j : Nat), j - i ≤ f → j - i ≤ g → i ≤ j → starQ a f i j = starQ a g i j
  | 0, g, i, j, hf, hg, hij => by
    have : i = j := by omega
    subst this
    cases g <;> simp [starQ]
  | f + 1, g, i, j, hf, hg, hij => by
    by_cases e : i = j
    · subst e
      cases g <;> simp [starQ]
    · cases g with
      | zero => omega
      | succ g =>
        unfold starQ
        congr 1
        exact anyM_congr _ _ fun m h1 h2 => by rw [starQ_same a f g m j (by omega) (by omega) (by omega)]
def starS (a : Nat → Nat → Bool) (i j : Nat) : Bool := starQ a (j - i) i j
theorem starS_eq (a : Nat → Nat → Bool) {i j : Nat} (h : i ≤ j) : starS a i j = ((i == j) || anyM (fun m => a i m && starS a m j) (i + 1) (j - i)) := by
  unfold starS
  by_cases e : i = j
  · subst e
    simp [starQ]
  · obtain ⟨d, hd⟩ : ∃ d, j - i = d + 1 := ⟨j - i - 1, by omega⟩
    rw [hd]
    show ((i == j) || anyM (fun m => a i m && starQ a d m j) (i + 1) (j - i)) = _
    rw [hd]
    congr 1
    exact anyM_congr _ _ fun m h1 h2 => by rw [starQ_same a d (j - m) m j (by omega) (Nat.le_refl _) (by omega)]
/-! #### repeated -/
theorem c_repeated {a : Sl} {ra : List Sl} {n : Nat} {A : List (List Bool)} (s : ByteArray) (hs : s.size = n) (hn : n ≤ 1000) (w : World) (ha : TbO w a ra n (n + 1) A) :
    Calls Try.prog n_regex_repeated #[a.v, .string s] w fun r w' => RetTab w n (starS (gAt A)) r w' ∧ Fr0 w w' := by
  let S := starS (gAt A)
  let R : Post := fun r w' => RetTab w n (starS (gAt A)) r w' ∧ Fr0 w w'
  have H0 : LH F0 w w [] [.tab a ra n (n + 1) A] := lh0 _ (by
    intro e he
    simp only [List.mem_cons, List.not_mem_nil, or_false] at he
    subst he
    exact ha)
  -- row i, from its end
  have rows : ∀ (i : Nat) (t : Sl) (rs : List Sl) (G : List (List Bool)) (w1 : World), i ≤ n → (∀ k l, k ≤ l → l ≤ n → gAt G k l = if i ≤ k then S k l else epsQ k l) → LH F0 w w1 [.tab t rs n (n + 1) G] [.tab a ra n (n + 1) A] → regex_repeated.L0 a s t ((i : Int) - 1) w1 R := by
    intro i
    induction i with
    | zero =>
      intro t rs G w1 hi hG H
      refine regex_repeated.L0_step _ _ _ _ _ _ (sel_false (decide_eq_false (by omega)) ⟨⟨t, rs, G, rfl, H.get 0, fun b hb => (H.new _ (List.mem_of_getElem? (i := 0) rfl) b hb).resolve_right id, fun k l h1 h2 => ?_⟩, H.fr⟩)
      rw [hG k l h1 h2, if_pos (by omega)]
    | succ i ih =>
      intro t rs G w1 hi hG H
      have ei : (((i + 1 : Nat) : Int) - 1) = (i : Int) := by omega
      rw [ei]
      -- columns
      have cols : ∀ (e j : Nat) (G : List (List Bool)) (w2 : World), j + e = n + 1 → i + 1 ≤ j → (∀ k l, k ≤ l → l ≤ n → gAt G k l = if i + 1 ≤ k ∨ (k = i ∧ l < j) then S k l else epsQ k l) → LH F0 w w2 [.tab t rs n (n + 1) G] [.tab a ra n (n + 1) A] → regex_repeated.L1 a s t (i : Int) (j : Int) w2 R := by
        intro e
        induction e with
        | zero =>
          intro j G w2 hj hij hG H2
          refine regex_repeated.L1_step _ _ _ _ _ _ _ (sel_false (decide_eq_false (by omega)) ?_)
          rw [IntWalk.i64_in _ (by omega)]
          refine ih t rs G w2 (by omega) (fun k l h1 h2 => ?_) H2
          rw [hG k l h1 h2]
          by_cases hk : i ≤ k
          · rw [if_pos (by omega), if_pos hk]
          · rw [if_neg (by omega), if_neg hk]
        | succ e ihe =>
          intro j G w2 hj hij hG H2
          refine regex_repeated.L1_step _ _ _ _ _ _ _ (sel_true (decide_eq_true (by omega)) ?_)
          rw [i64_next _ (by omega)]
          have hSij : S i j = anyM (fun m => gAt A i m && S m j) (i + 1) (j - i) := by
            have := starS_eq (gAt A) (i := i) (j := j) (by omega)
            show starS (gAt A) i j = _
            rw [this, beq_eq_false_iff_ne.2 (by omega : i ≠ j), Bool.false_or]
          -- the sum
          have sum : ∀ (f m : Nat) (G : List (List Bool)) (w3 : World), m + f = j + 1 → i + 1 ≤ m → (∀ k l, k ≤ l → l ≤ n → ¬ (k = i ∧ l = j) → gAt G k l = if i + 1 ≤ k ∨ (k = i ∧ l < j) then S k l else epsQ k l) → gAt G i j = anyM (fun m => gAt A i m && S m j) (i + 1) (m - (i + 1)) →
              LH F0 w w3 [.tab t rs n (n + 1) G] [.tab a ra n (n + 1) A] → regex_repeated.L2 a s t (i : Int) (j : Int) (m : Int) w3 R := by
            intro f
            induction f with
            | zero =>
              intro m G w3 hm him hG hv H3
              refine regex_repeated.L2_step _ _ _ _ _ _ _ _ (sel_false (decide_eq_false (by omega)) ?_)
              show regex_repeated.L1 _ _ _ _ _ _ _
              rw [i64_next _ (by omega)]
              refine ihe (j + 1) G w3 (by omega) (by omega) (fun k l h1 h2 => ?_) H3
              by_cases hkl : k = i ∧ l = j
              · obtain ⟨rfl, rfl⟩ := hkl
                rw [if_pos (.inr ⟨rfl, by omega⟩), hv, hSij, show m - (k + 1) = l - k by omega]
              · rw [hG k l h1 h2 hkl]
                by_cases hc : i + 1 ≤ k ∨ (k = i ∧ l < j)
                · rw [if_pos hc, if_pos (by omega)]
                · rw [if_neg hc, if_neg (by omega)]
            | succ f ihf =>
              intro m G w3 hm him hG hv H3
              have htb : TbO w3 t rs n (n + 1) G := H3.get 0
              have hri : rs[i]? = some (rs[i]'(by rw [htb.len]; omega)) := List.getElem?_eq_getElem _
              generalize rs[i]'(by rw [htb.len]; omega) = r at hri
              have hgi : G[i]? = some (G[i]'(by rw [htb.glen]; omega)) := List.getElem?_eq_getElem _
              have hgl := (htb.rows i r _ hri hgi).1 (by omega)
              refine regex_repeated.L2_step _ _ _ _ _ _ _ _ (sel_true (decide_eq_true (by omega)) (tab_get htb (by omega) (by omega) (by omega) rfl rfl (sel_not (fun h0 => ?_) (fun h1 => ?_))))
              · -- still false
                have put : ∀ (b : Bool) (w4 w5 : World), b = (gAt A i m && S m j) → LH F0 w w5 [.tab t rs n (n + 1) (setG G i j b)] [.tab a ra n (n + 1) A] → regex_repeated.S3 a s t (i : Int) (j : Int) (m : Int) w5 R := by
                  intro b w4 w5 hb H5
                  show regex_repeated.L2 _ _ _ _ _ _ _ _
                  rw [i64_next _ (by omega)]
                  refine ihf (m + 1) (setG G i j b) w5 (by omega) (by omega) (fun k l h1 h2 h3 => ?_) ?_ H5
                  · rw [gAt_set hgi (by omega), if_neg h3]
                    exact hG k l h1 h2 h3
                  · rw [gAt_set hgi (by omega), if_pos ⟨rfl, rfl⟩, show m + 1 - (i + 1) = (m - (i + 1)) + 1 by omega, anyM_snoc, ← hv, h0, Bool.false_or, hb, show i + 1 + (m - (i + 1)) = m by omega]
                have hmj : gAt G m j = S m j := by rw [hG m j (by omega) (by omega) (by omega), if_pos (.inl (by omega))]
                refine H3.dr fun w4 H4 => tab_row (H4.get 0) rfl hri (tab_get (H4.getD 0 : TbO _ _ _ _ _ _) (by omega) (by omega) (by omega) rfl rfl (sel_intro (fun h2 => ?_) (fun h2 => ?_)))
                · exact tab_get (H4.get 0 : TbO _ _ _ _ _ _) (by omega) (by omega) (by omega) rfl rfl (H4.tabSt 0 rfl (by omega) (by omega) (by omega) hri rfl fun w5 H5 => put _ w4 w5 (by rw [h2, hmj]; rfl) H5)
                · exact H4.tabSt 0 rfl (by omega) (by omega) (by omega) hri rfl fun w5 H5 => put _ w4 w5 (by rw [h2]; rfl) H5
              · -- already true
                show regex_repeated.L1 _ _ _ _ _ _ _
                rw [i64_next _ (by omega)]
                refine ihe (j + 1) G w3 (by omega) (by omega) (fun k l h1' h2 => ?_) H3
                by_cases hkl : k = i ∧ l = j
                · obtain ⟨rfl, rfl⟩ := hkl
                  rw [if_pos (.inr ⟨rfl, by omega⟩), h1, hSij]
                  rw [h1] at hv
                  exact (anyM_up hv.symm (by omega)).symm
                · rw [hG k l h1' h2 hkl]
                  by_cases hc : i + 1 ≤ k ∨ (k = i ∧ l < j)
                  · rw [if_pos hc, if_pos (by omega)]
                  · rw [if_neg hc, if_neg (by omega)]
          refine sum (j - i) (i + 1) G w2 (by omega) (Nat.le_refl _) (fun k l h1 h2 _ => hG k l h1 h2) ?_ H2
          rw [hG i j (by omega) (by omega), if_neg (by omega), Nat.sub_self]
          show epsQ i j = false
          exact beq_eq_false_iff_ne.2 (by omega)
      refine regex_repeated.L0_step _ _ _ _ _ _ (sel_true (decide_eq_true (by omega)) ?_)
      rw [i64_next _ (by omega)]
      refine cols (n + 1 - (i + 1)) (i + 1) G w1 (by omega) (Nat.le_refl _) (fun k l h1 h2 => ?_) H
      rw [hG k l h1 h2]
      by_cases hk : i + 1 ≤ k
      · rw [if_pos hk, if_pos (.inl hk)]
      · rw [if_neg hk]
        by_cases hk2 : k = i ∧ l < i + 1
        · obtain ⟨rfl, hl⟩ := hk2
          have : k = l := by omega
          subst this
          rw [if_pos (.inr ⟨rfl, hl⟩)]
          have := starS_eq (gAt A) (i := k) (j := k) (Nat.le_refl _)
          show epsQ k k = starS (gAt A) k k
          rw [this]
          simp [epsQ]
        · rw [if_neg (by omega)]
  have hi : ∀ w' i j, i ≤ j → j ≤ n → LH F0 w w' [] [.tab a ra n (n + 1) A] → Calls Try.prog n_regex_repeated_1 #[.i (i : Int), .i (j : Int)] w' fun r w'' => r = .returned (.bool (epsQ i j)) ∧ Fr0 w' w'' := fun w' i j _ _ _ => by
    refine regex_repeated_1.ok _ _ w' _ ⟨?_, Fr.refl _ _⟩
    congr 2
    rw [Bool.eq_iff_iff]
    simp [epsQ]
    omega
  refine regex_repeated.ok _ _ w _ (H0.callq (c_table s n hs hn ⟨n_regex_repeated_1, #[], #[]⟩ epsQ [.tab a ra n (n + 1) A] w H0.rd (by kernel_rfl) hi) ?_)
  rintro _ w1 ⟨t, rs, G, rfl, ht, ft, hG⟩ _ F1
  have H1 := F1.own (.tab t rs n (n + 1) G) ht ft
  refine ⟨t, rfl, ?_⟩
  rw [hs, IntWalk.i64_in _ (by omega)]
  refine rows n t rs G w1 (Nat.le_refl _) (fun k l h1 h2 => ?_) H1
  rw [hG k l h1 h2]
  by_cases hk : n ≤ k
  · have h3 : k = n := by omega
    have h4 : l = n := by omega
    rw [h3, h4, if_pos (Nat.le_refl _)]
    have := starS_eq (gAt A) (i := n) (j := n) (Nat.le_refl _)
    show epsQ n n = starS (gAt A) n n
    rw [this]
    simp [epsQ]
  · rw [if_neg hk]
end Go.Proofs.Ytknlbofiicflgaa

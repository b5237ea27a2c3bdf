/- Plain laws about spaces between tokens, and about tokens that are written again. No program in sight. -/
import Derived.Test.YtemagdpieebjlaaLL
namespace Go.Proofs.Ytemagdpieebjlaa
open Go Go.W

/-- a text with something put in after some of its line ends -/
inductive Ins (m : List UInt8) : List UInt8 → List UInt8 → Prop
  | nil : Ins m [] []
  | cons {l l' : List UInt8} (c : UInt8) : Ins m l l' → Ins m (c :: l) (c :: l')
  | ins {l l' : List UInt8} : Ins m l l' → Ins m (10 :: l) (10 :: (m ++ l'))
theorem Ins.snoc {m l l' : List UInt8} (h : Ins m l l') (c : UInt8) : Ins m (l ++ [c]) (l' ++ [c]) := by
  induction h with
  | nil => exact .cons c .nil
  | cons d _ ih => exact .cons d ih
  | ins _ ih => rw [List.cons_append, List.cons_append, List.append_assoc]; exact .ins ih
theorem Ins.snoc_ins {m l l' : List UInt8} (h : Ins m l l') : Ins m (l ++ [10]) (l' ++ [10] ++ m) := by
  induction h with
  | nil =>
    have := Ins.ins (m := m) .nil
    rw [List.append_nil] at this
    exact this
  | cons d _ ih => exact .cons d ih
  | ins _ ih =>
    rw [List.cons_append, List.cons_append, List.cons_append, List.append_assoc, List.append_assoc]
    rw [List.append_assoc] at ih
    exact .ins ih
theorem Ins.len {m l l' : List UInt8} (h : Ins m l l') : l.length ≤ l'.length := by
  induction h with
  | nil => exact Nat.le_refl _
  | cons d _ ih => simpa using ih
  | ins _ ih => simp; omega
/-- spaces and whole comments -/
def Blank (m : List UInt8) : Prop := ∀ r, skipN false (m ++ r) = m.length + skipN false r
theorem ins_skip {m l l' : List UInt8} (hm : Blank m) (h : Ins m l l') : ∀ b, ∃ k', skipN b l' = k' ∧ skipN b l ≤ k' ∧ Ins m (l.drop (skipN b l)) (l'.drop k') := by
  induction h with
  | nil => intro b; exact ⟨_, rfl, Nat.le_refl _, by simpa using Ins.nil⟩
  | @cons l l' c h ih =>
    intro b
    obtain ⟨k1, e1, g1, i1⟩ := ih false
    obtain ⟨k2, e2, g2, i2⟩ := ih true
    cases b
    · simp only [skipN]
      by_cases hs : spaceB c = true
      · rw [if_pos hs, if_pos hs]
        refine ⟨_, rfl, by omega, ?_⟩
        rw [e1, Nat.add_comm 1, Nat.add_comm 1]
        exact i1
      · rw [if_neg hs, if_neg hs]
        by_cases hc : c.toNat = 59
        · rw [if_pos hc, if_pos hc]
          refine ⟨_, rfl, by omega, ?_⟩
          rw [e2, Nat.add_comm 1, Nat.add_comm 1]
          exact i2
        · rw [if_neg hc, if_neg hc]
          exact ⟨_, rfl, Nat.le_refl _, .cons c h⟩
    · simp only [skipN]
      by_cases hc : c.toNat = 10
      · rw [if_pos hc, if_pos hc]
        refine ⟨_, rfl, by omega, ?_⟩
        rw [e1, Nat.add_comm 1, Nat.add_comm 1]
        exact i1
      · rw [if_neg hc, if_neg hc]
        refine ⟨_, rfl, by omega, ?_⟩
        rw [e2, Nat.add_comm 1, Nat.add_comm 1]
        exact i2
  | @ins l l' h ih =>
    intro b
    obtain ⟨k1, e1, g1, i1⟩ := ih false
    have ea : skipN b (10 :: l) = 1 + skipN false l := by cases b <;> simp [skipN, spaceB]
    have eb : skipN b (10 :: (m ++ l')) = 1 + (m.length + k1) := by
      have : skipN b (10 :: (m ++ l')) = 1 + skipN false (m ++ l') := by cases b <;> simp [skipN, spaceB]
      rw [this, hm, e1]
    refine ⟨_, rfl, by omega, ?_⟩
    rw [ea, eb, Nat.add_comm 1, Nat.add_comm 1, List.drop_succ_cons, List.drop_succ_cons, ← List.drop_drop, List.drop_left]
    exact i1
theorem ins_take {m l l' : List UInt8} (h : Ins m l l') : ∀ u, (10 : UInt8) ∉ l.take u → u ≤ l.length → l'.take u = l.take u ∧ Ins m (l.drop u) (l'.drop u) := by
  induction h with
  | nil => intro u _ hu; simp at hu; subst hu; exact ⟨rfl, .nil⟩
  | @cons l l' c h ih =>
    intro u h10 hu
    cases u with
    | zero => exact ⟨rfl, .cons c h⟩
    | succ u =>
      rw [List.take_succ_cons] at h10 ⊢
      obtain ⟨i1, i2⟩ := ih u (fun h => h10 (by simp [h])) (by simpa using hu)
      exact ⟨by rw [List.take_succ_cons, i1], i2⟩
  | @ins l l' h ih =>
    intro u h10 hu
    cases u with
    | zero => exact ⟨rfl, .ins h⟩
    | succ u => simp at h10
def TokLe (i j : Nat) (a b : Tok) : Prop := a.kind = b.kind ∧ a.text = b.text ∧ a.at' + j ≤ b.at' + i
theorem lex_ins {m : List UInt8} (hm : Blank m) {i : Nat} {l : List UInt8} {A : List Tok} (h : Lex i l A) : ∀ {j : Nat} {l' : List UInt8}, Ins m l l' → ∃ B, Lex j l' B ∧ All2 (TokLe i j) A B := by
  induction h with
  | @fin i l hn =>
    intro j l' hi
    obtain ⟨k', e, g, q⟩ := ins_skip hm hi false
    rw [next1_fin hn] at q
    have hd : l'.drop k' = [] := by cases h' : l'.drop k' with | nil => rfl | cons c x => rw [h'] at q; cases q
    refine ⟨_, .fin (by rw [e, hd]; rfl), ?_⟩
    exact ⟨⟨rfl, rfl, by simp only; omega⟩, trivial⟩
  | @tok i l kd t u L hn hL ih =>
    intro j l' hi
    obtain ⟨k', e, g, q⟩ := ins_skip hm hi false
    have n1 := next1_loc hn
    obtain ⟨_, hu1, hu2, _⟩ := next1_tok hn
    obtain ⟨t1, t2⟩ := ins_take q u n1.ten hu2
    obtain ⟨B, hB, hAB⟩ := ih (j := j + k' + u) t2
    have hn' : next1 (l'.drop k') = .tok kd t u := by
      rw [← List.take_append_drop u (l'.drop k'), t1]
      refine n1.loc _ ?_
      rcases n1.tail with h | h | ⟨x, r', h, hf⟩
      · exact .inl h
      · rw [h] at t2
        refine .inr (.inl ?_)
        cases h' : (l'.drop k').drop u with | nil => rfl | cons c x => rw [h'] at t2; cases t2
      · rw [h] at t2
        refine .inr (.inr ?_)
        cases h' : (l'.drop k').drop u with
        | nil => rw [h'] at t2; cases t2
        | cons c y =>
          rw [h'] at t2
          cases t2 with
          | cons _ _ => exact ⟨_, _, rfl, hf⟩
          | ins _ => exact ⟨_, _, rfl, hf⟩
    refine ⟨_, .tok (by rw [e]; exact hn') (by rw [e]; exact hB), ?_, ?_⟩
    · exact ⟨rfl, rfl, by simp only; omega⟩
    · exact hAB.mono fun a _ b _ ⟨h1, h2, h3⟩ => ⟨h1, h2, by omega⟩
theorem lex_blank {m : List UInt8} (hm : Blank m) {j : Nat} {l : List UInt8} {A : List Tok} {i : Nat} (h : Lex j l A) (hj : j = i + m.length) : Lex i (m ++ l) A := by
  subst hj
  have ed : (m ++ l).drop (skipN false (m ++ l)) = l.drop (skipN false l) := by rw [hm, ← List.drop_drop, List.drop_left]
  have ei : i + skipN false (m ++ l) = i + m.length + skipN false l := by rw [hm]; omega
  cases h with
  | fin hn => rw [← ei]; exact .fin (by rw [ed]; exact hn)
  | tok hn hL => rw [← ei]; exact .tok (by rw [ed]; exact hn) (by rw [ed, ei]; exact hL)
theorem blank1 : Blank [32] := fun r => by simp [skipN, spaceB]
theorem blank2 : Blank [59, 32, 40, 34, 10] := fun r => by simp [skipN, spaceB]; omega
theorem blank3 : Blank [9, 13, 10] := fun r => by simp [skipN, spaceB]; omega
theorem blank4 : Blank [32, 59, 10, 59, 10] := fun r => by simp [skipN, spaceB]; omega

/-! #### Quotes -/
theorem hex_back (c : UInt8) : digB 16 (hexL.getD (c.toNat / 16) 0) = true ∧ digB 16 (hexL.getD (c.toNat % 16) 0) = true ∧ UInt8.ofNat (16 * hexV (hexL.getD (c.toNat / 16) 0) + hexV (hexL.getD (c.toNat % 16) 0)) = c :=
  all_bytes (p := fun c => digB 16 (hexL.getD (c.toNat / 16) 0) = true ∧ digB 16 (hexL.getD (c.toNat % 16) 0) = true ∧ UInt8.ofNat (16 * hexV (hexL.getD (c.toNat / 16) 0) + hexV (hexL.getD (c.toNat % 16) 0)) = c) (by decide +kernel) c
theorem qu_esc (c : UInt8) (l : List UInt8) : qu (escB c ++ l) = (qu l).push c (escB c).length := by
  unfold escB
  split
  · rename_i h
    show qu (92 :: c :: l) = _
    conv => lhs; unfold qu
    rw [if_neg (by decide), if_neg (by decide)]
    simp only []
    rw [if_pos h]
    rfl
  · rename_i h
    split
    · rename_i h2
      show qu (c :: l) = _
      conv => lhs; unfold qu
      rw [if_neg (by omega), if_pos (by omega), if_neg (by omega)]
      rfl
    · obtain ⟨h1, h2, h3⟩ := hex_back c
      generalize hexL.getD (c.toNat / 16) 0 = x at *
      generalize hexL.getD (c.toNat % 16) 0 = y at *
      show qu (92 :: 120 :: x :: y :: l) = _
      conv => lhs; unfold qu
      rw [if_neg (by decide), if_neg (by decide)]
      simp only []
      rw [if_neg (by decide), if_neg (by decide)]
      simp only [h1, h2, if_true, h3]
      rfl
theorem qu_quote : ∀ (t l : List UInt8), qu (t.flatMap escB ++ [34] ++ l) = .ok t ((t.flatMap escB).length + 1)
  | [], l => by
    show qu (34 :: l) = _
    unfold qu
    rw [if_pos (by decide)]
    rfl
  | c :: t, l => by
    rw [List.flatMap_cons, List.append_assoc, List.append_assoc, qu_esc, ← List.append_assoc, qu_quote t l, QR.push, List.length_append, Nat.add_assoc]
theorem next1_quote (t l : List UInt8) : next1 (quoteB t ++ l) = .tok 5 t (quoteB t).length := by
  have e : quoteB t ++ l = 34 :: (t.flatMap escB ++ [34] ++ l) := by unfold quoteB; simp
  have hl : (quoteB t).length = 1 + ((t.flatMap escB).length + 1) := by unfold quoteB; simp; omega
  rw [e, hl]
  unfold next1
  simp only []
  rw [if_neg (by decide), if_neg (by decide), if_pos (by decide), qu_quote t l]
/-! #### Tokens written again -/
def render (t : Tok) : List UInt8 := if t.kind = 0 then [40] else if t.kind = 1 then [41] else if t.kind = 5 then quoteB t.text else t.text
def SameT (a b : Tok) : Prop := a.kind = b.kind ∧ a.text = b.text
/-- what is known of each token but End -/
theorem lex_each {i : Nat} {l : List UInt8} {L : List Tok} (h : Lex i l L) : ∀ A, L = A ++ [⟨6, [], i + l.length⟩] →
    (A.flatMap fun t => render t ++ [32]).length ≤ 5 * l.length ∧
    (∀ t ∈ A, (∀ r, next1 (render t ++ 32 :: r) = .tok t.kind t.text (render t).length ∧ skipN false (render t ++ 32 :: r) = 0) ∧ t.text.length ≤ l.length ∧
      (t.kind = 0 ∨ t.kind = 1 ∨ t.kind = 5 ∨ (t.kind = 2 ∨ t.kind = 3 ∨ t.kind = 4) ∧ i ≤ t.at' ∧ t.at' - i + t.text.length ≤ l.length ∧ (l.drop (t.at' - i)).take t.text.length = t.text)) := by
  induction h with
  | @fin i l hn =>
    intro A hA
    have : A = [] := by
      have := congrArg List.length hA
      simp at this
      exact this
    subst this
    exact ⟨by simp, by simp⟩
  | @tok i l kd t u L hn hL ih =>
    intro A hA
    have hsk := skipN_le false l
    have n1 := next1_loc hn
    obtain ⟨_, hu1, hu2, hu3⟩ := next1_tok hn
    rw [List.length_drop] at hu2
    obtain ⟨⟨A', hA'⟩, _⟩ := lex_shape hL
    have e : A = ⟨kd, t, i + skipN false l⟩ :: A' := by
      have h1 := congrArg List.dropLast hA
      rw [List.dropLast_concat, hA', ← List.cons_append, List.dropLast_concat] at h1
      exact h1.symm
    obtain ⟨ih1, ih2⟩ := ih A' hA'
    rw [List.length_drop, List.length_drop] at ih1 ih2
    subst e
    have hword : (kd = 2 ∨ kd = 3 ∨ kd = 4) → t.length = u := fun hk => by
      rw [← n1.word hk, List.length_take, List.length_drop]; omega
    have hren : (render ⟨kd, t, i + skipN false l⟩).length + 1 ≤ 5 * u := by
      unfold render
      simp only
      split
      · simp; omega
      · split
        · simp; omega
        · split
          · rename_i h5
            have := (esc_len t).2
            have : t.length < u := by have := n1.kind; omega
            unfold quoteB
            simp only [List.length_append, List.length_cons, List.length_nil]
            omega
          · have := n1.kind
            have := hword (by omega)
            omega
    refine ⟨?_, ?_⟩
    · rw [List.flatMap_cons, List.length_append, List.length_append]
      simp only [List.length_cons, List.length_nil]
      omega
    · intro x hx
      rcases List.mem_cons.1 hx with rfl | hx
      · refine ⟨fun r => ?_, by simp only; omega, ?_⟩
        · unfold render
          simp only
          rcases n1.kind with ⟨rfl, rfl⟩ | ⟨rfl, rfl⟩ | rest
          · exact ⟨rfl, rfl⟩
          · exact ⟨rfl, rfl⟩
          · by_cases h5 : kd = 5
            · subst h5
              simp only [if_true, reduceCtorEq, if_false, show ((5 : Int) = 0) = False from by simp, show ((5 : Int) = 1) = False from by simp]
              exact ⟨next1_quote t _, rfl⟩
            · rw [if_neg (by omega), if_neg (by omega), if_neg h5]
              have hw : kd = 2 ∨ kd = 3 ∨ kd = 4 := by omega
              have h1 := n1.loc (32 :: r) (.inr (.inr ⟨32, r, rfl, by decide⟩))
              have h2 := n1.skip (32 :: r)
              rw [n1.word hw] at h1 h2
              rw [hword hw]
              exact ⟨h1, h2⟩
        · rcases n1.kind with ⟨rfl, rfl⟩ | ⟨rfl, rfl⟩ | rest
          · exact .inl rfl
          · exact .inr (.inl rfl)
          · by_cases h5 : kd = 5
            · exact .inr (.inr (.inl h5))
            · have hw : kd = 2 ∨ kd = 3 ∨ kd = 4 := by omega
              refine .inr (.inr (.inr ⟨hw, by simp, ?_, ?_⟩))
              · have := hword hw
                simp only
                omega
              · simp only
                rw [show i + skipN false l - i = skipN false l from by omega, hword hw]
                exact n1.word hw
      · obtain ⟨g1, g2, g3⟩ := ih2 x hx
        refine ⟨g1, by omega, ?_⟩
        rcases g3 with g | g | g | ⟨g, a1, a2, a3⟩
        · exact .inl g
        · exact .inr (.inl g)
        · exact .inr (.inr (.inl g))
        · refine .inr (.inr (.inr ⟨g, by omega, by omega, ?_⟩))
          conv => rhs; rw [← a3]
          rw [List.drop_drop, List.drop_drop]
          congr 2
          omega
theorem lex_again : ∀ (A : List Tok) (i : Nat), (∀ t ∈ A, ∀ r, next1 (render t ++ 32 :: r) = .tok t.kind t.text (render t).length ∧ skipN false (render t ++ 32 :: r) = 0) → ∃ B z, Lex i (A.flatMap fun t => render t ++ [32]) (B ++ [z]) ∧ z.kind = 6 ∧ z.text = [] ∧ All2 SameT A B
  | [], i, _ => ⟨[], _, .fin rfl, rfl, rfl, trivial⟩
  | t :: A, i, h => by
    obtain ⟨B, z, hB, hz1, hz2, hAB⟩ := lex_again A (i + (render t).length + 1) (fun x hx => h x (by simp [hx]))
    rw [List.flatMap_cons, List.append_assoc]
    generalize (A.flatMap fun t => render t ++ [32]) = r at *
    obtain ⟨h1, h2⟩ := h t (by simp) r
    have h3 := lex_blank blank1 (i := i + (render t).length) hB rfl
    refine ⟨⟨t.kind, t.text, i + skipN false (render t ++ ([32] ++ r))⟩ :: B, z, ?_, hz1, hz2, ⟨rfl, rfl⟩, hAB⟩
    rw [List.cons_append]
    show Lex i (render t ++ 32 :: r) (⟨t.kind, t.text, i + skipN false (render t ++ 32 :: r)⟩ :: (B ++ [z]))
    refine .tok (u := (render t).length) (by rw [h2]; exact h1) ?_
    rw [h2, List.drop_zero, List.drop_left]
    exact h3
end Go.Proofs.Ytemagdpieebjlaa

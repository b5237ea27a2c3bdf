/- Plain laws about tokens. No program in sight. -/
import Derived.Test.YtemagdpieebjlaaM7
namespace Go.Proofs.Ytemagdpieebjlaa
open Go Go.W

/-- the tokens of bytes that begin at a place -/
inductive Lex : Nat → List UInt8 → List Tok → Prop
  | fin {i : Nat} {l : List UInt8} : next1 (l.drop (skipN false l)) = .fin → Lex i l [⟨6, [], i + skipN false l⟩]
  | tok {i : Nat} {l : List UInt8} {kd : Int} {t : List UInt8} {u : Nat} {L : List Tok} : next1 (l.drop (skipN false l)) = .tok kd t u → Lex (i + skipN false l + u) ((l.drop (skipN false l)).drop u) L → Lex i l (⟨kd, t, i + skipN false l⟩ :: L)
theorem lex_toks : ∀ (n i : Nat) (l : List UInt8) (L : List Tok), l.length < n → toks n i l = .ok L → Lex i l L
  | 0, i, l, L, h, _ => by omega
  | n + 1, i, l, L, h, he => by
    unfold toks at he
    simp only [] at he
    have hsk := skipN_le false l
    cases hn : next1 (l.drop (skipN false l)) with
    | fin => rw [hn] at he; cases he; exact .fin hn
    | bad a e => rw [hn] at he; cases he
    | tok k t u =>
      rw [hn] at he
      simp only [] at he
      obtain ⟨_, hu1, hu2, _⟩ := next1_tok hn
      rw [List.length_drop] at hu2
      cases hq : toks n (i + skipN false l + u) ((l.drop (skipN false l)).drop u) with
      | bad a e => rw [hq] at he; cases he
      | ok L' =>
        rw [hq] at he
        cases he
        exact .tok hn (lex_toks n _ _ L' (by simp; omega) hq)
theorem toks_lex {i : Nat} {l : List UInt8} {L : List Tok} (h : Lex i l L) : ∀ n, l.length < n → toks n i l = .ok L := by
  induction h with
  | fin hn =>
    intro n h
    obtain ⟨n, rfl⟩ : ∃ m, n = m + 1 := ⟨n - 1, by omega⟩
    unfold toks
    simp only [hn]
  | @tok i l kd t u L hn _ ih =>
    intro n h
    obtain ⟨n, rfl⟩ : ∃ m, n = m + 1 := ⟨n - 1, by omega⟩
    unfold toks
    have hsk := skipN_le false l
    obtain ⟨_, hu1, hu2, _⟩ := next1_tok hn
    rw [List.length_drop] at hu2
    simp only [hn, ih n (by simp; omega)]
    rfl
theorem lex_of {l : List UInt8} {L : List Tok} (h : tokens l = .ok L) : Lex 0 l L ∧ l.length ≤ 65536 := by
  unfold tokens at h
  split at h
  · cases h
  · exact ⟨lex_toks _ _ _ _ (Nat.lt_succ_self _) h, by omega⟩
theorem of_lex {l : List UInt8} {L : List Tok} (h : Lex 0 l L) (hl : l.length ≤ 65536) : tokens l = .ok L := by
  unfold tokens
  rw [if_neg (by omega)]
  exact toks_lex h _ (Nat.lt_succ_self _)

/-! #### One token -/
theorem item_loc {l : List UInt8} {d : UInt8} {v : Nat} (h : item1 l = .ok d v) : (∀ r, item1 (l.take v ++ r) = .ok d v) ∧ (10 : UInt8) ∉ l.take v := by
  have hex : ∀ c : UInt8, digB 16 c = true → c ≠ 10 := fun c => all_bytes (p := fun c => digB 16 c = true → c ≠ 10) (by decide +kernel) c
  cases l with
  | nil => cases h
  | cons c l =>
    unfold item1 at h
    simp only at h
    split at h
    · rename_i h92
      split at h
      · cases h
      · rename_i hr
        cases h
        refine ⟨fun r => ?_, ?_⟩
        · show item1 (d :: r) = _
          unfold item1
          simp only
          rw [if_pos h92, if_neg hr]
        · simp only [List.take_succ_cons, List.take_zero, List.mem_cons, List.not_mem_nil, or_false]
          rintro rfl
          exact hr (.inl (by decide))
    · rename_i h92
      have hc : (10 : UInt8) ≠ c := by rintro rfl; exact h92 (by decide)
      cases l with
      | nil => cases h
      | cons e l =>
        simp only at h
        split at h
        · rename_i he
          cases h
          refine ⟨fun r => ?_, ?_⟩
          · show item1 (c :: d :: r) = _
            unfold item1
            simp only
            rw [if_neg h92, if_pos he]
          · have : (10 : UInt8) ≠ d := by rintro rfl; revert he; decide
            simp [hc, this]
        · rename_i he
          split at h
          · cases h
          · rename_i hx
            have hxe : (10 : UInt8) ≠ e := by rintro rfl; revert hx; decide
            cases l with
            | nil => cases h
            | cons x l =>
              simp only at h
              split at h
              · rename_i hdx
                cases l with
                | nil => cases h
                | cons y l =>
                  simp only at h
                  split at h
                  · rename_i hdy
                    cases h
                    refine ⟨fun r => ?_, ?_⟩
                    · show item1 (c :: e :: x :: y :: r) = _
                      unfold item1
                      simp only
                      rw [if_neg h92, if_neg he, if_neg hx, if_pos hdx, if_pos hdy]
                    · simp [hc, hxe, (hex x hdx).symm, (hex y hdy).symm]
                  · cases h
              · cases h
theorem qu_loc : ∀ (n : Nat) (l : List UInt8), l.length < n → ∀ (t : List UInt8) (u : Nat), qu l = .ok t u → (∀ r, qu (l.take u ++ r) = .ok t u) ∧ (10 : UInt8) ∉ l.take u
  | 0, l, h => by omega
  | n + 1, [], _ => by intro a e h; unfold qu at h; cases h
  | n + 1, c :: l, hn => by
    intro t u h
    by_cases h34 : c.toNat = 34
    · unfold qu at h
      rw [if_pos h34] at h
      cases h
      refine ⟨fun r => ?_, ?_⟩
      · show qu (c :: r) = _
        unfold qu
        rw [if_pos h34]
      · simp only [List.take_succ_cons, List.take_zero, List.mem_cons, List.not_mem_nil, or_false]
        rintro rfl
        revert h34; decide
    · rw [qu_item c l h34] at h
      cases hi : item1 (c :: l) with
      | bad a' e' => rw [hi] at h; cases h
      | ok d v =>
        rw [hi] at h
        simp only at h
        have hv := item_len hi
        obtain ⟨l1, l2⟩ := item_loc hi
        cases hq : qu ((c :: l).drop v) with
        | bad a e => rw [hq] at h; cases h
        | ok t' u' =>
          rw [hq] at h; cases h
          obtain ⟨q1, q2⟩ := qu_loc n _ (by simp at hn ⊢; omega) _ _ hq
          have e : (c :: l).take (v + u') = (c :: l).take v ++ ((c :: l).drop v).take u' := List.take_add
          refine ⟨fun r => ?_, ?_⟩
          · rw [e, List.append_assoc]
            have hl1 := l1 (((c :: l).drop v).take u' ++ r)
            have q1r := q1 r
            generalize ((c :: l).drop v).take u' ++ r = X at *
            obtain ⟨v, rfl⟩ : ∃ m, v = m + 1 := ⟨v - 1, by omega⟩
            rw [List.take_succ_cons, List.cons_append] at hl1 ⊢
            rw [qu_item _ _ h34, hl1]
            simp only [List.drop_succ_cons]
            have hlen : (l.take v).length = v := by simp at hv ⊢; omega
            rw [List.drop_append_of_le_length (by omega), List.drop_of_length_le (by omega), List.nil_append, q1r]
            rfl
          · rw [e, List.mem_append]
            exact fun h => h.elim l2 q2
def okTail (k : Int) (r : List UInt8) : Prop := (k = 0 ∨ k = 1 ∨ k = 5) ∨ r = [] ∨ ∃ x r', r = x :: r' ∧ followB x = true
theorem follow_word (x : UInt8) : followB x = true → wordB x = false := all_bytes (p := fun x => followB x = true → wordB x = false) (by decide +kernel) x
theorem word_ten (x : UInt8) : wordB x = true → x ≠ 10 := all_bytes (p := fun x => wordB x = true → x ≠ 10) (by decide +kernel) x
theorem start_skip (x : UInt8) : startB x = true → wordB x = true ∧ spaceB x = false ∧ x.toNat ≠ 59 := all_bytes (p := fun x => startB x = true → wordB x = true ∧ spaceB x = false ∧ x.toNat ≠ 59) (by decide +kernel) x
theorem take_word : ∀ (t r : List UInt8), (∀ x ∈ t, wordB x = true) → (r = [] ∨ ∃ x r', r = x :: r' ∧ wordB x = false) → (t ++ r).takeWhile wordB = t
  | [], r, _, h => by
    rcases h with rfl | ⟨x, r', rfl, hx⟩
    · rfl
    · simp [hx]
  | c :: t, r, ht, h => by
    rw [List.cons_append, List.takeWhile_cons, if_pos (ht c (by simp)), take_word t r (fun x hx => ht x (by simp [hx])) h]
theorem takeWhile_take (p : UInt8 → Bool) : ∀ l : List UInt8, l.take (l.takeWhile p).length = l.takeWhile p
  | [] => rfl
  | c :: l => by
    rw [List.takeWhile_cons]
    split
    · rw [List.length_cons, List.take_succ_cons, takeWhile_take p l]
    · rfl
theorem takeWhile_all (p : UInt8 → Bool) : ∀ (l : List UInt8), ∀ x ∈ l.takeWhile p, p x = true
  | [], x, h => by simp at h
  | c :: l, x, h => by
    rw [List.takeWhile_cons] at h
    split at h
    · rcases List.mem_cons.1 h with rfl | h
      · assumption
      · exact takeWhile_all p l x h
    · simp at h
structure NT1 (l : List UInt8) (k : Int) (t : List UInt8) (u : Nat) : Prop where
  loc : ∀ r, okTail k r → next1 (l.take u ++ r) = .tok k t u
  ten : (10 : UInt8) ∉ l.take u
  tail : okTail k (l.drop u)
  word : (k = 2 ∨ k = 3 ∨ k = 4) → l.take u = t
  kind : k = 0 ∧ t = [] ∨ k = 1 ∧ t = [] ∨ k = 2 ∨ k = 3 ∨ k = 4 ∨ k = 5 ∧ t.length < u
  skip : ∀ r, skipN false (l.take u ++ r) = 0
theorem next1_loc {l : List UInt8} {k : Int} {t : List UInt8} {u : Nat} (h : next1 l = .tok k t u) : NT1 l k t u := by
  cases l with
  | nil => unfold next1 at h; cases h
  | cons c l =>
    unfold next1 at h
    simp only at h
    split at h
    · rename_i h40
      cases h
      have hc : c = 40 := UInt8.toNat_inj.1 h40
      subst hc
      exact ⟨fun r _ => rfl, by simp, .inl (.inl rfl), by omega, .inl ⟨rfl, rfl⟩, fun r => rfl⟩
    · rename_i h40
      split at h
      · rename_i h41
        cases h
        have hc : c = 41 := UInt8.toNat_inj.1 h41
        subst hc
        exact ⟨fun r _ => rfl, by simp, .inl (.inr (.inl rfl)), by omega, .inr (.inl ⟨rfl, rfl⟩), fun r => rfl⟩
      · rename_i h41
        split at h
        · rename_i h34
          have hc : c = 34 := UInt8.toNat_inj.1 h34
          subst hc
          split at h
          · rename_i t' u' hq
            cases h
            obtain ⟨q1, q2⟩ := qu_loc _ l (Nat.lt_succ_self _) _ _ hq
            have q3 := qu_len _ l (Nat.lt_succ_self _) _ _ hq
            have e : (34 :: l).take (1 + u') = 34 :: l.take u' := by rw [Nat.add_comm]; rfl
            refine ⟨fun r _ => ?_, ?_, .inl (.inr (.inr rfl)), by omega, .inr (.inr (.inr (.inr (.inr ⟨rfl, by omega⟩)))), fun r => ?_⟩
            · rw [e]
              show next1 (34 :: (l.take u' ++ r)) = _
              unfold next1
              simp only
              rw [if_neg (by decide), if_neg (by decide), if_pos (by decide), q1 r]
            · rw [e]
              simp only [List.mem_cons]
              exact fun h => h.elim (by decide) q2
            · rw [e]; rfl
          · cases h
        · rename_i h34
          split at h
          · rename_i hst
            obtain ⟨hwc, hs1, hs2⟩ := start_skip c hst
            have htk : (c :: l).take ((c :: l).takeWhile wordB).length = (c :: l).takeWhile wordB := takeWhile_take _ _
            have hall := takeWhile_all wordB (c :: l)
            have hcons : (c :: l).takeWhile wordB = c :: l.takeWhile wordB := by rw [List.takeWhile_cons, if_pos hwc]
            have main : ∀ k' : Int, exam ((c :: l).takeWhile wordB) = (k', 0) → okTail k' ((c :: l).drop ((c :: l).takeWhile wordB).length) → NT1 (c :: l) k' ((c :: l).takeWhile wordB) ((c :: l).takeWhile wordB).length := by
              intro k' hx htl
              have hk := exam_kind hx
              refine ⟨fun r hr => ?_, ?_, htl, fun _ => htk, by omega, fun r => ?_⟩
              · have hr' : r = [] ∨ ∃ x r', r = x :: r' ∧ followB x = true := hr.resolve_left (by omega)
                have tw := take_word _ r hall (hr'.imp id fun ⟨x, r', e, hf⟩ => ⟨x, r', e, follow_word x hf⟩)
                rw [htk]
                generalize (c :: l).takeWhile wordB = T at *
                subst hcons
                rw [List.cons_append] at tw ⊢
                unfold next1
                simp only
                rw [if_neg h40, if_neg h41, if_neg h34, if_pos hst, tw, hx]
                simp only [ne_eq, not_true_eq_false, if_false]
                rw [← List.cons_append, List.drop_left]
                rcases hr' with rfl | ⟨x, r', rfl, hf⟩
                · rfl
                · simp only [hf, if_true]
              · rw [htk]
                exact fun h => word_ten _ (hall _ h) rfl
              · rw [htk, hcons]
                show skipN false (c :: _) = 0
                unfold skipN
                rw [hs1, if_neg hs2]
                rfl
            cases hx : exam ((c :: l).takeWhile wordB) with
            | mk kd e =>
              rw [hx] at h
              simp only at h
              split at h
              · cases h
              · rename_i he
                simp only [ne_eq, Decidable.not_not] at he
                subst he
                split at h
                · rename_i hd
                  cases h
                  exact main _ hx (.inr (.inl hd))
                · rename_i x r' hd
                  split at h
                  · rename_i hf
                    cases h
                    exact main _ hx (.inr (.inr ⟨x, r', hd, hf⟩))
                  · cases h
          · cases h
theorem next1_fin {l : List UInt8} (h : next1 l = .fin) : l = [] := by
  cases l with
  | nil => rfl
  | cons c l =>
    exfalso
    unfold next1 at h
    simp only at h
    split at h
    · cases h
    · split at h
      · cases h
      · split at h
        · split at h <;> cases h
        · split at h
          · split at h
            · cases h
            · split at h
              · cases h
              · split at h <;> cases h
          · cases h

/-! #### Lists of tokens -/
theorem drop_nil_skip {l : List UInt8} (h : l.drop (skipN false l) = []) : skipN false l = l.length := by
  have h1 := skipN_le false l
  have h2 := List.drop_eq_nil_iff.1 h
  omega
/-- the places grow, the last token is End -/
theorem lex_shape {i : Nat} {l : List UInt8} {L : List Tok} (h : Lex i l L) : (∃ A, L = A ++ [⟨6, [], i + l.length⟩]) ∧ (∀ t ∈ L, i ≤ t.at') ∧ List.Pairwise (fun a b : Tok => a.at' < b.at') L := by
  induction h with
  | @fin i l hn =>
    rw [drop_nil_skip (next1_fin hn)]
    exact ⟨⟨[], rfl⟩, by simp, by simp⟩
  | @tok i l kd t u L hn _ ih =>
    have hsk := skipN_le false l
    obtain ⟨_, hu1, hu2, _⟩ := next1_tok hn
    rw [List.length_drop] at hu2
    obtain ⟨⟨A, hA⟩, h2, h3⟩ := ih
    refine ⟨⟨⟨kd, t, i + skipN false l⟩ :: A, ?_⟩, ?_, ?_⟩
    · rw [hA]
      simp only [List.length_drop, List.cons_append]
      rw [show i + skipN false l + u + (l.length - skipN false l - u) = i + l.length from by omega]
    · intro x hx
      rcases List.mem_cons.1 hx with rfl | hx
      · simp
      · have := h2 x hx; omega
    · rw [List.pairwise_cons]
      exact ⟨fun x hx => by have := h2 x hx; simp only; omega, h3⟩
theorem lex_at_le {i : Nat} {l : List UInt8} {L : List Tok} (h : Lex i l L) : ∀ t ∈ L, t.at' ≤ i + l.length := by
  induction h with
  | @fin i l hn =>
    have := skipN_le false l
    intro t ht
    simp at ht
    subst ht
    simp; omega
  | @tok i l kd t u L hn _ ih =>
    have hsk := skipN_le false l
    obtain ⟨_, hu1, hu2, _⟩ := next1_tok hn
    rw [List.length_drop] at hu2
    intro x hx
    rcases List.mem_cons.1 hx with rfl | hx
    · simp; omega
    · have := ih x hx
      simp at this
      omega
def shiftT (k : Nat) (t : Tok) : Tok := ⟨t.kind, t.text, t.at' + k⟩
theorem lex_shift {i : Nat} {l : List UInt8} {L : List Tok} (h : Lex i l L) (k : Nat) : Lex (i + k) l (L.map (shiftT k)) := by
  induction h with
  | @fin i l hn =>
    have := Lex.fin (i := i + k) hn
    rw [List.map_cons, List.map_nil, shiftT]
    simp only
    rw [show i + skipN false l + k = i + k + skipN false l from by omega]
    exact this
  | @tok i l kd t u L hn _ ih =>
    rw [List.map_cons, shiftT]
    simp only
    rw [show i + skipN false l + k = i + k + skipN false l from by omega]
    refine .tok hn ?_
    rw [show i + k + skipN false l + u = i + skipN false l + u + k from by omega]
    exact ih
theorem skip_all : ∀ (l : List UInt8) (b : Bool) (r : List UInt8), skipN b l = l.length → skipN b (l ++ 10 :: r) = l.length + 1 + skipN false r
  | [], b, r, _ => by
    cases b
    · show skipN false (10 :: r) = 0 + 1 + _
      simp [skipN, spaceB]
    · show skipN true (10 :: r) = 0 + 1 + _
      simp [skipN]
  | c :: l, b, r, h => by
    have h1 := skip_all l false r
    have h2 := skip_all l true r
    have l1 := skipN_le false l
    have l2 := skipN_le true l
    cases b
    · rw [List.cons_append]
      simp only [skipN, List.length_cons] at h ⊢
      split at h
      · rw [if_pos (by assumption), h1 (by omega)]; omega
      · rw [if_neg (by assumption)]
        split at h
        · rw [if_pos (by assumption), h2 (by omega)]; omega
        · omega
    · rw [List.cons_append]
      simp only [skipN, List.length_cons] at h ⊢
      split at h
      · rw [if_pos (by assumption), h1 (by omega)]; omega
      · rw [if_neg (by assumption), h2 (by omega)]; omega
theorem skip_app : ∀ (l : List UInt8) (b : Bool) (r : List UInt8), skipN b l < l.length → skipN b (l ++ r) = skipN b l
  | [], b, r, h => by simp at h
  | c :: l, b, r, h => by
    have h1 := skip_app l false r
    have h2 := skip_app l true r
    cases b
    · rw [List.cons_append]
      simp only [skipN, List.length_cons] at h ⊢
      by_cases hs : spaceB c = true
      · rw [if_pos hs] at h ⊢
        rw [if_pos hs, h1 (by omega)]
      · rw [if_neg hs] at h ⊢
        rw [if_neg hs]
        by_cases hc : c.toNat = 59
        · rw [if_pos hc] at h ⊢
          rw [if_pos hc, h2 (by omega)]
        · rw [if_neg hc, if_neg hc]
    · rw [List.cons_append]
      simp only [skipN, List.length_cons] at h ⊢
      by_cases hc : c.toNat = 10
      · rw [if_pos hc] at h ⊢
        rw [if_pos hc, h1 (by omega)]
      · rw [if_neg hc] at h ⊢
        rw [if_neg hc, h2 (by omega)]
/-- two texts with a line end between them -/
theorem lex_join {i : Nat} {l : List UInt8} {A : List Tok} (h : Lex i l A) {j : Nat} {r : List UInt8} {B : List Tok} (hr : Lex j r B) (hj : j = i + l.length + 1) : Lex i (l ++ 10 :: r) (A.dropLast ++ B) := by
  induction h with
  | @fin i l hn =>
    have e := drop_nil_skip (next1_fin hn)
    have e2 := skip_all l false r e
    have key : ∀ n, skipN false (l ++ 10 :: r) = l.length + 1 + n → (l ++ 10 :: r).drop (skipN false (l ++ 10 :: r)) = r.drop n := by
      intro n hn
      rw [hn, ← List.drop_drop, ← List.drop_drop, List.drop_left]
      rfl
    have ed := key _ e2
    have ei : i + skipN false (l ++ 10 :: r) = j + skipN false r := by omega
    show Lex i _ B
    cases hr with
    | fin hn' => rw [← ei]; exact .fin (by rw [ed]; exact hn')
    | tok hn' hL => rw [← ei]; exact .tok (by rw [ed]; exact hn') (by rw [ed, ei]; exact hL)
  | @tok i l kd t u L hn hL ih =>
    have hsk := skipN_le false l
    obtain ⟨_, hu1, hu2, _⟩ := next1_tok hn
    rw [List.length_drop] at hu2
    have e := skip_app l false (10 :: r) (by omega)
    have n1 := next1_loc hn
    have ed : (l ++ 10 :: r).drop (skipN false (l ++ 10 :: r)) = l.drop (skipN false l) ++ 10 :: r := by rw [e, List.drop_append_of_le_length hsk]
    have e3 : l.drop (skipN false l) ++ 10 :: r = (l.drop (skipN false l)).take u ++ ((l.drop (skipN false l)).drop u ++ 10 :: r) := by rw [← List.append_assoc, List.take_append_drop]
    obtain ⟨⟨A', hA⟩, _⟩ := lex_shape hL
    have hne : L ≠ [] := by rw [hA]; simp
    rw [List.dropLast_cons_of_ne_nil hne, List.cons_append, ← e]
    refine .tok (u := u) ?_ ?_
    · rw [ed, e3]
      refine n1.loc _ ?_
      rcases n1.tail with h | h | ⟨x, r', h, hf⟩
      · exact .inl h
      · rw [h]; exact .inr (.inr ⟨10, r, rfl, by decide⟩)
      · rw [h]; exact .inr (.inr ⟨x, _, rfl, hf⟩)
    · rw [ed, e, List.drop_append_of_le_length (by rw [List.length_drop]; omega)]
      exact ih (by rw [hj, List.length_drop, List.length_drop]; omega)
end Go.Proofs.Ytemagdpieebjlaa

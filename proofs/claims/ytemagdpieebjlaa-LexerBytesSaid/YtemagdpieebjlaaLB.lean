/- Package lexer: the contracts of small, digit, bare, allDigits. -/
import Derived.Test.YtemagdpieebjlaaLA
import Derived.Test.YtemagdpieebjlaaLP
import Derived.Laws.RangeString
namespace Go.Proofs.Ytemagdpieebjlaa
open Go Go.W

theorem l_small (c : UInt8) (w : World) : Calls Try.prog n_lexer_small_byte #[.int .u8 (c.toNat : Int)] w fun r w' => r = .returned (.bool (smallB c)) ∧ w = w' := by
  refine lexer_small_byte.ok _ w _ (sel_intro (fun h => ?_) (fun h => ?_))
  · have := of_decide_eq_true h
    refine ⟨?_, rfl⟩
    unfold smallB
    rw [decide_eq_true (show 97 ≤ c.toNat by omega), Bool.true_and]
    congr 2
    exact decide_eq_decide.2 (by omega)
  · have := of_decide_eq_false h
    refine ⟨?_, rfl⟩
    unfold smallB
    rw [decide_eq_false (show ¬ 97 ≤ c.toNat by omega), Bool.false_and]
theorem l_digit (c : UInt8) (base : Nat) (w : World) : Calls Try.prog n_lexer_digit_byte #[.int .u8 (c.toNat : Int), .int .i64 (base : Int)] w fun r w' => r = .returned (.bool (digB base c)) ∧ w = w' := by
  refine lexer_digit_byte.ok _ _ w _ (sel_intro (fun h2 => ?_) (fun h2 => sel_intro (fun h16 => ?_) (fun h16 => ?_)))
  · have e2 : base = 2 := by have : (base : Int) = 2 := by simpa using h2
                             omega
    subst e2
    refine sel_intro (fun h => ⟨?_, rfl⟩) (fun h => ⟨?_, rfl⟩) <;> (congr 2; unfold digB; rw [Bool.eq_iff_iff]; simp at h ⊢; omega)
  · have e2 : base = 16 := by have : (base : Int) = 16 := by simpa using h16
                              omega
    subst e2
    refine sel_intro (fun h => sel_intro (fun h' => ⟨?_, rfl⟩) (fun h' => sel_intro (fun h'' => ⟨?_, rfl⟩) (fun h'' => ⟨?_, rfl⟩))) (fun h => sel_intro (fun h'' => ⟨?_, rfl⟩) (fun h'' => ⟨?_, rfl⟩)) <;> (congr 2; unfold digB; rw [Bool.eq_iff_iff]; simp at *; omega)
  · have n2 : base ≠ 2 := fun e => by subst e; simp at h2
    have n16 : base ≠ 16 := fun e => by subst e; simp at h16
    refine sel_intro (fun h => ⟨?_, rfl⟩) (fun h => ⟨?_, rfl⟩) <;> (congr 2; unfold digB; rw [if_neg n2, if_neg n16, Bool.eq_iff_iff]; simp at h ⊢; omega)
theorem l_digitR (c : UInt8) (base : Nat) (w : World) : Calls Try.prog n_lexer_digit_rune #[.int .i32 (c.toNat : Int), .int .i64 (base : Int)] w fun r w' => r = .returned (.bool (digB base c)) ∧ w = w' := by
  refine lexer_digit_rune.ok _ _ w _ (sel_intro (fun h2 => ?_) (fun h2 => sel_intro (fun h16 => ?_) (fun h16 => ?_)))
  · have e2 : base = 2 := by have : (base : Int) = 2 := by simpa using h2
                             omega
    subst e2
    refine sel_intro (fun h => ⟨?_, rfl⟩) (fun h => ⟨?_, rfl⟩) <;> (congr 2; unfold digB; rw [Bool.eq_iff_iff]; simp at h ⊢; omega)
  · have e2 : base = 16 := by have : (base : Int) = 16 := by simpa using h16
                              omega
    subst e2
    refine sel_intro (fun h => sel_intro (fun h' => ⟨?_, rfl⟩) (fun h' => sel_intro (fun h'' => ⟨?_, rfl⟩) (fun h'' => ⟨?_, rfl⟩))) (fun h => sel_intro (fun h'' => ⟨?_, rfl⟩) (fun h'' => ⟨?_, rfl⟩)) <;> (congr 2; unfold digB; rw [Bool.eq_iff_iff]; simp at *; omega)
  · have n2 : base ≠ 2 := fun e => by subst e; simp at h2
    have n16 : base ≠ 16 := fun e => by subst e; simp at h16
    refine sel_intro (fun h => ⟨?_, rfl⟩) (fun h => ⟨?_, rfl⟩) <;> (congr 2; unfold digB; rw [if_neg n2, if_neg n16, Bool.eq_iff_iff]; simp at h ⊢; omega)
theorem andT_mk {b : Bool} {p : Prop} (h : b = true) (hp : p) : W.AndT b p := by subst h; exact hp
theorem iter_fr (w : World) (s : ByteArray) (i : Nat) : Fr0 w (w.iter s i) := Fr.alloc _ _ _
theorem l_allDigits1 (c : UInt8) (base bb : Nat) (w : World) (h : w.cell? (at0 bb) = some (.int .i64 (base : Int))) : Calls Try.prog n_lexer_allDigits_1 #[.int .i32 (c.toNat : Int), .pointer (some (at0 bb))] w fun r w' => r = .returned (.bool (!(digB base c))) ∧ w = w' := by
  refine lexer_allDigits_1.ok _ _ w _ ⟨_, h, (l_digitR c base w).mono ?_⟩
  rintro r w1 ⟨rfl, rfl⟩
  exact ⟨_, rfl, rfl, rfl⟩
theorem l_allDigits (s : ByteArray) (base : Nat) (w : World) (ha : ∀ c ∈ bl s, c.toNat < 128) : Calls Try.prog n_lexer_allDigits #[.string s, .int .i64 (base : Int)] w fun r w' => r = .returned (.bool ((bl s).all (digB base))) ∧ Fr0 w w' := by
  refine lexer_allDigits.ok _ _ w _ ?_
  unfold lexer_allDigits.S0
  intro w1
  have f1 : Fr0 w w1 := Fr.alloc _ _ _
  have c1 : w1.heap[w.heap.size]? = some (.cells #[.int .i64 (base : Int)] ty_int (0, 0)) := heap_new w _
  clear_value w1
  have key : ∀ (d i : Nat), i + d = s.size → ((bl s).take i).all (digB base) = true → strings_indexFunc.L2 ⟨n_lexer_allDigits_1, #[], #[.pointer (some (at0 w.heap.size))]⟩ true (.pointer (some ⟨w1.heap.size, 0, none⟩)) (w1.iter s i)
      fun r w' => (∃ t : Int, r = .returned (.int .i64 t) ∧ decide (t < 0) = (bl s).all (digB base)) ∧ Fr0 w w' := by
    intro d
    induction d with
    | zero =>
      intro i hi hall
      refine strings_indexFunc.L2_step _ _ _ _ _ (.inl ⟨_, run_next_end w1 s i _ (by omega), ⟨_, rfl, ?_⟩, f1.tr0 (iter_fr _ _ _)⟩)
      rw [List.take_of_length_le (by rw [bl_len]; omega)] at hall
      rw [hall]
      rfl
    | succ d ih =>
      intro i hi hall
      have hlt : i < s.size := by omega
      have hl : i < (bl s).length := by rw [bl_len]; exact hlt
      have hm : s[i] ∈ bl s := by
        have : (bl s)[i] = s[i] := rfl
        rw [← this]; exact List.getElem_mem hl
      have hc := ha _ hm
      refine strings_indexFunc.L2_step _ _ _ _ _ (.inr ⟨_, _, _, run_next_ascii w1 s i _ hlt hc, ?_⟩)
      have ht : (bl s).take (i + 1) = (bl s).take i ++ [s[i]] := by
        rw [List.take_add_one, List.getElem?_eq_getElem hl]; rfl
      refine andT_mk (by kernel_rfl) ((l_allDigits1 s[i] base w.heap.size (w1.iter s (i + 1)) ?_).mono ?_)
      · have := (iter_fr w1 s (i + 1)).at c1 id
        have := cellAt (p := at0 w.heap.size) (i := 0) this rfl rfl
        rwa [add0] at this
      · rintro r w2 ⟨rfl, rfl⟩
        refine ⟨_, rfl, sel_intro (fun h => ?_) (fun h => ?_)⟩
        · have hd : digB base s[i] = false := by simpa using h
          refine ⟨⟨_, rfl, ?_⟩, f1.tr0 (iter_fr _ _ _)⟩
          have : (bl s).all (digB base) = false := by
            cases hA : (bl s).all (digB base) with
            | false => rfl
            | true => have := List.all_eq_true.1 hA _ hm; rw [hd] at this; cases this
          rw [this]
          exact decide_eq_false (by omega)
        · have hd : digB base s[i] = true := by simpa using h
          exact ih (i + 1) (by omega) (by rw [ht, List.all_append, hall]; simp [hd])
  have whole : Calls Try.prog n_strings_IndexFunc #[.string s, .func (.func n_lexer_allDigits_1) #[] #[.pointer (some (at0 w.heap.size))]] w1 fun r w' => (∃ t : Int, r = .returned (.int .i64 t) ∧ decide (t < 0) = (bl s).all (digB base)) ∧ Fr0 w w' := by
    refine strings_IndexFunc.ok _ _ w1 _ ((show Calls Try.prog n_strings_indexFunc #[.string s, (⟨n_lexer_allDigits_1, #[], #[.pointer (some (at0 w.heap.size))]⟩ : W.Fv).v, .bool true] w1 _ from strings_indexFunc.ok _ _ _ w1 _ ⟨_, _, run_range_string w1 _ s str_und, key s.size 0 (by omega) rfl⟩).mono ?_)
    rintro r w2 ⟨⟨t, rfl, ht⟩, f⟩
    exact ⟨t, rfl, ⟨t, rfl, ht⟩, f⟩
  refine whole.mono ?_
  rintro r w2 ⟨⟨t, rfl, ht⟩, f⟩
  exact ⟨t, rfl, by rw [ht], f⟩
end Go.Proofs.Ytemagdpieebjlaa

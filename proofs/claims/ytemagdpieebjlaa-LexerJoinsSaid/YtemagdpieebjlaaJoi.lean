/- LexerJoins: what the law does. -/
import Derived.Test.YtemagdpieebjlaaLL
import Derived.Test.YtemagdpieebjlaaVD
namespace Go.Proofs.Ytemagdpieebjlaa
open Go Go.W
namespace Joi

theorem loop (w : World) (one : ByteArray) (a b c : Sl) (A B : List Tok) (z : Tok) (hone : one.size ≤ 144) (hA : A.length ≤ 1000) (hB : B.length ≤ 1000) (hat : ∀ t ∈ B, t.at' ≤ 1000) : ∀ (d i : Nat) (w1 : World), i + d = A.length + B.length →
    LH F0 w w1 [] [.row ty_lexer_Token 3 a (toksC (A ++ [z])), .row ty_lexer_Token 3 b (toksC B), .row ty_lexer_Token 3 c (toksC (A ++ B.map (shiftT (one.size + 1))))] →
    enthymemelaw09_LexerJoins.L9 one a b c (i : Int) w1 fun r w' => r = .returned (.bool true) ∧ Fr0 w w' := by
  intro d
  induction d with
  | zero =>
    intro i w1 hi H
    have nc := toks_n (H.getD 2)
    rw [List.length_append, List.length_map] at nc
    refine enthymemelaw09_LexerJoins.L9_step _ _ _ _ _ _ _ (sel_false (decide_eq_false (by omega)) ((l_lives w1).mono ?_))
    rintro r w2 ⟨rfl, f2⟩
    exact ⟨_, rfl, rfl, H.fr.tr0 f2⟩
  | succ d ih =>
    intro i w1 hi H
    have na := toks_n (H.getD 0)
    have nb := toks_n (H.getD 1)
    have nc := toks_n (H.getD 2)
    rw [List.length_append, List.length_map] at nc
    rw [List.length_append, List.length_singleton] at na
    have fin : ∀ {w4 : World} {bw : Nat} (t : Tok), (A ++ B.map (shiftT (one.size + 1)))[i]? = some t → LH F0 w w4 [.c bw [.int .i64 t.kind, .string (ba t.text), .int .i64 (t.at' : Int)] ty_lexer_Token] [.row ty_lexer_Token 3 a (toksC (A ++ [z])), .row ty_lexer_Token 3 b (toksC B), .row ty_lexer_Token 3 c (toksC (A ++ B.map (shiftT (one.size + 1))))] →
        enthymemelaw09_LexerJoins.S14 one a b c (i : Int) (at0 bw) w4 fun r w' => r = .returned (.bool true) ∧ Fr0 w w' := by
      intro w4 bw t ht H4
      refine H4.dr fun w5 H5 => ⟨by omega, by omega, ?_⟩
      rw [Int.toNat_natCast]
      refine tok_at (H5.getD 2) ht fun p _ c0 c1 c2 => ⟨_, _, _, c0, c1, c2, _, _, _, H5.ld 0 0, H5.ld 0 1, H5.ld 0 2, sel_false (by simp) ?_⟩
      show enthymemelaw09_LexerJoins.L9 _ _ _ _ (IntKind.wrap .i64 ((i : Int) + 1)) _ _
      rw [i64_next _ (by omega)]
      exact ih (i + 1) w5 (by omega) (H5.take 0)
    refine enthymemelaw09_LexerJoins.L9_step _ _ _ _ _ _ _ (sel_true (decide_eq_true (by omega)) (H.nw fun w2 _ H2 => H2.st3 0 rfl fun w3 H3 => ?_))
    have e1 : IntKind.wrap .i64 ((a.n : Int) - 1) = (A.length : Int) := by rw [IntWalk.i64_in _ (by omega)]; omega
    refine sel_dec (fun h => ?_) (fun h => ?_)
    · rw [e1] at h
      have hi' : A[i]? = some (A[i]'(by omega)) := List.getElem?_eq_getElem (by omega)
      generalize A[i]'(by omega) = t at hi'
      refine ⟨by omega, by omega, ?_⟩
      rw [Int.toNat_natCast]
      refine tok_at (H3.getD 0) (t := t) (by rw [List.getElem?_append_left (by omega)]; exact hi') fun p _ c0 c1 c2 => ⟨_, _, _, c0, c1, c2, H3.st3 0 rfl fun w4 H4 => ?_⟩
      exact fin t (by rw [List.getElem?_append_left (by omega)]; exact hi') H4
    · rw [e1] at h
      have e2 : IntKind.wrap .i64 (IntKind.wrap .i64 ((i : Int) - (a.n : Int)) + 1) = ((i - A.length : Nat) : Int) := by
        rw [IntWalk.i64_in ((i : Int) - (a.n : Int)) (by omega), IntWalk.i64_in _ (by omega)]; omega
      have hi' : B[i - A.length]? = some (B[i - A.length]'(by omega)) := List.getElem?_eq_getElem (by omega)
      have hm := hat _ (List.mem_of_getElem? hi')
      generalize B[i - A.length]'(by omega) = t at hi' hm
      show (0 : Int) ≤ _ ∧ _
      rw [e2]
      refine ⟨by omega, by omega, ?_⟩
      rw [Int.toNat_natCast]
      refine tok_at (H3.getD 1) hi' fun p _ c0 c1 c2 => ⟨_, _, _, c0, c1, c2, H3.st3 0 rfl fun w4 H4 => ⟨_, H4.ld 0 2, ?_⟩⟩
      have e3 : IntKind.wrap .i64 (IntKind.wrap .i64 ((t.at' : Int) + ((one.size : Nat) : Int)) + 1) = (((t.at' + (one.size + 1) : Nat)) : Int) := by
        rw [IntWalk.i64_in ((t.at' : Int) + ((one.size : Nat) : Int)) (by omega), IntWalk.i64_in _ (by omega)]; omega
      rw [e3]
      refine H4.st 0 2 rfl fun w5 H5 => fin (shiftT (one.size + 1) t) ?_ H5
      rw [List.getElem?_append_right (by omega), List.getElem?_map, hi']
      rfl
theorem walk (ls ms : Sl) (w : World) (hls : ArgNums w ls) (hms : ArgNums w ms) :
    Calls Try.prog n_enthymemelaw09_LexerJoins #[ls.v, ms.v] w fun r w' => r = .returned (.bool true) ∧ Fr0 w w' := by
  obtain ⟨xs, hls, hl, hx⟩ := hls
  obtain ⟨ys, hms, hl2, hy⟩ := hms
  refine enthymemelaw09_LexerJoins.ok _ _ w _ ((r_Good ls xs 8 (by omega) w hls hx hl).mono ?_)
  rintro r w1 ⟨⟨one, rfl, ho, LA, hA⟩, f1⟩
  refine ⟨one, rfl, (r_Good ms ys 8 (by omega) w1 (hms.fr0 f1) hy hl2).mono ?_⟩
  rintro r w2 ⟨⟨two, rfl, ht, B, hB⟩, f2⟩
  refine ⟨two, rfl, (l_Tokens one (by omega) w2).mono ?_⟩
  intro r w3 hp
  rw [hA] at hp
  obtain ⟨a, rfl, oa, f3, _⟩ := hp
  refine ⟨a, _, _, rfl, (l_Tokens two (by omega) w3).mono ?_⟩
  intro r w4 hp
  rw [hB] at hp
  obtain ⟨b, rfl, ob, f4, _⟩ := hp
  have s1 : (ByteArray.mk #[10]).size = 1 := rfl
  have e1 : (one ++ ByteArray.mk #[10]).size = one.size + 1 := by rw [ba_app, s1]
  have e2 : (one ++ ByteArray.mk #[10] ++ two).size = one.size + 1 + two.size := by rw [ba_app, e1]
  refine ⟨b, _, _, rfl, ?_, ?_, (l_Tokens _ (by omega) w4).mono ?_⟩
  · show ¬ _ > (9223372036854775807 : Int)
    omega
  · show ¬ _ > (9223372036854775807 : Int)
    omega
  intro r w5 hp
  obtain ⟨xA, lA⟩ := lex_of hA
  obtain ⟨xB, lB⟩ := lex_of hB
  have eb : bl (one ++ ByteArray.mk #[10] ++ two) = bl one ++ 10 :: bl two := by rw [bl_app, bl_app]; simp [bl]
  have xC := lex_join xA (lex_shift xB (one.size + 1)) (by rw [bl_len]; omega)
  rw [← eb] at xC
  have hC := of_lex xC (by rw [bl_len]; omega)
  rw [hC] at hp
  obtain ⟨c, rfl, oc, f5, _⟩ := hp
  obtain ⟨⟨A, rfl⟩, _⟩ := lex_shape xA
  have hAl := toks_len _ _ _ _ (Nat.lt_succ_self _) (toks_lex xA _ (Nat.lt_succ_self _))
  have hBl := toks_len _ _ _ _ (Nat.lt_succ_self _) (toks_lex xB _ (Nat.lt_succ_self _))
  rw [bl_len] at hAl hBl
  rw [List.length_append, List.length_singleton] at hAl
  rw [List.dropLast_concat] at oc
  have na := toks_n oa
  have nb := toks_n ob
  have nc := toks_n oc
  rw [List.length_append, List.length_singleton] at na
  rw [List.length_append, List.length_map] at nc
  have e3 : IntKind.wrap .i64 (IntKind.wrap .i64 ((a.n : Int) + (b.n : Int)) - 1) = (c.n : Int) := by
    rw [IntWalk.i64_in ((a.n : Int) + (b.n : Int)) (by omega), IntWalk.i64_in _ (by omega)]; omega
  refine ⟨c, _, _, rfl, sel_false rfl (sel_false rfl (sel_false rfl (sel_false (decide_eq_false (by omega)) (sel_false (by rw [e3]; simp) ?_))))⟩
  have hat := lex_at_le xB
  rw [bl_len] at hat
  refine loop w one a b c A B ⟨6, [], 0 + (bl one).length⟩ (by omega) (by omega) (by omega) (fun t ht' => by have := hat t ht'; omega) (A.length + B.length) 0 w5 (by omega) ?_
  refine ⟨f1.tr0 (f2.tr0 (f3.tr0 (f4.tr0 f5))), by simp, ?_, by simp, by simp, by simp⟩
  simp only [List.mem_cons, List.not_mem_nil, or_false]
  rintro e (rfl | rfl | rfl)
  · exact oa.fr (M := F0) (f4.tr0 f5) (fun _ _ h => h)
  · exact ob.fr (M := F0) f5 (fun _ _ h => h)
  · exact oc
end Joi
end Go.Proofs.Ytemagdpieebjlaa

/- LexerSpaces: what the law does. -/
import Derived.Test.YtemagdpieebjlaaLM
import Derived.Test.YtemagdpieebjlaaVC
namespace Go.Proofs.Ytemagdpieebjlaa
open Go Go.W
namespace Spa

theorem loop2 (w : World) (more : ByteArray) (a b : Sl) (A B : List Tok) (hm : more.size ≤ 5) (hAB : All2 (TokLe 0 more.size) A B) (pA : List.Pairwise (fun a b : Tok => a.at' < b.at') A) (pB : List.Pairwise (fun a b : Tok => a.at' < b.at') B) (hA : A.length ≤ 100000) (aA : ∀ t ∈ A, t.at' ≤ 100000) : ∀ (d i : Nat) (w1 : World), i + d = A.length →
    LH F0 w w1 [] [.row ty_lexer_Token 3 a (toksC A), .row ty_lexer_Token 3 b (toksC B)] →
    enthymemelaw09_LexerSpaces.L19 more a b (i : Int) w1 fun r w' => r = .returned (.bool true) ∧ Fr0 w w' := by
  intro d
  induction d with
  | zero =>
    intro i w1 hi H
    have na := toks_n (H.getD 0)
    refine enthymemelaw09_LexerSpaces.L19_step _ _ _ _ _ _ (sel_false (decide_eq_false (by omega)) ((l_lives w1).mono ?_))
    rintro r w2 ⟨rfl, f2⟩
    exact ⟨_, rfl, rfl, H.fr.tr0 f2⟩
  | succ d ih =>
    intro i w1 hi H
    have na := toks_n (H.getD 0)
    have nb := toks_n (H.getD 1)
    rw [← hAB.length] at nb
    have hx : A[i]? = some (A[i]'(by omega)) := List.getElem?_eq_getElem (by omega)
    obtain ⟨y, hy, k1, k2, k3⟩ := hAB.get hx
    have hax := aA _ (List.mem_of_getElem? hx)
    generalize hxe : A[i]'(by omega) = x at hx k1 k2 k3 hax
    have next : ∀ {w2 : World}, LH F0 w w2 [] [.row ty_lexer_Token 3 a (toksC A), .row ty_lexer_Token 3 b (toksC B)] → enthymemelaw09_LexerSpaces.S23 more a b (i : Int) w2 fun r w' => r = .returned (.bool true) ∧ Fr0 w w' := by
      intro w2 H2
      show enthymemelaw09_LexerSpaces.L19 _ _ _ (IntKind.wrap .i64 ((i : Int) + 1)) _ _
      rw [i64_next _ (by omega)]
      exact ih (i + 1) w2 (by omega) H2
    have em : IntKind.wrap .i64 ((x.at' : Int) + ((more.size : Nat) : Int)) = ((x.at' + more.size : Nat) : Int) := by rw [IntWalk.i64_in _ (by omega)]; omega
    refine enthymemelaw09_LexerSpaces.L19_step _ _ _ _ _ _ (sel_true (decide_eq_true (by omega)) (H.dr fun w2 H2 => ⟨by omega, by omega, ?_⟩))
    simp only [Int.toNat_natCast]
    refine tok_at (H2.getD 0) hx fun p _ c0 c1 c2 => ⟨_, c0, by omega, by omega, ?_⟩
    refine tok_at (H2.getD 1) hy fun p _ d0 d1 d2 => ⟨_, d0, sel_false (by simp [k1]) ⟨by omega, by omega, ?_⟩⟩
    refine tok_at (H2.getD 0) hx fun p _ c0 c1 c2 => ⟨_, c1, by omega, by omega, ?_⟩
    refine tok_at (H2.getD 1) hy fun p _ d0 d1 d2 => ⟨_, d1, sel_false (by simp [k2]) ⟨by omega, by omega, ?_⟩⟩
    refine tok_at (H2.getD 1) hy fun p _ d0 d1 d2 => ⟨_, d2, by omega, by omega, ?_⟩
    refine tok_at (H2.getD 0) hx fun p _ c0 c1 c2 => ⟨_, c2, sel_false (by rw [em]; exact decide_eq_false (by omega)) (sel_dec (fun hi0 => ⟨by omega, by omega, ?_⟩) (fun _ => next H2))⟩
    obtain ⟨j, rfl⟩ : ∃ j, i = j + 1 := ⟨i - 1, by omega⟩
    have ei : IntKind.wrap .i64 (((j + 1 : Nat) : Int) - 1) = ((j : Nat) : Int) := by rw [IntWalk.i64_in _ (by omega)]; omega
    rw [ei]
    have hx' : A[j]? = some (A[j]'(by omega)) := List.getElem?_eq_getElem (by omega)
    obtain ⟨y', hy', _⟩ := hAB.get hx'
    have lA : (A[j]'(by omega)).at' < x.at' := by rw [← hxe]; exact List.pairwise_iff_getElem.1 pA j (j + 1) (by omega) (by omega) (by omega)
    have lB : y'.at' < y.at' := by
      obtain ⟨h1, e1⟩ := List.getElem?_eq_some_iff.1 hy'
      obtain ⟨h2, e2⟩ := List.getElem?_eq_some_iff.1 hy
      rw [← e1, ← e2]
      exact List.pairwise_iff_getElem.1 pB j (j + 1) h1 h2 (by omega)
    generalize A[j]'(by omega) = x' at hx' lA
    simp only [Int.toNat_natCast]
    refine tok_at (H2.getD 0) hx fun p _ c0 c1 c2 => ⟨_, c2, by omega, by omega, ?_⟩
    refine tok_at (H2.getD 0) hx' fun p _ c0 c1 c2 => ⟨_, c2, sel_false (decide_eq_false (by omega)) ⟨by omega, by omega, ?_⟩⟩
    refine tok_at (H2.getD 1) hy fun p _ c0 c1 c2 => ⟨_, c2, by omega, by omega, ?_⟩
    exact tok_at (H2.getD 1) hy' fun p _ c0 c1 c2 => ⟨_, c2, sel_false (decide_eq_false (by omega)) (next H2)⟩
theorem loop1 (w : World) (text more : ByteArray) (A : List Tok) (hA : tokens (bl text) = .ok A) (hbl : Blank (bl more)) (hm : more.size ≤ 5) (ht : text.size ≤ 216) : ∀ (d i : Nat) (w1 : World) (wide : ByteArray) (l' : List UInt8) (inside : Bool), i + d = text.size → Ins (bl more) ((bl text).take i) l' → bl wide = bl more ++ l' → wide.size ≤ 5 + 6 * i → Fr0 w w1 →
    enthymemelaw09_LexerSpaces.L6 text more wide inside (i : Int) w1 fun r w' => r = .returned (.bool true) ∧ Fr0 w w' := by
  intro d
  induction d with
  | zero =>
    intro i w1 wide l' inside hi hI hw hs f
    refine enthymemelaw09_LexerSpaces.L6_step _ _ _ _ _ _ _ (sel_false (decide_eq_false (by omega)) ((l_Tokens text (by omega) w1).mono ?_))
    intro r w2 hp
    rw [hA] at hp
    obtain ⟨a, rfl, oa, f2, _⟩ := hp
    obtain ⟨xA, _⟩ := lex_of hA
    rw [List.take_of_length_le (by rw [bl_len]; omega)] at hI
    obtain ⟨B, xB, hAB⟩ := lex_ins hbl xA (j := more.size) hI
    have xW := lex_blank hbl (i := 0) xB (by rw [bl_len]; omega)
    rw [← hw] at xW
    refine ⟨a, _, _, rfl, (l_Tokens wide (by omega) w2).mono ?_⟩
    intro r w3 hp
    rw [of_lex xW (by rw [bl_len]; omega)] at hp
    obtain ⟨b, rfl, ob, f3, _⟩ := hp
    have oa3 := oa.fr (M := F0) f3 (fun _ _ h => h)
    have na := toks_n oa3
    have nb := toks_n ob
    refine ⟨b, _, _, rfl, sel_false rfl (sel_false rfl (sel_false (by rw [na, nb, hAB.length]; simp) ?_))⟩
    have hAl := toks_len _ _ _ _ (Nat.lt_succ_self _) (toks_lex xA _ (Nat.lt_succ_self _))
    have hat := lex_at_le xA
    rw [bl_len] at hAl hat
    refine loop2 w more a b A B hm hAB (lex_shape xA).2.2 (lex_shape xW).2.2 (by omega) (fun t ht => by have := hat t ht; omega) A.length 0 w3 (by omega) ⟨f.tr0 (f2.tr0 f3), by simp, ?_, by simp, by simp, by simp⟩
    simp only [List.mem_cons, List.not_mem_nil, or_false]
    rintro e (rfl | rfl)
    · exact oa3
    · exact ob
  | succ d ih =>
    intro i w1 wide l' inside hi hI hw hs f
    have hlt : i < (bl text).length := by rw [bl_len]; omega
    have hg : (bl text)[i]? = some ((bl text)[i]) := List.getElem?_eq_getElem hlt
    have htk : (bl text).take (i + 1) = (bl text).take i ++ [(bl text)[i]] := by rw [List.take_add_one, hg]; rfl
    have hex : bl (text.extract i (i + 1)) = [(bl text)[i]] := by
      rw [bl_extract, htk, List.drop_append_of_le_length (by rw [List.length_take]; omega), List.drop_of_length_le (by rw [List.length_take]; omega)]
      rfl
    generalize (bl text)[i] = c at hg htk hex
    have ei : IntKind.wrap .i64 ((i : Int) + 1) = ((i + 1 : Nat) : Int) := i64_next _ (by omega)
    have hxs : (text.extract i (i + 1)).size = 1 := by rw [← bl_len, hex]; rfl
    have next : ∀ (wide' : ByteArray) (l2 : List UInt8) (inside' : Bool), Ins (bl more) ((bl text).take (i + 1)) l2 → bl wide' = bl more ++ l2 → wide'.size ≤ 5 + 6 * (i + 1) → enthymemelaw09_LexerSpaces.S13 text more wide' inside' (i : Int) w1 fun r w' => r = .returned (.bool true) ∧ Fr0 w w' := by
      intro wide' l2 inside' h1 h2 h3
      show enthymemelaw09_LexerSpaces.L6 _ _ _ _ (IntKind.wrap .i64 ((i : Int) + 1)) _ _
      rw [ei]
      exact ih (i + 1) w1 wide' l2 inside' (by omega) h1 h2 h3 f
    have hgb : ∀ {j : Nat} {x : UInt8}, (bl text)[j]? = some x → text[j]? = some x := fun h => by rw [bl_get rfl]; exact h
    have hwx : bl (wide ++ text.extract i (i + 1)) = bl more ++ (l' ++ [c]) := by rw [bl_app, hex, hw, List.append_assoc]
    have hws : (wide ++ text.extract i (i + 1)).size = wide.size + 1 := by rw [ba_app, hxs]
    have S11 : ∀ inside', enthymemelaw09_LexerSpaces.S11 text more (wide ++ text.extract i (i + 1)) inside' (i : Int) w1 fun r w' => r = .returned (.bool true) ∧ Fr0 w w' := by
      intro inside'
      have plain := next (wide ++ text.extract i (i + 1)) (l' ++ [c]) inside' (by rw [htk]; exact hI.snoc c) hwx (by omega)
      refine ⟨by omega, c, by rw [Int.toNat_natCast]; exact hgb hg, sel_eq (fun h10 => sel_not (fun _ => ⟨?_, ?_⟩) (fun _ => plain)) (fun _ => plain)⟩
      · show ¬ _ > (9223372036854775807 : Int)
        omega
      · have hc : c = 10 := UInt8.toNat_inj.1 (by have : (c.toNat : Int) = 10 := h10; show c.toNat = 10; omega)
        subst hc
        refine next _ (l' ++ [10] ++ bl more) inside' (by rw [htk]; exact hI.snoc_ins) ?_ (by rw [ba_app]; omega)
        rw [bl_app, hwx]
        simp
    refine enthymemelaw09_LexerSpaces.L6_step _ _ _ _ _ _ _ (sel_true (decide_eq_true (by omega)) ?_)
    show (0 : Int) ≤ IntKind.wrap .i64 ((i : Int) + 1) ∧ _
    rw [ei]
    simp only [Int.toNat_natCast]
    refine ⟨by omega, by omega, by omega, by omega, ?_, by omega, c, hgb hg, sel_eq (fun _ => sel_eq (fun _ => S11 _) (fun h0 => ?_)) (fun _ => S11 _)⟩
    · rw [hxs]
      show ¬ _ > (9223372036854775807 : Int)
      omega
    · have e2 : IntKind.wrap .i64 ((i : Int) - 1) = ((i - 1 : Nat) : Int) := by rw [IntWalk.i64_in _ (by omega)]; omega
      rw [e2, Int.toNat_natCast]
      have hg' : (bl text)[i - 1]? = some ((bl text)[i - 1]'(by omega)) := List.getElem?_eq_getElem _
      exact ⟨by omega, _, hgb hg', sel_ne (fun _ => S11 _) (fun _ => S11 _)⟩
theorem walk (ls : Sl) (n : Int) (w : World) (hls : ArgNums w ls) (hn : I64 n) :
    Calls Try.prog n_enthymemelaw09_LexerSpaces #[ls.v, .int .i64 n] w fun r w' => r = .returned (.bool true) ∧ Fr0 w w' := by
  obtain ⟨xs, hls, hl, hx⟩ := hls
  refine enthymemelaw09_LexerSpaces.ok _ _ w _ ((r_Good ls xs 12 (by omega) w hls hx hl).mono ?_)
  rintro r w1 ⟨⟨text, rfl, ht, A, hA⟩, f1⟩
  refine ⟨text, rfl, (show LH F0 w w1 [] [] from ⟨f1, by simp, by simp, by simp, by simp, by simp⟩).nw fun w2 _ H2 => (around_any n 4 w2 (by omega) hn).mono ?_⟩
  rintro r w3 ⟨rfl, rfl⟩
  have hr := aroundI_range n 4 (by omega)
  generalize aroundI n 4 = m0 at hr
  obtain ⟨m, rfl⟩ := Int.eq_ofNat_of_zero_le hr.1
  have key : ∀ (more : ByteArray), Blank (bl more) → more.size ≤ 5 → enthymemelaw09_LexerSpaces.S3 text more w2 fun r w' => r = .returned (.bool true) ∧ Fr0 w w' := fun more h1 h2 =>
    loop1 w text more A hA h1 h2 (by omega) text.size 0 w2 more [] false (by omega) .nil (by simp) (by omega) H2.fr
  refine ⟨_, rfl, by omega, by omega, ?_⟩
  show ∃ t23 : ByteArray, w2.cell? ((at0 w1.heap.size).add (Int.toNat (m : Int) * 1)) = some (.string t23) ∧ _
  rw [Int.toNat_natCast, Nat.mul_one]
  match m, hr with
  | 0, _ => exact ⟨_, H2.ld 0 0, key (ByteArray.mk #[32]) blank1 (by decide)⟩
  | 1, _ => exact ⟨_, H2.ld 0 1, key (ByteArray.mk #[59, 32, 40, 34, 10]) blank2 (by decide)⟩
  | 2, _ => exact ⟨_, H2.ld 0 2, key (ByteArray.mk #[9, 13, 10]) blank3 (by decide)⟩
  | 3, _ => exact ⟨_, H2.ld 0 3, key (ByteArray.mk #[32, 59, 10, 59, 10]) blank4 (by decide)⟩
end Spa
end Go.Proofs.Ytemagdpieebjlaa

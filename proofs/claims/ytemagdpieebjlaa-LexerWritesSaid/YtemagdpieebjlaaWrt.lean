/- LexerWrites: what the law does. -/
import Derived.Test.YtemagdpieebjlaaLM
import Derived.Test.YtemagdpieebjlaaVF
namespace Go.Proofs.Ytemagdpieebjlaa
open Go Go.W
namespace Wrt

theorem loop2 (w : World) (a b : Sl) (A B : List Tok) (hAB : All2 SameT A B) (hA : A.length ≤ 100000) : ∀ (d i : Nat) (w1 : World), i + d = A.length →
    LH F0 w w1 [] [.row ty_lexer_Token 3 a (toksC A), .row ty_lexer_Token 3 b (toksC B)] →
    enthymemelaw09_LexerWrites.L29 a b (i : Int) w1 fun r w' => r = .returned (.bool true) ∧ Fr0 w w' := by
  intro d
  induction d with
  | zero =>
    intro i w1 hi H
    have na := toks_n (H.getD 0)
    refine enthymemelaw09_LexerWrites.L29_step _ _ _ _ _ (sel_false (decide_eq_false (by omega)) ((l_lives w1).mono ?_))
    rintro r w2 ⟨rfl, f2⟩
    exact ⟨_, rfl, rfl, H.fr.tr0 f2⟩
  | succ d ih =>
    intro i w1 hi H
    have na := toks_n (H.getD 0)
    have nb := toks_n (H.getD 1)
    rw [← hAB.length] at nb
    have hx : A[i]? = some (A[i]'(by omega)) := List.getElem?_eq_getElem (by omega)
    obtain ⟨y, hy, k1, k2⟩ := hAB.get hx
    generalize A[i]'(by omega) = x at hx k1 k2
    refine enthymemelaw09_LexerWrites.L29_step _ _ _ _ _ (sel_true (decide_eq_true (by omega)) (H.dr fun w2 H2 => ⟨by omega, by omega, ?_⟩))
    simp only [Int.toNat_natCast]
    refine tok_at (H2.getD 0) hx fun p _ c0 c1 c2 => ⟨_, c0, by omega, by omega, ?_⟩
    refine tok_at (H2.getD 1) hy fun p _ d0 d1 d2 => ⟨_, d0, sel_false (by simp [k1]) ⟨by omega, by omega, ?_⟩⟩
    refine tok_at (H2.getD 0) hx fun p _ c0 c1 c2 => ⟨_, c1, by omega, by omega, ?_⟩
    refine tok_at (H2.getD 1) hy fun p _ d0 d1 d2 => ⟨_, d1, sel_false (by simp [k2]) ?_⟩
    show enthymemelaw09_LexerWrites.L29 _ _ (IntKind.wrap .i64 ((i : Int) + 1)) _ _
    rw [i64_next _ (by omega)]
    exact ih (i + 1) w2 (by omega) H2
theorem take_flat (A : List Tok) (i : Nat) (t : Tok) (h : A[i]? = some t) : (A.take (i + 1)).flatMap (fun t => render t ++ [32]) = (A.take i).flatMap (fun t => render t ++ [32]) ++ (render t ++ [32]) := by
  rw [List.take_add_one, h, List.flatMap_append]
  simp
theorem take_flat_le : ∀ (A : List Tok) (i : Nat), ((A.take i).flatMap fun t => render t ++ [32]).length ≤ (A.flatMap fun t => render t ++ [32]).length := fun A i => by
  conv => rhs; rw [← List.take_append_drop i A, List.flatMap_append, List.length_append]
  omega
theorem loop1 (w : World) (text : ByteArray) (a : Sl) (A : List Tok) (ht : text.size ≤ 252) (hx : Lex 0 (bl text) (A ++ [⟨6, [], 0 + (bl text).length⟩])) : ∀ (d i : Nat) (w1 : World) (out : ByteArray), i + d = A.length → bl out = (A.take i).flatMap (fun t => render t ++ [32]) →
    LH F0 w w1 [] [.row ty_lexer_Token 3 a (toksC (A ++ [⟨6, [], 0 + (bl text).length⟩]))] →
    enthymemelaw09_LexerWrites.L7 text a out (i : Int) w1 fun r w' => r = .returned (.bool true) ∧ Fr0 w w' := by
  obtain ⟨e1, e2⟩ := lex_each hx A rfl
  have hAl := toks_len _ _ _ _ (Nat.lt_succ_self _) (toks_lex hx _ (Nat.lt_succ_self _))
  rw [bl_len] at e1 e2 hAl
  rw [List.length_append, List.length_singleton] at hAl
  intro d
  induction d with
  | zero =>
    intro i w1 out hi ho H
    have na := toks_n (H.getD 0)
    rw [List.length_append, List.length_singleton] at na
    have em : IntKind.wrap .i64 ((a.n : Int) - 1) = (A.length : Int) := by rw [IntWalk.i64_in _ (by omega)]; omega
    rw [List.take_of_length_le (by omega)] at ho
    have hos : out.size ≤ 5 * 252 := by rw [← bl_len, ho]; omega
    obtain ⟨B, z, xB, hz1, hz2, hAB⟩ := lex_again A 0 (fun t ht r => (e2 t ht).1 r)
    rw [← ho] at xB
    refine enthymemelaw09_LexerWrites.L7_step _ _ _ _ _ _ (sel_false (by rw [em]; exact decide_eq_false (by omega)) ((l_Tokens out (by omega) w1).mono ?_))
    intro r w2 hp
    rw [of_lex xB (by rw [bl_len]; omega)] at hp
    obtain ⟨b, rfl, ob, f2, _⟩ := hp
    have nb := toks_n ob
    rw [List.length_append, List.length_singleton, ← hAB.length] at nb
    refine ⟨b, _, _, rfl, sel_false rfl (sel_false (by rw [na, nb]; simp) ?_)⟩
    have H2 := H.fr0 f2
    refine loop2 w a b (A ++ [⟨6, [], 0 + (bl text).length⟩]) (B ++ [z]) (All2.append hAB ⟨⟨hz1.symm, hz2.symm⟩, trivial⟩) (by simp; omega) (A.length + 1) 0 w2 (by simp) ⟨H2.fr, by simp, ?_, by simp, by simp, by simp⟩
    simp only [List.mem_cons, List.not_mem_nil, or_false]
    rintro e (rfl | rfl)
    · exact H2.getD 0
    · exact ob
  | succ d ih =>
    intro i w1 out hi ho H
    have na := toks_n (H.getD 0)
    rw [List.length_append, List.length_singleton] at na
    have em : IntKind.wrap .i64 ((a.n : Int) - 1) = (A.length : Int) := by rw [IntWalk.i64_in _ (by omega)]; omega
    have hos : out.size ≤ 5 * 252 := by
      rw [← bl_len, ho]
      have := take_flat_le A i
      omega
    have hg : A[i]? = some (A[i]'(by omega)) := List.getElem?_eq_getElem (by omega)
    obtain ⟨g1, g2, g3⟩ := e2 _ (List.mem_of_getElem? hg)
    generalize A[i]'(by omega) = t at hg g1 g2 g3
    have hfl := take_flat A i t hg
    have s32 : (ByteArray.mk #[32]).size = 1 := rfl
    have next : ∀ {w2 : World} {L : List En} (q : ByteArray), bl q = render t → q.size ≤ 1010 → LH F0 w w2 L [.row ty_lexer_Token 3 a (toksC (A ++ [⟨6, [], 0 + (bl text).length⟩]))] → enthymemelaw09_LexerWrites.S13 text a (out ++ q) (i : Int) w2 fun r w' => r = .returned (.bool true) ∧ Fr0 w w' := by
      intro w2 L q hq hqs H2
      refine ⟨?_, ?_⟩
      · rw [ba_app, s32]
        show ¬ _ > (9223372036854775807 : Int)
        omega
      · show enthymemelaw09_LexerWrites.L7 _ _ _ (IntKind.wrap .i64 ((i : Int) + 1)) _ _
        rw [i64_next _ (by omega)]
        refine ih (i + 1) w2 _ (by omega) ?_ (H2.take 0)
        rw [hfl, bl_app, bl_app, ho, hq, List.append_assoc]
        rfl
    refine enthymemelaw09_LexerWrites.L7_step _ _ _ _ _ _ (sel_true (by rw [em]; exact decide_eq_true (by omega)) ⟨by omega, by omega, ?_⟩)
    simp only [Int.toNat_natCast]
    refine tok_at (H.getD 0) (t := t) (by rw [List.getElem?_append_left (by omega)]; exact hg) fun p _ c0 c1 c2 => ⟨_, _, _, c0, c1, c2, H.nw fun w2 _ H2 => H2.st3 0 rfl fun w3 H3 => ⟨_, H3.ld 0 0, ?_⟩⟩
    have big : ∀ n : Nat, n ≤ 1010 → ¬ (((out.size + n : Nat) : Int) > IntKind.i64.max) := fun n hn => by
      show ¬ _ > (9223372036854775807 : Int)
      omega
    have hr := fun q => next (w2 := w3) (L := [En.c w1.heap.size [.int .i64 t.kind, .string (ba t.text), .int .i64 (t.at' : Int)] ty_lexer_Token]) q
    unfold render at hr
    rcases g3 with hk | hk | hk | ⟨hk, a1, a2, a3⟩
    · rw [if_pos hk] at hr
      exact sel_true (by rw [hk]; rfl) ⟨big 1 (by omega), hr (ByteArray.mk #[40]) rfl (by decide) H3⟩
    · rw [if_neg (by omega), if_pos hk] at hr
      exact sel_false (by rw [hk]; rfl) (sel_true (by rw [hk]; rfl) ⟨big 1 (by omega), hr (ByteArray.mk #[41]) rfl (by decide) H3⟩)
    · refine sel_false (by rw [hk]; rfl) (sel_false (by rw [hk]; rfl) (sel_true (by rw [hk]; rfl) ⟨_, H3.ld 0 1, (l_Quote (ba t.text) (by rw [ba_size]; omega) w3).mono ?_⟩))
      rintro r w4 ⟨rfl, f4⟩
      have hq : (quoteB (bl (ba t.text))).length ≤ 1010 := by
        rw [bl_ba]
        have := (esc_len t.text).2
        unfold quoteB
        simp only [List.length_append, List.length_cons, List.length_nil]
        omega
      rw [if_neg (by omega), if_neg (by omega)]
      refine ⟨_, _, rfl, sel_false rfl ⟨big _ (by rw [ba_size]; exact hq), ?_⟩⟩
      refine next (w2 := w4) (ba (quoteB (bl (ba t.text)))) ?_ (by rw [ba_size]; exact hq) (H3.fr0 f4)
      unfold render
      rw [if_neg (by omega), if_neg (by omega), if_pos hk]
      rfl
    · have ew : IntKind.wrap .i64 ((t.at' : Int) + (((ba t.text).size : Nat) : Int)) = ((t.at' + t.text.length : Nat) : Int) := by rw [ba_size, IntWalk.i64_in _ (by omega)]; omega
      have k0 : ¬ t.kind = 0 := by omega
      have k1 : ¬ t.kind = 1 := by omega
      have k5 : ¬ t.kind = 5 := by omega
      refine sel_false (by simpa using k0) (sel_false (by simpa using k1) (sel_false (by simpa using k5) (H3.dr fun w4 H4 => ⟨_, H4.ld 0 2, sel_false (decide_eq_false (by omega)) ⟨_, H4.ld 0 2, _, H4.ld 0 1, ?_⟩⟩)))
      rw [ew]
      refine sel_false (decide_eq_false (by omega)) ⟨_, H4.ld 0 2, _, H4.ld 0 2, _, H4.ld 0 1, ?_⟩
      rw [ew]
      simp only [Int.toNat_natCast]
      have etx : text.extract t.at' (t.at' + t.text.length) = ba t.text := by
        have : bl (text.extract t.at' (t.at' + t.text.length)) = t.text := by
          rw [bl_extract, List.drop_take, show t.at' + t.text.length - t.at' = t.text.length from by omega]
          simpa using a3
        rw [← ba_bl (text.extract t.at' (t.at' + t.text.length)), this]
      refine ⟨by omega, by omega, by omega, by omega, _, H4.ld 0 1, sel_false (by rw [etx]; simp) ⟨_, H4.ld 0 1, big _ (by rw [ba_size]; omega), ?_⟩⟩
      refine next (w2 := w4) (ba t.text) ?_ (by rw [ba_size]; omega) H4
      unfold render
      rw [if_neg k0, if_neg k1, if_neg k5]
      rfl
theorem walk (ls : Sl) (w : World) (hls : ArgNums w ls) :
    Calls Try.prog n_enthymemelaw09_LexerWrites #[ls.v] w fun r w' => r = .returned (.bool true) ∧ Fr0 w w' := by
  obtain ⟨xs, hls, hl, hx⟩ := hls
  refine enthymemelaw09_LexerWrites.ok _ w _ ((r_Good ls xs 14 (by omega) w hls hx hl).mono ?_)
  rintro r w1 ⟨⟨text, rfl, ht, L, hL⟩, f1⟩
  refine ⟨text, rfl, (l_Tokens text (by omega) w1).mono ?_⟩
  intro r w2 hp
  rw [hL] at hp
  obtain ⟨a, rfl, oa, f2, _⟩ := hp
  obtain ⟨xA, _⟩ := lex_of hL
  obtain ⟨⟨A, rfl⟩, _⟩ := lex_shape xA
  have hAl := toks_len _ _ _ _ (Nat.lt_succ_self _) (toks_lex xA _ (Nat.lt_succ_self _))
  rw [bl_len, List.length_append, List.length_singleton] at hAl
  have na := toks_n oa
  rw [List.length_append, List.length_singleton] at na
  have em : IntKind.wrap .i64 ((a.n : Int) - 1) = (A.length : Int) := by rw [IntWalk.i64_in _ (by omega)]; omega
  refine ⟨a, _, _, rfl, sel_false rfl (sel_eq (fun h => absurd h (by omega)) (fun _ => ?_))⟩
  rw [em]
  simp only [Int.toNat_natCast]
  refine ⟨by omega, by omega, tok_at oa (i := A.length) (t := ⟨6, [], 0 + (bl text).length⟩) (by rw [List.getElem?_append_right (Nat.le_refl _)]; simp) fun p _ c0 _ _ => ⟨_, c0, sel_false rfl ?_⟩⟩
  refine loop1 w text a A (by omega) xA A.length 0 w2 _ (by omega) rfl ⟨f1.tr0 f2, by simp, ?_, by simp, by simp, by simp⟩
  simp only [List.mem_cons, List.not_mem_nil, or_false]
  rintro e rfl
  exact oa
end Wrt
end Go.Proofs.Ytemagdpieebjlaa

/- LexerQuotes: what the law does. -/
import Derived.Test.YtemagdpieebjlaaM7
import Derived.Test.YtemagdpieebjlaaVB
namespace Go.Proofs.Ytemagdpieebjlaa
open Go Go.W

theorem hex_back (c : UInt8) : digB 16 (hexL.getD (c.toNat / 16) 0) = true ∧ digB 16 (hexL.getD (c.toNat % 16) 0) = true ∧ UInt8.ofNat (16 * hexV (hexL.getD (c.toNat / 16) 0) + hexV (hexL.getD (c.toNat % 16) 0)) = c :=
  all_bytes (p := fun c => digB 16 (hexL.getD (c.toNat / 16) 0) = true ∧ digB 16 (hexL.getD (c.toNat % 16) 0) = true ∧ UInt8.ofNat (16 * hexV (hexL.getD (c.toNat / 16) 0) + hexV (hexL.getD (c.toNat % 16) 0)) = c) (by decide +kernel) c
theorem qu_esc (c : UInt8) (l : List UInt8) : qu (escB c ++ l) = (qu l).push c (escB c).length := by
  unfold escB
  split
  · rename_i h
    show qu (92 :: c :: l) = _
    conv => lhs; unfold qu
    rw [if_neg (by decide), if_neg (by decide)]
    simp only []
    rw [if_pos h]
    rfl
  · rename_i h
    split
    · rename_i h2
      show qu (c :: l) = _
      conv => lhs; unfold qu
      rw [if_neg (by omega), if_pos (by omega), if_neg (by omega)]
      rfl
    · obtain ⟨h1, h2, h3⟩ := hex_back c
      generalize hexL.getD (c.toNat / 16) 0 = x at *
      generalize hexL.getD (c.toNat % 16) 0 = y at *
      show qu (92 :: 120 :: x :: y :: l) = _
      conv => lhs; unfold qu
      rw [if_neg (by decide), if_neg (by decide)]
      simp only []
      rw [if_neg (by decide), if_neg (by decide)]
      simp only [h1, h2, if_true, h3]
      rfl
theorem qu_quote : ∀ (t l : List UInt8), qu (t.flatMap escB ++ [34] ++ l) = .ok t ((t.flatMap escB).length + 1)
  | [], l => by
    show qu (34 :: l) = _
    unfold qu
    rw [if_pos (by decide)]
    rfl
  | c :: t, l => by
    rw [List.flatMap_cons, List.append_assoc, List.append_assoc, qu_esc, ← List.append_assoc, qu_quote t l, QR.push, List.length_append, Nat.add_assoc]
theorem next1_quote (t l : List UInt8) : next1 (quoteB t ++ l) = .tok 5 t (quoteB t).length := by
  have e : quoteB t ++ l = 34 :: (t.flatMap escB ++ [34] ++ l) := by unfold quoteB; simp
  have hl : (quoteB t).length = 1 + ((t.flatMap escB).length + 1) := by unfold quoteB; simp; omega
  rw [e, hl]
  unfold next1
  simp only []
  rw [if_neg (by decide), if_neg (by decide), if_pos (by decide), qu_quote t l]
theorem tokens_quote (t : List UInt8) (h : (quoteB t).length ≤ 65536) : tokens (quoteB t) = .ok [⟨5, t, 0⟩, ⟨6, [], (quoteB t).length⟩] := by
  have e : quoteB t = 34 :: (t.flatMap escB ++ [34]) := by unfold quoteB; simp
  unfold tokens
  rw [if_neg (by omega)]
  have hn := next1_quote t []
  rw [List.append_nil] at hn
  generalize hq : (quoteB t).length = n at *
  obtain ⟨m, rfl⟩ : ∃ m, n = m + 1 := ⟨n - 1, by rw [e] at hq; simp at hq; omega⟩
  have hd : (quoteB t).drop (m + 1) = [] := List.drop_of_length_le (by omega)
  rw [e] at hn hd ⊢
  rw [toks_tok _ _ _ _ (by decide) (by decide), hn]
  simp only [hd]
  show TR.push _ (toks (m + 1) (0 + (m + 1)) []) = _
  unfold toks
  simp [skipN, next1, TR.push]
namespace Quo
theorem quote_zeros (n : Nat) : (quoteB (List.replicate n 0)).length = 4 * n + 2 := by
  have : ∀ n : Nat, ((List.replicate n (0 : UInt8)).flatMap escB).length = 4 * n := by
    intro n
    induction n with
    | zero => rfl
    | succ n ih =>
      rw [List.replicate_succ, List.flatMap_cons, List.length_append, ih]
      show 4 + _ = _
      omega
  unfold quoteB
  simp only [List.length_append, this, List.length_cons, List.length_nil]
  omega
theorem long (N : Nat) (h2 : N ≤ 1000000) (w : World) : Calls Try.prog n_lexer_Quote #[.string (ba (List.replicate N 0))] w fun r w' => (∃ t : ByteArray, r = .returned (.tuple #[.string t, .int .i64 (if 65536 < 4 * N + 2 then 4 else 0)])) ∧ Fr0 w w' := by
  refine (l_Quote _ (by rw [← bl_len, bl_ba, List.length_replicate]; omega) w).mono ?_
  rintro r w3 ⟨rfl, f⟩
  rw [bl_ba, quote_zeros N]
  exact ⟨⟨_, rfl⟩, f⟩
theorem walk (s : ByteArray) (n : Int) (w : World) (hs : s.size ≤ maxLen) (hn : I64 n) :
    Calls Try.prog n_enthymemelaw09_LexerQuotes #[.string s, .int .i64 n] w fun r w' => r = .returned (.bool true) ∧ Fr0 w w' := by
  refine enthymemelaw09_LexerQuotes.ok _ _ w _ ((r_Short s 100 w).mono ?_)
  rintro r w1 ⟨⟨x, rfl, hx, _⟩, rfl⟩
  have hq : (quoteB (bl x)).length ≤ 402 := by
    have := (esc_len (bl x)).2
    rw [bl_len] at this
    unfold quoteB
    simp only [List.length_append, List.length_cons, List.length_nil]
    omega
  refine ⟨x, rfl, (l_Quote x (by omega) w).mono ?_⟩
  rintro r w1 ⟨rfl, f1⟩
  rw [if_neg (by omega), if_neg (by omega)]
  refine ⟨_, _, rfl, (l_Tokens (ba (quoteB (bl x))) (by rw [← bl_len, bl_ba]; omega) w1).mono ?_⟩
  intro r w2 hp
  rw [bl_ba, tokens_quote _ (by omega)] at hp
  obtain ⟨l, rfl, ol, f2, nl⟩ := hp
  refine ⟨l, _, _, rfl, sel_false rfl (sel_false rfl (sel_false rfl ((r_Quote x (by omega) w2).mono ?_)))⟩
  rintro r w3 ⟨rfl, f3⟩
  have ln := toks_n ol
  refine ⟨_, rfl, sel_false (by simp) (sel_ne (fun h => absurd (by rw [ln]; rfl) h) (fun _ => (around_any n 3 w3 (by omega) hn).mono ?_))⟩
  rintro r w4 ⟨rfl, rfl⟩
  have hr := aroundI_range n 3 (by omega)
  refine ⟨_, rfl, ?_⟩
  generalize aroundI n 3 = m0 at hr
  obtain ⟨m, rfl⟩ := Int.eq_ofNat_of_zero_le hr.1
  have e1 : IntKind.wrap .i64 (16383 + (m : Int)) = ((16383 + m : Nat) : Int) := i64_add 16383 m (by omega)
  rw [e1]
  obtain ⟨N, hN⟩ : ∃ N : Nat, N = 16383 + m := ⟨_, rfl⟩
  rw [← hN]
  obtain ⟨w4, z1, z2, z3⟩ := zeros w3 N (by omega)
  refine ⟨_, w4, z1, _, z3, (long N (by omega) w4).mono ?_⟩
  rintro r w5 ⟨⟨t, rfl⟩, f5⟩
  have F := f3.tr0 (z2.tr0 f5)
  have o5 : OwnRow w5 ty_lexer_Token 3 l (toksC [⟨5, bl x, 0⟩, ⟨6, [], (quoteB (bl x)).length⟩]) := OwnRow.fr (M := F0) ol F (fun _ _ h => h)
  have l2 : (0 : Int) < ((l.n : Nat) : Int) ∧ (1 : Int) < ((l.n : Nat) : Int) := by rw [ln]; show (0 : Int) < ((2 : Nat) : Int) ∧ (1 : Int) < ((2 : Nat) : Int); omega
  refine ⟨_, _, rfl, by omega, l2.1, tok_at (i := 0) o5 rfl fun p hp c0 c1 c2 => ⟨_, _, _, c0, c1, c2, sel_true (by simp [ba_bl]) ⟨by omega, l2.2, ?_⟩⟩⟩
  rw [hp]
  have hk := tok_at (i := 1) o5 rfl (K := fun q => ∃ q', l.a = some q' ∧ w5.cell? ((q'.add (1 * 3)).add 0) = some (.int .i64 6) ∧ w5.cell? ((q'.add (1 * 3)).add 1) = some (.string (ba [])) ∧ w5.cell? ((q'.add (1 * 3)).add 2) = some (.int .i64 (((quoteB (bl x)).length : Nat) : Int))) (fun q hq d0 d1 d2 => ⟨q, hq, d0, d1, d2⟩)
  rw [hp] at hk
  obtain ⟨q, hq', d0, d1, d2⟩ := hk
  cases hq'
  have e2 : IntKind.wrap .i64 (IntKind.wrap .i64 (4 * (N : Int)) + 2) = ((4 * N + 2 : Nat) : Int) := by
    rw [IntWalk.i64_in (4 * (N : Int)) (by omega), IntWalk.i64_in _ (by omega)]; omega
  have live : ∀ {w6 : World}, Fr0 w w6 → Calls Try.prog n_enthymemelaw09_lives #[] w6 fun r_ w1 => ∃ t91 : Bool, r_ = .returned (.bool t91) ∧ (Ending.returned (.bool t91) = .returned (.bool true) ∧ Fr0 w w1) := fun f6 => by
    refine (l_lives _).mono ?_
    rintro r w7 ⟨rfl, f7⟩
    exact ⟨_, rfl, rfl, f6.tr0 f7⟩
  have hk2 : (((6 : Int) == 6) && (((ba []).toList == (ByteArray.mk #[]).toList) && (((((quoteB (bl x)).length : Nat) : Int) == (((ba (quoteB (bl x))).size : Nat) : Int)) && true))) = true := by
    have e3 : (ba (quoteB (bl x))).size = (quoteB (bl x)).length := rfl
    have e4 : ba [] = ByteArray.mk #[] := rfl
    rw [e3, e4]
    simp
  have FF := f1.tr0 (f2.tr0 F)
  refine ⟨_, _, _, d0, d1, d2, sel_true hk2 ?_⟩
  rw [e2]
  by_cases hlim : 65536 < 4 * N + 2
  · have hd : decide (((4 * N + 2 : Nat) : Int) ≤ 65536) = false := decide_eq_false (by omega)
    rw [hd, if_pos hlim]
    exact sel_true rfl (sel_false rfl (sel_true rfl (live FF)))
  · have hd : decide (((4 * N + 2 : Nat) : Int) ≤ 65536) = true := decide_eq_true (by omega)
    rw [hd, if_neg hlim]
    exact sel_true rfl (sel_true rfl (live FF))
end Quo
end Go.Proofs.Ytemagdpieebjlaa

/- LexerTokens: what the law does. -/
import Derived.Test.YtemagdpieebjlaaM7
import Derived.Test.YtemagdpieebjlaaVA
namespace Go.Proofs.Ytemagdpieebjlaa
open Go Go.W
namespace Tks

theorem long (N : Nat) (h : 65536 < N) (h2 : N ≤ 1000000) (w : World) : Calls Try.prog n_lexer_Tokens #[.string (ba (List.replicate N 0))] w fun r w' => r = .returned (.tuple #[.slice none 0 0, .int .i64 65536, .int .i64 4]) ∧ Fr0 w w' := by
  refine (l_Tokens _ (by rw [← bl_len, bl_ba, List.length_replicate]; omega) w).mono ?_
  intro r w3 hp
  have e : tokens (bl (ba (List.replicate N 0))) = .bad 65536 4 := by
    unfold tokens
    rw [bl_ba, List.length_replicate, if_pos h]
  rw [e] at hp
  exact ⟨hp.1, hp.2.2⟩
theorem loop (w : World) (ts : List ByteArray) (b : Nat) (hn : ts.length = 7) (hts : ∀ t ∈ ts, t.size ≤ 1000000) : ∀ (d k : Nat) (w1 : World), k + d = 7 → LH F0 w w1 [.c b (ts.map Value.string) ty_string] [] →
    enthymemelaw09_LexerTokens.L7 ⟨some (at0 b), 7, 7⟩ (k : Int) w1 fun r w' => r = .returned (.bool true) ∧ Fr0 w w' := by
  intro d
  induction d with
  | zero =>
    intro k w1 hk H
    refine enthymemelaw09_LexerTokens.L7_step _ _ _ _ (sel_false (decide_eq_false (by show ¬ _ < ((7 : Nat) : Int); omega)) ?_)
    obtain ⟨w2, z1, z2, z3⟩ := zeros w1 65537 (by omega)
    refine ⟨_, w2, z1, _, z3, (long 65537 (by omega) (by omega) w2).mono ?_⟩
    rintro r w3 ⟨rfl, f3⟩
    refine ⟨⟨none, 0, 0⟩, _, _, rfl, sel_true rfl (sel_true rfl ((l_lives w3).mono ?_))⟩
    rintro r w4 ⟨rfl, f4⟩
    exact ⟨_, rfl, rfl, H.fr.tr0 (z2.tr0 (f3.tr0 f4))⟩
  | succ d ih =>
    intro k w1 hk H
    have hg : ts[k]? = some (ts[k]'(by omega)) := List.getElem?_eq_getElem (by omega)
    have hsz := hts _ (List.mem_of_getElem? hg)
    generalize ts[k]'(by omega) = t at hg hsz
    have cell : ∀ {w2 : World}, LH F0 w w2 [.c b (ts.map Value.string) ty_string] [] → w2.cell? ((at0 b).add (Int.toNat (k : Int) * 1)) = some (.string t) := fun H2 => by
      rw [Int.toNat_natCast, Nat.mul_one]
      exact H2.ld 0 k rfl (by rw [List.getElem?_map, hg]; rfl)
    refine enthymemelaw09_LexerTokens.L7_step _ _ _ _ (sel_true (decide_eq_true (by show _ < ((7 : Nat) : Int); omega)) ⟨by omega, by show _ < ((7 : Nat) : Int); omega, t, cell H, (l_Tokens t hsz w1).mono ?_⟩)
    intro r w2 hp
    have next : ∀ {w5 : World}, Fr0 w1 w5 → enthymemelaw09_LexerTokens.S13 ⟨some (at0 b), 7, 7⟩ (k : Int) w5 fun r w' => r = .returned (.bool true) ∧ Fr0 w w' := fun f => by
      show enthymemelaw09_LexerTokens.L7 _ (IntKind.wrap .i64 ((k : Int) + 1)) _ _
      rw [i64_next k (by omega)]
      exact ih (k + 1) _ (by omega) (H.fr0 f)
    cases hq : tokens (bl t) with
    | ok L =>
      have hL := tokens_len hq
      rw [hq] at hp
      obtain ⟨a, rfl, oa, f2, _⟩ := hp
      refine ⟨a, _, _, rfl, by omega, by show _ < ((7 : Nat) : Int); omega, t, cell (H.fr0 f2), (r_Tokens t hsz w2).mono ?_⟩
      intro r w3 hp
      rw [hq] at hp
      obtain ⟨b', rfl, ob, f3, _⟩ := hp
      refine ⟨b', _, _, rfl, sel_false rfl (sel_false rfl ((l_plain a L w3 (oa.fr f3 (fun _ _ h => h)) (by omega)).mono ?_))⟩
      rintro r w4 ⟨sl, rfl, os, f4, _⟩
      refine ⟨sl, rfl, (r_Same sl b' _ _ L w4 os (OwnRow.fr (M := F0) ob f4 (fun _ _ h => h)) (by omega)).mono ?_⟩
      rintro r w5 ⟨rfl, f5⟩
      exact ⟨true, rfl, sel_false rfl (next (f2.tr0 (f3.tr0 (f4.tr0 f5))))⟩
    | bad x e =>
      rw [hq] at hp
      obtain ⟨rfl, _, f2⟩ := hp
      refine ⟨⟨none, 0, 0⟩, _, _, rfl, by omega, by show _ < ((7 : Nat) : Int); omega, t, cell (H.fr0 f2), (r_Tokens t hsz w2).mono ?_⟩
      intro r w3 hp
      rw [hq] at hp
      obtain ⟨rfl, _, f3⟩ := hp
      refine ⟨⟨none, 0, 0⟩, _, _, rfl, sel_ne (fun h => absurd rfl h) (fun _ => sel_ne (fun h => absurd rfl h) (fun _ => (l_plain ⟨none, 0, 0⟩ [] w3 (OwnRow.nil _ _ _) (by simp)).mono ?_))⟩
      rintro r w4 ⟨sl, rfl, os, f4, _⟩
      refine ⟨sl, rfl, (r_Same sl ⟨none, 0, 0⟩ _ ty_enthymemeref09_Token [] w4 os (OwnRow.nil _ _ _) (by simp)).mono ?_⟩
      rintro r w5 ⟨rfl, f5⟩
      exact ⟨true, rfl, sel_false rfl (next (f2.tr0 (f3.tr0 (f4.tr0 f5))))⟩
theorem five (ls : Sl) (xs : List Int) (s text : ByteArray) (at' : Int) (bent : Sl) (bs : List UInt8) (w w1 : World) (hls : Nums w ls xs) (hx : ∀ x ∈ xs, I64 x) (hl : xs.length ≤ 9223372036854775807) (hat : I64 at') (ht : text.size ≤ 216) (hb : Bytes w1 bent bs) (hbl : bs.length ≤ 216) (f : Fr0 w w1) :
    enthymemelaw09_LexerTokens.S5 ls s at' text bent w1 fun r w' => r = .returned (.bool true) ∧ Fr0 w w' := by
  have fd : Fr0 w1 w1.drew := Fr.drew _ _
  show W.drV w1 _
  refine ⟨_, bytes_str (hb.fr0 fd), ?_⟩
  rw [i64_next _ (by omega)]
  refine (around_any at' ((text.size + 1 : Nat) : Int) w1.drew (by omega) hat).mono ?_
  rintro r w2 ⟨rfl, rfl⟩
  have hr := aroundI_range at' ((text.size + 1 : Nat) : Int) (by omega)
  generalize aroundI at' ((text.size + 1 : Nat) : Int) = m0 at hr
  obtain ⟨m, rfl⟩ := Int.eq_ofNat_of_zero_le hr.1
  refine ⟨_, rfl, bytes_str (hb.fr0 fd), by omega, by omega, (r_Short s 60 _).mono ?_⟩
  rintro r w2 ⟨⟨t1, rfl, h1, _⟩, rfl⟩
  refine ⟨t1, rfl, bytes_str (hb.fr0 fd), (r_Good ls xs 12 (by omega) _ (hls.fr0 (f.tr0 fd)) hx hl).mono ?_⟩
  rintro r w3 ⟨⟨t2, rfl, h2, _⟩, f3⟩
  refine ⟨t2, rfl, bytes_str (hb.fr0 (fd.tr0 f3)), (r_Good ls xs 9 (by omega) _ (hls.fr0 (f.tr0 (fd.tr0 f3))) hx hl).mono ?_⟩
  rintro r w4 ⟨⟨t3, rfl, h3, _⟩, f4⟩
  refine ⟨t3, rfl, bytes_str (hb.fr0 (fd.tr0 (f3.tr0 f4))), (r_Short s 5 w4).mono ?_⟩
  rintro r w5 ⟨⟨t4, rfl, h4, _⟩, rfl⟩
  have F := f.tr0 (fd.tr0 (f3.tr0 f4))
  refine ⟨t4, rfl, bytes_str (hb.fr0 (fd.tr0 (f3.tr0 f4))), ?_, ?_⟩
  · show ¬ _ > (9223372036854775807 : Int)
    omega
  · refine (show LH F0 w w4 [] [] from ⟨F, by simp, by simp, by simp, by simp, by simp⟩).nw fun w6 _ H6 => ?_
    refine loop w [text, ba bs, text.extract 0 (Int.toNat (m : Int)), t1, t2, t3 ++ t4, ByteArray.mk #[]] w4.heap.size rfl ?_ 7 0 w6 rfl H6
    intro t ht'
    simp only [List.mem_cons, List.not_mem_nil, or_false] at ht'
    rcases ht' with rfl | rfl | rfl | rfl | rfl | rfl | rfl
    · omega
    · rw [← bl_len, bl_ba]; omega
    · rw [← bl_len, bl_extract]
      have := bl_len text
      simp; omega
    · omega
    · omega
    · rw [ba_app]; omega
    · decide
theorem walk (ls : Sl) (s : ByteArray) (at' c : Int) (w : World) (hls : ArgNums w ls) (hs : s.size ≤ maxLen) (hat : I64 at') (hc : 0 ≤ c ∧ c ≤ 255) :
    Calls Try.prog n_enthymemelaw09_LexerTokens #[ls.v, .string s, .int .i64 at', .int .u8 c] w fun r w' => r = .returned (.bool true) ∧ Fr0 w w' := by
  obtain ⟨xs, hls, hl, hx⟩ := hls
  obtain ⟨cb, hcb⟩ : ∃ cb : UInt8, c = (cb.toNat : Int) := ⟨UInt8.ofNat c.toNat, by simp; omega⟩
  subst hcb
  refine enthymemelaw09_LexerTokens.ok _ _ _ _ w _ ((r_Some ls xs 12 (by omega) w hls hx hl).mono ?_)
  rintro r w1 ⟨⟨text, rfl, ht⟩, f1⟩
  obtain ⟨s', w2, c1, c2, c3, c4, c5⟩ := str_set w1 text
  refine ⟨text, rfl, s', w2, c1, sel_dec (fun h => ?_) (fun h => ?_)⟩
  · refine (around_any at' ((s'.n : Nat) : Int) w2 (by omega) hat).mono ?_
    rintro r w3 ⟨rfl, rfl⟩
    have hr := aroundI_range at' ((s'.n : Nat) : Int) (by omega)
    generalize aroundI at' ((s'.n : Nat) : Int) = m0 at hr
    obtain ⟨m, rfl⟩ := Int.eq_ofNat_of_zero_le hr.1
    obtain ⟨p, hp, d1, d2, d3, d4⟩ := c5 m cb (by omega)
    refine ⟨_, rfl, by omega, by omega, ?_⟩
    rw [hp, Int.toNat_natCast, Nat.mul_one]
    exact ⟨d1, d2, five ls xs s text at' s' ((bl text).set m cb) w _ hls hx hl hat (by omega) d3 (by rw [List.length_set, bl_len]; omega) (f1.tr0 d4)⟩
  · exact five ls xs s text at' s' (bl text) w w2 hls hx hl hat (by omega) c3 (by rw [bl_len]; omega) (f1.tr0 c2)
end Tks
end Go.Proofs.Ytemagdpieebjlaa

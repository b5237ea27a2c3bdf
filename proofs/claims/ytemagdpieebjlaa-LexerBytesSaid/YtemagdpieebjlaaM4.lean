/- Quoting, by package lexer and by the reference: the contracts. -/
import Derived.Test.YtemagdpieebjlaaM3
namespace Go.Proofs.Ytemagdpieebjlaa
open Go Go.W

abbrev hexL : List UInt8 := digitsL ++ [97, 98, 99, 100, 101, 102]
def escB (c : UInt8) : List UInt8 := if c.toNat = 34 ∨ c.toNat = 92 then [92, c] else if 32 ≤ c.toNat ∧ c.toNat ≤ 126 then [c] else [92, 120, hexL.getD (c.toNat / 16) 0, hexL.getD (c.toNat % 16) 0]
def quoteB (l : List UInt8) : List UInt8 := [34] ++ l.flatMap escB ++ [34]
theorem escB_len (c : UInt8) : 1 ≤ (escB c).length ∧ (escB c).length ≤ 4 := by unfold escB; split <;> (try split) <;> simp
theorem esc_len : ∀ l : List UInt8, l.length ≤ (l.flatMap escB).length ∧ (l.flatMap escB).length ≤ 4 * l.length
  | [] => by simp
  | c :: l => by
    have h1 := escB_len c
    have h2 := esc_len l
    rw [List.flatMap_cons, List.length_append, List.length_cons]
    omega
theorem hex_hi (c : UInt8) : (ByteArray.mk #[48, 49, 50, 51, 52, 53, 54, 55, 56, 57, 97, 98, 99, 100, 101, 102])[c.toNat / 16]? = some (hexL.getD (c.toNat / 16) 0) := all_bytes (p := fun c => (ByteArray.mk #[48, 49, 50, 51, 52, 53, 54, 55, 56, 57, 97, 98, 99, 100, 101, 102])[c.toNat / 16]? = some (hexL.getD (c.toNat / 16) 0)) (by decide +kernel) c
theorem hex_lo (c : UInt8) : (ByteArray.mk #[48, 49, 50, 51, 52, 53, 54, 55, 56, 57, 97, 98, 99, 100, 101, 102])[c.toNat % 16]? = some (hexL.getD (c.toNat % 16) 0) := all_bytes (p := fun c => (ByteArray.mk #[48, 49, 50, 51, 52, 53, 54, 55, 56, 57, 97, 98, 99, 100, 101, 102])[c.toNat % 16]? = some (hexL.getD (c.toNat % 16) 0)) (by decide +kernel) c
theorem one_byteV (l : List UInt8) : ∀ u ∈ l.map byteV, u.oneCell' = true := fun u hu => by
  obtain ⟨c, _, rfl⟩ := List.mem_map.1 hu
  rfl
theorem r_Quote (s : ByteArray) (hsm : s.size ≤ 1000000) (w : World) : Calls Try.prog n_enthymemeref09_Quote #[.string s] w fun r w' => r = .returned (.string (ba (quoteB (bl s)))) ∧ Fr0 w w' := by
  refine enthymemeref09_Quote.ok _ w _ ?_
  refine LH.nwrow (LH.start (M := F0) [] (by simp)) (e := ty_uint8) (sz := 1) (n := 1) (cs := ([34] : List UInt8).map byteV) rfl (by decide) fun w1 H1 => ?_
  have loop : ∀ (l : List UInt8) (k : Nat) (acc : List UInt8) (out : Sl) (w1 : World), (bl s).drop k = l → k ≤ s.size → acc.length ≤ 4 * k + 1 → LH F0 w w1 [.row ty_uint8 1 out (acc.map byteV)] [] →
      enthymemeref09_Quote.L4 s (ByteArray.mk #[48, 49, 50, 51, 52, 53, 54, 55, 56, 57, 97, 98, 99, 100, 101, 102]) out (k : Int) w1 fun r w' => r = .returned (.string (ba (acc ++ l.flatMap escB ++ [34]))) ∧ Fr0 w w' := by
    intro l
    induction l with
    | nil =>
      intro k acc out w1 hl hk ha H
      have := nil_drop hl
      have tn : out.n = acc.length := by have := OwnRow.len (H.get 0); simp at this; omega
      refine enthymemeref09_Quote.L4_step _ _ _ _ _ _ (sel_false (decide_eq_false (by omega)) ?_)
      refine H.apn 0 el_bytes (news := ([34] : List UInt8).map byteV) rfl rfl (one_byteV _) (by omega) (by omega) fun t w2 H2 => ?_
      have hb : Bytes w2 t (acc ++ [34]) := by
        have := OwnRow.rd1 (H2.get 0)
        rwa [← List.map_append] at this
      refine ⟨_, bytes_str hb, ?_, H2.fr⟩
      simp
    | cons c l ih =>
      intro k acc out w1 hl hk ha H
      obtain ⟨gc, hl1, hsz⟩ := get_drop hl
      have tn : out.n = acc.length := by have := OwnRow.len (H.get 0); simp at this; omega
      have next : ∀ (acc' : List UInt8) (out' : Sl) (w2 : World), acc' = acc ++ escB c → LH F0 w w2 [.row ty_uint8 1 out' (acc'.map byteV)] [] → enthymemeref09_Quote.S11 s (ByteArray.mk #[48, 49, 50, 51, 52, 53, 54, 55, 56, 57, 97, 98, 99, 100, 101, 102]) out' (k : Int) w2 fun r w' => r = .returned (.string (ba (acc ++ (c :: l).flatMap escB ++ [34]))) ∧ Fr0 w w' := by
        intro acc' out' w2 he H2
        show enthymemeref09_Quote.L4 _ _ _ (IntKind.wrap .i64 ((k : Int) + 1)) _ _
        rw [i64_next k (by omega)]
        have h4 := escB_len c
        have := ih (k + 1) acc' out' w2 hl1 (by omega) (by rw [he, List.length_append]; omega) H2
        rw [he] at this
        simpa [List.flatMap_cons] using this
      refine enthymemeref09_Quote.L4_step _ _ _ _ _ _ (sel_true (decide_eq_true (by omega)) ⟨by omega, c, by rw [Int.toNat_natCast]; exact gc, ?_⟩)
      have tail : ∀ (pre : List UInt8) (out' : Sl) (w2 : World), out'.n ≤ acc.length + 1 → (pre = [] ∧ c.toNat ≠ 34 ∧ c.toNat ≠ 92 ∨ pre = [92] ∧ (c.toNat = 34 ∨ c.toNat = 92)) → LH F0 w w2 [.row ty_uint8 1 out' ((acc ++ pre).map byteV)] [] → enthymemeref09_Quote.S9 s (ByteArray.mk #[48, 49, 50, 51, 52, 53, 54, 55, 56, 57, 97, 98, 99, 100, 101, 102]) out' (k : Int) (c.toNat : Int) w2 fun r w' => r = .returned (.string (ba (acc ++ (c :: l).flatMap escB ++ [34]))) ∧ Fr0 w w' := by
        intro pre out' w2 hn hpre H2
        have far : ¬ (32 ≤ c.toNat ∧ c.toNat ≤ 126) → enthymemeref09_Quote.S12 s (ByteArray.mk #[48, 49, 50, 51, 52, 53, 54, 55, 56, 57, 97, 98, 99, 100, 101, 102]) out' (k : Int) (c.toNat : Int) w2 fun r w' => r = .returned (.string (ba (acc ++ (c :: l).flatMap escB ++ [34]))) ∧ Fr0 w w' := fun h => by
          have hlt := c.toNat_lt
          have e1 : IntKind.wrap .u8 (Int.tdiv (c.toNat : Int) 16) = ((c.toNat / 16 : Nat) : Int) := by
            rw [show Int.tdiv (c.toNat : Int) 16 = ((c.toNat / 16 : Nat) : Int) from rfl, IntKind.wrap_u8]; omega
          have e2 : Int.tmod (c.toNat : Int) 16 = ((c.toNat % 16 : Nat) : Int) := rfl
          refine H2.dr fun w3 H3 => ⟨by rw [e1]; omega, hexL.getD (c.toNat / 16) 0, by rw [e1, Int.toNat_natCast]; exact hex_hi c, by rw [e2]; omega, hexL.getD (c.toNat % 16) 0, by rw [e2, Int.toNat_natCast]; exact hex_lo c, ?_⟩
          refine H3.apn 0 el_bytes (news := ([92, 120, hexL.getD (c.toNat / 16) 0, hexL.getD (c.toNat % 16) 0] : List UInt8).map byteV) rfl rfl (one_byteV _) (by omega) (by omega) fun t w4 H4 => next (acc ++ pre ++ [92, 120, hexL.getD (c.toNat / 16) 0, hexL.getD (c.toNat % 16) 0]) t w4 ?_ (by rw [List.map_append]; exact H4)
          rcases hpre with ⟨rfl, h1, h2⟩ | ⟨_, h1⟩
          · unfold escB; rw [if_neg (by omega), if_neg h]; simp
          · exact absurd (by omega) h
        refine sel_dec (fun h1 => sel_dec (fun h2 => ?_) (fun h2 => far (by omega))) (fun h1 => far (by omega))
        refine H2.apn 0 el_bytes (news := ([c] : List UInt8).map byteV) rfl rfl (one_byteV _) (by omega) (by omega) fun t w4 H4 => next (acc ++ pre ++ [c]) t w4 ?_ (by rw [List.map_append]; exact H4)
        rcases hpre with ⟨rfl, h3, h4⟩ | ⟨rfl, h3⟩
        · unfold escB; rw [if_neg (by omega), if_pos (by omega)]; simp
        · unfold escB; rw [if_pos h3]; simp
      have esc : (c.toNat = 34 ∨ c.toNat = 92) → enthymemeref09_Quote.S8 s (ByteArray.mk #[48, 49, 50, 51, 52, 53, 54, 55, 56, 57, 97, 98, 99, 100, 101, 102]) out (k : Int) (c.toNat : Int) w1 fun r w' => r = .returned (.string (ba (acc ++ (c :: l).flatMap escB ++ [34]))) ∧ Fr0 w w' := fun h =>
        H.apn 0 el_bytes (news := ([92] : List UInt8).map byteV) rfl rfl (one_byteV _) (by omega) (by omega) fun t w4 H4 => tail [92] t w4 (by have := OwnRow.len (H4.get 0); simp at this; omega) (.inr ⟨rfl, h⟩) (by rw [List.map_append]; exact H4)
      refine sel_eq (fun h => esc (.inl (by omega))) (fun h1 => sel_eq (fun h => esc (.inr (by omega))) (fun h2 => ?_))
      exact tail [] out w1 (by omega) (.inl ⟨rfl, by omega, by omega⟩) (by rw [List.append_nil]; exact H)
  exact loop (bl s) 0 [34] _ w1 rfl (by omega) (by simp) H1
theorem l_bare (c : UInt8) (w : World) : Calls Try.prog n_lexer_bare #[.int .u8 (c.toNat : Int)] w fun r w' => r = .returned (.bool (decide (32 ≤ c.toNat ∧ c.toNat ≤ 126 ∧ c.toNat ≠ 34 ∧ c.toNat ≠ 92))) ∧ w = w' := by
  refine lexer_bare.ok _ w _ (sel_dec (fun h1 => sel_dec (fun h2 => sel_ne (fun h3 => ⟨?_, rfl⟩) (fun h3 => ⟨?_, rfl⟩)) (fun h2 => ⟨?_, rfl⟩)) (fun h1 => ⟨?_, rfl⟩))
  · by_cases h4 : c.toNat = 92
    · rw [show (((c.toNat : Nat) : Int) != 92) = false from by simp; omega, decide_eq_false (by omega)]
    · rw [show (((c.toNat : Nat) : Int) != 92) = true from by simp; omega, decide_eq_true ⟨by omega, by omega, by omega, h4⟩]
  · rw [decide_eq_false (by omega)]
  · rw [decide_eq_false (by omega)]
  · rw [decide_eq_false (by omega)]
theorem esc_bare {c : UInt8} (h : 32 ≤ c.toNat ∧ c.toNat ≤ 126 ∧ c.toNat ≠ 34 ∧ c.toNat ≠ 92) : escB c = [c] := by unfold escB; rw [if_neg (by omega), if_pos (by omega)]
theorem esc_far {c : UInt8} (h : ¬ (32 ≤ c.toNat ∧ c.toNat ≤ 126 ∧ c.toNat ≠ 34 ∧ c.toNat ≠ 92)) (h1 : c.toNat ≠ 34) (h2 : c.toNat ≠ 92) : escB c = [92, 120, hexL.getD (c.toNat / 16) 0, hexL.getD (c.toNat % 16) 0] := by unfold escB; rw [if_neg (by omega), if_neg (by omega)]
def QPost (w : World) (l : List UInt8) : Post := fun r w' => r = .returned (.tuple #[.string (if 65536 < (quoteB l).length then ByteArray.mk #[] else ba (quoteB l)), .int .i64 (if 65536 < (quoteB l).length then 4 else 0)]) ∧ Fr0 w w'
theorem bAnd_u8_15 (c : UInt8) : bAnd .u8 (c.toNat : Int) 15 = ((c.toNat % 16 : Nat) : Int) := all_bytes (p := fun c => bAnd .u8 (c.toNat : Int) 15 = ((c.toNat % 16 : Nat) : Int)) (by decide +kernel) c
theorem l_Quote (s : ByteArray) (hsm : s.size ≤ 1000000) (w : World) : Calls Try.prog n_lexer_Quote #[.string s] w (QPost w (bl s)) := by
  refine lexer_Quote.ok _ w _ ?_
  have hq : (quoteB (bl s)).length = 2 + ((bl s).flatMap escB).length := by unfold quoteB; simp; omega
  have loop : ∀ (l : List UInt8) (k : Nat) (acc : List UInt8) (out : Sl) (w1 : World), (bl s).drop k = l → k ≤ s.size → acc.length ≤ 4 * k + 1 → acc ++ l.flatMap escB ++ [34] = quoteB (bl s) → ¬ 65536 < (quoteB (bl s)).length → LH F0 w w1 [.row ty_uint8 1 out (acc.map byteV)] [] →
      lexer_Quote.L17 s out (k : Int) w1 (QPost w (bl s)) := by
    intro l
    induction l with
    | nil =>
      intro k acc out w1 hl hk ha he hlim H
      have := nil_drop hl
      have tn : out.n = acc.length := by have := OwnRow.len (H.get 0); simp at this; omega
      refine lexer_Quote.L17_step _ _ _ _ _ (sel_false (decide_eq_false (by omega)) ?_)
      refine H.apn 0 el_bytes (news := ([34] : List UInt8).map byteV) rfl rfl (one_byteV _) (by omega) (by omega) fun t w2 H2 => ?_
      have hb : Bytes w2 t (acc ++ [34]) := by
        have := OwnRow.rd1 (H2.get 0)
        rwa [← List.map_append] at this
      refine ⟨_, bytes_str hb, ?_, H2.fr⟩
      rw [if_neg hlim, if_neg hlim, ← he]
      simp
    | cons c l ih =>
      intro k acc out w1 hl hk ha he hlim H
      obtain ⟨gc, hl1, hsz⟩ := get_drop hl
      have tn : out.n = acc.length := by have := OwnRow.len (H.get 0); simp at this; omega
      have next : ∀ (out' : Sl) (w2 : World), LH F0 w w2 [.row ty_uint8 1 out' ((acc ++ escB c).map byteV)] [] → lexer_Quote.S22 s out' (k : Int) w2 (QPost w (bl s)) := by
        intro out' w2 H2
        show lexer_Quote.L17 _ _ (IntKind.wrap .i64 ((k : Int) + 1)) _ _
        rw [i64_next k (by omega)]
        have h4 := escB_len c
        exact ih (k + 1) (acc ++ escB c) out' w2 hl1 (by omega) (by rw [List.length_append]; omega) (by rw [← he]; simp [List.flatMap_cons]) hlim H2
      refine lexer_Quote.L17_step _ _ _ _ _ (sel_true (decide_eq_true (by omega)) ⟨by omega, c, by rw [Int.toNat_natCast]; exact gc, (l_bare c w1).mono ?_⟩)
      rintro r w2 ⟨rfl, rfl⟩
      refine ⟨_, rfl, sel_dec (fun h => ?_) (fun h => ?_)⟩
      · refine H.apn 0 el_bytes (news := ([c] : List UInt8).map byteV) rfl rfl (one_byteV _) (by omega) (by omega) fun t w4 H4 => next t w4 ?_
        rw [esc_bare h, List.map_append]; exact H4
      · have esc : (c.toNat = 34 ∨ c.toNat = 92) → lexer_Quote.S24 s out (k : Int) (c.toNat : Int) w1 (QPost w (bl s)) := fun h =>
          H.apn 0 el_bytes (news := ([92, c] : List UInt8).map byteV) rfl rfl (one_byteV _) (by omega) (by omega) fun t w4 H4 => next t w4 (by
            have : escB c = [92, c] := by unfold escB; rw [if_pos h]
            rw [this, List.map_append]; exact H4)
        refine sel_eq (fun h => esc (.inl (by omega))) (fun h1 => sel_eq (fun h => esc (.inr (by omega))) (fun h2 => ?_))
        have e1 : Int.fdiv (c.toNat : Int) (2 ^ 4) = ((c.toNat / 16 : Nat) : Int) := fdiv_nat c.toNat 16 (by omega)
        refine H.dr fun w3 H3 => ⟨by rw [e1]; omega, hexL.getD (c.toNat / 16) 0, by rw [e1, Int.toNat_natCast]; exact hex_hi c, by rw [bAnd_u8_15]; omega, hexL.getD (c.toNat % 16) 0, by rw [bAnd_u8_15, Int.toNat_natCast]; exact hex_lo c, ?_⟩
        refine H3.apn 0 el_bytes (news := ([92, 120, hexL.getD (c.toNat / 16) 0, hexL.getD (c.toNat % 16) 0] : List UInt8).map byteV) rfl rfl (one_byteV _) (by omega) (by omega) fun t w4 H4 => next t w4 ?_
        rw [esc_far h (by omega) (by omega), List.map_append]; exact H4
  have fine : ¬ 65536 < (quoteB (bl s)).length → lexer_Quote.S14 s (((quoteB (bl s)).length : Nat) : Int) w (QPost w (bl s)) := fun hlim => by
    obtain ⟨w1, h1, h2, h3⟩ := make_own el_bytes w .i64 .i64 (quoteB (bl s)).length (by omega)
    refine ⟨⟨some (at0 w.heap.size), 0, (quoteB (bl s)).length⟩, w1, h1, ?_⟩
    have H1 : LH F0 w w1 [.row ty_uint8 1 ⟨some (at0 w.heap.size), 0, (quoteB (bl s)).length⟩ []] [] := (LH.start (M := F0) [] (by simp)).push _ h3 h2.2 (fun b hb => by simp [En.row, blkL] at hb; omega)
    refine H1.apn 0 el_bytes (news := ([34] : List UInt8).map byteV) rfl rfl (one_byteV _) (by show (0 + 1) * 1 ≤ _; omega) (by omega) fun t w4 H4 => ?_
    exact loop (bl s) 0 [34] t w4 rfl (by omega) (by simp) rfl hlim H4
  have count : ∀ (l : List UInt8) (k n : Nat), (bl s).drop k = l → k ≤ s.size → n + (l.flatMap escB).length = (quoteB (bl s)).length → n ≤ 65540 → lexer_Quote.L3 s (n : Int) (k : Int) w (QPost w (bl s)) := by
    intro l
    induction l with
    | nil =>
      intro k n hl hk hn hn4
      have := nil_drop hl
      simp at hn
      subst hn
      refine lexer_Quote.L3_step _ _ _ _ _ (sel_false (decide_eq_false (by omega)) (sel_dec (fun h => ?_) (fun h => fine (by omega))))
      have hlim : 65536 < (quoteB (bl s)).length := by omega
      refine ⟨?_, Fr.refl _ _⟩
      rw [if_pos hlim, if_pos hlim]
    | cons c l ih =>
      intro k n hl hk hn hn4
      obtain ⟨gc, hl1, hsz⟩ := get_drop hl
      refine lexer_Quote.L3_step _ _ _ _ _ (sel_true (decide_eq_true (by omega)) (sel_dec (fun h => ⟨by omega, c, by rw [Int.toNat_natCast]; exact gc, (l_bare c w).mono ?_⟩) (fun h => sel_true (decide_eq_true (by omega)) ?_)))
      · rintro r w2 ⟨rfl, rfl⟩
        rw [List.flatMap_cons, List.length_append] at hn
        have next : ∀ m : Nat, (escB c).length = m → m ≤ 4 → lexer_Quote.S8 s (IntKind.wrap .i64 ((n : Int) + (m : Int))) (k : Int) w (QPost w (bl s)) := fun m hm h4 => by
          rw [i64_add n m (by omega)]
          show lexer_Quote.L3 _ _ (IntKind.wrap .i64 ((k : Int) + 1)) _ _
          rw [i64_next k (by omega)]
          exact ih (k + 1) (n + m) hl1 (by omega) (by omega) (by omega)
        refine ⟨_, rfl, sel_dec (fun h => ?_) (fun h => ?_)⟩
        · exact next 1 (by rw [esc_bare h]; rfl) (by omega)
        · have esc : (c.toNat = 34 ∨ c.toNat = 92) → lexer_Quote.S10 s (n : Int) (k : Int) w (QPost w (bl s)) := fun h => next 2 (by unfold escB; rw [if_pos h]; rfl) (by omega)
          refine sel_eq (fun h => esc (.inl (by omega))) (fun h1 => sel_eq (fun h => esc (.inr (by omega))) (fun h2 => ?_))
          exact next 4 (by rw [esc_far h (by omega) (by omega)]; rfl) (by omega)
      · have hlim : 65536 < (quoteB (bl s)).length := by omega
        refine ⟨?_, Fr.refl _ _⟩
        rw [if_pos hlim, if_pos hlim]
  exact count (bl s) 0 2 rfl (by omega) (by omega) (by omega)
end Go.Proofs.Ytemagdpieebjlaa

/- Package lexer: the contracts of the reader's functions. -/
import Derived.Test.YtemagdpieebjlaaLE
namespace Go.Proofs.Ytemagdpieebjlaa
open Go Go.W

theorem all_bytes {p : UInt8 → Prop} (h : ∀ x : Fin 256, p (UInt8.ofNat x.val)) (c : UInt8) : p c := by
  have := h ⟨c.toNat, c.toNat_lt⟩
  simpa only [UInt8.ofNat_toNat] using this
theorem space_at (c : UInt8) : decide (0 ≤ Go.Lib.indexByte [9, 10, 13, 32] c) = spaceB c := all_bytes (p := fun c => decide (0 ≤ Go.Lib.indexByte [9, 10, 13, 32] c) = spaceB c) (by decide +kernel) c
theorem follow_at (c : UInt8) : decide (Go.Lib.indexByte [9, 10, 13, 32, 59, 40, 41, 34] c < 0) = !followB c := all_bytes (p := fun c => decide (Go.Lib.indexByte [9, 10, 13, 32, 59, 40, 41, 34] c < 0) = !followB c) (by decide +kernel) c
theorem get_drop {s : ByteArray} {k : Nat} {c : UInt8} {l : List UInt8} (hl : (bl s).drop k = c :: l) : s[k]? = some c ∧ (bl s).drop (k + 1) = l ∧ k + l.length + 1 = s.size := by
  refine ⟨?_, by rw [← List.drop_drop, hl]; rfl, ?_⟩
  · rw [bl_get (l := bl s) rfl, ← List.head?_drop, hl]; rfl
  · have := congrArg List.length hl
    rw [List.length_drop, bl_len] at this
    simp at this
    omega
theorem l_skip_loop (s : ByteArray) (hsm : s.size ≤ 1000000) (w0 : World) (bi bs m : Nat) (R : Post) (hR : ∀ w', LH (· = bi) w0 w' [.c bi [.int .i64 (m : Int)] ty_int] [.c bs [.string s] ty_string] → R (.returned (.tuple #[])) w') : ∀ (n k : Nat) (l : List UInt8) (w : World), l.length < n → (bl s).drop k = l → k ≤ s.size →
    LH (· = bi) w0 w [.c bi [.int .i64 (k : Int)] ty_int] [.c bs [.string s] ty_string] → (k + skipN false l = m → lexer_reader_1.L0 (at0 bi) (at0 bs) w R) ∧ (k + skipN true l = m → lexer_reader_1.L4 (at0 bi) (at0 bs) w R) := by
  intro n
  induction n with
  | zero => intro k l w hn; omega
  | succ n ih =>
    intro k l w hn hl hk H
    cases l with
    | nil =>
      have hks : ¬ ((k : Int) < ((s.size : Nat) : Int)) := by
        have := congrArg List.length hl
        rw [List.length_drop, bl_len] at this
        simp at this
        omega
      have zero : k = m → lexer_reader_1.L0 (at0 bi) (at0 bs) w R := fun e => by
        subst e
        exact lexer_reader_1.L0_step _ _ _ _ ⟨_, H.ld0 0, _, H.ldD0 0, sel_false (decide_eq_false hks) (hR w H)⟩
      exact ⟨zero, fun e => lexer_reader_1.L4_step _ _ _ _ ⟨_, H.ld0 0, _, H.ldD0 0, sel_false (decide_eq_false hks) (zero e)⟩⟩
    | cons c l =>
      obtain ⟨gc, hl1, hsz⟩ := get_drop hl
      have gc' : s[Int.toNat (k : Int)]? = some c := by rw [Int.toNat_natCast]; exact gc
      have hlt : ((k : Int) < ((s.size : Nat) : Int)) := by omega
      have next : ∀ {w1 : World}, LH (· = bi) w0 w1 [.c bi [.int .i64 ((k + 1 : Nat) : Int)] ty_int] [.c bs [.string s] ty_string] → (k + (1 + skipN false l) = m → lexer_reader_1.L0 (at0 bi) (at0 bs) w1 R) ∧ (k + (1 + skipN true l) = m → lexer_reader_1.L4 (at0 bi) (at0 bs) w1 R) := fun H1 => by
        have := ih (k + 1) l _ (by simp at hn; omega) hl1 (by omega) H1
        rwa [Nat.add_assoc, Nat.add_assoc] at this
      -- past one byte
      have P4 : c.toNat ≠ 10 → k + (1 + skipN true l) = m → lexer_reader_1.L4 (at0 bi) (at0 bs) w R := fun h10 e => by
        refine lexer_reader_1.L4_step _ _ _ _ ⟨_, H.ld0 0, _, H.ldD0 0, sel_true (decide_eq_true hlt) ⟨_, H.ldD0 0, _, H.ld0 0, by omega, c, gc', sel_ne (fun _ => ?_) (fun h => absurd (by omega) h10)⟩⟩
        refine ⟨_, H.ld0 0, ?_⟩
        rw [i64_next k (by omega)]
        exact H.st0 0 rfl fun w1 H1 => (next H1).2 e
      have P0 : k + skipN false (c :: l) = m → lexer_reader_1.L0 (at0 bi) (at0 bs) w R := fun e => by
        unfold skipN at e
        have two : (spaceB c = true → c.toNat ≠ 59 → k + (1 + skipN false l) = m) → (c.toNat = 59 → k + (1 + skipN true l) = m) → (spaceB c = true ∨ c.toNat = 59) → lexer_reader_1.S2 (at0 bi) (at0 bs) w R := fun e1 e2 hor =>
          ⟨_, H.ldD0 0, _, H.ld0 0, by omega, c, gc', sel_ne (fun h => ⟨_, H.ld0 0, by
            rw [i64_next k (by omega)]
            exact H.st0 0 rfl fun w1 H1 => (next H1).1 (e1 (hor.resolve_right (by omega)) (by omega))⟩) (fun h => P4 (by omega) (e2 (by omega)))⟩
        refine lexer_reader_1.L0_step _ _ _ _ ⟨_, H.ld0 0, _, H.ldD0 0, sel_true (decide_eq_true hlt) ⟨_, H.ldD0 0, _, H.ld0 0, by omega, c, gc', sel_eq (fun h => ?_) (fun h => ?_)⟩⟩
        · have hns : ¬ spaceB c = true := by
            unfold spaceB
            have : c.toNat = 59 := by omega
            simp [this]
          rw [if_neg hns, if_pos (by omega)] at e
          exact two (fun h => absurd h hns) (fun _ => e) (.inr (by omega))
        · refine ⟨_, H.ldD0 0, _, H.ld0 0, by omega, c, gc', (s_indexByte _ c w).mono ?_⟩
          rintro r w1 ⟨rfl, rfl⟩
          refine ⟨_, rfl, ?_⟩
          show sel (decide (0 ≤ Go.Lib.indexByte [9, 10, 13, 32] c)) _ _
          rw [space_at]
          refine sel_intro (fun hs => ?_) (fun hs => ?_)
          · rw [if_pos hs] at e
            exact two (fun _ _ => e) (fun h' => absurd h' (by omega)) (.inl hs)
          · rw [if_neg (by simp [hs]), if_neg (by omega), Nat.add_zero] at e
            subst e
            exact hR w H
      refine ⟨P0, fun e => ?_⟩
      unfold skipN at e
      by_cases h10 : c.toNat = 10
      · rw [if_pos h10] at e
        refine lexer_reader_1.L4_step _ _ _ _ ⟨_, H.ld0 0, _, H.ldD0 0, sel_true (decide_eq_true hlt) ⟨_, H.ldD0 0, _, H.ld0 0, by omega, c, gc', sel_ne (fun h => absurd (by omega) h) (fun _ => P0 ?_)⟩⟩
        unfold skipN
        rw [if_pos (by unfold spaceB; simp [h10])]
        exact e
      · rw [if_neg h10] at e
        exact P4 h10 e
theorem l_skip {s : ByteArray} (hsm : s.size ≤ 1000000) {w : World} {bi bs k : Nat} (hi : w.heap[bi]? = some (.cells #[.int .i64 (k : Int)] ty_int (0, 0))) (hs : w.heap[bs]? = some (.cells #[.string s] ty_string (0, 0))) (hk : k ≤ s.size) :
    Calls Try.prog n_lexer_reader_1 #[.pointer (some (at0 bi)), .pointer (some (at0 bs))] w fun r w' => r = .returned (.tuple #[]) ∧ Fr (· = bi) w w' ∧ w'.heap[bi]? = some (.cells [Value.int .i64 ((k + skipN false ((bl s).drop k) : Nat) : Int)].toArray ty_int (0, 0)) := by
  have hne : bs ≠ bi := fun e => by rw [e, hi] at hs; cases hs
  refine lexer_reader_1.ok _ _ w _ ((l_skip_loop s hsm w bi bs _ _ (fun w' H => ?_) (((bl s).drop k).length + 1) k _ w (by omega) rfl hk ?_).1 rfl)
  · exact ⟨rfl, H.fr, H.ob 0⟩
  · exact LH.start' _ _ (by simp [En.ob, hi]) (by simp [En.ob]) (by simp [En.ob, hs, hne])
end Go.Proofs.Ytemagdpieebjlaa

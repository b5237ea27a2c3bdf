/- Package lexer: one token after the other. -/
import Derived.Test.YtemagdpieebjlaaLF
namespace Go.Proofs.Ytemagdpieebjlaa
open Go Go.W

theorem qu_err : ∀ (n : Nat) (l : List UInt8), l.length < n → ∀ (a : Nat) (e : Int), qu l = .bad a e → e = 2 ∨ e = 3
  | 0, l, h => by omega
  | n + 1, [], _ => by intro a e h; unfold qu at h; cases h; simp
  | n + 1, c :: l, hn => by
    intro a e h
    by_cases h34 : c.toNat = 34
    · unfold qu at h; rw [if_pos h34] at h; cases h
    · rw [qu_item c l h34] at h
      cases hi : item1 (c :: l) with
      | bad a' e' => rw [hi] at h; cases h; exact item_err hi
      | ok d u =>
        rw [hi] at h
        simp only at h
        cases hq : qu ((c :: l).drop u) with
        | ok t v => rw [hq] at h; cases h
        | bad a' e' =>
          rw [hq] at h; cases h
          have := (item_len hi).1
          exact qu_err n _ (by simp at hn ⊢; omega) _ _ hq
abbrev zs : Value := .string (ByteArray.mk #[])
/-- the things of a reader's own -/
abbrev RL (bi r3 r4 r5 k a : Nat) : List En := [.c bi [.int .i64 (k : Int)] ty_int, .c r3 [.int .i64 0, zs, .int .i64 0] ty_lexer_Token, .c r4 [.int .i64 0, .int .i64 0] ty_lexer_fault, .c r5 [.int .i64 0, zs, .int .i64 (a : Int)] ty_lexer_Token]
abbrev RD (bs bk : Nat) (s : ByteArray) (f : Value) : List En := [.c bs [.string s] ty_string, .c bk [f] ty_func]
theorem l_ret9 {M : Nat → Prop} {w0 w : World} {D : List En} {bi r3 r4 r5 : Nat} {vi a0 a1 a2 b0 b1 : Value} {kd a : Int} {t : ByteArray} {R : Post} (H : LH M w0 w [.c bi [vi] ty_int, .c r3 [a0, a1, a2] ty_lexer_Token, .c r4 [b0, b1] ty_lexer_fault, .c r5 [.int .i64 kd, .string t, .int .i64 a] ty_lexer_Token] D)
    (hR : ∀ w', Fr M w0 w' → w'.heap[bi]? = some (.cells [vi].toArray ty_int (0, 0)) → R (.returned (.tuple #[.agg #[.int .i64 kd, .string t, .int .i64 a], .agg #[.int .i64 0, .int .i64 0]])) w') : lexer_reader_2.S9 (at0 r3) (at0 r4) (at0 r5) w R :=
  ⟨_, _, _, H.ld 3 0, H.ld 3 1, H.ld 3 2, H.st3 1 rfl fun w1 H1 => H1.st2 2 rfl fun w2 H2 => ⟨_, _, _, H2.ld 1 0, H2.ld 1 1, H2.ld 1 2, _, _, H2.ld 2 0, H2.ld 2 1, hR w2 H2.fr (H2.ob 0)⟩⟩
def NxPost (bi : Nat) (w0 : World) (i : Nat) : NT → Post
  | .fin => fun r w' => r = .returned (.tuple #[.agg #[.int .i64 6, zs, .int .i64 (i : Int)], .agg #[.int .i64 0, .int .i64 0]]) ∧ Fr (· = bi) w0 w' ∧ w'.heap[bi]? = some (.cells [Value.int .i64 (i : Int)].toArray ty_int (0, 0))
  | .tok k t u => fun r w' => r = .returned (.tuple #[.agg #[.int .i64 k, .string (ba t), .int .i64 (i : Int)], .agg #[.int .i64 0, .int .i64 0]]) ∧ Fr (· = bi) w0 w' ∧ w'.heap[bi]? = some (.cells [Value.int .i64 ((i + u : Nat) : Int)].toArray ty_int (0, 0))
  | .bad a e => fun r w' => (∃ x y z, r = .returned (.tuple #[.agg #[.int .i64 x, .string y, .int .i64 z], .agg #[.int .i64 e, .int .i64 ((i + a : Nat) : Int)]])) ∧ e ≠ 0 ∧ Fr (· = bi) w0 w'
theorem l_word_loop (s : ByteArray) (hsm : s.size ≤ 1000000) (w0 : World) (bi bs bk r3 r4 r5 m a : Nat) (f : Value) (R : Post) (hR : ∀ w', LH (· = bi) w0 w' (RL bi r3 r4 r5 m a) (RD bs bk s f) → lexer_reader_2.S22 (at0 bi) (at0 bs) (at0 r3) (at0 r4) (at0 r5) w' R) :
    ∀ (n k : Nat) (l : List UInt8) (w : World), l.length < n → (bl s).drop k = l → k ≤ s.size → k + (l.takeWhile wordB).length = m → LH (· = bi) w0 w (RL bi r3 r4 r5 k a) (RD bs bk s f) → lexer_reader_2.L19 (at0 bi) (at0 bs) (at0 r3) (at0 r4) (at0 r5) w R := by
  intro n
  induction n with
  | zero => intro k l w hn; omega
  | succ n ih =>
    intro k l w hn hl hk hm H
    cases l with
    | nil =>
      have hks : ¬ ((k : Int) < ((s.size : Nat) : Int)) := by
        have := congrArg List.length hl
        rw [List.length_drop, bl_len] at this
        simp at this
        omega
      simp at hm
      subst hm
      exact lexer_reader_2.L19_step _ _ _ _ _ _ _ ⟨_, H.ld0 0, _, H.ldD0 0, sel_false (decide_eq_false hks) (hR w H)⟩
    | cons c l =>
      obtain ⟨gc, hl1, hsz⟩ := get_drop hl
      have gc' : s[Int.toNat (k : Int)]? = some c := by rw [Int.toNat_natCast]; exact gc
      have next : wordB c = true → lexer_reader_2.S21 (at0 bi) (at0 bs) (at0 r3) (at0 r4) (at0 r5) w R := fun hw => by
        refine ⟨_, H.ld0 0, ?_⟩
        rw [i64_next k (by omega)]
        rw [List.takeWhile_cons, if_pos hw, List.length_cons] at hm
        refine H.st0 0 rfl fun w1 H1 => ?_
        exact ih (k + 1) l w1 (by simp at hn; omega) hl1 (by omega) (by omega) H1
      refine lexer_reader_2.L19_step _ _ _ _ _ _ _ ⟨_, H.ld0 0, _, H.ldD0 0, sel_true (decide_eq_true (by omega)) ⟨_, H.ldD0 0, _, H.ld0 0, by omega, c, gc', (l_small c w).mono ?_⟩⟩
      rintro r w1 ⟨rfl, rfl⟩
      refine ⟨_, rfl, sel_intro (fun h => next (by simp [wordB, h])) (fun h1 => ⟨_, H.ldD0 0, _, H.ld0 0, by omega, c, gc', (l_digit c 10 w).mono ?_⟩)⟩
      rintro r w1 ⟨rfl, rfl⟩
      refine ⟨_, rfl, sel_intro (fun h => next (by simp [wordB, h])) (fun h2 => ⟨_, H.ldD0 0, _, H.ld0 0, by omega, c, gc', sel_eq (fun h => next ?_) (fun h3 => ⟨_, H.ldD0 0, _, H.ld0 0, by omega, c, gc', sel_eq (fun h => next ?_) (fun h4 => ?_)⟩)⟩)⟩
      · have : c.toNat = 45 := by omega
        simp [wordB, this]
      · have : c.toNat = 35 := by omega
        simp [wordB, this]
      · have hw : ¬ wordB c = true := by
          have e3 : c.toNat ≠ 45 := by omega
          have e4 : c.toNat ≠ 35 := by omega
          simp [wordB, h1, h2, e3, e4]
        rw [List.takeWhile_cons, if_neg hw] at hm
        simp at hm
        subst hm
        exact hR w H
theorem l_next {s : ByteArray} (hsm : s.size ≤ 1000000) {w : World} {bi bs bk k : Nat} (hi : w.heap[bi]? = some (.cells #[.int .i64 (k : Int)] ty_int (0, 0))) (hs : w.heap[bs]? = some (.cells #[.string s] ty_string (0, 0)))
    (hb : w.heap[bk]? = some (.cells #[.func (.func n_lexer_reader_1) #[] #[.pointer (some (at0 bi)), .pointer (some (at0 bs))]] ty_func (0, 0))) (hk : k ≤ s.size) :
    Calls Try.prog n_lexer_reader_2 #[.pointer (some (at0 bk)), .pointer (some (at0 bi)), .pointer (some (at0 bs))] w (NxPost bi w (k + skipN false ((bl s).drop k)) (next1 (((bl s).drop k).drop (skipN false ((bl s).drop k))))) := by
  have hne : bs ≠ bi := fun e => by rw [e, hi] at hs; cases hs
  have hnb : bk ≠ bi := fun e => by rw [e, hi] at hb; cases hb
  have H0 : LH (· = bi) w w [.c bi [.int .i64 (k : Int)] ty_int] (RD bs bk s (.func (.func n_lexer_reader_1) #[] #[.pointer (some (at0 bi)), .pointer (some (at0 bs))])) :=
    LH.start' _ _ (by simp [En.ob, hi]) (by simp [En.ob]) (by simp [En.ob, hs, hne, hb, hnb])
  refine lexer_reader_2.ok _ _ _ w _ (H0.nw fun w1 s1 H1 => H1.nw fun w2 s2 H2 => ⟨⟨n_lexer_reader_1, #[], #[.pointer (some (at0 bi)), .pointer (some (at0 bs))]⟩, H2.ldD0 1, andT_mk (by kernel_rfl) ((l_skip hsm (H2.ob 0) (show w2.heap[bs]? = _ from H2.getD 0) hk).mono ?_)⟩)
  rintro r w3 ⟨rfl, f3, c3⟩
  refine ⟨rfl, ?_⟩
  have H3 := H2.callc 0 f3 c3
  have hsk := skipN_le false ((bl s).drop k)
  rw [List.length_drop, bl_len] at hsk
  rw [List.drop_drop]
  generalize hik : k + skipN false ((bl s).drop k) = i at H3
  have his : i ≤ s.size := by omega
  clear hik f3 c3 hsk
  refine ⟨_, H3.ld0 0, _, H3.ldD0 0, sel_eq (fun h => ?_) (fun h => ?_)⟩
  · have : (bl s).drop i = [] := List.drop_of_length_le (by rw [bl_len]; omega)
    rw [this]
    exact ⟨_, H3.ld0 0, H3.st3 1 rfl fun w4 H4 => H4.st2 2 rfl fun w5 H5 => ⟨_, _, _, H5.ld 1 0, H5.ld 1 1, H5.ld 1 2, _, _, H5.ld 2 0, H5.ld 2 1, rfl, H5.fr, H5.ob 0⟩⟩
  · obtain ⟨c, l, hl⟩ : ∃ c l, (bl s).drop i = c :: l := by
      cases hd : (bl s).drop i with
      | nil => have := congrArg List.length hd; rw [List.length_drop, bl_len] at this; simp at this; omega
      | cons c l => exact ⟨c, l, rfl⟩
    obtain ⟨gc, hl1, hsz⟩ := get_drop hl
    have gc' : s[Int.toNat (i : Int)]? = some c := by rw [Int.toNat_natCast]; exact gc
    rw [hl]
    refine ⟨_, H3.ld0 0, H3.nw fun w4 s4 H4 => H4.st3 3 rfl fun w5 H5 => ⟨_, H5.ldD0 0, _, H5.ld0 0, by omega, c, gc', ?_⟩⟩
    have H6 : LH (· = bi) w w5 (RL bi w.heap.size w1.heap.size w3.heap.size i i) (RD bs bk s (.func (.func n_lexer_reader_1) #[] #[.pointer (some (at0 bi)), .pointer (some (at0 bs))])) := H5
    clear H5 H4 H3 H2 H1
    have one : ∀ (kd : Int) (w' : World), LH (· = bi) w w' [.c bi [.int .i64 (i : Int)] ty_int, .c w.heap.size [.int .i64 0, zs, .int .i64 0] ty_lexer_Token, .c w1.heap.size [.int .i64 0, .int .i64 0] ty_lexer_fault, .c w3.heap.size [.int .i64 kd, zs, .int .i64 (i : Int)] ty_lexer_Token] (RD bs bk s (.func (.func n_lexer_reader_1) #[] #[.pointer (some (at0 bi)), .pointer (some (at0 bs))])) →
        ∃ t : Int, w'.cell? (at0 bi) = some (.int .i64 t) ∧ stV w' (at0 bi) (.int .i64 (IntKind.wrap .i64 (t + 1))) fun w'' => lexer_reader_2.S9 (at0 w.heap.size) (at0 w1.heap.size) (at0 w3.heap.size) w'' (NxPost bi w i (.tok kd [] 1)) := fun kd w' H' => by
      refine ⟨_, H'.ld0 0, ?_⟩
      rw [i64_next i (by omega)]
      exact H'.st0 0 rfl fun w'' H'' => l_ret9 H'' fun w' f' c' => ⟨rfl, f', c'⟩
    unfold next1
    dsimp only
    refine sel_eq (fun h40 => ?_) (fun h40 => sel_eq (fun h41 => ?_) (fun h41 => sel_eq (fun h34 => ?_) (fun h34 => ?_)))
    · rw [if_pos (by omega)]
      exact H6.st 3 0 rfl fun w6 H7 => one 0 w6 H7
    · rw [if_neg (by omega), if_pos (by omega)]
      exact H6.st 3 0 rfl fun w6 H7 => one 1 w6 H7
    · rw [if_neg (by omega), if_neg (by omega), if_pos (by omega)]
      refine ⟨_, H6.ldD0 0, _, H6.ld0 0, (l_quoted s i c l hl hsm w5).mono ?_⟩
      intro r w6 hp
      cases hq : qu l with
      | ok t u =>
        rw [hq] at hp
        obtain ⟨rfl, f6⟩ := hp
        refine ⟨_, _, _, _, rfl, (H6.fr0 f6).nw fun w7 _ H7 => H7.st2 4 rfl fun w8 H8 => ⟨_, H8.ld 4 0, sel_false rfl (H8.st 3 0 rfl fun w9 H9 => H9.st 3 1 rfl fun w10 H10 => H10.st0 0 rfl fun w11 H11 => ?_)⟩⟩
        exact l_ret9 (H11.take 4) fun w' f' c' => ⟨rfl, f', by rw [c', Nat.add_assoc]⟩
      | bad a e =>
        rw [hq] at hp
        obtain ⟨⟨x, y, rfl⟩, f6⟩ := hp
        have he := qu_err _ l (Nat.lt_succ_self _) _ _ hq
        refine ⟨_, _, _, _, rfl, (H6.fr0 f6).nw fun w7 _ H7 => H7.st2 4 rfl fun w8 H8 => ⟨_, H8.ld 4 0, sel_true (by rcases he with rfl | rfl <;> rfl) (H8.dr fun w9 H9 => ?_)⟩⟩
        refine ⟨_, _, H9.ld 4 0, H9.ld 4 1, H9.st3 1 rfl fun w10 H10 => ⟨H10.ld 4 0, H10.ld 4 1, H10.st2 2 rfl fun w11 H11 => ⟨_, _, _, H11.ld 1 0, H11.ld 1 1, H11.ld 1 2, _, _, H11.ld 2 0, H11.ld 2 1, ⟨_, _, _, by rw [Nat.add_assoc]⟩, by omega, H11.fr⟩⟩⟩
    · rw [if_neg (by omega), if_neg (by omega), if_neg (by omega)]
      have form : ¬ startB c = true → lexer_reader_2.S29 (at0 bi) (at0 w.heap.size) (at0 w1.heap.size) w5 (NxPost bi w i (.bad 0 2)) := fun _ =>
        H6.dr fun w9 H9 => ⟨_, H9.ld0 0, H9.st3 1 rfl fun w10 H10 => ⟨H10.ld0 0, H10.st2 2 rfl fun w11 H11 => ⟨_, _, _, H11.ld 1 0, H11.ld 1 1, H11.ld 1 2, _, _, H11.ld 2 0, H11.ld 2 1, ⟨_, _, _, rfl⟩, by omega, H11.fr⟩⟩⟩
      have word : startB c = true → lexer_reader_2.L19 (at0 bi) (at0 bs) (at0 w.heap.size) (at0 w1.heap.size) (at0 w3.heap.size) w5 (NxPost bi w i (if startB c = true then (match exam ((c :: l).takeWhile wordB) with
          | (k, e) => if e ≠ 0 then .bad 0 e else match (c :: l).drop ((c :: l).takeWhile wordB).length with
            | [] => .tok k ((c :: l).takeWhile wordB) ((c :: l).takeWhile wordB).length
            | x :: _ => if followB x then .tok k ((c :: l).takeWhile wordB) ((c :: l).takeWhile wordB).length else .bad ((c :: l).takeWhile wordB).length 2) else .bad 0 2)) := fun hst => by
        rw [if_pos hst]
        have hwc : wordB c = true := by unfold startB at hst; unfold wordB; simp at hst ⊢; rcases hst with (h | h) | h <;> simp [h]
        have htl : ((c :: l).takeWhile wordB).length ≤ l.length + 1 := by
          have := (List.takeWhile_prefix (p := wordB) (l := c :: l)).length_le
          simpa using this
        refine l_word_loop s hsm w bi bs bk _ _ _ (i + ((c :: l).takeWhile wordB).length) i _ _ (fun w6 H7 => ?_) (l.length + 2) i (c :: l) w5 (by simp) hl his rfl H6
        have hpre : (c :: l).take ((c :: l).takeWhile wordB).length = (c :: l).takeWhile wordB := (List.prefix_iff_eq_take.1 (List.takeWhile_prefix wordB)).symm
        have hex : bl (s.extract i (i + ((c :: l).takeWhile wordB).length)) = (c :: l).takeWhile wordB := by
          rw [bl_extract, List.drop_take, hl, Nat.add_sub_cancel_left, hpre]
        have hws : ∀ x ∈ (c :: l).takeWhile wordB, wordB x = true := fun x hx => by
          have := List.all_takeWhile (p := wordB) (l := c :: l)
          exact List.all_eq_true.1 this x hx
        have hnil : (c :: l).takeWhile wordB ≠ [] := by rw [List.takeWhile_cons, if_pos hwc]; simp
        have hdr : (bl s).drop (i + ((c :: l).takeWhile wordB).length) = (c :: l).drop ((c :: l).takeWhile wordB).length := by rw [← List.drop_drop, hl]
        generalize (c :: l).takeWhile wordB = t at *
        refine ⟨_, H7.ldD0 0, _, H7.ld 3 2, _, H7.ld0 0, by omega, by omega, by omega, by rw [Int.toNat_natCast]; omega, ?_⟩
        rw [Int.toNat_natCast, Int.toNat_natCast]
        refine H7.st 3 1 rfl fun w7 H8 => ⟨_, H8.ld 3 1, (l_examine _ w7 (by rw [hex]; exact hnil) (by rw [hex]; exact hws) (by rw [← bl_len, hex]; omega)).mono ?_⟩
        rintro r w8 ⟨rfl, f8⟩
        rw [hex]
        refine ⟨_, _, rfl, ?_⟩
        have H9 := H8.fr0 f8
        rcases exam t with ⟨kd, e⟩
        simp only
        have etext : s.extract i (i + t.length) = ba t := (ba_bl _).symm.trans (congrArg ba hex)
        have fine : ∀ {w' : World}, LH (· = bi) w w' [.c bi [.int .i64 ((i + t.length : Nat) : Int)] ty_int, .c w.heap.size [.int .i64 0, zs, .int .i64 0] ty_lexer_Token, .c w1.heap.size [.int .i64 0, .int .i64 0] ty_lexer_fault, .c w3.heap.size [.int .i64 0, .string (s.extract i (i + t.length)), .int .i64 (i : Int)] ty_lexer_Token] (RD bs bk s (.func (.func n_lexer_reader_1) #[] #[.pointer (some (at0 bi)), .pointer (some (at0 bs))])) →
            lexer_reader_2.S28 (at0 w.heap.size) (at0 w1.heap.size) (at0 w3.heap.size) kd w' (NxPost bi w i (.tok kd t t.length)) := fun H' => by
          rw [etext] at H'
          exact H'.st 3 0 rfl fun w'' H'' => l_ret9 H'' fun w' f' c' => ⟨rfl, f', c'⟩
        refine sel_ne (fun he => ?_) (fun he => ?_)
        · rw [if_pos he]
          exact H9.dr fun w9 H9 => ⟨_, H9.ld 3 2, H9.st3 1 rfl fun w10 H10 => ⟨H10.ld 3 2, H10.st2 2 rfl fun w11 H11 => ⟨_, _, _, H11.ld 1 0, H11.ld 1 1, H11.ld 1 2, _, _, H11.ld 2 0, H11.ld 2 1, ⟨_, _, _, rfl⟩, he, H11.fr⟩⟩⟩
        · rw [if_neg (by simpa using he)]
          refine ⟨_, H9.ld0 0, _, H9.ldD0 0, sel_dec (fun hlt => ?_) (fun hlt => ?_)⟩
          · obtain ⟨x, l', hx⟩ : ∃ x l', (bl s).drop (i + t.length) = x :: l' := by
              cases hd : (bl s).drop (i + t.length) with
              | nil => have := congrArg List.length hd; rw [List.length_drop, bl_len] at this; simp at this; omega
              | cons c l => exact ⟨c, l, rfl⟩
            rw [← hdr, hx]
            refine ⟨_, H9.ldD0 0, _, H9.ld0 0, by omega, x, by rw [Int.toNat_natCast]; exact (get_drop hx).1, (s_indexByte _ x w8).mono ?_⟩
            rintro r w9 ⟨rfl, rfl⟩
            refine ⟨_, rfl, ?_⟩
            show sel (decide (Go.Lib.indexByte [9, 10, 13, 32, 59, 40, 41, 34] x < 0)) _ _
            rw [follow_at]
            refine sel_not (fun hf => ?_) (fun hf => ?_)
            · simp only [hf]
              exact H9.dr fun w9 H9 => ⟨_, H9.ld0 0, H9.st3 1 rfl fun w10 H10 => ⟨H10.ld0 0, H10.st2 2 rfl fun w11 H11 => ⟨_, _, _, H11.ld 1 0, H11.ld 1 1, H11.ld 1 2, _, _, H11.ld 2 0, H11.ld 2 1, ⟨_, _, _, rfl⟩, by omega, H11.fr⟩⟩⟩
            · simp only [hf, if_true]
              exact fine H9
          · have : (bl s).drop (i + t.length) = [] := List.drop_of_length_le (by rw [bl_len]; omega)
            rw [← hdr, this]
            exact fine H9
      refine (l_small c w5).mono ?_
      rintro r w6 ⟨rfl, rfl⟩
      refine ⟨_, rfl, sel_intro (fun h1 => word (by simp [startB, h1])) (fun h1 => (l_digit c 10 w5).mono ?_)⟩
      rintro r w6 ⟨rfl, rfl⟩
      refine ⟨_, rfl, sel_intro (fun h2 => word (by simp [startB, h2])) (fun h2 => sel_eq (fun h3 => word ?_) (fun h3 => ?_))⟩
      · have : c.toNat = 35 := by omega
        simp [startB, this]
      · have hns : ¬ startB c = true := by
          have : c.toNat ≠ 35 := by omega
          simp [startB, h1, h2, this]
        rw [if_neg hns]
        exact form hns
end Go.Proofs.Ytemagdpieebjlaa

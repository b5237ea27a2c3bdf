/- Package lexer: one token after the other. Package lexer: the contract of Tokens. Printed by a program of ours (vcgen.py) from the dump: the conditions of the functions, and that they suffice. Package parse: the reader, its tokens; next, need, isOperation. Package parse: names, nodes that are there, terms that are chains of not. Package parse: a term that is a chain of not. Package parse: run, where nothing panics. Package parse: the reader is made. Package parse: Term of the text of a chain. Law PrintLimits: lives. Printed by a program of ours (vcgen.py) from the dump: the conditions of the functions, and that they suffice. Law PrintLimits: the walk, over what the listed variables hold. Package term: the table of the numbers of kids, out of the row's condition. Law PrintLimits: the walk, under the row's condition. -/
import Derived.Test.YtibaobaobnpdaaaGreatDoorVLx
import Derived.Test.YtibaobaobnpdaaaGreatDoorU
import Derived.Test.YtibaobaobnpdaaaGreatDoorVPr
import Derived.Defers
import Derived.Recover
import Derived.Test.YtibaobaobnpdaaaGreatDoorBK
import Derived.Lib.LaidTab
import Derived.LaidByTextLater
import Derived.Test.YtibaobaobnpdaaaGreatDoorRows
set_option linter.unusedVariables false
set_option maxRecDepth 100000
set_option maxHeartbeats 1000000
namespace Go.Proofs.YtibaobaobnpdaaaGreatDoor
open Go Go.W

theorem qu_err : ∀ (n : Nat) (l : List UInt8), l.length < n → ∀ (a : Nat) (e : Int), qu l = .bad a e → e = 2 ∨ e = 3
  | 0, l, h => by omega
  | n + 1, [], _ => by intro a e h; unfold qu at h; cases h; simp
  | n + 1, c :: l, hn => by
    intro a e h
    by_cases h34 : c.toNat = 34
    · unfold qu at h; rw [if_pos h34] at h; cases h
    · rw [qu_item c l h34] at h
      cases hi : item1 (c :: l) with
      | bad a' e' => rw [hi] at h; cases h; exact item_err hi
      | ok d u =>
        rw [hi] at h
        simp only at h
        cases hq : qu ((c :: l).drop u) with
        | ok t v => rw [hq] at h; cases h
        | bad a' e' =>
          rw [hq] at h; cases h
          have := (item_len hi).1
          exact qu_err n _ (by simp at hn ⊢; omega) _ _ hq
abbrev zs : Value := .string (ByteArray.mk #[])
/-- the things of a reader's own -/
abbrev RL (bi r3 r4 r5 k a : Nat) : List En := [.c bi [.int .i64 (k : Int)] ty_int, .c r3 [.int .i64 0, zs, .int .i64 0] ty_lexer_Token, .c r4 [.int .i64 0, .int .i64 0] ty_lexer_fault, .c r5 [.int .i64 0, zs, .int .i64 (a : Int)] ty_lexer_Token]
abbrev RD (bs bk : Nat) (s : ByteArray) (f : Value) : List En := [.c bs [.string s] ty_string, .c bk [f] ty_func]
theorem l_ret9 {M : Nat → Prop} {w0 w : World} {D : List En} {bi r3 r4 r5 : Nat} {vi a0 a1 a2 b0 b1 : Value} {kd a : Int} {t : ByteArray} {R : Post} (H : LH M w0 w [.c bi [vi] ty_int, .c r3 [a0, a1, a2] ty_lexer_Token, .c r4 [b0, b1] ty_lexer_fault, .c r5 [.int .i64 kd, .string t, .int .i64 a] ty_lexer_Token] D)
    (hR : ∀ w', Fr M w0 w' → w'.heap[bi]? = some (.cells [vi].toArray ty_int (0, 0)) → R (.returned (.tuple #[.agg #[.int .i64 kd, .string t, .int .i64 a], .agg #[.int .i64 0, .int .i64 0]])) w') : lexer_reader_2.S9 (at0 r3) (at0 r4) (at0 r5) w R :=
  ⟨_, _, _, H.ld 3 0, H.ld 3 1, H.ld 3 2, H.st3 1 rfl fun w1 H1 => H1.st2 2 rfl fun w2 H2 => ⟨_, _, _, H2.ld 1 0, H2.ld 1 1, H2.ld 1 2, _, _, H2.ld 2 0, H2.ld 2 1, hR w2 H2.fr (H2.ob 0)⟩⟩
def NxPost (bi : Nat) (w0 : World) (i : Nat) : NT → Post
  | .fin => fun r w' => r = .returned (.tuple #[.agg #[.int .i64 6, zs, .int .i64 (i : Int)], .agg #[.int .i64 0, .int .i64 0]]) ∧ Fr (· = bi) w0 w' ∧ w'.heap[bi]? = some (.cells [Value.int .i64 (i : Int)].toArray ty_int (0, 0))
  | .tok k t u => fun r w' => r = .returned (.tuple #[.agg #[.int .i64 k, .string (ba t), .int .i64 (i : Int)], .agg #[.int .i64 0, .int .i64 0]]) ∧ Fr (· = bi) w0 w' ∧ w'.heap[bi]? = some (.cells [Value.int .i64 ((i + u : Nat) : Int)].toArray ty_int (0, 0))
  | .bad a e => fun r w' => (∃ x y z, r = .returned (.tuple #[.agg #[.int .i64 x, .string y, .int .i64 z], .agg #[.int .i64 e, .int .i64 ((i + a : Nat) : Int)]])) ∧ e ≠ 0 ∧ Fr (· = bi) w0 w'
theorem l_word_loop (s : ByteArray) (hsm : s.size ≤ 1000000) (w0 : World) (bi bs bk r3 r4 r5 m a : Nat) (f : Value) (R : Post) (hR : ∀ w', LH (· = bi) w0 w' (RL bi r3 r4 r5 m a) (RD bs bk s f) → lexer_reader_2.S22 (at0 bi) (at0 bs) (at0 r3) (at0 r4) (at0 r5) w' R) :
    ∀ (n k : Nat) (l : List UInt8) (w : World), l.length < n → (bl s).drop k = l → k ≤ s.size → k + (l.takeWhile lxWord).length = m → LH (· = bi) w0 w (RL bi r3 r4 r5 k a) (RD bs bk s f) → lexer_reader_2.L19 (at0 bi) (at0 bs) (at0 r3) (at0 r4) (at0 r5) w R := by
  intro n
  induction n with
  | zero => intro k l w hn; omega
  | succ n ih =>
    intro k l w hn hl hk hm H
    cases l with
    | nil =>
      have hks : ¬ ((k : Int) < ((s.size : Nat) : Int)) := by
        have := congrArg List.length hl
        rw [List.length_drop, bl_len] at this
        simp at this
        omega
      simp at hm
      subst hm
      exact lexer_reader_2.L19_step _ _ _ _ _ _ _ ⟨_, H.ld0 0, _, H.ldD0 0, sel_false (decide_eq_false hks) (hR w H)⟩
    | cons c l =>
      obtain ⟨gc, hl1, hsz⟩ := get_drop hl
      have gc' : s[Int.toNat (k : Int)]? = some c := by rw [Int.toNat_natCast]; exact gc
      have next : lxWord c = true → lexer_reader_2.S21 (at0 bi) (at0 bs) (at0 r3) (at0 r4) (at0 r5) w R := fun hw => by
        refine ⟨_, H.ld0 0, ?_⟩
        rw [i64_next k (by omega)]
        rw [List.takeWhile_cons, if_pos hw, List.length_cons] at hm
        refine H.st0 0 rfl fun w1 H1 => ?_
        exact ih (k + 1) l w1 (by simp at hn; omega) hl1 (by omega) (by omega) H1
      refine lexer_reader_2.L19_step _ _ _ _ _ _ _ ⟨_, H.ld0 0, _, H.ldD0 0, sel_true (decide_eq_true (by omega)) ⟨_, H.ldD0 0, _, H.ld0 0, by omega, c, gc', (l_small c w).mono ?_⟩⟩
      rintro r w1 ⟨rfl, rfl⟩
      refine ⟨_, rfl, sel_intro (fun h => next (by simp [lxWord, h])) (fun h1 => ⟨_, H.ldD0 0, _, H.ld0 0, by omega, c, gc', (l_digit c 10 w).mono ?_⟩)⟩
      rintro r w1 ⟨rfl, rfl⟩
      refine ⟨_, rfl, sel_intro (fun h => next (by simp [lxWord, h])) (fun h2 => ⟨_, H.ldD0 0, _, H.ld0 0, by omega, c, gc', sel_eq (fun h => next ?_) (fun h3 => ⟨_, H.ldD0 0, _, H.ld0 0, by omega, c, gc', sel_eq (fun h => next ?_) (fun h4 => ?_)⟩)⟩)⟩
      · have : c.toNat = 45 := by omega
        simp [lxWord, this]
      · have : c.toNat = 35 := by omega
        simp [lxWord, this]
      · have hw : ¬ lxWord c = true := by
          have e3 : c.toNat ≠ 45 := by omega
          have e4 : c.toNat ≠ 35 := by omega
          simp [lxWord, h1, h2, e3, e4]
        rw [List.takeWhile_cons, if_neg hw] at hm
        simp at hm
        subst hm
        exact hR w H
theorem l_next {s : ByteArray} (hsm : s.size ≤ 1000000) {w : World} {bi bs bk k : Nat} (hi : w.heap[bi]? = some (.cells #[.int .i64 (k : Int)] ty_int (0, 0))) (hs : w.heap[bs]? = some (.cells #[.string s] ty_string (0, 0)))
    (hb : w.heap[bk]? = some (.cells #[.func (.func n_lexer_reader_1) #[] #[.pointer (some (at0 bi)), .pointer (some (at0 bs))]] ty_func (0, 0))) (hk : k ≤ s.size) :
    Calls Tryz.prog n_lexer_reader_2 #[.pointer (some (at0 bk)), .pointer (some (at0 bi)), .pointer (some (at0 bs))] w (NxPost bi w (k + skipN false ((bl s).drop k)) (next1 (((bl s).drop k).drop (skipN false ((bl s).drop k))))) := by
  have hne : bs ≠ bi := fun e => by rw [e, hi] at hs; cases hs
  have hnb : bk ≠ bi := fun e => by rw [e, hi] at hb; cases hb
  have H0 : LH (· = bi) w w [.c bi [.int .i64 (k : Int)] ty_int] (RD bs bk s (.func (.func n_lexer_reader_1) #[] #[.pointer (some (at0 bi)), .pointer (some (at0 bs))])) :=
    LH.start' _ _ (by simp [En.ob, hi]) (by simp [En.ob]) (by simp [En.ob, hs, hne, hb, hnb])
  refine lexer_reader_2.ok _ _ _ w _ (H0.nw fun w1 s1 H1 => H1.nw fun w2 s2 H2 => ⟨⟨n_lexer_reader_1, #[], #[.pointer (some (at0 bi)), .pointer (some (at0 bs))]⟩, H2.ldD0 1, andT_mk (by kernel_rfl) ((l_skip hsm (H2.ob 0) (show w2.heap[bs]? = _ from H2.getD 0) hk).mono ?_)⟩)
  rintro r w3 ⟨rfl, f3, c3⟩
  refine ⟨rfl, ?_⟩
  have H3 := H2.callc 0 f3 c3
  have hsk := skipN_le false ((bl s).drop k)
  rw [List.length_drop, bl_len] at hsk
  rw [List.drop_drop]
  generalize hik : k + skipN false ((bl s).drop k) = i at H3
  have his : i ≤ s.size := by omega
  clear hik f3 c3 hsk
  refine ⟨_, H3.ld0 0, _, H3.ldD0 0, sel_eq (fun h => ?_) (fun h => ?_)⟩
  · have : (bl s).drop i = [] := List.drop_of_length_le (by rw [bl_len]; omega)
    rw [this]
    exact ⟨_, H3.ld0 0, H3.st3 1 rfl fun w4 H4 => H4.st2 2 rfl fun w5 H5 => ⟨_, _, _, H5.ld 1 0, H5.ld 1 1, H5.ld 1 2, _, _, H5.ld 2 0, H5.ld 2 1, rfl, H5.fr, H5.ob 0⟩⟩
  · obtain ⟨c, l, hl⟩ : ∃ c l, (bl s).drop i = c :: l := by
      cases hd : (bl s).drop i with
      | nil => have := congrArg List.length hd; rw [List.length_drop, bl_len] at this; simp at this; omega
      | cons c l => exact ⟨c, l, rfl⟩
    obtain ⟨gc, hl1, hsz⟩ := get_drop hl
    have gc' : s[Int.toNat (i : Int)]? = some c := by rw [Int.toNat_natCast]; exact gc
    rw [hl]
    refine ⟨_, H3.ld0 0, H3.nw fun w4 s4 H4 => H4.st3 3 rfl fun w5 H5 => ⟨_, H5.ldD0 0, _, H5.ld0 0, by omega, c, gc', ?_⟩⟩
    have H6 : LH (· = bi) w w5 (RL bi w.heap.size w1.heap.size w3.heap.size i i) (RD bs bk s (.func (.func n_lexer_reader_1) #[] #[.pointer (some (at0 bi)), .pointer (some (at0 bs))])) := H5
    clear H5 H4 H3 H2 H1
    have one : ∀ (kd : Int) (w' : World), LH (· = bi) w w' [.c bi [.int .i64 (i : Int)] ty_int, .c w.heap.size [.int .i64 0, zs, .int .i64 0] ty_lexer_Token, .c w1.heap.size [.int .i64 0, .int .i64 0] ty_lexer_fault, .c w3.heap.size [.int .i64 kd, zs, .int .i64 (i : Int)] ty_lexer_Token] (RD bs bk s (.func (.func n_lexer_reader_1) #[] #[.pointer (some (at0 bi)), .pointer (some (at0 bs))])) →
        ∃ t : Int, w'.cell? (at0 bi) = some (.int .i64 t) ∧ stV w' (at0 bi) (.int .i64 (IntKind.wrap .i64 (t + 1))) fun w'' => lexer_reader_2.S9 (at0 w.heap.size) (at0 w1.heap.size) (at0 w3.heap.size) w'' (NxPost bi w i (.tok kd [] 1)) := fun kd w' H' => by
      refine ⟨_, H'.ld0 0, ?_⟩
      rw [i64_next i (by omega)]
      exact H'.st0 0 rfl fun w'' H'' => l_ret9 H'' fun w' f' c' => ⟨rfl, f', c'⟩
    unfold next1
    dsimp only
    refine sel_eq (fun h40 => ?_) (fun h40 => sel_eq (fun h41 => ?_) (fun h41 => sel_eq (fun h34 => ?_) (fun h34 => ?_)))
    · rw [if_pos (by omega)]
      exact H6.st 3 0 rfl fun w6 H7 => one 0 w6 H7
    · rw [if_neg (by omega), if_pos (by omega)]
      exact H6.st 3 0 rfl fun w6 H7 => one 1 w6 H7
    · rw [if_neg (by omega), if_neg (by omega), if_pos (by omega)]
      refine ⟨_, H6.ldD0 0, _, H6.ld0 0, (l_quoted s i c l hl hsm w5).mono ?_⟩
      intro r w6 hp
      cases hq : qu l with
      | ok t u =>
        rw [hq] at hp
        obtain ⟨rfl, f6⟩ := hp
        refine ⟨_, _, _, _, rfl, (H6.fr0 f6).nw fun w7 _ H7 => H7.st2 4 rfl fun w8 H8 => ⟨_, H8.ld 4 0, sel_false rfl (H8.st 3 0 rfl fun w9 H9 => H9.st 3 1 rfl fun w10 H10 => H10.st0 0 rfl fun w11 H11 => ?_)⟩⟩
        exact l_ret9 (H11.take 4) fun w' f' c' => ⟨rfl, f', by rw [c', Nat.add_assoc]⟩
      | bad a e =>
        rw [hq] at hp
        obtain ⟨⟨x, y, rfl⟩, f6⟩ := hp
        have he := qu_err _ l (Nat.lt_succ_self _) _ _ hq
        refine ⟨_, _, _, _, rfl, (H6.fr0 f6).nw fun w7 _ H7 => H7.st2 4 rfl fun w8 H8 => ⟨_, H8.ld 4 0, sel_true (by rcases he with rfl | rfl <;> rfl) (H8.dr fun w9 H9 => ?_)⟩⟩
        refine ⟨_, _, H9.ld 4 0, H9.ld 4 1, H9.st3 1 rfl fun w10 H10 => ⟨H10.ld 4 0, H10.ld 4 1, H10.st2 2 rfl fun w11 H11 => ⟨_, _, _, H11.ld 1 0, H11.ld 1 1, H11.ld 1 2, _, _, H11.ld 2 0, H11.ld 2 1, ⟨_, _, _, by rw [Nat.add_assoc]⟩, by omega, H11.fr⟩⟩⟩
    · rw [if_neg (by omega), if_neg (by omega), if_neg (by omega)]
      have form : ¬ startB c = true → lexer_reader_2.S29 (at0 bi) (at0 w.heap.size) (at0 w1.heap.size) w5 (NxPost bi w i (.bad 0 2)) := fun _ =>
        H6.dr fun w9 H9 => ⟨_, H9.ld0 0, H9.st3 1 rfl fun w10 H10 => ⟨H10.ld0 0, H10.st2 2 rfl fun w11 H11 => ⟨_, _, _, H11.ld 1 0, H11.ld 1 1, H11.ld 1 2, _, _, H11.ld 2 0, H11.ld 2 1, ⟨_, _, _, rfl⟩, by omega, H11.fr⟩⟩⟩
      have word : startB c = true → lexer_reader_2.L19 (at0 bi) (at0 bs) (at0 w.heap.size) (at0 w1.heap.size) (at0 w3.heap.size) w5 (NxPost bi w i (if startB c = true then (match exam ((c :: l).takeWhile lxWord) with
          | (k, e) => if e ≠ 0 then .bad 0 e else match (c :: l).drop ((c :: l).takeWhile lxWord).length with
            | [] => .tok k ((c :: l).takeWhile lxWord) ((c :: l).takeWhile lxWord).length
            | x :: _ => if followB x then .tok k ((c :: l).takeWhile lxWord) ((c :: l).takeWhile lxWord).length else .bad ((c :: l).takeWhile lxWord).length 2) else .bad 0 2)) := fun hst => by
        rw [if_pos hst]
        have hwc : lxWord c = true := by unfold startB at hst; unfold lxWord; simp at hst ⊢; rcases hst with (h | h) | h <;> simp [h]
        have htl : ((c :: l).takeWhile lxWord).length ≤ l.length + 1 := by
          have := (List.takeWhile_prefix (p := lxWord) (l := c :: l)).length_le
          simpa using this
        refine l_word_loop s hsm w bi bs bk _ _ _ (i + ((c :: l).takeWhile lxWord).length) i _ _ (fun w6 H7 => ?_) (l.length + 2) i (c :: l) w5 (by simp) hl his rfl H6
        have hpre : (c :: l).take ((c :: l).takeWhile lxWord).length = (c :: l).takeWhile lxWord := (List.prefix_iff_eq_take.1 (List.takeWhile_prefix lxWord)).symm
        have hex : bl (s.extract i (i + ((c :: l).takeWhile lxWord).length)) = (c :: l).takeWhile lxWord := by
          rw [bl_extract, List.drop_take, hl, Nat.add_sub_cancel_left, hpre]
        have hws : ∀ x ∈ (c :: l).takeWhile lxWord, lxWord x = true := fun x hx => by
          have := List.all_takeWhile (p := lxWord) (l := c :: l)
          exact List.all_eq_true.1 this x hx
        have hnil : (c :: l).takeWhile lxWord ≠ [] := by rw [List.takeWhile_cons, if_pos hwc]; simp
        have hdr : (bl s).drop (i + ((c :: l).takeWhile lxWord).length) = (c :: l).drop ((c :: l).takeWhile lxWord).length := by rw [← List.drop_drop, hl]
        generalize (c :: l).takeWhile lxWord = t at *
        refine ⟨_, H7.ldD0 0, _, H7.ld 3 2, _, H7.ld0 0, by omega, by omega, by omega, by rw [Int.toNat_natCast]; omega, ?_⟩
        rw [Int.toNat_natCast, Int.toNat_natCast]
        refine H7.st 3 1 rfl fun w7 H8 => ⟨_, H8.ld 3 1, (l_examine _ w7 (by rw [hex]; exact hnil) (by rw [hex]; exact hws) (by rw [← bl_len, hex]; omega)).mono ?_⟩
        rintro r w8 ⟨rfl, f8⟩
        rw [hex]
        refine ⟨_, _, rfl, ?_⟩
        have H9 := H8.fr0 f8
        rcases exam t with ⟨kd, e⟩
        simp only
        have etext : s.extract i (i + t.length) = ba t := (ba_bl _).symm.trans (congrArg ba hex)
        have fine : ∀ {w' : World}, LH (· = bi) w w' [.c bi [.int .i64 ((i + t.length : Nat) : Int)] ty_int, .c w.heap.size [.int .i64 0, zs, .int .i64 0] ty_lexer_Token, .c w1.heap.size [.int .i64 0, .int .i64 0] ty_lexer_fault, .c w3.heap.size [.int .i64 0, .string (s.extract i (i + t.length)), .int .i64 (i : Int)] ty_lexer_Token] (RD bs bk s (.func (.func n_lexer_reader_1) #[] #[.pointer (some (at0 bi)), .pointer (some (at0 bs))])) →
            lexer_reader_2.S28 (at0 w.heap.size) (at0 w1.heap.size) (at0 w3.heap.size) kd w' (NxPost bi w i (.tok kd t t.length)) := fun H' => by
          rw [etext] at H'
          exact H'.st 3 0 rfl fun w'' H'' => l_ret9 H'' fun w' f' c' => ⟨rfl, f', c'⟩
        refine sel_ne (fun he => ?_) (fun he => ?_)
        · rw [if_pos he]
          exact H9.dr fun w9 H9 => ⟨_, H9.ld 3 2, H9.st3 1 rfl fun w10 H10 => ⟨H10.ld 3 2, H10.st2 2 rfl fun w11 H11 => ⟨_, _, _, H11.ld 1 0, H11.ld 1 1, H11.ld 1 2, _, _, H11.ld 2 0, H11.ld 2 1, ⟨_, _, _, rfl⟩, he, H11.fr⟩⟩⟩
        · rw [if_neg (by simpa using he)]
          refine ⟨_, H9.ld0 0, _, H9.ldD0 0, sel_dec (fun hlt => ?_) (fun hlt => ?_)⟩
          · obtain ⟨x, l', hx⟩ : ∃ x l', (bl s).drop (i + t.length) = x :: l' := by
              cases hd : (bl s).drop (i + t.length) with
              | nil => have := congrArg List.length hd; rw [List.length_drop, bl_len] at this; simp at this; omega
              | cons c l => exact ⟨c, l, rfl⟩
            rw [← hdr, hx]
            refine ⟨_, H9.ldD0 0, _, H9.ld0 0, by omega, x, by rw [Int.toNat_natCast]; exact (get_drop hx).1, (lx_indexByte _ x w8).mono ?_⟩
            rintro r w9 ⟨rfl, rfl⟩
            refine ⟨_, rfl, ?_⟩
            show sel (decide (Go.Lib.indexByte [9, 10, 13, 32, 59, 40, 41, 34] x < 0)) _ _
            rw [follow_at]
            refine sel_not (fun hf => ?_) (fun hf => ?_)
            · simp only [hf]
              exact H9.dr fun w9 H9 => ⟨_, H9.ld0 0, H9.st3 1 rfl fun w10 H10 => ⟨H10.ld0 0, H10.st2 2 rfl fun w11 H11 => ⟨_, _, _, H11.ld 1 0, H11.ld 1 1, H11.ld 1 2, _, _, H11.ld 2 0, H11.ld 2 1, ⟨_, _, _, rfl⟩, by omega, H11.fr⟩⟩⟩
            · simp only [hf, if_true]
              exact fine H9
          · have : (bl s).drop (i + t.length) = [] := List.drop_of_length_le (by rw [bl_len]; omega)
            rw [← hdr, this]
            exact fine H9
      refine (l_small c w5).mono ?_
      rintro r w6 ⟨rfl, rfl⟩
      refine ⟨_, rfl, sel_intro (fun h1 => word (by simp [startB, h1])) (fun h1 => (l_digit c 10 w5).mono ?_)⟩
      rintro r w6 ⟨rfl, rfl⟩
      refine ⟨_, rfl, sel_intro (fun h2 => word (by simp [startB, h2])) (fun h2 => sel_eq (fun h3 => word ?_) (fun h3 => ?_))⟩
      · have : c.toNat = 35 := by omega
        simp [startB, this]
      · have hns : ¬ startB c = true := by
          have : c.toNat ≠ 35 := by omega
          simp [startB, h1, h2, this]
        rw [if_neg hns]
        exact form hns
end Go.Proofs.YtibaobaobnpdaaaGreatDoor
set_option maxRecDepth 100000
set_option maxHeartbeats 1000000
namespace Go.Proofs.YtibaobaobnpdaaaGreatDoor
open Go Go.W

theorem qu_len : ∀ (n : Nat) (l : List UInt8), l.length < n → ∀ (t : List UInt8) (u : Nat), qu l = .ok t u → 1 ≤ u ∧ u ≤ l.length ∧ t.length < u
  | 0, l, h => by omega
  | n + 1, [], _ => by intro a e h; unfold qu at h; cases h
  | n + 1, c :: l, hn => by
    intro t u h
    by_cases h34 : c.toNat = 34
    · unfold qu at h; rw [if_pos h34] at h; cases h; simp
    · rw [qu_item c l h34] at h
      cases hi : item1 (c :: l) with
      | bad a' e' => rw [hi] at h; cases h
      | ok d v =>
        rw [hi] at h
        simp only at h
        have hv := item_len hi
        cases hq : qu ((c :: l).drop v) with
        | bad a e => rw [hq] at h; cases h
        | ok t' v' =>
          rw [hq] at h; cases h
          have := qu_len n _ (by simp at hn ⊢; omega) _ _ hq
          simp at this ⊢ hv
          omega
theorem exam_kind {t : List UInt8} {k : Int} (h : exam t = (k, 0)) : k = 2 ∨ k = 3 ∨ k = 4 := by
  unfold exam at h
  split at h
  · cases h
  · split at h
    · split at h
      · cases h
      · split at h <;> cases h; simp
    · split at h
      · split at h
        · cases h
        · split at h <;> cases h; simp
      · unfold examH at h
        split at h
        · split at h
          · split at h
            · split at h <;> cases h; simp
            · cases h
          · split at h
            · split at h
              · split at h <;> cases h; simp
              · cases h
            · cases h
        · cases h
theorem next1_tok {l : List UInt8} {k : Int} {t : List UInt8} {u : Nat} (h : next1 l = .tok k t u) : k ≠ 6 ∧ 1 ≤ u ∧ u ≤ l.length ∧ t.length ≤ u := by
  unfold next1 at h
  cases l with
  | nil => cases h
  | cons c l =>
    simp only at h
    split at h
    · cases h; simp
    · split at h
      · cases h; simp
      · split at h
        · split at h
          · rename_i t' u' hq
            cases h
            have := qu_len _ l (Nat.lt_succ_self _) _ _ hq
            simp; omega
          · cases h
        · split at h
          · rename_i hst
            have hwc : lxWord c = true := by unfold startB at hst; unfold lxWord; simp at hst ⊢; rcases hst with (h | h) | h <;> simp [h]
            have hle : ((c :: l).takeWhile lxWord).length ≤ (c :: l).length := (List.takeWhile_prefix (p := lxWord) (l := c :: l)).length_le
            have h1 : 1 ≤ ((c :: l).takeWhile lxWord).length := by rw [List.takeWhile_cons, if_pos hwc]; simp
            cases hx : exam ((c :: l).takeWhile lxWord) with
            | mk kd e =>
              rw [hx] at h
              simp only at h
              split at h
              · cases h
              · rename_i he
                simp only [ne_eq, Decidable.not_not] at he
                subst he
                have hk := exam_kind hx
                split at h
                · cases h; exact ⟨by omega, h1, hle, Nat.le_refl _⟩
                · split at h
                  · cases h; exact ⟨by omega, h1, hle, Nat.le_refl _⟩
                  · cases h
          · cases h
theorem el_toks : ElemOk Tryz.prog ty_sl_lexer_Token ty_lexer_Token (.agg #[.int .i64 0, .string (ByteArray.mk #[]), .int .i64 0]) 3 32 := ⟨by kernel_rfl, by kernel_rfl, rfl, by decide, by decide⟩
def tokC (t : Tok) : List Value := [.int .i64 t.kind, .string (ba t.text), .int .i64 (t.at' : Int)]
def toksC (l : List Tok) : List Value := l.flatMap tokC
theorem toksC_len : ∀ l : List Tok, (toksC l).length = 3 * l.length
  | [] => rfl
  | t :: l => by
    have := toksC_len l
    unfold toksC at this ⊢
    rw [List.flatMap_cons, List.length_append, this, List.length_cons]
    simp [tokC]; omega
theorem toksC_snoc (l : List Tok) (t : Tok) : toksC (l ++ [t]) = toksC l ++ tokC t := by simp [toksC]
/-- nothing -/
def En.nil : En := ⟨[], fun _ => True, fun _ _ _ h => h, fun _ _ b hb => by simp at hb, by simp⟩
abbrev EL (t2 t3 t4 l5 bi l_ D : Nat) (v2 v3 v4 : Value) (sl : Sl) (acc : List Tok) (k : En) (o : Obj) : List En :=
  [.c t2 [v2] ty_sl_lexer_Token, .c t3 [v3] ty_int, .c t4 [v4] ty_api_Errno, .c l5 [sl.v] ty_sl_lexer_Token, k, .row ty_lexer_Token 3 sl (toksC acc), .ob D (.deferred (some [])), .ob l_ o]
abbrev ED (bs bi bk bn : Nat) (s : ByteArray) : List En :=
  [.c bs [.string s] ty_string, .c bk [.func (.func n_lexer_reader_1) #[] #[.pointer (some (at0 bi)), .pointer (some (at0 bs))]] ty_func, .c bn [.func (.func n_lexer_reader_2) #[] #[.pointer (some (at0 bk)), .pointer (some (at0 bi)), .pointer (some (at0 bs))]] ty_func_lexer_Token_lexer_fault]
def EachEnd (w0 : World) (t2 t3 t4 l5 bi l_ D bs bk bn : Nat) (s : ByteArray) (o_ : LoopState → Option Code → Obj) (acc : List Tok) (w : World) : TR → Prop
  | .ok L => ∃ sl k, LH F0 w0 w (EL t2 t3 t4 l5 bi l_ D (.slice none 0 0) (.int .i64 0) (.int .i64 0) sl (acc ++ L) k (o_ .ready none)) (ED bs bi bk bn s)
  | .bad a e => e ≠ 0 ∧ ∃ sl acc' k, LH F0 w0 w (EL t2 t3 t4 l5 bi l_ D (.slice none 0 0) (.int .i64 (a : Int)) (.int .i64 e) sl acc' k (o_ .done (some .ret))) (ED bs bi bk bn s)
theorem EachEnd_push {w0 : World} {t2 t3 t4 l5 bi l_ D bs bk bn : Nat} {s : ByteArray} {o_ : LoopState → Option Code → Obj} {acc : List Tok} {w : World} {t : Tok} {q : TR} (h : EachEnd w0 t2 t3 t4 l5 bi l_ D bs bk bn s o_ (acc ++ [t]) w q) : EachEnd w0 t2 t3 t4 l5 bi l_ D bs bk bn s o_ acc w (q.push t) := by
  cases q with
  | ok L => simpa [EachEnd, TR.push] using h
  | bad a e => exact h
theorem l_each_loop (s : ByteArray) (hsm : s.size ≤ 1000000) (w0 : World) (t2 t3 t4 l5 bi l_ D bs bk bn : Nat) (x : Addr) (o_ : LoopState → Option Code → Obj)
    (hY : ∀ (x14_0 : Int) (x14_1 : ByteArray) (x14_2 x15_0 x15_1 : Int) (w_ : World) (K_ : Bool → World → Prop), w_.heap[l_]? = some (o_ .ready none) → lexer_Tokens.B_S5 l_ o_ (at0 t2) (at0 t3) (at0 t4) (at0 l5) x x14_0 x14_1 x14_2 x15_0 x15_1 w_ (fun r_ w1 => ∃ b_ : Bool, r_ = .returned (.bool b_) ∧ K_ b_ w1) → W.yieldB Tryz.prog l_ #[.agg #[.int .i64 x14_0, .string x14_1, .int .i64 x14_2], .agg #[.int .i64 x15_0, .int .i64 x15_1]] w_ K_)
    (R : Post) : ∀ (n k : Nat) (l : List UInt8) (acc : List Tok) (sl : Sl) (w : World), l.length < n → (bl s).drop k = l → k ≤ s.size → acc.length ≤ k →
    LH F0 w0 w (EL t2 t3 t4 l5 bi l_ D (.slice none 0 0) (.int .i64 0) (.int .i64 0) sl acc (.c bi [.int .i64 (k : Int)] ty_int) (o_ .ready none)) (ED bs bi bk bn s) →
    (∀ w', EachEnd w0 t2 t3 t4 l5 bi l_ D bs bk bn s o_ acc w' (toks n k l) → R (.returned (.tuple #[])) w') → lexer_each_1.L0 l_ (at0 bn) w R := by
  intro n
  induction n with
  | zero => intro k l acc sl w hn; omega
  | succ n ih =>
    intro k l acc sl w hn hl hk hacc H hR
    have hsk := skipN_le false l
    have hll : l.length = s.size - k := by rw [← hl, List.length_drop, bl_len]
    have slen : sl.n = acc.length := by have := OwnRow.len (H.get 5); rw [toksC_len] at this; omega
    refine lexer_each_1.L0_step _ _ _ _ ⟨⟨n_lexer_reader_2, #[], #[.pointer (some (at0 bk)), .pointer (some (at0 bi)), .pointer (some (at0 bs))]⟩, H.ldD0 2, andT_mk (by kernel_rfl) ((l_next hsm (H.ob 4) (show w.heap[bs]? = _ from H.getD 0) (show w.heap[bk]? = _ from H.getD 1) hk).mono ?_)⟩
    intro r w1 hp
    rw [hl] at hp
    -- a round with a token
    have round : ∀ (kd : Int) (tx : List UInt8) (i : Nat) (w1 : World) (e5 : En) (w8 : World) (p q : Nat), LH F0 w0 w8 (EL t2 t3 t4 l5 bi l_ D (.slice none 0 0) (.int .i64 0) (.int .i64 0) sl acc e5 (o_ .ready none) ++ [.c p [.int .i64 kd, .string (ba tx), .int .i64 (i : Int)] ty_lexer_Token, .c q [.int .i64 0, .int .i64 0] ty_lexer_fault]) (ED bs bi bk bn s) →
        ∀ K : Bool → World → Prop, (∀ sl' w', LH F0 w0 w' (EL t2 t3 t4 l5 bi l_ D (.slice none 0 0) (.int .i64 0) (.int .i64 0) sl' (acc ++ [⟨kd, tx, i⟩]) e5 (o_ .ready none) ++ [.c p [.int .i64 kd, .string (ba tx), .int .i64 (i : Int)] ty_lexer_Token, .c q [.int .i64 0, .int .i64 0] ty_lexer_fault]) (ED bs bi bk bn s) → K true w') →
        W.yieldB Tryz.prog l_ #[.agg #[.int .i64 kd, .string (ba tx), .int .i64 (i : Int)], .agg #[.int .i64 0, .int .i64 0]] w8 K := by
      intro kd tx i w1 e5 w8 p q H8 K hK
      refine hY _ _ _ _ _ w8 K (H8.ob 7) ?_
      refine H8.nw fun w9 _ H9 => H9.st3 10 rfl fun w10 H10 => ?_
      refine H10.nw fun w11 _ H11 => H11.st2 11 rfl fun w12 H12 => H12.pu 7 rfl fun w13 H13 => ⟨_, H13.ld 11 0, sel_false rfl ?_⟩
      refine ⟨_, H13.ld0 3, _, _, _, H13.ld 10 0, H13.ld 10 1, H13.ld 10 2, H13.ap1 5 el_toks rfl (fun sl' w14 H14 _ _ => ?_) (by omega)⟩
      refine H14.st0 3 rfl fun w15 H15 => H15.pu 7 rfl fun w16 H16 => ⟨true, rfl, hK sl' w16 ?_⟩
      have := H16.take 10
      simp only [List.set_cons_succ, List.set_cons_zero, List.take_succ_cons, List.take_zero, List.cons_append, List.nil_append] at this
      simp only [EL, toksC_snoc]
      exact this
    cases hn1 : next1 (l.drop (skipN false l)) with
    | fin =>
      rw [hn1] at hp
      obtain ⟨rfl, f1, c1⟩ := hp
      have H1 := H.callc 4 f1 c1
      refine ⟨_, _, _, _, _, rfl, H1.nw fun w2 _ H2 => H2.nw fun w3 _ H3 => H3.st3 8 rfl fun w4 H4 => H4.st2 9 rfl fun w5 H5 => ⟨_, _, _, H5.ld 8 0, H5.ld 8 1, H5.ld 8 2, _, _, H5.ld 9 0, H5.ld 9 1, ?_⟩⟩
      refine round 6 [] _ w1 _ _ _ _ H5 _ (fun sl' w6 H6 => sel_false rfl ⟨_, H6.ld 9 0, sel_false rfl ⟨_, H6.ld 8 0, sel_true rfl (hR w6 ?_)⟩⟩)
      unfold toks
      simp only [hn1]
      exact ⟨sl', _, H6.take 8⟩
    | tok kd tx u =>
      rw [hn1] at hp
      obtain ⟨rfl, f1, c1⟩ := hp
      have H1 := H.callc 4 f1 c1
      obtain ⟨hk6, hu1, hu2, _⟩ := next1_tok hn1
      rw [List.length_drop] at hu2
      refine ⟨_, _, _, _, _, rfl, H1.nw fun w2 _ H2 => H2.nw fun w3 _ H3 => H3.st3 8 rfl fun w4 H4 => H4.st2 9 rfl fun w5 H5 => ⟨_, _, _, H5.ld 8 0, H5.ld 8 1, H5.ld 8 2, _, _, H5.ld 9 0, H5.ld 9 1, ?_⟩⟩
      refine round kd tx _ w1 _ _ _ _ H5 _ (fun sl' w6 H6 => sel_false rfl ⟨_, H6.ld 9 0, sel_false rfl ⟨_, H6.ld 8 0, sel_false (by simpa using hk6) ?_⟩⟩)
      refine ih (k + skipN false l + u) ((l.drop (skipN false l)).drop u) (acc ++ [Tok.mk kd tx (k + skipN false l)]) sl' w6 (by simp; omega) (by rw [← hl, List.drop_drop, List.drop_drop, Nat.add_assoc]) (by omega) (by simp; omega) (H6.take 8) (fun w' he => hR w' ?_)
      unfold toks
      simp only [hn1]
      exact EachEnd_push he
    | bad a e =>
      rw [hn1] at hp
      obtain ⟨⟨x0, x1, x2, rfl⟩, he, f1⟩ := hp
      have H1 := H.upd 4 En.nil rfl (f1.mono fun x _ e => by simp [En.ob, e]) trivial (by simp [En.nil])
      refine ⟨_, _, _, _, _, rfl, H1.nw fun w2 _ H2 => H2.nw fun w3 _ H3 => H3.st3 8 rfl fun w4 H4 => H4.st2 9 rfl fun w5 H5 => ⟨_, _, _, H5.ld 8 0, H5.ld 8 1, H5.ld 8 2, _, _, H5.ld 9 0, H5.ld 9 1, ?_⟩⟩
      refine hY _ _ _ _ _ w5 _ (H5.ob 7) ?_
      refine H5.nw fun w9 _ H9 => H9.st3 10 rfl fun w10 H10 => ?_
      refine H10.nw fun w11 _ H11 => H11.st2 11 rfl fun w12 H12 => H12.pu 7 rfl fun w13 H13 => ⟨_, H13.ld 11 0, sel_true (by simpa using he) ?_⟩
      refine H13.dr fun w14 H14 => ⟨_, H14.ld 11 1, _, H14.ld 11 0, H14.st0 0 rfl fun w15 H15 => ⟨H15.ld 11 0, H15.ld 11 1, H15.st0 1 rfl fun w16 H16 => ⟨H16.ld 11 0, H16.st0 2 rfl fun w17 H17 => H17.pu 7 rfl fun w18 H18 => ⟨false, rfl, sel_true rfl (hR w18 ?_)⟩⟩⟩⟩
      unfold toks
      simp only [hn1]
      exact ⟨he, sl, acc, En.nil, H18.take 8⟩
theorem lx_rangeEnd_n {w2 : World} {l : Nat} {o : LoopState → Option Code → Obj} {N : World → Prop} {X : Nat → World → Prop} {T : World → Prop} (h : puV w2 l (o .ready none) (o .exhausted none) N) : RangeEnd w2 l o N X T := .inl h
theorem lx_rangeEnd_t {w2 : World} {l : Nat} {o : LoopState → Option Code → Obj} {N : World → Prop} {X : Nat → World → Prop} {T : World → Prop} (h : puV w2 l (o .done (some .ret)) (o .exhausted (some .ret)) T) : RangeEnd w2 l o N X T := .inr (.inr h)
def tokens (l : List UInt8) : TR := if 65536 < l.length then .bad 65536 4 else toks (l.length + 1) 0 l
def TksPost (w : World) (q : TR) : Post := fun r w' => match q with
  | .ok L => ∃ sl : Sl, r = .returned (.tuple #[sl.v, .int .i64 0, .int .i64 0]) ∧ OwnRow w' ty_lexer_Token 3 sl (toksC L) ∧ Fr0 w w' ∧ ∀ b ∈ blkL sl, w.heap.size ≤ b
  | .bad a e => r = .returned (.tuple #[.slice none 0 0, .int .i64 (a : Int), .int .i64 e]) ∧ e ≠ 0 ∧ Fr0 w w'
theorem l_Tokens (s : ByteArray) (hsm : s.size ≤ 1000000) (w : World) : Calls Tryz.prog n_lexer_Tokens #[.string s] w (TksPost w (tokens (bl s))) := by
  refine lexer_Tokens.ok _ w _ ((LH.start (M := F0) [] (by simp)).nw fun w1 _ H1 => H1.nw fun w2 _ H2 => H2.nw fun w3 _ H3 => sel_dec (fun h => ?_) (fun h => ?_))
  · refine H3.st0 0 rfl fun w4 H4 => H4.st0 1 rfl fun w5 H5 => H5.st0 2 rfl fun w6 H6 => ⟨⟨none, 0, 0⟩, H6.ld0 0, _, H6.ld0 1, _, H6.ld0 2, ?_⟩
    unfold tokens
    rw [if_pos (by rw [bl_len]; omega)]
    exact ⟨rfl, by omega, H6.fr⟩
  · unfold tokens
    rw [if_neg (by rw [bl_len]; omega)]
    refine H3.nw fun w4 _ H4 => ?_
    refine lexer_reader.ok _ _ _ (H4.nw fun w5 _ H5 => H5.nw fun w6 _ H6 => H6.st0 5 rfl fun w7 H7 => H7.nw fun w8 _ H8 => H8.st0 6 rfl fun w9 H9 => ⟨_, rfl, ?_⟩)
    refine lexer_each.ok ⟨n_lexer_reader_2, #[], #[.pointer (some (at0 w7.heap.size)), .pointer (some (at0 w5.heap.size)), .pointer (some (at0 w4.heap.size))]⟩ _ _ (H9.nw fun w10 _ H10 => ⟨_, rfl, ?_⟩)
    show ∀ o_ : LoopState → Option Code → Obj, _
    intro o_ hY
    have e1 : (w10.alloc (.deferred (some []))).heap.size = w10.heap.size + 1 := size_alloc _ _
    have HD := ((H10.freeze 4 _ rfl (H10.get 4) (fun b hb => hb)))
    have HE := HD.freeze 5 _ rfl (HD.get 5) (fun b hb => hb)
    have HF := HE.freeze 5 _ rfl (HE.get 5) (fun b hb => hb)
    have HG := ((HF.nilrow ty_lexer_Token 3).alloc (.deferred (some []))).alloc (o_ .ready none)
    rw [e1] at HG
    refine lexer_each_1.ok _ _ _ _ (l_each_loop s hsm w w.heap.size w1.heap.size w2.heap.size w3.heap.size w5.heap.size (w10.heap.size + 1) w10.heap.size w4.heap.size w7.heap.size w9.heap.size _ o_ hY _ ((bl s).length + 1) 0 (bl s) [] ⟨none, 0, 0⟩ _ (by omega) rfl (by omega) (by simp) HG (fun w' he => ⟨⟨_, rfl⟩, ?_⟩))
    cases ht : toks ((bl s).length + 1) 0 (bl s) with
    | ok L =>
      rw [ht] at he
      obtain ⟨sl, k, H⟩ := he
      refine lx_rangeEnd_n (H.pu 7 rfl fun w11 H11 => ⟨sl, H11.ld0 3, H11.st0 0 rfl fun w12 H12 => H12.st0 1 rfl fun w13 H13 => H13.st0 2 rfl fun w14 H14 => H14.pu 6 rfl fun w15 H15 => ⟨sl, H15.ld0 0, _, H15.ld0 1, _, H15.ld0 2, ?_⟩⟩)
      exact ⟨sl, rfl, H15.get 5, H15.fr, fun b hb => (H15.new _ (List.mem_of_getElem? (i := 5) rfl) b hb).resolve_right id⟩
    | bad a e =>
      rw [ht] at he
      obtain ⟨he0, sl, acc', k, H⟩ := he
      refine lx_rangeEnd_t (H.pu 7 rfl fun w11 H11 => H11.pu 6 rfl fun w15 H15 => ⟨⟨none, 0, 0⟩, H15.ld0 0, _, H15.ld0 1, _, H15.ld0 2, ?_⟩)
      exact ⟨rfl, he0, H15.fr⟩
end Go.Proofs.YtibaobaobnpdaaaGreatDoor
set_option linter.unusedVariables false
set_option maxRecDepth 100000
set_option maxHeartbeats 2000000
namespace Go.Proofs.YtibaobaobnpdaaaGreatDoor
open Go Go.W
namespace parse_operations
noncomputable abbrev X : Fx := ⟨Tryz.prog, Tryz.f43, [], []⟩
theorem ok  (w : World) (R : Post) (h : nwV w (.map #[] 0) fun w1 => 
  ∃ (w2 : World), Sem.run Tryz.prog (Instr.mapUpdate ty_map_string_parse_operation (.map (some w.heap.size)) (.string (ByteArray.mk #[110, 111, 116])) (.agg #[.i 4, .i 1])) w1 = .ok () w2 ∧ ∃ (w3 : World), Sem.run Tryz.prog (Instr.mapUpdate ty_map_string_parse_operation (.map (some w.heap.size)) (.string (ByteArray.mk #[110, 101, 103])) (.agg #[.i 5, .i 1])) w2 = .ok () w3 ∧ ∃ (w4 : World), Sem.run Tryz.prog (Instr.mapUpdate ty_map_string_parse_operation (.map (some w.heap.size)) (.string (ByteArray.mk #[97, 110, 100])) (.agg #[.i 6, .i 2])) w3 = .ok () w4 ∧ ∃ (w5 : World), Sem.run Tryz.prog (Instr.mapUpdate ty_map_string_parse_operation (.map (some w.heap.size)) (.string (ByteArray.mk #[111, 114])) (.agg #[.i 7, .i 2])) w4 = .ok () w5 ∧ ∃ (w6 : World), Sem.run Tryz.prog (Instr.mapUpdate ty_map_string_parse_operation (.map (some w.heap.size)) (.string (ByteArray.mk #[120, 111, 114])) (.agg #[.i 8, .i 2])) w5 = .ok () w6 ∧ ∃ (w7 : World), Sem.run Tryz.prog (Instr.mapUpdate ty_map_string_parse_operation (.map (some w.heap.size)) (.string (ByteArray.mk #[97, 100, 100])) (.agg #[.i 9, .i 2])) w6 = .ok () w7 ∧ ∃ (w8 : World), Sem.run Tryz.prog (Instr.mapUpdate ty_map_string_parse_operation (.map (some w.heap.size)) (.string (ByteArray.mk #[109, 117, 108])) (.agg #[.i 10, .i 2])) w7 = .ok () w8 ∧ ∃ (w9 : World), Sem.run Tryz.prog (Instr.mapUpdate ty_map_string_parse_operation (.map (some w.heap.size)) (.string (ByteArray.mk #[117, 100, 105, 118])) (.agg #[.i 11, .i 2])) w8 = .ok () w9 ∧ ∃ (w10 : World), Sem.run Tryz.prog (Instr.mapUpdate ty_map_string_parse_operation (.map (some w.heap.size)) (.string (ByteArray.mk #[117, 114, 101, 109])) (.agg #[.i 12, .i 2])) w9 = .ok () w10 ∧ ∃ (w11 : World), Sem.run Tryz.prog (Instr.mapUpdate ty_map_string_parse_operation (.map (some w.heap.size)) (.string (ByteArray.mk #[115, 104, 108])) (.agg #[.i 13, .i 2])) w10 = .ok () w11 ∧ ∃ (w12 : World), Sem.run Tryz.prog (Instr.mapUpdate ty_map_string_parse_operation (.map (some w.heap.size)) (.string (ByteArray.mk #[108, 115, 104, 114])) (.agg #[.i 14, .i 2])) w11 = .ok () w12 ∧ ∃ (w13 : World), Sem.run Tryz.prog (Instr.mapUpdate ty_map_string_parse_operation (.map (some w.heap.size)) (.string (ByteArray.mk #[97, 115, 104, 114])) (.agg #[.i 15, .i 2])) w12 = .ok () w13 ∧ ∃ (w14 : World), Sem.run Tryz.prog (Instr.mapUpdate ty_map_string_parse_operation (.map (some w.heap.size)) (.string (ByteArray.mk #[117, 108, 116])) (.agg #[.i 16, .i 2])) w13 = .ok () w14 ∧ ∃ (w15 : World), Sem.run Tryz.prog (Instr.mapUpdate ty_map_string_parse_operation (.map (some w.heap.size)) (.string (ByteArray.mk #[115, 108, 116])) (.agg #[.i 17, .i 2])) w14 = .ok () w15 ∧ ∃ (w16 : World), Sem.run Tryz.prog (Instr.mapUpdate ty_map_string_parse_operation (.map (some w.heap.size)) (.string (ByteArray.mk #[101, 113])) (.agg #[.i 18, .i 2])) w15 = .ok () w16 ∧ ∃ (w17 : World), Sem.run Tryz.prog (Instr.mapUpdate ty_map_string_parse_operation (.map (some w.heap.size)) (.string (ByteArray.mk #[105, 116, 101])) (.agg #[.i 19, .i 3])) w16 = .ok () w17 ∧ ∃ (w18 : World), Sem.run Tryz.prog (Instr.mapUpdate ty_map_string_parse_operation (.map (some w.heap.size)) (.string (ByteArray.mk #[99, 111, 110, 99, 97, 116])) (.agg #[.i 20, .i 2])) w17 = .ok () w18 ∧ ∃ (w19 : World), Sem.run Tryz.prog (Instr.mapUpdate ty_map_string_parse_operation (.map (some w.heap.size)) (.string (ByteArray.mk #[115, 101, 108, 101, 99, 116])) (.agg #[.i 24, .i 2])) w18 = .ok () w19 ∧ ∃ (w20 : World), Sem.run Tryz.prog (Instr.mapUpdate ty_map_string_parse_operation (.map (some w.heap.size)) (.string (ByteArray.mk #[115, 116, 111, 114, 101])) (.agg #[.i 25, .i 3])) w19 = .ok () w20 ∧ ∃ (w21 : World), Sem.run Tryz.prog (Instr.mapUpdate ty_map_string_parse_operation (.map (some w.heap.size)) (.string (ByteArray.mk #[100, 105, 102, 102])) (.agg #[.i 26, .i 2])) w20 = .ok () w21 ∧ ∃ (w22 : World), Sem.run Tryz.prog (Instr.mapUpdate ty_map_string_parse_operation (.map (some w.heap.size)) (.string (ByteArray.mk #[108, 101, 110])) (.agg #[.i 27, .i 1])) w21 = .ok () w22 ∧ ∃ (w23 : World), Sem.run Tryz.prog (Instr.mapUpdate ty_map_string_parse_operation (.map (some w.heap.size)) (.string (ByteArray.mk #[99, 97, 116])) (.agg #[.i 29, .i 2])) w22 = .ok () w23 ∧ ∃ (w24 : World), Sem.run Tryz.prog (Instr.mapUpdate ty_map_string_parse_operation (.map (some w.heap.size)) (.string (ByteArray.mk #[115, 117, 98])) (.agg #[.i 30, .i 3])) w23 = .ok () w24 ∧ ∃ (w25 : World), Sem.run Tryz.prog (Instr.mapUpdate ty_map_string_parse_operation (.map (some w.heap.size)) (.string (ByteArray.mk #[102, 105, 110, 100])) (.agg #[.i 31, .i 2])) w24 = .ok () w25 ∧ ∃ (w26 : World), Sem.run Tryz.prog (Instr.mapUpdate ty_map_string_parse_operation (.map (some w.heap.size)) (.string (ByteArray.mk #[114, 101, 112, 108, 97, 99, 101])) (.agg #[.i 32, .i 3])) w25 = .ok () w26 ∧ ∃ (w27 : World), Sem.run Tryz.prog (Instr.mapUpdate ty_map_string_parse_operation (.map (some w.heap.size)) (.string (ByteArray.mk #[99, 104, 97, 114])) (.agg #[.i 34, .i 1])) w26 = .ok () w27 ∧ R (.returned (.map (some w.heap.size))) w27) : Calls Tryz.prog n_parse_operations #[] w R := callsX X [] h
end parse_operations
namespace parse_newReader
noncomputable abbrev X : Fx := ⟨Tryz.prog, Tryz.f21, [(1,(.sq [0,1] (.fork (.sq [2] (.fork (ls [3,4,5,6,7]) (ls [4,3,5,6,7]))) (.fork (.sq [3] (.fork (ls [2,4,5,6,7]) (ls [4,2,5,6,7]))) (.sq [4] (.fork (ls [2,3,5,6,7]) (ls [3,2,5,6,7]))))))), (5,ls [0,1,2,3,4,5,6,7,8,9,10,11])], [3]⟩
abbrev P0 : Ps := [(3, .l [.s] ty_term_Graph), (5, .v [.r]), (16, .v [.s]), (17, .v [.I]), (18, .v [.I])]
def L1T (g3 : Nat) (g3_0 : Sl) (r5 : Addr) (t16 : Sl) (t17 t18 : Int) (w : World) (R : Post) : Prop := mkCur P0 0 (X.Sem (pth [0, 1, 1, 1, 2])) g3 g3_0 r5 t16 t17 t18 w R
noncomputable def eL1 := entL X (pth [0, 1, 1, 1, 2]) P0 L1T
theorem L1T_step : ∀ (g3 : Nat) (g3_0 : Sl) (r5 : Addr) (t16 : Sl) (t17 t18 : Int) (w : World) (R : Post) (h : sel (decide (t18 < t17)) ((0 : Int) ≤ t18 ∧ t18 < ((t16.n : Nat) : Int) ∧ optP t16.a fun t20_p => ∃ t21 : Int, w.cell? (t20_p.add (Int.toNat t18 * 1)) = some (.i t21) ∧ 
  loc [g3] w fun w2 => ∃ t25 : Option Nat, w2.cell? (r5.add 5) = some (.map t25) ∧ 
  (0 : Int) ≤ t21 ∧ t21 < ((g3_0.n : Nat) : Int) ∧ optP g3_0.a fun t29_p => ∃ t31 : ByteArray, w2.cell? ((t29_p.add (Int.toNat t21 * 9)).add 5) = some (.string t31) ∧ 
  ∃ (w3 : World), Sem.run Tryz.prog (Instr.mapUpdate ty_map_string_int (.map t25) (.string t31) (.i t21)) w2 = .ok () w3 ∧ kept [g3] w2 w3 ∧ L1T g3 g3_0 r5 t16 t17 (IntKind.wrap .i64 (t18 + 1)) w3 R) (R (.returned (.pointer (some r5))) w)), L1T g3 g3_0 r5 t16 t17 t18 w R := mp (stepL (X := X) [eL1] (pth [0, 1, 1, 1, 2]) P0)
abbrev P1 : Ps := [(3, .l [.s] ty_term_Graph), (5, .v [.r])]
abbrev S0T (g3 : Nat) (g3_0 : Sl) (r5 : Addr) (w : World) (R : Post) : Prop :=
  cf3 [g3] n_term_Vars #[.agg #[g3_0.v]] w fun t16 w1 => L1T g3 g3_0 r5 t16 ((t16.n : Nat) : Int) 0 w1 R
noncomputable def eS0 := entS X [eL1] (pth [2]) P1 S0T
theorem okT (tokens0 g1_0 : Sl) (w : World) (R : Post) (h : newV [] w fun b3 w1 => 
  ((loc [b3] w1 fun w2 => cf11 [b3] n_parse_operations #[] w2 fun t10 w3 => ((nwV w3 (.map #[] 0) fun w4 => 
  nwV w4 (.map #[] 0) fun w5 => 
  nwV w5 (.cells #[tokens0.v, .i 0, g1_0.v, .slice none 0 0, .map t10, .map (some w3.heap.size), .map (some w4.heap.size), .map none, .i 9223372036854775807, .i 0, .i 0] ty_parse_reader) fun w6 => 
  S0T b3 g1_0 (nb w5) w6 R) ∧ (nwV w3 (.map #[] 0) fun w7 => 
  nwV w7 (.map #[] 0) fun w8 => 
  nwV w8 (.cells #[tokens0.v, .i 0, g1_0.v, .slice none 0 0, .map t10, .map (some w7.heap.size), .map (some w3.heap.size), .map none, .i 9223372036854775807, .i 0, .i 0] ty_parse_reader) fun w9 => 
  S0T b3 g1_0 (nb w8) w9 R))) ∧ ((loc [b3] w1 fun w2 => nwV w2 (.map #[] 0) fun w10 => 
  ((cf11 [b3] n_parse_operations #[] w10 fun t10_x1 w11 => nwV w11 (.map #[] 0) fun w12 => 
  nwV w12 (.cells #[tokens0.v, .i 0, g1_0.v, .slice none 0 0, .map t10_x1, .map (some w2.heap.size), .map (some w11.heap.size), .map none, .i 9223372036854775807, .i 0, .i 0] ty_parse_reader) fun w13 => 
  S0T b3 g1_0 (nb w12) w13 R) ∧ (nwV w10 (.map #[] 0) fun w14 => 
  cf11 [b3] n_parse_operations #[] w14 fun t10_x2 w15 => nwV w15 (.cells #[tokens0.v, .i 0, g1_0.v, .slice none 0 0, .map t10_x2, .map (some w2.heap.size), .map (some w10.heap.size), .map none, .i 9223372036854775807, .i 0, .i 0] ty_parse_reader) fun w16 => 
  S0T b3 g1_0 (nb w15) w16 R))) ∧ (loc [b3] w1 fun w2 => nwV w2 (.map #[] 0) fun w17 => 
  ((cf11 [b3] n_parse_operations #[] w17 fun t10_x3 w18 => nwV w18 (.map #[] 0) fun w19 => 
  nwV w19 (.cells #[tokens0.v, .i 0, g1_0.v, .slice none 0 0, .map t10_x3, .map (some w18.heap.size), .map (some w2.heap.size), .map none, .i 9223372036854775807, .i 0, .i 0] ty_parse_reader) fun w20 => 
  S0T b3 g1_0 (nb w19) w20 R) ∧ (nwV w17 (.map #[] 0) fun w21 => 
  cf11 [b3] n_parse_operations #[] w21 fun t10_x4 w22 => nwV w22 (.cells #[tokens0.v, .i 0, g1_0.v, .slice none 0 0, .map t10_x4, .map (some w17.heap.size), .map (some w2.heap.size), .map none, .i 9223372036854775807, .i 0, .i 0] ty_parse_reader) fun w23 => 
  S0T b3 g1_0 (nb w22) w23 R)))))) : Calls Tryz.prog n_parse_newReader #[tokens0.v, .agg #[g1_0.v]] w R := callsX X [eS0, eL1] h
end parse_newReader
namespace parse_reader_isOperation
noncomputable abbrev X : Fx := ⟨Tryz.prog, Tryz.f75, [], [5]⟩
abbrev P0 : Ps := []
abbrev S0T  (w : World) (R : Post) : Prop :=
  R (.returned (.bool true)) w
noncomputable def eS0 := entS X [] (pth [0, 1, 1, 1, 1, 1, 1]) P0 S0T
abbrev P1 : Ps := [(0, .v [.r]), (1, .v [.st])]
abbrev S1T (r0 : Addr) (s1 : ByteArray) (w : World) (R : Post) : Prop :=
  ∃ t20 : Option Nat, w.cell? (r0.add 4) = some (.map t20) ∧ 
  ∃ t22_0_0 : Int, ∃ t22_0_1 : Int, ∃ t22_1 : Bool, Sem.run Tryz.prog (Instr.lookup ty_map_string_parse_operation (.map t20) (.string s1) true) w = .ok (.tuple #[.agg #[.i t22_0_0, .i t22_0_1], .bool t22_1]) w ∧ newV [] w fun b5 w1 => 
  loc [b5] w1 fun w3 => R (.returned (.bool t22_1)) w3
noncomputable def eS1 := entS X [eS0] (pth [2]) P1 S1T
theorem okT (r0 : Addr) (s1 : ByteArray) (w : World) (R : Post) (h : sel (s1.toList == (ByteArray.mk #[110, 117, 109]).toList) (sel (s1.toList == (ByteArray.mk #[110, 117, 109]).toList) (S0T  w R) (S1T r0 s1 w R)) (sel (s1.toList == (ByteArray.mk #[122, 101, 114, 111]).toList) (sel (s1.toList == (ByteArray.mk #[122, 101, 114, 111]).toList) (S0T  w R) (S1T r0 s1 w R)) (sel (s1.toList == (ByteArray.mk #[101, 120, 116, 114, 97, 99, 116]).toList) (sel (s1.toList == (ByteArray.mk #[101, 120, 116, 114, 97, 99, 116]).toList) (S0T  w R) (S1T r0 s1 w R)) (sel (s1.toList == (ByteArray.mk #[122, 101, 120, 116]).toList) (sel (s1.toList == (ByteArray.mk #[122, 101, 120, 116]).toList) (S0T  w R) (S1T r0 s1 w R)) (sel (s1.toList == (ByteArray.mk #[115, 101, 120, 116]).toList) (sel (s1.toList == (ByteArray.mk #[115, 101, 120, 116]).toList) (S0T  w R) (S1T r0 s1 w R)) (sel (s1.toList == (ByteArray.mk #[98, 121, 116, 101]).toList) (sel (s1.toList == (ByteArray.mk #[98, 121, 116, 101]).toList) (S0T  w R) (S1T r0 s1 w R)) (sel (s1.toList == (ByteArray.mk #[105, 110]).toList) (S0T  w R) (S1T r0 s1 w R)))))))) : Calls Tryz.prog n_parse_reader_isOperation #[.pointer (some r0), .string s1] w R := callsX X [eS1, eS0] h
end parse_reader_isOperation
namespace parse_reader_next
noncomputable abbrev X : Fx := ⟨Tryz.prog, Tryz.f46, [(1,ls [0,1,2,3,4,5,6,7,8,9,10,11])], [2, 3]⟩
abbrev P0 : Ps := [(2, .l [.I, .st, .I] ty_lexer_Token), (3, .l [.I, .st, .I] ty_lexer_Token)]
abbrev S0T (t2 : Nat) (t2_0 : Int) (t2_1 : ByteArray) (t2_2 : Int) (t3 : Nat) (t3_0 : Int) (t3_1 : ByteArray) (t3_2 : Int) (w : World) (R : Post) : Prop :=
  loc [t2, t3] w fun w3 => R (.returned (.agg #[.i t3_0, .string t3_1, .i t3_2])) w3
noncomputable def eS0 := entS X [] (pth [3]) P0 S0T
theorem okT (r0 : Addr) (w : World) (R : Post) (h : newV [] w fun b2 w1 => 
  loc [b2] w1 fun w2 => ∃ t7 : Sl, w2.cell? (r0.add 0) = some (t7.v) ∧ 
  ∃ t11 : Int, w2.cell? (r0.add 1) = some (.i t11) ∧ 
  (0 : Int) ≤ t11 ∧ t11 < ((t7.n : Nat) : Int) ∧ optP t7.a fun t12_p => ld3_6 w2 (t12_p.add (Int.toNat t11 * 3)) fun t13_0 t13_1 t13_2 => newV [b2] w2 fun b3 w3 => 
  hdW3 w3 (t12_p.add (Int.toNat t11 * 3)) (.i t13_0) (.string t13_1) (.i t13_2) fun _ => w3.cell? (r0.add 1) = some (.i t11) ∧ w3.cell? (r0.add 0) = some (t7.v) ∧ sel (t13_0 != 6) (loc [b2, b3] w3 fun w6 => ∃ t20 : Int, w6.cell? (r0.add 1) = some (.i t20) ∧ 
  stV w6 (r0.add 1) (.i (IntKind.wrap .i64 (t20 + 1))) fun w7 => kept [b2, b3] w6 w7 ∧ 
  S0T b2 0 (ByteArray.mk #[]) 0 b3 t13_0 t13_1 t13_2 w7 R) (loc [b2, b3] w3 fun w6 => S0T b2 0 (ByteArray.mk #[]) 0 b3 t13_0 t13_1 t13_2 w6 R)) : Calls Tryz.prog n_parse_reader_next #[.pointer (some r0)] w R := callsX X [eS0] h
end parse_reader_next
namespace parse_reader_need
noncomputable abbrev X : Fx := ⟨Tryz.prog, Tryz.f25, [], [4, 5]⟩
abbrev P0 : Ps := [(4, .l [.I, .st, .I] ty_lexer_Token), (5, .l [.I, .st, .I] ty_lexer_Token)]
abbrev S0T (t4 : Nat) (t4_0 : Int) (t4_1 : ByteArray) (t4_2 : Int) (t5 : Nat) (t5_0 : Int) (t5_1 : ByteArray) (t5_2 : Int) (w : World) (R : Post) : Prop :=
  loc [t4, t5] w fun w3 => R (.returned (.agg #[.i t5_0, .string t5_1, .i t5_2])) w3
noncomputable def eS0 := entS X [] (pth [3]) P0 S0T
theorem okT (r0 : Addr) (kind1 : Int) (w : World) (R : Post) (h : newV [] w fun b4 w1 => 
  cf21 [b4] n_parse_reader_next #[.pointer (some r0)] w1 fun t7_0 t7_1 t7_2 w2 => newV [b4] w2 fun b5 w3 => 
  sel (t7_0 != kind1) (loc [b4, b5] w3 fun w6 => cf4 [b4, b5] n_parse_reader_unexpected #[.pointer (some r0), .agg #[.i t7_0, .string t7_1, .i t7_2]] w6 fun w7 => S0T b4 0 (ByteArray.mk #[]) 0 b5 t7_0 t7_1 t7_2 w7 R) (loc [b4, b5] w3 fun w6 => S0T b4 0 (ByteArray.mk #[]) 0 b5 t7_0 t7_1 t7_2 w6 R)) : Calls Tryz.prog n_parse_reader_need #[.pointer (some r0), .i kind1] w R := callsX X [eS0] h
end parse_reader_need
namespace parse_reader_name
noncomputable abbrev X : Fx := ⟨Tryz.prog, Tryz.f49, [(1,ls [0,1,2,3,4,5,6,7,8,9,10,11]), (4,ls [0,1,2,3,4,5,6,7,8,9,10,11])], [3, 9]⟩
abbrev P0 : Ps := [(0, .v [.r]), (9, .l [.s, .I, .I] ty_parse_macro)]
abbrev S1T (r0 : Addr) (m9 : Nat) (m9_0 : Sl) (m9_1 m9_2 : Int) (w : World) (R : Post) : Prop :=
  cf1 [m9] n_parse_reader_body #[.pointer (some r0), .agg #[m9_0.v, .i m9_1, .i m9_2], .slice none 0 0] w fun t55 w1 => R (.returned (.i t55)) w1
noncomputable def eS1 := entS X [] (pth [5]) P0 S1T
abbrev P1 : Ps := [(0, .v [.r]), (3, .l [.I, .st, .I] ty_lexer_Token), (9, .l [.s, .I, .I] ty_parse_macro)]
abbrev S0T (r0 : Addr) (t3 : Nat) (t3_0 : Int) (t3_1 : ByteArray) (t3_2 : Int) (m9 : Nat) (m9_0 : Sl) (m9_1 m9_2 : Int) (w : World) (R : Post) : Prop :=
  cf4 [t3, m9] n_parse_reader_fail #[.pointer (some r0), .i 6, .agg #[.i t3_0, .string t3_1, .i t3_2]] w fun w1 => S1T r0 m9 m9_0 m9_1 m9_2 w1 R
noncomputable def eS0 := entS X [eS1] (pth [0, 1, 1, 1, 4]) P1 S0T
theorem okT (r0 : Addr) (t1_0 : Int) (t1_1 : ByteArray) (t1_2 : Int) (w : World) (R : Post) (h : newV [] w fun b3 w1 => 
  loc [b3] w1 fun w2 => ∃ t15 : Option Nat, w2.cell? (r0.add 7) = some (.map t15) ∧ 
  ∃ t18_0 : Int, ∃ t18_1 : Bool, Sem.run Tryz.prog (Instr.lookup ty_map_string_int (.map t15) (.string t1_1) true) w2 = .ok (.tuple #[.i t18_0, .bool t18_1]) w2 ∧ sel t18_1 (R (.returned (.i t18_0)) w2) (loc [b3] w2 fun w3 => ∃ t27 : Option Nat, w3.cell? (r0.add 5) = some (.map t27) ∧ 
  ∃ t30_0 : Int, ∃ t30_1 : Bool, Sem.run Tryz.prog (Instr.lookup ty_map_string_int (.map t27) (.string t1_1) true) w3 = .ok (.tuple #[.i t30_0, .bool t30_1]) w3 ∧ sel t30_1 (R (.returned (.i t30_0)) w3) (cf22 [b3] n_parse_reader_macro #[.pointer (some r0), .string t1_1] w3 fun t39_0_0 t39_0_1 t39_0_2 t39_1 w4 => newV [b3] w4 fun b9 w5 => 
  sel (!t39_1) (loc [b3, b9] w5 fun w8 => S0T r0 b3 t1_0 t1_1 t1_2 b9 t39_0_0 t39_0_1 t39_0_2 w8 R) (sel (decide (((t39_0_0.n : Nat) : Int) > 0)) (loc [b3, b9] w5 fun w8 => S0T r0 b3 t1_0 t1_1 t1_2 b9 t39_0_0 t39_0_1 t39_0_2 w8 R) (loc [b3, b9] w5 fun w8 => S1T r0 b9 t39_0_0 t39_0_1 t39_0_2 w8 R))))) : Calls Tryz.prog n_parse_reader_name #[.pointer (some r0), .agg #[.i t1_0, .string t1_1, .i t1_2]] w R := callsX X [eS0, eS1] h
end parse_reader_name
namespace parse_reader_add
noncomputable abbrev X : Fx := ⟨Tryz.prog, Tryz.f51, [(1,(.sq [0,1,2,3,4] (.fork (ls [5,6,7,8,9,10,11,12,13]) (ls [10,5,6,7,8,9,11,12,13]))))], [4, 5, 7]⟩
abbrev P0 : Ps := [(0, .v [.r]), (7, .l [.s] ty_term_Graph), (8, .v [.I])]
abbrev S1T (r0 : Addr) (g7 : Nat) (g7_0 : Sl) (i8 : Int) (w : World) (R : Post) : Prop :=
  stV w (r0.add 2) (g7_0.v) fun w1 => kept [g7] w w1 ∧ 
  R (.returned (.i i8)) w1
noncomputable def eS1 := entS X [] (pth [3]) P0 S1T
abbrev P1 : Ps := [(0, .v [.r]), (5, .l [.I, .st, .I] ty_lexer_Token), (7, .l [.s] ty_term_Graph), (8, .v [.I]), (9, .v [.I])]
abbrev S0T (r0 : Addr) (t5 : Nat) (t5_0 : Int) (t5_1 : ByteArray) (t5_2 : Int) (g7 : Nat) (g7_0 : Sl) (i8 e9 : Int) (w : World) (R : Post) : Prop :=
  sel (e9 != 0) (cf4 [t5, g7] n_parse_reader_fail #[.pointer (some r0), .i e9, .agg #[.i t5_0, .string t5_1, .i t5_2]] w fun w1 => S1T r0 g7 g7_0 i8 w1 R) (S1T r0 g7 g7_0 i8 w R)
noncomputable def eS0 := entS X [eS1] (pth [2]) P1 S0T
theorem okT (r0 : Addr) (n1_0 : Int) (n1_1 : Sl) (n1_2 n1_3 n1_4 : Int) (n1_5 : ByteArray) (n1_6 n1_7 n1_8 t2_0 : Int) (t2_1 : ByteArray) (t2_2 : Int) (w : World) (R : Post) (h : newV [] w fun b4 w1 => 
  newV [b4] w1 fun b5 w2 => 
  loc [b4, b5] w2 fun w3 => ∃ t14_0 : Sl, w3.cell? ((r0.add 2).add 0) = some (t14_0.v) ∧ 
  ((cf23 [b4, b5] n_term_Add #[.agg #[t14_0.v], .agg #[.i n1_0, n1_1.v, .i n1_2, .i n1_3, .u n1_4, .string n1_5, .i n1_6, .i n1_7, .i n1_8]] w3 fun t16_0_0 t16_1 t16_2 w4 => newV [b4, b5] w4 fun b7 w5 => 
  loc [b4, b5, b7] w5 fun w6 => S0T r0 b5 t2_0 t2_1 t2_2 b7 t16_0_0 t16_1 t16_2 w6 R) ∧ (newV [b4, b5] w3 fun b7_ w7 => 
  w7.cell? ((r0.add 2).add 0) = some (t14_0.v) ∧ cf23 [b4, b5, b7_] n_term_Add #[.agg #[t14_0.v], .agg #[.i n1_0, n1_1.v, .i n1_2, .i n1_3, .u n1_4, .string n1_5, .i n1_6, .i n1_7, .i n1_8]] w7 fun t16_x1_0_0 t16_x1_1 t16_x1_2 w8 => loc [b4, b5, b7_] w8 fun w9 => S0T r0 b5 t2_0 t2_1 t2_2 b7_ t16_x1_0_0 t16_x1_1 t16_x1_2 w9 R))) : Calls Tryz.prog n_parse_reader_add #[.pointer (some r0), .agg #[.i n1_0, n1_1.v, .i n1_2, .i n1_3, .u n1_4, .string n1_5, .i n1_6, .i n1_7, .i n1_8], .agg #[.i t2_0, .string t2_1, .i t2_2]] w R := callsX X [eS0, eS1] h
end parse_reader_add
namespace parse_reader_node
noncomputable abbrev X : Fx := ⟨Tryz.prog, Tryz.f76, [(4,ls [0,1,2,3,4,5,6,7,8,9,10,11,12,13,14,15,16]), (32,ls [0,1,2,3,4,5,6,7])], [4, 5]⟩
abbrev P0 : Ps := [(0, .v [.r]), (4, .l [.I, .s, .I, .I, .U, .st, .I, .I, .I] ty_api_Node), (5, .l [.I, .s, .I, .I, .U, .st, .I, .I, .I] ty_api_Node), (74, .v [.I]), (75, .v [.I])]
def L1T (r0 : Addr) (t4 : Nat) (t4_0 : Int) (t4_1 : Sl) (t4_2 t4_3 t4_4 : Int) (t4_5 : ByteArray) (t4_6 t4_7 t4_8 : Int) (n5 : Nat) (n5_0 : Int) (n5_1 : Sl) (n5_2 n5_3 n5_4 : Int) (n5_5 : ByteArray) (n5_6 n5_7 n5_8 t74 t75 : Int) (w : World) (R : Post) : Prop := mkCur P0 0 (X.Sem (pth [0, 1, 1, 1, 4])) r0 t4 t4_0 t4_1 t4_2 t4_3 t4_4 t4_5 t4_6 t4_7 t4_8 n5 n5_0 n5_1 n5_2 n5_3 n5_4 n5_5 n5_6 n5_7 n5_8 t74 t75 w R
noncomputable def eL1 := entL X (pth [0, 1, 1, 1, 4]) P0 L1T
theorem L1T_step : ∀ (r0 : Addr) (t4 : Nat) (t4_0 : Int) (t4_1 : Sl) (t4_2 t4_3 t4_4 : Int) (t4_5 : ByteArray) (t4_6 t4_7 t4_8 : Int) (n5 : Nat) (n5_0 : Int) (n5_1 : Sl) (n5_2 n5_3 n5_4 : Int) (n5_5 : ByteArray) (n5_6 n5_7 n5_8 t74 t75 : Int) (w : World) (R : Post) (h : sel (decide (t75 < t74)) (loc [t4, n5] w fun w1 => cf1 [t4, n5] n_parse_reader_term #[.pointer (some r0)] w1 fun t80 w2 => nwV w2 (.cells #[.i t80] ty_int) fun w3 => 
  ∃ (t82 : Sl) (w4 : World), Sem.run Tryz.prog (Builtin.append_ #[ty_sl_int, ty_sl_int] ty_sl_int #[n5_1.v, .slice (some (nb w2)) 1 1]) w3 = .ok (t82.v) w4 ∧ kept [t4, n5] w3 w4 ∧ loc [t4, n5] w4 fun w5 => L1T r0 t4 t4_0 t4_1 t4_2 t4_3 t4_4 t4_5 t4_6 t4_7 t4_8 n5 n5_0 t82 n5_2 n5_3 n5_4 n5_5 n5_6 n5_7 n5_8 t74 (IntKind.wrap .i64 (t75 + 1)) w5 R) (loc [t4, n5] w fun w14 => R (.returned (.agg #[.i n5_0, n5_1.v, .i n5_2, .i n5_3, .u n5_4, .string n5_5, .i n5_6, .i n5_7, .i n5_8])) w14)), L1T r0 t4 t4_0 t4_1 t4_2 t4_3 t4_4 t4_5 t4_6 t4_7 t4_8 n5 n5_0 n5_1 n5_2 n5_3 n5_4 n5_5 n5_6 n5_7 n5_8 t74 t75 w R := mp (stepL (X := X) [eL1] (pth [0, 1, 1, 1, 4]) P0)
abbrev P1 : Ps := [(0, .v [.r]), (4, .l [.I, .s, .I, .I, .U, .st, .I, .I, .I] ty_api_Node), (5, .l [.I, .s, .I, .I, .U, .st, .I, .I, .I] ty_api_Node), (6, .v [.I])]
abbrev S0T (r0 : Addr) (t4 : Nat) (t4_0 : Int) (t4_1 : Sl) (t4_2 t4_3 t4_4 : Int) (t4_5 : ByteArray) (t4_6 t4_7 t4_8 : Int) (n5 : Nat) (n5_0 : Int) (n5_1 : Sl) (n5_2 n5_3 n5_4 : Int) (n5_5 : ByteArray) (n5_6 n5_7 n5_8 kids6 : Int) (w : World) (R : Post) : Prop :=
  L1T r0 t4 t4_0 t4_1 t4_2 t4_3 t4_4 t4_5 t4_6 t4_7 t4_8 n5 n5_0 n5_1 n5_2 n5_3 n5_4 n5_5 n5_6 n5_7 n5_8 kids6 0 w R
noncomputable def eS0 := entS X [eL1] (pth [4]) P1 S0T
theorem okT (r0 : Addr) (word1 : ByteArray) (w : World) (R : Post) (h : newV [] w fun b4 w1 => 
  newV [b4] w1 fun b5 w2 => 
  sel (word1.toList == (ByteArray.mk #[110, 117, 109]).toList) (loc [b4, b5] w2 fun w12 => cf1 [b4, b5] n_parse_reader_integer #[.pointer (some r0)] w12 fun t28 w13 => loc [b4, b5] w13 fun w14 => cf1 [b4, b5] n_parse_reader_integer #[.pointer (some r0)] w14 fun t32 w15 => loc [b4, b5] w15 fun w18 => S0T r0 b4 0 ⟨none, 0, 0⟩ 0 0 0 (ByteArray.mk #[]) 0 0 0 b5 1 ⟨none, 0, 0⟩ 0 0 (IntKind.wrap .u64 t28) (ByteArray.mk #[]) 0 t32 0 0 w18 R) (sel (word1.toList == (ByteArray.mk #[122, 101, 114, 111]).toList) (loc [b4, b5] w2 fun w19 => cf13 [b4, b5] n_parse_reader_sort #[.pointer (some r0)] w19 fun t39_0 t39_1 t39_2 w20 => loc [b4, b5] w20 fun w23 => S0T r0 b4 0 ⟨none, 0, 0⟩ 0 0 0 (ByteArray.mk #[]) 0 0 0 b5 3 ⟨none, 0, 0⟩ 0 0 0 (ByteArray.mk #[]) t39_0 t39_1 t39_2 0 w23 R) (sel (word1.toList == (ByteArray.mk #[101, 120, 116, 114, 97, 99, 116]).toList) (loc [b4, b5] w2 fun w24 => cf1 [b4, b5] n_parse_reader_integer #[.pointer (some r0)] w24 fun t45 w25 => loc [b4, b5] w25 fun w26 => cf1 [b4, b5] n_parse_reader_integer #[.pointer (some r0)] w26 fun t48 w27 => loc [b4, b5] w27 fun w28 => S0T r0 b4 0 ⟨none, 0, 0⟩ 0 0 0 (ByteArray.mk #[]) 0 0 0 b5 21 ⟨none, 0, 0⟩ t45 t48 0 (ByteArray.mk #[]) 0 0 0 1 w28 R) (sel (word1.toList == (ByteArray.mk #[122, 101, 120, 116]).toList) (loc [b4, b5] w2 fun w29 => cf1 [b4, b5] n_parse_reader_integer #[.pointer (some r0)] w29 fun t54 w30 => loc [b4, b5] w30 fun w31 => S0T r0 b4 0 ⟨none, 0, 0⟩ 0 0 0 (ByteArray.mk #[]) 0 0 0 b5 22 ⟨none, 0, 0⟩ t54 0 0 (ByteArray.mk #[]) 0 0 0 1 w31 R) (sel (word1.toList == (ByteArray.mk #[115, 101, 120, 116]).toList) (loc [b4, b5] w2 fun w32 => cf1 [b4, b5] n_parse_reader_integer #[.pointer (some r0)] w32 fun t60 w33 => loc [b4, b5] w33 fun w34 => S0T r0 b4 0 ⟨none, 0, 0⟩ 0 0 0 (ByteArray.mk #[]) 0 0 0 b5 23 ⟨none, 0, 0⟩ t60 0 0 (ByteArray.mk #[]) 0 0 0 1 w34 R) (sel (word1.toList == (ByteArray.mk #[98, 121, 116, 101]).toList) (loc [b4, b5] w2 fun w35 => cf1 [b4, b5] n_parse_reader_integer #[.pointer (some r0)] w35 fun t66 w36 => loc [b4, b5] w36 fun w37 => S0T r0 b4 0 ⟨none, 0, 0⟩ 0 0 0 (ByteArray.mk #[]) 0 0 0 b5 28 ⟨none, 0, 0⟩ t66 0 0 (ByteArray.mk #[]) 0 0 0 1 w37 R) (sel (word1.toList == (ByteArray.mk #[105, 110]).toList) (loc [b4, b5] w2 fun w38 => cf16 [b4, b5] n_parse_reader_regex #[.pointer (some r0)] w38 fun t72 w39 => loc [b4, b5] w39 fun w40 => S0T r0 b4 0 ⟨none, 0, 0⟩ 0 0 0 (ByteArray.mk #[]) 0 0 0 b5 33 ⟨none, 0, 0⟩ 0 0 0 t72 0 0 0 1 w40 R) (loc [b4, b5] w2 fun w41 => ∃ t12 : Option Nat, w41.cell? (r0.add 4) = some (.map t12) ∧ 
  ∃ t14_0 : Int, ∃ t14_1 : Int, Sem.run Tryz.prog (Instr.lookup ty_map_string_parse_operation (.map t12) (.string word1) false) w41 = .ok (.agg #[.i t14_0, .i t14_1]) w41 ∧ ∃ t19 : Option Nat, w41.cell? (r0.add 4) = some (.map t19) ∧ 
  ∃ t21_0 : Int, ∃ t21_1 : Int, Sem.run Tryz.prog (Instr.lookup ty_map_string_parse_operation (.map t19) (.string word1) false) w41 = .ok (.agg #[.i t21_0, .i t21_1]) w41 ∧ loc [b4, b5] w41 fun w42 => Sem.run Tryz.prog (Instr.lookup ty_map_string_parse_operation (.map t19) (.string word1) false) w42 = .ok (.agg #[.i t21_0, .i t21_1]) w42 ∧ w42.cell? (r0.add 4) = some (.map t19) ∧ S0T r0 b4 0 ⟨none, 0, 0⟩ 0 0 0 (ByteArray.mk #[]) 0 0 0 b5 t14_0 ⟨none, 0, 0⟩ 0 0 0 (ByteArray.mk #[]) 0 0 0 t21_1 w42 R)))))))) : Calls Tryz.prog n_parse_reader_node #[.pointer (some r0), .string word1] w R := callsX X [eS0, eL1] h
end parse_reader_node
namespace parse_reader_compound
noncomputable abbrev X : Fx := ⟨Tryz.prog, Tryz.f52, [], [3, 6, 7]⟩
abbrev P0 : Ps := [(0, .v [.r]), (5, .v [.I])]
abbrev S1T (r0 : Addr) (n5 : Int) (w : World) (R : Post) : Prop :=
  ∃ t46 : Int, w.cell? (r0.add 9) = some (.i t46) ∧ 
  stV w (r0.add 9) (.i (IntKind.wrap .i64 (t46 - 1))) fun w1 => 
  R (.returned (.i n5)) w1
noncomputable def eS1 := entS X [] (pth [6]) P0 S1T
abbrev P1 : Ps := [(0, .v [.r]), (3, .l [.I, .st, .I] ty_lexer_Token)]
abbrev S0T (r0 : Addr) (t3 : Nat) (t3_0 : Int) (t3_1 : ByteArray) (t3_2 : Int) (w : World) (R : Post) : Prop :=
  ∃ t19 : Int, w.cell? (r0.add 9) = some (.i t19) ∧ 
  stV w (r0.add 9) (.i (IntKind.wrap .i64 (t19 + 1))) fun w1 => kept [t3] w w1 ∧ 
  cf21 [t3] n_parse_reader_need #[.pointer (some r0), .i 2] w1 fun t24_0 t24_1 t24_2 w2 => newV [t3] w2 fun b6 w3 => 
  loc [t3, b6] w3 fun w6 => cf0 [t3, b6] n_parse_reader_isOperation #[.pointer (some r0), .string t24_1] w6 fun t28 w7 => sel t28 (cf24 [t3, b6] n_parse_reader_node #[.pointer (some r0), .string t24_1] w7 fun t32_0 t32_1 t32_2 t32_3 t32_4 t32_5 t32_6 t32_7 t32_8 w8 => newV [t3, b6] w8 fun b7 w9 => 
  loc [t3, b6, b7] w9 fun w18 => cf21 [t3, b6, b7] n_parse_reader_need #[.pointer (some r0), .i 1] w18 fun t34_0 t34_1 t34_2 w19 => cf1 [t3, b6, b7] n_parse_reader_add #[.pointer (some r0), .agg #[.i t32_0, t32_1.v, .i t32_2, .i t32_3, .u t32_4, .string t32_5, .i t32_6, .i t32_7, .i t32_8], .agg #[.i t3_0, .string t3_1, .i t3_2]] w19 fun t38 w20 => S1T r0 t38 w20 R) (cf1 [t3, b6] n_parse_reader_call #[.pointer (some r0), .agg #[.i t3_0, .string t3_1, .i t3_2], .agg #[.i t24_0, .string t24_1, .i t24_2]] w7 fun t42 w21 => S1T r0 t42 w21 R)
noncomputable def eS0 := entS X [eS1] (pth [2]) P1 S0T
theorem okT (r0 : Addr) (t1_0 : Int) (t1_1 : ByteArray) (t1_2 : Int) (w : World) (R : Post) (h : newV [] w fun b3 w1 => 
  ∃ t11 : Int, w1.cell? (r0.add 9) = some (.i t11) ∧ 
  sel (decide (t11 ≥ 64)) (cf4 [b3] n_parse_reader_fail #[.pointer (some r0), .i 4, .agg #[.i t1_0, .string t1_1, .i t1_2]] w1 fun w2 => S0T r0 b3 t1_0 t1_1 t1_2 w2 R) (S0T r0 b3 t1_0 t1_1 t1_2 w1 R)) : Calls Tryz.prog n_parse_reader_compound #[.pointer (some r0), .agg #[.i t1_0, .string t1_1, .i t1_2]] w R := callsX X [eS0, eS1] h
end parse_reader_compound
namespace parse_reader_term
noncomputable abbrev X : Fx := ⟨Tryz.prog, Tryz.f24, [], [3]⟩
abbrev P0 : Ps := [(0, .v [.r]), (3, .l [.I, .st, .I] ty_lexer_Token)]
abbrev S1T (r0 : Addr) (t3 : Nat) (t3_0 : Int) (t3_1 : ByteArray) (t3_2 : Int) (w : World) (R : Post) : Prop :=
  ∃ t27 : Int, w.cell? (r0.add 10) = some (.i t27) ∧ 
  stV w (r0.add 10) (.i (IntKind.wrap .i64 (t27 + 1))) fun w1 => kept [t3] w w1 ∧ 
  sel (t3_0 == 2) (cf1 [t3] n_parse_reader_name #[.pointer (some r0), .agg #[.i t3_0, .string t3_1, .i t3_2]] w1 fun t37 w2 => R (.returned (.i t37)) w2) (sel (t3_0 == 3) (cf1 [t3] n_parse_reader_number #[.pointer (some r0), .agg #[.i t3_0, .string t3_1, .i t3_2]] w1 fun t42 w3 => R (.returned (.i t42)) w3) (sel (t3_0 == 5) (cf1 [t3] n_parse_reader_add #[.pointer (some r0), .agg #[.i 2, .slice none 0 0, .i 0, .i 0, .u 0, .string t3_1, .i 0, .i 0, .i 0], .agg #[.i t3_0, .string t3_1, .i t3_2]] w1 fun t50 w4 => R (.returned (.i t50)) w4) (cf1 [t3] n_parse_reader_compound #[.pointer (some r0), .agg #[.i t3_0, .string t3_1, .i t3_2]] w1 fun t53 w5 => R (.returned (.i t53)) w5)))
noncomputable def eS1 := entS X [] (pth [4]) P0 S1T
abbrev S0T (r0 : Addr) (t3 : Nat) (t3_0 : Int) (t3_1 : ByteArray) (t3_2 : Int) (w : World) (R : Post) : Prop :=
  ∃ t19 : Int, w.cell? (r0.add 10) = some (.i t19) ∧ 
  sel (decide (t19 ≥ 65536)) (cf4 [t3] n_parse_reader_fail #[.pointer (some r0), .i 4, .agg #[.i t3_0, .string t3_1, .i t3_2]] w fun w1 => S1T r0 t3 t3_0 t3_1 t3_2 w1 R) (S1T r0 t3 t3_0 t3_1 t3_2 w R)
noncomputable def eS0 := entS X [eS1] (pth [3]) P0 S0T
abbrev S2T (r0 : Addr) (t3 : Nat) (t3_0 : Int) (t3_1 : ByteArray) (t3_2 : Int) (w : World) (R : Post) : Prop :=
  cf4 [t3] n_parse_reader_unexpected #[.pointer (some r0), .agg #[.i t3_0, .string t3_1, .i t3_2]] w fun w1 => S0T r0 t3 t3_0 t3_1 t3_2 w1 R
noncomputable def eS2 := entS X [eS0, eS1] (pth [2, 1, 1, 1, 2]) P0 S2T
theorem okT (r0 : Addr) (w : World) (R : Post) (h : ca21 n_parse_reader_next #[.pointer (some r0)] w fun t5_0 t5_1 t5_2 w1 => newV [] w1 fun b3 w2 => 
  sel (t5_0 == 2) (sel (t5_0 == 2) (loc [b3] w2 fun w5 => S0T r0 b3 t5_0 t5_1 t5_2 w5 R) (loc [b3] w2 fun w5 => S2T r0 b3 t5_0 t5_1 t5_2 w5 R)) (sel (t5_0 == 3) (sel (t5_0 == 3) (loc [b3] w2 fun w5 => S0T r0 b3 t5_0 t5_1 t5_2 w5 R) (loc [b3] w2 fun w5 => S2T r0 b3 t5_0 t5_1 t5_2 w5 R)) (sel (t5_0 == 5) (sel (t5_0 == 5) (loc [b3] w2 fun w5 => S0T r0 b3 t5_0 t5_1 t5_2 w5 R) (loc [b3] w2 fun w5 => S2T r0 b3 t5_0 t5_1 t5_2 w5 R)) (sel (t5_0 == 0) (loc [b3] w2 fun w5 => S0T r0 b3 t5_0 t5_1 t5_2 w5 R) (loc [b3] w2 fun w5 => S2T r0 b3 t5_0 t5_1 t5_2 w5 R))))) : Calls Tryz.prog n_parse_reader_term #[.pointer (some r0)] w R := callsX X [eS2, eS0, eS1] h
end parse_reader_term
namespace parse_Term_1
noncomputable abbrev X : Fx := ⟨Tryz.prog, Tryz.f23, [], []⟩
theorem ok (t0 t1 : Addr) (w : World) (R : Post) (h : ∃ t2 : Option Addr, w.cell? t0 = some (.pointer t2) ∧ 
  ca1 n_parse_reader_term #[.pointer t2] w fun t3 w1 => stV w1 t1 (.i t3) fun w2 => 
  ∃ t4 : Option Addr, w2.cell? t0 = some (.pointer t4) ∧ 
  ca21 n_parse_reader_need #[.pointer t4, .i 6] w2 fun t5_0 t5_1 t5_2 w3 => R (.returned (.tuple #[])) w3) : Calls Tryz.prog n_parse_Term_1 #[.pointer (some t0), .pointer (some t1)] w R := callsX X [] h
end parse_Term_1
namespace parse_Term
noncomputable abbrev X : Fx := ⟨Tryz.prog, Tryz.f8, [(9,ls [0,1,2,3,4,5,6,7,8])], [2, 4]⟩
theorem okT (g0_0 : Sl) (s1 : ByteArray) (w : World) (R : Post) (h : newV [] w fun b2 w1 => 
  newV [b2] w1 fun b4 w2 => 
  cf25 [b2, b4] n_lexer_Tokens #[.string s1] w2 fun t15_0 t15_1 t15_2 w3 => sel (t15_2 != 0) (loc [b2, b4] w3 fun w4 => R (.returned (.tuple #[.agg #[.slice none 0 0], .i 0, .i t15_1, .i t15_2])) w4) (cf9 [b2, b4] n_parse_newReader #[t15_0.v, .agg #[g0_0.v]] w3 fun t26 w5 => nwV w5 (.cells #[.pointer none] ty_p_parse_reader) fun w6 => 
  stV w6 (nb w5) (.pointer t26) fun w7 => kept [b2, b4] w6 w7 ∧ 
  nwV w7 (.cells #[.i 0] ty_int) fun w8 => 
  stV w8 (nb w7) (.i 0) fun w9 => kept [b2, b4] w8 w9 ∧ 
  ∃ t28 : Option Addr, w9.cell? (nb w5) = some (.pointer t28) ∧ 
  cf5 [b2, b4] n_parse_reader_run #[.pointer t28, .func (.func n_parse_Term_1) #[] #[.pointer (some (nb w5)), .pointer (some (nb w7))]] w9 fun t30_0 t30_1 w10 => sel (t30_1 != 0) (loc [b2, b4] w10 fun w11 => R (.returned (.tuple #[.agg #[.slice none 0 0], .i 0, .i t30_0, .i t30_1])) w11) (loc [b2, b4] w10 fun w12 => ∃ t38 : Option Addr, w12.cell? (nb w5) = some (.pointer t38) ∧ 
  optP t38 fun t39_p => ∃ t41_0 : Sl, w12.cell? ((t39_p.add 2).add 0) = some (t41_0.v) ∧ 
  ∃ t42 : Int, w12.cell? (nb w7) = some (.i t42) ∧ 
  loc [b2, b4] w12 fun w13 => w13.cell? (nb w7) = some (.i t42) ∧ R (.returned (.tuple #[.agg #[t41_0.v], .i t42, .i 0, .i 0])) w13))) : Calls Tryz.prog n_parse_Term #[.agg #[g0_0.v], .string s1] w R := callsX X [] h
end parse_Term
end Go.Proofs.YtibaobaobnpdaaaGreatDoor
set_option maxRecDepth 100000
set_option maxHeartbeats 1000000
namespace Go.Proofs.YtibaobaobnpdaaaGreatDoor
open Go Go.W

/-! ### The tokens of a chain -/
def chK : Nat → Nat → List Tok
  | 0, i => [⟨2, [120], i⟩]
  | k + 1, i => ⟨0, [], i⟩ :: ⟨2, [110, 111, 116], i + 1⟩ :: (chK k (i + 5) ++ [⟨1, [], i + 5 + (6 * k + 1)⟩])
theorem ch_len : ∀ k i : Nat, (chK k i).length = 3 * k + 1
  | 0, _ => rfl
  | k + 1, i => by unfold chK; simp [ch_len k]; omega
theorem ch_58 : tokens (txL (ba [120]) false 58) = .ok (chK 58 0 ++ [⟨6, [], 6 * 58 + 1⟩]) := by kernel_rfl
theorem ch_59 : tokens (txL (ba [120]) false 59) = .ok (chK 59 0 ++ [⟨6, [], 6 * 59 + 1⟩]) := by kernel_rfl
theorem ch_60 : tokens (txL (ba [120]) false 60) = .ok (chK 60 0 ++ [⟨6, [], 6 * 60 + 1⟩]) := by kernel_rfl
theorem ch_61 : tokens (txL (ba [120]) false 61) = .ok (chK 61 0 ++ [⟨6, [], 6 * 61 + 1⟩]) := by kernel_rfl
theorem ch_62 : tokens (txL (ba [120]) false 62) = .ok (chK 62 0 ++ [⟨6, [], 6 * 62 + 1⟩]) := by kernel_rfl
theorem ch_63 : tokens (txL (ba [120]) false 63) = .ok (chK 63 0 ++ [⟨6, [], 6 * 63 + 1⟩]) := by kernel_rfl
theorem ch_64 : tokens (txL (ba [120]) false 64) = .ok (chK 64 0 ++ [⟨6, [], 6 * 64 + 1⟩]) := by kernel_rfl
theorem ch_tokens {n : Nat} (h1 : 58 ≤ n) (h2 : n ≤ 64) : tokens (txL (ba [120]) false n) = .ok (chK n 0 ++ [⟨6, [], 6 * n + 1⟩]) := by
  have : n = 58 ∨ n = 59 ∨ n = 60 ∨ n = 61 ∨ n = 62 ∨ n = 63 ∨ n = 64 := by omega
  rcases this with rfl | rfl | rfl | rfl | rfl | rfl | rfl
  · exact ch_58
  · exact ch_59
  · exact ch_60
  · exact ch_61
  · exact ch_62
  · exact ch_63
  · exact ch_64
/-! ### The reader -/
theorem tokC_len (t : Tok) : (tokC t).length = 3 := rfl
abbrev tokV (t : Tok) : Value := .agg #[.i t.kind, .string (ba t.text), .i (t.at' : Int)]
structure TkC (w : World) (p : Addr) (t : Tok) : Prop where
  c0 : w.cell? (p.add 0) = some (.i t.kind)
  c1 : w.cell? (p.add 1) = some (.string (ba t.text))
  c2 : w.cell? (p.add 2) = some (.i (t.at' : Int))
theorem tk_at {w : World} {s : Sl} {l : List Tok} (h : RdN 3 w s (toksC l)) {i : Nat} {d : Tok} {X : Int} (hX : X = (i : Int)) (hi : l[i]? = some d) {K : Addr → Prop} (hk : ∀ p, s.a = some p → TkC w (p.add (Int.toNat X * 3)) d → K p) : (0 : Int) ≤ X ∧ X < ((s.n : Nat) : Int) ∧ optP s.a K := by
  have hn := h.1
  unfold toksC at hn
  rw [flat_length tokC 3 tokC_len] at hn
  have hl := (List.getElem?_eq_some_iff.1 hi).1
  subst hX
  exact ⟨by omega, by omega, CRow.elem (f := tokC) (sz := 3) tokC_len (by omega) h.2.2 hi fun p hp hc => hk p hp ⟨hc 0 _ rfl, hc 1 _ rfl, hc 2 _ rfl⟩⟩
theorem tk_again {w : World} {s : Sl} {l : List Tok} (h : RdN 3 w s (toksC l)) {i : Nat} {d : Tok} {X : Int} (hX : X = (i : Int)) (hi : l[i]? = some d) {p : Addr} (hp : s.a = some p) : TkC w (p.add (Int.toNat X * 3)) d := by
  obtain ⟨_, _, hk⟩ := tk_at h hX hi (K := fun q => ∃ q', s.a = some q' ∧ TkC w (q'.add (Int.toNat X * 3)) d) (fun q hq hc => ⟨q, hq, hc⟩)
  rw [hp] at hk
  obtain ⟨q, hq, e⟩ := hk
  cases hq
  exact e
/-- what a reader holds -/
abbrev rxC (tk g : Sl) (mo mv mm : Nat) (at' dp tm : Nat) : List Value := [tk.v, .i (at' : Int), g.v, .slice none 0 0, .map (some mo), .map (some mv), .map (some mm), .map none, .i 9223372036854775807, .i (dp : Int), .i (tm : Int)]
abbrev rxE (rb : Nat) (tk g : Sl) (mo mv mm at' dp tm : Nat) : En := .c rb (rxC tk g mo mv mm at' dp tm) ty_parse_reader
abbrev rxD (tk g : Sl) (l : List Nd) (T : List Tok) (mo mv : Nat) (eo ev : Array MapEntry) (co cv : Nat) : List En := [.gr g l, kcE, .rdn 3 tk (toksC T), .ob mo (.map eo co), .ob mv (.map ev cv)]
/-- a call that returns a value and leaves the reader at another place -/
def RxAt (w : World) (rb : Nat) (e : En) (v : Value) (r : Ending) (w' : World) : Prop := r = .returned v ∧ e.P w' ∧ Fr (· ∈ [rb]) w w'
section
variable {tk g : Sl} {l : List Nd} {T : List Tok} {rb mo mv mm : Nat} {eo ev : Array MapEntry} {co cv at' dp tm : Nat}
def RxH (w : World) (rb : Nat) (D : List En) : Prop := ∀ e ∈ D, e.P w ∧ ∀ x ∈ e.fp, x ≠ rb
theorem rx_start {w : World} {e : En} {D : List En} (he : e.fp = [rb]) (h : e.P w) (hD : RxH w rb D) : LH (· ∈ [rb]) w w [e] D :=
  LH.start' _ _ (fun e' h' => by
    rw [List.mem_singleton.1 h']
    exact ⟨h, fun x hx => he ▸ hx⟩) (by simp [he]) (fun e' h' => ⟨(hD e' h').1, fun x hx e2 h2 hm => by
      rw [List.mem_singleton.1 h2, he, List.mem_singleton] at hm
      exact (hD e' h').2 x hx hm⟩)
theorem rx_hD {M : Nat → Prop} {w0 w : World} {L D : List En} (H : LH M w0 w L D) {i : Nat} {e : En} (hi : L[i]? = some e) (he : e.fp = [rb]) : RxH w rb D := fun d hd => ⟨H.rd d hd, fun x hx hr => H.dj d hd x hx e (List.mem_of_getElem? hi) (by rw [he, hr]; simp)⟩
/-- a method of the reader, among the steps of another one -/
theorem rx_callF {M : Nat → Prop} {w0 w : World} {L D : List En} {bs : List Nat} (H : LH M w0 w L D) (i : Nat) {e e' : En} {v : Value} {P : Program} {f : FuncId} {args : Array Value} {K : Post} (hi : L[i]? = some e) (he : e.fp = [rb]) (he' : e'.fp = [rb]) (hc : Calls P f args w (RxAt w rb e' v)) (hk : ∀ w', LH M w0 w' (L.set i e') D → K (.returned v) w') (hbs : ∀ b ∈ bs, En.g b ∈ L.eraseIdx i := by simp) : callF bs P f args w K :=
  H.ownF i e' (A := fun r => r = .returned v) hi (hc.mono fun r w' ⟨ha, hp, f⟩ => ⟨ha, hp, by rw [he]; exact f⟩) (fun x hx => by rw [he'] at hx; rw [he]; exact hx) (fun r w' ha H' => ha ▸ hk w' H') hbs
theorem rx_call {M : Nat → Prop} {w0 w : World} {L D : List En} (H : LH M w0 w L D) (i : Nat) {e e' : En} {v : Value} {P : Program} {f : FuncId} {args : Array Value} {K : Post} (hi : L[i]? = some e) (he : e.fp = [rb]) (he' : e'.fp = [rb]) (hc : Calls P f args w (RxAt w rb e' v)) (hk : ∀ w', LH M w0 w' (L.set i e') D → K (.returned v) w') : Calls P f args w K :=
  hc.mono fun r w' ⟨ha, hp, f⟩ => ha ▸ hk w' (H.upd i e' hi (by rw [he]; exact f) hp fun x hx => .inl (by rw [he'] at hx; rw [he]; exact hx))
theorem r_next {w : World} {t : Tok} (h : (rxE rb tk g mo mv mm at' dp tm).P w) (hD : RxH w rb (rxD tk g l T mo mv eo ev co cv)) (ht : T[at']? = some t) (hl : T.length ≤ 100000) :
    Calls Tryz.prog n_parse_reader_next #[.pointer (some (at0 rb))] w (RxAt w rb (rxE rb tk g mo mv mm (if t.kind = 6 then at' else at' + 1) dp tm) (tokV t)) := by
  have hal := (List.getElem?_eq_some_iff.1 ht).1
  refine parse_reader_next.okT _ w _ ((rx_start rfl h hD).newg fun b2 w1 H1 => H1.locg fun w2 H2 => ⟨tk, H2.ld 0 0, _, H2.ld 0 1, tk_at (H2.getD 2) rfl ht fun p hp c => ⟨t.kind, ba t.text, t.at', c.c0, c.c1, c.c2, H2.newg fun b3 w3 H3 => ?_⟩⟩)
  have c' := tk_again (H3.getD 2) (X := (at' : Int)) rfl ht hp
  refine ⟨c'.c0, c'.c1, c'.c2, H3.ld 0 1, H3.ld 0 0, sel_ne (fun h6 => H3.locg fun w4 H4 => ⟨_, H4.ld 0 1, H4.stc0 0 1 rfl (fun w5 H5 => H5.locg fun w6 H6 => ⟨rfl, ?_, H6.fr⟩) (by simp)⟩) (fun h6 => H3.locg fun w4 H4 => H4.locg fun w5 H5 => ⟨rfl, ?_, H5.fr⟩)⟩
  · rw [if_neg h6]
    have := H6.get 0
    rw [i64_next _ (by omega)] at this
    exact this
  · rw [if_pos h6]
    exact H5.get 0
theorem r_need {w : World} {t : Tok} {k : Int} (h : (rxE rb tk g mo mv mm at' dp tm).P w) (hD : RxH w rb (rxD tk g l T mo mv eo ev co cv)) (ht : T[at']? = some t) (hl : T.length ≤ 100000) (hk : t.kind = k) :
    Calls Tryz.prog n_parse_reader_need #[.pointer (some (at0 rb)), .i k] w (RxAt w rb (rxE rb tk g mo mv mm (if t.kind = 6 then at' else at' + 1) dp tm) (tokV t)) := by
  refine parse_reader_need.okT _ _ w _ ((rx_start rfl h hD).newg fun b4 w1 H1 => rx_callF H1 0 rfl rfl rfl (r_next (H1.get 0) (rx_hD H1 (i := 0) rfl rfl) ht hl) fun w2 H2 => ⟨_, _, _, rfl, H2.newg fun b5 w3 H3 => sel_ne (fun h => absurd hk h) (fun _ => H3.locg fun w4 H4 => H4.locg fun w5 H5 => ⟨rfl, H5.get 0, H5.fr⟩)⟩)
/-! ### The operations -/
def opsM : List (ByteArray × Value) := [
  (ba [110, 111, 116], .agg #[.i 4, .i 1]), (ba [110, 101, 103], .agg #[.i 5, .i 1]), (ba [97, 110, 100], .agg #[.i 6, .i 2]), (ba [111, 114], .agg #[.i 7, .i 2]), (ba [120, 111, 114], .agg #[.i 8, .i 2]),
  (ba [97, 100, 100], .agg #[.i 9, .i 2]), (ba [109, 117, 108], .agg #[.i 10, .i 2]), (ba [117, 100, 105, 118], .agg #[.i 11, .i 2]), (ba [117, 114, 101, 109], .agg #[.i 12, .i 2]), (ba [115, 104, 108], .agg #[.i 13, .i 2]),
  (ba [108, 115, 104, 114], .agg #[.i 14, .i 2]), (ba [97, 115, 104, 114], .agg #[.i 15, .i 2]), (ba [117, 108, 116], .agg #[.i 16, .i 2]), (ba [115, 108, 116], .agg #[.i 17, .i 2]), (ba [101, 113], .agg #[.i 18, .i 2]),
  (ba [105, 116, 101], .agg #[.i 19, .i 3]), (ba [99, 111, 110, 99, 97, 116], .agg #[.i 20, .i 2]), (ba [115, 101, 108, 101, 99, 116], .agg #[.i 24, .i 2]), (ba [115, 116, 111, 114, 101], .agg #[.i 25, .i 3]), (ba [100, 105, 102, 102], .agg #[.i 26, .i 2]),
  (ba [108, 101, 110], .agg #[.i 27, .i 1]), (ba [99, 97, 116], .agg #[.i 29, .i 2]), (ba [115, 117, 98], .agg #[.i 30, .i 3]), (ba [102, 105, 110, 100], .agg #[.i 31, .i 2]), (ba [114, 101, 112, 108, 97, 99, 101], .agg #[.i 32, .i 3]), (ba [99, 104, 97, 114], .agg #[.i 34, .i 1])]
theorem mo_ops : SMapOk Tryz.prog ty_map_string_parse_operation ty_string ty_parse_operation (.agg #[.i 0, .i 0]) := by
  constructor <;> kernel_rfl
theorem ops_not : sget opsM (ba [110, 111, 116]) = some (.agg #[.i 4, .i 1]) := by kernel_rfl
theorem r_isOp {w : World} (h : (rxE rb tk g mo mv mm at' dp tm).P w) (hD : RxH w rb (rxD tk g l T mo mv eo ev co cv)) (ho : SMapIs eo opsM) :
    Calls Tryz.prog n_parse_reader_isOperation #[.pointer (some (at0 rb)), .string (ba [110, 111, 116])] w fun r w' => r = .returned (.bool true) ∧ Fr0 w w' := by
  have H : LH F0 w w [] (rxE rb tk g mo mv mm at' dp tm :: rxD tk g l T mo mv eo ev co cv) := lh0 _ (by
    intro e he
    rcases List.mem_cons.1 he with rfl | he
    · exact h
    · exact (hD e he).1)
  refine parse_reader_isOperation.okT _ _ w _ ?_
  iterate 7 refine sel_tx (fun h => absurd h (by decide)) (fun _ => ?_)
  refine ⟨_, H.ldD 0 4, 4, 1, true, ?_, H.newg fun b5 w1 H1 => H1.locg fun w2 H2 => ⟨rfl, H2.fr⟩⟩
  have := lookup_str mo_ops (H.getD 4) ho (ba [110, 111, 116])
  rw [ops_not] at this
  exact this
end
end Go.Proofs.YtibaobaobnpdaaaGreatDoor
set_option maxRecDepth 100000
set_option maxHeartbeats 1000000
namespace Go.Proofs.YtibaobaobnpdaaaGreatDoor
open Go Go.W

/-- Add of a node that is there -/
theorem t_AddF {w : World} {s : Sl} {l : List Nd} {d : Nd} {i : Nat} (h : GP w s l) (hd : d.P w) (hk : kcE.P w) (ho : TOk d.x) (hll : l.length ≤ 1000000000) (hv : ∀ e ∈ xs l, validS e.st = true) (hgk : ∀ e ∈ l, e.x.kids.length ≤ 1000000000) {st : Srt} (hs : srtX (xs l) d.x = (st, 0)) (hi : idxX (withS d.x st) (xs l) 0 = some i) :
    Calls Tryz.prog n_term_Add #[.agg #[s.v], d.v] w fun r w' => r = .returned (.tuple #[.agg #[s.v], .i (i : Int), .i 0]) ∧ Fr0 w w' := by
  have H : LH F0 w w [] [.gr s l, kidE d, kcE] := lh0 _ (by
    intro e he
    simp only [List.mem_cons, List.not_mem_nil, or_false] at he
    rcases he with rfl | rfl | rfl
    · exact gr_P.2 h
    · exact hd
    · exact hk)
  refine term_Add.okT _ _ _ _ _ _ _ _ _ _ w _ (H.newg fun b2 w1 H1 => H1.nw fun w2 _ H2 => H2.newg fun b4 w3 H3 => ?_)
  have H3 : LH F0 w w3 [.g b2, .c w1.heap.size d.c ty_api_Node, .g b4] [.gr s l, kidE d, kcE] := H3
  refine ⟨d.x.op, d.ks, d.x.n, d.x.m, d.x.u, d.x.tx, d.x.st.k, d.x.st.n, d.x.st.x, H3.ld 1 0, H3.ld 1 1, H3.ld 1 2, H3.ld 1 3, H3.ld 1 4, H3.ld 1 5, H3.ld 1 6, H3.ld 1 7, H3.ld 1 8, ?_⟩
  refine H3.callg (t_SortOf (gr_P.1 (H3.getD 0)) (H3.getD 1) (H3.getD 2) ho hll hv) ?_
  rintro _ w4 rfl H4
  rw [hs]
  refine ⟨_, _, _, _, rfl, H4.newg fun b7 w5 H5 => sel_ne (fun h0 => absurd rfl h0) (fun h0 => H5.locg fun w6 H6 => ?_)⟩
  refine H6.stc0 1 6 rfl (fun w7 H7 => H7.stc 1 6 1 rfl (fun w8 H8 => H8.stc 1 6 2 rfl (fun w9 H9 => ?_) (by simp [Nd.c])) (by simp [Nd.c])) (by simp [Nd.c])
  let e : Nd := ⟨withS d.x st, d.ks⟩
  have H9 : LH F0 w w9 [.g b2, .c w1.heap.size e.c ty_api_Node, .g b4, .g b7] [.gr s l, kidE d, kcE] := H9
  refine H9.callg (t_search (d := e) (gr_P.1 (H9.getD 0)) (nda_ob (H9.ob 1)) (H9.getD 1) hll hgk) ?_
  rintro _ w10 rfl H10
  refine ⟨_, rfl, ?_⟩
  have he : e.x = withS d.x st := rfl
  rw [he, hi]
  exact sel_true (decide_eq_true (Int.natCast_nonneg i)) (H10.locg fun w11 H11 => ⟨rfl, H11.fr⟩)
theorem lookup_none {P : Program} {T kt et : TypeId} {z : Value} (mo : SMapOk P T kt et z) (k : ByteArray) (w : World) :
    (Instr.lookup T (.map none) (.string k) true).run P w = .ok (.tuple #[z, .bool false]) w := by
  have hf := findNow_str (k := k) (es := []) (ms := []) (i := 0) rfl
  unfold Instr.lookup Instr.findKey
  simp [hf, Sem.run_bind, run_underlying mo.hT, checkKey_str mo.hk, run_underlying mo.hk, zeroValue_run mo.hz]
theorem mo_vars : SMapOk Tryz.prog ty_map_string_int ty_string ty_int (.i 0) := by
  constructor <;> kernel_rfl
section
variable {tk g : Sl} {l : List Nd} {T : List Tok} {rb mo mv mm : Nat} {eo ev : Array MapEntry} {co cv at' dp tm : Nat}
theorem r_next1 {w : World} {t : Tok} (h : (rxE rb tk g mo mv mm at' dp tm).P w) (hD : RxH w rb (rxD tk g l T mo mv eo ev co cv)) (ht : T[at']? = some t) (hl : T.length ≤ 100000) (h6 : t.kind ≠ 6) :
    Calls Tryz.prog n_parse_reader_next #[.pointer (some (at0 rb))] w (RxAt w rb (rxE rb tk g mo mv mm (at' + 1) dp tm) (tokV t)) := by
  have := r_next (tk := tk) (g := g) (mo := mo) (mv := mv) (mm := mm) (dp := dp) (tm := tm) h hD ht hl
  rwa [if_neg h6] at this
theorem r_need1 {w : World} {t : Tok} {k : Int} (h : (rxE rb tk g mo mv mm at' dp tm).P w) (hD : RxH w rb (rxD tk g l T mo mv eo ev co cv)) (ht : T[at']? = some t) (hl : T.length ≤ 100000) (hk : t.kind = k) (h6 : k ≠ 6) :
    Calls Tryz.prog n_parse_reader_need #[.pointer (some (at0 rb)), .i k] w (RxAt w rb (rxE rb tk g mo mv mm (at' + 1) dp tm) (tokV t)) := by
  have := r_need (tk := tk) (g := g) (mo := mo) (mv := mv) (mm := mm) (dp := dp) (tm := tm) h hD ht hl hk
  rwa [if_neg (by omega)] at this
theorem r_name {w : World} {t : Tok} (h : (rxE rb tk g mo mv mm at' dp tm).P w) (hD : RxH w rb (rxD tk g l T mo mv eo ev co cv)) (hv : SMapIs ev [(ba [120], .i 0)]) (ht : t.text = [120]) :
    Calls Tryz.prog n_parse_reader_name #[.pointer (some (at0 rb)), tokV t] w (RxAt w rb (rxE rb tk g mo mv mm at' dp tm) (.i 0)) := by
  refine parse_reader_name.okT _ _ _ _ w _ ((rx_start rfl h hD).newg fun b3 w1 H1 => H1.locg fun w2 H2 => ⟨_, H2.ld 0 7, 0, false, lookup_none mo_vars _ _, sel_false rfl (H2.locg fun w3 H3 => ⟨_, H3.ld 0 5, 0, true, ?_, sel_true rfl ⟨rfl, H3.get 0, H3.fr⟩⟩)⟩)
  have := lookup_str mo_vars (H3.getD 4) hv (ba t.text)
  rw [ht] at this
  rw [ht]
  exact this
theorem r_add {w : World} {t : Tok} {d : Nd} {i : Nat} {st : Srt} (h : (rxE rb tk g mo mv mm at' dp tm).P w) (hD : RxH w rb (rxD tk g l T mo mv eo ev co cv ++ [kidE d])) (ho : TOk d.x) (hll : l.length ≤ 1000000) (hvs : ∀ e ∈ xs l, validS e.st = true) (hgk : ∀ e ∈ l, e.x.kids.length ≤ 1000000) (hs : srtX (xs l) d.x = (st, 0)) (hi : idxX (withS d.x st) (xs l) 0 = some i) :
    Calls Tryz.prog n_parse_reader_add #[.pointer (some (at0 rb)), d.v, tokV t] w (RxAt w rb (rxE rb tk g mo mv mm at' dp tm) (.i (i : Int))) := by
  have fin : ∀ {w2 : World} {L2 : List En} (b5 b7 : Nat) (a0 : Int) (a1 : ByteArray) (a2 : Int), LH (· ∈ [rb]) w w2 (rxE rb tk g mo mv mm at' dp tm :: L2) (rxD tk g l T mo mv eo ev co cv ++ [kidE d]) → En.g b7 ∈ L2 → parse_reader_add.S0T (at0 rb) b5 a0 a1 a2 b7 g (i : Int) 0 w2 (RxAt w rb (rxE rb tk g mo mv mm at' dp tm) (.i (i : Int))) := fun {w2 L2} b5 b7 a0 a1 a2 H2 hb =>
    sel_false rfl (H2.stc0 0 2 rfl (fun w3 H3 => ⟨rfl, H3.get 0, H3.fr⟩) (by simp) (by simp; exact .inr hb))
  refine parse_reader_add.okT (at0 rb) d.x.op d.ks d.x.n d.x.m d.x.u d.x.tx d.x.st.k d.x.st.n d.x.st.x _ _ _ w _ ((rx_start rfl h hD).newg fun b4 w1 H1 => H1.newg fun b5 w2 H2 => H2.locg fun w3 H3 => ⟨g, by rw [add_add]; exact H3.ld 0 2, ?_, ?_⟩)
  · refine H3.callg (t_AddF (gr_P.1 (H3.getD 0)) (H3.getD 5) (H3.getD 1) ho (by omega) hvs (fun e he => by have := hgk e he; omega) hs hi) ?_
    rintro _ w4 rfl H4
    exact ⟨_, _, _, rfl, H4.newg fun b7 w5 H5 => H5.locg fun w6 H6 => fin b5 b7 _ _ _ H6 (by simp)⟩
  · refine H3.newg fun b7 w4 H4 => ⟨by rw [add_add]; exact H4.ld 0 2, H4.callg (t_AddF (gr_P.1 (H4.getD 0)) (H4.getD 5) (H4.getD 1) ho (by omega) hvs (fun e he => by have := hgk e he; omega) hs hi) ?_⟩
    rintro _ w5 rfl H5
    exact ⟨_, _, _, rfl, H5.locg fun w6 H6 => fin b5 b7 _ _ _ H6 (by simp)⟩
end
end Go.Proofs.YtibaobaobnpdaaaGreatDoor
set_option maxRecDepth 100000
set_option maxHeartbeats 1000000
namespace Go.Proofs.YtibaobaobnpdaaaGreatDoor
open Go Go.W

section
variable {tk g : Sl} {l : List Nd} {T : List Tok} {rb mo mv mm : Nat} {eo ev : Array MapEntry} {co cv : Nat}
/-- the kid of a node that is read -/
abbrev ntV (ks : Sl) : Value := .agg #[.i 4, ks.v, .i 0, .i 0, .u 0, .string (ByteArray.mk #[]), .i 0, .i 0, .i 0]
abbrev ntD (k : Nat) (ks : Sl) : Nd := ⟨⟨4, [(k : Int)], 0, 0, 0, ByteArray.mk #[], noS⟩, ks⟩
/-- the chain is in the graph, and its tokens are those of the text -/
structure ChH (T : List Tok) (l : List Nd) (n : Nat) (eo ev : Array MapEntry) : Prop where
  hx : xs l = linG (ba [120]) false n
  hn : n ≤ 900
  hT : T.length ≤ 100000
  ho : SMapIs eo opsM
  hv : SMapIs ev [(ba [120], .i 0)]
theorem r_node {w : World} {k p dp tm p' tm' : Nat} (h : (rxE rb tk g mo mv mm p dp tm).P w) (hD : RxH w rb (rxD tk g l T mo mv eo ev co cv)) (ho : SMapIs eo opsM)
    (ht : ∀ w, (rxE rb tk g mo mv mm p dp tm).P w → RxH w rb (rxD tk g l T mo mv eo ev co cv) → Calls Tryz.prog n_parse_reader_term #[.pointer (some (at0 rb))] w (RxAt w rb (rxE rb tk g mo mv mm p' dp tm') (.i (k : Int)))) :
    Calls Tryz.prog n_parse_reader_node #[.pointer (some (at0 rb)), .string (ba [110, 111, 116])] w fun r w' => ∃ ks : Sl, r = .returned (ntV ks) ∧ LH (· ∈ [rb]) w w' [rxE rb tk g mo mv mm p' dp tm', .row ty_int 1 ks [intV (k : Int)]] (rxD tk g l T mo mv eo ev co cv) := by
  refine parse_reader_node.okT _ _ w _ ((rx_start rfl h hD).newg fun b4 w1 H1 => H1.newg fun b5 w2 H2 => ?_)
  iterate 6 refine sel_tx (fun h => absurd h (by decide)) (fun _ => ?_)
  refine sel_tx (fun h => absurd h (by decide)) (fun _ => H2.locg fun w3 H3 => ?_)
  have lk : ∀ {w : World}, w.heap[mo]? = some (.map eo co) → Sem.run Tryz.prog (Instr.lookup ty_map_string_parse_operation (.map (some mo)) (.string (ba [110, 111, 116])) false) w = .ok (.agg #[.i 4, .i 1]) w := fun hm => by
    have := lookup_str1 mo_ops hm ho (ba [110, 111, 116])
    rw [ops_not] at this
    exact this
  refine ⟨_, H3.ld 0 4, 4, 1, lk (H3.getD 3), _, H3.ld 0 4, 4, 1, lk (H3.getD 3), H3.locg fun w4 H4 => ⟨lk (H4.getD 3), H4.ld 0 4, ?_⟩⟩
  refine parse_reader_node.L1T_step _ _ _ _ _ _ _ _ _ _ _ _ _ _ _ _ _ _ _ _ _ _ _ _ _ (sel_true rfl (H4.locg fun w5 H5 => rx_callF H5 0 rfl rfl rfl (ht w5 (H5.get 0) (rx_hD H5 (i := 0) rfl rfl)) fun w6 H6 => ⟨_, rfl, ?_⟩))
  refine (H6.nilrow ty_int 1).ap1T 3 el_ints rfl (fun s2 w7 H7 => H7.locg (fun w8 H8 => ?_) (by simp)) (by show (0 + 1) * 8 ≤ _; omega) (by rfl) (by simp [Value.oneCell']) (by simp)
  refine parse_reader_node.L1T_step _ _ _ _ _ _ _ _ _ _ _ _ _ _ _ _ _ _ _ _ _ _ _ _ _ (sel_false rfl (H8.locg (fun w9 H9 => ⟨s2, rfl, H9.sieve [true, false, false, true]⟩) (by simp)))
theorem r_term {n : Nat} (hc : ChH T l n eo ev) : ∀ (k i p dp tm : Nat) (w : World), k ≤ n → (∀ j t, (chK k i)[j]? = some t → T[p + j]? = some t) → dp + k ≤ 64 → tm + k + 1 ≤ 10000 → (rxE rb tk g mo mv mm p dp tm).P w → RxH w rb (rxD tk g l T mo mv eo ev co cv) →
    Calls Tryz.prog n_parse_reader_term #[.pointer (some (at0 rb))] w (RxAt w rb (rxE rb tk g mo mv mm (p + (3 * k + 1)) dp (tm + k + 1)) (.i (k : Int))) := by
  have hn := hc.hn
  have hll : l.length = n + 1 := by rw [← lin_len (nm := ba [120]) (dbl := false) n, ← hc.hx]; simp [xs]
  intro k
  induction k with
  | zero =>
    intro i p dp tm w hk hT hdp htm h hD
    have t0 : T[p]? = some ⟨2, [120], i⟩ := hT 0 _ rfl
    refine parse_reader_term.okT _ w _ (rx_call (rx_start rfl h hD) 0 rfl rfl rfl (r_next1 h hD t0 hc.hT (by show (2 : Int) ≠ 6; decide)) fun w1 H1 => ⟨_, _, _, rfl, H1.newg fun b3 w2 H2 => sel_true rfl (sel_true rfl (H2.locg fun w3 H3 => ⟨_, H3.ld 0 10, sel_false (decide_eq_false (by omega)) ⟨_, H3.ld 0 10, H3.stc0 0 10 rfl (fun w4 H4 => sel_true rfl ?_) (by simp)⟩⟩))⟩)
    rw [i64_next _ (by omega)] at H4
    refine rx_callF (rb := rb) H4 0 (e := rxE rb tk g mo mv mm (p + 1) dp (tm + 1)) rfl rfl rfl (r_name (t := ⟨2, [120], i⟩) (H4.get 0) (rx_hD H4 (i := 0) rfl rfl) hc.hv rfl) fun w5 H5 => ⟨_, rfl, rfl, H5.get 0, H5.fr⟩
  | succ k ih =>
    intro i p dp tm w hk hT hdp htm h hD
    have hch : chK (k + 1) i = ⟨0, [], i⟩ :: ⟨2, [110, 111, 116], i + 1⟩ :: (chK k (i + 5) ++ [⟨1, [], i + 5 + (6 * k + 1)⟩]) := rfl
    have t0 : T[p]? = some ⟨0, [], i⟩ := hT 0 _ rfl
    have t1 : T[p + 1]? = some ⟨2, [110, 111, 116], i + 1⟩ := hT 1 _ rfl
    have t2 : ∀ j t, (chK k (i + 5))[j]? = some t → T[p + 1 + 1 + j]? = some t := fun j t hj => by
      have := hT (j + 2) t (by rw [hch, List.getElem?_cons_succ, List.getElem?_cons_succ, List.getElem?_append_left (List.getElem?_eq_some_iff.1 hj).1]; exact hj)
      rw [show p + 1 + 1 + j = p + (j + 2) by omega]
      exact this
    have t3 : T[p + 1 + 1 + (3 * k + 1)]? = some ⟨1, [], i + 5 + (6 * k + 1)⟩ := by
      have := hT (3 * k + 1 + 2) ⟨1, [], i + 5 + (6 * k + 1)⟩ (by rw [hch, List.getElem?_cons_succ, List.getElem?_cons_succ, List.getElem?_append_right (by rw [ch_len]; omega), ch_len, Nat.sub_self]; rfl)
      rw [show p + 1 + 1 + (3 * k + 1) = p + (3 * k + 1 + 2) by omega]
      exact this
    refine parse_reader_term.okT _ w _ (rx_call (rx_start rfl h hD) 0 rfl rfl rfl (r_next1 h hD t0 hc.hT (by show (0 : Int) ≠ 6; decide)) fun w1 H1 => ⟨_, _, _, rfl, H1.newg fun b3 w2 H2 => sel_false rfl (sel_false rfl (sel_false rfl (sel_true rfl (H2.locg fun w3 H3 => ⟨_, H3.ld 0 10, sel_false (decide_eq_false (by omega)) ⟨_, H3.ld 0 10, H3.stc0 0 10 rfl (fun w4 H4 => sel_false rfl (sel_false rfl (sel_false rfl ?_))) (by simp)⟩⟩))))⟩)
    rw [i64_next _ (by omega)] at H4
    refine rx_callF (rb := rb) H4 0 (e := rxE rb tk g mo mv mm (p + 1) dp (tm + 1)) (e' := rxE rb tk g mo mv mm (p + (3 * (k + 1) + 1)) dp (tm + (k + 1) + 1)) rfl rfl rfl ?_ fun w5 H5 => ⟨_, rfl, rfl, H5.get 0, H5.fr⟩
    have h4 := H4.get 0
    have hD4 := rx_hD H4 (i := 0) (rb := rb) rfl rfl
    clear H4
    -- the term after its "("
    refine parse_reader_compound.okT _ _ _ _ w4 _ ((rx_start (e := rxE rb tk g mo mv mm (p + 1) dp (tm + 1)) rfl h4 hD4).newg fun b6 w5 H5 => ⟨_, H5.ld 0 9, sel_false (decide_eq_false (by omega)) ⟨_, H5.ld 0 9, H5.stc0 0 9 rfl (fun w6 H6 => ?_) (by simp)⟩⟩)
    rw [i64_next _ (by omega)] at H6
    have H6 : LH (· ∈ [rb]) w4 w6 [rxE rb tk g mo mv mm (p + 1) (dp + 1) (tm + 1), .g b6] (rxD tk g l T mo mv eo ev co cv) := H6
    refine rx_callF (rb := rb) H6 0 rfl rfl rfl (r_need1 (t := ⟨2, [110, 111, 116], i + 1⟩) (H6.get 0) (rx_hD H6 (i := 0) rfl rfl) t1 hc.hT rfl (by decide)) fun w7 H7 => ⟨_, _, _, rfl, H7.newg fun b8 w8 H8 => H8.locg fun w9 H9 => H9.callg (r_isOp (H9.get 0) (rx_hD H9 (i := 0) rfl rfl) hc.ho) ?_⟩
    rintro _ w10 rfl H10
    have H10 : LH (· ∈ [rb]) w4 w10 [rxE rb tk g mo mv mm (p + 1 + 1) (dp + 1) (tm + 1), .g b6, .g b8] (rxD tk g l T mo mv eo ev co cv) := H10
    refine ⟨_, rfl, sel_true rfl ?_⟩
    have hnode := r_node (w := w10) (k := k) (H10.get 0) (rx_hD H10 (i := 0) rfl rfl) hc.ho fun w h hD => ih (i + 5) (p + 1 + 1) (dp + 1) (tm + 1) w (by omega) t2 (by omega) (by omega) h hD
    refine ⟨(· ∈ [rb]), fun b hb hm => ?_, hnode.mono ?_⟩
    · have hm : b ∈ [rb] := hm
      rw [List.mem_singleton] at hm
      subst hm
      have hx := erase_ne (i := 0) rfl H10.nd b (by simp [En.ob]) (.g b)
      simp at hb
      rcases hb with rfl | rfl
      · exact hx (by simp) (by simp [En.g])
      · exact hx (by simp) (by simp [En.g])
    rintro _ w11 ⟨ks, rfl, HN⟩
    refine ⟨HN.fr, _, _, _, _, _, _, _, _, _, rfl, ?_⟩
    have hrow := HN.get 1
    have hnew : ∀ x ∈ blkL ks, w10.heap.size ≤ x := fun x hx => by
      rcases HN.new _ (List.mem_of_getElem? (i := 1) rfl) x hx with h | h
      · exact h
      · exact absurd h fun h => disj_of HN.nd (i := 1) rfl (j := 0) rfl (by decide) x hx (by simpa [En.ob] using h)
    -- the reader has moved, the row of the kid is new
    have H11 : LH (· ∈ [rb]) w4 w11 [rxE rb tk g mo mv mm (p + 1 + 1 + (3 * k + 1)) (dp + 1) (tm + 1 + k + 1), .g b6, .g b8] (rxD tk g l T mo mv eo ev co cv) := H10.upd 0 (rxE rb tk g mo mv mm (p + 1 + 1 + (3 * k + 1)) (dp + 1) (tm + 1 + k + 1)) rfl (HN.fr.mono fun x _ hx => by simpa [En.ob] using hx) (HN.get 0) (fun x hx => .inl hx)
    have hkid : (kidE (ntD k ks)).P w11 := OwnRow.rd1 hrow
    have H12 : LH (· ∈ [rb]) w4 w11 [rxE rb tk g mo mv mm (p + 1 + 1 + (3 * k + 1)) (dp + 1) (tm + 1 + k + 1), .g b6, .g b8] (rxD tk g l T mo mv eo ev co cv ++ [kidE (ntD k ks)]) := by
      refine ⟨H11.fr, H11.own, fun e he => ?_, H11.new, H11.nd, fun e he x hx e' he' hm => ?_⟩
      · rcases List.mem_append.1 he with he | he
        · exact H11.rd e he
        · rw [List.mem_singleton.1 he]; exact hkid
      · rcases List.mem_append.1 he with he | he
        · exact H11.dj e he x hx e' he' hm
        · rw [List.mem_singleton.1 he] at hx
          have hx : x ∈ blkL ks := hx
          have := hnew x hx
          have hf : x ∈ List.flatMap (·.fp) [rxE rb tk g mo mv mm (p + 1 + 1 + (3 * k + 1)) (dp + 1) (tm + 1 + k + 1), .g b6, .g b8] := List.mem_flatMap.2 ⟨e', he', hm⟩
          have hlt := H10.own_lt x hf
          omega
    refine H12.newg fun b9 w12 H13 => H13.locg fun w13 H14 => ?_
    have hsub : ∀ {w : World} {rb : Nat}, RxH w rb (rxD tk g l T mo mv eo ev co cv ++ [kidE (ntD k ks)]) → RxH w rb (rxD tk g l T mo mv eo ev co cv) := fun h e he => h e (List.mem_append_left _ he)
    refine rx_callF (rb := rb) H14 0 rfl rfl rfl (r_need1 (t := ⟨1, [], i + 5 + (6 * k + 1)⟩) (H14.get 0) (hsub (rx_hD H14 (i := 0) rfl rfl)) t3 hc.hT rfl (by decide)) fun w14 H15 => ⟨_, _, _, rfl, ?_⟩
    have hst : srtX (xs l) (ntD k ks).x = (bitS, 0) := by rw [hc.hx]; exact ln_srt (by omega) _ (.inr rfl)
    have hix : idxX (withS (ntD k ks).x bitS) (xs l) 0 = some (k + 1) := by rw [hc.hx]; exact lin_idx (dbl := false) (by omega)
    have hall : ∀ e ∈ l, ∃ j, j ≤ n ∧ e.x = lnAt (ba [120]) false j := fun d hd => lin_mem (hc.hx ▸ List.mem_map.2 ⟨d, hd, rfl⟩)
    refine rx_callF (rb := rb) H15 0 rfl rfl rfl (r_add (t := ⟨0, [], i⟩) (d := ntD k ks) (i := k + 1) (H15.get 0) (rx_hD H15 (i := 0) rfl rfl) ⟨by simp, by show I64 0; decide, by show I64 0; decide, by simp, by simp⟩ (by omega) (fun e he => ?_) (fun e he => ?_) hst hix) fun w15 H16 => ⟨_, rfl, ?_⟩
    · obtain ⟨d, hd, rfl⟩ := List.mem_map.1 he
      obtain ⟨j, hj, e⟩ := hall d hd
      rw [e, lnAt_st]
      rfl
    · obtain ⟨j, hj, e⟩ := hall e he
      rw [e]
      have := (lnAt_tok (nm := ba [120]) (dbl := false) (by decide) (i := j) (by omega)).2.2.2.2
      omega
    refine ⟨_, H16.ld 0 9, H16.st 0 9 rfl (fun w16 H17 => ⟨rfl, ?_, H17.fr⟩) (by simp)⟩
    have hz : IntKind.wrap .i64 (((dp + 1 : Nat) : Int) - 1) = (dp : Int) := by rw [IntWalk.i64_in _ (by omega)]; omega
    have := H17.get 0
    rw [hz] at this
    rw [show p + (3 * (k + 1) + 1) = p + 1 + 1 + (3 * k + 1) + 1 by omega, show tm + (k + 1) + 1 = tm + 1 + k + 1 by omega]
    exact this
end
end Go.Proofs.YtibaobaobnpdaaaGreatDoor
set_option maxRecDepth 100000
set_option maxHeartbeats 1000000
namespace Go.Proofs.YtibaobaobnpdaaaGreatDoor
open Go Go.W

structure SS (P : Program) (ops : Array Oper) (Q : Exit → Act → List Frame → World → Prop) (l : List Nat) (a : Act) (cs : List Frame) (w : World) : Prop where
  h : wpOpsS P ops Q l a cs w
structure SW (P : Program) (ops : Array Oper) (Q : Exit → Act → World → Prop) (l : List Nat) (a : Act) (w : World) : Prop where
  h : wpOps P ops Q l a w
section
variable {P : Program} {ops : Array Oper} {i : Nat} {rest : List Nat} {a : Act} {cs : List Frame} {w w' : World} {o : Oper} {v : Value}
theorem op_at (hO : (ops.toList.drop i).head? = some o) : ops[i]? = some o := by
  rw [List.head?_drop] at hO
  simpa using hO
theorem sS_val {Q : Exit → Act → List Frame → World → Prop} (hO : (ops.toList.drop i).head? = some o) (hw : Region.wanted o (yielded ops a.tmps) = true) (hr : (execOp a.eval o).run P w = .ok (.value v) w') (h : SS P ops Q rest (a.put o.dst v) cs w') : SS P ops Q (i :: rest) a cs w := by
  constructor
  have ho := op_at hO
  simp only [wpOpsS, ho, hw, if_true, hr, Oper.upon_value]
  exact h.h
theorem sS_skip {Q : Exit → Act → List Frame → World → Prop} (hO : (ops.toList.drop i).head? = some o) (hw : Region.wanted o (yielded ops a.tmps) = true) (hr : (execOp a.eval o).run P w = .ok .skip w') (h : SS P ops Q rest (a.put o.dst undef) cs w') : SS P ops Q (i :: rest) a cs w := by
  constructor
  have ho := op_at hO
  simp only [wpOpsS, ho, hw, if_true, hr, Oper.upon_skip]
  exact h.h
theorem sS_rec {Q : Exit → Act → List Frame → World → Prop} (hO : (ops.toList.drop i).head? = some o) (hw : Region.wanted o (yielded ops a.tmps) = true) (hr : (execOp a.eval o).run P w = .ok .recover w') (hc : recoverD cs = none) (h : SS P ops Q rest (a.put o.dst .nilIface) cs w') : SS P ops Q (i :: rest) a cs w := by
  constructor
  have ho := op_at hO
  simp only [wpOpsS, ho, hw, if_true, hr, hc]
  exact h.h
variable {Q : Exit → Act → World → Prop}
theorem sW_val (hO : (ops.toList.drop i).head? = some o) (hw : Region.wanted o (yielded ops a.tmps) = true) (hr : (execOp a.eval o).run P w = .ok (.value v) w') (h : SW P ops Q rest (a.put o.dst v) w') : SW P ops Q (i :: rest) a w := by
  constructor
  have ho := op_at hO
  simp only [wpOps, ho, hw, if_true]
  refine .inl ?_
  unfold Oper.wp
  rw [hr]
  exact h.h
theorem sW_skip (hO : (ops.toList.drop i).head? = some o) (hw : Region.wanted o (yielded ops a.tmps) = true) (hr : (execOp a.eval o).run P w = .ok .skip w') (h : SW P ops Q rest (a.put o.dst undef) w') : SW P ops Q (i :: rest) a w := by
  constructor
  have ho := op_at hO
  simp only [wpOps, ho, hw, if_true]
  refine .inl ?_
  unfold Oper.wp
  rw [hr]
  exact h.h
theorem sW_defer {d : Deferred} (hO : (ops.toList.drop i).head? = some o) (hw : Region.wanted o (yielded ops a.tmps) = true) (hr : (execOp a.eval o).run P w = .ok (.defer d) w') (h : SW P ops Q rest ({ a with defers := d :: a.defers }.put o.dst undef) w') : SW P ops Q (i :: rest) a w := by
  constructor
  have ho := op_at hO
  simp only [wpOps, ho, hw, if_true]
  refine .inl ?_
  unfold Oper.wp
  rw [hr]
  exact h.h
theorem sW_enter {f : FuncId} {args : Array Value} (hO : (ops.toList.drop i).head? = some o) (hw : Region.wanted o (yielded ops a.tmps) = true) (hr : (execOp a.eval o).run P w = .ok (.enter f args) w') (h : Calls P f args w' fun r w'' => ∃ v, r = .returned v ∧ SW P ops Q rest (a.put o.dst v) w'') : SW P ops Q (i :: rest) a w := by
  constructor
  have ho := op_at hO
  simp only [wpOps, ho, hw, if_true]
  refine .inl ?_
  unfold Oper.wp
  rw [hr]
  refine Calls.mono h fun r w'' ⟨v, e, h⟩ => ?_
  subst e
  exact h.h
theorem sS_nil {Q : Exit → Act → List Frame → World → Prop} (h : Q .normal a cs w) : SS P ops Q [] a cs w := ⟨h⟩
theorem sW_nil (h : Q .normal a w) : SW P ops Q [] a w := ⟨h⟩
theorem st_run {p : Addr} {inf : TypeInfo} {T : TypeId} {x y : Operand} (hop : o.op = .store T x y) (hx : a.eval x = .pointer (some p)) (hy : a.eval y = v) (hi : P.info? T = some inf) (hs : v.cells.size = inf.size) (hr : (storeCells p v.cells.toList 0).run P w = .ok () w') : (execOp a.eval o).run P w = .ok .skip w' := by
  simp [execOp, hop, Instr.storeAt, hx, hy, Instr.sureAddr, storeVar, sizeOf, typeInfo, hi, hs, hr]
end
theorem sS_reg {P : Program} {id : Nat} {ops : Array Oper} {Q : Exit → Act → List Frame → World → Prop} {a : Act} {cs : List Frame} {w : World} (l : List Nat) (hl : List.range ops.size = l) (h : SS P ops Q l a cs w) : (Code.region id ops false).wpS P Q a cs w := wpS_region (hl ▸ h.h)
theorem sW_reg {P : Program} {id : Nat} {ops : Array Oper} {Q : Exit → Act → World → Prop} {a : Act} {w : World} (l : List Nat) (hl : List.range ops.size = l) (h : SW P ops Q l a w) : (Code.region id ops false).wp P Q a w := wp_region (hl ▸ h.h)
abbrev fZ : Value := .agg #[.i 0, .i 0]
theorem info_of {P : Program} {T n : Nat} (h : (P.info? T).map (·.size) = some n) : ∃ i, P.info? T = some i ∧ i.size = n := Option.map_eq_some_iff.1 h
theorem fault_size : (Tryz.prog.info? ty_parse_fault).map (·.size) = some 2 := by kernel_rfl
theorem errno_size : (Tryz.prog.info? ty_api_Errno).map (·.size) = some 1 := by kernel_rfl
theorem int_size : (Tryz.prog.info? ty_int).map (·.size) = some 1 := by kernel_rfl
/-- the deferred closure finds nothing -/
theorem run_idle (p q : Addr) (w : World) : CallsD Tryz.prog n_parse_reader_run_1 #[.pointer (some p), .pointer (some q)] .returning w fun e u' w' => e = .returned (.tuple #[]) ∧ u' = .returning ∧ Fr0 w w' := by
  refine callsD_of_wpS (fn := Tryz.f45) (by kernel_rfl) rfl fun c₀ cs hu => ?_
  have hrec : recoverD (c₀ :: cs) = none := by simp [recoverD, hu]
  obtain ⟨inf, hi, hs⟩ := info_of fault_size
  refine wpS_seq (sS_reg [0, 1, 2, 3, 4, 5, 6, 7] (by kernel_rfl) ?_)
  refine sS_rec (i := 0) (by rfl) (by kernel_rfl) (w' := w) (by kernel_rfl) hrec ?_
  refine sS_val (i := 1) (by rfl) (by kernel_rfl) (w' := w) (v := .tuple #[fZ, .bool false]) (by kernel_rfl) ?_
  refine sS_val (i := 2) (by rfl) (by kernel_rfl) (w' := w) (v := .tuple #[fZ, .bool false]) (by kernel_rfl) ?_
  refine sS_val (i := 3) (by rfl) (by kernel_rfl) (w' := w) (v := fZ) (by kernel_rfl) ?_
  refine sS_val (i := 4) (by rfl) (by kernel_rfl) (w' := w) (v := .bool false) (by kernel_rfl) ?_
  refine sS_val (i := 5) (by rfl) (by kernel_rfl) (w' := w.alloc (.cells #[.i 0, .i 0] ty_parse_fault)) (v := ptr w.heap.size) (by kernel_rfl) ?_
  have H : LH F0 w (w.alloc (.cells #[.i 0, .i 0] ty_parse_fault)) [.c w.heap.size [.i 0, .i 0] ty_parse_fault] [] := (lh0 (w := w) [] (by simp)).alloc _
  obtain ⟨w2, r2, H2⟩ : ∃ w2, (storeCells (at0 w.heap.size) [.i 0, .i 0] 0).run Tryz.prog (w.alloc (.cells #[.i 0, .i 0] ty_parse_fault)) = .ok () w2 ∧ LH F0 w w2 [.c w.heap.size [.i 0, .i 0] ty_parse_fault] [] :=
    stVC_sound (P := Tryz.prog) (p := at0 w.heap.size) (i := 0) (vs := [.i 0, .i 0]) (K := fun w2 => LH F0 w w2 [.c w.heap.size [.i 0, .i 0] ty_parse_fault] []) rfl (H.st 0 0 rfl fun w1 H1 => H1.st 0 1 rfl fun w2 H2 => H2)
  refine sS_skip (i := 6) (by rfl) (by kernel_rfl) (w' := w2) (st_run rfl (by kernel_rfl) (v := fZ) (by kernel_rfl) hi (by rw [hs]; rfl) r2) ?_
  refine sS_val (i := 7) (by rfl) (by kernel_rfl) (w' := w2) (v := .bool false) (by kernel_rfl) (sS_nil ?_)
  refine wpS_seq (sS_reg [0] (by kernel_rfl) ?_)
  refine sS_val (i := 0) (by rfl) (by kernel_rfl) (w' := w2) (v := .bool false) (by kernel_rfl) (sS_nil ?_)
  refine wpS_cond (t := false) (by kernel_rfl) (wpS_of_wp (wp_skip ?_))
  refine ⟨rfl, .returning, by cases c₀; simp_all, .tuple #[], by kernel_rfl, rfl, rfl, H2.fr⟩
theorem lv_int {P : Program} {T : TypeId} {p : Addr} {n : Int} {w : World} (hT : P.underlying T = some (.int .i64)) (hc : w.cell? p = some (.i n)) : (loadVar T p).run P w = .ok (.i n) w := by
  simp [loadVar, isAgg, Sem.run_bind, run_underlying hT, load, Sem.run, hc]
/-- run of a closure that returns -/
theorem p_run {E : En} {w : World} {p : Addr} {c0 c1 : Value} (hE : ∀ x ∈ E.fp, x < w.heap.size)
    (hc : ∀ w1, Fr0 w w1 → Calls Tryz.prog n_parse_Term_1 #[c0, c1] w1 fun r w' => r = .returned (.tuple #[]) ∧ E.P w' ∧ Fr (· ∈ E.fp) w1 w') :
    Calls Tryz.prog n_parse_reader_run #[.pointer (some p), .func (.func n_parse_Term_1) #[] #[c0, c1]] w fun r w' => r = .returned (.tuple #[.i 0, .i 0]) ∧ E.P w' ∧ Fr (· ∈ E.fp) w w' := by
  refine calls_of_wp_defers (fn := Tryz.f22) (by kernel_rfl) rfl ?_
  obtain ⟨i1, h1, s1⟩ := info_of int_size
  obtain ⟨i2, h2, s2⟩ := info_of errno_size
  have H0 : LH (· ∈ E.fp) w w [] [] := LH.start [] (by simp)
  obtain ⟨w1, e1⟩ : ∃ w1, w1 = w.alloc (.cells #[.i 0] ty_int) := ⟨_, rfl⟩
  obtain ⟨w2, e2⟩ : ∃ w2, w2 = w1.alloc (.cells #[.i 0] ty_api_Errno) := ⟨_, rfl⟩
  have z1 : w1.heap.size = w.heap.size + 1 := by rw [e1]; exact size_alloc _ _
  have H2 : LH (· ∈ E.fp) w w2 [.c w.heap.size [.i 0] ty_int, .c w1.heap.size [.i 0] ty_api_Errno] [] := by
    subst e2
    subst e1
    exact (H0.alloc (.cells #[.i 0] ty_int)).alloc (.cells #[.i 0] ty_api_Errno)
  have f2 : Fr0 w w2 := by
    subst e2
    subst e1
    exact (Fr.alloc _ _ _).trans (Fr.alloc _ _ _) (fun _ _ h => h)
  refine wp_seq (sW_reg [0, 1] (by kernel_rfl) (sW_val (i := 0) (by rfl) (by kernel_rfl) (w' := w1) (v := ptr w.heap.size) (by subst e1; kernel_rfl) (sW_val (i := 1) (by rfl) (by kernel_rfl) (w' := w2) (v := ptr w1.heap.size) (by subst e2; kernel_rfl) (sW_nil ?_))))
  refine wp_seq (sW_reg [0, 1] (by kernel_rfl) (sW_val (i := 0) (by rfl) (by kernel_rfl) (w' := w2) (v := .func (.func n_parse_reader_run_1) #[] #[ptr w.heap.size, ptr w1.heap.size]) (by kernel_rfl) (sW_defer (i := 1) (by rfl) (by kernel_rfl) (w' := w2) (d := ⟨.fn (.func n_parse_reader_run_1) #[ptr w.heap.size, ptr w1.heap.size], #[]⟩) (by kernel_rfl) (sW_nil ?_))))
  refine wp_seq (sW_reg [0, 1] (by kernel_rfl) (sW_val (i := 0) (by rfl) (by kernel_rfl) (w' := w2) (v := .func (.func n_parse_Term_1) #[] #[c0, c1]) (by kernel_rfl) (sW_enter (i := 1) (by rfl) (by kernel_rfl) (w' := w2) (f := n_parse_Term_1) (args := #[c0, c1]) (by kernel_rfl) ((hc w2 f2).mono ?_))))
  rintro _ w3 ⟨rfl, hP, f3⟩
  refine ⟨_, rfl, sW_nil ?_⟩
  have hnew : ∀ b, w.heap.size ≤ b → b < w2.heap.size → w3.heap[b]? = w2.heap[b]? := fun b hb hl => f3.keep b hl fun hm => by
    have := hE b hm
    omega
  have H3 : LH (· ∈ E.fp) w w3 [.c w.heap.size [.i 0] ty_int, .c w1.heap.size [.i 0] ty_api_Errno, E] [] := by
    have hm : ∀ e ∈ [En.c w.heap.size [.i 0] ty_int, .c w1.heap.size [.i 0] ty_api_Errno, E], e = .c w.heap.size [.i 0] ty_int ∨ e = .c w1.heap.size [.i 0] ty_api_Errno ∨ e = E := fun e he => by simpa using he
    refine ⟨H2.fr.trans f3 fun x _ h => h, fun e he => ?_, by simp, fun e he x hx => ?_, ?_, by simp⟩
    · rcases hm e he with rfl | rfl | rfl
      · exact (hnew _ (Nat.le_refl _) (lt_of_heap (H2.ob 0))).trans (H2.ob 0)
      · exact (hnew _ (by omega) (lt_of_heap (H2.ob 1))).trans (H2.ob 1)
      · exact hP
    · rcases hm e he with rfl | rfl | rfl
      · simp [En.ob] at hx; omega
      · simp [En.ob] at hx; omega
      · exact .inr hx
    · show (w.heap.size :: w1.heap.size :: (E.fp ++ [])).Nodup
      rw [List.append_nil, List.nodup_cons, List.nodup_cons]
      refine ⟨fun h => ?_, fun h => ?_, E.nd⟩
      · rcases List.mem_cons.1 h with h | h
        · omega
        · have := hE _ h; omega
      · have := hE _ h; omega
  obtain ⟨w4, r4, H4⟩ : ∃ w4, (storeCells (at0 w.heap.size) [.i 0] 0).run Tryz.prog w3 = .ok () w4 ∧ LH (· ∈ E.fp) w w4 [.c w.heap.size [.i 0] ty_int, .c w1.heap.size [.i 0] ty_api_Errno, E] [] :=
    stVC_sound (P := Tryz.prog) (p := at0 w.heap.size) (i := 0) (vs := [.i 0]) (K := fun w4 => LH (· ∈ E.fp) w w4 [.c w.heap.size [.i 0] ty_int, .c w1.heap.size [.i 0] ty_api_Errno, E] []) rfl (H3.st 0 0 rfl fun w4 H4 => H4)
  obtain ⟨w5, r5, H5⟩ : ∃ w5, (storeCells (at0 w1.heap.size) [.i 0] 0).run Tryz.prog w4 = .ok () w5 ∧ LH (· ∈ E.fp) w w5 [.c w.heap.size [.i 0] ty_int, .c w1.heap.size [.i 0] ty_api_Errno, E] [] :=
    stVC_sound (P := Tryz.prog) (p := at0 w1.heap.size) (i := 0) (vs := [.i 0]) (K := fun w4 => LH (· ∈ E.fp) w w4 [.c w.heap.size [.i 0] ty_int, .c w1.heap.size [.i 0] ty_api_Errno, E] []) rfl (H4.st 1 0 rfl fun w4 H4 => H4)
  refine wp_seq (sW_reg [0, 1] (by kernel_rfl) (sW_skip (i := 0) (by rfl) (by kernel_rfl) (w' := w4) (st_run (by rfl) (by kernel_rfl) (v := .i 0) (by kernel_rfl) h1 (by rw [s1]; rfl) r4) (sW_skip (i := 1) (by rfl) (by kernel_rfl) (w' := w5) (st_run (by rfl) (by kernel_rfl) (v := .i 0) (by kernel_rfl) h2 (by rw [s2]; rfl) r5) (sW_nil ?_))))
  refine wp_ret ?_
  refine leaves_cons (f := n_parse_reader_run_1) (args := #[ptr w.heap.size, ptr w1.heap.size]) (by simp) (by kernel_rfl) ?_
  refine (run_idle (at0 w.heap.size) (at0 w1.heap.size) w5).mono ?_
  rintro _ _ w6 ⟨rfl, rfl, f6⟩
  have H6 := H5.fr0 f6
  refine ⟨.tuple #[.i 0, .i 0], ?_, rfl, H6.get 2, H6.fr⟩
  have l1 := lv_int (P := Tryz.prog) (T := ty_int) (by kernel_rfl) (H6.ld0 0)
  have l2 := lv_int (P := Tryz.prog) (T := ty_api_Errno) (by kernel_rfl) (H6.ld0 1)
  rw [results_eq]
  generalize ha : (Act.tmps _) = tm
  have t4 : tm.getD 4 undef = ptr w.heap.size := by rw [← ha]; kernel_rfl
  have t5 : tm.getD 5 undef = ptr w1.heap.size := by rw [← ha]; kernel_rfl
  clear ha
  have hres : (Tryz.f22).results = #[.cell 4 ty_int, .cell 5 ty_api_Errno] := rfl
  rw [hres]
  simp [resOf, t4, t5, asAddr, l1, l2]
end Go.Proofs.YtibaobaobnpdaaaGreatDoor
set_option maxRecDepth 100000
set_option maxHeartbeats 1000000
namespace Go.Proofs.YtibaobaobnpdaaaGreatDoor
open Go Go.W

theorem o_put {w0 w : World} {m : Nat} {es : Array MapEntry} {clock : Nat} {ms : List (ByteArray × Value)} (H : LH F0 w0 w [.ob m (.map es clock)] []) (hm : SMapIs es ms) {k : ByteArray} {v : Value} (hno : sget ms k = none) {K : World → Prop}
    (hK : ∀ w' es' c', LH F0 w0 w' [.ob m (.map es' c')] [] → SMapIs es' (ms ++ [(k, v)]) → K w') : ∃ w', Sem.run Tryz.prog (Instr.mapUpdate ty_map_string_parse_operation (.map (some m)) (.string k) v) w = .ok () w' ∧ K w' := by
  obtain ⟨w', es', r1, r2, r3, r4, r5⟩ := update_str mo_ops (H.ob 0) hm k v hno
  exact ⟨w', r1, hK w' es' _ (H.upd 0 (.ob m (.map es' (clock + 1))) rfl (r4.mono fun x _ e => by simp [En.ob, e]) r2 fun b hb => .inl hb) r3⟩
theorem c_ops (w : World) : Calls Tryz.prog n_parse_operations #[] w fun r w' => (∃ m es c, r = .returned (.map (some m)) ∧ w.heap.size ≤ m ∧ w'.heap[m]? = some (.map es c) ∧ SMapIs es opsM) ∧ Fr0 w w' := by
  refine parse_operations.ok w _ (nw_ob (lh0 [] (by simp)) fun w1 H => ?_)
  have hm : SMapIs #[] [] := rfl
  iterate 26 (refine o_put H hm ?_ ?_; kernel_rfl; clear H hm; intro w1 es c H hm)
  exact ⟨⟨_, es, c, rfl, Nat.le_refl _, H.ob 0, hm⟩, H.fr⟩
theorem lin_vars {nm : ByteArray} {dbl : Bool} (n : Nat) : varsX (linG nm dbl n) = [0] := by
  unfold varsX
  rw [lin_len]
  have z : ∀ m : Nat, (List.range (m + 1)).filter (fun i => i == 0) = [0] := fun m => by
    induction m with
    | zero => rfl
    | succ m ih => rw [List.range_succ, List.filter_append, ih]; rfl
  have e : ∀ p : Nat → Bool, (∀ i ∈ List.range (n + 1), p i = (i == 0)) → (List.range (n + 1)).filter p = [0] := fun p h => (List.filter_congr h).trans (z n)
  rw [e _ fun i hi => by
    rw [lin_get n i (by simp at hi; omega)]
    cases i with
    | zero => rfl
    | succ i => cases dbl <;> rfl]
  rfl
theorem pm5 {a x y z e x' y' z' : En} (h : List.Perm [x, y, z] [x', y', z']) : List.Perm [a, x, y, z, e] [a, e, x', y', z'] := ((List.perm_append_comm (l₁ := [x, y, z]) (l₂ := [e])).trans (h.cons e)).cons a
/-- what newReader returns -/
def NewRd (w : World) (tk g : Sl) (r : Ending) (w' : World) : Prop := ∃ (rb mo mv mm : Nat) (eo ev : Array MapEntry) (co cv : Nat), r = .returned (ptr rb) ∧ SMapIs eo opsM ∧ SMapIs ev [(ba [120], .i 0)] ∧ LH F0 w w' [rxE rb tk g mo mv mm 0 0 0, .ob mo (.map eo co), .ob mv (.map ev cv)] []
theorem c_newReader {w : World} {tk g : Sl} {l : List Nd} {n : Nat} (h : GP w g l) (hx : xs l = linG (ba [120]) false n) (hn : n ≤ 900) : Calls Tryz.prog n_parse_newReader #[tk.v, .agg #[g.v]] w (NewRd w tk g) := by
  have hll : l.length = n + 1 := by rw [← lin_len (nm := ba [120]) (dbl := false) n, ← hx]; simp [xs]
  have H : LH F0 w w [] [.gr g l] := lh0 _ (by intro e he; rw [List.mem_singleton.1 he]; exact gr_P.2 h)
  have fin : ∀ {w6 : World} {b3 rb mo mv mm : Nat} {eo : Array MapEntry} {co : Nat}, SMapIs eo opsM → LH F0 w w6 [.g b3, rxE rb tk g mo mv mm 0 0 0, .ob mo (.map eo co), .ob mv (.map #[] 0), .ob mm (.map #[] 0)] [.gr g l] → parse_newReader.S0T b3 g (at0 rb) w6 (NewRd w tk g) := by
    intro w6 b3 rb mo mv mm eo co ho H6
    refine H6.callr (c_Vars (gr_P.1 (H6.getD 0)) (by unfold MaxL; omega)) ?_
    rintro _ w7 ⟨vs, rfl, hv, hnew⟩ H7 F7
    rw [hx, lin_vars] at hv
    have H7 := F7.own (.row ty_int 1 vs ([(0 : Int)].map intV)) hv hnew
    have hvn : vs.n = 1 := by have := hv.len; simp at this; omega
    have g0 : l[0]? = some (l[0]'(by omega)) := List.getElem?_eq_getElem (by omega)
    generalize l[0]'(by omega) = d at g0
    have hd : d.x = lnV (ba [120]) := by
      have := xs_get g0
      rw [hx, lin_get n 0 (by omega)] at this
      exact (Option.some.inj this).symm
    refine ⟨_, rfl, parse_newReader.L1T_step _ _ _ _ _ _ _ _ (sel_true (decide_eq_true (by omega)) (row_at (i := 0) (H7.get 5) rfl (v := intV 0) rfl fun p hp hc => ⟨0, hc, H7.locg fun w8 H8 => ⟨_, H8.ld 1 5, gr_at (i := 0) (gr_P.1 (H8.getD 0)) rfl g0 fun q hq c => ⟨d.x.tx, c.c5, ?_⟩⟩⟩))⟩
    have htx : d.x.tx = ba [120] := by rw [hd]; rfl
    rw [htx]
    obtain ⟨w9, es', u1, u2, u3, u4, u5⟩ := update_str (es := #[]) (clock := 0) mo_vars (H8.ob 3) (ms := []) rfl (ba [120]) (.i 0) rfl
    have H9 := H8.upd 3 (.ob mv (.map es' (0 + 1))) rfl (u4.mono fun x _ e => by simp [En.ob, e]) u2 fun b hb => .inl hb
    refine ⟨w9, u1, fun x hx => u4.keep x (H8.own (.g x) (by simp at hx; subst hx; simp)) (fun e => ?_), ?_⟩
    · simp at hx
      subst hx
      exact disj_of H8.nd (i := 0) rfl (j := 3) rfl (by decide) x (by simp [En.g]) (by simp [En.ob, e])
    rw [show IntKind.wrap .i64 ((0 : Int) + 1) = 1 from rfl]
    refine parse_newReader.L1T_step _ _ _ _ _ _ _ _ (sel_false (decide_eq_false (by omega)) ⟨rb, mo, mv, mm, eo, es', co, 0 + 1, rfl, ho, u3, ?_⟩)
    exact (H9.sieve [false, true, true, true]).forget [] (by simp)
  refine parse_newReader.okT tk g w _ (H.newg fun b3 w1 H1 => ⟨H1.locg fun w2 H2 => H2.callr (c_ops w2) ?_, H1.locg fun w2 H2 => nw_ob H2 fun w3 H3 => ⟨H3.callr (c_ops w3) ?_, nw_ob H3 fun w4 H4 => H4.callr (c_ops w4) ?_⟩, H1.locg fun w2 H2 => nw_ob H2 fun w3 H3 => ⟨H3.callr (c_ops w3) ?_, nw_ob H3 fun w4 H4 => H4.callr (c_ops w4) ?_⟩⟩)
  all_goals rintro _ w5 ⟨mo, eo, co, rfl, hmo, hob, ho⟩ _ F5
  all_goals have H5 := F5.own (.ob mo (.map eo co)) hob (fun b hb => by simp [En.ob] at hb; omega)
  · refine ⟨_, rfl, nw_ob H5 fun w6 H6 => nw_ob H6 fun w7 H7 => H7.nw fun w8 hs8 H8 => ?_, nw_ob H5 fun w6 H6 => nw_ob H6 fun w7 H7 => H7.nw fun w8 hs8 H8 => ?_⟩
    · exact fin ho (LH_perm H8 (pm5 (List.Perm.refl _)))
    · exact fin ho (LH_perm H8 (pm5 ((List.Perm.swap _ _ _).cons _)))
  · exact ⟨_, rfl, nw_ob H5 fun w6 H6 => H6.nw fun w7 hs7 H7 => fin ho (LH_perm H7 (pm5 (List.Perm.swap _ _ _)))⟩
  · exact ⟨_, rfl, H5.nw fun w6 hs6 H6 => fin ho (LH_perm H6 (pm5 (List.perm_append_comm (l₁ := [_, _]) (l₂ := [_]))))⟩
  · exact ⟨_, rfl, nw_ob H5 fun w6 H6 => H6.nw fun w7 hs7 H7 => fin ho (LH_perm H7 (pm5 (List.perm_append_comm (l₁ := [_]) (l₂ := [_, _]))))⟩
  · exact ⟨_, rfl, H5.nw fun w6 hs6 H6 => fin ho (LH_perm H6 (pm5 (List.reverse_perm [_, _, _]).symm))⟩
end Go.Proofs.YtibaobaobnpdaaaGreatDoor
set_option maxRecDepth 100000
set_option maxHeartbeats 1000000
namespace Go.Proofs.YtibaobaobnpdaaaGreatDoor
open Go Go.W

theorem _root_.Go.W.LH.stz0 {M : Nat → Prop} {w0 w : World} {L D : List En} {bs : List Nat} (H : LH M w0 w L D) (i : Nat) {b : Nat} {vs : List Value} {T : TypeId} {v : Value} {K : World → Prop} (hi : L[i]? = some (.c b vs T)) (hK : ∀ w', LH M w0 w' (L.set i (.c b (vs.set 0 v) T)) D → K w') (hj : 0 < vs.length := by simp) (hbs : ∀ b ∈ bs, En.g b ∈ L := by simp) : stV w (at0 b) v fun w1 => kept bs w w1 ∧ K w1 := by
  have := H.stq (v := v) (K := K) i 0 hi hK hj hbs
  rwa [add0] at this
/-- what a call has made for itself -/
theorem _root_.Go.W.LH.join {M : Nat → Prop} {w0 w w' : World} {L D A B : List En} (H : LH M w0 w L D) (HX : LH F0 w w' (A ++ B) []) : LH M w0 w' (L ++ A) (D ++ B) := by
  have keep : ∀ e : En, e.P w → e.P w' := fun e hp => e.st w w' (fun x _ hl => HX.fr.keep x hl id) hp
  have hnew : ∀ e ∈ A ++ B, ∀ x ∈ e.fp, w.heap.size ≤ x := fun e he x hx => (HX.new e he x hx).resolve_right id
  have hnd := HX.nd
  rw [List.flatMap_append, List.nodup_append] at hnd
  refine ⟨H.fr.tr0 HX.fr, fun e he => ?_, fun e he => ?_, fun e he x hx => ?_, ?_, fun d hd x hx e he hm => ?_⟩
  · rcases List.mem_append.1 he with he | he
    · exact keep e (H.own e he)
    · exact HX.own e (List.mem_append_left _ he)
  · rcases List.mem_append.1 he with he | he
    · exact keep e (H.rd e he)
    · exact HX.own e (List.mem_append_right _ he)
  · rcases List.mem_append.1 he with he | he
    · exact H.new e he x hx
    · exact .inl (Nat.le_trans H.fr.size (hnew e (List.mem_append_left _ he) x hx))
  · rw [List.flatMap_append, List.nodup_append]
    refine ⟨H.nd, hnd.1, fun a ha b hb => ?_⟩
    obtain ⟨e, he, hb⟩ := List.mem_flatMap.1 hb
    have h1 := hnew e (List.mem_append_left _ he) b hb
    have h2 := H.own_lt a ha
    omega
  · rcases List.mem_append.1 hd with hd | hd
    · rcases List.mem_append.1 he with he | he
      · exact H.dj d hd x hx e he hm
      · have h1 := hnew e (List.mem_append_left _ he) x hm
        have h2 := d.lt w (H.rd d hd) x hx
        omega
    · rcases List.mem_append.1 he with he | he
      · have h1 := hnew d (List.mem_append_right _ hd) x hx
        have h2 := e.lt w (H.own e he) x hm
        omega
      · exact hnd.2.2 x (List.mem_flatMap.2 ⟨e, he, hm⟩) x (List.mem_flatMap.2 ⟨d, hd, hx⟩) rfl
/-- two things as one -/
def _root_.Go.W.En.two (a b : En) : En := ⟨nub (a.fp ++ b.fp), fun w => a.P w ∧ b.P w, fun w w' h hp => ⟨a.st w w' (fun x hx => h x (mem_nub.2 (List.mem_append_left _ hx))) hp.1, b.st w w' (fun x hx => h x (mem_nub.2 (List.mem_append_right _ hx))) hp.2⟩, fun w hp x hx => (List.mem_append.1 (mem_nub.1 hx)).elim (a.lt w hp.1 x) (b.lt w hp.2 x), nub_nodup _⟩
section
variable {tk g : Sl} {l : List Nd} {T : List Tok} {rb mo mv mm : Nat} {eo ev : Array MapEntry} {co cv : Nat}
theorem r_Term1 {M : Nat → Prop} {w0 w : World} {L : List En} {n k ab nb : Nat} (hc : ChH T l n eo ev) (hk : k ≤ n) (hk64 : k ≤ 64) (hT : T = chK k 0 ++ [⟨6, [], 6 * k + 1⟩])
    (H : LH M w0 w (rxE rb tk g mo mv mm 0 0 0 :: .c nb [.i 0] ty_int :: .c ab [ptr rb] ty_p_parse_reader :: L) (rxD tk g l T mo mv eo ev co cv)) :
    Calls Tryz.prog n_parse_Term_1 #[.pointer (some (at0 ab)), .pointer (some (at0 nb))] w fun r w' => r = .returned (.tuple #[]) ∧ (En.two (rxE rb tk g mo mv mm (3 * k + 1) 0 (k + 1)) (.c nb [.i (k : Int)] ty_int)).P w' ∧ Fr (· ∈ (En.two (rxE rb tk g mo mv mm (3 * k + 1) 0 (k + 1)) (.c nb [.i (k : Int)] ty_int)).fp) w w' := by
  have hfp : ∀ x, x ∈ (En.two (rxE rb tk g mo mv mm (3 * k + 1) 0 (k + 1)) (.c nb [.i (k : Int)] ty_int)).fp ↔ x = rb ∨ x = nb := fun x => by
    show x ∈ nub _ ↔ _
    rw [mem_nub]
    simp [En.ob]
  have hrn : rb ≠ nb := fun e => disj_of H.nd (i := 0) rfl (j := 1) rfl (by decide) rb (by simp [En.ob]) (by simp [En.ob, e])
  have hra : rb ≠ ab := fun e => disj_of H.nd (i := 0) rfl (j := 2) rfl (by decide) rb (by simp [En.ob]) (by simp [En.ob, e])
  have hna : nb ≠ ab := fun e => disj_of H.nd (i := 1) rfl (j := 2) rfl (by decide) nb (by simp [En.ob]) (by simp [En.ob, e])
  have hD : ∀ e ∈ rxD tk g l T mo mv eo ev co cv ++ [.c ab [ptr rb] ty_p_parse_reader], e.P w ∧ ∀ x ∈ e.fp, x ≠ rb ∧ x ≠ nb := fun e he => by
    rcases List.mem_append.1 he with he | he
    · exact ⟨H.rd e he, fun x hx => ⟨fun hr => H.dj e he x hx _ (List.mem_of_getElem? (i := 0) rfl) (by simp [En.ob, hr]), fun hr => H.dj e he x hx _ (List.mem_of_getElem? (i := 1) rfl) (by simp [En.ob, hr])⟩⟩
    · rw [List.mem_singleton.1 he]
      exact ⟨H.get 2, fun x hx => by simp [En.ob] at hx; subst hx; exact ⟨hra.symm, hna.symm⟩⟩
  have H0 : LH (fun x => x = rb ∨ x = nb) w w [rxE rb tk g mo mv mm 0 0 0, .c nb [.i 0] ty_int] (rxD tk g l T mo mv eo ev co cv ++ [.c ab [ptr rb] ty_p_parse_reader]) := by
    refine LH.start' _ _ (fun e he => ?_) (by simp [En.ob, hrn]) (fun e he => ⟨(hD e he).1, fun x hx e' he' hm => ?_⟩)
    · simp only [List.mem_cons, List.not_mem_nil, or_false] at he
      rcases he with rfl | rfl
      · exact ⟨H.get 0, fun x hx => by simp [En.ob] at hx; exact .inl hx⟩
      · exact ⟨H.get 1, fun x hx => by simp [En.ob] at hx; exact .inr hx⟩
    · simp only [List.mem_cons, List.not_mem_nil, or_false] at he'
      rcases he' with rfl | rfl
      · simp [En.ob] at hm; exact ((hD e he).2 x hx).1 hm
      · simp [En.ob] at hm; exact ((hD e he).2 x hx).2 hm
  have hsub : ∀ {w : World}, RxH w rb (rxD tk g l T mo mv eo ev co cv ++ [.c ab [ptr rb] ty_p_parse_reader]) → RxH w rb (rxD tk g l T mo mv eo ev co cv) := fun h e he => h e (List.mem_append_left _ he)
  have h1 : ∀ j t, (chK k 0)[j]? = some t → T[0 + j]? = some t := fun j t hj => by
    rw [hT, Nat.zero_add, List.getElem?_append_left (List.getElem?_eq_some_iff.1 hj).1]
    exact hj
  have h2 : T[3 * k + 1]? = some ⟨6, [], 6 * k + 1⟩ := by rw [hT, List.getElem?_append_right (by rw [ch_len]; omega), ch_len, Nat.sub_self]; rfl
  refine parse_Term_1.ok _ _ w _ ⟨_, H0.ldD0 5, rx_call H0 0 (e' := rxE rb tk g mo mv mm (0 + (3 * k + 1)) 0 (0 + k + 1)) rfl rfl rfl (r_term hc k 0 0 0 0 w hk h1 (by omega) (by omega) (H0.get 0) (hsub (rx_hD H0 (i := 0) rfl rfl))) fun w1 H1 => ⟨_, rfl, H1.st0 1 rfl fun w2 H2 => ⟨_, H2.ldD0 5, ?_⟩⟩⟩
  have H2 : LH (fun x => x = rb ∨ x = nb) w w2 [rxE rb tk g mo mv mm (3 * k + 1) 0 (k + 1), .c nb [.i (k : Int)] ty_int] (rxD tk g l T mo mv eo ev co cv ++ [.c ab [ptr rb] ty_p_parse_reader]) := by
    have := H2
    rw [Nat.zero_add, Nat.zero_add] at this
    exact this
  refine rx_call H2 0 rfl rfl rfl (r_need (t := ⟨6, [], 6 * k + 1⟩) (H2.get 0) (hsub (rx_hD H2 (i := 0) rfl rfl)) h2 hc.hT rfl) fun w3 H3 => ⟨_, _, _, rfl, rfl, ⟨H3.get 0, H3.get 1⟩, H3.fr.mono fun x _ hx => (hfp x).2 hx⟩
end
theorem c_pTerm {w : World} {g : Sl} {l : List Nd} {n : Nat} (h : GP w g l) (hk : kcE.P w) (hx : xs l = linG (ba [120]) false n) (h58 : 58 ≤ n) (h64 : n ≤ 64) :
    Calls Tryz.prog n_parse_Term #[.agg #[g.v], .string ⟨(txL (ba [120]) false n).toArray⟩] w fun r w' => r = .returned (.tuple #[.agg #[g.v], .i (n : Int), .i 0, .i 0]) ∧ Fr0 w w' := by
  have H : LH F0 w w [] [.gr g l, kcE] := lh0 _ (by
    intro e he
    simp only [List.mem_cons, List.not_mem_nil, or_false] at he
    rcases he with rfl | rfl
    · exact gr_P.2 h
    · exact hk)
  have htok := ch_tokens h58 h64
  have hbl : bl ⟨(txL (ba [120]) false n).toArray⟩ = txL (ba [120]) false n := rfl
  have hsz : ByteArray.size ⟨(txL (ba [120]) false n).toArray⟩ ≤ 1000000 := by
    show (txL (ba [120]) false n).toArray.size ≤ _
    rw [List.size_toArray, not_len]
    omega
  have hct : ∀ w1, Calls Tryz.prog n_lexer_Tokens #[.string ⟨(txL (ba [120]) false n).toArray⟩] w1 fun r w' => (∃ sl : Sl, r = .returned (.tuple #[sl.v, .int .i64 0, .int .i64 0]) ∧ OwnRow w' ty_lexer_Token 3 sl (toksC (chK n 0 ++ [⟨6, [], 6 * n + 1⟩])) ∧ ∀ b ∈ blkL sl, w1.heap.size ≤ b) ∧ Fr0 w1 w' := fun w1 => (l_Tokens _ hsz w1).mono fun r w' hp => by
    rw [hbl, htok] at hp
    obtain ⟨sl, h1, h2, h3, h4⟩ := hp
    exact ⟨⟨sl, h1, h2, h4⟩, h3⟩
  obtain ⟨T, hT⟩ : ∃ T, T = chK n 0 ++ [⟨6, [], 6 * n + 1⟩] := ⟨_, rfl⟩
  rw [← hT] at hct
  have hTl : T.length ≤ 100000 := by rw [hT, List.length_append, ch_len]; simp; omega
  refine parse_Term.okT g _ w _ (H.newg fun b2 w1 H1 => H1.newg fun b4 w2 H2 => H2.callr (hct w2) ?_)
  rintro _ w3 ⟨tk, rfl, ho, hnew⟩ _ F3
  have H3 := F3.rd (.rdn 3 tk (toksC T)) ho.rdn (rdn_fp hnew)
  refine ⟨_, _, _, rfl, sel_false rfl (H3.callg (A := NewRd w3 tk g) ((c_newReader (gr_P.1 (H3.getD 0)) hx (by omega)).mono fun r w' h => ⟨h, by obtain ⟨_, _, _, _, _, _, _, _, _, _, _, h⟩ := h; exact h.fr⟩) ?_)⟩
  rintro _ w4 ⟨rb, mo, mv, mm, eo, ev, co, cv, rfl, hop, hv, HX⟩ _
  have H4 : LH F0 w w4 [.g b2, .g b4, rxE rb tk g mo mv mm 0 0 0] (rxD tk g l T mo mv eo ev co cv) := H3.join (A := [rxE rb tk g mo mv mm 0 0 0]) (B := [.ob mo (.map eo co), .ob mv (.map ev cv)]) HX
  refine ⟨_, rfl, H4.nw fun w5 hs5 H5 => H5.stz0 3 rfl (fun w6 H6 => H6.nw fun w7 hs7 H7 => H7.stz0 4 rfl (fun w8 H8 => ?_) (by simp) (by simp)) (by simp) (by simp)⟩
  have H8 : LH F0 w w8 [.g b2, .g b4, rxE rb tk g mo mv mm 0 0 0, .c w4.heap.size [ptr rb] ty_p_parse_reader, .c w6.heap.size [.i 0] ty_int] (rxD tk g l T mo mv eo ev co cv) := H8
  refine ⟨_, H8.ld0 3, ?_⟩
  have hch : ChH T l n eo ev := ⟨hx, by omega, hTl, hop, hv⟩
  have hfp : ∀ x, x ∈ (En.two (rxE rb tk g mo mv mm (3 * n + 1) 0 (n + 1)) (.c w6.heap.size [.i (n : Int)] ty_int)).fp ↔ x = rb ∨ x = w6.heap.size := fun x => by
    show x ∈ nub _ ↔ _
    rw [mem_nub]
    simp [En.ob]
  have hperm : ∀ a b c d e : En, List.Perm [a, b, c, d, e] [c, e, d, a, b] := fun a b c d e => ((List.perm_append_comm (l₁ := [a, b]) (l₂ := [c, d, e]))).trans ((List.Perm.swap e d [a, b]).cons c)
  have H8p := LH_perm H8 (hperm _ _ _ _ _)
  have hrun := p_run (E := En.two (rxE rb tk g mo mv mm (3 * n + 1) 0 (n + 1)) (.c w6.heap.size [.i (n : Int)] ty_int)) (w := w8) (p := at0 rb) (c0 := .pointer (some (at0 w4.heap.size))) (c1 := .pointer (some (at0 w6.heap.size))) (fun x hx => by
    rcases (hfp x).1 hx with rfl | rfl
    · exact H8.own_lt _ (List.mem_flatMap.2 ⟨_, List.mem_of_getElem? (i := 2) rfl, by simp [En.ob]⟩)
    · exact H8.own_lt _ (List.mem_flatMap.2 ⟨_, List.mem_of_getElem? (i := 4) rfl, by simp [En.ob]⟩)) (fun w9 f9 => r_Term1 hch (Nat.le_refl n) h64 hT (H8p.fr0 f9))
  refine ⟨(· ∈ (En.two (rxE rb tk g mo mv mm (3 * n + 1) 0 (n + 1)) (.c w6.heap.size [.i (n : Int)] ty_int)).fp), fun b hb hm => ?_, hrun.mono ?_⟩
  · simp at hb
    rcases (hfp b).1 hm with rfl | rfl <;> rcases hb with hb | hb
    · exact disj_of H8.nd (i := 0) rfl (j := 2) rfl (by decide) b2 (by simp [En.g]) (by simp [En.ob, hb])
    · exact disj_of H8.nd (i := 1) rfl (j := 2) rfl (by decide) b4 (by simp [En.g]) (by simp [En.ob, hb])
    · exact disj_of H8.nd (i := 0) rfl (j := 4) rfl (by decide) b2 (by simp [En.g]) (by simp [En.ob, hb])
    · exact disj_of H8.nd (i := 1) rfl (j := 4) rfl (by decide) b4 (by simp [En.g]) (by simp [En.ob, hb])
  rintro _ w9 ⟨rfl, hp9, f9⟩
  have hpm : ∀ a b c d e : En, List.Perm [a, b, c, d, e] ([a, b, d] ++ [c, e]) := fun a b c d e => ((List.Perm.swap d c [e]).cons b).cons a
  have H8g := (LH_perm H8 (hpm _ _ _ _ _)).group (.two (rxE rb tk g mo mv mm 0 0 0) (.c w6.heap.size [.i 0] ty_int)) ⟨H8.get 2, H8.get 4⟩ (fun x hx => by
    have := mem_nub.1 hx
    simpa [En.ob] using this)
  have H9 := H8g.upd 3 (.two (rxE rb tk g mo mv mm (3 * n + 1) 0 (n + 1)) (.c w6.heap.size [.i (n : Int)] ty_int)) rfl (f9.mono fun x _ hx => hx) hp9 (fun x hx => .inl hx)
  have H9 : LH F0 w w9 [.g b2, .g b4, .c w4.heap.size [ptr rb] ty_p_parse_reader, .two (rxE rb tk g mo mv mm (3 * n + 1) 0 (n + 1)) (.c w6.heap.size [.i (n : Int)] ty_int)] (rxD tk g l T mo mv eo ev co cv) := H9
  have hg : ∀ {w' : World}, LH F0 w w' [.g b2, .g b4, .c w4.heap.size [ptr rb] ty_p_parse_reader, .two (rxE rb tk g mo mv mm (3 * n + 1) 0 (n + 1)) (.c w6.heap.size [.i (n : Int)] ty_int)] (rxD tk g l T mo mv eo ev co cv) → (rxE rb tk g mo mv mm (3 * n + 1) 0 (n + 1)).P w' ∧ (En.c w6.heap.size [.i (n : Int)] ty_int).P w' := fun H => H.get 3
  have nc : ∀ {w' : World}, (En.c w6.heap.size [.i (n : Int)] ty_int).P w' → w'.cell? (at0 w6.heap.size) = some (.i (n : Int)) := fun H => by
    have := cellAt (p := at0 w6.heap.size) (i := 0) H rfl rfl
    rwa [add0] at this
  refine ⟨f9, _, _, rfl, sel_false rfl (H9.locg fun w10 H10 => ⟨_, H10.ld0 2, optP_mk ⟨g, by rw [add_add]; exact cellAt (p := at0 rb) (i := 2) (hg H10).1 rfl rfl, _, nc (hg H10).2, H10.locg fun w11 H11 => ⟨nc (hg H11).2, rfl, H11.fr⟩⟩⟩)⟩
end Go.Proofs.YtibaobaobnpdaaaGreatDoor
set_option maxRecDepth 100000
set_option maxHeartbeats 1000000
namespace Go.Proofs.YtibaobaobnpdaaaGreatDoor
open Go Go.W

/-! ### lives -/
def plX : Nx := ⟨0, [], 0, 0, 0, ba [120], ⟨0, 4, 0⟩⟩
def plN : Nx := ⟨1, [], 0, 0, 5, ba [], ⟨0, 4, 0⟩⟩
def plA : Nx := ⟨6, [0, 1], 0, 0, 0, ba [], ⟨0, 4, 0⟩⟩
abbrev plG (b : Nat) : List Nd := [⟨plX, ⟨none, 0, 0⟩⟩, ⟨plN, ⟨none, 0, 0⟩⟩, ⟨plA, ⟨some (at0 b), 2, 2⟩⟩]
theorem pl_valid : vldX [plX, plN, plA] = 0 := by kernel_rfl
theorem pl_text : (txsX hdX [plX, plN, plA])[2]? = some [40, 97, 110, 100, 32, 120, 32, 35, 120, 53, 41] := by decide
theorem pl_dep : (dpsX [plX, plN, plA])[2]? = some 1 := by decide
theorem pl_plain : ∀ n ∈ [plX, plN, plA], (n.op = 3 → n.kids = []) ∧ n.kids.length ≤ 1000 ∧ (hdX n).size ≤ 100000 ∧ 0 < (hdX n).size := by decide
theorem pl_in {b : Nat} {d : Nd} (h : d ∈ plG b) : d.x ∈ [plX, plN, plA] := List.mem_map.2 ⟨d, h, rfl⟩
theorem pl_hd : ∀ n ∈ [plX, plN, plA], HdN n := by
  intro n hn
  simp only [List.mem_cons, List.not_mem_nil, or_false] at hn
  rcases hn with rfl | rfl | rfl <;> constructor <;> decide
theorem pl_ok (b : Nat) : PtOk hdX (plG b) := by
  refine ⟨fun d hd => hd_ok (pl_hd _ (pl_in hd)), fun i d hd => ?_, fun d hd => (pl_plain _ (pl_in hd)).1, fun d hd => (pl_plain _ (pl_in hd)).2.1, fun d hd => (pl_plain _ (pl_in hd)).2.2.1, by simp⟩
  · rcases i with _ | _ | _ | i
    · simp at hd; subst hd; intro k hk; cases hk
    · simp at hd; subst hd; intro k hk; cases hk
    · simp at hd; subst hd
      intro k hk
      have hk : k ∈ [(0 : Int), 1] := hk
      simp at hk
      omega
    · simp at hd
theorem pl_tok : ∀ d ∈ [plX, plN, plA], TOk d ∧ WdN d := by
  intro d hd
  simp only [List.mem_cons, List.not_mem_nil, or_false] at hd
  rcases hd with rfl | rfl | rfl
  all_goals
    refine ⟨⟨by decide, by decide, by decide, by decide, fun h => absurd h (by decide)⟩, ?_⟩
    constructor
    all_goals first
      | decide
      | (intro k hk; revert k; decide)
theorem c_lives11 (w : World) (hk : kcE.P w) : Calls Tryz.prog n_enthymemelaw11_lives #[] w fun r w' => r = .returned (.bool true) ∧ Fr0 w w' := by
  have H : LH F0 w w [] [kcE] := lh0 _ (by
    intro e he
    simp only [List.mem_cons, List.not_mem_nil, or_false] at he
    subst he
    exact hk)
  refine enthymemelaw11_lives.okT w _ (H.newg fun b1 w1 H1 => H1.locg fun w2 H2 => H2.nw fun w3 hs3 H3 => H3.nw fun w4 hs4 H4 => H4.newg fun b2 w5 H5 => H5.locg fun w6 H6 => ?_)
  have G : GP w6 ⟨some (at0 w3.heap.size), 3, 3⟩ (plG w2.heap.size) := ⟨blk_rdn (H6.ob 2) rfl, fun d hd => by
    simp only [List.mem_cons, List.not_mem_nil, or_false] at hd
    rcases hd with rfl | rfl | rfl
    · exact Rd.nil w6
    · exact Rd.nil w6
    · exact blk_nums (T := ty_int) (H6.ob 1) rfl⟩
  refine H6.callg (c_Term (hd := hdX) (i := 2) G (H6.getD 0) (fun _ d hd => pl_tok d.x (List.mem_map.2 ⟨d, hd, rfl⟩)) pl_valid (pl_ok _) (fun d hd => (pl_plain _ (pl_in hd)).2.2.2) pl_text pl_dep) ?_
  · rintro _ w7 rfl H7
    exact ⟨_, _, rfl, sel_true rfl ⟨by simp, H7.fr⟩⟩
end Go.Proofs.YtibaobaobnpdaaaGreatDoor
set_option linter.unusedVariables false
set_option maxRecDepth 100000
set_option maxHeartbeats 2000000
namespace Go.Proofs.YtibaobaobnpdaaaGreatDoor
open Go Go.W
namespace enthymemelaw11_PrintLimits
noncomputable abbrev X : Fx := ⟨Tryz.prog, Tryz.f3, [(9,(.sq [0,2,3,4,5] (.fork (ls [1,6,7,8,9,10,11,12,13]) (ls [6,1,7,8,9,10,11,12,13]))))], [5, 13]⟩
abbrev P0 : Ps := [(1, .v [.I]), (5, .l [.I, .I, .I] ty_api_Sort), (6, .v [.s]), (7, .v [.I]), (8, .v [.I])]
def L1T (wide1 : Int) (bit5 : Nat) (bit5_0 bit5_1 bit5_2 : Int) (g6 : Sl) (n7 i8 : Int) (w : World) (R : Post) : Prop := mkCur P0 0 (X.Sem (pth [0, 1, 1, 1, 4])) wide1 bit5 bit5_0 bit5_1 bit5_2 g6 n7 i8 w R
noncomputable def eL1 := entL X (pth [0, 1, 1, 1, 4]) P0 L1T
abbrev P1 : Ps := []
abbrev S3T  (w : World) (R : Post) : Prop :=
  R (.returned (.bool false)) w
noncomputable def eS3 := entS X [eL1] (pth [0, 1, 1, 1, 7]) P1 S3T
abbrev S5T  (w : World) (R : Post) : Prop :=
  R (.returned (.bool false)) w
noncomputable def eS5 := entS X [eS3, eL1] (pth [0, 1, 2, 1, 1, 1, 8]) P1 S5T
abbrev P2 : Ps := [(1, .v [.I]), (5, .l [.I, .I, .I] ty_api_Sort), (17, .v [.st]), (18, .v [.I])]
def L7T (wide1 : Int) (bit5 : Nat) (bit5_0 bit5_1 bit5_2 : Int) (name17 : ByteArray) (i18 : Int) (w : World) (R : Post) : Prop := mkCur P2 0 (X.Sem (pth [0, 1, 1, 1, 10])) wide1 bit5 bit5_0 bit5_1 bit5_2 name17 i18 w R
noncomputable def eL7 := entL X (pth [0, 1, 1, 1, 10]) P2 L7T
abbrev S8T (wide1 : Int) (bit5 : Nat) (bit5_0 bit5_1 bit5_2 : Int) (name17 : ByteArray) (i18 : Int) (w : World) (R : Post) : Prop :=
  L7T wide1 bit5 bit5_0 bit5_1 bit5_2 name17 (IntKind.wrap .i64 (i18 + 1)) w R
noncomputable def eS8 := entS X [eL7, eS5, eS3, eL1] (pth [2, 2, 1, 1, 10]) P2 S8T
abbrev P3 : Ps := [(5, .l [.I, .I, .I] ty_api_Sort), (19, .v [.s]), (20, .v [.I]), (21, .v [.I]), (22, .v [.I])]
def L11T (bit5 : Nat) (bit5_0 bit5_1 bit5_2 : Int) (wv19 : Sl) (many20 length21 i22 : Int) (w : World) (R : Post) : Prop := mkCur P3 0 (X.Sem (pth [0, 1, 1, 1, 14])) bit5 bit5_0 bit5_1 bit5_2 wv19 many20 length21 i22 w R
noncomputable def eL11 := entL X (pth [0, 1, 1, 1, 14]) P3 L11T
abbrev S12T (bit5 : Nat) (bit5_0 bit5_1 bit5_2 : Int) (wv19 : Sl) (many20 length21 i22 : Int) (w : World) (R : Post) : Prop :=
  L11T bit5 bit5_0 bit5_1 bit5_2 wv19 many20 length21 (IntKind.wrap .i64 (i22 + 1)) w R
noncomputable def eS12 := entS X [eL11, eS8, eL7, eS5, eS3, eL1] (pth [2, 2, 1, 1, 14]) P3 S12T
theorem L11T_step : ∀ (bit5 : Nat) (bit5_0 bit5_1 bit5_2 : Int) (wv19 : Sl) (many20 length21 i22 : Int) (w : World) (R : Post) (h : sel (decide (i22 < many20)) (nwV w (.cells #[.i i22, .i i22] ty_int) fun w1 => 
  nwV w1 (.cells #[.i 7, .slice (some (nb w)) 2 2, .i 0, .i 0, .u 0, .s0, .i bit5_0, .i bit5_1, .i bit5_2] ty_api_Node) fun w2 => 
  ∃ (t156 : Sl) (w3 : World), Sem.run Tryz.prog (Builtin.append_ #[ty_sl_api_Node, ty_sl_api_Node] ty_sl_api_Node #[wv19.v, .slice (some (nb w1)) 1 1]) w2 = .ok (t156.v) w3 ∧ kept [bit5] w2 w3 ∧ S12T bit5 bit5_0 bit5_1 bit5_2 t156 many20 (IntKind.wrap .i64 ((IntKind.wrap .i64 (2 * length21)) + 6)) i22 w3 R) (cf26 [bit5] n_enthymemelaw11_graph #[wv19.v] w fun t162_0 w4 => cf15 [bit5] n_print_Term #[.agg #[t162_0.v], .i many20] w4 fun t164_0 t164_1 w5 => sel ((t164_1 == 4) == (decide (length21 > 65536))) (sel (t164_1 != 0) (cf0 [bit5] n_enthymemelaw11_lives #[] w5 fun t183 w6 => R (.returned (.bool t183)) w6) (sel (((t164_0.size : Nat) : Int) == length21) (cf0 [bit5] n_enthymemelaw11_lives #[] w5 fun t183_x1 w7 => R (.returned (.bool t183_x1)) w7) (R (.returned (.bool false)) w5))) (R (.returned (.bool false)) w5))), L11T bit5 bit5_0 bit5_1 bit5_2 wv19 many20 length21 i22 w R := mp (stepL (X := X) [eS12, eL11, eS8, eL7, eS5, eS3, eL1] (pth [0, 1, 1, 1, 14]) P3)
abbrev P4 : Ps := [(5, .l [.I, .I, .I] ty_api_Sort), (19, .v [.s]), (20, .v [.I]), (21, .v [.I])]
abbrev S10T (bit5 : Nat) (bit5_0 bit5_1 bit5_2 : Int) (wv19 : Sl) (many20 length21 : Int) (w : World) (R : Post) : Prop :=
  L11T bit5 bit5_0 bit5_1 bit5_2 wv19 many20 length21 0 w R
noncomputable def eS10 := entS X [eS12, eL11, eS8, eL7, eS5, eS3, eL1] (pth [14]) P4 S10T
abbrev P5 : Ps := [(5, .l [.I, .I, .I] ty_api_Sort), (17, .v [.st]), (19, .v [.s]), (20, .v [.I])]
abbrev S9T (bit5 : Nat) (bit5_0 bit5_1 bit5_2 : Int) (name17 : ByteArray) (wv19 : Sl) (many20 : Int) (w : World) (R : Post) : Prop :=
  S10T bit5 bit5_0 bit5_1 bit5_2 wv19 many20 ((name17.size : Nat) : Int) w R
noncomputable def eS9 := entS X [eS10, eS12, eL11, eS8, eL7, eS5, eS3, eL1] (pth [13]) P5 S9T
theorem L7T_step : ∀ (wide1 : Int) (bit5 : Nat) (bit5_0 bit5_1 bit5_2 : Int) (name17 : ByteArray) (i18 : Int) (w : World) (R : Post) (h : cf1 [bit5] n_enthymemeref01_Around #[.i wide1, .i 16] w fun t127 w1 => sel (decide (i18 < (IntKind.wrap .i64 (1 + t127)))) (¬ (((name17.size + (ByteArray.mk #[97]).size : Nat) : Int) > IntKind.i64.max) ∧ S8T wide1 bit5 bit5_0 bit5_1 bit5_2 (name17 ++ (ByteArray.mk #[97])) i18 w1 R) (nwV w1 (.cells #[.i 0, .slice none 0 0, .i 0, .i 0, .u 0, .string name17, .i bit5_0, .i bit5_1, .i bit5_2] ty_api_Node) fun w2 => 
  cf1 [bit5] n_enthymemeref01_Around #[.i (IntKind.wrap .i64 (Int.tdiv wide1 16)), .i 3] w2 fun t140 w3 => S9T bit5 bit5_0 bit5_1 bit5_2 name17 ⟨some (nb w1), 1, 1⟩ (IntKind.wrap .i64 (11 + t140)) w3 R)), L7T wide1 bit5 bit5_0 bit5_1 bit5_2 name17 i18 w R := mp (stepL (X := X) [eS9, eS10, eS12, eL11, eS8, eL7, eS5, eS3, eL1] (pth [0, 1, 1, 1, 10]) P2)
abbrev P6 : Ps := [(1, .v [.I]), (5, .l [.I, .I, .I] ty_api_Sort)]
abbrev S6T (wide1 : Int) (bit5 : Nat) (bit5_0 bit5_1 bit5_2 : Int) (w : World) (R : Post) : Prop :=
  L7T wide1 bit5 bit5_0 bit5_1 bit5_2 (ByteArray.mk #[]) 0 w R
noncomputable def eS6 := entS X [eS9, eS10, eS12, eL11, eS8, eL7, eS5, eS3, eL1] (pth [9]) P6 S6T
abbrev P7 : Ps := [(1, .v [.I]), (5, .l [.I, .I, .I] ty_api_Sort), (6, .v [.s]), (7, .v [.I]), (9, .v [.st]), (10, .v [.I])]
abbrev S4T (wide1 : Int) (bit5 : Nat) (bit5_0 bit5_1 bit5_2 : Int) (g6 : Sl) (n7 : Int) (s9 : ByteArray) (e10 : Int) (w : World) (R : Post) : Prop :=
  sel (e10 == 0) (cf26 [bit5] n_enthymemelaw11_graph #[g6.v] w fun t103_0 w1 => cf27 [bit5] n_parse_Term #[.agg #[t103_0.v], .string s9] w1 fun t105_0_0 t105_1 t105_2 t105_3 w2 => newV [bit5] w2 fun b13 w3 => 
  sel (t105_3 != 0) (loc [bit5, b13] w3 fun w4 => S5T  w4 R) (sel (t105_1 != n7) (loc [bit5, b13] w3 fun w4 => S5T  w4 R) (sel (((t105_0_0.n : Nat) : Int) != ((g6.n : Nat) : Int)) (loc [bit5, b13] w3 fun w4 => S5T  w4 R) (loc [bit5, b13] w3 fun w4 => S6T wide1 bit5 bit5_0 bit5_1 bit5_2 w4 R)))) (S6T wide1 bit5 bit5_0 bit5_1 bit5_2 w R)
noncomputable def eS4 := entS X [eS6, eS9, eS10, eS12, eL11, eS8, eL7, eS5, eS3, eL1] (pth [8]) P7 S4T
abbrev P8 : Ps := [(1, .v [.I]), (5, .l [.I, .I, .I] ty_api_Sort), (6, .v [.s]), (7, .v [.I]), (9, .v [.st]), (10, .v [.I]), (11, .v [.st]), (12, .v [.I])]
abbrev S2T (wide1 : Int) (bit5 : Nat) (bit5_0 bit5_1 bit5_2 : Int) (g6 : Sl) (n7 : Int) (s9 : ByteArray) (e10 : Int) (t11 : ByteArray) (f12 : Int) (w : World) (R : Post) : Prop :=
  sel (!((e10 == 4) == (decide (n7 > 64)))) (S3T  w R) (sel (e10 != f12) (S3T  w R) (sel (e10 == 0) (sel (((s9.size : Nat) : Int) != (IntKind.wrap .i64 ((IntKind.wrap .i64 (6 * n7)) + 1))) (S3T  w R) (sel (e10 == 0) (sel (((t11.size : Nat) : Int) != (IntKind.wrap .i64 ((IntKind.wrap .i64 ((IntKind.wrap .i64 ((IntKind.wrap .i64 (6 * n7)) + 1)) + 12)) + 19))) (S3T  w R) (S4T wide1 bit5 bit5_0 bit5_1 bit5_2 g6 n7 s9 e10 w R)) (S4T wide1 bit5 bit5_0 bit5_1 bit5_2 g6 n7 s9 e10 w R))) (sel (e10 == 0) (sel (((t11.size : Nat) : Int) != (IntKind.wrap .i64 ((IntKind.wrap .i64 ((IntKind.wrap .i64 ((IntKind.wrap .i64 (6 * n7)) + 1)) + 12)) + 19))) (S3T  w R) (S4T wide1 bit5 bit5_0 bit5_1 bit5_2 g6 n7 s9 e10 w R)) (S4T wide1 bit5 bit5_0 bit5_1 bit5_2 g6 n7 s9 e10 w R))))
noncomputable def eS2 := entS X [eS4, eS6, eS9, eS10, eS12, eL11, eS8, eL7, eS5, eS3, eL1] (pth [7]) P8 S2T
theorem L1T_step : ∀ (wide1 : Int) (bit5 : Nat) (bit5_0 bit5_1 bit5_2 : Int) (g6 : Sl) (n7 i8 : Int) (w : World) (R : Post) (h : sel (decide (i8 < n7)) (nwV w (.cells #[.i i8] ty_int) fun w1 => 
  nwV w1 (.cells #[.i 4, .slice (some (nb w)) 1 1, .i 0, .i 0, .u 0, .s0, .i bit5_0, .i bit5_1, .i bit5_2] ty_api_Node) fun w2 => 
  ∃ (t43 : Sl) (w3 : World), Sem.run Tryz.prog (Builtin.append_ #[ty_sl_api_Node, ty_sl_api_Node] ty_sl_api_Node #[g6.v, .slice (some (nb w1)) 1 1]) w2 = .ok (t43.v) w3 ∧ kept [bit5] w2 w3 ∧ L1T wide1 bit5 bit5_0 bit5_1 bit5_2 t43 n7 (IntKind.wrap .i64 (i8 + 1)) w3 R) (cf26 [bit5] n_enthymemelaw11_graph #[g6.v] w fun t46_0 w4 => cf15 [bit5] n_print_Term #[.agg #[t46_0.v], .i n7] w4 fun t48_0 t48_1 w5 => ((loc [bit5] w5 fun w6 => cf26 [bit5] n_enthymemelaw11_graph #[g6.v] w6 fun t53_0 w7 => nwV w7 (.cells #[.i 0, .string (ByteArray.mk #[120]), .i bit5_0, .i bit5_1, .i bit5_2, .i 0, .i 0, .i 1, .string (ByteArray.mk #[112]), .i 0, .i 0, .i 0, .i n7, .i 0] ty_parse_Command) fun w8 => 
  cf15 [bit5] n_print_Script #[.agg #[t53_0.v, .slice (some (nb w7)) 2 2]] w8 fun t60_0 t60_1 w9 => S2T wide1 bit5 bit5_0 bit5_1 bit5_2 g6 n7 t48_0 t48_1 t60_0 t60_1 w9 R) ∧ (loc [bit5] w5 fun w6 => nwV w6 (.cells #[.i 0, .string (ByteArray.mk #[120]), .i bit5_0, .i bit5_1, .i bit5_2, .i 0, .i 0, .i 1, .string (ByteArray.mk #[112]), .i 0, .i 0, .i 0, .i n7, .i 0] ty_parse_Command) fun w10 => 
  cf26 [bit5] n_enthymemelaw11_graph #[g6.v] w10 fun t53_x1_0 w11 => cf15 [bit5] n_print_Script #[.agg #[t53_x1_0.v, .slice (some (nb w6)) 2 2]] w11 fun t60_x1_0 t60_x1_1 w12 => S2T wide1 bit5 bit5_0 bit5_1 bit5_2 g6 n7 t48_0 t48_1 t60_x1_0 t60_x1_1 w12 R)))), L1T wide1 bit5 bit5_0 bit5_1 bit5_2 g6 n7 i8 w R := mp (stepL (X := X) [eS2, eS4, eS6, eS9, eS10, eS12, eL11, eS8, eL7, eS5, eS3, eL1] (pth [0, 1, 1, 1, 4]) P0)
abbrev P9 : Ps := [(1, .v [.I]), (5, .l [.I, .I, .I] ty_api_Sort), (6, .v [.s]), (7, .v [.I])]
abbrev S0T (wide1 : Int) (bit5 : Nat) (bit5_0 bit5_1 bit5_2 : Int) (g6 : Sl) (n7 : Int) (w : World) (R : Post) : Prop :=
  L1T wide1 bit5 bit5_0 bit5_1 bit5_2 g6 n7 0 w R
noncomputable def eS0 := entS X [eS2, eS4, eS6, eS9, eS10, eS12, eL11, eS8, eL7, eS5, eS3, eL1] (pth [4]) P9 S0T
theorem okT (deep0 wide1 : Int) (w : World) (R : Post) (h : newV [] w fun b5 w1 => 
  loc [b5] w1 fun w4 => nwV w4 (.cells #[.i 0, .slice none 0 0, .i 0, .i 0, .u 0, .string (ByteArray.mk #[120]), .i 0, .i 1, .i 0] ty_api_Node) fun w5 => 
  cf1 [b5] n_enthymemeref01_Around #[.i deep0, .i 12] w5 fun t30 w6 => S0T wide1 b5 0 1 0 ⟨some (nb w4), 1, 1⟩ (IntKind.wrap .i64 (58 + t30)) w6 R) : Calls Tryz.prog n_enthymemelaw11_PrintLimits #[.i deep0, .i wide1] w R := callsX X [eS0, eS2, eS4, eS6, eS9, eS10, eS12, eL11, eS8, eL7, eS5, eS3, eL1] h
end enthymemelaw11_PrintLimits
end Go.Proofs.YtibaobaobnpdaaaGreatDoor
set_option maxRecDepth 100000
set_option maxHeartbeats 1000000
namespace Go.Proofs.YtibaobaobnpdaaaGreatDoor
open Go Go.W

theorem c_graphL (s : Sl) (w : World) : Calls Tryz.prog n_enthymemelaw11_graph #[s.v] w fun r w' => r = .returned (.agg #[s.v]) ∧ Fr0 w w' :=
  enthymemelaw11_graph.okT s w _ ((lh0 [] (by simp)).newg fun b w1 H1 => H1.locg fun w2 H2 => ⟨rfl, H2.fr⟩)
/-- a graph that is made node by node -/
structure GrH (W : World) (b5 : Nat) (nm : ByteArray) (dbl : Bool) (i : Nat) (gs : Sl) (l : List Nd) (w : World) : Prop where
  H : LH F0 W w [.g b5, .row ty_api_Node 9 gs (l.flatMap Nd.c)] (kcE :: l.map kidE)
  hx : xs l = linG nm dbl i
namespace GrH
variable {W : World} {b5 : Nat} {nm : ByteArray} {dbl : Bool} {i : Nat} {gs : Sl} {l : List Nd} {w : World}
theorem gp (h : GrH W b5 nm dbl i gs l w) : GP w gs l := ⟨(show OwnRow w ty_api_Node 9 gs (l.flatMap Nd.c) from h.H.get 1).rdn, fun d hd => h.H.rd (kidE d) (List.mem_cons_of_mem _ (List.mem_map.2 ⟨d, hd, rfl⟩))⟩
theorem kc (h : GrH W b5 nm dbl i gs l w) : kcE.P w := h.H.rd kcE (by simp)
theorem len (h : GrH W b5 nm dbl i gs l w) : l.length = i + 1 := by rw [← lin_len (nm := nm) (dbl := dbl) i, ← h.hx]; simp [xs]
theorem n (h : GrH W b5 nm dbl i gs l w) : gs.n = i + 1 := by rw [gr_n h.gp, h.len]
theorem fr (h : GrH W b5 nm dbl i gs l w) : Fr0 W w := h.H.fr
/-- the next node -/
theorem next (h : GrH W b5 nm dbl i gs l w) (hi : i ≤ 900) {ks : Sl} {w' : World} {gs' : Sl} (H : LH F0 W w' [.g b5, .row ty_api_Node 9 gs' (l.flatMap Nd.c ++ (Nd.c ⟨lnN dbl i, ks⟩))] (kcE :: l.map kidE ++ [kidE ⟨lnN dbl i, ks⟩])) : GrH W b5 nm dbl (i + 1) gs' (l ++ [⟨lnN dbl i, ks⟩]) w' := by
  refine ⟨?_, ?_⟩
  · rw [List.flatMap_append, List.map_append]
    simpa using H
  · show (l ++ [_]).map Nd.x = linG nm dbl i ++ [lnN dbl i]
    rw [List.map_append, show l.map Nd.x = linG nm dbl i from h.hx]
    rfl
end GrH
theorem blk_kids {w : World} {b n : Nat} {l : List Int} (h : (En.c b (l.map intV) ty_int).P w) (hn : n = l.length) : Nums w ⟨some (at0 b), n, n⟩ l := blk_nums (T := ty_int) (l := l) h hn
theorem wr (a : Int) (h : -9223372036854775808 ≤ a ∧ a ≤ 9223372036854775807) : IntKind.wrap .i64 a = a := IntWalk.i64_in _ h
theorem ba_cat (a b : List UInt8) : ba a ++ ba b = ba (a ++ b) := by
  have : bl (ba a ++ ba b) = bl (ba (a ++ b)) := by
    show (ba a ++ ba b).data.toList = _
    simp [ba, bl]
  calc ba a ++ ba b = ba (bl (ba a ++ ba b)) := (ba_bl _).symm
    _ = ba (a ++ b) := by rw [this]; rfl
/-- the first node -/
theorem start {W w : World} {b5 : Nat} {nm : ByteArray} {dbl : Bool} {gs : Sl} (H : LH F0 W w [.g b5, .row ty_api_Node 9 gs (Nd.c ⟨lnV nm, ⟨none, 0, 0⟩⟩)] [kcE]) : GrH W b5 nm dbl 0 gs [⟨lnV nm, ⟨none, 0, 0⟩⟩] w := by
  refine ⟨?_, rfl⟩
  have hn : (kidE ⟨lnV nm, ⟨none, 0, 0⟩⟩).P w := Rd.nil w
  have := H.addD (kidE ⟨lnV nm, ⟨none, 0, 0⟩⟩) (Fr.refl _ _) hn (fun b hb => by simp [En.rd, lnV] at hb)
  simpa using this
theorem printLimits_law (W : World) (hk : kcE.P W) (deep wide : Int) (w0 : I64 deep) (w1 : I64 wide) :
    Calls Tryz.prog n_enthymemelaw11_PrintLimits #[.i deep, .i wide] W fun r w' => r = .returned (.bool true) ∧ Fr0 W w' := by
  have H : LH F0 W W [] [kcE] := lh0 _ (by intro e he; rw [List.mem_singleton.1 he]; exact hk)
  -- the doublings
  have dbl : ∀ (b5 : Nat) (nm : ByteArray) (many : Nat), 11 ≤ many → many ≤ 13 → 1 ≤ nm.size → nm.size ≤ 16 → nameB (bl nm) = true → ∀ (m i : Nat) (gs : Sl) (l : List Nd) (w : World), i + m = many → GrH W b5 nm true i gs l w →
      enthymemelaw11_PrintLimits.L11T b5 0 1 0 gs (many : Int) ((dblL nm.size i : Nat) : Int) (i : Int) w fun r w' => r = .returned (.bool true) ∧ Fr0 W w' := by
    intro b5 nm many h11 h13 hs1 hs16 hnb m
    induction m with
    | zero =>
      intro i gs l w hi h
      obtain rfl : i = many := by omega
      have hle := dbl_le hs16 i h13
      have htl := dbl_len nm i
      obtain ⟨hp, hT, hpos, hll⟩ := lin_pt (hs := ⟨by omega, by omega⟩) (n := i) (by omega) h.hx
      refine enthymemelaw11_PrintLimits.L11T_step _ _ _ _ _ _ _ _ _ _ (sel_false (decide_eq_false (by omega)) (h.H.callg (c_graphL gs w) ?_))
      rintro _ w2 rfl H2
      have h2 := GrH.mk H2 h.hx
      refine ⟨_, rfl, h2.H.callg (c_Term h2.gp h2.kc (fun _ => hT) (by rw [h2.hx]; exact lin_valid hnb (by omega)) hp hpos (by rw [h2.hx]; exact lin_tx (Nat.le_refl i)) (by rw [h2.hx]; exact lin_dep (Nat.le_refl i))) ?_⟩
      rintro _ w3 rfl H3
      have lv : ∀ w4, LH F0 W w4 [.g b5, .row ty_api_Node 9 gs (l.flatMap Nd.c)] (kcE :: l.map kidE) → cf0 [b5] n_enthymemelaw11_lives #[] w4 fun t w6 => (fun r w' => r = Ending.returned (Value.bool true) ∧ Fr0 W w') (.returned (.bool t)) w6 := fun w4 H4 => by
        refine H4.callg (c_lives11 w4 (H4.getD 0)) ?_
        rintro _ w5 rfl H5
        exact ⟨_, rfl, rfl, H5.fr⟩
      by_cases hbig : 65536 < dblL nm.size i
      · refine ⟨ByteArray.mk #[], 4, by unfold trmV; rw [if_pos (.inr (by omega))], sel_true ?_ (sel_true rfl (lv w3 H3))⟩
        rw [decide_eq_true (by omega : ((dblL nm.size i : Nat) : Int) > 65536)]
        rfl
      · refine ⟨⟨(txL nm true i).toArray⟩, 0, by unfold trmV; rw [if_neg (by omega)], sel_true ?_ (sel_false rfl (sel_true ?_ (lv w3 H3)))⟩
        · rw [decide_eq_false (by omega : ¬ ((dblL nm.size i : Nat) : Int) > 65536)]
          rfl
        · have : (ByteArray.mk (txL nm true i).toArray).size = dblL nm.size i := by show (txL nm true i).toArray.size = _; rw [List.size_toArray, htl]
          rw [this]
          simp
    | succ m ih =>
      intro i gs l w hi h
      have hle := dbl_le hs16 i (by omega)
      have hgn := h.n
      refine enthymemelaw11_PrintLimits.L11T_step _ _ _ _ _ _ _ _ _ _ (sel_true (decide_eq_true (by omega)) (h.H.nw fun w1 hs1 H1 => H1.ap1T 1 el_node rfl (fun gs' w2 H2 => ?_) (by rw [hgn]; omega)))
      have hkid : (kidE ⟨lnN true i, ⟨some (at0 w.heap.size), 2, 2⟩⟩).P w2 := blk_kids (l := [(i : Int), (i : Int)]) (H2.get 2) rfl
      have H3 := H2.freeze 2 (kidE ⟨lnN true i, ⟨some (at0 w.heap.size), 2, 2⟩⟩) rfl hkid (fun x hx => by
        have hx : x ∈ blkL ⟨some (at0 w.heap.size), 2, 2⟩ := hx
        simpa [blkL, En.ob] using hx)
      have h3 := h.next (by omega) (ks := ⟨some (at0 w.heap.size), 2, 2⟩) H3
      have e1 : IntKind.wrap .i64 (IntKind.wrap .i64 (2 * ((dblL nm.size i : Nat) : Int)) + 6) = ((dblL nm.size (i + 1) : Nat) : Int) := by
        rw [wr (2 * _) (by omega), wr _ (by omega)]
        show _ = (((2 * dblL nm.size i + 6 : Nat)) : Int)
        omega
      show enthymemelaw11_PrintLimits.L11T _ _ _ _ _ _ _ _ _ _
      rw [e1, i64_next _ (by omega)]
      exact ih (i + 1) gs' _ w2 (by omega) h3
  have name : ∀ (b5 : Nat) (m i : Nat) (w : World), i + m = (aroundI wide 16).toNat + 1 → LH F0 W w [.g b5] [kcE] → enthymemelaw11_PrintLimits.L7T wide b5 0 1 0 (ba (List.replicate i 97)) (i : Int) w fun r w' => r = .returned (.bool true) ∧ Fr0 W w' := by
    intro b5 m
    obtain ⟨r0, r1⟩ := aroundI_range wide 16 (by omega)
    have hmax : IntKind.i64.max = 9223372036854775807 := rfl
    have ek : IntKind.wrap .i64 (1 + aroundI wide 16) = 1 + aroundI wide 16 := wr _ (by omega)
    induction m with
    | zero =>
      intro i w hi H
      refine enthymemelaw11_PrintLimits.L7T_step _ _ _ _ _ _ _ _ _ (H.callg (n_around wide 16 w (by omega) w1) ?_)
      rintro _ w2 rfl H2
      refine ⟨_, rfl, sel_false (decide_eq_false (by rw [ek]; omega)) (H2.nwrow (cs := Nd.c ⟨lnV (ba (List.replicate i 97)), ⟨none, 0, 0⟩⟩) (n := 1) (sz := 9) rfl (by decide) fun w3 H3 => ?_)⟩
      have hw16 : I64 (IntKind.wrap .i64 (Int.tdiv wide 16)) := by
        have := IntWalk.i64_in (Int.tdiv wide 16)
        have h1 : Int.tdiv wide 16 * 16 + Int.tmod wide 16 = wide := Int.tdiv_mul_add_tmod wide 16
        have h2 := Int.tmod_lt_of_pos wide (by omega : (0 : Int) < 16)
        have h3 : -16 < Int.tmod wide 16 := by
          have := Int.tmod_lt_of_pos (-wide) (by omega : (0 : Int) < 16)
          rw [Int.neg_tmod] at this
          omega
        rw [this (by unfold I64 at w1; omega)]
        unfold I64 at w1 ⊢
        omega
      refine H3.callg (n_around _ 3 w3 (by omega) hw16) ?_
      rintro _ w4 rfl H4
      obtain ⟨s0, s1⟩ := aroundI_range (IntKind.wrap .i64 (Int.tdiv wide 16)) 3 (by omega)
      obtain ⟨k, hk'⟩ := Int.eq_ofNat_of_zero_le s0
      have em : IntKind.wrap .i64 (11 + aroundI (IntKind.wrap .i64 (Int.tdiv wide 16)) 3) = ((11 + k : Nat) : Int) := by rw [wr _ (by omega)]; omega
      have hsz : (ba (List.replicate i 97)).size = i := by rw [ba_size, List.length_replicate]
      have hnb : nameB (bl (ba (List.replicate i 97))) = true := by
        rw [bl_ba]
        obtain ⟨j, rfl⟩ : ∃ j, i = j + 1 := ⟨i - 1, by omega⟩
        rw [List.replicate_succ]
        unfold nameB
        simp only [List.length_replicate, List.all_replicate]
        rw [decide_eq_true (by omega), show letQ 97 = true by decide, show namQ 97 = true by decide]
        simp
      refine ⟨_, rfl, ?_⟩
      dsimp only
      rw [em]
      show enthymemelaw11_PrintLimits.L11T _ _ _ _ _ _ _ _ _ _
      rw [show (((ba (List.replicate i 97)).size : Nat) : Int) = ((dblL (ba (List.replicate i 97)).size 0 : Nat) : Int) from rfl]
      exact dbl b5 (ba (List.replicate i 97)) (11 + k) (by omega) (by omega) (by omega) (by omega) hnb (11 + k) 0 _ [⟨lnV (ba (List.replicate i 97)), ⟨none, 0, 0⟩⟩] w4 (by omega) (start H4)
    | succ m ih =>
      intro i w hi H
      refine enthymemelaw11_PrintLimits.L7T_step _ _ _ _ _ _ _ _ _ (H.callg (n_around wide 16 w (by omega) w1) ?_)
      rintro _ w2 rfl H2
      have hsz : (ba (List.replicate i 97)).size = i := by rw [ba_size, List.length_replicate]
      refine ⟨_, rfl, sel_true (decide_eq_true (by rw [ek]; omega)) ⟨?_, ?_⟩⟩
      · rw [hsz]
        show ¬ (((i + 1 : Nat)) : Int) > _
        omega
      · show enthymemelaw11_PrintLimits.L7T _ _ _ _ _ _ _ _ _
        rw [i64_next _ (by omega), show ba (List.replicate i 97) ++ ByteArray.mk #[97] = ba (List.replicate (i + 1) 97) by rw [List.replicate_succ']; exact ba_cat _ [97]]
        exact ih (i + 1) w2 (by omega) H2
  have hs1 : (ba [120]).size ≤ 1000 ∧ 0 < (ba [120]).size := ⟨by decide, by decide⟩
  have hnx : nameB (bl (ba [120])) = true := rfl
  -- behind Term and Script
  have aft : ∀ (b5 n : Nat) (gs : Sl) (l : List Nd) (w : World) (c0 c1 : Cm), 58 ≤ n → n ≤ 69 → GrH W b5 (ba [120]) false n gs l w → c0 = ⟨0, ba [120], bitS, 0, 0⟩ → c1 = ⟨1, ba [112], ⟨0, 0, 0⟩, (n : Int), 0⟩ →
      ∀ (s9 : ByteArray) (e10 : Int) (t11 : ByteArray) (f12 : Int), trmV n (txL (ba [120]) false n) = .tuple #[.string s9, .i e10] → scrV n (scrT c0 c1 (txL (ba [120]) false n)) = .tuple #[.string t11, .i f12] →
      enthymemelaw11_PrintLimits.S2T wide b5 0 1 0 gs (n : Int) s9 e10 t11 f12 w fun r w' => r = .returned (.bool true) ∧ Fr0 W w' := by
    intro b5 n gs l w c0 c1 h58 h69 h hc0 hc1 s9 e10 t11 f12 hs ht
    have htl := not_len n
    have s6 : ∀ {w : World} {D : List En} {L : List En}, LH F0 W w (.g b5 :: L) D → kcE ∈ D → enthymemelaw11_PrintLimits.S6T wide b5 0 1 0 w fun r w' => r = .returned (.bool true) ∧ Fr0 W w' := fun {w D L} H hk =>
      name b5 ((aroundI wide 16).toNat + 1) 0 w (by omega) ((H.take 1).forget [kcE] (by simpa using hk))
    by_cases h64 : 64 < n
    · unfold trmV at hs
      rw [if_pos (.inl h64)] at hs
      unfold scrV at ht
      rw [if_pos h64] at ht
      simp only [Value.tuple.injEq, Array.mk.injEq, List.cons.injEq, Value.string.injEq, Value.int.injEq, and_true, true_and] at hs ht
      obtain ⟨rfl, rfl⟩ := hs
      obtain ⟨rfl, rfl⟩ := ht
      refine sel_false ?_ (sel_false rfl (sel_false rfl (sel_false rfl (sel_false rfl (s6 h.H (by simp))))))
      rw [decide_eq_true (by omega : (n : Int) > 64)]
      rfl
    · unfold trmV at hs
      rw [if_neg (by omega)] at hs
      unfold scrV at ht
      rw [if_neg h64] at ht
      simp only [Value.tuple.injEq, Array.mk.injEq, List.cons.injEq, Value.string.injEq, Value.int.injEq, and_true, true_and] at hs ht
      obtain ⟨rfl, rfl⟩ := hs
      obtain ⟨rfl, rfl⟩ := ht
      have z1 : (ByteArray.mk (txL (ba [120]) false n).toArray).size = 6 * n + 1 := by show (txL (ba [120]) false n).toArray.size = _; rw [List.size_toArray, htl]
      have y0 : (bl (headC c0)).length = 17 := by rw [hc0]; kernel_rfl
      have y1 : (bl (headC c1)).length = 10 := by
        have : headC c1 = headC ⟨1, ba [112], ⟨0, 0, 0⟩, 0, 0⟩ := by rw [hc1]; rfl
        have y : (bl (headC ⟨1, ba [112], ⟨0, 0, 0⟩, 0, 0⟩)).length = 10 := by kernel_rfl
        rw [this, y]
      have z2 : (ByteArray.mk (scrT c0 c1 (txL (ba [120]) false n)).toArray).size = 6 * n + 32 := by
        show (scrT c0 c1 (txL (ba [120]) false n)).toArray.size = _
        rw [List.size_toArray]
        unfold scrT
        simp only [List.length_append, List.length_cons, List.length_nil, y0, y1, htl]
        omega
      have v1 : IntKind.wrap .i64 (IntKind.wrap .i64 (6 * (n : Int)) + 1) = 6 * (n : Int) + 1 := by rw [wr (6 * _) (by omega), wr _ (by omega)]
      have v2 : IntKind.wrap .i64 (IntKind.wrap .i64 (IntKind.wrap .i64 (IntKind.wrap .i64 (6 * (n : Int)) + 1) + 12) + 19) = 6 * (n : Int) + 32 := by rw [v1, wr (_ + 12) (by omega), wr _ (by omega)]; omega
      have q1 : ((((ByteArray.mk (txL (ba [120]) false n).toArray).size : Nat) : Int) != IntKind.wrap .i64 (IntKind.wrap .i64 (6 * (n : Int)) + 1)) = false := by rw [z1, v1]; simp
      have q2 : ((((ByteArray.mk (scrT c0 c1 (txL (ba [120]) false n)).toArray).size : Nat) : Int) != IntKind.wrap .i64 (IntKind.wrap .i64 (IntKind.wrap .i64 (IntKind.wrap .i64 (6 * (n : Int)) + 1) + 12) + 19)) = false := by rw [z2, v2]; simp
      refine sel_false ?_ (sel_false rfl (sel_true rfl (sel_false q1 (sel_true rfl (sel_false q2 (sel_true rfl (h.H.callg (c_graphL gs w) ?_)))))))
      · rw [decide_eq_false (by omega : ¬ (n : Int) > 64)]
        rfl
      rintro _ w2 rfl H2
      have h2 := GrH.mk H2 h.hx
      refine ⟨_, rfl, H2.callg (c_pTerm h2.gp h2.kc h.hx h58 (by omega)) ?_⟩
      rintro _ w3 rfl H3
      refine ⟨_, _, _, _, rfl, H3.newg fun b13 w4 H4 => sel_false rfl (sel_false (by simp) (sel_false (by simp) (H4.locg fun w5 H5 => s6 H5 (by simp))))⟩
  have chain : ∀ (b5 n : Nat), 58 ≤ n → n ≤ 69 → ∀ (m i : Nat) (gs : Sl) (l : List Nd) (w : World), i + m = n → GrH W b5 (ba [120]) false i gs l w →
      enthymemelaw11_PrintLimits.L1T wide b5 0 1 0 gs (n : Int) (i : Int) w fun r w' => r = .returned (.bool true) ∧ Fr0 W w' := by
    intro b5 n h58 h69 m
    induction m with
    | zero =>
      intro i gs l w hi h
      obtain rfl : i = n := by omega
      have htl := not_len i
      obtain ⟨hp, hT, hpos, hll⟩ := lin_pt (hs := hs1) (n := i) (by omega) h.hx
      have hv : vldX (xs l) = 0 := by rw [h.hx]; exact lin_valid hnx (by omega)
      have ht : (txsX hdX (xs l))[i]? = some (txL (ba [120]) false i) := by rw [h.hx]; exact lin_tx (Nat.le_refl i)
      have hd : (dpsX (xs l))[i]? = some i := by rw [h.hx]; exact lin_dep (Nat.le_refl i)
      have gx : ∀ (j : Nat) (d : Nd), l[j]? = some d → d.x = lnAt (ba [120]) false j := fun j d hj => by
        have h1 := xs_get hj
        have := (List.getElem?_eq_some_iff.1 hj).1
        rw [h.hx, lin_get i j (by omega)] at h1
        exact (Option.some.inj h1).symm
      have g0 : l[0]? = some (l[0]'(by omega)) := List.getElem?_eq_getElem (by omega)
      have g1 : l[i]? = some (l[i]'(by omega)) := List.getElem?_eq_getElem (by omega)
      generalize l[0]'(by omega) = d0 at g0
      generalize l[i]'(by omega) = d1 at g1
      have x0 : d0.x = lnV (ba [120]) := gx 0 d0 g0
      have x1 := gx i d1 g1
      have hall : ∀ e ∈ l, e.x.op = 0 → e.x.tx = d0.x.tx := fun e he h0 => by
        obtain ⟨j, hj⟩ := List.mem_iff_getElem?.1 he
        have hj' := gx j e hj
        cases j with
        | zero => rw [hj', x0]; rfl
        | succ j => rw [hj'] at h0; exact absurd h0 (by show ¬ (4 : Int) = 0; decide)
      obtain ⟨c0, hc0⟩ : ∃ c0 : Cm, c0 = ⟨0, ba [120], bitS, 0, 0⟩ := ⟨_, rfl⟩
      obtain ⟨c1, hc1⟩ : ∃ c1 : Cm, c1 = ⟨1, ba [112], ⟨0, 0, 0⟩, (i : Int), 0⟩ := ⟨_, rfl⟩
      have tv : ∃ (s9 : ByteArray) (e10 : Int), trmV i (txL (ba [120]) false i) = .tuple #[.string s9, .i e10] := by
        unfold trmV
        split
        · exact ⟨_, _, rfl⟩
        · exact ⟨_, _, rfl⟩
      have sv : ∃ (t11 : ByteArray) (f12 : Int), scrV i (scrT c0 c1 (txL (ba [120]) false i)) = .tuple #[.string t11, .i f12] := by
        unfold scrV
        split
        · exact ⟨_, _, rfl⟩
        · exact ⟨_, _, rfl⟩
      obtain ⟨s9, e10, tv⟩ := tv
      obtain ⟨t11, f12, sv⟩ := sv
      have scr : ∀ {w : World} (cs : Sl), GrH W b5 (ba [120]) false i gs l w → RdN 7 w cs ([c0, c1].flatMap Cm.c) → Calls Tryz.prog n_print_Script #[.agg #[gs.v, cs.v]] w fun r w' => r = .returned (scrV i (scrT c0 c1 (txL (ba [120]) false i))) ∧ Fr0 w w' := fun cs h hc =>
        c_Script h.gp hc h.kc (fun _ => hT) hv hp (by omega) (i0 := 0) (i1 := i) (d0 := d0) (d1 := d1) (x0 := 120) (x1 := 112) g0 g1 (by rw [x0]; rfl) (by rw [x0]; rfl) ⟨by decide, by decide⟩ ⟨by decide, by decide⟩ (by rw [x1]; exact lnAt_st i) hall (by rw [hc0, x0]; rfl) hc1 (by rw [x0]; exact ⟨rfl, by decide⟩) ht (by omega) hd
      refine enthymemelaw11_PrintLimits.L1T_step _ _ _ _ _ _ _ _ _ _ (sel_false (decide_eq_false (by omega)) (h.H.callg (c_graphL gs w) ?_))
      rintro _ w2 rfl H2
      have h2 := GrH.mk H2 h.hx
      refine ⟨_, rfl, h2.H.callg (c_Term h2.gp h2.kc (fun _ => hT) hv hp hpos ht hd) ?_⟩
      rintro _ w3 rfl H3
      rw [tv]
      refine ⟨_, _, rfl, H3.locg fun w4 H4 => H4.callg (c_graphL gs w4) ?_, H3.locg fun w4 H4 => H4.nw fun w5 hs5 H5 => H5.callg (c_graphL gs w5) ?_⟩
      · rintro _ w5 rfl H5
        refine ⟨_, rfl, H5.nw fun w6 hs6 H6 => ?_⟩
        have hrd : RdN 7 w6 ⟨some (nb w5), 2, 2⟩ ([c0, c1].flatMap Cm.c) := by rw [hc0, hc1]; exact blk_rdn (H6.ob 2) rfl
        refine H6.callg (scr ⟨some (nb w5), 2, 2⟩ (GrH.mk (H6.take 2) h.hx) hrd) ?_
        rintro _ w7 rfl H7
        rw [sv]
        exact ⟨_, _, rfl, aft b5 i gs l w7 c0 c1 h58 h69 (GrH.mk (H7.take 2) h.hx) hc0 hc1 _ _ _ _ tv sv⟩
      · rintro _ w6 rfl H6
        have hrd : RdN 7 w6 ⟨some (nb w4), 2, 2⟩ ([c0, c1].flatMap Cm.c) := by rw [hc0, hc1]; exact blk_rdn (H6.ob 2) rfl
        refine ⟨_, rfl, H6.callg (scr ⟨some (nb w4), 2, 2⟩ (GrH.mk (H6.take 2) h.hx) hrd) ?_⟩
        rintro _ w7 rfl H7
        rw [sv]
        exact ⟨_, _, rfl, aft b5 i gs l w7 c0 c1 h58 h69 (GrH.mk (H7.take 2) h.hx) hc0 hc1 _ _ _ _ tv sv⟩
    | succ m ih =>
      intro i gs l w hi h
      have hgn := h.n
      refine enthymemelaw11_PrintLimits.L1T_step _ _ _ _ _ _ _ _ _ _ (sel_true (decide_eq_true (by omega)) (h.H.nw fun w1 hs1 H1 => H1.ap1T 1 el_node rfl (fun gs' w2 H2 => ?_) (by rw [hgn]; omega)))
      have hkid : (kidE ⟨lnN false i, ⟨some (at0 w.heap.size), 1, 1⟩⟩).P w2 := blk_kids (l := [(i : Int)]) (H2.get 2) rfl
      have H3 := H2.freeze 2 (kidE ⟨lnN false i, ⟨some (at0 w.heap.size), 1, 1⟩⟩) rfl hkid (fun x hx => by
        have hx : x ∈ blkL ⟨some (at0 w.heap.size), 1, 1⟩ := hx
        simpa [blkL, En.ob] using hx)
      have h3 := h.next (by omega) (ks := ⟨some (at0 w.heap.size), 1, 1⟩) H3
      rw [i64_next _ (by omega)]
      exact ih (i + 1) gs' _ w2 (by omega) h3
  obtain ⟨a0, a1⟩ := aroundI_range deep 12 (by omega)
  obtain ⟨k, hk'⟩ := Int.eq_ofNat_of_zero_le a0
  have en : IntKind.wrap .i64 (58 + aroundI deep 12) = ((58 + k : Nat) : Int) := by rw [wr _ (by omega)]; omega
  refine enthymemelaw11_PrintLimits.okT deep wide W _ (H.newg fun b5 w1' H1 => H1.locg fun w2 H2 => H2.nwrow (cs := Nd.c ⟨lnV (ba [120]), ⟨none, 0, 0⟩⟩) (n := 1) (sz := 9) rfl (by decide) fun w3 H3 => H3.callg (n_around deep 12 w3 (by omega) w0) ?_)
  rintro _ w4 rfl H4
  refine ⟨_, rfl, ?_⟩
  dsimp only
  rw [en]
  exact chain b5 (58 + k) (by omega) (by omega) (58 + k) 0 _ [⟨lnV (ba [120]), ⟨none, 0, 0⟩⟩] w4 (by omega) (start H4)
end Go.Proofs.YtibaobaobnpdaaaGreatDoor
set_option maxRecDepth 100000
set_option maxHeartbeats 1000000
namespace Go.Proofs.YtibaobaobnpdaaaGreatDoor
open Go Go.W

/-- the table, out of the row's condition -/
theorem kc_of {W : World} (h : laidMetH Tryz.prog [("enthymeme/term.kidCounts", Rows.laid_enthymeme_term_kidCounts)] W) : kcE.P W := by
  rw [MakeChecks.laidMetH_plain _ _ _ (by kernel_rfl)] at h
  have ht := Go.Lib.tabIs_of_head (k := .i64) (zs := kcL) (g := 0) (t := ty_35_int) (e := ty_int) (n := 35) (by kernel_rfl) (by kernel_rfl) (by kernel_rfl) (by kernel_rfl) (by kernel_rfl) (by kernel_rfl) h
  refine rd_in rfl (Nat.le_refl _) (fun h => by cases h) (fun i v hi => ⟨at0 0, rfl, ?_⟩)
  have hl : i < kcL.length := by
    have := (List.getElem?_eq_some_iff.1 hi).1
    simpa using this
  have hc := ht.cell (g := 0) (by kernel_rfl) i hl
  rw [List.getElem?_map, List.getElem?_eq_getElem hl] at hi
  rw [List.getD, List.getElem?_eq_getElem hl] at hc
  simp only [Option.map_some, Option.some.injEq] at hi
  rw [← hi]
  rw [show (at0 0).add i = ⟨0, i, none⟩ from addz 0 i]
  exact hc
end Go.Proofs.YtibaobaobnpdaaaGreatDoor
set_option maxRecDepth 100000
set_option maxHeartbeats 1000000
namespace Go.Proofs.YtibaobaobnpdaaaGreatDoor
open Go Go.W

theorem laid_tail {P : Program} {a : String × DataW Unit} {r : List (String × DataW Unit)} {W : World} (h : laidMet P (a :: r) W) : laidMet P r W := by
  obtain ⟨n, d⟩ := a
  obtain ⟨ps, ⟨g, t, cs, fuel, p, q, _, _, _, _, hr, rfl⟩, hn, hc⟩ := h
  exact ⟨q, hr, (List.nodup_append.1 hn).2.1, fun b off hm => hc b off (by simp [hm])⟩
theorem printLimits_walk (W : World) (hL : laidMetH Tryz.prog [("math/bits.deBruijn32tab", Rows.laid_math_bits_deBruijn32tab), ("math/bits.deBruijn64tab", Rows.laid_math_bits_deBruijn64tab), ("internal/strconv.uint64pow10", Rows.laid_internal_strconv_uint64pow10), ("strconv.ErrRange", Rows.laid_strconv_ErrRange), ("strconv.ErrSyntax", Rows.laid_strconv_ErrSyntax), ("enthymeme/term.kidCounts", Rows.laid_enthymeme_term_kidCounts)] W) (deep wide : Int) (w0 : I64 deep) (w1 : I64 wide) :
    Calls Tryz.prog n_enthymemelaw11_PrintLimits #[.i deep, .i wide] W fun r w' => r = .returned (.bool true) ∧ Fr0 W w' := by
  rw [MakeChecks.laidMetH_plain _ _ _ (by kernel_rfl)] at hL
  have h := laid_tail (laid_tail (laid_tail (laid_tail (laid_tail hL))))
  rw [← MakeChecks.laidMetH_plain _ _ _ (by kernel_rfl)] at h
  exact printLimits_law W (kc_of h) deep wide w0 w1
end Go.Proofs.YtibaobaobnpdaaaGreatDoor

/- Package lexer: the contract of Tokens. -/
import Derived.Test.YtemagdpieebjlaaLG
namespace Go.Proofs.Ytemagdpieebjlaa
open Go Go.W

theorem qu_len : ∀ (n : Nat) (l : List UInt8), l.length < n → ∀ (t : List UInt8) (u : Nat), qu l = .ok t u → 1 ≤ u ∧ u ≤ l.length ∧ t.length < u
  | 0, l, h => by omega
  | n + 1, [], _ => by intro a e h; unfold qu at h; cases h
  | n + 1, c :: l, hn => by
    intro t u h
    by_cases h34 : c.toNat = 34
    · unfold qu at h; rw [if_pos h34] at h; cases h; simp
    · rw [qu_item c l h34] at h
      cases hi : item1 (c :: l) with
      | bad a' e' => rw [hi] at h; cases h
      | ok d v =>
        rw [hi] at h
        simp only at h
        have hv := item_len hi
        cases hq : qu ((c :: l).drop v) with
        | bad a e => rw [hq] at h; cases h
        | ok t' v' =>
          rw [hq] at h; cases h
          have := qu_len n _ (by simp at hn ⊢; omega) _ _ hq
          simp at this ⊢ hv
          omega
theorem exam_kind {t : List UInt8} {k : Int} (h : exam t = (k, 0)) : k = 2 ∨ k = 3 ∨ k = 4 := by
  unfold exam at h
  split at h
  · cases h
  · split at h
    · split at h
      · cases h
      · split at h <;> cases h; simp
    · split at h
      · split at h
        · cases h
        · split at h <;> cases h; simp
      · unfold examH at h
        split at h
        · split at h
          · split at h
            · split at h <;> cases h; simp
            · cases h
          · split at h
            · split at h
              · split at h <;> cases h; simp
              · cases h
            · cases h
        · cases h
theorem next1_tok {l : List UInt8} {k : Int} {t : List UInt8} {u : Nat} (h : next1 l = .tok k t u) : k ≠ 6 ∧ 1 ≤ u ∧ u ≤ l.length ∧ t.length ≤ u := by
  unfold next1 at h
  cases l with
  | nil => cases h
  | cons c l =>
    simp only at h
    split at h
    · cases h; simp
    · split at h
      · cases h; simp
      · split at h
        · split at h
          · rename_i t' u' hq
            cases h
            have := qu_len _ l (Nat.lt_succ_self _) _ _ hq
            simp; omega
          · cases h
        · split at h
          · rename_i hst
            have hwc : wordB c = true := by unfold startB at hst; unfold wordB; simp at hst ⊢; rcases hst with (h | h) | h <;> simp [h]
            have hle : ((c :: l).takeWhile wordB).length ≤ (c :: l).length := (List.takeWhile_prefix (p := wordB) (l := c :: l)).length_le
            have h1 : 1 ≤ ((c :: l).takeWhile wordB).length := by rw [List.takeWhile_cons, if_pos hwc]; simp
            cases hx : exam ((c :: l).takeWhile wordB) with
            | mk kd e =>
              rw [hx] at h
              simp only at h
              split at h
              · cases h
              · rename_i he
                simp only [ne_eq, Decidable.not_not] at he
                subst he
                have hk := exam_kind hx
                split at h
                · cases h; exact ⟨by omega, h1, hle, Nat.le_refl _⟩
                · split at h
                  · cases h; exact ⟨by omega, h1, hle, Nat.le_refl _⟩
                  · cases h
          · cases h
theorem el_toks : ElemOk Try.prog ty_sl_lexer_Token ty_lexer_Token (.agg #[.int .i64 0, .string (ByteArray.mk #[]), .int .i64 0]) 3 32 := ⟨by kernel_rfl, by kernel_rfl, rfl, by decide, by decide⟩
def tokC (t : Tok) : List Value := [.int .i64 t.kind, .string (ba t.text), .int .i64 (t.at' : Int)]
def toksC (l : List Tok) : List Value := l.flatMap tokC
theorem toksC_len : ∀ l : List Tok, (toksC l).length = 3 * l.length
  | [] => rfl
  | t :: l => by
    have := toksC_len l
    unfold toksC at this ⊢
    rw [List.flatMap_cons, List.length_append, this, List.length_cons]
    simp [tokC]; omega
theorem toksC_snoc (l : List Tok) (t : Tok) : toksC (l ++ [t]) = toksC l ++ tokC t := by simp [toksC]
/-- nothing -/
def En.nil : En := ⟨[], fun _ => True, fun _ _ _ h => h, fun _ _ b hb => by simp at hb, by simp⟩
abbrev EL (t2 t3 t4 l5 bi l_ D : Nat) (v2 v3 v4 : Value) (sl : Sl) (acc : List Tok) (k : En) (o : Obj) : List En :=
  [.c t2 [v2] ty_sl_lexer_Token, .c t3 [v3] ty_int, .c t4 [v4] ty_api_Errno, .c l5 [sl.v] ty_sl_lexer_Token, k, .row ty_lexer_Token 3 sl (toksC acc), .ob D (.deferred (some [])), .ob l_ o]
abbrev ED (bs bi bk bn : Nat) (s : ByteArray) : List En :=
  [.c bs [.string s] ty_string, .c bk [.func (.func n_lexer_reader_1) #[] #[.pointer (some (at0 bi)), .pointer (some (at0 bs))]] ty_func, .c bn [.func (.func n_lexer_reader_2) #[] #[.pointer (some (at0 bk)), .pointer (some (at0 bi)), .pointer (some (at0 bs))]] ty_func_lexer_Token_lexer_fault]
def EachEnd (w0 : World) (t2 t3 t4 l5 bi l_ D bs bk bn : Nat) (s : ByteArray) (o_ : LoopState → Option Code → Obj) (acc : List Tok) (w : World) : TR → Prop
  | .ok L => ∃ sl k, LH F0 w0 w (EL t2 t3 t4 l5 bi l_ D (.slice none 0 0) (.int .i64 0) (.int .i64 0) sl (acc ++ L) k (o_ .ready none)) (ED bs bi bk bn s)
  | .bad a e => e ≠ 0 ∧ ∃ sl acc' k, LH F0 w0 w (EL t2 t3 t4 l5 bi l_ D (.slice none 0 0) (.int .i64 (a : Int)) (.int .i64 e) sl acc' k (o_ .done (some .ret))) (ED bs bi bk bn s)
theorem EachEnd_push {w0 : World} {t2 t3 t4 l5 bi l_ D bs bk bn : Nat} {s : ByteArray} {o_ : LoopState → Option Code → Obj} {acc : List Tok} {w : World} {t : Tok} {q : TR} (h : EachEnd w0 t2 t3 t4 l5 bi l_ D bs bk bn s o_ (acc ++ [t]) w q) : EachEnd w0 t2 t3 t4 l5 bi l_ D bs bk bn s o_ acc w (q.push t) := by
  cases q with
  | ok L => simpa [EachEnd, TR.push] using h
  | bad a e => exact h
theorem l_each_loop (s : ByteArray) (hsm : s.size ≤ 1000000) (w0 : World) (t2 t3 t4 l5 bi l_ D bs bk bn : Nat) (x : Addr) (o_ : LoopState → Option Code → Obj)
    (hY : ∀ (x14_0 : Int) (x14_1 : ByteArray) (x14_2 x15_0 x15_1 : Int) (w_ : World) (K_ : Bool → World → Prop), w_.heap[l_]? = some (o_ .ready none) → lexer_Tokens.B_S5 l_ o_ (at0 t2) (at0 t3) (at0 t4) (at0 l5) x x14_0 x14_1 x14_2 x15_0 x15_1 w_ (fun r_ w1 => ∃ b_ : Bool, r_ = .returned (.bool b_) ∧ K_ b_ w1) → W.yieldB Try.prog l_ #[.agg #[.int .i64 x14_0, .string x14_1, .int .i64 x14_2], .agg #[.int .i64 x15_0, .int .i64 x15_1]] w_ K_)
    (R : Post) : ∀ (n k : Nat) (l : List UInt8) (acc : List Tok) (sl : Sl) (w : World), l.length < n → (bl s).drop k = l → k ≤ s.size → acc.length ≤ k →
    LH F0 w0 w (EL t2 t3 t4 l5 bi l_ D (.slice none 0 0) (.int .i64 0) (.int .i64 0) sl acc (.c bi [.int .i64 (k : Int)] ty_int) (o_ .ready none)) (ED bs bi bk bn s) →
    (∀ w', EachEnd w0 t2 t3 t4 l5 bi l_ D bs bk bn s o_ acc w' (toks n k l) → R (.returned (.tuple #[])) w') → lexer_each_1.L0 l_ (at0 bn) w R := by
  intro n
  induction n with
  | zero => intro k l acc sl w hn; omega
  | succ n ih =>
    intro k l acc sl w hn hl hk hacc H hR
    have hsk := skipN_le false l
    have hll : l.length = s.size - k := by rw [← hl, List.length_drop, bl_len]
    have slen : sl.n = acc.length := by have := OwnRow.len (H.get 5); rw [toksC_len] at this; omega
    refine lexer_each_1.L0_step _ _ _ _ ⟨⟨n_lexer_reader_2, #[], #[.pointer (some (at0 bk)), .pointer (some (at0 bi)), .pointer (some (at0 bs))]⟩, H.ldD0 2, andT_mk (by kernel_rfl) ((l_next hsm (H.ob 4) (show w.heap[bs]? = _ from H.getD 0) (show w.heap[bk]? = _ from H.getD 1) hk).mono ?_)⟩
    intro r w1 hp
    rw [hl] at hp
    -- a round with a token
    have round : ∀ (kd : Int) (tx : List UInt8) (i : Nat) (w1 : World) (e5 : En) (w8 : World) (p q : Nat), LH F0 w0 w8 (EL t2 t3 t4 l5 bi l_ D (.slice none 0 0) (.int .i64 0) (.int .i64 0) sl acc e5 (o_ .ready none) ++ [.c p [.int .i64 kd, .string (ba tx), .int .i64 (i : Int)] ty_lexer_Token, .c q [.int .i64 0, .int .i64 0] ty_lexer_fault]) (ED bs bi bk bn s) →
        ∀ K : Bool → World → Prop, (∀ sl' w', LH F0 w0 w' (EL t2 t3 t4 l5 bi l_ D (.slice none 0 0) (.int .i64 0) (.int .i64 0) sl' (acc ++ [⟨kd, tx, i⟩]) e5 (o_ .ready none) ++ [.c p [.int .i64 kd, .string (ba tx), .int .i64 (i : Int)] ty_lexer_Token, .c q [.int .i64 0, .int .i64 0] ty_lexer_fault]) (ED bs bi bk bn s) → K true w') →
        W.yieldB Try.prog l_ #[.agg #[.int .i64 kd, .string (ba tx), .int .i64 (i : Int)], .agg #[.int .i64 0, .int .i64 0]] w8 K := by
      intro kd tx i w1 e5 w8 p q H8 K hK
      refine hY _ _ _ _ _ w8 K (H8.ob 7) ?_
      refine H8.nw fun w9 _ H9 => H9.st3 10 rfl fun w10 H10 => ?_
      refine H10.nw fun w11 _ H11 => H11.st2 11 rfl fun w12 H12 => H12.pu 7 rfl fun w13 H13 => ⟨_, H13.ld 11 0, sel_false rfl ?_⟩
      refine ⟨_, H13.ld0 3, _, _, _, H13.ld 10 0, H13.ld 10 1, H13.ld 10 2, H13.ap1 5 el_toks rfl (fun sl' w14 H14 _ _ => ?_) (by omega)⟩
      refine H14.st0 3 rfl fun w15 H15 => H15.pu 7 rfl fun w16 H16 => ⟨true, rfl, hK sl' w16 ?_⟩
      have := H16.take 10
      simp only [List.set_cons_succ, List.set_cons_zero, List.take_succ_cons, List.take_zero, List.cons_append, List.nil_append] at this
      simp only [EL, toksC_snoc]
      exact this
    cases hn1 : next1 (l.drop (skipN false l)) with
    | fin =>
      rw [hn1] at hp
      obtain ⟨rfl, f1, c1⟩ := hp
      have H1 := H.callc 4 f1 c1
      refine ⟨_, _, _, _, _, rfl, H1.nw fun w2 _ H2 => H2.nw fun w3 _ H3 => H3.st3 8 rfl fun w4 H4 => H4.st2 9 rfl fun w5 H5 => ⟨_, _, _, H5.ld 8 0, H5.ld 8 1, H5.ld 8 2, _, _, H5.ld 9 0, H5.ld 9 1, ?_⟩⟩
      refine round 6 [] _ w1 _ _ _ _ H5 _ (fun sl' w6 H6 => sel_false rfl ⟨_, H6.ld 9 0, sel_false rfl ⟨_, H6.ld 8 0, sel_true rfl (hR w6 ?_)⟩⟩)
      unfold toks
      simp only [hn1]
      exact ⟨sl', _, H6.take 8⟩
    | tok kd tx u =>
      rw [hn1] at hp
      obtain ⟨rfl, f1, c1⟩ := hp
      have H1 := H.callc 4 f1 c1
      obtain ⟨hk6, hu1, hu2, _⟩ := next1_tok hn1
      rw [List.length_drop] at hu2
      refine ⟨_, _, _, _, _, rfl, H1.nw fun w2 _ H2 => H2.nw fun w3 _ H3 => H3.st3 8 rfl fun w4 H4 => H4.st2 9 rfl fun w5 H5 => ⟨_, _, _, H5.ld 8 0, H5.ld 8 1, H5.ld 8 2, _, _, H5.ld 9 0, H5.ld 9 1, ?_⟩⟩
      refine round kd tx _ w1 _ _ _ _ H5 _ (fun sl' w6 H6 => sel_false rfl ⟨_, H6.ld 9 0, sel_false rfl ⟨_, H6.ld 8 0, sel_false (by simpa using hk6) ?_⟩⟩)
      refine ih (k + skipN false l + u) ((l.drop (skipN false l)).drop u) (acc ++ [Tok.mk kd tx (k + skipN false l)]) sl' w6 (by simp; omega) (by rw [← hl, List.drop_drop, List.drop_drop, Nat.add_assoc]) (by omega) (by simp; omega) (H6.take 8) (fun w' he => hR w' ?_)
      unfold toks
      simp only [hn1]
      exact EachEnd_push he
    | bad a e =>
      rw [hn1] at hp
      obtain ⟨⟨x0, x1, x2, rfl⟩, he, f1⟩ := hp
      have H1 := H.upd 4 En.nil rfl (f1.mono fun x _ e => by simp [En.ob, e]) trivial (by simp [En.nil])
      refine ⟨_, _, _, _, _, rfl, H1.nw fun w2 _ H2 => H2.nw fun w3 _ H3 => H3.st3 8 rfl fun w4 H4 => H4.st2 9 rfl fun w5 H5 => ⟨_, _, _, H5.ld 8 0, H5.ld 8 1, H5.ld 8 2, _, _, H5.ld 9 0, H5.ld 9 1, ?_⟩⟩
      refine hY _ _ _ _ _ w5 _ (H5.ob 7) ?_
      refine H5.nw fun w9 _ H9 => H9.st3 10 rfl fun w10 H10 => ?_
      refine H10.nw fun w11 _ H11 => H11.st2 11 rfl fun w12 H12 => H12.pu 7 rfl fun w13 H13 => ⟨_, H13.ld 11 0, sel_true (by simpa using he) ?_⟩
      refine H13.dr fun w14 H14 => ⟨_, H14.ld 11 1, _, H14.ld 11 0, H14.st0 0 rfl fun w15 H15 => ⟨H15.ld 11 0, H15.ld 11 1, H15.st0 1 rfl fun w16 H16 => ⟨H16.ld 11 0, H16.st0 2 rfl fun w17 H17 => H17.pu 7 rfl fun w18 H18 => ⟨false, rfl, sel_true rfl (hR w18 ?_)⟩⟩⟩⟩
      unfold toks
      simp only [hn1]
      exact ⟨he, sl, acc, En.nil, H18.take 8⟩
theorem rangeEnd_n {w2 : World} {l : Nat} {o : LoopState → Option Code → Obj} {N : World → Prop} {X : Nat → World → Prop} {T : World → Prop} (h : puV w2 l (o .ready none) (o .exhausted none) N) : RangeEnd w2 l o N X T := .inl h
theorem rangeEnd_t {w2 : World} {l : Nat} {o : LoopState → Option Code → Obj} {N : World → Prop} {X : Nat → World → Prop} {T : World → Prop} (h : puV w2 l (o .done (some .ret)) (o .exhausted (some .ret)) T) : RangeEnd w2 l o N X T := .inr (.inr h)
def tokens (l : List UInt8) : TR := if 65536 < l.length then .bad 65536 4 else toks (l.length + 1) 0 l
def TksPost (w : World) (q : TR) : Post := fun r w' => match q with
  | .ok L => ∃ sl : Sl, r = .returned (.tuple #[sl.v, .int .i64 0, .int .i64 0]) ∧ OwnRow w' ty_lexer_Token 3 sl (toksC L) ∧ Fr0 w w' ∧ ∀ b ∈ blkL sl, w.heap.size ≤ b
  | .bad a e => r = .returned (.tuple #[.slice none 0 0, .int .i64 (a : Int), .int .i64 e]) ∧ e ≠ 0 ∧ Fr0 w w'
theorem l_Tokens (s : ByteArray) (hsm : s.size ≤ 1000000) (w : World) : Calls Try.prog n_lexer_Tokens #[.string s] w (TksPost w (tokens (bl s))) := by
  refine lexer_Tokens.ok _ w _ ((LH.start (M := F0) [] (by simp)).nw fun w1 _ H1 => H1.nw fun w2 _ H2 => H2.nw fun w3 _ H3 => sel_dec (fun h => ?_) (fun h => ?_))
  · refine H3.st0 0 rfl fun w4 H4 => H4.st0 1 rfl fun w5 H5 => H5.st0 2 rfl fun w6 H6 => ⟨⟨none, 0, 0⟩, H6.ld0 0, _, H6.ld0 1, _, H6.ld0 2, ?_⟩
    unfold tokens
    rw [if_pos (by rw [bl_len]; omega)]
    exact ⟨rfl, by omega, H6.fr⟩
  · unfold tokens
    rw [if_neg (by rw [bl_len]; omega)]
    refine H3.nw fun w4 _ H4 => ?_
    refine lexer_reader.ok _ _ _ (H4.nw fun w5 _ H5 => H5.nw fun w6 _ H6 => H6.st0 5 rfl fun w7 H7 => H7.nw fun w8 _ H8 => H8.st0 6 rfl fun w9 H9 => ⟨_, rfl, ?_⟩)
    refine lexer_each.ok ⟨n_lexer_reader_2, #[], #[.pointer (some (at0 w7.heap.size)), .pointer (some (at0 w5.heap.size)), .pointer (some (at0 w4.heap.size))]⟩ _ _ (H9.nw fun w10 _ H10 => ⟨_, rfl, ?_⟩)
    show ∀ o_ : LoopState → Option Code → Obj, _
    intro o_ hY
    have e1 : (w10.alloc (.deferred (some []))).heap.size = w10.heap.size + 1 := size_alloc _ _
    have HD := ((H10.freeze 4 _ rfl (H10.get 4) (fun b hb => hb)))
    have HE := HD.freeze 5 _ rfl (HD.get 5) (fun b hb => hb)
    have HF := HE.freeze 5 _ rfl (HE.get 5) (fun b hb => hb)
    have HG := ((HF.nilrow ty_lexer_Token 3).alloc (.deferred (some []))).alloc (o_ .ready none)
    rw [e1] at HG
    refine lexer_each_1.ok _ _ _ _ (l_each_loop s hsm w w.heap.size w1.heap.size w2.heap.size w3.heap.size w5.heap.size (w10.heap.size + 1) w10.heap.size w4.heap.size w7.heap.size w9.heap.size _ o_ hY _ ((bl s).length + 1) 0 (bl s) [] ⟨none, 0, 0⟩ _ (by omega) rfl (by omega) (by simp) HG (fun w' he => ⟨⟨_, rfl⟩, ?_⟩))
    cases ht : toks ((bl s).length + 1) 0 (bl s) with
    | ok L =>
      rw [ht] at he
      obtain ⟨sl, k, H⟩ := he
      refine rangeEnd_n (H.pu 7 rfl fun w11 H11 => ⟨sl, H11.ld0 3, H11.st0 0 rfl fun w12 H12 => H12.st0 1 rfl fun w13 H13 => H13.st0 2 rfl fun w14 H14 => H14.pu 6 rfl fun w15 H15 => ⟨sl, H15.ld0 0, _, H15.ld0 1, _, H15.ld0 2, ?_⟩⟩)
      exact ⟨sl, rfl, H15.get 5, H15.fr, fun b hb => (H15.new _ (List.mem_of_getElem? (i := 5) rfl) b hb).resolve_right id⟩
    | bad a e =>
      rw [ht] at he
      obtain ⟨he0, sl, acc', k, H⟩ := he
      refine rangeEnd_t (H.pu 7 rfl fun w11 H11 => H11.pu 6 rfl fun w15 H15 => ⟨⟨none, 0, 0⟩, H15.ld0 0, _, H15.ld0 1, _, H15.ld0 2, ?_⟩)
      exact ⟨rfl, he0, H15.fr⟩
end Go.Proofs.Ytemagdpieebjlaa

/- Package lexer: the contracts of item and quoted. -/
import Derived.Test.YtemagdpieebjlaaLC
namespace Go.Proofs.Ytemagdpieebjlaa
open Go Go.W

/-! ### Blocks of two cells -/
theorem set2 {w : World} {b : Nat} {a0 a1 : Value} {T : TypeId} (h : w.heap[b]? = some (.cells #[a0, a1] T (0, 0))) (v0 v1 : Value) (K : World → Prop)
    (hK : ∀ w', w'.heap[b]? = some (.cells #[v0, v1] T (0, 0)) → Fr (· = b) w w' → K w') :
    (w.cell? (at0 b)).isSome = true ∧ w.frozen? (at0 b) = false ∧ let w1 := w.setCell (at0 b) v0
    (w1.cell? ((at0 b).add 1)).isSome = true ∧ w1.frozen? ((at0 b).add 1) = false ∧ let w2 := w1.setCell ((at0 b).add 1) v1
    K w2 := by
  obtain ⟨x1, x2, x3, x4⟩ := set_c h 0 (by simp) v0
  rw [add0] at x1 x2 x3 x4
  obtain ⟨y1, y2, y3, y4⟩ := set_c x3 1 (by simp) v1
  exact ⟨x1, x2, y1, y2, hK _ (by simpa using y3) (x4.trans y4 fun _ _ e => e)⟩
theorem get2 {w : World} {b : Nat} {v0 v1 : Value} {T : TypeId} {f : Nat × Nat} (h : w.heap[b]? = some (.cells #[v0, v1] T f)) :
    w.cell? ((at0 b).add 0) = some v0 ∧ w.cell? ((at0 b).add 1) = some v1 :=
  ⟨cellAt (p := at0 b) h rfl rfl, cellAt (p := at0 b) h rfl rfl⟩
/-- a fault is handed back -/
theorem fault_ret {w : World} {rb fb : Nat} {a0 a1 : Value} {T T' : TypeId} {e a : Int} (hr : w.heap[rb]? = some (.cells #[a0, a1] T (0, 0))) (hf : w.heap[fb]? = some (.cells #[.int .i64 e, .int .i64 a] T' (0, 0))) (K : Int → Int → World → Prop) (hK : ∀ w', Fr (· = rb) w w' → K e a w') :
    ∃ t0 : Int, ∃ t1 : Int, w.drew.cell? ((at0 fb).add 0) = some (.int .i64 t0) ∧ w.drew.cell? ((at0 fb).add 1) = some (.int .i64 t1) ∧
    (w.drew.cell? (at0 rb)).isSome = true ∧ w.drew.frozen? (at0 rb) = false ∧ let w1 := w.drew.setCell (at0 rb) (.int .i64 t0)
    (w1.cell? ((at0 rb).add 1)).isSome = true ∧ w1.frozen? ((at0 rb).add 1) = false ∧ let w2 := w1.setCell ((at0 rb).add 1) (.int .i64 t1)
    ∃ r0 : Int, ∃ r1 : Int, w2.cell? ((at0 rb).add 0) = some (.int .i64 r0) ∧ w2.cell? ((at0 rb).add 1) = some (.int .i64 r1) ∧ K r0 r1 w2 := by
  have fd : Fr0 w w.drew := Fr.drew _ _
  obtain ⟨g0, g1⟩ := get2 (fd.at hf id)
  refine ⟨e, a, g0, g1, set2 (fd.at hr id) (.int .i64 e) (.int .i64 a) (fun w2 => ∃ r0 : Int, ∃ r1 : Int, w2.cell? ((at0 rb).add 0) = some (.int .i64 r0) ∧ w2.cell? ((at0 rb).add 1) = some (.int .i64 r1) ∧ K r0 r1 w2) fun w' h' f' => ?_⟩
  obtain ⟨k0, k1⟩ := get2 h'
  exact ⟨e, a, k0, k1, hK w' (fd.of0.trans f' fun _ _ h => h)⟩
/-- no fault is handed back -/
theorem fine_ret {w : World} {rb : Nat} {a0 a1 : Value} {T : TypeId} (hr : w.heap[rb]? = some (.cells #[a0, a1] T (0, 0))) (e a : Int) (K : Int → Int → World → Prop) (hK : ∀ w', Fr (· = rb) w w' → K e a w') :
    (w.cell? (at0 rb)).isSome = true ∧ w.frozen? (at0 rb) = false ∧ let w1 := w.setCell (at0 rb) (.int .i64 e)
    (w1.cell? ((at0 rb).add 1)).isSome = true ∧ w1.frozen? ((at0 rb).add 1) = false ∧ let w2 := w1.setCell ((at0 rb).add 1) (.int .i64 a)
    ∃ r0 : Int, ∃ r1 : Int, w2.cell? ((at0 rb).add 0) = some (.int .i64 r0) ∧ w2.cell? ((at0 rb).add 1) = some (.int .i64 r1) ∧ K r0 r1 w2 := by
  refine set2 hr (.int .i64 e) (.int .i64 a) (fun w2 => ∃ r0 : Int, ∃ r1 : Int, w2.cell? ((at0 rb).add 0) = some (.int .i64 r0) ∧ w2.cell? ((at0 rb).add 1) = some (.int .i64 r1) ∧ K r0 r1 w2) fun w' h' f' => ?_
  obtain ⟨k0, k1⟩ := get2 h'
  exact ⟨e, a, k0, k1, hK w' f'⟩
theorem hex_at (c : UInt8) (h : digB 16 c = true) : Go.Lib.indexByte [48, 49, 50, 51, 52, 53, 54, 55, 56, 57, 97, 98, 99, 100, 101, 102] c = (hexV c : Int) ∧ hexV c < 16 := by
  have all : ∀ x : Fin 256, digB 16 (UInt8.ofNat x.val) = true → Go.Lib.indexByte [48, 49, 50, 51, 52, 53, 54, 55, 56, 57, 97, 98, 99, 100, 101, 102] (UInt8.ofNat x.val) = (hexV (UInt8.ofNat x.val) : Int) ∧ hexV (UInt8.ofNat x.val) < 16 := by decide +kernel
  have := all ⟨c.toNat, c.toNat_lt⟩
  simp only [UInt8.ofNat_toNat] at this
  exact this h
theorem hex_or (x y : Nat) (hx : x < 16) (hy : y < 16) : W.bOr .i64 (IntKind.wrap .i64 ((x : Int) * 2 ^ 4)) (y : Int) = ((16 * x + y : Nat) : Int) := by
  have all : ∀ x y : Fin 16, W.bOr .i64 (IntKind.wrap .i64 ((x.val : Int) * 2 ^ 4)) (y.val : Int) = ((16 * x.val + y.val : Nat) : Int) := by decide +kernel
  exact all ⟨x, hx⟩ ⟨y, hy⟩
def ItemPost (i : Nat) (w : World) : IR → Post
  | .ok c u => fun r w' => r = .returned (.tuple #[.int .u8 (c.toNat : Int), .int .i64 ((i + u : Nat) : Int), .agg #[.int .i64 0, .int .i64 0]]) ∧ Fr0 w w'
  | .bad a e => fun r w' => (∃ x y, r = .returned (.tuple #[.int .u8 x, .int .i64 y, .agg #[.int .i64 e, .int .i64 ((i + a : Nat) : Int)]])) ∧ Fr0 w w'
theorem l_item (s : ByteArray) (i : Nat) (c : UInt8) (l : List UInt8) (hl : (bl s).drop i = c :: l) (hsm : s.size ≤ 1000000) (w : World) : Calls Try.prog n_lexer_item #[.string s, .int .i64 (i : Int)] w (ItemPost i w (item1 (c :: l))) := by
  have hsz : s.size = i + l.length + 1 := by
    have := congrArg List.length hl
    rw [List.length_drop, bl_len] at this
    simp at this
    omega
  have get : ∀ k, s[i + k]? = (c :: l)[k]? := fun k => by rw [bl_get (l := bl s) rfl, ← hl, List.getElem?_drop]
  have g0 : s[i]? = some c := get 0
  refine lexer_item.ok _ _ w _ ?_
  unfold lexer_item.S0
  intro w1
  have f1 : Fr0 w w1 := Fr.alloc _ _ _
  have s1 : w1.heap.size = w.heap.size + 1 := size_alloc _ _
  have c1 : w1.heap[w.heap.size]? = some (.cells #[.int .i64 0, .int .i64 0] ty_lexer_fault (0, 0)) := heap_new w _
  clear_value w1
  unfold lexer_item.S1
  intro w2 w3
  have f2 : Fr0 w1 w2 := Fr.alloc _ _ _
  have f3 : Fr0 w2 w3 := Fr.alloc _ _ _
  have s2 : w2.heap.size = w1.heap.size + 1 := size_alloc _ _
  have s3 : w3.heap.size = w2.heap.size + 1 := size_alloc _ _
  have m2 : w2.heap[w1.heap.size]? = some (.cells #[.int .i64 0, .int .i64 0] ty_lexer_fault (0, 0)) := heap_new w1 _
  have r3 : w3.heap[w2.heap.size]? = some (.cells #[.int .i64 0, .int .i64 0] ty_lexer_fault (0, 0)) := heap_new w2 _
  have m3 := f3.at m2 id
  have c3 := (f2.tr0 f3).at c1 id
  have F3 : Fr0 w w3 := f1.tr0 (f2.tr0 f3)
  clear_value w2 w3
  refine set2 m3 (.int .i64 3) (.int .i64 ((s.size : Nat) : Int)) (fun w4 => (w4.cell? (at0 w2.heap.size)).isSome = true ∧ w4.frozen? (at0 w2.heap.size) = false ∧ let w5 := w4.setCell (at0 w2.heap.size) (.int .i64 2)
    (w5.cell? ((at0 w2.heap.size).add 1)).isSome = true ∧ w5.frozen? ((at0 w2.heap.size).add 1) = false ∧ let w6 := w5.setCell ((at0 w2.heap.size).add 1) (.int .i64 (i : Int))
    lexer_item.S2 s (i : Int) (at0 w.heap.size) (at0 w1.heap.size) (at0 w2.heap.size) w6 _) fun w4 m4 f4 => ?_
  refine set2 (f4.at r3 (by omega)) (.int .i64 2) (.int .i64 (i : Int)) (fun w6 => lexer_item.S2 s (i : Int) (at0 w.heap.size) (at0 w1.heap.size) (at0 w2.heap.size) w6 _) fun w6 r6 f6 => ?_
  have hs4 : w3.heap.size ≤ w4.heap.size := f4.size
  have m6 := f6.at m4 (by omega)
  have c6 := f6.at (f4.at c3 (by omega)) (by omega)
  have F6 : Fr0 w w6 := (F3.trn f4 fun x e => by omega).trn f6 fun x e => by omega
  have last : ∀ {w' : World}, Fr (· = w.heap.size) w6 w' → Fr0 w w' := fun f => F6.trn f fun x e => by omega
  have g0' : s[Int.toNat (i : Int)]? = some c := by rw [Int.toNat_natCast]; exact g0
  have e1 : IntKind.wrap .i64 ((i : Int) + 1) = ((i + 1 : Nat) : Int) := i64_next i (by omega)
  refine ⟨by omega, c, g0', sel_intro (fun h92 => ?_) (fun h92 => ?_)⟩
  · have n92 : c.toNat ≠ 92 := fun e => by rw [e] at h92; simp at h92
    have e : item1 (c :: l) = if c.toNat < 32 ∨ 126 < c.toNat then .bad 0 2 else .ok c 1 := by
      conv => lhs; unfold item1
      simp only [if_pos n92]
    rw [e]
    have bad : c.toNat < 32 ∨ 126 < c.toNat → lexer_item.S4 (i : Int) (at0 w.heap.size) (at0 w2.heap.size) w6 (ItemPost i w (if c.toNat < 32 ∨ 126 < c.toNat then .bad 0 2 else .ok c 1)) := fun h => by
      rw [if_pos h]
      exact fault_ret c6 r6 (fun r0 r1 w' => ItemPost i w (.bad 0 2) (.returned (.tuple #[.int .u8 0, .int .i64 (i : Int), .agg #[.int .i64 r0, .int .i64 r1]])) w') fun w' f => ⟨⟨_, _, rfl⟩, last f⟩
    refine ⟨by omega, c, g0', sel_intro (fun h32 => bad ?_) (fun h32 => ⟨by omega, c, g0', sel_intro (fun h126 => bad ?_) (fun h126 => ?_)⟩)⟩
    · have := of_decide_eq_true h32; omega
    · have := of_decide_eq_true h126; omega
    · have := of_decide_eq_false h32
      have := of_decide_eq_false h126
      rw [if_neg (by omega)]
      refine ⟨by omega, c, g0', ?_⟩
      rw [e1]
      exact fine_ret c6 0 0 (fun r0 r1 w' => ItemPost i w (.ok c 1) (.returned (.tuple #[.int .u8 (c.toNat : Int), .int .i64 ((i + 1 : Nat) : Int), .agg #[.int .i64 r0, .int .i64 r1]])) w') fun w' f => ⟨rfl, last f⟩
  · have y92 : ¬ c.toNat ≠ 92 := by
      have : ((c.toNat : Nat) : Int) = 92 := by simpa using h92
      omega
    have form : lexer_item.S4 (i : Int) (at0 w.heap.size) (at0 w2.heap.size) w6 (ItemPost i w (.bad 0 2)) :=
      fault_ret c6 r6 (fun r0 r1 w' => ItemPost i w (.bad 0 2) (.returned (.tuple #[.int .u8 0, .int .i64 (i : Int), .agg #[.int .i64 r0, .int .i64 r1]])) w') fun w' f => ⟨⟨_, _, rfl⟩, last f⟩
    have more : ∀ a : Nat, s.size = i + a → lexer_item.S7 (i : Int) (at0 w.heap.size) (at0 w1.heap.size) w6 (ItemPost i w (.bad a 3)) := fun a ha => by
      rw [ha] at m6
      exact fault_ret c6 m6 (fun r0 r1 w' => ItemPost i w (.bad a 3) (.returned (.tuple #[.int .u8 0, .int .i64 (i : Int), .agg #[.int .i64 r0, .int .i64 r1]])) w') fun w' f => ⟨⟨_, _, rfl⟩, last f⟩
    unfold lexer_item.S6
    rw [e1]
    cases l with
    | nil =>
      have e : item1 [c] = .bad 1 3 := by conv => lhs; unfold item1
                                          simp only [if_neg y92]
      rw [e]
      exact sel_true (by simp at hsz; simp [hsz]) (more 1 (by simp at hsz; omega))
    | cons d l2 =>
      refine sel_false (by simp at hsz; simp; omega) ?_
      unfold lexer_item.S8
      rw [e1, Int.toNat_natCast]
      refine ⟨by omega, d, get 1, ?_⟩
      have two : ∀ (x : Int), lexer_item.S12 (i : Int) (at0 w.heap.size) x w6 fun r w' => r = .returned (.tuple #[.int .u8 x, .int .i64 ((i + 2 : Nat) : Int), .agg #[.int .i64 0, .int .i64 0]]) ∧ Fr0 w w' := fun x => by
        unfold lexer_item.S12
        rw [show IntKind.wrap .i64 ((i : Int) + 2) = ((i + 2 : Nat) : Int) from by rw [IntWalk.i64_in _ (by omega)]; omega]
        exact fine_ret c6 0 0 (fun r0 r1 w' => Ending.returned (.tuple #[.int .u8 x, .int .i64 ((i + 2 : Nat) : Int), .agg #[.int .i64 r0, .int .i64 r1]]) = .returned (.tuple #[.int .u8 x, .int .i64 ((i + 2 : Nat) : Int), .agg #[.int .i64 0, .int .i64 0]]) ∧ Fr0 w w') fun w' f => ⟨rfl, last f⟩
      refine sel_intro (fun h120 => ?_) (fun h120 => ?_)
      · have n120 : d.toNat ≠ 120 := fun e => by rw [e] at h120; simp at h120
        have e : item1 (c :: d :: l2) = if d.toNat = 34 ∨ d.toNat = 92 then .ok d 2 else .bad 0 2 := by
          conv => lhs; unfold item1
          simp only [if_neg y92, if_pos n120]
        rw [e]
        refine sel_intro (fun h34 => sel_intro (fun h92' => ?_) (fun h92' => ?_)) (fun h34 => ?_)
        · rw [if_neg (fun h => by rcases h with h | h
                                  · rw [h] at h34; simp at h34
                                  · rw [h] at h92'; simp at h92')]
          exact form
        · have : ((d.toNat : Nat) : Int) = 92 := by simpa using h92'
          rw [if_pos (.inr (by omega))]
          exact two _
        · have : ((d.toNat : Nat) : Int) = 34 := by simpa using h34
          rw [if_pos (.inl (by omega))]
          exact two _
      · have y120 : ¬ d.toNat ≠ 120 := by
          have : ((d.toNat : Nat) : Int) = 120 := by simpa using h120
          omega
        have nq : ¬ (d.toNat = 34 ∨ d.toNat = 92) := by omega
        have e2 : IntKind.wrap .i64 ((i : Int) + 2) = ((i + 2 : Nat) : Int) := by rw [IntWalk.i64_in _ (by omega)]; omega
        have e4 : IntKind.wrap .i64 ((i : Int) + 4) = ((i + 4 : Nat) : Int) := by rw [IntWalk.i64_in _ (by omega)]; omega
        have e3 : IntKind.wrap .i64 (((i + 2 : Nat) : Int) + 1) = ((i + 3 : Nat) : Int) := i64_next _ (by omega)
        have e4' : IntKind.wrap .i64 (((i + 3 : Nat) : Int) + 1) = ((i + 4 : Nat) : Int) := i64_next _ (by omega)
        show lexer_item.L15 s (i : Int) (at0 w.heap.size) (at0 w1.heap.size) (at0 w2.heap.size) 0 (IntKind.wrap .i64 ((i : Int) + 2)) w6 _
        rw [e2]
        refine lexer_item.L15_step _ _ _ _ _ _ _ _ _ ?_
        unfold lexer_item.S16
        rw [e4]
        refine sel_true (decide_eq_true (by omega)) ?_
        cases l2 with
        | nil =>
          have e : item1 [c, d] = .bad 2 3 := by
            conv => lhs; unfold item1
            simp only [if_neg y92, if_neg nq, if_neg y120]
          rw [e]
          exact sel_true (by simp at hsz; simp [hsz]; omega) (more 2 (by simp at hsz; omega))
        | cons x l3 =>
          refine sel_false (by simp at hsz; simp; omega) ?_
          refine ⟨by omega, x, by rw [Int.toNat_natCast]; exact get 2, (l_digit x 16 w6).mono ?_⟩
          rintro r w7 ⟨rfl, rfl⟩
          refine ⟨_, rfl, sel_intro (fun hx => ?_) (fun hx => ?_)⟩
          · have hx' : ¬ digB 16 x = true := by simpa using hx
            have e : item1 (c :: d :: x :: l3) = .bad 0 2 := by
              conv => lhs; unfold item1
              simp only [if_neg y92, if_neg nq, if_neg y120, if_neg hx']
            rw [e]
            exact form
          · have hx' : digB 16 x = true := by simpa using hx
            obtain ⟨hxi, hx16⟩ := hex_at x hx'
            refine ⟨by omega, x, by rw [Int.toNat_natCast]; exact get 2, (s_indexByte _ x w6).mono ?_⟩
            rintro r w7 ⟨rfl, rfl⟩
            refine ⟨_, rfl, ?_⟩
            show lexer_item.L15 s (i : Int) (at0 w.heap.size) (at0 w1.heap.size) (at0 w2.heap.size) (W.bOr .i64 (IntKind.wrap .i64 (0 * 2 ^ 4)) (Go.Lib.indexByte [48, 49, 50, 51, 52, 53, 54, 55, 56, 57, 97, 98, 99, 100, 101, 102] x)) (IntKind.wrap .i64 (((i + 2 : Nat) : Int) + 1)) w6 _
            rw [e3, hxi, show W.bOr .i64 (IntKind.wrap .i64 (0 * 2 ^ 4)) ((hexV x : Nat) : Int) = ((16 * 0 + hexV x : Nat) : Int) from hex_or 0 (hexV x) (by omega) hx16, show 16 * 0 + hexV x = hexV x by omega]
            refine lexer_item.L15_step _ _ _ _ _ _ _ _ _ ?_
            unfold lexer_item.S16
            rw [e4]
            refine sel_true (decide_eq_true (by omega)) ?_
            cases l3 with
            | nil =>
              have e : item1 [c, d, x] = .bad 3 3 := by
                conv => lhs; unfold item1
                simp only [if_neg y92, if_neg nq, if_neg y120, if_pos hx']
              rw [e]
              exact sel_true (by simp at hsz; simp [hsz]; omega) (more 3 (by simp at hsz; omega))
            | cons y l4 =>
              refine sel_false (by simp at hsz; simp; omega) ?_
              refine ⟨by omega, y, by rw [Int.toNat_natCast]; exact get 3, (l_digit y 16 w6).mono ?_⟩
              rintro r w7 ⟨rfl, rfl⟩
              refine ⟨_, rfl, sel_intro (fun hy => ?_) (fun hy => ?_)⟩
              · have hy' : ¬ digB 16 y = true := by simpa using hy
                have e : item1 (c :: d :: x :: y :: l4) = .bad 0 2 := by
                  conv => lhs; unfold item1
                  simp only [if_neg y92, if_neg nq, if_neg y120, if_pos hx', if_neg hy']
                rw [e]
                exact form
              · have hy' : digB 16 y = true := by simpa using hy
                obtain ⟨hyi, hy16⟩ := hex_at y hy'
                refine ⟨by omega, y, by rw [Int.toNat_natCast]; exact get 3, (s_indexByte _ y w6).mono ?_⟩
                rintro r w7 ⟨rfl, rfl⟩
                refine ⟨_, rfl, ?_⟩
                show lexer_item.L15 s (i : Int) (at0 w.heap.size) (at0 w1.heap.size) (at0 w2.heap.size) (W.bOr .i64 (IntKind.wrap .i64 (((hexV x : Nat) : Int) * 2 ^ 4)) (Go.Lib.indexByte [48, 49, 50, 51, 52, 53, 54, 55, 56, 57, 97, 98, 99, 100, 101, 102] y)) (IntKind.wrap .i64 (((i + 3 : Nat) : Int) + 1)) w6 _
                rw [e4', hyi, hex_or _ _ hx16 hy16]
                refine lexer_item.L15_step _ _ _ _ _ _ _ _ _ ?_
                unfold lexer_item.S16
                rw [e4]
                refine sel_false (decide_eq_false (by omega)) ?_
                have e : item1 (c :: d :: x :: y :: l4) = .ok (UInt8.ofNat (16 * hexV x + hexV y)) 4 := by
                  conv => lhs; unfold item1
                  simp only [if_neg y92, if_neg nq, if_neg y120, if_pos hx', if_pos hy']
                rw [e]
                unfold lexer_item.S23
                rw [e4]
                refine fine_ret c6 0 0 (fun r0 r1 w' => ItemPost i w (.ok (UInt8.ofNat (16 * hexV x + hexV y)) 4) (.returned (.tuple #[.int .u8 (IntKind.wrap .u8 ((16 * hexV x + hexV y : Nat) : Int)), .int .i64 ((i + 4 : Nat) : Int), .agg #[.int .i64 r0, .int .i64 r1]])) w') fun w' f => ⟨?_, last f⟩
                rw [u8_nat, UInt8.toNat_ofNat']
end Go.Proofs.Ytemagdpieebjlaa

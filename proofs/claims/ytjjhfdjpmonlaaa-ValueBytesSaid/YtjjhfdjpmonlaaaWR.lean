/- Package wire: what a Writer holds, and the contracts of its methods. -/
import Derived.Test.YtjjhfdjpmonlaaaBF
import Derived.Test.YtjjhfdjpmonlaaaWL
namespace Go.Proofs.Ytjjhfdjpmonlaaa
open Go Go.W

/-! ### What a writer holds -/
def WrRep (w : World) (wb : Nat) (bs : List UInt8) (own : List Nat) : Prop :=
  ∃ s : Sl, own = wb :: blkL s ∧ w.heap[wb]? = some (.cells #[s.v] ty_wire_Writer (0, 0)) ∧ BytesO w s bs
theorem ow_ne {w : World} {e T : TypeId} {s : Sl} {vs : List Value} (h : Ow w e s vs) {b : Nat} {cs : Array Value} {f : Nat × Nat} (hb : w.heap[b]? = some (.cells cs T f)) (hT : e ≠ T) : b ∉ blkL s := fun hm => by
  obtain ⟨cs', f', hc⟩ := h.2.row.typ b hm
  rw [hc] at hb
  injection hb with hb
  injection hb with _ ht _
  exact hT ht
theorem WrRep.lt {w : World} {wb : Nat} {bs : List UInt8} {own : List Nat} (h : WrRep w wb bs own) : ∀ b ∈ own, b < w.heap.size := by
  obtain ⟨s, rfl, h1, h2⟩ := h
  intro b hb
  rcases List.mem_cons.1 hb with rfl | hb
  · exact lt_of_heap h1
  · exact h2.lt b hb
theorem WrRep.fr {M : Nat → Prop} {w w' : World} {wb : Nat} {bs : List UInt8} {own : List Nat} (h : WrRep w wb bs own) (hf : Fr M w w') (hn : ∀ b ∈ own, ¬ M b) : WrRep w' wb bs own := by
  obtain ⟨s, rfl, h1, h2⟩ := h
  exact ⟨s, rfl, hf.at h1 (hn _ (by simp)), h2.fr hf fun b hb => hn b (by simp [hb])⟩
theorem WrRep.fr0 {w w' : World} {wb : Nat} {bs : List UInt8} {own : List Nat} (h : WrRep w wb bs own) (hf : Fr0 w w') : WrRep w' wb bs own := h.fr hf fun _ _ h => h
theorem WrRep.new (w : World) : WrRep (w.alloc (.cells #[.slice none 0 0] ty_wire_Writer)) w.heap.size [] [w.heap.size] := ⟨⟨none, 0, 0⟩, rfl, heap_new w _, Ow.nil _ _⟩

/-- after a method -/
def WrAt (w : World) (wb : Nat) (own : List Nat) (bs : List UInt8) (w' : World) : Prop := ∃ own', WrRep w' wb bs own' ∧ Fr (· ∈ own) w w' ∧ ∀ x ∈ own', x ∈ own ∨ w.heap.size ≤ x
def WrPost (w : World) (wb : Nat) (own : List Nat) (bs : List UInt8) : Post := fun r w' => r = .returned (.tuple #[]) ∧ WrAt w wb own bs w'
theorem WrAt.refl {w : World} {wb : Nat} {own : List Nat} {bs : List UInt8} (h : WrRep w wb bs own) : WrAt w wb own bs w := ⟨own, h, Fr.refl _ _, fun _ h => .inl h⟩
theorem WrAt.then {w w' w'' : World} {wb : Nat} {own own' : List Nat} {bs' : List UInt8} (h1 : Fr (· ∈ own) w w') (h2 : ∀ x ∈ own', x ∈ own ∨ w.heap.size ≤ x) (h : WrAt w' wb own' bs' w'') : WrAt w wb own bs' w'' := by
  obtain ⟨own'', r, f, o⟩ := h
  refine ⟨own'', r, h1.trans f fun x hx hm => ?_, fun x hx => ?_⟩
  · rcases h2 x hm with h | h
    · exact h
    · omega
  · rcases o x hx with h | h
    · exact h2 x h
    · exact .inr (Nat.le_trans h1.size h)
/-- the store behind an append -/
theorem wr_store {w w1 w2 : World} {wb : Nat} {s s' : Sl} {bs bs' : List UInt8} (hc : w.heap[wb]? = some (.cells #[s.v] ty_wire_Writer (0, 0))) (h0 : BytesO w s bs) (f1 : Fr0 w w1) (ho : BytesO w2 s' bs') (f2 : Fr (· ∈ blkL s) w1 w2) (hbl : ∀ b ∈ blkL s', b ∈ blkL s ∨ w1.heap.size ≤ b) :
    (w2.cell? ((at0 wb).add 0)).isSome = true ∧ w2.frozen? ((at0 wb).add 0) = false ∧ WrAt w wb (wb :: blkL s) bs' (w2.setCell ((at0 wb).add 0) s'.v) := by
  have hne : wb ∉ blkL s := ow_ne h0 hc (by decide)
  have c2 := f2.at (f1.at hc id) hne
  have c3 : (w2.setCell ((at0 wb).add 0) s'.v).heap[wb]? = _ := setAt (p := at0 wb) (i := 0) (v := s'.v) c2 rfl
  have f3 : Fr (· = wb) w2 (w2.setCell ((at0 wb).add 0) s'.v) := Fr.set _ _ _ rfl
  have hne' : wb ∉ blkL s' := ow_ne ho c2 (by decide)
  refine ⟨by rw [cellAt (p := at0 wb) c2 rfl rfl]; rfl, frozenAt (p := at0 wb) c2, wb :: blkL s', ⟨s', rfl, c3, ho.fr f3 fun b hb e => hne' (e ▸ hb)⟩, ?_, ?_⟩
  · exact ((f1.of0 (M := (· ∈ wb :: blkL s))).trans f2 fun x _ hx => by simp [hx]).trans f3 fun x _ hx => by simp [hx]
  · intro x hx
    rcases List.mem_cons.1 hx with rfl | hx
    · exact .inl (by simp)
    · rcases hbl x hx with h | h
      · exact .inl (by simp [h])
      · exact .inr (Nat.le_trans f1.size h)
theorem wr_cell {w : World} {wb : Nat} {s : Sl} (hc : w.heap[wb]? = some (.cells #[s.v] ty_wire_Writer (0, 0))) : w.cell? ((at0 wb).add 0) = some s.v := cellAt (p := at0 wb) hc rfl rfl

/-! ### Uint, Int -/
theorem w_uint_step {w : World} {wb : Nat} {s : Sl} {bs : List UInt8} (hc : w.heap[wb]? = some (.cells #[s.v] ty_wire_Writer (0, 0))) (h0 : BytesO w s bs) (hl : bs.length < 100000000000000) (c : UInt8) (K : World → Prop) (hK : ∀ w', WrAt w wb (wb :: blkL s) (bs ++ [c]) w' → K w') :
    ∃ (t15 : W.Sl) (w2 : World), Sem.run Try.prog (Builtin.append_ #[ty_sl_uint8, ty_sl_uint8] ty_sl_uint8 #[s.v, .slice (some (Addr.mk w.heap.size 0 none)) 1 1]) (w.alloc (.cells #[.int .u8 (c.toNat : Int)] ty_uint8)) = .ok (t15.v) w2 ∧ (w2.cell? ((at0 wb).add 0)).isSome = true ∧ w2.frozen? ((at0 wb).add 0) = false ∧ K (w2.setCell ((at0 wb).add 0) (t15.v)) := by
  have f1 : Fr0 w (w.alloc (.cells #[.int .u8 (c.toNat : Int)] ty_uint8)) := Fr.alloc _ _ _
  obtain ⟨s', w2, g1, g2, g3, g4, g5⟩ := append_bytes (ty := ty_sl_uint8) (h0.fr0 f1) (one_byte w c) (by simp; omega)
  obtain ⟨a1, a2, a3⟩ := wr_store hc h0 f1 g2 g3 g4
  exact ⟨s', w2, g1, a1, a2, hK _ a3⟩
theorem w_uint_loop {wb : Nat} (R : Post) : ∀ (n : Nat) (w : World) (bs : List UInt8) (own : List Nat), n < 18446744073709551616 → bs.length + (encU n).length ≤ 100000000000000 → WrRep w wb bs own → (∀ w', WrAt w wb own (bs ++ encU n) w' → R (.returned (.tuple #[])) w') →
    wire_Writer_Uint.L0 (at0 wb) (n : Int) w R := by
  intro n
  induction n using Nat.strongRecOn with
  | _ n ih =>
    intro w bs own hn hl hr hR
    obtain ⟨s, rfl, h1, h2⟩ := hr
    refine wire_Writer_Uint.L0_step _ _ _ _ ?_
    refine sel_intro (fun h => ?_) (fun h => ?_)
    · have hn' : ¬ n < 128 := by simp at h; omega
      rw [encU_large hn'] at hl
      have e : IntKind.wrap .u8 (n : Int) = _ := u8_nat n
      refine ⟨s, wr_cell h1, ?_⟩
      rw [e, bOr_u8_128 _ (by omega)]
      have e2 : ((n % 256 % 128 + 128 : Nat) : Int) = ((UInt8.ofNat (n % 128 + 128)).toNat : Int) := by simp; omega
      rw [e2]
      refine w_uint_step h1 h2 (by simp at hl; omega) (UInt8.ofNat (n % 128 + 128)) (fun w' => wire_Writer_Uint.L0 (at0 wb) (Int.fdiv (n : Int) (2 ^ 7)) w' R) fun w' hw => ?_
      show wire_Writer_Uint.L0 (at0 wb) (Int.fdiv (n : Int) (2 ^ 7)) w' R
      rw [show ((2 : Int) ^ 7) = ((128 : Nat) : Int) from rfl, fdiv_nat n 128 (by omega)]
      obtain ⟨own', r', f', o'⟩ := hw
      refine ih (n / 128) (by omega) w' _ own' (by omega) (by simp at hl ⊢; omega) r' fun w'' hw'' => hR w'' ?_
      rw [encU_large hn', show bs ++ UInt8.ofNat (n % 128 + 128) :: encU (n / 128) = (bs ++ [UInt8.ofNat (n % 128 + 128)]) ++ encU (n / 128) by simp]
      exact hw''.then f' o'
    · have hn' : n < 128 := by simp at h; omega
      rw [encU_small hn'] at hl
      have e : IntKind.wrap .u8 (n : Int) = ((UInt8.ofNat n).toNat : Int) := by rw [u8_nat]; simp
      refine ⟨s, wr_cell h1, ?_⟩
      rw [e]
      refine w_uint_step h1 h2 (by simp at hl; omega) (UInt8.ofNat n) (fun w' => R (.returned (.tuple #[])) w') fun w' hw => hR w' ?_
      rw [encU_small hn']; exact hw
theorem encU_len10 (n : Nat) (h : n < 18446744073709551616) : (encU n).length ≤ 10 := encU_len 9 n (by simpa using h)
theorem w_uint {w : World} {wb : Nat} {bs : List UInt8} {own : List Nat} (hr : WrRep w wb bs own) (n : Nat) (hn : n < 18446744073709551616) (hl : bs.length ≤ 10000000000000) :
    Calls Try.prog n_wire_Writer_Uint #[.pointer (some (at0 wb)), .int .u64 (n : Int)] w (WrPost w wb own (bs ++ encU n)) :=
  wire_Writer_Uint.ok _ _ w _ (w_uint_loop _ n w bs own hn (by have := encU_len10 n hn; omega) hr fun w' h => ⟨rfl, h⟩)

theorem zz_word (n : Int) (h : I64 n) : W.bXor .u64 (IntKind.wrap .u64 ((IntKind.wrap .u64 n) * 2 ^ 1)) (IntKind.wrap .u64 (Int.fdiv n (2 ^ 63))) = (zz n : Int) := by
  obtain ⟨h1, h2⟩ := h
  have e63 : ((2 : Int) ^ 63) = 9223372036854775808 := rfl
  rw [e63, Int.fdiv_eq_ediv_of_nonneg _ (by omega), IntKind.wrap_u64, IntKind.wrap_u64, IntKind.wrap_u64]
  by_cases h0 : 0 ≤ n
  · have e1 : (n / 9223372036854775808) % 18446744073709551616 = ((0 : Nat) : Int) := by omega
    have e2 : (n % 18446744073709551616 * 2 ^ 1) % 18446744073709551616 = ((2 * n).toNat : Int) := by omega
    rw [e1, e2, bXor_nat _ _ (by omega) (by omega), Nat.xor_zero]
    unfold zz; rw [if_pos h0]
  · have e1 : (n / 9223372036854775808) % 18446744073709551616 = ((18446744073709551615 : Nat) : Int) := by omega
    have e2 : (n % 18446744073709551616 * 2 ^ 1) % 18446744073709551616 = ((18446744073709551616 + 2 * n).toNat : Int) := by omega
    rw [e1, e2, bXor_nat _ _ (by omega) (by omega), xor_ones _ (by omega)]
    unfold zz; rw [if_neg h0]
    omega
def encI (n : Int) : List UInt8 := encU (zz n)
theorem w_int {w : World} {wb : Nat} {bs : List UInt8} {own : List Nat} (hr : WrRep w wb bs own) (n : Int) (hn : I64 n) (hl : bs.length ≤ 10000000000000) :
    Calls Try.prog n_wire_Writer_Int #[.pointer (some (at0 wb)), .int .i64 n] w (WrPost w wb own (bs ++ encI n)) := by
  refine wire_Writer_Int.ok _ _ w _ ?_
  unfold wire_Writer_Int.S0
  rw [zz_word n hn]
  refine (w_uint hr (zz n) (zz_lt n hn.1 hn.2) hl).mono ?_
  rintro r w1 ⟨rfl, h⟩
  exact ⟨rfl, rfl, h⟩

/-! ### Bool, Text, Raw, Ints, Done -/
def encB (b : Bool) : List UInt8 := if b then [1] else [0]
def encR (b : List UInt8) : List UInt8 := encU b.length ++ b
theorem w_text {w : World} {wb : Nat} {bs : List UInt8} {own : List Nat} (hr : WrRep w wb bs own) (t : ByteArray) (hl : bs.length + t.size ≤ 10000000000000) :
    Calls Try.prog n_wire_Writer_Text #[.pointer (some (at0 wb)), .string t] w (WrPost w wb own (bs ++ encR (bl t))) := by
  refine wire_Writer_Text.ok _ _ w _ ?_
  unfold wire_Writer_Text.S0
  rw [u64_nat _ (by omega)]
  refine (w_uint hr t.size (by omega) (by omega)).mono ?_
  rintro r w1 ⟨rfl, own1, r1, f1, o1⟩
  have l10 := encU_len10 t.size (by omega)
  obtain ⟨s1, rfl, c1, b1⟩ := r1
  obtain ⟨s', w2, g1, g2, g3, g4⟩ := append_str (ty := ty_sl_uint8) b1 t (by simp; omega)
  obtain ⟨a1, a2, a3⟩ := wr_store c1 b1 (Fr.refl _ w1) g2 g3 g4
  rw [List.append_assoc] at a3
  exact ⟨rfl, s1, wr_cell c1, s', w2, g1, a1, a2, rfl, a3.then f1 o1⟩
def encL (l : List Int) : List UInt8 := encU l.length ++ l.flatMap encI
theorem encI_len (n : Int) (h : I64 n) : (encI n).length ≤ 10 := encU_len10 _ (zz_lt n h.1 h.2)
theorem flat_len : ∀ (l : List Int), (∀ x ∈ l, I64 x) → (l.flatMap encI).length ≤ 10 * l.length
  | [], _ => by simp
  | x :: l, h => by
    have h1 := encI_len x (h x (by simp))
    have h2 := flat_len l fun y hy => h y (by simp [hy])
    simp at h2 ⊢
    omega
theorem w_done {w : World} {wb : Nat} {bs : List UInt8} {own : List Nat} (hr : WrRep w wb bs own) (hl : bs.length ≤ 100000000000000) :
    Calls Try.prog n_wire_Writer_Done #[.pointer (some (at0 wb))] w (NewBytes w bs) := by
  obtain ⟨s, rfl, h1, h2⟩ := hr
  refine wire_Writer_Done.ok _ w _ ⟨s, wr_cell h1, (clone_bytes s bs w h2.rd (by omega)).mono ?_⟩
  rintro r w1 ⟨s', rfl, h⟩
  exact ⟨s', rfl, s', rfl, h⟩
end Go.Proofs.Ytjjhfdjpmonlaaa

/- Package wire in plain words: varints, and what a reader does. No program in sight. Package wire: what a Writer holds, and the contracts of its methods. Package term: a node in bytes: the contracts of write, keyOf. Package term: the bytes of a node say which node it is. Maps with strings as keys. Package term: what the builder's maps hold, in plain words. Package term: the builder: what it holds; the contracts of its methods. Package term: the builder as a thing of one's own; newBuilder. Package term: Valid: the contract. -/
import Derived.Test.YtnpkhgljhcnpcaaGreatDoorW
import Derived.Test.YtnpkhgljhcnpcaaGreatDoorB
import Derived.Test.YtnpkhgljhcnpcaaGreatDoorVB
import Derived.Test.YtnpkhgljhcnpcaaGreatDoorE1
import Derived.MapKept
import Derived.Test.YtnpkhgljhcnpcaaGreatDoorTP
set_option linter.unusedVariables false
namespace Go.Proofs.YtnpkhgljhcnpcaaGreatDoor
open Go Go.W

/-! ### Varints -/
def encU (n : Nat) : List UInt8 := if n < 128 then [UInt8.ofNat n] else UInt8.ofNat (n % 128 + 128) :: encU (n / 128)
termination_by n
decreasing_by omega
theorem encU_small {n : Nat} (h : n < 128) : encU n = [UInt8.ofNat n] := by rw [encU, if_pos h]
theorem encU_large {n : Nat} (h : ¬ n < 128) : encU n = UInt8.ofNat (n % 128 + 128) :: encU (n / 128) := by rw [encU, if_neg h]
theorem encU_len : ∀ (d n : Nat), n < 2 * 128 ^ d → (encU n).length ≤ d + 1
  | 0, n, h => by rw [encU_small (by omega)]; simp
  | d + 1, n, h => by
    by_cases hn : n < 128
    · rw [encU_small hn]; simp
    · rw [encU_large hn]
      have := encU_len d (n / 128) (by rw [Nat.pow_succ] at h; omega)
      simp; omega

/-! ### What a reader does -/
def zz (n : Int) : Nat := if 0 ≤ n then (2 * n).toNat else (-(2 * n) - 1).toNat
theorem zz_lt (n : Int) (h1 : -9223372036854775808 ≤ n) (h2 : n ≤ 9223372036854775807) : zz n < 18446744073709551616 := by
  unfold zz; split <;> omega
end Go.Proofs.YtnpkhgljhcnpcaaGreatDoor
namespace Go.Proofs.YtnpkhgljhcnpcaaGreatDoor
open Go Go.W

/-! ### What a writer holds -/
def WrRep (w : World) (wb : Nat) (bs : List UInt8) (own : List Nat) : Prop :=
  ∃ s : Sl, own = wb :: blkL s ∧ w.heap[wb]? = some (.cells #[s.v] ty_wire_Writer (0, 0)) ∧ BytesO w s bs
theorem ow_ne {w : World} {e T : TypeId} {s : Sl} {vs : List Value} (h : Ow w e s vs) {b : Nat} {cs : Array Value} {f : Nat × Nat} (hb : w.heap[b]? = some (.cells cs T f)) (hT : e ≠ T) : b ∉ blkL s := fun hm => by
  obtain ⟨cs', f', hc⟩ := h.2.row.typ b hm
  rw [hc] at hb
  injection hb with hb
  injection hb with _ ht _
  exact hT ht
theorem WrRep.lt {w : World} {wb : Nat} {bs : List UInt8} {own : List Nat} (h : WrRep w wb bs own) : ∀ b ∈ own, b < w.heap.size := by
  obtain ⟨s, rfl, h1, h2⟩ := h
  intro b hb
  rcases List.mem_cons.1 hb with rfl | hb
  · exact lt_of_heap h1
  · exact h2.lt b hb
theorem WrRep.fr {M : Nat → Prop} {w w' : World} {wb : Nat} {bs : List UInt8} {own : List Nat} (h : WrRep w wb bs own) (hf : Fr M w w') (hn : ∀ b ∈ own, ¬ M b) : WrRep w' wb bs own := by
  obtain ⟨s, rfl, h1, h2⟩ := h
  exact ⟨s, rfl, hf.at h1 (hn _ (by simp)), h2.fr hf fun b hb => hn b (by simp [hb])⟩
theorem WrRep.fr0 {w w' : World} {wb : Nat} {bs : List UInt8} {own : List Nat} (h : WrRep w wb bs own) (hf : Fr0 w w') : WrRep w' wb bs own := h.fr hf fun _ _ h => h
theorem WrRep.new (w : World) : WrRep (w.alloc (.cells #[.slice none 0 0] ty_wire_Writer)) w.heap.size [] [w.heap.size] := ⟨⟨none, 0, 0⟩, rfl, heap_new w _, Ow.nil _ _⟩

/-- after a method -/
def WrAt (w : World) (wb : Nat) (own : List Nat) (bs : List UInt8) (w' : World) : Prop := ∃ own', WrRep w' wb bs own' ∧ Fr (· ∈ own) w w' ∧ ∀ x ∈ own', x ∈ own ∨ w.heap.size ≤ x
def WrPost (w : World) (wb : Nat) (own : List Nat) (bs : List UInt8) : Post := fun r w' => r = .returned (.tuple #[]) ∧ WrAt w wb own bs w'
theorem WrAt.refl {w : World} {wb : Nat} {own : List Nat} {bs : List UInt8} (h : WrRep w wb bs own) : WrAt w wb own bs w := ⟨own, h, Fr.refl _ _, fun _ h => .inl h⟩
theorem WrAt.then {w w' w'' : World} {wb : Nat} {own own' : List Nat} {bs' : List UInt8} (h1 : Fr (· ∈ own) w w') (h2 : ∀ x ∈ own', x ∈ own ∨ w.heap.size ≤ x) (h : WrAt w' wb own' bs' w'') : WrAt w wb own bs' w'' := by
  obtain ⟨own'', r, f, o⟩ := h
  refine ⟨own'', r, h1.trans f fun x hx hm => ?_, fun x hx => ?_⟩
  · rcases h2 x hm with h | h
    · exact h
    · omega
  · rcases o x hx with h | h
    · exact h2 x h
    · exact .inr (Nat.le_trans h1.size h)
/-- the store behind an append -/
theorem wr_store {w w1 w2 : World} {wb : Nat} {s s' : Sl} {bs bs' : List UInt8} (hc : w.heap[wb]? = some (.cells #[s.v] ty_wire_Writer (0, 0))) (h0 : BytesO w s bs) (f1 : Fr0 w w1) (ho : BytesO w2 s' bs') (f2 : Fr (· ∈ blkL s) w1 w2) (hbl : ∀ b ∈ blkL s', b ∈ blkL s ∨ w1.heap.size ≤ b) :
    (w2.cell? ((at0 wb).add 0)).isSome = true ∧ w2.frozen? ((at0 wb).add 0) = false ∧ WrAt w wb (wb :: blkL s) bs' (w2.setCell ((at0 wb).add 0) s'.v) := by
  have hne : wb ∉ blkL s := ow_ne h0 hc (by decide)
  have c2 := f2.at (f1.at hc id) hne
  have c3 : (w2.setCell ((at0 wb).add 0) s'.v).heap[wb]? = _ := setAt (p := at0 wb) (i := 0) (v := s'.v) c2 rfl
  have f3 : Fr (· = wb) w2 (w2.setCell ((at0 wb).add 0) s'.v) := Fr.set _ _ _ rfl
  have hne' : wb ∉ blkL s' := ow_ne ho c2 (by decide)
  refine ⟨by rw [cellAt (p := at0 wb) c2 rfl rfl]; rfl, frozenAt (p := at0 wb) c2, wb :: blkL s', ⟨s', rfl, c3, ho.fr f3 fun b hb e => hne' (e ▸ hb)⟩, ?_, ?_⟩
  · exact ((f1.of0 (M := (· ∈ wb :: blkL s))).trans f2 fun x _ hx => by simp [hx]).trans f3 fun x _ hx => by simp [hx]
  · intro x hx
    rcases List.mem_cons.1 hx with rfl | hx
    · exact .inl (by simp)
    · rcases hbl x hx with h | h
      · exact .inl (by simp [h])
      · exact .inr (Nat.le_trans f1.size h)
theorem wr_cell {w : World} {wb : Nat} {s : Sl} (hc : w.heap[wb]? = some (.cells #[s.v] ty_wire_Writer (0, 0))) : w.cell? ((at0 wb).add 0) = some s.v := cellAt (p := at0 wb) hc rfl rfl

/-! ### Uint, Int -/
theorem w_uint_step {w : World} {wb : Nat} {s : Sl} {bs : List UInt8} (hc : w.heap[wb]? = some (.cells #[s.v] ty_wire_Writer (0, 0))) (h0 : BytesO w s bs) (hl : bs.length < 100000000000000) (c : UInt8) (K : World → Prop) (hK : ∀ w', WrAt w wb (wb :: blkL s) (bs ++ [c]) w' → K w') :
    ∃ (t15 : W.Sl) (w2 : World), Sem.run Tryz.prog (Builtin.append_ #[ty_sl_uint8, ty_sl_uint8] ty_sl_uint8 #[s.v, .slice (some (Addr.mk w.heap.size 0 none)) 1 1]) (w.alloc (.cells #[.int .u8 (c.toNat : Int)] ty_uint8)) = .ok (t15.v) w2 ∧ (w2.cell? ((at0 wb).add 0)).isSome = true ∧ w2.frozen? ((at0 wb).add 0) = false ∧ K (w2.setCell ((at0 wb).add 0) (t15.v)) := by
  have f1 : Fr0 w (w.alloc (.cells #[.int .u8 (c.toNat : Int)] ty_uint8)) := Fr.alloc _ _ _
  obtain ⟨s', w2, g1, g2, g3, g4, g5⟩ := append_bytes (ty := ty_sl_uint8) (h0.fr0 f1) (one_byte w c) (by simp; omega)
  obtain ⟨a1, a2, a3⟩ := wr_store hc h0 f1 g2 g3 g4
  exact ⟨s', w2, g1, a1, a2, hK _ a3⟩
theorem w_uint_loop {wb : Nat} (R : Post) : ∀ (n : Nat) (w : World) (bs : List UInt8) (own : List Nat), n < 18446744073709551616 → bs.length + (encU n).length ≤ 100000000000000 → WrRep w wb bs own → (∀ w', WrAt w wb own (bs ++ encU n) w' → R (.returned (.tuple #[])) w') →
    wire_Writer_Uint.L0 (at0 wb) (n : Int) w R := by
  intro n
  induction n using Nat.strongRecOn with
  | _ n ih =>
    intro w bs own hn hl hr hR
    obtain ⟨s, rfl, h1, h2⟩ := hr
    refine wire_Writer_Uint.L0_step _ _ _ _ ?_
    refine sel_intro (fun h => ?_) (fun h => ?_)
    · have hn' : ¬ n < 128 := by simp at h; omega
      rw [encU_large hn'] at hl
      have e : IntKind.wrap .u8 (n : Int) = _ := u8_nat n
      refine ⟨s, wr_cell h1, ?_⟩
      rw [e, bOr_u8_128 _ (by omega)]
      have e2 : ((n % 256 % 128 + 128 : Nat) : Int) = ((UInt8.ofNat (n % 128 + 128)).toNat : Int) := by simp; omega
      rw [e2]
      refine w_uint_step h1 h2 (by simp at hl; omega) (UInt8.ofNat (n % 128 + 128)) (fun w' => wire_Writer_Uint.L0 (at0 wb) (Int.fdiv (n : Int) (2 ^ 7)) w' R) fun w' hw => ?_
      show wire_Writer_Uint.L0 (at0 wb) (Int.fdiv (n : Int) (2 ^ 7)) w' R
      rw [show ((2 : Int) ^ 7) = ((128 : Nat) : Int) from rfl, fdiv_nat n 128 (by omega)]
      obtain ⟨own', r', f', o'⟩ := hw
      refine ih (n / 128) (by omega) w' _ own' (by omega) (by simp at hl ⊢; omega) r' fun w'' hw'' => hR w'' ?_
      rw [encU_large hn', show bs ++ UInt8.ofNat (n % 128 + 128) :: encU (n / 128) = (bs ++ [UInt8.ofNat (n % 128 + 128)]) ++ encU (n / 128) by simp]
      exact hw''.then f' o'
    · have hn' : n < 128 := by simp at h; omega
      rw [encU_small hn'] at hl
      have e : IntKind.wrap .u8 (n : Int) = ((UInt8.ofNat n).toNat : Int) := by rw [u8_nat]; simp
      refine ⟨s, wr_cell h1, ?_⟩
      rw [e]
      refine w_uint_step h1 h2 (by simp at hl; omega) (UInt8.ofNat n) (fun w' => R (.returned (.tuple #[])) w') fun w' hw => hR w' ?_
      rw [encU_small hn']; exact hw
theorem encU_len10 (n : Nat) (h : n < 18446744073709551616) : (encU n).length ≤ 10 := encU_len 9 n (by simpa using h)
theorem w_uint {w : World} {wb : Nat} {bs : List UInt8} {own : List Nat} (hr : WrRep w wb bs own) (n : Nat) (hn : n < 18446744073709551616) (hl : bs.length ≤ 10000000000000) :
    Calls Tryz.prog n_wire_Writer_Uint #[.pointer (some (at0 wb)), .int .u64 (n : Int)] w (WrPost w wb own (bs ++ encU n)) :=
  wire_Writer_Uint.ok _ _ w _ (w_uint_loop _ n w bs own hn (by have := encU_len10 n hn; omega) hr fun w' h => ⟨rfl, h⟩)

theorem zz_word (n : Int) (h : I64 n) : W.bXor .u64 (IntKind.wrap .u64 ((IntKind.wrap .u64 n) * 2 ^ 1)) (IntKind.wrap .u64 (Int.fdiv n (2 ^ 63))) = (zz n : Int) := by
  obtain ⟨h1, h2⟩ := h
  have e63 : ((2 : Int) ^ 63) = 9223372036854775808 := rfl
  rw [e63, Int.fdiv_eq_ediv_of_nonneg _ (by omega), IntKind.wrap_u64, IntKind.wrap_u64, IntKind.wrap_u64]
  by_cases h0 : 0 ≤ n
  · have e1 : (n / 9223372036854775808) % 18446744073709551616 = ((0 : Nat) : Int) := by omega
    have e2 : (n % 18446744073709551616 * 2 ^ 1) % 18446744073709551616 = ((2 * n).toNat : Int) := by omega
    rw [e1, e2, bXor_nat _ _ (by omega) (by omega), Nat.xor_zero]
    unfold zz; rw [if_pos h0]
  · have e1 : (n / 9223372036854775808) % 18446744073709551616 = ((18446744073709551615 : Nat) : Int) := by omega
    have e2 : (n % 18446744073709551616 * 2 ^ 1) % 18446744073709551616 = ((18446744073709551616 + 2 * n).toNat : Int) := by omega
    rw [e1, e2, bXor_nat _ _ (by omega) (by omega), xor_ones _ (by omega)]
    unfold zz; rw [if_neg h0]
    omega
def encI (n : Int) : List UInt8 := encU (zz n)
theorem w_int {w : World} {wb : Nat} {bs : List UInt8} {own : List Nat} (hr : WrRep w wb bs own) (n : Int) (hn : I64 n) (hl : bs.length ≤ 10000000000000) :
    Calls Tryz.prog n_wire_Writer_Int #[.pointer (some (at0 wb)), .int .i64 n] w (WrPost w wb own (bs ++ encI n)) := by
  refine wire_Writer_Int.ok _ _ w _ ?_
  rw [zz_word n hn]
  refine (w_uint hr (zz n) (zz_lt n hn.1 hn.2) hl).mono ?_
  rintro r w1 ⟨rfl, h⟩
  exact ⟨rfl, rfl, h⟩

/-! ### Bool, Text, Raw, Ints, Done -/
def encR (b : List UInt8) : List UInt8 := encU b.length ++ b
theorem w_text {w : World} {wb : Nat} {bs : List UInt8} {own : List Nat} (hr : WrRep w wb bs own) (t : ByteArray) (hl : bs.length + t.size ≤ 10000000000000) :
    Calls Tryz.prog n_wire_Writer_Text #[.pointer (some (at0 wb)), .string t] w (WrPost w wb own (bs ++ encR (bl t))) := by
  refine wire_Writer_Text.ok _ _ w _ ?_
  rw [u64_nat _ (by omega)]
  refine (w_uint hr t.size (by omega) (by omega)).mono ?_
  rintro r w1 ⟨rfl, own1, r1, f1, o1⟩
  have l10 := encU_len10 t.size (by omega)
  obtain ⟨s1, rfl, c1, b1⟩ := r1
  obtain ⟨s', w2, g1, g2, g3, g4⟩ := append_str (ty := ty_sl_uint8) b1 t (by simp; omega)
  obtain ⟨a1, a2, a3⟩ := wr_store c1 b1 (Fr.refl _ w1) g2 g3 g4
  rw [List.append_assoc] at a3
  exact ⟨rfl, s1, wr_cell c1, s', w2, g1, a1, a2, rfl, a3.then f1 o1⟩
def encL (l : List Int) : List UInt8 := encU l.length ++ l.flatMap encI
theorem encI_len (n : Int) (h : I64 n) : (encI n).length ≤ 10 := encU_len10 _ (zz_lt n h.1 h.2)
theorem flat_len : ∀ (l : List Int), (∀ x ∈ l, I64 x) → (l.flatMap encI).length ≤ 10 * l.length
  | [], _ => by simp
  | x :: l, h => by
    have h1 := encI_len x (h x (by simp))
    have h2 := flat_len l fun y hy => h y (by simp [hy])
    simp at h2 ⊢
    omega
theorem w_ints_loop {wb : Nat} {s : Sl} {l : List Int} (R : Post) (hi : ∀ x ∈ l, I64 x) (hl : l.length ≤ 100000000000) : ∀ (d i : Nat), i + d = l.length → ∀ (w : World) (bs : List UInt8) (own : List Nat), WrRep w wb bs own → Nums w s l → (∀ x ∈ blkL s, x ∉ own) → (∀ x ∈ blkL s, x < w.heap.size) → bs.length + 10 * d ≤ 10000000000000 →
    (∀ w', WrAt w wb own (bs ++ (l.drop i).flatMap encI) w' → R (.returned (.tuple #[])) w') → wire_Writer_Ints.L0 (at0 wb) s (l.length : Int) (i : Int) w R := by
  intro d
  induction d with
  | zero =>
    intro i hd w bs own hr hs hx hlt hb hR
    refine wire_Writer_Ints.L0_step _ _ _ _ _ _ ?_
    refine sel_false (by simp; omega) (hR w ?_)
    rw [List.drop_of_length_le (by omega)]
    simpa using WrAt.refl hr
  | succ d ih =>
    intro i hd w bs own hr hs hx hlt hb hR
    have hg : l[i]? = some l[i] := List.getElem?_eq_getElem (by omega)
    have hm : l[i] ∈ l := List.getElem_mem _
    refine wire_Writer_Ints.L0_step _ _ _ _ _ _ ?_
    refine sel_true (by simp; omega) ⟨by omega, by rw [Nums.len hs]; omega, Nums.cell hs hg (by simp) fun p _ hp => ⟨_, hp, (w_int hr _ (hi _ hm) (by omega)).mono ?_⟩⟩
    rintro r w1 ⟨rfl, own1, r1, f1, o1⟩
    refine ⟨rfl, ?_⟩
    show wire_Writer_Ints.L0 (at0 wb) s (l.length : Int) (IntKind.wrap .i64 ((i : Int) + 1)) w1 R
    rw [i64_next i (by omega)]
    have l10 := encI_len _ (hi _ hm)
    refine ih (i + 1) (by omega) w1 _ own1 r1 (hs.fr f1 hx) (fun x hx' hm' => ?_) (fun x hx' => Nat.lt_of_lt_of_le (hlt x hx') f1.size) (by simp; omega) fun w2 h2 => hR w2 ?_
    · rcases o1 x hm' with h | h
      · exact hx x hx' h
      · have := hlt x hx'; omega
    · rw [List.drop_eq_getElem_cons (by omega), List.flatMap_cons, ← List.append_assoc]
      exact h2.then f1 o1
theorem w_ints {w : World} {wb : Nat} {bs : List UInt8} {own : List Nat} (hr : WrRep w wb bs own) {s : Sl} {l : List Int} (hb : Nums w s l) (hd : ∀ x ∈ blkL s, x ∉ own) (hlt : ∀ x ∈ blkL s, x < w.heap.size) (hi : ∀ x ∈ l, I64 x) (hl : bs.length + 10 * l.length ≤ 1000000000000) :
    Calls Tryz.prog n_wire_Writer_Ints #[.pointer (some (at0 wb)), s.v] w (WrPost w wb own (bs ++ encL l)) := by
  refine wire_Writer_Ints.ok _ _ w _ ?_
  rw [Nums.len hb, u64_nat _ (by omega)]
  refine (w_uint hr l.length (by omega) (by omega)).mono ?_
  rintro r w1 ⟨rfl, own1, r1, f1, o1⟩
  have l10 := encU_len10 l.length (by omega)
  refine ⟨rfl, ?_⟩
  dsimp only
  refine w_ints_loop _ hi (by omega) l.length 0 (by omega) w1 _ own1 r1 (hb.fr f1 hd) (fun x hx' hm' => ?_) (fun x hx' => Nat.lt_of_lt_of_le (hlt x hx') f1.size) (by simp; omega) fun w2 h2 => ⟨rfl, ?_⟩
  · rcases o1 x hm' with h | h
    · exact hd x hx' h
    · have := hlt x hx'; omega
  · rw [List.drop_zero, List.append_assoc] at h2
    exact h2.then f1 o1
theorem clone_bytes (s : Sl) (bs : List UInt8) (w : World) (hb : Bytes w s bs) (hl : bs.length ≤ 140737488355328) : Calls Tryz.prog n_slices_Clone_sl_byte_byte #[s.v] w (fun r w' => ∃ s : Sl, r = .returned s.v ∧ BytesO w' s bs ∧ Fr0 w w' ∧ ∀ b ∈ blkL s, w.heap.size ≤ b) := by
  refine slices_Clone_sl_byte_byte.ok s w _ ?_
  refine sel_intro (fun h => ?_) (fun h => ?_)
  · have hn : bs = [] := by
      have := (hb.2.2.1 (by simpa using h)).1
      exact List.eq_nil_of_length_eq_zero (by rw [← Bytes.len hb, this])
    subst hn
    exact ⟨⟨none, 0, 0⟩, rfl, Ow.nil w _, Fr.refl _ _, by simp [blkL]⟩
  · show (fun w1 : World => ∃ (t7 : Sl) (w2 : World), Sem.run Tryz.prog (Builtin.append_ #[ty_sl_uint8, ty_sl_uint8] ty_sl_uint8 #[.slice (some (nb w)) 0 0, s.v]) w1 = .ok (t7.v) w2 ∧ (∃ s : Sl, Ending.returned t7.v = .returned s.v ∧ BytesO w2 s bs ∧ Fr0 w w2 ∧ ∀ b ∈ blkL s, w.heap.size ≤ b)) (w.alloc (.cells #[] ty_uint8))
    generalize hw1 : w.alloc (.cells #[] ty_uint8) = w1
    subst hw1
    let w1 := w.alloc (.cells #[] ty_uint8)
    have ho : BytesO w1 ⟨some ⟨w.heap.size, 0, none⟩, 0, 0⟩ [] := Ow.made w ty_uint8 [] 0 rfl (by omega)
    have hb1 : Bytes w1 s bs := hb.fr0 (Fr.alloc _ _ _)
    obtain ⟨s', w2, hrun, hown, hfr, hbl, _⟩ := append_bytes (ty := ty_sl_uint8) ho hb1 (by simp; omega)
    refine ⟨s', w2, hrun, s', rfl, by simpa using hown, ?_, ?_⟩
    · refine (Fr.alloc (fun _ => False) w _).trans hfr fun x hx hm => ?_
      simp [blkL] at hm
      omega
    · intro b hb'
      rcases hbl b hb' with h | h
      · simp [blkL] at h; omega
      · have : w1.heap.size = w.heap.size + 1 := size_alloc _ _
        omega
theorem w_done {w : World} {wb : Nat} {bs : List UInt8} {own : List Nat} (hr : WrRep w wb bs own) (hl : bs.length ≤ 100000000000000) :
    Calls Tryz.prog n_wire_Writer_Done #[.pointer (some (at0 wb))] w (NewBytes w bs) := by
  obtain ⟨s, rfl, h1, h2⟩ := hr
  refine wire_Writer_Done.ok _ w _ ⟨s, wr_cell h1, (clone_bytes s bs w h2.rd (by omega)).mono ?_⟩
  rintro r w1 ⟨s', rfl, h⟩
  exact ⟨s', rfl, s', rfl, h⟩
end Go.Proofs.YtnpkhgljhcnpcaaGreatDoor
set_option maxRecDepth 100000
set_option maxHeartbeats 1000000
namespace Go.Proofs.YtnpkhgljhcnpcaaGreatDoor
open Go Go.W

def nodeB (n : Nx) : List UInt8 := encI n.op ++ (encL n.kids ++ (encI n.n ++ (encI n.m ++ (encU n.u.toNat ++ (encR (bl n.tx) ++ (encI n.st.k ++ (encI n.st.n ++ encI n.st.x)))))))
/-- a node of machine words -/
structure WdN (x : Nx) : Prop where
  op : I64 x.op
  ks : ∀ k ∈ x.kids, I64 k
  kl : x.kids.length ≤ 1000000000
  n : I64 x.n
  m : I64 x.m
  u : 0 ≤ x.u ∧ x.u < 18446744073709551616
  tx : x.tx.size ≤ 1000000000
  sk : I64 x.st.k
  sn : I64 x.st.n
  sx : I64 x.st.x
theorem nodeB_len {n : Nx} (W : WdN n) : (nodeB n).length ≤ 20000000000 := by
  have h1 := encI_len _ W.op
  have h2 := flat_len _ W.ks
  have h3 := encI_len _ W.n
  have h4 := encI_len _ W.m
  have h5 := encU_len10 n.u.toNat (by have := W.u; omega)
  have h6 := encI_len _ W.sk
  have h7 := encI_len _ W.sn
  have h8 := encI_len _ W.sx
  have h9 := encU_len10 n.kids.length (by have := W.kl; omega)
  have h0 := encU_len10 (bl n.tx).length (by have := W.tx; rw [bl_len]; omega)
  have k1 := W.kl
  have k2 := W.tx
  have k3 := bl_len n.tx
  unfold nodeB encL encR
  simp only [List.length_append]
  omega
theorem wr_then {P : Program} {f : FuncId} {args : Array Value} {w0 w : World} {wb : Nat} {own0 : List Nat} {bs bs' : List UInt8} (h : WrAt w0 wb own0 bs w) (hc : ∀ own, WrRep w wb bs own → (∀ x ∈ own, x ∈ own0 ∨ w0.heap.size ≤ x) → Calls P f args w (WrPost w wb own bs')) {K : World → Prop} (hK : ∀ w', WrAt w0 wb own0 bs' w' → K w') :
    Calls P f args w fun r w' => r = .returned (.tuple #[]) ∧ K w' := by
  obtain ⟨own, hr, hf, ho⟩ := h
  refine (hc own hr ho).mono ?_
  rintro r w' ⟨rfl, h'⟩
  exact ⟨rfl, hK w' (WrAt.then hf ho h')⟩
theorem w_ints2 {w : World} {wb : Nat} {bs : List UInt8} {own : List Nat} (hr : WrRep w wb bs own) {s : Sl} {l : List Int} (hb : Nums w s l) (hd : ∀ x ∈ (En.rd s (l.map intV)).fp, x ∉ own) (hi : ∀ x ∈ l, I64 x) (hl : bs.length + 10 * l.length ≤ 1000000000000) :
    Calls Tryz.prog n_wire_Writer_Ints #[.pointer (some (at0 wb)), s.v] w (WrPost w wb own (bs ++ encL l)) := by
  by_cases h0 : l = []
  · subst h0
    have hn : s.n = 0 := Nums.len hb
    refine wire_Writer_Ints.ok _ _ w _ ?_
    rw [hn]
    refine (w_uint hr 0 (by omega) (by omega)).mono ?_
    rintro r w1 ⟨rfl, h⟩
    refine ⟨rfl, wire_Writer_Ints.L0_step _ _ _ _ _ _ (sel_false (by decide) ⟨rfl, ?_⟩)⟩
    simpa [encL] using h
  · have hfp : (En.rd s (l.map intV)).fp = blkL s := by
      show (if l.map intV = [] then [] else blkL s) = _
      rw [if_neg (by simpa using h0)]
    exact w_ints hr hb (fun x hx => hd x (hfp ▸ hx)) (fun x hx => (En.rd s (l.map intV)).lt w hb x (hfp ▸ hx)) hi hl
theorem t_write {w : World} {wb : Nat} {bs : List UInt8} {own : List Nat} (hr : WrRep w wb bs own) {p : Addr} {d : Nd} (hp : NdAt w p d) (hd : d.P w) (h1 : p.block ∉ own) (h2 : ∀ x ∈ (kidE d).fp, x ∉ own) (W : WdN d.x) (hl : bs.length ≤ 100000000000) :
    Calls Tryz.prog n_term_write #[.pointer (some (at0 wb)), .pointer (some p)] w (WrPost w wb own (bs ++ nodeB d.x)) := by
  have at_ : ∀ {bs' : List UInt8} {w' : World}, WrAt w wb own bs' w' → NdAt w' p d := fun ⟨_, _, f, _⟩ => hp.st fun hlt => f.keep _ hlt h1
  have kd : ∀ {bs' : List UInt8} {w' : World}, WrAt w wb own bs' w' → Nums w' d.ks d.x.kids := fun ⟨_, _, f, _⟩ => (kidE d).st w _ (fun b hb hl => f.keep _ hl (h2 b hb)) hd
  have k1 := encI_len _ W.op
  have k2 := flat_len _ W.ks
  have k3 := encI_len _ W.n
  have k4 := encI_len _ W.m
  have hu : d.x.u = ((d.x.u.toNat : Nat) : Int) := by have := W.u; omega
  have k5 := encU_len10 d.x.u.toNat (by have := W.u; omega)
  have k6 := encI_len _ W.sk
  have k7 := encI_len _ W.sn
  have k9 := encU_len10 d.x.kids.length (by have := W.kl; omega)
  have k0 := encU_len10 (bl d.x.tx).length (by have := W.tx; rw [bl_len]; omega)
  have m1 := W.kl
  have m2 := W.tx
  have m3 := bl_len d.x.tx
  have lL : (encL d.x.kids).length ≤ 10000000010 := by unfold encL; simp only [List.length_append]; omega
  have lR : (encR (bl d.x.tx)).length ≤ 1000000010 := by unfold encR; simp only [List.length_append]; omega
  refine term_write.ok _ _ w _ ⟨_, hp.c0, wr_then (WrAt.refl hr) (fun o r _ => w_int r _ W.op (by omega)) fun w1 a1 => ⟨_, (at_ a1).c1, wr_then a1 (fun o r ho => w_ints2 r (kd a1) (fun x hx hm => ?_) W.ks (by simp only [List.length_append]; omega)) fun w2 a2 => ⟨_, (at_ a2).c2, wr_then a2 (fun o r _ => w_int r _ W.n (by simp only [List.length_append]; omega)) fun w3 a3 => ⟨_, (at_ a3).c3, wr_then a3 (fun o r _ => w_int r _ W.m (by simp only [List.length_append]; omega)) fun w4 a4 => ⟨_, (at_ a4).c4, ?_⟩⟩⟩⟩⟩
  · rcases ho x hm with h | h
    · exact h2 x hx h
    · have := (kidE d).lt w hd x hx
      omega
  rw [hu]
  refine wr_then a4 (fun o r _ => w_uint r d.x.u.toNat (by have := W.u; omega) (by simp only [List.length_append]; omega)) fun w5 a5 => ⟨_, (at_ a5).c5, wr_then a5 (fun o r _ => w_text r d.x.tx (by simp only [List.length_append]; omega)) fun w6 a6 => ⟨_, (at_ a6).s0, wr_then a6 (fun o r _ => w_int r _ W.sk (by simp only [List.length_append]; omega)) fun w7 a7 => ⟨_, (at_ a7).s1, wr_then a7 (fun o r _ => w_int r _ W.sn (by simp only [List.length_append]; omega)) fun w8 a8 => ⟨_, (at_ a8).s2, wr_then a8 (fun o r _ => w_int r _ W.sx (by simp only [List.length_append]; omega)) fun w9 a9 => ⟨rfl, ?_⟩⟩⟩⟩⟩
  unfold nodeB
  simp only [List.append_assoc] at a9
  exact a9
theorem t_keyOf {w : World} {p : Addr} {d : Nd} (hp : NdAt w p d) (hd : d.P w) (W : WdN d.x) :
    Calls Tryz.prog n_term_keyOf #[.pointer (some p)] w fun r w' => r = .returned (.string (ba (nodeB d.x))) ∧ Fr0 w w' := by
  refine term_keyOf.ok _ w _ ?_
  have f0 : Fr0 w (w.alloc (.cells #[.slice none 0 0] ty_wire_Writer)) := Fr.alloc _ _ _
  have lt := nodeB_len W
  refine (t_write (WrRep.new w) (hp.st fun hlt => f0.keep _ hlt id) ((kidE d).st w _ (fun b hb hl => f0.keep _ hl id) hd) (by have := NdAt.lt hp; simp; omega) (fun x hx => by have := (kidE d).lt w hd x hx; simp; omega) W (by simp)).mono ?_
  rintro r w1 ⟨rfl, own', r1, f1, o1⟩
  rw [List.nil_append] at r1
  refine ⟨rfl, (w_done r1 (by omega)).mono ?_⟩
  rintro r w2 ⟨s, rfl, hs, f2, _⟩
  refine ⟨s, rfl, _, bytes_str hs.rd, rfl, ?_⟩
  exact (f0.trans f1 fun x hx hm => by simp at hm; omega).tr0 f2
end Go.Proofs.YtnpkhgljhcnpcaaGreatDoor
set_option maxRecDepth 100000
set_option maxHeartbeats 1000000
namespace Go.Proofs.YtnpkhgljhcnpcaaGreatDoor
open Go Go.W

theorem u8_inj {a b : Nat} (ha : a < 256) (hb : b < 256) (h : UInt8.ofNat a = UInt8.ofNat b) : a = b := by
  have := congrArg UInt8.toNat h
  simp at this
  omega
theorem encU_inj : ∀ (n m : Nat) (r s : List UInt8), encU n ++ r = encU m ++ s → n = m ∧ r = s := by
  intro n
  induction n using Nat.strongRecOn with
  | _ n ih =>
    intro m r s h
    by_cases hn : n < 128 <;> by_cases hm : m < 128
    · rw [encU_small hn, encU_small hm] at h
      simp only [List.cons_append, List.nil_append, List.cons.injEq] at h
      exact ⟨u8_inj (by omega) (by omega) h.1, h.2⟩
    · rw [encU_small hn, encU_large hm] at h
      simp only [List.cons_append, List.nil_append, List.cons.injEq] at h
      have := u8_inj (by omega) (by omega) h.1
      omega
    · rw [encU_large hn, encU_small hm] at h
      simp only [List.cons_append, List.nil_append, List.cons.injEq] at h
      have := u8_inj (by omega) (by omega) h.1
      omega
    · rw [encU_large hn, encU_large hm] at h
      simp only [List.cons_append, List.cons.injEq] at h
      have h1 := u8_inj (by omega) (by omega) h.1
      have h2 := ih (n / 128) (by omega) _ _ _ h.2
      exact ⟨by omega, h2.2⟩
theorem zz_inj {a b : Int} (h : zz a = zz b) : a = b := by
  unfold zz at h
  split at h <;> split at h <;> omega
theorem encI_inj {n m : Int} {r s : List UInt8} (h : encI n ++ r = encI m ++ s) : n = m ∧ r = s := by
  have := encU_inj _ _ _ _ h
  exact ⟨zz_inj this.1, this.2⟩
theorem flatI_inj : ∀ {a b : List Int} {r s : List UInt8}, a.length = b.length → a.flatMap encI ++ r = b.flatMap encI ++ s → a = b ∧ r = s
  | [], [], _, _, _, h => ⟨rfl, h⟩
  | [], _ :: _, _, _, hl, _ => by simp at hl
  | _ :: _, [], _, _, hl, _ => by simp at hl
  | x :: a, y :: b, r, s, hl, h => by
    simp only [List.flatMap_cons, List.append_assoc] at h
    obtain ⟨h1, h2⟩ := encI_inj h
    obtain ⟨h3, h4⟩ := flatI_inj (a := a) (b := b) (by simpa using hl) h2
    exact ⟨by rw [h1, h3], h4⟩
theorem encL_inj {a b : List Int} {r s : List UInt8} (h : encL a ++ r = encL b ++ s) : a = b ∧ r = s := by
  unfold encL at h
  simp only [List.append_assoc] at h
  obtain ⟨h1, h2⟩ := encU_inj _ _ _ _ h
  exact flatI_inj h1 h2
theorem encR_inj {a b : List UInt8} {r s : List UInt8} (h : encR a ++ r = encR b ++ s) : a = b ∧ r = s := by
  unfold encR at h
  simp only [List.append_assoc] at h
  obtain ⟨h1, h2⟩ := encU_inj _ _ _ _ h
  exact List.append_inj h2 h1
theorem nodeB_inj {n m : Nx} (hn : 0 ≤ n.u) (hm : 0 ≤ m.u) (h : nodeB n = nodeB m) : n = m := by
  unfold nodeB at h
  obtain ⟨h1, h⟩ := encI_inj h
  obtain ⟨h2, h⟩ := encL_inj h
  obtain ⟨h3, h⟩ := encI_inj h
  obtain ⟨h4, h⟩ := encI_inj h
  obtain ⟨h5, h⟩ := encU_inj _ _ _ _ h
  obtain ⟨h6, h⟩ := encR_inj h
  obtain ⟨h7, h⟩ := encI_inj h
  obtain ⟨h8, h⟩ := encI_inj h
  have h9 := (encI_inj (r := []) (s := []) (by simpa using h)).1
  have u5 : n.u = m.u := by omega
  have u6 : n.tx = m.tx := by
    have := congrArg ba h6
    rwa [ba_bl, ba_bl] at this
  obtain ⟨a1, a2, a3, a4, a5, a6, ⟨a7, a8, a9⟩⟩ := n
  obtain ⟨b1, b2, b3, b4, b5, b6, ⟨b7, b8, b9⟩⟩ := m
  simp only at h1 h2 h3 h4 u5 u6 h7 h8 h9
  clear h5 h6
  subst h1 h2 h3 h4 u5 u6 h7 h8 h9
  rfl
/-- the key of a node -/
def keyB (n : Nx) : ByteArray := ba (nodeB n)
theorem keyB_inj {n m : Nx} (hn : 0 ≤ n.u) (hm : 0 ≤ m.u) (h : keyB n = keyB m) : n = m := by
  refine nodeB_inj hn hm ?_
  have := congrArg bl h
  unfold keyB at this
  rwa [bl_ba, bl_ba] at this
end Go.Proofs.YtnpkhgljhcnpcaaGreatDoor
set_option maxRecDepth 100000
set_option maxHeartbeats 1000000
namespace Go.Proofs.YtnpkhgljhcnpcaaGreatDoor
open Go Go.W

def SMapIs (es : Array MapEntry) (ms : List (ByteArray × Value)) : Prop := es.toList.map (fun e => (e.key, e.val)) = ms.map fun p => (Value.string p.1, p.2)
def sget (ms : List (ByteArray × Value)) (k : ByteArray) : Option Value := (ms.find? fun p => decide (p.1 = k)).map (·.2)
theorem beq_dec (a b : ByteArray) : (a == b) = decide (b = a) := by
  cases h : decide (b = a) with
  | true => rw [of_decide_eq_true h]; exact (Go.MapKept.bytes_beq _ _).2 rfl
  | false =>
    cases hc : (a == b) with
    | false => rfl
    | true => exact absurd ((Go.MapKept.bytes_beq _ _).1 hc).symm (of_decide_eq_false h)
theorem findNow_str {k : ByteArray} : ∀ {es : List MapEntry} {ms : List (ByteArray × Value)} {i : Nat}, es.map (fun e => (e.key, e.val)) = ms.map (fun p => (Value.string p.1, p.2)) →
    Instr.findNow .string (.string k) es i = some ((ms.findIdx? fun p => decide (p.1 = k)).bind fun j => (ms[j]?).map fun p => (i + j, p.2))
  | [], [], i, _ => rfl
  | [], _ :: _, _, h => by simp at h
  | _ :: _, [], _, h => by simp at h
  | e :: es, p :: ms, i, h => by
    simp only [List.map_cons, List.cons.injEq, Prod.mk.injEq] at h
    obtain ⟨⟨h1, h2⟩, h3⟩ := h
    have ih := findNow_str (k := k) (i := i + 1) h3
    unfold Instr.findNow
    simp only [h1, Instr.sameNow, beq_dec]
    by_cases hk : p.1 = k
    · have e2 : decide (p.1 = k) = true := decide_eq_true hk
      simp [List.findIdx?_cons, hk, h2]
    · have e2 : decide (p.1 = k) = false := decide_eq_false hk
      simp only [ih, List.findIdx?_cons, e2, Bool.false_eq_true, if_false]
      congr 1
      cases hf : ms.findIdx? (fun p => decide (p.1 = k)) with
      | none => simp
      | some j => simp [Nat.add_assoc, Nat.add_comm 1 j]
theorem sget_idx {ms : List (ByteArray × Value)} {k : ByteArray} {i : Nat} : (((ms.findIdx? fun p => decide (p.1 = k)).bind fun j => (ms[j]?).map fun p => (i + j, p.2)).map (·.2)) = sget ms k := by
  unfold sget
  induction ms generalizing i with
  | nil => rfl
  | cons p ms ih =>
    by_cases hk : p.1 = k
    · simp [List.findIdx?_cons, hk]
    · have e2 : decide (p.1 = k) = false := decide_eq_false hk
      simp only [List.findIdx?_cons, e2, Bool.false_eq_true, if_false, List.find?_cons]
      rw [← ih (i := i + 1)]
      cases hf : ms.findIdx? (fun p => decide (p.1 = k)) with
      | none => simp
      | some j => simp [Function.comp_def]
structure SMapOk (P : Program) (T kt et : TypeId) (z : Value) : Prop where
  hT : P.underlying T = some (.map kt et)
  hk : P.underlying kt = some .string
  hz : (P.info? et).map (·.zero) = some (some z)
theorem checkKey_str {P : Program} {kt : TypeId} (hk : P.underlying kt = some .string) (b : Bool) (k : ByteArray) (w : World) : (Instr.checkKey b 10000 kt (.string k)).run P w = .ok () w := by
  unfold Instr.checkKey
  simp [run_underlying hk]
theorem lookup_str {P : Program} {T kt et : TypeId} {z : Value} (mo : SMapOk P T kt et z) {w : World} {mb : Nat} {es : Array MapEntry} {clock : Nat} {ms : List (ByteArray × Value)}
    (hm : w.heap[mb]? = some (.map es clock)) (hms : SMapIs es ms) (k : ByteArray) :
    (Instr.lookup T (.map (some mb)) (.string k) true).run P w = .ok (.tuple #[(sget ms k).getD z, .bool (sget ms k).isSome]) w := by
  have hf := findNow_str (k := k) (i := 0) hms
  have hg : (getObj mb).run P w = .ok (.map es clock) w := by simp [getObj, Sem.run, hm]
  have hg2 := sget_idx (ms := ms) (k := k) (i := 0)
  unfold Instr.lookup Instr.findKey
  simp only [Sem.run_bind, run_underlying mo.hT, Result.andThen_ok, hg, Sem.run_pure, checkKey_str mo.hk, run_underlying mo.hk, hf]
  cases hr : ((ms.findIdx? fun p => decide (p.1 = k)).bind fun j => (ms[j]?).map fun p => (0 + j, p.2)) with
  | none => rw [hr] at hg2; simp [← hg2, zeroValue_run mo.hz]
  | some q => rw [hr] at hg2; simp [← hg2]
theorem update_str {P : Program} {T kt et : TypeId} {z : Value} (mo : SMapOk P T kt et z) {w : World} {mb : Nat} {es : Array MapEntry} {clock : Nat} {ms : List (ByteArray × Value)}
    (hm : w.heap[mb]? = some (.map es clock)) (hms : SMapIs es ms) (k : ByteArray) (v : Value) (hno : sget ms k = none) :
    ∃ w' es', (Instr.mapUpdate T (.map (some mb)) (.string k) v).run P w = .ok () w' ∧ w'.heap[mb]? = some (.map es' (clock + 1)) ∧ SMapIs es' (ms ++ [(k, v)]) ∧ Fr (fun b => b = mb) w w' ∧ w'.heap.size = w.heap.size := by
  have hf := findNow_str (k := k) (i := 0) hms
  have hg : (getObj mb).run P w = .ok (.map es clock) w := by simp [getObj, Sem.run, hm]
  have hg2 := sget_idx (ms := ms) (k := k) (i := 0)
  have hlt := lt_of_heap hm
  have hr : ((ms.findIdx? fun p => decide (p.1 = k)).bind fun j => (ms[j]?).map fun p => (0 + j, p.2)) = none := by
    rw [hno] at hg2; simpa using hg2
  refine ⟨{ w with heap := w.heap.setIfInBounds mb (.map (es.push { key := .string k, val := v, born := clock }) (clock + 1)) }, es.push { key := .string k, val := v, born := clock }, ?_, by simp [hlt], ?_, Fr.setObj w mb _ rfl, by simp⟩
  · unfold Instr.mapUpdate Instr.findKey
    simp only [Sem.run_bind, run_underlying mo.hT, Result.andThen_ok, hg, checkKey_str mo.hk, run_underlying mo.hk, hf, hr]
    simp [setObj, Sem.run, hm]
  · unfold SMapIs at hms ⊢
    simp [hms]
end Go.Proofs.YtnpkhgljhcnpcaaGreatDoor
set_option maxRecDepth 100000
set_option maxHeartbeats 1000000
namespace Go.Proofs.YtnpkhgljhcnpcaaGreatDoor
open Go Go.W

/-- the numbers of the nodes by their keys -/
def placesX : List Nx → Nat → List (ByteArray × Value)
  | [], _ => []
  | d :: g, i => (keyB d, .i (i : Int)) :: placesX g (i + 1)
theorem places_snoc (n : Nx) : ∀ (g : List Nx) (i : Nat), placesX (g ++ [n]) i = placesX g i ++ [(keyB n, .i ((i + g.length : Nat) : Int))]
  | [], i => by simp [placesX]
  | d :: g, i => by
    have := places_snoc n g (i + 1)
    simp only [List.cons_append, placesX, this, List.length_cons]
    rw [show i + 1 + g.length = i + (g.length + 1) by omega]
theorem places_get {n : Nx} (hn : 0 ≤ n.u) : ∀ {g : List Nx} {i : Nat}, (∀ d ∈ g, 0 ≤ d.u) → sget (placesX g i) (keyB n) = (idxX n g i).map fun k : Nat => .i (k : Int)
  | [], i, _ => rfl
  | d :: g, i, h => by
    have ih := places_get hn (g := g) (i := i + 1) fun e he => h e (by simp [he])
    unfold sget at ih ⊢
    unfold placesX idxX
    by_cases hd : d = n
    · subst hd
      simp
    · have hk : ¬ keyB d = keyB n := fun e => hd (keyB_inj (h d (by simp)) hn e)
      rw [if_neg hd, List.find?_cons]
      simp only [decide_eq_false hk]
      exact ih
/-- the sorts of the variables by their names -/
def varsL : List Nx → List (ByteArray × Value)
  | [] => []
  | d :: g => if d.op = 0 then (d.tx, srtV d.st) :: varsL g else varsL g
theorem varsL_snoc (n : Nx) : ∀ (g : List Nx), varsL (g ++ [n]) = varsL g ++ (if n.op = 0 then [(n.tx, srtV n.st)] else [])
  | [] => by
    unfold varsL
    simp only [List.nil_append, varsL]
  | d :: g => by
    have := varsL_snoc n g
    simp only [List.cons_append, varsL, this]
    split <;> simp
theorem varsL_get (t : ByteArray) : ∀ (g : List Nx), sget (varsL g) t = (varS g t).map srtV
  | [] => rfl
  | d :: g => by
    have ih := varsL_get t g
    unfold sget at ih ⊢
    unfold varsL varS
    by_cases h0 : d.op = 0
    · rw [if_pos h0, List.find?_cons]
      by_cases ht : d.tx = t
      · rw [if_pos ⟨h0, ht⟩]
        simp [ht]
      · rw [if_neg (fun h => ht h.2)]
        simp only [decide_eq_false ht]
        exact ih
    · rw [if_neg h0, if_neg (fun h => h0 h.1)]
      exact ih
end Go.Proofs.YtnpkhgljhcnpcaaGreatDoor
set_option maxRecDepth 100000
set_option maxHeartbeats 1000000
namespace Go.Proofs.YtnpkhgljhcnpcaaGreatDoor
open Go Go.W

abbrev BuL (bb : Nat) (s : Sl) (mp mv : Nat) (l : List Nd) (es1 : Array MapEntry) (c1 : Nat) (es2 : Array MapEntry) (c2 : Nat) : List En :=
  [.c bb [s.v, .map (some mp), .map (some mv)] ty_term_builder, .row ty_api_Node 9 s (l.flatMap Nd.c), .ob mp (.map es1 c1), .ob mv (.map es2 c2)]
def BuRep (w : World) (bb : Nat) (l : List Nd) (own : List Nat) : Prop := ∃ (s : Sl) (mp mv : Nat) (es1 : Array MapEntry) (c1 : Nat) (es2 : Array MapEntry) (c2 : Nat), own = (BuL bb s mp mv l es1 c1 es2 c2).flatMap (·.fp) ∧ own.Nodup ∧ (∀ e ∈ BuL bb s mp mv l es1 c1 es2 c2, e.P w) ∧ SMapIs es1 (placesX (xs l) 0) ∧ SMapIs es2 (varsL (xs l))
def BuAt (w : World) (bb : Nat) (own : List Nat) (l : List Nd) (w' : World) : Prop := ∃ own', BuRep w' bb l own' ∧ Fr (· ∈ own) w w' ∧ ∀ x ∈ own', x ∈ own ∨ w.heap.size ≤ x
theorem BuRep.open {w : World} {bb : Nat} {l : List Nd} {own : List Nat} (h : BuRep w bb l own) (D : List En) (hD : ∀ e ∈ D, e.P w ∧ ∀ b ∈ e.fp, b ∉ own) :
    ∃ (s : Sl) (mp mv : Nat) (es1 : Array MapEntry) (c1 : Nat) (es2 : Array MapEntry) (c2 : Nat), SMapIs es1 (placesX (xs l) 0) ∧ SMapIs es2 (varsL (xs l)) ∧ LH (· ∈ own) w w (BuL bb s mp mv l es1 c1 es2 c2) D := by
  obtain ⟨s, mp, mv, es1, c1, es2, c2, ho, hn, hP, h1, h2⟩ := h
  have hin : ∀ e ∈ BuL bb s mp mv l es1 c1 es2 c2, ∀ b ∈ e.fp, b ∈ own := fun e he b hb => by rw [ho]; exact List.mem_flatMap.2 ⟨e, he, hb⟩
  exact ⟨s, mp, mv, es1, c1, es2, c2, h1, h2, LH.start' _ _ (fun e he => ⟨hP e he, hin e he⟩) (ho ▸ hn) (fun e he => ⟨(hD e he).1, fun b hb e' he' hm => (hD e he).2 b hb (hin e' he' b hm)⟩)⟩
theorem BuRep.close {w w' : World} {bb : Nat} {l : List Nd} {own : List Nat} {s : Sl} {mp mv : Nat} {es1 : Array MapEntry} {c1 : Nat} {es2 : Array MapEntry} {c2 : Nat} {D : List En} (H : LH (· ∈ own) w w' (BuL bb s mp mv l es1 c1 es2 c2) D) (h1 : SMapIs es1 (placesX (xs l) 0)) (h2 : SMapIs es2 (varsL (xs l))) : BuAt w bb own l w' :=
  ⟨_, ⟨s, mp, mv, es1, c1, es2, c2, rfl, H.nd, H.own, h1, h2⟩, H.fr, fun x hx => by
    obtain ⟨e, he, hb⟩ := List.mem_flatMap.1 hx
    exact (H.new e he x hb).symm⟩
theorem map_places : SMapOk Tryz.prog ty_map_string_int ty_string ty_int (.int .i64 0) := ⟨by kernel_rfl, by kernel_rfl, by kernel_rfl⟩
theorem map_vars : SMapOk Tryz.prog ty_map_string_api_Sort ty_string ty_api_Sort (.agg #[.int .i64 0, .int .i64 0, .int .i64 0]) := ⟨by kernel_rfl, by kernel_rfl, by kernel_rfl⟩
/-! #### Looking up the sort of a variable -/
/-- a cell to read -/
def _root_.Go.W.En.cl (p : Addr) (v : Value) : En := ⟨[p.block], fun w => w.cell? p = some v, fun w w' h hp => by
  have hl := cell_lt hp
  unfold World.cell? at hp ⊢
  rw [h p.block (by simp) hl]
  exact hp, fun w hp b hb => by simp at hb; subst hb; exact cell_lt hp, by simp⟩
theorem look_eq {l : List Nd} (t : ByteArray) : ∃ (a b c : Int) (y : Bool), ((sget (varsL (xs l)) t).getD (.agg #[.int .i64 0, .int .i64 0, .int .i64 0])) = .agg #[.i a, .i b, .i c] ∧ (sget (varsL (xs l)) t).isSome = y ∧ lookR (xs l) t = .returned (.tuple #[.agg #[.i a, .i b, .i c], .bool y]) := by
  rw [varsL_get]
  unfold lookR
  cases varS (xs l) t with
  | none => exact ⟨0, 0, 0, false, rfl, rfl, rfl⟩
  | some s => exact ⟨s.k, s.n, s.x, true, rfl, rfl, rfl⟩
theorem b_look {w : World} {bb : Nat} {l : List Nd} {s : Sl} {mp mv : Nat} {es1 : Array MapEntry} {c1 : Nat} {es2 : Array MapEntry} {c2 : Nat} {t1 : Addr} (h : ∀ e ∈ BuL bb s mp mv l es1 c1 es2 c2, e.P w) (h2 : SMapIs es2 (varsL (xs l))) (ht : w.cell? t1 = some (.pointer (some (at0 bb)))) (t : ByteArray) :
    Calls Tryz.prog n_term_builder_sortOf_1 #[.string t, .pointer (some t1)] w fun r w' => r = lookR (xs l) t ∧ Fr0 w w' := by
  have H : LH F0 w w [] (BuL bb s mp mv l es1 c1 es2 c2 ++ [.cl t1 (.pointer (some (at0 bb)))]) := lh0 _ (by
    intro e he
    rcases List.mem_append.1 he with he | he
    · exact h e he
    · simp only [List.mem_cons, List.not_mem_nil, or_false] at he
      subst he
      exact ht)
  obtain ⟨a, b, c, y, e1, e2, e3⟩ := look_eq (l := l) t
  refine term_builder_sortOf_1.okT t t1 w _ (H.newg fun b3 w1 H1 => ⟨_, H1.getD 4, optP_mk ⟨some mv, cellAt (p := at0 bb) (H1.getD 0) rfl rfl, a, b, c, y, ?_, H1.newg fun b5 w2 H2 => H2.locg fun w3 H3 => ⟨e3.symm, H3.fr⟩⟩⟩)
  rw [lookup_str map_vars (H1.getD 3) h2 t, e1, e2]
theorem b_sortOf {w : World} {bb : Nat} {l : List Nd} {own : List Nat} {d : Nd} (h : BuRep w bb l own) (hkids : ∀ e ∈ l, e.P w) (hd : d.P w) (hk : kcE.P w) (ho : TOk d.x) (hll : l.length ≤ 1000000000) (hv : ∀ e ∈ xs l, validS e.st = true) :
    Calls Tryz.prog n_term_builder_sortOf #[.pointer (some (at0 bb)), d.v] w fun r w' => r = sortR (srtX (xs l) d.x) ∧ Fr0 w w' := by
  obtain ⟨s, mp, mv, es1, c1, es2, c2, _, _, hP, _, h2⟩ := h
  have hrow : OwnRow w ty_api_Node 9 s (l.flatMap Nd.c) := hP _ (List.mem_of_getElem? (i := 1) rfl)
  have H : LH F0 w w [] (BuL bb s mp mv l es1 c1 es2 c2 ++ [.gr s l, kidE d, kcE]) := lh0 _ (by
    intro e he
    rcases List.mem_append.1 he with he | he
    · exact hP e he
    · simp only [List.mem_cons, List.not_mem_nil, or_false] at he
      rcases he with rfl | rfl | rfl
      · exact gr_P.2 ⟨hrow.rdn, hkids⟩
      · exact hd
      · exact hk)
  refine term_builder_sortOf.okT _ _ _ _ _ _ _ _ _ _ w _ (H.nw fun w1 _ H1 => H1.newg fun b3 w2 H2 => H2.newg fun b4 w3 H3 => H3.locg fun w4 H4 => ⟨_, H4.ld0 0, optP_mk ⟨s, cellAt (p := at0 bb) (H4.getD 0) rfl rfl, ?_⟩⟩)
  have Hs : LH F0 w4 w4 [] (.gr s l :: kidE d :: kcE :: (BuL bb s mp mv l es1 c1 es2 c2 ++ [.cl (at0 w.heap.size) (.pointer (some (at0 bb)))])) := lh0 _ (by
    intro e he
    simp only [List.cons_append, List.nil_append, List.mem_cons, List.not_mem_nil, or_false] at he
    rcases he with rfl | rfl | rfl | rfl | rfl | rfl | rfl | rfl
    · exact H4.getD 4
    · exact H4.getD 5
    · exact H4.getD 6
    · exact H4.getD 0
    · exact H4.getD 1
    · exact H4.getD 2
    · exact H4.getD 3
    · exact H4.ld0 0)
  refine H4.callg (t_sortOf ⟨n_term_builder_sortOf_1, #[], #[.pointer (some (at0 w.heap.size))]⟩ Hs (by kernel_rfl) (fun w' hw' => ?_) ho hll hv) ?_
  · exact b_look (fun e he => hw' e (List.mem_append_left _ he)) h2 (hw' (.cl (at0 w.heap.size) (.pointer (some (at0 bb)))) (by simp)) d.x.tx
  · rintro _ w5 rfl H5
    exact ⟨_, _, _, _, rfl, H5.locg fun w6 H6 => ⟨rfl, H6.fr⟩⟩
/-! #### find, put -/
def findB (g : List Nx) (n : Nx) : Int × Bool := match idxX n g 0 with
  | some i => ((i : Int), true)
  | none => (0, false)
theorem find_eq {g : List Nx} {n : Nx} (hn : 0 ≤ n.u) (hu : ∀ e ∈ g, 0 ≤ e.u) : (sget (placesX g 0) (keyB n)).getD (.int .i64 0) = .i (findB g n).1 ∧ (sget (placesX g 0) (keyB n)).isSome = (findB g n).2 := by
  rw [places_get hn hu]
  unfold findB
  cases idxX n g 0 with
  | none => exact ⟨rfl, rfl⟩
  | some i => exact ⟨rfl, rfl⟩
theorem b_find {w : World} {bb : Nat} {l : List Nd} {own : List Nat} {d : Nd} (h : BuRep w bb l own) (hd : d.P w) (W : WdN d.x) (hu : ∀ e ∈ xs l, 0 ≤ e.u) :
    Calls Tryz.prog n_term_builder_find #[.pointer (some (at0 bb)), d.v] w fun r w' => r = .returned (.tuple #[.i (findB (xs l) d.x).1, .bool (findB (xs l) d.x).2]) ∧ Fr0 w w' := by
  obtain ⟨s, mp, mv, es1, c1, es2, c2, _, _, hP, h1, _⟩ := h
  have H : LH F0 w w [] (BuL bb s mp mv l es1 c1 es2 c2 ++ [kidE d]) := lh0 _ (by
    intro e he
    rcases List.mem_append.1 he with he | he
    · exact hP e he
    · simp only [List.mem_cons, List.not_mem_nil, or_false] at he
      subst he
      exact hd)
  refine term_builder_find.ok _ _ _ _ _ _ _ _ _ _ w _ (H.nw fun w1 _ H1 => H1.dr fun w2 H2 => ⟨some mp, cellAt (p := at0 bb) (H2.getD 0) rfl rfl, H2.call (t_keyOf (d := d) (nda_ob (H2.ob 0)) (H2.getD 4) W) ?_⟩)
  rintro _ w3 rfl H3
  obtain ⟨e1, e2⟩ := find_eq W.u.1 hu
  refine ⟨_, rfl, cellAt (p := at0 bb) (H3.getD 0) rfl rfl, (findB (xs l) d.x).1, (findB (xs l) d.x).2, ?_, rfl, H3.fr⟩
  have := lookup_str map_places (H3.getD 2) h1 (keyB d.x)
  rw [e1, e2] at this
  exact this
theorem b_put {w : World} {bb : Nat} {l : List Nd} {own : List Nat} {d : Nd} (h : BuRep w bb l own) (hd : d.P w) (hdo : ∀ b ∈ (kidE d).fp, b ∉ own) (W : WdN d.x) (hu : ∀ e ∈ xs l, 0 ≤ e.u) (hl : l.length ≤ 100000) (hno : d.x ∉ xs l) (hvar : d.x.op = 0 → varS (xs l) d.x.tx = none) :
    Calls Tryz.prog n_term_builder_put #[.pointer (some (at0 bb)), d.v] w fun r w' => r = .returned (.i (l.length : Int)) ∧ BuAt w bb own (l ++ [d]) w' := by
  obtain ⟨s, mp, mv, es1, c1, es2, c2, h1, h2, H⟩ := h.open [kidE d] (by
    intro e he
    simp only [List.mem_cons, List.not_mem_nil, or_false] at he
    subst he
    exact ⟨hd, hdo⟩)
  have hn : s.n = l.length := Nd.rows_n (show RdN 9 w s (l.flatMap Nd.c) from (show OwnRow w ty_api_Node 9 s (l.flatMap Nd.c) from H.get 1).rdn)
  have g1 : sget (placesX (xs l) 0) (keyB d.x) = none := by
    rw [places_get W.u.1 hu]
    cases hi : idxX d.x (xs l) 0 with
    | none => rfl
    | some i =>
      have := (idx_some hi).2
      exact absurd (List.mem_of_getElem? this) hno
  have exs : xs (l ++ [d]) = xs l ++ [d.x] := by simp [xs]
  have p1 : placesX (xs (l ++ [d])) 0 = placesX (xs l) 0 ++ [(keyB d.x, .i (l.length : Int))] := by rw [exs, places_snoc]; simp [xs]
  have p2 : varsL (xs (l ++ [d])) = varsL (xs l) ++ (if d.x.op = 0 then [(d.x.tx, srtV d.x.st)] else []) := by rw [exs, varsL_snoc]
  have S0 : ∀ (es1' : Array MapEntry) (c1' : Nat) (es2' : Array MapEntry) (c2' nbk : Nat) (w1 : World), SMapIs es1' (placesX (xs (l ++ [d])) 0) → SMapIs es2' (varsL (xs (l ++ [d]))) → LH (· ∈ own) w w1 (BuL bb s mp mv l es1' c1' es2' c2' ++ [.c nbk d.c ty_api_Node]) [kidE d] →
      term_builder_put.S0 (at0 bb) (at0 nbk) w1 fun r w' => r = .returned (.i (l.length : Int)) ∧ BuAt w bb own (l ++ [d]) w' := by
    intro es1' c1' es2' c2' nbk w1 q1 q2 H1
    refine H1.dr fun w2 H2 => ⟨s, H2.ld 0 0, ?_⟩
    refine ⟨d.x.op, d.ks, d.x.n, d.x.m, d.x.u, d.x.tx, d.x.st.k, d.x.st.n, d.x.st.x, H2.ld 4 0, H2.ld 4 1, H2.ld 4 2, H2.ld 4 3, H2.ld 4 4, H2.ld 4 5, H2.ld 4 6, H2.ld 4 7, H2.ld 4 8, H2.nw fun w3 _ H3 => ⟨H3.ld 0 0, ?_⟩⟩
    have hsrc : RdN 9 w3 ⟨some (at0 w2.heap.size), 1, 1⟩ ([d].flatMap Nd.c) := by
      rw [show [d].flatMap Nd.c = d.c by simp]
      exact blk_rdn (T := ty_api_Node) (H3.ob 5) rfl
    refine H3.ap 1 el_node (src := ⟨some (at0 w2.heap.size), 1, 1⟩) rfl hsrc.2.2 hsrc.1 nd_one (by simp only; omega) (fun s' w4 H4 hs' _ => H4.st 0 0 rfl (fun w5 H5 => ⟨s', H5.ld 0 0, ?_⟩))
    refine ⟨?_, BuRep.close (s := s') (mp := mp) (mv := mv) (es1 := es1') (c1 := c1') (es2 := es2') (c2 := c2') (D := [kidE d]) ?_ q1 q2⟩
    · rw [hs', IntWalk.i64_in _ (by simp only; omega)]
      simp only
      rw [hn]
      congr 2
      omega
    · have := H5.take 4
      unfold BuL
      rw [show (l ++ [d]).flatMap Nd.c = l.flatMap Nd.c ++ [d].flatMap Nd.c from List.flatMap_append]
      exact this
  refine term_builder_put.ok _ _ _ _ _ _ _ _ _ _ w _ (H.nw fun w1 _ H1 => H1.dr fun w2 H2 => ⟨some mp, H2.ld 0 1, s, H2.ld 0 0, H2.call (t_keyOf (d := d) (nda_ob (H2.ob 4)) (H2.getD 0) W) ?_⟩)
  rintro _ w3 rfl H3
  obtain ⟨w4, es', u1, u2, u3, u4, _⟩ := update_str map_places (H3.ob 2) h1 (keyB d.x) (.i ((s.n : Nat) : Int)) g1
  have H4 := H3.upd 2 (.ob mp (.map es' (c1 + 1))) rfl (u4.mono fun x _ e => by simp [En.ob, e]) u2 (fun b hb => .inl hb)
  have q1 : SMapIs es' (placesX (xs (l ++ [d])) 0) := by rw [p1, ← hn]; exact u3
  refine ⟨_, rfl, H3.ld 0 0, H3.ld 0 1, w4, u1, d.x.op, H4.ld 4 0, sel_eq (fun h0 => ?_) (fun h0 => ?_)⟩
  · refine H4.dr fun w5 H5 => ⟨some mv, H5.ld 0 2, d.x.tx, H5.ld 4 5, ?_⟩
    have g2 : sget (varsL (xs l)) d.x.tx = none := by rw [varsL_get, hvar h0]; rfl
    obtain ⟨w6, es2', v1, v2, v3, v4, _⟩ := update_str map_vars (H5.ob 3) h2 d.x.tx (srtV d.x.st) g2
    have H6 := H5.upd 3 (.ob mv (.map es2' (c2 + 1))) rfl (v4.mono fun x _ e => by simp [En.ob, e]) v2 (fun b hb => .inl hb)
    have a := nda_ob (d := d) (H5.ob 4)
    refine ⟨d.x.st.k, d.x.st.n, d.x.st.x, a.s0, a.s1, a.s2, w6, v1, S0 es' (c1 + 1) es2' (c2 + 1) w.heap.size w6 q1 ?_ H6⟩
    rw [p2, if_pos h0]
    exact v3
  · refine S0 es' (c1 + 1) es2 c2 w.heap.size w4 q1 ?_ H4
    rw [p2, if_neg h0, List.append_nil]
    exact h2
end Go.Proofs.YtnpkhgljhcnpcaaGreatDoor
set_option maxRecDepth 100000
set_option maxHeartbeats 1000000
namespace Go.Proofs.YtnpkhgljhcnpcaaGreatDoor
open Go Go.W

theorem BuRep.st {w w' : World} {bb : Nat} {l : List Nd} {own : List Nat} (h : BuRep w bb l own) (k : ∀ b ∈ own, b < w.heap.size → w'.heap[b]? = w.heap[b]?) : BuRep w' bb l own := by
  obtain ⟨s, mp, mv, es1, c1, es2, c2, ho, hn, hP, h1, h2⟩ := h
  exact ⟨s, mp, mv, es1, c1, es2, c2, ho, hn, fun e he => e.st w w' (fun b hb hl => k b (by rw [ho]; exact List.mem_flatMap.2 ⟨e, he, hb⟩) hl) (hP e he), h1, h2⟩
theorem BuRep.lt {w : World} {bb : Nat} {l : List Nd} {own : List Nat} (h : BuRep w bb l own) : ∀ b ∈ own, b < w.heap.size := by
  obtain ⟨s, mp, mv, es1, c1, es2, c2, ho, hn, hP, h1, h2⟩ := h
  intro b hb
  rw [ho] at hb
  obtain ⟨e, he, hb⟩ := List.mem_flatMap.1 hb
  exact e.lt w (hP e he) b hb
def _root_.Go.W.En.bu (bb : Nat) (own : List Nat) (l : List Nd) : En := ⟨nub own, fun w => BuRep w bb l own, fun w w' h hp => hp.st fun b hb => h b (mem_nub.2 hb), fun w hp b hb => hp.lt b (mem_nub.1 hb), nub_nodup _⟩
theorem bu_off (w : World) (bb : Nat) (own : List Nat) (l : List Nd) (b : Nat) : ¬ (En.bu bb own l).P ({ w with heap := Array.replicate (b + 1) (.map #[] 0) }) := by
  rintro ⟨s, mp, mv, es1, c1, es2, c2, ho, hn, hP, h1, h2⟩
  have h := hP _ (List.mem_of_getElem? (i := 0) rfl)
  exact c_off w bb _ ty_term_builder b h
section
variable {M : Nat → Prop} {w0 w : World} {L D : List En} {bs : List Nat}
theorem _root_.Go.W.LH.buG (H : LH M w0 w L D) (i : Nat) {bb : Nat} {own : List Nat} {l l' : List Nd} {w' : World} (hi : L[i]? = some (.bu bb own l)) (h : BuAt w bb own l' w') : ∃ own', LH M w0 w' (L.set i (.bu bb own' l')) D ∧ BuRep w' bb l' own' := by
  obtain ⟨own', r, f, o⟩ := h
  exact ⟨own', H.upd i (.bu bb own' l') hi (f.mono fun x _ hx => mem_nub.2 hx) r (fun b hb => (o b (mem_nub.1 hb)).imp mem_nub.2 id), r⟩
theorem _root_.Go.W.LH.buC (H : LH M w0 w L D) (i : Nat) {bb : Nat} {own : List Nat} {l l' : List Nd} {P : Program} {g : FuncId} {args : Array Value} {A : Ending → Prop} {K : Post} (hi : L[i]? = some (.bu bb own l)) (hc : Calls P g args w fun r w' => A r ∧ BuAt w bb own l' w')
    (hk : ∀ r w' own', A r → LH M w0 w' (L.set i (.bu bb own' l')) D → K r w') (hbs : ∀ b ∈ bs, En.g b ∈ L := by simp) : callF bs P g args w K :=
  ⟨(· ∈ own), fun b hb hm => ghost_off H hi (bu_off w bb own l) (hbs b hb) (mem_nub.2 hm), hc.mono fun r w' ⟨ha, h⟩ => by
    obtain ⟨_, _, f, _⟩ := id h
    obtain ⟨own', H', _⟩ := H.buG i hi h
    exact ⟨f, hk r w' own' ha H'⟩⟩
end
theorem BuRep.nil (w : World) : BuAt w (w.heap.size + 2) [] [] ((((w.alloc (.map #[] 0)).alloc (.map #[] 0)).alloc (.cells #[.slice none 0 0, .map (some w.heap.size), .map (some (w.heap.size + 1))] ty_term_builder))) := by
  have s1 : (w.alloc (.map #[] 0)).heap.size = w.heap.size + 1 := size_alloc _ _
  have s2 : ((w.alloc (.map #[] 0)).alloc (.map #[] 0)).heap.size = w.heap.size + 2 := by rw [size_alloc, s1]
  have m1 : (w.alloc (.map #[] 0)).heap[w.heap.size]? = some (.map #[] 0) := heap_new w _
  have m1' := (Fr.alloc F0 (w.alloc (.map #[] 0)) (.map #[] 0)).at m1 id
  have m2 := heap_new (w.alloc (.map #[] 0)) (.map #[] 0)
  rw [s1] at m2
  have f3 := Fr.alloc F0 ((w.alloc (.map #[] 0)).alloc (.map #[] 0)) (.cells #[.slice none 0 0, .map (some w.heap.size), .map (some (w.heap.size + 1))] ty_term_builder)
  have c := heap_new ((w.alloc (.map #[] 0)).alloc (.map #[] 0)) (.cells #[.slice none 0 0, .map (some w.heap.size), .map (some (w.heap.size + 1))] ty_term_builder)
  rw [s2] at c
  have f : Fr0 w (((w.alloc (.map #[] 0)).alloc (.map #[] 0)).alloc (.cells #[.slice none 0 0, .map (some w.heap.size), .map (some (w.heap.size + 1))] ty_term_builder)) := ((Fr.alloc F0 w _).tr0 (Fr.alloc F0 _ _)).tr0 f3
  refine ⟨_, ⟨⟨none, 0, 0⟩, w.heap.size, w.heap.size + 1, #[], 0, #[], 0, rfl, ?_, fun e he => ?_, rfl, rfl⟩, f.of0, fun x hx => ?_⟩
  · show ([w.heap.size + 2] ++ ([] ++ ([w.heap.size] ++ ([w.heap.size + 1] ++ [])))).Nodup
    simp
  · simp only [List.mem_cons, List.not_mem_nil, or_false] at he
    rcases he with rfl | rfl | rfl | rfl
    · exact c
    · exact OwnRow.nil _ _ _
    · exact f3.at m1' id
    · exact f3.at m2 id
  · have hx : x ∈ [w.heap.size + 2] ++ ([] ++ ([w.heap.size] ++ ([w.heap.size + 1] ++ []))) := hx
    simp at hx
    right
    omega
theorem vg_new {g : List Nx} (h : Vg g) : ∀ i d, g[i]? = some d → d ∉ g.take i := by
  induction h with
  | nil => intro i d hd; simp at hd
  | @snoc g n hg hs hn ih =>
    intro i d hd
    rcases Nat.lt_or_ge i g.length with hi | hi
    · rw [List.getElem?_append_left hi] at hd
      rw [List.take_append_of_le_length (by omega)]
      exact ih i d hd
    · rw [List.getElem?_append_right hi] at hd
      have : i - g.length = 0 := by
        have := (List.getElem?_eq_some_iff.1 hd).1
        simp at this
        omega
      rw [this] at hd
      simp at hd
      subst hd
      rw [show i = g.length by omega, List.take_left]
      exact hn
/-- no variable with this name stands before -/
theorem vg_var {g : List Nx} (h : Vg g) {i : Nat} {d : Nx} (hd : g[i]? = some d) (h0 : d.op = 0) : varS (g.take i) d.tx = none := by
  cases hv : varS (g.take i) d.tx with
  | none => rfl
  | some s =>
    obtain ⟨e, he, e0, et, _⟩ := varS_mem hv
    obtain ⟨j, hj⟩ := List.mem_iff_getElem?.1 (List.mem_of_mem_take he)
    have hst := h.vars e (List.mem_of_mem_take he) e0 d (List.mem_of_getElem? hd) h0 et
    have := var_eq (h.sok j e hj) (h.sok i d hd) e0 h0 et hst
    exact absurd (this ▸ he) (vg_new h i d hd)
theorem b_new {w : World} {s : Sl} {l : List Nd} (h : GP w s l) (hg : Vg (xs l)) (hW : ∀ d ∈ xs l, WdN d) (hl : l.length ≤ 100000) :
    Calls Tryz.prog n_term_newBuilder #[.agg #[s.v]] w fun r w' => (∃ bb own, r = .returned (.pointer (some (at0 bb))) ∧ BuRep w' bb l own ∧ ∀ x ∈ own, w.heap.size ≤ x) ∧ Fr0 w w' := by
  have hn := gr_n h
  have H : LH F0 w w [] [.gr s l] := lh0 _ (by
    intro e he
    simp only [List.mem_cons, List.not_mem_nil, or_false] at he
    subst he
    exact gr_P.2 h)
  have loop : ∀ (m i b1 bb : Nat) (own : List Nat) (w1 : World), i + m = l.length → LH F0 w w1 [.g b1, .bu bb own (l.take i)] [.gr s l] →
      term_newBuilder.L0T (at0 bb) s ((s.n : Nat) : Int) (i : Int) w1 fun r w' => (∃ bb own, r = .returned (.pointer (some (at0 bb))) ∧ BuRep w' bb l own ∧ ∀ x ∈ own, w.heap.size ≤ x) ∧ Fr0 w w' := by
    intro m
    induction m with
    | zero =>
      intro i b1 bb own w1 hi H1
      refine term_newBuilder.L0T_step _ _ _ _ _ _ (sel_false (decide_eq_false (by omega)) ⟨⟨bb, own, rfl, ?_, fun x hx => (H1.new _ (List.mem_of_getElem? (i := 1) rfl) x (mem_nub.2 hx)).resolve_right id⟩, H1.fr⟩)
      have := H1.get 1
      rw [List.take_of_length_le (by omega)] at this
      exact this
    | succ m ih =>
      intro i b1 bb own w1 hi H1
      have ga : l[i]? = some (l[i]'(by omega)) := List.getElem?_eq_getElem (by omega)
      generalize l[i]'(by omega) = d at ga
      refine term_newBuilder.L0T_step _ _ _ _ _ _ (sel_true (decide_eq_true (by omega)) (gr_at (gr_P.1 (H1.getD 0)) rfl ga fun p hp c => ⟨d.x.op, d.ks, d.x.n, d.x.m, d.x.u, d.x.tx, d.x.st.k, d.x.st.n, d.x.st.x, c.c0, c.c1, c.c2, c.c3, c.c4, c.c5, c.c6, c.c7, c.c8, H1.newg fun b5 w2 H2 => H2.locg fun w3 H3 => ?_⟩))
      have hdm := List.mem_of_getElem? ga
      have gx := xs_get ga
      have et : xs (l.take i) = (xs l).take i := by simp [xs, List.map_take]
      have es : l.take (i + 1) = l.take i ++ [d] := by rw [List.take_add_one, ga]; rfl
      refine H3.buC 1 rfl (b_put (l := l.take i) (d := d) (H3.get 1) ((gr_P.1 (H3.getD 0)).2 d hdm) (fun b hb hm => H3.dj (.gr s l) (by simp) b (gr_fp.2 (.inr ⟨d, hdm, hb⟩)) (.bu bb own (l.take i)) (by simp) (mem_nub.2 hm)) (hW _ (List.mem_map.2 ⟨d, hdm, rfl⟩)) (fun e he => (hW e (by rw [et] at he; exact List.mem_of_mem_take he)).u.1) (by rw [List.length_take]; omega) (by rw [et]; exact vg_new hg i d.x gx) (fun h0 => by rw [et]; exact vg_var hg gx h0)) ?_
      rintro _ w4 own' rfl H4
      refine ⟨_, rfl, ?_⟩
      rw [i64_next _ (by omega)]
      refine ih (i + 1) b1 bb own' w4 (by omega) ?_
      rw [es]
      exact H4.take 2
  refine term_newBuilder.okT s w _ (H.newg fun b1 w1 H1 => ?_)
  obtain ⟨own, r, f, o⟩ := BuRep.nil w1
  have H2 := (H1.fresh (f.mono fun x _ hx => by cases hx)).own (.bu (w1.heap.size + 2) own []) r (fun b hb => (o b (mem_nub.1 hb)).resolve_left (by simp))
  have e2 : ((w1.alloc (.map #[] 0)).alloc (.map #[] 0)).heap.size = w1.heap.size + 2 := by rw [size_alloc, size_alloc]
  have := loop l.length 0 b1 (w1.heap.size + 2) own _ (by omega) H2
  have s1 : (w1.alloc (.map #[] 0)).heap.size = w1.heap.size + 1 := size_alloc _ _
  rw [← e2, ← s1] at this
  exact this
end Go.Proofs.YtnpkhgljhcnpcaaGreatDoor
set_option maxRecDepth 100000
set_option maxHeartbeats 1000000
namespace Go.Proofs.YtnpkhgljhcnpcaaGreatDoor
open Go Go.W

def vldG : List Nx → List Nx → Int
  | _, [] => 0
  | g, n :: r => if (srtX g n).2 ≠ 0 then (srtX g n).2 else if (srtX g n).1 ≠ n.st then 9 else if n ∈ g then 8 else vldG (g ++ [n]) r
theorem vldG_cons (g : List Nx) (n : Nx) (r : List Nx) : vldG g (n :: r) = if (srtX g n).2 ≠ 0 then (srtX g n).2 else if (srtX g n).1 ≠ n.st then 9 else if n ∈ g then 8 else vldG (g ++ [n]) r := rfl
/-- what is wrong with a graph -/
def vldX (g : List Nx) : Int := if 4096 < g.length then 4 else vldG [] g
theorem find_mem {g : List Nx} {n : Nx} : (findB g n).2 = decide (n ∈ g) := by
  unfold findB
  cases hi : idxX n g 0 with
  | none => exact (decide_eq_false (idx_none hi)).symm
  | some i => exact (decide_eq_true (List.mem_of_getElem? (idx_some hi).2)).symm
theorem t_Valid {w : World} {s : Sl} {l : List Nd} (h : GP w s l) (hk : kcE.P w) (hT : l.length ≤ 4096 → ∀ d ∈ l, TOk d.x ∧ WdN d.x) :
    Calls Tryz.prog n_term_Valid #[.agg #[s.v]] w fun r w' => r = .returned (.i (vldX (xs l))) ∧ Fr0 w w' := by
  have hn := gr_n h
  have hxl : (xs l).length = l.length := by simp [xs]
  have H : LH F0 w w [] [.gr s l, kcE] := lh0 _ (by
    intro e he
    simp only [List.mem_cons, List.not_mem_nil, or_false] at he
    rcases he with rfl | rfl
    · exact gr_P.2 h
    · exact hk)
  refine term_Valid.okT s w _ (H.newg fun b1 w1 H1 => sel_dec (fun hbig => ⟨by unfold vldX; rw [if_pos (by omega)], H1.fr⟩) (fun hbig => ?_))
  have hT := hT (by omega)
  have hvl : vldX (xs l) = vldG [] (xs l) := by unfold vldX; rw [if_neg (by omega)]
  rw [hvl]
  have loop : ∀ (m i b1 bb : Nat) (own : List Nat) (w1 : World), i + m = l.length → Vg ((xs l).take i) → vldG ((xs l).take i) ((xs l).drop i) = vldG [] (xs l) → LH F0 w w1 [.g b1, .bu bb own (l.take i)] [.gr s l, kcE] →
      term_Valid.L0T (some (at0 bb)) s ((s.n : Nat) : Int) (i : Int) w1 fun r w' => r = .returned (.i (vldG [] (xs l))) ∧ Fr0 w w' := by
    intro m
    induction m with
    | zero =>
      intro i b1 bb own w1 hi hg hv H1
      refine term_Valid.L0T_step _ _ _ _ _ _ (sel_false (decide_eq_false (by omega)) ⟨?_, H1.fr⟩)
      rw [← hv, List.drop_of_length_le (by omega)]
      rfl
    | succ m ih =>
      intro i b1 bb own w1 hi hg hv H1
      have ga : l[i]? = some (l[i]'(by omega)) := List.getElem?_eq_getElem (by omega)
      have hx : (xs l).drop i = (l[i]'(by omega)).x :: (xs l).drop (i + 1) := by
        rw [List.drop_eq_getElem_cons (by omega : i < (xs l).length)]
        simp [xs]
      generalize l[i]'(by omega) = d at ga hx
      have hdm := List.mem_of_getElem? ga
      have gx := xs_get ga
      have et : xs (l.take i) = (xs l).take i := by simp [xs, List.map_take]
      have es : l.take (i + 1) = l.take i ++ [d] := by rw [List.take_add_one, ga]; rfl
      have ex : (xs l).take (i + 1) = (xs l).take i ++ [d.x] := by rw [List.take_add_one, gx]; rfl
      rw [hx, vldG_cons] at hv
      have hu : ∀ e ∈ xs (l.take i), 0 ≤ e.u := fun e he => by
        obtain ⟨a, ha, rfl⟩ := List.mem_map.1 he
        exact (hT a (List.mem_of_mem_take ha)).2.u.1
      refine term_Valid.L0T_step _ _ _ _ _ _ (sel_true (decide_eq_true (by omega)) (gr_at (gr_P.1 (H1.getD 0)) rfl ga fun p hp c => ⟨d.x.op, d.ks, d.x.n, d.x.m, d.x.u, d.x.tx, d.x.st.k, d.x.st.n, d.x.st.x, c.c0, c.c1, c.c2, c.c3, c.c4, c.c5, c.c6, c.c7, c.c8, H1.newg fun b5 w2 H2 => H2.locg fun w3 H3 => ?_⟩))
      refine H3.callg (b_sortOf (l := l.take i) (d := d) (H3.get 1) (fun e he => (gr_P.1 (H3.getD 0)).2 e (List.mem_of_mem_take he)) ((gr_P.1 (H3.getD 0)).2 d hdm) (H3.getD 1) (hT d hdm).1 (by rw [List.length_take]; omega) (by rw [et]; exact hg.val)) ?_
      rintro _ w4 rfl H4
      rw [et]
      refine ⟨_, _, _, _, rfl, H4.newg fun b6 w5 H5 => sel_ne (fun h0 => H5.locg fun w6 H6 => ⟨by rw [← hv, if_pos h0], H6.fr⟩) (fun h0 => sel_srtN (a := (srtX ((xs l).take i) d.x).1) (b := d.x.st) (fun h1 => H5.locg fun w6 H6 => ⟨by rw [← hv, if_neg (fun h => h h0), if_pos h1], H6.fr⟩) (fun h1 => H5.locg fun w6 H6 => ?_))⟩
      rw [if_neg (fun h => h h0), if_neg (fun h => h h1)] at hv
      refine H6.callg (b_find (l := l.take i) (d := d) (H6.get 1) ((gr_P.1 (H6.getD 0)).2 d hdm) (hT d hdm).2 hu) ?_
      rintro _ w7 rfl H7
      refine ⟨_, _, rfl, ?_⟩
      rw [find_mem, et]
      refine sel_dec (fun h2 => ⟨by rw [← hv, if_pos h2], H7.fr⟩) (fun h2 => ?_)
      rw [if_neg h2] at hv
      have hg' : Vg ((xs l).take (i + 1)) := by
        rw [ex]
        exact .snoc hg (by rw [← h1, ← h0]) h2
      have gt : ((xs l).take (i + 1))[i]? = some d.x := by rw [List.getElem?_take, if_pos (by omega)]; exact gx
      have htt : ((xs l).take (i + 1)).take i = (xs l).take i := by rw [List.take_take]; congr 1; omega
      refine H7.buC 1 rfl (b_put (l := l.take i) (d := d) (H7.get 1) ((gr_P.1 (H7.getD 0)).2 d hdm) (fun b hb hm => H7.dj (.gr s l) (by simp) b (gr_fp.2 (.inr ⟨d, hdm, hb⟩)) (.bu bb own (l.take i)) (by simp) (mem_nub.2 hm)) (hT d hdm).2 hu (by rw [List.length_take]; omega) (by rw [et]; exact h2) (fun h0 => by rw [et, ← htt]; exact vg_var hg' gt h0)) ?_
      rintro _ w8 own' rfl H8
      refine ⟨_, rfl, ?_⟩
      rw [i64_next _ (by omega)]
      refine ih (i + 1) b1 bb own' w8 (by omega) hg' (by rw [ex]; exact hv) ?_
      rw [es]
      exact H8.take 2
  refine H1.callr (b_new (s := ⟨none, 0, 0⟩) (l := []) ⟨RdN.nil 9 w1, by simp⟩ .nil (by simp [xs]) (by simp)) ?_
  rintro _ w2 ⟨bb, own, rfl, r, o⟩ _ F2
  have H2 := F2.own (.bu bb own []) r (fun b hb => o b (mem_nub.1 hb))
  exact ⟨_, rfl, loop l.length 0 b1 bb own w2 (by omega) .nil rfl H2⟩
end Go.Proofs.YtnpkhgljhcnpcaaGreatDoor

/- Printed by a program of ours (vcgen.py) from the dump: the conditions of the functions, and that they suffice. -/
import Derived.Test.YtjmnpdacalbpkaaV
set_option linter.unusedVariables false
set_option maxRecDepth 100000
namespace Go.Proofs.Ytjmnpdacalbpkaa
open Go
namespace enthymemelaw02_WireOwn
noncomputable def C0 : Code := (Try.f4.body).getD .skip
noncomputable def C1 : Code := W.Code.snd C0
noncomputable def C2 : Code := W.Code.snd C1
noncomputable def C3 : Code := W.Code.snd C2
noncomputable def C4 : Code := W.Code.snd C3
noncomputable def C5 : Code := W.Code.snd C4
noncomputable def C6 : Code := W.Code.snd C5
noncomputable def C7 : Code := W.Code.snd C6
noncomputable def C8 : Code := W.Code.snd C7
noncomputable def C9 : Code := W.Code.fst C8
noncomputable def C10 : Code := W.Code.snd C9
noncomputable def C11 : Code := W.Code.fst C10
noncomputable def C12 : Code := W.Code.fst C11
noncomputable def C13 : Code := W.Code.snd C8
abbrev Q0 (R : W.Post) : Exit → Act → World → Prop := (Exit.then (Code.wp Try.prog C13 (bodyPost Try.prog Try.f4 R)) (bodyPost Try.prog Try.f4 R))
abbrev Q1 (R : W.Post) : Exit → Act → World → Prop := (Exit.inBlock 0 (Q0 R))
/-- the head of the loop, law.go:211 -/
def L9 (l1 own5 nums6 : W.Sl) (wv7 : Addr) (first8 again9 : W.Sl) (i10 : Int) (w : World) (R : W.Post) : Prop := W.LP Try.prog 101 C12 (Q1 R) [(1, l1.v), (5, own5.v), (6, nums6.v), (7, .pointer (some wv7)), (8, first8.v), (9, again9.v), (10, .int .i64 i10)] w
def KE_L9 (E : W.Env) (w : World) (R : W.Post) : Prop := W.asSlice (W.Env.get? E 1) fun l1 => W.asSlice (W.Env.get? E 5) fun own5 => W.asSlice (W.Env.get? E 6) fun nums6 => W.asRef (W.Env.get? E 7) fun wv7 => W.asSlice (W.Env.get? E 8) fun first8 => W.asSlice (W.Env.get? E 9) fun again9 => W.asInt .i64 (W.Env.get? E 10) fun i10 => L9 l1 own5 nums6 wv7 first8 again9 i10 w R
theorem KE_L9_ok (R : W.Post) (E : W.Env) (w : World) (h : KE_L9 E w R) : W.LP Try.prog 101 C12 (Q1 R) E w := by
  obtain ⟨l1, hq1, h1⟩ := W.asSlice_elim h
  obtain ⟨own5, hq5, h2⟩ := W.asSlice_elim h1
  obtain ⟨nums6, hq6, h3⟩ := W.asSlice_elim h2
  obtain ⟨wv7, hq7, h4⟩ := W.asRef_elim h3
  obtain ⟨first8, hq8, h5⟩ := W.asSlice_elim h4
  obtain ⟨again9, hq9, h6⟩ := W.asSlice_elim h5
  obtain ⟨i10, hq10, h7⟩ := W.asInt_elim h6
  intro a ha
  exact h7 a (ha.cons hq1 (ha.cons hq5 (ha.cons hq6 (ha.cons hq7 (ha.cons hq8 (ha.cons hq9 (ha.cons hq10 ha.nil)))))))
noncomputable def C14 : Code := W.Code.snd C12
noncomputable def C15 : Code := W.Code.snd C14
abbrev Q2 (R : W.Post) : Exit → Act → World → Prop := (Exit.then (W.LoopWP Try.prog C12 (Q1 R)) (Q1 R))
/-- law.go:211 -/
abbrev S12 (l1 own5 nums6 : W.Sl) (wv7 : Addr) (first8 again9 : W.Sl) (i10 : Int) (w : World) (R : W.Post) : Prop :=
  L9 l1 own5 nums6 wv7 first8 again9 (IntKind.wrap .i64 (i10 + 1)) w R
def KE_S12 (E : W.Env) (w : World) (R : W.Post) : Prop := W.asSlice (W.Env.get? E 1) fun l1 => W.asSlice (W.Env.get? E 5) fun own5 => W.asSlice (W.Env.get? E 6) fun nums6 => W.asRef (W.Env.get? E 7) fun wv7 => W.asSlice (W.Env.get? E 8) fun first8 => W.asSlice (W.Env.get? E 9) fun again9 => W.asInt .i64 (W.Env.get? E 10) fun i10 => S12 l1 own5 nums6 wv7 first8 again9 i10 w R
theorem KE_S12_ok (R : W.Post) (E : W.Env) (w : World) (h : KE_S12 E w R) : W.WP Try.prog 101 C15 (Q2 R) E w := by
  obtain ⟨l1, hq1, h1⟩ := W.asSlice_elim h
  obtain ⟨own5, hq5, h2⟩ := W.asSlice_elim h1
  obtain ⟨nums6, hq6, h3⟩ := W.asSlice_elim h2
  obtain ⟨wv7, hq7, h4⟩ := W.asRef_elim h3
  obtain ⟨first8, hq8, h5⟩ := W.asSlice_elim h4
  obtain ⟨again9, hq9, h6⟩ := W.asSlice_elim h5
  obtain ⟨i10, hq10, h7⟩ := W.asInt_elim h6
  exact fun a ha => W.WP.at (E := [(1, l1.v), (5, own5.v), (6, nums6.v), (7, .pointer (some wv7)), (8, first8.v), (9, again9.v), (10, .int .i64 i10)]) (W.WP.reg (c := C15) (fun E w => KE_L9 E w R) (by kernel_rfl) (Eq.mp (by kernel_rfl) h7) fun _ _ a hA hK => KE_L9_ok R _ _ hK a hA) (ha.cons hq1 (ha.cons hq5 (ha.cons hq6 (ha.cons hq7 (ha.cons hq8 (ha.cons hq9 (ha.cons hq10 ha.nil)))))))
noncomputable def C16 : Code := W.Code.fst C14
noncomputable def C17 : Code := W.Code.fst C16
abbrev Q3 (R : W.Post) : Exit → Act → World → Prop := (Exit.then (Code.wp Try.prog C15 (Exit.then (W.LoopWP Try.prog C12 (Q1 R)) (Q1 R))) (Exit.then (W.LoopWP Try.prog C12 (Q1 R)) (Q1 R)))
abbrev Q4 (R : W.Post) : Exit → Act → World → Prop := (Exit.inBlock 1 (Q3 R))
/-- law.go:212 -/
abbrev S11 (l1 own5 nums6 : W.Sl) (wv7 : Addr) (first8 again9 : W.Sl) (i10 : Int) (w : World) (R : W.Post) : Prop :=
  (0 : Int) ≤ i10 ∧ i10 < ((own5.n : Nat) : Int) ∧ W.optP own5.a fun t38_p => (w.cell? (t38_p.add (Int.toNat i10 * 1))).isSome = true ∧ w.frozen? (t38_p.add (Int.toNat i10 * 1)) = false ∧ let w1 := w.setCell (t38_p.add (Int.toNat i10 * 1)) (.int .u8 7)
  S12 l1 own5 nums6 wv7 first8 again9 i10 w1 R
def KE_S11 (E : W.Env) (w : World) (R : W.Post) : Prop := W.asSlice (W.Env.get? E 1) fun l1 => W.asSlice (W.Env.get? E 5) fun own5 => W.asSlice (W.Env.get? E 6) fun nums6 => W.asRef (W.Env.get? E 7) fun wv7 => W.asSlice (W.Env.get? E 8) fun first8 => W.asSlice (W.Env.get? E 9) fun again9 => W.asInt .i64 (W.Env.get? E 10) fun i10 => S11 l1 own5 nums6 wv7 first8 again9 i10 w R
theorem KE_S11_ok (R : W.Post) (E : W.Env) (w : World) (h : KE_S11 E w R) : W.WP Try.prog 101 C17 (Q4 R) E w := by
  obtain ⟨l1, hq1, h1⟩ := W.asSlice_elim h
  obtain ⟨own5, hq5, h2⟩ := W.asSlice_elim h1
  obtain ⟨nums6, hq6, h3⟩ := W.asSlice_elim h2
  obtain ⟨wv7, hq7, h4⟩ := W.asRef_elim h3
  obtain ⟨first8, hq8, h5⟩ := W.asSlice_elim h4
  obtain ⟨again9, hq9, h6⟩ := W.asSlice_elim h5
  obtain ⟨i10, hq10, h7⟩ := W.asInt_elim h6
  exact fun a ha => W.WP.at (E := [(1, l1.v), (5, own5.v), (6, nums6.v), (7, .pointer (some wv7)), (8, first8.v), (9, again9.v), (10, .int .i64 i10)]) (W.WP.reg (c := C17) (fun E w => KE_S12 E w R) (by kernel_rfl) (Eq.mp (by kernel_rfl) h7) fun _ _ a hA hK => (KE_S12_ok R _ _ hK) a hA) (ha.cons hq1 (ha.cons hq5 (ha.cons hq6 (ha.cons hq7 (ha.cons hq8 (ha.cons hq9 (ha.cons hq10 ha.nil)))))))
noncomputable def C18 : Code := W.Code.fst C13
noncomputable def C19 : Code := W.Code.snd C18
noncomputable def C20 : Code := W.Code.fst C19
noncomputable def C21 : Code := W.Code.fst C20
noncomputable def C22 : Code := W.Code.snd C13
abbrev Q5 (R : W.Post) : Exit → Act → World → Prop := (Exit.then (Code.wp Try.prog C22 (bodyPost Try.prog Try.f4 R)) (bodyPost Try.prog Try.f4 R))
abbrev Q6 (R : W.Post) : Exit → Act → World → Prop := (Exit.inBlock 2 (Q5 R))
/-- the head of the loop, law.go:214 -/
def L14 (l1 nums6 : W.Sl) (wv7 : Addr) (first8 again9 : W.Sl) (i11 : Int) (w : World) (R : W.Post) : Prop := W.LP Try.prog 101 C21 (Q6 R) [(1, l1.v), (6, nums6.v), (7, .pointer (some wv7)), (8, first8.v), (9, again9.v), (11, .int .i64 i11)] w
def KE_L14 (E : W.Env) (w : World) (R : W.Post) : Prop := W.asSlice (W.Env.get? E 1) fun l1 => W.asSlice (W.Env.get? E 6) fun nums6 => W.asRef (W.Env.get? E 7) fun wv7 => W.asSlice (W.Env.get? E 8) fun first8 => W.asSlice (W.Env.get? E 9) fun again9 => W.asInt .i64 (W.Env.get? E 11) fun i11 => L14 l1 nums6 wv7 first8 again9 i11 w R
theorem KE_L14_ok (R : W.Post) (E : W.Env) (w : World) (h : KE_L14 E w R) : W.LP Try.prog 101 C21 (Q6 R) E w := by
  obtain ⟨l1, hq1, h1⟩ := W.asSlice_elim h
  obtain ⟨nums6, hq6, h2⟩ := W.asSlice_elim h1
  obtain ⟨wv7, hq7, h3⟩ := W.asRef_elim h2
  obtain ⟨first8, hq8, h4⟩ := W.asSlice_elim h3
  obtain ⟨again9, hq9, h5⟩ := W.asSlice_elim h4
  obtain ⟨i11, hq11, h6⟩ := W.asInt_elim h5
  intro a ha
  exact h6 a (ha.cons hq1 (ha.cons hq6 (ha.cons hq7 (ha.cons hq8 (ha.cons hq9 (ha.cons hq11 ha.nil))))))
noncomputable def C23 : Code := W.Code.snd C21
noncomputable def C24 : Code := W.Code.snd C23
abbrev Q7 (R : W.Post) : Exit → Act → World → Prop := (Exit.then (W.LoopWP Try.prog C21 (Q6 R)) (Q6 R))
/-- law.go:214 -/
abbrev S17 (l1 nums6 : W.Sl) (wv7 : Addr) (first8 again9 : W.Sl) (i11 : Int) (w : World) (R : W.Post) : Prop :=
  L14 l1 nums6 wv7 first8 again9 (IntKind.wrap .i64 (i11 + 1)) w R
def KE_S17 (E : W.Env) (w : World) (R : W.Post) : Prop := W.asSlice (W.Env.get? E 1) fun l1 => W.asSlice (W.Env.get? E 6) fun nums6 => W.asRef (W.Env.get? E 7) fun wv7 => W.asSlice (W.Env.get? E 8) fun first8 => W.asSlice (W.Env.get? E 9) fun again9 => W.asInt .i64 (W.Env.get? E 11) fun i11 => S17 l1 nums6 wv7 first8 again9 i11 w R
theorem KE_S17_ok (R : W.Post) (E : W.Env) (w : World) (h : KE_S17 E w R) : W.WP Try.prog 101 C24 (Q7 R) E w := by
  obtain ⟨l1, hq1, h1⟩ := W.asSlice_elim h
  obtain ⟨nums6, hq6, h2⟩ := W.asSlice_elim h1
  obtain ⟨wv7, hq7, h3⟩ := W.asRef_elim h2
  obtain ⟨first8, hq8, h4⟩ := W.asSlice_elim h3
  obtain ⟨again9, hq9, h5⟩ := W.asSlice_elim h4
  obtain ⟨i11, hq11, h6⟩ := W.asInt_elim h5
  exact fun a ha => W.WP.at (E := [(1, l1.v), (6, nums6.v), (7, .pointer (some wv7)), (8, first8.v), (9, again9.v), (11, .int .i64 i11)]) (W.WP.reg (c := C24) (fun E w => KE_L14 E w R) (by kernel_rfl) (Eq.mp (by kernel_rfl) h6) fun _ _ a hA hK => KE_L14_ok R _ _ hK a hA) (ha.cons hq1 (ha.cons hq6 (ha.cons hq7 (ha.cons hq8 (ha.cons hq9 (ha.cons hq11 ha.nil))))))
noncomputable def C25 : Code := W.Code.fst C23
noncomputable def C26 : Code := W.Code.fst C25
abbrev Q8 (R : W.Post) : Exit → Act → World → Prop := (Exit.then (Code.wp Try.prog C24 (Exit.then (W.LoopWP Try.prog C21 (Q6 R)) (Q6 R))) (Exit.then (W.LoopWP Try.prog C21 (Q6 R)) (Q6 R)))
abbrev Q9 (R : W.Post) : Exit → Act → World → Prop := (Exit.inBlock 3 (Q8 R))
/-- law.go:215 -/
abbrev S16 (l1 nums6 : W.Sl) (wv7 : Addr) (first8 again9 : W.Sl) (i11 : Int) (w : World) (R : W.Post) : Prop :=
  (0 : Int) ≤ i11 ∧ i11 < ((nums6.n : Nat) : Int) ∧ W.optP nums6.a fun t47_p => (w.cell? (t47_p.add (Int.toNat i11 * 1))).isSome = true ∧ w.frozen? (t47_p.add (Int.toNat i11 * 1)) = false ∧ let w1 := w.setCell (t47_p.add (Int.toNat i11 * 1)) (.int .i64 7)
  S17 l1 nums6 wv7 first8 again9 i11 w1 R
def KE_S16 (E : W.Env) (w : World) (R : W.Post) : Prop := W.asSlice (W.Env.get? E 1) fun l1 => W.asSlice (W.Env.get? E 6) fun nums6 => W.asRef (W.Env.get? E 7) fun wv7 => W.asSlice (W.Env.get? E 8) fun first8 => W.asSlice (W.Env.get? E 9) fun again9 => W.asInt .i64 (W.Env.get? E 11) fun i11 => S16 l1 nums6 wv7 first8 again9 i11 w R
theorem KE_S16_ok (R : W.Post) (E : W.Env) (w : World) (h : KE_S16 E w R) : W.WP Try.prog 101 C26 (Q9 R) E w := by
  obtain ⟨l1, hq1, h1⟩ := W.asSlice_elim h
  obtain ⟨nums6, hq6, h2⟩ := W.asSlice_elim h1
  obtain ⟨wv7, hq7, h3⟩ := W.asRef_elim h2
  obtain ⟨first8, hq8, h4⟩ := W.asSlice_elim h3
  obtain ⟨again9, hq9, h5⟩ := W.asSlice_elim h4
  obtain ⟨i11, hq11, h6⟩ := W.asInt_elim h5
  exact fun a ha => W.WP.at (E := [(1, l1.v), (6, nums6.v), (7, .pointer (some wv7)), (8, first8.v), (9, again9.v), (11, .int .i64 i11)]) (W.WP.reg (c := C26) (fun E w => KE_S17 E w R) (by kernel_rfl) (Eq.mp (by kernel_rfl) h6) fun _ _ a hA hK => (KE_S17_ok R _ _ hK) a hA) (ha.cons hq1 (ha.cons hq6 (ha.cons hq7 (ha.cons hq8 (ha.cons hq9 (ha.cons hq11 ha.nil))))))
noncomputable def C27 : Code := W.Code.fst C22
noncomputable def C28 : Code := W.Code.snd C27
noncomputable def C29 : Code := W.Code.fst C28
noncomputable def C30 : Code := W.Code.fst C29
noncomputable def C31 : Code := W.Code.snd C22
abbrev Q10 (R : W.Post) : Exit → Act → World → Prop := (Exit.then (Code.wp Try.prog C31 (bodyPost Try.prog Try.f4 R)) (bodyPost Try.prog Try.f4 R))
abbrev Q11 (R : W.Post) : Exit → Act → World → Prop := (Exit.inBlock 4 (Q10 R))
/-- the head of the loop, law.go:217 -/
def L19 (l1 : W.Sl) (wv7 : Addr) (first8 again9 : W.Sl) (i12 : Int) (w : World) (R : W.Post) : Prop := W.LP Try.prog 101 C30 (Q11 R) [(1, l1.v), (7, .pointer (some wv7)), (8, first8.v), (9, again9.v), (12, .int .i64 i12)] w
def KE_L19 (E : W.Env) (w : World) (R : W.Post) : Prop := W.asSlice (W.Env.get? E 1) fun l1 => W.asRef (W.Env.get? E 7) fun wv7 => W.asSlice (W.Env.get? E 8) fun first8 => W.asSlice (W.Env.get? E 9) fun again9 => W.asInt .i64 (W.Env.get? E 12) fun i12 => L19 l1 wv7 first8 again9 i12 w R
theorem KE_L19_ok (R : W.Post) (E : W.Env) (w : World) (h : KE_L19 E w R) : W.LP Try.prog 101 C30 (Q11 R) E w := by
  obtain ⟨l1, hq1, h1⟩ := W.asSlice_elim h
  obtain ⟨wv7, hq7, h2⟩ := W.asRef_elim h1
  obtain ⟨first8, hq8, h3⟩ := W.asSlice_elim h2
  obtain ⟨again9, hq9, h4⟩ := W.asSlice_elim h3
  obtain ⟨i12, hq12, h5⟩ := W.asInt_elim h4
  intro a ha
  exact h5 a (ha.cons hq1 (ha.cons hq7 (ha.cons hq8 (ha.cons hq9 (ha.cons hq12 ha.nil)))))
noncomputable def C32 : Code := W.Code.snd C30
noncomputable def C33 : Code := W.Code.snd C32
abbrev Q12 (R : W.Post) : Exit → Act → World → Prop := (Exit.then (W.LoopWP Try.prog C30 (Q11 R)) (Q11 R))
/-- law.go:217 -/
abbrev S22 (l1 : W.Sl) (wv7 : Addr) (first8 again9 : W.Sl) (i12 : Int) (w : World) (R : W.Post) : Prop :=
  L19 l1 wv7 first8 again9 (IntKind.wrap .i64 (i12 + 1)) w R
def KE_S22 (E : W.Env) (w : World) (R : W.Post) : Prop := W.asSlice (W.Env.get? E 1) fun l1 => W.asRef (W.Env.get? E 7) fun wv7 => W.asSlice (W.Env.get? E 8) fun first8 => W.asSlice (W.Env.get? E 9) fun again9 => W.asInt .i64 (W.Env.get? E 12) fun i12 => S22 l1 wv7 first8 again9 i12 w R
theorem KE_S22_ok (R : W.Post) (E : W.Env) (w : World) (h : KE_S22 E w R) : W.WP Try.prog 101 C33 (Q12 R) E w := by
  obtain ⟨l1, hq1, h1⟩ := W.asSlice_elim h
  obtain ⟨wv7, hq7, h2⟩ := W.asRef_elim h1
  obtain ⟨first8, hq8, h3⟩ := W.asSlice_elim h2
  obtain ⟨again9, hq9, h4⟩ := W.asSlice_elim h3
  obtain ⟨i12, hq12, h5⟩ := W.asInt_elim h4
  exact fun a ha => W.WP.at (E := [(1, l1.v), (7, .pointer (some wv7)), (8, first8.v), (9, again9.v), (12, .int .i64 i12)]) (W.WP.reg (c := C33) (fun E w => KE_L19 E w R) (by kernel_rfl) (Eq.mp (by kernel_rfl) h5) fun _ _ a hA hK => KE_L19_ok R _ _ hK a hA) (ha.cons hq1 (ha.cons hq7 (ha.cons hq8 (ha.cons hq9 (ha.cons hq12 ha.nil)))))
noncomputable def C34 : Code := W.Code.fst C32
noncomputable def C35 : Code := W.Code.fst C34
abbrev Q13 (R : W.Post) : Exit → Act → World → Prop := (Exit.then (Code.wp Try.prog C33 (Exit.then (W.LoopWP Try.prog C30 (Q11 R)) (Q11 R))) (Exit.then (W.LoopWP Try.prog C30 (Q11 R)) (Q11 R)))
abbrev Q14 (R : W.Post) : Exit → Act → World → Prop := (Exit.inBlock 5 (Q13 R))
/-- law.go:218 -/
abbrev S21 (l1 : W.Sl) (wv7 : Addr) (first8 again9 : W.Sl) (i12 : Int) (w : World) (R : W.Post) : Prop :=
  (0 : Int) ≤ i12 ∧ i12 < ((first8.n : Nat) : Int) ∧ W.optP first8.a fun t56_p => (w.cell? (t56_p.add (Int.toNat i12 * 1))).isSome = true ∧ w.frozen? (t56_p.add (Int.toNat i12 * 1)) = false ∧ let w1 := w.setCell (t56_p.add (Int.toNat i12 * 1)) (.int .u8 9)
  S22 l1 wv7 first8 again9 i12 w1 R
def KE_S21 (E : W.Env) (w : World) (R : W.Post) : Prop := W.asSlice (W.Env.get? E 1) fun l1 => W.asRef (W.Env.get? E 7) fun wv7 => W.asSlice (W.Env.get? E 8) fun first8 => W.asSlice (W.Env.get? E 9) fun again9 => W.asInt .i64 (W.Env.get? E 12) fun i12 => S21 l1 wv7 first8 again9 i12 w R
theorem KE_S21_ok (R : W.Post) (E : W.Env) (w : World) (h : KE_S21 E w R) : W.WP Try.prog 101 C35 (Q14 R) E w := by
  obtain ⟨l1, hq1, h1⟩ := W.asSlice_elim h
  obtain ⟨wv7, hq7, h2⟩ := W.asRef_elim h1
  obtain ⟨first8, hq8, h3⟩ := W.asSlice_elim h2
  obtain ⟨again9, hq9, h4⟩ := W.asSlice_elim h3
  obtain ⟨i12, hq12, h5⟩ := W.asInt_elim h4
  exact fun a ha => W.WP.at (E := [(1, l1.v), (7, .pointer (some wv7)), (8, first8.v), (9, again9.v), (12, .int .i64 i12)]) (W.WP.reg (c := C35) (fun E w => KE_S22 E w R) (by kernel_rfl) (Eq.mp (by kernel_rfl) h5) fun _ _ a hA hK => (KE_S22_ok R _ _ hK) a hA) (ha.cons hq1 (ha.cons hq7 (ha.cons hq8 (ha.cons hq9 (ha.cons hq12 ha.nil)))))
noncomputable def C36 : Code := W.Code.fst C31
noncomputable def C37 : Code := W.Code.snd C36
noncomputable def C38 : Code := W.Code.fst C37
noncomputable def C39 : Code := W.Code.snd C31
abbrev Q15 (R : W.Post) : Exit → Act → World → Prop := (Exit.then (Code.wp Try.prog C39 (bodyPost Try.prog Try.f4 R)) (bodyPost Try.prog Try.f4 R))
noncomputable def C40 : Code := W.Code.fst C38
noncomputable def C41 : Code := W.Code.snd C38
/-- law.go:221 -/
abbrev S24  (w : World) (R : W.Post) : Prop :=
  R (.returned (.bool false)) w
def KE_S24 (E : W.Env) (w : World) (R : W.Post) : Prop := S24  w R
theorem KE_S24_ok (R : W.Post) (E : W.Env) (w : World) (h : KE_S24 E w R) : W.WP Try.prog 101 C38 (Q15 R) E w := by
  exact fun a ha => W.WP.at (E := []) (W.WP.seq (c := C38) (x := C40) (y := C41) (by kernel_rfl) <| W.WP.reg (c := C40) (fun E w => W.retVC Try.prog Try.f4 E w (fun v => R (.returned v) w)) (by kernel_rfl) (Eq.mp (by kernel_rfl) h) fun _ _ a hA hK => (W.WP.ret (c := C41) (by kernel_rfl) fun a hA => W.retVC_sound hA hK) a hA) ha.nil
noncomputable def C42 : Code := W.Code.snd C39
noncomputable def C43 : Code := W.Code.snd C42
noncomputable def C44 : Code := W.Code.fst C43
noncomputable def C45 : Code := W.Code.snd C44
noncomputable def C46 : Code := W.Code.fst C45
noncomputable def C47 : Code := W.Code.snd C43
abbrev Q16 (R : W.Post) : Exit → Act → World → Prop := (Exit.then (Code.wp Try.prog C47 (bodyPost Try.prog Try.f4 R)) (bodyPost Try.prog Try.f4 R))
noncomputable def C48 : Code := W.Code.fst C46
noncomputable def C49 : Code := W.Code.snd C46
/-- law.go:226 -/
abbrev S28  (w : World) (R : W.Post) : Prop :=
  R (.returned (.bool false)) w
def KE_S28 (E : W.Env) (w : World) (R : W.Post) : Prop := S28  w R
theorem KE_S28_ok (R : W.Post) (E : W.Env) (w : World) (h : KE_S28 E w R) : W.WP Try.prog 101 C46 (Q16 R) E w := by
  exact fun a ha => W.WP.at (E := []) (W.WP.seq (c := C46) (x := C48) (y := C49) (by kernel_rfl) <| W.WP.reg (c := C48) (fun E w => W.retVC Try.prog Try.f4 E w (fun v => R (.returned v) w)) (by kernel_rfl) (Eq.mp (by kernel_rfl) h) fun _ _ a hA hK => (W.WP.ret (c := C49) (by kernel_rfl) fun a hA => W.retVC_sound hA hK) a hA) ha.nil
noncomputable def C50 : Code := W.Code.fst C47
noncomputable def C51 : Code := W.Code.snd C50
noncomputable def C52 : Code := W.Code.fst C51
noncomputable def C53 : Code := W.Code.fst C52
noncomputable def C54 : Code := W.Code.snd C47
abbrev Q17 (R : W.Post) : Exit → Act → World → Prop := (Exit.then (Code.wp Try.prog C54 (bodyPost Try.prog Try.f4 R)) (bodyPost Try.prog Try.f4 R))
abbrev Q18 (R : W.Post) : Exit → Act → World → Prop := (Exit.inBlock 6 (Q17 R))
/-- the head of the loop, law.go:228 -/
def L30 (l1 data13 : W.Sl) (r14 : Option Addr) (i15 : Int) (w : World) (R : W.Post) : Prop := W.LP Try.prog 101 C53 (Q18 R) [(1, l1.v), (13, data13.v), (14, .pointer r14), (15, .int .i64 i15)] w
def KE_L30 (E : W.Env) (w : World) (R : W.Post) : Prop := W.asSlice (W.Env.get? E 1) fun l1 => W.asSlice (W.Env.get? E 13) fun data13 => W.asPtr (W.Env.get? E 14) fun r14 => W.asInt .i64 (W.Env.get? E 15) fun i15 => L30 l1 data13 r14 i15 w R
theorem KE_L30_ok (R : W.Post) (E : W.Env) (w : World) (h : KE_L30 E w R) : W.LP Try.prog 101 C53 (Q18 R) E w := by
  obtain ⟨l1, hq1, h1⟩ := W.asSlice_elim h
  obtain ⟨data13, hq13, h2⟩ := W.asSlice_elim h1
  obtain ⟨r14, hq14, h3⟩ := W.asPtr_elim h2
  obtain ⟨i15, hq15, h4⟩ := W.asInt_elim h3
  intro a ha
  exact h4 a (ha.cons hq1 (ha.cons hq13 (ha.cons hq14 (ha.cons hq15 ha.nil))))
noncomputable def C55 : Code := W.Code.snd C53
noncomputable def C56 : Code := W.Code.snd C55
abbrev Q19 (R : W.Post) : Exit → Act → World → Prop := (Exit.then (W.LoopWP Try.prog C53 (Q18 R)) (Q18 R))
/-- law.go:228 -/
abbrev S33 (l1 data13 : W.Sl) (r14 : Option Addr) (i15 : Int) (w : World) (R : W.Post) : Prop :=
  L30 l1 data13 r14 (IntKind.wrap .i64 (i15 + 1)) w R
def KE_S33 (E : W.Env) (w : World) (R : W.Post) : Prop := W.asSlice (W.Env.get? E 1) fun l1 => W.asSlice (W.Env.get? E 13) fun data13 => W.asPtr (W.Env.get? E 14) fun r14 => W.asInt .i64 (W.Env.get? E 15) fun i15 => S33 l1 data13 r14 i15 w R
theorem KE_S33_ok (R : W.Post) (E : W.Env) (w : World) (h : KE_S33 E w R) : W.WP Try.prog 101 C56 (Q19 R) E w := by
  obtain ⟨l1, hq1, h1⟩ := W.asSlice_elim h
  obtain ⟨data13, hq13, h2⟩ := W.asSlice_elim h1
  obtain ⟨r14, hq14, h3⟩ := W.asPtr_elim h2
  obtain ⟨i15, hq15, h4⟩ := W.asInt_elim h3
  exact fun a ha => W.WP.at (E := [(1, l1.v), (13, data13.v), (14, .pointer r14), (15, .int .i64 i15)]) (W.WP.reg (c := C56) (fun E w => KE_L30 E w R) (by kernel_rfl) (Eq.mp (by kernel_rfl) h4) fun _ _ a hA hK => KE_L30_ok R _ _ hK a hA) (ha.cons hq1 (ha.cons hq13 (ha.cons hq14 (ha.cons hq15 ha.nil))))
noncomputable def C57 : Code := W.Code.fst C55
noncomputable def C58 : Code := W.Code.fst C57
abbrev Q20 (R : W.Post) : Exit → Act → World → Prop := (Exit.then (Code.wp Try.prog C56 (Exit.then (W.LoopWP Try.prog C53 (Q18 R)) (Q18 R))) (Exit.then (W.LoopWP Try.prog C53 (Q18 R)) (Q18 R)))
abbrev Q21 (R : W.Post) : Exit → Act → World → Prop := (Exit.inBlock 7 (Q20 R))
/-- law.go:229 -/
abbrev S32 (l1 data13 : W.Sl) (r14 : Option Addr) (i15 : Int) (w : World) (R : W.Post) : Prop :=
  (0 : Int) ≤ i15 ∧ i15 < ((data13.n : Nat) : Int) ∧ W.optP data13.a fun t76_p => (w.cell? (t76_p.add (Int.toNat i15 * 1))).isSome = true ∧ w.frozen? (t76_p.add (Int.toNat i15 * 1)) = false ∧ let w1 := w.setCell (t76_p.add (Int.toNat i15 * 1)) (.int .u8 255)
  S33 l1 data13 r14 i15 w1 R
def KE_S32 (E : W.Env) (w : World) (R : W.Post) : Prop := W.asSlice (W.Env.get? E 1) fun l1 => W.asSlice (W.Env.get? E 13) fun data13 => W.asPtr (W.Env.get? E 14) fun r14 => W.asInt .i64 (W.Env.get? E 15) fun i15 => S32 l1 data13 r14 i15 w R
theorem KE_S32_ok (R : W.Post) (E : W.Env) (w : World) (h : KE_S32 E w R) : W.WP Try.prog 101 C58 (Q21 R) E w := by
  obtain ⟨l1, hq1, h1⟩ := W.asSlice_elim h
  obtain ⟨data13, hq13, h2⟩ := W.asSlice_elim h1
  obtain ⟨r14, hq14, h3⟩ := W.asPtr_elim h2
  obtain ⟨i15, hq15, h4⟩ := W.asInt_elim h3
  exact fun a ha => W.WP.at (E := [(1, l1.v), (13, data13.v), (14, .pointer r14), (15, .int .i64 i15)]) (W.WP.reg (c := C58) (fun E w => KE_S33 E w R) (by kernel_rfl) (Eq.mp (by kernel_rfl) h4) fun _ _ a hA hK => (KE_S33_ok R _ _ hK) a hA) (ha.cons hq1 (ha.cons hq13 (ha.cons hq14 (ha.cons hq15 ha.nil))))
noncomputable def C59 : Code := W.Code.snd C54
noncomputable def C60 : Code := W.Code.fst C59
noncomputable def C61 : Code := W.Code.snd C60
noncomputable def C62 : Code := W.Code.fst C61
noncomputable def C63 : Code := W.Code.fst C62
noncomputable def C64 : Code := W.Code.snd C59
abbrev Q22 (R : W.Post) : Exit → Act → World → Prop := (Exit.then (Code.wp Try.prog C64 (bodyPost Try.prog Try.f4 R)) (bodyPost Try.prog Try.f4 R))
abbrev Q23 (R : W.Post) : Exit → Act → World → Prop := (Exit.inBlock 8 (Q22 R))
/-- the head of the loop, law.go:232 -/
def L36 (l1 : W.Sl) (r14 : Option Addr) (x16 : W.Sl) (i17 : Int) (w : World) (R : W.Post) : Prop := W.LP Try.prog 101 C63 (Q23 R) [(1, l1.v), (14, .pointer r14), (16, x16.v), (17, .int .i64 i17)] w
def KE_L36 (E : W.Env) (w : World) (R : W.Post) : Prop := W.asSlice (W.Env.get? E 1) fun l1 => W.asPtr (W.Env.get? E 14) fun r14 => W.asSlice (W.Env.get? E 16) fun x16 => W.asInt .i64 (W.Env.get? E 17) fun i17 => L36 l1 r14 x16 i17 w R
theorem KE_L36_ok (R : W.Post) (E : W.Env) (w : World) (h : KE_L36 E w R) : W.LP Try.prog 101 C63 (Q23 R) E w := by
  obtain ⟨l1, hq1, h1⟩ := W.asSlice_elim h
  obtain ⟨r14, hq14, h2⟩ := W.asPtr_elim h1
  obtain ⟨x16, hq16, h3⟩ := W.asSlice_elim h2
  obtain ⟨i17, hq17, h4⟩ := W.asInt_elim h3
  intro a ha
  exact h4 a (ha.cons hq1 (ha.cons hq14 (ha.cons hq16 (ha.cons hq17 ha.nil))))
noncomputable def C65 : Code := W.Code.snd C63
noncomputable def C66 : Code := W.Code.snd C65
abbrev Q24 (R : W.Post) : Exit → Act → World → Prop := (Exit.then (W.LoopWP Try.prog C63 (Q23 R)) (Q23 R))
/-- law.go:232 -/
abbrev S39 (l1 : W.Sl) (r14 : Option Addr) (x16 : W.Sl) (i17 : Int) (w : World) (R : W.Post) : Prop :=
  L36 l1 r14 x16 (IntKind.wrap .i64 (i17 + 1)) w R
def KE_S39 (E : W.Env) (w : World) (R : W.Post) : Prop := W.asSlice (W.Env.get? E 1) fun l1 => W.asPtr (W.Env.get? E 14) fun r14 => W.asSlice (W.Env.get? E 16) fun x16 => W.asInt .i64 (W.Env.get? E 17) fun i17 => S39 l1 r14 x16 i17 w R
theorem KE_S39_ok (R : W.Post) (E : W.Env) (w : World) (h : KE_S39 E w R) : W.WP Try.prog 101 C66 (Q24 R) E w := by
  obtain ⟨l1, hq1, h1⟩ := W.asSlice_elim h
  obtain ⟨r14, hq14, h2⟩ := W.asPtr_elim h1
  obtain ⟨x16, hq16, h3⟩ := W.asSlice_elim h2
  obtain ⟨i17, hq17, h4⟩ := W.asInt_elim h3
  exact fun a ha => W.WP.at (E := [(1, l1.v), (14, .pointer r14), (16, x16.v), (17, .int .i64 i17)]) (W.WP.reg (c := C66) (fun E w => KE_L36 E w R) (by kernel_rfl) (Eq.mp (by kernel_rfl) h4) fun _ _ a hA hK => KE_L36_ok R _ _ hK a hA) (ha.cons hq1 (ha.cons hq14 (ha.cons hq16 (ha.cons hq17 ha.nil))))
noncomputable def C67 : Code := W.Code.fst C65
noncomputable def C68 : Code := W.Code.fst C67
abbrev Q25 (R : W.Post) : Exit → Act → World → Prop := (Exit.then (Code.wp Try.prog C66 (Exit.then (W.LoopWP Try.prog C63 (Q23 R)) (Q23 R))) (Exit.then (W.LoopWP Try.prog C63 (Q23 R)) (Q23 R)))
abbrev Q26 (R : W.Post) : Exit → Act → World → Prop := (Exit.inBlock 9 (Q25 R))
/-- law.go:233 -/
abbrev S38 (l1 : W.Sl) (r14 : Option Addr) (x16 : W.Sl) (i17 : Int) (w : World) (R : W.Post) : Prop :=
  (0 : Int) ≤ i17 ∧ i17 < ((x16.n : Nat) : Int) ∧ W.optP x16.a fun t87_p => (w.cell? (t87_p.add (Int.toNat i17 * 1))).isSome = true ∧ w.frozen? (t87_p.add (Int.toNat i17 * 1)) = false ∧ let w1 := w.setCell (t87_p.add (Int.toNat i17 * 1)) (.int .u8 1)
  S39 l1 r14 x16 i17 w1 R
def KE_S38 (E : W.Env) (w : World) (R : W.Post) : Prop := W.asSlice (W.Env.get? E 1) fun l1 => W.asPtr (W.Env.get? E 14) fun r14 => W.asSlice (W.Env.get? E 16) fun x16 => W.asInt .i64 (W.Env.get? E 17) fun i17 => S38 l1 r14 x16 i17 w R
theorem KE_S38_ok (R : W.Post) (E : W.Env) (w : World) (h : KE_S38 E w R) : W.WP Try.prog 101 C68 (Q26 R) E w := by
  obtain ⟨l1, hq1, h1⟩ := W.asSlice_elim h
  obtain ⟨r14, hq14, h2⟩ := W.asPtr_elim h1
  obtain ⟨x16, hq16, h3⟩ := W.asSlice_elim h2
  obtain ⟨i17, hq17, h4⟩ := W.asInt_elim h3
  exact fun a ha => W.WP.at (E := [(1, l1.v), (14, .pointer r14), (16, x16.v), (17, .int .i64 i17)]) (W.WP.reg (c := C68) (fun E w => KE_S39 E w R) (by kernel_rfl) (Eq.mp (by kernel_rfl) h4) fun _ _ a hA hK => (KE_S39_ok R _ _ hK) a hA) (ha.cons hq1 (ha.cons hq14 (ha.cons hq16 (ha.cons hq17 ha.nil))))
abbrev Q27 (R : W.Post) : Exit → Act → World → Prop := (bodyPost Try.prog Try.f4 R)
noncomputable def C69 : Code := W.Code.fst C64
noncomputable def C70 : Code := W.Code.snd C64
/-- law.go:235 -/
abbrev S40 (l1 : W.Sl) (r14 : Option Addr) (w : World) (R : W.Post) : Prop :=
  Calls Try.prog n_wire_Reader_Ints #[.pointer r14] w fun r_ w1 => ∃ t89 : W.Sl, r_ = .returned (t89.v) ∧ 
  Calls Try.prog n_enthymemeref01_Ints #[l1.v, .int .i64 10] w1 fun r_ w2 => ∃ t91 : W.Sl, r_ = .returned (t91.v) ∧ 
  Calls Try.prog n_enthymemeref01_SameInts #[t89.v, t91.v] w2 fun r_ w3 => ∃ t92 : Bool, r_ = .returned (.bool t92) ∧ 
  W.sel t92 (Calls Try.prog n_wire_Reader_End #[.pointer r14] w3 fun r_ w4 => ∃ t95 : Int, r_ = .returned (.int .i64 t95) ∧ 
  W.sel (t95 == 0) (Calls Try.prog n_enthymemelaw02_lives #[] w4 fun r_ w5 => ∃ t99 : Bool, r_ = .returned (.bool t99) ∧ 
  R (.returned (.bool t99)) w5) (R (.returned (.bool false)) w4)) (R (.returned (.bool false)) w3)
def KE_S40 (E : W.Env) (w : World) (R : W.Post) : Prop := W.asSlice (W.Env.get? E 1) fun l1 => W.asPtr (W.Env.get? E 14) fun r14 => S40 l1 r14 w R
theorem KE_S40_ok (R : W.Post) (E : W.Env) (w : World) (h : KE_S40 E w R) : W.WP Try.prog 101 C64 (Q27 R) E w := by
  obtain ⟨l1, hq1, h1⟩ := W.asSlice_elim h
  obtain ⟨r14, hq14, h2⟩ := W.asPtr_elim h1
  exact fun a ha => W.WP.at (E := [(1, l1.v), (14, .pointer r14)]) (W.WP.seq (c := C64) (x := C69) (y := C70) (by kernel_rfl) <| W.WP.reg (c := C69) (fun E w => W.retVC Try.prog Try.f4 E w (fun v => R (.returned v) w)) (by kernel_rfl) (Eq.mp (by kernel_rfl) h2) fun _ _ a hA hK => (W.WP.ret (c := C70) (by kernel_rfl) fun a hA => W.retVC_sound hA hK) a hA) (ha.cons hq1 (ha.cons hq14 ha.nil))
noncomputable def C71 : Code := W.Code.fst C63
abbrev Q28 (R : W.Post) : Exit → Act → World → Prop := (Exit.then (Code.wp Try.prog C65 (Exit.then (W.LoopWP Try.prog C63 (Q23 R)) (Q23 R))) (Exit.then (W.LoopWP Try.prog C63 (Q23 R)) (Q23 R)))
noncomputable def C72 : Code := W.Code.fst C71
noncomputable def C73 : Code := W.Code.snd C71
noncomputable def C74 : Code := W.Code.fst C73
noncomputable def C75 : Code := W.Code.snd C73
/-- law.go:232 -/
abbrev S37 (l1 : W.Sl) (r14 : Option Addr) (x16 : W.Sl) (i17 : Int) (w : World) (R : W.Post) : Prop :=
  W.sel (decide (i17 < ((x16.n : Nat) : Int))) (S38 l1 r14 x16 i17 w R) (S40 l1 r14 w R)
def KE_S37 (E : W.Env) (w : World) (R : W.Post) : Prop := W.asSlice (W.Env.get? E 1) fun l1 => W.asPtr (W.Env.get? E 14) fun r14 => W.asSlice (W.Env.get? E 16) fun x16 => W.asInt .i64 (W.Env.get? E 17) fun i17 => S37 l1 r14 x16 i17 w R
theorem KE_S37_ok (R : W.Post) (E : W.Env) (w : World) (h : KE_S37 E w R) : W.WP Try.prog 101 C71 (Q28 R) E w := by
  obtain ⟨l1, hq1, h1⟩ := W.asSlice_elim h
  obtain ⟨r14, hq14, h2⟩ := W.asPtr_elim h1
  obtain ⟨x16, hq16, h3⟩ := W.asSlice_elim h2
  obtain ⟨i17, hq17, h4⟩ := W.asInt_elim h3
  exact fun a ha => W.WP.at (E := [(1, l1.v), (14, .pointer r14), (16, x16.v), (17, .int .i64 i17)]) (W.WP.seq (c := C71) (x := C72) (y := C73) (by kernel_rfl) <| W.WP.reg (c := C72) (fun E w => W.condK (W.Env.val E (.tmp 82)) (KE_S38 E w R) (KE_S40 E w R)) (by kernel_rfl) (Eq.mp (by kernel_rfl) h4) fun _ _ a hA hK => (W.WP.condK (c := C73) (x := C74) (y := C75) (o := .tmp 82) (by kernel_rfl) (fun hK => (W.WP.skip (c := C74) (by kernel_rfl) fun a hA => (W.WP.seq (c := C65) (x := C67) (y := C66) (by kernel_rfl) (W.WP.block (c := C67) (x := C68) (id := 9) (by kernel_rfl) (KE_S38_ok R _ _ hK))) a hA)) (fun hK => (W.WP.exit (c := C75) (id := 8) (by kernel_rfl) fun a hA => (KE_S40_ok R _ _ hK) a hA)) hK) a hA) (ha.cons hq1 (ha.cons hq14 (ha.cons hq16 (ha.cons hq17 ha.nil))))
theorem L36_step (l1 : W.Sl) (r14 : Option Addr) (x16 : W.Sl) (i17 : Int) (w : World) (R : W.Post) (h : S37 l1 r14 x16 i17 w R) : L36 l1 r14 x16 i17 w R :=
  W.LP.step (c := C63) (E := [(1, l1.v), (14, .pointer r14), (16, x16.v), (17, .int .i64 i17)]) (w := w) (W.WP.seq (c := C63) (x := C71) (y := C65) (by kernel_rfl) (KE_S37_ok R _ _ (Eq.mp (by kernel_rfl) h)))
noncomputable def C76 : Code := W.Code.fst C60
/-- law.go:232 -/
abbrev S35 (l1 : W.Sl) (r14 : Option Addr) (x16 : W.Sl) (w : World) (R : W.Post) : Prop :=
  L36 l1 r14 x16 0 w R
def KE_S35 (E : W.Env) (w : World) (R : W.Post) : Prop := W.asSlice (W.Env.get? E 1) fun l1 => W.asPtr (W.Env.get? E 14) fun r14 => W.asSlice (W.Env.get? E 16) fun x16 => S35 l1 r14 x16 w R
theorem KE_S35_ok (R : W.Post) (E : W.Env) (w : World) (h : KE_S35 E w R) : W.WP Try.prog 101 C60 (Q22 R) E w := by
  obtain ⟨l1, hq1, h1⟩ := W.asSlice_elim h
  obtain ⟨r14, hq14, h2⟩ := W.asPtr_elim h1
  obtain ⟨x16, hq16, h3⟩ := W.asSlice_elim h2
  exact fun a ha => W.WP.at (E := [(1, l1.v), (14, .pointer r14), (16, x16.v)]) (W.WP.seq (c := C60) (x := C76) (y := C61) (by kernel_rfl) <| W.WP.reg (c := C76) (fun E w => KE_L36 E w R) (by kernel_rfl) (Eq.mp (by kernel_rfl) h3) fun _ _ a hA hK => (W.WP.block (c := C61) (x := C62) (id := 8) (by kernel_rfl) (W.WP.loop (c := C62) (x := C63) (by kernel_rfl) (KE_L36_ok R _ _ hK))) a hA) (ha.cons hq1 (ha.cons hq14 (ha.cons hq16 ha.nil)))
noncomputable def C77 : Code := W.Code.fst C54
/-- law.go:231 -/
abbrev S34 (l1 : W.Sl) (r14 : Option Addr) (w : World) (R : W.Post) : Prop :=
  Calls Try.prog n_wire_Reader_Raw #[.pointer r14] w fun r_ w1 => ∃ t78 : W.Sl, r_ = .returned (t78.v) ∧ 
  S35 l1 r14 t78 w1 R
def KE_S34 (E : W.Env) (w : World) (R : W.Post) : Prop := W.asSlice (W.Env.get? E 1) fun l1 => W.asPtr (W.Env.get? E 14) fun r14 => S34 l1 r14 w R
theorem KE_S34_ok (R : W.Post) (E : W.Env) (w : World) (h : KE_S34 E w R) : W.WP Try.prog 101 C54 (Q27 R) E w := by
  obtain ⟨l1, hq1, h1⟩ := W.asSlice_elim h
  obtain ⟨r14, hq14, h2⟩ := W.asPtr_elim h1
  exact fun a ha => W.WP.at (E := [(1, l1.v), (14, .pointer r14)]) (W.WP.seq (c := C54) (x := C77) (y := C59) (by kernel_rfl) <| W.WP.reg (c := C77) (fun E w => KE_S35 E w R) (by kernel_rfl) (Eq.mp (by kernel_rfl) h2) fun _ _ a hA hK => (W.WP.seq (c := C59) (x := C60) (y := C64) (by kernel_rfl) (KE_S35_ok R _ _ hK)) a hA) (ha.cons hq1 (ha.cons hq14 ha.nil))
noncomputable def C78 : Code := W.Code.fst C53
abbrev Q29 (R : W.Post) : Exit → Act → World → Prop := (Exit.then (Code.wp Try.prog C55 (Exit.then (W.LoopWP Try.prog C53 (Q18 R)) (Q18 R))) (Exit.then (W.LoopWP Try.prog C53 (Q18 R)) (Q18 R)))
noncomputable def C79 : Code := W.Code.fst C78
noncomputable def C80 : Code := W.Code.snd C78
noncomputable def C81 : Code := W.Code.fst C80
noncomputable def C82 : Code := W.Code.snd C80
/-- law.go:228 -/
abbrev S31 (l1 data13 : W.Sl) (r14 : Option Addr) (i15 : Int) (w : World) (R : W.Post) : Prop :=
  W.sel (decide (i15 < ((data13.n : Nat) : Int))) (S32 l1 data13 r14 i15 w R) (S34 l1 r14 w R)
def KE_S31 (E : W.Env) (w : World) (R : W.Post) : Prop := W.asSlice (W.Env.get? E 1) fun l1 => W.asSlice (W.Env.get? E 13) fun data13 => W.asPtr (W.Env.get? E 14) fun r14 => W.asInt .i64 (W.Env.get? E 15) fun i15 => S31 l1 data13 r14 i15 w R
theorem KE_S31_ok (R : W.Post) (E : W.Env) (w : World) (h : KE_S31 E w R) : W.WP Try.prog 101 C78 (Q29 R) E w := by
  obtain ⟨l1, hq1, h1⟩ := W.asSlice_elim h
  obtain ⟨data13, hq13, h2⟩ := W.asSlice_elim h1
  obtain ⟨r14, hq14, h3⟩ := W.asPtr_elim h2
  obtain ⟨i15, hq15, h4⟩ := W.asInt_elim h3
  exact fun a ha => W.WP.at (E := [(1, l1.v), (13, data13.v), (14, .pointer r14), (15, .int .i64 i15)]) (W.WP.seq (c := C78) (x := C79) (y := C80) (by kernel_rfl) <| W.WP.reg (c := C79) (fun E w => W.condK (W.Env.val E (.tmp 71)) (KE_S32 E w R) (KE_S34 E w R)) (by kernel_rfl) (Eq.mp (by kernel_rfl) h4) fun _ _ a hA hK => (W.WP.condK (c := C80) (x := C81) (y := C82) (o := .tmp 71) (by kernel_rfl) (fun hK => (W.WP.skip (c := C81) (by kernel_rfl) fun a hA => (W.WP.seq (c := C55) (x := C57) (y := C56) (by kernel_rfl) (W.WP.block (c := C57) (x := C58) (id := 7) (by kernel_rfl) (KE_S32_ok R _ _ hK))) a hA)) (fun hK => (W.WP.exit (c := C82) (id := 6) (by kernel_rfl) fun a hA => (KE_S34_ok R _ _ hK) a hA)) hK) a hA) (ha.cons hq1 (ha.cons hq13 (ha.cons hq14 (ha.cons hq15 ha.nil))))
theorem L30_step (l1 data13 : W.Sl) (r14 : Option Addr) (i15 : Int) (w : World) (R : W.Post) (h : S31 l1 data13 r14 i15 w R) : L30 l1 data13 r14 i15 w R :=
  W.LP.step (c := C53) (E := [(1, l1.v), (13, data13.v), (14, .pointer r14), (15, .int .i64 i15)]) (w := w) (W.WP.seq (c := C53) (x := C78) (y := C55) (by kernel_rfl) (KE_S31_ok R _ _ (Eq.mp (by kernel_rfl) h)))
noncomputable def C83 : Code := W.Code.fst C50
/-- law.go:228 -/
abbrev S29 (l1 data13 : W.Sl) (r14 : Option Addr) (w : World) (R : W.Post) : Prop :=
  L30 l1 data13 r14 0 w R
def KE_S29 (E : W.Env) (w : World) (R : W.Post) : Prop := W.asSlice (W.Env.get? E 1) fun l1 => W.asSlice (W.Env.get? E 13) fun data13 => W.asPtr (W.Env.get? E 14) fun r14 => S29 l1 data13 r14 w R
theorem KE_S29_ok (R : W.Post) (E : W.Env) (w : World) (h : KE_S29 E w R) : W.WP Try.prog 101 C50 (Q17 R) E w := by
  obtain ⟨l1, hq1, h1⟩ := W.asSlice_elim h
  obtain ⟨data13, hq13, h2⟩ := W.asSlice_elim h1
  obtain ⟨r14, hq14, h3⟩ := W.asPtr_elim h2
  exact fun a ha => W.WP.at (E := [(1, l1.v), (13, data13.v), (14, .pointer r14)]) (W.WP.seq (c := C50) (x := C83) (y := C51) (by kernel_rfl) <| W.WP.reg (c := C83) (fun E w => KE_L30 E w R) (by kernel_rfl) (Eq.mp (by kernel_rfl) h3) fun _ _ a hA hK => (W.WP.block (c := C51) (x := C52) (id := 6) (by kernel_rfl) (W.WP.loop (c := C52) (x := C53) (by kernel_rfl) (KE_L30_ok R _ _ hK))) a hA) (ha.cons hq1 (ha.cons hq13 (ha.cons hq14 ha.nil)))
noncomputable def C84 : Code := W.Code.fst C44
noncomputable def C85 : Code := W.Code.snd C45
/-- law.go:225 -/
abbrev S27 (l1 data13 : W.Sl) (r14 : Option Addr) (w : World) (R : W.Post) : Prop :=
  W.sel r14.isNone (S28  w R) (S29 l1 data13 r14 w R)
def KE_S27 (E : W.Env) (w : World) (R : W.Post) : Prop := W.asSlice (W.Env.get? E 1) fun l1 => W.asSlice (W.Env.get? E 13) fun data13 => W.asPtr (W.Env.get? E 14) fun r14 => S27 l1 data13 r14 w R
theorem KE_S27_ok (R : W.Post) (E : W.Env) (w : World) (h : KE_S27 E w R) : W.WP Try.prog 101 C44 (Q16 R) E w := by
  obtain ⟨l1, hq1, h1⟩ := W.asSlice_elim h
  obtain ⟨data13, hq13, h2⟩ := W.asSlice_elim h1
  obtain ⟨r14, hq14, h3⟩ := W.asPtr_elim h2
  exact fun a ha => W.WP.at (E := [(1, l1.v), (13, data13.v), (14, .pointer r14)]) (W.WP.seq (c := C44) (x := C84) (y := C45) (by kernel_rfl) <| W.WP.reg (c := C84) (fun E w => W.condK (W.Env.val E (.tmp 67)) (KE_S28 E w R) (KE_S29 E w R)) (by kernel_rfl) (Eq.mp (by kernel_rfl) h3) fun _ _ a hA hK => (W.WP.condK (c := C45) (x := C46) (y := C85) (o := .tmp 67) (by kernel_rfl) (fun hK => (KE_S28_ok R _ _ hK)) (fun hK => (W.WP.skip (c := C85) (by kernel_rfl) fun a hA => (W.WP.seq (c := C47) (x := C50) (y := C54) (by kernel_rfl) (KE_S29_ok R _ _ hK)) a hA)) hK) a hA) (ha.cons hq1 (ha.cons hq13 (ha.cons hq14 ha.nil)))
noncomputable def C86 : Code := W.Code.fst C42
/-- law.go:224 -/
abbrev S26 (l1 data13 : W.Sl) (w : World) (R : W.Post) : Prop :=
  Calls Try.prog n_wire_Read #[data13.v] w fun r_ w1 => ∃ t65 : Option Addr, r_ = .returned (.pointer t65) ∧ 
  S27 l1 data13 t65 w1 R
def KE_S26 (E : W.Env) (w : World) (R : W.Post) : Prop := W.asSlice (W.Env.get? E 1) fun l1 => W.asSlice (W.Env.get? E 13) fun data13 => S26 l1 data13 w R
theorem KE_S26_ok (R : W.Post) (E : W.Env) (w : World) (h : KE_S26 E w R) : W.WP Try.prog 101 C42 (Q27 R) E w := by
  obtain ⟨l1, hq1, h1⟩ := W.asSlice_elim h
  obtain ⟨data13, hq13, h2⟩ := W.asSlice_elim h1
  exact fun a ha => W.WP.at (E := [(1, l1.v), (13, data13.v)]) (W.WP.seq (c := C42) (x := C86) (y := C43) (by kernel_rfl) <| W.WP.reg (c := C86) (fun E w => KE_S27 E w R) (by kernel_rfl) (Eq.mp (by kernel_rfl) h2) fun _ _ a hA hK => (W.WP.seq (c := C43) (x := C44) (y := C47) (by kernel_rfl) (KE_S27_ok R _ _ hK)) a hA) (ha.cons hq1 (ha.cons hq13 ha.nil))
noncomputable def C87 : Code := W.Code.fst C39
/-- law.go:223 -/
abbrev S25 (l1 again9 : W.Sl) (w : World) (R : W.Post) : Prop :=
  let w1 := w.alloc (.cells #[] ty_uint8)
  ∃ (t63 : W.Sl) (w2 : World), Sem.run Try.prog (Builtin.append_ #[ty_sl_uint8, ty_sl_uint8] ty_sl_uint8 #[.slice (some (Addr.mk w.heap.size 0 none)) 0 0, again9.v]) w1 = .ok (t63.v) w2 ∧ S26 l1 t63 w2 R
def KE_S25 (E : W.Env) (w : World) (R : W.Post) : Prop := W.asSlice (W.Env.get? E 1) fun l1 => W.asSlice (W.Env.get? E 9) fun again9 => S25 l1 again9 w R
theorem KE_S25_ok (R : W.Post) (E : W.Env) (w : World) (h : KE_S25 E w R) : W.WP Try.prog 101 C39 (Q27 R) E w := by
  obtain ⟨l1, hq1, h1⟩ := W.asSlice_elim h
  obtain ⟨again9, hq9, h2⟩ := W.asSlice_elim h1
  exact fun a ha => W.WP.at (E := [(1, l1.v), (9, again9.v)]) (W.WP.seq (c := C39) (x := C87) (y := C42) (by kernel_rfl) <| W.WP.reg (c := C87) (fun E w => KE_S26 E w R) (by kernel_rfl) (Eq.mp (by kernel_rfl) h2) fun _ _ a hA hK => (KE_S26_ok R _ _ hK) a hA) (ha.cons hq1 (ha.cons hq9 ha.nil))
noncomputable def C88 : Code := W.Code.fst C36
noncomputable def C89 : Code := W.Code.snd C37
/-- law.go:220 -/
abbrev S23 (l1 : W.Sl) (wv7 : Addr) (again9 : W.Sl) (w : World) (R : W.Post) : Prop :=
  Calls Try.prog n_wire_Writer_Done #[.pointer (some wv7)] w fun r_ w1 => ∃ t57 : W.Sl, r_ = .returned (t57.v) ∧ 
  Calls Try.prog n_enthymemeref01_SameBytes #[t57.v, again9.v] w1 fun r_ w2 => ∃ t59 : Bool, r_ = .returned (.bool t59) ∧ 
  W.sel (!t59) (S24  w2 R) (S25 l1 again9 w2 R)
def KE_S23 (E : W.Env) (w : World) (R : W.Post) : Prop := W.asSlice (W.Env.get? E 1) fun l1 => W.asRef (W.Env.get? E 7) fun wv7 => W.asSlice (W.Env.get? E 9) fun again9 => S23 l1 wv7 again9 w R
theorem KE_S23_ok (R : W.Post) (E : W.Env) (w : World) (h : KE_S23 E w R) : W.WP Try.prog 101 C36 (Q15 R) E w := by
  obtain ⟨l1, hq1, h1⟩ := W.asSlice_elim h
  obtain ⟨wv7, hq7, h2⟩ := W.asRef_elim h1
  obtain ⟨again9, hq9, h3⟩ := W.asSlice_elim h2
  exact fun a ha => W.WP.at (E := [(1, l1.v), (7, .pointer (some wv7)), (9, again9.v)]) (W.WP.seq (c := C36) (x := C88) (y := C37) (by kernel_rfl) <| W.WP.reg (c := C88) (fun E w => W.condK (W.Env.val E (.tmp 60)) (KE_S24 E w R) (KE_S25 E w R)) (by kernel_rfl) (Eq.mp (by kernel_rfl) h3) fun _ _ a hA hK => (W.WP.condK (c := C37) (x := C38) (y := C89) (o := .tmp 60) (by kernel_rfl) (fun hK => (KE_S24_ok R _ _ hK)) (fun hK => (W.WP.skip (c := C89) (by kernel_rfl) fun a hA => (KE_S25_ok R _ _ hK) a hA)) hK) a hA) (ha.cons hq1 (ha.cons hq7 (ha.cons hq9 ha.nil)))
noncomputable def C90 : Code := W.Code.fst C30
abbrev Q30 (R : W.Post) : Exit → Act → World → Prop := (Exit.then (Code.wp Try.prog C32 (Exit.then (W.LoopWP Try.prog C30 (Q11 R)) (Q11 R))) (Exit.then (W.LoopWP Try.prog C30 (Q11 R)) (Q11 R)))
noncomputable def C91 : Code := W.Code.fst C90
noncomputable def C92 : Code := W.Code.snd C90
noncomputable def C93 : Code := W.Code.fst C92
noncomputable def C94 : Code := W.Code.snd C92
/-- law.go:217 -/
abbrev S20 (l1 : W.Sl) (wv7 : Addr) (first8 again9 : W.Sl) (i12 : Int) (w : World) (R : W.Post) : Prop :=
  W.sel (decide (i12 < ((first8.n : Nat) : Int))) (S21 l1 wv7 first8 again9 i12 w R) (S23 l1 wv7 again9 w R)
def KE_S20 (E : W.Env) (w : World) (R : W.Post) : Prop := W.asSlice (W.Env.get? E 1) fun l1 => W.asRef (W.Env.get? E 7) fun wv7 => W.asSlice (W.Env.get? E 8) fun first8 => W.asSlice (W.Env.get? E 9) fun again9 => W.asInt .i64 (W.Env.get? E 12) fun i12 => S20 l1 wv7 first8 again9 i12 w R
theorem KE_S20_ok (R : W.Post) (E : W.Env) (w : World) (h : KE_S20 E w R) : W.WP Try.prog 101 C90 (Q30 R) E w := by
  obtain ⟨l1, hq1, h1⟩ := W.asSlice_elim h
  obtain ⟨wv7, hq7, h2⟩ := W.asRef_elim h1
  obtain ⟨first8, hq8, h3⟩ := W.asSlice_elim h2
  obtain ⟨again9, hq9, h4⟩ := W.asSlice_elim h3
  obtain ⟨i12, hq12, h5⟩ := W.asInt_elim h4
  exact fun a ha => W.WP.at (E := [(1, l1.v), (7, .pointer (some wv7)), (8, first8.v), (9, again9.v), (12, .int .i64 i12)]) (W.WP.seq (c := C90) (x := C91) (y := C92) (by kernel_rfl) <| W.WP.reg (c := C91) (fun E w => W.condK (W.Env.val E (.tmp 51)) (KE_S21 E w R) (KE_S23 E w R)) (by kernel_rfl) (Eq.mp (by kernel_rfl) h5) fun _ _ a hA hK => (W.WP.condK (c := C92) (x := C93) (y := C94) (o := .tmp 51) (by kernel_rfl) (fun hK => (W.WP.skip (c := C93) (by kernel_rfl) fun a hA => (W.WP.seq (c := C32) (x := C34) (y := C33) (by kernel_rfl) (W.WP.block (c := C34) (x := C35) (id := 5) (by kernel_rfl) (KE_S21_ok R _ _ hK))) a hA)) (fun hK => (W.WP.exit (c := C94) (id := 4) (by kernel_rfl) fun a hA => (W.WP.seq (c := C31) (x := C36) (y := C39) (by kernel_rfl) (KE_S23_ok R _ _ hK)) a hA)) hK) a hA) (ha.cons hq1 (ha.cons hq7 (ha.cons hq8 (ha.cons hq9 (ha.cons hq12 ha.nil)))))
theorem L19_step (l1 : W.Sl) (wv7 : Addr) (first8 again9 : W.Sl) (i12 : Int) (w : World) (R : W.Post) (h : S20 l1 wv7 first8 again9 i12 w R) : L19 l1 wv7 first8 again9 i12 w R :=
  W.LP.step (c := C30) (E := [(1, l1.v), (7, .pointer (some wv7)), (8, first8.v), (9, again9.v), (12, .int .i64 i12)]) (w := w) (W.WP.seq (c := C30) (x := C90) (y := C32) (by kernel_rfl) (KE_S20_ok R _ _ (Eq.mp (by kernel_rfl) h)))
noncomputable def C95 : Code := W.Code.fst C27
/-- law.go:217 -/
abbrev S18 (l1 : W.Sl) (wv7 : Addr) (first8 again9 : W.Sl) (w : World) (R : W.Post) : Prop :=
  L19 l1 wv7 first8 again9 0 w R
def KE_S18 (E : W.Env) (w : World) (R : W.Post) : Prop := W.asSlice (W.Env.get? E 1) fun l1 => W.asRef (W.Env.get? E 7) fun wv7 => W.asSlice (W.Env.get? E 8) fun first8 => W.asSlice (W.Env.get? E 9) fun again9 => S18 l1 wv7 first8 again9 w R
theorem KE_S18_ok (R : W.Post) (E : W.Env) (w : World) (h : KE_S18 E w R) : W.WP Try.prog 101 C27 (Q10 R) E w := by
  obtain ⟨l1, hq1, h1⟩ := W.asSlice_elim h
  obtain ⟨wv7, hq7, h2⟩ := W.asRef_elim h1
  obtain ⟨first8, hq8, h3⟩ := W.asSlice_elim h2
  obtain ⟨again9, hq9, h4⟩ := W.asSlice_elim h3
  exact fun a ha => W.WP.at (E := [(1, l1.v), (7, .pointer (some wv7)), (8, first8.v), (9, again9.v)]) (W.WP.seq (c := C27) (x := C95) (y := C28) (by kernel_rfl) <| W.WP.reg (c := C95) (fun E w => KE_L19 E w R) (by kernel_rfl) (Eq.mp (by kernel_rfl) h4) fun _ _ a hA hK => (W.WP.block (c := C28) (x := C29) (id := 4) (by kernel_rfl) (W.WP.loop (c := C29) (x := C30) (by kernel_rfl) (KE_L19_ok R _ _ hK))) a hA) (ha.cons hq1 (ha.cons hq7 (ha.cons hq8 (ha.cons hq9 ha.nil))))
noncomputable def C96 : Code := W.Code.fst C21
abbrev Q31 (R : W.Post) : Exit → Act → World → Prop := (Exit.then (Code.wp Try.prog C23 (Exit.then (W.LoopWP Try.prog C21 (Q6 R)) (Q6 R))) (Exit.then (W.LoopWP Try.prog C21 (Q6 R)) (Q6 R)))
noncomputable def C97 : Code := W.Code.fst C96
noncomputable def C98 : Code := W.Code.snd C96
noncomputable def C99 : Code := W.Code.fst C98
noncomputable def C100 : Code := W.Code.snd C98
/-- law.go:214 -/
abbrev S15 (l1 nums6 : W.Sl) (wv7 : Addr) (first8 again9 : W.Sl) (i11 : Int) (w : World) (R : W.Post) : Prop :=
  W.sel (decide (i11 < ((nums6.n : Nat) : Int))) (S16 l1 nums6 wv7 first8 again9 i11 w R) (S18 l1 wv7 first8 again9 w R)
def KE_S15 (E : W.Env) (w : World) (R : W.Post) : Prop := W.asSlice (W.Env.get? E 1) fun l1 => W.asSlice (W.Env.get? E 6) fun nums6 => W.asRef (W.Env.get? E 7) fun wv7 => W.asSlice (W.Env.get? E 8) fun first8 => W.asSlice (W.Env.get? E 9) fun again9 => W.asInt .i64 (W.Env.get? E 11) fun i11 => S15 l1 nums6 wv7 first8 again9 i11 w R
theorem KE_S15_ok (R : W.Post) (E : W.Env) (w : World) (h : KE_S15 E w R) : W.WP Try.prog 101 C96 (Q31 R) E w := by
  obtain ⟨l1, hq1, h1⟩ := W.asSlice_elim h
  obtain ⟨nums6, hq6, h2⟩ := W.asSlice_elim h1
  obtain ⟨wv7, hq7, h3⟩ := W.asRef_elim h2
  obtain ⟨first8, hq8, h4⟩ := W.asSlice_elim h3
  obtain ⟨again9, hq9, h5⟩ := W.asSlice_elim h4
  obtain ⟨i11, hq11, h6⟩ := W.asInt_elim h5
  exact fun a ha => W.WP.at (E := [(1, l1.v), (6, nums6.v), (7, .pointer (some wv7)), (8, first8.v), (9, again9.v), (11, .int .i64 i11)]) (W.WP.seq (c := C96) (x := C97) (y := C98) (by kernel_rfl) <| W.WP.reg (c := C97) (fun E w => W.condK (W.Env.val E (.tmp 42)) (KE_S16 E w R) (KE_S18 E w R)) (by kernel_rfl) (Eq.mp (by kernel_rfl) h6) fun _ _ a hA hK => (W.WP.condK (c := C98) (x := C99) (y := C100) (o := .tmp 42) (by kernel_rfl) (fun hK => (W.WP.skip (c := C99) (by kernel_rfl) fun a hA => (W.WP.seq (c := C23) (x := C25) (y := C24) (by kernel_rfl) (W.WP.block (c := C25) (x := C26) (id := 3) (by kernel_rfl) (KE_S16_ok R _ _ hK))) a hA)) (fun hK => (W.WP.exit (c := C100) (id := 2) (by kernel_rfl) fun a hA => (W.WP.seq (c := C22) (x := C27) (y := C31) (by kernel_rfl) (KE_S18_ok R _ _ hK)) a hA)) hK) a hA) (ha.cons hq1 (ha.cons hq6 (ha.cons hq7 (ha.cons hq8 (ha.cons hq9 (ha.cons hq11 ha.nil))))))
theorem L14_step (l1 nums6 : W.Sl) (wv7 : Addr) (first8 again9 : W.Sl) (i11 : Int) (w : World) (R : W.Post) (h : S15 l1 nums6 wv7 first8 again9 i11 w R) : L14 l1 nums6 wv7 first8 again9 i11 w R :=
  W.LP.step (c := C21) (E := [(1, l1.v), (6, nums6.v), (7, .pointer (some wv7)), (8, first8.v), (9, again9.v), (11, .int .i64 i11)]) (w := w) (W.WP.seq (c := C21) (x := C96) (y := C23) (by kernel_rfl) (KE_S15_ok R _ _ (Eq.mp (by kernel_rfl) h)))
noncomputable def C101 : Code := W.Code.fst C18
/-- law.go:214 -/
abbrev S13 (l1 nums6 : W.Sl) (wv7 : Addr) (first8 again9 : W.Sl) (w : World) (R : W.Post) : Prop :=
  L14 l1 nums6 wv7 first8 again9 0 w R
def KE_S13 (E : W.Env) (w : World) (R : W.Post) : Prop := W.asSlice (W.Env.get? E 1) fun l1 => W.asSlice (W.Env.get? E 6) fun nums6 => W.asRef (W.Env.get? E 7) fun wv7 => W.asSlice (W.Env.get? E 8) fun first8 => W.asSlice (W.Env.get? E 9) fun again9 => S13 l1 nums6 wv7 first8 again9 w R
theorem KE_S13_ok (R : W.Post) (E : W.Env) (w : World) (h : KE_S13 E w R) : W.WP Try.prog 101 C18 (Q5 R) E w := by
  obtain ⟨l1, hq1, h1⟩ := W.asSlice_elim h
  obtain ⟨nums6, hq6, h2⟩ := W.asSlice_elim h1
  obtain ⟨wv7, hq7, h3⟩ := W.asRef_elim h2
  obtain ⟨first8, hq8, h4⟩ := W.asSlice_elim h3
  obtain ⟨again9, hq9, h5⟩ := W.asSlice_elim h4
  exact fun a ha => W.WP.at (E := [(1, l1.v), (6, nums6.v), (7, .pointer (some wv7)), (8, first8.v), (9, again9.v)]) (W.WP.seq (c := C18) (x := C101) (y := C19) (by kernel_rfl) <| W.WP.reg (c := C101) (fun E w => KE_L14 E w R) (by kernel_rfl) (Eq.mp (by kernel_rfl) h5) fun _ _ a hA hK => (W.WP.block (c := C19) (x := C20) (id := 2) (by kernel_rfl) (W.WP.loop (c := C20) (x := C21) (by kernel_rfl) (KE_L14_ok R _ _ hK))) a hA) (ha.cons hq1 (ha.cons hq6 (ha.cons hq7 (ha.cons hq8 (ha.cons hq9 ha.nil)))))
noncomputable def C102 : Code := W.Code.fst C12
abbrev Q32 (R : W.Post) : Exit → Act → World → Prop := (Exit.then (Code.wp Try.prog C14 (Exit.then (W.LoopWP Try.prog C12 (Q1 R)) (Q1 R))) (Exit.then (W.LoopWP Try.prog C12 (Q1 R)) (Q1 R)))
noncomputable def C103 : Code := W.Code.fst C102
noncomputable def C104 : Code := W.Code.snd C102
noncomputable def C105 : Code := W.Code.fst C104
noncomputable def C106 : Code := W.Code.snd C104
/-- law.go:211 -/
abbrev S10 (l1 own5 nums6 : W.Sl) (wv7 : Addr) (first8 again9 : W.Sl) (i10 : Int) (w : World) (R : W.Post) : Prop :=
  W.sel (decide (i10 < ((own5.n : Nat) : Int))) (S11 l1 own5 nums6 wv7 first8 again9 i10 w R) (S13 l1 nums6 wv7 first8 again9 w R)
def KE_S10 (E : W.Env) (w : World) (R : W.Post) : Prop := W.asSlice (W.Env.get? E 1) fun l1 => W.asSlice (W.Env.get? E 5) fun own5 => W.asSlice (W.Env.get? E 6) fun nums6 => W.asRef (W.Env.get? E 7) fun wv7 => W.asSlice (W.Env.get? E 8) fun first8 => W.asSlice (W.Env.get? E 9) fun again9 => W.asInt .i64 (W.Env.get? E 10) fun i10 => S10 l1 own5 nums6 wv7 first8 again9 i10 w R
theorem KE_S10_ok (R : W.Post) (E : W.Env) (w : World) (h : KE_S10 E w R) : W.WP Try.prog 101 C102 (Q32 R) E w := by
  obtain ⟨l1, hq1, h1⟩ := W.asSlice_elim h
  obtain ⟨own5, hq5, h2⟩ := W.asSlice_elim h1
  obtain ⟨nums6, hq6, h3⟩ := W.asSlice_elim h2
  obtain ⟨wv7, hq7, h4⟩ := W.asRef_elim h3
  obtain ⟨first8, hq8, h5⟩ := W.asSlice_elim h4
  obtain ⟨again9, hq9, h6⟩ := W.asSlice_elim h5
  obtain ⟨i10, hq10, h7⟩ := W.asInt_elim h6
  exact fun a ha => W.WP.at (E := [(1, l1.v), (5, own5.v), (6, nums6.v), (7, .pointer (some wv7)), (8, first8.v), (9, again9.v), (10, .int .i64 i10)]) (W.WP.seq (c := C102) (x := C103) (y := C104) (by kernel_rfl) <| W.WP.reg (c := C103) (fun E w => W.condK (W.Env.val E (.tmp 33)) (KE_S11 E w R) (KE_S13 E w R)) (by kernel_rfl) (Eq.mp (by kernel_rfl) h7) fun _ _ a hA hK => (W.WP.condK (c := C104) (x := C105) (y := C106) (o := .tmp 33) (by kernel_rfl) (fun hK => (W.WP.skip (c := C105) (by kernel_rfl) fun a hA => (W.WP.seq (c := C14) (x := C16) (y := C15) (by kernel_rfl) (W.WP.block (c := C16) (x := C17) (id := 1) (by kernel_rfl) (KE_S11_ok R _ _ hK))) a hA)) (fun hK => (W.WP.exit (c := C106) (id := 0) (by kernel_rfl) fun a hA => (W.WP.seq (c := C13) (x := C18) (y := C22) (by kernel_rfl) (KE_S13_ok R _ _ hK)) a hA)) hK) a hA) (ha.cons hq1 (ha.cons hq5 (ha.cons hq6 (ha.cons hq7 (ha.cons hq8 (ha.cons hq9 (ha.cons hq10 ha.nil)))))))
theorem L9_step (l1 own5 nums6 : W.Sl) (wv7 : Addr) (first8 again9 : W.Sl) (i10 : Int) (w : World) (R : W.Post) (h : S10 l1 own5 nums6 wv7 first8 again9 i10 w R) : L9 l1 own5 nums6 wv7 first8 again9 i10 w R :=
  W.LP.step (c := C12) (E := [(1, l1.v), (5, own5.v), (6, nums6.v), (7, .pointer (some wv7)), (8, first8.v), (9, again9.v), (10, .int .i64 i10)]) (w := w) (W.WP.seq (c := C12) (x := C102) (y := C14) (by kernel_rfl) (KE_S10_ok R _ _ (Eq.mp (by kernel_rfl) h)))
noncomputable def C107 : Code := W.Code.fst C9
/-- law.go:211 -/
abbrev S8 (l1 own5 nums6 : W.Sl) (wv7 : Addr) (first8 again9 : W.Sl) (w : World) (R : W.Post) : Prop :=
  L9 l1 own5 nums6 wv7 first8 again9 0 w R
def KE_S8 (E : W.Env) (w : World) (R : W.Post) : Prop := W.asSlice (W.Env.get? E 1) fun l1 => W.asSlice (W.Env.get? E 5) fun own5 => W.asSlice (W.Env.get? E 6) fun nums6 => W.asRef (W.Env.get? E 7) fun wv7 => W.asSlice (W.Env.get? E 8) fun first8 => W.asSlice (W.Env.get? E 9) fun again9 => S8 l1 own5 nums6 wv7 first8 again9 w R
theorem KE_S8_ok (R : W.Post) (E : W.Env) (w : World) (h : KE_S8 E w R) : W.WP Try.prog 101 C9 (Q0 R) E w := by
  obtain ⟨l1, hq1, h1⟩ := W.asSlice_elim h
  obtain ⟨own5, hq5, h2⟩ := W.asSlice_elim h1
  obtain ⟨nums6, hq6, h3⟩ := W.asSlice_elim h2
  obtain ⟨wv7, hq7, h4⟩ := W.asRef_elim h3
  obtain ⟨first8, hq8, h5⟩ := W.asSlice_elim h4
  obtain ⟨again9, hq9, h6⟩ := W.asSlice_elim h5
  exact fun a ha => W.WP.at (E := [(1, l1.v), (5, own5.v), (6, nums6.v), (7, .pointer (some wv7)), (8, first8.v), (9, again9.v)]) (W.WP.seq (c := C9) (x := C107) (y := C10) (by kernel_rfl) <| W.WP.reg (c := C107) (fun E w => KE_L9 E w R) (by kernel_rfl) (Eq.mp (by kernel_rfl) h6) fun _ _ a hA hK => (W.WP.block (c := C10) (x := C11) (id := 0) (by kernel_rfl) (W.WP.loop (c := C11) (x := C12) (by kernel_rfl) (KE_L9_ok R _ _ hK))) a hA) (ha.cons hq1 (ha.cons hq5 (ha.cons hq6 (ha.cons hq7 (ha.cons hq8 (ha.cons hq9 ha.nil))))))
noncomputable def C108 : Code := W.Code.fst C7
/-- law.go:210 -/
abbrev S7 (l1 own5 nums6 : W.Sl) (wv7 : Addr) (first8 : W.Sl) (w : World) (R : W.Post) : Prop :=
  let w1 := w.alloc (.cells #[] ty_uint8)
  ∃ (t29 : W.Sl) (w2 : World), Sem.run Try.prog (Builtin.append_ #[ty_sl_uint8, ty_sl_uint8] ty_sl_uint8 #[.slice (some (Addr.mk w.heap.size 0 none)) 0 0, first8.v]) w1 = .ok (t29.v) w2 ∧ S8 l1 own5 nums6 wv7 first8 t29 w2 R
def KE_S7 (E : W.Env) (w : World) (R : W.Post) : Prop := W.asSlice (W.Env.get? E 1) fun l1 => W.asSlice (W.Env.get? E 5) fun own5 => W.asSlice (W.Env.get? E 6) fun nums6 => W.asRef (W.Env.get? E 7) fun wv7 => W.asSlice (W.Env.get? E 8) fun first8 => S7 l1 own5 nums6 wv7 first8 w R
theorem KE_S7_ok (R : W.Post) (E : W.Env) (w : World) (h : KE_S7 E w R) : W.WP Try.prog 101 C7 (Q27 R) E w := by
  obtain ⟨l1, hq1, h1⟩ := W.asSlice_elim h
  obtain ⟨own5, hq5, h2⟩ := W.asSlice_elim h1
  obtain ⟨nums6, hq6, h3⟩ := W.asSlice_elim h2
  obtain ⟨wv7, hq7, h4⟩ := W.asRef_elim h3
  obtain ⟨first8, hq8, h5⟩ := W.asSlice_elim h4
  exact fun a ha => W.WP.at (E := [(1, l1.v), (5, own5.v), (6, nums6.v), (7, .pointer (some wv7)), (8, first8.v)]) (W.WP.seq (c := C7) (x := C108) (y := C8) (by kernel_rfl) <| W.WP.reg (c := C108) (fun E w => KE_S8 E w R) (by kernel_rfl) (Eq.mp (by kernel_rfl) h5) fun _ _ a hA hK => (W.WP.seq (c := C8) (x := C9) (y := C13) (by kernel_rfl) (KE_S8_ok R _ _ hK)) a hA) (ha.cons hq1 (ha.cons hq5 (ha.cons hq6 (ha.cons hq7 (ha.cons hq8 ha.nil)))))
noncomputable def C109 : Code := W.Code.fst C6
/-- law.go:209 -/
abbrev S6 (l1 own5 nums6 : W.Sl) (wv7 : Addr) (w : World) (R : W.Post) : Prop :=
  Calls Try.prog n_wire_Writer_Done #[.pointer (some wv7)] w fun r_ w1 => ∃ t26 : W.Sl, r_ = .returned (t26.v) ∧ 
  S7 l1 own5 nums6 wv7 t26 w1 R
def KE_S6 (E : W.Env) (w : World) (R : W.Post) : Prop := W.asSlice (W.Env.get? E 1) fun l1 => W.asSlice (W.Env.get? E 5) fun own5 => W.asSlice (W.Env.get? E 6) fun nums6 => W.asRef (W.Env.get? E 7) fun wv7 => S6 l1 own5 nums6 wv7 w R
theorem KE_S6_ok (R : W.Post) (E : W.Env) (w : World) (h : KE_S6 E w R) : W.WP Try.prog 101 C6 (Q27 R) E w := by
  obtain ⟨l1, hq1, h1⟩ := W.asSlice_elim h
  obtain ⟨own5, hq5, h2⟩ := W.asSlice_elim h1
  obtain ⟨nums6, hq6, h3⟩ := W.asSlice_elim h2
  obtain ⟨wv7, hq7, h4⟩ := W.asRef_elim h3
  exact fun a ha => W.WP.at (E := [(1, l1.v), (5, own5.v), (6, nums6.v), (7, .pointer (some wv7))]) (W.WP.seq (c := C6) (x := C109) (y := C7) (by kernel_rfl) <| W.WP.reg (c := C109) (fun E w => KE_S7 E w R) (by kernel_rfl) (Eq.mp (by kernel_rfl) h4) fun _ _ a hA hK => (KE_S7_ok R _ _ hK) a hA) (ha.cons hq1 (ha.cons hq5 (ha.cons hq6 (ha.cons hq7 ha.nil))))
noncomputable def C110 : Code := W.Code.fst C5
/-- law.go:208 -/
abbrev S5 (l1 own5 nums6 : W.Sl) (wv7 : Addr) (w : World) (R : W.Post) : Prop :=
  Calls Try.prog n_wire_Writer_Ints #[.pointer (some wv7), nums6.v] w fun r_ w1 => r_ = .returned (.tuple #[]) ∧ 
  S6 l1 own5 nums6 wv7 w1 R
def KE_S5 (E : W.Env) (w : World) (R : W.Post) : Prop := W.asSlice (W.Env.get? E 1) fun l1 => W.asSlice (W.Env.get? E 5) fun own5 => W.asSlice (W.Env.get? E 6) fun nums6 => W.asRef (W.Env.get? E 7) fun wv7 => S5 l1 own5 nums6 wv7 w R
theorem KE_S5_ok (R : W.Post) (E : W.Env) (w : World) (h : KE_S5 E w R) : W.WP Try.prog 101 C5 (Q27 R) E w := by
  obtain ⟨l1, hq1, h1⟩ := W.asSlice_elim h
  obtain ⟨own5, hq5, h2⟩ := W.asSlice_elim h1
  obtain ⟨nums6, hq6, h3⟩ := W.asSlice_elim h2
  obtain ⟨wv7, hq7, h4⟩ := W.asRef_elim h3
  exact fun a ha => W.WP.at (E := [(1, l1.v), (5, own5.v), (6, nums6.v), (7, .pointer (some wv7))]) (W.WP.seq (c := C5) (x := C110) (y := C6) (by kernel_rfl) <| W.WP.reg (c := C110) (fun E w => KE_S6 E w R) (by kernel_rfl) (Eq.mp (by kernel_rfl) h4) fun _ _ a hA hK => (KE_S6_ok R _ _ hK) a hA) (ha.cons hq1 (ha.cons hq5 (ha.cons hq6 (ha.cons hq7 ha.nil))))
noncomputable def C111 : Code := W.Code.fst C4
/-- law.go:207 -/
abbrev S4 (l1 own5 nums6 : W.Sl) (wv7 : Addr) (w : World) (R : W.Post) : Prop :=
  Calls Try.prog n_wire_Writer_Raw #[.pointer (some wv7), own5.v] w fun r_ w1 => r_ = .returned (.tuple #[]) ∧ 
  S5 l1 own5 nums6 wv7 w1 R
def KE_S4 (E : W.Env) (w : World) (R : W.Post) : Prop := W.asSlice (W.Env.get? E 1) fun l1 => W.asSlice (W.Env.get? E 5) fun own5 => W.asSlice (W.Env.get? E 6) fun nums6 => W.asRef (W.Env.get? E 7) fun wv7 => S4 l1 own5 nums6 wv7 w R
theorem KE_S4_ok (R : W.Post) (E : W.Env) (w : World) (h : KE_S4 E w R) : W.WP Try.prog 101 C4 (Q27 R) E w := by
  obtain ⟨l1, hq1, h1⟩ := W.asSlice_elim h
  obtain ⟨own5, hq5, h2⟩ := W.asSlice_elim h1
  obtain ⟨nums6, hq6, h3⟩ := W.asSlice_elim h2
  obtain ⟨wv7, hq7, h4⟩ := W.asRef_elim h3
  exact fun a ha => W.WP.at (E := [(1, l1.v), (5, own5.v), (6, nums6.v), (7, .pointer (some wv7))]) (W.WP.seq (c := C4) (x := C111) (y := C5) (by kernel_rfl) <| W.WP.reg (c := C111) (fun E w => KE_S5 E w R) (by kernel_rfl) (Eq.mp (by kernel_rfl) h4) fun _ _ a hA hK => (KE_S5_ok R _ _ hK) a hA) (ha.cons hq1 (ha.cons hq5 (ha.cons hq6 (ha.cons hq7 ha.nil))))
noncomputable def C112 : Code := W.Code.fst C3
/-- law.go:206 -/
abbrev S3 (l1 own5 nums6 : W.Sl) (w : World) (R : W.Post) : Prop :=
  let w1 := w.alloc (.cells #[.slice none 0 0] ty_wire_Writer)
  S4 l1 own5 nums6 (Addr.mk w.heap.size 0 none) w1 R
def KE_S3 (E : W.Env) (w : World) (R : W.Post) : Prop := W.asSlice (W.Env.get? E 1) fun l1 => W.asSlice (W.Env.get? E 5) fun own5 => W.asSlice (W.Env.get? E 6) fun nums6 => S3 l1 own5 nums6 w R
theorem KE_S3_ok (R : W.Post) (E : W.Env) (w : World) (h : KE_S3 E w R) : W.WP Try.prog 101 C3 (Q27 R) E w := by
  obtain ⟨l1, hq1, h1⟩ := W.asSlice_elim h
  obtain ⟨own5, hq5, h2⟩ := W.asSlice_elim h1
  obtain ⟨nums6, hq6, h3⟩ := W.asSlice_elim h2
  exact fun a ha => W.WP.at (E := [(1, l1.v), (5, own5.v), (6, nums6.v)]) (W.WP.seq (c := C3) (x := C112) (y := C4) (by kernel_rfl) <| W.WP.reg (c := C112) (fun E w => KE_S4 E w R) (by kernel_rfl) (Eq.mp (by kernel_rfl) h3) fun _ _ a hA hK => (KE_S4_ok R _ _ hK) a hA) (ha.cons hq1 (ha.cons hq5 (ha.cons hq6 ha.nil)))
noncomputable def C113 : Code := W.Code.fst C2
/-- law.go:205 -/
abbrev S2 (l1 own5 : W.Sl) (w : World) (R : W.Post) : Prop :=
  Calls Try.prog n_enthymemeref01_Ints #[l1.v, .int .i64 10] w fun r_ w1 => ∃ t21 : W.Sl, r_ = .returned (t21.v) ∧ 
  S3 l1 own5 t21 w1 R
def KE_S2 (E : W.Env) (w : World) (R : W.Post) : Prop := W.asSlice (W.Env.get? E 1) fun l1 => W.asSlice (W.Env.get? E 5) fun own5 => S2 l1 own5 w R
theorem KE_S2_ok (R : W.Post) (E : W.Env) (w : World) (h : KE_S2 E w R) : W.WP Try.prog 101 C2 (Q27 R) E w := by
  obtain ⟨l1, hq1, h1⟩ := W.asSlice_elim h
  obtain ⟨own5, hq5, h2⟩ := W.asSlice_elim h1
  exact fun a ha => W.WP.at (E := [(1, l1.v), (5, own5.v)]) (W.WP.seq (c := C2) (x := C113) (y := C3) (by kernel_rfl) <| W.WP.reg (c := C113) (fun E w => KE_S3 E w R) (by kernel_rfl) (Eq.mp (by kernel_rfl) h2) fun _ _ a hA hK => (KE_S3_ok R _ _ hK) a hA) (ha.cons hq1 (ha.cons hq5 ha.nil))
noncomputable def C114 : Code := W.Code.fst C1
/-- law.go:204 -/
abbrev S1 (b0 l1 : W.Sl) (w : World) (R : W.Post) : Prop :=
  Calls Try.prog n_enthymemeref01_Few #[b0.v, .int .i64 30] w fun r_ w1 => ∃ t19 : W.Sl, r_ = .returned (t19.v) ∧ 
  S2 l1 t19 w1 R
def KE_S1 (E : W.Env) (w : World) (R : W.Post) : Prop := W.asSlice (W.Env.get? E 0) fun b0 => W.asSlice (W.Env.get? E 1) fun l1 => S1 b0 l1 w R
theorem KE_S1_ok (R : W.Post) (E : W.Env) (w : World) (h : KE_S1 E w R) : W.WP Try.prog 101 C1 (Q27 R) E w := by
  obtain ⟨b0, hq0, h1⟩ := W.asSlice_elim h
  obtain ⟨l1, hq1, h2⟩ := W.asSlice_elim h1
  exact fun a ha => W.WP.at (E := [(0, b0.v), (1, l1.v)]) (W.WP.seq (c := C1) (x := C114) (y := C2) (by kernel_rfl) <| W.WP.reg (c := C114) (fun E w => KE_S2 E w R) (by kernel_rfl) (Eq.mp (by kernel_rfl) h2) fun _ _ a hA hK => (KE_S2_ok R _ _ hK) a hA) (ha.cons hq0 (ha.cons hq1 ha.nil))
noncomputable def C115 : Code := W.Code.fst C0
/-- law.go:203 -/
abbrev S0 (b0 l1 : W.Sl) (w : World) (R : W.Post) : Prop :=
  S1 b0 l1 w R
def KE_S0 (E : W.Env) (w : World) (R : W.Post) : Prop := W.asSlice (W.Env.get? E 0) fun b0 => W.asSlice (W.Env.get? E 1) fun l1 => S0 b0 l1 w R
theorem KE_S0_ok (R : W.Post) (E : W.Env) (w : World) (h : KE_S0 E w R) : W.WP Try.prog 101 C0 (Q27 R) E w := by
  obtain ⟨b0, hq0, h1⟩ := W.asSlice_elim h
  obtain ⟨l1, hq1, h2⟩ := W.asSlice_elim h1
  exact fun a ha => W.WP.at (E := [(0, b0.v), (1, l1.v)]) (W.WP.seq (c := C0) (x := C115) (y := C1) (by kernel_rfl) <| W.WP.reg (c := C115) (fun E w => KE_S1 E w R) (by kernel_rfl) (Eq.mp (by kernel_rfl) h2) fun _ _ a hA hK => (KE_S1_ok R _ _ hK) a hA) (ha.cons hq0 (ha.cons hq1 ha.nil))
/-- enthymeme/enthymemelaw02.WireOwn -/
theorem ok (b0 l1 : W.Sl) (w : World) (R : W.Post) (h : S0 b0 l1 w R) : Calls Try.prog n_enthymemelaw02_WireOwn #[b0.v, l1.v] w R :=
  W.calls_of_WP' (fn := Try.f4) (c := C0) (args := [b0.v, l1.v]) (by kernel_rfl) (by kernel_rfl) (by kernel_rfl) (KE_S0_ok R _ _ (Eq.mp (by kernel_rfl) h))
end enthymemelaw02_WireOwn
end Go.Proofs.Ytjmnpdacalbpkaa

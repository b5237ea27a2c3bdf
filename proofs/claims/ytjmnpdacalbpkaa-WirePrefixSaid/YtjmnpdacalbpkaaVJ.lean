/- Printed by a program of ours (vcgen.py) from the dump: the conditions of the functions, and that they suffice. -/
import Derived.Test.YtjmnpdacalbpkaaV
set_option linter.unusedVariables false
set_option maxRecDepth 100000
namespace Go.Proofs.Ytjmnpdacalbpkaa
open Go
namespace enthymemelaw02_WirePrefix
noncomputable def C0 : Code := (Try.f10.body).getD .skip
noncomputable def C1 : Code := W.Code.snd C0
noncomputable def C2 : Code := W.Code.snd C1
noncomputable def C3 : Code := W.Code.snd C2
noncomputable def C4 : Code := W.Code.fst C3
noncomputable def C5 : Code := W.Code.snd C4
noncomputable def C6 : Code := W.Code.fst C5
noncomputable def C7 : Code := W.Code.snd C6
noncomputable def C8 : Code := W.Code.snd C3
abbrev Q0 (R : W.Post) : Exit → Act → World → Prop := (Exit.then (Code.wp Try.prog C8 (bodyPost Try.prog Try.f10 R)) (bodyPost Try.prog Try.f10 R))
noncomputable def C9 : Code := W.Code.fst C7
noncomputable def C10 : Code := W.Code.snd C7
/-- law.go:167 -/
abbrev S5 (none9 : Option Addr) (w : World) (R : W.Post) : Prop :=
  W.sel (!none9.isNone) (Calls Try.prog n_wire_Reader_End #[.pointer none9] w fun r_ w1 => ∃ t26 : Int, r_ = .returned (.int .i64 t26) ∧ 
  W.sel (t26 == 0) (Calls Try.prog n_enthymemelaw02_lives #[] w1 fun r_ w2 => ∃ t30 : Bool, r_ = .returned (.bool t30) ∧ 
  R (.returned (.bool t30)) w2) (R (.returned (.bool false)) w1)) (R (.returned (.bool false)) w)
def KE_S5 (E : W.Env) (w : World) (R : W.Post) : Prop := W.asPtr (W.Env.get? E 9) fun none9 => S5 none9 w R
theorem KE_S5_ok (R : W.Post) (E : W.Env) (w : World) (h : KE_S5 E w R) : W.WP Try.prog 98 C7 (Q0 R) E w := by
  obtain ⟨none9, hq9, h1⟩ := W.asPtr_elim h
  exact fun a ha => W.WP.at (E := [(9, .pointer none9)]) (W.WP.seq (c := C7) (x := C9) (y := C10) (by kernel_rfl) <| W.WP.reg (c := C9) (fun E w => W.retVC Try.prog Try.f10 E w (fun v => R (.returned v) w)) (by kernel_rfl) (Eq.mp (by kernel_rfl) h1) fun _ _ a hA hK => (W.WP.ret (c := C10) (by kernel_rfl) fun a hA => W.retVC_sound hA hK) a hA) (ha.cons hq9 ha.nil)
noncomputable def C11 : Code := W.Code.fst C6
/-- law.go:166 -/
abbrev S4  (w : World) (R : W.Post) : Prop :=
  Calls Try.prog n_wire_Read #[.slice none 0 0] w fun r_ w1 => ∃ t21 : Option Addr, r_ = .returned (.pointer t21) ∧ 
  S5 t21 w1 R
def KE_S4 (E : W.Env) (w : World) (R : W.Post) : Prop := S4  w R
theorem KE_S4_ok (R : W.Post) (E : W.Env) (w : World) (h : KE_S4 E w R) : W.WP Try.prog 98 C6 (Q0 R) E w := by
  exact fun a ha => W.WP.at (E := []) (W.WP.seq (c := C6) (x := C11) (y := C7) (by kernel_rfl) <| W.WP.reg (c := C11) (fun E w => KE_S5 E w R) (by kernel_rfl) (Eq.mp (by kernel_rfl) h) fun _ _ a hA hK => (KE_S5_ok R _ _ hK) a hA) ha.nil
noncomputable def C12 : Code := W.Code.snd C8
noncomputable def C13 : Code := W.Code.snd C12
noncomputable def C14 : Code := W.Code.fst C13
noncomputable def C15 : Code := W.Code.snd C14
noncomputable def C16 : Code := W.Code.fst C15
noncomputable def C17 : Code := W.Code.snd C13
abbrev Q1 (R : W.Post) : Exit → Act → World → Prop := (Exit.then (Code.wp Try.prog C17 (bodyPost Try.prog Try.f10 R)) (bodyPost Try.prog Try.f10 R))
noncomputable def C18 : Code := W.Code.fst C16
noncomputable def C19 : Code := W.Code.snd C16
/-- law.go:172 -/
abbrev S9  (w : World) (R : W.Post) : Prop :=
  R (.returned (.bool false)) w
def KE_S9 (E : W.Env) (w : World) (R : W.Post) : Prop := S9  w R
theorem KE_S9_ok (R : W.Post) (E : W.Env) (w : World) (h : KE_S9 E w R) : W.WP Try.prog 98 C16 (Q1 R) E w := by
  exact fun a ha => W.WP.at (E := []) (W.WP.seq (c := C16) (x := C18) (y := C19) (by kernel_rfl) <| W.WP.reg (c := C18) (fun E w => W.retVC Try.prog Try.f10 E w (fun v => R (.returned v) w)) (by kernel_rfl) (Eq.mp (by kernel_rfl) h) fun _ _ a hA hK => (W.WP.ret (c := C19) (by kernel_rfl) fun a hA => W.retVC_sound hA hK) a hA) ha.nil
noncomputable def C20 : Code := W.Code.fst C17
noncomputable def C21 : Code := W.Code.snd C20
noncomputable def C22 : Code := W.Code.fst C21
noncomputable def C23 : Code := W.Code.fst C22
noncomputable def C24 : Code := W.Code.snd C17
abbrev Q2 (R : W.Post) : Exit → Act → World → Prop := (Exit.then (Code.wp Try.prog C24 (bodyPost Try.prog Try.f10 R)) (bodyPost Try.prog Try.f10 R))
abbrev Q3 (R : W.Post) : Exit → Act → World → Prop := (Exit.inBlock 0 (Q2 R))
/-- the head of the loop, law.go:174 -/
def L11 (cut1 : Int) (all7 : W.Sl) (r10 long11 : Option Addr) (i12 : Int) (w : World) (R : W.Post) : Prop := W.LP Try.prog 98 C23 (Q3 R) [(1, .int .i64 cut1), (7, all7.v), (10, .pointer r10), (11, .pointer long11), (12, .int .i64 i12)] w
def KE_L11 (E : W.Env) (w : World) (R : W.Post) : Prop := W.asInt .i64 (W.Env.get? E 1) fun cut1 => W.asSlice (W.Env.get? E 7) fun all7 => W.asPtr (W.Env.get? E 10) fun r10 => W.asPtr (W.Env.get? E 11) fun long11 => W.asInt .i64 (W.Env.get? E 12) fun i12 => L11 cut1 all7 r10 long11 i12 w R
theorem KE_L11_ok (R : W.Post) (E : W.Env) (w : World) (h : KE_L11 E w R) : W.LP Try.prog 98 C23 (Q3 R) E w := by
  obtain ⟨cut1, hq1, h1⟩ := W.asInt_elim h
  obtain ⟨all7, hq7, h2⟩ := W.asSlice_elim h1
  obtain ⟨r10, hq10, h3⟩ := W.asPtr_elim h2
  obtain ⟨long11, hq11, h4⟩ := W.asPtr_elim h3
  obtain ⟨i12, hq12, h5⟩ := W.asInt_elim h4
  intro a ha
  exact h5 a (ha.cons hq1 (ha.cons hq7 (ha.cons hq10 (ha.cons hq11 (ha.cons hq12 ha.nil)))))
noncomputable def C25 : Code := W.Code.snd C23
noncomputable def C26 : Code := W.Code.snd C25
abbrev Q4 (R : W.Post) : Exit → Act → World → Prop := (Exit.then (W.LoopWP Try.prog C23 (Q3 R)) (Q3 R))
/-- law.go:174 -/
abbrev S15 (cut1 : Int) (all7 : W.Sl) (r10 long11 : Option Addr) (i12 : Int) (w : World) (R : W.Post) : Prop :=
  L11 cut1 all7 r10 long11 (IntKind.wrap .i64 (i12 + 1)) w R
def KE_S15 (E : W.Env) (w : World) (R : W.Post) : Prop := W.asInt .i64 (W.Env.get? E 1) fun cut1 => W.asSlice (W.Env.get? E 7) fun all7 => W.asPtr (W.Env.get? E 10) fun r10 => W.asPtr (W.Env.get? E 11) fun long11 => W.asInt .i64 (W.Env.get? E 12) fun i12 => S15 cut1 all7 r10 long11 i12 w R
theorem KE_S15_ok (R : W.Post) (E : W.Env) (w : World) (h : KE_S15 E w R) : W.WP Try.prog 98 C26 (Q4 R) E w := by
  obtain ⟨cut1, hq1, h1⟩ := W.asInt_elim h
  obtain ⟨all7, hq7, h2⟩ := W.asSlice_elim h1
  obtain ⟨r10, hq10, h3⟩ := W.asPtr_elim h2
  obtain ⟨long11, hq11, h4⟩ := W.asPtr_elim h3
  obtain ⟨i12, hq12, h5⟩ := W.asInt_elim h4
  exact fun a ha => W.WP.at (E := [(1, .int .i64 cut1), (7, all7.v), (10, .pointer r10), (11, .pointer long11), (12, .int .i64 i12)]) (W.WP.reg (c := C26) (fun E w => KE_L11 E w R) (by kernel_rfl) (Eq.mp (by kernel_rfl) h5) fun _ _ a hA hK => KE_L11_ok R _ _ hK a hA) (ha.cons hq1 (ha.cons hq7 (ha.cons hq10 (ha.cons hq11 (ha.cons hq12 ha.nil)))))
noncomputable def C27 : Code := W.Code.fst C25
noncomputable def C28 : Code := W.Code.fst C27
noncomputable def C29 : Code := W.Code.snd C28
abbrev Q5 (R : W.Post) : Exit → Act → World → Prop := (Exit.then (Code.wp Try.prog C26 (Exit.then (W.LoopWP Try.prog C23 (Q3 R)) (Q3 R))) (Exit.then (W.LoopWP Try.prog C23 (Q3 R)) (Q3 R)))
abbrev Q6 (R : W.Post) : Exit → Act → World → Prop := (Exit.inBlock 1 (Q5 R))
/-- law.go:176 -/
abbrev S14 (cut1 : Int) (all7 : W.Sl) (r10 long11 : Option Addr) (i12 : Int) (w : World) (R : W.Post) : Prop :=
  (0 : Int) ≤ i12 ∧ i12 < ((all7.n : Nat) : Int) ∧ W.optP all7.a fun t69_p => ∃ t71 : Int, w.cell? ((t69_p.add (Int.toNat i12 * 5)).add 0) = some (.int .i64 t71) ∧ 
  Calls Try.prog n_enthymemelaw02_read #[.pointer long11, .int .i64 t71] w fun r_ w1 => ∃ t72_0 : Int, ∃ t72_1 : Int, ∃ t72_2 : Int, ∃ t72_3 : W.Sl, ∃ t72_4 : W.Sl, r_ = .returned (.agg #[.int .i64 t72_0, .int .u64 t72_1, .int .i64 t72_2, t72_3.v, t72_4.v]) ∧ 
  S15 cut1 all7 r10 long11 i12 w1 R
def KE_S14 (E : W.Env) (w : World) (R : W.Post) : Prop := W.asInt .i64 (W.Env.get? E 1) fun cut1 => W.asSlice (W.Env.get? E 7) fun all7 => W.asPtr (W.Env.get? E 10) fun r10 => W.asPtr (W.Env.get? E 11) fun long11 => W.asInt .i64 (W.Env.get? E 12) fun i12 => S14 cut1 all7 r10 long11 i12 w R
theorem KE_S14_ok (R : W.Post) (E : W.Env) (w : World) (h : KE_S14 E w R) : W.WP Try.prog 98 C29 (Q6 R) E w := by
  obtain ⟨cut1, hq1, h1⟩ := W.asInt_elim h
  obtain ⟨all7, hq7, h2⟩ := W.asSlice_elim h1
  obtain ⟨r10, hq10, h3⟩ := W.asPtr_elim h2
  obtain ⟨long11, hq11, h4⟩ := W.asPtr_elim h3
  obtain ⟨i12, hq12, h5⟩ := W.asInt_elim h4
  exact fun a ha => W.WP.at (E := [(1, .int .i64 cut1), (7, all7.v), (10, .pointer r10), (11, .pointer long11), (12, .int .i64 i12)]) (W.WP.reg (c := C29) (fun E w => KE_S15 E w R) (by kernel_rfl) (Eq.mp (by kernel_rfl) h5) fun _ _ a hA hK => (KE_S15_ok R _ _ hK) a hA) (ha.cons hq1 (ha.cons hq7 (ha.cons hq10 (ha.cons hq11 (ha.cons hq12 ha.nil)))))
noncomputable def C30 : Code := W.Code.fst C28
/-- law.go:175 -/
abbrev S13 (cut1 : Int) (all7 : W.Sl) (r10 long11 : Option Addr) (i12 : Int) (w : World) (R : W.Post) : Prop :=
  (0 : Int) ≤ i12 ∧ i12 < ((all7.n : Nat) : Int) ∧ W.optP all7.a fun t62_p => ∃ t64 : Int, w.cell? ((t62_p.add (Int.toNat i12 * 5)).add 0) = some (.int .i64 t64) ∧ 
  Calls Try.prog n_enthymemelaw02_read #[.pointer r10, .int .i64 t64] w fun r_ w1 => ∃ t65_0 : Int, ∃ t65_1 : Int, ∃ t65_2 : Int, ∃ t65_3 : W.Sl, ∃ t65_4 : W.Sl, r_ = .returned (.agg #[.int .i64 t65_0, .int .u64 t65_1, .int .i64 t65_2, t65_3.v, t65_4.v]) ∧ 
  S14 cut1 all7 r10 long11 i12 w1 R
def KE_S13 (E : W.Env) (w : World) (R : W.Post) : Prop := W.asInt .i64 (W.Env.get? E 1) fun cut1 => W.asSlice (W.Env.get? E 7) fun all7 => W.asPtr (W.Env.get? E 10) fun r10 => W.asPtr (W.Env.get? E 11) fun long11 => W.asInt .i64 (W.Env.get? E 12) fun i12 => S13 cut1 all7 r10 long11 i12 w R
theorem KE_S13_ok (R : W.Post) (E : W.Env) (w : World) (h : KE_S13 E w R) : W.WP Try.prog 98 C28 (Q6 R) E w := by
  obtain ⟨cut1, hq1, h1⟩ := W.asInt_elim h
  obtain ⟨all7, hq7, h2⟩ := W.asSlice_elim h1
  obtain ⟨r10, hq10, h3⟩ := W.asPtr_elim h2
  obtain ⟨long11, hq11, h4⟩ := W.asPtr_elim h3
  obtain ⟨i12, hq12, h5⟩ := W.asInt_elim h4
  exact fun a ha => W.WP.at (E := [(1, .int .i64 cut1), (7, all7.v), (10, .pointer r10), (11, .pointer long11), (12, .int .i64 i12)]) (W.WP.seq (c := C28) (x := C30) (y := C29) (by kernel_rfl) <| W.WP.reg (c := C30) (fun E w => KE_S14 E w R) (by kernel_rfl) (Eq.mp (by kernel_rfl) h5) fun _ _ a hA hK => (KE_S14_ok R _ _ hK) a hA) (ha.cons hq1 (ha.cons hq7 (ha.cons hq10 (ha.cons hq11 (ha.cons hq12 ha.nil)))))
noncomputable def C31 : Code := W.Code.fst C24
noncomputable def C32 : Code := W.Code.snd C31
noncomputable def C33 : Code := W.Code.fst C32
noncomputable def C34 : Code := W.Code.snd C24
abbrev Q7 (R : W.Post) : Exit → Act → World → Prop := (Exit.then (Code.wp Try.prog C34 (bodyPost Try.prog Try.f10 R)) (bodyPost Try.prog Try.f10 R))
noncomputable def C35 : Code := W.Code.fst C33
noncomputable def C36 : Code := W.Code.snd C33
/-- law.go:179 -/
abbrev S17  (w : World) (R : W.Post) : Prop :=
  R (.returned (.bool false)) w
def KE_S17 (E : W.Env) (w : World) (R : W.Post) : Prop := S17  w R
theorem KE_S17_ok (R : W.Post) (E : W.Env) (w : World) (h : KE_S17 E w R) : W.WP Try.prog 98 C33 (Q7 R) E w := by
  exact fun a ha => W.WP.at (E := []) (W.WP.seq (c := C33) (x := C35) (y := C36) (by kernel_rfl) <| W.WP.reg (c := C35) (fun E w => W.retVC Try.prog Try.f10 E w (fun v => R (.returned v) w)) (by kernel_rfl) (Eq.mp (by kernel_rfl) h) fun _ _ a hA hK => (W.WP.ret (c := C36) (by kernel_rfl) fun a hA => W.retVC_sound hA hK) a hA) ha.nil
noncomputable def C37 : Code := W.Code.snd C34
abbrev Q8 (R : W.Post) : Exit → Act → World → Prop := (bodyPost Try.prog Try.f10 R)
noncomputable def C38 : Code := W.Code.fst C37
noncomputable def C39 : Code := W.Code.snd C37
/-- law.go:182 -/
abbrev S19 (r10 : Option Addr) (last13 : Addr) (w : World) (R : W.Post) : Prop :=
  ∃ t85_0 : Int, ∃ t85_1 : Int, ∃ t85_2 : Int, ∃ t85_3 : W.Sl, ∃ t85_4 : W.Sl, w.cell? (last13.add 0) = some (.int .i64 t85_0) ∧ w.cell? (last13.add 1) = some (.int .u64 t85_1) ∧ w.cell? (last13.add 2) = some (.int .i64 t85_2) ∧ w.cell? (last13.add 3) = some (t85_3.v) ∧ w.cell? (last13.add 4) = some (t85_4.v) ∧ 
  ∃ t87 : Int, w.cell? (last13.add 0) = some (.int .i64 t87) ∧ 
  Calls Try.prog n_enthymemeref02_Same #[.agg #[.int .i64 t85_0, .int .u64 t85_1, .int .i64 t85_2, t85_3.v, t85_4.v], .agg #[.int .i64 t87, .int .u64 0, .int .i64 0, .slice none 0 0, .slice none 0 0]] w fun r_ w1 => ∃ t89 : Bool, r_ = .returned (.bool t89) ∧ 
  W.sel t89 (Calls Try.prog n_wire_Reader_End #[.pointer r10] w1 fun r_ w2 => ∃ t92 : Int, r_ = .returned (.int .i64 t92) ∧ 
  W.sel (t92 == 3) (Calls Try.prog n_enthymemelaw02_lives #[] w2 fun r_ w3 => ∃ t96 : Bool, r_ = .returned (.bool t96) ∧ 
  R (.returned (.bool t96)) w3) (R (.returned (.bool false)) w2)) (R (.returned (.bool false)) w1)
def KE_S19 (E : W.Env) (w : World) (R : W.Post) : Prop := W.asPtr (W.Env.get? E 10) fun r10 => W.asRef (W.Env.get? E 13) fun last13 => S19 r10 last13 w R
theorem KE_S19_ok (R : W.Post) (E : W.Env) (w : World) (h : KE_S19 E w R) : W.WP Try.prog 98 C37 (Q8 R) E w := by
  obtain ⟨r10, hq10, h1⟩ := W.asPtr_elim h
  obtain ⟨last13, hq13, h2⟩ := W.asRef_elim h1
  exact fun a ha => W.WP.at (E := [(10, .pointer r10), (13, .pointer (some last13))]) (W.WP.seq (c := C37) (x := C38) (y := C39) (by kernel_rfl) <| W.WP.reg (c := C38) (fun E w => W.retVC Try.prog Try.f10 E w (fun v => R (.returned v) w)) (by kernel_rfl) (Eq.mp (by kernel_rfl) h2) fun _ _ a hA hK => (W.WP.ret (c := C39) (by kernel_rfl) fun a hA => W.retVC_sound hA hK) a hA) (ha.cons hq10 (ha.cons hq13 ha.nil))
noncomputable def C40 : Code := W.Code.fst C34
/-- law.go:181 -/
abbrev S18 (cut1 : Int) (r10 : Option Addr) (w : World) (R : W.Post) : Prop :=
  Calls Try.prog n_enthymemeref01_Around #[.int .i64 cut1, .int .i64 6] w fun r_ w1 => ∃ t83 : Int, r_ = .returned (.int .i64 t83) ∧ 
  Calls Try.prog n_enthymemelaw02_read #[.pointer r10, .int .i64 t83] w1 fun r_ w2 => ∃ t84_0 : Int, ∃ t84_1 : Int, ∃ t84_2 : Int, ∃ t84_3 : W.Sl, ∃ t84_4 : W.Sl, r_ = .returned (.agg #[.int .i64 t84_0, .int .u64 t84_1, .int .i64 t84_2, t84_3.v, t84_4.v]) ∧ 
  let w3 := w2.alloc (.cells #[.int .i64 0, .int .u64 0, .int .i64 0, .slice none 0 0, .slice none 0 0] ty_enthymemeref02_Val)
  (w3.cell? (Addr.mk w2.heap.size 0 none)).isSome = true ∧ w3.frozen? (Addr.mk w2.heap.size 0 none) = false ∧ let w4 := w3.setCell (Addr.mk w2.heap.size 0 none) (.int .i64 t84_0)
  (w4.cell? ((Addr.mk w2.heap.size 0 none).add 1)).isSome = true ∧ w4.frozen? ((Addr.mk w2.heap.size 0 none).add 1) = false ∧ let w5 := w4.setCell ((Addr.mk w2.heap.size 0 none).add 1) (.int .u64 t84_1)
  (w5.cell? ((Addr.mk w2.heap.size 0 none).add 2)).isSome = true ∧ w5.frozen? ((Addr.mk w2.heap.size 0 none).add 2) = false ∧ let w6 := w5.setCell ((Addr.mk w2.heap.size 0 none).add 2) (.int .i64 t84_2)
  (w6.cell? ((Addr.mk w2.heap.size 0 none).add 3)).isSome = true ∧ w6.frozen? ((Addr.mk w2.heap.size 0 none).add 3) = false ∧ let w7 := w6.setCell ((Addr.mk w2.heap.size 0 none).add 3) (t84_3.v)
  (w7.cell? ((Addr.mk w2.heap.size 0 none).add 4)).isSome = true ∧ w7.frozen? ((Addr.mk w2.heap.size 0 none).add 4) = false ∧ let w8 := w7.setCell ((Addr.mk w2.heap.size 0 none).add 4) (t84_4.v)
  S19 r10 (Addr.mk w2.heap.size 0 none) w8 R
def KE_S18 (E : W.Env) (w : World) (R : W.Post) : Prop := W.asInt .i64 (W.Env.get? E 1) fun cut1 => W.asPtr (W.Env.get? E 10) fun r10 => S18 cut1 r10 w R
theorem KE_S18_ok (R : W.Post) (E : W.Env) (w : World) (h : KE_S18 E w R) : W.WP Try.prog 98 C34 (Q8 R) E w := by
  obtain ⟨cut1, hq1, h1⟩ := W.asInt_elim h
  obtain ⟨r10, hq10, h2⟩ := W.asPtr_elim h1
  exact fun a ha => W.WP.at (E := [(1, .int .i64 cut1), (10, .pointer r10)]) (W.WP.seq (c := C34) (x := C40) (y := C37) (by kernel_rfl) <| W.WP.reg (c := C40) (fun E w => KE_S19 E w R) (by kernel_rfl) (Eq.mp (by kernel_rfl) h2) fun _ _ a hA hK => (KE_S19_ok R _ _ hK) a hA) (ha.cons hq1 (ha.cons hq10 ha.nil))
noncomputable def C41 : Code := W.Code.fst C31
noncomputable def C42 : Code := W.Code.snd C32
/-- law.go:178 -/
abbrev S16 (cut1 : Int) (r10 long11 : Option Addr) (w : World) (R : W.Post) : Prop :=
  Calls Try.prog n_wire_Reader_End #[.pointer r10] w fun r_ w1 => ∃ t74 : Int, r_ = .returned (.int .i64 t74) ∧ 
  W.sel (t74 != 3) (S17  w1 R) (Calls Try.prog n_wire_Reader_End #[.pointer long11] w1 fun r_ w2 => ∃ t78 : Int, r_ = .returned (.int .i64 t78) ∧ 
  W.sel (t78 != 2) (S17  w2 R) (S18 cut1 r10 w2 R))
def KE_S16 (E : W.Env) (w : World) (R : W.Post) : Prop := W.asInt .i64 (W.Env.get? E 1) fun cut1 => W.asPtr (W.Env.get? E 10) fun r10 => W.asPtr (W.Env.get? E 11) fun long11 => S16 cut1 r10 long11 w R
theorem KE_S16_ok (R : W.Post) (E : W.Env) (w : World) (h : KE_S16 E w R) : W.WP Try.prog 98 C31 (Q7 R) E w := by
  obtain ⟨cut1, hq1, h1⟩ := W.asInt_elim h
  obtain ⟨r10, hq10, h2⟩ := W.asPtr_elim h1
  obtain ⟨long11, hq11, h3⟩ := W.asPtr_elim h2
  exact fun a ha => W.WP.at (E := [(1, .int .i64 cut1), (10, .pointer r10), (11, .pointer long11)]) (W.WP.seq (c := C31) (x := C41) (y := C32) (by kernel_rfl) <| W.WP.reg (c := C41) (fun E w => W.condK (W.Env.val E (.tmp 80)) (KE_S17 E w R) (KE_S18 E w R)) (by kernel_rfl) (Eq.mp (by kernel_rfl) h3) fun _ _ a hA hK => (W.WP.condK (c := C32) (x := C33) (y := C42) (o := .tmp 80) (by kernel_rfl) (fun hK => (KE_S17_ok R _ _ hK)) (fun hK => (W.WP.skip (c := C42) (by kernel_rfl) fun a hA => (KE_S18_ok R _ _ hK) a hA)) hK) a hA) (ha.cons hq1 (ha.cons hq10 (ha.cons hq11 ha.nil)))
noncomputable def C43 : Code := W.Code.fst C23
abbrev Q9 (R : W.Post) : Exit → Act → World → Prop := (Exit.then (Code.wp Try.prog C25 (Exit.then (W.LoopWP Try.prog C23 (Q3 R)) (Q3 R))) (Exit.then (W.LoopWP Try.prog C23 (Q3 R)) (Q3 R)))
noncomputable def C44 : Code := W.Code.fst C43
noncomputable def C45 : Code := W.Code.snd C43
noncomputable def C46 : Code := W.Code.fst C45
noncomputable def C47 : Code := W.Code.snd C45
/-- law.go:174 -/
abbrev S12 (cut1 : Int) (all7 : W.Sl) (r10 long11 : Option Addr) (i12 : Int) (w : World) (R : W.Post) : Prop :=
  W.sel (decide (i12 < ((all7.n : Nat) : Int))) (S13 cut1 all7 r10 long11 i12 w R) (S16 cut1 r10 long11 w R)
def KE_S12 (E : W.Env) (w : World) (R : W.Post) : Prop := W.asInt .i64 (W.Env.get? E 1) fun cut1 => W.asSlice (W.Env.get? E 7) fun all7 => W.asPtr (W.Env.get? E 10) fun r10 => W.asPtr (W.Env.get? E 11) fun long11 => W.asInt .i64 (W.Env.get? E 12) fun i12 => S12 cut1 all7 r10 long11 i12 w R
theorem KE_S12_ok (R : W.Post) (E : W.Env) (w : World) (h : KE_S12 E w R) : W.WP Try.prog 98 C43 (Q9 R) E w := by
  obtain ⟨cut1, hq1, h1⟩ := W.asInt_elim h
  obtain ⟨all7, hq7, h2⟩ := W.asSlice_elim h1
  obtain ⟨r10, hq10, h3⟩ := W.asPtr_elim h2
  obtain ⟨long11, hq11, h4⟩ := W.asPtr_elim h3
  obtain ⟨i12, hq12, h5⟩ := W.asInt_elim h4
  exact fun a ha => W.WP.at (E := [(1, .int .i64 cut1), (7, all7.v), (10, .pointer r10), (11, .pointer long11), (12, .int .i64 i12)]) (W.WP.seq (c := C43) (x := C44) (y := C45) (by kernel_rfl) <| W.WP.reg (c := C44) (fun E w => W.condK (W.Env.val E (.tmp 56)) (KE_S13 E w R) (KE_S16 E w R)) (by kernel_rfl) (Eq.mp (by kernel_rfl) h5) fun _ _ a hA hK => (W.WP.condK (c := C45) (x := C46) (y := C47) (o := .tmp 56) (by kernel_rfl) (fun hK => (W.WP.skip (c := C46) (by kernel_rfl) fun a hA => (W.WP.seq (c := C25) (x := C27) (y := C26) (by kernel_rfl) (W.WP.block (c := C27) (x := C28) (id := 1) (by kernel_rfl) (KE_S13_ok R _ _ hK))) a hA)) (fun hK => (W.WP.exit (c := C47) (id := 0) (by kernel_rfl) fun a hA => (W.WP.seq (c := C24) (x := C31) (y := C34) (by kernel_rfl) (KE_S16_ok R _ _ hK)) a hA)) hK) a hA) (ha.cons hq1 (ha.cons hq7 (ha.cons hq10 (ha.cons hq11 (ha.cons hq12 ha.nil)))))
theorem L11_step (cut1 : Int) (all7 : W.Sl) (r10 long11 : Option Addr) (i12 : Int) (w : World) (R : W.Post) (h : S12 cut1 all7 r10 long11 i12 w R) : L11 cut1 all7 r10 long11 i12 w R :=
  W.LP.step (c := C23) (E := [(1, .int .i64 cut1), (7, all7.v), (10, .pointer r10), (11, .pointer long11), (12, .int .i64 i12)]) (w := w) (W.WP.seq (c := C23) (x := C43) (y := C25) (by kernel_rfl) (KE_S12_ok R _ _ (Eq.mp (by kernel_rfl) h)))
noncomputable def C48 : Code := W.Code.fst C20
/-- law.go:174 -/
abbrev S10 (cut1 : Int) (all7 : W.Sl) (r10 long11 : Option Addr) (w : World) (R : W.Post) : Prop :=
  L11 cut1 all7 r10 long11 0 w R
def KE_S10 (E : W.Env) (w : World) (R : W.Post) : Prop := W.asInt .i64 (W.Env.get? E 1) fun cut1 => W.asSlice (W.Env.get? E 7) fun all7 => W.asPtr (W.Env.get? E 10) fun r10 => W.asPtr (W.Env.get? E 11) fun long11 => S10 cut1 all7 r10 long11 w R
theorem KE_S10_ok (R : W.Post) (E : W.Env) (w : World) (h : KE_S10 E w R) : W.WP Try.prog 98 C20 (Q2 R) E w := by
  obtain ⟨cut1, hq1, h1⟩ := W.asInt_elim h
  obtain ⟨all7, hq7, h2⟩ := W.asSlice_elim h1
  obtain ⟨r10, hq10, h3⟩ := W.asPtr_elim h2
  obtain ⟨long11, hq11, h4⟩ := W.asPtr_elim h3
  exact fun a ha => W.WP.at (E := [(1, .int .i64 cut1), (7, all7.v), (10, .pointer r10), (11, .pointer long11)]) (W.WP.seq (c := C20) (x := C48) (y := C21) (by kernel_rfl) <| W.WP.reg (c := C48) (fun E w => KE_L11 E w R) (by kernel_rfl) (Eq.mp (by kernel_rfl) h4) fun _ _ a hA hK => (W.WP.block (c := C21) (x := C22) (id := 0) (by kernel_rfl) (W.WP.loop (c := C22) (x := C23) (by kernel_rfl) (KE_L11_ok R _ _ hK))) a hA) (ha.cons hq1 (ha.cons hq7 (ha.cons hq10 (ha.cons hq11 ha.nil))))
noncomputable def C49 : Code := W.Code.fst C14
noncomputable def C50 : Code := W.Code.snd C15
/-- law.go:171 -/
abbrev S8 (cut1 : Int) (all7 : W.Sl) (r10 long11 : Option Addr) (w : World) (R : W.Post) : Prop :=
  W.sel r10.isNone (S9  w R) (W.sel long11.isNone (S9  w R) (S10 cut1 all7 r10 long11 w R))
def KE_S8 (E : W.Env) (w : World) (R : W.Post) : Prop := W.asInt .i64 (W.Env.get? E 1) fun cut1 => W.asSlice (W.Env.get? E 7) fun all7 => W.asPtr (W.Env.get? E 10) fun r10 => W.asPtr (W.Env.get? E 11) fun long11 => S8 cut1 all7 r10 long11 w R
theorem KE_S8_ok (R : W.Post) (E : W.Env) (w : World) (h : KE_S8 E w R) : W.WP Try.prog 98 C14 (Q1 R) E w := by
  obtain ⟨cut1, hq1, h1⟩ := W.asInt_elim h
  obtain ⟨all7, hq7, h2⟩ := W.asSlice_elim h1
  obtain ⟨r10, hq10, h3⟩ := W.asPtr_elim h2
  obtain ⟨long11, hq11, h4⟩ := W.asPtr_elim h3
  exact fun a ha => W.WP.at (E := [(1, .int .i64 cut1), (7, all7.v), (10, .pointer r10), (11, .pointer long11)]) (W.WP.seq (c := C14) (x := C49) (y := C15) (by kernel_rfl) <| W.WP.reg (c := C49) (fun E w => W.condK (W.Env.val E (.tmp 52)) (KE_S9 E w R) (KE_S10 E w R)) (by kernel_rfl) (Eq.mp (by kernel_rfl) h4) fun _ _ a hA hK => (W.WP.condK (c := C15) (x := C16) (y := C50) (o := .tmp 52) (by kernel_rfl) (fun hK => (KE_S9_ok R _ _ hK)) (fun hK => (W.WP.skip (c := C50) (by kernel_rfl) fun a hA => (W.WP.seq (c := C17) (x := C20) (y := C24) (by kernel_rfl) (KE_S10_ok R _ _ hK)) a hA)) hK) a hA) (ha.cons hq1 (ha.cons hq7 (ha.cons hq10 (ha.cons hq11 ha.nil))))
noncomputable def C51 : Code := W.Code.fst C12
/-- law.go:170 -/
abbrev S7 (cut1 c2 : Int) (all7 b8 : W.Sl) (r10 : Option Addr) (w : World) (R : W.Post) : Prop :=
  Calls Try.prog n_enthymemeref01_Few #[b8.v, .int .i64 ((b8.n : Nat) : Int)] w fun r_ w1 => ∃ t42 : W.Sl, r_ = .returned (t42.v) ∧ 
  let w2 := w1.alloc (.cells #[.int .u8 c2] ty_uint8)
  ∃ (t45 : W.Sl) (w3 : World), Sem.run Try.prog (Builtin.append_ #[ty_sl_uint8, ty_sl_uint8] ty_sl_uint8 #[t42.v, .slice (some (Addr.mk w1.heap.size 0 none)) 1 1]) w2 = .ok (t45.v) w3 ∧ Calls Try.prog n_wire_Read #[t45.v] w3 fun r_ w4 => ∃ t46 : Option Addr, r_ = .returned (.pointer t46) ∧ 
  S8 cut1 all7 r10 t46 w4 R
def KE_S7 (E : W.Env) (w : World) (R : W.Post) : Prop := W.asInt .i64 (W.Env.get? E 1) fun cut1 => W.asInt .u8 (W.Env.get? E 2) fun c2 => W.asSlice (W.Env.get? E 7) fun all7 => W.asSlice (W.Env.get? E 8) fun b8 => W.asPtr (W.Env.get? E 10) fun r10 => S7 cut1 c2 all7 b8 r10 w R
theorem KE_S7_ok (R : W.Post) (E : W.Env) (w : World) (h : KE_S7 E w R) : W.WP Try.prog 98 C12 (Q8 R) E w := by
  obtain ⟨cut1, hq1, h1⟩ := W.asInt_elim h
  obtain ⟨c2, hq2, h2⟩ := W.asInt_elim h1
  obtain ⟨all7, hq7, h3⟩ := W.asSlice_elim h2
  obtain ⟨b8, hq8, h4⟩ := W.asSlice_elim h3
  obtain ⟨r10, hq10, h5⟩ := W.asPtr_elim h4
  exact fun a ha => W.WP.at (E := [(1, .int .i64 cut1), (2, .int .u8 c2), (7, all7.v), (8, b8.v), (10, .pointer r10)]) (W.WP.seq (c := C12) (x := C51) (y := C13) (by kernel_rfl) <| W.WP.reg (c := C51) (fun E w => KE_S8 E w R) (by kernel_rfl) (Eq.mp (by kernel_rfl) h5) fun _ _ a hA hK => (W.WP.seq (c := C13) (x := C14) (y := C17) (by kernel_rfl) (KE_S8_ok R _ _ hK)) a hA) (ha.cons hq1 (ha.cons hq2 (ha.cons hq7 (ha.cons hq8 (ha.cons hq10 ha.nil)))))
noncomputable def C52 : Code := W.Code.fst C8
/-- law.go:169 -/
abbrev S6 (cut1 c2 : Int) (all7 b8 : W.Sl) (w : World) (R : W.Post) : Prop :=
  Calls Try.prog n_enthymemeref01_Around #[.int .i64 cut1, .int .i64 ((b8.n : Nat) : Int)] w fun r_ w1 => ∃ t36 : Int, r_ = .returned (.int .i64 t36) ∧ 
  (0 : Int) ≤ t36 ∧ t36 ≤ ((b8.c : Nat) : Int) ∧ Calls Try.prog n_wire_Read #[.slice (if b8.c = 0 then b8.a else b8.a.map (·.add (0 * 1))) ((Int.toNat t36) - 0) (b8.c - 0)] w1 fun r_ w2 => ∃ t38 : Option Addr, r_ = .returned (.pointer t38) ∧ 
  S7 cut1 c2 all7 b8 t38 w2 R
def KE_S6 (E : W.Env) (w : World) (R : W.Post) : Prop := W.asInt .i64 (W.Env.get? E 1) fun cut1 => W.asInt .u8 (W.Env.get? E 2) fun c2 => W.asSlice (W.Env.get? E 7) fun all7 => W.asSlice (W.Env.get? E 8) fun b8 => S6 cut1 c2 all7 b8 w R
theorem KE_S6_ok (R : W.Post) (E : W.Env) (w : World) (h : KE_S6 E w R) : W.WP Try.prog 98 C8 (Q8 R) E w := by
  obtain ⟨cut1, hq1, h1⟩ := W.asInt_elim h
  obtain ⟨c2, hq2, h2⟩ := W.asInt_elim h1
  obtain ⟨all7, hq7, h3⟩ := W.asSlice_elim h2
  obtain ⟨b8, hq8, h4⟩ := W.asSlice_elim h3
  exact fun a ha => W.WP.at (E := [(1, .int .i64 cut1), (2, .int .u8 c2), (7, all7.v), (8, b8.v)]) (W.WP.seq (c := C8) (x := C52) (y := C12) (by kernel_rfl) <| W.WP.reg (c := C52) (fun E w => KE_S7 E w R) (by kernel_rfl) (Eq.mp (by kernel_rfl) h4) fun _ _ a hA hK => (KE_S7_ok R _ _ hK) a hA) (ha.cons hq1 (ha.cons hq2 (ha.cons hq7 (ha.cons hq8 ha.nil))))
noncomputable def C53 : Code := W.Code.fst C4
noncomputable def C54 : Code := W.Code.snd C5
/-- law.go:165 -/
abbrev S3 (cut1 c2 : Int) (all7 b8 : W.Sl) (w : World) (R : W.Post) : Prop :=
  W.sel (((b8.n : Nat) : Int) == 0) (S4  w R) (S6 cut1 c2 all7 b8 w R)
def KE_S3 (E : W.Env) (w : World) (R : W.Post) : Prop := W.asInt .i64 (W.Env.get? E 1) fun cut1 => W.asInt .u8 (W.Env.get? E 2) fun c2 => W.asSlice (W.Env.get? E 7) fun all7 => W.asSlice (W.Env.get? E 8) fun b8 => S3 cut1 c2 all7 b8 w R
theorem KE_S3_ok (R : W.Post) (E : W.Env) (w : World) (h : KE_S3 E w R) : W.WP Try.prog 98 C4 (Q0 R) E w := by
  obtain ⟨cut1, hq1, h1⟩ := W.asInt_elim h
  obtain ⟨c2, hq2, h2⟩ := W.asInt_elim h1
  obtain ⟨all7, hq7, h3⟩ := W.asSlice_elim h2
  obtain ⟨b8, hq8, h4⟩ := W.asSlice_elim h3
  exact fun a ha => W.WP.at (E := [(1, .int .i64 cut1), (2, .int .u8 c2), (7, all7.v), (8, b8.v)]) (W.WP.seq (c := C4) (x := C53) (y := C5) (by kernel_rfl) <| W.WP.reg (c := C53) (fun E w => W.condK (W.Env.val E (.tmp 20)) (KE_S4 E w R) (KE_S6 E w R)) (by kernel_rfl) (Eq.mp (by kernel_rfl) h4) fun _ _ a hA hK => (W.WP.condK (c := C5) (x := C6) (y := C54) (o := .tmp 20) (by kernel_rfl) (fun hK => (KE_S4_ok R _ _ hK)) (fun hK => (W.WP.skip (c := C54) (by kernel_rfl) fun a hA => (KE_S6_ok R _ _ hK) a hA)) hK) a hA) (ha.cons hq1 (ha.cons hq2 (ha.cons hq7 (ha.cons hq8 ha.nil))))
noncomputable def C55 : Code := W.Code.fst C2
/-- law.go:164 -/
abbrev S2 (cut1 c2 : Int) (all7 : W.Sl) (w : World) (R : W.Post) : Prop :=
  Calls Try.prog n_enthymemelaw02_encode #[all7.v] w fun r_ w1 => ∃ t17 : W.Sl, r_ = .returned (t17.v) ∧ 
  S3 cut1 c2 all7 t17 w1 R
def KE_S2 (E : W.Env) (w : World) (R : W.Post) : Prop := W.asInt .i64 (W.Env.get? E 1) fun cut1 => W.asInt .u8 (W.Env.get? E 2) fun c2 => W.asSlice (W.Env.get? E 7) fun all7 => S2 cut1 c2 all7 w R
theorem KE_S2_ok (R : W.Post) (E : W.Env) (w : World) (h : KE_S2 E w R) : W.WP Try.prog 98 C2 (Q8 R) E w := by
  obtain ⟨cut1, hq1, h1⟩ := W.asInt_elim h
  obtain ⟨c2, hq2, h2⟩ := W.asInt_elim h1
  obtain ⟨all7, hq7, h3⟩ := W.asSlice_elim h2
  exact fun a ha => W.WP.at (E := [(1, .int .i64 cut1), (2, .int .u8 c2), (7, all7.v)]) (W.WP.seq (c := C2) (x := C55) (y := C3) (by kernel_rfl) <| W.WP.reg (c := C55) (fun E w => KE_S3 E w R) (by kernel_rfl) (Eq.mp (by kernel_rfl) h3) fun _ _ a hA hK => (W.WP.seq (c := C3) (x := C4) (y := C8) (by kernel_rfl) (KE_S3_ok R _ _ hK)) a hA) (ha.cons hq1 (ha.cons hq2 (ha.cons hq7 ha.nil)))
noncomputable def C56 : Code := W.Code.fst C1
/-- law.go:163 -/
abbrev S1 (l0 : W.Sl) (cut1 c2 : Int) (w : World) (R : W.Post) : Prop :=
  Calls Try.prog n_enthymemeref02_Vals #[l0.v] w fun r_ w1 => ∃ t15 : W.Sl, r_ = .returned (t15.v) ∧ 
  S2 cut1 c2 t15 w1 R
def KE_S1 (E : W.Env) (w : World) (R : W.Post) : Prop := W.asSlice (W.Env.get? E 0) fun l0 => W.asInt .i64 (W.Env.get? E 1) fun cut1 => W.asInt .u8 (W.Env.get? E 2) fun c2 => S1 l0 cut1 c2 w R
theorem KE_S1_ok (R : W.Post) (E : W.Env) (w : World) (h : KE_S1 E w R) : W.WP Try.prog 98 C1 (Q8 R) E w := by
  obtain ⟨l0, hq0, h1⟩ := W.asSlice_elim h
  obtain ⟨cut1, hq1, h2⟩ := W.asInt_elim h1
  obtain ⟨c2, hq2, h3⟩ := W.asInt_elim h2
  exact fun a ha => W.WP.at (E := [(0, l0.v), (1, .int .i64 cut1), (2, .int .u8 c2)]) (W.WP.seq (c := C1) (x := C56) (y := C2) (by kernel_rfl) <| W.WP.reg (c := C56) (fun E w => KE_S2 E w R) (by kernel_rfl) (Eq.mp (by kernel_rfl) h3) fun _ _ a hA hK => (KE_S2_ok R _ _ hK) a hA) (ha.cons hq0 (ha.cons hq1 (ha.cons hq2 ha.nil)))
noncomputable def C57 : Code := W.Code.fst C0
/-- law.go:162 -/
abbrev S0 (l0 : W.Sl) (cut1 c2 : Int) (w : World) (R : W.Post) : Prop :=
  S1 l0 cut1 c2 w R
def KE_S0 (E : W.Env) (w : World) (R : W.Post) : Prop := W.asSlice (W.Env.get? E 0) fun l0 => W.asInt .i64 (W.Env.get? E 1) fun cut1 => W.asInt .u8 (W.Env.get? E 2) fun c2 => S0 l0 cut1 c2 w R
theorem KE_S0_ok (R : W.Post) (E : W.Env) (w : World) (h : KE_S0 E w R) : W.WP Try.prog 98 C0 (Q8 R) E w := by
  obtain ⟨l0, hq0, h1⟩ := W.asSlice_elim h
  obtain ⟨cut1, hq1, h2⟩ := W.asInt_elim h1
  obtain ⟨c2, hq2, h3⟩ := W.asInt_elim h2
  exact fun a ha => W.WP.at (E := [(0, l0.v), (1, .int .i64 cut1), (2, .int .u8 c2)]) (W.WP.seq (c := C0) (x := C57) (y := C1) (by kernel_rfl) <| W.WP.reg (c := C57) (fun E w => KE_S1 E w R) (by kernel_rfl) (Eq.mp (by kernel_rfl) h3) fun _ _ a hA hK => (KE_S1_ok R _ _ hK) a hA) (ha.cons hq0 (ha.cons hq1 (ha.cons hq2 ha.nil)))
/-- enthymeme/enthymemelaw02.WirePrefix -/
theorem ok (l0 : W.Sl) (cut1 c2 : Int) (w : World) (R : W.Post) (h : S0 l0 cut1 c2 w R) : Calls Try.prog n_enthymemelaw02_WirePrefix #[l0.v, .int .i64 cut1, .int .u8 c2] w R :=
  W.calls_of_WP' (fn := Try.f10) (c := C0) (args := [l0.v, .int .i64 cut1, .int .u8 c2]) (by kernel_rfl) (by kernel_rfl) (by kernel_rfl) (KE_S0_ok R _ _ (Eq.mp (by kernel_rfl) h))
end enthymemelaw02_WirePrefix
end Go.Proofs.Ytjmnpdacalbpkaa

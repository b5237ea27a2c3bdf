/- Printed by a program of ours (vcgen.py) from the dump: the conditions of the functions, and that they suffice. -/
import Derived.Test.YtemagdpieebjlaaVR
set_option linter.unusedVariables false
set_option maxRecDepth 100000
namespace Go.Proofs.Ytemagdpieebjlaa
open Go
namespace enthymemelaw09_LexerJoins
noncomputable def C0 : Code := (Try.f5.body).getD .skip
noncomputable def C1 : Code := W.Code.snd C0
noncomputable def C2 : Code := W.Code.snd C1
noncomputable def C3 : Code := W.Code.snd C2
noncomputable def C4 : Code := W.Code.snd C3
noncomputable def C5 : Code := W.Code.snd C4
noncomputable def C6 : Code := W.Code.snd C5
noncomputable def C7 : Code := W.Code.fst C6
noncomputable def C8 : Code := W.Code.snd C7
noncomputable def C9 : Code := W.Code.fst C8
noncomputable def C10 : Code := W.Code.snd C6
abbrev Q0 (R : W.Post) : Exit → Act → World → Prop := (Exit.then (W.wpx Try.prog (W.cx 107) C10 (bodyPost Try.prog Try.f5 R)) (bodyPost Try.prog Try.f5 R))
noncomputable def C11 : Code := W.Code.fst C9
noncomputable def C12 : Code := W.Code.snd C9
/-- law.go:104 -/
abbrev S7  (w : World) (R : W.Post) : Prop :=
  R (.returned (.bool false)) w
def KE_S7 (E : W.Env) (w : World) (R : W.Post) : Prop := S7  w R
theorem KE_S7_ok (R : W.Post) (E : W.Env) (w : World) (h : KE_S7 E w R) : W.WP Try.prog (W.cx 107) C9 (Q0 R) E w := by
  exact fun a ha => W.WP.at (n := (W.cx 107)) (E := []) (W.WP.seq (c := C9) (x := C11) (y := C12) (by kernel_rfl) <| W.WP.reg (c := C11) (fun E w => W.retVC Try.prog Try.f5 E w (fun v => R (.returned v) w)) (by kernel_rfl) (Eq.mp (by kernel_rfl) h) fun _ _ a hA hK => (W.WP.ret (c := C12) (by kernel_rfl) fun a hA => W.retVC_sound hA hK) a hA) ha.nil
noncomputable def C13 : Code := W.Code.fst C10
noncomputable def C14 : Code := W.Code.snd C13
noncomputable def C15 : Code := W.Code.fst C14
noncomputable def C16 : Code := W.Code.fst C15
noncomputable def C17 : Code := W.Code.snd C10
abbrev Q1 (R : W.Post) : Exit → Act → World → Prop := (Exit.then (W.wpx Try.prog (W.cx 107) C17 (bodyPost Try.prog Try.f5 R)) (bodyPost Try.prog Try.f5 R))
abbrev Q2 (R : W.Post) : Exit → Act → World → Prop := (Exit.inBlock 0 (Q1 R))
/-- the head of the loop, law.go:106 -/
def L9 (one5 : ByteArray) (a7 b10 c13 : W.Sl) (i16 : Int) (w : World) (R : W.Post) : Prop := W.LP Try.prog (W.cx 107) C16 (Q2 R) [(5, .string one5), (7, a7.v), (10, b10.v), (13, c13.v), (16, .int .i64 i16)] w
def KE_L9 (E : W.Env) (w : World) (R : W.Post) : Prop := W.asStr (W.Env.get? E 5) fun one5 => W.asSlice (W.Env.get? E 7) fun a7 => W.asSlice (W.Env.get? E 10) fun b10 => W.asSlice (W.Env.get? E 13) fun c13 => W.asInt .i64 (W.Env.get? E 16) fun i16 => L9 one5 a7 b10 c13 i16 w R
theorem KE_L9_ok (R : W.Post) (E : W.Env) (w : World) (h : KE_L9 E w R) : W.LP Try.prog (W.cx 107) C16 (Q2 R) E w := by
  obtain ⟨one5, hq5, h1⟩ := W.asStr_elim h
  obtain ⟨a7, hq7, h2⟩ := W.asSlice_elim h1
  obtain ⟨b10, hq10, h3⟩ := W.asSlice_elim h2
  obtain ⟨c13, hq13, h4⟩ := W.asSlice_elim h3
  obtain ⟨i16, hq16, h5⟩ := W.asInt_elim h4
  intro a ha
  exact h5 a (ha.cons hq5 (ha.cons hq7 (ha.cons hq10 (ha.cons hq13 (ha.cons hq16 ha.nil)))))
noncomputable def C18 : Code := W.Code.snd C16
noncomputable def C19 : Code := W.Code.fst C18
noncomputable def C20 : Code := W.Code.fst C19
noncomputable def C21 : Code := W.Code.snd C20
noncomputable def C22 : Code := W.Code.snd C21
noncomputable def C23 : Code := W.Code.snd C22
noncomputable def C24 : Code := W.Code.fst C23
noncomputable def C25 : Code := W.Code.snd C18
abbrev Q3 (R : W.Post) : Exit → Act → World → Prop := (Exit.then (W.wpx Try.prog (W.cx 107) C25 (Exit.then (W.LoopWP Try.prog (W.cx 107) C16 (Q2 R)) (Q2 R))) (Exit.then (W.LoopWP Try.prog (W.cx 107) C16 (Q2 R)) (Q2 R)))
abbrev Q4 (R : W.Post) : Exit → Act → World → Prop := (Exit.inBlock 1 (Q3 R))
noncomputable def C26 : Code := W.Code.fst C24
noncomputable def C27 : Code := W.Code.snd C24
/-- law.go:115 -/
abbrev S15  (w : World) (R : W.Post) : Prop :=
  R (.returned (.bool false)) w
def KE_S15 (E : W.Env) (w : World) (R : W.Post) : Prop := S15  w R
theorem KE_S15_ok (R : W.Post) (E : W.Env) (w : World) (h : KE_S15 E w R) : W.WP Try.prog (W.cx 107) C24 (Q4 R) E w := by
  exact fun a ha => W.WP.at (n := (W.cx 107)) (E := []) (W.WP.seq (c := C24) (x := C26) (y := C27) (by kernel_rfl) <| W.WP.reg (c := C26) (fun E w => W.retVC Try.prog Try.f5 E w (fun v => R (.returned v) w)) (by kernel_rfl) (Eq.mp (by kernel_rfl) h) fun _ _ a hA hK => (W.WP.ret (c := C27) (by kernel_rfl) fun a hA => W.retVC_sound hA hK) a hA) ha.nil
abbrev Q5 (R : W.Post) : Exit → Act → World → Prop := (Exit.then (W.LoopWP Try.prog (W.cx 107) C16 (Q2 R)) (Q2 R))
/-- law.go:106 -/
abbrev S16 (one5 : ByteArray) (a7 b10 c13 : W.Sl) (i16 : Int) (w : World) (R : W.Post) : Prop :=
  L9 one5 a7 b10 c13 (IntKind.wrap .i64 (i16 + 1)) w R
def KE_S16 (E : W.Env) (w : World) (R : W.Post) : Prop := W.asStr (W.Env.get? E 5) fun one5 => W.asSlice (W.Env.get? E 7) fun a7 => W.asSlice (W.Env.get? E 10) fun b10 => W.asSlice (W.Env.get? E 13) fun c13 => W.asInt .i64 (W.Env.get? E 16) fun i16 => S16 one5 a7 b10 c13 i16 w R
theorem KE_S16_ok (R : W.Post) (E : W.Env) (w : World) (h : KE_S16 E w R) : W.WP Try.prog (W.cx 107) C25 (Q5 R) E w := by
  obtain ⟨one5, hq5, h1⟩ := W.asStr_elim h
  obtain ⟨a7, hq7, h2⟩ := W.asSlice_elim h1
  obtain ⟨b10, hq10, h3⟩ := W.asSlice_elim h2
  obtain ⟨c13, hq13, h4⟩ := W.asSlice_elim h3
  obtain ⟨i16, hq16, h5⟩ := W.asInt_elim h4
  exact fun a ha => W.WP.at (n := (W.cx 107)) (E := [(5, .string one5), (7, a7.v), (10, b10.v), (13, c13.v), (16, .int .i64 i16)]) (W.WP.reg (c := C25) (fun E w => KE_L9 E w R) (by kernel_rfl) (Eq.mp (by kernel_rfl) h5) fun _ _ a hA hK => KE_L9_ok R _ _ hK a hA) (ha.cons hq5 (ha.cons hq7 (ha.cons hq10 (ha.cons hq13 (ha.cons hq16 ha.nil)))))
noncomputable def C28 : Code := W.Code.fst C22
noncomputable def C29 : Code := W.Code.snd C23
/-- law.go:114 -/
abbrev S14 (one5 : ByteArray) (a7 b10 c13 : W.Sl) (i16 : Int) (want17 : Addr) (w : World) (R : W.Post) : Prop :=
  W.drV w fun w1 => (0 : Int) ≤ i16 ∧ i16 < ((c13.n : Nat) : Int) ∧ W.optP c13.a fun t102_p => ∃ t103_0 : Int, ∃ t103_1 : ByteArray, ∃ t103_2 : Int, w1.cell? ((t102_p.add (Int.toNat i16 * 3)).add 0) = some (.int .i64 t103_0) ∧ w1.cell? ((t102_p.add (Int.toNat i16 * 3)).add 1) = some (.string t103_1) ∧ w1.cell? ((t102_p.add (Int.toNat i16 * 3)).add 2) = some (.int .i64 t103_2) ∧ 
  ∃ t104_0 : Int, ∃ t104_1 : ByteArray, ∃ t104_2 : Int, w1.cell? (want17.add 0) = some (.int .i64 t104_0) ∧ w1.cell? (want17.add 1) = some (.string t104_1) ∧ w1.cell? (want17.add 2) = some (.int .i64 t104_2) ∧ 
  W.sel (!((t103_0 == t104_0) && ((t103_1.toList == t104_1.toList) && ((t103_2 == t104_2) && true)))) (S15  w1 R) (S16 one5 a7 b10 c13 i16 w1 R)
def KE_S14 (E : W.Env) (w : World) (R : W.Post) : Prop := W.asStr (W.Env.get? E 5) fun one5 => W.asSlice (W.Env.get? E 7) fun a7 => W.asSlice (W.Env.get? E 10) fun b10 => W.asSlice (W.Env.get? E 13) fun c13 => W.asInt .i64 (W.Env.get? E 16) fun i16 => W.asRef (W.Env.get? E 17) fun want17 => S14 one5 a7 b10 c13 i16 want17 w R
theorem KE_S14_ok (R : W.Post) (E : W.Env) (w : World) (h : KE_S14 E w R) : W.WP Try.prog (W.cx 107) C22 (Q4 R) E w := by
  obtain ⟨one5, hq5, h1⟩ := W.asStr_elim h
  obtain ⟨a7, hq7, h2⟩ := W.asSlice_elim h1
  obtain ⟨b10, hq10, h3⟩ := W.asSlice_elim h2
  obtain ⟨c13, hq13, h4⟩ := W.asSlice_elim h3
  obtain ⟨i16, hq16, h5⟩ := W.asInt_elim h4
  obtain ⟨want17, hq17, h6⟩ := W.asRef_elim h5
  exact fun a ha => W.WP.at (n := (W.cx 107)) (E := [(5, .string one5), (7, a7.v), (10, b10.v), (13, c13.v), (16, .int .i64 i16), (17, .pointer (some want17))]) (W.WP.seq (c := C22) (x := C28) (y := C23) (by kernel_rfl) <| W.WP.draw (c := C28) [0, 1, 2, 3, 4, 5] (fun E w => W.condK (W.Env.val E (.tmp 105)) (KE_S15 E w R) (KE_S16 E w R)) (by kernel_rfl) (Eq.mp (by kernel_rfl) h6) fun _ _ a hA hK => (W.WP.condK (c := C23) (x := C24) (y := C29) (o := .tmp 105) (by kernel_rfl) (fun hK => (KE_S15_ok R _ _ hK)) (fun hK => (W.WP.skip (c := C29) (by kernel_rfl) fun a hA => (KE_S16_ok R _ _ hK) a hA)) hK) a hA) (ha.cons hq5 (ha.cons hq7 (ha.cons hq10 (ha.cons hq13 (ha.cons hq16 (ha.cons hq17 ha.nil))))))
noncomputable def C30 : Code := W.Code.fst C21
noncomputable def C31 : Code := W.Code.snd C30
noncomputable def C32 : Code := W.Code.fst C31
abbrev Q6 (R : W.Post) : Exit → Act → World → Prop := (Exit.then (W.wpx Try.prog (W.cx 107) C22 (Exit.inBlock 1 (Q3 R))) (Exit.inBlock 1 (Q3 R)))
/-- law.go:109 -/
abbrev S13 (one5 : ByteArray) (a7 b10 c13 : W.Sl) (i16 : Int) (want17 : Addr) (w : World) (R : W.Post) : Prop :=
  (0 : Int) ≤ i16 ∧ i16 < ((a7.n : Nat) : Int) ∧ W.optP a7.a fun t83_p => ∃ t84_0 : Int, ∃ t84_1 : ByteArray, ∃ t84_2 : Int, w.cell? ((t83_p.add (Int.toNat i16 * 3)).add 0) = some (.int .i64 t84_0) ∧ w.cell? ((t83_p.add (Int.toNat i16 * 3)).add 1) = some (.string t84_1) ∧ w.cell? ((t83_p.add (Int.toNat i16 * 3)).add 2) = some (.int .i64 t84_2) ∧ 
  W.stV w want17 (.int .i64 t84_0) fun w1 => 
  W.stV w1 (want17.add 1) (.string t84_1) fun w2 => 
  W.stV w2 (want17.add 2) (.int .i64 t84_2) fun w3 => 
  S14 one5 a7 b10 c13 i16 want17 w3 R
def KE_S13 (E : W.Env) (w : World) (R : W.Post) : Prop := W.asStr (W.Env.get? E 5) fun one5 => W.asSlice (W.Env.get? E 7) fun a7 => W.asSlice (W.Env.get? E 10) fun b10 => W.asSlice (W.Env.get? E 13) fun c13 => W.asInt .i64 (W.Env.get? E 16) fun i16 => W.asRef (W.Env.get? E 17) fun want17 => S13 one5 a7 b10 c13 i16 want17 w R
theorem KE_S13_ok (R : W.Post) (E : W.Env) (w : World) (h : KE_S13 E w R) : W.WP Try.prog (W.cx 107) C32 (Q6 R) E w := by
  obtain ⟨one5, hq5, h1⟩ := W.asStr_elim h
  obtain ⟨a7, hq7, h2⟩ := W.asSlice_elim h1
  obtain ⟨b10, hq10, h3⟩ := W.asSlice_elim h2
  obtain ⟨c13, hq13, h4⟩ := W.asSlice_elim h3
  obtain ⟨i16, hq16, h5⟩ := W.asInt_elim h4
  obtain ⟨want17, hq17, h6⟩ := W.asRef_elim h5
  exact fun a ha => W.WP.at (n := (W.cx 107)) (E := [(5, .string one5), (7, a7.v), (10, b10.v), (13, c13.v), (16, .int .i64 i16), (17, .pointer (some want17))]) (W.WP.reg (c := C32) (fun E w => KE_S14 E w R) (by kernel_rfl) (Eq.mp (by kernel_rfl) h6) fun _ _ a hA hK => (KE_S14_ok R _ _ hK) a hA) (ha.cons hq5 (ha.cons hq7 (ha.cons hq10 (ha.cons hq13 (ha.cons hq16 (ha.cons hq17 ha.nil))))))
noncomputable def C33 : Code := W.Code.snd C31
noncomputable def C34 : Code := W.Code.snd C33
/-- law.go:112 -/
abbrev S18 (one5 : ByteArray) (a7 b10 c13 : W.Sl) (i16 : Int) (want17 : Addr) (w : World) (R : W.Post) : Prop :=
  ∃ t94 : Int, w.cell? (want17.add 2) = some (.int .i64 t94) ∧ 
  W.stV w (want17.add 2) (.int .i64 (IntKind.wrap .i64 ((IntKind.wrap .i64 (t94 + ((one5.size : Nat) : Int))) + 1))) fun w1 => 
  S14 one5 a7 b10 c13 i16 want17 w1 R
def KE_S18 (E : W.Env) (w : World) (R : W.Post) : Prop := W.asStr (W.Env.get? E 5) fun one5 => W.asSlice (W.Env.get? E 7) fun a7 => W.asSlice (W.Env.get? E 10) fun b10 => W.asSlice (W.Env.get? E 13) fun c13 => W.asInt .i64 (W.Env.get? E 16) fun i16 => W.asRef (W.Env.get? E 17) fun want17 => S18 one5 a7 b10 c13 i16 want17 w R
theorem KE_S18_ok (R : W.Post) (E : W.Env) (w : World) (h : KE_S18 E w R) : W.WP Try.prog (W.cx 107) C34 (Q6 R) E w := by
  obtain ⟨one5, hq5, h1⟩ := W.asStr_elim h
  obtain ⟨a7, hq7, h2⟩ := W.asSlice_elim h1
  obtain ⟨b10, hq10, h3⟩ := W.asSlice_elim h2
  obtain ⟨c13, hq13, h4⟩ := W.asSlice_elim h3
  obtain ⟨i16, hq16, h5⟩ := W.asInt_elim h4
  obtain ⟨want17, hq17, h6⟩ := W.asRef_elim h5
  exact fun a ha => W.WP.at (n := (W.cx 107)) (E := [(5, .string one5), (7, a7.v), (10, b10.v), (13, c13.v), (16, .int .i64 i16), (17, .pointer (some want17))]) (W.WP.reg (c := C34) (fun E w => KE_S14 E w R) (by kernel_rfl) (Eq.mp (by kernel_rfl) h6) fun _ _ a hA hK => (KE_S14_ok R _ _ hK) a hA) (ha.cons hq5 (ha.cons hq7 (ha.cons hq10 (ha.cons hq13 (ha.cons hq16 (ha.cons hq17 ha.nil))))))
noncomputable def C35 : Code := W.Code.fst C33
/-- law.go:111 -/
abbrev S17 (one5 : ByteArray) (a7 b10 c13 : W.Sl) (i16 : Int) (want17 : Addr) (w : World) (R : W.Post) : Prop :=
  (0 : Int) ≤ (IntKind.wrap .i64 ((IntKind.wrap .i64 (i16 - ((a7.n : Nat) : Int))) + 1)) ∧ (IntKind.wrap .i64 ((IntKind.wrap .i64 (i16 - ((a7.n : Nat) : Int))) + 1)) < ((b10.n : Nat) : Int) ∧ W.optP b10.a fun t91_p => ∃ t92_0 : Int, ∃ t92_1 : ByteArray, ∃ t92_2 : Int, w.cell? ((t91_p.add (Int.toNat (IntKind.wrap .i64 ((IntKind.wrap .i64 (i16 - ((a7.n : Nat) : Int))) + 1)) * 3)).add 0) = some (.int .i64 t92_0) ∧ w.cell? ((t91_p.add (Int.toNat (IntKind.wrap .i64 ((IntKind.wrap .i64 (i16 - ((a7.n : Nat) : Int))) + 1)) * 3)).add 1) = some (.string t92_1) ∧ w.cell? ((t91_p.add (Int.toNat (IntKind.wrap .i64 ((IntKind.wrap .i64 (i16 - ((a7.n : Nat) : Int))) + 1)) * 3)).add 2) = some (.int .i64 t92_2) ∧ 
  W.stV w want17 (.int .i64 t92_0) fun w1 => 
  W.stV w1 (want17.add 1) (.string t92_1) fun w2 => 
  W.stV w2 (want17.add 2) (.int .i64 t92_2) fun w3 => 
  S18 one5 a7 b10 c13 i16 want17 w3 R
def KE_S17 (E : W.Env) (w : World) (R : W.Post) : Prop := W.asStr (W.Env.get? E 5) fun one5 => W.asSlice (W.Env.get? E 7) fun a7 => W.asSlice (W.Env.get? E 10) fun b10 => W.asSlice (W.Env.get? E 13) fun c13 => W.asInt .i64 (W.Env.get? E 16) fun i16 => W.asRef (W.Env.get? E 17) fun want17 => S17 one5 a7 b10 c13 i16 want17 w R
theorem KE_S17_ok (R : W.Post) (E : W.Env) (w : World) (h : KE_S17 E w R) : W.WP Try.prog (W.cx 107) C33 (Q6 R) E w := by
  obtain ⟨one5, hq5, h1⟩ := W.asStr_elim h
  obtain ⟨a7, hq7, h2⟩ := W.asSlice_elim h1
  obtain ⟨b10, hq10, h3⟩ := W.asSlice_elim h2
  obtain ⟨c13, hq13, h4⟩ := W.asSlice_elim h3
  obtain ⟨i16, hq16, h5⟩ := W.asInt_elim h4
  obtain ⟨want17, hq17, h6⟩ := W.asRef_elim h5
  exact fun a ha => W.WP.at (n := (W.cx 107)) (E := [(5, .string one5), (7, a7.v), (10, b10.v), (13, c13.v), (16, .int .i64 i16), (17, .pointer (some want17))]) (W.WP.seq (c := C33) (x := C35) (y := C34) (by kernel_rfl) <| W.WP.reg (c := C35) (fun E w => KE_S18 E w R) (by kernel_rfl) (Eq.mp (by kernel_rfl) h6) fun _ _ a hA hK => (KE_S18_ok R _ _ hK) a hA) (ha.cons hq5 (ha.cons hq7 (ha.cons hq10 (ha.cons hq13 (ha.cons hq16 (ha.cons hq17 ha.nil))))))
noncomputable def C36 : Code := W.Code.fst C30
/-- law.go:108 -/
abbrev S12 (one5 : ByteArray) (a7 b10 c13 : W.Sl) (i16 : Int) (want17 : Addr) (w : World) (R : W.Post) : Prop :=
  W.sel (decide (i16 < (IntKind.wrap .i64 (((a7.n : Nat) : Int) - 1)))) (S13 one5 a7 b10 c13 i16 want17 w R) (S17 one5 a7 b10 c13 i16 want17 w R)
def KE_S12 (E : W.Env) (w : World) (R : W.Post) : Prop := W.asStr (W.Env.get? E 5) fun one5 => W.asSlice (W.Env.get? E 7) fun a7 => W.asSlice (W.Env.get? E 10) fun b10 => W.asSlice (W.Env.get? E 13) fun c13 => W.asInt .i64 (W.Env.get? E 16) fun i16 => W.asRef (W.Env.get? E 17) fun want17 => S12 one5 a7 b10 c13 i16 want17 w R
theorem KE_S12_ok (R : W.Post) (E : W.Env) (w : World) (h : KE_S12 E w R) : W.WP Try.prog (W.cx 107) C30 (Q6 R) E w := by
  obtain ⟨one5, hq5, h1⟩ := W.asStr_elim h
  obtain ⟨a7, hq7, h2⟩ := W.asSlice_elim h1
  obtain ⟨b10, hq10, h3⟩ := W.asSlice_elim h2
  obtain ⟨c13, hq13, h4⟩ := W.asSlice_elim h3
  obtain ⟨i16, hq16, h5⟩ := W.asInt_elim h4
  obtain ⟨want17, hq17, h6⟩ := W.asRef_elim h5
  exact fun a ha => W.WP.at (n := (W.cx 107)) (E := [(5, .string one5), (7, a7.v), (10, b10.v), (13, c13.v), (16, .int .i64 i16), (17, .pointer (some want17))]) (W.WP.seq (c := C30) (x := C36) (y := C31) (by kernel_rfl) <| W.WP.reg (c := C36) (fun E w => W.condK (W.Env.val E (.tmp 80)) (KE_S13 E w R) (KE_S17 E w R)) (by kernel_rfl) (Eq.mp (by kernel_rfl) h6) fun _ _ a hA hK => (W.WP.condK (c := C31) (x := C32) (y := C33) (o := .tmp 80) (by kernel_rfl) (fun hK => (KE_S13_ok R _ _ hK)) (fun hK => (KE_S17_ok R _ _ hK)) hK) a hA) (ha.cons hq5 (ha.cons hq7 (ha.cons hq10 (ha.cons hq13 (ha.cons hq16 (ha.cons hq17 ha.nil))))))
noncomputable def C37 : Code := W.Code.fst C20
/-- law.go:107 -/
abbrev S11 (one5 : ByteArray) (a7 b10 c13 : W.Sl) (i16 : Int) (w : World) (R : W.Post) : Prop :=
  W.nwV w (.cells #[.int .i64 0, .string (ByteArray.mk #[]), .int .i64 0] ty_lexer_Token) fun w1 => 
  W.stV w1 (Addr.mk w.heap.size 0 none) (.int .i64 0) fun w2 => 
  W.stV w2 ((Addr.mk w.heap.size 0 none).add 1) (.string (ByteArray.mk #[])) fun w3 => 
  W.stV w3 ((Addr.mk w.heap.size 0 none).add 2) (.int .i64 0) fun w4 => 
  S12 one5 a7 b10 c13 i16 (Addr.mk w.heap.size 0 none) w4 R
def KE_S11 (E : W.Env) (w : World) (R : W.Post) : Prop := W.asStr (W.Env.get? E 5) fun one5 => W.asSlice (W.Env.get? E 7) fun a7 => W.asSlice (W.Env.get? E 10) fun b10 => W.asSlice (W.Env.get? E 13) fun c13 => W.asInt .i64 (W.Env.get? E 16) fun i16 => S11 one5 a7 b10 c13 i16 w R
theorem KE_S11_ok (R : W.Post) (E : W.Env) (w : World) (h : KE_S11 E w R) : W.WP Try.prog (W.cx 107) C20 (Q4 R) E w := by
  obtain ⟨one5, hq5, h1⟩ := W.asStr_elim h
  obtain ⟨a7, hq7, h2⟩ := W.asSlice_elim h1
  obtain ⟨b10, hq10, h3⟩ := W.asSlice_elim h2
  obtain ⟨c13, hq13, h4⟩ := W.asSlice_elim h3
  obtain ⟨i16, hq16, h5⟩ := W.asInt_elim h4
  exact fun a ha => W.WP.at (n := (W.cx 107)) (E := [(5, .string one5), (7, a7.v), (10, b10.v), (13, c13.v), (16, .int .i64 i16)]) (W.WP.seq (c := C20) (x := C37) (y := C21) (by kernel_rfl) <| W.WP.reg (c := C37) (fun E w => KE_S12 E w R) (by kernel_rfl) (Eq.mp (by kernel_rfl) h5) fun _ _ a hA hK => (W.WP.seq (c := C21) (x := C30) (y := C22) (by kernel_rfl) (KE_S12_ok R _ _ hK)) a hA) (ha.cons hq5 (ha.cons hq7 (ha.cons hq10 (ha.cons hq13 (ha.cons hq16 ha.nil)))))
abbrev Q7 (R : W.Post) : Exit → Act → World → Prop := (bodyPost Try.prog Try.f5 R)
noncomputable def C38 : Code := W.Code.fst C17
noncomputable def C39 : Code := W.Code.snd C17
/-- law.go:118 -/
abbrev S19  (w : World) (R : W.Post) : Prop :=
  Calls Try.prog n_enthymemelaw09_lives #[] w fun r_ w1 => ∃ t106 : Bool, r_ = .returned (.bool t106) ∧ 
  R (.returned (.bool t106)) w1
def KE_S19 (E : W.Env) (w : World) (R : W.Post) : Prop := S19  w R
theorem KE_S19_ok (R : W.Post) (E : W.Env) (w : World) (h : KE_S19 E w R) : W.WP Try.prog (W.cx 107) C17 (Q7 R) E w := by
  exact fun a ha => W.WP.at (n := (W.cx 107)) (E := []) (W.WP.seq (c := C17) (x := C38) (y := C39) (by kernel_rfl) <| W.WP.reg (c := C38) (fun E w => W.retVC Try.prog Try.f5 E w (fun v => R (.returned v) w)) (by kernel_rfl) (Eq.mp (by kernel_rfl) h) fun _ _ a hA hK => (W.WP.ret (c := C39) (by kernel_rfl) fun a hA => W.retVC_sound hA hK) a hA) ha.nil
noncomputable def C40 : Code := W.Code.fst C16
abbrev Q8 (R : W.Post) : Exit → Act → World → Prop := (Exit.then (W.wpx Try.prog (W.cx 107) C18 (Exit.then (W.LoopWP Try.prog (W.cx 107) C16 (Q2 R)) (Q2 R))) (Exit.then (W.LoopWP Try.prog (W.cx 107) C16 (Q2 R)) (Q2 R)))
noncomputable def C41 : Code := W.Code.fst C40
noncomputable def C42 : Code := W.Code.snd C40
noncomputable def C43 : Code := W.Code.fst C42
noncomputable def C44 : Code := W.Code.snd C42
/-- law.go:106 -/
abbrev S10 (one5 : ByteArray) (a7 b10 c13 : W.Sl) (i16 : Int) (w : World) (R : W.Post) : Prop :=
  W.sel (decide (i16 < ((c13.n : Nat) : Int))) (S11 one5 a7 b10 c13 i16 w R) (S19  w R)
def KE_S10 (E : W.Env) (w : World) (R : W.Post) : Prop := W.asStr (W.Env.get? E 5) fun one5 => W.asSlice (W.Env.get? E 7) fun a7 => W.asSlice (W.Env.get? E 10) fun b10 => W.asSlice (W.Env.get? E 13) fun c13 => W.asInt .i64 (W.Env.get? E 16) fun i16 => S10 one5 a7 b10 c13 i16 w R
theorem KE_S10_ok (R : W.Post) (E : W.Env) (w : World) (h : KE_S10 E w R) : W.WP Try.prog (W.cx 107) C40 (Q8 R) E w := by
  obtain ⟨one5, hq5, h1⟩ := W.asStr_elim h
  obtain ⟨a7, hq7, h2⟩ := W.asSlice_elim h1
  obtain ⟨b10, hq10, h3⟩ := W.asSlice_elim h2
  obtain ⟨c13, hq13, h4⟩ := W.asSlice_elim h3
  obtain ⟨i16, hq16, h5⟩ := W.asInt_elim h4
  exact fun a ha => W.WP.at (n := (W.cx 107)) (E := [(5, .string one5), (7, a7.v), (10, b10.v), (13, c13.v), (16, .int .i64 i16)]) (W.WP.seq (c := C40) (x := C41) (y := C42) (by kernel_rfl) <| W.WP.reg (c := C41) (fun E w => W.condK (W.Env.val E (.tmp 72)) (KE_S11 E w R) (KE_S19 E w R)) (by kernel_rfl) (Eq.mp (by kernel_rfl) h5) fun _ _ a hA hK => (W.WP.condK (c := C42) (x := C43) (y := C44) (o := .tmp 72) (by kernel_rfl) (fun hK => (W.WP.skip (c := C43) (by kernel_rfl) fun a hA => (W.WP.seq (c := C18) (x := C19) (y := C25) (by kernel_rfl) (W.WP.block (c := C19) (x := C20) (id := 1) (by kernel_rfl) (KE_S11_ok R _ _ hK))) a hA)) (fun hK => (W.WP.exit (c := C44) (id := 0) (by kernel_rfl) fun a hA => (KE_S19_ok R _ _ hK) a hA)) hK) a hA) (ha.cons hq5 (ha.cons hq7 (ha.cons hq10 (ha.cons hq13 (ha.cons hq16 ha.nil)))))
theorem L9_step (one5 : ByteArray) (a7 b10 c13 : W.Sl) (i16 : Int) (w : World) (R : W.Post) (h : S10 one5 a7 b10 c13 i16 w R) : L9 one5 a7 b10 c13 i16 w R :=
  W.LP.step (n := (W.cx 107)) (c := C16) (E := [(5, .string one5), (7, a7.v), (10, b10.v), (13, c13.v), (16, .int .i64 i16)]) (w := w) (W.WP.seq (c := C16) (x := C40) (y := C18) (by kernel_rfl) (KE_S10_ok R _ _ (Eq.mp (by kernel_rfl) h)))
noncomputable def C45 : Code := W.Code.fst C13
/-- law.go:106 -/
abbrev S8 (one5 : ByteArray) (a7 b10 c13 : W.Sl) (w : World) (R : W.Post) : Prop :=
  L9 one5 a7 b10 c13 0 w R
def KE_S8 (E : W.Env) (w : World) (R : W.Post) : Prop := W.asStr (W.Env.get? E 5) fun one5 => W.asSlice (W.Env.get? E 7) fun a7 => W.asSlice (W.Env.get? E 10) fun b10 => W.asSlice (W.Env.get? E 13) fun c13 => S8 one5 a7 b10 c13 w R
theorem KE_S8_ok (R : W.Post) (E : W.Env) (w : World) (h : KE_S8 E w R) : W.WP Try.prog (W.cx 107) C13 (Q1 R) E w := by
  obtain ⟨one5, hq5, h1⟩ := W.asStr_elim h
  obtain ⟨a7, hq7, h2⟩ := W.asSlice_elim h1
  obtain ⟨b10, hq10, h3⟩ := W.asSlice_elim h2
  obtain ⟨c13, hq13, h4⟩ := W.asSlice_elim h3
  exact fun a ha => W.WP.at (n := (W.cx 107)) (E := [(5, .string one5), (7, a7.v), (10, b10.v), (13, c13.v)]) (W.WP.seq (c := C13) (x := C45) (y := C14) (by kernel_rfl) <| W.WP.reg (c := C45) (fun E w => KE_L9 E w R) (by kernel_rfl) (Eq.mp (by kernel_rfl) h4) fun _ _ a hA hK => (W.WP.block (c := C14) (x := C15) (id := 0) (by kernel_rfl) (W.WP.loop (c := C15) (x := C16) (by kernel_rfl) (KE_L9_ok R _ _ hK))) a hA) (ha.cons hq5 (ha.cons hq7 (ha.cons hq10 (ha.cons hq13 ha.nil))))
noncomputable def C46 : Code := W.Code.fst C7
noncomputable def C47 : Code := W.Code.snd C8
/-- law.go:103 -/
abbrev S6 (one5 : ByteArray) (a7 : W.Sl) (e9 : Int) (b10 : W.Sl) (f12 : Int) (c13 : W.Sl) (g15 : Int) (w : World) (R : W.Post) : Prop :=
  W.sel (e9 != 0) (S7  w R) (W.sel (f12 != 0) (S7  w R) (W.sel (g15 != 0) (S7  w R) (W.sel (decide (((a7.n : Nat) : Int) < 1)) (S7  w R) (W.sel (((c13.n : Nat) : Int) != (IntKind.wrap .i64 ((IntKind.wrap .i64 (((a7.n : Nat) : Int) + ((b10.n : Nat) : Int))) - 1))) (S7  w R) (S8 one5 a7 b10 c13 w R)))))
def KE_S6 (E : W.Env) (w : World) (R : W.Post) : Prop := W.asStr (W.Env.get? E 5) fun one5 => W.asSlice (W.Env.get? E 7) fun a7 => W.asInt .i64 (W.Env.get? E 9) fun e9 => W.asSlice (W.Env.get? E 10) fun b10 => W.asInt .i64 (W.Env.get? E 12) fun f12 => W.asSlice (W.Env.get? E 13) fun c13 => W.asInt .i64 (W.Env.get? E 15) fun g15 => S6 one5 a7 e9 b10 f12 c13 g15 w R
theorem KE_S6_ok (R : W.Post) (E : W.Env) (w : World) (h : KE_S6 E w R) : W.WP Try.prog (W.cx 107) C7 (Q0 R) E w := by
  obtain ⟨one5, hq5, h1⟩ := W.asStr_elim h
  obtain ⟨a7, hq7, h2⟩ := W.asSlice_elim h1
  obtain ⟨e9, hq9, h3⟩ := W.asInt_elim h2
  obtain ⟨b10, hq10, h4⟩ := W.asSlice_elim h3
  obtain ⟨f12, hq12, h5⟩ := W.asInt_elim h4
  obtain ⟨c13, hq13, h6⟩ := W.asSlice_elim h5
  obtain ⟨g15, hq15, h7⟩ := W.asInt_elim h6
  exact fun a ha => W.WP.at (n := (W.cx 107)) (E := [(5, .string one5), (7, a7.v), (9, .int .i64 e9), (10, b10.v), (12, .int .i64 f12), (13, c13.v), (15, .int .i64 g15)]) (W.WP.seq (c := C7) (x := C46) (y := C8) (by kernel_rfl) <| W.WP.reg (c := C46) (fun E w => W.condK (W.Env.val E (.tmp 68)) (KE_S7 E w R) (KE_S8 E w R)) (by kernel_rfl) (Eq.mp (by kernel_rfl) h7) fun _ _ a hA hK => (W.WP.condK (c := C8) (x := C9) (y := C47) (o := .tmp 68) (by kernel_rfl) (fun hK => (KE_S7_ok R _ _ hK)) (fun hK => (W.WP.skip (c := C47) (by kernel_rfl) fun a hA => (W.WP.seq (c := C10) (x := C13) (y := C17) (by kernel_rfl) (KE_S8_ok R _ _ hK)) a hA)) hK) a hA) (ha.cons hq5 (ha.cons hq7 (ha.cons hq9 (ha.cons hq10 (ha.cons hq12 (ha.cons hq13 (ha.cons hq15 ha.nil)))))))
noncomputable def C48 : Code := W.Code.fst C5
/-- law.go:102 -/
abbrev S5 (one5 two6 : ByteArray) (a7 : W.Sl) (e9 : Int) (b10 : W.Sl) (f12 : Int) (w : World) (R : W.Post) : Prop :=
  ¬ (((one5.size + (ByteArray.mk #[10]).size : Nat) : Int) > IntKind.i64.max) ∧ ¬ ((((one5 ++ (ByteArray.mk #[10])).size + two6.size : Nat) : Int) > IntKind.i64.max) ∧ Calls Try.prog n_lexer_Tokens #[.string ((one5 ++ (ByteArray.mk #[10])) ++ two6)] w fun r_ w1 => ∃ t39_0 : W.Sl, ∃ t39_1 : Int, ∃ t39_2 : Int, r_ = .returned (.tuple #[t39_0.v, .int .i64 t39_1, .int .i64 t39_2]) ∧ 
  S6 one5 a7 e9 b10 f12 t39_0 t39_2 w1 R
def KE_S5 (E : W.Env) (w : World) (R : W.Post) : Prop := W.asStr (W.Env.get? E 5) fun one5 => W.asStr (W.Env.get? E 6) fun two6 => W.asSlice (W.Env.get? E 7) fun a7 => W.asInt .i64 (W.Env.get? E 9) fun e9 => W.asSlice (W.Env.get? E 10) fun b10 => W.asInt .i64 (W.Env.get? E 12) fun f12 => S5 one5 two6 a7 e9 b10 f12 w R
theorem KE_S5_ok (R : W.Post) (E : W.Env) (w : World) (h : KE_S5 E w R) : W.WP Try.prog (W.cx 107) C5 (Q7 R) E w := by
  obtain ⟨one5, hq5, h1⟩ := W.asStr_elim h
  obtain ⟨two6, hq6, h2⟩ := W.asStr_elim h1
  obtain ⟨a7, hq7, h3⟩ := W.asSlice_elim h2
  obtain ⟨e9, hq9, h4⟩ := W.asInt_elim h3
  obtain ⟨b10, hq10, h5⟩ := W.asSlice_elim h4
  obtain ⟨f12, hq12, h6⟩ := W.asInt_elim h5
  exact fun a ha => W.WP.at (n := (W.cx 107)) (E := [(5, .string one5), (6, .string two6), (7, a7.v), (9, .int .i64 e9), (10, b10.v), (12, .int .i64 f12)]) (W.WP.seq (c := C5) (x := C48) (y := C6) (by kernel_rfl) <| W.WP.reg (c := C48) (fun E w => KE_S6 E w R) (by kernel_rfl) (Eq.mp (by kernel_rfl) h6) fun _ _ a hA hK => (W.WP.seq (c := C6) (x := C7) (y := C10) (by kernel_rfl) (KE_S6_ok R _ _ hK)) a hA) (ha.cons hq5 (ha.cons hq6 (ha.cons hq7 (ha.cons hq9 (ha.cons hq10 (ha.cons hq12 ha.nil))))))
noncomputable def C49 : Code := W.Code.fst C4
/-- law.go:101 -/
abbrev S4 (one5 two6 : ByteArray) (a7 : W.Sl) (e9 : Int) (w : World) (R : W.Post) : Prop :=
  Calls Try.prog n_lexer_Tokens #[.string two6] w fun r_ w1 => ∃ t30_0 : W.Sl, ∃ t30_1 : Int, ∃ t30_2 : Int, r_ = .returned (.tuple #[t30_0.v, .int .i64 t30_1, .int .i64 t30_2]) ∧ 
  S5 one5 two6 a7 e9 t30_0 t30_2 w1 R
def KE_S4 (E : W.Env) (w : World) (R : W.Post) : Prop := W.asStr (W.Env.get? E 5) fun one5 => W.asStr (W.Env.get? E 6) fun two6 => W.asSlice (W.Env.get? E 7) fun a7 => W.asInt .i64 (W.Env.get? E 9) fun e9 => S4 one5 two6 a7 e9 w R
theorem KE_S4_ok (R : W.Post) (E : W.Env) (w : World) (h : KE_S4 E w R) : W.WP Try.prog (W.cx 107) C4 (Q7 R) E w := by
  obtain ⟨one5, hq5, h1⟩ := W.asStr_elim h
  obtain ⟨two6, hq6, h2⟩ := W.asStr_elim h1
  obtain ⟨a7, hq7, h3⟩ := W.asSlice_elim h2
  obtain ⟨e9, hq9, h4⟩ := W.asInt_elim h3
  exact fun a ha => W.WP.at (n := (W.cx 107)) (E := [(5, .string one5), (6, .string two6), (7, a7.v), (9, .int .i64 e9)]) (W.WP.seq (c := C4) (x := C49) (y := C5) (by kernel_rfl) <| W.WP.reg (c := C49) (fun E w => KE_S5 E w R) (by kernel_rfl) (Eq.mp (by kernel_rfl) h4) fun _ _ a hA hK => (KE_S5_ok R _ _ hK) a hA) (ha.cons hq5 (ha.cons hq6 (ha.cons hq7 (ha.cons hq9 ha.nil))))
noncomputable def C50 : Code := W.Code.fst C3
/-- law.go:100 -/
abbrev S3 (one5 two6 : ByteArray) (w : World) (R : W.Post) : Prop :=
  Calls Try.prog n_lexer_Tokens #[.string one5] w fun r_ w1 => ∃ t24_0 : W.Sl, ∃ t24_1 : Int, ∃ t24_2 : Int, r_ = .returned (.tuple #[t24_0.v, .int .i64 t24_1, .int .i64 t24_2]) ∧ 
  S4 one5 two6 t24_0 t24_2 w1 R
def KE_S3 (E : W.Env) (w : World) (R : W.Post) : Prop := W.asStr (W.Env.get? E 5) fun one5 => W.asStr (W.Env.get? E 6) fun two6 => S3 one5 two6 w R
theorem KE_S3_ok (R : W.Post) (E : W.Env) (w : World) (h : KE_S3 E w R) : W.WP Try.prog (W.cx 107) C3 (Q7 R) E w := by
  obtain ⟨one5, hq5, h1⟩ := W.asStr_elim h
  obtain ⟨two6, hq6, h2⟩ := W.asStr_elim h1
  exact fun a ha => W.WP.at (n := (W.cx 107)) (E := [(5, .string one5), (6, .string two6)]) (W.WP.seq (c := C3) (x := C50) (y := C4) (by kernel_rfl) <| W.WP.reg (c := C50) (fun E w => KE_S4 E w R) (by kernel_rfl) (Eq.mp (by kernel_rfl) h2) fun _ _ a hA hK => (KE_S4_ok R _ _ hK) a hA) (ha.cons hq5 (ha.cons hq6 ha.nil))
noncomputable def C51 : Code := W.Code.fst C2
/-- law.go:99 -/
abbrev S2 (m1 : W.Sl) (one5 : ByteArray) (w : World) (R : W.Post) : Prop :=
  Calls Try.prog n_enthymemeref09_Good #[m1.v, .int .i64 8] w fun r_ w1 => ∃ t21 : ByteArray, r_ = .returned (.string t21) ∧ 
  S3 one5 t21 w1 R
def KE_S2 (E : W.Env) (w : World) (R : W.Post) : Prop := W.asSlice (W.Env.get? E 1) fun m1 => W.asStr (W.Env.get? E 5) fun one5 => S2 m1 one5 w R
theorem KE_S2_ok (R : W.Post) (E : W.Env) (w : World) (h : KE_S2 E w R) : W.WP Try.prog (W.cx 107) C2 (Q7 R) E w := by
  obtain ⟨m1, hq1, h1⟩ := W.asSlice_elim h
  obtain ⟨one5, hq5, h2⟩ := W.asStr_elim h1
  exact fun a ha => W.WP.at (n := (W.cx 107)) (E := [(1, m1.v), (5, .string one5)]) (W.WP.seq (c := C2) (x := C51) (y := C3) (by kernel_rfl) <| W.WP.reg (c := C51) (fun E w => KE_S3 E w R) (by kernel_rfl) (Eq.mp (by kernel_rfl) h2) fun _ _ a hA hK => (KE_S3_ok R _ _ hK) a hA) (ha.cons hq1 (ha.cons hq5 ha.nil))
noncomputable def C52 : Code := W.Code.fst C1
/-- law.go:98 -/
abbrev S1 (l0 m1 : W.Sl) (w : World) (R : W.Post) : Prop :=
  Calls Try.prog n_enthymemeref09_Good #[l0.v, .int .i64 8] w fun r_ w1 => ∃ t19 : ByteArray, r_ = .returned (.string t19) ∧ 
  S2 m1 t19 w1 R
def KE_S1 (E : W.Env) (w : World) (R : W.Post) : Prop := W.asSlice (W.Env.get? E 0) fun l0 => W.asSlice (W.Env.get? E 1) fun m1 => S1 l0 m1 w R
theorem KE_S1_ok (R : W.Post) (E : W.Env) (w : World) (h : KE_S1 E w R) : W.WP Try.prog (W.cx 107) C1 (Q7 R) E w := by
  obtain ⟨l0, hq0, h1⟩ := W.asSlice_elim h
  obtain ⟨m1, hq1, h2⟩ := W.asSlice_elim h1
  exact fun a ha => W.WP.at (n := (W.cx 107)) (E := [(0, l0.v), (1, m1.v)]) (W.WP.seq (c := C1) (x := C52) (y := C2) (by kernel_rfl) <| W.WP.reg (c := C52) (fun E w => KE_S2 E w R) (by kernel_rfl) (Eq.mp (by kernel_rfl) h2) fun _ _ a hA hK => (KE_S2_ok R _ _ hK) a hA) (ha.cons hq0 (ha.cons hq1 ha.nil))
noncomputable def C53 : Code := W.Code.fst C0
/-- law.go:97 -/
abbrev S0 (l0 m1 : W.Sl) (w : World) (R : W.Post) : Prop :=
  S1 l0 m1 w R
def KE_S0 (E : W.Env) (w : World) (R : W.Post) : Prop := W.asSlice (W.Env.get? E 0) fun l0 => W.asSlice (W.Env.get? E 1) fun m1 => S0 l0 m1 w R
theorem KE_S0_ok (R : W.Post) (E : W.Env) (w : World) (h : KE_S0 E w R) : W.WP Try.prog (W.cx 107) C0 (Q7 R) E w := by
  obtain ⟨l0, hq0, h1⟩ := W.asSlice_elim h
  obtain ⟨m1, hq1, h2⟩ := W.asSlice_elim h1
  exact fun a ha => W.WP.at (n := (W.cx 107)) (E := [(0, l0.v), (1, m1.v)]) (W.WP.seq (c := C0) (x := C53) (y := C1) (by kernel_rfl) <| W.WP.reg (c := C53) (fun E w => KE_S1 E w R) (by kernel_rfl) (Eq.mp (by kernel_rfl) h2) fun _ _ a hA hK => (KE_S1_ok R _ _ hK) a hA) (ha.cons hq0 (ha.cons hq1 ha.nil))
/-- enthymeme/enthymemelaw09.LexerJoins -/
theorem ok (l0 m1 : W.Sl) (w : World) (R : W.Post) (h : S0 l0 m1 w R) : Calls Try.prog n_enthymemelaw09_LexerJoins #[l0.v, m1.v] w R :=
  W.calls_of_WP' (fn := Try.f5) (c := C0) (args := [l0.v, m1.v]) (by kernel_rfl) (by kernel_rfl) (by kernel_rfl) (KE_S0_ok R _ _ (Eq.mp (by kernel_rfl) h))
end enthymemelaw09_LexerJoins
end Go.Proofs.Ytemagdpieebjlaa

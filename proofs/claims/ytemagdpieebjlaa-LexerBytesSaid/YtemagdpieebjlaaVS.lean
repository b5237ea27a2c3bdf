/- Printed by a program of ours (vcgen.py) from the dump: the conditions of the functions, and that they suffice. -/
import Derived.Test.YtemagdpieebjlaaVP
set_option linter.unusedVariables false
set_option maxRecDepth 100000
namespace Go.Proofs.Ytemagdpieebjlaa
open Go
namespace lexer_quoted
noncomputable def C0 : Code := (Try.f46.body).getD .skip
noncomputable def C1 : Code := W.Code.snd C0
noncomputable def C2 : Code := W.Code.snd C1
noncomputable def C3 : Code := W.Code.fst C2
noncomputable def C4 : Code := W.Code.snd C3
noncomputable def C5 : Code := W.Code.fst C4
noncomputable def C6 : Code := W.Code.fst C5
noncomputable def C7 : Code := W.Code.snd C2
abbrev Q0 (R : W.Post) : Exit → Act → World → Prop := (Exit.then (W.wpx Try.prog (W.cx 45) C7 (bodyPost Try.prog Try.f46 R)) (bodyPost Try.prog Try.f46 R))
abbrev Q1 (R : W.Post) : Exit → Act → World → Prop := (Exit.inBlock 0 (Q0 R))
/-- the head of the loop, lexer.go:132 -/
def L3 (s0 : ByteArray) (i1 : Int) (t6 : Addr) (text7 : W.Sl) (w : World) (R : W.Post) : Prop := W.LP Try.prog (W.cx 45) C6 (Q1 R) [(0, .string s0), (1, .int .i64 i1), (6, .pointer (some t6)), (7, text7.v)] w
def KE_L3 (E : W.Env) (w : World) (R : W.Post) : Prop := W.asStr (W.Env.get? E 0) fun s0 => W.asInt .i64 (W.Env.get? E 1) fun i1 => W.asRef (W.Env.get? E 6) fun t6 => W.asSlice (W.Env.get? E 7) fun text7 => L3 s0 i1 t6 text7 w R
theorem KE_L3_ok (R : W.Post) (E : W.Env) (w : World) (h : KE_L3 E w R) : W.LP Try.prog (W.cx 45) C6 (Q1 R) E w := by
  obtain ⟨s0, hq0, h1⟩ := W.asStr_elim h
  obtain ⟨i1, hq1, h2⟩ := W.asInt_elim h1
  obtain ⟨t6, hq6, h3⟩ := W.asRef_elim h2
  obtain ⟨text7, hq7, h4⟩ := W.asSlice_elim h3
  intro a ha
  exact h4 a (ha.cons hq0 (ha.cons hq1 (ha.cons hq6 (ha.cons hq7 ha.nil))))
noncomputable def C8 : Code := W.Code.snd C6
noncomputable def C9 : Code := W.Code.fst C8
noncomputable def C10 : Code := W.Code.fst C9
noncomputable def C11 : Code := W.Code.snd C10
noncomputable def C12 : Code := W.Code.fst C11
abbrev Q2 (R : W.Post) : Exit → Act → World → Prop := (Exit.then (W.LoopWP Try.prog (W.cx 45) C6 (Q1 R)) (Q1 R))
noncomputable def C13 : Code := W.Code.snd C9
abbrev Q3 (R : W.Post) : Exit → Act → World → Prop := (Exit.then (W.wpx Try.prog (W.cx 45) C13 (Exit.inBlock 1 (Q2 R))) (Exit.inBlock 1 (Q2 R)))
noncomputable def C14 : Code := W.Code.fst C12
noncomputable def C15 : Code := W.Code.snd C12
/-- lexer.go:134 -/
abbrev S6 (i1 : Int) (t6 : Addr) (text7 : W.Sl) (w : World) (R : W.Post) : Prop :=
  ∃ t22 : ByteArray, Sem.run Try.prog (Go.convert ty_sl_uint8 ty_string (text7.v)) w = .ok (.string t22) w ∧ W.stV w t6 (.int .i64 0) fun w1 => 
  W.stV w1 (t6.add 1) (.int .i64 0) fun w2 => 
  ∃ r6_0 : Int, ∃ r6_1 : Int, w2.cell? (t6.add 0) = some (.int .i64 r6_0) ∧ w2.cell? (t6.add 1) = some (.int .i64 r6_1) ∧ 
  R (.returned (.tuple #[.string t22, .int .i64 (IntKind.wrap .i64 (i1 + 1)), .agg #[.int .i64 r6_0, .int .i64 r6_1]])) w2
def KE_S6 (E : W.Env) (w : World) (R : W.Post) : Prop := W.asInt .i64 (W.Env.get? E 1) fun i1 => W.asRef (W.Env.get? E 6) fun t6 => W.asSlice (W.Env.get? E 7) fun text7 => S6 i1 t6 text7 w R
theorem KE_S6_ok (R : W.Post) (E : W.Env) (w : World) (h : KE_S6 E w R) : W.WP Try.prog (W.cx 45) C12 (Q3 R) E w := by
  obtain ⟨i1, hq1, h1⟩ := W.asInt_elim h
  obtain ⟨t6, hq6, h2⟩ := W.asRef_elim h1
  obtain ⟨text7, hq7, h3⟩ := W.asSlice_elim h2
  exact fun a ha => W.WP.at (n := (W.cx 45)) (E := [(1, .int .i64 i1), (6, .pointer (some t6)), (7, text7.v)]) (W.WP.seq (c := C12) (x := C14) (y := C15) (by kernel_rfl) <| W.WP.reg (c := C14) (fun E w => W.retVC Try.prog Try.f46 E w (fun v => R (.returned v) w)) (by kernel_rfl) (Eq.mp (by kernel_rfl) h3) fun _ _ a hA hK => (W.WP.ret (c := C15) (by kernel_rfl) fun a hA => W.retVC_sound hA hK) a hA) (ha.cons hq1 (ha.cons hq6 (ha.cons hq7 ha.nil)))
noncomputable def C16 : Code := W.Code.snd C13
noncomputable def C17 : Code := W.Code.fst C16
noncomputable def C18 : Code := W.Code.snd C17
noncomputable def C19 : Code := W.Code.fst C18
noncomputable def C20 : Code := W.Code.snd C16
abbrev Q4 (R : W.Post) : Exit → Act → World → Prop := (Exit.then (W.wpx Try.prog (W.cx 45) C20 (Exit.inBlock 1 (Q2 R))) (Exit.inBlock 1 (Q2 R)))
noncomputable def C21 : Code := W.Code.fst C19
noncomputable def C22 : Code := W.Code.snd C19
/-- lexer.go:138 -/
abbrev S9 (t6 f10 : Addr) (w : World) (R : W.Post) : Prop :=
  W.drV w fun w1 => ∃ t36_0 : Int, ∃ t36_1 : Int, w1.cell? (f10.add 0) = some (.int .i64 t36_0) ∧ w1.cell? (f10.add 1) = some (.int .i64 t36_1) ∧ 
  W.stV w1 t6 (.int .i64 t36_0) fun w2 => 
  W.stV w2 (t6.add 1) (.int .i64 t36_1) fun w3 => 
  ∃ r6_0 : Int, ∃ r6_1 : Int, w3.cell? (t6.add 0) = some (.int .i64 r6_0) ∧ w3.cell? (t6.add 1) = some (.int .i64 r6_1) ∧ 
  R (.returned (.tuple #[.string (ByteArray.mk #[]), .int .i64 0, .agg #[.int .i64 r6_0, .int .i64 r6_1]])) w3
def KE_S9 (E : W.Env) (w : World) (R : W.Post) : Prop := W.asRef (W.Env.get? E 6) fun t6 => W.asRef (W.Env.get? E 10) fun f10 => S9 t6 f10 w R
theorem KE_S9_ok (R : W.Post) (E : W.Env) (w : World) (h : KE_S9 E w R) : W.WP Try.prog (W.cx 45) C19 (Q4 R) E w := by
  obtain ⟨t6, hq6, h1⟩ := W.asRef_elim h
  obtain ⟨f10, hq10, h2⟩ := W.asRef_elim h1
  exact fun a ha => W.WP.at (n := (W.cx 45)) (E := [(6, .pointer (some t6)), (10, .pointer (some f10))]) (W.WP.seq (c := C19) (x := C21) (y := C22) (by kernel_rfl) <| W.WP.draw (c := C21) [0, 1, 2, 3] (fun E w => W.retVC Try.prog Try.f46 E w (fun v => R (.returned v) w)) (by kernel_rfl) (Eq.mp (by kernel_rfl) h2) fun _ _ a hA hK => (W.WP.ret (c := C22) (by kernel_rfl) fun a hA => W.retVC_sound hA hK) a hA) (ha.cons hq6 (ha.cons hq10 ha.nil))
noncomputable def C23 : Code := W.Code.snd C20
abbrev Q5 (R : W.Post) : Exit → Act → World → Prop := (Exit.inBlock 1 (Q2 R))
/-- lexer.go:141 -/
abbrev S11 (s0 : ByteArray) (t6 : Addr) (text7 : W.Sl) (next9 : Int) (w : World) (R : W.Post) : Prop :=
  L3 s0 next9 t6 text7 w R
def KE_S11 (E : W.Env) (w : World) (R : W.Post) : Prop := W.asStr (W.Env.get? E 0) fun s0 => W.asRef (W.Env.get? E 6) fun t6 => W.asSlice (W.Env.get? E 7) fun text7 => W.asInt .i64 (W.Env.get? E 9) fun next9 => S11 s0 t6 text7 next9 w R
theorem KE_S11_ok (R : W.Post) (E : W.Env) (w : World) (h : KE_S11 E w R) : W.WP Try.prog (W.cx 45) C23 (Q5 R) E w := by
  obtain ⟨s0, hq0, h1⟩ := W.asStr_elim h
  obtain ⟨t6, hq6, h2⟩ := W.asRef_elim h1
  obtain ⟨text7, hq7, h3⟩ := W.asSlice_elim h2
  obtain ⟨next9, hq9, h4⟩ := W.asInt_elim h3
  exact fun a ha => W.WP.at (n := (W.cx 45)) (E := [(0, .string s0), (6, .pointer (some t6)), (7, text7.v), (9, .int .i64 next9)]) (W.WP.reg (c := C23) (fun E w => KE_L3 E w R) (by kernel_rfl) (Eq.mp (by kernel_rfl) h4) fun _ _ a hA hK => KE_L3_ok R _ _ hK a hA) (ha.cons hq0 (ha.cons hq6 (ha.cons hq7 (ha.cons hq9 ha.nil))))
noncomputable def C24 : Code := W.Code.fst C20
/-- lexer.go:140 -/
abbrev S10 (s0 : ByteArray) (t6 : Addr) (text7 : W.Sl) (c8 next9 : Int) (w : World) (R : W.Post) : Prop :=
  W.nwV w (.cells #[.int .u8 c8] ty_uint8) fun w1 => 
  ∃ (t40 : W.Sl) (w2 : World), Sem.run Try.prog (Builtin.append_ #[ty_sl_uint8, ty_sl_uint8] ty_sl_uint8 #[text7.v, .slice (some (Addr.mk w.heap.size 0 none)) 1 1]) w1 = .ok (t40.v) w2 ∧ S11 s0 t6 t40 next9 w2 R
def KE_S10 (E : W.Env) (w : World) (R : W.Post) : Prop := W.asStr (W.Env.get? E 0) fun s0 => W.asRef (W.Env.get? E 6) fun t6 => W.asSlice (W.Env.get? E 7) fun text7 => W.asInt .u8 (W.Env.get? E 8) fun c8 => W.asInt .i64 (W.Env.get? E 9) fun next9 => S10 s0 t6 text7 c8 next9 w R
theorem KE_S10_ok (R : W.Post) (E : W.Env) (w : World) (h : KE_S10 E w R) : W.WP Try.prog (W.cx 45) C20 (Q5 R) E w := by
  obtain ⟨s0, hq0, h1⟩ := W.asStr_elim h
  obtain ⟨t6, hq6, h2⟩ := W.asRef_elim h1
  obtain ⟨text7, hq7, h3⟩ := W.asSlice_elim h2
  obtain ⟨c8, hq8, h4⟩ := W.asInt_elim h3
  obtain ⟨next9, hq9, h5⟩ := W.asInt_elim h4
  exact fun a ha => W.WP.at (n := (W.cx 45)) (E := [(0, .string s0), (6, .pointer (some t6)), (7, text7.v), (8, .int .u8 c8), (9, .int .i64 next9)]) (W.WP.seq (c := C20) (x := C24) (y := C23) (by kernel_rfl) <| W.WP.reg (c := C24) (fun E w => KE_S11 E w R) (by kernel_rfl) (Eq.mp (by kernel_rfl) h5) fun _ _ a hA hK => (KE_S11_ok R _ _ hK) a hA) (ha.cons hq0 (ha.cons hq6 (ha.cons hq7 (ha.cons hq8 (ha.cons hq9 ha.nil)))))
noncomputable def C25 : Code := W.Code.fst C17
noncomputable def C26 : Code := W.Code.snd C18
/-- lexer.go:137 -/
abbrev S8 (s0 : ByteArray) (t6 : Addr) (text7 : W.Sl) (c8 next9 : Int) (f10 : Addr) (w : World) (R : W.Post) : Prop :=
  ∃ t34 : Int, w.cell? (f10.add 0) = some (.int .i64 t34) ∧ 
  W.sel (t34 != 0) (S9 t6 f10 w R) (S10 s0 t6 text7 c8 next9 w R)
def KE_S8 (E : W.Env) (w : World) (R : W.Post) : Prop := W.asStr (W.Env.get? E 0) fun s0 => W.asRef (W.Env.get? E 6) fun t6 => W.asSlice (W.Env.get? E 7) fun text7 => W.asInt .u8 (W.Env.get? E 8) fun c8 => W.asInt .i64 (W.Env.get? E 9) fun next9 => W.asRef (W.Env.get? E 10) fun f10 => S8 s0 t6 text7 c8 next9 f10 w R
theorem KE_S8_ok (R : W.Post) (E : W.Env) (w : World) (h : KE_S8 E w R) : W.WP Try.prog (W.cx 45) C17 (Q4 R) E w := by
  obtain ⟨s0, hq0, h1⟩ := W.asStr_elim h
  obtain ⟨t6, hq6, h2⟩ := W.asRef_elim h1
  obtain ⟨text7, hq7, h3⟩ := W.asSlice_elim h2
  obtain ⟨c8, hq8, h4⟩ := W.asInt_elim h3
  obtain ⟨next9, hq9, h5⟩ := W.asInt_elim h4
  obtain ⟨f10, hq10, h6⟩ := W.asRef_elim h5
  exact fun a ha => W.WP.at (n := (W.cx 45)) (E := [(0, .string s0), (6, .pointer (some t6)), (7, text7.v), (8, .int .u8 c8), (9, .int .i64 next9), (10, .pointer (some f10))]) (W.WP.seq (c := C17) (x := C25) (y := C18) (by kernel_rfl) <| W.WP.reg (c := C25) (fun E w => W.condK (W.Env.val E (.tmp 35)) (KE_S9 E w R) (KE_S10 E w R)) (by kernel_rfl) (Eq.mp (by kernel_rfl) h6) fun _ _ a hA hK => (W.WP.condK (c := C18) (x := C19) (y := C26) (o := .tmp 35) (by kernel_rfl) (fun hK => (KE_S9_ok R _ _ hK)) (fun hK => (W.WP.skip (c := C26) (by kernel_rfl) fun a hA => (KE_S10_ok R _ _ hK) a hA)) hK) a hA) (ha.cons hq0 (ha.cons hq6 (ha.cons hq7 (ha.cons hq8 (ha.cons hq9 (ha.cons hq10 ha.nil))))))
noncomputable def C27 : Code := W.Code.fst C13
/-- lexer.go:136 -/
abbrev S7 (s0 : ByteArray) (i1 : Int) (t6 : Addr) (text7 : W.Sl) (w : World) (R : W.Post) : Prop :=
  Calls Try.prog n_lexer_item #[.string s0, .int .i64 i1] w fun r_ w1 => ∃ t29_0 : Int, ∃ t29_1 : Int, ∃ t29_2_0 : Int, ∃ t29_2_1 : Int, r_ = .returned (.tuple #[.int .u8 t29_0, .int .i64 t29_1, .agg #[.int .i64 t29_2_0, .int .i64 t29_2_1]]) ∧ 
  W.nwV w1 (.cells #[.int .i64 0, .int .i64 0] ty_lexer_fault) fun w2 => 
  W.stV w2 (Addr.mk w1.heap.size 0 none) (.int .i64 t29_2_0) fun w3 => 
  W.stV w3 ((Addr.mk w1.heap.size 0 none).add 1) (.int .i64 t29_2_1) fun w4 => 
  S8 s0 t6 text7 t29_0 t29_1 (Addr.mk w1.heap.size 0 none) w4 R
def KE_S7 (E : W.Env) (w : World) (R : W.Post) : Prop := W.asStr (W.Env.get? E 0) fun s0 => W.asInt .i64 (W.Env.get? E 1) fun i1 => W.asRef (W.Env.get? E 6) fun t6 => W.asSlice (W.Env.get? E 7) fun text7 => S7 s0 i1 t6 text7 w R
theorem KE_S7_ok (R : W.Post) (E : W.Env) (w : World) (h : KE_S7 E w R) : W.WP Try.prog (W.cx 45) C13 (Q5 R) E w := by
  obtain ⟨s0, hq0, h1⟩ := W.asStr_elim h
  obtain ⟨i1, hq1, h2⟩ := W.asInt_elim h1
  obtain ⟨t6, hq6, h3⟩ := W.asRef_elim h2
  obtain ⟨text7, hq7, h4⟩ := W.asSlice_elim h3
  exact fun a ha => W.WP.at (n := (W.cx 45)) (E := [(0, .string s0), (1, .int .i64 i1), (6, .pointer (some t6)), (7, text7.v)]) (W.WP.seq (c := C13) (x := C27) (y := C16) (by kernel_rfl) <| W.WP.reg (c := C27) (fun E w => KE_S8 E w R) (by kernel_rfl) (Eq.mp (by kernel_rfl) h4) fun _ _ a hA hK => (W.WP.seq (c := C16) (x := C17) (y := C20) (by kernel_rfl) (KE_S8_ok R _ _ hK)) a hA) (ha.cons hq0 (ha.cons hq1 (ha.cons hq6 (ha.cons hq7 ha.nil))))
noncomputable def C28 : Code := W.Code.fst C10
noncomputable def C29 : Code := W.Code.snd C11
/-- lexer.go:133 -/
abbrev S5 (s0 : ByteArray) (i1 : Int) (t6 : Addr) (text7 : W.Sl) (w : World) (R : W.Post) : Prop :=
  (0 : Int) ≤ i1 ∧ ∃ t19_b : UInt8, s0[Int.toNat i1]? = some t19_b ∧ W.sel (((t19_b.toNat : Nat) : Int) == 34) (S6 i1 t6 text7 w R) (S7 s0 i1 t6 text7 w R)
def KE_S5 (E : W.Env) (w : World) (R : W.Post) : Prop := W.asStr (W.Env.get? E 0) fun s0 => W.asInt .i64 (W.Env.get? E 1) fun i1 => W.asRef (W.Env.get? E 6) fun t6 => W.asSlice (W.Env.get? E 7) fun text7 => S5 s0 i1 t6 text7 w R
theorem KE_S5_ok (R : W.Post) (E : W.Env) (w : World) (h : KE_S5 E w R) : W.WP Try.prog (W.cx 45) C10 (Q3 R) E w := by
  obtain ⟨s0, hq0, h1⟩ := W.asStr_elim h
  obtain ⟨i1, hq1, h2⟩ := W.asInt_elim h1
  obtain ⟨t6, hq6, h3⟩ := W.asRef_elim h2
  obtain ⟨text7, hq7, h4⟩ := W.asSlice_elim h3
  exact fun a ha => W.WP.at (n := (W.cx 45)) (E := [(0, .string s0), (1, .int .i64 i1), (6, .pointer (some t6)), (7, text7.v)]) (W.WP.seq (c := C10) (x := C28) (y := C11) (by kernel_rfl) <| W.WP.reg (c := C28) (fun E w => W.condK (W.Env.val E (.tmp 20)) (KE_S6 E w R) (KE_S7 E w R)) (by kernel_rfl) (Eq.mp (by kernel_rfl) h4) fun _ _ a hA hK => (W.WP.condK (c := C11) (x := C12) (y := C29) (o := .tmp 20) (by kernel_rfl) (fun hK => (KE_S6_ok R _ _ hK)) (fun hK => (W.WP.skip (c := C29) (by kernel_rfl) fun a hA => (KE_S7_ok R _ _ hK) a hA)) hK) a hA) (ha.cons hq0 (ha.cons hq1 (ha.cons hq6 (ha.cons hq7 ha.nil))))
abbrev Q6 (R : W.Post) : Exit → Act → World → Prop := (bodyPost Try.prog Try.f46 R)
noncomputable def C30 : Code := W.Code.fst C7
noncomputable def C31 : Code := W.Code.snd C7
/-- lexer.go:143 -/
abbrev S12 (s0 : ByteArray) (t6 : Addr) (w : World) (R : W.Post) : Prop :=
  W.stV w t6 (.int .i64 3) fun w1 => 
  W.stV w1 (t6.add 1) (.int .i64 ((s0.size : Nat) : Int)) fun w2 => 
  ∃ r6_0 : Int, ∃ r6_1 : Int, w2.cell? (t6.add 0) = some (.int .i64 r6_0) ∧ w2.cell? (t6.add 1) = some (.int .i64 r6_1) ∧ 
  R (.returned (.tuple #[.string (ByteArray.mk #[]), .int .i64 0, .agg #[.int .i64 r6_0, .int .i64 r6_1]])) w2
def KE_S12 (E : W.Env) (w : World) (R : W.Post) : Prop := W.asStr (W.Env.get? E 0) fun s0 => W.asRef (W.Env.get? E 6) fun t6 => S12 s0 t6 w R
theorem KE_S12_ok (R : W.Post) (E : W.Env) (w : World) (h : KE_S12 E w R) : W.WP Try.prog (W.cx 45) C7 (Q6 R) E w := by
  obtain ⟨s0, hq0, h1⟩ := W.asStr_elim h
  obtain ⟨t6, hq6, h2⟩ := W.asRef_elim h1
  exact fun a ha => W.WP.at (n := (W.cx 45)) (E := [(0, .string s0), (6, .pointer (some t6))]) (W.WP.seq (c := C7) (x := C30) (y := C31) (by kernel_rfl) <| W.WP.reg (c := C30) (fun E w => W.retVC Try.prog Try.f46 E w (fun v => R (.returned v) w)) (by kernel_rfl) (Eq.mp (by kernel_rfl) h2) fun _ _ a hA hK => (W.WP.ret (c := C31) (by kernel_rfl) fun a hA => W.retVC_sound hA hK) a hA) (ha.cons hq0 (ha.cons hq6 ha.nil))
noncomputable def C32 : Code := W.Code.fst C6
abbrev Q7 (R : W.Post) : Exit → Act → World → Prop := (Exit.then (W.wpx Try.prog (W.cx 45) C8 (Exit.then (W.LoopWP Try.prog (W.cx 45) C6 (Q1 R)) (Q1 R))) (Exit.then (W.LoopWP Try.prog (W.cx 45) C6 (Q1 R)) (Q1 R)))
noncomputable def C33 : Code := W.Code.fst C32
noncomputable def C34 : Code := W.Code.snd C32
noncomputable def C35 : Code := W.Code.fst C34
noncomputable def C36 : Code := W.Code.snd C34
/-- lexer.go:132 -/
abbrev S4 (s0 : ByteArray) (i1 : Int) (t6 : Addr) (text7 : W.Sl) (w : World) (R : W.Post) : Prop :=
  W.sel (decide (i1 < ((s0.size : Nat) : Int))) (S5 s0 i1 t6 text7 w R) (S12 s0 t6 w R)
def KE_S4 (E : W.Env) (w : World) (R : W.Post) : Prop := W.asStr (W.Env.get? E 0) fun s0 => W.asInt .i64 (W.Env.get? E 1) fun i1 => W.asRef (W.Env.get? E 6) fun t6 => W.asSlice (W.Env.get? E 7) fun text7 => S4 s0 i1 t6 text7 w R
theorem KE_S4_ok (R : W.Post) (E : W.Env) (w : World) (h : KE_S4 E w R) : W.WP Try.prog (W.cx 45) C32 (Q7 R) E w := by
  obtain ⟨s0, hq0, h1⟩ := W.asStr_elim h
  obtain ⟨i1, hq1, h2⟩ := W.asInt_elim h1
  obtain ⟨t6, hq6, h3⟩ := W.asRef_elim h2
  obtain ⟨text7, hq7, h4⟩ := W.asSlice_elim h3
  exact fun a ha => W.WP.at (n := (W.cx 45)) (E := [(0, .string s0), (1, .int .i64 i1), (6, .pointer (some t6)), (7, text7.v)]) (W.WP.seq (c := C32) (x := C33) (y := C34) (by kernel_rfl) <| W.WP.reg (c := C33) (fun E w => W.condK (W.Env.val E (.tmp 16)) (KE_S5 E w R) (KE_S12 E w R)) (by kernel_rfl) (Eq.mp (by kernel_rfl) h4) fun _ _ a hA hK => (W.WP.condK (c := C34) (x := C35) (y := C36) (o := .tmp 16) (by kernel_rfl) (fun hK => (W.WP.skip (c := C35) (by kernel_rfl) fun a hA => (W.WP.block (c := C8) (x := C9) (id := 1) (by kernel_rfl) (W.WP.seq (c := C9) (x := C10) (y := C13) (by kernel_rfl) (KE_S5_ok R _ _ hK))) a hA)) (fun hK => (W.WP.exit (c := C36) (id := 0) (by kernel_rfl) fun a hA => (KE_S12_ok R _ _ hK) a hA)) hK) a hA) (ha.cons hq0 (ha.cons hq1 (ha.cons hq6 (ha.cons hq7 ha.nil))))
theorem L3_step (s0 : ByteArray) (i1 : Int) (t6 : Addr) (text7 : W.Sl) (w : World) (R : W.Post) (h : S4 s0 i1 t6 text7 w R) : L3 s0 i1 t6 text7 w R :=
  W.LP.step (n := (W.cx 45)) (c := C6) (E := [(0, .string s0), (1, .int .i64 i1), (6, .pointer (some t6)), (7, text7.v)]) (w := w) (W.WP.seq (c := C6) (x := C32) (y := C8) (by kernel_rfl) (KE_S4_ok R _ _ (Eq.mp (by kernel_rfl) h)))
noncomputable def C37 : Code := W.Code.fst C3
/-- lexer.go:132 -/
abbrev S2 (s0 : ByteArray) (i1 : Int) (t6 : Addr) (text7 : W.Sl) (w : World) (R : W.Post) : Prop :=
  L3 s0 (IntKind.wrap .i64 (i1 + 1)) t6 text7 w R
def KE_S2 (E : W.Env) (w : World) (R : W.Post) : Prop := W.asStr (W.Env.get? E 0) fun s0 => W.asInt .i64 (W.Env.get? E 1) fun i1 => W.asRef (W.Env.get? E 6) fun t6 => W.asSlice (W.Env.get? E 7) fun text7 => S2 s0 i1 t6 text7 w R
theorem KE_S2_ok (R : W.Post) (E : W.Env) (w : World) (h : KE_S2 E w R) : W.WP Try.prog (W.cx 45) C3 (Q0 R) E w := by
  obtain ⟨s0, hq0, h1⟩ := W.asStr_elim h
  obtain ⟨i1, hq1, h2⟩ := W.asInt_elim h1
  obtain ⟨t6, hq6, h3⟩ := W.asRef_elim h2
  obtain ⟨text7, hq7, h4⟩ := W.asSlice_elim h3
  exact fun a ha => W.WP.at (n := (W.cx 45)) (E := [(0, .string s0), (1, .int .i64 i1), (6, .pointer (some t6)), (7, text7.v)]) (W.WP.seq (c := C3) (x := C37) (y := C4) (by kernel_rfl) <| W.WP.reg (c := C37) (fun E w => KE_L3 E w R) (by kernel_rfl) (Eq.mp (by kernel_rfl) h4) fun _ _ a hA hK => (W.WP.block (c := C4) (x := C5) (id := 0) (by kernel_rfl) (W.WP.loop (c := C5) (x := C6) (by kernel_rfl) (KE_L3_ok R _ _ hK))) a hA) (ha.cons hq0 (ha.cons hq1 (ha.cons hq6 (ha.cons hq7 ha.nil))))
noncomputable def C38 : Code := W.Code.fst C1
/-- lexer.go:131 -/
abbrev S1 (s0 : ByteArray) (i1 : Int) (t6 : Addr) (w : World) (R : W.Post) : Prop :=
  S2 s0 i1 t6 ⟨none, 0, 0⟩ w R
def KE_S1 (E : W.Env) (w : World) (R : W.Post) : Prop := W.asStr (W.Env.get? E 0) fun s0 => W.asInt .i64 (W.Env.get? E 1) fun i1 => W.asRef (W.Env.get? E 6) fun t6 => S1 s0 i1 t6 w R
theorem KE_S1_ok (R : W.Post) (E : W.Env) (w : World) (h : KE_S1 E w R) : W.WP Try.prog (W.cx 45) C1 (Q6 R) E w := by
  obtain ⟨s0, hq0, h1⟩ := W.asStr_elim h
  obtain ⟨i1, hq1, h2⟩ := W.asInt_elim h1
  obtain ⟨t6, hq6, h3⟩ := W.asRef_elim h2
  exact fun a ha => W.WP.at (n := (W.cx 45)) (E := [(0, .string s0), (1, .int .i64 i1), (6, .pointer (some t6))]) (W.WP.seq (c := C1) (x := C38) (y := C2) (by kernel_rfl) <| W.WP.reg (c := C38) (fun E w => KE_S2 E w R) (by kernel_rfl) (Eq.mp (by kernel_rfl) h3) fun _ _ a hA hK => (W.WP.seq (c := C2) (x := C3) (y := C7) (by kernel_rfl) (KE_S2_ok R _ _ hK)) a hA) (ha.cons hq0 (ha.cons hq1 (ha.cons hq6 ha.nil)))
noncomputable def C39 : Code := W.Code.fst C0
/-- lexer.go:130 -/
abbrev S0 (s0 : ByteArray) (i1 : Int) (w : World) (R : W.Post) : Prop :=
  W.nwV w (.cells #[.int .i64 0, .int .i64 0] ty_lexer_fault) fun w1 => 
  S1 s0 i1 (Addr.mk w.heap.size 0 none) w1 R
def KE_S0 (E : W.Env) (w : World) (R : W.Post) : Prop := W.asStr (W.Env.get? E 0) fun s0 => W.asInt .i64 (W.Env.get? E 1) fun i1 => S0 s0 i1 w R
theorem KE_S0_ok (R : W.Post) (E : W.Env) (w : World) (h : KE_S0 E w R) : W.WP Try.prog (W.cx 45) C0 (Q6 R) E w := by
  obtain ⟨s0, hq0, h1⟩ := W.asStr_elim h
  obtain ⟨i1, hq1, h2⟩ := W.asInt_elim h1
  exact fun a ha => W.WP.at (n := (W.cx 45)) (E := [(0, .string s0), (1, .int .i64 i1)]) (W.WP.seq (c := C0) (x := C39) (y := C1) (by kernel_rfl) <| W.WP.reg (c := C39) (fun E w => KE_S1 E w R) (by kernel_rfl) (Eq.mp (by kernel_rfl) h2) fun _ _ a hA hK => (KE_S1_ok R _ _ hK) a hA) (ha.cons hq0 (ha.cons hq1 ha.nil))
/-- enthymeme/lexer.quoted -/
theorem ok (s0 : ByteArray) (i1 : Int) (w : World) (R : W.Post) (h : S0 s0 i1 w R) : Calls Try.prog n_lexer_quoted #[.string s0, .int .i64 i1] w R :=
  W.calls_of_WP' (fn := Try.f46) (c := C0) (args := [.string s0, .int .i64 i1]) (by kernel_rfl) (by kernel_rfl) (by kernel_rfl) (KE_S0_ok R _ _ (Eq.mp (by kernel_rfl) h))
end lexer_quoted
namespace lexer_reader
noncomputable def C0 : Code := (Try.f31.body).getD .skip
noncomputable def C1 : Code := W.Code.snd C0
noncomputable def C2 : Code := W.Code.snd C1
noncomputable def C3 : Code := W.Code.snd C2
abbrev Q0 (R : W.Post) : Exit → Act → World → Prop := (bodyPost Try.prog Try.f31 R)
noncomputable def C4 : Code := W.Code.fst C3
noncomputable def C5 : Code := W.Code.snd C3
/-- lexer.go:160 -/
abbrev S3 (s1 i3 skip4 : Addr) (w : World) (R : W.Post) : Prop :=
  R (.returned (.func (.func n_lexer_reader_2) #[] #[.pointer (some skip4), .pointer (some i3), .pointer (some s1)])) w
def KE_S3 (E : W.Env) (w : World) (R : W.Post) : Prop := W.asRef (W.Env.get? E 1) fun s1 => W.asRef (W.Env.get? E 3) fun i3 => W.asRef (W.Env.get? E 4) fun skip4 => S3 s1 i3 skip4 w R
theorem KE_S3_ok (R : W.Post) (E : W.Env) (w : World) (h : KE_S3 E w R) : W.WP Try.prog (W.cx 7) C3 (Q0 R) E w := by
  obtain ⟨s1, hq1, h1⟩ := W.asRef_elim h
  obtain ⟨i3, hq3, h2⟩ := W.asRef_elim h1
  obtain ⟨skip4, hq4, h3⟩ := W.asRef_elim h2
  exact fun a ha => W.WP.at (n := (W.cx 7)) (E := [(1, .pointer (some s1)), (3, .pointer (some i3)), (4, .pointer (some skip4))]) (W.WP.seq (c := C3) (x := C4) (y := C5) (by kernel_rfl) <| W.WP.reg (c := C4) (fun E w => W.retVC Try.prog Try.f31 E w (fun v => R (.returned v) w)) (by kernel_rfl) (Eq.mp (by kernel_rfl) h3) fun _ _ a hA hK => (W.WP.ret (c := C5) (by kernel_rfl) fun a hA => W.retVC_sound hA hK) a hA) (ha.cons hq1 (ha.cons hq3 (ha.cons hq4 ha.nil)))
noncomputable def C6 : Code := W.Code.fst C2
/-- lexer.go:149 -/
abbrev S2 (s1 i3 : Addr) (w : World) (R : W.Post) : Prop :=
  W.nwV w (.cells #[.nilFunc] ty_func) fun w1 => 
  W.stV w1 (Addr.mk w.heap.size 0 none) (.func (.func n_lexer_reader_1) #[] #[.pointer (some i3), .pointer (some s1)]) fun w2 => 
  S3 s1 i3 (Addr.mk w.heap.size 0 none) w2 R
def KE_S2 (E : W.Env) (w : World) (R : W.Post) : Prop := W.asRef (W.Env.get? E 1) fun s1 => W.asRef (W.Env.get? E 3) fun i3 => S2 s1 i3 w R
theorem KE_S2_ok (R : W.Post) (E : W.Env) (w : World) (h : KE_S2 E w R) : W.WP Try.prog (W.cx 7) C2 (Q0 R) E w := by
  obtain ⟨s1, hq1, h1⟩ := W.asRef_elim h
  obtain ⟨i3, hq3, h2⟩ := W.asRef_elim h1
  exact fun a ha => W.WP.at (n := (W.cx 7)) (E := [(1, .pointer (some s1)), (3, .pointer (some i3))]) (W.WP.seq (c := C2) (x := C6) (y := C3) (by kernel_rfl) <| W.WP.reg (c := C6) (fun E w => KE_S3 E w R) (by kernel_rfl) (Eq.mp (by kernel_rfl) h2) fun _ _ a hA hK => (KE_S3_ok R _ _ hK) a hA) (ha.cons hq1 (ha.cons hq3 ha.nil))
noncomputable def C7 : Code := W.Code.fst C1
/-- lexer.go:148 -/
abbrev S1 (s1 : Addr) (w : World) (R : W.Post) : Prop :=
  W.nwV w (.cells #[.int .i64 0] ty_int) fun w1 => 
  W.stV w1 (Addr.mk w.heap.size 0 none) (.int .i64 0) fun w2 => 
  S2 s1 (Addr.mk w.heap.size 0 none) w2 R
def KE_S1 (E : W.Env) (w : World) (R : W.Post) : Prop := W.asRef (W.Env.get? E 1) fun s1 => S1 s1 w R
theorem KE_S1_ok (R : W.Post) (E : W.Env) (w : World) (h : KE_S1 E w R) : W.WP Try.prog (W.cx 7) C1 (Q0 R) E w := by
  obtain ⟨s1, hq1, h1⟩ := W.asRef_elim h
  exact fun a ha => W.WP.at (n := (W.cx 7)) (E := [(1, .pointer (some s1))]) (W.WP.seq (c := C1) (x := C7) (y := C2) (by kernel_rfl) <| W.WP.reg (c := C7) (fun E w => KE_S2 E w R) (by kernel_rfl) (Eq.mp (by kernel_rfl) h1) fun _ _ a hA hK => (KE_S2_ok R _ _ hK) a hA) (ha.cons hq1 ha.nil)
noncomputable def C8 : Code := W.Code.fst C0
/-- lexer.go:147 -/
abbrev S0 (s0 : ByteArray) (w : World) (R : W.Post) : Prop :=
  W.nwV w (.cells #[.string s0] ty_string) fun w1 => 
  S1 (Addr.mk w.heap.size 0 none) w1 R
def KE_S0 (E : W.Env) (w : World) (R : W.Post) : Prop := W.asStr (W.Env.get? E 0) fun s0 => S0 s0 w R
theorem KE_S0_ok (R : W.Post) (E : W.Env) (w : World) (h : KE_S0 E w R) : W.WP Try.prog (W.cx 7) C0 (Q0 R) E w := by
  obtain ⟨s0, hq0, h1⟩ := W.asStr_elim h
  exact fun a ha => W.WP.at (n := (W.cx 7)) (E := [(0, .string s0)]) (W.WP.seq (c := C0) (x := C8) (y := C1) (by kernel_rfl) <| W.WP.reg (c := C8) (fun E w => KE_S1 E w R) (by kernel_rfl) (Eq.mp (by kernel_rfl) h1) fun _ _ a hA hK => (KE_S1_ok R _ _ hK) a hA) (ha.cons hq0 ha.nil)
/-- enthymeme/lexer.reader -/
theorem ok (s0 : ByteArray) (w : World) (R : W.Post) (h : S0 s0 w R) : Calls Try.prog n_lexer_reader #[.string s0] w R :=
  W.calls_of_WP' (fn := Try.f31) (c := C0) (args := [.string s0]) (by kernel_rfl) (by kernel_rfl) (by kernel_rfl) (KE_S0_ok R _ _ (Eq.mp (by kernel_rfl) h))
end lexer_reader
namespace lexer_reader_1
noncomputable def C0 : Code := (Try.f43.body).getD .skip
noncomputable def C1 : Code := W.Code.fst C0
noncomputable def C2 : Code := W.Code.fst C1
abbrev Q0 (R : W.Post) : Exit → Act → World → Prop := (bodyPost Try.prog Try.f43 R)
abbrev Q1 (R : W.Post) : Exit → Act → World → Prop := (Exit.inBlock 0 (Q0 R))
/-- the head of the loop, lexer.go:150 -/
def L0 (t0 t1 : Addr) (w : World) (R : W.Post) : Prop := W.LP Try.prog (W.cx 37) C2 (Q1 R) [(0, .pointer (some t0)), (1, .pointer (some t1))] w
def KE_L0 (E : W.Env) (w : World) (R : W.Post) : Prop := W.asRef (W.Env.get? E 0) fun t0 => W.asRef (W.Env.get? E 1) fun t1 => L0 t0 t1 w R
theorem KE_L0_ok (R : W.Post) (E : W.Env) (w : World) (h : KE_L0 E w R) : W.LP Try.prog (W.cx 37) C2 (Q1 R) E w := by
  obtain ⟨t0, hq0, h1⟩ := W.asRef_elim h
  obtain ⟨t1, hq1, h2⟩ := W.asRef_elim h1
  intro a ha
  exact h2 a (ha.cons hq0 (ha.cons hq1 ha.nil))
noncomputable def C3 : Code := W.Code.snd C2
noncomputable def C4 : Code := W.Code.fst C3
noncomputable def C5 : Code := W.Code.fst C4
noncomputable def C6 : Code := W.Code.snd C5
noncomputable def C7 : Code := W.Code.fst C6
abbrev Q2 (R : W.Post) : Exit → Act → World → Prop := (Exit.then (W.LoopWP Try.prog (W.cx 37) C2 (Q1 R)) (Q1 R))
noncomputable def C8 : Code := W.Code.snd C4
abbrev Q3 (R : W.Post) : Exit → Act → World → Prop := (Exit.then (W.wpx Try.prog (W.cx 37) C8 (Exit.inBlock 1 (Q2 R))) (Exit.inBlock 1 (Q2 R)))
noncomputable def C9 : Code := W.Code.fst C7
noncomputable def C10 : Code := W.Code.snd C7
/-- lexer.go:152 -/
abbrev S3 (t0 t1 : Addr) (w : World) (R : W.Post) : Prop :=
  ∃ t23 : Int, w.cell? t0 = some (.int .i64 t23) ∧ 
  W.stV w t0 (.int .i64 (IntKind.wrap .i64 (t23 + 1))) fun w1 => 
  L0 t0 t1 w1 R
def KE_S3 (E : W.Env) (w : World) (R : W.Post) : Prop := W.asRef (W.Env.get? E 0) fun t0 => W.asRef (W.Env.get? E 1) fun t1 => S3 t0 t1 w R
theorem KE_S3_ok (R : W.Post) (E : W.Env) (w : World) (h : KE_S3 E w R) : W.WP Try.prog (W.cx 37) C7 (Q3 R) E w := by
  obtain ⟨t0, hq0, h1⟩ := W.asRef_elim h
  obtain ⟨t1, hq1, h2⟩ := W.asRef_elim h1
  exact fun a ha => W.WP.at (n := (W.cx 37)) (E := [(0, .pointer (some t0)), (1, .pointer (some t1))]) (W.WP.seq (c := C7) (x := C9) (y := C10) (by kernel_rfl) <| W.WP.reg (c := C9) (fun E w => KE_L0 E w R) (by kernel_rfl) (Eq.mp (by kernel_rfl) h2) fun _ _ a hA hK => (W.WP.exit (c := C10) (id := 1) (by kernel_rfl) fun a hA => KE_L0_ok R _ _ hK a hA) a hA) (ha.cons hq0 (ha.cons hq1 ha.nil))
noncomputable def C11 : Code := W.Code.fst C8
noncomputable def C12 : Code := W.Code.fst C11
abbrev Q4 (R : W.Post) : Exit → Act → World → Prop := (Exit.inBlock 1 (Q2 R))
abbrev Q5 (R : W.Post) : Exit → Act → World → Prop := (Exit.inBlock 2 (Q4 R))
/-- the head of the loop, lexer.go:155 -/
def L4 (t0 t1 : Addr) (w : World) (R : W.Post) : Prop := W.LP Try.prog (W.cx 37) C12 (Q5 R) [(0, .pointer (some t0)), (1, .pointer (some t1))] w
def KE_L4 (E : W.Env) (w : World) (R : W.Post) : Prop := W.asRef (W.Env.get? E 0) fun t0 => W.asRef (W.Env.get? E 1) fun t1 => L4 t0 t1 w R
theorem KE_L4_ok (R : W.Post) (E : W.Env) (w : World) (h : KE_L4 E w R) : W.LP Try.prog (W.cx 37) C12 (Q5 R) E w := by
  obtain ⟨t0, hq0, h1⟩ := W.asRef_elim h
  obtain ⟨t1, hq1, h2⟩ := W.asRef_elim h1
  intro a ha
  exact h2 a (ha.cons hq0 (ha.cons hq1 ha.nil))
noncomputable def C13 : Code := W.Code.snd C12
noncomputable def C14 : Code := W.Code.fst C13
abbrev Q6 (R : W.Post) : Exit → Act → World → Prop := (Exit.then (W.LoopWP Try.prog (W.cx 37) C12 (Q5 R)) (Q5 R))
abbrev Q7 (R : W.Post) : Exit → Act → World → Prop := (Exit.inBlock 3 (Q6 R))
/-- lexer.go:156 -/
abbrev S6 (t0 t1 : Addr) (w : World) (R : W.Post) : Prop :=
  ∃ t35 : Int, w.cell? t0 = some (.int .i64 t35) ∧ 
  W.stV w t0 (.int .i64 (IntKind.wrap .i64 (t35 + 1))) fun w1 => 
  L4 t0 t1 w1 R
def KE_S6 (E : W.Env) (w : World) (R : W.Post) : Prop := W.asRef (W.Env.get? E 0) fun t0 => W.asRef (W.Env.get? E 1) fun t1 => S6 t0 t1 w R
theorem KE_S6_ok (R : W.Post) (E : W.Env) (w : World) (h : KE_S6 E w R) : W.WP Try.prog (W.cx 37) C14 (Q7 R) E w := by
  obtain ⟨t0, hq0, h1⟩ := W.asRef_elim h
  obtain ⟨t1, hq1, h2⟩ := W.asRef_elim h1
  exact fun a ha => W.WP.at (n := (W.cx 37)) (E := [(0, .pointer (some t0)), (1, .pointer (some t1))]) (W.WP.reg (c := C14) (fun E w => KE_L4 E w R) (by kernel_rfl) (Eq.mp (by kernel_rfl) h2) fun _ _ a hA hK => KE_L4_ok R _ _ hK a hA) (ha.cons hq0 (ha.cons hq1 ha.nil))
noncomputable def C15 : Code := W.Code.fst C12
abbrev Q8 (R : W.Post) : Exit → Act → World → Prop := (Exit.then (W.wpx Try.prog (W.cx 37) C13 (Exit.then (W.LoopWP Try.prog (W.cx 37) C12 (Q5 R)) (Q5 R))) (Exit.then (W.LoopWP Try.prog (W.cx 37) C12 (Q5 R)) (Q5 R)))
noncomputable def C16 : Code := W.Code.fst C15
noncomputable def C17 : Code := W.Code.snd C15
noncomputable def C18 : Code := W.Code.fst C17
noncomputable def C19 : Code := W.Code.snd C17
/-- lexer.go:155 -/
abbrev S5 (t0 t1 : Addr) (w : World) (R : W.Post) : Prop :=
  ∃ t25 : Int, w.cell? t0 = some (.int .i64 t25) ∧ 
  ∃ t26 : ByteArray, w.cell? t1 = some (.string t26) ∧ 
  W.sel (decide (t25 < ((t26.size : Nat) : Int))) (∃ t30 : ByteArray, w.cell? t1 = some (.string t30) ∧ 
  ∃ t31 : Int, w.cell? t0 = some (.int .i64 t31) ∧ 
  (0 : Int) ≤ t31 ∧ ∃ t32_b : UInt8, t30[Int.toNat t31]? = some t32_b ∧ W.sel (((t32_b.toNat : Nat) : Int) != 10) (S6 t0 t1 w R) (L0 t0 t1 w R)) (L0 t0 t1 w R)
def KE_S5 (E : W.Env) (w : World) (R : W.Post) : Prop := W.asRef (W.Env.get? E 0) fun t0 => W.asRef (W.Env.get? E 1) fun t1 => S5 t0 t1 w R
theorem KE_S5_ok (R : W.Post) (E : W.Env) (w : World) (h : KE_S5 E w R) : W.WP Try.prog (W.cx 37) C15 (Q8 R) E w := by
  obtain ⟨t0, hq0, h1⟩ := W.asRef_elim h
  obtain ⟨t1, hq1, h2⟩ := W.asRef_elim h1
  exact fun a ha => W.WP.at (n := (W.cx 37)) (E := [(0, .pointer (some t0)), (1, .pointer (some t1))]) (W.WP.seq (c := C15) (x := C16) (y := C17) (by kernel_rfl) <| W.WP.reg (c := C16) (fun E w => W.condK (W.Env.val E (.tmp 34)) (KE_S6 E w R) (KE_L0 E w R)) (by kernel_rfl) (Eq.mp (by kernel_rfl) h2) fun _ _ a hA hK => (W.WP.condK (c := C17) (x := C18) (y := C19) (o := .tmp 34) (by kernel_rfl) (fun hK => (W.WP.skip (c := C18) (by kernel_rfl) fun a hA => (W.WP.block (c := C13) (x := C14) (id := 3) (by kernel_rfl) (KE_S6_ok R _ _ hK)) a hA)) (fun hK => (W.WP.exit (c := C19) (id := 2) (by kernel_rfl) fun a hA => KE_L0_ok R _ _ hK a hA)) hK) a hA) (ha.cons hq0 (ha.cons hq1 ha.nil))
theorem L4_step (t0 t1 : Addr) (w : World) (R : W.Post) (h : S5 t0 t1 w R) : L4 t0 t1 w R :=
  W.LP.step (n := (W.cx 37)) (c := C12) (E := [(0, .pointer (some t0)), (1, .pointer (some t1))]) (w := w) (W.WP.seq (c := C12) (x := C15) (y := C13) (by kernel_rfl) (KE_S5_ok R _ _ (Eq.mp (by kernel_rfl) h)))
noncomputable def C20 : Code := W.Code.fst C5
noncomputable def C21 : Code := W.Code.snd C6
/-- lexer.go:151 -/
abbrev S2 (t0 t1 : Addr) (w : World) (R : W.Post) : Prop :=
  ∃ t19 : ByteArray, w.cell? t1 = some (.string t19) ∧ 
  ∃ t20 : Int, w.cell? t0 = some (.int .i64 t20) ∧ 
  (0 : Int) ≤ t20 ∧ ∃ t21_b : UInt8, t19[Int.toNat t20]? = some t21_b ∧ W.sel (((t21_b.toNat : Nat) : Int) != 59) (S3 t0 t1 w R) (L4 t0 t1 w R)
def KE_S2 (E : W.Env) (w : World) (R : W.Post) : Prop := W.asRef (W.Env.get? E 0) fun t0 => W.asRef (W.Env.get? E 1) fun t1 => S2 t0 t1 w R
theorem KE_S2_ok (R : W.Post) (E : W.Env) (w : World) (h : KE_S2 E w R) : W.WP Try.prog (W.cx 37) C5 (Q3 R) E w := by
  obtain ⟨t0, hq0, h1⟩ := W.asRef_elim h
  obtain ⟨t1, hq1, h2⟩ := W.asRef_elim h1
  exact fun a ha => W.WP.at (n := (W.cx 37)) (E := [(0, .pointer (some t0)), (1, .pointer (some t1))]) (W.WP.seq (c := C5) (x := C20) (y := C6) (by kernel_rfl) <| W.WP.reg (c := C20) (fun E w => W.condK (W.Env.val E (.tmp 22)) (KE_S3 E w R) (KE_L4 E w R)) (by kernel_rfl) (Eq.mp (by kernel_rfl) h2) fun _ _ a hA hK => (W.WP.condK (c := C6) (x := C7) (y := C21) (o := .tmp 22) (by kernel_rfl) (fun hK => (KE_S3_ok R _ _ hK)) (fun hK => (W.WP.skip (c := C21) (by kernel_rfl) fun a hA => (W.WP.block (c := C8) (x := C11) (id := 2) (by kernel_rfl) (W.WP.loop (c := C11) (x := C12) (by kernel_rfl) (KE_L4_ok R _ _ hK))) a hA)) hK) a hA) (ha.cons hq0 (ha.cons hq1 ha.nil))
noncomputable def C22 : Code := W.Code.fst C2
abbrev Q9 (R : W.Post) : Exit → Act → World → Prop := (Exit.then (W.wpx Try.prog (W.cx 37) C3 (Exit.then (W.LoopWP Try.prog (W.cx 37) C2 (Q1 R)) (Q1 R))) (Exit.then (W.LoopWP Try.prog (W.cx 37) C2 (Q1 R)) (Q1 R)))
noncomputable def C23 : Code := W.Code.fst C22
noncomputable def C24 : Code := W.Code.snd C22
noncomputable def C25 : Code := W.Code.fst C24
noncomputable def C26 : Code := W.Code.snd C24
/-- lexer.go:150 -/
abbrev S1 (t0 t1 : Addr) (w : World) (R : W.Post) : Prop :=
  ∃ t2 : Int, w.cell? t0 = some (.int .i64 t2) ∧ 
  ∃ t3 : ByteArray, w.cell? t1 = some (.string t3) ∧ 
  W.sel (decide (t2 < ((t3.size : Nat) : Int))) (∃ t7 : ByteArray, w.cell? t1 = some (.string t7) ∧ 
  ∃ t8 : Int, w.cell? t0 = some (.int .i64 t8) ∧ 
  (0 : Int) ≤ t8 ∧ ∃ t9_b : UInt8, t7[Int.toNat t8]? = some t9_b ∧ W.sel (((t9_b.toNat : Nat) : Int) == 59) (S2 t0 t1 w R) (∃ t12 : ByteArray, w.cell? t1 = some (.string t12) ∧ 
  ∃ t13 : Int, w.cell? t0 = some (.int .i64 t13) ∧ 
  (0 : Int) ≤ t13 ∧ ∃ t14_b : UInt8, t12[Int.toNat t13]? = some t14_b ∧ Calls Try.prog n_strings_IndexByte #[.string (ByteArray.mk #[9, 10, 13, 32]), .int .u8 ((t14_b.toNat : Nat) : Int)] w fun r_ w1 => ∃ t15 : Int, r_ = .returned (.int .i64 t15) ∧ 
  W.sel (decide (t15 ≥ 0)) (S2 t0 t1 w1 R) (R (.returned (.tuple #[])) w1))) (R (.returned (.tuple #[])) w)
def KE_S1 (E : W.Env) (w : World) (R : W.Post) : Prop := W.asRef (W.Env.get? E 0) fun t0 => W.asRef (W.Env.get? E 1) fun t1 => S1 t0 t1 w R
theorem KE_S1_ok (R : W.Post) (E : W.Env) (w : World) (h : KE_S1 E w R) : W.WP Try.prog (W.cx 37) C22 (Q9 R) E w := by
  obtain ⟨t0, hq0, h1⟩ := W.asRef_elim h
  obtain ⟨t1, hq1, h2⟩ := W.asRef_elim h1
  exact fun a ha => W.WP.at (n := (W.cx 37)) (E := [(0, .pointer (some t0)), (1, .pointer (some t1))]) (W.WP.seq (c := C22) (x := C23) (y := C24) (by kernel_rfl) <| W.WP.reg (c := C23) (fun E w => W.condK (W.Env.val E (.tmp 18)) (KE_S2 E w R) (W.retVC Try.prog Try.f43 E w (fun v => R (.returned v) w))) (by kernel_rfl) (Eq.mp (by kernel_rfl) h2) fun _ _ a hA hK => (W.WP.condK (c := C24) (x := C25) (y := C26) (o := .tmp 18) (by kernel_rfl) (fun hK => (W.WP.skip (c := C25) (by kernel_rfl) fun a hA => (W.WP.block (c := C3) (x := C4) (id := 1) (by kernel_rfl) (W.WP.seq (c := C4) (x := C5) (y := C8) (by kernel_rfl) (KE_S2_ok R _ _ hK))) a hA)) (fun hK => (W.WP.exit (c := C26) (id := 0) (by kernel_rfl) fun a hA => W.retVC_sound hA hK)) hK) a hA) (ha.cons hq0 (ha.cons hq1 ha.nil))
theorem L0_step (t0 t1 : Addr) (w : World) (R : W.Post) (h : S1 t0 t1 w R) : L0 t0 t1 w R :=
  W.LP.step (n := (W.cx 37)) (c := C2) (E := [(0, .pointer (some t0)), (1, .pointer (some t1))]) (w := w) (W.WP.seq (c := C2) (x := C22) (y := C3) (by kernel_rfl) (KE_S1_ok R _ _ (Eq.mp (by kernel_rfl) h)))
/-- enthymeme/lexer.reader$1 -/
theorem ok (t0 t1 : Addr) (w : World) (R : W.Post) (h : L0 t0 t1 w R) : Calls Try.prog n_lexer_reader_1 #[.pointer (some t0), .pointer (some t1)] w R :=
  W.calls_of_WP' (fn := Try.f43) (c := C0) (args := [.pointer (some t0), .pointer (some t1)]) (by kernel_rfl) (by kernel_rfl) (by kernel_rfl) (W.WP.block (c := C0) (x := C1) (id := 0) (by kernel_rfl) (W.WP.loop (c := C1) (x := C2) (by kernel_rfl) (KE_L0_ok R _ _ (Eq.mp (by kernel_rfl) h))))
end lexer_reader_1
namespace lexer_reader_2
noncomputable def C0 : Code := (Try.f45.body).getD .skip
noncomputable def C1 : Code := W.Code.snd C0
noncomputable def C2 : Code := W.Code.snd C1
noncomputable def C3 : Code := W.Code.fst C2
noncomputable def C4 : Code := W.Code.snd C3
noncomputable def C5 : Code := W.Code.fst C4
noncomputable def C6 : Code := W.Code.snd C2
abbrev Q0 (R : W.Post) : Exit → Act → World → Prop := (Exit.then (W.wpx Try.prog (W.cx 138) C6 (bodyPost Try.prog Try.f45 R)) (bodyPost Try.prog Try.f45 R))
noncomputable def C7 : Code := W.Code.fst C5
noncomputable def C8 : Code := W.Code.snd C5
/-- lexer.go:163 -/
abbrev S3 (t1 t3 t4 : Addr) (w : World) (R : W.Post) : Prop :=
  ∃ t18 : Int, w.cell? t1 = some (.int .i64 t18) ∧ 
  W.stV w t3 (.int .i64 6) fun w1 => 
  W.stV w1 (t3.add 1) (.string (ByteArray.mk #[])) fun w2 => 
  W.stV w2 (t3.add 2) (.int .i64 t18) fun w3 => 
  W.stV w3 t4 (.int .i64 0) fun w4 => 
  W.stV w4 (t4.add 1) (.int .i64 0) fun w5 => 
  ∃ r3_0 : Int, ∃ r3_1 : ByteArray, ∃ r3_2 : Int, w5.cell? (t3.add 0) = some (.int .i64 r3_0) ∧ w5.cell? (t3.add 1) = some (.string r3_1) ∧ w5.cell? (t3.add 2) = some (.int .i64 r3_2) ∧ 
  ∃ r4_0 : Int, ∃ r4_1 : Int, w5.cell? (t4.add 0) = some (.int .i64 r4_0) ∧ w5.cell? (t4.add 1) = some (.int .i64 r4_1) ∧ 
  R (.returned (.tuple #[.agg #[.int .i64 r3_0, .string r3_1, .int .i64 r3_2], .agg #[.int .i64 r4_0, .int .i64 r4_1]])) w5
def KE_S3 (E : W.Env) (w : World) (R : W.Post) : Prop := W.asRef (W.Env.get? E 1) fun t1 => W.asRef (W.Env.get? E 3) fun t3 => W.asRef (W.Env.get? E 4) fun t4 => S3 t1 t3 t4 w R
theorem KE_S3_ok (R : W.Post) (E : W.Env) (w : World) (h : KE_S3 E w R) : W.WP Try.prog (W.cx 138) C5 (Q0 R) E w := by
  obtain ⟨t1, hq1, h1⟩ := W.asRef_elim h
  obtain ⟨t3, hq3, h2⟩ := W.asRef_elim h1
  obtain ⟨t4, hq4, h3⟩ := W.asRef_elim h2
  exact fun a ha => W.WP.at (n := (W.cx 138)) (E := [(1, .pointer (some t1)), (3, .pointer (some t3)), (4, .pointer (some t4))]) (W.WP.seq (c := C5) (x := C7) (y := C8) (by kernel_rfl) <| W.WP.reg (c := C7) (fun E w => W.retVC Try.prog Try.f45 E w (fun v => R (.returned v) w)) (by kernel_rfl) (Eq.mp (by kernel_rfl) h3) fun _ _ a hA hK => (W.WP.ret (c := C8) (by kernel_rfl) fun a hA => W.retVC_sound hA hK) a hA) (ha.cons hq1 (ha.cons hq3 (ha.cons hq4 ha.nil)))
noncomputable def C9 : Code := W.Code.snd C6
noncomputable def C10 : Code := W.Code.snd C9
abbrev Q1 (R : W.Post) : Exit → Act → World → Prop := (bodyPost Try.prog Try.f45 R)
noncomputable def C11 : Code := W.Code.fst C10
noncomputable def C12 : Code := W.Code.snd C10
/-- lexer.go:195 -/
abbrev S9 (t3 t4 t5 : Addr) (w : World) (R : W.Post) : Prop :=
  ∃ t136_0 : Int, ∃ t136_1 : ByteArray, ∃ t136_2 : Int, w.cell? (t5.add 0) = some (.int .i64 t136_0) ∧ w.cell? (t5.add 1) = some (.string t136_1) ∧ w.cell? (t5.add 2) = some (.int .i64 t136_2) ∧ 
  W.stV w t3 (.int .i64 t136_0) fun w1 => 
  W.stV w1 (t3.add 1) (.string t136_1) fun w2 => 
  W.stV w2 (t3.add 2) (.int .i64 t136_2) fun w3 => 
  W.stV w3 t4 (.int .i64 0) fun w4 => 
  W.stV w4 (t4.add 1) (.int .i64 0) fun w5 => 
  ∃ r3_0 : Int, ∃ r3_1 : ByteArray, ∃ r3_2 : Int, w5.cell? (t3.add 0) = some (.int .i64 r3_0) ∧ w5.cell? (t3.add 1) = some (.string r3_1) ∧ w5.cell? (t3.add 2) = some (.int .i64 r3_2) ∧ 
  ∃ r4_0 : Int, ∃ r4_1 : Int, w5.cell? (t4.add 0) = some (.int .i64 r4_0) ∧ w5.cell? (t4.add 1) = some (.int .i64 r4_1) ∧ 
  R (.returned (.tuple #[.agg #[.int .i64 r3_0, .string r3_1, .int .i64 r3_2], .agg #[.int .i64 r4_0, .int .i64 r4_1]])) w5
def KE_S9 (E : W.Env) (w : World) (R : W.Post) : Prop := W.asRef (W.Env.get? E 3) fun t3 => W.asRef (W.Env.get? E 4) fun t4 => W.asRef (W.Env.get? E 5) fun t5 => S9 t3 t4 t5 w R
theorem KE_S9_ok (R : W.Post) (E : W.Env) (w : World) (h : KE_S9 E w R) : W.WP Try.prog (W.cx 138) C10 (Q1 R) E w := by
  obtain ⟨t3, hq3, h1⟩ := W.asRef_elim h
  obtain ⟨t4, hq4, h2⟩ := W.asRef_elim h1
  obtain ⟨t5, hq5, h3⟩ := W.asRef_elim h2
  exact fun a ha => W.WP.at (n := (W.cx 138)) (E := [(3, .pointer (some t3)), (4, .pointer (some t4)), (5, .pointer (some t5))]) (W.WP.seq (c := C10) (x := C11) (y := C12) (by kernel_rfl) <| W.WP.reg (c := C11) (fun E w => W.retVC Try.prog Try.f45 E w (fun v => R (.returned v) w)) (by kernel_rfl) (Eq.mp (by kernel_rfl) h3) fun _ _ a hA hK => (W.WP.ret (c := C12) (by kernel_rfl) fun a hA => W.retVC_sound hA hK) a hA) (ha.cons hq3 (ha.cons hq4 (ha.cons hq5 ha.nil)))
noncomputable def C13 : Code := W.Code.fst C9
noncomputable def C14 : Code := W.Code.snd C13
noncomputable def C15 : Code := W.Code.fst C14
noncomputable def C16 : Code := W.Code.snd C15
noncomputable def C17 : Code := W.Code.fst C16
noncomputable def C18 : Code := W.Code.snd C17
abbrev Q2 (R : W.Post) : Exit → Act → World → Prop := (Exit.then (W.wpx Try.prog (W.cx 138) C10 (bodyPost Try.prog Try.f45 R)) (bodyPost Try.prog Try.f45 R))
abbrev Q3 (R : W.Post) : Exit → Act → World → Prop := (Exit.inBlock 0 (Q2 R))
/-- lexer.go:169 -/
abbrev S8 (t1 t3 t4 t5 : Addr) (w : World) (R : W.Post) : Prop :=
  ∃ t33 : Int, w.cell? t1 = some (.int .i64 t33) ∧ 
  W.stV w t1 (.int .i64 (IntKind.wrap .i64 (t33 + 1))) fun w1 => 
  S9 t3 t4 t5 w1 R
def KE_S8 (E : W.Env) (w : World) (R : W.Post) : Prop := W.asRef (W.Env.get? E 1) fun t1 => W.asRef (W.Env.get? E 3) fun t3 => W.asRef (W.Env.get? E 4) fun t4 => W.asRef (W.Env.get? E 5) fun t5 => S8 t1 t3 t4 t5 w R
theorem KE_S8_ok (R : W.Post) (E : W.Env) (w : World) (h : KE_S8 E w R) : W.WP Try.prog (W.cx 138) C18 (Q3 R) E w := by
  obtain ⟨t1, hq1, h1⟩ := W.asRef_elim h
  obtain ⟨t3, hq3, h2⟩ := W.asRef_elim h1
  obtain ⟨t4, hq4, h3⟩ := W.asRef_elim h2
  obtain ⟨t5, hq5, h4⟩ := W.asRef_elim h3
  exact fun a ha => W.WP.at (n := (W.cx 138)) (E := [(1, .pointer (some t1)), (3, .pointer (some t3)), (4, .pointer (some t4)), (5, .pointer (some t5))]) (W.WP.reg (c := C18) (fun E w => KE_S9 E w R) (by kernel_rfl) (Eq.mp (by kernel_rfl) h4) fun _ _ a hA hK => (KE_S9_ok R _ _ hK) a hA) (ha.cons hq1 (ha.cons hq3 (ha.cons hq4 (ha.cons hq5 ha.nil))))
noncomputable def C19 : Code := W.Code.fst C17
/-- lexer.go:168 -/
abbrev S7 (t1 t3 t4 t5 : Addr) (w : World) (R : W.Post) : Prop :=
  W.stV w (t5.add 0) (.int .i64 0) fun w1 => 
  S8 t1 t3 t4 t5 w1 R
def KE_S7 (E : W.Env) (w : World) (R : W.Post) : Prop := W.asRef (W.Env.get? E 1) fun t1 => W.asRef (W.Env.get? E 3) fun t3 => W.asRef (W.Env.get? E 4) fun t4 => W.asRef (W.Env.get? E 5) fun t5 => S7 t1 t3 t4 t5 w R
theorem KE_S7_ok (R : W.Post) (E : W.Env) (w : World) (h : KE_S7 E w R) : W.WP Try.prog (W.cx 138) C17 (Q3 R) E w := by
  obtain ⟨t1, hq1, h1⟩ := W.asRef_elim h
  obtain ⟨t3, hq3, h2⟩ := W.asRef_elim h1
  obtain ⟨t4, hq4, h3⟩ := W.asRef_elim h2
  obtain ⟨t5, hq5, h4⟩ := W.asRef_elim h3
  exact fun a ha => W.WP.at (n := (W.cx 138)) (E := [(1, .pointer (some t1)), (3, .pointer (some t3)), (4, .pointer (some t4)), (5, .pointer (some t5))]) (W.WP.seq (c := C17) (x := C19) (y := C18) (by kernel_rfl) <| W.WP.reg (c := C19) (fun E w => KE_S8 E w R) (by kernel_rfl) (Eq.mp (by kernel_rfl) h4) fun _ _ a hA hK => (KE_S8_ok R _ _ hK) a hA) (ha.cons hq1 (ha.cons hq3 (ha.cons hq4 (ha.cons hq5 ha.nil))))
noncomputable def C20 : Code := W.Code.snd C16
noncomputable def C21 : Code := W.Code.snd C20
noncomputable def C22 : Code := W.Code.fst C21
noncomputable def C23 : Code := W.Code.snd C22
/-- lexer.go:172 -/
abbrev S12 (t1 t3 t4 t5 : Addr) (w : World) (R : W.Post) : Prop :=
  ∃ t39 : Int, w.cell? t1 = some (.int .i64 t39) ∧ 
  W.stV w t1 (.int .i64 (IntKind.wrap .i64 (t39 + 1))) fun w1 => 
  S9 t3 t4 t5 w1 R
def KE_S12 (E : W.Env) (w : World) (R : W.Post) : Prop := W.asRef (W.Env.get? E 1) fun t1 => W.asRef (W.Env.get? E 3) fun t3 => W.asRef (W.Env.get? E 4) fun t4 => W.asRef (W.Env.get? E 5) fun t5 => S12 t1 t3 t4 t5 w R
theorem KE_S12_ok (R : W.Post) (E : W.Env) (w : World) (h : KE_S12 E w R) : W.WP Try.prog (W.cx 138) C23 (Q3 R) E w := by
  obtain ⟨t1, hq1, h1⟩ := W.asRef_elim h
  obtain ⟨t3, hq3, h2⟩ := W.asRef_elim h1
  obtain ⟨t4, hq4, h3⟩ := W.asRef_elim h2
  obtain ⟨t5, hq5, h4⟩ := W.asRef_elim h3
  exact fun a ha => W.WP.at (n := (W.cx 138)) (E := [(1, .pointer (some t1)), (3, .pointer (some t3)), (4, .pointer (some t4)), (5, .pointer (some t5))]) (W.WP.reg (c := C23) (fun E w => KE_S9 E w R) (by kernel_rfl) (Eq.mp (by kernel_rfl) h4) fun _ _ a hA hK => (KE_S9_ok R _ _ hK) a hA) (ha.cons hq1 (ha.cons hq3 (ha.cons hq4 (ha.cons hq5 ha.nil))))
noncomputable def C24 : Code := W.Code.fst C22
/-- lexer.go:171 -/
abbrev S11 (t1 t3 t4 t5 : Addr) (w : World) (R : W.Post) : Prop :=
  W.stV w (t5.add 0) (.int .i64 1) fun w1 => 
  S12 t1 t3 t4 t5 w1 R
def KE_S11 (E : W.Env) (w : World) (R : W.Post) : Prop := W.asRef (W.Env.get? E 1) fun t1 => W.asRef (W.Env.get? E 3) fun t3 => W.asRef (W.Env.get? E 4) fun t4 => W.asRef (W.Env.get? E 5) fun t5 => S11 t1 t3 t4 t5 w R
theorem KE_S11_ok (R : W.Post) (E : W.Env) (w : World) (h : KE_S11 E w R) : W.WP Try.prog (W.cx 138) C22 (Q3 R) E w := by
  obtain ⟨t1, hq1, h1⟩ := W.asRef_elim h
  obtain ⟨t3, hq3, h2⟩ := W.asRef_elim h1
  obtain ⟨t4, hq4, h3⟩ := W.asRef_elim h2
  obtain ⟨t5, hq5, h4⟩ := W.asRef_elim h3
  exact fun a ha => W.WP.at (n := (W.cx 138)) (E := [(1, .pointer (some t1)), (3, .pointer (some t3)), (4, .pointer (some t4)), (5, .pointer (some t5))]) (W.WP.seq (c := C22) (x := C24) (y := C23) (by kernel_rfl) <| W.WP.reg (c := C24) (fun E w => KE_S12 E w R) (by kernel_rfl) (Eq.mp (by kernel_rfl) h4) fun _ _ a hA hK => (KE_S12_ok R _ _ hK) a hA) (ha.cons hq1 (ha.cons hq3 (ha.cons hq4 (ha.cons hq5 ha.nil))))
noncomputable def C25 : Code := W.Code.snd C21
noncomputable def C26 : Code := W.Code.snd C25
noncomputable def C27 : Code := W.Code.fst C26
noncomputable def C28 : Code := W.Code.snd C27
noncomputable def C29 : Code := W.Code.fst C28
noncomputable def C30 : Code := W.Code.snd C29
noncomputable def C31 : Code := W.Code.fst C30
noncomputable def C32 : Code := W.Code.snd C28
abbrev Q4 (R : W.Post) : Exit → Act → World → Prop := (Exit.then (W.wpx Try.prog (W.cx 138) C32 (Exit.inBlock 0 (Q2 R))) (Exit.inBlock 0 (Q2 R)))
noncomputable def C33 : Code := W.Code.fst C31
noncomputable def C34 : Code := W.Code.snd C31
/-- lexer.go:176 -/
abbrev S16 (t3 t4 f9 : Addr) (w : World) (R : W.Post) : Prop :=
  W.drV w fun w1 => ∃ t55_0 : Int, ∃ t55_1 : Int, w1.cell? (f9.add 0) = some (.int .i64 t55_0) ∧ w1.cell? (f9.add 1) = some (.int .i64 t55_1) ∧ 
  W.stV w1 t3 (.int .i64 0) fun w2 => 
  W.stV w2 (t3.add 1) (.string (ByteArray.mk #[])) fun w3 => 
  W.stV w3 (t3.add 2) (.int .i64 0) fun w4 => 
  w4.cell? (f9.add 0) = some (.int .i64 t55_0) ∧ w4.cell? (f9.add 1) = some (.int .i64 t55_1) ∧ W.stV w4 t4 (.int .i64 t55_0) fun w5 => 
  W.stV w5 (t4.add 1) (.int .i64 t55_1) fun w6 => 
  ∃ r3_0 : Int, ∃ r3_1 : ByteArray, ∃ r3_2 : Int, w6.cell? (t3.add 0) = some (.int .i64 r3_0) ∧ w6.cell? (t3.add 1) = some (.string r3_1) ∧ w6.cell? (t3.add 2) = some (.int .i64 r3_2) ∧ 
  ∃ r4_0 : Int, ∃ r4_1 : Int, w6.cell? (t4.add 0) = some (.int .i64 r4_0) ∧ w6.cell? (t4.add 1) = some (.int .i64 r4_1) ∧ 
  R (.returned (.tuple #[.agg #[.int .i64 r3_0, .string r3_1, .int .i64 r3_2], .agg #[.int .i64 r4_0, .int .i64 r4_1]])) w6
def KE_S16 (E : W.Env) (w : World) (R : W.Post) : Prop := W.asRef (W.Env.get? E 3) fun t3 => W.asRef (W.Env.get? E 4) fun t4 => W.asRef (W.Env.get? E 9) fun f9 => S16 t3 t4 f9 w R
theorem KE_S16_ok (R : W.Post) (E : W.Env) (w : World) (h : KE_S16 E w R) : W.WP Try.prog (W.cx 138) C31 (Q4 R) E w := by
  obtain ⟨t3, hq3, h1⟩ := W.asRef_elim h
  obtain ⟨t4, hq4, h2⟩ := W.asRef_elim h1
  obtain ⟨f9, hq9, h3⟩ := W.asRef_elim h2
  exact fun a ha => W.WP.at (n := (W.cx 138)) (E := [(3, .pointer (some t3)), (4, .pointer (some t4)), (9, .pointer (some f9))]) (W.WP.seq (c := C31) (x := C33) (y := C34) (by kernel_rfl) <| W.WP.draw (c := C33) [0, 1, 2, 3] (fun E w => W.retVC Try.prog Try.f45 E w (fun v => R (.returned v) w)) (by kernel_rfl) (Eq.mp (by kernel_rfl) h3) fun _ _ a hA hK => (W.WP.ret (c := C34) (by kernel_rfl) fun a hA => W.retVC_sound hA hK) a hA) (ha.cons hq3 (ha.cons hq4 (ha.cons hq9 ha.nil)))
/-- lexer.go:178 -/
abbrev S17 (t1 t3 t4 t5 : Addr) (text7 : ByteArray) (next8 : Int) (w : World) (R : W.Post) : Prop :=
  W.stV w (t5.add 0) (.int .i64 5) fun w1 => 
  W.stV w1 (t5.add 1) (.string text7) fun w2 => 
  W.stV w2 t1 (.int .i64 next8) fun w3 => 
  S9 t3 t4 t5 w3 R
def KE_S17 (E : W.Env) (w : World) (R : W.Post) : Prop := W.asRef (W.Env.get? E 1) fun t1 => W.asRef (W.Env.get? E 3) fun t3 => W.asRef (W.Env.get? E 4) fun t4 => W.asRef (W.Env.get? E 5) fun t5 => W.asStr (W.Env.get? E 7) fun text7 => W.asInt .i64 (W.Env.get? E 8) fun next8 => S17 t1 t3 t4 t5 text7 next8 w R
theorem KE_S17_ok (R : W.Post) (E : W.Env) (w : World) (h : KE_S17 E w R) : W.WP Try.prog (W.cx 138) C32 (Q3 R) E w := by
  obtain ⟨t1, hq1, h1⟩ := W.asRef_elim h
  obtain ⟨t3, hq3, h2⟩ := W.asRef_elim h1
  obtain ⟨t4, hq4, h3⟩ := W.asRef_elim h2
  obtain ⟨t5, hq5, h4⟩ := W.asRef_elim h3
  obtain ⟨text7, hq7, h5⟩ := W.asStr_elim h4
  obtain ⟨next8, hq8, h6⟩ := W.asInt_elim h5
  exact fun a ha => W.WP.at (n := (W.cx 138)) (E := [(1, .pointer (some t1)), (3, .pointer (some t3)), (4, .pointer (some t4)), (5, .pointer (some t5)), (7, .string text7), (8, .int .i64 next8)]) (W.WP.reg (c := C32) (fun E w => KE_S9 E w R) (by kernel_rfl) (Eq.mp (by kernel_rfl) h6) fun _ _ a hA hK => (KE_S9_ok R _ _ hK) a hA) (ha.cons hq1 (ha.cons hq3 (ha.cons hq4 (ha.cons hq5 (ha.cons hq7 (ha.cons hq8 ha.nil))))))
noncomputable def C35 : Code := W.Code.fst C29
noncomputable def C36 : Code := W.Code.snd C30
/-- lexer.go:175 -/
abbrev S15 (t1 t3 t4 t5 : Addr) (text7 : ByteArray) (next8 : Int) (f9 : Addr) (w : World) (R : W.Post) : Prop :=
  ∃ t52 : Int, w.cell? (f9.add 0) = some (.int .i64 t52) ∧ 
  W.sel (t52 != 0) (S16 t3 t4 f9 w R) (S17 t1 t3 t4 t5 text7 next8 w R)
def KE_S15 (E : W.Env) (w : World) (R : W.Post) : Prop := W.asRef (W.Env.get? E 1) fun t1 => W.asRef (W.Env.get? E 3) fun t3 => W.asRef (W.Env.get? E 4) fun t4 => W.asRef (W.Env.get? E 5) fun t5 => W.asStr (W.Env.get? E 7) fun text7 => W.asInt .i64 (W.Env.get? E 8) fun next8 => W.asRef (W.Env.get? E 9) fun f9 => S15 t1 t3 t4 t5 text7 next8 f9 w R
theorem KE_S15_ok (R : W.Post) (E : W.Env) (w : World) (h : KE_S15 E w R) : W.WP Try.prog (W.cx 138) C29 (Q4 R) E w := by
  obtain ⟨t1, hq1, h1⟩ := W.asRef_elim h
  obtain ⟨t3, hq3, h2⟩ := W.asRef_elim h1
  obtain ⟨t4, hq4, h3⟩ := W.asRef_elim h2
  obtain ⟨t5, hq5, h4⟩ := W.asRef_elim h3
  obtain ⟨text7, hq7, h5⟩ := W.asStr_elim h4
  obtain ⟨next8, hq8, h6⟩ := W.asInt_elim h5
  obtain ⟨f9, hq9, h7⟩ := W.asRef_elim h6
  exact fun a ha => W.WP.at (n := (W.cx 138)) (E := [(1, .pointer (some t1)), (3, .pointer (some t3)), (4, .pointer (some t4)), (5, .pointer (some t5)), (7, .string text7), (8, .int .i64 next8), (9, .pointer (some f9))]) (W.WP.seq (c := C29) (x := C35) (y := C30) (by kernel_rfl) <| W.WP.reg (c := C35) (fun E w => W.condK (W.Env.val E (.tmp 53)) (KE_S16 E w R) (KE_S17 E w R)) (by kernel_rfl) (Eq.mp (by kernel_rfl) h7) fun _ _ a hA hK => (W.WP.condK (c := C30) (x := C31) (y := C36) (o := .tmp 53) (by kernel_rfl) (fun hK => (KE_S16_ok R _ _ hK)) (fun hK => (W.WP.skip (c := C36) (by kernel_rfl) fun a hA => (KE_S17_ok R _ _ hK) a hA)) hK) a hA) (ha.cons hq1 (ha.cons hq3 (ha.cons hq4 (ha.cons hq5 (ha.cons hq7 (ha.cons hq8 (ha.cons hq9 ha.nil)))))))
noncomputable def C37 : Code := W.Code.fst C27
/-- lexer.go:174 -/
abbrev S14 (t1 t2 t3 t4 t5 : Addr) (w : World) (R : W.Post) : Prop :=
  ∃ t45 : ByteArray, w.cell? t2 = some (.string t45) ∧ 
  ∃ t46 : Int, w.cell? t1 = some (.int .i64 t46) ∧ 
  Calls Try.prog n_lexer_quoted #[.string t45, .int .i64 t46] w fun r_ w1 => ∃ t47_0 : ByteArray, ∃ t47_1 : Int, ∃ t47_2_0 : Int, ∃ t47_2_1 : Int, r_ = .returned (.tuple #[.string t47_0, .int .i64 t47_1, .agg #[.int .i64 t47_2_0, .int .i64 t47_2_1]]) ∧ 
  W.nwV w1 (.cells #[.int .i64 0, .int .i64 0] ty_lexer_fault) fun w2 => 
  W.stV w2 (Addr.mk w1.heap.size 0 none) (.int .i64 t47_2_0) fun w3 => 
  W.stV w3 ((Addr.mk w1.heap.size 0 none).add 1) (.int .i64 t47_2_1) fun w4 => 
  S15 t1 t3 t4 t5 t47_0 t47_1 (Addr.mk w1.heap.size 0 none) w4 R
def KE_S14 (E : W.Env) (w : World) (R : W.Post) : Prop := W.asRef (W.Env.get? E 1) fun t1 => W.asRef (W.Env.get? E 2) fun t2 => W.asRef (W.Env.get? E 3) fun t3 => W.asRef (W.Env.get? E 4) fun t4 => W.asRef (W.Env.get? E 5) fun t5 => S14 t1 t2 t3 t4 t5 w R
theorem KE_S14_ok (R : W.Post) (E : W.Env) (w : World) (h : KE_S14 E w R) : W.WP Try.prog (W.cx 138) C27 (Q3 R) E w := by
  obtain ⟨t1, hq1, h1⟩ := W.asRef_elim h
  obtain ⟨t2, hq2, h2⟩ := W.asRef_elim h1
  obtain ⟨t3, hq3, h3⟩ := W.asRef_elim h2
  obtain ⟨t4, hq4, h4⟩ := W.asRef_elim h3
  obtain ⟨t5, hq5, h5⟩ := W.asRef_elim h4
  exact fun a ha => W.WP.at (n := (W.cx 138)) (E := [(1, .pointer (some t1)), (2, .pointer (some t2)), (3, .pointer (some t3)), (4, .pointer (some t4)), (5, .pointer (some t5))]) (W.WP.seq (c := C27) (x := C37) (y := C28) (by kernel_rfl) <| W.WP.reg (c := C37) (fun E w => KE_S15 E w R) (by kernel_rfl) (Eq.mp (by kernel_rfl) h5) fun _ _ a hA hK => (W.WP.seq (c := C28) (x := C29) (y := C32) (by kernel_rfl) (KE_S15_ok R _ _ hK)) a hA) (ha.cons hq1 (ha.cons hq2 (ha.cons hq3 (ha.cons hq4 (ha.cons hq5 ha.nil)))))
noncomputable def C38 : Code := W.Code.snd C26
noncomputable def C39 : Code := W.Code.snd C38
noncomputable def C40 : Code := W.Code.fst C39
noncomputable def C41 : Code := W.Code.fst C40
noncomputable def C42 : Code := W.Code.fst C41
noncomputable def C43 : Code := W.Code.fst C42
noncomputable def C44 : Code := W.Code.snd C40
abbrev Q5 (R : W.Post) : Exit → Act → World → Prop := (Exit.then (W.wpx Try.prog (W.cx 138) C44 (Exit.inBlock 0 (Q2 R))) (Exit.inBlock 0 (Q2 R)))
abbrev Q6 (R : W.Post) : Exit → Act → World → Prop := (Exit.inBlock 1 (Q5 R))
/-- the head of the loop, lexer.go:180 -/
def L19 (t1 t2 t3 t4 t5 : Addr) (w : World) (R : W.Post) : Prop := W.LP Try.prog (W.cx 138) C43 (Q6 R) [(1, .pointer (some t1)), (2, .pointer (some t2)), (3, .pointer (some t3)), (4, .pointer (some t4)), (5, .pointer (some t5))] w
def KE_L19 (E : W.Env) (w : World) (R : W.Post) : Prop := W.asRef (W.Env.get? E 1) fun t1 => W.asRef (W.Env.get? E 2) fun t2 => W.asRef (W.Env.get? E 3) fun t3 => W.asRef (W.Env.get? E 4) fun t4 => W.asRef (W.Env.get? E 5) fun t5 => L19 t1 t2 t3 t4 t5 w R
theorem KE_L19_ok (R : W.Post) (E : W.Env) (w : World) (h : KE_L19 E w R) : W.LP Try.prog (W.cx 138) C43 (Q6 R) E w := by
  obtain ⟨t1, hq1, h1⟩ := W.asRef_elim h
  obtain ⟨t2, hq2, h2⟩ := W.asRef_elim h1
  obtain ⟨t3, hq3, h3⟩ := W.asRef_elim h2
  obtain ⟨t4, hq4, h4⟩ := W.asRef_elim h3
  obtain ⟨t5, hq5, h5⟩ := W.asRef_elim h4
  intro a ha
  exact h5 a (ha.cons hq1 (ha.cons hq2 (ha.cons hq3 (ha.cons hq4 (ha.cons hq5 ha.nil)))))
noncomputable def C45 : Code := W.Code.snd C43
noncomputable def C46 : Code := W.Code.fst C45
abbrev Q7 (R : W.Post) : Exit → Act → World → Prop := (Exit.then (W.LoopWP Try.prog (W.cx 138) C43 (Q6 R)) (Q6 R))
abbrev Q8 (R : W.Post) : Exit → Act → World → Prop := (Exit.inBlock 2 (Q7 R))
/-- lexer.go:181 -/
abbrev S21 (t1 t2 t3 t4 t5 : Addr) (w : World) (R : W.Post) : Prop :=
  ∃ t99 : Int, w.cell? t1 = some (.int .i64 t99) ∧ 
  W.stV w t1 (.int .i64 (IntKind.wrap .i64 (t99 + 1))) fun w1 => 
  L19 t1 t2 t3 t4 t5 w1 R
def KE_S21 (E : W.Env) (w : World) (R : W.Post) : Prop := W.asRef (W.Env.get? E 1) fun t1 => W.asRef (W.Env.get? E 2) fun t2 => W.asRef (W.Env.get? E 3) fun t3 => W.asRef (W.Env.get? E 4) fun t4 => W.asRef (W.Env.get? E 5) fun t5 => S21 t1 t2 t3 t4 t5 w R
theorem KE_S21_ok (R : W.Post) (E : W.Env) (w : World) (h : KE_S21 E w R) : W.WP Try.prog (W.cx 138) C46 (Q8 R) E w := by
  obtain ⟨t1, hq1, h1⟩ := W.asRef_elim h
  obtain ⟨t2, hq2, h2⟩ := W.asRef_elim h1
  obtain ⟨t3, hq3, h3⟩ := W.asRef_elim h2
  obtain ⟨t4, hq4, h4⟩ := W.asRef_elim h3
  obtain ⟨t5, hq5, h5⟩ := W.asRef_elim h4
  exact fun a ha => W.WP.at (n := (W.cx 138)) (E := [(1, .pointer (some t1)), (2, .pointer (some t2)), (3, .pointer (some t3)), (4, .pointer (some t4)), (5, .pointer (some t5))]) (W.WP.reg (c := C46) (fun E w => KE_L19 E w R) (by kernel_rfl) (Eq.mp (by kernel_rfl) h5) fun _ _ a hA hK => KE_L19_ok R _ _ hK a hA) (ha.cons hq1 (ha.cons hq2 (ha.cons hq3 (ha.cons hq4 (ha.cons hq5 ha.nil)))))
noncomputable def C47 : Code := W.Code.snd C44
noncomputable def C48 : Code := W.Code.snd C47
noncomputable def C49 : Code := W.Code.fst C48
noncomputable def C50 : Code := W.Code.snd C49
noncomputable def C51 : Code := W.Code.fst C50
noncomputable def C52 : Code := W.Code.snd C48
abbrev Q9 (R : W.Post) : Exit → Act → World → Prop := (Exit.then (W.wpx Try.prog (W.cx 138) C52 (Exit.inBlock 0 (Q2 R))) (Exit.inBlock 0 (Q2 R)))
noncomputable def C53 : Code := W.Code.fst C51
noncomputable def C54 : Code := W.Code.snd C51
/-- lexer.go:186 -/
abbrev S25 (t3 t4 t5 : Addr) (e11 : Int) (w : World) (R : W.Post) : Prop :=
  W.drV w fun w1 => ∃ t118 : Int, w1.cell? (t5.add 2) = some (.int .i64 t118) ∧ 
  W.stV w1 t3 (.int .i64 0) fun w2 => 
  W.stV w2 (t3.add 1) (.string (ByteArray.mk #[])) fun w3 => 
  W.stV w3 (t3.add 2) (.int .i64 0) fun w4 => 
  w4.cell? (t5.add 2) = some (.int .i64 t118) ∧ W.stV w4 t4 (.int .i64 e11) fun w5 => 
  W.stV w5 (t4.add 1) (.int .i64 t118) fun w6 => 
  ∃ r3_0 : Int, ∃ r3_1 : ByteArray, ∃ r3_2 : Int, w6.cell? (t3.add 0) = some (.int .i64 r3_0) ∧ w6.cell? (t3.add 1) = some (.string r3_1) ∧ w6.cell? (t3.add 2) = some (.int .i64 r3_2) ∧ 
  ∃ r4_0 : Int, ∃ r4_1 : Int, w6.cell? (t4.add 0) = some (.int .i64 r4_0) ∧ w6.cell? (t4.add 1) = some (.int .i64 r4_1) ∧ 
  R (.returned (.tuple #[.agg #[.int .i64 r3_0, .string r3_1, .int .i64 r3_2], .agg #[.int .i64 r4_0, .int .i64 r4_1]])) w6
def KE_S25 (E : W.Env) (w : World) (R : W.Post) : Prop := W.asRef (W.Env.get? E 3) fun t3 => W.asRef (W.Env.get? E 4) fun t4 => W.asRef (W.Env.get? E 5) fun t5 => W.asInt .i64 (W.Env.get? E 11) fun e11 => S25 t3 t4 t5 e11 w R
theorem KE_S25_ok (R : W.Post) (E : W.Env) (w : World) (h : KE_S25 E w R) : W.WP Try.prog (W.cx 138) C51 (Q9 R) E w := by
  obtain ⟨t3, hq3, h1⟩ := W.asRef_elim h
  obtain ⟨t4, hq4, h2⟩ := W.asRef_elim h1
  obtain ⟨t5, hq5, h3⟩ := W.asRef_elim h2
  obtain ⟨e11, hq11, h4⟩ := W.asInt_elim h3
  exact fun a ha => W.WP.at (n := (W.cx 138)) (E := [(3, .pointer (some t3)), (4, .pointer (some t4)), (5, .pointer (some t5)), (11, .int .i64 e11)]) (W.WP.seq (c := C51) (x := C53) (y := C54) (by kernel_rfl) <| W.WP.draw (c := C53) [0, 1, 2, 3, 4, 5, 6] (fun E w => W.retVC Try.prog Try.f45 E w (fun v => R (.returned v) w)) (by kernel_rfl) (Eq.mp (by kernel_rfl) h4) fun _ _ a hA hK => (W.WP.ret (c := C54) (by kernel_rfl) fun a hA => W.retVC_sound hA hK) a hA) (ha.cons hq3 (ha.cons hq4 (ha.cons hq5 (ha.cons hq11 ha.nil))))
noncomputable def C55 : Code := W.Code.fst C52
noncomputable def C56 : Code := W.Code.snd C55
noncomputable def C57 : Code := W.Code.fst C56
noncomputable def C58 : Code := W.Code.snd C52
abbrev Q10 (R : W.Post) : Exit → Act → World → Prop := (Exit.then (W.wpx Try.prog (W.cx 138) C58 (Exit.inBlock 0 (Q2 R))) (Exit.inBlock 0 (Q2 R)))
noncomputable def C59 : Code := W.Code.fst C57
noncomputable def C60 : Code := W.Code.snd C57
/-- lexer.go:189 -/
abbrev S27 (t1 t3 t4 : Addr) (w : World) (R : W.Post) : Prop :=
  W.drV w fun w1 => ∃ t132 : Int, w1.cell? t1 = some (.int .i64 t132) ∧ 
  W.stV w1 t3 (.int .i64 0) fun w2 => 
  W.stV w2 (t3.add 1) (.string (ByteArray.mk #[])) fun w3 => 
  W.stV w3 (t3.add 2) (.int .i64 0) fun w4 => 
  w4.cell? t1 = some (.int .i64 t132) ∧ W.stV w4 t4 (.int .i64 2) fun w5 => 
  W.stV w5 (t4.add 1) (.int .i64 t132) fun w6 => 
  ∃ r3_0 : Int, ∃ r3_1 : ByteArray, ∃ r3_2 : Int, w6.cell? (t3.add 0) = some (.int .i64 r3_0) ∧ w6.cell? (t3.add 1) = some (.string r3_1) ∧ w6.cell? (t3.add 2) = some (.int .i64 r3_2) ∧ 
  ∃ r4_0 : Int, ∃ r4_1 : Int, w6.cell? (t4.add 0) = some (.int .i64 r4_0) ∧ w6.cell? (t4.add 1) = some (.int .i64 r4_1) ∧ 
  R (.returned (.tuple #[.agg #[.int .i64 r3_0, .string r3_1, .int .i64 r3_2], .agg #[.int .i64 r4_0, .int .i64 r4_1]])) w6
def KE_S27 (E : W.Env) (w : World) (R : W.Post) : Prop := W.asRef (W.Env.get? E 1) fun t1 => W.asRef (W.Env.get? E 3) fun t3 => W.asRef (W.Env.get? E 4) fun t4 => S27 t1 t3 t4 w R
theorem KE_S27_ok (R : W.Post) (E : W.Env) (w : World) (h : KE_S27 E w R) : W.WP Try.prog (W.cx 138) C57 (Q10 R) E w := by
  obtain ⟨t1, hq1, h1⟩ := W.asRef_elim h
  obtain ⟨t3, hq3, h2⟩ := W.asRef_elim h1
  obtain ⟨t4, hq4, h3⟩ := W.asRef_elim h2
  exact fun a ha => W.WP.at (n := (W.cx 138)) (E := [(1, .pointer (some t1)), (3, .pointer (some t3)), (4, .pointer (some t4))]) (W.WP.seq (c := C57) (x := C59) (y := C60) (by kernel_rfl) <| W.WP.draw (c := C59) [0, 1, 2, 3, 4] (fun E w => W.retVC Try.prog Try.f45 E w (fun v => R (.returned v) w)) (by kernel_rfl) (Eq.mp (by kernel_rfl) h3) fun _ _ a hA hK => (W.WP.ret (c := C60) (by kernel_rfl) fun a hA => W.retVC_sound hA hK) a hA) (ha.cons hq1 (ha.cons hq3 (ha.cons hq4 ha.nil)))
/-- lexer.go:191 -/
abbrev S28 (t3 t4 t5 : Addr) (kind10 : Int) (w : World) (R : W.Post) : Prop :=
  W.stV w (t5.add 0) (.int .i64 kind10) fun w1 => 
  S9 t3 t4 t5 w1 R
def KE_S28 (E : W.Env) (w : World) (R : W.Post) : Prop := W.asRef (W.Env.get? E 3) fun t3 => W.asRef (W.Env.get? E 4) fun t4 => W.asRef (W.Env.get? E 5) fun t5 => W.asInt .i64 (W.Env.get? E 10) fun kind10 => S28 t3 t4 t5 kind10 w R
theorem KE_S28_ok (R : W.Post) (E : W.Env) (w : World) (h : KE_S28 E w R) : W.WP Try.prog (W.cx 138) C58 (Q3 R) E w := by
  obtain ⟨t3, hq3, h1⟩ := W.asRef_elim h
  obtain ⟨t4, hq4, h2⟩ := W.asRef_elim h1
  obtain ⟨t5, hq5, h3⟩ := W.asRef_elim h2
  obtain ⟨kind10, hq10, h4⟩ := W.asInt_elim h3
  exact fun a ha => W.WP.at (n := (W.cx 138)) (E := [(3, .pointer (some t3)), (4, .pointer (some t4)), (5, .pointer (some t5)), (10, .int .i64 kind10)]) (W.WP.reg (c := C58) (fun E w => KE_S9 E w R) (by kernel_rfl) (Eq.mp (by kernel_rfl) h4) fun _ _ a hA hK => (KE_S9_ok R _ _ hK) a hA) (ha.cons hq3 (ha.cons hq4 (ha.cons hq5 (ha.cons hq10 ha.nil))))
noncomputable def C61 : Code := W.Code.fst C55
noncomputable def C62 : Code := W.Code.snd C56
/-- lexer.go:188 -/
abbrev S26 (t1 t2 t3 t4 t5 : Addr) (kind10 : Int) (w : World) (R : W.Post) : Prop :=
  ∃ t120 : Int, w.cell? t1 = some (.int .i64 t120) ∧ 
  ∃ t121 : ByteArray, w.cell? t2 = some (.string t121) ∧ 
  W.sel (decide (t120 < ((t121.size : Nat) : Int))) (∃ t125 : ByteArray, w.cell? t2 = some (.string t125) ∧ 
  ∃ t126 : Int, w.cell? t1 = some (.int .i64 t126) ∧ 
  (0 : Int) ≤ t126 ∧ ∃ t127_b : UInt8, t125[Int.toNat t126]? = some t127_b ∧ Calls Try.prog n_strings_IndexByte #[.string (ByteArray.mk #[9, 10, 13, 32, 59, 40, 41, 34]), .int .u8 ((t127_b.toNat : Nat) : Int)] w fun r_ w1 => ∃ t128 : Int, r_ = .returned (.int .i64 t128) ∧ 
  W.sel (decide (t128 < 0)) (S27 t1 t3 t4 w1 R) (S28 t3 t4 t5 kind10 w1 R)) (S28 t3 t4 t5 kind10 w R)
def KE_S26 (E : W.Env) (w : World) (R : W.Post) : Prop := W.asRef (W.Env.get? E 1) fun t1 => W.asRef (W.Env.get? E 2) fun t2 => W.asRef (W.Env.get? E 3) fun t3 => W.asRef (W.Env.get? E 4) fun t4 => W.asRef (W.Env.get? E 5) fun t5 => W.asInt .i64 (W.Env.get? E 10) fun kind10 => S26 t1 t2 t3 t4 t5 kind10 w R
theorem KE_S26_ok (R : W.Post) (E : W.Env) (w : World) (h : KE_S26 E w R) : W.WP Try.prog (W.cx 138) C55 (Q10 R) E w := by
  obtain ⟨t1, hq1, h1⟩ := W.asRef_elim h
  obtain ⟨t2, hq2, h2⟩ := W.asRef_elim h1
  obtain ⟨t3, hq3, h3⟩ := W.asRef_elim h2
  obtain ⟨t4, hq4, h4⟩ := W.asRef_elim h3
  obtain ⟨t5, hq5, h5⟩ := W.asRef_elim h4
  obtain ⟨kind10, hq10, h6⟩ := W.asInt_elim h5
  exact fun a ha => W.WP.at (n := (W.cx 138)) (E := [(1, .pointer (some t1)), (2, .pointer (some t2)), (3, .pointer (some t3)), (4, .pointer (some t4)), (5, .pointer (some t5)), (10, .int .i64 kind10)]) (W.WP.seq (c := C55) (x := C61) (y := C56) (by kernel_rfl) <| W.WP.reg (c := C61) (fun E w => W.condK (W.Env.val E (.tmp 130)) (KE_S27 E w R) (KE_S28 E w R)) (by kernel_rfl) (Eq.mp (by kernel_rfl) h6) fun _ _ a hA hK => (W.WP.condK (c := C56) (x := C57) (y := C62) (o := .tmp 130) (by kernel_rfl) (fun hK => (KE_S27_ok R _ _ hK)) (fun hK => (W.WP.skip (c := C62) (by kernel_rfl) fun a hA => (KE_S28_ok R _ _ hK) a hA)) hK) a hA) (ha.cons hq1 (ha.cons hq2 (ha.cons hq3 (ha.cons hq4 (ha.cons hq5 (ha.cons hq10 ha.nil))))))
noncomputable def C63 : Code := W.Code.fst C49
noncomputable def C64 : Code := W.Code.snd C50
/-- lexer.go:185 -/
abbrev S24 (t1 t2 t3 t4 t5 : Addr) (kind10 e11 : Int) (w : World) (R : W.Post) : Prop :=
  W.sel (e11 != 0) (S25 t3 t4 t5 e11 w R) (S26 t1 t2 t3 t4 t5 kind10 w R)
def KE_S24 (E : W.Env) (w : World) (R : W.Post) : Prop := W.asRef (W.Env.get? E 1) fun t1 => W.asRef (W.Env.get? E 2) fun t2 => W.asRef (W.Env.get? E 3) fun t3 => W.asRef (W.Env.get? E 4) fun t4 => W.asRef (W.Env.get? E 5) fun t5 => W.asInt .i64 (W.Env.get? E 10) fun kind10 => W.asInt .i64 (W.Env.get? E 11) fun e11 => S24 t1 t2 t3 t4 t5 kind10 e11 w R
theorem KE_S24_ok (R : W.Post) (E : W.Env) (w : World) (h : KE_S24 E w R) : W.WP Try.prog (W.cx 138) C49 (Q9 R) E w := by
  obtain ⟨t1, hq1, h1⟩ := W.asRef_elim h
  obtain ⟨t2, hq2, h2⟩ := W.asRef_elim h1
  obtain ⟨t3, hq3, h3⟩ := W.asRef_elim h2
  obtain ⟨t4, hq4, h4⟩ := W.asRef_elim h3
  obtain ⟨t5, hq5, h5⟩ := W.asRef_elim h4
  obtain ⟨kind10, hq10, h6⟩ := W.asInt_elim h5
  obtain ⟨e11, hq11, h7⟩ := W.asInt_elim h6
  exact fun a ha => W.WP.at (n := (W.cx 138)) (E := [(1, .pointer (some t1)), (2, .pointer (some t2)), (3, .pointer (some t3)), (4, .pointer (some t4)), (5, .pointer (some t5)), (10, .int .i64 kind10), (11, .int .i64 e11)]) (W.WP.seq (c := C49) (x := C63) (y := C50) (by kernel_rfl) <| W.WP.reg (c := C63) (fun E w => W.condK (W.Env.val E (.tmp 114)) (KE_S25 E w R) (KE_S26 E w R)) (by kernel_rfl) (Eq.mp (by kernel_rfl) h7) fun _ _ a hA hK => (W.WP.condK (c := C50) (x := C51) (y := C64) (o := .tmp 114) (by kernel_rfl) (fun hK => (KE_S25_ok R _ _ hK)) (fun hK => (W.WP.skip (c := C64) (by kernel_rfl) fun a hA => (W.WP.seq (c := C52) (x := C55) (y := C58) (by kernel_rfl) (KE_S26_ok R _ _ hK)) a hA)) hK) a hA) (ha.cons hq1 (ha.cons hq2 (ha.cons hq3 (ha.cons hq4 (ha.cons hq5 (ha.cons hq10 (ha.cons hq11 ha.nil)))))))
noncomputable def C65 : Code := W.Code.fst C47
/-- lexer.go:184 -/
abbrev S23 (t1 t2 t3 t4 t5 : Addr) (w : World) (R : W.Post) : Prop :=
  ∃ t109 : ByteArray, w.cell? (t5.add 1) = some (.string t109) ∧ 
  Calls Try.prog n_lexer_examine #[.string t109] w fun r_ w1 => ∃ t110_0 : Int, ∃ t110_1 : Int, r_ = .returned (.tuple #[.int .i64 t110_0, .int .i64 t110_1]) ∧ 
  S24 t1 t2 t3 t4 t5 t110_0 t110_1 w1 R
def KE_S23 (E : W.Env) (w : World) (R : W.Post) : Prop := W.asRef (W.Env.get? E 1) fun t1 => W.asRef (W.Env.get? E 2) fun t2 => W.asRef (W.Env.get? E 3) fun t3 => W.asRef (W.Env.get? E 4) fun t4 => W.asRef (W.Env.get? E 5) fun t5 => S23 t1 t2 t3 t4 t5 w R
theorem KE_S23_ok (R : W.Post) (E : W.Env) (w : World) (h : KE_S23 E w R) : W.WP Try.prog (W.cx 138) C47 (Q3 R) E w := by
  obtain ⟨t1, hq1, h1⟩ := W.asRef_elim h
  obtain ⟨t2, hq2, h2⟩ := W.asRef_elim h1
  obtain ⟨t3, hq3, h3⟩ := W.asRef_elim h2
  obtain ⟨t4, hq4, h4⟩ := W.asRef_elim h3
  obtain ⟨t5, hq5, h5⟩ := W.asRef_elim h4
  exact fun a ha => W.WP.at (n := (W.cx 138)) (E := [(1, .pointer (some t1)), (2, .pointer (some t2)), (3, .pointer (some t3)), (4, .pointer (some t4)), (5, .pointer (some t5))]) (W.WP.seq (c := C47) (x := C65) (y := C48) (by kernel_rfl) <| W.WP.reg (c := C65) (fun E w => KE_S24 E w R) (by kernel_rfl) (Eq.mp (by kernel_rfl) h5) fun _ _ a hA hK => (W.WP.seq (c := C48) (x := C49) (y := C52) (by kernel_rfl) (KE_S24_ok R _ _ hK)) a hA) (ha.cons hq1 (ha.cons hq2 (ha.cons hq3 (ha.cons hq4 (ha.cons hq5 ha.nil)))))
noncomputable def C66 : Code := W.Code.fst C44
/-- lexer.go:183 -/
abbrev S22 (t1 t2 t3 t4 t5 : Addr) (w : World) (R : W.Post) : Prop :=
  ∃ t101 : ByteArray, w.cell? t2 = some (.string t101) ∧ 
  ∃ t103 : Int, w.cell? (t5.add 2) = some (.int .i64 t103) ∧ 
  ∃ t104 : Int, w.cell? t1 = some (.int .i64 t104) ∧ 
  (0 : Int) ≤ t104 ∧ t104 ≤ ((t101.size : Nat) : Int) ∧ (0 : Int) ≤ t103 ∧ t103 ≤ (((Int.toNat t104) : Nat) : Int) ∧ W.stV w (t5.add 1) (.string (t101.extract (Int.toNat t103) (Int.toNat t104))) fun w1 => 
  S23 t1 t2 t3 t4 t5 w1 R
def KE_S22 (E : W.Env) (w : World) (R : W.Post) : Prop := W.asRef (W.Env.get? E 1) fun t1 => W.asRef (W.Env.get? E 2) fun t2 => W.asRef (W.Env.get? E 3) fun t3 => W.asRef (W.Env.get? E 4) fun t4 => W.asRef (W.Env.get? E 5) fun t5 => S22 t1 t2 t3 t4 t5 w R
theorem KE_S22_ok (R : W.Post) (E : W.Env) (w : World) (h : KE_S22 E w R) : W.WP Try.prog (W.cx 138) C44 (Q3 R) E w := by
  obtain ⟨t1, hq1, h1⟩ := W.asRef_elim h
  obtain ⟨t2, hq2, h2⟩ := W.asRef_elim h1
  obtain ⟨t3, hq3, h3⟩ := W.asRef_elim h2
  obtain ⟨t4, hq4, h4⟩ := W.asRef_elim h3
  obtain ⟨t5, hq5, h5⟩ := W.asRef_elim h4
  exact fun a ha => W.WP.at (n := (W.cx 138)) (E := [(1, .pointer (some t1)), (2, .pointer (some t2)), (3, .pointer (some t3)), (4, .pointer (some t4)), (5, .pointer (some t5))]) (W.WP.seq (c := C44) (x := C66) (y := C47) (by kernel_rfl) <| W.WP.reg (c := C66) (fun E w => KE_S23 E w R) (by kernel_rfl) (Eq.mp (by kernel_rfl) h5) fun _ _ a hA hK => (KE_S23_ok R _ _ hK) a hA) (ha.cons hq1 (ha.cons hq2 (ha.cons hq3 (ha.cons hq4 (ha.cons hq5 ha.nil)))))
noncomputable def C67 : Code := W.Code.fst C43
abbrev Q11 (R : W.Post) : Exit → Act → World → Prop := (Exit.then (W.wpx Try.prog (W.cx 138) C45 (Exit.then (W.LoopWP Try.prog (W.cx 138) C43 (Q6 R)) (Q6 R))) (Exit.then (W.LoopWP Try.prog (W.cx 138) C43 (Q6 R)) (Q6 R)))
noncomputable def C68 : Code := W.Code.fst C67
noncomputable def C69 : Code := W.Code.snd C67
noncomputable def C70 : Code := W.Code.fst C69
noncomputable def C71 : Code := W.Code.snd C69
/-- lexer.go:180 -/
abbrev S20 (t1 t2 t3 t4 t5 : Addr) (w : World) (R : W.Post) : Prop :=
  ∃ t71 : Int, w.cell? t1 = some (.int .i64 t71) ∧ 
  ∃ t72 : ByteArray, w.cell? t2 = some (.string t72) ∧ 
  W.sel (decide (t71 < ((t72.size : Nat) : Int))) (∃ t76 : ByteArray, w.cell? t2 = some (.string t76) ∧ 
  ∃ t77 : Int, w.cell? t1 = some (.int .i64 t77) ∧ 
  (0 : Int) ≤ t77 ∧ ∃ t78_b : UInt8, t76[Int.toNat t77]? = some t78_b ∧ Calls Try.prog n_lexer_small_byte #[.int .u8 ((t78_b.toNat : Nat) : Int)] w fun r_ w1 => ∃ t79 : Bool, r_ = .returned (.bool t79) ∧ 
  W.sel t79 (S21 t1 t2 t3 t4 t5 w1 R) (∃ t81 : ByteArray, w1.cell? t2 = some (.string t81) ∧ 
  ∃ t82 : Int, w1.cell? t1 = some (.int .i64 t82) ∧ 
  (0 : Int) ≤ t82 ∧ ∃ t83_b : UInt8, t81[Int.toNat t82]? = some t83_b ∧ Calls Try.prog n_lexer_digit_byte #[.int .u8 ((t83_b.toNat : Nat) : Int), .int .i64 10] w1 fun r_ w2 => ∃ t84 : Bool, r_ = .returned (.bool t84) ∧ 
  W.sel t84 (S21 t1 t2 t3 t4 t5 w2 R) (∃ t87 : ByteArray, w2.cell? t2 = some (.string t87) ∧ 
  ∃ t88 : Int, w2.cell? t1 = some (.int .i64 t88) ∧ 
  (0 : Int) ≤ t88 ∧ ∃ t89_b : UInt8, t87[Int.toNat t88]? = some t89_b ∧ W.sel (((t89_b.toNat : Nat) : Int) == 45) (S21 t1 t2 t3 t4 t5 w2 R) (∃ t93 : ByteArray, w2.cell? t2 = some (.string t93) ∧ 
  ∃ t94 : Int, w2.cell? t1 = some (.int .i64 t94) ∧ 
  (0 : Int) ≤ t94 ∧ ∃ t95_b : UInt8, t93[Int.toNat t94]? = some t95_b ∧ W.sel (((t95_b.toNat : Nat) : Int) == 35) (S21 t1 t2 t3 t4 t5 w2 R) (S22 t1 t2 t3 t4 t5 w2 R))))) (S22 t1 t2 t3 t4 t5 w R)
def KE_S20 (E : W.Env) (w : World) (R : W.Post) : Prop := W.asRef (W.Env.get? E 1) fun t1 => W.asRef (W.Env.get? E 2) fun t2 => W.asRef (W.Env.get? E 3) fun t3 => W.asRef (W.Env.get? E 4) fun t4 => W.asRef (W.Env.get? E 5) fun t5 => S20 t1 t2 t3 t4 t5 w R
theorem KE_S20_ok (R : W.Post) (E : W.Env) (w : World) (h : KE_S20 E w R) : W.WP Try.prog (W.cx 138) C67 (Q11 R) E w := by
  obtain ⟨t1, hq1, h1⟩ := W.asRef_elim h
  obtain ⟨t2, hq2, h2⟩ := W.asRef_elim h1
  obtain ⟨t3, hq3, h3⟩ := W.asRef_elim h2
  obtain ⟨t4, hq4, h4⟩ := W.asRef_elim h3
  obtain ⟨t5, hq5, h5⟩ := W.asRef_elim h4
  exact fun a ha => W.WP.at (n := (W.cx 138)) (E := [(1, .pointer (some t1)), (2, .pointer (some t2)), (3, .pointer (some t3)), (4, .pointer (some t4)), (5, .pointer (some t5))]) (W.WP.seq (c := C67) (x := C68) (y := C69) (by kernel_rfl) <| W.WP.reg (c := C68) (fun E w => W.condK (W.Env.val E (.tmp 98)) (KE_S21 E w R) (KE_S22 E w R)) (by kernel_rfl) (Eq.mp (by kernel_rfl) h5) fun _ _ a hA hK => (W.WP.condK (c := C69) (x := C70) (y := C71) (o := .tmp 98) (by kernel_rfl) (fun hK => (W.WP.skip (c := C70) (by kernel_rfl) fun a hA => (W.WP.block (c := C45) (x := C46) (id := 2) (by kernel_rfl) (KE_S21_ok R _ _ hK)) a hA)) (fun hK => (W.WP.exit (c := C71) (id := 1) (by kernel_rfl) fun a hA => (KE_S22_ok R _ _ hK) a hA)) hK) a hA) (ha.cons hq1 (ha.cons hq2 (ha.cons hq3 (ha.cons hq4 (ha.cons hq5 ha.nil)))))
theorem L19_step (t1 t2 t3 t4 t5 : Addr) (w : World) (R : W.Post) (h : S20 t1 t2 t3 t4 t5 w R) : L19 t1 t2 t3 t4 t5 w R :=
  W.LP.step (n := (W.cx 138)) (c := C43) (E := [(1, .pointer (some t1)), (2, .pointer (some t2)), (3, .pointer (some t3)), (4, .pointer (some t4)), (5, .pointer (some t5))]) (w := w) (W.WP.seq (c := C43) (x := C67) (y := C45) (by kernel_rfl) (KE_S20_ok R _ _ (Eq.mp (by kernel_rfl) h)))
noncomputable def C72 : Code := W.Code.snd C39
noncomputable def C73 : Code := W.Code.fst C72
noncomputable def C74 : Code := W.Code.snd C72
/-- lexer.go:193 -/
abbrev S29 (t1 t3 t4 : Addr) (w : World) (R : W.Post) : Prop :=
  W.drV w fun w1 => ∃ t27 : Int, w1.cell? t1 = some (.int .i64 t27) ∧ 
  W.stV w1 t3 (.int .i64 0) fun w2 => 
  W.stV w2 (t3.add 1) (.string (ByteArray.mk #[])) fun w3 => 
  W.stV w3 (t3.add 2) (.int .i64 0) fun w4 => 
  w4.cell? t1 = some (.int .i64 t27) ∧ W.stV w4 t4 (.int .i64 2) fun w5 => 
  W.stV w5 (t4.add 1) (.int .i64 t27) fun w6 => 
  ∃ r3_0 : Int, ∃ r3_1 : ByteArray, ∃ r3_2 : Int, w6.cell? (t3.add 0) = some (.int .i64 r3_0) ∧ w6.cell? (t3.add 1) = some (.string r3_1) ∧ w6.cell? (t3.add 2) = some (.int .i64 r3_2) ∧ 
  ∃ r4_0 : Int, ∃ r4_1 : Int, w6.cell? (t4.add 0) = some (.int .i64 r4_0) ∧ w6.cell? (t4.add 1) = some (.int .i64 r4_1) ∧ 
  R (.returned (.tuple #[.agg #[.int .i64 r3_0, .string r3_1, .int .i64 r3_2], .agg #[.int .i64 r4_0, .int .i64 r4_1]])) w6
def KE_S29 (E : W.Env) (w : World) (R : W.Post) : Prop := W.asRef (W.Env.get? E 1) fun t1 => W.asRef (W.Env.get? E 3) fun t3 => W.asRef (W.Env.get? E 4) fun t4 => S29 t1 t3 t4 w R
theorem KE_S29_ok (R : W.Post) (E : W.Env) (w : World) (h : KE_S29 E w R) : W.WP Try.prog (W.cx 138) C72 (Q3 R) E w := by
  obtain ⟨t1, hq1, h1⟩ := W.asRef_elim h
  obtain ⟨t3, hq3, h2⟩ := W.asRef_elim h1
  obtain ⟨t4, hq4, h3⟩ := W.asRef_elim h2
  exact fun a ha => W.WP.at (n := (W.cx 138)) (E := [(1, .pointer (some t1)), (3, .pointer (some t3)), (4, .pointer (some t4))]) (W.WP.seq (c := C72) (x := C73) (y := C74) (by kernel_rfl) <| W.WP.draw (c := C73) [0, 1, 2, 3, 4] (fun E w => W.retVC Try.prog Try.f45 E w (fun v => R (.returned v) w)) (by kernel_rfl) (Eq.mp (by kernel_rfl) h3) fun _ _ a hA hK => (W.WP.ret (c := C74) (by kernel_rfl) fun a hA => W.retVC_sound hA hK) a hA) (ha.cons hq1 (ha.cons hq3 (ha.cons hq4 ha.nil)))
noncomputable def C75 : Code := W.Code.fst C38
/-- lexer.go:179 -/
abbrev S18 (t1 t2 t3 t4 t5 : Addr) (c6 : Int) (w : World) (R : W.Post) : Prop :=
  Calls Try.prog n_lexer_small_byte #[.int .u8 c6] w fun r_ w1 => ∃ t62 : Bool, r_ = .returned (.bool t62) ∧ 
  W.sel t62 (L19 t1 t2 t3 t4 t5 w1 R) (Calls Try.prog n_lexer_digit_byte #[.int .u8 c6, .int .i64 10] w1 fun r_ w2 => ∃ t65 : Bool, r_ = .returned (.bool t65) ∧ 
  W.sel t65 (L19 t1 t2 t3 t4 t5 w2 R) (W.sel (c6 == 35) (L19 t1 t2 t3 t4 t5 w2 R) (S29 t1 t3 t4 w2 R)))
def KE_S18 (E : W.Env) (w : World) (R : W.Post) : Prop := W.asRef (W.Env.get? E 1) fun t1 => W.asRef (W.Env.get? E 2) fun t2 => W.asRef (W.Env.get? E 3) fun t3 => W.asRef (W.Env.get? E 4) fun t4 => W.asRef (W.Env.get? E 5) fun t5 => W.asInt .u8 (W.Env.get? E 6) fun c6 => S18 t1 t2 t3 t4 t5 c6 w R
theorem KE_S18_ok (R : W.Post) (E : W.Env) (w : World) (h : KE_S18 E w R) : W.WP Try.prog (W.cx 138) C38 (Q3 R) E w := by
  obtain ⟨t1, hq1, h1⟩ := W.asRef_elim h
  obtain ⟨t2, hq2, h2⟩ := W.asRef_elim h1
  obtain ⟨t3, hq3, h3⟩ := W.asRef_elim h2
  obtain ⟨t4, hq4, h4⟩ := W.asRef_elim h3
  obtain ⟨t5, hq5, h5⟩ := W.asRef_elim h4
  obtain ⟨c6, hq6, h6⟩ := W.asInt_elim h5
  exact fun a ha => W.WP.at (n := (W.cx 138)) (E := [(1, .pointer (some t1)), (2, .pointer (some t2)), (3, .pointer (some t3)), (4, .pointer (some t4)), (5, .pointer (some t5)), (6, .int .u8 c6)]) (W.WP.seq (c := C38) (x := C75) (y := C39) (by kernel_rfl) <| W.WP.reg (c := C75) (fun E w => W.condK (W.Env.val E (.tmp 60)) (KE_L19 E w R) (KE_S29 E w R)) (by kernel_rfl) (Eq.mp (by kernel_rfl) h6) fun _ _ a hA hK => (W.WP.condK (c := C39) (x := C40) (y := C72) (o := .tmp 60) (by kernel_rfl) (fun hK => (W.WP.seq (c := C40) (x := C41) (y := C44) (by kernel_rfl) (W.WP.block (c := C41) (x := C42) (id := 1) (by kernel_rfl) (W.WP.loop (c := C42) (x := C43) (by kernel_rfl) (KE_L19_ok R _ _ hK))))) (fun hK => (KE_S29_ok R _ _ hK)) hK) a hA) (ha.cons hq1 (ha.cons hq2 (ha.cons hq3 (ha.cons hq4 (ha.cons hq5 (ha.cons hq6 ha.nil))))))
noncomputable def C76 : Code := W.Code.fst C25
/-- lexer.go:173 -/
abbrev S13 (t1 t2 t3 t4 t5 : Addr) (c6 : Int) (w : World) (R : W.Post) : Prop :=
  W.sel (c6 == 34) (S14 t1 t2 t3 t4 t5 w R) (S18 t1 t2 t3 t4 t5 c6 w R)
def KE_S13 (E : W.Env) (w : World) (R : W.Post) : Prop := W.asRef (W.Env.get? E 1) fun t1 => W.asRef (W.Env.get? E 2) fun t2 => W.asRef (W.Env.get? E 3) fun t3 => W.asRef (W.Env.get? E 4) fun t4 => W.asRef (W.Env.get? E 5) fun t5 => W.asInt .u8 (W.Env.get? E 6) fun c6 => S13 t1 t2 t3 t4 t5 c6 w R
theorem KE_S13_ok (R : W.Post) (E : W.Env) (w : World) (h : KE_S13 E w R) : W.WP Try.prog (W.cx 138) C25 (Q3 R) E w := by
  obtain ⟨t1, hq1, h1⟩ := W.asRef_elim h
  obtain ⟨t2, hq2, h2⟩ := W.asRef_elim h1
  obtain ⟨t3, hq3, h3⟩ := W.asRef_elim h2
  obtain ⟨t4, hq4, h4⟩ := W.asRef_elim h3
  obtain ⟨t5, hq5, h5⟩ := W.asRef_elim h4
  obtain ⟨c6, hq6, h6⟩ := W.asInt_elim h5
  exact fun a ha => W.WP.at (n := (W.cx 138)) (E := [(1, .pointer (some t1)), (2, .pointer (some t2)), (3, .pointer (some t3)), (4, .pointer (some t4)), (5, .pointer (some t5)), (6, .int .u8 c6)]) (W.WP.seq (c := C25) (x := C76) (y := C26) (by kernel_rfl) <| W.WP.reg (c := C76) (fun E w => W.condK (W.Env.val E (.tmp 41)) (KE_S14 E w R) (KE_S18 E w R)) (by kernel_rfl) (Eq.mp (by kernel_rfl) h6) fun _ _ a hA hK => (W.WP.condK (c := C26) (x := C27) (y := C38) (o := .tmp 41) (by kernel_rfl) (fun hK => (KE_S14_ok R _ _ hK)) (fun hK => (KE_S18_ok R _ _ hK)) hK) a hA) (ha.cons hq1 (ha.cons hq2 (ha.cons hq3 (ha.cons hq4 (ha.cons hq5 (ha.cons hq6 ha.nil))))))
noncomputable def C77 : Code := W.Code.fst C20
/-- lexer.go:170 -/
abbrev S10 (t1 t2 t3 t4 t5 : Addr) (c6 : Int) (w : World) (R : W.Post) : Prop :=
  W.sel (c6 == 41) (S11 t1 t3 t4 t5 w R) (S13 t1 t2 t3 t4 t5 c6 w R)
def KE_S10 (E : W.Env) (w : World) (R : W.Post) : Prop := W.asRef (W.Env.get? E 1) fun t1 => W.asRef (W.Env.get? E 2) fun t2 => W.asRef (W.Env.get? E 3) fun t3 => W.asRef (W.Env.get? E 4) fun t4 => W.asRef (W.Env.get? E 5) fun t5 => W.asInt .u8 (W.Env.get? E 6) fun c6 => S10 t1 t2 t3 t4 t5 c6 w R
theorem KE_S10_ok (R : W.Post) (E : W.Env) (w : World) (h : KE_S10 E w R) : W.WP Try.prog (W.cx 138) C20 (Q3 R) E w := by
  obtain ⟨t1, hq1, h1⟩ := W.asRef_elim h
  obtain ⟨t2, hq2, h2⟩ := W.asRef_elim h1
  obtain ⟨t3, hq3, h3⟩ := W.asRef_elim h2
  obtain ⟨t4, hq4, h4⟩ := W.asRef_elim h3
  obtain ⟨t5, hq5, h5⟩ := W.asRef_elim h4
  obtain ⟨c6, hq6, h6⟩ := W.asInt_elim h5
  exact fun a ha => W.WP.at (n := (W.cx 138)) (E := [(1, .pointer (some t1)), (2, .pointer (some t2)), (3, .pointer (some t3)), (4, .pointer (some t4)), (5, .pointer (some t5)), (6, .int .u8 c6)]) (W.WP.seq (c := C20) (x := C77) (y := C21) (by kernel_rfl) <| W.WP.reg (c := C77) (fun E w => W.condK (W.Env.val E (.tmp 35)) (KE_S11 E w R) (KE_S13 E w R)) (by kernel_rfl) (Eq.mp (by kernel_rfl) h6) fun _ _ a hA hK => (W.WP.condK (c := C21) (x := C22) (y := C25) (o := .tmp 35) (by kernel_rfl) (fun hK => (KE_S11_ok R _ _ hK)) (fun hK => (KE_S13_ok R _ _ hK)) hK) a hA) (ha.cons hq1 (ha.cons hq2 (ha.cons hq3 (ha.cons hq4 (ha.cons hq5 (ha.cons hq6 ha.nil))))))
noncomputable def C78 : Code := W.Code.fst C15
/-- lexer.go:167 -/
abbrev S6 (t1 t2 t3 t4 t5 : Addr) (c6 : Int) (w : World) (R : W.Post) : Prop :=
  W.sel (c6 == 40) (S7 t1 t3 t4 t5 w R) (S10 t1 t2 t3 t4 t5 c6 w R)
def KE_S6 (E : W.Env) (w : World) (R : W.Post) : Prop := W.asRef (W.Env.get? E 1) fun t1 => W.asRef (W.Env.get? E 2) fun t2 => W.asRef (W.Env.get? E 3) fun t3 => W.asRef (W.Env.get? E 4) fun t4 => W.asRef (W.Env.get? E 5) fun t5 => W.asInt .u8 (W.Env.get? E 6) fun c6 => S6 t1 t2 t3 t4 t5 c6 w R
theorem KE_S6_ok (R : W.Post) (E : W.Env) (w : World) (h : KE_S6 E w R) : W.WP Try.prog (W.cx 138) C15 (Q3 R) E w := by
  obtain ⟨t1, hq1, h1⟩ := W.asRef_elim h
  obtain ⟨t2, hq2, h2⟩ := W.asRef_elim h1
  obtain ⟨t3, hq3, h3⟩ := W.asRef_elim h2
  obtain ⟨t4, hq4, h4⟩ := W.asRef_elim h3
  obtain ⟨t5, hq5, h5⟩ := W.asRef_elim h4
  obtain ⟨c6, hq6, h6⟩ := W.asInt_elim h5
  exact fun a ha => W.WP.at (n := (W.cx 138)) (E := [(1, .pointer (some t1)), (2, .pointer (some t2)), (3, .pointer (some t3)), (4, .pointer (some t4)), (5, .pointer (some t5)), (6, .int .u8 c6)]) (W.WP.seq (c := C15) (x := C78) (y := C16) (by kernel_rfl) <| W.WP.reg (c := C78) (fun E w => W.condK (W.Env.val E (.tmp 29)) (KE_S7 E w R) (KE_S10 E w R)) (by kernel_rfl) (Eq.mp (by kernel_rfl) h6) fun _ _ a hA hK => (W.WP.condK (c := C16) (x := C17) (y := C20) (o := .tmp 29) (by kernel_rfl) (fun hK => (KE_S7_ok R _ _ hK)) (fun hK => (KE_S10_ok R _ _ hK)) hK) a hA) (ha.cons hq1 (ha.cons hq2 (ha.cons hq3 (ha.cons hq4 (ha.cons hq5 (ha.cons hq6 ha.nil))))))
noncomputable def C79 : Code := W.Code.fst C13
/-- lexer.go:166 -/
abbrev S5 (t1 t2 t3 t4 t5 : Addr) (w : World) (R : W.Post) : Prop :=
  ∃ t23 : ByteArray, w.cell? t2 = some (.string t23) ∧ 
  ∃ t24 : Int, w.cell? t1 = some (.int .i64 t24) ∧ 
  (0 : Int) ≤ t24 ∧ ∃ t25_b : UInt8, t23[Int.toNat t24]? = some t25_b ∧ S6 t1 t2 t3 t4 t5 ((t25_b.toNat : Nat) : Int) w R
def KE_S5 (E : W.Env) (w : World) (R : W.Post) : Prop := W.asRef (W.Env.get? E 1) fun t1 => W.asRef (W.Env.get? E 2) fun t2 => W.asRef (W.Env.get? E 3) fun t3 => W.asRef (W.Env.get? E 4) fun t4 => W.asRef (W.Env.get? E 5) fun t5 => S5 t1 t2 t3 t4 t5 w R
theorem KE_S5_ok (R : W.Post) (E : W.Env) (w : World) (h : KE_S5 E w R) : W.WP Try.prog (W.cx 138) C13 (Q2 R) E w := by
  obtain ⟨t1, hq1, h1⟩ := W.asRef_elim h
  obtain ⟨t2, hq2, h2⟩ := W.asRef_elim h1
  obtain ⟨t3, hq3, h3⟩ := W.asRef_elim h2
  obtain ⟨t4, hq4, h4⟩ := W.asRef_elim h3
  obtain ⟨t5, hq5, h5⟩ := W.asRef_elim h4
  exact fun a ha => W.WP.at (n := (W.cx 138)) (E := [(1, .pointer (some t1)), (2, .pointer (some t2)), (3, .pointer (some t3)), (4, .pointer (some t4)), (5, .pointer (some t5))]) (W.WP.seq (c := C13) (x := C79) (y := C14) (by kernel_rfl) <| W.WP.reg (c := C79) (fun E w => KE_S6 E w R) (by kernel_rfl) (Eq.mp (by kernel_rfl) h5) fun _ _ a hA hK => (W.WP.block (c := C14) (x := C15) (id := 0) (by kernel_rfl) (KE_S6_ok R _ _ hK)) a hA) (ha.cons hq1 (ha.cons hq2 (ha.cons hq3 (ha.cons hq4 (ha.cons hq5 ha.nil)))))
noncomputable def C80 : Code := W.Code.fst C6
/-- lexer.go:165 -/
abbrev S4 (t1 t2 t3 t4 : Addr) (w : World) (R : W.Post) : Prop :=
  ∃ t21 : Int, w.cell? t1 = some (.int .i64 t21) ∧ 
  W.nwV w (.cells #[.int .i64 0, .string (ByteArray.mk #[]), .int .i64 0] ty_lexer_Token) fun w1 => 
  W.stV w1 (Addr.mk w.heap.size 0 none) (.int .i64 0) fun w2 => 
  W.stV w2 ((Addr.mk w.heap.size 0 none).add 1) (.string (ByteArray.mk #[])) fun w3 => 
  W.stV w3 ((Addr.mk w.heap.size 0 none).add 2) (.int .i64 t21) fun w4 => 
  S5 t1 t2 t3 t4 (Addr.mk w.heap.size 0 none) w4 R
def KE_S4 (E : W.Env) (w : World) (R : W.Post) : Prop := W.asRef (W.Env.get? E 1) fun t1 => W.asRef (W.Env.get? E 2) fun t2 => W.asRef (W.Env.get? E 3) fun t3 => W.asRef (W.Env.get? E 4) fun t4 => S4 t1 t2 t3 t4 w R
theorem KE_S4_ok (R : W.Post) (E : W.Env) (w : World) (h : KE_S4 E w R) : W.WP Try.prog (W.cx 138) C6 (Q1 R) E w := by
  obtain ⟨t1, hq1, h1⟩ := W.asRef_elim h
  obtain ⟨t2, hq2, h2⟩ := W.asRef_elim h1
  obtain ⟨t3, hq3, h3⟩ := W.asRef_elim h2
  obtain ⟨t4, hq4, h4⟩ := W.asRef_elim h3
  exact fun a ha => W.WP.at (n := (W.cx 138)) (E := [(1, .pointer (some t1)), (2, .pointer (some t2)), (3, .pointer (some t3)), (4, .pointer (some t4))]) (W.WP.seq (c := C6) (x := C80) (y := C9) (by kernel_rfl) <| W.WP.reg (c := C80) (fun E w => KE_S5 E w R) (by kernel_rfl) (Eq.mp (by kernel_rfl) h4) fun _ _ a hA hK => (W.WP.seq (c := C9) (x := C13) (y := C10) (by kernel_rfl) (KE_S5_ok R _ _ hK)) a hA) (ha.cons hq1 (ha.cons hq2 (ha.cons hq3 (ha.cons hq4 ha.nil))))
noncomputable def C81 : Code := W.Code.fst C3
noncomputable def C82 : Code := W.Code.snd C4
/-- lexer.go:162 -/
abbrev S2 (t1 t2 t3 t4 : Addr) (w : World) (R : W.Post) : Prop :=
  ∃ t14 : Int, w.cell? t1 = some (.int .i64 t14) ∧ 
  ∃ t15 : ByteArray, w.cell? t2 = some (.string t15) ∧ 
  W.sel (t14 == ((t15.size : Nat) : Int)) (S3 t1 t3 t4 w R) (S4 t1 t2 t3 t4 w R)
def KE_S2 (E : W.Env) (w : World) (R : W.Post) : Prop := W.asRef (W.Env.get? E 1) fun t1 => W.asRef (W.Env.get? E 2) fun t2 => W.asRef (W.Env.get? E 3) fun t3 => W.asRef (W.Env.get? E 4) fun t4 => S2 t1 t2 t3 t4 w R
theorem KE_S2_ok (R : W.Post) (E : W.Env) (w : World) (h : KE_S2 E w R) : W.WP Try.prog (W.cx 138) C3 (Q0 R) E w := by
  obtain ⟨t1, hq1, h1⟩ := W.asRef_elim h
  obtain ⟨t2, hq2, h2⟩ := W.asRef_elim h1
  obtain ⟨t3, hq3, h3⟩ := W.asRef_elim h2
  obtain ⟨t4, hq4, h4⟩ := W.asRef_elim h3
  exact fun a ha => W.WP.at (n := (W.cx 138)) (E := [(1, .pointer (some t1)), (2, .pointer (some t2)), (3, .pointer (some t3)), (4, .pointer (some t4))]) (W.WP.seq (c := C3) (x := C81) (y := C4) (by kernel_rfl) <| W.WP.reg (c := C81) (fun E w => W.condK (W.Env.val E (.tmp 17)) (KE_S3 E w R) (KE_S4 E w R)) (by kernel_rfl) (Eq.mp (by kernel_rfl) h4) fun _ _ a hA hK => (W.WP.condK (c := C4) (x := C5) (y := C82) (o := .tmp 17) (by kernel_rfl) (fun hK => (KE_S3_ok R _ _ hK)) (fun hK => (W.WP.skip (c := C82) (by kernel_rfl) fun a hA => (KE_S4_ok R _ _ hK) a hA)) hK) a hA) (ha.cons hq1 (ha.cons hq2 (ha.cons hq3 (ha.cons hq4 ha.nil))))
noncomputable def C83 : Code := W.Code.fst C1
/-- lexer.go:161 -/
abbrev S1 (t0 t1 t2 t3 t4 : Addr) (w : World) (R : W.Post) : Prop :=
  ∃ t12 : W.Fv, w.cell? t0 = some (t12.v) ∧ 
  W.AndT (W.callable Try.prog t12.n) (Calls Try.prog t12.n (t12.bs ++ #[] ++ t12.cs) w fun r_ w1 => r_ = .returned (.tuple #[]) ∧ 
  S2 t1 t2 t3 t4 w1 R)
def KE_S1 (E : W.Env) (w : World) (R : W.Post) : Prop := W.asRef (W.Env.get? E 0) fun t0 => W.asRef (W.Env.get? E 1) fun t1 => W.asRef (W.Env.get? E 2) fun t2 => W.asRef (W.Env.get? E 3) fun t3 => W.asRef (W.Env.get? E 4) fun t4 => S1 t0 t1 t2 t3 t4 w R
theorem KE_S1_ok (R : W.Post) (E : W.Env) (w : World) (h : KE_S1 E w R) : W.WP Try.prog (W.cx 138) C1 (Q1 R) E w := by
  obtain ⟨t0, hq0, h1⟩ := W.asRef_elim h
  obtain ⟨t1, hq1, h2⟩ := W.asRef_elim h1
  obtain ⟨t2, hq2, h3⟩ := W.asRef_elim h2
  obtain ⟨t3, hq3, h4⟩ := W.asRef_elim h3
  obtain ⟨t4, hq4, h5⟩ := W.asRef_elim h4
  exact fun a ha => W.WP.at (n := (W.cx 138)) (E := [(0, .pointer (some t0)), (1, .pointer (some t1)), (2, .pointer (some t2)), (3, .pointer (some t3)), (4, .pointer (some t4))]) (W.WP.seq (c := C1) (x := C83) (y := C2) (by kernel_rfl) <| W.WP.reg (c := C83) (fun E w => KE_S2 E w R) (by kernel_rfl) (Eq.mp (by kernel_rfl) h5) fun _ _ a hA hK => (W.WP.seq (c := C2) (x := C3) (y := C6) (by kernel_rfl) (KE_S2_ok R _ _ hK)) a hA) (ha.cons hq0 (ha.cons hq1 (ha.cons hq2 (ha.cons hq3 (ha.cons hq4 ha.nil)))))
noncomputable def C84 : Code := W.Code.fst C0
/-- lexer.go:160 -/
abbrev S0 (t0 t1 t2 : Addr) (w : World) (R : W.Post) : Prop :=
  W.nwV w (.cells #[.int .i64 0, .string (ByteArray.mk #[]), .int .i64 0] ty_lexer_Token) fun w1 => 
  W.nwV w1 (.cells #[.int .i64 0, .int .i64 0] ty_lexer_fault) fun w2 => 
  S1 t0 t1 t2 (Addr.mk w.heap.size 0 none) (Addr.mk w1.heap.size 0 none) w2 R
def KE_S0 (E : W.Env) (w : World) (R : W.Post) : Prop := W.asRef (W.Env.get? E 0) fun t0 => W.asRef (W.Env.get? E 1) fun t1 => W.asRef (W.Env.get? E 2) fun t2 => S0 t0 t1 t2 w R
theorem KE_S0_ok (R : W.Post) (E : W.Env) (w : World) (h : KE_S0 E w R) : W.WP Try.prog (W.cx 138) C0 (Q1 R) E w := by
  obtain ⟨t0, hq0, h1⟩ := W.asRef_elim h
  obtain ⟨t1, hq1, h2⟩ := W.asRef_elim h1
  obtain ⟨t2, hq2, h3⟩ := W.asRef_elim h2
  exact fun a ha => W.WP.at (n := (W.cx 138)) (E := [(0, .pointer (some t0)), (1, .pointer (some t1)), (2, .pointer (some t2))]) (W.WP.seq (c := C0) (x := C84) (y := C1) (by kernel_rfl) <| W.WP.reg (c := C84) (fun E w => KE_S1 E w R) (by kernel_rfl) (Eq.mp (by kernel_rfl) h3) fun _ _ a hA hK => (KE_S1_ok R _ _ hK) a hA) (ha.cons hq0 (ha.cons hq1 (ha.cons hq2 ha.nil)))
/-- enthymeme/lexer.reader$2 -/
theorem ok (t0 t1 t2 : Addr) (w : World) (R : W.Post) (h : S0 t0 t1 t2 w R) : Calls Try.prog n_lexer_reader_2 #[.pointer (some t0), .pointer (some t1), .pointer (some t2)] w R :=
  W.calls_of_WP' (fn := Try.f45) (c := C0) (args := [.pointer (some t0), .pointer (some t1), .pointer (some t2)]) (by kernel_rfl) (by kernel_rfl) (by kernel_rfl) (KE_S0_ok R _ _ (Eq.mp (by kernel_rfl) h))
end lexer_reader_2
namespace lexer_each
noncomputable def C0 : Code := (Try.f30.body).getD .skip
noncomputable def C1 : Code := W.Code.snd C0
abbrev Q0 (R : W.Post) : Exit → Act → World → Prop := (bodyPost Try.prog Try.f30 R)
noncomputable def C2 : Code := W.Code.fst C1
noncomputable def C3 : Code := W.Code.snd C1
/-- lexer.go:201 -/
abbrev S1 (next1 : Addr) (w : World) (R : W.Post) : Prop :=
  R (.returned (.func (.func n_lexer_each_1) #[] #[.pointer (some next1)])) w
def KE_S1 (E : W.Env) (w : World) (R : W.Post) : Prop := W.asRef (W.Env.get? E 1) fun next1 => S1 next1 w R
theorem KE_S1_ok (R : W.Post) (E : W.Env) (w : World) (h : KE_S1 E w R) : W.WP Try.prog (W.cx 4) C1 (Q0 R) E w := by
  obtain ⟨next1, hq1, h1⟩ := W.asRef_elim h
  exact fun a ha => W.WP.at (n := (W.cx 4)) (E := [(1, .pointer (some next1))]) (W.WP.seq (c := C1) (x := C2) (y := C3) (by kernel_rfl) <| W.WP.reg (c := C2) (fun E w => W.retVC Try.prog Try.f30 E w (fun v => R (.returned v) w)) (by kernel_rfl) (Eq.mp (by kernel_rfl) h1) fun _ _ a hA hK => (W.WP.ret (c := C3) (by kernel_rfl) fun a hA => W.retVC_sound hA hK) a hA) (ha.cons hq1 ha.nil)
noncomputable def C4 : Code := W.Code.fst C0
/-- lexer.go:200 -/
abbrev S0 (next0 : W.Fv) (w : World) (R : W.Post) : Prop :=
  W.nwV w (.cells #[next0.v] ty_func_lexer_Token_lexer_fault) fun w1 => 
  S1 (Addr.mk w.heap.size 0 none) w1 R
def KE_S0 (E : W.Env) (w : World) (R : W.Post) : Prop := W.asFn (W.Env.get? E 0) fun next0 => S0 next0 w R
theorem KE_S0_ok (R : W.Post) (E : W.Env) (w : World) (h : KE_S0 E w R) : W.WP Try.prog (W.cx 4) C0 (Q0 R) E w := by
  obtain ⟨next0, hq0, h1⟩ := W.asFn_elim h
  exact fun a ha => W.WP.at (n := (W.cx 4)) (E := [(0, next0.v)]) (W.WP.seq (c := C0) (x := C4) (y := C1) (by kernel_rfl) <| W.WP.reg (c := C4) (fun E w => KE_S1 E w R) (by kernel_rfl) (Eq.mp (by kernel_rfl) h1) fun _ _ a hA hK => (KE_S1_ok R _ _ hK) a hA) (ha.cons hq0 ha.nil)
/-- enthymeme/lexer.each -/
theorem ok (next0 : W.Fv) (w : World) (R : W.Post) (h : S0 next0 w R) : Calls Try.prog n_lexer_each #[next0.v] w R :=
  W.calls_of_WP' (fn := Try.f30) (c := C0) (args := [next0.v]) (by kernel_rfl) (by kernel_rfl) (by kernel_rfl) (KE_S0_ok R _ _ (Eq.mp (by kernel_rfl) h))
end lexer_each
namespace lexer_each_1
noncomputable def C0 : Code := (Try.f42.body).getD .skip
noncomputable def C1 : Code := W.Code.fst C0
noncomputable def C2 : Code := W.Code.fst C1
abbrev Q0 (R : W.Post) : Exit → Act → World → Prop := (bodyPost Try.prog Try.f42 R)
abbrev Q1 (R : W.Post) : Exit → Act → World → Prop := (Exit.inBlock 0 (Q0 R))
/-- the head of the loop, lexer.go:203 -/
def L0 (yield0 : Nat) (t1 : Addr) (w : World) (R : W.Post) : Prop := W.LP Try.prog (W.cx 25) C2 (Q1 R) [(0, .func (.yield yield0) #[] #[]), (1, .pointer (some t1))] w
def KE_L0 (E : W.Env) (w : World) (R : W.Post) : Prop := W.asYield (W.Env.get? E 0) fun yield0 => W.asRef (W.Env.get? E 1) fun t1 => L0 yield0 t1 w R
theorem KE_L0_ok (R : W.Post) (E : W.Env) (w : World) (h : KE_L0 E w R) : W.LP Try.prog (W.cx 25) C2 (Q1 R) E w := by
  obtain ⟨yield0, hq0, h1⟩ := W.asYield_elim h
  obtain ⟨t1, hq1, h2⟩ := W.asRef_elim h1
  intro a ha
  exact h2 a (ha.cons hq0 (ha.cons hq1 ha.nil))
noncomputable def C3 : Code := W.Code.fst C2
noncomputable def C4 : Code := W.Code.snd C3
abbrev Q2 (R : W.Post) : Exit → Act → World → Prop := (Exit.then (W.LoopWP Try.prog (W.cx 25) C2 (Q1 R)) (Q1 R))
abbrev Q3 (R : W.Post) : Exit → Act → World → Prop := (Exit.inBlock 1 (Q2 R))
noncomputable def C5 : Code := W.Code.fst C4
noncomputable def C6 : Code := W.Code.snd C4
noncomputable def C7 : Code := W.Code.fst C6
noncomputable def C8 : Code := W.Code.snd C6
/-- lexer.go:204 -/
abbrev S2 (yield0 : Nat) (t1 t3 f4 : Addr) (w : World) (R : W.Post) : Prop :=
  ∃ t11_0 : Int, ∃ t11_1 : ByteArray, ∃ t11_2 : Int, w.cell? (t3.add 0) = some (.int .i64 t11_0) ∧ w.cell? (t3.add 1) = some (.string t11_1) ∧ w.cell? (t3.add 2) = some (.int .i64 t11_2) ∧ 
  ∃ t12_0 : Int, ∃ t12_1 : Int, w.cell? (f4.add 0) = some (.int .i64 t12_0) ∧ w.cell? (f4.add 1) = some (.int .i64 t12_1) ∧ 
  W.yieldB Try.prog yield0 #[.agg #[.int .i64 t11_0, .string t11_1, .int .i64 t11_2], .agg #[.int .i64 t12_0, .int .i64 t12_1]] w fun (t13 : Bool) w1 => W.sel (!t13) (R (.returned (.tuple #[])) w1) (∃ t17 : Int, w1.cell? (f4.add 0) = some (.int .i64 t17) ∧ 
  W.sel (t17 != 0) (R (.returned (.tuple #[])) w1) (∃ t22 : Int, w1.cell? (t3.add 0) = some (.int .i64 t22) ∧ 
  W.sel (t22 == 6) (R (.returned (.tuple #[])) w1) (L0 yield0 t1 w1 R)))
def KE_S2 (E : W.Env) (w : World) (R : W.Post) : Prop := W.asYield (W.Env.get? E 0) fun yield0 => W.asRef (W.Env.get? E 1) fun t1 => W.asRef (W.Env.get? E 3) fun t3 => W.asRef (W.Env.get? E 4) fun f4 => S2 yield0 t1 t3 f4 w R
theorem KE_S2_ok (R : W.Post) (E : W.Env) (w : World) (h : KE_S2 E w R) : W.WP Try.prog (W.cx 25) C4 (Q3 R) E w := by
  obtain ⟨yield0, hq0, h1⟩ := W.asYield_elim h
  obtain ⟨t1, hq1, h2⟩ := W.asRef_elim h1
  obtain ⟨t3, hq3, h3⟩ := W.asRef_elim h2
  obtain ⟨f4, hq4, h4⟩ := W.asRef_elim h3
  exact fun a ha => W.WP.at (n := (W.cx 25)) (E := [(0, .func (.yield yield0) #[] #[]), (1, .pointer (some t1)), (3, .pointer (some t3)), (4, .pointer (some f4))]) (W.WP.seq (c := C4) (x := C5) (y := C6) (by kernel_rfl) <| W.WP.reg (c := C5) (fun E w => W.condK (W.Env.val E (.tmp 24)) (W.retVC Try.prog Try.f42 E w (fun v => R (.returned v) w)) (KE_L0 E w R)) (by kernel_rfl) (Eq.mp (by kernel_rfl) h4) fun _ _ a hA hK => (W.WP.condK (c := C6) (x := C7) (y := C8) (o := .tmp 24) (by kernel_rfl) (fun hK => (W.WP.ret (c := C7) (by kernel_rfl) fun a hA => W.retVC_sound hA hK)) (fun hK => (W.WP.skip (c := C8) (by kernel_rfl) fun a hA => KE_L0_ok R _ _ hK a hA)) hK) a hA) (ha.cons hq0 (ha.cons hq1 (ha.cons hq3 (ha.cons hq4 ha.nil))))
noncomputable def C9 : Code := W.Code.fst C3
/-- lexer.go:203 -/
abbrev S1 (yield0 : Nat) (t1 : Addr) (w : World) (R : W.Post) : Prop :=
  ∃ t6 : W.Fv, w.cell? t1 = some (t6.v) ∧ 
  W.AndT (W.callable Try.prog t6.n) (Calls Try.prog t6.n (t6.bs ++ #[] ++ t6.cs) w fun r_ w1 => ∃ t7_0_0 : Int, ∃ t7_0_1 : ByteArray, ∃ t7_0_2 : Int, ∃ t7_1_0 : Int, ∃ t7_1_1 : Int, r_ = .returned (.tuple #[.agg #[.int .i64 t7_0_0, .string t7_0_1, .int .i64 t7_0_2], .agg #[.int .i64 t7_1_0, .int .i64 t7_1_1]]) ∧ 
  W.nwV w1 (.cells #[.int .i64 0, .string (ByteArray.mk #[]), .int .i64 0] ty_lexer_Token) fun w2 => 
  W.nwV w2 (.cells #[.int .i64 0, .int .i64 0] ty_lexer_fault) fun w3 => 
  W.stV w3 (Addr.mk w1.heap.size 0 none) (.int .i64 t7_0_0) fun w4 => 
  W.stV w4 ((Addr.mk w1.heap.size 0 none).add 1) (.string t7_0_1) fun w5 => 
  W.stV w5 ((Addr.mk w1.heap.size 0 none).add 2) (.int .i64 t7_0_2) fun w6 => 
  W.stV w6 (Addr.mk w2.heap.size 0 none) (.int .i64 t7_1_0) fun w7 => 
  W.stV w7 ((Addr.mk w2.heap.size 0 none).add 1) (.int .i64 t7_1_1) fun w8 => 
  S2 yield0 t1 (Addr.mk w1.heap.size 0 none) (Addr.mk w2.heap.size 0 none) w8 R)
def KE_S1 (E : W.Env) (w : World) (R : W.Post) : Prop := W.asYield (W.Env.get? E 0) fun yield0 => W.asRef (W.Env.get? E 1) fun t1 => S1 yield0 t1 w R
theorem KE_S1_ok (R : W.Post) (E : W.Env) (w : World) (h : KE_S1 E w R) : W.WP Try.prog (W.cx 25) C3 (Q3 R) E w := by
  obtain ⟨yield0, hq0, h1⟩ := W.asYield_elim h
  obtain ⟨t1, hq1, h2⟩ := W.asRef_elim h1
  exact fun a ha => W.WP.at (n := (W.cx 25)) (E := [(0, .func (.yield yield0) #[] #[]), (1, .pointer (some t1))]) (W.WP.seq (c := C3) (x := C9) (y := C4) (by kernel_rfl) <| W.WP.reg (c := C9) (fun E w => KE_S2 E w R) (by kernel_rfl) (Eq.mp (by kernel_rfl) h2) fun _ _ a hA hK => (KE_S2_ok R _ _ hK) a hA) (ha.cons hq0 (ha.cons hq1 ha.nil))
theorem L0_step (yield0 : Nat) (t1 : Addr) (w : World) (R : W.Post) (h : S1 yield0 t1 w R) : L0 yield0 t1 w R :=
  W.LP.step (n := (W.cx 25)) (c := C2) (E := [(0, .func (.yield yield0) #[] #[]), (1, .pointer (some t1))]) (w := w) (W.WP.block (c := C2) (x := C3) (id := 1) (by kernel_rfl) (KE_S1_ok R _ _ (Eq.mp (by kernel_rfl) h)))
/-- enthymeme/lexer.each$1 -/
theorem ok (yield0 : Nat) (t1 : Addr) (w : World) (R : W.Post) (h : L0 yield0 t1 w R) : Calls Try.prog n_lexer_each_1 #[.func (.yield yield0) #[] #[], .pointer (some t1)] w R :=
  W.calls_of_WP' (fn := Try.f42) (c := C0) (args := [.func (.yield yield0) #[] #[], .pointer (some t1)]) (by kernel_rfl) (by kernel_rfl) (by kernel_rfl) (W.WP.block (c := C0) (x := C1) (id := 0) (by kernel_rfl) (W.WP.loop (c := C1) (x := C2) (by kernel_rfl) (KE_L0_ok R _ _ (Eq.mp (by kernel_rfl) h))))
end lexer_each_1
namespace lexer_Tokens
noncomputable def C0 : Code := (Try.f13.body).getD .skip
noncomputable def C1 : Code := W.Code.snd C0
noncomputable def C2 : Code := W.Code.fst C1
noncomputable def C3 : Code := W.Code.snd C2
noncomputable def C4 : Code := W.Code.fst C3
noncomputable def C5 : Code := W.Code.snd C1
abbrev Q0 (R : W.Post) : Exit → Act → World → Prop := (Exit.then (W.wpx Try.prog (W.cx 28) C5 (bodyPostM Fence.wide 0 Try.prog Try.f13 R)) (bodyPostM Fence.wide 0 Try.prog Try.f13 R))
noncomputable def C6 : Code := W.Code.fst C4
noncomputable def C7 : Code := W.Code.snd C4
/-- lexer.go:214 -/
abbrev S2 (t2 t3 t4 : Addr) (w : World) (R : W.Post) : Prop :=
  W.stV w t2 (.slice none 0 0) fun w1 => 
  W.stV w1 t3 (.int .i64 65536) fun w2 => 
  W.stV w2 t4 (.int .i64 4) fun w3 => 
  ∃ r2 : W.Sl, w3.cell? t2 = some (r2.v) ∧ 
  ∃ r3 : Int, w3.cell? t3 = some (.int .i64 r3) ∧ 
  ∃ r4 : Int, w3.cell? t4 = some (.int .i64 r4) ∧ 
  R (.returned (.tuple #[r2.v, .int .i64 r3, .int .i64 r4])) w3
def KE_S2 (E : W.Env) (w : World) (R : W.Post) : Prop := W.asRef (W.Env.get? E 2) fun t2 => W.asRef (W.Env.get? E 3) fun t3 => W.asRef (W.Env.get? E 4) fun t4 => S2 t2 t3 t4 w R
theorem KE_S2_ok (R : W.Post) (E : W.Env) (w : World) (h : KE_S2 E w R) : W.WP Try.prog (W.cx 28) C4 (Q0 R) E w := by
  obtain ⟨t2, hq2, h1⟩ := W.asRef_elim h
  obtain ⟨t3, hq3, h2⟩ := W.asRef_elim h1
  obtain ⟨t4, hq4, h3⟩ := W.asRef_elim h2
  exact fun a ha => W.WP.at (n := (W.cx 28)) (E := [(2, .pointer (some t2)), (3, .pointer (some t3)), (4, .pointer (some t4))]) (W.WP.seq (c := C4) (x := C6) (y := C7) (by kernel_rfl) <| W.WP.reg (c := C6) (fun E w => W.retVC Try.prog Try.f13 E w (fun v => R (.returned v) w)) (by kernel_rfl) (Eq.mp (by kernel_rfl) h3) fun _ _ a hA hK => (W.WP.ret (c := C7) (by kernel_rfl) fun a hA => W.retM_sound hA hK) a hA) (ha.cons hq2 (ha.cons hq3 (ha.cons hq4 ha.nil)))
noncomputable def C8 : Code := W.Code.snd C5
noncomputable def C9 : Code := W.Code.fst C8
noncomputable def C10 : Code := W.Code.snd C9
noncomputable def C11 : Code := W.Code.fst C10
noncomputable def C12 : Code := W.Code.asn C11
noncomputable def C13 : Code := W.Code.bdy C11
noncomputable def C14 : Code := W.Code.fst C13
noncomputable def C15 : Code := W.Code.fst C14
noncomputable def C16 : Code := W.Code.snd C15
noncomputable def C17 : Code := W.Code.fst C16
abbrev Q1 (l_ : Nat) (rec_ : Loop) (R : W.Post) : Exit → Act → World → Prop := (roundPost Try.prog l_ R)
noncomputable def C18 : Code := W.Code.snd C14
abbrev Q2 (l_ : Nat) (rec_ : Loop) (R : W.Post) : Exit → Act → World → Prop := (Exit.then (W.wpx Try.prog ⟨28, [], some l_⟩ C18 (Exit.inBlock 1 (Q1 l_ rec_ R))) (Exit.inBlock 1 (Q1 l_ rec_ R)))
noncomputable def C19 : Code := W.Code.fst C17
noncomputable def C20 : Code := W.Code.snd C17
/-- lexer.go:219 -/
abbrev S9 (l_ : Nat) (o_ : LoopState → Option Code → Obj) (t2 t3 t4 f7 : Addr) (w : World) (R : W.Post) : Prop :=
  W.drV w fun w1 => ∃ t20 : Int, w1.cell? (f7.add 1) = some (.int .i64 t20) ∧ 
  ∃ t22 : Int, w1.cell? (f7.add 0) = some (.int .i64 t22) ∧ 
  W.stV w1 t2 (.slice none 0 0) fun w2 => 
  w2.cell? (f7.add 0) = some (.int .i64 t22) ∧ w2.cell? (f7.add 1) = some (.int .i64 t20) ∧ W.stV w2 t3 (.int .i64 t20) fun w3 => 
  w3.cell? (f7.add 0) = some (.int .i64 t22) ∧ W.stV w3 t4 (.int .i64 t22) fun w4 => 
  W.puV w4 l_ (o_ .busy none) (o_ .done (some .ret)) fun w5 => R (.returned (.bool false)) w5
def KE_S9 (l_ : Nat) (o_ : LoopState → Option Code → Obj) (E : W.Env) (w : World) (R : W.Post) : Prop := W.asRef (W.Env.get? E 2) fun t2 => W.asRef (W.Env.get? E 3) fun t3 => W.asRef (W.Env.get? E 4) fun t4 => W.asRef (W.Env.get? E 7) fun f7 => S9 l_ o_ t2 t3 t4 f7 w R
theorem KE_S9_ok (l_ : Nat) (rec_ : Loop) (R : W.Post) (E : W.Env) (w : World) (h : KE_S9 l_ (W.lo rec_) E w R) : W.WP Try.prog ⟨28, [], some l_⟩ C17 (Q2 l_ rec_ R) E w := by
  obtain ⟨t2, hq2, h1⟩ := W.asRef_elim h
  obtain ⟨t3, hq3, h2⟩ := W.asRef_elim h1
  obtain ⟨t4, hq4, h3⟩ := W.asRef_elim h2
  obtain ⟨f7, hq7, h4⟩ := W.asRef_elim h3
  exact fun a ha => W.WP.at (n := ⟨28, [], some l_⟩) (E := [(2, .pointer (some t2)), (3, .pointer (some t3)), (4, .pointer (some t4)), (7, .pointer (some f7))]) (W.WP.seq (c := C17) (x := C19) (y := C20) (by kernel_rfl) <| W.WP.draw (c := C19) [0, 1, 2, 3, 4, 5, 6] (fun E w => W.puV w l_ ((W.lo rec_) .busy none) ((W.lo rec_) .done (some .ret)) fun w1 => R (.returned (.bool false)) w1) (by kernel_rfl) (Eq.mp (by kernel_rfl) h4) fun _ _ a hA hK => (W.WP.ret (c := C20) (Q := (Q2 l_ rec_ R)) (by kernel_rfl) fun a hA => (show roundPost Try.prog l_ R .ret a _ from W.round_ret (a := a) (hK).1 (hK).2)) a hA) (ha.cons hq2 (ha.cons hq3 (ha.cons hq4 (ha.cons hq7 ha.nil))))
abbrev Q3 (l_ : Nat) (rec_ : Loop) (R : W.Post) : Exit → Act → World → Prop := (Exit.inBlock 1 (Q1 l_ rec_ R))
/-- lexer.go:221 -/
abbrev S10 (l_ : Nat) (o_ : LoopState → Option Code → Obj) (l5 t6 : Addr) (w : World) (R : W.Post) : Prop :=
  ∃ t23 : W.Sl, w.cell? l5 = some (t23.v) ∧ 
  ∃ t24_0 : Int, ∃ t24_1 : ByteArray, ∃ t24_2 : Int, w.cell? (t6.add 0) = some (.int .i64 t24_0) ∧ w.cell? (t6.add 1) = some (.string t24_1) ∧ w.cell? (t6.add 2) = some (.int .i64 t24_2) ∧ 
  W.nwV w (.cells #[.int .i64 t24_0, .string t24_1, .int .i64 t24_2] ty_lexer_Token) fun w1 => 
  ∃ (t26 : W.Sl) (w2 : World), Sem.run Try.prog (Builtin.append_ #[ty_sl_lexer_Token, ty_sl_lexer_Token] ty_sl_lexer_Token #[t23.v, .slice (some (Addr.mk w.heap.size 0 none)) 1 1]) w1 = .ok (t26.v) w2 ∧ W.stV w2 l5 (t26.v) fun w3 => 
  W.puV w3 l_ (o_ .busy none) (o_ .ready none) fun w4 => R (.returned (.bool true)) w4
def KE_S10 (l_ : Nat) (o_ : LoopState → Option Code → Obj) (E : W.Env) (w : World) (R : W.Post) : Prop := W.asRef (W.Env.get? E 5) fun l5 => W.asRef (W.Env.get? E 6) fun t6 => S10 l_ o_ l5 t6 w R
theorem KE_S10_ok (l_ : Nat) (rec_ : Loop) (R : W.Post) (E : W.Env) (w : World) (h : KE_S10 l_ (W.lo rec_) E w R) : W.WP Try.prog ⟨28, [], some l_⟩ C18 (Q3 l_ rec_ R) E w := by
  obtain ⟨l5, hq5, h1⟩ := W.asRef_elim h
  obtain ⟨t6, hq6, h2⟩ := W.asRef_elim h1
  exact fun a ha => W.WP.at (n := ⟨28, [], some l_⟩) (E := [(5, .pointer (some l5)), (6, .pointer (some t6))]) (W.WP.reg (c := C18) (fun E w => W.puV w l_ ((W.lo rec_) .busy none) ((W.lo rec_) .ready none) fun w2 => R (.returned (.bool true)) w2) (by kernel_rfl) (Eq.mp (by kernel_rfl) h2) fun _ _ a hA hK => W.round_end (a := a) (hK).1 (hK).2) (ha.cons hq5 (ha.cons hq6 ha.nil))
noncomputable def C21 : Code := W.Code.fst C15
noncomputable def C22 : Code := W.Code.snd C16
/-- lexer.go:218 -/
abbrev S8 (l_ : Nat) (o_ : LoopState → Option Code → Obj) (t2 t3 t4 l5 t6 f7 : Addr) (w : World) (R : W.Post) : Prop :=
  ∃ t17 : Int, w.cell? (f7.add 0) = some (.int .i64 t17) ∧ 
  W.sel (t17 != 0) (S9 l_ o_ t2 t3 t4 f7 w R) (S10 l_ o_ l5 t6 w R)
def KE_S8 (l_ : Nat) (o_ : LoopState → Option Code → Obj) (E : W.Env) (w : World) (R : W.Post) : Prop := W.asRef (W.Env.get? E 2) fun t2 => W.asRef (W.Env.get? E 3) fun t3 => W.asRef (W.Env.get? E 4) fun t4 => W.asRef (W.Env.get? E 5) fun l5 => W.asRef (W.Env.get? E 6) fun t6 => W.asRef (W.Env.get? E 7) fun f7 => S8 l_ o_ t2 t3 t4 l5 t6 f7 w R
theorem KE_S8_ok (l_ : Nat) (rec_ : Loop) (R : W.Post) (E : W.Env) (w : World) (h : KE_S8 l_ (W.lo rec_) E w R) : W.WP Try.prog ⟨28, [], some l_⟩ C15 (Q2 l_ rec_ R) E w := by
  obtain ⟨t2, hq2, h1⟩ := W.asRef_elim h
  obtain ⟨t3, hq3, h2⟩ := W.asRef_elim h1
  obtain ⟨t4, hq4, h3⟩ := W.asRef_elim h2
  obtain ⟨l5, hq5, h4⟩ := W.asRef_elim h3
  obtain ⟨t6, hq6, h5⟩ := W.asRef_elim h4
  obtain ⟨f7, hq7, h6⟩ := W.asRef_elim h5
  exact fun a ha => W.WP.at (n := ⟨28, [], some l_⟩) (E := [(2, .pointer (some t2)), (3, .pointer (some t3)), (4, .pointer (some t4)), (5, .pointer (some l5)), (6, .pointer (some t6)), (7, .pointer (some f7))]) (W.WP.seq (c := C15) (x := C21) (y := C16) (by kernel_rfl) <| W.WP.reg (c := C21) (fun E w => W.condK (W.Env.val E (.tmp 18)) (KE_S9 l_ (W.lo rec_) E w R) (KE_S10 l_ (W.lo rec_) E w R)) (by kernel_rfl) (Eq.mp (by kernel_rfl) h6) fun _ _ a hA hK => (W.WP.condK (c := C16) (x := C17) (y := C22) (o := .tmp 18) (by kernel_rfl) (fun hK => (KE_S9_ok l_ rec_ R _ _ hK)) (fun hK => (W.WP.skip (c := C22) (by kernel_rfl) fun a hA => (KE_S10_ok l_ rec_ R _ _ hK) a hA)) hK) a hA) (ha.cons hq2 (ha.cons hq3 (ha.cons hq4 (ha.cons hq5 (ha.cons hq6 (ha.cons hq7 ha.nil))))))
noncomputable def C23 : Code := W.Code.snd C12
abbrev Q4 (l_ : Nat) (rec_ : Loop) (R : W.Post) : Exit → Act → World → Prop := (W.QAssign Try.prog 28 l_ rec_ C13 (roundPost Try.prog l_ R))
/-- lexer.go:217 -/
abbrev S7 (l_ : Nat) (o_ : LoopState → Option Code → Obj) (t2 t3 t4 l5 t6 : Addr) (t15_0 t15_1 : Int) (w : World) (R : W.Post) : Prop :=
  W.nwV w (.cells #[.int .i64 0, .int .i64 0] ty_lexer_fault) fun w1 => 
  W.stV w1 (Addr.mk w.heap.size 0 none) (.int .i64 t15_0) fun w2 => 
  W.stV w2 ((Addr.mk w.heap.size 0 none).add 1) (.int .i64 t15_1) fun w3 => 
  W.puV w3 l_ (o_ .ready none) (o_ .busy none) fun w4 => S8 l_ o_ t2 t3 t4 l5 t6 (Addr.mk w.heap.size 0 none) w4 R
def KE_S7 (l_ : Nat) (o_ : LoopState → Option Code → Obj) (E : W.Env) (w : World) (R : W.Post) : Prop := W.asRef (W.Env.get? E 2) fun t2 => W.asRef (W.Env.get? E 3) fun t3 => W.asRef (W.Env.get? E 4) fun t4 => W.asRef (W.Env.get? E 5) fun l5 => W.asRef (W.Env.get? E 6) fun t6 => W.asAgg (W.Env.get? E 15) fun t15_l0 => W.asCons t15_l0 fun t15_v0 t15_l1 => W.asInt .i64 (some t15_v0) fun t15_0 => W.asCons t15_l1 fun t15_v1 t15_l2 => W.asInt .i64 (some t15_v1) fun t15_1 => W.asNil t15_l2 <| S7 l_ o_ t2 t3 t4 l5 t6 t15_0 t15_1 w R
theorem KE_S7_ok (l_ : Nat) (rec_ : Loop) (R : W.Post) (E : W.Env) (w : World) (h : KE_S7 l_ (W.lo rec_) E w R) : W.WP Try.prog ⟨28, [], some l_⟩ C23 (Q4 l_ rec_ R) E w := by
  obtain ⟨t2, hq2, h1⟩ := W.asRef_elim h
  obtain ⟨t3, hq3, h2⟩ := W.asRef_elim h1
  obtain ⟨t4, hq4, h3⟩ := W.asRef_elim h2
  obtain ⟨l5, hq5, h4⟩ := W.asRef_elim h3
  obtain ⟨t6, hq6, h5⟩ := W.asRef_elim h4
  obtain ⟨t15_l0, hq15, h6⟩ := W.asAgg_elim h5
  obtain ⟨t15_v0, t15_l1, rfl, h7⟩ := W.asCons_elim h6
  obtain ⟨t15_0, ex, h8⟩ := W.asInt_elim h7
  obtain rfl := Option.some.inj ex
  obtain ⟨t15_v1, t15_l2, rfl, h9⟩ := W.asCons_elim h8
  obtain ⟨t15_1, ex, h10⟩ := W.asInt_elim h9
  obtain rfl := Option.some.inj ex
  obtain ⟨rfl, h11⟩ := W.asNil_elim h10
  exact fun a ha => W.WP.at (n := ⟨28, [], some l_⟩) (E := [(2, .pointer (some t2)), (3, .pointer (some t3)), (4, .pointer (some t4)), (5, .pointer (some l5)), (6, .pointer (some t6)), (15, .agg #[.int .i64 t15_0, .int .i64 t15_1])]) (W.WP.reg (c := C23) (fun E w => w.heap[l_]? = some (W.lo rec_ .ready none) ∧ ((fun w => KE_S8 l_ (W.lo rec_) E w R) (w.putObj l_ (W.lo rec_ .busy none)))) (by kernel_rfl) (Eq.mp (by kernel_rfl) h11) fun _ _ a hA hK => ⟨(hK).1, (W.WP.block (c := C13) (x := C14) (id := 1) (by kernel_rfl) (W.WP.seq (c := C14) (x := C15) (y := C18) (by kernel_rfl) (KE_S8_ok l_ rec_ R _ _ (hK).2))) a hA⟩) (ha.cons hq2 (ha.cons hq3 (ha.cons hq4 (ha.cons hq5 (ha.cons hq6 (ha.cons hq15 ha.nil))))))
noncomputable def C24 : Code := W.Code.fst C12
/-- lexer.go:217 -/
abbrev S6 (l_ : Nat) (o_ : LoopState → Option Code → Obj) (t2 t3 t4 l5 : Addr) (t14_0 : Int) (t14_1 : ByteArray) (t14_2 t15_0 t15_1 : Int) (w : World) (R : W.Post) : Prop :=
  W.nwV w (.cells #[.int .i64 0, .string (ByteArray.mk #[]), .int .i64 0] ty_lexer_Token) fun w1 => 
  W.stV w1 (Addr.mk w.heap.size 0 none) (.int .i64 t14_0) fun w2 => 
  W.stV w2 ((Addr.mk w.heap.size 0 none).add 1) (.string t14_1) fun w3 => 
  W.stV w3 ((Addr.mk w.heap.size 0 none).add 2) (.int .i64 t14_2) fun w4 => 
  S7 l_ o_ t2 t3 t4 l5 (Addr.mk w.heap.size 0 none) t15_0 t15_1 w4 R
def KE_S6 (l_ : Nat) (o_ : LoopState → Option Code → Obj) (E : W.Env) (w : World) (R : W.Post) : Prop := W.asRef (W.Env.get? E 2) fun t2 => W.asRef (W.Env.get? E 3) fun t3 => W.asRef (W.Env.get? E 4) fun t4 => W.asRef (W.Env.get? E 5) fun l5 => W.asAgg (W.Env.get? E 14) fun t14_l0 => W.asCons t14_l0 fun t14_v0 t14_l1 => W.asInt .i64 (some t14_v0) fun t14_0 => W.asCons t14_l1 fun t14_v1 t14_l2 => W.asStr (some t14_v1) fun t14_1 => W.asCons t14_l2 fun t14_v2 t14_l3 => W.asInt .i64 (some t14_v2) fun t14_2 => W.asNil t14_l3 <| W.asAgg (W.Env.get? E 15) fun t15_l0 => W.asCons t15_l0 fun t15_v0 t15_l1 => W.asInt .i64 (some t15_v0) fun t15_0 => W.asCons t15_l1 fun t15_v1 t15_l2 => W.asInt .i64 (some t15_v1) fun t15_1 => W.asNil t15_l2 <| S6 l_ o_ t2 t3 t4 l5 t14_0 t14_1 t14_2 t15_0 t15_1 w R
theorem KE_S6_ok (l_ : Nat) (rec_ : Loop) (R : W.Post) (E : W.Env) (w : World) (h : KE_S6 l_ (W.lo rec_) E w R) : W.WP Try.prog ⟨28, [], some l_⟩ C12 (Q4 l_ rec_ R) E w := by
  obtain ⟨t2, hq2, h1⟩ := W.asRef_elim h
  obtain ⟨t3, hq3, h2⟩ := W.asRef_elim h1
  obtain ⟨t4, hq4, h3⟩ := W.asRef_elim h2
  obtain ⟨l5, hq5, h4⟩ := W.asRef_elim h3
  obtain ⟨t14_l0, hq14, h5⟩ := W.asAgg_elim h4
  obtain ⟨t14_v0, t14_l1, rfl, h6⟩ := W.asCons_elim h5
  obtain ⟨t14_0, ex, h7⟩ := W.asInt_elim h6
  obtain rfl := Option.some.inj ex
  obtain ⟨t14_v1, t14_l2, rfl, h8⟩ := W.asCons_elim h7
  obtain ⟨t14_1, ex, h9⟩ := W.asStr_elim h8
  obtain rfl := Option.some.inj ex
  obtain ⟨t14_v2, t14_l3, rfl, h10⟩ := W.asCons_elim h9
  obtain ⟨t14_2, ex, h11⟩ := W.asInt_elim h10
  obtain rfl := Option.some.inj ex
  obtain ⟨rfl, h12⟩ := W.asNil_elim h11
  obtain ⟨t15_l0, hq15, h13⟩ := W.asAgg_elim h12
  obtain ⟨t15_v0, t15_l1, rfl, h14⟩ := W.asCons_elim h13
  obtain ⟨t15_0, ex, h15⟩ := W.asInt_elim h14
  obtain rfl := Option.some.inj ex
  obtain ⟨t15_v1, t15_l2, rfl, h16⟩ := W.asCons_elim h15
  obtain ⟨t15_1, ex, h17⟩ := W.asInt_elim h16
  obtain rfl := Option.some.inj ex
  obtain ⟨rfl, h18⟩ := W.asNil_elim h17
  exact fun a ha => W.WP.at (n := ⟨28, [], some l_⟩) (E := [(2, .pointer (some t2)), (3, .pointer (some t3)), (4, .pointer (some t4)), (5, .pointer (some l5)), (14, .agg #[.int .i64 t14_0, .string t14_1, .int .i64 t14_2]), (15, .agg #[.int .i64 t15_0, .int .i64 t15_1])]) (W.WP.seq (c := C12) (x := C24) (y := C23) (by kernel_rfl) <| W.WP.reg (c := C24) (fun E w => KE_S7 l_ (W.lo rec_) E w R) (by kernel_rfl) (Eq.mp (by kernel_rfl) h18) fun _ _ a hA hK => (KE_S7_ok l_ rec_ R _ _ hK) a hA) (ha.cons hq2 (ha.cons hq3 (ha.cons hq4 (ha.cons hq5 (ha.cons hq14 (ha.cons hq15 ha.nil))))))
/-- a round of the loop, lexer.go:218 -/
abbrev B_S5 (l_ : Nat) (o_ : LoopState → Option Code → Obj) (t2 t3 t4 l5 t13_c0 : Addr) (x14_0 : Int) (x14_1 : ByteArray) (x14_2 x15_0 x15_1 : Int) (w : World) (R : W.Post) : Prop :=
  S6 l_ o_ t2 t3 t4 l5 x14_0 x14_1 x14_2 x15_0 x15_1 w R
theorem Y_S5 (l_ : Nat) (rec_ : Loop) (t2 t3 t4 l5 t13_c0 : Addr) (x14_0 : Int) (x14_1 : ByteArray) (x14_2 x15_0 x15_1 : Int) (w : World) (R : W.Post) (h : B_S5 l_ (W.lo rec_) t2 t3 t4 l5 t13_c0 x14_0 x14_1 x14_2 x15_0 x15_1 w R) : W.WP Try.prog ⟨28, [], some l_⟩ C12 (W.QAssign Try.prog 28 l_ rec_ C13 (roundPost Try.prog l_ R)) (W.putL [(2, .pointer (some t2)), (3, .pointer (some t3)), (4, .pointer (some t4)), (5, .pointer (some l5)), (13, .func (.func n_lexer_each_1) #[] #[.pointer (some t13_c0)])] [14, 15] [.agg #[.int .i64 x14_0, .string x14_1, .int .i64 x14_2], .agg #[.int .i64 x15_0, .int .i64 x15_1]]) w :=
  (KE_S6_ok l_ rec_ R _ _ (Eq.mp (by kernel_rfl) h))
noncomputable def C25 : Code := W.Code.snd C8
abbrev Q5 (R : W.Post) : Exit → Act → World → Prop := (bodyPostM Fence.wide 0 Try.prog Try.f13 R)
noncomputable def C26 : Code := W.Code.fst C25
noncomputable def C27 : Code := W.Code.snd C25
/-- lexer.go:223 -/
abbrev S11 (D_ : Nat) (t2 t3 t4 l5 : Addr) (w : World) (R : W.Post) : Prop :=
  ∃ t27 : W.Sl, w.cell? l5 = some (t27.v) ∧ 
  W.stV w t2 (t27.v) fun w1 => 
  W.stV w1 t3 (.int .i64 0) fun w2 => 
  W.stV w2 t4 (.int .i64 0) fun w3 => 
  W.puV w3 D_ (.deferred (some [])) (.deferred none) fun w4 => ∃ r2 : W.Sl, w4.cell? t2 = some (r2.v) ∧ 
  ∃ r3 : Int, w4.cell? t3 = some (.int .i64 r3) ∧ 
  ∃ r4 : Int, w4.cell? t4 = some (.int .i64 r4) ∧ 
  R (.returned (.tuple #[r2.v, .int .i64 r3, .int .i64 r4])) w4
def KE_S11 (D_ : Nat) (E : W.Env) (w : World) (R : W.Post) : Prop := W.asRef (W.Env.get? E 2) fun t2 => W.asRef (W.Env.get? E 3) fun t3 => W.asRef (W.Env.get? E 4) fun t4 => W.asRef (W.Env.get? E 5) fun l5 => S11 D_ t2 t3 t4 l5 w R
theorem KE_S11_ok (D_ : Nat) (R : W.Post) (E : W.Env) (w : World) (h : KE_S11 D_ E w R) : W.WP Try.prog (W.marked 28 D_) C25 (Q5 R) E w := by
  obtain ⟨t2, hq2, h1⟩ := W.asRef_elim h
  obtain ⟨t3, hq3, h2⟩ := W.asRef_elim h1
  obtain ⟨t4, hq4, h3⟩ := W.asRef_elim h2
  obtain ⟨l5, hq5, h4⟩ := W.asRef_elim h3
  exact fun a ha => W.WP.at (n := (W.marked 28 D_)) (E := [(2, .pointer (some t2)), (3, .pointer (some t3)), (4, .pointer (some t4)), (5, .pointer (some l5))]) (W.WP.seq (c := C25) (x := C26) (y := C27) (by kernel_rfl) <| W.WP.reg (c := C26) (fun E w => W.retVCm Try.prog Try.f13 E w D_ R) (by kernel_rfl) (Eq.mp (by kernel_rfl) h4) fun _ _ a hA hK => (W.WP.ret (c := C27) (by kernel_rfl) fun a hA => W.retVCm_sound hA hK) a hA) (ha.cons hq2 (ha.cons hq3 (ha.cons hq4 (ha.cons hq5 ha.nil))))
/-- rangeFunc: a loop over a function -/
abbrev S5 (t2 t3 t4 l5 t13_c0 : Addr) (w : World) (R : W.Post) : Prop :=
  ∀ o_ : LoopState → Option Code → Obj, (∀ (x14_0 : Int) (x14_1 : ByteArray) (x14_2 x15_0 x15_1 : Int) (w_ : World) (K_ : Bool → World → Prop), w_.heap[w.heap.size + 1]? = some (o_ .ready none) → B_S5 (w.heap.size + 1) o_ t2 t3 t4 l5 t13_c0 x14_0 x14_1 x14_2 x15_0 x15_1 w_ (fun r_ w1 => ∃ b_ : Bool, r_ = .returned (.bool b_) ∧ K_ b_ w1) → W.yieldB Try.prog (w.heap.size + 1) #[.agg #[.int .i64 x14_0, .string x14_1, .int .i64 x14_2], .agg #[.int .i64 x15_0, .int .i64 x15_1]] w_ K_) →
  Calls Try.prog n_lexer_each_1 #[.func (.yield (w.heap.size + 1)) #[] #[], .pointer (some t13_c0)] ((w.alloc (.deferred (some []))).alloc (o_ .ready none)) fun r_ w2 => (∃ v_, r_ = .returned v_) ∧ W.RangeEnd w2 (w.heap.size + 1) o_ (fun w3 => S11 w.heap.size t2 t3 t4 l5 w3 R) (fun id_ w3 => False) (fun w3 => W.puV w3 w.heap.size (.deferred (some [])) (.deferred none) fun w4 => ∃ r2 : W.Sl, w4.cell? t2 = some (r2.v) ∧ 
  ∃ r3 : Int, w4.cell? t3 = some (.int .i64 r3) ∧ 
  ∃ r4 : Int, w4.cell? t4 = some (.int .i64 r4) ∧ 
  R (.returned (.tuple #[r2.v, .int .i64 r3, .int .i64 r4])) w4)
abbrev Q6 (R : W.Post) : Exit → Act → World → Prop := (Exit.then (W.wpx Try.prog (W.cx 28) C25 (bodyPostM Fence.wide 0 Try.prog Try.f13 R)) (bodyPostM Fence.wide 0 Try.prog Try.f13 R))
abbrev Q7 (R : W.Post) : Exit → Act → World → Prop := (Exit.inBlock 0 (Q6 R))
def KE_S5 (E : W.Env) (w : World) (R : W.Post) : Prop := W.asRef (W.Env.get? E 2) fun t2 => W.asRef (W.Env.get? E 3) fun t3 => W.asRef (W.Env.get? E 4) fun t4 => W.asRef (W.Env.get? E 5) fun l5 => W.asFunc n_lexer_each_1 (W.Env.get? E 13) fun t13_lf0 t13_lc0 => W.asNil t13_lf0 <| W.asCons t13_lc0 fun t13_vc0 t13_lc1 => W.asRef (some t13_vc0) fun t13_c0 => W.asNil t13_lc1 <| S5 t2 t3 t4 l5 t13_c0 w R
theorem KE_S5_ok (R : W.Post) (E : W.Env) (w : World) (h : KE_S5 E w R) : W.WP Try.prog (W.cx 28) C11 (Q7 R) E w := by
  obtain ⟨t2, hq2, h1⟩ := W.asRef_elim h
  obtain ⟨t3, hq3, h2⟩ := W.asRef_elim h1
  obtain ⟨t4, hq4, h3⟩ := W.asRef_elim h2
  obtain ⟨l5, hq5, h4⟩ := W.asRef_elim h3
  obtain ⟨t13_lf0, t13_lc0, hq13, h5⟩ := W.asFunc_elim h4
  obtain ⟨rfl, h6⟩ := W.asNil_elim h5
  obtain ⟨t13_vc0, t13_lc1, rfl, h7⟩ := W.asCons_elim h6
  obtain ⟨t13_c0, ex, h8⟩ := W.asRef_elim h7
  obtain rfl := Option.some.inj ex
  obtain ⟨rfl, h9⟩ := W.asNil_elim h8
  exact fun a ha => W.WP.at (n := (W.cx 28)) (E := [(2, .pointer (some t2)), (3, .pointer (some t3)), (4, .pointer (some t4)), (5, .pointer (some l5)), (13, .func (.func n_lexer_each_1) #[] #[.pointer (some t13_c0)])]) (W.WP.range (m := 28) (c := C11) (g := .tmp 13) (ps := #[14, 15]) (assign := C12) (body := C13) (gf := n_lexer_each_1) (lb := #[.pointer (some t13_c0)]) (fun w3 => S11 w.heap.size t2 t3 t4 l5 w3 R) (fun id_ w3 => False) (fun w3 => W.puV w3 w.heap.size (.deferred (some [])) (.deferred none) fun w4 => ∃ r2 : W.Sl, w4.cell? t2 = some (r2.v) ∧ 
  ∃ r3 : Int, w4.cell? t3 = some (.int .i64 r3) ∧ 
  ∃ r4 : Int, w4.cell? t4 = some (.int .i64 r4) ∧ 
  R (.returned (.tuple #[r2.v, .int .i64 r3, .int .i64 r4])) w4) (by kernel_rfl) rfl (by kernel_rfl)
    (fun w3 hK a hA => (KE_S11_ok w.heap.size R _ _ (Eq.mp (by kernel_rfl) hK)) a hA)
    (fun _ _ hK => hK.elim)
    (fun w3 hK a hA => W.retVCm_sound hA (Eq.mp (by kernel_rfl) hK))
    (fun rec_ hr_ => h9 (W.lo rec_) (fun x14_0 x14_1 x14_2 x15_0 x15_1 w_ K_ hl_ hb_ => W.yield_of (args := [.agg #[.int .i64 x14_0, .string x14_1, .int .i64 x14_2], .agg #[.int .i64 x15_0, .int .i64 x15_1]]) hr_ hl_ rfl (by kernel_rfl) (fun _ _ h => h) (Y_S5 _ rec_ t2 t3 t4 l5 t13_c0 x14_0 x14_1 x14_2 x15_0 x15_1 w_ _ hb_)))) (ha.cons hq2 (ha.cons hq3 (ha.cons hq4 (ha.cons hq5 (ha.cons hq13 ha.nil)))))
noncomputable def C28 : Code := W.Code.fst C9
/-- lexer.go:217 -/
abbrev S4 (s0 : ByteArray) (t2 t3 t4 l5 : Addr) (w : World) (R : W.Post) : Prop :=
  Calls Try.prog n_lexer_reader #[.string s0] w fun r_ w1 => ∃ t12 : Value, r_ = .returned (t12) ∧ 
  Calls Try.prog n_lexer_each #[t12] w1 fun r_ w2 => ∃ t13 : Value, r_ = .returned (t13) ∧ 
  W.asFunc n_lexer_each_1 (some t13) fun t13f_lf0 t13f_lc0 => W.asNil t13f_lf0 <| W.asCons t13f_lc0 fun t13f_vc0 t13f_lc1 => W.asRef (some t13f_vc0) fun t13f_c0 => W.asNil t13f_lc1 <| S5 t2 t3 t4 l5 t13f_c0 w2 R
def KE_S4 (E : W.Env) (w : World) (R : W.Post) : Prop := W.asStr (W.Env.get? E 0) fun s0 => W.asRef (W.Env.get? E 2) fun t2 => W.asRef (W.Env.get? E 3) fun t3 => W.asRef (W.Env.get? E 4) fun t4 => W.asRef (W.Env.get? E 5) fun l5 => S4 s0 t2 t3 t4 l5 w R
theorem KE_S4_ok (R : W.Post) (E : W.Env) (w : World) (h : KE_S4 E w R) : W.WP Try.prog (W.cx 28) C9 (Q6 R) E w := by
  obtain ⟨s0, hq0, h1⟩ := W.asStr_elim h
  obtain ⟨t2, hq2, h2⟩ := W.asRef_elim h1
  obtain ⟨t3, hq3, h3⟩ := W.asRef_elim h2
  obtain ⟨t4, hq4, h4⟩ := W.asRef_elim h3
  obtain ⟨l5, hq5, h5⟩ := W.asRef_elim h4
  exact fun a ha => W.WP.at (n := (W.cx 28)) (E := [(0, .string s0), (2, .pointer (some t2)), (3, .pointer (some t3)), (4, .pointer (some t4)), (5, .pointer (some l5))]) (W.WP.seq (c := C9) (x := C28) (y := C10) (by kernel_rfl) <| W.WP.reg (c := C28) (fun E w => KE_S5 E w R) (by kernel_rfl) (Eq.mp (by kernel_rfl) h5) fun _ _ a hA hK => (W.WP.block (c := C10) (x := C11) (id := 0) (by kernel_rfl) (KE_S5_ok R _ _ hK)) a hA) (ha.cons hq0 (ha.cons hq2 (ha.cons hq3 (ha.cons hq4 (ha.cons hq5 ha.nil)))))
noncomputable def C29 : Code := W.Code.fst C5
/-- lexer.go:216 -/
abbrev S3 (s0 : ByteArray) (t2 t3 t4 : Addr) (w : World) (R : W.Post) : Prop :=
  W.nwV w (.cells #[.slice none 0 0] ty_sl_lexer_Token) fun w1 => 
  S4 s0 t2 t3 t4 (Addr.mk w.heap.size 0 none) w1 R
def KE_S3 (E : W.Env) (w : World) (R : W.Post) : Prop := W.asStr (W.Env.get? E 0) fun s0 => W.asRef (W.Env.get? E 2) fun t2 => W.asRef (W.Env.get? E 3) fun t3 => W.asRef (W.Env.get? E 4) fun t4 => S3 s0 t2 t3 t4 w R
theorem KE_S3_ok (R : W.Post) (E : W.Env) (w : World) (h : KE_S3 E w R) : W.WP Try.prog (W.cx 28) C5 (Q5 R) E w := by
  obtain ⟨s0, hq0, h1⟩ := W.asStr_elim h
  obtain ⟨t2, hq2, h2⟩ := W.asRef_elim h1
  obtain ⟨t3, hq3, h3⟩ := W.asRef_elim h2
  obtain ⟨t4, hq4, h4⟩ := W.asRef_elim h3
  exact fun a ha => W.WP.at (n := (W.cx 28)) (E := [(0, .string s0), (2, .pointer (some t2)), (3, .pointer (some t3)), (4, .pointer (some t4))]) (W.WP.seq (c := C5) (x := C29) (y := C8) (by kernel_rfl) <| W.WP.reg (c := C29) (fun E w => KE_S4 E w R) (by kernel_rfl) (Eq.mp (by kernel_rfl) h4) fun _ _ a hA hK => (W.WP.seq (c := C8) (x := C9) (y := C25) (by kernel_rfl) (KE_S4_ok R _ _ hK)) a hA) (ha.cons hq0 (ha.cons hq2 (ha.cons hq3 (ha.cons hq4 ha.nil))))
noncomputable def C30 : Code := W.Code.fst C2
noncomputable def C31 : Code := W.Code.snd C3
/-- lexer.go:213 -/
abbrev S1 (s0 : ByteArray) (t2 t3 t4 : Addr) (w : World) (R : W.Post) : Prop :=
  W.sel (decide (((s0.size : Nat) : Int) > 65536)) (S2 t2 t3 t4 w R) (S3 s0 t2 t3 t4 w R)
def KE_S1 (E : W.Env) (w : World) (R : W.Post) : Prop := W.asStr (W.Env.get? E 0) fun s0 => W.asRef (W.Env.get? E 2) fun t2 => W.asRef (W.Env.get? E 3) fun t3 => W.asRef (W.Env.get? E 4) fun t4 => S1 s0 t2 t3 t4 w R
theorem KE_S1_ok (R : W.Post) (E : W.Env) (w : World) (h : KE_S1 E w R) : W.WP Try.prog (W.cx 28) C2 (Q0 R) E w := by
  obtain ⟨s0, hq0, h1⟩ := W.asStr_elim h
  obtain ⟨t2, hq2, h2⟩ := W.asRef_elim h1
  obtain ⟨t3, hq3, h3⟩ := W.asRef_elim h2
  obtain ⟨t4, hq4, h4⟩ := W.asRef_elim h3
  exact fun a ha => W.WP.at (n := (W.cx 28)) (E := [(0, .string s0), (2, .pointer (some t2)), (3, .pointer (some t3)), (4, .pointer (some t4))]) (W.WP.seq (c := C2) (x := C30) (y := C3) (by kernel_rfl) <| W.WP.reg (c := C30) (fun E w => W.condK (W.Env.val E (.tmp 10)) (KE_S2 E w R) (KE_S3 E w R)) (by kernel_rfl) (Eq.mp (by kernel_rfl) h4) fun _ _ a hA hK => (W.WP.condK (c := C3) (x := C4) (y := C31) (o := .tmp 10) (by kernel_rfl) (fun hK => (KE_S2_ok R _ _ hK)) (fun hK => (W.WP.skip (c := C31) (by kernel_rfl) fun a hA => (KE_S3_ok R _ _ hK) a hA)) hK) a hA) (ha.cons hq0 (ha.cons hq2 (ha.cons hq3 (ha.cons hq4 ha.nil))))
noncomputable def C32 : Code := W.Code.fst C0
/-- lexer.go:212 -/
abbrev S0 (s0 : ByteArray) (w : World) (R : W.Post) : Prop :=
  W.nwV w (.cells #[.slice none 0 0] ty_sl_lexer_Token) fun w1 => 
  W.nwV w1 (.cells #[.int .i64 0] ty_int) fun w2 => 
  W.nwV w2 (.cells #[.int .i64 0] ty_api_Errno) fun w3 => 
  S1 s0 (Addr.mk w.heap.size 0 none) (Addr.mk w1.heap.size 0 none) (Addr.mk w2.heap.size 0 none) w3 R
def KE_S0 (E : W.Env) (w : World) (R : W.Post) : Prop := W.asStr (W.Env.get? E 0) fun s0 => S0 s0 w R
theorem KE_S0_ok (R : W.Post) (E : W.Env) (w : World) (h : KE_S0 E w R) : W.WP Try.prog (W.cx 28) C0 (Q5 R) E w := by
  obtain ⟨s0, hq0, h1⟩ := W.asStr_elim h
  exact fun a ha => W.WP.at (n := (W.cx 28)) (E := [(0, .string s0)]) (W.WP.seq (c := C0) (x := C32) (y := C1) (by kernel_rfl) <| W.WP.reg (c := C32) (fun E w => KE_S1 E w R) (by kernel_rfl) (Eq.mp (by kernel_rfl) h1) fun _ _ a hA hK => (W.WP.seq (c := C1) (x := C2) (y := C5) (by kernel_rfl) (KE_S1_ok R _ _ hK)) a hA) (ha.cons hq0 ha.nil)
/-- enthymeme/lexer.Tokens -/
theorem ok (s0 : ByteArray) (w : World) (R : W.Post) (h : S0 s0 w R) : Calls Try.prog n_lexer_Tokens #[.string s0] w R :=
  W.calls_of_WPM (fn := Try.f13) (c := C0) (args := [.string s0]) (by kernel_rfl) (by kernel_rfl) (by kernel_rfl) (KE_S0_ok R _ _ (Eq.mp (by kernel_rfl) h))
end lexer_Tokens
namespace lexer_bare
noncomputable def C0 : Code := (Try.f35.body).getD .skip
noncomputable def C1 : Code := W.Code.snd C0
abbrev Q0 (R : W.Post) : Exit → Act → World → Prop := (bodyPost Try.prog Try.f35 R)
noncomputable def C2 : Code := W.Code.fst C1
noncomputable def C3 : Code := W.Code.snd C1
/-- lexer.go:227 -/
abbrev S1 (c0 : Int) (w : World) (R : W.Post) : Prop :=
  W.sel (decide (c0 ≥ 32)) (W.sel (decide (c0 ≤ 126)) (W.sel (c0 != 34) (R (.returned (.bool (c0 != 92))) w) (R (.returned (.bool false)) w)) (R (.returned (.bool false)) w)) (R (.returned (.bool false)) w)
def KE_S1 (E : W.Env) (w : World) (R : W.Post) : Prop := W.asInt .u8 (W.Env.get? E 0) fun c0 => S1 c0 w R
theorem KE_S1_ok (R : W.Post) (E : W.Env) (w : World) (h : KE_S1 E w R) : W.WP Try.prog (W.cx 17) C1 (Q0 R) E w := by
  obtain ⟨c0, hq0, h1⟩ := W.asInt_elim h
  exact fun a ha => W.WP.at (n := (W.cx 17)) (E := [(0, .int .u8 c0)]) (W.WP.seq (c := C1) (x := C2) (y := C3) (by kernel_rfl) <| W.WP.reg (c := C2) (fun E w => W.retVC Try.prog Try.f35 E w (fun v => R (.returned v) w)) (by kernel_rfl) (Eq.mp (by kernel_rfl) h1) fun _ _ a hA hK => (W.WP.ret (c := C3) (by kernel_rfl) fun a hA => W.retVC_sound hA hK) a hA) (ha.cons hq0 ha.nil)
noncomputable def C4 : Code := W.Code.fst C0
/-- lexer.go:227 -/
abbrev S0 (c0 : Int) (w : World) (R : W.Post) : Prop :=
  S1 c0 w R
def KE_S0 (E : W.Env) (w : World) (R : W.Post) : Prop := W.asInt .u8 (W.Env.get? E 0) fun c0 => S0 c0 w R
theorem KE_S0_ok (R : W.Post) (E : W.Env) (w : World) (h : KE_S0 E w R) : W.WP Try.prog (W.cx 17) C0 (Q0 R) E w := by
  obtain ⟨c0, hq0, h1⟩ := W.asInt_elim h
  exact fun a ha => W.WP.at (n := (W.cx 17)) (E := [(0, .int .u8 c0)]) (W.WP.seq (c := C0) (x := C4) (y := C1) (by kernel_rfl) <| W.WP.reg (c := C4) (fun E w => KE_S1 E w R) (by kernel_rfl) (Eq.mp (by kernel_rfl) h1) fun _ _ a hA hK => (KE_S1_ok R _ _ hK) a hA) (ha.cons hq0 ha.nil)
/-- enthymeme/lexer.bare -/
theorem ok (c0 : Int) (w : World) (R : W.Post) (h : S0 c0 w R) : Calls Try.prog n_lexer_bare #[.int .u8 c0] w R :=
  W.calls_of_WP' (fn := Try.f35) (c := C0) (args := [.int .u8 c0]) (by kernel_rfl) (by kernel_rfl) (by kernel_rfl) (KE_S0_ok R _ _ (Eq.mp (by kernel_rfl) h))
end lexer_bare
namespace lexer_Quote
noncomputable def C0 : Code := (Try.f18.body).getD .skip
noncomputable def C1 : Code := W.Code.snd C0
noncomputable def C2 : Code := W.Code.snd C1
noncomputable def C3 : Code := W.Code.fst C2
noncomputable def C4 : Code := W.Code.snd C3
noncomputable def C5 : Code := W.Code.fst C4
noncomputable def C6 : Code := W.Code.fst C5
noncomputable def C7 : Code := W.Code.snd C2
abbrev Q0 (R : W.Post) : Exit → Act → World → Prop := (Exit.then (W.wpx Try.prog (W.cx 86) C7 (bodyPost Try.prog Try.f18 R)) (bodyPost Try.prog Try.f18 R))
abbrev Q1 (R : W.Post) : Exit → Act → World → Prop := (Exit.inBlock 0 (Q0 R))
/-- the head of the loop, lexer.go:232 -/
def L3 (s0 : ByteArray) (n4 i5 : Int) (w : World) (R : W.Post) : Prop := W.LP Try.prog (W.cx 86) C6 (Q1 R) [(0, .string s0), (4, .int .i64 n4), (5, .int .i64 i5)] w
def KE_L3 (E : W.Env) (w : World) (R : W.Post) : Prop := W.asStr (W.Env.get? E 0) fun s0 => W.asInt .i64 (W.Env.get? E 4) fun n4 => W.asInt .i64 (W.Env.get? E 5) fun i5 => L3 s0 n4 i5 w R
theorem KE_L3_ok (R : W.Post) (E : W.Env) (w : World) (h : KE_L3 E w R) : W.LP Try.prog (W.cx 86) C6 (Q1 R) E w := by
  obtain ⟨s0, hq0, h1⟩ := W.asStr_elim h
  obtain ⟨n4, hq4, h2⟩ := W.asInt_elim h1
  obtain ⟨i5, hq5, h3⟩ := W.asInt_elim h2
  intro a ha
  exact h3 a (ha.cons hq0 (ha.cons hq4 (ha.cons hq5 ha.nil)))
noncomputable def C8 : Code := W.Code.snd C6
noncomputable def C9 : Code := W.Code.snd C8
abbrev Q2 (R : W.Post) : Exit → Act → World → Prop := (Exit.then (W.LoopWP Try.prog (W.cx 86) C6 (Q1 R)) (Q1 R))
/-- lexer.go:232 -/
abbrev S8 (s0 : ByteArray) (n4 i5 : Int) (w : World) (R : W.Post) : Prop :=
  L3 s0 n4 (IntKind.wrap .i64 (i5 + 1)) w R
def KE_S8 (E : W.Env) (w : World) (R : W.Post) : Prop := W.asStr (W.Env.get? E 0) fun s0 => W.asInt .i64 (W.Env.get? E 4) fun n4 => W.asInt .i64 (W.Env.get? E 5) fun i5 => S8 s0 n4 i5 w R
theorem KE_S8_ok (R : W.Post) (E : W.Env) (w : World) (h : KE_S8 E w R) : W.WP Try.prog (W.cx 86) C9 (Q2 R) E w := by
  obtain ⟨s0, hq0, h1⟩ := W.asStr_elim h
  obtain ⟨n4, hq4, h2⟩ := W.asInt_elim h1
  obtain ⟨i5, hq5, h3⟩ := W.asInt_elim h2
  exact fun a ha => W.WP.at (n := (W.cx 86)) (E := [(0, .string s0), (4, .int .i64 n4), (5, .int .i64 i5)]) (W.WP.reg (c := C9) (fun E w => KE_L3 E w R) (by kernel_rfl) (Eq.mp (by kernel_rfl) h3) fun _ _ a hA hK => KE_L3_ok R _ _ hK a hA) (ha.cons hq0 (ha.cons hq4 (ha.cons hq5 ha.nil)))
noncomputable def C10 : Code := W.Code.fst C8
noncomputable def C11 : Code := W.Code.fst C10
noncomputable def C12 : Code := W.Code.snd C11
noncomputable def C13 : Code := W.Code.fst C12
noncomputable def C14 : Code := W.Code.snd C13
noncomputable def C15 : Code := W.Code.fst C14
abbrev Q3 (R : W.Post) : Exit → Act → World → Prop := (Exit.then (W.wpx Try.prog (W.cx 86) C9 (Exit.then (W.LoopWP Try.prog (W.cx 86) C6 (Q1 R)) (Q1 R))) (Exit.then (W.LoopWP Try.prog (W.cx 86) C6 (Q1 R)) (Q1 R)))
abbrev Q4 (R : W.Post) : Exit → Act → World → Prop := (Exit.inBlock 1 (Q3 R))
abbrev Q5 (R : W.Post) : Exit → Act → World → Prop := (Exit.inBlock 2 (Q4 R))
/-- lexer.go:235 -/
abbrev S7 (s0 : ByteArray) (n4 i5 : Int) (w : World) (R : W.Post) : Prop :=
  S8 s0 (IntKind.wrap .i64 (n4 + 1)) i5 w R
def KE_S7 (E : W.Env) (w : World) (R : W.Post) : Prop := W.asStr (W.Env.get? E 0) fun s0 => W.asInt .i64 (W.Env.get? E 4) fun n4 => W.asInt .i64 (W.Env.get? E 5) fun i5 => S7 s0 n4 i5 w R
theorem KE_S7_ok (R : W.Post) (E : W.Env) (w : World) (h : KE_S7 E w R) : W.WP Try.prog (W.cx 86) C15 (Q5 R) E w := by
  obtain ⟨s0, hq0, h1⟩ := W.asStr_elim h
  obtain ⟨n4, hq4, h2⟩ := W.asInt_elim h1
  obtain ⟨i5, hq5, h3⟩ := W.asInt_elim h2
  exact fun a ha => W.WP.at (n := (W.cx 86)) (E := [(0, .string s0), (4, .int .i64 n4), (5, .int .i64 i5)]) (W.WP.reg (c := C15) (fun E w => KE_S8 E w R) (by kernel_rfl) (Eq.mp (by kernel_rfl) h3) fun _ _ a hA hK => (KE_S8_ok R _ _ hK) a hA) (ha.cons hq0 (ha.cons hq4 (ha.cons hq5 ha.nil)))
noncomputable def C16 : Code := W.Code.snd C14
noncomputable def C17 : Code := W.Code.snd C16
noncomputable def C18 : Code := W.Code.fst C17
/-- lexer.go:237 -/
abbrev S10 (s0 : ByteArray) (n4 i5 : Int) (w : World) (R : W.Post) : Prop :=
  S8 s0 (IntKind.wrap .i64 (n4 + 2)) i5 w R
def KE_S10 (E : W.Env) (w : World) (R : W.Post) : Prop := W.asStr (W.Env.get? E 0) fun s0 => W.asInt .i64 (W.Env.get? E 4) fun n4 => W.asInt .i64 (W.Env.get? E 5) fun i5 => S10 s0 n4 i5 w R
theorem KE_S10_ok (R : W.Post) (E : W.Env) (w : World) (h : KE_S10 E w R) : W.WP Try.prog (W.cx 86) C18 (Q5 R) E w := by
  obtain ⟨s0, hq0, h1⟩ := W.asStr_elim h
  obtain ⟨n4, hq4, h2⟩ := W.asInt_elim h1
  obtain ⟨i5, hq5, h3⟩ := W.asInt_elim h2
  exact fun a ha => W.WP.at (n := (W.cx 86)) (E := [(0, .string s0), (4, .int .i64 n4), (5, .int .i64 i5)]) (W.WP.reg (c := C18) (fun E w => KE_S8 E w R) (by kernel_rfl) (Eq.mp (by kernel_rfl) h3) fun _ _ a hA hK => (KE_S8_ok R _ _ hK) a hA) (ha.cons hq0 (ha.cons hq4 (ha.cons hq5 ha.nil)))
noncomputable def C19 : Code := W.Code.snd C17
/-- lexer.go:239 -/
abbrev S11 (s0 : ByteArray) (n4 i5 : Int) (w : World) (R : W.Post) : Prop :=
  S8 s0 (IntKind.wrap .i64 (n4 + 4)) i5 w R
def KE_S11 (E : W.Env) (w : World) (R : W.Post) : Prop := W.asStr (W.Env.get? E 0) fun s0 => W.asInt .i64 (W.Env.get? E 4) fun n4 => W.asInt .i64 (W.Env.get? E 5) fun i5 => S11 s0 n4 i5 w R
theorem KE_S11_ok (R : W.Post) (E : W.Env) (w : World) (h : KE_S11 E w R) : W.WP Try.prog (W.cx 86) C19 (Q5 R) E w := by
  obtain ⟨s0, hq0, h1⟩ := W.asStr_elim h
  obtain ⟨n4, hq4, h2⟩ := W.asInt_elim h1
  obtain ⟨i5, hq5, h3⟩ := W.asInt_elim h2
  exact fun a ha => W.WP.at (n := (W.cx 86)) (E := [(0, .string s0), (4, .int .i64 n4), (5, .int .i64 i5)]) (W.WP.reg (c := C19) (fun E w => KE_S8 E w R) (by kernel_rfl) (Eq.mp (by kernel_rfl) h3) fun _ _ a hA hK => (KE_S8_ok R _ _ hK) a hA) (ha.cons hq0 (ha.cons hq4 (ha.cons hq5 ha.nil)))
noncomputable def C20 : Code := W.Code.fst C16
/-- lexer.go:236 -/
abbrev S9 (s0 : ByteArray) (n4 i5 c6 : Int) (w : World) (R : W.Post) : Prop :=
  W.sel (c6 == 34) (S10 s0 n4 i5 w R) (W.sel (c6 == 92) (S10 s0 n4 i5 w R) (S11 s0 n4 i5 w R))
def KE_S9 (E : W.Env) (w : World) (R : W.Post) : Prop := W.asStr (W.Env.get? E 0) fun s0 => W.asInt .i64 (W.Env.get? E 4) fun n4 => W.asInt .i64 (W.Env.get? E 5) fun i5 => W.asInt .u8 (W.Env.get? E 6) fun c6 => S9 s0 n4 i5 c6 w R
theorem KE_S9_ok (R : W.Post) (E : W.Env) (w : World) (h : KE_S9 E w R) : W.WP Try.prog (W.cx 86) C16 (Q5 R) E w := by
  obtain ⟨s0, hq0, h1⟩ := W.asStr_elim h
  obtain ⟨n4, hq4, h2⟩ := W.asInt_elim h1
  obtain ⟨i5, hq5, h3⟩ := W.asInt_elim h2
  obtain ⟨c6, hq6, h4⟩ := W.asInt_elim h3
  exact fun a ha => W.WP.at (n := (W.cx 86)) (E := [(0, .string s0), (4, .int .i64 n4), (5, .int .i64 i5), (6, .int .u8 c6)]) (W.WP.seq (c := C16) (x := C20) (y := C17) (by kernel_rfl) <| W.WP.reg (c := C20) (fun E w => W.condK (W.Env.val E (.tmp 30)) (KE_S10 E w R) (KE_S11 E w R)) (by kernel_rfl) (Eq.mp (by kernel_rfl) h4) fun _ _ a hA hK => (W.WP.condK (c := C17) (x := C18) (y := C19) (o := .tmp 30) (by kernel_rfl) (fun hK => (KE_S10_ok R _ _ hK)) (fun hK => (KE_S11_ok R _ _ hK)) hK) a hA) (ha.cons hq0 (ha.cons hq4 (ha.cons hq5 (ha.cons hq6 ha.nil))))
noncomputable def C21 : Code := W.Code.fst C13
/-- lexer.go:234 -/
abbrev S6 (s0 : ByteArray) (n4 i5 c6 : Int) (w : World) (R : W.Post) : Prop :=
  Calls Try.prog n_lexer_bare #[.int .u8 c6] w fun r_ w1 => ∃ t27 : Bool, r_ = .returned (.bool t27) ∧ 
  W.sel t27 (S7 s0 n4 i5 w1 R) (S9 s0 n4 i5 c6 w1 R)
def KE_S6 (E : W.Env) (w : World) (R : W.Post) : Prop := W.asStr (W.Env.get? E 0) fun s0 => W.asInt .i64 (W.Env.get? E 4) fun n4 => W.asInt .i64 (W.Env.get? E 5) fun i5 => W.asInt .u8 (W.Env.get? E 6) fun c6 => S6 s0 n4 i5 c6 w R
theorem KE_S6_ok (R : W.Post) (E : W.Env) (w : World) (h : KE_S6 E w R) : W.WP Try.prog (W.cx 86) C13 (Q5 R) E w := by
  obtain ⟨s0, hq0, h1⟩ := W.asStr_elim h
  obtain ⟨n4, hq4, h2⟩ := W.asInt_elim h1
  obtain ⟨i5, hq5, h3⟩ := W.asInt_elim h2
  obtain ⟨c6, hq6, h4⟩ := W.asInt_elim h3
  exact fun a ha => W.WP.at (n := (W.cx 86)) (E := [(0, .string s0), (4, .int .i64 n4), (5, .int .i64 i5), (6, .int .u8 c6)]) (W.WP.seq (c := C13) (x := C21) (y := C14) (by kernel_rfl) <| W.WP.reg (c := C21) (fun E w => W.condK (W.Env.val E (.tmp 25)) (KE_S7 E w R) (KE_S9 E w R)) (by kernel_rfl) (Eq.mp (by kernel_rfl) h4) fun _ _ a hA hK => (W.WP.condK (c := C14) (x := C15) (y := C16) (o := .tmp 25) (by kernel_rfl) (fun hK => (KE_S7_ok R _ _ hK)) (fun hK => (KE_S9_ok R _ _ hK)) hK) a hA) (ha.cons hq0 (ha.cons hq4 (ha.cons hq5 (ha.cons hq6 ha.nil))))
noncomputable def C22 : Code := W.Code.fst C11
/-- lexer.go:233 -/
abbrev S5 (s0 : ByteArray) (n4 i5 : Int) (w : World) (R : W.Post) : Prop :=
  (0 : Int) ≤ i5 ∧ ∃ t22_b : UInt8, s0[Int.toNat i5]? = some t22_b ∧ S6 s0 n4 i5 ((t22_b.toNat : Nat) : Int) w R
def KE_S5 (E : W.Env) (w : World) (R : W.Post) : Prop := W.asStr (W.Env.get? E 0) fun s0 => W.asInt .i64 (W.Env.get? E 4) fun n4 => W.asInt .i64 (W.Env.get? E 5) fun i5 => S5 s0 n4 i5 w R
theorem KE_S5_ok (R : W.Post) (E : W.Env) (w : World) (h : KE_S5 E w R) : W.WP Try.prog (W.cx 86) C11 (Q4 R) E w := by
  obtain ⟨s0, hq0, h1⟩ := W.asStr_elim h
  obtain ⟨n4, hq4, h2⟩ := W.asInt_elim h1
  obtain ⟨i5, hq5, h3⟩ := W.asInt_elim h2
  exact fun a ha => W.WP.at (n := (W.cx 86)) (E := [(0, .string s0), (4, .int .i64 n4), (5, .int .i64 i5)]) (W.WP.seq (c := C11) (x := C22) (y := C12) (by kernel_rfl) <| W.WP.reg (c := C22) (fun E w => KE_S6 E w R) (by kernel_rfl) (Eq.mp (by kernel_rfl) h3) fun _ _ a hA hK => (W.WP.block (c := C12) (x := C13) (id := 2) (by kernel_rfl) (KE_S6_ok R _ _ hK)) a hA) (ha.cons hq0 (ha.cons hq4 (ha.cons hq5 ha.nil)))
noncomputable def C23 : Code := W.Code.fst C7
noncomputable def C24 : Code := W.Code.snd C23
noncomputable def C25 : Code := W.Code.fst C24
noncomputable def C26 : Code := W.Code.snd C7
abbrev Q6 (R : W.Post) : Exit → Act → World → Prop := (Exit.then (W.wpx Try.prog (W.cx 86) C26 (bodyPost Try.prog Try.f18 R)) (bodyPost Try.prog Try.f18 R))
noncomputable def C27 : Code := W.Code.fst C25
noncomputable def C28 : Code := W.Code.snd C25
/-- lexer.go:243 -/
abbrev S13  (w : World) (R : W.Post) : Prop :=
  R (.returned (.tuple #[.string (ByteArray.mk #[]), .int .i64 4])) w
def KE_S13 (E : W.Env) (w : World) (R : W.Post) : Prop := S13  w R
theorem KE_S13_ok (R : W.Post) (E : W.Env) (w : World) (h : KE_S13 E w R) : W.WP Try.prog (W.cx 86) C25 (Q6 R) E w := by
  exact fun a ha => W.WP.at (n := (W.cx 86)) (E := []) (W.WP.seq (c := C25) (x := C27) (y := C28) (by kernel_rfl) <| W.WP.reg (c := C27) (fun E w => W.retVC Try.prog Try.f18 E w (fun v => R (.returned v) w)) (by kernel_rfl) (Eq.mp (by kernel_rfl) h) fun _ _ a hA hK => (W.WP.ret (c := C28) (by kernel_rfl) fun a hA => W.retVC_sound hA hK) a hA) ha.nil
noncomputable def C29 : Code := W.Code.snd C26
noncomputable def C30 : Code := W.Code.snd C29
noncomputable def C31 : Code := W.Code.fst C30
noncomputable def C32 : Code := W.Code.snd C31
noncomputable def C33 : Code := W.Code.fst C32
noncomputable def C34 : Code := W.Code.fst C33
noncomputable def C35 : Code := W.Code.snd C30
abbrev Q7 (R : W.Post) : Exit → Act → World → Prop := (Exit.then (W.wpx Try.prog (W.cx 86) C35 (bodyPost Try.prog Try.f18 R)) (bodyPost Try.prog Try.f18 R))
abbrev Q8 (R : W.Post) : Exit → Act → World → Prop := (Exit.inBlock 3 (Q7 R))
/-- the head of the loop, lexer.go:247 -/
def L17 (s0 : ByteArray) (b7 : W.Sl) (i8 : Int) (w : World) (R : W.Post) : Prop := W.LP Try.prog (W.cx 86) C34 (Q8 R) [(0, .string s0), (7, b7.v), (8, .int .i64 i8)] w
def KE_L17 (E : W.Env) (w : World) (R : W.Post) : Prop := W.asStr (W.Env.get? E 0) fun s0 => W.asSlice (W.Env.get? E 7) fun b7 => W.asInt .i64 (W.Env.get? E 8) fun i8 => L17 s0 b7 i8 w R
theorem KE_L17_ok (R : W.Post) (E : W.Env) (w : World) (h : KE_L17 E w R) : W.LP Try.prog (W.cx 86) C34 (Q8 R) E w := by
  obtain ⟨s0, hq0, h1⟩ := W.asStr_elim h
  obtain ⟨b7, hq7, h2⟩ := W.asSlice_elim h1
  obtain ⟨i8, hq8, h3⟩ := W.asInt_elim h2
  intro a ha
  exact h3 a (ha.cons hq0 (ha.cons hq7 (ha.cons hq8 ha.nil)))
noncomputable def C36 : Code := W.Code.snd C34
noncomputable def C37 : Code := W.Code.snd C36
abbrev Q9 (R : W.Post) : Exit → Act → World → Prop := (Exit.then (W.LoopWP Try.prog (W.cx 86) C34 (Q8 R)) (Q8 R))
/-- lexer.go:247 -/
abbrev S22 (s0 : ByteArray) (b7 : W.Sl) (i8 : Int) (w : World) (R : W.Post) : Prop :=
  L17 s0 b7 (IntKind.wrap .i64 (i8 + 1)) w R
def KE_S22 (E : W.Env) (w : World) (R : W.Post) : Prop := W.asStr (W.Env.get? E 0) fun s0 => W.asSlice (W.Env.get? E 7) fun b7 => W.asInt .i64 (W.Env.get? E 8) fun i8 => S22 s0 b7 i8 w R
theorem KE_S22_ok (R : W.Post) (E : W.Env) (w : World) (h : KE_S22 E w R) : W.WP Try.prog (W.cx 86) C37 (Q9 R) E w := by
  obtain ⟨s0, hq0, h1⟩ := W.asStr_elim h
  obtain ⟨b7, hq7, h2⟩ := W.asSlice_elim h1
  obtain ⟨i8, hq8, h3⟩ := W.asInt_elim h2
  exact fun a ha => W.WP.at (n := (W.cx 86)) (E := [(0, .string s0), (7, b7.v), (8, .int .i64 i8)]) (W.WP.reg (c := C37) (fun E w => KE_L17 E w R) (by kernel_rfl) (Eq.mp (by kernel_rfl) h3) fun _ _ a hA hK => KE_L17_ok R _ _ hK a hA) (ha.cons hq0 (ha.cons hq7 (ha.cons hq8 ha.nil)))
noncomputable def C38 : Code := W.Code.fst C36
noncomputable def C39 : Code := W.Code.fst C38
noncomputable def C40 : Code := W.Code.snd C39
noncomputable def C41 : Code := W.Code.fst C40
noncomputable def C42 : Code := W.Code.snd C41
noncomputable def C43 : Code := W.Code.fst C42
abbrev Q10 (R : W.Post) : Exit → Act → World → Prop := (Exit.then (W.wpx Try.prog (W.cx 86) C37 (Exit.then (W.LoopWP Try.prog (W.cx 86) C34 (Q8 R)) (Q8 R))) (Exit.then (W.LoopWP Try.prog (W.cx 86) C34 (Q8 R)) (Q8 R)))
abbrev Q11 (R : W.Post) : Exit → Act → World → Prop := (Exit.inBlock 4 (Q10 R))
abbrev Q12 (R : W.Post) : Exit → Act → World → Prop := (Exit.inBlock 5 (Q11 R))
/-- lexer.go:250 -/
abbrev S21 (s0 : ByteArray) (b7 : W.Sl) (i8 c9 : Int) (w : World) (R : W.Post) : Prop :=
  W.nwV w (.cells #[.int .u8 c9] ty_uint8) fun w1 => 
  ∃ (t70 : W.Sl) (w2 : World), Sem.run Try.prog (Builtin.append_ #[ty_sl_uint8, ty_sl_uint8] ty_sl_uint8 #[b7.v, .slice (some (Addr.mk w.heap.size 0 none)) 1 1]) w1 = .ok (t70.v) w2 ∧ S22 s0 t70 i8 w2 R
def KE_S21 (E : W.Env) (w : World) (R : W.Post) : Prop := W.asStr (W.Env.get? E 0) fun s0 => W.asSlice (W.Env.get? E 7) fun b7 => W.asInt .i64 (W.Env.get? E 8) fun i8 => W.asInt .u8 (W.Env.get? E 9) fun c9 => S21 s0 b7 i8 c9 w R
theorem KE_S21_ok (R : W.Post) (E : W.Env) (w : World) (h : KE_S21 E w R) : W.WP Try.prog (W.cx 86) C43 (Q12 R) E w := by
  obtain ⟨s0, hq0, h1⟩ := W.asStr_elim h
  obtain ⟨b7, hq7, h2⟩ := W.asSlice_elim h1
  obtain ⟨i8, hq8, h3⟩ := W.asInt_elim h2
  obtain ⟨c9, hq9, h4⟩ := W.asInt_elim h3
  exact fun a ha => W.WP.at (n := (W.cx 86)) (E := [(0, .string s0), (7, b7.v), (8, .int .i64 i8), (9, .int .u8 c9)]) (W.WP.reg (c := C43) (fun E w => KE_S22 E w R) (by kernel_rfl) (Eq.mp (by kernel_rfl) h4) fun _ _ a hA hK => (KE_S22_ok R _ _ hK) a hA) (ha.cons hq0 (ha.cons hq7 (ha.cons hq8 (ha.cons hq9 ha.nil))))
noncomputable def C44 : Code := W.Code.snd C42
noncomputable def C45 : Code := W.Code.snd C44
noncomputable def C46 : Code := W.Code.fst C45
/-- lexer.go:252 -/
abbrev S24 (s0 : ByteArray) (b7 : W.Sl) (i8 c9 : Int) (w : World) (R : W.Post) : Prop :=
  W.nwV w (.cells #[.int .u8 92, .int .u8 c9] ty_uint8) fun w1 => 
  ∃ (t81 : W.Sl) (w2 : World), Sem.run Try.prog (Builtin.append_ #[ty_sl_uint8, ty_sl_uint8] ty_sl_uint8 #[b7.v, .slice (some (Addr.mk w.heap.size 0 none)) 2 2]) w1 = .ok (t81.v) w2 ∧ S22 s0 t81 i8 w2 R
def KE_S24 (E : W.Env) (w : World) (R : W.Post) : Prop := W.asStr (W.Env.get? E 0) fun s0 => W.asSlice (W.Env.get? E 7) fun b7 => W.asInt .i64 (W.Env.get? E 8) fun i8 => W.asInt .u8 (W.Env.get? E 9) fun c9 => S24 s0 b7 i8 c9 w R
theorem KE_S24_ok (R : W.Post) (E : W.Env) (w : World) (h : KE_S24 E w R) : W.WP Try.prog (W.cx 86) C46 (Q12 R) E w := by
  obtain ⟨s0, hq0, h1⟩ := W.asStr_elim h
  obtain ⟨b7, hq7, h2⟩ := W.asSlice_elim h1
  obtain ⟨i8, hq8, h3⟩ := W.asInt_elim h2
  obtain ⟨c9, hq9, h4⟩ := W.asInt_elim h3
  exact fun a ha => W.WP.at (n := (W.cx 86)) (E := [(0, .string s0), (7, b7.v), (8, .int .i64 i8), (9, .int .u8 c9)]) (W.WP.reg (c := C46) (fun E w => KE_S22 E w R) (by kernel_rfl) (Eq.mp (by kernel_rfl) h4) fun _ _ a hA hK => (KE_S22_ok R _ _ hK) a hA) (ha.cons hq0 (ha.cons hq7 (ha.cons hq8 (ha.cons hq9 ha.nil))))
noncomputable def C47 : Code := W.Code.snd C45
/-- lexer.go:254 -/
abbrev S25 (s0 : ByteArray) (b7 : W.Sl) (i8 c9 : Int) (w : World) (R : W.Post) : Prop :=
  W.drV w fun w1 => (0 : Int) ≤ (Int.fdiv c9 (2 ^ (4))) ∧ ∃ t58_b : UInt8, (ByteArray.mk #[48, 49, 50, 51, 52, 53, 54, 55, 56, 57, 97, 98, 99, 100, 101, 102])[Int.toNat (Int.fdiv c9 (2 ^ (4)))]? = some t58_b ∧ (0 : Int) ≤ (W.bAnd .u8 c9 15) ∧ ∃ t61_b : UInt8, (ByteArray.mk #[48, 49, 50, 51, 52, 53, 54, 55, 56, 57, 97, 98, 99, 100, 101, 102])[Int.toNat (W.bAnd .u8 c9 15)]? = some t61_b ∧ W.nwV w1 (.cells #[.int .u8 92, .int .u8 120, .int .u8 ((t58_b.toNat : Nat) : Int), .int .u8 ((t61_b.toNat : Nat) : Int)] ty_uint8) fun w2 => 
  ∃ (t63 : W.Sl) (w3 : World), Sem.run Try.prog (Builtin.append_ #[ty_sl_uint8, ty_sl_uint8] ty_sl_uint8 #[b7.v, .slice (some (Addr.mk w1.heap.size 0 none)) 4 4]) w2 = .ok (t63.v) w3 ∧ S22 s0 t63 i8 w3 R
def KE_S25 (E : W.Env) (w : World) (R : W.Post) : Prop := W.asStr (W.Env.get? E 0) fun s0 => W.asSlice (W.Env.get? E 7) fun b7 => W.asInt .i64 (W.Env.get? E 8) fun i8 => W.asInt .u8 (W.Env.get? E 9) fun c9 => S25 s0 b7 i8 c9 w R
theorem KE_S25_ok (R : W.Post) (E : W.Env) (w : World) (h : KE_S25 E w R) : W.WP Try.prog (W.cx 86) C47 (Q12 R) E w := by
  obtain ⟨s0, hq0, h1⟩ := W.asStr_elim h
  obtain ⟨b7, hq7, h2⟩ := W.asSlice_elim h1
  obtain ⟨i8, hq8, h3⟩ := W.asInt_elim h2
  obtain ⟨c9, hq9, h4⟩ := W.asInt_elim h3
  exact fun a ha => W.WP.at (n := (W.cx 86)) (E := [(0, .string s0), (7, b7.v), (8, .int .i64 i8), (9, .int .u8 c9)]) (W.WP.draw (c := C47) [0, 1, 2, 3, 4, 5, 6, 7, 8, 9] (fun E w => KE_S22 E w R) (by kernel_rfl) (Eq.mp (by kernel_rfl) h4) fun _ _ a hA hK => (KE_S22_ok R _ _ hK) a hA) (ha.cons hq0 (ha.cons hq7 (ha.cons hq8 (ha.cons hq9 ha.nil))))
noncomputable def C48 : Code := W.Code.fst C44
/-- lexer.go:251 -/
abbrev S23 (s0 : ByteArray) (b7 : W.Sl) (i8 c9 : Int) (w : World) (R : W.Post) : Prop :=
  W.sel (c9 == 34) (S24 s0 b7 i8 c9 w R) (W.sel (c9 == 92) (S24 s0 b7 i8 c9 w R) (S25 s0 b7 i8 c9 w R))
def KE_S23 (E : W.Env) (w : World) (R : W.Post) : Prop := W.asStr (W.Env.get? E 0) fun s0 => W.asSlice (W.Env.get? E 7) fun b7 => W.asInt .i64 (W.Env.get? E 8) fun i8 => W.asInt .u8 (W.Env.get? E 9) fun c9 => S23 s0 b7 i8 c9 w R
theorem KE_S23_ok (R : W.Post) (E : W.Env) (w : World) (h : KE_S23 E w R) : W.WP Try.prog (W.cx 86) C44 (Q12 R) E w := by
  obtain ⟨s0, hq0, h1⟩ := W.asStr_elim h
  obtain ⟨b7, hq7, h2⟩ := W.asSlice_elim h1
  obtain ⟨i8, hq8, h3⟩ := W.asInt_elim h2
  obtain ⟨c9, hq9, h4⟩ := W.asInt_elim h3
  exact fun a ha => W.WP.at (n := (W.cx 86)) (E := [(0, .string s0), (7, b7.v), (8, .int .i64 i8), (9, .int .u8 c9)]) (W.WP.seq (c := C44) (x := C48) (y := C45) (by kernel_rfl) <| W.WP.reg (c := C48) (fun E w => W.condK (W.Env.val E (.tmp 71)) (KE_S24 E w R) (KE_S25 E w R)) (by kernel_rfl) (Eq.mp (by kernel_rfl) h4) fun _ _ a hA hK => (W.WP.condK (c := C45) (x := C46) (y := C47) (o := .tmp 71) (by kernel_rfl) (fun hK => (KE_S24_ok R _ _ hK)) (fun hK => (KE_S25_ok R _ _ hK)) hK) a hA) (ha.cons hq0 (ha.cons hq7 (ha.cons hq8 (ha.cons hq9 ha.nil))))
noncomputable def C49 : Code := W.Code.fst C41
/-- lexer.go:249 -/
abbrev S20 (s0 : ByteArray) (b7 : W.Sl) (i8 c9 : Int) (w : World) (R : W.Post) : Prop :=
  Calls Try.prog n_lexer_bare #[.int .u8 c9] w fun r_ w1 => ∃ t66 : Bool, r_ = .returned (.bool t66) ∧ 
  W.sel t66 (S21 s0 b7 i8 c9 w1 R) (S23 s0 b7 i8 c9 w1 R)
def KE_S20 (E : W.Env) (w : World) (R : W.Post) : Prop := W.asStr (W.Env.get? E 0) fun s0 => W.asSlice (W.Env.get? E 7) fun b7 => W.asInt .i64 (W.Env.get? E 8) fun i8 => W.asInt .u8 (W.Env.get? E 9) fun c9 => S20 s0 b7 i8 c9 w R
theorem KE_S20_ok (R : W.Post) (E : W.Env) (w : World) (h : KE_S20 E w R) : W.WP Try.prog (W.cx 86) C41 (Q12 R) E w := by
  obtain ⟨s0, hq0, h1⟩ := W.asStr_elim h
  obtain ⟨b7, hq7, h2⟩ := W.asSlice_elim h1
  obtain ⟨i8, hq8, h3⟩ := W.asInt_elim h2
  obtain ⟨c9, hq9, h4⟩ := W.asInt_elim h3
  exact fun a ha => W.WP.at (n := (W.cx 86)) (E := [(0, .string s0), (7, b7.v), (8, .int .i64 i8), (9, .int .u8 c9)]) (W.WP.seq (c := C41) (x := C49) (y := C42) (by kernel_rfl) <| W.WP.reg (c := C49) (fun E w => W.condK (W.Env.val E (.tmp 64)) (KE_S21 E w R) (KE_S23 E w R)) (by kernel_rfl) (Eq.mp (by kernel_rfl) h4) fun _ _ a hA hK => (W.WP.condK (c := C42) (x := C43) (y := C44) (o := .tmp 64) (by kernel_rfl) (fun hK => (KE_S21_ok R _ _ hK)) (fun hK => (KE_S23_ok R _ _ hK)) hK) a hA) (ha.cons hq0 (ha.cons hq7 (ha.cons hq8 (ha.cons hq9 ha.nil))))
noncomputable def C50 : Code := W.Code.fst C39
/-- lexer.go:248 -/
abbrev S19 (s0 : ByteArray) (b7 : W.Sl) (i8 : Int) (w : World) (R : W.Post) : Prop :=
  (0 : Int) ≤ i8 ∧ ∃ t54_b : UInt8, s0[Int.toNat i8]? = some t54_b ∧ S20 s0 b7 i8 ((t54_b.toNat : Nat) : Int) w R
def KE_S19 (E : W.Env) (w : World) (R : W.Post) : Prop := W.asStr (W.Env.get? E 0) fun s0 => W.asSlice (W.Env.get? E 7) fun b7 => W.asInt .i64 (W.Env.get? E 8) fun i8 => S19 s0 b7 i8 w R
theorem KE_S19_ok (R : W.Post) (E : W.Env) (w : World) (h : KE_S19 E w R) : W.WP Try.prog (W.cx 86) C39 (Q11 R) E w := by
  obtain ⟨s0, hq0, h1⟩ := W.asStr_elim h
  obtain ⟨b7, hq7, h2⟩ := W.asSlice_elim h1
  obtain ⟨i8, hq8, h3⟩ := W.asInt_elim h2
  exact fun a ha => W.WP.at (n := (W.cx 86)) (E := [(0, .string s0), (7, b7.v), (8, .int .i64 i8)]) (W.WP.seq (c := C39) (x := C50) (y := C40) (by kernel_rfl) <| W.WP.reg (c := C50) (fun E w => KE_S20 E w R) (by kernel_rfl) (Eq.mp (by kernel_rfl) h3) fun _ _ a hA hK => (W.WP.block (c := C40) (x := C41) (id := 5) (by kernel_rfl) (KE_S20_ok R _ _ hK)) a hA) (ha.cons hq0 (ha.cons hq7 (ha.cons hq8 ha.nil)))
abbrev Q13 (R : W.Post) : Exit → Act → World → Prop := (bodyPost Try.prog Try.f18 R)
noncomputable def C51 : Code := W.Code.fst C35
noncomputable def C52 : Code := W.Code.snd C35
/-- lexer.go:257 -/
abbrev S26 (b7 : W.Sl) (w : World) (R : W.Post) : Prop :=
  W.nwV w (.cells #[.int .u8 34] ty_uint8) fun w1 => 
  ∃ (t84 : W.Sl) (w2 : World), Sem.run Try.prog (Builtin.append_ #[ty_sl_uint8, ty_sl_uint8] ty_sl_uint8 #[b7.v, .slice (some (Addr.mk w.heap.size 0 none)) 1 1]) w1 = .ok (t84.v) w2 ∧ ∃ t85 : ByteArray, Sem.run Try.prog (Go.convert ty_sl_uint8 ty_string (t84.v)) w2 = .ok (.string t85) w2 ∧ R (.returned (.tuple #[.string t85, .int .i64 0])) w2
def KE_S26 (E : W.Env) (w : World) (R : W.Post) : Prop := W.asSlice (W.Env.get? E 7) fun b7 => S26 b7 w R
theorem KE_S26_ok (R : W.Post) (E : W.Env) (w : World) (h : KE_S26 E w R) : W.WP Try.prog (W.cx 86) C35 (Q13 R) E w := by
  obtain ⟨b7, hq7, h1⟩ := W.asSlice_elim h
  exact fun a ha => W.WP.at (n := (W.cx 86)) (E := [(7, b7.v)]) (W.WP.seq (c := C35) (x := C51) (y := C52) (by kernel_rfl) <| W.WP.reg (c := C51) (fun E w => W.retVC Try.prog Try.f18 E w (fun v => R (.returned v) w)) (by kernel_rfl) (Eq.mp (by kernel_rfl) h1) fun _ _ a hA hK => (W.WP.ret (c := C52) (by kernel_rfl) fun a hA => W.retVC_sound hA hK) a hA) (ha.cons hq7 ha.nil)
noncomputable def C53 : Code := W.Code.fst C34
abbrev Q14 (R : W.Post) : Exit → Act → World → Prop := (Exit.then (W.wpx Try.prog (W.cx 86) C36 (Exit.then (W.LoopWP Try.prog (W.cx 86) C34 (Q8 R)) (Q8 R))) (Exit.then (W.LoopWP Try.prog (W.cx 86) C34 (Q8 R)) (Q8 R)))
noncomputable def C54 : Code := W.Code.fst C53
noncomputable def C55 : Code := W.Code.snd C53
noncomputable def C56 : Code := W.Code.fst C55
noncomputable def C57 : Code := W.Code.snd C55
/-- lexer.go:247 -/
abbrev S18 (s0 : ByteArray) (b7 : W.Sl) (i8 : Int) (w : World) (R : W.Post) : Prop :=
  W.sel (decide (i8 < ((s0.size : Nat) : Int))) (S19 s0 b7 i8 w R) (S26 b7 w R)
def KE_S18 (E : W.Env) (w : World) (R : W.Post) : Prop := W.asStr (W.Env.get? E 0) fun s0 => W.asSlice (W.Env.get? E 7) fun b7 => W.asInt .i64 (W.Env.get? E 8) fun i8 => S18 s0 b7 i8 w R
theorem KE_S18_ok (R : W.Post) (E : W.Env) (w : World) (h : KE_S18 E w R) : W.WP Try.prog (W.cx 86) C53 (Q14 R) E w := by
  obtain ⟨s0, hq0, h1⟩ := W.asStr_elim h
  obtain ⟨b7, hq7, h2⟩ := W.asSlice_elim h1
  obtain ⟨i8, hq8, h3⟩ := W.asInt_elim h2
  exact fun a ha => W.WP.at (n := (W.cx 86)) (E := [(0, .string s0), (7, b7.v), (8, .int .i64 i8)]) (W.WP.seq (c := C53) (x := C54) (y := C55) (by kernel_rfl) <| W.WP.reg (c := C54) (fun E w => W.condK (W.Env.val E (.tmp 49)) (KE_S19 E w R) (KE_S26 E w R)) (by kernel_rfl) (Eq.mp (by kernel_rfl) h3) fun _ _ a hA hK => (W.WP.condK (c := C55) (x := C56) (y := C57) (o := .tmp 49) (by kernel_rfl) (fun hK => (W.WP.skip (c := C56) (by kernel_rfl) fun a hA => (W.WP.seq (c := C36) (x := C38) (y := C37) (by kernel_rfl) (W.WP.block (c := C38) (x := C39) (id := 4) (by kernel_rfl) (KE_S19_ok R _ _ hK))) a hA)) (fun hK => (W.WP.exit (c := C57) (id := 3) (by kernel_rfl) fun a hA => (KE_S26_ok R _ _ hK) a hA)) hK) a hA) (ha.cons hq0 (ha.cons hq7 (ha.cons hq8 ha.nil)))
theorem L17_step (s0 : ByteArray) (b7 : W.Sl) (i8 : Int) (w : World) (R : W.Post) (h : S18 s0 b7 i8 w R) : L17 s0 b7 i8 w R :=
  W.LP.step (n := (W.cx 86)) (c := C34) (E := [(0, .string s0), (7, b7.v), (8, .int .i64 i8)]) (w := w) (W.WP.seq (c := C34) (x := C53) (y := C36) (by kernel_rfl) (KE_S18_ok R _ _ (Eq.mp (by kernel_rfl) h)))
noncomputable def C58 : Code := W.Code.fst C31
/-- lexer.go:247 -/
abbrev S16 (s0 : ByteArray) (b7 : W.Sl) (w : World) (R : W.Post) : Prop :=
  L17 s0 b7 0 w R
def KE_S16 (E : W.Env) (w : World) (R : W.Post) : Prop := W.asStr (W.Env.get? E 0) fun s0 => W.asSlice (W.Env.get? E 7) fun b7 => S16 s0 b7 w R
theorem KE_S16_ok (R : W.Post) (E : W.Env) (w : World) (h : KE_S16 E w R) : W.WP Try.prog (W.cx 86) C31 (Q7 R) E w := by
  obtain ⟨s0, hq0, h1⟩ := W.asStr_elim h
  obtain ⟨b7, hq7, h2⟩ := W.asSlice_elim h1
  exact fun a ha => W.WP.at (n := (W.cx 86)) (E := [(0, .string s0), (7, b7.v)]) (W.WP.seq (c := C31) (x := C58) (y := C32) (by kernel_rfl) <| W.WP.reg (c := C58) (fun E w => KE_L17 E w R) (by kernel_rfl) (Eq.mp (by kernel_rfl) h2) fun _ _ a hA hK => (W.WP.block (c := C32) (x := C33) (id := 3) (by kernel_rfl) (W.WP.loop (c := C33) (x := C34) (by kernel_rfl) (KE_L17_ok R _ _ hK))) a hA) (ha.cons hq0 (ha.cons hq7 ha.nil))
noncomputable def C59 : Code := W.Code.fst C29
/-- lexer.go:246 -/
abbrev S15 (s0 : ByteArray) (b7 : W.Sl) (w : World) (R : W.Post) : Prop :=
  W.nwV w (.cells #[.int .u8 34] ty_uint8) fun w1 => 
  ∃ (t45 : W.Sl) (w2 : World), Sem.run Try.prog (Builtin.append_ #[ty_sl_uint8, ty_sl_uint8] ty_sl_uint8 #[b7.v, .slice (some (Addr.mk w.heap.size 0 none)) 1 1]) w1 = .ok (t45.v) w2 ∧ S16 s0 t45 w2 R
def KE_S15 (E : W.Env) (w : World) (R : W.Post) : Prop := W.asStr (W.Env.get? E 0) fun s0 => W.asSlice (W.Env.get? E 7) fun b7 => S15 s0 b7 w R
theorem KE_S15_ok (R : W.Post) (E : W.Env) (w : World) (h : KE_S15 E w R) : W.WP Try.prog (W.cx 86) C29 (Q13 R) E w := by
  obtain ⟨s0, hq0, h1⟩ := W.asStr_elim h
  obtain ⟨b7, hq7, h2⟩ := W.asSlice_elim h1
  exact fun a ha => W.WP.at (n := (W.cx 86)) (E := [(0, .string s0), (7, b7.v)]) (W.WP.seq (c := C29) (x := C59) (y := C30) (by kernel_rfl) <| W.WP.reg (c := C59) (fun E w => KE_S16 E w R) (by kernel_rfl) (Eq.mp (by kernel_rfl) h2) fun _ _ a hA hK => (W.WP.seq (c := C30) (x := C31) (y := C35) (by kernel_rfl) (KE_S16_ok R _ _ hK)) a hA) (ha.cons hq0 (ha.cons hq7 ha.nil))
noncomputable def C60 : Code := W.Code.fst C26
/-- lexer.go:245 -/
abbrev S14 (s0 : ByteArray) (n4 : Int) (w : World) (R : W.Post) : Prop :=
  ∃ (t42 : W.Sl) (w1 : World), Sem.run Try.prog (Instr.makeSlice ty_sl_uint8 (.int .i64 0) (.int .i64 n4)) w = .ok (t42.v) w1 ∧ S15 s0 t42 w1 R
def KE_S14 (E : W.Env) (w : World) (R : W.Post) : Prop := W.asStr (W.Env.get? E 0) fun s0 => W.asInt .i64 (W.Env.get? E 4) fun n4 => S14 s0 n4 w R
theorem KE_S14_ok (R : W.Post) (E : W.Env) (w : World) (h : KE_S14 E w R) : W.WP Try.prog (W.cx 86) C26 (Q13 R) E w := by
  obtain ⟨s0, hq0, h1⟩ := W.asStr_elim h
  obtain ⟨n4, hq4, h2⟩ := W.asInt_elim h1
  exact fun a ha => W.WP.at (n := (W.cx 86)) (E := [(0, .string s0), (4, .int .i64 n4)]) (W.WP.seq (c := C26) (x := C60) (y := C29) (by kernel_rfl) <| W.WP.reg (c := C60) (fun E w => KE_S15 E w R) (by kernel_rfl) (Eq.mp (by kernel_rfl) h2) fun _ _ a hA hK => (KE_S15_ok R _ _ hK) a hA) (ha.cons hq0 (ha.cons hq4 ha.nil))
noncomputable def C61 : Code := W.Code.fst C23
noncomputable def C62 : Code := W.Code.snd C24
/-- lexer.go:242 -/
abbrev S12 (s0 : ByteArray) (n4 : Int) (w : World) (R : W.Post) : Prop :=
  W.sel (decide (n4 > 65536)) (S13  w R) (S14 s0 n4 w R)
def KE_S12 (E : W.Env) (w : World) (R : W.Post) : Prop := W.asStr (W.Env.get? E 0) fun s0 => W.asInt .i64 (W.Env.get? E 4) fun n4 => S12 s0 n4 w R
theorem KE_S12_ok (R : W.Post) (E : W.Env) (w : World) (h : KE_S12 E w R) : W.WP Try.prog (W.cx 86) C23 (Q6 R) E w := by
  obtain ⟨s0, hq0, h1⟩ := W.asStr_elim h
  obtain ⟨n4, hq4, h2⟩ := W.asInt_elim h1
  exact fun a ha => W.WP.at (n := (W.cx 86)) (E := [(0, .string s0), (4, .int .i64 n4)]) (W.WP.seq (c := C23) (x := C61) (y := C24) (by kernel_rfl) <| W.WP.reg (c := C61) (fun E w => W.condK (W.Env.val E (.tmp 40)) (KE_S13 E w R) (KE_S14 E w R)) (by kernel_rfl) (Eq.mp (by kernel_rfl) h2) fun _ _ a hA hK => (W.WP.condK (c := C24) (x := C25) (y := C62) (o := .tmp 40) (by kernel_rfl) (fun hK => (KE_S13_ok R _ _ hK)) (fun hK => (W.WP.skip (c := C62) (by kernel_rfl) fun a hA => (KE_S14_ok R _ _ hK) a hA)) hK) a hA) (ha.cons hq0 (ha.cons hq4 ha.nil))
noncomputable def C63 : Code := W.Code.fst C6
abbrev Q15 (R : W.Post) : Exit → Act → World → Prop := (Exit.then (W.wpx Try.prog (W.cx 86) C8 (Exit.then (W.LoopWP Try.prog (W.cx 86) C6 (Q1 R)) (Q1 R))) (Exit.then (W.LoopWP Try.prog (W.cx 86) C6 (Q1 R)) (Q1 R)))
noncomputable def C64 : Code := W.Code.fst C63
noncomputable def C65 : Code := W.Code.snd C63
noncomputable def C66 : Code := W.Code.fst C65
noncomputable def C67 : Code := W.Code.snd C65
/-- lexer.go:232 -/
abbrev S4 (s0 : ByteArray) (n4 i5 : Int) (w : World) (R : W.Post) : Prop :=
  W.sel (decide (i5 < ((s0.size : Nat) : Int))) (W.sel (decide (n4 ≤ 65536)) (S5 s0 n4 i5 w R) (S12 s0 n4 w R)) (S12 s0 n4 w R)
def KE_S4 (E : W.Env) (w : World) (R : W.Post) : Prop := W.asStr (W.Env.get? E 0) fun s0 => W.asInt .i64 (W.Env.get? E 4) fun n4 => W.asInt .i64 (W.Env.get? E 5) fun i5 => S4 s0 n4 i5 w R
theorem KE_S4_ok (R : W.Post) (E : W.Env) (w : World) (h : KE_S4 E w R) : W.WP Try.prog (W.cx 86) C63 (Q15 R) E w := by
  obtain ⟨s0, hq0, h1⟩ := W.asStr_elim h
  obtain ⟨n4, hq4, h2⟩ := W.asInt_elim h1
  obtain ⟨i5, hq5, h3⟩ := W.asInt_elim h2
  exact fun a ha => W.WP.at (n := (W.cx 86)) (E := [(0, .string s0), (4, .int .i64 n4), (5, .int .i64 i5)]) (W.WP.seq (c := C63) (x := C64) (y := C65) (by kernel_rfl) <| W.WP.reg (c := C64) (fun E w => W.condK (W.Env.val E (.tmp 17)) (KE_S5 E w R) (KE_S12 E w R)) (by kernel_rfl) (Eq.mp (by kernel_rfl) h3) fun _ _ a hA hK => (W.WP.condK (c := C65) (x := C66) (y := C67) (o := .tmp 17) (by kernel_rfl) (fun hK => (W.WP.skip (c := C66) (by kernel_rfl) fun a hA => (W.WP.seq (c := C8) (x := C10) (y := C9) (by kernel_rfl) (W.WP.block (c := C10) (x := C11) (id := 1) (by kernel_rfl) (KE_S5_ok R _ _ hK))) a hA)) (fun hK => (W.WP.exit (c := C67) (id := 0) (by kernel_rfl) fun a hA => (W.WP.seq (c := C7) (x := C23) (y := C26) (by kernel_rfl) (KE_S12_ok R _ _ hK)) a hA)) hK) a hA) (ha.cons hq0 (ha.cons hq4 (ha.cons hq5 ha.nil)))
theorem L3_step (s0 : ByteArray) (n4 i5 : Int) (w : World) (R : W.Post) (h : S4 s0 n4 i5 w R) : L3 s0 n4 i5 w R :=
  W.LP.step (n := (W.cx 86)) (c := C6) (E := [(0, .string s0), (4, .int .i64 n4), (5, .int .i64 i5)]) (w := w) (W.WP.seq (c := C6) (x := C63) (y := C8) (by kernel_rfl) (KE_S4_ok R _ _ (Eq.mp (by kernel_rfl) h)))
noncomputable def C68 : Code := W.Code.fst C3
/-- lexer.go:232 -/
abbrev S2 (s0 : ByteArray) (n4 : Int) (w : World) (R : W.Post) : Prop :=
  L3 s0 n4 0 w R
def KE_S2 (E : W.Env) (w : World) (R : W.Post) : Prop := W.asStr (W.Env.get? E 0) fun s0 => W.asInt .i64 (W.Env.get? E 4) fun n4 => S2 s0 n4 w R
theorem KE_S2_ok (R : W.Post) (E : W.Env) (w : World) (h : KE_S2 E w R) : W.WP Try.prog (W.cx 86) C3 (Q0 R) E w := by
  obtain ⟨s0, hq0, h1⟩ := W.asStr_elim h
  obtain ⟨n4, hq4, h2⟩ := W.asInt_elim h1
  exact fun a ha => W.WP.at (n := (W.cx 86)) (E := [(0, .string s0), (4, .int .i64 n4)]) (W.WP.seq (c := C3) (x := C68) (y := C4) (by kernel_rfl) <| W.WP.reg (c := C68) (fun E w => KE_L3 E w R) (by kernel_rfl) (Eq.mp (by kernel_rfl) h2) fun _ _ a hA hK => (W.WP.block (c := C4) (x := C5) (id := 0) (by kernel_rfl) (W.WP.loop (c := C5) (x := C6) (by kernel_rfl) (KE_L3_ok R _ _ hK))) a hA) (ha.cons hq0 (ha.cons hq4 ha.nil))
noncomputable def C69 : Code := W.Code.fst C1
/-- lexer.go:231 -/
abbrev S1 (s0 : ByteArray) (w : World) (R : W.Post) : Prop :=
  S2 s0 2 w R
def KE_S1 (E : W.Env) (w : World) (R : W.Post) : Prop := W.asStr (W.Env.get? E 0) fun s0 => S1 s0 w R
theorem KE_S1_ok (R : W.Post) (E : W.Env) (w : World) (h : KE_S1 E w R) : W.WP Try.prog (W.cx 86) C1 (Q13 R) E w := by
  obtain ⟨s0, hq0, h1⟩ := W.asStr_elim h
  exact fun a ha => W.WP.at (n := (W.cx 86)) (E := [(0, .string s0)]) (W.WP.seq (c := C1) (x := C69) (y := C2) (by kernel_rfl) <| W.WP.reg (c := C69) (fun E w => KE_S2 E w R) (by kernel_rfl) (Eq.mp (by kernel_rfl) h1) fun _ _ a hA hK => (W.WP.seq (c := C2) (x := C3) (y := C7) (by kernel_rfl) (KE_S2_ok R _ _ hK)) a hA) (ha.cons hq0 ha.nil)
noncomputable def C70 : Code := W.Code.fst C0
/-- lexer.go:230 -/
abbrev S0 (s0 : ByteArray) (w : World) (R : W.Post) : Prop :=
  S1 s0 w R
def KE_S0 (E : W.Env) (w : World) (R : W.Post) : Prop := W.asStr (W.Env.get? E 0) fun s0 => S0 s0 w R
theorem KE_S0_ok (R : W.Post) (E : W.Env) (w : World) (h : KE_S0 E w R) : W.WP Try.prog (W.cx 86) C0 (Q13 R) E w := by
  obtain ⟨s0, hq0, h1⟩ := W.asStr_elim h
  exact fun a ha => W.WP.at (n := (W.cx 86)) (E := [(0, .string s0)]) (W.WP.seq (c := C0) (x := C70) (y := C1) (by kernel_rfl) <| W.WP.reg (c := C70) (fun E w => KE_S1 E w R) (by kernel_rfl) (Eq.mp (by kernel_rfl) h1) fun _ _ a hA hK => (KE_S1_ok R _ _ hK) a hA) (ha.cons hq0 ha.nil)
/-- enthymeme/lexer.Quote -/
theorem ok (s0 : ByteArray) (w : World) (R : W.Post) (h : S0 s0 w R) : Calls Try.prog n_lexer_Quote #[.string s0] w R :=
  W.calls_of_WP' (fn := Try.f18) (c := C0) (args := [.string s0]) (by kernel_rfl) (by kernel_rfl) (by kernel_rfl) (KE_S0_ok R _ _ (Eq.mp (by kernel_rfl) h))
end lexer_Quote
end Go.Proofs.Ytemagdpieebjlaa

/- Printed by a program of ours (vcgen.py) from the dump: the conditions of the functions, and that they suffice. -/
import Derived.Test.YtemagdpieebjlaaVR
set_option linter.unusedVariables false
set_option maxRecDepth 100000
namespace Go.Proofs.Ytemagdpieebjlaa
open Go
namespace enthymemelaw09_LexerWrites
noncomputable def C0 : Code := (Try.f7.body).getD .skip
noncomputable def C1 : Code := W.Code.snd C0
noncomputable def C2 : Code := W.Code.snd C1
noncomputable def C3 : Code := W.Code.snd C2
noncomputable def C4 : Code := W.Code.fst C3
noncomputable def C5 : Code := W.Code.snd C4
noncomputable def C6 : Code := W.Code.fst C5
noncomputable def C7 : Code := W.Code.snd C3
abbrev Q0 (R : W.Post) : Exit → Act → World → Prop := (Exit.then (W.wpx Try.prog (W.cx 156) C7 (bodyPost Try.prog Try.f7 R)) (bodyPost Try.prog Try.f7 R))
noncomputable def C8 : Code := W.Code.fst C6
noncomputable def C9 : Code := W.Code.snd C6
/-- law.go:150 -/
abbrev S4  (w : World) (R : W.Post) : Prop :=
  R (.returned (.bool false)) w
def KE_S4 (E : W.Env) (w : World) (R : W.Post) : Prop := S4  w R
theorem KE_S4_ok (R : W.Post) (E : W.Env) (w : World) (h : KE_S4 E w R) : W.WP Try.prog (W.cx 156) C6 (Q0 R) E w := by
  exact fun a ha => W.WP.at (n := (W.cx 156)) (E := []) (W.WP.seq (c := C6) (x := C8) (y := C9) (by kernel_rfl) <| W.WP.reg (c := C8) (fun E w => W.retVC Try.prog Try.f7 E w (fun v => R (.returned v) w)) (by kernel_rfl) (Eq.mp (by kernel_rfl) h) fun _ _ a hA hK => (W.WP.ret (c := C9) (by kernel_rfl) fun a hA => W.retVC_sound hA hK) a hA) ha.nil
noncomputable def C10 : Code := W.Code.snd C7
noncomputable def C11 : Code := W.Code.fst C10
noncomputable def C12 : Code := W.Code.snd C11
noncomputable def C13 : Code := W.Code.fst C12
noncomputable def C14 : Code := W.Code.fst C13
noncomputable def C15 : Code := W.Code.snd C10
abbrev Q1 (R : W.Post) : Exit → Act → World → Prop := (Exit.then (W.wpx Try.prog (W.cx 156) C15 (bodyPost Try.prog Try.f7 R)) (bodyPost Try.prog Try.f7 R))
abbrev Q2 (R : W.Post) : Exit → Act → World → Prop := (Exit.inBlock 0 (Q1 R))
/-- the head of the loop, law.go:153 -/
def L7 (text3 : ByteArray) (a4 : W.Sl) (out7 : ByteArray) (i8 : Int) (w : World) (R : W.Post) : Prop := W.LP Try.prog (W.cx 156) C14 (Q2 R) [(3, .string text3), (4, a4.v), (7, .string out7), (8, .int .i64 i8)] w
def KE_L7 (E : W.Env) (w : World) (R : W.Post) : Prop := W.asStr (W.Env.get? E 3) fun text3 => W.asSlice (W.Env.get? E 4) fun a4 => W.asStr (W.Env.get? E 7) fun out7 => W.asInt .i64 (W.Env.get? E 8) fun i8 => L7 text3 a4 out7 i8 w R
theorem KE_L7_ok (R : W.Post) (E : W.Env) (w : World) (h : KE_L7 E w R) : W.LP Try.prog (W.cx 156) C14 (Q2 R) E w := by
  obtain ⟨text3, hq3, h1⟩ := W.asStr_elim h
  obtain ⟨a4, hq4, h2⟩ := W.asSlice_elim h1
  obtain ⟨out7, hq7, h3⟩ := W.asStr_elim h2
  obtain ⟨i8, hq8, h4⟩ := W.asInt_elim h3
  intro a ha
  exact h4 a (ha.cons hq3 (ha.cons hq4 (ha.cons hq7 (ha.cons hq8 ha.nil))))
noncomputable def C16 : Code := W.Code.snd C14
noncomputable def C17 : Code := W.Code.snd C16
abbrev Q3 (R : W.Post) : Exit → Act → World → Prop := (Exit.then (W.LoopWP Try.prog (W.cx 156) C14 (Q2 R)) (Q2 R))
/-- law.go:153 -/
abbrev S14 (text3 : ByteArray) (a4 : W.Sl) (out7 : ByteArray) (i8 : Int) (w : World) (R : W.Post) : Prop :=
  L7 text3 a4 out7 (IntKind.wrap .i64 (i8 + 1)) w R
def KE_S14 (E : W.Env) (w : World) (R : W.Post) : Prop := W.asStr (W.Env.get? E 3) fun text3 => W.asSlice (W.Env.get? E 4) fun a4 => W.asStr (W.Env.get? E 7) fun out7 => W.asInt .i64 (W.Env.get? E 8) fun i8 => S14 text3 a4 out7 i8 w R
theorem KE_S14_ok (R : W.Post) (E : W.Env) (w : World) (h : KE_S14 E w R) : W.WP Try.prog (W.cx 156) C17 (Q3 R) E w := by
  obtain ⟨text3, hq3, h1⟩ := W.asStr_elim h
  obtain ⟨a4, hq4, h2⟩ := W.asSlice_elim h1
  obtain ⟨out7, hq7, h3⟩ := W.asStr_elim h2
  obtain ⟨i8, hq8, h4⟩ := W.asInt_elim h3
  exact fun a ha => W.WP.at (n := (W.cx 156)) (E := [(3, .string text3), (4, a4.v), (7, .string out7), (8, .int .i64 i8)]) (W.WP.reg (c := C17) (fun E w => KE_L7 E w R) (by kernel_rfl) (Eq.mp (by kernel_rfl) h4) fun _ _ a hA hK => KE_L7_ok R _ _ hK a hA) (ha.cons hq3 (ha.cons hq4 (ha.cons hq7 (ha.cons hq8 ha.nil))))
noncomputable def C18 : Code := W.Code.fst C16
noncomputable def C19 : Code := W.Code.fst C18
noncomputable def C20 : Code := W.Code.snd C19
noncomputable def C21 : Code := W.Code.snd C20
abbrev Q4 (R : W.Post) : Exit → Act → World → Prop := (Exit.then (W.wpx Try.prog (W.cx 156) C17 (Exit.then (W.LoopWP Try.prog (W.cx 156) C14 (Q2 R)) (Q2 R))) (Exit.then (W.LoopWP Try.prog (W.cx 156) C14 (Q2 R)) (Q2 R)))
abbrev Q5 (R : W.Post) : Exit → Act → World → Prop := (Exit.inBlock 1 (Q4 R))
/-- law.go:172 -/
abbrev S13 (text3 : ByteArray) (a4 : W.Sl) (out7 : ByteArray) (i8 : Int) (w : World) (R : W.Post) : Prop :=
  ¬ (((out7.size + (ByteArray.mk #[32]).size : Nat) : Int) > IntKind.i64.max) ∧ S14 text3 a4 (out7 ++ (ByteArray.mk #[32])) i8 w R
def KE_S13 (E : W.Env) (w : World) (R : W.Post) : Prop := W.asStr (W.Env.get? E 3) fun text3 => W.asSlice (W.Env.get? E 4) fun a4 => W.asStr (W.Env.get? E 7) fun out7 => W.asInt .i64 (W.Env.get? E 8) fun i8 => S13 text3 a4 out7 i8 w R
theorem KE_S13_ok (R : W.Post) (E : W.Env) (w : World) (h : KE_S13 E w R) : W.WP Try.prog (W.cx 156) C21 (Q5 R) E w := by
  obtain ⟨text3, hq3, h1⟩ := W.asStr_elim h
  obtain ⟨a4, hq4, h2⟩ := W.asSlice_elim h1
  obtain ⟨out7, hq7, h3⟩ := W.asStr_elim h2
  obtain ⟨i8, hq8, h4⟩ := W.asInt_elim h3
  exact fun a ha => W.WP.at (n := (W.cx 156)) (E := [(3, .string text3), (4, a4.v), (7, .string out7), (8, .int .i64 i8)]) (W.WP.reg (c := C21) (fun E w => KE_S14 E w R) (by kernel_rfl) (Eq.mp (by kernel_rfl) h4) fun _ _ a hA hK => (KE_S14_ok R _ _ hK) a hA) (ha.cons hq3 (ha.cons hq4 (ha.cons hq7 (ha.cons hq8 ha.nil))))
noncomputable def C22 : Code := W.Code.fst C20
noncomputable def C23 : Code := W.Code.snd C22
noncomputable def C24 : Code := W.Code.fst C23
noncomputable def C25 : Code := W.Code.snd C24
noncomputable def C26 : Code := W.Code.fst C25
abbrev Q6 (R : W.Post) : Exit → Act → World → Prop := (Exit.then (W.wpx Try.prog (W.cx 156) C21 (Exit.inBlock 1 (Q4 R))) (Exit.inBlock 1 (Q4 R)))
abbrev Q7 (R : W.Post) : Exit → Act → World → Prop := (Exit.inBlock 2 (Q6 R))
/-- law.go:157 -/
abbrev S12 (text3 : ByteArray) (a4 : W.Sl) (out7 : ByteArray) (i8 : Int) (w : World) (R : W.Post) : Prop :=
  ¬ (((out7.size + (ByteArray.mk #[40]).size : Nat) : Int) > IntKind.i64.max) ∧ S13 text3 a4 (out7 ++ (ByteArray.mk #[40])) i8 w R
def KE_S12 (E : W.Env) (w : World) (R : W.Post) : Prop := W.asStr (W.Env.get? E 3) fun text3 => W.asSlice (W.Env.get? E 4) fun a4 => W.asStr (W.Env.get? E 7) fun out7 => W.asInt .i64 (W.Env.get? E 8) fun i8 => S12 text3 a4 out7 i8 w R
theorem KE_S12_ok (R : W.Post) (E : W.Env) (w : World) (h : KE_S12 E w R) : W.WP Try.prog (W.cx 156) C26 (Q7 R) E w := by
  obtain ⟨text3, hq3, h1⟩ := W.asStr_elim h
  obtain ⟨a4, hq4, h2⟩ := W.asSlice_elim h1
  obtain ⟨out7, hq7, h3⟩ := W.asStr_elim h2
  obtain ⟨i8, hq8, h4⟩ := W.asInt_elim h3
  exact fun a ha => W.WP.at (n := (W.cx 156)) (E := [(3, .string text3), (4, a4.v), (7, .string out7), (8, .int .i64 i8)]) (W.WP.reg (c := C26) (fun E w => KE_S13 E w R) (by kernel_rfl) (Eq.mp (by kernel_rfl) h4) fun _ _ a hA hK => (KE_S13_ok R _ _ hK) a hA) (ha.cons hq3 (ha.cons hq4 (ha.cons hq7 (ha.cons hq8 ha.nil))))
noncomputable def C27 : Code := W.Code.snd C25
noncomputable def C28 : Code := W.Code.snd C27
noncomputable def C29 : Code := W.Code.fst C28
/-- law.go:159 -/
abbrev S16 (text3 : ByteArray) (a4 : W.Sl) (out7 : ByteArray) (i8 : Int) (w : World) (R : W.Post) : Prop :=
  ¬ (((out7.size + (ByteArray.mk #[41]).size : Nat) : Int) > IntKind.i64.max) ∧ S13 text3 a4 (out7 ++ (ByteArray.mk #[41])) i8 w R
def KE_S16 (E : W.Env) (w : World) (R : W.Post) : Prop := W.asStr (W.Env.get? E 3) fun text3 => W.asSlice (W.Env.get? E 4) fun a4 => W.asStr (W.Env.get? E 7) fun out7 => W.asInt .i64 (W.Env.get? E 8) fun i8 => S16 text3 a4 out7 i8 w R
theorem KE_S16_ok (R : W.Post) (E : W.Env) (w : World) (h : KE_S16 E w R) : W.WP Try.prog (W.cx 156) C29 (Q7 R) E w := by
  obtain ⟨text3, hq3, h1⟩ := W.asStr_elim h
  obtain ⟨a4, hq4, h2⟩ := W.asSlice_elim h1
  obtain ⟨out7, hq7, h3⟩ := W.asStr_elim h2
  obtain ⟨i8, hq8, h4⟩ := W.asInt_elim h3
  exact fun a ha => W.WP.at (n := (W.cx 156)) (E := [(3, .string text3), (4, a4.v), (7, .string out7), (8, .int .i64 i8)]) (W.WP.reg (c := C29) (fun E w => KE_S13 E w R) (by kernel_rfl) (Eq.mp (by kernel_rfl) h4) fun _ _ a hA hK => (KE_S13_ok R _ _ hK) a hA) (ha.cons hq3 (ha.cons hq4 (ha.cons hq7 (ha.cons hq8 ha.nil))))
noncomputable def C30 : Code := W.Code.snd C28
noncomputable def C31 : Code := W.Code.snd C30
noncomputable def C32 : Code := W.Code.fst C31
noncomputable def C33 : Code := W.Code.snd C32
noncomputable def C34 : Code := W.Code.fst C33
noncomputable def C35 : Code := W.Code.snd C34
noncomputable def C36 : Code := W.Code.fst C35
noncomputable def C37 : Code := W.Code.snd C33
abbrev Q8 (R : W.Post) : Exit → Act → World → Prop := (Exit.then (W.wpx Try.prog (W.cx 156) C37 (Exit.inBlock 2 (Q6 R))) (Exit.inBlock 2 (Q6 R)))
noncomputable def C38 : Code := W.Code.fst C36
noncomputable def C39 : Code := W.Code.snd C36
/-- law.go:163 -/
abbrev S20  (w : World) (R : W.Post) : Prop :=
  R (.returned (.bool false)) w
def KE_S20 (E : W.Env) (w : World) (R : W.Post) : Prop := S20  w R
theorem KE_S20_ok (R : W.Post) (E : W.Env) (w : World) (h : KE_S20 E w R) : W.WP Try.prog (W.cx 156) C36 (Q8 R) E w := by
  exact fun a ha => W.WP.at (n := (W.cx 156)) (E := []) (W.WP.seq (c := C36) (x := C38) (y := C39) (by kernel_rfl) <| W.WP.reg (c := C38) (fun E w => W.retVC Try.prog Try.f7 E w (fun v => R (.returned v) w)) (by kernel_rfl) (Eq.mp (by kernel_rfl) h) fun _ _ a hA hK => (W.WP.ret (c := C39) (by kernel_rfl) fun a hA => W.retVC_sound hA hK) a hA) ha.nil
/-- law.go:165 -/
abbrev S21 (text3 : ByteArray) (a4 : W.Sl) (out7 : ByteArray) (i8 : Int) (q10 : ByteArray) (w : World) (R : W.Post) : Prop :=
  ¬ (((out7.size + q10.size : Nat) : Int) > IntKind.i64.max) ∧ S13 text3 a4 (out7 ++ q10) i8 w R
def KE_S21 (E : W.Env) (w : World) (R : W.Post) : Prop := W.asStr (W.Env.get? E 3) fun text3 => W.asSlice (W.Env.get? E 4) fun a4 => W.asStr (W.Env.get? E 7) fun out7 => W.asInt .i64 (W.Env.get? E 8) fun i8 => W.asStr (W.Env.get? E 10) fun q10 => S21 text3 a4 out7 i8 q10 w R
theorem KE_S21_ok (R : W.Post) (E : W.Env) (w : World) (h : KE_S21 E w R) : W.WP Try.prog (W.cx 156) C37 (Q7 R) E w := by
  obtain ⟨text3, hq3, h1⟩ := W.asStr_elim h
  obtain ⟨a4, hq4, h2⟩ := W.asSlice_elim h1
  obtain ⟨out7, hq7, h3⟩ := W.asStr_elim h2
  obtain ⟨i8, hq8, h4⟩ := W.asInt_elim h3
  obtain ⟨q10, hq10, h5⟩ := W.asStr_elim h4
  exact fun a ha => W.WP.at (n := (W.cx 156)) (E := [(3, .string text3), (4, a4.v), (7, .string out7), (8, .int .i64 i8), (10, .string q10)]) (W.WP.reg (c := C37) (fun E w => KE_S13 E w R) (by kernel_rfl) (Eq.mp (by kernel_rfl) h5) fun _ _ a hA hK => (KE_S13_ok R _ _ hK) a hA) (ha.cons hq3 (ha.cons hq4 (ha.cons hq7 (ha.cons hq8 (ha.cons hq10 ha.nil)))))
noncomputable def C40 : Code := W.Code.fst C34
noncomputable def C41 : Code := W.Code.snd C35
/-- law.go:162 -/
abbrev S19 (text3 : ByteArray) (a4 : W.Sl) (out7 : ByteArray) (i8 : Int) (q10 : ByteArray) (f11 : Int) (w : World) (R : W.Post) : Prop :=
  W.sel (f11 != 0) (S20  w R) (S21 text3 a4 out7 i8 q10 w R)
def KE_S19 (E : W.Env) (w : World) (R : W.Post) : Prop := W.asStr (W.Env.get? E 3) fun text3 => W.asSlice (W.Env.get? E 4) fun a4 => W.asStr (W.Env.get? E 7) fun out7 => W.asInt .i64 (W.Env.get? E 8) fun i8 => W.asStr (W.Env.get? E 10) fun q10 => W.asInt .i64 (W.Env.get? E 11) fun f11 => S19 text3 a4 out7 i8 q10 f11 w R
theorem KE_S19_ok (R : W.Post) (E : W.Env) (w : World) (h : KE_S19 E w R) : W.WP Try.prog (W.cx 156) C34 (Q8 R) E w := by
  obtain ⟨text3, hq3, h1⟩ := W.asStr_elim h
  obtain ⟨a4, hq4, h2⟩ := W.asSlice_elim h1
  obtain ⟨out7, hq7, h3⟩ := W.asStr_elim h2
  obtain ⟨i8, hq8, h4⟩ := W.asInt_elim h3
  obtain ⟨q10, hq10, h5⟩ := W.asStr_elim h4
  obtain ⟨f11, hq11, h6⟩ := W.asInt_elim h5
  exact fun a ha => W.WP.at (n := (W.cx 156)) (E := [(3, .string text3), (4, a4.v), (7, .string out7), (8, .int .i64 i8), (10, .string q10), (11, .int .i64 f11)]) (W.WP.seq (c := C34) (x := C40) (y := C35) (by kernel_rfl) <| W.WP.reg (c := C40) (fun E w => W.condK (W.Env.val E (.tmp 104)) (KE_S20 E w R) (KE_S21 E w R)) (by kernel_rfl) (Eq.mp (by kernel_rfl) h6) fun _ _ a hA hK => (W.WP.condK (c := C35) (x := C36) (y := C41) (o := .tmp 104) (by kernel_rfl) (fun hK => (KE_S20_ok R _ _ hK)) (fun hK => (W.WP.skip (c := C41) (by kernel_rfl) fun a hA => (KE_S21_ok R _ _ hK) a hA)) hK) a hA) (ha.cons hq3 (ha.cons hq4 (ha.cons hq7 (ha.cons hq8 (ha.cons hq10 (ha.cons hq11 ha.nil))))))
noncomputable def C42 : Code := W.Code.fst C32
/-- law.go:161 -/
abbrev S18 (text3 : ByteArray) (a4 : W.Sl) (out7 : ByteArray) (i8 : Int) (t9 : Addr) (w : World) (R : W.Post) : Prop :=
  ∃ t99 : ByteArray, w.cell? (t9.add 1) = some (.string t99) ∧ 
  Calls Try.prog n_lexer_Quote #[.string t99] w fun r_ w1 => ∃ t100_0 : ByteArray, ∃ t100_1 : Int, r_ = .returned (.tuple #[.string t100_0, .int .i64 t100_1]) ∧ 
  S19 text3 a4 out7 i8 t100_0 t100_1 w1 R
def KE_S18 (E : W.Env) (w : World) (R : W.Post) : Prop := W.asStr (W.Env.get? E 3) fun text3 => W.asSlice (W.Env.get? E 4) fun a4 => W.asStr (W.Env.get? E 7) fun out7 => W.asInt .i64 (W.Env.get? E 8) fun i8 => W.asRef (W.Env.get? E 9) fun t9 => S18 text3 a4 out7 i8 t9 w R
theorem KE_S18_ok (R : W.Post) (E : W.Env) (w : World) (h : KE_S18 E w R) : W.WP Try.prog (W.cx 156) C32 (Q7 R) E w := by
  obtain ⟨text3, hq3, h1⟩ := W.asStr_elim h
  obtain ⟨a4, hq4, h2⟩ := W.asSlice_elim h1
  obtain ⟨out7, hq7, h3⟩ := W.asStr_elim h2
  obtain ⟨i8, hq8, h4⟩ := W.asInt_elim h3
  obtain ⟨t9, hq9, h5⟩ := W.asRef_elim h4
  exact fun a ha => W.WP.at (n := (W.cx 156)) (E := [(3, .string text3), (4, a4.v), (7, .string out7), (8, .int .i64 i8), (9, .pointer (some t9))]) (W.WP.seq (c := C32) (x := C42) (y := C33) (by kernel_rfl) <| W.WP.reg (c := C42) (fun E w => KE_S19 E w R) (by kernel_rfl) (Eq.mp (by kernel_rfl) h5) fun _ _ a hA hK => (W.WP.seq (c := C33) (x := C34) (y := C37) (by kernel_rfl) (KE_S19_ok R _ _ hK)) a hA) (ha.cons hq3 (ha.cons hq4 (ha.cons hq7 (ha.cons hq8 (ha.cons hq9 ha.nil)))))
noncomputable def C43 : Code := W.Code.snd C31
noncomputable def C44 : Code := W.Code.fst C43
noncomputable def C45 : Code := W.Code.snd C44
noncomputable def C46 : Code := W.Code.fst C45
noncomputable def C47 : Code := W.Code.snd C43
abbrev Q9 (R : W.Post) : Exit → Act → World → Prop := (Exit.then (W.wpx Try.prog (W.cx 156) C47 (Exit.inBlock 2 (Q6 R))) (Exit.inBlock 2 (Q6 R)))
noncomputable def C48 : Code := W.Code.fst C46
noncomputable def C49 : Code := W.Code.snd C46
/-- law.go:168 -/
abbrev S23  (w : World) (R : W.Post) : Prop :=
  R (.returned (.bool false)) w
def KE_S23 (E : W.Env) (w : World) (R : W.Post) : Prop := S23  w R
theorem KE_S23_ok (R : W.Post) (E : W.Env) (w : World) (h : KE_S23 E w R) : W.WP Try.prog (W.cx 156) C46 (Q9 R) E w := by
  exact fun a ha => W.WP.at (n := (W.cx 156)) (E := []) (W.WP.seq (c := C46) (x := C48) (y := C49) (by kernel_rfl) <| W.WP.reg (c := C48) (fun E w => W.retVC Try.prog Try.f7 E w (fun v => R (.returned v) w)) (by kernel_rfl) (Eq.mp (by kernel_rfl) h) fun _ _ a hA hK => (W.WP.ret (c := C49) (by kernel_rfl) fun a hA => W.retVC_sound hA hK) a hA) ha.nil
/-- law.go:170 -/
abbrev S24 (text3 : ByteArray) (a4 : W.Sl) (out7 : ByteArray) (i8 : Int) (t9 : Addr) (w : World) (R : W.Post) : Prop :=
  ∃ t85 : ByteArray, w.cell? (t9.add 1) = some (.string t85) ∧ 
  ¬ (((out7.size + t85.size : Nat) : Int) > IntKind.i64.max) ∧ S13 text3 a4 (out7 ++ t85) i8 w R
def KE_S24 (E : W.Env) (w : World) (R : W.Post) : Prop := W.asStr (W.Env.get? E 3) fun text3 => W.asSlice (W.Env.get? E 4) fun a4 => W.asStr (W.Env.get? E 7) fun out7 => W.asInt .i64 (W.Env.get? E 8) fun i8 => W.asRef (W.Env.get? E 9) fun t9 => S24 text3 a4 out7 i8 t9 w R
theorem KE_S24_ok (R : W.Post) (E : W.Env) (w : World) (h : KE_S24 E w R) : W.WP Try.prog (W.cx 156) C47 (Q7 R) E w := by
  obtain ⟨text3, hq3, h1⟩ := W.asStr_elim h
  obtain ⟨a4, hq4, h2⟩ := W.asSlice_elim h1
  obtain ⟨out7, hq7, h3⟩ := W.asStr_elim h2
  obtain ⟨i8, hq8, h4⟩ := W.asInt_elim h3
  obtain ⟨t9, hq9, h5⟩ := W.asRef_elim h4
  exact fun a ha => W.WP.at (n := (W.cx 156)) (E := [(3, .string text3), (4, a4.v), (7, .string out7), (8, .int .i64 i8), (9, .pointer (some t9))]) (W.WP.reg (c := C47) (fun E w => KE_S13 E w R) (by kernel_rfl) (Eq.mp (by kernel_rfl) h5) fun _ _ a hA hK => (KE_S13_ok R _ _ hK) a hA) (ha.cons hq3 (ha.cons hq4 (ha.cons hq7 (ha.cons hq8 (ha.cons hq9 ha.nil)))))
noncomputable def C50 : Code := W.Code.fst C44
noncomputable def C51 : Code := W.Code.snd C45
/-- law.go:167 -/
abbrev S22 (text3 : ByteArray) (a4 : W.Sl) (out7 : ByteArray) (i8 : Int) (t9 : Addr) (w : World) (R : W.Post) : Prop :=
  W.drV w fun w1 => ∃ t55 : Int, w1.cell? (t9.add 2) = some (.int .i64 t55) ∧ 
  W.sel (decide (t55 < 0)) (S23  w1 R) (∃ t59 : Int, w1.cell? (t9.add 2) = some (.int .i64 t59) ∧ 
  ∃ t61 : ByteArray, w1.cell? (t9.add 1) = some (.string t61) ∧ 
  W.sel (decide ((IntKind.wrap .i64 (t59 + ((t61.size : Nat) : Int))) > ((text3.size : Nat) : Int))) (S23  w1 R) (∃ t71 : Int, w1.cell? (t9.add 2) = some (.int .i64 t71) ∧ 
  ∃ t73 : Int, w1.cell? (t9.add 2) = some (.int .i64 t73) ∧ 
  ∃ t75 : ByteArray, w1.cell? (t9.add 1) = some (.string t75) ∧ 
  (0 : Int) ≤ (IntKind.wrap .i64 (t73 + ((t75.size : Nat) : Int))) ∧ (IntKind.wrap .i64 (t73 + ((t75.size : Nat) : Int))) ≤ ((text3.size : Nat) : Int) ∧ (0 : Int) ≤ t71 ∧ t71 ≤ (((Int.toNat (IntKind.wrap .i64 (t73 + ((t75.size : Nat) : Int)))) : Nat) : Int) ∧ ∃ t80 : ByteArray, w1.cell? (t9.add 1) = some (.string t80) ∧ 
  W.sel (!((text3.extract (Int.toNat t71) (Int.toNat (IntKind.wrap .i64 (t73 + ((t75.size : Nat) : Int))))).toList == t80.toList)) (S23  w1 R) (S24 text3 a4 out7 i8 t9 w1 R)))
def KE_S22 (E : W.Env) (w : World) (R : W.Post) : Prop := W.asStr (W.Env.get? E 3) fun text3 => W.asSlice (W.Env.get? E 4) fun a4 => W.asStr (W.Env.get? E 7) fun out7 => W.asInt .i64 (W.Env.get? E 8) fun i8 => W.asRef (W.Env.get? E 9) fun t9 => S22 text3 a4 out7 i8 t9 w R
theorem KE_S22_ok (R : W.Post) (E : W.Env) (w : World) (h : KE_S22 E w R) : W.WP Try.prog (W.cx 156) C44 (Q9 R) E w := by
  obtain ⟨text3, hq3, h1⟩ := W.asStr_elim h
  obtain ⟨a4, hq4, h2⟩ := W.asSlice_elim h1
  obtain ⟨out7, hq7, h3⟩ := W.asStr_elim h2
  obtain ⟨i8, hq8, h4⟩ := W.asInt_elim h3
  obtain ⟨t9, hq9, h5⟩ := W.asRef_elim h4
  exact fun a ha => W.WP.at (n := (W.cx 156)) (E := [(3, .string text3), (4, a4.v), (7, .string out7), (8, .int .i64 i8), (9, .pointer (some t9))]) (W.WP.seq (c := C44) (x := C50) (y := C45) (by kernel_rfl) <| W.WP.draw (c := C50) [0, 1, 2, 3, 4, 5, 6, 7, 8, 9, 10, 11, 12, 13, 14, 15, 16, 17, 18, 19, 20, 21, 22, 23, 24, 25, 26, 27, 28] (fun E w => W.condK (W.Env.val E (.tmp 82)) (KE_S23 E w R) (KE_S24 E w R)) (by kernel_rfl) (Eq.mp (by kernel_rfl) h5) fun _ _ a hA hK => (W.WP.condK (c := C45) (x := C46) (y := C51) (o := .tmp 82) (by kernel_rfl) (fun hK => (KE_S23_ok R _ _ hK)) (fun hK => (W.WP.skip (c := C51) (by kernel_rfl) fun a hA => (KE_S24_ok R _ _ hK) a hA)) hK) a hA) (ha.cons hq3 (ha.cons hq4 (ha.cons hq7 (ha.cons hq8 (ha.cons hq9 ha.nil)))))
noncomputable def C52 : Code := W.Code.fst C30
/-- law.go:160 -/
abbrev S17 (text3 : ByteArray) (a4 : W.Sl) (out7 : ByteArray) (i8 : Int) (t9 : Addr) (t53 : Int) (w : World) (R : W.Post) : Prop :=
  W.sel (t53 == 5) (S18 text3 a4 out7 i8 t9 w R) (S22 text3 a4 out7 i8 t9 w R)
def KE_S17 (E : W.Env) (w : World) (R : W.Post) : Prop := W.asStr (W.Env.get? E 3) fun text3 => W.asSlice (W.Env.get? E 4) fun a4 => W.asStr (W.Env.get? E 7) fun out7 => W.asInt .i64 (W.Env.get? E 8) fun i8 => W.asRef (W.Env.get? E 9) fun t9 => W.asInt .i64 (W.Env.get? E 53) fun t53 => S17 text3 a4 out7 i8 t9 t53 w R
theorem KE_S17_ok (R : W.Post) (E : W.Env) (w : World) (h : KE_S17 E w R) : W.WP Try.prog (W.cx 156) C30 (Q7 R) E w := by
  obtain ⟨text3, hq3, h1⟩ := W.asStr_elim h
  obtain ⟨a4, hq4, h2⟩ := W.asSlice_elim h1
  obtain ⟨out7, hq7, h3⟩ := W.asStr_elim h2
  obtain ⟨i8, hq8, h4⟩ := W.asInt_elim h3
  obtain ⟨t9, hq9, h5⟩ := W.asRef_elim h4
  obtain ⟨t53, hq53, h6⟩ := W.asInt_elim h5
  exact fun a ha => W.WP.at (n := (W.cx 156)) (E := [(3, .string text3), (4, a4.v), (7, .string out7), (8, .int .i64 i8), (9, .pointer (some t9)), (53, .int .i64 t53)]) (W.WP.seq (c := C30) (x := C52) (y := C31) (by kernel_rfl) <| W.WP.reg (c := C52) (fun E w => W.condK (W.Env.val E (.tmp 95)) (KE_S18 E w R) (KE_S22 E w R)) (by kernel_rfl) (Eq.mp (by kernel_rfl) h6) fun _ _ a hA hK => (W.WP.condK (c := C31) (x := C32) (y := C43) (o := .tmp 95) (by kernel_rfl) (fun hK => (KE_S18_ok R _ _ hK)) (fun hK => (W.WP.seq (c := C43) (x := C44) (y := C47) (by kernel_rfl) (KE_S22_ok R _ _ hK))) hK) a hA) (ha.cons hq3 (ha.cons hq4 (ha.cons hq7 (ha.cons hq8 (ha.cons hq9 (ha.cons hq53 ha.nil))))))
noncomputable def C53 : Code := W.Code.fst C27
/-- law.go:158 -/
abbrev S15 (text3 : ByteArray) (a4 : W.Sl) (out7 : ByteArray) (i8 : Int) (t9 : Addr) (t53 : Int) (w : World) (R : W.Post) : Prop :=
  W.sel (t53 == 1) (S16 text3 a4 out7 i8 w R) (S17 text3 a4 out7 i8 t9 t53 w R)
def KE_S15 (E : W.Env) (w : World) (R : W.Post) : Prop := W.asStr (W.Env.get? E 3) fun text3 => W.asSlice (W.Env.get? E 4) fun a4 => W.asStr (W.Env.get? E 7) fun out7 => W.asInt .i64 (W.Env.get? E 8) fun i8 => W.asRef (W.Env.get? E 9) fun t9 => W.asInt .i64 (W.Env.get? E 53) fun t53 => S15 text3 a4 out7 i8 t9 t53 w R
theorem KE_S15_ok (R : W.Post) (E : W.Env) (w : World) (h : KE_S15 E w R) : W.WP Try.prog (W.cx 156) C27 (Q7 R) E w := by
  obtain ⟨text3, hq3, h1⟩ := W.asStr_elim h
  obtain ⟨a4, hq4, h2⟩ := W.asSlice_elim h1
  obtain ⟨out7, hq7, h3⟩ := W.asStr_elim h2
  obtain ⟨i8, hq8, h4⟩ := W.asInt_elim h3
  obtain ⟨t9, hq9, h5⟩ := W.asRef_elim h4
  obtain ⟨t53, hq53, h6⟩ := W.asInt_elim h5
  exact fun a ha => W.WP.at (n := (W.cx 156)) (E := [(3, .string text3), (4, a4.v), (7, .string out7), (8, .int .i64 i8), (9, .pointer (some t9)), (53, .int .i64 t53)]) (W.WP.seq (c := C27) (x := C53) (y := C28) (by kernel_rfl) <| W.WP.reg (c := C53) (fun E w => W.condK (W.Env.val E (.tmp 91)) (KE_S16 E w R) (KE_S17 E w R)) (by kernel_rfl) (Eq.mp (by kernel_rfl) h6) fun _ _ a hA hK => (W.WP.condK (c := C28) (x := C29) (y := C30) (o := .tmp 91) (by kernel_rfl) (fun hK => (KE_S16_ok R _ _ hK)) (fun hK => (KE_S17_ok R _ _ hK)) hK) a hA) (ha.cons hq3 (ha.cons hq4 (ha.cons hq7 (ha.cons hq8 (ha.cons hq9 (ha.cons hq53 ha.nil))))))
noncomputable def C54 : Code := W.Code.fst C24
/-- law.go:156 -/
abbrev S11 (text3 : ByteArray) (a4 : W.Sl) (out7 : ByteArray) (i8 : Int) (t9 : Addr) (t53 : Int) (w : World) (R : W.Post) : Prop :=
  W.sel (t53 == 0) (S12 text3 a4 out7 i8 w R) (S15 text3 a4 out7 i8 t9 t53 w R)
def KE_S11 (E : W.Env) (w : World) (R : W.Post) : Prop := W.asStr (W.Env.get? E 3) fun text3 => W.asSlice (W.Env.get? E 4) fun a4 => W.asStr (W.Env.get? E 7) fun out7 => W.asInt .i64 (W.Env.get? E 8) fun i8 => W.asRef (W.Env.get? E 9) fun t9 => W.asInt .i64 (W.Env.get? E 53) fun t53 => S11 text3 a4 out7 i8 t9 t53 w R
theorem KE_S11_ok (R : W.Post) (E : W.Env) (w : World) (h : KE_S11 E w R) : W.WP Try.prog (W.cx 156) C24 (Q7 R) E w := by
  obtain ⟨text3, hq3, h1⟩ := W.asStr_elim h
  obtain ⟨a4, hq4, h2⟩ := W.asSlice_elim h1
  obtain ⟨out7, hq7, h3⟩ := W.asStr_elim h2
  obtain ⟨i8, hq8, h4⟩ := W.asInt_elim h3
  obtain ⟨t9, hq9, h5⟩ := W.asRef_elim h4
  obtain ⟨t53, hq53, h6⟩ := W.asInt_elim h5
  exact fun a ha => W.WP.at (n := (W.cx 156)) (E := [(3, .string text3), (4, a4.v), (7, .string out7), (8, .int .i64 i8), (9, .pointer (some t9)), (53, .int .i64 t53)]) (W.WP.seq (c := C24) (x := C54) (y := C25) (by kernel_rfl) <| W.WP.reg (c := C54) (fun E w => W.condK (W.Env.val E (.tmp 87)) (KE_S12 E w R) (KE_S15 E w R)) (by kernel_rfl) (Eq.mp (by kernel_rfl) h6) fun _ _ a hA hK => (W.WP.condK (c := C25) (x := C26) (y := C27) (o := .tmp 87) (by kernel_rfl) (fun hK => (KE_S12_ok R _ _ hK)) (fun hK => (KE_S15_ok R _ _ hK)) hK) a hA) (ha.cons hq3 (ha.cons hq4 (ha.cons hq7 (ha.cons hq8 (ha.cons hq9 (ha.cons hq53 ha.nil))))))
noncomputable def C55 : Code := W.Code.fst C22
/-- law.go:155 -/
abbrev S10 (text3 : ByteArray) (a4 : W.Sl) (out7 : ByteArray) (i8 : Int) (t9 : Addr) (w : World) (R : W.Post) : Prop :=
  ∃ t53 : Int, w.cell? (t9.add 0) = some (.int .i64 t53) ∧ 
  S11 text3 a4 out7 i8 t9 t53 w R
def KE_S10 (E : W.Env) (w : World) (R : W.Post) : Prop := W.asStr (W.Env.get? E 3) fun text3 => W.asSlice (W.Env.get? E 4) fun a4 => W.asStr (W.Env.get? E 7) fun out7 => W.asInt .i64 (W.Env.get? E 8) fun i8 => W.asRef (W.Env.get? E 9) fun t9 => S10 text3 a4 out7 i8 t9 w R
theorem KE_S10_ok (R : W.Post) (E : W.Env) (w : World) (h : KE_S10 E w R) : W.WP Try.prog (W.cx 156) C22 (Q6 R) E w := by
  obtain ⟨text3, hq3, h1⟩ := W.asStr_elim h
  obtain ⟨a4, hq4, h2⟩ := W.asSlice_elim h1
  obtain ⟨out7, hq7, h3⟩ := W.asStr_elim h2
  obtain ⟨i8, hq8, h4⟩ := W.asInt_elim h3
  obtain ⟨t9, hq9, h5⟩ := W.asRef_elim h4
  exact fun a ha => W.WP.at (n := (W.cx 156)) (E := [(3, .string text3), (4, a4.v), (7, .string out7), (8, .int .i64 i8), (9, .pointer (some t9))]) (W.WP.seq (c := C22) (x := C55) (y := C23) (by kernel_rfl) <| W.WP.reg (c := C55) (fun E w => KE_S11 E w R) (by kernel_rfl) (Eq.mp (by kernel_rfl) h5) fun _ _ a hA hK => (W.WP.block (c := C23) (x := C24) (id := 2) (by kernel_rfl) (KE_S11_ok R _ _ hK)) a hA) (ha.cons hq3 (ha.cons hq4 (ha.cons hq7 (ha.cons hq8 (ha.cons hq9 ha.nil)))))
noncomputable def C56 : Code := W.Code.fst C19
/-- law.go:154 -/
abbrev S9 (text3 : ByteArray) (a4 : W.Sl) (out7 : ByteArray) (i8 : Int) (w : World) (R : W.Post) : Prop :=
  (0 : Int) ≤ i8 ∧ i8 < ((a4.n : Nat) : Int) ∧ W.optP a4.a fun t50_p => ∃ t51_0 : Int, ∃ t51_1 : ByteArray, ∃ t51_2 : Int, w.cell? ((t50_p.add (Int.toNat i8 * 3)).add 0) = some (.int .i64 t51_0) ∧ w.cell? ((t50_p.add (Int.toNat i8 * 3)).add 1) = some (.string t51_1) ∧ w.cell? ((t50_p.add (Int.toNat i8 * 3)).add 2) = some (.int .i64 t51_2) ∧ 
  W.nwV w (.cells #[.int .i64 0, .string (ByteArray.mk #[]), .int .i64 0] ty_lexer_Token) fun w1 => 
  W.stV w1 (Addr.mk w.heap.size 0 none) (.int .i64 t51_0) fun w2 => 
  W.stV w2 ((Addr.mk w.heap.size 0 none).add 1) (.string t51_1) fun w3 => 
  W.stV w3 ((Addr.mk w.heap.size 0 none).add 2) (.int .i64 t51_2) fun w4 => 
  S10 text3 a4 out7 i8 (Addr.mk w.heap.size 0 none) w4 R
def KE_S9 (E : W.Env) (w : World) (R : W.Post) : Prop := W.asStr (W.Env.get? E 3) fun text3 => W.asSlice (W.Env.get? E 4) fun a4 => W.asStr (W.Env.get? E 7) fun out7 => W.asInt .i64 (W.Env.get? E 8) fun i8 => S9 text3 a4 out7 i8 w R
theorem KE_S9_ok (R : W.Post) (E : W.Env) (w : World) (h : KE_S9 E w R) : W.WP Try.prog (W.cx 156) C19 (Q5 R) E w := by
  obtain ⟨text3, hq3, h1⟩ := W.asStr_elim h
  obtain ⟨a4, hq4, h2⟩ := W.asSlice_elim h1
  obtain ⟨out7, hq7, h3⟩ := W.asStr_elim h2
  obtain ⟨i8, hq8, h4⟩ := W.asInt_elim h3
  exact fun a ha => W.WP.at (n := (W.cx 156)) (E := [(3, .string text3), (4, a4.v), (7, .string out7), (8, .int .i64 i8)]) (W.WP.seq (c := C19) (x := C56) (y := C20) (by kernel_rfl) <| W.WP.reg (c := C56) (fun E w => KE_S10 E w R) (by kernel_rfl) (Eq.mp (by kernel_rfl) h4) fun _ _ a hA hK => (W.WP.seq (c := C20) (x := C22) (y := C21) (by kernel_rfl) (KE_S10_ok R _ _ hK)) a hA) (ha.cons hq3 (ha.cons hq4 (ha.cons hq7 (ha.cons hq8 ha.nil))))
noncomputable def C57 : Code := W.Code.snd C15
noncomputable def C58 : Code := W.Code.fst C57
noncomputable def C59 : Code := W.Code.snd C58
noncomputable def C60 : Code := W.Code.fst C59
noncomputable def C61 : Code := W.Code.snd C57
abbrev Q10 (R : W.Post) : Exit → Act → World → Prop := (Exit.then (W.wpx Try.prog (W.cx 156) C61 (bodyPost Try.prog Try.f7 R)) (bodyPost Try.prog Try.f7 R))
noncomputable def C62 : Code := W.Code.fst C60
noncomputable def C63 : Code := W.Code.snd C60
/-- law.go:176 -/
abbrev S27  (w : World) (R : W.Post) : Prop :=
  R (.returned (.bool false)) w
def KE_S27 (E : W.Env) (w : World) (R : W.Post) : Prop := S27  w R
theorem KE_S27_ok (R : W.Post) (E : W.Env) (w : World) (h : KE_S27 E w R) : W.WP Try.prog (W.cx 156) C60 (Q10 R) E w := by
  exact fun a ha => W.WP.at (n := (W.cx 156)) (E := []) (W.WP.seq (c := C60) (x := C62) (y := C63) (by kernel_rfl) <| W.WP.reg (c := C62) (fun E w => W.retVC Try.prog Try.f7 E w (fun v => R (.returned v) w)) (by kernel_rfl) (Eq.mp (by kernel_rfl) h) fun _ _ a hA hK => (W.WP.ret (c := C63) (by kernel_rfl) fun a hA => W.retVC_sound hA hK) a hA) ha.nil
noncomputable def C64 : Code := W.Code.fst C61
noncomputable def C65 : Code := W.Code.snd C64
noncomputable def C66 : Code := W.Code.fst C65
noncomputable def C67 : Code := W.Code.fst C66
noncomputable def C68 : Code := W.Code.snd C61
abbrev Q11 (R : W.Post) : Exit → Act → World → Prop := (Exit.then (W.wpx Try.prog (W.cx 156) C68 (bodyPost Try.prog Try.f7 R)) (bodyPost Try.prog Try.f7 R))
abbrev Q12 (R : W.Post) : Exit → Act → World → Prop := (Exit.inBlock 3 (Q11 R))
/-- the head of the loop, law.go:178 -/
def L29 (a4 b12 : W.Sl) (i15 : Int) (w : World) (R : W.Post) : Prop := W.LP Try.prog (W.cx 156) C67 (Q12 R) [(4, a4.v), (12, b12.v), (15, .int .i64 i15)] w
def KE_L29 (E : W.Env) (w : World) (R : W.Post) : Prop := W.asSlice (W.Env.get? E 4) fun a4 => W.asSlice (W.Env.get? E 12) fun b12 => W.asInt .i64 (W.Env.get? E 15) fun i15 => L29 a4 b12 i15 w R
theorem KE_L29_ok (R : W.Post) (E : W.Env) (w : World) (h : KE_L29 E w R) : W.LP Try.prog (W.cx 156) C67 (Q12 R) E w := by
  obtain ⟨a4, hq4, h1⟩ := W.asSlice_elim h
  obtain ⟨b12, hq12, h2⟩ := W.asSlice_elim h1
  obtain ⟨i15, hq15, h3⟩ := W.asInt_elim h2
  intro a ha
  exact h3 a (ha.cons hq4 (ha.cons hq12 (ha.cons hq15 ha.nil)))
noncomputable def C69 : Code := W.Code.snd C67
noncomputable def C70 : Code := W.Code.fst C69
noncomputable def C71 : Code := W.Code.fst C70
noncomputable def C72 : Code := W.Code.snd C71
noncomputable def C73 : Code := W.Code.fst C72
noncomputable def C74 : Code := W.Code.snd C69
abbrev Q13 (R : W.Post) : Exit → Act → World → Prop := (Exit.then (W.wpx Try.prog (W.cx 156) C74 (Exit.then (W.LoopWP Try.prog (W.cx 156) C67 (Q12 R)) (Q12 R))) (Exit.then (W.LoopWP Try.prog (W.cx 156) C67 (Q12 R)) (Q12 R)))
abbrev Q14 (R : W.Post) : Exit → Act → World → Prop := (Exit.inBlock 4 (Q13 R))
noncomputable def C75 : Code := W.Code.fst C73
noncomputable def C76 : Code := W.Code.snd C73
/-- law.go:180 -/
abbrev S32  (w : World) (R : W.Post) : Prop :=
  R (.returned (.bool false)) w
def KE_S32 (E : W.Env) (w : World) (R : W.Post) : Prop := S32  w R
theorem KE_S32_ok (R : W.Post) (E : W.Env) (w : World) (h : KE_S32 E w R) : W.WP Try.prog (W.cx 156) C73 (Q14 R) E w := by
  exact fun a ha => W.WP.at (n := (W.cx 156)) (E := []) (W.WP.seq (c := C73) (x := C75) (y := C76) (by kernel_rfl) <| W.WP.reg (c := C75) (fun E w => W.retVC Try.prog Try.f7 E w (fun v => R (.returned v) w)) (by kernel_rfl) (Eq.mp (by kernel_rfl) h) fun _ _ a hA hK => (W.WP.ret (c := C76) (by kernel_rfl) fun a hA => W.retVC_sound hA hK) a hA) ha.nil
abbrev Q15 (R : W.Post) : Exit → Act → World → Prop := (Exit.then (W.LoopWP Try.prog (W.cx 156) C67 (Q12 R)) (Q12 R))
/-- law.go:178 -/
abbrev S33 (a4 b12 : W.Sl) (i15 : Int) (w : World) (R : W.Post) : Prop :=
  L29 a4 b12 (IntKind.wrap .i64 (i15 + 1)) w R
def KE_S33 (E : W.Env) (w : World) (R : W.Post) : Prop := W.asSlice (W.Env.get? E 4) fun a4 => W.asSlice (W.Env.get? E 12) fun b12 => W.asInt .i64 (W.Env.get? E 15) fun i15 => S33 a4 b12 i15 w R
theorem KE_S33_ok (R : W.Post) (E : W.Env) (w : World) (h : KE_S33 E w R) : W.WP Try.prog (W.cx 156) C74 (Q15 R) E w := by
  obtain ⟨a4, hq4, h1⟩ := W.asSlice_elim h
  obtain ⟨b12, hq12, h2⟩ := W.asSlice_elim h1
  obtain ⟨i15, hq15, h3⟩ := W.asInt_elim h2
  exact fun a ha => W.WP.at (n := (W.cx 156)) (E := [(4, a4.v), (12, b12.v), (15, .int .i64 i15)]) (W.WP.reg (c := C74) (fun E w => KE_L29 E w R) (by kernel_rfl) (Eq.mp (by kernel_rfl) h3) fun _ _ a hA hK => KE_L29_ok R _ _ hK a hA) (ha.cons hq4 (ha.cons hq12 (ha.cons hq15 ha.nil)))
noncomputable def C77 : Code := W.Code.fst C71
noncomputable def C78 : Code := W.Code.snd C72
/-- law.go:179 -/
abbrev S31 (a4 b12 : W.Sl) (i15 : Int) (w : World) (R : W.Post) : Prop :=
  W.drV w fun w1 => (0 : Int) ≤ i15 ∧ i15 < ((a4.n : Nat) : Int) ∧ W.optP a4.a fun t133_p => ∃ t135 : Int, w1.cell? ((t133_p.add (Int.toNat i15 * 3)).add 0) = some (.int .i64 t135) ∧ 
  (0 : Int) ≤ i15 ∧ i15 < ((b12.n : Nat) : Int) ∧ W.optP b12.a fun t138_p => ∃ t140 : Int, w1.cell? ((t138_p.add (Int.toNat i15 * 3)).add 0) = some (.int .i64 t140) ∧ 
  W.sel (t135 != t140) (S32  w1 R) ((0 : Int) ≤ i15 ∧ i15 < ((a4.n : Nat) : Int) ∧ W.optP a4.a fun t145_p => ∃ t147 : ByteArray, w1.cell? ((t145_p.add (Int.toNat i15 * 3)).add 1) = some (.string t147) ∧ 
  (0 : Int) ≤ i15 ∧ i15 < ((b12.n : Nat) : Int) ∧ W.optP b12.a fun t150_p => ∃ t152 : ByteArray, w1.cell? ((t150_p.add (Int.toNat i15 * 3)).add 1) = some (.string t152) ∧ 
  W.sel (!(t147.toList == t152.toList)) (S32  w1 R) (S33 a4 b12 i15 w1 R))
def KE_S31 (E : W.Env) (w : World) (R : W.Post) : Prop := W.asSlice (W.Env.get? E 4) fun a4 => W.asSlice (W.Env.get? E 12) fun b12 => W.asInt .i64 (W.Env.get? E 15) fun i15 => S31 a4 b12 i15 w R
theorem KE_S31_ok (R : W.Post) (E : W.Env) (w : World) (h : KE_S31 E w R) : W.WP Try.prog (W.cx 156) C71 (Q14 R) E w := by
  obtain ⟨a4, hq4, h1⟩ := W.asSlice_elim h
  obtain ⟨b12, hq12, h2⟩ := W.asSlice_elim h1
  obtain ⟨i15, hq15, h3⟩ := W.asInt_elim h2
  exact fun a ha => W.WP.at (n := (W.cx 156)) (E := [(4, a4.v), (12, b12.v), (15, .int .i64 i15)]) (W.WP.seq (c := C71) (x := C77) (y := C72) (by kernel_rfl) <| W.WP.draw (c := C77) [0, 1, 2, 3, 4, 5, 6, 7, 8, 9, 10, 11, 12, 13, 14, 15, 16, 17, 18, 19, 20, 21, 22, 23] (fun E w => W.condK (W.Env.val E (.tmp 154)) (KE_S32 E w R) (KE_S33 E w R)) (by kernel_rfl) (Eq.mp (by kernel_rfl) h3) fun _ _ a hA hK => (W.WP.condK (c := C72) (x := C73) (y := C78) (o := .tmp 154) (by kernel_rfl) (fun hK => (KE_S32_ok R _ _ hK)) (fun hK => (W.WP.skip (c := C78) (by kernel_rfl) fun a hA => (KE_S33_ok R _ _ hK) a hA)) hK) a hA) (ha.cons hq4 (ha.cons hq12 (ha.cons hq15 ha.nil)))
abbrev Q16 (R : W.Post) : Exit → Act → World → Prop := (bodyPost Try.prog Try.f7 R)
noncomputable def C79 : Code := W.Code.fst C68
noncomputable def C80 : Code := W.Code.snd C68
/-- law.go:183 -/
abbrev S34  (w : World) (R : W.Post) : Prop :=
  Calls Try.prog n_enthymemelaw09_lives #[] w fun r_ w1 => ∃ t155 : Bool, r_ = .returned (.bool t155) ∧ 
  R (.returned (.bool t155)) w1
def KE_S34 (E : W.Env) (w : World) (R : W.Post) : Prop := S34  w R
theorem KE_S34_ok (R : W.Post) (E : W.Env) (w : World) (h : KE_S34 E w R) : W.WP Try.prog (W.cx 156) C68 (Q16 R) E w := by
  exact fun a ha => W.WP.at (n := (W.cx 156)) (E := []) (W.WP.seq (c := C68) (x := C79) (y := C80) (by kernel_rfl) <| W.WP.reg (c := C79) (fun E w => W.retVC Try.prog Try.f7 E w (fun v => R (.returned v) w)) (by kernel_rfl) (Eq.mp (by kernel_rfl) h) fun _ _ a hA hK => (W.WP.ret (c := C80) (by kernel_rfl) fun a hA => W.retVC_sound hA hK) a hA) ha.nil
noncomputable def C81 : Code := W.Code.fst C67
abbrev Q17 (R : W.Post) : Exit → Act → World → Prop := (Exit.then (W.wpx Try.prog (W.cx 156) C69 (Exit.then (W.LoopWP Try.prog (W.cx 156) C67 (Q12 R)) (Q12 R))) (Exit.then (W.LoopWP Try.prog (W.cx 156) C67 (Q12 R)) (Q12 R)))
noncomputable def C82 : Code := W.Code.fst C81
noncomputable def C83 : Code := W.Code.snd C81
noncomputable def C84 : Code := W.Code.fst C83
noncomputable def C85 : Code := W.Code.snd C83
/-- law.go:178 -/
abbrev S30 (a4 b12 : W.Sl) (i15 : Int) (w : World) (R : W.Post) : Prop :=
  W.sel (decide (i15 < ((a4.n : Nat) : Int))) (S31 a4 b12 i15 w R) (S34  w R)
def KE_S30 (E : W.Env) (w : World) (R : W.Post) : Prop := W.asSlice (W.Env.get? E 4) fun a4 => W.asSlice (W.Env.get? E 12) fun b12 => W.asInt .i64 (W.Env.get? E 15) fun i15 => S30 a4 b12 i15 w R
theorem KE_S30_ok (R : W.Post) (E : W.Env) (w : World) (h : KE_S30 E w R) : W.WP Try.prog (W.cx 156) C81 (Q17 R) E w := by
  obtain ⟨a4, hq4, h1⟩ := W.asSlice_elim h
  obtain ⟨b12, hq12, h2⟩ := W.asSlice_elim h1
  obtain ⟨i15, hq15, h3⟩ := W.asInt_elim h2
  exact fun a ha => W.WP.at (n := (W.cx 156)) (E := [(4, a4.v), (12, b12.v), (15, .int .i64 i15)]) (W.WP.seq (c := C81) (x := C82) (y := C83) (by kernel_rfl) <| W.WP.reg (c := C82) (fun E w => W.condK (W.Env.val E (.tmp 128)) (KE_S31 E w R) (KE_S34 E w R)) (by kernel_rfl) (Eq.mp (by kernel_rfl) h3) fun _ _ a hA hK => (W.WP.condK (c := C83) (x := C84) (y := C85) (o := .tmp 128) (by kernel_rfl) (fun hK => (W.WP.skip (c := C84) (by kernel_rfl) fun a hA => (W.WP.seq (c := C69) (x := C70) (y := C74) (by kernel_rfl) (W.WP.block (c := C70) (x := C71) (id := 4) (by kernel_rfl) (KE_S31_ok R _ _ hK))) a hA)) (fun hK => (W.WP.exit (c := C85) (id := 3) (by kernel_rfl) fun a hA => (KE_S34_ok R _ _ hK) a hA)) hK) a hA) (ha.cons hq4 (ha.cons hq12 (ha.cons hq15 ha.nil)))
theorem L29_step (a4 b12 : W.Sl) (i15 : Int) (w : World) (R : W.Post) (h : S30 a4 b12 i15 w R) : L29 a4 b12 i15 w R :=
  W.LP.step (n := (W.cx 156)) (c := C67) (E := [(4, a4.v), (12, b12.v), (15, .int .i64 i15)]) (w := w) (W.WP.seq (c := C67) (x := C81) (y := C69) (by kernel_rfl) (KE_S30_ok R _ _ (Eq.mp (by kernel_rfl) h)))
noncomputable def C86 : Code := W.Code.fst C64
/-- law.go:178 -/
abbrev S28 (a4 b12 : W.Sl) (w : World) (R : W.Post) : Prop :=
  L29 a4 b12 0 w R
def KE_S28 (E : W.Env) (w : World) (R : W.Post) : Prop := W.asSlice (W.Env.get? E 4) fun a4 => W.asSlice (W.Env.get? E 12) fun b12 => S28 a4 b12 w R
theorem KE_S28_ok (R : W.Post) (E : W.Env) (w : World) (h : KE_S28 E w R) : W.WP Try.prog (W.cx 156) C64 (Q11 R) E w := by
  obtain ⟨a4, hq4, h1⟩ := W.asSlice_elim h
  obtain ⟨b12, hq12, h2⟩ := W.asSlice_elim h1
  exact fun a ha => W.WP.at (n := (W.cx 156)) (E := [(4, a4.v), (12, b12.v)]) (W.WP.seq (c := C64) (x := C86) (y := C65) (by kernel_rfl) <| W.WP.reg (c := C86) (fun E w => KE_L29 E w R) (by kernel_rfl) (Eq.mp (by kernel_rfl) h2) fun _ _ a hA hK => (W.WP.block (c := C65) (x := C66) (id := 3) (by kernel_rfl) (W.WP.loop (c := C66) (x := C67) (by kernel_rfl) (KE_L29_ok R _ _ hK))) a hA) (ha.cons hq4 (ha.cons hq12 ha.nil))
noncomputable def C87 : Code := W.Code.fst C58
noncomputable def C88 : Code := W.Code.snd C59
/-- law.go:175 -/
abbrev S26 (a4 b12 : W.Sl) (f14 : Int) (w : World) (R : W.Post) : Prop :=
  W.sel (f14 != 0) (S27  w R) (W.sel (((b12.n : Nat) : Int) != ((a4.n : Nat) : Int)) (S27  w R) (S28 a4 b12 w R))
def KE_S26 (E : W.Env) (w : World) (R : W.Post) : Prop := W.asSlice (W.Env.get? E 4) fun a4 => W.asSlice (W.Env.get? E 12) fun b12 => W.asInt .i64 (W.Env.get? E 14) fun f14 => S26 a4 b12 f14 w R
theorem KE_S26_ok (R : W.Post) (E : W.Env) (w : World) (h : KE_S26 E w R) : W.WP Try.prog (W.cx 156) C58 (Q10 R) E w := by
  obtain ⟨a4, hq4, h1⟩ := W.asSlice_elim h
  obtain ⟨b12, hq12, h2⟩ := W.asSlice_elim h1
  obtain ⟨f14, hq14, h3⟩ := W.asInt_elim h2
  exact fun a ha => W.WP.at (n := (W.cx 156)) (E := [(4, a4.v), (12, b12.v), (14, .int .i64 f14)]) (W.WP.seq (c := C58) (x := C87) (y := C59) (by kernel_rfl) <| W.WP.reg (c := C87) (fun E w => W.condK (W.Env.val E (.tmp 124)) (KE_S27 E w R) (KE_S28 E w R)) (by kernel_rfl) (Eq.mp (by kernel_rfl) h3) fun _ _ a hA hK => (W.WP.condK (c := C59) (x := C60) (y := C88) (o := .tmp 124) (by kernel_rfl) (fun hK => (KE_S27_ok R _ _ hK)) (fun hK => (W.WP.skip (c := C88) (by kernel_rfl) fun a hA => (W.WP.seq (c := C61) (x := C64) (y := C68) (by kernel_rfl) (KE_S28_ok R _ _ hK)) a hA)) hK) a hA) (ha.cons hq4 (ha.cons hq12 (ha.cons hq14 ha.nil)))
noncomputable def C89 : Code := W.Code.fst C15
/-- law.go:174 -/
abbrev S25 (a4 : W.Sl) (out7 : ByteArray) (w : World) (R : W.Post) : Prop :=
  Calls Try.prog n_lexer_Tokens #[.string out7] w fun r_ w1 => ∃ t112_0 : W.Sl, ∃ t112_1 : Int, ∃ t112_2 : Int, r_ = .returned (.tuple #[t112_0.v, .int .i64 t112_1, .int .i64 t112_2]) ∧ 
  S26 a4 t112_0 t112_2 w1 R
def KE_S25 (E : W.Env) (w : World) (R : W.Post) : Prop := W.asSlice (W.Env.get? E 4) fun a4 => W.asStr (W.Env.get? E 7) fun out7 => S25 a4 out7 w R
theorem KE_S25_ok (R : W.Post) (E : W.Env) (w : World) (h : KE_S25 E w R) : W.WP Try.prog (W.cx 156) C15 (Q16 R) E w := by
  obtain ⟨a4, hq4, h1⟩ := W.asSlice_elim h
  obtain ⟨out7, hq7, h2⟩ := W.asStr_elim h1
  exact fun a ha => W.WP.at (n := (W.cx 156)) (E := [(4, a4.v), (7, .string out7)]) (W.WP.seq (c := C15) (x := C89) (y := C57) (by kernel_rfl) <| W.WP.reg (c := C89) (fun E w => KE_S26 E w R) (by kernel_rfl) (Eq.mp (by kernel_rfl) h2) fun _ _ a hA hK => (W.WP.seq (c := C57) (x := C58) (y := C61) (by kernel_rfl) (KE_S26_ok R _ _ hK)) a hA) (ha.cons hq4 (ha.cons hq7 ha.nil))
noncomputable def C90 : Code := W.Code.fst C14
abbrev Q18 (R : W.Post) : Exit → Act → World → Prop := (Exit.then (W.wpx Try.prog (W.cx 156) C16 (Exit.then (W.LoopWP Try.prog (W.cx 156) C14 (Q2 R)) (Q2 R))) (Exit.then (W.LoopWP Try.prog (W.cx 156) C14 (Q2 R)) (Q2 R)))
noncomputable def C91 : Code := W.Code.fst C90
noncomputable def C92 : Code := W.Code.snd C90
noncomputable def C93 : Code := W.Code.fst C92
noncomputable def C94 : Code := W.Code.snd C92
/-- law.go:153 -/
abbrev S8 (text3 : ByteArray) (a4 : W.Sl) (out7 : ByteArray) (i8 : Int) (w : World) (R : W.Post) : Prop :=
  W.sel (decide (i8 < (IntKind.wrap .i64 (((a4.n : Nat) : Int) - 1)))) (S9 text3 a4 out7 i8 w R) (S25 a4 out7 w R)
def KE_S8 (E : W.Env) (w : World) (R : W.Post) : Prop := W.asStr (W.Env.get? E 3) fun text3 => W.asSlice (W.Env.get? E 4) fun a4 => W.asStr (W.Env.get? E 7) fun out7 => W.asInt .i64 (W.Env.get? E 8) fun i8 => S8 text3 a4 out7 i8 w R
theorem KE_S8_ok (R : W.Post) (E : W.Env) (w : World) (h : KE_S8 E w R) : W.WP Try.prog (W.cx 156) C90 (Q18 R) E w := by
  obtain ⟨text3, hq3, h1⟩ := W.asStr_elim h
  obtain ⟨a4, hq4, h2⟩ := W.asSlice_elim h1
  obtain ⟨out7, hq7, h3⟩ := W.asStr_elim h2
  obtain ⟨i8, hq8, h4⟩ := W.asInt_elim h3
  exact fun a ha => W.WP.at (n := (W.cx 156)) (E := [(3, .string text3), (4, a4.v), (7, .string out7), (8, .int .i64 i8)]) (W.WP.seq (c := C90) (x := C91) (y := C92) (by kernel_rfl) <| W.WP.reg (c := C91) (fun E w => W.condK (W.Env.val E (.tmp 45)) (KE_S9 E w R) (KE_S25 E w R)) (by kernel_rfl) (Eq.mp (by kernel_rfl) h4) fun _ _ a hA hK => (W.WP.condK (c := C92) (x := C93) (y := C94) (o := .tmp 45) (by kernel_rfl) (fun hK => (W.WP.skip (c := C93) (by kernel_rfl) fun a hA => (W.WP.seq (c := C16) (x := C18) (y := C17) (by kernel_rfl) (W.WP.block (c := C18) (x := C19) (id := 1) (by kernel_rfl) (KE_S9_ok R _ _ hK))) a hA)) (fun hK => (W.WP.exit (c := C94) (id := 0) (by kernel_rfl) fun a hA => (KE_S25_ok R _ _ hK) a hA)) hK) a hA) (ha.cons hq3 (ha.cons hq4 (ha.cons hq7 (ha.cons hq8 ha.nil))))
theorem L7_step (text3 : ByteArray) (a4 : W.Sl) (out7 : ByteArray) (i8 : Int) (w : World) (R : W.Post) (h : S8 text3 a4 out7 i8 w R) : L7 text3 a4 out7 i8 w R :=
  W.LP.step (n := (W.cx 156)) (c := C14) (E := [(3, .string text3), (4, a4.v), (7, .string out7), (8, .int .i64 i8)]) (w := w) (W.WP.seq (c := C14) (x := C90) (y := C16) (by kernel_rfl) (KE_S8_ok R _ _ (Eq.mp (by kernel_rfl) h)))
noncomputable def C95 : Code := W.Code.fst C11
/-- law.go:153 -/
abbrev S6 (text3 : ByteArray) (a4 : W.Sl) (out7 : ByteArray) (w : World) (R : W.Post) : Prop :=
  L7 text3 a4 out7 0 w R
def KE_S6 (E : W.Env) (w : World) (R : W.Post) : Prop := W.asStr (W.Env.get? E 3) fun text3 => W.asSlice (W.Env.get? E 4) fun a4 => W.asStr (W.Env.get? E 7) fun out7 => S6 text3 a4 out7 w R
theorem KE_S6_ok (R : W.Post) (E : W.Env) (w : World) (h : KE_S6 E w R) : W.WP Try.prog (W.cx 156) C11 (Q1 R) E w := by
  obtain ⟨text3, hq3, h1⟩ := W.asStr_elim h
  obtain ⟨a4, hq4, h2⟩ := W.asSlice_elim h1
  obtain ⟨out7, hq7, h3⟩ := W.asStr_elim h2
  exact fun a ha => W.WP.at (n := (W.cx 156)) (E := [(3, .string text3), (4, a4.v), (7, .string out7)]) (W.WP.seq (c := C11) (x := C95) (y := C12) (by kernel_rfl) <| W.WP.reg (c := C95) (fun E w => KE_L7 E w R) (by kernel_rfl) (Eq.mp (by kernel_rfl) h3) fun _ _ a hA hK => (W.WP.block (c := C12) (x := C13) (id := 0) (by kernel_rfl) (W.WP.loop (c := C13) (x := C14) (by kernel_rfl) (KE_L7_ok R _ _ hK))) a hA) (ha.cons hq3 (ha.cons hq4 (ha.cons hq7 ha.nil)))
noncomputable def C96 : Code := W.Code.fst C7
/-- law.go:152 -/
abbrev S5 (text3 : ByteArray) (a4 : W.Sl) (w : World) (R : W.Post) : Prop :=
  S6 text3 a4 (ByteArray.mk #[]) w R
def KE_S5 (E : W.Env) (w : World) (R : W.Post) : Prop := W.asStr (W.Env.get? E 3) fun text3 => W.asSlice (W.Env.get? E 4) fun a4 => S5 text3 a4 w R
theorem KE_S5_ok (R : W.Post) (E : W.Env) (w : World) (h : KE_S5 E w R) : W.WP Try.prog (W.cx 156) C7 (Q16 R) E w := by
  obtain ⟨text3, hq3, h1⟩ := W.asStr_elim h
  obtain ⟨a4, hq4, h2⟩ := W.asSlice_elim h1
  exact fun a ha => W.WP.at (n := (W.cx 156)) (E := [(3, .string text3), (4, a4.v)]) (W.WP.seq (c := C7) (x := C96) (y := C10) (by kernel_rfl) <| W.WP.reg (c := C96) (fun E w => KE_S6 E w R) (by kernel_rfl) (Eq.mp (by kernel_rfl) h2) fun _ _ a hA hK => (W.WP.seq (c := C10) (x := C11) (y := C15) (by kernel_rfl) (KE_S6_ok R _ _ hK)) a hA) (ha.cons hq3 (ha.cons hq4 ha.nil))
noncomputable def C97 : Code := W.Code.fst C4
noncomputable def C98 : Code := W.Code.snd C5
/-- law.go:149 -/
abbrev S3 (text3 : ByteArray) (a4 : W.Sl) (e6 : Int) (w : World) (R : W.Post) : Prop :=
  W.sel (e6 != 0) (S4  w R) (W.sel (((a4.n : Nat) : Int) == 0) (S4  w R) ((0 : Int) ≤ (IntKind.wrap .i64 (((a4.n : Nat) : Int) - 1)) ∧ (IntKind.wrap .i64 (((a4.n : Nat) : Int) - 1)) < ((a4.n : Nat) : Int) ∧ W.optP a4.a fun t36_p => ∃ t38 : Int, w.cell? ((t36_p.add (Int.toNat (IntKind.wrap .i64 (((a4.n : Nat) : Int) - 1)) * 3)).add 0) = some (.int .i64 t38) ∧ 
  W.sel (t38 != 6) (S4  w R) (S5 text3 a4 w R)))
def KE_S3 (E : W.Env) (w : World) (R : W.Post) : Prop := W.asStr (W.Env.get? E 3) fun text3 => W.asSlice (W.Env.get? E 4) fun a4 => W.asInt .i64 (W.Env.get? E 6) fun e6 => S3 text3 a4 e6 w R
theorem KE_S3_ok (R : W.Post) (E : W.Env) (w : World) (h : KE_S3 E w R) : W.WP Try.prog (W.cx 156) C4 (Q0 R) E w := by
  obtain ⟨text3, hq3, h1⟩ := W.asStr_elim h
  obtain ⟨a4, hq4, h2⟩ := W.asSlice_elim h1
  obtain ⟨e6, hq6, h3⟩ := W.asInt_elim h2
  exact fun a ha => W.WP.at (n := (W.cx 156)) (E := [(3, .string text3), (4, a4.v), (6, .int .i64 e6)]) (W.WP.seq (c := C4) (x := C97) (y := C5) (by kernel_rfl) <| W.WP.reg (c := C97) (fun E w => W.condK (W.Env.val E (.tmp 40)) (KE_S4 E w R) (KE_S5 E w R)) (by kernel_rfl) (Eq.mp (by kernel_rfl) h3) fun _ _ a hA hK => (W.WP.condK (c := C5) (x := C6) (y := C98) (o := .tmp 40) (by kernel_rfl) (fun hK => (KE_S4_ok R _ _ hK)) (fun hK => (W.WP.skip (c := C98) (by kernel_rfl) fun a hA => (KE_S5_ok R _ _ hK) a hA)) hK) a hA) (ha.cons hq3 (ha.cons hq4 (ha.cons hq6 ha.nil)))
noncomputable def C99 : Code := W.Code.fst C2
/-- law.go:148 -/
abbrev S2 (text3 : ByteArray) (w : World) (R : W.Post) : Prop :=
  Calls Try.prog n_lexer_Tokens #[.string text3] w fun r_ w1 => ∃ t20_0 : W.Sl, ∃ t20_1 : Int, ∃ t20_2 : Int, r_ = .returned (.tuple #[t20_0.v, .int .i64 t20_1, .int .i64 t20_2]) ∧ 
  S3 text3 t20_0 t20_2 w1 R
def KE_S2 (E : W.Env) (w : World) (R : W.Post) : Prop := W.asStr (W.Env.get? E 3) fun text3 => S2 text3 w R
theorem KE_S2_ok (R : W.Post) (E : W.Env) (w : World) (h : KE_S2 E w R) : W.WP Try.prog (W.cx 156) C2 (Q16 R) E w := by
  obtain ⟨text3, hq3, h1⟩ := W.asStr_elim h
  exact fun a ha => W.WP.at (n := (W.cx 156)) (E := [(3, .string text3)]) (W.WP.seq (c := C2) (x := C99) (y := C3) (by kernel_rfl) <| W.WP.reg (c := C99) (fun E w => KE_S3 E w R) (by kernel_rfl) (Eq.mp (by kernel_rfl) h1) fun _ _ a hA hK => (W.WP.seq (c := C3) (x := C4) (y := C7) (by kernel_rfl) (KE_S3_ok R _ _ hK)) a hA) (ha.cons hq3 ha.nil)
noncomputable def C100 : Code := W.Code.fst C1
/-- law.go:147 -/
abbrev S1 (l0 : W.Sl) (w : World) (R : W.Post) : Prop :=
  Calls Try.prog n_enthymemeref09_Good #[l0.v, .int .i64 14] w fun r_ w1 => ∃ t17 : ByteArray, r_ = .returned (.string t17) ∧ 
  S2 t17 w1 R
def KE_S1 (E : W.Env) (w : World) (R : W.Post) : Prop := W.asSlice (W.Env.get? E 0) fun l0 => S1 l0 w R
theorem KE_S1_ok (R : W.Post) (E : W.Env) (w : World) (h : KE_S1 E w R) : W.WP Try.prog (W.cx 156) C1 (Q16 R) E w := by
  obtain ⟨l0, hq0, h1⟩ := W.asSlice_elim h
  exact fun a ha => W.WP.at (n := (W.cx 156)) (E := [(0, l0.v)]) (W.WP.seq (c := C1) (x := C100) (y := C2) (by kernel_rfl) <| W.WP.reg (c := C100) (fun E w => KE_S2 E w R) (by kernel_rfl) (Eq.mp (by kernel_rfl) h1) fun _ _ a hA hK => (KE_S2_ok R _ _ hK) a hA) (ha.cons hq0 ha.nil)
noncomputable def C101 : Code := W.Code.fst C0
/-- law.go:146 -/
abbrev S0 (l0 : W.Sl) (w : World) (R : W.Post) : Prop :=
  S1 l0 w R
def KE_S0 (E : W.Env) (w : World) (R : W.Post) : Prop := W.asSlice (W.Env.get? E 0) fun l0 => S0 l0 w R
theorem KE_S0_ok (R : W.Post) (E : W.Env) (w : World) (h : KE_S0 E w R) : W.WP Try.prog (W.cx 156) C0 (Q16 R) E w := by
  obtain ⟨l0, hq0, h1⟩ := W.asSlice_elim h
  exact fun a ha => W.WP.at (n := (W.cx 156)) (E := [(0, l0.v)]) (W.WP.seq (c := C0) (x := C101) (y := C1) (by kernel_rfl) <| W.WP.reg (c := C101) (fun E w => KE_S1 E w R) (by kernel_rfl) (Eq.mp (by kernel_rfl) h1) fun _ _ a hA hK => (KE_S1_ok R _ _ hK) a hA) (ha.cons hq0 ha.nil)
/-- enthymeme/enthymemelaw09.LexerWrites -/
theorem ok (l0 : W.Sl) (w : World) (R : W.Post) (h : S0 l0 w R) : Calls Try.prog n_enthymemelaw09_LexerWrites #[l0.v] w R :=
  W.calls_of_WP' (fn := Try.f7) (c := C0) (args := [l0.v]) (by kernel_rfl) (by kernel_rfl) (by kernel_rfl) (KE_S0_ok R _ _ (Eq.mp (by kernel_rfl) h))
end enthymemelaw09_LexerWrites
end Go.Proofs.Ytemagdpieebjlaa

/- Printed by a program of ours (vcgen.py) from the dump: the conditions of the functions, and that they suffice. -/
import Derived.Test.YtemagdpieebjlaaVR
set_option linter.unusedVariables false
set_option maxRecDepth 100000
namespace Go.Proofs.Ytemagdpieebjlaa
open Go
namespace enthymemelaw09_LexerSpaces
noncomputable def C0 : Code := (Try.f4.body).getD .skip
noncomputable def C1 : Code := W.Code.snd C0
noncomputable def C2 : Code := W.Code.snd C1
noncomputable def C3 : Code := W.Code.snd C2
noncomputable def C4 : Code := W.Code.snd C3
noncomputable def C5 : Code := W.Code.snd C4
noncomputable def C6 : Code := W.Code.fst C5
noncomputable def C7 : Code := W.Code.snd C6
noncomputable def C8 : Code := W.Code.fst C7
noncomputable def C9 : Code := W.Code.fst C8
noncomputable def C10 : Code := W.Code.snd C5
abbrev Q0 (R : W.Post) : Exit → Act → World → Prop := (Exit.then (W.wpx Try.prog (W.cx 170) C10 (bodyPost Try.prog Try.f4 R)) (bodyPost Try.prog Try.f4 R))
abbrev Q1 (R : W.Post) : Exit → Act → World → Prop := (Exit.inBlock 0 (Q0 R))
/-- the head of the loop, law.go:74 -/
def L6 (text5 more6 wide7 : ByteArray) (inside8 : Bool) (i9 : Int) (w : World) (R : W.Post) : Prop := W.LP Try.prog (W.cx 170) C9 (Q1 R) [(5, .string text5), (6, .string more6), (7, .string wide7), (8, .bool inside8), (9, .int .i64 i9)] w
def KE_L6 (E : W.Env) (w : World) (R : W.Post) : Prop := W.asStr (W.Env.get? E 5) fun text5 => W.asStr (W.Env.get? E 6) fun more6 => W.asStr (W.Env.get? E 7) fun wide7 => W.asBool' (W.Env.get? E 8) fun inside8 => W.asInt .i64 (W.Env.get? E 9) fun i9 => L6 text5 more6 wide7 inside8 i9 w R
theorem KE_L6_ok (R : W.Post) (E : W.Env) (w : World) (h : KE_L6 E w R) : W.LP Try.prog (W.cx 170) C9 (Q1 R) E w := by
  obtain ⟨text5, hq5, h1⟩ := W.asStr_elim h
  obtain ⟨more6, hq6, h2⟩ := W.asStr_elim h1
  obtain ⟨wide7, hq7, h3⟩ := W.asStr_elim h2
  obtain ⟨inside8, hq8, h4⟩ := W.asBool_elim h3
  obtain ⟨i9, hq9, h5⟩ := W.asInt_elim h4
  intro a ha
  exact h5 a (ha.cons hq5 (ha.cons hq6 (ha.cons hq7 (ha.cons hq8 (ha.cons hq9 ha.nil)))))
noncomputable def C11 : Code := W.Code.snd C9
noncomputable def C12 : Code := W.Code.snd C11
abbrev Q2 (R : W.Post) : Exit → Act → World → Prop := (Exit.then (W.LoopWP Try.prog (W.cx 170) C9 (Q1 R)) (Q1 R))
/-- law.go:74 -/
abbrev S13 (text5 more6 wide7 : ByteArray) (inside8 : Bool) (i9 : Int) (w : World) (R : W.Post) : Prop :=
  L6 text5 more6 wide7 inside8 (IntKind.wrap .i64 (i9 + 1)) w R
def KE_S13 (E : W.Env) (w : World) (R : W.Post) : Prop := W.asStr (W.Env.get? E 5) fun text5 => W.asStr (W.Env.get? E 6) fun more6 => W.asStr (W.Env.get? E 7) fun wide7 => W.asBool' (W.Env.get? E 8) fun inside8 => W.asInt .i64 (W.Env.get? E 9) fun i9 => S13 text5 more6 wide7 inside8 i9 w R
theorem KE_S13_ok (R : W.Post) (E : W.Env) (w : World) (h : KE_S13 E w R) : W.WP Try.prog (W.cx 170) C12 (Q2 R) E w := by
  obtain ⟨text5, hq5, h1⟩ := W.asStr_elim h
  obtain ⟨more6, hq6, h2⟩ := W.asStr_elim h1
  obtain ⟨wide7, hq7, h3⟩ := W.asStr_elim h2
  obtain ⟨inside8, hq8, h4⟩ := W.asBool_elim h3
  obtain ⟨i9, hq9, h5⟩ := W.asInt_elim h4
  exact fun a ha => W.WP.at (n := (W.cx 170)) (E := [(5, .string text5), (6, .string more6), (7, .string wide7), (8, .bool inside8), (9, .int .i64 i9)]) (W.WP.reg (c := C12) (fun E w => KE_L6 E w R) (by kernel_rfl) (Eq.mp (by kernel_rfl) h5) fun _ _ a hA hK => KE_L6_ok R _ _ hK a hA) (ha.cons hq5 (ha.cons hq6 (ha.cons hq7 (ha.cons hq8 (ha.cons hq9 ha.nil)))))
noncomputable def C13 : Code := W.Code.fst C11
noncomputable def C14 : Code := W.Code.fst C13
noncomputable def C15 : Code := W.Code.snd C14
noncomputable def C16 : Code := W.Code.snd C15
noncomputable def C17 : Code := W.Code.snd C16
noncomputable def C18 : Code := W.Code.fst C17
abbrev Q3 (R : W.Post) : Exit → Act → World → Prop := (Exit.then (W.wpx Try.prog (W.cx 170) C12 (Exit.then (W.LoopWP Try.prog (W.cx 170) C9 (Q1 R)) (Q1 R))) (Exit.then (W.LoopWP Try.prog (W.cx 170) C9 (Q1 R)) (Q1 R)))
abbrev Q4 (R : W.Post) : Exit → Act → World → Prop := (Exit.inBlock 1 (Q3 R))
/-- law.go:80 -/
abbrev S12 (text5 more6 wide7 : ByteArray) (inside8 : Bool) (i9 : Int) (w : World) (R : W.Post) : Prop :=
  ¬ (((wide7.size + more6.size : Nat) : Int) > IntKind.i64.max) ∧ S13 text5 more6 (wide7 ++ more6) inside8 i9 w R
def KE_S12 (E : W.Env) (w : World) (R : W.Post) : Prop := W.asStr (W.Env.get? E 5) fun text5 => W.asStr (W.Env.get? E 6) fun more6 => W.asStr (W.Env.get? E 7) fun wide7 => W.asBool' (W.Env.get? E 8) fun inside8 => W.asInt .i64 (W.Env.get? E 9) fun i9 => S12 text5 more6 wide7 inside8 i9 w R
theorem KE_S12_ok (R : W.Post) (E : W.Env) (w : World) (h : KE_S12 E w R) : W.WP Try.prog (W.cx 170) C18 (Q4 R) E w := by
  obtain ⟨text5, hq5, h1⟩ := W.asStr_elim h
  obtain ⟨more6, hq6, h2⟩ := W.asStr_elim h1
  obtain ⟨wide7, hq7, h3⟩ := W.asStr_elim h2
  obtain ⟨inside8, hq8, h4⟩ := W.asBool_elim h3
  obtain ⟨i9, hq9, h5⟩ := W.asInt_elim h4
  exact fun a ha => W.WP.at (n := (W.cx 170)) (E := [(5, .string text5), (6, .string more6), (7, .string wide7), (8, .bool inside8), (9, .int .i64 i9)]) (W.WP.reg (c := C18) (fun E w => KE_S13 E w R) (by kernel_rfl) (Eq.mp (by kernel_rfl) h5) fun _ _ a hA hK => (KE_S13_ok R _ _ hK) a hA) (ha.cons hq5 (ha.cons hq6 (ha.cons hq7 (ha.cons hq8 (ha.cons hq9 ha.nil)))))
noncomputable def C19 : Code := W.Code.fst C16
noncomputable def C20 : Code := W.Code.snd C17
/-- law.go:79 -/
abbrev S11 (text5 more6 wide7 : ByteArray) (inside8 : Bool) (i9 : Int) (w : World) (R : W.Post) : Prop :=
  (0 : Int) ≤ i9 ∧ ∃ t57_b : UInt8, text5[Int.toNat i9]? = some t57_b ∧ W.sel (((t57_b.toNat : Nat) : Int) == 10) (W.sel (!inside8) (S12 text5 more6 wide7 inside8 i9 w R) (S13 text5 more6 wide7 inside8 i9 w R)) (S13 text5 more6 wide7 inside8 i9 w R)
def KE_S11 (E : W.Env) (w : World) (R : W.Post) : Prop := W.asStr (W.Env.get? E 5) fun text5 => W.asStr (W.Env.get? E 6) fun more6 => W.asStr (W.Env.get? E 7) fun wide7 => W.asBool' (W.Env.get? E 8) fun inside8 => W.asInt .i64 (W.Env.get? E 9) fun i9 => S11 text5 more6 wide7 inside8 i9 w R
theorem KE_S11_ok (R : W.Post) (E : W.Env) (w : World) (h : KE_S11 E w R) : W.WP Try.prog (W.cx 170) C16 (Q4 R) E w := by
  obtain ⟨text5, hq5, h1⟩ := W.asStr_elim h
  obtain ⟨more6, hq6, h2⟩ := W.asStr_elim h1
  obtain ⟨wide7, hq7, h3⟩ := W.asStr_elim h2
  obtain ⟨inside8, hq8, h4⟩ := W.asBool_elim h3
  obtain ⟨i9, hq9, h5⟩ := W.asInt_elim h4
  exact fun a ha => W.WP.at (n := (W.cx 170)) (E := [(5, .string text5), (6, .string more6), (7, .string wide7), (8, .bool inside8), (9, .int .i64 i9)]) (W.WP.seq (c := C16) (x := C19) (y := C17) (by kernel_rfl) <| W.WP.reg (c := C19) (fun E w => W.condK (W.Env.val E (.tmp 62)) (KE_S12 E w R) (KE_S13 E w R)) (by kernel_rfl) (Eq.mp (by kernel_rfl) h5) fun _ _ a hA hK => (W.WP.condK (c := C17) (x := C18) (y := C20) (o := .tmp 62) (by kernel_rfl) (fun hK => (KE_S12_ok R _ _ hK)) (fun hK => (W.WP.skip (c := C20) (by kernel_rfl) fun a hA => (KE_S13_ok R _ _ hK) a hA)) hK) a hA) (ha.cons hq5 (ha.cons hq6 (ha.cons hq7 (ha.cons hq8 (ha.cons hq9 ha.nil)))))
noncomputable def C21 : Code := W.Code.fst C15
noncomputable def C22 : Code := W.Code.snd C21
noncomputable def C23 : Code := W.Code.fst C22
abbrev Q5 (R : W.Post) : Exit → Act → World → Prop := (Exit.then (W.wpx Try.prog (W.cx 170) C16 (Exit.inBlock 1 (Q3 R))) (Exit.inBlock 1 (Q3 R)))
/-- law.go:77 -/
abbrev S10 (text5 more6 wide7 : ByteArray) (inside8 : Bool) (i9 : Int) (w : World) (R : W.Post) : Prop :=
  S11 text5 more6 wide7 (!inside8) i9 w R
def KE_S10 (E : W.Env) (w : World) (R : W.Post) : Prop := W.asStr (W.Env.get? E 5) fun text5 => W.asStr (W.Env.get? E 6) fun more6 => W.asStr (W.Env.get? E 7) fun wide7 => W.asBool' (W.Env.get? E 8) fun inside8 => W.asInt .i64 (W.Env.get? E 9) fun i9 => S10 text5 more6 wide7 inside8 i9 w R
theorem KE_S10_ok (R : W.Post) (E : W.Env) (w : World) (h : KE_S10 E w R) : W.WP Try.prog (W.cx 170) C23 (Q5 R) E w := by
  obtain ⟨text5, hq5, h1⟩ := W.asStr_elim h
  obtain ⟨more6, hq6, h2⟩ := W.asStr_elim h1
  obtain ⟨wide7, hq7, h3⟩ := W.asStr_elim h2
  obtain ⟨inside8, hq8, h4⟩ := W.asBool_elim h3
  obtain ⟨i9, hq9, h5⟩ := W.asInt_elim h4
  exact fun a ha => W.WP.at (n := (W.cx 170)) (E := [(5, .string text5), (6, .string more6), (7, .string wide7), (8, .bool inside8), (9, .int .i64 i9)]) (W.WP.reg (c := C23) (fun E w => KE_S11 E w R) (by kernel_rfl) (Eq.mp (by kernel_rfl) h5) fun _ _ a hA hK => (KE_S11_ok R _ _ hK) a hA) (ha.cons hq5 (ha.cons hq6 (ha.cons hq7 (ha.cons hq8 (ha.cons hq9 ha.nil)))))
noncomputable def C24 : Code := W.Code.fst C21
noncomputable def C25 : Code := W.Code.snd C22
/-- law.go:76 -/
abbrev S9 (text5 more6 wide7 : ByteArray) (inside8 : Bool) (i9 : Int) (w : World) (R : W.Post) : Prop :=
  (0 : Int) ≤ i9 ∧ ∃ t40_b : UInt8, text5[Int.toNat i9]? = some t40_b ∧ W.sel (((t40_b.toNat : Nat) : Int) == 34) (W.sel (i9 == 0) (S10 text5 more6 wide7 inside8 i9 w R) ((0 : Int) ≤ (IntKind.wrap .i64 (i9 - 1)) ∧ ∃ t49_b : UInt8, text5[Int.toNat (IntKind.wrap .i64 (i9 - 1))]? = some t49_b ∧ W.sel (((t49_b.toNat : Nat) : Int) != 92) (S10 text5 more6 wide7 inside8 i9 w R) (S11 text5 more6 wide7 inside8 i9 w R))) (S11 text5 more6 wide7 inside8 i9 w R)
def KE_S9 (E : W.Env) (w : World) (R : W.Post) : Prop := W.asStr (W.Env.get? E 5) fun text5 => W.asStr (W.Env.get? E 6) fun more6 => W.asStr (W.Env.get? E 7) fun wide7 => W.asBool' (W.Env.get? E 8) fun inside8 => W.asInt .i64 (W.Env.get? E 9) fun i9 => S9 text5 more6 wide7 inside8 i9 w R
theorem KE_S9_ok (R : W.Post) (E : W.Env) (w : World) (h : KE_S9 E w R) : W.WP Try.prog (W.cx 170) C21 (Q5 R) E w := by
  obtain ⟨text5, hq5, h1⟩ := W.asStr_elim h
  obtain ⟨more6, hq6, h2⟩ := W.asStr_elim h1
  obtain ⟨wide7, hq7, h3⟩ := W.asStr_elim h2
  obtain ⟨inside8, hq8, h4⟩ := W.asBool_elim h3
  obtain ⟨i9, hq9, h5⟩ := W.asInt_elim h4
  exact fun a ha => W.WP.at (n := (W.cx 170)) (E := [(5, .string text5), (6, .string more6), (7, .string wide7), (8, .bool inside8), (9, .int .i64 i9)]) (W.WP.seq (c := C21) (x := C24) (y := C22) (by kernel_rfl) <| W.WP.reg (c := C24) (fun E w => W.condK (W.Env.val E (.tmp 52)) (KE_S10 E w R) (KE_S11 E w R)) (by kernel_rfl) (Eq.mp (by kernel_rfl) h5) fun _ _ a hA hK => (W.WP.condK (c := C22) (x := C23) (y := C25) (o := .tmp 52) (by kernel_rfl) (fun hK => (KE_S10_ok R _ _ hK)) (fun hK => (W.WP.skip (c := C25) (by kernel_rfl) fun a hA => (KE_S11_ok R _ _ hK) a hA)) hK) a hA) (ha.cons hq5 (ha.cons hq6 (ha.cons hq7 (ha.cons hq8 (ha.cons hq9 ha.nil)))))
noncomputable def C26 : Code := W.Code.fst C14
/-- law.go:75 -/
abbrev S8 (text5 more6 wide7 : ByteArray) (inside8 : Bool) (i9 : Int) (w : World) (R : W.Post) : Prop :=
  (0 : Int) ≤ (IntKind.wrap .i64 (i9 + 1)) ∧ (IntKind.wrap .i64 (i9 + 1)) ≤ ((text5.size : Nat) : Int) ∧ (0 : Int) ≤ i9 ∧ i9 ≤ (((Int.toNat (IntKind.wrap .i64 (i9 + 1))) : Nat) : Int) ∧ ¬ (((wide7.size + (text5.extract (Int.toNat i9) (Int.toNat (IntKind.wrap .i64 (i9 + 1)))).size : Nat) : Int) > IntKind.i64.max) ∧ S9 text5 more6 (wide7 ++ (text5.extract (Int.toNat i9) (Int.toNat (IntKind.wrap .i64 (i9 + 1))))) inside8 i9 w R
def KE_S8 (E : W.Env) (w : World) (R : W.Post) : Prop := W.asStr (W.Env.get? E 5) fun text5 => W.asStr (W.Env.get? E 6) fun more6 => W.asStr (W.Env.get? E 7) fun wide7 => W.asBool' (W.Env.get? E 8) fun inside8 => W.asInt .i64 (W.Env.get? E 9) fun i9 => S8 text5 more6 wide7 inside8 i9 w R
theorem KE_S8_ok (R : W.Post) (E : W.Env) (w : World) (h : KE_S8 E w R) : W.WP Try.prog (W.cx 170) C14 (Q4 R) E w := by
  obtain ⟨text5, hq5, h1⟩ := W.asStr_elim h
  obtain ⟨more6, hq6, h2⟩ := W.asStr_elim h1
  obtain ⟨wide7, hq7, h3⟩ := W.asStr_elim h2
  obtain ⟨inside8, hq8, h4⟩ := W.asBool_elim h3
  obtain ⟨i9, hq9, h5⟩ := W.asInt_elim h4
  exact fun a ha => W.WP.at (n := (W.cx 170)) (E := [(5, .string text5), (6, .string more6), (7, .string wide7), (8, .bool inside8), (9, .int .i64 i9)]) (W.WP.seq (c := C14) (x := C26) (y := C15) (by kernel_rfl) <| W.WP.reg (c := C26) (fun E w => KE_S9 E w R) (by kernel_rfl) (Eq.mp (by kernel_rfl) h5) fun _ _ a hA hK => (W.WP.seq (c := C15) (x := C21) (y := C16) (by kernel_rfl) (KE_S9_ok R _ _ hK)) a hA) (ha.cons hq5 (ha.cons hq6 (ha.cons hq7 (ha.cons hq8 (ha.cons hq9 ha.nil)))))
noncomputable def C27 : Code := W.Code.snd C10
noncomputable def C28 : Code := W.Code.snd C27
noncomputable def C29 : Code := W.Code.fst C28
noncomputable def C30 : Code := W.Code.snd C29
noncomputable def C31 : Code := W.Code.fst C30
noncomputable def C32 : Code := W.Code.snd C28
abbrev Q6 (R : W.Post) : Exit → Act → World → Prop := (Exit.then (W.wpx Try.prog (W.cx 170) C32 (bodyPost Try.prog Try.f4 R)) (bodyPost Try.prog Try.f4 R))
noncomputable def C33 : Code := W.Code.fst C31
noncomputable def C34 : Code := W.Code.snd C31
/-- law.go:86 -/
abbrev S17  (w : World) (R : W.Post) : Prop :=
  R (.returned (.bool false)) w
def KE_S17 (E : W.Env) (w : World) (R : W.Post) : Prop := S17  w R
theorem KE_S17_ok (R : W.Post) (E : W.Env) (w : World) (h : KE_S17 E w R) : W.WP Try.prog (W.cx 170) C31 (Q6 R) E w := by
  exact fun a ha => W.WP.at (n := (W.cx 170)) (E := []) (W.WP.seq (c := C31) (x := C33) (y := C34) (by kernel_rfl) <| W.WP.reg (c := C33) (fun E w => W.retVC Try.prog Try.f4 E w (fun v => R (.returned v) w)) (by kernel_rfl) (Eq.mp (by kernel_rfl) h) fun _ _ a hA hK => (W.WP.ret (c := C34) (by kernel_rfl) fun a hA => W.retVC_sound hA hK) a hA) ha.nil
noncomputable def C35 : Code := W.Code.fst C32
noncomputable def C36 : Code := W.Code.snd C35
noncomputable def C37 : Code := W.Code.fst C36
noncomputable def C38 : Code := W.Code.fst C37
noncomputable def C39 : Code := W.Code.snd C32
abbrev Q7 (R : W.Post) : Exit → Act → World → Prop := (Exit.then (W.wpx Try.prog (W.cx 170) C39 (bodyPost Try.prog Try.f4 R)) (bodyPost Try.prog Try.f4 R))
abbrev Q8 (R : W.Post) : Exit → Act → World → Prop := (Exit.inBlock 2 (Q7 R))
/-- the head of the loop, law.go:88 -/
def L19 (more6 : ByteArray) (a10 b13 : W.Sl) (i16 : Int) (w : World) (R : W.Post) : Prop := W.LP Try.prog (W.cx 170) C38 (Q8 R) [(6, .string more6), (10, a10.v), (13, b13.v), (16, .int .i64 i16)] w
def KE_L19 (E : W.Env) (w : World) (R : W.Post) : Prop := W.asStr (W.Env.get? E 6) fun more6 => W.asSlice (W.Env.get? E 10) fun a10 => W.asSlice (W.Env.get? E 13) fun b13 => W.asInt .i64 (W.Env.get? E 16) fun i16 => L19 more6 a10 b13 i16 w R
theorem KE_L19_ok (R : W.Post) (E : W.Env) (w : World) (h : KE_L19 E w R) : W.LP Try.prog (W.cx 170) C38 (Q8 R) E w := by
  obtain ⟨more6, hq6, h1⟩ := W.asStr_elim h
  obtain ⟨a10, hq10, h2⟩ := W.asSlice_elim h1
  obtain ⟨b13, hq13, h3⟩ := W.asSlice_elim h2
  obtain ⟨i16, hq16, h4⟩ := W.asInt_elim h3
  intro a ha
  exact h4 a (ha.cons hq6 (ha.cons hq10 (ha.cons hq13 (ha.cons hq16 ha.nil))))
noncomputable def C40 : Code := W.Code.snd C38
noncomputable def C41 : Code := W.Code.fst C40
noncomputable def C42 : Code := W.Code.fst C41
noncomputable def C43 : Code := W.Code.snd C42
noncomputable def C44 : Code := W.Code.fst C43
noncomputable def C45 : Code := W.Code.snd C40
abbrev Q9 (R : W.Post) : Exit → Act → World → Prop := (Exit.then (W.wpx Try.prog (W.cx 170) C45 (Exit.then (W.LoopWP Try.prog (W.cx 170) C38 (Q8 R)) (Q8 R))) (Exit.then (W.LoopWP Try.prog (W.cx 170) C38 (Q8 R)) (Q8 R)))
abbrev Q10 (R : W.Post) : Exit → Act → World → Prop := (Exit.inBlock 3 (Q9 R))
noncomputable def C46 : Code := W.Code.fst C44
noncomputable def C47 : Code := W.Code.snd C44
/-- law.go:90 -/
abbrev S22  (w : World) (R : W.Post) : Prop :=
  R (.returned (.bool false)) w
def KE_S22 (E : W.Env) (w : World) (R : W.Post) : Prop := S22  w R
theorem KE_S22_ok (R : W.Post) (E : W.Env) (w : World) (h : KE_S22 E w R) : W.WP Try.prog (W.cx 170) C44 (Q10 R) E w := by
  exact fun a ha => W.WP.at (n := (W.cx 170)) (E := []) (W.WP.seq (c := C44) (x := C46) (y := C47) (by kernel_rfl) <| W.WP.reg (c := C46) (fun E w => W.retVC Try.prog Try.f4 E w (fun v => R (.returned v) w)) (by kernel_rfl) (Eq.mp (by kernel_rfl) h) fun _ _ a hA hK => (W.WP.ret (c := C47) (by kernel_rfl) fun a hA => W.retVC_sound hA hK) a hA) ha.nil
abbrev Q11 (R : W.Post) : Exit → Act → World → Prop := (Exit.then (W.LoopWP Try.prog (W.cx 170) C38 (Q8 R)) (Q8 R))
/-- law.go:88 -/
abbrev S23 (more6 : ByteArray) (a10 b13 : W.Sl) (i16 : Int) (w : World) (R : W.Post) : Prop :=
  L19 more6 a10 b13 (IntKind.wrap .i64 (i16 + 1)) w R
def KE_S23 (E : W.Env) (w : World) (R : W.Post) : Prop := W.asStr (W.Env.get? E 6) fun more6 => W.asSlice (W.Env.get? E 10) fun a10 => W.asSlice (W.Env.get? E 13) fun b13 => W.asInt .i64 (W.Env.get? E 16) fun i16 => S23 more6 a10 b13 i16 w R
theorem KE_S23_ok (R : W.Post) (E : W.Env) (w : World) (h : KE_S23 E w R) : W.WP Try.prog (W.cx 170) C45 (Q11 R) E w := by
  obtain ⟨more6, hq6, h1⟩ := W.asStr_elim h
  obtain ⟨a10, hq10, h2⟩ := W.asSlice_elim h1
  obtain ⟨b13, hq13, h3⟩ := W.asSlice_elim h2
  obtain ⟨i16, hq16, h4⟩ := W.asInt_elim h3
  exact fun a ha => W.WP.at (n := (W.cx 170)) (E := [(6, .string more6), (10, a10.v), (13, b13.v), (16, .int .i64 i16)]) (W.WP.reg (c := C45) (fun E w => KE_L19 E w R) (by kernel_rfl) (Eq.mp (by kernel_rfl) h4) fun _ _ a hA hK => KE_L19_ok R _ _ hK a hA) (ha.cons hq6 (ha.cons hq10 (ha.cons hq13 (ha.cons hq16 ha.nil))))
noncomputable def C48 : Code := W.Code.fst C42
noncomputable def C49 : Code := W.Code.snd C43
/-- law.go:89 -/
abbrev S21 (more6 : ByteArray) (a10 b13 : W.Sl) (i16 : Int) (w : World) (R : W.Post) : Prop :=
  W.drV w fun w1 => (0 : Int) ≤ i16 ∧ i16 < ((a10.n : Nat) : Int) ∧ W.optP a10.a fun t99_p => ∃ t101 : Int, w1.cell? ((t99_p.add (Int.toNat i16 * 3)).add 0) = some (.int .i64 t101) ∧ 
  (0 : Int) ≤ i16 ∧ i16 < ((b13.n : Nat) : Int) ∧ W.optP b13.a fun t104_p => ∃ t106 : Int, w1.cell? ((t104_p.add (Int.toNat i16 * 3)).add 0) = some (.int .i64 t106) ∧ 
  W.sel (t101 != t106) (S22  w1 R) ((0 : Int) ≤ i16 ∧ i16 < ((a10.n : Nat) : Int) ∧ W.optP a10.a fun t111_p => ∃ t113 : ByteArray, w1.cell? ((t111_p.add (Int.toNat i16 * 3)).add 1) = some (.string t113) ∧ 
  (0 : Int) ≤ i16 ∧ i16 < ((b13.n : Nat) : Int) ∧ W.optP b13.a fun t116_p => ∃ t118 : ByteArray, w1.cell? ((t116_p.add (Int.toNat i16 * 3)).add 1) = some (.string t118) ∧ 
  W.sel (!(t113.toList == t118.toList)) (S22  w1 R) ((0 : Int) ≤ i16 ∧ i16 < ((b13.n : Nat) : Int) ∧ W.optP b13.a fun t124_p => ∃ t126 : Int, w1.cell? ((t124_p.add (Int.toNat i16 * 3)).add 2) = some (.int .i64 t126) ∧ 
  (0 : Int) ≤ i16 ∧ i16 < ((a10.n : Nat) : Int) ∧ W.optP a10.a fun t129_p => ∃ t131 : Int, w1.cell? ((t129_p.add (Int.toNat i16 * 3)).add 2) = some (.int .i64 t131) ∧ 
  W.sel (decide (t126 < (IntKind.wrap .i64 (t131 + ((more6.size : Nat) : Int))))) (S22  w1 R) (W.sel (decide (i16 > 0)) ((0 : Int) ≤ i16 ∧ i16 < ((a10.n : Nat) : Int) ∧ W.optP a10.a fun t143_p => ∃ t145 : Int, w1.cell? ((t143_p.add (Int.toNat i16 * 3)).add 2) = some (.int .i64 t145) ∧ 
  (0 : Int) ≤ (IntKind.wrap .i64 (i16 - 1)) ∧ (IntKind.wrap .i64 (i16 - 1)) < ((a10.n : Nat) : Int) ∧ W.optP a10.a fun t149_p => ∃ t151 : Int, w1.cell? ((t149_p.add (Int.toNat (IntKind.wrap .i64 (i16 - 1)) * 3)).add 2) = some (.int .i64 t151) ∧ 
  W.sel (decide (t145 ≤ t151)) (S22  w1 R) ((0 : Int) ≤ i16 ∧ i16 < ((b13.n : Nat) : Int) ∧ W.optP b13.a fun t156_p => ∃ t158 : Int, w1.cell? ((t156_p.add (Int.toNat i16 * 3)).add 2) = some (.int .i64 t158) ∧ 
  (0 : Int) ≤ (IntKind.wrap .i64 (i16 - 1)) ∧ (IntKind.wrap .i64 (i16 - 1)) < ((b13.n : Nat) : Int) ∧ W.optP b13.a fun t162_p => ∃ t164 : Int, w1.cell? ((t162_p.add (Int.toNat (IntKind.wrap .i64 (i16 - 1)) * 3)).add 2) = some (.int .i64 t164) ∧ 
  W.sel (decide (t158 ≤ t164)) (S22  w1 R) (S23 more6 a10 b13 i16 w1 R))) (S23 more6 a10 b13 i16 w1 R))))
def KE_S21 (E : W.Env) (w : World) (R : W.Post) : Prop := W.asStr (W.Env.get? E 6) fun more6 => W.asSlice (W.Env.get? E 10) fun a10 => W.asSlice (W.Env.get? E 13) fun b13 => W.asInt .i64 (W.Env.get? E 16) fun i16 => S21 more6 a10 b13 i16 w R
theorem KE_S21_ok (R : W.Post) (E : W.Env) (w : World) (h : KE_S21 E w R) : W.WP Try.prog (W.cx 170) C42 (Q10 R) E w := by
  obtain ⟨more6, hq6, h1⟩ := W.asStr_elim h
  obtain ⟨a10, hq10, h2⟩ := W.asSlice_elim h1
  obtain ⟨b13, hq13, h3⟩ := W.asSlice_elim h2
  obtain ⟨i16, hq16, h4⟩ := W.asInt_elim h3
  exact fun a ha => W.WP.at (n := (W.cx 170)) (E := [(6, .string more6), (10, a10.v), (13, b13.v), (16, .int .i64 i16)]) (W.WP.seq (c := C42) (x := C48) (y := C43) (by kernel_rfl) <| W.WP.draw (c := C48) [0, 1, 2, 3, 4, 5, 6, 7, 8, 9, 10, 11, 12, 13, 14, 15, 16, 17, 18, 19, 20, 21, 22, 23, 24, 25, 26, 27, 28, 29, 30, 31, 32, 33, 34, 35, 36, 37, 38, 39, 40, 41, 42, 43, 44, 45, 46, 47, 48, 49, 50, 51, 52, 53, 54, 55, 56, 57, 58, 59, 60, 61, 62, 63, 64, 65, 66, 67, 68, 69, 70, 71] (fun E w => W.condK (W.Env.val E (.tmp 168)) (KE_S22 E w R) (KE_S23 E w R)) (by kernel_rfl) (Eq.mp (by kernel_rfl) h4) fun _ _ a hA hK => (W.WP.condK (c := C43) (x := C44) (y := C49) (o := .tmp 168) (by kernel_rfl) (fun hK => (KE_S22_ok R _ _ hK)) (fun hK => (W.WP.skip (c := C49) (by kernel_rfl) fun a hA => (KE_S23_ok R _ _ hK) a hA)) hK) a hA) (ha.cons hq6 (ha.cons hq10 (ha.cons hq13 (ha.cons hq16 ha.nil))))
abbrev Q12 (R : W.Post) : Exit → Act → World → Prop := (bodyPost Try.prog Try.f4 R)
noncomputable def C50 : Code := W.Code.fst C39
noncomputable def C51 : Code := W.Code.snd C39
/-- law.go:93 -/
abbrev S24  (w : World) (R : W.Post) : Prop :=
  Calls Try.prog n_enthymemelaw09_lives #[] w fun r_ w1 => ∃ t169 : Bool, r_ = .returned (.bool t169) ∧ 
  R (.returned (.bool t169)) w1
def KE_S24 (E : W.Env) (w : World) (R : W.Post) : Prop := S24  w R
theorem KE_S24_ok (R : W.Post) (E : W.Env) (w : World) (h : KE_S24 E w R) : W.WP Try.prog (W.cx 170) C39 (Q12 R) E w := by
  exact fun a ha => W.WP.at (n := (W.cx 170)) (E := []) (W.WP.seq (c := C39) (x := C50) (y := C51) (by kernel_rfl) <| W.WP.reg (c := C50) (fun E w => W.retVC Try.prog Try.f4 E w (fun v => R (.returned v) w)) (by kernel_rfl) (Eq.mp (by kernel_rfl) h) fun _ _ a hA hK => (W.WP.ret (c := C51) (by kernel_rfl) fun a hA => W.retVC_sound hA hK) a hA) ha.nil
noncomputable def C52 : Code := W.Code.fst C38
abbrev Q13 (R : W.Post) : Exit → Act → World → Prop := (Exit.then (W.wpx Try.prog (W.cx 170) C40 (Exit.then (W.LoopWP Try.prog (W.cx 170) C38 (Q8 R)) (Q8 R))) (Exit.then (W.LoopWP Try.prog (W.cx 170) C38 (Q8 R)) (Q8 R)))
noncomputable def C53 : Code := W.Code.fst C52
noncomputable def C54 : Code := W.Code.snd C52
noncomputable def C55 : Code := W.Code.fst C54
noncomputable def C56 : Code := W.Code.snd C54
/-- law.go:88 -/
abbrev S20 (more6 : ByteArray) (a10 b13 : W.Sl) (i16 : Int) (w : World) (R : W.Post) : Prop :=
  W.sel (decide (i16 < ((a10.n : Nat) : Int))) (S21 more6 a10 b13 i16 w R) (S24  w R)
def KE_S20 (E : W.Env) (w : World) (R : W.Post) : Prop := W.asStr (W.Env.get? E 6) fun more6 => W.asSlice (W.Env.get? E 10) fun a10 => W.asSlice (W.Env.get? E 13) fun b13 => W.asInt .i64 (W.Env.get? E 16) fun i16 => S20 more6 a10 b13 i16 w R
theorem KE_S20_ok (R : W.Post) (E : W.Env) (w : World) (h : KE_S20 E w R) : W.WP Try.prog (W.cx 170) C52 (Q13 R) E w := by
  obtain ⟨more6, hq6, h1⟩ := W.asStr_elim h
  obtain ⟨a10, hq10, h2⟩ := W.asSlice_elim h1
  obtain ⟨b13, hq13, h3⟩ := W.asSlice_elim h2
  obtain ⟨i16, hq16, h4⟩ := W.asInt_elim h3
  exact fun a ha => W.WP.at (n := (W.cx 170)) (E := [(6, .string more6), (10, a10.v), (13, b13.v), (16, .int .i64 i16)]) (W.WP.seq (c := C52) (x := C53) (y := C54) (by kernel_rfl) <| W.WP.reg (c := C53) (fun E w => W.condK (W.Env.val E (.tmp 94)) (KE_S21 E w R) (KE_S24 E w R)) (by kernel_rfl) (Eq.mp (by kernel_rfl) h4) fun _ _ a hA hK => (W.WP.condK (c := C54) (x := C55) (y := C56) (o := .tmp 94) (by kernel_rfl) (fun hK => (W.WP.skip (c := C55) (by kernel_rfl) fun a hA => (W.WP.seq (c := C40) (x := C41) (y := C45) (by kernel_rfl) (W.WP.block (c := C41) (x := C42) (id := 3) (by kernel_rfl) (KE_S21_ok R _ _ hK))) a hA)) (fun hK => (W.WP.exit (c := C56) (id := 2) (by kernel_rfl) fun a hA => (KE_S24_ok R _ _ hK) a hA)) hK) a hA) (ha.cons hq6 (ha.cons hq10 (ha.cons hq13 (ha.cons hq16 ha.nil))))
theorem L19_step (more6 : ByteArray) (a10 b13 : W.Sl) (i16 : Int) (w : World) (R : W.Post) (h : S20 more6 a10 b13 i16 w R) : L19 more6 a10 b13 i16 w R :=
  W.LP.step (n := (W.cx 170)) (c := C38) (E := [(6, .string more6), (10, a10.v), (13, b13.v), (16, .int .i64 i16)]) (w := w) (W.WP.seq (c := C38) (x := C52) (y := C40) (by kernel_rfl) (KE_S20_ok R _ _ (Eq.mp (by kernel_rfl) h)))
noncomputable def C57 : Code := W.Code.fst C35
/-- law.go:88 -/
abbrev S18 (more6 : ByteArray) (a10 b13 : W.Sl) (w : World) (R : W.Post) : Prop :=
  L19 more6 a10 b13 0 w R
def KE_S18 (E : W.Env) (w : World) (R : W.Post) : Prop := W.asStr (W.Env.get? E 6) fun more6 => W.asSlice (W.Env.get? E 10) fun a10 => W.asSlice (W.Env.get? E 13) fun b13 => S18 more6 a10 b13 w R
theorem KE_S18_ok (R : W.Post) (E : W.Env) (w : World) (h : KE_S18 E w R) : W.WP Try.prog (W.cx 170) C35 (Q7 R) E w := by
  obtain ⟨more6, hq6, h1⟩ := W.asStr_elim h
  obtain ⟨a10, hq10, h2⟩ := W.asSlice_elim h1
  obtain ⟨b13, hq13, h3⟩ := W.asSlice_elim h2
  exact fun a ha => W.WP.at (n := (W.cx 170)) (E := [(6, .string more6), (10, a10.v), (13, b13.v)]) (W.WP.seq (c := C35) (x := C57) (y := C36) (by kernel_rfl) <| W.WP.reg (c := C57) (fun E w => KE_L19 E w R) (by kernel_rfl) (Eq.mp (by kernel_rfl) h3) fun _ _ a hA hK => (W.WP.block (c := C36) (x := C37) (id := 2) (by kernel_rfl) (W.WP.loop (c := C37) (x := C38) (by kernel_rfl) (KE_L19_ok R _ _ hK))) a hA) (ha.cons hq6 (ha.cons hq10 (ha.cons hq13 ha.nil)))
noncomputable def C58 : Code := W.Code.fst C29
noncomputable def C59 : Code := W.Code.snd C30
/-- law.go:85 -/
abbrev S16 (more6 : ByteArray) (a10 : W.Sl) (e12 : Int) (b13 : W.Sl) (f15 : Int) (w : World) (R : W.Post) : Prop :=
  W.sel (e12 != 0) (S17  w R) (W.sel (f15 != 0) (S17  w R) (W.sel (((a10.n : Nat) : Int) != ((b13.n : Nat) : Int)) (S17  w R) (S18 more6 a10 b13 w R)))
def KE_S16 (E : W.Env) (w : World) (R : W.Post) : Prop := W.asStr (W.Env.get? E 6) fun more6 => W.asSlice (W.Env.get? E 10) fun a10 => W.asInt .i64 (W.Env.get? E 12) fun e12 => W.asSlice (W.Env.get? E 13) fun b13 => W.asInt .i64 (W.Env.get? E 15) fun f15 => S16 more6 a10 e12 b13 f15 w R
theorem KE_S16_ok (R : W.Post) (E : W.Env) (w : World) (h : KE_S16 E w R) : W.WP Try.prog (W.cx 170) C29 (Q6 R) E w := by
  obtain ⟨more6, hq6, h1⟩ := W.asStr_elim h
  obtain ⟨a10, hq10, h2⟩ := W.asSlice_elim h1
  obtain ⟨e12, hq12, h3⟩ := W.asInt_elim h2
  obtain ⟨b13, hq13, h4⟩ := W.asSlice_elim h3
  obtain ⟨f15, hq15, h5⟩ := W.asInt_elim h4
  exact fun a ha => W.WP.at (n := (W.cx 170)) (E := [(6, .string more6), (10, a10.v), (12, .int .i64 e12), (13, b13.v), (15, .int .i64 f15)]) (W.WP.seq (c := C29) (x := C58) (y := C30) (by kernel_rfl) <| W.WP.reg (c := C58) (fun E w => W.condK (W.Env.val E (.tmp 90)) (KE_S17 E w R) (KE_S18 E w R)) (by kernel_rfl) (Eq.mp (by kernel_rfl) h5) fun _ _ a hA hK => (W.WP.condK (c := C30) (x := C31) (y := C59) (o := .tmp 90) (by kernel_rfl) (fun hK => (KE_S17_ok R _ _ hK)) (fun hK => (W.WP.skip (c := C59) (by kernel_rfl) fun a hA => (W.WP.seq (c := C32) (x := C35) (y := C39) (by kernel_rfl) (KE_S18_ok R _ _ hK)) a hA)) hK) a hA) (ha.cons hq6 (ha.cons hq10 (ha.cons hq12 (ha.cons hq13 (ha.cons hq15 ha.nil)))))
noncomputable def C60 : Code := W.Code.fst C27
/-- law.go:84 -/
abbrev S15 (more6 wide7 : ByteArray) (a10 : W.Sl) (e12 : Int) (w : World) (R : W.Post) : Prop :=
  Calls Try.prog n_lexer_Tokens #[.string wide7] w fun r_ w1 => ∃ t74_0 : W.Sl, ∃ t74_1 : Int, ∃ t74_2 : Int, r_ = .returned (.tuple #[t74_0.v, .int .i64 t74_1, .int .i64 t74_2]) ∧ 
  S16 more6 a10 e12 t74_0 t74_2 w1 R
def KE_S15 (E : W.Env) (w : World) (R : W.Post) : Prop := W.asStr (W.Env.get? E 6) fun more6 => W.asStr (W.Env.get? E 7) fun wide7 => W.asSlice (W.Env.get? E 10) fun a10 => W.asInt .i64 (W.Env.get? E 12) fun e12 => S15 more6 wide7 a10 e12 w R
theorem KE_S15_ok (R : W.Post) (E : W.Env) (w : World) (h : KE_S15 E w R) : W.WP Try.prog (W.cx 170) C27 (Q12 R) E w := by
  obtain ⟨more6, hq6, h1⟩ := W.asStr_elim h
  obtain ⟨wide7, hq7, h2⟩ := W.asStr_elim h1
  obtain ⟨a10, hq10, h3⟩ := W.asSlice_elim h2
  obtain ⟨e12, hq12, h4⟩ := W.asInt_elim h3
  exact fun a ha => W.WP.at (n := (W.cx 170)) (E := [(6, .string more6), (7, .string wide7), (10, a10.v), (12, .int .i64 e12)]) (W.WP.seq (c := C27) (x := C60) (y := C28) (by kernel_rfl) <| W.WP.reg (c := C60) (fun E w => KE_S16 E w R) (by kernel_rfl) (Eq.mp (by kernel_rfl) h4) fun _ _ a hA hK => (W.WP.seq (c := C28) (x := C29) (y := C32) (by kernel_rfl) (KE_S16_ok R _ _ hK)) a hA) (ha.cons hq6 (ha.cons hq7 (ha.cons hq10 (ha.cons hq12 ha.nil))))
noncomputable def C61 : Code := W.Code.fst C10
/-- law.go:83 -/
abbrev S14 (text5 more6 wide7 : ByteArray) (w : World) (R : W.Post) : Prop :=
  Calls Try.prog n_lexer_Tokens #[.string text5] w fun r_ w1 => ∃ t68_0 : W.Sl, ∃ t68_1 : Int, ∃ t68_2 : Int, r_ = .returned (.tuple #[t68_0.v, .int .i64 t68_1, .int .i64 t68_2]) ∧ 
  S15 more6 wide7 t68_0 t68_2 w1 R
def KE_S14 (E : W.Env) (w : World) (R : W.Post) : Prop := W.asStr (W.Env.get? E 5) fun text5 => W.asStr (W.Env.get? E 6) fun more6 => W.asStr (W.Env.get? E 7) fun wide7 => S14 text5 more6 wide7 w R
theorem KE_S14_ok (R : W.Post) (E : W.Env) (w : World) (h : KE_S14 E w R) : W.WP Try.prog (W.cx 170) C10 (Q12 R) E w := by
  obtain ⟨text5, hq5, h1⟩ := W.asStr_elim h
  obtain ⟨more6, hq6, h2⟩ := W.asStr_elim h1
  obtain ⟨wide7, hq7, h3⟩ := W.asStr_elim h2
  exact fun a ha => W.WP.at (n := (W.cx 170)) (E := [(5, .string text5), (6, .string more6), (7, .string wide7)]) (W.WP.seq (c := C10) (x := C61) (y := C27) (by kernel_rfl) <| W.WP.reg (c := C61) (fun E w => KE_S15 E w R) (by kernel_rfl) (Eq.mp (by kernel_rfl) h3) fun _ _ a hA hK => (KE_S15_ok R _ _ hK) a hA) (ha.cons hq5 (ha.cons hq6 (ha.cons hq7 ha.nil)))
noncomputable def C62 : Code := W.Code.fst C9
abbrev Q14 (R : W.Post) : Exit → Act → World → Prop := (Exit.then (W.wpx Try.prog (W.cx 170) C11 (Exit.then (W.LoopWP Try.prog (W.cx 170) C9 (Q1 R)) (Q1 R))) (Exit.then (W.LoopWP Try.prog (W.cx 170) C9 (Q1 R)) (Q1 R)))
noncomputable def C63 : Code := W.Code.fst C62
noncomputable def C64 : Code := W.Code.snd C62
noncomputable def C65 : Code := W.Code.fst C64
noncomputable def C66 : Code := W.Code.snd C64
/-- law.go:74 -/
abbrev S7 (text5 more6 wide7 : ByteArray) (inside8 : Bool) (i9 : Int) (w : World) (R : W.Post) : Prop :=
  W.sel (decide (i9 < ((text5.size : Nat) : Int))) (S8 text5 more6 wide7 inside8 i9 w R) (S14 text5 more6 wide7 w R)
def KE_S7 (E : W.Env) (w : World) (R : W.Post) : Prop := W.asStr (W.Env.get? E 5) fun text5 => W.asStr (W.Env.get? E 6) fun more6 => W.asStr (W.Env.get? E 7) fun wide7 => W.asBool' (W.Env.get? E 8) fun inside8 => W.asInt .i64 (W.Env.get? E 9) fun i9 => S7 text5 more6 wide7 inside8 i9 w R
theorem KE_S7_ok (R : W.Post) (E : W.Env) (w : World) (h : KE_S7 E w R) : W.WP Try.prog (W.cx 170) C62 (Q14 R) E w := by
  obtain ⟨text5, hq5, h1⟩ := W.asStr_elim h
  obtain ⟨more6, hq6, h2⟩ := W.asStr_elim h1
  obtain ⟨wide7, hq7, h3⟩ := W.asStr_elim h2
  obtain ⟨inside8, hq8, h4⟩ := W.asBool_elim h3
  obtain ⟨i9, hq9, h5⟩ := W.asInt_elim h4
  exact fun a ha => W.WP.at (n := (W.cx 170)) (E := [(5, .string text5), (6, .string more6), (7, .string wide7), (8, .bool inside8), (9, .int .i64 i9)]) (W.WP.seq (c := C62) (x := C63) (y := C64) (by kernel_rfl) <| W.WP.reg (c := C63) (fun E w => W.condK (W.Env.val E (.tmp 28)) (KE_S8 E w R) (KE_S14 E w R)) (by kernel_rfl) (Eq.mp (by kernel_rfl) h5) fun _ _ a hA hK => (W.WP.condK (c := C64) (x := C65) (y := C66) (o := .tmp 28) (by kernel_rfl) (fun hK => (W.WP.skip (c := C65) (by kernel_rfl) fun a hA => (W.WP.seq (c := C11) (x := C13) (y := C12) (by kernel_rfl) (W.WP.block (c := C13) (x := C14) (id := 1) (by kernel_rfl) (KE_S8_ok R _ _ hK))) a hA)) (fun hK => (W.WP.exit (c := C66) (id := 0) (by kernel_rfl) fun a hA => (KE_S14_ok R _ _ hK) a hA)) hK) a hA) (ha.cons hq5 (ha.cons hq6 (ha.cons hq7 (ha.cons hq8 (ha.cons hq9 ha.nil)))))
theorem L6_step (text5 more6 wide7 : ByteArray) (inside8 : Bool) (i9 : Int) (w : World) (R : W.Post) (h : S7 text5 more6 wide7 inside8 i9 w R) : L6 text5 more6 wide7 inside8 i9 w R :=
  W.LP.step (n := (W.cx 170)) (c := C9) (E := [(5, .string text5), (6, .string more6), (7, .string wide7), (8, .bool inside8), (9, .int .i64 i9)]) (w := w) (W.WP.seq (c := C9) (x := C62) (y := C11) (by kernel_rfl) (KE_S7_ok R _ _ (Eq.mp (by kernel_rfl) h)))
noncomputable def C67 : Code := W.Code.fst C6
/-- law.go:74 -/
abbrev S5 (text5 more6 wide7 : ByteArray) (inside8 : Bool) (w : World) (R : W.Post) : Prop :=
  L6 text5 more6 wide7 inside8 0 w R
def KE_S5 (E : W.Env) (w : World) (R : W.Post) : Prop := W.asStr (W.Env.get? E 5) fun text5 => W.asStr (W.Env.get? E 6) fun more6 => W.asStr (W.Env.get? E 7) fun wide7 => W.asBool' (W.Env.get? E 8) fun inside8 => S5 text5 more6 wide7 inside8 w R
theorem KE_S5_ok (R : W.Post) (E : W.Env) (w : World) (h : KE_S5 E w R) : W.WP Try.prog (W.cx 170) C6 (Q0 R) E w := by
  obtain ⟨text5, hq5, h1⟩ := W.asStr_elim h
  obtain ⟨more6, hq6, h2⟩ := W.asStr_elim h1
  obtain ⟨wide7, hq7, h3⟩ := W.asStr_elim h2
  obtain ⟨inside8, hq8, h4⟩ := W.asBool_elim h3
  exact fun a ha => W.WP.at (n := (W.cx 170)) (E := [(5, .string text5), (6, .string more6), (7, .string wide7), (8, .bool inside8)]) (W.WP.seq (c := C6) (x := C67) (y := C7) (by kernel_rfl) <| W.WP.reg (c := C67) (fun E w => KE_L6 E w R) (by kernel_rfl) (Eq.mp (by kernel_rfl) h4) fun _ _ a hA hK => (W.WP.block (c := C7) (x := C8) (id := 0) (by kernel_rfl) (W.WP.loop (c := C8) (x := C9) (by kernel_rfl) (KE_L6_ok R _ _ hK))) a hA) (ha.cons hq5 (ha.cons hq6 (ha.cons hq7 (ha.cons hq8 ha.nil))))
noncomputable def C68 : Code := W.Code.fst C4
/-- law.go:73 -/
abbrev S4 (text5 more6 wide7 : ByteArray) (w : World) (R : W.Post) : Prop :=
  S5 text5 more6 wide7 false w R
def KE_S4 (E : W.Env) (w : World) (R : W.Post) : Prop := W.asStr (W.Env.get? E 5) fun text5 => W.asStr (W.Env.get? E 6) fun more6 => W.asStr (W.Env.get? E 7) fun wide7 => S4 text5 more6 wide7 w R
theorem KE_S4_ok (R : W.Post) (E : W.Env) (w : World) (h : KE_S4 E w R) : W.WP Try.prog (W.cx 170) C4 (Q12 R) E w := by
  obtain ⟨text5, hq5, h1⟩ := W.asStr_elim h
  obtain ⟨more6, hq6, h2⟩ := W.asStr_elim h1
  obtain ⟨wide7, hq7, h3⟩ := W.asStr_elim h2
  exact fun a ha => W.WP.at (n := (W.cx 170)) (E := [(5, .string text5), (6, .string more6), (7, .string wide7)]) (W.WP.seq (c := C4) (x := C68) (y := C5) (by kernel_rfl) <| W.WP.reg (c := C68) (fun E w => KE_S5 E w R) (by kernel_rfl) (Eq.mp (by kernel_rfl) h3) fun _ _ a hA hK => (W.WP.seq (c := C5) (x := C6) (y := C10) (by kernel_rfl) (KE_S5_ok R _ _ hK)) a hA) (ha.cons hq5 (ha.cons hq6 (ha.cons hq7 ha.nil)))
noncomputable def C69 : Code := W.Code.fst C3
/-- law.go:72 -/
abbrev S3 (text5 more6 : ByteArray) (w : World) (R : W.Post) : Prop :=
  S4 text5 more6 more6 w R
def KE_S3 (E : W.Env) (w : World) (R : W.Post) : Prop := W.asStr (W.Env.get? E 5) fun text5 => W.asStr (W.Env.get? E 6) fun more6 => S3 text5 more6 w R
theorem KE_S3_ok (R : W.Post) (E : W.Env) (w : World) (h : KE_S3 E w R) : W.WP Try.prog (W.cx 170) C3 (Q12 R) E w := by
  obtain ⟨text5, hq5, h1⟩ := W.asStr_elim h
  obtain ⟨more6, hq6, h2⟩ := W.asStr_elim h1
  exact fun a ha => W.WP.at (n := (W.cx 170)) (E := [(5, .string text5), (6, .string more6)]) (W.WP.seq (c := C3) (x := C69) (y := C4) (by kernel_rfl) <| W.WP.reg (c := C69) (fun E w => KE_S4 E w R) (by kernel_rfl) (Eq.mp (by kernel_rfl) h2) fun _ _ a hA hK => (KE_S4_ok R _ _ hK) a hA) (ha.cons hq5 (ha.cons hq6 ha.nil))
noncomputable def C70 : Code := W.Code.fst C2
/-- law.go:71 -/
abbrev S2 (n1 : Int) (text5 : ByteArray) (w : World) (R : W.Post) : Prop :=
  W.nwV w (.cells #[.string (ByteArray.mk #[32]), .string (ByteArray.mk #[59, 32, 40, 34, 10]), .string (ByteArray.mk #[9, 13, 10]), .string (ByteArray.mk #[32, 59, 10, 59, 10])] ty_string) fun w1 => 
  Calls Try.prog n_enthymemeref01_Around #[.int .i64 n1, .int .i64 4] w1 fun r_ w2 => ∃ t21 : Int, r_ = .returned (.int .i64 t21) ∧ 
  (0 : Int) ≤ t21 ∧ t21 < ((4 : Nat) : Int) ∧ W.optP (some (Addr.mk w.heap.size 0 none)) fun t22_p => ∃ t23 : ByteArray, w2.cell? (t22_p.add (Int.toNat t21 * 1)) = some (.string t23) ∧ 
  S3 text5 t23 w2 R
def KE_S2 (E : W.Env) (w : World) (R : W.Post) : Prop := W.asInt .i64 (W.Env.get? E 1) fun n1 => W.asStr (W.Env.get? E 5) fun text5 => S2 n1 text5 w R
theorem KE_S2_ok (R : W.Post) (E : W.Env) (w : World) (h : KE_S2 E w R) : W.WP Try.prog (W.cx 170) C2 (Q12 R) E w := by
  obtain ⟨n1, hq1, h1⟩ := W.asInt_elim h
  obtain ⟨text5, hq5, h2⟩ := W.asStr_elim h1
  exact fun a ha => W.WP.at (n := (W.cx 170)) (E := [(1, .int .i64 n1), (5, .string text5)]) (W.WP.seq (c := C2) (x := C70) (y := C3) (by kernel_rfl) <| W.WP.reg (c := C70) (fun E w => KE_S3 E w R) (by kernel_rfl) (Eq.mp (by kernel_rfl) h2) fun _ _ a hA hK => (KE_S3_ok R _ _ hK) a hA) (ha.cons hq1 (ha.cons hq5 ha.nil))
noncomputable def C71 : Code := W.Code.fst C1
/-- law.go:70 -/
abbrev S1 (l0 : W.Sl) (n1 : Int) (w : World) (R : W.Post) : Prop :=
  Calls Try.prog n_enthymemeref09_Good #[l0.v, .int .i64 12] w fun r_ w1 => ∃ t18 : ByteArray, r_ = .returned (.string t18) ∧ 
  S2 n1 t18 w1 R
def KE_S1 (E : W.Env) (w : World) (R : W.Post) : Prop := W.asSlice (W.Env.get? E 0) fun l0 => W.asInt .i64 (W.Env.get? E 1) fun n1 => S1 l0 n1 w R
theorem KE_S1_ok (R : W.Post) (E : W.Env) (w : World) (h : KE_S1 E w R) : W.WP Try.prog (W.cx 170) C1 (Q12 R) E w := by
  obtain ⟨l0, hq0, h1⟩ := W.asSlice_elim h
  obtain ⟨n1, hq1, h2⟩ := W.asInt_elim h1
  exact fun a ha => W.WP.at (n := (W.cx 170)) (E := [(0, l0.v), (1, .int .i64 n1)]) (W.WP.seq (c := C1) (x := C71) (y := C2) (by kernel_rfl) <| W.WP.reg (c := C71) (fun E w => KE_S2 E w R) (by kernel_rfl) (Eq.mp (by kernel_rfl) h2) fun _ _ a hA hK => (KE_S2_ok R _ _ hK) a hA) (ha.cons hq0 (ha.cons hq1 ha.nil))
noncomputable def C72 : Code := W.Code.fst C0
/-- law.go:69 -/
abbrev S0 (l0 : W.Sl) (n1 : Int) (w : World) (R : W.Post) : Prop :=
  S1 l0 n1 w R
def KE_S0 (E : W.Env) (w : World) (R : W.Post) : Prop := W.asSlice (W.Env.get? E 0) fun l0 => W.asInt .i64 (W.Env.get? E 1) fun n1 => S0 l0 n1 w R
theorem KE_S0_ok (R : W.Post) (E : W.Env) (w : World) (h : KE_S0 E w R) : W.WP Try.prog (W.cx 170) C0 (Q12 R) E w := by
  obtain ⟨l0, hq0, h1⟩ := W.asSlice_elim h
  obtain ⟨n1, hq1, h2⟩ := W.asInt_elim h1
  exact fun a ha => W.WP.at (n := (W.cx 170)) (E := [(0, l0.v), (1, .int .i64 n1)]) (W.WP.seq (c := C0) (x := C72) (y := C1) (by kernel_rfl) <| W.WP.reg (c := C72) (fun E w => KE_S1 E w R) (by kernel_rfl) (Eq.mp (by kernel_rfl) h2) fun _ _ a hA hK => (KE_S1_ok R _ _ hK) a hA) (ha.cons hq0 (ha.cons hq1 ha.nil))
/-- enthymeme/enthymemelaw09.LexerSpaces -/
theorem ok (l0 : W.Sl) (n1 : Int) (w : World) (R : W.Post) (h : S0 l0 n1 w R) : Calls Try.prog n_enthymemelaw09_LexerSpaces #[l0.v, .int .i64 n1] w R :=
  W.calls_of_WP' (fn := Try.f4) (c := C0) (args := [l0.v, .int .i64 n1]) (by kernel_rfl) (by kernel_rfl) (by kernel_rfl) (KE_S0_ok R _ _ (Eq.mp (by kernel_rfl) h))
end enthymemelaw09_LexerSpaces
end Go.Proofs.Ytemagdpieebjlaa

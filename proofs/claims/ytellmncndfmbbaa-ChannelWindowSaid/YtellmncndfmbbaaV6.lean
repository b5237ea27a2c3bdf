/- Printed by a program of ours (vcgen.py) from the dump: the conditions of the functions, and that they suffice. -/
import Derived.Test.YtellmncndfmbbaaV
set_option linter.unusedVariables false
set_option maxRecDepth 100000
namespace Go.Proofs.Ytellmncndfmbbaa
open Go
namespace enthymemelaw38_ChannelWindow
noncomputable def C0 : Code := (Try.f6.body).getD .skip
noncomputable def C1 : Code := W.Code.snd C0
noncomputable def C2 : Code := W.Code.snd C1
noncomputable def C3 : Code := W.Code.fst C2
noncomputable def C4 : Code := W.Code.snd C3
noncomputable def C5 : Code := W.Code.fst C4
noncomputable def C6 : Code := W.Code.snd C2
abbrev Q0 (R : W.Post) : Exit → Act → World → Prop := (Exit.then (Code.wp Try.prog C6 (bodyPost Try.prog Try.f6 R)) (bodyPost Try.prog Try.f6 R))
noncomputable def C7 : Code := W.Code.fst C5
noncomputable def C8 : Code := W.Code.snd C5
/-- law.go:222 -/
def S3 (a7 : Option Addr) (e8 : Int) (w : World) (R : W.Post) : Prop :=
  W.sel a7.isNone (W.sel (e8 == 1) (Calls Try.prog n_enthymemelaw38_lives #[] w fun r_ w1 => ∃ t34 : Bool, r_ = .returned (.bool t34) ∧ 
  R (.returned (.bool t34)) w1) (R (.returned (.bool false)) w)) (R (.returned (.bool false)) w)
def KE_S3 (E : W.Env) (w : World) (R : W.Post) : Prop := W.asPtr (W.Env.get? E 7) fun a7 => W.asInt .i64 (W.Env.get? E 8) fun e8 => S3 a7 e8 w R
theorem KE_S3_ok (R : W.Post) (E : W.Env) (w : World) (h : KE_S3 E w R) : W.WP Try.prog 149 C5 (Q0 R) E w := by
  obtain ⟨a7, hq7, h1⟩ := W.asPtr_elim h
  obtain ⟨e8, hq8, h2⟩ := W.asInt_elim h1
  exact fun a ha => W.WP.at (E := [(7, .pointer a7), (8, .int .i64 e8)]) (W.WP.seq (c := C5) (x := C7) (y := C8) (by kernel_rfl) <| W.WP.reg (c := C7) (fun E w => W.retVC Try.prog Try.f6 E w (fun v => R (.returned v) w)) (by kernel_rfl) (Eq.mp (by kernel_rfl) h2) fun _ _ a hA hK => (W.WP.ret (c := C8) (by kernel_rfl) fun a hA => W.retVC_sound hA hK) a hA) (ha.cons hq7 (ha.cons hq8 ha.nil))
noncomputable def C9 : Code := W.Code.fst C6
noncomputable def C10 : Code := W.Code.snd C9
noncomputable def C11 : Code := W.Code.fst C10
noncomputable def C12 : Code := W.Code.snd C6
abbrev Q1 (R : W.Post) : Exit → Act → World → Prop := (Exit.then (Code.wp Try.prog C12 (bodyPost Try.prog Try.f6 R)) (bodyPost Try.prog Try.f6 R))
noncomputable def C13 : Code := W.Code.fst C11
noncomputable def C14 : Code := W.Code.snd C11
/-- law.go:225 -/
def S5  (w : World) (R : W.Post) : Prop :=
  R (.returned (.bool false)) w
def KE_S5 (E : W.Env) (w : World) (R : W.Post) : Prop := S5  w R
theorem KE_S5_ok (R : W.Post) (E : W.Env) (w : World) (h : KE_S5 E w R) : W.WP Try.prog 149 C11 (Q1 R) E w := by
  exact fun a ha => W.WP.at (E := []) (W.WP.seq (c := C11) (x := C13) (y := C14) (by kernel_rfl) <| W.WP.reg (c := C13) (fun E w => W.retVC Try.prog Try.f6 E w (fun v => R (.returned v) w)) (by kernel_rfl) (Eq.mp (by kernel_rfl) h) fun _ _ a hA hK => (W.WP.ret (c := C14) (by kernel_rfl) fun a hA => W.retVC_sound hA hK) a hA) ha.nil
noncomputable def C15 : Code := W.Code.snd C12
noncomputable def C16 : Code := W.Code.fst C15
noncomputable def C17 : Code := W.Code.snd C16
noncomputable def C18 : Code := W.Code.fst C17
noncomputable def C19 : Code := W.Code.fst C18
noncomputable def C20 : Code := W.Code.snd C15
abbrev Q2 (R : W.Post) : Exit → Act → World → Prop := (Exit.then (Code.wp Try.prog C20 (bodyPost Try.prog Try.f6 R)) (bodyPost Try.prog Try.f6 R))
abbrev Q3 (R : W.Post) : Exit → Act → World → Prop := (Exit.inBlock 0 (Q2 R))
/-- the head of the loop, law.go:228 -/
def L8 (window0 ack2 : Int) (a7 : Option Addr) (n9 i10 : Int) (w : World) (R : W.Post) : Prop := W.LP Try.prog 149 C19 (Q3 R) [(0, .int .i64 window0), (2, .int .i64 ack2), (7, .pointer a7), (9, .int .i64 n9), (10, .int .i64 i10)] w
def KE_L8 (E : W.Env) (w : World) (R : W.Post) : Prop := W.asInt .i64 (W.Env.get? E 0) fun window0 => W.asInt .i64 (W.Env.get? E 2) fun ack2 => W.asPtr (W.Env.get? E 7) fun a7 => W.asInt .i64 (W.Env.get? E 9) fun n9 => W.asInt .i64 (W.Env.get? E 10) fun i10 => L8 window0 ack2 a7 n9 i10 w R
theorem KE_L8_ok (R : W.Post) (E : W.Env) (w : World) (h : KE_L8 E w R) : W.LP Try.prog 149 C19 (Q3 R) E w := by
  obtain ⟨window0, hq0, h1⟩ := W.asInt_elim h
  obtain ⟨ack2, hq2, h2⟩ := W.asInt_elim h1
  obtain ⟨a7, hq7, h3⟩ := W.asPtr_elim h2
  obtain ⟨n9, hq9, h4⟩ := W.asInt_elim h3
  obtain ⟨i10, hq10, h5⟩ := W.asInt_elim h4
  intro a ha
  exact h5 a (ha.cons hq0 (ha.cons hq2 (ha.cons hq7 (ha.cons hq9 (ha.cons hq10 ha.nil)))))
noncomputable def C21 : Code := W.Code.snd C19
noncomputable def C22 : Code := W.Code.fst C21
noncomputable def C23 : Code := W.Code.fst C22
noncomputable def C24 : Code := W.Code.snd C23
noncomputable def C25 : Code := W.Code.fst C24
noncomputable def C26 : Code := W.Code.snd C21
abbrev Q4 (R : W.Post) : Exit → Act → World → Prop := (Exit.then (Code.wp Try.prog C26 (Exit.then (W.LoopWP Try.prog C19 (Q3 R)) (Q3 R))) (Exit.then (W.LoopWP Try.prog C19 (Q3 R)) (Q3 R)))
abbrev Q5 (R : W.Post) : Exit → Act → World → Prop := (Exit.inBlock 1 (Q4 R))
noncomputable def C27 : Code := W.Code.fst C25
noncomputable def C28 : Code := W.Code.snd C25
/-- law.go:230 -/
def S11  (w : World) (R : W.Post) : Prop :=
  R (.returned (.bool false)) w
def KE_S11 (E : W.Env) (w : World) (R : W.Post) : Prop := S11  w R
theorem KE_S11_ok (R : W.Post) (E : W.Env) (w : World) (h : KE_S11 E w R) : W.WP Try.prog 149 C25 (Q5 R) E w := by
  exact fun a ha => W.WP.at (E := []) (W.WP.seq (c := C25) (x := C27) (y := C28) (by kernel_rfl) <| W.WP.reg (c := C27) (fun E w => W.retVC Try.prog Try.f6 E w (fun v => R (.returned v) w)) (by kernel_rfl) (Eq.mp (by kernel_rfl) h) fun _ _ a hA hK => (W.WP.ret (c := C28) (by kernel_rfl) fun a hA => W.retVC_sound hA hK) a hA) ha.nil
abbrev Q6 (R : W.Post) : Exit → Act → World → Prop := (Exit.then (W.LoopWP Try.prog C19 (Q3 R)) (Q3 R))
/-- law.go:228 -/
def S12 (window0 ack2 : Int) (a7 : Option Addr) (n9 i10 : Int) (w : World) (R : W.Post) : Prop :=
  L8 window0 ack2 a7 n9 (IntKind.wrap .i64 (i10 + 1)) w R
def KE_S12 (E : W.Env) (w : World) (R : W.Post) : Prop := W.asInt .i64 (W.Env.get? E 0) fun window0 => W.asInt .i64 (W.Env.get? E 2) fun ack2 => W.asPtr (W.Env.get? E 7) fun a7 => W.asInt .i64 (W.Env.get? E 9) fun n9 => W.asInt .i64 (W.Env.get? E 10) fun i10 => S12 window0 ack2 a7 n9 i10 w R
theorem KE_S12_ok (R : W.Post) (E : W.Env) (w : World) (h : KE_S12 E w R) : W.WP Try.prog 149 C26 (Q6 R) E w := by
  obtain ⟨window0, hq0, h1⟩ := W.asInt_elim h
  obtain ⟨ack2, hq2, h2⟩ := W.asInt_elim h1
  obtain ⟨a7, hq7, h3⟩ := W.asPtr_elim h2
  obtain ⟨n9, hq9, h4⟩ := W.asInt_elim h3
  obtain ⟨i10, hq10, h5⟩ := W.asInt_elim h4
  exact fun a ha => W.WP.at (E := [(0, .int .i64 window0), (2, .int .i64 ack2), (7, .pointer a7), (9, .int .i64 n9), (10, .int .i64 i10)]) (W.WP.reg (c := C26) (fun E w => KE_L8 E w R) (by kernel_rfl) (Eq.mp (by kernel_rfl) h5) fun _ _ a hA hK => KE_L8_ok R _ _ hK a hA) (ha.cons hq0 (ha.cons hq2 (ha.cons hq7 (ha.cons hq9 (ha.cons hq10 ha.nil)))))
noncomputable def C29 : Code := W.Code.fst C23
noncomputable def C30 : Code := W.Code.snd C24
/-- law.go:229 -/
def S10 (window0 ack2 : Int) (a7 : Option Addr) (n9 i10 : Int) (w : World) (R : W.Post) : Prop :=
  Calls Try.prog n_channel_End_Send #[.pointer a7, .slice none 0 0] w fun r_ w1 => ∃ t50 : Int, r_ = .returned (.int .i64 t50) ∧ 
  W.sel (!((t50 == 0) == (decide (i10 < 1000)))) (S11  w1 R) (S12 window0 ack2 a7 n9 i10 w1 R)
def KE_S10 (E : W.Env) (w : World) (R : W.Post) : Prop := W.asInt .i64 (W.Env.get? E 0) fun window0 => W.asInt .i64 (W.Env.get? E 2) fun ack2 => W.asPtr (W.Env.get? E 7) fun a7 => W.asInt .i64 (W.Env.get? E 9) fun n9 => W.asInt .i64 (W.Env.get? E 10) fun i10 => S10 window0 ack2 a7 n9 i10 w R
theorem KE_S10_ok (R : W.Post) (E : W.Env) (w : World) (h : KE_S10 E w R) : W.WP Try.prog 149 C23 (Q5 R) E w := by
  obtain ⟨window0, hq0, h1⟩ := W.asInt_elim h
  obtain ⟨ack2, hq2, h2⟩ := W.asInt_elim h1
  obtain ⟨a7, hq7, h3⟩ := W.asPtr_elim h2
  obtain ⟨n9, hq9, h4⟩ := W.asInt_elim h3
  obtain ⟨i10, hq10, h5⟩ := W.asInt_elim h4
  exact fun a ha => W.WP.at (E := [(0, .int .i64 window0), (2, .int .i64 ack2), (7, .pointer a7), (9, .int .i64 n9), (10, .int .i64 i10)]) (W.WP.seq (c := C23) (x := C29) (y := C24) (by kernel_rfl) <| W.WP.reg (c := C29) (fun E w => W.condK (W.Env.val E (.tmp 54)) (KE_S11 E w R) (KE_S12 E w R)) (by kernel_rfl) (Eq.mp (by kernel_rfl) h5) fun _ _ a hA hK => (W.WP.condK (c := C24) (x := C25) (y := C30) (o := .tmp 54) (by kernel_rfl) (fun hK => (KE_S11_ok R _ _ hK)) (fun hK => (W.WP.skip (c := C30) (by kernel_rfl) fun a hA => (KE_S12_ok R _ _ hK) a hA)) hK) a hA) (ha.cons hq0 (ha.cons hq2 (ha.cons hq7 (ha.cons hq9 (ha.cons hq10 ha.nil)))))
noncomputable def C31 : Code := W.Code.snd C20
noncomputable def C32 : Code := W.Code.snd C31
noncomputable def C33 : Code := W.Code.fst C32
noncomputable def C34 : Code := W.Code.snd C33
noncomputable def C35 : Code := W.Code.fst C34
noncomputable def C36 : Code := W.Code.fst C35
noncomputable def C37 : Code := W.Code.snd C32
abbrev Q7 (R : W.Post) : Exit → Act → World → Prop := (Exit.then (Code.wp Try.prog C37 (bodyPost Try.prog Try.f6 R)) (bodyPost Try.prog Try.f6 R))
abbrev Q8 (R : W.Post) : Exit → Act → World → Prop := (Exit.inBlock 2 (Q7 R))
/-- the head of the loop, law.go:235 -/
def L16 (window0 : Int) (a7 : Option Addr) (n9 k11 i12 : Int) (w : World) (R : W.Post) : Prop := W.LP Try.prog 149 C36 (Q8 R) [(0, .int .i64 window0), (7, .pointer a7), (9, .int .i64 n9), (11, .int .i64 k11), (12, .int .i64 i12)] w
def KE_L16 (E : W.Env) (w : World) (R : W.Post) : Prop := W.asInt .i64 (W.Env.get? E 0) fun window0 => W.asPtr (W.Env.get? E 7) fun a7 => W.asInt .i64 (W.Env.get? E 9) fun n9 => W.asInt .i64 (W.Env.get? E 11) fun k11 => W.asInt .i64 (W.Env.get? E 12) fun i12 => L16 window0 a7 n9 k11 i12 w R
theorem KE_L16_ok (R : W.Post) (E : W.Env) (w : World) (h : KE_L16 E w R) : W.LP Try.prog 149 C36 (Q8 R) E w := by
  obtain ⟨window0, hq0, h1⟩ := W.asInt_elim h
  obtain ⟨a7, hq7, h2⟩ := W.asPtr_elim h1
  obtain ⟨n9, hq9, h3⟩ := W.asInt_elim h2
  obtain ⟨k11, hq11, h4⟩ := W.asInt_elim h3
  obtain ⟨i12, hq12, h5⟩ := W.asInt_elim h4
  intro a ha
  exact h5 a (ha.cons hq0 (ha.cons hq7 (ha.cons hq9 (ha.cons hq11 (ha.cons hq12 ha.nil)))))
noncomputable def C38 : Code := W.Code.snd C36
noncomputable def C39 : Code := W.Code.fst C38
noncomputable def C40 : Code := W.Code.fst C39
noncomputable def C41 : Code := W.Code.snd C40
noncomputable def C42 : Code := W.Code.fst C41
noncomputable def C43 : Code := W.Code.snd C42
noncomputable def C44 : Code := W.Code.fst C43
noncomputable def C45 : Code := W.Code.snd C38
abbrev Q9 (R : W.Post) : Exit → Act → World → Prop := (Exit.then (Code.wp Try.prog C45 (Exit.then (W.LoopWP Try.prog C36 (Q8 R)) (Q8 R))) (Exit.then (W.LoopWP Try.prog C36 (Q8 R)) (Q8 R)))
noncomputable def C46 : Code := W.Code.snd C41
abbrev Q10 (R : W.Post) : Exit → Act → World → Prop := (Exit.then (Code.wp Try.prog C46 (Exit.inBlock 3 (Q9 R))) (Exit.inBlock 3 (Q9 R)))
noncomputable def C47 : Code := W.Code.fst C44
noncomputable def C48 : Code := W.Code.snd C44
/-- law.go:238 -/
def S20  (w : World) (R : W.Post) : Prop :=
  R (.returned (.bool false)) w
def KE_S20 (E : W.Env) (w : World) (R : W.Post) : Prop := S20  w R
theorem KE_S20_ok (R : W.Post) (E : W.Env) (w : World) (h : KE_S20 E w R) : W.WP Try.prog 149 C44 (Q10 R) E w := by
  exact fun a ha => W.WP.at (E := []) (W.WP.seq (c := C44) (x := C47) (y := C48) (by kernel_rfl) <| W.WP.reg (c := C47) (fun E w => W.retVC Try.prog Try.f6 E w (fun v => R (.returned v) w)) (by kernel_rfl) (Eq.mp (by kernel_rfl) h) fun _ _ a hA hK => (W.WP.ret (c := C48) (by kernel_rfl) fun a hA => W.retVC_sound hA hK) a hA) ha.nil
noncomputable def C49 : Code := W.Code.snd C46
noncomputable def C50 : Code := W.Code.fst C49
noncomputable def C51 : Code := W.Code.fst C50
abbrev Q11 (R : W.Post) : Exit → Act → World → Prop := (Exit.inBlock 3 (Q9 R))
abbrev Q12 (R : W.Post) : Exit → Act → World → Prop := (Exit.inBlock 4 (Q11 R))
/-- the head of the loop, law.go:240 -/
def L22 (window0 : Int) (a7 : Option Addr) (n9 k11 i12 : Int) (p13 : W.Sl) (j14 : Int) (w : World) (R : W.Post) : Prop := W.LP Try.prog 149 C51 (Q12 R) [(0, .int .i64 window0), (7, .pointer a7), (9, .int .i64 n9), (11, .int .i64 k11), (12, .int .i64 i12), (13, p13.v), (14, .int .i64 j14)] w
def KE_L22 (E : W.Env) (w : World) (R : W.Post) : Prop := W.asInt .i64 (W.Env.get? E 0) fun window0 => W.asPtr (W.Env.get? E 7) fun a7 => W.asInt .i64 (W.Env.get? E 9) fun n9 => W.asInt .i64 (W.Env.get? E 11) fun k11 => W.asInt .i64 (W.Env.get? E 12) fun i12 => W.asSlice (W.Env.get? E 13) fun p13 => W.asInt .i64 (W.Env.get? E 14) fun j14 => L22 window0 a7 n9 k11 i12 p13 j14 w R
theorem KE_L22_ok (R : W.Post) (E : W.Env) (w : World) (h : KE_L22 E w R) : W.LP Try.prog 149 C51 (Q12 R) E w := by
  obtain ⟨window0, hq0, h1⟩ := W.asInt_elim h
  obtain ⟨a7, hq7, h2⟩ := W.asPtr_elim h1
  obtain ⟨n9, hq9, h3⟩ := W.asInt_elim h2
  obtain ⟨k11, hq11, h4⟩ := W.asInt_elim h3
  obtain ⟨i12, hq12, h5⟩ := W.asInt_elim h4
  obtain ⟨p13, hq13, h6⟩ := W.asSlice_elim h5
  obtain ⟨j14, hq14, h7⟩ := W.asInt_elim h6
  intro a ha
  exact h7 a (ha.cons hq0 (ha.cons hq7 (ha.cons hq9 (ha.cons hq11 (ha.cons hq12 (ha.cons hq13 (ha.cons hq14 ha.nil)))))))
noncomputable def C52 : Code := W.Code.snd C51
noncomputable def C53 : Code := W.Code.fst C52
noncomputable def C54 : Code := W.Code.fst C53
noncomputable def C55 : Code := W.Code.snd C54
noncomputable def C56 : Code := W.Code.fst C55
noncomputable def C57 : Code := W.Code.snd C52
abbrev Q13 (R : W.Post) : Exit → Act → World → Prop := (Exit.then (Code.wp Try.prog C57 (Exit.then (W.LoopWP Try.prog C51 (Q12 R)) (Q12 R))) (Exit.then (W.LoopWP Try.prog C51 (Q12 R)) (Q12 R)))
abbrev Q14 (R : W.Post) : Exit → Act → World → Prop := (Exit.inBlock 5 (Q13 R))
noncomputable def C58 : Code := W.Code.fst C56
noncomputable def C59 : Code := W.Code.snd C56
/-- law.go:242 -/
def S25  (w : World) (R : W.Post) : Prop :=
  R (.returned (.bool false)) w
def KE_S25 (E : W.Env) (w : World) (R : W.Post) : Prop := S25  w R
theorem KE_S25_ok (R : W.Post) (E : W.Env) (w : World) (h : KE_S25 E w R) : W.WP Try.prog 149 C56 (Q14 R) E w := by
  exact fun a ha => W.WP.at (E := []) (W.WP.seq (c := C56) (x := C58) (y := C59) (by kernel_rfl) <| W.WP.reg (c := C58) (fun E w => W.retVC Try.prog Try.f6 E w (fun v => R (.returned v) w)) (by kernel_rfl) (Eq.mp (by kernel_rfl) h) fun _ _ a hA hK => (W.WP.ret (c := C59) (by kernel_rfl) fun a hA => W.retVC_sound hA hK) a hA) ha.nil
abbrev Q15 (R : W.Post) : Exit → Act → World → Prop := (Exit.then (W.LoopWP Try.prog C51 (Q12 R)) (Q12 R))
/-- law.go:240 -/
def S26 (window0 : Int) (a7 : Option Addr) (n9 k11 i12 : Int) (p13 : W.Sl) (j14 : Int) (w : World) (R : W.Post) : Prop :=
  L22 window0 a7 n9 k11 i12 p13 (IntKind.wrap .i64 (j14 + 1)) w R
def KE_S26 (E : W.Env) (w : World) (R : W.Post) : Prop := W.asInt .i64 (W.Env.get? E 0) fun window0 => W.asPtr (W.Env.get? E 7) fun a7 => W.asInt .i64 (W.Env.get? E 9) fun n9 => W.asInt .i64 (W.Env.get? E 11) fun k11 => W.asInt .i64 (W.Env.get? E 12) fun i12 => W.asSlice (W.Env.get? E 13) fun p13 => W.asInt .i64 (W.Env.get? E 14) fun j14 => S26 window0 a7 n9 k11 i12 p13 j14 w R
theorem KE_S26_ok (R : W.Post) (E : W.Env) (w : World) (h : KE_S26 E w R) : W.WP Try.prog 149 C57 (Q15 R) E w := by
  obtain ⟨window0, hq0, h1⟩ := W.asInt_elim h
  obtain ⟨a7, hq7, h2⟩ := W.asPtr_elim h1
  obtain ⟨n9, hq9, h3⟩ := W.asInt_elim h2
  obtain ⟨k11, hq11, h4⟩ := W.asInt_elim h3
  obtain ⟨i12, hq12, h5⟩ := W.asInt_elim h4
  obtain ⟨p13, hq13, h6⟩ := W.asSlice_elim h5
  obtain ⟨j14, hq14, h7⟩ := W.asInt_elim h6
  exact fun a ha => W.WP.at (E := [(0, .int .i64 window0), (7, .pointer a7), (9, .int .i64 n9), (11, .int .i64 k11), (12, .int .i64 i12), (13, p13.v), (14, .int .i64 j14)]) (W.WP.reg (c := C57) (fun E w => KE_L22 E w R) (by kernel_rfl) (Eq.mp (by kernel_rfl) h7) fun _ _ a hA hK => KE_L22_ok R _ _ hK a hA) (ha.cons hq0 (ha.cons hq7 (ha.cons hq9 (ha.cons hq11 (ha.cons hq12 (ha.cons hq13 (ha.cons hq14 ha.nil)))))))
noncomputable def C60 : Code := W.Code.fst C54
noncomputable def C61 : Code := W.Code.snd C55
/-- law.go:241 -/
def S24 (window0 : Int) (a7 : Option Addr) (n9 k11 i12 : Int) (p13 : W.Sl) (j14 : Int) (w : World) (R : W.Post) : Prop :=
  (0 : Int) ≤ j14 ∧ j14 < ((p13.n : Nat) : Int) ∧ W.optP p13.a fun t81_p => ∃ t83 : Int, w.cell? ((t81_p.add (Int.toNat j14 * 3)).add 0) = some (.int .i64 t83) ∧ 
  W.sel (t83 != (IntKind.wrap .i64 (j14 + 1))) (S25  w R) ((0 : Int) ≤ j14 ∧ j14 < ((p13.n : Nat) : Int) ∧ W.optP p13.a fun t90_p => ∃ t92 : Int, w.cell? ((t90_p.add (Int.toNat j14 * 3)).add 1) = some (.int .i64 t92) ∧ 
  W.sel (t92 != 0) (S25  w R) (S26 window0 a7 n9 k11 i12 p13 j14 w R))
def KE_S24 (E : W.Env) (w : World) (R : W.Post) : Prop := W.asInt .i64 (W.Env.get? E 0) fun window0 => W.asPtr (W.Env.get? E 7) fun a7 => W.asInt .i64 (W.Env.get? E 9) fun n9 => W.asInt .i64 (W.Env.get? E 11) fun k11 => W.asInt .i64 (W.Env.get? E 12) fun i12 => W.asSlice (W.Env.get? E 13) fun p13 => W.asInt .i64 (W.Env.get? E 14) fun j14 => S24 window0 a7 n9 k11 i12 p13 j14 w R
theorem KE_S24_ok (R : W.Post) (E : W.Env) (w : World) (h : KE_S24 E w R) : W.WP Try.prog 149 C54 (Q14 R) E w := by
  obtain ⟨window0, hq0, h1⟩ := W.asInt_elim h
  obtain ⟨a7, hq7, h2⟩ := W.asPtr_elim h1
  obtain ⟨n9, hq9, h3⟩ := W.asInt_elim h2
  obtain ⟨k11, hq11, h4⟩ := W.asInt_elim h3
  obtain ⟨i12, hq12, h5⟩ := W.asInt_elim h4
  obtain ⟨p13, hq13, h6⟩ := W.asSlice_elim h5
  obtain ⟨j14, hq14, h7⟩ := W.asInt_elim h6
  exact fun a ha => W.WP.at (E := [(0, .int .i64 window0), (7, .pointer a7), (9, .int .i64 n9), (11, .int .i64 k11), (12, .int .i64 i12), (13, p13.v), (14, .int .i64 j14)]) (W.WP.seq (c := C54) (x := C60) (y := C55) (by kernel_rfl) <| W.WP.reg (c := C60) (fun E w => W.condK (W.Env.val E (.tmp 94)) (KE_S25 E w R) (KE_S26 E w R)) (by kernel_rfl) (Eq.mp (by kernel_rfl) h7) fun _ _ a hA hK => (W.WP.condK (c := C55) (x := C56) (y := C61) (o := .tmp 94) (by kernel_rfl) (fun hK => (KE_S25_ok R _ _ hK)) (fun hK => (W.WP.skip (c := C61) (by kernel_rfl) fun a hA => (KE_S26_ok R _ _ hK) a hA)) hK) a hA) (ha.cons hq0 (ha.cons hq7 (ha.cons hq9 (ha.cons hq11 (ha.cons hq12 (ha.cons hq13 (ha.cons hq14 ha.nil)))))))
abbrev Q16 (R : W.Post) : Exit → Act → World → Prop := (Exit.then (W.LoopWP Try.prog C36 (Q8 R)) (Q8 R))
/-- law.go:235 -/
def S27 (window0 : Int) (a7 : Option Addr) (n9 k11 i12 : Int) (w : World) (R : W.Post) : Prop :=
  L16 window0 a7 n9 k11 (IntKind.wrap .i64 (i12 + 1)) w R
def KE_S27 (E : W.Env) (w : World) (R : W.Post) : Prop := W.asInt .i64 (W.Env.get? E 0) fun window0 => W.asPtr (W.Env.get? E 7) fun a7 => W.asInt .i64 (W.Env.get? E 9) fun n9 => W.asInt .i64 (W.Env.get? E 11) fun k11 => W.asInt .i64 (W.Env.get? E 12) fun i12 => S27 window0 a7 n9 k11 i12 w R
theorem KE_S27_ok (R : W.Post) (E : W.Env) (w : World) (h : KE_S27 E w R) : W.WP Try.prog 149 C45 (Q16 R) E w := by
  obtain ⟨window0, hq0, h1⟩ := W.asInt_elim h
  obtain ⟨a7, hq7, h2⟩ := W.asPtr_elim h1
  obtain ⟨n9, hq9, h3⟩ := W.asInt_elim h2
  obtain ⟨k11, hq11, h4⟩ := W.asInt_elim h3
  obtain ⟨i12, hq12, h5⟩ := W.asInt_elim h4
  exact fun a ha => W.WP.at (E := [(0, .int .i64 window0), (7, .pointer a7), (9, .int .i64 n9), (11, .int .i64 k11), (12, .int .i64 i12)]) (W.WP.reg (c := C45) (fun E w => KE_L16 E w R) (by kernel_rfl) (Eq.mp (by kernel_rfl) h5) fun _ _ a hA hK => KE_L16_ok R _ _ hK a hA) (ha.cons hq0 (ha.cons hq7 (ha.cons hq9 (ha.cons hq11 (ha.cons hq12 ha.nil)))))
noncomputable def C62 : Code := W.Code.fst C51
abbrev Q17 (R : W.Post) : Exit → Act → World → Prop := (Exit.then (Code.wp Try.prog C52 (Exit.then (W.LoopWP Try.prog C51 (Q12 R)) (Q12 R))) (Exit.then (W.LoopWP Try.prog C51 (Q12 R)) (Q12 R)))
noncomputable def C63 : Code := W.Code.fst C62
noncomputable def C64 : Code := W.Code.snd C62
noncomputable def C65 : Code := W.Code.fst C64
noncomputable def C66 : Code := W.Code.snd C64
/-- law.go:240 -/
def S23 (window0 : Int) (a7 : Option Addr) (n9 k11 i12 : Int) (p13 : W.Sl) (j14 : Int) (w : World) (R : W.Post) : Prop :=
  W.sel (decide (j14 < ((p13.n : Nat) : Int))) (S24 window0 a7 n9 k11 i12 p13 j14 w R) (S27 window0 a7 n9 k11 i12 w R)
def KE_S23 (E : W.Env) (w : World) (R : W.Post) : Prop := W.asInt .i64 (W.Env.get? E 0) fun window0 => W.asPtr (W.Env.get? E 7) fun a7 => W.asInt .i64 (W.Env.get? E 9) fun n9 => W.asInt .i64 (W.Env.get? E 11) fun k11 => W.asInt .i64 (W.Env.get? E 12) fun i12 => W.asSlice (W.Env.get? E 13) fun p13 => W.asInt .i64 (W.Env.get? E 14) fun j14 => S23 window0 a7 n9 k11 i12 p13 j14 w R
theorem KE_S23_ok (R : W.Post) (E : W.Env) (w : World) (h : KE_S23 E w R) : W.WP Try.prog 149 C62 (Q17 R) E w := by
  obtain ⟨window0, hq0, h1⟩ := W.asInt_elim h
  obtain ⟨a7, hq7, h2⟩ := W.asPtr_elim h1
  obtain ⟨n9, hq9, h3⟩ := W.asInt_elim h2
  obtain ⟨k11, hq11, h4⟩ := W.asInt_elim h3
  obtain ⟨i12, hq12, h5⟩ := W.asInt_elim h4
  obtain ⟨p13, hq13, h6⟩ := W.asSlice_elim h5
  obtain ⟨j14, hq14, h7⟩ := W.asInt_elim h6
  exact fun a ha => W.WP.at (E := [(0, .int .i64 window0), (7, .pointer a7), (9, .int .i64 n9), (11, .int .i64 k11), (12, .int .i64 i12), (13, p13.v), (14, .int .i64 j14)]) (W.WP.seq (c := C62) (x := C63) (y := C64) (by kernel_rfl) <| W.WP.reg (c := C63) (fun E w => W.condK (W.Env.val E (.tmp 76)) (KE_S24 E w R) (KE_S27 E w R)) (by kernel_rfl) (Eq.mp (by kernel_rfl) h7) fun _ _ a hA hK => (W.WP.condK (c := C64) (x := C65) (y := C66) (o := .tmp 76) (by kernel_rfl) (fun hK => (W.WP.skip (c := C65) (by kernel_rfl) fun a hA => (W.WP.seq (c := C52) (x := C53) (y := C57) (by kernel_rfl) (W.WP.block (c := C53) (x := C54) (id := 5) (by kernel_rfl) (KE_S24_ok R _ _ hK))) a hA)) (fun hK => (W.WP.exit (c := C66) (id := 4) (by kernel_rfl) fun a hA => (KE_S27_ok R _ _ hK) a hA)) hK) a hA) (ha.cons hq0 (ha.cons hq7 (ha.cons hq9 (ha.cons hq11 (ha.cons hq12 (ha.cons hq13 (ha.cons hq14 ha.nil)))))))
theorem L22_step (window0 : Int) (a7 : Option Addr) (n9 k11 i12 : Int) (p13 : W.Sl) (j14 : Int) (w : World) (R : W.Post) (h : S23 window0 a7 n9 k11 i12 p13 j14 w R) : L22 window0 a7 n9 k11 i12 p13 j14 w R :=
  W.LP.step (c := C51) (E := [(0, .int .i64 window0), (7, .pointer a7), (9, .int .i64 n9), (11, .int .i64 k11), (12, .int .i64 i12), (13, p13.v), (14, .int .i64 j14)]) (w := w) (W.WP.seq (c := C51) (x := C62) (y := C52) (by kernel_rfl) (KE_S23_ok R _ _ (Eq.mp (by kernel_rfl) h)))
noncomputable def C67 : Code := W.Code.fst C46
/-- law.go:240 -/
def S21 (window0 : Int) (a7 : Option Addr) (n9 k11 i12 : Int) (p13 : W.Sl) (w : World) (R : W.Post) : Prop :=
  L22 window0 a7 n9 k11 i12 p13 0 w R
def KE_S21 (E : W.Env) (w : World) (R : W.Post) : Prop := W.asInt .i64 (W.Env.get? E 0) fun window0 => W.asPtr (W.Env.get? E 7) fun a7 => W.asInt .i64 (W.Env.get? E 9) fun n9 => W.asInt .i64 (W.Env.get? E 11) fun k11 => W.asInt .i64 (W.Env.get? E 12) fun i12 => W.asSlice (W.Env.get? E 13) fun p13 => S21 window0 a7 n9 k11 i12 p13 w R
theorem KE_S21_ok (R : W.Post) (E : W.Env) (w : World) (h : KE_S21 E w R) : W.WP Try.prog 149 C46 (Q11 R) E w := by
  obtain ⟨window0, hq0, h1⟩ := W.asInt_elim h
  obtain ⟨a7, hq7, h2⟩ := W.asPtr_elim h1
  obtain ⟨n9, hq9, h3⟩ := W.asInt_elim h2
  obtain ⟨k11, hq11, h4⟩ := W.asInt_elim h3
  obtain ⟨i12, hq12, h5⟩ := W.asInt_elim h4
  obtain ⟨p13, hq13, h6⟩ := W.asSlice_elim h5
  exact fun a ha => W.WP.at (E := [(0, .int .i64 window0), (7, .pointer a7), (9, .int .i64 n9), (11, .int .i64 k11), (12, .int .i64 i12), (13, p13.v)]) (W.WP.seq (c := C46) (x := C67) (y := C49) (by kernel_rfl) <| W.WP.reg (c := C67) (fun E w => KE_L22 E w R) (by kernel_rfl) (Eq.mp (by kernel_rfl) h6) fun _ _ a hA hK => (W.WP.block (c := C49) (x := C50) (id := 4) (by kernel_rfl) (W.WP.loop (c := C50) (x := C51) (by kernel_rfl) (KE_L22_ok R _ _ hK))) a hA) (ha.cons hq0 (ha.cons hq7 (ha.cons hq9 (ha.cons hq11 (ha.cons hq12 (ha.cons hq13 ha.nil))))))
noncomputable def C68 : Code := W.Code.fst C42
noncomputable def C69 : Code := W.Code.snd C43
/-- law.go:237 -/
def S19 (window0 : Int) (a7 : Option Addr) (n9 k11 i12 : Int) (p13 : W.Sl) (w : World) (R : W.Post) : Prop :=
  W.sel (((p13.n : Nat) : Int) != (if window0 < n9 then window0 else n9)) (S20  w R) (S21 window0 a7 n9 k11 i12 p13 w R)
def KE_S19 (E : W.Env) (w : World) (R : W.Post) : Prop := W.asInt .i64 (W.Env.get? E 0) fun window0 => W.asPtr (W.Env.get? E 7) fun a7 => W.asInt .i64 (W.Env.get? E 9) fun n9 => W.asInt .i64 (W.Env.get? E 11) fun k11 => W.asInt .i64 (W.Env.get? E 12) fun i12 => W.asSlice (W.Env.get? E 13) fun p13 => S19 window0 a7 n9 k11 i12 p13 w R
theorem KE_S19_ok (R : W.Post) (E : W.Env) (w : World) (h : KE_S19 E w R) : W.WP Try.prog 149 C42 (Q10 R) E w := by
  obtain ⟨window0, hq0, h1⟩ := W.asInt_elim h
  obtain ⟨a7, hq7, h2⟩ := W.asPtr_elim h1
  obtain ⟨n9, hq9, h3⟩ := W.asInt_elim h2
  obtain ⟨k11, hq11, h4⟩ := W.asInt_elim h3
  obtain ⟨i12, hq12, h5⟩ := W.asInt_elim h4
  obtain ⟨p13, hq13, h6⟩ := W.asSlice_elim h5
  exact fun a ha => W.WP.at (E := [(0, .int .i64 window0), (7, .pointer a7), (9, .int .i64 n9), (11, .int .i64 k11), (12, .int .i64 i12), (13, p13.v)]) (W.WP.seq (c := C42) (x := C68) (y := C43) (by kernel_rfl) <| W.WP.reg (c := C68) (fun E w => W.condK (W.Env.val E (.tmp 72)) (KE_S20 E w R) (KE_S21 E w R)) (by kernel_rfl) (Eq.mp (by kernel_rfl) h6) fun _ _ a hA hK => (W.WP.condK (c := C43) (x := C44) (y := C69) (o := .tmp 72) (by kernel_rfl) (fun hK => (KE_S20_ok R _ _ hK)) (fun hK => (W.WP.skip (c := C69) (by kernel_rfl) fun a hA => (KE_S21_ok R _ _ hK) a hA)) hK) a hA) (ha.cons hq0 (ha.cons hq7 (ha.cons hq9 (ha.cons hq11 (ha.cons hq12 (ha.cons hq13 ha.nil))))))
noncomputable def C70 : Code := W.Code.fst C40
/-- law.go:236 -/
def S18 (window0 : Int) (a7 : Option Addr) (n9 k11 i12 : Int) (w : World) (R : W.Post) : Prop :=
  Calls Try.prog n_channel_End_Out #[.pointer a7] w fun r_ w1 => ∃ t66 : W.Sl, r_ = .returned (t66.v) ∧ 
  S19 window0 a7 n9 k11 i12 t66 w1 R
def KE_S18 (E : W.Env) (w : World) (R : W.Post) : Prop := W.asInt .i64 (W.Env.get? E 0) fun window0 => W.asPtr (W.Env.get? E 7) fun a7 => W.asInt .i64 (W.Env.get? E 9) fun n9 => W.asInt .i64 (W.Env.get? E 11) fun k11 => W.asInt .i64 (W.Env.get? E 12) fun i12 => S18 window0 a7 n9 k11 i12 w R
theorem KE_S18_ok (R : W.Post) (E : W.Env) (w : World) (h : KE_S18 E w R) : W.WP Try.prog 149 C40 (Q11 R) E w := by
  obtain ⟨window0, hq0, h1⟩ := W.asInt_elim h
  obtain ⟨a7, hq7, h2⟩ := W.asPtr_elim h1
  obtain ⟨n9, hq9, h3⟩ := W.asInt_elim h2
  obtain ⟨k11, hq11, h4⟩ := W.asInt_elim h3
  obtain ⟨i12, hq12, h5⟩ := W.asInt_elim h4
  exact fun a ha => W.WP.at (E := [(0, .int .i64 window0), (7, .pointer a7), (9, .int .i64 n9), (11, .int .i64 k11), (12, .int .i64 i12)]) (W.WP.seq (c := C40) (x := C70) (y := C41) (by kernel_rfl) <| W.WP.reg (c := C70) (fun E w => KE_S19 E w R) (by kernel_rfl) (Eq.mp (by kernel_rfl) h5) fun _ _ a hA hK => (W.WP.seq (c := C41) (x := C42) (y := C46) (by kernel_rfl) (KE_S19_ok R _ _ hK)) a hA) (ha.cons hq0 (ha.cons hq7 (ha.cons hq9 (ha.cons hq11 (ha.cons hq12 ha.nil)))))
noncomputable def C71 : Code := W.Code.snd C37
noncomputable def C72 : Code := W.Code.fst C71
noncomputable def C73 : Code := W.Code.snd C72
noncomputable def C74 : Code := W.Code.fst C73
noncomputable def C75 : Code := W.Code.snd C71
abbrev Q18 (R : W.Post) : Exit → Act → World → Prop := (Exit.then (Code.wp Try.prog C75 (bodyPost Try.prog Try.f6 R)) (bodyPost Try.prog Try.f6 R))
noncomputable def C76 : Code := W.Code.fst C74
noncomputable def C77 : Code := W.Code.snd C74
/-- law.go:248 -/
def S30  (w : World) (R : W.Post) : Prop :=
  R (.returned (.bool false)) w
def KE_S30 (E : W.Env) (w : World) (R : W.Post) : Prop := S30  w R
theorem KE_S30_ok (R : W.Post) (E : W.Env) (w : World) (h : KE_S30 E w R) : W.WP Try.prog 149 C74 (Q18 R) E w := by
  exact fun a ha => W.WP.at (E := []) (W.WP.seq (c := C74) (x := C76) (y := C77) (by kernel_rfl) <| W.WP.reg (c := C76) (fun E w => W.retVC Try.prog Try.f6 E w (fun v => R (.returned v) w)) (by kernel_rfl) (Eq.mp (by kernel_rfl) h) fun _ _ a hA hK => (W.WP.ret (c := C77) (by kernel_rfl) fun a hA => W.retVC_sound hA hK) a hA) ha.nil
noncomputable def C78 : Code := W.Code.snd C75
noncomputable def C79 : Code := W.Code.snd C78
abbrev Q19 (R : W.Post) : Exit → Act → World → Prop := (bodyPost Try.prog Try.f6 R)
noncomputable def C80 : Code := W.Code.fst C79
noncomputable def C81 : Code := W.Code.snd C79
/-- law.go:252 -/
def S33 (window0 : Int) (a7 : Option Addr) (n9 k11 : Int) (p15 : W.Sl) (w : World) (R : W.Post) : Prop :=
  Calls Try.prog n_channel_End_Waiting #[.pointer a7] w fun r_ w1 => ∃ t111 : Int, r_ = .returned (.int .i64 t111) ∧ 
  W.sel (t111 == (IntKind.wrap .i64 (n9 - k11))) (W.sel (((p15.n : Nat) : Int) == (if window0 < IntKind.wrap .i64 (n9 - k11) then window0 else IntKind.wrap .i64 (n9 - k11))) (W.sel (((p15.n : Nat) : Int) == 0) (∃ (t142 : W.Sl) (w2 : World), Sem.run Try.prog (Instr.makeSlice ty_sl_uint8 (.int .i64 65537) (.int .i64 65537)) w1 = .ok (t142.v) w2 ∧ Calls Try.prog n_channel_End_Send #[.pointer a7, t142.v] w2 fun r_ w3 => ∃ t143 : Int, r_ = .returned (.int .i64 t143) ∧ 
  W.sel (t143 == 4) (Calls Try.prog n_enthymemelaw38_lives #[] w3 fun r_ w4 => ∃ t147 : Bool, r_ = .returned (.bool t147) ∧ 
  R (.returned (.bool t147)) w4) (R (.returned (.bool false)) w3)) ((0 : Int) ≤ 0 ∧ 0 < ((p15.n : Nat) : Int) ∧ W.optP p15.a fun t132_p => ∃ t134 : Int, w1.cell? ((t132_p.add (Int.toNat 0 * 3)).add 0) = some (.int .i64 t134) ∧ 
  W.sel (t134 == (IntKind.wrap .i64 (k11 + 1))) (∃ (t142 : W.Sl) (w5 : World), Sem.run Try.prog (Instr.makeSlice ty_sl_uint8 (.int .i64 65537) (.int .i64 65537)) w1 = .ok (t142.v) w5 ∧ Calls Try.prog n_channel_End_Send #[.pointer a7, t142.v] w5 fun r_ w6 => ∃ t143 : Int, r_ = .returned (.int .i64 t143) ∧ 
  W.sel (t143 == 4) (Calls Try.prog n_enthymemelaw38_lives #[] w6 fun r_ w7 => ∃ t147 : Bool, r_ = .returned (.bool t147) ∧ 
  R (.returned (.bool t147)) w7) (R (.returned (.bool false)) w6)) (R (.returned (.bool false)) w1))) (R (.returned (.bool false)) w1)) (R (.returned (.bool false)) w1)
def KE_S33 (E : W.Env) (w : World) (R : W.Post) : Prop := W.asInt .i64 (W.Env.get? E 0) fun window0 => W.asPtr (W.Env.get? E 7) fun a7 => W.asInt .i64 (W.Env.get? E 9) fun n9 => W.asInt .i64 (W.Env.get? E 11) fun k11 => W.asSlice (W.Env.get? E 15) fun p15 => S33 window0 a7 n9 k11 p15 w R
theorem KE_S33_ok (R : W.Post) (E : W.Env) (w : World) (h : KE_S33 E w R) : W.WP Try.prog 149 C79 (Q19 R) E w := by
  obtain ⟨window0, hq0, h1⟩ := W.asInt_elim h
  obtain ⟨a7, hq7, h2⟩ := W.asPtr_elim h1
  obtain ⟨n9, hq9, h3⟩ := W.asInt_elim h2
  obtain ⟨k11, hq11, h4⟩ := W.asInt_elim h3
  obtain ⟨p15, hq15, h5⟩ := W.asSlice_elim h4
  exact fun a ha => W.WP.at (E := [(0, .int .i64 window0), (7, .pointer a7), (9, .int .i64 n9), (11, .int .i64 k11), (15, p15.v)]) (W.WP.seq (c := C79) (x := C80) (y := C81) (by kernel_rfl) <| W.WP.reg (c := C80) (fun E w => W.retVC Try.prog Try.f6 E w (fun v => R (.returned v) w)) (by kernel_rfl) (Eq.mp (by kernel_rfl) h5) fun _ _ a hA hK => (W.WP.ret (c := C81) (by kernel_rfl) fun a hA => W.retVC_sound hA hK) a hA) (ha.cons hq0 (ha.cons hq7 (ha.cons hq9 (ha.cons hq11 (ha.cons hq15 ha.nil)))))
noncomputable def C82 : Code := W.Code.fst C78
/-- law.go:251 -/
def S32 (window0 : Int) (a7 : Option Addr) (n9 k11 : Int) (w : World) (R : W.Post) : Prop :=
  Calls Try.prog n_channel_End_Out #[.pointer a7] w fun r_ w1 => ∃ t109 : W.Sl, r_ = .returned (t109.v) ∧ 
  S33 window0 a7 n9 k11 t109 w1 R
def KE_S32 (E : W.Env) (w : World) (R : W.Post) : Prop := W.asInt .i64 (W.Env.get? E 0) fun window0 => W.asPtr (W.Env.get? E 7) fun a7 => W.asInt .i64 (W.Env.get? E 9) fun n9 => W.asInt .i64 (W.Env.get? E 11) fun k11 => S32 window0 a7 n9 k11 w R
theorem KE_S32_ok (R : W.Post) (E : W.Env) (w : World) (h : KE_S32 E w R) : W.WP Try.prog 149 C78 (Q19 R) E w := by
  obtain ⟨window0, hq0, h1⟩ := W.asInt_elim h
  obtain ⟨a7, hq7, h2⟩ := W.asPtr_elim h1
  obtain ⟨n9, hq9, h3⟩ := W.asInt_elim h2
  obtain ⟨k11, hq11, h4⟩ := W.asInt_elim h3
  exact fun a ha => W.WP.at (E := [(0, .int .i64 window0), (7, .pointer a7), (9, .int .i64 n9), (11, .int .i64 k11)]) (W.WP.seq (c := C78) (x := C82) (y := C79) (by kernel_rfl) <| W.WP.reg (c := C82) (fun E w => KE_S33 E w R) (by kernel_rfl) (Eq.mp (by kernel_rfl) h4) fun _ _ a hA hK => (KE_S33_ok R _ _ hK) a hA) (ha.cons hq0 (ha.cons hq7 (ha.cons hq9 (ha.cons hq11 ha.nil))))
noncomputable def C83 : Code := W.Code.fst C75
/-- law.go:250 -/
def S31 (window0 : Int) (a7 : Option Addr) (n9 k11 : Int) (w : World) (R : W.Post) : Prop :=
  Calls Try.prog n_channel_End_In #[.pointer a7, .agg #[.int .i64 0, .int .i64 k11, .slice none 0 0]] w fun r_ w1 => ∃ t107 : W.Sl, r_ = .returned (t107.v) ∧ 
  S32 window0 a7 n9 k11 w1 R
def KE_S31 (E : W.Env) (w : World) (R : W.Post) : Prop := W.asInt .i64 (W.Env.get? E 0) fun window0 => W.asPtr (W.Env.get? E 7) fun a7 => W.asInt .i64 (W.Env.get? E 9) fun n9 => W.asInt .i64 (W.Env.get? E 11) fun k11 => S31 window0 a7 n9 k11 w R
theorem KE_S31_ok (R : W.Post) (E : W.Env) (w : World) (h : KE_S31 E w R) : W.WP Try.prog 149 C75 (Q19 R) E w := by
  obtain ⟨window0, hq0, h1⟩ := W.asInt_elim h
  obtain ⟨a7, hq7, h2⟩ := W.asPtr_elim h1
  obtain ⟨n9, hq9, h3⟩ := W.asInt_elim h2
  obtain ⟨k11, hq11, h4⟩ := W.asInt_elim h3
  exact fun a ha => W.WP.at (E := [(0, .int .i64 window0), (7, .pointer a7), (9, .int .i64 n9), (11, .int .i64 k11)]) (W.WP.seq (c := C75) (x := C83) (y := C78) (by kernel_rfl) <| W.WP.reg (c := C83) (fun E w => KE_S32 E w R) (by kernel_rfl) (Eq.mp (by kernel_rfl) h4) fun _ _ a hA hK => (KE_S32_ok R _ _ hK) a hA) (ha.cons hq0 (ha.cons hq7 (ha.cons hq9 (ha.cons hq11 ha.nil))))
noncomputable def C84 : Code := W.Code.fst C72
noncomputable def C85 : Code := W.Code.snd C73
/-- law.go:247 -/
def S29 (window0 : Int) (a7 : Option Addr) (n9 k11 : Int) (w : World) (R : W.Post) : Prop :=
  Calls Try.prog n_channel_End_Waiting #[.pointer a7] w fun r_ w1 => ∃ t101 : Int, r_ = .returned (.int .i64 t101) ∧ 
  W.sel (t101 != n9) (S30  w1 R) (S31 window0 a7 n9 k11 w1 R)
def KE_S29 (E : W.Env) (w : World) (R : W.Post) : Prop := W.asInt .i64 (W.Env.get? E 0) fun window0 => W.asPtr (W.Env.get? E 7) fun a7 => W.asInt .i64 (W.Env.get? E 9) fun n9 => W.asInt .i64 (W.Env.get? E 11) fun k11 => S29 window0 a7 n9 k11 w R
theorem KE_S29_ok (R : W.Post) (E : W.Env) (w : World) (h : KE_S29 E w R) : W.WP Try.prog 149 C72 (Q18 R) E w := by
  obtain ⟨window0, hq0, h1⟩ := W.asInt_elim h
  obtain ⟨a7, hq7, h2⟩ := W.asPtr_elim h1
  obtain ⟨n9, hq9, h3⟩ := W.asInt_elim h2
  obtain ⟨k11, hq11, h4⟩ := W.asInt_elim h3
  exact fun a ha => W.WP.at (E := [(0, .int .i64 window0), (7, .pointer a7), (9, .int .i64 n9), (11, .int .i64 k11)]) (W.WP.seq (c := C72) (x := C84) (y := C73) (by kernel_rfl) <| W.WP.reg (c := C84) (fun E w => W.condK (W.Env.val E (.tmp 103)) (KE_S30 E w R) (KE_S31 E w R)) (by kernel_rfl) (Eq.mp (by kernel_rfl) h4) fun _ _ a hA hK => (W.WP.condK (c := C73) (x := C74) (y := C85) (o := .tmp 103) (by kernel_rfl) (fun hK => (KE_S30_ok R _ _ hK)) (fun hK => (W.WP.skip (c := C85) (by kernel_rfl) fun a hA => (KE_S31_ok R _ _ hK) a hA)) hK) a hA) (ha.cons hq0 (ha.cons hq7 (ha.cons hq9 (ha.cons hq11 ha.nil))))
noncomputable def C86 : Code := W.Code.fst C37
/-- law.go:246 -/
def S28 (window0 : Int) (a7 : Option Addr) (n9 k11 : Int) (w : World) (R : W.Post) : Prop :=
  Calls Try.prog n_channel_End_In #[.pointer a7, .agg #[.int .i64 0, .int .i64 (IntKind.wrap .i64 (n9 + 1)), .slice none 0 0]] w fun r_ w1 => ∃ t99 : W.Sl, r_ = .returned (t99.v) ∧ 
  S29 window0 a7 n9 k11 w1 R
def KE_S28 (E : W.Env) (w : World) (R : W.Post) : Prop := W.asInt .i64 (W.Env.get? E 0) fun window0 => W.asPtr (W.Env.get? E 7) fun a7 => W.asInt .i64 (W.Env.get? E 9) fun n9 => W.asInt .i64 (W.Env.get? E 11) fun k11 => S28 window0 a7 n9 k11 w R
theorem KE_S28_ok (R : W.Post) (E : W.Env) (w : World) (h : KE_S28 E w R) : W.WP Try.prog 149 C37 (Q19 R) E w := by
  obtain ⟨window0, hq0, h1⟩ := W.asInt_elim h
  obtain ⟨a7, hq7, h2⟩ := W.asPtr_elim h1
  obtain ⟨n9, hq9, h3⟩ := W.asInt_elim h2
  obtain ⟨k11, hq11, h4⟩ := W.asInt_elim h3
  exact fun a ha => W.WP.at (E := [(0, .int .i64 window0), (7, .pointer a7), (9, .int .i64 n9), (11, .int .i64 k11)]) (W.WP.seq (c := C37) (x := C86) (y := C71) (by kernel_rfl) <| W.WP.reg (c := C86) (fun E w => KE_S29 E w R) (by kernel_rfl) (Eq.mp (by kernel_rfl) h4) fun _ _ a hA hK => (W.WP.seq (c := C71) (x := C72) (y := C75) (by kernel_rfl) (KE_S29_ok R _ _ hK)) a hA) (ha.cons hq0 (ha.cons hq7 (ha.cons hq9 (ha.cons hq11 ha.nil))))
noncomputable def C87 : Code := W.Code.fst C36
abbrev Q20 (R : W.Post) : Exit → Act → World → Prop := (Exit.then (Code.wp Try.prog C38 (Exit.then (W.LoopWP Try.prog C36 (Q8 R)) (Q8 R))) (Exit.then (W.LoopWP Try.prog C36 (Q8 R)) (Q8 R)))
noncomputable def C88 : Code := W.Code.fst C87
noncomputable def C89 : Code := W.Code.snd C87
noncomputable def C90 : Code := W.Code.fst C89
noncomputable def C91 : Code := W.Code.snd C89
/-- law.go:235 -/
def S17 (window0 : Int) (a7 : Option Addr) (n9 k11 i12 : Int) (w : World) (R : W.Post) : Prop :=
  W.sel (decide (i12 < 2)) (S18 window0 a7 n9 k11 i12 w R) (S28 window0 a7 n9 k11 w R)
def KE_S17 (E : W.Env) (w : World) (R : W.Post) : Prop := W.asInt .i64 (W.Env.get? E 0) fun window0 => W.asPtr (W.Env.get? E 7) fun a7 => W.asInt .i64 (W.Env.get? E 9) fun n9 => W.asInt .i64 (W.Env.get? E 11) fun k11 => W.asInt .i64 (W.Env.get? E 12) fun i12 => S17 window0 a7 n9 k11 i12 w R
theorem KE_S17_ok (R : W.Post) (E : W.Env) (w : World) (h : KE_S17 E w R) : W.WP Try.prog 149 C87 (Q20 R) E w := by
  obtain ⟨window0, hq0, h1⟩ := W.asInt_elim h
  obtain ⟨a7, hq7, h2⟩ := W.asPtr_elim h1
  obtain ⟨n9, hq9, h3⟩ := W.asInt_elim h2
  obtain ⟨k11, hq11, h4⟩ := W.asInt_elim h3
  obtain ⟨i12, hq12, h5⟩ := W.asInt_elim h4
  exact fun a ha => W.WP.at (E := [(0, .int .i64 window0), (7, .pointer a7), (9, .int .i64 n9), (11, .int .i64 k11), (12, .int .i64 i12)]) (W.WP.seq (c := C87) (x := C88) (y := C89) (by kernel_rfl) <| W.WP.reg (c := C88) (fun E w => W.condK (W.Env.val E (.tmp 62)) (KE_S18 E w R) (KE_S28 E w R)) (by kernel_rfl) (Eq.mp (by kernel_rfl) h5) fun _ _ a hA hK => (W.WP.condK (c := C89) (x := C90) (y := C91) (o := .tmp 62) (by kernel_rfl) (fun hK => (W.WP.skip (c := C90) (by kernel_rfl) fun a hA => (W.WP.seq (c := C38) (x := C39) (y := C45) (by kernel_rfl) (W.WP.block (c := C39) (x := C40) (id := 3) (by kernel_rfl) (KE_S18_ok R _ _ hK))) a hA)) (fun hK => (W.WP.exit (c := C91) (id := 2) (by kernel_rfl) fun a hA => (KE_S28_ok R _ _ hK) a hA)) hK) a hA) (ha.cons hq0 (ha.cons hq7 (ha.cons hq9 (ha.cons hq11 (ha.cons hq12 ha.nil)))))
theorem L16_step (window0 : Int) (a7 : Option Addr) (n9 k11 i12 : Int) (w : World) (R : W.Post) (h : S17 window0 a7 n9 k11 i12 w R) : L16 window0 a7 n9 k11 i12 w R :=
  W.LP.step (c := C36) (E := [(0, .int .i64 window0), (7, .pointer a7), (9, .int .i64 n9), (11, .int .i64 k11), (12, .int .i64 i12)]) (w := w) (W.WP.seq (c := C36) (x := C87) (y := C38) (by kernel_rfl) (KE_S17_ok R _ _ (Eq.mp (by kernel_rfl) h)))
noncomputable def C92 : Code := W.Code.fst C33
/-- law.go:235 -/
def S15 (window0 : Int) (a7 : Option Addr) (n9 k11 : Int) (w : World) (R : W.Post) : Prop :=
  L16 window0 a7 n9 k11 0 w R
def KE_S15 (E : W.Env) (w : World) (R : W.Post) : Prop := W.asInt .i64 (W.Env.get? E 0) fun window0 => W.asPtr (W.Env.get? E 7) fun a7 => W.asInt .i64 (W.Env.get? E 9) fun n9 => W.asInt .i64 (W.Env.get? E 11) fun k11 => S15 window0 a7 n9 k11 w R
theorem KE_S15_ok (R : W.Post) (E : W.Env) (w : World) (h : KE_S15 E w R) : W.WP Try.prog 149 C33 (Q7 R) E w := by
  obtain ⟨window0, hq0, h1⟩ := W.asInt_elim h
  obtain ⟨a7, hq7, h2⟩ := W.asPtr_elim h1
  obtain ⟨n9, hq9, h3⟩ := W.asInt_elim h2
  obtain ⟨k11, hq11, h4⟩ := W.asInt_elim h3
  exact fun a ha => W.WP.at (E := [(0, .int .i64 window0), (7, .pointer a7), (9, .int .i64 n9), (11, .int .i64 k11)]) (W.WP.seq (c := C33) (x := C92) (y := C34) (by kernel_rfl) <| W.WP.reg (c := C92) (fun E w => KE_L16 E w R) (by kernel_rfl) (Eq.mp (by kernel_rfl) h4) fun _ _ a hA hK => (W.WP.block (c := C34) (x := C35) (id := 2) (by kernel_rfl) (W.WP.loop (c := C35) (x := C36) (by kernel_rfl) (KE_L16_ok R _ _ hK))) a hA) (ha.cons hq0 (ha.cons hq7 (ha.cons hq9 (ha.cons hq11 ha.nil))))
noncomputable def C93 : Code := W.Code.fst C31
/-- law.go:234 -/
def S14 (window0 ack2 : Int) (a7 : Option Addr) (n9 : Int) (w : World) (R : W.Post) : Prop :=
  Calls Try.prog n_enthymemeref01_Around #[.int .i64 ack2, .int .i64 (IntKind.wrap .i64 (n9 + 1))] w fun r_ w1 => ∃ t60 : Int, r_ = .returned (.int .i64 t60) ∧ 
  S15 window0 a7 n9 t60 w1 R
def KE_S14 (E : W.Env) (w : World) (R : W.Post) : Prop := W.asInt .i64 (W.Env.get? E 0) fun window0 => W.asInt .i64 (W.Env.get? E 2) fun ack2 => W.asPtr (W.Env.get? E 7) fun a7 => W.asInt .i64 (W.Env.get? E 9) fun n9 => S14 window0 ack2 a7 n9 w R
theorem KE_S14_ok (R : W.Post) (E : W.Env) (w : World) (h : KE_S14 E w R) : W.WP Try.prog 149 C31 (Q19 R) E w := by
  obtain ⟨window0, hq0, h1⟩ := W.asInt_elim h
  obtain ⟨ack2, hq2, h2⟩ := W.asInt_elim h1
  obtain ⟨a7, hq7, h3⟩ := W.asPtr_elim h2
  obtain ⟨n9, hq9, h4⟩ := W.asInt_elim h3
  exact fun a ha => W.WP.at (E := [(0, .int .i64 window0), (2, .int .i64 ack2), (7, .pointer a7), (9, .int .i64 n9)]) (W.WP.seq (c := C31) (x := C93) (y := C32) (by kernel_rfl) <| W.WP.reg (c := C93) (fun E w => KE_S15 E w R) (by kernel_rfl) (Eq.mp (by kernel_rfl) h4) fun _ _ a hA hK => (W.WP.seq (c := C32) (x := C33) (y := C37) (by kernel_rfl) (KE_S15_ok R _ _ hK)) a hA) (ha.cons hq0 (ha.cons hq2 (ha.cons hq7 (ha.cons hq9 ha.nil))))
noncomputable def C94 : Code := W.Code.fst C20
/-- law.go:233 -/
def S13 (window0 ack2 : Int) (a7 : Option Addr) (n9 : Int) (w : World) (R : W.Post) : Prop :=
  S14 window0 ack2 a7 (if 1000 < n9 then 1000 else n9) w R
def KE_S13 (E : W.Env) (w : World) (R : W.Post) : Prop := W.asInt .i64 (W.Env.get? E 0) fun window0 => W.asInt .i64 (W.Env.get? E 2) fun ack2 => W.asPtr (W.Env.get? E 7) fun a7 => W.asInt .i64 (W.Env.get? E 9) fun n9 => S13 window0 ack2 a7 n9 w R
theorem KE_S13_ok (R : W.Post) (E : W.Env) (w : World) (h : KE_S13 E w R) : W.WP Try.prog 149 C20 (Q19 R) E w := by
  obtain ⟨window0, hq0, h1⟩ := W.asInt_elim h
  obtain ⟨ack2, hq2, h2⟩ := W.asInt_elim h1
  obtain ⟨a7, hq7, h3⟩ := W.asPtr_elim h2
  obtain ⟨n9, hq9, h4⟩ := W.asInt_elim h3
  exact fun a ha => W.WP.at (E := [(0, .int .i64 window0), (2, .int .i64 ack2), (7, .pointer a7), (9, .int .i64 n9)]) (W.WP.seq (c := C20) (x := C94) (y := C31) (by kernel_rfl) <| W.WP.reg (c := C94) (fun E w => KE_S14 E w R) (by kernel_rfl) (Eq.mp (by kernel_rfl) h4) fun _ _ a hA hK => (KE_S14_ok R _ _ hK) a hA) (ha.cons hq0 (ha.cons hq2 (ha.cons hq7 (ha.cons hq9 ha.nil))))
noncomputable def C95 : Code := W.Code.fst C19
abbrev Q21 (R : W.Post) : Exit → Act → World → Prop := (Exit.then (Code.wp Try.prog C21 (Exit.then (W.LoopWP Try.prog C19 (Q3 R)) (Q3 R))) (Exit.then (W.LoopWP Try.prog C19 (Q3 R)) (Q3 R)))
noncomputable def C96 : Code := W.Code.fst C95
noncomputable def C97 : Code := W.Code.snd C95
noncomputable def C98 : Code := W.Code.fst C97
noncomputable def C99 : Code := W.Code.snd C97
/-- law.go:228 -/
def S9 (window0 ack2 : Int) (a7 : Option Addr) (n9 i10 : Int) (w : World) (R : W.Post) : Prop :=
  W.sel (decide (i10 < n9)) (S10 window0 ack2 a7 n9 i10 w R) (S13 window0 ack2 a7 n9 w R)
def KE_S9 (E : W.Env) (w : World) (R : W.Post) : Prop := W.asInt .i64 (W.Env.get? E 0) fun window0 => W.asInt .i64 (W.Env.get? E 2) fun ack2 => W.asPtr (W.Env.get? E 7) fun a7 => W.asInt .i64 (W.Env.get? E 9) fun n9 => W.asInt .i64 (W.Env.get? E 10) fun i10 => S9 window0 ack2 a7 n9 i10 w R
theorem KE_S9_ok (R : W.Post) (E : W.Env) (w : World) (h : KE_S9 E w R) : W.WP Try.prog 149 C95 (Q21 R) E w := by
  obtain ⟨window0, hq0, h1⟩ := W.asInt_elim h
  obtain ⟨ack2, hq2, h2⟩ := W.asInt_elim h1
  obtain ⟨a7, hq7, h3⟩ := W.asPtr_elim h2
  obtain ⟨n9, hq9, h4⟩ := W.asInt_elim h3
  obtain ⟨i10, hq10, h5⟩ := W.asInt_elim h4
  exact fun a ha => W.WP.at (E := [(0, .int .i64 window0), (2, .int .i64 ack2), (7, .pointer a7), (9, .int .i64 n9), (10, .int .i64 i10)]) (W.WP.seq (c := C95) (x := C96) (y := C97) (by kernel_rfl) <| W.WP.reg (c := C96) (fun E w => W.condK (W.Env.val E (.tmp 46)) (KE_S10 E w R) (KE_S13 E w R)) (by kernel_rfl) (Eq.mp (by kernel_rfl) h5) fun _ _ a hA hK => (W.WP.condK (c := C97) (x := C98) (y := C99) (o := .tmp 46) (by kernel_rfl) (fun hK => (W.WP.skip (c := C98) (by kernel_rfl) fun a hA => (W.WP.seq (c := C21) (x := C22) (y := C26) (by kernel_rfl) (W.WP.block (c := C22) (x := C23) (id := 1) (by kernel_rfl) (KE_S10_ok R _ _ hK))) a hA)) (fun hK => (W.WP.exit (c := C99) (id := 0) (by kernel_rfl) fun a hA => (KE_S13_ok R _ _ hK) a hA)) hK) a hA) (ha.cons hq0 (ha.cons hq2 (ha.cons hq7 (ha.cons hq9 (ha.cons hq10 ha.nil)))))
theorem L8_step (window0 ack2 : Int) (a7 : Option Addr) (n9 i10 : Int) (w : World) (R : W.Post) (h : S9 window0 ack2 a7 n9 i10 w R) : L8 window0 ack2 a7 n9 i10 w R :=
  W.LP.step (c := C19) (E := [(0, .int .i64 window0), (2, .int .i64 ack2), (7, .pointer a7), (9, .int .i64 n9), (10, .int .i64 i10)]) (w := w) (W.WP.seq (c := C19) (x := C95) (y := C21) (by kernel_rfl) (KE_S9_ok R _ _ (Eq.mp (by kernel_rfl) h)))
noncomputable def C100 : Code := W.Code.fst C16
/-- law.go:228 -/
def S7 (window0 ack2 : Int) (a7 : Option Addr) (n9 : Int) (w : World) (R : W.Post) : Prop :=
  L8 window0 ack2 a7 n9 0 w R
def KE_S7 (E : W.Env) (w : World) (R : W.Post) : Prop := W.asInt .i64 (W.Env.get? E 0) fun window0 => W.asInt .i64 (W.Env.get? E 2) fun ack2 => W.asPtr (W.Env.get? E 7) fun a7 => W.asInt .i64 (W.Env.get? E 9) fun n9 => S7 window0 ack2 a7 n9 w R
theorem KE_S7_ok (R : W.Post) (E : W.Env) (w : World) (h : KE_S7 E w R) : W.WP Try.prog 149 C16 (Q2 R) E w := by
  obtain ⟨window0, hq0, h1⟩ := W.asInt_elim h
  obtain ⟨ack2, hq2, h2⟩ := W.asInt_elim h1
  obtain ⟨a7, hq7, h3⟩ := W.asPtr_elim h2
  obtain ⟨n9, hq9, h4⟩ := W.asInt_elim h3
  exact fun a ha => W.WP.at (E := [(0, .int .i64 window0), (2, .int .i64 ack2), (7, .pointer a7), (9, .int .i64 n9)]) (W.WP.seq (c := C16) (x := C100) (y := C17) (by kernel_rfl) <| W.WP.reg (c := C100) (fun E w => KE_L8 E w R) (by kernel_rfl) (Eq.mp (by kernel_rfl) h4) fun _ _ a hA hK => (W.WP.block (c := C17) (x := C18) (id := 0) (by kernel_rfl) (W.WP.loop (c := C18) (x := C19) (by kernel_rfl) (KE_L8_ok R _ _ hK))) a hA) (ha.cons hq0 (ha.cons hq2 (ha.cons hq7 (ha.cons hq9 ha.nil))))
noncomputable def C101 : Code := W.Code.fst C12
/-- law.go:227 -/
def S6 (window0 many1 ack2 : Int) (a7 : Option Addr) (w : World) (R : W.Post) : Prop :=
  Calls Try.prog n_enthymemeref01_Around #[.int .i64 many1, .int .i64 1003] w fun r_ w1 => ∃ t43 : Int, r_ = .returned (.int .i64 t43) ∧ 
  S7 window0 ack2 a7 t43 w1 R
def KE_S6 (E : W.Env) (w : World) (R : W.Post) : Prop := W.asInt .i64 (W.Env.get? E 0) fun window0 => W.asInt .i64 (W.Env.get? E 1) fun many1 => W.asInt .i64 (W.Env.get? E 2) fun ack2 => W.asPtr (W.Env.get? E 7) fun a7 => S6 window0 many1 ack2 a7 w R
theorem KE_S6_ok (R : W.Post) (E : W.Env) (w : World) (h : KE_S6 E w R) : W.WP Try.prog 149 C12 (Q19 R) E w := by
  obtain ⟨window0, hq0, h1⟩ := W.asInt_elim h
  obtain ⟨many1, hq1, h2⟩ := W.asInt_elim h1
  obtain ⟨ack2, hq2, h3⟩ := W.asInt_elim h2
  obtain ⟨a7, hq7, h4⟩ := W.asPtr_elim h3
  exact fun a ha => W.WP.at (E := [(0, .int .i64 window0), (1, .int .i64 many1), (2, .int .i64 ack2), (7, .pointer a7)]) (W.WP.seq (c := C12) (x := C101) (y := C15) (by kernel_rfl) <| W.WP.reg (c := C101) (fun E w => KE_S7 E w R) (by kernel_rfl) (Eq.mp (by kernel_rfl) h4) fun _ _ a hA hK => (W.WP.seq (c := C15) (x := C16) (y := C20) (by kernel_rfl) (KE_S7_ok R _ _ hK)) a hA) (ha.cons hq0 (ha.cons hq1 (ha.cons hq2 (ha.cons hq7 ha.nil))))
noncomputable def C102 : Code := W.Code.fst C9
noncomputable def C103 : Code := W.Code.snd C10
/-- law.go:224 -/
def S4 (window0 many1 ack2 : Int) (a7 : Option Addr) (e8 : Int) (w : World) (R : W.Post) : Prop :=
  W.sel a7.isNone (S5  w R) (W.sel (e8 != 0) (S5  w R) (S6 window0 many1 ack2 a7 w R))
def KE_S4 (E : W.Env) (w : World) (R : W.Post) : Prop := W.asInt .i64 (W.Env.get? E 0) fun window0 => W.asInt .i64 (W.Env.get? E 1) fun many1 => W.asInt .i64 (W.Env.get? E 2) fun ack2 => W.asPtr (W.Env.get? E 7) fun a7 => W.asInt .i64 (W.Env.get? E 8) fun e8 => S4 window0 many1 ack2 a7 e8 w R
theorem KE_S4_ok (R : W.Post) (E : W.Env) (w : World) (h : KE_S4 E w R) : W.WP Try.prog 149 C9 (Q1 R) E w := by
  obtain ⟨window0, hq0, h1⟩ := W.asInt_elim h
  obtain ⟨many1, hq1, h2⟩ := W.asInt_elim h1
  obtain ⟨ack2, hq2, h3⟩ := W.asInt_elim h2
  obtain ⟨a7, hq7, h4⟩ := W.asPtr_elim h3
  obtain ⟨e8, hq8, h5⟩ := W.asInt_elim h4
  exact fun a ha => W.WP.at (E := [(0, .int .i64 window0), (1, .int .i64 many1), (2, .int .i64 ack2), (7, .pointer a7), (8, .int .i64 e8)]) (W.WP.seq (c := C9) (x := C102) (y := C10) (by kernel_rfl) <| W.WP.reg (c := C102) (fun E w => W.condK (W.Env.val E (.tmp 41)) (KE_S5 E w R) (KE_S6 E w R)) (by kernel_rfl) (Eq.mp (by kernel_rfl) h5) fun _ _ a hA hK => (W.WP.condK (c := C10) (x := C11) (y := C103) (o := .tmp 41) (by kernel_rfl) (fun hK => (KE_S5_ok R _ _ hK)) (fun hK => (W.WP.skip (c := C103) (by kernel_rfl) fun a hA => (KE_S6_ok R _ _ hK) a hA)) hK) a hA) (ha.cons hq0 (ha.cons hq1 (ha.cons hq2 (ha.cons hq7 (ha.cons hq8 ha.nil)))))
noncomputable def C104 : Code := W.Code.fst C3
noncomputable def C105 : Code := W.Code.snd C4
/-- law.go:221 -/
def S2 (window0 many1 ack2 : Int) (a7 : Option Addr) (e8 : Int) (w : World) (R : W.Post) : Prop :=
  W.sel (decide (window0 < 1)) (S3 a7 e8 w R) (W.sel (decide (window0 > 16)) (S3 a7 e8 w R) (S4 window0 many1 ack2 a7 e8 w R))
def KE_S2 (E : W.Env) (w : World) (R : W.Post) : Prop := W.asInt .i64 (W.Env.get? E 0) fun window0 => W.asInt .i64 (W.Env.get? E 1) fun many1 => W.asInt .i64 (W.Env.get? E 2) fun ack2 => W.asPtr (W.Env.get? E 7) fun a7 => W.asInt .i64 (W.Env.get? E 8) fun e8 => S2 window0 many1 ack2 a7 e8 w R
theorem KE_S2_ok (R : W.Post) (E : W.Env) (w : World) (h : KE_S2 E w R) : W.WP Try.prog 149 C3 (Q0 R) E w := by
  obtain ⟨window0, hq0, h1⟩ := W.asInt_elim h
  obtain ⟨many1, hq1, h2⟩ := W.asInt_elim h1
  obtain ⟨ack2, hq2, h3⟩ := W.asInt_elim h2
  obtain ⟨a7, hq7, h4⟩ := W.asPtr_elim h3
  obtain ⟨e8, hq8, h5⟩ := W.asInt_elim h4
  exact fun a ha => W.WP.at (E := [(0, .int .i64 window0), (1, .int .i64 many1), (2, .int .i64 ack2), (7, .pointer a7), (8, .int .i64 e8)]) (W.WP.seq (c := C3) (x := C104) (y := C4) (by kernel_rfl) <| W.WP.reg (c := C104) (fun E w => W.condK (W.Env.val E (.tmp 26)) (KE_S3 E w R) (KE_S4 E w R)) (by kernel_rfl) (Eq.mp (by kernel_rfl) h5) fun _ _ a hA hK => (W.WP.condK (c := C4) (x := C5) (y := C105) (o := .tmp 26) (by kernel_rfl) (fun hK => (KE_S3_ok R _ _ hK)) (fun hK => (W.WP.skip (c := C105) (by kernel_rfl) fun a hA => (W.WP.seq (c := C6) (x := C9) (y := C12) (by kernel_rfl) (KE_S4_ok R _ _ hK)) a hA)) hK) a hA) (ha.cons hq0 (ha.cons hq1 (ha.cons hq2 (ha.cons hq7 (ha.cons hq8 ha.nil)))))
noncomputable def C106 : Code := W.Code.fst C1
/-- law.go:220 -/
def S1 (window0 many1 ack2 : Int) (w : World) (R : W.Post) : Prop :=
  Calls Try.prog n_channel_New #[.int .i64 window0] w fun r_ w1 => ∃ t18_0 : Option Addr, ∃ t18_1 : Int, r_ = .returned (.tuple #[.pointer t18_0, .int .i64 t18_1]) ∧ 
  S2 window0 many1 ack2 t18_0 t18_1 w1 R
def KE_S1 (E : W.Env) (w : World) (R : W.Post) : Prop := W.asInt .i64 (W.Env.get? E 0) fun window0 => W.asInt .i64 (W.Env.get? E 1) fun many1 => W.asInt .i64 (W.Env.get? E 2) fun ack2 => S1 window0 many1 ack2 w R
theorem KE_S1_ok (R : W.Post) (E : W.Env) (w : World) (h : KE_S1 E w R) : W.WP Try.prog 149 C1 (Q19 R) E w := by
  obtain ⟨window0, hq0, h1⟩ := W.asInt_elim h
  obtain ⟨many1, hq1, h2⟩ := W.asInt_elim h1
  obtain ⟨ack2, hq2, h3⟩ := W.asInt_elim h2
  exact fun a ha => W.WP.at (E := [(0, .int .i64 window0), (1, .int .i64 many1), (2, .int .i64 ack2)]) (W.WP.seq (c := C1) (x := C106) (y := C2) (by kernel_rfl) <| W.WP.reg (c := C106) (fun E w => KE_S2 E w R) (by kernel_rfl) (Eq.mp (by kernel_rfl) h3) fun _ _ a hA hK => (W.WP.seq (c := C2) (x := C3) (y := C6) (by kernel_rfl) (KE_S2_ok R _ _ hK)) a hA) (ha.cons hq0 (ha.cons hq1 (ha.cons hq2 ha.nil)))
noncomputable def C107 : Code := W.Code.fst C0
/-- law.go:219 -/
def S0 (window0 many1 ack2 : Int) (w : World) (R : W.Post) : Prop :=
  S1 window0 many1 ack2 w R
def KE_S0 (E : W.Env) (w : World) (R : W.Post) : Prop := W.asInt .i64 (W.Env.get? E 0) fun window0 => W.asInt .i64 (W.Env.get? E 1) fun many1 => W.asInt .i64 (W.Env.get? E 2) fun ack2 => S0 window0 many1 ack2 w R
theorem KE_S0_ok (R : W.Post) (E : W.Env) (w : World) (h : KE_S0 E w R) : W.WP Try.prog 149 C0 (Q19 R) E w := by
  obtain ⟨window0, hq0, h1⟩ := W.asInt_elim h
  obtain ⟨many1, hq1, h2⟩ := W.asInt_elim h1
  obtain ⟨ack2, hq2, h3⟩ := W.asInt_elim h2
  exact fun a ha => W.WP.at (E := [(0, .int .i64 window0), (1, .int .i64 many1), (2, .int .i64 ack2)]) (W.WP.seq (c := C0) (x := C107) (y := C1) (by kernel_rfl) <| W.WP.reg (c := C107) (fun E w => KE_S1 E w R) (by kernel_rfl) (Eq.mp (by kernel_rfl) h3) fun _ _ a hA hK => (KE_S1_ok R _ _ hK) a hA) (ha.cons hq0 (ha.cons hq1 (ha.cons hq2 ha.nil)))
/-- enthymeme/enthymemelaw38.ChannelWindow -/
theorem ok (window0 many1 ack2 : Int) (w : World) (R : W.Post) (h : S0 window0 many1 ack2 w R) : Calls Try.prog n_enthymemelaw38_ChannelWindow #[.int .i64 window0, .int .i64 many1, .int .i64 ack2] w R :=
  W.calls_of_WP' (fn := Try.f6) (c := C0) (args := [.int .i64 window0, .int .i64 many1, .int .i64 ack2]) (by kernel_rfl) (by kernel_rfl) (by kernel_rfl) (KE_S0_ok R _ _ (Eq.mp (by kernel_rfl) h))
end enthymemelaw38_ChannelWindow
end Go.Proofs.Ytellmncndfmbbaa

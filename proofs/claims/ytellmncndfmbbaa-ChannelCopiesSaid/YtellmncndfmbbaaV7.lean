/- Printed by a program of ours (vcgen.py) from the dump: the conditions of the functions, and that they suffice. -/
import Derived.Test.YtellmncndfmbbaaV
set_option linter.unusedVariables false
set_option maxRecDepth 100000
namespace Go.Proofs.Ytellmncndfmbbaa
open Go
namespace enthymemelaw38_ChannelCopies
noncomputable def C0 : Code := (Try.f7.body).getD .skip
noncomputable def C1 : Code := W.Code.snd C0
noncomputable def C2 : Code := W.Code.snd C1
noncomputable def C3 : Code := W.Code.fst C2
noncomputable def C4 : Code := W.Code.snd C3
noncomputable def C5 : Code := W.Code.fst C4
noncomputable def C6 : Code := W.Code.snd C2
abbrev Q0 (R : W.Post) : Exit → Act → World → Prop := (Exit.then (Code.wp Try.prog C6 (bodyPost Try.prog Try.f7 R)) (bodyPost Try.prog Try.f7 R))
noncomputable def C7 : Code := W.Code.fst C5
noncomputable def C8 : Code := W.Code.snd C5
/-- law.go:308 -/
def S3  (w : World) (R : W.Post) : Prop :=
  R (.returned (.bool false)) w
def KE_S3 (E : W.Env) (w : World) (R : W.Post) : Prop := S3  w R
theorem KE_S3_ok (R : W.Post) (E : W.Env) (w : World) (h : KE_S3 E w R) : W.WP Try.prog 157 C5 (Q0 R) E w := by
  exact fun a ha => W.WP.at (E := []) (W.WP.seq (c := C5) (x := C7) (y := C8) (by kernel_rfl) <| W.WP.reg (c := C7) (fun E w => W.retVC Try.prog Try.f7 E w (fun v => R (.returned v) w)) (by kernel_rfl) (Eq.mp (by kernel_rfl) h) fun _ _ a hA hK => (W.WP.ret (c := C8) (by kernel_rfl) fun a hA => W.retVC_sound hA hK) a hA) ha.nil
noncomputable def C9 : Code := W.Code.snd C6
noncomputable def C10 : Code := W.Code.snd C9
noncomputable def C11 : Code := W.Code.snd C10
noncomputable def C12 : Code := W.Code.fst C11
noncomputable def C13 : Code := W.Code.snd C12
noncomputable def C14 : Code := W.Code.fst C13
noncomputable def C15 : Code := W.Code.fst C14
noncomputable def C16 : Code := W.Code.snd C11
abbrev Q1 (R : W.Post) : Exit → Act → World → Prop := (Exit.then (Code.wp Try.prog C16 (bodyPost Try.prog Try.f7 R)) (bodyPost Try.prog Try.f7 R))
abbrev Q2 (R : W.Post) : Exit → Act → World → Prop := (Exit.inBlock 0 (Q1 R))
/-- the head of the loop, law.go:313 -/
def L8 (cut2 : Int) (e7 : W.Sl) (n8 : Int) (b9 : W.Sl) (copied10 : Option Addr) (i11 : Int) (w : World) (R : W.Post) : Prop := W.LP Try.prog 157 C15 (Q2 R) [(2, .int .i64 cut2), (7, e7.v), (8, .int .i64 n8), (9, b9.v), (10, .pointer copied10), (11, .int .i64 i11)] w
def KE_L8 (E : W.Env) (w : World) (R : W.Post) : Prop := W.asInt .i64 (W.Env.get? E 2) fun cut2 => W.asSlice (W.Env.get? E 7) fun e7 => W.asInt .i64 (W.Env.get? E 8) fun n8 => W.asSlice (W.Env.get? E 9) fun b9 => W.asPtr (W.Env.get? E 10) fun copied10 => W.asInt .i64 (W.Env.get? E 11) fun i11 => L8 cut2 e7 n8 b9 copied10 i11 w R
theorem KE_L8_ok (R : W.Post) (E : W.Env) (w : World) (h : KE_L8 E w R) : W.LP Try.prog 157 C15 (Q2 R) E w := by
  obtain ⟨cut2, hq2, h1⟩ := W.asInt_elim h
  obtain ⟨e7, hq7, h2⟩ := W.asSlice_elim h1
  obtain ⟨n8, hq8, h3⟩ := W.asInt_elim h2
  obtain ⟨b9, hq9, h4⟩ := W.asSlice_elim h3
  obtain ⟨copied10, hq10, h5⟩ := W.asPtr_elim h4
  obtain ⟨i11, hq11, h6⟩ := W.asInt_elim h5
  intro a ha
  exact h6 a (ha.cons hq2 (ha.cons hq7 (ha.cons hq8 (ha.cons hq9 (ha.cons hq10 (ha.cons hq11 ha.nil))))))
noncomputable def C17 : Code := W.Code.snd C15
noncomputable def C18 : Code := W.Code.snd C17
abbrev Q3 (R : W.Post) : Exit → Act → World → Prop := (Exit.then (W.LoopWP Try.prog C15 (Q2 R)) (Q2 R))
/-- law.go:313 -/
def S16 (cut2 : Int) (e7 : W.Sl) (n8 : Int) (b9 : W.Sl) (copied10 : Option Addr) (i11 : Int) (w : World) (R : W.Post) : Prop :=
  L8 cut2 e7 n8 b9 copied10 (IntKind.wrap .i64 (i11 + 1)) w R
def KE_S16 (E : W.Env) (w : World) (R : W.Post) : Prop := W.asInt .i64 (W.Env.get? E 2) fun cut2 => W.asSlice (W.Env.get? E 7) fun e7 => W.asInt .i64 (W.Env.get? E 8) fun n8 => W.asSlice (W.Env.get? E 9) fun b9 => W.asPtr (W.Env.get? E 10) fun copied10 => W.asInt .i64 (W.Env.get? E 11) fun i11 => S16 cut2 e7 n8 b9 copied10 i11 w R
theorem KE_S16_ok (R : W.Post) (E : W.Env) (w : World) (h : KE_S16 E w R) : W.WP Try.prog 157 C18 (Q3 R) E w := by
  obtain ⟨cut2, hq2, h1⟩ := W.asInt_elim h
  obtain ⟨e7, hq7, h2⟩ := W.asSlice_elim h1
  obtain ⟨n8, hq8, h3⟩ := W.asInt_elim h2
  obtain ⟨b9, hq9, h4⟩ := W.asSlice_elim h3
  obtain ⟨copied10, hq10, h5⟩ := W.asPtr_elim h4
  obtain ⟨i11, hq11, h6⟩ := W.asInt_elim h5
  exact fun a ha => W.WP.at (E := [(2, .int .i64 cut2), (7, e7.v), (8, .int .i64 n8), (9, b9.v), (10, .pointer copied10), (11, .int .i64 i11)]) (W.WP.reg (c := C18) (fun E w => KE_L8 E w R) (by kernel_rfl) (Eq.mp (by kernel_rfl) h6) fun _ _ a hA hK => KE_L8_ok R _ _ hK a hA) (ha.cons hq2 (ha.cons hq7 (ha.cons hq8 (ha.cons hq9 (ha.cons hq10 (ha.cons hq11 ha.nil))))))
noncomputable def C19 : Code := W.Code.fst C17
noncomputable def C20 : Code := W.Code.fst C19
noncomputable def C21 : Code := W.Code.snd C20
noncomputable def C22 : Code := W.Code.snd C21
noncomputable def C23 : Code := W.Code.snd C22
noncomputable def C24 : Code := W.Code.snd C23
noncomputable def C25 : Code := W.Code.fst C24
abbrev Q4 (R : W.Post) : Exit → Act → World → Prop := (Exit.then (Code.wp Try.prog C18 (Exit.then (W.LoopWP Try.prog C15 (Q2 R)) (Q2 R))) (Exit.then (W.LoopWP Try.prog C15 (Q2 R)) (Q2 R)))
abbrev Q5 (R : W.Post) : Exit → Act → World → Prop := (Exit.inBlock 1 (Q4 R))
/-- law.go:320 -/
def S15 (cut2 : Int) (e7 : W.Sl) (n8 : Int) (b9 : W.Sl) (copied10 : Option Addr) (i11 : Int) (w : World) (R : W.Post) : Prop :=
  Calls Try.prog n_channel_End_Send #[.pointer copied10, b9.v] w fun r_ w1 => ∃ t50 : Int, r_ = .returned (.int .i64 t50) ∧ 
  S16 cut2 e7 n8 b9 copied10 i11 w1 R
def KE_S15 (E : W.Env) (w : World) (R : W.Post) : Prop := W.asInt .i64 (W.Env.get? E 2) fun cut2 => W.asSlice (W.Env.get? E 7) fun e7 => W.asInt .i64 (W.Env.get? E 8) fun n8 => W.asSlice (W.Env.get? E 9) fun b9 => W.asPtr (W.Env.get? E 10) fun copied10 => W.asInt .i64 (W.Env.get? E 11) fun i11 => S15 cut2 e7 n8 b9 copied10 i11 w R
theorem KE_S15_ok (R : W.Post) (E : W.Env) (w : World) (h : KE_S15 E w R) : W.WP Try.prog 157 C25 (Q5 R) E w := by
  obtain ⟨cut2, hq2, h1⟩ := W.asInt_elim h
  obtain ⟨e7, hq7, h2⟩ := W.asSlice_elim h1
  obtain ⟨n8, hq8, h3⟩ := W.asInt_elim h2
  obtain ⟨b9, hq9, h4⟩ := W.asSlice_elim h3
  obtain ⟨copied10, hq10, h5⟩ := W.asPtr_elim h4
  obtain ⟨i11, hq11, h6⟩ := W.asInt_elim h5
  exact fun a ha => W.WP.at (E := [(2, .int .i64 cut2), (7, e7.v), (8, .int .i64 n8), (9, b9.v), (10, .pointer copied10), (11, .int .i64 i11)]) (W.WP.reg (c := C25) (fun E w => KE_S16 E w R) (by kernel_rfl) (Eq.mp (by kernel_rfl) h6) fun _ _ a hA hK => (KE_S16_ok R _ _ hK) a hA) (ha.cons hq2 (ha.cons hq7 (ha.cons hq8 (ha.cons hq9 (ha.cons hq10 (ha.cons hq11 ha.nil))))))
noncomputable def C26 : Code := W.Code.fst C23
noncomputable def C27 : Code := W.Code.snd C24
/-- law.go:319 -/
def S14 (cut2 : Int) (e7 : W.Sl) (n8 : Int) (b9 : W.Sl) (copied10 : Option Addr) (i11 : Int) (w : World) (R : W.Post) : Prop :=
  W.sel (!copied10.isNone) (S15 cut2 e7 n8 b9 copied10 i11 w R) (S16 cut2 e7 n8 b9 copied10 i11 w R)
def KE_S14 (E : W.Env) (w : World) (R : W.Post) : Prop := W.asInt .i64 (W.Env.get? E 2) fun cut2 => W.asSlice (W.Env.get? E 7) fun e7 => W.asInt .i64 (W.Env.get? E 8) fun n8 => W.asSlice (W.Env.get? E 9) fun b9 => W.asPtr (W.Env.get? E 10) fun copied10 => W.asInt .i64 (W.Env.get? E 11) fun i11 => S14 cut2 e7 n8 b9 copied10 i11 w R
theorem KE_S14_ok (R : W.Post) (E : W.Env) (w : World) (h : KE_S14 E w R) : W.WP Try.prog 157 C23 (Q5 R) E w := by
  obtain ⟨cut2, hq2, h1⟩ := W.asInt_elim h
  obtain ⟨e7, hq7, h2⟩ := W.asSlice_elim h1
  obtain ⟨n8, hq8, h3⟩ := W.asInt_elim h2
  obtain ⟨b9, hq9, h4⟩ := W.asSlice_elim h3
  obtain ⟨copied10, hq10, h5⟩ := W.asPtr_elim h4
  obtain ⟨i11, hq11, h6⟩ := W.asInt_elim h5
  exact fun a ha => W.WP.at (E := [(2, .int .i64 cut2), (7, e7.v), (8, .int .i64 n8), (9, b9.v), (10, .pointer copied10), (11, .int .i64 i11)]) (W.WP.seq (c := C23) (x := C26) (y := C24) (by kernel_rfl) <| W.WP.reg (c := C26) (fun E w => W.condK (W.Env.val E (.tmp 47)) (KE_S15 E w R) (KE_S16 E w R)) (by kernel_rfl) (Eq.mp (by kernel_rfl) h6) fun _ _ a hA hK => (W.WP.condK (c := C24) (x := C25) (y := C27) (o := .tmp 47) (by kernel_rfl) (fun hK => (KE_S15_ok R _ _ hK)) (fun hK => (W.WP.skip (c := C27) (by kernel_rfl) fun a hA => (KE_S16_ok R _ _ hK) a hA)) hK) a hA) (ha.cons hq2 (ha.cons hq7 (ha.cons hq8 (ha.cons hq9 (ha.cons hq10 (ha.cons hq11 ha.nil))))))
noncomputable def C28 : Code := W.Code.fst C22
/-- law.go:318 -/
def S13 (cut2 : Int) (e7 : W.Sl) (n8 : Int) (b9 : W.Sl) (copied10 : Option Addr) (i11 : Int) (w : World) (R : W.Post) : Prop :=
  (0 : Int) ≤ 0 ∧ 0 < ((e7.n : Nat) : Int) ∧ W.optP e7.a fun t42_p => ∃ t43 : Option Addr, w.cell? (t42_p.add (Int.toNat 0 * 1)) = some (.pointer t43) ∧ 
  Calls Try.prog n_channel_End_Send #[.pointer t43, b9.v] w fun r_ w1 => ∃ t45 : Int, r_ = .returned (.int .i64 t45) ∧ 
  S14 cut2 e7 n8 b9 copied10 i11 w1 R
def KE_S13 (E : W.Env) (w : World) (R : W.Post) : Prop := W.asInt .i64 (W.Env.get? E 2) fun cut2 => W.asSlice (W.Env.get? E 7) fun e7 => W.asInt .i64 (W.Env.get? E 8) fun n8 => W.asSlice (W.Env.get? E 9) fun b9 => W.asPtr (W.Env.get? E 10) fun copied10 => W.asInt .i64 (W.Env.get? E 11) fun i11 => S13 cut2 e7 n8 b9 copied10 i11 w R
theorem KE_S13_ok (R : W.Post) (E : W.Env) (w : World) (h : KE_S13 E w R) : W.WP Try.prog 157 C22 (Q5 R) E w := by
  obtain ⟨cut2, hq2, h1⟩ := W.asInt_elim h
  obtain ⟨e7, hq7, h2⟩ := W.asSlice_elim h1
  obtain ⟨n8, hq8, h3⟩ := W.asInt_elim h2
  obtain ⟨b9, hq9, h4⟩ := W.asSlice_elim h3
  obtain ⟨copied10, hq10, h5⟩ := W.asPtr_elim h4
  obtain ⟨i11, hq11, h6⟩ := W.asInt_elim h5
  exact fun a ha => W.WP.at (E := [(2, .int .i64 cut2), (7, e7.v), (8, .int .i64 n8), (9, b9.v), (10, .pointer copied10), (11, .int .i64 i11)]) (W.WP.seq (c := C22) (x := C28) (y := C23) (by kernel_rfl) <| W.WP.reg (c := C28) (fun E w => KE_S14 E w R) (by kernel_rfl) (Eq.mp (by kernel_rfl) h6) fun _ _ a hA hK => (KE_S14_ok R _ _ hK) a hA) (ha.cons hq2 (ha.cons hq7 (ha.cons hq8 (ha.cons hq9 (ha.cons hq10 (ha.cons hq11 ha.nil))))))
noncomputable def C29 : Code := W.Code.fst C21
/-- law.go:317 -/
def S12 (cut2 : Int) (e7 : W.Sl) (n8 : Int) (b9 : W.Sl) (copied10 : Option Addr) (i11 : Int) (w : World) (R : W.Post) : Prop :=
  (0 : Int) ≤ 0 ∧ 0 < ((b9.n : Nat) : Int) ∧ W.optP b9.a fun t40_p => (w.cell? (t40_p.add (Int.toNat 0 * 1))).isSome = true ∧ w.frozen? (t40_p.add (Int.toNat 0 * 1)) = false ∧ let w1 := w.setCell (t40_p.add (Int.toNat 0 * 1)) (.int .u8 (IntKind.wrap .u8 i11))
  S13 cut2 e7 n8 b9 copied10 i11 w1 R
def KE_S12 (E : W.Env) (w : World) (R : W.Post) : Prop := W.asInt .i64 (W.Env.get? E 2) fun cut2 => W.asSlice (W.Env.get? E 7) fun e7 => W.asInt .i64 (W.Env.get? E 8) fun n8 => W.asSlice (W.Env.get? E 9) fun b9 => W.asPtr (W.Env.get? E 10) fun copied10 => W.asInt .i64 (W.Env.get? E 11) fun i11 => S12 cut2 e7 n8 b9 copied10 i11 w R
theorem KE_S12_ok (R : W.Post) (E : W.Env) (w : World) (h : KE_S12 E w R) : W.WP Try.prog 157 C21 (Q5 R) E w := by
  obtain ⟨cut2, hq2, h1⟩ := W.asInt_elim h
  obtain ⟨e7, hq7, h2⟩ := W.asSlice_elim h1
  obtain ⟨n8, hq8, h3⟩ := W.asInt_elim h2
  obtain ⟨b9, hq9, h4⟩ := W.asSlice_elim h3
  obtain ⟨copied10, hq10, h5⟩ := W.asPtr_elim h4
  obtain ⟨i11, hq11, h6⟩ := W.asInt_elim h5
  exact fun a ha => W.WP.at (E := [(2, .int .i64 cut2), (7, e7.v), (8, .int .i64 n8), (9, b9.v), (10, .pointer copied10), (11, .int .i64 i11)]) (W.WP.seq (c := C21) (x := C29) (y := C22) (by kernel_rfl) <| W.WP.reg (c := C29) (fun E w => KE_S13 E w R) (by kernel_rfl) (Eq.mp (by kernel_rfl) h6) fun _ _ a hA hK => (KE_S13_ok R _ _ hK) a hA) (ha.cons hq2 (ha.cons hq7 (ha.cons hq8 (ha.cons hq9 (ha.cons hq10 (ha.cons hq11 ha.nil))))))
noncomputable def C30 : Code := W.Code.fst C20
noncomputable def C31 : Code := W.Code.snd C30
noncomputable def C32 : Code := W.Code.fst C31
abbrev Q6 (R : W.Post) : Exit → Act → World → Prop := (Exit.then (Code.wp Try.prog C21 (Exit.inBlock 1 (Q4 R))) (Exit.inBlock 1 (Q4 R)))
/-- law.go:315 -/
def S11 (cut2 : Int) (e7 : W.Sl) (n8 : Int) (b9 : W.Sl) (i11 : Int) (w : World) (R : W.Post) : Prop :=
  (0 : Int) ≤ 0 ∧ 0 < ((e7.n : Nat) : Int) ∧ W.optP e7.a fun t34_p => ∃ t35 : Option Addr, w.cell? (t34_p.add (Int.toNat 0 * 1)) = some (.pointer t35) ∧ 
  Calls Try.prog n_channel_End_Copy #[.pointer t35] w fun r_ w1 => ∃ t36 : Option Addr, r_ = .returned (.pointer t36) ∧ 
  S12 cut2 e7 n8 b9 t36 i11 w1 R
def KE_S11 (E : W.Env) (w : World) (R : W.Post) : Prop := W.asInt .i64 (W.Env.get? E 2) fun cut2 => W.asSlice (W.Env.get? E 7) fun e7 => W.asInt .i64 (W.Env.get? E 8) fun n8 => W.asSlice (W.Env.get? E 9) fun b9 => W.asInt .i64 (W.Env.get? E 11) fun i11 => S11 cut2 e7 n8 b9 i11 w R
theorem KE_S11_ok (R : W.Post) (E : W.Env) (w : World) (h : KE_S11 E w R) : W.WP Try.prog 157 C32 (Q6 R) E w := by
  obtain ⟨cut2, hq2, h1⟩ := W.asInt_elim h
  obtain ⟨e7, hq7, h2⟩ := W.asSlice_elim h1
  obtain ⟨n8, hq8, h3⟩ := W.asInt_elim h2
  obtain ⟨b9, hq9, h4⟩ := W.asSlice_elim h3
  obtain ⟨i11, hq11, h5⟩ := W.asInt_elim h4
  exact fun a ha => W.WP.at (E := [(2, .int .i64 cut2), (7, e7.v), (8, .int .i64 n8), (9, b9.v), (11, .int .i64 i11)]) (W.WP.reg (c := C32) (fun E w => KE_S12 E w R) (by kernel_rfl) (Eq.mp (by kernel_rfl) h5) fun _ _ a hA hK => (KE_S12_ok R _ _ hK) a hA) (ha.cons hq2 (ha.cons hq7 (ha.cons hq8 (ha.cons hq9 (ha.cons hq11 ha.nil)))))
noncomputable def C33 : Code := W.Code.fst C30
noncomputable def C34 : Code := W.Code.snd C31
/-- law.go:314 -/
def S10 (cut2 : Int) (e7 : W.Sl) (n8 : Int) (b9 : W.Sl) (copied10 : Option Addr) (i11 : Int) (w : World) (R : W.Post) : Prop :=
  Calls Try.prog n_enthymemeref01_Around #[.int .i64 cut2, .int .i64 n8] w fun r_ w1 => ∃ t31 : Int, r_ = .returned (.int .i64 t31) ∧ 
  W.sel (i11 == t31) (S11 cut2 e7 n8 b9 i11 w1 R) (S12 cut2 e7 n8 b9 copied10 i11 w1 R)
def KE_S10 (E : W.Env) (w : World) (R : W.Post) : Prop := W.asInt .i64 (W.Env.get? E 2) fun cut2 => W.asSlice (W.Env.get? E 7) fun e7 => W.asInt .i64 (W.Env.get? E 8) fun n8 => W.asSlice (W.Env.get? E 9) fun b9 => W.asPtr (W.Env.get? E 10) fun copied10 => W.asInt .i64 (W.Env.get? E 11) fun i11 => S10 cut2 e7 n8 b9 copied10 i11 w R
theorem KE_S10_ok (R : W.Post) (E : W.Env) (w : World) (h : KE_S10 E w R) : W.WP Try.prog 157 C30 (Q6 R) E w := by
  obtain ⟨cut2, hq2, h1⟩ := W.asInt_elim h
  obtain ⟨e7, hq7, h2⟩ := W.asSlice_elim h1
  obtain ⟨n8, hq8, h3⟩ := W.asInt_elim h2
  obtain ⟨b9, hq9, h4⟩ := W.asSlice_elim h3
  obtain ⟨copied10, hq10, h5⟩ := W.asPtr_elim h4
  obtain ⟨i11, hq11, h6⟩ := W.asInt_elim h5
  exact fun a ha => W.WP.at (E := [(2, .int .i64 cut2), (7, e7.v), (8, .int .i64 n8), (9, b9.v), (10, .pointer copied10), (11, .int .i64 i11)]) (W.WP.seq (c := C30) (x := C33) (y := C31) (by kernel_rfl) <| W.WP.reg (c := C33) (fun E w => W.condK (W.Env.val E (.tmp 32)) (KE_S11 E w R) (KE_S12 E w R)) (by kernel_rfl) (Eq.mp (by kernel_rfl) h6) fun _ _ a hA hK => (W.WP.condK (c := C31) (x := C32) (y := C34) (o := .tmp 32) (by kernel_rfl) (fun hK => (KE_S11_ok R _ _ hK)) (fun hK => (W.WP.skip (c := C34) (by kernel_rfl) fun a hA => (KE_S12_ok R _ _ hK) a hA)) hK) a hA) (ha.cons hq2 (ha.cons hq7 (ha.cons hq8 (ha.cons hq9 (ha.cons hq10 (ha.cons hq11 ha.nil))))))
noncomputable def C35 : Code := W.Code.snd C16
noncomputable def C36 : Code := W.Code.fst C35
noncomputable def C37 : Code := W.Code.snd C36
noncomputable def C38 : Code := W.Code.fst C37
noncomputable def C39 : Code := W.Code.fst C38
noncomputable def C40 : Code := W.Code.snd C35
abbrev Q7 (R : W.Post) : Exit → Act → World → Prop := (Exit.then (Code.wp Try.prog C40 (bodyPost Try.prog Try.f7 R)) (bodyPost Try.prog Try.f7 R))
abbrev Q8 (R : W.Post) : Exit → Act → World → Prop := (Exit.inBlock 2 (Q7 R))
/-- the head of the loop, law.go:324 -/
def L19 (e7 : W.Sl) (n8 : Int) (copied10 : Option Addr) (p12 : W.Sl) (i13 : Int) (w : World) (R : W.Post) : Prop := W.LP Try.prog 157 C39 (Q8 R) [(7, e7.v), (8, .int .i64 n8), (10, .pointer copied10), (12, p12.v), (13, .int .i64 i13)] w
def KE_L19 (E : W.Env) (w : World) (R : W.Post) : Prop := W.asSlice (W.Env.get? E 7) fun e7 => W.asInt .i64 (W.Env.get? E 8) fun n8 => W.asPtr (W.Env.get? E 10) fun copied10 => W.asSlice (W.Env.get? E 12) fun p12 => W.asInt .i64 (W.Env.get? E 13) fun i13 => L19 e7 n8 copied10 p12 i13 w R
theorem KE_L19_ok (R : W.Post) (E : W.Env) (w : World) (h : KE_L19 E w R) : W.LP Try.prog 157 C39 (Q8 R) E w := by
  obtain ⟨e7, hq7, h1⟩ := W.asSlice_elim h
  obtain ⟨n8, hq8, h2⟩ := W.asInt_elim h1
  obtain ⟨copied10, hq10, h3⟩ := W.asPtr_elim h2
  obtain ⟨p12, hq12, h4⟩ := W.asSlice_elim h3
  obtain ⟨i13, hq13, h5⟩ := W.asInt_elim h4
  intro a ha
  exact h5 a (ha.cons hq7 (ha.cons hq8 (ha.cons hq10 (ha.cons hq12 (ha.cons hq13 ha.nil)))))
noncomputable def C41 : Code := W.Code.snd C39
noncomputable def C42 : Code := W.Code.fst C41
noncomputable def C43 : Code := W.Code.fst C42
noncomputable def C44 : Code := W.Code.fst C43
noncomputable def C45 : Code := W.Code.snd C44
noncomputable def C46 : Code := W.Code.fst C45
noncomputable def C47 : Code := W.Code.snd C41
abbrev Q9 (R : W.Post) : Exit → Act → World → Prop := (Exit.then (Code.wp Try.prog C47 (Exit.then (W.LoopWP Try.prog C39 (Q8 R)) (Q8 R))) (Exit.then (W.LoopWP Try.prog C39 (Q8 R)) (Q8 R)))
noncomputable def C48 : Code := W.Code.snd C43
abbrev Q10 (R : W.Post) : Exit → Act → World → Prop := (Exit.then (Code.wp Try.prog C48 (Exit.inBlock 3 (Q9 R))) (Exit.inBlock 3 (Q9 R)))
noncomputable def C49 : Code := W.Code.fst C46
noncomputable def C50 : Code := W.Code.snd C46
/-- law.go:326 -/
def S22  (w : World) (R : W.Post) : Prop :=
  R (.returned (.bool false)) w
def KE_S22 (E : W.Env) (w : World) (R : W.Post) : Prop := S22  w R
theorem KE_S22_ok (R : W.Post) (E : W.Env) (w : World) (h : KE_S22 E w R) : W.WP Try.prog 157 C46 (Q10 R) E w := by
  exact fun a ha => W.WP.at (E := []) (W.WP.seq (c := C46) (x := C49) (y := C50) (by kernel_rfl) <| W.WP.reg (c := C49) (fun E w => W.retVC Try.prog Try.f7 E w (fun v => R (.returned v) w)) (by kernel_rfl) (Eq.mp (by kernel_rfl) h) fun _ _ a hA hK => (W.WP.ret (c := C50) (by kernel_rfl) fun a hA => W.retVC_sound hA hK) a hA) ha.nil
abbrev Q11 (R : W.Post) : Exit → Act → World → Prop := (Exit.then (W.LoopWP Try.prog C39 (Q8 R)) (Q8 R))
/-- law.go:324 -/
def S24 (e7 : W.Sl) (n8 : Int) (copied10 : Option Addr) (p12 : W.Sl) (i13 : Int) (w : World) (R : W.Post) : Prop :=
  L19 e7 n8 copied10 p12 (IntKind.wrap .i64 (i13 + 1)) w R
def KE_S24 (E : W.Env) (w : World) (R : W.Post) : Prop := W.asSlice (W.Env.get? E 7) fun e7 => W.asInt .i64 (W.Env.get? E 8) fun n8 => W.asPtr (W.Env.get? E 10) fun copied10 => W.asSlice (W.Env.get? E 12) fun p12 => W.asInt .i64 (W.Env.get? E 13) fun i13 => S24 e7 n8 copied10 p12 i13 w R
theorem KE_S24_ok (R : W.Post) (E : W.Env) (w : World) (h : KE_S24 E w R) : W.WP Try.prog 157 C47 (Q11 R) E w := by
  obtain ⟨e7, hq7, h1⟩ := W.asSlice_elim h
  obtain ⟨n8, hq8, h2⟩ := W.asInt_elim h1
  obtain ⟨copied10, hq10, h3⟩ := W.asPtr_elim h2
  obtain ⟨p12, hq12, h4⟩ := W.asSlice_elim h3
  obtain ⟨i13, hq13, h5⟩ := W.asInt_elim h4
  exact fun a ha => W.WP.at (E := [(7, e7.v), (8, .int .i64 n8), (10, .pointer copied10), (12, p12.v), (13, .int .i64 i13)]) (W.WP.reg (c := C47) (fun E w => KE_L19 E w R) (by kernel_rfl) (Eq.mp (by kernel_rfl) h5) fun _ _ a hA hK => KE_L19_ok R _ _ hK a hA) (ha.cons hq7 (ha.cons hq8 (ha.cons hq10 (ha.cons hq12 (ha.cons hq13 ha.nil)))))
abbrev Q12 (R : W.Post) : Exit → Act → World → Prop := (Exit.inBlock 3 (Q9 R))
/-- law.go:328 -/
def S23 (e7 : W.Sl) (n8 : Int) (copied10 : Option Addr) (p12 : W.Sl) (i13 : Int) (w : World) (R : W.Post) : Prop :=
  (0 : Int) ≤ i13 ∧ i13 < ((p12.n : Nat) : Int) ∧ W.optP p12.a fun t82_p => ∃ t84 : W.Sl, w.cell? ((t82_p.add (Int.toNat i13 * 3)).add 2) = some (t84.v) ∧ 
  (0 : Int) ≤ 0 ∧ 0 < ((t84.n : Nat) : Int) ∧ W.optP t84.a fun t85_p => (w.cell? (t85_p.add (Int.toNat 0 * 1))).isSome = true ∧ w.frozen? (t85_p.add (Int.toNat 0 * 1)) = false ∧ let w1 := w.setCell (t85_p.add (Int.toNat 0 * 1)) (.int .u8 99)
  S24 e7 n8 copied10 p12 i13 w1 R
def KE_S23 (E : W.Env) (w : World) (R : W.Post) : Prop := W.asSlice (W.Env.get? E 7) fun e7 => W.asInt .i64 (W.Env.get? E 8) fun n8 => W.asPtr (W.Env.get? E 10) fun copied10 => W.asSlice (W.Env.get? E 12) fun p12 => W.asInt .i64 (W.Env.get? E 13) fun i13 => S23 e7 n8 copied10 p12 i13 w R
theorem KE_S23_ok (R : W.Post) (E : W.Env) (w : World) (h : KE_S23 E w R) : W.WP Try.prog 157 C48 (Q12 R) E w := by
  obtain ⟨e7, hq7, h1⟩ := W.asSlice_elim h
  obtain ⟨n8, hq8, h2⟩ := W.asInt_elim h1
  obtain ⟨copied10, hq10, h3⟩ := W.asPtr_elim h2
  obtain ⟨p12, hq12, h4⟩ := W.asSlice_elim h3
  obtain ⟨i13, hq13, h5⟩ := W.asInt_elim h4
  exact fun a ha => W.WP.at (E := [(7, e7.v), (8, .int .i64 n8), (10, .pointer copied10), (12, p12.v), (13, .int .i64 i13)]) (W.WP.reg (c := C48) (fun E w => KE_S24 E w R) (by kernel_rfl) (Eq.mp (by kernel_rfl) h5) fun _ _ a hA hK => (KE_S24_ok R _ _ hK) a hA) (ha.cons hq7 (ha.cons hq8 (ha.cons hq10 (ha.cons hq12 (ha.cons hq13 ha.nil)))))
noncomputable def C51 : Code := W.Code.fst C44
noncomputable def C52 : Code := W.Code.snd C45
/-- law.go:325 -/
def S21 (e7 : W.Sl) (n8 : Int) (copied10 : Option Addr) (p12 : W.Sl) (i13 : Int) (w : World) (R : W.Post) : Prop :=
  (0 : Int) ≤ i13 ∧ i13 < ((p12.n : Nat) : Int) ∧ W.optP p12.a fun t63_p => ∃ t65 : W.Sl, w.cell? ((t63_p.add (Int.toNat i13 * 3)).add 2) = some (t65.v) ∧ 
  W.sel (((t65.n : Nat) : Int) != 1) (S22  w R) ((0 : Int) ≤ i13 ∧ i13 < ((p12.n : Nat) : Int) ∧ W.optP p12.a fun t71_p => ∃ t73 : W.Sl, w.cell? ((t71_p.add (Int.toNat i13 * 3)).add 2) = some (t73.v) ∧ 
  (0 : Int) ≤ 0 ∧ 0 < ((t73.n : Nat) : Int) ∧ W.optP t73.a fun t74_p => ∃ t75 : Int, w.cell? (t74_p.add (Int.toNat 0 * 1)) = some (.int .u8 t75) ∧ 
  W.sel ((IntKind.wrap .i64 t75) != i13) (S22  w R) (S23 e7 n8 copied10 p12 i13 w R))
def KE_S21 (E : W.Env) (w : World) (R : W.Post) : Prop := W.asSlice (W.Env.get? E 7) fun e7 => W.asInt .i64 (W.Env.get? E 8) fun n8 => W.asPtr (W.Env.get? E 10) fun copied10 => W.asSlice (W.Env.get? E 12) fun p12 => W.asInt .i64 (W.Env.get? E 13) fun i13 => S21 e7 n8 copied10 p12 i13 w R
theorem KE_S21_ok (R : W.Post) (E : W.Env) (w : World) (h : KE_S21 E w R) : W.WP Try.prog 157 C44 (Q10 R) E w := by
  obtain ⟨e7, hq7, h1⟩ := W.asSlice_elim h
  obtain ⟨n8, hq8, h2⟩ := W.asInt_elim h1
  obtain ⟨copied10, hq10, h3⟩ := W.asPtr_elim h2
  obtain ⟨p12, hq12, h4⟩ := W.asSlice_elim h3
  obtain ⟨i13, hq13, h5⟩ := W.asInt_elim h4
  exact fun a ha => W.WP.at (E := [(7, e7.v), (8, .int .i64 n8), (10, .pointer copied10), (12, p12.v), (13, .int .i64 i13)]) (W.WP.seq (c := C44) (x := C51) (y := C45) (by kernel_rfl) <| W.WP.reg (c := C51) (fun E w => W.condK (W.Env.val E (.tmp 79)) (KE_S22 E w R) (KE_S23 E w R)) (by kernel_rfl) (Eq.mp (by kernel_rfl) h5) fun _ _ a hA hK => (W.WP.condK (c := C45) (x := C46) (y := C52) (o := .tmp 79) (by kernel_rfl) (fun hK => (KE_S22_ok R _ _ hK)) (fun hK => (W.WP.skip (c := C52) (by kernel_rfl) fun a hA => (KE_S23_ok R _ _ hK) a hA)) hK) a hA) (ha.cons hq7 (ha.cons hq8 (ha.cons hq10 (ha.cons hq12 (ha.cons hq13 ha.nil)))))
noncomputable def C53 : Code := W.Code.fst C40
noncomputable def C54 : Code := W.Code.snd C53
noncomputable def C55 : Code := W.Code.fst C54
noncomputable def C56 : Code := W.Code.snd C40
abbrev Q13 (R : W.Post) : Exit → Act → World → Prop := (Exit.then (Code.wp Try.prog C56 (bodyPost Try.prog Try.f7 R)) (bodyPost Try.prog Try.f7 R))
noncomputable def C57 : Code := W.Code.fst C55
noncomputable def C58 : Code := W.Code.snd C55
/-- law.go:331 -/
def S26 (n8 : Int) (w : World) (R : W.Post) : Prop :=
  W.sel (n8 == 0) (Calls Try.prog n_enthymemelaw38_lives #[] w fun r_ w1 => ∃ t91 : Bool, r_ = .returned (.bool t91) ∧ 
  R (.returned (.bool t91)) w1) (R (.returned (.bool false)) w)
def KE_S26 (E : W.Env) (w : World) (R : W.Post) : Prop := W.asInt .i64 (W.Env.get? E 8) fun n8 => S26 n8 w R
theorem KE_S26_ok (R : W.Post) (E : W.Env) (w : World) (h : KE_S26 E w R) : W.WP Try.prog 157 C55 (Q13 R) E w := by
  obtain ⟨n8, hq8, h1⟩ := W.asInt_elim h
  exact fun a ha => W.WP.at (E := [(8, .int .i64 n8)]) (W.WP.seq (c := C55) (x := C57) (y := C58) (by kernel_rfl) <| W.WP.reg (c := C57) (fun E w => W.retVC Try.prog Try.f7 E w (fun v => R (.returned v) w)) (by kernel_rfl) (Eq.mp (by kernel_rfl) h1) fun _ _ a hA hK => (W.WP.ret (c := C58) (by kernel_rfl) fun a hA => W.retVC_sound hA hK) a hA) (ha.cons hq8 ha.nil)
noncomputable def C59 : Code := W.Code.snd C56
noncomputable def C60 : Code := W.Code.snd C59
noncomputable def C61 : Code := W.Code.fst C60
noncomputable def C62 : Code := W.Code.snd C61
noncomputable def C63 : Code := W.Code.fst C62
noncomputable def C64 : Code := W.Code.fst C63
noncomputable def C65 : Code := W.Code.snd C60
abbrev Q14 (R : W.Post) : Exit → Act → World → Prop := (Exit.then (Code.wp Try.prog C65 (bodyPost Try.prog Try.f7 R)) (bodyPost Try.prog Try.f7 R))
abbrev Q15 (R : W.Post) : Exit → Act → World → Prop := (Exit.inBlock 4 (Q14 R))
/-- the head of the loop, law.go:335 -/
def L30 (e7 : W.Sl) (n8 : Int) (copied10 : Option Addr) (p12 q14 : W.Sl) (i15 : Int) (w : World) (R : W.Post) : Prop := W.LP Try.prog 157 C64 (Q15 R) [(7, e7.v), (8, .int .i64 n8), (10, .pointer copied10), (12, p12.v), (14, q14.v), (15, .int .i64 i15)] w
def KE_L30 (E : W.Env) (w : World) (R : W.Post) : Prop := W.asSlice (W.Env.get? E 7) fun e7 => W.asInt .i64 (W.Env.get? E 8) fun n8 => W.asPtr (W.Env.get? E 10) fun copied10 => W.asSlice (W.Env.get? E 12) fun p12 => W.asSlice (W.Env.get? E 14) fun q14 => W.asInt .i64 (W.Env.get? E 15) fun i15 => L30 e7 n8 copied10 p12 q14 i15 w R
theorem KE_L30_ok (R : W.Post) (E : W.Env) (w : World) (h : KE_L30 E w R) : W.LP Try.prog 157 C64 (Q15 R) E w := by
  obtain ⟨e7, hq7, h1⟩ := W.asSlice_elim h
  obtain ⟨n8, hq8, h2⟩ := W.asInt_elim h1
  obtain ⟨copied10, hq10, h3⟩ := W.asPtr_elim h2
  obtain ⟨p12, hq12, h4⟩ := W.asSlice_elim h3
  obtain ⟨q14, hq14, h5⟩ := W.asSlice_elim h4
  obtain ⟨i15, hq15, h6⟩ := W.asInt_elim h5
  intro a ha
  exact h6 a (ha.cons hq7 (ha.cons hq8 (ha.cons hq10 (ha.cons hq12 (ha.cons hq14 (ha.cons hq15 ha.nil))))))
noncomputable def C66 : Code := W.Code.snd C64
noncomputable def C67 : Code := W.Code.fst C66
noncomputable def C68 : Code := W.Code.fst C67
noncomputable def C69 : Code := W.Code.snd C68
noncomputable def C70 : Code := W.Code.fst C69
noncomputable def C71 : Code := W.Code.snd C66
abbrev Q16 (R : W.Post) : Exit → Act → World → Prop := (Exit.then (Code.wp Try.prog C71 (Exit.then (W.LoopWP Try.prog C64 (Q15 R)) (Q15 R))) (Exit.then (W.LoopWP Try.prog C64 (Q15 R)) (Q15 R)))
abbrev Q17 (R : W.Post) : Exit → Act → World → Prop := (Exit.inBlock 5 (Q16 R))
noncomputable def C72 : Code := W.Code.fst C70
noncomputable def C73 : Code := W.Code.snd C70
/-- law.go:337 -/
def S33  (w : World) (R : W.Post) : Prop :=
  R (.returned (.bool false)) w
def KE_S33 (E : W.Env) (w : World) (R : W.Post) : Prop := S33  w R
theorem KE_S33_ok (R : W.Post) (E : W.Env) (w : World) (h : KE_S33 E w R) : W.WP Try.prog 157 C70 (Q17 R) E w := by
  exact fun a ha => W.WP.at (E := []) (W.WP.seq (c := C70) (x := C72) (y := C73) (by kernel_rfl) <| W.WP.reg (c := C72) (fun E w => W.retVC Try.prog Try.f7 E w (fun v => R (.returned v) w)) (by kernel_rfl) (Eq.mp (by kernel_rfl) h) fun _ _ a hA hK => (W.WP.ret (c := C73) (by kernel_rfl) fun a hA => W.retVC_sound hA hK) a hA) ha.nil
abbrev Q18 (R : W.Post) : Exit → Act → World → Prop := (Exit.then (W.LoopWP Try.prog C64 (Q15 R)) (Q15 R))
/-- law.go:335 -/
def S34 (e7 : W.Sl) (n8 : Int) (copied10 : Option Addr) (p12 q14 : W.Sl) (i15 : Int) (w : World) (R : W.Post) : Prop :=
  L30 e7 n8 copied10 p12 q14 (IntKind.wrap .i64 (i15 + 1)) w R
def KE_S34 (E : W.Env) (w : World) (R : W.Post) : Prop := W.asSlice (W.Env.get? E 7) fun e7 => W.asInt .i64 (W.Env.get? E 8) fun n8 => W.asPtr (W.Env.get? E 10) fun copied10 => W.asSlice (W.Env.get? E 12) fun p12 => W.asSlice (W.Env.get? E 14) fun q14 => W.asInt .i64 (W.Env.get? E 15) fun i15 => S34 e7 n8 copied10 p12 q14 i15 w R
theorem KE_S34_ok (R : W.Post) (E : W.Env) (w : World) (h : KE_S34 E w R) : W.WP Try.prog 157 C71 (Q18 R) E w := by
  obtain ⟨e7, hq7, h1⟩ := W.asSlice_elim h
  obtain ⟨n8, hq8, h2⟩ := W.asInt_elim h1
  obtain ⟨copied10, hq10, h3⟩ := W.asPtr_elim h2
  obtain ⟨p12, hq12, h4⟩ := W.asSlice_elim h3
  obtain ⟨q14, hq14, h5⟩ := W.asSlice_elim h4
  obtain ⟨i15, hq15, h6⟩ := W.asInt_elim h5
  exact fun a ha => W.WP.at (E := [(7, e7.v), (8, .int .i64 n8), (10, .pointer copied10), (12, p12.v), (14, q14.v), (15, .int .i64 i15)]) (W.WP.reg (c := C71) (fun E w => KE_L30 E w R) (by kernel_rfl) (Eq.mp (by kernel_rfl) h6) fun _ _ a hA hK => KE_L30_ok R _ _ hK a hA) (ha.cons hq7 (ha.cons hq8 (ha.cons hq10 (ha.cons hq12 (ha.cons hq14 (ha.cons hq15 ha.nil))))))
noncomputable def C74 : Code := W.Code.fst C68
noncomputable def C75 : Code := W.Code.snd C69
/-- law.go:336 -/
def S32 (e7 : W.Sl) (n8 : Int) (copied10 : Option Addr) (p12 q14 : W.Sl) (i15 : Int) (w : World) (R : W.Post) : Prop :=
  (0 : Int) ≤ i15 ∧ i15 < ((q14.n : Nat) : Int) ∧ W.optP q14.a fun t109_p => ∃ t111 : W.Sl, w.cell? ((t109_p.add (Int.toNat i15 * 3)).add 2) = some (t111.v) ∧ 
  W.sel (((t111.n : Nat) : Int) != 1) (S33  w R) ((0 : Int) ≤ i15 ∧ i15 < ((q14.n : Nat) : Int) ∧ W.optP q14.a fun t117_p => ∃ t119 : W.Sl, w.cell? ((t117_p.add (Int.toNat i15 * 3)).add 2) = some (t119.v) ∧ 
  (0 : Int) ≤ 0 ∧ 0 < ((t119.n : Nat) : Int) ∧ W.optP t119.a fun t120_p => ∃ t121 : Int, w.cell? (t120_p.add (Int.toNat 0 * 1)) = some (.int .u8 t121) ∧ 
  W.sel ((IntKind.wrap .i64 t121) != i15) (S33  w R) ((0 : Int) ≤ i15 ∧ i15 < ((q14.n : Nat) : Int) ∧ W.optP q14.a fun t129_p => ∃ t131 : Int, w.cell? ((t129_p.add (Int.toNat i15 * 3)).add 0) = some (.int .i64 t131) ∧ 
  W.sel (t131 != (IntKind.wrap .i64 (i15 + 1))) (S33  w R) (S34 e7 n8 copied10 p12 q14 i15 w R)))
def KE_S32 (E : W.Env) (w : World) (R : W.Post) : Prop := W.asSlice (W.Env.get? E 7) fun e7 => W.asInt .i64 (W.Env.get? E 8) fun n8 => W.asPtr (W.Env.get? E 10) fun copied10 => W.asSlice (W.Env.get? E 12) fun p12 => W.asSlice (W.Env.get? E 14) fun q14 => W.asInt .i64 (W.Env.get? E 15) fun i15 => S32 e7 n8 copied10 p12 q14 i15 w R
theorem KE_S32_ok (R : W.Post) (E : W.Env) (w : World) (h : KE_S32 E w R) : W.WP Try.prog 157 C68 (Q17 R) E w := by
  obtain ⟨e7, hq7, h1⟩ := W.asSlice_elim h
  obtain ⟨n8, hq8, h2⟩ := W.asInt_elim h1
  obtain ⟨copied10, hq10, h3⟩ := W.asPtr_elim h2
  obtain ⟨p12, hq12, h4⟩ := W.asSlice_elim h3
  obtain ⟨q14, hq14, h5⟩ := W.asSlice_elim h4
  obtain ⟨i15, hq15, h6⟩ := W.asInt_elim h5
  exact fun a ha => W.WP.at (E := [(7, e7.v), (8, .int .i64 n8), (10, .pointer copied10), (12, p12.v), (14, q14.v), (15, .int .i64 i15)]) (W.WP.seq (c := C68) (x := C74) (y := C69) (by kernel_rfl) <| W.WP.reg (c := C74) (fun E w => W.condK (W.Env.val E (.tmp 135)) (KE_S33 E w R) (KE_S34 E w R)) (by kernel_rfl) (Eq.mp (by kernel_rfl) h6) fun _ _ a hA hK => (W.WP.condK (c := C69) (x := C70) (y := C75) (o := .tmp 135) (by kernel_rfl) (fun hK => (KE_S33_ok R _ _ hK)) (fun hK => (W.WP.skip (c := C75) (by kernel_rfl) fun a hA => (KE_S34_ok R _ _ hK) a hA)) hK) a hA) (ha.cons hq7 (ha.cons hq8 (ha.cons hq10 (ha.cons hq12 (ha.cons hq14 (ha.cons hq15 ha.nil))))))
abbrev Q19 (R : W.Post) : Exit → Act → World → Prop := (bodyPost Try.prog Try.f7 R)
noncomputable def C76 : Code := W.Code.fst C65
noncomputable def C77 : Code := W.Code.snd C65
/-- law.go:340 -/
def S35 (e7 : W.Sl) (n8 : Int) (copied10 : Option Addr) (p12 q14 : W.Sl) (w : World) (R : W.Post) : Prop :=
  W.sel (((q14.n : Nat) : Int) == ((p12.n : Nat) : Int)) (Calls Try.prog n_channel_End_Waiting #[.pointer copied10] w fun r_ w1 => ∃ t143 : Int, r_ = .returned (.int .i64 t143) ∧ 
  W.sel (t143 == n8) ((0 : Int) ≤ 0 ∧ 0 < ((e7.n : Nat) : Int) ∧ W.optP e7.a fun t149_p => ∃ t150 : Option Addr, w1.cell? (t149_p.add (Int.toNat 0 * 1)) = some (.pointer t150) ∧ 
  Calls Try.prog n_channel_End_Waiting #[.pointer t150] w1 fun r_ w2 => ∃ t151 : Int, r_ = .returned (.int .i64 t151) ∧ 
  W.sel (t151 == 0) (Calls Try.prog n_enthymemelaw38_lives #[] w2 fun r_ w3 => ∃ t155 : Bool, r_ = .returned (.bool t155) ∧ 
  R (.returned (.bool t155)) w3) (R (.returned (.bool false)) w2)) (R (.returned (.bool false)) w1)) (R (.returned (.bool false)) w)
def KE_S35 (E : W.Env) (w : World) (R : W.Post) : Prop := W.asSlice (W.Env.get? E 7) fun e7 => W.asInt .i64 (W.Env.get? E 8) fun n8 => W.asPtr (W.Env.get? E 10) fun copied10 => W.asSlice (W.Env.get? E 12) fun p12 => W.asSlice (W.Env.get? E 14) fun q14 => S35 e7 n8 copied10 p12 q14 w R
theorem KE_S35_ok (R : W.Post) (E : W.Env) (w : World) (h : KE_S35 E w R) : W.WP Try.prog 157 C65 (Q19 R) E w := by
  obtain ⟨e7, hq7, h1⟩ := W.asSlice_elim h
  obtain ⟨n8, hq8, h2⟩ := W.asInt_elim h1
  obtain ⟨copied10, hq10, h3⟩ := W.asPtr_elim h2
  obtain ⟨p12, hq12, h4⟩ := W.asSlice_elim h3
  obtain ⟨q14, hq14, h5⟩ := W.asSlice_elim h4
  exact fun a ha => W.WP.at (E := [(7, e7.v), (8, .int .i64 n8), (10, .pointer copied10), (12, p12.v), (14, q14.v)]) (W.WP.seq (c := C65) (x := C76) (y := C77) (by kernel_rfl) <| W.WP.reg (c := C76) (fun E w => W.retVC Try.prog Try.f7 E w (fun v => R (.returned v) w)) (by kernel_rfl) (Eq.mp (by kernel_rfl) h5) fun _ _ a hA hK => (W.WP.ret (c := C77) (by kernel_rfl) fun a hA => W.retVC_sound hA hK) a hA) (ha.cons hq7 (ha.cons hq8 (ha.cons hq10 (ha.cons hq12 (ha.cons hq14 ha.nil)))))
noncomputable def C78 : Code := W.Code.fst C64
abbrev Q20 (R : W.Post) : Exit → Act → World → Prop := (Exit.then (Code.wp Try.prog C66 (Exit.then (W.LoopWP Try.prog C64 (Q15 R)) (Q15 R))) (Exit.then (W.LoopWP Try.prog C64 (Q15 R)) (Q15 R)))
noncomputable def C79 : Code := W.Code.fst C78
noncomputable def C80 : Code := W.Code.snd C78
noncomputable def C81 : Code := W.Code.fst C80
noncomputable def C82 : Code := W.Code.snd C80
/-- law.go:335 -/
def S31 (e7 : W.Sl) (n8 : Int) (copied10 : Option Addr) (p12 q14 : W.Sl) (i15 : Int) (w : World) (R : W.Post) : Prop :=
  W.sel (decide (i15 < ((q14.n : Nat) : Int))) (S32 e7 n8 copied10 p12 q14 i15 w R) (S35 e7 n8 copied10 p12 q14 w R)
def KE_S31 (E : W.Env) (w : World) (R : W.Post) : Prop := W.asSlice (W.Env.get? E 7) fun e7 => W.asInt .i64 (W.Env.get? E 8) fun n8 => W.asPtr (W.Env.get? E 10) fun copied10 => W.asSlice (W.Env.get? E 12) fun p12 => W.asSlice (W.Env.get? E 14) fun q14 => W.asInt .i64 (W.Env.get? E 15) fun i15 => S31 e7 n8 copied10 p12 q14 i15 w R
theorem KE_S31_ok (R : W.Post) (E : W.Env) (w : World) (h : KE_S31 E w R) : W.WP Try.prog 157 C78 (Q20 R) E w := by
  obtain ⟨e7, hq7, h1⟩ := W.asSlice_elim h
  obtain ⟨n8, hq8, h2⟩ := W.asInt_elim h1
  obtain ⟨copied10, hq10, h3⟩ := W.asPtr_elim h2
  obtain ⟨p12, hq12, h4⟩ := W.asSlice_elim h3
  obtain ⟨q14, hq14, h5⟩ := W.asSlice_elim h4
  obtain ⟨i15, hq15, h6⟩ := W.asInt_elim h5
  exact fun a ha => W.WP.at (E := [(7, e7.v), (8, .int .i64 n8), (10, .pointer copied10), (12, p12.v), (14, q14.v), (15, .int .i64 i15)]) (W.WP.seq (c := C78) (x := C79) (y := C80) (by kernel_rfl) <| W.WP.reg (c := C79) (fun E w => W.condK (W.Env.val E (.tmp 104)) (KE_S32 E w R) (KE_S35 E w R)) (by kernel_rfl) (Eq.mp (by kernel_rfl) h6) fun _ _ a hA hK => (W.WP.condK (c := C80) (x := C81) (y := C82) (o := .tmp 104) (by kernel_rfl) (fun hK => (W.WP.skip (c := C81) (by kernel_rfl) fun a hA => (W.WP.seq (c := C66) (x := C67) (y := C71) (by kernel_rfl) (W.WP.block (c := C67) (x := C68) (id := 5) (by kernel_rfl) (KE_S32_ok R _ _ hK))) a hA)) (fun hK => (W.WP.exit (c := C82) (id := 4) (by kernel_rfl) fun a hA => (KE_S35_ok R _ _ hK) a hA)) hK) a hA) (ha.cons hq7 (ha.cons hq8 (ha.cons hq10 (ha.cons hq12 (ha.cons hq14 (ha.cons hq15 ha.nil))))))
theorem L30_step (e7 : W.Sl) (n8 : Int) (copied10 : Option Addr) (p12 q14 : W.Sl) (i15 : Int) (w : World) (R : W.Post) (h : S31 e7 n8 copied10 p12 q14 i15 w R) : L30 e7 n8 copied10 p12 q14 i15 w R :=
  W.LP.step (c := C64) (E := [(7, e7.v), (8, .int .i64 n8), (10, .pointer copied10), (12, p12.v), (14, q14.v), (15, .int .i64 i15)]) (w := w) (W.WP.seq (c := C64) (x := C78) (y := C66) (by kernel_rfl) (KE_S31_ok R _ _ (Eq.mp (by kernel_rfl) h)))
noncomputable def C83 : Code := W.Code.fst C61
/-- law.go:335 -/
def S29 (e7 : W.Sl) (n8 : Int) (copied10 : Option Addr) (p12 q14 : W.Sl) (w : World) (R : W.Post) : Prop :=
  L30 e7 n8 copied10 p12 q14 0 w R
def KE_S29 (E : W.Env) (w : World) (R : W.Post) : Prop := W.asSlice (W.Env.get? E 7) fun e7 => W.asInt .i64 (W.Env.get? E 8) fun n8 => W.asPtr (W.Env.get? E 10) fun copied10 => W.asSlice (W.Env.get? E 12) fun p12 => W.asSlice (W.Env.get? E 14) fun q14 => S29 e7 n8 copied10 p12 q14 w R
theorem KE_S29_ok (R : W.Post) (E : W.Env) (w : World) (h : KE_S29 E w R) : W.WP Try.prog 157 C61 (Q14 R) E w := by
  obtain ⟨e7, hq7, h1⟩ := W.asSlice_elim h
  obtain ⟨n8, hq8, h2⟩ := W.asInt_elim h1
  obtain ⟨copied10, hq10, h3⟩ := W.asPtr_elim h2
  obtain ⟨p12, hq12, h4⟩ := W.asSlice_elim h3
  obtain ⟨q14, hq14, h5⟩ := W.asSlice_elim h4
  exact fun a ha => W.WP.at (E := [(7, e7.v), (8, .int .i64 n8), (10, .pointer copied10), (12, p12.v), (14, q14.v)]) (W.WP.seq (c := C61) (x := C83) (y := C62) (by kernel_rfl) <| W.WP.reg (c := C83) (fun E w => KE_L30 E w R) (by kernel_rfl) (Eq.mp (by kernel_rfl) h5) fun _ _ a hA hK => (W.WP.block (c := C62) (x := C63) (id := 4) (by kernel_rfl) (W.WP.loop (c := C63) (x := C64) (by kernel_rfl) (KE_L30_ok R _ _ hK))) a hA) (ha.cons hq7 (ha.cons hq8 (ha.cons hq10 (ha.cons hq12 (ha.cons hq14 ha.nil)))))
noncomputable def C84 : Code := W.Code.fst C59
/-- law.go:334 -/
def S28 (e7 : W.Sl) (n8 : Int) (copied10 : Option Addr) (p12 : W.Sl) (w : World) (R : W.Post) : Prop :=
  Calls Try.prog n_channel_End_Out #[.pointer copied10] w fun r_ w1 => ∃ t100 : W.Sl, r_ = .returned (t100.v) ∧ 
  S29 e7 n8 copied10 p12 t100 w1 R
def KE_S28 (E : W.Env) (w : World) (R : W.Post) : Prop := W.asSlice (W.Env.get? E 7) fun e7 => W.asInt .i64 (W.Env.get? E 8) fun n8 => W.asPtr (W.Env.get? E 10) fun copied10 => W.asSlice (W.Env.get? E 12) fun p12 => S28 e7 n8 copied10 p12 w R
theorem KE_S28_ok (R : W.Post) (E : W.Env) (w : World) (h : KE_S28 E w R) : W.WP Try.prog 157 C59 (Q19 R) E w := by
  obtain ⟨e7, hq7, h1⟩ := W.asSlice_elim h
  obtain ⟨n8, hq8, h2⟩ := W.asInt_elim h1
  obtain ⟨copied10, hq10, h3⟩ := W.asPtr_elim h2
  obtain ⟨p12, hq12, h4⟩ := W.asSlice_elim h3
  exact fun a ha => W.WP.at (E := [(7, e7.v), (8, .int .i64 n8), (10, .pointer copied10), (12, p12.v)]) (W.WP.seq (c := C59) (x := C84) (y := C60) (by kernel_rfl) <| W.WP.reg (c := C84) (fun E w => KE_S29 E w R) (by kernel_rfl) (Eq.mp (by kernel_rfl) h4) fun _ _ a hA hK => (W.WP.seq (c := C60) (x := C61) (y := C65) (by kernel_rfl) (KE_S29_ok R _ _ hK)) a hA) (ha.cons hq7 (ha.cons hq8 (ha.cons hq10 (ha.cons hq12 ha.nil))))
noncomputable def C85 : Code := W.Code.fst C56
/-- law.go:333 -/
def S27 (e7 : W.Sl) (n8 : Int) (copied10 : Option Addr) (p12 : W.Sl) (w : World) (R : W.Post) : Prop :=
  (0 : Int) ≤ 0 ∧ 0 < ((e7.n : Nat) : Int) ∧ W.optP e7.a fun t94_p => ∃ t95 : Option Addr, w.cell? (t94_p.add (Int.toNat 0 * 1)) = some (.pointer t95) ∧ 
  Calls Try.prog n_channel_End_In #[.pointer t95, .agg #[.int .i64 0, .int .i64 n8, .slice none 0 0]] w fun r_ w1 => ∃ t98 : W.Sl, r_ = .returned (t98.v) ∧ 
  S28 e7 n8 copied10 p12 w1 R
def KE_S27 (E : W.Env) (w : World) (R : W.Post) : Prop := W.asSlice (W.Env.get? E 7) fun e7 => W.asInt .i64 (W.Env.get? E 8) fun n8 => W.asPtr (W.Env.get? E 10) fun copied10 => W.asSlice (W.Env.get? E 12) fun p12 => S27 e7 n8 copied10 p12 w R
theorem KE_S27_ok (R : W.Post) (E : W.Env) (w : World) (h : KE_S27 E w R) : W.WP Try.prog 157 C56 (Q19 R) E w := by
  obtain ⟨e7, hq7, h1⟩ := W.asSlice_elim h
  obtain ⟨n8, hq8, h2⟩ := W.asInt_elim h1
  obtain ⟨copied10, hq10, h3⟩ := W.asPtr_elim h2
  obtain ⟨p12, hq12, h4⟩ := W.asSlice_elim h3
  exact fun a ha => W.WP.at (E := [(7, e7.v), (8, .int .i64 n8), (10, .pointer copied10), (12, p12.v)]) (W.WP.seq (c := C56) (x := C85) (y := C59) (by kernel_rfl) <| W.WP.reg (c := C85) (fun E w => KE_S28 E w R) (by kernel_rfl) (Eq.mp (by kernel_rfl) h4) fun _ _ a hA hK => (KE_S28_ok R _ _ hK) a hA) (ha.cons hq7 (ha.cons hq8 (ha.cons hq10 (ha.cons hq12 ha.nil))))
noncomputable def C86 : Code := W.Code.fst C53
noncomputable def C87 : Code := W.Code.snd C54
/-- law.go:330 -/
def S25 (e7 : W.Sl) (n8 : Int) (copied10 : Option Addr) (p12 : W.Sl) (w : World) (R : W.Post) : Prop :=
  W.sel copied10.isNone (S26 n8 w R) (S27 e7 n8 copied10 p12 w R)
def KE_S25 (E : W.Env) (w : World) (R : W.Post) : Prop := W.asSlice (W.Env.get? E 7) fun e7 => W.asInt .i64 (W.Env.get? E 8) fun n8 => W.asPtr (W.Env.get? E 10) fun copied10 => W.asSlice (W.Env.get? E 12) fun p12 => S25 e7 n8 copied10 p12 w R
theorem KE_S25_ok (R : W.Post) (E : W.Env) (w : World) (h : KE_S25 E w R) : W.WP Try.prog 157 C53 (Q13 R) E w := by
  obtain ⟨e7, hq7, h1⟩ := W.asSlice_elim h
  obtain ⟨n8, hq8, h2⟩ := W.asInt_elim h1
  obtain ⟨copied10, hq10, h3⟩ := W.asPtr_elim h2
  obtain ⟨p12, hq12, h4⟩ := W.asSlice_elim h3
  exact fun a ha => W.WP.at (E := [(7, e7.v), (8, .int .i64 n8), (10, .pointer copied10), (12, p12.v)]) (W.WP.seq (c := C53) (x := C86) (y := C54) (by kernel_rfl) <| W.WP.reg (c := C86) (fun E w => W.condK (W.Env.val E (.tmp 87)) (KE_S26 E w R) (KE_S27 E w R)) (by kernel_rfl) (Eq.mp (by kernel_rfl) h4) fun _ _ a hA hK => (W.WP.condK (c := C54) (x := C55) (y := C87) (o := .tmp 87) (by kernel_rfl) (fun hK => (KE_S26_ok R _ _ hK)) (fun hK => (W.WP.skip (c := C87) (by kernel_rfl) fun a hA => (KE_S27_ok R _ _ hK) a hA)) hK) a hA) (ha.cons hq7 (ha.cons hq8 (ha.cons hq10 (ha.cons hq12 ha.nil))))
noncomputable def C88 : Code := W.Code.fst C39
abbrev Q21 (R : W.Post) : Exit → Act → World → Prop := (Exit.then (Code.wp Try.prog C41 (Exit.then (W.LoopWP Try.prog C39 (Q8 R)) (Q8 R))) (Exit.then (W.LoopWP Try.prog C39 (Q8 R)) (Q8 R)))
noncomputable def C89 : Code := W.Code.fst C88
noncomputable def C90 : Code := W.Code.snd C88
noncomputable def C91 : Code := W.Code.fst C90
noncomputable def C92 : Code := W.Code.snd C90
/-- law.go:324 -/
def S20 (e7 : W.Sl) (n8 : Int) (copied10 : Option Addr) (p12 : W.Sl) (i13 : Int) (w : World) (R : W.Post) : Prop :=
  W.sel (decide (i13 < ((p12.n : Nat) : Int))) (S21 e7 n8 copied10 p12 i13 w R) (S25 e7 n8 copied10 p12 w R)
def KE_S20 (E : W.Env) (w : World) (R : W.Post) : Prop := W.asSlice (W.Env.get? E 7) fun e7 => W.asInt .i64 (W.Env.get? E 8) fun n8 => W.asPtr (W.Env.get? E 10) fun copied10 => W.asSlice (W.Env.get? E 12) fun p12 => W.asInt .i64 (W.Env.get? E 13) fun i13 => S20 e7 n8 copied10 p12 i13 w R
theorem KE_S20_ok (R : W.Post) (E : W.Env) (w : World) (h : KE_S20 E w R) : W.WP Try.prog 157 C88 (Q21 R) E w := by
  obtain ⟨e7, hq7, h1⟩ := W.asSlice_elim h
  obtain ⟨n8, hq8, h2⟩ := W.asInt_elim h1
  obtain ⟨copied10, hq10, h3⟩ := W.asPtr_elim h2
  obtain ⟨p12, hq12, h4⟩ := W.asSlice_elim h3
  obtain ⟨i13, hq13, h5⟩ := W.asInt_elim h4
  exact fun a ha => W.WP.at (E := [(7, e7.v), (8, .int .i64 n8), (10, .pointer copied10), (12, p12.v), (13, .int .i64 i13)]) (W.WP.seq (c := C88) (x := C89) (y := C90) (by kernel_rfl) <| W.WP.reg (c := C89) (fun E w => W.condK (W.Env.val E (.tmp 58)) (KE_S21 E w R) (KE_S25 E w R)) (by kernel_rfl) (Eq.mp (by kernel_rfl) h5) fun _ _ a hA hK => (W.WP.condK (c := C90) (x := C91) (y := C92) (o := .tmp 58) (by kernel_rfl) (fun hK => (W.WP.skip (c := C91) (by kernel_rfl) fun a hA => (W.WP.seq (c := C41) (x := C42) (y := C47) (by kernel_rfl) (W.WP.block (c := C42) (x := C43) (id := 3) (by kernel_rfl) (W.WP.seq (c := C43) (x := C44) (y := C48) (by kernel_rfl) (KE_S21_ok R _ _ hK)))) a hA)) (fun hK => (W.WP.exit (c := C92) (id := 2) (by kernel_rfl) fun a hA => (W.WP.seq (c := C40) (x := C53) (y := C56) (by kernel_rfl) (KE_S25_ok R _ _ hK)) a hA)) hK) a hA) (ha.cons hq7 (ha.cons hq8 (ha.cons hq10 (ha.cons hq12 (ha.cons hq13 ha.nil)))))
theorem L19_step (e7 : W.Sl) (n8 : Int) (copied10 : Option Addr) (p12 : W.Sl) (i13 : Int) (w : World) (R : W.Post) (h : S20 e7 n8 copied10 p12 i13 w R) : L19 e7 n8 copied10 p12 i13 w R :=
  W.LP.step (c := C39) (E := [(7, e7.v), (8, .int .i64 n8), (10, .pointer copied10), (12, p12.v), (13, .int .i64 i13)]) (w := w) (W.WP.seq (c := C39) (x := C88) (y := C41) (by kernel_rfl) (KE_S20_ok R _ _ (Eq.mp (by kernel_rfl) h)))
noncomputable def C93 : Code := W.Code.fst C36
/-- law.go:324 -/
def S18 (e7 : W.Sl) (n8 : Int) (copied10 : Option Addr) (p12 : W.Sl) (w : World) (R : W.Post) : Prop :=
  L19 e7 n8 copied10 p12 0 w R
def KE_S18 (E : W.Env) (w : World) (R : W.Post) : Prop := W.asSlice (W.Env.get? E 7) fun e7 => W.asInt .i64 (W.Env.get? E 8) fun n8 => W.asPtr (W.Env.get? E 10) fun copied10 => W.asSlice (W.Env.get? E 12) fun p12 => S18 e7 n8 copied10 p12 w R
theorem KE_S18_ok (R : W.Post) (E : W.Env) (w : World) (h : KE_S18 E w R) : W.WP Try.prog 157 C36 (Q7 R) E w := by
  obtain ⟨e7, hq7, h1⟩ := W.asSlice_elim h
  obtain ⟨n8, hq8, h2⟩ := W.asInt_elim h1
  obtain ⟨copied10, hq10, h3⟩ := W.asPtr_elim h2
  obtain ⟨p12, hq12, h4⟩ := W.asSlice_elim h3
  exact fun a ha => W.WP.at (E := [(7, e7.v), (8, .int .i64 n8), (10, .pointer copied10), (12, p12.v)]) (W.WP.seq (c := C36) (x := C93) (y := C37) (by kernel_rfl) <| W.WP.reg (c := C93) (fun E w => KE_L19 E w R) (by kernel_rfl) (Eq.mp (by kernel_rfl) h4) fun _ _ a hA hK => (W.WP.block (c := C37) (x := C38) (id := 2) (by kernel_rfl) (W.WP.loop (c := C38) (x := C39) (by kernel_rfl) (KE_L19_ok R _ _ hK))) a hA) (ha.cons hq7 (ha.cons hq8 (ha.cons hq10 (ha.cons hq12 ha.nil))))
noncomputable def C94 : Code := W.Code.fst C16
/-- law.go:323 -/
def S17 (e7 : W.Sl) (n8 : Int) (copied10 : Option Addr) (w : World) (R : W.Post) : Prop :=
  (0 : Int) ≤ 0 ∧ 0 < ((e7.n : Nat) : Int) ∧ W.optP e7.a fun t52_p => ∃ t53 : Option Addr, w.cell? (t52_p.add (Int.toNat 0 * 1)) = some (.pointer t53) ∧ 
  Calls Try.prog n_channel_End_Out #[.pointer t53] w fun r_ w1 => ∃ t54 : W.Sl, r_ = .returned (t54.v) ∧ 
  S18 e7 n8 copied10 t54 w1 R
def KE_S17 (E : W.Env) (w : World) (R : W.Post) : Prop := W.asSlice (W.Env.get? E 7) fun e7 => W.asInt .i64 (W.Env.get? E 8) fun n8 => W.asPtr (W.Env.get? E 10) fun copied10 => S17 e7 n8 copied10 w R
theorem KE_S17_ok (R : W.Post) (E : W.Env) (w : World) (h : KE_S17 E w R) : W.WP Try.prog 157 C16 (Q19 R) E w := by
  obtain ⟨e7, hq7, h1⟩ := W.asSlice_elim h
  obtain ⟨n8, hq8, h2⟩ := W.asInt_elim h1
  obtain ⟨copied10, hq10, h3⟩ := W.asPtr_elim h2
  exact fun a ha => W.WP.at (E := [(7, e7.v), (8, .int .i64 n8), (10, .pointer copied10)]) (W.WP.seq (c := C16) (x := C94) (y := C35) (by kernel_rfl) <| W.WP.reg (c := C94) (fun E w => KE_S18 E w R) (by kernel_rfl) (Eq.mp (by kernel_rfl) h3) fun _ _ a hA hK => (W.WP.seq (c := C35) (x := C36) (y := C40) (by kernel_rfl) (KE_S18_ok R _ _ hK)) a hA) (ha.cons hq7 (ha.cons hq8 (ha.cons hq10 ha.nil)))
noncomputable def C95 : Code := W.Code.fst C15
abbrev Q22 (R : W.Post) : Exit → Act → World → Prop := (Exit.then (Code.wp Try.prog C17 (Exit.then (W.LoopWP Try.prog C15 (Q2 R)) (Q2 R))) (Exit.then (W.LoopWP Try.prog C15 (Q2 R)) (Q2 R)))
noncomputable def C96 : Code := W.Code.fst C95
noncomputable def C97 : Code := W.Code.snd C95
noncomputable def C98 : Code := W.Code.fst C97
noncomputable def C99 : Code := W.Code.snd C97
/-- law.go:313 -/
def S9 (cut2 : Int) (e7 : W.Sl) (n8 : Int) (b9 : W.Sl) (copied10 : Option Addr) (i11 : Int) (w : World) (R : W.Post) : Prop :=
  W.sel (decide (i11 < n8)) (S10 cut2 e7 n8 b9 copied10 i11 w R) (S17 e7 n8 copied10 w R)
def KE_S9 (E : W.Env) (w : World) (R : W.Post) : Prop := W.asInt .i64 (W.Env.get? E 2) fun cut2 => W.asSlice (W.Env.get? E 7) fun e7 => W.asInt .i64 (W.Env.get? E 8) fun n8 => W.asSlice (W.Env.get? E 9) fun b9 => W.asPtr (W.Env.get? E 10) fun copied10 => W.asInt .i64 (W.Env.get? E 11) fun i11 => S9 cut2 e7 n8 b9 copied10 i11 w R
theorem KE_S9_ok (R : W.Post) (E : W.Env) (w : World) (h : KE_S9 E w R) : W.WP Try.prog 157 C95 (Q22 R) E w := by
  obtain ⟨cut2, hq2, h1⟩ := W.asInt_elim h
  obtain ⟨e7, hq7, h2⟩ := W.asSlice_elim h1
  obtain ⟨n8, hq8, h3⟩ := W.asInt_elim h2
  obtain ⟨b9, hq9, h4⟩ := W.asSlice_elim h3
  obtain ⟨copied10, hq10, h5⟩ := W.asPtr_elim h4
  obtain ⟨i11, hq11, h6⟩ := W.asInt_elim h5
  exact fun a ha => W.WP.at (E := [(2, .int .i64 cut2), (7, e7.v), (8, .int .i64 n8), (9, b9.v), (10, .pointer copied10), (11, .int .i64 i11)]) (W.WP.seq (c := C95) (x := C96) (y := C97) (by kernel_rfl) <| W.WP.reg (c := C96) (fun E w => W.condK (W.Env.val E (.tmp 25)) (KE_S10 E w R) (KE_S17 E w R)) (by kernel_rfl) (Eq.mp (by kernel_rfl) h6) fun _ _ a hA hK => (W.WP.condK (c := C97) (x := C98) (y := C99) (o := .tmp 25) (by kernel_rfl) (fun hK => (W.WP.skip (c := C98) (by kernel_rfl) fun a hA => (W.WP.seq (c := C17) (x := C19) (y := C18) (by kernel_rfl) (W.WP.block (c := C19) (x := C20) (id := 1) (by kernel_rfl) (W.WP.seq (c := C20) (x := C30) (y := C21) (by kernel_rfl) (KE_S10_ok R _ _ hK)))) a hA)) (fun hK => (W.WP.exit (c := C99) (id := 0) (by kernel_rfl) fun a hA => (KE_S17_ok R _ _ hK) a hA)) hK) a hA) (ha.cons hq2 (ha.cons hq7 (ha.cons hq8 (ha.cons hq9 (ha.cons hq10 (ha.cons hq11 ha.nil))))))
theorem L8_step (cut2 : Int) (e7 : W.Sl) (n8 : Int) (b9 : W.Sl) (copied10 : Option Addr) (i11 : Int) (w : World) (R : W.Post) (h : S9 cut2 e7 n8 b9 copied10 i11 w R) : L8 cut2 e7 n8 b9 copied10 i11 w R :=
  W.LP.step (c := C15) (E := [(2, .int .i64 cut2), (7, e7.v), (8, .int .i64 n8), (9, b9.v), (10, .pointer copied10), (11, .int .i64 i11)]) (w := w) (W.WP.seq (c := C15) (x := C95) (y := C17) (by kernel_rfl) (KE_S9_ok R _ _ (Eq.mp (by kernel_rfl) h)))
noncomputable def C100 : Code := W.Code.fst C12
/-- law.go:313 -/
def S7 (cut2 : Int) (e7 : W.Sl) (n8 : Int) (b9 : W.Sl) (copied10 : Option Addr) (w : World) (R : W.Post) : Prop :=
  L8 cut2 e7 n8 b9 copied10 0 w R
def KE_S7 (E : W.Env) (w : World) (R : W.Post) : Prop := W.asInt .i64 (W.Env.get? E 2) fun cut2 => W.asSlice (W.Env.get? E 7) fun e7 => W.asInt .i64 (W.Env.get? E 8) fun n8 => W.asSlice (W.Env.get? E 9) fun b9 => W.asPtr (W.Env.get? E 10) fun copied10 => S7 cut2 e7 n8 b9 copied10 w R
theorem KE_S7_ok (R : W.Post) (E : W.Env) (w : World) (h : KE_S7 E w R) : W.WP Try.prog 157 C12 (Q1 R) E w := by
  obtain ⟨cut2, hq2, h1⟩ := W.asInt_elim h
  obtain ⟨e7, hq7, h2⟩ := W.asSlice_elim h1
  obtain ⟨n8, hq8, h3⟩ := W.asInt_elim h2
  obtain ⟨b9, hq9, h4⟩ := W.asSlice_elim h3
  obtain ⟨copied10, hq10, h5⟩ := W.asPtr_elim h4
  exact fun a ha => W.WP.at (E := [(2, .int .i64 cut2), (7, e7.v), (8, .int .i64 n8), (9, b9.v), (10, .pointer copied10)]) (W.WP.seq (c := C12) (x := C100) (y := C13) (by kernel_rfl) <| W.WP.reg (c := C100) (fun E w => KE_L8 E w R) (by kernel_rfl) (Eq.mp (by kernel_rfl) h5) fun _ _ a hA hK => (W.WP.block (c := C13) (x := C14) (id := 0) (by kernel_rfl) (W.WP.loop (c := C14) (x := C15) (by kernel_rfl) (KE_L8_ok R _ _ hK))) a hA) (ha.cons hq2 (ha.cons hq7 (ha.cons hq8 (ha.cons hq9 (ha.cons hq10 ha.nil)))))
noncomputable def C101 : Code := W.Code.fst C10
/-- law.go:312 -/
def S6 (cut2 : Int) (e7 : W.Sl) (n8 : Int) (b9 : W.Sl) (w : World) (R : W.Post) : Prop :=
  S7 cut2 e7 n8 b9 none w R
def KE_S6 (E : W.Env) (w : World) (R : W.Post) : Prop := W.asInt .i64 (W.Env.get? E 2) fun cut2 => W.asSlice (W.Env.get? E 7) fun e7 => W.asInt .i64 (W.Env.get? E 8) fun n8 => W.asSlice (W.Env.get? E 9) fun b9 => S6 cut2 e7 n8 b9 w R
theorem KE_S6_ok (R : W.Post) (E : W.Env) (w : World) (h : KE_S6 E w R) : W.WP Try.prog 157 C10 (Q19 R) E w := by
  obtain ⟨cut2, hq2, h1⟩ := W.asInt_elim h
  obtain ⟨e7, hq7, h2⟩ := W.asSlice_elim h1
  obtain ⟨n8, hq8, h3⟩ := W.asInt_elim h2
  obtain ⟨b9, hq9, h4⟩ := W.asSlice_elim h3
  exact fun a ha => W.WP.at (E := [(2, .int .i64 cut2), (7, e7.v), (8, .int .i64 n8), (9, b9.v)]) (W.WP.seq (c := C10) (x := C101) (y := C11) (by kernel_rfl) <| W.WP.reg (c := C101) (fun E w => KE_S7 E w R) (by kernel_rfl) (Eq.mp (by kernel_rfl) h4) fun _ _ a hA hK => (W.WP.seq (c := C11) (x := C12) (y := C16) (by kernel_rfl) (KE_S7_ok R _ _ hK)) a hA) (ha.cons hq2 (ha.cons hq7 (ha.cons hq8 (ha.cons hq9 ha.nil))))
noncomputable def C102 : Code := W.Code.fst C9
/-- law.go:311 -/
def S5 (cut2 : Int) (e7 : W.Sl) (n8 : Int) (w : World) (R : W.Post) : Prop :=
  let w1 := w.alloc (.cells #[.int .u8 0] ty_uint8)
  S6 cut2 e7 n8 ⟨some (Addr.mk w.heap.size 0 none), 1, 1⟩ w1 R
def KE_S5 (E : W.Env) (w : World) (R : W.Post) : Prop := W.asInt .i64 (W.Env.get? E 2) fun cut2 => W.asSlice (W.Env.get? E 7) fun e7 => W.asInt .i64 (W.Env.get? E 8) fun n8 => S5 cut2 e7 n8 w R
theorem KE_S5_ok (R : W.Post) (E : W.Env) (w : World) (h : KE_S5 E w R) : W.WP Try.prog 157 C9 (Q19 R) E w := by
  obtain ⟨cut2, hq2, h1⟩ := W.asInt_elim h
  obtain ⟨e7, hq7, h2⟩ := W.asSlice_elim h1
  obtain ⟨n8, hq8, h3⟩ := W.asInt_elim h2
  exact fun a ha => W.WP.at (E := [(2, .int .i64 cut2), (7, e7.v), (8, .int .i64 n8)]) (W.WP.seq (c := C9) (x := C102) (y := C10) (by kernel_rfl) <| W.WP.reg (c := C102) (fun E w => KE_S6 E w R) (by kernel_rfl) (Eq.mp (by kernel_rfl) h3) fun _ _ a hA hK => (KE_S6_ok R _ _ hK) a hA) (ha.cons hq2 (ha.cons hq7 (ha.cons hq8 ha.nil)))
noncomputable def C103 : Code := W.Code.fst C6
/-- law.go:310 -/
def S4 (many1 cut2 : Int) (e7 : W.Sl) (w : World) (R : W.Post) : Prop :=
  Calls Try.prog n_enthymemeref01_Around #[.int .i64 many1, .int .i64 12] w fun r_ w1 => ∃ t21 : Int, r_ = .returned (.int .i64 t21) ∧ 
  S5 cut2 e7 t21 w1 R
def KE_S4 (E : W.Env) (w : World) (R : W.Post) : Prop := W.asInt .i64 (W.Env.get? E 1) fun many1 => W.asInt .i64 (W.Env.get? E 2) fun cut2 => W.asSlice (W.Env.get? E 7) fun e7 => S4 many1 cut2 e7 w R
theorem KE_S4_ok (R : W.Post) (E : W.Env) (w : World) (h : KE_S4 E w R) : W.WP Try.prog 157 C6 (Q19 R) E w := by
  obtain ⟨many1, hq1, h1⟩ := W.asInt_elim h
  obtain ⟨cut2, hq2, h2⟩ := W.asInt_elim h1
  obtain ⟨e7, hq7, h3⟩ := W.asSlice_elim h2
  exact fun a ha => W.WP.at (E := [(1, .int .i64 many1), (2, .int .i64 cut2), (7, e7.v)]) (W.WP.seq (c := C6) (x := C103) (y := C9) (by kernel_rfl) <| W.WP.reg (c := C103) (fun E w => KE_S5 E w R) (by kernel_rfl) (Eq.mp (by kernel_rfl) h3) fun _ _ a hA hK => (KE_S5_ok R _ _ hK) a hA) (ha.cons hq1 (ha.cons hq2 (ha.cons hq7 ha.nil)))
noncomputable def C104 : Code := W.Code.fst C3
noncomputable def C105 : Code := W.Code.snd C4
/-- law.go:307 -/
def S2 (many1 cut2 : Int) (e7 : W.Sl) (w : World) (R : W.Post) : Prop :=
  W.sel e7.a.isNone (S3  w R) (S4 many1 cut2 e7 w R)
def KE_S2 (E : W.Env) (w : World) (R : W.Post) : Prop := W.asInt .i64 (W.Env.get? E 1) fun many1 => W.asInt .i64 (W.Env.get? E 2) fun cut2 => W.asSlice (W.Env.get? E 7) fun e7 => S2 many1 cut2 e7 w R
theorem KE_S2_ok (R : W.Post) (E : W.Env) (w : World) (h : KE_S2 E w R) : W.WP Try.prog 157 C3 (Q0 R) E w := by
  obtain ⟨many1, hq1, h1⟩ := W.asInt_elim h
  obtain ⟨cut2, hq2, h2⟩ := W.asInt_elim h1
  obtain ⟨e7, hq7, h3⟩ := W.asSlice_elim h2
  exact fun a ha => W.WP.at (E := [(1, .int .i64 many1), (2, .int .i64 cut2), (7, e7.v)]) (W.WP.seq (c := C3) (x := C104) (y := C4) (by kernel_rfl) <| W.WP.reg (c := C104) (fun E w => W.condK (W.Env.val E (.tmp 19)) (KE_S3 E w R) (KE_S4 E w R)) (by kernel_rfl) (Eq.mp (by kernel_rfl) h3) fun _ _ a hA hK => (W.WP.condK (c := C4) (x := C5) (y := C105) (o := .tmp 19) (by kernel_rfl) (fun hK => (KE_S3_ok R _ _ hK)) (fun hK => (W.WP.skip (c := C105) (by kernel_rfl) fun a hA => (KE_S4_ok R _ _ hK) a hA)) hK) a hA) (ha.cons hq1 (ha.cons hq2 (ha.cons hq7 ha.nil)))
noncomputable def C106 : Code := W.Code.fst C1
/-- law.go:306 -/
def S1 (window0 many1 cut2 : Int) (w : World) (R : W.Post) : Prop :=
  Calls Try.prog n_enthymemelaw38_ends #[.int .i64 window0] w fun r_ w1 => ∃ t17 : W.Sl, r_ = .returned (t17.v) ∧ 
  S2 many1 cut2 t17 w1 R
def KE_S1 (E : W.Env) (w : World) (R : W.Post) : Prop := W.asInt .i64 (W.Env.get? E 0) fun window0 => W.asInt .i64 (W.Env.get? E 1) fun many1 => W.asInt .i64 (W.Env.get? E 2) fun cut2 => S1 window0 many1 cut2 w R
theorem KE_S1_ok (R : W.Post) (E : W.Env) (w : World) (h : KE_S1 E w R) : W.WP Try.prog 157 C1 (Q19 R) E w := by
  obtain ⟨window0, hq0, h1⟩ := W.asInt_elim h
  obtain ⟨many1, hq1, h2⟩ := W.asInt_elim h1
  obtain ⟨cut2, hq2, h3⟩ := W.asInt_elim h2
  exact fun a ha => W.WP.at (E := [(0, .int .i64 window0), (1, .int .i64 many1), (2, .int .i64 cut2)]) (W.WP.seq (c := C1) (x := C106) (y := C2) (by kernel_rfl) <| W.WP.reg (c := C106) (fun E w => KE_S2 E w R) (by kernel_rfl) (Eq.mp (by kernel_rfl) h3) fun _ _ a hA hK => (W.WP.seq (c := C2) (x := C3) (y := C6) (by kernel_rfl) (KE_S2_ok R _ _ hK)) a hA) (ha.cons hq0 (ha.cons hq1 (ha.cons hq2 ha.nil)))
noncomputable def C107 : Code := W.Code.fst C0
/-- law.go:305 -/
def S0 (window0 many1 cut2 : Int) (w : World) (R : W.Post) : Prop :=
  S1 window0 many1 cut2 w R
def KE_S0 (E : W.Env) (w : World) (R : W.Post) : Prop := W.asInt .i64 (W.Env.get? E 0) fun window0 => W.asInt .i64 (W.Env.get? E 1) fun many1 => W.asInt .i64 (W.Env.get? E 2) fun cut2 => S0 window0 many1 cut2 w R
theorem KE_S0_ok (R : W.Post) (E : W.Env) (w : World) (h : KE_S0 E w R) : W.WP Try.prog 157 C0 (Q19 R) E w := by
  obtain ⟨window0, hq0, h1⟩ := W.asInt_elim h
  obtain ⟨many1, hq1, h2⟩ := W.asInt_elim h1
  obtain ⟨cut2, hq2, h3⟩ := W.asInt_elim h2
  exact fun a ha => W.WP.at (E := [(0, .int .i64 window0), (1, .int .i64 many1), (2, .int .i64 cut2)]) (W.WP.seq (c := C0) (x := C107) (y := C1) (by kernel_rfl) <| W.WP.reg (c := C107) (fun E w => KE_S1 E w R) (by kernel_rfl) (Eq.mp (by kernel_rfl) h3) fun _ _ a hA hK => (KE_S1_ok R _ _ hK) a hA) (ha.cons hq0 (ha.cons hq1 (ha.cons hq2 ha.nil)))
/-- enthymeme/enthymemelaw38.ChannelCopies -/
theorem ok (window0 many1 cut2 : Int) (w : World) (R : W.Post) (h : S0 window0 many1 cut2 w R) : Calls Try.prog n_enthymemelaw38_ChannelCopies #[.int .i64 window0, .int .i64 many1, .int .i64 cut2] w R :=
  W.calls_of_WP' (fn := Try.f7) (c := C0) (args := [.int .i64 window0, .int .i64 many1, .int .i64 cut2]) (by kernel_rfl) (by kernel_rfl) (by kernel_rfl) (KE_S0_ok R _ _ (Eq.mp (by kernel_rfl) h))
end enthymemelaw38_ChannelCopies
end Go.Proofs.Ytellmncndfmbbaa

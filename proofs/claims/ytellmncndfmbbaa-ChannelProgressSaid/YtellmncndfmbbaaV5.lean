/- Printed by a program of ours (vcgen.py) from the dump: the conditions of the functions, and that they suffice. -/
import Derived.Test.YtellmncndfmbbaaV
set_option linter.unusedVariables false
set_option maxRecDepth 100000
namespace Go.Proofs.Ytellmncndfmbbaa
open Go
namespace enthymemelaw38_ChannelProgress
noncomputable def C0 : Code := (Try.f5.body).getD .skip
noncomputable def C1 : Code := W.Code.snd C0
noncomputable def C2 : Code := W.Code.snd C1
noncomputable def C3 : Code := W.Code.fst C2
noncomputable def C4 : Code := W.Code.snd C3
noncomputable def C5 : Code := W.Code.fst C4
noncomputable def C6 : Code := W.Code.snd C2
abbrev Q0 (R : W.Post) : Exit → Act → World → Prop := (Exit.then (Code.wp Try.prog C6 (bodyPost Try.prog Try.f5 R)) (bodyPost Try.prog Try.f5 R))
noncomputable def C7 : Code := W.Code.fst C5
noncomputable def C8 : Code := W.Code.snd C5
/-- law.go:187 -/
def S3  (w : World) (R : W.Post) : Prop :=
  R (.returned (.bool false)) w
def KE_S3 (E : W.Env) (w : World) (R : W.Post) : Prop := S3  w R
theorem KE_S3_ok (R : W.Post) (E : W.Env) (w : World) (h : KE_S3 E w R) : W.WP Try.prog 167 C5 (Q0 R) E w := by
  exact fun a ha => W.WP.at (E := []) (W.WP.seq (c := C5) (x := C7) (y := C8) (by kernel_rfl) <| W.WP.reg (c := C7) (fun E w => W.retVC Try.prog Try.f5 E w (fun v => R (.returned v) w)) (by kernel_rfl) (Eq.mp (by kernel_rfl) h) fun _ _ a hA hK => (W.WP.ret (c := C8) (by kernel_rfl) fun a hA => W.retVC_sound hA hK) a hA) ha.nil
noncomputable def C9 : Code := W.Code.snd C6
noncomputable def C10 : Code := W.Code.fst C9
noncomputable def C11 : Code := W.Code.snd C10
noncomputable def C12 : Code := W.Code.fst C11
noncomputable def C13 : Code := W.Code.fst C12
noncomputable def C14 : Code := W.Code.snd C9
abbrev Q1 (R : W.Post) : Exit → Act → World → Prop := (Exit.then (Code.wp Try.prog C14 (bodyPost Try.prog Try.f5 R)) (bodyPost Try.prog Try.f5 R))
abbrev Q2 (R : W.Post) : Exit → Act → World → Prop := (Exit.inBlock 0 (Q1 R))
/-- the head of the loop, law.go:190 -/
def L6 (lost3 : Int) (e9 many10 : W.Sl) (k11 : Int) (w : World) (R : W.Post) : Prop := W.LP Try.prog 167 C13 (Q2 R) [(3, .int .i64 lost3), (9, e9.v), (10, many10.v), (11, .int .i64 k11)] w
def KE_L6 (E : W.Env) (w : World) (R : W.Post) : Prop := W.asInt .i64 (W.Env.get? E 3) fun lost3 => W.asSlice (W.Env.get? E 9) fun e9 => W.asSlice (W.Env.get? E 10) fun many10 => W.asInt .i64 (W.Env.get? E 11) fun k11 => L6 lost3 e9 many10 k11 w R
theorem KE_L6_ok (R : W.Post) (E : W.Env) (w : World) (h : KE_L6 E w R) : W.LP Try.prog 167 C13 (Q2 R) E w := by
  obtain ⟨lost3, hq3, h1⟩ := W.asInt_elim h
  obtain ⟨e9, hq9, h2⟩ := W.asSlice_elim h1
  obtain ⟨many10, hq10, h3⟩ := W.asSlice_elim h2
  obtain ⟨k11, hq11, h4⟩ := W.asInt_elim h3
  intro a ha
  exact h4 a (ha.cons hq3 (ha.cons hq9 (ha.cons hq10 (ha.cons hq11 ha.nil))))
noncomputable def C15 : Code := W.Code.snd C13
noncomputable def C16 : Code := W.Code.fst C15
noncomputable def C17 : Code := W.Code.fst C16
noncomputable def C18 : Code := W.Code.snd C17
noncomputable def C19 : Code := W.Code.fst C18
noncomputable def C20 : Code := W.Code.fst C19
noncomputable def C21 : Code := W.Code.snd C15
abbrev Q3 (R : W.Post) : Exit → Act → World → Prop := (Exit.then (Code.wp Try.prog C21 (Exit.then (W.LoopWP Try.prog C13 (Q2 R)) (Q2 R))) (Exit.then (W.LoopWP Try.prog C13 (Q2 R)) (Q2 R)))
abbrev Q4 (R : W.Post) : Exit → Act → World → Prop := (Exit.inBlock 1 (Q3 R))
abbrev Q5 (R : W.Post) : Exit → Act → World → Prop := (Exit.inBlock 2 (Q4 R))
/-- the head of the loop, law.go:191 -/
def L9 (lost3 : Int) (e9 many10 : W.Sl) (k11 i12 : Int) (w : World) (R : W.Post) : Prop := W.LP Try.prog 167 C20 (Q5 R) [(3, .int .i64 lost3), (9, e9.v), (10, many10.v), (11, .int .i64 k11), (12, .int .i64 i12)] w
def KE_L9 (E : W.Env) (w : World) (R : W.Post) : Prop := W.asInt .i64 (W.Env.get? E 3) fun lost3 => W.asSlice (W.Env.get? E 9) fun e9 => W.asSlice (W.Env.get? E 10) fun many10 => W.asInt .i64 (W.Env.get? E 11) fun k11 => W.asInt .i64 (W.Env.get? E 12) fun i12 => L9 lost3 e9 many10 k11 i12 w R
theorem KE_L9_ok (R : W.Post) (E : W.Env) (w : World) (h : KE_L9 E w R) : W.LP Try.prog 167 C20 (Q5 R) E w := by
  obtain ⟨lost3, hq3, h1⟩ := W.asInt_elim h
  obtain ⟨e9, hq9, h2⟩ := W.asSlice_elim h1
  obtain ⟨many10, hq10, h3⟩ := W.asSlice_elim h2
  obtain ⟨k11, hq11, h4⟩ := W.asInt_elim h3
  obtain ⟨i12, hq12, h5⟩ := W.asInt_elim h4
  intro a ha
  exact h5 a (ha.cons hq3 (ha.cons hq9 (ha.cons hq10 (ha.cons hq11 (ha.cons hq12 ha.nil)))))
noncomputable def C22 : Code := W.Code.snd C20
noncomputable def C23 : Code := W.Code.fst C22
noncomputable def C24 : Code := W.Code.fst C23
noncomputable def C25 : Code := W.Code.snd C24
noncomputable def C26 : Code := W.Code.fst C25
noncomputable def C27 : Code := W.Code.snd C22
abbrev Q6 (R : W.Post) : Exit → Act → World → Prop := (Exit.then (Code.wp Try.prog C27 (Exit.then (W.LoopWP Try.prog C20 (Q5 R)) (Q5 R))) (Exit.then (W.LoopWP Try.prog C20 (Q5 R)) (Q5 R)))
abbrev Q7 (R : W.Post) : Exit → Act → World → Prop := (Exit.inBlock 3 (Q6 R))
noncomputable def C28 : Code := W.Code.fst C26
noncomputable def C29 : Code := W.Code.snd C26
/-- law.go:193 -/
def S12  (w : World) (R : W.Post) : Prop :=
  R (.returned (.bool false)) w
def KE_S12 (E : W.Env) (w : World) (R : W.Post) : Prop := S12  w R
theorem KE_S12_ok (R : W.Post) (E : W.Env) (w : World) (h : KE_S12 E w R) : W.WP Try.prog 167 C26 (Q7 R) E w := by
  exact fun a ha => W.WP.at (E := []) (W.WP.seq (c := C26) (x := C28) (y := C29) (by kernel_rfl) <| W.WP.reg (c := C28) (fun E w => W.retVC Try.prog Try.f5 E w (fun v => R (.returned v) w)) (by kernel_rfl) (Eq.mp (by kernel_rfl) h) fun _ _ a hA hK => (W.WP.ret (c := C29) (by kernel_rfl) fun a hA => W.retVC_sound hA hK) a hA) ha.nil
abbrev Q8 (R : W.Post) : Exit → Act → World → Prop := (Exit.then (W.LoopWP Try.prog C20 (Q5 R)) (Q5 R))
/-- law.go:191 -/
def S13 (lost3 : Int) (e9 many10 : W.Sl) (k11 i12 : Int) (w : World) (R : W.Post) : Prop :=
  L9 lost3 e9 many10 k11 (IntKind.wrap .i64 (i12 + 1)) w R
def KE_S13 (E : W.Env) (w : World) (R : W.Post) : Prop := W.asInt .i64 (W.Env.get? E 3) fun lost3 => W.asSlice (W.Env.get? E 9) fun e9 => W.asSlice (W.Env.get? E 10) fun many10 => W.asInt .i64 (W.Env.get? E 11) fun k11 => W.asInt .i64 (W.Env.get? E 12) fun i12 => S13 lost3 e9 many10 k11 i12 w R
theorem KE_S13_ok (R : W.Post) (E : W.Env) (w : World) (h : KE_S13 E w R) : W.WP Try.prog 167 C27 (Q8 R) E w := by
  obtain ⟨lost3, hq3, h1⟩ := W.asInt_elim h
  obtain ⟨e9, hq9, h2⟩ := W.asSlice_elim h1
  obtain ⟨many10, hq10, h3⟩ := W.asSlice_elim h2
  obtain ⟨k11, hq11, h4⟩ := W.asInt_elim h3
  obtain ⟨i12, hq12, h5⟩ := W.asInt_elim h4
  exact fun a ha => W.WP.at (E := [(3, .int .i64 lost3), (9, e9.v), (10, many10.v), (11, .int .i64 k11), (12, .int .i64 i12)]) (W.WP.reg (c := C27) (fun E w => KE_L9 E w R) (by kernel_rfl) (Eq.mp (by kernel_rfl) h5) fun _ _ a hA hK => KE_L9_ok R _ _ hK a hA) (ha.cons hq3 (ha.cons hq9 (ha.cons hq10 (ha.cons hq11 (ha.cons hq12 ha.nil)))))
noncomputable def C30 : Code := W.Code.fst C24
noncomputable def C31 : Code := W.Code.snd C25
/-- law.go:192 -/
def S11 (lost3 : Int) (e9 many10 : W.Sl) (k11 i12 : Int) (w : World) (R : W.Post) : Prop :=
  (0 : Int) ≤ k11 ∧ k11 < ((e9.n : Nat) : Int) ∧ W.optP e9.a fun t44_p => ∃ t45 : Option Addr, w.cell? (t44_p.add (Int.toNat k11 * 1)) = some (.pointer t45) ∧ 
  let w1 := w.alloc (.cells #[.int .u8 (IntKind.wrap .u8 i12)] ty_uint8)
  Calls Try.prog n_channel_End_Send #[.pointer t45, .slice (some (Addr.mk w.heap.size 0 none)) 1 1] w1 fun r_ w2 => ∃ t49 : Int, r_ = .returned (.int .i64 t49) ∧ 
  W.sel (t49 != 0) (S12  w2 R) (S13 lost3 e9 many10 k11 i12 w2 R)
def KE_S11 (E : W.Env) (w : World) (R : W.Post) : Prop := W.asInt .i64 (W.Env.get? E 3) fun lost3 => W.asSlice (W.Env.get? E 9) fun e9 => W.asSlice (W.Env.get? E 10) fun many10 => W.asInt .i64 (W.Env.get? E 11) fun k11 => W.asInt .i64 (W.Env.get? E 12) fun i12 => S11 lost3 e9 many10 k11 i12 w R
theorem KE_S11_ok (R : W.Post) (E : W.Env) (w : World) (h : KE_S11 E w R) : W.WP Try.prog 167 C24 (Q7 R) E w := by
  obtain ⟨lost3, hq3, h1⟩ := W.asInt_elim h
  obtain ⟨e9, hq9, h2⟩ := W.asSlice_elim h1
  obtain ⟨many10, hq10, h3⟩ := W.asSlice_elim h2
  obtain ⟨k11, hq11, h4⟩ := W.asInt_elim h3
  obtain ⟨i12, hq12, h5⟩ := W.asInt_elim h4
  exact fun a ha => W.WP.at (E := [(3, .int .i64 lost3), (9, e9.v), (10, many10.v), (11, .int .i64 k11), (12, .int .i64 i12)]) (W.WP.seq (c := C24) (x := C30) (y := C25) (by kernel_rfl) <| W.WP.reg (c := C30) (fun E w => W.condK (W.Env.val E (.tmp 50)) (KE_S12 E w R) (KE_S13 E w R)) (by kernel_rfl) (Eq.mp (by kernel_rfl) h5) fun _ _ a hA hK => (W.WP.condK (c := C25) (x := C26) (y := C31) (o := .tmp 50) (by kernel_rfl) (fun hK => (KE_S12_ok R _ _ hK)) (fun hK => (W.WP.skip (c := C31) (by kernel_rfl) fun a hA => (KE_S13_ok R _ _ hK) a hA)) hK) a hA) (ha.cons hq3 (ha.cons hq9 (ha.cons hq10 (ha.cons hq11 (ha.cons hq12 ha.nil)))))
abbrev Q9 (R : W.Post) : Exit → Act → World → Prop := (Exit.then (W.LoopWP Try.prog C13 (Q2 R)) (Q2 R))
/-- law.go:190 -/
def S14 (lost3 : Int) (e9 many10 : W.Sl) (k11 : Int) (w : World) (R : W.Post) : Prop :=
  L6 lost3 e9 many10 (IntKind.wrap .i64 (k11 + 1)) w R
def KE_S14 (E : W.Env) (w : World) (R : W.Post) : Prop := W.asInt .i64 (W.Env.get? E 3) fun lost3 => W.asSlice (W.Env.get? E 9) fun e9 => W.asSlice (W.Env.get? E 10) fun many10 => W.asInt .i64 (W.Env.get? E 11) fun k11 => S14 lost3 e9 many10 k11 w R
theorem KE_S14_ok (R : W.Post) (E : W.Env) (w : World) (h : KE_S14 E w R) : W.WP Try.prog 167 C21 (Q9 R) E w := by
  obtain ⟨lost3, hq3, h1⟩ := W.asInt_elim h
  obtain ⟨e9, hq9, h2⟩ := W.asSlice_elim h1
  obtain ⟨many10, hq10, h3⟩ := W.asSlice_elim h2
  obtain ⟨k11, hq11, h4⟩ := W.asInt_elim h3
  exact fun a ha => W.WP.at (E := [(3, .int .i64 lost3), (9, e9.v), (10, many10.v), (11, .int .i64 k11)]) (W.WP.reg (c := C21) (fun E w => KE_L6 E w R) (by kernel_rfl) (Eq.mp (by kernel_rfl) h4) fun _ _ a hA hK => KE_L6_ok R _ _ hK a hA) (ha.cons hq3 (ha.cons hq9 (ha.cons hq10 (ha.cons hq11 ha.nil))))
noncomputable def C32 : Code := W.Code.fst C20
abbrev Q10 (R : W.Post) : Exit → Act → World → Prop := (Exit.then (Code.wp Try.prog C22 (Exit.then (W.LoopWP Try.prog C20 (Q5 R)) (Q5 R))) (Exit.then (W.LoopWP Try.prog C20 (Q5 R)) (Q5 R)))
noncomputable def C33 : Code := W.Code.fst C32
noncomputable def C34 : Code := W.Code.snd C32
noncomputable def C35 : Code := W.Code.fst C34
noncomputable def C36 : Code := W.Code.snd C34
/-- law.go:191 -/
def S10 (lost3 : Int) (e9 many10 : W.Sl) (k11 i12 : Int) (w : World) (R : W.Post) : Prop :=
  (0 : Int) ≤ k11 ∧ k11 < ((many10.n : Nat) : Int) ∧ W.optP many10.a fun t37_p => ∃ t38 : Int, w.cell? (t37_p.add (Int.toNat k11 * 1)) = some (.int .i64 t38) ∧ 
  W.sel (decide (i12 < t38)) (S11 lost3 e9 many10 k11 i12 w R) (S14 lost3 e9 many10 k11 w R)
def KE_S10 (E : W.Env) (w : World) (R : W.Post) : Prop := W.asInt .i64 (W.Env.get? E 3) fun lost3 => W.asSlice (W.Env.get? E 9) fun e9 => W.asSlice (W.Env.get? E 10) fun many10 => W.asInt .i64 (W.Env.get? E 11) fun k11 => W.asInt .i64 (W.Env.get? E 12) fun i12 => S10 lost3 e9 many10 k11 i12 w R
theorem KE_S10_ok (R : W.Post) (E : W.Env) (w : World) (h : KE_S10 E w R) : W.WP Try.prog 167 C32 (Q10 R) E w := by
  obtain ⟨lost3, hq3, h1⟩ := W.asInt_elim h
  obtain ⟨e9, hq9, h2⟩ := W.asSlice_elim h1
  obtain ⟨many10, hq10, h3⟩ := W.asSlice_elim h2
  obtain ⟨k11, hq11, h4⟩ := W.asInt_elim h3
  obtain ⟨i12, hq12, h5⟩ := W.asInt_elim h4
  exact fun a ha => W.WP.at (E := [(3, .int .i64 lost3), (9, e9.v), (10, many10.v), (11, .int .i64 k11), (12, .int .i64 i12)]) (W.WP.seq (c := C32) (x := C33) (y := C34) (by kernel_rfl) <| W.WP.reg (c := C33) (fun E w => W.condK (W.Env.val E (.tmp 39)) (KE_S11 E w R) (KE_S14 E w R)) (by kernel_rfl) (Eq.mp (by kernel_rfl) h5) fun _ _ a hA hK => (W.WP.condK (c := C34) (x := C35) (y := C36) (o := .tmp 39) (by kernel_rfl) (fun hK => (W.WP.skip (c := C35) (by kernel_rfl) fun a hA => (W.WP.seq (c := C22) (x := C23) (y := C27) (by kernel_rfl) (W.WP.block (c := C23) (x := C24) (id := 3) (by kernel_rfl) (KE_S11_ok R _ _ hK))) a hA)) (fun hK => (W.WP.exit (c := C36) (id := 2) (by kernel_rfl) fun a hA => (KE_S14_ok R _ _ hK) a hA)) hK) a hA) (ha.cons hq3 (ha.cons hq9 (ha.cons hq10 (ha.cons hq11 (ha.cons hq12 ha.nil)))))
theorem L9_step (lost3 : Int) (e9 many10 : W.Sl) (k11 i12 : Int) (w : World) (R : W.Post) (h : S10 lost3 e9 many10 k11 i12 w R) : L9 lost3 e9 many10 k11 i12 w R :=
  W.LP.step (c := C20) (E := [(3, .int .i64 lost3), (9, e9.v), (10, many10.v), (11, .int .i64 k11), (12, .int .i64 i12)]) (w := w) (W.WP.seq (c := C20) (x := C32) (y := C22) (by kernel_rfl) (KE_S10_ok R _ _ (Eq.mp (by kernel_rfl) h)))
noncomputable def C37 : Code := W.Code.fst C17
/-- law.go:191 -/
def S8 (lost3 : Int) (e9 many10 : W.Sl) (k11 : Int) (w : World) (R : W.Post) : Prop :=
  L9 lost3 e9 many10 k11 0 w R
def KE_S8 (E : W.Env) (w : World) (R : W.Post) : Prop := W.asInt .i64 (W.Env.get? E 3) fun lost3 => W.asSlice (W.Env.get? E 9) fun e9 => W.asSlice (W.Env.get? E 10) fun many10 => W.asInt .i64 (W.Env.get? E 11) fun k11 => S8 lost3 e9 many10 k11 w R
theorem KE_S8_ok (R : W.Post) (E : W.Env) (w : World) (h : KE_S8 E w R) : W.WP Try.prog 167 C17 (Q4 R) E w := by
  obtain ⟨lost3, hq3, h1⟩ := W.asInt_elim h
  obtain ⟨e9, hq9, h2⟩ := W.asSlice_elim h1
  obtain ⟨many10, hq10, h3⟩ := W.asSlice_elim h2
  obtain ⟨k11, hq11, h4⟩ := W.asInt_elim h3
  exact fun a ha => W.WP.at (E := [(3, .int .i64 lost3), (9, e9.v), (10, many10.v), (11, .int .i64 k11)]) (W.WP.seq (c := C17) (x := C37) (y := C18) (by kernel_rfl) <| W.WP.reg (c := C37) (fun E w => KE_L9 E w R) (by kernel_rfl) (Eq.mp (by kernel_rfl) h4) fun _ _ a hA hK => (W.WP.block (c := C18) (x := C19) (id := 2) (by kernel_rfl) (W.WP.loop (c := C19) (x := C20) (by kernel_rfl) (KE_L9_ok R _ _ hK))) a hA) (ha.cons hq3 (ha.cons hq9 (ha.cons hq10 (ha.cons hq11 ha.nil))))
noncomputable def C38 : Code := W.Code.fst C14
noncomputable def C39 : Code := W.Code.snd C38
noncomputable def C40 : Code := W.Code.fst C39
noncomputable def C41 : Code := W.Code.fst C40
noncomputable def C42 : Code := W.Code.snd C14
abbrev Q11 (R : W.Post) : Exit → Act → World → Prop := (Exit.then (Code.wp Try.prog C42 (bodyPost Try.prog Try.f5 R)) (bodyPost Try.prog Try.f5 R))
abbrev Q12 (R : W.Post) : Exit → Act → World → Prop := (Exit.inBlock 4 (Q11 R))
/-- the head of the loop, law.go:197 -/
def L16 (lost3 : Int) (e9 many10 : W.Sl) (i13 : Int) (w : World) (R : W.Post) : Prop := W.LP Try.prog 167 C41 (Q12 R) [(3, .int .i64 lost3), (9, e9.v), (10, many10.v), (13, .int .i64 i13)] w
def KE_L16 (E : W.Env) (w : World) (R : W.Post) : Prop := W.asInt .i64 (W.Env.get? E 3) fun lost3 => W.asSlice (W.Env.get? E 9) fun e9 => W.asSlice (W.Env.get? E 10) fun many10 => W.asInt .i64 (W.Env.get? E 13) fun i13 => L16 lost3 e9 many10 i13 w R
theorem KE_L16_ok (R : W.Post) (E : W.Env) (w : World) (h : KE_L16 E w R) : W.LP Try.prog 167 C41 (Q12 R) E w := by
  obtain ⟨lost3, hq3, h1⟩ := W.asInt_elim h
  obtain ⟨e9, hq9, h2⟩ := W.asSlice_elim h1
  obtain ⟨many10, hq10, h3⟩ := W.asSlice_elim h2
  obtain ⟨i13, hq13, h4⟩ := W.asInt_elim h3
  intro a ha
  exact h4 a (ha.cons hq3 (ha.cons hq9 (ha.cons hq10 (ha.cons hq13 ha.nil))))
noncomputable def C43 : Code := W.Code.snd C41
noncomputable def C44 : Code := W.Code.snd C43
abbrev Q13 (R : W.Post) : Exit → Act → World → Prop := (Exit.then (W.LoopWP Try.prog C41 (Q12 R)) (Q12 R))
/-- law.go:197 -/
def S19 (lost3 : Int) (e9 many10 : W.Sl) (i13 : Int) (w : World) (R : W.Post) : Prop :=
  L16 lost3 e9 many10 (IntKind.wrap .i64 (i13 + 1)) w R
def KE_S19 (E : W.Env) (w : World) (R : W.Post) : Prop := W.asInt .i64 (W.Env.get? E 3) fun lost3 => W.asSlice (W.Env.get? E 9) fun e9 => W.asSlice (W.Env.get? E 10) fun many10 => W.asInt .i64 (W.Env.get? E 13) fun i13 => S19 lost3 e9 many10 i13 w R
theorem KE_S19_ok (R : W.Post) (E : W.Env) (w : World) (h : KE_S19 E w R) : W.WP Try.prog 167 C44 (Q13 R) E w := by
  obtain ⟨lost3, hq3, h1⟩ := W.asInt_elim h
  obtain ⟨e9, hq9, h2⟩ := W.asSlice_elim h1
  obtain ⟨many10, hq10, h3⟩ := W.asSlice_elim h2
  obtain ⟨i13, hq13, h4⟩ := W.asInt_elim h3
  exact fun a ha => W.WP.at (E := [(3, .int .i64 lost3), (9, e9.v), (10, many10.v), (13, .int .i64 i13)]) (W.WP.reg (c := C44) (fun E w => KE_L16 E w R) (by kernel_rfl) (Eq.mp (by kernel_rfl) h4) fun _ _ a hA hK => KE_L16_ok R _ _ hK a hA) (ha.cons hq3 (ha.cons hq9 (ha.cons hq10 (ha.cons hq13 ha.nil))))
noncomputable def C45 : Code := W.Code.fst C43
noncomputable def C46 : Code := W.Code.fst C45
abbrev Q14 (R : W.Post) : Exit → Act → World → Prop := (Exit.then (Code.wp Try.prog C44 (Exit.then (W.LoopWP Try.prog C41 (Q12 R)) (Q12 R))) (Exit.then (W.LoopWP Try.prog C41 (Q12 R)) (Q12 R)))
abbrev Q15 (R : W.Post) : Exit → Act → World → Prop := (Exit.inBlock 5 (Q14 R))
/-- law.go:198 -/
def S18 (lost3 : Int) (e9 many10 : W.Sl) (i13 : Int) (w : World) (R : W.Post) : Prop :=
  (0 : Int) ≤ (Int.tmod i13 2) ∧ (Int.tmod i13 2) < ((e9.n : Nat) : Int) ∧ W.optP e9.a fun t60_p => ∃ t61 : Option Addr, w.cell? (t60_p.add (Int.toNat (Int.tmod i13 2) * 1)) = some (.pointer t61) ∧ 
  Calls Try.prog n_channel_End_Out #[.pointer t61] w fun r_ w1 => ∃ t62 : W.Sl, r_ = .returned (t62.v) ∧ 
  S19 lost3 e9 many10 i13 w1 R
def KE_S18 (E : W.Env) (w : World) (R : W.Post) : Prop := W.asInt .i64 (W.Env.get? E 3) fun lost3 => W.asSlice (W.Env.get? E 9) fun e9 => W.asSlice (W.Env.get? E 10) fun many10 => W.asInt .i64 (W.Env.get? E 13) fun i13 => S18 lost3 e9 many10 i13 w R
theorem KE_S18_ok (R : W.Post) (E : W.Env) (w : World) (h : KE_S18 E w R) : W.WP Try.prog 167 C46 (Q15 R) E w := by
  obtain ⟨lost3, hq3, h1⟩ := W.asInt_elim h
  obtain ⟨e9, hq9, h2⟩ := W.asSlice_elim h1
  obtain ⟨many10, hq10, h3⟩ := W.asSlice_elim h2
  obtain ⟨i13, hq13, h4⟩ := W.asInt_elim h3
  exact fun a ha => W.WP.at (E := [(3, .int .i64 lost3), (9, e9.v), (10, many10.v), (13, .int .i64 i13)]) (W.WP.reg (c := C46) (fun E w => KE_S19 E w R) (by kernel_rfl) (Eq.mp (by kernel_rfl) h4) fun _ _ a hA hK => (KE_S19_ok R _ _ hK) a hA) (ha.cons hq3 (ha.cons hq9 (ha.cons hq10 (ha.cons hq13 ha.nil))))
noncomputable def C47 : Code := W.Code.snd C42
noncomputable def C48 : Code := W.Code.fst C47
noncomputable def C49 : Code := W.Code.snd C48
noncomputable def C50 : Code := W.Code.fst C49
noncomputable def C51 : Code := W.Code.fst C50
noncomputable def C52 : Code := W.Code.snd C47
abbrev Q16 (R : W.Post) : Exit → Act → World → Prop := (Exit.then (Code.wp Try.prog C52 (bodyPost Try.prog Try.f5 R)) (bodyPost Try.prog Try.f5 R))
abbrev Q17 (R : W.Post) : Exit → Act → World → Prop := (Exit.inBlock 6 (Q16 R))
/-- the head of the loop, law.go:201 -/
def L22 (e9 many10 got14 : W.Sl) (round15 : Int) (w : World) (R : W.Post) : Prop := W.LP Try.prog 167 C51 (Q17 R) [(9, e9.v), (10, many10.v), (14, got14.v), (15, .int .i64 round15)] w
def KE_L22 (E : W.Env) (w : World) (R : W.Post) : Prop := W.asSlice (W.Env.get? E 9) fun e9 => W.asSlice (W.Env.get? E 10) fun many10 => W.asSlice (W.Env.get? E 14) fun got14 => W.asInt .i64 (W.Env.get? E 15) fun round15 => L22 e9 many10 got14 round15 w R
theorem KE_L22_ok (R : W.Post) (E : W.Env) (w : World) (h : KE_L22 E w R) : W.LP Try.prog 167 C51 (Q17 R) E w := by
  obtain ⟨e9, hq9, h1⟩ := W.asSlice_elim h
  obtain ⟨many10, hq10, h2⟩ := W.asSlice_elim h1
  obtain ⟨got14, hq14, h3⟩ := W.asSlice_elim h2
  obtain ⟨round15, hq15, h4⟩ := W.asInt_elim h3
  intro a ha
  exact h4 a (ha.cons hq9 (ha.cons hq10 (ha.cons hq14 (ha.cons hq15 ha.nil))))
noncomputable def C53 : Code := W.Code.snd C51
noncomputable def C54 : Code := W.Code.fst C53
noncomputable def C55 : Code := W.Code.fst C54
noncomputable def C56 : Code := W.Code.snd C55
noncomputable def C57 : Code := W.Code.fst C56
noncomputable def C58 : Code := W.Code.fst C57
noncomputable def C59 : Code := W.Code.snd C53
abbrev Q18 (R : W.Post) : Exit → Act → World → Prop := (Exit.then (Code.wp Try.prog C59 (Exit.then (W.LoopWP Try.prog C51 (Q17 R)) (Q17 R))) (Exit.then (W.LoopWP Try.prog C51 (Q17 R)) (Q17 R)))
abbrev Q19 (R : W.Post) : Exit → Act → World → Prop := (Exit.inBlock 7 (Q18 R))
abbrev Q20 (R : W.Post) : Exit → Act → World → Prop := (Exit.inBlock 8 (Q19 R))
/-- the head of the loop, law.go:202 -/
def L25 (e9 many10 got14 : W.Sl) (round15 k16 : Int) (w : World) (R : W.Post) : Prop := W.LP Try.prog 167 C58 (Q20 R) [(9, e9.v), (10, many10.v), (14, got14.v), (15, .int .i64 round15), (16, .int .i64 k16)] w
def KE_L25 (E : W.Env) (w : World) (R : W.Post) : Prop := W.asSlice (W.Env.get? E 9) fun e9 => W.asSlice (W.Env.get? E 10) fun many10 => W.asSlice (W.Env.get? E 14) fun got14 => W.asInt .i64 (W.Env.get? E 15) fun round15 => W.asInt .i64 (W.Env.get? E 16) fun k16 => L25 e9 many10 got14 round15 k16 w R
theorem KE_L25_ok (R : W.Post) (E : W.Env) (w : World) (h : KE_L25 E w R) : W.LP Try.prog 167 C58 (Q20 R) E w := by
  obtain ⟨e9, hq9, h1⟩ := W.asSlice_elim h
  obtain ⟨many10, hq10, h2⟩ := W.asSlice_elim h1
  obtain ⟨got14, hq14, h3⟩ := W.asSlice_elim h2
  obtain ⟨round15, hq15, h4⟩ := W.asInt_elim h3
  obtain ⟨k16, hq16, h5⟩ := W.asInt_elim h4
  intro a ha
  exact h5 a (ha.cons hq9 (ha.cons hq10 (ha.cons hq14 (ha.cons hq15 (ha.cons hq16 ha.nil)))))
noncomputable def C60 : Code := W.Code.snd C58
noncomputable def C61 : Code := W.Code.fst C60
noncomputable def C62 : Code := W.Code.fst C61
noncomputable def C63 : Code := W.Code.snd C62
noncomputable def C64 : Code := W.Code.snd C63
noncomputable def C65 : Code := W.Code.fst C64
noncomputable def C66 : Code := W.Code.fst C65
noncomputable def C67 : Code := W.Code.snd C60
abbrev Q21 (R : W.Post) : Exit → Act → World → Prop := (Exit.then (Code.wp Try.prog C67 (Exit.then (W.LoopWP Try.prog C58 (Q20 R)) (Q20 R))) (Exit.then (W.LoopWP Try.prog C58 (Q20 R)) (Q20 R)))
abbrev Q22 (R : W.Post) : Exit → Act → World → Prop := (Exit.inBlock 9 (Q21 R))
abbrev Q23 (R : W.Post) : Exit → Act → World → Prop := (Exit.inBlock 10 (Q22 R))
/-- the head of the loop, law.go:204 -/
def L29 (e9 many10 got14 : W.Sl) (round15 k16 : Int) (p17 : W.Sl) (i18 : Int) (w : World) (R : W.Post) : Prop := W.LP Try.prog 167 C66 (Q23 R) [(9, e9.v), (10, many10.v), (14, got14.v), (15, .int .i64 round15), (16, .int .i64 k16), (17, p17.v), (18, .int .i64 i18)] w
def KE_L29 (E : W.Env) (w : World) (R : W.Post) : Prop := W.asSlice (W.Env.get? E 9) fun e9 => W.asSlice (W.Env.get? E 10) fun many10 => W.asSlice (W.Env.get? E 14) fun got14 => W.asInt .i64 (W.Env.get? E 15) fun round15 => W.asInt .i64 (W.Env.get? E 16) fun k16 => W.asSlice (W.Env.get? E 17) fun p17 => W.asInt .i64 (W.Env.get? E 18) fun i18 => L29 e9 many10 got14 round15 k16 p17 i18 w R
theorem KE_L29_ok (R : W.Post) (E : W.Env) (w : World) (h : KE_L29 E w R) : W.LP Try.prog 167 C66 (Q23 R) E w := by
  obtain ⟨e9, hq9, h1⟩ := W.asSlice_elim h
  obtain ⟨many10, hq10, h2⟩ := W.asSlice_elim h1
  obtain ⟨got14, hq14, h3⟩ := W.asSlice_elim h2
  obtain ⟨round15, hq15, h4⟩ := W.asInt_elim h3
  obtain ⟨k16, hq16, h5⟩ := W.asInt_elim h4
  obtain ⟨p17, hq17, h6⟩ := W.asSlice_elim h5
  obtain ⟨i18, hq18, h7⟩ := W.asInt_elim h6
  intro a ha
  exact h7 a (ha.cons hq9 (ha.cons hq10 (ha.cons hq14 (ha.cons hq15 (ha.cons hq16 (ha.cons hq17 (ha.cons hq18 ha.nil)))))))
noncomputable def C68 : Code := W.Code.snd C66
noncomputable def C69 : Code := W.Code.fst C68
noncomputable def C70 : Code := W.Code.fst C69
noncomputable def C71 : Code := W.Code.snd C70
noncomputable def C72 : Code := W.Code.snd C71
noncomputable def C73 : Code := W.Code.fst C72
noncomputable def C74 : Code := W.Code.fst C73
noncomputable def C75 : Code := W.Code.snd C68
abbrev Q24 (R : W.Post) : Exit → Act → World → Prop := (Exit.then (Code.wp Try.prog C75 (Exit.then (W.LoopWP Try.prog C66 (Q23 R)) (Q23 R))) (Exit.then (W.LoopWP Try.prog C66 (Q23 R)) (Q23 R)))
abbrev Q25 (R : W.Post) : Exit → Act → World → Prop := (Exit.inBlock 11 (Q24 R))
abbrev Q26 (R : W.Post) : Exit → Act → World → Prop := (Exit.inBlock 12 (Q25 R))
/-- the head of the loop, law.go:206 -/
def L33 (e9 many10 got14 : W.Sl) (round15 k16 : Int) (p17 : W.Sl) (i18 : Int) (x19 : W.Sl) (j20 : Int) (w : World) (R : W.Post) : Prop := W.LP Try.prog 167 C74 (Q26 R) [(9, e9.v), (10, many10.v), (14, got14.v), (15, .int .i64 round15), (16, .int .i64 k16), (17, p17.v), (18, .int .i64 i18), (19, x19.v), (20, .int .i64 j20)] w
def KE_L33 (E : W.Env) (w : World) (R : W.Post) : Prop := W.asSlice (W.Env.get? E 9) fun e9 => W.asSlice (W.Env.get? E 10) fun many10 => W.asSlice (W.Env.get? E 14) fun got14 => W.asInt .i64 (W.Env.get? E 15) fun round15 => W.asInt .i64 (W.Env.get? E 16) fun k16 => W.asSlice (W.Env.get? E 17) fun p17 => W.asInt .i64 (W.Env.get? E 18) fun i18 => W.asSlice (W.Env.get? E 19) fun x19 => W.asInt .i64 (W.Env.get? E 20) fun j20 => L33 e9 many10 got14 round15 k16 p17 i18 x19 j20 w R
theorem KE_L33_ok (R : W.Post) (E : W.Env) (w : World) (h : KE_L33 E w R) : W.LP Try.prog 167 C74 (Q26 R) E w := by
  obtain ⟨e9, hq9, h1⟩ := W.asSlice_elim h
  obtain ⟨many10, hq10, h2⟩ := W.asSlice_elim h1
  obtain ⟨got14, hq14, h3⟩ := W.asSlice_elim h2
  obtain ⟨round15, hq15, h4⟩ := W.asInt_elim h3
  obtain ⟨k16, hq16, h5⟩ := W.asInt_elim h4
  obtain ⟨p17, hq17, h6⟩ := W.asSlice_elim h5
  obtain ⟨i18, hq18, h7⟩ := W.asInt_elim h6
  obtain ⟨x19, hq19, h8⟩ := W.asSlice_elim h7
  obtain ⟨j20, hq20, h9⟩ := W.asInt_elim h8
  intro a ha
  exact h9 a (ha.cons hq9 (ha.cons hq10 (ha.cons hq14 (ha.cons hq15 (ha.cons hq16 (ha.cons hq17 (ha.cons hq18 (ha.cons hq19 (ha.cons hq20 ha.nil)))))))))
noncomputable def C76 : Code := W.Code.snd C74
noncomputable def C77 : Code := W.Code.fst C76
noncomputable def C78 : Code := W.Code.fst C77
noncomputable def C79 : Code := W.Code.fst C78
noncomputable def C80 : Code := W.Code.snd C79
noncomputable def C81 : Code := W.Code.fst C80
noncomputable def C82 : Code := W.Code.snd C76
abbrev Q27 (R : W.Post) : Exit → Act → World → Prop := (Exit.then (Code.wp Try.prog C82 (Exit.then (W.LoopWP Try.prog C74 (Q26 R)) (Q26 R))) (Exit.then (W.LoopWP Try.prog C74 (Q26 R)) (Q26 R)))
noncomputable def C83 : Code := W.Code.snd C78
abbrev Q28 (R : W.Post) : Exit → Act → World → Prop := (Exit.then (Code.wp Try.prog C83 (Exit.inBlock 13 (Q27 R))) (Exit.inBlock 13 (Q27 R)))
noncomputable def C84 : Code := W.Code.fst C81
noncomputable def C85 : Code := W.Code.snd C81
/-- law.go:208 -/
def S36  (w : World) (R : W.Post) : Prop :=
  R (.returned (.bool false)) w
def KE_S36 (E : W.Env) (w : World) (R : W.Post) : Prop := S36  w R
theorem KE_S36_ok (R : W.Post) (E : W.Env) (w : World) (h : KE_S36 E w R) : W.WP Try.prog 167 C81 (Q28 R) E w := by
  exact fun a ha => W.WP.at (E := []) (W.WP.seq (c := C81) (x := C84) (y := C85) (by kernel_rfl) <| W.WP.reg (c := C84) (fun E w => W.retVC Try.prog Try.f5 E w (fun v => R (.returned v) w)) (by kernel_rfl) (Eq.mp (by kernel_rfl) h) fun _ _ a hA hK => (W.WP.ret (c := C85) (by kernel_rfl) fun a hA => W.retVC_sound hA hK) a hA) ha.nil
abbrev Q29 (R : W.Post) : Exit → Act → World → Prop := (Exit.then (W.LoopWP Try.prog C74 (Q26 R)) (Q26 R))
/-- law.go:206 -/
def S38 (e9 many10 got14 : W.Sl) (round15 k16 : Int) (p17 : W.Sl) (i18 : Int) (x19 : W.Sl) (j20 : Int) (w : World) (R : W.Post) : Prop :=
  L33 e9 many10 got14 round15 k16 p17 i18 x19 (IntKind.wrap .i64 (j20 + 1)) w R
def KE_S38 (E : W.Env) (w : World) (R : W.Post) : Prop := W.asSlice (W.Env.get? E 9) fun e9 => W.asSlice (W.Env.get? E 10) fun many10 => W.asSlice (W.Env.get? E 14) fun got14 => W.asInt .i64 (W.Env.get? E 15) fun round15 => W.asInt .i64 (W.Env.get? E 16) fun k16 => W.asSlice (W.Env.get? E 17) fun p17 => W.asInt .i64 (W.Env.get? E 18) fun i18 => W.asSlice (W.Env.get? E 19) fun x19 => W.asInt .i64 (W.Env.get? E 20) fun j20 => S38 e9 many10 got14 round15 k16 p17 i18 x19 j20 w R
theorem KE_S38_ok (R : W.Post) (E : W.Env) (w : World) (h : KE_S38 E w R) : W.WP Try.prog 167 C82 (Q29 R) E w := by
  obtain ⟨e9, hq9, h1⟩ := W.asSlice_elim h
  obtain ⟨many10, hq10, h2⟩ := W.asSlice_elim h1
  obtain ⟨got14, hq14, h3⟩ := W.asSlice_elim h2
  obtain ⟨round15, hq15, h4⟩ := W.asInt_elim h3
  obtain ⟨k16, hq16, h5⟩ := W.asInt_elim h4
  obtain ⟨p17, hq17, h6⟩ := W.asSlice_elim h5
  obtain ⟨i18, hq18, h7⟩ := W.asInt_elim h6
  obtain ⟨x19, hq19, h8⟩ := W.asSlice_elim h7
  obtain ⟨j20, hq20, h9⟩ := W.asInt_elim h8
  exact fun a ha => W.WP.at (E := [(9, e9.v), (10, many10.v), (14, got14.v), (15, .int .i64 round15), (16, .int .i64 k16), (17, p17.v), (18, .int .i64 i18), (19, x19.v), (20, .int .i64 j20)]) (W.WP.reg (c := C82) (fun E w => KE_L33 E w R) (by kernel_rfl) (Eq.mp (by kernel_rfl) h9) fun _ _ a hA hK => KE_L33_ok R _ _ hK a hA) (ha.cons hq9 (ha.cons hq10 (ha.cons hq14 (ha.cons hq15 (ha.cons hq16 (ha.cons hq17 (ha.cons hq18 (ha.cons hq19 (ha.cons hq20 ha.nil)))))))))
abbrev Q30 (R : W.Post) : Exit → Act → World → Prop := (Exit.inBlock 13 (Q27 R))
/-- law.go:210 -/
def S37 (e9 many10 got14 : W.Sl) (round15 k16 : Int) (p17 : W.Sl) (i18 : Int) (x19 : W.Sl) (j20 : Int) (w : World) (R : W.Post) : Prop :=
  (0 : Int) ≤ (IntKind.wrap .i64 (1 - k16)) ∧ (IntKind.wrap .i64 (1 - k16)) < ((got14.n : Nat) : Int) ∧ W.optP got14.a fun t130_p => ∃ t131 : Int, w.cell? (t130_p.add (Int.toNat (IntKind.wrap .i64 (1 - k16)) * 1)) = some (.int .i64 t131) ∧ 
  (0 : Int) ≤ (IntKind.wrap .i64 (1 - k16)) ∧ (IntKind.wrap .i64 (1 - k16)) < ((got14.n : Nat) : Int) ∧ W.optP got14.a fun t133_p => (w.cell? (t133_p.add (Int.toNat (IntKind.wrap .i64 (1 - k16)) * 1))).isSome = true ∧ w.frozen? (t133_p.add (Int.toNat (IntKind.wrap .i64 (1 - k16)) * 1)) = false ∧ let w1 := w.setCell (t133_p.add (Int.toNat (IntKind.wrap .i64 (1 - k16)) * 1)) (.int .i64 (IntKind.wrap .i64 (t131 + 1)))
  S38 e9 many10 got14 round15 k16 p17 i18 x19 j20 w1 R
def KE_S37 (E : W.Env) (w : World) (R : W.Post) : Prop := W.asSlice (W.Env.get? E 9) fun e9 => W.asSlice (W.Env.get? E 10) fun many10 => W.asSlice (W.Env.get? E 14) fun got14 => W.asInt .i64 (W.Env.get? E 15) fun round15 => W.asInt .i64 (W.Env.get? E 16) fun k16 => W.asSlice (W.Env.get? E 17) fun p17 => W.asInt .i64 (W.Env.get? E 18) fun i18 => W.asSlice (W.Env.get? E 19) fun x19 => W.asInt .i64 (W.Env.get? E 20) fun j20 => S37 e9 many10 got14 round15 k16 p17 i18 x19 j20 w R
theorem KE_S37_ok (R : W.Post) (E : W.Env) (w : World) (h : KE_S37 E w R) : W.WP Try.prog 167 C83 (Q30 R) E w := by
  obtain ⟨e9, hq9, h1⟩ := W.asSlice_elim h
  obtain ⟨many10, hq10, h2⟩ := W.asSlice_elim h1
  obtain ⟨got14, hq14, h3⟩ := W.asSlice_elim h2
  obtain ⟨round15, hq15, h4⟩ := W.asInt_elim h3
  obtain ⟨k16, hq16, h5⟩ := W.asInt_elim h4
  obtain ⟨p17, hq17, h6⟩ := W.asSlice_elim h5
  obtain ⟨i18, hq18, h7⟩ := W.asInt_elim h6
  obtain ⟨x19, hq19, h8⟩ := W.asSlice_elim h7
  obtain ⟨j20, hq20, h9⟩ := W.asInt_elim h8
  exact fun a ha => W.WP.at (E := [(9, e9.v), (10, many10.v), (14, got14.v), (15, .int .i64 round15), (16, .int .i64 k16), (17, p17.v), (18, .int .i64 i18), (19, x19.v), (20, .int .i64 j20)]) (W.WP.reg (c := C83) (fun E w => KE_S38 E w R) (by kernel_rfl) (Eq.mp (by kernel_rfl) h9) fun _ _ a hA hK => (KE_S38_ok R _ _ hK) a hA) (ha.cons hq9 (ha.cons hq10 (ha.cons hq14 (ha.cons hq15 (ha.cons hq16 (ha.cons hq17 (ha.cons hq18 (ha.cons hq19 (ha.cons hq20 ha.nil)))))))))
noncomputable def C86 : Code := W.Code.fst C79
noncomputable def C87 : Code := W.Code.snd C80
/-- law.go:207 -/
def S35 (e9 many10 got14 : W.Sl) (round15 k16 : Int) (p17 : W.Sl) (i18 : Int) (x19 : W.Sl) (j20 : Int) (w : World) (R : W.Post) : Prop :=
  (0 : Int) ≤ j20 ∧ j20 < ((x19.n : Nat) : Int) ∧ W.optP x19.a fun t108_p => ∃ t109 : W.Sl, w.drew.cell? (t108_p.add (Int.toNat j20 * 1)) = some (t109.v) ∧ 
  W.sel (((t109.n : Nat) : Int) != 1) (S36  w.drew R) ((0 : Int) ≤ j20 ∧ j20 < ((x19.n : Nat) : Int) ∧ W.optP x19.a fun t115_p => ∃ t116 : W.Sl, w.drew.cell? (t115_p.add (Int.toNat j20 * 1)) = some (t116.v) ∧ 
  (0 : Int) ≤ 0 ∧ 0 < ((t116.n : Nat) : Int) ∧ W.optP t116.a fun t117_p => ∃ t118 : Int, w.drew.cell? (t117_p.add (Int.toNat 0 * 1)) = some (.int .u8 t118) ∧ 
  (0 : Int) ≤ (IntKind.wrap .i64 (1 - k16)) ∧ (IntKind.wrap .i64 (1 - k16)) < ((got14.n : Nat) : Int) ∧ W.optP got14.a fun t123_p => ∃ t124 : Int, w.drew.cell? (t123_p.add (Int.toNat (IntKind.wrap .i64 (1 - k16)) * 1)) = some (.int .i64 t124) ∧ 
  W.sel ((IntKind.wrap .i64 t118) != t124) (S36  w.drew R) (S37 e9 many10 got14 round15 k16 p17 i18 x19 j20 w.drew R))
def KE_S35 (E : W.Env) (w : World) (R : W.Post) : Prop := W.asSlice (W.Env.get? E 9) fun e9 => W.asSlice (W.Env.get? E 10) fun many10 => W.asSlice (W.Env.get? E 14) fun got14 => W.asInt .i64 (W.Env.get? E 15) fun round15 => W.asInt .i64 (W.Env.get? E 16) fun k16 => W.asSlice (W.Env.get? E 17) fun p17 => W.asInt .i64 (W.Env.get? E 18) fun i18 => W.asSlice (W.Env.get? E 19) fun x19 => W.asInt .i64 (W.Env.get? E 20) fun j20 => S35 e9 many10 got14 round15 k16 p17 i18 x19 j20 w R
theorem KE_S35_ok (R : W.Post) (E : W.Env) (w : World) (h : KE_S35 E w R) : W.WP Try.prog 167 C79 (Q28 R) E w := by
  obtain ⟨e9, hq9, h1⟩ := W.asSlice_elim h
  obtain ⟨many10, hq10, h2⟩ := W.asSlice_elim h1
  obtain ⟨got14, hq14, h3⟩ := W.asSlice_elim h2
  obtain ⟨round15, hq15, h4⟩ := W.asInt_elim h3
  obtain ⟨k16, hq16, h5⟩ := W.asInt_elim h4
  obtain ⟨p17, hq17, h6⟩ := W.asSlice_elim h5
  obtain ⟨i18, hq18, h7⟩ := W.asInt_elim h6
  obtain ⟨x19, hq19, h8⟩ := W.asSlice_elim h7
  obtain ⟨j20, hq20, h9⟩ := W.asInt_elim h8
  exact fun a ha => W.WP.at (E := [(9, e9.v), (10, many10.v), (14, got14.v), (15, .int .i64 round15), (16, .int .i64 k16), (17, p17.v), (18, .int .i64 i18), (19, x19.v), (20, .int .i64 j20)]) (W.WP.seq (c := C79) (x := C86) (y := C80) (by kernel_rfl) <| W.WP.draw (c := C86) [0, 1, 2, 3, 4, 5, 6, 7, 8, 9, 10, 11, 12, 13, 14, 15, 16, 17, 18, 19, 20] (fun E w => W.condK (W.Env.val E (.tmp 126)) (KE_S36 E w R) (KE_S37 E w R)) (by kernel_rfl) (Eq.mp (by kernel_rfl) h9) fun _ _ a hA hK => (W.WP.condK (c := C80) (x := C81) (y := C87) (o := .tmp 126) (by kernel_rfl) (fun hK => (KE_S36_ok R _ _ hK)) (fun hK => (W.WP.skip (c := C87) (by kernel_rfl) fun a hA => (KE_S37_ok R _ _ hK) a hA)) hK) a hA) (ha.cons hq9 (ha.cons hq10 (ha.cons hq14 (ha.cons hq15 (ha.cons hq16 (ha.cons hq17 (ha.cons hq18 (ha.cons hq19 (ha.cons hq20 ha.nil)))))))))
abbrev Q31 (R : W.Post) : Exit → Act → World → Prop := (Exit.then (W.LoopWP Try.prog C66 (Q23 R)) (Q23 R))
/-- law.go:204 -/
def S39 (e9 many10 got14 : W.Sl) (round15 k16 : Int) (p17 : W.Sl) (i18 : Int) (w : World) (R : W.Post) : Prop :=
  L29 e9 many10 got14 round15 k16 p17 (IntKind.wrap .i64 (i18 + 1)) w R
def KE_S39 (E : W.Env) (w : World) (R : W.Post) : Prop := W.asSlice (W.Env.get? E 9) fun e9 => W.asSlice (W.Env.get? E 10) fun many10 => W.asSlice (W.Env.get? E 14) fun got14 => W.asInt .i64 (W.Env.get? E 15) fun round15 => W.asInt .i64 (W.Env.get? E 16) fun k16 => W.asSlice (W.Env.get? E 17) fun p17 => W.asInt .i64 (W.Env.get? E 18) fun i18 => S39 e9 many10 got14 round15 k16 p17 i18 w R
theorem KE_S39_ok (R : W.Post) (E : W.Env) (w : World) (h : KE_S39 E w R) : W.WP Try.prog 167 C75 (Q31 R) E w := by
  obtain ⟨e9, hq9, h1⟩ := W.asSlice_elim h
  obtain ⟨many10, hq10, h2⟩ := W.asSlice_elim h1
  obtain ⟨got14, hq14, h3⟩ := W.asSlice_elim h2
  obtain ⟨round15, hq15, h4⟩ := W.asInt_elim h3
  obtain ⟨k16, hq16, h5⟩ := W.asInt_elim h4
  obtain ⟨p17, hq17, h6⟩ := W.asSlice_elim h5
  obtain ⟨i18, hq18, h7⟩ := W.asInt_elim h6
  exact fun a ha => W.WP.at (E := [(9, e9.v), (10, many10.v), (14, got14.v), (15, .int .i64 round15), (16, .int .i64 k16), (17, p17.v), (18, .int .i64 i18)]) (W.WP.reg (c := C75) (fun E w => KE_L29 E w R) (by kernel_rfl) (Eq.mp (by kernel_rfl) h7) fun _ _ a hA hK => KE_L29_ok R _ _ hK a hA) (ha.cons hq9 (ha.cons hq10 (ha.cons hq14 (ha.cons hq15 (ha.cons hq16 (ha.cons hq17 (ha.cons hq18 ha.nil)))))))
noncomputable def C88 : Code := W.Code.fst C74
abbrev Q32 (R : W.Post) : Exit → Act → World → Prop := (Exit.then (Code.wp Try.prog C76 (Exit.then (W.LoopWP Try.prog C74 (Q26 R)) (Q26 R))) (Exit.then (W.LoopWP Try.prog C74 (Q26 R)) (Q26 R)))
noncomputable def C89 : Code := W.Code.fst C88
noncomputable def C90 : Code := W.Code.snd C88
noncomputable def C91 : Code := W.Code.fst C90
noncomputable def C92 : Code := W.Code.snd C90
/-- law.go:206 -/
def S34 (e9 many10 got14 : W.Sl) (round15 k16 : Int) (p17 : W.Sl) (i18 : Int) (x19 : W.Sl) (j20 : Int) (w : World) (R : W.Post) : Prop :=
  W.sel (decide (j20 < ((x19.n : Nat) : Int))) (S35 e9 many10 got14 round15 k16 p17 i18 x19 j20 w R) (S39 e9 many10 got14 round15 k16 p17 i18 w R)
def KE_S34 (E : W.Env) (w : World) (R : W.Post) : Prop := W.asSlice (W.Env.get? E 9) fun e9 => W.asSlice (W.Env.get? E 10) fun many10 => W.asSlice (W.Env.get? E 14) fun got14 => W.asInt .i64 (W.Env.get? E 15) fun round15 => W.asInt .i64 (W.Env.get? E 16) fun k16 => W.asSlice (W.Env.get? E 17) fun p17 => W.asInt .i64 (W.Env.get? E 18) fun i18 => W.asSlice (W.Env.get? E 19) fun x19 => W.asInt .i64 (W.Env.get? E 20) fun j20 => S34 e9 many10 got14 round15 k16 p17 i18 x19 j20 w R
theorem KE_S34_ok (R : W.Post) (E : W.Env) (w : World) (h : KE_S34 E w R) : W.WP Try.prog 167 C88 (Q32 R) E w := by
  obtain ⟨e9, hq9, h1⟩ := W.asSlice_elim h
  obtain ⟨many10, hq10, h2⟩ := W.asSlice_elim h1
  obtain ⟨got14, hq14, h3⟩ := W.asSlice_elim h2
  obtain ⟨round15, hq15, h4⟩ := W.asInt_elim h3
  obtain ⟨k16, hq16, h5⟩ := W.asInt_elim h4
  obtain ⟨p17, hq17, h6⟩ := W.asSlice_elim h5
  obtain ⟨i18, hq18, h7⟩ := W.asInt_elim h6
  obtain ⟨x19, hq19, h8⟩ := W.asSlice_elim h7
  obtain ⟨j20, hq20, h9⟩ := W.asInt_elim h8
  exact fun a ha => W.WP.at (E := [(9, e9.v), (10, many10.v), (14, got14.v), (15, .int .i64 round15), (16, .int .i64 k16), (17, p17.v), (18, .int .i64 i18), (19, x19.v), (20, .int .i64 j20)]) (W.WP.seq (c := C88) (x := C89) (y := C90) (by kernel_rfl) <| W.WP.reg (c := C89) (fun E w => W.condK (W.Env.val E (.tmp 103)) (KE_S35 E w R) (KE_S39 E w R)) (by kernel_rfl) (Eq.mp (by kernel_rfl) h9) fun _ _ a hA hK => (W.WP.condK (c := C90) (x := C91) (y := C92) (o := .tmp 103) (by kernel_rfl) (fun hK => (W.WP.skip (c := C91) (by kernel_rfl) fun a hA => (W.WP.seq (c := C76) (x := C77) (y := C82) (by kernel_rfl) (W.WP.block (c := C77) (x := C78) (id := 13) (by kernel_rfl) (W.WP.seq (c := C78) (x := C79) (y := C83) (by kernel_rfl) (KE_S35_ok R _ _ hK)))) a hA)) (fun hK => (W.WP.exit (c := C92) (id := 12) (by kernel_rfl) fun a hA => (KE_S39_ok R _ _ hK) a hA)) hK) a hA) (ha.cons hq9 (ha.cons hq10 (ha.cons hq14 (ha.cons hq15 (ha.cons hq16 (ha.cons hq17 (ha.cons hq18 (ha.cons hq19 (ha.cons hq20 ha.nil)))))))))
theorem L33_step (e9 many10 got14 : W.Sl) (round15 k16 : Int) (p17 : W.Sl) (i18 : Int) (x19 : W.Sl) (j20 : Int) (w : World) (R : W.Post) (h : S34 e9 many10 got14 round15 k16 p17 i18 x19 j20 w R) : L33 e9 many10 got14 round15 k16 p17 i18 x19 j20 w R :=
  W.LP.step (c := C74) (E := [(9, e9.v), (10, many10.v), (14, got14.v), (15, .int .i64 round15), (16, .int .i64 k16), (17, p17.v), (18, .int .i64 i18), (19, x19.v), (20, .int .i64 j20)]) (w := w) (W.WP.seq (c := C74) (x := C88) (y := C76) (by kernel_rfl) (KE_S34_ok R _ _ (Eq.mp (by kernel_rfl) h)))
noncomputable def C93 : Code := W.Code.fst C71
/-- law.go:206 -/
def S32 (e9 many10 got14 : W.Sl) (round15 k16 : Int) (p17 : W.Sl) (i18 : Int) (x19 : W.Sl) (w : World) (R : W.Post) : Prop :=
  L33 e9 many10 got14 round15 k16 p17 i18 x19 0 w R
def KE_S32 (E : W.Env) (w : World) (R : W.Post) : Prop := W.asSlice (W.Env.get? E 9) fun e9 => W.asSlice (W.Env.get? E 10) fun many10 => W.asSlice (W.Env.get? E 14) fun got14 => W.asInt .i64 (W.Env.get? E 15) fun round15 => W.asInt .i64 (W.Env.get? E 16) fun k16 => W.asSlice (W.Env.get? E 17) fun p17 => W.asInt .i64 (W.Env.get? E 18) fun i18 => W.asSlice (W.Env.get? E 19) fun x19 => S32 e9 many10 got14 round15 k16 p17 i18 x19 w R
theorem KE_S32_ok (R : W.Post) (E : W.Env) (w : World) (h : KE_S32 E w R) : W.WP Try.prog 167 C71 (Q25 R) E w := by
  obtain ⟨e9, hq9, h1⟩ := W.asSlice_elim h
  obtain ⟨many10, hq10, h2⟩ := W.asSlice_elim h1
  obtain ⟨got14, hq14, h3⟩ := W.asSlice_elim h2
  obtain ⟨round15, hq15, h4⟩ := W.asInt_elim h3
  obtain ⟨k16, hq16, h5⟩ := W.asInt_elim h4
  obtain ⟨p17, hq17, h6⟩ := W.asSlice_elim h5
  obtain ⟨i18, hq18, h7⟩ := W.asInt_elim h6
  obtain ⟨x19, hq19, h8⟩ := W.asSlice_elim h7
  exact fun a ha => W.WP.at (E := [(9, e9.v), (10, many10.v), (14, got14.v), (15, .int .i64 round15), (16, .int .i64 k16), (17, p17.v), (18, .int .i64 i18), (19, x19.v)]) (W.WP.seq (c := C71) (x := C93) (y := C72) (by kernel_rfl) <| W.WP.reg (c := C93) (fun E w => KE_L33 E w R) (by kernel_rfl) (Eq.mp (by kernel_rfl) h8) fun _ _ a hA hK => (W.WP.block (c := C72) (x := C73) (id := 12) (by kernel_rfl) (W.WP.loop (c := C73) (x := C74) (by kernel_rfl) (KE_L33_ok R _ _ hK))) a hA) (ha.cons hq9 (ha.cons hq10 (ha.cons hq14 (ha.cons hq15 (ha.cons hq16 (ha.cons hq17 (ha.cons hq18 (ha.cons hq19 ha.nil))))))))
noncomputable def C94 : Code := W.Code.fst C70
/-- law.go:205 -/
def S31 (e9 many10 got14 : W.Sl) (round15 k16 : Int) (p17 : W.Sl) (i18 : Int) (w : World) (R : W.Post) : Prop :=
  (0 : Int) ≤ (IntKind.wrap .i64 (1 - k16)) ∧ (IntKind.wrap .i64 (1 - k16)) < ((e9.n : Nat) : Int) ∧ W.optP e9.a fun t93_p => ∃ t94 : Option Addr, w.drew.cell? (t93_p.add (Int.toNat (IntKind.wrap .i64 (1 - k16)) * 1)) = some (.pointer t94) ∧ 
  (0 : Int) ≤ i18 ∧ i18 < ((p17.n : Nat) : Int) ∧ W.optP p17.a fun t97_p => ∃ t98_0 : Int, ∃ t98_1 : Int, ∃ t98_2 : W.Sl, w.drew.cell? ((t97_p.add (Int.toNat i18 * 3)).add 0) = some (.int .i64 t98_0) ∧ w.drew.cell? ((t97_p.add (Int.toNat i18 * 3)).add 1) = some (.int .i64 t98_1) ∧ w.drew.cell? ((t97_p.add (Int.toNat i18 * 3)).add 2) = some (t98_2.v) ∧ 
  Calls Try.prog n_channel_End_In #[.pointer t94, .agg #[.int .i64 t98_0, .int .i64 t98_1, t98_2.v]] w.drew fun r_ w1 => ∃ t99 : W.Sl, r_ = .returned (t99.v) ∧ 
  S32 e9 many10 got14 round15 k16 p17 i18 t99 w1 R
def KE_S31 (E : W.Env) (w : World) (R : W.Post) : Prop := W.asSlice (W.Env.get? E 9) fun e9 => W.asSlice (W.Env.get? E 10) fun many10 => W.asSlice (W.Env.get? E 14) fun got14 => W.asInt .i64 (W.Env.get? E 15) fun round15 => W.asInt .i64 (W.Env.get? E 16) fun k16 => W.asSlice (W.Env.get? E 17) fun p17 => W.asInt .i64 (W.Env.get? E 18) fun i18 => S31 e9 many10 got14 round15 k16 p17 i18 w R
theorem KE_S31_ok (R : W.Post) (E : W.Env) (w : World) (h : KE_S31 E w R) : W.WP Try.prog 167 C70 (Q25 R) E w := by
  obtain ⟨e9, hq9, h1⟩ := W.asSlice_elim h
  obtain ⟨many10, hq10, h2⟩ := W.asSlice_elim h1
  obtain ⟨got14, hq14, h3⟩ := W.asSlice_elim h2
  obtain ⟨round15, hq15, h4⟩ := W.asInt_elim h3
  obtain ⟨k16, hq16, h5⟩ := W.asInt_elim h4
  obtain ⟨p17, hq17, h6⟩ := W.asSlice_elim h5
  obtain ⟨i18, hq18, h7⟩ := W.asInt_elim h6
  exact fun a ha => W.WP.at (E := [(9, e9.v), (10, many10.v), (14, got14.v), (15, .int .i64 round15), (16, .int .i64 k16), (17, p17.v), (18, .int .i64 i18)]) (W.WP.seq (c := C70) (x := C94) (y := C71) (by kernel_rfl) <| W.WP.draw (c := C94) [0, 1, 2, 3, 4, 5, 6, 7, 8, 9, 10] (fun E w => KE_S32 E w R) (by kernel_rfl) (Eq.mp (by kernel_rfl) h7) fun _ _ a hA hK => (KE_S32_ok R _ _ hK) a hA) (ha.cons hq9 (ha.cons hq10 (ha.cons hq14 (ha.cons hq15 (ha.cons hq16 (ha.cons hq17 (ha.cons hq18 ha.nil)))))))
abbrev Q33 (R : W.Post) : Exit → Act → World → Prop := (Exit.then (W.LoopWP Try.prog C58 (Q20 R)) (Q20 R))
/-- law.go:202 -/
def S40 (e9 many10 got14 : W.Sl) (round15 k16 : Int) (w : World) (R : W.Post) : Prop :=
  L25 e9 many10 got14 round15 (IntKind.wrap .i64 (k16 + 1)) w R
def KE_S40 (E : W.Env) (w : World) (R : W.Post) : Prop := W.asSlice (W.Env.get? E 9) fun e9 => W.asSlice (W.Env.get? E 10) fun many10 => W.asSlice (W.Env.get? E 14) fun got14 => W.asInt .i64 (W.Env.get? E 15) fun round15 => W.asInt .i64 (W.Env.get? E 16) fun k16 => S40 e9 many10 got14 round15 k16 w R
theorem KE_S40_ok (R : W.Post) (E : W.Env) (w : World) (h : KE_S40 E w R) : W.WP Try.prog 167 C67 (Q33 R) E w := by
  obtain ⟨e9, hq9, h1⟩ := W.asSlice_elim h
  obtain ⟨many10, hq10, h2⟩ := W.asSlice_elim h1
  obtain ⟨got14, hq14, h3⟩ := W.asSlice_elim h2
  obtain ⟨round15, hq15, h4⟩ := W.asInt_elim h3
  obtain ⟨k16, hq16, h5⟩ := W.asInt_elim h4
  exact fun a ha => W.WP.at (E := [(9, e9.v), (10, many10.v), (14, got14.v), (15, .int .i64 round15), (16, .int .i64 k16)]) (W.WP.reg (c := C67) (fun E w => KE_L25 E w R) (by kernel_rfl) (Eq.mp (by kernel_rfl) h5) fun _ _ a hA hK => KE_L25_ok R _ _ hK a hA) (ha.cons hq9 (ha.cons hq10 (ha.cons hq14 (ha.cons hq15 (ha.cons hq16 ha.nil)))))
noncomputable def C95 : Code := W.Code.fst C66
abbrev Q34 (R : W.Post) : Exit → Act → World → Prop := (Exit.then (Code.wp Try.prog C68 (Exit.then (W.LoopWP Try.prog C66 (Q23 R)) (Q23 R))) (Exit.then (W.LoopWP Try.prog C66 (Q23 R)) (Q23 R)))
noncomputable def C96 : Code := W.Code.fst C95
noncomputable def C97 : Code := W.Code.snd C95
noncomputable def C98 : Code := W.Code.fst C97
noncomputable def C99 : Code := W.Code.snd C97
/-- law.go:204 -/
def S30 (e9 many10 got14 : W.Sl) (round15 k16 : Int) (p17 : W.Sl) (i18 : Int) (w : World) (R : W.Post) : Prop :=
  W.sel (decide (i18 < ((p17.n : Nat) : Int))) (S31 e9 many10 got14 round15 k16 p17 i18 w R) (S40 e9 many10 got14 round15 k16 w R)
def KE_S30 (E : W.Env) (w : World) (R : W.Post) : Prop := W.asSlice (W.Env.get? E 9) fun e9 => W.asSlice (W.Env.get? E 10) fun many10 => W.asSlice (W.Env.get? E 14) fun got14 => W.asInt .i64 (W.Env.get? E 15) fun round15 => W.asInt .i64 (W.Env.get? E 16) fun k16 => W.asSlice (W.Env.get? E 17) fun p17 => W.asInt .i64 (W.Env.get? E 18) fun i18 => S30 e9 many10 got14 round15 k16 p17 i18 w R
theorem KE_S30_ok (R : W.Post) (E : W.Env) (w : World) (h : KE_S30 E w R) : W.WP Try.prog 167 C95 (Q34 R) E w := by
  obtain ⟨e9, hq9, h1⟩ := W.asSlice_elim h
  obtain ⟨many10, hq10, h2⟩ := W.asSlice_elim h1
  obtain ⟨got14, hq14, h3⟩ := W.asSlice_elim h2
  obtain ⟨round15, hq15, h4⟩ := W.asInt_elim h3
  obtain ⟨k16, hq16, h5⟩ := W.asInt_elim h4
  obtain ⟨p17, hq17, h6⟩ := W.asSlice_elim h5
  obtain ⟨i18, hq18, h7⟩ := W.asInt_elim h6
  exact fun a ha => W.WP.at (E := [(9, e9.v), (10, many10.v), (14, got14.v), (15, .int .i64 round15), (16, .int .i64 k16), (17, p17.v), (18, .int .i64 i18)]) (W.WP.seq (c := C95) (x := C96) (y := C97) (by kernel_rfl) <| W.WP.reg (c := C96) (fun E w => W.condK (W.Env.val E (.tmp 87)) (KE_S31 E w R) (KE_S40 E w R)) (by kernel_rfl) (Eq.mp (by kernel_rfl) h7) fun _ _ a hA hK => (W.WP.condK (c := C97) (x := C98) (y := C99) (o := .tmp 87) (by kernel_rfl) (fun hK => (W.WP.skip (c := C98) (by kernel_rfl) fun a hA => (W.WP.seq (c := C68) (x := C69) (y := C75) (by kernel_rfl) (W.WP.block (c := C69) (x := C70) (id := 11) (by kernel_rfl) (KE_S31_ok R _ _ hK))) a hA)) (fun hK => (W.WP.exit (c := C99) (id := 10) (by kernel_rfl) fun a hA => (KE_S40_ok R _ _ hK) a hA)) hK) a hA) (ha.cons hq9 (ha.cons hq10 (ha.cons hq14 (ha.cons hq15 (ha.cons hq16 (ha.cons hq17 (ha.cons hq18 ha.nil)))))))
theorem L29_step (e9 many10 got14 : W.Sl) (round15 k16 : Int) (p17 : W.Sl) (i18 : Int) (w : World) (R : W.Post) (h : S30 e9 many10 got14 round15 k16 p17 i18 w R) : L29 e9 many10 got14 round15 k16 p17 i18 w R :=
  W.LP.step (c := C66) (E := [(9, e9.v), (10, many10.v), (14, got14.v), (15, .int .i64 round15), (16, .int .i64 k16), (17, p17.v), (18, .int .i64 i18)]) (w := w) (W.WP.seq (c := C66) (x := C95) (y := C68) (by kernel_rfl) (KE_S30_ok R _ _ (Eq.mp (by kernel_rfl) h)))
noncomputable def C100 : Code := W.Code.fst C63
/-- law.go:204 -/
def S28 (e9 many10 got14 : W.Sl) (round15 k16 : Int) (p17 : W.Sl) (w : World) (R : W.Post) : Prop :=
  L29 e9 many10 got14 round15 k16 p17 0 w R
def KE_S28 (E : W.Env) (w : World) (R : W.Post) : Prop := W.asSlice (W.Env.get? E 9) fun e9 => W.asSlice (W.Env.get? E 10) fun many10 => W.asSlice (W.Env.get? E 14) fun got14 => W.asInt .i64 (W.Env.get? E 15) fun round15 => W.asInt .i64 (W.Env.get? E 16) fun k16 => W.asSlice (W.Env.get? E 17) fun p17 => S28 e9 many10 got14 round15 k16 p17 w R
theorem KE_S28_ok (R : W.Post) (E : W.Env) (w : World) (h : KE_S28 E w R) : W.WP Try.prog 167 C63 (Q22 R) E w := by
  obtain ⟨e9, hq9, h1⟩ := W.asSlice_elim h
  obtain ⟨many10, hq10, h2⟩ := W.asSlice_elim h1
  obtain ⟨got14, hq14, h3⟩ := W.asSlice_elim h2
  obtain ⟨round15, hq15, h4⟩ := W.asInt_elim h3
  obtain ⟨k16, hq16, h5⟩ := W.asInt_elim h4
  obtain ⟨p17, hq17, h6⟩ := W.asSlice_elim h5
  exact fun a ha => W.WP.at (E := [(9, e9.v), (10, many10.v), (14, got14.v), (15, .int .i64 round15), (16, .int .i64 k16), (17, p17.v)]) (W.WP.seq (c := C63) (x := C100) (y := C64) (by kernel_rfl) <| W.WP.reg (c := C100) (fun E w => KE_L29 E w R) (by kernel_rfl) (Eq.mp (by kernel_rfl) h6) fun _ _ a hA hK => (W.WP.block (c := C64) (x := C65) (id := 10) (by kernel_rfl) (W.WP.loop (c := C65) (x := C66) (by kernel_rfl) (KE_L29_ok R _ _ hK))) a hA) (ha.cons hq9 (ha.cons hq10 (ha.cons hq14 (ha.cons hq15 (ha.cons hq16 (ha.cons hq17 ha.nil))))))
noncomputable def C101 : Code := W.Code.fst C62
/-- law.go:203 -/
def S27 (e9 many10 got14 : W.Sl) (round15 k16 : Int) (w : World) (R : W.Post) : Prop :=
  (0 : Int) ≤ k16 ∧ k16 < ((e9.n : Nat) : Int) ∧ W.optP e9.a fun t81_p => ∃ t82 : Option Addr, w.cell? (t81_p.add (Int.toNat k16 * 1)) = some (.pointer t82) ∧ 
  Calls Try.prog n_channel_End_Out #[.pointer t82] w fun r_ w1 => ∃ t83 : W.Sl, r_ = .returned (t83.v) ∧ 
  S28 e9 many10 got14 round15 k16 t83 w1 R
def KE_S27 (E : W.Env) (w : World) (R : W.Post) : Prop := W.asSlice (W.Env.get? E 9) fun e9 => W.asSlice (W.Env.get? E 10) fun many10 => W.asSlice (W.Env.get? E 14) fun got14 => W.asInt .i64 (W.Env.get? E 15) fun round15 => W.asInt .i64 (W.Env.get? E 16) fun k16 => S27 e9 many10 got14 round15 k16 w R
theorem KE_S27_ok (R : W.Post) (E : W.Env) (w : World) (h : KE_S27 E w R) : W.WP Try.prog 167 C62 (Q22 R) E w := by
  obtain ⟨e9, hq9, h1⟩ := W.asSlice_elim h
  obtain ⟨many10, hq10, h2⟩ := W.asSlice_elim h1
  obtain ⟨got14, hq14, h3⟩ := W.asSlice_elim h2
  obtain ⟨round15, hq15, h4⟩ := W.asInt_elim h3
  obtain ⟨k16, hq16, h5⟩ := W.asInt_elim h4
  exact fun a ha => W.WP.at (E := [(9, e9.v), (10, many10.v), (14, got14.v), (15, .int .i64 round15), (16, .int .i64 k16)]) (W.WP.seq (c := C62) (x := C101) (y := C63) (by kernel_rfl) <| W.WP.reg (c := C101) (fun E w => KE_S28 E w R) (by kernel_rfl) (Eq.mp (by kernel_rfl) h5) fun _ _ a hA hK => (KE_S28_ok R _ _ hK) a hA) (ha.cons hq9 (ha.cons hq10 (ha.cons hq14 (ha.cons hq15 (ha.cons hq16 ha.nil)))))
abbrev Q35 (R : W.Post) : Exit → Act → World → Prop := (Exit.then (W.LoopWP Try.prog C51 (Q17 R)) (Q17 R))
/-- law.go:201 -/
def S41 (e9 many10 got14 : W.Sl) (round15 : Int) (w : World) (R : W.Post) : Prop :=
  L22 e9 many10 got14 (IntKind.wrap .i64 (round15 + 1)) w R
def KE_S41 (E : W.Env) (w : World) (R : W.Post) : Prop := W.asSlice (W.Env.get? E 9) fun e9 => W.asSlice (W.Env.get? E 10) fun many10 => W.asSlice (W.Env.get? E 14) fun got14 => W.asInt .i64 (W.Env.get? E 15) fun round15 => S41 e9 many10 got14 round15 w R
theorem KE_S41_ok (R : W.Post) (E : W.Env) (w : World) (h : KE_S41 E w R) : W.WP Try.prog 167 C59 (Q35 R) E w := by
  obtain ⟨e9, hq9, h1⟩ := W.asSlice_elim h
  obtain ⟨many10, hq10, h2⟩ := W.asSlice_elim h1
  obtain ⟨got14, hq14, h3⟩ := W.asSlice_elim h2
  obtain ⟨round15, hq15, h4⟩ := W.asInt_elim h3
  exact fun a ha => W.WP.at (E := [(9, e9.v), (10, many10.v), (14, got14.v), (15, .int .i64 round15)]) (W.WP.reg (c := C59) (fun E w => KE_L22 E w R) (by kernel_rfl) (Eq.mp (by kernel_rfl) h4) fun _ _ a hA hK => KE_L22_ok R _ _ hK a hA) (ha.cons hq9 (ha.cons hq10 (ha.cons hq14 (ha.cons hq15 ha.nil))))
noncomputable def C102 : Code := W.Code.fst C58
abbrev Q36 (R : W.Post) : Exit → Act → World → Prop := (Exit.then (Code.wp Try.prog C60 (Exit.then (W.LoopWP Try.prog C58 (Q20 R)) (Q20 R))) (Exit.then (W.LoopWP Try.prog C58 (Q20 R)) (Q20 R)))
noncomputable def C103 : Code := W.Code.fst C102
noncomputable def C104 : Code := W.Code.snd C102
noncomputable def C105 : Code := W.Code.fst C104
noncomputable def C106 : Code := W.Code.snd C104
/-- law.go:202 -/
def S26 (e9 many10 got14 : W.Sl) (round15 k16 : Int) (w : World) (R : W.Post) : Prop :=
  W.sel (decide (k16 < 2)) (S27 e9 many10 got14 round15 k16 w R) (S41 e9 many10 got14 round15 w R)
def KE_S26 (E : W.Env) (w : World) (R : W.Post) : Prop := W.asSlice (W.Env.get? E 9) fun e9 => W.asSlice (W.Env.get? E 10) fun many10 => W.asSlice (W.Env.get? E 14) fun got14 => W.asInt .i64 (W.Env.get? E 15) fun round15 => W.asInt .i64 (W.Env.get? E 16) fun k16 => S26 e9 many10 got14 round15 k16 w R
theorem KE_S26_ok (R : W.Post) (E : W.Env) (w : World) (h : KE_S26 E w R) : W.WP Try.prog 167 C102 (Q36 R) E w := by
  obtain ⟨e9, hq9, h1⟩ := W.asSlice_elim h
  obtain ⟨many10, hq10, h2⟩ := W.asSlice_elim h1
  obtain ⟨got14, hq14, h3⟩ := W.asSlice_elim h2
  obtain ⟨round15, hq15, h4⟩ := W.asInt_elim h3
  obtain ⟨k16, hq16, h5⟩ := W.asInt_elim h4
  exact fun a ha => W.WP.at (E := [(9, e9.v), (10, many10.v), (14, got14.v), (15, .int .i64 round15), (16, .int .i64 k16)]) (W.WP.seq (c := C102) (x := C103) (y := C104) (by kernel_rfl) <| W.WP.reg (c := C103) (fun E w => W.condK (W.Env.val E (.tmp 76)) (KE_S27 E w R) (KE_S41 E w R)) (by kernel_rfl) (Eq.mp (by kernel_rfl) h5) fun _ _ a hA hK => (W.WP.condK (c := C104) (x := C105) (y := C106) (o := .tmp 76) (by kernel_rfl) (fun hK => (W.WP.skip (c := C105) (by kernel_rfl) fun a hA => (W.WP.seq (c := C60) (x := C61) (y := C67) (by kernel_rfl) (W.WP.block (c := C61) (x := C62) (id := 9) (by kernel_rfl) (KE_S27_ok R _ _ hK))) a hA)) (fun hK => (W.WP.exit (c := C106) (id := 8) (by kernel_rfl) fun a hA => (KE_S41_ok R _ _ hK) a hA)) hK) a hA) (ha.cons hq9 (ha.cons hq10 (ha.cons hq14 (ha.cons hq15 (ha.cons hq16 ha.nil)))))
theorem L25_step (e9 many10 got14 : W.Sl) (round15 k16 : Int) (w : World) (R : W.Post) (h : S26 e9 many10 got14 round15 k16 w R) : L25 e9 many10 got14 round15 k16 w R :=
  W.LP.step (c := C58) (E := [(9, e9.v), (10, many10.v), (14, got14.v), (15, .int .i64 round15), (16, .int .i64 k16)]) (w := w) (W.WP.seq (c := C58) (x := C102) (y := C60) (by kernel_rfl) (KE_S26_ok R _ _ (Eq.mp (by kernel_rfl) h)))
noncomputable def C107 : Code := W.Code.fst C55
/-- law.go:202 -/
def S24 (e9 many10 got14 : W.Sl) (round15 : Int) (w : World) (R : W.Post) : Prop :=
  L25 e9 many10 got14 round15 0 w R
def KE_S24 (E : W.Env) (w : World) (R : W.Post) : Prop := W.asSlice (W.Env.get? E 9) fun e9 => W.asSlice (W.Env.get? E 10) fun many10 => W.asSlice (W.Env.get? E 14) fun got14 => W.asInt .i64 (W.Env.get? E 15) fun round15 => S24 e9 many10 got14 round15 w R
theorem KE_S24_ok (R : W.Post) (E : W.Env) (w : World) (h : KE_S24 E w R) : W.WP Try.prog 167 C55 (Q19 R) E w := by
  obtain ⟨e9, hq9, h1⟩ := W.asSlice_elim h
  obtain ⟨many10, hq10, h2⟩ := W.asSlice_elim h1
  obtain ⟨got14, hq14, h3⟩ := W.asSlice_elim h2
  obtain ⟨round15, hq15, h4⟩ := W.asInt_elim h3
  exact fun a ha => W.WP.at (E := [(9, e9.v), (10, many10.v), (14, got14.v), (15, .int .i64 round15)]) (W.WP.seq (c := C55) (x := C107) (y := C56) (by kernel_rfl) <| W.WP.reg (c := C107) (fun E w => KE_L25 E w R) (by kernel_rfl) (Eq.mp (by kernel_rfl) h4) fun _ _ a hA hK => (W.WP.block (c := C56) (x := C57) (id := 8) (by kernel_rfl) (W.WP.loop (c := C57) (x := C58) (by kernel_rfl) (KE_L25_ok R _ _ hK))) a hA) (ha.cons hq9 (ha.cons hq10 (ha.cons hq14 (ha.cons hq15 ha.nil))))
abbrev Q37 (R : W.Post) : Exit → Act → World → Prop := (bodyPost Try.prog Try.f5 R)
noncomputable def C108 : Code := W.Code.fst C52
noncomputable def C109 : Code := W.Code.snd C52
/-- law.go:215 -/
def S42 (e9 many10 got14 : W.Sl) (w : World) (R : W.Post) : Prop :=
  (0 : Int) ≤ 0 ∧ 0 < ((got14.n : Nat) : Int) ∧ W.optP got14.a fun t135_p => ∃ t136 : Int, w.drew.cell? (t135_p.add (Int.toNat 0 * 1)) = some (.int .i64 t136) ∧ 
  (0 : Int) ≤ 1 ∧ 1 < ((many10.n : Nat) : Int) ∧ W.optP many10.a fun t138_p => ∃ t139 : Int, w.drew.cell? (t138_p.add (Int.toNat 1 * 1)) = some (.int .i64 t139) ∧ 
  W.sel (t136 == t139) ((0 : Int) ≤ 1 ∧ 1 < ((got14.n : Nat) : Int) ∧ W.optP got14.a fun t143_p => ∃ t144 : Int, w.drew.cell? (t143_p.add (Int.toNat 1 * 1)) = some (.int .i64 t144) ∧ 
  (0 : Int) ≤ 0 ∧ 0 < ((many10.n : Nat) : Int) ∧ W.optP many10.a fun t146_p => ∃ t147 : Int, w.drew.cell? (t146_p.add (Int.toNat 0 * 1)) = some (.int .i64 t147) ∧ 
  W.sel (t144 == t147) ((0 : Int) ≤ 0 ∧ 0 < ((e9.n : Nat) : Int) ∧ W.optP e9.a fun t152_p => ∃ t153 : Option Addr, w.drew.cell? (t152_p.add (Int.toNat 0 * 1)) = some (.pointer t153) ∧ 
  Calls Try.prog n_channel_End_Waiting #[.pointer t153] w.drew fun r_ w1 => ∃ t154 : Int, r_ = .returned (.int .i64 t154) ∧ 
  w1.cell? (t146_p.add (Int.toNat 0 * 1)) = some (.int .i64 t147) ∧ w1.cell? (t143_p.add (Int.toNat 1 * 1)) = some (.int .i64 t144) ∧ w1.cell? (t138_p.add (Int.toNat 1 * 1)) = some (.int .i64 t139) ∧ w1.cell? (t135_p.add (Int.toNat 0 * 1)) = some (.int .i64 t136) ∧ W.sel (t154 == 0) ((0 : Int) ≤ 1 ∧ 1 < ((e9.n : Nat) : Int) ∧ W.optP e9.a fun t159_p => ∃ t160 : Option Addr, w1.cell? (t159_p.add (Int.toNat 1 * 1)) = some (.pointer t160) ∧ 
  Calls Try.prog n_channel_End_Waiting #[.pointer t160] w1 fun r_ w2 => ∃ t161 : Int, r_ = .returned (.int .i64 t161) ∧ 
  w2.cell? (t146_p.add (Int.toNat 0 * 1)) = some (.int .i64 t147) ∧ w2.cell? (t143_p.add (Int.toNat 1 * 1)) = some (.int .i64 t144) ∧ w2.cell? (t138_p.add (Int.toNat 1 * 1)) = some (.int .i64 t139) ∧ w2.cell? (t135_p.add (Int.toNat 0 * 1)) = some (.int .i64 t136) ∧ W.sel (t161 == 0) (Calls Try.prog n_enthymemelaw38_lives #[] w2 fun r_ w3 => ∃ t165 : Bool, r_ = .returned (.bool t165) ∧ 
  w3.cell? (t146_p.add (Int.toNat 0 * 1)) = some (.int .i64 t147) ∧ w3.cell? (t143_p.add (Int.toNat 1 * 1)) = some (.int .i64 t144) ∧ w3.cell? (t138_p.add (Int.toNat 1 * 1)) = some (.int .i64 t139) ∧ w3.cell? (t135_p.add (Int.toNat 0 * 1)) = some (.int .i64 t136) ∧ R (.returned (.bool t165)) w3) (R (.returned (.bool false)) w2)) (R (.returned (.bool false)) w1)) (R (.returned (.bool false)) w.drew)) (R (.returned (.bool false)) w.drew)
def KE_S42 (E : W.Env) (w : World) (R : W.Post) : Prop := W.asSlice (W.Env.get? E 9) fun e9 => W.asSlice (W.Env.get? E 10) fun many10 => W.asSlice (W.Env.get? E 14) fun got14 => S42 e9 many10 got14 w R
theorem KE_S42_ok (R : W.Post) (E : W.Env) (w : World) (h : KE_S42 E w R) : W.WP Try.prog 167 C52 (Q37 R) E w := by
  obtain ⟨e9, hq9, h1⟩ := W.asSlice_elim h
  obtain ⟨many10, hq10, h2⟩ := W.asSlice_elim h1
  obtain ⟨got14, hq14, h3⟩ := W.asSlice_elim h2
  exact fun a ha => W.WP.at (E := [(9, e9.v), (10, many10.v), (14, got14.v)]) (W.WP.seq (c := C52) (x := C108) (y := C109) (by kernel_rfl) <| W.WP.draw (c := C108) [0, 1, 2, 3, 4, 5, 6, 7, 8, 9, 10, 11, 12, 13, 14, 15, 16, 17, 18, 19, 20, 21, 22, 23, 24, 25, 26, 27, 28, 29, 30, 31, 32, 33] (fun E w => W.retVC Try.prog Try.f5 E w (fun v => R (.returned v) w)) (by kernel_rfl) (Eq.mp (by kernel_rfl) h3) fun _ _ a hA hK => (W.WP.ret (c := C109) (by kernel_rfl) fun a hA => W.retVC_sound hA hK) a hA) (ha.cons hq9 (ha.cons hq10 (ha.cons hq14 ha.nil)))
noncomputable def C110 : Code := W.Code.fst C51
abbrev Q38 (R : W.Post) : Exit → Act → World → Prop := (Exit.then (Code.wp Try.prog C53 (Exit.then (W.LoopWP Try.prog C51 (Q17 R)) (Q17 R))) (Exit.then (W.LoopWP Try.prog C51 (Q17 R)) (Q17 R)))
noncomputable def C111 : Code := W.Code.fst C110
noncomputable def C112 : Code := W.Code.snd C110
noncomputable def C113 : Code := W.Code.fst C112
noncomputable def C114 : Code := W.Code.snd C112
/-- law.go:201 -/
def S23 (e9 many10 got14 : W.Sl) (round15 : Int) (w : World) (R : W.Post) : Prop :=
  (0 : Int) ≤ 0 ∧ 0 < ((many10.n : Nat) : Int) ∧ W.optP many10.a fun t66_p => ∃ t67 : Int, w.drew.cell? (t66_p.add (Int.toNat 0 * 1)) = some (.int .i64 t67) ∧ 
  (0 : Int) ≤ 1 ∧ 1 < ((many10.n : Nat) : Int) ∧ W.optP many10.a fun t69_p => ∃ t70 : Int, w.drew.cell? (t69_p.add (Int.toNat 1 * 1)) = some (.int .i64 t70) ∧ 
  W.sel (decide (round15 ≤ (if t67 < t70 then t70 else t67))) (S24 e9 many10 got14 round15 w.drew R) (S42 e9 many10 got14 w.drew R)
def KE_S23 (E : W.Env) (w : World) (R : W.Post) : Prop := W.asSlice (W.Env.get? E 9) fun e9 => W.asSlice (W.Env.get? E 10) fun many10 => W.asSlice (W.Env.get? E 14) fun got14 => W.asInt .i64 (W.Env.get? E 15) fun round15 => S23 e9 many10 got14 round15 w R
theorem KE_S23_ok (R : W.Post) (E : W.Env) (w : World) (h : KE_S23 E w R) : W.WP Try.prog 167 C110 (Q38 R) E w := by
  obtain ⟨e9, hq9, h1⟩ := W.asSlice_elim h
  obtain ⟨many10, hq10, h2⟩ := W.asSlice_elim h1
  obtain ⟨got14, hq14, h3⟩ := W.asSlice_elim h2
  obtain ⟨round15, hq15, h4⟩ := W.asInt_elim h3
  exact fun a ha => W.WP.at (E := [(9, e9.v), (10, many10.v), (14, got14.v), (15, .int .i64 round15)]) (W.WP.seq (c := C110) (x := C111) (y := C112) (by kernel_rfl) <| W.WP.draw (c := C111) [0, 1, 2, 3, 4, 5, 6, 7, 8] (fun E w => W.condK (W.Env.val E (.tmp 72)) (KE_S24 E w R) (KE_S42 E w R)) (by kernel_rfl) (Eq.mp (by kernel_rfl) h4) fun _ _ a hA hK => (W.WP.condK (c := C112) (x := C113) (y := C114) (o := .tmp 72) (by kernel_rfl) (fun hK => (W.WP.skip (c := C113) (by kernel_rfl) fun a hA => (W.WP.seq (c := C53) (x := C54) (y := C59) (by kernel_rfl) (W.WP.block (c := C54) (x := C55) (id := 7) (by kernel_rfl) (KE_S24_ok R _ _ hK))) a hA)) (fun hK => (W.WP.exit (c := C114) (id := 6) (by kernel_rfl) fun a hA => (KE_S42_ok R _ _ hK) a hA)) hK) a hA) (ha.cons hq9 (ha.cons hq10 (ha.cons hq14 (ha.cons hq15 ha.nil))))
theorem L22_step (e9 many10 got14 : W.Sl) (round15 : Int) (w : World) (R : W.Post) (h : S23 e9 many10 got14 round15 w R) : L22 e9 many10 got14 round15 w R :=
  W.LP.step (c := C51) (E := [(9, e9.v), (10, many10.v), (14, got14.v), (15, .int .i64 round15)]) (w := w) (W.WP.seq (c := C51) (x := C110) (y := C53) (by kernel_rfl) (KE_S23_ok R _ _ (Eq.mp (by kernel_rfl) h)))
noncomputable def C115 : Code := W.Code.fst C48
/-- law.go:201 -/
def S21 (e9 many10 got14 : W.Sl) (w : World) (R : W.Post) : Prop :=
  L22 e9 many10 got14 0 w R
def KE_S21 (E : W.Env) (w : World) (R : W.Post) : Prop := W.asSlice (W.Env.get? E 9) fun e9 => W.asSlice (W.Env.get? E 10) fun many10 => W.asSlice (W.Env.get? E 14) fun got14 => S21 e9 many10 got14 w R
theorem KE_S21_ok (R : W.Post) (E : W.Env) (w : World) (h : KE_S21 E w R) : W.WP Try.prog 167 C48 (Q16 R) E w := by
  obtain ⟨e9, hq9, h1⟩ := W.asSlice_elim h
  obtain ⟨many10, hq10, h2⟩ := W.asSlice_elim h1
  obtain ⟨got14, hq14, h3⟩ := W.asSlice_elim h2
  exact fun a ha => W.WP.at (E := [(9, e9.v), (10, many10.v), (14, got14.v)]) (W.WP.seq (c := C48) (x := C115) (y := C49) (by kernel_rfl) <| W.WP.reg (c := C115) (fun E w => KE_L22 E w R) (by kernel_rfl) (Eq.mp (by kernel_rfl) h3) fun _ _ a hA hK => (W.WP.block (c := C49) (x := C50) (id := 6) (by kernel_rfl) (W.WP.loop (c := C50) (x := C51) (by kernel_rfl) (KE_L22_ok R _ _ hK))) a hA) (ha.cons hq9 (ha.cons hq10 (ha.cons hq14 ha.nil)))
noncomputable def C116 : Code := W.Code.fst C42
/-- law.go:200 -/
def S20 (e9 many10 : W.Sl) (w : World) (R : W.Post) : Prop :=
  let w1 := w.alloc (.cells #[.int .i64 0, .int .i64 0] ty_int)
  S21 e9 many10 ⟨some (Addr.mk w.heap.size 0 none), 2, 2⟩ w1 R
def KE_S20 (E : W.Env) (w : World) (R : W.Post) : Prop := W.asSlice (W.Env.get? E 9) fun e9 => W.asSlice (W.Env.get? E 10) fun many10 => S20 e9 many10 w R
theorem KE_S20_ok (R : W.Post) (E : W.Env) (w : World) (h : KE_S20 E w R) : W.WP Try.prog 167 C42 (Q37 R) E w := by
  obtain ⟨e9, hq9, h1⟩ := W.asSlice_elim h
  obtain ⟨many10, hq10, h2⟩ := W.asSlice_elim h1
  exact fun a ha => W.WP.at (E := [(9, e9.v), (10, many10.v)]) (W.WP.seq (c := C42) (x := C116) (y := C47) (by kernel_rfl) <| W.WP.reg (c := C116) (fun E w => KE_S21 E w R) (by kernel_rfl) (Eq.mp (by kernel_rfl) h2) fun _ _ a hA hK => (W.WP.seq (c := C47) (x := C48) (y := C52) (by kernel_rfl) (KE_S21_ok R _ _ hK)) a hA) (ha.cons hq9 (ha.cons hq10 ha.nil))
noncomputable def C117 : Code := W.Code.fst C41
abbrev Q39 (R : W.Post) : Exit → Act → World → Prop := (Exit.then (Code.wp Try.prog C43 (Exit.then (W.LoopWP Try.prog C41 (Q12 R)) (Q12 R))) (Exit.then (W.LoopWP Try.prog C41 (Q12 R)) (Q12 R)))
noncomputable def C118 : Code := W.Code.fst C117
noncomputable def C119 : Code := W.Code.snd C117
noncomputable def C120 : Code := W.Code.fst C119
noncomputable def C121 : Code := W.Code.snd C119
/-- law.go:197 -/
def S17 (lost3 : Int) (e9 many10 : W.Sl) (i13 : Int) (w : World) (R : W.Post) : Prop :=
  Calls Try.prog n_enthymemeref01_Around #[.int .i64 lost3, .int .i64 5] w fun r_ w1 => ∃ t53 : Int, r_ = .returned (.int .i64 t53) ∧ 
  W.sel (decide (i13 < t53)) (S18 lost3 e9 many10 i13 w1 R) (S20 e9 many10 w1 R)
def KE_S17 (E : W.Env) (w : World) (R : W.Post) : Prop := W.asInt .i64 (W.Env.get? E 3) fun lost3 => W.asSlice (W.Env.get? E 9) fun e9 => W.asSlice (W.Env.get? E 10) fun many10 => W.asInt .i64 (W.Env.get? E 13) fun i13 => S17 lost3 e9 many10 i13 w R
theorem KE_S17_ok (R : W.Post) (E : W.Env) (w : World) (h : KE_S17 E w R) : W.WP Try.prog 167 C117 (Q39 R) E w := by
  obtain ⟨lost3, hq3, h1⟩ := W.asInt_elim h
  obtain ⟨e9, hq9, h2⟩ := W.asSlice_elim h1
  obtain ⟨many10, hq10, h3⟩ := W.asSlice_elim h2
  obtain ⟨i13, hq13, h4⟩ := W.asInt_elim h3
  exact fun a ha => W.WP.at (E := [(3, .int .i64 lost3), (9, e9.v), (10, many10.v), (13, .int .i64 i13)]) (W.WP.seq (c := C117) (x := C118) (y := C119) (by kernel_rfl) <| W.WP.reg (c := C118) (fun E w => W.condK (W.Env.val E (.tmp 54)) (KE_S18 E w R) (KE_S20 E w R)) (by kernel_rfl) (Eq.mp (by kernel_rfl) h4) fun _ _ a hA hK => (W.WP.condK (c := C119) (x := C120) (y := C121) (o := .tmp 54) (by kernel_rfl) (fun hK => (W.WP.skip (c := C120) (by kernel_rfl) fun a hA => (W.WP.seq (c := C43) (x := C45) (y := C44) (by kernel_rfl) (W.WP.block (c := C45) (x := C46) (id := 5) (by kernel_rfl) (KE_S18_ok R _ _ hK))) a hA)) (fun hK => (W.WP.exit (c := C121) (id := 4) (by kernel_rfl) fun a hA => (KE_S20_ok R _ _ hK) a hA)) hK) a hA) (ha.cons hq3 (ha.cons hq9 (ha.cons hq10 (ha.cons hq13 ha.nil))))
theorem L16_step (lost3 : Int) (e9 many10 : W.Sl) (i13 : Int) (w : World) (R : W.Post) (h : S17 lost3 e9 many10 i13 w R) : L16 lost3 e9 many10 i13 w R :=
  W.LP.step (c := C41) (E := [(3, .int .i64 lost3), (9, e9.v), (10, many10.v), (13, .int .i64 i13)]) (w := w) (W.WP.seq (c := C41) (x := C117) (y := C43) (by kernel_rfl) (KE_S17_ok R _ _ (Eq.mp (by kernel_rfl) h)))
noncomputable def C122 : Code := W.Code.fst C38
/-- law.go:197 -/
def S15 (lost3 : Int) (e9 many10 : W.Sl) (w : World) (R : W.Post) : Prop :=
  L16 lost3 e9 many10 0 w R
def KE_S15 (E : W.Env) (w : World) (R : W.Post) : Prop := W.asInt .i64 (W.Env.get? E 3) fun lost3 => W.asSlice (W.Env.get? E 9) fun e9 => W.asSlice (W.Env.get? E 10) fun many10 => S15 lost3 e9 many10 w R
theorem KE_S15_ok (R : W.Post) (E : W.Env) (w : World) (h : KE_S15 E w R) : W.WP Try.prog 167 C38 (Q11 R) E w := by
  obtain ⟨lost3, hq3, h1⟩ := W.asInt_elim h
  obtain ⟨e9, hq9, h2⟩ := W.asSlice_elim h1
  obtain ⟨many10, hq10, h3⟩ := W.asSlice_elim h2
  exact fun a ha => W.WP.at (E := [(3, .int .i64 lost3), (9, e9.v), (10, many10.v)]) (W.WP.seq (c := C38) (x := C122) (y := C39) (by kernel_rfl) <| W.WP.reg (c := C122) (fun E w => KE_L16 E w R) (by kernel_rfl) (Eq.mp (by kernel_rfl) h3) fun _ _ a hA hK => (W.WP.block (c := C39) (x := C40) (id := 4) (by kernel_rfl) (W.WP.loop (c := C40) (x := C41) (by kernel_rfl) (KE_L16_ok R _ _ hK))) a hA) (ha.cons hq3 (ha.cons hq9 (ha.cons hq10 ha.nil)))
noncomputable def C123 : Code := W.Code.fst C13
abbrev Q40 (R : W.Post) : Exit → Act → World → Prop := (Exit.then (Code.wp Try.prog C15 (Exit.then (W.LoopWP Try.prog C13 (Q2 R)) (Q2 R))) (Exit.then (W.LoopWP Try.prog C13 (Q2 R)) (Q2 R)))
noncomputable def C124 : Code := W.Code.fst C123
noncomputable def C125 : Code := W.Code.snd C123
noncomputable def C126 : Code := W.Code.fst C125
noncomputable def C127 : Code := W.Code.snd C125
/-- law.go:190 -/
def S7 (lost3 : Int) (e9 many10 : W.Sl) (k11 : Int) (w : World) (R : W.Post) : Prop :=
  W.sel (decide (k11 < 2)) (S8 lost3 e9 many10 k11 w R) (S15 lost3 e9 many10 w R)
def KE_S7 (E : W.Env) (w : World) (R : W.Post) : Prop := W.asInt .i64 (W.Env.get? E 3) fun lost3 => W.asSlice (W.Env.get? E 9) fun e9 => W.asSlice (W.Env.get? E 10) fun many10 => W.asInt .i64 (W.Env.get? E 11) fun k11 => S7 lost3 e9 many10 k11 w R
theorem KE_S7_ok (R : W.Post) (E : W.Env) (w : World) (h : KE_S7 E w R) : W.WP Try.prog 167 C123 (Q40 R) E w := by
  obtain ⟨lost3, hq3, h1⟩ := W.asInt_elim h
  obtain ⟨e9, hq9, h2⟩ := W.asSlice_elim h1
  obtain ⟨many10, hq10, h3⟩ := W.asSlice_elim h2
  obtain ⟨k11, hq11, h4⟩ := W.asInt_elim h3
  exact fun a ha => W.WP.at (E := [(3, .int .i64 lost3), (9, e9.v), (10, many10.v), (11, .int .i64 k11)]) (W.WP.seq (c := C123) (x := C124) (y := C125) (by kernel_rfl) <| W.WP.reg (c := C124) (fun E w => W.condK (W.Env.val E (.tmp 31)) (KE_S8 E w R) (KE_S15 E w R)) (by kernel_rfl) (Eq.mp (by kernel_rfl) h4) fun _ _ a hA hK => (W.WP.condK (c := C125) (x := C126) (y := C127) (o := .tmp 31) (by kernel_rfl) (fun hK => (W.WP.skip (c := C126) (by kernel_rfl) fun a hA => (W.WP.seq (c := C15) (x := C16) (y := C21) (by kernel_rfl) (W.WP.block (c := C16) (x := C17) (id := 1) (by kernel_rfl) (KE_S8_ok R _ _ hK))) a hA)) (fun hK => (W.WP.exit (c := C127) (id := 0) (by kernel_rfl) fun a hA => (W.WP.seq (c := C14) (x := C38) (y := C42) (by kernel_rfl) (KE_S15_ok R _ _ hK)) a hA)) hK) a hA) (ha.cons hq3 (ha.cons hq9 (ha.cons hq10 (ha.cons hq11 ha.nil))))
theorem L6_step (lost3 : Int) (e9 many10 : W.Sl) (k11 : Int) (w : World) (R : W.Post) (h : S7 lost3 e9 many10 k11 w R) : L6 lost3 e9 many10 k11 w R :=
  W.LP.step (c := C13) (E := [(3, .int .i64 lost3), (9, e9.v), (10, many10.v), (11, .int .i64 k11)]) (w := w) (W.WP.seq (c := C13) (x := C123) (y := C15) (by kernel_rfl) (KE_S7_ok R _ _ (Eq.mp (by kernel_rfl) h)))
noncomputable def C128 : Code := W.Code.fst C10
/-- law.go:190 -/
def S5 (lost3 : Int) (e9 many10 : W.Sl) (w : World) (R : W.Post) : Prop :=
  L6 lost3 e9 many10 0 w R
def KE_S5 (E : W.Env) (w : World) (R : W.Post) : Prop := W.asInt .i64 (W.Env.get? E 3) fun lost3 => W.asSlice (W.Env.get? E 9) fun e9 => W.asSlice (W.Env.get? E 10) fun many10 => S5 lost3 e9 many10 w R
theorem KE_S5_ok (R : W.Post) (E : W.Env) (w : World) (h : KE_S5 E w R) : W.WP Try.prog 167 C10 (Q1 R) E w := by
  obtain ⟨lost3, hq3, h1⟩ := W.asInt_elim h
  obtain ⟨e9, hq9, h2⟩ := W.asSlice_elim h1
  obtain ⟨many10, hq10, h3⟩ := W.asSlice_elim h2
  exact fun a ha => W.WP.at (E := [(3, .int .i64 lost3), (9, e9.v), (10, many10.v)]) (W.WP.seq (c := C10) (x := C128) (y := C11) (by kernel_rfl) <| W.WP.reg (c := C128) (fun E w => KE_L6 E w R) (by kernel_rfl) (Eq.mp (by kernel_rfl) h3) fun _ _ a hA hK => (W.WP.block (c := C11) (x := C12) (id := 0) (by kernel_rfl) (W.WP.loop (c := C12) (x := C13) (by kernel_rfl) (KE_L6_ok R _ _ hK))) a hA) (ha.cons hq3 (ha.cons hq9 (ha.cons hq10 ha.nil)))
noncomputable def C129 : Code := W.Code.fst C6
/-- law.go:189 -/
def S4 (one1 two2 lost3 : Int) (e9 : W.Sl) (w : World) (R : W.Post) : Prop :=
  Calls Try.prog n_enthymemeref01_Around #[.int .i64 one1, .int .i64 41] w fun r_ w1 => ∃ t26 : Int, r_ = .returned (.int .i64 t26) ∧ 
  Calls Try.prog n_enthymemeref01_Around #[.int .i64 two2, .int .i64 41] w1 fun r_ w2 => ∃ t28 : Int, r_ = .returned (.int .i64 t28) ∧ 
  let w3 := w2.alloc (.cells #[.int .i64 t26, .int .i64 t28] ty_int)
  S5 lost3 e9 ⟨some (Addr.mk w2.heap.size 0 none), 2, 2⟩ w3 R
def KE_S4 (E : W.Env) (w : World) (R : W.Post) : Prop := W.asInt .i64 (W.Env.get? E 1) fun one1 => W.asInt .i64 (W.Env.get? E 2) fun two2 => W.asInt .i64 (W.Env.get? E 3) fun lost3 => W.asSlice (W.Env.get? E 9) fun e9 => S4 one1 two2 lost3 e9 w R
theorem KE_S4_ok (R : W.Post) (E : W.Env) (w : World) (h : KE_S4 E w R) : W.WP Try.prog 167 C6 (Q37 R) E w := by
  obtain ⟨one1, hq1, h1⟩ := W.asInt_elim h
  obtain ⟨two2, hq2, h2⟩ := W.asInt_elim h1
  obtain ⟨lost3, hq3, h3⟩ := W.asInt_elim h2
  obtain ⟨e9, hq9, h4⟩ := W.asSlice_elim h3
  exact fun a ha => W.WP.at (E := [(1, .int .i64 one1), (2, .int .i64 two2), (3, .int .i64 lost3), (9, e9.v)]) (W.WP.seq (c := C6) (x := C129) (y := C9) (by kernel_rfl) <| W.WP.reg (c := C129) (fun E w => KE_S5 E w R) (by kernel_rfl) (Eq.mp (by kernel_rfl) h4) fun _ _ a hA hK => (W.WP.seq (c := C9) (x := C10) (y := C14) (by kernel_rfl) (KE_S5_ok R _ _ hK)) a hA) (ha.cons hq1 (ha.cons hq2 (ha.cons hq3 (ha.cons hq9 ha.nil))))
noncomputable def C130 : Code := W.Code.fst C3
noncomputable def C131 : Code := W.Code.snd C4
/-- law.go:186 -/
def S2 (one1 two2 lost3 : Int) (e9 : W.Sl) (w : World) (R : W.Post) : Prop :=
  W.sel e9.a.isNone (S3  w R) (S4 one1 two2 lost3 e9 w R)
def KE_S2 (E : W.Env) (w : World) (R : W.Post) : Prop := W.asInt .i64 (W.Env.get? E 1) fun one1 => W.asInt .i64 (W.Env.get? E 2) fun two2 => W.asInt .i64 (W.Env.get? E 3) fun lost3 => W.asSlice (W.Env.get? E 9) fun e9 => S2 one1 two2 lost3 e9 w R
theorem KE_S2_ok (R : W.Post) (E : W.Env) (w : World) (h : KE_S2 E w R) : W.WP Try.prog 167 C3 (Q0 R) E w := by
  obtain ⟨one1, hq1, h1⟩ := W.asInt_elim h
  obtain ⟨two2, hq2, h2⟩ := W.asInt_elim h1
  obtain ⟨lost3, hq3, h3⟩ := W.asInt_elim h2
  obtain ⟨e9, hq9, h4⟩ := W.asSlice_elim h3
  exact fun a ha => W.WP.at (E := [(1, .int .i64 one1), (2, .int .i64 two2), (3, .int .i64 lost3), (9, e9.v)]) (W.WP.seq (c := C3) (x := C130) (y := C4) (by kernel_rfl) <| W.WP.reg (c := C130) (fun E w => W.condK (W.Env.val E (.tmp 24)) (KE_S3 E w R) (KE_S4 E w R)) (by kernel_rfl) (Eq.mp (by kernel_rfl) h4) fun _ _ a hA hK => (W.WP.condK (c := C4) (x := C5) (y := C131) (o := .tmp 24) (by kernel_rfl) (fun hK => (KE_S3_ok R _ _ hK)) (fun hK => (W.WP.skip (c := C131) (by kernel_rfl) fun a hA => (KE_S4_ok R _ _ hK) a hA)) hK) a hA) (ha.cons hq1 (ha.cons hq2 (ha.cons hq3 (ha.cons hq9 ha.nil))))
noncomputable def C132 : Code := W.Code.fst C1
/-- law.go:185 -/
def S1 (window0 one1 two2 lost3 : Int) (w : World) (R : W.Post) : Prop :=
  Calls Try.prog n_enthymemelaw38_ends #[.int .i64 window0] w fun r_ w1 => ∃ t22 : W.Sl, r_ = .returned (t22.v) ∧ 
  S2 one1 two2 lost3 t22 w1 R
def KE_S1 (E : W.Env) (w : World) (R : W.Post) : Prop := W.asInt .i64 (W.Env.get? E 0) fun window0 => W.asInt .i64 (W.Env.get? E 1) fun one1 => W.asInt .i64 (W.Env.get? E 2) fun two2 => W.asInt .i64 (W.Env.get? E 3) fun lost3 => S1 window0 one1 two2 lost3 w R
theorem KE_S1_ok (R : W.Post) (E : W.Env) (w : World) (h : KE_S1 E w R) : W.WP Try.prog 167 C1 (Q37 R) E w := by
  obtain ⟨window0, hq0, h1⟩ := W.asInt_elim h
  obtain ⟨one1, hq1, h2⟩ := W.asInt_elim h1
  obtain ⟨two2, hq2, h3⟩ := W.asInt_elim h2
  obtain ⟨lost3, hq3, h4⟩ := W.asInt_elim h3
  exact fun a ha => W.WP.at (E := [(0, .int .i64 window0), (1, .int .i64 one1), (2, .int .i64 two2), (3, .int .i64 lost3)]) (W.WP.seq (c := C1) (x := C132) (y := C2) (by kernel_rfl) <| W.WP.reg (c := C132) (fun E w => KE_S2 E w R) (by kernel_rfl) (Eq.mp (by kernel_rfl) h4) fun _ _ a hA hK => (W.WP.seq (c := C2) (x := C3) (y := C6) (by kernel_rfl) (KE_S2_ok R _ _ hK)) a hA) (ha.cons hq0 (ha.cons hq1 (ha.cons hq2 (ha.cons hq3 ha.nil))))
noncomputable def C133 : Code := W.Code.fst C0
/-- law.go:184 -/
def S0 (window0 one1 two2 lost3 : Int) (w : World) (R : W.Post) : Prop :=
  S1 window0 one1 two2 lost3 w R
def KE_S0 (E : W.Env) (w : World) (R : W.Post) : Prop := W.asInt .i64 (W.Env.get? E 0) fun window0 => W.asInt .i64 (W.Env.get? E 1) fun one1 => W.asInt .i64 (W.Env.get? E 2) fun two2 => W.asInt .i64 (W.Env.get? E 3) fun lost3 => S0 window0 one1 two2 lost3 w R
theorem KE_S0_ok (R : W.Post) (E : W.Env) (w : World) (h : KE_S0 E w R) : W.WP Try.prog 167 C0 (Q37 R) E w := by
  obtain ⟨window0, hq0, h1⟩ := W.asInt_elim h
  obtain ⟨one1, hq1, h2⟩ := W.asInt_elim h1
  obtain ⟨two2, hq2, h3⟩ := W.asInt_elim h2
  obtain ⟨lost3, hq3, h4⟩ := W.asInt_elim h3
  exact fun a ha => W.WP.at (E := [(0, .int .i64 window0), (1, .int .i64 one1), (2, .int .i64 two2), (3, .int .i64 lost3)]) (W.WP.seq (c := C0) (x := C133) (y := C1) (by kernel_rfl) <| W.WP.reg (c := C133) (fun E w => KE_S1 E w R) (by kernel_rfl) (Eq.mp (by kernel_rfl) h4) fun _ _ a hA hK => (KE_S1_ok R _ _ hK) a hA) (ha.cons hq0 (ha.cons hq1 (ha.cons hq2 (ha.cons hq3 ha.nil))))
/-- enthymeme/enthymemelaw38.ChannelProgress -/
theorem ok (window0 one1 two2 lost3 : Int) (w : World) (R : W.Post) (h : S0 window0 one1 two2 lost3 w R) : Calls Try.prog n_enthymemelaw38_ChannelProgress #[.int .i64 window0, .int .i64 one1, .int .i64 two2, .int .i64 lost3] w R :=
  W.calls_of_WP' (fn := Try.f5) (c := C0) (args := [.int .i64 window0, .int .i64 one1, .int .i64 two2, .int .i64 lost3]) (by kernel_rfl) (by kernel_rfl) (by kernel_rfl) (KE_S0_ok R _ _ (Eq.mp (by kernel_rfl) h))
end enthymemelaw38_ChannelProgress
end Go.Proofs.Ytellmncndfmbbaa

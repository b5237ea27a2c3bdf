/- Printed by a program of ours (vcgen.py) from the dump: the conditions of the functions, and that they suffice. -/
import Derived.Test.YtellmncndfmbbaaV
set_option linter.unusedVariables false
set_option maxRecDepth 100000
namespace Go.Proofs.Ytellmncndfmbbaa
open Go
namespace enthymemelaw38_ChannelRuns
noncomputable def C0 : Code := (Try.f3.body).getD .skip
noncomputable def C1 : Code := W.Code.snd C0
noncomputable def C2 : Code := W.Code.snd C1
noncomputable def C3 : Code := W.Code.fst C2
noncomputable def C4 : Code := W.Code.snd C3
noncomputable def C5 : Code := W.Code.fst C4
noncomputable def C6 : Code := W.Code.snd C2
abbrev Q0 (R : W.Post) : Exit → Act → World → Prop := (Exit.then (Code.wp Try.prog C6 (bodyPost Try.prog Try.f3 R)) (bodyPost Try.prog Try.f3 R))
noncomputable def C7 : Code := W.Code.fst C5
noncomputable def C8 : Code := W.Code.snd C5
/-- law.go:75 -/
def S3  (w : World) (R : W.Post) : Prop :=
  R (.returned (.bool false)) w
def KE_S3 (E : W.Env) (w : World) (R : W.Post) : Prop := S3  w R
theorem KE_S3_ok (R : W.Post) (E : W.Env) (w : World) (h : KE_S3 E w R) : W.WP Try.prog 215 C5 (Q0 R) E w := by
  exact fun a ha => W.WP.at (E := []) (W.WP.seq (c := C5) (x := C7) (y := C8) (by kernel_rfl) <| W.WP.reg (c := C7) (fun E w => W.retVC Try.prog Try.f3 E w (fun v => R (.returned v) w)) (by kernel_rfl) (Eq.mp (by kernel_rfl) h) fun _ _ a hA hK => (W.WP.ret (c := C8) (by kernel_rfl) fun a hA => W.retVC_sound hA hK) a hA) ha.nil
noncomputable def C9 : Code := W.Code.snd C6
noncomputable def C10 : Code := W.Code.fst C9
noncomputable def C11 : Code := W.Code.snd C10
noncomputable def C12 : Code := W.Code.fst C11
noncomputable def C13 : Code := W.Code.fst C12
noncomputable def C14 : Code := W.Code.snd C9
abbrev Q1 (R : W.Post) : Exit → Act → World → Prop := (Exit.then (Code.wp Try.prog C14 (bodyPost Try.prog Try.f3 R)) (bodyPost Try.prog Try.f3 R))
abbrev Q2 (R : W.Post) : Exit → Act → World → Prop := (Exit.inBlock 0 (Q1 R))
/-- the head of the loop, law.go:78 -/
def L6 (window0 : Int) (l1 e5 m6 : W.Sl) (i7 : Int) (w : World) (R : W.Post) : Prop := W.LP Try.prog 215 C13 (Q2 R) [(0, .int .i64 window0), (1, l1.v), (5, e5.v), (6, m6.v), (7, .int .i64 i7)] w
def KE_L6 (E : W.Env) (w : World) (R : W.Post) : Prop := W.asInt .i64 (W.Env.get? E 0) fun window0 => W.asSlice (W.Env.get? E 1) fun l1 => W.asSlice (W.Env.get? E 5) fun e5 => W.asSlice (W.Env.get? E 6) fun m6 => W.asInt .i64 (W.Env.get? E 7) fun i7 => L6 window0 l1 e5 m6 i7 w R
theorem KE_L6_ok (R : W.Post) (E : W.Env) (w : World) (h : KE_L6 E w R) : W.LP Try.prog 215 C13 (Q2 R) E w := by
  obtain ⟨window0, hq0, h1⟩ := W.asInt_elim h
  obtain ⟨l1, hq1, h2⟩ := W.asSlice_elim h1
  obtain ⟨e5, hq5, h3⟩ := W.asSlice_elim h2
  obtain ⟨m6, hq6, h4⟩ := W.asSlice_elim h3
  obtain ⟨i7, hq7, h5⟩ := W.asInt_elim h4
  intro a ha
  exact h5 a (ha.cons hq0 (ha.cons hq1 (ha.cons hq5 (ha.cons hq6 (ha.cons hq7 ha.nil)))))
noncomputable def C15 : Code := W.Code.snd C13
noncomputable def C16 : Code := W.Code.fst C15
noncomputable def C17 : Code := W.Code.fst C16
noncomputable def C18 : Code := W.Code.snd C17
noncomputable def C19 : Code := W.Code.fst C18
noncomputable def C20 : Code := W.Code.snd C19
noncomputable def C21 : Code := W.Code.fst C20
noncomputable def C22 : Code := W.Code.snd C15
abbrev Q3 (R : W.Post) : Exit → Act → World → Prop := (Exit.then (Code.wp Try.prog C22 (Exit.then (W.LoopWP Try.prog C13 (Q2 R)) (Q2 R))) (Exit.then (W.LoopWP Try.prog C13 (Q2 R)) (Q2 R)))
noncomputable def C23 : Code := W.Code.snd C18
abbrev Q4 (R : W.Post) : Exit → Act → World → Prop := (Exit.then (Code.wp Try.prog C23 (Exit.inBlock 1 (Q3 R))) (Exit.inBlock 1 (Q3 R)))
noncomputable def C24 : Code := W.Code.fst C21
noncomputable def C25 : Code := W.Code.snd C21
/-- law.go:81 -/
def S10  (w : World) (R : W.Post) : Prop :=
  R (.returned (.bool false)) w
def KE_S10 (E : W.Env) (w : World) (R : W.Post) : Prop := S10  w R
theorem KE_S10_ok (R : W.Post) (E : W.Env) (w : World) (h : KE_S10 E w R) : W.WP Try.prog 215 C21 (Q4 R) E w := by
  exact fun a ha => W.WP.at (E := []) (W.WP.seq (c := C21) (x := C24) (y := C25) (by kernel_rfl) <| W.WP.reg (c := C24) (fun E w => W.retVC Try.prog Try.f3 E w (fun v => R (.returned v) w)) (by kernel_rfl) (Eq.mp (by kernel_rfl) h) fun _ _ a hA hK => (W.WP.ret (c := C25) (by kernel_rfl) fun a hA => W.retVC_sound hA hK) a hA) ha.nil
abbrev Q5 (R : W.Post) : Exit → Act → World → Prop := (Exit.then (W.LoopWP Try.prog C13 (Q2 R)) (Q2 R))
/-- law.go:78 -/
def S12 (window0 : Int) (l1 e5 m6 : W.Sl) (i7 : Int) (w : World) (R : W.Post) : Prop :=
  L6 window0 l1 e5 m6 (IntKind.wrap .i64 (i7 + 1)) w R
def KE_S12 (E : W.Env) (w : World) (R : W.Post) : Prop := W.asInt .i64 (W.Env.get? E 0) fun window0 => W.asSlice (W.Env.get? E 1) fun l1 => W.asSlice (W.Env.get? E 5) fun e5 => W.asSlice (W.Env.get? E 6) fun m6 => W.asInt .i64 (W.Env.get? E 7) fun i7 => S12 window0 l1 e5 m6 i7 w R
theorem KE_S12_ok (R : W.Post) (E : W.Env) (w : World) (h : KE_S12 E w R) : W.WP Try.prog 215 C22 (Q5 R) E w := by
  obtain ⟨window0, hq0, h1⟩ := W.asInt_elim h
  obtain ⟨l1, hq1, h2⟩ := W.asSlice_elim h1
  obtain ⟨e5, hq5, h3⟩ := W.asSlice_elim h2
  obtain ⟨m6, hq6, h4⟩ := W.asSlice_elim h3
  obtain ⟨i7, hq7, h5⟩ := W.asInt_elim h4
  exact fun a ha => W.WP.at (E := [(0, .int .i64 window0), (1, l1.v), (5, e5.v), (6, m6.v), (7, .int .i64 i7)]) (W.WP.reg (c := C22) (fun E w => KE_L6 E w R) (by kernel_rfl) (Eq.mp (by kernel_rfl) h5) fun _ _ a hA hK => KE_L6_ok R _ _ hK a hA) (ha.cons hq0 (ha.cons hq1 (ha.cons hq5 (ha.cons hq6 (ha.cons hq7 ha.nil)))))
abbrev Q6 (R : W.Post) : Exit → Act → World → Prop := (Exit.inBlock 1 (Q3 R))
/-- law.go:83 -/
def S11 (window0 : Int) (l1 e5 m6 : W.Sl) (i7 : Int) (x8 : Option Addr) (w : World) (R : W.Post) : Prop :=
  let w1 := w.alloc (.cells #[.pointer x8] ty_p_enthymemeref38_End)
  ∃ (t48 : W.Sl) (w2 : World), Sem.run Try.prog (Builtin.append_ #[ty_sl_p_enthymemeref38_End, ty_sl_p_enthymemeref38_End] ty_sl_p_enthymemeref38_End #[m6.v, .slice (some (Addr.mk w.heap.size 0 none)) 1 1]) w1 = .ok (t48.v) w2 ∧ S12 window0 l1 e5 t48 i7 w2 R
def KE_S11 (E : W.Env) (w : World) (R : W.Post) : Prop := W.asInt .i64 (W.Env.get? E 0) fun window0 => W.asSlice (W.Env.get? E 1) fun l1 => W.asSlice (W.Env.get? E 5) fun e5 => W.asSlice (W.Env.get? E 6) fun m6 => W.asInt .i64 (W.Env.get? E 7) fun i7 => W.asPtr (W.Env.get? E 8) fun x8 => S11 window0 l1 e5 m6 i7 x8 w R
theorem KE_S11_ok (R : W.Post) (E : W.Env) (w : World) (h : KE_S11 E w R) : W.WP Try.prog 215 C23 (Q6 R) E w := by
  obtain ⟨window0, hq0, h1⟩ := W.asInt_elim h
  obtain ⟨l1, hq1, h2⟩ := W.asSlice_elim h1
  obtain ⟨e5, hq5, h3⟩ := W.asSlice_elim h2
  obtain ⟨m6, hq6, h4⟩ := W.asSlice_elim h3
  obtain ⟨i7, hq7, h5⟩ := W.asInt_elim h4
  obtain ⟨x8, hq8, h6⟩ := W.asPtr_elim h5
  exact fun a ha => W.WP.at (E := [(0, .int .i64 window0), (1, l1.v), (5, e5.v), (6, m6.v), (7, .int .i64 i7), (8, .pointer x8)]) (W.WP.reg (c := C23) (fun E w => KE_S12 E w R) (by kernel_rfl) (Eq.mp (by kernel_rfl) h6) fun _ _ a hA hK => (KE_S12_ok R _ _ hK) a hA) (ha.cons hq0 (ha.cons hq1 (ha.cons hq5 (ha.cons hq6 (ha.cons hq7 (ha.cons hq8 ha.nil))))))
noncomputable def C26 : Code := W.Code.fst C19
noncomputable def C27 : Code := W.Code.snd C20
/-- law.go:80 -/
def S9 (window0 : Int) (l1 e5 m6 : W.Sl) (i7 : Int) (x8 : Option Addr) (is9 : Bool) (w : World) (R : W.Post) : Prop :=
  W.sel (!is9) (S10  w R) (S11 window0 l1 e5 m6 i7 x8 w R)
def KE_S9 (E : W.Env) (w : World) (R : W.Post) : Prop := W.asInt .i64 (W.Env.get? E 0) fun window0 => W.asSlice (W.Env.get? E 1) fun l1 => W.asSlice (W.Env.get? E 5) fun e5 => W.asSlice (W.Env.get? E 6) fun m6 => W.asInt .i64 (W.Env.get? E 7) fun i7 => W.asPtr (W.Env.get? E 8) fun x8 => W.asBool' (W.Env.get? E 9) fun is9 => S9 window0 l1 e5 m6 i7 x8 is9 w R
theorem KE_S9_ok (R : W.Post) (E : W.Env) (w : World) (h : KE_S9 E w R) : W.WP Try.prog 215 C19 (Q4 R) E w := by
  obtain ⟨window0, hq0, h1⟩ := W.asInt_elim h
  obtain ⟨l1, hq1, h2⟩ := W.asSlice_elim h1
  obtain ⟨e5, hq5, h3⟩ := W.asSlice_elim h2
  obtain ⟨m6, hq6, h4⟩ := W.asSlice_elim h3
  obtain ⟨i7, hq7, h5⟩ := W.asInt_elim h4
  obtain ⟨x8, hq8, h6⟩ := W.asPtr_elim h5
  obtain ⟨is9, hq9, h7⟩ := W.asBool_elim h6
  exact fun a ha => W.WP.at (E := [(0, .int .i64 window0), (1, l1.v), (5, e5.v), (6, m6.v), (7, .int .i64 i7), (8, .pointer x8), (9, .bool is9)]) (W.WP.seq (c := C19) (x := C26) (y := C20) (by kernel_rfl) <| W.WP.reg (c := C26) (fun E w => W.condK (W.Env.val E (.tmp 44)) (KE_S10 E w R) (KE_S11 E w R)) (by kernel_rfl) (Eq.mp (by kernel_rfl) h7) fun _ _ a hA hK => (W.WP.condK (c := C20) (x := C21) (y := C27) (o := .tmp 44) (by kernel_rfl) (fun hK => (KE_S10_ok R _ _ hK)) (fun hK => (W.WP.skip (c := C27) (by kernel_rfl) fun a hA => (KE_S11_ok R _ _ hK) a hA)) hK) a hA) (ha.cons hq0 (ha.cons hq1 (ha.cons hq5 (ha.cons hq6 (ha.cons hq7 (ha.cons hq8 (ha.cons hq9 ha.nil)))))))
noncomputable def C28 : Code := W.Code.fst C17
/-- law.go:79 -/
def S8 (window0 : Int) (l1 e5 m6 : W.Sl) (i7 : Int) (w : World) (R : W.Post) : Prop :=
  let w1 := w.alloc (.cells #[.int .i64 window0, .int .i64 (IntKind.wrap .i64 (Int.tdiv window0 16))] ty_int)
  (0 : Int) ≤ i7 ∧ i7 < ((2 : Nat) : Int) ∧ W.optP (some (Addr.mk w.heap.size 0 none)) fun t36_p => ∃ t37 : Int, w1.cell? (t36_p.add (Int.toNat i7 * 1)) = some (.int .i64 t37) ∧ 
  Calls Try.prog n_enthymemeref01_Around #[.int .i64 t37, .int .i64 16] w1 fun r_ w2 => ∃ t38 : Int, r_ = .returned (.int .i64 t38) ∧ 
  Calls Try.prog n_enthymemeref38_New #[.int .i64 (IntKind.wrap .i64 (1 + t38))] w2 fun r_ w3 => ∃ t40_0 : Option Addr, ∃ t40_1 : Bool, r_ = .returned (.tuple #[.pointer t40_0, .bool t40_1]) ∧ 
  S9 window0 l1 e5 m6 i7 t40_0 t40_1 w3 R
def KE_S8 (E : W.Env) (w : World) (R : W.Post) : Prop := W.asInt .i64 (W.Env.get? E 0) fun window0 => W.asSlice (W.Env.get? E 1) fun l1 => W.asSlice (W.Env.get? E 5) fun e5 => W.asSlice (W.Env.get? E 6) fun m6 => W.asInt .i64 (W.Env.get? E 7) fun i7 => S8 window0 l1 e5 m6 i7 w R
theorem KE_S8_ok (R : W.Post) (E : W.Env) (w : World) (h : KE_S8 E w R) : W.WP Try.prog 215 C17 (Q6 R) E w := by
  obtain ⟨window0, hq0, h1⟩ := W.asInt_elim h
  obtain ⟨l1, hq1, h2⟩ := W.asSlice_elim h1
  obtain ⟨e5, hq5, h3⟩ := W.asSlice_elim h2
  obtain ⟨m6, hq6, h4⟩ := W.asSlice_elim h3
  obtain ⟨i7, hq7, h5⟩ := W.asInt_elim h4
  exact fun a ha => W.WP.at (E := [(0, .int .i64 window0), (1, l1.v), (5, e5.v), (6, m6.v), (7, .int .i64 i7)]) (W.WP.seq (c := C17) (x := C28) (y := C18) (by kernel_rfl) <| W.WP.reg (c := C28) (fun E w => KE_S9 E w R) (by kernel_rfl) (Eq.mp (by kernel_rfl) h5) fun _ _ a hA hK => (W.WP.seq (c := C18) (x := C19) (y := C23) (by kernel_rfl) (KE_S9_ok R _ _ hK)) a hA) (ha.cons hq0 (ha.cons hq1 (ha.cons hq5 (ha.cons hq6 (ha.cons hq7 ha.nil)))))
noncomputable def C29 : Code := W.Code.snd C14
noncomputable def C30 : Code := W.Code.snd C29
noncomputable def C31 : Code := W.Code.fst C30
noncomputable def C32 : Code := W.Code.snd C31
noncomputable def C33 : Code := W.Code.fst C32
noncomputable def C34 : Code := W.Code.fst C33
noncomputable def C35 : Code := W.Code.snd C30
abbrev Q7 (R : W.Post) : Exit → Act → World → Prop := (Exit.then (Code.wp Try.prog C35 (bodyPost Try.prog Try.f3 R)) (bodyPost Try.prog Try.f3 R))
abbrev Q8 (R : W.Post) : Exit → Act → World → Prop := (Exit.inBlock 2 (Q7 R))
/-- the head of the loop, law.go:87 -/
def L16 (l1 e5 m6 link10 to11 : W.Sl) (i12 : Int) (w : World) (R : W.Post) : Prop := W.LP Try.prog 215 C34 (Q8 R) [(1, l1.v), (5, e5.v), (6, m6.v), (10, link10.v), (11, to11.v), (12, .int .i64 i12)] w
def KE_L16 (E : W.Env) (w : World) (R : W.Post) : Prop := W.asSlice (W.Env.get? E 1) fun l1 => W.asSlice (W.Env.get? E 5) fun e5 => W.asSlice (W.Env.get? E 6) fun m6 => W.asSlice (W.Env.get? E 10) fun link10 => W.asSlice (W.Env.get? E 11) fun to11 => W.asInt .i64 (W.Env.get? E 12) fun i12 => L16 l1 e5 m6 link10 to11 i12 w R
theorem KE_L16_ok (R : W.Post) (E : W.Env) (w : World) (h : KE_L16 E w R) : W.LP Try.prog 215 C34 (Q8 R) E w := by
  obtain ⟨l1, hq1, h1⟩ := W.asSlice_elim h
  obtain ⟨e5, hq5, h2⟩ := W.asSlice_elim h1
  obtain ⟨m6, hq6, h3⟩ := W.asSlice_elim h2
  obtain ⟨link10, hq10, h4⟩ := W.asSlice_elim h3
  obtain ⟨to11, hq11, h5⟩ := W.asSlice_elim h4
  obtain ⟨i12, hq12, h6⟩ := W.asInt_elim h5
  intro a ha
  exact h6 a (ha.cons hq1 (ha.cons hq5 (ha.cons hq6 (ha.cons hq10 (ha.cons hq11 (ha.cons hq12 ha.nil))))))
noncomputable def C36 : Code := W.Code.snd C34
noncomputable def C37 : Code := W.Code.fst C36
noncomputable def C38 : Code := W.Code.fst C37
noncomputable def C39 : Code := W.Code.snd C38
noncomputable def C40 : Code := W.Code.snd C39
noncomputable def C41 : Code := W.Code.fst C40
noncomputable def C42 : Code := W.Code.snd C41
noncomputable def C43 : Code := W.Code.fst C42
noncomputable def C44 : Code := W.Code.snd C43
noncomputable def C45 : Code := W.Code.fst C44
noncomputable def C46 : Code := W.Code.snd C45
noncomputable def C47 : Code := W.Code.snd C46
noncomputable def C48 : Code := W.Code.fst C47
noncomputable def C49 : Code := W.Code.snd C36
abbrev Q9 (R : W.Post) : Exit → Act → World → Prop := (Exit.then (Code.wp Try.prog C49 (Exit.then (W.LoopWP Try.prog C34 (Q8 R)) (Q8 R))) (Exit.then (W.LoopWP Try.prog C34 (Q8 R)) (Q8 R)))
noncomputable def C50 : Code := W.Code.snd C40
abbrev Q10 (R : W.Post) : Exit → Act → World → Prop := (Exit.then (Code.wp Try.prog C50 (Exit.inBlock 3 (Q9 R))) (Exit.inBlock 3 (Q9 R)))
abbrev Q11 (R : W.Post) : Exit → Act → World → Prop := (Exit.inBlock 4 (Q10 R))
noncomputable def C51 : Code := W.Code.fst C48
noncomputable def C52 : Code := W.Code.snd C48
/-- law.go:94 -/
def S24  (w : World) (R : W.Post) : Prop :=
  R (.returned (.bool false)) w
def KE_S24 (E : W.Env) (w : World) (R : W.Post) : Prop := S24  w R
theorem KE_S24_ok (R : W.Post) (E : W.Env) (w : World) (h : KE_S24 E w R) : W.WP Try.prog 215 C48 (Q11 R) E w := by
  exact fun a ha => W.WP.at (E := []) (W.WP.seq (c := C48) (x := C51) (y := C52) (by kernel_rfl) <| W.WP.reg (c := C51) (fun E w => W.retVC Try.prog Try.f3 E w (fun v => R (.returned v) w)) (by kernel_rfl) (Eq.mp (by kernel_rfl) h) fun _ _ a hA hK => (W.WP.ret (c := C52) (by kernel_rfl) fun a hA => W.retVC_sound hA hK) a hA) ha.nil
noncomputable def C53 : Code := W.Code.snd C50
noncomputable def C54 : Code := W.Code.fst C53
noncomputable def C55 : Code := W.Code.fst C54
abbrev Q12 (R : W.Post) : Exit → Act → World → Prop := (Exit.inBlock 3 (Q9 R))
abbrev Q13 (R : W.Post) : Exit → Act → World → Prop := (Exit.inBlock 7 (Q12 R))
/-- the head of the loop, law.go:125 -/
def L26 (l1 e5 m6 link10 to11 : W.Sl) (i12 j21 : Int) (w : World) (R : W.Post) : Prop := W.LP Try.prog 215 C55 (Q13 R) [(1, l1.v), (5, e5.v), (6, m6.v), (10, link10.v), (11, to11.v), (12, .int .i64 i12), (21, .int .i64 j21)] w
def KE_L26 (E : W.Env) (w : World) (R : W.Post) : Prop := W.asSlice (W.Env.get? E 1) fun l1 => W.asSlice (W.Env.get? E 5) fun e5 => W.asSlice (W.Env.get? E 6) fun m6 => W.asSlice (W.Env.get? E 10) fun link10 => W.asSlice (W.Env.get? E 11) fun to11 => W.asInt .i64 (W.Env.get? E 12) fun i12 => W.asInt .i64 (W.Env.get? E 21) fun j21 => L26 l1 e5 m6 link10 to11 i12 j21 w R
theorem KE_L26_ok (R : W.Post) (E : W.Env) (w : World) (h : KE_L26 E w R) : W.LP Try.prog 215 C55 (Q13 R) E w := by
  obtain ⟨l1, hq1, h1⟩ := W.asSlice_elim h
  obtain ⟨e5, hq5, h2⟩ := W.asSlice_elim h1
  obtain ⟨m6, hq6, h3⟩ := W.asSlice_elim h2
  obtain ⟨link10, hq10, h4⟩ := W.asSlice_elim h3
  obtain ⟨to11, hq11, h5⟩ := W.asSlice_elim h4
  obtain ⟨i12, hq12, h6⟩ := W.asInt_elim h5
  obtain ⟨j21, hq21, h7⟩ := W.asInt_elim h6
  intro a ha
  exact h7 a (ha.cons hq1 (ha.cons hq5 (ha.cons hq6 (ha.cons hq10 (ha.cons hq11 (ha.cons hq12 (ha.cons hq21 ha.nil)))))))
noncomputable def C56 : Code := W.Code.snd C55
noncomputable def C57 : Code := W.Code.fst C56
noncomputable def C58 : Code := W.Code.fst C57
noncomputable def C59 : Code := W.Code.snd C58
noncomputable def C60 : Code := W.Code.fst C59
noncomputable def C61 : Code := W.Code.snd C56
abbrev Q14 (R : W.Post) : Exit → Act → World → Prop := (Exit.then (Code.wp Try.prog C61 (Exit.then (W.LoopWP Try.prog C55 (Q13 R)) (Q13 R))) (Exit.then (W.LoopWP Try.prog C55 (Q13 R)) (Q13 R)))
abbrev Q15 (R : W.Post) : Exit → Act → World → Prop := (Exit.inBlock 8 (Q14 R))
noncomputable def C62 : Code := W.Code.fst C60
noncomputable def C63 : Code := W.Code.snd C60
/-- law.go:127 -/
def S29  (w : World) (R : W.Post) : Prop :=
  R (.returned (.bool false)) w
def KE_S29 (E : W.Env) (w : World) (R : W.Post) : Prop := S29  w R
theorem KE_S29_ok (R : W.Post) (E : W.Env) (w : World) (h : KE_S29 E w R) : W.WP Try.prog 215 C60 (Q15 R) E w := by
  exact fun a ha => W.WP.at (E := []) (W.WP.seq (c := C60) (x := C62) (y := C63) (by kernel_rfl) <| W.WP.reg (c := C62) (fun E w => W.retVC Try.prog Try.f3 E w (fun v => R (.returned v) w)) (by kernel_rfl) (Eq.mp (by kernel_rfl) h) fun _ _ a hA hK => (W.WP.ret (c := C63) (by kernel_rfl) fun a hA => W.retVC_sound hA hK) a hA) ha.nil
abbrev Q16 (R : W.Post) : Exit → Act → World → Prop := (Exit.then (W.LoopWP Try.prog C55 (Q13 R)) (Q13 R))
/-- law.go:125 -/
def S30 (l1 e5 m6 link10 to11 : W.Sl) (i12 j21 : Int) (w : World) (R : W.Post) : Prop :=
  L26 l1 e5 m6 link10 to11 i12 (IntKind.wrap .i64 (j21 + 1)) w R
def KE_S30 (E : W.Env) (w : World) (R : W.Post) : Prop := W.asSlice (W.Env.get? E 1) fun l1 => W.asSlice (W.Env.get? E 5) fun e5 => W.asSlice (W.Env.get? E 6) fun m6 => W.asSlice (W.Env.get? E 10) fun link10 => W.asSlice (W.Env.get? E 11) fun to11 => W.asInt .i64 (W.Env.get? E 12) fun i12 => W.asInt .i64 (W.Env.get? E 21) fun j21 => S30 l1 e5 m6 link10 to11 i12 j21 w R
theorem KE_S30_ok (R : W.Post) (E : W.Env) (w : World) (h : KE_S30 E w R) : W.WP Try.prog 215 C61 (Q16 R) E w := by
  obtain ⟨l1, hq1, h1⟩ := W.asSlice_elim h
  obtain ⟨e5, hq5, h2⟩ := W.asSlice_elim h1
  obtain ⟨m6, hq6, h3⟩ := W.asSlice_elim h2
  obtain ⟨link10, hq10, h4⟩ := W.asSlice_elim h3
  obtain ⟨to11, hq11, h5⟩ := W.asSlice_elim h4
  obtain ⟨i12, hq12, h6⟩ := W.asInt_elim h5
  obtain ⟨j21, hq21, h7⟩ := W.asInt_elim h6
  exact fun a ha => W.WP.at (E := [(1, l1.v), (5, e5.v), (6, m6.v), (10, link10.v), (11, to11.v), (12, .int .i64 i12), (21, .int .i64 j21)]) (W.WP.reg (c := C61) (fun E w => KE_L26 E w R) (by kernel_rfl) (Eq.mp (by kernel_rfl) h7) fun _ _ a hA hK => KE_L26_ok R _ _ hK a hA) (ha.cons hq1 (ha.cons hq5 (ha.cons hq6 (ha.cons hq10 (ha.cons hq11 (ha.cons hq12 (ha.cons hq21 ha.nil)))))))
noncomputable def C64 : Code := W.Code.fst C58
noncomputable def C65 : Code := W.Code.snd C59
/-- law.go:126 -/
def S28 (l1 e5 m6 link10 to11 : W.Sl) (i12 j21 : Int) (w : World) (R : W.Post) : Prop :=
  (0 : Int) ≤ j21 ∧ j21 < ((e5.n : Nat) : Int) ∧ W.optP e5.a fun t194_p => ∃ t195 : Option Addr, w.drew.cell? (t194_p.add (Int.toNat j21 * 1)) = some (.pointer t195) ∧ 
  (0 : Int) ≤ j21 ∧ j21 < ((m6.n : Nat) : Int) ∧ W.optP m6.a fun t199_p => ∃ t200 : Option Addr, w.drew.cell? (t199_p.add (Int.toNat j21 * 1)) = some (.pointer t200) ∧ 
  W.optP t200 fun t201_p => ∃ t203 : W.Sl, w.drew.cell? (t201_p.add 1) = some (t203.v) ∧ 
  (0 : Int) ≤ j21 ∧ j21 < ((m6.n : Nat) : Int) ∧ W.optP m6.a fun t207_p => ∃ t208 : Option Addr, w.drew.cell? (t207_p.add (Int.toNat j21 * 1)) = some (.pointer t208) ∧ 
  W.optP t208 fun t209_p => ∃ t211 : Int, w.drew.cell? (t209_p.add 2) = some (.int .i64 t211) ∧ 
  Calls Try.prog n_channel_End_Waiting #[.pointer t195] w.drew fun r_ w1 => ∃ t196 : Int, r_ = .returned (.int .i64 t196) ∧ 
  w1.cell? (t209_p.add 2) = some (.int .i64 t211) ∧ w1.cell? (t207_p.add (Int.toNat j21 * 1)) = some (.pointer t208) ∧ w1.cell? (t201_p.add 1) = some (t203.v) ∧ w1.cell? (t199_p.add (Int.toNat j21 * 1)) = some (.pointer t200) ∧ W.sel (t196 != (IntKind.wrap .i64 (((t203.n : Nat) : Int) - t211))) (S29  w1 R) (S30 l1 e5 m6 link10 to11 i12 j21 w1 R)
def KE_S28 (E : W.Env) (w : World) (R : W.Post) : Prop := W.asSlice (W.Env.get? E 1) fun l1 => W.asSlice (W.Env.get? E 5) fun e5 => W.asSlice (W.Env.get? E 6) fun m6 => W.asSlice (W.Env.get? E 10) fun link10 => W.asSlice (W.Env.get? E 11) fun to11 => W.asInt .i64 (W.Env.get? E 12) fun i12 => W.asInt .i64 (W.Env.get? E 21) fun j21 => S28 l1 e5 m6 link10 to11 i12 j21 w R
theorem KE_S28_ok (R : W.Post) (E : W.Env) (w : World) (h : KE_S28 E w R) : W.WP Try.prog 215 C58 (Q15 R) E w := by
  obtain ⟨l1, hq1, h1⟩ := W.asSlice_elim h
  obtain ⟨e5, hq5, h2⟩ := W.asSlice_elim h1
  obtain ⟨m6, hq6, h3⟩ := W.asSlice_elim h2
  obtain ⟨link10, hq10, h4⟩ := W.asSlice_elim h3
  obtain ⟨to11, hq11, h5⟩ := W.asSlice_elim h4
  obtain ⟨i12, hq12, h6⟩ := W.asInt_elim h5
  obtain ⟨j21, hq21, h7⟩ := W.asInt_elim h6
  exact fun a ha => W.WP.at (E := [(1, l1.v), (5, e5.v), (6, m6.v), (10, link10.v), (11, to11.v), (12, .int .i64 i12), (21, .int .i64 j21)]) (W.WP.seq (c := C58) (x := C64) (y := C59) (by kernel_rfl) <| W.WP.draw (c := C64) [0, 1, 2, 3, 5, 6, 7, 8, 9, 10, 11, 12, 13, 14, 15, 16, 17, 18, 19, 20, 4, 21] (fun E w => W.condK (W.Env.val E (.tmp 213)) (KE_S29 E w R) (KE_S30 E w R)) (by kernel_rfl) (Eq.mp (by kernel_rfl) h7) fun _ _ a hA hK => (W.WP.condK (c := C59) (x := C60) (y := C65) (o := .tmp 213) (by kernel_rfl) (fun hK => (KE_S29_ok R _ _ hK)) (fun hK => (W.WP.skip (c := C65) (by kernel_rfl) fun a hA => (KE_S30_ok R _ _ hK) a hA)) hK) a hA) (ha.cons hq1 (ha.cons hq5 (ha.cons hq6 (ha.cons hq10 (ha.cons hq11 (ha.cons hq12 (ha.cons hq21 ha.nil)))))))
abbrev Q17 (R : W.Post) : Exit → Act → World → Prop := (Exit.then (W.LoopWP Try.prog C34 (Q8 R)) (Q8 R))
/-- law.go:87 -/
def S31 (l1 e5 m6 link10 to11 : W.Sl) (i12 : Int) (w : World) (R : W.Post) : Prop :=
  L16 l1 e5 m6 link10 to11 (IntKind.wrap .i64 (i12 + 1)) w R
def KE_S31 (E : W.Env) (w : World) (R : W.Post) : Prop := W.asSlice (W.Env.get? E 1) fun l1 => W.asSlice (W.Env.get? E 5) fun e5 => W.asSlice (W.Env.get? E 6) fun m6 => W.asSlice (W.Env.get? E 10) fun link10 => W.asSlice (W.Env.get? E 11) fun to11 => W.asInt .i64 (W.Env.get? E 12) fun i12 => S31 l1 e5 m6 link10 to11 i12 w R
theorem KE_S31_ok (R : W.Post) (E : W.Env) (w : World) (h : KE_S31 E w R) : W.WP Try.prog 215 C49 (Q17 R) E w := by
  obtain ⟨l1, hq1, h1⟩ := W.asSlice_elim h
  obtain ⟨e5, hq5, h2⟩ := W.asSlice_elim h1
  obtain ⟨m6, hq6, h3⟩ := W.asSlice_elim h2
  obtain ⟨link10, hq10, h4⟩ := W.asSlice_elim h3
  obtain ⟨to11, hq11, h5⟩ := W.asSlice_elim h4
  obtain ⟨i12, hq12, h6⟩ := W.asInt_elim h5
  exact fun a ha => W.WP.at (E := [(1, l1.v), (5, e5.v), (6, m6.v), (10, link10.v), (11, to11.v), (12, .int .i64 i12)]) (W.WP.reg (c := C49) (fun E w => KE_L16 E w R) (by kernel_rfl) (Eq.mp (by kernel_rfl) h6) fun _ _ a hA hK => KE_L16_ok R _ _ hK a hA) (ha.cons hq1 (ha.cons hq5 (ha.cons hq6 (ha.cons hq10 (ha.cons hq11 (ha.cons hq12 ha.nil))))))
noncomputable def C66 : Code := W.Code.fst C55
abbrev Q18 (R : W.Post) : Exit → Act → World → Prop := (Exit.then (Code.wp Try.prog C56 (Exit.then (W.LoopWP Try.prog C55 (Q13 R)) (Q13 R))) (Exit.then (W.LoopWP Try.prog C55 (Q13 R)) (Q13 R)))
noncomputable def C67 : Code := W.Code.fst C66
noncomputable def C68 : Code := W.Code.snd C66
noncomputable def C69 : Code := W.Code.fst C68
noncomputable def C70 : Code := W.Code.snd C68
/-- law.go:125 -/
def S27 (l1 e5 m6 link10 to11 : W.Sl) (i12 j21 : Int) (w : World) (R : W.Post) : Prop :=
  W.sel (decide (j21 < 2)) (S28 l1 e5 m6 link10 to11 i12 j21 w R) (S31 l1 e5 m6 link10 to11 i12 w R)
def KE_S27 (E : W.Env) (w : World) (R : W.Post) : Prop := W.asSlice (W.Env.get? E 1) fun l1 => W.asSlice (W.Env.get? E 5) fun e5 => W.asSlice (W.Env.get? E 6) fun m6 => W.asSlice (W.Env.get? E 10) fun link10 => W.asSlice (W.Env.get? E 11) fun to11 => W.asInt .i64 (W.Env.get? E 12) fun i12 => W.asInt .i64 (W.Env.get? E 21) fun j21 => S27 l1 e5 m6 link10 to11 i12 j21 w R
theorem KE_S27_ok (R : W.Post) (E : W.Env) (w : World) (h : KE_S27 E w R) : W.WP Try.prog 215 C66 (Q18 R) E w := by
  obtain ⟨l1, hq1, h1⟩ := W.asSlice_elim h
  obtain ⟨e5, hq5, h2⟩ := W.asSlice_elim h1
  obtain ⟨m6, hq6, h3⟩ := W.asSlice_elim h2
  obtain ⟨link10, hq10, h4⟩ := W.asSlice_elim h3
  obtain ⟨to11, hq11, h5⟩ := W.asSlice_elim h4
  obtain ⟨i12, hq12, h6⟩ := W.asInt_elim h5
  obtain ⟨j21, hq21, h7⟩ := W.asInt_elim h6
  exact fun a ha => W.WP.at (E := [(1, l1.v), (5, e5.v), (6, m6.v), (10, link10.v), (11, to11.v), (12, .int .i64 i12), (21, .int .i64 j21)]) (W.WP.seq (c := C66) (x := C67) (y := C68) (by kernel_rfl) <| W.WP.reg (c := C67) (fun E w => W.condK (W.Env.val E (.tmp 189)) (KE_S28 E w R) (KE_S31 E w R)) (by kernel_rfl) (Eq.mp (by kernel_rfl) h7) fun _ _ a hA hK => (W.WP.condK (c := C68) (x := C69) (y := C70) (o := .tmp 189) (by kernel_rfl) (fun hK => (W.WP.skip (c := C69) (by kernel_rfl) fun a hA => (W.WP.seq (c := C56) (x := C57) (y := C61) (by kernel_rfl) (W.WP.block (c := C57) (x := C58) (id := 8) (by kernel_rfl) (KE_S28_ok R _ _ hK))) a hA)) (fun hK => (W.WP.exit (c := C70) (id := 7) (by kernel_rfl) fun a hA => (KE_S31_ok R _ _ hK) a hA)) hK) a hA) (ha.cons hq1 (ha.cons hq5 (ha.cons hq6 (ha.cons hq10 (ha.cons hq11 (ha.cons hq12 (ha.cons hq21 ha.nil)))))))
theorem L26_step (l1 e5 m6 link10 to11 : W.Sl) (i12 j21 : Int) (w : World) (R : W.Post) (h : S27 l1 e5 m6 link10 to11 i12 j21 w R) : L26 l1 e5 m6 link10 to11 i12 j21 w R :=
  W.LP.step (c := C55) (E := [(1, l1.v), (5, e5.v), (6, m6.v), (10, link10.v), (11, to11.v), (12, .int .i64 i12), (21, .int .i64 j21)]) (w := w) (W.WP.seq (c := C55) (x := C66) (y := C56) (by kernel_rfl) (KE_S27_ok R _ _ (Eq.mp (by kernel_rfl) h)))
noncomputable def C71 : Code := W.Code.fst C50
/-- law.go:125 -/
def S25 (l1 e5 m6 link10 to11 : W.Sl) (i12 : Int) (w : World) (R : W.Post) : Prop :=
  L26 l1 e5 m6 link10 to11 i12 0 w R
def KE_S25 (E : W.Env) (w : World) (R : W.Post) : Prop := W.asSlice (W.Env.get? E 1) fun l1 => W.asSlice (W.Env.get? E 5) fun e5 => W.asSlice (W.Env.get? E 6) fun m6 => W.asSlice (W.Env.get? E 10) fun link10 => W.asSlice (W.Env.get? E 11) fun to11 => W.asInt .i64 (W.Env.get? E 12) fun i12 => S25 l1 e5 m6 link10 to11 i12 w R
theorem KE_S25_ok (R : W.Post) (E : W.Env) (w : World) (h : KE_S25 E w R) : W.WP Try.prog 215 C50 (Q12 R) E w := by
  obtain ⟨l1, hq1, h1⟩ := W.asSlice_elim h
  obtain ⟨e5, hq5, h2⟩ := W.asSlice_elim h1
  obtain ⟨m6, hq6, h3⟩ := W.asSlice_elim h2
  obtain ⟨link10, hq10, h4⟩ := W.asSlice_elim h3
  obtain ⟨to11, hq11, h5⟩ := W.asSlice_elim h4
  obtain ⟨i12, hq12, h6⟩ := W.asInt_elim h5
  exact fun a ha => W.WP.at (E := [(1, l1.v), (5, e5.v), (6, m6.v), (10, link10.v), (11, to11.v), (12, .int .i64 i12)]) (W.WP.seq (c := C50) (x := C71) (y := C53) (by kernel_rfl) <| W.WP.reg (c := C71) (fun E w => KE_L26 E w R) (by kernel_rfl) (Eq.mp (by kernel_rfl) h6) fun _ _ a hA hK => (W.WP.block (c := C53) (x := C54) (id := 7) (by kernel_rfl) (W.WP.loop (c := C54) (x := C55) (by kernel_rfl) (KE_L26_ok R _ _ hK))) a hA) (ha.cons hq1 (ha.cons hq5 (ha.cons hq6 (ha.cons hq10 (ha.cons hq11 (ha.cons hq12 ha.nil))))))
noncomputable def C72 : Code := W.Code.fst C46
noncomputable def C73 : Code := W.Code.snd C47
/-- law.go:93 -/
def S23 (l1 e5 m6 link10 to11 : W.Sl) (i12 k14 : Int) (b15 : W.Sl) (w : World) (R : W.Post) : Prop :=
  (0 : Int) ≤ k14 ∧ k14 < ((e5.n : Nat) : Int) ∧ W.optP e5.a fun t142_p => ∃ t143 : Option Addr, w.drew.cell? (t142_p.add (Int.toNat k14 * 1)) = some (.pointer t143) ∧ 
  (0 : Int) ≤ k14 ∧ k14 < ((m6.n : Nat) : Int) ∧ W.optP m6.a fun t148_p => ∃ t149 : Option Addr, w.drew.cell? (t148_p.add (Int.toNat k14 * 1)) = some (.pointer t149) ∧ 
  Calls Try.prog n_channel_End_Send #[.pointer t143, b15.v] w.drew fun r_ w1 => ∃ t145 : Int, r_ = .returned (.int .i64 t145) ∧ 
  w1.cell? (t148_p.add (Int.toNat k14 * 1)) = some (.pointer t149) ∧ Calls Try.prog n_enthymemeref38_End_Send #[.pointer t149, b15.v] w1 fun r_ w2 => ∃ t151 : Int, r_ = .returned (.int .i64 t151) ∧ 
  W.sel (t145 != t151) (S24  w2 R) (S25 l1 e5 m6 link10 to11 i12 w2 R)
def KE_S23 (E : W.Env) (w : World) (R : W.Post) : Prop := W.asSlice (W.Env.get? E 1) fun l1 => W.asSlice (W.Env.get? E 5) fun e5 => W.asSlice (W.Env.get? E 6) fun m6 => W.asSlice (W.Env.get? E 10) fun link10 => W.asSlice (W.Env.get? E 11) fun to11 => W.asInt .i64 (W.Env.get? E 12) fun i12 => W.asInt .i64 (W.Env.get? E 14) fun k14 => W.asSlice (W.Env.get? E 15) fun b15 => S23 l1 e5 m6 link10 to11 i12 k14 b15 w R
theorem KE_S23_ok (R : W.Post) (E : W.Env) (w : World) (h : KE_S23 E w R) : W.WP Try.prog 215 C46 (Q11 R) E w := by
  obtain ⟨l1, hq1, h1⟩ := W.asSlice_elim h
  obtain ⟨e5, hq5, h2⟩ := W.asSlice_elim h1
  obtain ⟨m6, hq6, h3⟩ := W.asSlice_elim h2
  obtain ⟨link10, hq10, h4⟩ := W.asSlice_elim h3
  obtain ⟨to11, hq11, h5⟩ := W.asSlice_elim h4
  obtain ⟨i12, hq12, h6⟩ := W.asInt_elim h5
  obtain ⟨k14, hq14, h7⟩ := W.asInt_elim h6
  obtain ⟨b15, hq15, h8⟩ := W.asSlice_elim h7
  exact fun a ha => W.WP.at (E := [(1, l1.v), (5, e5.v), (6, m6.v), (10, link10.v), (11, to11.v), (12, .int .i64 i12), (14, .int .i64 k14), (15, b15.v)]) (W.WP.seq (c := C46) (x := C72) (y := C47) (by kernel_rfl) <| W.WP.draw (c := C72) [0, 1, 2, 3, 4, 6, 7, 8, 9, 10, 5, 11, 12] (fun E w => W.condK (W.Env.val E (.tmp 152)) (KE_S24 E w R) (KE_S25 E w R)) (by kernel_rfl) (Eq.mp (by kernel_rfl) h8) fun _ _ a hA hK => (W.WP.condK (c := C47) (x := C48) (y := C73) (o := .tmp 152) (by kernel_rfl) (fun hK => (KE_S24_ok R _ _ hK)) (fun hK => (W.WP.skip (c := C73) (by kernel_rfl) fun a hA => (KE_S25_ok R _ _ hK) a hA)) hK) a hA) (ha.cons hq1 (ha.cons hq5 (ha.cons hq6 (ha.cons hq10 (ha.cons hq11 (ha.cons hq12 (ha.cons hq14 (ha.cons hq15 ha.nil))))))))
noncomputable def C74 : Code := W.Code.fst C45
/-- law.go:92 -/
def S22 (l1 e5 m6 link10 to11 : W.Sl) (i12 n13 k14 : Int) (w : World) (R : W.Post) : Prop :=
  let w1 := w.alloc (.cells #[.int .u8 (IntKind.wrap .u8 i12), .int .u8 (IntKind.wrap .u8 n13)] ty_uint8)
  S23 l1 e5 m6 link10 to11 i12 k14 ⟨some (Addr.mk w.heap.size 0 none), 2, 2⟩ w1 R
def KE_S22 (E : W.Env) (w : World) (R : W.Post) : Prop := W.asSlice (W.Env.get? E 1) fun l1 => W.asSlice (W.Env.get? E 5) fun e5 => W.asSlice (W.Env.get? E 6) fun m6 => W.asSlice (W.Env.get? E 10) fun link10 => W.asSlice (W.Env.get? E 11) fun to11 => W.asInt .i64 (W.Env.get? E 12) fun i12 => W.asInt .i64 (W.Env.get? E 13) fun n13 => W.asInt .i64 (W.Env.get? E 14) fun k14 => S22 l1 e5 m6 link10 to11 i12 n13 k14 w R
theorem KE_S22_ok (R : W.Post) (E : W.Env) (w : World) (h : KE_S22 E w R) : W.WP Try.prog 215 C45 (Q11 R) E w := by
  obtain ⟨l1, hq1, h1⟩ := W.asSlice_elim h
  obtain ⟨e5, hq5, h2⟩ := W.asSlice_elim h1
  obtain ⟨m6, hq6, h3⟩ := W.asSlice_elim h2
  obtain ⟨link10, hq10, h4⟩ := W.asSlice_elim h3
  obtain ⟨to11, hq11, h5⟩ := W.asSlice_elim h4
  obtain ⟨i12, hq12, h6⟩ := W.asInt_elim h5
  obtain ⟨n13, hq13, h7⟩ := W.asInt_elim h6
  obtain ⟨k14, hq14, h8⟩ := W.asInt_elim h7
  exact fun a ha => W.WP.at (E := [(1, l1.v), (5, e5.v), (6, m6.v), (10, link10.v), (11, to11.v), (12, .int .i64 i12), (13, .int .i64 n13), (14, .int .i64 k14)]) (W.WP.seq (c := C45) (x := C74) (y := C46) (by kernel_rfl) <| W.WP.reg (c := C74) (fun E w => KE_S23 E w R) (by kernel_rfl) (Eq.mp (by kernel_rfl) h8) fun _ _ a hA hK => (KE_S23_ok R _ _ hK) a hA) (ha.cons hq1 (ha.cons hq5 (ha.cons hq6 (ha.cons hq10 (ha.cons hq11 (ha.cons hq12 (ha.cons hq13 (ha.cons hq14 ha.nil))))))))
noncomputable def C75 : Code := W.Code.snd C44
noncomputable def C76 : Code := W.Code.snd C75
noncomputable def C77 : Code := W.Code.fst C76
noncomputable def C78 : Code := W.Code.snd C77
noncomputable def C79 : Code := W.Code.snd C78
noncomputable def C80 : Code := W.Code.fst C79
noncomputable def C81 : Code := W.Code.snd C80
noncomputable def C82 : Code := W.Code.fst C81
noncomputable def C83 : Code := W.Code.snd C79
abbrev Q19 (R : W.Post) : Exit → Act → World → Prop := (Exit.then (Code.wp Try.prog C83 (Exit.inBlock 4 (Q10 R))) (Exit.inBlock 4 (Q10 R)))
noncomputable def C84 : Code := W.Code.fst C82
noncomputable def C85 : Code := W.Code.snd C82
/-- law.go:100 -/
def S36  (w : World) (R : W.Post) : Prop :=
  R (.returned (.bool false)) w
def KE_S36 (E : W.Env) (w : World) (R : W.Post) : Prop := S36  w R
theorem KE_S36_ok (R : W.Post) (E : W.Env) (w : World) (h : KE_S36 E w R) : W.WP Try.prog 215 C82 (Q19 R) E w := by
  exact fun a ha => W.WP.at (E := []) (W.WP.seq (c := C82) (x := C84) (y := C85) (by kernel_rfl) <| W.WP.reg (c := C84) (fun E w => W.retVC Try.prog Try.f3 E w (fun v => R (.returned v) w)) (by kernel_rfl) (Eq.mp (by kernel_rfl) h) fun _ _ a hA hK => (W.WP.ret (c := C85) (by kernel_rfl) fun a hA => W.retVC_sound hA hK) a hA) ha.nil
noncomputable def C86 : Code := W.Code.snd C83
noncomputable def C87 : Code := W.Code.fst C86
noncomputable def C88 : Code := W.Code.fst C87
abbrev Q20 (R : W.Post) : Exit → Act → World → Prop := (Exit.inBlock 5 (Q11 R))
/-- the head of the loop, law.go:102 -/
def L38 (l1 e5 m6 link10 to11 : W.Sl) (i12 k14 : Int) (q17 : W.Sl) (j18 : Int) (w : World) (R : W.Post) : Prop := W.LP Try.prog 215 C88 (Q20 R) [(1, l1.v), (5, e5.v), (6, m6.v), (10, link10.v), (11, to11.v), (12, .int .i64 i12), (14, .int .i64 k14), (17, q17.v), (18, .int .i64 j18)] w
def KE_L38 (E : W.Env) (w : World) (R : W.Post) : Prop := W.asSlice (W.Env.get? E 1) fun l1 => W.asSlice (W.Env.get? E 5) fun e5 => W.asSlice (W.Env.get? E 6) fun m6 => W.asSlice (W.Env.get? E 10) fun link10 => W.asSlice (W.Env.get? E 11) fun to11 => W.asInt .i64 (W.Env.get? E 12) fun i12 => W.asInt .i64 (W.Env.get? E 14) fun k14 => W.asSlice (W.Env.get? E 17) fun q17 => W.asInt .i64 (W.Env.get? E 18) fun j18 => L38 l1 e5 m6 link10 to11 i12 k14 q17 j18 w R
theorem KE_L38_ok (R : W.Post) (E : W.Env) (w : World) (h : KE_L38 E w R) : W.LP Try.prog 215 C88 (Q20 R) E w := by
  obtain ⟨l1, hq1, h1⟩ := W.asSlice_elim h
  obtain ⟨e5, hq5, h2⟩ := W.asSlice_elim h1
  obtain ⟨m6, hq6, h3⟩ := W.asSlice_elim h2
  obtain ⟨link10, hq10, h4⟩ := W.asSlice_elim h3
  obtain ⟨to11, hq11, h5⟩ := W.asSlice_elim h4
  obtain ⟨i12, hq12, h6⟩ := W.asInt_elim h5
  obtain ⟨k14, hq14, h7⟩ := W.asInt_elim h6
  obtain ⟨q17, hq17, h8⟩ := W.asSlice_elim h7
  obtain ⟨j18, hq18, h9⟩ := W.asInt_elim h8
  intro a ha
  exact h9 a (ha.cons hq1 (ha.cons hq5 (ha.cons hq6 (ha.cons hq10 (ha.cons hq11 (ha.cons hq12 (ha.cons hq14 (ha.cons hq17 (ha.cons hq18 ha.nil)))))))))
noncomputable def C89 : Code := W.Code.snd C88
noncomputable def C90 : Code := W.Code.snd C89
abbrev Q21 (R : W.Post) : Exit → Act → World → Prop := (Exit.then (W.LoopWP Try.prog C88 (Q20 R)) (Q20 R))
/-- law.go:102 -/
def S42 (l1 e5 m6 link10 to11 : W.Sl) (i12 k14 : Int) (q17 : W.Sl) (j18 : Int) (w : World) (R : W.Post) : Prop :=
  L38 l1 e5 m6 link10 to11 i12 k14 q17 (IntKind.wrap .i64 (j18 + 1)) w R
def KE_S42 (E : W.Env) (w : World) (R : W.Post) : Prop := W.asSlice (W.Env.get? E 1) fun l1 => W.asSlice (W.Env.get? E 5) fun e5 => W.asSlice (W.Env.get? E 6) fun m6 => W.asSlice (W.Env.get? E 10) fun link10 => W.asSlice (W.Env.get? E 11) fun to11 => W.asInt .i64 (W.Env.get? E 12) fun i12 => W.asInt .i64 (W.Env.get? E 14) fun k14 => W.asSlice (W.Env.get? E 17) fun q17 => W.asInt .i64 (W.Env.get? E 18) fun j18 => S42 l1 e5 m6 link10 to11 i12 k14 q17 j18 w R
theorem KE_S42_ok (R : W.Post) (E : W.Env) (w : World) (h : KE_S42 E w R) : W.WP Try.prog 215 C90 (Q21 R) E w := by
  obtain ⟨l1, hq1, h1⟩ := W.asSlice_elim h
  obtain ⟨e5, hq5, h2⟩ := W.asSlice_elim h1
  obtain ⟨m6, hq6, h3⟩ := W.asSlice_elim h2
  obtain ⟨link10, hq10, h4⟩ := W.asSlice_elim h3
  obtain ⟨to11, hq11, h5⟩ := W.asSlice_elim h4
  obtain ⟨i12, hq12, h6⟩ := W.asInt_elim h5
  obtain ⟨k14, hq14, h7⟩ := W.asInt_elim h6
  obtain ⟨q17, hq17, h8⟩ := W.asSlice_elim h7
  obtain ⟨j18, hq18, h9⟩ := W.asInt_elim h8
  exact fun a ha => W.WP.at (E := [(1, l1.v), (5, e5.v), (6, m6.v), (10, link10.v), (11, to11.v), (12, .int .i64 i12), (14, .int .i64 k14), (17, q17.v), (18, .int .i64 j18)]) (W.WP.reg (c := C90) (fun E w => KE_L38 E w R) (by kernel_rfl) (Eq.mp (by kernel_rfl) h9) fun _ _ a hA hK => KE_L38_ok R _ _ hK a hA) (ha.cons hq1 (ha.cons hq5 (ha.cons hq6 (ha.cons hq10 (ha.cons hq11 (ha.cons hq12 (ha.cons hq14 (ha.cons hq17 (ha.cons hq18 ha.nil)))))))))
noncomputable def C91 : Code := W.Code.fst C89
noncomputable def C92 : Code := W.Code.fst C91
noncomputable def C93 : Code := W.Code.snd C92
abbrev Q22 (R : W.Post) : Exit → Act → World → Prop := (Exit.then (Code.wp Try.prog C90 (Exit.then (W.LoopWP Try.prog C88 (Q20 R)) (Q20 R))) (Exit.then (W.LoopWP Try.prog C88 (Q20 R)) (Q20 R)))
abbrev Q23 (R : W.Post) : Exit → Act → World → Prop := (Exit.inBlock 6 (Q22 R))
/-- law.go:104 -/
def S41 (l1 e5 m6 link10 to11 : W.Sl) (i12 k14 : Int) (q17 : W.Sl) (j18 : Int) (w : World) (R : W.Post) : Prop :=
  let w1 := w.alloc (.cells #[.int .i64 (IntKind.wrap .i64 (1 - k14))] ty_int)
  ∃ (t187 : W.Sl) (w2 : World), Sem.run Try.prog (Builtin.append_ #[ty_sl_int, ty_sl_int] ty_sl_int #[to11.v, .slice (some (Addr.mk w.heap.size 0 none)) 1 1]) w1 = .ok (t187.v) w2 ∧ S42 l1 e5 m6 link10 t187 i12 k14 q17 j18 w2 R
def KE_S41 (E : W.Env) (w : World) (R : W.Post) : Prop := W.asSlice (W.Env.get? E 1) fun l1 => W.asSlice (W.Env.get? E 5) fun e5 => W.asSlice (W.Env.get? E 6) fun m6 => W.asSlice (W.Env.get? E 10) fun link10 => W.asSlice (W.Env.get? E 11) fun to11 => W.asInt .i64 (W.Env.get? E 12) fun i12 => W.asInt .i64 (W.Env.get? E 14) fun k14 => W.asSlice (W.Env.get? E 17) fun q17 => W.asInt .i64 (W.Env.get? E 18) fun j18 => S41 l1 e5 m6 link10 to11 i12 k14 q17 j18 w R
theorem KE_S41_ok (R : W.Post) (E : W.Env) (w : World) (h : KE_S41 E w R) : W.WP Try.prog 215 C93 (Q23 R) E w := by
  obtain ⟨l1, hq1, h1⟩ := W.asSlice_elim h
  obtain ⟨e5, hq5, h2⟩ := W.asSlice_elim h1
  obtain ⟨m6, hq6, h3⟩ := W.asSlice_elim h2
  obtain ⟨link10, hq10, h4⟩ := W.asSlice_elim h3
  obtain ⟨to11, hq11, h5⟩ := W.asSlice_elim h4
  obtain ⟨i12, hq12, h6⟩ := W.asInt_elim h5
  obtain ⟨k14, hq14, h7⟩ := W.asInt_elim h6
  obtain ⟨q17, hq17, h8⟩ := W.asSlice_elim h7
  obtain ⟨j18, hq18, h9⟩ := W.asInt_elim h8
  exact fun a ha => W.WP.at (E := [(1, l1.v), (5, e5.v), (6, m6.v), (10, link10.v), (11, to11.v), (12, .int .i64 i12), (14, .int .i64 k14), (17, q17.v), (18, .int .i64 j18)]) (W.WP.reg (c := C93) (fun E w => KE_S42 E w R) (by kernel_rfl) (Eq.mp (by kernel_rfl) h9) fun _ _ a hA hK => (KE_S42_ok R _ _ hK) a hA) (ha.cons hq1 (ha.cons hq5 (ha.cons hq6 (ha.cons hq10 (ha.cons hq11 (ha.cons hq12 (ha.cons hq14 (ha.cons hq17 (ha.cons hq18 ha.nil)))))))))
noncomputable def C94 : Code := W.Code.fst C92
/-- law.go:103 -/
def S40 (l1 e5 m6 link10 to11 : W.Sl) (i12 k14 : Int) (q17 : W.Sl) (j18 : Int) (w : World) (R : W.Post) : Prop :=
  (0 : Int) ≤ j18 ∧ j18 < ((q17.n : Nat) : Int) ∧ W.optP q17.a fun t179_p => ∃ t180_0 : Int, ∃ t180_1 : Int, ∃ t180_2 : W.Sl, w.cell? ((t179_p.add (Int.toNat j18 * 3)).add 0) = some (.int .i64 t180_0) ∧ w.cell? ((t179_p.add (Int.toNat j18 * 3)).add 1) = some (.int .i64 t180_1) ∧ w.cell? ((t179_p.add (Int.toNat j18 * 3)).add 2) = some (t180_2.v) ∧ 
  let w1 := w.alloc (.cells #[.int .i64 t180_0, .int .i64 t180_1, t180_2.v] ty_enthymemeref38_Packet)
  ∃ (t182 : W.Sl) (w2 : World), Sem.run Try.prog (Builtin.append_ #[ty_sl_enthymemeref38_Packet, ty_sl_enthymemeref38_Packet] ty_sl_enthymemeref38_Packet #[link10.v, .slice (some (Addr.mk w.heap.size 0 none)) 1 1]) w1 = .ok (t182.v) w2 ∧ S41 l1 e5 m6 t182 to11 i12 k14 q17 j18 w2 R
def KE_S40 (E : W.Env) (w : World) (R : W.Post) : Prop := W.asSlice (W.Env.get? E 1) fun l1 => W.asSlice (W.Env.get? E 5) fun e5 => W.asSlice (W.Env.get? E 6) fun m6 => W.asSlice (W.Env.get? E 10) fun link10 => W.asSlice (W.Env.get? E 11) fun to11 => W.asInt .i64 (W.Env.get? E 12) fun i12 => W.asInt .i64 (W.Env.get? E 14) fun k14 => W.asSlice (W.Env.get? E 17) fun q17 => W.asInt .i64 (W.Env.get? E 18) fun j18 => S40 l1 e5 m6 link10 to11 i12 k14 q17 j18 w R
theorem KE_S40_ok (R : W.Post) (E : W.Env) (w : World) (h : KE_S40 E w R) : W.WP Try.prog 215 C92 (Q23 R) E w := by
  obtain ⟨l1, hq1, h1⟩ := W.asSlice_elim h
  obtain ⟨e5, hq5, h2⟩ := W.asSlice_elim h1
  obtain ⟨m6, hq6, h3⟩ := W.asSlice_elim h2
  obtain ⟨link10, hq10, h4⟩ := W.asSlice_elim h3
  obtain ⟨to11, hq11, h5⟩ := W.asSlice_elim h4
  obtain ⟨i12, hq12, h6⟩ := W.asInt_elim h5
  obtain ⟨k14, hq14, h7⟩ := W.asInt_elim h6
  obtain ⟨q17, hq17, h8⟩ := W.asSlice_elim h7
  obtain ⟨j18, hq18, h9⟩ := W.asInt_elim h8
  exact fun a ha => W.WP.at (E := [(1, l1.v), (5, e5.v), (6, m6.v), (10, link10.v), (11, to11.v), (12, .int .i64 i12), (14, .int .i64 k14), (17, q17.v), (18, .int .i64 j18)]) (W.WP.seq (c := C92) (x := C94) (y := C93) (by kernel_rfl) <| W.WP.reg (c := C94) (fun E w => KE_S41 E w R) (by kernel_rfl) (Eq.mp (by kernel_rfl) h9) fun _ _ a hA hK => (KE_S41_ok R _ _ hK) a hA) (ha.cons hq1 (ha.cons hq5 (ha.cons hq6 (ha.cons hq10 (ha.cons hq11 (ha.cons hq12 (ha.cons hq14 (ha.cons hq17 (ha.cons hq18 ha.nil)))))))))
noncomputable def C95 : Code := W.Code.fst C88
abbrev Q24 (R : W.Post) : Exit → Act → World → Prop := (Exit.then (Code.wp Try.prog C89 (Exit.then (W.LoopWP Try.prog C88 (Q20 R)) (Q20 R))) (Exit.then (W.LoopWP Try.prog C88 (Q20 R)) (Q20 R)))
noncomputable def C96 : Code := W.Code.fst C95
noncomputable def C97 : Code := W.Code.snd C95
noncomputable def C98 : Code := W.Code.fst C97
noncomputable def C99 : Code := W.Code.snd C97
/-- law.go:102 -/
def S39 (l1 e5 m6 link10 to11 : W.Sl) (i12 k14 : Int) (q17 : W.Sl) (j18 : Int) (w : World) (R : W.Post) : Prop :=
  W.sel (decide (j18 < ((q17.n : Nat) : Int))) (S40 l1 e5 m6 link10 to11 i12 k14 q17 j18 w R) (S25 l1 e5 m6 link10 to11 i12 w R)
def KE_S39 (E : W.Env) (w : World) (R : W.Post) : Prop := W.asSlice (W.Env.get? E 1) fun l1 => W.asSlice (W.Env.get? E 5) fun e5 => W.asSlice (W.Env.get? E 6) fun m6 => W.asSlice (W.Env.get? E 10) fun link10 => W.asSlice (W.Env.get? E 11) fun to11 => W.asInt .i64 (W.Env.get? E 12) fun i12 => W.asInt .i64 (W.Env.get? E 14) fun k14 => W.asSlice (W.Env.get? E 17) fun q17 => W.asInt .i64 (W.Env.get? E 18) fun j18 => S39 l1 e5 m6 link10 to11 i12 k14 q17 j18 w R
theorem KE_S39_ok (R : W.Post) (E : W.Env) (w : World) (h : KE_S39 E w R) : W.WP Try.prog 215 C95 (Q24 R) E w := by
  obtain ⟨l1, hq1, h1⟩ := W.asSlice_elim h
  obtain ⟨e5, hq5, h2⟩ := W.asSlice_elim h1
  obtain ⟨m6, hq6, h3⟩ := W.asSlice_elim h2
  obtain ⟨link10, hq10, h4⟩ := W.asSlice_elim h3
  obtain ⟨to11, hq11, h5⟩ := W.asSlice_elim h4
  obtain ⟨i12, hq12, h6⟩ := W.asInt_elim h5
  obtain ⟨k14, hq14, h7⟩ := W.asInt_elim h6
  obtain ⟨q17, hq17, h8⟩ := W.asSlice_elim h7
  obtain ⟨j18, hq18, h9⟩ := W.asInt_elim h8
  exact fun a ha => W.WP.at (E := [(1, l1.v), (5, e5.v), (6, m6.v), (10, link10.v), (11, to11.v), (12, .int .i64 i12), (14, .int .i64 k14), (17, q17.v), (18, .int .i64 j18)]) (W.WP.seq (c := C95) (x := C96) (y := C97) (by kernel_rfl) <| W.WP.reg (c := C96) (fun E w => W.condK (W.Env.val E (.tmp 173)) (KE_S40 E w R) (KE_S25 E w R)) (by kernel_rfl) (Eq.mp (by kernel_rfl) h9) fun _ _ a hA hK => (W.WP.condK (c := C97) (x := C98) (y := C99) (o := .tmp 173) (by kernel_rfl) (fun hK => (W.WP.skip (c := C98) (by kernel_rfl) fun a hA => (W.WP.seq (c := C89) (x := C91) (y := C90) (by kernel_rfl) (W.WP.block (c := C91) (x := C92) (id := 6) (by kernel_rfl) (KE_S40_ok R _ _ hK))) a hA)) (fun hK => (W.WP.exit (c := C99) (id := 5) (by kernel_rfl) fun a hA => (KE_S25_ok R _ _ hK) a hA)) hK) a hA) (ha.cons hq1 (ha.cons hq5 (ha.cons hq6 (ha.cons hq10 (ha.cons hq11 (ha.cons hq12 (ha.cons hq14 (ha.cons hq17 (ha.cons hq18 ha.nil)))))))))
theorem L38_step (l1 e5 m6 link10 to11 : W.Sl) (i12 k14 : Int) (q17 : W.Sl) (j18 : Int) (w : World) (R : W.Post) (h : S39 l1 e5 m6 link10 to11 i12 k14 q17 j18 w R) : L38 l1 e5 m6 link10 to11 i12 k14 q17 j18 w R :=
  W.LP.step (c := C88) (E := [(1, l1.v), (5, e5.v), (6, m6.v), (10, link10.v), (11, to11.v), (12, .int .i64 i12), (14, .int .i64 k14), (17, q17.v), (18, .int .i64 j18)]) (w := w) (W.WP.seq (c := C88) (x := C95) (y := C89) (by kernel_rfl) (KE_S39_ok R _ _ (Eq.mp (by kernel_rfl) h)))
noncomputable def C100 : Code := W.Code.fst C83
/-- law.go:102 -/
def S37 (l1 e5 m6 link10 to11 : W.Sl) (i12 k14 : Int) (q17 : W.Sl) (w : World) (R : W.Post) : Prop :=
  L38 l1 e5 m6 link10 to11 i12 k14 q17 0 w R
def KE_S37 (E : W.Env) (w : World) (R : W.Post) : Prop := W.asSlice (W.Env.get? E 1) fun l1 => W.asSlice (W.Env.get? E 5) fun e5 => W.asSlice (W.Env.get? E 6) fun m6 => W.asSlice (W.Env.get? E 10) fun link10 => W.asSlice (W.Env.get? E 11) fun to11 => W.asInt .i64 (W.Env.get? E 12) fun i12 => W.asInt .i64 (W.Env.get? E 14) fun k14 => W.asSlice (W.Env.get? E 17) fun q17 => S37 l1 e5 m6 link10 to11 i12 k14 q17 w R
theorem KE_S37_ok (R : W.Post) (E : W.Env) (w : World) (h : KE_S37 E w R) : W.WP Try.prog 215 C83 (Q11 R) E w := by
  obtain ⟨l1, hq1, h1⟩ := W.asSlice_elim h
  obtain ⟨e5, hq5, h2⟩ := W.asSlice_elim h1
  obtain ⟨m6, hq6, h3⟩ := W.asSlice_elim h2
  obtain ⟨link10, hq10, h4⟩ := W.asSlice_elim h3
  obtain ⟨to11, hq11, h5⟩ := W.asSlice_elim h4
  obtain ⟨i12, hq12, h6⟩ := W.asInt_elim h5
  obtain ⟨k14, hq14, h7⟩ := W.asInt_elim h6
  obtain ⟨q17, hq17, h8⟩ := W.asSlice_elim h7
  exact fun a ha => W.WP.at (E := [(1, l1.v), (5, e5.v), (6, m6.v), (10, link10.v), (11, to11.v), (12, .int .i64 i12), (14, .int .i64 k14), (17, q17.v)]) (W.WP.seq (c := C83) (x := C100) (y := C86) (by kernel_rfl) <| W.WP.reg (c := C100) (fun E w => KE_L38 E w R) (by kernel_rfl) (Eq.mp (by kernel_rfl) h8) fun _ _ a hA hK => (W.WP.block (c := C86) (x := C87) (id := 5) (by kernel_rfl) (W.WP.loop (c := C87) (x := C88) (by kernel_rfl) (KE_L38_ok R _ _ hK))) a hA) (ha.cons hq1 (ha.cons hq5 (ha.cons hq6 (ha.cons hq10 (ha.cons hq11 (ha.cons hq12 (ha.cons hq14 (ha.cons hq17 ha.nil))))))))
noncomputable def C101 : Code := W.Code.fst C80
noncomputable def C102 : Code := W.Code.snd C81
/-- law.go:99 -/
def S35 (l1 e5 m6 link10 to11 : W.Sl) (i12 k14 : Int) (p16 q17 : W.Sl) (w : World) (R : W.Post) : Prop :=
  Calls Try.prog n_enthymemelaw38_same #[p16.v, q17.v] w fun r_ w1 => ∃ t168 : Bool, r_ = .returned (.bool t168) ∧ 
  W.sel (!t168) (S36  w1 R) (S37 l1 e5 m6 link10 to11 i12 k14 q17 w1 R)
def KE_S35 (E : W.Env) (w : World) (R : W.Post) : Prop := W.asSlice (W.Env.get? E 1) fun l1 => W.asSlice (W.Env.get? E 5) fun e5 => W.asSlice (W.Env.get? E 6) fun m6 => W.asSlice (W.Env.get? E 10) fun link10 => W.asSlice (W.Env.get? E 11) fun to11 => W.asInt .i64 (W.Env.get? E 12) fun i12 => W.asInt .i64 (W.Env.get? E 14) fun k14 => W.asSlice (W.Env.get? E 16) fun p16 => W.asSlice (W.Env.get? E 17) fun q17 => S35 l1 e5 m6 link10 to11 i12 k14 p16 q17 w R
theorem KE_S35_ok (R : W.Post) (E : W.Env) (w : World) (h : KE_S35 E w R) : W.WP Try.prog 215 C80 (Q19 R) E w := by
  obtain ⟨l1, hq1, h1⟩ := W.asSlice_elim h
  obtain ⟨e5, hq5, h2⟩ := W.asSlice_elim h1
  obtain ⟨m6, hq6, h3⟩ := W.asSlice_elim h2
  obtain ⟨link10, hq10, h4⟩ := W.asSlice_elim h3
  obtain ⟨to11, hq11, h5⟩ := W.asSlice_elim h4
  obtain ⟨i12, hq12, h6⟩ := W.asInt_elim h5
  obtain ⟨k14, hq14, h7⟩ := W.asInt_elim h6
  obtain ⟨p16, hq16, h8⟩ := W.asSlice_elim h7
  obtain ⟨q17, hq17, h9⟩ := W.asSlice_elim h8
  exact fun a ha => W.WP.at (E := [(1, l1.v), (5, e5.v), (6, m6.v), (10, link10.v), (11, to11.v), (12, .int .i64 i12), (14, .int .i64 k14), (16, p16.v), (17, q17.v)]) (W.WP.seq (c := C80) (x := C101) (y := C81) (by kernel_rfl) <| W.WP.reg (c := C101) (fun E w => W.condK (W.Env.val E (.tmp 169)) (KE_S36 E w R) (KE_S37 E w R)) (by kernel_rfl) (Eq.mp (by kernel_rfl) h9) fun _ _ a hA hK => (W.WP.condK (c := C81) (x := C82) (y := C102) (o := .tmp 169) (by kernel_rfl) (fun hK => (KE_S36_ok R _ _ hK)) (fun hK => (W.WP.skip (c := C102) (by kernel_rfl) fun a hA => (KE_S37_ok R _ _ hK) a hA)) hK) a hA) (ha.cons hq1 (ha.cons hq5 (ha.cons hq6 (ha.cons hq10 (ha.cons hq11 (ha.cons hq12 (ha.cons hq14 (ha.cons hq16 (ha.cons hq17 ha.nil)))))))))
noncomputable def C103 : Code := W.Code.fst C78
/-- law.go:98 -/
def S34 (l1 e5 m6 link10 to11 : W.Sl) (i12 k14 : Int) (p16 : W.Sl) (w : World) (R : W.Post) : Prop :=
  (0 : Int) ≤ k14 ∧ k14 < ((m6.n : Nat) : Int) ∧ W.optP m6.a fun t163_p => ∃ t164 : Option Addr, w.cell? (t163_p.add (Int.toNat k14 * 1)) = some (.pointer t164) ∧ 
  Calls Try.prog n_enthymemeref38_End_Out #[.pointer t164] w fun r_ w1 => ∃ t165 : W.Sl, r_ = .returned (t165.v) ∧ 
  S35 l1 e5 m6 link10 to11 i12 k14 p16 t165 w1 R
def KE_S34 (E : W.Env) (w : World) (R : W.Post) : Prop := W.asSlice (W.Env.get? E 1) fun l1 => W.asSlice (W.Env.get? E 5) fun e5 => W.asSlice (W.Env.get? E 6) fun m6 => W.asSlice (W.Env.get? E 10) fun link10 => W.asSlice (W.Env.get? E 11) fun to11 => W.asInt .i64 (W.Env.get? E 12) fun i12 => W.asInt .i64 (W.Env.get? E 14) fun k14 => W.asSlice (W.Env.get? E 16) fun p16 => S34 l1 e5 m6 link10 to11 i12 k14 p16 w R
theorem KE_S34_ok (R : W.Post) (E : W.Env) (w : World) (h : KE_S34 E w R) : W.WP Try.prog 215 C78 (Q11 R) E w := by
  obtain ⟨l1, hq1, h1⟩ := W.asSlice_elim h
  obtain ⟨e5, hq5, h2⟩ := W.asSlice_elim h1
  obtain ⟨m6, hq6, h3⟩ := W.asSlice_elim h2
  obtain ⟨link10, hq10, h4⟩ := W.asSlice_elim h3
  obtain ⟨to11, hq11, h5⟩ := W.asSlice_elim h4
  obtain ⟨i12, hq12, h6⟩ := W.asInt_elim h5
  obtain ⟨k14, hq14, h7⟩ := W.asInt_elim h6
  obtain ⟨p16, hq16, h8⟩ := W.asSlice_elim h7
  exact fun a ha => W.WP.at (E := [(1, l1.v), (5, e5.v), (6, m6.v), (10, link10.v), (11, to11.v), (12, .int .i64 i12), (14, .int .i64 k14), (16, p16.v)]) (W.WP.seq (c := C78) (x := C103) (y := C79) (by kernel_rfl) <| W.WP.reg (c := C103) (fun E w => KE_S35 E w R) (by kernel_rfl) (Eq.mp (by kernel_rfl) h8) fun _ _ a hA hK => (W.WP.seq (c := C79) (x := C80) (y := C83) (by kernel_rfl) (KE_S35_ok R _ _ hK)) a hA) (ha.cons hq1 (ha.cons hq5 (ha.cons hq6 (ha.cons hq10 (ha.cons hq11 (ha.cons hq12 (ha.cons hq14 (ha.cons hq16 ha.nil))))))))
noncomputable def C104 : Code := W.Code.fst C77
/-- law.go:97 -/
def S33 (l1 e5 m6 link10 to11 : W.Sl) (i12 k14 : Int) (w : World) (R : W.Post) : Prop :=
  (0 : Int) ≤ k14 ∧ k14 < ((e5.n : Nat) : Int) ∧ W.optP e5.a fun t158_p => ∃ t159 : Option Addr, w.cell? (t158_p.add (Int.toNat k14 * 1)) = some (.pointer t159) ∧ 
  Calls Try.prog n_channel_End_Out #[.pointer t159] w fun r_ w1 => ∃ t160 : W.Sl, r_ = .returned (t160.v) ∧ 
  S34 l1 e5 m6 link10 to11 i12 k14 t160 w1 R
def KE_S33 (E : W.Env) (w : World) (R : W.Post) : Prop := W.asSlice (W.Env.get? E 1) fun l1 => W.asSlice (W.Env.get? E 5) fun e5 => W.asSlice (W.Env.get? E 6) fun m6 => W.asSlice (W.Env.get? E 10) fun link10 => W.asSlice (W.Env.get? E 11) fun to11 => W.asInt .i64 (W.Env.get? E 12) fun i12 => W.asInt .i64 (W.Env.get? E 14) fun k14 => S33 l1 e5 m6 link10 to11 i12 k14 w R
theorem KE_S33_ok (R : W.Post) (E : W.Env) (w : World) (h : KE_S33 E w R) : W.WP Try.prog 215 C77 (Q11 R) E w := by
  obtain ⟨l1, hq1, h1⟩ := W.asSlice_elim h
  obtain ⟨e5, hq5, h2⟩ := W.asSlice_elim h1
  obtain ⟨m6, hq6, h3⟩ := W.asSlice_elim h2
  obtain ⟨link10, hq10, h4⟩ := W.asSlice_elim h3
  obtain ⟨to11, hq11, h5⟩ := W.asSlice_elim h4
  obtain ⟨i12, hq12, h6⟩ := W.asInt_elim h5
  obtain ⟨k14, hq14, h7⟩ := W.asInt_elim h6
  exact fun a ha => W.WP.at (E := [(1, l1.v), (5, e5.v), (6, m6.v), (10, link10.v), (11, to11.v), (12, .int .i64 i12), (14, .int .i64 k14)]) (W.WP.seq (c := C77) (x := C104) (y := C78) (by kernel_rfl) <| W.WP.reg (c := C104) (fun E w => KE_S34 E w R) (by kernel_rfl) (Eq.mp (by kernel_rfl) h7) fun _ _ a hA hK => (KE_S34_ok R _ _ hK) a hA) (ha.cons hq1 (ha.cons hq5 (ha.cons hq6 (ha.cons hq10 (ha.cons hq11 (ha.cons hq12 (ha.cons hq14 ha.nil)))))))
noncomputable def C105 : Code := W.Code.snd C76
noncomputable def C106 : Code := W.Code.snd C105
noncomputable def C107 : Code := W.Code.snd C106
noncomputable def C108 : Code := W.Code.snd C107
noncomputable def C109 : Code := W.Code.snd C108
noncomputable def C110 : Code := W.Code.snd C109
noncomputable def C111 : Code := W.Code.snd C110
noncomputable def C112 : Code := W.Code.snd C111
noncomputable def C113 : Code := W.Code.fst C112
noncomputable def C114 : Code := W.Code.fst C113
noncomputable def C115 : Code := W.Code.snd C113
/-- law.go:122 -/
def S53  (w : World) (R : W.Post) : Prop :=
  R (.returned (.bool false)) w
def KE_S53 (E : W.Env) (w : World) (R : W.Post) : Prop := S53  w R
theorem KE_S53_ok (R : W.Post) (E : W.Env) (w : World) (h : KE_S53 E w R) : W.WP Try.prog 215 C113 (Q11 R) E w := by
  exact fun a ha => W.WP.at (E := []) (W.WP.seq (c := C113) (x := C114) (y := C115) (by kernel_rfl) <| W.WP.reg (c := C114) (fun E w => W.retVC Try.prog Try.f3 E w (fun v => R (.returned v) w)) (by kernel_rfl) (Eq.mp (by kernel_rfl) h) fun _ _ a hA hK => (W.WP.ret (c := C115) (by kernel_rfl) fun a hA => W.retVC_sound hA hK) a hA) ha.nil
noncomputable def C116 : Code := W.Code.fst C111
noncomputable def C117 : Code := W.Code.snd C112
/-- law.go:121 -/
def S52 (l1 e5 m6 link10 to11 : W.Sl) (i12 j19 : Int) (p20 : Addr) (w : World) (R : W.Post) : Prop :=
  (0 : Int) ≤ j19 ∧ j19 < ((to11.n : Nat) : Int) ∧ W.optP to11.a fun t114_p => ∃ t115 : Int, w.drew.cell? (t114_p.add (Int.toNat j19 * 1)) = some (.int .i64 t115) ∧ 
  (0 : Int) ≤ t115 ∧ t115 < ((e5.n : Nat) : Int) ∧ W.optP e5.a fun t116_p => ∃ t117 : Option Addr, w.drew.cell? (t116_p.add (Int.toNat t115 * 1)) = some (.pointer t117) ∧ 
  ∃ t118_0 : Int, ∃ t118_1 : Int, ∃ t118_2 : W.Sl, w.drew.cell? (p20.add 0) = some (.int .i64 t118_0) ∧ w.drew.cell? (p20.add 1) = some (.int .i64 t118_1) ∧ w.drew.cell? (p20.add 2) = some (t118_2.v) ∧ 
  (0 : Int) ≤ j19 ∧ j19 < ((to11.n : Nat) : Int) ∧ W.optP to11.a fun t124_p => ∃ t125 : Int, w.drew.cell? (t124_p.add (Int.toNat j19 * 1)) = some (.int .i64 t125) ∧ 
  (0 : Int) ≤ t125 ∧ t125 < ((m6.n : Nat) : Int) ∧ W.optP m6.a fun t126_p => ∃ t127 : Option Addr, w.drew.cell? (t126_p.add (Int.toNat t125 * 1)) = some (.pointer t127) ∧ 
  ∃ t128_0 : Int, ∃ t128_1 : Int, ∃ t128_2 : W.Sl, w.drew.cell? (p20.add 0) = some (.int .i64 t128_0) ∧ w.drew.cell? (p20.add 1) = some (.int .i64 t128_1) ∧ w.drew.cell? (p20.add 2) = some (t128_2.v) ∧ 
  Calls Try.prog n_enthymemelaw38_of #[.agg #[.int .i64 t118_0, .int .i64 t118_1, t118_2.v]] w.drew fun r_ w1 => ∃ t119_0 : Int, ∃ t119_1 : Int, ∃ t119_2 : W.Sl, r_ = .returned (.agg #[.int .i64 t119_0, .int .i64 t119_1, t119_2.v]) ∧ 
  w1.cell? (p20.add 0) = some (.int .i64 t128_0) ∧ w1.cell? (p20.add 1) = some (.int .i64 t128_1) ∧ w1.cell? (p20.add 2) = some (t128_2.v) ∧ w1.cell? (t126_p.add (Int.toNat t125 * 1)) = some (.pointer t127) ∧ w1.cell? (t124_p.add (Int.toNat j19 * 1)) = some (.int .i64 t125) ∧ w1.cell? (t116_p.add (Int.toNat t115 * 1)) = some (.pointer t117) ∧ w1.cell? (t114_p.add (Int.toNat j19 * 1)) = some (.int .i64 t115) ∧ Calls Try.prog n_channel_End_In #[.pointer t117, .agg #[.int .i64 t119_0, .int .i64 t119_1, t119_2.v]] w1 fun r_ w2 => ∃ t120 : W.Sl, r_ = .returned (t120.v) ∧ 
  w2.cell? (p20.add 0) = some (.int .i64 t128_0) ∧ w2.cell? (p20.add 1) = some (.int .i64 t128_1) ∧ w2.cell? (p20.add 2) = some (t128_2.v) ∧ w2.cell? (t126_p.add (Int.toNat t125 * 1)) = some (.pointer t127) ∧ w2.cell? (t124_p.add (Int.toNat j19 * 1)) = some (.int .i64 t125) ∧ w2.cell? (t114_p.add (Int.toNat j19 * 1)) = some (.int .i64 t115) ∧ Calls Try.prog n_enthymemeref38_End_In #[.pointer t127, .agg #[.int .i64 t128_0, .int .i64 t128_1, t128_2.v]] w2 fun r_ w3 => ∃ t129 : W.Sl, r_ = .returned (t129.v) ∧ 
  w3.cell? (t124_p.add (Int.toNat j19 * 1)) = some (.int .i64 t125) ∧ w3.cell? (t114_p.add (Int.toNat j19 * 1)) = some (.int .i64 t115) ∧ Calls Try.prog n_enthymemeref38_SameLists #[t120.v, t129.v] w3 fun r_ w4 => ∃ t130 : Bool, r_ = .returned (.bool t130) ∧ 
  w4.cell? (t124_p.add (Int.toNat j19 * 1)) = some (.int .i64 t125) ∧ w4.cell? (t114_p.add (Int.toNat j19 * 1)) = some (.int .i64 t115) ∧ W.sel (!t130) (S53  w4 R) (S25 l1 e5 m6 link10 to11 i12 w4 R)
def KE_S52 (E : W.Env) (w : World) (R : W.Post) : Prop := W.asSlice (W.Env.get? E 1) fun l1 => W.asSlice (W.Env.get? E 5) fun e5 => W.asSlice (W.Env.get? E 6) fun m6 => W.asSlice (W.Env.get? E 10) fun link10 => W.asSlice (W.Env.get? E 11) fun to11 => W.asInt .i64 (W.Env.get? E 12) fun i12 => W.asInt .i64 (W.Env.get? E 19) fun j19 => W.asRef (W.Env.get? E 20) fun p20 => S52 l1 e5 m6 link10 to11 i12 j19 p20 w R
theorem KE_S52_ok (R : W.Post) (E : W.Env) (w : World) (h : KE_S52 E w R) : W.WP Try.prog 215 C111 (Q11 R) E w := by
  obtain ⟨l1, hq1, h1⟩ := W.asSlice_elim h
  obtain ⟨e5, hq5, h2⟩ := W.asSlice_elim h1
  obtain ⟨m6, hq6, h3⟩ := W.asSlice_elim h2
  obtain ⟨link10, hq10, h4⟩ := W.asSlice_elim h3
  obtain ⟨to11, hq11, h5⟩ := W.asSlice_elim h4
  obtain ⟨i12, hq12, h6⟩ := W.asInt_elim h5
  obtain ⟨j19, hq19, h7⟩ := W.asInt_elim h6
  obtain ⟨p20, hq20, h8⟩ := W.asRef_elim h7
  exact fun a ha => W.WP.at (E := [(1, l1.v), (5, e5.v), (6, m6.v), (10, link10.v), (11, to11.v), (12, .int .i64 i12), (19, .int .i64 j19), (20, .pointer (some p20))]) (W.WP.seq (c := C111) (x := C116) (y := C112) (by kernel_rfl) <| W.WP.draw (c := C116) [0, 1, 2, 3, 4, 5, 6, 7, 10, 11, 12, 13, 14, 15, 16, 17, 8, 9, 18, 19, 20] (fun E w => W.condK (W.Env.val E (.tmp 131)) (KE_S53 E w R) (KE_S25 E w R)) (by kernel_rfl) (Eq.mp (by kernel_rfl) h8) fun _ _ a hA hK => (W.WP.condK (c := C112) (x := C113) (y := C117) (o := .tmp 131) (by kernel_rfl) (fun hK => (KE_S53_ok R _ _ hK)) (fun hK => (W.WP.skip (c := C117) (by kernel_rfl) fun a hA => (KE_S25_ok R _ _ hK) a hA)) hK) a hA) (ha.cons hq1 (ha.cons hq5 (ha.cons hq6 (ha.cons hq10 (ha.cons hq11 (ha.cons hq12 (ha.cons hq19 (ha.cons hq20 ha.nil))))))))
noncomputable def C118 : Code := W.Code.fst C110
noncomputable def C119 : Code := W.Code.snd C118
noncomputable def C120 : Code := W.Code.fst C119
abbrev Q25 (R : W.Post) : Exit → Act → World → Prop := (Exit.then (Code.wp Try.prog C111 (Exit.inBlock 4 (Q10 R))) (Exit.inBlock 4 (Q10 R)))
/-- law.go:119 -/
def S51 (l1 e5 m6 link10 to11 : W.Sl) (i12 j19 : Int) (p20 : Addr) (w : World) (R : W.Post) : Prop :=
  let w1 := w.alloc (.cells #[] ty_uint8)
  let w2 := w1.alloc (.cells #[.int .u8 5] ty_uint8)
  ∃ (t109 : W.Sl) (w3 : World), Sem.run Try.prog (Builtin.append_ #[ty_sl_uint8, ty_sl_uint8] ty_sl_uint8 #[.slice (some (Addr.mk w.heap.size 0 none)) 0 0, .slice (some (Addr.mk w1.heap.size 0 none)) 1 1]) w2 = .ok (t109.v) w3 ∧ (w3.cell? (p20.add 2)).isSome = true ∧ w3.frozen? (p20.add 2) = false ∧ let w4 := w3.setCell (p20.add 2) (t109.v)
  S52 l1 e5 m6 link10 to11 i12 j19 p20 w4 R
def KE_S51 (E : W.Env) (w : World) (R : W.Post) : Prop := W.asSlice (W.Env.get? E 1) fun l1 => W.asSlice (W.Env.get? E 5) fun e5 => W.asSlice (W.Env.get? E 6) fun m6 => W.asSlice (W.Env.get? E 10) fun link10 => W.asSlice (W.Env.get? E 11) fun to11 => W.asInt .i64 (W.Env.get? E 12) fun i12 => W.asInt .i64 (W.Env.get? E 19) fun j19 => W.asRef (W.Env.get? E 20) fun p20 => S51 l1 e5 m6 link10 to11 i12 j19 p20 w R
theorem KE_S51_ok (R : W.Post) (E : W.Env) (w : World) (h : KE_S51 E w R) : W.WP Try.prog 215 C120 (Q25 R) E w := by
  obtain ⟨l1, hq1, h1⟩ := W.asSlice_elim h
  obtain ⟨e5, hq5, h2⟩ := W.asSlice_elim h1
  obtain ⟨m6, hq6, h3⟩ := W.asSlice_elim h2
  obtain ⟨link10, hq10, h4⟩ := W.asSlice_elim h3
  obtain ⟨to11, hq11, h5⟩ := W.asSlice_elim h4
  obtain ⟨i12, hq12, h6⟩ := W.asInt_elim h5
  obtain ⟨j19, hq19, h7⟩ := W.asInt_elim h6
  obtain ⟨p20, hq20, h8⟩ := W.asRef_elim h7
  exact fun a ha => W.WP.at (E := [(1, l1.v), (5, e5.v), (6, m6.v), (10, link10.v), (11, to11.v), (12, .int .i64 i12), (19, .int .i64 j19), (20, .pointer (some p20))]) (W.WP.reg (c := C120) (fun E w => KE_S52 E w R) (by kernel_rfl) (Eq.mp (by kernel_rfl) h8) fun _ _ a hA hK => (KE_S52_ok R _ _ hK) a hA) (ha.cons hq1 (ha.cons hq5 (ha.cons hq6 (ha.cons hq10 (ha.cons hq11 (ha.cons hq12 (ha.cons hq19 (ha.cons hq20 ha.nil))))))))
noncomputable def C121 : Code := W.Code.fst C118
noncomputable def C122 : Code := W.Code.snd C119
/-- law.go:118 -/
def S50 (l1 e5 m6 link10 to11 : W.Sl) (i12 n13 j19 : Int) (p20 : Addr) (w : World) (R : W.Post) : Prop :=
  W.sel ((Int.tmod n13 47) == 0) (S51 l1 e5 m6 link10 to11 i12 j19 p20 w R) (S52 l1 e5 m6 link10 to11 i12 j19 p20 w R)
def KE_S50 (E : W.Env) (w : World) (R : W.Post) : Prop := W.asSlice (W.Env.get? E 1) fun l1 => W.asSlice (W.Env.get? E 5) fun e5 => W.asSlice (W.Env.get? E 6) fun m6 => W.asSlice (W.Env.get? E 10) fun link10 => W.asSlice (W.Env.get? E 11) fun to11 => W.asInt .i64 (W.Env.get? E 12) fun i12 => W.asInt .i64 (W.Env.get? E 13) fun n13 => W.asInt .i64 (W.Env.get? E 19) fun j19 => W.asRef (W.Env.get? E 20) fun p20 => S50 l1 e5 m6 link10 to11 i12 n13 j19 p20 w R
theorem KE_S50_ok (R : W.Post) (E : W.Env) (w : World) (h : KE_S50 E w R) : W.WP Try.prog 215 C118 (Q25 R) E w := by
  obtain ⟨l1, hq1, h1⟩ := W.asSlice_elim h
  obtain ⟨e5, hq5, h2⟩ := W.asSlice_elim h1
  obtain ⟨m6, hq6, h3⟩ := W.asSlice_elim h2
  obtain ⟨link10, hq10, h4⟩ := W.asSlice_elim h3
  obtain ⟨to11, hq11, h5⟩ := W.asSlice_elim h4
  obtain ⟨i12, hq12, h6⟩ := W.asInt_elim h5
  obtain ⟨n13, hq13, h7⟩ := W.asInt_elim h6
  obtain ⟨j19, hq19, h8⟩ := W.asInt_elim h7
  obtain ⟨p20, hq20, h9⟩ := W.asRef_elim h8
  exact fun a ha => W.WP.at (E := [(1, l1.v), (5, e5.v), (6, m6.v), (10, link10.v), (11, to11.v), (12, .int .i64 i12), (13, .int .i64 n13), (19, .int .i64 j19), (20, .pointer (some p20))]) (W.WP.seq (c := C118) (x := C121) (y := C119) (by kernel_rfl) <| W.WP.reg (c := C121) (fun E w => W.condK (W.Env.val E (.tmp 106)) (KE_S51 E w R) (KE_S52 E w R)) (by kernel_rfl) (Eq.mp (by kernel_rfl) h9) fun _ _ a hA hK => (W.WP.condK (c := C119) (x := C120) (y := C122) (o := .tmp 106) (by kernel_rfl) (fun hK => (KE_S51_ok R _ _ hK)) (fun hK => (W.WP.skip (c := C122) (by kernel_rfl) fun a hA => (KE_S52_ok R _ _ hK) a hA)) hK) a hA) (ha.cons hq1 (ha.cons hq5 (ha.cons hq6 (ha.cons hq10 (ha.cons hq11 (ha.cons hq12 (ha.cons hq13 (ha.cons hq19 (ha.cons hq20 ha.nil)))))))))
noncomputable def C123 : Code := W.Code.fst C109
noncomputable def C124 : Code := W.Code.snd C123
noncomputable def C125 : Code := W.Code.fst C124
abbrev Q26 (R : W.Post) : Exit → Act → World → Prop := (Exit.then (Code.wp Try.prog C110 (Exit.inBlock 4 (Q10 R))) (Exit.inBlock 4 (Q10 R)))
/-- law.go:116 -/
def S49 (l1 e5 m6 link10 to11 : W.Sl) (i12 n13 j19 : Int) (p20 : Addr) (w : World) (R : W.Post) : Prop :=
  (w.cell? (p20.add 1)).isSome = true ∧ w.frozen? (p20.add 1) = false ∧ let w1 := w.setCell (p20.add 1) (.int .i64 (IntKind.wrap .i64 ((Int.tmod (IntKind.wrap .i64 (Int.tdiv n13 43)) 9) - 1)))
  S50 l1 e5 m6 link10 to11 i12 n13 j19 p20 w1 R
def KE_S49 (E : W.Env) (w : World) (R : W.Post) : Prop := W.asSlice (W.Env.get? E 1) fun l1 => W.asSlice (W.Env.get? E 5) fun e5 => W.asSlice (W.Env.get? E 6) fun m6 => W.asSlice (W.Env.get? E 10) fun link10 => W.asSlice (W.Env.get? E 11) fun to11 => W.asInt .i64 (W.Env.get? E 12) fun i12 => W.asInt .i64 (W.Env.get? E 13) fun n13 => W.asInt .i64 (W.Env.get? E 19) fun j19 => W.asRef (W.Env.get? E 20) fun p20 => S49 l1 e5 m6 link10 to11 i12 n13 j19 p20 w R
theorem KE_S49_ok (R : W.Post) (E : W.Env) (w : World) (h : KE_S49 E w R) : W.WP Try.prog 215 C125 (Q26 R) E w := by
  obtain ⟨l1, hq1, h1⟩ := W.asSlice_elim h
  obtain ⟨e5, hq5, h2⟩ := W.asSlice_elim h1
  obtain ⟨m6, hq6, h3⟩ := W.asSlice_elim h2
  obtain ⟨link10, hq10, h4⟩ := W.asSlice_elim h3
  obtain ⟨to11, hq11, h5⟩ := W.asSlice_elim h4
  obtain ⟨i12, hq12, h6⟩ := W.asInt_elim h5
  obtain ⟨n13, hq13, h7⟩ := W.asInt_elim h6
  obtain ⟨j19, hq19, h8⟩ := W.asInt_elim h7
  obtain ⟨p20, hq20, h9⟩ := W.asRef_elim h8
  exact fun a ha => W.WP.at (E := [(1, l1.v), (5, e5.v), (6, m6.v), (10, link10.v), (11, to11.v), (12, .int .i64 i12), (13, .int .i64 n13), (19, .int .i64 j19), (20, .pointer (some p20))]) (W.WP.reg (c := C125) (fun E w => KE_S50 E w R) (by kernel_rfl) (Eq.mp (by kernel_rfl) h9) fun _ _ a hA hK => (W.WP.seq (c := C110) (x := C118) (y := C111) (by kernel_rfl) (KE_S50_ok R _ _ hK)) a hA) (ha.cons hq1 (ha.cons hq5 (ha.cons hq6 (ha.cons hq10 (ha.cons hq11 (ha.cons hq12 (ha.cons hq13 (ha.cons hq19 (ha.cons hq20 ha.nil)))))))))
noncomputable def C126 : Code := W.Code.fst C123
noncomputable def C127 : Code := W.Code.snd C124
/-- law.go:115 -/
def S48 (l1 e5 m6 link10 to11 : W.Sl) (i12 n13 j19 : Int) (p20 : Addr) (w : World) (R : W.Post) : Prop :=
  W.sel ((Int.tmod n13 43) == 0) (S49 l1 e5 m6 link10 to11 i12 n13 j19 p20 w R) (S50 l1 e5 m6 link10 to11 i12 n13 j19 p20 w R)
def KE_S48 (E : W.Env) (w : World) (R : W.Post) : Prop := W.asSlice (W.Env.get? E 1) fun l1 => W.asSlice (W.Env.get? E 5) fun e5 => W.asSlice (W.Env.get? E 6) fun m6 => W.asSlice (W.Env.get? E 10) fun link10 => W.asSlice (W.Env.get? E 11) fun to11 => W.asInt .i64 (W.Env.get? E 12) fun i12 => W.asInt .i64 (W.Env.get? E 13) fun n13 => W.asInt .i64 (W.Env.get? E 19) fun j19 => W.asRef (W.Env.get? E 20) fun p20 => S48 l1 e5 m6 link10 to11 i12 n13 j19 p20 w R
theorem KE_S48_ok (R : W.Post) (E : W.Env) (w : World) (h : KE_S48 E w R) : W.WP Try.prog 215 C123 (Q26 R) E w := by
  obtain ⟨l1, hq1, h1⟩ := W.asSlice_elim h
  obtain ⟨e5, hq5, h2⟩ := W.asSlice_elim h1
  obtain ⟨m6, hq6, h3⟩ := W.asSlice_elim h2
  obtain ⟨link10, hq10, h4⟩ := W.asSlice_elim h3
  obtain ⟨to11, hq11, h5⟩ := W.asSlice_elim h4
  obtain ⟨i12, hq12, h6⟩ := W.asInt_elim h5
  obtain ⟨n13, hq13, h7⟩ := W.asInt_elim h6
  obtain ⟨j19, hq19, h8⟩ := W.asInt_elim h7
  obtain ⟨p20, hq20, h9⟩ := W.asRef_elim h8
  exact fun a ha => W.WP.at (E := [(1, l1.v), (5, e5.v), (6, m6.v), (10, link10.v), (11, to11.v), (12, .int .i64 i12), (13, .int .i64 n13), (19, .int .i64 j19), (20, .pointer (some p20))]) (W.WP.seq (c := C123) (x := C126) (y := C124) (by kernel_rfl) <| W.WP.reg (c := C126) (fun E w => W.condK (W.Env.val E (.tmp 98)) (KE_S49 E w R) (KE_S50 E w R)) (by kernel_rfl) (Eq.mp (by kernel_rfl) h9) fun _ _ a hA hK => (W.WP.condK (c := C124) (x := C125) (y := C127) (o := .tmp 98) (by kernel_rfl) (fun hK => (KE_S49_ok R _ _ hK)) (fun hK => (W.WP.skip (c := C127) (by kernel_rfl) fun a hA => (W.WP.seq (c := C110) (x := C118) (y := C111) (by kernel_rfl) (KE_S50_ok R _ _ hK)) a hA)) hK) a hA) (ha.cons hq1 (ha.cons hq5 (ha.cons hq6 (ha.cons hq10 (ha.cons hq11 (ha.cons hq12 (ha.cons hq13 (ha.cons hq19 (ha.cons hq20 ha.nil)))))))))
noncomputable def C128 : Code := W.Code.fst C108
noncomputable def C129 : Code := W.Code.snd C128
noncomputable def C130 : Code := W.Code.fst C129
abbrev Q27 (R : W.Post) : Exit → Act → World → Prop := (Exit.then (Code.wp Try.prog C109 (Exit.inBlock 4 (Q10 R))) (Exit.inBlock 4 (Q10 R)))
/-- law.go:113 -/
def S47 (l1 e5 m6 link10 to11 : W.Sl) (i12 n13 j19 : Int) (p20 : Addr) (w : World) (R : W.Post) : Prop :=
  (w.cell? (p20.add 0)).isSome = true ∧ w.frozen? (p20.add 0) = false ∧ let w1 := w.setCell (p20.add 0) (.int .i64 (Int.tmod (IntKind.wrap .i64 (Int.tdiv n13 41)) 40))
  S48 l1 e5 m6 link10 to11 i12 n13 j19 p20 w1 R
def KE_S47 (E : W.Env) (w : World) (R : W.Post) : Prop := W.asSlice (W.Env.get? E 1) fun l1 => W.asSlice (W.Env.get? E 5) fun e5 => W.asSlice (W.Env.get? E 6) fun m6 => W.asSlice (W.Env.get? E 10) fun link10 => W.asSlice (W.Env.get? E 11) fun to11 => W.asInt .i64 (W.Env.get? E 12) fun i12 => W.asInt .i64 (W.Env.get? E 13) fun n13 => W.asInt .i64 (W.Env.get? E 19) fun j19 => W.asRef (W.Env.get? E 20) fun p20 => S47 l1 e5 m6 link10 to11 i12 n13 j19 p20 w R
theorem KE_S47_ok (R : W.Post) (E : W.Env) (w : World) (h : KE_S47 E w R) : W.WP Try.prog 215 C130 (Q27 R) E w := by
  obtain ⟨l1, hq1, h1⟩ := W.asSlice_elim h
  obtain ⟨e5, hq5, h2⟩ := W.asSlice_elim h1
  obtain ⟨m6, hq6, h3⟩ := W.asSlice_elim h2
  obtain ⟨link10, hq10, h4⟩ := W.asSlice_elim h3
  obtain ⟨to11, hq11, h5⟩ := W.asSlice_elim h4
  obtain ⟨i12, hq12, h6⟩ := W.asInt_elim h5
  obtain ⟨n13, hq13, h7⟩ := W.asInt_elim h6
  obtain ⟨j19, hq19, h8⟩ := W.asInt_elim h7
  obtain ⟨p20, hq20, h9⟩ := W.asRef_elim h8
  exact fun a ha => W.WP.at (E := [(1, l1.v), (5, e5.v), (6, m6.v), (10, link10.v), (11, to11.v), (12, .int .i64 i12), (13, .int .i64 n13), (19, .int .i64 j19), (20, .pointer (some p20))]) (W.WP.reg (c := C130) (fun E w => KE_S48 E w R) (by kernel_rfl) (Eq.mp (by kernel_rfl) h9) fun _ _ a hA hK => (W.WP.seq (c := C109) (x := C123) (y := C110) (by kernel_rfl) (KE_S48_ok R _ _ hK)) a hA) (ha.cons hq1 (ha.cons hq5 (ha.cons hq6 (ha.cons hq10 (ha.cons hq11 (ha.cons hq12 (ha.cons hq13 (ha.cons hq19 (ha.cons hq20 ha.nil)))))))))
noncomputable def C131 : Code := W.Code.fst C128
noncomputable def C132 : Code := W.Code.snd C129
/-- law.go:112 -/
def S46 (l1 e5 m6 link10 to11 : W.Sl) (i12 n13 j19 : Int) (p20 : Addr) (w : World) (R : W.Post) : Prop :=
  W.sel ((Int.tmod n13 41) == 0) (S47 l1 e5 m6 link10 to11 i12 n13 j19 p20 w R) (S48 l1 e5 m6 link10 to11 i12 n13 j19 p20 w R)
def KE_S46 (E : W.Env) (w : World) (R : W.Post) : Prop := W.asSlice (W.Env.get? E 1) fun l1 => W.asSlice (W.Env.get? E 5) fun e5 => W.asSlice (W.Env.get? E 6) fun m6 => W.asSlice (W.Env.get? E 10) fun link10 => W.asSlice (W.Env.get? E 11) fun to11 => W.asInt .i64 (W.Env.get? E 12) fun i12 => W.asInt .i64 (W.Env.get? E 13) fun n13 => W.asInt .i64 (W.Env.get? E 19) fun j19 => W.asRef (W.Env.get? E 20) fun p20 => S46 l1 e5 m6 link10 to11 i12 n13 j19 p20 w R
theorem KE_S46_ok (R : W.Post) (E : W.Env) (w : World) (h : KE_S46 E w R) : W.WP Try.prog 215 C128 (Q27 R) E w := by
  obtain ⟨l1, hq1, h1⟩ := W.asSlice_elim h
  obtain ⟨e5, hq5, h2⟩ := W.asSlice_elim h1
  obtain ⟨m6, hq6, h3⟩ := W.asSlice_elim h2
  obtain ⟨link10, hq10, h4⟩ := W.asSlice_elim h3
  obtain ⟨to11, hq11, h5⟩ := W.asSlice_elim h4
  obtain ⟨i12, hq12, h6⟩ := W.asInt_elim h5
  obtain ⟨n13, hq13, h7⟩ := W.asInt_elim h6
  obtain ⟨j19, hq19, h8⟩ := W.asInt_elim h7
  obtain ⟨p20, hq20, h9⟩ := W.asRef_elim h8
  exact fun a ha => W.WP.at (E := [(1, l1.v), (5, e5.v), (6, m6.v), (10, link10.v), (11, to11.v), (12, .int .i64 i12), (13, .int .i64 n13), (19, .int .i64 j19), (20, .pointer (some p20))]) (W.WP.seq (c := C128) (x := C131) (y := C129) (by kernel_rfl) <| W.WP.reg (c := C131) (fun E w => W.condK (W.Env.val E (.tmp 91)) (KE_S47 E w R) (KE_S48 E w R)) (by kernel_rfl) (Eq.mp (by kernel_rfl) h9) fun _ _ a hA hK => (W.WP.condK (c := C129) (x := C130) (y := C132) (o := .tmp 91) (by kernel_rfl) (fun hK => (KE_S47_ok R _ _ hK)) (fun hK => (W.WP.skip (c := C132) (by kernel_rfl) fun a hA => (W.WP.seq (c := C109) (x := C123) (y := C110) (by kernel_rfl) (KE_S48_ok R _ _ hK)) a hA)) hK) a hA) (ha.cons hq1 (ha.cons hq5 (ha.cons hq6 (ha.cons hq10 (ha.cons hq11 (ha.cons hq12 (ha.cons hq13 (ha.cons hq19 (ha.cons hq20 ha.nil)))))))))
noncomputable def C133 : Code := W.Code.fst C107
/-- law.go:111 -/
def S45 (l1 e5 m6 link10 to11 : W.Sl) (i12 n13 j19 : Int) (w : World) (R : W.Post) : Prop :=
  (0 : Int) ≤ j19 ∧ j19 < ((link10.n : Nat) : Int) ∧ W.optP link10.a fun t87_p => ∃ t88_0 : Int, ∃ t88_1 : Int, ∃ t88_2 : W.Sl, w.cell? ((t87_p.add (Int.toNat j19 * 3)).add 0) = some (.int .i64 t88_0) ∧ w.cell? ((t87_p.add (Int.toNat j19 * 3)).add 1) = some (.int .i64 t88_1) ∧ w.cell? ((t87_p.add (Int.toNat j19 * 3)).add 2) = some (t88_2.v) ∧ 
  let w1 := w.alloc (.cells #[.int .i64 0, .int .i64 0, .slice none 0 0] ty_enthymemeref38_Packet)
  (w1.cell? (Addr.mk w.heap.size 0 none)).isSome = true ∧ w1.frozen? (Addr.mk w.heap.size 0 none) = false ∧ let w2 := w1.setCell (Addr.mk w.heap.size 0 none) (.int .i64 t88_0)
  (w2.cell? ((Addr.mk w.heap.size 0 none).add 1)).isSome = true ∧ w2.frozen? ((Addr.mk w.heap.size 0 none).add 1) = false ∧ let w3 := w2.setCell ((Addr.mk w.heap.size 0 none).add 1) (.int .i64 t88_1)
  (w3.cell? ((Addr.mk w.heap.size 0 none).add 2)).isSome = true ∧ w3.frozen? ((Addr.mk w.heap.size 0 none).add 2) = false ∧ let w4 := w3.setCell ((Addr.mk w.heap.size 0 none).add 2) (t88_2.v)
  S46 l1 e5 m6 link10 to11 i12 n13 j19 (Addr.mk w.heap.size 0 none) w4 R
def KE_S45 (E : W.Env) (w : World) (R : W.Post) : Prop := W.asSlice (W.Env.get? E 1) fun l1 => W.asSlice (W.Env.get? E 5) fun e5 => W.asSlice (W.Env.get? E 6) fun m6 => W.asSlice (W.Env.get? E 10) fun link10 => W.asSlice (W.Env.get? E 11) fun to11 => W.asInt .i64 (W.Env.get? E 12) fun i12 => W.asInt .i64 (W.Env.get? E 13) fun n13 => W.asInt .i64 (W.Env.get? E 19) fun j19 => S45 l1 e5 m6 link10 to11 i12 n13 j19 w R
theorem KE_S45_ok (R : W.Post) (E : W.Env) (w : World) (h : KE_S45 E w R) : W.WP Try.prog 215 C107 (Q11 R) E w := by
  obtain ⟨l1, hq1, h1⟩ := W.asSlice_elim h
  obtain ⟨e5, hq5, h2⟩ := W.asSlice_elim h1
  obtain ⟨m6, hq6, h3⟩ := W.asSlice_elim h2
  obtain ⟨link10, hq10, h4⟩ := W.asSlice_elim h3
  obtain ⟨to11, hq11, h5⟩ := W.asSlice_elim h4
  obtain ⟨i12, hq12, h6⟩ := W.asInt_elim h5
  obtain ⟨n13, hq13, h7⟩ := W.asInt_elim h6
  obtain ⟨j19, hq19, h8⟩ := W.asInt_elim h7
  exact fun a ha => W.WP.at (E := [(1, l1.v), (5, e5.v), (6, m6.v), (10, link10.v), (11, to11.v), (12, .int .i64 i12), (13, .int .i64 n13), (19, .int .i64 j19)]) (W.WP.seq (c := C107) (x := C133) (y := C108) (by kernel_rfl) <| W.WP.reg (c := C133) (fun E w => KE_S46 E w R) (by kernel_rfl) (Eq.mp (by kernel_rfl) h8) fun _ _ a hA hK => (W.WP.seq (c := C108) (x := C128) (y := C109) (by kernel_rfl) (KE_S46_ok R _ _ hK)) a hA) (ha.cons hq1 (ha.cons hq5 (ha.cons hq6 (ha.cons hq10 (ha.cons hq11 (ha.cons hq12 (ha.cons hq13 (ha.cons hq19 ha.nil))))))))
noncomputable def C134 : Code := W.Code.fst C106
/-- law.go:110 -/
def S44 (l1 e5 m6 link10 to11 : W.Sl) (i12 n13 : Int) (w : World) (R : W.Post) : Prop :=
  (if 20 < ((link10.n : Nat) : Int) then 20 else ((link10.n : Nat) : Int)) ≠ 0 ∧ S45 l1 e5 m6 link10 to11 i12 n13 (IntKind.wrap .i64 ((IntKind.wrap .i64 (((link10.n : Nat) : Int) - 1)) - (Int.tmod (IntKind.wrap .i64 (Int.tdiv n13 2)) (if 20 < ((link10.n : Nat) : Int) then 20 else ((link10.n : Nat) : Int))))) w R
def KE_S44 (E : W.Env) (w : World) (R : W.Post) : Prop := W.asSlice (W.Env.get? E 1) fun l1 => W.asSlice (W.Env.get? E 5) fun e5 => W.asSlice (W.Env.get? E 6) fun m6 => W.asSlice (W.Env.get? E 10) fun link10 => W.asSlice (W.Env.get? E 11) fun to11 => W.asInt .i64 (W.Env.get? E 12) fun i12 => W.asInt .i64 (W.Env.get? E 13) fun n13 => S44 l1 e5 m6 link10 to11 i12 n13 w R
theorem KE_S44_ok (R : W.Post) (E : W.Env) (w : World) (h : KE_S44 E w R) : W.WP Try.prog 215 C106 (Q11 R) E w := by
  obtain ⟨l1, hq1, h1⟩ := W.asSlice_elim h
  obtain ⟨e5, hq5, h2⟩ := W.asSlice_elim h1
  obtain ⟨m6, hq6, h3⟩ := W.asSlice_elim h2
  obtain ⟨link10, hq10, h4⟩ := W.asSlice_elim h3
  obtain ⟨to11, hq11, h5⟩ := W.asSlice_elim h4
  obtain ⟨i12, hq12, h6⟩ := W.asInt_elim h5
  obtain ⟨n13, hq13, h7⟩ := W.asInt_elim h6
  exact fun a ha => W.WP.at (E := [(1, l1.v), (5, e5.v), (6, m6.v), (10, link10.v), (11, to11.v), (12, .int .i64 i12), (13, .int .i64 n13)]) (W.WP.seq (c := C106) (x := C134) (y := C107) (by kernel_rfl) <| W.WP.reg (c := C134) (fun E w => KE_S45 E w R) (by kernel_rfl) (Eq.mp (by kernel_rfl) h7) fun _ _ a hA hK => (KE_S45_ok R _ _ hK) a hA) (ha.cons hq1 (ha.cons hq5 (ha.cons hq6 (ha.cons hq10 (ha.cons hq11 (ha.cons hq12 (ha.cons hq13 ha.nil)))))))
noncomputable def C135 : Code := W.Code.fst C105
abbrev Q28 (R : W.Post) : Exit → Act → World → Prop := (Exit.then (Code.wp Try.prog C106 (Exit.inBlock 4 (Q10 R))) (Exit.inBlock 4 (Q10 R)))
noncomputable def C136 : Code := W.Code.fst C135
noncomputable def C137 : Code := W.Code.snd C135
noncomputable def C138 : Code := W.Code.fst C137
noncomputable def C139 : Code := W.Code.snd C137
/-- law.go:107 -/
def S43 (l1 e5 m6 link10 to11 : W.Sl) (i12 n13 : Int) (w : World) (R : W.Post) : Prop :=
  W.sel (((link10.n : Nat) : Int) == 0) (S31 l1 e5 m6 link10 to11 i12 w R) (S44 l1 e5 m6 link10 to11 i12 n13 w R)
def KE_S43 (E : W.Env) (w : World) (R : W.Post) : Prop := W.asSlice (W.Env.get? E 1) fun l1 => W.asSlice (W.Env.get? E 5) fun e5 => W.asSlice (W.Env.get? E 6) fun m6 => W.asSlice (W.Env.get? E 10) fun link10 => W.asSlice (W.Env.get? E 11) fun to11 => W.asInt .i64 (W.Env.get? E 12) fun i12 => W.asInt .i64 (W.Env.get? E 13) fun n13 => S43 l1 e5 m6 link10 to11 i12 n13 w R
theorem KE_S43_ok (R : W.Post) (E : W.Env) (w : World) (h : KE_S43 E w R) : W.WP Try.prog 215 C135 (Q28 R) E w := by
  obtain ⟨l1, hq1, h1⟩ := W.asSlice_elim h
  obtain ⟨e5, hq5, h2⟩ := W.asSlice_elim h1
  obtain ⟨m6, hq6, h3⟩ := W.asSlice_elim h2
  obtain ⟨link10, hq10, h4⟩ := W.asSlice_elim h3
  obtain ⟨to11, hq11, h5⟩ := W.asSlice_elim h4
  obtain ⟨i12, hq12, h6⟩ := W.asInt_elim h5
  obtain ⟨n13, hq13, h7⟩ := W.asInt_elim h6
  exact fun a ha => W.WP.at (E := [(1, l1.v), (5, e5.v), (6, m6.v), (10, link10.v), (11, to11.v), (12, .int .i64 i12), (13, .int .i64 n13)]) (W.WP.seq (c := C135) (x := C136) (y := C137) (by kernel_rfl) <| W.WP.reg (c := C136) (fun E w => W.condK (W.Env.val E (.tmp 74)) (KE_S31 E w R) (KE_S44 E w R)) (by kernel_rfl) (Eq.mp (by kernel_rfl) h7) fun _ _ a hA hK => (W.WP.condK (c := C137) (x := C138) (y := C139) (o := .tmp 74) (by kernel_rfl) (fun hK => (W.WP.exit (c := C138) (id := 3) (by kernel_rfl) fun a hA => (KE_S31_ok R _ _ hK) a hA)) (fun hK => (W.WP.skip (c := C139) (by kernel_rfl) fun a hA => (KE_S44_ok R _ _ hK) a hA)) hK) a hA) (ha.cons hq1 (ha.cons hq5 (ha.cons hq6 (ha.cons hq10 (ha.cons hq11 (ha.cons hq12 (ha.cons hq13 ha.nil)))))))
noncomputable def C140 : Code := W.Code.fst C75
noncomputable def C141 : Code := W.Code.snd C140
noncomputable def C142 : Code := W.Code.snd C141
abbrev Q29 (R : W.Post) : Exit → Act → World → Prop := (Exit.then (Code.wp Try.prog C76 (Exit.inBlock 4 (Q10 R))) (Exit.inBlock 4 (Q10 R)))
/-- law.go:96 -/
def S54 (l1 e5 m6 link10 to11 : W.Sl) (i12 n13 k14 t71 : Int) (w : World) (R : W.Post) : Prop :=
  W.sel (t71 == 3) (S33 l1 e5 m6 link10 to11 i12 k14 w R) (S43 l1 e5 m6 link10 to11 i12 n13 w R)
def KE_S54 (E : W.Env) (w : World) (R : W.Post) : Prop := W.asSlice (W.Env.get? E 1) fun l1 => W.asSlice (W.Env.get? E 5) fun e5 => W.asSlice (W.Env.get? E 6) fun m6 => W.asSlice (W.Env.get? E 10) fun link10 => W.asSlice (W.Env.get? E 11) fun to11 => W.asInt .i64 (W.Env.get? E 12) fun i12 => W.asInt .i64 (W.Env.get? E 13) fun n13 => W.asInt .i64 (W.Env.get? E 14) fun k14 => W.asInt .i64 (W.Env.get? E 71) fun t71 => S54 l1 e5 m6 link10 to11 i12 n13 k14 t71 w R
theorem KE_S54_ok (R : W.Post) (E : W.Env) (w : World) (h : KE_S54 E w R) : W.WP Try.prog 215 C142 (Q29 R) E w := by
  obtain ⟨l1, hq1, h1⟩ := W.asSlice_elim h
  obtain ⟨e5, hq5, h2⟩ := W.asSlice_elim h1
  obtain ⟨m6, hq6, h3⟩ := W.asSlice_elim h2
  obtain ⟨link10, hq10, h4⟩ := W.asSlice_elim h3
  obtain ⟨to11, hq11, h5⟩ := W.asSlice_elim h4
  obtain ⟨i12, hq12, h6⟩ := W.asInt_elim h5
  obtain ⟨n13, hq13, h7⟩ := W.asInt_elim h6
  obtain ⟨k14, hq14, h8⟩ := W.asInt_elim h7
  obtain ⟨t71, hq71, h9⟩ := W.asInt_elim h8
  exact fun a ha => W.WP.at (E := [(1, l1.v), (5, e5.v), (6, m6.v), (10, link10.v), (11, to11.v), (12, .int .i64 i12), (13, .int .i64 n13), (14, .int .i64 k14), (71, .int .i64 t71)]) (W.WP.reg (c := C142) (fun E w => W.condK (W.Env.val E (.tmp 153)) (KE_S33 E w R) (KE_S43 E w R)) (by kernel_rfl) (Eq.mp (by kernel_rfl) h9) fun _ _ a hA hK => (W.WP.condK (c := C76) (x := C77) (y := C105) (o := .tmp 153) (by kernel_rfl) (fun hK => (KE_S33_ok R _ _ hK)) (fun hK => (W.WP.seq (c := C105) (x := C135) (y := C106) (by kernel_rfl) (KE_S43_ok R _ _ hK))) hK) a hA) (ha.cons hq1 (ha.cons hq5 (ha.cons hq6 (ha.cons hq10 (ha.cons hq11 (ha.cons hq12 (ha.cons hq13 (ha.cons hq14 (ha.cons hq71 ha.nil)))))))))
noncomputable def C143 : Code := W.Code.fst C140
noncomputable def C144 : Code := W.Code.fst C141
/-- law.go:96 -/
def S32 (l1 e5 m6 link10 to11 : W.Sl) (i12 n13 k14 t71 : Int) (w : World) (R : W.Post) : Prop :=
  W.sel (t71 == 2) (W.sel (t71 == 2) (S33 l1 e5 m6 link10 to11 i12 k14 w R) (S43 l1 e5 m6 link10 to11 i12 n13 w R)) (S54 l1 e5 m6 link10 to11 i12 n13 k14 t71 w R)
def KE_S32 (E : W.Env) (w : World) (R : W.Post) : Prop := W.asSlice (W.Env.get? E 1) fun l1 => W.asSlice (W.Env.get? E 5) fun e5 => W.asSlice (W.Env.get? E 6) fun m6 => W.asSlice (W.Env.get? E 10) fun link10 => W.asSlice (W.Env.get? E 11) fun to11 => W.asInt .i64 (W.Env.get? E 12) fun i12 => W.asInt .i64 (W.Env.get? E 13) fun n13 => W.asInt .i64 (W.Env.get? E 14) fun k14 => W.asInt .i64 (W.Env.get? E 71) fun t71 => S32 l1 e5 m6 link10 to11 i12 n13 k14 t71 w R
theorem KE_S32_ok (R : W.Post) (E : W.Env) (w : World) (h : KE_S32 E w R) : W.WP Try.prog 215 C140 (Q29 R) E w := by
  obtain ⟨l1, hq1, h1⟩ := W.asSlice_elim h
  obtain ⟨e5, hq5, h2⟩ := W.asSlice_elim h1
  obtain ⟨m6, hq6, h3⟩ := W.asSlice_elim h2
  obtain ⟨link10, hq10, h4⟩ := W.asSlice_elim h3
  obtain ⟨to11, hq11, h5⟩ := W.asSlice_elim h4
  obtain ⟨i12, hq12, h6⟩ := W.asInt_elim h5
  obtain ⟨n13, hq13, h7⟩ := W.asInt_elim h6
  obtain ⟨k14, hq14, h8⟩ := W.asInt_elim h7
  obtain ⟨t71, hq71, h9⟩ := W.asInt_elim h8
  exact fun a ha => W.WP.at (E := [(1, l1.v), (5, e5.v), (6, m6.v), (10, link10.v), (11, to11.v), (12, .int .i64 i12), (13, .int .i64 n13), (14, .int .i64 k14), (71, .int .i64 t71)]) (W.WP.seq (c := C140) (x := C143) (y := C141) (by kernel_rfl) <| W.WP.reg (c := C143) (fun E w => W.condK (W.Env.val E (.tmp 153)) (W.condK (W.Env.val E (.tmp 153)) (KE_S33 E w R) (KE_S43 E w R)) (KE_S54 E w R)) (by kernel_rfl) (Eq.mp (by kernel_rfl) h9) fun _ _ a hA hK => (W.WP.condK (c := C141) (x := C144) (y := C142) (o := .tmp 153) (by kernel_rfl) (fun hK => (W.WP.skip (c := C144) (by kernel_rfl) fun a hA => (W.WP.condK (c := C76) (x := C77) (y := C105) (o := .tmp 153) (by kernel_rfl) (fun hK => (KE_S33_ok R _ _ hK)) (fun hK => (W.WP.seq (c := C105) (x := C135) (y := C106) (by kernel_rfl) (KE_S43_ok R _ _ hK))) hK) a hA)) (fun hK => (KE_S54_ok R _ _ hK)) hK) a hA) (ha.cons hq1 (ha.cons hq5 (ha.cons hq6 (ha.cons hq10 (ha.cons hq11 (ha.cons hq12 (ha.cons hq13 (ha.cons hq14 (ha.cons hq71 ha.nil)))))))))
noncomputable def C145 : Code := W.Code.fst C43
noncomputable def C146 : Code := W.Code.snd C145
noncomputable def C147 : Code := W.Code.snd C146
abbrev Q30 (R : W.Post) : Exit → Act → World → Prop := (Exit.then (Code.wp Try.prog C44 (Exit.inBlock 4 (Q10 R))) (Exit.inBlock 4 (Q10 R)))
/-- law.go:91 -/
def S55 (l1 e5 m6 link10 to11 : W.Sl) (i12 n13 k14 t71 : Int) (w : World) (R : W.Post) : Prop :=
  W.sel (t71 == 1) (S22 l1 e5 m6 link10 to11 i12 n13 k14 w R) (S32 l1 e5 m6 link10 to11 i12 n13 k14 t71 w R)
def KE_S55 (E : W.Env) (w : World) (R : W.Post) : Prop := W.asSlice (W.Env.get? E 1) fun l1 => W.asSlice (W.Env.get? E 5) fun e5 => W.asSlice (W.Env.get? E 6) fun m6 => W.asSlice (W.Env.get? E 10) fun link10 => W.asSlice (W.Env.get? E 11) fun to11 => W.asInt .i64 (W.Env.get? E 12) fun i12 => W.asInt .i64 (W.Env.get? E 13) fun n13 => W.asInt .i64 (W.Env.get? E 14) fun k14 => W.asInt .i64 (W.Env.get? E 71) fun t71 => S55 l1 e5 m6 link10 to11 i12 n13 k14 t71 w R
theorem KE_S55_ok (R : W.Post) (E : W.Env) (w : World) (h : KE_S55 E w R) : W.WP Try.prog 215 C147 (Q30 R) E w := by
  obtain ⟨l1, hq1, h1⟩ := W.asSlice_elim h
  obtain ⟨e5, hq5, h2⟩ := W.asSlice_elim h1
  obtain ⟨m6, hq6, h3⟩ := W.asSlice_elim h2
  obtain ⟨link10, hq10, h4⟩ := W.asSlice_elim h3
  obtain ⟨to11, hq11, h5⟩ := W.asSlice_elim h4
  obtain ⟨i12, hq12, h6⟩ := W.asInt_elim h5
  obtain ⟨n13, hq13, h7⟩ := W.asInt_elim h6
  obtain ⟨k14, hq14, h8⟩ := W.asInt_elim h7
  obtain ⟨t71, hq71, h9⟩ := W.asInt_elim h8
  exact fun a ha => W.WP.at (E := [(1, l1.v), (5, e5.v), (6, m6.v), (10, link10.v), (11, to11.v), (12, .int .i64 i12), (13, .int .i64 n13), (14, .int .i64 k14), (71, .int .i64 t71)]) (W.WP.reg (c := C147) (fun E w => W.condK (W.Env.val E (.tmp 132)) (KE_S22 E w R) (KE_S32 E w R)) (by kernel_rfl) (Eq.mp (by kernel_rfl) h9) fun _ _ a hA hK => (W.WP.condK (c := C44) (x := C45) (y := C75) (o := .tmp 132) (by kernel_rfl) (fun hK => (KE_S22_ok R _ _ hK)) (fun hK => (W.WP.seq (c := C75) (x := C140) (y := C76) (by kernel_rfl) (KE_S32_ok R _ _ hK))) hK) a hA) (ha.cons hq1 (ha.cons hq5 (ha.cons hq6 (ha.cons hq10 (ha.cons hq11 (ha.cons hq12 (ha.cons hq13 (ha.cons hq14 (ha.cons hq71 ha.nil)))))))))
noncomputable def C148 : Code := W.Code.fst C145
noncomputable def C149 : Code := W.Code.fst C146
/-- law.go:91 -/
def S21 (l1 e5 m6 link10 to11 : W.Sl) (i12 n13 k14 t71 : Int) (w : World) (R : W.Post) : Prop :=
  W.sel (t71 == 0) (W.sel (t71 == 0) (S22 l1 e5 m6 link10 to11 i12 n13 k14 w R) (S32 l1 e5 m6 link10 to11 i12 n13 k14 t71 w R)) (S55 l1 e5 m6 link10 to11 i12 n13 k14 t71 w R)
def KE_S21 (E : W.Env) (w : World) (R : W.Post) : Prop := W.asSlice (W.Env.get? E 1) fun l1 => W.asSlice (W.Env.get? E 5) fun e5 => W.asSlice (W.Env.get? E 6) fun m6 => W.asSlice (W.Env.get? E 10) fun link10 => W.asSlice (W.Env.get? E 11) fun to11 => W.asInt .i64 (W.Env.get? E 12) fun i12 => W.asInt .i64 (W.Env.get? E 13) fun n13 => W.asInt .i64 (W.Env.get? E 14) fun k14 => W.asInt .i64 (W.Env.get? E 71) fun t71 => S21 l1 e5 m6 link10 to11 i12 n13 k14 t71 w R
theorem KE_S21_ok (R : W.Post) (E : W.Env) (w : World) (h : KE_S21 E w R) : W.WP Try.prog 215 C145 (Q30 R) E w := by
  obtain ⟨l1, hq1, h1⟩ := W.asSlice_elim h
  obtain ⟨e5, hq5, h2⟩ := W.asSlice_elim h1
  obtain ⟨m6, hq6, h3⟩ := W.asSlice_elim h2
  obtain ⟨link10, hq10, h4⟩ := W.asSlice_elim h3
  obtain ⟨to11, hq11, h5⟩ := W.asSlice_elim h4
  obtain ⟨i12, hq12, h6⟩ := W.asInt_elim h5
  obtain ⟨n13, hq13, h7⟩ := W.asInt_elim h6
  obtain ⟨k14, hq14, h8⟩ := W.asInt_elim h7
  obtain ⟨t71, hq71, h9⟩ := W.asInt_elim h8
  exact fun a ha => W.WP.at (E := [(1, l1.v), (5, e5.v), (6, m6.v), (10, link10.v), (11, to11.v), (12, .int .i64 i12), (13, .int .i64 n13), (14, .int .i64 k14), (71, .int .i64 t71)]) (W.WP.seq (c := C145) (x := C148) (y := C146) (by kernel_rfl) <| W.WP.reg (c := C148) (fun E w => W.condK (W.Env.val E (.tmp 132)) (W.condK (W.Env.val E (.tmp 132)) (KE_S22 E w R) (KE_S32 E w R)) (KE_S55 E w R)) (by kernel_rfl) (Eq.mp (by kernel_rfl) h9) fun _ _ a hA hK => (W.WP.condK (c := C146) (x := C149) (y := C147) (o := .tmp 132) (by kernel_rfl) (fun hK => (W.WP.skip (c := C149) (by kernel_rfl) fun a hA => (W.WP.condK (c := C44) (x := C45) (y := C75) (o := .tmp 132) (by kernel_rfl) (fun hK => (KE_S22_ok R _ _ hK)) (fun hK => (W.WP.seq (c := C75) (x := C140) (y := C76) (by kernel_rfl) (KE_S32_ok R _ _ hK))) hK) a hA)) (fun hK => (KE_S55_ok R _ _ hK)) hK) a hA) (ha.cons hq1 (ha.cons hq5 (ha.cons hq6 (ha.cons hq10 (ha.cons hq11 (ha.cons hq12 (ha.cons hq13 (ha.cons hq14 (ha.cons hq71 ha.nil)))))))))
noncomputable def C150 : Code := W.Code.fst C41
/-- law.go:90 -/
def S20 (l1 e5 m6 link10 to11 : W.Sl) (i12 n13 k14 : Int) (w : World) (R : W.Post) : Prop :=
  (0 : Int) ≤ i12 ∧ i12 < ((l1.n : Nat) : Int) ∧ W.optP l1.a fun t69_p => ∃ t70 : Int, w.cell? (t69_p.add (Int.toNat i12 * 1)) = some (.int .i64 t70) ∧ 
  Calls Try.prog n_enthymemeref01_Around #[.int .i64 t70, .int .i64 8] w fun r_ w1 => ∃ t71 : Int, r_ = .returned (.int .i64 t71) ∧ 
  S21 l1 e5 m6 link10 to11 i12 n13 k14 t71 w1 R
def KE_S20 (E : W.Env) (w : World) (R : W.Post) : Prop := W.asSlice (W.Env.get? E 1) fun l1 => W.asSlice (W.Env.get? E 5) fun e5 => W.asSlice (W.Env.get? E 6) fun m6 => W.asSlice (W.Env.get? E 10) fun link10 => W.asSlice (W.Env.get? E 11) fun to11 => W.asInt .i64 (W.Env.get? E 12) fun i12 => W.asInt .i64 (W.Env.get? E 13) fun n13 => W.asInt .i64 (W.Env.get? E 14) fun k14 => S20 l1 e5 m6 link10 to11 i12 n13 k14 w R
theorem KE_S20_ok (R : W.Post) (E : W.Env) (w : World) (h : KE_S20 E w R) : W.WP Try.prog 215 C41 (Q10 R) E w := by
  obtain ⟨l1, hq1, h1⟩ := W.asSlice_elim h
  obtain ⟨e5, hq5, h2⟩ := W.asSlice_elim h1
  obtain ⟨m6, hq6, h3⟩ := W.asSlice_elim h2
  obtain ⟨link10, hq10, h4⟩ := W.asSlice_elim h3
  obtain ⟨to11, hq11, h5⟩ := W.asSlice_elim h4
  obtain ⟨i12, hq12, h6⟩ := W.asInt_elim h5
  obtain ⟨n13, hq13, h7⟩ := W.asInt_elim h6
  obtain ⟨k14, hq14, h8⟩ := W.asInt_elim h7
  exact fun a ha => W.WP.at (E := [(1, l1.v), (5, e5.v), (6, m6.v), (10, link10.v), (11, to11.v), (12, .int .i64 i12), (13, .int .i64 n13), (14, .int .i64 k14)]) (W.WP.seq (c := C41) (x := C150) (y := C42) (by kernel_rfl) <| W.WP.reg (c := C150) (fun E w => KE_S21 E w R) (by kernel_rfl) (Eq.mp (by kernel_rfl) h8) fun _ _ a hA hK => (W.WP.block (c := C42) (x := C43) (id := 4) (by kernel_rfl) (W.WP.seq (c := C43) (x := C145) (y := C44) (by kernel_rfl) (KE_S21_ok R _ _ hK))) a hA) (ha.cons hq1 (ha.cons hq5 (ha.cons hq6 (ha.cons hq10 (ha.cons hq11 (ha.cons hq12 (ha.cons hq13 (ha.cons hq14 ha.nil))))))))
noncomputable def C151 : Code := W.Code.fst C39
/-- law.go:89 -/
def S19 (l1 e5 m6 link10 to11 : W.Sl) (i12 n13 : Int) (w : World) (R : W.Post) : Prop :=
  S20 l1 e5 m6 link10 to11 i12 n13 (Int.tmod n13 2) w R
def KE_S19 (E : W.Env) (w : World) (R : W.Post) : Prop := W.asSlice (W.Env.get? E 1) fun l1 => W.asSlice (W.Env.get? E 5) fun e5 => W.asSlice (W.Env.get? E 6) fun m6 => W.asSlice (W.Env.get? E 10) fun link10 => W.asSlice (W.Env.get? E 11) fun to11 => W.asInt .i64 (W.Env.get? E 12) fun i12 => W.asInt .i64 (W.Env.get? E 13) fun n13 => S19 l1 e5 m6 link10 to11 i12 n13 w R
theorem KE_S19_ok (R : W.Post) (E : W.Env) (w : World) (h : KE_S19 E w R) : W.WP Try.prog 215 C39 (Q12 R) E w := by
  obtain ⟨l1, hq1, h1⟩ := W.asSlice_elim h
  obtain ⟨e5, hq5, h2⟩ := W.asSlice_elim h1
  obtain ⟨m6, hq6, h3⟩ := W.asSlice_elim h2
  obtain ⟨link10, hq10, h4⟩ := W.asSlice_elim h3
  obtain ⟨to11, hq11, h5⟩ := W.asSlice_elim h4
  obtain ⟨i12, hq12, h6⟩ := W.asInt_elim h5
  obtain ⟨n13, hq13, h7⟩ := W.asInt_elim h6
  exact fun a ha => W.WP.at (E := [(1, l1.v), (5, e5.v), (6, m6.v), (10, link10.v), (11, to11.v), (12, .int .i64 i12), (13, .int .i64 n13)]) (W.WP.seq (c := C39) (x := C151) (y := C40) (by kernel_rfl) <| W.WP.reg (c := C151) (fun E w => KE_S20 E w R) (by kernel_rfl) (Eq.mp (by kernel_rfl) h7) fun _ _ a hA hK => (W.WP.seq (c := C40) (x := C41) (y := C50) (by kernel_rfl) (KE_S20_ok R _ _ hK)) a hA) (ha.cons hq1 (ha.cons hq5 (ha.cons hq6 (ha.cons hq10 (ha.cons hq11 (ha.cons hq12 (ha.cons hq13 ha.nil)))))))
noncomputable def C152 : Code := W.Code.fst C38
/-- law.go:88 -/
def S18 (l1 e5 m6 link10 to11 : W.Sl) (i12 : Int) (w : World) (R : W.Post) : Prop :=
  (0 : Int) ≤ i12 ∧ i12 < ((l1.n : Nat) : Int) ∧ W.optP l1.a fun t61_p => ∃ t62 : Int, w.cell? (t61_p.add (Int.toNat i12 * 1)) = some (.int .i64 t62) ∧ 
  Calls Try.prog n_enthymemeref01_Around #[.int .i64 (IntKind.wrap .i64 (Int.tdiv t62 8)), .int .i64 1073741824] w fun r_ w1 => ∃ t64 : Int, r_ = .returned (.int .i64 t64) ∧ 
  S19 l1 e5 m6 link10 to11 i12 t64 w1 R
def KE_S18 (E : W.Env) (w : World) (R : W.Post) : Prop := W.asSlice (W.Env.get? E 1) fun l1 => W.asSlice (W.Env.get? E 5) fun e5 => W.asSlice (W.Env.get? E 6) fun m6 => W.asSlice (W.Env.get? E 10) fun link10 => W.asSlice (W.Env.get? E 11) fun to11 => W.asInt .i64 (W.Env.get? E 12) fun i12 => S18 l1 e5 m6 link10 to11 i12 w R
theorem KE_S18_ok (R : W.Post) (E : W.Env) (w : World) (h : KE_S18 E w R) : W.WP Try.prog 215 C38 (Q12 R) E w := by
  obtain ⟨l1, hq1, h1⟩ := W.asSlice_elim h
  obtain ⟨e5, hq5, h2⟩ := W.asSlice_elim h1
  obtain ⟨m6, hq6, h3⟩ := W.asSlice_elim h2
  obtain ⟨link10, hq10, h4⟩ := W.asSlice_elim h3
  obtain ⟨to11, hq11, h5⟩ := W.asSlice_elim h4
  obtain ⟨i12, hq12, h6⟩ := W.asInt_elim h5
  exact fun a ha => W.WP.at (E := [(1, l1.v), (5, e5.v), (6, m6.v), (10, link10.v), (11, to11.v), (12, .int .i64 i12)]) (W.WP.seq (c := C38) (x := C152) (y := C39) (by kernel_rfl) <| W.WP.reg (c := C152) (fun E w => KE_S19 E w R) (by kernel_rfl) (Eq.mp (by kernel_rfl) h6) fun _ _ a hA hK => (KE_S19_ok R _ _ hK) a hA) (ha.cons hq1 (ha.cons hq5 (ha.cons hq6 (ha.cons hq10 (ha.cons hq11 (ha.cons hq12 ha.nil))))))
abbrev Q31 (R : W.Post) : Exit → Act → World → Prop := (bodyPost Try.prog Try.f3 R)
noncomputable def C153 : Code := W.Code.fst C35
noncomputable def C154 : Code := W.Code.snd C35
/-- law.go:131 -/
def S56  (w : World) (R : W.Post) : Prop :=
  Calls Try.prog n_enthymemelaw38_lives #[] w fun r_ w1 => ∃ t214 : Bool, r_ = .returned (.bool t214) ∧ 
  R (.returned (.bool t214)) w1
def KE_S56 (E : W.Env) (w : World) (R : W.Post) : Prop := S56  w R
theorem KE_S56_ok (R : W.Post) (E : W.Env) (w : World) (h : KE_S56 E w R) : W.WP Try.prog 215 C35 (Q31 R) E w := by
  exact fun a ha => W.WP.at (E := []) (W.WP.seq (c := C35) (x := C153) (y := C154) (by kernel_rfl) <| W.WP.reg (c := C153) (fun E w => W.retVC Try.prog Try.f3 E w (fun v => R (.returned v) w)) (by kernel_rfl) (Eq.mp (by kernel_rfl) h) fun _ _ a hA hK => (W.WP.ret (c := C154) (by kernel_rfl) fun a hA => W.retVC_sound hA hK) a hA) ha.nil
noncomputable def C155 : Code := W.Code.fst C34
abbrev Q32 (R : W.Post) : Exit → Act → World → Prop := (Exit.then (Code.wp Try.prog C36 (Exit.then (W.LoopWP Try.prog C34 (Q8 R)) (Q8 R))) (Exit.then (W.LoopWP Try.prog C34 (Q8 R)) (Q8 R)))
noncomputable def C156 : Code := W.Code.fst C155
noncomputable def C157 : Code := W.Code.snd C155
noncomputable def C158 : Code := W.Code.fst C157
noncomputable def C159 : Code := W.Code.snd C157
/-- law.go:87 -/
def S17 (l1 e5 m6 link10 to11 : W.Sl) (i12 : Int) (w : World) (R : W.Post) : Prop :=
  W.sel (decide (i12 < ((l1.n : Nat) : Int))) (W.sel (decide (i12 < 60)) (S18 l1 e5 m6 link10 to11 i12 w R) (S56  w R)) (S56  w R)
def KE_S17 (E : W.Env) (w : World) (R : W.Post) : Prop := W.asSlice (W.Env.get? E 1) fun l1 => W.asSlice (W.Env.get? E 5) fun e5 => W.asSlice (W.Env.get? E 6) fun m6 => W.asSlice (W.Env.get? E 10) fun link10 => W.asSlice (W.Env.get? E 11) fun to11 => W.asInt .i64 (W.Env.get? E 12) fun i12 => S17 l1 e5 m6 link10 to11 i12 w R
theorem KE_S17_ok (R : W.Post) (E : W.Env) (w : World) (h : KE_S17 E w R) : W.WP Try.prog 215 C155 (Q32 R) E w := by
  obtain ⟨l1, hq1, h1⟩ := W.asSlice_elim h
  obtain ⟨e5, hq5, h2⟩ := W.asSlice_elim h1
  obtain ⟨m6, hq6, h3⟩ := W.asSlice_elim h2
  obtain ⟨link10, hq10, h4⟩ := W.asSlice_elim h3
  obtain ⟨to11, hq11, h5⟩ := W.asSlice_elim h4
  obtain ⟨i12, hq12, h6⟩ := W.asInt_elim h5
  exact fun a ha => W.WP.at (E := [(1, l1.v), (5, e5.v), (6, m6.v), (10, link10.v), (11, to11.v), (12, .int .i64 i12)]) (W.WP.seq (c := C155) (x := C156) (y := C157) (by kernel_rfl) <| W.WP.reg (c := C156) (fun E w => W.condK (W.Env.val E (.tmp 56)) (KE_S18 E w R) (KE_S56 E w R)) (by kernel_rfl) (Eq.mp (by kernel_rfl) h6) fun _ _ a hA hK => (W.WP.condK (c := C157) (x := C158) (y := C159) (o := .tmp 56) (by kernel_rfl) (fun hK => (W.WP.skip (c := C158) (by kernel_rfl) fun a hA => (W.WP.seq (c := C36) (x := C37) (y := C49) (by kernel_rfl) (W.WP.block (c := C37) (x := C38) (id := 3) (by kernel_rfl) (KE_S18_ok R _ _ hK))) a hA)) (fun hK => (W.WP.exit (c := C159) (id := 2) (by kernel_rfl) fun a hA => (KE_S56_ok R _ _ hK) a hA)) hK) a hA) (ha.cons hq1 (ha.cons hq5 (ha.cons hq6 (ha.cons hq10 (ha.cons hq11 (ha.cons hq12 ha.nil))))))
theorem L16_step (l1 e5 m6 link10 to11 : W.Sl) (i12 : Int) (w : World) (R : W.Post) (h : S17 l1 e5 m6 link10 to11 i12 w R) : L16 l1 e5 m6 link10 to11 i12 w R :=
  W.LP.step (c := C34) (E := [(1, l1.v), (5, e5.v), (6, m6.v), (10, link10.v), (11, to11.v), (12, .int .i64 i12)]) (w := w) (W.WP.seq (c := C34) (x := C155) (y := C36) (by kernel_rfl) (KE_S17_ok R _ _ (Eq.mp (by kernel_rfl) h)))
noncomputable def C160 : Code := W.Code.fst C31
/-- law.go:87 -/
def S15 (l1 e5 m6 link10 to11 : W.Sl) (w : World) (R : W.Post) : Prop :=
  L16 l1 e5 m6 link10 to11 0 w R
def KE_S15 (E : W.Env) (w : World) (R : W.Post) : Prop := W.asSlice (W.Env.get? E 1) fun l1 => W.asSlice (W.Env.get? E 5) fun e5 => W.asSlice (W.Env.get? E 6) fun m6 => W.asSlice (W.Env.get? E 10) fun link10 => W.asSlice (W.Env.get? E 11) fun to11 => S15 l1 e5 m6 link10 to11 w R
theorem KE_S15_ok (R : W.Post) (E : W.Env) (w : World) (h : KE_S15 E w R) : W.WP Try.prog 215 C31 (Q7 R) E w := by
  obtain ⟨l1, hq1, h1⟩ := W.asSlice_elim h
  obtain ⟨e5, hq5, h2⟩ := W.asSlice_elim h1
  obtain ⟨m6, hq6, h3⟩ := W.asSlice_elim h2
  obtain ⟨link10, hq10, h4⟩ := W.asSlice_elim h3
  obtain ⟨to11, hq11, h5⟩ := W.asSlice_elim h4
  exact fun a ha => W.WP.at (E := [(1, l1.v), (5, e5.v), (6, m6.v), (10, link10.v), (11, to11.v)]) (W.WP.seq (c := C31) (x := C160) (y := C32) (by kernel_rfl) <| W.WP.reg (c := C160) (fun E w => KE_L16 E w R) (by kernel_rfl) (Eq.mp (by kernel_rfl) h5) fun _ _ a hA hK => (W.WP.block (c := C32) (x := C33) (id := 2) (by kernel_rfl) (W.WP.loop (c := C33) (x := C34) (by kernel_rfl) (KE_L16_ok R _ _ hK))) a hA) (ha.cons hq1 (ha.cons hq5 (ha.cons hq6 (ha.cons hq10 (ha.cons hq11 ha.nil)))))
noncomputable def C161 : Code := W.Code.fst C29
/-- law.go:86 -/
def S14 (l1 e5 m6 link10 : W.Sl) (w : World) (R : W.Post) : Prop :=
  S15 l1 e5 m6 link10 ⟨none, 0, 0⟩ w R
def KE_S14 (E : W.Env) (w : World) (R : W.Post) : Prop := W.asSlice (W.Env.get? E 1) fun l1 => W.asSlice (W.Env.get? E 5) fun e5 => W.asSlice (W.Env.get? E 6) fun m6 => W.asSlice (W.Env.get? E 10) fun link10 => S14 l1 e5 m6 link10 w R
theorem KE_S14_ok (R : W.Post) (E : W.Env) (w : World) (h : KE_S14 E w R) : W.WP Try.prog 215 C29 (Q31 R) E w := by
  obtain ⟨l1, hq1, h1⟩ := W.asSlice_elim h
  obtain ⟨e5, hq5, h2⟩ := W.asSlice_elim h1
  obtain ⟨m6, hq6, h3⟩ := W.asSlice_elim h2
  obtain ⟨link10, hq10, h4⟩ := W.asSlice_elim h3
  exact fun a ha => W.WP.at (E := [(1, l1.v), (5, e5.v), (6, m6.v), (10, link10.v)]) (W.WP.seq (c := C29) (x := C161) (y := C30) (by kernel_rfl) <| W.WP.reg (c := C161) (fun E w => KE_S15 E w R) (by kernel_rfl) (Eq.mp (by kernel_rfl) h4) fun _ _ a hA hK => (W.WP.seq (c := C30) (x := C31) (y := C35) (by kernel_rfl) (KE_S15_ok R _ _ hK)) a hA) (ha.cons hq1 (ha.cons hq5 (ha.cons hq6 (ha.cons hq10 ha.nil))))
noncomputable def C162 : Code := W.Code.fst C14
/-- law.go:85 -/
def S13 (l1 e5 m6 : W.Sl) (w : World) (R : W.Post) : Prop :=
  S14 l1 e5 m6 ⟨none, 0, 0⟩ w R
def KE_S13 (E : W.Env) (w : World) (R : W.Post) : Prop := W.asSlice (W.Env.get? E 1) fun l1 => W.asSlice (W.Env.get? E 5) fun e5 => W.asSlice (W.Env.get? E 6) fun m6 => S13 l1 e5 m6 w R
theorem KE_S13_ok (R : W.Post) (E : W.Env) (w : World) (h : KE_S13 E w R) : W.WP Try.prog 215 C14 (Q31 R) E w := by
  obtain ⟨l1, hq1, h1⟩ := W.asSlice_elim h
  obtain ⟨e5, hq5, h2⟩ := W.asSlice_elim h1
  obtain ⟨m6, hq6, h3⟩ := W.asSlice_elim h2
  exact fun a ha => W.WP.at (E := [(1, l1.v), (5, e5.v), (6, m6.v)]) (W.WP.seq (c := C14) (x := C162) (y := C29) (by kernel_rfl) <| W.WP.reg (c := C162) (fun E w => KE_S14 E w R) (by kernel_rfl) (Eq.mp (by kernel_rfl) h3) fun _ _ a hA hK => (KE_S14_ok R _ _ hK) a hA) (ha.cons hq1 (ha.cons hq5 (ha.cons hq6 ha.nil)))
noncomputable def C163 : Code := W.Code.fst C13
abbrev Q33 (R : W.Post) : Exit → Act → World → Prop := (Exit.then (Code.wp Try.prog C15 (Exit.then (W.LoopWP Try.prog C13 (Q2 R)) (Q2 R))) (Exit.then (W.LoopWP Try.prog C13 (Q2 R)) (Q2 R)))
noncomputable def C164 : Code := W.Code.fst C163
noncomputable def C165 : Code := W.Code.snd C163
noncomputable def C166 : Code := W.Code.fst C165
noncomputable def C167 : Code := W.Code.snd C165
/-- law.go:78 -/
def S7 (window0 : Int) (l1 e5 m6 : W.Sl) (i7 : Int) (w : World) (R : W.Post) : Prop :=
  W.sel (decide (i7 < 2)) (S8 window0 l1 e5 m6 i7 w R) (S13 l1 e5 m6 w R)
def KE_S7 (E : W.Env) (w : World) (R : W.Post) : Prop := W.asInt .i64 (W.Env.get? E 0) fun window0 => W.asSlice (W.Env.get? E 1) fun l1 => W.asSlice (W.Env.get? E 5) fun e5 => W.asSlice (W.Env.get? E 6) fun m6 => W.asInt .i64 (W.Env.get? E 7) fun i7 => S7 window0 l1 e5 m6 i7 w R
theorem KE_S7_ok (R : W.Post) (E : W.Env) (w : World) (h : KE_S7 E w R) : W.WP Try.prog 215 C163 (Q33 R) E w := by
  obtain ⟨window0, hq0, h1⟩ := W.asInt_elim h
  obtain ⟨l1, hq1, h2⟩ := W.asSlice_elim h1
  obtain ⟨e5, hq5, h3⟩ := W.asSlice_elim h2
  obtain ⟨m6, hq6, h4⟩ := W.asSlice_elim h3
  obtain ⟨i7, hq7, h5⟩ := W.asInt_elim h4
  exact fun a ha => W.WP.at (E := [(0, .int .i64 window0), (1, l1.v), (5, e5.v), (6, m6.v), (7, .int .i64 i7)]) (W.WP.seq (c := C163) (x := C164) (y := C165) (by kernel_rfl) <| W.WP.reg (c := C164) (fun E w => W.condK (W.Env.val E (.tmp 27)) (KE_S8 E w R) (KE_S13 E w R)) (by kernel_rfl) (Eq.mp (by kernel_rfl) h5) fun _ _ a hA hK => (W.WP.condK (c := C165) (x := C166) (y := C167) (o := .tmp 27) (by kernel_rfl) (fun hK => (W.WP.skip (c := C166) (by kernel_rfl) fun a hA => (W.WP.seq (c := C15) (x := C16) (y := C22) (by kernel_rfl) (W.WP.block (c := C16) (x := C17) (id := 1) (by kernel_rfl) (KE_S8_ok R _ _ hK))) a hA)) (fun hK => (W.WP.exit (c := C167) (id := 0) (by kernel_rfl) fun a hA => (KE_S13_ok R _ _ hK) a hA)) hK) a hA) (ha.cons hq0 (ha.cons hq1 (ha.cons hq5 (ha.cons hq6 (ha.cons hq7 ha.nil)))))
theorem L6_step (window0 : Int) (l1 e5 m6 : W.Sl) (i7 : Int) (w : World) (R : W.Post) (h : S7 window0 l1 e5 m6 i7 w R) : L6 window0 l1 e5 m6 i7 w R :=
  W.LP.step (c := C13) (E := [(0, .int .i64 window0), (1, l1.v), (5, e5.v), (6, m6.v), (7, .int .i64 i7)]) (w := w) (W.WP.seq (c := C13) (x := C163) (y := C15) (by kernel_rfl) (KE_S7_ok R _ _ (Eq.mp (by kernel_rfl) h)))
noncomputable def C168 : Code := W.Code.fst C10
/-- law.go:78 -/
def S5 (window0 : Int) (l1 e5 m6 : W.Sl) (w : World) (R : W.Post) : Prop :=
  L6 window0 l1 e5 m6 0 w R
def KE_S5 (E : W.Env) (w : World) (R : W.Post) : Prop := W.asInt .i64 (W.Env.get? E 0) fun window0 => W.asSlice (W.Env.get? E 1) fun l1 => W.asSlice (W.Env.get? E 5) fun e5 => W.asSlice (W.Env.get? E 6) fun m6 => S5 window0 l1 e5 m6 w R
theorem KE_S5_ok (R : W.Post) (E : W.Env) (w : World) (h : KE_S5 E w R) : W.WP Try.prog 215 C10 (Q1 R) E w := by
  obtain ⟨window0, hq0, h1⟩ := W.asInt_elim h
  obtain ⟨l1, hq1, h2⟩ := W.asSlice_elim h1
  obtain ⟨e5, hq5, h3⟩ := W.asSlice_elim h2
  obtain ⟨m6, hq6, h4⟩ := W.asSlice_elim h3
  exact fun a ha => W.WP.at (E := [(0, .int .i64 window0), (1, l1.v), (5, e5.v), (6, m6.v)]) (W.WP.seq (c := C10) (x := C168) (y := C11) (by kernel_rfl) <| W.WP.reg (c := C168) (fun E w => KE_L6 E w R) (by kernel_rfl) (Eq.mp (by kernel_rfl) h4) fun _ _ a hA hK => (W.WP.block (c := C11) (x := C12) (id := 0) (by kernel_rfl) (W.WP.loop (c := C12) (x := C13) (by kernel_rfl) (KE_L6_ok R _ _ hK))) a hA) (ha.cons hq0 (ha.cons hq1 (ha.cons hq5 (ha.cons hq6 ha.nil))))
noncomputable def C169 : Code := W.Code.fst C6
/-- law.go:77 -/
def S4 (window0 : Int) (l1 e5 : W.Sl) (w : World) (R : W.Post) : Prop :=
  S5 window0 l1 e5 ⟨none, 0, 0⟩ w R
def KE_S4 (E : W.Env) (w : World) (R : W.Post) : Prop := W.asInt .i64 (W.Env.get? E 0) fun window0 => W.asSlice (W.Env.get? E 1) fun l1 => W.asSlice (W.Env.get? E 5) fun e5 => S4 window0 l1 e5 w R
theorem KE_S4_ok (R : W.Post) (E : W.Env) (w : World) (h : KE_S4 E w R) : W.WP Try.prog 215 C6 (Q31 R) E w := by
  obtain ⟨window0, hq0, h1⟩ := W.asInt_elim h
  obtain ⟨l1, hq1, h2⟩ := W.asSlice_elim h1
  obtain ⟨e5, hq5, h3⟩ := W.asSlice_elim h2
  exact fun a ha => W.WP.at (E := [(0, .int .i64 window0), (1, l1.v), (5, e5.v)]) (W.WP.seq (c := C6) (x := C169) (y := C9) (by kernel_rfl) <| W.WP.reg (c := C169) (fun E w => KE_S5 E w R) (by kernel_rfl) (Eq.mp (by kernel_rfl) h3) fun _ _ a hA hK => (W.WP.seq (c := C9) (x := C10) (y := C14) (by kernel_rfl) (KE_S5_ok R _ _ hK)) a hA) (ha.cons hq0 (ha.cons hq1 (ha.cons hq5 ha.nil)))
noncomputable def C170 : Code := W.Code.fst C3
noncomputable def C171 : Code := W.Code.snd C4
/-- law.go:74 -/
def S2 (window0 : Int) (l1 e5 : W.Sl) (w : World) (R : W.Post) : Prop :=
  W.sel e5.a.isNone (S3  w R) (S4 window0 l1 e5 w R)
def KE_S2 (E : W.Env) (w : World) (R : W.Post) : Prop := W.asInt .i64 (W.Env.get? E 0) fun window0 => W.asSlice (W.Env.get? E 1) fun l1 => W.asSlice (W.Env.get? E 5) fun e5 => S2 window0 l1 e5 w R
theorem KE_S2_ok (R : W.Post) (E : W.Env) (w : World) (h : KE_S2 E w R) : W.WP Try.prog 215 C3 (Q0 R) E w := by
  obtain ⟨window0, hq0, h1⟩ := W.asInt_elim h
  obtain ⟨l1, hq1, h2⟩ := W.asSlice_elim h1
  obtain ⟨e5, hq5, h3⟩ := W.asSlice_elim h2
  exact fun a ha => W.WP.at (E := [(0, .int .i64 window0), (1, l1.v), (5, e5.v)]) (W.WP.seq (c := C3) (x := C170) (y := C4) (by kernel_rfl) <| W.WP.reg (c := C170) (fun E w => W.condK (W.Env.val E (.tmp 25)) (KE_S3 E w R) (KE_S4 E w R)) (by kernel_rfl) (Eq.mp (by kernel_rfl) h3) fun _ _ a hA hK => (W.WP.condK (c := C4) (x := C5) (y := C171) (o := .tmp 25) (by kernel_rfl) (fun hK => (KE_S3_ok R _ _ hK)) (fun hK => (W.WP.skip (c := C171) (by kernel_rfl) fun a hA => (KE_S4_ok R _ _ hK) a hA)) hK) a hA) (ha.cons hq0 (ha.cons hq1 (ha.cons hq5 ha.nil)))
noncomputable def C172 : Code := W.Code.fst C1
/-- law.go:73 -/
def S1 (window0 : Int) (l1 : W.Sl) (w : World) (R : W.Post) : Prop :=
  Calls Try.prog n_enthymemelaw38_ends #[.int .i64 window0] w fun r_ w1 => ∃ t23 : W.Sl, r_ = .returned (t23.v) ∧ 
  S2 window0 l1 t23 w1 R
def KE_S1 (E : W.Env) (w : World) (R : W.Post) : Prop := W.asInt .i64 (W.Env.get? E 0) fun window0 => W.asSlice (W.Env.get? E 1) fun l1 => S1 window0 l1 w R
theorem KE_S1_ok (R : W.Post) (E : W.Env) (w : World) (h : KE_S1 E w R) : W.WP Try.prog 215 C1 (Q31 R) E w := by
  obtain ⟨window0, hq0, h1⟩ := W.asInt_elim h
  obtain ⟨l1, hq1, h2⟩ := W.asSlice_elim h1
  exact fun a ha => W.WP.at (E := [(0, .int .i64 window0), (1, l1.v)]) (W.WP.seq (c := C1) (x := C172) (y := C2) (by kernel_rfl) <| W.WP.reg (c := C172) (fun E w => KE_S2 E w R) (by kernel_rfl) (Eq.mp (by kernel_rfl) h2) fun _ _ a hA hK => (W.WP.seq (c := C2) (x := C3) (y := C6) (by kernel_rfl) (KE_S2_ok R _ _ hK)) a hA) (ha.cons hq0 (ha.cons hq1 ha.nil))
noncomputable def C173 : Code := W.Code.fst C0
/-- law.go:72 -/
def S0 (window0 : Int) (l1 : W.Sl) (w : World) (R : W.Post) : Prop :=
  S1 window0 l1 w R
def KE_S0 (E : W.Env) (w : World) (R : W.Post) : Prop := W.asInt .i64 (W.Env.get? E 0) fun window0 => W.asSlice (W.Env.get? E 1) fun l1 => S0 window0 l1 w R
theorem KE_S0_ok (R : W.Post) (E : W.Env) (w : World) (h : KE_S0 E w R) : W.WP Try.prog 215 C0 (Q31 R) E w := by
  obtain ⟨window0, hq0, h1⟩ := W.asInt_elim h
  obtain ⟨l1, hq1, h2⟩ := W.asSlice_elim h1
  exact fun a ha => W.WP.at (E := [(0, .int .i64 window0), (1, l1.v)]) (W.WP.seq (c := C0) (x := C173) (y := C1) (by kernel_rfl) <| W.WP.reg (c := C173) (fun E w => KE_S1 E w R) (by kernel_rfl) (Eq.mp (by kernel_rfl) h2) fun _ _ a hA hK => (KE_S1_ok R _ _ hK) a hA) (ha.cons hq0 (ha.cons hq1 ha.nil))
/-- enthymeme/enthymemelaw38.ChannelRuns -/
theorem ok (window0 : Int) (l1 : W.Sl) (w : World) (R : W.Post) (h : S0 window0 l1 w R) : Calls Try.prog n_enthymemelaw38_ChannelRuns #[.int .i64 window0, l1.v] w R :=
  W.calls_of_WP' (fn := Try.f3) (c := C0) (args := [.int .i64 window0, l1.v]) (by kernel_rfl) (by kernel_rfl) (by kernel_rfl) (KE_S0_ok R _ _ (Eq.mp (by kernel_rfl) h))
end enthymemelaw38_ChannelRuns
end Go.Proofs.Ytellmncndfmbbaa

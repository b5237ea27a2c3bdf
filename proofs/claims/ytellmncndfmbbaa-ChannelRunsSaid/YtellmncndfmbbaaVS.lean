/- Printed by a program of ours (vcgen.py) from the dump: the conditions of the functions, and that they suffice. -/
import Derived.Test.YtellmncndfmbbaaV
set_option linter.unusedVariables false
set_option maxRecDepth 100000
namespace Go.Proofs.Ytellmncndfmbbaa
open Go
namespace enthymemeref01_SameBytes
noncomputable def C0 : Code := (Try.f22.body).getD .skip
noncomputable def C1 : Code := W.Code.snd C0
noncomputable def C2 : Code := W.Code.fst C1
noncomputable def C3 : Code := W.Code.snd C2
noncomputable def C4 : Code := W.Code.fst C3
noncomputable def C5 : Code := W.Code.snd C1
abbrev Q0 (R : W.Post) : Exit → Act → World → Prop := (Exit.then (Code.wp Try.prog C5 (bodyPost Try.prog Try.f22 R)) (bodyPost Try.prog Try.f22 R))
noncomputable def C6 : Code := W.Code.fst C4
noncomputable def C7 : Code := W.Code.snd C4
/-- ref.go:48 -/
def S2  (w : World) (R : W.Post) : Prop :=
  R (.returned (.bool false)) w
def KE_S2 (E : W.Env) (w : World) (R : W.Post) : Prop := S2  w R
theorem KE_S2_ok (R : W.Post) (E : W.Env) (w : World) (h : KE_S2 E w R) : W.WP Try.prog 26 C4 (Q0 R) E w := by
  exact fun a ha => W.WP.at (E := []) (W.WP.seq (c := C4) (x := C6) (y := C7) (by kernel_rfl) <| W.WP.reg (c := C6) (fun E w => W.retVC Try.prog Try.f22 E w (fun v => R (.returned v) w)) (by kernel_rfl) (Eq.mp (by kernel_rfl) h) fun _ _ a hA hK => (W.WP.ret (c := C7) (by kernel_rfl) fun a hA => W.retVC_sound hA hK) a hA) ha.nil
noncomputable def C8 : Code := W.Code.fst C5
noncomputable def C9 : Code := W.Code.snd C8
noncomputable def C10 : Code := W.Code.fst C9
noncomputable def C11 : Code := W.Code.fst C10
noncomputable def C12 : Code := W.Code.snd C5
abbrev Q1 (R : W.Post) : Exit → Act → World → Prop := (Exit.then (Code.wp Try.prog C12 (bodyPost Try.prog Try.f22 R)) (bodyPost Try.prog Try.f22 R))
abbrev Q2 (R : W.Post) : Exit → Act → World → Prop := (Exit.inBlock 0 (Q1 R))
/-- the head of the loop, ref.go:50 -/
def L4 (a0 b1 : W.Sl) (i5 : Int) (w : World) (R : W.Post) : Prop := W.LP Try.prog 26 C11 (Q2 R) [(0, a0.v), (1, b1.v), (5, .int .i64 i5)] w
def KE_L4 (E : W.Env) (w : World) (R : W.Post) : Prop := W.asSlice (W.Env.get? E 0) fun a0 => W.asSlice (W.Env.get? E 1) fun b1 => W.asInt .i64 (W.Env.get? E 5) fun i5 => L4 a0 b1 i5 w R
theorem KE_L4_ok (R : W.Post) (E : W.Env) (w : World) (h : KE_L4 E w R) : W.LP Try.prog 26 C11 (Q2 R) E w := by
  obtain ⟨a0, hq0, h1⟩ := W.asSlice_elim h
  obtain ⟨b1, hq1, h2⟩ := W.asSlice_elim h1
  obtain ⟨i5, hq5, h3⟩ := W.asInt_elim h2
  intro a ha
  exact h3 a (ha.cons hq0 (ha.cons hq1 (ha.cons hq5 ha.nil)))
noncomputable def C13 : Code := W.Code.snd C11
noncomputable def C14 : Code := W.Code.fst C13
noncomputable def C15 : Code := W.Code.fst C14
noncomputable def C16 : Code := W.Code.snd C15
noncomputable def C17 : Code := W.Code.fst C16
noncomputable def C18 : Code := W.Code.snd C13
abbrev Q3 (R : W.Post) : Exit → Act → World → Prop := (Exit.then (Code.wp Try.prog C18 (Exit.then (W.LoopWP Try.prog C11 (Q2 R)) (Q2 R))) (Exit.then (W.LoopWP Try.prog C11 (Q2 R)) (Q2 R)))
abbrev Q4 (R : W.Post) : Exit → Act → World → Prop := (Exit.inBlock 1 (Q3 R))
noncomputable def C19 : Code := W.Code.fst C17
noncomputable def C20 : Code := W.Code.snd C17
/-- ref.go:52 -/
def S7  (w : World) (R : W.Post) : Prop :=
  R (.returned (.bool false)) w
def KE_S7 (E : W.Env) (w : World) (R : W.Post) : Prop := S7  w R
theorem KE_S7_ok (R : W.Post) (E : W.Env) (w : World) (h : KE_S7 E w R) : W.WP Try.prog 26 C17 (Q4 R) E w := by
  exact fun a ha => W.WP.at (E := []) (W.WP.seq (c := C17) (x := C19) (y := C20) (by kernel_rfl) <| W.WP.reg (c := C19) (fun E w => W.retVC Try.prog Try.f22 E w (fun v => R (.returned v) w)) (by kernel_rfl) (Eq.mp (by kernel_rfl) h) fun _ _ a hA hK => (W.WP.ret (c := C20) (by kernel_rfl) fun a hA => W.retVC_sound hA hK) a hA) ha.nil
abbrev Q5 (R : W.Post) : Exit → Act → World → Prop := (Exit.then (W.LoopWP Try.prog C11 (Q2 R)) (Q2 R))
/-- ref.go:50 -/
def S8 (a0 b1 : W.Sl) (i5 : Int) (w : World) (R : W.Post) : Prop :=
  L4 a0 b1 (IntKind.wrap .i64 (i5 + 1)) w R
def KE_S8 (E : W.Env) (w : World) (R : W.Post) : Prop := W.asSlice (W.Env.get? E 0) fun a0 => W.asSlice (W.Env.get? E 1) fun b1 => W.asInt .i64 (W.Env.get? E 5) fun i5 => S8 a0 b1 i5 w R
theorem KE_S8_ok (R : W.Post) (E : W.Env) (w : World) (h : KE_S8 E w R) : W.WP Try.prog 26 C18 (Q5 R) E w := by
  obtain ⟨a0, hq0, h1⟩ := W.asSlice_elim h
  obtain ⟨b1, hq1, h2⟩ := W.asSlice_elim h1
  obtain ⟨i5, hq5, h3⟩ := W.asInt_elim h2
  exact fun a ha => W.WP.at (E := [(0, a0.v), (1, b1.v), (5, .int .i64 i5)]) (W.WP.reg (c := C18) (fun E w => KE_L4 E w R) (by kernel_rfl) (Eq.mp (by kernel_rfl) h3) fun _ _ a hA hK => KE_L4_ok R _ _ hK a hA) (ha.cons hq0 (ha.cons hq1 (ha.cons hq5 ha.nil)))
noncomputable def C21 : Code := W.Code.fst C15
noncomputable def C22 : Code := W.Code.snd C16
/-- ref.go:51 -/
def S6 (a0 b1 : W.Sl) (i5 : Int) (w : World) (R : W.Post) : Prop :=
  (0 : Int) ≤ i5 ∧ i5 < ((a0.n : Nat) : Int) ∧ W.optP a0.a fun t19_p => ∃ t20 : Int, w.drew.cell? (t19_p.add (Int.toNat i5 * 1)) = some (.int .u8 t20) ∧ 
  (0 : Int) ≤ i5 ∧ i5 < ((b1.n : Nat) : Int) ∧ W.optP b1.a fun t23_p => ∃ t24 : Int, w.drew.cell? (t23_p.add (Int.toNat i5 * 1)) = some (.int .u8 t24) ∧ 
  W.sel (t20 != t24) (S7  w.drew R) (S8 a0 b1 i5 w.drew R)
def KE_S6 (E : W.Env) (w : World) (R : W.Post) : Prop := W.asSlice (W.Env.get? E 0) fun a0 => W.asSlice (W.Env.get? E 1) fun b1 => W.asInt .i64 (W.Env.get? E 5) fun i5 => S6 a0 b1 i5 w R
theorem KE_S6_ok (R : W.Post) (E : W.Env) (w : World) (h : KE_S6 E w R) : W.WP Try.prog 26 C15 (Q4 R) E w := by
  obtain ⟨a0, hq0, h1⟩ := W.asSlice_elim h
  obtain ⟨b1, hq1, h2⟩ := W.asSlice_elim h1
  obtain ⟨i5, hq5, h3⟩ := W.asInt_elim h2
  exact fun a ha => W.WP.at (E := [(0, a0.v), (1, b1.v), (5, .int .i64 i5)]) (W.WP.seq (c := C15) (x := C21) (y := C16) (by kernel_rfl) <| W.WP.draw (c := C21) [0, 1, 2, 3, 4, 5, 6, 7, 8] (fun E w => W.condK (W.Env.val E (.tmp 25)) (KE_S7 E w R) (KE_S8 E w R)) (by kernel_rfl) (Eq.mp (by kernel_rfl) h3) fun _ _ a hA hK => (W.WP.condK (c := C16) (x := C17) (y := C22) (o := .tmp 25) (by kernel_rfl) (fun hK => (KE_S7_ok R _ _ hK)) (fun hK => (W.WP.skip (c := C22) (by kernel_rfl) fun a hA => (KE_S8_ok R _ _ hK) a hA)) hK) a hA) (ha.cons hq0 (ha.cons hq1 (ha.cons hq5 ha.nil)))
abbrev Q6 (R : W.Post) : Exit → Act → World → Prop := (bodyPost Try.prog Try.f22 R)
noncomputable def C23 : Code := W.Code.fst C12
noncomputable def C24 : Code := W.Code.snd C12
/-- ref.go:55 -/
def S9  (w : World) (R : W.Post) : Prop :=
  R (.returned (.bool true)) w
def KE_S9 (E : W.Env) (w : World) (R : W.Post) : Prop := S9  w R
theorem KE_S9_ok (R : W.Post) (E : W.Env) (w : World) (h : KE_S9 E w R) : W.WP Try.prog 26 C12 (Q6 R) E w := by
  exact fun a ha => W.WP.at (E := []) (W.WP.seq (c := C12) (x := C23) (y := C24) (by kernel_rfl) <| W.WP.reg (c := C23) (fun E w => W.retVC Try.prog Try.f22 E w (fun v => R (.returned v) w)) (by kernel_rfl) (Eq.mp (by kernel_rfl) h) fun _ _ a hA hK => (W.WP.ret (c := C24) (by kernel_rfl) fun a hA => W.retVC_sound hA hK) a hA) ha.nil
noncomputable def C25 : Code := W.Code.fst C11
abbrev Q7 (R : W.Post) : Exit → Act → World → Prop := (Exit.then (Code.wp Try.prog C13 (Exit.then (W.LoopWP Try.prog C11 (Q2 R)) (Q2 R))) (Exit.then (W.LoopWP Try.prog C11 (Q2 R)) (Q2 R)))
noncomputable def C26 : Code := W.Code.fst C25
noncomputable def C27 : Code := W.Code.snd C25
noncomputable def C28 : Code := W.Code.fst C27
noncomputable def C29 : Code := W.Code.snd C27
/-- ref.go:50 -/
def S5 (a0 b1 : W.Sl) (i5 : Int) (w : World) (R : W.Post) : Prop :=
  W.sel (decide (i5 < ((a0.n : Nat) : Int))) (S6 a0 b1 i5 w R) (S9  w R)
def KE_S5 (E : W.Env) (w : World) (R : W.Post) : Prop := W.asSlice (W.Env.get? E 0) fun a0 => W.asSlice (W.Env.get? E 1) fun b1 => W.asInt .i64 (W.Env.get? E 5) fun i5 => S5 a0 b1 i5 w R
theorem KE_S5_ok (R : W.Post) (E : W.Env) (w : World) (h : KE_S5 E w R) : W.WP Try.prog 26 C25 (Q7 R) E w := by
  obtain ⟨a0, hq0, h1⟩ := W.asSlice_elim h
  obtain ⟨b1, hq1, h2⟩ := W.asSlice_elim h1
  obtain ⟨i5, hq5, h3⟩ := W.asInt_elim h2
  exact fun a ha => W.WP.at (E := [(0, a0.v), (1, b1.v), (5, .int .i64 i5)]) (W.WP.seq (c := C25) (x := C26) (y := C27) (by kernel_rfl) <| W.WP.reg (c := C26) (fun E w => W.condK (W.Env.val E (.tmp 14)) (KE_S6 E w R) (KE_S9 E w R)) (by kernel_rfl) (Eq.mp (by kernel_rfl) h3) fun _ _ a hA hK => (W.WP.condK (c := C27) (x := C28) (y := C29) (o := .tmp 14) (by kernel_rfl) (fun hK => (W.WP.skip (c := C28) (by kernel_rfl) fun a hA => (W.WP.seq (c := C13) (x := C14) (y := C18) (by kernel_rfl) (W.WP.block (c := C14) (x := C15) (id := 1) (by kernel_rfl) (KE_S6_ok R _ _ hK))) a hA)) (fun hK => (W.WP.exit (c := C29) (id := 0) (by kernel_rfl) fun a hA => (KE_S9_ok R _ _ hK) a hA)) hK) a hA) (ha.cons hq0 (ha.cons hq1 (ha.cons hq5 ha.nil)))
theorem L4_step (a0 b1 : W.Sl) (i5 : Int) (w : World) (R : W.Post) (h : S5 a0 b1 i5 w R) : L4 a0 b1 i5 w R :=
  W.LP.step (c := C11) (E := [(0, a0.v), (1, b1.v), (5, .int .i64 i5)]) (w := w) (W.WP.seq (c := C11) (x := C25) (y := C13) (by kernel_rfl) (KE_S5_ok R _ _ (Eq.mp (by kernel_rfl) h)))
noncomputable def C30 : Code := W.Code.fst C8
/-- ref.go:50 -/
def S3 (a0 b1 : W.Sl) (w : World) (R : W.Post) : Prop :=
  L4 a0 b1 0 w R
def KE_S3 (E : W.Env) (w : World) (R : W.Post) : Prop := W.asSlice (W.Env.get? E 0) fun a0 => W.asSlice (W.Env.get? E 1) fun b1 => S3 a0 b1 w R
theorem KE_S3_ok (R : W.Post) (E : W.Env) (w : World) (h : KE_S3 E w R) : W.WP Try.prog 26 C8 (Q1 R) E w := by
  obtain ⟨a0, hq0, h1⟩ := W.asSlice_elim h
  obtain ⟨b1, hq1, h2⟩ := W.asSlice_elim h1
  exact fun a ha => W.WP.at (E := [(0, a0.v), (1, b1.v)]) (W.WP.seq (c := C8) (x := C30) (y := C9) (by kernel_rfl) <| W.WP.reg (c := C30) (fun E w => KE_L4 E w R) (by kernel_rfl) (Eq.mp (by kernel_rfl) h2) fun _ _ a hA hK => (W.WP.block (c := C9) (x := C10) (id := 0) (by kernel_rfl) (W.WP.loop (c := C10) (x := C11) (by kernel_rfl) (KE_L4_ok R _ _ hK))) a hA) (ha.cons hq0 (ha.cons hq1 ha.nil))
noncomputable def C31 : Code := W.Code.fst C2
noncomputable def C32 : Code := W.Code.snd C3
/-- ref.go:47 -/
def S1 (a0 b1 : W.Sl) (w : World) (R : W.Post) : Prop :=
  W.sel (((a0.n : Nat) : Int) != ((b1.n : Nat) : Int)) (S2  w R) (S3 a0 b1 w R)
def KE_S1 (E : W.Env) (w : World) (R : W.Post) : Prop := W.asSlice (W.Env.get? E 0) fun a0 => W.asSlice (W.Env.get? E 1) fun b1 => S1 a0 b1 w R
theorem KE_S1_ok (R : W.Post) (E : W.Env) (w : World) (h : KE_S1 E w R) : W.WP Try.prog 26 C2 (Q0 R) E w := by
  obtain ⟨a0, hq0, h1⟩ := W.asSlice_elim h
  obtain ⟨b1, hq1, h2⟩ := W.asSlice_elim h1
  exact fun a ha => W.WP.at (E := [(0, a0.v), (1, b1.v)]) (W.WP.seq (c := C2) (x := C31) (y := C3) (by kernel_rfl) <| W.WP.reg (c := C31) (fun E w => W.condK (W.Env.val E (.tmp 10)) (KE_S2 E w R) (KE_S3 E w R)) (by kernel_rfl) (Eq.mp (by kernel_rfl) h2) fun _ _ a hA hK => (W.WP.condK (c := C3) (x := C4) (y := C32) (o := .tmp 10) (by kernel_rfl) (fun hK => (KE_S2_ok R _ _ hK)) (fun hK => (W.WP.skip (c := C32) (by kernel_rfl) fun a hA => (W.WP.seq (c := C5) (x := C8) (y := C12) (by kernel_rfl) (KE_S3_ok R _ _ hK)) a hA)) hK) a hA) (ha.cons hq0 (ha.cons hq1 ha.nil))
noncomputable def C33 : Code := W.Code.fst C0
/-- ref.go:46 -/
def S0 (a0 b1 : W.Sl) (w : World) (R : W.Post) : Prop :=
  S1 a0 b1 w R
def KE_S0 (E : W.Env) (w : World) (R : W.Post) : Prop := W.asSlice (W.Env.get? E 0) fun a0 => W.asSlice (W.Env.get? E 1) fun b1 => S0 a0 b1 w R
theorem KE_S0_ok (R : W.Post) (E : W.Env) (w : World) (h : KE_S0 E w R) : W.WP Try.prog 26 C0 (Q6 R) E w := by
  obtain ⟨a0, hq0, h1⟩ := W.asSlice_elim h
  obtain ⟨b1, hq1, h2⟩ := W.asSlice_elim h1
  exact fun a ha => W.WP.at (E := [(0, a0.v), (1, b1.v)]) (W.WP.seq (c := C0) (x := C33) (y := C1) (by kernel_rfl) <| W.WP.reg (c := C33) (fun E w => KE_S1 E w R) (by kernel_rfl) (Eq.mp (by kernel_rfl) h2) fun _ _ a hA hK => (W.WP.seq (c := C1) (x := C2) (y := C5) (by kernel_rfl) (KE_S1_ok R _ _ hK)) a hA) (ha.cons hq0 (ha.cons hq1 ha.nil))
/-- enthymeme/enthymemeref01.SameBytes -/
theorem ok (a0 b1 : W.Sl) (w : World) (R : W.Post) (h : S0 a0 b1 w R) : Calls Try.prog n_enthymemeref01_SameBytes #[a0.v, b1.v] w R :=
  W.calls_of_WP' (fn := Try.f22) (c := C0) (args := [a0.v, b1.v]) (by kernel_rfl) (by kernel_rfl) (by kernel_rfl) (KE_S0_ok R _ _ (Eq.mp (by kernel_rfl) h))
end enthymemeref01_SameBytes
end Go.Proofs.Ytellmncndfmbbaa

/- Printed by a program of ours (vcgen.py) from the dump: the conditions of the functions, and that they suffice. -/
import Derived.Test.YtellmncndfmbbaaV
set_option linter.unusedVariables false
set_option maxRecDepth 100000
namespace Go.Proofs.Ytellmncndfmbbaa
open Go
namespace enthymemelaw38_ends
noncomputable def C0 : Code := (Try.f8.body).getD .skip
noncomputable def C1 : Code := W.Code.snd C0
noncomputable def C2 : Code := W.Code.snd C1
noncomputable def C3 : Code := W.Code.snd C2
noncomputable def C4 : Code := W.Code.fst C3
noncomputable def C5 : Code := W.Code.snd C4
noncomputable def C6 : Code := W.Code.fst C5
noncomputable def C7 : Code := W.Code.snd C3
abbrev Q0 (R : W.Post) : Exit → Act → World → Prop := (Exit.then (Code.wp Try.prog C7 (bodyPost Try.prog Try.f8 R)) (bodyPost Try.prog Try.f8 R))
noncomputable def C8 : Code := W.Code.fst C6
noncomputable def C9 : Code := W.Code.snd C6
/-- law.go:53 -/
def S4  (w : World) (R : W.Post) : Prop :=
  R (.returned (.slice none 0 0)) w
def KE_S4 (E : W.Env) (w : World) (R : W.Post) : Prop := S4  w R
theorem KE_S4_ok (R : W.Post) (E : W.Env) (w : World) (h : KE_S4 E w R) : W.WP Try.prog 39 C6 (Q0 R) E w := by
  exact fun a ha => W.WP.at (E := []) (W.WP.seq (c := C6) (x := C8) (y := C9) (by kernel_rfl) <| W.WP.reg (c := C8) (fun E w => W.retVC Try.prog Try.f8 E w (fun v => R (.returned v) w)) (by kernel_rfl) (Eq.mp (by kernel_rfl) h) fun _ _ a hA hK => (W.WP.ret (c := C9) (by kernel_rfl) fun a hA => W.retVC_sound hA hK) a hA) ha.nil
abbrev Q1 (R : W.Post) : Exit → Act → World → Prop := (bodyPost Try.prog Try.f8 R)
noncomputable def C10 : Code := W.Code.fst C7
noncomputable def C11 : Code := W.Code.snd C7
/-- law.go:55 -/
def S5 (a3 b5 : Option Addr) (w : World) (R : W.Post) : Prop :=
  let w1 := w.alloc (.cells #[.pointer a3, .pointer b5] ty_p_channel_End)
  R (.returned (.slice (some (Addr.mk w.heap.size 0 none)) 2 2)) w1
def KE_S5 (E : W.Env) (w : World) (R : W.Post) : Prop := W.asPtr (W.Env.get? E 3) fun a3 => W.asPtr (W.Env.get? E 5) fun b5 => S5 a3 b5 w R
theorem KE_S5_ok (R : W.Post) (E : W.Env) (w : World) (h : KE_S5 E w R) : W.WP Try.prog 39 C7 (Q1 R) E w := by
  obtain ⟨a3, hq3, h1⟩ := W.asPtr_elim h
  obtain ⟨b5, hq5, h2⟩ := W.asPtr_elim h1
  exact fun a ha => W.WP.at (E := [(3, .pointer a3), (5, .pointer b5)]) (W.WP.seq (c := C7) (x := C10) (y := C11) (by kernel_rfl) <| W.WP.reg (c := C10) (fun E w => W.retVC Try.prog Try.f8 E w (fun v => R (.returned v) w)) (by kernel_rfl) (Eq.mp (by kernel_rfl) h2) fun _ _ a hA hK => (W.WP.ret (c := C11) (by kernel_rfl) fun a hA => W.retVC_sound hA hK) a hA) (ha.cons hq3 (ha.cons hq5 ha.nil))
noncomputable def C12 : Code := W.Code.fst C4
noncomputable def C13 : Code := W.Code.snd C5
/-- law.go:52 -/
def S3 (a3 : Option Addr) (e4 : Int) (b5 : Option Addr) (f6 : Int) (w : World) (R : W.Post) : Prop :=
  W.sel a3.isNone (S4  w R) (W.sel b5.isNone (S4  w R) (W.sel (e4 != 0) (S4  w R) (W.sel (f6 != 0) (S4  w R) (S5 a3 b5 w R))))
def KE_S3 (E : W.Env) (w : World) (R : W.Post) : Prop := W.asPtr (W.Env.get? E 3) fun a3 => W.asInt .i64 (W.Env.get? E 4) fun e4 => W.asPtr (W.Env.get? E 5) fun b5 => W.asInt .i64 (W.Env.get? E 6) fun f6 => S3 a3 e4 b5 f6 w R
theorem KE_S3_ok (R : W.Post) (E : W.Env) (w : World) (h : KE_S3 E w R) : W.WP Try.prog 39 C4 (Q0 R) E w := by
  obtain ⟨a3, hq3, h1⟩ := W.asPtr_elim h
  obtain ⟨e4, hq4, h2⟩ := W.asInt_elim h1
  obtain ⟨b5, hq5, h3⟩ := W.asPtr_elim h2
  obtain ⟨f6, hq6, h4⟩ := W.asInt_elim h3
  exact fun a ha => W.WP.at (E := [(3, .pointer a3), (4, .int .i64 e4), (5, .pointer b5), (6, .int .i64 f6)]) (W.WP.seq (c := C4) (x := C12) (y := C5) (by kernel_rfl) <| W.WP.reg (c := C12) (fun E w => W.condK (W.Env.val E (.tmp 35)) (KE_S4 E w R) (KE_S5 E w R)) (by kernel_rfl) (Eq.mp (by kernel_rfl) h4) fun _ _ a hA hK => (W.WP.condK (c := C5) (x := C6) (y := C13) (o := .tmp 35) (by kernel_rfl) (fun hK => (KE_S4_ok R _ _ hK)) (fun hK => (W.WP.skip (c := C13) (by kernel_rfl) fun a hA => (KE_S5_ok R _ _ hK) a hA)) hK) a hA) (ha.cons hq3 (ha.cons hq4 (ha.cons hq5 (ha.cons hq6 ha.nil))))
noncomputable def C14 : Code := W.Code.fst C2
/-- law.go:51 -/
def S2 (window0 : Int) (a3 : Option Addr) (e4 : Int) (w : World) (R : W.Post) : Prop :=
  Calls Try.prog n_enthymemeref01_Around #[.int .i64 (IntKind.wrap .i64 (Int.tdiv window0 16)), .int .i64 16] w fun r_ w1 => ∃ t17 : Int, r_ = .returned (.int .i64 t17) ∧ 
  Calls Try.prog n_channel_New #[.int .i64 (IntKind.wrap .i64 (1 + t17))] w1 fun r_ w2 => ∃ t19_0 : Option Addr, ∃ t19_1 : Int, r_ = .returned (.tuple #[.pointer t19_0, .int .i64 t19_1]) ∧ 
  S3 a3 e4 t19_0 t19_1 w2 R
def KE_S2 (E : W.Env) (w : World) (R : W.Post) : Prop := W.asInt .i64 (W.Env.get? E 0) fun window0 => W.asPtr (W.Env.get? E 3) fun a3 => W.asInt .i64 (W.Env.get? E 4) fun e4 => S2 window0 a3 e4 w R
theorem KE_S2_ok (R : W.Post) (E : W.Env) (w : World) (h : KE_S2 E w R) : W.WP Try.prog 39 C2 (Q1 R) E w := by
  obtain ⟨window0, hq0, h1⟩ := W.asInt_elim h
  obtain ⟨a3, hq3, h2⟩ := W.asPtr_elim h1
  obtain ⟨e4, hq4, h3⟩ := W.asInt_elim h2
  exact fun a ha => W.WP.at (E := [(0, .int .i64 window0), (3, .pointer a3), (4, .int .i64 e4)]) (W.WP.seq (c := C2) (x := C14) (y := C3) (by kernel_rfl) <| W.WP.reg (c := C14) (fun E w => KE_S3 E w R) (by kernel_rfl) (Eq.mp (by kernel_rfl) h3) fun _ _ a hA hK => (W.WP.seq (c := C3) (x := C4) (y := C7) (by kernel_rfl) (KE_S3_ok R _ _ hK)) a hA) (ha.cons hq0 (ha.cons hq3 (ha.cons hq4 ha.nil)))
noncomputable def C15 : Code := W.Code.fst C1
/-- law.go:50 -/
def S1 (window0 : Int) (w : World) (R : W.Post) : Prop :=
  Calls Try.prog n_enthymemeref01_Around #[.int .i64 window0, .int .i64 16] w fun r_ w1 => ∃ t9 : Int, r_ = .returned (.int .i64 t9) ∧ 
  Calls Try.prog n_channel_New #[.int .i64 (IntKind.wrap .i64 (1 + t9))] w1 fun r_ w2 => ∃ t11_0 : Option Addr, ∃ t11_1 : Int, r_ = .returned (.tuple #[.pointer t11_0, .int .i64 t11_1]) ∧ 
  S2 window0 t11_0 t11_1 w2 R
def KE_S1 (E : W.Env) (w : World) (R : W.Post) : Prop := W.asInt .i64 (W.Env.get? E 0) fun window0 => S1 window0 w R
theorem KE_S1_ok (R : W.Post) (E : W.Env) (w : World) (h : KE_S1 E w R) : W.WP Try.prog 39 C1 (Q1 R) E w := by
  obtain ⟨window0, hq0, h1⟩ := W.asInt_elim h
  exact fun a ha => W.WP.at (E := [(0, .int .i64 window0)]) (W.WP.seq (c := C1) (x := C15) (y := C2) (by kernel_rfl) <| W.WP.reg (c := C15) (fun E w => KE_S2 E w R) (by kernel_rfl) (Eq.mp (by kernel_rfl) h1) fun _ _ a hA hK => (KE_S2_ok R _ _ hK) a hA) (ha.cons hq0 ha.nil)
noncomputable def C16 : Code := W.Code.fst C0
/-- law.go:49 -/
def S0 (window0 : Int) (w : World) (R : W.Post) : Prop :=
  S1 window0 w R
def KE_S0 (E : W.Env) (w : World) (R : W.Post) : Prop := W.asInt .i64 (W.Env.get? E 0) fun window0 => S0 window0 w R
theorem KE_S0_ok (R : W.Post) (E : W.Env) (w : World) (h : KE_S0 E w R) : W.WP Try.prog 39 C0 (Q1 R) E w := by
  obtain ⟨window0, hq0, h1⟩ := W.asInt_elim h
  exact fun a ha => W.WP.at (E := [(0, .int .i64 window0)]) (W.WP.seq (c := C0) (x := C16) (y := C1) (by kernel_rfl) <| W.WP.reg (c := C16) (fun E w => KE_S1 E w R) (by kernel_rfl) (Eq.mp (by kernel_rfl) h1) fun _ _ a hA hK => (KE_S1_ok R _ _ hK) a hA) (ha.cons hq0 ha.nil)
/-- enthymeme/enthymemelaw38.ends -/
theorem ok (window0 : Int) (w : World) (R : W.Post) (h : S0 window0 w R) : Calls Try.prog n_enthymemelaw38_ends #[.int .i64 window0] w R :=
  W.calls_of_WP' (fn := Try.f8) (c := C0) (args := [.int .i64 window0]) (by kernel_rfl) (by kernel_rfl) (by kernel_rfl) (KE_S0_ok R _ _ (Eq.mp (by kernel_rfl) h))
end enthymemelaw38_ends
end Go.Proofs.Ytellmncndfmbbaa

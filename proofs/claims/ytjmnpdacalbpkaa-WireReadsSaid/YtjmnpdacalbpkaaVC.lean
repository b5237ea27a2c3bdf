/- Printed by a program of ours (vcgen.py) from the dump: the conditions of the functions, and that they suffice. -/
import Derived.Test.YtjmnpdacalbpkaaV
set_option linter.unusedVariables false
set_option maxRecDepth 100000
namespace Go.Proofs.Ytjmnpdacalbpkaa
open Go
namespace enthymemelaw02_write
noncomputable def C0 : Code := (Try.f29.body).getD .skip
noncomputable def C1 : Code := W.Code.snd C0
noncomputable def C2 : Code := W.Code.snd C1
noncomputable def C3 : Code := W.Code.fst C2
noncomputable def C4 : Code := W.Code.snd C3
noncomputable def C5 : Code := W.Code.fst C4
abbrev Q0 (R : W.Post) : Exit → Act → World → Prop := (bodyPost Try.prog Try.f29 R)
abbrev Q1 (R : W.Post) : Exit → Act → World → Prop := (Exit.inBlock 0 (Q0 R))
/-- law.go:35 -/
abbrev S3 (wv0 v3 : Addr) (w : World) (R : W.Post) : Prop :=
  ∃ t14 : Int, w.cell? (v3.add 1) = some (.int .u64 t14) ∧ 
  Calls Try.prog n_wire_Writer_Uint #[.pointer (some wv0), .int .u64 t14] w fun r_ w1 => r_ = .returned (.tuple #[]) ∧ 
  R (.returned (.tuple #[])) w1
def KE_S3 (E : W.Env) (w : World) (R : W.Post) : Prop := W.asRef (W.Env.get? E 0) fun wv0 => W.asRef (W.Env.get? E 3) fun v3 => S3 wv0 v3 w R
theorem KE_S3_ok (R : W.Post) (E : W.Env) (w : World) (h : KE_S3 E w R) : W.WP Try.prog 42 C5 (Q1 R) E w := by
  obtain ⟨wv0, hq0, h1⟩ := W.asRef_elim h
  obtain ⟨v3, hq3, h2⟩ := W.asRef_elim h1
  exact fun a ha => W.WP.at (E := [(0, .pointer (some wv0)), (3, .pointer (some v3))]) (W.WP.reg (c := C5) (fun E w => W.retVC Try.prog Try.f29 E w (fun v => R (.returned v) w)) (by kernel_rfl) (Eq.mp (by kernel_rfl) h2) fun _ _ a hA hK => W.retVC_sound hA hK) (ha.cons hq0 (ha.cons hq3 ha.nil))
noncomputable def C6 : Code := W.Code.snd C4
noncomputable def C7 : Code := W.Code.snd C6
noncomputable def C8 : Code := W.Code.fst C7
/-- law.go:37 -/
abbrev S5 (wv0 v3 : Addr) (w : World) (R : W.Post) : Prop :=
  ∃ t20 : Int, w.cell? (v3.add 2) = some (.int .i64 t20) ∧ 
  Calls Try.prog n_wire_Writer_Int #[.pointer (some wv0), .int .i64 t20] w fun r_ w1 => r_ = .returned (.tuple #[]) ∧ 
  R (.returned (.tuple #[])) w1
def KE_S5 (E : W.Env) (w : World) (R : W.Post) : Prop := W.asRef (W.Env.get? E 0) fun wv0 => W.asRef (W.Env.get? E 3) fun v3 => S5 wv0 v3 w R
theorem KE_S5_ok (R : W.Post) (E : W.Env) (w : World) (h : KE_S5 E w R) : W.WP Try.prog 42 C8 (Q1 R) E w := by
  obtain ⟨wv0, hq0, h1⟩ := W.asRef_elim h
  obtain ⟨v3, hq3, h2⟩ := W.asRef_elim h1
  exact fun a ha => W.WP.at (E := [(0, .pointer (some wv0)), (3, .pointer (some v3))]) (W.WP.reg (c := C8) (fun E w => W.retVC Try.prog Try.f29 E w (fun v => R (.returned v) w)) (by kernel_rfl) (Eq.mp (by kernel_rfl) h2) fun _ _ a hA hK => W.retVC_sound hA hK) (ha.cons hq0 (ha.cons hq3 ha.nil))
noncomputable def C9 : Code := W.Code.snd C7
noncomputable def C10 : Code := W.Code.snd C9
noncomputable def C11 : Code := W.Code.fst C10
/-- law.go:39 -/
abbrev S7 (wv0 v3 : Addr) (w : World) (R : W.Post) : Prop :=
  ∃ t26 : Int, w.cell? (v3.add 2) = some (.int .i64 t26) ∧ 
  Calls Try.prog n_wire_Writer_Bool #[.pointer (some wv0), .bool (t26 == 1)] w fun r_ w1 => r_ = .returned (.tuple #[]) ∧ 
  R (.returned (.tuple #[])) w1
def KE_S7 (E : W.Env) (w : World) (R : W.Post) : Prop := W.asRef (W.Env.get? E 0) fun wv0 => W.asRef (W.Env.get? E 3) fun v3 => S7 wv0 v3 w R
theorem KE_S7_ok (R : W.Post) (E : W.Env) (w : World) (h : KE_S7 E w R) : W.WP Try.prog 42 C11 (Q1 R) E w := by
  obtain ⟨wv0, hq0, h1⟩ := W.asRef_elim h
  obtain ⟨v3, hq3, h2⟩ := W.asRef_elim h1
  exact fun a ha => W.WP.at (E := [(0, .pointer (some wv0)), (3, .pointer (some v3))]) (W.WP.reg (c := C11) (fun E w => W.retVC Try.prog Try.f29 E w (fun v => R (.returned v) w)) (by kernel_rfl) (Eq.mp (by kernel_rfl) h2) fun _ _ a hA hK => W.retVC_sound hA hK) (ha.cons hq0 (ha.cons hq3 ha.nil))
noncomputable def C12 : Code := W.Code.snd C10
noncomputable def C13 : Code := W.Code.snd C12
noncomputable def C14 : Code := W.Code.fst C13
/-- law.go:41 -/
abbrev S9 (wv0 v3 : Addr) (w : World) (R : W.Post) : Prop :=
  ∃ t33 : W.Sl, w.cell? (v3.add 3) = some (t33.v) ∧ 
  ∃ t34 : ByteArray, Sem.run Try.prog (Go.convert ty_sl_uint8 ty_string (t33.v)) w = .ok (.string t34) w ∧ Calls Try.prog n_wire_Writer_Text #[.pointer (some wv0), .string t34] w fun r_ w1 => r_ = .returned (.tuple #[]) ∧ 
  R (.returned (.tuple #[])) w1
def KE_S9 (E : W.Env) (w : World) (R : W.Post) : Prop := W.asRef (W.Env.get? E 0) fun wv0 => W.asRef (W.Env.get? E 3) fun v3 => S9 wv0 v3 w R
theorem KE_S9_ok (R : W.Post) (E : W.Env) (w : World) (h : KE_S9 E w R) : W.WP Try.prog 42 C14 (Q1 R) E w := by
  obtain ⟨wv0, hq0, h1⟩ := W.asRef_elim h
  obtain ⟨v3, hq3, h2⟩ := W.asRef_elim h1
  exact fun a ha => W.WP.at (E := [(0, .pointer (some wv0)), (3, .pointer (some v3))]) (W.WP.reg (c := C14) (fun E w => W.retVC Try.prog Try.f29 E w (fun v => R (.returned v) w)) (by kernel_rfl) (Eq.mp (by kernel_rfl) h2) fun _ _ a hA hK => W.retVC_sound hA hK) (ha.cons hq0 (ha.cons hq3 ha.nil))
noncomputable def C15 : Code := W.Code.snd C13
noncomputable def C16 : Code := W.Code.snd C15
noncomputable def C17 : Code := W.Code.fst C16
/-- law.go:43 -/
abbrev S11 (wv0 v3 : Addr) (w : World) (R : W.Post) : Prop :=
  ∃ t40 : W.Sl, w.cell? (v3.add 3) = some (t40.v) ∧ 
  Calls Try.prog n_wire_Writer_Raw #[.pointer (some wv0), t40.v] w fun r_ w1 => r_ = .returned (.tuple #[]) ∧ 
  R (.returned (.tuple #[])) w1
def KE_S11 (E : W.Env) (w : World) (R : W.Post) : Prop := W.asRef (W.Env.get? E 0) fun wv0 => W.asRef (W.Env.get? E 3) fun v3 => S11 wv0 v3 w R
theorem KE_S11_ok (R : W.Post) (E : W.Env) (w : World) (h : KE_S11 E w R) : W.WP Try.prog 42 C17 (Q1 R) E w := by
  obtain ⟨wv0, hq0, h1⟩ := W.asRef_elim h
  obtain ⟨v3, hq3, h2⟩ := W.asRef_elim h1
  exact fun a ha => W.WP.at (E := [(0, .pointer (some wv0)), (3, .pointer (some v3))]) (W.WP.reg (c := C17) (fun E w => W.retVC Try.prog Try.f29 E w (fun v => R (.returned v) w)) (by kernel_rfl) (Eq.mp (by kernel_rfl) h2) fun _ _ a hA hK => W.retVC_sound hA hK) (ha.cons hq0 (ha.cons hq3 ha.nil))
noncomputable def C18 : Code := W.Code.snd C16
/-- law.go:45 -/
abbrev S12 (wv0 v3 : Addr) (w : World) (R : W.Post) : Prop :=
  ∃ t8 : W.Sl, w.cell? (v3.add 4) = some (t8.v) ∧ 
  Calls Try.prog n_wire_Writer_Ints #[.pointer (some wv0), t8.v] w fun r_ w1 => r_ = .returned (.tuple #[]) ∧ 
  R (.returned (.tuple #[])) w1
def KE_S12 (E : W.Env) (w : World) (R : W.Post) : Prop := W.asRef (W.Env.get? E 0) fun wv0 => W.asRef (W.Env.get? E 3) fun v3 => S12 wv0 v3 w R
theorem KE_S12_ok (R : W.Post) (E : W.Env) (w : World) (h : KE_S12 E w R) : W.WP Try.prog 42 C18 (Q1 R) E w := by
  obtain ⟨wv0, hq0, h1⟩ := W.asRef_elim h
  obtain ⟨v3, hq3, h2⟩ := W.asRef_elim h1
  exact fun a ha => W.WP.at (E := [(0, .pointer (some wv0)), (3, .pointer (some v3))]) (W.WP.reg (c := C18) (fun E w => W.retVC Try.prog Try.f29 E w (fun v => R (.returned v) w)) (by kernel_rfl) (Eq.mp (by kernel_rfl) h2) fun _ _ a hA hK => W.retVC_sound hA hK) (ha.cons hq0 (ha.cons hq3 ha.nil))
noncomputable def C19 : Code := W.Code.fst C15
/-- law.go:42 -/
abbrev S10 (wv0 v3 : Addr) (t5 : Int) (w : World) (R : W.Post) : Prop :=
  W.sel (t5 == 4) (S11 wv0 v3 w R) (S12 wv0 v3 w R)
def KE_S10 (E : W.Env) (w : World) (R : W.Post) : Prop := W.asRef (W.Env.get? E 0) fun wv0 => W.asRef (W.Env.get? E 3) fun v3 => W.asInt .i64 (W.Env.get? E 5) fun t5 => S10 wv0 v3 t5 w R
theorem KE_S10_ok (R : W.Post) (E : W.Env) (w : World) (h : KE_S10 E w R) : W.WP Try.prog 42 C15 (Q1 R) E w := by
  obtain ⟨wv0, hq0, h1⟩ := W.asRef_elim h
  obtain ⟨v3, hq3, h2⟩ := W.asRef_elim h1
  obtain ⟨t5, hq5, h3⟩ := W.asInt_elim h2
  exact fun a ha => W.WP.at (E := [(0, .pointer (some wv0)), (3, .pointer (some v3)), (5, .int .i64 t5)]) (W.WP.seq (c := C15) (x := C19) (y := C16) (by kernel_rfl) <| W.WP.reg (c := C19) (fun E w => W.condK (W.Env.val E (.tmp 36)) (KE_S11 E w R) (KE_S12 E w R)) (by kernel_rfl) (Eq.mp (by kernel_rfl) h3) fun _ _ a hA hK => (W.WP.condK (c := C16) (x := C17) (y := C18) (o := .tmp 36) (by kernel_rfl) (fun hK => (KE_S11_ok R _ _ hK)) (fun hK => (KE_S12_ok R _ _ hK)) hK) a hA) (ha.cons hq0 (ha.cons hq3 (ha.cons hq5 ha.nil)))
noncomputable def C20 : Code := W.Code.fst C12
/-- law.go:40 -/
abbrev S8 (wv0 v3 : Addr) (t5 : Int) (w : World) (R : W.Post) : Prop :=
  W.sel (t5 == 3) (S9 wv0 v3 w R) (S10 wv0 v3 t5 w R)
def KE_S8 (E : W.Env) (w : World) (R : W.Post) : Prop := W.asRef (W.Env.get? E 0) fun wv0 => W.asRef (W.Env.get? E 3) fun v3 => W.asInt .i64 (W.Env.get? E 5) fun t5 => S8 wv0 v3 t5 w R
theorem KE_S8_ok (R : W.Post) (E : W.Env) (w : World) (h : KE_S8 E w R) : W.WP Try.prog 42 C12 (Q1 R) E w := by
  obtain ⟨wv0, hq0, h1⟩ := W.asRef_elim h
  obtain ⟨v3, hq3, h2⟩ := W.asRef_elim h1
  obtain ⟨t5, hq5, h3⟩ := W.asInt_elim h2
  exact fun a ha => W.WP.at (E := [(0, .pointer (some wv0)), (3, .pointer (some v3)), (5, .int .i64 t5)]) (W.WP.seq (c := C12) (x := C20) (y := C13) (by kernel_rfl) <| W.WP.reg (c := C20) (fun E w => W.condK (W.Env.val E (.tmp 29)) (KE_S9 E w R) (KE_S10 E w R)) (by kernel_rfl) (Eq.mp (by kernel_rfl) h3) fun _ _ a hA hK => (W.WP.condK (c := C13) (x := C14) (y := C15) (o := .tmp 29) (by kernel_rfl) (fun hK => (KE_S9_ok R _ _ hK)) (fun hK => (KE_S10_ok R _ _ hK)) hK) a hA) (ha.cons hq0 (ha.cons hq3 (ha.cons hq5 ha.nil)))
noncomputable def C21 : Code := W.Code.fst C9
/-- law.go:38 -/
abbrev S6 (wv0 v3 : Addr) (t5 : Int) (w : World) (R : W.Post) : Prop :=
  W.sel (t5 == 2) (S7 wv0 v3 w R) (S8 wv0 v3 t5 w R)
def KE_S6 (E : W.Env) (w : World) (R : W.Post) : Prop := W.asRef (W.Env.get? E 0) fun wv0 => W.asRef (W.Env.get? E 3) fun v3 => W.asInt .i64 (W.Env.get? E 5) fun t5 => S6 wv0 v3 t5 w R
theorem KE_S6_ok (R : W.Post) (E : W.Env) (w : World) (h : KE_S6 E w R) : W.WP Try.prog 42 C9 (Q1 R) E w := by
  obtain ⟨wv0, hq0, h1⟩ := W.asRef_elim h
  obtain ⟨v3, hq3, h2⟩ := W.asRef_elim h1
  obtain ⟨t5, hq5, h3⟩ := W.asInt_elim h2
  exact fun a ha => W.WP.at (E := [(0, .pointer (some wv0)), (3, .pointer (some v3)), (5, .int .i64 t5)]) (W.WP.seq (c := C9) (x := C21) (y := C10) (by kernel_rfl) <| W.WP.reg (c := C21) (fun E w => W.condK (W.Env.val E (.tmp 22)) (KE_S7 E w R) (KE_S8 E w R)) (by kernel_rfl) (Eq.mp (by kernel_rfl) h3) fun _ _ a hA hK => (W.WP.condK (c := C10) (x := C11) (y := C12) (o := .tmp 22) (by kernel_rfl) (fun hK => (KE_S7_ok R _ _ hK)) (fun hK => (KE_S8_ok R _ _ hK)) hK) a hA) (ha.cons hq0 (ha.cons hq3 (ha.cons hq5 ha.nil)))
noncomputable def C22 : Code := W.Code.fst C6
/-- law.go:36 -/
abbrev S4 (wv0 v3 : Addr) (t5 : Int) (w : World) (R : W.Post) : Prop :=
  W.sel (t5 == 1) (S5 wv0 v3 w R) (S6 wv0 v3 t5 w R)
def KE_S4 (E : W.Env) (w : World) (R : W.Post) : Prop := W.asRef (W.Env.get? E 0) fun wv0 => W.asRef (W.Env.get? E 3) fun v3 => W.asInt .i64 (W.Env.get? E 5) fun t5 => S4 wv0 v3 t5 w R
theorem KE_S4_ok (R : W.Post) (E : W.Env) (w : World) (h : KE_S4 E w R) : W.WP Try.prog 42 C6 (Q1 R) E w := by
  obtain ⟨wv0, hq0, h1⟩ := W.asRef_elim h
  obtain ⟨v3, hq3, h2⟩ := W.asRef_elim h1
  obtain ⟨t5, hq5, h3⟩ := W.asInt_elim h2
  exact fun a ha => W.WP.at (E := [(0, .pointer (some wv0)), (3, .pointer (some v3)), (5, .int .i64 t5)]) (W.WP.seq (c := C6) (x := C22) (y := C7) (by kernel_rfl) <| W.WP.reg (c := C22) (fun E w => W.condK (W.Env.val E (.tmp 16)) (KE_S5 E w R) (KE_S6 E w R)) (by kernel_rfl) (Eq.mp (by kernel_rfl) h3) fun _ _ a hA hK => (W.WP.condK (c := C7) (x := C8) (y := C9) (o := .tmp 16) (by kernel_rfl) (fun hK => (KE_S5_ok R _ _ hK)) (fun hK => (KE_S6_ok R _ _ hK)) hK) a hA) (ha.cons hq0 (ha.cons hq3 (ha.cons hq5 ha.nil)))
noncomputable def C23 : Code := W.Code.fst C3
/-- law.go:34 -/
abbrev S2 (wv0 v3 : Addr) (t5 : Int) (w : World) (R : W.Post) : Prop :=
  W.sel (t5 == 0) (S3 wv0 v3 w R) (S4 wv0 v3 t5 w R)
def KE_S2 (E : W.Env) (w : World) (R : W.Post) : Prop := W.asRef (W.Env.get? E 0) fun wv0 => W.asRef (W.Env.get? E 3) fun v3 => W.asInt .i64 (W.Env.get? E 5) fun t5 => S2 wv0 v3 t5 w R
theorem KE_S2_ok (R : W.Post) (E : W.Env) (w : World) (h : KE_S2 E w R) : W.WP Try.prog 42 C3 (Q1 R) E w := by
  obtain ⟨wv0, hq0, h1⟩ := W.asRef_elim h
  obtain ⟨v3, hq3, h2⟩ := W.asRef_elim h1
  obtain ⟨t5, hq5, h3⟩ := W.asInt_elim h2
  exact fun a ha => W.WP.at (E := [(0, .pointer (some wv0)), (3, .pointer (some v3)), (5, .int .i64 t5)]) (W.WP.seq (c := C3) (x := C23) (y := C4) (by kernel_rfl) <| W.WP.reg (c := C23) (fun E w => W.condK (W.Env.val E (.tmp 10)) (KE_S3 E w R) (KE_S4 E w R)) (by kernel_rfl) (Eq.mp (by kernel_rfl) h3) fun _ _ a hA hK => (W.WP.condK (c := C4) (x := C5) (y := C6) (o := .tmp 10) (by kernel_rfl) (fun hK => (KE_S3_ok R _ _ hK)) (fun hK => (KE_S4_ok R _ _ hK)) hK) a hA) (ha.cons hq0 (ha.cons hq3 (ha.cons hq5 ha.nil)))
noncomputable def C24 : Code := W.Code.fst C1
/-- law.go:33 -/
abbrev S1 (wv0 v3 : Addr) (w : World) (R : W.Post) : Prop :=
  ∃ t5 : Int, w.cell? (v3.add 0) = some (.int .i64 t5) ∧ 
  S2 wv0 v3 t5 w R
def KE_S1 (E : W.Env) (w : World) (R : W.Post) : Prop := W.asRef (W.Env.get? E 0) fun wv0 => W.asRef (W.Env.get? E 3) fun v3 => S1 wv0 v3 w R
theorem KE_S1_ok (R : W.Post) (E : W.Env) (w : World) (h : KE_S1 E w R) : W.WP Try.prog 42 C1 (Q0 R) E w := by
  obtain ⟨wv0, hq0, h1⟩ := W.asRef_elim h
  obtain ⟨v3, hq3, h2⟩ := W.asRef_elim h1
  exact fun a ha => W.WP.at (E := [(0, .pointer (some wv0)), (3, .pointer (some v3))]) (W.WP.seq (c := C1) (x := C24) (y := C2) (by kernel_rfl) <| W.WP.reg (c := C24) (fun E w => KE_S2 E w R) (by kernel_rfl) (Eq.mp (by kernel_rfl) h2) fun _ _ a hA hK => (W.WP.block (c := C2) (x := C3) (id := 0) (by kernel_rfl) (KE_S2_ok R _ _ hK)) a hA) (ha.cons hq0 (ha.cons hq3 ha.nil))
noncomputable def C25 : Code := W.Code.fst C0
/-- law.go:32 -/
abbrev S0 (wv0 : Addr) (v1_0 v1_1 v1_2 : Int) (v1_3 v1_4 : W.Sl) (w : World) (R : W.Post) : Prop :=
  let w1 := w.alloc (.cells #[.int .i64 v1_0, .int .u64 v1_1, .int .i64 v1_2, v1_3.v, v1_4.v] ty_enthymemeref02_Val)
  S1 wv0 (Addr.mk w.heap.size 0 none) w1 R
def KE_S0 (E : W.Env) (w : World) (R : W.Post) : Prop := W.asRef (W.Env.get? E 0) fun wv0 => W.asAgg (W.Env.get? E 1) fun v1_l0 => W.asCons v1_l0 fun v1_v0 v1_l1 => W.asInt .i64 (some v1_v0) fun v1_0 => W.asCons v1_l1 fun v1_v1 v1_l2 => W.asInt .u64 (some v1_v1) fun v1_1 => W.asCons v1_l2 fun v1_v2 v1_l3 => W.asInt .i64 (some v1_v2) fun v1_2 => W.asCons v1_l3 fun v1_v3 v1_l4 => W.asSlice (some v1_v3) fun v1_3 => W.asCons v1_l4 fun v1_v4 v1_l5 => W.asSlice (some v1_v4) fun v1_4 => W.asNil v1_l5 <| S0 wv0 v1_0 v1_1 v1_2 v1_3 v1_4 w R
theorem KE_S0_ok (R : W.Post) (E : W.Env) (w : World) (h : KE_S0 E w R) : W.WP Try.prog 42 C0 (Q0 R) E w := by
  obtain ⟨wv0, hq0, h1⟩ := W.asRef_elim h
  obtain ⟨v1_l0, hq1, h2⟩ := W.asAgg_elim h1
  obtain ⟨v1_v0, v1_l1, rfl, h3⟩ := W.asCons_elim h2
  obtain ⟨v1_0, ex, h4⟩ := W.asInt_elim h3
  obtain rfl := Option.some.inj ex
  obtain ⟨v1_v1, v1_l2, rfl, h5⟩ := W.asCons_elim h4
  obtain ⟨v1_1, ex, h6⟩ := W.asInt_elim h5
  obtain rfl := Option.some.inj ex
  obtain ⟨v1_v2, v1_l3, rfl, h7⟩ := W.asCons_elim h6
  obtain ⟨v1_2, ex, h8⟩ := W.asInt_elim h7
  obtain rfl := Option.some.inj ex
  obtain ⟨v1_v3, v1_l4, rfl, h9⟩ := W.asCons_elim h8
  obtain ⟨v1_3, ex, h10⟩ := W.asSlice_elim h9
  obtain rfl := Option.some.inj ex
  obtain ⟨v1_v4, v1_l5, rfl, h11⟩ := W.asCons_elim h10
  obtain ⟨v1_4, ex, h12⟩ := W.asSlice_elim h11
  obtain rfl := Option.some.inj ex
  obtain ⟨rfl, h13⟩ := W.asNil_elim h12
  exact fun a ha => W.WP.at (E := [(0, .pointer (some wv0)), (1, .agg #[.int .i64 v1_0, .int .u64 v1_1, .int .i64 v1_2, v1_3.v, v1_4.v])]) (W.WP.seq (c := C0) (x := C25) (y := C1) (by kernel_rfl) <| W.WP.reg (c := C25) (fun E w => KE_S1 E w R) (by kernel_rfl) (Eq.mp (by kernel_rfl) h13) fun _ _ a hA hK => (KE_S1_ok R _ _ hK) a hA) (ha.cons hq0 (ha.cons hq1 ha.nil))
/-- enthymeme/enthymemelaw02.write -/
theorem ok (wv0 : Addr) (v1_0 v1_1 v1_2 : Int) (v1_3 v1_4 : W.Sl) (w : World) (R : W.Post) (h : S0 wv0 v1_0 v1_1 v1_2 v1_3 v1_4 w R) : Calls Try.prog n_enthymemelaw02_write #[.pointer (some wv0), .agg #[.int .i64 v1_0, .int .u64 v1_1, .int .i64 v1_2, v1_3.v, v1_4.v]] w R :=
  W.calls_of_WP' (fn := Try.f29) (c := C0) (args := [.pointer (some wv0), .agg #[.int .i64 v1_0, .int .u64 v1_1, .int .i64 v1_2, v1_3.v, v1_4.v]]) (by kernel_rfl) (by kernel_rfl) (by kernel_rfl) (KE_S0_ok R _ _ (Eq.mp (by kernel_rfl) h))
end enthymemelaw02_write
namespace enthymemelaw02_read
noncomputable def C0 : Code := (Try.f32.body).getD .skip
noncomputable def C1 : Code := W.Code.snd C0
noncomputable def C2 : Code := W.Code.snd C1
noncomputable def C3 : Code := W.Code.snd C2
abbrev Q0 (R : W.Post) : Exit → Act → World → Prop := (bodyPost Try.prog Try.f32 R)
noncomputable def C4 : Code := W.Code.fst C3
noncomputable def C5 : Code := W.Code.snd C3
/-- law.go:68 -/
abbrev S5 (t4 v5 : Addr) (w : World) (R : W.Post) : Prop :=
  ∃ t38_0 : Int, ∃ t38_1 : Int, ∃ t38_2 : Int, ∃ t38_3 : W.Sl, ∃ t38_4 : W.Sl, w.cell? (v5.add 0) = some (.int .i64 t38_0) ∧ w.cell? (v5.add 1) = some (.int .u64 t38_1) ∧ w.cell? (v5.add 2) = some (.int .i64 t38_2) ∧ w.cell? (v5.add 3) = some (t38_3.v) ∧ w.cell? (v5.add 4) = some (t38_4.v) ∧ 
  (w.cell? t4).isSome = true ∧ w.frozen? t4 = false ∧ let w1 := w.setCell t4 (.int .i64 t38_0)
  (w1.cell? (t4.add 1)).isSome = true ∧ w1.frozen? (t4.add 1) = false ∧ let w2 := w1.setCell (t4.add 1) (.int .u64 t38_1)
  (w2.cell? (t4.add 2)).isSome = true ∧ w2.frozen? (t4.add 2) = false ∧ let w3 := w2.setCell (t4.add 2) (.int .i64 t38_2)
  (w3.cell? (t4.add 3)).isSome = true ∧ w3.frozen? (t4.add 3) = false ∧ let w4 := w3.setCell (t4.add 3) (t38_3.v)
  (w4.cell? (t4.add 4)).isSome = true ∧ w4.frozen? (t4.add 4) = false ∧ let w5 := w4.setCell (t4.add 4) (t38_4.v)
  ∃ r4_0 : Int, ∃ r4_1 : Int, ∃ r4_2 : Int, ∃ r4_3 : W.Sl, ∃ r4_4 : W.Sl, w5.cell? (t4.add 0) = some (.int .i64 r4_0) ∧ w5.cell? (t4.add 1) = some (.int .u64 r4_1) ∧ w5.cell? (t4.add 2) = some (.int .i64 r4_2) ∧ w5.cell? (t4.add 3) = some (r4_3.v) ∧ w5.cell? (t4.add 4) = some (r4_4.v) ∧ 
  R (.returned (.agg #[.int .i64 r4_0, .int .u64 r4_1, .int .i64 r4_2, r4_3.v, r4_4.v])) w5
def KE_S5 (E : W.Env) (w : World) (R : W.Post) : Prop := W.asRef (W.Env.get? E 4) fun t4 => W.asRef (W.Env.get? E 5) fun v5 => S5 t4 v5 w R
theorem KE_S5_ok (R : W.Post) (E : W.Env) (w : World) (h : KE_S5 E w R) : W.WP Try.prog 39 C3 (Q0 R) E w := by
  obtain ⟨t4, hq4, h1⟩ := W.asRef_elim h
  obtain ⟨v5, hq5, h2⟩ := W.asRef_elim h1
  exact fun a ha => W.WP.at (E := [(4, .pointer (some t4)), (5, .pointer (some v5))]) (W.WP.seq (c := C3) (x := C4) (y := C5) (by kernel_rfl) <| W.WP.reg (c := C4) (fun E w => W.retVC Try.prog Try.f32 E w (fun v => R (.returned v) w)) (by kernel_rfl) (Eq.mp (by kernel_rfl) h2) fun _ _ a hA hK => (W.WP.ret (c := C5) (by kernel_rfl) fun a hA => W.retVC_sound hA hK) a hA) (ha.cons hq4 (ha.cons hq5 ha.nil))
noncomputable def C6 : Code := W.Code.fst C2
noncomputable def C7 : Code := W.Code.snd C6
noncomputable def C8 : Code := W.Code.fst C7
noncomputable def C9 : Code := W.Code.snd C8
noncomputable def C10 : Code := W.Code.fst C9
abbrev Q1 (R : W.Post) : Exit → Act → World → Prop := (Exit.then (Code.wp Try.prog C3 (bodyPost Try.prog Try.f32 R)) (bodyPost Try.prog Try.f32 R))
abbrev Q2 (R : W.Post) : Exit → Act → World → Prop := (Exit.inBlock 0 (Q1 R))
/-- law.go:54 -/
abbrev S4 (r0 t4 v5 : Addr) (w : World) (R : W.Post) : Prop :=
  Calls Try.prog n_wire_Reader_Uint #[.pointer (some r0)] w fun r_ w1 => ∃ t15 : Int, r_ = .returned (.int .u64 t15) ∧ 
  (w1.cell? (v5.add 1)).isSome = true ∧ w1.frozen? (v5.add 1) = false ∧ let w2 := w1.setCell (v5.add 1) (.int .u64 t15)
  S5 t4 v5 w2 R
def KE_S4 (E : W.Env) (w : World) (R : W.Post) : Prop := W.asRef (W.Env.get? E 0) fun r0 => W.asRef (W.Env.get? E 4) fun t4 => W.asRef (W.Env.get? E 5) fun v5 => S4 r0 t4 v5 w R
theorem KE_S4_ok (R : W.Post) (E : W.Env) (w : World) (h : KE_S4 E w R) : W.WP Try.prog 39 C10 (Q2 R) E w := by
  obtain ⟨r0, hq0, h1⟩ := W.asRef_elim h
  obtain ⟨t4, hq4, h2⟩ := W.asRef_elim h1
  obtain ⟨v5, hq5, h3⟩ := W.asRef_elim h2
  exact fun a ha => W.WP.at (E := [(0, .pointer (some r0)), (4, .pointer (some t4)), (5, .pointer (some v5))]) (W.WP.reg (c := C10) (fun E w => KE_S5 E w R) (by kernel_rfl) (Eq.mp (by kernel_rfl) h3) fun _ _ a hA hK => (KE_S5_ok R _ _ hK) a hA) (ha.cons hq0 (ha.cons hq4 (ha.cons hq5 ha.nil)))
noncomputable def C11 : Code := W.Code.snd C9
noncomputable def C12 : Code := W.Code.snd C11
noncomputable def C13 : Code := W.Code.fst C12
/-- law.go:56 -/
abbrev S7 (r0 t4 v5 : Addr) (w : World) (R : W.Post) : Prop :=
  Calls Try.prog n_wire_Reader_Int #[.pointer (some r0)] w fun r_ w1 => ∃ t20 : Int, r_ = .returned (.int .i64 t20) ∧ 
  (w1.cell? (v5.add 2)).isSome = true ∧ w1.frozen? (v5.add 2) = false ∧ let w2 := w1.setCell (v5.add 2) (.int .i64 t20)
  S5 t4 v5 w2 R
def KE_S7 (E : W.Env) (w : World) (R : W.Post) : Prop := W.asRef (W.Env.get? E 0) fun r0 => W.asRef (W.Env.get? E 4) fun t4 => W.asRef (W.Env.get? E 5) fun v5 => S7 r0 t4 v5 w R
theorem KE_S7_ok (R : W.Post) (E : W.Env) (w : World) (h : KE_S7 E w R) : W.WP Try.prog 39 C13 (Q2 R) E w := by
  obtain ⟨r0, hq0, h1⟩ := W.asRef_elim h
  obtain ⟨t4, hq4, h2⟩ := W.asRef_elim h1
  obtain ⟨v5, hq5, h3⟩ := W.asRef_elim h2
  exact fun a ha => W.WP.at (E := [(0, .pointer (some r0)), (4, .pointer (some t4)), (5, .pointer (some v5))]) (W.WP.reg (c := C13) (fun E w => KE_S5 E w R) (by kernel_rfl) (Eq.mp (by kernel_rfl) h3) fun _ _ a hA hK => (KE_S5_ok R _ _ hK) a hA) (ha.cons hq0 (ha.cons hq4 (ha.cons hq5 ha.nil)))
noncomputable def C14 : Code := W.Code.snd C12
noncomputable def C15 : Code := W.Code.snd C14
noncomputable def C16 : Code := W.Code.fst C15
noncomputable def C17 : Code := W.Code.snd C16
noncomputable def C18 : Code := W.Code.fst C17
/-- law.go:59 -/
abbrev S10 (t4 v5 : Addr) (w : World) (R : W.Post) : Prop :=
  (w.cell? (v5.add 2)).isSome = true ∧ w.frozen? (v5.add 2) = false ∧ let w1 := w.setCell (v5.add 2) (.int .i64 1)
  S5 t4 v5 w1 R
def KE_S10 (E : W.Env) (w : World) (R : W.Post) : Prop := W.asRef (W.Env.get? E 4) fun t4 => W.asRef (W.Env.get? E 5) fun v5 => S10 t4 v5 w R
theorem KE_S10_ok (R : W.Post) (E : W.Env) (w : World) (h : KE_S10 E w R) : W.WP Try.prog 39 C18 (Q2 R) E w := by
  obtain ⟨t4, hq4, h1⟩ := W.asRef_elim h
  obtain ⟨v5, hq5, h2⟩ := W.asRef_elim h1
  exact fun a ha => W.WP.at (E := [(4, .pointer (some t4)), (5, .pointer (some v5))]) (W.WP.reg (c := C18) (fun E w => KE_S5 E w R) (by kernel_rfl) (Eq.mp (by kernel_rfl) h2) fun _ _ a hA hK => (KE_S5_ok R _ _ hK) a hA) (ha.cons hq4 (ha.cons hq5 ha.nil))
noncomputable def C19 : Code := W.Code.fst C16
noncomputable def C20 : Code := W.Code.snd C17
/-- law.go:58 -/
abbrev S9 (r0 t4 v5 : Addr) (w : World) (R : W.Post) : Prop :=
  Calls Try.prog n_wire_Reader_Bool #[.pointer (some r0)] w fun r_ w1 => ∃ t25 : Bool, r_ = .returned (.bool t25) ∧ 
  W.sel t25 (S10 t4 v5 w1 R) (S5 t4 v5 w1 R)
def KE_S9 (E : W.Env) (w : World) (R : W.Post) : Prop := W.asRef (W.Env.get? E 0) fun r0 => W.asRef (W.Env.get? E 4) fun t4 => W.asRef (W.Env.get? E 5) fun v5 => S9 r0 t4 v5 w R
theorem KE_S9_ok (R : W.Post) (E : W.Env) (w : World) (h : KE_S9 E w R) : W.WP Try.prog 39 C16 (Q2 R) E w := by
  obtain ⟨r0, hq0, h1⟩ := W.asRef_elim h
  obtain ⟨t4, hq4, h2⟩ := W.asRef_elim h1
  obtain ⟨v5, hq5, h3⟩ := W.asRef_elim h2
  exact fun a ha => W.WP.at (E := [(0, .pointer (some r0)), (4, .pointer (some t4)), (5, .pointer (some v5))]) (W.WP.seq (c := C16) (x := C19) (y := C17) (by kernel_rfl) <| W.WP.reg (c := C19) (fun E w => W.condK (W.Env.val E (.tmp 25)) (KE_S10 E w R) (KE_S5 E w R)) (by kernel_rfl) (Eq.mp (by kernel_rfl) h3) fun _ _ a hA hK => (W.WP.condK (c := C17) (x := C18) (y := C20) (o := .tmp 25) (by kernel_rfl) (fun hK => (KE_S10_ok R _ _ hK)) (fun hK => (W.WP.skip (c := C20) (by kernel_rfl) fun a hA => (KE_S5_ok R _ _ hK) a hA)) hK) a hA) (ha.cons hq0 (ha.cons hq4 (ha.cons hq5 ha.nil)))
noncomputable def C21 : Code := W.Code.snd C15
noncomputable def C22 : Code := W.Code.snd C21
noncomputable def C23 : Code := W.Code.fst C22
/-- law.go:62 -/
abbrev S12 (r0 t4 v5 : Addr) (w : World) (R : W.Post) : Prop :=
  Calls Try.prog n_wire_Reader_Text #[.pointer (some r0)] w fun r_ w1 => ∃ t30 : ByteArray, r_ = .returned (.string t30) ∧ 
  ∃ (t31 : W.Sl) (w2 : World), Sem.run Try.prog (Go.convert ty_string ty_sl_uint8 (.string t30)) w1 = .ok (t31.v) w2 ∧ (w2.cell? (v5.add 3)).isSome = true ∧ w2.frozen? (v5.add 3) = false ∧ let w3 := w2.setCell (v5.add 3) (t31.v)
  S5 t4 v5 w3 R
def KE_S12 (E : W.Env) (w : World) (R : W.Post) : Prop := W.asRef (W.Env.get? E 0) fun r0 => W.asRef (W.Env.get? E 4) fun t4 => W.asRef (W.Env.get? E 5) fun v5 => S12 r0 t4 v5 w R
theorem KE_S12_ok (R : W.Post) (E : W.Env) (w : World) (h : KE_S12 E w R) : W.WP Try.prog 39 C23 (Q2 R) E w := by
  obtain ⟨r0, hq0, h1⟩ := W.asRef_elim h
  obtain ⟨t4, hq4, h2⟩ := W.asRef_elim h1
  obtain ⟨v5, hq5, h3⟩ := W.asRef_elim h2
  exact fun a ha => W.WP.at (E := [(0, .pointer (some r0)), (4, .pointer (some t4)), (5, .pointer (some v5))]) (W.WP.reg (c := C23) (fun E w => KE_S5 E w R) (by kernel_rfl) (Eq.mp (by kernel_rfl) h3) fun _ _ a hA hK => (KE_S5_ok R _ _ hK) a hA) (ha.cons hq0 (ha.cons hq4 (ha.cons hq5 ha.nil)))
noncomputable def C24 : Code := W.Code.snd C22
noncomputable def C25 : Code := W.Code.snd C24
noncomputable def C26 : Code := W.Code.fst C25
/-- law.go:64 -/
abbrev S14 (r0 t4 v5 : Addr) (w : World) (R : W.Post) : Prop :=
  Calls Try.prog n_wire_Reader_Raw #[.pointer (some r0)] w fun r_ w1 => ∃ t36 : W.Sl, r_ = .returned (t36.v) ∧ 
  (w1.cell? (v5.add 3)).isSome = true ∧ w1.frozen? (v5.add 3) = false ∧ let w2 := w1.setCell (v5.add 3) (t36.v)
  S5 t4 v5 w2 R
def KE_S14 (E : W.Env) (w : World) (R : W.Post) : Prop := W.asRef (W.Env.get? E 0) fun r0 => W.asRef (W.Env.get? E 4) fun t4 => W.asRef (W.Env.get? E 5) fun v5 => S14 r0 t4 v5 w R
theorem KE_S14_ok (R : W.Post) (E : W.Env) (w : World) (h : KE_S14 E w R) : W.WP Try.prog 39 C26 (Q2 R) E w := by
  obtain ⟨r0, hq0, h1⟩ := W.asRef_elim h
  obtain ⟨t4, hq4, h2⟩ := W.asRef_elim h1
  obtain ⟨v5, hq5, h3⟩ := W.asRef_elim h2
  exact fun a ha => W.WP.at (E := [(0, .pointer (some r0)), (4, .pointer (some t4)), (5, .pointer (some v5))]) (W.WP.reg (c := C26) (fun E w => KE_S5 E w R) (by kernel_rfl) (Eq.mp (by kernel_rfl) h3) fun _ _ a hA hK => (KE_S5_ok R _ _ hK) a hA) (ha.cons hq0 (ha.cons hq4 (ha.cons hq5 ha.nil)))
noncomputable def C27 : Code := W.Code.snd C25
/-- law.go:66 -/
abbrev S15 (r0 t4 v5 : Addr) (w : World) (R : W.Post) : Prop :=
  Calls Try.prog n_wire_Reader_Ints #[.pointer (some r0)] w fun r_ w1 => ∃ t10 : W.Sl, r_ = .returned (t10.v) ∧ 
  (w1.cell? (v5.add 4)).isSome = true ∧ w1.frozen? (v5.add 4) = false ∧ let w2 := w1.setCell (v5.add 4) (t10.v)
  S5 t4 v5 w2 R
def KE_S15 (E : W.Env) (w : World) (R : W.Post) : Prop := W.asRef (W.Env.get? E 0) fun r0 => W.asRef (W.Env.get? E 4) fun t4 => W.asRef (W.Env.get? E 5) fun v5 => S15 r0 t4 v5 w R
theorem KE_S15_ok (R : W.Post) (E : W.Env) (w : World) (h : KE_S15 E w R) : W.WP Try.prog 39 C27 (Q2 R) E w := by
  obtain ⟨r0, hq0, h1⟩ := W.asRef_elim h
  obtain ⟨t4, hq4, h2⟩ := W.asRef_elim h1
  obtain ⟨v5, hq5, h3⟩ := W.asRef_elim h2
  exact fun a ha => W.WP.at (E := [(0, .pointer (some r0)), (4, .pointer (some t4)), (5, .pointer (some v5))]) (W.WP.reg (c := C27) (fun E w => KE_S5 E w R) (by kernel_rfl) (Eq.mp (by kernel_rfl) h3) fun _ _ a hA hK => (KE_S5_ok R _ _ hK) a hA) (ha.cons hq0 (ha.cons hq4 (ha.cons hq5 ha.nil)))
noncomputable def C28 : Code := W.Code.fst C24
/-- law.go:63 -/
abbrev S13 (r0 t4 v5 : Addr) (t8 : Int) (w : World) (R : W.Post) : Prop :=
  W.sel (t8 == 4) (S14 r0 t4 v5 w R) (S15 r0 t4 v5 w R)
def KE_S13 (E : W.Env) (w : World) (R : W.Post) : Prop := W.asRef (W.Env.get? E 0) fun r0 => W.asRef (W.Env.get? E 4) fun t4 => W.asRef (W.Env.get? E 5) fun v5 => W.asInt .i64 (W.Env.get? E 8) fun t8 => S13 r0 t4 v5 t8 w R
theorem KE_S13_ok (R : W.Post) (E : W.Env) (w : World) (h : KE_S13 E w R) : W.WP Try.prog 39 C24 (Q2 R) E w := by
  obtain ⟨r0, hq0, h1⟩ := W.asRef_elim h
  obtain ⟨t4, hq4, h2⟩ := W.asRef_elim h1
  obtain ⟨v5, hq5, h3⟩ := W.asRef_elim h2
  obtain ⟨t8, hq8, h4⟩ := W.asInt_elim h3
  exact fun a ha => W.WP.at (E := [(0, .pointer (some r0)), (4, .pointer (some t4)), (5, .pointer (some v5)), (8, .int .i64 t8)]) (W.WP.seq (c := C24) (x := C28) (y := C25) (by kernel_rfl) <| W.WP.reg (c := C28) (fun E w => W.condK (W.Env.val E (.tmp 33)) (KE_S14 E w R) (KE_S15 E w R)) (by kernel_rfl) (Eq.mp (by kernel_rfl) h4) fun _ _ a hA hK => (W.WP.condK (c := C25) (x := C26) (y := C27) (o := .tmp 33) (by kernel_rfl) (fun hK => (KE_S14_ok R _ _ hK)) (fun hK => (KE_S15_ok R _ _ hK)) hK) a hA) (ha.cons hq0 (ha.cons hq4 (ha.cons hq5 (ha.cons hq8 ha.nil))))
noncomputable def C29 : Code := W.Code.fst C21
/-- law.go:61 -/
abbrev S11 (r0 t4 v5 : Addr) (t8 : Int) (w : World) (R : W.Post) : Prop :=
  W.sel (t8 == 3) (S12 r0 t4 v5 w R) (S13 r0 t4 v5 t8 w R)
def KE_S11 (E : W.Env) (w : World) (R : W.Post) : Prop := W.asRef (W.Env.get? E 0) fun r0 => W.asRef (W.Env.get? E 4) fun t4 => W.asRef (W.Env.get? E 5) fun v5 => W.asInt .i64 (W.Env.get? E 8) fun t8 => S11 r0 t4 v5 t8 w R
theorem KE_S11_ok (R : W.Post) (E : W.Env) (w : World) (h : KE_S11 E w R) : W.WP Try.prog 39 C21 (Q2 R) E w := by
  obtain ⟨r0, hq0, h1⟩ := W.asRef_elim h
  obtain ⟨t4, hq4, h2⟩ := W.asRef_elim h1
  obtain ⟨v5, hq5, h3⟩ := W.asRef_elim h2
  obtain ⟨t8, hq8, h4⟩ := W.asInt_elim h3
  exact fun a ha => W.WP.at (E := [(0, .pointer (some r0)), (4, .pointer (some t4)), (5, .pointer (some v5)), (8, .int .i64 t8)]) (W.WP.seq (c := C21) (x := C29) (y := C22) (by kernel_rfl) <| W.WP.reg (c := C29) (fun E w => W.condK (W.Env.val E (.tmp 27)) (KE_S12 E w R) (KE_S13 E w R)) (by kernel_rfl) (Eq.mp (by kernel_rfl) h4) fun _ _ a hA hK => (W.WP.condK (c := C22) (x := C23) (y := C24) (o := .tmp 27) (by kernel_rfl) (fun hK => (KE_S12_ok R _ _ hK)) (fun hK => (KE_S13_ok R _ _ hK)) hK) a hA) (ha.cons hq0 (ha.cons hq4 (ha.cons hq5 (ha.cons hq8 ha.nil))))
noncomputable def C30 : Code := W.Code.fst C14
/-- law.go:57 -/
abbrev S8 (r0 t4 v5 : Addr) (t8 : Int) (w : World) (R : W.Post) : Prop :=
  W.sel (t8 == 2) (S9 r0 t4 v5 w R) (S11 r0 t4 v5 t8 w R)
def KE_S8 (E : W.Env) (w : World) (R : W.Post) : Prop := W.asRef (W.Env.get? E 0) fun r0 => W.asRef (W.Env.get? E 4) fun t4 => W.asRef (W.Env.get? E 5) fun v5 => W.asInt .i64 (W.Env.get? E 8) fun t8 => S8 r0 t4 v5 t8 w R
theorem KE_S8_ok (R : W.Post) (E : W.Env) (w : World) (h : KE_S8 E w R) : W.WP Try.prog 39 C14 (Q2 R) E w := by
  obtain ⟨r0, hq0, h1⟩ := W.asRef_elim h
  obtain ⟨t4, hq4, h2⟩ := W.asRef_elim h1
  obtain ⟨v5, hq5, h3⟩ := W.asRef_elim h2
  obtain ⟨t8, hq8, h4⟩ := W.asInt_elim h3
  exact fun a ha => W.WP.at (E := [(0, .pointer (some r0)), (4, .pointer (some t4)), (5, .pointer (some v5)), (8, .int .i64 t8)]) (W.WP.seq (c := C14) (x := C30) (y := C15) (by kernel_rfl) <| W.WP.reg (c := C30) (fun E w => W.condK (W.Env.val E (.tmp 22)) (KE_S9 E w R) (KE_S11 E w R)) (by kernel_rfl) (Eq.mp (by kernel_rfl) h4) fun _ _ a hA hK => (W.WP.condK (c := C15) (x := C16) (y := C21) (o := .tmp 22) (by kernel_rfl) (fun hK => (KE_S9_ok R _ _ hK)) (fun hK => (KE_S11_ok R _ _ hK)) hK) a hA) (ha.cons hq0 (ha.cons hq4 (ha.cons hq5 (ha.cons hq8 ha.nil))))
noncomputable def C31 : Code := W.Code.fst C11
/-- law.go:55 -/
abbrev S6 (r0 t4 v5 : Addr) (t8 : Int) (w : World) (R : W.Post) : Prop :=
  W.sel (t8 == 1) (S7 r0 t4 v5 w R) (S8 r0 t4 v5 t8 w R)
def KE_S6 (E : W.Env) (w : World) (R : W.Post) : Prop := W.asRef (W.Env.get? E 0) fun r0 => W.asRef (W.Env.get? E 4) fun t4 => W.asRef (W.Env.get? E 5) fun v5 => W.asInt .i64 (W.Env.get? E 8) fun t8 => S6 r0 t4 v5 t8 w R
theorem KE_S6_ok (R : W.Post) (E : W.Env) (w : World) (h : KE_S6 E w R) : W.WP Try.prog 39 C11 (Q2 R) E w := by
  obtain ⟨r0, hq0, h1⟩ := W.asRef_elim h
  obtain ⟨t4, hq4, h2⟩ := W.asRef_elim h1
  obtain ⟨v5, hq5, h3⟩ := W.asRef_elim h2
  obtain ⟨t8, hq8, h4⟩ := W.asInt_elim h3
  exact fun a ha => W.WP.at (E := [(0, .pointer (some r0)), (4, .pointer (some t4)), (5, .pointer (some v5)), (8, .int .i64 t8)]) (W.WP.seq (c := C11) (x := C31) (y := C12) (by kernel_rfl) <| W.WP.reg (c := C31) (fun E w => W.condK (W.Env.val E (.tmp 17)) (KE_S7 E w R) (KE_S8 E w R)) (by kernel_rfl) (Eq.mp (by kernel_rfl) h4) fun _ _ a hA hK => (W.WP.condK (c := C12) (x := C13) (y := C14) (o := .tmp 17) (by kernel_rfl) (fun hK => (KE_S7_ok R _ _ hK)) (fun hK => (KE_S8_ok R _ _ hK)) hK) a hA) (ha.cons hq0 (ha.cons hq4 (ha.cons hq5 (ha.cons hq8 ha.nil))))
noncomputable def C32 : Code := W.Code.fst C8
/-- law.go:53 -/
abbrev S3 (r0 t4 v5 : Addr) (t8 : Int) (w : World) (R : W.Post) : Prop :=
  W.sel (t8 == 0) (S4 r0 t4 v5 w R) (S6 r0 t4 v5 t8 w R)
def KE_S3 (E : W.Env) (w : World) (R : W.Post) : Prop := W.asRef (W.Env.get? E 0) fun r0 => W.asRef (W.Env.get? E 4) fun t4 => W.asRef (W.Env.get? E 5) fun v5 => W.asInt .i64 (W.Env.get? E 8) fun t8 => S3 r0 t4 v5 t8 w R
theorem KE_S3_ok (R : W.Post) (E : W.Env) (w : World) (h : KE_S3 E w R) : W.WP Try.prog 39 C8 (Q2 R) E w := by
  obtain ⟨r0, hq0, h1⟩ := W.asRef_elim h
  obtain ⟨t4, hq4, h2⟩ := W.asRef_elim h1
  obtain ⟨v5, hq5, h3⟩ := W.asRef_elim h2
  obtain ⟨t8, hq8, h4⟩ := W.asInt_elim h3
  exact fun a ha => W.WP.at (E := [(0, .pointer (some r0)), (4, .pointer (some t4)), (5, .pointer (some v5)), (8, .int .i64 t8)]) (W.WP.seq (c := C8) (x := C32) (y := C9) (by kernel_rfl) <| W.WP.reg (c := C32) (fun E w => W.condK (W.Env.val E (.tmp 12)) (KE_S4 E w R) (KE_S6 E w R)) (by kernel_rfl) (Eq.mp (by kernel_rfl) h4) fun _ _ a hA hK => (W.WP.condK (c := C9) (x := C10) (y := C11) (o := .tmp 12) (by kernel_rfl) (fun hK => (KE_S4_ok R _ _ hK)) (fun hK => (KE_S6_ok R _ _ hK)) hK) a hA) (ha.cons hq0 (ha.cons hq4 (ha.cons hq5 (ha.cons hq8 ha.nil))))
noncomputable def C33 : Code := W.Code.fst C6
/-- law.go:52 -/
abbrev S2 (r0 : Addr) (kind1 : Int) (t4 v5 : Addr) (w : World) (R : W.Post) : Prop :=
  S3 r0 t4 v5 kind1 w R
def KE_S2 (E : W.Env) (w : World) (R : W.Post) : Prop := W.asRef (W.Env.get? E 0) fun r0 => W.asInt .i64 (W.Env.get? E 1) fun kind1 => W.asRef (W.Env.get? E 4) fun t4 => W.asRef (W.Env.get? E 5) fun v5 => S2 r0 kind1 t4 v5 w R
theorem KE_S2_ok (R : W.Post) (E : W.Env) (w : World) (h : KE_S2 E w R) : W.WP Try.prog 39 C6 (Q1 R) E w := by
  obtain ⟨r0, hq0, h1⟩ := W.asRef_elim h
  obtain ⟨kind1, hq1, h2⟩ := W.asInt_elim h1
  obtain ⟨t4, hq4, h3⟩ := W.asRef_elim h2
  obtain ⟨v5, hq5, h4⟩ := W.asRef_elim h3
  exact fun a ha => W.WP.at (E := [(0, .pointer (some r0)), (1, .int .i64 kind1), (4, .pointer (some t4)), (5, .pointer (some v5))]) (W.WP.seq (c := C6) (x := C33) (y := C7) (by kernel_rfl) <| W.WP.reg (c := C33) (fun E w => KE_S3 E w R) (by kernel_rfl) (Eq.mp (by kernel_rfl) h4) fun _ _ a hA hK => (W.WP.block (c := C7) (x := C8) (id := 0) (by kernel_rfl) (KE_S3_ok R _ _ hK)) a hA) (ha.cons hq0 (ha.cons hq1 (ha.cons hq4 (ha.cons hq5 ha.nil))))
noncomputable def C34 : Code := W.Code.fst C1
/-- law.go:51 -/
abbrev S1 (r0 : Addr) (kind1 : Int) (t4 : Addr) (w : World) (R : W.Post) : Prop :=
  let w1 := w.alloc (.cells #[.int .i64 0, .int .u64 0, .int .i64 0, .slice none 0 0, .slice none 0 0] ty_enthymemeref02_Val)
  (w1.cell? (Addr.mk w.heap.size 0 none)).isSome = true ∧ w1.frozen? (Addr.mk w.heap.size 0 none) = false ∧ let w2 := w1.setCell (Addr.mk w.heap.size 0 none) (.int .i64 kind1)
  (w2.cell? ((Addr.mk w.heap.size 0 none).add 1)).isSome = true ∧ w2.frozen? ((Addr.mk w.heap.size 0 none).add 1) = false ∧ let w3 := w2.setCell ((Addr.mk w.heap.size 0 none).add 1) (.int .u64 0)
  (w3.cell? ((Addr.mk w.heap.size 0 none).add 2)).isSome = true ∧ w3.frozen? ((Addr.mk w.heap.size 0 none).add 2) = false ∧ let w4 := w3.setCell ((Addr.mk w.heap.size 0 none).add 2) (.int .i64 0)
  (w4.cell? ((Addr.mk w.heap.size 0 none).add 3)).isSome = true ∧ w4.frozen? ((Addr.mk w.heap.size 0 none).add 3) = false ∧ let w5 := w4.setCell ((Addr.mk w.heap.size 0 none).add 3) (.slice none 0 0)
  (w5.cell? ((Addr.mk w.heap.size 0 none).add 4)).isSome = true ∧ w5.frozen? ((Addr.mk w.heap.size 0 none).add 4) = false ∧ let w6 := w5.setCell ((Addr.mk w.heap.size 0 none).add 4) (.slice none 0 0)
  S2 r0 kind1 t4 (Addr.mk w.heap.size 0 none) w6 R
def KE_S1 (E : W.Env) (w : World) (R : W.Post) : Prop := W.asRef (W.Env.get? E 0) fun r0 => W.asInt .i64 (W.Env.get? E 1) fun kind1 => W.asRef (W.Env.get? E 4) fun t4 => S1 r0 kind1 t4 w R
theorem KE_S1_ok (R : W.Post) (E : W.Env) (w : World) (h : KE_S1 E w R) : W.WP Try.prog 39 C1 (Q0 R) E w := by
  obtain ⟨r0, hq0, h1⟩ := W.asRef_elim h
  obtain ⟨kind1, hq1, h2⟩ := W.asInt_elim h1
  obtain ⟨t4, hq4, h3⟩ := W.asRef_elim h2
  exact fun a ha => W.WP.at (E := [(0, .pointer (some r0)), (1, .int .i64 kind1), (4, .pointer (some t4))]) (W.WP.seq (c := C1) (x := C34) (y := C2) (by kernel_rfl) <| W.WP.reg (c := C34) (fun E w => KE_S2 E w R) (by kernel_rfl) (Eq.mp (by kernel_rfl) h3) fun _ _ a hA hK => (W.WP.seq (c := C2) (x := C6) (y := C3) (by kernel_rfl) (KE_S2_ok R _ _ hK)) a hA) (ha.cons hq0 (ha.cons hq1 (ha.cons hq4 ha.nil)))
noncomputable def C35 : Code := W.Code.fst C0
/-- law.go:50 -/
abbrev S0 (r0 : Addr) (kind1 : Int) (w : World) (R : W.Post) : Prop :=
  let w1 := w.alloc (.cells #[.int .i64 0, .int .u64 0, .int .i64 0, .slice none 0 0, .slice none 0 0] ty_enthymemeref02_Val)
  S1 r0 kind1 (Addr.mk w.heap.size 0 none) w1 R
def KE_S0 (E : W.Env) (w : World) (R : W.Post) : Prop := W.asRef (W.Env.get? E 0) fun r0 => W.asInt .i64 (W.Env.get? E 1) fun kind1 => S0 r0 kind1 w R
theorem KE_S0_ok (R : W.Post) (E : W.Env) (w : World) (h : KE_S0 E w R) : W.WP Try.prog 39 C0 (Q0 R) E w := by
  obtain ⟨r0, hq0, h1⟩ := W.asRef_elim h
  obtain ⟨kind1, hq1, h2⟩ := W.asInt_elim h1
  exact fun a ha => W.WP.at (E := [(0, .pointer (some r0)), (1, .int .i64 kind1)]) (W.WP.seq (c := C0) (x := C35) (y := C1) (by kernel_rfl) <| W.WP.reg (c := C35) (fun E w => KE_S1 E w R) (by kernel_rfl) (Eq.mp (by kernel_rfl) h2) fun _ _ a hA hK => (KE_S1_ok R _ _ hK) a hA) (ha.cons hq0 (ha.cons hq1 ha.nil))
/-- enthymeme/enthymemelaw02.read -/
theorem ok (r0 : Addr) (kind1 : Int) (w : World) (R : W.Post) (h : S0 r0 kind1 w R) : Calls Try.prog n_enthymemelaw02_read #[.pointer (some r0), .int .i64 kind1] w R :=
  W.calls_of_WP' (fn := Try.f32) (c := C0) (args := [.pointer (some r0), .int .i64 kind1]) (by kernel_rfl) (by kernel_rfl) (by kernel_rfl) (KE_S0_ok R _ _ (Eq.mp (by kernel_rfl) h))
end enthymemelaw02_read
namespace enthymemelaw02_encode
noncomputable def C0 : Code := (Try.f37.body).getD .skip
noncomputable def C1 : Code := W.Code.snd C0
noncomputable def C2 : Code := W.Code.snd C1
noncomputable def C3 : Code := W.Code.fst C2
noncomputable def C4 : Code := W.Code.snd C3
noncomputable def C5 : Code := W.Code.fst C4
noncomputable def C6 : Code := W.Code.fst C5
noncomputable def C7 : Code := W.Code.snd C2
abbrev Q0 (R : W.Post) : Exit → Act → World → Prop := (Exit.then (Code.wp Try.prog C7 (bodyPost Try.prog Try.f37 R)) (bodyPost Try.prog Try.f37 R))
abbrev Q1 (R : W.Post) : Exit → Act → World → Prop := (Exit.inBlock 0 (Q0 R))
/-- the head of the loop, law.go:74 -/
def L3 (l0 : W.Sl) (wv3 : Addr) (i4 : Int) (w : World) (R : W.Post) : Prop := W.LP Try.prog 17 C6 (Q1 R) [(0, l0.v), (3, .pointer (some wv3)), (4, .int .i64 i4)] w
def KE_L3 (E : W.Env) (w : World) (R : W.Post) : Prop := W.asSlice (W.Env.get? E 0) fun l0 => W.asRef (W.Env.get? E 3) fun wv3 => W.asInt .i64 (W.Env.get? E 4) fun i4 => L3 l0 wv3 i4 w R
theorem KE_L3_ok (R : W.Post) (E : W.Env) (w : World) (h : KE_L3 E w R) : W.LP Try.prog 17 C6 (Q1 R) E w := by
  obtain ⟨l0, hq0, h1⟩ := W.asSlice_elim h
  obtain ⟨wv3, hq3, h2⟩ := W.asRef_elim h1
  obtain ⟨i4, hq4, h3⟩ := W.asInt_elim h2
  intro a ha
  exact h3 a (ha.cons hq0 (ha.cons hq3 (ha.cons hq4 ha.nil)))
noncomputable def C8 : Code := W.Code.snd C6
noncomputable def C9 : Code := W.Code.snd C8
abbrev Q2 (R : W.Post) : Exit → Act → World → Prop := (Exit.then (W.LoopWP Try.prog C6 (Q1 R)) (Q1 R))
/-- law.go:74 -/
abbrev S6 (l0 : W.Sl) (wv3 : Addr) (i4 : Int) (w : World) (R : W.Post) : Prop :=
  L3 l0 wv3 (IntKind.wrap .i64 (i4 + 1)) w R
def KE_S6 (E : W.Env) (w : World) (R : W.Post) : Prop := W.asSlice (W.Env.get? E 0) fun l0 => W.asRef (W.Env.get? E 3) fun wv3 => W.asInt .i64 (W.Env.get? E 4) fun i4 => S6 l0 wv3 i4 w R
theorem KE_S6_ok (R : W.Post) (E : W.Env) (w : World) (h : KE_S6 E w R) : W.WP Try.prog 17 C9 (Q2 R) E w := by
  obtain ⟨l0, hq0, h1⟩ := W.asSlice_elim h
  obtain ⟨wv3, hq3, h2⟩ := W.asRef_elim h1
  obtain ⟨i4, hq4, h3⟩ := W.asInt_elim h2
  exact fun a ha => W.WP.at (E := [(0, l0.v), (3, .pointer (some wv3)), (4, .int .i64 i4)]) (W.WP.reg (c := C9) (fun E w => KE_L3 E w R) (by kernel_rfl) (Eq.mp (by kernel_rfl) h3) fun _ _ a hA hK => KE_L3_ok R _ _ hK a hA) (ha.cons hq0 (ha.cons hq3 (ha.cons hq4 ha.nil)))
noncomputable def C10 : Code := W.Code.fst C8
noncomputable def C11 : Code := W.Code.fst C10
abbrev Q3 (R : W.Post) : Exit → Act → World → Prop := (Exit.then (Code.wp Try.prog C9 (Exit.then (W.LoopWP Try.prog C6 (Q1 R)) (Q1 R))) (Exit.then (W.LoopWP Try.prog C6 (Q1 R)) (Q1 R)))
abbrev Q4 (R : W.Post) : Exit → Act → World → Prop := (Exit.inBlock 1 (Q3 R))
/-- law.go:75 -/
abbrev S5 (l0 : W.Sl) (wv3 : Addr) (i4 : Int) (w : World) (R : W.Post) : Prop :=
  (0 : Int) ≤ i4 ∧ i4 < ((l0.n : Nat) : Int) ∧ W.optP l0.a fun t13_p => ∃ t14_0 : Int, ∃ t14_1 : Int, ∃ t14_2 : Int, ∃ t14_3 : W.Sl, ∃ t14_4 : W.Sl, w.cell? ((t13_p.add (Int.toNat i4 * 5)).add 0) = some (.int .i64 t14_0) ∧ w.cell? ((t13_p.add (Int.toNat i4 * 5)).add 1) = some (.int .u64 t14_1) ∧ w.cell? ((t13_p.add (Int.toNat i4 * 5)).add 2) = some (.int .i64 t14_2) ∧ w.cell? ((t13_p.add (Int.toNat i4 * 5)).add 3) = some (t14_3.v) ∧ w.cell? ((t13_p.add (Int.toNat i4 * 5)).add 4) = some (t14_4.v) ∧ 
  Calls Try.prog n_enthymemelaw02_write #[.pointer (some wv3), .agg #[.int .i64 t14_0, .int .u64 t14_1, .int .i64 t14_2, t14_3.v, t14_4.v]] w fun r_ w1 => r_ = .returned (.tuple #[]) ∧ 
  S6 l0 wv3 i4 w1 R
def KE_S5 (E : W.Env) (w : World) (R : W.Post) : Prop := W.asSlice (W.Env.get? E 0) fun l0 => W.asRef (W.Env.get? E 3) fun wv3 => W.asInt .i64 (W.Env.get? E 4) fun i4 => S5 l0 wv3 i4 w R
theorem KE_S5_ok (R : W.Post) (E : W.Env) (w : World) (h : KE_S5 E w R) : W.WP Try.prog 17 C11 (Q4 R) E w := by
  obtain ⟨l0, hq0, h1⟩ := W.asSlice_elim h
  obtain ⟨wv3, hq3, h2⟩ := W.asRef_elim h1
  obtain ⟨i4, hq4, h3⟩ := W.asInt_elim h2
  exact fun a ha => W.WP.at (E := [(0, l0.v), (3, .pointer (some wv3)), (4, .int .i64 i4)]) (W.WP.reg (c := C11) (fun E w => KE_S6 E w R) (by kernel_rfl) (Eq.mp (by kernel_rfl) h3) fun _ _ a hA hK => (KE_S6_ok R _ _ hK) a hA) (ha.cons hq0 (ha.cons hq3 (ha.cons hq4 ha.nil)))
abbrev Q5 (R : W.Post) : Exit → Act → World → Prop := (bodyPost Try.prog Try.f37 R)
noncomputable def C12 : Code := W.Code.fst C7
noncomputable def C13 : Code := W.Code.snd C7
/-- law.go:77 -/
abbrev S7 (wv3 : Addr) (w : World) (R : W.Post) : Prop :=
  Calls Try.prog n_wire_Writer_Done #[.pointer (some wv3)] w fun r_ w1 => ∃ t16 : W.Sl, r_ = .returned (t16.v) ∧ 
  R (.returned (t16.v)) w1
def KE_S7 (E : W.Env) (w : World) (R : W.Post) : Prop := W.asRef (W.Env.get? E 3) fun wv3 => S7 wv3 w R
theorem KE_S7_ok (R : W.Post) (E : W.Env) (w : World) (h : KE_S7 E w R) : W.WP Try.prog 17 C7 (Q5 R) E w := by
  obtain ⟨wv3, hq3, h1⟩ := W.asRef_elim h
  exact fun a ha => W.WP.at (E := [(3, .pointer (some wv3))]) (W.WP.seq (c := C7) (x := C12) (y := C13) (by kernel_rfl) <| W.WP.reg (c := C12) (fun E w => W.retVC Try.prog Try.f37 E w (fun v => R (.returned v) w)) (by kernel_rfl) (Eq.mp (by kernel_rfl) h1) fun _ _ a hA hK => (W.WP.ret (c := C13) (by kernel_rfl) fun a hA => W.retVC_sound hA hK) a hA) (ha.cons hq3 ha.nil)
noncomputable def C14 : Code := W.Code.fst C6
abbrev Q6 (R : W.Post) : Exit → Act → World → Prop := (Exit.then (Code.wp Try.prog C8 (Exit.then (W.LoopWP Try.prog C6 (Q1 R)) (Q1 R))) (Exit.then (W.LoopWP Try.prog C6 (Q1 R)) (Q1 R)))
noncomputable def C15 : Code := W.Code.fst C14
noncomputable def C16 : Code := W.Code.snd C14
noncomputable def C17 : Code := W.Code.fst C16
noncomputable def C18 : Code := W.Code.snd C16
/-- law.go:74 -/
abbrev S4 (l0 : W.Sl) (wv3 : Addr) (i4 : Int) (w : World) (R : W.Post) : Prop :=
  W.sel (decide (i4 < ((l0.n : Nat) : Int))) (S5 l0 wv3 i4 w R) (S7 wv3 w R)
def KE_S4 (E : W.Env) (w : World) (R : W.Post) : Prop := W.asSlice (W.Env.get? E 0) fun l0 => W.asRef (W.Env.get? E 3) fun wv3 => W.asInt .i64 (W.Env.get? E 4) fun i4 => S4 l0 wv3 i4 w R
theorem KE_S4_ok (R : W.Post) (E : W.Env) (w : World) (h : KE_S4 E w R) : W.WP Try.prog 17 C14 (Q6 R) E w := by
  obtain ⟨l0, hq0, h1⟩ := W.asSlice_elim h
  obtain ⟨wv3, hq3, h2⟩ := W.asRef_elim h1
  obtain ⟨i4, hq4, h3⟩ := W.asInt_elim h2
  exact fun a ha => W.WP.at (E := [(0, l0.v), (3, .pointer (some wv3)), (4, .int .i64 i4)]) (W.WP.seq (c := C14) (x := C15) (y := C16) (by kernel_rfl) <| W.WP.reg (c := C15) (fun E w => W.condK (W.Env.val E (.tmp 8)) (KE_S5 E w R) (KE_S7 E w R)) (by kernel_rfl) (Eq.mp (by kernel_rfl) h3) fun _ _ a hA hK => (W.WP.condK (c := C16) (x := C17) (y := C18) (o := .tmp 8) (by kernel_rfl) (fun hK => (W.WP.skip (c := C17) (by kernel_rfl) fun a hA => (W.WP.seq (c := C8) (x := C10) (y := C9) (by kernel_rfl) (W.WP.block (c := C10) (x := C11) (id := 1) (by kernel_rfl) (KE_S5_ok R _ _ hK))) a hA)) (fun hK => (W.WP.exit (c := C18) (id := 0) (by kernel_rfl) fun a hA => (KE_S7_ok R _ _ hK) a hA)) hK) a hA) (ha.cons hq0 (ha.cons hq3 (ha.cons hq4 ha.nil)))
theorem L3_step (l0 : W.Sl) (wv3 : Addr) (i4 : Int) (w : World) (R : W.Post) (h : S4 l0 wv3 i4 w R) : L3 l0 wv3 i4 w R :=
  W.LP.step (c := C6) (E := [(0, l0.v), (3, .pointer (some wv3)), (4, .int .i64 i4)]) (w := w) (W.WP.seq (c := C6) (x := C14) (y := C8) (by kernel_rfl) (KE_S4_ok R _ _ (Eq.mp (by kernel_rfl) h)))
noncomputable def C19 : Code := W.Code.fst C3
/-- law.go:74 -/
abbrev S2 (l0 : W.Sl) (wv3 : Addr) (w : World) (R : W.Post) : Prop :=
  L3 l0 wv3 0 w R
def KE_S2 (E : W.Env) (w : World) (R : W.Post) : Prop := W.asSlice (W.Env.get? E 0) fun l0 => W.asRef (W.Env.get? E 3) fun wv3 => S2 l0 wv3 w R
theorem KE_S2_ok (R : W.Post) (E : W.Env) (w : World) (h : KE_S2 E w R) : W.WP Try.prog 17 C3 (Q0 R) E w := by
  obtain ⟨l0, hq0, h1⟩ := W.asSlice_elim h
  obtain ⟨wv3, hq3, h2⟩ := W.asRef_elim h1
  exact fun a ha => W.WP.at (E := [(0, l0.v), (3, .pointer (some wv3))]) (W.WP.seq (c := C3) (x := C19) (y := C4) (by kernel_rfl) <| W.WP.reg (c := C19) (fun E w => KE_L3 E w R) (by kernel_rfl) (Eq.mp (by kernel_rfl) h2) fun _ _ a hA hK => (W.WP.block (c := C4) (x := C5) (id := 0) (by kernel_rfl) (W.WP.loop (c := C5) (x := C6) (by kernel_rfl) (KE_L3_ok R _ _ hK))) a hA) (ha.cons hq0 (ha.cons hq3 ha.nil))
noncomputable def C20 : Code := W.Code.fst C1
/-- law.go:73 -/
abbrev S1 (l0 : W.Sl) (w : World) (R : W.Post) : Prop :=
  let w1 := w.alloc (.cells #[.slice none 0 0] ty_wire_Writer)
  S2 l0 (Addr.mk w.heap.size 0 none) w1 R
def KE_S1 (E : W.Env) (w : World) (R : W.Post) : Prop := W.asSlice (W.Env.get? E 0) fun l0 => S1 l0 w R
theorem KE_S1_ok (R : W.Post) (E : W.Env) (w : World) (h : KE_S1 E w R) : W.WP Try.prog 17 C1 (Q5 R) E w := by
  obtain ⟨l0, hq0, h1⟩ := W.asSlice_elim h
  exact fun a ha => W.WP.at (E := [(0, l0.v)]) (W.WP.seq (c := C1) (x := C20) (y := C2) (by kernel_rfl) <| W.WP.reg (c := C20) (fun E w => KE_S2 E w R) (by kernel_rfl) (Eq.mp (by kernel_rfl) h1) fun _ _ a hA hK => (W.WP.seq (c := C2) (x := C3) (y := C7) (by kernel_rfl) (KE_S2_ok R _ _ hK)) a hA) (ha.cons hq0 ha.nil)
noncomputable def C21 : Code := W.Code.fst C0
/-- law.go:72 -/
abbrev S0 (l0 : W.Sl) (w : World) (R : W.Post) : Prop :=
  S1 l0 w R
def KE_S0 (E : W.Env) (w : World) (R : W.Post) : Prop := W.asSlice (W.Env.get? E 0) fun l0 => S0 l0 w R
theorem KE_S0_ok (R : W.Post) (E : W.Env) (w : World) (h : KE_S0 E w R) : W.WP Try.prog 17 C0 (Q5 R) E w := by
  obtain ⟨l0, hq0, h1⟩ := W.asSlice_elim h
  exact fun a ha => W.WP.at (E := [(0, l0.v)]) (W.WP.seq (c := C0) (x := C21) (y := C1) (by kernel_rfl) <| W.WP.reg (c := C21) (fun E w => KE_S1 E w R) (by kernel_rfl) (Eq.mp (by kernel_rfl) h1) fun _ _ a hA hK => (KE_S1_ok R _ _ hK) a hA) (ha.cons hq0 ha.nil)
/-- enthymeme/enthymemelaw02.encode -/
theorem ok (l0 : W.Sl) (w : World) (R : W.Post) (h : S0 l0 w R) : Calls Try.prog n_enthymemelaw02_encode #[l0.v] w R :=
  W.calls_of_WP' (fn := Try.f37) (c := C0) (args := [l0.v]) (by kernel_rfl) (by kernel_rfl) (by kernel_rfl) (KE_S0_ok R _ _ (Eq.mp (by kernel_rfl) h))
end enthymemelaw02_encode
namespace enthymemeref02_Vals
noncomputable def C0 : Code := (Try.f28.body).getD .skip
noncomputable def C1 : Code := W.Code.snd C0
noncomputable def C2 : Code := W.Code.snd C1
noncomputable def C3 : Code := W.Code.fst C2
noncomputable def C4 : Code := W.Code.snd C3
noncomputable def C5 : Code := W.Code.fst C4
noncomputable def C6 : Code := W.Code.fst C5
noncomputable def C7 : Code := W.Code.snd C2
abbrev Q0 (R : W.Post) : Exit → Act → World → Prop := (Exit.then (Code.wp Try.prog C7 (bodyPost Try.prog Try.f28 R)) (bodyPost Try.prog Try.f28 R))
abbrev Q1 (R : W.Post) : Exit → Act → World → Prop := (Exit.inBlock 0 (Q0 R))
/-- the head of the loop, ref.go:163 -/
def L3 (l0 out3 : W.Sl) (i4 : Int) (w : World) (R : W.Post) : Prop := W.LP Try.prog 106 C6 (Q1 R) [(0, l0.v), (3, out3.v), (4, .int .i64 i4)] w
def KE_L3 (E : W.Env) (w : World) (R : W.Post) : Prop := W.asSlice (W.Env.get? E 0) fun l0 => W.asSlice (W.Env.get? E 3) fun out3 => W.asInt .i64 (W.Env.get? E 4) fun i4 => L3 l0 out3 i4 w R
theorem KE_L3_ok (R : W.Post) (E : W.Env) (w : World) (h : KE_L3 E w R) : W.LP Try.prog 106 C6 (Q1 R) E w := by
  obtain ⟨l0, hq0, h1⟩ := W.asSlice_elim h
  obtain ⟨out3, hq3, h2⟩ := W.asSlice_elim h1
  obtain ⟨i4, hq4, h3⟩ := W.asInt_elim h2
  intro a ha
  exact h3 a (ha.cons hq0 (ha.cons hq3 (ha.cons hq4 ha.nil)))
noncomputable def C8 : Code := W.Code.snd C6
noncomputable def C9 : Code := W.Code.snd C8
abbrev Q2 (R : W.Post) : Exit → Act → World → Prop := (Exit.then (W.LoopWP Try.prog C6 (Q1 R)) (Q1 R))
/-- ref.go:163 -/
abbrev S12 (l0 out3 : W.Sl) (i4 : Int) (w : World) (R : W.Post) : Prop :=
  L3 l0 out3 (IntKind.wrap .i64 (i4 + 1)) w R
def KE_S12 (E : W.Env) (w : World) (R : W.Post) : Prop := W.asSlice (W.Env.get? E 0) fun l0 => W.asSlice (W.Env.get? E 3) fun out3 => W.asInt .i64 (W.Env.get? E 4) fun i4 => S12 l0 out3 i4 w R
theorem KE_S12_ok (R : W.Post) (E : W.Env) (w : World) (h : KE_S12 E w R) : W.WP Try.prog 106 C9 (Q2 R) E w := by
  obtain ⟨l0, hq0, h1⟩ := W.asSlice_elim h
  obtain ⟨out3, hq3, h2⟩ := W.asSlice_elim h1
  obtain ⟨i4, hq4, h3⟩ := W.asInt_elim h2
  exact fun a ha => W.WP.at (E := [(0, l0.v), (3, out3.v), (4, .int .i64 i4)]) (W.WP.reg (c := C9) (fun E w => KE_L3 E w R) (by kernel_rfl) (Eq.mp (by kernel_rfl) h3) fun _ _ a hA hK => KE_L3_ok R _ _ hK a hA) (ha.cons hq0 (ha.cons hq3 (ha.cons hq4 ha.nil)))
noncomputable def C10 : Code := W.Code.fst C8
noncomputable def C11 : Code := W.Code.fst C10
noncomputable def C12 : Code := W.Code.snd C11
noncomputable def C13 : Code := W.Code.snd C12
noncomputable def C14 : Code := W.Code.snd C13
noncomputable def C15 : Code := W.Code.snd C14
abbrev Q3 (R : W.Post) : Exit → Act → World → Prop := (Exit.then (Code.wp Try.prog C9 (Exit.then (W.LoopWP Try.prog C6 (Q1 R)) (Q1 R))) (Exit.then (W.LoopWP Try.prog C6 (Q1 R)) (Q1 R)))
abbrev Q4 (R : W.Post) : Exit → Act → World → Prop := (Exit.inBlock 1 (Q3 R))
/-- ref.go:183 -/
abbrev S11 (l0 out3 : W.Sl) (i4 : Int) (v7 : Addr) (w : World) (R : W.Post) : Prop :=
  ∃ t102_0 : Int, ∃ t102_1 : Int, ∃ t102_2 : Int, ∃ t102_3 : W.Sl, ∃ t102_4 : W.Sl, w.cell? (v7.add 0) = some (.int .i64 t102_0) ∧ w.cell? (v7.add 1) = some (.int .u64 t102_1) ∧ w.cell? (v7.add 2) = some (.int .i64 t102_2) ∧ w.cell? (v7.add 3) = some (t102_3.v) ∧ w.cell? (v7.add 4) = some (t102_4.v) ∧ 
  let w1 := w.alloc (.cells #[.int .i64 t102_0, .int .u64 t102_1, .int .i64 t102_2, t102_3.v, t102_4.v] ty_enthymemeref02_Val)
  ∃ (t104 : W.Sl) (w2 : World), Sem.run Try.prog (Builtin.append_ #[ty_sl_enthymemeref02_Val, ty_sl_enthymemeref02_Val] ty_sl_enthymemeref02_Val #[out3.v, .slice (some (Addr.mk w.heap.size 0 none)) 1 1]) w1 = .ok (t104.v) w2 ∧ S12 l0 t104 i4 w2 R
def KE_S11 (E : W.Env) (w : World) (R : W.Post) : Prop := W.asSlice (W.Env.get? E 0) fun l0 => W.asSlice (W.Env.get? E 3) fun out3 => W.asInt .i64 (W.Env.get? E 4) fun i4 => W.asRef (W.Env.get? E 7) fun v7 => S11 l0 out3 i4 v7 w R
theorem KE_S11_ok (R : W.Post) (E : W.Env) (w : World) (h : KE_S11 E w R) : W.WP Try.prog 106 C15 (Q4 R) E w := by
  obtain ⟨l0, hq0, h1⟩ := W.asSlice_elim h
  obtain ⟨out3, hq3, h2⟩ := W.asSlice_elim h1
  obtain ⟨i4, hq4, h3⟩ := W.asInt_elim h2
  obtain ⟨v7, hq7, h4⟩ := W.asRef_elim h3
  exact fun a ha => W.WP.at (E := [(0, l0.v), (3, out3.v), (4, .int .i64 i4), (7, .pointer (some v7))]) (W.WP.reg (c := C15) (fun E w => KE_S12 E w R) (by kernel_rfl) (Eq.mp (by kernel_rfl) h4) fun _ _ a hA hK => (KE_S12_ok R _ _ hK) a hA) (ha.cons hq0 (ha.cons hq3 (ha.cons hq4 (ha.cons hq7 ha.nil))))
noncomputable def C16 : Code := W.Code.fst C14
noncomputable def C17 : Code := W.Code.snd C16
noncomputable def C18 : Code := W.Code.fst C17
noncomputable def C19 : Code := W.Code.snd C18
noncomputable def C20 : Code := W.Code.fst C19
abbrev Q5 (R : W.Post) : Exit → Act → World → Prop := (Exit.then (Code.wp Try.prog C15 (Exit.inBlock 1 (Q3 R))) (Exit.inBlock 1 (Q3 R)))
abbrev Q6 (R : W.Post) : Exit → Act → World → Prop := (Exit.inBlock 2 (Q5 R))
/-- ref.go:169 -/
abbrev S10 (l0 out3 : W.Sl) (i4 n6 : Int) (v7 : Addr) (w : World) (R : W.Post) : Prop :=
  (0 : Int) ≤ i4 ∧ i4 < ((l0.n : Nat) : Int) ∧ W.optP l0.a fun t57_p => ∃ t58 : Int, w.cell? (t57_p.add (Int.toNat i4 * 1)) = some (.int .i64 t58) ∧ 
  ¬ (IntKind.wrap .u64 n6) < 0 ∧ (w.cell? (v7.add 1)).isSome = true ∧ w.frozen? (v7.add 1) = false ∧ let w1 := w.setCell (v7.add 1) (.int .u64 (Int.fdiv (IntKind.wrap .u64 t58) (2 ^ (min (Int.toNat (IntKind.wrap .u64 n6)) (IntKind.bits .u64)))))
  S11 l0 out3 i4 v7 w1 R
def KE_S10 (E : W.Env) (w : World) (R : W.Post) : Prop := W.asSlice (W.Env.get? E 0) fun l0 => W.asSlice (W.Env.get? E 3) fun out3 => W.asInt .i64 (W.Env.get? E 4) fun i4 => W.asInt .i64 (W.Env.get? E 6) fun n6 => W.asRef (W.Env.get? E 7) fun v7 => S10 l0 out3 i4 n6 v7 w R
theorem KE_S10_ok (R : W.Post) (E : W.Env) (w : World) (h : KE_S10 E w R) : W.WP Try.prog 106 C20 (Q6 R) E w := by
  obtain ⟨l0, hq0, h1⟩ := W.asSlice_elim h
  obtain ⟨out3, hq3, h2⟩ := W.asSlice_elim h1
  obtain ⟨i4, hq4, h3⟩ := W.asInt_elim h2
  obtain ⟨n6, hq6, h4⟩ := W.asInt_elim h3
  obtain ⟨v7, hq7, h5⟩ := W.asRef_elim h4
  exact fun a ha => W.WP.at (E := [(0, l0.v), (3, out3.v), (4, .int .i64 i4), (6, .int .i64 n6), (7, .pointer (some v7))]) (W.WP.reg (c := C20) (fun E w => KE_S11 E w R) (by kernel_rfl) (Eq.mp (by kernel_rfl) h5) fun _ _ a hA hK => (KE_S11_ok R _ _ hK) a hA) (ha.cons hq0 (ha.cons hq3 (ha.cons hq4 (ha.cons hq6 (ha.cons hq7 ha.nil)))))
noncomputable def C21 : Code := W.Code.snd C19
noncomputable def C22 : Code := W.Code.snd C21
noncomputable def C23 : Code := W.Code.fst C22
/-- ref.go:171 -/
abbrev S14 (l0 out3 : W.Sl) (i4 n6 : Int) (v7 : Addr) (w : World) (R : W.Post) : Prop :=
  (0 : Int) ≤ i4 ∧ i4 < ((l0.n : Nat) : Int) ∧ W.optP l0.a fun t68_p => ∃ t69 : Int, w.cell? (t68_p.add (Int.toNat i4 * 1)) = some (.int .i64 t69) ∧ 
  ¬ (IntKind.wrap .u64 n6) < 0 ∧ (w.cell? (v7.add 2)).isSome = true ∧ w.frozen? (v7.add 2) = false ∧ let w1 := w.setCell (v7.add 2) (.int .i64 (Int.fdiv t69 (2 ^ (min (Int.toNat (IntKind.wrap .u64 n6)) (IntKind.bits .i64)))))
  S11 l0 out3 i4 v7 w1 R
def KE_S14 (E : W.Env) (w : World) (R : W.Post) : Prop := W.asSlice (W.Env.get? E 0) fun l0 => W.asSlice (W.Env.get? E 3) fun out3 => W.asInt .i64 (W.Env.get? E 4) fun i4 => W.asInt .i64 (W.Env.get? E 6) fun n6 => W.asRef (W.Env.get? E 7) fun v7 => S14 l0 out3 i4 n6 v7 w R
theorem KE_S14_ok (R : W.Post) (E : W.Env) (w : World) (h : KE_S14 E w R) : W.WP Try.prog 106 C23 (Q6 R) E w := by
  obtain ⟨l0, hq0, h1⟩ := W.asSlice_elim h
  obtain ⟨out3, hq3, h2⟩ := W.asSlice_elim h1
  obtain ⟨i4, hq4, h3⟩ := W.asInt_elim h2
  obtain ⟨n6, hq6, h4⟩ := W.asInt_elim h3
  obtain ⟨v7, hq7, h5⟩ := W.asRef_elim h4
  exact fun a ha => W.WP.at (E := [(0, l0.v), (3, out3.v), (4, .int .i64 i4), (6, .int .i64 n6), (7, .pointer (some v7))]) (W.WP.reg (c := C23) (fun E w => KE_S11 E w R) (by kernel_rfl) (Eq.mp (by kernel_rfl) h5) fun _ _ a hA hK => (KE_S11_ok R _ _ hK) a hA) (ha.cons hq0 (ha.cons hq3 (ha.cons hq4 (ha.cons hq6 (ha.cons hq7 ha.nil)))))
noncomputable def C24 : Code := W.Code.snd C22
noncomputable def C25 : Code := W.Code.snd C24
noncomputable def C26 : Code := W.Code.fst C25
/-- ref.go:173 -/
abbrev S16 (l0 out3 : W.Sl) (i4 n6 : Int) (v7 : Addr) (w : World) (R : W.Post) : Prop :=
  (w.cell? (v7.add 2)).isSome = true ∧ w.frozen? (v7.add 2) = false ∧ let w1 := w.setCell (v7.add 2) (.int .i64 (Int.tmod n6 2))
  S11 l0 out3 i4 v7 w1 R
def KE_S16 (E : W.Env) (w : World) (R : W.Post) : Prop := W.asSlice (W.Env.get? E 0) fun l0 => W.asSlice (W.Env.get? E 3) fun out3 => W.asInt .i64 (W.Env.get? E 4) fun i4 => W.asInt .i64 (W.Env.get? E 6) fun n6 => W.asRef (W.Env.get? E 7) fun v7 => S16 l0 out3 i4 n6 v7 w R
theorem KE_S16_ok (R : W.Post) (E : W.Env) (w : World) (h : KE_S16 E w R) : W.WP Try.prog 106 C26 (Q6 R) E w := by
  obtain ⟨l0, hq0, h1⟩ := W.asSlice_elim h
  obtain ⟨out3, hq3, h2⟩ := W.asSlice_elim h1
  obtain ⟨i4, hq4, h3⟩ := W.asInt_elim h2
  obtain ⟨n6, hq6, h4⟩ := W.asInt_elim h3
  obtain ⟨v7, hq7, h5⟩ := W.asRef_elim h4
  exact fun a ha => W.WP.at (E := [(0, l0.v), (3, out3.v), (4, .int .i64 i4), (6, .int .i64 n6), (7, .pointer (some v7))]) (W.WP.reg (c := C26) (fun E w => KE_S11 E w R) (by kernel_rfl) (Eq.mp (by kernel_rfl) h5) fun _ _ a hA hK => (KE_S11_ok R _ _ hK) a hA) (ha.cons hq0 (ha.cons hq3 (ha.cons hq4 (ha.cons hq6 (ha.cons hq7 ha.nil)))))
noncomputable def C27 : Code := W.Code.snd C25
noncomputable def C28 : Code := W.Code.snd C27
noncomputable def C29 : Code := W.Code.fst C28
noncomputable def C30 : Code := W.Code.snd C29
noncomputable def C31 : Code := W.Code.fst C30
noncomputable def C32 : Code := W.Code.fst C31
abbrev Q7 (R : W.Post) : Exit → Act → World → Prop := (Exit.inBlock 5 (Q6 R))
/-- the head of the loop, ref.go:175 -/
def L19 (l0 out3 : W.Sl) (i4 n6 : Int) (v7 : Addr) (j8 : Int) (w : World) (R : W.Post) : Prop := W.LP Try.prog 106 C32 (Q7 R) [(0, l0.v), (3, out3.v), (4, .int .i64 i4), (6, .int .i64 n6), (7, .pointer (some v7)), (8, .int .i64 j8)] w
def KE_L19 (E : W.Env) (w : World) (R : W.Post) : Prop := W.asSlice (W.Env.get? E 0) fun l0 => W.asSlice (W.Env.get? E 3) fun out3 => W.asInt .i64 (W.Env.get? E 4) fun i4 => W.asInt .i64 (W.Env.get? E 6) fun n6 => W.asRef (W.Env.get? E 7) fun v7 => W.asInt .i64 (W.Env.get? E 8) fun j8 => L19 l0 out3 i4 n6 v7 j8 w R
theorem KE_L19_ok (R : W.Post) (E : W.Env) (w : World) (h : KE_L19 E w R) : W.LP Try.prog 106 C32 (Q7 R) E w := by
  obtain ⟨l0, hq0, h1⟩ := W.asSlice_elim h
  obtain ⟨out3, hq3, h2⟩ := W.asSlice_elim h1
  obtain ⟨i4, hq4, h3⟩ := W.asInt_elim h2
  obtain ⟨n6, hq6, h4⟩ := W.asInt_elim h3
  obtain ⟨v7, hq7, h5⟩ := W.asRef_elim h4
  obtain ⟨j8, hq8, h6⟩ := W.asInt_elim h5
  intro a ha
  exact h6 a (ha.cons hq0 (ha.cons hq3 (ha.cons hq4 (ha.cons hq6 (ha.cons hq7 (ha.cons hq8 ha.nil))))))
noncomputable def C33 : Code := W.Code.snd C32
noncomputable def C34 : Code := W.Code.snd C33
abbrev Q8 (R : W.Post) : Exit → Act → World → Prop := (Exit.then (W.LoopWP Try.prog C32 (Q7 R)) (Q7 R))
/-- ref.go:175 -/
abbrev S22 (l0 out3 : W.Sl) (i4 n6 : Int) (v7 : Addr) (j8 : Int) (w : World) (R : W.Post) : Prop :=
  L19 l0 out3 i4 n6 v7 (IntKind.wrap .i64 (j8 + 1)) w R
def KE_S22 (E : W.Env) (w : World) (R : W.Post) : Prop := W.asSlice (W.Env.get? E 0) fun l0 => W.asSlice (W.Env.get? E 3) fun out3 => W.asInt .i64 (W.Env.get? E 4) fun i4 => W.asInt .i64 (W.Env.get? E 6) fun n6 => W.asRef (W.Env.get? E 7) fun v7 => W.asInt .i64 (W.Env.get? E 8) fun j8 => S22 l0 out3 i4 n6 v7 j8 w R
theorem KE_S22_ok (R : W.Post) (E : W.Env) (w : World) (h : KE_S22 E w R) : W.WP Try.prog 106 C34 (Q8 R) E w := by
  obtain ⟨l0, hq0, h1⟩ := W.asSlice_elim h
  obtain ⟨out3, hq3, h2⟩ := W.asSlice_elim h1
  obtain ⟨i4, hq4, h3⟩ := W.asInt_elim h2
  obtain ⟨n6, hq6, h4⟩ := W.asInt_elim h3
  obtain ⟨v7, hq7, h5⟩ := W.asRef_elim h4
  obtain ⟨j8, hq8, h6⟩ := W.asInt_elim h5
  exact fun a ha => W.WP.at (E := [(0, l0.v), (3, out3.v), (4, .int .i64 i4), (6, .int .i64 n6), (7, .pointer (some v7)), (8, .int .i64 j8)]) (W.WP.reg (c := C34) (fun E w => KE_L19 E w R) (by kernel_rfl) (Eq.mp (by kernel_rfl) h6) fun _ _ a hA hK => KE_L19_ok R _ _ hK a hA) (ha.cons hq0 (ha.cons hq3 (ha.cons hq4 (ha.cons hq6 (ha.cons hq7 (ha.cons hq8 ha.nil))))))
noncomputable def C35 : Code := W.Code.fst C33
noncomputable def C36 : Code := W.Code.fst C35
abbrev Q9 (R : W.Post) : Exit → Act → World → Prop := (Exit.then (Code.wp Try.prog C34 (Exit.then (W.LoopWP Try.prog C32 (Q7 R)) (Q7 R))) (Exit.then (W.LoopWP Try.prog C32 (Q7 R)) (Q7 R)))
abbrev Q10 (R : W.Post) : Exit → Act → World → Prop := (Exit.inBlock 6 (Q9 R))
/-- ref.go:176 -/
abbrev S21 (l0 out3 : W.Sl) (i4 n6 : Int) (v7 : Addr) (j8 : Int) (w : World) (R : W.Post) : Prop :=
  ∃ t89 : W.Sl, w.drew.cell? (v7.add 3) = some (t89.v) ∧ 
  (0 : Int) ≤ i4 ∧ i4 < ((l0.n : Nat) : Int) ∧ W.optP l0.a fun t92_p => ∃ t93 : Int, w.drew.cell? (t92_p.add (Int.toNat i4 * 1)) = some (.int .i64 t93) ∧ 
  ¬ (IntKind.wrap .u64 j8) < 0 ∧ let w1 := w.drew.alloc (.cells #[.int .u8 (IntKind.wrap .u8 (Int.fdiv t93 (2 ^ (min (Int.toNat (IntKind.wrap .u64 j8)) (IntKind.bits .i64)))))] ty_uint8)
  w1.cell? (t92_p.add (Int.toNat i4 * 1)) = some (.int .i64 t93) ∧ w1.cell? (v7.add 3) = some (t89.v) ∧ ∃ (t99 : W.Sl) (w2 : World), Sem.run Try.prog (Builtin.append_ #[ty_sl_uint8, ty_sl_uint8] ty_sl_uint8 #[t89.v, .slice (some (Addr.mk w.drew.heap.size 0 none)) 1 1]) w1 = .ok (t99.v) w2 ∧ w2.cell? (t92_p.add (Int.toNat i4 * 1)) = some (.int .i64 t93) ∧ (w2.cell? (v7.add 3)).isSome = true ∧ w2.frozen? (v7.add 3) = false ∧ let w3 := w2.setCell (v7.add 3) (t99.v)
  S22 l0 out3 i4 n6 v7 j8 w3 R
def KE_S21 (E : W.Env) (w : World) (R : W.Post) : Prop := W.asSlice (W.Env.get? E 0) fun l0 => W.asSlice (W.Env.get? E 3) fun out3 => W.asInt .i64 (W.Env.get? E 4) fun i4 => W.asInt .i64 (W.Env.get? E 6) fun n6 => W.asRef (W.Env.get? E 7) fun v7 => W.asInt .i64 (W.Env.get? E 8) fun j8 => S21 l0 out3 i4 n6 v7 j8 w R
theorem KE_S21_ok (R : W.Post) (E : W.Env) (w : World) (h : KE_S21 E w R) : W.WP Try.prog 106 C36 (Q10 R) E w := by
  obtain ⟨l0, hq0, h1⟩ := W.asSlice_elim h
  obtain ⟨out3, hq3, h2⟩ := W.asSlice_elim h1
  obtain ⟨i4, hq4, h3⟩ := W.asInt_elim h2
  obtain ⟨n6, hq6, h4⟩ := W.asInt_elim h3
  obtain ⟨v7, hq7, h5⟩ := W.asRef_elim h4
  obtain ⟨j8, hq8, h6⟩ := W.asInt_elim h5
  exact fun a ha => W.WP.at (E := [(0, l0.v), (3, out3.v), (4, .int .i64 i4), (6, .int .i64 n6), (7, .pointer (some v7)), (8, .int .i64 j8)]) (W.WP.draw (c := C36) [0, 1, 2, 3, 4, 5, 6, 7, 8, 9, 10, 11, 12, 13] (fun E w => KE_S22 E w R) (by kernel_rfl) (Eq.mp (by kernel_rfl) h6) fun _ _ a hA hK => (KE_S22_ok R _ _ hK) a hA) (ha.cons hq0 (ha.cons hq3 (ha.cons hq4 (ha.cons hq6 (ha.cons hq7 (ha.cons hq8 ha.nil))))))
noncomputable def C37 : Code := W.Code.fst C32
abbrev Q11 (R : W.Post) : Exit → Act → World → Prop := (Exit.then (Code.wp Try.prog C33 (Exit.then (W.LoopWP Try.prog C32 (Q7 R)) (Q7 R))) (Exit.then (W.LoopWP Try.prog C32 (Q7 R)) (Q7 R)))
noncomputable def C38 : Code := W.Code.fst C37
noncomputable def C39 : Code := W.Code.snd C37
noncomputable def C40 : Code := W.Code.fst C39
noncomputable def C41 : Code := W.Code.snd C39
/-- ref.go:175 -/
abbrev S20 (l0 out3 : W.Sl) (i4 n6 : Int) (v7 : Addr) (j8 : Int) (w : World) (R : W.Post) : Prop :=
  W.sel (decide (j8 < (Int.tmod n6 10))) (S21 l0 out3 i4 n6 v7 j8 w R) (S11 l0 out3 i4 v7 w R)
def KE_S20 (E : W.Env) (w : World) (R : W.Post) : Prop := W.asSlice (W.Env.get? E 0) fun l0 => W.asSlice (W.Env.get? E 3) fun out3 => W.asInt .i64 (W.Env.get? E 4) fun i4 => W.asInt .i64 (W.Env.get? E 6) fun n6 => W.asRef (W.Env.get? E 7) fun v7 => W.asInt .i64 (W.Env.get? E 8) fun j8 => S20 l0 out3 i4 n6 v7 j8 w R
theorem KE_S20_ok (R : W.Post) (E : W.Env) (w : World) (h : KE_S20 E w R) : W.WP Try.prog 106 C37 (Q11 R) E w := by
  obtain ⟨l0, hq0, h1⟩ := W.asSlice_elim h
  obtain ⟨out3, hq3, h2⟩ := W.asSlice_elim h1
  obtain ⟨i4, hq4, h3⟩ := W.asInt_elim h2
  obtain ⟨n6, hq6, h4⟩ := W.asInt_elim h3
  obtain ⟨v7, hq7, h5⟩ := W.asRef_elim h4
  obtain ⟨j8, hq8, h6⟩ := W.asInt_elim h5
  exact fun a ha => W.WP.at (E := [(0, l0.v), (3, out3.v), (4, .int .i64 i4), (6, .int .i64 n6), (7, .pointer (some v7)), (8, .int .i64 j8)]) (W.WP.seq (c := C37) (x := C38) (y := C39) (by kernel_rfl) <| W.WP.reg (c := C38) (fun E w => W.condK (W.Env.val E (.tmp 85)) (KE_S21 E w R) (KE_S11 E w R)) (by kernel_rfl) (Eq.mp (by kernel_rfl) h6) fun _ _ a hA hK => (W.WP.condK (c := C39) (x := C40) (y := C41) (o := .tmp 85) (by kernel_rfl) (fun hK => (W.WP.skip (c := C40) (by kernel_rfl) fun a hA => (W.WP.seq (c := C33) (x := C35) (y := C34) (by kernel_rfl) (W.WP.block (c := C35) (x := C36) (id := 6) (by kernel_rfl) (KE_S21_ok R _ _ hK))) a hA)) (fun hK => (W.WP.exit (c := C41) (id := 5) (by kernel_rfl) fun a hA => (KE_S11_ok R _ _ hK) a hA)) hK) a hA) (ha.cons hq0 (ha.cons hq3 (ha.cons hq4 (ha.cons hq6 (ha.cons hq7 (ha.cons hq8 ha.nil))))))
theorem L19_step (l0 out3 : W.Sl) (i4 n6 : Int) (v7 : Addr) (j8 : Int) (w : World) (R : W.Post) (h : S20 l0 out3 i4 n6 v7 j8 w R) : L19 l0 out3 i4 n6 v7 j8 w R :=
  W.LP.step (c := C32) (E := [(0, l0.v), (3, out3.v), (4, .int .i64 i4), (6, .int .i64 n6), (7, .pointer (some v7)), (8, .int .i64 j8)]) (w := w) (W.WP.seq (c := C32) (x := C37) (y := C33) (by kernel_rfl) (KE_S20_ok R _ _ (Eq.mp (by kernel_rfl) h)))
noncomputable def C42 : Code := W.Code.fst C29
/-- ref.go:175 -/
abbrev S18 (l0 out3 : W.Sl) (i4 n6 : Int) (v7 : Addr) (w : World) (R : W.Post) : Prop :=
  L19 l0 out3 i4 n6 v7 0 w R
def KE_S18 (E : W.Env) (w : World) (R : W.Post) : Prop := W.asSlice (W.Env.get? E 0) fun l0 => W.asSlice (W.Env.get? E 3) fun out3 => W.asInt .i64 (W.Env.get? E 4) fun i4 => W.asInt .i64 (W.Env.get? E 6) fun n6 => W.asRef (W.Env.get? E 7) fun v7 => S18 l0 out3 i4 n6 v7 w R
theorem KE_S18_ok (R : W.Post) (E : W.Env) (w : World) (h : KE_S18 E w R) : W.WP Try.prog 106 C29 (Q6 R) E w := by
  obtain ⟨l0, hq0, h1⟩ := W.asSlice_elim h
  obtain ⟨out3, hq3, h2⟩ := W.asSlice_elim h1
  obtain ⟨i4, hq4, h3⟩ := W.asInt_elim h2
  obtain ⟨n6, hq6, h4⟩ := W.asInt_elim h3
  obtain ⟨v7, hq7, h5⟩ := W.asRef_elim h4
  exact fun a ha => W.WP.at (E := [(0, l0.v), (3, out3.v), (4, .int .i64 i4), (6, .int .i64 n6), (7, .pointer (some v7))]) (W.WP.seq (c := C29) (x := C42) (y := C30) (by kernel_rfl) <| W.WP.reg (c := C42) (fun E w => KE_L19 E w R) (by kernel_rfl) (Eq.mp (by kernel_rfl) h5) fun _ _ a hA hK => (W.WP.block (c := C30) (x := C31) (id := 5) (by kernel_rfl) (W.WP.loop (c := C31) (x := C32) (by kernel_rfl) (KE_L19_ok R _ _ hK))) a hA) (ha.cons hq0 (ha.cons hq3 (ha.cons hq4 (ha.cons hq6 (ha.cons hq7 ha.nil)))))
noncomputable def C43 : Code := W.Code.snd C28
noncomputable def C44 : Code := W.Code.snd C43
noncomputable def C45 : Code := W.Code.fst C44
noncomputable def C46 : Code := W.Code.fst C45
abbrev Q12 (R : W.Post) : Exit → Act → World → Prop := (Exit.inBlock 3 (Q6 R))
/-- the head of the loop, ref.go:179 -/
def L24 (l0 out3 : W.Sl) (i4 n6 : Int) (v7 : Addr) (j9 : Int) (w : World) (R : W.Post) : Prop := W.LP Try.prog 106 C46 (Q12 R) [(0, l0.v), (3, out3.v), (4, .int .i64 i4), (6, .int .i64 n6), (7, .pointer (some v7)), (9, .int .i64 j9)] w
def KE_L24 (E : W.Env) (w : World) (R : W.Post) : Prop := W.asSlice (W.Env.get? E 0) fun l0 => W.asSlice (W.Env.get? E 3) fun out3 => W.asInt .i64 (W.Env.get? E 4) fun i4 => W.asInt .i64 (W.Env.get? E 6) fun n6 => W.asRef (W.Env.get? E 7) fun v7 => W.asInt .i64 (W.Env.get? E 9) fun j9 => L24 l0 out3 i4 n6 v7 j9 w R
theorem KE_L24_ok (R : W.Post) (E : W.Env) (w : World) (h : KE_L24 E w R) : W.LP Try.prog 106 C46 (Q12 R) E w := by
  obtain ⟨l0, hq0, h1⟩ := W.asSlice_elim h
  obtain ⟨out3, hq3, h2⟩ := W.asSlice_elim h1
  obtain ⟨i4, hq4, h3⟩ := W.asInt_elim h2
  obtain ⟨n6, hq6, h4⟩ := W.asInt_elim h3
  obtain ⟨v7, hq7, h5⟩ := W.asRef_elim h4
  obtain ⟨j9, hq9, h6⟩ := W.asInt_elim h5
  intro a ha
  exact h6 a (ha.cons hq0 (ha.cons hq3 (ha.cons hq4 (ha.cons hq6 (ha.cons hq7 (ha.cons hq9 ha.nil))))))
noncomputable def C47 : Code := W.Code.snd C46
noncomputable def C48 : Code := W.Code.snd C47
abbrev Q13 (R : W.Post) : Exit → Act → World → Prop := (Exit.then (W.LoopWP Try.prog C46 (Q12 R)) (Q12 R))
/-- ref.go:179 -/
abbrev S27 (l0 out3 : W.Sl) (i4 n6 : Int) (v7 : Addr) (j9 : Int) (w : World) (R : W.Post) : Prop :=
  L24 l0 out3 i4 n6 v7 (IntKind.wrap .i64 (j9 + 1)) w R
def KE_S27 (E : W.Env) (w : World) (R : W.Post) : Prop := W.asSlice (W.Env.get? E 0) fun l0 => W.asSlice (W.Env.get? E 3) fun out3 => W.asInt .i64 (W.Env.get? E 4) fun i4 => W.asInt .i64 (W.Env.get? E 6) fun n6 => W.asRef (W.Env.get? E 7) fun v7 => W.asInt .i64 (W.Env.get? E 9) fun j9 => S27 l0 out3 i4 n6 v7 j9 w R
theorem KE_S27_ok (R : W.Post) (E : W.Env) (w : World) (h : KE_S27 E w R) : W.WP Try.prog 106 C48 (Q13 R) E w := by
  obtain ⟨l0, hq0, h1⟩ := W.asSlice_elim h
  obtain ⟨out3, hq3, h2⟩ := W.asSlice_elim h1
  obtain ⟨i4, hq4, h3⟩ := W.asInt_elim h2
  obtain ⟨n6, hq6, h4⟩ := W.asInt_elim h3
  obtain ⟨v7, hq7, h5⟩ := W.asRef_elim h4
  obtain ⟨j9, hq9, h6⟩ := W.asInt_elim h5
  exact fun a ha => W.WP.at (E := [(0, l0.v), (3, out3.v), (4, .int .i64 i4), (6, .int .i64 n6), (7, .pointer (some v7)), (9, .int .i64 j9)]) (W.WP.reg (c := C48) (fun E w => KE_L24 E w R) (by kernel_rfl) (Eq.mp (by kernel_rfl) h6) fun _ _ a hA hK => KE_L24_ok R _ _ hK a hA) (ha.cons hq0 (ha.cons hq3 (ha.cons hq4 (ha.cons hq6 (ha.cons hq7 (ha.cons hq9 ha.nil))))))
noncomputable def C49 : Code := W.Code.fst C47
noncomputable def C50 : Code := W.Code.fst C49
abbrev Q14 (R : W.Post) : Exit → Act → World → Prop := (Exit.then (Code.wp Try.prog C48 (Exit.then (W.LoopWP Try.prog C46 (Q12 R)) (Q12 R))) (Exit.then (W.LoopWP Try.prog C46 (Q12 R)) (Q12 R)))
abbrev Q15 (R : W.Post) : Exit → Act → World → Prop := (Exit.inBlock 4 (Q14 R))
/-- ref.go:180 -/
abbrev S26 (l0 out3 : W.Sl) (i4 n6 : Int) (v7 : Addr) (j9 : Int) (w : World) (R : W.Post) : Prop :=
  ∃ t41 : W.Sl, w.drew.cell? (v7.add 4) = some (t41.v) ∧ 
  (0 : Int) ≤ i4 ∧ i4 < ((l0.n : Nat) : Int) ∧ W.optP l0.a fun t44_p => ∃ t45 : Int, w.drew.cell? (t44_p.add (Int.toNat i4 * 1)) = some (.int .i64 t45) ∧ 
  ¬ (IntKind.wrap .u64 (IntKind.wrap .i64 (13 * j9))) < 0 ∧ let w1 := w.drew.alloc (.cells #[.int .i64 (Int.fdiv t45 (2 ^ (min (Int.toNat (IntKind.wrap .u64 (IntKind.wrap .i64 (13 * j9)))) (IntKind.bits .i64))))] ty_int)
  w1.cell? (t44_p.add (Int.toNat i4 * 1)) = some (.int .i64 t45) ∧ w1.cell? (v7.add 4) = some (t41.v) ∧ ∃ (t51 : W.Sl) (w2 : World), Sem.run Try.prog (Builtin.append_ #[ty_sl_int, ty_sl_int] ty_sl_int #[t41.v, .slice (some (Addr.mk w.drew.heap.size 0 none)) 1 1]) w1 = .ok (t51.v) w2 ∧ w2.cell? (t44_p.add (Int.toNat i4 * 1)) = some (.int .i64 t45) ∧ (w2.cell? (v7.add 4)).isSome = true ∧ w2.frozen? (v7.add 4) = false ∧ let w3 := w2.setCell (v7.add 4) (t51.v)
  S27 l0 out3 i4 n6 v7 j9 w3 R
def KE_S26 (E : W.Env) (w : World) (R : W.Post) : Prop := W.asSlice (W.Env.get? E 0) fun l0 => W.asSlice (W.Env.get? E 3) fun out3 => W.asInt .i64 (W.Env.get? E 4) fun i4 => W.asInt .i64 (W.Env.get? E 6) fun n6 => W.asRef (W.Env.get? E 7) fun v7 => W.asInt .i64 (W.Env.get? E 9) fun j9 => S26 l0 out3 i4 n6 v7 j9 w R
theorem KE_S26_ok (R : W.Post) (E : W.Env) (w : World) (h : KE_S26 E w R) : W.WP Try.prog 106 C50 (Q15 R) E w := by
  obtain ⟨l0, hq0, h1⟩ := W.asSlice_elim h
  obtain ⟨out3, hq3, h2⟩ := W.asSlice_elim h1
  obtain ⟨i4, hq4, h3⟩ := W.asInt_elim h2
  obtain ⟨n6, hq6, h4⟩ := W.asInt_elim h3
  obtain ⟨v7, hq7, h5⟩ := W.asRef_elim h4
  obtain ⟨j9, hq9, h6⟩ := W.asInt_elim h5
  exact fun a ha => W.WP.at (E := [(0, l0.v), (3, out3.v), (4, .int .i64 i4), (6, .int .i64 n6), (7, .pointer (some v7)), (9, .int .i64 j9)]) (W.WP.draw (c := C50) [0, 1, 2, 3, 4, 5, 6, 7, 8, 9, 10, 11, 12, 13] (fun E w => KE_S27 E w R) (by kernel_rfl) (Eq.mp (by kernel_rfl) h6) fun _ _ a hA hK => (KE_S27_ok R _ _ hK) a hA) (ha.cons hq0 (ha.cons hq3 (ha.cons hq4 (ha.cons hq6 (ha.cons hq7 (ha.cons hq9 ha.nil))))))
noncomputable def C51 : Code := W.Code.fst C46
abbrev Q16 (R : W.Post) : Exit → Act → World → Prop := (Exit.then (Code.wp Try.prog C47 (Exit.then (W.LoopWP Try.prog C46 (Q12 R)) (Q12 R))) (Exit.then (W.LoopWP Try.prog C46 (Q12 R)) (Q12 R)))
noncomputable def C52 : Code := W.Code.fst C51
noncomputable def C53 : Code := W.Code.snd C51
noncomputable def C54 : Code := W.Code.fst C53
noncomputable def C55 : Code := W.Code.snd C53
/-- ref.go:179 -/
abbrev S25 (l0 out3 : W.Sl) (i4 n6 : Int) (v7 : Addr) (j9 : Int) (w : World) (R : W.Post) : Prop :=
  W.sel (decide (j9 < (Int.tmod n6 5))) (S26 l0 out3 i4 n6 v7 j9 w R) (S11 l0 out3 i4 v7 w R)
def KE_S25 (E : W.Env) (w : World) (R : W.Post) : Prop := W.asSlice (W.Env.get? E 0) fun l0 => W.asSlice (W.Env.get? E 3) fun out3 => W.asInt .i64 (W.Env.get? E 4) fun i4 => W.asInt .i64 (W.Env.get? E 6) fun n6 => W.asRef (W.Env.get? E 7) fun v7 => W.asInt .i64 (W.Env.get? E 9) fun j9 => S25 l0 out3 i4 n6 v7 j9 w R
theorem KE_S25_ok (R : W.Post) (E : W.Env) (w : World) (h : KE_S25 E w R) : W.WP Try.prog 106 C51 (Q16 R) E w := by
  obtain ⟨l0, hq0, h1⟩ := W.asSlice_elim h
  obtain ⟨out3, hq3, h2⟩ := W.asSlice_elim h1
  obtain ⟨i4, hq4, h3⟩ := W.asInt_elim h2
  obtain ⟨n6, hq6, h4⟩ := W.asInt_elim h3
  obtain ⟨v7, hq7, h5⟩ := W.asRef_elim h4
  obtain ⟨j9, hq9, h6⟩ := W.asInt_elim h5
  exact fun a ha => W.WP.at (E := [(0, l0.v), (3, out3.v), (4, .int .i64 i4), (6, .int .i64 n6), (7, .pointer (some v7)), (9, .int .i64 j9)]) (W.WP.seq (c := C51) (x := C52) (y := C53) (by kernel_rfl) <| W.WP.reg (c := C52) (fun E w => W.condK (W.Env.val E (.tmp 37)) (KE_S26 E w R) (KE_S11 E w R)) (by kernel_rfl) (Eq.mp (by kernel_rfl) h6) fun _ _ a hA hK => (W.WP.condK (c := C53) (x := C54) (y := C55) (o := .tmp 37) (by kernel_rfl) (fun hK => (W.WP.skip (c := C54) (by kernel_rfl) fun a hA => (W.WP.seq (c := C47) (x := C49) (y := C48) (by kernel_rfl) (W.WP.block (c := C49) (x := C50) (id := 4) (by kernel_rfl) (KE_S26_ok R _ _ hK))) a hA)) (fun hK => (W.WP.exit (c := C55) (id := 3) (by kernel_rfl) fun a hA => (KE_S11_ok R _ _ hK) a hA)) hK) a hA) (ha.cons hq0 (ha.cons hq3 (ha.cons hq4 (ha.cons hq6 (ha.cons hq7 (ha.cons hq9 ha.nil))))))
theorem L24_step (l0 out3 : W.Sl) (i4 n6 : Int) (v7 : Addr) (j9 : Int) (w : World) (R : W.Post) (h : S25 l0 out3 i4 n6 v7 j9 w R) : L24 l0 out3 i4 n6 v7 j9 w R :=
  W.LP.step (c := C46) (E := [(0, l0.v), (3, out3.v), (4, .int .i64 i4), (6, .int .i64 n6), (7, .pointer (some v7)), (9, .int .i64 j9)]) (w := w) (W.WP.seq (c := C46) (x := C51) (y := C47) (by kernel_rfl) (KE_S25_ok R _ _ (Eq.mp (by kernel_rfl) h)))
noncomputable def C56 : Code := W.Code.fst C43
/-- ref.go:179 -/
abbrev S23 (l0 out3 : W.Sl) (i4 n6 : Int) (v7 : Addr) (w : World) (R : W.Post) : Prop :=
  L24 l0 out3 i4 n6 v7 0 w R
def KE_S23 (E : W.Env) (w : World) (R : W.Post) : Prop := W.asSlice (W.Env.get? E 0) fun l0 => W.asSlice (W.Env.get? E 3) fun out3 => W.asInt .i64 (W.Env.get? E 4) fun i4 => W.asInt .i64 (W.Env.get? E 6) fun n6 => W.asRef (W.Env.get? E 7) fun v7 => S23 l0 out3 i4 n6 v7 w R
theorem KE_S23_ok (R : W.Post) (E : W.Env) (w : World) (h : KE_S23 E w R) : W.WP Try.prog 106 C43 (Q6 R) E w := by
  obtain ⟨l0, hq0, h1⟩ := W.asSlice_elim h
  obtain ⟨out3, hq3, h2⟩ := W.asSlice_elim h1
  obtain ⟨i4, hq4, h3⟩ := W.asInt_elim h2
  obtain ⟨n6, hq6, h4⟩ := W.asInt_elim h3
  obtain ⟨v7, hq7, h5⟩ := W.asRef_elim h4
  exact fun a ha => W.WP.at (E := [(0, l0.v), (3, out3.v), (4, .int .i64 i4), (6, .int .i64 n6), (7, .pointer (some v7))]) (W.WP.seq (c := C43) (x := C56) (y := C44) (by kernel_rfl) <| W.WP.reg (c := C56) (fun E w => KE_L24 E w R) (by kernel_rfl) (Eq.mp (by kernel_rfl) h5) fun _ _ a hA hK => (W.WP.block (c := C44) (x := C45) (id := 3) (by kernel_rfl) (W.WP.loop (c := C45) (x := C46) (by kernel_rfl) (KE_L24_ok R _ _ hK))) a hA) (ha.cons hq0 (ha.cons hq3 (ha.cons hq4 (ha.cons hq6 (ha.cons hq7 ha.nil)))))
noncomputable def C57 : Code := W.Code.fst C27
noncomputable def C58 : Code := W.Code.snd C57
noncomputable def C59 : Code := W.Code.snd C58
abbrev Q17 (R : W.Post) : Exit → Act → World → Prop := (Exit.then (Code.wp Try.prog C28 (Exit.inBlock 2 (Q5 R))) (Exit.inBlock 2 (Q5 R)))
/-- ref.go:174 -/
abbrev S28 (l0 out3 : W.Sl) (i4 n6 : Int) (v7 : Addr) (t33 : Int) (w : World) (R : W.Post) : Prop :=
  W.sel (t33 == 4) (S18 l0 out3 i4 n6 v7 w R) (S23 l0 out3 i4 n6 v7 w R)
def KE_S28 (E : W.Env) (w : World) (R : W.Post) : Prop := W.asSlice (W.Env.get? E 0) fun l0 => W.asSlice (W.Env.get? E 3) fun out3 => W.asInt .i64 (W.Env.get? E 4) fun i4 => W.asInt .i64 (W.Env.get? E 6) fun n6 => W.asRef (W.Env.get? E 7) fun v7 => W.asInt .i64 (W.Env.get? E 33) fun t33 => S28 l0 out3 i4 n6 v7 t33 w R
theorem KE_S28_ok (R : W.Post) (E : W.Env) (w : World) (h : KE_S28 E w R) : W.WP Try.prog 106 C59 (Q17 R) E w := by
  obtain ⟨l0, hq0, h1⟩ := W.asSlice_elim h
  obtain ⟨out3, hq3, h2⟩ := W.asSlice_elim h1
  obtain ⟨i4, hq4, h3⟩ := W.asInt_elim h2
  obtain ⟨n6, hq6, h4⟩ := W.asInt_elim h3
  obtain ⟨v7, hq7, h5⟩ := W.asRef_elim h4
  obtain ⟨t33, hq33, h6⟩ := W.asInt_elim h5
  exact fun a ha => W.WP.at (E := [(0, l0.v), (3, out3.v), (4, .int .i64 i4), (6, .int .i64 n6), (7, .pointer (some v7)), (33, .int .i64 t33)]) (W.WP.reg (c := C59) (fun E w => W.condK (W.Env.val E (.tmp 79)) (KE_S18 E w R) (KE_S23 E w R)) (by kernel_rfl) (Eq.mp (by kernel_rfl) h6) fun _ _ a hA hK => (W.WP.condK (c := C28) (x := C29) (y := C43) (o := .tmp 79) (by kernel_rfl) (fun hK => (KE_S18_ok R _ _ hK)) (fun hK => (KE_S23_ok R _ _ hK)) hK) a hA) (ha.cons hq0 (ha.cons hq3 (ha.cons hq4 (ha.cons hq6 (ha.cons hq7 (ha.cons hq33 ha.nil))))))
noncomputable def C60 : Code := W.Code.fst C57
noncomputable def C61 : Code := W.Code.fst C58
/-- ref.go:174 -/
abbrev S17 (l0 out3 : W.Sl) (i4 n6 : Int) (v7 : Addr) (t33 : Int) (w : World) (R : W.Post) : Prop :=
  W.sel (t33 == 3) (W.sel (t33 == 3) (S18 l0 out3 i4 n6 v7 w R) (S23 l0 out3 i4 n6 v7 w R)) (S28 l0 out3 i4 n6 v7 t33 w R)
def KE_S17 (E : W.Env) (w : World) (R : W.Post) : Prop := W.asSlice (W.Env.get? E 0) fun l0 => W.asSlice (W.Env.get? E 3) fun out3 => W.asInt .i64 (W.Env.get? E 4) fun i4 => W.asInt .i64 (W.Env.get? E 6) fun n6 => W.asRef (W.Env.get? E 7) fun v7 => W.asInt .i64 (W.Env.get? E 33) fun t33 => S17 l0 out3 i4 n6 v7 t33 w R
theorem KE_S17_ok (R : W.Post) (E : W.Env) (w : World) (h : KE_S17 E w R) : W.WP Try.prog 106 C57 (Q17 R) E w := by
  obtain ⟨l0, hq0, h1⟩ := W.asSlice_elim h
  obtain ⟨out3, hq3, h2⟩ := W.asSlice_elim h1
  obtain ⟨i4, hq4, h3⟩ := W.asInt_elim h2
  obtain ⟨n6, hq6, h4⟩ := W.asInt_elim h3
  obtain ⟨v7, hq7, h5⟩ := W.asRef_elim h4
  obtain ⟨t33, hq33, h6⟩ := W.asInt_elim h5
  exact fun a ha => W.WP.at (E := [(0, l0.v), (3, out3.v), (4, .int .i64 i4), (6, .int .i64 n6), (7, .pointer (some v7)), (33, .int .i64 t33)]) (W.WP.seq (c := C57) (x := C60) (y := C58) (by kernel_rfl) <| W.WP.reg (c := C60) (fun E w => W.condK (W.Env.val E (.tmp 79)) (W.condK (W.Env.val E (.tmp 79)) (KE_S18 E w R) (KE_S23 E w R)) (KE_S28 E w R)) (by kernel_rfl) (Eq.mp (by kernel_rfl) h6) fun _ _ a hA hK => (W.WP.condK (c := C58) (x := C61) (y := C59) (o := .tmp 79) (by kernel_rfl) (fun hK => (W.WP.skip (c := C61) (by kernel_rfl) fun a hA => (W.WP.condK (c := C28) (x := C29) (y := C43) (o := .tmp 79) (by kernel_rfl) (fun hK => (KE_S18_ok R _ _ hK)) (fun hK => (KE_S23_ok R _ _ hK)) hK) a hA)) (fun hK => (KE_S28_ok R _ _ hK)) hK) a hA) (ha.cons hq0 (ha.cons hq3 (ha.cons hq4 (ha.cons hq6 (ha.cons hq7 (ha.cons hq33 ha.nil))))))
noncomputable def C62 : Code := W.Code.fst C24
/-- ref.go:172 -/
abbrev S15 (l0 out3 : W.Sl) (i4 n6 : Int) (v7 : Addr) (t33 : Int) (w : World) (R : W.Post) : Prop :=
  W.sel (t33 == 2) (S16 l0 out3 i4 n6 v7 w R) (S17 l0 out3 i4 n6 v7 t33 w R)
def KE_S15 (E : W.Env) (w : World) (R : W.Post) : Prop := W.asSlice (W.Env.get? E 0) fun l0 => W.asSlice (W.Env.get? E 3) fun out3 => W.asInt .i64 (W.Env.get? E 4) fun i4 => W.asInt .i64 (W.Env.get? E 6) fun n6 => W.asRef (W.Env.get? E 7) fun v7 => W.asInt .i64 (W.Env.get? E 33) fun t33 => S15 l0 out3 i4 n6 v7 t33 w R
theorem KE_S15_ok (R : W.Post) (E : W.Env) (w : World) (h : KE_S15 E w R) : W.WP Try.prog 106 C24 (Q6 R) E w := by
  obtain ⟨l0, hq0, h1⟩ := W.asSlice_elim h
  obtain ⟨out3, hq3, h2⟩ := W.asSlice_elim h1
  obtain ⟨i4, hq4, h3⟩ := W.asInt_elim h2
  obtain ⟨n6, hq6, h4⟩ := W.asInt_elim h3
  obtain ⟨v7, hq7, h5⟩ := W.asRef_elim h4
  obtain ⟨t33, hq33, h6⟩ := W.asInt_elim h5
  exact fun a ha => W.WP.at (E := [(0, l0.v), (3, out3.v), (4, .int .i64 i4), (6, .int .i64 n6), (7, .pointer (some v7)), (33, .int .i64 t33)]) (W.WP.seq (c := C24) (x := C62) (y := C25) (by kernel_rfl) <| W.WP.reg (c := C62) (fun E w => W.condK (W.Env.val E (.tmp 74)) (KE_S16 E w R) (KE_S17 E w R)) (by kernel_rfl) (Eq.mp (by kernel_rfl) h6) fun _ _ a hA hK => (W.WP.condK (c := C25) (x := C26) (y := C27) (o := .tmp 74) (by kernel_rfl) (fun hK => (KE_S16_ok R _ _ hK)) (fun hK => (W.WP.seq (c := C27) (x := C57) (y := C28) (by kernel_rfl) (KE_S17_ok R _ _ hK))) hK) a hA) (ha.cons hq0 (ha.cons hq3 (ha.cons hq4 (ha.cons hq6 (ha.cons hq7 (ha.cons hq33 ha.nil))))))
noncomputable def C63 : Code := W.Code.fst C21
/-- ref.go:170 -/
abbrev S13 (l0 out3 : W.Sl) (i4 n6 : Int) (v7 : Addr) (t33 : Int) (w : World) (R : W.Post) : Prop :=
  W.sel (t33 == 1) (S14 l0 out3 i4 n6 v7 w R) (S15 l0 out3 i4 n6 v7 t33 w R)
def KE_S13 (E : W.Env) (w : World) (R : W.Post) : Prop := W.asSlice (W.Env.get? E 0) fun l0 => W.asSlice (W.Env.get? E 3) fun out3 => W.asInt .i64 (W.Env.get? E 4) fun i4 => W.asInt .i64 (W.Env.get? E 6) fun n6 => W.asRef (W.Env.get? E 7) fun v7 => W.asInt .i64 (W.Env.get? E 33) fun t33 => S13 l0 out3 i4 n6 v7 t33 w R
theorem KE_S13_ok (R : W.Post) (E : W.Env) (w : World) (h : KE_S13 E w R) : W.WP Try.prog 106 C21 (Q6 R) E w := by
  obtain ⟨l0, hq0, h1⟩ := W.asSlice_elim h
  obtain ⟨out3, hq3, h2⟩ := W.asSlice_elim h1
  obtain ⟨i4, hq4, h3⟩ := W.asInt_elim h2
  obtain ⟨n6, hq6, h4⟩ := W.asInt_elim h3
  obtain ⟨v7, hq7, h5⟩ := W.asRef_elim h4
  obtain ⟨t33, hq33, h6⟩ := W.asInt_elim h5
  exact fun a ha => W.WP.at (E := [(0, l0.v), (3, out3.v), (4, .int .i64 i4), (6, .int .i64 n6), (7, .pointer (some v7)), (33, .int .i64 t33)]) (W.WP.seq (c := C21) (x := C63) (y := C22) (by kernel_rfl) <| W.WP.reg (c := C63) (fun E w => W.condK (W.Env.val E (.tmp 64)) (KE_S14 E w R) (KE_S15 E w R)) (by kernel_rfl) (Eq.mp (by kernel_rfl) h6) fun _ _ a hA hK => (W.WP.condK (c := C22) (x := C23) (y := C24) (o := .tmp 64) (by kernel_rfl) (fun hK => (KE_S14_ok R _ _ hK)) (fun hK => (KE_S15_ok R _ _ hK)) hK) a hA) (ha.cons hq0 (ha.cons hq3 (ha.cons hq4 (ha.cons hq6 (ha.cons hq7 (ha.cons hq33 ha.nil))))))
noncomputable def C64 : Code := W.Code.fst C18
/-- ref.go:168 -/
abbrev S9 (l0 out3 : W.Sl) (i4 n6 : Int) (v7 : Addr) (t33 : Int) (w : World) (R : W.Post) : Prop :=
  W.sel (t33 == 0) (S10 l0 out3 i4 n6 v7 w R) (S13 l0 out3 i4 n6 v7 t33 w R)
def KE_S9 (E : W.Env) (w : World) (R : W.Post) : Prop := W.asSlice (W.Env.get? E 0) fun l0 => W.asSlice (W.Env.get? E 3) fun out3 => W.asInt .i64 (W.Env.get? E 4) fun i4 => W.asInt .i64 (W.Env.get? E 6) fun n6 => W.asRef (W.Env.get? E 7) fun v7 => W.asInt .i64 (W.Env.get? E 33) fun t33 => S9 l0 out3 i4 n6 v7 t33 w R
theorem KE_S9_ok (R : W.Post) (E : W.Env) (w : World) (h : KE_S9 E w R) : W.WP Try.prog 106 C18 (Q6 R) E w := by
  obtain ⟨l0, hq0, h1⟩ := W.asSlice_elim h
  obtain ⟨out3, hq3, h2⟩ := W.asSlice_elim h1
  obtain ⟨i4, hq4, h3⟩ := W.asInt_elim h2
  obtain ⟨n6, hq6, h4⟩ := W.asInt_elim h3
  obtain ⟨v7, hq7, h5⟩ := W.asRef_elim h4
  obtain ⟨t33, hq33, h6⟩ := W.asInt_elim h5
  exact fun a ha => W.WP.at (E := [(0, l0.v), (3, out3.v), (4, .int .i64 i4), (6, .int .i64 n6), (7, .pointer (some v7)), (33, .int .i64 t33)]) (W.WP.seq (c := C18) (x := C64) (y := C19) (by kernel_rfl) <| W.WP.reg (c := C64) (fun E w => W.condK (W.Env.val E (.tmp 53)) (KE_S10 E w R) (KE_S13 E w R)) (by kernel_rfl) (Eq.mp (by kernel_rfl) h6) fun _ _ a hA hK => (W.WP.condK (c := C19) (x := C20) (y := C21) (o := .tmp 53) (by kernel_rfl) (fun hK => (KE_S10_ok R _ _ hK)) (fun hK => (KE_S13_ok R _ _ hK)) hK) a hA) (ha.cons hq0 (ha.cons hq3 (ha.cons hq4 (ha.cons hq6 (ha.cons hq7 (ha.cons hq33 ha.nil))))))
noncomputable def C65 : Code := W.Code.fst C16
/-- ref.go:167 -/
abbrev S8 (l0 out3 : W.Sl) (i4 k5 n6 : Int) (v7 : Addr) (w : World) (R : W.Post) : Prop :=
  S9 l0 out3 i4 n6 v7 k5 w R
def KE_S8 (E : W.Env) (w : World) (R : W.Post) : Prop := W.asSlice (W.Env.get? E 0) fun l0 => W.asSlice (W.Env.get? E 3) fun out3 => W.asInt .i64 (W.Env.get? E 4) fun i4 => W.asInt .i64 (W.Env.get? E 5) fun k5 => W.asInt .i64 (W.Env.get? E 6) fun n6 => W.asRef (W.Env.get? E 7) fun v7 => S8 l0 out3 i4 k5 n6 v7 w R
theorem KE_S8_ok (R : W.Post) (E : W.Env) (w : World) (h : KE_S8 E w R) : W.WP Try.prog 106 C16 (Q5 R) E w := by
  obtain ⟨l0, hq0, h1⟩ := W.asSlice_elim h
  obtain ⟨out3, hq3, h2⟩ := W.asSlice_elim h1
  obtain ⟨i4, hq4, h3⟩ := W.asInt_elim h2
  obtain ⟨k5, hq5, h4⟩ := W.asInt_elim h3
  obtain ⟨n6, hq6, h5⟩ := W.asInt_elim h4
  obtain ⟨v7, hq7, h6⟩ := W.asRef_elim h5
  exact fun a ha => W.WP.at (E := [(0, l0.v), (3, out3.v), (4, .int .i64 i4), (5, .int .i64 k5), (6, .int .i64 n6), (7, .pointer (some v7))]) (W.WP.seq (c := C16) (x := C65) (y := C17) (by kernel_rfl) <| W.WP.reg (c := C65) (fun E w => KE_S9 E w R) (by kernel_rfl) (Eq.mp (by kernel_rfl) h6) fun _ _ a hA hK => (W.WP.block (c := C17) (x := C18) (id := 2) (by kernel_rfl) (KE_S9_ok R _ _ hK)) a hA) (ha.cons hq0 (ha.cons hq3 (ha.cons hq4 (ha.cons hq5 (ha.cons hq6 (ha.cons hq7 ha.nil))))))
noncomputable def C66 : Code := W.Code.fst C13
/-- ref.go:166 -/
abbrev S7 (l0 out3 : W.Sl) (i4 k5 n6 : Int) (w : World) (R : W.Post) : Prop :=
  let w1 := w.alloc (.cells #[.int .i64 0, .int .u64 0, .int .i64 0, .slice none 0 0, .slice none 0 0] ty_enthymemeref02_Val)
  (w1.cell? (Addr.mk w.heap.size 0 none)).isSome = true ∧ w1.frozen? (Addr.mk w.heap.size 0 none) = false ∧ let w2 := w1.setCell (Addr.mk w.heap.size 0 none) (.int .i64 k5)
  (w2.cell? ((Addr.mk w.heap.size 0 none).add 1)).isSome = true ∧ w2.frozen? ((Addr.mk w.heap.size 0 none).add 1) = false ∧ let w3 := w2.setCell ((Addr.mk w.heap.size 0 none).add 1) (.int .u64 0)
  (w3.cell? ((Addr.mk w.heap.size 0 none).add 2)).isSome = true ∧ w3.frozen? ((Addr.mk w.heap.size 0 none).add 2) = false ∧ let w4 := w3.setCell ((Addr.mk w.heap.size 0 none).add 2) (.int .i64 0)
  (w4.cell? ((Addr.mk w.heap.size 0 none).add 3)).isSome = true ∧ w4.frozen? ((Addr.mk w.heap.size 0 none).add 3) = false ∧ let w5 := w4.setCell ((Addr.mk w.heap.size 0 none).add 3) (.slice none 0 0)
  (w5.cell? ((Addr.mk w.heap.size 0 none).add 4)).isSome = true ∧ w5.frozen? ((Addr.mk w.heap.size 0 none).add 4) = false ∧ let w6 := w5.setCell ((Addr.mk w.heap.size 0 none).add 4) (.slice none 0 0)
  S8 l0 out3 i4 k5 n6 (Addr.mk w.heap.size 0 none) w6 R
def KE_S7 (E : W.Env) (w : World) (R : W.Post) : Prop := W.asSlice (W.Env.get? E 0) fun l0 => W.asSlice (W.Env.get? E 3) fun out3 => W.asInt .i64 (W.Env.get? E 4) fun i4 => W.asInt .i64 (W.Env.get? E 5) fun k5 => W.asInt .i64 (W.Env.get? E 6) fun n6 => S7 l0 out3 i4 k5 n6 w R
theorem KE_S7_ok (R : W.Post) (E : W.Env) (w : World) (h : KE_S7 E w R) : W.WP Try.prog 106 C13 (Q4 R) E w := by
  obtain ⟨l0, hq0, h1⟩ := W.asSlice_elim h
  obtain ⟨out3, hq3, h2⟩ := W.asSlice_elim h1
  obtain ⟨i4, hq4, h3⟩ := W.asInt_elim h2
  obtain ⟨k5, hq5, h4⟩ := W.asInt_elim h3
  obtain ⟨n6, hq6, h5⟩ := W.asInt_elim h4
  exact fun a ha => W.WP.at (E := [(0, l0.v), (3, out3.v), (4, .int .i64 i4), (5, .int .i64 k5), (6, .int .i64 n6)]) (W.WP.seq (c := C13) (x := C66) (y := C14) (by kernel_rfl) <| W.WP.reg (c := C66) (fun E w => KE_S8 E w R) (by kernel_rfl) (Eq.mp (by kernel_rfl) h5) fun _ _ a hA hK => (W.WP.seq (c := C14) (x := C16) (y := C15) (by kernel_rfl) (KE_S8_ok R _ _ hK)) a hA) (ha.cons hq0 (ha.cons hq3 (ha.cons hq4 (ha.cons hq5 (ha.cons hq6 ha.nil)))))
noncomputable def C67 : Code := W.Code.fst C12
/-- ref.go:165 -/
abbrev S6 (l0 out3 : W.Sl) (i4 k5 : Int) (w : World) (R : W.Post) : Prop :=
  (0 : Int) ≤ i4 ∧ i4 < ((l0.n : Nat) : Int) ∧ W.optP l0.a fun t27_p => ∃ t28 : Int, w.cell? (t27_p.add (Int.toNat i4 * 1)) = some (.int .i64 t28) ∧ 
  Calls Try.prog n_enthymemeref01_Around #[.int .i64 (IntKind.wrap .i64 (Int.tdiv t28 6)), .int .i64 63] w fun r_ w1 => ∃ t30 : Int, r_ = .returned (.int .i64 t30) ∧ 
  S7 l0 out3 i4 k5 t30 w1 R
def KE_S6 (E : W.Env) (w : World) (R : W.Post) : Prop := W.asSlice (W.Env.get? E 0) fun l0 => W.asSlice (W.Env.get? E 3) fun out3 => W.asInt .i64 (W.Env.get? E 4) fun i4 => W.asInt .i64 (W.Env.get? E 5) fun k5 => S6 l0 out3 i4 k5 w R
theorem KE_S6_ok (R : W.Post) (E : W.Env) (w : World) (h : KE_S6 E w R) : W.WP Try.prog 106 C12 (Q4 R) E w := by
  obtain ⟨l0, hq0, h1⟩ := W.asSlice_elim h
  obtain ⟨out3, hq3, h2⟩ := W.asSlice_elim h1
  obtain ⟨i4, hq4, h3⟩ := W.asInt_elim h2
  obtain ⟨k5, hq5, h4⟩ := W.asInt_elim h3
  exact fun a ha => W.WP.at (E := [(0, l0.v), (3, out3.v), (4, .int .i64 i4), (5, .int .i64 k5)]) (W.WP.seq (c := C12) (x := C67) (y := C13) (by kernel_rfl) <| W.WP.reg (c := C67) (fun E w => KE_S7 E w R) (by kernel_rfl) (Eq.mp (by kernel_rfl) h4) fun _ _ a hA hK => (KE_S7_ok R _ _ hK) a hA) (ha.cons hq0 (ha.cons hq3 (ha.cons hq4 (ha.cons hq5 ha.nil))))
noncomputable def C68 : Code := W.Code.fst C11
/-- ref.go:164 -/
abbrev S5 (l0 out3 : W.Sl) (i4 : Int) (w : World) (R : W.Post) : Prop :=
  (0 : Int) ≤ i4 ∧ i4 < ((l0.n : Nat) : Int) ∧ W.optP l0.a fun t22_p => ∃ t23 : Int, w.cell? (t22_p.add (Int.toNat i4 * 1)) = some (.int .i64 t23) ∧ 
  Calls Try.prog n_enthymemeref01_Around #[.int .i64 t23, .int .i64 6] w fun r_ w1 => ∃ t24 : Int, r_ = .returned (.int .i64 t24) ∧ 
  S6 l0 out3 i4 t24 w1 R
def KE_S5 (E : W.Env) (w : World) (R : W.Post) : Prop := W.asSlice (W.Env.get? E 0) fun l0 => W.asSlice (W.Env.get? E 3) fun out3 => W.asInt .i64 (W.Env.get? E 4) fun i4 => S5 l0 out3 i4 w R
theorem KE_S5_ok (R : W.Post) (E : W.Env) (w : World) (h : KE_S5 E w R) : W.WP Try.prog 106 C11 (Q4 R) E w := by
  obtain ⟨l0, hq0, h1⟩ := W.asSlice_elim h
  obtain ⟨out3, hq3, h2⟩ := W.asSlice_elim h1
  obtain ⟨i4, hq4, h3⟩ := W.asInt_elim h2
  exact fun a ha => W.WP.at (E := [(0, l0.v), (3, out3.v), (4, .int .i64 i4)]) (W.WP.seq (c := C11) (x := C68) (y := C12) (by kernel_rfl) <| W.WP.reg (c := C68) (fun E w => KE_S6 E w R) (by kernel_rfl) (Eq.mp (by kernel_rfl) h3) fun _ _ a hA hK => (KE_S6_ok R _ _ hK) a hA) (ha.cons hq0 (ha.cons hq3 (ha.cons hq4 ha.nil)))
abbrev Q18 (R : W.Post) : Exit → Act → World → Prop := (bodyPost Try.prog Try.f28 R)
noncomputable def C69 : Code := W.Code.fst C7
noncomputable def C70 : Code := W.Code.snd C7
/-- ref.go:185 -/
abbrev S29 (out3 : W.Sl) (w : World) (R : W.Post) : Prop :=
  R (.returned (out3.v)) w
def KE_S29 (E : W.Env) (w : World) (R : W.Post) : Prop := W.asSlice (W.Env.get? E 3) fun out3 => S29 out3 w R
theorem KE_S29_ok (R : W.Post) (E : W.Env) (w : World) (h : KE_S29 E w R) : W.WP Try.prog 106 C7 (Q18 R) E w := by
  obtain ⟨out3, hq3, h1⟩ := W.asSlice_elim h
  exact fun a ha => W.WP.at (E := [(3, out3.v)]) (W.WP.seq (c := C7) (x := C69) (y := C70) (by kernel_rfl) <| W.WP.reg (c := C69) (fun E w => W.retVC Try.prog Try.f28 E w (fun v => R (.returned v) w)) (by kernel_rfl) (Eq.mp (by kernel_rfl) h1) fun _ _ a hA hK => (W.WP.ret (c := C70) (by kernel_rfl) fun a hA => W.retVC_sound hA hK) a hA) (ha.cons hq3 ha.nil)
noncomputable def C71 : Code := W.Code.fst C6
abbrev Q19 (R : W.Post) : Exit → Act → World → Prop := (Exit.then (Code.wp Try.prog C8 (Exit.then (W.LoopWP Try.prog C6 (Q1 R)) (Q1 R))) (Exit.then (W.LoopWP Try.prog C6 (Q1 R)) (Q1 R)))
noncomputable def C72 : Code := W.Code.fst C71
noncomputable def C73 : Code := W.Code.snd C71
noncomputable def C74 : Code := W.Code.fst C73
noncomputable def C75 : Code := W.Code.snd C73
/-- ref.go:163 -/
abbrev S4 (l0 out3 : W.Sl) (i4 : Int) (w : World) (R : W.Post) : Prop :=
  W.sel (decide (i4 < ((l0.n : Nat) : Int))) (W.sel (decide (i4 < 8)) (S5 l0 out3 i4 w R) (S29 out3 w R)) (S29 out3 w R)
def KE_S4 (E : W.Env) (w : World) (R : W.Post) : Prop := W.asSlice (W.Env.get? E 0) fun l0 => W.asSlice (W.Env.get? E 3) fun out3 => W.asInt .i64 (W.Env.get? E 4) fun i4 => S4 l0 out3 i4 w R
theorem KE_S4_ok (R : W.Post) (E : W.Env) (w : World) (h : KE_S4 E w R) : W.WP Try.prog 106 C71 (Q19 R) E w := by
  obtain ⟨l0, hq0, h1⟩ := W.asSlice_elim h
  obtain ⟨out3, hq3, h2⟩ := W.asSlice_elim h1
  obtain ⟨i4, hq4, h3⟩ := W.asInt_elim h2
  exact fun a ha => W.WP.at (E := [(0, l0.v), (3, out3.v), (4, .int .i64 i4)]) (W.WP.seq (c := C71) (x := C72) (y := C73) (by kernel_rfl) <| W.WP.reg (c := C72) (fun E w => W.condK (W.Env.val E (.tmp 17)) (KE_S5 E w R) (KE_S29 E w R)) (by kernel_rfl) (Eq.mp (by kernel_rfl) h3) fun _ _ a hA hK => (W.WP.condK (c := C73) (x := C74) (y := C75) (o := .tmp 17) (by kernel_rfl) (fun hK => (W.WP.skip (c := C74) (by kernel_rfl) fun a hA => (W.WP.seq (c := C8) (x := C10) (y := C9) (by kernel_rfl) (W.WP.block (c := C10) (x := C11) (id := 1) (by kernel_rfl) (KE_S5_ok R _ _ hK))) a hA)) (fun hK => (W.WP.exit (c := C75) (id := 0) (by kernel_rfl) fun a hA => (KE_S29_ok R _ _ hK) a hA)) hK) a hA) (ha.cons hq0 (ha.cons hq3 (ha.cons hq4 ha.nil)))
theorem L3_step (l0 out3 : W.Sl) (i4 : Int) (w : World) (R : W.Post) (h : S4 l0 out3 i4 w R) : L3 l0 out3 i4 w R :=
  W.LP.step (c := C6) (E := [(0, l0.v), (3, out3.v), (4, .int .i64 i4)]) (w := w) (W.WP.seq (c := C6) (x := C71) (y := C8) (by kernel_rfl) (KE_S4_ok R _ _ (Eq.mp (by kernel_rfl) h)))
noncomputable def C76 : Code := W.Code.fst C3
/-- ref.go:163 -/
abbrev S2 (l0 out3 : W.Sl) (w : World) (R : W.Post) : Prop :=
  L3 l0 out3 0 w R
def KE_S2 (E : W.Env) (w : World) (R : W.Post) : Prop := W.asSlice (W.Env.get? E 0) fun l0 => W.asSlice (W.Env.get? E 3) fun out3 => S2 l0 out3 w R
theorem KE_S2_ok (R : W.Post) (E : W.Env) (w : World) (h : KE_S2 E w R) : W.WP Try.prog 106 C3 (Q0 R) E w := by
  obtain ⟨l0, hq0, h1⟩ := W.asSlice_elim h
  obtain ⟨out3, hq3, h2⟩ := W.asSlice_elim h1
  exact fun a ha => W.WP.at (E := [(0, l0.v), (3, out3.v)]) (W.WP.seq (c := C3) (x := C76) (y := C4) (by kernel_rfl) <| W.WP.reg (c := C76) (fun E w => KE_L3 E w R) (by kernel_rfl) (Eq.mp (by kernel_rfl) h2) fun _ _ a hA hK => (W.WP.block (c := C4) (x := C5) (id := 0) (by kernel_rfl) (W.WP.loop (c := C5) (x := C6) (by kernel_rfl) (KE_L3_ok R _ _ hK))) a hA) (ha.cons hq0 (ha.cons hq3 ha.nil))
noncomputable def C77 : Code := W.Code.fst C1
/-- ref.go:162 -/
abbrev S1 (l0 : W.Sl) (w : World) (R : W.Post) : Prop :=
  S2 l0 ⟨none, 0, 0⟩ w R
def KE_S1 (E : W.Env) (w : World) (R : W.Post) : Prop := W.asSlice (W.Env.get? E 0) fun l0 => S1 l0 w R
theorem KE_S1_ok (R : W.Post) (E : W.Env) (w : World) (h : KE_S1 E w R) : W.WP Try.prog 106 C1 (Q18 R) E w := by
  obtain ⟨l0, hq0, h1⟩ := W.asSlice_elim h
  exact fun a ha => W.WP.at (E := [(0, l0.v)]) (W.WP.seq (c := C1) (x := C77) (y := C2) (by kernel_rfl) <| W.WP.reg (c := C77) (fun E w => KE_S2 E w R) (by kernel_rfl) (Eq.mp (by kernel_rfl) h1) fun _ _ a hA hK => (W.WP.seq (c := C2) (x := C3) (y := C7) (by kernel_rfl) (KE_S2_ok R _ _ hK)) a hA) (ha.cons hq0 ha.nil)
noncomputable def C78 : Code := W.Code.fst C0
/-- ref.go:161 -/
abbrev S0 (l0 : W.Sl) (w : World) (R : W.Post) : Prop :=
  S1 l0 w R
def KE_S0 (E : W.Env) (w : World) (R : W.Post) : Prop := W.asSlice (W.Env.get? E 0) fun l0 => S0 l0 w R
theorem KE_S0_ok (R : W.Post) (E : W.Env) (w : World) (h : KE_S0 E w R) : W.WP Try.prog 106 C0 (Q18 R) E w := by
  obtain ⟨l0, hq0, h1⟩ := W.asSlice_elim h
  exact fun a ha => W.WP.at (E := [(0, l0.v)]) (W.WP.seq (c := C0) (x := C78) (y := C1) (by kernel_rfl) <| W.WP.reg (c := C78) (fun E w => KE_S1 E w R) (by kernel_rfl) (Eq.mp (by kernel_rfl) h1) fun _ _ a hA hK => (KE_S1_ok R _ _ hK) a hA) (ha.cons hq0 ha.nil)
/-- enthymeme/enthymemeref02.Vals -/
theorem ok (l0 : W.Sl) (w : World) (R : W.Post) (h : S0 l0 w R) : Calls Try.prog n_enthymemeref02_Vals #[l0.v] w R :=
  W.calls_of_WP' (fn := Try.f28) (c := C0) (args := [l0.v]) (by kernel_rfl) (by kernel_rfl) (by kernel_rfl) (KE_S0_ok R _ _ (Eq.mp (by kernel_rfl) h))
end enthymemeref02_Vals
namespace enthymemeref02_Same
noncomputable def C0 : Code := (Try.f31.body).getD .skip
noncomputable def C1 : Code := W.Code.snd C0
noncomputable def C2 : Code := W.Code.snd C1
noncomputable def C3 : Code := W.Code.snd C2
abbrev Q0 (R : W.Post) : Exit → Act → World → Prop := (bodyPost Try.prog Try.f31 R)
noncomputable def C4 : Code := W.Code.fst C3
noncomputable def C5 : Code := W.Code.snd C3
/-- ref.go:233 -/
abbrev S3 (a2 b3 : Addr) (bytes5 ints6 : Bool) (w : World) (R : W.Post) : Prop :=
  ∃ t18 : Int, w.cell? (a2.add 0) = some (.int .i64 t18) ∧ 
  ∃ t20 : Int, w.cell? (b3.add 0) = some (.int .i64 t20) ∧ 
  W.sel (t18 == t20) (∃ t24 : Int, w.cell? (a2.add 1) = some (.int .u64 t24) ∧ 
  ∃ t26 : Int, w.cell? (b3.add 1) = some (.int .u64 t26) ∧ 
  W.sel (t24 == t26) (∃ t31 : Int, w.cell? (a2.add 2) = some (.int .i64 t31) ∧ 
  ∃ t33 : Int, w.cell? (b3.add 2) = some (.int .i64 t33) ∧ 
  W.sel (t31 == t33) (W.sel bytes5 (R (.returned (.bool ints6)) w) (R (.returned (.bool false)) w)) (R (.returned (.bool false)) w)) (R (.returned (.bool false)) w)) (R (.returned (.bool false)) w)
def KE_S3 (E : W.Env) (w : World) (R : W.Post) : Prop := W.asRef (W.Env.get? E 2) fun a2 => W.asRef (W.Env.get? E 3) fun b3 => W.asBool' (W.Env.get? E 5) fun bytes5 => W.asBool' (W.Env.get? E 6) fun ints6 => S3 a2 b3 bytes5 ints6 w R
theorem KE_S3_ok (R : W.Post) (E : W.Env) (w : World) (h : KE_S3 E w R) : W.WP Try.prog 42 C3 (Q0 R) E w := by
  obtain ⟨a2, hq2, h1⟩ := W.asRef_elim h
  obtain ⟨b3, hq3, h2⟩ := W.asRef_elim h1
  obtain ⟨bytes5, hq5, h3⟩ := W.asBool_elim h2
  obtain ⟨ints6, hq6, h4⟩ := W.asBool_elim h3
  exact fun a ha => W.WP.at (E := [(2, .pointer (some a2)), (3, .pointer (some b3)), (5, .bool bytes5), (6, .bool ints6)]) (W.WP.seq (c := C3) (x := C4) (y := C5) (by kernel_rfl) <| W.WP.reg (c := C4) (fun E w => W.retVC Try.prog Try.f31 E w (fun v => R (.returned v) w)) (by kernel_rfl) (Eq.mp (by kernel_rfl) h4) fun _ _ a hA hK => (W.WP.ret (c := C5) (by kernel_rfl) fun a hA => W.retVC_sound hA hK) a hA) (ha.cons hq2 (ha.cons hq3 (ha.cons hq5 (ha.cons hq6 ha.nil))))
noncomputable def C6 : Code := W.Code.fst C2
/-- ref.go:232 -/
abbrev S2 (a2 b3 : Addr) (bytes5 : Bool) (w : World) (R : W.Post) : Prop :=
  ∃ t13 : W.Sl, w.cell? (a2.add 4) = some (t13.v) ∧ 
  ∃ t15 : W.Sl, w.cell? (b3.add 4) = some (t15.v) ∧ 
  Calls Try.prog n_enthymemeref01_SameInts #[t13.v, t15.v] w fun r_ w1 => ∃ t16 : Bool, r_ = .returned (.bool t16) ∧ 
  S3 a2 b3 bytes5 t16 w1 R
def KE_S2 (E : W.Env) (w : World) (R : W.Post) : Prop := W.asRef (W.Env.get? E 2) fun a2 => W.asRef (W.Env.get? E 3) fun b3 => W.asBool' (W.Env.get? E 5) fun bytes5 => S2 a2 b3 bytes5 w R
theorem KE_S2_ok (R : W.Post) (E : W.Env) (w : World) (h : KE_S2 E w R) : W.WP Try.prog 42 C2 (Q0 R) E w := by
  obtain ⟨a2, hq2, h1⟩ := W.asRef_elim h
  obtain ⟨b3, hq3, h2⟩ := W.asRef_elim h1
  obtain ⟨bytes5, hq5, h3⟩ := W.asBool_elim h2
  exact fun a ha => W.WP.at (E := [(2, .pointer (some a2)), (3, .pointer (some b3)), (5, .bool bytes5)]) (W.WP.seq (c := C2) (x := C6) (y := C3) (by kernel_rfl) <| W.WP.reg (c := C6) (fun E w => KE_S3 E w R) (by kernel_rfl) (Eq.mp (by kernel_rfl) h3) fun _ _ a hA hK => (KE_S3_ok R _ _ hK) a hA) (ha.cons hq2 (ha.cons hq3 (ha.cons hq5 ha.nil)))
noncomputable def C7 : Code := W.Code.fst C1
/-- ref.go:231 -/
abbrev S1 (a2 b3 : Addr) (w : World) (R : W.Post) : Prop :=
  ∃ t8 : W.Sl, w.cell? (a2.add 3) = some (t8.v) ∧ 
  ∃ t10 : W.Sl, w.cell? (b3.add 3) = some (t10.v) ∧ 
  Calls Try.prog n_enthymemeref01_SameBytes #[t8.v, t10.v] w fun r_ w1 => ∃ t11 : Bool, r_ = .returned (.bool t11) ∧ 
  S2 a2 b3 t11 w1 R
def KE_S1 (E : W.Env) (w : World) (R : W.Post) : Prop := W.asRef (W.Env.get? E 2) fun a2 => W.asRef (W.Env.get? E 3) fun b3 => S1 a2 b3 w R
theorem KE_S1_ok (R : W.Post) (E : W.Env) (w : World) (h : KE_S1 E w R) : W.WP Try.prog 42 C1 (Q0 R) E w := by
  obtain ⟨a2, hq2, h1⟩ := W.asRef_elim h
  obtain ⟨b3, hq3, h2⟩ := W.asRef_elim h1
  exact fun a ha => W.WP.at (E := [(2, .pointer (some a2)), (3, .pointer (some b3))]) (W.WP.seq (c := C1) (x := C7) (y := C2) (by kernel_rfl) <| W.WP.reg (c := C7) (fun E w => KE_S2 E w R) (by kernel_rfl) (Eq.mp (by kernel_rfl) h2) fun _ _ a hA hK => (KE_S2_ok R _ _ hK) a hA) (ha.cons hq2 (ha.cons hq3 ha.nil))
noncomputable def C8 : Code := W.Code.fst C0
/-- ref.go:230 -/
abbrev S0 (a0_0 a0_1 a0_2 : Int) (a0_3 a0_4 : W.Sl) (b1_0 b1_1 b1_2 : Int) (b1_3 b1_4 : W.Sl) (w : World) (R : W.Post) : Prop :=
  let w1 := w.alloc (.cells #[.int .i64 a0_0, .int .u64 a0_1, .int .i64 a0_2, a0_3.v, a0_4.v] ty_enthymemeref02_Val)
  let w2 := w1.alloc (.cells #[.int .i64 b1_0, .int .u64 b1_1, .int .i64 b1_2, b1_3.v, b1_4.v] ty_enthymemeref02_Val)
  S1 (Addr.mk w.heap.size 0 none) (Addr.mk w1.heap.size 0 none) w2 R
def KE_S0 (E : W.Env) (w : World) (R : W.Post) : Prop := W.asAgg (W.Env.get? E 0) fun a0_l0 => W.asCons a0_l0 fun a0_v0 a0_l1 => W.asInt .i64 (some a0_v0) fun a0_0 => W.asCons a0_l1 fun a0_v1 a0_l2 => W.asInt .u64 (some a0_v1) fun a0_1 => W.asCons a0_l2 fun a0_v2 a0_l3 => W.asInt .i64 (some a0_v2) fun a0_2 => W.asCons a0_l3 fun a0_v3 a0_l4 => W.asSlice (some a0_v3) fun a0_3 => W.asCons a0_l4 fun a0_v4 a0_l5 => W.asSlice (some a0_v4) fun a0_4 => W.asNil a0_l5 <| W.asAgg (W.Env.get? E 1) fun b1_l0 => W.asCons b1_l0 fun b1_v0 b1_l1 => W.asInt .i64 (some b1_v0) fun b1_0 => W.asCons b1_l1 fun b1_v1 b1_l2 => W.asInt .u64 (some b1_v1) fun b1_1 => W.asCons b1_l2 fun b1_v2 b1_l3 => W.asInt .i64 (some b1_v2) fun b1_2 => W.asCons b1_l3 fun b1_v3 b1_l4 => W.asSlice (some b1_v3) fun b1_3 => W.asCons b1_l4 fun b1_v4 b1_l5 => W.asSlice (some b1_v4) fun b1_4 => W.asNil b1_l5 <| S0 a0_0 a0_1 a0_2 a0_3 a0_4 b1_0 b1_1 b1_2 b1_3 b1_4 w R
theorem KE_S0_ok (R : W.Post) (E : W.Env) (w : World) (h : KE_S0 E w R) : W.WP Try.prog 42 C0 (Q0 R) E w := by
  obtain ⟨a0_l0, hq0, h1⟩ := W.asAgg_elim h
  obtain ⟨a0_v0, a0_l1, rfl, h2⟩ := W.asCons_elim h1
  obtain ⟨a0_0, ex, h3⟩ := W.asInt_elim h2
  obtain rfl := Option.some.inj ex
  obtain ⟨a0_v1, a0_l2, rfl, h4⟩ := W.asCons_elim h3
  obtain ⟨a0_1, ex, h5⟩ := W.asInt_elim h4
  obtain rfl := Option.some.inj ex
  obtain ⟨a0_v2, a0_l3, rfl, h6⟩ := W.asCons_elim h5
  obtain ⟨a0_2, ex, h7⟩ := W.asInt_elim h6
  obtain rfl := Option.some.inj ex
  obtain ⟨a0_v3, a0_l4, rfl, h8⟩ := W.asCons_elim h7
  obtain ⟨a0_3, ex, h9⟩ := W.asSlice_elim h8
  obtain rfl := Option.some.inj ex
  obtain ⟨a0_v4, a0_l5, rfl, h10⟩ := W.asCons_elim h9
  obtain ⟨a0_4, ex, h11⟩ := W.asSlice_elim h10
  obtain rfl := Option.some.inj ex
  obtain ⟨rfl, h12⟩ := W.asNil_elim h11
  obtain ⟨b1_l0, hq1, h13⟩ := W.asAgg_elim h12
  obtain ⟨b1_v0, b1_l1, rfl, h14⟩ := W.asCons_elim h13
  obtain ⟨b1_0, ex, h15⟩ := W.asInt_elim h14
  obtain rfl := Option.some.inj ex
  obtain ⟨b1_v1, b1_l2, rfl, h16⟩ := W.asCons_elim h15
  obtain ⟨b1_1, ex, h17⟩ := W.asInt_elim h16
  obtain rfl := Option.some.inj ex
  obtain ⟨b1_v2, b1_l3, rfl, h18⟩ := W.asCons_elim h17
  obtain ⟨b1_2, ex, h19⟩ := W.asInt_elim h18
  obtain rfl := Option.some.inj ex
  obtain ⟨b1_v3, b1_l4, rfl, h20⟩ := W.asCons_elim h19
  obtain ⟨b1_3, ex, h21⟩ := W.asSlice_elim h20
  obtain rfl := Option.some.inj ex
  obtain ⟨b1_v4, b1_l5, rfl, h22⟩ := W.asCons_elim h21
  obtain ⟨b1_4, ex, h23⟩ := W.asSlice_elim h22
  obtain rfl := Option.some.inj ex
  obtain ⟨rfl, h24⟩ := W.asNil_elim h23
  exact fun a ha => W.WP.at (E := [(0, .agg #[.int .i64 a0_0, .int .u64 a0_1, .int .i64 a0_2, a0_3.v, a0_4.v]), (1, .agg #[.int .i64 b1_0, .int .u64 b1_1, .int .i64 b1_2, b1_3.v, b1_4.v])]) (W.WP.seq (c := C0) (x := C8) (y := C1) (by kernel_rfl) <| W.WP.reg (c := C8) (fun E w => KE_S1 E w R) (by kernel_rfl) (Eq.mp (by kernel_rfl) h24) fun _ _ a hA hK => (KE_S1_ok R _ _ hK) a hA) (ha.cons hq0 (ha.cons hq1 ha.nil))
/-- enthymeme/enthymemeref02.Same -/
theorem ok (a0_0 a0_1 a0_2 : Int) (a0_3 a0_4 : W.Sl) (b1_0 b1_1 b1_2 : Int) (b1_3 b1_4 : W.Sl) (w : World) (R : W.Post) (h : S0 a0_0 a0_1 a0_2 a0_3 a0_4 b1_0 b1_1 b1_2 b1_3 b1_4 w R) : Calls Try.prog n_enthymemeref02_Same #[.agg #[.int .i64 a0_0, .int .u64 a0_1, .int .i64 a0_2, a0_3.v, a0_4.v], .agg #[.int .i64 b1_0, .int .u64 b1_1, .int .i64 b1_2, b1_3.v, b1_4.v]] w R :=
  W.calls_of_WP' (fn := Try.f31) (c := C0) (args := [.agg #[.int .i64 a0_0, .int .u64 a0_1, .int .i64 a0_2, a0_3.v, a0_4.v], .agg #[.int .i64 b1_0, .int .u64 b1_1, .int .i64 b1_2, b1_3.v, b1_4.v]]) (by kernel_rfl) (by kernel_rfl) (by kernel_rfl) (KE_S0_ok R _ _ (Eq.mp (by kernel_rfl) h))
end enthymemeref02_Same
end Go.Proofs.Ytjmnpdacalbpkaa

/- Printed by a program of ours (vcgen.py) from the dump: the conditions of the functions, and that they suffice. -/
import Derived.Test.YtpfomlenbhocpaaV
set_option linter.unusedVariables false
set_option maxRecDepth 100000
namespace Go.Proofs.Ytpfomlenbhocpaa
open Go
namespace enthymemeref02_Uint
noncomputable def C0 : Code := (Try.f29.body).getD .skip
noncomputable def C1 : Code := W.Code.snd C0
noncomputable def C2 : Code := W.Code.snd C1
noncomputable def C3 : Code := W.Code.fst C2
noncomputable def C4 : Code := W.Code.fst C3
noncomputable def C5 : Code := W.Code.fst C4
noncomputable def C6 : Code := W.Code.snd C2
abbrev Q0 (R : W.Post) : Exit → Act → World → Prop := (Exit.then (W.wpx Try.prog (W.cx 20) C6 (bodyPost Try.prog Try.f29 R)) (bodyPost Try.prog Try.f29 R))
abbrev Q1 (R : W.Post) : Exit → Act → World → Prop := (Exit.inBlock 0 (Q0 R))
/-- the head of the loop, ref.go:12 -/
def L2 (n0 : Int) (out3 : W.Sl) (w : World) (R : W.Post) : Prop := W.LP Try.prog (W.cx 20) C5 (Q1 R) [(0, .int .u64 n0), (3, out3.v)] w
def KE_L2 (E : W.Env) (w : World) (R : W.Post) : Prop := W.asInt .u64 (W.Env.get? E 0) fun n0 => W.asSlice (W.Env.get? E 3) fun out3 => L2 n0 out3 w R
theorem KE_L2_ok (R : W.Post) (E : W.Env) (w : World) (h : KE_L2 E w R) : W.LP Try.prog (W.cx 20) C5 (Q1 R) E w := by
  obtain ⟨n0, hq0, h1⟩ := W.asInt_elim h
  obtain ⟨out3, hq3, h2⟩ := W.asSlice_elim h1
  intro a ha
  exact h2 a (ha.cons hq0 (ha.cons hq3 ha.nil))
noncomputable def C7 : Code := W.Code.snd C5
noncomputable def C8 : Code := W.Code.fst C7
noncomputable def C9 : Code := W.Code.snd C8
abbrev Q2 (R : W.Post) : Exit → Act → World → Prop := (Exit.then (W.LoopWP Try.prog (W.cx 20) C5 (Q1 R)) (Q1 R))
abbrev Q3 (R : W.Post) : Exit → Act → World → Prop := (Exit.inBlock 1 (Q2 R))
/-- ref.go:14 -/
abbrev S5 (n0 : Int) (out3 : W.Sl) (w : World) (R : W.Post) : Prop :=
  L2 (IntKind.wrap .u64 (Int.tdiv n0 128)) out3 w R
def KE_S5 (E : W.Env) (w : World) (R : W.Post) : Prop := W.asInt .u64 (W.Env.get? E 0) fun n0 => W.asSlice (W.Env.get? E 3) fun out3 => S5 n0 out3 w R
theorem KE_S5_ok (R : W.Post) (E : W.Env) (w : World) (h : KE_S5 E w R) : W.WP Try.prog (W.cx 20) C9 (Q3 R) E w := by
  obtain ⟨n0, hq0, h1⟩ := W.asInt_elim h
  obtain ⟨out3, hq3, h2⟩ := W.asSlice_elim h1
  exact fun a ha => W.WP.at (n := (W.cx 20)) (E := [(0, .int .u64 n0), (3, out3.v)]) (W.WP.reg (c := C9) (fun E w => KE_L2 E w R) (by kernel_rfl) (Eq.mp (by kernel_rfl) h2) fun _ _ a hA hK => KE_L2_ok R _ _ hK a hA) (ha.cons hq0 (ha.cons hq3 ha.nil))
noncomputable def C10 : Code := W.Code.fst C8
/-- ref.go:13 -/
abbrev S4 (n0 : Int) (out3 : W.Sl) (w : World) (R : W.Post) : Prop :=
  let w1 := w.alloc (.cells #[.int .u8 (IntKind.wrap .u8 (IntKind.wrap .u64 (128 + (Int.tmod n0 128))))] ty_uint8)
  ∃ (t12 : W.Sl) (w2 : World), Sem.run Try.prog (Builtin.append_ #[ty_sl_uint8, ty_sl_uint8] ty_sl_uint8 #[out3.v, .slice (some (Addr.mk w.heap.size 0 none)) 1 1]) w1 = .ok (t12.v) w2 ∧ S5 n0 t12 w2 R
def KE_S4 (E : W.Env) (w : World) (R : W.Post) : Prop := W.asInt .u64 (W.Env.get? E 0) fun n0 => W.asSlice (W.Env.get? E 3) fun out3 => S4 n0 out3 w R
theorem KE_S4_ok (R : W.Post) (E : W.Env) (w : World) (h : KE_S4 E w R) : W.WP Try.prog (W.cx 20) C8 (Q3 R) E w := by
  obtain ⟨n0, hq0, h1⟩ := W.asInt_elim h
  obtain ⟨out3, hq3, h2⟩ := W.asSlice_elim h1
  exact fun a ha => W.WP.at (n := (W.cx 20)) (E := [(0, .int .u64 n0), (3, out3.v)]) (W.WP.seq (c := C8) (x := C10) (y := C9) (by kernel_rfl) <| W.WP.reg (c := C10) (fun E w => KE_S5 E w R) (by kernel_rfl) (Eq.mp (by kernel_rfl) h2) fun _ _ a hA hK => (KE_S5_ok R _ _ hK) a hA) (ha.cons hq0 (ha.cons hq3 ha.nil))
abbrev Q4 (R : W.Post) : Exit → Act → World → Prop := (bodyPost Try.prog Try.f29 R)
noncomputable def C11 : Code := W.Code.fst C6
noncomputable def C12 : Code := W.Code.snd C6
/-- ref.go:16 -/
abbrev S6 (n0 : Int) (out3 : W.Sl) (w : World) (R : W.Post) : Prop :=
  let w1 := w.alloc (.cells #[.int .u8 (IntKind.wrap .u8 n0)] ty_uint8)
  ∃ (t19 : W.Sl) (w2 : World), Sem.run Try.prog (Builtin.append_ #[ty_sl_uint8, ty_sl_uint8] ty_sl_uint8 #[out3.v, .slice (some (Addr.mk w.heap.size 0 none)) 1 1]) w1 = .ok (t19.v) w2 ∧ R (.returned (t19.v)) w2
def KE_S6 (E : W.Env) (w : World) (R : W.Post) : Prop := W.asInt .u64 (W.Env.get? E 0) fun n0 => W.asSlice (W.Env.get? E 3) fun out3 => S6 n0 out3 w R
theorem KE_S6_ok (R : W.Post) (E : W.Env) (w : World) (h : KE_S6 E w R) : W.WP Try.prog (W.cx 20) C6 (Q4 R) E w := by
  obtain ⟨n0, hq0, h1⟩ := W.asInt_elim h
  obtain ⟨out3, hq3, h2⟩ := W.asSlice_elim h1
  exact fun a ha => W.WP.at (n := (W.cx 20)) (E := [(0, .int .u64 n0), (3, out3.v)]) (W.WP.seq (c := C6) (x := C11) (y := C12) (by kernel_rfl) <| W.WP.reg (c := C11) (fun E w => W.retVC Try.prog Try.f29 E w (fun v => R (.returned v) w)) (by kernel_rfl) (Eq.mp (by kernel_rfl) h2) fun _ _ a hA hK => (W.WP.ret (c := C12) (by kernel_rfl) fun a hA => W.retVC_sound hA hK) a hA) (ha.cons hq0 (ha.cons hq3 ha.nil))
noncomputable def C13 : Code := W.Code.fst C5
abbrev Q5 (R : W.Post) : Exit → Act → World → Prop := (Exit.then (W.wpx Try.prog (W.cx 20) C7 (Exit.then (W.LoopWP Try.prog (W.cx 20) C5 (Q1 R)) (Q1 R))) (Exit.then (W.LoopWP Try.prog (W.cx 20) C5 (Q1 R)) (Q1 R)))
noncomputable def C14 : Code := W.Code.fst C13
noncomputable def C15 : Code := W.Code.snd C13
noncomputable def C16 : Code := W.Code.fst C15
noncomputable def C17 : Code := W.Code.snd C15
/-- ref.go:12 -/
abbrev S3 (n0 : Int) (out3 : W.Sl) (w : World) (R : W.Post) : Prop :=
  W.sel (decide (n0 > 127)) (S4 n0 out3 w R) (S6 n0 out3 w R)
def KE_S3 (E : W.Env) (w : World) (R : W.Post) : Prop := W.asInt .u64 (W.Env.get? E 0) fun n0 => W.asSlice (W.Env.get? E 3) fun out3 => S3 n0 out3 w R
theorem KE_S3_ok (R : W.Post) (E : W.Env) (w : World) (h : KE_S3 E w R) : W.WP Try.prog (W.cx 20) C13 (Q5 R) E w := by
  obtain ⟨n0, hq0, h1⟩ := W.asInt_elim h
  obtain ⟨out3, hq3, h2⟩ := W.asSlice_elim h1
  exact fun a ha => W.WP.at (n := (W.cx 20)) (E := [(0, .int .u64 n0), (3, out3.v)]) (W.WP.seq (c := C13) (x := C14) (y := C15) (by kernel_rfl) <| W.WP.reg (c := C14) (fun E w => W.condK (W.Env.val E (.tmp 5)) (KE_S4 E w R) (KE_S6 E w R)) (by kernel_rfl) (Eq.mp (by kernel_rfl) h2) fun _ _ a hA hK => (W.WP.condK (c := C15) (x := C16) (y := C17) (o := .tmp 5) (by kernel_rfl) (fun hK => (W.WP.skip (c := C16) (by kernel_rfl) fun a hA => (W.WP.block (c := C7) (x := C8) (id := 1) (by kernel_rfl) (KE_S4_ok R _ _ hK)) a hA)) (fun hK => (W.WP.exit (c := C17) (id := 0) (by kernel_rfl) fun a hA => (KE_S6_ok R _ _ hK) a hA)) hK) a hA) (ha.cons hq0 (ha.cons hq3 ha.nil))
theorem L2_step (n0 : Int) (out3 : W.Sl) (w : World) (R : W.Post) (h : S3 n0 out3 w R) : L2 n0 out3 w R :=
  W.LP.step (n := (W.cx 20)) (c := C5) (E := [(0, .int .u64 n0), (3, out3.v)]) (w := w) (W.WP.seq (c := C5) (x := C13) (y := C7) (by kernel_rfl) (KE_S3_ok R _ _ (Eq.mp (by kernel_rfl) h)))
noncomputable def C18 : Code := W.Code.fst C1
/-- ref.go:11 -/
abbrev S1 (n0 : Int) (w : World) (R : W.Post) : Prop :=
  L2 n0 ⟨none, 0, 0⟩ w R
def KE_S1 (E : W.Env) (w : World) (R : W.Post) : Prop := W.asInt .u64 (W.Env.get? E 0) fun n0 => S1 n0 w R
theorem KE_S1_ok (R : W.Post) (E : W.Env) (w : World) (h : KE_S1 E w R) : W.WP Try.prog (W.cx 20) C1 (Q4 R) E w := by
  obtain ⟨n0, hq0, h1⟩ := W.asInt_elim h
  exact fun a ha => W.WP.at (n := (W.cx 20)) (E := [(0, .int .u64 n0)]) (W.WP.seq (c := C1) (x := C18) (y := C2) (by kernel_rfl) <| W.WP.reg (c := C18) (fun E w => KE_L2 E w R) (by kernel_rfl) (Eq.mp (by kernel_rfl) h1) fun _ _ a hA hK => (W.WP.seq (c := C2) (x := C3) (y := C6) (by kernel_rfl) (W.WP.block (c := C3) (x := C4) (id := 0) (by kernel_rfl) (W.WP.loop (c := C4) (x := C5) (by kernel_rfl) (KE_L2_ok R _ _ hK)))) a hA) (ha.cons hq0 ha.nil)
noncomputable def C19 : Code := W.Code.fst C0
/-- ref.go:10 -/
abbrev S0 (n0 : Int) (w : World) (R : W.Post) : Prop :=
  S1 n0 w R
def KE_S0 (E : W.Env) (w : World) (R : W.Post) : Prop := W.asInt .u64 (W.Env.get? E 0) fun n0 => S0 n0 w R
theorem KE_S0_ok (R : W.Post) (E : W.Env) (w : World) (h : KE_S0 E w R) : W.WP Try.prog (W.cx 20) C0 (Q4 R) E w := by
  obtain ⟨n0, hq0, h1⟩ := W.asInt_elim h
  exact fun a ha => W.WP.at (n := (W.cx 20)) (E := [(0, .int .u64 n0)]) (W.WP.seq (c := C0) (x := C19) (y := C1) (by kernel_rfl) <| W.WP.reg (c := C19) (fun E w => KE_S1 E w R) (by kernel_rfl) (Eq.mp (by kernel_rfl) h1) fun _ _ a hA hK => (KE_S1_ok R _ _ hK) a hA) (ha.cons hq0 ha.nil)
/-- enthymeme/enthymemeref02.Uint -/
theorem ok (n0 : Int) (w : World) (R : W.Post) (h : S0 n0 w R) : Calls Try.prog n_enthymemeref02_Uint #[.int .u64 n0] w R :=
  W.calls_of_WP' (fn := Try.f29) (c := C0) (args := [.int .u64 n0]) (by kernel_rfl) (by kernel_rfl) (by kernel_rfl) (KE_S0_ok R _ _ (Eq.mp (by kernel_rfl) h))
end enthymemeref02_Uint
namespace enthymemeref02_Zigzag
noncomputable def C0 : Code := (Try.f55.body).getD .skip
noncomputable def C1 : Code := W.Code.snd C0
noncomputable def C2 : Code := W.Code.fst C1
noncomputable def C3 : Code := W.Code.snd C2
noncomputable def C4 : Code := W.Code.fst C3
noncomputable def C5 : Code := W.Code.snd C1
abbrev Q0 (R : W.Post) : Exit → Act → World → Prop := (Exit.then (W.wpx Try.prog (W.cx 14) C5 (bodyPost Try.prog Try.f55 R)) (bodyPost Try.prog Try.f55 R))
noncomputable def C6 : Code := W.Code.fst C4
noncomputable def C7 : Code := W.Code.snd C4
/-- ref.go:22 -/
abbrev S2 (n0 : Int) (w : World) (R : W.Post) : Prop :=
  R (.returned (.int .u64 (IntKind.wrap .u64 ((IntKind.wrap .u64 (2 * (IntKind.wrap .u64 (IntKind.wrap .i64 (0 - (IntKind.wrap .i64 (n0 + 1))))))) + 1)))) w
def KE_S2 (E : W.Env) (w : World) (R : W.Post) : Prop := W.asInt .i64 (W.Env.get? E 0) fun n0 => S2 n0 w R
theorem KE_S2_ok (R : W.Post) (E : W.Env) (w : World) (h : KE_S2 E w R) : W.WP Try.prog (W.cx 14) C4 (Q0 R) E w := by
  obtain ⟨n0, hq0, h1⟩ := W.asInt_elim h
  exact fun a ha => W.WP.at (n := (W.cx 14)) (E := [(0, .int .i64 n0)]) (W.WP.seq (c := C4) (x := C6) (y := C7) (by kernel_rfl) <| W.WP.reg (c := C6) (fun E w => W.retVC Try.prog Try.f55 E w (fun v => R (.returned v) w)) (by kernel_rfl) (Eq.mp (by kernel_rfl) h1) fun _ _ a hA hK => (W.WP.ret (c := C7) (by kernel_rfl) fun a hA => W.retVC_sound hA hK) a hA) (ha.cons hq0 ha.nil)
abbrev Q1 (R : W.Post) : Exit → Act → World → Prop := (bodyPost Try.prog Try.f55 R)
noncomputable def C8 : Code := W.Code.fst C5
noncomputable def C9 : Code := W.Code.snd C5
/-- ref.go:24 -/
abbrev S3 (n0 : Int) (w : World) (R : W.Post) : Prop :=
  R (.returned (.int .u64 (IntKind.wrap .u64 (2 * (IntKind.wrap .u64 n0))))) w
def KE_S3 (E : W.Env) (w : World) (R : W.Post) : Prop := W.asInt .i64 (W.Env.get? E 0) fun n0 => S3 n0 w R
theorem KE_S3_ok (R : W.Post) (E : W.Env) (w : World) (h : KE_S3 E w R) : W.WP Try.prog (W.cx 14) C5 (Q1 R) E w := by
  obtain ⟨n0, hq0, h1⟩ := W.asInt_elim h
  exact fun a ha => W.WP.at (n := (W.cx 14)) (E := [(0, .int .i64 n0)]) (W.WP.seq (c := C5) (x := C8) (y := C9) (by kernel_rfl) <| W.WP.reg (c := C8) (fun E w => W.retVC Try.prog Try.f55 E w (fun v => R (.returned v) w)) (by kernel_rfl) (Eq.mp (by kernel_rfl) h1) fun _ _ a hA hK => (W.WP.ret (c := C9) (by kernel_rfl) fun a hA => W.retVC_sound hA hK) a hA) (ha.cons hq0 ha.nil)
noncomputable def C10 : Code := W.Code.fst C2
noncomputable def C11 : Code := W.Code.snd C3
/-- ref.go:21 -/
abbrev S1 (n0 : Int) (w : World) (R : W.Post) : Prop :=
  W.sel (decide (n0 < 0)) (S2 n0 w R) (S3 n0 w R)
def KE_S1 (E : W.Env) (w : World) (R : W.Post) : Prop := W.asInt .i64 (W.Env.get? E 0) fun n0 => S1 n0 w R
theorem KE_S1_ok (R : W.Post) (E : W.Env) (w : World) (h : KE_S1 E w R) : W.WP Try.prog (W.cx 14) C2 (Q0 R) E w := by
  obtain ⟨n0, hq0, h1⟩ := W.asInt_elim h
  exact fun a ha => W.WP.at (n := (W.cx 14)) (E := [(0, .int .i64 n0)]) (W.WP.seq (c := C2) (x := C10) (y := C3) (by kernel_rfl) <| W.WP.reg (c := C10) (fun E w => W.condK (W.Env.val E (.tmp 4)) (KE_S2 E w R) (KE_S3 E w R)) (by kernel_rfl) (Eq.mp (by kernel_rfl) h1) fun _ _ a hA hK => (W.WP.condK (c := C3) (x := C4) (y := C11) (o := .tmp 4) (by kernel_rfl) (fun hK => (KE_S2_ok R _ _ hK)) (fun hK => (W.WP.skip (c := C11) (by kernel_rfl) fun a hA => (KE_S3_ok R _ _ hK) a hA)) hK) a hA) (ha.cons hq0 ha.nil)
noncomputable def C12 : Code := W.Code.fst C0
/-- ref.go:20 -/
abbrev S0 (n0 : Int) (w : World) (R : W.Post) : Prop :=
  S1 n0 w R
def KE_S0 (E : W.Env) (w : World) (R : W.Post) : Prop := W.asInt .i64 (W.Env.get? E 0) fun n0 => S0 n0 w R
theorem KE_S0_ok (R : W.Post) (E : W.Env) (w : World) (h : KE_S0 E w R) : W.WP Try.prog (W.cx 14) C0 (Q1 R) E w := by
  obtain ⟨n0, hq0, h1⟩ := W.asInt_elim h
  exact fun a ha => W.WP.at (n := (W.cx 14)) (E := [(0, .int .i64 n0)]) (W.WP.seq (c := C0) (x := C12) (y := C1) (by kernel_rfl) <| W.WP.reg (c := C12) (fun E w => KE_S1 E w R) (by kernel_rfl) (Eq.mp (by kernel_rfl) h1) fun _ _ a hA hK => (W.WP.seq (c := C1) (x := C2) (y := C5) (by kernel_rfl) (KE_S1_ok R _ _ hK)) a hA) (ha.cons hq0 ha.nil)
/-- enthymeme/enthymemeref02.Zigzag -/
theorem ok (n0 : Int) (w : World) (R : W.Post) (h : S0 n0 w R) : Calls Try.prog n_enthymemeref02_Zigzag #[.int .i64 n0] w R :=
  W.calls_of_WP' (fn := Try.f55) (c := C0) (args := [.int .i64 n0]) (by kernel_rfl) (by kernel_rfl) (by kernel_rfl) (KE_S0_ok R _ _ (Eq.mp (by kernel_rfl) h))
end enthymemeref02_Zigzag
namespace enthymemeref02_Back
noncomputable def C0 : Code := (Try.f50.body).getD .skip
noncomputable def C1 : Code := W.Code.snd C0
noncomputable def C2 : Code := W.Code.fst C1
noncomputable def C3 : Code := W.Code.snd C2
noncomputable def C4 : Code := W.Code.fst C3
noncomputable def C5 : Code := W.Code.snd C1
abbrev Q0 (R : W.Post) : Exit → Act → World → Prop := (Exit.then (W.wpx Try.prog (W.cx 14) C5 (bodyPost Try.prog Try.f50 R)) (bodyPost Try.prog Try.f50 R))
noncomputable def C6 : Code := W.Code.fst C4
noncomputable def C7 : Code := W.Code.snd C4
/-- ref.go:30 -/
abbrev S2 (z0 : Int) (w : World) (R : W.Post) : Prop :=
  R (.returned (.int .i64 (IntKind.wrap .i64 ((IntKind.wrap .i64 (0 - (IntKind.wrap .i64 (IntKind.wrap .u64 (Int.tdiv z0 2))))) - 1)))) w
def KE_S2 (E : W.Env) (w : World) (R : W.Post) : Prop := W.asInt .u64 (W.Env.get? E 0) fun z0 => S2 z0 w R
theorem KE_S2_ok (R : W.Post) (E : W.Env) (w : World) (h : KE_S2 E w R) : W.WP Try.prog (W.cx 14) C4 (Q0 R) E w := by
  obtain ⟨z0, hq0, h1⟩ := W.asInt_elim h
  exact fun a ha => W.WP.at (n := (W.cx 14)) (E := [(0, .int .u64 z0)]) (W.WP.seq (c := C4) (x := C6) (y := C7) (by kernel_rfl) <| W.WP.reg (c := C6) (fun E w => W.retVC Try.prog Try.f50 E w (fun v => R (.returned v) w)) (by kernel_rfl) (Eq.mp (by kernel_rfl) h1) fun _ _ a hA hK => (W.WP.ret (c := C7) (by kernel_rfl) fun a hA => W.retVC_sound hA hK) a hA) (ha.cons hq0 ha.nil)
abbrev Q1 (R : W.Post) : Exit → Act → World → Prop := (bodyPost Try.prog Try.f50 R)
noncomputable def C8 : Code := W.Code.fst C5
noncomputable def C9 : Code := W.Code.snd C5
/-- ref.go:32 -/
abbrev S3 (z0 : Int) (w : World) (R : W.Post) : Prop :=
  R (.returned (.int .i64 (IntKind.wrap .i64 (IntKind.wrap .u64 (Int.tdiv z0 2))))) w
def KE_S3 (E : W.Env) (w : World) (R : W.Post) : Prop := W.asInt .u64 (W.Env.get? E 0) fun z0 => S3 z0 w R
theorem KE_S3_ok (R : W.Post) (E : W.Env) (w : World) (h : KE_S3 E w R) : W.WP Try.prog (W.cx 14) C5 (Q1 R) E w := by
  obtain ⟨z0, hq0, h1⟩ := W.asInt_elim h
  exact fun a ha => W.WP.at (n := (W.cx 14)) (E := [(0, .int .u64 z0)]) (W.WP.seq (c := C5) (x := C8) (y := C9) (by kernel_rfl) <| W.WP.reg (c := C8) (fun E w => W.retVC Try.prog Try.f50 E w (fun v => R (.returned v) w)) (by kernel_rfl) (Eq.mp (by kernel_rfl) h1) fun _ _ a hA hK => (W.WP.ret (c := C9) (by kernel_rfl) fun a hA => W.retVC_sound hA hK) a hA) (ha.cons hq0 ha.nil)
noncomputable def C10 : Code := W.Code.fst C2
noncomputable def C11 : Code := W.Code.snd C3
/-- ref.go:29 -/
abbrev S1 (z0 : Int) (w : World) (R : W.Post) : Prop :=
  W.sel ((Int.tmod z0 2) == 1) (S2 z0 w R) (S3 z0 w R)
def KE_S1 (E : W.Env) (w : World) (R : W.Post) : Prop := W.asInt .u64 (W.Env.get? E 0) fun z0 => S1 z0 w R
theorem KE_S1_ok (R : W.Post) (E : W.Env) (w : World) (h : KE_S1 E w R) : W.WP Try.prog (W.cx 14) C2 (Q0 R) E w := by
  obtain ⟨z0, hq0, h1⟩ := W.asInt_elim h
  exact fun a ha => W.WP.at (n := (W.cx 14)) (E := [(0, .int .u64 z0)]) (W.WP.seq (c := C2) (x := C10) (y := C3) (by kernel_rfl) <| W.WP.reg (c := C10) (fun E w => W.condK (W.Env.val E (.tmp 5)) (KE_S2 E w R) (KE_S3 E w R)) (by kernel_rfl) (Eq.mp (by kernel_rfl) h1) fun _ _ a hA hK => (W.WP.condK (c := C3) (x := C4) (y := C11) (o := .tmp 5) (by kernel_rfl) (fun hK => (KE_S2_ok R _ _ hK)) (fun hK => (W.WP.skip (c := C11) (by kernel_rfl) fun a hA => (KE_S3_ok R _ _ hK) a hA)) hK) a hA) (ha.cons hq0 ha.nil)
noncomputable def C12 : Code := W.Code.fst C0
/-- ref.go:28 -/
abbrev S0 (z0 : Int) (w : World) (R : W.Post) : Prop :=
  S1 z0 w R
def KE_S0 (E : W.Env) (w : World) (R : W.Post) : Prop := W.asInt .u64 (W.Env.get? E 0) fun z0 => S0 z0 w R
theorem KE_S0_ok (R : W.Post) (E : W.Env) (w : World) (h : KE_S0 E w R) : W.WP Try.prog (W.cx 14) C0 (Q1 R) E w := by
  obtain ⟨z0, hq0, h1⟩ := W.asInt_elim h
  exact fun a ha => W.WP.at (n := (W.cx 14)) (E := [(0, .int .u64 z0)]) (W.WP.seq (c := C0) (x := C12) (y := C1) (by kernel_rfl) <| W.WP.reg (c := C12) (fun E w => KE_S1 E w R) (by kernel_rfl) (Eq.mp (by kernel_rfl) h1) fun _ _ a hA hK => (W.WP.seq (c := C1) (x := C2) (y := C5) (by kernel_rfl) (KE_S1_ok R _ _ hK)) a hA) (ha.cons hq0 ha.nil)
/-- enthymeme/enthymemeref02.Back -/
theorem ok (z0 : Int) (w : World) (R : W.Post) (h : S0 z0 w R) : Calls Try.prog n_enthymemeref02_Back #[.int .u64 z0] w R :=
  W.calls_of_WP' (fn := Try.f50) (c := C0) (args := [.int .u64 z0]) (by kernel_rfl) (by kernel_rfl) (by kernel_rfl) (KE_S0_ok R _ _ (Eq.mp (by kernel_rfl) h))
end enthymemeref02_Back
namespace enthymemeref02_Int
noncomputable def C0 : Code := (Try.f46.body).getD .skip
noncomputable def C1 : Code := W.Code.snd C0
abbrev Q0 (R : W.Post) : Exit → Act → World → Prop := (bodyPost Try.prog Try.f46 R)
noncomputable def C2 : Code := W.Code.fst C1
noncomputable def C3 : Code := W.Code.snd C1
/-- ref.go:36 -/
abbrev S1 (n0 : Int) (w : World) (R : W.Post) : Prop :=
  Calls Try.prog n_enthymemeref02_Zigzag #[.int .i64 n0] w fun r_ w1 => ∃ t4 : Int, r_ = .returned (.int .u64 t4) ∧ 
  Calls Try.prog n_enthymemeref02_Uint #[.int .u64 t4] w1 fun r_ w2 => ∃ t5 : W.Sl, r_ = .returned (t5.v) ∧ 
  R (.returned (t5.v)) w2
def KE_S1 (E : W.Env) (w : World) (R : W.Post) : Prop := W.asInt .i64 (W.Env.get? E 0) fun n0 => S1 n0 w R
theorem KE_S1_ok (R : W.Post) (E : W.Env) (w : World) (h : KE_S1 E w R) : W.WP Try.prog (W.cx 6) C1 (Q0 R) E w := by
  obtain ⟨n0, hq0, h1⟩ := W.asInt_elim h
  exact fun a ha => W.WP.at (n := (W.cx 6)) (E := [(0, .int .i64 n0)]) (W.WP.seq (c := C1) (x := C2) (y := C3) (by kernel_rfl) <| W.WP.reg (c := C2) (fun E w => W.retVC Try.prog Try.f46 E w (fun v => R (.returned v) w)) (by kernel_rfl) (Eq.mp (by kernel_rfl) h1) fun _ _ a hA hK => (W.WP.ret (c := C3) (by kernel_rfl) fun a hA => W.retVC_sound hA hK) a hA) (ha.cons hq0 ha.nil)
noncomputable def C4 : Code := W.Code.fst C0
/-- ref.go:36 -/
abbrev S0 (n0 : Int) (w : World) (R : W.Post) : Prop :=
  S1 n0 w R
def KE_S0 (E : W.Env) (w : World) (R : W.Post) : Prop := W.asInt .i64 (W.Env.get? E 0) fun n0 => S0 n0 w R
theorem KE_S0_ok (R : W.Post) (E : W.Env) (w : World) (h : KE_S0 E w R) : W.WP Try.prog (W.cx 6) C0 (Q0 R) E w := by
  obtain ⟨n0, hq0, h1⟩ := W.asInt_elim h
  exact fun a ha => W.WP.at (n := (W.cx 6)) (E := [(0, .int .i64 n0)]) (W.WP.seq (c := C0) (x := C4) (y := C1) (by kernel_rfl) <| W.WP.reg (c := C4) (fun E w => KE_S1 E w R) (by kernel_rfl) (Eq.mp (by kernel_rfl) h1) fun _ _ a hA hK => (KE_S1_ok R _ _ hK) a hA) (ha.cons hq0 ha.nil)
/-- enthymeme/enthymemeref02.Int -/
theorem ok (n0 : Int) (w : World) (R : W.Post) (h : S0 n0 w R) : Calls Try.prog n_enthymemeref02_Int #[.int .i64 n0] w R :=
  W.calls_of_WP' (fn := Try.f46) (c := C0) (args := [.int .i64 n0]) (by kernel_rfl) (by kernel_rfl) (by kernel_rfl) (KE_S0_ok R _ _ (Eq.mp (by kernel_rfl) h))
end enthymemeref02_Int
namespace enthymemeref02_Raw
noncomputable def C0 : Code := (Try.f28.body).getD .skip
noncomputable def C1 : Code := W.Code.snd C0
abbrev Q0 (R : W.Post) : Exit → Act → World → Prop := (bodyPost Try.prog Try.f28 R)
noncomputable def C2 : Code := W.Code.fst C1
noncomputable def C3 : Code := W.Code.snd C1
/-- ref.go:47 -/
abbrev S1 (b0 : W.Sl) (w : World) (R : W.Post) : Prop :=
  Calls Try.prog n_enthymemeref02_Uint #[.int .u64 (IntKind.wrap .u64 ((b0.n : Nat) : Int))] w fun r_ w1 => ∃ t6 : W.Sl, r_ = .returned (t6.v) ∧ 
  ∃ (t8 : W.Sl) (w2 : World), Sem.run Try.prog (Builtin.append_ #[ty_sl_uint8, ty_sl_uint8] ty_sl_uint8 #[t6.v, b0.v]) w1 = .ok (t8.v) w2 ∧ R (.returned (t8.v)) w2
def KE_S1 (E : W.Env) (w : World) (R : W.Post) : Prop := W.asSlice (W.Env.get? E 0) fun b0 => S1 b0 w R
theorem KE_S1_ok (R : W.Post) (E : W.Env) (w : World) (h : KE_S1 E w R) : W.WP Try.prog (W.cx 9) C1 (Q0 R) E w := by
  obtain ⟨b0, hq0, h1⟩ := W.asSlice_elim h
  exact fun a ha => W.WP.at (n := (W.cx 9)) (E := [(0, b0.v)]) (W.WP.seq (c := C1) (x := C2) (y := C3) (by kernel_rfl) <| W.WP.reg (c := C2) (fun E w => W.retVC Try.prog Try.f28 E w (fun v => R (.returned v) w)) (by kernel_rfl) (Eq.mp (by kernel_rfl) h1) fun _ _ a hA hK => (W.WP.ret (c := C3) (by kernel_rfl) fun a hA => W.retVC_sound hA hK) a hA) (ha.cons hq0 ha.nil)
noncomputable def C4 : Code := W.Code.fst C0
/-- ref.go:47 -/
abbrev S0 (b0 : W.Sl) (w : World) (R : W.Post) : Prop :=
  S1 b0 w R
def KE_S0 (E : W.Env) (w : World) (R : W.Post) : Prop := W.asSlice (W.Env.get? E 0) fun b0 => S0 b0 w R
theorem KE_S0_ok (R : W.Post) (E : W.Env) (w : World) (h : KE_S0 E w R) : W.WP Try.prog (W.cx 9) C0 (Q0 R) E w := by
  obtain ⟨b0, hq0, h1⟩ := W.asSlice_elim h
  exact fun a ha => W.WP.at (n := (W.cx 9)) (E := [(0, b0.v)]) (W.WP.seq (c := C0) (x := C4) (y := C1) (by kernel_rfl) <| W.WP.reg (c := C4) (fun E w => KE_S1 E w R) (by kernel_rfl) (Eq.mp (by kernel_rfl) h1) fun _ _ a hA hK => (KE_S1_ok R _ _ hK) a hA) (ha.cons hq0 ha.nil)
/-- enthymeme/enthymemeref02.Raw -/
theorem ok (b0 : W.Sl) (w : World) (R : W.Post) (h : S0 b0 w R) : Calls Try.prog n_enthymemeref02_Raw #[b0.v] w R :=
  W.calls_of_WP' (fn := Try.f28) (c := C0) (args := [b0.v]) (by kernel_rfl) (by kernel_rfl) (by kernel_rfl) (KE_S0_ok R _ _ (Eq.mp (by kernel_rfl) h))
end enthymemeref02_Raw
end Go.Proofs.Ytpfomlenbhocpaa

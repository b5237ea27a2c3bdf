/- Printed by a program of ours (vcgen.py) from the dump: the conditions of the functions, and that they suffice. -/
import Derived.Test.YtjmnpdacalbpkaaV
set_option linter.unusedVariables false
set_option maxRecDepth 100000
namespace Go.Proofs.Ytjmnpdacalbpkaa
open Go
namespace enthymemeref02_Uint
noncomputable def C0 : Code := (Try.f46.body).getD .skip
noncomputable def C1 : Code := W.Code.snd C0
noncomputable def C2 : Code := W.Code.snd C1
noncomputable def C3 : Code := W.Code.fst C2
noncomputable def C4 : Code := W.Code.fst C3
noncomputable def C5 : Code := W.Code.fst C4
noncomputable def C6 : Code := W.Code.snd C2
abbrev Q0 (R : W.Post) : Exit → Act → World → Prop := (Exit.then (Code.wp Try.prog C6 (bodyPost Try.prog Try.f46 R)) (bodyPost Try.prog Try.f46 R))
abbrev Q1 (R : W.Post) : Exit → Act → World → Prop := (Exit.inBlock 0 (Q0 R))
/-- the head of the loop, ref.go:12 -/
def L2 (n0 : Int) (out3 : W.Sl) (w : World) (R : W.Post) : Prop := W.LP Try.prog 20 C5 (Q1 R) [(0, .int .u64 n0), (3, out3.v)] w
def KE_L2 (E : W.Env) (w : World) (R : W.Post) : Prop := W.asInt .u64 (W.Env.get? E 0) fun n0 => W.asSlice (W.Env.get? E 3) fun out3 => L2 n0 out3 w R
theorem KE_L2_ok (R : W.Post) (E : W.Env) (w : World) (h : KE_L2 E w R) : W.LP Try.prog 20 C5 (Q1 R) E w := by
  obtain ⟨n0, hq0, h1⟩ := W.asInt_elim h
  obtain ⟨out3, hq3, h2⟩ := W.asSlice_elim h1
  intro a ha
  exact h2 a (ha.cons hq0 (ha.cons hq3 ha.nil))
noncomputable def C7 : Code := W.Code.snd C5
noncomputable def C8 : Code := W.Code.fst C7
noncomputable def C9 : Code := W.Code.snd C8
abbrev Q2 (R : W.Post) : Exit → Act → World → Prop := (Exit.then (W.LoopWP Try.prog C5 (Q1 R)) (Q1 R))
abbrev Q3 (R : W.Post) : Exit → Act → World → Prop := (Exit.inBlock 1 (Q2 R))
/-- ref.go:14 -/
abbrev S5 (n0 : Int) (out3 : W.Sl) (w : World) (R : W.Post) : Prop :=
  L2 (IntKind.wrap .u64 (Int.tdiv n0 128)) out3 w R
def KE_S5 (E : W.Env) (w : World) (R : W.Post) : Prop := W.asInt .u64 (W.Env.get? E 0) fun n0 => W.asSlice (W.Env.get? E 3) fun out3 => S5 n0 out3 w R
theorem KE_S5_ok (R : W.Post) (E : W.Env) (w : World) (h : KE_S5 E w R) : W.WP Try.prog 20 C9 (Q3 R) E w := by
  obtain ⟨n0, hq0, h1⟩ := W.asInt_elim h
  obtain ⟨out3, hq3, h2⟩ := W.asSlice_elim h1
  exact fun a ha => W.WP.at (E := [(0, .int .u64 n0), (3, out3.v)]) (W.WP.reg (c := C9) (fun E w => KE_L2 E w R) (by kernel_rfl) (Eq.mp (by kernel_rfl) h2) fun _ _ a hA hK => KE_L2_ok R _ _ hK a hA) (ha.cons hq0 (ha.cons hq3 ha.nil))
noncomputable def C10 : Code := W.Code.fst C8
/-- ref.go:13 -/
abbrev S4 (n0 : Int) (out3 : W.Sl) (w : World) (R : W.Post) : Prop :=
  let w1 := w.alloc (.cells #[.int .u8 (IntKind.wrap .u8 (IntKind.wrap .u64 (128 + (Int.tmod n0 128))))] ty_uint8)
  ∃ (t12 : W.Sl) (w2 : World), Sem.run Try.prog (Builtin.append_ #[ty_sl_uint8, ty_sl_uint8] ty_sl_uint8 #[out3.v, .slice (some (Addr.mk w.heap.size 0 none)) 1 1]) w1 = .ok (t12.v) w2 ∧ S5 n0 t12 w2 R
def KE_S4 (E : W.Env) (w : World) (R : W.Post) : Prop := W.asInt .u64 (W.Env.get? E 0) fun n0 => W.asSlice (W.Env.get? E 3) fun out3 => S4 n0 out3 w R
theorem KE_S4_ok (R : W.Post) (E : W.Env) (w : World) (h : KE_S4 E w R) : W.WP Try.prog 20 C8 (Q3 R) E w := by
  obtain ⟨n0, hq0, h1⟩ := W.asInt_elim h
  obtain ⟨out3, hq3, h2⟩ := W.asSlice_elim h1
  exact fun a ha => W.WP.at (E := [(0, .int .u64 n0), (3, out3.v)]) (W.WP.seq (c := C8) (x := C10) (y := C9) (by kernel_rfl) <| W.WP.reg (c := C10) (fun E w => KE_S5 E w R) (by kernel_rfl) (Eq.mp (by kernel_rfl) h2) fun _ _ a hA hK => (KE_S5_ok R _ _ hK) a hA) (ha.cons hq0 (ha.cons hq3 ha.nil))
abbrev Q4 (R : W.Post) : Exit → Act → World → Prop := (bodyPost Try.prog Try.f46 R)
noncomputable def C11 : Code := W.Code.fst C6
noncomputable def C12 : Code := W.Code.snd C6
/-- ref.go:16 -/
abbrev S6 (n0 : Int) (out3 : W.Sl) (w : World) (R : W.Post) : Prop :=
  let w1 := w.alloc (.cells #[.int .u8 (IntKind.wrap .u8 n0)] ty_uint8)
  ∃ (t19 : W.Sl) (w2 : World), Sem.run Try.prog (Builtin.append_ #[ty_sl_uint8, ty_sl_uint8] ty_sl_uint8 #[out3.v, .slice (some (Addr.mk w.heap.size 0 none)) 1 1]) w1 = .ok (t19.v) w2 ∧ R (.returned (t19.v)) w2
def KE_S6 (E : W.Env) (w : World) (R : W.Post) : Prop := W.asInt .u64 (W.Env.get? E 0) fun n0 => W.asSlice (W.Env.get? E 3) fun out3 => S6 n0 out3 w R
theorem KE_S6_ok (R : W.Post) (E : W.Env) (w : World) (h : KE_S6 E w R) : W.WP Try.prog 20 C6 (Q4 R) E w := by
  obtain ⟨n0, hq0, h1⟩ := W.asInt_elim h
  obtain ⟨out3, hq3, h2⟩ := W.asSlice_elim h1
  exact fun a ha => W.WP.at (E := [(0, .int .u64 n0), (3, out3.v)]) (W.WP.seq (c := C6) (x := C11) (y := C12) (by kernel_rfl) <| W.WP.reg (c := C11) (fun E w => W.retVC Try.prog Try.f46 E w (fun v => R (.returned v) w)) (by kernel_rfl) (Eq.mp (by kernel_rfl) h2) fun _ _ a hA hK => (W.WP.ret (c := C12) (by kernel_rfl) fun a hA => W.retVC_sound hA hK) a hA) (ha.cons hq0 (ha.cons hq3 ha.nil))
noncomputable def C13 : Code := W.Code.fst C5
abbrev Q5 (R : W.Post) : Exit → Act → World → Prop := (Exit.then (Code.wp Try.prog C7 (Exit.then (W.LoopWP Try.prog C5 (Q1 R)) (Q1 R))) (Exit.then (W.LoopWP Try.prog C5 (Q1 R)) (Q1 R)))
noncomputable def C14 : Code := W.Code.fst C13
noncomputable def C15 : Code := W.Code.snd C13
noncomputable def C16 : Code := W.Code.fst C15
noncomputable def C17 : Code := W.Code.snd C15
/-- ref.go:12 -/
abbrev S3 (n0 : Int) (out3 : W.Sl) (w : World) (R : W.Post) : Prop :=
  W.sel (decide (n0 > 127)) (S4 n0 out3 w R) (S6 n0 out3 w R)
def KE_S3 (E : W.Env) (w : World) (R : W.Post) : Prop := W.asInt .u64 (W.Env.get? E 0) fun n0 => W.asSlice (W.Env.get? E 3) fun out3 => S3 n0 out3 w R
theorem KE_S3_ok (R : W.Post) (E : W.Env) (w : World) (h : KE_S3 E w R) : W.WP Try.prog 20 C13 (Q5 R) E w := by
  obtain ⟨n0, hq0, h1⟩ := W.asInt_elim h
  obtain ⟨out3, hq3, h2⟩ := W.asSlice_elim h1
  exact fun a ha => W.WP.at (E := [(0, .int .u64 n0), (3, out3.v)]) (W.WP.seq (c := C13) (x := C14) (y := C15) (by kernel_rfl) <| W.WP.reg (c := C14) (fun E w => W.condK (W.Env.val E (.tmp 5)) (KE_S4 E w R) (KE_S6 E w R)) (by kernel_rfl) (Eq.mp (by kernel_rfl) h2) fun _ _ a hA hK => (W.WP.condK (c := C15) (x := C16) (y := C17) (o := .tmp 5) (by kernel_rfl) (fun hK => (W.WP.skip (c := C16) (by kernel_rfl) fun a hA => (W.WP.block (c := C7) (x := C8) (id := 1) (by kernel_rfl) (KE_S4_ok R _ _ hK)) a hA)) (fun hK => (W.WP.exit (c := C17) (id := 0) (by kernel_rfl) fun a hA => (KE_S6_ok R _ _ hK) a hA)) hK) a hA) (ha.cons hq0 (ha.cons hq3 ha.nil))
theorem L2_step (n0 : Int) (out3 : W.Sl) (w : World) (R : W.Post) (h : S3 n0 out3 w R) : L2 n0 out3 w R :=
  W.LP.step (c := C5) (E := [(0, .int .u64 n0), (3, out3.v)]) (w := w) (W.WP.seq (c := C5) (x := C13) (y := C7) (by kernel_rfl) (KE_S3_ok R _ _ (Eq.mp (by kernel_rfl) h)))
noncomputable def C18 : Code := W.Code.fst C1
/-- ref.go:11 -/
abbrev S1 (n0 : Int) (w : World) (R : W.Post) : Prop :=
  L2 n0 ⟨none, 0, 0⟩ w R
def KE_S1 (E : W.Env) (w : World) (R : W.Post) : Prop := W.asInt .u64 (W.Env.get? E 0) fun n0 => S1 n0 w R
theorem KE_S1_ok (R : W.Post) (E : W.Env) (w : World) (h : KE_S1 E w R) : W.WP Try.prog 20 C1 (Q4 R) E w := by
  obtain ⟨n0, hq0, h1⟩ := W.asInt_elim h
  exact fun a ha => W.WP.at (E := [(0, .int .u64 n0)]) (W.WP.seq (c := C1) (x := C18) (y := C2) (by kernel_rfl) <| W.WP.reg (c := C18) (fun E w => KE_L2 E w R) (by kernel_rfl) (Eq.mp (by kernel_rfl) h1) fun _ _ a hA hK => (W.WP.seq (c := C2) (x := C3) (y := C6) (by kernel_rfl) (W.WP.block (c := C3) (x := C4) (id := 0) (by kernel_rfl) (W.WP.loop (c := C4) (x := C5) (by kernel_rfl) (KE_L2_ok R _ _ hK)))) a hA) (ha.cons hq0 ha.nil)
noncomputable def C19 : Code := W.Code.fst C0
/-- ref.go:10 -/
abbrev S0 (n0 : Int) (w : World) (R : W.Post) : Prop :=
  S1 n0 w R
def KE_S0 (E : W.Env) (w : World) (R : W.Post) : Prop := W.asInt .u64 (W.Env.get? E 0) fun n0 => S0 n0 w R
theorem KE_S0_ok (R : W.Post) (E : W.Env) (w : World) (h : KE_S0 E w R) : W.WP Try.prog 20 C0 (Q4 R) E w := by
  obtain ⟨n0, hq0, h1⟩ := W.asInt_elim h
  exact fun a ha => W.WP.at (E := [(0, .int .u64 n0)]) (W.WP.seq (c := C0) (x := C19) (y := C1) (by kernel_rfl) <| W.WP.reg (c := C19) (fun E w => KE_S1 E w R) (by kernel_rfl) (Eq.mp (by kernel_rfl) h1) fun _ _ a hA hK => (KE_S1_ok R _ _ hK) a hA) (ha.cons hq0 ha.nil)
/-- enthymeme/enthymemeref02.Uint -/
theorem ok (n0 : Int) (w : World) (R : W.Post) (h : S0 n0 w R) : Calls Try.prog n_enthymemeref02_Uint #[.int .u64 n0] w R :=
  W.calls_of_WP' (fn := Try.f46) (c := C0) (args := [.int .u64 n0]) (by kernel_rfl) (by kernel_rfl) (by kernel_rfl) (KE_S0_ok R _ _ (Eq.mp (by kernel_rfl) h))
end enthymemeref02_Uint
namespace enthymemeref02_Zigzag
noncomputable def C0 : Code := (Try.f59.body).getD .skip
noncomputable def C1 : Code := W.Code.snd C0
noncomputable def C2 : Code := W.Code.fst C1
noncomputable def C3 : Code := W.Code.snd C2
noncomputable def C4 : Code := W.Code.fst C3
noncomputable def C5 : Code := W.Code.snd C1
abbrev Q0 (R : W.Post) : Exit → Act → World → Prop := (Exit.then (Code.wp Try.prog C5 (bodyPost Try.prog Try.f59 R)) (bodyPost Try.prog Try.f59 R))
noncomputable def C6 : Code := W.Code.fst C4
noncomputable def C7 : Code := W.Code.snd C4
/-- ref.go:22 -/
abbrev S2 (n0 : Int) (w : World) (R : W.Post) : Prop :=
  R (.returned (.int .u64 (IntKind.wrap .u64 ((IntKind.wrap .u64 (2 * (IntKind.wrap .u64 (IntKind.wrap .i64 (0 - (IntKind.wrap .i64 (n0 + 1))))))) + 1)))) w
def KE_S2 (E : W.Env) (w : World) (R : W.Post) : Prop := W.asInt .i64 (W.Env.get? E 0) fun n0 => S2 n0 w R
theorem KE_S2_ok (R : W.Post) (E : W.Env) (w : World) (h : KE_S2 E w R) : W.WP Try.prog 14 C4 (Q0 R) E w := by
  obtain ⟨n0, hq0, h1⟩ := W.asInt_elim h
  exact fun a ha => W.WP.at (E := [(0, .int .i64 n0)]) (W.WP.seq (c := C4) (x := C6) (y := C7) (by kernel_rfl) <| W.WP.reg (c := C6) (fun E w => W.retVC Try.prog Try.f59 E w (fun v => R (.returned v) w)) (by kernel_rfl) (Eq.mp (by kernel_rfl) h1) fun _ _ a hA hK => (W.WP.ret (c := C7) (by kernel_rfl) fun a hA => W.retVC_sound hA hK) a hA) (ha.cons hq0 ha.nil)
abbrev Q1 (R : W.Post) : Exit → Act → World → Prop := (bodyPost Try.prog Try.f59 R)
noncomputable def C8 : Code := W.Code.fst C5
noncomputable def C9 : Code := W.Code.snd C5
/-- ref.go:24 -/
abbrev S3 (n0 : Int) (w : World) (R : W.Post) : Prop :=
  R (.returned (.int .u64 (IntKind.wrap .u64 (2 * (IntKind.wrap .u64 n0))))) w
def KE_S3 (E : W.Env) (w : World) (R : W.Post) : Prop := W.asInt .i64 (W.Env.get? E 0) fun n0 => S3 n0 w R
theorem KE_S3_ok (R : W.Post) (E : W.Env) (w : World) (h : KE_S3 E w R) : W.WP Try.prog 14 C5 (Q1 R) E w := by
  obtain ⟨n0, hq0, h1⟩ := W.asInt_elim h
  exact fun a ha => W.WP.at (E := [(0, .int .i64 n0)]) (W.WP.seq (c := C5) (x := C8) (y := C9) (by kernel_rfl) <| W.WP.reg (c := C8) (fun E w => W.retVC Try.prog Try.f59 E w (fun v => R (.returned v) w)) (by kernel_rfl) (Eq.mp (by kernel_rfl) h1) fun _ _ a hA hK => (W.WP.ret (c := C9) (by kernel_rfl) fun a hA => W.retVC_sound hA hK) a hA) (ha.cons hq0 ha.nil)
noncomputable def C10 : Code := W.Code.fst C2
noncomputable def C11 : Code := W.Code.snd C3
/-- ref.go:21 -/
abbrev S1 (n0 : Int) (w : World) (R : W.Post) : Prop :=
  W.sel (decide (n0 < 0)) (S2 n0 w R) (S3 n0 w R)
def KE_S1 (E : W.Env) (w : World) (R : W.Post) : Prop := W.asInt .i64 (W.Env.get? E 0) fun n0 => S1 n0 w R
theorem KE_S1_ok (R : W.Post) (E : W.Env) (w : World) (h : KE_S1 E w R) : W.WP Try.prog 14 C2 (Q0 R) E w := by
  obtain ⟨n0, hq0, h1⟩ := W.asInt_elim h
  exact fun a ha => W.WP.at (E := [(0, .int .i64 n0)]) (W.WP.seq (c := C2) (x := C10) (y := C3) (by kernel_rfl) <| W.WP.reg (c := C10) (fun E w => W.condK (W.Env.val E (.tmp 4)) (KE_S2 E w R) (KE_S3 E w R)) (by kernel_rfl) (Eq.mp (by kernel_rfl) h1) fun _ _ a hA hK => (W.WP.condK (c := C3) (x := C4) (y := C11) (o := .tmp 4) (by kernel_rfl) (fun hK => (KE_S2_ok R _ _ hK)) (fun hK => (W.WP.skip (c := C11) (by kernel_rfl) fun a hA => (KE_S3_ok R _ _ hK) a hA)) hK) a hA) (ha.cons hq0 ha.nil)
noncomputable def C12 : Code := W.Code.fst C0
/-- ref.go:20 -/
abbrev S0 (n0 : Int) (w : World) (R : W.Post) : Prop :=
  S1 n0 w R
def KE_S0 (E : W.Env) (w : World) (R : W.Post) : Prop := W.asInt .i64 (W.Env.get? E 0) fun n0 => S0 n0 w R
theorem KE_S0_ok (R : W.Post) (E : W.Env) (w : World) (h : KE_S0 E w R) : W.WP Try.prog 14 C0 (Q1 R) E w := by
  obtain ⟨n0, hq0, h1⟩ := W.asInt_elim h
  exact fun a ha => W.WP.at (E := [(0, .int .i64 n0)]) (W.WP.seq (c := C0) (x := C12) (y := C1) (by kernel_rfl) <| W.WP.reg (c := C12) (fun E w => KE_S1 E w R) (by kernel_rfl) (Eq.mp (by kernel_rfl) h1) fun _ _ a hA hK => (W.WP.seq (c := C1) (x := C2) (y := C5) (by kernel_rfl) (KE_S1_ok R _ _ hK)) a hA) (ha.cons hq0 ha.nil)
/-- enthymeme/enthymemeref02.Zigzag -/
theorem ok (n0 : Int) (w : World) (R : W.Post) (h : S0 n0 w R) : Calls Try.prog n_enthymemeref02_Zigzag #[.int .i64 n0] w R :=
  W.calls_of_WP' (fn := Try.f59) (c := C0) (args := [.int .i64 n0]) (by kernel_rfl) (by kernel_rfl) (by kernel_rfl) (KE_S0_ok R _ _ (Eq.mp (by kernel_rfl) h))
end enthymemeref02_Zigzag
namespace enthymemeref02_Back
noncomputable def C0 : Code := (Try.f60.body).getD .skip
noncomputable def C1 : Code := W.Code.snd C0
noncomputable def C2 : Code := W.Code.fst C1
noncomputable def C3 : Code := W.Code.snd C2
noncomputable def C4 : Code := W.Code.fst C3
noncomputable def C5 : Code := W.Code.snd C1
abbrev Q0 (R : W.Post) : Exit → Act → World → Prop := (Exit.then (Code.wp Try.prog C5 (bodyPost Try.prog Try.f60 R)) (bodyPost Try.prog Try.f60 R))
noncomputable def C6 : Code := W.Code.fst C4
noncomputable def C7 : Code := W.Code.snd C4
/-- ref.go:30 -/
abbrev S2 (z0 : Int) (w : World) (R : W.Post) : Prop :=
  R (.returned (.int .i64 (IntKind.wrap .i64 ((IntKind.wrap .i64 (0 - (IntKind.wrap .i64 (IntKind.wrap .u64 (Int.tdiv z0 2))))) - 1)))) w
def KE_S2 (E : W.Env) (w : World) (R : W.Post) : Prop := W.asInt .u64 (W.Env.get? E 0) fun z0 => S2 z0 w R
theorem KE_S2_ok (R : W.Post) (E : W.Env) (w : World) (h : KE_S2 E w R) : W.WP Try.prog 14 C4 (Q0 R) E w := by
  obtain ⟨z0, hq0, h1⟩ := W.asInt_elim h
  exact fun a ha => W.WP.at (E := [(0, .int .u64 z0)]) (W.WP.seq (c := C4) (x := C6) (y := C7) (by kernel_rfl) <| W.WP.reg (c := C6) (fun E w => W.retVC Try.prog Try.f60 E w (fun v => R (.returned v) w)) (by kernel_rfl) (Eq.mp (by kernel_rfl) h1) fun _ _ a hA hK => (W.WP.ret (c := C7) (by kernel_rfl) fun a hA => W.retVC_sound hA hK) a hA) (ha.cons hq0 ha.nil)
abbrev Q1 (R : W.Post) : Exit → Act → World → Prop := (bodyPost Try.prog Try.f60 R)
noncomputable def C8 : Code := W.Code.fst C5
noncomputable def C9 : Code := W.Code.snd C5
/-- ref.go:32 -/
abbrev S3 (z0 : Int) (w : World) (R : W.Post) : Prop :=
  R (.returned (.int .i64 (IntKind.wrap .i64 (IntKind.wrap .u64 (Int.tdiv z0 2))))) w
def KE_S3 (E : W.Env) (w : World) (R : W.Post) : Prop := W.asInt .u64 (W.Env.get? E 0) fun z0 => S3 z0 w R
theorem KE_S3_ok (R : W.Post) (E : W.Env) (w : World) (h : KE_S3 E w R) : W.WP Try.prog 14 C5 (Q1 R) E w := by
  obtain ⟨z0, hq0, h1⟩ := W.asInt_elim h
  exact fun a ha => W.WP.at (E := [(0, .int .u64 z0)]) (W.WP.seq (c := C5) (x := C8) (y := C9) (by kernel_rfl) <| W.WP.reg (c := C8) (fun E w => W.retVC Try.prog Try.f60 E w (fun v => R (.returned v) w)) (by kernel_rfl) (Eq.mp (by kernel_rfl) h1) fun _ _ a hA hK => (W.WP.ret (c := C9) (by kernel_rfl) fun a hA => W.retVC_sound hA hK) a hA) (ha.cons hq0 ha.nil)
noncomputable def C10 : Code := W.Code.fst C2
noncomputable def C11 : Code := W.Code.snd C3
/-- ref.go:29 -/
abbrev S1 (z0 : Int) (w : World) (R : W.Post) : Prop :=
  W.sel ((Int.tmod z0 2) == 1) (S2 z0 w R) (S3 z0 w R)
def KE_S1 (E : W.Env) (w : World) (R : W.Post) : Prop := W.asInt .u64 (W.Env.get? E 0) fun z0 => S1 z0 w R
theorem KE_S1_ok (R : W.Post) (E : W.Env) (w : World) (h : KE_S1 E w R) : W.WP Try.prog 14 C2 (Q0 R) E w := by
  obtain ⟨z0, hq0, h1⟩ := W.asInt_elim h
  exact fun a ha => W.WP.at (E := [(0, .int .u64 z0)]) (W.WP.seq (c := C2) (x := C10) (y := C3) (by kernel_rfl) <| W.WP.reg (c := C10) (fun E w => W.condK (W.Env.val E (.tmp 5)) (KE_S2 E w R) (KE_S3 E w R)) (by kernel_rfl) (Eq.mp (by kernel_rfl) h1) fun _ _ a hA hK => (W.WP.condK (c := C3) (x := C4) (y := C11) (o := .tmp 5) (by kernel_rfl) (fun hK => (KE_S2_ok R _ _ hK)) (fun hK => (W.WP.skip (c := C11) (by kernel_rfl) fun a hA => (KE_S3_ok R _ _ hK) a hA)) hK) a hA) (ha.cons hq0 ha.nil)
noncomputable def C12 : Code := W.Code.fst C0
/-- ref.go:28 -/
abbrev S0 (z0 : Int) (w : World) (R : W.Post) : Prop :=
  S1 z0 w R
def KE_S0 (E : W.Env) (w : World) (R : W.Post) : Prop := W.asInt .u64 (W.Env.get? E 0) fun z0 => S0 z0 w R
theorem KE_S0_ok (R : W.Post) (E : W.Env) (w : World) (h : KE_S0 E w R) : W.WP Try.prog 14 C0 (Q1 R) E w := by
  obtain ⟨z0, hq0, h1⟩ := W.asInt_elim h
  exact fun a ha => W.WP.at (E := [(0, .int .u64 z0)]) (W.WP.seq (c := C0) (x := C12) (y := C1) (by kernel_rfl) <| W.WP.reg (c := C12) (fun E w => KE_S1 E w R) (by kernel_rfl) (Eq.mp (by kernel_rfl) h1) fun _ _ a hA hK => (W.WP.seq (c := C1) (x := C2) (y := C5) (by kernel_rfl) (KE_S1_ok R _ _ hK)) a hA) (ha.cons hq0 ha.nil)
/-- enthymeme/enthymemeref02.Back -/
theorem ok (z0 : Int) (w : World) (R : W.Post) (h : S0 z0 w R) : Calls Try.prog n_enthymemeref02_Back #[.int .u64 z0] w R :=
  W.calls_of_WP' (fn := Try.f60) (c := C0) (args := [.int .u64 z0]) (by kernel_rfl) (by kernel_rfl) (by kernel_rfl) (KE_S0_ok R _ _ (Eq.mp (by kernel_rfl) h))
end enthymemeref02_Back
namespace enthymemeref02_Int
noncomputable def C0 : Code := (Try.f47.body).getD .skip
noncomputable def C1 : Code := W.Code.snd C0
abbrev Q0 (R : W.Post) : Exit → Act → World → Prop := (bodyPost Try.prog Try.f47 R)
noncomputable def C2 : Code := W.Code.fst C1
noncomputable def C3 : Code := W.Code.snd C1
/-- ref.go:36 -/
abbrev S1 (n0 : Int) (w : World) (R : W.Post) : Prop :=
  Calls Try.prog n_enthymemeref02_Zigzag #[.int .i64 n0] w fun r_ w1 => ∃ t4 : Int, r_ = .returned (.int .u64 t4) ∧ 
  Calls Try.prog n_enthymemeref02_Uint #[.int .u64 t4] w1 fun r_ w2 => ∃ t5 : W.Sl, r_ = .returned (t5.v) ∧ 
  R (.returned (t5.v)) w2
def KE_S1 (E : W.Env) (w : World) (R : W.Post) : Prop := W.asInt .i64 (W.Env.get? E 0) fun n0 => S1 n0 w R
theorem KE_S1_ok (R : W.Post) (E : W.Env) (w : World) (h : KE_S1 E w R) : W.WP Try.prog 6 C1 (Q0 R) E w := by
  obtain ⟨n0, hq0, h1⟩ := W.asInt_elim h
  exact fun a ha => W.WP.at (E := [(0, .int .i64 n0)]) (W.WP.seq (c := C1) (x := C2) (y := C3) (by kernel_rfl) <| W.WP.reg (c := C2) (fun E w => W.retVC Try.prog Try.f47 E w (fun v => R (.returned v) w)) (by kernel_rfl) (Eq.mp (by kernel_rfl) h1) fun _ _ a hA hK => (W.WP.ret (c := C3) (by kernel_rfl) fun a hA => W.retVC_sound hA hK) a hA) (ha.cons hq0 ha.nil)
noncomputable def C4 : Code := W.Code.fst C0
/-- ref.go:36 -/
abbrev S0 (n0 : Int) (w : World) (R : W.Post) : Prop :=
  S1 n0 w R
def KE_S0 (E : W.Env) (w : World) (R : W.Post) : Prop := W.asInt .i64 (W.Env.get? E 0) fun n0 => S0 n0 w R
theorem KE_S0_ok (R : W.Post) (E : W.Env) (w : World) (h : KE_S0 E w R) : W.WP Try.prog 6 C0 (Q0 R) E w := by
  obtain ⟨n0, hq0, h1⟩ := W.asInt_elim h
  exact fun a ha => W.WP.at (E := [(0, .int .i64 n0)]) (W.WP.seq (c := C0) (x := C4) (y := C1) (by kernel_rfl) <| W.WP.reg (c := C4) (fun E w => KE_S1 E w R) (by kernel_rfl) (Eq.mp (by kernel_rfl) h1) fun _ _ a hA hK => (KE_S1_ok R _ _ hK) a hA) (ha.cons hq0 ha.nil)
/-- enthymeme/enthymemeref02.Int -/
theorem ok (n0 : Int) (w : World) (R : W.Post) (h : S0 n0 w R) : Calls Try.prog n_enthymemeref02_Int #[.int .i64 n0] w R :=
  W.calls_of_WP' (fn := Try.f47) (c := C0) (args := [.int .i64 n0]) (by kernel_rfl) (by kernel_rfl) (by kernel_rfl) (KE_S0_ok R _ _ (Eq.mp (by kernel_rfl) h))
end enthymemeref02_Int
namespace enthymemeref02_Bool
noncomputable def C0 : Code := (Try.f48.body).getD .skip
noncomputable def C1 : Code := W.Code.snd C0
noncomputable def C2 : Code := W.Code.fst C1
noncomputable def C3 : Code := W.Code.snd C2
noncomputable def C4 : Code := W.Code.fst C3
noncomputable def C5 : Code := W.Code.snd C1
abbrev Q0 (R : W.Post) : Exit → Act → World → Prop := (Exit.then (Code.wp Try.prog C5 (bodyPost Try.prog Try.f48 R)) (bodyPost Try.prog Try.f48 R))
noncomputable def C6 : Code := W.Code.fst C4
noncomputable def C7 : Code := W.Code.snd C4
/-- ref.go:41 -/
abbrev S2  (w : World) (R : W.Post) : Prop :=
  let w1 := w.alloc (.cells #[.int .u8 1] ty_uint8)
  R (.returned (.slice (some (Addr.mk w.heap.size 0 none)) 1 1)) w1
def KE_S2 (E : W.Env) (w : World) (R : W.Post) : Prop := S2  w R
theorem KE_S2_ok (R : W.Post) (E : W.Env) (w : World) (h : KE_S2 E w R) : W.WP Try.prog 6 C4 (Q0 R) E w := by
  exact fun a ha => W.WP.at (E := []) (W.WP.seq (c := C4) (x := C6) (y := C7) (by kernel_rfl) <| W.WP.reg (c := C6) (fun E w => W.retVC Try.prog Try.f48 E w (fun v => R (.returned v) w)) (by kernel_rfl) (Eq.mp (by kernel_rfl) h) fun _ _ a hA hK => (W.WP.ret (c := C7) (by kernel_rfl) fun a hA => W.retVC_sound hA hK) a hA) ha.nil
abbrev Q1 (R : W.Post) : Exit → Act → World → Prop := (bodyPost Try.prog Try.f48 R)
noncomputable def C8 : Code := W.Code.fst C5
noncomputable def C9 : Code := W.Code.snd C5
/-- ref.go:43 -/
abbrev S3  (w : World) (R : W.Post) : Prop :=
  let w1 := w.alloc (.cells #[.int .u8 0] ty_uint8)
  R (.returned (.slice (some (Addr.mk w.heap.size 0 none)) 1 1)) w1
def KE_S3 (E : W.Env) (w : World) (R : W.Post) : Prop := S3  w R
theorem KE_S3_ok (R : W.Post) (E : W.Env) (w : World) (h : KE_S3 E w R) : W.WP Try.prog 6 C5 (Q1 R) E w := by
  exact fun a ha => W.WP.at (E := []) (W.WP.seq (c := C5) (x := C8) (y := C9) (by kernel_rfl) <| W.WP.reg (c := C8) (fun E w => W.retVC Try.prog Try.f48 E w (fun v => R (.returned v) w)) (by kernel_rfl) (Eq.mp (by kernel_rfl) h) fun _ _ a hA hK => (W.WP.ret (c := C9) (by kernel_rfl) fun a hA => W.retVC_sound hA hK) a hA) ha.nil
noncomputable def C10 : Code := W.Code.fst C2
noncomputable def C11 : Code := W.Code.snd C3
/-- ref.go:40 -/
abbrev S1 (b0 : Bool) (w : World) (R : W.Post) : Prop :=
  W.sel b0 (S2  w R) (S3  w R)
def KE_S1 (E : W.Env) (w : World) (R : W.Post) : Prop := W.asBool' (W.Env.get? E 0) fun b0 => S1 b0 w R
theorem KE_S1_ok (R : W.Post) (E : W.Env) (w : World) (h : KE_S1 E w R) : W.WP Try.prog 6 C2 (Q0 R) E w := by
  obtain ⟨b0, hq0, h1⟩ := W.asBool_elim h
  exact fun a ha => W.WP.at (E := [(0, .bool b0)]) (W.WP.seq (c := C2) (x := C10) (y := C3) (by kernel_rfl) <| W.WP.reg (c := C10) (fun E w => W.condK (W.Env.val E (.tmp 3)) (KE_S2 E w R) (KE_S3 E w R)) (by kernel_rfl) (Eq.mp (by kernel_rfl) h1) fun _ _ a hA hK => (W.WP.condK (c := C3) (x := C4) (y := C11) (o := .tmp 3) (by kernel_rfl) (fun hK => (KE_S2_ok R _ _ hK)) (fun hK => (W.WP.skip (c := C11) (by kernel_rfl) fun a hA => (KE_S3_ok R _ _ hK) a hA)) hK) a hA) (ha.cons hq0 ha.nil)
noncomputable def C12 : Code := W.Code.fst C0
/-- ref.go:39 -/
abbrev S0 (b0 : Bool) (w : World) (R : W.Post) : Prop :=
  S1 b0 w R
def KE_S0 (E : W.Env) (w : World) (R : W.Post) : Prop := W.asBool' (W.Env.get? E 0) fun b0 => S0 b0 w R
theorem KE_S0_ok (R : W.Post) (E : W.Env) (w : World) (h : KE_S0 E w R) : W.WP Try.prog 6 C0 (Q1 R) E w := by
  obtain ⟨b0, hq0, h1⟩ := W.asBool_elim h
  exact fun a ha => W.WP.at (E := [(0, .bool b0)]) (W.WP.seq (c := C0) (x := C12) (y := C1) (by kernel_rfl) <| W.WP.reg (c := C12) (fun E w => KE_S1 E w R) (by kernel_rfl) (Eq.mp (by kernel_rfl) h1) fun _ _ a hA hK => (W.WP.seq (c := C1) (x := C2) (y := C5) (by kernel_rfl) (KE_S1_ok R _ _ hK)) a hA) (ha.cons hq0 ha.nil)
/-- enthymeme/enthymemeref02.Bool -/
theorem ok (b0 : Bool) (w : World) (R : W.Post) (h : S0 b0 w R) : Calls Try.prog n_enthymemeref02_Bool #[.bool b0] w R :=
  W.calls_of_WP' (fn := Try.f48) (c := C0) (args := [.bool b0]) (by kernel_rfl) (by kernel_rfl) (by kernel_rfl) (KE_S0_ok R _ _ (Eq.mp (by kernel_rfl) h))
end enthymemeref02_Bool
namespace enthymemeref02_Raw
noncomputable def C0 : Code := (Try.f49.body).getD .skip
noncomputable def C1 : Code := W.Code.snd C0
abbrev Q0 (R : W.Post) : Exit → Act → World → Prop := (bodyPost Try.prog Try.f49 R)
noncomputable def C2 : Code := W.Code.fst C1
noncomputable def C3 : Code := W.Code.snd C1
/-- ref.go:47 -/
abbrev S1 (b0 : W.Sl) (w : World) (R : W.Post) : Prop :=
  Calls Try.prog n_enthymemeref02_Uint #[.int .u64 (IntKind.wrap .u64 ((b0.n : Nat) : Int))] w fun r_ w1 => ∃ t6 : W.Sl, r_ = .returned (t6.v) ∧ 
  ∃ (t8 : W.Sl) (w2 : World), Sem.run Try.prog (Builtin.append_ #[ty_sl_uint8, ty_sl_uint8] ty_sl_uint8 #[t6.v, b0.v]) w1 = .ok (t8.v) w2 ∧ R (.returned (t8.v)) w2
def KE_S1 (E : W.Env) (w : World) (R : W.Post) : Prop := W.asSlice (W.Env.get? E 0) fun b0 => S1 b0 w R
theorem KE_S1_ok (R : W.Post) (E : W.Env) (w : World) (h : KE_S1 E w R) : W.WP Try.prog 9 C1 (Q0 R) E w := by
  obtain ⟨b0, hq0, h1⟩ := W.asSlice_elim h
  exact fun a ha => W.WP.at (E := [(0, b0.v)]) (W.WP.seq (c := C1) (x := C2) (y := C3) (by kernel_rfl) <| W.WP.reg (c := C2) (fun E w => W.retVC Try.prog Try.f49 E w (fun v => R (.returned v) w)) (by kernel_rfl) (Eq.mp (by kernel_rfl) h1) fun _ _ a hA hK => (W.WP.ret (c := C3) (by kernel_rfl) fun a hA => W.retVC_sound hA hK) a hA) (ha.cons hq0 ha.nil)
noncomputable def C4 : Code := W.Code.fst C0
/-- ref.go:47 -/
abbrev S0 (b0 : W.Sl) (w : World) (R : W.Post) : Prop :=
  S1 b0 w R
def KE_S0 (E : W.Env) (w : World) (R : W.Post) : Prop := W.asSlice (W.Env.get? E 0) fun b0 => S0 b0 w R
theorem KE_S0_ok (R : W.Post) (E : W.Env) (w : World) (h : KE_S0 E w R) : W.WP Try.prog 9 C0 (Q0 R) E w := by
  obtain ⟨b0, hq0, h1⟩ := W.asSlice_elim h
  exact fun a ha => W.WP.at (E := [(0, b0.v)]) (W.WP.seq (c := C0) (x := C4) (y := C1) (by kernel_rfl) <| W.WP.reg (c := C4) (fun E w => KE_S1 E w R) (by kernel_rfl) (Eq.mp (by kernel_rfl) h1) fun _ _ a hA hK => (KE_S1_ok R _ _ hK) a hA) (ha.cons hq0 ha.nil)
/-- enthymeme/enthymemeref02.Raw -/
theorem ok (b0 : W.Sl) (w : World) (R : W.Post) (h : S0 b0 w R) : Calls Try.prog n_enthymemeref02_Raw #[b0.v] w R :=
  W.calls_of_WP' (fn := Try.f49) (c := C0) (args := [b0.v]) (by kernel_rfl) (by kernel_rfl) (by kernel_rfl) (KE_S0_ok R _ _ (Eq.mp (by kernel_rfl) h))
end enthymemeref02_Raw
namespace enthymemeref02_Ints
noncomputable def C0 : Code := (Try.f50.body).getD .skip
noncomputable def C1 : Code := W.Code.snd C0
noncomputable def C2 : Code := W.Code.snd C1
noncomputable def C3 : Code := W.Code.fst C2
noncomputable def C4 : Code := W.Code.snd C3
noncomputable def C5 : Code := W.Code.fst C4
noncomputable def C6 : Code := W.Code.fst C5
noncomputable def C7 : Code := W.Code.snd C2
abbrev Q0 (R : W.Post) : Exit → Act → World → Prop := (Exit.then (Code.wp Try.prog C7 (bodyPost Try.prog Try.f50 R)) (bodyPost Try.prog Try.f50 R))
abbrev Q1 (R : W.Post) : Exit → Act → World → Prop := (Exit.inBlock 0 (Q0 R))
/-- the head of the loop, ref.go:52 -/
def L3 (l0 out3 : W.Sl) (i4 : Int) (w : World) (R : W.Post) : Prop := W.LP Try.prog 23 C6 (Q1 R) [(0, l0.v), (3, out3.v), (4, .int .i64 i4)] w
def KE_L3 (E : W.Env) (w : World) (R : W.Post) : Prop := W.asSlice (W.Env.get? E 0) fun l0 => W.asSlice (W.Env.get? E 3) fun out3 => W.asInt .i64 (W.Env.get? E 4) fun i4 => L3 l0 out3 i4 w R
theorem KE_L3_ok (R : W.Post) (E : W.Env) (w : World) (h : KE_L3 E w R) : W.LP Try.prog 23 C6 (Q1 R) E w := by
  obtain ⟨l0, hq0, h1⟩ := W.asSlice_elim h
  obtain ⟨out3, hq3, h2⟩ := W.asSlice_elim h1
  obtain ⟨i4, hq4, h3⟩ := W.asInt_elim h2
  intro a ha
  exact h3 a (ha.cons hq0 (ha.cons hq3 (ha.cons hq4 ha.nil)))
noncomputable def C8 : Code := W.Code.snd C6
noncomputable def C9 : Code := W.Code.snd C8
abbrev Q2 (R : W.Post) : Exit → Act → World → Prop := (Exit.then (W.LoopWP Try.prog C6 (Q1 R)) (Q1 R))
/-- ref.go:52 -/
abbrev S6 (l0 out3 : W.Sl) (i4 : Int) (w : World) (R : W.Post) : Prop :=
  L3 l0 out3 (IntKind.wrap .i64 (i4 + 1)) w R
def KE_S6 (E : W.Env) (w : World) (R : W.Post) : Prop := W.asSlice (W.Env.get? E 0) fun l0 => W.asSlice (W.Env.get? E 3) fun out3 => W.asInt .i64 (W.Env.get? E 4) fun i4 => S6 l0 out3 i4 w R
theorem KE_S6_ok (R : W.Post) (E : W.Env) (w : World) (h : KE_S6 E w R) : W.WP Try.prog 23 C9 (Q2 R) E w := by
  obtain ⟨l0, hq0, h1⟩ := W.asSlice_elim h
  obtain ⟨out3, hq3, h2⟩ := W.asSlice_elim h1
  obtain ⟨i4, hq4, h3⟩ := W.asInt_elim h2
  exact fun a ha => W.WP.at (E := [(0, l0.v), (3, out3.v), (4, .int .i64 i4)]) (W.WP.reg (c := C9) (fun E w => KE_L3 E w R) (by kernel_rfl) (Eq.mp (by kernel_rfl) h3) fun _ _ a hA hK => KE_L3_ok R _ _ hK a hA) (ha.cons hq0 (ha.cons hq3 (ha.cons hq4 ha.nil)))
noncomputable def C10 : Code := W.Code.fst C8
noncomputable def C11 : Code := W.Code.fst C10
abbrev Q3 (R : W.Post) : Exit → Act → World → Prop := (Exit.then (Code.wp Try.prog C9 (Exit.then (W.LoopWP Try.prog C6 (Q1 R)) (Q1 R))) (Exit.then (W.LoopWP Try.prog C6 (Q1 R)) (Q1 R)))
abbrev Q4 (R : W.Post) : Exit → Act → World → Prop := (Exit.inBlock 1 (Q3 R))
/-- ref.go:53 -/
abbrev S5 (l0 out3 : W.Sl) (i4 : Int) (w : World) (R : W.Post) : Prop :=
  (0 : Int) ≤ i4 ∧ i4 < ((l0.n : Nat) : Int) ∧ W.optP l0.a fun t18_p => ∃ t19 : Int, w.cell? (t18_p.add (Int.toNat i4 * 1)) = some (.int .i64 t19) ∧ 
  Calls Try.prog n_enthymemeref02_Int #[.int .i64 t19] w fun r_ w1 => ∃ t20 : W.Sl, r_ = .returned (t20.v) ∧ 
  ∃ (t21 : W.Sl) (w2 : World), Sem.run Try.prog (Builtin.append_ #[ty_sl_uint8, ty_sl_uint8] ty_sl_uint8 #[out3.v, t20.v]) w1 = .ok (t21.v) w2 ∧ S6 l0 t21 i4 w2 R
def KE_S5 (E : W.Env) (w : World) (R : W.Post) : Prop := W.asSlice (W.Env.get? E 0) fun l0 => W.asSlice (W.Env.get? E 3) fun out3 => W.asInt .i64 (W.Env.get? E 4) fun i4 => S5 l0 out3 i4 w R
theorem KE_S5_ok (R : W.Post) (E : W.Env) (w : World) (h : KE_S5 E w R) : W.WP Try.prog 23 C11 (Q4 R) E w := by
  obtain ⟨l0, hq0, h1⟩ := W.asSlice_elim h
  obtain ⟨out3, hq3, h2⟩ := W.asSlice_elim h1
  obtain ⟨i4, hq4, h3⟩ := W.asInt_elim h2
  exact fun a ha => W.WP.at (E := [(0, l0.v), (3, out3.v), (4, .int .i64 i4)]) (W.WP.reg (c := C11) (fun E w => KE_S6 E w R) (by kernel_rfl) (Eq.mp (by kernel_rfl) h3) fun _ _ a hA hK => (KE_S6_ok R _ _ hK) a hA) (ha.cons hq0 (ha.cons hq3 (ha.cons hq4 ha.nil)))
abbrev Q5 (R : W.Post) : Exit → Act → World → Prop := (bodyPost Try.prog Try.f50 R)
noncomputable def C12 : Code := W.Code.fst C7
noncomputable def C13 : Code := W.Code.snd C7
/-- ref.go:55 -/
abbrev S7 (out3 : W.Sl) (w : World) (R : W.Post) : Prop :=
  R (.returned (out3.v)) w
def KE_S7 (E : W.Env) (w : World) (R : W.Post) : Prop := W.asSlice (W.Env.get? E 3) fun out3 => S7 out3 w R
theorem KE_S7_ok (R : W.Post) (E : W.Env) (w : World) (h : KE_S7 E w R) : W.WP Try.prog 23 C7 (Q5 R) E w := by
  obtain ⟨out3, hq3, h1⟩ := W.asSlice_elim h
  exact fun a ha => W.WP.at (E := [(3, out3.v)]) (W.WP.seq (c := C7) (x := C12) (y := C13) (by kernel_rfl) <| W.WP.reg (c := C12) (fun E w => W.retVC Try.prog Try.f50 E w (fun v => R (.returned v) w)) (by kernel_rfl) (Eq.mp (by kernel_rfl) h1) fun _ _ a hA hK => (W.WP.ret (c := C13) (by kernel_rfl) fun a hA => W.retVC_sound hA hK) a hA) (ha.cons hq3 ha.nil)
noncomputable def C14 : Code := W.Code.fst C6
abbrev Q6 (R : W.Post) : Exit → Act → World → Prop := (Exit.then (Code.wp Try.prog C8 (Exit.then (W.LoopWP Try.prog C6 (Q1 R)) (Q1 R))) (Exit.then (W.LoopWP Try.prog C6 (Q1 R)) (Q1 R)))
noncomputable def C15 : Code := W.Code.fst C14
noncomputable def C16 : Code := W.Code.snd C14
noncomputable def C17 : Code := W.Code.fst C16
noncomputable def C18 : Code := W.Code.snd C16
/-- ref.go:52 -/
abbrev S4 (l0 out3 : W.Sl) (i4 : Int) (w : World) (R : W.Post) : Prop :=
  W.sel (decide (i4 < ((l0.n : Nat) : Int))) (S5 l0 out3 i4 w R) (S7 out3 w R)
def KE_S4 (E : W.Env) (w : World) (R : W.Post) : Prop := W.asSlice (W.Env.get? E 0) fun l0 => W.asSlice (W.Env.get? E 3) fun out3 => W.asInt .i64 (W.Env.get? E 4) fun i4 => S4 l0 out3 i4 w R
theorem KE_S4_ok (R : W.Post) (E : W.Env) (w : World) (h : KE_S4 E w R) : W.WP Try.prog 23 C14 (Q6 R) E w := by
  obtain ⟨l0, hq0, h1⟩ := W.asSlice_elim h
  obtain ⟨out3, hq3, h2⟩ := W.asSlice_elim h1
  obtain ⟨i4, hq4, h3⟩ := W.asInt_elim h2
  exact fun a ha => W.WP.at (E := [(0, l0.v), (3, out3.v), (4, .int .i64 i4)]) (W.WP.seq (c := C14) (x := C15) (y := C16) (by kernel_rfl) <| W.WP.reg (c := C15) (fun E w => W.condK (W.Env.val E (.tmp 12)) (KE_S5 E w R) (KE_S7 E w R)) (by kernel_rfl) (Eq.mp (by kernel_rfl) h3) fun _ _ a hA hK => (W.WP.condK (c := C16) (x := C17) (y := C18) (o := .tmp 12) (by kernel_rfl) (fun hK => (W.WP.skip (c := C17) (by kernel_rfl) fun a hA => (W.WP.seq (c := C8) (x := C10) (y := C9) (by kernel_rfl) (W.WP.block (c := C10) (x := C11) (id := 1) (by kernel_rfl) (KE_S5_ok R _ _ hK))) a hA)) (fun hK => (W.WP.exit (c := C18) (id := 0) (by kernel_rfl) fun a hA => (KE_S7_ok R _ _ hK) a hA)) hK) a hA) (ha.cons hq0 (ha.cons hq3 (ha.cons hq4 ha.nil)))
theorem L3_step (l0 out3 : W.Sl) (i4 : Int) (w : World) (R : W.Post) (h : S4 l0 out3 i4 w R) : L3 l0 out3 i4 w R :=
  W.LP.step (c := C6) (E := [(0, l0.v), (3, out3.v), (4, .int .i64 i4)]) (w := w) (W.WP.seq (c := C6) (x := C14) (y := C8) (by kernel_rfl) (KE_S4_ok R _ _ (Eq.mp (by kernel_rfl) h)))
noncomputable def C19 : Code := W.Code.fst C3
/-- ref.go:52 -/
abbrev S2 (l0 out3 : W.Sl) (w : World) (R : W.Post) : Prop :=
  L3 l0 out3 0 w R
def KE_S2 (E : W.Env) (w : World) (R : W.Post) : Prop := W.asSlice (W.Env.get? E 0) fun l0 => W.asSlice (W.Env.get? E 3) fun out3 => S2 l0 out3 w R
theorem KE_S2_ok (R : W.Post) (E : W.Env) (w : World) (h : KE_S2 E w R) : W.WP Try.prog 23 C3 (Q0 R) E w := by
  obtain ⟨l0, hq0, h1⟩ := W.asSlice_elim h
  obtain ⟨out3, hq3, h2⟩ := W.asSlice_elim h1
  exact fun a ha => W.WP.at (E := [(0, l0.v), (3, out3.v)]) (W.WP.seq (c := C3) (x := C19) (y := C4) (by kernel_rfl) <| W.WP.reg (c := C19) (fun E w => KE_L3 E w R) (by kernel_rfl) (Eq.mp (by kernel_rfl) h2) fun _ _ a hA hK => (W.WP.block (c := C4) (x := C5) (id := 0) (by kernel_rfl) (W.WP.loop (c := C5) (x := C6) (by kernel_rfl) (KE_L3_ok R _ _ hK))) a hA) (ha.cons hq0 (ha.cons hq3 ha.nil))
noncomputable def C20 : Code := W.Code.fst C1
/-- ref.go:51 -/
abbrev S1 (l0 : W.Sl) (w : World) (R : W.Post) : Prop :=
  Calls Try.prog n_enthymemeref02_Uint #[.int .u64 (IntKind.wrap .u64 ((l0.n : Nat) : Int))] w fun r_ w1 => ∃ t8 : W.Sl, r_ = .returned (t8.v) ∧ 
  S2 l0 t8 w1 R
def KE_S1 (E : W.Env) (w : World) (R : W.Post) : Prop := W.asSlice (W.Env.get? E 0) fun l0 => S1 l0 w R
theorem KE_S1_ok (R : W.Post) (E : W.Env) (w : World) (h : KE_S1 E w R) : W.WP Try.prog 23 C1 (Q5 R) E w := by
  obtain ⟨l0, hq0, h1⟩ := W.asSlice_elim h
  exact fun a ha => W.WP.at (E := [(0, l0.v)]) (W.WP.seq (c := C1) (x := C20) (y := C2) (by kernel_rfl) <| W.WP.reg (c := C20) (fun E w => KE_S2 E w R) (by kernel_rfl) (Eq.mp (by kernel_rfl) h1) fun _ _ a hA hK => (W.WP.seq (c := C2) (x := C3) (y := C7) (by kernel_rfl) (KE_S2_ok R _ _ hK)) a hA) (ha.cons hq0 ha.nil)
noncomputable def C21 : Code := W.Code.fst C0
/-- ref.go:50 -/
abbrev S0 (l0 : W.Sl) (w : World) (R : W.Post) : Prop :=
  S1 l0 w R
def KE_S0 (E : W.Env) (w : World) (R : W.Post) : Prop := W.asSlice (W.Env.get? E 0) fun l0 => S0 l0 w R
theorem KE_S0_ok (R : W.Post) (E : W.Env) (w : World) (h : KE_S0 E w R) : W.WP Try.prog 23 C0 (Q5 R) E w := by
  obtain ⟨l0, hq0, h1⟩ := W.asSlice_elim h
  exact fun a ha => W.WP.at (E := [(0, l0.v)]) (W.WP.seq (c := C0) (x := C21) (y := C1) (by kernel_rfl) <| W.WP.reg (c := C21) (fun E w => KE_S1 E w R) (by kernel_rfl) (Eq.mp (by kernel_rfl) h1) fun _ _ a hA hK => (KE_S1_ok R _ _ hK) a hA) (ha.cons hq0 ha.nil)
/-- enthymeme/enthymemeref02.Ints -/
theorem ok (l0 : W.Sl) (w : World) (R : W.Post) (h : S0 l0 w R) : Calls Try.prog n_enthymemeref02_Ints #[l0.v] w R :=
  W.calls_of_WP' (fn := Try.f50) (c := C0) (args := [l0.v]) (by kernel_rfl) (by kernel_rfl) (by kernel_rfl) (KE_S0_ok R _ _ (Eq.mp (by kernel_rfl) h))
end enthymemeref02_Ints
namespace enthymemeref02_Encode
noncomputable def C0 : Code := (Try.f30.body).getD .skip
noncomputable def C1 : Code := W.Code.snd C0
noncomputable def C2 : Code := W.Code.snd C1
noncomputable def C3 : Code := W.Code.fst C2
noncomputable def C4 : Code := W.Code.snd C3
noncomputable def C5 : Code := W.Code.fst C4
noncomputable def C6 : Code := W.Code.fst C5
noncomputable def C7 : Code := W.Code.snd C2
abbrev Q0 (R : W.Post) : Exit → Act → World → Prop := (Exit.then (Code.wp Try.prog C7 (bodyPost Try.prog Try.f30 R)) (bodyPost Try.prog Try.f30 R))
abbrev Q1 (R : W.Post) : Exit → Act → World → Prop := (Exit.inBlock 0 (Q0 R))
/-- the head of the loop, ref.go:191 -/
def L3 (l0 out3 : W.Sl) (i4 : Int) (w : World) (R : W.Post) : Prop := W.LP Try.prog 67 C6 (Q1 R) [(0, l0.v), (3, out3.v), (4, .int .i64 i4)] w
def KE_L3 (E : W.Env) (w : World) (R : W.Post) : Prop := W.asSlice (W.Env.get? E 0) fun l0 => W.asSlice (W.Env.get? E 3) fun out3 => W.asInt .i64 (W.Env.get? E 4) fun i4 => L3 l0 out3 i4 w R
theorem KE_L3_ok (R : W.Post) (E : W.Env) (w : World) (h : KE_L3 E w R) : W.LP Try.prog 67 C6 (Q1 R) E w := by
  obtain ⟨l0, hq0, h1⟩ := W.asSlice_elim h
  obtain ⟨out3, hq3, h2⟩ := W.asSlice_elim h1
  obtain ⟨i4, hq4, h3⟩ := W.asInt_elim h2
  intro a ha
  exact h3 a (ha.cons hq0 (ha.cons hq3 (ha.cons hq4 ha.nil)))
noncomputable def C8 : Code := W.Code.snd C6
noncomputable def C9 : Code := W.Code.snd C8
abbrev Q2 (R : W.Post) : Exit → Act → World → Prop := (Exit.then (W.LoopWP Try.prog C6 (Q1 R)) (Q1 R))
/-- ref.go:191 -/
abbrev S8 (l0 out3 : W.Sl) (i4 : Int) (w : World) (R : W.Post) : Prop :=
  L3 l0 out3 (IntKind.wrap .i64 (i4 + 1)) w R
def KE_S8 (E : W.Env) (w : World) (R : W.Post) : Prop := W.asSlice (W.Env.get? E 0) fun l0 => W.asSlice (W.Env.get? E 3) fun out3 => W.asInt .i64 (W.Env.get? E 4) fun i4 => S8 l0 out3 i4 w R
theorem KE_S8_ok (R : W.Post) (E : W.Env) (w : World) (h : KE_S8 E w R) : W.WP Try.prog 67 C9 (Q2 R) E w := by
  obtain ⟨l0, hq0, h1⟩ := W.asSlice_elim h
  obtain ⟨out3, hq3, h2⟩ := W.asSlice_elim h1
  obtain ⟨i4, hq4, h3⟩ := W.asInt_elim h2
  exact fun a ha => W.WP.at (E := [(0, l0.v), (3, out3.v), (4, .int .i64 i4)]) (W.WP.reg (c := C9) (fun E w => KE_L3 E w R) (by kernel_rfl) (Eq.mp (by kernel_rfl) h3) fun _ _ a hA hK => KE_L3_ok R _ _ hK a hA) (ha.cons hq0 (ha.cons hq3 (ha.cons hq4 ha.nil)))
noncomputable def C10 : Code := W.Code.fst C8
noncomputable def C11 : Code := W.Code.fst C10
noncomputable def C12 : Code := W.Code.snd C11
noncomputable def C13 : Code := W.Code.fst C12
noncomputable def C14 : Code := W.Code.snd C13
noncomputable def C15 : Code := W.Code.fst C14
abbrev Q3 (R : W.Post) : Exit → Act → World → Prop := (Exit.then (Code.wp Try.prog C9 (Exit.then (W.LoopWP Try.prog C6 (Q1 R)) (Q1 R))) (Exit.then (W.LoopWP Try.prog C6 (Q1 R)) (Q1 R)))
abbrev Q4 (R : W.Post) : Exit → Act → World → Prop := (Exit.inBlock 1 (Q3 R))
abbrev Q5 (R : W.Post) : Exit → Act → World → Prop := (Exit.inBlock 2 (Q4 R))
/-- ref.go:194 -/
abbrev S7 (l0 out3 : W.Sl) (i4 : Int) (w : World) (R : W.Post) : Prop :=
  (0 : Int) ≤ i4 ∧ i4 < ((l0.n : Nat) : Int) ∧ W.optP l0.a fun t29_p => ∃ t31 : Int, w.cell? ((t29_p.add (Int.toNat i4 * 5)).add 1) = some (.int .u64 t31) ∧ 
  Calls Try.prog n_enthymemeref02_Uint #[.int .u64 t31] w fun r_ w1 => ∃ t32 : W.Sl, r_ = .returned (t32.v) ∧ 
  ∃ (t33 : W.Sl) (w2 : World), Sem.run Try.prog (Builtin.append_ #[ty_sl_uint8, ty_sl_uint8] ty_sl_uint8 #[out3.v, t32.v]) w1 = .ok (t33.v) w2 ∧ S8 l0 t33 i4 w2 R
def KE_S7 (E : W.Env) (w : World) (R : W.Post) : Prop := W.asSlice (W.Env.get? E 0) fun l0 => W.asSlice (W.Env.get? E 3) fun out3 => W.asInt .i64 (W.Env.get? E 4) fun i4 => S7 l0 out3 i4 w R
theorem KE_S7_ok (R : W.Post) (E : W.Env) (w : World) (h : KE_S7 E w R) : W.WP Try.prog 67 C15 (Q5 R) E w := by
  obtain ⟨l0, hq0, h1⟩ := W.asSlice_elim h
  obtain ⟨out3, hq3, h2⟩ := W.asSlice_elim h1
  obtain ⟨i4, hq4, h3⟩ := W.asInt_elim h2
  exact fun a ha => W.WP.at (E := [(0, l0.v), (3, out3.v), (4, .int .i64 i4)]) (W.WP.reg (c := C15) (fun E w => KE_S8 E w R) (by kernel_rfl) (Eq.mp (by kernel_rfl) h3) fun _ _ a hA hK => (KE_S8_ok R _ _ hK) a hA) (ha.cons hq0 (ha.cons hq3 (ha.cons hq4 ha.nil)))
noncomputable def C16 : Code := W.Code.snd C14
noncomputable def C17 : Code := W.Code.snd C16
noncomputable def C18 : Code := W.Code.fst C17
/-- ref.go:196 -/
abbrev S10 (l0 out3 : W.Sl) (i4 : Int) (w : World) (R : W.Post) : Prop :=
  (0 : Int) ≤ i4 ∧ i4 < ((l0.n : Nat) : Int) ∧ W.optP l0.a fun t39_p => ∃ t41 : Int, w.cell? ((t39_p.add (Int.toNat i4 * 5)).add 2) = some (.int .i64 t41) ∧ 
  Calls Try.prog n_enthymemeref02_Int #[.int .i64 t41] w fun r_ w1 => ∃ t42 : W.Sl, r_ = .returned (t42.v) ∧ 
  ∃ (t43 : W.Sl) (w2 : World), Sem.run Try.prog (Builtin.append_ #[ty_sl_uint8, ty_sl_uint8] ty_sl_uint8 #[out3.v, t42.v]) w1 = .ok (t43.v) w2 ∧ S8 l0 t43 i4 w2 R
def KE_S10 (E : W.Env) (w : World) (R : W.Post) : Prop := W.asSlice (W.Env.get? E 0) fun l0 => W.asSlice (W.Env.get? E 3) fun out3 => W.asInt .i64 (W.Env.get? E 4) fun i4 => S10 l0 out3 i4 w R
theorem KE_S10_ok (R : W.Post) (E : W.Env) (w : World) (h : KE_S10 E w R) : W.WP Try.prog 67 C18 (Q5 R) E w := by
  obtain ⟨l0, hq0, h1⟩ := W.asSlice_elim h
  obtain ⟨out3, hq3, h2⟩ := W.asSlice_elim h1
  obtain ⟨i4, hq4, h3⟩ := W.asInt_elim h2
  exact fun a ha => W.WP.at (E := [(0, l0.v), (3, out3.v), (4, .int .i64 i4)]) (W.WP.reg (c := C18) (fun E w => KE_S8 E w R) (by kernel_rfl) (Eq.mp (by kernel_rfl) h3) fun _ _ a hA hK => (KE_S8_ok R _ _ hK) a hA) (ha.cons hq0 (ha.cons hq3 (ha.cons hq4 ha.nil)))
noncomputable def C19 : Code := W.Code.snd C17
noncomputable def C20 : Code := W.Code.snd C19
noncomputable def C21 : Code := W.Code.fst C20
/-- ref.go:198 -/
abbrev S12 (l0 out3 : W.Sl) (i4 : Int) (w : World) (R : W.Post) : Prop :=
  (0 : Int) ≤ i4 ∧ i4 < ((l0.n : Nat) : Int) ∧ W.optP l0.a fun t49_p => ∃ t51 : Int, w.cell? ((t49_p.add (Int.toNat i4 * 5)).add 2) = some (.int .i64 t51) ∧ 
  Calls Try.prog n_enthymemeref02_Bool #[.bool (t51 == 1)] w fun r_ w1 => ∃ t53 : W.Sl, r_ = .returned (t53.v) ∧ 
  ∃ (t54 : W.Sl) (w2 : World), Sem.run Try.prog (Builtin.append_ #[ty_sl_uint8, ty_sl_uint8] ty_sl_uint8 #[out3.v, t53.v]) w1 = .ok (t54.v) w2 ∧ S8 l0 t54 i4 w2 R
def KE_S12 (E : W.Env) (w : World) (R : W.Post) : Prop := W.asSlice (W.Env.get? E 0) fun l0 => W.asSlice (W.Env.get? E 3) fun out3 => W.asInt .i64 (W.Env.get? E 4) fun i4 => S12 l0 out3 i4 w R
theorem KE_S12_ok (R : W.Post) (E : W.Env) (w : World) (h : KE_S12 E w R) : W.WP Try.prog 67 C21 (Q5 R) E w := by
  obtain ⟨l0, hq0, h1⟩ := W.asSlice_elim h
  obtain ⟨out3, hq3, h2⟩ := W.asSlice_elim h1
  obtain ⟨i4, hq4, h3⟩ := W.asInt_elim h2
  exact fun a ha => W.WP.at (E := [(0, l0.v), (3, out3.v), (4, .int .i64 i4)]) (W.WP.reg (c := C21) (fun E w => KE_S8 E w R) (by kernel_rfl) (Eq.mp (by kernel_rfl) h3) fun _ _ a hA hK => (KE_S8_ok R _ _ hK) a hA) (ha.cons hq0 (ha.cons hq3 (ha.cons hq4 ha.nil)))
noncomputable def C22 : Code := W.Code.snd C20
noncomputable def C23 : Code := W.Code.snd C22
noncomputable def C24 : Code := W.Code.fst C23
/-- ref.go:200 -/
abbrev S14 (l0 out3 : W.Sl) (i4 : Int) (w : World) (R : W.Post) : Prop :=
  (0 : Int) ≤ i4 ∧ i4 < ((l0.n : Nat) : Int) ∧ W.optP l0.a fun t61_p => ∃ t63 : W.Sl, w.cell? ((t61_p.add (Int.toNat i4 * 5)).add 3) = some (t63.v) ∧ 
  Calls Try.prog n_enthymemeref02_Raw #[t63.v] w fun r_ w1 => ∃ t64 : W.Sl, r_ = .returned (t64.v) ∧ 
  ∃ (t65 : W.Sl) (w2 : World), Sem.run Try.prog (Builtin.append_ #[ty_sl_uint8, ty_sl_uint8] ty_sl_uint8 #[out3.v, t64.v]) w1 = .ok (t65.v) w2 ∧ S8 l0 t65 i4 w2 R
def KE_S14 (E : W.Env) (w : World) (R : W.Post) : Prop := W.asSlice (W.Env.get? E 0) fun l0 => W.asSlice (W.Env.get? E 3) fun out3 => W.asInt .i64 (W.Env.get? E 4) fun i4 => S14 l0 out3 i4 w R
theorem KE_S14_ok (R : W.Post) (E : W.Env) (w : World) (h : KE_S14 E w R) : W.WP Try.prog 67 C24 (Q5 R) E w := by
  obtain ⟨l0, hq0, h1⟩ := W.asSlice_elim h
  obtain ⟨out3, hq3, h2⟩ := W.asSlice_elim h1
  obtain ⟨i4, hq4, h3⟩ := W.asInt_elim h2
  exact fun a ha => W.WP.at (E := [(0, l0.v), (3, out3.v), (4, .int .i64 i4)]) (W.WP.reg (c := C24) (fun E w => KE_S8 E w R) (by kernel_rfl) (Eq.mp (by kernel_rfl) h3) fun _ _ a hA hK => (KE_S8_ok R _ _ hK) a hA) (ha.cons hq0 (ha.cons hq3 (ha.cons hq4 ha.nil)))
noncomputable def C25 : Code := W.Code.snd C23
/-- ref.go:202 -/
abbrev S15 (l0 out3 : W.Sl) (i4 : Int) (w : World) (R : W.Post) : Prop :=
  (0 : Int) ≤ i4 ∧ i4 < ((l0.n : Nat) : Int) ∧ W.optP l0.a fun t19_p => ∃ t21 : W.Sl, w.cell? ((t19_p.add (Int.toNat i4 * 5)).add 4) = some (t21.v) ∧ 
  Calls Try.prog n_enthymemeref02_Ints #[t21.v] w fun r_ w1 => ∃ t22 : W.Sl, r_ = .returned (t22.v) ∧ 
  ∃ (t23 : W.Sl) (w2 : World), Sem.run Try.prog (Builtin.append_ #[ty_sl_uint8, ty_sl_uint8] ty_sl_uint8 #[out3.v, t22.v]) w1 = .ok (t23.v) w2 ∧ S8 l0 t23 i4 w2 R
def KE_S15 (E : W.Env) (w : World) (R : W.Post) : Prop := W.asSlice (W.Env.get? E 0) fun l0 => W.asSlice (W.Env.get? E 3) fun out3 => W.asInt .i64 (W.Env.get? E 4) fun i4 => S15 l0 out3 i4 w R
theorem KE_S15_ok (R : W.Post) (E : W.Env) (w : World) (h : KE_S15 E w R) : W.WP Try.prog 67 C25 (Q5 R) E w := by
  obtain ⟨l0, hq0, h1⟩ := W.asSlice_elim h
  obtain ⟨out3, hq3, h2⟩ := W.asSlice_elim h1
  obtain ⟨i4, hq4, h3⟩ := W.asInt_elim h2
  exact fun a ha => W.WP.at (E := [(0, l0.v), (3, out3.v), (4, .int .i64 i4)]) (W.WP.reg (c := C25) (fun E w => KE_S8 E w R) (by kernel_rfl) (Eq.mp (by kernel_rfl) h3) fun _ _ a hA hK => (KE_S8_ok R _ _ hK) a hA) (ha.cons hq0 (ha.cons hq3 (ha.cons hq4 ha.nil)))
noncomputable def C26 : Code := W.Code.fst C22
noncomputable def C27 : Code := W.Code.snd C26
noncomputable def C28 : Code := W.Code.snd C27
abbrev Q6 (R : W.Post) : Exit → Act → World → Prop := (Exit.then (Code.wp Try.prog C23 (Exit.inBlock 2 (Q4 R))) (Exit.inBlock 2 (Q4 R)))
/-- ref.go:199 -/
abbrev S16 (l0 out3 : W.Sl) (i4 t15 : Int) (w : World) (R : W.Post) : Prop :=
  W.sel (t15 == 4) (S14 l0 out3 i4 w R) (S15 l0 out3 i4 w R)
def KE_S16 (E : W.Env) (w : World) (R : W.Post) : Prop := W.asSlice (W.Env.get? E 0) fun l0 => W.asSlice (W.Env.get? E 3) fun out3 => W.asInt .i64 (W.Env.get? E 4) fun i4 => W.asInt .i64 (W.Env.get? E 15) fun t15 => S16 l0 out3 i4 t15 w R
theorem KE_S16_ok (R : W.Post) (E : W.Env) (w : World) (h : KE_S16 E w R) : W.WP Try.prog 67 C28 (Q6 R) E w := by
  obtain ⟨l0, hq0, h1⟩ := W.asSlice_elim h
  obtain ⟨out3, hq3, h2⟩ := W.asSlice_elim h1
  obtain ⟨i4, hq4, h3⟩ := W.asInt_elim h2
  obtain ⟨t15, hq15, h4⟩ := W.asInt_elim h3
  exact fun a ha => W.WP.at (E := [(0, l0.v), (3, out3.v), (4, .int .i64 i4), (15, .int .i64 t15)]) (W.WP.reg (c := C28) (fun E w => W.condK (W.Env.val E (.tmp 55)) (KE_S14 E w R) (KE_S15 E w R)) (by kernel_rfl) (Eq.mp (by kernel_rfl) h4) fun _ _ a hA hK => (W.WP.condK (c := C23) (x := C24) (y := C25) (o := .tmp 55) (by kernel_rfl) (fun hK => (KE_S14_ok R _ _ hK)) (fun hK => (KE_S15_ok R _ _ hK)) hK) a hA) (ha.cons hq0 (ha.cons hq3 (ha.cons hq4 (ha.cons hq15 ha.nil))))
noncomputable def C29 : Code := W.Code.fst C26
noncomputable def C30 : Code := W.Code.fst C27
/-- ref.go:199 -/
abbrev S13 (l0 out3 : W.Sl) (i4 t15 : Int) (w : World) (R : W.Post) : Prop :=
  W.sel (t15 == 3) (W.sel (t15 == 3) (S14 l0 out3 i4 w R) (S15 l0 out3 i4 w R)) (S16 l0 out3 i4 t15 w R)
def KE_S13 (E : W.Env) (w : World) (R : W.Post) : Prop := W.asSlice (W.Env.get? E 0) fun l0 => W.asSlice (W.Env.get? E 3) fun out3 => W.asInt .i64 (W.Env.get? E 4) fun i4 => W.asInt .i64 (W.Env.get? E 15) fun t15 => S13 l0 out3 i4 t15 w R
theorem KE_S13_ok (R : W.Post) (E : W.Env) (w : World) (h : KE_S13 E w R) : W.WP Try.prog 67 C26 (Q6 R) E w := by
  obtain ⟨l0, hq0, h1⟩ := W.asSlice_elim h
  obtain ⟨out3, hq3, h2⟩ := W.asSlice_elim h1
  obtain ⟨i4, hq4, h3⟩ := W.asInt_elim h2
  obtain ⟨t15, hq15, h4⟩ := W.asInt_elim h3
  exact fun a ha => W.WP.at (E := [(0, l0.v), (3, out3.v), (4, .int .i64 i4), (15, .int .i64 t15)]) (W.WP.seq (c := C26) (x := C29) (y := C27) (by kernel_rfl) <| W.WP.reg (c := C29) (fun E w => W.condK (W.Env.val E (.tmp 55)) (W.condK (W.Env.val E (.tmp 55)) (KE_S14 E w R) (KE_S15 E w R)) (KE_S16 E w R)) (by kernel_rfl) (Eq.mp (by kernel_rfl) h4) fun _ _ a hA hK => (W.WP.condK (c := C27) (x := C30) (y := C28) (o := .tmp 55) (by kernel_rfl) (fun hK => (W.WP.skip (c := C30) (by kernel_rfl) fun a hA => (W.WP.condK (c := C23) (x := C24) (y := C25) (o := .tmp 55) (by kernel_rfl) (fun hK => (KE_S14_ok R _ _ hK)) (fun hK => (KE_S15_ok R _ _ hK)) hK) a hA)) (fun hK => (KE_S16_ok R _ _ hK)) hK) a hA) (ha.cons hq0 (ha.cons hq3 (ha.cons hq4 (ha.cons hq15 ha.nil))))
noncomputable def C31 : Code := W.Code.fst C19
/-- ref.go:197 -/
abbrev S11 (l0 out3 : W.Sl) (i4 t15 : Int) (w : World) (R : W.Post) : Prop :=
  W.sel (t15 == 2) (S12 l0 out3 i4 w R) (S13 l0 out3 i4 t15 w R)
def KE_S11 (E : W.Env) (w : World) (R : W.Post) : Prop := W.asSlice (W.Env.get? E 0) fun l0 => W.asSlice (W.Env.get? E 3) fun out3 => W.asInt .i64 (W.Env.get? E 4) fun i4 => W.asInt .i64 (W.Env.get? E 15) fun t15 => S11 l0 out3 i4 t15 w R
theorem KE_S11_ok (R : W.Post) (E : W.Env) (w : World) (h : KE_S11 E w R) : W.WP Try.prog 67 C19 (Q5 R) E w := by
  obtain ⟨l0, hq0, h1⟩ := W.asSlice_elim h
  obtain ⟨out3, hq3, h2⟩ := W.asSlice_elim h1
  obtain ⟨i4, hq4, h3⟩ := W.asInt_elim h2
  obtain ⟨t15, hq15, h4⟩ := W.asInt_elim h3
  exact fun a ha => W.WP.at (E := [(0, l0.v), (3, out3.v), (4, .int .i64 i4), (15, .int .i64 t15)]) (W.WP.seq (c := C19) (x := C31) (y := C20) (by kernel_rfl) <| W.WP.reg (c := C31) (fun E w => W.condK (W.Env.val E (.tmp 44)) (KE_S12 E w R) (KE_S13 E w R)) (by kernel_rfl) (Eq.mp (by kernel_rfl) h4) fun _ _ a hA hK => (W.WP.condK (c := C20) (x := C21) (y := C22) (o := .tmp 44) (by kernel_rfl) (fun hK => (KE_S12_ok R _ _ hK)) (fun hK => (W.WP.seq (c := C22) (x := C26) (y := C23) (by kernel_rfl) (KE_S13_ok R _ _ hK))) hK) a hA) (ha.cons hq0 (ha.cons hq3 (ha.cons hq4 (ha.cons hq15 ha.nil))))
noncomputable def C32 : Code := W.Code.fst C16
/-- ref.go:195 -/
abbrev S9 (l0 out3 : W.Sl) (i4 t15 : Int) (w : World) (R : W.Post) : Prop :=
  W.sel (t15 == 1) (S10 l0 out3 i4 w R) (S11 l0 out3 i4 t15 w R)
def KE_S9 (E : W.Env) (w : World) (R : W.Post) : Prop := W.asSlice (W.Env.get? E 0) fun l0 => W.asSlice (W.Env.get? E 3) fun out3 => W.asInt .i64 (W.Env.get? E 4) fun i4 => W.asInt .i64 (W.Env.get? E 15) fun t15 => S9 l0 out3 i4 t15 w R
theorem KE_S9_ok (R : W.Post) (E : W.Env) (w : World) (h : KE_S9 E w R) : W.WP Try.prog 67 C16 (Q5 R) E w := by
  obtain ⟨l0, hq0, h1⟩ := W.asSlice_elim h
  obtain ⟨out3, hq3, h2⟩ := W.asSlice_elim h1
  obtain ⟨i4, hq4, h3⟩ := W.asInt_elim h2
  obtain ⟨t15, hq15, h4⟩ := W.asInt_elim h3
  exact fun a ha => W.WP.at (E := [(0, l0.v), (3, out3.v), (4, .int .i64 i4), (15, .int .i64 t15)]) (W.WP.seq (c := C16) (x := C32) (y := C17) (by kernel_rfl) <| W.WP.reg (c := C32) (fun E w => W.condK (W.Env.val E (.tmp 34)) (KE_S10 E w R) (KE_S11 E w R)) (by kernel_rfl) (Eq.mp (by kernel_rfl) h4) fun _ _ a hA hK => (W.WP.condK (c := C17) (x := C18) (y := C19) (o := .tmp 34) (by kernel_rfl) (fun hK => (KE_S10_ok R _ _ hK)) (fun hK => (KE_S11_ok R _ _ hK)) hK) a hA) (ha.cons hq0 (ha.cons hq3 (ha.cons hq4 (ha.cons hq15 ha.nil))))
noncomputable def C33 : Code := W.Code.fst C13
/-- ref.go:193 -/
abbrev S6 (l0 out3 : W.Sl) (i4 t15 : Int) (w : World) (R : W.Post) : Prop :=
  W.sel (t15 == 0) (S7 l0 out3 i4 w R) (S9 l0 out3 i4 t15 w R)
def KE_S6 (E : W.Env) (w : World) (R : W.Post) : Prop := W.asSlice (W.Env.get? E 0) fun l0 => W.asSlice (W.Env.get? E 3) fun out3 => W.asInt .i64 (W.Env.get? E 4) fun i4 => W.asInt .i64 (W.Env.get? E 15) fun t15 => S6 l0 out3 i4 t15 w R
theorem KE_S6_ok (R : W.Post) (E : W.Env) (w : World) (h : KE_S6 E w R) : W.WP Try.prog 67 C13 (Q5 R) E w := by
  obtain ⟨l0, hq0, h1⟩ := W.asSlice_elim h
  obtain ⟨out3, hq3, h2⟩ := W.asSlice_elim h1
  obtain ⟨i4, hq4, h3⟩ := W.asInt_elim h2
  obtain ⟨t15, hq15, h4⟩ := W.asInt_elim h3
  exact fun a ha => W.WP.at (E := [(0, l0.v), (3, out3.v), (4, .int .i64 i4), (15, .int .i64 t15)]) (W.WP.seq (c := C13) (x := C33) (y := C14) (by kernel_rfl) <| W.WP.reg (c := C33) (fun E w => W.condK (W.Env.val E (.tmp 24)) (KE_S7 E w R) (KE_S9 E w R)) (by kernel_rfl) (Eq.mp (by kernel_rfl) h4) fun _ _ a hA hK => (W.WP.condK (c := C14) (x := C15) (y := C16) (o := .tmp 24) (by kernel_rfl) (fun hK => (KE_S7_ok R _ _ hK)) (fun hK => (KE_S9_ok R _ _ hK)) hK) a hA) (ha.cons hq0 (ha.cons hq3 (ha.cons hq4 (ha.cons hq15 ha.nil))))
noncomputable def C34 : Code := W.Code.fst C11
/-- ref.go:192 -/
abbrev S5 (l0 out3 : W.Sl) (i4 : Int) (w : World) (R : W.Post) : Prop :=
  (0 : Int) ≤ i4 ∧ i4 < ((l0.n : Nat) : Int) ∧ W.optP l0.a fun t13_p => ∃ t15 : Int, w.cell? ((t13_p.add (Int.toNat i4 * 5)).add 0) = some (.int .i64 t15) ∧ 
  S6 l0 out3 i4 t15 w R
def KE_S5 (E : W.Env) (w : World) (R : W.Post) : Prop := W.asSlice (W.Env.get? E 0) fun l0 => W.asSlice (W.Env.get? E 3) fun out3 => W.asInt .i64 (W.Env.get? E 4) fun i4 => S5 l0 out3 i4 w R
theorem KE_S5_ok (R : W.Post) (E : W.Env) (w : World) (h : KE_S5 E w R) : W.WP Try.prog 67 C11 (Q4 R) E w := by
  obtain ⟨l0, hq0, h1⟩ := W.asSlice_elim h
  obtain ⟨out3, hq3, h2⟩ := W.asSlice_elim h1
  obtain ⟨i4, hq4, h3⟩ := W.asInt_elim h2
  exact fun a ha => W.WP.at (E := [(0, l0.v), (3, out3.v), (4, .int .i64 i4)]) (W.WP.seq (c := C11) (x := C34) (y := C12) (by kernel_rfl) <| W.WP.reg (c := C34) (fun E w => KE_S6 E w R) (by kernel_rfl) (Eq.mp (by kernel_rfl) h3) fun _ _ a hA hK => (W.WP.block (c := C12) (x := C13) (id := 2) (by kernel_rfl) (KE_S6_ok R _ _ hK)) a hA) (ha.cons hq0 (ha.cons hq3 (ha.cons hq4 ha.nil)))
abbrev Q7 (R : W.Post) : Exit → Act → World → Prop := (bodyPost Try.prog Try.f30 R)
noncomputable def C35 : Code := W.Code.fst C7
noncomputable def C36 : Code := W.Code.snd C7
/-- ref.go:205 -/
abbrev S17 (out3 : W.Sl) (w : World) (R : W.Post) : Prop :=
  R (.returned (out3.v)) w
def KE_S17 (E : W.Env) (w : World) (R : W.Post) : Prop := W.asSlice (W.Env.get? E 3) fun out3 => S17 out3 w R
theorem KE_S17_ok (R : W.Post) (E : W.Env) (w : World) (h : KE_S17 E w R) : W.WP Try.prog 67 C7 (Q7 R) E w := by
  obtain ⟨out3, hq3, h1⟩ := W.asSlice_elim h
  exact fun a ha => W.WP.at (E := [(3, out3.v)]) (W.WP.seq (c := C7) (x := C35) (y := C36) (by kernel_rfl) <| W.WP.reg (c := C35) (fun E w => W.retVC Try.prog Try.f30 E w (fun v => R (.returned v) w)) (by kernel_rfl) (Eq.mp (by kernel_rfl) h1) fun _ _ a hA hK => (W.WP.ret (c := C36) (by kernel_rfl) fun a hA => W.retVC_sound hA hK) a hA) (ha.cons hq3 ha.nil)
noncomputable def C37 : Code := W.Code.fst C6
abbrev Q8 (R : W.Post) : Exit → Act → World → Prop := (Exit.then (Code.wp Try.prog C8 (Exit.then (W.LoopWP Try.prog C6 (Q1 R)) (Q1 R))) (Exit.then (W.LoopWP Try.prog C6 (Q1 R)) (Q1 R)))
noncomputable def C38 : Code := W.Code.fst C37
noncomputable def C39 : Code := W.Code.snd C37
noncomputable def C40 : Code := W.Code.fst C39
noncomputable def C41 : Code := W.Code.snd C39
/-- ref.go:191 -/
abbrev S4 (l0 out3 : W.Sl) (i4 : Int) (w : World) (R : W.Post) : Prop :=
  W.sel (decide (i4 < ((l0.n : Nat) : Int))) (S5 l0 out3 i4 w R) (S17 out3 w R)
def KE_S4 (E : W.Env) (w : World) (R : W.Post) : Prop := W.asSlice (W.Env.get? E 0) fun l0 => W.asSlice (W.Env.get? E 3) fun out3 => W.asInt .i64 (W.Env.get? E 4) fun i4 => S4 l0 out3 i4 w R
theorem KE_S4_ok (R : W.Post) (E : W.Env) (w : World) (h : KE_S4 E w R) : W.WP Try.prog 67 C37 (Q8 R) E w := by
  obtain ⟨l0, hq0, h1⟩ := W.asSlice_elim h
  obtain ⟨out3, hq3, h2⟩ := W.asSlice_elim h1
  obtain ⟨i4, hq4, h3⟩ := W.asInt_elim h2
  exact fun a ha => W.WP.at (E := [(0, l0.v), (3, out3.v), (4, .int .i64 i4)]) (W.WP.seq (c := C37) (x := C38) (y := C39) (by kernel_rfl) <| W.WP.reg (c := C38) (fun E w => W.condK (W.Env.val E (.tmp 8)) (KE_S5 E w R) (KE_S17 E w R)) (by kernel_rfl) (Eq.mp (by kernel_rfl) h3) fun _ _ a hA hK => (W.WP.condK (c := C39) (x := C40) (y := C41) (o := .tmp 8) (by kernel_rfl) (fun hK => (W.WP.skip (c := C40) (by kernel_rfl) fun a hA => (W.WP.seq (c := C8) (x := C10) (y := C9) (by kernel_rfl) (W.WP.block (c := C10) (x := C11) (id := 1) (by kernel_rfl) (KE_S5_ok R _ _ hK))) a hA)) (fun hK => (W.WP.exit (c := C41) (id := 0) (by kernel_rfl) fun a hA => (KE_S17_ok R _ _ hK) a hA)) hK) a hA) (ha.cons hq0 (ha.cons hq3 (ha.cons hq4 ha.nil)))
theorem L3_step (l0 out3 : W.Sl) (i4 : Int) (w : World) (R : W.Post) (h : S4 l0 out3 i4 w R) : L3 l0 out3 i4 w R :=
  W.LP.step (c := C6) (E := [(0, l0.v), (3, out3.v), (4, .int .i64 i4)]) (w := w) (W.WP.seq (c := C6) (x := C37) (y := C8) (by kernel_rfl) (KE_S4_ok R _ _ (Eq.mp (by kernel_rfl) h)))
noncomputable def C42 : Code := W.Code.fst C3
/-- ref.go:191 -/
abbrev S2 (l0 out3 : W.Sl) (w : World) (R : W.Post) : Prop :=
  L3 l0 out3 0 w R
def KE_S2 (E : W.Env) (w : World) (R : W.Post) : Prop := W.asSlice (W.Env.get? E 0) fun l0 => W.asSlice (W.Env.get? E 3) fun out3 => S2 l0 out3 w R
theorem KE_S2_ok (R : W.Post) (E : W.Env) (w : World) (h : KE_S2 E w R) : W.WP Try.prog 67 C3 (Q0 R) E w := by
  obtain ⟨l0, hq0, h1⟩ := W.asSlice_elim h
  obtain ⟨out3, hq3, h2⟩ := W.asSlice_elim h1
  exact fun a ha => W.WP.at (E := [(0, l0.v), (3, out3.v)]) (W.WP.seq (c := C3) (x := C42) (y := C4) (by kernel_rfl) <| W.WP.reg (c := C42) (fun E w => KE_L3 E w R) (by kernel_rfl) (Eq.mp (by kernel_rfl) h2) fun _ _ a hA hK => (W.WP.block (c := C4) (x := C5) (id := 0) (by kernel_rfl) (W.WP.loop (c := C5) (x := C6) (by kernel_rfl) (KE_L3_ok R _ _ hK))) a hA) (ha.cons hq0 (ha.cons hq3 ha.nil))
noncomputable def C43 : Code := W.Code.fst C1
/-- ref.go:190 -/
abbrev S1 (l0 : W.Sl) (w : World) (R : W.Post) : Prop :=
  S2 l0 ⟨none, 0, 0⟩ w R
def KE_S1 (E : W.Env) (w : World) (R : W.Post) : Prop := W.asSlice (W.Env.get? E 0) fun l0 => S1 l0 w R
theorem KE_S1_ok (R : W.Post) (E : W.Env) (w : World) (h : KE_S1 E w R) : W.WP Try.prog 67 C1 (Q7 R) E w := by
  obtain ⟨l0, hq0, h1⟩ := W.asSlice_elim h
  exact fun a ha => W.WP.at (E := [(0, l0.v)]) (W.WP.seq (c := C1) (x := C43) (y := C2) (by kernel_rfl) <| W.WP.reg (c := C43) (fun E w => KE_S2 E w R) (by kernel_rfl) (Eq.mp (by kernel_rfl) h1) fun _ _ a hA hK => (W.WP.seq (c := C2) (x := C3) (y := C7) (by kernel_rfl) (KE_S2_ok R _ _ hK)) a hA) (ha.cons hq0 ha.nil)
noncomputable def C44 : Code := W.Code.fst C0
/-- ref.go:189 -/
abbrev S0 (l0 : W.Sl) (w : World) (R : W.Post) : Prop :=
  S1 l0 w R
def KE_S0 (E : W.Env) (w : World) (R : W.Post) : Prop := W.asSlice (W.Env.get? E 0) fun l0 => S0 l0 w R
theorem KE_S0_ok (R : W.Post) (E : W.Env) (w : World) (h : KE_S0 E w R) : W.WP Try.prog 67 C0 (Q7 R) E w := by
  obtain ⟨l0, hq0, h1⟩ := W.asSlice_elim h
  exact fun a ha => W.WP.at (E := [(0, l0.v)]) (W.WP.seq (c := C0) (x := C44) (y := C1) (by kernel_rfl) <| W.WP.reg (c := C44) (fun E w => KE_S1 E w R) (by kernel_rfl) (Eq.mp (by kernel_rfl) h1) fun _ _ a hA hK => (KE_S1_ok R _ _ hK) a hA) (ha.cons hq0 ha.nil)
/-- enthymeme/enthymemeref02.Encode -/
theorem ok (l0 : W.Sl) (w : World) (R : W.Post) (h : S0 l0 w R) : Calls Try.prog n_enthymemeref02_Encode #[l0.v] w R :=
  W.calls_of_WP' (fn := Try.f30) (c := C0) (args := [l0.v]) (by kernel_rfl) (by kernel_rfl) (by kernel_rfl) (KE_S0_ok R _ _ (Eq.mp (by kernel_rfl) h))
end enthymemeref02_Encode
end Go.Proofs.Ytjmnpdacalbpkaa

/- Printed by a program of ours (vcgen.py) from the dump: the conditions of the functions, and that they suffice. -/
import Derived.Test.YtemagdpieebjlaaV
set_option linter.unusedVariables false
set_option maxRecDepth 100000
namespace Go.Proofs.Ytemagdpieebjlaa
open Go
namespace enthymemeref09_in
noncomputable def C0 : Code := (Try.f32.body).getD .skip
noncomputable def C1 : Code := W.Code.snd C0
noncomputable def C2 : Code := W.Code.fst C1
noncomputable def C3 : Code := W.Code.snd C2
noncomputable def C4 : Code := W.Code.fst C3
noncomputable def C5 : Code := W.Code.fst C4
noncomputable def C6 : Code := W.Code.snd C1
abbrev Q0 (R : W.Post) : Exit → Act → World → Prop := (Exit.then (W.wpx Try.prog (W.cx 17) C6 (bodyPost Try.prog Try.f32 R)) (bodyPost Try.prog Try.f32 R))
abbrev Q1 (R : W.Post) : Exit → Act → World → Prop := (Exit.inBlock 0 (Q0 R))
/-- the head of the loop, ref.go:18 -/
def L2 (c0 : Int) (s1 : ByteArray) (i5 : Int) (w : World) (R : W.Post) : Prop := W.LP Try.prog (W.cx 17) C5 (Q1 R) [(0, .int .u8 c0), (1, .string s1), (5, .int .i64 i5)] w
def KE_L2 (E : W.Env) (w : World) (R : W.Post) : Prop := W.asInt .u8 (W.Env.get? E 0) fun c0 => W.asStr (W.Env.get? E 1) fun s1 => W.asInt .i64 (W.Env.get? E 5) fun i5 => L2 c0 s1 i5 w R
theorem KE_L2_ok (R : W.Post) (E : W.Env) (w : World) (h : KE_L2 E w R) : W.LP Try.prog (W.cx 17) C5 (Q1 R) E w := by
  obtain ⟨c0, hq0, h1⟩ := W.asInt_elim h
  obtain ⟨s1, hq1, h2⟩ := W.asStr_elim h1
  obtain ⟨i5, hq5, h3⟩ := W.asInt_elim h2
  intro a ha
  exact h3 a (ha.cons hq0 (ha.cons hq1 (ha.cons hq5 ha.nil)))
noncomputable def C7 : Code := W.Code.snd C5
noncomputable def C8 : Code := W.Code.fst C7
noncomputable def C9 : Code := W.Code.fst C8
noncomputable def C10 : Code := W.Code.snd C9
noncomputable def C11 : Code := W.Code.fst C10
noncomputable def C12 : Code := W.Code.snd C7
abbrev Q2 (R : W.Post) : Exit → Act → World → Prop := (Exit.then (W.wpx Try.prog (W.cx 17) C12 (Exit.then (W.LoopWP Try.prog (W.cx 17) C5 (Q1 R)) (Q1 R))) (Exit.then (W.LoopWP Try.prog (W.cx 17) C5 (Q1 R)) (Q1 R)))
abbrev Q3 (R : W.Post) : Exit → Act → World → Prop := (Exit.inBlock 1 (Q2 R))
noncomputable def C13 : Code := W.Code.fst C11
noncomputable def C14 : Code := W.Code.snd C11
/-- ref.go:20 -/
abbrev S5  (w : World) (R : W.Post) : Prop :=
  R (.returned (.bool true)) w
def KE_S5 (E : W.Env) (w : World) (R : W.Post) : Prop := S5  w R
theorem KE_S5_ok (R : W.Post) (E : W.Env) (w : World) (h : KE_S5 E w R) : W.WP Try.prog (W.cx 17) C11 (Q3 R) E w := by
  exact fun a ha => W.WP.at (n := (W.cx 17)) (E := []) (W.WP.seq (c := C11) (x := C13) (y := C14) (by kernel_rfl) <| W.WP.reg (c := C13) (fun E w => W.retVC Try.prog Try.f32 E w (fun v => R (.returned v) w)) (by kernel_rfl) (Eq.mp (by kernel_rfl) h) fun _ _ a hA hK => (W.WP.ret (c := C14) (by kernel_rfl) fun a hA => W.retVC_sound hA hK) a hA) ha.nil
abbrev Q4 (R : W.Post) : Exit → Act → World → Prop := (Exit.then (W.LoopWP Try.prog (W.cx 17) C5 (Q1 R)) (Q1 R))
/-- ref.go:18 -/
abbrev S6 (c0 : Int) (s1 : ByteArray) (i5 : Int) (w : World) (R : W.Post) : Prop :=
  L2 c0 s1 (IntKind.wrap .i64 (i5 + 1)) w R
def KE_S6 (E : W.Env) (w : World) (R : W.Post) : Prop := W.asInt .u8 (W.Env.get? E 0) fun c0 => W.asStr (W.Env.get? E 1) fun s1 => W.asInt .i64 (W.Env.get? E 5) fun i5 => S6 c0 s1 i5 w R
theorem KE_S6_ok (R : W.Post) (E : W.Env) (w : World) (h : KE_S6 E w R) : W.WP Try.prog (W.cx 17) C12 (Q4 R) E w := by
  obtain ⟨c0, hq0, h1⟩ := W.asInt_elim h
  obtain ⟨s1, hq1, h2⟩ := W.asStr_elim h1
  obtain ⟨i5, hq5, h3⟩ := W.asInt_elim h2
  exact fun a ha => W.WP.at (n := (W.cx 17)) (E := [(0, .int .u8 c0), (1, .string s1), (5, .int .i64 i5)]) (W.WP.reg (c := C12) (fun E w => KE_L2 E w R) (by kernel_rfl) (Eq.mp (by kernel_rfl) h3) fun _ _ a hA hK => KE_L2_ok R _ _ hK a hA) (ha.cons hq0 (ha.cons hq1 (ha.cons hq5 ha.nil)))
noncomputable def C15 : Code := W.Code.fst C9
noncomputable def C16 : Code := W.Code.snd C10
/-- ref.go:19 -/
abbrev S4 (c0 : Int) (s1 : ByteArray) (i5 : Int) (w : World) (R : W.Post) : Prop :=
  (0 : Int) ≤ i5 ∧ ∃ t14_b : UInt8, s1[Int.toNat i5]? = some t14_b ∧ W.sel (((t14_b.toNat : Nat) : Int) == c0) (S5  w R) (S6 c0 s1 i5 w R)
def KE_S4 (E : W.Env) (w : World) (R : W.Post) : Prop := W.asInt .u8 (W.Env.get? E 0) fun c0 => W.asStr (W.Env.get? E 1) fun s1 => W.asInt .i64 (W.Env.get? E 5) fun i5 => S4 c0 s1 i5 w R
theorem KE_S4_ok (R : W.Post) (E : W.Env) (w : World) (h : KE_S4 E w R) : W.WP Try.prog (W.cx 17) C9 (Q3 R) E w := by
  obtain ⟨c0, hq0, h1⟩ := W.asInt_elim h
  obtain ⟨s1, hq1, h2⟩ := W.asStr_elim h1
  obtain ⟨i5, hq5, h3⟩ := W.asInt_elim h2
  exact fun a ha => W.WP.at (n := (W.cx 17)) (E := [(0, .int .u8 c0), (1, .string s1), (5, .int .i64 i5)]) (W.WP.seq (c := C9) (x := C15) (y := C10) (by kernel_rfl) <| W.WP.reg (c := C15) (fun E w => W.condK (W.Env.val E (.tmp 16)) (KE_S5 E w R) (KE_S6 E w R)) (by kernel_rfl) (Eq.mp (by kernel_rfl) h3) fun _ _ a hA hK => (W.WP.condK (c := C10) (x := C11) (y := C16) (o := .tmp 16) (by kernel_rfl) (fun hK => (KE_S5_ok R _ _ hK)) (fun hK => (W.WP.skip (c := C16) (by kernel_rfl) fun a hA => (KE_S6_ok R _ _ hK) a hA)) hK) a hA) (ha.cons hq0 (ha.cons hq1 (ha.cons hq5 ha.nil)))
abbrev Q5 (R : W.Post) : Exit → Act → World → Prop := (bodyPost Try.prog Try.f32 R)
noncomputable def C17 : Code := W.Code.fst C6
noncomputable def C18 : Code := W.Code.snd C6
/-- ref.go:23 -/
abbrev S7  (w : World) (R : W.Post) : Prop :=
  R (.returned (.bool false)) w
def KE_S7 (E : W.Env) (w : World) (R : W.Post) : Prop := S7  w R
theorem KE_S7_ok (R : W.Post) (E : W.Env) (w : World) (h : KE_S7 E w R) : W.WP Try.prog (W.cx 17) C6 (Q5 R) E w := by
  exact fun a ha => W.WP.at (n := (W.cx 17)) (E := []) (W.WP.seq (c := C6) (x := C17) (y := C18) (by kernel_rfl) <| W.WP.reg (c := C17) (fun E w => W.retVC Try.prog Try.f32 E w (fun v => R (.returned v) w)) (by kernel_rfl) (Eq.mp (by kernel_rfl) h) fun _ _ a hA hK => (W.WP.ret (c := C18) (by kernel_rfl) fun a hA => W.retVC_sound hA hK) a hA) ha.nil
noncomputable def C19 : Code := W.Code.fst C5
abbrev Q6 (R : W.Post) : Exit → Act → World → Prop := (Exit.then (W.wpx Try.prog (W.cx 17) C7 (Exit.then (W.LoopWP Try.prog (W.cx 17) C5 (Q1 R)) (Q1 R))) (Exit.then (W.LoopWP Try.prog (W.cx 17) C5 (Q1 R)) (Q1 R)))
noncomputable def C20 : Code := W.Code.fst C19
noncomputable def C21 : Code := W.Code.snd C19
noncomputable def C22 : Code := W.Code.fst C21
noncomputable def C23 : Code := W.Code.snd C21
/-- ref.go:18 -/
abbrev S3 (c0 : Int) (s1 : ByteArray) (i5 : Int) (w : World) (R : W.Post) : Prop :=
  W.sel (decide (i5 < ((s1.size : Nat) : Int))) (S4 c0 s1 i5 w R) (S7  w R)
def KE_S3 (E : W.Env) (w : World) (R : W.Post) : Prop := W.asInt .u8 (W.Env.get? E 0) fun c0 => W.asStr (W.Env.get? E 1) fun s1 => W.asInt .i64 (W.Env.get? E 5) fun i5 => S3 c0 s1 i5 w R
theorem KE_S3_ok (R : W.Post) (E : W.Env) (w : World) (h : KE_S3 E w R) : W.WP Try.prog (W.cx 17) C19 (Q6 R) E w := by
  obtain ⟨c0, hq0, h1⟩ := W.asInt_elim h
  obtain ⟨s1, hq1, h2⟩ := W.asStr_elim h1
  obtain ⟨i5, hq5, h3⟩ := W.asInt_elim h2
  exact fun a ha => W.WP.at (n := (W.cx 17)) (E := [(0, .int .u8 c0), (1, .string s1), (5, .int .i64 i5)]) (W.WP.seq (c := C19) (x := C20) (y := C21) (by kernel_rfl) <| W.WP.reg (c := C20) (fun E w => W.condK (W.Env.val E (.tmp 9)) (KE_S4 E w R) (KE_S7 E w R)) (by kernel_rfl) (Eq.mp (by kernel_rfl) h3) fun _ _ a hA hK => (W.WP.condK (c := C21) (x := C22) (y := C23) (o := .tmp 9) (by kernel_rfl) (fun hK => (W.WP.skip (c := C22) (by kernel_rfl) fun a hA => (W.WP.seq (c := C7) (x := C8) (y := C12) (by kernel_rfl) (W.WP.block (c := C8) (x := C9) (id := 1) (by kernel_rfl) (KE_S4_ok R _ _ hK))) a hA)) (fun hK => (W.WP.exit (c := C23) (id := 0) (by kernel_rfl) fun a hA => (KE_S7_ok R _ _ hK) a hA)) hK) a hA) (ha.cons hq0 (ha.cons hq1 (ha.cons hq5 ha.nil)))
theorem L2_step (c0 : Int) (s1 : ByteArray) (i5 : Int) (w : World) (R : W.Post) (h : S3 c0 s1 i5 w R) : L2 c0 s1 i5 w R :=
  W.LP.step (n := (W.cx 17)) (c := C5) (E := [(0, .int .u8 c0), (1, .string s1), (5, .int .i64 i5)]) (w := w) (W.WP.seq (c := C5) (x := C19) (y := C7) (by kernel_rfl) (KE_S3_ok R _ _ (Eq.mp (by kernel_rfl) h)))
noncomputable def C24 : Code := W.Code.fst C2
/-- ref.go:18 -/
abbrev S1 (c0 : Int) (s1 : ByteArray) (w : World) (R : W.Post) : Prop :=
  L2 c0 s1 0 w R
def KE_S1 (E : W.Env) (w : World) (R : W.Post) : Prop := W.asInt .u8 (W.Env.get? E 0) fun c0 => W.asStr (W.Env.get? E 1) fun s1 => S1 c0 s1 w R
theorem KE_S1_ok (R : W.Post) (E : W.Env) (w : World) (h : KE_S1 E w R) : W.WP Try.prog (W.cx 17) C2 (Q0 R) E w := by
  obtain ⟨c0, hq0, h1⟩ := W.asInt_elim h
  obtain ⟨s1, hq1, h2⟩ := W.asStr_elim h1
  exact fun a ha => W.WP.at (n := (W.cx 17)) (E := [(0, .int .u8 c0), (1, .string s1)]) (W.WP.seq (c := C2) (x := C24) (y := C3) (by kernel_rfl) <| W.WP.reg (c := C24) (fun E w => KE_L2 E w R) (by kernel_rfl) (Eq.mp (by kernel_rfl) h2) fun _ _ a hA hK => (W.WP.block (c := C3) (x := C4) (id := 0) (by kernel_rfl) (W.WP.loop (c := C4) (x := C5) (by kernel_rfl) (KE_L2_ok R _ _ hK))) a hA) (ha.cons hq0 (ha.cons hq1 ha.nil))
noncomputable def C25 : Code := W.Code.fst C0
/-- ref.go:17 -/
abbrev S0 (c0 : Int) (s1 : ByteArray) (w : World) (R : W.Post) : Prop :=
  S1 c0 s1 w R
def KE_S0 (E : W.Env) (w : World) (R : W.Post) : Prop := W.asInt .u8 (W.Env.get? E 0) fun c0 => W.asStr (W.Env.get? E 1) fun s1 => S0 c0 s1 w R
theorem KE_S0_ok (R : W.Post) (E : W.Env) (w : World) (h : KE_S0 E w R) : W.WP Try.prog (W.cx 17) C0 (Q5 R) E w := by
  obtain ⟨c0, hq0, h1⟩ := W.asInt_elim h
  obtain ⟨s1, hq1, h2⟩ := W.asStr_elim h1
  exact fun a ha => W.WP.at (n := (W.cx 17)) (E := [(0, .int .u8 c0), (1, .string s1)]) (W.WP.seq (c := C0) (x := C25) (y := C1) (by kernel_rfl) <| W.WP.reg (c := C25) (fun E w => KE_S1 E w R) (by kernel_rfl) (Eq.mp (by kernel_rfl) h2) fun _ _ a hA hK => (W.WP.seq (c := C1) (x := C2) (y := C6) (by kernel_rfl) (KE_S1_ok R _ _ hK)) a hA) (ha.cons hq0 (ha.cons hq1 ha.nil))
/-- enthymeme/enthymemeref09.in -/
theorem ok (c0 : Int) (s1 : ByteArray) (w : World) (R : W.Post) (h : S0 c0 s1 w R) : Calls Try.prog n_enthymemeref09_in #[.int .u8 c0, .string s1] w R :=
  W.calls_of_WP' (fn := Try.f32) (c := C0) (args := [.int .u8 c0, .string s1]) (by kernel_rfl) (by kernel_rfl) (by kernel_rfl) (KE_S0_ok R _ _ (Eq.mp (by kernel_rfl) h))
end enthymemeref09_in
namespace enthymemeref09_only
noncomputable def C0 : Code := (Try.f51.body).getD .skip
noncomputable def C1 : Code := W.Code.snd C0
noncomputable def C2 : Code := W.Code.fst C1
noncomputable def C3 : Code := W.Code.snd C2
noncomputable def C4 : Code := W.Code.fst C3
noncomputable def C5 : Code := W.Code.fst C4
noncomputable def C6 : Code := W.Code.snd C1
abbrev Q0 (R : W.Post) : Exit → Act → World → Prop := (Exit.then (W.wpx Try.prog (W.cx 20) C6 (bodyPost Try.prog Try.f51 R)) (bodyPost Try.prog Try.f51 R))
abbrev Q1 (R : W.Post) : Exit → Act → World → Prop := (Exit.inBlock 0 (Q0 R))
/-- the head of the loop, ref.go:28 -/
def L2 (s0 others1 : ByteArray) (i5 : Int) (w : World) (R : W.Post) : Prop := W.LP Try.prog (W.cx 20) C5 (Q1 R) [(0, .string s0), (1, .string others1), (5, .int .i64 i5)] w
def KE_L2 (E : W.Env) (w : World) (R : W.Post) : Prop := W.asStr (W.Env.get? E 0) fun s0 => W.asStr (W.Env.get? E 1) fun others1 => W.asInt .i64 (W.Env.get? E 5) fun i5 => L2 s0 others1 i5 w R
theorem KE_L2_ok (R : W.Post) (E : W.Env) (w : World) (h : KE_L2 E w R) : W.LP Try.prog (W.cx 20) C5 (Q1 R) E w := by
  obtain ⟨s0, hq0, h1⟩ := W.asStr_elim h
  obtain ⟨others1, hq1, h2⟩ := W.asStr_elim h1
  obtain ⟨i5, hq5, h3⟩ := W.asInt_elim h2
  intro a ha
  exact h3 a (ha.cons hq0 (ha.cons hq1 (ha.cons hq5 ha.nil)))
noncomputable def C7 : Code := W.Code.snd C5
noncomputable def C8 : Code := W.Code.fst C7
noncomputable def C9 : Code := W.Code.fst C8
noncomputable def C10 : Code := W.Code.snd C9
noncomputable def C11 : Code := W.Code.snd C10
noncomputable def C12 : Code := W.Code.fst C11
noncomputable def C13 : Code := W.Code.snd C7
abbrev Q2 (R : W.Post) : Exit → Act → World → Prop := (Exit.then (W.wpx Try.prog (W.cx 20) C13 (Exit.then (W.LoopWP Try.prog (W.cx 20) C5 (Q1 R)) (Q1 R))) (Exit.then (W.LoopWP Try.prog (W.cx 20) C5 (Q1 R)) (Q1 R)))
abbrev Q3 (R : W.Post) : Exit → Act → World → Prop := (Exit.inBlock 1 (Q2 R))
noncomputable def C14 : Code := W.Code.fst C12
noncomputable def C15 : Code := W.Code.snd C12
/-- ref.go:31 -/
abbrev S6  (w : World) (R : W.Post) : Prop :=
  R (.returned (.bool false)) w
def KE_S6 (E : W.Env) (w : World) (R : W.Post) : Prop := S6  w R
theorem KE_S6_ok (R : W.Post) (E : W.Env) (w : World) (h : KE_S6 E w R) : W.WP Try.prog (W.cx 20) C12 (Q3 R) E w := by
  exact fun a ha => W.WP.at (n := (W.cx 20)) (E := []) (W.WP.seq (c := C12) (x := C14) (y := C15) (by kernel_rfl) <| W.WP.reg (c := C14) (fun E w => W.retVC Try.prog Try.f51 E w (fun v => R (.returned v) w)) (by kernel_rfl) (Eq.mp (by kernel_rfl) h) fun _ _ a hA hK => (W.WP.ret (c := C15) (by kernel_rfl) fun a hA => W.retVC_sound hA hK) a hA) ha.nil
abbrev Q4 (R : W.Post) : Exit → Act → World → Prop := (Exit.then (W.LoopWP Try.prog (W.cx 20) C5 (Q1 R)) (Q1 R))
/-- ref.go:28 -/
abbrev S7 (s0 others1 : ByteArray) (i5 : Int) (w : World) (R : W.Post) : Prop :=
  L2 s0 others1 (IntKind.wrap .i64 (i5 + 1)) w R
def KE_S7 (E : W.Env) (w : World) (R : W.Post) : Prop := W.asStr (W.Env.get? E 0) fun s0 => W.asStr (W.Env.get? E 1) fun others1 => W.asInt .i64 (W.Env.get? E 5) fun i5 => S7 s0 others1 i5 w R
theorem KE_S7_ok (R : W.Post) (E : W.Env) (w : World) (h : KE_S7 E w R) : W.WP Try.prog (W.cx 20) C13 (Q4 R) E w := by
  obtain ⟨s0, hq0, h1⟩ := W.asStr_elim h
  obtain ⟨others1, hq1, h2⟩ := W.asStr_elim h1
  obtain ⟨i5, hq5, h3⟩ := W.asInt_elim h2
  exact fun a ha => W.WP.at (n := (W.cx 20)) (E := [(0, .string s0), (1, .string others1), (5, .int .i64 i5)]) (W.WP.reg (c := C13) (fun E w => KE_L2 E w R) (by kernel_rfl) (Eq.mp (by kernel_rfl) h3) fun _ _ a hA hK => KE_L2_ok R _ _ hK a hA) (ha.cons hq0 (ha.cons hq1 (ha.cons hq5 ha.nil)))
noncomputable def C16 : Code := W.Code.fst C10
noncomputable def C17 : Code := W.Code.snd C11
/-- ref.go:30 -/
abbrev S5 (s0 others1 : ByteArray) (i5 : Int) (is6 : Bool) (w : World) (R : W.Post) : Prop :=
  W.sel (!is6) (S6  w R) (S7 s0 others1 i5 w R)
def KE_S5 (E : W.Env) (w : World) (R : W.Post) : Prop := W.asStr (W.Env.get? E 0) fun s0 => W.asStr (W.Env.get? E 1) fun others1 => W.asInt .i64 (W.Env.get? E 5) fun i5 => W.asBool' (W.Env.get? E 6) fun is6 => S5 s0 others1 i5 is6 w R
theorem KE_S5_ok (R : W.Post) (E : W.Env) (w : World) (h : KE_S5 E w R) : W.WP Try.prog (W.cx 20) C10 (Q3 R) E w := by
  obtain ⟨s0, hq0, h1⟩ := W.asStr_elim h
  obtain ⟨others1, hq1, h2⟩ := W.asStr_elim h1
  obtain ⟨i5, hq5, h3⟩ := W.asInt_elim h2
  obtain ⟨is6, hq6, h4⟩ := W.asBool_elim h3
  exact fun a ha => W.WP.at (n := (W.cx 20)) (E := [(0, .string s0), (1, .string others1), (5, .int .i64 i5), (6, .bool is6)]) (W.WP.seq (c := C10) (x := C16) (y := C11) (by kernel_rfl) <| W.WP.reg (c := C16) (fun E w => W.condK (W.Env.val E (.tmp 19)) (KE_S6 E w R) (KE_S7 E w R)) (by kernel_rfl) (Eq.mp (by kernel_rfl) h4) fun _ _ a hA hK => (W.WP.condK (c := C11) (x := C12) (y := C17) (o := .tmp 19) (by kernel_rfl) (fun hK => (KE_S6_ok R _ _ hK)) (fun hK => (W.WP.skip (c := C17) (by kernel_rfl) fun a hA => (KE_S7_ok R _ _ hK) a hA)) hK) a hA) (ha.cons hq0 (ha.cons hq1 (ha.cons hq5 (ha.cons hq6 ha.nil))))
noncomputable def C18 : Code := W.Code.fst C9
/-- ref.go:29 -/
abbrev S4 (s0 others1 : ByteArray) (i5 : Int) (w : World) (R : W.Post) : Prop :=
  (0 : Int) ≤ i5 ∧ ∃ t15_b : UInt8, s0[Int.toNat i5]? = some t15_b ∧ Calls Try.prog n_enthymemeref09_in #[.int .u8 ((t15_b.toNat : Nat) : Int), .string others1] w fun r_ w1 => ∃ t17 : Bool, r_ = .returned (.bool t17) ∧ 
  S5 s0 others1 i5 t17 w1 R
def KE_S4 (E : W.Env) (w : World) (R : W.Post) : Prop := W.asStr (W.Env.get? E 0) fun s0 => W.asStr (W.Env.get? E 1) fun others1 => W.asInt .i64 (W.Env.get? E 5) fun i5 => S4 s0 others1 i5 w R
theorem KE_S4_ok (R : W.Post) (E : W.Env) (w : World) (h : KE_S4 E w R) : W.WP Try.prog (W.cx 20) C9 (Q3 R) E w := by
  obtain ⟨s0, hq0, h1⟩ := W.asStr_elim h
  obtain ⟨others1, hq1, h2⟩ := W.asStr_elim h1
  obtain ⟨i5, hq5, h3⟩ := W.asInt_elim h2
  exact fun a ha => W.WP.at (n := (W.cx 20)) (E := [(0, .string s0), (1, .string others1), (5, .int .i64 i5)]) (W.WP.seq (c := C9) (x := C18) (y := C10) (by kernel_rfl) <| W.WP.reg (c := C18) (fun E w => KE_S5 E w R) (by kernel_rfl) (Eq.mp (by kernel_rfl) h3) fun _ _ a hA hK => (KE_S5_ok R _ _ hK) a hA) (ha.cons hq0 (ha.cons hq1 (ha.cons hq5 ha.nil)))
abbrev Q5 (R : W.Post) : Exit → Act → World → Prop := (bodyPost Try.prog Try.f51 R)
noncomputable def C19 : Code := W.Code.fst C6
noncomputable def C20 : Code := W.Code.snd C6
/-- ref.go:34 -/
abbrev S8  (w : World) (R : W.Post) : Prop :=
  R (.returned (.bool true)) w
def KE_S8 (E : W.Env) (w : World) (R : W.Post) : Prop := S8  w R
theorem KE_S8_ok (R : W.Post) (E : W.Env) (w : World) (h : KE_S8 E w R) : W.WP Try.prog (W.cx 20) C6 (Q5 R) E w := by
  exact fun a ha => W.WP.at (n := (W.cx 20)) (E := []) (W.WP.seq (c := C6) (x := C19) (y := C20) (by kernel_rfl) <| W.WP.reg (c := C19) (fun E w => W.retVC Try.prog Try.f51 E w (fun v => R (.returned v) w)) (by kernel_rfl) (Eq.mp (by kernel_rfl) h) fun _ _ a hA hK => (W.WP.ret (c := C20) (by kernel_rfl) fun a hA => W.retVC_sound hA hK) a hA) ha.nil
noncomputable def C21 : Code := W.Code.fst C5
abbrev Q6 (R : W.Post) : Exit → Act → World → Prop := (Exit.then (W.wpx Try.prog (W.cx 20) C7 (Exit.then (W.LoopWP Try.prog (W.cx 20) C5 (Q1 R)) (Q1 R))) (Exit.then (W.LoopWP Try.prog (W.cx 20) C5 (Q1 R)) (Q1 R)))
noncomputable def C22 : Code := W.Code.fst C21
noncomputable def C23 : Code := W.Code.snd C21
noncomputable def C24 : Code := W.Code.fst C23
noncomputable def C25 : Code := W.Code.snd C23
/-- ref.go:28 -/
abbrev S3 (s0 others1 : ByteArray) (i5 : Int) (w : World) (R : W.Post) : Prop :=
  W.sel (decide (i5 < ((s0.size : Nat) : Int))) (S4 s0 others1 i5 w R) (S8  w R)
def KE_S3 (E : W.Env) (w : World) (R : W.Post) : Prop := W.asStr (W.Env.get? E 0) fun s0 => W.asStr (W.Env.get? E 1) fun others1 => W.asInt .i64 (W.Env.get? E 5) fun i5 => S3 s0 others1 i5 w R
theorem KE_S3_ok (R : W.Post) (E : W.Env) (w : World) (h : KE_S3 E w R) : W.WP Try.prog (W.cx 20) C21 (Q6 R) E w := by
  obtain ⟨s0, hq0, h1⟩ := W.asStr_elim h
  obtain ⟨others1, hq1, h2⟩ := W.asStr_elim h1
  obtain ⟨i5, hq5, h3⟩ := W.asInt_elim h2
  exact fun a ha => W.WP.at (n := (W.cx 20)) (E := [(0, .string s0), (1, .string others1), (5, .int .i64 i5)]) (W.WP.seq (c := C21) (x := C22) (y := C23) (by kernel_rfl) <| W.WP.reg (c := C22) (fun E w => W.condK (W.Env.val E (.tmp 10)) (KE_S4 E w R) (KE_S8 E w R)) (by kernel_rfl) (Eq.mp (by kernel_rfl) h3) fun _ _ a hA hK => (W.WP.condK (c := C23) (x := C24) (y := C25) (o := .tmp 10) (by kernel_rfl) (fun hK => (W.WP.skip (c := C24) (by kernel_rfl) fun a hA => (W.WP.seq (c := C7) (x := C8) (y := C13) (by kernel_rfl) (W.WP.block (c := C8) (x := C9) (id := 1) (by kernel_rfl) (KE_S4_ok R _ _ hK))) a hA)) (fun hK => (W.WP.exit (c := C25) (id := 0) (by kernel_rfl) fun a hA => (KE_S8_ok R _ _ hK) a hA)) hK) a hA) (ha.cons hq0 (ha.cons hq1 (ha.cons hq5 ha.nil)))
theorem L2_step (s0 others1 : ByteArray) (i5 : Int) (w : World) (R : W.Post) (h : S3 s0 others1 i5 w R) : L2 s0 others1 i5 w R :=
  W.LP.step (n := (W.cx 20)) (c := C5) (E := [(0, .string s0), (1, .string others1), (5, .int .i64 i5)]) (w := w) (W.WP.seq (c := C5) (x := C21) (y := C7) (by kernel_rfl) (KE_S3_ok R _ _ (Eq.mp (by kernel_rfl) h)))
noncomputable def C26 : Code := W.Code.fst C2
/-- ref.go:28 -/
abbrev S1 (s0 others1 : ByteArray) (w : World) (R : W.Post) : Prop :=
  L2 s0 others1 0 w R
def KE_S1 (E : W.Env) (w : World) (R : W.Post) : Prop := W.asStr (W.Env.get? E 0) fun s0 => W.asStr (W.Env.get? E 1) fun others1 => S1 s0 others1 w R
theorem KE_S1_ok (R : W.Post) (E : W.Env) (w : World) (h : KE_S1 E w R) : W.WP Try.prog (W.cx 20) C2 (Q0 R) E w := by
  obtain ⟨s0, hq0, h1⟩ := W.asStr_elim h
  obtain ⟨others1, hq1, h2⟩ := W.asStr_elim h1
  exact fun a ha => W.WP.at (n := (W.cx 20)) (E := [(0, .string s0), (1, .string others1)]) (W.WP.seq (c := C2) (x := C26) (y := C3) (by kernel_rfl) <| W.WP.reg (c := C26) (fun E w => KE_L2 E w R) (by kernel_rfl) (Eq.mp (by kernel_rfl) h2) fun _ _ a hA hK => (W.WP.block (c := C3) (x := C4) (id := 0) (by kernel_rfl) (W.WP.loop (c := C4) (x := C5) (by kernel_rfl) (KE_L2_ok R _ _ hK))) a hA) (ha.cons hq0 (ha.cons hq1 ha.nil))
noncomputable def C27 : Code := W.Code.fst C0
/-- ref.go:27 -/
abbrev S0 (s0 others1 : ByteArray) (w : World) (R : W.Post) : Prop :=
  S1 s0 others1 w R
def KE_S0 (E : W.Env) (w : World) (R : W.Post) : Prop := W.asStr (W.Env.get? E 0) fun s0 => W.asStr (W.Env.get? E 1) fun others1 => S0 s0 others1 w R
theorem KE_S0_ok (R : W.Post) (E : W.Env) (w : World) (h : KE_S0 E w R) : W.WP Try.prog (W.cx 20) C0 (Q5 R) E w := by
  obtain ⟨s0, hq0, h1⟩ := W.asStr_elim h
  obtain ⟨others1, hq1, h2⟩ := W.asStr_elim h1
  exact fun a ha => W.WP.at (n := (W.cx 20)) (E := [(0, .string s0), (1, .string others1)]) (W.WP.seq (c := C0) (x := C27) (y := C1) (by kernel_rfl) <| W.WP.reg (c := C27) (fun E w => KE_S1 E w R) (by kernel_rfl) (Eq.mp (by kernel_rfl) h2) fun _ _ a hA hK => (W.WP.seq (c := C1) (x := C2) (y := C6) (by kernel_rfl) (KE_S1_ok R _ _ hK)) a hA) (ha.cons hq0 (ha.cons hq1 ha.nil))
/-- enthymeme/enthymemeref09.only -/
theorem ok (s0 others1 : ByteArray) (w : World) (R : W.Post) (h : S0 s0 others1 w R) : Calls Try.prog n_enthymemeref09_only #[.string s0, .string others1] w R :=
  W.calls_of_WP' (fn := Try.f51) (c := C0) (args := [.string s0, .string others1]) (by kernel_rfl) (by kernel_rfl) (by kernel_rfl) (KE_S0_ok R _ _ (Eq.mp (by kernel_rfl) h))
end enthymemeref09_only
namespace enthymemeref09_Plain
noncomputable def C0 : Code := (Try.f34.body).getD .skip
noncomputable def C1 : Code := W.Code.snd C0
noncomputable def C2 : Code := W.Code.snd C1
noncomputable def C3 : Code := W.Code.snd C2
noncomputable def C4 : Code := W.Code.snd C3
noncomputable def C5 : Code := W.Code.snd C4
noncomputable def C6 : Code := W.Code.fst C5
noncomputable def C7 : Code := W.Code.snd C6
noncomputable def C8 : Code := W.Code.fst C7
noncomputable def C9 : Code := W.Code.fst C8
noncomputable def C10 : Code := W.Code.snd C9
noncomputable def C11 : Code := W.Code.fst C10
noncomputable def C12 : Code := W.Code.snd C5
noncomputable def C13 : Code := W.Code.snd C8
abbrev Q0 (R : W.Post) : Exit → Act → World → Prop := (Exit.then (W.wpx Try.prog (W.cx 99) C13 (Exit.then (W.wpx Try.prog (W.cx 99) C12 (bodyPost Try.prog Try.f34 R)) (bodyPost Try.prog Try.f34 R))) (Exit.then (W.wpx Try.prog (W.cx 99) C12 (bodyPost Try.prog Try.f34 R)) (bodyPost Try.prog Try.f34 R)))
noncomputable def C14 : Code := W.Code.fst C11
noncomputable def C15 : Code := W.Code.snd C11
/-- ref.go:45 -/
abbrev S7  (w : World) (R : W.Post) : Prop :=
  R (.returned (.tuple #[.int .i64 0, .int .i64 6])) w
def KE_S7 (E : W.Env) (w : World) (R : W.Post) : Prop := S7  w R
theorem KE_S7_ok (R : W.Post) (E : W.Env) (w : World) (h : KE_S7 E w R) : W.WP Try.prog (W.cx 99) C11 (Q0 R) E w := by
  exact fun a ha => W.WP.at (n := (W.cx 99)) (E := []) (W.WP.seq (c := C11) (x := C14) (y := C15) (by kernel_rfl) <| W.WP.reg (c := C14) (fun E w => W.retVC Try.prog Try.f34 E w (fun v => R (.returned v) w)) (by kernel_rfl) (Eq.mp (by kernel_rfl) h) fun _ _ a hA hK => (W.WP.ret (c := C15) (by kernel_rfl) fun a hA => W.retVC_sound hA hK) a hA) ha.nil
abbrev Q1 (R : W.Post) : Exit → Act → World → Prop := (Exit.then (W.wpx Try.prog (W.cx 99) C12 (bodyPost Try.prog Try.f34 R)) (bodyPost Try.prog Try.f34 R))
noncomputable def C16 : Code := W.Code.fst C13
noncomputable def C17 : Code := W.Code.snd C13
/-- ref.go:47 -/
abbrev S8  (w : World) (R : W.Post) : Prop :=
  R (.returned (.tuple #[.int .i64 2, .int .i64 0])) w
def KE_S8 (E : W.Env) (w : World) (R : W.Post) : Prop := S8  w R
theorem KE_S8_ok (R : W.Post) (E : W.Env) (w : World) (h : KE_S8 E w R) : W.WP Try.prog (W.cx 99) C13 (Q1 R) E w := by
  exact fun a ha => W.WP.at (n := (W.cx 99)) (E := []) (W.WP.seq (c := C13) (x := C16) (y := C17) (by kernel_rfl) <| W.WP.reg (c := C16) (fun E w => W.retVC Try.prog Try.f34 E w (fun v => R (.returned v) w)) (by kernel_rfl) (Eq.mp (by kernel_rfl) h) fun _ _ a hA hK => (W.WP.ret (c := C17) (by kernel_rfl) fun a hA => W.retVC_sound hA hK) a hA) ha.nil
noncomputable def C18 : Code := W.Code.fst C9
noncomputable def C19 : Code := W.Code.snd C10
/-- ref.go:44 -/
abbrev S6 (s0 : ByteArray) (w : World) (R : W.Post) : Prop :=
  W.sel (decide (((s0.size : Nat) : Int) > 16)) (S7  w R) (S8  w R)
def KE_S6 (E : W.Env) (w : World) (R : W.Post) : Prop := W.asStr (W.Env.get? E 0) fun s0 => S6 s0 w R
theorem KE_S6_ok (R : W.Post) (E : W.Env) (w : World) (h : KE_S6 E w R) : W.WP Try.prog (W.cx 99) C9 (Q0 R) E w := by
  obtain ⟨s0, hq0, h1⟩ := W.asStr_elim h
  exact fun a ha => W.WP.at (n := (W.cx 99)) (E := [(0, .string s0)]) (W.WP.seq (c := C9) (x := C18) (y := C10) (by kernel_rfl) <| W.WP.reg (c := C18) (fun E w => W.condK (W.Env.val E (.tmp 27)) (KE_S7 E w R) (KE_S8 E w R)) (by kernel_rfl) (Eq.mp (by kernel_rfl) h1) fun _ _ a hA hK => (W.WP.condK (c := C10) (x := C11) (y := C19) (o := .tmp 27) (by kernel_rfl) (fun hK => (KE_S7_ok R _ _ hK)) (fun hK => (W.WP.skip (c := C19) (by kernel_rfl) fun a hA => (KE_S8_ok R _ _ hK) a hA)) hK) a hA) (ha.cons hq0 ha.nil)
noncomputable def C20 : Code := W.Code.fst C12
noncomputable def C21 : Code := W.Code.snd C20
noncomputable def C22 : Code := W.Code.fst C21
noncomputable def C23 : Code := W.Code.snd C22
noncomputable def C24 : Code := W.Code.snd C23
noncomputable def C25 : Code := W.Code.fst C24
noncomputable def C26 : Code := W.Code.snd C25
noncomputable def C27 : Code := W.Code.fst C26
noncomputable def C28 : Code := W.Code.snd C12
noncomputable def C29 : Code := W.Code.snd C24
abbrev Q2 (R : W.Post) : Exit → Act → World → Prop := (Exit.then (W.wpx Try.prog (W.cx 99) C29 (Exit.then (W.wpx Try.prog (W.cx 99) C28 (bodyPost Try.prog Try.f34 R)) (bodyPost Try.prog Try.f34 R))) (Exit.then (W.wpx Try.prog (W.cx 99) C28 (bodyPost Try.prog Try.f34 R)) (bodyPost Try.prog Try.f34 R)))
noncomputable def C30 : Code := W.Code.fst C27
noncomputable def C31 : Code := W.Code.snd C27
/-- ref.go:53 -/
abbrev S13  (w : World) (R : W.Post) : Prop :=
  R (.returned (.tuple #[.int .i64 0, .int .i64 4])) w
def KE_S13 (E : W.Env) (w : World) (R : W.Post) : Prop := S13  w R
theorem KE_S13_ok (R : W.Post) (E : W.Env) (w : World) (h : KE_S13 E w R) : W.WP Try.prog (W.cx 99) C27 (Q2 R) E w := by
  exact fun a ha => W.WP.at (n := (W.cx 99)) (E := []) (W.WP.seq (c := C27) (x := C30) (y := C31) (by kernel_rfl) <| W.WP.reg (c := C30) (fun E w => W.retVC Try.prog Try.f34 E w (fun v => R (.returned v) w)) (by kernel_rfl) (Eq.mp (by kernel_rfl) h) fun _ _ a hA hK => (W.WP.ret (c := C31) (by kernel_rfl) fun a hA => W.retVC_sound hA hK) a hA) ha.nil
noncomputable def C32 : Code := W.Code.snd C29
noncomputable def C33 : Code := W.Code.fst C32
abbrev Q3 (R : W.Post) : Exit → Act → World → Prop := (Exit.then (W.wpx Try.prog (W.cx 99) C28 (bodyPost Try.prog Try.f34 R)) (bodyPost Try.prog Try.f34 R))
noncomputable def C34 : Code := W.Code.fst C33
noncomputable def C35 : Code := W.Code.snd C33
/-- ref.go:56 -/
abbrev S15  (w : World) (R : W.Post) : Prop :=
  R (.returned (.tuple #[.int .i64 3, .int .i64 0])) w
def KE_S15 (E : W.Env) (w : World) (R : W.Post) : Prop := S15  w R
theorem KE_S15_ok (R : W.Post) (E : W.Env) (w : World) (h : KE_S15 E w R) : W.WP Try.prog (W.cx 99) C33 (Q3 R) E w := by
  exact fun a ha => W.WP.at (n := (W.cx 99)) (E := []) (W.WP.seq (c := C33) (x := C34) (y := C35) (by kernel_rfl) <| W.WP.reg (c := C34) (fun E w => W.retVC Try.prog Try.f34 E w (fun v => R (.returned v) w)) (by kernel_rfl) (Eq.mp (by kernel_rfl) h) fun _ _ a hA hK => (W.WP.ret (c := C35) (by kernel_rfl) fun a hA => W.retVC_sound hA hK) a hA) ha.nil
noncomputable def C36 : Code := W.Code.snd C28
noncomputable def C37 : Code := W.Code.fst C36
noncomputable def C38 : Code := W.Code.snd C37
noncomputable def C39 : Code := W.Code.fst C38
noncomputable def C40 : Code := W.Code.fst C39
noncomputable def C41 : Code := W.Code.snd C40
noncomputable def C42 : Code := W.Code.fst C41
noncomputable def C43 : Code := W.Code.snd C36
noncomputable def C44 : Code := W.Code.snd C39
abbrev Q4 (R : W.Post) : Exit → Act → World → Prop := (Exit.then (W.wpx Try.prog (W.cx 99) C44 (Exit.then (W.wpx Try.prog (W.cx 99) C43 (bodyPost Try.prog Try.f34 R)) (bodyPost Try.prog Try.f34 R))) (Exit.then (W.wpx Try.prog (W.cx 99) C43 (bodyPost Try.prog Try.f34 R)) (bodyPost Try.prog Try.f34 R)))
noncomputable def C45 : Code := W.Code.fst C42
noncomputable def C46 : Code := W.Code.snd C42
/-- ref.go:62 -/
abbrev S19  (w : World) (R : W.Post) : Prop :=
  R (.returned (.tuple #[.int .i64 0, .int .i64 4])) w
def KE_S19 (E : W.Env) (w : World) (R : W.Post) : Prop := S19  w R
theorem KE_S19_ok (R : W.Post) (E : W.Env) (w : World) (h : KE_S19 E w R) : W.WP Try.prog (W.cx 99) C42 (Q4 R) E w := by
  exact fun a ha => W.WP.at (n := (W.cx 99)) (E := []) (W.WP.seq (c := C42) (x := C45) (y := C46) (by kernel_rfl) <| W.WP.reg (c := C45) (fun E w => W.retVC Try.prog Try.f34 E w (fun v => R (.returned v) w)) (by kernel_rfl) (Eq.mp (by kernel_rfl) h) fun _ _ a hA hK => (W.WP.ret (c := C46) (by kernel_rfl) fun a hA => W.retVC_sound hA hK) a hA) ha.nil
abbrev Q5 (R : W.Post) : Exit → Act → World → Prop := (Exit.then (W.wpx Try.prog (W.cx 99) C43 (bodyPost Try.prog Try.f34 R)) (bodyPost Try.prog Try.f34 R))
noncomputable def C47 : Code := W.Code.fst C44
noncomputable def C48 : Code := W.Code.snd C44
/-- ref.go:64 -/
abbrev S20  (w : World) (R : W.Post) : Prop :=
  R (.returned (.tuple #[.int .i64 4, .int .i64 0])) w
def KE_S20 (E : W.Env) (w : World) (R : W.Post) : Prop := S20  w R
theorem KE_S20_ok (R : W.Post) (E : W.Env) (w : World) (h : KE_S20 E w R) : W.WP Try.prog (W.cx 99) C44 (Q5 R) E w := by
  exact fun a ha => W.WP.at (n := (W.cx 99)) (E := []) (W.WP.seq (c := C44) (x := C47) (y := C48) (by kernel_rfl) <| W.WP.reg (c := C47) (fun E w => W.retVC Try.prog Try.f34 E w (fun v => R (.returned v) w)) (by kernel_rfl) (Eq.mp (by kernel_rfl) h) fun _ _ a hA hK => (W.WP.ret (c := C48) (by kernel_rfl) fun a hA => W.retVC_sound hA hK) a hA) ha.nil
noncomputable def C49 : Code := W.Code.fst C40
noncomputable def C50 : Code := W.Code.snd C41
/-- ref.go:61 -/
abbrev S18 (s0 : ByteArray) (w : World) (R : W.Post) : Prop :=
  W.sel (decide (((s0.size : Nat) : Int) > 13)) (S19  w R) (S20  w R)
def KE_S18 (E : W.Env) (w : World) (R : W.Post) : Prop := W.asStr (W.Env.get? E 0) fun s0 => S18 s0 w R
theorem KE_S18_ok (R : W.Post) (E : W.Env) (w : World) (h : KE_S18 E w R) : W.WP Try.prog (W.cx 99) C40 (Q4 R) E w := by
  obtain ⟨s0, hq0, h1⟩ := W.asStr_elim h
  exact fun a ha => W.WP.at (n := (W.cx 99)) (E := [(0, .string s0)]) (W.WP.seq (c := C40) (x := C49) (y := C41) (by kernel_rfl) <| W.WP.reg (c := C49) (fun E w => W.condK (W.Env.val E (.tmp 98)) (KE_S19 E w R) (KE_S20 E w R)) (by kernel_rfl) (Eq.mp (by kernel_rfl) h1) fun _ _ a hA hK => (W.WP.condK (c := C41) (x := C42) (y := C50) (o := .tmp 98) (by kernel_rfl) (fun hK => (KE_S19_ok R _ _ hK)) (fun hK => (W.WP.skip (c := C50) (by kernel_rfl) fun a hA => (KE_S20_ok R _ _ hK) a hA)) hK) a hA) (ha.cons hq0 ha.nil)
abbrev Q6 (R : W.Post) : Exit → Act → World → Prop := (bodyPost Try.prog Try.f34 R)
noncomputable def C51 : Code := W.Code.fst C43
noncomputable def C52 : Code := W.Code.snd C43
/-- ref.go:66 -/
abbrev S21  (w : World) (R : W.Post) : Prop :=
  R (.returned (.tuple #[.int .i64 0, .int .i64 2])) w
def KE_S21 (E : W.Env) (w : World) (R : W.Post) : Prop := S21  w R
theorem KE_S21_ok (R : W.Post) (E : W.Env) (w : World) (h : KE_S21 E w R) : W.WP Try.prog (W.cx 99) C43 (Q6 R) E w := by
  exact fun a ha => W.WP.at (n := (W.cx 99)) (E := []) (W.WP.seq (c := C43) (x := C51) (y := C52) (by kernel_rfl) <| W.WP.reg (c := C51) (fun E w => W.retVC Try.prog Try.f34 E w (fun v => R (.returned v) w)) (by kernel_rfl) (Eq.mp (by kernel_rfl) h) fun _ _ a hA hK => (W.WP.ret (c := C52) (by kernel_rfl) fun a hA => W.retVC_sound hA hK) a hA) ha.nil
noncomputable def C53 : Code := W.Code.fst C37
noncomputable def C54 : Code := W.Code.snd C38
/-- ref.go:60 -/
abbrev S17 (s0 : ByteArray) (whole10 : Bool) (w : World) (R : W.Post) : Prop :=
  W.sel whole10 (W.sel (((s0.size : Nat) : Int) == 1) (S18 s0 w R) ((0 : Int) ≤ 0 ∧ ∃ t92_b : UInt8, s0[Int.toNat 0]? = some t92_b ∧ W.sel (((t92_b.toNat : Nat) : Int) != 48) (S18 s0 w R) (S21  w R))) (S21  w R)
def KE_S17 (E : W.Env) (w : World) (R : W.Post) : Prop := W.asStr (W.Env.get? E 0) fun s0 => W.asBool' (W.Env.get? E 10) fun whole10 => S17 s0 whole10 w R
theorem KE_S17_ok (R : W.Post) (E : W.Env) (w : World) (h : KE_S17 E w R) : W.WP Try.prog (W.cx 99) C37 (Q5 R) E w := by
  obtain ⟨s0, hq0, h1⟩ := W.asStr_elim h
  obtain ⟨whole10, hq10, h2⟩ := W.asBool_elim h1
  exact fun a ha => W.WP.at (n := (W.cx 99)) (E := [(0, .string s0), (10, .bool whole10)]) (W.WP.seq (c := C37) (x := C53) (y := C38) (by kernel_rfl) <| W.WP.reg (c := C53) (fun E w => W.condK (W.Env.val E (.tmp 95)) (KE_S18 E w R) (KE_S21 E w R)) (by kernel_rfl) (Eq.mp (by kernel_rfl) h2) fun _ _ a hA hK => (W.WP.condK (c := C38) (x := C39) (y := C54) (o := .tmp 95) (by kernel_rfl) (fun hK => (W.WP.seq (c := C39) (x := C40) (y := C44) (by kernel_rfl) (KE_S18_ok R _ _ hK))) (fun hK => (W.WP.skip (c := C54) (by kernel_rfl) fun a hA => (KE_S21_ok R _ _ hK) a hA)) hK) a hA) (ha.cons hq0 (ha.cons hq10 ha.nil))
noncomputable def C55 : Code := W.Code.fst C28
/-- ref.go:59 -/
abbrev S16 (s0 digits5 : ByteArray) (w : World) (R : W.Post) : Prop :=
  Calls Try.prog n_enthymemeref09_only #[.string s0, .string digits5] w fun r_ w1 => ∃ t84 : Bool, r_ = .returned (.bool t84) ∧ 
  S17 s0 t84 w1 R
def KE_S16 (E : W.Env) (w : World) (R : W.Post) : Prop := W.asStr (W.Env.get? E 0) fun s0 => W.asStr (W.Env.get? E 5) fun digits5 => S16 s0 digits5 w R
theorem KE_S16_ok (R : W.Post) (E : W.Env) (w : World) (h : KE_S16 E w R) : W.WP Try.prog (W.cx 99) C28 (Q6 R) E w := by
  obtain ⟨s0, hq0, h1⟩ := W.asStr_elim h
  obtain ⟨digits5, hq5, h2⟩ := W.asStr_elim h1
  exact fun a ha => W.WP.at (n := (W.cx 99)) (E := [(0, .string s0), (5, .string digits5)]) (W.WP.seq (c := C28) (x := C55) (y := C36) (by kernel_rfl) <| W.WP.reg (c := C55) (fun E w => KE_S17 E w R) (by kernel_rfl) (Eq.mp (by kernel_rfl) h2) fun _ _ a hA hK => (W.WP.seq (c := C36) (x := C37) (y := C43) (by kernel_rfl) (KE_S17_ok R _ _ hK)) a hA) (ha.cons hq0 (ha.cons hq5 ha.nil))
noncomputable def C56 : Code := W.Code.fst C29
noncomputable def C57 : Code := W.Code.snd C32
/-- ref.go:55 -/
abbrev S14 (s0 digits5 : ByteArray) (binary8 hex9 : Bool) (w : World) (R : W.Post) : Prop :=
  (0 : Int) ≤ 1 ∧ ∃ t69_b : UInt8, s0[Int.toNat 1]? = some t69_b ∧ W.sel (((t69_b.toNat : Nat) : Int) == 98) (W.sel binary8 (S15  w R) ((0 : Int) ≤ 1 ∧ ∃ t76_b : UInt8, s0[Int.toNat 1]? = some t76_b ∧ W.sel (((t76_b.toNat : Nat) : Int) == 120) (W.sel hex9 (S15  w R) (S16 s0 digits5 w R)) (S16 s0 digits5 w R))) ((0 : Int) ≤ 1 ∧ ∃ t76_b : UInt8, s0[Int.toNat 1]? = some t76_b ∧ W.sel (((t76_b.toNat : Nat) : Int) == 120) (W.sel hex9 (S15  w R) (S16 s0 digits5 w R)) (S16 s0 digits5 w R))
def KE_S14 (E : W.Env) (w : World) (R : W.Post) : Prop := W.asStr (W.Env.get? E 0) fun s0 => W.asStr (W.Env.get? E 5) fun digits5 => W.asBool' (W.Env.get? E 8) fun binary8 => W.asBool' (W.Env.get? E 9) fun hex9 => S14 s0 digits5 binary8 hex9 w R
theorem KE_S14_ok (R : W.Post) (E : W.Env) (w : World) (h : KE_S14 E w R) : W.WP Try.prog (W.cx 99) C29 (Q3 R) E w := by
  obtain ⟨s0, hq0, h1⟩ := W.asStr_elim h
  obtain ⟨digits5, hq5, h2⟩ := W.asStr_elim h1
  obtain ⟨binary8, hq8, h3⟩ := W.asBool_elim h2
  obtain ⟨hex9, hq9, h4⟩ := W.asBool_elim h3
  exact fun a ha => W.WP.at (n := (W.cx 99)) (E := [(0, .string s0), (5, .string digits5), (8, .bool binary8), (9, .bool hex9)]) (W.WP.seq (c := C29) (x := C56) (y := C32) (by kernel_rfl) <| W.WP.reg (c := C56) (fun E w => W.condK (W.Env.val E (.tmp 81)) (KE_S15 E w R) (KE_S16 E w R)) (by kernel_rfl) (Eq.mp (by kernel_rfl) h4) fun _ _ a hA hK => (W.WP.condK (c := C32) (x := C33) (y := C57) (o := .tmp 81) (by kernel_rfl) (fun hK => (KE_S15_ok R _ _ hK)) (fun hK => (W.WP.skip (c := C57) (by kernel_rfl) fun a hA => (KE_S16_ok R _ _ hK) a hA)) hK) a hA) (ha.cons hq0 (ha.cons hq5 (ha.cons hq8 (ha.cons hq9 ha.nil))))
noncomputable def C58 : Code := W.Code.fst C25
noncomputable def C59 : Code := W.Code.snd C26
/-- ref.go:52 -/
abbrev S12 (s0 digits5 : ByteArray) (binary8 hex9 : Bool) (w : World) (R : W.Post) : Prop :=
  (0 : Int) ≤ 1 ∧ ∃ t45_b : UInt8, s0[Int.toNat 1]? = some t45_b ∧ W.sel (((t45_b.toNat : Nat) : Int) == 98) (W.sel binary8 (W.sel (decide (((s0.size : Nat) : Int) > 66)) (S13  w R) ((0 : Int) ≤ 1 ∧ ∃ t57_b : UInt8, s0[Int.toNat 1]? = some t57_b ∧ W.sel (((t57_b.toNat : Nat) : Int) == 120) (W.sel hex9 (W.sel (decide (((s0.size : Nat) : Int) > 18)) (S13  w R) (S14 s0 digits5 binary8 hex9 w R)) (S14 s0 digits5 binary8 hex9 w R)) (S14 s0 digits5 binary8 hex9 w R))) ((0 : Int) ≤ 1 ∧ ∃ t57_b : UInt8, s0[Int.toNat 1]? = some t57_b ∧ W.sel (((t57_b.toNat : Nat) : Int) == 120) (W.sel hex9 (W.sel (decide (((s0.size : Nat) : Int) > 18)) (S13  w R) (S14 s0 digits5 binary8 hex9 w R)) (S14 s0 digits5 binary8 hex9 w R)) (S14 s0 digits5 binary8 hex9 w R))) ((0 : Int) ≤ 1 ∧ ∃ t57_b : UInt8, s0[Int.toNat 1]? = some t57_b ∧ W.sel (((t57_b.toNat : Nat) : Int) == 120) (W.sel hex9 (W.sel (decide (((s0.size : Nat) : Int) > 18)) (S13  w R) (S14 s0 digits5 binary8 hex9 w R)) (S14 s0 digits5 binary8 hex9 w R)) (S14 s0 digits5 binary8 hex9 w R))
def KE_S12 (E : W.Env) (w : World) (R : W.Post) : Prop := W.asStr (W.Env.get? E 0) fun s0 => W.asStr (W.Env.get? E 5) fun digits5 => W.asBool' (W.Env.get? E 8) fun binary8 => W.asBool' (W.Env.get? E 9) fun hex9 => S12 s0 digits5 binary8 hex9 w R
theorem KE_S12_ok (R : W.Post) (E : W.Env) (w : World) (h : KE_S12 E w R) : W.WP Try.prog (W.cx 99) C25 (Q2 R) E w := by
  obtain ⟨s0, hq0, h1⟩ := W.asStr_elim h
  obtain ⟨digits5, hq5, h2⟩ := W.asStr_elim h1
  obtain ⟨binary8, hq8, h3⟩ := W.asBool_elim h2
  obtain ⟨hex9, hq9, h4⟩ := W.asBool_elim h3
  exact fun a ha => W.WP.at (n := (W.cx 99)) (E := [(0, .string s0), (5, .string digits5), (8, .bool binary8), (9, .bool hex9)]) (W.WP.seq (c := C25) (x := C58) (y := C26) (by kernel_rfl) <| W.WP.reg (c := C58) (fun E w => W.condK (W.Env.val E (.tmp 67)) (KE_S13 E w R) (KE_S14 E w R)) (by kernel_rfl) (Eq.mp (by kernel_rfl) h4) fun _ _ a hA hK => (W.WP.condK (c := C26) (x := C27) (y := C59) (o := .tmp 67) (by kernel_rfl) (fun hK => (KE_S13_ok R _ _ hK)) (fun hK => (W.WP.skip (c := C59) (by kernel_rfl) fun a hA => (KE_S14_ok R _ _ hK) a hA)) hK) a hA) (ha.cons hq0 (ha.cons hq5 (ha.cons hq8 (ha.cons hq9 ha.nil))))
noncomputable def C60 : Code := W.Code.fst C23
/-- ref.go:51 -/
abbrev S11 (s0 digits5 : ByteArray) (binary8 : Bool) (w : World) (R : W.Post) : Prop :=
  (0 : Int) ≤ 2 ∧ 2 ≤ ((s0.size : Nat) : Int) ∧ ¬ (((digits5.size + (ByteArray.mk #[97, 98, 99, 100, 101, 102]).size : Nat) : Int) > IntKind.i64.max) ∧ Calls Try.prog n_enthymemeref09_only #[.string (s0.extract (Int.toNat 2) s0.size), .string (digits5 ++ (ByteArray.mk #[97, 98, 99, 100, 101, 102]))] w fun r_ w1 => ∃ t43 : Bool, r_ = .returned (.bool t43) ∧ 
  S12 s0 digits5 binary8 t43 w1 R
def KE_S11 (E : W.Env) (w : World) (R : W.Post) : Prop := W.asStr (W.Env.get? E 0) fun s0 => W.asStr (W.Env.get? E 5) fun digits5 => W.asBool' (W.Env.get? E 8) fun binary8 => S11 s0 digits5 binary8 w R
theorem KE_S11_ok (R : W.Post) (E : W.Env) (w : World) (h : KE_S11 E w R) : W.WP Try.prog (W.cx 99) C23 (Q3 R) E w := by
  obtain ⟨s0, hq0, h1⟩ := W.asStr_elim h
  obtain ⟨digits5, hq5, h2⟩ := W.asStr_elim h1
  obtain ⟨binary8, hq8, h3⟩ := W.asBool_elim h2
  exact fun a ha => W.WP.at (n := (W.cx 99)) (E := [(0, .string s0), (5, .string digits5), (8, .bool binary8)]) (W.WP.seq (c := C23) (x := C60) (y := C24) (by kernel_rfl) <| W.WP.reg (c := C60) (fun E w => KE_S12 E w R) (by kernel_rfl) (Eq.mp (by kernel_rfl) h3) fun _ _ a hA hK => (W.WP.seq (c := C24) (x := C25) (y := C29) (by kernel_rfl) (KE_S12_ok R _ _ hK)) a hA) (ha.cons hq0 (ha.cons hq5 (ha.cons hq8 ha.nil)))
noncomputable def C61 : Code := W.Code.fst C22
/-- ref.go:50 -/
abbrev S10 (s0 digits5 : ByteArray) (w : World) (R : W.Post) : Prop :=
  (0 : Int) ≤ 2 ∧ 2 ≤ ((s0.size : Nat) : Int) ∧ Calls Try.prog n_enthymemeref09_only #[.string (s0.extract (Int.toNat 2) s0.size), .string (ByteArray.mk #[48, 49])] w fun r_ w1 => ∃ t38 : Bool, r_ = .returned (.bool t38) ∧ 
  S11 s0 digits5 t38 w1 R
def KE_S10 (E : W.Env) (w : World) (R : W.Post) : Prop := W.asStr (W.Env.get? E 0) fun s0 => W.asStr (W.Env.get? E 5) fun digits5 => S10 s0 digits5 w R
theorem KE_S10_ok (R : W.Post) (E : W.Env) (w : World) (h : KE_S10 E w R) : W.WP Try.prog (W.cx 99) C22 (Q3 R) E w := by
  obtain ⟨s0, hq0, h1⟩ := W.asStr_elim h
  obtain ⟨digits5, hq5, h2⟩ := W.asStr_elim h1
  exact fun a ha => W.WP.at (n := (W.cx 99)) (E := [(0, .string s0), (5, .string digits5)]) (W.WP.seq (c := C22) (x := C61) (y := C23) (by kernel_rfl) <| W.WP.reg (c := C61) (fun E w => KE_S11 E w R) (by kernel_rfl) (Eq.mp (by kernel_rfl) h2) fun _ _ a hA hK => (KE_S11_ok R _ _ hK) a hA) (ha.cons hq0 (ha.cons hq5 ha.nil))
noncomputable def C62 : Code := W.Code.fst C20
noncomputable def C63 : Code := W.Code.snd C21
/-- ref.go:49 -/
abbrev S9 (s0 digits5 : ByteArray) (w : World) (R : W.Post) : Prop :=
  W.sel (decide (((s0.size : Nat) : Int) > 2)) ((0 : Int) ≤ 0 ∧ ∃ t33_b : UInt8, s0[Int.toNat 0]? = some t33_b ∧ W.sel (((t33_b.toNat : Nat) : Int) == 35) (S10 s0 digits5 w R) (S16 s0 digits5 w R)) (S16 s0 digits5 w R)
def KE_S9 (E : W.Env) (w : World) (R : W.Post) : Prop := W.asStr (W.Env.get? E 0) fun s0 => W.asStr (W.Env.get? E 5) fun digits5 => S9 s0 digits5 w R
theorem KE_S9_ok (R : W.Post) (E : W.Env) (w : World) (h : KE_S9 E w R) : W.WP Try.prog (W.cx 99) C20 (Q3 R) E w := by
  obtain ⟨s0, hq0, h1⟩ := W.asStr_elim h
  obtain ⟨digits5, hq5, h2⟩ := W.asStr_elim h1
  exact fun a ha => W.WP.at (n := (W.cx 99)) (E := [(0, .string s0), (5, .string digits5)]) (W.WP.seq (c := C20) (x := C62) (y := C21) (by kernel_rfl) <| W.WP.reg (c := C62) (fun E w => W.condK (W.Env.val E (.tmp 35)) (KE_S10 E w R) (KE_S16 E w R)) (by kernel_rfl) (Eq.mp (by kernel_rfl) h2) fun _ _ a hA hK => (W.WP.condK (c := C21) (x := C22) (y := C63) (o := .tmp 35) (by kernel_rfl) (fun hK => (KE_S10_ok R _ _ hK)) (fun hK => (W.WP.skip (c := C63) (by kernel_rfl) fun a hA => (KE_S16_ok R _ _ hK) a hA)) hK) a hA) (ha.cons hq0 (ha.cons hq5 ha.nil))
noncomputable def C64 : Code := W.Code.fst C6
noncomputable def C65 : Code := W.Code.snd C7
/-- ref.go:43 -/
abbrev S5 (s0 digits5 : ByteArray) (word6 first7 : Bool) (w : World) (R : W.Post) : Prop :=
  W.sel word6 (W.sel first7 (S6 s0 w R) (S9 s0 digits5 w R)) (S9 s0 digits5 w R)
def KE_S5 (E : W.Env) (w : World) (R : W.Post) : Prop := W.asStr (W.Env.get? E 0) fun s0 => W.asStr (W.Env.get? E 5) fun digits5 => W.asBool' (W.Env.get? E 6) fun word6 => W.asBool' (W.Env.get? E 7) fun first7 => S5 s0 digits5 word6 first7 w R
theorem KE_S5_ok (R : W.Post) (E : W.Env) (w : World) (h : KE_S5 E w R) : W.WP Try.prog (W.cx 99) C6 (Q1 R) E w := by
  obtain ⟨s0, hq0, h1⟩ := W.asStr_elim h
  obtain ⟨digits5, hq5, h2⟩ := W.asStr_elim h1
  obtain ⟨word6, hq6, h3⟩ := W.asBool_elim h2
  obtain ⟨first7, hq7, h4⟩ := W.asBool_elim h3
  exact fun a ha => W.WP.at (n := (W.cx 99)) (E := [(0, .string s0), (5, .string digits5), (6, .bool word6), (7, .bool first7)]) (W.WP.seq (c := C6) (x := C64) (y := C7) (by kernel_rfl) <| W.WP.reg (c := C64) (fun E w => W.condK (W.Env.val E (.tmp 24)) (KE_S6 E w R) (KE_S9 E w R)) (by kernel_rfl) (Eq.mp (by kernel_rfl) h4) fun _ _ a hA hK => (W.WP.condK (c := C7) (x := C8) (y := C65) (o := .tmp 24) (by kernel_rfl) (fun hK => (W.WP.seq (c := C8) (x := C9) (y := C13) (by kernel_rfl) (KE_S6_ok R _ _ hK))) (fun hK => (W.WP.skip (c := C65) (by kernel_rfl) fun a hA => (W.WP.seq (c := C12) (x := C20) (y := C28) (by kernel_rfl) (KE_S9_ok R _ _ hK)) a hA)) hK) a hA) (ha.cons hq0 (ha.cons hq5 (ha.cons hq6 (ha.cons hq7 ha.nil))))
noncomputable def C66 : Code := W.Code.fst C4
/-- ref.go:42 -/
abbrev S4 (s0 letters4 digits5 : ByteArray) (word6 : Bool) (w : World) (R : W.Post) : Prop :=
  (0 : Int) ≤ 0 ∧ ∃ t18_b : UInt8, s0[Int.toNat 0]? = some t18_b ∧ Calls Try.prog n_enthymemeref09_in #[.int .u8 ((t18_b.toNat : Nat) : Int), .string letters4] w fun r_ w1 => ∃ t20 : Bool, r_ = .returned (.bool t20) ∧ 
  S5 s0 digits5 word6 t20 w1 R
def KE_S4 (E : W.Env) (w : World) (R : W.Post) : Prop := W.asStr (W.Env.get? E 0) fun s0 => W.asStr (W.Env.get? E 4) fun letters4 => W.asStr (W.Env.get? E 5) fun digits5 => W.asBool' (W.Env.get? E 6) fun word6 => S4 s0 letters4 digits5 word6 w R
theorem KE_S4_ok (R : W.Post) (E : W.Env) (w : World) (h : KE_S4 E w R) : W.WP Try.prog (W.cx 99) C4 (Q6 R) E w := by
  obtain ⟨s0, hq0, h1⟩ := W.asStr_elim h
  obtain ⟨letters4, hq4, h2⟩ := W.asStr_elim h1
  obtain ⟨digits5, hq5, h3⟩ := W.asStr_elim h2
  obtain ⟨word6, hq6, h4⟩ := W.asBool_elim h3
  exact fun a ha => W.WP.at (n := (W.cx 99)) (E := [(0, .string s0), (4, .string letters4), (5, .string digits5), (6, .bool word6)]) (W.WP.seq (c := C4) (x := C66) (y := C5) (by kernel_rfl) <| W.WP.reg (c := C66) (fun E w => KE_S5 E w R) (by kernel_rfl) (Eq.mp (by kernel_rfl) h4) fun _ _ a hA hK => (W.WP.seq (c := C5) (x := C6) (y := C12) (by kernel_rfl) (KE_S5_ok R _ _ hK)) a hA) (ha.cons hq0 (ha.cons hq4 (ha.cons hq5 (ha.cons hq6 ha.nil))))
noncomputable def C67 : Code := W.Code.fst C3
/-- ref.go:41 -/
abbrev S3 (s0 letters4 digits5 : ByteArray) (w : World) (R : W.Post) : Prop :=
  ¬ (((letters4.size + digits5.size : Nat) : Int) > IntKind.i64.max) ∧ ¬ ((((letters4 ++ digits5).size + (ByteArray.mk #[45]).size : Nat) : Int) > IntKind.i64.max) ∧ Calls Try.prog n_enthymemeref09_only #[.string s0, .string ((letters4 ++ digits5) ++ (ByteArray.mk #[45]))] w fun r_ w1 => ∃ t16 : Bool, r_ = .returned (.bool t16) ∧ 
  S4 s0 letters4 digits5 t16 w1 R
def KE_S3 (E : W.Env) (w : World) (R : W.Post) : Prop := W.asStr (W.Env.get? E 0) fun s0 => W.asStr (W.Env.get? E 4) fun letters4 => W.asStr (W.Env.get? E 5) fun digits5 => S3 s0 letters4 digits5 w R
theorem KE_S3_ok (R : W.Post) (E : W.Env) (w : World) (h : KE_S3 E w R) : W.WP Try.prog (W.cx 99) C3 (Q6 R) E w := by
  obtain ⟨s0, hq0, h1⟩ := W.asStr_elim h
  obtain ⟨letters4, hq4, h2⟩ := W.asStr_elim h1
  obtain ⟨digits5, hq5, h3⟩ := W.asStr_elim h2
  exact fun a ha => W.WP.at (n := (W.cx 99)) (E := [(0, .string s0), (4, .string letters4), (5, .string digits5)]) (W.WP.seq (c := C3) (x := C67) (y := C4) (by kernel_rfl) <| W.WP.reg (c := C67) (fun E w => KE_S4 E w R) (by kernel_rfl) (Eq.mp (by kernel_rfl) h3) fun _ _ a hA hK => (KE_S4_ok R _ _ hK) a hA) (ha.cons hq0 (ha.cons hq4 (ha.cons hq5 ha.nil)))
noncomputable def C68 : Code := W.Code.fst C2
/-- ref.go:40 -/
abbrev S2 (s0 letters4 : ByteArray) (w : World) (R : W.Post) : Prop :=
  S3 s0 letters4 (ByteArray.mk #[48, 49, 50, 51, 52, 53, 54, 55, 56, 57]) w R
def KE_S2 (E : W.Env) (w : World) (R : W.Post) : Prop := W.asStr (W.Env.get? E 0) fun s0 => W.asStr (W.Env.get? E 4) fun letters4 => S2 s0 letters4 w R
theorem KE_S2_ok (R : W.Post) (E : W.Env) (w : World) (h : KE_S2 E w R) : W.WP Try.prog (W.cx 99) C2 (Q6 R) E w := by
  obtain ⟨s0, hq0, h1⟩ := W.asStr_elim h
  obtain ⟨letters4, hq4, h2⟩ := W.asStr_elim h1
  exact fun a ha => W.WP.at (n := (W.cx 99)) (E := [(0, .string s0), (4, .string letters4)]) (W.WP.seq (c := C2) (x := C68) (y := C3) (by kernel_rfl) <| W.WP.reg (c := C68) (fun E w => KE_S3 E w R) (by kernel_rfl) (Eq.mp (by kernel_rfl) h2) fun _ _ a hA hK => (KE_S3_ok R _ _ hK) a hA) (ha.cons hq0 (ha.cons hq4 ha.nil))
noncomputable def C69 : Code := W.Code.fst C1
/-- ref.go:39 -/
abbrev S1 (s0 : ByteArray) (w : World) (R : W.Post) : Prop :=
  S2 s0 (ByteArray.mk #[97, 98, 99, 100, 101, 102, 103, 104, 105, 106, 107, 108, 109, 110, 111, 112, 113, 114, 115, 116, 117, 118, 119, 120, 121, 122]) w R
def KE_S1 (E : W.Env) (w : World) (R : W.Post) : Prop := W.asStr (W.Env.get? E 0) fun s0 => S1 s0 w R
theorem KE_S1_ok (R : W.Post) (E : W.Env) (w : World) (h : KE_S1 E w R) : W.WP Try.prog (W.cx 99) C1 (Q6 R) E w := by
  obtain ⟨s0, hq0, h1⟩ := W.asStr_elim h
  exact fun a ha => W.WP.at (n := (W.cx 99)) (E := [(0, .string s0)]) (W.WP.seq (c := C1) (x := C69) (y := C2) (by kernel_rfl) <| W.WP.reg (c := C69) (fun E w => KE_S2 E w R) (by kernel_rfl) (Eq.mp (by kernel_rfl) h1) fun _ _ a hA hK => (KE_S2_ok R _ _ hK) a hA) (ha.cons hq0 ha.nil)
noncomputable def C70 : Code := W.Code.fst C0
/-- ref.go:38 -/
abbrev S0 (s0 : ByteArray) (w : World) (R : W.Post) : Prop :=
  S1 s0 w R
def KE_S0 (E : W.Env) (w : World) (R : W.Post) : Prop := W.asStr (W.Env.get? E 0) fun s0 => S0 s0 w R
theorem KE_S0_ok (R : W.Post) (E : W.Env) (w : World) (h : KE_S0 E w R) : W.WP Try.prog (W.cx 99) C0 (Q6 R) E w := by
  obtain ⟨s0, hq0, h1⟩ := W.asStr_elim h
  exact fun a ha => W.WP.at (n := (W.cx 99)) (E := [(0, .string s0)]) (W.WP.seq (c := C0) (x := C70) (y := C1) (by kernel_rfl) <| W.WP.reg (c := C70) (fun E w => KE_S1 E w R) (by kernel_rfl) (Eq.mp (by kernel_rfl) h1) fun _ _ a hA hK => (KE_S1_ok R _ _ hK) a hA) (ha.cons hq0 ha.nil)
/-- enthymeme/enthymemeref09.Plain -/
theorem ok (s0 : ByteArray) (w : World) (R : W.Post) (h : S0 s0 w R) : Calls Try.prog n_enthymemeref09_Plain #[.string s0] w R :=
  W.calls_of_WP' (fn := Try.f34) (c := C0) (args := [.string s0]) (by kernel_rfl) (by kernel_rfl) (by kernel_rfl) (KE_S0_ok R _ _ (Eq.mp (by kernel_rfl) h))
end enthymemeref09_Plain
namespace enthymemeref09_value
noncomputable def C0 : Code := (Try.f50.body).getD .skip
noncomputable def C1 : Code := W.Code.snd C0
noncomputable def C2 : Code := W.Code.snd C1
noncomputable def C3 : Code := W.Code.fst C2
noncomputable def C4 : Code := W.Code.snd C3
noncomputable def C5 : Code := W.Code.fst C4
noncomputable def C6 : Code := W.Code.fst C5
noncomputable def C7 : Code := W.Code.snd C2
abbrev Q0 (R : W.Post) : Exit → Act → World → Prop := (Exit.then (W.wpx Try.prog (W.cx 15) C7 (bodyPost Try.prog Try.f50 R)) (bodyPost Try.prog Try.f50 R))
abbrev Q1 (R : W.Post) : Exit → Act → World → Prop := (Exit.inBlock 0 (Q0 R))
/-- the head of the loop, ref.go:72 -/
def L3 (c0 : Int) (digits3 : ByteArray) (i4 : Int) (w : World) (R : W.Post) : Prop := W.LP Try.prog (W.cx 15) C6 (Q1 R) [(0, .int .u8 c0), (3, .string digits3), (4, .int .i64 i4)] w
def KE_L3 (E : W.Env) (w : World) (R : W.Post) : Prop := W.asInt .u8 (W.Env.get? E 0) fun c0 => W.asStr (W.Env.get? E 3) fun digits3 => W.asInt .i64 (W.Env.get? E 4) fun i4 => L3 c0 digits3 i4 w R
theorem KE_L3_ok (R : W.Post) (E : W.Env) (w : World) (h : KE_L3 E w R) : W.LP Try.prog (W.cx 15) C6 (Q1 R) E w := by
  obtain ⟨c0, hq0, h1⟩ := W.asInt_elim h
  obtain ⟨digits3, hq3, h2⟩ := W.asStr_elim h1
  obtain ⟨i4, hq4, h3⟩ := W.asInt_elim h2
  intro a ha
  exact h3 a (ha.cons hq0 (ha.cons hq3 (ha.cons hq4 ha.nil)))
noncomputable def C8 : Code := W.Code.snd C6
noncomputable def C9 : Code := W.Code.fst C8
noncomputable def C10 : Code := W.Code.fst C9
noncomputable def C11 : Code := W.Code.snd C10
noncomputable def C12 : Code := W.Code.fst C11
noncomputable def C13 : Code := W.Code.snd C8
abbrev Q2 (R : W.Post) : Exit → Act → World → Prop := (Exit.then (W.wpx Try.prog (W.cx 15) C13 (Exit.then (W.LoopWP Try.prog (W.cx 15) C6 (Q1 R)) (Q1 R))) (Exit.then (W.LoopWP Try.prog (W.cx 15) C6 (Q1 R)) (Q1 R)))
abbrev Q3 (R : W.Post) : Exit → Act → World → Prop := (Exit.inBlock 1 (Q2 R))
noncomputable def C14 : Code := W.Code.fst C12
noncomputable def C15 : Code := W.Code.snd C12
/-- ref.go:74 -/
abbrev S6 (i4 : Int) (w : World) (R : W.Post) : Prop :=
  R (.returned (.int .i64 i4)) w
def KE_S6 (E : W.Env) (w : World) (R : W.Post) : Prop := W.asInt .i64 (W.Env.get? E 4) fun i4 => S6 i4 w R
theorem KE_S6_ok (R : W.Post) (E : W.Env) (w : World) (h : KE_S6 E w R) : W.WP Try.prog (W.cx 15) C12 (Q3 R) E w := by
  obtain ⟨i4, hq4, h1⟩ := W.asInt_elim h
  exact fun a ha => W.WP.at (n := (W.cx 15)) (E := [(4, .int .i64 i4)]) (W.WP.seq (c := C12) (x := C14) (y := C15) (by kernel_rfl) <| W.WP.reg (c := C14) (fun E w => W.retVC Try.prog Try.f50 E w (fun v => R (.returned v) w)) (by kernel_rfl) (Eq.mp (by kernel_rfl) h1) fun _ _ a hA hK => (W.WP.ret (c := C15) (by kernel_rfl) fun a hA => W.retVC_sound hA hK) a hA) (ha.cons hq4 ha.nil)
abbrev Q4 (R : W.Post) : Exit → Act → World → Prop := (Exit.then (W.LoopWP Try.prog (W.cx 15) C6 (Q1 R)) (Q1 R))
/-- ref.go:72 -/
abbrev S7 (c0 : Int) (digits3 : ByteArray) (i4 : Int) (w : World) (R : W.Post) : Prop :=
  L3 c0 digits3 (IntKind.wrap .i64 (i4 + 1)) w R
def KE_S7 (E : W.Env) (w : World) (R : W.Post) : Prop := W.asInt .u8 (W.Env.get? E 0) fun c0 => W.asStr (W.Env.get? E 3) fun digits3 => W.asInt .i64 (W.Env.get? E 4) fun i4 => S7 c0 digits3 i4 w R
theorem KE_S7_ok (R : W.Post) (E : W.Env) (w : World) (h : KE_S7 E w R) : W.WP Try.prog (W.cx 15) C13 (Q4 R) E w := by
  obtain ⟨c0, hq0, h1⟩ := W.asInt_elim h
  obtain ⟨digits3, hq3, h2⟩ := W.asStr_elim h1
  obtain ⟨i4, hq4, h3⟩ := W.asInt_elim h2
  exact fun a ha => W.WP.at (n := (W.cx 15)) (E := [(0, .int .u8 c0), (3, .string digits3), (4, .int .i64 i4)]) (W.WP.reg (c := C13) (fun E w => KE_L3 E w R) (by kernel_rfl) (Eq.mp (by kernel_rfl) h3) fun _ _ a hA hK => KE_L3_ok R _ _ hK a hA) (ha.cons hq0 (ha.cons hq3 (ha.cons hq4 ha.nil)))
noncomputable def C16 : Code := W.Code.fst C10
noncomputable def C17 : Code := W.Code.snd C11
/-- ref.go:73 -/
abbrev S5 (c0 : Int) (digits3 : ByteArray) (i4 : Int) (w : World) (R : W.Post) : Prop :=
  (0 : Int) ≤ i4 ∧ ∃ t11_b : UInt8, digits3[Int.toNat i4]? = some t11_b ∧ W.sel (((t11_b.toNat : Nat) : Int) == c0) (S6 i4 w R) (S7 c0 digits3 i4 w R)
def KE_S5 (E : W.Env) (w : World) (R : W.Post) : Prop := W.asInt .u8 (W.Env.get? E 0) fun c0 => W.asStr (W.Env.get? E 3) fun digits3 => W.asInt .i64 (W.Env.get? E 4) fun i4 => S5 c0 digits3 i4 w R
theorem KE_S5_ok (R : W.Post) (E : W.Env) (w : World) (h : KE_S5 E w R) : W.WP Try.prog (W.cx 15) C10 (Q3 R) E w := by
  obtain ⟨c0, hq0, h1⟩ := W.asInt_elim h
  obtain ⟨digits3, hq3, h2⟩ := W.asStr_elim h1
  obtain ⟨i4, hq4, h3⟩ := W.asInt_elim h2
  exact fun a ha => W.WP.at (n := (W.cx 15)) (E := [(0, .int .u8 c0), (3, .string digits3), (4, .int .i64 i4)]) (W.WP.seq (c := C10) (x := C16) (y := C11) (by kernel_rfl) <| W.WP.reg (c := C16) (fun E w => W.condK (W.Env.val E (.tmp 13)) (KE_S6 E w R) (KE_S7 E w R)) (by kernel_rfl) (Eq.mp (by kernel_rfl) h3) fun _ _ a hA hK => (W.WP.condK (c := C11) (x := C12) (y := C17) (o := .tmp 13) (by kernel_rfl) (fun hK => (KE_S6_ok R _ _ hK)) (fun hK => (W.WP.skip (c := C17) (by kernel_rfl) fun a hA => (KE_S7_ok R _ _ hK) a hA)) hK) a hA) (ha.cons hq0 (ha.cons hq3 (ha.cons hq4 ha.nil)))
abbrev Q5 (R : W.Post) : Exit → Act → World → Prop := (bodyPost Try.prog Try.f50 R)
noncomputable def C18 : Code := W.Code.fst C7
noncomputable def C19 : Code := W.Code.snd C7
/-- ref.go:77 -/
abbrev S8  (w : World) (R : W.Post) : Prop :=
  R (.returned (.int .i64 (-1))) w
def KE_S8 (E : W.Env) (w : World) (R : W.Post) : Prop := S8  w R
theorem KE_S8_ok (R : W.Post) (E : W.Env) (w : World) (h : KE_S8 E w R) : W.WP Try.prog (W.cx 15) C7 (Q5 R) E w := by
  exact fun a ha => W.WP.at (n := (W.cx 15)) (E := []) (W.WP.seq (c := C7) (x := C18) (y := C19) (by kernel_rfl) <| W.WP.reg (c := C18) (fun E w => W.retVC Try.prog Try.f50 E w (fun v => R (.returned v) w)) (by kernel_rfl) (Eq.mp (by kernel_rfl) h) fun _ _ a hA hK => (W.WP.ret (c := C19) (by kernel_rfl) fun a hA => W.retVC_sound hA hK) a hA) ha.nil
noncomputable def C20 : Code := W.Code.fst C6
abbrev Q6 (R : W.Post) : Exit → Act → World → Prop := (Exit.then (W.wpx Try.prog (W.cx 15) C8 (Exit.then (W.LoopWP Try.prog (W.cx 15) C6 (Q1 R)) (Q1 R))) (Exit.then (W.LoopWP Try.prog (W.cx 15) C6 (Q1 R)) (Q1 R)))
noncomputable def C21 : Code := W.Code.fst C20
noncomputable def C22 : Code := W.Code.snd C20
noncomputable def C23 : Code := W.Code.fst C22
noncomputable def C24 : Code := W.Code.snd C22
/-- ref.go:72 -/
abbrev S4 (c0 : Int) (digits3 : ByteArray) (i4 : Int) (w : World) (R : W.Post) : Prop :=
  W.sel (decide (i4 < 16)) (S5 c0 digits3 i4 w R) (S8  w R)
def KE_S4 (E : W.Env) (w : World) (R : W.Post) : Prop := W.asInt .u8 (W.Env.get? E 0) fun c0 => W.asStr (W.Env.get? E 3) fun digits3 => W.asInt .i64 (W.Env.get? E 4) fun i4 => S4 c0 digits3 i4 w R
theorem KE_S4_ok (R : W.Post) (E : W.Env) (w : World) (h : KE_S4 E w R) : W.WP Try.prog (W.cx 15) C20 (Q6 R) E w := by
  obtain ⟨c0, hq0, h1⟩ := W.asInt_elim h
  obtain ⟨digits3, hq3, h2⟩ := W.asStr_elim h1
  obtain ⟨i4, hq4, h3⟩ := W.asInt_elim h2
  exact fun a ha => W.WP.at (n := (W.cx 15)) (E := [(0, .int .u8 c0), (3, .string digits3), (4, .int .i64 i4)]) (W.WP.seq (c := C20) (x := C21) (y := C22) (by kernel_rfl) <| W.WP.reg (c := C21) (fun E w => W.condK (W.Env.val E (.tmp 6)) (KE_S5 E w R) (KE_S8 E w R)) (by kernel_rfl) (Eq.mp (by kernel_rfl) h3) fun _ _ a hA hK => (W.WP.condK (c := C22) (x := C23) (y := C24) (o := .tmp 6) (by kernel_rfl) (fun hK => (W.WP.skip (c := C23) (by kernel_rfl) fun a hA => (W.WP.seq (c := C8) (x := C9) (y := C13) (by kernel_rfl) (W.WP.block (c := C9) (x := C10) (id := 1) (by kernel_rfl) (KE_S5_ok R _ _ hK))) a hA)) (fun hK => (W.WP.exit (c := C24) (id := 0) (by kernel_rfl) fun a hA => (KE_S8_ok R _ _ hK) a hA)) hK) a hA) (ha.cons hq0 (ha.cons hq3 (ha.cons hq4 ha.nil)))
theorem L3_step (c0 : Int) (digits3 : ByteArray) (i4 : Int) (w : World) (R : W.Post) (h : S4 c0 digits3 i4 w R) : L3 c0 digits3 i4 w R :=
  W.LP.step (n := (W.cx 15)) (c := C6) (E := [(0, .int .u8 c0), (3, .string digits3), (4, .int .i64 i4)]) (w := w) (W.WP.seq (c := C6) (x := C20) (y := C8) (by kernel_rfl) (KE_S4_ok R _ _ (Eq.mp (by kernel_rfl) h)))
noncomputable def C25 : Code := W.Code.fst C3
/-- ref.go:72 -/
abbrev S2 (c0 : Int) (digits3 : ByteArray) (w : World) (R : W.Post) : Prop :=
  L3 c0 digits3 0 w R
def KE_S2 (E : W.Env) (w : World) (R : W.Post) : Prop := W.asInt .u8 (W.Env.get? E 0) fun c0 => W.asStr (W.Env.get? E 3) fun digits3 => S2 c0 digits3 w R
theorem KE_S2_ok (R : W.Post) (E : W.Env) (w : World) (h : KE_S2 E w R) : W.WP Try.prog (W.cx 15) C3 (Q0 R) E w := by
  obtain ⟨c0, hq0, h1⟩ := W.asInt_elim h
  obtain ⟨digits3, hq3, h2⟩ := W.asStr_elim h1
  exact fun a ha => W.WP.at (n := (W.cx 15)) (E := [(0, .int .u8 c0), (3, .string digits3)]) (W.WP.seq (c := C3) (x := C25) (y := C4) (by kernel_rfl) <| W.WP.reg (c := C25) (fun E w => KE_L3 E w R) (by kernel_rfl) (Eq.mp (by kernel_rfl) h2) fun _ _ a hA hK => (W.WP.block (c := C4) (x := C5) (id := 0) (by kernel_rfl) (W.WP.loop (c := C5) (x := C6) (by kernel_rfl) (KE_L3_ok R _ _ hK))) a hA) (ha.cons hq0 (ha.cons hq3 ha.nil))
noncomputable def C26 : Code := W.Code.fst C1
/-- ref.go:71 -/
abbrev S1 (c0 : Int) (w : World) (R : W.Post) : Prop :=
  S2 c0 (ByteArray.mk #[48, 49, 50, 51, 52, 53, 54, 55, 56, 57, 97, 98, 99, 100, 101, 102]) w R
def KE_S1 (E : W.Env) (w : World) (R : W.Post) : Prop := W.asInt .u8 (W.Env.get? E 0) fun c0 => S1 c0 w R
theorem KE_S1_ok (R : W.Post) (E : W.Env) (w : World) (h : KE_S1 E w R) : W.WP Try.prog (W.cx 15) C1 (Q5 R) E w := by
  obtain ⟨c0, hq0, h1⟩ := W.asInt_elim h
  exact fun a ha => W.WP.at (n := (W.cx 15)) (E := [(0, .int .u8 c0)]) (W.WP.seq (c := C1) (x := C26) (y := C2) (by kernel_rfl) <| W.WP.reg (c := C26) (fun E w => KE_S2 E w R) (by kernel_rfl) (Eq.mp (by kernel_rfl) h1) fun _ _ a hA hK => (W.WP.seq (c := C2) (x := C3) (y := C7) (by kernel_rfl) (KE_S2_ok R _ _ hK)) a hA) (ha.cons hq0 ha.nil)
noncomputable def C27 : Code := W.Code.fst C0
/-- ref.go:70 -/
abbrev S0 (c0 : Int) (w : World) (R : W.Post) : Prop :=
  S1 c0 w R
def KE_S0 (E : W.Env) (w : World) (R : W.Post) : Prop := W.asInt .u8 (W.Env.get? E 0) fun c0 => S0 c0 w R
theorem KE_S0_ok (R : W.Post) (E : W.Env) (w : World) (h : KE_S0 E w R) : W.WP Try.prog (W.cx 15) C0 (Q5 R) E w := by
  obtain ⟨c0, hq0, h1⟩ := W.asInt_elim h
  exact fun a ha => W.WP.at (n := (W.cx 15)) (E := [(0, .int .u8 c0)]) (W.WP.seq (c := C0) (x := C27) (y := C1) (by kernel_rfl) <| W.WP.reg (c := C27) (fun E w => KE_S1 E w R) (by kernel_rfl) (Eq.mp (by kernel_rfl) h1) fun _ _ a hA hK => (KE_S1_ok R _ _ hK) a hA) (ha.cons hq0 ha.nil)
/-- enthymeme/enthymemeref09.value -/
theorem ok (c0 : Int) (w : World) (R : W.Post) (h : S0 c0 w R) : Calls Try.prog n_enthymemeref09_value #[.int .u8 c0] w R :=
  W.calls_of_WP' (fn := Try.f50) (c := C0) (args := [.int .u8 c0]) (by kernel_rfl) (by kernel_rfl) (by kernel_rfl) (KE_S0_ok R _ _ (Eq.mp (by kernel_rfl) h))
end enthymemeref09_value
namespace enthymemeref09_quoted
noncomputable def C0 : Code := (Try.f33.body).getD .skip
noncomputable def C1 : Code := W.Code.snd C0
noncomputable def C2 : Code := W.Code.snd C1
noncomputable def C3 : Code := W.Code.snd C2
noncomputable def C4 : Code := W.Code.fst C3
noncomputable def C5 : Code := W.Code.fst C4
noncomputable def C6 : Code := W.Code.fst C5
noncomputable def C7 : Code := W.Code.snd C3
abbrev Q0 (R : W.Post) : Exit → Act → World → Prop := (Exit.then (W.wpx Try.prog (W.cx 104) C7 (bodyPost Try.prog Try.f33 R)) (bodyPost Try.prog Try.f33 R))
abbrev Q1 (R : W.Post) : Exit → Act → World → Prop := (Exit.inBlock 0 (Q0 R))
/-- the head of the loop, ref.go:84 -/
def L3 (s0 : ByteArray) (out7 : W.Sl) (i8 : Int) (w : World) (R : W.Post) : Prop := W.LP Try.prog (W.cx 104) C6 (Q1 R) [(0, .string s0), (7, out7.v), (8, .int .i64 i8)] w
def KE_L3 (E : W.Env) (w : World) (R : W.Post) : Prop := W.asStr (W.Env.get? E 0) fun s0 => W.asSlice (W.Env.get? E 7) fun out7 => W.asInt .i64 (W.Env.get? E 8) fun i8 => L3 s0 out7 i8 w R
theorem KE_L3_ok (R : W.Post) (E : W.Env) (w : World) (h : KE_L3 E w R) : W.LP Try.prog (W.cx 104) C6 (Q1 R) E w := by
  obtain ⟨s0, hq0, h1⟩ := W.asStr_elim h
  obtain ⟨out7, hq7, h2⟩ := W.asSlice_elim h1
  obtain ⟨i8, hq8, h3⟩ := W.asInt_elim h2
  intro a ha
  exact h3 a (ha.cons hq0 (ha.cons hq7 (ha.cons hq8 ha.nil)))
noncomputable def C8 : Code := W.Code.snd C6
noncomputable def C9 : Code := W.Code.fst C8
noncomputable def C10 : Code := W.Code.snd C9
noncomputable def C11 : Code := W.Code.fst C10
noncomputable def C12 : Code := W.Code.snd C11
noncomputable def C13 : Code := W.Code.fst C12
abbrev Q2 (R : W.Post) : Exit → Act → World → Prop := (Exit.then (W.LoopWP Try.prog (W.cx 104) C6 (Q1 R)) (Q1 R))
noncomputable def C14 : Code := W.Code.snd C10
abbrev Q3 (R : W.Post) : Exit → Act → World → Prop := (Exit.then (W.wpx Try.prog (W.cx 104) C14 (Exit.inBlock 1 (Q2 R))) (Exit.inBlock 1 (Q2 R)))
noncomputable def C15 : Code := W.Code.fst C13
noncomputable def C16 : Code := W.Code.snd C13
/-- ref.go:87 -/
abbrev S7 (out7 : W.Sl) (i8 : Int) (w : World) (R : W.Post) : Prop :=
  ∃ t26 : ByteArray, Sem.run Try.prog (Go.convert ty_sl_uint8 ty_string (out7.v)) w = .ok (.string t26) w ∧ R (.returned (.tuple #[.string t26, .int .i64 (IntKind.wrap .i64 (i8 + 1)), .int .i64 0])) w
def KE_S7 (E : W.Env) (w : World) (R : W.Post) : Prop := W.asSlice (W.Env.get? E 7) fun out7 => W.asInt .i64 (W.Env.get? E 8) fun i8 => S7 out7 i8 w R
theorem KE_S7_ok (R : W.Post) (E : W.Env) (w : World) (h : KE_S7 E w R) : W.WP Try.prog (W.cx 104) C13 (Q3 R) E w := by
  obtain ⟨out7, hq7, h1⟩ := W.asSlice_elim h
  obtain ⟨i8, hq8, h2⟩ := W.asInt_elim h1
  exact fun a ha => W.WP.at (n := (W.cx 104)) (E := [(7, out7.v), (8, .int .i64 i8)]) (W.WP.seq (c := C13) (x := C15) (y := C16) (by kernel_rfl) <| W.WP.reg (c := C15) (fun E w => W.retVC Try.prog Try.f33 E w (fun v => R (.returned v) w)) (by kernel_rfl) (Eq.mp (by kernel_rfl) h2) fun _ _ a hA hK => (W.WP.ret (c := C16) (by kernel_rfl) fun a hA => W.retVC_sound hA hK) a hA) (ha.cons hq7 (ha.cons hq8 ha.nil))
noncomputable def C17 : Code := W.Code.fst C14
noncomputable def C18 : Code := W.Code.snd C17
noncomputable def C19 : Code := W.Code.fst C18
noncomputable def C20 : Code := W.Code.snd C14
abbrev Q4 (R : W.Post) : Exit → Act → World → Prop := (Exit.then (W.wpx Try.prog (W.cx 104) C20 (Exit.inBlock 1 (Q2 R))) (Exit.inBlock 1 (Q2 R)))
noncomputable def C21 : Code := W.Code.fst C19
noncomputable def C22 : Code := W.Code.snd C19
/-- ref.go:90 -/
abbrev S9 (i8 : Int) (w : World) (R : W.Post) : Prop :=
  R (.returned (.tuple #[.string (ByteArray.mk #[]), .int .i64 i8, .int .i64 2])) w
def KE_S9 (E : W.Env) (w : World) (R : W.Post) : Prop := W.asInt .i64 (W.Env.get? E 8) fun i8 => S9 i8 w R
theorem KE_S9_ok (R : W.Post) (E : W.Env) (w : World) (h : KE_S9 E w R) : W.WP Try.prog (W.cx 104) C19 (Q4 R) E w := by
  obtain ⟨i8, hq8, h1⟩ := W.asInt_elim h
  exact fun a ha => W.WP.at (n := (W.cx 104)) (E := [(8, .int .i64 i8)]) (W.WP.seq (c := C19) (x := C21) (y := C22) (by kernel_rfl) <| W.WP.reg (c := C21) (fun E w => W.retVC Try.prog Try.f33 E w (fun v => R (.returned v) w)) (by kernel_rfl) (Eq.mp (by kernel_rfl) h1) fun _ _ a hA hK => (W.WP.ret (c := C22) (by kernel_rfl) fun a hA => W.retVC_sound hA hK) a hA) (ha.cons hq8 ha.nil)
noncomputable def C23 : Code := W.Code.fst C20
noncomputable def C24 : Code := W.Code.snd C23
noncomputable def C25 : Code := W.Code.fst C24
noncomputable def C26 : Code := W.Code.snd C25
noncomputable def C27 : Code := W.Code.snd C20
abbrev Q5 (R : W.Post) : Exit → Act → World → Prop := (Exit.then (W.wpx Try.prog (W.cx 104) C27 (Exit.inBlock 1 (Q2 R))) (Exit.inBlock 1 (Q2 R)))
noncomputable def C28 : Code := W.Code.fst C26
noncomputable def C29 : Code := W.Code.snd C26
/-- ref.go:94 -/
abbrev S12 (s0 : ByteArray) (out7 : W.Sl) (i8 : Int) (w : World) (R : W.Post) : Prop :=
  L3 s0 out7 (IntKind.wrap .i64 (i8 + 1)) w R
def KE_S12 (E : W.Env) (w : World) (R : W.Post) : Prop := W.asStr (W.Env.get? E 0) fun s0 => W.asSlice (W.Env.get? E 7) fun out7 => W.asInt .i64 (W.Env.get? E 8) fun i8 => S12 s0 out7 i8 w R
theorem KE_S12_ok (R : W.Post) (E : W.Env) (w : World) (h : KE_S12 E w R) : W.WP Try.prog (W.cx 104) C26 (Q5 R) E w := by
  obtain ⟨s0, hq0, h1⟩ := W.asStr_elim h
  obtain ⟨out7, hq7, h2⟩ := W.asSlice_elim h1
  obtain ⟨i8, hq8, h3⟩ := W.asInt_elim h2
  exact fun a ha => W.WP.at (n := (W.cx 104)) (E := [(0, .string s0), (7, out7.v), (8, .int .i64 i8)]) (W.WP.seq (c := C26) (x := C28) (y := C29) (by kernel_rfl) <| W.WP.reg (c := C28) (fun E w => KE_L3 E w R) (by kernel_rfl) (Eq.mp (by kernel_rfl) h3) fun _ _ a hA hK => (W.WP.exit (c := C29) (id := 1) (by kernel_rfl) fun a hA => KE_L3_ok R _ _ hK a hA) a hA) (ha.cons hq0 (ha.cons hq7 (ha.cons hq8 ha.nil)))
noncomputable def C30 : Code := W.Code.fst C25
/-- ref.go:93 -/
abbrev S11 (s0 : ByteArray) (out7 : W.Sl) (i8 c9 : Int) (w : World) (R : W.Post) : Prop :=
  W.nwV w (.cells #[.int .u8 c9] ty_uint8) fun w1 => 
  ∃ (t41 : W.Sl) (w2 : World), Sem.run Try.prog (Builtin.append_ #[ty_sl_uint8, ty_sl_uint8] ty_sl_uint8 #[out7.v, .slice (some (Addr.mk w.heap.size 0 none)) 1 1]) w1 = .ok (t41.v) w2 ∧ S12 s0 t41 i8 w2 R
def KE_S11 (E : W.Env) (w : World) (R : W.Post) : Prop := W.asStr (W.Env.get? E 0) fun s0 => W.asSlice (W.Env.get? E 7) fun out7 => W.asInt .i64 (W.Env.get? E 8) fun i8 => W.asInt .u8 (W.Env.get? E 9) fun c9 => S11 s0 out7 i8 c9 w R
theorem KE_S11_ok (R : W.Post) (E : W.Env) (w : World) (h : KE_S11 E w R) : W.WP Try.prog (W.cx 104) C25 (Q5 R) E w := by
  obtain ⟨s0, hq0, h1⟩ := W.asStr_elim h
  obtain ⟨out7, hq7, h2⟩ := W.asSlice_elim h1
  obtain ⟨i8, hq8, h3⟩ := W.asInt_elim h2
  obtain ⟨c9, hq9, h4⟩ := W.asInt_elim h3
  exact fun a ha => W.WP.at (n := (W.cx 104)) (E := [(0, .string s0), (7, out7.v), (8, .int .i64 i8), (9, .int .u8 c9)]) (W.WP.seq (c := C25) (x := C30) (y := C26) (by kernel_rfl) <| W.WP.reg (c := C30) (fun E w => KE_S12 E w R) (by kernel_rfl) (Eq.mp (by kernel_rfl) h4) fun _ _ a hA hK => (KE_S12_ok R _ _ hK) a hA) (ha.cons hq0 (ha.cons hq7 (ha.cons hq8 (ha.cons hq9 ha.nil))))
noncomputable def C31 : Code := W.Code.fst C27
noncomputable def C32 : Code := W.Code.snd C31
noncomputable def C33 : Code := W.Code.fst C32
noncomputable def C34 : Code := W.Code.snd C27
abbrev Q6 (R : W.Post) : Exit → Act → World → Prop := (Exit.then (W.wpx Try.prog (W.cx 104) C34 (Exit.inBlock 1 (Q2 R))) (Exit.inBlock 1 (Q2 R)))
noncomputable def C35 : Code := W.Code.fst C33
noncomputable def C36 : Code := W.Code.snd C33
/-- ref.go:98 -/
abbrev S14 (s0 : ByteArray) (w : World) (R : W.Post) : Prop :=
  R (.returned (.tuple #[.string (ByteArray.mk #[]), .int .i64 ((s0.size : Nat) : Int), .int .i64 3])) w
def KE_S14 (E : W.Env) (w : World) (R : W.Post) : Prop := W.asStr (W.Env.get? E 0) fun s0 => S14 s0 w R
theorem KE_S14_ok (R : W.Post) (E : W.Env) (w : World) (h : KE_S14 E w R) : W.WP Try.prog (W.cx 104) C33 (Q6 R) E w := by
  obtain ⟨s0, hq0, h1⟩ := W.asStr_elim h
  exact fun a ha => W.WP.at (n := (W.cx 104)) (E := [(0, .string s0)]) (W.WP.seq (c := C33) (x := C35) (y := C36) (by kernel_rfl) <| W.WP.reg (c := C35) (fun E w => W.retVC Try.prog Try.f33 E w (fun v => R (.returned v) w)) (by kernel_rfl) (Eq.mp (by kernel_rfl) h1) fun _ _ a hA hK => (W.WP.ret (c := C36) (by kernel_rfl) fun a hA => W.retVC_sound hA hK) a hA) (ha.cons hq0 ha.nil)
noncomputable def C37 : Code := W.Code.snd C34
noncomputable def C38 : Code := W.Code.fst C37
noncomputable def C39 : Code := W.Code.snd C38
noncomputable def C40 : Code := W.Code.fst C39
noncomputable def C41 : Code := W.Code.snd C40
noncomputable def C42 : Code := W.Code.snd C37
abbrev Q7 (R : W.Post) : Exit → Act → World → Prop := (Exit.then (W.wpx Try.prog (W.cx 104) C42 (Exit.inBlock 1 (Q2 R))) (Exit.inBlock 1 (Q2 R)))
noncomputable def C43 : Code := W.Code.fst C41
noncomputable def C44 : Code := W.Code.snd C41
/-- ref.go:103 -/
abbrev S18 (s0 : ByteArray) (out7 : W.Sl) (i8 : Int) (w : World) (R : W.Post) : Prop :=
  L3 s0 out7 (IntKind.wrap .i64 (i8 + 2)) w R
def KE_S18 (E : W.Env) (w : World) (R : W.Post) : Prop := W.asStr (W.Env.get? E 0) fun s0 => W.asSlice (W.Env.get? E 7) fun out7 => W.asInt .i64 (W.Env.get? E 8) fun i8 => S18 s0 out7 i8 w R
theorem KE_S18_ok (R : W.Post) (E : W.Env) (w : World) (h : KE_S18 E w R) : W.WP Try.prog (W.cx 104) C41 (Q7 R) E w := by
  obtain ⟨s0, hq0, h1⟩ := W.asStr_elim h
  obtain ⟨out7, hq7, h2⟩ := W.asSlice_elim h1
  obtain ⟨i8, hq8, h3⟩ := W.asInt_elim h2
  exact fun a ha => W.WP.at (n := (W.cx 104)) (E := [(0, .string s0), (7, out7.v), (8, .int .i64 i8)]) (W.WP.seq (c := C41) (x := C43) (y := C44) (by kernel_rfl) <| W.WP.reg (c := C43) (fun E w => KE_L3 E w R) (by kernel_rfl) (Eq.mp (by kernel_rfl) h3) fun _ _ a hA hK => (W.WP.exit (c := C44) (id := 1) (by kernel_rfl) fun a hA => KE_L3_ok R _ _ hK a hA) a hA) (ha.cons hq0 (ha.cons hq7 (ha.cons hq8 ha.nil)))
noncomputable def C45 : Code := W.Code.fst C40
/-- ref.go:102 -/
abbrev S17 (s0 : ByteArray) (out7 : W.Sl) (i8 d10 : Int) (w : World) (R : W.Post) : Prop :=
  W.nwV w (.cells #[.int .u8 d10] ty_uint8) fun w1 => 
  ∃ (t64 : W.Sl) (w2 : World), Sem.run Try.prog (Builtin.append_ #[ty_sl_uint8, ty_sl_uint8] ty_sl_uint8 #[out7.v, .slice (some (Addr.mk w.heap.size 0 none)) 1 1]) w1 = .ok (t64.v) w2 ∧ S18 s0 t64 i8 w2 R
def KE_S17 (E : W.Env) (w : World) (R : W.Post) : Prop := W.asStr (W.Env.get? E 0) fun s0 => W.asSlice (W.Env.get? E 7) fun out7 => W.asInt .i64 (W.Env.get? E 8) fun i8 => W.asInt .u8 (W.Env.get? E 10) fun d10 => S17 s0 out7 i8 d10 w R
theorem KE_S17_ok (R : W.Post) (E : W.Env) (w : World) (h : KE_S17 E w R) : W.WP Try.prog (W.cx 104) C40 (Q7 R) E w := by
  obtain ⟨s0, hq0, h1⟩ := W.asStr_elim h
  obtain ⟨out7, hq7, h2⟩ := W.asSlice_elim h1
  obtain ⟨i8, hq8, h3⟩ := W.asInt_elim h2
  obtain ⟨d10, hq10, h4⟩ := W.asInt_elim h3
  exact fun a ha => W.WP.at (n := (W.cx 104)) (E := [(0, .string s0), (7, out7.v), (8, .int .i64 i8), (10, .int .u8 d10)]) (W.WP.seq (c := C40) (x := C45) (y := C41) (by kernel_rfl) <| W.WP.reg (c := C45) (fun E w => KE_S18 E w R) (by kernel_rfl) (Eq.mp (by kernel_rfl) h4) fun _ _ a hA hK => (KE_S18_ok R _ _ hK) a hA) (ha.cons hq0 (ha.cons hq7 (ha.cons hq8 (ha.cons hq10 ha.nil))))
noncomputable def C46 : Code := W.Code.fst C42
noncomputable def C47 : Code := W.Code.snd C46
noncomputable def C48 : Code := W.Code.fst C47
noncomputable def C49 : Code := W.Code.snd C42
abbrev Q8 (R : W.Post) : Exit → Act → World → Prop := (Exit.then (W.wpx Try.prog (W.cx 104) C49 (Exit.inBlock 1 (Q2 R))) (Exit.inBlock 1 (Q2 R)))
noncomputable def C50 : Code := W.Code.fst C48
noncomputable def C51 : Code := W.Code.snd C48
/-- ref.go:107 -/
abbrev S20 (i8 : Int) (w : World) (R : W.Post) : Prop :=
  R (.returned (.tuple #[.string (ByteArray.mk #[]), .int .i64 i8, .int .i64 2])) w
def KE_S20 (E : W.Env) (w : World) (R : W.Post) : Prop := W.asInt .i64 (W.Env.get? E 8) fun i8 => S20 i8 w R
theorem KE_S20_ok (R : W.Post) (E : W.Env) (w : World) (h : KE_S20 E w R) : W.WP Try.prog (W.cx 104) C48 (Q8 R) E w := by
  obtain ⟨i8, hq8, h1⟩ := W.asInt_elim h
  exact fun a ha => W.WP.at (n := (W.cx 104)) (E := [(8, .int .i64 i8)]) (W.WP.seq (c := C48) (x := C50) (y := C51) (by kernel_rfl) <| W.WP.reg (c := C50) (fun E w => W.retVC Try.prog Try.f33 E w (fun v => R (.returned v) w)) (by kernel_rfl) (Eq.mp (by kernel_rfl) h1) fun _ _ a hA hK => (W.WP.ret (c := C51) (by kernel_rfl) fun a hA => W.retVC_sound hA hK) a hA) (ha.cons hq8 ha.nil)
noncomputable def C52 : Code := W.Code.snd C49
noncomputable def C53 : Code := W.Code.fst C52
noncomputable def C54 : Code := W.Code.snd C53
noncomputable def C55 : Code := W.Code.fst C54
noncomputable def C56 : Code := W.Code.fst C55
noncomputable def C57 : Code := W.Code.snd C52
abbrev Q9 (R : W.Post) : Exit → Act → World → Prop := (Exit.then (W.wpx Try.prog (W.cx 104) C57 (Exit.inBlock 1 (Q2 R))) (Exit.inBlock 1 (Q2 R)))
abbrev Q10 (R : W.Post) : Exit → Act → World → Prop := (Exit.inBlock 2 (Q9 R))
/-- the head of the loop, ref.go:110 -/
def L23 (s0 : ByteArray) (out7 : W.Sl) (i8 n11 k12 : Int) (w : World) (R : W.Post) : Prop := W.LP Try.prog (W.cx 104) C56 (Q10 R) [(0, .string s0), (7, out7.v), (8, .int .i64 i8), (11, .int .i64 n11), (12, .int .i64 k12)] w
def KE_L23 (E : W.Env) (w : World) (R : W.Post) : Prop := W.asStr (W.Env.get? E 0) fun s0 => W.asSlice (W.Env.get? E 7) fun out7 => W.asInt .i64 (W.Env.get? E 8) fun i8 => W.asInt .i64 (W.Env.get? E 11) fun n11 => W.asInt .i64 (W.Env.get? E 12) fun k12 => L23 s0 out7 i8 n11 k12 w R
theorem KE_L23_ok (R : W.Post) (E : W.Env) (w : World) (h : KE_L23 E w R) : W.LP Try.prog (W.cx 104) C56 (Q10 R) E w := by
  obtain ⟨s0, hq0, h1⟩ := W.asStr_elim h
  obtain ⟨out7, hq7, h2⟩ := W.asSlice_elim h1
  obtain ⟨i8, hq8, h3⟩ := W.asInt_elim h2
  obtain ⟨n11, hq11, h4⟩ := W.asInt_elim h3
  obtain ⟨k12, hq12, h5⟩ := W.asInt_elim h4
  intro a ha
  exact h5 a (ha.cons hq0 (ha.cons hq7 (ha.cons hq8 (ha.cons hq11 (ha.cons hq12 ha.nil)))))
noncomputable def C58 : Code := W.Code.snd C56
noncomputable def C59 : Code := W.Code.fst C58
noncomputable def C60 : Code := W.Code.fst C59
noncomputable def C61 : Code := W.Code.fst C60
noncomputable def C62 : Code := W.Code.snd C61
noncomputable def C63 : Code := W.Code.fst C62
noncomputable def C64 : Code := W.Code.snd C58
abbrev Q11 (R : W.Post) : Exit → Act → World → Prop := (Exit.then (W.wpx Try.prog (W.cx 104) C64 (Exit.then (W.LoopWP Try.prog (W.cx 104) C56 (Q10 R)) (Q10 R))) (Exit.then (W.LoopWP Try.prog (W.cx 104) C56 (Q10 R)) (Q10 R)))
noncomputable def C65 : Code := W.Code.snd C60
abbrev Q12 (R : W.Post) : Exit → Act → World → Prop := (Exit.then (W.wpx Try.prog (W.cx 104) C65 (Exit.inBlock 3 (Q11 R))) (Exit.inBlock 3 (Q11 R)))
noncomputable def C66 : Code := W.Code.fst C63
noncomputable def C67 : Code := W.Code.snd C63
/-- ref.go:112 -/
abbrev S26 (s0 : ByteArray) (w : World) (R : W.Post) : Prop :=
  R (.returned (.tuple #[.string (ByteArray.mk #[]), .int .i64 ((s0.size : Nat) : Int), .int .i64 3])) w
def KE_S26 (E : W.Env) (w : World) (R : W.Post) : Prop := W.asStr (W.Env.get? E 0) fun s0 => S26 s0 w R
theorem KE_S26_ok (R : W.Post) (E : W.Env) (w : World) (h : KE_S26 E w R) : W.WP Try.prog (W.cx 104) C63 (Q12 R) E w := by
  obtain ⟨s0, hq0, h1⟩ := W.asStr_elim h
  exact fun a ha => W.WP.at (n := (W.cx 104)) (E := [(0, .string s0)]) (W.WP.seq (c := C63) (x := C66) (y := C67) (by kernel_rfl) <| W.WP.reg (c := C66) (fun E w => W.retVC Try.prog Try.f33 E w (fun v => R (.returned v) w)) (by kernel_rfl) (Eq.mp (by kernel_rfl) h1) fun _ _ a hA hK => (W.WP.ret (c := C67) (by kernel_rfl) fun a hA => W.retVC_sound hA hK) a hA) (ha.cons hq0 ha.nil)
noncomputable def C68 : Code := W.Code.snd C65
noncomputable def C69 : Code := W.Code.fst C68
noncomputable def C70 : Code := W.Code.snd C69
noncomputable def C71 : Code := W.Code.fst C70
noncomputable def C72 : Code := W.Code.snd C68
abbrev Q13 (R : W.Post) : Exit → Act → World → Prop := (Exit.then (W.wpx Try.prog (W.cx 104) C72 (Exit.inBlock 3 (Q11 R))) (Exit.inBlock 3 (Q11 R)))
noncomputable def C73 : Code := W.Code.fst C71
noncomputable def C74 : Code := W.Code.snd C71
/-- ref.go:116 -/
abbrev S29 (i8 : Int) (w : World) (R : W.Post) : Prop :=
  R (.returned (.tuple #[.string (ByteArray.mk #[]), .int .i64 i8, .int .i64 2])) w
def KE_S29 (E : W.Env) (w : World) (R : W.Post) : Prop := W.asInt .i64 (W.Env.get? E 8) fun i8 => S29 i8 w R
theorem KE_S29_ok (R : W.Post) (E : W.Env) (w : World) (h : KE_S29 E w R) : W.WP Try.prog (W.cx 104) C71 (Q13 R) E w := by
  obtain ⟨i8, hq8, h1⟩ := W.asInt_elim h
  exact fun a ha => W.WP.at (n := (W.cx 104)) (E := [(8, .int .i64 i8)]) (W.WP.seq (c := C71) (x := C73) (y := C74) (by kernel_rfl) <| W.WP.reg (c := C73) (fun E w => W.retVC Try.prog Try.f33 E w (fun v => R (.returned v) w)) (by kernel_rfl) (Eq.mp (by kernel_rfl) h1) fun _ _ a hA hK => (W.WP.ret (c := C74) (by kernel_rfl) fun a hA => W.retVC_sound hA hK) a hA) (ha.cons hq8 ha.nil)
abbrev Q14 (R : W.Post) : Exit → Act → World → Prop := (Exit.then (W.LoopWP Try.prog (W.cx 104) C56 (Q10 R)) (Q10 R))
/-- ref.go:110 -/
abbrev S31 (s0 : ByteArray) (out7 : W.Sl) (i8 n11 k12 : Int) (w : World) (R : W.Post) : Prop :=
  L23 s0 out7 i8 n11 (IntKind.wrap .i64 (k12 + 1)) w R
def KE_S31 (E : W.Env) (w : World) (R : W.Post) : Prop := W.asStr (W.Env.get? E 0) fun s0 => W.asSlice (W.Env.get? E 7) fun out7 => W.asInt .i64 (W.Env.get? E 8) fun i8 => W.asInt .i64 (W.Env.get? E 11) fun n11 => W.asInt .i64 (W.Env.get? E 12) fun k12 => S31 s0 out7 i8 n11 k12 w R
theorem KE_S31_ok (R : W.Post) (E : W.Env) (w : World) (h : KE_S31 E w R) : W.WP Try.prog (W.cx 104) C64 (Q14 R) E w := by
  obtain ⟨s0, hq0, h1⟩ := W.asStr_elim h
  obtain ⟨out7, hq7, h2⟩ := W.asSlice_elim h1
  obtain ⟨i8, hq8, h3⟩ := W.asInt_elim h2
  obtain ⟨n11, hq11, h4⟩ := W.asInt_elim h3
  obtain ⟨k12, hq12, h5⟩ := W.asInt_elim h4
  exact fun a ha => W.WP.at (n := (W.cx 104)) (E := [(0, .string s0), (7, out7.v), (8, .int .i64 i8), (11, .int .i64 n11), (12, .int .i64 k12)]) (W.WP.reg (c := C64) (fun E w => KE_L23 E w R) (by kernel_rfl) (Eq.mp (by kernel_rfl) h5) fun _ _ a hA hK => KE_L23_ok R _ _ hK a hA) (ha.cons hq0 (ha.cons hq7 (ha.cons hq8 (ha.cons hq11 (ha.cons hq12 ha.nil)))))
abbrev Q15 (R : W.Post) : Exit → Act → World → Prop := (Exit.inBlock 3 (Q11 R))
/-- ref.go:118 -/
abbrev S30 (s0 : ByteArray) (out7 : W.Sl) (i8 n11 k12 v13 : Int) (w : World) (R : W.Post) : Prop :=
  S31 s0 out7 i8 (IntKind.wrap .i64 ((IntKind.wrap .i64 (16 * n11)) + v13)) k12 w R
def KE_S30 (E : W.Env) (w : World) (R : W.Post) : Prop := W.asStr (W.Env.get? E 0) fun s0 => W.asSlice (W.Env.get? E 7) fun out7 => W.asInt .i64 (W.Env.get? E 8) fun i8 => W.asInt .i64 (W.Env.get? E 11) fun n11 => W.asInt .i64 (W.Env.get? E 12) fun k12 => W.asInt .i64 (W.Env.get? E 13) fun v13 => S30 s0 out7 i8 n11 k12 v13 w R
theorem KE_S30_ok (R : W.Post) (E : W.Env) (w : World) (h : KE_S30 E w R) : W.WP Try.prog (W.cx 104) C72 (Q15 R) E w := by
  obtain ⟨s0, hq0, h1⟩ := W.asStr_elim h
  obtain ⟨out7, hq7, h2⟩ := W.asSlice_elim h1
  obtain ⟨i8, hq8, h3⟩ := W.asInt_elim h2
  obtain ⟨n11, hq11, h4⟩ := W.asInt_elim h3
  obtain ⟨k12, hq12, h5⟩ := W.asInt_elim h4
  obtain ⟨v13, hq13, h6⟩ := W.asInt_elim h5
  exact fun a ha => W.WP.at (n := (W.cx 104)) (E := [(0, .string s0), (7, out7.v), (8, .int .i64 i8), (11, .int .i64 n11), (12, .int .i64 k12), (13, .int .i64 v13)]) (W.WP.reg (c := C72) (fun E w => KE_S31 E w R) (by kernel_rfl) (Eq.mp (by kernel_rfl) h6) fun _ _ a hA hK => (KE_S31_ok R _ _ hK) a hA) (ha.cons hq0 (ha.cons hq7 (ha.cons hq8 (ha.cons hq11 (ha.cons hq12 (ha.cons hq13 ha.nil))))))
noncomputable def C75 : Code := W.Code.fst C69
noncomputable def C76 : Code := W.Code.snd C70
/-- ref.go:115 -/
abbrev S28 (s0 : ByteArray) (out7 : W.Sl) (i8 n11 k12 v13 : Int) (w : World) (R : W.Post) : Prop :=
  W.sel (decide (v13 < 0)) (S29 i8 w R) (S30 s0 out7 i8 n11 k12 v13 w R)
def KE_S28 (E : W.Env) (w : World) (R : W.Post) : Prop := W.asStr (W.Env.get? E 0) fun s0 => W.asSlice (W.Env.get? E 7) fun out7 => W.asInt .i64 (W.Env.get? E 8) fun i8 => W.asInt .i64 (W.Env.get? E 11) fun n11 => W.asInt .i64 (W.Env.get? E 12) fun k12 => W.asInt .i64 (W.Env.get? E 13) fun v13 => S28 s0 out7 i8 n11 k12 v13 w R
theorem KE_S28_ok (R : W.Post) (E : W.Env) (w : World) (h : KE_S28 E w R) : W.WP Try.prog (W.cx 104) C69 (Q13 R) E w := by
  obtain ⟨s0, hq0, h1⟩ := W.asStr_elim h
  obtain ⟨out7, hq7, h2⟩ := W.asSlice_elim h1
  obtain ⟨i8, hq8, h3⟩ := W.asInt_elim h2
  obtain ⟨n11, hq11, h4⟩ := W.asInt_elim h3
  obtain ⟨k12, hq12, h5⟩ := W.asInt_elim h4
  obtain ⟨v13, hq13, h6⟩ := W.asInt_elim h5
  exact fun a ha => W.WP.at (n := (W.cx 104)) (E := [(0, .string s0), (7, out7.v), (8, .int .i64 i8), (11, .int .i64 n11), (12, .int .i64 k12), (13, .int .i64 v13)]) (W.WP.seq (c := C69) (x := C75) (y := C70) (by kernel_rfl) <| W.WP.reg (c := C75) (fun E w => W.condK (W.Env.val E (.tmp 89)) (KE_S29 E w R) (KE_S30 E w R)) (by kernel_rfl) (Eq.mp (by kernel_rfl) h6) fun _ _ a hA hK => (W.WP.condK (c := C70) (x := C71) (y := C76) (o := .tmp 89) (by kernel_rfl) (fun hK => (KE_S29_ok R _ _ hK)) (fun hK => (W.WP.skip (c := C76) (by kernel_rfl) fun a hA => (KE_S30_ok R _ _ hK) a hA)) hK) a hA) (ha.cons hq0 (ha.cons hq7 (ha.cons hq8 (ha.cons hq11 (ha.cons hq12 (ha.cons hq13 ha.nil))))))
noncomputable def C77 : Code := W.Code.fst C65
/-- ref.go:114 -/
abbrev S27 (s0 : ByteArray) (out7 : W.Sl) (i8 n11 k12 : Int) (w : World) (R : W.Post) : Prop :=
  (0 : Int) ≤ (IntKind.wrap .i64 (i8 + k12)) ∧ ∃ t86_b : UInt8, s0[Int.toNat (IntKind.wrap .i64 (i8 + k12))]? = some t86_b ∧ Calls Try.prog n_enthymemeref09_value #[.int .u8 ((t86_b.toNat : Nat) : Int)] w fun r_ w1 => ∃ t87 : Int, r_ = .returned (.int .i64 t87) ∧ 
  S28 s0 out7 i8 n11 k12 t87 w1 R
def KE_S27 (E : W.Env) (w : World) (R : W.Post) : Prop := W.asStr (W.Env.get? E 0) fun s0 => W.asSlice (W.Env.get? E 7) fun out7 => W.asInt .i64 (W.Env.get? E 8) fun i8 => W.asInt .i64 (W.Env.get? E 11) fun n11 => W.asInt .i64 (W.Env.get? E 12) fun k12 => S27 s0 out7 i8 n11 k12 w R
theorem KE_S27_ok (R : W.Post) (E : W.Env) (w : World) (h : KE_S27 E w R) : W.WP Try.prog (W.cx 104) C65 (Q15 R) E w := by
  obtain ⟨s0, hq0, h1⟩ := W.asStr_elim h
  obtain ⟨out7, hq7, h2⟩ := W.asSlice_elim h1
  obtain ⟨i8, hq8, h3⟩ := W.asInt_elim h2
  obtain ⟨n11, hq11, h4⟩ := W.asInt_elim h3
  obtain ⟨k12, hq12, h5⟩ := W.asInt_elim h4
  exact fun a ha => W.WP.at (n := (W.cx 104)) (E := [(0, .string s0), (7, out7.v), (8, .int .i64 i8), (11, .int .i64 n11), (12, .int .i64 k12)]) (W.WP.seq (c := C65) (x := C77) (y := C68) (by kernel_rfl) <| W.WP.reg (c := C77) (fun E w => KE_S28 E w R) (by kernel_rfl) (Eq.mp (by kernel_rfl) h5) fun _ _ a hA hK => (W.WP.seq (c := C68) (x := C69) (y := C72) (by kernel_rfl) (KE_S28_ok R _ _ hK)) a hA) (ha.cons hq0 (ha.cons hq7 (ha.cons hq8 (ha.cons hq11 (ha.cons hq12 ha.nil)))))
noncomputable def C78 : Code := W.Code.fst C61
noncomputable def C79 : Code := W.Code.snd C62
/-- ref.go:111 -/
abbrev S25 (s0 : ByteArray) (out7 : W.Sl) (i8 n11 k12 : Int) (w : World) (R : W.Post) : Prop :=
  W.sel (decide ((IntKind.wrap .i64 (i8 + k12)) ≥ ((s0.size : Nat) : Int))) (S26 s0 w R) (S27 s0 out7 i8 n11 k12 w R)
def KE_S25 (E : W.Env) (w : World) (R : W.Post) : Prop := W.asStr (W.Env.get? E 0) fun s0 => W.asSlice (W.Env.get? E 7) fun out7 => W.asInt .i64 (W.Env.get? E 8) fun i8 => W.asInt .i64 (W.Env.get? E 11) fun n11 => W.asInt .i64 (W.Env.get? E 12) fun k12 => S25 s0 out7 i8 n11 k12 w R
theorem KE_S25_ok (R : W.Post) (E : W.Env) (w : World) (h : KE_S25 E w R) : W.WP Try.prog (W.cx 104) C61 (Q12 R) E w := by
  obtain ⟨s0, hq0, h1⟩ := W.asStr_elim h
  obtain ⟨out7, hq7, h2⟩ := W.asSlice_elim h1
  obtain ⟨i8, hq8, h3⟩ := W.asInt_elim h2
  obtain ⟨n11, hq11, h4⟩ := W.asInt_elim h3
  obtain ⟨k12, hq12, h5⟩ := W.asInt_elim h4
  exact fun a ha => W.WP.at (n := (W.cx 104)) (E := [(0, .string s0), (7, out7.v), (8, .int .i64 i8), (11, .int .i64 n11), (12, .int .i64 k12)]) (W.WP.seq (c := C61) (x := C78) (y := C62) (by kernel_rfl) <| W.WP.reg (c := C78) (fun E w => W.condK (W.Env.val E (.tmp 79)) (KE_S26 E w R) (KE_S27 E w R)) (by kernel_rfl) (Eq.mp (by kernel_rfl) h5) fun _ _ a hA hK => (W.WP.condK (c := C62) (x := C63) (y := C79) (o := .tmp 79) (by kernel_rfl) (fun hK => (KE_S26_ok R _ _ hK)) (fun hK => (W.WP.skip (c := C79) (by kernel_rfl) fun a hA => (KE_S27_ok R _ _ hK) a hA)) hK) a hA) (ha.cons hq0 (ha.cons hq7 (ha.cons hq8 (ha.cons hq11 (ha.cons hq12 ha.nil)))))
noncomputable def C80 : Code := W.Code.snd C57
abbrev Q16 (R : W.Post) : Exit → Act → World → Prop := (Exit.inBlock 1 (Q2 R))
/-- ref.go:121 -/
abbrev S33 (s0 : ByteArray) (out7 : W.Sl) (i8 : Int) (w : World) (R : W.Post) : Prop :=
  L3 s0 out7 (IntKind.wrap .i64 (i8 + 4)) w R
def KE_S33 (E : W.Env) (w : World) (R : W.Post) : Prop := W.asStr (W.Env.get? E 0) fun s0 => W.asSlice (W.Env.get? E 7) fun out7 => W.asInt .i64 (W.Env.get? E 8) fun i8 => S33 s0 out7 i8 w R
theorem KE_S33_ok (R : W.Post) (E : W.Env) (w : World) (h : KE_S33 E w R) : W.WP Try.prog (W.cx 104) C80 (Q16 R) E w := by
  obtain ⟨s0, hq0, h1⟩ := W.asStr_elim h
  obtain ⟨out7, hq7, h2⟩ := W.asSlice_elim h1
  obtain ⟨i8, hq8, h3⟩ := W.asInt_elim h2
  exact fun a ha => W.WP.at (n := (W.cx 104)) (E := [(0, .string s0), (7, out7.v), (8, .int .i64 i8)]) (W.WP.reg (c := C80) (fun E w => KE_L3 E w R) (by kernel_rfl) (Eq.mp (by kernel_rfl) h3) fun _ _ a hA hK => KE_L3_ok R _ _ hK a hA) (ha.cons hq0 (ha.cons hq7 (ha.cons hq8 ha.nil)))
noncomputable def C81 : Code := W.Code.fst C57
/-- ref.go:120 -/
abbrev S32 (s0 : ByteArray) (out7 : W.Sl) (i8 n11 : Int) (w : World) (R : W.Post) : Prop :=
  W.nwV w (.cells #[.int .u8 (IntKind.wrap .u8 n11)] ty_uint8) fun w1 => 
  ∃ (t99 : W.Sl) (w2 : World), Sem.run Try.prog (Builtin.append_ #[ty_sl_uint8, ty_sl_uint8] ty_sl_uint8 #[out7.v, .slice (some (Addr.mk w.heap.size 0 none)) 1 1]) w1 = .ok (t99.v) w2 ∧ S33 s0 t99 i8 w2 R
def KE_S32 (E : W.Env) (w : World) (R : W.Post) : Prop := W.asStr (W.Env.get? E 0) fun s0 => W.asSlice (W.Env.get? E 7) fun out7 => W.asInt .i64 (W.Env.get? E 8) fun i8 => W.asInt .i64 (W.Env.get? E 11) fun n11 => S32 s0 out7 i8 n11 w R
theorem KE_S32_ok (R : W.Post) (E : W.Env) (w : World) (h : KE_S32 E w R) : W.WP Try.prog (W.cx 104) C57 (Q16 R) E w := by
  obtain ⟨s0, hq0, h1⟩ := W.asStr_elim h
  obtain ⟨out7, hq7, h2⟩ := W.asSlice_elim h1
  obtain ⟨i8, hq8, h3⟩ := W.asInt_elim h2
  obtain ⟨n11, hq11, h4⟩ := W.asInt_elim h3
  exact fun a ha => W.WP.at (n := (W.cx 104)) (E := [(0, .string s0), (7, out7.v), (8, .int .i64 i8), (11, .int .i64 n11)]) (W.WP.seq (c := C57) (x := C81) (y := C80) (by kernel_rfl) <| W.WP.reg (c := C81) (fun E w => KE_S33 E w R) (by kernel_rfl) (Eq.mp (by kernel_rfl) h4) fun _ _ a hA hK => (KE_S33_ok R _ _ hK) a hA) (ha.cons hq0 (ha.cons hq7 (ha.cons hq8 (ha.cons hq11 ha.nil))))
noncomputable def C82 : Code := W.Code.fst C56
abbrev Q17 (R : W.Post) : Exit → Act → World → Prop := (Exit.then (W.wpx Try.prog (W.cx 104) C58 (Exit.then (W.LoopWP Try.prog (W.cx 104) C56 (Q10 R)) (Q10 R))) (Exit.then (W.LoopWP Try.prog (W.cx 104) C56 (Q10 R)) (Q10 R)))
noncomputable def C83 : Code := W.Code.fst C82
noncomputable def C84 : Code := W.Code.snd C82
noncomputable def C85 : Code := W.Code.fst C84
noncomputable def C86 : Code := W.Code.snd C84
/-- ref.go:110 -/
abbrev S24 (s0 : ByteArray) (out7 : W.Sl) (i8 n11 k12 : Int) (w : World) (R : W.Post) : Prop :=
  W.sel (decide (k12 < 4)) (S25 s0 out7 i8 n11 k12 w R) (S32 s0 out7 i8 n11 w R)
def KE_S24 (E : W.Env) (w : World) (R : W.Post) : Prop := W.asStr (W.Env.get? E 0) fun s0 => W.asSlice (W.Env.get? E 7) fun out7 => W.asInt .i64 (W.Env.get? E 8) fun i8 => W.asInt .i64 (W.Env.get? E 11) fun n11 => W.asInt .i64 (W.Env.get? E 12) fun k12 => S24 s0 out7 i8 n11 k12 w R
theorem KE_S24_ok (R : W.Post) (E : W.Env) (w : World) (h : KE_S24 E w R) : W.WP Try.prog (W.cx 104) C82 (Q17 R) E w := by
  obtain ⟨s0, hq0, h1⟩ := W.asStr_elim h
  obtain ⟨out7, hq7, h2⟩ := W.asSlice_elim h1
  obtain ⟨i8, hq8, h3⟩ := W.asInt_elim h2
  obtain ⟨n11, hq11, h4⟩ := W.asInt_elim h3
  obtain ⟨k12, hq12, h5⟩ := W.asInt_elim h4
  exact fun a ha => W.WP.at (n := (W.cx 104)) (E := [(0, .string s0), (7, out7.v), (8, .int .i64 i8), (11, .int .i64 n11), (12, .int .i64 k12)]) (W.WP.seq (c := C82) (x := C83) (y := C84) (by kernel_rfl) <| W.WP.reg (c := C83) (fun E w => W.condK (W.Env.val E (.tmp 71)) (KE_S25 E w R) (KE_S32 E w R)) (by kernel_rfl) (Eq.mp (by kernel_rfl) h5) fun _ _ a hA hK => (W.WP.condK (c := C84) (x := C85) (y := C86) (o := .tmp 71) (by kernel_rfl) (fun hK => (W.WP.skip (c := C85) (by kernel_rfl) fun a hA => (W.WP.seq (c := C58) (x := C59) (y := C64) (by kernel_rfl) (W.WP.block (c := C59) (x := C60) (id := 3) (by kernel_rfl) (W.WP.seq (c := C60) (x := C61) (y := C65) (by kernel_rfl) (KE_S25_ok R _ _ hK)))) a hA)) (fun hK => (W.WP.exit (c := C86) (id := 2) (by kernel_rfl) fun a hA => (KE_S32_ok R _ _ hK) a hA)) hK) a hA) (ha.cons hq0 (ha.cons hq7 (ha.cons hq8 (ha.cons hq11 (ha.cons hq12 ha.nil)))))
theorem L23_step (s0 : ByteArray) (out7 : W.Sl) (i8 n11 k12 : Int) (w : World) (R : W.Post) (h : S24 s0 out7 i8 n11 k12 w R) : L23 s0 out7 i8 n11 k12 w R :=
  W.LP.step (n := (W.cx 104)) (c := C56) (E := [(0, .string s0), (7, out7.v), (8, .int .i64 i8), (11, .int .i64 n11), (12, .int .i64 k12)]) (w := w) (W.WP.seq (c := C56) (x := C82) (y := C58) (by kernel_rfl) (KE_S24_ok R _ _ (Eq.mp (by kernel_rfl) h)))
noncomputable def C87 : Code := W.Code.fst C53
/-- ref.go:110 -/
abbrev S22 (s0 : ByteArray) (out7 : W.Sl) (i8 n11 : Int) (w : World) (R : W.Post) : Prop :=
  L23 s0 out7 i8 n11 2 w R
def KE_S22 (E : W.Env) (w : World) (R : W.Post) : Prop := W.asStr (W.Env.get? E 0) fun s0 => W.asSlice (W.Env.get? E 7) fun out7 => W.asInt .i64 (W.Env.get? E 8) fun i8 => W.asInt .i64 (W.Env.get? E 11) fun n11 => S22 s0 out7 i8 n11 w R
theorem KE_S22_ok (R : W.Post) (E : W.Env) (w : World) (h : KE_S22 E w R) : W.WP Try.prog (W.cx 104) C53 (Q9 R) E w := by
  obtain ⟨s0, hq0, h1⟩ := W.asStr_elim h
  obtain ⟨out7, hq7, h2⟩ := W.asSlice_elim h1
  obtain ⟨i8, hq8, h3⟩ := W.asInt_elim h2
  obtain ⟨n11, hq11, h4⟩ := W.asInt_elim h3
  exact fun a ha => W.WP.at (n := (W.cx 104)) (E := [(0, .string s0), (7, out7.v), (8, .int .i64 i8), (11, .int .i64 n11)]) (W.WP.seq (c := C53) (x := C87) (y := C54) (by kernel_rfl) <| W.WP.reg (c := C87) (fun E w => KE_L23 E w R) (by kernel_rfl) (Eq.mp (by kernel_rfl) h4) fun _ _ a hA hK => (W.WP.block (c := C54) (x := C55) (id := 2) (by kernel_rfl) (W.WP.loop (c := C55) (x := C56) (by kernel_rfl) (KE_L23_ok R _ _ hK))) a hA) (ha.cons hq0 (ha.cons hq7 (ha.cons hq8 (ha.cons hq11 ha.nil))))
noncomputable def C88 : Code := W.Code.fst C49
/-- ref.go:109 -/
abbrev S21 (s0 : ByteArray) (out7 : W.Sl) (i8 : Int) (w : World) (R : W.Post) : Prop :=
  S22 s0 out7 i8 0 w R
def KE_S21 (E : W.Env) (w : World) (R : W.Post) : Prop := W.asStr (W.Env.get? E 0) fun s0 => W.asSlice (W.Env.get? E 7) fun out7 => W.asInt .i64 (W.Env.get? E 8) fun i8 => S21 s0 out7 i8 w R
theorem KE_S21_ok (R : W.Post) (E : W.Env) (w : World) (h : KE_S21 E w R) : W.WP Try.prog (W.cx 104) C49 (Q16 R) E w := by
  obtain ⟨s0, hq0, h1⟩ := W.asStr_elim h
  obtain ⟨out7, hq7, h2⟩ := W.asSlice_elim h1
  obtain ⟨i8, hq8, h3⟩ := W.asInt_elim h2
  exact fun a ha => W.WP.at (n := (W.cx 104)) (E := [(0, .string s0), (7, out7.v), (8, .int .i64 i8)]) (W.WP.seq (c := C49) (x := C88) (y := C52) (by kernel_rfl) <| W.WP.reg (c := C88) (fun E w => KE_S22 E w R) (by kernel_rfl) (Eq.mp (by kernel_rfl) h3) fun _ _ a hA hK => (W.WP.seq (c := C52) (x := C53) (y := C57) (by kernel_rfl) (KE_S22_ok R _ _ hK)) a hA) (ha.cons hq0 (ha.cons hq7 (ha.cons hq8 ha.nil)))
noncomputable def C89 : Code := W.Code.fst C46
noncomputable def C90 : Code := W.Code.snd C47
/-- ref.go:106 -/
abbrev S19 (s0 : ByteArray) (out7 : W.Sl) (i8 d10 : Int) (w : World) (R : W.Post) : Prop :=
  W.sel (d10 != 120) (S20 i8 w R) (S21 s0 out7 i8 w R)
def KE_S19 (E : W.Env) (w : World) (R : W.Post) : Prop := W.asStr (W.Env.get? E 0) fun s0 => W.asSlice (W.Env.get? E 7) fun out7 => W.asInt .i64 (W.Env.get? E 8) fun i8 => W.asInt .u8 (W.Env.get? E 10) fun d10 => S19 s0 out7 i8 d10 w R
theorem KE_S19_ok (R : W.Post) (E : W.Env) (w : World) (h : KE_S19 E w R) : W.WP Try.prog (W.cx 104) C46 (Q8 R) E w := by
  obtain ⟨s0, hq0, h1⟩ := W.asStr_elim h
  obtain ⟨out7, hq7, h2⟩ := W.asSlice_elim h1
  obtain ⟨i8, hq8, h3⟩ := W.asInt_elim h2
  obtain ⟨d10, hq10, h4⟩ := W.asInt_elim h3
  exact fun a ha => W.WP.at (n := (W.cx 104)) (E := [(0, .string s0), (7, out7.v), (8, .int .i64 i8), (10, .int .u8 d10)]) (W.WP.seq (c := C46) (x := C89) (y := C47) (by kernel_rfl) <| W.WP.reg (c := C89) (fun E w => W.condK (W.Env.val E (.tmp 68)) (KE_S20 E w R) (KE_S21 E w R)) (by kernel_rfl) (Eq.mp (by kernel_rfl) h4) fun _ _ a hA hK => (W.WP.condK (c := C47) (x := C48) (y := C90) (o := .tmp 68) (by kernel_rfl) (fun hK => (KE_S20_ok R _ _ hK)) (fun hK => (W.WP.skip (c := C90) (by kernel_rfl) fun a hA => (KE_S21_ok R _ _ hK) a hA)) hK) a hA) (ha.cons hq0 (ha.cons hq7 (ha.cons hq8 (ha.cons hq10 ha.nil))))
noncomputable def C91 : Code := W.Code.fst C38
noncomputable def C92 : Code := W.Code.snd C39
/-- ref.go:101 -/
abbrev S16 (s0 : ByteArray) (out7 : W.Sl) (i8 d10 : Int) (w : World) (R : W.Post) : Prop :=
  W.sel (d10 == 34) (S17 s0 out7 i8 d10 w R) (W.sel (d10 == 92) (S17 s0 out7 i8 d10 w R) (S19 s0 out7 i8 d10 w R))
def KE_S16 (E : W.Env) (w : World) (R : W.Post) : Prop := W.asStr (W.Env.get? E 0) fun s0 => W.asSlice (W.Env.get? E 7) fun out7 => W.asInt .i64 (W.Env.get? E 8) fun i8 => W.asInt .u8 (W.Env.get? E 10) fun d10 => S16 s0 out7 i8 d10 w R
theorem KE_S16_ok (R : W.Post) (E : W.Env) (w : World) (h : KE_S16 E w R) : W.WP Try.prog (W.cx 104) C38 (Q7 R) E w := by
  obtain ⟨s0, hq0, h1⟩ := W.asStr_elim h
  obtain ⟨out7, hq7, h2⟩ := W.asSlice_elim h1
  obtain ⟨i8, hq8, h3⟩ := W.asInt_elim h2
  obtain ⟨d10, hq10, h4⟩ := W.asInt_elim h3
  exact fun a ha => W.WP.at (n := (W.cx 104)) (E := [(0, .string s0), (7, out7.v), (8, .int .i64 i8), (10, .int .u8 d10)]) (W.WP.seq (c := C38) (x := C91) (y := C39) (by kernel_rfl) <| W.WP.reg (c := C91) (fun E w => W.condK (W.Env.val E (.tmp 60)) (KE_S17 E w R) (KE_S19 E w R)) (by kernel_rfl) (Eq.mp (by kernel_rfl) h4) fun _ _ a hA hK => (W.WP.condK (c := C39) (x := C40) (y := C92) (o := .tmp 60) (by kernel_rfl) (fun hK => (KE_S17_ok R _ _ hK)) (fun hK => (W.WP.skip (c := C92) (by kernel_rfl) fun a hA => (W.WP.seq (c := C42) (x := C46) (y := C49) (by kernel_rfl) (KE_S19_ok R _ _ hK)) a hA)) hK) a hA) (ha.cons hq0 (ha.cons hq7 (ha.cons hq8 (ha.cons hq10 ha.nil))))
noncomputable def C93 : Code := W.Code.fst C34
/-- ref.go:100 -/
abbrev S15 (s0 : ByteArray) (out7 : W.Sl) (i8 : Int) (w : World) (R : W.Post) : Prop :=
  (0 : Int) ≤ (IntKind.wrap .i64 (i8 + 1)) ∧ ∃ t54_b : UInt8, s0[Int.toNat (IntKind.wrap .i64 (i8 + 1))]? = some t54_b ∧ S16 s0 out7 i8 ((t54_b.toNat : Nat) : Int) w R
def KE_S15 (E : W.Env) (w : World) (R : W.Post) : Prop := W.asStr (W.Env.get? E 0) fun s0 => W.asSlice (W.Env.get? E 7) fun out7 => W.asInt .i64 (W.Env.get? E 8) fun i8 => S15 s0 out7 i8 w R
theorem KE_S15_ok (R : W.Post) (E : W.Env) (w : World) (h : KE_S15 E w R) : W.WP Try.prog (W.cx 104) C34 (Q16 R) E w := by
  obtain ⟨s0, hq0, h1⟩ := W.asStr_elim h
  obtain ⟨out7, hq7, h2⟩ := W.asSlice_elim h1
  obtain ⟨i8, hq8, h3⟩ := W.asInt_elim h2
  exact fun a ha => W.WP.at (n := (W.cx 104)) (E := [(0, .string s0), (7, out7.v), (8, .int .i64 i8)]) (W.WP.seq (c := C34) (x := C93) (y := C37) (by kernel_rfl) <| W.WP.reg (c := C93) (fun E w => KE_S16 E w R) (by kernel_rfl) (Eq.mp (by kernel_rfl) h3) fun _ _ a hA hK => (W.WP.seq (c := C37) (x := C38) (y := C42) (by kernel_rfl) (KE_S16_ok R _ _ hK)) a hA) (ha.cons hq0 (ha.cons hq7 (ha.cons hq8 ha.nil)))
noncomputable def C94 : Code := W.Code.fst C31
noncomputable def C95 : Code := W.Code.snd C32
/-- ref.go:97 -/
abbrev S13 (s0 : ByteArray) (out7 : W.Sl) (i8 : Int) (w : World) (R : W.Post) : Prop :=
  W.sel ((IntKind.wrap .i64 (i8 + 1)) == ((s0.size : Nat) : Int)) (S14 s0 w R) (S15 s0 out7 i8 w R)
def KE_S13 (E : W.Env) (w : World) (R : W.Post) : Prop := W.asStr (W.Env.get? E 0) fun s0 => W.asSlice (W.Env.get? E 7) fun out7 => W.asInt .i64 (W.Env.get? E 8) fun i8 => S13 s0 out7 i8 w R
theorem KE_S13_ok (R : W.Post) (E : W.Env) (w : World) (h : KE_S13 E w R) : W.WP Try.prog (W.cx 104) C31 (Q6 R) E w := by
  obtain ⟨s0, hq0, h1⟩ := W.asStr_elim h
  obtain ⟨out7, hq7, h2⟩ := W.asSlice_elim h1
  obtain ⟨i8, hq8, h3⟩ := W.asInt_elim h2
  exact fun a ha => W.WP.at (n := (W.cx 104)) (E := [(0, .string s0), (7, out7.v), (8, .int .i64 i8)]) (W.WP.seq (c := C31) (x := C94) (y := C32) (by kernel_rfl) <| W.WP.reg (c := C94) (fun E w => W.condK (W.Env.val E (.tmp 48)) (KE_S14 E w R) (KE_S15 E w R)) (by kernel_rfl) (Eq.mp (by kernel_rfl) h3) fun _ _ a hA hK => (W.WP.condK (c := C32) (x := C33) (y := C95) (o := .tmp 48) (by kernel_rfl) (fun hK => (KE_S14_ok R _ _ hK)) (fun hK => (W.WP.skip (c := C95) (by kernel_rfl) fun a hA => (KE_S15_ok R _ _ hK) a hA)) hK) a hA) (ha.cons hq0 (ha.cons hq7 (ha.cons hq8 ha.nil)))
noncomputable def C96 : Code := W.Code.fst C23
noncomputable def C97 : Code := W.Code.snd C24
/-- ref.go:92 -/
abbrev S10 (s0 : ByteArray) (out7 : W.Sl) (i8 c9 : Int) (w : World) (R : W.Post) : Prop :=
  W.sel (c9 != 92) (S11 s0 out7 i8 c9 w R) (S13 s0 out7 i8 w R)
def KE_S10 (E : W.Env) (w : World) (R : W.Post) : Prop := W.asStr (W.Env.get? E 0) fun s0 => W.asSlice (W.Env.get? E 7) fun out7 => W.asInt .i64 (W.Env.get? E 8) fun i8 => W.asInt .u8 (W.Env.get? E 9) fun c9 => S10 s0 out7 i8 c9 w R
theorem KE_S10_ok (R : W.Post) (E : W.Env) (w : World) (h : KE_S10 E w R) : W.WP Try.prog (W.cx 104) C23 (Q5 R) E w := by
  obtain ⟨s0, hq0, h1⟩ := W.asStr_elim h
  obtain ⟨out7, hq7, h2⟩ := W.asSlice_elim h1
  obtain ⟨i8, hq8, h3⟩ := W.asInt_elim h2
  obtain ⟨c9, hq9, h4⟩ := W.asInt_elim h3
  exact fun a ha => W.WP.at (n := (W.cx 104)) (E := [(0, .string s0), (7, out7.v), (8, .int .i64 i8), (9, .int .u8 c9)]) (W.WP.seq (c := C23) (x := C96) (y := C24) (by kernel_rfl) <| W.WP.reg (c := C96) (fun E w => W.condK (W.Env.val E (.tmp 37)) (KE_S11 E w R) (KE_S13 E w R)) (by kernel_rfl) (Eq.mp (by kernel_rfl) h4) fun _ _ a hA hK => (W.WP.condK (c := C24) (x := C25) (y := C97) (o := .tmp 37) (by kernel_rfl) (fun hK => (KE_S11_ok R _ _ hK)) (fun hK => (W.WP.skip (c := C97) (by kernel_rfl) fun a hA => (W.WP.seq (c := C27) (x := C31) (y := C34) (by kernel_rfl) (KE_S13_ok R _ _ hK)) a hA)) hK) a hA) (ha.cons hq0 (ha.cons hq7 (ha.cons hq8 (ha.cons hq9 ha.nil))))
noncomputable def C98 : Code := W.Code.fst C17
noncomputable def C99 : Code := W.Code.snd C18
/-- ref.go:89 -/
abbrev S8 (s0 : ByteArray) (out7 : W.Sl) (i8 c9 : Int) (w : World) (R : W.Post) : Prop :=
  W.sel (decide (c9 < 32)) (S9 i8 w R) (W.sel (decide (c9 > 126)) (S9 i8 w R) (S10 s0 out7 i8 c9 w R))
def KE_S8 (E : W.Env) (w : World) (R : W.Post) : Prop := W.asStr (W.Env.get? E 0) fun s0 => W.asSlice (W.Env.get? E 7) fun out7 => W.asInt .i64 (W.Env.get? E 8) fun i8 => W.asInt .u8 (W.Env.get? E 9) fun c9 => S8 s0 out7 i8 c9 w R
theorem KE_S8_ok (R : W.Post) (E : W.Env) (w : World) (h : KE_S8 E w R) : W.WP Try.prog (W.cx 104) C17 (Q4 R) E w := by
  obtain ⟨s0, hq0, h1⟩ := W.asStr_elim h
  obtain ⟨out7, hq7, h2⟩ := W.asSlice_elim h1
  obtain ⟨i8, hq8, h3⟩ := W.asInt_elim h2
  obtain ⟨c9, hq9, h4⟩ := W.asInt_elim h3
  exact fun a ha => W.WP.at (n := (W.cx 104)) (E := [(0, .string s0), (7, out7.v), (8, .int .i64 i8), (9, .int .u8 c9)]) (W.WP.seq (c := C17) (x := C98) (y := C18) (by kernel_rfl) <| W.WP.reg (c := C98) (fun E w => W.condK (W.Env.val E (.tmp 34)) (KE_S9 E w R) (KE_S10 E w R)) (by kernel_rfl) (Eq.mp (by kernel_rfl) h4) fun _ _ a hA hK => (W.WP.condK (c := C18) (x := C19) (y := C99) (o := .tmp 34) (by kernel_rfl) (fun hK => (KE_S9_ok R _ _ hK)) (fun hK => (W.WP.skip (c := C99) (by kernel_rfl) fun a hA => (W.WP.seq (c := C20) (x := C23) (y := C27) (by kernel_rfl) (KE_S10_ok R _ _ hK)) a hA)) hK) a hA) (ha.cons hq0 (ha.cons hq7 (ha.cons hq8 (ha.cons hq9 ha.nil))))
noncomputable def C100 : Code := W.Code.fst C11
noncomputable def C101 : Code := W.Code.snd C12
/-- ref.go:86 -/
abbrev S6 (s0 : ByteArray) (out7 : W.Sl) (i8 c9 : Int) (w : World) (R : W.Post) : Prop :=
  W.sel (c9 == 34) (S7 out7 i8 w R) (S8 s0 out7 i8 c9 w R)
def KE_S6 (E : W.Env) (w : World) (R : W.Post) : Prop := W.asStr (W.Env.get? E 0) fun s0 => W.asSlice (W.Env.get? E 7) fun out7 => W.asInt .i64 (W.Env.get? E 8) fun i8 => W.asInt .u8 (W.Env.get? E 9) fun c9 => S6 s0 out7 i8 c9 w R
theorem KE_S6_ok (R : W.Post) (E : W.Env) (w : World) (h : KE_S6 E w R) : W.WP Try.prog (W.cx 104) C11 (Q3 R) E w := by
  obtain ⟨s0, hq0, h1⟩ := W.asStr_elim h
  obtain ⟨out7, hq7, h2⟩ := W.asSlice_elim h1
  obtain ⟨i8, hq8, h3⟩ := W.asInt_elim h2
  obtain ⟨c9, hq9, h4⟩ := W.asInt_elim h3
  exact fun a ha => W.WP.at (n := (W.cx 104)) (E := [(0, .string s0), (7, out7.v), (8, .int .i64 i8), (9, .int .u8 c9)]) (W.WP.seq (c := C11) (x := C100) (y := C12) (by kernel_rfl) <| W.WP.reg (c := C100) (fun E w => W.condK (W.Env.val E (.tmp 24)) (KE_S7 E w R) (KE_S8 E w R)) (by kernel_rfl) (Eq.mp (by kernel_rfl) h4) fun _ _ a hA hK => (W.WP.condK (c := C12) (x := C13) (y := C101) (o := .tmp 24) (by kernel_rfl) (fun hK => (KE_S7_ok R _ _ hK)) (fun hK => (W.WP.skip (c := C101) (by kernel_rfl) fun a hA => (W.WP.seq (c := C14) (x := C17) (y := C20) (by kernel_rfl) (KE_S8_ok R _ _ hK)) a hA)) hK) a hA) (ha.cons hq0 (ha.cons hq7 (ha.cons hq8 (ha.cons hq9 ha.nil))))
noncomputable def C102 : Code := W.Code.fst C9
/-- ref.go:85 -/
abbrev S5 (s0 : ByteArray) (out7 : W.Sl) (i8 : Int) (w : World) (R : W.Post) : Prop :=
  (0 : Int) ≤ i8 ∧ ∃ t22_b : UInt8, s0[Int.toNat i8]? = some t22_b ∧ S6 s0 out7 i8 ((t22_b.toNat : Nat) : Int) w R
def KE_S5 (E : W.Env) (w : World) (R : W.Post) : Prop := W.asStr (W.Env.get? E 0) fun s0 => W.asSlice (W.Env.get? E 7) fun out7 => W.asInt .i64 (W.Env.get? E 8) fun i8 => S5 s0 out7 i8 w R
theorem KE_S5_ok (R : W.Post) (E : W.Env) (w : World) (h : KE_S5 E w R) : W.WP Try.prog (W.cx 104) C9 (Q16 R) E w := by
  obtain ⟨s0, hq0, h1⟩ := W.asStr_elim h
  obtain ⟨out7, hq7, h2⟩ := W.asSlice_elim h1
  obtain ⟨i8, hq8, h3⟩ := W.asInt_elim h2
  exact fun a ha => W.WP.at (n := (W.cx 104)) (E := [(0, .string s0), (7, out7.v), (8, .int .i64 i8)]) (W.WP.seq (c := C9) (x := C102) (y := C10) (by kernel_rfl) <| W.WP.reg (c := C102) (fun E w => KE_S6 E w R) (by kernel_rfl) (Eq.mp (by kernel_rfl) h3) fun _ _ a hA hK => (W.WP.seq (c := C10) (x := C11) (y := C14) (by kernel_rfl) (KE_S6_ok R _ _ hK)) a hA) (ha.cons hq0 (ha.cons hq7 (ha.cons hq8 ha.nil)))
abbrev Q18 (R : W.Post) : Exit → Act → World → Prop := (bodyPost Try.prog Try.f33 R)
noncomputable def C103 : Code := W.Code.fst C7
noncomputable def C104 : Code := W.Code.snd C7
/-- ref.go:123 -/
abbrev S34 (s0 : ByteArray) (w : World) (R : W.Post) : Prop :=
  R (.returned (.tuple #[.string (ByteArray.mk #[]), .int .i64 ((s0.size : Nat) : Int), .int .i64 3])) w
def KE_S34 (E : W.Env) (w : World) (R : W.Post) : Prop := W.asStr (W.Env.get? E 0) fun s0 => S34 s0 w R
theorem KE_S34_ok (R : W.Post) (E : W.Env) (w : World) (h : KE_S34 E w R) : W.WP Try.prog (W.cx 104) C7 (Q18 R) E w := by
  obtain ⟨s0, hq0, h1⟩ := W.asStr_elim h
  exact fun a ha => W.WP.at (n := (W.cx 104)) (E := [(0, .string s0)]) (W.WP.seq (c := C7) (x := C103) (y := C104) (by kernel_rfl) <| W.WP.reg (c := C103) (fun E w => W.retVC Try.prog Try.f33 E w (fun v => R (.returned v) w)) (by kernel_rfl) (Eq.mp (by kernel_rfl) h1) fun _ _ a hA hK => (W.WP.ret (c := C104) (by kernel_rfl) fun a hA => W.retVC_sound hA hK) a hA) (ha.cons hq0 ha.nil)
noncomputable def C105 : Code := W.Code.fst C6
abbrev Q19 (R : W.Post) : Exit → Act → World → Prop := (Exit.then (W.wpx Try.prog (W.cx 104) C8 (Exit.then (W.LoopWP Try.prog (W.cx 104) C6 (Q1 R)) (Q1 R))) (Exit.then (W.LoopWP Try.prog (W.cx 104) C6 (Q1 R)) (Q1 R)))
noncomputable def C106 : Code := W.Code.fst C105
noncomputable def C107 : Code := W.Code.snd C105
noncomputable def C108 : Code := W.Code.fst C107
noncomputable def C109 : Code := W.Code.snd C107
/-- ref.go:84 -/
abbrev S4 (s0 : ByteArray) (out7 : W.Sl) (i8 : Int) (w : World) (R : W.Post) : Prop :=
  W.sel (decide (i8 < ((s0.size : Nat) : Int))) (S5 s0 out7 i8 w R) (S34 s0 w R)
def KE_S4 (E : W.Env) (w : World) (R : W.Post) : Prop := W.asStr (W.Env.get? E 0) fun s0 => W.asSlice (W.Env.get? E 7) fun out7 => W.asInt .i64 (W.Env.get? E 8) fun i8 => S4 s0 out7 i8 w R
theorem KE_S4_ok (R : W.Post) (E : W.Env) (w : World) (h : KE_S4 E w R) : W.WP Try.prog (W.cx 104) C105 (Q19 R) E w := by
  obtain ⟨s0, hq0, h1⟩ := W.asStr_elim h
  obtain ⟨out7, hq7, h2⟩ := W.asSlice_elim h1
  obtain ⟨i8, hq8, h3⟩ := W.asInt_elim h2
  exact fun a ha => W.WP.at (n := (W.cx 104)) (E := [(0, .string s0), (7, out7.v), (8, .int .i64 i8)]) (W.WP.seq (c := C105) (x := C106) (y := C107) (by kernel_rfl) <| W.WP.reg (c := C106) (fun E w => W.condK (W.Env.val E (.tmp 19)) (KE_S5 E w R) (KE_S34 E w R)) (by kernel_rfl) (Eq.mp (by kernel_rfl) h3) fun _ _ a hA hK => (W.WP.condK (c := C107) (x := C108) (y := C109) (o := .tmp 19) (by kernel_rfl) (fun hK => (W.WP.skip (c := C108) (by kernel_rfl) fun a hA => (W.WP.block (c := C8) (x := C9) (id := 1) (by kernel_rfl) (KE_S5_ok R _ _ hK)) a hA)) (fun hK => (W.WP.exit (c := C109) (id := 0) (by kernel_rfl) fun a hA => (KE_S34_ok R _ _ hK) a hA)) hK) a hA) (ha.cons hq0 (ha.cons hq7 (ha.cons hq8 ha.nil)))
theorem L3_step (s0 : ByteArray) (out7 : W.Sl) (i8 : Int) (w : World) (R : W.Post) (h : S4 s0 out7 i8 w R) : L3 s0 out7 i8 w R :=
  W.LP.step (n := (W.cx 104)) (c := C6) (E := [(0, .string s0), (7, out7.v), (8, .int .i64 i8)]) (w := w) (W.WP.seq (c := C6) (x := C105) (y := C8) (by kernel_rfl) (KE_S4_ok R _ _ (Eq.mp (by kernel_rfl) h)))
noncomputable def C110 : Code := W.Code.fst C2
/-- ref.go:83 -/
abbrev S2 (s0 : ByteArray) (at1 : Int) (out7 : W.Sl) (w : World) (R : W.Post) : Prop :=
  L3 s0 out7 (IntKind.wrap .i64 (at1 + 1)) w R
def KE_S2 (E : W.Env) (w : World) (R : W.Post) : Prop := W.asStr (W.Env.get? E 0) fun s0 => W.asInt .i64 (W.Env.get? E 1) fun at1 => W.asSlice (W.Env.get? E 7) fun out7 => S2 s0 at1 out7 w R
theorem KE_S2_ok (R : W.Post) (E : W.Env) (w : World) (h : KE_S2 E w R) : W.WP Try.prog (W.cx 104) C2 (Q18 R) E w := by
  obtain ⟨s0, hq0, h1⟩ := W.asStr_elim h
  obtain ⟨at1, hq1, h2⟩ := W.asInt_elim h1
  obtain ⟨out7, hq7, h3⟩ := W.asSlice_elim h2
  exact fun a ha => W.WP.at (n := (W.cx 104)) (E := [(0, .string s0), (1, .int .i64 at1), (7, out7.v)]) (W.WP.seq (c := C2) (x := C110) (y := C3) (by kernel_rfl) <| W.WP.reg (c := C110) (fun E w => KE_L3 E w R) (by kernel_rfl) (Eq.mp (by kernel_rfl) h3) fun _ _ a hA hK => (W.WP.seq (c := C3) (x := C4) (y := C7) (by kernel_rfl) (W.WP.block (c := C4) (x := C5) (id := 0) (by kernel_rfl) (W.WP.loop (c := C5) (x := C6) (by kernel_rfl) (KE_L3_ok R _ _ hK)))) a hA) (ha.cons hq0 (ha.cons hq1 (ha.cons hq7 ha.nil)))
noncomputable def C111 : Code := W.Code.fst C1
/-- ref.go:82 -/
abbrev S1 (s0 : ByteArray) (at1 : Int) (w : World) (R : W.Post) : Prop :=
  S2 s0 at1 ⟨none, 0, 0⟩ w R
def KE_S1 (E : W.Env) (w : World) (R : W.Post) : Prop := W.asStr (W.Env.get? E 0) fun s0 => W.asInt .i64 (W.Env.get? E 1) fun at1 => S1 s0 at1 w R
theorem KE_S1_ok (R : W.Post) (E : W.Env) (w : World) (h : KE_S1 E w R) : W.WP Try.prog (W.cx 104) C1 (Q18 R) E w := by
  obtain ⟨s0, hq0, h1⟩ := W.asStr_elim h
  obtain ⟨at1, hq1, h2⟩ := W.asInt_elim h1
  exact fun a ha => W.WP.at (n := (W.cx 104)) (E := [(0, .string s0), (1, .int .i64 at1)]) (W.WP.seq (c := C1) (x := C111) (y := C2) (by kernel_rfl) <| W.WP.reg (c := C111) (fun E w => KE_S2 E w R) (by kernel_rfl) (Eq.mp (by kernel_rfl) h2) fun _ _ a hA hK => (KE_S2_ok R _ _ hK) a hA) (ha.cons hq0 (ha.cons hq1 ha.nil))
noncomputable def C112 : Code := W.Code.fst C0
/-- ref.go:81 -/
abbrev S0 (s0 : ByteArray) (at1 : Int) (w : World) (R : W.Post) : Prop :=
  S1 s0 at1 w R
def KE_S0 (E : W.Env) (w : World) (R : W.Post) : Prop := W.asStr (W.Env.get? E 0) fun s0 => W.asInt .i64 (W.Env.get? E 1) fun at1 => S0 s0 at1 w R
theorem KE_S0_ok (R : W.Post) (E : W.Env) (w : World) (h : KE_S0 E w R) : W.WP Try.prog (W.cx 104) C0 (Q18 R) E w := by
  obtain ⟨s0, hq0, h1⟩ := W.asStr_elim h
  obtain ⟨at1, hq1, h2⟩ := W.asInt_elim h1
  exact fun a ha => W.WP.at (n := (W.cx 104)) (E := [(0, .string s0), (1, .int .i64 at1)]) (W.WP.seq (c := C0) (x := C112) (y := C1) (by kernel_rfl) <| W.WP.reg (c := C112) (fun E w => KE_S1 E w R) (by kernel_rfl) (Eq.mp (by kernel_rfl) h2) fun _ _ a hA hK => (KE_S1_ok R _ _ hK) a hA) (ha.cons hq0 (ha.cons hq1 ha.nil))
/-- enthymeme/enthymemeref09.quoted -/
theorem ok (s0 : ByteArray) (at1 : Int) (w : World) (R : W.Post) (h : S0 s0 at1 w R) : Calls Try.prog n_enthymemeref09_quoted #[.string s0, .int .i64 at1] w R :=
  W.calls_of_WP' (fn := Try.f33) (c := C0) (args := [.string s0, .int .i64 at1]) (by kernel_rfl) (by kernel_rfl) (by kernel_rfl) (KE_S0_ok R _ _ (Eq.mp (by kernel_rfl) h))
end enthymemeref09_quoted
namespace enthymemeref09_Tokens
noncomputable def C0 : Code := (Try.f14.body).getD .skip
noncomputable def C1 : Code := W.Code.snd C0
noncomputable def C2 : Code := W.Code.fst C1
noncomputable def C3 : Code := W.Code.snd C2
noncomputable def C4 : Code := W.Code.fst C3
noncomputable def C5 : Code := W.Code.snd C1
abbrev Q0 (R : W.Post) : Exit → Act → World → Prop := (Exit.then (W.wpx Try.prog (W.cx 155) C5 (bodyPost Try.prog Try.f14 R)) (bodyPost Try.prog Try.f14 R))
noncomputable def C6 : Code := W.Code.fst C4
noncomputable def C7 : Code := W.Code.snd C4
/-- ref.go:129 -/
abbrev S2  (w : World) (R : W.Post) : Prop :=
  R (.returned (.tuple #[.slice none 0 0, .int .i64 65536, .int .i64 4])) w
def KE_S2 (E : W.Env) (w : World) (R : W.Post) : Prop := S2  w R
theorem KE_S2_ok (R : W.Post) (E : W.Env) (w : World) (h : KE_S2 E w R) : W.WP Try.prog (W.cx 155) C4 (Q0 R) E w := by
  exact fun a ha => W.WP.at (n := (W.cx 155)) (E := []) (W.WP.seq (c := C4) (x := C6) (y := C7) (by kernel_rfl) <| W.WP.reg (c := C6) (fun E w => W.retVC Try.prog Try.f14 E w (fun v => R (.returned v) w)) (by kernel_rfl) (Eq.mp (by kernel_rfl) h) fun _ _ a hA hK => (W.WP.ret (c := C7) (by kernel_rfl) fun a hA => W.retVC_sound hA hK) a hA) ha.nil
noncomputable def C8 : Code := W.Code.snd C5
noncomputable def C9 : Code := W.Code.snd C8
noncomputable def C10 : Code := W.Code.snd C9
noncomputable def C11 : Code := W.Code.fst C10
noncomputable def C12 : Code := W.Code.fst C11
noncomputable def C13 : Code := W.Code.fst C12
noncomputable def C14 : Code := W.Code.snd C10
abbrev Q1 (R : W.Post) : Exit → Act → World → Prop := (Exit.then (W.wpx Try.prog (W.cx 155) C14 (bodyPost Try.prog Try.f14 R)) (bodyPost Try.prog Try.f14 R))
abbrev Q2 (R : W.Post) : Exit → Act → World → Prop := (Exit.inBlock 0 (Q1 R))
/-- the head of the loop, ref.go:134 -/
def L6 (s0 spaces5 : ByteArray) (out6 : W.Sl) (i7 : Int) (w : World) (R : W.Post) : Prop := W.LP Try.prog (W.cx 155) C13 (Q2 R) [(0, .string s0), (5, .string spaces5), (6, out6.v), (7, .int .i64 i7)] w
def KE_L6 (E : W.Env) (w : World) (R : W.Post) : Prop := W.asStr (W.Env.get? E 0) fun s0 => W.asStr (W.Env.get? E 5) fun spaces5 => W.asSlice (W.Env.get? E 6) fun out6 => W.asInt .i64 (W.Env.get? E 7) fun i7 => L6 s0 spaces5 out6 i7 w R
theorem KE_L6_ok (R : W.Post) (E : W.Env) (w : World) (h : KE_L6 E w R) : W.LP Try.prog (W.cx 155) C13 (Q2 R) E w := by
  obtain ⟨s0, hq0, h1⟩ := W.asStr_elim h
  obtain ⟨spaces5, hq5, h2⟩ := W.asStr_elim h1
  obtain ⟨out6, hq6, h3⟩ := W.asSlice_elim h2
  obtain ⟨i7, hq7, h4⟩ := W.asInt_elim h3
  intro a ha
  exact h4 a (ha.cons hq0 (ha.cons hq5 (ha.cons hq6 (ha.cons hq7 ha.nil))))
noncomputable def C15 : Code := W.Code.snd C13
noncomputable def C16 : Code := W.Code.fst C15
noncomputable def C17 : Code := W.Code.snd C16
noncomputable def C18 : Code := W.Code.fst C17
noncomputable def C19 : Code := W.Code.snd C18
noncomputable def C20 : Code := W.Code.fst C19
abbrev Q3 (R : W.Post) : Exit → Act → World → Prop := (Exit.then (W.LoopWP Try.prog (W.cx 155) C13 (Q2 R)) (Q2 R))
noncomputable def C21 : Code := W.Code.snd C17
abbrev Q4 (R : W.Post) : Exit → Act → World → Prop := (Exit.then (W.wpx Try.prog (W.cx 155) C21 (Exit.inBlock 1 (Q3 R))) (Exit.inBlock 1 (Q3 R)))
noncomputable def C22 : Code := W.Code.fst C20
noncomputable def C23 : Code := W.Code.snd C20
/-- ref.go:137 -/
abbrev S10 (s0 spaces5 : ByteArray) (out6 : W.Sl) (i7 : Int) (w : World) (R : W.Post) : Prop :=
  L6 s0 spaces5 out6 (IntKind.wrap .i64 (i7 + 1)) w R
def KE_S10 (E : W.Env) (w : World) (R : W.Post) : Prop := W.asStr (W.Env.get? E 0) fun s0 => W.asStr (W.Env.get? E 5) fun spaces5 => W.asSlice (W.Env.get? E 6) fun out6 => W.asInt .i64 (W.Env.get? E 7) fun i7 => S10 s0 spaces5 out6 i7 w R
theorem KE_S10_ok (R : W.Post) (E : W.Env) (w : World) (h : KE_S10 E w R) : W.WP Try.prog (W.cx 155) C20 (Q4 R) E w := by
  obtain ⟨s0, hq0, h1⟩ := W.asStr_elim h
  obtain ⟨spaces5, hq5, h2⟩ := W.asStr_elim h1
  obtain ⟨out6, hq6, h3⟩ := W.asSlice_elim h2
  obtain ⟨i7, hq7, h4⟩ := W.asInt_elim h3
  exact fun a ha => W.WP.at (n := (W.cx 155)) (E := [(0, .string s0), (5, .string spaces5), (6, out6.v), (7, .int .i64 i7)]) (W.WP.seq (c := C20) (x := C22) (y := C23) (by kernel_rfl) <| W.WP.reg (c := C22) (fun E w => KE_L6 E w R) (by kernel_rfl) (Eq.mp (by kernel_rfl) h4) fun _ _ a hA hK => (W.WP.exit (c := C23) (id := 1) (by kernel_rfl) fun a hA => KE_L6_ok R _ _ hK a hA) a hA) (ha.cons hq0 (ha.cons hq5 (ha.cons hq6 (ha.cons hq7 ha.nil))))
noncomputable def C24 : Code := W.Code.fst C21
noncomputable def C25 : Code := W.Code.snd C24
noncomputable def C26 : Code := W.Code.fst C25
noncomputable def C27 : Code := W.Code.fst C26
noncomputable def C28 : Code := W.Code.fst C27
noncomputable def C29 : Code := W.Code.fst C28
noncomputable def C30 : Code := W.Code.snd C21
noncomputable def C31 : Code := W.Code.snd C26
abbrev Q5 (R : W.Post) : Exit → Act → World → Prop := (Exit.then (W.wpx Try.prog (W.cx 155) C31 (Exit.then (W.wpx Try.prog (W.cx 155) C30 (Exit.inBlock 1 (Q3 R))) (Exit.inBlock 1 (Q3 R)))) (Exit.then (W.wpx Try.prog (W.cx 155) C30 (Exit.inBlock 1 (Q3 R))) (Exit.inBlock 1 (Q3 R))))
abbrev Q6 (R : W.Post) : Exit → Act → World → Prop := (Exit.inBlock 2 (Q5 R))
/-- the head of the loop, ref.go:141 -/
def L12 (s0 spaces5 : ByteArray) (out6 : W.Sl) (i7 : Int) (w : World) (R : W.Post) : Prop := W.LP Try.prog (W.cx 155) C29 (Q6 R) [(0, .string s0), (5, .string spaces5), (6, out6.v), (7, .int .i64 i7)] w
def KE_L12 (E : W.Env) (w : World) (R : W.Post) : Prop := W.asStr (W.Env.get? E 0) fun s0 => W.asStr (W.Env.get? E 5) fun spaces5 => W.asSlice (W.Env.get? E 6) fun out6 => W.asInt .i64 (W.Env.get? E 7) fun i7 => L12 s0 spaces5 out6 i7 w R
theorem KE_L12_ok (R : W.Post) (E : W.Env) (w : World) (h : KE_L12 E w R) : W.LP Try.prog (W.cx 155) C29 (Q6 R) E w := by
  obtain ⟨s0, hq0, h1⟩ := W.asStr_elim h
  obtain ⟨spaces5, hq5, h2⟩ := W.asStr_elim h1
  obtain ⟨out6, hq6, h3⟩ := W.asSlice_elim h2
  obtain ⟨i7, hq7, h4⟩ := W.asInt_elim h3
  intro a ha
  exact h4 a (ha.cons hq0 (ha.cons hq5 (ha.cons hq6 (ha.cons hq7 ha.nil))))
noncomputable def C32 : Code := W.Code.snd C29
noncomputable def C33 : Code := W.Code.fst C32
abbrev Q7 (R : W.Post) : Exit → Act → World → Prop := (Exit.then (W.LoopWP Try.prog (W.cx 155) C29 (Q6 R)) (Q6 R))
abbrev Q8 (R : W.Post) : Exit → Act → World → Prop := (Exit.inBlock 3 (Q7 R))
/-- ref.go:142 -/
abbrev S14 (s0 spaces5 : ByteArray) (out6 : W.Sl) (i7 : Int) (w : World) (R : W.Post) : Prop :=
  L12 s0 spaces5 out6 (IntKind.wrap .i64 (i7 + 1)) w R
def KE_S14 (E : W.Env) (w : World) (R : W.Post) : Prop := W.asStr (W.Env.get? E 0) fun s0 => W.asStr (W.Env.get? E 5) fun spaces5 => W.asSlice (W.Env.get? E 6) fun out6 => W.asInt .i64 (W.Env.get? E 7) fun i7 => S14 s0 spaces5 out6 i7 w R
theorem KE_S14_ok (R : W.Post) (E : W.Env) (w : World) (h : KE_S14 E w R) : W.WP Try.prog (W.cx 155) C33 (Q8 R) E w := by
  obtain ⟨s0, hq0, h1⟩ := W.asStr_elim h
  obtain ⟨spaces5, hq5, h2⟩ := W.asStr_elim h1
  obtain ⟨out6, hq6, h3⟩ := W.asSlice_elim h2
  obtain ⟨i7, hq7, h4⟩ := W.asInt_elim h3
  exact fun a ha => W.WP.at (n := (W.cx 155)) (E := [(0, .string s0), (5, .string spaces5), (6, out6.v), (7, .int .i64 i7)]) (W.WP.reg (c := C33) (fun E w => KE_L12 E w R) (by kernel_rfl) (Eq.mp (by kernel_rfl) h4) fun _ _ a hA hK => KE_L12_ok R _ _ hK a hA) (ha.cons hq0 (ha.cons hq5 (ha.cons hq6 (ha.cons hq7 ha.nil))))
noncomputable def C34 : Code := W.Code.fst C29
abbrev Q9 (R : W.Post) : Exit → Act → World → Prop := (Exit.then (W.wpx Try.prog (W.cx 155) C32 (Exit.then (W.LoopWP Try.prog (W.cx 155) C29 (Q6 R)) (Q6 R))) (Exit.then (W.LoopWP Try.prog (W.cx 155) C29 (Q6 R)) (Q6 R)))
noncomputable def C35 : Code := W.Code.fst C34
noncomputable def C36 : Code := W.Code.snd C34
noncomputable def C37 : Code := W.Code.fst C36
noncomputable def C38 : Code := W.Code.snd C36
/-- ref.go:141 -/
abbrev S13 (s0 spaces5 : ByteArray) (out6 : W.Sl) (i7 : Int) (w : World) (R : W.Post) : Prop :=
  W.sel (decide (i7 < ((s0.size : Nat) : Int))) ((0 : Int) ≤ i7 ∧ ∃ t43_b : UInt8, s0[Int.toNat i7]? = some t43_b ∧ W.sel (((t43_b.toNat : Nat) : Int) != 10) (S14 s0 spaces5 out6 i7 w R) (L6 s0 spaces5 out6 i7 w R)) (L6 s0 spaces5 out6 i7 w R)
def KE_S13 (E : W.Env) (w : World) (R : W.Post) : Prop := W.asStr (W.Env.get? E 0) fun s0 => W.asStr (W.Env.get? E 5) fun spaces5 => W.asSlice (W.Env.get? E 6) fun out6 => W.asInt .i64 (W.Env.get? E 7) fun i7 => S13 s0 spaces5 out6 i7 w R
theorem KE_S13_ok (R : W.Post) (E : W.Env) (w : World) (h : KE_S13 E w R) : W.WP Try.prog (W.cx 155) C34 (Q9 R) E w := by
  obtain ⟨s0, hq0, h1⟩ := W.asStr_elim h
  obtain ⟨spaces5, hq5, h2⟩ := W.asStr_elim h1
  obtain ⟨out6, hq6, h3⟩ := W.asSlice_elim h2
  obtain ⟨i7, hq7, h4⟩ := W.asInt_elim h3
  exact fun a ha => W.WP.at (n := (W.cx 155)) (E := [(0, .string s0), (5, .string spaces5), (6, out6.v), (7, .int .i64 i7)]) (W.WP.seq (c := C34) (x := C35) (y := C36) (by kernel_rfl) <| W.WP.reg (c := C35) (fun E w => W.condK (W.Env.val E (.tmp 45)) (KE_S14 E w R) (KE_L6 E w R)) (by kernel_rfl) (Eq.mp (by kernel_rfl) h4) fun _ _ a hA hK => (W.WP.condK (c := C36) (x := C37) (y := C38) (o := .tmp 45) (by kernel_rfl) (fun hK => (W.WP.skip (c := C37) (by kernel_rfl) fun a hA => (W.WP.block (c := C32) (x := C33) (id := 3) (by kernel_rfl) (KE_S14_ok R _ _ hK)) a hA)) (fun hK => (W.WP.exit (c := C38) (id := 2) (by kernel_rfl) fun a hA => (W.WP.exit (c := C31) (id := 1) (by kernel_rfl) fun a hA => KE_L6_ok R _ _ hK a hA) a hA)) hK) a hA) (ha.cons hq0 (ha.cons hq5 (ha.cons hq6 (ha.cons hq7 ha.nil))))
theorem L12_step (s0 spaces5 : ByteArray) (out6 : W.Sl) (i7 : Int) (w : World) (R : W.Post) (h : S13 s0 spaces5 out6 i7 w R) : L12 s0 spaces5 out6 i7 w R :=
  W.LP.step (n := (W.cx 155)) (c := C29) (E := [(0, .string s0), (5, .string spaces5), (6, out6.v), (7, .int .i64 i7)]) (w := w) (W.WP.seq (c := C29) (x := C34) (y := C32) (by kernel_rfl) (KE_S13_ok R _ _ (Eq.mp (by kernel_rfl) h)))
noncomputable def C39 : Code := W.Code.fst C30
noncomputable def C40 : Code := W.Code.snd C39
noncomputable def C41 : Code := W.Code.fst C40
noncomputable def C42 : Code := W.Code.snd C41
noncomputable def C43 : Code := W.Code.snd C30
abbrev Q10 (R : W.Post) : Exit → Act → World → Prop := (Exit.then (W.wpx Try.prog (W.cx 155) C43 (Exit.inBlock 1 (Q3 R))) (Exit.inBlock 1 (Q3 R)))
noncomputable def C44 : Code := W.Code.fst C42
noncomputable def C45 : Code := W.Code.snd C42
/-- ref.go:148 -/
abbrev S17 (s0 spaces5 : ByteArray) (out6 : W.Sl) (i7 : Int) (w : World) (R : W.Post) : Prop :=
  L6 s0 spaces5 out6 (IntKind.wrap .i64 (i7 + 1)) w R
def KE_S17 (E : W.Env) (w : World) (R : W.Post) : Prop := W.asStr (W.Env.get? E 0) fun s0 => W.asStr (W.Env.get? E 5) fun spaces5 => W.asSlice (W.Env.get? E 6) fun out6 => W.asInt .i64 (W.Env.get? E 7) fun i7 => S17 s0 spaces5 out6 i7 w R
theorem KE_S17_ok (R : W.Post) (E : W.Env) (w : World) (h : KE_S17 E w R) : W.WP Try.prog (W.cx 155) C42 (Q10 R) E w := by
  obtain ⟨s0, hq0, h1⟩ := W.asStr_elim h
  obtain ⟨spaces5, hq5, h2⟩ := W.asStr_elim h1
  obtain ⟨out6, hq6, h3⟩ := W.asSlice_elim h2
  obtain ⟨i7, hq7, h4⟩ := W.asInt_elim h3
  exact fun a ha => W.WP.at (n := (W.cx 155)) (E := [(0, .string s0), (5, .string spaces5), (6, out6.v), (7, .int .i64 i7)]) (W.WP.seq (c := C42) (x := C44) (y := C45) (by kernel_rfl) <| W.WP.reg (c := C44) (fun E w => KE_L6 E w R) (by kernel_rfl) (Eq.mp (by kernel_rfl) h4) fun _ _ a hA hK => (W.WP.exit (c := C45) (id := 1) (by kernel_rfl) fun a hA => KE_L6_ok R _ _ hK a hA) a hA) (ha.cons hq0 (ha.cons hq5 (ha.cons hq6 (ha.cons hq7 ha.nil))))
noncomputable def C46 : Code := W.Code.fst C41
/-- ref.go:147 -/
abbrev S16 (s0 spaces5 : ByteArray) (out6 : W.Sl) (i7 : Int) (w : World) (R : W.Post) : Prop :=
  (0 : Int) ≤ i7 ∧ ∃ t61_b : UInt8, s0[Int.toNat i7]? = some t61_b ∧ W.nwV w (.cells #[.int .i64 (IntKind.wrap .i64 ((IntKind.wrap .i64 ((t61_b.toNat : Nat) : Int)) - 40)), .string (ByteArray.mk #[]), .int .i64 i7] ty_enthymemeref09_Token) fun w1 => 
  ∃ (t67 : W.Sl) (w2 : World), Sem.run Try.prog (Builtin.append_ #[ty_sl_enthymemeref09_Token, ty_sl_enthymemeref09_Token] ty_sl_enthymemeref09_Token #[out6.v, .slice (some (Addr.mk w.heap.size 0 none)) 1 1]) w1 = .ok (t67.v) w2 ∧ S17 s0 spaces5 t67 i7 w2 R
def KE_S16 (E : W.Env) (w : World) (R : W.Post) : Prop := W.asStr (W.Env.get? E 0) fun s0 => W.asStr (W.Env.get? E 5) fun spaces5 => W.asSlice (W.Env.get? E 6) fun out6 => W.asInt .i64 (W.Env.get? E 7) fun i7 => S16 s0 spaces5 out6 i7 w R
theorem KE_S16_ok (R : W.Post) (E : W.Env) (w : World) (h : KE_S16 E w R) : W.WP Try.prog (W.cx 155) C41 (Q10 R) E w := by
  obtain ⟨s0, hq0, h1⟩ := W.asStr_elim h
  obtain ⟨spaces5, hq5, h2⟩ := W.asStr_elim h1
  obtain ⟨out6, hq6, h3⟩ := W.asSlice_elim h2
  obtain ⟨i7, hq7, h4⟩ := W.asInt_elim h3
  exact fun a ha => W.WP.at (n := (W.cx 155)) (E := [(0, .string s0), (5, .string spaces5), (6, out6.v), (7, .int .i64 i7)]) (W.WP.seq (c := C41) (x := C46) (y := C42) (by kernel_rfl) <| W.WP.reg (c := C46) (fun E w => KE_S17 E w R) (by kernel_rfl) (Eq.mp (by kernel_rfl) h4) fun _ _ a hA hK => (KE_S17_ok R _ _ hK) a hA) (ha.cons hq0 (ha.cons hq5 (ha.cons hq6 (ha.cons hq7 ha.nil))))
noncomputable def C47 : Code := W.Code.fst C43
noncomputable def C48 : Code := W.Code.snd C47
noncomputable def C49 : Code := W.Code.fst C48
noncomputable def C50 : Code := W.Code.snd C49
noncomputable def C51 : Code := W.Code.fst C50
noncomputable def C52 : Code := W.Code.snd C51
noncomputable def C53 : Code := W.Code.fst C52
noncomputable def C54 : Code := W.Code.snd C43
noncomputable def C55 : Code := W.Code.snd C50
abbrev Q11 (R : W.Post) : Exit → Act → World → Prop := (Exit.then (W.wpx Try.prog (W.cx 155) C55 (Exit.then (W.wpx Try.prog (W.cx 155) C54 (Exit.inBlock 1 (Q3 R))) (Exit.inBlock 1 (Q3 R)))) (Exit.then (W.wpx Try.prog (W.cx 155) C54 (Exit.inBlock 1 (Q3 R))) (Exit.inBlock 1 (Q3 R))))
noncomputable def C56 : Code := W.Code.fst C53
noncomputable def C57 : Code := W.Code.snd C53
/-- ref.go:154 -/
abbrev S21 (next10 e11 : Int) (w : World) (R : W.Post) : Prop :=
  R (.returned (.tuple #[.slice none 0 0, .int .i64 next10, .int .i64 e11])) w
def KE_S21 (E : W.Env) (w : World) (R : W.Post) : Prop := W.asInt .i64 (W.Env.get? E 10) fun next10 => W.asInt .i64 (W.Env.get? E 11) fun e11 => S21 next10 e11 w R
theorem KE_S21_ok (R : W.Post) (E : W.Env) (w : World) (h : KE_S21 E w R) : W.WP Try.prog (W.cx 155) C53 (Q11 R) E w := by
  obtain ⟨next10, hq10, h1⟩ := W.asInt_elim h
  obtain ⟨e11, hq11, h2⟩ := W.asInt_elim h1
  exact fun a ha => W.WP.at (n := (W.cx 155)) (E := [(10, .int .i64 next10), (11, .int .i64 e11)]) (W.WP.seq (c := C53) (x := C56) (y := C57) (by kernel_rfl) <| W.WP.reg (c := C56) (fun E w => W.retVC Try.prog Try.f14 E w (fun v => R (.returned v) w)) (by kernel_rfl) (Eq.mp (by kernel_rfl) h2) fun _ _ a hA hK => (W.WP.ret (c := C57) (by kernel_rfl) fun a hA => W.retVC_sound hA hK) a hA) (ha.cons hq10 (ha.cons hq11 ha.nil))
noncomputable def C58 : Code := W.Code.snd C55
abbrev Q12 (R : W.Post) : Exit → Act → World → Prop := (Exit.then (W.wpx Try.prog (W.cx 155) C54 (Exit.inBlock 1 (Q3 R))) (Exit.inBlock 1 (Q3 R)))
noncomputable def C59 : Code := W.Code.fst C58
noncomputable def C60 : Code := W.Code.snd C58
/-- ref.go:157 -/
abbrev S23 (s0 spaces5 : ByteArray) (out6 : W.Sl) (next10 : Int) (w : World) (R : W.Post) : Prop :=
  L6 s0 spaces5 out6 next10 w R
def KE_S23 (E : W.Env) (w : World) (R : W.Post) : Prop := W.asStr (W.Env.get? E 0) fun s0 => W.asStr (W.Env.get? E 5) fun spaces5 => W.asSlice (W.Env.get? E 6) fun out6 => W.asInt .i64 (W.Env.get? E 10) fun next10 => S23 s0 spaces5 out6 next10 w R
theorem KE_S23_ok (R : W.Post) (E : W.Env) (w : World) (h : KE_S23 E w R) : W.WP Try.prog (W.cx 155) C58 (Q12 R) E w := by
  obtain ⟨s0, hq0, h1⟩ := W.asStr_elim h
  obtain ⟨spaces5, hq5, h2⟩ := W.asStr_elim h1
  obtain ⟨out6, hq6, h3⟩ := W.asSlice_elim h2
  obtain ⟨next10, hq10, h4⟩ := W.asInt_elim h3
  exact fun a ha => W.WP.at (n := (W.cx 155)) (E := [(0, .string s0), (5, .string spaces5), (6, out6.v), (10, .int .i64 next10)]) (W.WP.seq (c := C58) (x := C59) (y := C60) (by kernel_rfl) <| W.WP.reg (c := C59) (fun E w => KE_L6 E w R) (by kernel_rfl) (Eq.mp (by kernel_rfl) h4) fun _ _ a hA hK => (W.WP.exit (c := C60) (id := 1) (by kernel_rfl) fun a hA => KE_L6_ok R _ _ hK a hA) a hA) (ha.cons hq0 (ha.cons hq5 (ha.cons hq6 (ha.cons hq10 ha.nil))))
noncomputable def C61 : Code := W.Code.fst C55
/-- ref.go:156 -/
abbrev S22 (s0 spaces5 : ByteArray) (out6 : W.Sl) (i7 : Int) (text9 : ByteArray) (next10 : Int) (w : World) (R : W.Post) : Prop :=
  W.nwV w (.cells #[.int .i64 5, .string text9, .int .i64 i7] ty_enthymemeref09_Token) fun w1 => 
  ∃ (t90 : W.Sl) (w2 : World), Sem.run Try.prog (Builtin.append_ #[ty_sl_enthymemeref09_Token, ty_sl_enthymemeref09_Token] ty_sl_enthymemeref09_Token #[out6.v, .slice (some (Addr.mk w.heap.size 0 none)) 1 1]) w1 = .ok (t90.v) w2 ∧ S23 s0 spaces5 t90 next10 w2 R
def KE_S22 (E : W.Env) (w : World) (R : W.Post) : Prop := W.asStr (W.Env.get? E 0) fun s0 => W.asStr (W.Env.get? E 5) fun spaces5 => W.asSlice (W.Env.get? E 6) fun out6 => W.asInt .i64 (W.Env.get? E 7) fun i7 => W.asStr (W.Env.get? E 9) fun text9 => W.asInt .i64 (W.Env.get? E 10) fun next10 => S22 s0 spaces5 out6 i7 text9 next10 w R
theorem KE_S22_ok (R : W.Post) (E : W.Env) (w : World) (h : KE_S22 E w R) : W.WP Try.prog (W.cx 155) C55 (Q12 R) E w := by
  obtain ⟨s0, hq0, h1⟩ := W.asStr_elim h
  obtain ⟨spaces5, hq5, h2⟩ := W.asStr_elim h1
  obtain ⟨out6, hq6, h3⟩ := W.asSlice_elim h2
  obtain ⟨i7, hq7, h4⟩ := W.asInt_elim h3
  obtain ⟨text9, hq9, h5⟩ := W.asStr_elim h4
  obtain ⟨next10, hq10, h6⟩ := W.asInt_elim h5
  exact fun a ha => W.WP.at (n := (W.cx 155)) (E := [(0, .string s0), (5, .string spaces5), (6, out6.v), (7, .int .i64 i7), (9, .string text9), (10, .int .i64 next10)]) (W.WP.seq (c := C55) (x := C61) (y := C58) (by kernel_rfl) <| W.WP.reg (c := C61) (fun E w => KE_S23 E w R) (by kernel_rfl) (Eq.mp (by kernel_rfl) h6) fun _ _ a hA hK => (KE_S23_ok R _ _ hK) a hA) (ha.cons hq0 (ha.cons hq5 (ha.cons hq6 (ha.cons hq7 (ha.cons hq9 (ha.cons hq10 ha.nil))))))
noncomputable def C62 : Code := W.Code.fst C51
noncomputable def C63 : Code := W.Code.snd C52
/-- ref.go:153 -/
abbrev S20 (s0 spaces5 : ByteArray) (out6 : W.Sl) (i7 : Int) (text9 : ByteArray) (next10 e11 : Int) (w : World) (R : W.Post) : Prop :=
  W.sel (e11 != 0) (S21 next10 e11 w R) (S22 s0 spaces5 out6 i7 text9 next10 w R)
def KE_S20 (E : W.Env) (w : World) (R : W.Post) : Prop := W.asStr (W.Env.get? E 0) fun s0 => W.asStr (W.Env.get? E 5) fun spaces5 => W.asSlice (W.Env.get? E 6) fun out6 => W.asInt .i64 (W.Env.get? E 7) fun i7 => W.asStr (W.Env.get? E 9) fun text9 => W.asInt .i64 (W.Env.get? E 10) fun next10 => W.asInt .i64 (W.Env.get? E 11) fun e11 => S20 s0 spaces5 out6 i7 text9 next10 e11 w R
theorem KE_S20_ok (R : W.Post) (E : W.Env) (w : World) (h : KE_S20 E w R) : W.WP Try.prog (W.cx 155) C51 (Q11 R) E w := by
  obtain ⟨s0, hq0, h1⟩ := W.asStr_elim h
  obtain ⟨spaces5, hq5, h2⟩ := W.asStr_elim h1
  obtain ⟨out6, hq6, h3⟩ := W.asSlice_elim h2
  obtain ⟨i7, hq7, h4⟩ := W.asInt_elim h3
  obtain ⟨text9, hq9, h5⟩ := W.asStr_elim h4
  obtain ⟨next10, hq10, h6⟩ := W.asInt_elim h5
  obtain ⟨e11, hq11, h7⟩ := W.asInt_elim h6
  exact fun a ha => W.WP.at (n := (W.cx 155)) (E := [(0, .string s0), (5, .string spaces5), (6, out6.v), (7, .int .i64 i7), (9, .string text9), (10, .int .i64 next10), (11, .int .i64 e11)]) (W.WP.seq (c := C51) (x := C62) (y := C52) (by kernel_rfl) <| W.WP.reg (c := C62) (fun E w => W.condK (W.Env.val E (.tmp 82)) (KE_S21 E w R) (KE_S22 E w R)) (by kernel_rfl) (Eq.mp (by kernel_rfl) h7) fun _ _ a hA hK => (W.WP.condK (c := C52) (x := C53) (y := C63) (o := .tmp 82) (by kernel_rfl) (fun hK => (KE_S21_ok R _ _ hK)) (fun hK => (W.WP.skip (c := C63) (by kernel_rfl) fun a hA => (KE_S22_ok R _ _ hK) a hA)) hK) a hA) (ha.cons hq0 (ha.cons hq5 (ha.cons hq6 (ha.cons hq7 (ha.cons hq9 (ha.cons hq10 (ha.cons hq11 ha.nil)))))))
noncomputable def C64 : Code := W.Code.fst C49
/-- ref.go:152 -/
abbrev S19 (s0 spaces5 : ByteArray) (out6 : W.Sl) (i7 : Int) (w : World) (R : W.Post) : Prop :=
  Calls Try.prog n_enthymemeref09_quoted #[.string s0, .int .i64 i7] w fun r_ w1 => ∃ t77_0 : ByteArray, ∃ t77_1 : Int, ∃ t77_2 : Int, r_ = .returned (.tuple #[.string t77_0, .int .i64 t77_1, .int .i64 t77_2]) ∧ 
  S20 s0 spaces5 out6 i7 t77_0 t77_1 t77_2 w1 R
def KE_S19 (E : W.Env) (w : World) (R : W.Post) : Prop := W.asStr (W.Env.get? E 0) fun s0 => W.asStr (W.Env.get? E 5) fun spaces5 => W.asSlice (W.Env.get? E 6) fun out6 => W.asInt .i64 (W.Env.get? E 7) fun i7 => S19 s0 spaces5 out6 i7 w R
theorem KE_S19_ok (R : W.Post) (E : W.Env) (w : World) (h : KE_S19 E w R) : W.WP Try.prog (W.cx 155) C49 (Q12 R) E w := by
  obtain ⟨s0, hq0, h1⟩ := W.asStr_elim h
  obtain ⟨spaces5, hq5, h2⟩ := W.asStr_elim h1
  obtain ⟨out6, hq6, h3⟩ := W.asSlice_elim h2
  obtain ⟨i7, hq7, h4⟩ := W.asInt_elim h3
  exact fun a ha => W.WP.at (n := (W.cx 155)) (E := [(0, .string s0), (5, .string spaces5), (6, out6.v), (7, .int .i64 i7)]) (W.WP.seq (c := C49) (x := C64) (y := C50) (by kernel_rfl) <| W.WP.reg (c := C64) (fun E w => KE_S20 E w R) (by kernel_rfl) (Eq.mp (by kernel_rfl) h4) fun _ _ a hA hK => (W.WP.seq (c := C50) (x := C51) (y := C55) (by kernel_rfl) (KE_S20_ok R _ _ hK)) a hA) (ha.cons hq0 (ha.cons hq5 (ha.cons hq6 (ha.cons hq7 ha.nil))))
noncomputable def C65 : Code := W.Code.snd C54
noncomputable def C66 : Code := W.Code.fst C65
noncomputable def C67 : Code := W.Code.fst C66
noncomputable def C68 : Code := W.Code.fst C67
noncomputable def C69 : Code := W.Code.snd C65
abbrev Q13 (R : W.Post) : Exit → Act → World → Prop := (Exit.then (W.wpx Try.prog (W.cx 155) C69 (Exit.inBlock 1 (Q3 R))) (Exit.inBlock 1 (Q3 R)))
abbrev Q14 (R : W.Post) : Exit → Act → World → Prop := (Exit.inBlock 4 (Q13 R))
/-- the head of the loop, ref.go:161 -/
def L25 (s0 spaces5 : ByteArray) (out6 : W.Sl) (i7 k12 : Int) (w : World) (R : W.Post) : Prop := W.LP Try.prog (W.cx 155) C68 (Q14 R) [(0, .string s0), (5, .string spaces5), (6, out6.v), (7, .int .i64 i7), (12, .int .i64 k12)] w
def KE_L25 (E : W.Env) (w : World) (R : W.Post) : Prop := W.asStr (W.Env.get? E 0) fun s0 => W.asStr (W.Env.get? E 5) fun spaces5 => W.asSlice (W.Env.get? E 6) fun out6 => W.asInt .i64 (W.Env.get? E 7) fun i7 => W.asInt .i64 (W.Env.get? E 12) fun k12 => L25 s0 spaces5 out6 i7 k12 w R
theorem KE_L25_ok (R : W.Post) (E : W.Env) (w : World) (h : KE_L25 E w R) : W.LP Try.prog (W.cx 155) C68 (Q14 R) E w := by
  obtain ⟨s0, hq0, h1⟩ := W.asStr_elim h
  obtain ⟨spaces5, hq5, h2⟩ := W.asStr_elim h1
  obtain ⟨out6, hq6, h3⟩ := W.asSlice_elim h2
  obtain ⟨i7, hq7, h4⟩ := W.asInt_elim h3
  obtain ⟨k12, hq12, h5⟩ := W.asInt_elim h4
  intro a ha
  exact h5 a (ha.cons hq0 (ha.cons hq5 (ha.cons hq6 (ha.cons hq7 (ha.cons hq12 ha.nil)))))
noncomputable def C70 : Code := W.Code.snd C68
noncomputable def C71 : Code := W.Code.fst C70
abbrev Q15 (R : W.Post) : Exit → Act → World → Prop := (Exit.then (W.LoopWP Try.prog (W.cx 155) C68 (Q14 R)) (Q14 R))
abbrev Q16 (R : W.Post) : Exit → Act → World → Prop := (Exit.inBlock 5 (Q15 R))
/-- ref.go:162 -/
abbrev S27 (s0 spaces5 : ByteArray) (out6 : W.Sl) (i7 k12 : Int) (w : World) (R : W.Post) : Prop :=
  L25 s0 spaces5 out6 i7 (IntKind.wrap .i64 (k12 + 1)) w R
def KE_S27 (E : W.Env) (w : World) (R : W.Post) : Prop := W.asStr (W.Env.get? E 0) fun s0 => W.asStr (W.Env.get? E 5) fun spaces5 => W.asSlice (W.Env.get? E 6) fun out6 => W.asInt .i64 (W.Env.get? E 7) fun i7 => W.asInt .i64 (W.Env.get? E 12) fun k12 => S27 s0 spaces5 out6 i7 k12 w R
theorem KE_S27_ok (R : W.Post) (E : W.Env) (w : World) (h : KE_S27 E w R) : W.WP Try.prog (W.cx 155) C71 (Q16 R) E w := by
  obtain ⟨s0, hq0, h1⟩ := W.asStr_elim h
  obtain ⟨spaces5, hq5, h2⟩ := W.asStr_elim h1
  obtain ⟨out6, hq6, h3⟩ := W.asSlice_elim h2
  obtain ⟨i7, hq7, h4⟩ := W.asInt_elim h3
  obtain ⟨k12, hq12, h5⟩ := W.asInt_elim h4
  exact fun a ha => W.WP.at (n := (W.cx 155)) (E := [(0, .string s0), (5, .string spaces5), (6, out6.v), (7, .int .i64 i7), (12, .int .i64 k12)]) (W.WP.reg (c := C71) (fun E w => KE_L25 E w R) (by kernel_rfl) (Eq.mp (by kernel_rfl) h5) fun _ _ a hA hK => KE_L25_ok R _ _ hK a hA) (ha.cons hq0 (ha.cons hq5 (ha.cons hq6 (ha.cons hq7 (ha.cons hq12 ha.nil)))))
noncomputable def C72 : Code := W.Code.fst C69
noncomputable def C73 : Code := W.Code.snd C72
noncomputable def C74 : Code := W.Code.fst C73
noncomputable def C75 : Code := W.Code.snd C69
abbrev Q17 (R : W.Post) : Exit → Act → World → Prop := (Exit.then (W.wpx Try.prog (W.cx 155) C75 (Exit.inBlock 1 (Q3 R))) (Exit.inBlock 1 (Q3 R)))
noncomputable def C76 : Code := W.Code.fst C74
noncomputable def C77 : Code := W.Code.snd C74
/-- ref.go:165 -/
abbrev S29 (i7 : Int) (w : World) (R : W.Post) : Prop :=
  R (.returned (.tuple #[.slice none 0 0, .int .i64 i7, .int .i64 2])) w
def KE_S29 (E : W.Env) (w : World) (R : W.Post) : Prop := W.asInt .i64 (W.Env.get? E 7) fun i7 => S29 i7 w R
theorem KE_S29_ok (R : W.Post) (E : W.Env) (w : World) (h : KE_S29 E w R) : W.WP Try.prog (W.cx 155) C74 (Q17 R) E w := by
  obtain ⟨i7, hq7, h1⟩ := W.asInt_elim h
  exact fun a ha => W.WP.at (n := (W.cx 155)) (E := [(7, .int .i64 i7)]) (W.WP.seq (c := C74) (x := C76) (y := C77) (by kernel_rfl) <| W.WP.reg (c := C76) (fun E w => W.retVC Try.prog Try.f14 E w (fun v => R (.returned v) w)) (by kernel_rfl) (Eq.mp (by kernel_rfl) h1) fun _ _ a hA hK => (W.WP.ret (c := C77) (by kernel_rfl) fun a hA => W.retVC_sound hA hK) a hA) (ha.cons hq7 ha.nil)
noncomputable def C78 : Code := W.Code.snd C75
noncomputable def C79 : Code := W.Code.fst C78
noncomputable def C80 : Code := W.Code.snd C79
noncomputable def C81 : Code := W.Code.fst C80
noncomputable def C82 : Code := W.Code.snd C78
abbrev Q18 (R : W.Post) : Exit → Act → World → Prop := (Exit.then (W.wpx Try.prog (W.cx 155) C82 (Exit.inBlock 1 (Q3 R))) (Exit.inBlock 1 (Q3 R)))
noncomputable def C83 : Code := W.Code.fst C81
noncomputable def C84 : Code := W.Code.snd C81
/-- ref.go:169 -/
abbrev S32 (i7 e14 : Int) (w : World) (R : W.Post) : Prop :=
  R (.returned (.tuple #[.slice none 0 0, .int .i64 i7, .int .i64 e14])) w
def KE_S32 (E : W.Env) (w : World) (R : W.Post) : Prop := W.asInt .i64 (W.Env.get? E 7) fun i7 => W.asInt .i64 (W.Env.get? E 14) fun e14 => S32 i7 e14 w R
theorem KE_S32_ok (R : W.Post) (E : W.Env) (w : World) (h : KE_S32 E w R) : W.WP Try.prog (W.cx 155) C81 (Q18 R) E w := by
  obtain ⟨i7, hq7, h1⟩ := W.asInt_elim h
  obtain ⟨e14, hq14, h2⟩ := W.asInt_elim h1
  exact fun a ha => W.WP.at (n := (W.cx 155)) (E := [(7, .int .i64 i7), (14, .int .i64 e14)]) (W.WP.seq (c := C81) (x := C83) (y := C84) (by kernel_rfl) <| W.WP.reg (c := C83) (fun E w => W.retVC Try.prog Try.f14 E w (fun v => R (.returned v) w)) (by kernel_rfl) (Eq.mp (by kernel_rfl) h2) fun _ _ a hA hK => (W.WP.ret (c := C84) (by kernel_rfl) fun a hA => W.retVC_sound hA hK) a hA) (ha.cons hq7 (ha.cons hq14 ha.nil))
noncomputable def C85 : Code := W.Code.fst C82
noncomputable def C86 : Code := W.Code.snd C85
noncomputable def C87 : Code := W.Code.fst C86
noncomputable def C88 : Code := W.Code.snd C82
abbrev Q19 (R : W.Post) : Exit → Act → World → Prop := (Exit.then (W.wpx Try.prog (W.cx 155) C88 (Exit.inBlock 1 (Q3 R))) (Exit.inBlock 1 (Q3 R)))
noncomputable def C89 : Code := W.Code.fst C87
noncomputable def C90 : Code := W.Code.snd C87
/-- ref.go:172 -/
abbrev S34 (k12 : Int) (w : World) (R : W.Post) : Prop :=
  R (.returned (.tuple #[.slice none 0 0, .int .i64 k12, .int .i64 2])) w
def KE_S34 (E : W.Env) (w : World) (R : W.Post) : Prop := W.asInt .i64 (W.Env.get? E 12) fun k12 => S34 k12 w R
theorem KE_S34_ok (R : W.Post) (E : W.Env) (w : World) (h : KE_S34 E w R) : W.WP Try.prog (W.cx 155) C87 (Q19 R) E w := by
  obtain ⟨k12, hq12, h1⟩ := W.asInt_elim h
  exact fun a ha => W.WP.at (n := (W.cx 155)) (E := [(12, .int .i64 k12)]) (W.WP.seq (c := C87) (x := C89) (y := C90) (by kernel_rfl) <| W.WP.reg (c := C89) (fun E w => W.retVC Try.prog Try.f14 E w (fun v => R (.returned v) w)) (by kernel_rfl) (Eq.mp (by kernel_rfl) h1) fun _ _ a hA hK => (W.WP.ret (c := C90) (by kernel_rfl) fun a hA => W.retVC_sound hA hK) a hA) (ha.cons hq12 ha.nil)
noncomputable def C91 : Code := W.Code.snd C88
abbrev Q20 (R : W.Post) : Exit → Act → World → Prop := (Exit.inBlock 1 (Q3 R))
/-- ref.go:175 -/
abbrev S36 (s0 spaces5 : ByteArray) (out6 : W.Sl) (k12 : Int) (w : World) (R : W.Post) : Prop :=
  L6 s0 spaces5 out6 k12 w R
def KE_S36 (E : W.Env) (w : World) (R : W.Post) : Prop := W.asStr (W.Env.get? E 0) fun s0 => W.asStr (W.Env.get? E 5) fun spaces5 => W.asSlice (W.Env.get? E 6) fun out6 => W.asInt .i64 (W.Env.get? E 12) fun k12 => S36 s0 spaces5 out6 k12 w R
theorem KE_S36_ok (R : W.Post) (E : W.Env) (w : World) (h : KE_S36 E w R) : W.WP Try.prog (W.cx 155) C91 (Q20 R) E w := by
  obtain ⟨s0, hq0, h1⟩ := W.asStr_elim h
  obtain ⟨spaces5, hq5, h2⟩ := W.asStr_elim h1
  obtain ⟨out6, hq6, h3⟩ := W.asSlice_elim h2
  obtain ⟨k12, hq12, h4⟩ := W.asInt_elim h3
  exact fun a ha => W.WP.at (n := (W.cx 155)) (E := [(0, .string s0), (5, .string spaces5), (6, out6.v), (12, .int .i64 k12)]) (W.WP.reg (c := C91) (fun E w => KE_L6 E w R) (by kernel_rfl) (Eq.mp (by kernel_rfl) h4) fun _ _ a hA hK => KE_L6_ok R _ _ hK a hA) (ha.cons hq0 (ha.cons hq5 (ha.cons hq6 (ha.cons hq12 ha.nil))))
noncomputable def C92 : Code := W.Code.fst C88
/-- ref.go:174 -/
abbrev S35 (s0 spaces5 : ByteArray) (out6 : W.Sl) (i7 k12 kind13 : Int) (w : World) (R : W.Post) : Prop :=
  (0 : Int) ≤ k12 ∧ k12 ≤ ((s0.size : Nat) : Int) ∧ (0 : Int) ≤ i7 ∧ i7 ≤ (((Int.toNat k12) : Nat) : Int) ∧ W.nwV w (.cells #[.int .i64 kind13, .string (s0.extract (Int.toNat i7) (Int.toNat k12)), .int .i64 i7] ty_enthymemeref09_Token) fun w1 => 
  ∃ (t147 : W.Sl) (w2 : World), Sem.run Try.prog (Builtin.append_ #[ty_sl_enthymemeref09_Token, ty_sl_enthymemeref09_Token] ty_sl_enthymemeref09_Token #[out6.v, .slice (some (Addr.mk w.heap.size 0 none)) 1 1]) w1 = .ok (t147.v) w2 ∧ S36 s0 spaces5 t147 k12 w2 R
def KE_S35 (E : W.Env) (w : World) (R : W.Post) : Prop := W.asStr (W.Env.get? E 0) fun s0 => W.asStr (W.Env.get? E 5) fun spaces5 => W.asSlice (W.Env.get? E 6) fun out6 => W.asInt .i64 (W.Env.get? E 7) fun i7 => W.asInt .i64 (W.Env.get? E 12) fun k12 => W.asInt .i64 (W.Env.get? E 13) fun kind13 => S35 s0 spaces5 out6 i7 k12 kind13 w R
theorem KE_S35_ok (R : W.Post) (E : W.Env) (w : World) (h : KE_S35 E w R) : W.WP Try.prog (W.cx 155) C88 (Q20 R) E w := by
  obtain ⟨s0, hq0, h1⟩ := W.asStr_elim h
  obtain ⟨spaces5, hq5, h2⟩ := W.asStr_elim h1
  obtain ⟨out6, hq6, h3⟩ := W.asSlice_elim h2
  obtain ⟨i7, hq7, h4⟩ := W.asInt_elim h3
  obtain ⟨k12, hq12, h5⟩ := W.asInt_elim h4
  obtain ⟨kind13, hq13, h6⟩ := W.asInt_elim h5
  exact fun a ha => W.WP.at (n := (W.cx 155)) (E := [(0, .string s0), (5, .string spaces5), (6, out6.v), (7, .int .i64 i7), (12, .int .i64 k12), (13, .int .i64 kind13)]) (W.WP.seq (c := C88) (x := C92) (y := C91) (by kernel_rfl) <| W.WP.reg (c := C92) (fun E w => KE_S36 E w R) (by kernel_rfl) (Eq.mp (by kernel_rfl) h6) fun _ _ a hA hK => (KE_S36_ok R _ _ hK) a hA) (ha.cons hq0 (ha.cons hq5 (ha.cons hq6 (ha.cons hq7 (ha.cons hq12 (ha.cons hq13 ha.nil))))))
noncomputable def C93 : Code := W.Code.fst C85
noncomputable def C94 : Code := W.Code.snd C86
/-- ref.go:171 -/
abbrev S33 (s0 spaces5 : ByteArray) (out6 : W.Sl) (i7 k12 kind13 : Int) (w : World) (R : W.Post) : Prop :=
  W.drV w fun w1 => W.sel (decide (k12 < ((s0.size : Nat) : Int))) ((0 : Int) ≤ k12 ∧ ∃ t128_b : UInt8, s0[Int.toNat k12]? = some t128_b ∧ ¬ (((spaces5.size + (ByteArray.mk #[59, 40, 41]).size : Nat) : Int) > IntKind.i64.max) ∧ W.nwV w1 (.cells #[.int .u8 34] ty_uint8) fun w2 => 
  ∃ t132 : ByteArray, Sem.run Try.prog (Go.convert ty_sl_uint8 ty_string (.slice (some (Addr.mk w1.heap.size 0 none)) 1 1)) w2 = .ok (.string t132) w2 ∧ ¬ ((((spaces5 ++ (ByteArray.mk #[59, 40, 41])).size + t132.size : Nat) : Int) > IntKind.i64.max) ∧ Calls Try.prog n_enthymemeref09_in #[.int .u8 ((t128_b.toNat : Nat) : Int), .string ((spaces5 ++ (ByteArray.mk #[59, 40, 41])) ++ t132)] w2 fun r_ w3 => ∃ t134 : Bool, r_ = .returned (.bool t134) ∧ 
  Sem.run Try.prog (Go.convert ty_sl_uint8 ty_string (.slice (some (Addr.mk w1.heap.size 0 none)) 1 1)) w3 = .ok (.string t132) w3 ∧ W.sel (!t134) (S34 k12 w3 R) (S35 s0 spaces5 out6 i7 k12 kind13 w3 R)) (S35 s0 spaces5 out6 i7 k12 kind13 w1 R)
def KE_S33 (E : W.Env) (w : World) (R : W.Post) : Prop := W.asStr (W.Env.get? E 0) fun s0 => W.asStr (W.Env.get? E 5) fun spaces5 => W.asSlice (W.Env.get? E 6) fun out6 => W.asInt .i64 (W.Env.get? E 7) fun i7 => W.asInt .i64 (W.Env.get? E 12) fun k12 => W.asInt .i64 (W.Env.get? E 13) fun kind13 => S33 s0 spaces5 out6 i7 k12 kind13 w R
theorem KE_S33_ok (R : W.Post) (E : W.Env) (w : World) (h : KE_S33 E w R) : W.WP Try.prog (W.cx 155) C85 (Q19 R) E w := by
  obtain ⟨s0, hq0, h1⟩ := W.asStr_elim h
  obtain ⟨spaces5, hq5, h2⟩ := W.asStr_elim h1
  obtain ⟨out6, hq6, h3⟩ := W.asSlice_elim h2
  obtain ⟨i7, hq7, h4⟩ := W.asInt_elim h3
  obtain ⟨k12, hq12, h5⟩ := W.asInt_elim h4
  obtain ⟨kind13, hq13, h6⟩ := W.asInt_elim h5
  exact fun a ha => W.WP.at (n := (W.cx 155)) (E := [(0, .string s0), (5, .string spaces5), (6, out6.v), (7, .int .i64 i7), (12, .int .i64 k12), (13, .int .i64 kind13)]) (W.WP.seq (c := C85) (x := C93) (y := C86) (by kernel_rfl) <| W.WP.draw (c := C93) [0, 1, 2, 3, 4, 5, 6, 7, 8, 9, 10, 11, 12, 13, 14, 15] (fun E w => W.condK (W.Env.val E (.tmp 136)) (KE_S34 E w R) (KE_S35 E w R)) (by kernel_rfl) (Eq.mp (by kernel_rfl) h6) fun _ _ a hA hK => (W.WP.condK (c := C86) (x := C87) (y := C94) (o := .tmp 136) (by kernel_rfl) (fun hK => (KE_S34_ok R _ _ hK)) (fun hK => (W.WP.skip (c := C94) (by kernel_rfl) fun a hA => (KE_S35_ok R _ _ hK) a hA)) hK) a hA) (ha.cons hq0 (ha.cons hq5 (ha.cons hq6 (ha.cons hq7 (ha.cons hq12 (ha.cons hq13 ha.nil))))))
noncomputable def C95 : Code := W.Code.fst C79
noncomputable def C96 : Code := W.Code.snd C80
/-- ref.go:168 -/
abbrev S31 (s0 spaces5 : ByteArray) (out6 : W.Sl) (i7 k12 kind13 e14 : Int) (w : World) (R : W.Post) : Prop :=
  W.sel (e14 != 0) (S32 i7 e14 w R) (S33 s0 spaces5 out6 i7 k12 kind13 w R)
def KE_S31 (E : W.Env) (w : World) (R : W.Post) : Prop := W.asStr (W.Env.get? E 0) fun s0 => W.asStr (W.Env.get? E 5) fun spaces5 => W.asSlice (W.Env.get? E 6) fun out6 => W.asInt .i64 (W.Env.get? E 7) fun i7 => W.asInt .i64 (W.Env.get? E 12) fun k12 => W.asInt .i64 (W.Env.get? E 13) fun kind13 => W.asInt .i64 (W.Env.get? E 14) fun e14 => S31 s0 spaces5 out6 i7 k12 kind13 e14 w R
theorem KE_S31_ok (R : W.Post) (E : W.Env) (w : World) (h : KE_S31 E w R) : W.WP Try.prog (W.cx 155) C79 (Q18 R) E w := by
  obtain ⟨s0, hq0, h1⟩ := W.asStr_elim h
  obtain ⟨spaces5, hq5, h2⟩ := W.asStr_elim h1
  obtain ⟨out6, hq6, h3⟩ := W.asSlice_elim h2
  obtain ⟨i7, hq7, h4⟩ := W.asInt_elim h3
  obtain ⟨k12, hq12, h5⟩ := W.asInt_elim h4
  obtain ⟨kind13, hq13, h6⟩ := W.asInt_elim h5
  obtain ⟨e14, hq14, h7⟩ := W.asInt_elim h6
  exact fun a ha => W.WP.at (n := (W.cx 155)) (E := [(0, .string s0), (5, .string spaces5), (6, out6.v), (7, .int .i64 i7), (12, .int .i64 k12), (13, .int .i64 kind13), (14, .int .i64 e14)]) (W.WP.seq (c := C79) (x := C95) (y := C80) (by kernel_rfl) <| W.WP.reg (c := C95) (fun E w => W.condK (W.Env.val E (.tmp 118)) (KE_S32 E w R) (KE_S33 E w R)) (by kernel_rfl) (Eq.mp (by kernel_rfl) h7) fun _ _ a hA hK => (W.WP.condK (c := C80) (x := C81) (y := C96) (o := .tmp 118) (by kernel_rfl) (fun hK => (KE_S32_ok R _ _ hK)) (fun hK => (W.WP.skip (c := C96) (by kernel_rfl) fun a hA => (W.WP.seq (c := C82) (x := C85) (y := C88) (by kernel_rfl) (KE_S33_ok R _ _ hK)) a hA)) hK) a hA) (ha.cons hq0 (ha.cons hq5 (ha.cons hq6 (ha.cons hq7 (ha.cons hq12 (ha.cons hq13 (ha.cons hq14 ha.nil)))))))
noncomputable def C97 : Code := W.Code.fst C75
/-- ref.go:167 -/
abbrev S30 (s0 spaces5 : ByteArray) (out6 : W.Sl) (i7 k12 : Int) (w : World) (R : W.Post) : Prop :=
  (0 : Int) ≤ k12 ∧ k12 ≤ ((s0.size : Nat) : Int) ∧ (0 : Int) ≤ i7 ∧ i7 ≤ (((Int.toNat k12) : Nat) : Int) ∧ Calls Try.prog n_enthymemeref09_Plain #[.string (s0.extract (Int.toNat i7) (Int.toNat k12))] w fun r_ w1 => ∃ t114_0 : Int, ∃ t114_1 : Int, r_ = .returned (.tuple #[.int .i64 t114_0, .int .i64 t114_1]) ∧ 
  S31 s0 spaces5 out6 i7 k12 t114_0 t114_1 w1 R
def KE_S30 (E : W.Env) (w : World) (R : W.Post) : Prop := W.asStr (W.Env.get? E 0) fun s0 => W.asStr (W.Env.get? E 5) fun spaces5 => W.asSlice (W.Env.get? E 6) fun out6 => W.asInt .i64 (W.Env.get? E 7) fun i7 => W.asInt .i64 (W.Env.get? E 12) fun k12 => S30 s0 spaces5 out6 i7 k12 w R
theorem KE_S30_ok (R : W.Post) (E : W.Env) (w : World) (h : KE_S30 E w R) : W.WP Try.prog (W.cx 155) C75 (Q20 R) E w := by
  obtain ⟨s0, hq0, h1⟩ := W.asStr_elim h
  obtain ⟨spaces5, hq5, h2⟩ := W.asStr_elim h1
  obtain ⟨out6, hq6, h3⟩ := W.asSlice_elim h2
  obtain ⟨i7, hq7, h4⟩ := W.asInt_elim h3
  obtain ⟨k12, hq12, h5⟩ := W.asInt_elim h4
  exact fun a ha => W.WP.at (n := (W.cx 155)) (E := [(0, .string s0), (5, .string spaces5), (6, out6.v), (7, .int .i64 i7), (12, .int .i64 k12)]) (W.WP.seq (c := C75) (x := C97) (y := C78) (by kernel_rfl) <| W.WP.reg (c := C97) (fun E w => KE_S31 E w R) (by kernel_rfl) (Eq.mp (by kernel_rfl) h5) fun _ _ a hA hK => (W.WP.seq (c := C78) (x := C79) (y := C82) (by kernel_rfl) (KE_S31_ok R _ _ hK)) a hA) (ha.cons hq0 (ha.cons hq5 (ha.cons hq6 (ha.cons hq7 (ha.cons hq12 ha.nil)))))
noncomputable def C98 : Code := W.Code.fst C72
noncomputable def C99 : Code := W.Code.snd C73
/-- ref.go:164 -/
abbrev S28 (s0 spaces5 : ByteArray) (out6 : W.Sl) (i7 k12 : Int) (w : World) (R : W.Post) : Prop :=
  W.sel (k12 == i7) (S29 i7 w R) (S30 s0 spaces5 out6 i7 k12 w R)
def KE_S28 (E : W.Env) (w : World) (R : W.Post) : Prop := W.asStr (W.Env.get? E 0) fun s0 => W.asStr (W.Env.get? E 5) fun spaces5 => W.asSlice (W.Env.get? E 6) fun out6 => W.asInt .i64 (W.Env.get? E 7) fun i7 => W.asInt .i64 (W.Env.get? E 12) fun k12 => S28 s0 spaces5 out6 i7 k12 w R
theorem KE_S28_ok (R : W.Post) (E : W.Env) (w : World) (h : KE_S28 E w R) : W.WP Try.prog (W.cx 155) C72 (Q17 R) E w := by
  obtain ⟨s0, hq0, h1⟩ := W.asStr_elim h
  obtain ⟨spaces5, hq5, h2⟩ := W.asStr_elim h1
  obtain ⟨out6, hq6, h3⟩ := W.asSlice_elim h2
  obtain ⟨i7, hq7, h4⟩ := W.asInt_elim h3
  obtain ⟨k12, hq12, h5⟩ := W.asInt_elim h4
  exact fun a ha => W.WP.at (n := (W.cx 155)) (E := [(0, .string s0), (5, .string spaces5), (6, out6.v), (7, .int .i64 i7), (12, .int .i64 k12)]) (W.WP.seq (c := C72) (x := C98) (y := C73) (by kernel_rfl) <| W.WP.reg (c := C98) (fun E w => W.condK (W.Env.val E (.tmp 107)) (KE_S29 E w R) (KE_S30 E w R)) (by kernel_rfl) (Eq.mp (by kernel_rfl) h5) fun _ _ a hA hK => (W.WP.condK (c := C73) (x := C74) (y := C99) (o := .tmp 107) (by kernel_rfl) (fun hK => (KE_S29_ok R _ _ hK)) (fun hK => (W.WP.skip (c := C99) (by kernel_rfl) fun a hA => (KE_S30_ok R _ _ hK) a hA)) hK) a hA) (ha.cons hq0 (ha.cons hq5 (ha.cons hq6 (ha.cons hq7 (ha.cons hq12 ha.nil)))))
noncomputable def C100 : Code := W.Code.fst C68
abbrev Q21 (R : W.Post) : Exit → Act → World → Prop := (Exit.then (W.wpx Try.prog (W.cx 155) C70 (Exit.then (W.LoopWP Try.prog (W.cx 155) C68 (Q14 R)) (Q14 R))) (Exit.then (W.LoopWP Try.prog (W.cx 155) C68 (Q14 R)) (Q14 R)))
noncomputable def C101 : Code := W.Code.fst C100
noncomputable def C102 : Code := W.Code.snd C100
noncomputable def C103 : Code := W.Code.fst C102
noncomputable def C104 : Code := W.Code.snd C102
/-- ref.go:161 -/
abbrev S26 (s0 spaces5 : ByteArray) (out6 : W.Sl) (i7 k12 : Int) (w : World) (R : W.Post) : Prop :=
  W.sel (decide (k12 < ((s0.size : Nat) : Int))) ((0 : Int) ≤ k12 ∧ ∃ t100_b : UInt8, s0[Int.toNat k12]? = some t100_b ∧ Calls Try.prog n_enthymemeref09_in #[.int .u8 ((t100_b.toNat : Nat) : Int), .string (ByteArray.mk #[97, 98, 99, 100, 101, 102, 103, 104, 105, 106, 107, 108, 109, 110, 111, 112, 113, 114, 115, 116, 117, 118, 119, 120, 121, 122, 48, 49, 50, 51, 52, 53, 54, 55, 56, 57, 45, 35])] w fun r_ w1 => ∃ t101 : Bool, r_ = .returned (.bool t101) ∧ 
  W.sel t101 (S27 s0 spaces5 out6 i7 k12 w1 R) (S28 s0 spaces5 out6 i7 k12 w1 R)) (S28 s0 spaces5 out6 i7 k12 w R)
def KE_S26 (E : W.Env) (w : World) (R : W.Post) : Prop := W.asStr (W.Env.get? E 0) fun s0 => W.asStr (W.Env.get? E 5) fun spaces5 => W.asSlice (W.Env.get? E 6) fun out6 => W.asInt .i64 (W.Env.get? E 7) fun i7 => W.asInt .i64 (W.Env.get? E 12) fun k12 => S26 s0 spaces5 out6 i7 k12 w R
theorem KE_S26_ok (R : W.Post) (E : W.Env) (w : World) (h : KE_S26 E w R) : W.WP Try.prog (W.cx 155) C100 (Q21 R) E w := by
  obtain ⟨s0, hq0, h1⟩ := W.asStr_elim h
  obtain ⟨spaces5, hq5, h2⟩ := W.asStr_elim h1
  obtain ⟨out6, hq6, h3⟩ := W.asSlice_elim h2
  obtain ⟨i7, hq7, h4⟩ := W.asInt_elim h3
  obtain ⟨k12, hq12, h5⟩ := W.asInt_elim h4
  exact fun a ha => W.WP.at (n := (W.cx 155)) (E := [(0, .string s0), (5, .string spaces5), (6, out6.v), (7, .int .i64 i7), (12, .int .i64 k12)]) (W.WP.seq (c := C100) (x := C101) (y := C102) (by kernel_rfl) <| W.WP.reg (c := C101) (fun E w => W.condK (W.Env.val E (.tmp 102)) (KE_S27 E w R) (KE_S28 E w R)) (by kernel_rfl) (Eq.mp (by kernel_rfl) h5) fun _ _ a hA hK => (W.WP.condK (c := C102) (x := C103) (y := C104) (o := .tmp 102) (by kernel_rfl) (fun hK => (W.WP.skip (c := C103) (by kernel_rfl) fun a hA => (W.WP.block (c := C70) (x := C71) (id := 5) (by kernel_rfl) (KE_S27_ok R _ _ hK)) a hA)) (fun hK => (W.WP.exit (c := C104) (id := 4) (by kernel_rfl) fun a hA => (W.WP.seq (c := C69) (x := C72) (y := C75) (by kernel_rfl) (KE_S28_ok R _ _ hK)) a hA)) hK) a hA) (ha.cons hq0 (ha.cons hq5 (ha.cons hq6 (ha.cons hq7 (ha.cons hq12 ha.nil)))))
theorem L25_step (s0 spaces5 : ByteArray) (out6 : W.Sl) (i7 k12 : Int) (w : World) (R : W.Post) (h : S26 s0 spaces5 out6 i7 k12 w R) : L25 s0 spaces5 out6 i7 k12 w R :=
  W.LP.step (n := (W.cx 155)) (c := C68) (E := [(0, .string s0), (5, .string spaces5), (6, out6.v), (7, .int .i64 i7), (12, .int .i64 k12)]) (w := w) (W.WP.seq (c := C68) (x := C100) (y := C70) (by kernel_rfl) (KE_S26_ok R _ _ (Eq.mp (by kernel_rfl) h)))
noncomputable def C105 : Code := W.Code.fst C54
/-- ref.go:160 -/
abbrev S24 (s0 spaces5 : ByteArray) (out6 : W.Sl) (i7 : Int) (w : World) (R : W.Post) : Prop :=
  L25 s0 spaces5 out6 i7 i7 w R
def KE_S24 (E : W.Env) (w : World) (R : W.Post) : Prop := W.asStr (W.Env.get? E 0) fun s0 => W.asStr (W.Env.get? E 5) fun spaces5 => W.asSlice (W.Env.get? E 6) fun out6 => W.asInt .i64 (W.Env.get? E 7) fun i7 => S24 s0 spaces5 out6 i7 w R
theorem KE_S24_ok (R : W.Post) (E : W.Env) (w : World) (h : KE_S24 E w R) : W.WP Try.prog (W.cx 155) C54 (Q20 R) E w := by
  obtain ⟨s0, hq0, h1⟩ := W.asStr_elim h
  obtain ⟨spaces5, hq5, h2⟩ := W.asStr_elim h1
  obtain ⟨out6, hq6, h3⟩ := W.asSlice_elim h2
  obtain ⟨i7, hq7, h4⟩ := W.asInt_elim h3
  exact fun a ha => W.WP.at (n := (W.cx 155)) (E := [(0, .string s0), (5, .string spaces5), (6, out6.v), (7, .int .i64 i7)]) (W.WP.seq (c := C54) (x := C105) (y := C65) (by kernel_rfl) <| W.WP.reg (c := C105) (fun E w => KE_L25 E w R) (by kernel_rfl) (Eq.mp (by kernel_rfl) h4) fun _ _ a hA hK => (W.WP.seq (c := C65) (x := C66) (y := C69) (by kernel_rfl) (W.WP.block (c := C66) (x := C67) (id := 4) (by kernel_rfl) (W.WP.loop (c := C67) (x := C68) (by kernel_rfl) (KE_L25_ok R _ _ hK)))) a hA) (ha.cons hq0 (ha.cons hq5 (ha.cons hq6 (ha.cons hq7 ha.nil))))
noncomputable def C106 : Code := W.Code.fst C47
noncomputable def C107 : Code := W.Code.snd C48
/-- ref.go:151 -/
abbrev S18 (s0 spaces5 : ByteArray) (out6 : W.Sl) (i7 : Int) (w : World) (R : W.Post) : Prop :=
  (0 : Int) ≤ i7 ∧ ∃ t72_b : UInt8, s0[Int.toNat i7]? = some t72_b ∧ W.sel (((t72_b.toNat : Nat) : Int) == 34) (S19 s0 spaces5 out6 i7 w R) (S24 s0 spaces5 out6 i7 w R)
def KE_S18 (E : W.Env) (w : World) (R : W.Post) : Prop := W.asStr (W.Env.get? E 0) fun s0 => W.asStr (W.Env.get? E 5) fun spaces5 => W.asSlice (W.Env.get? E 6) fun out6 => W.asInt .i64 (W.Env.get? E 7) fun i7 => S18 s0 spaces5 out6 i7 w R
theorem KE_S18_ok (R : W.Post) (E : W.Env) (w : World) (h : KE_S18 E w R) : W.WP Try.prog (W.cx 155) C47 (Q12 R) E w := by
  obtain ⟨s0, hq0, h1⟩ := W.asStr_elim h
  obtain ⟨spaces5, hq5, h2⟩ := W.asStr_elim h1
  obtain ⟨out6, hq6, h3⟩ := W.asSlice_elim h2
  obtain ⟨i7, hq7, h4⟩ := W.asInt_elim h3
  exact fun a ha => W.WP.at (n := (W.cx 155)) (E := [(0, .string s0), (5, .string spaces5), (6, out6.v), (7, .int .i64 i7)]) (W.WP.seq (c := C47) (x := C106) (y := C48) (by kernel_rfl) <| W.WP.reg (c := C106) (fun E w => W.condK (W.Env.val E (.tmp 73)) (KE_S19 E w R) (KE_S24 E w R)) (by kernel_rfl) (Eq.mp (by kernel_rfl) h4) fun _ _ a hA hK => (W.WP.condK (c := C48) (x := C49) (y := C107) (o := .tmp 73) (by kernel_rfl) (fun hK => (KE_S19_ok R _ _ hK)) (fun hK => (W.WP.skip (c := C107) (by kernel_rfl) fun a hA => (KE_S24_ok R _ _ hK) a hA)) hK) a hA) (ha.cons hq0 (ha.cons hq5 (ha.cons hq6 (ha.cons hq7 ha.nil))))
noncomputable def C108 : Code := W.Code.fst C39
noncomputable def C109 : Code := W.Code.snd C40
/-- ref.go:146 -/
abbrev S15 (s0 spaces5 : ByteArray) (out6 : W.Sl) (i7 : Int) (w : World) (R : W.Post) : Prop :=
  (0 : Int) ≤ i7 ∧ ∃ t50_b : UInt8, s0[Int.toNat i7]? = some t50_b ∧ W.sel (((t50_b.toNat : Nat) : Int) == 40) (S16 s0 spaces5 out6 i7 w R) ((0 : Int) ≤ i7 ∧ ∃ t55_b : UInt8, s0[Int.toNat i7]? = some t55_b ∧ W.sel (((t55_b.toNat : Nat) : Int) == 41) (S16 s0 spaces5 out6 i7 w R) (S18 s0 spaces5 out6 i7 w R))
def KE_S15 (E : W.Env) (w : World) (R : W.Post) : Prop := W.asStr (W.Env.get? E 0) fun s0 => W.asStr (W.Env.get? E 5) fun spaces5 => W.asSlice (W.Env.get? E 6) fun out6 => W.asInt .i64 (W.Env.get? E 7) fun i7 => S15 s0 spaces5 out6 i7 w R
theorem KE_S15_ok (R : W.Post) (E : W.Env) (w : World) (h : KE_S15 E w R) : W.WP Try.prog (W.cx 155) C39 (Q10 R) E w := by
  obtain ⟨s0, hq0, h1⟩ := W.asStr_elim h
  obtain ⟨spaces5, hq5, h2⟩ := W.asStr_elim h1
  obtain ⟨out6, hq6, h3⟩ := W.asSlice_elim h2
  obtain ⟨i7, hq7, h4⟩ := W.asInt_elim h3
  exact fun a ha => W.WP.at (n := (W.cx 155)) (E := [(0, .string s0), (5, .string spaces5), (6, out6.v), (7, .int .i64 i7)]) (W.WP.seq (c := C39) (x := C108) (y := C40) (by kernel_rfl) <| W.WP.reg (c := C108) (fun E w => W.condK (W.Env.val E (.tmp 57)) (KE_S16 E w R) (KE_S18 E w R)) (by kernel_rfl) (Eq.mp (by kernel_rfl) h4) fun _ _ a hA hK => (W.WP.condK (c := C40) (x := C41) (y := C109) (o := .tmp 57) (by kernel_rfl) (fun hK => (KE_S16_ok R _ _ hK)) (fun hK => (W.WP.skip (c := C109) (by kernel_rfl) fun a hA => (W.WP.seq (c := C43) (x := C47) (y := C54) (by kernel_rfl) (KE_S18_ok R _ _ hK)) a hA)) hK) a hA) (ha.cons hq0 (ha.cons hq5 (ha.cons hq6 (ha.cons hq7 ha.nil))))
abbrev Q22 (R : W.Post) : Exit → Act → World → Prop := (Exit.then (W.wpx Try.prog (W.cx 155) C30 (Exit.inBlock 1 (Q3 R))) (Exit.inBlock 1 (Q3 R)))
noncomputable def C110 : Code := W.Code.fst C24
noncomputable def C111 : Code := W.Code.snd C25
/-- ref.go:140 -/
abbrev S11 (s0 spaces5 : ByteArray) (out6 : W.Sl) (i7 : Int) (w : World) (R : W.Post) : Prop :=
  (0 : Int) ≤ i7 ∧ ∃ t34_b : UInt8, s0[Int.toNat i7]? = some t34_b ∧ W.sel (((t34_b.toNat : Nat) : Int) == 59) (L12 s0 spaces5 out6 i7 w R) (S15 s0 spaces5 out6 i7 w R)
def KE_S11 (E : W.Env) (w : World) (R : W.Post) : Prop := W.asStr (W.Env.get? E 0) fun s0 => W.asStr (W.Env.get? E 5) fun spaces5 => W.asSlice (W.Env.get? E 6) fun out6 => W.asInt .i64 (W.Env.get? E 7) fun i7 => S11 s0 spaces5 out6 i7 w R
theorem KE_S11_ok (R : W.Post) (E : W.Env) (w : World) (h : KE_S11 E w R) : W.WP Try.prog (W.cx 155) C24 (Q22 R) E w := by
  obtain ⟨s0, hq0, h1⟩ := W.asStr_elim h
  obtain ⟨spaces5, hq5, h2⟩ := W.asStr_elim h1
  obtain ⟨out6, hq6, h3⟩ := W.asSlice_elim h2
  obtain ⟨i7, hq7, h4⟩ := W.asInt_elim h3
  exact fun a ha => W.WP.at (n := (W.cx 155)) (E := [(0, .string s0), (5, .string spaces5), (6, out6.v), (7, .int .i64 i7)]) (W.WP.seq (c := C24) (x := C110) (y := C25) (by kernel_rfl) <| W.WP.reg (c := C110) (fun E w => W.condK (W.Env.val E (.tmp 35)) (KE_L12 E w R) (KE_S15 E w R)) (by kernel_rfl) (Eq.mp (by kernel_rfl) h4) fun _ _ a hA hK => (W.WP.condK (c := C25) (x := C26) (y := C111) (o := .tmp 35) (by kernel_rfl) (fun hK => (W.WP.seq (c := C26) (x := C27) (y := C31) (by kernel_rfl) (W.WP.block (c := C27) (x := C28) (id := 2) (by kernel_rfl) (W.WP.loop (c := C28) (x := C29) (by kernel_rfl) (KE_L12_ok R _ _ hK))))) (fun hK => (W.WP.skip (c := C111) (by kernel_rfl) fun a hA => (W.WP.seq (c := C30) (x := C39) (y := C43) (by kernel_rfl) (KE_S15_ok R _ _ hK)) a hA)) hK) a hA) (ha.cons hq0 (ha.cons hq5 (ha.cons hq6 (ha.cons hq7 ha.nil))))
noncomputable def C112 : Code := W.Code.fst C18
noncomputable def C113 : Code := W.Code.snd C19
/-- ref.go:136 -/
abbrev S9 (s0 spaces5 : ByteArray) (out6 : W.Sl) (i7 : Int) (space8 : Bool) (w : World) (R : W.Post) : Prop :=
  W.sel space8 (S10 s0 spaces5 out6 i7 w R) (S11 s0 spaces5 out6 i7 w R)
def KE_S9 (E : W.Env) (w : World) (R : W.Post) : Prop := W.asStr (W.Env.get? E 0) fun s0 => W.asStr (W.Env.get? E 5) fun spaces5 => W.asSlice (W.Env.get? E 6) fun out6 => W.asInt .i64 (W.Env.get? E 7) fun i7 => W.asBool' (W.Env.get? E 8) fun space8 => S9 s0 spaces5 out6 i7 space8 w R
theorem KE_S9_ok (R : W.Post) (E : W.Env) (w : World) (h : KE_S9 E w R) : W.WP Try.prog (W.cx 155) C18 (Q4 R) E w := by
  obtain ⟨s0, hq0, h1⟩ := W.asStr_elim h
  obtain ⟨spaces5, hq5, h2⟩ := W.asStr_elim h1
  obtain ⟨out6, hq6, h3⟩ := W.asSlice_elim h2
  obtain ⟨i7, hq7, h4⟩ := W.asInt_elim h3
  obtain ⟨space8, hq8, h5⟩ := W.asBool_elim h4
  exact fun a ha => W.WP.at (n := (W.cx 155)) (E := [(0, .string s0), (5, .string spaces5), (6, out6.v), (7, .int .i64 i7), (8, .bool space8)]) (W.WP.seq (c := C18) (x := C112) (y := C19) (by kernel_rfl) <| W.WP.reg (c := C112) (fun E w => W.condK (W.Env.val E (.tmp 29)) (KE_S10 E w R) (KE_S11 E w R)) (by kernel_rfl) (Eq.mp (by kernel_rfl) h5) fun _ _ a hA hK => (W.WP.condK (c := C19) (x := C20) (y := C113) (o := .tmp 29) (by kernel_rfl) (fun hK => (KE_S10_ok R _ _ hK)) (fun hK => (W.WP.skip (c := C113) (by kernel_rfl) fun a hA => (W.WP.seq (c := C21) (x := C24) (y := C30) (by kernel_rfl) (KE_S11_ok R _ _ hK)) a hA)) hK) a hA) (ha.cons hq0 (ha.cons hq5 (ha.cons hq6 (ha.cons hq7 (ha.cons hq8 ha.nil)))))
noncomputable def C114 : Code := W.Code.fst C16
/-- ref.go:135 -/
abbrev S8 (s0 spaces5 : ByteArray) (out6 : W.Sl) (i7 : Int) (w : World) (R : W.Post) : Prop :=
  (0 : Int) ≤ i7 ∧ ∃ t26_b : UInt8, s0[Int.toNat i7]? = some t26_b ∧ Calls Try.prog n_enthymemeref09_in #[.int .u8 ((t26_b.toNat : Nat) : Int), .string spaces5] w fun r_ w1 => ∃ t28 : Bool, r_ = .returned (.bool t28) ∧ 
  S9 s0 spaces5 out6 i7 t28 w1 R
def KE_S8 (E : W.Env) (w : World) (R : W.Post) : Prop := W.asStr (W.Env.get? E 0) fun s0 => W.asStr (W.Env.get? E 5) fun spaces5 => W.asSlice (W.Env.get? E 6) fun out6 => W.asInt .i64 (W.Env.get? E 7) fun i7 => S8 s0 spaces5 out6 i7 w R
theorem KE_S8_ok (R : W.Post) (E : W.Env) (w : World) (h : KE_S8 E w R) : W.WP Try.prog (W.cx 155) C16 (Q20 R) E w := by
  obtain ⟨s0, hq0, h1⟩ := W.asStr_elim h
  obtain ⟨spaces5, hq5, h2⟩ := W.asStr_elim h1
  obtain ⟨out6, hq6, h3⟩ := W.asSlice_elim h2
  obtain ⟨i7, hq7, h4⟩ := W.asInt_elim h3
  exact fun a ha => W.WP.at (n := (W.cx 155)) (E := [(0, .string s0), (5, .string spaces5), (6, out6.v), (7, .int .i64 i7)]) (W.WP.seq (c := C16) (x := C114) (y := C17) (by kernel_rfl) <| W.WP.reg (c := C114) (fun E w => KE_S9 E w R) (by kernel_rfl) (Eq.mp (by kernel_rfl) h4) fun _ _ a hA hK => (W.WP.seq (c := C17) (x := C18) (y := C21) (by kernel_rfl) (KE_S9_ok R _ _ hK)) a hA) (ha.cons hq0 (ha.cons hq5 (ha.cons hq6 (ha.cons hq7 ha.nil))))
abbrev Q23 (R : W.Post) : Exit → Act → World → Prop := (bodyPost Try.prog Try.f14 R)
noncomputable def C115 : Code := W.Code.fst C14
noncomputable def C116 : Code := W.Code.snd C14
/-- ref.go:177 -/
abbrev S37 (s0 : ByteArray) (out6 : W.Sl) (w : World) (R : W.Post) : Prop :=
  W.nwV w (.cells #[.int .i64 6, .string (ByteArray.mk #[]), .int .i64 ((s0.size : Nat) : Int)] ty_enthymemeref09_Token) fun w1 => 
  ∃ (t154 : W.Sl) (w2 : World), Sem.run Try.prog (Builtin.append_ #[ty_sl_enthymemeref09_Token, ty_sl_enthymemeref09_Token] ty_sl_enthymemeref09_Token #[out6.v, .slice (some (Addr.mk w.heap.size 0 none)) 1 1]) w1 = .ok (t154.v) w2 ∧ R (.returned (.tuple #[t154.v, .int .i64 0, .int .i64 0])) w2
def KE_S37 (E : W.Env) (w : World) (R : W.Post) : Prop := W.asStr (W.Env.get? E 0) fun s0 => W.asSlice (W.Env.get? E 6) fun out6 => S37 s0 out6 w R
theorem KE_S37_ok (R : W.Post) (E : W.Env) (w : World) (h : KE_S37 E w R) : W.WP Try.prog (W.cx 155) C14 (Q23 R) E w := by
  obtain ⟨s0, hq0, h1⟩ := W.asStr_elim h
  obtain ⟨out6, hq6, h2⟩ := W.asSlice_elim h1
  exact fun a ha => W.WP.at (n := (W.cx 155)) (E := [(0, .string s0), (6, out6.v)]) (W.WP.seq (c := C14) (x := C115) (y := C116) (by kernel_rfl) <| W.WP.reg (c := C115) (fun E w => W.retVC Try.prog Try.f14 E w (fun v => R (.returned v) w)) (by kernel_rfl) (Eq.mp (by kernel_rfl) h2) fun _ _ a hA hK => (W.WP.ret (c := C116) (by kernel_rfl) fun a hA => W.retVC_sound hA hK) a hA) (ha.cons hq0 (ha.cons hq6 ha.nil))
noncomputable def C117 : Code := W.Code.fst C13
abbrev Q24 (R : W.Post) : Exit → Act → World → Prop := (Exit.then (W.wpx Try.prog (W.cx 155) C15 (Exit.then (W.LoopWP Try.prog (W.cx 155) C13 (Q2 R)) (Q2 R))) (Exit.then (W.LoopWP Try.prog (W.cx 155) C13 (Q2 R)) (Q2 R)))
noncomputable def C118 : Code := W.Code.fst C117
noncomputable def C119 : Code := W.Code.snd C117
noncomputable def C120 : Code := W.Code.fst C119
noncomputable def C121 : Code := W.Code.snd C119
/-- ref.go:134 -/
abbrev S7 (s0 spaces5 : ByteArray) (out6 : W.Sl) (i7 : Int) (w : World) (R : W.Post) : Prop :=
  W.sel (decide (i7 < ((s0.size : Nat) : Int))) (S8 s0 spaces5 out6 i7 w R) (S37 s0 out6 w R)
def KE_S7 (E : W.Env) (w : World) (R : W.Post) : Prop := W.asStr (W.Env.get? E 0) fun s0 => W.asStr (W.Env.get? E 5) fun spaces5 => W.asSlice (W.Env.get? E 6) fun out6 => W.asInt .i64 (W.Env.get? E 7) fun i7 => S7 s0 spaces5 out6 i7 w R
theorem KE_S7_ok (R : W.Post) (E : W.Env) (w : World) (h : KE_S7 E w R) : W.WP Try.prog (W.cx 155) C117 (Q24 R) E w := by
  obtain ⟨s0, hq0, h1⟩ := W.asStr_elim h
  obtain ⟨spaces5, hq5, h2⟩ := W.asStr_elim h1
  obtain ⟨out6, hq6, h3⟩ := W.asSlice_elim h2
  obtain ⟨i7, hq7, h4⟩ := W.asInt_elim h3
  exact fun a ha => W.WP.at (n := (W.cx 155)) (E := [(0, .string s0), (5, .string spaces5), (6, out6.v), (7, .int .i64 i7)]) (W.WP.seq (c := C117) (x := C118) (y := C119) (by kernel_rfl) <| W.WP.reg (c := C118) (fun E w => W.condK (W.Env.val E (.tmp 23)) (KE_S8 E w R) (KE_S37 E w R)) (by kernel_rfl) (Eq.mp (by kernel_rfl) h4) fun _ _ a hA hK => (W.WP.condK (c := C119) (x := C120) (y := C121) (o := .tmp 23) (by kernel_rfl) (fun hK => (W.WP.skip (c := C120) (by kernel_rfl) fun a hA => (W.WP.block (c := C15) (x := C16) (id := 1) (by kernel_rfl) (KE_S8_ok R _ _ hK)) a hA)) (fun hK => (W.WP.exit (c := C121) (id := 0) (by kernel_rfl) fun a hA => (KE_S37_ok R _ _ hK) a hA)) hK) a hA) (ha.cons hq0 (ha.cons hq5 (ha.cons hq6 (ha.cons hq7 ha.nil))))
theorem L6_step (s0 spaces5 : ByteArray) (out6 : W.Sl) (i7 : Int) (w : World) (R : W.Post) (h : S7 s0 spaces5 out6 i7 w R) : L6 s0 spaces5 out6 i7 w R :=
  W.LP.step (n := (W.cx 155)) (c := C13) (E := [(0, .string s0), (5, .string spaces5), (6, out6.v), (7, .int .i64 i7)]) (w := w) (W.WP.seq (c := C13) (x := C117) (y := C15) (by kernel_rfl) (KE_S7_ok R _ _ (Eq.mp (by kernel_rfl) h)))
noncomputable def C122 : Code := W.Code.fst C9
/-- ref.go:133 -/
abbrev S5 (s0 spaces5 : ByteArray) (out6 : W.Sl) (w : World) (R : W.Post) : Prop :=
  L6 s0 spaces5 out6 0 w R
def KE_S5 (E : W.Env) (w : World) (R : W.Post) : Prop := W.asStr (W.Env.get? E 0) fun s0 => W.asStr (W.Env.get? E 5) fun spaces5 => W.asSlice (W.Env.get? E 6) fun out6 => S5 s0 spaces5 out6 w R
theorem KE_S5_ok (R : W.Post) (E : W.Env) (w : World) (h : KE_S5 E w R) : W.WP Try.prog (W.cx 155) C9 (Q23 R) E w := by
  obtain ⟨s0, hq0, h1⟩ := W.asStr_elim h
  obtain ⟨spaces5, hq5, h2⟩ := W.asStr_elim h1
  obtain ⟨out6, hq6, h3⟩ := W.asSlice_elim h2
  exact fun a ha => W.WP.at (n := (W.cx 155)) (E := [(0, .string s0), (5, .string spaces5), (6, out6.v)]) (W.WP.seq (c := C9) (x := C122) (y := C10) (by kernel_rfl) <| W.WP.reg (c := C122) (fun E w => KE_L6 E w R) (by kernel_rfl) (Eq.mp (by kernel_rfl) h3) fun _ _ a hA hK => (W.WP.seq (c := C10) (x := C11) (y := C14) (by kernel_rfl) (W.WP.block (c := C11) (x := C12) (id := 0) (by kernel_rfl) (W.WP.loop (c := C12) (x := C13) (by kernel_rfl) (KE_L6_ok R _ _ hK)))) a hA) (ha.cons hq0 (ha.cons hq5 (ha.cons hq6 ha.nil)))
noncomputable def C123 : Code := W.Code.fst C8
/-- ref.go:132 -/
abbrev S4 (s0 spaces5 : ByteArray) (w : World) (R : W.Post) : Prop :=
  S5 s0 spaces5 ⟨none, 0, 0⟩ w R
def KE_S4 (E : W.Env) (w : World) (R : W.Post) : Prop := W.asStr (W.Env.get? E 0) fun s0 => W.asStr (W.Env.get? E 5) fun spaces5 => S4 s0 spaces5 w R
theorem KE_S4_ok (R : W.Post) (E : W.Env) (w : World) (h : KE_S4 E w R) : W.WP Try.prog (W.cx 155) C8 (Q23 R) E w := by
  obtain ⟨s0, hq0, h1⟩ := W.asStr_elim h
  obtain ⟨spaces5, hq5, h2⟩ := W.asStr_elim h1
  exact fun a ha => W.WP.at (n := (W.cx 155)) (E := [(0, .string s0), (5, .string spaces5)]) (W.WP.seq (c := C8) (x := C123) (y := C9) (by kernel_rfl) <| W.WP.reg (c := C123) (fun E w => KE_S5 E w R) (by kernel_rfl) (Eq.mp (by kernel_rfl) h2) fun _ _ a hA hK => (KE_S5_ok R _ _ hK) a hA) (ha.cons hq0 (ha.cons hq5 ha.nil))
noncomputable def C124 : Code := W.Code.fst C5
/-- ref.go:131 -/
abbrev S3 (s0 : ByteArray) (w : World) (R : W.Post) : Prop :=
  W.nwV w (.cells #[.int .u8 9, .int .u8 10, .int .u8 13, .int .u8 32] ty_uint8) fun w1 => 
  ∃ t19 : ByteArray, Sem.run Try.prog (Go.convert ty_sl_uint8 ty_string (.slice (some (Addr.mk w.heap.size 0 none)) 4 4)) w1 = .ok (.string t19) w1 ∧ S4 s0 t19 w1 R
def KE_S3 (E : W.Env) (w : World) (R : W.Post) : Prop := W.asStr (W.Env.get? E 0) fun s0 => S3 s0 w R
theorem KE_S3_ok (R : W.Post) (E : W.Env) (w : World) (h : KE_S3 E w R) : W.WP Try.prog (W.cx 155) C5 (Q23 R) E w := by
  obtain ⟨s0, hq0, h1⟩ := W.asStr_elim h
  exact fun a ha => W.WP.at (n := (W.cx 155)) (E := [(0, .string s0)]) (W.WP.seq (c := C5) (x := C124) (y := C8) (by kernel_rfl) <| W.WP.reg (c := C124) (fun E w => KE_S4 E w R) (by kernel_rfl) (Eq.mp (by kernel_rfl) h1) fun _ _ a hA hK => (KE_S4_ok R _ _ hK) a hA) (ha.cons hq0 ha.nil)
noncomputable def C125 : Code := W.Code.fst C2
noncomputable def C126 : Code := W.Code.snd C3
/-- ref.go:128 -/
abbrev S1 (s0 : ByteArray) (w : World) (R : W.Post) : Prop :=
  W.sel (decide (((s0.size : Nat) : Int) > 65536)) (S2  w R) (S3 s0 w R)
def KE_S1 (E : W.Env) (w : World) (R : W.Post) : Prop := W.asStr (W.Env.get? E 0) fun s0 => S1 s0 w R
theorem KE_S1_ok (R : W.Post) (E : W.Env) (w : World) (h : KE_S1 E w R) : W.WP Try.prog (W.cx 155) C2 (Q0 R) E w := by
  obtain ⟨s0, hq0, h1⟩ := W.asStr_elim h
  exact fun a ha => W.WP.at (n := (W.cx 155)) (E := [(0, .string s0)]) (W.WP.seq (c := C2) (x := C125) (y := C3) (by kernel_rfl) <| W.WP.reg (c := C125) (fun E w => W.condK (W.Env.val E (.tmp 17)) (KE_S2 E w R) (KE_S3 E w R)) (by kernel_rfl) (Eq.mp (by kernel_rfl) h1) fun _ _ a hA hK => (W.WP.condK (c := C3) (x := C4) (y := C126) (o := .tmp 17) (by kernel_rfl) (fun hK => (KE_S2_ok R _ _ hK)) (fun hK => (W.WP.skip (c := C126) (by kernel_rfl) fun a hA => (KE_S3_ok R _ _ hK) a hA)) hK) a hA) (ha.cons hq0 ha.nil)
noncomputable def C127 : Code := W.Code.fst C0
/-- ref.go:127 -/
abbrev S0 (s0 : ByteArray) (w : World) (R : W.Post) : Prop :=
  S1 s0 w R
def KE_S0 (E : W.Env) (w : World) (R : W.Post) : Prop := W.asStr (W.Env.get? E 0) fun s0 => S0 s0 w R
theorem KE_S0_ok (R : W.Post) (E : W.Env) (w : World) (h : KE_S0 E w R) : W.WP Try.prog (W.cx 155) C0 (Q23 R) E w := by
  obtain ⟨s0, hq0, h1⟩ := W.asStr_elim h
  exact fun a ha => W.WP.at (n := (W.cx 155)) (E := [(0, .string s0)]) (W.WP.seq (c := C0) (x := C127) (y := C1) (by kernel_rfl) <| W.WP.reg (c := C127) (fun E w => KE_S1 E w R) (by kernel_rfl) (Eq.mp (by kernel_rfl) h1) fun _ _ a hA hK => (W.WP.seq (c := C1) (x := C2) (y := C5) (by kernel_rfl) (KE_S1_ok R _ _ hK)) a hA) (ha.cons hq0 ha.nil)
/-- enthymeme/enthymemeref09.Tokens -/
theorem ok (s0 : ByteArray) (w : World) (R : W.Post) (h : S0 s0 w R) : Calls Try.prog n_enthymemeref09_Tokens #[.string s0] w R :=
  W.calls_of_WP' (fn := Try.f14) (c := C0) (args := [.string s0]) (by kernel_rfl) (by kernel_rfl) (by kernel_rfl) (KE_S0_ok R _ _ (Eq.mp (by kernel_rfl) h))
end enthymemeref09_Tokens
namespace enthymemeref09_Quote
noncomputable def C0 : Code := (Try.f19.body).getD .skip
noncomputable def C1 : Code := W.Code.snd C0
noncomputable def C2 : Code := W.Code.snd C1
noncomputable def C3 : Code := W.Code.snd C2
noncomputable def C4 : Code := W.Code.fst C3
noncomputable def C5 : Code := W.Code.snd C4
noncomputable def C6 : Code := W.Code.fst C5
noncomputable def C7 : Code := W.Code.fst C6
noncomputable def C8 : Code := W.Code.snd C3
abbrev Q0 (R : W.Post) : Exit → Act → World → Prop := (Exit.then (W.wpx Try.prog (W.cx 51) C8 (bodyPost Try.prog Try.f19 R)) (bodyPost Try.prog Try.f19 R))
abbrev Q1 (R : W.Post) : Exit → Act → World → Prop := (Exit.inBlock 0 (Q0 R))
/-- the head of the loop, ref.go:184 -/
def L4 (s0 digits3 : ByteArray) (out4 : W.Sl) (i5 : Int) (w : World) (R : W.Post) : Prop := W.LP Try.prog (W.cx 51) C7 (Q1 R) [(0, .string s0), (3, .string digits3), (4, out4.v), (5, .int .i64 i5)] w
def KE_L4 (E : W.Env) (w : World) (R : W.Post) : Prop := W.asStr (W.Env.get? E 0) fun s0 => W.asStr (W.Env.get? E 3) fun digits3 => W.asSlice (W.Env.get? E 4) fun out4 => W.asInt .i64 (W.Env.get? E 5) fun i5 => L4 s0 digits3 out4 i5 w R
theorem KE_L4_ok (R : W.Post) (E : W.Env) (w : World) (h : KE_L4 E w R) : W.LP Try.prog (W.cx 51) C7 (Q1 R) E w := by
  obtain ⟨s0, hq0, h1⟩ := W.asStr_elim h
  obtain ⟨digits3, hq3, h2⟩ := W.asStr_elim h1
  obtain ⟨out4, hq4, h3⟩ := W.asSlice_elim h2
  obtain ⟨i5, hq5, h4⟩ := W.asInt_elim h3
  intro a ha
  exact h4 a (ha.cons hq0 (ha.cons hq3 (ha.cons hq4 (ha.cons hq5 ha.nil))))
noncomputable def C9 : Code := W.Code.snd C7
noncomputable def C10 : Code := W.Code.snd C9
abbrev Q2 (R : W.Post) : Exit → Act → World → Prop := (Exit.then (W.LoopWP Try.prog (W.cx 51) C7 (Q1 R)) (Q1 R))
/-- ref.go:184 -/
abbrev S11 (s0 digits3 : ByteArray) (out4 : W.Sl) (i5 : Int) (w : World) (R : W.Post) : Prop :=
  L4 s0 digits3 out4 (IntKind.wrap .i64 (i5 + 1)) w R
def KE_S11 (E : W.Env) (w : World) (R : W.Post) : Prop := W.asStr (W.Env.get? E 0) fun s0 => W.asStr (W.Env.get? E 3) fun digits3 => W.asSlice (W.Env.get? E 4) fun out4 => W.asInt .i64 (W.Env.get? E 5) fun i5 => S11 s0 digits3 out4 i5 w R
theorem KE_S11_ok (R : W.Post) (E : W.Env) (w : World) (h : KE_S11 E w R) : W.WP Try.prog (W.cx 51) C10 (Q2 R) E w := by
  obtain ⟨s0, hq0, h1⟩ := W.asStr_elim h
  obtain ⟨digits3, hq3, h2⟩ := W.asStr_elim h1
  obtain ⟨out4, hq4, h3⟩ := W.asSlice_elim h2
  obtain ⟨i5, hq5, h4⟩ := W.asInt_elim h3
  exact fun a ha => W.WP.at (n := (W.cx 51)) (E := [(0, .string s0), (3, .string digits3), (4, out4.v), (5, .int .i64 i5)]) (W.WP.reg (c := C10) (fun E w => KE_L4 E w R) (by kernel_rfl) (Eq.mp (by kernel_rfl) h4) fun _ _ a hA hK => KE_L4_ok R _ _ hK a hA) (ha.cons hq0 (ha.cons hq3 (ha.cons hq4 (ha.cons hq5 ha.nil))))
noncomputable def C11 : Code := W.Code.fst C9
noncomputable def C12 : Code := W.Code.fst C11
noncomputable def C13 : Code := W.Code.snd C12
noncomputable def C14 : Code := W.Code.snd C13
noncomputable def C15 : Code := W.Code.snd C14
noncomputable def C16 : Code := W.Code.fst C15
abbrev Q3 (R : W.Post) : Exit → Act → World → Prop := (Exit.then (W.wpx Try.prog (W.cx 51) C10 (Exit.then (W.LoopWP Try.prog (W.cx 51) C7 (Q1 R)) (Q1 R))) (Exit.then (W.LoopWP Try.prog (W.cx 51) C7 (Q1 R)) (Q1 R)))
abbrev Q4 (R : W.Post) : Exit → Act → World → Prop := (Exit.inBlock 1 (Q3 R))
/-- ref.go:190 -/
abbrev S10 (s0 digits3 : ByteArray) (out4 : W.Sl) (i5 c6 : Int) (w : World) (R : W.Post) : Prop :=
  W.nwV w (.cells #[.int .u8 c6] ty_uint8) fun w1 => 
  ∃ (t35 : W.Sl) (w2 : World), Sem.run Try.prog (Builtin.append_ #[ty_sl_uint8, ty_sl_uint8] ty_sl_uint8 #[out4.v, .slice (some (Addr.mk w.heap.size 0 none)) 1 1]) w1 = .ok (t35.v) w2 ∧ S11 s0 digits3 t35 i5 w2 R
def KE_S10 (E : W.Env) (w : World) (R : W.Post) : Prop := W.asStr (W.Env.get? E 0) fun s0 => W.asStr (W.Env.get? E 3) fun digits3 => W.asSlice (W.Env.get? E 4) fun out4 => W.asInt .i64 (W.Env.get? E 5) fun i5 => W.asInt .u8 (W.Env.get? E 6) fun c6 => S10 s0 digits3 out4 i5 c6 w R
theorem KE_S10_ok (R : W.Post) (E : W.Env) (w : World) (h : KE_S10 E w R) : W.WP Try.prog (W.cx 51) C16 (Q4 R) E w := by
  obtain ⟨s0, hq0, h1⟩ := W.asStr_elim h
  obtain ⟨digits3, hq3, h2⟩ := W.asStr_elim h1
  obtain ⟨out4, hq4, h3⟩ := W.asSlice_elim h2
  obtain ⟨i5, hq5, h4⟩ := W.asInt_elim h3
  obtain ⟨c6, hq6, h5⟩ := W.asInt_elim h4
  exact fun a ha => W.WP.at (n := (W.cx 51)) (E := [(0, .string s0), (3, .string digits3), (4, out4.v), (5, .int .i64 i5), (6, .int .u8 c6)]) (W.WP.reg (c := C16) (fun E w => KE_S11 E w R) (by kernel_rfl) (Eq.mp (by kernel_rfl) h5) fun _ _ a hA hK => (KE_S11_ok R _ _ hK) a hA) (ha.cons hq0 (ha.cons hq3 (ha.cons hq4 (ha.cons hq5 (ha.cons hq6 ha.nil)))))
noncomputable def C17 : Code := W.Code.snd C15
/-- ref.go:192 -/
abbrev S12 (s0 digits3 : ByteArray) (out4 : W.Sl) (i5 c6 : Int) (w : World) (R : W.Post) : Prop :=
  W.drV w fun w1 => (0 : Int) ≤ (IntKind.wrap .u8 (Int.tdiv c6 16)) ∧ ∃ t40_b : UInt8, digits3[Int.toNat (IntKind.wrap .u8 (Int.tdiv c6 16))]? = some t40_b ∧ (0 : Int) ≤ (Int.tmod c6 16) ∧ ∃ t44_b : UInt8, digits3[Int.toNat (Int.tmod c6 16)]? = some t44_b ∧ W.nwV w1 (.cells #[.int .u8 92, .int .u8 120, .int .u8 ((t40_b.toNat : Nat) : Int), .int .u8 ((t44_b.toNat : Nat) : Int)] ty_uint8) fun w2 => 
  ∃ (t46 : W.Sl) (w3 : World), Sem.run Try.prog (Builtin.append_ #[ty_sl_uint8, ty_sl_uint8] ty_sl_uint8 #[out4.v, .slice (some (Addr.mk w1.heap.size 0 none)) 4 4]) w2 = .ok (t46.v) w3 ∧ S11 s0 digits3 t46 i5 w3 R
def KE_S12 (E : W.Env) (w : World) (R : W.Post) : Prop := W.asStr (W.Env.get? E 0) fun s0 => W.asStr (W.Env.get? E 3) fun digits3 => W.asSlice (W.Env.get? E 4) fun out4 => W.asInt .i64 (W.Env.get? E 5) fun i5 => W.asInt .u8 (W.Env.get? E 6) fun c6 => S12 s0 digits3 out4 i5 c6 w R
theorem KE_S12_ok (R : W.Post) (E : W.Env) (w : World) (h : KE_S12 E w R) : W.WP Try.prog (W.cx 51) C17 (Q4 R) E w := by
  obtain ⟨s0, hq0, h1⟩ := W.asStr_elim h
  obtain ⟨digits3, hq3, h2⟩ := W.asStr_elim h1
  obtain ⟨out4, hq4, h3⟩ := W.asSlice_elim h2
  obtain ⟨i5, hq5, h4⟩ := W.asInt_elim h3
  obtain ⟨c6, hq6, h5⟩ := W.asInt_elim h4
  exact fun a ha => W.WP.at (n := (W.cx 51)) (E := [(0, .string s0), (3, .string digits3), (4, out4.v), (5, .int .i64 i5), (6, .int .u8 c6)]) (W.WP.draw (c := C17) [0, 1, 2, 3, 4, 5, 6, 7, 8, 9, 10, 11] (fun E w => KE_S11 E w R) (by kernel_rfl) (Eq.mp (by kernel_rfl) h5) fun _ _ a hA hK => (KE_S11_ok R _ _ hK) a hA) (ha.cons hq0 (ha.cons hq3 (ha.cons hq4 (ha.cons hq5 (ha.cons hq6 ha.nil)))))
noncomputable def C18 : Code := W.Code.fst C14
/-- ref.go:189 -/
abbrev S9 (s0 digits3 : ByteArray) (out4 : W.Sl) (i5 c6 : Int) (w : World) (R : W.Post) : Prop :=
  W.sel (decide (c6 ≥ 32)) (W.sel (decide (c6 ≤ 126)) (S10 s0 digits3 out4 i5 c6 w R) (S12 s0 digits3 out4 i5 c6 w R)) (S12 s0 digits3 out4 i5 c6 w R)
def KE_S9 (E : W.Env) (w : World) (R : W.Post) : Prop := W.asStr (W.Env.get? E 0) fun s0 => W.asStr (W.Env.get? E 3) fun digits3 => W.asSlice (W.Env.get? E 4) fun out4 => W.asInt .i64 (W.Env.get? E 5) fun i5 => W.asInt .u8 (W.Env.get? E 6) fun c6 => S9 s0 digits3 out4 i5 c6 w R
theorem KE_S9_ok (R : W.Post) (E : W.Env) (w : World) (h : KE_S9 E w R) : W.WP Try.prog (W.cx 51) C14 (Q4 R) E w := by
  obtain ⟨s0, hq0, h1⟩ := W.asStr_elim h
  obtain ⟨digits3, hq3, h2⟩ := W.asStr_elim h1
  obtain ⟨out4, hq4, h3⟩ := W.asSlice_elim h2
  obtain ⟨i5, hq5, h4⟩ := W.asInt_elim h3
  obtain ⟨c6, hq6, h5⟩ := W.asInt_elim h4
  exact fun a ha => W.WP.at (n := (W.cx 51)) (E := [(0, .string s0), (3, .string digits3), (4, out4.v), (5, .int .i64 i5), (6, .int .u8 c6)]) (W.WP.seq (c := C14) (x := C18) (y := C15) (by kernel_rfl) <| W.WP.reg (c := C18) (fun E w => W.condK (W.Env.val E (.tmp 31)) (KE_S10 E w R) (KE_S12 E w R)) (by kernel_rfl) (Eq.mp (by kernel_rfl) h5) fun _ _ a hA hK => (W.WP.condK (c := C15) (x := C16) (y := C17) (o := .tmp 31) (by kernel_rfl) (fun hK => (KE_S10_ok R _ _ hK)) (fun hK => (KE_S12_ok R _ _ hK)) hK) a hA) (ha.cons hq0 (ha.cons hq3 (ha.cons hq4 (ha.cons hq5 (ha.cons hq6 ha.nil)))))
noncomputable def C19 : Code := W.Code.fst C13
noncomputable def C20 : Code := W.Code.snd C19
noncomputable def C21 : Code := W.Code.fst C20
abbrev Q5 (R : W.Post) : Exit → Act → World → Prop := (Exit.then (W.wpx Try.prog (W.cx 51) C14 (Exit.inBlock 1 (Q3 R))) (Exit.inBlock 1 (Q3 R)))
/-- ref.go:187 -/
abbrev S8 (s0 digits3 : ByteArray) (out4 : W.Sl) (i5 c6 : Int) (w : World) (R : W.Post) : Prop :=
  W.nwV w (.cells #[.int .u8 92] ty_uint8) fun w1 => 
  ∃ (t25 : W.Sl) (w2 : World), Sem.run Try.prog (Builtin.append_ #[ty_sl_uint8, ty_sl_uint8] ty_sl_uint8 #[out4.v, .slice (some (Addr.mk w.heap.size 0 none)) 1 1]) w1 = .ok (t25.v) w2 ∧ S9 s0 digits3 t25 i5 c6 w2 R
def KE_S8 (E : W.Env) (w : World) (R : W.Post) : Prop := W.asStr (W.Env.get? E 0) fun s0 => W.asStr (W.Env.get? E 3) fun digits3 => W.asSlice (W.Env.get? E 4) fun out4 => W.asInt .i64 (W.Env.get? E 5) fun i5 => W.asInt .u8 (W.Env.get? E 6) fun c6 => S8 s0 digits3 out4 i5 c6 w R
theorem KE_S8_ok (R : W.Post) (E : W.Env) (w : World) (h : KE_S8 E w R) : W.WP Try.prog (W.cx 51) C21 (Q5 R) E w := by
  obtain ⟨s0, hq0, h1⟩ := W.asStr_elim h
  obtain ⟨digits3, hq3, h2⟩ := W.asStr_elim h1
  obtain ⟨out4, hq4, h3⟩ := W.asSlice_elim h2
  obtain ⟨i5, hq5, h4⟩ := W.asInt_elim h3
  obtain ⟨c6, hq6, h5⟩ := W.asInt_elim h4
  exact fun a ha => W.WP.at (n := (W.cx 51)) (E := [(0, .string s0), (3, .string digits3), (4, out4.v), (5, .int .i64 i5), (6, .int .u8 c6)]) (W.WP.reg (c := C21) (fun E w => KE_S9 E w R) (by kernel_rfl) (Eq.mp (by kernel_rfl) h5) fun _ _ a hA hK => (KE_S9_ok R _ _ hK) a hA) (ha.cons hq0 (ha.cons hq3 (ha.cons hq4 (ha.cons hq5 (ha.cons hq6 ha.nil)))))
noncomputable def C22 : Code := W.Code.fst C19
noncomputable def C23 : Code := W.Code.snd C20
/-- ref.go:186 -/
abbrev S7 (s0 digits3 : ByteArray) (out4 : W.Sl) (i5 c6 : Int) (w : World) (R : W.Post) : Prop :=
  W.sel (c6 == 34) (S8 s0 digits3 out4 i5 c6 w R) (W.sel (c6 == 92) (S8 s0 digits3 out4 i5 c6 w R) (S9 s0 digits3 out4 i5 c6 w R))
def KE_S7 (E : W.Env) (w : World) (R : W.Post) : Prop := W.asStr (W.Env.get? E 0) fun s0 => W.asStr (W.Env.get? E 3) fun digits3 => W.asSlice (W.Env.get? E 4) fun out4 => W.asInt .i64 (W.Env.get? E 5) fun i5 => W.asInt .u8 (W.Env.get? E 6) fun c6 => S7 s0 digits3 out4 i5 c6 w R
theorem KE_S7_ok (R : W.Post) (E : W.Env) (w : World) (h : KE_S7 E w R) : W.WP Try.prog (W.cx 51) C19 (Q5 R) E w := by
  obtain ⟨s0, hq0, h1⟩ := W.asStr_elim h
  obtain ⟨digits3, hq3, h2⟩ := W.asStr_elim h1
  obtain ⟨out4, hq4, h3⟩ := W.asSlice_elim h2
  obtain ⟨i5, hq5, h4⟩ := W.asInt_elim h3
  obtain ⟨c6, hq6, h5⟩ := W.asInt_elim h4
  exact fun a ha => W.WP.at (n := (W.cx 51)) (E := [(0, .string s0), (3, .string digits3), (4, out4.v), (5, .int .i64 i5), (6, .int .u8 c6)]) (W.WP.seq (c := C19) (x := C22) (y := C20) (by kernel_rfl) <| W.WP.reg (c := C22) (fun E w => W.condK (W.Env.val E (.tmp 22)) (KE_S8 E w R) (KE_S9 E w R)) (by kernel_rfl) (Eq.mp (by kernel_rfl) h5) fun _ _ a hA hK => (W.WP.condK (c := C20) (x := C21) (y := C23) (o := .tmp 22) (by kernel_rfl) (fun hK => (KE_S8_ok R _ _ hK)) (fun hK => (W.WP.skip (c := C23) (by kernel_rfl) fun a hA => (KE_S9_ok R _ _ hK) a hA)) hK) a hA) (ha.cons hq0 (ha.cons hq3 (ha.cons hq4 (ha.cons hq5 (ha.cons hq6 ha.nil)))))
noncomputable def C24 : Code := W.Code.fst C12
/-- ref.go:185 -/
abbrev S6 (s0 digits3 : ByteArray) (out4 : W.Sl) (i5 : Int) (w : World) (R : W.Post) : Prop :=
  (0 : Int) ≤ i5 ∧ ∃ t16_b : UInt8, s0[Int.toNat i5]? = some t16_b ∧ S7 s0 digits3 out4 i5 ((t16_b.toNat : Nat) : Int) w R
def KE_S6 (E : W.Env) (w : World) (R : W.Post) : Prop := W.asStr (W.Env.get? E 0) fun s0 => W.asStr (W.Env.get? E 3) fun digits3 => W.asSlice (W.Env.get? E 4) fun out4 => W.asInt .i64 (W.Env.get? E 5) fun i5 => S6 s0 digits3 out4 i5 w R
theorem KE_S6_ok (R : W.Post) (E : W.Env) (w : World) (h : KE_S6 E w R) : W.WP Try.prog (W.cx 51) C12 (Q4 R) E w := by
  obtain ⟨s0, hq0, h1⟩ := W.asStr_elim h
  obtain ⟨digits3, hq3, h2⟩ := W.asStr_elim h1
  obtain ⟨out4, hq4, h3⟩ := W.asSlice_elim h2
  obtain ⟨i5, hq5, h4⟩ := W.asInt_elim h3
  exact fun a ha => W.WP.at (n := (W.cx 51)) (E := [(0, .string s0), (3, .string digits3), (4, out4.v), (5, .int .i64 i5)]) (W.WP.seq (c := C12) (x := C24) (y := C13) (by kernel_rfl) <| W.WP.reg (c := C24) (fun E w => KE_S7 E w R) (by kernel_rfl) (Eq.mp (by kernel_rfl) h4) fun _ _ a hA hK => (W.WP.seq (c := C13) (x := C19) (y := C14) (by kernel_rfl) (KE_S7_ok R _ _ hK)) a hA) (ha.cons hq0 (ha.cons hq3 (ha.cons hq4 (ha.cons hq5 ha.nil))))
abbrev Q6 (R : W.Post) : Exit → Act → World → Prop := (bodyPost Try.prog Try.f19 R)
noncomputable def C25 : Code := W.Code.fst C8
noncomputable def C26 : Code := W.Code.snd C8
/-- ref.go:195 -/
abbrev S13 (out4 : W.Sl) (w : World) (R : W.Post) : Prop :=
  W.nwV w (.cells #[.int .u8 34] ty_uint8) fun w1 => 
  ∃ (t49 : W.Sl) (w2 : World), Sem.run Try.prog (Builtin.append_ #[ty_sl_uint8, ty_sl_uint8] ty_sl_uint8 #[out4.v, .slice (some (Addr.mk w.heap.size 0 none)) 1 1]) w1 = .ok (t49.v) w2 ∧ ∃ t50 : ByteArray, Sem.run Try.prog (Go.convert ty_sl_uint8 ty_string (t49.v)) w2 = .ok (.string t50) w2 ∧ R (.returned (.string t50)) w2
def KE_S13 (E : W.Env) (w : World) (R : W.Post) : Prop := W.asSlice (W.Env.get? E 4) fun out4 => S13 out4 w R
theorem KE_S13_ok (R : W.Post) (E : W.Env) (w : World) (h : KE_S13 E w R) : W.WP Try.prog (W.cx 51) C8 (Q6 R) E w := by
  obtain ⟨out4, hq4, h1⟩ := W.asSlice_elim h
  exact fun a ha => W.WP.at (n := (W.cx 51)) (E := [(4, out4.v)]) (W.WP.seq (c := C8) (x := C25) (y := C26) (by kernel_rfl) <| W.WP.reg (c := C25) (fun E w => W.retVC Try.prog Try.f19 E w (fun v => R (.returned v) w)) (by kernel_rfl) (Eq.mp (by kernel_rfl) h1) fun _ _ a hA hK => (W.WP.ret (c := C26) (by kernel_rfl) fun a hA => W.retVC_sound hA hK) a hA) (ha.cons hq4 ha.nil)
noncomputable def C27 : Code := W.Code.fst C7
abbrev Q7 (R : W.Post) : Exit → Act → World → Prop := (Exit.then (W.wpx Try.prog (W.cx 51) C9 (Exit.then (W.LoopWP Try.prog (W.cx 51) C7 (Q1 R)) (Q1 R))) (Exit.then (W.LoopWP Try.prog (W.cx 51) C7 (Q1 R)) (Q1 R)))
noncomputable def C28 : Code := W.Code.fst C27
noncomputable def C29 : Code := W.Code.snd C27
noncomputable def C30 : Code := W.Code.fst C29
noncomputable def C31 : Code := W.Code.snd C29
/-- ref.go:184 -/
abbrev S5 (s0 digits3 : ByteArray) (out4 : W.Sl) (i5 : Int) (w : World) (R : W.Post) : Prop :=
  W.sel (decide (i5 < ((s0.size : Nat) : Int))) (S6 s0 digits3 out4 i5 w R) (S13 out4 w R)
def KE_S5 (E : W.Env) (w : World) (R : W.Post) : Prop := W.asStr (W.Env.get? E 0) fun s0 => W.asStr (W.Env.get? E 3) fun digits3 => W.asSlice (W.Env.get? E 4) fun out4 => W.asInt .i64 (W.Env.get? E 5) fun i5 => S5 s0 digits3 out4 i5 w R
theorem KE_S5_ok (R : W.Post) (E : W.Env) (w : World) (h : KE_S5 E w R) : W.WP Try.prog (W.cx 51) C27 (Q7 R) E w := by
  obtain ⟨s0, hq0, h1⟩ := W.asStr_elim h
  obtain ⟨digits3, hq3, h2⟩ := W.asStr_elim h1
  obtain ⟨out4, hq4, h3⟩ := W.asSlice_elim h2
  obtain ⟨i5, hq5, h4⟩ := W.asInt_elim h3
  exact fun a ha => W.WP.at (n := (W.cx 51)) (E := [(0, .string s0), (3, .string digits3), (4, out4.v), (5, .int .i64 i5)]) (W.WP.seq (c := C27) (x := C28) (y := C29) (by kernel_rfl) <| W.WP.reg (c := C28) (fun E w => W.condK (W.Env.val E (.tmp 11)) (KE_S6 E w R) (KE_S13 E w R)) (by kernel_rfl) (Eq.mp (by kernel_rfl) h4) fun _ _ a hA hK => (W.WP.condK (c := C29) (x := C30) (y := C31) (o := .tmp 11) (by kernel_rfl) (fun hK => (W.WP.skip (c := C30) (by kernel_rfl) fun a hA => (W.WP.seq (c := C9) (x := C11) (y := C10) (by kernel_rfl) (W.WP.block (c := C11) (x := C12) (id := 1) (by kernel_rfl) (KE_S6_ok R _ _ hK))) a hA)) (fun hK => (W.WP.exit (c := C31) (id := 0) (by kernel_rfl) fun a hA => (KE_S13_ok R _ _ hK) a hA)) hK) a hA) (ha.cons hq0 (ha.cons hq3 (ha.cons hq4 (ha.cons hq5 ha.nil))))
theorem L4_step (s0 digits3 : ByteArray) (out4 : W.Sl) (i5 : Int) (w : World) (R : W.Post) (h : S5 s0 digits3 out4 i5 w R) : L4 s0 digits3 out4 i5 w R :=
  W.LP.step (n := (W.cx 51)) (c := C7) (E := [(0, .string s0), (3, .string digits3), (4, out4.v), (5, .int .i64 i5)]) (w := w) (W.WP.seq (c := C7) (x := C27) (y := C9) (by kernel_rfl) (KE_S5_ok R _ _ (Eq.mp (by kernel_rfl) h)))
noncomputable def C32 : Code := W.Code.fst C4
/-- ref.go:184 -/
abbrev S3 (s0 digits3 : ByteArray) (out4 : W.Sl) (w : World) (R : W.Post) : Prop :=
  L4 s0 digits3 out4 0 w R
def KE_S3 (E : W.Env) (w : World) (R : W.Post) : Prop := W.asStr (W.Env.get? E 0) fun s0 => W.asStr (W.Env.get? E 3) fun digits3 => W.asSlice (W.Env.get? E 4) fun out4 => S3 s0 digits3 out4 w R
theorem KE_S3_ok (R : W.Post) (E : W.Env) (w : World) (h : KE_S3 E w R) : W.WP Try.prog (W.cx 51) C4 (Q0 R) E w := by
  obtain ⟨s0, hq0, h1⟩ := W.asStr_elim h
  obtain ⟨digits3, hq3, h2⟩ := W.asStr_elim h1
  obtain ⟨out4, hq4, h3⟩ := W.asSlice_elim h2
  exact fun a ha => W.WP.at (n := (W.cx 51)) (E := [(0, .string s0), (3, .string digits3), (4, out4.v)]) (W.WP.seq (c := C4) (x := C32) (y := C5) (by kernel_rfl) <| W.WP.reg (c := C32) (fun E w => KE_L4 E w R) (by kernel_rfl) (Eq.mp (by kernel_rfl) h3) fun _ _ a hA hK => (W.WP.block (c := C5) (x := C6) (id := 0) (by kernel_rfl) (W.WP.loop (c := C6) (x := C7) (by kernel_rfl) (KE_L4_ok R _ _ hK))) a hA) (ha.cons hq0 (ha.cons hq3 (ha.cons hq4 ha.nil)))
noncomputable def C33 : Code := W.Code.fst C2
/-- ref.go:183 -/
abbrev S2 (s0 digits3 : ByteArray) (w : World) (R : W.Post) : Prop :=
  W.nwV w (.cells #[.int .u8 34] ty_uint8) fun w1 => 
  S3 s0 digits3 ⟨some (Addr.mk w.heap.size 0 none), 1, 1⟩ w1 R
def KE_S2 (E : W.Env) (w : World) (R : W.Post) : Prop := W.asStr (W.Env.get? E 0) fun s0 => W.asStr (W.Env.get? E 3) fun digits3 => S2 s0 digits3 w R
theorem KE_S2_ok (R : W.Post) (E : W.Env) (w : World) (h : KE_S2 E w R) : W.WP Try.prog (W.cx 51) C2 (Q6 R) E w := by
  obtain ⟨s0, hq0, h1⟩ := W.asStr_elim h
  obtain ⟨digits3, hq3, h2⟩ := W.asStr_elim h1
  exact fun a ha => W.WP.at (n := (W.cx 51)) (E := [(0, .string s0), (3, .string digits3)]) (W.WP.seq (c := C2) (x := C33) (y := C3) (by kernel_rfl) <| W.WP.reg (c := C33) (fun E w => KE_S3 E w R) (by kernel_rfl) (Eq.mp (by kernel_rfl) h2) fun _ _ a hA hK => (W.WP.seq (c := C3) (x := C4) (y := C8) (by kernel_rfl) (KE_S3_ok R _ _ hK)) a hA) (ha.cons hq0 (ha.cons hq3 ha.nil))
noncomputable def C34 : Code := W.Code.fst C1
/-- ref.go:182 -/
abbrev S1 (s0 : ByteArray) (w : World) (R : W.Post) : Prop :=
  S2 s0 (ByteArray.mk #[48, 49, 50, 51, 52, 53, 54, 55, 56, 57, 97, 98, 99, 100, 101, 102]) w R
def KE_S1 (E : W.Env) (w : World) (R : W.Post) : Prop := W.asStr (W.Env.get? E 0) fun s0 => S1 s0 w R
theorem KE_S1_ok (R : W.Post) (E : W.Env) (w : World) (h : KE_S1 E w R) : W.WP Try.prog (W.cx 51) C1 (Q6 R) E w := by
  obtain ⟨s0, hq0, h1⟩ := W.asStr_elim h
  exact fun a ha => W.WP.at (n := (W.cx 51)) (E := [(0, .string s0)]) (W.WP.seq (c := C1) (x := C34) (y := C2) (by kernel_rfl) <| W.WP.reg (c := C34) (fun E w => KE_S2 E w R) (by kernel_rfl) (Eq.mp (by kernel_rfl) h1) fun _ _ a hA hK => (KE_S2_ok R _ _ hK) a hA) (ha.cons hq0 ha.nil)
noncomputable def C35 : Code := W.Code.fst C0
/-- ref.go:181 -/
abbrev S0 (s0 : ByteArray) (w : World) (R : W.Post) : Prop :=
  S1 s0 w R
def KE_S0 (E : W.Env) (w : World) (R : W.Post) : Prop := W.asStr (W.Env.get? E 0) fun s0 => S0 s0 w R
theorem KE_S0_ok (R : W.Post) (E : W.Env) (w : World) (h : KE_S0 E w R) : W.WP Try.prog (W.cx 51) C0 (Q6 R) E w := by
  obtain ⟨s0, hq0, h1⟩ := W.asStr_elim h
  exact fun a ha => W.WP.at (n := (W.cx 51)) (E := [(0, .string s0)]) (W.WP.seq (c := C0) (x := C35) (y := C1) (by kernel_rfl) <| W.WP.reg (c := C35) (fun E w => KE_S1 E w R) (by kernel_rfl) (Eq.mp (by kernel_rfl) h1) fun _ _ a hA hK => (KE_S1_ok R _ _ hK) a hA) (ha.cons hq0 ha.nil)
/-- enthymeme/enthymemeref09.Quote -/
theorem ok (s0 : ByteArray) (w : World) (R : W.Post) (h : S0 s0 w R) : Calls Try.prog n_enthymemeref09_Quote #[.string s0] w R :=
  W.calls_of_WP' (fn := Try.f19) (c := C0) (args := [.string s0]) (by kernel_rfl) (by kernel_rfl) (by kernel_rfl) (KE_S0_ok R _ _ (Eq.mp (by kernel_rfl) h))
end enthymemeref09_Quote
namespace enthymemeref09_Same
noncomputable def C0 : Code := (Try.f15.body).getD .skip
noncomputable def C1 : Code := W.Code.snd C0
noncomputable def C2 : Code := W.Code.fst C1
noncomputable def C3 : Code := W.Code.snd C2
noncomputable def C4 : Code := W.Code.fst C3
noncomputable def C5 : Code := W.Code.snd C1
abbrev Q0 (R : W.Post) : Exit → Act → World → Prop := (Exit.then (W.wpx Try.prog (W.cx 26) C5 (bodyPost Try.prog Try.f15 R)) (bodyPost Try.prog Try.f15 R))
noncomputable def C6 : Code := W.Code.fst C4
noncomputable def C7 : Code := W.Code.snd C4
/-- ref.go:201 -/
abbrev S2  (w : World) (R : W.Post) : Prop :=
  R (.returned (.bool false)) w
def KE_S2 (E : W.Env) (w : World) (R : W.Post) : Prop := S2  w R
theorem KE_S2_ok (R : W.Post) (E : W.Env) (w : World) (h : KE_S2 E w R) : W.WP Try.prog (W.cx 26) C4 (Q0 R) E w := by
  exact fun a ha => W.WP.at (n := (W.cx 26)) (E := []) (W.WP.seq (c := C4) (x := C6) (y := C7) (by kernel_rfl) <| W.WP.reg (c := C6) (fun E w => W.retVC Try.prog Try.f15 E w (fun v => R (.returned v) w)) (by kernel_rfl) (Eq.mp (by kernel_rfl) h) fun _ _ a hA hK => (W.WP.ret (c := C7) (by kernel_rfl) fun a hA => W.retVC_sound hA hK) a hA) ha.nil
noncomputable def C8 : Code := W.Code.fst C5
noncomputable def C9 : Code := W.Code.snd C8
noncomputable def C10 : Code := W.Code.fst C9
noncomputable def C11 : Code := W.Code.fst C10
noncomputable def C12 : Code := W.Code.snd C5
abbrev Q1 (R : W.Post) : Exit → Act → World → Prop := (Exit.then (W.wpx Try.prog (W.cx 26) C12 (bodyPost Try.prog Try.f15 R)) (bodyPost Try.prog Try.f15 R))
abbrev Q2 (R : W.Post) : Exit → Act → World → Prop := (Exit.inBlock 0 (Q1 R))
/-- the head of the loop, ref.go:203 -/
def L4 (a0 b1 : W.Sl) (i5 : Int) (w : World) (R : W.Post) : Prop := W.LP Try.prog (W.cx 26) C11 (Q2 R) [(0, a0.v), (1, b1.v), (5, .int .i64 i5)] w
def KE_L4 (E : W.Env) (w : World) (R : W.Post) : Prop := W.asSlice (W.Env.get? E 0) fun a0 => W.asSlice (W.Env.get? E 1) fun b1 => W.asInt .i64 (W.Env.get? E 5) fun i5 => L4 a0 b1 i5 w R
theorem KE_L4_ok (R : W.Post) (E : W.Env) (w : World) (h : KE_L4 E w R) : W.LP Try.prog (W.cx 26) C11 (Q2 R) E w := by
  obtain ⟨a0, hq0, h1⟩ := W.asSlice_elim h
  obtain ⟨b1, hq1, h2⟩ := W.asSlice_elim h1
  obtain ⟨i5, hq5, h3⟩ := W.asInt_elim h2
  intro a ha
  exact h3 a (ha.cons hq0 (ha.cons hq1 (ha.cons hq5 ha.nil)))
noncomputable def C13 : Code := W.Code.snd C11
noncomputable def C14 : Code := W.Code.fst C13
noncomputable def C15 : Code := W.Code.fst C14
noncomputable def C16 : Code := W.Code.snd C15
noncomputable def C17 : Code := W.Code.fst C16
noncomputable def C18 : Code := W.Code.snd C13
abbrev Q3 (R : W.Post) : Exit → Act → World → Prop := (Exit.then (W.wpx Try.prog (W.cx 26) C18 (Exit.then (W.LoopWP Try.prog (W.cx 26) C11 (Q2 R)) (Q2 R))) (Exit.then (W.LoopWP Try.prog (W.cx 26) C11 (Q2 R)) (Q2 R)))
abbrev Q4 (R : W.Post) : Exit → Act → World → Prop := (Exit.inBlock 1 (Q3 R))
noncomputable def C19 : Code := W.Code.fst C17
noncomputable def C20 : Code := W.Code.snd C17
/-- ref.go:205 -/
abbrev S7  (w : World) (R : W.Post) : Prop :=
  R (.returned (.bool false)) w
def KE_S7 (E : W.Env) (w : World) (R : W.Post) : Prop := S7  w R
theorem KE_S7_ok (R : W.Post) (E : W.Env) (w : World) (h : KE_S7 E w R) : W.WP Try.prog (W.cx 26) C17 (Q4 R) E w := by
  exact fun a ha => W.WP.at (n := (W.cx 26)) (E := []) (W.WP.seq (c := C17) (x := C19) (y := C20) (by kernel_rfl) <| W.WP.reg (c := C19) (fun E w => W.retVC Try.prog Try.f15 E w (fun v => R (.returned v) w)) (by kernel_rfl) (Eq.mp (by kernel_rfl) h) fun _ _ a hA hK => (W.WP.ret (c := C20) (by kernel_rfl) fun a hA => W.retVC_sound hA hK) a hA) ha.nil
abbrev Q5 (R : W.Post) : Exit → Act → World → Prop := (Exit.then (W.LoopWP Try.prog (W.cx 26) C11 (Q2 R)) (Q2 R))
/-- ref.go:203 -/
abbrev S8 (a0 b1 : W.Sl) (i5 : Int) (w : World) (R : W.Post) : Prop :=
  L4 a0 b1 (IntKind.wrap .i64 (i5 + 1)) w R
def KE_S8 (E : W.Env) (w : World) (R : W.Post) : Prop := W.asSlice (W.Env.get? E 0) fun a0 => W.asSlice (W.Env.get? E 1) fun b1 => W.asInt .i64 (W.Env.get? E 5) fun i5 => S8 a0 b1 i5 w R
theorem KE_S8_ok (R : W.Post) (E : W.Env) (w : World) (h : KE_S8 E w R) : W.WP Try.prog (W.cx 26) C18 (Q5 R) E w := by
  obtain ⟨a0, hq0, h1⟩ := W.asSlice_elim h
  obtain ⟨b1, hq1, h2⟩ := W.asSlice_elim h1
  obtain ⟨i5, hq5, h3⟩ := W.asInt_elim h2
  exact fun a ha => W.WP.at (n := (W.cx 26)) (E := [(0, a0.v), (1, b1.v), (5, .int .i64 i5)]) (W.WP.reg (c := C18) (fun E w => KE_L4 E w R) (by kernel_rfl) (Eq.mp (by kernel_rfl) h3) fun _ _ a hA hK => KE_L4_ok R _ _ hK a hA) (ha.cons hq0 (ha.cons hq1 (ha.cons hq5 ha.nil)))
noncomputable def C21 : Code := W.Code.fst C15
noncomputable def C22 : Code := W.Code.snd C16
/-- ref.go:204 -/
abbrev S6 (a0 b1 : W.Sl) (i5 : Int) (w : World) (R : W.Post) : Prop :=
  W.drV w fun w1 => (0 : Int) ≤ i5 ∧ i5 < ((a0.n : Nat) : Int) ∧ W.optP a0.a fun t19_p => ∃ t20_0 : Int, ∃ t20_1 : ByteArray, ∃ t20_2 : Int, w1.cell? ((t19_p.add (Int.toNat i5 * 3)).add 0) = some (.int .i64 t20_0) ∧ w1.cell? ((t19_p.add (Int.toNat i5 * 3)).add 1) = some (.string t20_1) ∧ w1.cell? ((t19_p.add (Int.toNat i5 * 3)).add 2) = some (.int .i64 t20_2) ∧ 
  (0 : Int) ≤ i5 ∧ i5 < ((b1.n : Nat) : Int) ∧ W.optP b1.a fun t23_p => ∃ t24_0 : Int, ∃ t24_1 : ByteArray, ∃ t24_2 : Int, w1.cell? ((t23_p.add (Int.toNat i5 * 3)).add 0) = some (.int .i64 t24_0) ∧ w1.cell? ((t23_p.add (Int.toNat i5 * 3)).add 1) = some (.string t24_1) ∧ w1.cell? ((t23_p.add (Int.toNat i5 * 3)).add 2) = some (.int .i64 t24_2) ∧ 
  W.sel (!((t20_0 == t24_0) && ((t20_1.toList == t24_1.toList) && ((t20_2 == t24_2) && true)))) (S7  w1 R) (S8 a0 b1 i5 w1 R)
def KE_S6 (E : W.Env) (w : World) (R : W.Post) : Prop := W.asSlice (W.Env.get? E 0) fun a0 => W.asSlice (W.Env.get? E 1) fun b1 => W.asInt .i64 (W.Env.get? E 5) fun i5 => S6 a0 b1 i5 w R
theorem KE_S6_ok (R : W.Post) (E : W.Env) (w : World) (h : KE_S6 E w R) : W.WP Try.prog (W.cx 26) C15 (Q4 R) E w := by
  obtain ⟨a0, hq0, h1⟩ := W.asSlice_elim h
  obtain ⟨b1, hq1, h2⟩ := W.asSlice_elim h1
  obtain ⟨i5, hq5, h3⟩ := W.asInt_elim h2
  exact fun a ha => W.WP.at (n := (W.cx 26)) (E := [(0, a0.v), (1, b1.v), (5, .int .i64 i5)]) (W.WP.seq (c := C15) (x := C21) (y := C16) (by kernel_rfl) <| W.WP.draw (c := C21) [0, 1, 2, 3, 4, 5, 6, 7, 8] (fun E w => W.condK (W.Env.val E (.tmp 25)) (KE_S7 E w R) (KE_S8 E w R)) (by kernel_rfl) (Eq.mp (by kernel_rfl) h3) fun _ _ a hA hK => (W.WP.condK (c := C16) (x := C17) (y := C22) (o := .tmp 25) (by kernel_rfl) (fun hK => (KE_S7_ok R _ _ hK)) (fun hK => (W.WP.skip (c := C22) (by kernel_rfl) fun a hA => (KE_S8_ok R _ _ hK) a hA)) hK) a hA) (ha.cons hq0 (ha.cons hq1 (ha.cons hq5 ha.nil)))
abbrev Q6 (R : W.Post) : Exit → Act → World → Prop := (bodyPost Try.prog Try.f15 R)
noncomputable def C23 : Code := W.Code.fst C12
noncomputable def C24 : Code := W.Code.snd C12
/-- ref.go:208 -/
abbrev S9  (w : World) (R : W.Post) : Prop :=
  R (.returned (.bool true)) w
def KE_S9 (E : W.Env) (w : World) (R : W.Post) : Prop := S9  w R
theorem KE_S9_ok (R : W.Post) (E : W.Env) (w : World) (h : KE_S9 E w R) : W.WP Try.prog (W.cx 26) C12 (Q6 R) E w := by
  exact fun a ha => W.WP.at (n := (W.cx 26)) (E := []) (W.WP.seq (c := C12) (x := C23) (y := C24) (by kernel_rfl) <| W.WP.reg (c := C23) (fun E w => W.retVC Try.prog Try.f15 E w (fun v => R (.returned v) w)) (by kernel_rfl) (Eq.mp (by kernel_rfl) h) fun _ _ a hA hK => (W.WP.ret (c := C24) (by kernel_rfl) fun a hA => W.retVC_sound hA hK) a hA) ha.nil
noncomputable def C25 : Code := W.Code.fst C11
abbrev Q7 (R : W.Post) : Exit → Act → World → Prop := (Exit.then (W.wpx Try.prog (W.cx 26) C13 (Exit.then (W.LoopWP Try.prog (W.cx 26) C11 (Q2 R)) (Q2 R))) (Exit.then (W.LoopWP Try.prog (W.cx 26) C11 (Q2 R)) (Q2 R)))
noncomputable def C26 : Code := W.Code.fst C25
noncomputable def C27 : Code := W.Code.snd C25
noncomputable def C28 : Code := W.Code.fst C27
noncomputable def C29 : Code := W.Code.snd C27
/-- ref.go:203 -/
abbrev S5 (a0 b1 : W.Sl) (i5 : Int) (w : World) (R : W.Post) : Prop :=
  W.sel (decide (i5 < ((a0.n : Nat) : Int))) (S6 a0 b1 i5 w R) (S9  w R)
def KE_S5 (E : W.Env) (w : World) (R : W.Post) : Prop := W.asSlice (W.Env.get? E 0) fun a0 => W.asSlice (W.Env.get? E 1) fun b1 => W.asInt .i64 (W.Env.get? E 5) fun i5 => S5 a0 b1 i5 w R
theorem KE_S5_ok (R : W.Post) (E : W.Env) (w : World) (h : KE_S5 E w R) : W.WP Try.prog (W.cx 26) C25 (Q7 R) E w := by
  obtain ⟨a0, hq0, h1⟩ := W.asSlice_elim h
  obtain ⟨b1, hq1, h2⟩ := W.asSlice_elim h1
  obtain ⟨i5, hq5, h3⟩ := W.asInt_elim h2
  exact fun a ha => W.WP.at (n := (W.cx 26)) (E := [(0, a0.v), (1, b1.v), (5, .int .i64 i5)]) (W.WP.seq (c := C25) (x := C26) (y := C27) (by kernel_rfl) <| W.WP.reg (c := C26) (fun E w => W.condK (W.Env.val E (.tmp 14)) (KE_S6 E w R) (KE_S9 E w R)) (by kernel_rfl) (Eq.mp (by kernel_rfl) h3) fun _ _ a hA hK => (W.WP.condK (c := C27) (x := C28) (y := C29) (o := .tmp 14) (by kernel_rfl) (fun hK => (W.WP.skip (c := C28) (by kernel_rfl) fun a hA => (W.WP.seq (c := C13) (x := C14) (y := C18) (by kernel_rfl) (W.WP.block (c := C14) (x := C15) (id := 1) (by kernel_rfl) (KE_S6_ok R _ _ hK))) a hA)) (fun hK => (W.WP.exit (c := C29) (id := 0) (by kernel_rfl) fun a hA => (KE_S9_ok R _ _ hK) a hA)) hK) a hA) (ha.cons hq0 (ha.cons hq1 (ha.cons hq5 ha.nil)))
theorem L4_step (a0 b1 : W.Sl) (i5 : Int) (w : World) (R : W.Post) (h : S5 a0 b1 i5 w R) : L4 a0 b1 i5 w R :=
  W.LP.step (n := (W.cx 26)) (c := C11) (E := [(0, a0.v), (1, b1.v), (5, .int .i64 i5)]) (w := w) (W.WP.seq (c := C11) (x := C25) (y := C13) (by kernel_rfl) (KE_S5_ok R _ _ (Eq.mp (by kernel_rfl) h)))
noncomputable def C30 : Code := W.Code.fst C8
/-- ref.go:203 -/
abbrev S3 (a0 b1 : W.Sl) (w : World) (R : W.Post) : Prop :=
  L4 a0 b1 0 w R
def KE_S3 (E : W.Env) (w : World) (R : W.Post) : Prop := W.asSlice (W.Env.get? E 0) fun a0 => W.asSlice (W.Env.get? E 1) fun b1 => S3 a0 b1 w R
theorem KE_S3_ok (R : W.Post) (E : W.Env) (w : World) (h : KE_S3 E w R) : W.WP Try.prog (W.cx 26) C8 (Q1 R) E w := by
  obtain ⟨a0, hq0, h1⟩ := W.asSlice_elim h
  obtain ⟨b1, hq1, h2⟩ := W.asSlice_elim h1
  exact fun a ha => W.WP.at (n := (W.cx 26)) (E := [(0, a0.v), (1, b1.v)]) (W.WP.seq (c := C8) (x := C30) (y := C9) (by kernel_rfl) <| W.WP.reg (c := C30) (fun E w => KE_L4 E w R) (by kernel_rfl) (Eq.mp (by kernel_rfl) h2) fun _ _ a hA hK => (W.WP.block (c := C9) (x := C10) (id := 0) (by kernel_rfl) (W.WP.loop (c := C10) (x := C11) (by kernel_rfl) (KE_L4_ok R _ _ hK))) a hA) (ha.cons hq0 (ha.cons hq1 ha.nil))
noncomputable def C31 : Code := W.Code.fst C2
noncomputable def C32 : Code := W.Code.snd C3
/-- ref.go:200 -/
abbrev S1 (a0 b1 : W.Sl) (w : World) (R : W.Post) : Prop :=
  W.sel (((a0.n : Nat) : Int) != ((b1.n : Nat) : Int)) (S2  w R) (S3 a0 b1 w R)
def KE_S1 (E : W.Env) (w : World) (R : W.Post) : Prop := W.asSlice (W.Env.get? E 0) fun a0 => W.asSlice (W.Env.get? E 1) fun b1 => S1 a0 b1 w R
theorem KE_S1_ok (R : W.Post) (E : W.Env) (w : World) (h : KE_S1 E w R) : W.WP Try.prog (W.cx 26) C2 (Q0 R) E w := by
  obtain ⟨a0, hq0, h1⟩ := W.asSlice_elim h
  obtain ⟨b1, hq1, h2⟩ := W.asSlice_elim h1
  exact fun a ha => W.WP.at (n := (W.cx 26)) (E := [(0, a0.v), (1, b1.v)]) (W.WP.seq (c := C2) (x := C31) (y := C3) (by kernel_rfl) <| W.WP.reg (c := C31) (fun E w => W.condK (W.Env.val E (.tmp 10)) (KE_S2 E w R) (KE_S3 E w R)) (by kernel_rfl) (Eq.mp (by kernel_rfl) h2) fun _ _ a hA hK => (W.WP.condK (c := C3) (x := C4) (y := C32) (o := .tmp 10) (by kernel_rfl) (fun hK => (KE_S2_ok R _ _ hK)) (fun hK => (W.WP.skip (c := C32) (by kernel_rfl) fun a hA => (W.WP.seq (c := C5) (x := C8) (y := C12) (by kernel_rfl) (KE_S3_ok R _ _ hK)) a hA)) hK) a hA) (ha.cons hq0 (ha.cons hq1 ha.nil))
noncomputable def C33 : Code := W.Code.fst C0
/-- ref.go:199 -/
abbrev S0 (a0 b1 : W.Sl) (w : World) (R : W.Post) : Prop :=
  S1 a0 b1 w R
def KE_S0 (E : W.Env) (w : World) (R : W.Post) : Prop := W.asSlice (W.Env.get? E 0) fun a0 => W.asSlice (W.Env.get? E 1) fun b1 => S0 a0 b1 w R
theorem KE_S0_ok (R : W.Post) (E : W.Env) (w : World) (h : KE_S0 E w R) : W.WP Try.prog (W.cx 26) C0 (Q6 R) E w := by
  obtain ⟨a0, hq0, h1⟩ := W.asSlice_elim h
  obtain ⟨b1, hq1, h2⟩ := W.asSlice_elim h1
  exact fun a ha => W.WP.at (n := (W.cx 26)) (E := [(0, a0.v), (1, b1.v)]) (W.WP.seq (c := C0) (x := C33) (y := C1) (by kernel_rfl) <| W.WP.reg (c := C33) (fun E w => KE_S1 E w R) (by kernel_rfl) (Eq.mp (by kernel_rfl) h2) fun _ _ a hA hK => (W.WP.seq (c := C1) (x := C2) (y := C5) (by kernel_rfl) (KE_S1_ok R _ _ hK)) a hA) (ha.cons hq0 (ha.cons hq1 ha.nil))
/-- enthymeme/enthymemeref09.Same -/
theorem ok (a0 b1 : W.Sl) (w : World) (R : W.Post) (h : S0 a0 b1 w R) : Calls Try.prog n_enthymemeref09_Same #[a0.v, b1.v] w R :=
  W.calls_of_WP' (fn := Try.f15) (c := C0) (args := [a0.v, b1.v]) (by kernel_rfl) (by kernel_rfl) (by kernel_rfl) (KE_S0_ok R _ _ (Eq.mp (by kernel_rfl) h))
end enthymemeref09_Same
namespace enthymemeref09_piece
noncomputable def C0 : Code := (Try.f29.body).getD .skip
noncomputable def C1 : Code := W.Code.snd C0
noncomputable def C2 : Code := W.Code.snd C1
noncomputable def C3 : Code := W.Code.snd C2
noncomputable def C4 : Code := W.Code.fst C3
noncomputable def C5 : Code := W.Code.snd C4
noncomputable def C6 : Code := W.Code.fst C5
noncomputable def C7 : Code := W.Code.snd C3
abbrev Q0 (R : W.Post) : Exit → Act → World → Prop := (Exit.then (W.wpx Try.prog (W.cx 57) C7 (bodyPost Try.prog Try.f29 R)) (bodyPost Try.prog Try.f29 R))
noncomputable def C8 : Code := W.Code.fst C6
noncomputable def C9 : Code := W.Code.snd C6
/-- ref.go:216 -/
abbrev S4 (k3 : Int) (words4 : W.Sl) (w : World) (R : W.Post) : Prop :=
  ((words4.n : Nat) : Int) ≠ 0 ∧ (0 : Int) ≤ (Int.tmod (IntKind.wrap .i64 (Int.tdiv k3 5)) ((words4.n : Nat) : Int)) ∧ (Int.tmod (IntKind.wrap .i64 (Int.tdiv k3 5)) ((words4.n : Nat) : Int)) < ((words4.n : Nat) : Int) ∧ W.optP words4.a fun t19_p => ∃ t20 : ByteArray, w.cell? (t19_p.add (Int.toNat (Int.tmod (IntKind.wrap .i64 (Int.tdiv k3 5)) ((words4.n : Nat) : Int)) * 1)) = some (.string t20) ∧ 
  ¬ (((t20.size + (ByteArray.mk #[32]).size : Nat) : Int) > IntKind.i64.max) ∧ R (.returned (.string (t20 ++ (ByteArray.mk #[32])))) w
def KE_S4 (E : W.Env) (w : World) (R : W.Post) : Prop := W.asInt .i64 (W.Env.get? E 3) fun k3 => W.asSlice (W.Env.get? E 4) fun words4 => S4 k3 words4 w R
theorem KE_S4_ok (R : W.Post) (E : W.Env) (w : World) (h : KE_S4 E w R) : W.WP Try.prog (W.cx 57) C6 (Q0 R) E w := by
  obtain ⟨k3, hq3, h1⟩ := W.asInt_elim h
  obtain ⟨words4, hq4, h2⟩ := W.asSlice_elim h1
  exact fun a ha => W.WP.at (n := (W.cx 57)) (E := [(3, .int .i64 k3), (4, words4.v)]) (W.WP.seq (c := C6) (x := C8) (y := C9) (by kernel_rfl) <| W.WP.reg (c := C8) (fun E w => W.retVC Try.prog Try.f29 E w (fun v => R (.returned v) w)) (by kernel_rfl) (Eq.mp (by kernel_rfl) h2) fun _ _ a hA hK => (W.WP.ret (c := C9) (by kernel_rfl) fun a hA => W.retVC_sound hA hK) a hA) (ha.cons hq3 (ha.cons hq4 ha.nil))
noncomputable def C10 : Code := W.Code.snd C7
noncomputable def C11 : Code := W.Code.fst C10
noncomputable def C12 : Code := W.Code.snd C11
noncomputable def C13 : Code := W.Code.fst C12
noncomputable def C14 : Code := W.Code.snd C10
abbrev Q1 (R : W.Post) : Exit → Act → World → Prop := (Exit.then (W.wpx Try.prog (W.cx 57) C14 (bodyPost Try.prog Try.f29 R)) (bodyPost Try.prog Try.f29 R))
noncomputable def C15 : Code := W.Code.fst C13
noncomputable def C16 : Code := W.Code.snd C13
/-- ref.go:220 -/
abbrev S7 (k3 : Int) (others5 : W.Sl) (w : World) (R : W.Post) : Prop :=
  ((others5.n : Nat) : Int) ≠ 0 ∧ (0 : Int) ≤ (Int.tmod (IntKind.wrap .i64 (Int.tdiv k3 5)) ((others5.n : Nat) : Int)) ∧ (Int.tmod (IntKind.wrap .i64 (Int.tdiv k3 5)) ((others5.n : Nat) : Int)) < ((others5.n : Nat) : Int) ∧ W.optP others5.a fun t42_p => ∃ t43 : ByteArray, w.cell? (t42_p.add (Int.toNat (Int.tmod (IntKind.wrap .i64 (Int.tdiv k3 5)) ((others5.n : Nat) : Int)) * 1)) = some (.string t43) ∧ 
  R (.returned (.string t43)) w
def KE_S7 (E : W.Env) (w : World) (R : W.Post) : Prop := W.asInt .i64 (W.Env.get? E 3) fun k3 => W.asSlice (W.Env.get? E 5) fun others5 => S7 k3 others5 w R
theorem KE_S7_ok (R : W.Post) (E : W.Env) (w : World) (h : KE_S7 E w R) : W.WP Try.prog (W.cx 57) C13 (Q1 R) E w := by
  obtain ⟨k3, hq3, h1⟩ := W.asInt_elim h
  obtain ⟨others5, hq5, h2⟩ := W.asSlice_elim h1
  exact fun a ha => W.WP.at (n := (W.cx 57)) (E := [(3, .int .i64 k3), (5, others5.v)]) (W.WP.seq (c := C13) (x := C15) (y := C16) (by kernel_rfl) <| W.WP.reg (c := C15) (fun E w => W.retVC Try.prog Try.f29 E w (fun v => R (.returned v) w)) (by kernel_rfl) (Eq.mp (by kernel_rfl) h2) fun _ _ a hA hK => (W.WP.ret (c := C16) (by kernel_rfl) fun a hA => W.retVC_sound hA hK) a hA) (ha.cons hq3 (ha.cons hq5 ha.nil))
noncomputable def C17 : Code := W.Code.snd C14
noncomputable def C18 : Code := W.Code.fst C17
noncomputable def C19 : Code := W.Code.snd C18
noncomputable def C20 : Code := W.Code.fst C19
noncomputable def C21 : Code := W.Code.snd C17
abbrev Q2 (R : W.Post) : Exit → Act → World → Prop := (Exit.then (W.wpx Try.prog (W.cx 57) C21 (bodyPost Try.prog Try.f29 R)) (bodyPost Try.prog Try.f29 R))
noncomputable def C22 : Code := W.Code.fst C20
noncomputable def C23 : Code := W.Code.snd C20
/-- ref.go:224 -/
abbrev S10 (k3 : Int) (wrong6 : W.Sl) (w : World) (R : W.Post) : Prop :=
  ((wrong6.n : Nat) : Int) ≠ 0 ∧ (0 : Int) ≤ (Int.tmod (IntKind.wrap .i64 (Int.tdiv k3 5)) ((wrong6.n : Nat) : Int)) ∧ (Int.tmod (IntKind.wrap .i64 (Int.tdiv k3 5)) ((wrong6.n : Nat) : Int)) < ((wrong6.n : Nat) : Int) ∧ W.optP wrong6.a fun t55_p => ∃ t56 : ByteArray, w.cell? (t55_p.add (Int.toNat (Int.tmod (IntKind.wrap .i64 (Int.tdiv k3 5)) ((wrong6.n : Nat) : Int)) * 1)) = some (.string t56) ∧ 
  R (.returned (.string t56)) w
def KE_S10 (E : W.Env) (w : World) (R : W.Post) : Prop := W.asInt .i64 (W.Env.get? E 3) fun k3 => W.asSlice (W.Env.get? E 6) fun wrong6 => S10 k3 wrong6 w R
theorem KE_S10_ok (R : W.Post) (E : W.Env) (w : World) (h : KE_S10 E w R) : W.WP Try.prog (W.cx 57) C20 (Q2 R) E w := by
  obtain ⟨k3, hq3, h1⟩ := W.asInt_elim h
  obtain ⟨wrong6, hq6, h2⟩ := W.asSlice_elim h1
  exact fun a ha => W.WP.at (n := (W.cx 57)) (E := [(3, .int .i64 k3), (6, wrong6.v)]) (W.WP.seq (c := C20) (x := C22) (y := C23) (by kernel_rfl) <| W.WP.reg (c := C22) (fun E w => W.retVC Try.prog Try.f29 E w (fun v => R (.returned v) w)) (by kernel_rfl) (Eq.mp (by kernel_rfl) h2) fun _ _ a hA hK => (W.WP.ret (c := C23) (by kernel_rfl) fun a hA => W.retVC_sound hA hK) a hA) (ha.cons hq3 (ha.cons hq6 ha.nil))
abbrev Q3 (R : W.Post) : Exit → Act → World → Prop := (bodyPost Try.prog Try.f29 R)
noncomputable def C24 : Code := W.Code.fst C21
noncomputable def C25 : Code := W.Code.snd C21
/-- ref.go:226 -/
abbrev S11  (w : World) (R : W.Post) : Prop :=
  R (.returned (.string (ByteArray.mk #[]))) w
def KE_S11 (E : W.Env) (w : World) (R : W.Post) : Prop := S11  w R
theorem KE_S11_ok (R : W.Post) (E : W.Env) (w : World) (h : KE_S11 E w R) : W.WP Try.prog (W.cx 57) C21 (Q3 R) E w := by
  exact fun a ha => W.WP.at (n := (W.cx 57)) (E := []) (W.WP.seq (c := C21) (x := C24) (y := C25) (by kernel_rfl) <| W.WP.reg (c := C24) (fun E w => W.retVC Try.prog Try.f29 E w (fun v => R (.returned v) w)) (by kernel_rfl) (Eq.mp (by kernel_rfl) h) fun _ _ a hA hK => (W.WP.ret (c := C25) (by kernel_rfl) fun a hA => W.retVC_sound hA hK) a hA) ha.nil
noncomputable def C26 : Code := W.Code.fst C18
noncomputable def C27 : Code := W.Code.snd C19
/-- ref.go:223 -/
abbrev S9 (k3 : Int) (wrong6 : W.Sl) (w : World) (R : W.Post) : Prop :=
  W.sel ((Int.tmod (IntKind.wrap .i64 (Int.tdiv k3 100)) 4) == 0) (S10 k3 wrong6 w R) (S11  w R)
def KE_S9 (E : W.Env) (w : World) (R : W.Post) : Prop := W.asInt .i64 (W.Env.get? E 3) fun k3 => W.asSlice (W.Env.get? E 6) fun wrong6 => S9 k3 wrong6 w R
theorem KE_S9_ok (R : W.Post) (E : W.Env) (w : World) (h : KE_S9 E w R) : W.WP Try.prog (W.cx 57) C18 (Q2 R) E w := by
  obtain ⟨k3, hq3, h1⟩ := W.asInt_elim h
  obtain ⟨wrong6, hq6, h2⟩ := W.asSlice_elim h1
  exact fun a ha => W.WP.at (n := (W.cx 57)) (E := [(3, .int .i64 k3), (6, wrong6.v)]) (W.WP.seq (c := C18) (x := C26) (y := C19) (by kernel_rfl) <| W.WP.reg (c := C26) (fun E w => W.condK (W.Env.val E (.tmp 48)) (KE_S10 E w R) (KE_S11 E w R)) (by kernel_rfl) (Eq.mp (by kernel_rfl) h2) fun _ _ a hA hK => (W.WP.condK (c := C19) (x := C20) (y := C27) (o := .tmp 48) (by kernel_rfl) (fun hK => (KE_S10_ok R _ _ hK)) (fun hK => (W.WP.skip (c := C27) (by kernel_rfl) fun a hA => (KE_S11_ok R _ _ hK) a hA)) hK) a hA) (ha.cons hq3 (ha.cons hq6 ha.nil))
noncomputable def C28 : Code := W.Code.fst C14
/-- ref.go:222 -/
abbrev S8 (k3 : Int) (w : World) (R : W.Post) : Prop :=
  W.nwV w (.cells #[.string (ByteArray.mk #[48, 49]), .string (ByteArray.mk #[35, 98]), .string (ByteArray.mk #[35, 98, 50]), .string (ByteArray.mk #[35, 120, 49, 103]), .string (ByteArray.mk #[53, 97]), .string (ByteArray.mk #[65]), .string (ByteArray.mk #[97, 98, 99, 100, 101, 102, 103, 104, 105, 106, 107, 108, 109, 110, 111, 112, 113]), .string (ByteArray.mk #[49, 50, 51, 52, 53, 54, 55, 56, 57, 48, 49, 50, 51, 52]), .string (ByteArray.mk #[34]), .string (ByteArray.mk #[34, 92]), .string (ByteArray.mk #[34, 92, 120, 49]), .string (ByteArray.mk #[34, 92, 113, 34]), .string (ByteArray.mk #[45]), .string (ByteArray.mk #[35]), .string (ByteArray.mk #[97, 35, 98]), .string (ByteArray.mk #[59]), .string (ByteArray.mk #[34, 97, 34, 98]), .string (ByteArray.mk #[97, 34, 98, 34]), .string (ByteArray.mk #[120, 40]), .string (ByteArray.mk #[95])] ty_string) fun w1 => 
  S9 k3 ⟨some (Addr.mk w.heap.size 0 none), 20, 20⟩ w1 R
def KE_S8 (E : W.Env) (w : World) (R : W.Post) : Prop := W.asInt .i64 (W.Env.get? E 3) fun k3 => S8 k3 w R
theorem KE_S8_ok (R : W.Post) (E : W.Env) (w : World) (h : KE_S8 E w R) : W.WP Try.prog (W.cx 57) C14 (Q3 R) E w := by
  obtain ⟨k3, hq3, h1⟩ := W.asInt_elim h
  exact fun a ha => W.WP.at (n := (W.cx 57)) (E := [(3, .int .i64 k3)]) (W.WP.seq (c := C14) (x := C28) (y := C17) (by kernel_rfl) <| W.WP.reg (c := C28) (fun E w => KE_S9 E w R) (by kernel_rfl) (Eq.mp (by kernel_rfl) h1) fun _ _ a hA hK => (W.WP.seq (c := C17) (x := C18) (y := C21) (by kernel_rfl) (KE_S9_ok R _ _ hK)) a hA) (ha.cons hq3 ha.nil)
noncomputable def C29 : Code := W.Code.fst C11
noncomputable def C30 : Code := W.Code.snd C12
/-- ref.go:219 -/
abbrev S6 (k3 : Int) (others5 : W.Sl) (w : World) (R : W.Post) : Prop :=
  W.sel ((Int.tmod k3 5) == 3) (S7 k3 others5 w R) (S8 k3 w R)
def KE_S6 (E : W.Env) (w : World) (R : W.Post) : Prop := W.asInt .i64 (W.Env.get? E 3) fun k3 => W.asSlice (W.Env.get? E 5) fun others5 => S6 k3 others5 w R
theorem KE_S6_ok (R : W.Post) (E : W.Env) (w : World) (h : KE_S6 E w R) : W.WP Try.prog (W.cx 57) C11 (Q1 R) E w := by
  obtain ⟨k3, hq3, h1⟩ := W.asInt_elim h
  obtain ⟨others5, hq5, h2⟩ := W.asSlice_elim h1
  exact fun a ha => W.WP.at (n := (W.cx 57)) (E := [(3, .int .i64 k3), (5, others5.v)]) (W.WP.seq (c := C11) (x := C29) (y := C12) (by kernel_rfl) <| W.WP.reg (c := C29) (fun E w => W.condK (W.Env.val E (.tmp 35)) (KE_S7 E w R) (KE_S8 E w R)) (by kernel_rfl) (Eq.mp (by kernel_rfl) h2) fun _ _ a hA hK => (W.WP.condK (c := C12) (x := C13) (y := C30) (o := .tmp 35) (by kernel_rfl) (fun hK => (KE_S7_ok R _ _ hK)) (fun hK => (W.WP.skip (c := C30) (by kernel_rfl) fun a hA => (KE_S8_ok R _ _ hK) a hA)) hK) a hA) (ha.cons hq3 (ha.cons hq5 ha.nil))
noncomputable def C31 : Code := W.Code.fst C7
/-- ref.go:218 -/
abbrev S5 (k3 : Int) (w : World) (R : W.Post) : Prop :=
  W.nwV w (.cells #[.int .u8 (IntKind.wrap .u8 (IntKind.wrap .i64 (Int.tdiv k3 50))), .int .u8 97, .int .u8 (IntKind.wrap .u8 (IntKind.wrap .i64 (Int.tdiv k3 7)))] ty_uint8) fun w1 => 
  ∃ t29 : ByteArray, Sem.run Try.prog (Go.convert ty_sl_uint8 ty_string (.slice (some (Addr.mk w.heap.size 0 none)) 3 3)) w1 = .ok (.string t29) w1 ∧ Calls Try.prog n_enthymemeref09_Quote #[.string t29] w1 fun r_ w2 => ∃ t30 : ByteArray, r_ = .returned (.string t30) ∧ 
  Calls Try.prog n_enthymemeref09_Quote #[.string (ByteArray.mk #[97, 98])] w2 fun r_ w3 => ∃ t31 : ByteArray, r_ = .returned (.string t31) ∧ 
  W.nwV w3 (.cells #[.string (ByteArray.mk #[32]), .string (ByteArray.mk #[10]), .string (ByteArray.mk #[59, 32, 99, 32, 40, 10]), .string t30, .string t31, .string (ByteArray.mk #[40]), .string (ByteArray.mk #[41]), .string (ByteArray.mk #[9]), .string (ByteArray.mk #[13])] ty_string) fun w4 => 
  S6 k3 ⟨some (Addr.mk w3.heap.size 0 none), 9, 9⟩ w4 R
def KE_S5 (E : W.Env) (w : World) (R : W.Post) : Prop := W.asInt .i64 (W.Env.get? E 3) fun k3 => S5 k3 w R
theorem KE_S5_ok (R : W.Post) (E : W.Env) (w : World) (h : KE_S5 E w R) : W.WP Try.prog (W.cx 57) C7 (Q3 R) E w := by
  obtain ⟨k3, hq3, h1⟩ := W.asInt_elim h
  exact fun a ha => W.WP.at (n := (W.cx 57)) (E := [(3, .int .i64 k3)]) (W.WP.seq (c := C7) (x := C31) (y := C10) (by kernel_rfl) <| W.WP.reg (c := C31) (fun E w => KE_S6 E w R) (by kernel_rfl) (Eq.mp (by kernel_rfl) h1) fun _ _ a hA hK => (W.WP.seq (c := C10) (x := C11) (y := C14) (by kernel_rfl) (KE_S6_ok R _ _ hK)) a hA) (ha.cons hq3 ha.nil)
noncomputable def C32 : Code := W.Code.fst C4
noncomputable def C33 : Code := W.Code.snd C5
/-- ref.go:215 -/
abbrev S3 (k3 : Int) (words4 : W.Sl) (w : World) (R : W.Post) : Prop :=
  W.sel (decide ((Int.tmod k3 5) < 3)) (S4 k3 words4 w R) (S5 k3 w R)
def KE_S3 (E : W.Env) (w : World) (R : W.Post) : Prop := W.asInt .i64 (W.Env.get? E 3) fun k3 => W.asSlice (W.Env.get? E 4) fun words4 => S3 k3 words4 w R
theorem KE_S3_ok (R : W.Post) (E : W.Env) (w : World) (h : KE_S3 E w R) : W.WP Try.prog (W.cx 57) C4 (Q0 R) E w := by
  obtain ⟨k3, hq3, h1⟩ := W.asInt_elim h
  obtain ⟨words4, hq4, h2⟩ := W.asSlice_elim h1
  exact fun a ha => W.WP.at (n := (W.cx 57)) (E := [(3, .int .i64 k3), (4, words4.v)]) (W.WP.seq (c := C4) (x := C32) (y := C5) (by kernel_rfl) <| W.WP.reg (c := C32) (fun E w => W.condK (W.Env.val E (.tmp 12)) (KE_S4 E w R) (KE_S5 E w R)) (by kernel_rfl) (Eq.mp (by kernel_rfl) h2) fun _ _ a hA hK => (W.WP.condK (c := C5) (x := C6) (y := C33) (o := .tmp 12) (by kernel_rfl) (fun hK => (KE_S4_ok R _ _ hK)) (fun hK => (W.WP.skip (c := C33) (by kernel_rfl) fun a hA => (KE_S5_ok R _ _ hK) a hA)) hK) a hA) (ha.cons hq3 (ha.cons hq4 ha.nil))
noncomputable def C34 : Code := W.Code.fst C2
/-- ref.go:214 -/
abbrev S2 (k3 : Int) (w : World) (R : W.Post) : Prop :=
  W.nwV w (.cells #[.string (ByteArray.mk #[40]), .string (ByteArray.mk #[41]), .string (ByteArray.mk #[110, 111, 116]), .string (ByteArray.mk #[120, 45, 49]), .string (ByteArray.mk #[98, 118, 97, 100, 100]), .string (ByteArray.mk #[97]), .string (ByteArray.mk #[97, 98, 99, 100, 101, 102, 103, 104, 105, 106, 107, 108, 109, 110, 111, 112]), .string (ByteArray.mk #[48]), .string (ByteArray.mk #[53]), .string (ByteArray.mk #[52, 48, 57, 54]), .string (ByteArray.mk #[49, 48, 57, 57, 53, 49, 49, 54, 50, 55, 55, 55, 54]), .string (ByteArray.mk #[35, 98, 48, 49]), .string (ByteArray.mk #[35, 120, 102, 102]), .string (ByteArray.mk #[35, 98, 49])] ty_string) fun w1 => 
  S3 k3 ⟨some (Addr.mk w.heap.size 0 none), 14, 14⟩ w1 R
def KE_S2 (E : W.Env) (w : World) (R : W.Post) : Prop := W.asInt .i64 (W.Env.get? E 3) fun k3 => S2 k3 w R
theorem KE_S2_ok (R : W.Post) (E : W.Env) (w : World) (h : KE_S2 E w R) : W.WP Try.prog (W.cx 57) C2 (Q3 R) E w := by
  obtain ⟨k3, hq3, h1⟩ := W.asInt_elim h
  exact fun a ha => W.WP.at (n := (W.cx 57)) (E := [(3, .int .i64 k3)]) (W.WP.seq (c := C2) (x := C34) (y := C3) (by kernel_rfl) <| W.WP.reg (c := C34) (fun E w => KE_S3 E w R) (by kernel_rfl) (Eq.mp (by kernel_rfl) h1) fun _ _ a hA hK => (W.WP.seq (c := C3) (x := C4) (y := C7) (by kernel_rfl) (KE_S3_ok R _ _ hK)) a hA) (ha.cons hq3 ha.nil)
noncomputable def C35 : Code := W.Code.fst C1
/-- ref.go:213 -/
abbrev S1 (n0 : Int) (w : World) (R : W.Post) : Prop :=
  Calls Try.prog n_enthymemeref01_Around #[.int .i64 n0, .int .i64 1048576] w fun r_ w1 => ∃ t8 : Int, r_ = .returned (.int .i64 t8) ∧ 
  S2 t8 w1 R
def KE_S1 (E : W.Env) (w : World) (R : W.Post) : Prop := W.asInt .i64 (W.Env.get? E 0) fun n0 => S1 n0 w R
theorem KE_S1_ok (R : W.Post) (E : W.Env) (w : World) (h : KE_S1 E w R) : W.WP Try.prog (W.cx 57) C1 (Q3 R) E w := by
  obtain ⟨n0, hq0, h1⟩ := W.asInt_elim h
  exact fun a ha => W.WP.at (n := (W.cx 57)) (E := [(0, .int .i64 n0)]) (W.WP.seq (c := C1) (x := C35) (y := C2) (by kernel_rfl) <| W.WP.reg (c := C35) (fun E w => KE_S2 E w R) (by kernel_rfl) (Eq.mp (by kernel_rfl) h1) fun _ _ a hA hK => (KE_S2_ok R _ _ hK) a hA) (ha.cons hq0 ha.nil)
noncomputable def C36 : Code := W.Code.fst C0
/-- ref.go:212 -/
abbrev S0 (n0 : Int) (w : World) (R : W.Post) : Prop :=
  S1 n0 w R
def KE_S0 (E : W.Env) (w : World) (R : W.Post) : Prop := W.asInt .i64 (W.Env.get? E 0) fun n0 => S0 n0 w R
theorem KE_S0_ok (R : W.Post) (E : W.Env) (w : World) (h : KE_S0 E w R) : W.WP Try.prog (W.cx 57) C0 (Q3 R) E w := by
  obtain ⟨n0, hq0, h1⟩ := W.asInt_elim h
  exact fun a ha => W.WP.at (n := (W.cx 57)) (E := [(0, .int .i64 n0)]) (W.WP.seq (c := C0) (x := C36) (y := C1) (by kernel_rfl) <| W.WP.reg (c := C36) (fun E w => KE_S1 E w R) (by kernel_rfl) (Eq.mp (by kernel_rfl) h1) fun _ _ a hA hK => (KE_S1_ok R _ _ hK) a hA) (ha.cons hq0 ha.nil)
/-- enthymeme/enthymemeref09.piece -/
theorem ok (n0 : Int) (w : World) (R : W.Post) (h : S0 n0 w R) : Calls Try.prog n_enthymemeref09_piece #[.int .i64 n0] w R :=
  W.calls_of_WP' (fn := Try.f29) (c := C0) (args := [.int .i64 n0]) (by kernel_rfl) (by kernel_rfl) (by kernel_rfl) (KE_S0_ok R _ _ (Eq.mp (by kernel_rfl) h))
end enthymemeref09_piece
namespace enthymemeref09_Some
noncomputable def C0 : Code := (Try.f9.body).getD .skip
noncomputable def C1 : Code := W.Code.snd C0
noncomputable def C2 : Code := W.Code.snd C1
noncomputable def C3 : Code := W.Code.fst C2
noncomputable def C4 : Code := W.Code.snd C3
noncomputable def C5 : Code := W.Code.fst C4
noncomputable def C6 : Code := W.Code.fst C5
noncomputable def C7 : Code := W.Code.snd C2
abbrev Q0 (R : W.Post) : Exit → Act → World → Prop := (Exit.then (W.wpx Try.prog (W.cx 26) C7 (bodyPost Try.prog Try.f9 R)) (bodyPost Try.prog Try.f9 R))
abbrev Q1 (R : W.Post) : Exit → Act → World → Prop := (Exit.inBlock 0 (Q0 R))
/-- the head of the loop, ref.go:232 -/
def L3 (l0 : W.Sl) (most1 : Int) (out5 : ByteArray) (i6 : Int) (w : World) (R : W.Post) : Prop := W.LP Try.prog (W.cx 26) C6 (Q1 R) [(0, l0.v), (1, .int .i64 most1), (5, .string out5), (6, .int .i64 i6)] w
def KE_L3 (E : W.Env) (w : World) (R : W.Post) : Prop := W.asSlice (W.Env.get? E 0) fun l0 => W.asInt .i64 (W.Env.get? E 1) fun most1 => W.asStr (W.Env.get? E 5) fun out5 => W.asInt .i64 (W.Env.get? E 6) fun i6 => L3 l0 most1 out5 i6 w R
theorem KE_L3_ok (R : W.Post) (E : W.Env) (w : World) (h : KE_L3 E w R) : W.LP Try.prog (W.cx 26) C6 (Q1 R) E w := by
  obtain ⟨l0, hq0, h1⟩ := W.asSlice_elim h
  obtain ⟨most1, hq1, h2⟩ := W.asInt_elim h1
  obtain ⟨out5, hq5, h3⟩ := W.asStr_elim h2
  obtain ⟨i6, hq6, h4⟩ := W.asInt_elim h3
  intro a ha
  exact h4 a (ha.cons hq0 (ha.cons hq1 (ha.cons hq5 (ha.cons hq6 ha.nil))))
noncomputable def C8 : Code := W.Code.snd C6
noncomputable def C9 : Code := W.Code.snd C8
abbrev Q2 (R : W.Post) : Exit → Act → World → Prop := (Exit.then (W.LoopWP Try.prog (W.cx 26) C6 (Q1 R)) (Q1 R))
/-- ref.go:232 -/
abbrev S6 (l0 : W.Sl) (most1 : Int) (out5 : ByteArray) (i6 : Int) (w : World) (R : W.Post) : Prop :=
  L3 l0 most1 out5 (IntKind.wrap .i64 (i6 + 1)) w R
def KE_S6 (E : W.Env) (w : World) (R : W.Post) : Prop := W.asSlice (W.Env.get? E 0) fun l0 => W.asInt .i64 (W.Env.get? E 1) fun most1 => W.asStr (W.Env.get? E 5) fun out5 => W.asInt .i64 (W.Env.get? E 6) fun i6 => S6 l0 most1 out5 i6 w R
theorem KE_S6_ok (R : W.Post) (E : W.Env) (w : World) (h : KE_S6 E w R) : W.WP Try.prog (W.cx 26) C9 (Q2 R) E w := by
  obtain ⟨l0, hq0, h1⟩ := W.asSlice_elim h
  obtain ⟨most1, hq1, h2⟩ := W.asInt_elim h1
  obtain ⟨out5, hq5, h3⟩ := W.asStr_elim h2
  obtain ⟨i6, hq6, h4⟩ := W.asInt_elim h3
  exact fun a ha => W.WP.at (n := (W.cx 26)) (E := [(0, l0.v), (1, .int .i64 most1), (5, .string out5), (6, .int .i64 i6)]) (W.WP.reg (c := C9) (fun E w => KE_L3 E w R) (by kernel_rfl) (Eq.mp (by kernel_rfl) h4) fun _ _ a hA hK => KE_L3_ok R _ _ hK a hA) (ha.cons hq0 (ha.cons hq1 (ha.cons hq5 (ha.cons hq6 ha.nil))))
noncomputable def C10 : Code := W.Code.fst C8
noncomputable def C11 : Code := W.Code.fst C10
abbrev Q3 (R : W.Post) : Exit → Act → World → Prop := (Exit.then (W.wpx Try.prog (W.cx 26) C9 (Exit.then (W.LoopWP Try.prog (W.cx 26) C6 (Q1 R)) (Q1 R))) (Exit.then (W.LoopWP Try.prog (W.cx 26) C6 (Q1 R)) (Q1 R)))
abbrev Q4 (R : W.Post) : Exit → Act → World → Prop := (Exit.inBlock 1 (Q3 R))
/-- ref.go:233 -/
abbrev S5 (l0 : W.Sl) (most1 : Int) (out5 : ByteArray) (i6 : Int) (w : World) (R : W.Post) : Prop :=
  (0 : Int) ≤ i6 ∧ i6 < ((l0.n : Nat) : Int) ∧ W.optP l0.a fun t21_p => ∃ t22 : Int, w.cell? (t21_p.add (Int.toNat i6 * 1)) = some (.int .i64 t22) ∧ 
  Calls Try.prog n_enthymemeref09_piece #[.int .i64 t22] w fun r_ w1 => ∃ t23 : ByteArray, r_ = .returned (.string t23) ∧ 
  ¬ (((out5.size + t23.size : Nat) : Int) > IntKind.i64.max) ∧ S6 l0 most1 (out5 ++ t23) i6 w1 R
def KE_S5 (E : W.Env) (w : World) (R : W.Post) : Prop := W.asSlice (W.Env.get? E 0) fun l0 => W.asInt .i64 (W.Env.get? E 1) fun most1 => W.asStr (W.Env.get? E 5) fun out5 => W.asInt .i64 (W.Env.get? E 6) fun i6 => S5 l0 most1 out5 i6 w R
theorem KE_S5_ok (R : W.Post) (E : W.Env) (w : World) (h : KE_S5 E w R) : W.WP Try.prog (W.cx 26) C11 (Q4 R) E w := by
  obtain ⟨l0, hq0, h1⟩ := W.asSlice_elim h
  obtain ⟨most1, hq1, h2⟩ := W.asInt_elim h1
  obtain ⟨out5, hq5, h3⟩ := W.asStr_elim h2
  obtain ⟨i6, hq6, h4⟩ := W.asInt_elim h3
  exact fun a ha => W.WP.at (n := (W.cx 26)) (E := [(0, l0.v), (1, .int .i64 most1), (5, .string out5), (6, .int .i64 i6)]) (W.WP.reg (c := C11) (fun E w => KE_S6 E w R) (by kernel_rfl) (Eq.mp (by kernel_rfl) h4) fun _ _ a hA hK => (KE_S6_ok R _ _ hK) a hA) (ha.cons hq0 (ha.cons hq1 (ha.cons hq5 (ha.cons hq6 ha.nil))))
abbrev Q5 (R : W.Post) : Exit → Act → World → Prop := (bodyPost Try.prog Try.f9 R)
noncomputable def C12 : Code := W.Code.fst C7
noncomputable def C13 : Code := W.Code.snd C7
/-- ref.go:235 -/
abbrev S7 (out5 : ByteArray) (w : World) (R : W.Post) : Prop :=
  R (.returned (.string out5)) w
def KE_S7 (E : W.Env) (w : World) (R : W.Post) : Prop := W.asStr (W.Env.get? E 5) fun out5 => S7 out5 w R
theorem KE_S7_ok (R : W.Post) (E : W.Env) (w : World) (h : KE_S7 E w R) : W.WP Try.prog (W.cx 26) C7 (Q5 R) E w := by
  obtain ⟨out5, hq5, h1⟩ := W.asStr_elim h
  exact fun a ha => W.WP.at (n := (W.cx 26)) (E := [(5, .string out5)]) (W.WP.seq (c := C7) (x := C12) (y := C13) (by kernel_rfl) <| W.WP.reg (c := C12) (fun E w => W.retVC Try.prog Try.f9 E w (fun v => R (.returned v) w)) (by kernel_rfl) (Eq.mp (by kernel_rfl) h1) fun _ _ a hA hK => (W.WP.ret (c := C13) (by kernel_rfl) fun a hA => W.retVC_sound hA hK) a hA) (ha.cons hq5 ha.nil)
noncomputable def C14 : Code := W.Code.fst C6
abbrev Q6 (R : W.Post) : Exit → Act → World → Prop := (Exit.then (W.wpx Try.prog (W.cx 26) C8 (Exit.then (W.LoopWP Try.prog (W.cx 26) C6 (Q1 R)) (Q1 R))) (Exit.then (W.LoopWP Try.prog (W.cx 26) C6 (Q1 R)) (Q1 R)))
noncomputable def C15 : Code := W.Code.fst C14
noncomputable def C16 : Code := W.Code.snd C14
noncomputable def C17 : Code := W.Code.fst C16
noncomputable def C18 : Code := W.Code.snd C16
/-- ref.go:232 -/
abbrev S4 (l0 : W.Sl) (most1 : Int) (out5 : ByteArray) (i6 : Int) (w : World) (R : W.Post) : Prop :=
  W.sel (decide (i6 < ((l0.n : Nat) : Int))) (W.sel (decide (i6 < most1)) (S5 l0 most1 out5 i6 w R) (S7 out5 w R)) (S7 out5 w R)
def KE_S4 (E : W.Env) (w : World) (R : W.Post) : Prop := W.asSlice (W.Env.get? E 0) fun l0 => W.asInt .i64 (W.Env.get? E 1) fun most1 => W.asStr (W.Env.get? E 5) fun out5 => W.asInt .i64 (W.Env.get? E 6) fun i6 => S4 l0 most1 out5 i6 w R
theorem KE_S4_ok (R : W.Post) (E : W.Env) (w : World) (h : KE_S4 E w R) : W.WP Try.prog (W.cx 26) C14 (Q6 R) E w := by
  obtain ⟨l0, hq0, h1⟩ := W.asSlice_elim h
  obtain ⟨most1, hq1, h2⟩ := W.asInt_elim h1
  obtain ⟨out5, hq5, h3⟩ := W.asStr_elim h2
  obtain ⟨i6, hq6, h4⟩ := W.asInt_elim h3
  exact fun a ha => W.WP.at (n := (W.cx 26)) (E := [(0, l0.v), (1, .int .i64 most1), (5, .string out5), (6, .int .i64 i6)]) (W.WP.seq (c := C14) (x := C15) (y := C16) (by kernel_rfl) <| W.WP.reg (c := C15) (fun E w => W.condK (W.Env.val E (.tmp 15)) (KE_S5 E w R) (KE_S7 E w R)) (by kernel_rfl) (Eq.mp (by kernel_rfl) h4) fun _ _ a hA hK => (W.WP.condK (c := C16) (x := C17) (y := C18) (o := .tmp 15) (by kernel_rfl) (fun hK => (W.WP.skip (c := C17) (by kernel_rfl) fun a hA => (W.WP.seq (c := C8) (x := C10) (y := C9) (by kernel_rfl) (W.WP.block (c := C10) (x := C11) (id := 1) (by kernel_rfl) (KE_S5_ok R _ _ hK))) a hA)) (fun hK => (W.WP.exit (c := C18) (id := 0) (by kernel_rfl) fun a hA => (KE_S7_ok R _ _ hK) a hA)) hK) a hA) (ha.cons hq0 (ha.cons hq1 (ha.cons hq5 (ha.cons hq6 ha.nil))))
theorem L3_step (l0 : W.Sl) (most1 : Int) (out5 : ByteArray) (i6 : Int) (w : World) (R : W.Post) (h : S4 l0 most1 out5 i6 w R) : L3 l0 most1 out5 i6 w R :=
  W.LP.step (n := (W.cx 26)) (c := C6) (E := [(0, l0.v), (1, .int .i64 most1), (5, .string out5), (6, .int .i64 i6)]) (w := w) (W.WP.seq (c := C6) (x := C14) (y := C8) (by kernel_rfl) (KE_S4_ok R _ _ (Eq.mp (by kernel_rfl) h)))
noncomputable def C19 : Code := W.Code.fst C3
/-- ref.go:232 -/
abbrev S2 (l0 : W.Sl) (most1 : Int) (out5 : ByteArray) (w : World) (R : W.Post) : Prop :=
  L3 l0 most1 out5 0 w R
def KE_S2 (E : W.Env) (w : World) (R : W.Post) : Prop := W.asSlice (W.Env.get? E 0) fun l0 => W.asInt .i64 (W.Env.get? E 1) fun most1 => W.asStr (W.Env.get? E 5) fun out5 => S2 l0 most1 out5 w R
theorem KE_S2_ok (R : W.Post) (E : W.Env) (w : World) (h : KE_S2 E w R) : W.WP Try.prog (W.cx 26) C3 (Q0 R) E w := by
  obtain ⟨l0, hq0, h1⟩ := W.asSlice_elim h
  obtain ⟨most1, hq1, h2⟩ := W.asInt_elim h1
  obtain ⟨out5, hq5, h3⟩ := W.asStr_elim h2
  exact fun a ha => W.WP.at (n := (W.cx 26)) (E := [(0, l0.v), (1, .int .i64 most1), (5, .string out5)]) (W.WP.seq (c := C3) (x := C19) (y := C4) (by kernel_rfl) <| W.WP.reg (c := C19) (fun E w => KE_L3 E w R) (by kernel_rfl) (Eq.mp (by kernel_rfl) h3) fun _ _ a hA hK => (W.WP.block (c := C4) (x := C5) (id := 0) (by kernel_rfl) (W.WP.loop (c := C5) (x := C6) (by kernel_rfl) (KE_L3_ok R _ _ hK))) a hA) (ha.cons hq0 (ha.cons hq1 (ha.cons hq5 ha.nil)))
noncomputable def C20 : Code := W.Code.fst C1
/-- ref.go:231 -/
abbrev S1 (l0 : W.Sl) (most1 : Int) (w : World) (R : W.Post) : Prop :=
  S2 l0 most1 (ByteArray.mk #[]) w R
def KE_S1 (E : W.Env) (w : World) (R : W.Post) : Prop := W.asSlice (W.Env.get? E 0) fun l0 => W.asInt .i64 (W.Env.get? E 1) fun most1 => S1 l0 most1 w R
theorem KE_S1_ok (R : W.Post) (E : W.Env) (w : World) (h : KE_S1 E w R) : W.WP Try.prog (W.cx 26) C1 (Q5 R) E w := by
  obtain ⟨l0, hq0, h1⟩ := W.asSlice_elim h
  obtain ⟨most1, hq1, h2⟩ := W.asInt_elim h1
  exact fun a ha => W.WP.at (n := (W.cx 26)) (E := [(0, l0.v), (1, .int .i64 most1)]) (W.WP.seq (c := C1) (x := C20) (y := C2) (by kernel_rfl) <| W.WP.reg (c := C20) (fun E w => KE_S2 E w R) (by kernel_rfl) (Eq.mp (by kernel_rfl) h2) fun _ _ a hA hK => (W.WP.seq (c := C2) (x := C3) (y := C7) (by kernel_rfl) (KE_S2_ok R _ _ hK)) a hA) (ha.cons hq0 (ha.cons hq1 ha.nil))
noncomputable def C21 : Code := W.Code.fst C0
/-- ref.go:230 -/
abbrev S0 (l0 : W.Sl) (most1 : Int) (w : World) (R : W.Post) : Prop :=
  S1 l0 most1 w R
def KE_S0 (E : W.Env) (w : World) (R : W.Post) : Prop := W.asSlice (W.Env.get? E 0) fun l0 => W.asInt .i64 (W.Env.get? E 1) fun most1 => S0 l0 most1 w R
theorem KE_S0_ok (R : W.Post) (E : W.Env) (w : World) (h : KE_S0 E w R) : W.WP Try.prog (W.cx 26) C0 (Q5 R) E w := by
  obtain ⟨l0, hq0, h1⟩ := W.asSlice_elim h
  obtain ⟨most1, hq1, h2⟩ := W.asInt_elim h1
  exact fun a ha => W.WP.at (n := (W.cx 26)) (E := [(0, l0.v), (1, .int .i64 most1)]) (W.WP.seq (c := C0) (x := C21) (y := C1) (by kernel_rfl) <| W.WP.reg (c := C21) (fun E w => KE_S1 E w R) (by kernel_rfl) (Eq.mp (by kernel_rfl) h2) fun _ _ a hA hK => (KE_S1_ok R _ _ hK) a hA) (ha.cons hq0 (ha.cons hq1 ha.nil))
/-- enthymeme/enthymemeref09.Some -/
theorem ok (l0 : W.Sl) (most1 : Int) (w : World) (R : W.Post) (h : S0 l0 most1 w R) : Calls Try.prog n_enthymemeref09_Some #[l0.v, .int .i64 most1] w R :=
  W.calls_of_WP' (fn := Try.f9) (c := C0) (args := [l0.v, .int .i64 most1]) (by kernel_rfl) (by kernel_rfl) (by kernel_rfl) (KE_S0_ok R _ _ (Eq.mp (by kernel_rfl) h))
end enthymemeref09_Some
namespace enthymemeref09_Good
noncomputable def C0 : Code := (Try.f12.body).getD .skip
noncomputable def C1 : Code := W.Code.snd C0
noncomputable def C2 : Code := W.Code.snd C1
noncomputable def C3 : Code := W.Code.fst C2
noncomputable def C4 : Code := W.Code.snd C3
noncomputable def C5 : Code := W.Code.fst C4
noncomputable def C6 : Code := W.Code.fst C5
noncomputable def C7 : Code := W.Code.snd C2
abbrev Q0 (R : W.Post) : Exit → Act → World → Prop := (Exit.then (W.wpx Try.prog (W.cx 41) C7 (bodyPost Try.prog Try.f12 R)) (bodyPost Try.prog Try.f12 R))
abbrev Q1 (R : W.Post) : Exit → Act → World → Prop := (Exit.inBlock 0 (Q0 R))
/-- the head of the loop, ref.go:241 -/
def L3 (l0 : W.Sl) (most1 : Int) (out5 : ByteArray) (i6 : Int) (w : World) (R : W.Post) : Prop := W.LP Try.prog (W.cx 41) C6 (Q1 R) [(0, l0.v), (1, .int .i64 most1), (5, .string out5), (6, .int .i64 i6)] w
def KE_L3 (E : W.Env) (w : World) (R : W.Post) : Prop := W.asSlice (W.Env.get? E 0) fun l0 => W.asInt .i64 (W.Env.get? E 1) fun most1 => W.asStr (W.Env.get? E 5) fun out5 => W.asInt .i64 (W.Env.get? E 6) fun i6 => L3 l0 most1 out5 i6 w R
theorem KE_L3_ok (R : W.Post) (E : W.Env) (w : World) (h : KE_L3 E w R) : W.LP Try.prog (W.cx 41) C6 (Q1 R) E w := by
  obtain ⟨l0, hq0, h1⟩ := W.asSlice_elim h
  obtain ⟨most1, hq1, h2⟩ := W.asInt_elim h1
  obtain ⟨out5, hq5, h3⟩ := W.asStr_elim h2
  obtain ⟨i6, hq6, h4⟩ := W.asInt_elim h3
  intro a ha
  exact h4 a (ha.cons hq0 (ha.cons hq1 (ha.cons hq5 (ha.cons hq6 ha.nil))))
noncomputable def C8 : Code := W.Code.snd C6
noncomputable def C9 : Code := W.Code.snd C8
abbrev Q2 (R : W.Post) : Exit → Act → World → Prop := (Exit.then (W.LoopWP Try.prog (W.cx 41) C6 (Q1 R)) (Q1 R))
/-- ref.go:241 -/
abbrev S9 (l0 : W.Sl) (most1 : Int) (out5 : ByteArray) (i6 : Int) (w : World) (R : W.Post) : Prop :=
  L3 l0 most1 out5 (IntKind.wrap .i64 (i6 + 1)) w R
def KE_S9 (E : W.Env) (w : World) (R : W.Post) : Prop := W.asSlice (W.Env.get? E 0) fun l0 => W.asInt .i64 (W.Env.get? E 1) fun most1 => W.asStr (W.Env.get? E 5) fun out5 => W.asInt .i64 (W.Env.get? E 6) fun i6 => S9 l0 most1 out5 i6 w R
theorem KE_S9_ok (R : W.Post) (E : W.Env) (w : World) (h : KE_S9 E w R) : W.WP Try.prog (W.cx 41) C9 (Q2 R) E w := by
  obtain ⟨l0, hq0, h1⟩ := W.asSlice_elim h
  obtain ⟨most1, hq1, h2⟩ := W.asInt_elim h1
  obtain ⟨out5, hq5, h3⟩ := W.asStr_elim h2
  obtain ⟨i6, hq6, h4⟩ := W.asInt_elim h3
  exact fun a ha => W.WP.at (n := (W.cx 41)) (E := [(0, l0.v), (1, .int .i64 most1), (5, .string out5), (6, .int .i64 i6)]) (W.WP.reg (c := C9) (fun E w => KE_L3 E w R) (by kernel_rfl) (Eq.mp (by kernel_rfl) h4) fun _ _ a hA hK => KE_L3_ok R _ _ hK a hA) (ha.cons hq0 (ha.cons hq1 (ha.cons hq5 (ha.cons hq6 ha.nil))))
noncomputable def C10 : Code := W.Code.fst C8
noncomputable def C11 : Code := W.Code.fst C10
noncomputable def C12 : Code := W.Code.snd C11
noncomputable def C13 : Code := W.Code.snd C12
noncomputable def C14 : Code := W.Code.snd C13
noncomputable def C15 : Code := W.Code.fst C14
abbrev Q3 (R : W.Post) : Exit → Act → World → Prop := (Exit.then (W.wpx Try.prog (W.cx 41) C9 (Exit.then (W.LoopWP Try.prog (W.cx 41) C6 (Q1 R)) (Q1 R))) (Exit.then (W.LoopWP Try.prog (W.cx 41) C6 (Q1 R)) (Q1 R)))
abbrev Q4 (R : W.Post) : Exit → Act → World → Prop := (Exit.inBlock 1 (Q3 R))
/-- ref.go:245 -/
abbrev S8 (l0 : W.Sl) (most1 : Int) (out5 : ByteArray) (i6 : Int) (p7 : ByteArray) (w : World) (R : W.Post) : Prop :=
  ¬ (((out5.size + p7.size : Nat) : Int) > IntKind.i64.max) ∧ S9 l0 most1 (out5 ++ p7) i6 w R
def KE_S8 (E : W.Env) (w : World) (R : W.Post) : Prop := W.asSlice (W.Env.get? E 0) fun l0 => W.asInt .i64 (W.Env.get? E 1) fun most1 => W.asStr (W.Env.get? E 5) fun out5 => W.asInt .i64 (W.Env.get? E 6) fun i6 => W.asStr (W.Env.get? E 7) fun p7 => S8 l0 most1 out5 i6 p7 w R
theorem KE_S8_ok (R : W.Post) (E : W.Env) (w : World) (h : KE_S8 E w R) : W.WP Try.prog (W.cx 41) C15 (Q4 R) E w := by
  obtain ⟨l0, hq0, h1⟩ := W.asSlice_elim h
  obtain ⟨most1, hq1, h2⟩ := W.asInt_elim h1
  obtain ⟨out5, hq5, h3⟩ := W.asStr_elim h2
  obtain ⟨i6, hq6, h4⟩ := W.asInt_elim h3
  obtain ⟨p7, hq7, h5⟩ := W.asStr_elim h4
  exact fun a ha => W.WP.at (n := (W.cx 41)) (E := [(0, l0.v), (1, .int .i64 most1), (5, .string out5), (6, .int .i64 i6), (7, .string p7)]) (W.WP.reg (c := C15) (fun E w => KE_S9 E w R) (by kernel_rfl) (Eq.mp (by kernel_rfl) h5) fun _ _ a hA hK => (KE_S9_ok R _ _ hK) a hA) (ha.cons hq0 (ha.cons hq1 (ha.cons hq5 (ha.cons hq6 (ha.cons hq7 ha.nil)))))
noncomputable def C16 : Code := W.Code.fst C13
noncomputable def C17 : Code := W.Code.snd C14
/-- ref.go:244 -/
abbrev S7 (l0 : W.Sl) (most1 : Int) (out5 : ByteArray) (i6 : Int) (p7 : ByteArray) (e10 : Int) (w : World) (R : W.Post) : Prop :=
  W.sel (e10 == 0) (S8 l0 most1 out5 i6 p7 w R) (S9 l0 most1 out5 i6 w R)
def KE_S7 (E : W.Env) (w : World) (R : W.Post) : Prop := W.asSlice (W.Env.get? E 0) fun l0 => W.asInt .i64 (W.Env.get? E 1) fun most1 => W.asStr (W.Env.get? E 5) fun out5 => W.asInt .i64 (W.Env.get? E 6) fun i6 => W.asStr (W.Env.get? E 7) fun p7 => W.asInt .i64 (W.Env.get? E 10) fun e10 => S7 l0 most1 out5 i6 p7 e10 w R
theorem KE_S7_ok (R : W.Post) (E : W.Env) (w : World) (h : KE_S7 E w R) : W.WP Try.prog (W.cx 41) C13 (Q4 R) E w := by
  obtain ⟨l0, hq0, h1⟩ := W.asSlice_elim h
  obtain ⟨most1, hq1, h2⟩ := W.asInt_elim h1
  obtain ⟨out5, hq5, h3⟩ := W.asStr_elim h2
  obtain ⟨i6, hq6, h4⟩ := W.asInt_elim h3
  obtain ⟨p7, hq7, h5⟩ := W.asStr_elim h4
  obtain ⟨e10, hq10, h6⟩ := W.asInt_elim h5
  exact fun a ha => W.WP.at (n := (W.cx 41)) (E := [(0, l0.v), (1, .int .i64 most1), (5, .string out5), (6, .int .i64 i6), (7, .string p7), (10, .int .i64 e10)]) (W.WP.seq (c := C13) (x := C16) (y := C14) (by kernel_rfl) <| W.WP.reg (c := C16) (fun E w => W.condK (W.Env.val E (.tmp 36)) (KE_S8 E w R) (KE_S9 E w R)) (by kernel_rfl) (Eq.mp (by kernel_rfl) h6) fun _ _ a hA hK => (W.WP.condK (c := C14) (x := C15) (y := C17) (o := .tmp 36) (by kernel_rfl) (fun hK => (KE_S8_ok R _ _ hK)) (fun hK => (W.WP.skip (c := C17) (by kernel_rfl) fun a hA => (KE_S9_ok R _ _ hK) a hA)) hK) a hA) (ha.cons hq0 (ha.cons hq1 (ha.cons hq5 (ha.cons hq6 (ha.cons hq7 (ha.cons hq10 ha.nil))))))
noncomputable def C18 : Code := W.Code.fst C12
/-- ref.go:243 -/
abbrev S6 (l0 : W.Sl) (most1 : Int) (out5 : ByteArray) (i6 : Int) (p7 : ByteArray) (w : World) (R : W.Post) : Prop :=
  ¬ (((out5.size + p7.size : Nat) : Int) > IntKind.i64.max) ∧ Calls Try.prog n_enthymemeref09_Tokens #[.string (out5 ++ p7)] w fun r_ w1 => ∃ t31_0 : W.Sl, ∃ t31_1 : Int, ∃ t31_2 : Int, r_ = .returned (.tuple #[t31_0.v, .int .i64 t31_1, .int .i64 t31_2]) ∧ 
  S7 l0 most1 out5 i6 p7 t31_2 w1 R
def KE_S6 (E : W.Env) (w : World) (R : W.Post) : Prop := W.asSlice (W.Env.get? E 0) fun l0 => W.asInt .i64 (W.Env.get? E 1) fun most1 => W.asStr (W.Env.get? E 5) fun out5 => W.asInt .i64 (W.Env.get? E 6) fun i6 => W.asStr (W.Env.get? E 7) fun p7 => S6 l0 most1 out5 i6 p7 w R
theorem KE_S6_ok (R : W.Post) (E : W.Env) (w : World) (h : KE_S6 E w R) : W.WP Try.prog (W.cx 41) C12 (Q4 R) E w := by
  obtain ⟨l0, hq0, h1⟩ := W.asSlice_elim h
  obtain ⟨most1, hq1, h2⟩ := W.asInt_elim h1
  obtain ⟨out5, hq5, h3⟩ := W.asStr_elim h2
  obtain ⟨i6, hq6, h4⟩ := W.asInt_elim h3
  obtain ⟨p7, hq7, h5⟩ := W.asStr_elim h4
  exact fun a ha => W.WP.at (n := (W.cx 41)) (E := [(0, l0.v), (1, .int .i64 most1), (5, .string out5), (6, .int .i64 i6), (7, .string p7)]) (W.WP.seq (c := C12) (x := C18) (y := C13) (by kernel_rfl) <| W.WP.reg (c := C18) (fun E w => KE_S7 E w R) (by kernel_rfl) (Eq.mp (by kernel_rfl) h5) fun _ _ a hA hK => (KE_S7_ok R _ _ hK) a hA) (ha.cons hq0 (ha.cons hq1 (ha.cons hq5 (ha.cons hq6 (ha.cons hq7 ha.nil)))))
noncomputable def C19 : Code := W.Code.fst C11
/-- ref.go:242 -/
abbrev S5 (l0 : W.Sl) (most1 : Int) (out5 : ByteArray) (i6 : Int) (w : World) (R : W.Post) : Prop :=
  (0 : Int) ≤ i6 ∧ i6 < ((l0.n : Nat) : Int) ∧ W.optP l0.a fun t24_p => ∃ t25 : Int, w.cell? (t24_p.add (Int.toNat i6 * 1)) = some (.int .i64 t25) ∧ 
  Calls Try.prog n_enthymemeref09_piece #[.int .i64 t25] w fun r_ w1 => ∃ t26 : ByteArray, r_ = .returned (.string t26) ∧ 
  S6 l0 most1 out5 i6 t26 w1 R
def KE_S5 (E : W.Env) (w : World) (R : W.Post) : Prop := W.asSlice (W.Env.get? E 0) fun l0 => W.asInt .i64 (W.Env.get? E 1) fun most1 => W.asStr (W.Env.get? E 5) fun out5 => W.asInt .i64 (W.Env.get? E 6) fun i6 => S5 l0 most1 out5 i6 w R
theorem KE_S5_ok (R : W.Post) (E : W.Env) (w : World) (h : KE_S5 E w R) : W.WP Try.prog (W.cx 41) C11 (Q4 R) E w := by
  obtain ⟨l0, hq0, h1⟩ := W.asSlice_elim h
  obtain ⟨most1, hq1, h2⟩ := W.asInt_elim h1
  obtain ⟨out5, hq5, h3⟩ := W.asStr_elim h2
  obtain ⟨i6, hq6, h4⟩ := W.asInt_elim h3
  exact fun a ha => W.WP.at (n := (W.cx 41)) (E := [(0, l0.v), (1, .int .i64 most1), (5, .string out5), (6, .int .i64 i6)]) (W.WP.seq (c := C11) (x := C19) (y := C12) (by kernel_rfl) <| W.WP.reg (c := C19) (fun E w => KE_S6 E w R) (by kernel_rfl) (Eq.mp (by kernel_rfl) h4) fun _ _ a hA hK => (KE_S6_ok R _ _ hK) a hA) (ha.cons hq0 (ha.cons hq1 (ha.cons hq5 (ha.cons hq6 ha.nil))))
abbrev Q5 (R : W.Post) : Exit → Act → World → Prop := (bodyPost Try.prog Try.f12 R)
noncomputable def C20 : Code := W.Code.fst C7
noncomputable def C21 : Code := W.Code.snd C7
/-- ref.go:248 -/
abbrev S10 (out5 : ByteArray) (w : World) (R : W.Post) : Prop :=
  R (.returned (.string out5)) w
def KE_S10 (E : W.Env) (w : World) (R : W.Post) : Prop := W.asStr (W.Env.get? E 5) fun out5 => S10 out5 w R
theorem KE_S10_ok (R : W.Post) (E : W.Env) (w : World) (h : KE_S10 E w R) : W.WP Try.prog (W.cx 41) C7 (Q5 R) E w := by
  obtain ⟨out5, hq5, h1⟩ := W.asStr_elim h
  exact fun a ha => W.WP.at (n := (W.cx 41)) (E := [(5, .string out5)]) (W.WP.seq (c := C7) (x := C20) (y := C21) (by kernel_rfl) <| W.WP.reg (c := C20) (fun E w => W.retVC Try.prog Try.f12 E w (fun v => R (.returned v) w)) (by kernel_rfl) (Eq.mp (by kernel_rfl) h1) fun _ _ a hA hK => (W.WP.ret (c := C21) (by kernel_rfl) fun a hA => W.retVC_sound hA hK) a hA) (ha.cons hq5 ha.nil)
noncomputable def C22 : Code := W.Code.fst C6
abbrev Q6 (R : W.Post) : Exit → Act → World → Prop := (Exit.then (W.wpx Try.prog (W.cx 41) C8 (Exit.then (W.LoopWP Try.prog (W.cx 41) C6 (Q1 R)) (Q1 R))) (Exit.then (W.LoopWP Try.prog (W.cx 41) C6 (Q1 R)) (Q1 R)))
noncomputable def C23 : Code := W.Code.fst C22
noncomputable def C24 : Code := W.Code.snd C22
noncomputable def C25 : Code := W.Code.fst C24
noncomputable def C26 : Code := W.Code.snd C24
/-- ref.go:241 -/
abbrev S4 (l0 : W.Sl) (most1 : Int) (out5 : ByteArray) (i6 : Int) (w : World) (R : W.Post) : Prop :=
  W.sel (decide (i6 < ((l0.n : Nat) : Int))) (W.sel (decide (i6 < most1)) (S5 l0 most1 out5 i6 w R) (S10 out5 w R)) (S10 out5 w R)
def KE_S4 (E : W.Env) (w : World) (R : W.Post) : Prop := W.asSlice (W.Env.get? E 0) fun l0 => W.asInt .i64 (W.Env.get? E 1) fun most1 => W.asStr (W.Env.get? E 5) fun out5 => W.asInt .i64 (W.Env.get? E 6) fun i6 => S4 l0 most1 out5 i6 w R
theorem KE_S4_ok (R : W.Post) (E : W.Env) (w : World) (h : KE_S4 E w R) : W.WP Try.prog (W.cx 41) C22 (Q6 R) E w := by
  obtain ⟨l0, hq0, h1⟩ := W.asSlice_elim h
  obtain ⟨most1, hq1, h2⟩ := W.asInt_elim h1
  obtain ⟨out5, hq5, h3⟩ := W.asStr_elim h2
  obtain ⟨i6, hq6, h4⟩ := W.asInt_elim h3
  exact fun a ha => W.WP.at (n := (W.cx 41)) (E := [(0, l0.v), (1, .int .i64 most1), (5, .string out5), (6, .int .i64 i6)]) (W.WP.seq (c := C22) (x := C23) (y := C24) (by kernel_rfl) <| W.WP.reg (c := C23) (fun E w => W.condK (W.Env.val E (.tmp 19)) (KE_S5 E w R) (KE_S10 E w R)) (by kernel_rfl) (Eq.mp (by kernel_rfl) h4) fun _ _ a hA hK => (W.WP.condK (c := C24) (x := C25) (y := C26) (o := .tmp 19) (by kernel_rfl) (fun hK => (W.WP.skip (c := C25) (by kernel_rfl) fun a hA => (W.WP.seq (c := C8) (x := C10) (y := C9) (by kernel_rfl) (W.WP.block (c := C10) (x := C11) (id := 1) (by kernel_rfl) (KE_S5_ok R _ _ hK))) a hA)) (fun hK => (W.WP.exit (c := C26) (id := 0) (by kernel_rfl) fun a hA => (KE_S10_ok R _ _ hK) a hA)) hK) a hA) (ha.cons hq0 (ha.cons hq1 (ha.cons hq5 (ha.cons hq6 ha.nil))))
theorem L3_step (l0 : W.Sl) (most1 : Int) (out5 : ByteArray) (i6 : Int) (w : World) (R : W.Post) (h : S4 l0 most1 out5 i6 w R) : L3 l0 most1 out5 i6 w R :=
  W.LP.step (n := (W.cx 41)) (c := C6) (E := [(0, l0.v), (1, .int .i64 most1), (5, .string out5), (6, .int .i64 i6)]) (w := w) (W.WP.seq (c := C6) (x := C22) (y := C8) (by kernel_rfl) (KE_S4_ok R _ _ (Eq.mp (by kernel_rfl) h)))
noncomputable def C27 : Code := W.Code.fst C3
/-- ref.go:241 -/
abbrev S2 (l0 : W.Sl) (most1 : Int) (out5 : ByteArray) (w : World) (R : W.Post) : Prop :=
  L3 l0 most1 out5 0 w R
def KE_S2 (E : W.Env) (w : World) (R : W.Post) : Prop := W.asSlice (W.Env.get? E 0) fun l0 => W.asInt .i64 (W.Env.get? E 1) fun most1 => W.asStr (W.Env.get? E 5) fun out5 => S2 l0 most1 out5 w R
theorem KE_S2_ok (R : W.Post) (E : W.Env) (w : World) (h : KE_S2 E w R) : W.WP Try.prog (W.cx 41) C3 (Q0 R) E w := by
  obtain ⟨l0, hq0, h1⟩ := W.asSlice_elim h
  obtain ⟨most1, hq1, h2⟩ := W.asInt_elim h1
  obtain ⟨out5, hq5, h3⟩ := W.asStr_elim h2
  exact fun a ha => W.WP.at (n := (W.cx 41)) (E := [(0, l0.v), (1, .int .i64 most1), (5, .string out5)]) (W.WP.seq (c := C3) (x := C27) (y := C4) (by kernel_rfl) <| W.WP.reg (c := C27) (fun E w => KE_L3 E w R) (by kernel_rfl) (Eq.mp (by kernel_rfl) h3) fun _ _ a hA hK => (W.WP.block (c := C4) (x := C5) (id := 0) (by kernel_rfl) (W.WP.loop (c := C5) (x := C6) (by kernel_rfl) (KE_L3_ok R _ _ hK))) a hA) (ha.cons hq0 (ha.cons hq1 (ha.cons hq5 ha.nil)))
noncomputable def C28 : Code := W.Code.fst C1
/-- ref.go:240 -/
abbrev S1 (l0 : W.Sl) (most1 : Int) (w : World) (R : W.Post) : Prop :=
  S2 l0 most1 (ByteArray.mk #[]) w R
def KE_S1 (E : W.Env) (w : World) (R : W.Post) : Prop := W.asSlice (W.Env.get? E 0) fun l0 => W.asInt .i64 (W.Env.get? E 1) fun most1 => S1 l0 most1 w R
theorem KE_S1_ok (R : W.Post) (E : W.Env) (w : World) (h : KE_S1 E w R) : W.WP Try.prog (W.cx 41) C1 (Q5 R) E w := by
  obtain ⟨l0, hq0, h1⟩ := W.asSlice_elim h
  obtain ⟨most1, hq1, h2⟩ := W.asInt_elim h1
  exact fun a ha => W.WP.at (n := (W.cx 41)) (E := [(0, l0.v), (1, .int .i64 most1)]) (W.WP.seq (c := C1) (x := C28) (y := C2) (by kernel_rfl) <| W.WP.reg (c := C28) (fun E w => KE_S2 E w R) (by kernel_rfl) (Eq.mp (by kernel_rfl) h2) fun _ _ a hA hK => (W.WP.seq (c := C2) (x := C3) (y := C7) (by kernel_rfl) (KE_S2_ok R _ _ hK)) a hA) (ha.cons hq0 (ha.cons hq1 ha.nil))
noncomputable def C29 : Code := W.Code.fst C0
/-- ref.go:239 -/
abbrev S0 (l0 : W.Sl) (most1 : Int) (w : World) (R : W.Post) : Prop :=
  S1 l0 most1 w R
def KE_S0 (E : W.Env) (w : World) (R : W.Post) : Prop := W.asSlice (W.Env.get? E 0) fun l0 => W.asInt .i64 (W.Env.get? E 1) fun most1 => S0 l0 most1 w R
theorem KE_S0_ok (R : W.Post) (E : W.Env) (w : World) (h : KE_S0 E w R) : W.WP Try.prog (W.cx 41) C0 (Q5 R) E w := by
  obtain ⟨l0, hq0, h1⟩ := W.asSlice_elim h
  obtain ⟨most1, hq1, h2⟩ := W.asInt_elim h1
  exact fun a ha => W.WP.at (n := (W.cx 41)) (E := [(0, l0.v), (1, .int .i64 most1)]) (W.WP.seq (c := C0) (x := C29) (y := C1) (by kernel_rfl) <| W.WP.reg (c := C29) (fun E w => KE_S1 E w R) (by kernel_rfl) (Eq.mp (by kernel_rfl) h2) fun _ _ a hA hK => (KE_S1_ok R _ _ hK) a hA) (ha.cons hq0 (ha.cons hq1 ha.nil))
/-- enthymeme/enthymemeref09.Good -/
theorem ok (l0 : W.Sl) (most1 : Int) (w : World) (R : W.Post) (h : S0 l0 most1 w R) : Calls Try.prog n_enthymemeref09_Good #[l0.v, .int .i64 most1] w R :=
  W.calls_of_WP' (fn := Try.f12) (c := C0) (args := [l0.v, .int .i64 most1]) (by kernel_rfl) (by kernel_rfl) (by kernel_rfl) (KE_S0_ok R _ _ (Eq.mp (by kernel_rfl) h))
end enthymemeref09_Good
end Go.Proofs.Ytemagdpieebjlaa

/- Printed by a program of ours (vcgen.py) from the dump: the conditions of the functions, and that they suffice. -/
import Derived.Test.YtjmnpdacalbpkaaV
set_option linter.unusedVariables false
set_option maxRecDepth 100000
namespace Go.Proofs.Ytjmnpdacalbpkaa
open Go
namespace enthymemelaw02_WireRound
noncomputable def C0 : Code := (Try.f8.body).getD .skip
noncomputable def C1 : Code := W.Code.snd C0
noncomputable def C2 : Code := W.Code.snd C1
noncomputable def C3 : Code := W.Code.snd C2
noncomputable def C4 : Code := W.Code.fst C3
noncomputable def C5 : Code := W.Code.snd C4
noncomputable def C6 : Code := W.Code.fst C5
noncomputable def C7 : Code := W.Code.snd C3
abbrev Q0 (R : W.Post) : Exit → Act → World → Prop := (Exit.then (Code.wp Try.prog C7 (bodyPost Try.prog Try.f8 R)) (bodyPost Try.prog Try.f8 R))
noncomputable def C8 : Code := W.Code.fst C6
noncomputable def C9 : Code := W.Code.snd C6
/-- law.go:121 -/
abbrev S4  (w : World) (R : W.Post) : Prop :=
  R (.returned (.bool false)) w
def KE_S4 (E : W.Env) (w : World) (R : W.Post) : Prop := S4  w R
theorem KE_S4_ok (R : W.Post) (E : W.Env) (w : World) (h : KE_S4 E w R) : W.WP Try.prog 48 C6 (Q0 R) E w := by
  exact fun a ha => W.WP.at (E := []) (W.WP.seq (c := C6) (x := C8) (y := C9) (by kernel_rfl) <| W.WP.reg (c := C8) (fun E w => W.retVC Try.prog Try.f8 E w (fun v => R (.returned v) w)) (by kernel_rfl) (Eq.mp (by kernel_rfl) h) fun _ _ a hA hK => (W.WP.ret (c := C9) (by kernel_rfl) fun a hA => W.retVC_sound hA hK) a hA) ha.nil
noncomputable def C10 : Code := W.Code.fst C7
noncomputable def C11 : Code := W.Code.snd C10
noncomputable def C12 : Code := W.Code.fst C11
noncomputable def C13 : Code := W.Code.fst C12
noncomputable def C14 : Code := W.Code.snd C7
abbrev Q1 (R : W.Post) : Exit → Act → World → Prop := (Exit.then (Code.wp Try.prog C14 (bodyPost Try.prog Try.f8 R)) (bodyPost Try.prog Try.f8 R))
abbrev Q2 (R : W.Post) : Exit → Act → World → Prop := (Exit.inBlock 0 (Q1 R))
/-- the head of the loop, law.go:123 -/
def L6 (all7 : W.Sl) (r8 : Option Addr) (i9 : Int) (w : World) (R : W.Post) : Prop := W.LP Try.prog 48 C13 (Q2 R) [(7, all7.v), (8, .pointer r8), (9, .int .i64 i9)] w
def KE_L6 (E : W.Env) (w : World) (R : W.Post) : Prop := W.asSlice (W.Env.get? E 7) fun all7 => W.asPtr (W.Env.get? E 8) fun r8 => W.asInt .i64 (W.Env.get? E 9) fun i9 => L6 all7 r8 i9 w R
theorem KE_L6_ok (R : W.Post) (E : W.Env) (w : World) (h : KE_L6 E w R) : W.LP Try.prog 48 C13 (Q2 R) E w := by
  obtain ⟨all7, hq7, h1⟩ := W.asSlice_elim h
  obtain ⟨r8, hq8, h2⟩ := W.asPtr_elim h1
  obtain ⟨i9, hq9, h3⟩ := W.asInt_elim h2
  intro a ha
  exact h3 a (ha.cons hq7 (ha.cons hq8 (ha.cons hq9 ha.nil)))
noncomputable def C15 : Code := W.Code.snd C13
noncomputable def C16 : Code := W.Code.fst C15
noncomputable def C17 : Code := W.Code.fst C16
noncomputable def C18 : Code := W.Code.snd C17
noncomputable def C19 : Code := W.Code.fst C18
noncomputable def C20 : Code := W.Code.snd C15
abbrev Q3 (R : W.Post) : Exit → Act → World → Prop := (Exit.then (Code.wp Try.prog C20 (Exit.then (W.LoopWP Try.prog C13 (Q2 R)) (Q2 R))) (Exit.then (W.LoopWP Try.prog C13 (Q2 R)) (Q2 R)))
abbrev Q4 (R : W.Post) : Exit → Act → World → Prop := (Exit.inBlock 1 (Q3 R))
noncomputable def C21 : Code := W.Code.fst C19
noncomputable def C22 : Code := W.Code.snd C19
/-- law.go:125 -/
abbrev S9  (w : World) (R : W.Post) : Prop :=
  R (.returned (.bool false)) w
def KE_S9 (E : W.Env) (w : World) (R : W.Post) : Prop := S9  w R
theorem KE_S9_ok (R : W.Post) (E : W.Env) (w : World) (h : KE_S9 E w R) : W.WP Try.prog 48 C19 (Q4 R) E w := by
  exact fun a ha => W.WP.at (E := []) (W.WP.seq (c := C19) (x := C21) (y := C22) (by kernel_rfl) <| W.WP.reg (c := C21) (fun E w => W.retVC Try.prog Try.f8 E w (fun v => R (.returned v) w)) (by kernel_rfl) (Eq.mp (by kernel_rfl) h) fun _ _ a hA hK => (W.WP.ret (c := C22) (by kernel_rfl) fun a hA => W.retVC_sound hA hK) a hA) ha.nil
abbrev Q5 (R : W.Post) : Exit → Act → World → Prop := (Exit.then (W.LoopWP Try.prog C13 (Q2 R)) (Q2 R))
/-- law.go:123 -/
abbrev S10 (all7 : W.Sl) (r8 : Option Addr) (i9 : Int) (w : World) (R : W.Post) : Prop :=
  L6 all7 r8 (IntKind.wrap .i64 (i9 + 1)) w R
def KE_S10 (E : W.Env) (w : World) (R : W.Post) : Prop := W.asSlice (W.Env.get? E 7) fun all7 => W.asPtr (W.Env.get? E 8) fun r8 => W.asInt .i64 (W.Env.get? E 9) fun i9 => S10 all7 r8 i9 w R
theorem KE_S10_ok (R : W.Post) (E : W.Env) (w : World) (h : KE_S10 E w R) : W.WP Try.prog 48 C20 (Q5 R) E w := by
  obtain ⟨all7, hq7, h1⟩ := W.asSlice_elim h
  obtain ⟨r8, hq8, h2⟩ := W.asPtr_elim h1
  obtain ⟨i9, hq9, h3⟩ := W.asInt_elim h2
  exact fun a ha => W.WP.at (E := [(7, all7.v), (8, .pointer r8), (9, .int .i64 i9)]) (W.WP.reg (c := C20) (fun E w => KE_L6 E w R) (by kernel_rfl) (Eq.mp (by kernel_rfl) h3) fun _ _ a hA hK => KE_L6_ok R _ _ hK a hA) (ha.cons hq7 (ha.cons hq8 (ha.cons hq9 ha.nil)))
noncomputable def C23 : Code := W.Code.fst C17
noncomputable def C24 : Code := W.Code.snd C18
/-- law.go:124 -/
abbrev S8 (all7 : W.Sl) (r8 : Option Addr) (i9 : Int) (w : World) (R : W.Post) : Prop :=
  (0 : Int) ≤ i9 ∧ i9 < ((all7.n : Nat) : Int) ∧ W.optP all7.a fun t32_p => ∃ t34 : Int, w.drew.cell? ((t32_p.add (Int.toNat i9 * 5)).add 0) = some (.int .i64 t34) ∧ 
  (0 : Int) ≤ i9 ∧ i9 < ((all7.n : Nat) : Int) ∧ W.optP all7.a fun t38_p => ∃ t39_0 : Int, ∃ t39_1 : Int, ∃ t39_2 : Int, ∃ t39_3 : W.Sl, ∃ t39_4 : W.Sl, w.drew.cell? ((t38_p.add (Int.toNat i9 * 5)).add 0) = some (.int .i64 t39_0) ∧ w.drew.cell? ((t38_p.add (Int.toNat i9 * 5)).add 1) = some (.int .u64 t39_1) ∧ w.drew.cell? ((t38_p.add (Int.toNat i9 * 5)).add 2) = some (.int .i64 t39_2) ∧ w.drew.cell? ((t38_p.add (Int.toNat i9 * 5)).add 3) = some (t39_3.v) ∧ w.drew.cell? ((t38_p.add (Int.toNat i9 * 5)).add 4) = some (t39_4.v) ∧ 
  Calls Try.prog n_enthymemelaw02_read #[.pointer r8, .int .i64 t34] w.drew fun r_ w1 => ∃ t35_0 : Int, ∃ t35_1 : Int, ∃ t35_2 : Int, ∃ t35_3 : W.Sl, ∃ t35_4 : W.Sl, r_ = .returned (.agg #[.int .i64 t35_0, .int .u64 t35_1, .int .i64 t35_2, t35_3.v, t35_4.v]) ∧ 
  w1.cell? ((t38_p.add (Int.toNat i9 * 5)).add 0) = some (.int .i64 t39_0) ∧ w1.cell? ((t38_p.add (Int.toNat i9 * 5)).add 1) = some (.int .u64 t39_1) ∧ w1.cell? ((t38_p.add (Int.toNat i9 * 5)).add 2) = some (.int .i64 t39_2) ∧ w1.cell? ((t38_p.add (Int.toNat i9 * 5)).add 3) = some (t39_3.v) ∧ w1.cell? ((t38_p.add (Int.toNat i9 * 5)).add 4) = some (t39_4.v) ∧ Calls Try.prog n_enthymemeref02_Same #[.agg #[.int .i64 t35_0, .int .u64 t35_1, .int .i64 t35_2, t35_3.v, t35_4.v], .agg #[.int .i64 t39_0, .int .u64 t39_1, .int .i64 t39_2, t39_3.v, t39_4.v]] w1 fun r_ w2 => ∃ t40 : Bool, r_ = .returned (.bool t40) ∧ 
  W.sel (!t40) (S9  w2 R) (S10 all7 r8 i9 w2 R)
def KE_S8 (E : W.Env) (w : World) (R : W.Post) : Prop := W.asSlice (W.Env.get? E 7) fun all7 => W.asPtr (W.Env.get? E 8) fun r8 => W.asInt .i64 (W.Env.get? E 9) fun i9 => S8 all7 r8 i9 w R
theorem KE_S8_ok (R : W.Post) (E : W.Env) (w : World) (h : KE_S8 E w R) : W.WP Try.prog 48 C17 (Q4 R) E w := by
  obtain ⟨all7, hq7, h1⟩ := W.asSlice_elim h
  obtain ⟨r8, hq8, h2⟩ := W.asPtr_elim h1
  obtain ⟨i9, hq9, h3⟩ := W.asInt_elim h2
  exact fun a ha => W.WP.at (E := [(7, all7.v), (8, .pointer r8), (9, .int .i64 i9)]) (W.WP.seq (c := C17) (x := C23) (y := C18) (by kernel_rfl) <| W.WP.draw (c := C23) [0, 1, 2, 3, 4, 5, 7, 8, 9, 10, 6, 11, 12] (fun E w => W.condK (W.Env.val E (.tmp 41)) (KE_S9 E w R) (KE_S10 E w R)) (by kernel_rfl) (Eq.mp (by kernel_rfl) h3) fun _ _ a hA hK => (W.WP.condK (c := C18) (x := C19) (y := C24) (o := .tmp 41) (by kernel_rfl) (fun hK => (KE_S9_ok R _ _ hK)) (fun hK => (W.WP.skip (c := C24) (by kernel_rfl) fun a hA => (KE_S10_ok R _ _ hK) a hA)) hK) a hA) (ha.cons hq7 (ha.cons hq8 (ha.cons hq9 ha.nil)))
abbrev Q6 (R : W.Post) : Exit → Act → World → Prop := (bodyPost Try.prog Try.f8 R)
noncomputable def C25 : Code := W.Code.fst C14
noncomputable def C26 : Code := W.Code.snd C14
/-- law.go:128 -/
abbrev S11 (r8 : Option Addr) (w : World) (R : W.Post) : Prop :=
  Calls Try.prog n_wire_Reader_End #[.pointer r8] w fun r_ w1 => ∃ t43 : Int, r_ = .returned (.int .i64 t43) ∧ 
  W.sel (t43 == 0) (Calls Try.prog n_enthymemelaw02_lives #[] w1 fun r_ w2 => ∃ t46 : Bool, r_ = .returned (.bool t46) ∧ 
  R (.returned (.bool t46)) w2) (R (.returned (.bool false)) w1)
def KE_S11 (E : W.Env) (w : World) (R : W.Post) : Prop := W.asPtr (W.Env.get? E 8) fun r8 => S11 r8 w R
theorem KE_S11_ok (R : W.Post) (E : W.Env) (w : World) (h : KE_S11 E w R) : W.WP Try.prog 48 C14 (Q6 R) E w := by
  obtain ⟨r8, hq8, h1⟩ := W.asPtr_elim h
  exact fun a ha => W.WP.at (E := [(8, .pointer r8)]) (W.WP.seq (c := C14) (x := C25) (y := C26) (by kernel_rfl) <| W.WP.reg (c := C25) (fun E w => W.retVC Try.prog Try.f8 E w (fun v => R (.returned v) w)) (by kernel_rfl) (Eq.mp (by kernel_rfl) h1) fun _ _ a hA hK => (W.WP.ret (c := C26) (by kernel_rfl) fun a hA => W.retVC_sound hA hK) a hA) (ha.cons hq8 ha.nil)
noncomputable def C27 : Code := W.Code.fst C13
abbrev Q7 (R : W.Post) : Exit → Act → World → Prop := (Exit.then (Code.wp Try.prog C15 (Exit.then (W.LoopWP Try.prog C13 (Q2 R)) (Q2 R))) (Exit.then (W.LoopWP Try.prog C13 (Q2 R)) (Q2 R)))
noncomputable def C28 : Code := W.Code.fst C27
noncomputable def C29 : Code := W.Code.snd C27
noncomputable def C30 : Code := W.Code.fst C29
noncomputable def C31 : Code := W.Code.snd C29
/-- law.go:123 -/
abbrev S7 (all7 : W.Sl) (r8 : Option Addr) (i9 : Int) (w : World) (R : W.Post) : Prop :=
  W.sel (decide (i9 < ((all7.n : Nat) : Int))) (S8 all7 r8 i9 w R) (S11 r8 w R)
def KE_S7 (E : W.Env) (w : World) (R : W.Post) : Prop := W.asSlice (W.Env.get? E 7) fun all7 => W.asPtr (W.Env.get? E 8) fun r8 => W.asInt .i64 (W.Env.get? E 9) fun i9 => S7 all7 r8 i9 w R
theorem KE_S7_ok (R : W.Post) (E : W.Env) (w : World) (h : KE_S7 E w R) : W.WP Try.prog 48 C27 (Q7 R) E w := by
  obtain ⟨all7, hq7, h1⟩ := W.asSlice_elim h
  obtain ⟨r8, hq8, h2⟩ := W.asPtr_elim h1
  obtain ⟨i9, hq9, h3⟩ := W.asInt_elim h2
  exact fun a ha => W.WP.at (E := [(7, all7.v), (8, .pointer r8), (9, .int .i64 i9)]) (W.WP.seq (c := C27) (x := C28) (y := C29) (by kernel_rfl) <| W.WP.reg (c := C28) (fun E w => W.condK (W.Env.val E (.tmp 26)) (KE_S8 E w R) (KE_S11 E w R)) (by kernel_rfl) (Eq.mp (by kernel_rfl) h3) fun _ _ a hA hK => (W.WP.condK (c := C29) (x := C30) (y := C31) (o := .tmp 26) (by kernel_rfl) (fun hK => (W.WP.skip (c := C30) (by kernel_rfl) fun a hA => (W.WP.seq (c := C15) (x := C16) (y := C20) (by kernel_rfl) (W.WP.block (c := C16) (x := C17) (id := 1) (by kernel_rfl) (KE_S8_ok R _ _ hK))) a hA)) (fun hK => (W.WP.exit (c := C31) (id := 0) (by kernel_rfl) fun a hA => (KE_S11_ok R _ _ hK) a hA)) hK) a hA) (ha.cons hq7 (ha.cons hq8 (ha.cons hq9 ha.nil)))
theorem L6_step (all7 : W.Sl) (r8 : Option Addr) (i9 : Int) (w : World) (R : W.Post) (h : S7 all7 r8 i9 w R) : L6 all7 r8 i9 w R :=
  W.LP.step (c := C13) (E := [(7, all7.v), (8, .pointer r8), (9, .int .i64 i9)]) (w := w) (W.WP.seq (c := C13) (x := C27) (y := C15) (by kernel_rfl) (KE_S7_ok R _ _ (Eq.mp (by kernel_rfl) h)))
noncomputable def C32 : Code := W.Code.fst C10
/-- law.go:123 -/
abbrev S5 (all7 : W.Sl) (r8 : Option Addr) (w : World) (R : W.Post) : Prop :=
  L6 all7 r8 0 w R
def KE_S5 (E : W.Env) (w : World) (R : W.Post) : Prop := W.asSlice (W.Env.get? E 7) fun all7 => W.asPtr (W.Env.get? E 8) fun r8 => S5 all7 r8 w R
theorem KE_S5_ok (R : W.Post) (E : W.Env) (w : World) (h : KE_S5 E w R) : W.WP Try.prog 48 C10 (Q1 R) E w := by
  obtain ⟨all7, hq7, h1⟩ := W.asSlice_elim h
  obtain ⟨r8, hq8, h2⟩ := W.asPtr_elim h1
  exact fun a ha => W.WP.at (E := [(7, all7.v), (8, .pointer r8)]) (W.WP.seq (c := C10) (x := C32) (y := C11) (by kernel_rfl) <| W.WP.reg (c := C32) (fun E w => KE_L6 E w R) (by kernel_rfl) (Eq.mp (by kernel_rfl) h2) fun _ _ a hA hK => (W.WP.block (c := C11) (x := C12) (id := 0) (by kernel_rfl) (W.WP.loop (c := C12) (x := C13) (by kernel_rfl) (KE_L6_ok R _ _ hK))) a hA) (ha.cons hq7 (ha.cons hq8 ha.nil))
noncomputable def C33 : Code := W.Code.fst C4
noncomputable def C34 : Code := W.Code.snd C5
/-- law.go:120 -/
abbrev S3 (all7 : W.Sl) (r8 : Option Addr) (w : World) (R : W.Post) : Prop :=
  W.sel r8.isNone (S4  w R) (S5 all7 r8 w R)
def KE_S3 (E : W.Env) (w : World) (R : W.Post) : Prop := W.asSlice (W.Env.get? E 7) fun all7 => W.asPtr (W.Env.get? E 8) fun r8 => S3 all7 r8 w R
theorem KE_S3_ok (R : W.Post) (E : W.Env) (w : World) (h : KE_S3 E w R) : W.WP Try.prog 48 C4 (Q0 R) E w := by
  obtain ⟨all7, hq7, h1⟩ := W.asSlice_elim h
  obtain ⟨r8, hq8, h2⟩ := W.asPtr_elim h1
  exact fun a ha => W.WP.at (E := [(7, all7.v), (8, .pointer r8)]) (W.WP.seq (c := C4) (x := C33) (y := C5) (by kernel_rfl) <| W.WP.reg (c := C33) (fun E w => W.condK (W.Env.val E (.tmp 22)) (KE_S4 E w R) (KE_S5 E w R)) (by kernel_rfl) (Eq.mp (by kernel_rfl) h2) fun _ _ a hA hK => (W.WP.condK (c := C5) (x := C6) (y := C34) (o := .tmp 22) (by kernel_rfl) (fun hK => (KE_S4_ok R _ _ hK)) (fun hK => (W.WP.skip (c := C34) (by kernel_rfl) fun a hA => (W.WP.seq (c := C7) (x := C10) (y := C14) (by kernel_rfl) (KE_S5_ok R _ _ hK)) a hA)) hK) a hA) (ha.cons hq7 (ha.cons hq8 ha.nil))
noncomputable def C35 : Code := W.Code.fst C2
/-- law.go:119 -/
abbrev S2 (all7 : W.Sl) (w : World) (R : W.Post) : Prop :=
  Calls Try.prog n_enthymemelaw02_encode #[all7.v] w fun r_ w1 => ∃ t19 : W.Sl, r_ = .returned (t19.v) ∧ 
  Calls Try.prog n_wire_Read #[t19.v] w1 fun r_ w2 => ∃ t20 : Option Addr, r_ = .returned (.pointer t20) ∧ 
  S3 all7 t20 w2 R
def KE_S2 (E : W.Env) (w : World) (R : W.Post) : Prop := W.asSlice (W.Env.get? E 7) fun all7 => S2 all7 w R
theorem KE_S2_ok (R : W.Post) (E : W.Env) (w : World) (h : KE_S2 E w R) : W.WP Try.prog 48 C2 (Q6 R) E w := by
  obtain ⟨all7, hq7, h1⟩ := W.asSlice_elim h
  exact fun a ha => W.WP.at (E := [(7, all7.v)]) (W.WP.seq (c := C2) (x := C35) (y := C3) (by kernel_rfl) <| W.WP.reg (c := C35) (fun E w => KE_S3 E w R) (by kernel_rfl) (Eq.mp (by kernel_rfl) h1) fun _ _ a hA hK => (W.WP.seq (c := C3) (x := C4) (y := C7) (by kernel_rfl) (KE_S3_ok R _ _ hK)) a hA) (ha.cons hq7 ha.nil)
noncomputable def C36 : Code := W.Code.fst C1
/-- law.go:118 -/
abbrev S1 (l0 : W.Sl) (u1 n2 : Int) (w : World) (R : W.Post) : Prop :=
  Calls Try.prog n_enthymemeref02_Vals #[l0.v] w fun r_ w1 => ∃ t11 : W.Sl, r_ = .returned (t11.v) ∧ 
  let w2 := w1.alloc (.cells #[.int .i64 0, .int .u64 u1, .int .i64 0, .slice none 0 0, .slice none 0 0, .int .i64 1, .int .u64 0, .int .i64 n2, .slice none 0 0, .slice none 0 0] ty_enthymemeref02_Val)
  ∃ (t17 : W.Sl) (w3 : World), Sem.run Try.prog (Builtin.append_ #[ty_sl_enthymemeref02_Val, ty_sl_enthymemeref02_Val] ty_sl_enthymemeref02_Val #[t11.v, .slice (some (Addr.mk w1.heap.size 0 none)) 2 2]) w2 = .ok (t17.v) w3 ∧ S2 t17 w3 R
def KE_S1 (E : W.Env) (w : World) (R : W.Post) : Prop := W.asSlice (W.Env.get? E 0) fun l0 => W.asInt .u64 (W.Env.get? E 1) fun u1 => W.asInt .i64 (W.Env.get? E 2) fun n2 => S1 l0 u1 n2 w R
theorem KE_S1_ok (R : W.Post) (E : W.Env) (w : World) (h : KE_S1 E w R) : W.WP Try.prog 48 C1 (Q6 R) E w := by
  obtain ⟨l0, hq0, h1⟩ := W.asSlice_elim h
  obtain ⟨u1, hq1, h2⟩ := W.asInt_elim h1
  obtain ⟨n2, hq2, h3⟩ := W.asInt_elim h2
  exact fun a ha => W.WP.at (E := [(0, l0.v), (1, .int .u64 u1), (2, .int .i64 n2)]) (W.WP.seq (c := C1) (x := C36) (y := C2) (by kernel_rfl) <| W.WP.reg (c := C36) (fun E w => KE_S2 E w R) (by kernel_rfl) (Eq.mp (by kernel_rfl) h3) fun _ _ a hA hK => (KE_S2_ok R _ _ hK) a hA) (ha.cons hq0 (ha.cons hq1 (ha.cons hq2 ha.nil)))
noncomputable def C37 : Code := W.Code.fst C0
/-- law.go:117 -/
abbrev S0 (l0 : W.Sl) (u1 n2 : Int) (w : World) (R : W.Post) : Prop :=
  S1 l0 u1 n2 w R
def KE_S0 (E : W.Env) (w : World) (R : W.Post) : Prop := W.asSlice (W.Env.get? E 0) fun l0 => W.asInt .u64 (W.Env.get? E 1) fun u1 => W.asInt .i64 (W.Env.get? E 2) fun n2 => S0 l0 u1 n2 w R
theorem KE_S0_ok (R : W.Post) (E : W.Env) (w : World) (h : KE_S0 E w R) : W.WP Try.prog 48 C0 (Q6 R) E w := by
  obtain ⟨l0, hq0, h1⟩ := W.asSlice_elim h
  obtain ⟨u1, hq1, h2⟩ := W.asInt_elim h1
  obtain ⟨n2, hq2, h3⟩ := W.asInt_elim h2
  exact fun a ha => W.WP.at (E := [(0, l0.v), (1, .int .u64 u1), (2, .int .i64 n2)]) (W.WP.seq (c := C0) (x := C37) (y := C1) (by kernel_rfl) <| W.WP.reg (c := C37) (fun E w => KE_S1 E w R) (by kernel_rfl) (Eq.mp (by kernel_rfl) h3) fun _ _ a hA hK => (KE_S1_ok R _ _ hK) a hA) (ha.cons hq0 (ha.cons hq1 (ha.cons hq2 ha.nil)))
/-- enthymeme/enthymemelaw02.WireRound -/
theorem ok (l0 : W.Sl) (u1 n2 : Int) (w : World) (R : W.Post) (h : S0 l0 u1 n2 w R) : Calls Try.prog n_enthymemelaw02_WireRound #[l0.v, .int .u64 u1, .int .i64 n2] w R :=
  W.calls_of_WP' (fn := Try.f8) (c := C0) (args := [l0.v, .int .u64 u1, .int .i64 n2]) (by kernel_rfl) (by kernel_rfl) (by kernel_rfl) (KE_S0_ok R _ _ (Eq.mp (by kernel_rfl) h))
end enthymemelaw02_WireRound
end Go.Proofs.Ytjmnpdacalbpkaa

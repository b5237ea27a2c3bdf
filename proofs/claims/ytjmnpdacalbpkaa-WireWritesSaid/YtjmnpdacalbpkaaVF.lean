/- Printed by a program of ours (vcgen.py) from the dump: the conditions of the functions, and that they suffice. -/
import Derived.Test.YtjmnpdacalbpkaaV
set_option linter.unusedVariables false
set_option maxRecDepth 100000
namespace Go.Proofs.Ytjmnpdacalbpkaa
open Go
namespace enthymemelaw02_WireWrites
noncomputable def C0 : Code := (Try.f5.body).getD .skip
noncomputable def C1 : Code := W.Code.snd C0
noncomputable def C2 : Code := W.Code.snd C1
noncomputable def C3 : Code := W.Code.snd C2
noncomputable def C4 : Code := W.Code.fst C3
noncomputable def C5 : Code := W.Code.snd C4
noncomputable def C6 : Code := W.Code.fst C5
noncomputable def C7 : Code := W.Code.fst C6
noncomputable def C8 : Code := W.Code.snd C3
abbrev Q0 (R : W.Post) : Exit → Act → World → Prop := (Exit.then (Code.wp Try.prog C8 (bodyPost Try.prog Try.f5 R)) (bodyPost Try.prog Try.f5 R))
abbrev Q1 (R : W.Post) : Exit → Act → World → Prop := (Exit.inBlock 0 (Q0 R))
/-- the head of the loop, law.go:84 -/
def L4 (all11 : W.Sl) (wv12 : Addr) (i13 : Int) (w : World) (R : W.Post) : Prop := W.LP Try.prog 49 C7 (Q1 R) [(11, all11.v), (12, .pointer (some wv12)), (13, .int .i64 i13)] w
def KE_L4 (E : W.Env) (w : World) (R : W.Post) : Prop := W.asSlice (W.Env.get? E 11) fun all11 => W.asRef (W.Env.get? E 12) fun wv12 => W.asInt .i64 (W.Env.get? E 13) fun i13 => L4 all11 wv12 i13 w R
theorem KE_L4_ok (R : W.Post) (E : W.Env) (w : World) (h : KE_L4 E w R) : W.LP Try.prog 49 C7 (Q1 R) E w := by
  obtain ⟨all11, hq11, h1⟩ := W.asSlice_elim h
  obtain ⟨wv12, hq12, h2⟩ := W.asRef_elim h1
  obtain ⟨i13, hq13, h3⟩ := W.asInt_elim h2
  intro a ha
  exact h3 a (ha.cons hq11 (ha.cons hq12 (ha.cons hq13 ha.nil)))
noncomputable def C9 : Code := W.Code.snd C7
noncomputable def C10 : Code := W.Code.fst C9
noncomputable def C11 : Code := W.Code.fst C10
noncomputable def C12 : Code := W.Code.snd C11
noncomputable def C13 : Code := W.Code.snd C12
noncomputable def C14 : Code := W.Code.fst C13
noncomputable def C15 : Code := W.Code.snd C9
abbrev Q2 (R : W.Post) : Exit → Act → World → Prop := (Exit.then (Code.wp Try.prog C15 (Exit.then (W.LoopWP Try.prog C7 (Q1 R)) (Q1 R))) (Exit.then (W.LoopWP Try.prog C7 (Q1 R)) (Q1 R)))
abbrev Q3 (R : W.Post) : Exit → Act → World → Prop := (Exit.inBlock 1 (Q2 R))
noncomputable def C16 : Code := W.Code.fst C14
noncomputable def C17 : Code := W.Code.snd C14
/-- law.go:87 -/
abbrev S8  (w : World) (R : W.Post) : Prop :=
  R (.returned (.bool false)) w
def KE_S8 (E : W.Env) (w : World) (R : W.Post) : Prop := S8  w R
theorem KE_S8_ok (R : W.Post) (E : W.Env) (w : World) (h : KE_S8 E w R) : W.WP Try.prog 49 C14 (Q3 R) E w := by
  exact fun a ha => W.WP.at (E := []) (W.WP.seq (c := C14) (x := C16) (y := C17) (by kernel_rfl) <| W.WP.reg (c := C16) (fun E w => W.retVC Try.prog Try.f5 E w (fun v => R (.returned v) w)) (by kernel_rfl) (Eq.mp (by kernel_rfl) h) fun _ _ a hA hK => (W.WP.ret (c := C17) (by kernel_rfl) fun a hA => W.retVC_sound hA hK) a hA) ha.nil
abbrev Q4 (R : W.Post) : Exit → Act → World → Prop := (Exit.then (W.LoopWP Try.prog C7 (Q1 R)) (Q1 R))
/-- law.go:84 -/
abbrev S9 (all11 : W.Sl) (wv12 : Addr) (i13 : Int) (w : World) (R : W.Post) : Prop :=
  L4 all11 wv12 (IntKind.wrap .i64 (i13 + 1)) w R
def KE_S9 (E : W.Env) (w : World) (R : W.Post) : Prop := W.asSlice (W.Env.get? E 11) fun all11 => W.asRef (W.Env.get? E 12) fun wv12 => W.asInt .i64 (W.Env.get? E 13) fun i13 => S9 all11 wv12 i13 w R
theorem KE_S9_ok (R : W.Post) (E : W.Env) (w : World) (h : KE_S9 E w R) : W.WP Try.prog 49 C15 (Q4 R) E w := by
  obtain ⟨all11, hq11, h1⟩ := W.asSlice_elim h
  obtain ⟨wv12, hq12, h2⟩ := W.asRef_elim h1
  obtain ⟨i13, hq13, h3⟩ := W.asInt_elim h2
  exact fun a ha => W.WP.at (E := [(11, all11.v), (12, .pointer (some wv12)), (13, .int .i64 i13)]) (W.WP.reg (c := C15) (fun E w => KE_L4 E w R) (by kernel_rfl) (Eq.mp (by kernel_rfl) h3) fun _ _ a hA hK => KE_L4_ok R _ _ hK a hA) (ha.cons hq11 (ha.cons hq12 (ha.cons hq13 ha.nil)))
noncomputable def C18 : Code := W.Code.fst C12
noncomputable def C19 : Code := W.Code.snd C13
/-- law.go:86 -/
abbrev S7 (all11 : W.Sl) (wv12 : Addr) (i13 : Int) (w : World) (R : W.Post) : Prop :=
  (0 : Int) ≤ (IntKind.wrap .i64 (i13 + 1)) ∧ (IntKind.wrap .i64 (i13 + 1)) ≤ ((all11.c : Nat) : Int) ∧ Calls Try.prog n_wire_Writer_Done #[.pointer (some wv12)] w.drew fun r_ w1 => ∃ t40 : W.Sl, r_ = .returned (t40.v) ∧ 
  Calls Try.prog n_enthymemeref02_Encode #[.slice (if all11.c = 0 then all11.a else all11.a.map (·.add (0 * 5))) ((Int.toNat (IntKind.wrap .i64 (i13 + 1))) - 0) (all11.c - 0)] w1 fun r_ w2 => ∃ t45 : W.Sl, r_ = .returned (t45.v) ∧ 
  Calls Try.prog n_enthymemeref01_SameBytes #[t40.v, t45.v] w2 fun r_ w3 => ∃ t46 : Bool, r_ = .returned (.bool t46) ∧ 
  W.sel (!t46) (S8  w3 R) (S9 all11 wv12 i13 w3 R)
def KE_S7 (E : W.Env) (w : World) (R : W.Post) : Prop := W.asSlice (W.Env.get? E 11) fun all11 => W.asRef (W.Env.get? E 12) fun wv12 => W.asInt .i64 (W.Env.get? E 13) fun i13 => S7 all11 wv12 i13 w R
theorem KE_S7_ok (R : W.Post) (E : W.Env) (w : World) (h : KE_S7 E w R) : W.WP Try.prog 49 C12 (Q3 R) E w := by
  obtain ⟨all11, hq11, h1⟩ := W.asSlice_elim h
  obtain ⟨wv12, hq12, h2⟩ := W.asRef_elim h1
  obtain ⟨i13, hq13, h3⟩ := W.asInt_elim h2
  exact fun a ha => W.WP.at (E := [(11, all11.v), (12, .pointer (some wv12)), (13, .int .i64 i13)]) (W.WP.seq (c := C12) (x := C18) (y := C13) (by kernel_rfl) <| W.WP.draw (c := C18) [1, 2, 3, 4, 0, 5, 6, 7] (fun E w => W.condK (W.Env.val E (.tmp 47)) (KE_S8 E w R) (KE_S9 E w R)) (by kernel_rfl) (Eq.mp (by kernel_rfl) h3) fun _ _ a hA hK => (W.WP.condK (c := C13) (x := C14) (y := C19) (o := .tmp 47) (by kernel_rfl) (fun hK => (KE_S8_ok R _ _ hK)) (fun hK => (W.WP.skip (c := C19) (by kernel_rfl) fun a hA => (KE_S9_ok R _ _ hK) a hA)) hK) a hA) (ha.cons hq11 (ha.cons hq12 (ha.cons hq13 ha.nil)))
noncomputable def C20 : Code := W.Code.fst C11
/-- law.go:85 -/
abbrev S6 (all11 : W.Sl) (wv12 : Addr) (i13 : Int) (w : World) (R : W.Post) : Prop :=
  (0 : Int) ≤ i13 ∧ i13 < ((all11.n : Nat) : Int) ∧ W.optP all11.a fun t37_p => ∃ t38_0 : Int, ∃ t38_1 : Int, ∃ t38_2 : Int, ∃ t38_3 : W.Sl, ∃ t38_4 : W.Sl, w.cell? ((t37_p.add (Int.toNat i13 * 5)).add 0) = some (.int .i64 t38_0) ∧ w.cell? ((t37_p.add (Int.toNat i13 * 5)).add 1) = some (.int .u64 t38_1) ∧ w.cell? ((t37_p.add (Int.toNat i13 * 5)).add 2) = some (.int .i64 t38_2) ∧ w.cell? ((t37_p.add (Int.toNat i13 * 5)).add 3) = some (t38_3.v) ∧ w.cell? ((t37_p.add (Int.toNat i13 * 5)).add 4) = some (t38_4.v) ∧ 
  Calls Try.prog n_enthymemelaw02_write #[.pointer (some wv12), .agg #[.int .i64 t38_0, .int .u64 t38_1, .int .i64 t38_2, t38_3.v, t38_4.v]] w fun r_ w1 => r_ = .returned (.tuple #[]) ∧ 
  S7 all11 wv12 i13 w1 R
def KE_S6 (E : W.Env) (w : World) (R : W.Post) : Prop := W.asSlice (W.Env.get? E 11) fun all11 => W.asRef (W.Env.get? E 12) fun wv12 => W.asInt .i64 (W.Env.get? E 13) fun i13 => S6 all11 wv12 i13 w R
theorem KE_S6_ok (R : W.Post) (E : W.Env) (w : World) (h : KE_S6 E w R) : W.WP Try.prog 49 C11 (Q3 R) E w := by
  obtain ⟨all11, hq11, h1⟩ := W.asSlice_elim h
  obtain ⟨wv12, hq12, h2⟩ := W.asRef_elim h1
  obtain ⟨i13, hq13, h3⟩ := W.asInt_elim h2
  exact fun a ha => W.WP.at (E := [(11, all11.v), (12, .pointer (some wv12)), (13, .int .i64 i13)]) (W.WP.seq (c := C11) (x := C20) (y := C12) (by kernel_rfl) <| W.WP.reg (c := C20) (fun E w => KE_S7 E w R) (by kernel_rfl) (Eq.mp (by kernel_rfl) h3) fun _ _ a hA hK => (KE_S7_ok R _ _ hK) a hA) (ha.cons hq11 (ha.cons hq12 (ha.cons hq13 ha.nil)))
abbrev Q5 (R : W.Post) : Exit → Act → World → Prop := (bodyPost Try.prog Try.f5 R)
noncomputable def C21 : Code := W.Code.fst C8
noncomputable def C22 : Code := W.Code.snd C8
/-- law.go:90 -/
abbrev S10  (w : World) (R : W.Post) : Prop :=
  Calls Try.prog n_enthymemelaw02_lives #[] w fun r_ w1 => ∃ t48 : Bool, r_ = .returned (.bool t48) ∧ 
  R (.returned (.bool t48)) w1
def KE_S10 (E : W.Env) (w : World) (R : W.Post) : Prop := S10  w R
theorem KE_S10_ok (R : W.Post) (E : W.Env) (w : World) (h : KE_S10 E w R) : W.WP Try.prog 49 C8 (Q5 R) E w := by
  exact fun a ha => W.WP.at (E := []) (W.WP.seq (c := C8) (x := C21) (y := C22) (by kernel_rfl) <| W.WP.reg (c := C21) (fun E w => W.retVC Try.prog Try.f5 E w (fun v => R (.returned v) w)) (by kernel_rfl) (Eq.mp (by kernel_rfl) h) fun _ _ a hA hK => (W.WP.ret (c := C22) (by kernel_rfl) fun a hA => W.retVC_sound hA hK) a hA) ha.nil
noncomputable def C23 : Code := W.Code.fst C7
abbrev Q6 (R : W.Post) : Exit → Act → World → Prop := (Exit.then (Code.wp Try.prog C9 (Exit.then (W.LoopWP Try.prog C7 (Q1 R)) (Q1 R))) (Exit.then (W.LoopWP Try.prog C7 (Q1 R)) (Q1 R)))
noncomputable def C24 : Code := W.Code.fst C23
noncomputable def C25 : Code := W.Code.snd C23
noncomputable def C26 : Code := W.Code.fst C25
noncomputable def C27 : Code := W.Code.snd C25
/-- law.go:84 -/
abbrev S5 (all11 : W.Sl) (wv12 : Addr) (i13 : Int) (w : World) (R : W.Post) : Prop :=
  W.sel (decide (i13 < ((all11.n : Nat) : Int))) (S6 all11 wv12 i13 w R) (S10  w R)
def KE_S5 (E : W.Env) (w : World) (R : W.Post) : Prop := W.asSlice (W.Env.get? E 11) fun all11 => W.asRef (W.Env.get? E 12) fun wv12 => W.asInt .i64 (W.Env.get? E 13) fun i13 => S5 all11 wv12 i13 w R
theorem KE_S5_ok (R : W.Post) (E : W.Env) (w : World) (h : KE_S5 E w R) : W.WP Try.prog 49 C23 (Q6 R) E w := by
  obtain ⟨all11, hq11, h1⟩ := W.asSlice_elim h
  obtain ⟨wv12, hq12, h2⟩ := W.asRef_elim h1
  obtain ⟨i13, hq13, h3⟩ := W.asInt_elim h2
  exact fun a ha => W.WP.at (E := [(11, all11.v), (12, .pointer (some wv12)), (13, .int .i64 i13)]) (W.WP.seq (c := C23) (x := C24) (y := C25) (by kernel_rfl) <| W.WP.reg (c := C24) (fun E w => W.condK (W.Env.val E (.tmp 32)) (KE_S6 E w R) (KE_S10 E w R)) (by kernel_rfl) (Eq.mp (by kernel_rfl) h3) fun _ _ a hA hK => (W.WP.condK (c := C25) (x := C26) (y := C27) (o := .tmp 32) (by kernel_rfl) (fun hK => (W.WP.skip (c := C26) (by kernel_rfl) fun a hA => (W.WP.seq (c := C9) (x := C10) (y := C15) (by kernel_rfl) (W.WP.block (c := C10) (x := C11) (id := 1) (by kernel_rfl) (KE_S6_ok R _ _ hK))) a hA)) (fun hK => (W.WP.exit (c := C27) (id := 0) (by kernel_rfl) fun a hA => (KE_S10_ok R _ _ hK) a hA)) hK) a hA) (ha.cons hq11 (ha.cons hq12 (ha.cons hq13 ha.nil)))
theorem L4_step (all11 : W.Sl) (wv12 : Addr) (i13 : Int) (w : World) (R : W.Post) (h : S5 all11 wv12 i13 w R) : L4 all11 wv12 i13 w R :=
  W.LP.step (c := C7) (E := [(11, all11.v), (12, .pointer (some wv12)), (13, .int .i64 i13)]) (w := w) (W.WP.seq (c := C7) (x := C23) (y := C9) (by kernel_rfl) (KE_S5_ok R _ _ (Eq.mp (by kernel_rfl) h)))
noncomputable def C28 : Code := W.Code.fst C4
/-- law.go:84 -/
abbrev S3 (all11 : W.Sl) (wv12 : Addr) (w : World) (R : W.Post) : Prop :=
  L4 all11 wv12 0 w R
def KE_S3 (E : W.Env) (w : World) (R : W.Post) : Prop := W.asSlice (W.Env.get? E 11) fun all11 => W.asRef (W.Env.get? E 12) fun wv12 => S3 all11 wv12 w R
theorem KE_S3_ok (R : W.Post) (E : W.Env) (w : World) (h : KE_S3 E w R) : W.WP Try.prog 49 C4 (Q0 R) E w := by
  obtain ⟨all11, hq11, h1⟩ := W.asSlice_elim h
  obtain ⟨wv12, hq12, h2⟩ := W.asRef_elim h1
  exact fun a ha => W.WP.at (E := [(11, all11.v), (12, .pointer (some wv12))]) (W.WP.seq (c := C4) (x := C28) (y := C5) (by kernel_rfl) <| W.WP.reg (c := C28) (fun E w => KE_L4 E w R) (by kernel_rfl) (Eq.mp (by kernel_rfl) h2) fun _ _ a hA hK => (W.WP.block (c := C5) (x := C6) (id := 0) (by kernel_rfl) (W.WP.loop (c := C6) (x := C7) (by kernel_rfl) (KE_L4_ok R _ _ hK))) a hA) (ha.cons hq11 (ha.cons hq12 ha.nil))
noncomputable def C29 : Code := W.Code.fst C2
/-- law.go:83 -/
abbrev S2 (all11 : W.Sl) (w : World) (R : W.Post) : Prop :=
  let w1 := w.alloc (.cells #[.slice none 0 0] ty_wire_Writer)
  S3 all11 (Addr.mk w.heap.size 0 none) w1 R
def KE_S2 (E : W.Env) (w : World) (R : W.Post) : Prop := W.asSlice (W.Env.get? E 11) fun all11 => S2 all11 w R
theorem KE_S2_ok (R : W.Post) (E : W.Env) (w : World) (h : KE_S2 E w R) : W.WP Try.prog 49 C2 (Q5 R) E w := by
  obtain ⟨all11, hq11, h1⟩ := W.asSlice_elim h
  exact fun a ha => W.WP.at (E := [(11, all11.v)]) (W.WP.seq (c := C2) (x := C29) (y := C3) (by kernel_rfl) <| W.WP.reg (c := C29) (fun E w => KE_S3 E w R) (by kernel_rfl) (Eq.mp (by kernel_rfl) h1) fun _ _ a hA hK => (W.WP.seq (c := C3) (x := C4) (y := C8) (by kernel_rfl) (KE_S3_ok R _ _ hK)) a hA) (ha.cons hq11 ha.nil)
noncomputable def C30 : Code := W.Code.fst C1
/-- law.go:82 -/
abbrev S1 (l0 : W.Sl) (u1 n2 : Int) (b3 list4 : W.Sl) (w : World) (R : W.Post) : Prop :=
  Calls Try.prog n_enthymemeref02_Vals #[l0.v] w fun r_ w1 => ∃ t15 : W.Sl, r_ = .returned (t15.v) ∧ 
  Calls Try.prog n_enthymemeref01_Few #[b3.v, .int .i64 200] w1 fun r_ w2 => ∃ t21 : W.Sl, r_ = .returned (t21.v) ∧ 
  Calls Try.prog n_enthymemeref01_Ints #[list4.v, .int .i64 20] w2 fun r_ w3 => ∃ t24 : W.Sl, r_ = .returned (t24.v) ∧ 
  let w4 := w3.alloc (.cells #[.int .i64 0, .int .u64 u1, .int .i64 0, .slice none 0 0, .slice none 0 0, .int .i64 1, .int .u64 0, .int .i64 n2, .slice none 0 0, .slice none 0 0, .int .i64 4, .int .u64 0, .int .i64 0, t21.v, .slice none 0 0, .int .i64 5, .int .u64 0, .int .i64 0, .slice none 0 0, t24.v, .int .i64 2, .int .u64 0, .int .i64 1, .slice none 0 0, .slice none 0 0] ty_enthymemeref02_Val)
  ∃ (t28 : W.Sl) (w5 : World), Sem.run Try.prog (Builtin.append_ #[ty_sl_enthymemeref02_Val, ty_sl_enthymemeref02_Val] ty_sl_enthymemeref02_Val #[t15.v, .slice (some (Addr.mk w3.heap.size 0 none)) 5 5]) w4 = .ok (t28.v) w5 ∧ S2 t28 w5 R
def KE_S1 (E : W.Env) (w : World) (R : W.Post) : Prop := W.asSlice (W.Env.get? E 0) fun l0 => W.asInt .u64 (W.Env.get? E 1) fun u1 => W.asInt .i64 (W.Env.get? E 2) fun n2 => W.asSlice (W.Env.get? E 3) fun b3 => W.asSlice (W.Env.get? E 4) fun list4 => S1 l0 u1 n2 b3 list4 w R
theorem KE_S1_ok (R : W.Post) (E : W.Env) (w : World) (h : KE_S1 E w R) : W.WP Try.prog 49 C1 (Q5 R) E w := by
  obtain ⟨l0, hq0, h1⟩ := W.asSlice_elim h
  obtain ⟨u1, hq1, h2⟩ := W.asInt_elim h1
  obtain ⟨n2, hq2, h3⟩ := W.asInt_elim h2
  obtain ⟨b3, hq3, h4⟩ := W.asSlice_elim h3
  obtain ⟨list4, hq4, h5⟩ := W.asSlice_elim h4
  exact fun a ha => W.WP.at (E := [(0, l0.v), (1, .int .u64 u1), (2, .int .i64 n2), (3, b3.v), (4, list4.v)]) (W.WP.seq (c := C1) (x := C30) (y := C2) (by kernel_rfl) <| W.WP.reg (c := C30) (fun E w => KE_S2 E w R) (by kernel_rfl) (Eq.mp (by kernel_rfl) h5) fun _ _ a hA hK => (KE_S2_ok R _ _ hK) a hA) (ha.cons hq0 (ha.cons hq1 (ha.cons hq2 (ha.cons hq3 (ha.cons hq4 ha.nil)))))
noncomputable def C31 : Code := W.Code.fst C0
/-- law.go:81 -/
abbrev S0 (l0 : W.Sl) (u1 n2 : Int) (b3 list4 : W.Sl) (w : World) (R : W.Post) : Prop :=
  S1 l0 u1 n2 b3 list4 w R
def KE_S0 (E : W.Env) (w : World) (R : W.Post) : Prop := W.asSlice (W.Env.get? E 0) fun l0 => W.asInt .u64 (W.Env.get? E 1) fun u1 => W.asInt .i64 (W.Env.get? E 2) fun n2 => W.asSlice (W.Env.get? E 3) fun b3 => W.asSlice (W.Env.get? E 4) fun list4 => S0 l0 u1 n2 b3 list4 w R
theorem KE_S0_ok (R : W.Post) (E : W.Env) (w : World) (h : KE_S0 E w R) : W.WP Try.prog 49 C0 (Q5 R) E w := by
  obtain ⟨l0, hq0, h1⟩ := W.asSlice_elim h
  obtain ⟨u1, hq1, h2⟩ := W.asInt_elim h1
  obtain ⟨n2, hq2, h3⟩ := W.asInt_elim h2
  obtain ⟨b3, hq3, h4⟩ := W.asSlice_elim h3
  obtain ⟨list4, hq4, h5⟩ := W.asSlice_elim h4
  exact fun a ha => W.WP.at (E := [(0, l0.v), (1, .int .u64 u1), (2, .int .i64 n2), (3, b3.v), (4, list4.v)]) (W.WP.seq (c := C0) (x := C31) (y := C1) (by kernel_rfl) <| W.WP.reg (c := C31) (fun E w => KE_S1 E w R) (by kernel_rfl) (Eq.mp (by kernel_rfl) h5) fun _ _ a hA hK => (KE_S1_ok R _ _ hK) a hA) (ha.cons hq0 (ha.cons hq1 (ha.cons hq2 (ha.cons hq3 (ha.cons hq4 ha.nil)))))
/-- enthymeme/enthymemelaw02.WireWrites -/
theorem ok (l0 : W.Sl) (u1 n2 : Int) (b3 list4 : W.Sl) (w : World) (R : W.Post) (h : S0 l0 u1 n2 b3 list4 w R) : Calls Try.prog n_enthymemelaw02_WireWrites #[l0.v, .int .u64 u1, .int .i64 n2, b3.v, list4.v] w R :=
  W.calls_of_WP' (fn := Try.f5) (c := C0) (args := [l0.v, .int .u64 u1, .int .i64 n2, b3.v, list4.v]) (by kernel_rfl) (by kernel_rfl) (by kernel_rfl) (KE_S0_ok R _ _ (Eq.mp (by kernel_rfl) h))
end enthymemelaw02_WireWrites
end Go.Proofs.Ytjmnpdacalbpkaa

/- Printed by a program of ours (vcgen.py) from the dump: the conditions of the functions, and that they suffice. -/
import Derived.Test.YtellmncndfmbbaaV
set_option linter.unusedVariables false
set_option maxRecDepth 100000
namespace Go.Proofs.Ytellmncndfmbbaa
open Go
namespace channel_End_Copy
noncomputable def C0 : Code := (Try.f24.body).getD .skip
noncomputable def C1 : Code := W.Code.snd C0
noncomputable def C2 : Code := W.Code.snd C1
noncomputable def C3 : Code := W.Code.snd C2
noncomputable def C4 : Code := W.Code.fst C3
noncomputable def C5 : Code := W.Code.snd C4
noncomputable def C6 : Code := W.Code.fst C5
noncomputable def C7 : Code := W.Code.fst C6
noncomputable def C8 : Code := W.Code.snd C3
abbrev Q0 (R : W.Post) : Exit → Act → World → Prop := (Exit.then (Code.wp Try.prog C8 (bodyPost Try.prog Try.f24 R)) (bodyPost Try.prog Try.f24 R))
abbrev Q1 (R : W.Post) : Exit → Act → World → Prop := (Exit.inBlock 0 (Q0 R))
/-- the head of the loop, channel.go:107 -/
def L4 (e0 c3 : Addr) (t15 : W.Sl) (t16 t17 : Int) (w : World) (R : W.Post) : Prop := W.LP Try.prog 46 C7 (Q1 R) [(0, .pointer (some e0)), (3, .pointer (some c3)), (15, t15.v), (16, .int .i64 t16), (17, .int .i64 t17)] w
def KE_L4 (E : W.Env) (w : World) (R : W.Post) : Prop := W.asRef (W.Env.get? E 0) fun e0 => W.asRef (W.Env.get? E 3) fun c3 => W.asSlice (W.Env.get? E 15) fun t15 => W.asInt .i64 (W.Env.get? E 16) fun t16 => W.asInt .i64 (W.Env.get? E 17) fun t17 => L4 e0 c3 t15 t16 t17 w R
theorem KE_L4_ok (R : W.Post) (E : W.Env) (w : World) (h : KE_L4 E w R) : W.LP Try.prog 46 C7 (Q1 R) E w := by
  obtain ⟨e0, hq0, h1⟩ := W.asRef_elim h
  obtain ⟨c3, hq3, h2⟩ := W.asRef_elim h1
  obtain ⟨t15, hq15, h3⟩ := W.asSlice_elim h2
  obtain ⟨t16, hq16, h4⟩ := W.asInt_elim h3
  obtain ⟨t17, hq17, h5⟩ := W.asInt_elim h4
  intro a ha
  exact h5 a (ha.cons hq0 (ha.cons hq3 (ha.cons hq15 (ha.cons hq16 (ha.cons hq17 ha.nil)))))
noncomputable def C9 : Code := W.Code.snd C7
noncomputable def C10 : Code := W.Code.snd C9
noncomputable def C11 : Code := W.Code.snd C10
abbrev Q2 (R : W.Post) : Exit → Act → World → Prop := (Exit.then (W.LoopWP Try.prog C7 (Q1 R)) (Q1 R))
/-- channel.go:107 -/
def S8 (e0 c3 : Addr) (t15 : W.Sl) (t16 t17 : Int) (w : World) (R : W.Post) : Prop :=
  L4 e0 c3 t15 t16 (IntKind.wrap .i64 (t17 + 1)) w R
def KE_S8 (E : W.Env) (w : World) (R : W.Post) : Prop := W.asRef (W.Env.get? E 0) fun e0 => W.asRef (W.Env.get? E 3) fun c3 => W.asSlice (W.Env.get? E 15) fun t15 => W.asInt .i64 (W.Env.get? E 16) fun t16 => W.asInt .i64 (W.Env.get? E 17) fun t17 => S8 e0 c3 t15 t16 t17 w R
theorem KE_S8_ok (R : W.Post) (E : W.Env) (w : World) (h : KE_S8 E w R) : W.WP Try.prog 46 C11 (Q2 R) E w := by
  obtain ⟨e0, hq0, h1⟩ := W.asRef_elim h
  obtain ⟨c3, hq3, h2⟩ := W.asRef_elim h1
  obtain ⟨t15, hq15, h3⟩ := W.asSlice_elim h2
  obtain ⟨t16, hq16, h4⟩ := W.asInt_elim h3
  obtain ⟨t17, hq17, h5⟩ := W.asInt_elim h4
  exact fun a ha => W.WP.at (E := [(0, .pointer (some e0)), (3, .pointer (some c3)), (15, t15.v), (16, .int .i64 t16), (17, .int .i64 t17)]) (W.WP.reg (c := C11) (fun E w => KE_L4 E w R) (by kernel_rfl) (Eq.mp (by kernel_rfl) h5) fun _ _ a hA hK => KE_L4_ok R _ _ hK a hA) (ha.cons hq0 (ha.cons hq3 (ha.cons hq15 (ha.cons hq16 (ha.cons hq17 ha.nil)))))
noncomputable def C12 : Code := W.Code.fst C10
noncomputable def C13 : Code := W.Code.fst C12
noncomputable def C14 : Code := W.Code.snd C13
abbrev Q3 (R : W.Post) : Exit → Act → World → Prop := (Exit.then (Code.wp Try.prog C11 (Exit.then (W.LoopWP Try.prog C7 (Q1 R)) (Q1 R))) (Exit.then (W.LoopWP Try.prog C7 (Q1 R)) (Q1 R)))
abbrev Q4 (R : W.Post) : Exit → Act → World → Prop := (Exit.inBlock 1 (Q3 R))
/-- channel.go:108 -/
def S7 (e0 c3 : Addr) (b5 t15 : W.Sl) (t16 t17 : Int) (w : World) (R : W.Post) : Prop :=
  ∃ t22 : W.Sl, w.drew.cell? (c3.add 2) = some (t22.v) ∧ 
  Calls Try.prog n_slices_Clone_sl_byte_byte #[b5.v] w.drew fun r_ w1 => ∃ t24 : W.Sl, r_ = .returned (t24.v) ∧ 
  w1.cell? (c3.add 2) = some (t22.v) ∧ let w2 := w1.alloc (.cells #[t24.v] ty_sl_uint8)
  w2.cell? (c3.add 2) = some (t22.v) ∧ ∃ (t26 : W.Sl) (w3 : World), Sem.run Try.prog (Builtin.append_ #[ty_sl_sl_uint8, ty_sl_sl_uint8] ty_sl_sl_uint8 #[t22.v, .slice (some (Addr.mk w1.heap.size 0 none)) 1 1]) w2 = .ok (t26.v) w3 ∧ (w3.cell? (c3.add 2)).isSome = true ∧ w3.frozen? (c3.add 2) = false ∧ let w4 := w3.setCell (c3.add 2) (t26.v)
  S8 e0 c3 t15 t16 t17 w4 R
def KE_S7 (E : W.Env) (w : World) (R : W.Post) : Prop := W.asRef (W.Env.get? E 0) fun e0 => W.asRef (W.Env.get? E 3) fun c3 => W.asSlice (W.Env.get? E 5) fun b5 => W.asSlice (W.Env.get? E 15) fun t15 => W.asInt .i64 (W.Env.get? E 16) fun t16 => W.asInt .i64 (W.Env.get? E 17) fun t17 => S7 e0 c3 b5 t15 t16 t17 w R
theorem KE_S7_ok (R : W.Post) (E : W.Env) (w : World) (h : KE_S7 E w R) : W.WP Try.prog 46 C14 (Q4 R) E w := by
  obtain ⟨e0, hq0, h1⟩ := W.asRef_elim h
  obtain ⟨c3, hq3, h2⟩ := W.asRef_elim h1
  obtain ⟨b5, hq5, h3⟩ := W.asSlice_elim h2
  obtain ⟨t15, hq15, h4⟩ := W.asSlice_elim h3
  obtain ⟨t16, hq16, h5⟩ := W.asInt_elim h4
  obtain ⟨t17, hq17, h6⟩ := W.asInt_elim h5
  exact fun a ha => W.WP.at (E := [(0, .pointer (some e0)), (3, .pointer (some c3)), (5, b5.v), (15, t15.v), (16, .int .i64 t16), (17, .int .i64 t17)]) (W.WP.draw (c := C14) [0, 1, 2, 3, 4, 5, 6, 7] (fun E w => KE_S8 E w R) (by kernel_rfl) (Eq.mp (by kernel_rfl) h6) fun _ _ a hA hK => (KE_S8_ok R _ _ hK) a hA) (ha.cons hq0 (ha.cons hq3 (ha.cons hq5 (ha.cons hq15 (ha.cons hq16 (ha.cons hq17 ha.nil))))))
noncomputable def C15 : Code := W.Code.fst C13
/-- channel.go:107 -/
def S6 (e0 c3 : Addr) (t15 : W.Sl) (t16 t17 : Int) (w : World) (R : W.Post) : Prop :=
  (0 : Int) ≤ t17 ∧ t17 < ((t15.n : Nat) : Int) ∧ W.optP t15.a fun t19_p => ∃ t20 : W.Sl, w.cell? (t19_p.add (Int.toNat t17 * 1)) = some (t20.v) ∧ 
  S7 e0 c3 t20 t15 t16 t17 w R
def KE_S6 (E : W.Env) (w : World) (R : W.Post) : Prop := W.asRef (W.Env.get? E 0) fun e0 => W.asRef (W.Env.get? E 3) fun c3 => W.asSlice (W.Env.get? E 15) fun t15 => W.asInt .i64 (W.Env.get? E 16) fun t16 => W.asInt .i64 (W.Env.get? E 17) fun t17 => S6 e0 c3 t15 t16 t17 w R
theorem KE_S6_ok (R : W.Post) (E : W.Env) (w : World) (h : KE_S6 E w R) : W.WP Try.prog 46 C13 (Q4 R) E w := by
  obtain ⟨e0, hq0, h1⟩ := W.asRef_elim h
  obtain ⟨c3, hq3, h2⟩ := W.asRef_elim h1
  obtain ⟨t15, hq15, h3⟩ := W.asSlice_elim h2
  obtain ⟨t16, hq16, h4⟩ := W.asInt_elim h3
  obtain ⟨t17, hq17, h5⟩ := W.asInt_elim h4
  exact fun a ha => W.WP.at (E := [(0, .pointer (some e0)), (3, .pointer (some c3)), (15, t15.v), (16, .int .i64 t16), (17, .int .i64 t17)]) (W.WP.seq (c := C13) (x := C15) (y := C14) (by kernel_rfl) <| W.WP.reg (c := C15) (fun E w => KE_S7 E w R) (by kernel_rfl) (Eq.mp (by kernel_rfl) h5) fun _ _ a hA hK => (KE_S7_ok R _ _ hK) a hA) (ha.cons hq0 (ha.cons hq3 (ha.cons hq15 (ha.cons hq16 (ha.cons hq17 ha.nil)))))
noncomputable def C16 : Code := W.Code.snd C8
noncomputable def C17 : Code := W.Code.fst C16
noncomputable def C18 : Code := W.Code.snd C17
noncomputable def C19 : Code := W.Code.fst C18
noncomputable def C20 : Code := W.Code.fst C19
noncomputable def C21 : Code := W.Code.snd C16
abbrev Q5 (R : W.Post) : Exit → Act → World → Prop := (Exit.then (Code.wp Try.prog C21 (bodyPost Try.prog Try.f24 R)) (bodyPost Try.prog Try.f24 R))
abbrev Q6 (R : W.Post) : Exit → Act → World → Prop := (Exit.inBlock 2 (Q5 R))
/-- the head of the loop, channel.go:111 -/
def L11 (c3 : Addr) (t35 : Value) (w : World) (R : W.Post) : Prop := W.LP Try.prog 46 C20 (Q6 R) [(3, .pointer (some c3)), (35, t35)] w
def KE_L11 (E : W.Env) (w : World) (R : W.Post) : Prop := W.asRef (W.Env.get? E 3) fun c3 => W.asVal (W.Env.get? E 35) fun t35 => L11 c3 t35 w R
theorem KE_L11_ok (R : W.Post) (E : W.Env) (w : World) (h : KE_L11 E w R) : W.LP Try.prog 46 C20 (Q6 R) E w := by
  obtain ⟨c3, hq3, h1⟩ := W.asRef_elim h
  obtain ⟨t35, hq35, h2⟩ := W.asVal_elim h1
  intro a ha
  exact h2 a (ha.cons hq3 (ha.cons hq35 ha.nil))
abbrev Q7 (R : W.Post) : Exit → Act → World → Prop := (bodyPost Try.prog Try.f24 R)
noncomputable def C22 : Code := W.Code.fst C21
noncomputable def C23 : Code := W.Code.snd C21
/-- channel.go:114 -/
def S13 (c3 : Addr) (w : World) (R : W.Post) : Prop :=
  R (.returned (.pointer (some c3))) w
def KE_S13 (E : W.Env) (w : World) (R : W.Post) : Prop := W.asRef (W.Env.get? E 3) fun c3 => S13 c3 w R
theorem KE_S13_ok (R : W.Post) (E : W.Env) (w : World) (h : KE_S13 E w R) : W.WP Try.prog 46 C21 (Q7 R) E w := by
  obtain ⟨c3, hq3, h1⟩ := W.asRef_elim h
  exact fun a ha => W.WP.at (E := [(3, .pointer (some c3))]) (W.WP.seq (c := C21) (x := C22) (y := C23) (by kernel_rfl) <| W.WP.reg (c := C22) (fun E w => W.retVC Try.prog Try.f24 E w (fun v => R (.returned v) w)) (by kernel_rfl) (Eq.mp (by kernel_rfl) h1) fun _ _ a hA hK => (W.WP.ret (c := C23) (by kernel_rfl) fun a hA => W.retVC_sound hA hK) a hA) (ha.cons hq3 ha.nil)
noncomputable def C24 : Code := W.Code.snd C20
noncomputable def C25 : Code := W.Code.snd C24
noncomputable def C26 : Code := W.Code.fst C25
noncomputable def C27 : Code := W.Code.snd C26
abbrev Q8 (R : W.Post) : Exit → Act → World → Prop := (Exit.then (W.LoopWP Try.prog C20 (Q6 R)) (Q6 R))
abbrev Q9 (R : W.Post) : Exit → Act → World → Prop := (Exit.inBlock 3 (Q8 R))
/-- channel.go:112 -/
def S15 (c3 : Addr) (n6 b7 t35 : Value) (w : World) (R : W.Post) : Prop :=
  ∃ t42 : Option Nat, w.drew.cell? (c3.add 4) = some (.map t42) ∧ 
  Calls Try.prog n_slices_Clone_sl_byte_byte #[b7] w.drew fun r_ w1 => ∃ t45 : W.Sl, r_ = .returned (t45.v) ∧ 
  w1.cell? (c3.add 4) = some (.map t42) ∧ ∃ w2, Sem.run Try.prog (Instr.mapUpdate ty_map_int_sl_uint8 (.map t42) (n6) (t45.v)) w1 = .ok () w2 ∧ L11 c3 (t35 : Value) w2 R
def KE_S15 (E : W.Env) (w : World) (R : W.Post) : Prop := W.asRef (W.Env.get? E 3) fun c3 => W.asVal (W.Env.get? E 6) fun n6 => W.asVal (W.Env.get? E 7) fun b7 => W.asVal (W.Env.get? E 35) fun t35 => S15 c3 n6 b7 t35 w R
theorem KE_S15_ok (R : W.Post) (E : W.Env) (w : World) (h : KE_S15 E w R) : W.WP Try.prog 46 C27 (Q9 R) E w := by
  obtain ⟨c3, hq3, h1⟩ := W.asRef_elim h
  obtain ⟨n6, hq6, h2⟩ := W.asVal_elim h1
  obtain ⟨b7, hq7, h3⟩ := W.asVal_elim h2
  obtain ⟨t35, hq35, h4⟩ := W.asVal_elim h3
  exact fun a ha => W.WP.at (E := [(3, .pointer (some c3)), (6, n6), (7, b7), (35, t35)]) (W.WP.draw (c := C27) [0, 1, 2, 3, 4, 5] (fun E w => KE_L11 E w R) (by kernel_rfl) (Eq.mp (by kernel_rfl) h4) fun _ _ a hA hK => KE_L11_ok R _ _ hK a hA) (ha.cons hq3 (ha.cons hq6 (ha.cons hq7 (ha.cons hq35 ha.nil))))
noncomputable def C28 : Code := W.Code.fst C26
/-- channel.go:111 -/
def S14 (c3 : Addr) (t35 : Value) (w : World) (R : W.Post) : Prop :=
  ∃ (t38_k t38_v : Value) (w1 : World), Sem.run Try.prog (Instr.entry (t35)) w = .ok (.tuple #[t38_k, t38_v]) w1 ∧ S15 c3 (t38_k : Value) (t38_v : Value) (t35 : Value) w1 R
def KE_S14 (E : W.Env) (w : World) (R : W.Post) : Prop := W.asRef (W.Env.get? E 3) fun c3 => W.asVal (W.Env.get? E 35) fun t35 => S14 c3 t35 w R
theorem KE_S14_ok (R : W.Post) (E : W.Env) (w : World) (h : KE_S14 E w R) : W.WP Try.prog 46 C26 (Q9 R) E w := by
  obtain ⟨c3, hq3, h1⟩ := W.asRef_elim h
  obtain ⟨t35, hq35, h2⟩ := W.asVal_elim h1
  exact fun a ha => W.WP.at (E := [(3, .pointer (some c3)), (35, t35)]) (W.WP.seq (c := C26) (x := C28) (y := C27) (by kernel_rfl) <| W.WP.reg (c := C28) (fun E w => KE_S15 E w R) (by kernel_rfl) (Eq.mp (by kernel_rfl) h2) fun _ _ a hA hK => (KE_S15_ok R _ _ hK) a hA) (ha.cons hq3 (ha.cons hq35 ha.nil))
noncomputable def C29 : Code := W.Code.fst C20
noncomputable def C30 : Code := W.Code.fst C24
noncomputable def C31 : Code := W.Code.fst C30
noncomputable def C32 : Code := W.Code.snd C30
/-- channel.go:111 -/
def S12 (c3 : Addr) (t35 : Value) (w : World) (R : W.Post) : Prop :=
  ((∃ w1 : World, Sem.run Try.prog (Instr.next (t35) false ty_) w = .ok (.tuple #[.bool false]) w1 ∧ S13 c3 w1 R) ∨ (∃ (t36_k t36_v : Value) (w1 : World), Sem.run Try.prog (Instr.next (t35) false ty_) w = .ok (.tuple #[.bool true, t36_k, t36_v]) w1 ∧ S14 c3 (t35 : Value) w1 R))
def KE_S12 (E : W.Env) (w : World) (R : W.Post) : Prop := W.asRef (W.Env.get? E 3) fun c3 => W.asVal (W.Env.get? E 35) fun t35 => S12 c3 t35 w R
theorem KE_S12_ok (R : W.Post) (E : W.Env) (w : World) (h : KE_S12 E w R) : W.WP Try.prog 46 C20 (Q8 R) E w := by
  obtain ⟨c3, hq3, h1⟩ := W.asRef_elim h
  obtain ⟨t35, hq35, h2⟩ := W.asVal_elim h1
  exact fun a ha => W.WP.at (E := [(3, .pointer (some c3)), (35, t35)]) (W.WP.seq (c := C20) (x := C29) (y := C24) (by kernel_rfl) <| W.WP.reg (c := C29) (fun E w => W.condK (W.Env.val E (.tmp 37)) (KE_S14 E w R) (KE_S13 E w R)) (by kernel_rfl) (Eq.mp (by kernel_rfl) h2) fun _ _ a hA hK => (W.WP.seq (c := C24) (x := C30) (y := C25) (by kernel_rfl) (W.WP.condK (c := C30) (x := C31) (y := C32) (o := .tmp 37) (by kernel_rfl) (fun hK => (W.WP.skip (c := C31) (by kernel_rfl) fun a hA => (W.WP.block (c := C25) (x := C26) (id := 3) (by kernel_rfl) (KE_S14_ok R _ _ hK)) a hA)) (fun hK => (W.WP.exit (c := C32) (id := 2) (by kernel_rfl) fun a hA => (KE_S13_ok R _ _ hK) a hA)) hK)) a hA) (ha.cons hq3 (ha.cons hq35 ha.nil))
theorem L11_step (c3 : Addr) (t35 : Value) (w : World) (R : W.Post) (h : S12 c3 (t35 : Value) w R) : L11 c3 t35 w R :=
  W.LP.step (c := C20) (E := [(3, .pointer (some c3)), (35, t35)]) (w := w) (KE_S12_ok R _ _ (Eq.mp (by kernel_rfl) h))
noncomputable def C33 : Code := W.Code.fst C17
/-- channel.go:111 -/
def S10 (e0 c3 : Addr) (w : World) (R : W.Post) : Prop :=
  ∃ t34 : Option Nat, w.cell? (e0.add 4) = some (.map t34) ∧ 
  ∃ (t35 : Value) (w1 : World), Sem.run Try.prog (Instr.range ty_map_int_sl_uint8 (.map t34)) w = .ok t35 w1 ∧ L11 c3 (t35 : Value) w1 R
def KE_S10 (E : W.Env) (w : World) (R : W.Post) : Prop := W.asRef (W.Env.get? E 0) fun e0 => W.asRef (W.Env.get? E 3) fun c3 => S10 e0 c3 w R
theorem KE_S10_ok (R : W.Post) (E : W.Env) (w : World) (h : KE_S10 E w R) : W.WP Try.prog 46 C17 (Q5 R) E w := by
  obtain ⟨e0, hq0, h1⟩ := W.asRef_elim h
  obtain ⟨c3, hq3, h2⟩ := W.asRef_elim h1
  exact fun a ha => W.WP.at (E := [(0, .pointer (some e0)), (3, .pointer (some c3))]) (W.WP.seq (c := C17) (x := C33) (y := C18) (by kernel_rfl) <| W.WP.reg (c := C33) (fun E w => KE_L11 E w R) (by kernel_rfl) (Eq.mp (by kernel_rfl) h2) fun _ _ a hA hK => (W.WP.block (c := C18) (x := C19) (id := 2) (by kernel_rfl) (W.WP.loop (c := C19) (x := C20) (by kernel_rfl) (KE_L11_ok R _ _ hK))) a hA) (ha.cons hq0 (ha.cons hq3 ha.nil))
noncomputable def C34 : Code := W.Code.fst C8
/-- channel.go:110 -/
def S9 (e0 c3 : Addr) (w : World) (R : W.Post) : Prop :=
  let w1 := w.alloc (.map #[] 0)
  (w1.cell? (c3.add 4)).isSome = true ∧ w1.frozen? (c3.add 4) = false ∧ let w2 := w1.setCell (c3.add 4) (.map (some w.heap.size))
  S10 e0 c3 w2 R
def KE_S9 (E : W.Env) (w : World) (R : W.Post) : Prop := W.asRef (W.Env.get? E 0) fun e0 => W.asRef (W.Env.get? E 3) fun c3 => S9 e0 c3 w R
theorem KE_S9_ok (R : W.Post) (E : W.Env) (w : World) (h : KE_S9 E w R) : W.WP Try.prog 46 C8 (Q7 R) E w := by
  obtain ⟨e0, hq0, h1⟩ := W.asRef_elim h
  obtain ⟨c3, hq3, h2⟩ := W.asRef_elim h1
  exact fun a ha => W.WP.at (E := [(0, .pointer (some e0)), (3, .pointer (some c3))]) (W.WP.seq (c := C8) (x := C34) (y := C16) (by kernel_rfl) <| W.WP.reg (c := C34) (fun E w => KE_S10 E w R) (by kernel_rfl) (Eq.mp (by kernel_rfl) h2) fun _ _ a hA hK => (W.WP.seq (c := C16) (x := C17) (y := C21) (by kernel_rfl) (KE_S10_ok R _ _ hK)) a hA) (ha.cons hq0 (ha.cons hq3 ha.nil))
noncomputable def C35 : Code := W.Code.fst C7
noncomputable def C36 : Code := W.Code.fst C9
noncomputable def C37 : Code := W.Code.fst C36
noncomputable def C38 : Code := W.Code.snd C36
/-- channel.go:107 -/
def S5 (e0 c3 : Addr) (t15 : W.Sl) (t16 t17 : Int) (w : World) (R : W.Post) : Prop :=
  W.sel (decide (t17 < t16)) (S6 e0 c3 t15 t16 t17 w R) (S9 e0 c3 w R)
def KE_S5 (E : W.Env) (w : World) (R : W.Post) : Prop := W.asRef (W.Env.get? E 0) fun e0 => W.asRef (W.Env.get? E 3) fun c3 => W.asSlice (W.Env.get? E 15) fun t15 => W.asInt .i64 (W.Env.get? E 16) fun t16 => W.asInt .i64 (W.Env.get? E 17) fun t17 => S5 e0 c3 t15 t16 t17 w R
theorem KE_S5_ok (R : W.Post) (E : W.Env) (w : World) (h : KE_S5 E w R) : W.WP Try.prog 46 C7 (Q2 R) E w := by
  obtain ⟨e0, hq0, h1⟩ := W.asRef_elim h
  obtain ⟨c3, hq3, h2⟩ := W.asRef_elim h1
  obtain ⟨t15, hq15, h3⟩ := W.asSlice_elim h2
  obtain ⟨t16, hq16, h4⟩ := W.asInt_elim h3
  obtain ⟨t17, hq17, h5⟩ := W.asInt_elim h4
  exact fun a ha => W.WP.at (E := [(0, .pointer (some e0)), (3, .pointer (some c3)), (15, t15.v), (16, .int .i64 t16), (17, .int .i64 t17)]) (W.WP.seq (c := C7) (x := C35) (y := C9) (by kernel_rfl) <| W.WP.reg (c := C35) (fun E w => W.condK (W.Env.val E (.tmp 18)) (KE_S6 E w R) (KE_S9 E w R)) (by kernel_rfl) (Eq.mp (by kernel_rfl) h5) fun _ _ a hA hK => (W.WP.seq (c := C9) (x := C36) (y := C10) (by kernel_rfl) (W.WP.condK (c := C36) (x := C37) (y := C38) (o := .tmp 18) (by kernel_rfl) (fun hK => (W.WP.skip (c := C37) (by kernel_rfl) fun a hA => (W.WP.seq (c := C10) (x := C12) (y := C11) (by kernel_rfl) (W.WP.block (c := C12) (x := C13) (id := 1) (by kernel_rfl) (KE_S6_ok R _ _ hK))) a hA)) (fun hK => (W.WP.exit (c := C38) (id := 0) (by kernel_rfl) fun a hA => (KE_S9_ok R _ _ hK) a hA)) hK)) a hA) (ha.cons hq0 (ha.cons hq3 (ha.cons hq15 (ha.cons hq16 (ha.cons hq17 ha.nil)))))
theorem L4_step (e0 c3 : Addr) (t15 : W.Sl) (t16 t17 : Int) (w : World) (R : W.Post) (h : S5 e0 c3 t15 t16 t17 w R) : L4 e0 c3 t15 t16 t17 w R :=
  W.LP.step (c := C7) (E := [(0, .pointer (some e0)), (3, .pointer (some c3)), (15, t15.v), (16, .int .i64 t16), (17, .int .i64 t17)]) (w := w) (KE_S5_ok R _ _ (Eq.mp (by kernel_rfl) h))
noncomputable def C39 : Code := W.Code.fst C4
/-- channel.go:107 -/
def S3 (e0 c3 : Addr) (w : World) (R : W.Post) : Prop :=
  ∃ t15 : W.Sl, w.cell? (e0.add 2) = some (t15.v) ∧ 
  L4 e0 c3 t15 ((t15.n : Nat) : Int) 0 w R
def KE_S3 (E : W.Env) (w : World) (R : W.Post) : Prop := W.asRef (W.Env.get? E 0) fun e0 => W.asRef (W.Env.get? E 3) fun c3 => S3 e0 c3 w R
theorem KE_S3_ok (R : W.Post) (E : W.Env) (w : World) (h : KE_S3 E w R) : W.WP Try.prog 46 C4 (Q0 R) E w := by
  obtain ⟨e0, hq0, h1⟩ := W.asRef_elim h
  obtain ⟨c3, hq3, h2⟩ := W.asRef_elim h1
  exact fun a ha => W.WP.at (E := [(0, .pointer (some e0)), (3, .pointer (some c3))]) (W.WP.seq (c := C4) (x := C39) (y := C5) (by kernel_rfl) <| W.WP.reg (c := C39) (fun E w => KE_L4 E w R) (by kernel_rfl) (Eq.mp (by kernel_rfl) h2) fun _ _ a hA hK => (W.WP.block (c := C5) (x := C6) (id := 0) (by kernel_rfl) (W.WP.loop (c := C6) (x := C7) (by kernel_rfl) (KE_L4_ok R _ _ hK))) a hA) (ha.cons hq0 (ha.cons hq3 ha.nil))
noncomputable def C40 : Code := W.Code.fst C2
/-- channel.go:106 -/
def S2 (e0 c3 : Addr) (w : World) (R : W.Post) : Prop :=
  (w.cell? (c3.add 2)).isSome = true ∧ w.frozen? (c3.add 2) = false ∧ let w1 := w.setCell (c3.add 2) (.slice none 0 0)
  S3 e0 c3 w1 R
def KE_S2 (E : W.Env) (w : World) (R : W.Post) : Prop := W.asRef (W.Env.get? E 0) fun e0 => W.asRef (W.Env.get? E 3) fun c3 => S2 e0 c3 w R
theorem KE_S2_ok (R : W.Post) (E : W.Env) (w : World) (h : KE_S2 E w R) : W.WP Try.prog 46 C2 (Q7 R) E w := by
  obtain ⟨e0, hq0, h1⟩ := W.asRef_elim h
  obtain ⟨c3, hq3, h2⟩ := W.asRef_elim h1
  exact fun a ha => W.WP.at (E := [(0, .pointer (some e0)), (3, .pointer (some c3))]) (W.WP.seq (c := C2) (x := C40) (y := C3) (by kernel_rfl) <| W.WP.reg (c := C40) (fun E w => KE_S3 E w R) (by kernel_rfl) (Eq.mp (by kernel_rfl) h2) fun _ _ a hA hK => (W.WP.seq (c := C3) (x := C4) (y := C8) (by kernel_rfl) (KE_S3_ok R _ _ hK)) a hA) (ha.cons hq0 (ha.cons hq3 ha.nil))
noncomputable def C41 : Code := W.Code.fst C1
/-- channel.go:105 -/
def S1 (e0 : Addr) (w : World) (R : W.Post) : Prop :=
  ∃ t10_0 : Int, ∃ t10_1 : Int, ∃ t10_2 : W.Sl, ∃ t10_3 : Int, ∃ t10_4 : Option Nat, ∃ t10_5 : Bool, w.cell? (e0.add 0) = some (.int .i64 t10_0) ∧ w.cell? (e0.add 1) = some (.int .i64 t10_1) ∧ w.cell? (e0.add 2) = some (t10_2.v) ∧ w.cell? (e0.add 3) = some (.int .i64 t10_3) ∧ w.cell? (e0.add 4) = some (.map t10_4) ∧ w.cell? (e0.add 5) = some (.bool t10_5) ∧ 
  let w1 := w.alloc (.cells #[.int .i64 0, .int .i64 0, .slice none 0 0, .int .i64 0, .map none, .bool false] ty_channel_End)
  (w1.cell? (Addr.mk w.heap.size 0 none)).isSome = true ∧ w1.frozen? (Addr.mk w.heap.size 0 none) = false ∧ let w2 := w1.setCell (Addr.mk w.heap.size 0 none) (.int .i64 t10_0)
  (w2.cell? ((Addr.mk w.heap.size 0 none).add 1)).isSome = true ∧ w2.frozen? ((Addr.mk w.heap.size 0 none).add 1) = false ∧ let w3 := w2.setCell ((Addr.mk w.heap.size 0 none).add 1) (.int .i64 t10_1)
  (w3.cell? ((Addr.mk w.heap.size 0 none).add 2)).isSome = true ∧ w3.frozen? ((Addr.mk w.heap.size 0 none).add 2) = false ∧ let w4 := w3.setCell ((Addr.mk w.heap.size 0 none).add 2) (t10_2.v)
  (w4.cell? ((Addr.mk w.heap.size 0 none).add 3)).isSome = true ∧ w4.frozen? ((Addr.mk w.heap.size 0 none).add 3) = false ∧ let w5 := w4.setCell ((Addr.mk w.heap.size 0 none).add 3) (.int .i64 t10_3)
  (w5.cell? ((Addr.mk w.heap.size 0 none).add 4)).isSome = true ∧ w5.frozen? ((Addr.mk w.heap.size 0 none).add 4) = false ∧ let w6 := w5.setCell ((Addr.mk w.heap.size 0 none).add 4) (.map t10_4)
  (w6.cell? ((Addr.mk w.heap.size 0 none).add 5)).isSome = true ∧ w6.frozen? ((Addr.mk w.heap.size 0 none).add 5) = false ∧ let w7 := w6.setCell ((Addr.mk w.heap.size 0 none).add 5) (.bool t10_5)
  S2 e0 (Addr.mk w.heap.size 0 none) w7 R
def KE_S1 (E : W.Env) (w : World) (R : W.Post) : Prop := W.asRef (W.Env.get? E 0) fun e0 => S1 e0 w R
theorem KE_S1_ok (R : W.Post) (E : W.Env) (w : World) (h : KE_S1 E w R) : W.WP Try.prog 46 C1 (Q7 R) E w := by
  obtain ⟨e0, hq0, h1⟩ := W.asRef_elim h
  exact fun a ha => W.WP.at (E := [(0, .pointer (some e0))]) (W.WP.seq (c := C1) (x := C41) (y := C2) (by kernel_rfl) <| W.WP.reg (c := C41) (fun E w => KE_S2 E w R) (by kernel_rfl) (Eq.mp (by kernel_rfl) h1) fun _ _ a hA hK => (KE_S2_ok R _ _ hK) a hA) (ha.cons hq0 ha.nil)
noncomputable def C42 : Code := W.Code.fst C0
/-- channel.go:104 -/
def S0 (e0 : Addr) (w : World) (R : W.Post) : Prop :=
  S1 e0 w R
def KE_S0 (E : W.Env) (w : World) (R : W.Post) : Prop := W.asRef (W.Env.get? E 0) fun e0 => S0 e0 w R
theorem KE_S0_ok (R : W.Post) (E : W.Env) (w : World) (h : KE_S0 E w R) : W.WP Try.prog 46 C0 (Q7 R) E w := by
  obtain ⟨e0, hq0, h1⟩ := W.asRef_elim h
  exact fun a ha => W.WP.at (E := [(0, .pointer (some e0))]) (W.WP.seq (c := C0) (x := C42) (y := C1) (by kernel_rfl) <| W.WP.reg (c := C42) (fun E w => KE_S1 E w R) (by kernel_rfl) (Eq.mp (by kernel_rfl) h1) fun _ _ a hA hK => (KE_S1_ok R _ _ hK) a hA) (ha.cons hq0 ha.nil)
/-- (*enthymeme/channel.End).Copy -/
theorem ok (e0 : Addr) (w : World) (R : W.Post) (h : S0 e0 w R) : Calls Try.prog n_channel_End_Copy #[.pointer (some e0)] w R :=
  W.calls_of_WP' (fn := Try.f24) (c := C0) (args := [.pointer (some e0)]) (by kernel_rfl) (by kernel_rfl) (by kernel_rfl) (KE_S0_ok R _ _ (Eq.mp (by kernel_rfl) h))
end channel_End_Copy
end Go.Proofs.Ytellmncndfmbbaa

/- Printed by a program of ours (vcgen.py) from the dump: the conditions of the functions, and that they suffice. -/
import Derived.Test.YtellmncndfmbbaaV
set_option linter.unusedVariables false
set_option maxRecDepth 100000
namespace Go.Proofs.Ytellmncndfmbbaa
open Go
namespace enthymemeref38_New
noncomputable def C0 : Code := (Try.f9.body).getD .skip
noncomputable def C1 : Code := W.Code.snd C0
abbrev Q0 (R : W.Post) : Exit → Act → World → Prop := (bodyPost Try.prog Try.f9 R)
noncomputable def C2 : Code := W.Code.fst C1
noncomputable def C3 : Code := W.Code.snd C1
/-- ref.go:34 -/
def S1 (window0 : Int) (w : World) (R : W.Post) : Prop :=
  let w1 := w.alloc (.cells #[.int .i64 window0, .slice none 0 0, .int .i64 0, .int .i64 0, .slice none 0 0, .bool false] ty_enthymemeref38_End)
  W.sel (decide (window0 ≥ 1)) (R (.returned (.tuple #[.pointer (some (Addr.mk w.heap.size 0 none)), .bool (decide (window0 ≤ 16))])) w1) (R (.returned (.tuple #[.pointer (some (Addr.mk w.heap.size 0 none)), .bool false])) w1)
def KE_S1 (E : W.Env) (w : World) (R : W.Post) : Prop := W.asInt .i64 (W.Env.get? E 0) fun window0 => S1 window0 w R
theorem KE_S1_ok (R : W.Post) (E : W.Env) (w : World) (h : KE_S1 E w R) : W.WP Try.prog 13 C1 (Q0 R) E w := by
  obtain ⟨window0, hq0, h1⟩ := W.asInt_elim h
  exact fun a ha => W.WP.at (E := [(0, .int .i64 window0)]) (W.WP.seq (c := C1) (x := C2) (y := C3) (by kernel_rfl) <| W.WP.reg (c := C2) (fun E w => W.retVC Try.prog Try.f9 E w (fun v => R (.returned v) w)) (by kernel_rfl) (Eq.mp (by kernel_rfl) h1) fun _ _ a hA hK => (W.WP.ret (c := C3) (by kernel_rfl) fun a hA => W.retVC_sound hA hK) a hA) (ha.cons hq0 ha.nil)
noncomputable def C4 : Code := W.Code.fst C0
/-- ref.go:34 -/
def S0 (window0 : Int) (w : World) (R : W.Post) : Prop :=
  S1 window0 w R
def KE_S0 (E : W.Env) (w : World) (R : W.Post) : Prop := W.asInt .i64 (W.Env.get? E 0) fun window0 => S0 window0 w R
theorem KE_S0_ok (R : W.Post) (E : W.Env) (w : World) (h : KE_S0 E w R) : W.WP Try.prog 13 C0 (Q0 R) E w := by
  obtain ⟨window0, hq0, h1⟩ := W.asInt_elim h
  exact fun a ha => W.WP.at (E := [(0, .int .i64 window0)]) (W.WP.seq (c := C0) (x := C4) (y := C1) (by kernel_rfl) <| W.WP.reg (c := C4) (fun E w => KE_S1 E w R) (by kernel_rfl) (Eq.mp (by kernel_rfl) h1) fun _ _ a hA hK => (KE_S1_ok R _ _ hK) a hA) (ha.cons hq0 ha.nil)
/-- enthymeme/enthymemeref38.New -/
theorem ok (window0 : Int) (w : World) (R : W.Post) (h : S0 window0 w R) : Calls Try.prog n_enthymemeref38_New #[.int .i64 window0] w R :=
  W.calls_of_WP' (fn := Try.f9) (c := C0) (args := [.int .i64 window0]) (by kernel_rfl) (by kernel_rfl) (by kernel_rfl) (KE_S0_ok R _ _ (Eq.mp (by kernel_rfl) h))
end enthymemeref38_New
namespace enthymemeref38_End_Send
noncomputable def C0 : Code := (Try.f12.body).getD .skip
noncomputable def C1 : Code := W.Code.snd C0
noncomputable def C2 : Code := W.Code.fst C1
noncomputable def C3 : Code := W.Code.snd C2
noncomputable def C4 : Code := W.Code.fst C3
noncomputable def C5 : Code := W.Code.snd C1
abbrev Q0 (R : W.Post) : Exit → Act → World → Prop := (Exit.then (Code.wp Try.prog C5 (bodyPost Try.prog Try.f12 R)) (bodyPost Try.prog Try.f12 R))
noncomputable def C6 : Code := W.Code.fst C4
noncomputable def C7 : Code := W.Code.snd C4
/-- ref.go:39 -/
def S2  (w : World) (R : W.Post) : Prop :=
  R (.returned (.int .i64 4)) w
def KE_S2 (E : W.Env) (w : World) (R : W.Post) : Prop := S2  w R
theorem KE_S2_ok (R : W.Post) (E : W.Env) (w : World) (h : KE_S2 E w R) : W.WP Try.prog 31 C4 (Q0 R) E w := by
  exact fun a ha => W.WP.at (E := []) (W.WP.seq (c := C4) (x := C6) (y := C7) (by kernel_rfl) <| W.WP.reg (c := C6) (fun E w => W.retVC Try.prog Try.f12 E w (fun v => R (.returned v) w)) (by kernel_rfl) (Eq.mp (by kernel_rfl) h) fun _ _ a hA hK => (W.WP.ret (c := C7) (by kernel_rfl) fun a hA => W.retVC_sound hA hK) a hA) ha.nil
noncomputable def C8 : Code := W.Code.snd C5
abbrev Q1 (R : W.Post) : Exit → Act → World → Prop := (bodyPost Try.prog Try.f12 R)
noncomputable def C9 : Code := W.Code.fst C8
noncomputable def C10 : Code := W.Code.snd C8
/-- ref.go:42 -/
def S4  (w : World) (R : W.Post) : Prop :=
  R (.returned (.int .i64 0)) w
def KE_S4 (E : W.Env) (w : World) (R : W.Post) : Prop := S4  w R
theorem KE_S4_ok (R : W.Post) (E : W.Env) (w : World) (h : KE_S4 E w R) : W.WP Try.prog 31 C8 (Q1 R) E w := by
  exact fun a ha => W.WP.at (E := []) (W.WP.seq (c := C8) (x := C9) (y := C10) (by kernel_rfl) <| W.WP.reg (c := C9) (fun E w => W.retVC Try.prog Try.f12 E w (fun v => R (.returned v) w)) (by kernel_rfl) (Eq.mp (by kernel_rfl) h) fun _ _ a hA hK => (W.WP.ret (c := C10) (by kernel_rfl) fun a hA => W.retVC_sound hA hK) a hA) ha.nil
noncomputable def C11 : Code := W.Code.fst C5
/-- ref.go:41 -/
def S3 (e0 : Addr) (b1 : W.Sl) (w : World) (R : W.Post) : Prop :=
  ∃ t25 : W.Sl, w.cell? (e0.add 1) = some (t25.v) ∧ 
  let w1 := w.alloc (.cells #[b1.v] ty_sl_uint8)
  ∃ (t28 : W.Sl) (w2 : World), Sem.run Try.prog (Builtin.append_ #[ty_sl_sl_uint8, ty_sl_sl_uint8] ty_sl_sl_uint8 #[t25.v, .slice (some (Addr.mk w.heap.size 0 none)) 1 1]) w1 = .ok (t28.v) w2 ∧ (w2.cell? (e0.add 1)).isSome = true ∧ w2.frozen? (e0.add 1) = false ∧ let w3 := w2.setCell (e0.add 1) (t28.v)
  S4  w3 R
def KE_S3 (E : W.Env) (w : World) (R : W.Post) : Prop := W.asRef (W.Env.get? E 0) fun e0 => W.asSlice (W.Env.get? E 1) fun b1 => S3 e0 b1 w R
theorem KE_S3_ok (R : W.Post) (E : W.Env) (w : World) (h : KE_S3 E w R) : W.WP Try.prog 31 C5 (Q1 R) E w := by
  obtain ⟨e0, hq0, h1⟩ := W.asRef_elim h
  obtain ⟨b1, hq1, h2⟩ := W.asSlice_elim h1
  exact fun a ha => W.WP.at (E := [(0, .pointer (some e0)), (1, b1.v)]) (W.WP.seq (c := C5) (x := C11) (y := C8) (by kernel_rfl) <| W.WP.reg (c := C11) (fun E w => KE_S4 E w R) (by kernel_rfl) (Eq.mp (by kernel_rfl) h2) fun _ _ a hA hK => (KE_S4_ok R _ _ hK) a hA) (ha.cons hq0 (ha.cons hq1 ha.nil))
noncomputable def C12 : Code := W.Code.fst C2
noncomputable def C13 : Code := W.Code.snd C3
/-- ref.go:38 -/
def S1 (e0 : Addr) (b1 : W.Sl) (w : World) (R : W.Post) : Prop :=
  W.sel (decide (((b1.n : Nat) : Int) > 65536)) (S2  w.drew R) (∃ t12 : W.Sl, w.drew.cell? (e0.add 1) = some (t12.v) ∧ 
  ∃ t17 : Int, w.drew.cell? (e0.add 2) = some (.int .i64 t17) ∧ 
  W.sel (decide ((IntKind.wrap .i64 (((t12.n : Nat) : Int) - t17)) ≥ 1000)) (S2  w.drew R) (S3 e0 b1 w.drew R))
def KE_S1 (E : W.Env) (w : World) (R : W.Post) : Prop := W.asRef (W.Env.get? E 0) fun e0 => W.asSlice (W.Env.get? E 1) fun b1 => S1 e0 b1 w R
theorem KE_S1_ok (R : W.Post) (E : W.Env) (w : World) (h : KE_S1 E w R) : W.WP Try.prog 31 C2 (Q0 R) E w := by
  obtain ⟨e0, hq0, h1⟩ := W.asRef_elim h
  obtain ⟨b1, hq1, h2⟩ := W.asSlice_elim h1
  exact fun a ha => W.WP.at (E := [(0, .pointer (some e0)), (1, b1.v)]) (W.WP.seq (c := C2) (x := C12) (y := C3) (by kernel_rfl) <| W.WP.draw (c := C12) [0, 1, 2, 3, 4, 5, 6, 7, 8, 9, 10, 11, 12, 13, 14, 15] (fun E w => W.condK (W.Env.val E (.tmp 20)) (KE_S2 E w R) (KE_S3 E w R)) (by kernel_rfl) (Eq.mp (by kernel_rfl) h2) fun _ _ a hA hK => (W.WP.condK (c := C3) (x := C4) (y := C13) (o := .tmp 20) (by kernel_rfl) (fun hK => (KE_S2_ok R _ _ hK)) (fun hK => (W.WP.skip (c := C13) (by kernel_rfl) fun a hA => (KE_S3_ok R _ _ hK) a hA)) hK) a hA) (ha.cons hq0 (ha.cons hq1 ha.nil))
noncomputable def C14 : Code := W.Code.fst C0
/-- ref.go:37 -/
def S0 (e0 : Addr) (b1 : W.Sl) (w : World) (R : W.Post) : Prop :=
  S1 e0 b1 w R
def KE_S0 (E : W.Env) (w : World) (R : W.Post) : Prop := W.asRef (W.Env.get? E 0) fun e0 => W.asSlice (W.Env.get? E 1) fun b1 => S0 e0 b1 w R
theorem KE_S0_ok (R : W.Post) (E : W.Env) (w : World) (h : KE_S0 E w R) : W.WP Try.prog 31 C0 (Q1 R) E w := by
  obtain ⟨e0, hq0, h1⟩ := W.asRef_elim h
  obtain ⟨b1, hq1, h2⟩ := W.asSlice_elim h1
  exact fun a ha => W.WP.at (E := [(0, .pointer (some e0)), (1, b1.v)]) (W.WP.seq (c := C0) (x := C14) (y := C1) (by kernel_rfl) <| W.WP.reg (c := C14) (fun E w => KE_S1 E w R) (by kernel_rfl) (Eq.mp (by kernel_rfl) h2) fun _ _ a hA hK => (W.WP.seq (c := C1) (x := C2) (y := C5) (by kernel_rfl) (KE_S1_ok R _ _ hK)) a hA) (ha.cons hq0 (ha.cons hq1 ha.nil))
/-- (*enthymeme/enthymemeref38.End).Send -/
theorem ok (e0 : Addr) (b1 : W.Sl) (w : World) (R : W.Post) (h : S0 e0 b1 w R) : Calls Try.prog n_enthymemeref38_End_Send #[.pointer (some e0), b1.v] w R :=
  W.calls_of_WP' (fn := Try.f12) (c := C0) (args := [.pointer (some e0), b1.v]) (by kernel_rfl) (by kernel_rfl) (by kernel_rfl) (KE_S0_ok R _ _ (Eq.mp (by kernel_rfl) h))
end enthymemeref38_End_Send
namespace enthymemeref38_End_Out
noncomputable def C0 : Code := (Try.f14.body).getD .skip
noncomputable def C1 : Code := W.Code.snd C0
noncomputable def C2 : Code := W.Code.snd C1
noncomputable def C3 : Code := W.Code.fst C2
noncomputable def C4 : Code := W.Code.snd C3
noncomputable def C5 : Code := W.Code.fst C4
noncomputable def C6 : Code := W.Code.fst C5
noncomputable def C7 : Code := W.Code.snd C2
abbrev Q0 (R : W.Post) : Exit → Act → World → Prop := (Exit.then (Code.wp Try.prog C7 (bodyPost Try.prog Try.f14 R)) (bodyPost Try.prog Try.f14 R))
abbrev Q1 (R : W.Post) : Exit → Act → World → Prop := (Exit.inBlock 0 (Q0 R))
/-- the head of the loop, ref.go:48 -/
def L3 (e0 : Addr) (out3 : W.Sl) (i4 : Int) (w : World) (R : W.Post) : Prop := W.LP Try.prog 69 C6 (Q1 R) [(0, .pointer (some e0)), (3, out3.v), (4, .int .i64 i4)] w
def KE_L3 (E : W.Env) (w : World) (R : W.Post) : Prop := W.asRef (W.Env.get? E 0) fun e0 => W.asSlice (W.Env.get? E 3) fun out3 => W.asInt .i64 (W.Env.get? E 4) fun i4 => L3 e0 out3 i4 w R
theorem KE_L3_ok (R : W.Post) (E : W.Env) (w : World) (h : KE_L3 E w R) : W.LP Try.prog 69 C6 (Q1 R) E w := by
  obtain ⟨e0, hq0, h1⟩ := W.asRef_elim h
  obtain ⟨out3, hq3, h2⟩ := W.asSlice_elim h1
  obtain ⟨i4, hq4, h3⟩ := W.asInt_elim h2
  intro a ha
  exact h3 a (ha.cons hq0 (ha.cons hq3 (ha.cons hq4 ha.nil)))
noncomputable def C8 : Code := W.Code.snd C6
noncomputable def C9 : Code := W.Code.snd C8
abbrev Q2 (R : W.Post) : Exit → Act → World → Prop := (Exit.then (W.LoopWP Try.prog C6 (Q1 R)) (Q1 R))
/-- ref.go:48 -/
def S6 (e0 : Addr) (out3 : W.Sl) (i4 : Int) (w : World) (R : W.Post) : Prop :=
  L3 e0 out3 (IntKind.wrap .i64 (i4 + 1)) w R
def KE_S6 (E : W.Env) (w : World) (R : W.Post) : Prop := W.asRef (W.Env.get? E 0) fun e0 => W.asSlice (W.Env.get? E 3) fun out3 => W.asInt .i64 (W.Env.get? E 4) fun i4 => S6 e0 out3 i4 w R
theorem KE_S6_ok (R : W.Post) (E : W.Env) (w : World) (h : KE_S6 E w R) : W.WP Try.prog 69 C9 (Q2 R) E w := by
  obtain ⟨e0, hq0, h1⟩ := W.asRef_elim h
  obtain ⟨out3, hq3, h2⟩ := W.asSlice_elim h1
  obtain ⟨i4, hq4, h3⟩ := W.asInt_elim h2
  exact fun a ha => W.WP.at (E := [(0, .pointer (some e0)), (3, out3.v), (4, .int .i64 i4)]) (W.WP.reg (c := C9) (fun E w => KE_L3 E w R) (by kernel_rfl) (Eq.mp (by kernel_rfl) h3) fun _ _ a hA hK => KE_L3_ok R _ _ hK a hA) (ha.cons hq0 (ha.cons hq3 (ha.cons hq4 ha.nil)))
noncomputable def C10 : Code := W.Code.fst C8
noncomputable def C11 : Code := W.Code.fst C10
abbrev Q3 (R : W.Post) : Exit → Act → World → Prop := (Exit.then (Code.wp Try.prog C9 (Exit.then (W.LoopWP Try.prog C6 (Q1 R)) (Q1 R))) (Exit.then (W.LoopWP Try.prog C6 (Q1 R)) (Q1 R)))
abbrev Q4 (R : W.Post) : Exit → Act → World → Prop := (Exit.inBlock 1 (Q3 R))
/-- ref.go:49 -/
def S5 (e0 : Addr) (out3 : W.Sl) (i4 : Int) (w : World) (R : W.Post) : Prop :=
  ∃ t37 : Int, w.drew.cell? (e0.add 3) = some (.int .i64 t37) ∧ 
  ∃ t41 : W.Sl, w.drew.cell? (e0.add 1) = some (t41.v) ∧ 
  (0 : Int) ≤ i4 ∧ i4 < ((t41.n : Nat) : Int) ∧ W.optP t41.a fun t43_p => ∃ t44 : W.Sl, w.drew.cell? (t43_p.add (Int.toNat i4 * 1)) = some (t44.v) ∧ 
  let w1 := w.drew.alloc (.cells #[.int .i64 (IntKind.wrap .i64 (i4 + 1)), .int .i64 t37, t44.v] ty_enthymemeref38_Packet)
  w1.cell? (t43_p.add (Int.toNat i4 * 1)) = some (t44.v) ∧ w1.cell? (e0.add 1) = some (t41.v) ∧ w1.cell? (e0.add 3) = some (.int .i64 t37) ∧ ∃ (t47 : W.Sl) (w2 : World), Sem.run Try.prog (Builtin.append_ #[ty_sl_enthymemeref38_Packet, ty_sl_enthymemeref38_Packet] ty_sl_enthymemeref38_Packet #[out3.v, .slice (some (Addr.mk w.drew.heap.size 0 none)) 1 1]) w1 = .ok (t47.v) w2 ∧ w2.cell? (t43_p.add (Int.toNat i4 * 1)) = some (t44.v) ∧ w2.cell? (e0.add 1) = some (t41.v) ∧ w2.cell? (e0.add 3) = some (.int .i64 t37) ∧ S6 e0 t47 i4 w2 R
def KE_S5 (E : W.Env) (w : World) (R : W.Post) : Prop := W.asRef (W.Env.get? E 0) fun e0 => W.asSlice (W.Env.get? E 3) fun out3 => W.asInt .i64 (W.Env.get? E 4) fun i4 => S5 e0 out3 i4 w R
theorem KE_S5_ok (R : W.Post) (E : W.Env) (w : World) (h : KE_S5 E w R) : W.WP Try.prog 69 C11 (Q4 R) E w := by
  obtain ⟨e0, hq0, h1⟩ := W.asRef_elim h
  obtain ⟨out3, hq3, h2⟩ := W.asSlice_elim h1
  obtain ⟨i4, hq4, h3⟩ := W.asInt_elim h2
  exact fun a ha => W.WP.at (E := [(0, .pointer (some e0)), (3, out3.v), (4, .int .i64 i4)]) (W.WP.draw (c := C11) [0, 1, 2, 3, 4, 5, 6, 7, 8, 9, 10, 11, 12, 13, 14, 15, 16, 17] (fun E w => KE_S6 E w R) (by kernel_rfl) (Eq.mp (by kernel_rfl) h3) fun _ _ a hA hK => (KE_S6_ok R _ _ hK) a hA) (ha.cons hq0 (ha.cons hq3 (ha.cons hq4 ha.nil)))
noncomputable def C12 : Code := W.Code.snd C7
noncomputable def C13 : Code := W.Code.snd C12
abbrev Q5 (R : W.Post) : Exit → Act → World → Prop := (bodyPost Try.prog Try.f14 R)
noncomputable def C14 : Code := W.Code.fst C13
noncomputable def C15 : Code := W.Code.snd C13
/-- ref.go:55 -/
def S10 (out3 : W.Sl) (w : World) (R : W.Post) : Prop :=
  R (.returned (out3.v)) w
def KE_S10 (E : W.Env) (w : World) (R : W.Post) : Prop := W.asSlice (W.Env.get? E 3) fun out3 => S10 out3 w R
theorem KE_S10_ok (R : W.Post) (E : W.Env) (w : World) (h : KE_S10 E w R) : W.WP Try.prog 69 C13 (Q5 R) E w := by
  obtain ⟨out3, hq3, h1⟩ := W.asSlice_elim h
  exact fun a ha => W.WP.at (E := [(3, out3.v)]) (W.WP.seq (c := C13) (x := C14) (y := C15) (by kernel_rfl) <| W.WP.reg (c := C14) (fun E w => W.retVC Try.prog Try.f14 E w (fun v => R (.returned v) w)) (by kernel_rfl) (Eq.mp (by kernel_rfl) h1) fun _ _ a hA hK => (W.WP.ret (c := C15) (by kernel_rfl) fun a hA => W.retVC_sound hA hK) a hA) (ha.cons hq3 ha.nil)
noncomputable def C16 : Code := W.Code.fst C12
/-- ref.go:54 -/
def S9 (e0 : Addr) (out3 : W.Sl) (w : World) (R : W.Post) : Prop :=
  (w.cell? (e0.add 5)).isSome = true ∧ w.frozen? (e0.add 5) = false ∧ let w1 := w.setCell (e0.add 5) (.bool false)
  S10 out3 w1 R
def KE_S9 (E : W.Env) (w : World) (R : W.Post) : Prop := W.asRef (W.Env.get? E 0) fun e0 => W.asSlice (W.Env.get? E 3) fun out3 => S9 e0 out3 w R
theorem KE_S9_ok (R : W.Post) (E : W.Env) (w : World) (h : KE_S9 E w R) : W.WP Try.prog 69 C12 (Q5 R) E w := by
  obtain ⟨e0, hq0, h1⟩ := W.asRef_elim h
  obtain ⟨out3, hq3, h2⟩ := W.asSlice_elim h1
  exact fun a ha => W.WP.at (E := [(0, .pointer (some e0)), (3, out3.v)]) (W.WP.seq (c := C12) (x := C16) (y := C13) (by kernel_rfl) <| W.WP.reg (c := C16) (fun E w => KE_S10 E w R) (by kernel_rfl) (Eq.mp (by kernel_rfl) h2) fun _ _ a hA hK => (KE_S10_ok R _ _ hK) a hA) (ha.cons hq0 (ha.cons hq3 ha.nil))
noncomputable def C17 : Code := W.Code.fst C7
noncomputable def C18 : Code := W.Code.snd C17
noncomputable def C19 : Code := W.Code.fst C18
abbrev Q6 (R : W.Post) : Exit → Act → World → Prop := (Exit.then (Code.wp Try.prog C12 (bodyPost Try.prog Try.f14 R)) (bodyPost Try.prog Try.f14 R))
/-- ref.go:52 -/
def S8 (e0 : Addr) (out3 : W.Sl) (w : World) (R : W.Post) : Prop :=
  ∃ t61 : Int, w.cell? (e0.add 3) = some (.int .i64 t61) ∧ 
  let w1 := w.alloc (.cells #[.int .i64 0, .int .i64 t61, .slice none 0 0] ty_enthymemeref38_Packet)
  ∃ (t64 : W.Sl) (w2 : World), Sem.run Try.prog (Builtin.append_ #[ty_sl_enthymemeref38_Packet, ty_sl_enthymemeref38_Packet] ty_sl_enthymemeref38_Packet #[out3.v, .slice (some (Addr.mk w.heap.size 0 none)) 1 1]) w1 = .ok (t64.v) w2 ∧ S9 e0 t64 w2 R
def KE_S8 (E : W.Env) (w : World) (R : W.Post) : Prop := W.asRef (W.Env.get? E 0) fun e0 => W.asSlice (W.Env.get? E 3) fun out3 => S8 e0 out3 w R
theorem KE_S8_ok (R : W.Post) (E : W.Env) (w : World) (h : KE_S8 E w R) : W.WP Try.prog 69 C19 (Q6 R) E w := by
  obtain ⟨e0, hq0, h1⟩ := W.asRef_elim h
  obtain ⟨out3, hq3, h2⟩ := W.asSlice_elim h1
  exact fun a ha => W.WP.at (E := [(0, .pointer (some e0)), (3, out3.v)]) (W.WP.reg (c := C19) (fun E w => KE_S9 E w R) (by kernel_rfl) (Eq.mp (by kernel_rfl) h2) fun _ _ a hA hK => (KE_S9_ok R _ _ hK) a hA) (ha.cons hq0 (ha.cons hq3 ha.nil))
noncomputable def C20 : Code := W.Code.fst C17
noncomputable def C21 : Code := W.Code.snd C18
/-- ref.go:51 -/
def S7 (e0 : Addr) (out3 : W.Sl) (w : World) (R : W.Post) : Prop :=
  W.sel (((out3.n : Nat) : Int) == 0) (∃ t55 : Bool, w.cell? (e0.add 5) = some (.bool t55) ∧ 
  W.sel t55 (S8 e0 out3 w R) (S9 e0 out3 w R)) (S9 e0 out3 w R)
def KE_S7 (E : W.Env) (w : World) (R : W.Post) : Prop := W.asRef (W.Env.get? E 0) fun e0 => W.asSlice (W.Env.get? E 3) fun out3 => S7 e0 out3 w R
theorem KE_S7_ok (R : W.Post) (E : W.Env) (w : World) (h : KE_S7 E w R) : W.WP Try.prog 69 C17 (Q6 R) E w := by
  obtain ⟨e0, hq0, h1⟩ := W.asRef_elim h
  obtain ⟨out3, hq3, h2⟩ := W.asSlice_elim h1
  exact fun a ha => W.WP.at (E := [(0, .pointer (some e0)), (3, out3.v)]) (W.WP.seq (c := C17) (x := C20) (y := C18) (by kernel_rfl) <| W.WP.reg (c := C20) (fun E w => W.condK (W.Env.val E (.tmp 56)) (KE_S8 E w R) (KE_S9 E w R)) (by kernel_rfl) (Eq.mp (by kernel_rfl) h2) fun _ _ a hA hK => (W.WP.condK (c := C18) (x := C19) (y := C21) (o := .tmp 56) (by kernel_rfl) (fun hK => (KE_S8_ok R _ _ hK)) (fun hK => (W.WP.skip (c := C21) (by kernel_rfl) fun a hA => (KE_S9_ok R _ _ hK) a hA)) hK) a hA) (ha.cons hq0 (ha.cons hq3 ha.nil))
noncomputable def C22 : Code := W.Code.fst C6
abbrev Q7 (R : W.Post) : Exit → Act → World → Prop := (Exit.then (Code.wp Try.prog C8 (Exit.then (W.LoopWP Try.prog C6 (Q1 R)) (Q1 R))) (Exit.then (W.LoopWP Try.prog C6 (Q1 R)) (Q1 R)))
noncomputable def C23 : Code := W.Code.fst C22
noncomputable def C24 : Code := W.Code.snd C22
noncomputable def C25 : Code := W.Code.fst C24
noncomputable def C26 : Code := W.Code.snd C24
/-- ref.go:48 -/
def S4 (e0 : Addr) (out3 : W.Sl) (i4 : Int) (w : World) (R : W.Post) : Prop :=
  ∃ t13 : W.Sl, w.drew.cell? (e0.add 1) = some (t13.v) ∧ 
  W.sel (decide (i4 < ((t13.n : Nat) : Int))) (∃ t21 : Int, w.drew.cell? (e0.add 2) = some (.int .i64 t21) ∧ 
  ∃ t25 : Int, w.drew.cell? (e0.add 0) = some (.int .i64 t25) ∧ 
  W.sel (decide (i4 < (IntKind.wrap .i64 (t21 + t25)))) (S5 e0 out3 i4 w.drew R) (S7 e0 out3 w.drew R)) (S7 e0 out3 w.drew R)
def KE_S4 (E : W.Env) (w : World) (R : W.Post) : Prop := W.asRef (W.Env.get? E 0) fun e0 => W.asSlice (W.Env.get? E 3) fun out3 => W.asInt .i64 (W.Env.get? E 4) fun i4 => S4 e0 out3 i4 w R
theorem KE_S4_ok (R : W.Post) (E : W.Env) (w : World) (h : KE_S4 E w R) : W.WP Try.prog 69 C22 (Q7 R) E w := by
  obtain ⟨e0, hq0, h1⟩ := W.asRef_elim h
  obtain ⟨out3, hq3, h2⟩ := W.asSlice_elim h1
  obtain ⟨i4, hq4, h3⟩ := W.asInt_elim h2
  exact fun a ha => W.WP.at (E := [(0, .pointer (some e0)), (3, out3.v), (4, .int .i64 i4)]) (W.WP.seq (c := C22) (x := C23) (y := C24) (by kernel_rfl) <| W.WP.draw (c := C23) [0, 1, 2, 3, 4, 5, 6, 7, 8, 9, 10, 11, 12, 13, 14, 15, 16, 17, 18, 19] (fun E w => W.condK (W.Env.val E (.tmp 28)) (KE_S5 E w R) (KE_S7 E w R)) (by kernel_rfl) (Eq.mp (by kernel_rfl) h3) fun _ _ a hA hK => (W.WP.condK (c := C24) (x := C25) (y := C26) (o := .tmp 28) (by kernel_rfl) (fun hK => (W.WP.skip (c := C25) (by kernel_rfl) fun a hA => (W.WP.seq (c := C8) (x := C10) (y := C9) (by kernel_rfl) (W.WP.block (c := C10) (x := C11) (id := 1) (by kernel_rfl) (KE_S5_ok R _ _ hK))) a hA)) (fun hK => (W.WP.exit (c := C26) (id := 0) (by kernel_rfl) fun a hA => (W.WP.seq (c := C7) (x := C17) (y := C12) (by kernel_rfl) (KE_S7_ok R _ _ hK)) a hA)) hK) a hA) (ha.cons hq0 (ha.cons hq3 (ha.cons hq4 ha.nil)))
theorem L3_step (e0 : Addr) (out3 : W.Sl) (i4 : Int) (w : World) (R : W.Post) (h : S4 e0 out3 i4 w R) : L3 e0 out3 i4 w R :=
  W.LP.step (c := C6) (E := [(0, .pointer (some e0)), (3, out3.v), (4, .int .i64 i4)]) (w := w) (W.WP.seq (c := C6) (x := C22) (y := C8) (by kernel_rfl) (KE_S4_ok R _ _ (Eq.mp (by kernel_rfl) h)))
noncomputable def C27 : Code := W.Code.fst C3
/-- ref.go:48 -/
def S2 (e0 : Addr) (out3 : W.Sl) (w : World) (R : W.Post) : Prop :=
  ∃ t8 : Int, w.cell? (e0.add 2) = some (.int .i64 t8) ∧ 
  L3 e0 out3 t8 w R
def KE_S2 (E : W.Env) (w : World) (R : W.Post) : Prop := W.asRef (W.Env.get? E 0) fun e0 => W.asSlice (W.Env.get? E 3) fun out3 => S2 e0 out3 w R
theorem KE_S2_ok (R : W.Post) (E : W.Env) (w : World) (h : KE_S2 E w R) : W.WP Try.prog 69 C3 (Q0 R) E w := by
  obtain ⟨e0, hq0, h1⟩ := W.asRef_elim h
  obtain ⟨out3, hq3, h2⟩ := W.asSlice_elim h1
  exact fun a ha => W.WP.at (E := [(0, .pointer (some e0)), (3, out3.v)]) (W.WP.seq (c := C3) (x := C27) (y := C4) (by kernel_rfl) <| W.WP.reg (c := C27) (fun E w => KE_L3 E w R) (by kernel_rfl) (Eq.mp (by kernel_rfl) h2) fun _ _ a hA hK => (W.WP.block (c := C4) (x := C5) (id := 0) (by kernel_rfl) (W.WP.loop (c := C5) (x := C6) (by kernel_rfl) (KE_L3_ok R _ _ hK))) a hA) (ha.cons hq0 (ha.cons hq3 ha.nil))
noncomputable def C28 : Code := W.Code.fst C1
/-- ref.go:47 -/
def S1 (e0 : Addr) (w : World) (R : W.Post) : Prop :=
  S2 e0 ⟨none, 0, 0⟩ w R
def KE_S1 (E : W.Env) (w : World) (R : W.Post) : Prop := W.asRef (W.Env.get? E 0) fun e0 => S1 e0 w R
theorem KE_S1_ok (R : W.Post) (E : W.Env) (w : World) (h : KE_S1 E w R) : W.WP Try.prog 69 C1 (Q5 R) E w := by
  obtain ⟨e0, hq0, h1⟩ := W.asRef_elim h
  exact fun a ha => W.WP.at (E := [(0, .pointer (some e0))]) (W.WP.seq (c := C1) (x := C28) (y := C2) (by kernel_rfl) <| W.WP.reg (c := C28) (fun E w => KE_S2 E w R) (by kernel_rfl) (Eq.mp (by kernel_rfl) h1) fun _ _ a hA hK => (W.WP.seq (c := C2) (x := C3) (y := C7) (by kernel_rfl) (KE_S2_ok R _ _ hK)) a hA) (ha.cons hq0 ha.nil)
noncomputable def C29 : Code := W.Code.fst C0
/-- ref.go:46 -/
def S0 (e0 : Addr) (w : World) (R : W.Post) : Prop :=
  S1 e0 w R
def KE_S0 (E : W.Env) (w : World) (R : W.Post) : Prop := W.asRef (W.Env.get? E 0) fun e0 => S0 e0 w R
theorem KE_S0_ok (R : W.Post) (E : W.Env) (w : World) (h : KE_S0 E w R) : W.WP Try.prog 69 C0 (Q5 R) E w := by
  obtain ⟨e0, hq0, h1⟩ := W.asRef_elim h
  exact fun a ha => W.WP.at (E := [(0, .pointer (some e0))]) (W.WP.seq (c := C0) (x := C29) (y := C1) (by kernel_rfl) <| W.WP.reg (c := C29) (fun E w => KE_S1 E w R) (by kernel_rfl) (Eq.mp (by kernel_rfl) h1) fun _ _ a hA hK => (KE_S1_ok R _ _ hK) a hA) (ha.cons hq0 ha.nil)
/-- (*enthymeme/enthymemeref38.End).Out -/
theorem ok (e0 : Addr) (w : World) (R : W.Post) (h : S0 e0 w R) : Calls Try.prog n_enthymemeref38_End_Out #[.pointer (some e0)] w R :=
  W.calls_of_WP' (fn := Try.f14) (c := C0) (args := [.pointer (some e0)]) (by kernel_rfl) (by kernel_rfl) (by kernel_rfl) (KE_S0_ok R _ _ (Eq.mp (by kernel_rfl) h))
end enthymemeref38_End_Out
namespace enthymemelaw38_same
noncomputable def C0 : Code := (Try.f15.body).getD .skip
noncomputable def C1 : Code := W.Code.snd C0
noncomputable def C2 : Code := W.Code.fst C1
noncomputable def C3 : Code := W.Code.snd C2
noncomputable def C4 : Code := W.Code.fst C3
noncomputable def C5 : Code := W.Code.snd C1
abbrev Q0 (R : W.Post) : Exit → Act → World → Prop := (Exit.then (Code.wp Try.prog C5 (bodyPost Try.prog Try.f15 R)) (bodyPost Try.prog Try.f15 R))
noncomputable def C6 : Code := W.Code.fst C4
noncomputable def C7 : Code := W.Code.snd C4
/-- law.go:61 -/
def S2  (w : World) (R : W.Post) : Prop :=
  R (.returned (.bool false)) w
def KE_S2 (E : W.Env) (w : World) (R : W.Post) : Prop := S2  w R
theorem KE_S2_ok (R : W.Post) (E : W.Env) (w : World) (h : KE_S2 E w R) : W.WP Try.prog 28 C4 (Q0 R) E w := by
  exact fun a ha => W.WP.at (E := []) (W.WP.seq (c := C4) (x := C6) (y := C7) (by kernel_rfl) <| W.WP.reg (c := C6) (fun E w => W.retVC Try.prog Try.f15 E w (fun v => R (.returned v) w)) (by kernel_rfl) (Eq.mp (by kernel_rfl) h) fun _ _ a hA hK => (W.WP.ret (c := C7) (by kernel_rfl) fun a hA => W.retVC_sound hA hK) a hA) ha.nil
noncomputable def C8 : Code := W.Code.fst C5
noncomputable def C9 : Code := W.Code.snd C8
noncomputable def C10 : Code := W.Code.fst C9
noncomputable def C11 : Code := W.Code.fst C10
noncomputable def C12 : Code := W.Code.snd C5
abbrev Q1 (R : W.Post) : Exit → Act → World → Prop := (Exit.then (Code.wp Try.prog C12 (bodyPost Try.prog Try.f15 R)) (bodyPost Try.prog Try.f15 R))
abbrev Q2 (R : W.Post) : Exit → Act → World → Prop := (Exit.inBlock 0 (Q1 R))
/-- the head of the loop, law.go:63 -/
def L4 (a0 b1 : W.Sl) (i5 : Int) (w : World) (R : W.Post) : Prop := W.LP Try.prog 28 C11 (Q2 R) [(0, a0.v), (1, b1.v), (5, .int .i64 i5)] w
def KE_L4 (E : W.Env) (w : World) (R : W.Post) : Prop := W.asSlice (W.Env.get? E 0) fun a0 => W.asSlice (W.Env.get? E 1) fun b1 => W.asInt .i64 (W.Env.get? E 5) fun i5 => L4 a0 b1 i5 w R
theorem KE_L4_ok (R : W.Post) (E : W.Env) (w : World) (h : KE_L4 E w R) : W.LP Try.prog 28 C11 (Q2 R) E w := by
  obtain ⟨a0, hq0, h1⟩ := W.asSlice_elim h
  obtain ⟨b1, hq1, h2⟩ := W.asSlice_elim h1
  obtain ⟨i5, hq5, h3⟩ := W.asInt_elim h2
  intro a ha
  exact h3 a (ha.cons hq0 (ha.cons hq1 (ha.cons hq5 ha.nil)))
noncomputable def C13 : Code := W.Code.snd C11
noncomputable def C14 : Code := W.Code.fst C13
noncomputable def C15 : Code := W.Code.fst C14
noncomputable def C16 : Code := W.Code.snd C15
noncomputable def C17 : Code := W.Code.fst C16
noncomputable def C18 : Code := W.Code.snd C13
abbrev Q3 (R : W.Post) : Exit → Act → World → Prop := (Exit.then (Code.wp Try.prog C18 (Exit.then (W.LoopWP Try.prog C11 (Q2 R)) (Q2 R))) (Exit.then (W.LoopWP Try.prog C11 (Q2 R)) (Q2 R)))
abbrev Q4 (R : W.Post) : Exit → Act → World → Prop := (Exit.inBlock 1 (Q3 R))
noncomputable def C19 : Code := W.Code.fst C17
noncomputable def C20 : Code := W.Code.snd C17
/-- law.go:65 -/
def S7  (w : World) (R : W.Post) : Prop :=
  R (.returned (.bool false)) w
def KE_S7 (E : W.Env) (w : World) (R : W.Post) : Prop := S7  w R
theorem KE_S7_ok (R : W.Post) (E : W.Env) (w : World) (h : KE_S7 E w R) : W.WP Try.prog 28 C17 (Q4 R) E w := by
  exact fun a ha => W.WP.at (E := []) (W.WP.seq (c := C17) (x := C19) (y := C20) (by kernel_rfl) <| W.WP.reg (c := C19) (fun E w => W.retVC Try.prog Try.f15 E w (fun v => R (.returned v) w)) (by kernel_rfl) (Eq.mp (by kernel_rfl) h) fun _ _ a hA hK => (W.WP.ret (c := C20) (by kernel_rfl) fun a hA => W.retVC_sound hA hK) a hA) ha.nil
abbrev Q5 (R : W.Post) : Exit → Act → World → Prop := (Exit.then (W.LoopWP Try.prog C11 (Q2 R)) (Q2 R))
/-- law.go:63 -/
def S8 (a0 b1 : W.Sl) (i5 : Int) (w : World) (R : W.Post) : Prop :=
  L4 a0 b1 (IntKind.wrap .i64 (i5 + 1)) w R
def KE_S8 (E : W.Env) (w : World) (R : W.Post) : Prop := W.asSlice (W.Env.get? E 0) fun a0 => W.asSlice (W.Env.get? E 1) fun b1 => W.asInt .i64 (W.Env.get? E 5) fun i5 => S8 a0 b1 i5 w R
theorem KE_S8_ok (R : W.Post) (E : W.Env) (w : World) (h : KE_S8 E w R) : W.WP Try.prog 28 C18 (Q5 R) E w := by
  obtain ⟨a0, hq0, h1⟩ := W.asSlice_elim h
  obtain ⟨b1, hq1, h2⟩ := W.asSlice_elim h1
  obtain ⟨i5, hq5, h3⟩ := W.asInt_elim h2
  exact fun a ha => W.WP.at (E := [(0, a0.v), (1, b1.v), (5, .int .i64 i5)]) (W.WP.reg (c := C18) (fun E w => KE_L4 E w R) (by kernel_rfl) (Eq.mp (by kernel_rfl) h3) fun _ _ a hA hK => KE_L4_ok R _ _ hK a hA) (ha.cons hq0 (ha.cons hq1 (ha.cons hq5 ha.nil)))
noncomputable def C21 : Code := W.Code.fst C15
noncomputable def C22 : Code := W.Code.snd C16
/-- law.go:64 -/
def S6 (a0 b1 : W.Sl) (i5 : Int) (w : World) (R : W.Post) : Prop :=
  (0 : Int) ≤ i5 ∧ i5 < ((a0.n : Nat) : Int) ∧ W.optP a0.a fun t19_p => ∃ t20_0 : Int, ∃ t20_1 : Int, ∃ t20_2 : W.Sl, w.drew.cell? ((t19_p.add (Int.toNat i5 * 3)).add 0) = some (.int .i64 t20_0) ∧ w.drew.cell? ((t19_p.add (Int.toNat i5 * 3)).add 1) = some (.int .i64 t20_1) ∧ w.drew.cell? ((t19_p.add (Int.toNat i5 * 3)).add 2) = some (t20_2.v) ∧ 
  (0 : Int) ≤ i5 ∧ i5 < ((b1.n : Nat) : Int) ∧ W.optP b1.a fun t24_p => ∃ t25_0 : Int, ∃ t25_1 : Int, ∃ t25_2 : W.Sl, w.drew.cell? ((t24_p.add (Int.toNat i5 * 3)).add 0) = some (.int .i64 t25_0) ∧ w.drew.cell? ((t24_p.add (Int.toNat i5 * 3)).add 1) = some (.int .i64 t25_1) ∧ w.drew.cell? ((t24_p.add (Int.toNat i5 * 3)).add 2) = some (t25_2.v) ∧ 
  Calls Try.prog n_enthymemelaw38_plain #[.agg #[.int .i64 t20_0, .int .i64 t20_1, t20_2.v]] w.drew fun r_ w1 => ∃ t21_0 : Int, ∃ t21_1 : Int, ∃ t21_2 : W.Sl, r_ = .returned (.agg #[.int .i64 t21_0, .int .i64 t21_1, t21_2.v]) ∧ 
  w1.cell? ((t24_p.add (Int.toNat i5 * 3)).add 0) = some (.int .i64 t25_0) ∧ w1.cell? ((t24_p.add (Int.toNat i5 * 3)).add 1) = some (.int .i64 t25_1) ∧ w1.cell? ((t24_p.add (Int.toNat i5 * 3)).add 2) = some (t25_2.v) ∧ Calls Try.prog n_enthymemeref38_Same #[.agg #[.int .i64 t21_0, .int .i64 t21_1, t21_2.v], .agg #[.int .i64 t25_0, .int .i64 t25_1, t25_2.v]] w1 fun r_ w2 => ∃ t26 : Bool, r_ = .returned (.bool t26) ∧ 
  W.sel (!t26) (S7  w2 R) (S8 a0 b1 i5 w2 R)
def KE_S6 (E : W.Env) (w : World) (R : W.Post) : Prop := W.asSlice (W.Env.get? E 0) fun a0 => W.asSlice (W.Env.get? E 1) fun b1 => W.asInt .i64 (W.Env.get? E 5) fun i5 => S6 a0 b1 i5 w R
theorem KE_S6_ok (R : W.Post) (E : W.Env) (w : World) (h : KE_S6 E w R) : W.WP Try.prog 28 C15 (Q4 R) E w := by
  obtain ⟨a0, hq0, h1⟩ := W.asSlice_elim h
  obtain ⟨b1, hq1, h2⟩ := W.asSlice_elim h1
  obtain ⟨i5, hq5, h3⟩ := W.asInt_elim h2
  exact fun a ha => W.WP.at (E := [(0, a0.v), (1, b1.v), (5, .int .i64 i5)]) (W.WP.seq (c := C15) (x := C21) (y := C16) (by kernel_rfl) <| W.WP.draw (c := C21) [0, 1, 2, 3, 5, 6, 7, 8, 4, 9, 10] (fun E w => W.condK (W.Env.val E (.tmp 27)) (KE_S7 E w R) (KE_S8 E w R)) (by kernel_rfl) (Eq.mp (by kernel_rfl) h3) fun _ _ a hA hK => (W.WP.condK (c := C16) (x := C17) (y := C22) (o := .tmp 27) (by kernel_rfl) (fun hK => (KE_S7_ok R _ _ hK)) (fun hK => (W.WP.skip (c := C22) (by kernel_rfl) fun a hA => (KE_S8_ok R _ _ hK) a hA)) hK) a hA) (ha.cons hq0 (ha.cons hq1 (ha.cons hq5 ha.nil)))
abbrev Q6 (R : W.Post) : Exit → Act → World → Prop := (bodyPost Try.prog Try.f15 R)
noncomputable def C23 : Code := W.Code.fst C12
noncomputable def C24 : Code := W.Code.snd C12
/-- law.go:68 -/
def S9  (w : World) (R : W.Post) : Prop :=
  R (.returned (.bool true)) w
def KE_S9 (E : W.Env) (w : World) (R : W.Post) : Prop := S9  w R
theorem KE_S9_ok (R : W.Post) (E : W.Env) (w : World) (h : KE_S9 E w R) : W.WP Try.prog 28 C12 (Q6 R) E w := by
  exact fun a ha => W.WP.at (E := []) (W.WP.seq (c := C12) (x := C23) (y := C24) (by kernel_rfl) <| W.WP.reg (c := C23) (fun E w => W.retVC Try.prog Try.f15 E w (fun v => R (.returned v) w)) (by kernel_rfl) (Eq.mp (by kernel_rfl) h) fun _ _ a hA hK => (W.WP.ret (c := C24) (by kernel_rfl) fun a hA => W.retVC_sound hA hK) a hA) ha.nil
noncomputable def C25 : Code := W.Code.fst C11
abbrev Q7 (R : W.Post) : Exit → Act → World → Prop := (Exit.then (Code.wp Try.prog C13 (Exit.then (W.LoopWP Try.prog C11 (Q2 R)) (Q2 R))) (Exit.then (W.LoopWP Try.prog C11 (Q2 R)) (Q2 R)))
noncomputable def C26 : Code := W.Code.fst C25
noncomputable def C27 : Code := W.Code.snd C25
noncomputable def C28 : Code := W.Code.fst C27
noncomputable def C29 : Code := W.Code.snd C27
/-- law.go:63 -/
def S5 (a0 b1 : W.Sl) (i5 : Int) (w : World) (R : W.Post) : Prop :=
  W.sel (decide (i5 < ((a0.n : Nat) : Int))) (S6 a0 b1 i5 w R) (S9  w R)
def KE_S5 (E : W.Env) (w : World) (R : W.Post) : Prop := W.asSlice (W.Env.get? E 0) fun a0 => W.asSlice (W.Env.get? E 1) fun b1 => W.asInt .i64 (W.Env.get? E 5) fun i5 => S5 a0 b1 i5 w R
theorem KE_S5_ok (R : W.Post) (E : W.Env) (w : World) (h : KE_S5 E w R) : W.WP Try.prog 28 C25 (Q7 R) E w := by
  obtain ⟨a0, hq0, h1⟩ := W.asSlice_elim h
  obtain ⟨b1, hq1, h2⟩ := W.asSlice_elim h1
  obtain ⟨i5, hq5, h3⟩ := W.asInt_elim h2
  exact fun a ha => W.WP.at (E := [(0, a0.v), (1, b1.v), (5, .int .i64 i5)]) (W.WP.seq (c := C25) (x := C26) (y := C27) (by kernel_rfl) <| W.WP.reg (c := C26) (fun E w => W.condK (W.Env.val E (.tmp 14)) (KE_S6 E w R) (KE_S9 E w R)) (by kernel_rfl) (Eq.mp (by kernel_rfl) h3) fun _ _ a hA hK => (W.WP.condK (c := C27) (x := C28) (y := C29) (o := .tmp 14) (by kernel_rfl) (fun hK => (W.WP.skip (c := C28) (by kernel_rfl) fun a hA => (W.WP.seq (c := C13) (x := C14) (y := C18) (by kernel_rfl) (W.WP.block (c := C14) (x := C15) (id := 1) (by kernel_rfl) (KE_S6_ok R _ _ hK))) a hA)) (fun hK => (W.WP.exit (c := C29) (id := 0) (by kernel_rfl) fun a hA => (KE_S9_ok R _ _ hK) a hA)) hK) a hA) (ha.cons hq0 (ha.cons hq1 (ha.cons hq5 ha.nil)))
theorem L4_step (a0 b1 : W.Sl) (i5 : Int) (w : World) (R : W.Post) (h : S5 a0 b1 i5 w R) : L4 a0 b1 i5 w R :=
  W.LP.step (c := C11) (E := [(0, a0.v), (1, b1.v), (5, .int .i64 i5)]) (w := w) (W.WP.seq (c := C11) (x := C25) (y := C13) (by kernel_rfl) (KE_S5_ok R _ _ (Eq.mp (by kernel_rfl) h)))
noncomputable def C30 : Code := W.Code.fst C8
/-- law.go:63 -/
def S3 (a0 b1 : W.Sl) (w : World) (R : W.Post) : Prop :=
  L4 a0 b1 0 w R
def KE_S3 (E : W.Env) (w : World) (R : W.Post) : Prop := W.asSlice (W.Env.get? E 0) fun a0 => W.asSlice (W.Env.get? E 1) fun b1 => S3 a0 b1 w R
theorem KE_S3_ok (R : W.Post) (E : W.Env) (w : World) (h : KE_S3 E w R) : W.WP Try.prog 28 C8 (Q1 R) E w := by
  obtain ⟨a0, hq0, h1⟩ := W.asSlice_elim h
  obtain ⟨b1, hq1, h2⟩ := W.asSlice_elim h1
  exact fun a ha => W.WP.at (E := [(0, a0.v), (1, b1.v)]) (W.WP.seq (c := C8) (x := C30) (y := C9) (by kernel_rfl) <| W.WP.reg (c := C30) (fun E w => KE_L4 E w R) (by kernel_rfl) (Eq.mp (by kernel_rfl) h2) fun _ _ a hA hK => (W.WP.block (c := C9) (x := C10) (id := 0) (by kernel_rfl) (W.WP.loop (c := C10) (x := C11) (by kernel_rfl) (KE_L4_ok R _ _ hK))) a hA) (ha.cons hq0 (ha.cons hq1 ha.nil))
noncomputable def C31 : Code := W.Code.fst C2
noncomputable def C32 : Code := W.Code.snd C3
/-- law.go:60 -/
def S1 (a0 b1 : W.Sl) (w : World) (R : W.Post) : Prop :=
  W.sel (((a0.n : Nat) : Int) != ((b1.n : Nat) : Int)) (S2  w R) (S3 a0 b1 w R)
def KE_S1 (E : W.Env) (w : World) (R : W.Post) : Prop := W.asSlice (W.Env.get? E 0) fun a0 => W.asSlice (W.Env.get? E 1) fun b1 => S1 a0 b1 w R
theorem KE_S1_ok (R : W.Post) (E : W.Env) (w : World) (h : KE_S1 E w R) : W.WP Try.prog 28 C2 (Q0 R) E w := by
  obtain ⟨a0, hq0, h1⟩ := W.asSlice_elim h
  obtain ⟨b1, hq1, h2⟩ := W.asSlice_elim h1
  exact fun a ha => W.WP.at (E := [(0, a0.v), (1, b1.v)]) (W.WP.seq (c := C2) (x := C31) (y := C3) (by kernel_rfl) <| W.WP.reg (c := C31) (fun E w => W.condK (W.Env.val E (.tmp 10)) (KE_S2 E w R) (KE_S3 E w R)) (by kernel_rfl) (Eq.mp (by kernel_rfl) h2) fun _ _ a hA hK => (W.WP.condK (c := C3) (x := C4) (y := C32) (o := .tmp 10) (by kernel_rfl) (fun hK => (KE_S2_ok R _ _ hK)) (fun hK => (W.WP.skip (c := C32) (by kernel_rfl) fun a hA => (W.WP.seq (c := C5) (x := C8) (y := C12) (by kernel_rfl) (KE_S3_ok R _ _ hK)) a hA)) hK) a hA) (ha.cons hq0 (ha.cons hq1 ha.nil))
noncomputable def C33 : Code := W.Code.fst C0
/-- law.go:59 -/
def S0 (a0 b1 : W.Sl) (w : World) (R : W.Post) : Prop :=
  S1 a0 b1 w R
def KE_S0 (E : W.Env) (w : World) (R : W.Post) : Prop := W.asSlice (W.Env.get? E 0) fun a0 => W.asSlice (W.Env.get? E 1) fun b1 => S0 a0 b1 w R
theorem KE_S0_ok (R : W.Post) (E : W.Env) (w : World) (h : KE_S0 E w R) : W.WP Try.prog 28 C0 (Q6 R) E w := by
  obtain ⟨a0, hq0, h1⟩ := W.asSlice_elim h
  obtain ⟨b1, hq1, h2⟩ := W.asSlice_elim h1
  exact fun a ha => W.WP.at (E := [(0, a0.v), (1, b1.v)]) (W.WP.seq (c := C0) (x := C33) (y := C1) (by kernel_rfl) <| W.WP.reg (c := C33) (fun E w => KE_S1 E w R) (by kernel_rfl) (Eq.mp (by kernel_rfl) h2) fun _ _ a hA hK => (W.WP.seq (c := C1) (x := C2) (y := C5) (by kernel_rfl) (KE_S1_ok R _ _ hK)) a hA) (ha.cons hq0 (ha.cons hq1 ha.nil))
/-- enthymeme/enthymemelaw38.same -/
theorem ok (a0 b1 : W.Sl) (w : World) (R : W.Post) (h : S0 a0 b1 w R) : Calls Try.prog n_enthymemelaw38_same #[a0.v, b1.v] w R :=
  W.calls_of_WP' (fn := Try.f15) (c := C0) (args := [a0.v, b1.v]) (by kernel_rfl) (by kernel_rfl) (by kernel_rfl) (KE_S0_ok R _ _ (Eq.mp (by kernel_rfl) h))
end enthymemelaw38_same
namespace enthymemeref38_SameLists
noncomputable def C0 : Code := (Try.f16.body).getD .skip
noncomputable def C1 : Code := W.Code.snd C0
noncomputable def C2 : Code := W.Code.fst C1
noncomputable def C3 : Code := W.Code.snd C2
noncomputable def C4 : Code := W.Code.fst C3
noncomputable def C5 : Code := W.Code.snd C1
abbrev Q0 (R : W.Post) : Exit → Act → World → Prop := (Exit.then (Code.wp Try.prog C5 (bodyPost Try.prog Try.f16 R)) (bodyPost Try.prog Try.f16 R))
noncomputable def C6 : Code := W.Code.fst C4
noncomputable def C7 : Code := W.Code.snd C4
/-- ref.go:152 -/
def S2  (w : World) (R : W.Post) : Prop :=
  R (.returned (.bool false)) w
def KE_S2 (E : W.Env) (w : World) (R : W.Post) : Prop := S2  w R
theorem KE_S2_ok (R : W.Post) (E : W.Env) (w : World) (h : KE_S2 E w R) : W.WP Try.prog 27 C4 (Q0 R) E w := by
  exact fun a ha => W.WP.at (E := []) (W.WP.seq (c := C4) (x := C6) (y := C7) (by kernel_rfl) <| W.WP.reg (c := C6) (fun E w => W.retVC Try.prog Try.f16 E w (fun v => R (.returned v) w)) (by kernel_rfl) (Eq.mp (by kernel_rfl) h) fun _ _ a hA hK => (W.WP.ret (c := C7) (by kernel_rfl) fun a hA => W.retVC_sound hA hK) a hA) ha.nil
noncomputable def C8 : Code := W.Code.fst C5
noncomputable def C9 : Code := W.Code.snd C8
noncomputable def C10 : Code := W.Code.fst C9
noncomputable def C11 : Code := W.Code.fst C10
noncomputable def C12 : Code := W.Code.snd C5
abbrev Q1 (R : W.Post) : Exit → Act → World → Prop := (Exit.then (Code.wp Try.prog C12 (bodyPost Try.prog Try.f16 R)) (bodyPost Try.prog Try.f16 R))
abbrev Q2 (R : W.Post) : Exit → Act → World → Prop := (Exit.inBlock 0 (Q1 R))
/-- the head of the loop, ref.go:154 -/
def L4 (a0 b1 : W.Sl) (i5 : Int) (w : World) (R : W.Post) : Prop := W.LP Try.prog 27 C11 (Q2 R) [(0, a0.v), (1, b1.v), (5, .int .i64 i5)] w
def KE_L4 (E : W.Env) (w : World) (R : W.Post) : Prop := W.asSlice (W.Env.get? E 0) fun a0 => W.asSlice (W.Env.get? E 1) fun b1 => W.asInt .i64 (W.Env.get? E 5) fun i5 => L4 a0 b1 i5 w R
theorem KE_L4_ok (R : W.Post) (E : W.Env) (w : World) (h : KE_L4 E w R) : W.LP Try.prog 27 C11 (Q2 R) E w := by
  obtain ⟨a0, hq0, h1⟩ := W.asSlice_elim h
  obtain ⟨b1, hq1, h2⟩ := W.asSlice_elim h1
  obtain ⟨i5, hq5, h3⟩ := W.asInt_elim h2
  intro a ha
  exact h3 a (ha.cons hq0 (ha.cons hq1 (ha.cons hq5 ha.nil)))
noncomputable def C13 : Code := W.Code.snd C11
noncomputable def C14 : Code := W.Code.fst C13
noncomputable def C15 : Code := W.Code.fst C14
noncomputable def C16 : Code := W.Code.snd C15
noncomputable def C17 : Code := W.Code.fst C16
noncomputable def C18 : Code := W.Code.snd C13
abbrev Q3 (R : W.Post) : Exit → Act → World → Prop := (Exit.then (Code.wp Try.prog C18 (Exit.then (W.LoopWP Try.prog C11 (Q2 R)) (Q2 R))) (Exit.then (W.LoopWP Try.prog C11 (Q2 R)) (Q2 R)))
abbrev Q4 (R : W.Post) : Exit → Act → World → Prop := (Exit.inBlock 1 (Q3 R))
noncomputable def C19 : Code := W.Code.fst C17
noncomputable def C20 : Code := W.Code.snd C17
/-- ref.go:156 -/
def S7  (w : World) (R : W.Post) : Prop :=
  R (.returned (.bool false)) w
def KE_S7 (E : W.Env) (w : World) (R : W.Post) : Prop := S7  w R
theorem KE_S7_ok (R : W.Post) (E : W.Env) (w : World) (h : KE_S7 E w R) : W.WP Try.prog 27 C17 (Q4 R) E w := by
  exact fun a ha => W.WP.at (E := []) (W.WP.seq (c := C17) (x := C19) (y := C20) (by kernel_rfl) <| W.WP.reg (c := C19) (fun E w => W.retVC Try.prog Try.f16 E w (fun v => R (.returned v) w)) (by kernel_rfl) (Eq.mp (by kernel_rfl) h) fun _ _ a hA hK => (W.WP.ret (c := C20) (by kernel_rfl) fun a hA => W.retVC_sound hA hK) a hA) ha.nil
abbrev Q5 (R : W.Post) : Exit → Act → World → Prop := (Exit.then (W.LoopWP Try.prog C11 (Q2 R)) (Q2 R))
/-- ref.go:154 -/
def S8 (a0 b1 : W.Sl) (i5 : Int) (w : World) (R : W.Post) : Prop :=
  L4 a0 b1 (IntKind.wrap .i64 (i5 + 1)) w R
def KE_S8 (E : W.Env) (w : World) (R : W.Post) : Prop := W.asSlice (W.Env.get? E 0) fun a0 => W.asSlice (W.Env.get? E 1) fun b1 => W.asInt .i64 (W.Env.get? E 5) fun i5 => S8 a0 b1 i5 w R
theorem KE_S8_ok (R : W.Post) (E : W.Env) (w : World) (h : KE_S8 E w R) : W.WP Try.prog 27 C18 (Q5 R) E w := by
  obtain ⟨a0, hq0, h1⟩ := W.asSlice_elim h
  obtain ⟨b1, hq1, h2⟩ := W.asSlice_elim h1
  obtain ⟨i5, hq5, h3⟩ := W.asInt_elim h2
  exact fun a ha => W.WP.at (E := [(0, a0.v), (1, b1.v), (5, .int .i64 i5)]) (W.WP.reg (c := C18) (fun E w => KE_L4 E w R) (by kernel_rfl) (Eq.mp (by kernel_rfl) h3) fun _ _ a hA hK => KE_L4_ok R _ _ hK a hA) (ha.cons hq0 (ha.cons hq1 (ha.cons hq5 ha.nil)))
noncomputable def C21 : Code := W.Code.fst C15
noncomputable def C22 : Code := W.Code.snd C16
/-- ref.go:155 -/
def S6 (a0 b1 : W.Sl) (i5 : Int) (w : World) (R : W.Post) : Prop :=
  (0 : Int) ≤ i5 ∧ i5 < ((a0.n : Nat) : Int) ∧ W.optP a0.a fun t19_p => ∃ t20 : W.Sl, w.drew.cell? (t19_p.add (Int.toNat i5 * 1)) = some (t20.v) ∧ 
  (0 : Int) ≤ i5 ∧ i5 < ((b1.n : Nat) : Int) ∧ W.optP b1.a fun t23_p => ∃ t24 : W.Sl, w.drew.cell? (t23_p.add (Int.toNat i5 * 1)) = some (t24.v) ∧ 
  Calls Try.prog n_enthymemeref01_SameBytes #[t20.v, t24.v] w.drew fun r_ w1 => ∃ t25 : Bool, r_ = .returned (.bool t25) ∧ 
  W.sel (!t25) (S7  w1 R) (S8 a0 b1 i5 w1 R)
def KE_S6 (E : W.Env) (w : World) (R : W.Post) : Prop := W.asSlice (W.Env.get? E 0) fun a0 => W.asSlice (W.Env.get? E 1) fun b1 => W.asInt .i64 (W.Env.get? E 5) fun i5 => S6 a0 b1 i5 w R
theorem KE_S6_ok (R : W.Post) (E : W.Env) (w : World) (h : KE_S6 E w R) : W.WP Try.prog 27 C15 (Q4 R) E w := by
  obtain ⟨a0, hq0, h1⟩ := W.asSlice_elim h
  obtain ⟨b1, hq1, h2⟩ := W.asSlice_elim h1
  obtain ⟨i5, hq5, h3⟩ := W.asInt_elim h2
  exact fun a ha => W.WP.at (E := [(0, a0.v), (1, b1.v), (5, .int .i64 i5)]) (W.WP.seq (c := C15) (x := C21) (y := C16) (by kernel_rfl) <| W.WP.draw (c := C21) [0, 1, 2, 3, 4, 5, 6, 7, 8, 9] (fun E w => W.condK (W.Env.val E (.tmp 26)) (KE_S7 E w R) (KE_S8 E w R)) (by kernel_rfl) (Eq.mp (by kernel_rfl) h3) fun _ _ a hA hK => (W.WP.condK (c := C16) (x := C17) (y := C22) (o := .tmp 26) (by kernel_rfl) (fun hK => (KE_S7_ok R _ _ hK)) (fun hK => (W.WP.skip (c := C22) (by kernel_rfl) fun a hA => (KE_S8_ok R _ _ hK) a hA)) hK) a hA) (ha.cons hq0 (ha.cons hq1 (ha.cons hq5 ha.nil)))
abbrev Q6 (R : W.Post) : Exit → Act → World → Prop := (bodyPost Try.prog Try.f16 R)
noncomputable def C23 : Code := W.Code.fst C12
noncomputable def C24 : Code := W.Code.snd C12
/-- ref.go:159 -/
def S9  (w : World) (R : W.Post) : Prop :=
  R (.returned (.bool true)) w
def KE_S9 (E : W.Env) (w : World) (R : W.Post) : Prop := S9  w R
theorem KE_S9_ok (R : W.Post) (E : W.Env) (w : World) (h : KE_S9 E w R) : W.WP Try.prog 27 C12 (Q6 R) E w := by
  exact fun a ha => W.WP.at (E := []) (W.WP.seq (c := C12) (x := C23) (y := C24) (by kernel_rfl) <| W.WP.reg (c := C23) (fun E w => W.retVC Try.prog Try.f16 E w (fun v => R (.returned v) w)) (by kernel_rfl) (Eq.mp (by kernel_rfl) h) fun _ _ a hA hK => (W.WP.ret (c := C24) (by kernel_rfl) fun a hA => W.retVC_sound hA hK) a hA) ha.nil
noncomputable def C25 : Code := W.Code.fst C11
abbrev Q7 (R : W.Post) : Exit → Act → World → Prop := (Exit.then (Code.wp Try.prog C13 (Exit.then (W.LoopWP Try.prog C11 (Q2 R)) (Q2 R))) (Exit.then (W.LoopWP Try.prog C11 (Q2 R)) (Q2 R)))
noncomputable def C26 : Code := W.Code.fst C25
noncomputable def C27 : Code := W.Code.snd C25
noncomputable def C28 : Code := W.Code.fst C27
noncomputable def C29 : Code := W.Code.snd C27
/-- ref.go:154 -/
def S5 (a0 b1 : W.Sl) (i5 : Int) (w : World) (R : W.Post) : Prop :=
  W.sel (decide (i5 < ((a0.n : Nat) : Int))) (S6 a0 b1 i5 w R) (S9  w R)
def KE_S5 (E : W.Env) (w : World) (R : W.Post) : Prop := W.asSlice (W.Env.get? E 0) fun a0 => W.asSlice (W.Env.get? E 1) fun b1 => W.asInt .i64 (W.Env.get? E 5) fun i5 => S5 a0 b1 i5 w R
theorem KE_S5_ok (R : W.Post) (E : W.Env) (w : World) (h : KE_S5 E w R) : W.WP Try.prog 27 C25 (Q7 R) E w := by
  obtain ⟨a0, hq0, h1⟩ := W.asSlice_elim h
  obtain ⟨b1, hq1, h2⟩ := W.asSlice_elim h1
  obtain ⟨i5, hq5, h3⟩ := W.asInt_elim h2
  exact fun a ha => W.WP.at (E := [(0, a0.v), (1, b1.v), (5, .int .i64 i5)]) (W.WP.seq (c := C25) (x := C26) (y := C27) (by kernel_rfl) <| W.WP.reg (c := C26) (fun E w => W.condK (W.Env.val E (.tmp 14)) (KE_S6 E w R) (KE_S9 E w R)) (by kernel_rfl) (Eq.mp (by kernel_rfl) h3) fun _ _ a hA hK => (W.WP.condK (c := C27) (x := C28) (y := C29) (o := .tmp 14) (by kernel_rfl) (fun hK => (W.WP.skip (c := C28) (by kernel_rfl) fun a hA => (W.WP.seq (c := C13) (x := C14) (y := C18) (by kernel_rfl) (W.WP.block (c := C14) (x := C15) (id := 1) (by kernel_rfl) (KE_S6_ok R _ _ hK))) a hA)) (fun hK => (W.WP.exit (c := C29) (id := 0) (by kernel_rfl) fun a hA => (KE_S9_ok R _ _ hK) a hA)) hK) a hA) (ha.cons hq0 (ha.cons hq1 (ha.cons hq5 ha.nil)))
theorem L4_step (a0 b1 : W.Sl) (i5 : Int) (w : World) (R : W.Post) (h : S5 a0 b1 i5 w R) : L4 a0 b1 i5 w R :=
  W.LP.step (c := C11) (E := [(0, a0.v), (1, b1.v), (5, .int .i64 i5)]) (w := w) (W.WP.seq (c := C11) (x := C25) (y := C13) (by kernel_rfl) (KE_S5_ok R _ _ (Eq.mp (by kernel_rfl) h)))
noncomputable def C30 : Code := W.Code.fst C8
/-- ref.go:154 -/
def S3 (a0 b1 : W.Sl) (w : World) (R : W.Post) : Prop :=
  L4 a0 b1 0 w R
def KE_S3 (E : W.Env) (w : World) (R : W.Post) : Prop := W.asSlice (W.Env.get? E 0) fun a0 => W.asSlice (W.Env.get? E 1) fun b1 => S3 a0 b1 w R
theorem KE_S3_ok (R : W.Post) (E : W.Env) (w : World) (h : KE_S3 E w R) : W.WP Try.prog 27 C8 (Q1 R) E w := by
  obtain ⟨a0, hq0, h1⟩ := W.asSlice_elim h
  obtain ⟨b1, hq1, h2⟩ := W.asSlice_elim h1
  exact fun a ha => W.WP.at (E := [(0, a0.v), (1, b1.v)]) (W.WP.seq (c := C8) (x := C30) (y := C9) (by kernel_rfl) <| W.WP.reg (c := C30) (fun E w => KE_L4 E w R) (by kernel_rfl) (Eq.mp (by kernel_rfl) h2) fun _ _ a hA hK => (W.WP.block (c := C9) (x := C10) (id := 0) (by kernel_rfl) (W.WP.loop (c := C10) (x := C11) (by kernel_rfl) (KE_L4_ok R _ _ hK))) a hA) (ha.cons hq0 (ha.cons hq1 ha.nil))
noncomputable def C31 : Code := W.Code.fst C2
noncomputable def C32 : Code := W.Code.snd C3
/-- ref.go:151 -/
def S1 (a0 b1 : W.Sl) (w : World) (R : W.Post) : Prop :=
  W.sel (((a0.n : Nat) : Int) != ((b1.n : Nat) : Int)) (S2  w R) (S3 a0 b1 w R)
def KE_S1 (E : W.Env) (w : World) (R : W.Post) : Prop := W.asSlice (W.Env.get? E 0) fun a0 => W.asSlice (W.Env.get? E 1) fun b1 => S1 a0 b1 w R
theorem KE_S1_ok (R : W.Post) (E : W.Env) (w : World) (h : KE_S1 E w R) : W.WP Try.prog 27 C2 (Q0 R) E w := by
  obtain ⟨a0, hq0, h1⟩ := W.asSlice_elim h
  obtain ⟨b1, hq1, h2⟩ := W.asSlice_elim h1
  exact fun a ha => W.WP.at (E := [(0, a0.v), (1, b1.v)]) (W.WP.seq (c := C2) (x := C31) (y := C3) (by kernel_rfl) <| W.WP.reg (c := C31) (fun E w => W.condK (W.Env.val E (.tmp 10)) (KE_S2 E w R) (KE_S3 E w R)) (by kernel_rfl) (Eq.mp (by kernel_rfl) h2) fun _ _ a hA hK => (W.WP.condK (c := C3) (x := C4) (y := C32) (o := .tmp 10) (by kernel_rfl) (fun hK => (KE_S2_ok R _ _ hK)) (fun hK => (W.WP.skip (c := C32) (by kernel_rfl) fun a hA => (W.WP.seq (c := C5) (x := C8) (y := C12) (by kernel_rfl) (KE_S3_ok R _ _ hK)) a hA)) hK) a hA) (ha.cons hq0 (ha.cons hq1 ha.nil))
noncomputable def C33 : Code := W.Code.fst C0
/-- ref.go:150 -/
def S0 (a0 b1 : W.Sl) (w : World) (R : W.Post) : Prop :=
  S1 a0 b1 w R
def KE_S0 (E : W.Env) (w : World) (R : W.Post) : Prop := W.asSlice (W.Env.get? E 0) fun a0 => W.asSlice (W.Env.get? E 1) fun b1 => S0 a0 b1 w R
theorem KE_S0_ok (R : W.Post) (E : W.Env) (w : World) (h : KE_S0 E w R) : W.WP Try.prog 27 C0 (Q6 R) E w := by
  obtain ⟨a0, hq0, h1⟩ := W.asSlice_elim h
  obtain ⟨b1, hq1, h2⟩ := W.asSlice_elim h1
  exact fun a ha => W.WP.at (E := [(0, a0.v), (1, b1.v)]) (W.WP.seq (c := C0) (x := C33) (y := C1) (by kernel_rfl) <| W.WP.reg (c := C33) (fun E w => KE_S1 E w R) (by kernel_rfl) (Eq.mp (by kernel_rfl) h2) fun _ _ a hA hK => (W.WP.seq (c := C1) (x := C2) (y := C5) (by kernel_rfl) (KE_S1_ok R _ _ hK)) a hA) (ha.cons hq0 (ha.cons hq1 ha.nil))
/-- enthymeme/enthymemeref38.SameLists -/
theorem ok (a0 b1 : W.Sl) (w : World) (R : W.Post) (h : S0 a0 b1 w R) : Calls Try.prog n_enthymemeref38_SameLists #[a0.v, b1.v] w R :=
  W.calls_of_WP' (fn := Try.f16) (c := C0) (args := [a0.v, b1.v]) (by kernel_rfl) (by kernel_rfl) (by kernel_rfl) (KE_S0_ok R _ _ (Eq.mp (by kernel_rfl) h))
end enthymemeref38_SameLists
namespace enthymemelaw38_of
noncomputable def C0 : Code := (Try.f18.body).getD .skip
noncomputable def C1 : Code := W.Code.snd C0
abbrev Q0 (R : W.Post) : Exit → Act → World → Prop := (bodyPost Try.prog Try.f18 R)
noncomputable def C2 : Code := W.Code.fst C1
noncomputable def C3 : Code := W.Code.snd C1
/-- law.go:45 -/
def S1 (p1 t2 : Addr) (w : World) (R : W.Post) : Prop :=
  ∃ t4 : Int, w.cell? (p1.add 0) = some (.int .i64 t4) ∧ 
  ∃ t6 : Int, w.cell? (p1.add 1) = some (.int .i64 t6) ∧ 
  ∃ t8 : W.Sl, w.cell? (p1.add 2) = some (t8.v) ∧ 
  (w.cell? t2).isSome = true ∧ w.frozen? t2 = false ∧ let w1 := w.setCell t2 (.int .i64 t4)
  (w1.cell? (t2.add 1)).isSome = true ∧ w1.frozen? (t2.add 1) = false ∧ let w2 := w1.setCell (t2.add 1) (.int .i64 t6)
  (w2.cell? (t2.add 2)).isSome = true ∧ w2.frozen? (t2.add 2) = false ∧ let w3 := w2.setCell (t2.add 2) (t8.v)
  ∃ r2_0 : Int, ∃ r2_1 : Int, ∃ r2_2 : W.Sl, w3.cell? (t2.add 0) = some (.int .i64 r2_0) ∧ w3.cell? (t2.add 1) = some (.int .i64 r2_1) ∧ w3.cell? (t2.add 2) = some (r2_2.v) ∧ 
  R (.returned (.agg #[.int .i64 r2_0, .int .i64 r2_1, r2_2.v])) w3
def KE_S1 (E : W.Env) (w : World) (R : W.Post) : Prop := W.asRef (W.Env.get? E 1) fun p1 => W.asRef (W.Env.get? E 2) fun t2 => S1 p1 t2 w R
theorem KE_S1_ok (R : W.Post) (E : W.Env) (w : World) (h : KE_S1 E w R) : W.WP Try.prog 10 C1 (Q0 R) E w := by
  obtain ⟨p1, hq1, h1⟩ := W.asRef_elim h
  obtain ⟨t2, hq2, h2⟩ := W.asRef_elim h1
  exact fun a ha => W.WP.at (E := [(1, .pointer (some p1)), (2, .pointer (some t2))]) (W.WP.seq (c := C1) (x := C2) (y := C3) (by kernel_rfl) <| W.WP.reg (c := C2) (fun E w => W.retVC Try.prog Try.f18 E w (fun v => R (.returned v) w)) (by kernel_rfl) (Eq.mp (by kernel_rfl) h2) fun _ _ a hA hK => (W.WP.ret (c := C3) (by kernel_rfl) fun a hA => W.retVC_sound hA hK) a hA) (ha.cons hq1 (ha.cons hq2 ha.nil))
noncomputable def C4 : Code := W.Code.fst C0
/-- law.go:44 -/
def S0 (p0_0 p0_1 : Int) (p0_2 : W.Sl) (w : World) (R : W.Post) : Prop :=
  let w1 := w.alloc (.cells #[.int .i64 p0_0, .int .i64 p0_1, p0_2.v] ty_enthymemeref38_Packet)
  let w2 := w1.alloc (.cells #[.int .i64 0, .int .i64 0, .slice none 0 0] ty_channel_Packet)
  S1 (Addr.mk w.heap.size 0 none) (Addr.mk w1.heap.size 0 none) w2 R
def KE_S0 (E : W.Env) (w : World) (R : W.Post) : Prop := W.asAgg (W.Env.get? E 0) fun p0_l0 => W.asCons p0_l0 fun p0_v0 p0_l1 => W.asInt .i64 (some p0_v0) fun p0_0 => W.asCons p0_l1 fun p0_v1 p0_l2 => W.asInt .i64 (some p0_v1) fun p0_1 => W.asCons p0_l2 fun p0_v2 p0_l3 => W.asSlice (some p0_v2) fun p0_2 => W.asNil p0_l3 <| S0 p0_0 p0_1 p0_2 w R
theorem KE_S0_ok (R : W.Post) (E : W.Env) (w : World) (h : KE_S0 E w R) : W.WP Try.prog 10 C0 (Q0 R) E w := by
  obtain ⟨p0_l0, hq0, h1⟩ := W.asAgg_elim h
  obtain ⟨p0_v0, p0_l1, rfl, h2⟩ := W.asCons_elim h1
  obtain ⟨p0_0, ex, h3⟩ := W.asInt_elim h2
  obtain rfl := Option.some.inj ex
  obtain ⟨p0_v1, p0_l2, rfl, h4⟩ := W.asCons_elim h3
  obtain ⟨p0_1, ex, h5⟩ := W.asInt_elim h4
  obtain rfl := Option.some.inj ex
  obtain ⟨p0_v2, p0_l3, rfl, h6⟩ := W.asCons_elim h5
  obtain ⟨p0_2, ex, h7⟩ := W.asSlice_elim h6
  obtain rfl := Option.some.inj ex
  obtain ⟨rfl, h8⟩ := W.asNil_elim h7
  exact fun a ha => W.WP.at (E := [(0, .agg #[.int .i64 p0_0, .int .i64 p0_1, p0_2.v])]) (W.WP.seq (c := C0) (x := C4) (y := C1) (by kernel_rfl) <| W.WP.reg (c := C4) (fun E w => KE_S1 E w R) (by kernel_rfl) (Eq.mp (by kernel_rfl) h8) fun _ _ a hA hK => (KE_S1_ok R _ _ hK) a hA) (ha.cons hq0 ha.nil)
/-- enthymeme/enthymemelaw38.of -/
theorem ok (p0_0 p0_1 : Int) (p0_2 : W.Sl) (w : World) (R : W.Post) (h : S0 p0_0 p0_1 p0_2 w R) : Calls Try.prog n_enthymemelaw38_of #[.agg #[.int .i64 p0_0, .int .i64 p0_1, p0_2.v]] w R :=
  W.calls_of_WP' (fn := Try.f18) (c := C0) (args := [.agg #[.int .i64 p0_0, .int .i64 p0_1, p0_2.v]]) (by kernel_rfl) (by kernel_rfl) (by kernel_rfl) (KE_S0_ok R _ _ (Eq.mp (by kernel_rfl) h))
end enthymemelaw38_of
namespace enthymemeref38_End_In
noncomputable def C0 : Code := (Try.f19.body).getD .skip
noncomputable def C1 : Code := W.Code.snd C0
noncomputable def C2 : Code := W.Code.snd C1
noncomputable def C3 : Code := W.Code.fst C2
noncomputable def C4 : Code := W.Code.snd C3
noncomputable def C5 : Code := W.Code.fst C4
noncomputable def C6 : Code := W.Code.snd C2
abbrev Q0 (R : W.Post) : Exit → Act → World → Prop := (Exit.then (Code.wp Try.prog C6 (bodyPost Try.prog Try.f19 R)) (bodyPost Try.prog Try.f19 R))
noncomputable def C7 : Code := W.Code.fst C5
noncomputable def C8 : Code := W.Code.snd C5
/-- ref.go:77 -/
def S3  (w : World) (R : W.Post) : Prop :=
  R (.returned (.slice none 0 0)) w
def KE_S3 (E : W.Env) (w : World) (R : W.Post) : Prop := S3  w R
theorem KE_S3_ok (R : W.Post) (E : W.Env) (w : World) (h : KE_S3 E w R) : W.WP Try.prog 132 C5 (Q0 R) E w := by
  exact fun a ha => W.WP.at (E := []) (W.WP.seq (c := C5) (x := C7) (y := C8) (by kernel_rfl) <| W.WP.reg (c := C7) (fun E w => W.retVC Try.prog Try.f19 E w (fun v => R (.returned v) w)) (by kernel_rfl) (Eq.mp (by kernel_rfl) h) fun _ _ a hA hK => (W.WP.ret (c := C8) (by kernel_rfl) fun a hA => W.retVC_sound hA hK) a hA) ha.nil
noncomputable def C9 : Code := W.Code.snd C6
noncomputable def C10 : Code := W.Code.fst C9
noncomputable def C11 : Code := W.Code.snd C10
noncomputable def C12 : Code := W.Code.fst C11
noncomputable def C13 : Code := W.Code.snd C9
abbrev Q1 (R : W.Post) : Exit → Act → World → Prop := (Exit.then (Code.wp Try.prog C13 (bodyPost Try.prog Try.f19 R)) (bodyPost Try.prog Try.f19 R))
noncomputable def C14 : Code := W.Code.fst C12
noncomputable def C15 : Code := W.Code.snd C12
/-- ref.go:81 -/
def S6  (w : World) (R : W.Post) : Prop :=
  R (.returned (.slice none 0 0)) w
def KE_S6 (E : W.Env) (w : World) (R : W.Post) : Prop := S6  w R
theorem KE_S6_ok (R : W.Post) (E : W.Env) (w : World) (h : KE_S6 E w R) : W.WP Try.prog 132 C12 (Q1 R) E w := by
  exact fun a ha => W.WP.at (E := []) (W.WP.seq (c := C12) (x := C14) (y := C15) (by kernel_rfl) <| W.WP.reg (c := C14) (fun E w => W.retVC Try.prog Try.f19 E w (fun v => R (.returned v) w)) (by kernel_rfl) (Eq.mp (by kernel_rfl) h) fun _ _ a hA hK => (W.WP.ret (c := C15) (by kernel_rfl) fun a hA => W.retVC_sound hA hK) a hA) ha.nil
noncomputable def C16 : Code := W.Code.snd C13
noncomputable def C17 : Code := W.Code.fst C16
noncomputable def C18 : Code := W.Code.snd C17
noncomputable def C19 : Code := W.Code.fst C18
noncomputable def C20 : Code := W.Code.snd C16
abbrev Q2 (R : W.Post) : Exit → Act → World → Prop := (Exit.then (Code.wp Try.prog C20 (bodyPost Try.prog Try.f19 R)) (bodyPost Try.prog Try.f19 R))
noncomputable def C21 : Code := W.Code.fst C19
noncomputable def C22 : Code := W.Code.snd C19
/-- ref.go:85 -/
def S9  (w : World) (R : W.Post) : Prop :=
  R (.returned (.slice none 0 0)) w
def KE_S9 (E : W.Env) (w : World) (R : W.Post) : Prop := S9  w R
theorem KE_S9_ok (R : W.Post) (E : W.Env) (w : World) (h : KE_S9 E w R) : W.WP Try.prog 132 C19 (Q2 R) E w := by
  exact fun a ha => W.WP.at (E := []) (W.WP.seq (c := C19) (x := C21) (y := C22) (by kernel_rfl) <| W.WP.reg (c := C21) (fun E w => W.retVC Try.prog Try.f19 E w (fun v => R (.returned v) w)) (by kernel_rfl) (Eq.mp (by kernel_rfl) h) fun _ _ a hA hK => (W.WP.ret (c := C22) (by kernel_rfl) fun a hA => W.retVC_sound hA hK) a hA) ha.nil
noncomputable def C23 : Code := W.Code.snd C20
noncomputable def C24 : Code := W.Code.snd C23
noncomputable def C25 : Code := W.Code.fst C24
noncomputable def C26 : Code := W.Code.fst C25
noncomputable def C27 : Code := W.Code.fst C26
noncomputable def C28 : Code := W.Code.snd C24
abbrev Q3 (R : W.Post) : Exit → Act → World → Prop := (Exit.then (Code.wp Try.prog C28 (bodyPost Try.prog Try.f19 R)) (bodyPost Try.prog Try.f19 R))
abbrev Q4 (R : W.Post) : Exit → Act → World → Prop := (Exit.inBlock 0 (Q3 R))
/-- the head of the loop, ref.go:89 -/
def L12 (e0 : Addr) (out6 : W.Sl) (w : World) (R : W.Post) : Prop := W.LP Try.prog 132 C27 (Q4 R) [(0, .pointer (some e0)), (6, out6.v)] w
def KE_L12 (E : W.Env) (w : World) (R : W.Post) : Prop := W.asRef (W.Env.get? E 0) fun e0 => W.asSlice (W.Env.get? E 6) fun out6 => L12 e0 out6 w R
theorem KE_L12_ok (R : W.Post) (E : W.Env) (w : World) (h : KE_L12 E w R) : W.LP Try.prog 132 C27 (Q4 R) E w := by
  obtain ⟨e0, hq0, h1⟩ := W.asRef_elim h
  obtain ⟨out6, hq6, h2⟩ := W.asSlice_elim h1
  intro a ha
  exact h2 a (ha.cons hq0 (ha.cons hq6 ha.nil))
noncomputable def C29 : Code := W.Code.snd C27
noncomputable def C30 : Code := W.Code.fst C29
noncomputable def C31 : Code := W.Code.snd C30
noncomputable def C32 : Code := W.Code.snd C31
noncomputable def C33 : Code := W.Code.snd C32
noncomputable def C34 : Code := W.Code.snd C33
noncomputable def C35 : Code := W.Code.snd C34
abbrev Q5 (R : W.Post) : Exit → Act → World → Prop := (Exit.then (W.LoopWP Try.prog C27 (Q4 R)) (Q4 R))
abbrev Q6 (R : W.Post) : Exit → Act → World → Prop := (Exit.inBlock 1 (Q5 R))
/-- ref.go:95 -/
def S19 (e0 : Addr) (out6 : W.Sl) (w : World) (R : W.Post) : Prop :=
  ∃ t127 : Int, w.cell? (e0.add 3) = some (.int .i64 t127) ∧ 
  (w.cell? (e0.add 3)).isSome = true ∧ w.frozen? (e0.add 3) = false ∧ let w1 := w.setCell (e0.add 3) (.int .i64 (IntKind.wrap .i64 (t127 + 1)))
  L12 e0 out6 w1 R
def KE_S19 (E : W.Env) (w : World) (R : W.Post) : Prop := W.asRef (W.Env.get? E 0) fun e0 => W.asSlice (W.Env.get? E 6) fun out6 => S19 e0 out6 w R
theorem KE_S19_ok (R : W.Post) (E : W.Env) (w : World) (h : KE_S19 E w R) : W.WP Try.prog 132 C35 (Q6 R) E w := by
  obtain ⟨e0, hq0, h1⟩ := W.asRef_elim h
  obtain ⟨out6, hq6, h2⟩ := W.asSlice_elim h1
  exact fun a ha => W.WP.at (E := [(0, .pointer (some e0)), (6, out6.v)]) (W.WP.reg (c := C35) (fun E w => KE_L12 E w R) (by kernel_rfl) (Eq.mp (by kernel_rfl) h2) fun _ _ a hA hK => KE_L12_ok R _ _ hK a hA) (ha.cons hq0 (ha.cons hq6 ha.nil))
noncomputable def C36 : Code := W.Code.fst C34
/-- ref.go:94 -/
def S18 (e0 : Addr) (out6 : W.Sl) (i7 : Int) (left8 : W.Sl) (w : World) (R : W.Post) : Prop :=
  ∃ t116 : W.Sl, w.cell? (e0.add 4) = some (t116.v) ∧ 
  (0 : Int) ≤ (IntKind.wrap .i64 (i7 + 1)) ∧ (IntKind.wrap .i64 (i7 + 1)) ≤ ((t116.n : Nat) : Int) ∧ ∃ (t120 : W.Sl) (w1 : World), Sem.run Try.prog (Builtin.append_ #[ty_sl_enthymemeref38_Held, ty_sl_enthymemeref38_Held] ty_sl_enthymemeref38_Held #[left8.v, .slice (if t116.c = (Int.toNat (IntKind.wrap .i64 (i7 + 1))) then t116.a else t116.a.map (·.add ((Int.toNat (IntKind.wrap .i64 (i7 + 1))) * 2))) (t116.n - (Int.toNat (IntKind.wrap .i64 (i7 + 1)))) (t116.c - (Int.toNat (IntKind.wrap .i64 (i7 + 1))))]) w = .ok (t120.v) w1 ∧ (w1.cell? (e0.add 4)).isSome = true ∧ w1.frozen? (e0.add 4) = false ∧ let w2 := w1.setCell (e0.add 4) (t120.v)
  S19 e0 out6 w2 R
def KE_S18 (E : W.Env) (w : World) (R : W.Post) : Prop := W.asRef (W.Env.get? E 0) fun e0 => W.asSlice (W.Env.get? E 6) fun out6 => W.asInt .i64 (W.Env.get? E 7) fun i7 => W.asSlice (W.Env.get? E 8) fun left8 => S18 e0 out6 i7 left8 w R
theorem KE_S18_ok (R : W.Post) (E : W.Env) (w : World) (h : KE_S18 E w R) : W.WP Try.prog 132 C34 (Q6 R) E w := by
  obtain ⟨e0, hq0, h1⟩ := W.asRef_elim h
  obtain ⟨out6, hq6, h2⟩ := W.asSlice_elim h1
  obtain ⟨i7, hq7, h3⟩ := W.asInt_elim h2
  obtain ⟨left8, hq8, h4⟩ := W.asSlice_elim h3
  exact fun a ha => W.WP.at (E := [(0, .pointer (some e0)), (6, out6.v), (7, .int .i64 i7), (8, left8.v)]) (W.WP.seq (c := C34) (x := C36) (y := C35) (by kernel_rfl) <| W.WP.reg (c := C36) (fun E w => KE_S19 E w R) (by kernel_rfl) (Eq.mp (by kernel_rfl) h4) fun _ _ a hA hK => (KE_S19_ok R _ _ hK) a hA) (ha.cons hq0 (ha.cons hq6 (ha.cons hq7 (ha.cons hq8 ha.nil))))
noncomputable def C37 : Code := W.Code.fst C33
/-- ref.go:93 -/
def S17 (e0 : Addr) (out6 : W.Sl) (i7 : Int) (left8 : W.Sl) (w : World) (R : W.Post) : Prop :=
  ∃ t107 : W.Sl, w.cell? (e0.add 4) = some (t107.v) ∧ 
  (0 : Int) ≤ i7 ∧ i7 ≤ ((t107.c : Nat) : Int) ∧ ∃ (t110 : W.Sl) (w1 : World), Sem.run Try.prog (Builtin.append_ #[ty_sl_enthymemeref38_Held, ty_sl_enthymemeref38_Held] ty_sl_enthymemeref38_Held #[left8.v, .slice (if t107.c = 0 then t107.a else t107.a.map (·.add (0 * 2))) ((Int.toNat i7) - 0) (t107.c - 0)]) w = .ok (t110.v) w1 ∧ S18 e0 out6 i7 t110 w1 R
def KE_S17 (E : W.Env) (w : World) (R : W.Post) : Prop := W.asRef (W.Env.get? E 0) fun e0 => W.asSlice (W.Env.get? E 6) fun out6 => W.asInt .i64 (W.Env.get? E 7) fun i7 => W.asSlice (W.Env.get? E 8) fun left8 => S17 e0 out6 i7 left8 w R
theorem KE_S17_ok (R : W.Post) (E : W.Env) (w : World) (h : KE_S17 E w R) : W.WP Try.prog 132 C33 (Q6 R) E w := by
  obtain ⟨e0, hq0, h1⟩ := W.asRef_elim h
  obtain ⟨out6, hq6, h2⟩ := W.asSlice_elim h1
  obtain ⟨i7, hq7, h3⟩ := W.asInt_elim h2
  obtain ⟨left8, hq8, h4⟩ := W.asSlice_elim h3
  exact fun a ha => W.WP.at (E := [(0, .pointer (some e0)), (6, out6.v), (7, .int .i64 i7), (8, left8.v)]) (W.WP.seq (c := C33) (x := C37) (y := C34) (by kernel_rfl) <| W.WP.reg (c := C37) (fun E w => KE_S18 E w R) (by kernel_rfl) (Eq.mp (by kernel_rfl) h4) fun _ _ a hA hK => (KE_S18_ok R _ _ hK) a hA) (ha.cons hq0 (ha.cons hq6 (ha.cons hq7 (ha.cons hq8 ha.nil))))
noncomputable def C38 : Code := W.Code.fst C32
/-- ref.go:92 -/
def S16 (e0 : Addr) (out6 : W.Sl) (i7 : Int) (w : World) (R : W.Post) : Prop :=
  S17 e0 out6 i7 ⟨none, 0, 0⟩ w R
def KE_S16 (E : W.Env) (w : World) (R : W.Post) : Prop := W.asRef (W.Env.get? E 0) fun e0 => W.asSlice (W.Env.get? E 6) fun out6 => W.asInt .i64 (W.Env.get? E 7) fun i7 => S16 e0 out6 i7 w R
theorem KE_S16_ok (R : W.Post) (E : W.Env) (w : World) (h : KE_S16 E w R) : W.WP Try.prog 132 C32 (Q6 R) E w := by
  obtain ⟨e0, hq0, h1⟩ := W.asRef_elim h
  obtain ⟨out6, hq6, h2⟩ := W.asSlice_elim h1
  obtain ⟨i7, hq7, h3⟩ := W.asInt_elim h2
  exact fun a ha => W.WP.at (E := [(0, .pointer (some e0)), (6, out6.v), (7, .int .i64 i7)]) (W.WP.seq (c := C32) (x := C38) (y := C33) (by kernel_rfl) <| W.WP.reg (c := C38) (fun E w => KE_S17 E w R) (by kernel_rfl) (Eq.mp (by kernel_rfl) h3) fun _ _ a hA hK => (KE_S17_ok R _ _ hK) a hA) (ha.cons hq0 (ha.cons hq6 (ha.cons hq7 ha.nil)))
noncomputable def C39 : Code := W.Code.fst C31
/-- ref.go:91 -/
def S15 (e0 : Addr) (out6 : W.Sl) (i7 : Int) (w : World) (R : W.Post) : Prop :=
  ∃ t96 : W.Sl, w.cell? (e0.add 4) = some (t96.v) ∧ 
  (0 : Int) ≤ i7 ∧ i7 < ((t96.n : Nat) : Int) ∧ W.optP t96.a fun t98_p => ∃ t100 : W.Sl, w.cell? ((t98_p.add (Int.toNat i7 * 2)).add 1) = some (t100.v) ∧ 
  let w1 := w.alloc (.cells #[t100.v] ty_sl_uint8)
  ∃ (t102 : W.Sl) (w2 : World), Sem.run Try.prog (Builtin.append_ #[ty_sl_sl_uint8, ty_sl_sl_uint8] ty_sl_sl_uint8 #[out6.v, .slice (some (Addr.mk w.heap.size 0 none)) 1 1]) w1 = .ok (t102.v) w2 ∧ S16 e0 t102 i7 w2 R
def KE_S15 (E : W.Env) (w : World) (R : W.Post) : Prop := W.asRef (W.Env.get? E 0) fun e0 => W.asSlice (W.Env.get? E 6) fun out6 => W.asInt .i64 (W.Env.get? E 7) fun i7 => S15 e0 out6 i7 w R
theorem KE_S15_ok (R : W.Post) (E : W.Env) (w : World) (h : KE_S15 E w R) : W.WP Try.prog 132 C31 (Q6 R) E w := by
  obtain ⟨e0, hq0, h1⟩ := W.asRef_elim h
  obtain ⟨out6, hq6, h2⟩ := W.asSlice_elim h1
  obtain ⟨i7, hq7, h3⟩ := W.asInt_elim h2
  exact fun a ha => W.WP.at (E := [(0, .pointer (some e0)), (6, out6.v), (7, .int .i64 i7)]) (W.WP.seq (c := C31) (x := C39) (y := C32) (by kernel_rfl) <| W.WP.reg (c := C39) (fun E w => KE_S16 E w R) (by kernel_rfl) (Eq.mp (by kernel_rfl) h3) fun _ _ a hA hK => (KE_S16_ok R _ _ hK) a hA) (ha.cons hq0 (ha.cons hq6 (ha.cons hq7 ha.nil)))
noncomputable def C40 : Code := W.Code.fst C30
/-- ref.go:90 -/
def S14 (e0 : Addr) (out6 : W.Sl) (w : World) (R : W.Post) : Prop :=
  ∃ t89 : Int, w.cell? (e0.add 3) = some (.int .i64 t89) ∧ 
  Calls Try.prog n_enthymemeref38_End_find #[.pointer (some e0), .int .i64 (IntKind.wrap .i64 (t89 + 1))] w fun r_ w1 => ∃ t91 : Int, r_ = .returned (.int .i64 t91) ∧ 
  S15 e0 out6 t91 w1 R
def KE_S14 (E : W.Env) (w : World) (R : W.Post) : Prop := W.asRef (W.Env.get? E 0) fun e0 => W.asSlice (W.Env.get? E 6) fun out6 => S14 e0 out6 w R
theorem KE_S14_ok (R : W.Post) (E : W.Env) (w : World) (h : KE_S14 E w R) : W.WP Try.prog 132 C30 (Q6 R) E w := by
  obtain ⟨e0, hq0, h1⟩ := W.asRef_elim h
  obtain ⟨out6, hq6, h2⟩ := W.asSlice_elim h1
  exact fun a ha => W.WP.at (E := [(0, .pointer (some e0)), (6, out6.v)]) (W.WP.seq (c := C30) (x := C40) (y := C31) (by kernel_rfl) <| W.WP.reg (c := C40) (fun E w => KE_S15 E w R) (by kernel_rfl) (Eq.mp (by kernel_rfl) h2) fun _ _ a hA hK => (KE_S15_ok R _ _ hK) a hA) (ha.cons hq0 (ha.cons hq6 ha.nil))
abbrev Q7 (R : W.Post) : Exit → Act → World → Prop := (bodyPost Try.prog Try.f19 R)
noncomputable def C41 : Code := W.Code.fst C28
noncomputable def C42 : Code := W.Code.snd C28
/-- ref.go:97 -/
def S20 (out6 : W.Sl) (w : World) (R : W.Post) : Prop :=
  R (.returned (out6.v)) w
def KE_S20 (E : W.Env) (w : World) (R : W.Post) : Prop := W.asSlice (W.Env.get? E 6) fun out6 => S20 out6 w R
theorem KE_S20_ok (R : W.Post) (E : W.Env) (w : World) (h : KE_S20 E w R) : W.WP Try.prog 132 C28 (Q7 R) E w := by
  obtain ⟨out6, hq6, h1⟩ := W.asSlice_elim h
  exact fun a ha => W.WP.at (E := [(6, out6.v)]) (W.WP.seq (c := C28) (x := C41) (y := C42) (by kernel_rfl) <| W.WP.reg (c := C41) (fun E w => W.retVC Try.prog Try.f19 E w (fun v => R (.returned v) w)) (by kernel_rfl) (Eq.mp (by kernel_rfl) h1) fun _ _ a hA hK => (W.WP.ret (c := C42) (by kernel_rfl) fun a hA => W.retVC_sound hA hK) a hA) (ha.cons hq6 ha.nil)
noncomputable def C43 : Code := W.Code.fst C27
abbrev Q8 (R : W.Post) : Exit → Act → World → Prop := (Exit.then (Code.wp Try.prog C29 (Exit.then (W.LoopWP Try.prog C27 (Q4 R)) (Q4 R))) (Exit.then (W.LoopWP Try.prog C27 (Q4 R)) (Q4 R)))
noncomputable def C44 : Code := W.Code.fst C43
noncomputable def C45 : Code := W.Code.snd C43
noncomputable def C46 : Code := W.Code.fst C45
noncomputable def C47 : Code := W.Code.snd C45
/-- ref.go:89 -/
def S13 (e0 : Addr) (out6 : W.Sl) (w : World) (R : W.Post) : Prop :=
  ∃ t81 : Int, w.cell? (e0.add 3) = some (.int .i64 t81) ∧ 
  Calls Try.prog n_enthymemeref38_End_find #[.pointer (some e0), .int .i64 (IntKind.wrap .i64 (t81 + 1))] w fun r_ w1 => ∃ t83 : Int, r_ = .returned (.int .i64 t83) ∧ 
  W.sel (decide (t83 ≥ 0)) (S14 e0 out6 w1 R) (S20 out6 w1 R)
def KE_S13 (E : W.Env) (w : World) (R : W.Post) : Prop := W.asRef (W.Env.get? E 0) fun e0 => W.asSlice (W.Env.get? E 6) fun out6 => S13 e0 out6 w R
theorem KE_S13_ok (R : W.Post) (E : W.Env) (w : World) (h : KE_S13 E w R) : W.WP Try.prog 132 C43 (Q8 R) E w := by
  obtain ⟨e0, hq0, h1⟩ := W.asRef_elim h
  obtain ⟨out6, hq6, h2⟩ := W.asSlice_elim h1
  exact fun a ha => W.WP.at (E := [(0, .pointer (some e0)), (6, out6.v)]) (W.WP.seq (c := C43) (x := C44) (y := C45) (by kernel_rfl) <| W.WP.reg (c := C44) (fun E w => W.condK (W.Env.val E (.tmp 84)) (KE_S14 E w R) (KE_S20 E w R)) (by kernel_rfl) (Eq.mp (by kernel_rfl) h2) fun _ _ a hA hK => (W.WP.condK (c := C45) (x := C46) (y := C47) (o := .tmp 84) (by kernel_rfl) (fun hK => (W.WP.skip (c := C46) (by kernel_rfl) fun a hA => (W.WP.block (c := C29) (x := C30) (id := 1) (by kernel_rfl) (KE_S14_ok R _ _ hK)) a hA)) (fun hK => (W.WP.exit (c := C47) (id := 0) (by kernel_rfl) fun a hA => (KE_S20_ok R _ _ hK) a hA)) hK) a hA) (ha.cons hq0 (ha.cons hq6 ha.nil))
theorem L12_step (e0 : Addr) (out6 : W.Sl) (w : World) (R : W.Post) (h : S13 e0 out6 w R) : L12 e0 out6 w R :=
  W.LP.step (c := C27) (E := [(0, .pointer (some e0)), (6, out6.v)]) (w := w) (W.WP.seq (c := C27) (x := C43) (y := C29) (by kernel_rfl) (KE_S13_ok R _ _ (Eq.mp (by kernel_rfl) h)))
noncomputable def C48 : Code := W.Code.fst C23
/-- ref.go:88 -/
def S11 (e0 : Addr) (w : World) (R : W.Post) : Prop :=
  L12 e0 ⟨none, 0, 0⟩ w R
def KE_S11 (E : W.Env) (w : World) (R : W.Post) : Prop := W.asRef (W.Env.get? E 0) fun e0 => S11 e0 w R
theorem KE_S11_ok (R : W.Post) (E : W.Env) (w : World) (h : KE_S11 E w R) : W.WP Try.prog 132 C23 (Q7 R) E w := by
  obtain ⟨e0, hq0, h1⟩ := W.asRef_elim h
  exact fun a ha => W.WP.at (E := [(0, .pointer (some e0))]) (W.WP.seq (c := C23) (x := C48) (y := C24) (by kernel_rfl) <| W.WP.reg (c := C48) (fun E w => KE_L12 E w R) (by kernel_rfl) (Eq.mp (by kernel_rfl) h1) fun _ _ a hA hK => (W.WP.seq (c := C24) (x := C25) (y := C28) (by kernel_rfl) (W.WP.block (c := C25) (x := C26) (id := 0) (by kernel_rfl) (W.WP.loop (c := C26) (x := C27) (by kernel_rfl) (KE_L12_ok R _ _ hK)))) a hA) (ha.cons hq0 ha.nil)
noncomputable def C49 : Code := W.Code.fst C20
/-- ref.go:87 -/
def S10 (e0 p3 : Addr) (w : World) (R : W.Post) : Prop :=
  ∃ t67 : W.Sl, w.drew.cell? (e0.add 4) = some (t67.v) ∧ 
  ∃ t69 : Int, w.drew.cell? (p3.add 0) = some (.int .i64 t69) ∧ 
  ∃ t71 : W.Sl, w.drew.cell? (p3.add 2) = some (t71.v) ∧ 
  let w1 := w.drew.alloc (.cells #[.int .i64 t69, t71.v] ty_enthymemeref38_Held)
  w1.cell? (p3.add 2) = some (t71.v) ∧ w1.cell? (p3.add 0) = some (.int .i64 t69) ∧ w1.cell? (e0.add 4) = some (t67.v) ∧ ∃ (t74 : W.Sl) (w2 : World), Sem.run Try.prog (Builtin.append_ #[ty_sl_enthymemeref38_Held, ty_sl_enthymemeref38_Held] ty_sl_enthymemeref38_Held #[t67.v, .slice (some (Addr.mk w.drew.heap.size 0 none)) 1 1]) w1 = .ok (t74.v) w2 ∧ w2.cell? (p3.add 2) = some (t71.v) ∧ w2.cell? (p3.add 0) = some (.int .i64 t69) ∧ (w2.cell? (e0.add 4)).isSome = true ∧ w2.frozen? (e0.add 4) = false ∧ let w3 := w2.setCell (e0.add 4) (t74.v)
  S11 e0 w3 R
def KE_S10 (E : W.Env) (w : World) (R : W.Post) : Prop := W.asRef (W.Env.get? E 0) fun e0 => W.asRef (W.Env.get? E 3) fun p3 => S10 e0 p3 w R
theorem KE_S10_ok (R : W.Post) (E : W.Env) (w : World) (h : KE_S10 E w R) : W.WP Try.prog 132 C20 (Q7 R) E w := by
  obtain ⟨e0, hq0, h1⟩ := W.asRef_elim h
  obtain ⟨p3, hq3, h2⟩ := W.asRef_elim h1
  exact fun a ha => W.WP.at (E := [(0, .pointer (some e0)), (3, .pointer (some p3))]) (W.WP.seq (c := C20) (x := C49) (y := C23) (by kernel_rfl) <| W.WP.draw (c := C49) [0, 1, 2, 3, 4, 5, 6, 7, 8, 9, 10, 11, 12, 13, 14] (fun E w => KE_S11 E w R) (by kernel_rfl) (Eq.mp (by kernel_rfl) h2) fun _ _ a hA hK => (KE_S11_ok R _ _ hK) a hA) (ha.cons hq0 (ha.cons hq3 ha.nil))
noncomputable def C50 : Code := W.Code.fst C17
noncomputable def C51 : Code := W.Code.snd C18
/-- ref.go:84 -/
def S8 (e0 p3 : Addr) (w : World) (R : W.Post) : Prop :=
  ∃ t50 : Int, w.drew.cell? (p3.add 0) = some (.int .i64 t50) ∧ 
  ∃ t54 : Int, w.drew.cell? (e0.add 3) = some (.int .i64 t54) ∧ 
  W.sel (decide (t50 ≤ t54)) (S9  w.drew R) (∃ t59 : Int, w.drew.cell? (p3.add 0) = some (.int .i64 t59) ∧ 
  Calls Try.prog n_enthymemeref38_End_find #[.pointer (some e0), .int .i64 t59] w.drew fun r_ w1 => ∃ t60 : Int, r_ = .returned (.int .i64 t60) ∧ 
  w1.cell? (e0.add 3) = some (.int .i64 t54) ∧ w1.cell? (p3.add 0) = some (.int .i64 t50) ∧ W.sel (decide (t60 ≥ 0)) (S9  w1 R) (S10 e0 p3 w1 R))
def KE_S8 (E : W.Env) (w : World) (R : W.Post) : Prop := W.asRef (W.Env.get? E 0) fun e0 => W.asRef (W.Env.get? E 3) fun p3 => S8 e0 p3 w R
theorem KE_S8_ok (R : W.Post) (E : W.Env) (w : World) (h : KE_S8 E w R) : W.WP Try.prog 132 C17 (Q2 R) E w := by
  obtain ⟨e0, hq0, h1⟩ := W.asRef_elim h
  obtain ⟨p3, hq3, h2⟩ := W.asRef_elim h1
  exact fun a ha => W.WP.at (E := [(0, .pointer (some e0)), (3, .pointer (some p3))]) (W.WP.seq (c := C17) (x := C50) (y := C18) (by kernel_rfl) <| W.WP.draw (c := C50) [0, 1, 2, 3, 4, 5, 6, 7, 8, 9, 10, 11, 12, 13] (fun E w => W.condK (W.Env.val E (.tmp 62)) (KE_S9 E w R) (KE_S10 E w R)) (by kernel_rfl) (Eq.mp (by kernel_rfl) h2) fun _ _ a hA hK => (W.WP.condK (c := C18) (x := C19) (y := C51) (o := .tmp 62) (by kernel_rfl) (fun hK => (KE_S9_ok R _ _ hK)) (fun hK => (W.WP.skip (c := C51) (by kernel_rfl) fun a hA => (KE_S10_ok R _ _ hK) a hA)) hK) a hA) (ha.cons hq0 (ha.cons hq3 ha.nil))
noncomputable def C52 : Code := W.Code.fst C13
/-- ref.go:83 -/
def S7 (e0 p3 : Addr) (w : World) (R : W.Post) : Prop :=
  (w.cell? (e0.add 5)).isSome = true ∧ w.frozen? (e0.add 5) = false ∧ let w1 := w.setCell (e0.add 5) (.bool true)
  S8 e0 p3 w1 R
def KE_S7 (E : W.Env) (w : World) (R : W.Post) : Prop := W.asRef (W.Env.get? E 0) fun e0 => W.asRef (W.Env.get? E 3) fun p3 => S7 e0 p3 w R
theorem KE_S7_ok (R : W.Post) (E : W.Env) (w : World) (h : KE_S7 E w R) : W.WP Try.prog 132 C13 (Q7 R) E w := by
  obtain ⟨e0, hq0, h1⟩ := W.asRef_elim h
  obtain ⟨p3, hq3, h2⟩ := W.asRef_elim h1
  exact fun a ha => W.WP.at (E := [(0, .pointer (some e0)), (3, .pointer (some p3))]) (W.WP.seq (c := C13) (x := C52) (y := C16) (by kernel_rfl) <| W.WP.reg (c := C52) (fun E w => KE_S8 E w R) (by kernel_rfl) (Eq.mp (by kernel_rfl) h2) fun _ _ a hA hK => (W.WP.seq (c := C16) (x := C17) (y := C20) (by kernel_rfl) (KE_S8_ok R _ _ hK)) a hA) (ha.cons hq0 (ha.cons hq3 ha.nil))
noncomputable def C53 : Code := W.Code.fst C10
noncomputable def C54 : Code := W.Code.snd C11
/-- ref.go:80 -/
def S5 (e0 p3 : Addr) (w : World) (R : W.Post) : Prop :=
  ∃ t44 : Int, w.cell? (p3.add 0) = some (.int .i64 t44) ∧ 
  W.sel (t44 == 0) (S6  w R) (S7 e0 p3 w R)
def KE_S5 (E : W.Env) (w : World) (R : W.Post) : Prop := W.asRef (W.Env.get? E 0) fun e0 => W.asRef (W.Env.get? E 3) fun p3 => S5 e0 p3 w R
theorem KE_S5_ok (R : W.Post) (E : W.Env) (w : World) (h : KE_S5 E w R) : W.WP Try.prog 132 C10 (Q1 R) E w := by
  obtain ⟨e0, hq0, h1⟩ := W.asRef_elim h
  obtain ⟨p3, hq3, h2⟩ := W.asRef_elim h1
  exact fun a ha => W.WP.at (E := [(0, .pointer (some e0)), (3, .pointer (some p3))]) (W.WP.seq (c := C10) (x := C53) (y := C11) (by kernel_rfl) <| W.WP.reg (c := C53) (fun E w => W.condK (W.Env.val E (.tmp 45)) (KE_S6 E w R) (KE_S7 E w R)) (by kernel_rfl) (Eq.mp (by kernel_rfl) h2) fun _ _ a hA hK => (W.WP.condK (c := C11) (x := C12) (y := C54) (o := .tmp 45) (by kernel_rfl) (fun hK => (KE_S6_ok R _ _ hK)) (fun hK => (W.WP.skip (c := C54) (by kernel_rfl) fun a hA => (KE_S7_ok R _ _ hK) a hA)) hK) a hA) (ha.cons hq0 (ha.cons hq3 ha.nil))
noncomputable def C55 : Code := W.Code.fst C6
/-- ref.go:79 -/
def S4 (e0 p3 : Addr) (w : World) (R : W.Post) : Prop :=
  ∃ t37 : Int, w.drew.cell? (e0.add 2) = some (.int .i64 t37) ∧ 
  ∃ t39 : Int, w.drew.cell? (p3.add 1) = some (.int .i64 t39) ∧ 
  (w.drew.cell? (e0.add 2)).isSome = true ∧ w.drew.frozen? (e0.add 2) = false ∧ let w1 := w.drew.setCell (e0.add 2) (.int .i64 (if t37 < t39 then t39 else t37))
  S5 e0 p3 w1 R
def KE_S4 (E : W.Env) (w : World) (R : W.Post) : Prop := W.asRef (W.Env.get? E 0) fun e0 => W.asRef (W.Env.get? E 3) fun p3 => S4 e0 p3 w R
theorem KE_S4_ok (R : W.Post) (E : W.Env) (w : World) (h : KE_S4 E w R) : W.WP Try.prog 132 C6 (Q7 R) E w := by
  obtain ⟨e0, hq0, h1⟩ := W.asRef_elim h
  obtain ⟨p3, hq3, h2⟩ := W.asRef_elim h1
  exact fun a ha => W.WP.at (E := [(0, .pointer (some e0)), (3, .pointer (some p3))]) (W.WP.seq (c := C6) (x := C55) (y := C9) (by kernel_rfl) <| W.WP.draw (c := C55) [0, 1, 2, 3, 4, 5, 6, 7, 8, 9, 10] (fun E w => KE_S5 E w R) (by kernel_rfl) (Eq.mp (by kernel_rfl) h2) fun _ _ a hA hK => (W.WP.seq (c := C9) (x := C10) (y := C13) (by kernel_rfl) (KE_S5_ok R _ _ hK)) a hA) (ha.cons hq0 (ha.cons hq3 ha.nil))
noncomputable def C56 : Code := W.Code.fst C3
noncomputable def C57 : Code := W.Code.snd C4
/-- ref.go:76 -/
def S2 (e0 p3 : Addr) (valid5 : Bool) (w : World) (R : W.Post) : Prop :=
  W.sel (!valid5) (S3  w.drew R) (∃ t15 : Int, w.drew.cell? (p3.add 1) = some (.int .i64 t15) ∧ 
  ∃ t19 : W.Sl, w.drew.cell? (e0.add 1) = some (t19.v) ∧ 
  W.sel (decide (t15 > ((t19.n : Nat) : Int))) (S3  w.drew R) (∃ t25 : Int, w.drew.cell? (p3.add 0) = some (.int .i64 t25) ∧ 
  ∃ t29 : Int, w.drew.cell? (e0.add 3) = some (.int .i64 t29) ∧ 
  W.sel (decide (t25 > (IntKind.wrap .i64 (t29 + 16)))) (S3  w.drew R) (S4 e0 p3 w.drew R)))
def KE_S2 (E : W.Env) (w : World) (R : W.Post) : Prop := W.asRef (W.Env.get? E 0) fun e0 => W.asRef (W.Env.get? E 3) fun p3 => W.asBool' (W.Env.get? E 5) fun valid5 => S2 e0 p3 valid5 w R
theorem KE_S2_ok (R : W.Post) (E : W.Env) (w : World) (h : KE_S2 E w R) : W.WP Try.prog 132 C3 (Q0 R) E w := by
  obtain ⟨e0, hq0, h1⟩ := W.asRef_elim h
  obtain ⟨p3, hq3, h2⟩ := W.asRef_elim h1
  obtain ⟨valid5, hq5, h3⟩ := W.asBool_elim h2
  exact fun a ha => W.WP.at (E := [(0, .pointer (some e0)), (3, .pointer (some p3)), (5, .bool valid5)]) (W.WP.seq (c := C3) (x := C56) (y := C4) (by kernel_rfl) <| W.WP.draw (c := C56) [0, 1, 2, 3, 4, 5, 6, 7, 8, 9, 10, 11, 12, 13, 14, 15, 16, 17, 18, 19, 20, 21] (fun E w => W.condK (W.Env.val E (.tmp 32)) (KE_S3 E w R) (KE_S4 E w R)) (by kernel_rfl) (Eq.mp (by kernel_rfl) h3) fun _ _ a hA hK => (W.WP.condK (c := C4) (x := C5) (y := C57) (o := .tmp 32) (by kernel_rfl) (fun hK => (KE_S3_ok R _ _ hK)) (fun hK => (W.WP.skip (c := C57) (by kernel_rfl) fun a hA => (KE_S4_ok R _ _ hK) a hA)) hK) a hA) (ha.cons hq0 (ha.cons hq3 (ha.cons hq5 ha.nil)))
noncomputable def C58 : Code := W.Code.fst C1
/-- ref.go:75 -/
def S1 (e0 p3 : Addr) (w : World) (R : W.Post) : Prop :=
  ∃ t9_0 : Int, ∃ t9_1 : Int, ∃ t9_2 : W.Sl, w.cell? (p3.add 0) = some (.int .i64 t9_0) ∧ w.cell? (p3.add 1) = some (.int .i64 t9_1) ∧ w.cell? (p3.add 2) = some (t9_2.v) ∧ 
  Calls Try.prog n_enthymemeref38_Valid #[.agg #[.int .i64 t9_0, .int .i64 t9_1, t9_2.v]] w fun r_ w1 => ∃ t10 : Bool, r_ = .returned (.bool t10) ∧ 
  S2 e0 p3 t10 w1 R
def KE_S1 (E : W.Env) (w : World) (R : W.Post) : Prop := W.asRef (W.Env.get? E 0) fun e0 => W.asRef (W.Env.get? E 3) fun p3 => S1 e0 p3 w R
theorem KE_S1_ok (R : W.Post) (E : W.Env) (w : World) (h : KE_S1 E w R) : W.WP Try.prog 132 C1 (Q7 R) E w := by
  obtain ⟨e0, hq0, h1⟩ := W.asRef_elim h
  obtain ⟨p3, hq3, h2⟩ := W.asRef_elim h1
  exact fun a ha => W.WP.at (E := [(0, .pointer (some e0)), (3, .pointer (some p3))]) (W.WP.seq (c := C1) (x := C58) (y := C2) (by kernel_rfl) <| W.WP.reg (c := C58) (fun E w => KE_S2 E w R) (by kernel_rfl) (Eq.mp (by kernel_rfl) h2) fun _ _ a hA hK => (W.WP.seq (c := C2) (x := C3) (y := C6) (by kernel_rfl) (KE_S2_ok R _ _ hK)) a hA) (ha.cons hq0 (ha.cons hq3 ha.nil))
noncomputable def C59 : Code := W.Code.fst C0
/-- ref.go:74 -/
def S0 (e0 : Addr) (p1_0 p1_1 : Int) (p1_2 : W.Sl) (w : World) (R : W.Post) : Prop :=
  let w1 := w.alloc (.cells #[.int .i64 p1_0, .int .i64 p1_1, p1_2.v] ty_enthymemeref38_Packet)
  S1 e0 (Addr.mk w.heap.size 0 none) w1 R
def KE_S0 (E : W.Env) (w : World) (R : W.Post) : Prop := W.asRef (W.Env.get? E 0) fun e0 => W.asAgg (W.Env.get? E 1) fun p1_l0 => W.asCons p1_l0 fun p1_v0 p1_l1 => W.asInt .i64 (some p1_v0) fun p1_0 => W.asCons p1_l1 fun p1_v1 p1_l2 => W.asInt .i64 (some p1_v1) fun p1_1 => W.asCons p1_l2 fun p1_v2 p1_l3 => W.asSlice (some p1_v2) fun p1_2 => W.asNil p1_l3 <| S0 e0 p1_0 p1_1 p1_2 w R
theorem KE_S0_ok (R : W.Post) (E : W.Env) (w : World) (h : KE_S0 E w R) : W.WP Try.prog 132 C0 (Q7 R) E w := by
  obtain ⟨e0, hq0, h1⟩ := W.asRef_elim h
  obtain ⟨p1_l0, hq1, h2⟩ := W.asAgg_elim h1
  obtain ⟨p1_v0, p1_l1, rfl, h3⟩ := W.asCons_elim h2
  obtain ⟨p1_0, ex, h4⟩ := W.asInt_elim h3
  obtain rfl := Option.some.inj ex
  obtain ⟨p1_v1, p1_l2, rfl, h5⟩ := W.asCons_elim h4
  obtain ⟨p1_1, ex, h6⟩ := W.asInt_elim h5
  obtain rfl := Option.some.inj ex
  obtain ⟨p1_v2, p1_l3, rfl, h7⟩ := W.asCons_elim h6
  obtain ⟨p1_2, ex, h8⟩ := W.asSlice_elim h7
  obtain rfl := Option.some.inj ex
  obtain ⟨rfl, h9⟩ := W.asNil_elim h8
  exact fun a ha => W.WP.at (E := [(0, .pointer (some e0)), (1, .agg #[.int .i64 p1_0, .int .i64 p1_1, p1_2.v])]) (W.WP.seq (c := C0) (x := C59) (y := C1) (by kernel_rfl) <| W.WP.reg (c := C59) (fun E w => KE_S1 E w R) (by kernel_rfl) (Eq.mp (by kernel_rfl) h9) fun _ _ a hA hK => (KE_S1_ok R _ _ hK) a hA) (ha.cons hq0 (ha.cons hq1 ha.nil))
/-- (*enthymeme/enthymemeref38.End).In -/
theorem ok (e0 : Addr) (p1_0 p1_1 : Int) (p1_2 : W.Sl) (w : World) (R : W.Post) (h : S0 e0 p1_0 p1_1 p1_2 w R) : Calls Try.prog n_enthymemeref38_End_In #[.pointer (some e0), .agg #[.int .i64 p1_0, .int .i64 p1_1, p1_2.v]] w R :=
  W.calls_of_WP' (fn := Try.f19) (c := C0) (args := [.pointer (some e0), .agg #[.int .i64 p1_0, .int .i64 p1_1, p1_2.v]]) (by kernel_rfl) (by kernel_rfl) (by kernel_rfl) (KE_S0_ok R _ _ (Eq.mp (by kernel_rfl) h))
end enthymemeref38_End_In
namespace enthymemeref38_Same
noncomputable def C0 : Code := (Try.f27.body).getD .skip
noncomputable def C1 : Code := W.Code.snd C0
abbrev Q0 (R : W.Post) : Exit → Act → World → Prop := (bodyPost Try.prog Try.f27 R)
noncomputable def C2 : Code := W.Code.fst C1
noncomputable def C3 : Code := W.Code.snd C1
/-- ref.go:146 -/
def S1 (a2 b3 : Addr) (w : World) (R : W.Post) : Prop :=
  ∃ t6 : Int, w.cell? (a2.add 0) = some (.int .i64 t6) ∧ 
  ∃ t8 : Int, w.cell? (b3.add 0) = some (.int .i64 t8) ∧ 
  W.sel (t6 == t8) (∃ t12 : Int, w.cell? (a2.add 1) = some (.int .i64 t12) ∧ 
  ∃ t14 : Int, w.cell? (b3.add 1) = some (.int .i64 t14) ∧ 
  W.sel (t12 == t14) (∃ t19 : W.Sl, w.cell? (a2.add 2) = some (t19.v) ∧ 
  ∃ t21 : W.Sl, w.cell? (b3.add 2) = some (t21.v) ∧ 
  Calls Try.prog n_enthymemeref01_SameBytes #[t19.v, t21.v] w fun r_ w1 => ∃ t22 : Bool, r_ = .returned (.bool t22) ∧ 
  R (.returned (.bool t22)) w1) (R (.returned (.bool false)) w)) (R (.returned (.bool false)) w)
def KE_S1 (E : W.Env) (w : World) (R : W.Post) : Prop := W.asRef (W.Env.get? E 2) fun a2 => W.asRef (W.Env.get? E 3) fun b3 => S1 a2 b3 w R
theorem KE_S1_ok (R : W.Post) (E : W.Env) (w : World) (h : KE_S1 E w R) : W.WP Try.prog 24 C1 (Q0 R) E w := by
  obtain ⟨a2, hq2, h1⟩ := W.asRef_elim h
  obtain ⟨b3, hq3, h2⟩ := W.asRef_elim h1
  exact fun a ha => W.WP.at (E := [(2, .pointer (some a2)), (3, .pointer (some b3))]) (W.WP.seq (c := C1) (x := C2) (y := C3) (by kernel_rfl) <| W.WP.reg (c := C2) (fun E w => W.retVC Try.prog Try.f27 E w (fun v => R (.returned v) w)) (by kernel_rfl) (Eq.mp (by kernel_rfl) h2) fun _ _ a hA hK => (W.WP.ret (c := C3) (by kernel_rfl) fun a hA => W.retVC_sound hA hK) a hA) (ha.cons hq2 (ha.cons hq3 ha.nil))
noncomputable def C4 : Code := W.Code.fst C0
/-- ref.go:145 -/
def S0 (a0_0 a0_1 : Int) (a0_2 : W.Sl) (b1_0 b1_1 : Int) (b1_2 : W.Sl) (w : World) (R : W.Post) : Prop :=
  let w1 := w.alloc (.cells #[.int .i64 a0_0, .int .i64 a0_1, a0_2.v] ty_enthymemeref38_Packet)
  let w2 := w1.alloc (.cells #[.int .i64 b1_0, .int .i64 b1_1, b1_2.v] ty_enthymemeref38_Packet)
  S1 (Addr.mk w.heap.size 0 none) (Addr.mk w1.heap.size 0 none) w2 R
def KE_S0 (E : W.Env) (w : World) (R : W.Post) : Prop := W.asAgg (W.Env.get? E 0) fun a0_l0 => W.asCons a0_l0 fun a0_v0 a0_l1 => W.asInt .i64 (some a0_v0) fun a0_0 => W.asCons a0_l1 fun a0_v1 a0_l2 => W.asInt .i64 (some a0_v1) fun a0_1 => W.asCons a0_l2 fun a0_v2 a0_l3 => W.asSlice (some a0_v2) fun a0_2 => W.asNil a0_l3 <| W.asAgg (W.Env.get? E 1) fun b1_l0 => W.asCons b1_l0 fun b1_v0 b1_l1 => W.asInt .i64 (some b1_v0) fun b1_0 => W.asCons b1_l1 fun b1_v1 b1_l2 => W.asInt .i64 (some b1_v1) fun b1_1 => W.asCons b1_l2 fun b1_v2 b1_l3 => W.asSlice (some b1_v2) fun b1_2 => W.asNil b1_l3 <| S0 a0_0 a0_1 a0_2 b1_0 b1_1 b1_2 w R
theorem KE_S0_ok (R : W.Post) (E : W.Env) (w : World) (h : KE_S0 E w R) : W.WP Try.prog 24 C0 (Q0 R) E w := by
  obtain ⟨a0_l0, hq0, h1⟩ := W.asAgg_elim h
  obtain ⟨a0_v0, a0_l1, rfl, h2⟩ := W.asCons_elim h1
  obtain ⟨a0_0, ex, h3⟩ := W.asInt_elim h2
  obtain rfl := Option.some.inj ex
  obtain ⟨a0_v1, a0_l2, rfl, h4⟩ := W.asCons_elim h3
  obtain ⟨a0_1, ex, h5⟩ := W.asInt_elim h4
  obtain rfl := Option.some.inj ex
  obtain ⟨a0_v2, a0_l3, rfl, h6⟩ := W.asCons_elim h5
  obtain ⟨a0_2, ex, h7⟩ := W.asSlice_elim h6
  obtain rfl := Option.some.inj ex
  obtain ⟨rfl, h8⟩ := W.asNil_elim h7
  obtain ⟨b1_l0, hq1, h9⟩ := W.asAgg_elim h8
  obtain ⟨b1_v0, b1_l1, rfl, h10⟩ := W.asCons_elim h9
  obtain ⟨b1_0, ex, h11⟩ := W.asInt_elim h10
  obtain rfl := Option.some.inj ex
  obtain ⟨b1_v1, b1_l2, rfl, h12⟩ := W.asCons_elim h11
  obtain ⟨b1_1, ex, h13⟩ := W.asInt_elim h12
  obtain rfl := Option.some.inj ex
  obtain ⟨b1_v2, b1_l3, rfl, h14⟩ := W.asCons_elim h13
  obtain ⟨b1_2, ex, h15⟩ := W.asSlice_elim h14
  obtain rfl := Option.some.inj ex
  obtain ⟨rfl, h16⟩ := W.asNil_elim h15
  exact fun a ha => W.WP.at (E := [(0, .agg #[.int .i64 a0_0, .int .i64 a0_1, a0_2.v]), (1, .agg #[.int .i64 b1_0, .int .i64 b1_1, b1_2.v])]) (W.WP.seq (c := C0) (x := C4) (y := C1) (by kernel_rfl) <| W.WP.reg (c := C4) (fun E w => KE_S1 E w R) (by kernel_rfl) (Eq.mp (by kernel_rfl) h16) fun _ _ a hA hK => (KE_S1_ok R _ _ hK) a hA) (ha.cons hq0 (ha.cons hq1 ha.nil))
/-- enthymeme/enthymemeref38.Same -/
theorem ok (a0_0 a0_1 : Int) (a0_2 : W.Sl) (b1_0 b1_1 : Int) (b1_2 : W.Sl) (w : World) (R : W.Post) (h : S0 a0_0 a0_1 a0_2 b1_0 b1_1 b1_2 w R) : Calls Try.prog n_enthymemeref38_Same #[.agg #[.int .i64 a0_0, .int .i64 a0_1, a0_2.v], .agg #[.int .i64 b1_0, .int .i64 b1_1, b1_2.v]] w R :=
  W.calls_of_WP' (fn := Try.f27) (c := C0) (args := [.agg #[.int .i64 a0_0, .int .i64 a0_1, a0_2.v], .agg #[.int .i64 b1_0, .int .i64 b1_1, b1_2.v]]) (by kernel_rfl) (by kernel_rfl) (by kernel_rfl) (KE_S0_ok R _ _ (Eq.mp (by kernel_rfl) h))
end enthymemeref38_Same
namespace enthymemelaw38_plain
noncomputable def C0 : Code := (Try.f28.body).getD .skip
noncomputable def C1 : Code := W.Code.snd C0
abbrev Q0 (R : W.Post) : Exit → Act → World → Prop := (bodyPost Try.prog Try.f28 R)
noncomputable def C2 : Code := W.Code.fst C1
noncomputable def C3 : Code := W.Code.snd C1
/-- law.go:40 -/
def S1 (p1 t2 : Addr) (w : World) (R : W.Post) : Prop :=
  ∃ t4 : Int, w.cell? (p1.add 0) = some (.int .i64 t4) ∧ 
  ∃ t6 : Int, w.cell? (p1.add 1) = some (.int .i64 t6) ∧ 
  ∃ t8 : W.Sl, w.cell? (p1.add 2) = some (t8.v) ∧ 
  (w.cell? t2).isSome = true ∧ w.frozen? t2 = false ∧ let w1 := w.setCell t2 (.int .i64 t4)
  (w1.cell? (t2.add 1)).isSome = true ∧ w1.frozen? (t2.add 1) = false ∧ let w2 := w1.setCell (t2.add 1) (.int .i64 t6)
  (w2.cell? (t2.add 2)).isSome = true ∧ w2.frozen? (t2.add 2) = false ∧ let w3 := w2.setCell (t2.add 2) (t8.v)
  ∃ r2_0 : Int, ∃ r2_1 : Int, ∃ r2_2 : W.Sl, w3.cell? (t2.add 0) = some (.int .i64 r2_0) ∧ w3.cell? (t2.add 1) = some (.int .i64 r2_1) ∧ w3.cell? (t2.add 2) = some (r2_2.v) ∧ 
  R (.returned (.agg #[.int .i64 r2_0, .int .i64 r2_1, r2_2.v])) w3
def KE_S1 (E : W.Env) (w : World) (R : W.Post) : Prop := W.asRef (W.Env.get? E 1) fun p1 => W.asRef (W.Env.get? E 2) fun t2 => S1 p1 t2 w R
theorem KE_S1_ok (R : W.Post) (E : W.Env) (w : World) (h : KE_S1 E w R) : W.WP Try.prog 10 C1 (Q0 R) E w := by
  obtain ⟨p1, hq1, h1⟩ := W.asRef_elim h
  obtain ⟨t2, hq2, h2⟩ := W.asRef_elim h1
  exact fun a ha => W.WP.at (E := [(1, .pointer (some p1)), (2, .pointer (some t2))]) (W.WP.seq (c := C1) (x := C2) (y := C3) (by kernel_rfl) <| W.WP.reg (c := C2) (fun E w => W.retVC Try.prog Try.f28 E w (fun v => R (.returned v) w)) (by kernel_rfl) (Eq.mp (by kernel_rfl) h2) fun _ _ a hA hK => (W.WP.ret (c := C3) (by kernel_rfl) fun a hA => W.retVC_sound hA hK) a hA) (ha.cons hq1 (ha.cons hq2 ha.nil))
noncomputable def C4 : Code := W.Code.fst C0
/-- law.go:39 -/
def S0 (p0_0 p0_1 : Int) (p0_2 : W.Sl) (w : World) (R : W.Post) : Prop :=
  let w1 := w.alloc (.cells #[.int .i64 p0_0, .int .i64 p0_1, p0_2.v] ty_channel_Packet)
  let w2 := w1.alloc (.cells #[.int .i64 0, .int .i64 0, .slice none 0 0] ty_enthymemeref38_Packet)
  S1 (Addr.mk w.heap.size 0 none) (Addr.mk w1.heap.size 0 none) w2 R
def KE_S0 (E : W.Env) (w : World) (R : W.Post) : Prop := W.asAgg (W.Env.get? E 0) fun p0_l0 => W.asCons p0_l0 fun p0_v0 p0_l1 => W.asInt .i64 (some p0_v0) fun p0_0 => W.asCons p0_l1 fun p0_v1 p0_l2 => W.asInt .i64 (some p0_v1) fun p0_1 => W.asCons p0_l2 fun p0_v2 p0_l3 => W.asSlice (some p0_v2) fun p0_2 => W.asNil p0_l3 <| S0 p0_0 p0_1 p0_2 w R
theorem KE_S0_ok (R : W.Post) (E : W.Env) (w : World) (h : KE_S0 E w R) : W.WP Try.prog 10 C0 (Q0 R) E w := by
  obtain ⟨p0_l0, hq0, h1⟩ := W.asAgg_elim h
  obtain ⟨p0_v0, p0_l1, rfl, h2⟩ := W.asCons_elim h1
  obtain ⟨p0_0, ex, h3⟩ := W.asInt_elim h2
  obtain rfl := Option.some.inj ex
  obtain ⟨p0_v1, p0_l2, rfl, h4⟩ := W.asCons_elim h3
  obtain ⟨p0_1, ex, h5⟩ := W.asInt_elim h4
  obtain rfl := Option.some.inj ex
  obtain ⟨p0_v2, p0_l3, rfl, h6⟩ := W.asCons_elim h5
  obtain ⟨p0_2, ex, h7⟩ := W.asSlice_elim h6
  obtain rfl := Option.some.inj ex
  obtain ⟨rfl, h8⟩ := W.asNil_elim h7
  exact fun a ha => W.WP.at (E := [(0, .agg #[.int .i64 p0_0, .int .i64 p0_1, p0_2.v])]) (W.WP.seq (c := C0) (x := C4) (y := C1) (by kernel_rfl) <| W.WP.reg (c := C4) (fun E w => KE_S1 E w R) (by kernel_rfl) (Eq.mp (by kernel_rfl) h8) fun _ _ a hA hK => (KE_S1_ok R _ _ hK) a hA) (ha.cons hq0 ha.nil)
/-- enthymeme/enthymemelaw38.plain -/
theorem ok (p0_0 p0_1 : Int) (p0_2 : W.Sl) (w : World) (R : W.Post) (h : S0 p0_0 p0_1 p0_2 w R) : Calls Try.prog n_enthymemelaw38_plain #[.agg #[.int .i64 p0_0, .int .i64 p0_1, p0_2.v]] w R :=
  W.calls_of_WP' (fn := Try.f28) (c := C0) (args := [.agg #[.int .i64 p0_0, .int .i64 p0_1, p0_2.v]]) (by kernel_rfl) (by kernel_rfl) (by kernel_rfl) (KE_S0_ok R _ _ (Eq.mp (by kernel_rfl) h))
end enthymemelaw38_plain
namespace enthymemeref38_Valid
noncomputable def C0 : Code := (Try.f31.body).getD .skip
noncomputable def C1 : Code := W.Code.snd C0
abbrev Q0 (R : W.Post) : Exit → Act → World → Prop := (bodyPost Try.prog Try.f31 R)
noncomputable def C2 : Code := W.Code.fst C1
noncomputable def C3 : Code := W.Code.snd C1
/-- ref.go:60 -/
def S1 (p1 : Addr) (w : World) (R : W.Post) : Prop :=
  ∃ t4 : Int, w.cell? (p1.add 0) = some (.int .i64 t4) ∧ 
  W.sel (decide (t4 ≥ 0)) (∃ t8 : Int, w.cell? (p1.add 1) = some (.int .i64 t8) ∧ 
  W.sel (decide (t8 ≥ 0)) (∃ t13 : W.Sl, w.cell? (p1.add 2) = some (t13.v) ∧ 
  W.sel (decide (((t13.n : Nat) : Int) ≤ 65536)) (∃ t19 : Int, w.cell? (p1.add 0) = some (.int .i64 t19) ∧ 
  W.sel (decide (t19 > 0)) (R (.returned (.bool true)) w) (∃ t23 : W.Sl, w.cell? (p1.add 2) = some (t23.v) ∧ 
  R (.returned (.bool (((t23.n : Nat) : Int) == 0))) w)) (R (.returned (.bool false)) w)) (R (.returned (.bool false)) w)) (R (.returned (.bool false)) w)
def KE_S1 (E : W.Env) (w : World) (R : W.Post) : Prop := W.asRef (W.Env.get? E 1) fun p1 => S1 p1 w R
theorem KE_S1_ok (R : W.Post) (E : W.Env) (w : World) (h : KE_S1 E w R) : W.WP Try.prog 28 C1 (Q0 R) E w := by
  obtain ⟨p1, hq1, h1⟩ := W.asRef_elim h
  exact fun a ha => W.WP.at (E := [(1, .pointer (some p1))]) (W.WP.seq (c := C1) (x := C2) (y := C3) (by kernel_rfl) <| W.WP.reg (c := C2) (fun E w => W.retVC Try.prog Try.f31 E w (fun v => R (.returned v) w)) (by kernel_rfl) (Eq.mp (by kernel_rfl) h1) fun _ _ a hA hK => (W.WP.ret (c := C3) (by kernel_rfl) fun a hA => W.retVC_sound hA hK) a hA) (ha.cons hq1 ha.nil)
noncomputable def C4 : Code := W.Code.fst C0
/-- ref.go:59 -/
def S0 (p0_0 p0_1 : Int) (p0_2 : W.Sl) (w : World) (R : W.Post) : Prop :=
  let w1 := w.alloc (.cells #[.int .i64 p0_0, .int .i64 p0_1, p0_2.v] ty_enthymemeref38_Packet)
  S1 (Addr.mk w.heap.size 0 none) w1 R
def KE_S0 (E : W.Env) (w : World) (R : W.Post) : Prop := W.asAgg (W.Env.get? E 0) fun p0_l0 => W.asCons p0_l0 fun p0_v0 p0_l1 => W.asInt .i64 (some p0_v0) fun p0_0 => W.asCons p0_l1 fun p0_v1 p0_l2 => W.asInt .i64 (some p0_v1) fun p0_1 => W.asCons p0_l2 fun p0_v2 p0_l3 => W.asSlice (some p0_v2) fun p0_2 => W.asNil p0_l3 <| S0 p0_0 p0_1 p0_2 w R
theorem KE_S0_ok (R : W.Post) (E : W.Env) (w : World) (h : KE_S0 E w R) : W.WP Try.prog 28 C0 (Q0 R) E w := by
  obtain ⟨p0_l0, hq0, h1⟩ := W.asAgg_elim h
  obtain ⟨p0_v0, p0_l1, rfl, h2⟩ := W.asCons_elim h1
  obtain ⟨p0_0, ex, h3⟩ := W.asInt_elim h2
  obtain rfl := Option.some.inj ex
  obtain ⟨p0_v1, p0_l2, rfl, h4⟩ := W.asCons_elim h3
  obtain ⟨p0_1, ex, h5⟩ := W.asInt_elim h4
  obtain rfl := Option.some.inj ex
  obtain ⟨p0_v2, p0_l3, rfl, h6⟩ := W.asCons_elim h5
  obtain ⟨p0_2, ex, h7⟩ := W.asSlice_elim h6
  obtain rfl := Option.some.inj ex
  obtain ⟨rfl, h8⟩ := W.asNil_elim h7
  exact fun a ha => W.WP.at (E := [(0, .agg #[.int .i64 p0_0, .int .i64 p0_1, p0_2.v])]) (W.WP.seq (c := C0) (x := C4) (y := C1) (by kernel_rfl) <| W.WP.reg (c := C4) (fun E w => KE_S1 E w R) (by kernel_rfl) (Eq.mp (by kernel_rfl) h8) fun _ _ a hA hK => (KE_S1_ok R _ _ hK) a hA) (ha.cons hq0 ha.nil)
/-- enthymeme/enthymemeref38.Valid -/
theorem ok (p0_0 p0_1 : Int) (p0_2 : W.Sl) (w : World) (R : W.Post) (h : S0 p0_0 p0_1 p0_2 w R) : Calls Try.prog n_enthymemeref38_Valid #[.agg #[.int .i64 p0_0, .int .i64 p0_1, p0_2.v]] w R :=
  W.calls_of_WP' (fn := Try.f31) (c := C0) (args := [.agg #[.int .i64 p0_0, .int .i64 p0_1, p0_2.v]]) (by kernel_rfl) (by kernel_rfl) (by kernel_rfl) (KE_S0_ok R _ _ (Eq.mp (by kernel_rfl) h))
end enthymemeref38_Valid
namespace enthymemeref38_End_find
noncomputable def C0 : Code := (Try.f32.body).getD .skip
noncomputable def C1 : Code := W.Code.snd C0
noncomputable def C2 : Code := W.Code.fst C1
noncomputable def C3 : Code := W.Code.snd C2
noncomputable def C4 : Code := W.Code.fst C3
noncomputable def C5 : Code := W.Code.fst C4
noncomputable def C6 : Code := W.Code.snd C1
abbrev Q0 (R : W.Post) : Exit → Act → World → Prop := (Exit.then (Code.wp Try.prog C6 (bodyPost Try.prog Try.f32 R)) (bodyPost Try.prog Try.f32 R))
abbrev Q1 (R : W.Post) : Exit → Act → World → Prop := (Exit.inBlock 0 (Q0 R))
/-- the head of the loop, ref.go:65 -/
def L2 (e0 : Addr) (seq1 i5 : Int) (w : World) (R : W.Post) : Prop := W.LP Try.prog 26 C5 (Q1 R) [(0, .pointer (some e0)), (1, .int .i64 seq1), (5, .int .i64 i5)] w
def KE_L2 (E : W.Env) (w : World) (R : W.Post) : Prop := W.asRef (W.Env.get? E 0) fun e0 => W.asInt .i64 (W.Env.get? E 1) fun seq1 => W.asInt .i64 (W.Env.get? E 5) fun i5 => L2 e0 seq1 i5 w R
theorem KE_L2_ok (R : W.Post) (E : W.Env) (w : World) (h : KE_L2 E w R) : W.LP Try.prog 26 C5 (Q1 R) E w := by
  obtain ⟨e0, hq0, h1⟩ := W.asRef_elim h
  obtain ⟨seq1, hq1, h2⟩ := W.asInt_elim h1
  obtain ⟨i5, hq5, h3⟩ := W.asInt_elim h2
  intro a ha
  exact h3 a (ha.cons hq0 (ha.cons hq1 (ha.cons hq5 ha.nil)))
noncomputable def C7 : Code := W.Code.snd C5
noncomputable def C8 : Code := W.Code.fst C7
noncomputable def C9 : Code := W.Code.fst C8
noncomputable def C10 : Code := W.Code.snd C9
noncomputable def C11 : Code := W.Code.fst C10
noncomputable def C12 : Code := W.Code.snd C7
abbrev Q2 (R : W.Post) : Exit → Act → World → Prop := (Exit.then (Code.wp Try.prog C12 (Exit.then (W.LoopWP Try.prog C5 (Q1 R)) (Q1 R))) (Exit.then (W.LoopWP Try.prog C5 (Q1 R)) (Q1 R)))
abbrev Q3 (R : W.Post) : Exit → Act → World → Prop := (Exit.inBlock 1 (Q2 R))
noncomputable def C13 : Code := W.Code.fst C11
noncomputable def C14 : Code := W.Code.snd C11
/-- ref.go:67 -/
def S5 (i5 : Int) (w : World) (R : W.Post) : Prop :=
  R (.returned (.int .i64 i5)) w
def KE_S5 (E : W.Env) (w : World) (R : W.Post) : Prop := W.asInt .i64 (W.Env.get? E 5) fun i5 => S5 i5 w R
theorem KE_S5_ok (R : W.Post) (E : W.Env) (w : World) (h : KE_S5 E w R) : W.WP Try.prog 26 C11 (Q3 R) E w := by
  obtain ⟨i5, hq5, h1⟩ := W.asInt_elim h
  exact fun a ha => W.WP.at (E := [(5, .int .i64 i5)]) (W.WP.seq (c := C11) (x := C13) (y := C14) (by kernel_rfl) <| W.WP.reg (c := C13) (fun E w => W.retVC Try.prog Try.f32 E w (fun v => R (.returned v) w)) (by kernel_rfl) (Eq.mp (by kernel_rfl) h1) fun _ _ a hA hK => (W.WP.ret (c := C14) (by kernel_rfl) fun a hA => W.retVC_sound hA hK) a hA) (ha.cons hq5 ha.nil)
abbrev Q4 (R : W.Post) : Exit → Act → World → Prop := (Exit.then (W.LoopWP Try.prog C5 (Q1 R)) (Q1 R))
/-- ref.go:65 -/
def S6 (e0 : Addr) (seq1 i5 : Int) (w : World) (R : W.Post) : Prop :=
  L2 e0 seq1 (IntKind.wrap .i64 (i5 + 1)) w R
def KE_S6 (E : W.Env) (w : World) (R : W.Post) : Prop := W.asRef (W.Env.get? E 0) fun e0 => W.asInt .i64 (W.Env.get? E 1) fun seq1 => W.asInt .i64 (W.Env.get? E 5) fun i5 => S6 e0 seq1 i5 w R
theorem KE_S6_ok (R : W.Post) (E : W.Env) (w : World) (h : KE_S6 E w R) : W.WP Try.prog 26 C12 (Q4 R) E w := by
  obtain ⟨e0, hq0, h1⟩ := W.asRef_elim h
  obtain ⟨seq1, hq1, h2⟩ := W.asInt_elim h1
  obtain ⟨i5, hq5, h3⟩ := W.asInt_elim h2
  exact fun a ha => W.WP.at (E := [(0, .pointer (some e0)), (1, .int .i64 seq1), (5, .int .i64 i5)]) (W.WP.reg (c := C12) (fun E w => KE_L2 E w R) (by kernel_rfl) (Eq.mp (by kernel_rfl) h3) fun _ _ a hA hK => KE_L2_ok R _ _ hK a hA) (ha.cons hq0 (ha.cons hq1 (ha.cons hq5 ha.nil)))
noncomputable def C15 : Code := W.Code.fst C9
noncomputable def C16 : Code := W.Code.snd C10
/-- ref.go:66 -/
def S4 (e0 : Addr) (seq1 i5 : Int) (w : World) (R : W.Post) : Prop :=
  ∃ t18 : W.Sl, w.cell? (e0.add 4) = some (t18.v) ∧ 
  (0 : Int) ≤ i5 ∧ i5 < ((t18.n : Nat) : Int) ∧ W.optP t18.a fun t20_p => ∃ t22 : Int, w.cell? ((t20_p.add (Int.toNat i5 * 2)).add 0) = some (.int .i64 t22) ∧ 
  W.sel (t22 == seq1) (S5 i5 w R) (S6 e0 seq1 i5 w R)
def KE_S4 (E : W.Env) (w : World) (R : W.Post) : Prop := W.asRef (W.Env.get? E 0) fun e0 => W.asInt .i64 (W.Env.get? E 1) fun seq1 => W.asInt .i64 (W.Env.get? E 5) fun i5 => S4 e0 seq1 i5 w R
theorem KE_S4_ok (R : W.Post) (E : W.Env) (w : World) (h : KE_S4 E w R) : W.WP Try.prog 26 C9 (Q3 R) E w := by
  obtain ⟨e0, hq0, h1⟩ := W.asRef_elim h
  obtain ⟨seq1, hq1, h2⟩ := W.asInt_elim h1
  obtain ⟨i5, hq5, h3⟩ := W.asInt_elim h2
  exact fun a ha => W.WP.at (E := [(0, .pointer (some e0)), (1, .int .i64 seq1), (5, .int .i64 i5)]) (W.WP.seq (c := C9) (x := C15) (y := C10) (by kernel_rfl) <| W.WP.reg (c := C15) (fun E w => W.condK (W.Env.val E (.tmp 24)) (KE_S5 E w R) (KE_S6 E w R)) (by kernel_rfl) (Eq.mp (by kernel_rfl) h3) fun _ _ a hA hK => (W.WP.condK (c := C10) (x := C11) (y := C16) (o := .tmp 24) (by kernel_rfl) (fun hK => (KE_S5_ok R _ _ hK)) (fun hK => (W.WP.skip (c := C16) (by kernel_rfl) fun a hA => (KE_S6_ok R _ _ hK) a hA)) hK) a hA) (ha.cons hq0 (ha.cons hq1 (ha.cons hq5 ha.nil)))
abbrev Q5 (R : W.Post) : Exit → Act → World → Prop := (bodyPost Try.prog Try.f32 R)
noncomputable def C17 : Code := W.Code.fst C6
noncomputable def C18 : Code := W.Code.snd C6
/-- ref.go:70 -/
def S7  (w : World) (R : W.Post) : Prop :=
  R (.returned (.int .i64 (-1))) w
def KE_S7 (E : W.Env) (w : World) (R : W.Post) : Prop := S7  w R
theorem KE_S7_ok (R : W.Post) (E : W.Env) (w : World) (h : KE_S7 E w R) : W.WP Try.prog 26 C6 (Q5 R) E w := by
  exact fun a ha => W.WP.at (E := []) (W.WP.seq (c := C6) (x := C17) (y := C18) (by kernel_rfl) <| W.WP.reg (c := C17) (fun E w => W.retVC Try.prog Try.f32 E w (fun v => R (.returned v) w)) (by kernel_rfl) (Eq.mp (by kernel_rfl) h) fun _ _ a hA hK => (W.WP.ret (c := C18) (by kernel_rfl) fun a hA => W.retVC_sound hA hK) a hA) ha.nil
noncomputable def C19 : Code := W.Code.fst C5
abbrev Q6 (R : W.Post) : Exit → Act → World → Prop := (Exit.then (Code.wp Try.prog C7 (Exit.then (W.LoopWP Try.prog C5 (Q1 R)) (Q1 R))) (Exit.then (W.LoopWP Try.prog C5 (Q1 R)) (Q1 R)))
noncomputable def C20 : Code := W.Code.fst C19
noncomputable def C21 : Code := W.Code.snd C19
noncomputable def C22 : Code := W.Code.fst C21
noncomputable def C23 : Code := W.Code.snd C21
/-- ref.go:65 -/
def S3 (e0 : Addr) (seq1 i5 : Int) (w : World) (R : W.Post) : Prop :=
  ∃ t10 : W.Sl, w.cell? (e0.add 4) = some (t10.v) ∧ 
  W.sel (decide (i5 < ((t10.n : Nat) : Int))) (S4 e0 seq1 i5 w R) (S7  w R)
def KE_S3 (E : W.Env) (w : World) (R : W.Post) : Prop := W.asRef (W.Env.get? E 0) fun e0 => W.asInt .i64 (W.Env.get? E 1) fun seq1 => W.asInt .i64 (W.Env.get? E 5) fun i5 => S3 e0 seq1 i5 w R
theorem KE_S3_ok (R : W.Post) (E : W.Env) (w : World) (h : KE_S3 E w R) : W.WP Try.prog 26 C19 (Q6 R) E w := by
  obtain ⟨e0, hq0, h1⟩ := W.asRef_elim h
  obtain ⟨seq1, hq1, h2⟩ := W.asInt_elim h1
  obtain ⟨i5, hq5, h3⟩ := W.asInt_elim h2
  exact fun a ha => W.WP.at (E := [(0, .pointer (some e0)), (1, .int .i64 seq1), (5, .int .i64 i5)]) (W.WP.seq (c := C19) (x := C20) (y := C21) (by kernel_rfl) <| W.WP.reg (c := C20) (fun E w => W.condK (W.Env.val E (.tmp 12)) (KE_S4 E w R) (KE_S7 E w R)) (by kernel_rfl) (Eq.mp (by kernel_rfl) h3) fun _ _ a hA hK => (W.WP.condK (c := C21) (x := C22) (y := C23) (o := .tmp 12) (by kernel_rfl) (fun hK => (W.WP.skip (c := C22) (by kernel_rfl) fun a hA => (W.WP.seq (c := C7) (x := C8) (y := C12) (by kernel_rfl) (W.WP.block (c := C8) (x := C9) (id := 1) (by kernel_rfl) (KE_S4_ok R _ _ hK))) a hA)) (fun hK => (W.WP.exit (c := C23) (id := 0) (by kernel_rfl) fun a hA => (KE_S7_ok R _ _ hK) a hA)) hK) a hA) (ha.cons hq0 (ha.cons hq1 (ha.cons hq5 ha.nil)))
theorem L2_step (e0 : Addr) (seq1 i5 : Int) (w : World) (R : W.Post) (h : S3 e0 seq1 i5 w R) : L2 e0 seq1 i5 w R :=
  W.LP.step (c := C5) (E := [(0, .pointer (some e0)), (1, .int .i64 seq1), (5, .int .i64 i5)]) (w := w) (W.WP.seq (c := C5) (x := C19) (y := C7) (by kernel_rfl) (KE_S3_ok R _ _ (Eq.mp (by kernel_rfl) h)))
noncomputable def C24 : Code := W.Code.fst C2
/-- ref.go:65 -/
def S1 (e0 : Addr) (seq1 : Int) (w : World) (R : W.Post) : Prop :=
  L2 e0 seq1 0 w R
def KE_S1 (E : W.Env) (w : World) (R : W.Post) : Prop := W.asRef (W.Env.get? E 0) fun e0 => W.asInt .i64 (W.Env.get? E 1) fun seq1 => S1 e0 seq1 w R
theorem KE_S1_ok (R : W.Post) (E : W.Env) (w : World) (h : KE_S1 E w R) : W.WP Try.prog 26 C2 (Q0 R) E w := by
  obtain ⟨e0, hq0, h1⟩ := W.asRef_elim h
  obtain ⟨seq1, hq1, h2⟩ := W.asInt_elim h1
  exact fun a ha => W.WP.at (E := [(0, .pointer (some e0)), (1, .int .i64 seq1)]) (W.WP.seq (c := C2) (x := C24) (y := C3) (by kernel_rfl) <| W.WP.reg (c := C24) (fun E w => KE_L2 E w R) (by kernel_rfl) (Eq.mp (by kernel_rfl) h2) fun _ _ a hA hK => (W.WP.block (c := C3) (x := C4) (id := 0) (by kernel_rfl) (W.WP.loop (c := C4) (x := C5) (by kernel_rfl) (KE_L2_ok R _ _ hK))) a hA) (ha.cons hq0 (ha.cons hq1 ha.nil))
noncomputable def C25 : Code := W.Code.fst C0
/-- ref.go:64 -/
def S0 (e0 : Addr) (seq1 : Int) (w : World) (R : W.Post) : Prop :=
  S1 e0 seq1 w R
def KE_S0 (E : W.Env) (w : World) (R : W.Post) : Prop := W.asRef (W.Env.get? E 0) fun e0 => W.asInt .i64 (W.Env.get? E 1) fun seq1 => S0 e0 seq1 w R
theorem KE_S0_ok (R : W.Post) (E : W.Env) (w : World) (h : KE_S0 E w R) : W.WP Try.prog 26 C0 (Q5 R) E w := by
  obtain ⟨e0, hq0, h1⟩ := W.asRef_elim h
  obtain ⟨seq1, hq1, h2⟩ := W.asInt_elim h1
  exact fun a ha => W.WP.at (E := [(0, .pointer (some e0)), (1, .int .i64 seq1)]) (W.WP.seq (c := C0) (x := C25) (y := C1) (by kernel_rfl) <| W.WP.reg (c := C25) (fun E w => KE_S1 E w R) (by kernel_rfl) (Eq.mp (by kernel_rfl) h2) fun _ _ a hA hK => (W.WP.seq (c := C1) (x := C2) (y := C6) (by kernel_rfl) (KE_S1_ok R _ _ hK)) a hA) (ha.cons hq0 (ha.cons hq1 ha.nil))
/-- (*enthymeme/enthymemeref38.End).find -/
theorem ok (e0 : Addr) (seq1 : Int) (w : World) (R : W.Post) (h : S0 e0 seq1 w R) : Calls Try.prog n_enthymemeref38_End_find #[.pointer (some e0), .int .i64 seq1] w R :=
  W.calls_of_WP' (fn := Try.f32) (c := C0) (args := [.pointer (some e0), .int .i64 seq1]) (by kernel_rfl) (by kernel_rfl) (by kernel_rfl) (KE_S0_ok R _ _ (Eq.mp (by kernel_rfl) h))
end enthymemeref38_End_find
end Go.Proofs.Ytellmncndfmbbaa

/- Printed by a program of ours (vcgen.py) from the dump: the conditions of the functions, and that they suffice. -/
import Derived.Test.YtpfomlenbhocpaaV
set_option linter.unusedVariables false
set_option maxRecDepth 100000
namespace Go.Proofs.Ytpfomlenbhocpaa
open Go
namespace channel_End_Send
noncomputable def C0 : Code := (Try.f37.body).getD .skip
noncomputable def C1 : Code := W.Code.snd C0
noncomputable def C2 : Code := W.Code.fst C1
noncomputable def C3 : Code := W.Code.snd C2
noncomputable def C4 : Code := W.Code.fst C3
noncomputable def C5 : Code := W.Code.snd C1
abbrev Q0 (R : W.Post) : Exit → Act → World → Prop := (Exit.then (W.wpx Try.prog (W.cx 34) C5 (bodyPost Try.prog Try.f37 R)) (bodyPost Try.prog Try.f37 R))
noncomputable def C6 : Code := W.Code.fst C4
noncomputable def C7 : Code := W.Code.snd C4
/-- channel.go:45 -/
abbrev S2  (w : World) (R : W.Post) : Prop :=
  R (.returned (.int .i64 4)) w
def KE_S2 (E : W.Env) (w : World) (R : W.Post) : Prop := S2  w R
theorem KE_S2_ok (R : W.Post) (E : W.Env) (w : World) (h : KE_S2 E w R) : W.WP Try.prog (W.cx 34) C4 (Q0 R) E w := by
  exact fun a ha => W.WP.at (n := (W.cx 34)) (E := []) (W.WP.seq (c := C4) (x := C6) (y := C7) (by kernel_rfl) <| W.WP.reg (c := C6) (fun E w => W.retVC Try.prog Try.f37 E w (fun v => R (.returned v) w)) (by kernel_rfl) (Eq.mp (by kernel_rfl) h) fun _ _ a hA hK => (W.WP.ret (c := C7) (by kernel_rfl) fun a hA => W.retVC_sound hA hK) a hA) ha.nil
noncomputable def C8 : Code := W.Code.snd C5
noncomputable def C9 : Code := W.Code.snd C8
abbrev Q1 (R : W.Post) : Exit → Act → World → Prop := (bodyPost Try.prog Try.f37 R)
noncomputable def C10 : Code := W.Code.fst C9
noncomputable def C11 : Code := W.Code.snd C9
/-- channel.go:49 -/
abbrev S5  (w : World) (R : W.Post) : Prop :=
  R (.returned (.int .i64 0)) w
def KE_S5 (E : W.Env) (w : World) (R : W.Post) : Prop := S5  w R
theorem KE_S5_ok (R : W.Post) (E : W.Env) (w : World) (h : KE_S5 E w R) : W.WP Try.prog (W.cx 34) C9 (Q1 R) E w := by
  exact fun a ha => W.WP.at (n := (W.cx 34)) (E := []) (W.WP.seq (c := C9) (x := C10) (y := C11) (by kernel_rfl) <| W.WP.reg (c := C10) (fun E w => W.retVC Try.prog Try.f37 E w (fun v => R (.returned v) w)) (by kernel_rfl) (Eq.mp (by kernel_rfl) h) fun _ _ a hA hK => (W.WP.ret (c := C11) (by kernel_rfl) fun a hA => W.retVC_sound hA hK) a hA) ha.nil
noncomputable def C12 : Code := W.Code.fst C8
/-- channel.go:48 -/
abbrev S4 (e0 : Addr) (w : World) (R : W.Post) : Prop :=
  ∃ t30 : Int, w.cell? (e0.add 1) = some (.int .i64 t30) ∧ 
  (w.cell? (e0.add 1)).isSome = true ∧ w.frozen? (e0.add 1) = false ∧ let w1 := w.setCell (e0.add 1) (.int .i64 (IntKind.wrap .i64 (t30 + 1)))
  S5  w1 R
def KE_S4 (E : W.Env) (w : World) (R : W.Post) : Prop := W.asRef (W.Env.get? E 0) fun e0 => S4 e0 w R
theorem KE_S4_ok (R : W.Post) (E : W.Env) (w : World) (h : KE_S4 E w R) : W.WP Try.prog (W.cx 34) C8 (Q1 R) E w := by
  obtain ⟨e0, hq0, h1⟩ := W.asRef_elim h
  exact fun a ha => W.WP.at (n := (W.cx 34)) (E := [(0, .pointer (some e0))]) (W.WP.seq (c := C8) (x := C12) (y := C9) (by kernel_rfl) <| W.WP.reg (c := C12) (fun E w => KE_S5 E w R) (by kernel_rfl) (Eq.mp (by kernel_rfl) h1) fun _ _ a hA hK => (KE_S5_ok R _ _ hK) a hA) (ha.cons hq0 ha.nil)
noncomputable def C13 : Code := W.Code.fst C5
/-- channel.go:47 -/
abbrev S3 (e0 : Addr) (b1 : W.Sl) (w : World) (R : W.Post) : Prop :=
  ∃ t20 : W.Sl, w.drew.cell? (e0.add 2) = some (t20.v) ∧ 
  Calls Try.prog n_slices_Clone_sl_byte_byte #[b1.v] w.drew fun r_ w1 => ∃ t22 : W.Sl, r_ = .returned (t22.v) ∧ 
  w1.cell? (e0.add 2) = some (t20.v) ∧ let w2 := w1.alloc (.cells #[t22.v] ty_sl_uint8)
  w2.cell? (e0.add 2) = some (t20.v) ∧ ∃ (t24 : W.Sl) (w3 : World), Sem.run Try.prog (Builtin.append_ #[ty_sl_sl_uint8, ty_sl_sl_uint8] ty_sl_sl_uint8 #[t20.v, .slice (some (Addr.mk w1.heap.size 0 none)) 1 1]) w2 = .ok (t24.v) w3 ∧ (w3.cell? (e0.add 2)).isSome = true ∧ w3.frozen? (e0.add 2) = false ∧ let w4 := w3.setCell (e0.add 2) (t24.v)
  S4 e0 w4 R
def KE_S3 (E : W.Env) (w : World) (R : W.Post) : Prop := W.asRef (W.Env.get? E 0) fun e0 => W.asSlice (W.Env.get? E 1) fun b1 => S3 e0 b1 w R
theorem KE_S3_ok (R : W.Post) (E : W.Env) (w : World) (h : KE_S3 E w R) : W.WP Try.prog (W.cx 34) C5 (Q1 R) E w := by
  obtain ⟨e0, hq0, h1⟩ := W.asRef_elim h
  obtain ⟨b1, hq1, h2⟩ := W.asSlice_elim h1
  exact fun a ha => W.WP.at (n := (W.cx 34)) (E := [(0, .pointer (some e0)), (1, b1.v)]) (W.WP.seq (c := C5) (x := C13) (y := C8) (by kernel_rfl) <| W.WP.draw (c := C13) [0, 1, 2, 3, 4, 5, 6, 7, 8, 9, 10, 11] (fun E w => KE_S4 E w R) (by kernel_rfl) (Eq.mp (by kernel_rfl) h2) fun _ _ a hA hK => (KE_S4_ok R _ _ hK) a hA) (ha.cons hq0 (ha.cons hq1 ha.nil))
noncomputable def C14 : Code := W.Code.fst C2
noncomputable def C15 : Code := W.Code.snd C3
/-- channel.go:44 -/
abbrev S1 (e0 : Addr) (b1 : W.Sl) (w : World) (R : W.Post) : Prop :=
  W.sel (decide (((b1.n : Nat) : Int) > 65536)) (S2  w R) (∃ t12 : W.Sl, w.cell? (e0.add 2) = some (t12.v) ∧ 
  W.sel (decide (((t12.n : Nat) : Int) ≥ 1000)) (S2  w R) (S3 e0 b1 w R))
def KE_S1 (E : W.Env) (w : World) (R : W.Post) : Prop := W.asRef (W.Env.get? E 0) fun e0 => W.asSlice (W.Env.get? E 1) fun b1 => S1 e0 b1 w R
theorem KE_S1_ok (R : W.Post) (E : W.Env) (w : World) (h : KE_S1 E w R) : W.WP Try.prog (W.cx 34) C2 (Q0 R) E w := by
  obtain ⟨e0, hq0, h1⟩ := W.asRef_elim h
  obtain ⟨b1, hq1, h2⟩ := W.asSlice_elim h1
  exact fun a ha => W.WP.at (n := (W.cx 34)) (E := [(0, .pointer (some e0)), (1, b1.v)]) (W.WP.seq (c := C2) (x := C14) (y := C3) (by kernel_rfl) <| W.WP.reg (c := C14) (fun E w => W.condK (W.Env.val E (.tmp 15)) (KE_S2 E w R) (KE_S3 E w R)) (by kernel_rfl) (Eq.mp (by kernel_rfl) h2) fun _ _ a hA hK => (W.WP.condK (c := C3) (x := C4) (y := C15) (o := .tmp 15) (by kernel_rfl) (fun hK => (KE_S2_ok R _ _ hK)) (fun hK => (W.WP.skip (c := C15) (by kernel_rfl) fun a hA => (KE_S3_ok R _ _ hK) a hA)) hK) a hA) (ha.cons hq0 (ha.cons hq1 ha.nil))
noncomputable def C16 : Code := W.Code.fst C0
/-- channel.go:43 -/
abbrev S0 (e0 : Addr) (b1 : W.Sl) (w : World) (R : W.Post) : Prop :=
  S1 e0 b1 w R
def KE_S0 (E : W.Env) (w : World) (R : W.Post) : Prop := W.asRef (W.Env.get? E 0) fun e0 => W.asSlice (W.Env.get? E 1) fun b1 => S0 e0 b1 w R
theorem KE_S0_ok (R : W.Post) (E : W.Env) (w : World) (h : KE_S0 E w R) : W.WP Try.prog (W.cx 34) C0 (Q1 R) E w := by
  obtain ⟨e0, hq0, h1⟩ := W.asRef_elim h
  obtain ⟨b1, hq1, h2⟩ := W.asSlice_elim h1
  exact fun a ha => W.WP.at (n := (W.cx 34)) (E := [(0, .pointer (some e0)), (1, b1.v)]) (W.WP.seq (c := C0) (x := C16) (y := C1) (by kernel_rfl) <| W.WP.reg (c := C16) (fun E w => KE_S1 E w R) (by kernel_rfl) (Eq.mp (by kernel_rfl) h2) fun _ _ a hA hK => (W.WP.seq (c := C1) (x := C2) (y := C5) (by kernel_rfl) (KE_S1_ok R _ _ hK)) a hA) (ha.cons hq0 (ha.cons hq1 ha.nil))
/-- (*enthymeme/channel.End).Send -/
theorem ok (e0 : Addr) (b1 : W.Sl) (w : World) (R : W.Post) (h : S0 e0 b1 w R) : Calls Try.prog n_channel_End_Send #[.pointer (some e0), b1.v] w R :=
  W.calls_of_WP' (fn := Try.f37) (c := C0) (args := [.pointer (some e0), b1.v]) (by kernel_rfl) (by kernel_rfl) (by kernel_rfl) (KE_S0_ok R _ _ (Eq.mp (by kernel_rfl) h))
end channel_End_Send
namespace channel_End_Out
noncomputable def C0 : Code := (Try.f38.body).getD .skip
noncomputable def C1 : Code := W.Code.snd C0
noncomputable def C2 : Code := W.Code.snd C1
noncomputable def C3 : Code := W.Code.fst C2
noncomputable def C4 : Code := W.Code.snd C3
noncomputable def C5 : Code := W.Code.fst C4
noncomputable def C6 : Code := W.Code.fst C5
noncomputable def C7 : Code := W.Code.snd C2
abbrev Q0 (R : W.Post) : Exit → Act → World → Prop := (Exit.then (W.wpx Try.prog (W.cx 62) C7 (bodyPost Try.prog Try.f38 R)) (bodyPost Try.prog Try.f38 R))
abbrev Q1 (R : W.Post) : Exit → Act → World → Prop := (Exit.inBlock 0 (Q0 R))
/-- the head of the loop, channel.go:58 -/
def L3 (e0 : Addr) (list3 t20 : W.Sl) (t21 t22 : Int) (w : World) (R : W.Post) : Prop := W.LP Try.prog (W.cx 62) C6 (Q1 R) [(0, .pointer (some e0)), (3, list3.v), (20, t20.v), (21, .int .i64 t21), (22, .int .i64 t22)] w
def KE_L3 (E : W.Env) (w : World) (R : W.Post) : Prop := W.asRef (W.Env.get? E 0) fun e0 => W.asSlice (W.Env.get? E 3) fun list3 => W.asSlice (W.Env.get? E 20) fun t20 => W.asInt .i64 (W.Env.get? E 21) fun t21 => W.asInt .i64 (W.Env.get? E 22) fun t22 => L3 e0 list3 t20 t21 t22 w R
theorem KE_L3_ok (R : W.Post) (E : W.Env) (w : World) (h : KE_L3 E w R) : W.LP Try.prog (W.cx 62) C6 (Q1 R) E w := by
  obtain ⟨e0, hq0, h1⟩ := W.asRef_elim h
  obtain ⟨list3, hq3, h2⟩ := W.asSlice_elim h1
  obtain ⟨t20, hq20, h3⟩ := W.asSlice_elim h2
  obtain ⟨t21, hq21, h4⟩ := W.asInt_elim h3
  obtain ⟨t22, hq22, h5⟩ := W.asInt_elim h4
  intro a ha
  exact h5 a (ha.cons hq0 (ha.cons hq3 (ha.cons hq20 (ha.cons hq21 (ha.cons hq22 ha.nil)))))
noncomputable def C8 : Code := W.Code.snd C6
noncomputable def C9 : Code := W.Code.snd C8
noncomputable def C10 : Code := W.Code.snd C9
abbrev Q2 (R : W.Post) : Exit → Act → World → Prop := (Exit.then (W.LoopWP Try.prog (W.cx 62) C6 (Q1 R)) (Q1 R))
/-- channel.go:58 -/
abbrev S7 (e0 : Addr) (list3 t20 : W.Sl) (t21 t22 : Int) (w : World) (R : W.Post) : Prop :=
  L3 e0 list3 t20 t21 (IntKind.wrap .i64 (t22 + 1)) w R
def KE_S7 (E : W.Env) (w : World) (R : W.Post) : Prop := W.asRef (W.Env.get? E 0) fun e0 => W.asSlice (W.Env.get? E 3) fun list3 => W.asSlice (W.Env.get? E 20) fun t20 => W.asInt .i64 (W.Env.get? E 21) fun t21 => W.asInt .i64 (W.Env.get? E 22) fun t22 => S7 e0 list3 t20 t21 t22 w R
theorem KE_S7_ok (R : W.Post) (E : W.Env) (w : World) (h : KE_S7 E w R) : W.WP Try.prog (W.cx 62) C10 (Q2 R) E w := by
  obtain ⟨e0, hq0, h1⟩ := W.asRef_elim h
  obtain ⟨list3, hq3, h2⟩ := W.asSlice_elim h1
  obtain ⟨t20, hq20, h3⟩ := W.asSlice_elim h2
  obtain ⟨t21, hq21, h4⟩ := W.asInt_elim h3
  obtain ⟨t22, hq22, h5⟩ := W.asInt_elim h4
  exact fun a ha => W.WP.at (n := (W.cx 62)) (E := [(0, .pointer (some e0)), (3, list3.v), (20, t20.v), (21, .int .i64 t21), (22, .int .i64 t22)]) (W.WP.reg (c := C10) (fun E w => KE_L3 E w R) (by kernel_rfl) (Eq.mp (by kernel_rfl) h5) fun _ _ a hA hK => KE_L3_ok R _ _ hK a hA) (ha.cons hq0 (ha.cons hq3 (ha.cons hq20 (ha.cons hq21 (ha.cons hq22 ha.nil)))))
noncomputable def C11 : Code := W.Code.fst C9
noncomputable def C12 : Code := W.Code.fst C11
noncomputable def C13 : Code := W.Code.snd C12
abbrev Q3 (R : W.Post) : Exit → Act → World → Prop := (Exit.then (W.wpx Try.prog (W.cx 62) C10 (Exit.then (W.LoopWP Try.prog (W.cx 62) C6 (Q1 R)) (Q1 R))) (Exit.then (W.LoopWP Try.prog (W.cx 62) C6 (Q1 R)) (Q1 R)))
abbrev Q4 (R : W.Post) : Exit → Act → World → Prop := (Exit.inBlock 1 (Q3 R))
/-- channel.go:59 -/
abbrev S6 (e0 : Addr) (list3 : W.Sl) (i4 : Int) (b5 t20 : W.Sl) (t21 t22 : Int) (w : World) (R : W.Post) : Prop :=
  ∃ t36 : Int, w.drew.cell? (e0.add 3) = some (.int .i64 t36) ∧ 
  Calls Try.prog n_channel_End_acknowledged #[.pointer (some e0)] w.drew fun r_ w1 => ∃ t29 : Int, r_ = .returned (.int .i64 t29) ∧ 
  w1.cell? (e0.add 3) = some (.int .i64 t36) ∧ Calls Try.prog n_slices_Clone_sl_byte_byte #[b5.v] w1 fun r_ w2 => ∃ t38 : W.Sl, r_ = .returned (t38.v) ∧ 
  w2.cell? (e0.add 3) = some (.int .i64 t36) ∧ let w3 := w2.alloc (.cells #[.int .i64 (IntKind.wrap .i64 ((IntKind.wrap .i64 (t29 + 1)) + i4)), .int .i64 t36, t38.v] ty_channel_Packet)
  w3.cell? (e0.add 3) = some (.int .i64 t36) ∧ ∃ (t41 : W.Sl) (w4 : World), Sem.run Try.prog (Builtin.append_ #[ty_sl_channel_Packet, ty_sl_channel_Packet] ty_sl_channel_Packet #[list3.v, .slice (some (Addr.mk w2.heap.size 0 none)) 1 1]) w3 = .ok (t41.v) w4 ∧ w4.cell? (e0.add 3) = some (.int .i64 t36) ∧ S7 e0 t41 t20 t21 t22 w4 R
def KE_S6 (E : W.Env) (w : World) (R : W.Post) : Prop := W.asRef (W.Env.get? E 0) fun e0 => W.asSlice (W.Env.get? E 3) fun list3 => W.asInt .i64 (W.Env.get? E 4) fun i4 => W.asSlice (W.Env.get? E 5) fun b5 => W.asSlice (W.Env.get? E 20) fun t20 => W.asInt .i64 (W.Env.get? E 21) fun t21 => W.asInt .i64 (W.Env.get? E 22) fun t22 => S6 e0 list3 i4 b5 t20 t21 t22 w R
theorem KE_S6_ok (R : W.Post) (E : W.Env) (w : World) (h : KE_S6 E w R) : W.WP Try.prog (W.cx 62) C13 (Q4 R) E w := by
  obtain ⟨e0, hq0, h1⟩ := W.asRef_elim h
  obtain ⟨list3, hq3, h2⟩ := W.asSlice_elim h1
  obtain ⟨i4, hq4, h3⟩ := W.asInt_elim h2
  obtain ⟨b5, hq5, h4⟩ := W.asSlice_elim h3
  obtain ⟨t20, hq20, h5⟩ := W.asSlice_elim h4
  obtain ⟨t21, hq21, h6⟩ := W.asInt_elim h5
  obtain ⟨t22, hq22, h7⟩ := W.asInt_elim h6
  exact fun a ha => W.WP.at (n := (W.cx 62)) (E := [(0, .pointer (some e0)), (3, list3.v), (4, .int .i64 i4), (5, b5.v), (20, t20.v), (21, .int .i64 t21), (22, .int .i64 t22)]) (W.WP.draw (c := C13) [0, 1, 4, 6, 7, 8, 9, 10, 2, 3, 5, 11, 12, 13, 14, 15] (fun E w => KE_S7 E w R) (by kernel_rfl) (Eq.mp (by kernel_rfl) h7) fun _ _ a hA hK => (KE_S7_ok R _ _ hK) a hA) (ha.cons hq0 (ha.cons hq3 (ha.cons hq4 (ha.cons hq5 (ha.cons hq20 (ha.cons hq21 (ha.cons hq22 ha.nil)))))))
noncomputable def C14 : Code := W.Code.fst C12
/-- channel.go:58 -/
abbrev S5 (e0 : Addr) (list3 t20 : W.Sl) (t21 t22 : Int) (w : World) (R : W.Post) : Prop :=
  (0 : Int) ≤ t22 ∧ t22 < ((t20.n : Nat) : Int) ∧ W.optP t20.a fun t25_p => ∃ t26 : W.Sl, w.cell? (t25_p.add (Int.toNat t22 * 1)) = some (t26.v) ∧ 
  S6 e0 list3 t22 t26 t20 t21 t22 w R
def KE_S5 (E : W.Env) (w : World) (R : W.Post) : Prop := W.asRef (W.Env.get? E 0) fun e0 => W.asSlice (W.Env.get? E 3) fun list3 => W.asSlice (W.Env.get? E 20) fun t20 => W.asInt .i64 (W.Env.get? E 21) fun t21 => W.asInt .i64 (W.Env.get? E 22) fun t22 => S5 e0 list3 t20 t21 t22 w R
theorem KE_S5_ok (R : W.Post) (E : W.Env) (w : World) (h : KE_S5 E w R) : W.WP Try.prog (W.cx 62) C12 (Q4 R) E w := by
  obtain ⟨e0, hq0, h1⟩ := W.asRef_elim h
  obtain ⟨list3, hq3, h2⟩ := W.asSlice_elim h1
  obtain ⟨t20, hq20, h3⟩ := W.asSlice_elim h2
  obtain ⟨t21, hq21, h4⟩ := W.asInt_elim h3
  obtain ⟨t22, hq22, h5⟩ := W.asInt_elim h4
  exact fun a ha => W.WP.at (n := (W.cx 62)) (E := [(0, .pointer (some e0)), (3, list3.v), (20, t20.v), (21, .int .i64 t21), (22, .int .i64 t22)]) (W.WP.seq (c := C12) (x := C14) (y := C13) (by kernel_rfl) <| W.WP.reg (c := C14) (fun E w => KE_S6 E w R) (by kernel_rfl) (Eq.mp (by kernel_rfl) h5) fun _ _ a hA hK => (KE_S6_ok R _ _ hK) a hA) (ha.cons hq0 (ha.cons hq3 (ha.cons hq20 (ha.cons hq21 (ha.cons hq22 ha.nil)))))
noncomputable def C15 : Code := W.Code.snd C7
noncomputable def C16 : Code := W.Code.snd C15
abbrev Q5 (R : W.Post) : Exit → Act → World → Prop := (bodyPost Try.prog Try.f38 R)
noncomputable def C17 : Code := W.Code.fst C16
noncomputable def C18 : Code := W.Code.snd C16
/-- channel.go:65 -/
abbrev S11 (list3 : W.Sl) (w : World) (R : W.Post) : Prop :=
  R (.returned (list3.v)) w
def KE_S11 (E : W.Env) (w : World) (R : W.Post) : Prop := W.asSlice (W.Env.get? E 3) fun list3 => S11 list3 w R
theorem KE_S11_ok (R : W.Post) (E : W.Env) (w : World) (h : KE_S11 E w R) : W.WP Try.prog (W.cx 62) C16 (Q5 R) E w := by
  obtain ⟨list3, hq3, h1⟩ := W.asSlice_elim h
  exact fun a ha => W.WP.at (n := (W.cx 62)) (E := [(3, list3.v)]) (W.WP.seq (c := C16) (x := C17) (y := C18) (by kernel_rfl) <| W.WP.reg (c := C17) (fun E w => W.retVC Try.prog Try.f38 E w (fun v => R (.returned v) w)) (by kernel_rfl) (Eq.mp (by kernel_rfl) h1) fun _ _ a hA hK => (W.WP.ret (c := C18) (by kernel_rfl) fun a hA => W.retVC_sound hA hK) a hA) (ha.cons hq3 ha.nil)
noncomputable def C19 : Code := W.Code.fst C15
/-- channel.go:64 -/
abbrev S10 (e0 : Addr) (list3 : W.Sl) (w : World) (R : W.Post) : Prop :=
  (w.cell? (e0.add 5)).isSome = true ∧ w.frozen? (e0.add 5) = false ∧ let w1 := w.setCell (e0.add 5) (.bool false)
  S11 list3 w1 R
def KE_S10 (E : W.Env) (w : World) (R : W.Post) : Prop := W.asRef (W.Env.get? E 0) fun e0 => W.asSlice (W.Env.get? E 3) fun list3 => S10 e0 list3 w R
theorem KE_S10_ok (R : W.Post) (E : W.Env) (w : World) (h : KE_S10 E w R) : W.WP Try.prog (W.cx 62) C15 (Q5 R) E w := by
  obtain ⟨e0, hq0, h1⟩ := W.asRef_elim h
  obtain ⟨list3, hq3, h2⟩ := W.asSlice_elim h1
  exact fun a ha => W.WP.at (n := (W.cx 62)) (E := [(0, .pointer (some e0)), (3, list3.v)]) (W.WP.seq (c := C15) (x := C19) (y := C16) (by kernel_rfl) <| W.WP.reg (c := C19) (fun E w => KE_S11 E w R) (by kernel_rfl) (Eq.mp (by kernel_rfl) h2) fun _ _ a hA hK => (KE_S11_ok R _ _ hK) a hA) (ha.cons hq0 (ha.cons hq3 ha.nil))
noncomputable def C20 : Code := W.Code.fst C7
noncomputable def C21 : Code := W.Code.snd C20
noncomputable def C22 : Code := W.Code.fst C21
abbrev Q6 (R : W.Post) : Exit → Act → World → Prop := (Exit.then (W.wpx Try.prog (W.cx 62) C15 (bodyPost Try.prog Try.f38 R)) (bodyPost Try.prog Try.f38 R))
/-- channel.go:62 -/
abbrev S9 (e0 : Addr) (w : World) (R : W.Post) : Prop :=
  ∃ t55 : Int, w.cell? (e0.add 3) = some (.int .i64 t55) ∧ 
  let w1 := w.alloc (.cells #[.int .i64 0, .int .i64 t55, .slice none 0 0] ty_channel_Packet)
  S10 e0 ⟨some (Addr.mk w.heap.size 0 none), 1, 1⟩ w1 R
def KE_S9 (E : W.Env) (w : World) (R : W.Post) : Prop := W.asRef (W.Env.get? E 0) fun e0 => S9 e0 w R
theorem KE_S9_ok (R : W.Post) (E : W.Env) (w : World) (h : KE_S9 E w R) : W.WP Try.prog (W.cx 62) C22 (Q6 R) E w := by
  obtain ⟨e0, hq0, h1⟩ := W.asRef_elim h
  exact fun a ha => W.WP.at (n := (W.cx 62)) (E := [(0, .pointer (some e0))]) (W.WP.reg (c := C22) (fun E w => KE_S10 E w R) (by kernel_rfl) (Eq.mp (by kernel_rfl) h1) fun _ _ a hA hK => (KE_S10_ok R _ _ hK) a hA) (ha.cons hq0 ha.nil)
noncomputable def C23 : Code := W.Code.fst C20
noncomputable def C24 : Code := W.Code.snd C21
/-- channel.go:61 -/
abbrev S8 (e0 : Addr) (list3 : W.Sl) (w : World) (R : W.Post) : Prop :=
  W.sel (((list3.n : Nat) : Int) == 0) (∃ t50 : Bool, w.cell? (e0.add 5) = some (.bool t50) ∧ 
  W.sel t50 (S9 e0 w R) (S10 e0 list3 w R)) (S10 e0 list3 w R)
def KE_S8 (E : W.Env) (w : World) (R : W.Post) : Prop := W.asRef (W.Env.get? E 0) fun e0 => W.asSlice (W.Env.get? E 3) fun list3 => S8 e0 list3 w R
theorem KE_S8_ok (R : W.Post) (E : W.Env) (w : World) (h : KE_S8 E w R) : W.WP Try.prog (W.cx 62) C20 (Q6 R) E w := by
  obtain ⟨e0, hq0, h1⟩ := W.asRef_elim h
  obtain ⟨list3, hq3, h2⟩ := W.asSlice_elim h1
  exact fun a ha => W.WP.at (n := (W.cx 62)) (E := [(0, .pointer (some e0)), (3, list3.v)]) (W.WP.seq (c := C20) (x := C23) (y := C21) (by kernel_rfl) <| W.WP.reg (c := C23) (fun E w => W.condK (W.Env.val E (.tmp 51)) (KE_S9 E w R) (KE_S10 E w R)) (by kernel_rfl) (Eq.mp (by kernel_rfl) h2) fun _ _ a hA hK => (W.WP.condK (c := C21) (x := C22) (y := C24) (o := .tmp 51) (by kernel_rfl) (fun hK => (KE_S9_ok R _ _ hK)) (fun hK => (W.WP.skip (c := C24) (by kernel_rfl) fun a hA => (KE_S10_ok R _ _ hK) a hA)) hK) a hA) (ha.cons hq0 (ha.cons hq3 ha.nil))
noncomputable def C25 : Code := W.Code.fst C6
noncomputable def C26 : Code := W.Code.fst C8
noncomputable def C27 : Code := W.Code.fst C26
noncomputable def C28 : Code := W.Code.snd C26
/-- channel.go:58 -/
abbrev S4 (e0 : Addr) (list3 t20 : W.Sl) (t21 t22 : Int) (w : World) (R : W.Post) : Prop :=
  W.sel (decide (t22 < t21)) (S5 e0 list3 t20 t21 t22 w R) (S8 e0 list3 w R)
def KE_S4 (E : W.Env) (w : World) (R : W.Post) : Prop := W.asRef (W.Env.get? E 0) fun e0 => W.asSlice (W.Env.get? E 3) fun list3 => W.asSlice (W.Env.get? E 20) fun t20 => W.asInt .i64 (W.Env.get? E 21) fun t21 => W.asInt .i64 (W.Env.get? E 22) fun t22 => S4 e0 list3 t20 t21 t22 w R
theorem KE_S4_ok (R : W.Post) (E : W.Env) (w : World) (h : KE_S4 E w R) : W.WP Try.prog (W.cx 62) C6 (Q2 R) E w := by
  obtain ⟨e0, hq0, h1⟩ := W.asRef_elim h
  obtain ⟨list3, hq3, h2⟩ := W.asSlice_elim h1
  obtain ⟨t20, hq20, h3⟩ := W.asSlice_elim h2
  obtain ⟨t21, hq21, h4⟩ := W.asInt_elim h3
  obtain ⟨t22, hq22, h5⟩ := W.asInt_elim h4
  exact fun a ha => W.WP.at (n := (W.cx 62)) (E := [(0, .pointer (some e0)), (3, list3.v), (20, t20.v), (21, .int .i64 t21), (22, .int .i64 t22)]) (W.WP.seq (c := C6) (x := C25) (y := C8) (by kernel_rfl) <| W.WP.reg (c := C25) (fun E w => W.condK (W.Env.val E (.tmp 23)) (KE_S5 E w R) (KE_S8 E w R)) (by kernel_rfl) (Eq.mp (by kernel_rfl) h5) fun _ _ a hA hK => (W.WP.seq (c := C8) (x := C26) (y := C9) (by kernel_rfl) (W.WP.condK (c := C26) (x := C27) (y := C28) (o := .tmp 23) (by kernel_rfl) (fun hK => (W.WP.skip (c := C27) (by kernel_rfl) fun a hA => (W.WP.seq (c := C9) (x := C11) (y := C10) (by kernel_rfl) (W.WP.block (c := C11) (x := C12) (id := 1) (by kernel_rfl) (KE_S5_ok R _ _ hK))) a hA)) (fun hK => (W.WP.exit (c := C28) (id := 0) (by kernel_rfl) fun a hA => (W.WP.seq (c := C7) (x := C20) (y := C15) (by kernel_rfl) (KE_S8_ok R _ _ hK)) a hA)) hK)) a hA) (ha.cons hq0 (ha.cons hq3 (ha.cons hq20 (ha.cons hq21 (ha.cons hq22 ha.nil)))))
theorem L3_step (e0 : Addr) (list3 t20 : W.Sl) (t21 t22 : Int) (w : World) (R : W.Post) (h : S4 e0 list3 t20 t21 t22 w R) : L3 e0 list3 t20 t21 t22 w R :=
  W.LP.step (n := (W.cx 62)) (c := C6) (E := [(0, .pointer (some e0)), (3, list3.v), (20, t20.v), (21, .int .i64 t21), (22, .int .i64 t22)]) (w := w) (KE_S4_ok R _ _ (Eq.mp (by kernel_rfl) h))
noncomputable def C29 : Code := W.Code.fst C3
/-- channel.go:58 -/
abbrev S2 (e0 : Addr) (list3 : W.Sl) (w : World) (R : W.Post) : Prop :=
  ∃ t9 : W.Sl, w.drew.cell? (e0.add 2) = some (t9.v) ∧ 
  ∃ t13 : Int, w.drew.cell? (e0.add 0) = some (.int .i64 t13) ∧ 
  ∃ t17 : W.Sl, w.drew.cell? (e0.add 2) = some (t17.v) ∧ 
  (0 : Int) ≤ (if ((t17.n : Nat) : Int) < t13 then ((t17.n : Nat) : Int) else t13) ∧ (if ((t17.n : Nat) : Int) < t13 then ((t17.n : Nat) : Int) else t13) ≤ ((t9.c : Nat) : Int) ∧ L3 e0 list3 ⟨(if t9.c = 0 then t9.a else t9.a.map (·.add (0 * 1))), ((Int.toNat (if ((t17.n : Nat) : Int) < t13 then ((t17.n : Nat) : Int) else t13)) - 0), (t9.c - 0)⟩ ((((Int.toNat (if ((t17.n : Nat) : Int) < t13 then ((t17.n : Nat) : Int) else t13)) - 0) : Nat) : Int) 0 w.drew R
def KE_S2 (E : W.Env) (w : World) (R : W.Post) : Prop := W.asRef (W.Env.get? E 0) fun e0 => W.asSlice (W.Env.get? E 3) fun list3 => S2 e0 list3 w R
theorem KE_S2_ok (R : W.Post) (E : W.Env) (w : World) (h : KE_S2 E w R) : W.WP Try.prog (W.cx 62) C3 (Q0 R) E w := by
  obtain ⟨e0, hq0, h1⟩ := W.asRef_elim h
  obtain ⟨list3, hq3, h2⟩ := W.asSlice_elim h1
  exact fun a ha => W.WP.at (n := (W.cx 62)) (E := [(0, .pointer (some e0)), (3, list3.v)]) (W.WP.seq (c := C3) (x := C29) (y := C4) (by kernel_rfl) <| W.WP.draw (c := C29) [0, 1, 2, 3, 4, 5, 6, 7, 8, 9, 10, 11, 12, 13, 14, 15, 16] (fun E w => KE_L3 E w R) (by kernel_rfl) (Eq.mp (by kernel_rfl) h2) fun _ _ a hA hK => (W.WP.block (c := C4) (x := C5) (id := 0) (by kernel_rfl) (W.WP.loop (c := C5) (x := C6) (by kernel_rfl) (KE_L3_ok R _ _ hK))) a hA) (ha.cons hq0 (ha.cons hq3 ha.nil))
noncomputable def C30 : Code := W.Code.fst C1
/-- channel.go:57 -/
abbrev S1 (e0 : Addr) (w : World) (R : W.Post) : Prop :=
  S2 e0 ⟨none, 0, 0⟩ w R
def KE_S1 (E : W.Env) (w : World) (R : W.Post) : Prop := W.asRef (W.Env.get? E 0) fun e0 => S1 e0 w R
theorem KE_S1_ok (R : W.Post) (E : W.Env) (w : World) (h : KE_S1 E w R) : W.WP Try.prog (W.cx 62) C1 (Q5 R) E w := by
  obtain ⟨e0, hq0, h1⟩ := W.asRef_elim h
  exact fun a ha => W.WP.at (n := (W.cx 62)) (E := [(0, .pointer (some e0))]) (W.WP.seq (c := C1) (x := C30) (y := C2) (by kernel_rfl) <| W.WP.reg (c := C30) (fun E w => KE_S2 E w R) (by kernel_rfl) (Eq.mp (by kernel_rfl) h1) fun _ _ a hA hK => (W.WP.seq (c := C2) (x := C3) (y := C7) (by kernel_rfl) (KE_S2_ok R _ _ hK)) a hA) (ha.cons hq0 ha.nil)
noncomputable def C31 : Code := W.Code.fst C0
/-- channel.go:56 -/
abbrev S0 (e0 : Addr) (w : World) (R : W.Post) : Prop :=
  S1 e0 w R
def KE_S0 (E : W.Env) (w : World) (R : W.Post) : Prop := W.asRef (W.Env.get? E 0) fun e0 => S0 e0 w R
theorem KE_S0_ok (R : W.Post) (E : W.Env) (w : World) (h : KE_S0 E w R) : W.WP Try.prog (W.cx 62) C0 (Q5 R) E w := by
  obtain ⟨e0, hq0, h1⟩ := W.asRef_elim h
  exact fun a ha => W.WP.at (n := (W.cx 62)) (E := [(0, .pointer (some e0))]) (W.WP.seq (c := C0) (x := C31) (y := C1) (by kernel_rfl) <| W.WP.reg (c := C31) (fun E w => KE_S1 E w R) (by kernel_rfl) (Eq.mp (by kernel_rfl) h1) fun _ _ a hA hK => (KE_S1_ok R _ _ hK) a hA) (ha.cons hq0 ha.nil)
/-- (*enthymeme/channel.End).Out -/
theorem ok (e0 : Addr) (w : World) (R : W.Post) (h : S0 e0 w R) : Calls Try.prog n_channel_End_Out #[.pointer (some e0)] w R :=
  W.calls_of_WP' (fn := Try.f38) (c := C0) (args := [.pointer (some e0)]) (by kernel_rfl) (by kernel_rfl) (by kernel_rfl) (KE_S0_ok R _ _ (Eq.mp (by kernel_rfl) h))
end channel_End_Out
namespace channel_End_In
noncomputable def C0 : Code := (Try.f39.body).getD .skip
noncomputable def C1 : Code := W.Code.snd C0
noncomputable def C2 : Code := W.Code.fst C1
noncomputable def C3 : Code := W.Code.snd C2
noncomputable def C4 : Code := W.Code.fst C3
noncomputable def C5 : Code := W.Code.snd C1
abbrev Q0 (R : W.Post) : Exit → Act → World → Prop := (Exit.then (W.wpx Try.prog (W.cx 121) C5 (bodyPost Try.prog Try.f39 R)) (bodyPost Try.prog Try.f39 R))
noncomputable def C6 : Code := W.Code.fst C4
noncomputable def C7 : Code := W.Code.snd C4
/-- channel.go:76 -/
abbrev S2  (w : World) (R : W.Post) : Prop :=
  R (.returned (.slice none 0 0)) w
def KE_S2 (E : W.Env) (w : World) (R : W.Post) : Prop := S2  w R
theorem KE_S2_ok (R : W.Post) (E : W.Env) (w : World) (h : KE_S2 E w R) : W.WP Try.prog (W.cx 121) C4 (Q0 R) E w := by
  exact fun a ha => W.WP.at (n := (W.cx 121)) (E := []) (W.WP.seq (c := C4) (x := C6) (y := C7) (by kernel_rfl) <| W.WP.reg (c := C6) (fun E w => W.retVC Try.prog Try.f39 E w (fun v => R (.returned v) w)) (by kernel_rfl) (Eq.mp (by kernel_rfl) h) fun _ _ a hA hK => (W.WP.ret (c := C7) (by kernel_rfl) fun a hA => W.retVC_sound hA hK) a hA) ha.nil
noncomputable def C8 : Code := W.Code.snd C5
noncomputable def C9 : Code := W.Code.fst C8
noncomputable def C10 : Code := W.Code.snd C9
noncomputable def C11 : Code := W.Code.fst C10
noncomputable def C12 : Code := W.Code.snd C8
abbrev Q1 (R : W.Post) : Exit → Act → World → Prop := (Exit.then (W.wpx Try.prog (W.cx 121) C12 (bodyPost Try.prog Try.f39 R)) (bodyPost Try.prog Try.f39 R))
noncomputable def C13 : Code := W.Code.fst C11
noncomputable def C14 : Code := W.Code.snd C11
/-- channel.go:82 -/
abbrev S7  (w : World) (R : W.Post) : Prop :=
  R (.returned (.slice none 0 0)) w
def KE_S7 (E : W.Env) (w : World) (R : W.Post) : Prop := S7  w R
theorem KE_S7_ok (R : W.Post) (E : W.Env) (w : World) (h : KE_S7 E w R) : W.WP Try.prog (W.cx 121) C11 (Q1 R) E w := by
  exact fun a ha => W.WP.at (n := (W.cx 121)) (E := []) (W.WP.seq (c := C11) (x := C13) (y := C14) (by kernel_rfl) <| W.WP.reg (c := C13) (fun E w => W.retVC Try.prog Try.f39 E w (fun v => R (.returned v) w)) (by kernel_rfl) (Eq.mp (by kernel_rfl) h) fun _ _ a hA hK => (W.WP.ret (c := C14) (by kernel_rfl) fun a hA => W.retVC_sound hA hK) a hA) ha.nil
noncomputable def C15 : Code := W.Code.snd C12
noncomputable def C16 : Code := W.Code.snd C15
noncomputable def C17 : Code := W.Code.snd C16
noncomputable def C18 : Code := W.Code.fst C17
noncomputable def C19 : Code := W.Code.fst C18
abbrev Q2 (R : W.Post) : Exit → Act → World → Prop := (bodyPost Try.prog Try.f39 R)
abbrev Q3 (R : W.Post) : Exit → Act → World → Prop := (Exit.inBlock 0 (Q2 R))
/-- the head of the loop, channel.go:90 -/
def L13 (e0 : Addr) (list8 : W.Sl) (w : World) (R : W.Post) : Prop := W.LP Try.prog (W.cx 121) C19 (Q3 R) [(0, .pointer (some e0)), (8, list8.v)] w
def KE_L13 (E : W.Env) (w : World) (R : W.Post) : Prop := W.asRef (W.Env.get? E 0) fun e0 => W.asSlice (W.Env.get? E 8) fun list8 => L13 e0 list8 w R
theorem KE_L13_ok (R : W.Post) (E : W.Env) (w : World) (h : KE_L13 E w R) : W.LP Try.prog (W.cx 121) C19 (Q3 R) E w := by
  obtain ⟨e0, hq0, h1⟩ := W.asRef_elim h
  obtain ⟨list8, hq8, h2⟩ := W.asSlice_elim h1
  intro a ha
  exact h2 a (ha.cons hq0 (ha.cons hq8 ha.nil))
noncomputable def C20 : Code := W.Code.fst C19
noncomputable def C21 : Code := W.Code.snd C20
noncomputable def C22 : Code := W.Code.fst C21
noncomputable def C23 : Code := W.Code.snd C22
noncomputable def C24 : Code := W.Code.fst C23
abbrev Q4 (R : W.Post) : Exit → Act → World → Prop := (Exit.then (W.LoopWP Try.prog (W.cx 121) C19 (Q3 R)) (Q3 R))
noncomputable def C25 : Code := W.Code.snd C21
abbrev Q5 (R : W.Post) : Exit → Act → World → Prop := (Exit.then (W.wpx Try.prog (W.cx 121) C25 (Exit.inBlock 1 (Q4 R))) (Exit.inBlock 1 (Q4 R)))
noncomputable def C26 : Code := W.Code.fst C24
noncomputable def C27 : Code := W.Code.snd C24
/-- channel.go:92 -/
abbrev S16 (list8 : W.Sl) (w : World) (R : W.Post) : Prop :=
  R (.returned (list8.v)) w
def KE_S16 (E : W.Env) (w : World) (R : W.Post) : Prop := W.asSlice (W.Env.get? E 8) fun list8 => S16 list8 w R
theorem KE_S16_ok (R : W.Post) (E : W.Env) (w : World) (h : KE_S16 E w R) : W.WP Try.prog (W.cx 121) C24 (Q5 R) E w := by
  obtain ⟨list8, hq8, h1⟩ := W.asSlice_elim h
  exact fun a ha => W.WP.at (n := (W.cx 121)) (E := [(8, list8.v)]) (W.WP.seq (c := C24) (x := C26) (y := C27) (by kernel_rfl) <| W.WP.reg (c := C26) (fun E w => W.retVC Try.prog Try.f39 E w (fun v => R (.returned v) w)) (by kernel_rfl) (Eq.mp (by kernel_rfl) h1) fun _ _ a hA hK => (W.WP.ret (c := C27) (by kernel_rfl) fun a hA => W.retVC_sound hA hK) a hA) (ha.cons hq8 ha.nil)
noncomputable def C28 : Code := W.Code.snd C25
noncomputable def C29 : Code := W.Code.snd C28
abbrev Q6 (R : W.Post) : Exit → Act → World → Prop := (Exit.inBlock 1 (Q4 R))
/-- channel.go:96 -/
abbrev S19 (e0 : Addr) (list8 b9 : W.Sl) (w : World) (R : W.Post) : Prop :=
  let w1 := w.alloc (.cells #[b9.v] ty_sl_uint8)
  ∃ (t120 : W.Sl) (w2 : World), Sem.run Try.prog (Builtin.append_ #[ty_sl_sl_uint8, ty_sl_sl_uint8] ty_sl_sl_uint8 #[list8.v, .slice (some (Addr.mk w.heap.size 0 none)) 1 1]) w1 = .ok (t120.v) w2 ∧ L13 e0 t120 w2 R
def KE_S19 (E : W.Env) (w : World) (R : W.Post) : Prop := W.asRef (W.Env.get? E 0) fun e0 => W.asSlice (W.Env.get? E 8) fun list8 => W.asSlice (W.Env.get? E 9) fun b9 => S19 e0 list8 b9 w R
theorem KE_S19_ok (R : W.Post) (E : W.Env) (w : World) (h : KE_S19 E w R) : W.WP Try.prog (W.cx 121) C29 (Q6 R) E w := by
  obtain ⟨e0, hq0, h1⟩ := W.asRef_elim h
  obtain ⟨list8, hq8, h2⟩ := W.asSlice_elim h1
  obtain ⟨b9, hq9, h3⟩ := W.asSlice_elim h2
  exact fun a ha => W.WP.at (n := (W.cx 121)) (E := [(0, .pointer (some e0)), (8, list8.v), (9, b9.v)]) (W.WP.reg (c := C29) (fun E w => KE_L13 E w R) (by kernel_rfl) (Eq.mp (by kernel_rfl) h3) fun _ _ a hA hK => KE_L13_ok R _ _ hK a hA) (ha.cons hq0 (ha.cons hq8 (ha.cons hq9 ha.nil)))
noncomputable def C30 : Code := W.Code.fst C28
/-- channel.go:95 -/
abbrev S18 (e0 : Addr) (list8 b9 : W.Sl) (w : World) (R : W.Post) : Prop :=
  ∃ t112 : Option Nat, w.drew.cell? (e0.add 4) = some (.map t112) ∧ 
  ∃ t116 : Int, w.drew.cell? (e0.add 3) = some (.int .i64 t116) ∧ 
  ∃ w1 : World, Sem.run Try.prog (Builtin.delete_ #[ty_map_int_sl_uint8, ty_int] ty_ #[.map t112, .int .i64 t116]) w.drew = .ok undef w1 ∧ S19 e0 list8 b9 w1 R
def KE_S18 (E : W.Env) (w : World) (R : W.Post) : Prop := W.asRef (W.Env.get? E 0) fun e0 => W.asSlice (W.Env.get? E 8) fun list8 => W.asSlice (W.Env.get? E 9) fun b9 => S18 e0 list8 b9 w R
theorem KE_S18_ok (R : W.Post) (E : W.Env) (w : World) (h : KE_S18 E w R) : W.WP Try.prog (W.cx 121) C28 (Q6 R) E w := by
  obtain ⟨e0, hq0, h1⟩ := W.asRef_elim h
  obtain ⟨list8, hq8, h2⟩ := W.asSlice_elim h1
  obtain ⟨b9, hq9, h3⟩ := W.asSlice_elim h2
  exact fun a ha => W.WP.at (n := (W.cx 121)) (E := [(0, .pointer (some e0)), (8, list8.v), (9, b9.v)]) (W.WP.seq (c := C28) (x := C30) (y := C29) (by kernel_rfl) <| W.WP.draw (c := C30) [0, 1, 2, 3, 4, 5, 6, 7, 8] (fun E w => KE_S19 E w R) (by kernel_rfl) (Eq.mp (by kernel_rfl) h3) fun _ _ a hA hK => (KE_S19_ok R _ _ hK) a hA) (ha.cons hq0 (ha.cons hq8 (ha.cons hq9 ha.nil)))
noncomputable def C31 : Code := W.Code.fst C25
/-- channel.go:94 -/
abbrev S17 (e0 : Addr) (list8 b9 : W.Sl) (w : World) (R : W.Post) : Prop :=
  ∃ t105 : Int, w.cell? (e0.add 3) = some (.int .i64 t105) ∧ 
  (w.cell? (e0.add 3)).isSome = true ∧ w.frozen? (e0.add 3) = false ∧ let w1 := w.setCell (e0.add 3) (.int .i64 (IntKind.wrap .i64 (t105 + 1)))
  S18 e0 list8 b9 w1 R
def KE_S17 (E : W.Env) (w : World) (R : W.Post) : Prop := W.asRef (W.Env.get? E 0) fun e0 => W.asSlice (W.Env.get? E 8) fun list8 => W.asSlice (W.Env.get? E 9) fun b9 => S17 e0 list8 b9 w R
theorem KE_S17_ok (R : W.Post) (E : W.Env) (w : World) (h : KE_S17 E w R) : W.WP Try.prog (W.cx 121) C25 (Q6 R) E w := by
  obtain ⟨e0, hq0, h1⟩ := W.asRef_elim h
  obtain ⟨list8, hq8, h2⟩ := W.asSlice_elim h1
  obtain ⟨b9, hq9, h3⟩ := W.asSlice_elim h2
  exact fun a ha => W.WP.at (n := (W.cx 121)) (E := [(0, .pointer (some e0)), (8, list8.v), (9, b9.v)]) (W.WP.seq (c := C25) (x := C31) (y := C28) (by kernel_rfl) <| W.WP.reg (c := C31) (fun E w => KE_S18 E w R) (by kernel_rfl) (Eq.mp (by kernel_rfl) h3) fun _ _ a hA hK => (KE_S18_ok R _ _ hK) a hA) (ha.cons hq0 (ha.cons hq8 (ha.cons hq9 ha.nil)))
noncomputable def C32 : Code := W.Code.fst C22
noncomputable def C33 : Code := W.Code.snd C23
/-- channel.go:91 -/
abbrev S15 (e0 : Addr) (list8 b9 : W.Sl) (ok10 : Bool) (w : World) (R : W.Post) : Prop :=
  W.sel (!ok10) (S16 list8 w R) (S17 e0 list8 b9 w R)
def KE_S15 (E : W.Env) (w : World) (R : W.Post) : Prop := W.asRef (W.Env.get? E 0) fun e0 => W.asSlice (W.Env.get? E 8) fun list8 => W.asSlice (W.Env.get? E 9) fun b9 => W.asBool' (W.Env.get? E 10) fun ok10 => S15 e0 list8 b9 ok10 w R
theorem KE_S15_ok (R : W.Post) (E : W.Env) (w : World) (h : KE_S15 E w R) : W.WP Try.prog (W.cx 121) C22 (Q5 R) E w := by
  obtain ⟨e0, hq0, h1⟩ := W.asRef_elim h
  obtain ⟨list8, hq8, h2⟩ := W.asSlice_elim h1
  obtain ⟨b9, hq9, h3⟩ := W.asSlice_elim h2
  obtain ⟨ok10, hq10, h4⟩ := W.asBool_elim h3
  exact fun a ha => W.WP.at (n := (W.cx 121)) (E := [(0, .pointer (some e0)), (8, list8.v), (9, b9.v), (10, .bool ok10)]) (W.WP.seq (c := C22) (x := C32) (y := C23) (by kernel_rfl) <| W.WP.reg (c := C32) (fun E w => W.condK (W.Env.val E (.tmp 100)) (KE_S16 E w R) (KE_S17 E w R)) (by kernel_rfl) (Eq.mp (by kernel_rfl) h4) fun _ _ a hA hK => (W.WP.condK (c := C23) (x := C24) (y := C33) (o := .tmp 100) (by kernel_rfl) (fun hK => (KE_S16_ok R _ _ hK)) (fun hK => (W.WP.skip (c := C33) (by kernel_rfl) fun a hA => (KE_S17_ok R _ _ hK) a hA)) hK) a hA) (ha.cons hq0 (ha.cons hq8 (ha.cons hq9 (ha.cons hq10 ha.nil))))
noncomputable def C34 : Code := W.Code.fst C20
/-- channel.go:90 -/
abbrev S14 (e0 : Addr) (list8 : W.Sl) (w : World) (R : W.Post) : Prop :=
  ∃ t90 : Option Nat, w.drew.cell? (e0.add 4) = some (.map t90) ∧ 
  ∃ t94 : Int, w.drew.cell? (e0.add 3) = some (.int .i64 t94) ∧ 
  ∃ t96_0 : W.Sl, ∃ t96_1 : Bool, Sem.run Try.prog (Instr.lookup ty_map_int_sl_uint8 (.map t90) (.int .i64 (IntKind.wrap .i64 (t94 + 1))) true) w.drew = .ok (.tuple #[t96_0.v, .bool t96_1]) w.drew ∧ S15 e0 list8 t96_0 t96_1 w.drew R
def KE_S14 (E : W.Env) (w : World) (R : W.Post) : Prop := W.asRef (W.Env.get? E 0) fun e0 => W.asSlice (W.Env.get? E 8) fun list8 => S14 e0 list8 w R
theorem KE_S14_ok (R : W.Post) (E : W.Env) (w : World) (h : KE_S14 E w R) : W.WP Try.prog (W.cx 121) C20 (Q6 R) E w := by
  obtain ⟨e0, hq0, h1⟩ := W.asRef_elim h
  obtain ⟨list8, hq8, h2⟩ := W.asSlice_elim h1
  exact fun a ha => W.WP.at (n := (W.cx 121)) (E := [(0, .pointer (some e0)), (8, list8.v)]) (W.WP.seq (c := C20) (x := C34) (y := C21) (by kernel_rfl) <| W.WP.draw (c := C34) [0, 1, 2, 3, 4, 5, 6, 7, 8, 9, 10, 11, 12, 13, 14] (fun E w => KE_S15 E w R) (by kernel_rfl) (Eq.mp (by kernel_rfl) h2) fun _ _ a hA hK => (W.WP.seq (c := C21) (x := C22) (y := C25) (by kernel_rfl) (KE_S15_ok R _ _ hK)) a hA) (ha.cons hq0 (ha.cons hq8 ha.nil))
theorem L13_step (e0 : Addr) (list8 : W.Sl) (w : World) (R : W.Post) (h : S14 e0 list8 w R) : L13 e0 list8 w R :=
  W.LP.step (n := (W.cx 121)) (c := C19) (E := [(0, .pointer (some e0)), (8, list8.v)]) (w := w) (W.WP.block (c := C19) (x := C20) (id := 1) (by kernel_rfl) (KE_S14_ok R _ _ (Eq.mp (by kernel_rfl) h)))
noncomputable def C35 : Code := W.Code.fst C16
/-- channel.go:88 -/
abbrev S12 (e0 : Addr) (w : World) (R : W.Post) : Prop :=
  L13 e0 ⟨none, 0, 0⟩ w R
def KE_S12 (E : W.Env) (w : World) (R : W.Post) : Prop := W.asRef (W.Env.get? E 0) fun e0 => S12 e0 w R
theorem KE_S12_ok (R : W.Post) (E : W.Env) (w : World) (h : KE_S12 E w R) : W.WP Try.prog (W.cx 121) C16 (Q2 R) E w := by
  obtain ⟨e0, hq0, h1⟩ := W.asRef_elim h
  exact fun a ha => W.WP.at (n := (W.cx 121)) (E := [(0, .pointer (some e0))]) (W.WP.seq (c := C16) (x := C35) (y := C17) (by kernel_rfl) <| W.WP.reg (c := C35) (fun E w => KE_L13 E w R) (by kernel_rfl) (Eq.mp (by kernel_rfl) h1) fun _ _ a hA hK => (W.WP.block (c := C17) (x := C18) (id := 0) (by kernel_rfl) (W.WP.loop (c := C18) (x := C19) (by kernel_rfl) (KE_L13_ok R _ _ hK))) a hA) (ha.cons hq0 ha.nil)
noncomputable def C36 : Code := W.Code.fst C15
noncomputable def C37 : Code := W.Code.snd C36
noncomputable def C38 : Code := W.Code.snd C37
noncomputable def C39 : Code := W.Code.fst C38
abbrev Q7 (R : W.Post) : Exit → Act → World → Prop := (Exit.then (W.wpx Try.prog (W.cx 121) C16 (bodyPost Try.prog Try.f39 R)) (bodyPost Try.prog Try.f39 R))
/-- channel.go:86 -/
abbrev S11 (e0 p3 : Addr) (w : World) (R : W.Post) : Prop :=
  ∃ t80 : Option Nat, w.drew.cell? (e0.add 4) = some (.map t80) ∧ 
  ∃ t82 : Int, w.drew.cell? (p3.add 0) = some (.int .i64 t82) ∧ 
  ∃ t84 : W.Sl, w.drew.cell? (p3.add 2) = some (t84.v) ∧ 
  Calls Try.prog n_slices_Clone_sl_byte_byte #[t84.v] w.drew fun r_ w1 => ∃ t85 : W.Sl, r_ = .returned (t85.v) ∧ 
  w1.cell? (p3.add 0) = some (.int .i64 t82) ∧ w1.cell? (e0.add 4) = some (.map t80) ∧ ∃ w2, Sem.run Try.prog (Instr.mapUpdate ty_map_int_sl_uint8 (.map t80) (.int .i64 t82) (t85.v)) w1 = .ok () w2 ∧ S12 e0 w2 R
def KE_S11 (E : W.Env) (w : World) (R : W.Post) : Prop := W.asRef (W.Env.get? E 0) fun e0 => W.asRef (W.Env.get? E 3) fun p3 => S11 e0 p3 w R
theorem KE_S11_ok (R : W.Post) (E : W.Env) (w : World) (h : KE_S11 E w R) : W.WP Try.prog (W.cx 121) C39 (Q7 R) E w := by
  obtain ⟨e0, hq0, h1⟩ := W.asRef_elim h
  obtain ⟨p3, hq3, h2⟩ := W.asRef_elim h1
  exact fun a ha => W.WP.at (n := (W.cx 121)) (E := [(0, .pointer (some e0)), (3, .pointer (some p3))]) (W.WP.draw (c := C39) [0, 1, 2, 3, 4, 5, 6, 7, 8, 9] (fun E w => KE_S12 E w R) (by kernel_rfl) (Eq.mp (by kernel_rfl) h2) fun _ _ a hA hK => (KE_S12_ok R _ _ hK) a hA) (ha.cons hq0 (ha.cons hq3 ha.nil))
noncomputable def C40 : Code := W.Code.fst C37
noncomputable def C41 : Code := W.Code.snd C38
/-- channel.go:85 -/
abbrev S10 (e0 p3 : Addr) (ok7 : Bool) (w : World) (R : W.Post) : Prop :=
  W.sel (!ok7) (∃ t70 : Int, w.drew.cell? (p3.add 0) = some (.int .i64 t70) ∧ 
  ∃ t74 : Int, w.drew.cell? (e0.add 3) = some (.int .i64 t74) ∧ 
  W.sel (decide (t70 > t74)) (S11 e0 p3 w.drew R) (S12 e0 w.drew R)) (S12 e0 w.drew R)
def KE_S10 (E : W.Env) (w : World) (R : W.Post) : Prop := W.asRef (W.Env.get? E 0) fun e0 => W.asRef (W.Env.get? E 3) fun p3 => W.asBool' (W.Env.get? E 7) fun ok7 => S10 e0 p3 ok7 w R
theorem KE_S10_ok (R : W.Post) (E : W.Env) (w : World) (h : KE_S10 E w R) : W.WP Try.prog (W.cx 121) C37 (Q7 R) E w := by
  obtain ⟨e0, hq0, h1⟩ := W.asRef_elim h
  obtain ⟨p3, hq3, h2⟩ := W.asRef_elim h1
  obtain ⟨ok7, hq7, h3⟩ := W.asBool_elim h2
  exact fun a ha => W.WP.at (n := (W.cx 121)) (E := [(0, .pointer (some e0)), (3, .pointer (some p3)), (7, .bool ok7)]) (W.WP.seq (c := C37) (x := C40) (y := C38) (by kernel_rfl) <| W.WP.draw (c := C40) [0, 1, 2, 3, 4, 5, 6, 7, 8, 9, 10] (fun E w => W.condK (W.Env.val E (.tmp 76)) (KE_S11 E w R) (KE_S12 E w R)) (by kernel_rfl) (Eq.mp (by kernel_rfl) h3) fun _ _ a hA hK => (W.WP.condK (c := C38) (x := C39) (y := C41) (o := .tmp 76) (by kernel_rfl) (fun hK => (KE_S11_ok R _ _ hK)) (fun hK => (W.WP.skip (c := C41) (by kernel_rfl) fun a hA => (KE_S12_ok R _ _ hK) a hA)) hK) a hA) (ha.cons hq0 (ha.cons hq3 (ha.cons hq7 ha.nil)))
noncomputable def C42 : Code := W.Code.fst C36
/-- channel.go:85 -/
abbrev S9 (e0 p3 : Addr) (w : World) (R : W.Post) : Prop :=
  ∃ t60 : Option Nat, w.drew.cell? (e0.add 4) = some (.map t60) ∧ 
  ∃ t62 : Int, w.drew.cell? (p3.add 0) = some (.int .i64 t62) ∧ 
  ∃ t63_0 : W.Sl, ∃ t63_1 : Bool, Sem.run Try.prog (Instr.lookup ty_map_int_sl_uint8 (.map t60) (.int .i64 t62) true) w.drew = .ok (.tuple #[t63_0.v, .bool t63_1]) w.drew ∧ S10 e0 p3 t63_1 w.drew R
def KE_S9 (E : W.Env) (w : World) (R : W.Post) : Prop := W.asRef (W.Env.get? E 0) fun e0 => W.asRef (W.Env.get? E 3) fun p3 => S9 e0 p3 w R
theorem KE_S9_ok (R : W.Post) (E : W.Env) (w : World) (h : KE_S9 E w R) : W.WP Try.prog (W.cx 121) C36 (Q7 R) E w := by
  obtain ⟨e0, hq0, h1⟩ := W.asRef_elim h
  obtain ⟨p3, hq3, h2⟩ := W.asRef_elim h1
  exact fun a ha => W.WP.at (n := (W.cx 121)) (E := [(0, .pointer (some e0)), (3, .pointer (some p3))]) (W.WP.seq (c := C36) (x := C42) (y := C37) (by kernel_rfl) <| W.WP.draw (c := C42) [0, 1, 2, 3, 4, 5, 6, 7, 8, 9, 10, 11] (fun E w => KE_S10 E w R) (by kernel_rfl) (Eq.mp (by kernel_rfl) h2) fun _ _ a hA hK => (KE_S10_ok R _ _ hK) a hA) (ha.cons hq0 (ha.cons hq3 ha.nil))
noncomputable def C43 : Code := W.Code.fst C12
/-- channel.go:84 -/
abbrev S8 (e0 p3 : Addr) (w : World) (R : W.Post) : Prop :=
  (w.cell? (e0.add 5)).isSome = true ∧ w.frozen? (e0.add 5) = false ∧ let w1 := w.setCell (e0.add 5) (.bool true)
  S9 e0 p3 w1 R
def KE_S8 (E : W.Env) (w : World) (R : W.Post) : Prop := W.asRef (W.Env.get? E 0) fun e0 => W.asRef (W.Env.get? E 3) fun p3 => S8 e0 p3 w R
theorem KE_S8_ok (R : W.Post) (E : W.Env) (w : World) (h : KE_S8 E w R) : W.WP Try.prog (W.cx 121) C12 (Q2 R) E w := by
  obtain ⟨e0, hq0, h1⟩ := W.asRef_elim h
  obtain ⟨p3, hq3, h2⟩ := W.asRef_elim h1
  exact fun a ha => W.WP.at (n := (W.cx 121)) (E := [(0, .pointer (some e0)), (3, .pointer (some p3))]) (W.WP.seq (c := C12) (x := C43) (y := C15) (by kernel_rfl) <| W.WP.reg (c := C43) (fun E w => KE_S9 E w R) (by kernel_rfl) (Eq.mp (by kernel_rfl) h2) fun _ _ a hA hK => (W.WP.seq (c := C15) (x := C36) (y := C16) (by kernel_rfl) (KE_S9_ok R _ _ hK)) a hA) (ha.cons hq0 (ha.cons hq3 ha.nil))
noncomputable def C44 : Code := W.Code.fst C9
noncomputable def C45 : Code := W.Code.snd C10
/-- channel.go:81 -/
abbrev S6 (e0 p3 : Addr) (w : World) (R : W.Post) : Prop :=
  ∃ t51 : Int, w.cell? (p3.add 0) = some (.int .i64 t51) ∧ 
  W.sel (t51 == 0) (S7  w R) (S8 e0 p3 w R)
def KE_S6 (E : W.Env) (w : World) (R : W.Post) : Prop := W.asRef (W.Env.get? E 0) fun e0 => W.asRef (W.Env.get? E 3) fun p3 => S6 e0 p3 w R
theorem KE_S6_ok (R : W.Post) (E : W.Env) (w : World) (h : KE_S6 E w R) : W.WP Try.prog (W.cx 121) C9 (Q1 R) E w := by
  obtain ⟨e0, hq0, h1⟩ := W.asRef_elim h
  obtain ⟨p3, hq3, h2⟩ := W.asRef_elim h1
  exact fun a ha => W.WP.at (n := (W.cx 121)) (E := [(0, .pointer (some e0)), (3, .pointer (some p3))]) (W.WP.seq (c := C9) (x := C44) (y := C10) (by kernel_rfl) <| W.WP.reg (c := C44) (fun E w => W.condK (W.Env.val E (.tmp 52)) (KE_S7 E w R) (KE_S8 E w R)) (by kernel_rfl) (Eq.mp (by kernel_rfl) h2) fun _ _ a hA hK => (W.WP.condK (c := C10) (x := C11) (y := C45) (o := .tmp 52) (by kernel_rfl) (fun hK => (KE_S7_ok R _ _ hK)) (fun hK => (W.WP.skip (c := C45) (by kernel_rfl) fun a hA => (KE_S8_ok R _ _ hK) a hA)) hK) a hA) (ha.cons hq0 (ha.cons hq3 ha.nil))
noncomputable def C46 : Code := W.Code.fst C5
noncomputable def C47 : Code := W.Code.snd C46
noncomputable def C48 : Code := W.Code.snd C47
noncomputable def C49 : Code := W.Code.fst C48
abbrev Q8 (R : W.Post) : Exit → Act → World → Prop := (Exit.then (W.wpx Try.prog (W.cx 121) C8 (bodyPost Try.prog Try.f39 R)) (bodyPost Try.prog Try.f39 R))
/-- channel.go:79 -/
abbrev S5 (e0 p3 : Addr) (more5 : Int) (w : World) (R : W.Post) : Prop :=
  ∃ t44 : W.Sl, w.cell? (e0.add 2) = some (t44.v) ∧ 
  (0 : Int) ≤ more5 ∧ more5 ≤ ((t44.n : Nat) : Int) ∧ Calls Try.prog n_slices_Clone_sl_sl_byte_sl_byte #[.slice (if t44.c = (Int.toNat more5) then t44.a else t44.a.map (·.add ((Int.toNat more5) * 1))) (t44.n - (Int.toNat more5)) (t44.c - (Int.toNat more5))] w fun r_ w1 => ∃ t47 : W.Sl, r_ = .returned (t47.v) ∧ 
  (w1.cell? (e0.add 2)).isSome = true ∧ w1.frozen? (e0.add 2) = false ∧ let w2 := w1.setCell (e0.add 2) (t47.v)
  S6 e0 p3 w2 R
def KE_S5 (E : W.Env) (w : World) (R : W.Post) : Prop := W.asRef (W.Env.get? E 0) fun e0 => W.asRef (W.Env.get? E 3) fun p3 => W.asInt .i64 (W.Env.get? E 5) fun more5 => S5 e0 p3 more5 w R
theorem KE_S5_ok (R : W.Post) (E : W.Env) (w : World) (h : KE_S5 E w R) : W.WP Try.prog (W.cx 121) C49 (Q8 R) E w := by
  obtain ⟨e0, hq0, h1⟩ := W.asRef_elim h
  obtain ⟨p3, hq3, h2⟩ := W.asRef_elim h1
  obtain ⟨more5, hq5, h3⟩ := W.asInt_elim h2
  exact fun a ha => W.WP.at (n := (W.cx 121)) (E := [(0, .pointer (some e0)), (3, .pointer (some p3)), (5, .int .i64 more5)]) (W.WP.reg (c := C49) (fun E w => KE_S6 E w R) (by kernel_rfl) (Eq.mp (by kernel_rfl) h3) fun _ _ a hA hK => (W.WP.seq (c := C8) (x := C9) (y := C12) (by kernel_rfl) (KE_S6_ok R _ _ hK)) a hA) (ha.cons hq0 (ha.cons hq3 (ha.cons hq5 ha.nil)))
noncomputable def C50 : Code := W.Code.fst C47
noncomputable def C51 : Code := W.Code.snd C48
/-- channel.go:78 -/
abbrev S4 (e0 p3 : Addr) (more5 : Int) (w : World) (R : W.Post) : Prop :=
  W.sel (decide (more5 > 0)) (S5 e0 p3 more5 w R) (S6 e0 p3 w R)
def KE_S4 (E : W.Env) (w : World) (R : W.Post) : Prop := W.asRef (W.Env.get? E 0) fun e0 => W.asRef (W.Env.get? E 3) fun p3 => W.asInt .i64 (W.Env.get? E 5) fun more5 => S4 e0 p3 more5 w R
theorem KE_S4_ok (R : W.Post) (E : W.Env) (w : World) (h : KE_S4 E w R) : W.WP Try.prog (W.cx 121) C47 (Q8 R) E w := by
  obtain ⟨e0, hq0, h1⟩ := W.asRef_elim h
  obtain ⟨p3, hq3, h2⟩ := W.asRef_elim h1
  obtain ⟨more5, hq5, h3⟩ := W.asInt_elim h2
  exact fun a ha => W.WP.at (n := (W.cx 121)) (E := [(0, .pointer (some e0)), (3, .pointer (some p3)), (5, .int .i64 more5)]) (W.WP.seq (c := C47) (x := C50) (y := C48) (by kernel_rfl) <| W.WP.reg (c := C50) (fun E w => W.condK (W.Env.val E (.tmp 39)) (KE_S5 E w R) (KE_S6 E w R)) (by kernel_rfl) (Eq.mp (by kernel_rfl) h3) fun _ _ a hA hK => (W.WP.condK (c := C48) (x := C49) (y := C51) (o := .tmp 39) (by kernel_rfl) (fun hK => (KE_S5_ok R _ _ hK)) (fun hK => (W.WP.skip (c := C51) (by kernel_rfl) fun a hA => (W.WP.seq (c := C8) (x := C9) (y := C12) (by kernel_rfl) (KE_S6_ok R _ _ hK)) a hA)) hK) a hA) (ha.cons hq0 (ha.cons hq3 (ha.cons hq5 ha.nil)))
noncomputable def C52 : Code := W.Code.fst C46
/-- channel.go:78 -/
abbrev S3 (e0 p3 : Addr) (w : World) (R : W.Post) : Prop :=
  ∃ t34 : Int, w.drew.cell? (p3.add 1) = some (.int .i64 t34) ∧ 
  Calls Try.prog n_channel_End_acknowledged #[.pointer (some e0)] w.drew fun r_ w1 => ∃ t36 : Int, r_ = .returned (.int .i64 t36) ∧ 
  w1.cell? (p3.add 1) = some (.int .i64 t34) ∧ S4 e0 p3 (IntKind.wrap .i64 (t34 - t36)) w1 R
def KE_S3 (E : W.Env) (w : World) (R : W.Post) : Prop := W.asRef (W.Env.get? E 0) fun e0 => W.asRef (W.Env.get? E 3) fun p3 => S3 e0 p3 w R
theorem KE_S3_ok (R : W.Post) (E : W.Env) (w : World) (h : KE_S3 E w R) : W.WP Try.prog (W.cx 121) C46 (Q8 R) E w := by
  obtain ⟨e0, hq0, h1⟩ := W.asRef_elim h
  obtain ⟨p3, hq3, h2⟩ := W.asRef_elim h1
  exact fun a ha => W.WP.at (n := (W.cx 121)) (E := [(0, .pointer (some e0)), (3, .pointer (some p3))]) (W.WP.seq (c := C46) (x := C52) (y := C47) (by kernel_rfl) <| W.WP.draw (c := C52) [0, 1, 2, 3, 4, 5] (fun E w => KE_S4 E w R) (by kernel_rfl) (Eq.mp (by kernel_rfl) h2) fun _ _ a hA hK => (KE_S4_ok R _ _ hK) a hA) (ha.cons hq0 (ha.cons hq3 ha.nil))
noncomputable def C53 : Code := W.Code.fst C2
noncomputable def C54 : Code := W.Code.snd C3
/-- channel.go:75 -/
abbrev S1 (e0 p3 : Addr) (w : World) (R : W.Post) : Prop :=
  ∃ t11_0 : Int, ∃ t11_1 : Int, ∃ t11_2 : W.Sl, w.drew.cell? (p3.add 0) = some (.int .i64 t11_0) ∧ w.drew.cell? (p3.add 1) = some (.int .i64 t11_1) ∧ w.drew.cell? (p3.add 2) = some (t11_2.v) ∧ 
  Calls Try.prog n_channel_valid #[.agg #[.int .i64 t11_0, .int .i64 t11_1, t11_2.v]] w.drew fun r_ w1 => ∃ t12 : Bool, r_ = .returned (.bool t12) ∧ 
  W.sel (!t12) (S2  w1 R) (∃ t16 : Int, w1.cell? (p3.add 1) = some (.int .i64 t16) ∧ 
  ∃ t20 : Int, w1.cell? (e0.add 1) = some (.int .i64 t20) ∧ 
  W.sel (decide (t16 > t20)) (S2  w1 R) (∃ t25 : Int, w1.cell? (p3.add 0) = some (.int .i64 t25) ∧ 
  ∃ t29 : Int, w1.cell? (e0.add 3) = some (.int .i64 t29) ∧ 
  W.sel (decide (t25 > (IntKind.wrap .i64 (t29 + 16)))) (S2  w1 R) (S3 e0 p3 w1 R)))
def KE_S1 (E : W.Env) (w : World) (R : W.Post) : Prop := W.asRef (W.Env.get? E 0) fun e0 => W.asRef (W.Env.get? E 3) fun p3 => S1 e0 p3 w R
theorem KE_S1_ok (R : W.Post) (E : W.Env) (w : World) (h : KE_S1 E w R) : W.WP Try.prog (W.cx 121) C2 (Q0 R) E w := by
  obtain ⟨e0, hq0, h1⟩ := W.asRef_elim h
  obtain ⟨p3, hq3, h2⟩ := W.asRef_elim h1
  exact fun a ha => W.WP.at (n := (W.cx 121)) (E := [(0, .pointer (some e0)), (3, .pointer (some p3))]) (W.WP.seq (c := C2) (x := C53) (y := C3) (by kernel_rfl) <| W.WP.draw (c := C53) [0, 1, 2, 3, 4, 5, 6, 7, 8, 9, 10, 11, 12, 13, 14, 15, 16, 17, 18, 19, 20, 21] (fun E w => W.condK (W.Env.val E (.tmp 32)) (KE_S2 E w R) (KE_S3 E w R)) (by kernel_rfl) (Eq.mp (by kernel_rfl) h2) fun _ _ a hA hK => (W.WP.condK (c := C3) (x := C4) (y := C54) (o := .tmp 32) (by kernel_rfl) (fun hK => (KE_S2_ok R _ _ hK)) (fun hK => (W.WP.skip (c := C54) (by kernel_rfl) fun a hA => (W.WP.seq (c := C5) (x := C46) (y := C8) (by kernel_rfl) (KE_S3_ok R _ _ hK)) a hA)) hK) a hA) (ha.cons hq0 (ha.cons hq3 ha.nil))
noncomputable def C55 : Code := W.Code.fst C0
/-- channel.go:74 -/
abbrev S0 (e0 : Addr) (p1_0 p1_1 : Int) (p1_2 : W.Sl) (w : World) (R : W.Post) : Prop :=
  let w1 := w.alloc (.cells #[.int .i64 p1_0, .int .i64 p1_1, p1_2.v] ty_channel_Packet)
  S1 e0 (Addr.mk w.heap.size 0 none) w1 R
def KE_S0 (E : W.Env) (w : World) (R : W.Post) : Prop := W.asRef (W.Env.get? E 0) fun e0 => W.asAgg (W.Env.get? E 1) fun p1_l0 => W.asCons p1_l0 fun p1_v0 p1_l1 => W.asInt .i64 (some p1_v0) fun p1_0 => W.asCons p1_l1 fun p1_v1 p1_l2 => W.asInt .i64 (some p1_v1) fun p1_1 => W.asCons p1_l2 fun p1_v2 p1_l3 => W.asSlice (some p1_v2) fun p1_2 => W.asNil p1_l3 <| S0 e0 p1_0 p1_1 p1_2 w R
theorem KE_S0_ok (R : W.Post) (E : W.Env) (w : World) (h : KE_S0 E w R) : W.WP Try.prog (W.cx 121) C0 (Q2 R) E w := by
  obtain ⟨e0, hq0, h1⟩ := W.asRef_elim h
  obtain ⟨p1_l0, hq1, h2⟩ := W.asAgg_elim h1
  obtain ⟨p1_v0, p1_l1, rfl, h3⟩ := W.asCons_elim h2
  obtain ⟨p1_0, ex, h4⟩ := W.asInt_elim h3
  obtain rfl := Option.some.inj ex
  obtain ⟨p1_v1, p1_l2, rfl, h5⟩ := W.asCons_elim h4
  obtain ⟨p1_1, ex, h6⟩ := W.asInt_elim h5
  obtain rfl := Option.some.inj ex
  obtain ⟨p1_v2, p1_l3, rfl, h7⟩ := W.asCons_elim h6
  obtain ⟨p1_2, ex, h8⟩ := W.asSlice_elim h7
  obtain rfl := Option.some.inj ex
  obtain ⟨rfl, h9⟩ := W.asNil_elim h8
  exact fun a ha => W.WP.at (n := (W.cx 121)) (E := [(0, .pointer (some e0)), (1, .agg #[.int .i64 p1_0, .int .i64 p1_1, p1_2.v])]) (W.WP.seq (c := C0) (x := C55) (y := C1) (by kernel_rfl) <| W.WP.reg (c := C55) (fun E w => KE_S1 E w R) (by kernel_rfl) (Eq.mp (by kernel_rfl) h9) fun _ _ a hA hK => (W.WP.seq (c := C1) (x := C2) (y := C5) (by kernel_rfl) (KE_S1_ok R _ _ hK)) a hA) (ha.cons hq0 (ha.cons hq1 ha.nil))
/-- (*enthymeme/channel.End).In -/
theorem ok (e0 : Addr) (p1_0 p1_1 : Int) (p1_2 : W.Sl) (w : World) (R : W.Post) (h : S0 e0 p1_0 p1_1 p1_2 w R) : Calls Try.prog n_channel_End_In #[.pointer (some e0), .agg #[.int .i64 p1_0, .int .i64 p1_1, p1_2.v]] w R :=
  W.calls_of_WP' (fn := Try.f39) (c := C0) (args := [.pointer (some e0), .agg #[.int .i64 p1_0, .int .i64 p1_1, p1_2.v]]) (by kernel_rfl) (by kernel_rfl) (by kernel_rfl) (KE_S0_ok R _ _ (Eq.mp (by kernel_rfl) h))
end channel_End_In
namespace channel_End_Waiting
noncomputable def C0 : Code := (Try.f40.body).getD .skip
noncomputable def C1 : Code := W.Code.snd C0
abbrev Q0 (R : W.Post) : Exit → Act → World → Prop := (bodyPost Try.prog Try.f40 R)
noncomputable def C2 : Code := W.Code.fst C1
noncomputable def C3 : Code := W.Code.snd C1
/-- channel.go:101 -/
abbrev S1 (e0 : Addr) (w : World) (R : W.Post) : Prop :=
  ∃ t6 : W.Sl, w.cell? (e0.add 2) = some (t6.v) ∧ 
  R (.returned (.int .i64 ((t6.n : Nat) : Int))) w
def KE_S1 (E : W.Env) (w : World) (R : W.Post) : Prop := W.asRef (W.Env.get? E 0) fun e0 => S1 e0 w R
theorem KE_S1_ok (R : W.Post) (E : W.Env) (w : World) (h : KE_S1 E w R) : W.WP Try.prog (W.cx 8) C1 (Q0 R) E w := by
  obtain ⟨e0, hq0, h1⟩ := W.asRef_elim h
  exact fun a ha => W.WP.at (n := (W.cx 8)) (E := [(0, .pointer (some e0))]) (W.WP.seq (c := C1) (x := C2) (y := C3) (by kernel_rfl) <| W.WP.reg (c := C2) (fun E w => W.retVC Try.prog Try.f40 E w (fun v => R (.returned v) w)) (by kernel_rfl) (Eq.mp (by kernel_rfl) h1) fun _ _ a hA hK => (W.WP.ret (c := C3) (by kernel_rfl) fun a hA => W.retVC_sound hA hK) a hA) (ha.cons hq0 ha.nil)
noncomputable def C4 : Code := W.Code.fst C0
/-- channel.go:101 -/
abbrev S0 (e0 : Addr) (w : World) (R : W.Post) : Prop :=
  S1 e0 w R
def KE_S0 (E : W.Env) (w : World) (R : W.Post) : Prop := W.asRef (W.Env.get? E 0) fun e0 => S0 e0 w R
theorem KE_S0_ok (R : W.Post) (E : W.Env) (w : World) (h : KE_S0 E w R) : W.WP Try.prog (W.cx 8) C0 (Q0 R) E w := by
  obtain ⟨e0, hq0, h1⟩ := W.asRef_elim h
  exact fun a ha => W.WP.at (n := (W.cx 8)) (E := [(0, .pointer (some e0))]) (W.WP.seq (c := C0) (x := C4) (y := C1) (by kernel_rfl) <| W.WP.reg (c := C4) (fun E w => KE_S1 E w R) (by kernel_rfl) (Eq.mp (by kernel_rfl) h1) fun _ _ a hA hK => (KE_S1_ok R _ _ hK) a hA) (ha.cons hq0 ha.nil)
/-- (*enthymeme/channel.End).Waiting -/
theorem ok (e0 : Addr) (w : World) (R : W.Post) (h : S0 e0 w R) : Calls Try.prog n_channel_End_Waiting #[.pointer (some e0)] w R :=
  W.calls_of_WP' (fn := Try.f40) (c := C0) (args := [.pointer (some e0)]) (by kernel_rfl) (by kernel_rfl) (by kernel_rfl) (KE_S0_ok R _ _ (Eq.mp (by kernel_rfl) h))
end channel_End_Waiting
namespace enthymemelaw38_lives
noncomputable def C0 : Code := (Try.f15.body).getD .skip
noncomputable def C1 : Code := W.Code.snd C0
noncomputable def C2 : Code := W.Code.snd C1
noncomputable def C3 : Code := W.Code.snd C2
noncomputable def C4 : Code := W.Code.fst C3
noncomputable def C5 : Code := W.Code.snd C4
noncomputable def C6 : Code := W.Code.fst C5
noncomputable def C7 : Code := W.Code.snd C3
abbrev Q0 (R : W.Post) : Exit → Act → World → Prop := (Exit.then (W.wpx Try.prog (W.cx 138) C7 (bodyPost Try.prog Try.f15 R)) (bodyPost Try.prog Try.f15 R))
noncomputable def C8 : Code := W.Code.fst C6
noncomputable def C9 : Code := W.Code.snd C6
/-- law.go:18 -/
abbrev S4  (w : World) (R : W.Post) : Prop :=
  R (.returned (.bool false)) w
def KE_S4 (E : W.Env) (w : World) (R : W.Post) : Prop := S4  w R
theorem KE_S4_ok (R : W.Post) (E : W.Env) (w : World) (h : KE_S4 E w R) : W.WP Try.prog (W.cx 138) C6 (Q0 R) E w := by
  exact fun a ha => W.WP.at (n := (W.cx 138)) (E := []) (W.WP.seq (c := C6) (x := C8) (y := C9) (by kernel_rfl) <| W.WP.reg (c := C8) (fun E w => W.retVC Try.prog Try.f15 E w (fun v => R (.returned v) w)) (by kernel_rfl) (Eq.mp (by kernel_rfl) h) fun _ _ a hA hK => (W.WP.ret (c := C9) (by kernel_rfl) fun a hA => W.retVC_sound hA hK) a hA) ha.nil
noncomputable def C10 : Code := W.Code.snd C7
noncomputable def C11 : Code := W.Code.snd C10
noncomputable def C12 : Code := W.Code.snd C11
noncomputable def C13 : Code := W.Code.snd C12
noncomputable def C14 : Code := W.Code.fst C13
noncomputable def C15 : Code := W.Code.snd C14
noncomputable def C16 : Code := W.Code.fst C15
noncomputable def C17 : Code := W.Code.snd C13
abbrev Q1 (R : W.Post) : Exit → Act → World → Prop := (Exit.then (W.wpx Try.prog (W.cx 138) C17 (bodyPost Try.prog Try.f15 R)) (bodyPost Try.prog Try.f15 R))
noncomputable def C18 : Code := W.Code.fst C16
noncomputable def C19 : Code := W.Code.snd C16
/-- law.go:25 -/
abbrev S10  (w : World) (R : W.Post) : Prop :=
  R (.returned (.bool false)) w
def KE_S10 (E : W.Env) (w : World) (R : W.Post) : Prop := S10  w R
theorem KE_S10_ok (R : W.Post) (E : W.Env) (w : World) (h : KE_S10 E w R) : W.WP Try.prog (W.cx 138) C16 (Q1 R) E w := by
  exact fun a ha => W.WP.at (n := (W.cx 138)) (E := []) (W.WP.seq (c := C16) (x := C18) (y := C19) (by kernel_rfl) <| W.WP.reg (c := C18) (fun E w => W.retVC Try.prog Try.f15 E w (fun v => R (.returned v) w)) (by kernel_rfl) (Eq.mp (by kernel_rfl) h) fun _ _ a hA hK => (W.WP.ret (c := C19) (by kernel_rfl) fun a hA => W.retVC_sound hA hK) a hA) ha.nil
noncomputable def C20 : Code := W.Code.snd C17
noncomputable def C21 : Code := W.Code.snd C20
noncomputable def C22 : Code := W.Code.snd C21
noncomputable def C23 : Code := W.Code.fst C22
noncomputable def C24 : Code := W.Code.snd C23
noncomputable def C25 : Code := W.Code.fst C24
noncomputable def C26 : Code := W.Code.snd C22
abbrev Q2 (R : W.Post) : Exit → Act → World → Prop := (Exit.then (W.wpx Try.prog (W.cx 138) C26 (bodyPost Try.prog Try.f15 R)) (bodyPost Try.prog Try.f15 R))
noncomputable def C27 : Code := W.Code.fst C25
noncomputable def C28 : Code := W.Code.snd C25
/-- law.go:31 -/
abbrev S15  (w : World) (R : W.Post) : Prop :=
  R (.returned (.bool false)) w
def KE_S15 (E : W.Env) (w : World) (R : W.Post) : Prop := S15  w R
theorem KE_S15_ok (R : W.Post) (E : W.Env) (w : World) (h : KE_S15 E w R) : W.WP Try.prog (W.cx 138) C25 (Q2 R) E w := by
  exact fun a ha => W.WP.at (n := (W.cx 138)) (E := []) (W.WP.seq (c := C25) (x := C27) (y := C28) (by kernel_rfl) <| W.WP.reg (c := C27) (fun E w => W.retVC Try.prog Try.f15 E w (fun v => R (.returned v) w)) (by kernel_rfl) (Eq.mp (by kernel_rfl) h) fun _ _ a hA hK => (W.WP.ret (c := C28) (by kernel_rfl) fun a hA => W.retVC_sound hA hK) a hA) ha.nil
noncomputable def C29 : Code := W.Code.snd C26
noncomputable def C30 : Code := W.Code.snd C29
abbrev Q3 (R : W.Post) : Exit → Act → World → Prop := (bodyPost Try.prog Try.f15 R)
noncomputable def C31 : Code := W.Code.fst C30
noncomputable def C32 : Code := W.Code.snd C30
/-- law.go:35 -/
abbrev S18 (a1 : Option Addr) (p5 : W.Sl) (w : World) (R : W.Post) : Prop :=
  W.sel (((p5.n : Nat) : Int) == 1) ((0 : Int) ≤ 0 ∧ 0 < ((p5.n : Nat) : Int) ∧ W.optP p5.a fun t120_p => ∃ t122 : Int, w.cell? ((t120_p.add (Int.toNat 0 * 3)).add 0) = some (.int .i64 t122) ∧ 
  W.sel (t122 == 3) ((0 : Int) ≤ 0 ∧ 0 < ((p5.n : Nat) : Int) ∧ W.optP p5.a fun t127_p => ∃ t129 : W.Sl, w.cell? ((t127_p.add (Int.toNat 0 * 3)).add 2) = some (t129.v) ∧ 
  ∃ t130 : ByteArray, Sem.run Try.prog (Go.convert ty_sl_uint8 ty_string (t129.v)) w = .ok (.string t130) w ∧ W.sel (t130.toList == (ByteArray.mk #[99]).toList) (Calls Try.prog n_channel_End_Waiting #[.pointer a1] w fun r_ w1 => ∃ t135 : Int, r_ = .returned (.int .i64 t135) ∧ 
  R (.returned (.bool (t135 == 1))) w1) (R (.returned (.bool false)) w)) (R (.returned (.bool false)) w)) (R (.returned (.bool false)) w)
def KE_S18 (E : W.Env) (w : World) (R : W.Post) : Prop := W.asPtr (W.Env.get? E 1) fun a1 => W.asSlice (W.Env.get? E 5) fun p5 => S18 a1 p5 w R
theorem KE_S18_ok (R : W.Post) (E : W.Env) (w : World) (h : KE_S18 E w R) : W.WP Try.prog (W.cx 138) C30 (Q3 R) E w := by
  obtain ⟨a1, hq1, h1⟩ := W.asPtr_elim h
  obtain ⟨p5, hq5, h2⟩ := W.asSlice_elim h1
  exact fun a ha => W.WP.at (n := (W.cx 138)) (E := [(1, .pointer a1), (5, p5.v)]) (W.WP.seq (c := C30) (x := C31) (y := C32) (by kernel_rfl) <| W.WP.reg (c := C31) (fun E w => W.retVC Try.prog Try.f15 E w (fun v => R (.returned v) w)) (by kernel_rfl) (Eq.mp (by kernel_rfl) h2) fun _ _ a hA hK => (W.WP.ret (c := C32) (by kernel_rfl) fun a hA => W.retVC_sound hA hK) a hA) (ha.cons hq1 (ha.cons hq5 ha.nil))
noncomputable def C33 : Code := W.Code.fst C29
/-- law.go:34 -/
abbrev S17 (a1 : Option Addr) (w : World) (R : W.Post) : Prop :=
  Calls Try.prog n_channel_End_Out #[.pointer a1] w fun r_ w1 => ∃ t114 : W.Sl, r_ = .returned (t114.v) ∧ 
  S18 a1 t114 w1 R
def KE_S17 (E : W.Env) (w : World) (R : W.Post) : Prop := W.asPtr (W.Env.get? E 1) fun a1 => S17 a1 w R
theorem KE_S17_ok (R : W.Post) (E : W.Env) (w : World) (h : KE_S17 E w R) : W.WP Try.prog (W.cx 138) C29 (Q3 R) E w := by
  obtain ⟨a1, hq1, h1⟩ := W.asPtr_elim h
  exact fun a ha => W.WP.at (n := (W.cx 138)) (E := [(1, .pointer a1)]) (W.WP.seq (c := C29) (x := C33) (y := C30) (by kernel_rfl) <| W.WP.reg (c := C33) (fun E w => KE_S18 E w R) (by kernel_rfl) (Eq.mp (by kernel_rfl) h1) fun _ _ a hA hK => (KE_S18_ok R _ _ hK) a hA) (ha.cons hq1 ha.nil)
noncomputable def C34 : Code := W.Code.fst C26
/-- law.go:33 -/
abbrev S16 (a1 : Option Addr) (q8 : W.Sl) (w : World) (R : W.Post) : Prop :=
  (0 : Int) ≤ 0 ∧ 0 < ((q8.n : Nat) : Int) ∧ W.optP q8.a fun t110_p => ∃ t111_0 : Int, ∃ t111_1 : Int, ∃ t111_2 : W.Sl, w.cell? ((t110_p.add (Int.toNat 0 * 3)).add 0) = some (.int .i64 t111_0) ∧ w.cell? ((t110_p.add (Int.toNat 0 * 3)).add 1) = some (.int .i64 t111_1) ∧ w.cell? ((t110_p.add (Int.toNat 0 * 3)).add 2) = some (t111_2.v) ∧ 
  Calls Try.prog n_channel_End_In #[.pointer a1, .agg #[.int .i64 t111_0, .int .i64 t111_1, t111_2.v]] w fun r_ w1 => ∃ t112 : W.Sl, r_ = .returned (t112.v) ∧ 
  S17 a1 w1 R
def KE_S16 (E : W.Env) (w : World) (R : W.Post) : Prop := W.asPtr (W.Env.get? E 1) fun a1 => W.asSlice (W.Env.get? E 8) fun q8 => S16 a1 q8 w R
theorem KE_S16_ok (R : W.Post) (E : W.Env) (w : World) (h : KE_S16 E w R) : W.WP Try.prog (W.cx 138) C26 (Q3 R) E w := by
  obtain ⟨a1, hq1, h1⟩ := W.asPtr_elim h
  obtain ⟨q8, hq8, h2⟩ := W.asSlice_elim h1
  exact fun a ha => W.WP.at (n := (W.cx 138)) (E := [(1, .pointer a1), (8, q8.v)]) (W.WP.seq (c := C26) (x := C34) (y := C29) (by kernel_rfl) <| W.WP.reg (c := C34) (fun E w => KE_S17 E w R) (by kernel_rfl) (Eq.mp (by kernel_rfl) h2) fun _ _ a hA hK => (KE_S17_ok R _ _ hK) a hA) (ha.cons hq1 (ha.cons hq8 ha.nil))
noncomputable def C35 : Code := W.Code.fst C23
noncomputable def C36 : Code := W.Code.snd C24
/-- law.go:30 -/
abbrev S14 (a1 : Option Addr) (x6 y7 q8 : W.Sl) (w : World) (R : W.Post) : Prop :=
  W.sel (((x6.n : Nat) : Int) != 0) (S15  w R) (W.sel (((y7.n : Nat) : Int) != 2) (S15  w R) ((0 : Int) ≤ 1 ∧ 1 < ((y7.n : Nat) : Int) ∧ W.optP y7.a fun t84_p => ∃ t85 : W.Sl, w.cell? (t84_p.add (Int.toNat 1 * 1)) = some (t85.v) ∧ 
  ∃ t86 : ByteArray, Sem.run Try.prog (Go.convert ty_sl_uint8 ty_string (t85.v)) w = .ok (.string t86) w ∧ W.sel (!(t86.toList == (ByteArray.mk #[98]).toList)) (S15  w R) (W.sel (((q8.n : Nat) : Int) != 1) (S15  w R) ((0 : Int) ≤ 0 ∧ 0 < ((q8.n : Nat) : Int) ∧ W.optP q8.a fun t96_p => ∃ t98 : Int, w.cell? ((t96_p.add (Int.toNat 0 * 3)).add 1) = some (.int .i64 t98) ∧ 
  W.sel (t98 != 2) (S15  w R) ((0 : Int) ≤ 0 ∧ 0 < ((q8.n : Nat) : Int) ∧ W.optP q8.a fun t103_p => ∃ t105 : Int, w.cell? ((t103_p.add (Int.toNat 0 * 3)).add 0) = some (.int .i64 t105) ∧ 
  W.sel (t105 != 0) (S15  w R) (S16 a1 q8 w R))))))
def KE_S14 (E : W.Env) (w : World) (R : W.Post) : Prop := W.asPtr (W.Env.get? E 1) fun a1 => W.asSlice (W.Env.get? E 6) fun x6 => W.asSlice (W.Env.get? E 7) fun y7 => W.asSlice (W.Env.get? E 8) fun q8 => S14 a1 x6 y7 q8 w R
theorem KE_S14_ok (R : W.Post) (E : W.Env) (w : World) (h : KE_S14 E w R) : W.WP Try.prog (W.cx 138) C23 (Q2 R) E w := by
  obtain ⟨a1, hq1, h1⟩ := W.asPtr_elim h
  obtain ⟨x6, hq6, h2⟩ := W.asSlice_elim h1
  obtain ⟨y7, hq7, h3⟩ := W.asSlice_elim h2
  obtain ⟨q8, hq8, h4⟩ := W.asSlice_elim h3
  exact fun a ha => W.WP.at (n := (W.cx 138)) (E := [(1, .pointer a1), (6, x6.v), (7, y7.v), (8, q8.v)]) (W.WP.seq (c := C23) (x := C35) (y := C24) (by kernel_rfl) <| W.WP.reg (c := C35) (fun E w => W.condK (W.Env.val E (.tmp 107)) (KE_S15 E w R) (KE_S16 E w R)) (by kernel_rfl) (Eq.mp (by kernel_rfl) h4) fun _ _ a hA hK => (W.WP.condK (c := C24) (x := C25) (y := C36) (o := .tmp 107) (by kernel_rfl) (fun hK => (KE_S15_ok R _ _ hK)) (fun hK => (W.WP.skip (c := C36) (by kernel_rfl) fun a hA => (KE_S16_ok R _ _ hK) a hA)) hK) a hA) (ha.cons hq1 (ha.cons hq6 (ha.cons hq7 (ha.cons hq8 ha.nil))))
noncomputable def C37 : Code := W.Code.fst C21
/-- law.go:29 -/
abbrev S13 (a1 b3 : Option Addr) (x6 y7 : W.Sl) (w : World) (R : W.Post) : Prop :=
  Calls Try.prog n_channel_End_Out #[.pointer b3] w fun r_ w1 => ∃ t73 : W.Sl, r_ = .returned (t73.v) ∧ 
  S14 a1 x6 y7 t73 w1 R
def KE_S13 (E : W.Env) (w : World) (R : W.Post) : Prop := W.asPtr (W.Env.get? E 1) fun a1 => W.asPtr (W.Env.get? E 3) fun b3 => W.asSlice (W.Env.get? E 6) fun x6 => W.asSlice (W.Env.get? E 7) fun y7 => S13 a1 b3 x6 y7 w R
theorem KE_S13_ok (R : W.Post) (E : W.Env) (w : World) (h : KE_S13 E w R) : W.WP Try.prog (W.cx 138) C21 (Q3 R) E w := by
  obtain ⟨a1, hq1, h1⟩ := W.asPtr_elim h
  obtain ⟨b3, hq3, h2⟩ := W.asPtr_elim h1
  obtain ⟨x6, hq6, h3⟩ := W.asSlice_elim h2
  obtain ⟨y7, hq7, h4⟩ := W.asSlice_elim h3
  exact fun a ha => W.WP.at (n := (W.cx 138)) (E := [(1, .pointer a1), (3, .pointer b3), (6, x6.v), (7, y7.v)]) (W.WP.seq (c := C21) (x := C37) (y := C22) (by kernel_rfl) <| W.WP.reg (c := C37) (fun E w => KE_S14 E w R) (by kernel_rfl) (Eq.mp (by kernel_rfl) h4) fun _ _ a hA hK => (W.WP.seq (c := C22) (x := C23) (y := C26) (by kernel_rfl) (KE_S14_ok R _ _ hK)) a hA) (ha.cons hq1 (ha.cons hq3 (ha.cons hq6 (ha.cons hq7 ha.nil))))
noncomputable def C38 : Code := W.Code.fst C20
/-- law.go:28 -/
abbrev S12 (a1 b3 : Option Addr) (p5 x6 : W.Sl) (w : World) (R : W.Post) : Prop :=
  (0 : Int) ≤ 0 ∧ 0 < ((p5.n : Nat) : Int) ∧ W.optP p5.a fun t69_p => ∃ t70_0 : Int, ∃ t70_1 : Int, ∃ t70_2 : W.Sl, w.cell? ((t69_p.add (Int.toNat 0 * 3)).add 0) = some (.int .i64 t70_0) ∧ w.cell? ((t69_p.add (Int.toNat 0 * 3)).add 1) = some (.int .i64 t70_1) ∧ w.cell? ((t69_p.add (Int.toNat 0 * 3)).add 2) = some (t70_2.v) ∧ 
  Calls Try.prog n_channel_End_In #[.pointer b3, .agg #[.int .i64 t70_0, .int .i64 t70_1, t70_2.v]] w fun r_ w1 => ∃ t71 : W.Sl, r_ = .returned (t71.v) ∧ 
  S13 a1 b3 x6 t71 w1 R
def KE_S12 (E : W.Env) (w : World) (R : W.Post) : Prop := W.asPtr (W.Env.get? E 1) fun a1 => W.asPtr (W.Env.get? E 3) fun b3 => W.asSlice (W.Env.get? E 5) fun p5 => W.asSlice (W.Env.get? E 6) fun x6 => S12 a1 b3 p5 x6 w R
theorem KE_S12_ok (R : W.Post) (E : W.Env) (w : World) (h : KE_S12 E w R) : W.WP Try.prog (W.cx 138) C20 (Q3 R) E w := by
  obtain ⟨a1, hq1, h1⟩ := W.asPtr_elim h
  obtain ⟨b3, hq3, h2⟩ := W.asPtr_elim h1
  obtain ⟨p5, hq5, h3⟩ := W.asSlice_elim h2
  obtain ⟨x6, hq6, h4⟩ := W.asSlice_elim h3
  exact fun a ha => W.WP.at (n := (W.cx 138)) (E := [(1, .pointer a1), (3, .pointer b3), (5, p5.v), (6, x6.v)]) (W.WP.seq (c := C20) (x := C38) (y := C21) (by kernel_rfl) <| W.WP.reg (c := C38) (fun E w => KE_S13 E w R) (by kernel_rfl) (Eq.mp (by kernel_rfl) h4) fun _ _ a hA hK => (KE_S13_ok R _ _ hK) a hA) (ha.cons hq1 (ha.cons hq3 (ha.cons hq5 (ha.cons hq6 ha.nil))))
noncomputable def C39 : Code := W.Code.fst C17
/-- law.go:27 -/
abbrev S11 (a1 b3 : Option Addr) (p5 : W.Sl) (w : World) (R : W.Post) : Prop :=
  (0 : Int) ≤ 1 ∧ 1 < ((p5.n : Nat) : Int) ∧ W.optP p5.a fun t64_p => ∃ t65_0 : Int, ∃ t65_1 : Int, ∃ t65_2 : W.Sl, w.cell? ((t64_p.add (Int.toNat 1 * 3)).add 0) = some (.int .i64 t65_0) ∧ w.cell? ((t64_p.add (Int.toNat 1 * 3)).add 1) = some (.int .i64 t65_1) ∧ w.cell? ((t64_p.add (Int.toNat 1 * 3)).add 2) = some (t65_2.v) ∧ 
  Calls Try.prog n_channel_End_In #[.pointer b3, .agg #[.int .i64 t65_0, .int .i64 t65_1, t65_2.v]] w fun r_ w1 => ∃ t66 : W.Sl, r_ = .returned (t66.v) ∧ 
  S12 a1 b3 p5 t66 w1 R
def KE_S11 (E : W.Env) (w : World) (R : W.Post) : Prop := W.asPtr (W.Env.get? E 1) fun a1 => W.asPtr (W.Env.get? E 3) fun b3 => W.asSlice (W.Env.get? E 5) fun p5 => S11 a1 b3 p5 w R
theorem KE_S11_ok (R : W.Post) (E : W.Env) (w : World) (h : KE_S11 E w R) : W.WP Try.prog (W.cx 138) C17 (Q3 R) E w := by
  obtain ⟨a1, hq1, h1⟩ := W.asPtr_elim h
  obtain ⟨b3, hq3, h2⟩ := W.asPtr_elim h1
  obtain ⟨p5, hq5, h3⟩ := W.asSlice_elim h2
  exact fun a ha => W.WP.at (n := (W.cx 138)) (E := [(1, .pointer a1), (3, .pointer b3), (5, p5.v)]) (W.WP.seq (c := C17) (x := C39) (y := C20) (by kernel_rfl) <| W.WP.reg (c := C39) (fun E w => KE_S12 E w R) (by kernel_rfl) (Eq.mp (by kernel_rfl) h3) fun _ _ a hA hK => (KE_S12_ok R _ _ hK) a hA) (ha.cons hq1 (ha.cons hq3 (ha.cons hq5 ha.nil)))
noncomputable def C40 : Code := W.Code.fst C14
noncomputable def C41 : Code := W.Code.snd C15
/-- law.go:24 -/
abbrev S9 (a1 b3 : Option Addr) (p5 : W.Sl) (w : World) (R : W.Post) : Prop :=
  W.sel (((p5.n : Nat) : Int) != 2) (S10  w R) ((0 : Int) ≤ 0 ∧ 0 < ((p5.n : Nat) : Int) ∧ W.optP p5.a fun t50_p => ∃ t52 : Int, w.cell? ((t50_p.add (Int.toNat 0 * 3)).add 0) = some (.int .i64 t52) ∧ 
  W.sel (t52 != 1) (S10  w R) ((0 : Int) ≤ 1 ∧ 1 < ((p5.n : Nat) : Int) ∧ W.optP p5.a fun t57_p => ∃ t59 : Int, w.cell? ((t57_p.add (Int.toNat 1 * 3)).add 0) = some (.int .i64 t59) ∧ 
  W.sel (t59 != 2) (S10  w R) (S11 a1 b3 p5 w R)))
def KE_S9 (E : W.Env) (w : World) (R : W.Post) : Prop := W.asPtr (W.Env.get? E 1) fun a1 => W.asPtr (W.Env.get? E 3) fun b3 => W.asSlice (W.Env.get? E 5) fun p5 => S9 a1 b3 p5 w R
theorem KE_S9_ok (R : W.Post) (E : W.Env) (w : World) (h : KE_S9 E w R) : W.WP Try.prog (W.cx 138) C14 (Q1 R) E w := by
  obtain ⟨a1, hq1, h1⟩ := W.asPtr_elim h
  obtain ⟨b3, hq3, h2⟩ := W.asPtr_elim h1
  obtain ⟨p5, hq5, h3⟩ := W.asSlice_elim h2
  exact fun a ha => W.WP.at (n := (W.cx 138)) (E := [(1, .pointer a1), (3, .pointer b3), (5, p5.v)]) (W.WP.seq (c := C14) (x := C40) (y := C15) (by kernel_rfl) <| W.WP.reg (c := C40) (fun E w => W.condK (W.Env.val E (.tmp 61)) (KE_S10 E w R) (KE_S11 E w R)) (by kernel_rfl) (Eq.mp (by kernel_rfl) h3) fun _ _ a hA hK => (W.WP.condK (c := C15) (x := C16) (y := C41) (o := .tmp 61) (by kernel_rfl) (fun hK => (KE_S10_ok R _ _ hK)) (fun hK => (W.WP.skip (c := C41) (by kernel_rfl) fun a hA => (KE_S11_ok R _ _ hK) a hA)) hK) a hA) (ha.cons hq1 (ha.cons hq3 (ha.cons hq5 ha.nil)))
noncomputable def C42 : Code := W.Code.fst C12
/-- law.go:23 -/
abbrev S8 (a1 b3 : Option Addr) (w : World) (R : W.Post) : Prop :=
  Calls Try.prog n_channel_End_Out #[.pointer a1] w fun r_ w1 => ∃ t44 : W.Sl, r_ = .returned (t44.v) ∧ 
  S9 a1 b3 t44 w1 R
def KE_S8 (E : W.Env) (w : World) (R : W.Post) : Prop := W.asPtr (W.Env.get? E 1) fun a1 => W.asPtr (W.Env.get? E 3) fun b3 => S8 a1 b3 w R
theorem KE_S8_ok (R : W.Post) (E : W.Env) (w : World) (h : KE_S8 E w R) : W.WP Try.prog (W.cx 138) C12 (Q3 R) E w := by
  obtain ⟨a1, hq1, h1⟩ := W.asPtr_elim h
  obtain ⟨b3, hq3, h2⟩ := W.asPtr_elim h1
  exact fun a ha => W.WP.at (n := (W.cx 138)) (E := [(1, .pointer a1), (3, .pointer b3)]) (W.WP.seq (c := C12) (x := C42) (y := C13) (by kernel_rfl) <| W.WP.reg (c := C42) (fun E w => KE_S9 E w R) (by kernel_rfl) (Eq.mp (by kernel_rfl) h2) fun _ _ a hA hK => (W.WP.seq (c := C13) (x := C14) (y := C17) (by kernel_rfl) (KE_S9_ok R _ _ hK)) a hA) (ha.cons hq1 (ha.cons hq3 ha.nil))
noncomputable def C43 : Code := W.Code.fst C11
/-- law.go:22 -/
abbrev S7 (a1 b3 : Option Addr) (w : World) (R : W.Post) : Prop :=
  let w1 := w.alloc (.cells #[.int .u8 99] ty_uint8)
  ∃ (t41 : W.Sl) (w2 : World), Sem.run Try.prog (Go.convert ty_sl_uint8 ty_sl_uint8 (.slice (some (Addr.mk w.heap.size 0 none)) 1 1)) w1 = .ok (t41.v) w2 ∧ Calls Try.prog n_channel_End_Send #[.pointer a1, t41.v] w2 fun r_ w3 => ∃ t42 : Int, r_ = .returned (.int .i64 t42) ∧ 
  S8 a1 b3 w3 R
def KE_S7 (E : W.Env) (w : World) (R : W.Post) : Prop := W.asPtr (W.Env.get? E 1) fun a1 => W.asPtr (W.Env.get? E 3) fun b3 => S7 a1 b3 w R
theorem KE_S7_ok (R : W.Post) (E : W.Env) (w : World) (h : KE_S7 E w R) : W.WP Try.prog (W.cx 138) C11 (Q3 R) E w := by
  obtain ⟨a1, hq1, h1⟩ := W.asPtr_elim h
  obtain ⟨b3, hq3, h2⟩ := W.asPtr_elim h1
  exact fun a ha => W.WP.at (n := (W.cx 138)) (E := [(1, .pointer a1), (3, .pointer b3)]) (W.WP.seq (c := C11) (x := C43) (y := C12) (by kernel_rfl) <| W.WP.reg (c := C43) (fun E w => KE_S8 E w R) (by kernel_rfl) (Eq.mp (by kernel_rfl) h2) fun _ _ a hA hK => (KE_S8_ok R _ _ hK) a hA) (ha.cons hq1 (ha.cons hq3 ha.nil))
noncomputable def C44 : Code := W.Code.fst C10
/-- law.go:21 -/
abbrev S6 (a1 b3 : Option Addr) (w : World) (R : W.Post) : Prop :=
  let w1 := w.alloc (.cells #[.int .u8 98] ty_uint8)
  ∃ (t37 : W.Sl) (w2 : World), Sem.run Try.prog (Go.convert ty_sl_uint8 ty_sl_uint8 (.slice (some (Addr.mk w.heap.size 0 none)) 1 1)) w1 = .ok (t37.v) w2 ∧ Calls Try.prog n_channel_End_Send #[.pointer a1, t37.v] w2 fun r_ w3 => ∃ t38 : Int, r_ = .returned (.int .i64 t38) ∧ 
  S7 a1 b3 w3 R
def KE_S6 (E : W.Env) (w : World) (R : W.Post) : Prop := W.asPtr (W.Env.get? E 1) fun a1 => W.asPtr (W.Env.get? E 3) fun b3 => S6 a1 b3 w R
theorem KE_S6_ok (R : W.Post) (E : W.Env) (w : World) (h : KE_S6 E w R) : W.WP Try.prog (W.cx 138) C10 (Q3 R) E w := by
  obtain ⟨a1, hq1, h1⟩ := W.asPtr_elim h
  obtain ⟨b3, hq3, h2⟩ := W.asPtr_elim h1
  exact fun a ha => W.WP.at (n := (W.cx 138)) (E := [(1, .pointer a1), (3, .pointer b3)]) (W.WP.seq (c := C10) (x := C44) (y := C11) (by kernel_rfl) <| W.WP.reg (c := C44) (fun E w => KE_S7 E w R) (by kernel_rfl) (Eq.mp (by kernel_rfl) h2) fun _ _ a hA hK => (KE_S7_ok R _ _ hK) a hA) (ha.cons hq1 (ha.cons hq3 ha.nil))
noncomputable def C45 : Code := W.Code.fst C7
/-- law.go:20 -/
abbrev S5 (a1 b3 : Option Addr) (w : World) (R : W.Post) : Prop :=
  let w1 := w.alloc (.cells #[.int .u8 97] ty_uint8)
  ∃ (t33 : W.Sl) (w2 : World), Sem.run Try.prog (Go.convert ty_sl_uint8 ty_sl_uint8 (.slice (some (Addr.mk w.heap.size 0 none)) 1 1)) w1 = .ok (t33.v) w2 ∧ Calls Try.prog n_channel_End_Send #[.pointer a1, t33.v] w2 fun r_ w3 => ∃ t34 : Int, r_ = .returned (.int .i64 t34) ∧ 
  S6 a1 b3 w3 R
def KE_S5 (E : W.Env) (w : World) (R : W.Post) : Prop := W.asPtr (W.Env.get? E 1) fun a1 => W.asPtr (W.Env.get? E 3) fun b3 => S5 a1 b3 w R
theorem KE_S5_ok (R : W.Post) (E : W.Env) (w : World) (h : KE_S5 E w R) : W.WP Try.prog (W.cx 138) C7 (Q3 R) E w := by
  obtain ⟨a1, hq1, h1⟩ := W.asPtr_elim h
  obtain ⟨b3, hq3, h2⟩ := W.asPtr_elim h1
  exact fun a ha => W.WP.at (n := (W.cx 138)) (E := [(1, .pointer a1), (3, .pointer b3)]) (W.WP.seq (c := C7) (x := C45) (y := C10) (by kernel_rfl) <| W.WP.reg (c := C45) (fun E w => KE_S6 E w R) (by kernel_rfl) (Eq.mp (by kernel_rfl) h2) fun _ _ a hA hK => (KE_S6_ok R _ _ hK) a hA) (ha.cons hq1 (ha.cons hq3 ha.nil))
noncomputable def C46 : Code := W.Code.fst C4
noncomputable def C47 : Code := W.Code.snd C5
/-- law.go:17 -/
abbrev S3 (a1 : Option Addr) (e2 : Int) (b3 : Option Addr) (f4 : Int) (w : World) (R : W.Post) : Prop :=
  W.sel a1.isNone (S4  w R) (W.sel b3.isNone (S4  w R) (W.sel (e2 != 0) (S4  w R) (W.sel (f4 != 0) (S4  w R) (S5 a1 b3 w R))))
def KE_S3 (E : W.Env) (w : World) (R : W.Post) : Prop := W.asPtr (W.Env.get? E 1) fun a1 => W.asInt .i64 (W.Env.get? E 2) fun e2 => W.asPtr (W.Env.get? E 3) fun b3 => W.asInt .i64 (W.Env.get? E 4) fun f4 => S3 a1 e2 b3 f4 w R
theorem KE_S3_ok (R : W.Post) (E : W.Env) (w : World) (h : KE_S3 E w R) : W.WP Try.prog (W.cx 138) C4 (Q0 R) E w := by
  obtain ⟨a1, hq1, h1⟩ := W.asPtr_elim h
  obtain ⟨e2, hq2, h2⟩ := W.asInt_elim h1
  obtain ⟨b3, hq3, h3⟩ := W.asPtr_elim h2
  obtain ⟨f4, hq4, h4⟩ := W.asInt_elim h3
  exact fun a ha => W.WP.at (n := (W.cx 138)) (E := [(1, .pointer a1), (2, .int .i64 e2), (3, .pointer b3), (4, .int .i64 f4)]) (W.WP.seq (c := C4) (x := C46) (y := C5) (by kernel_rfl) <| W.WP.reg (c := C46) (fun E w => W.condK (W.Env.val E (.tmp 30)) (KE_S4 E w R) (KE_S5 E w R)) (by kernel_rfl) (Eq.mp (by kernel_rfl) h4) fun _ _ a hA hK => (W.WP.condK (c := C5) (x := C6) (y := C47) (o := .tmp 30) (by kernel_rfl) (fun hK => (KE_S4_ok R _ _ hK)) (fun hK => (W.WP.skip (c := C47) (by kernel_rfl) fun a hA => (KE_S5_ok R _ _ hK) a hA)) hK) a hA) (ha.cons hq1 (ha.cons hq2 (ha.cons hq3 (ha.cons hq4 ha.nil))))
noncomputable def C48 : Code := W.Code.fst C2
/-- law.go:16 -/
abbrev S2 (a1 : Option Addr) (e2 : Int) (w : World) (R : W.Post) : Prop :=
  Calls Try.prog n_channel_New #[.int .i64 2] w fun r_ w1 => ∃ t14_0 : Option Addr, ∃ t14_1 : Int, r_ = .returned (.tuple #[.pointer t14_0, .int .i64 t14_1]) ∧ 
  S3 a1 e2 t14_0 t14_1 w1 R
def KE_S2 (E : W.Env) (w : World) (R : W.Post) : Prop := W.asPtr (W.Env.get? E 1) fun a1 => W.asInt .i64 (W.Env.get? E 2) fun e2 => S2 a1 e2 w R
theorem KE_S2_ok (R : W.Post) (E : W.Env) (w : World) (h : KE_S2 E w R) : W.WP Try.prog (W.cx 138) C2 (Q3 R) E w := by
  obtain ⟨a1, hq1, h1⟩ := W.asPtr_elim h
  obtain ⟨e2, hq2, h2⟩ := W.asInt_elim h1
  exact fun a ha => W.WP.at (n := (W.cx 138)) (E := [(1, .pointer a1), (2, .int .i64 e2)]) (W.WP.seq (c := C2) (x := C48) (y := C3) (by kernel_rfl) <| W.WP.reg (c := C48) (fun E w => KE_S3 E w R) (by kernel_rfl) (Eq.mp (by kernel_rfl) h2) fun _ _ a hA hK => (W.WP.seq (c := C3) (x := C4) (y := C7) (by kernel_rfl) (KE_S3_ok R _ _ hK)) a hA) (ha.cons hq1 (ha.cons hq2 ha.nil))
noncomputable def C49 : Code := W.Code.fst C1
/-- law.go:15 -/
abbrev S1  (w : World) (R : W.Post) : Prop :=
  Calls Try.prog n_channel_New #[.int .i64 2] w fun r_ w1 => ∃ t10_0 : Option Addr, ∃ t10_1 : Int, r_ = .returned (.tuple #[.pointer t10_0, .int .i64 t10_1]) ∧ 
  S2 t10_0 t10_1 w1 R
def KE_S1 (E : W.Env) (w : World) (R : W.Post) : Prop := S1  w R
theorem KE_S1_ok (R : W.Post) (E : W.Env) (w : World) (h : KE_S1 E w R) : W.WP Try.prog (W.cx 138) C1 (Q3 R) E w := by
  exact fun a ha => W.WP.at (n := (W.cx 138)) (E := []) (W.WP.seq (c := C1) (x := C49) (y := C2) (by kernel_rfl) <| W.WP.reg (c := C49) (fun E w => KE_S2 E w R) (by kernel_rfl) (Eq.mp (by kernel_rfl) h) fun _ _ a hA hK => (KE_S2_ok R _ _ hK) a hA) ha.nil
noncomputable def C50 : Code := W.Code.fst C0
/-- law.go:14 -/
abbrev S0  (w : World) (R : W.Post) : Prop :=
  S1  w R
def KE_S0 (E : W.Env) (w : World) (R : W.Post) : Prop := S0  w R
theorem KE_S0_ok (R : W.Post) (E : W.Env) (w : World) (h : KE_S0 E w R) : W.WP Try.prog (W.cx 138) C0 (Q3 R) E w := by
  exact fun a ha => W.WP.at (n := (W.cx 138)) (E := []) (W.WP.seq (c := C0) (x := C50) (y := C1) (by kernel_rfl) <| W.WP.reg (c := C50) (fun E w => KE_S1 E w R) (by kernel_rfl) (Eq.mp (by kernel_rfl) h) fun _ _ a hA hK => (KE_S1_ok R _ _ hK) a hA) ha.nil
/-- enthymeme/enthymemelaw38.lives -/
theorem ok  (w : World) (R : W.Post) (h : S0  w R) : Calls Try.prog n_enthymemelaw38_lives #[] w R :=
  W.calls_of_WP' (fn := Try.f15) (c := C0) (args := []) (by kernel_rfl) (by kernel_rfl) (by kernel_rfl) (KE_S0_ok R _ _ (Eq.mp (by kernel_rfl) h))
end enthymemelaw38_lives
namespace channel_New
noncomputable def C0 : Code := (Try.f36.body).getD .skip
noncomputable def C1 : Code := W.Code.snd C0
noncomputable def C2 : Code := W.Code.fst C1
noncomputable def C3 : Code := W.Code.snd C2
noncomputable def C4 : Code := W.Code.fst C3
noncomputable def C5 : Code := W.Code.snd C1
abbrev Q0 (R : W.Post) : Exit → Act → World → Prop := (Exit.then (W.wpx Try.prog (W.cx 14) C5 (bodyPost Try.prog Try.f36 R)) (bodyPost Try.prog Try.f36 R))
noncomputable def C6 : Code := W.Code.fst C4
noncomputable def C7 : Code := W.Code.snd C4
/-- channel.go:37 -/
abbrev S2  (w : World) (R : W.Post) : Prop :=
  R (.returned (.tuple #[.pointer none, .int .i64 1])) w
def KE_S2 (E : W.Env) (w : World) (R : W.Post) : Prop := S2  w R
theorem KE_S2_ok (R : W.Post) (E : W.Env) (w : World) (h : KE_S2 E w R) : W.WP Try.prog (W.cx 14) C4 (Q0 R) E w := by
  exact fun a ha => W.WP.at (n := (W.cx 14)) (E := []) (W.WP.seq (c := C4) (x := C6) (y := C7) (by kernel_rfl) <| W.WP.reg (c := C6) (fun E w => W.retVC Try.prog Try.f36 E w (fun v => R (.returned v) w)) (by kernel_rfl) (Eq.mp (by kernel_rfl) h) fun _ _ a hA hK => (W.WP.ret (c := C7) (by kernel_rfl) fun a hA => W.retVC_sound hA hK) a hA) ha.nil
abbrev Q1 (R : W.Post) : Exit → Act → World → Prop := (bodyPost Try.prog Try.f36 R)
noncomputable def C8 : Code := W.Code.fst C5
noncomputable def C9 : Code := W.Code.snd C5
/-- channel.go:39 -/
abbrev S3 (window0 : Int) (w : World) (R : W.Post) : Prop :=
  let w1 := w.alloc (.map #[] 0)
  let w2 := w1.alloc (.cells #[.int .i64 window0, .int .i64 0, .slice none 0 0, .int .i64 0, .map (some w.heap.size), .bool false] ty_channel_End)
  R (.returned (.tuple #[.pointer (some (Addr.mk w1.heap.size 0 none)), .int .i64 0])) w2
def KE_S3 (E : W.Env) (w : World) (R : W.Post) : Prop := W.asInt .i64 (W.Env.get? E 0) fun window0 => S3 window0 w R
theorem KE_S3_ok (R : W.Post) (E : W.Env) (w : World) (h : KE_S3 E w R) : W.WP Try.prog (W.cx 14) C5 (Q1 R) E w := by
  obtain ⟨window0, hq0, h1⟩ := W.asInt_elim h
  exact fun a ha => W.WP.at (n := (W.cx 14)) (E := [(0, .int .i64 window0)]) (W.WP.seq (c := C5) (x := C8) (y := C9) (by kernel_rfl) <| W.WP.reg (c := C8) (fun E w => W.retVC Try.prog Try.f36 E w (fun v => R (.returned v) w)) (by kernel_rfl) (Eq.mp (by kernel_rfl) h1) fun _ _ a hA hK => (W.WP.ret (c := C9) (by kernel_rfl) fun a hA => W.retVC_sound hA hK) a hA) (ha.cons hq0 ha.nil)
noncomputable def C10 : Code := W.Code.fst C2
noncomputable def C11 : Code := W.Code.snd C3
/-- channel.go:36 -/
abbrev S1 (window0 : Int) (w : World) (R : W.Post) : Prop :=
  W.sel (decide (window0 < 1)) (S2  w R) (W.sel (decide (window0 > 16)) (S2  w R) (S3 window0 w R))
def KE_S1 (E : W.Env) (w : World) (R : W.Post) : Prop := W.asInt .i64 (W.Env.get? E 0) fun window0 => S1 window0 w R
theorem KE_S1_ok (R : W.Post) (E : W.Env) (w : World) (h : KE_S1 E w R) : W.WP Try.prog (W.cx 14) C2 (Q0 R) E w := by
  obtain ⟨window0, hq0, h1⟩ := W.asInt_elim h
  exact fun a ha => W.WP.at (n := (W.cx 14)) (E := [(0, .int .i64 window0)]) (W.WP.seq (c := C2) (x := C10) (y := C3) (by kernel_rfl) <| W.WP.reg (c := C10) (fun E w => W.condK (W.Env.val E (.tmp 9)) (KE_S2 E w R) (KE_S3 E w R)) (by kernel_rfl) (Eq.mp (by kernel_rfl) h1) fun _ _ a hA hK => (W.WP.condK (c := C3) (x := C4) (y := C11) (o := .tmp 9) (by kernel_rfl) (fun hK => (KE_S2_ok R _ _ hK)) (fun hK => (W.WP.skip (c := C11) (by kernel_rfl) fun a hA => (KE_S3_ok R _ _ hK) a hA)) hK) a hA) (ha.cons hq0 ha.nil)
noncomputable def C12 : Code := W.Code.fst C0
/-- channel.go:35 -/
abbrev S0 (window0 : Int) (w : World) (R : W.Post) : Prop :=
  S1 window0 w R
def KE_S0 (E : W.Env) (w : World) (R : W.Post) : Prop := W.asInt .i64 (W.Env.get? E 0) fun window0 => S0 window0 w R
theorem KE_S0_ok (R : W.Post) (E : W.Env) (w : World) (h : KE_S0 E w R) : W.WP Try.prog (W.cx 14) C0 (Q1 R) E w := by
  obtain ⟨window0, hq0, h1⟩ := W.asInt_elim h
  exact fun a ha => W.WP.at (n := (W.cx 14)) (E := [(0, .int .i64 window0)]) (W.WP.seq (c := C0) (x := C12) (y := C1) (by kernel_rfl) <| W.WP.reg (c := C12) (fun E w => KE_S1 E w R) (by kernel_rfl) (Eq.mp (by kernel_rfl) h1) fun _ _ a hA hK => (W.WP.seq (c := C1) (x := C2) (y := C5) (by kernel_rfl) (KE_S1_ok R _ _ hK)) a hA) (ha.cons hq0 ha.nil)
/-- enthymeme/channel.New -/
theorem ok (window0 : Int) (w : World) (R : W.Post) (h : S0 window0 w R) : Calls Try.prog n_channel_New #[.int .i64 window0] w R :=
  W.calls_of_WP' (fn := Try.f36) (c := C0) (args := [.int .i64 window0]) (by kernel_rfl) (by kernel_rfl) (by kernel_rfl) (KE_S0_ok R _ _ (Eq.mp (by kernel_rfl) h))
end channel_New
namespace channel_End_acknowledged
noncomputable def C0 : Code := (Try.f51.body).getD .skip
noncomputable def C1 : Code := W.Code.snd C0
abbrev Q0 (R : W.Post) : Exit → Act → World → Prop := (bodyPost Try.prog Try.f51 R)
noncomputable def C2 : Code := W.Code.fst C1
noncomputable def C3 : Code := W.Code.snd C1
/-- channel.go:53 -/
abbrev S1 (e0 : Addr) (w : World) (R : W.Post) : Prop :=
  ∃ t6 : Int, w.drew.cell? (e0.add 1) = some (.int .i64 t6) ∧ 
  ∃ t10 : W.Sl, w.drew.cell? (e0.add 2) = some (t10.v) ∧ 
  R (.returned (.int .i64 (IntKind.wrap .i64 (t6 - ((t10.n : Nat) : Int))))) w.drew
def KE_S1 (E : W.Env) (w : World) (R : W.Post) : Prop := W.asRef (W.Env.get? E 0) fun e0 => S1 e0 w R
theorem KE_S1_ok (R : W.Post) (E : W.Env) (w : World) (h : KE_S1 E w R) : W.WP Try.prog (W.cx 13) C1 (Q0 R) E w := by
  obtain ⟨e0, hq0, h1⟩ := W.asRef_elim h
  exact fun a ha => W.WP.at (n := (W.cx 13)) (E := [(0, .pointer (some e0))]) (W.WP.seq (c := C1) (x := C2) (y := C3) (by kernel_rfl) <| W.WP.draw (c := C2) [0, 1, 2, 3, 4, 5, 6, 7, 8, 9, 10] (fun E w => W.retVC Try.prog Try.f51 E w (fun v => R (.returned v) w)) (by kernel_rfl) (Eq.mp (by kernel_rfl) h1) fun _ _ a hA hK => (W.WP.ret (c := C3) (by kernel_rfl) fun a hA => W.retVC_sound hA hK) a hA) (ha.cons hq0 ha.nil)
noncomputable def C4 : Code := W.Code.fst C0
/-- channel.go:53 -/
abbrev S0 (e0 : Addr) (w : World) (R : W.Post) : Prop :=
  S1 e0 w R
def KE_S0 (E : W.Env) (w : World) (R : W.Post) : Prop := W.asRef (W.Env.get? E 0) fun e0 => S0 e0 w R
theorem KE_S0_ok (R : W.Post) (E : W.Env) (w : World) (h : KE_S0 E w R) : W.WP Try.prog (W.cx 13) C0 (Q0 R) E w := by
  obtain ⟨e0, hq0, h1⟩ := W.asRef_elim h
  exact fun a ha => W.WP.at (n := (W.cx 13)) (E := [(0, .pointer (some e0))]) (W.WP.seq (c := C0) (x := C4) (y := C1) (by kernel_rfl) <| W.WP.reg (c := C4) (fun E w => KE_S1 E w R) (by kernel_rfl) (Eq.mp (by kernel_rfl) h1) fun _ _ a hA hK => (KE_S1_ok R _ _ hK) a hA) (ha.cons hq0 ha.nil)
/-- (*enthymeme/channel.End).acknowledged -/
theorem ok (e0 : Addr) (w : World) (R : W.Post) (h : S0 e0 w R) : Calls Try.prog n_channel_End_acknowledged #[.pointer (some e0)] w R :=
  W.calls_of_WP' (fn := Try.f51) (c := C0) (args := [.pointer (some e0)]) (by kernel_rfl) (by kernel_rfl) (by kernel_rfl) (KE_S0_ok R _ _ (Eq.mp (by kernel_rfl) h))
end channel_End_acknowledged
namespace channel_valid
noncomputable def C0 : Code := (Try.f23.body).getD .skip
noncomputable def C1 : Code := W.Code.snd C0
abbrev Q0 (R : W.Post) : Exit → Act → World → Prop := (bodyPost Try.prog Try.f23 R)
noncomputable def C2 : Code := W.Code.fst C1
noncomputable def C3 : Code := W.Code.snd C1
/-- channel.go:70 -/
abbrev S1 (p1 : Addr) (w : World) (R : W.Post) : Prop :=
  ∃ t4 : Int, w.cell? (p1.add 0) = some (.int .i64 t4) ∧ 
  W.sel (decide (t4 ≥ 0)) (∃ t8 : Int, w.cell? (p1.add 1) = some (.int .i64 t8) ∧ 
  W.sel (decide (t8 ≥ 0)) (∃ t13 : W.Sl, w.cell? (p1.add 2) = some (t13.v) ∧ 
  W.sel (decide (((t13.n : Nat) : Int) ≤ 65536)) (∃ t19 : Int, w.cell? (p1.add 0) = some (.int .i64 t19) ∧ 
  W.sel (decide (t19 > 0)) (R (.returned (.bool true)) w) (∃ t23 : W.Sl, w.cell? (p1.add 2) = some (t23.v) ∧ 
  R (.returned (.bool (((t23.n : Nat) : Int) == 0))) w)) (R (.returned (.bool false)) w)) (R (.returned (.bool false)) w)) (R (.returned (.bool false)) w)
def KE_S1 (E : W.Env) (w : World) (R : W.Post) : Prop := W.asRef (W.Env.get? E 1) fun p1 => S1 p1 w R
theorem KE_S1_ok (R : W.Post) (E : W.Env) (w : World) (h : KE_S1 E w R) : W.WP Try.prog (W.cx 28) C1 (Q0 R) E w := by
  obtain ⟨p1, hq1, h1⟩ := W.asRef_elim h
  exact fun a ha => W.WP.at (n := (W.cx 28)) (E := [(1, .pointer (some p1))]) (W.WP.seq (c := C1) (x := C2) (y := C3) (by kernel_rfl) <| W.WP.reg (c := C2) (fun E w => W.retVC Try.prog Try.f23 E w (fun v => R (.returned v) w)) (by kernel_rfl) (Eq.mp (by kernel_rfl) h1) fun _ _ a hA hK => (W.WP.ret (c := C3) (by kernel_rfl) fun a hA => W.retVC_sound hA hK) a hA) (ha.cons hq1 ha.nil)
noncomputable def C4 : Code := W.Code.fst C0
/-- channel.go:69 -/
abbrev S0 (p0_0 p0_1 : Int) (p0_2 : W.Sl) (w : World) (R : W.Post) : Prop :=
  let w1 := w.alloc (.cells #[.int .i64 p0_0, .int .i64 p0_1, p0_2.v] ty_channel_Packet)
  S1 (Addr.mk w.heap.size 0 none) w1 R
def KE_S0 (E : W.Env) (w : World) (R : W.Post) : Prop := W.asAgg (W.Env.get? E 0) fun p0_l0 => W.asCons p0_l0 fun p0_v0 p0_l1 => W.asInt .i64 (some p0_v0) fun p0_0 => W.asCons p0_l1 fun p0_v1 p0_l2 => W.asInt .i64 (some p0_v1) fun p0_1 => W.asCons p0_l2 fun p0_v2 p0_l3 => W.asSlice (some p0_v2) fun p0_2 => W.asNil p0_l3 <| S0 p0_0 p0_1 p0_2 w R
theorem KE_S0_ok (R : W.Post) (E : W.Env) (w : World) (h : KE_S0 E w R) : W.WP Try.prog (W.cx 28) C0 (Q0 R) E w := by
  obtain ⟨p0_l0, hq0, h1⟩ := W.asAgg_elim h
  obtain ⟨p0_v0, p0_l1, rfl, h2⟩ := W.asCons_elim h1
  obtain ⟨p0_0, ex, h3⟩ := W.asInt_elim h2
  obtain rfl := Option.some.inj ex
  obtain ⟨p0_v1, p0_l2, rfl, h4⟩ := W.asCons_elim h3
  obtain ⟨p0_1, ex, h5⟩ := W.asInt_elim h4
  obtain rfl := Option.some.inj ex
  obtain ⟨p0_v2, p0_l3, rfl, h6⟩ := W.asCons_elim h5
  obtain ⟨p0_2, ex, h7⟩ := W.asSlice_elim h6
  obtain rfl := Option.some.inj ex
  obtain ⟨rfl, h8⟩ := W.asNil_elim h7
  exact fun a ha => W.WP.at (n := (W.cx 28)) (E := [(0, .agg #[.int .i64 p0_0, .int .i64 p0_1, p0_2.v])]) (W.WP.seq (c := C0) (x := C4) (y := C1) (by kernel_rfl) <| W.WP.reg (c := C4) (fun E w => KE_S1 E w R) (by kernel_rfl) (Eq.mp (by kernel_rfl) h8) fun _ _ a hA hK => (KE_S1_ok R _ _ hK) a hA) (ha.cons hq0 ha.nil)
/-- enthymeme/channel.valid -/
theorem ok (p0_0 p0_1 : Int) (p0_2 : W.Sl) (w : World) (R : W.Post) (h : S0 p0_0 p0_1 p0_2 w R) : Calls Try.prog n_channel_valid #[.agg #[.int .i64 p0_0, .int .i64 p0_1, p0_2.v]] w R :=
  W.calls_of_WP' (fn := Try.f23) (c := C0) (args := [.agg #[.int .i64 p0_0, .int .i64 p0_1, p0_2.v]]) (by kernel_rfl) (by kernel_rfl) (by kernel_rfl) (KE_S0_ok R _ _ (Eq.mp (by kernel_rfl) h))
end channel_valid
namespace slices_Clone_sl_sl_byte_sl_byte
noncomputable def C0 : Code := (Try.f52.body).getD .skip
noncomputable def C1 : Code := W.Code.snd C0
noncomputable def C2 : Code := W.Code.fst C1
noncomputable def C3 : Code := W.Code.snd C2
noncomputable def C4 : Code := W.Code.fst C3
noncomputable def C5 : Code := W.Code.snd C1
abbrev Q0 (R : W.Post) : Exit → Act → World → Prop := (Exit.then (W.wpx Try.prog (W.cx 8) C5 (bodyPost Try.prog Try.f52 R)) (bodyPost Try.prog Try.f52 R))
noncomputable def C6 : Code := W.Code.fst C4
noncomputable def C7 : Code := W.Code.snd C4
/-- slices.go:358 -/
abbrev S2  (w : World) (R : W.Post) : Prop :=
  R (.returned (.slice none 0 0)) w
def KE_S2 (E : W.Env) (w : World) (R : W.Post) : Prop := S2  w R
theorem KE_S2_ok (R : W.Post) (E : W.Env) (w : World) (h : KE_S2 E w R) : W.WP Try.prog (W.cx 8) C4 (Q0 R) E w := by
  exact fun a ha => W.WP.at (n := (W.cx 8)) (E := []) (W.WP.seq (c := C4) (x := C6) (y := C7) (by kernel_rfl) <| W.WP.reg (c := C6) (fun E w => W.retVC Try.prog Try.f52 E w (fun v => R (.returned v) w)) (by kernel_rfl) (Eq.mp (by kernel_rfl) h) fun _ _ a hA hK => (W.WP.ret (c := C7) (by kernel_rfl) fun a hA => W.retVC_sound hA hK) a hA) ha.nil
abbrev Q1 (R : W.Post) : Exit → Act → World → Prop := (bodyPost Try.prog Try.f52 R)
noncomputable def C8 : Code := W.Code.fst C5
noncomputable def C9 : Code := W.Code.snd C5
/-- slices.go:362 -/
abbrev S3 (s0 : W.Sl) (w : World) (R : W.Post) : Prop :=
  let w1 := w.alloc (.cells #[] ty_sl_uint8)
  ∃ (t7 : W.Sl) (w2 : World), Sem.run Try.prog (Builtin.append_ #[ty_sl_sl_uint8, ty_sl_sl_uint8] ty_sl_sl_uint8 #[.slice (some (Addr.mk w.heap.size 0 none)) 0 0, s0.v]) w1 = .ok (t7.v) w2 ∧ R (.returned (t7.v)) w2
def KE_S3 (E : W.Env) (w : World) (R : W.Post) : Prop := W.asSlice (W.Env.get? E 0) fun s0 => S3 s0 w R
theorem KE_S3_ok (R : W.Post) (E : W.Env) (w : World) (h : KE_S3 E w R) : W.WP Try.prog (W.cx 8) C5 (Q1 R) E w := by
  obtain ⟨s0, hq0, h1⟩ := W.asSlice_elim h
  exact fun a ha => W.WP.at (n := (W.cx 8)) (E := [(0, s0.v)]) (W.WP.seq (c := C5) (x := C8) (y := C9) (by kernel_rfl) <| W.WP.reg (c := C8) (fun E w => W.retVC Try.prog Try.f52 E w (fun v => R (.returned v) w)) (by kernel_rfl) (Eq.mp (by kernel_rfl) h1) fun _ _ a hA hK => (W.WP.ret (c := C9) (by kernel_rfl) fun a hA => W.retVC_sound hA hK) a hA) (ha.cons hq0 ha.nil)
noncomputable def C10 : Code := W.Code.fst C2
noncomputable def C11 : Code := W.Code.snd C3
/-- slices.go:357 -/
abbrev S1 (s0 : W.Sl) (w : World) (R : W.Post) : Prop :=
  W.sel s0.a.isNone (S2  w R) (S3 s0 w R)
def KE_S1 (E : W.Env) (w : World) (R : W.Post) : Prop := W.asSlice (W.Env.get? E 0) fun s0 => S1 s0 w R
theorem KE_S1_ok (R : W.Post) (E : W.Env) (w : World) (h : KE_S1 E w R) : W.WP Try.prog (W.cx 8) C2 (Q0 R) E w := by
  obtain ⟨s0, hq0, h1⟩ := W.asSlice_elim h
  exact fun a ha => W.WP.at (n := (W.cx 8)) (E := [(0, s0.v)]) (W.WP.seq (c := C2) (x := C10) (y := C3) (by kernel_rfl) <| W.WP.reg (c := C10) (fun E w => W.condK (W.Env.val E (.tmp 4)) (KE_S2 E w R) (KE_S3 E w R)) (by kernel_rfl) (Eq.mp (by kernel_rfl) h1) fun _ _ a hA hK => (W.WP.condK (c := C3) (x := C4) (y := C11) (o := .tmp 4) (by kernel_rfl) (fun hK => (KE_S2_ok R _ _ hK)) (fun hK => (W.WP.skip (c := C11) (by kernel_rfl) fun a hA => (KE_S3_ok R _ _ hK) a hA)) hK) a hA) (ha.cons hq0 ha.nil)
noncomputable def C12 : Code := W.Code.fst C0
/-- slices.go:355 -/
abbrev S0 (s0 : W.Sl) (w : World) (R : W.Post) : Prop :=
  S1 s0 w R
def KE_S0 (E : W.Env) (w : World) (R : W.Post) : Prop := W.asSlice (W.Env.get? E 0) fun s0 => S0 s0 w R
theorem KE_S0_ok (R : W.Post) (E : W.Env) (w : World) (h : KE_S0 E w R) : W.WP Try.prog (W.cx 8) C0 (Q1 R) E w := by
  obtain ⟨s0, hq0, h1⟩ := W.asSlice_elim h
  exact fun a ha => W.WP.at (n := (W.cx 8)) (E := [(0, s0.v)]) (W.WP.seq (c := C0) (x := C12) (y := C1) (by kernel_rfl) <| W.WP.reg (c := C12) (fun E w => KE_S1 E w R) (by kernel_rfl) (Eq.mp (by kernel_rfl) h1) fun _ _ a hA hK => (W.WP.seq (c := C1) (x := C2) (y := C5) (by kernel_rfl) (KE_S1_ok R _ _ hK)) a hA) (ha.cons hq0 ha.nil)
/-- slices.Clone[[][]byte,[]byte] -/
theorem ok (s0 : W.Sl) (w : World) (R : W.Post) (h : S0 s0 w R) : Calls Try.prog n_slices_Clone_sl_sl_byte_sl_byte #[s0.v] w R :=
  W.calls_of_WP' (fn := Try.f52) (c := C0) (args := [s0.v]) (by kernel_rfl) (by kernel_rfl) (by kernel_rfl) (KE_S0_ok R _ _ (Eq.mp (by kernel_rfl) h))
end slices_Clone_sl_sl_byte_sl_byte
end Go.Proofs.Ytpfomlenbhocpaa

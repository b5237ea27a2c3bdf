/- Printed by a program of ours (vcgen.py) from the dump: the conditions of the functions, and that they suffice. -/
import Derived.Test.YtemagdpieebjlaaVS
import Derived.Test.YtemagdpieebjlaaVQ
set_option linter.unusedVariables false
set_option maxRecDepth 100000
namespace Go.Proofs.Ytemagdpieebjlaa
open Go
namespace enthymemelaw09_plain
noncomputable def C0 : Code := (Try.f16.body).getD .skip
noncomputable def C1 : Code := W.Code.snd C0
noncomputable def C2 : Code := W.Code.snd C1
noncomputable def C3 : Code := W.Code.fst C2
noncomputable def C4 : Code := W.Code.snd C3
noncomputable def C5 : Code := W.Code.fst C4
noncomputable def C6 : Code := W.Code.fst C5
noncomputable def C7 : Code := W.Code.snd C2
abbrev Q0 (R : W.Post) : Exit → Act → World → Prop := (Exit.then (W.wpx Try.prog (W.cx 31) C7 (bodyPost Try.prog Try.f16 R)) (bodyPost Try.prog Try.f16 R))
abbrev Q1 (R : W.Post) : Exit → Act → World → Prop := (Exit.inBlock 0 (Q0 R))
/-- the head of the loop, law.go:16 -/
def L3 (l0 out3 : W.Sl) (i4 : Int) (w : World) (R : W.Post) : Prop := W.LP Try.prog (W.cx 31) C6 (Q1 R) [(0, l0.v), (3, out3.v), (4, .int .i64 i4)] w
def KE_L3 (E : W.Env) (w : World) (R : W.Post) : Prop := W.asSlice (W.Env.get? E 0) fun l0 => W.asSlice (W.Env.get? E 3) fun out3 => W.asInt .i64 (W.Env.get? E 4) fun i4 => L3 l0 out3 i4 w R
theorem KE_L3_ok (R : W.Post) (E : W.Env) (w : World) (h : KE_L3 E w R) : W.LP Try.prog (W.cx 31) C6 (Q1 R) E w := by
  obtain ⟨l0, hq0, h1⟩ := W.asSlice_elim h
  obtain ⟨out3, hq3, h2⟩ := W.asSlice_elim h1
  obtain ⟨i4, hq4, h3⟩ := W.asInt_elim h2
  intro a ha
  exact h3 a (ha.cons hq0 (ha.cons hq3 (ha.cons hq4 ha.nil)))
noncomputable def C8 : Code := W.Code.snd C6
noncomputable def C9 : Code := W.Code.snd C8
abbrev Q2 (R : W.Post) : Exit → Act → World → Prop := (Exit.then (W.LoopWP Try.prog (W.cx 31) C6 (Q1 R)) (Q1 R))
/-- law.go:16 -/
abbrev S6 (l0 out3 : W.Sl) (i4 : Int) (w : World) (R : W.Post) : Prop :=
  L3 l0 out3 (IntKind.wrap .i64 (i4 + 1)) w R
def KE_S6 (E : W.Env) (w : World) (R : W.Post) : Prop := W.asSlice (W.Env.get? E 0) fun l0 => W.asSlice (W.Env.get? E 3) fun out3 => W.asInt .i64 (W.Env.get? E 4) fun i4 => S6 l0 out3 i4 w R
theorem KE_S6_ok (R : W.Post) (E : W.Env) (w : World) (h : KE_S6 E w R) : W.WP Try.prog (W.cx 31) C9 (Q2 R) E w := by
  obtain ⟨l0, hq0, h1⟩ := W.asSlice_elim h
  obtain ⟨out3, hq3, h2⟩ := W.asSlice_elim h1
  obtain ⟨i4, hq4, h3⟩ := W.asInt_elim h2
  exact fun a ha => W.WP.at (n := (W.cx 31)) (E := [(0, l0.v), (3, out3.v), (4, .int .i64 i4)]) (W.WP.reg (c := C9) (fun E w => KE_L3 E w R) (by kernel_rfl) (Eq.mp (by kernel_rfl) h3) fun _ _ a hA hK => KE_L3_ok R _ _ hK a hA) (ha.cons hq0 (ha.cons hq3 (ha.cons hq4 ha.nil)))
noncomputable def C10 : Code := W.Code.fst C8
noncomputable def C11 : Code := W.Code.fst C10
abbrev Q3 (R : W.Post) : Exit → Act → World → Prop := (Exit.then (W.wpx Try.prog (W.cx 31) C9 (Exit.then (W.LoopWP Try.prog (W.cx 31) C6 (Q1 R)) (Q1 R))) (Exit.then (W.LoopWP Try.prog (W.cx 31) C6 (Q1 R)) (Q1 R)))
abbrev Q4 (R : W.Post) : Exit → Act → World → Prop := (Exit.inBlock 1 (Q3 R))
/-- law.go:17 -/
abbrev S5 (l0 out3 : W.Sl) (i4 : Int) (w : World) (R : W.Post) : Prop :=
  W.drV w fun w1 => (0 : Int) ≤ i4 ∧ i4 < ((l0.n : Nat) : Int) ∧ W.optP l0.a fun t14_p => ∃ t16 : Int, w1.cell? ((t14_p.add (Int.toNat i4 * 3)).add 0) = some (.int .i64 t16) ∧ 
  (0 : Int) ≤ i4 ∧ i4 < ((l0.n : Nat) : Int) ∧ W.optP l0.a fun t19_p => ∃ t21 : ByteArray, w1.cell? ((t19_p.add (Int.toNat i4 * 3)).add 1) = some (.string t21) ∧ 
  (0 : Int) ≤ i4 ∧ i4 < ((l0.n : Nat) : Int) ∧ W.optP l0.a fun t24_p => ∃ t26 : Int, w1.cell? ((t24_p.add (Int.toNat i4 * 3)).add 2) = some (.int .i64 t26) ∧ 
  W.nwV w1 (.cells #[.int .i64 t16, .string t21, .int .i64 t26] ty_enthymemeref09_Token) fun w2 => 
  w2.cell? ((t24_p.add (Int.toNat i4 * 3)).add 2) = some (.int .i64 t26) ∧ w2.cell? ((t19_p.add (Int.toNat i4 * 3)).add 1) = some (.string t21) ∧ w2.cell? ((t14_p.add (Int.toNat i4 * 3)).add 0) = some (.int .i64 t16) ∧ ∃ (t29 : W.Sl) (w3 : World), Sem.run Try.prog (Builtin.append_ #[ty_sl_enthymemeref09_Token, ty_sl_enthymemeref09_Token] ty_sl_enthymemeref09_Token #[out3.v, .slice (some (Addr.mk w1.heap.size 0 none)) 1 1]) w2 = .ok (t29.v) w3 ∧ w3.cell? ((t24_p.add (Int.toNat i4 * 3)).add 2) = some (.int .i64 t26) ∧ w3.cell? ((t19_p.add (Int.toNat i4 * 3)).add 1) = some (.string t21) ∧ w3.cell? ((t14_p.add (Int.toNat i4 * 3)).add 0) = some (.int .i64 t16) ∧ S6 l0 t29 i4 w3 R
def KE_S5 (E : W.Env) (w : World) (R : W.Post) : Prop := W.asSlice (W.Env.get? E 0) fun l0 => W.asSlice (W.Env.get? E 3) fun out3 => W.asInt .i64 (W.Env.get? E 4) fun i4 => S5 l0 out3 i4 w R
theorem KE_S5_ok (R : W.Post) (E : W.Env) (w : World) (h : KE_S5 E w R) : W.WP Try.prog (W.cx 31) C11 (Q4 R) E w := by
  obtain ⟨l0, hq0, h1⟩ := W.asSlice_elim h
  obtain ⟨out3, hq3, h2⟩ := W.asSlice_elim h1
  obtain ⟨i4, hq4, h3⟩ := W.asInt_elim h2
  exact fun a ha => W.WP.at (n := (W.cx 31)) (E := [(0, l0.v), (3, out3.v), (4, .int .i64 i4)]) (W.WP.draw (c := C11) [0, 1, 2, 3, 4, 5, 6, 7, 8, 9, 10, 11, 12, 13, 14, 15, 16, 17, 18, 19] (fun E w => KE_S6 E w R) (by kernel_rfl) (Eq.mp (by kernel_rfl) h3) fun _ _ a hA hK => (KE_S6_ok R _ _ hK) a hA) (ha.cons hq0 (ha.cons hq3 (ha.cons hq4 ha.nil)))
abbrev Q5 (R : W.Post) : Exit → Act → World → Prop := (bodyPost Try.prog Try.f16 R)
noncomputable def C12 : Code := W.Code.fst C7
noncomputable def C13 : Code := W.Code.snd C7
/-- law.go:19 -/
abbrev S7 (out3 : W.Sl) (w : World) (R : W.Post) : Prop :=
  R (.returned (out3.v)) w
def KE_S7 (E : W.Env) (w : World) (R : W.Post) : Prop := W.asSlice (W.Env.get? E 3) fun out3 => S7 out3 w R
theorem KE_S7_ok (R : W.Post) (E : W.Env) (w : World) (h : KE_S7 E w R) : W.WP Try.prog (W.cx 31) C7 (Q5 R) E w := by
  obtain ⟨out3, hq3, h1⟩ := W.asSlice_elim h
  exact fun a ha => W.WP.at (n := (W.cx 31)) (E := [(3, out3.v)]) (W.WP.seq (c := C7) (x := C12) (y := C13) (by kernel_rfl) <| W.WP.reg (c := C12) (fun E w => W.retVC Try.prog Try.f16 E w (fun v => R (.returned v) w)) (by kernel_rfl) (Eq.mp (by kernel_rfl) h1) fun _ _ a hA hK => (W.WP.ret (c := C13) (by kernel_rfl) fun a hA => W.retVC_sound hA hK) a hA) (ha.cons hq3 ha.nil)
noncomputable def C14 : Code := W.Code.fst C6
abbrev Q6 (R : W.Post) : Exit → Act → World → Prop := (Exit.then (W.wpx Try.prog (W.cx 31) C8 (Exit.then (W.LoopWP Try.prog (W.cx 31) C6 (Q1 R)) (Q1 R))) (Exit.then (W.LoopWP Try.prog (W.cx 31) C6 (Q1 R)) (Q1 R)))
noncomputable def C15 : Code := W.Code.fst C14
noncomputable def C16 : Code := W.Code.snd C14
noncomputable def C17 : Code := W.Code.fst C16
noncomputable def C18 : Code := W.Code.snd C16
/-- law.go:16 -/
abbrev S4 (l0 out3 : W.Sl) (i4 : Int) (w : World) (R : W.Post) : Prop :=
  W.sel (decide (i4 < ((l0.n : Nat) : Int))) (S5 l0 out3 i4 w R) (S7 out3 w R)
def KE_S4 (E : W.Env) (w : World) (R : W.Post) : Prop := W.asSlice (W.Env.get? E 0) fun l0 => W.asSlice (W.Env.get? E 3) fun out3 => W.asInt .i64 (W.Env.get? E 4) fun i4 => S4 l0 out3 i4 w R
theorem KE_S4_ok (R : W.Post) (E : W.Env) (w : World) (h : KE_S4 E w R) : W.WP Try.prog (W.cx 31) C14 (Q6 R) E w := by
  obtain ⟨l0, hq0, h1⟩ := W.asSlice_elim h
  obtain ⟨out3, hq3, h2⟩ := W.asSlice_elim h1
  obtain ⟨i4, hq4, h3⟩ := W.asInt_elim h2
  exact fun a ha => W.WP.at (n := (W.cx 31)) (E := [(0, l0.v), (3, out3.v), (4, .int .i64 i4)]) (W.WP.seq (c := C14) (x := C15) (y := C16) (by kernel_rfl) <| W.WP.reg (c := C15) (fun E w => W.condK (W.Env.val E (.tmp 8)) (KE_S5 E w R) (KE_S7 E w R)) (by kernel_rfl) (Eq.mp (by kernel_rfl) h3) fun _ _ a hA hK => (W.WP.condK (c := C16) (x := C17) (y := C18) (o := .tmp 8) (by kernel_rfl) (fun hK => (W.WP.skip (c := C17) (by kernel_rfl) fun a hA => (W.WP.seq (c := C8) (x := C10) (y := C9) (by kernel_rfl) (W.WP.block (c := C10) (x := C11) (id := 1) (by kernel_rfl) (KE_S5_ok R _ _ hK))) a hA)) (fun hK => (W.WP.exit (c := C18) (id := 0) (by kernel_rfl) fun a hA => (KE_S7_ok R _ _ hK) a hA)) hK) a hA) (ha.cons hq0 (ha.cons hq3 (ha.cons hq4 ha.nil)))
theorem L3_step (l0 out3 : W.Sl) (i4 : Int) (w : World) (R : W.Post) (h : S4 l0 out3 i4 w R) : L3 l0 out3 i4 w R :=
  W.LP.step (n := (W.cx 31)) (c := C6) (E := [(0, l0.v), (3, out3.v), (4, .int .i64 i4)]) (w := w) (W.WP.seq (c := C6) (x := C14) (y := C8) (by kernel_rfl) (KE_S4_ok R _ _ (Eq.mp (by kernel_rfl) h)))
noncomputable def C19 : Code := W.Code.fst C3
/-- law.go:16 -/
abbrev S2 (l0 out3 : W.Sl) (w : World) (R : W.Post) : Prop :=
  L3 l0 out3 0 w R
def KE_S2 (E : W.Env) (w : World) (R : W.Post) : Prop := W.asSlice (W.Env.get? E 0) fun l0 => W.asSlice (W.Env.get? E 3) fun out3 => S2 l0 out3 w R
theorem KE_S2_ok (R : W.Post) (E : W.Env) (w : World) (h : KE_S2 E w R) : W.WP Try.prog (W.cx 31) C3 (Q0 R) E w := by
  obtain ⟨l0, hq0, h1⟩ := W.asSlice_elim h
  obtain ⟨out3, hq3, h2⟩ := W.asSlice_elim h1
  exact fun a ha => W.WP.at (n := (W.cx 31)) (E := [(0, l0.v), (3, out3.v)]) (W.WP.seq (c := C3) (x := C19) (y := C4) (by kernel_rfl) <| W.WP.reg (c := C19) (fun E w => KE_L3 E w R) (by kernel_rfl) (Eq.mp (by kernel_rfl) h2) fun _ _ a hA hK => (W.WP.block (c := C4) (x := C5) (id := 0) (by kernel_rfl) (W.WP.loop (c := C5) (x := C6) (by kernel_rfl) (KE_L3_ok R _ _ hK))) a hA) (ha.cons hq0 (ha.cons hq3 ha.nil))
noncomputable def C20 : Code := W.Code.fst C1
/-- law.go:15 -/
abbrev S1 (l0 : W.Sl) (w : World) (R : W.Post) : Prop :=
  S2 l0 ⟨none, 0, 0⟩ w R
def KE_S1 (E : W.Env) (w : World) (R : W.Post) : Prop := W.asSlice (W.Env.get? E 0) fun l0 => S1 l0 w R
theorem KE_S1_ok (R : W.Post) (E : W.Env) (w : World) (h : KE_S1 E w R) : W.WP Try.prog (W.cx 31) C1 (Q5 R) E w := by
  obtain ⟨l0, hq0, h1⟩ := W.asSlice_elim h
  exact fun a ha => W.WP.at (n := (W.cx 31)) (E := [(0, l0.v)]) (W.WP.seq (c := C1) (x := C20) (y := C2) (by kernel_rfl) <| W.WP.reg (c := C20) (fun E w => KE_S2 E w R) (by kernel_rfl) (Eq.mp (by kernel_rfl) h1) fun _ _ a hA hK => (W.WP.seq (c := C2) (x := C3) (y := C7) (by kernel_rfl) (KE_S2_ok R _ _ hK)) a hA) (ha.cons hq0 ha.nil)
noncomputable def C21 : Code := W.Code.fst C0
/-- law.go:14 -/
abbrev S0 (l0 : W.Sl) (w : World) (R : W.Post) : Prop :=
  S1 l0 w R
def KE_S0 (E : W.Env) (w : World) (R : W.Post) : Prop := W.asSlice (W.Env.get? E 0) fun l0 => S0 l0 w R
theorem KE_S0_ok (R : W.Post) (E : W.Env) (w : World) (h : KE_S0 E w R) : W.WP Try.prog (W.cx 31) C0 (Q5 R) E w := by
  obtain ⟨l0, hq0, h1⟩ := W.asSlice_elim h
  exact fun a ha => W.WP.at (n := (W.cx 31)) (E := [(0, l0.v)]) (W.WP.seq (c := C0) (x := C21) (y := C1) (by kernel_rfl) <| W.WP.reg (c := C21) (fun E w => KE_S1 E w R) (by kernel_rfl) (Eq.mp (by kernel_rfl) h1) fun _ _ a hA hK => (KE_S1_ok R _ _ hK) a hA) (ha.cons hq0 ha.nil)
/-- enthymeme/enthymemelaw09.plain -/
theorem ok (l0 : W.Sl) (w : World) (R : W.Post) (h : S0 l0 w R) : Calls Try.prog n_enthymemelaw09_plain #[l0.v] w R :=
  W.calls_of_WP' (fn := Try.f16) (c := C0) (args := [l0.v]) (by kernel_rfl) (by kernel_rfl) (by kernel_rfl) (KE_S0_ok R _ _ (Eq.mp (by kernel_rfl) h))
end enthymemelaw09_plain
namespace enthymemelaw09_lives
noncomputable def C0 : Code := (Try.f17.body).getD .skip
noncomputable def C1 : Code := W.Code.snd C0
noncomputable def C2 : Code := W.Code.snd C1
noncomputable def C3 : Code := W.Code.snd C2
noncomputable def C4 : Code := W.Code.snd C3
noncomputable def C5 : Code := W.Code.snd C4
noncomputable def C6 : Code := W.Code.snd C5
noncomputable def C7 : Code := W.Code.fst C6
noncomputable def C8 : Code := W.Code.snd C7
noncomputable def C9 : Code := W.Code.fst C8
noncomputable def C10 : Code := W.Code.snd C6
abbrev Q0 (R : W.Post) : Exit → Act → World → Prop := (Exit.then (W.wpx Try.prog (W.cx 113) C10 (bodyPost Try.prog Try.f17 R)) (bodyPost Try.prog Try.f17 R))
noncomputable def C11 : Code := W.Code.fst C9
noncomputable def C12 : Code := W.Code.snd C9
/-- law.go:30 -/
abbrev S7  (w : World) (R : W.Post) : Prop :=
  R (.returned (.bool false)) w
def KE_S7 (E : W.Env) (w : World) (R : W.Post) : Prop := S7  w R
theorem KE_S7_ok (R : W.Post) (E : W.Env) (w : World) (h : KE_S7 E w R) : W.WP Try.prog (W.cx 113) C9 (Q0 R) E w := by
  exact fun a ha => W.WP.at (n := (W.cx 113)) (E := []) (W.WP.seq (c := C9) (x := C11) (y := C12) (by kernel_rfl) <| W.WP.reg (c := C11) (fun E w => W.retVC Try.prog Try.f17 E w (fun v => R (.returned v) w)) (by kernel_rfl) (Eq.mp (by kernel_rfl) h) fun _ _ a hA hK => (W.WP.ret (c := C12) (by kernel_rfl) fun a hA => W.retVC_sound hA hK) a hA) ha.nil
abbrev Q1 (R : W.Post) : Exit → Act → World → Prop := (bodyPost Try.prog Try.f17 R)
noncomputable def C13 : Code := W.Code.fst C10
noncomputable def C14 : Code := W.Code.snd C10
/-- law.go:32 -/
abbrev S8 (a1 b4 c10 want13 : W.Sl) (w : World) (R : W.Post) : Prop :=
  W.drV w fun w1 => Calls Try.prog n_enthymemelaw09_plain #[a1.v] w1 fun r_ w2 => ∃ t73 : W.Sl, r_ = .returned (t73.v) ∧ 
  Calls Try.prog n_enthymemeref09_Same #[t73.v, want13.v] w2 fun r_ w3 => ∃ t75 : Bool, r_ = .returned (.bool t75) ∧ 
  W.sel t75 ((0 : Int) ≤ 0 ∧ 0 < ((b4.n : Nat) : Int) ∧ W.optP b4.a fun t78_p => ∃ t80 : Int, w3.cell? ((t78_p.add (Int.toNat 0 * 3)).add 0) = some (.int .i64 t80) ∧ 
  W.sel (t80 == 5) ((0 : Int) ≤ 0 ∧ 0 < ((b4.n : Nat) : Int) ∧ W.optP b4.a fun t85_p => ∃ t87 : ByteArray, w3.cell? ((t85_p.add (Int.toNat 0 * 3)).add 1) = some (.string t87) ∧ 
  W.nwV w3 (.cells #[.int .u8 97, .int .u8 34, .int .u8 0] ty_uint8) fun w4 => 
  w4.cell? ((t85_p.add (Int.toNat 0 * 3)).add 1) = some (.string t87) ∧ w4.cell? ((t78_p.add (Int.toNat 0 * 3)).add 0) = some (.int .i64 t80) ∧ ∃ t89 : ByteArray, Sem.run Try.prog (Go.convert ty_sl_uint8 ty_string (.slice (some (Addr.mk w3.heap.size 0 none)) 3 3)) w4 = .ok (.string t89) w4 ∧ W.sel (t87.toList == t89.toList) ((0 : Int) ≤ 0 ∧ 0 < ((c10.n : Nat) : Int) ∧ W.optP c10.a fun t94_p => ∃ t96 : Int, w4.cell? ((t94_p.add (Int.toNat 0 * 3)).add 0) = some (.int .i64 t96) ∧ 
  W.sel (t96 == 3) ((0 : Int) ≤ 0 ∧ 0 < ((c10.n : Nat) : Int) ∧ W.optP c10.a fun t101_p => ∃ t103 : ByteArray, w4.cell? ((t101_p.add (Int.toNat 0 * 3)).add 1) = some (.string t103) ∧ 
  W.sel (t103.toList == (ByteArray.mk #[35, 98, 48, 49]).toList) ((0 : Int) ≤ 1 ∧ 1 < ((c10.n : Nat) : Int) ∧ W.optP c10.a fun t108_p => ∃ t110 : Int, w4.cell? ((t108_p.add (Int.toNat 1 * 3)).add 0) = some (.int .i64 t110) ∧ 
  R (.returned (.bool (t110 == 1))) w4) (R (.returned (.bool false)) w4)) (R (.returned (.bool false)) w4)) (R (.returned (.bool false)) w4)) (R (.returned (.bool false)) w3)) (R (.returned (.bool false)) w3)
def KE_S8 (E : W.Env) (w : World) (R : W.Post) : Prop := W.asSlice (W.Env.get? E 1) fun a1 => W.asSlice (W.Env.get? E 4) fun b4 => W.asSlice (W.Env.get? E 10) fun c10 => W.asSlice (W.Env.get? E 13) fun want13 => S8 a1 b4 c10 want13 w R
theorem KE_S8_ok (R : W.Post) (E : W.Env) (w : World) (h : KE_S8 E w R) : W.WP Try.prog (W.cx 113) C10 (Q1 R) E w := by
  obtain ⟨a1, hq1, h1⟩ := W.asSlice_elim h
  obtain ⟨b4, hq4, h2⟩ := W.asSlice_elim h1
  obtain ⟨c10, hq10, h3⟩ := W.asSlice_elim h2
  obtain ⟨want13, hq13, h4⟩ := W.asSlice_elim h3
  exact fun a ha => W.WP.at (n := (W.cx 113)) (E := [(1, a1.v), (4, b4.v), (10, c10.v), (13, want13.v)]) (W.WP.seq (c := C10) (x := C13) (y := C14) (by kernel_rfl) <| W.WP.draw (c := C13) [0, 2, 1, 3, 4, 5, 6, 7, 8, 9, 10, 11, 12, 13, 14, 15, 16, 17, 18, 19, 20, 21, 22, 23, 24, 25, 26, 27, 28, 29, 30, 31, 32, 33, 34, 35, 36, 37, 38, 39, 40, 41] (fun E w => W.retVC Try.prog Try.f17 E w (fun v => R (.returned v) w)) (by kernel_rfl) (Eq.mp (by kernel_rfl) h4) fun _ _ a hA hK => (W.WP.ret (c := C14) (by kernel_rfl) fun a hA => W.retVC_sound hA hK) a hA) (ha.cons hq1 (ha.cons hq4 (ha.cons hq10 (ha.cons hq13 ha.nil))))
noncomputable def C15 : Code := W.Code.fst C7
noncomputable def C16 : Code := W.Code.snd C8
/-- law.go:29 -/
abbrev S6 (a1 : W.Sl) (n2 e3 : Int) (b4 : W.Sl) (f6 m8 g9 : Int) (c10 : W.Sl) (h12 : Int) (want13 : W.Sl) (w : World) (R : W.Post) : Prop :=
  W.sel (e3 != 0) (S7  w R) (W.sel (n2 != 0) (S7  w R) (W.sel (f6 != 0) (S7  w R) (W.sel (g9 != 2) (S7  w R) (W.sel (m8 != 0) (S7  w R) (W.sel (h12 != 0) (S7  w R) (W.sel (((b4.n : Nat) : Int) != 2) (S7  w R) (W.sel (((c10.n : Nat) : Int) != 3) (S7  w R) (S8 a1 b4 c10 want13 w R))))))))
def KE_S6 (E : W.Env) (w : World) (R : W.Post) : Prop := W.asSlice (W.Env.get? E 1) fun a1 => W.asInt .i64 (W.Env.get? E 2) fun n2 => W.asInt .i64 (W.Env.get? E 3) fun e3 => W.asSlice (W.Env.get? E 4) fun b4 => W.asInt .i64 (W.Env.get? E 6) fun f6 => W.asInt .i64 (W.Env.get? E 8) fun m8 => W.asInt .i64 (W.Env.get? E 9) fun g9 => W.asSlice (W.Env.get? E 10) fun c10 => W.asInt .i64 (W.Env.get? E 12) fun h12 => W.asSlice (W.Env.get? E 13) fun want13 => S6 a1 n2 e3 b4 f6 m8 g9 c10 h12 want13 w R
theorem KE_S6_ok (R : W.Post) (E : W.Env) (w : World) (h : KE_S6 E w R) : W.WP Try.prog (W.cx 113) C7 (Q0 R) E w := by
  obtain ⟨a1, hq1, h1⟩ := W.asSlice_elim h
  obtain ⟨n2, hq2, h2⟩ := W.asInt_elim h1
  obtain ⟨e3, hq3, h3⟩ := W.asInt_elim h2
  obtain ⟨b4, hq4, h4⟩ := W.asSlice_elim h3
  obtain ⟨f6, hq6, h5⟩ := W.asInt_elim h4
  obtain ⟨m8, hq8, h6⟩ := W.asInt_elim h5
  obtain ⟨g9, hq9, h7⟩ := W.asInt_elim h6
  obtain ⟨c10, hq10, h8⟩ := W.asSlice_elim h7
  obtain ⟨h12, hq12, h9⟩ := W.asInt_elim h8
  obtain ⟨want13, hq13, h10⟩ := W.asSlice_elim h9
  exact fun a ha => W.WP.at (n := (W.cx 113)) (E := [(1, a1.v), (2, .int .i64 n2), (3, .int .i64 e3), (4, b4.v), (6, .int .i64 f6), (8, .int .i64 m8), (9, .int .i64 g9), (10, c10.v), (12, .int .i64 h12), (13, want13.v)]) (W.WP.seq (c := C7) (x := C15) (y := C8) (by kernel_rfl) <| W.WP.reg (c := C15) (fun E w => W.condK (W.Env.val E (.tmp 71)) (KE_S7 E w R) (KE_S8 E w R)) (by kernel_rfl) (Eq.mp (by kernel_rfl) h10) fun _ _ a hA hK => (W.WP.condK (c := C8) (x := C9) (y := C16) (o := .tmp 71) (by kernel_rfl) (fun hK => (KE_S7_ok R _ _ hK)) (fun hK => (W.WP.skip (c := C16) (by kernel_rfl) fun a hA => (KE_S8_ok R _ _ hK) a hA)) hK) a hA) (ha.cons hq1 (ha.cons hq2 (ha.cons hq3 (ha.cons hq4 (ha.cons hq6 (ha.cons hq8 (ha.cons hq9 (ha.cons hq10 (ha.cons hq12 (ha.cons hq13 ha.nil))))))))))
noncomputable def C17 : Code := W.Code.fst C5
/-- law.go:28 -/
abbrev S5 (a1 : W.Sl) (n2 e3 : Int) (b4 : W.Sl) (f6 m8 g9 : Int) (c10 : W.Sl) (h12 : Int) (w : World) (R : W.Post) : Prop :=
  W.nwV w (.cells #[.int .i64 0, .string (ByteArray.mk #[]), .int .i64 0, .int .i64 2, .string (ByteArray.mk #[110, 111, 116]), .int .i64 1, .int .i64 2, .string (ByteArray.mk #[120, 45, 49]), .int .i64 5, .int .i64 1, .string (ByteArray.mk #[]), .int .i64 8, .int .i64 6, .string (ByteArray.mk #[]), .int .i64 9] ty_enthymemeref09_Token) fun w1 => 
  S6 a1 n2 e3 b4 f6 m8 g9 c10 h12 ⟨some (Addr.mk w.heap.size 0 none), 5, 5⟩ w1 R
def KE_S5 (E : W.Env) (w : World) (R : W.Post) : Prop := W.asSlice (W.Env.get? E 1) fun a1 => W.asInt .i64 (W.Env.get? E 2) fun n2 => W.asInt .i64 (W.Env.get? E 3) fun e3 => W.asSlice (W.Env.get? E 4) fun b4 => W.asInt .i64 (W.Env.get? E 6) fun f6 => W.asInt .i64 (W.Env.get? E 8) fun m8 => W.asInt .i64 (W.Env.get? E 9) fun g9 => W.asSlice (W.Env.get? E 10) fun c10 => W.asInt .i64 (W.Env.get? E 12) fun h12 => S5 a1 n2 e3 b4 f6 m8 g9 c10 h12 w R
theorem KE_S5_ok (R : W.Post) (E : W.Env) (w : World) (h : KE_S5 E w R) : W.WP Try.prog (W.cx 113) C5 (Q1 R) E w := by
  obtain ⟨a1, hq1, h1⟩ := W.asSlice_elim h
  obtain ⟨n2, hq2, h2⟩ := W.asInt_elim h1
  obtain ⟨e3, hq3, h3⟩ := W.asInt_elim h2
  obtain ⟨b4, hq4, h4⟩ := W.asSlice_elim h3
  obtain ⟨f6, hq6, h5⟩ := W.asInt_elim h4
  obtain ⟨m8, hq8, h6⟩ := W.asInt_elim h5
  obtain ⟨g9, hq9, h7⟩ := W.asInt_elim h6
  obtain ⟨c10, hq10, h8⟩ := W.asSlice_elim h7
  obtain ⟨h12, hq12, h9⟩ := W.asInt_elim h8
  exact fun a ha => W.WP.at (n := (W.cx 113)) (E := [(1, a1.v), (2, .int .i64 n2), (3, .int .i64 e3), (4, b4.v), (6, .int .i64 f6), (8, .int .i64 m8), (9, .int .i64 g9), (10, c10.v), (12, .int .i64 h12)]) (W.WP.seq (c := C5) (x := C17) (y := C6) (by kernel_rfl) <| W.WP.reg (c := C17) (fun E w => KE_S6 E w R) (by kernel_rfl) (Eq.mp (by kernel_rfl) h9) fun _ _ a hA hK => (W.WP.seq (c := C6) (x := C7) (y := C10) (by kernel_rfl) (KE_S6_ok R _ _ hK)) a hA) (ha.cons hq1 (ha.cons hq2 (ha.cons hq3 (ha.cons hq4 (ha.cons hq6 (ha.cons hq8 (ha.cons hq9 (ha.cons hq10 (ha.cons hq12 ha.nil)))))))))
noncomputable def C18 : Code := W.Code.fst C4
/-- law.go:27 -/
abbrev S4 (a1 : W.Sl) (n2 e3 : Int) (b4 : W.Sl) (f6 m8 g9 : Int) (w : World) (R : W.Post) : Prop :=
  Calls Try.prog n_lexer_Tokens #[.string (ByteArray.mk #[35, 98, 48, 49, 41])] w fun r_ w1 => ∃ t30_0 : W.Sl, ∃ t30_1 : Int, ∃ t30_2 : Int, r_ = .returned (.tuple #[t30_0.v, .int .i64 t30_1, .int .i64 t30_2]) ∧ 
  S5 a1 n2 e3 b4 f6 m8 g9 t30_0 t30_2 w1 R
def KE_S4 (E : W.Env) (w : World) (R : W.Post) : Prop := W.asSlice (W.Env.get? E 1) fun a1 => W.asInt .i64 (W.Env.get? E 2) fun n2 => W.asInt .i64 (W.Env.get? E 3) fun e3 => W.asSlice (W.Env.get? E 4) fun b4 => W.asInt .i64 (W.Env.get? E 6) fun f6 => W.asInt .i64 (W.Env.get? E 8) fun m8 => W.asInt .i64 (W.Env.get? E 9) fun g9 => S4 a1 n2 e3 b4 f6 m8 g9 w R
theorem KE_S4_ok (R : W.Post) (E : W.Env) (w : World) (h : KE_S4 E w R) : W.WP Try.prog (W.cx 113) C4 (Q1 R) E w := by
  obtain ⟨a1, hq1, h1⟩ := W.asSlice_elim h
  obtain ⟨n2, hq2, h2⟩ := W.asInt_elim h1
  obtain ⟨e3, hq3, h3⟩ := W.asInt_elim h2
  obtain ⟨b4, hq4, h4⟩ := W.asSlice_elim h3
  obtain ⟨f6, hq6, h5⟩ := W.asInt_elim h4
  obtain ⟨m8, hq8, h6⟩ := W.asInt_elim h5
  obtain ⟨g9, hq9, h7⟩ := W.asInt_elim h6
  exact fun a ha => W.WP.at (n := (W.cx 113)) (E := [(1, a1.v), (2, .int .i64 n2), (3, .int .i64 e3), (4, b4.v), (6, .int .i64 f6), (8, .int .i64 m8), (9, .int .i64 g9)]) (W.WP.seq (c := C4) (x := C18) (y := C5) (by kernel_rfl) <| W.WP.reg (c := C18) (fun E w => KE_S5 E w R) (by kernel_rfl) (Eq.mp (by kernel_rfl) h7) fun _ _ a hA hK => (KE_S5_ok R _ _ hK) a hA) (ha.cons hq1 (ha.cons hq2 (ha.cons hq3 (ha.cons hq4 (ha.cons hq6 (ha.cons hq8 (ha.cons hq9 ha.nil)))))))
noncomputable def C19 : Code := W.Code.fst C3
/-- law.go:26 -/
abbrev S3 (a1 : W.Sl) (n2 e3 : Int) (b4 : W.Sl) (f6 : Int) (w : World) (R : W.Post) : Prop :=
  Calls Try.prog n_lexer_Tokens #[.string (ByteArray.mk #[35, 98, 48, 49, 50])] w fun r_ w1 => ∃ t25_0 : W.Sl, ∃ t25_1 : Int, ∃ t25_2 : Int, r_ = .returned (.tuple #[t25_0.v, .int .i64 t25_1, .int .i64 t25_2]) ∧ 
  S4 a1 n2 e3 b4 f6 t25_1 t25_2 w1 R
def KE_S3 (E : W.Env) (w : World) (R : W.Post) : Prop := W.asSlice (W.Env.get? E 1) fun a1 => W.asInt .i64 (W.Env.get? E 2) fun n2 => W.asInt .i64 (W.Env.get? E 3) fun e3 => W.asSlice (W.Env.get? E 4) fun b4 => W.asInt .i64 (W.Env.get? E 6) fun f6 => S3 a1 n2 e3 b4 f6 w R
theorem KE_S3_ok (R : W.Post) (E : W.Env) (w : World) (h : KE_S3 E w R) : W.WP Try.prog (W.cx 113) C3 (Q1 R) E w := by
  obtain ⟨a1, hq1, h1⟩ := W.asSlice_elim h
  obtain ⟨n2, hq2, h2⟩ := W.asInt_elim h1
  obtain ⟨e3, hq3, h3⟩ := W.asInt_elim h2
  obtain ⟨b4, hq4, h4⟩ := W.asSlice_elim h3
  obtain ⟨f6, hq6, h5⟩ := W.asInt_elim h4
  exact fun a ha => W.WP.at (n := (W.cx 113)) (E := [(1, a1.v), (2, .int .i64 n2), (3, .int .i64 e3), (4, b4.v), (6, .int .i64 f6)]) (W.WP.seq (c := C3) (x := C19) (y := C4) (by kernel_rfl) <| W.WP.reg (c := C19) (fun E w => KE_S4 E w R) (by kernel_rfl) (Eq.mp (by kernel_rfl) h5) fun _ _ a hA hK => (KE_S4_ok R _ _ hK) a hA) (ha.cons hq1 (ha.cons hq2 (ha.cons hq3 (ha.cons hq4 (ha.cons hq6 ha.nil)))))
noncomputable def C20 : Code := W.Code.fst C2
/-- law.go:25 -/
abbrev S2 (a1 : W.Sl) (n2 e3 : Int) (w : World) (R : W.Post) : Prop :=
  Calls Try.prog n_lexer_Tokens #[.string (ByteArray.mk #[34, 97, 92, 34, 92, 120, 48, 48, 34])] w fun r_ w1 => ∃ t20_0 : W.Sl, ∃ t20_1 : Int, ∃ t20_2 : Int, r_ = .returned (.tuple #[t20_0.v, .int .i64 t20_1, .int .i64 t20_2]) ∧ 
  S3 a1 n2 e3 t20_0 t20_2 w1 R
def KE_S2 (E : W.Env) (w : World) (R : W.Post) : Prop := W.asSlice (W.Env.get? E 1) fun a1 => W.asInt .i64 (W.Env.get? E 2) fun n2 => W.asInt .i64 (W.Env.get? E 3) fun e3 => S2 a1 n2 e3 w R
theorem KE_S2_ok (R : W.Post) (E : W.Env) (w : World) (h : KE_S2 E w R) : W.WP Try.prog (W.cx 113) C2 (Q1 R) E w := by
  obtain ⟨a1, hq1, h1⟩ := W.asSlice_elim h
  obtain ⟨n2, hq2, h2⟩ := W.asInt_elim h1
  obtain ⟨e3, hq3, h3⟩ := W.asInt_elim h2
  exact fun a ha => W.WP.at (n := (W.cx 113)) (E := [(1, a1.v), (2, .int .i64 n2), (3, .int .i64 e3)]) (W.WP.seq (c := C2) (x := C20) (y := C3) (by kernel_rfl) <| W.WP.reg (c := C20) (fun E w => KE_S3 E w R) (by kernel_rfl) (Eq.mp (by kernel_rfl) h3) fun _ _ a hA hK => (KE_S3_ok R _ _ hK) a hA) (ha.cons hq1 (ha.cons hq2 (ha.cons hq3 ha.nil)))
noncomputable def C21 : Code := W.Code.fst C1
/-- law.go:24 -/
abbrev S1  (w : World) (R : W.Post) : Prop :=
  Calls Try.prog n_lexer_Tokens #[.string (ByteArray.mk #[40, 110, 111, 116, 32, 120, 45, 49, 41])] w fun r_ w1 => ∃ t15_0 : W.Sl, ∃ t15_1 : Int, ∃ t15_2 : Int, r_ = .returned (.tuple #[t15_0.v, .int .i64 t15_1, .int .i64 t15_2]) ∧ 
  S2 t15_0 t15_1 t15_2 w1 R
def KE_S1 (E : W.Env) (w : World) (R : W.Post) : Prop := S1  w R
theorem KE_S1_ok (R : W.Post) (E : W.Env) (w : World) (h : KE_S1 E w R) : W.WP Try.prog (W.cx 113) C1 (Q1 R) E w := by
  exact fun a ha => W.WP.at (n := (W.cx 113)) (E := []) (W.WP.seq (c := C1) (x := C21) (y := C2) (by kernel_rfl) <| W.WP.reg (c := C21) (fun E w => KE_S2 E w R) (by kernel_rfl) (Eq.mp (by kernel_rfl) h) fun _ _ a hA hK => (KE_S2_ok R _ _ hK) a hA) ha.nil
noncomputable def C22 : Code := W.Code.fst C0
/-- law.go:23 -/
abbrev S0  (w : World) (R : W.Post) : Prop :=
  S1  w R
def KE_S0 (E : W.Env) (w : World) (R : W.Post) : Prop := S0  w R
theorem KE_S0_ok (R : W.Post) (E : W.Env) (w : World) (h : KE_S0 E w R) : W.WP Try.prog (W.cx 113) C0 (Q1 R) E w := by
  exact fun a ha => W.WP.at (n := (W.cx 113)) (E := []) (W.WP.seq (c := C0) (x := C22) (y := C1) (by kernel_rfl) <| W.WP.reg (c := C22) (fun E w => KE_S1 E w R) (by kernel_rfl) (Eq.mp (by kernel_rfl) h) fun _ _ a hA hK => (KE_S1_ok R _ _ hK) a hA) ha.nil
/-- enthymeme/enthymemelaw09.lives -/
theorem ok  (w : World) (R : W.Post) (h : S0  w R) : Calls Try.prog n_enthymemelaw09_lives #[] w R :=
  W.calls_of_WP' (fn := Try.f17) (c := C0) (args := []) (by kernel_rfl) (by kernel_rfl) (by kernel_rfl) (KE_S0_ok R _ _ (Eq.mp (by kernel_rfl) h))
end enthymemelaw09_lives
end Go.Proofs.Ytemagdpieebjlaa

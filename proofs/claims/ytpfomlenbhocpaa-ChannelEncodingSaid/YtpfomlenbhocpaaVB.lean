/- Printed by a program of ours (vcgen.py) from the dump: the conditions of the functions, and that they suffice. -/
import Derived.Test.YtpfomlenbhocpaaVN
import Derived.Test.YtpfomlenbhocpaaVR
set_option linter.unusedVariables false
set_option maxRecDepth 100000
namespace Go.Proofs.Ytpfomlenbhocpaa
open Go
namespace enthymemelaw38_ChannelEncoding
noncomputable def C0 : Code := (Try.f3.body).getD .skip
noncomputable def C1 : Code := W.Code.snd C0
noncomputable def C2 : Code := W.Code.snd C1
noncomputable def C3 : Code := W.Code.snd C2
noncomputable def C4 : Code := W.Code.snd C3
noncomputable def C5 : Code := W.Code.fst C4
noncomputable def C6 : Code := W.Code.snd C5
noncomputable def C7 : Code := W.Code.fst C6
noncomputable def C8 : Code := W.Code.snd C4
abbrev Q0 (R : W.Post) : Exit → Act → World → Prop := (Exit.then (W.wpx Try.prog (W.cx 117) C8 (bodyPost Try.prog Try.f3 R)) (bodyPost Try.prog Try.f3 R))
noncomputable def C9 : Code := W.Code.fst C7
noncomputable def C10 : Code := W.Code.snd C7
/-- law.go:261 -/
abbrev S5  (w : World) (R : W.Post) : Prop :=
  R (.returned (.bool false)) w
def KE_S5 (E : W.Env) (w : World) (R : W.Post) : Prop := S5  w R
theorem KE_S5_ok (R : W.Post) (E : W.Env) (w : World) (h : KE_S5 E w R) : W.WP Try.prog (W.cx 117) C7 (Q0 R) E w := by
  exact fun a ha => W.WP.at (n := (W.cx 117)) (E := []) (W.WP.seq (c := C7) (x := C9) (y := C10) (by kernel_rfl) <| W.WP.reg (c := C9) (fun E w => W.retVC Try.prog Try.f3 E w (fun v => R (.returned v) w)) (by kernel_rfl) (Eq.mp (by kernel_rfl) h) fun _ _ a hA hK => (W.WP.ret (c := C10) (by kernel_rfl) fun a hA => W.retVC_sound hA hK) a hA) ha.nil
noncomputable def C11 : Code := W.Code.snd C8
noncomputable def C12 : Code := W.Code.snd C11
noncomputable def C13 : Code := W.Code.fst C12
noncomputable def C14 : Code := W.Code.snd C13
noncomputable def C15 : Code := W.Code.fst C14
noncomputable def C16 : Code := W.Code.snd C12
abbrev Q1 (R : W.Post) : Exit → Act → World → Prop := (Exit.then (W.wpx Try.prog (W.cx 117) C16 (bodyPost Try.prog Try.f3 R)) (bodyPost Try.prog Try.f3 R))
noncomputable def C17 : Code := W.Code.fst C15
noncomputable def C18 : Code := W.Code.snd C15
/-- law.go:266 -/
abbrev S9  (w : World) (R : W.Post) : Prop :=
  R (.returned (.bool false)) w
def KE_S9 (E : W.Env) (w : World) (R : W.Post) : Prop := S9  w R
theorem KE_S9_ok (R : W.Post) (E : W.Env) (w : World) (h : KE_S9 E w R) : W.WP Try.prog (W.cx 117) C15 (Q1 R) E w := by
  exact fun a ha => W.WP.at (n := (W.cx 117)) (E := []) (W.WP.seq (c := C15) (x := C17) (y := C18) (by kernel_rfl) <| W.WP.reg (c := C17) (fun E w => W.retVC Try.prog Try.f3 E w (fun v => R (.returned v) w)) (by kernel_rfl) (Eq.mp (by kernel_rfl) h) fun _ _ a hA hK => (W.WP.ret (c := C18) (by kernel_rfl) fun a hA => W.retVC_sound hA hK) a hA) ha.nil
noncomputable def C19 : Code := W.Code.snd C16
noncomputable def C20 : Code := W.Code.snd C19
noncomputable def C21 : Code := W.Code.snd C20
noncomputable def C22 : Code := W.Code.snd C21
noncomputable def C23 : Code := W.Code.fst C22
noncomputable def C24 : Code := W.Code.snd C23
noncomputable def C25 : Code := W.Code.fst C24
noncomputable def C26 : Code := W.Code.fst C25
noncomputable def C27 : Code := W.Code.snd C22
abbrev Q2 (R : W.Post) : Exit → Act → World → Prop := (Exit.then (W.wpx Try.prog (W.cx 117) C27 (bodyPost Try.prog Try.f3 R)) (bodyPost Try.prog Try.f3 R))
abbrev Q3 (R : W.Post) : Exit → Act → World → Prop := (Exit.inBlock 0 (Q2 R))
/-- the head of the loop, law.go:272 -/
def L15 (all18 : W.Sl) (i19 : Int) (w : World) (R : W.Post) : Prop := W.LP Try.prog (W.cx 117) C26 (Q3 R) [(18, all18.v), (19, .int .i64 i19)] w
def KE_L15 (E : W.Env) (w : World) (R : W.Post) : Prop := W.asSlice (W.Env.get? E 18) fun all18 => W.asInt .i64 (W.Env.get? E 19) fun i19 => L15 all18 i19 w R
theorem KE_L15_ok (R : W.Post) (E : W.Env) (w : World) (h : KE_L15 E w R) : W.LP Try.prog (W.cx 117) C26 (Q3 R) E w := by
  obtain ⟨all18, hq18, h1⟩ := W.asSlice_elim h
  obtain ⟨i19, hq19, h2⟩ := W.asInt_elim h1
  intro a ha
  exact h2 a (ha.cons hq18 (ha.cons hq19 ha.nil))
noncomputable def C28 : Code := W.Code.snd C26
noncomputable def C29 : Code := W.Code.fst C28
noncomputable def C30 : Code := W.Code.fst C29
noncomputable def C31 : Code := W.Code.snd C30
noncomputable def C32 : Code := W.Code.snd C31
noncomputable def C33 : Code := W.Code.snd C32
noncomputable def C34 : Code := W.Code.fst C33
noncomputable def C35 : Code := W.Code.snd C28
abbrev Q4 (R : W.Post) : Exit → Act → World → Prop := (Exit.then (W.wpx Try.prog (W.cx 117) C35 (Exit.then (W.LoopWP Try.prog (W.cx 117) C26 (Q3 R)) (Q3 R))) (Exit.then (W.LoopWP Try.prog (W.cx 117) C26 (Q3 R)) (Q3 R)))
abbrev Q5 (R : W.Post) : Exit → Act → World → Prop := (Exit.inBlock 1 (Q4 R))
noncomputable def C36 : Code := W.Code.fst C34
noncomputable def C37 : Code := W.Code.snd C34
/-- law.go:276 -/
abbrev S20  (w : World) (R : W.Post) : Prop :=
  R (.returned (.bool false)) w
def KE_S20 (E : W.Env) (w : World) (R : W.Post) : Prop := S20  w R
theorem KE_S20_ok (R : W.Post) (E : W.Env) (w : World) (h : KE_S20 E w R) : W.WP Try.prog (W.cx 117) C34 (Q5 R) E w := by
  exact fun a ha => W.WP.at (n := (W.cx 117)) (E := []) (W.WP.seq (c := C34) (x := C36) (y := C37) (by kernel_rfl) <| W.WP.reg (c := C36) (fun E w => W.retVC Try.prog Try.f3 E w (fun v => R (.returned v) w)) (by kernel_rfl) (Eq.mp (by kernel_rfl) h) fun _ _ a hA hK => (W.WP.ret (c := C37) (by kernel_rfl) fun a hA => W.retVC_sound hA hK) a hA) ha.nil
abbrev Q6 (R : W.Post) : Exit → Act → World → Prop := (Exit.then (W.LoopWP Try.prog (W.cx 117) C26 (Q3 R)) (Q3 R))
/-- law.go:272 -/
abbrev S21 (all18 : W.Sl) (i19 : Int) (w : World) (R : W.Post) : Prop :=
  L15 all18 (IntKind.wrap .i64 (i19 + 1)) w R
def KE_S21 (E : W.Env) (w : World) (R : W.Post) : Prop := W.asSlice (W.Env.get? E 18) fun all18 => W.asInt .i64 (W.Env.get? E 19) fun i19 => S21 all18 i19 w R
theorem KE_S21_ok (R : W.Post) (E : W.Env) (w : World) (h : KE_S21 E w R) : W.WP Try.prog (W.cx 117) C35 (Q6 R) E w := by
  obtain ⟨all18, hq18, h1⟩ := W.asSlice_elim h
  obtain ⟨i19, hq19, h2⟩ := W.asInt_elim h1
  exact fun a ha => W.WP.at (n := (W.cx 117)) (E := [(18, all18.v), (19, .int .i64 i19)]) (W.WP.reg (c := C35) (fun E w => KE_L15 E w R) (by kernel_rfl) (Eq.mp (by kernel_rfl) h2) fun _ _ a hA hK => KE_L15_ok R _ _ hK a hA) (ha.cons hq18 (ha.cons hq19 ha.nil))
noncomputable def C38 : Code := W.Code.fst C32
noncomputable def C39 : Code := W.Code.snd C33
/-- law.go:275 -/
abbrev S19 (all18 : W.Sl) (i19 : Int) (x20 : Addr) (g21 : Int) (y22 : Addr) (h23 : Int) (w : World) (R : W.Post) : Prop :=
  W.sel (g21 != h23) (S20  w.drew R) (∃ t110_0 : Int, ∃ t110_1 : Int, ∃ t110_2 : W.Sl, w.drew.cell? (x20.add 0) = some (.int .i64 t110_0) ∧ w.drew.cell? (x20.add 1) = some (.int .i64 t110_1) ∧ w.drew.cell? (x20.add 2) = some (t110_2.v) ∧ 
  ∃ t112_0 : Int, ∃ t112_1 : Int, ∃ t112_2 : W.Sl, w.drew.cell? (y22.add 0) = some (.int .i64 t112_0) ∧ w.drew.cell? (y22.add 1) = some (.int .i64 t112_1) ∧ w.drew.cell? (y22.add 2) = some (t112_2.v) ∧ 
  Calls Try.prog n_enthymemelaw38_plain #[.agg #[.int .i64 t110_0, .int .i64 t110_1, t110_2.v]] w.drew fun r_ w1 => ∃ t111_0 : Int, ∃ t111_1 : Int, ∃ t111_2 : W.Sl, r_ = .returned (.agg #[.int .i64 t111_0, .int .i64 t111_1, t111_2.v]) ∧ 
  w1.cell? (y22.add 0) = some (.int .i64 t112_0) ∧ w1.cell? (y22.add 1) = some (.int .i64 t112_1) ∧ w1.cell? (y22.add 2) = some (t112_2.v) ∧ Calls Try.prog n_enthymemeref38_Same #[.agg #[.int .i64 t111_0, .int .i64 t111_1, t111_2.v], .agg #[.int .i64 t112_0, .int .i64 t112_1, t112_2.v]] w1 fun r_ w2 => ∃ t113 : Bool, r_ = .returned (.bool t113) ∧ 
  W.sel (!t113) (S20  w2 R) (S21 all18 i19 w2 R))
def KE_S19 (E : W.Env) (w : World) (R : W.Post) : Prop := W.asSlice (W.Env.get? E 18) fun all18 => W.asInt .i64 (W.Env.get? E 19) fun i19 => W.asRef (W.Env.get? E 20) fun x20 => W.asInt .i64 (W.Env.get? E 21) fun g21 => W.asRef (W.Env.get? E 22) fun y22 => W.asInt .i64 (W.Env.get? E 23) fun h23 => S19 all18 i19 x20 g21 y22 h23 w R
theorem KE_S19_ok (R : W.Post) (E : W.Env) (w : World) (h : KE_S19 E w R) : W.WP Try.prog (W.cx 117) C32 (Q5 R) E w := by
  obtain ⟨all18, hq18, h1⟩ := W.asSlice_elim h
  obtain ⟨i19, hq19, h2⟩ := W.asInt_elim h1
  obtain ⟨x20, hq20, h3⟩ := W.asRef_elim h2
  obtain ⟨g21, hq21, h4⟩ := W.asInt_elim h3
  obtain ⟨y22, hq22, h5⟩ := W.asRef_elim h4
  obtain ⟨h23, hq23, h6⟩ := W.asInt_elim h5
  exact fun a ha => W.WP.at (n := (W.cx 117)) (E := [(18, all18.v), (19, .int .i64 i19), (20, .pointer (some x20)), (21, .int .i64 g21), (22, .pointer (some y22)), (23, .int .i64 h23)]) (W.WP.seq (c := C32) (x := C38) (y := C33) (by kernel_rfl) <| W.WP.draw (c := C38) [0, 1, 2, 3, 4, 6, 5, 7, 8, 9] (fun E w => W.condK (W.Env.val E (.tmp 115)) (KE_S20 E w R) (KE_S21 E w R)) (by kernel_rfl) (Eq.mp (by kernel_rfl) h6) fun _ _ a hA hK => (W.WP.condK (c := C33) (x := C34) (y := C39) (o := .tmp 115) (by kernel_rfl) (fun hK => (KE_S20_ok R _ _ hK)) (fun hK => (W.WP.skip (c := C39) (by kernel_rfl) fun a hA => (KE_S21_ok R _ _ hK) a hA)) hK) a hA) (ha.cons hq18 (ha.cons hq19 (ha.cons hq20 (ha.cons hq21 (ha.cons hq22 (ha.cons hq23 ha.nil))))))
noncomputable def C40 : Code := W.Code.fst C31
/-- law.go:274 -/
abbrev S18 (all18 : W.Sl) (i19 : Int) (x20 : Addr) (g21 : Int) (w : World) (R : W.Post) : Prop :=
  (0 : Int) ≤ i19 ∧ i19 < ((all18.n : Nat) : Int) ∧ W.optP all18.a fun t101_p => ∃ t102 : W.Sl, w.cell? (t101_p.add (Int.toNat i19 * 1)) = some (t102.v) ∧ 
  Calls Try.prog n_enthymemeref38_Decode #[t102.v] w fun r_ w1 => ∃ t103_0_0 : Int, ∃ t103_0_1 : Int, ∃ t103_0_2 : W.Sl, ∃ t103_1 : Int, r_ = .returned (.tuple #[.agg #[.int .i64 t103_0_0, .int .i64 t103_0_1, t103_0_2.v], .int .i64 t103_1]) ∧ 
  let w2 := w1.alloc (.cells #[.int .i64 0, .int .i64 0, .slice none 0 0] ty_enthymemeref38_Packet)
  (w2.cell? (Addr.mk w1.heap.size 0 none)).isSome = true ∧ w2.frozen? (Addr.mk w1.heap.size 0 none) = false ∧ let w3 := w2.setCell (Addr.mk w1.heap.size 0 none) (.int .i64 t103_0_0)
  (w3.cell? ((Addr.mk w1.heap.size 0 none).add 1)).isSome = true ∧ w3.frozen? ((Addr.mk w1.heap.size 0 none).add 1) = false ∧ let w4 := w3.setCell ((Addr.mk w1.heap.size 0 none).add 1) (.int .i64 t103_0_1)
  (w4.cell? ((Addr.mk w1.heap.size 0 none).add 2)).isSome = true ∧ w4.frozen? ((Addr.mk w1.heap.size 0 none).add 2) = false ∧ let w5 := w4.setCell ((Addr.mk w1.heap.size 0 none).add 2) (t103_0_2.v)
  S19 all18 i19 x20 g21 (Addr.mk w1.heap.size 0 none) t103_1 w5 R
def KE_S18 (E : W.Env) (w : World) (R : W.Post) : Prop := W.asSlice (W.Env.get? E 18) fun all18 => W.asInt .i64 (W.Env.get? E 19) fun i19 => W.asRef (W.Env.get? E 20) fun x20 => W.asInt .i64 (W.Env.get? E 21) fun g21 => S18 all18 i19 x20 g21 w R
theorem KE_S18_ok (R : W.Post) (E : W.Env) (w : World) (h : KE_S18 E w R) : W.WP Try.prog (W.cx 117) C31 (Q5 R) E w := by
  obtain ⟨all18, hq18, h1⟩ := W.asSlice_elim h
  obtain ⟨i19, hq19, h2⟩ := W.asInt_elim h1
  obtain ⟨x20, hq20, h3⟩ := W.asRef_elim h2
  obtain ⟨g21, hq21, h4⟩ := W.asInt_elim h3
  exact fun a ha => W.WP.at (n := (W.cx 117)) (E := [(18, all18.v), (19, .int .i64 i19), (20, .pointer (some x20)), (21, .int .i64 g21)]) (W.WP.seq (c := C31) (x := C40) (y := C32) (by kernel_rfl) <| W.WP.reg (c := C40) (fun E w => KE_S19 E w R) (by kernel_rfl) (Eq.mp (by kernel_rfl) h4) fun _ _ a hA hK => (KE_S19_ok R _ _ hK) a hA) (ha.cons hq18 (ha.cons hq19 (ha.cons hq20 (ha.cons hq21 ha.nil))))
noncomputable def C41 : Code := W.Code.fst C30
/-- law.go:273 -/
abbrev S17 (all18 : W.Sl) (i19 : Int) (w : World) (R : W.Post) : Prop :=
  (0 : Int) ≤ i19 ∧ i19 < ((all18.n : Nat) : Int) ∧ W.optP all18.a fun t93_p => ∃ t94 : W.Sl, w.cell? (t93_p.add (Int.toNat i19 * 1)) = some (t94.v) ∧ 
  Calls Try.prog n_channel_Decode #[t94.v] w fun r_ w1 => ∃ t95_0_0 : Int, ∃ t95_0_1 : Int, ∃ t95_0_2 : W.Sl, ∃ t95_1 : Int, r_ = .returned (.tuple #[.agg #[.int .i64 t95_0_0, .int .i64 t95_0_1, t95_0_2.v], .int .i64 t95_1]) ∧ 
  let w2 := w1.alloc (.cells #[.int .i64 0, .int .i64 0, .slice none 0 0] ty_channel_Packet)
  (w2.cell? (Addr.mk w1.heap.size 0 none)).isSome = true ∧ w2.frozen? (Addr.mk w1.heap.size 0 none) = false ∧ let w3 := w2.setCell (Addr.mk w1.heap.size 0 none) (.int .i64 t95_0_0)
  (w3.cell? ((Addr.mk w1.heap.size 0 none).add 1)).isSome = true ∧ w3.frozen? ((Addr.mk w1.heap.size 0 none).add 1) = false ∧ let w4 := w3.setCell ((Addr.mk w1.heap.size 0 none).add 1) (.int .i64 t95_0_1)
  (w4.cell? ((Addr.mk w1.heap.size 0 none).add 2)).isSome = true ∧ w4.frozen? ((Addr.mk w1.heap.size 0 none).add 2) = false ∧ let w5 := w4.setCell ((Addr.mk w1.heap.size 0 none).add 2) (t95_0_2.v)
  S18 all18 i19 (Addr.mk w1.heap.size 0 none) t95_1 w5 R
def KE_S17 (E : W.Env) (w : World) (R : W.Post) : Prop := W.asSlice (W.Env.get? E 18) fun all18 => W.asInt .i64 (W.Env.get? E 19) fun i19 => S17 all18 i19 w R
theorem KE_S17_ok (R : W.Post) (E : W.Env) (w : World) (h : KE_S17 E w R) : W.WP Try.prog (W.cx 117) C30 (Q5 R) E w := by
  obtain ⟨all18, hq18, h1⟩ := W.asSlice_elim h
  obtain ⟨i19, hq19, h2⟩ := W.asInt_elim h1
  exact fun a ha => W.WP.at (n := (W.cx 117)) (E := [(18, all18.v), (19, .int .i64 i19)]) (W.WP.seq (c := C30) (x := C41) (y := C31) (by kernel_rfl) <| W.WP.reg (c := C41) (fun E w => KE_S18 E w R) (by kernel_rfl) (Eq.mp (by kernel_rfl) h2) fun _ _ a hA hK => (KE_S18_ok R _ _ hK) a hA) (ha.cons hq18 (ha.cons hq19 ha.nil))
abbrev Q7 (R : W.Post) : Exit → Act → World → Prop := (bodyPost Try.prog Try.f3 R)
noncomputable def C42 : Code := W.Code.fst C27
noncomputable def C43 : Code := W.Code.snd C27
/-- law.go:279 -/
abbrev S22  (w : World) (R : W.Post) : Prop :=
  Calls Try.prog n_enthymemelaw38_lives #[] w fun r_ w1 => ∃ t116 : Bool, r_ = .returned (.bool t116) ∧ 
  R (.returned (.bool t116)) w1
def KE_S22 (E : W.Env) (w : World) (R : W.Post) : Prop := S22  w R
theorem KE_S22_ok (R : W.Post) (E : W.Env) (w : World) (h : KE_S22 E w R) : W.WP Try.prog (W.cx 117) C27 (Q7 R) E w := by
  exact fun a ha => W.WP.at (n := (W.cx 117)) (E := []) (W.WP.seq (c := C27) (x := C42) (y := C43) (by kernel_rfl) <| W.WP.reg (c := C42) (fun E w => W.retVC Try.prog Try.f3 E w (fun v => R (.returned v) w)) (by kernel_rfl) (Eq.mp (by kernel_rfl) h) fun _ _ a hA hK => (W.WP.ret (c := C43) (by kernel_rfl) fun a hA => W.retVC_sound hA hK) a hA) ha.nil
noncomputable def C44 : Code := W.Code.fst C26
abbrev Q8 (R : W.Post) : Exit → Act → World → Prop := (Exit.then (W.wpx Try.prog (W.cx 117) C28 (Exit.then (W.LoopWP Try.prog (W.cx 117) C26 (Q3 R)) (Q3 R))) (Exit.then (W.LoopWP Try.prog (W.cx 117) C26 (Q3 R)) (Q3 R)))
noncomputable def C45 : Code := W.Code.fst C44
noncomputable def C46 : Code := W.Code.snd C44
noncomputable def C47 : Code := W.Code.fst C46
noncomputable def C48 : Code := W.Code.snd C46
/-- law.go:272 -/
abbrev S16 (all18 : W.Sl) (i19 : Int) (w : World) (R : W.Post) : Prop :=
  W.sel (decide (i19 < 5)) (S17 all18 i19 w R) (S22  w R)
def KE_S16 (E : W.Env) (w : World) (R : W.Post) : Prop := W.asSlice (W.Env.get? E 18) fun all18 => W.asInt .i64 (W.Env.get? E 19) fun i19 => S16 all18 i19 w R
theorem KE_S16_ok (R : W.Post) (E : W.Env) (w : World) (h : KE_S16 E w R) : W.WP Try.prog (W.cx 117) C44 (Q8 R) E w := by
  obtain ⟨all18, hq18, h1⟩ := W.asSlice_elim h
  obtain ⟨i19, hq19, h2⟩ := W.asInt_elim h1
  exact fun a ha => W.WP.at (n := (W.cx 117)) (E := [(18, all18.v), (19, .int .i64 i19)]) (W.WP.seq (c := C44) (x := C45) (y := C46) (by kernel_rfl) <| W.WP.reg (c := C45) (fun E w => W.condK (W.Env.val E (.tmp 87)) (KE_S17 E w R) (KE_S22 E w R)) (by kernel_rfl) (Eq.mp (by kernel_rfl) h2) fun _ _ a hA hK => (W.WP.condK (c := C46) (x := C47) (y := C48) (o := .tmp 87) (by kernel_rfl) (fun hK => (W.WP.skip (c := C47) (by kernel_rfl) fun a hA => (W.WP.seq (c := C28) (x := C29) (y := C35) (by kernel_rfl) (W.WP.block (c := C29) (x := C30) (id := 1) (by kernel_rfl) (KE_S17_ok R _ _ hK))) a hA)) (fun hK => (W.WP.exit (c := C48) (id := 0) (by kernel_rfl) fun a hA => (KE_S22_ok R _ _ hK) a hA)) hK) a hA) (ha.cons hq18 (ha.cons hq19 ha.nil))
theorem L15_step (all18 : W.Sl) (i19 : Int) (w : World) (R : W.Post) (h : S16 all18 i19 w R) : L15 all18 i19 w R :=
  W.LP.step (n := (W.cx 117)) (c := C26) (E := [(18, all18.v), (19, .int .i64 i19)]) (w := w) (W.WP.seq (c := C26) (x := C44) (y := C28) (by kernel_rfl) (KE_S16_ok R _ _ (Eq.mp (by kernel_rfl) h)))
noncomputable def C49 : Code := W.Code.fst C23
/-- law.go:272 -/
abbrev S14 (all18 : W.Sl) (w : World) (R : W.Post) : Prop :=
  L15 all18 0 w R
def KE_S14 (E : W.Env) (w : World) (R : W.Post) : Prop := W.asSlice (W.Env.get? E 18) fun all18 => S14 all18 w R
theorem KE_S14_ok (R : W.Post) (E : W.Env) (w : World) (h : KE_S14 E w R) : W.WP Try.prog (W.cx 117) C23 (Q2 R) E w := by
  obtain ⟨all18, hq18, h1⟩ := W.asSlice_elim h
  exact fun a ha => W.WP.at (n := (W.cx 117)) (E := [(18, all18.v)]) (W.WP.seq (c := C23) (x := C49) (y := C24) (by kernel_rfl) <| W.WP.reg (c := C49) (fun E w => KE_L15 E w R) (by kernel_rfl) (Eq.mp (by kernel_rfl) h1) fun _ _ a hA hK => (W.WP.block (c := C24) (x := C25) (id := 0) (by kernel_rfl) (W.WP.loop (c := C25) (x := C26) (by kernel_rfl) (KE_L15_ok R _ _ hK))) a hA) (ha.cons hq18 ha.nil)
noncomputable def C50 : Code := W.Code.fst C21
/-- law.go:271 -/
abbrev S13 (b9 whole14 turned16 few17 : W.Sl) (w : World) (R : W.Post) : Prop :=
  Calls Try.prog n_enthymemeref38_Whole #[few17.v] w fun r_ w1 => ∃ t84 : W.Sl, r_ = .returned (t84.v) ∧ 
  let w2 := w1.alloc (.cells #[whole14.v, b9.v, turned16.v, few17.v, t84.v] ty_sl_uint8)
  S14 ⟨some (Addr.mk w1.heap.size 0 none), 5, 5⟩ w2 R
def KE_S13 (E : W.Env) (w : World) (R : W.Post) : Prop := W.asSlice (W.Env.get? E 9) fun b9 => W.asSlice (W.Env.get? E 14) fun whole14 => W.asSlice (W.Env.get? E 16) fun turned16 => W.asSlice (W.Env.get? E 17) fun few17 => S13 b9 whole14 turned16 few17 w R
theorem KE_S13_ok (R : W.Post) (E : W.Env) (w : World) (h : KE_S13 E w R) : W.WP Try.prog (W.cx 117) C21 (Q7 R) E w := by
  obtain ⟨b9, hq9, h1⟩ := W.asSlice_elim h
  obtain ⟨whole14, hq14, h2⟩ := W.asSlice_elim h1
  obtain ⟨turned16, hq16, h3⟩ := W.asSlice_elim h2
  obtain ⟨few17, hq17, h4⟩ := W.asSlice_elim h3
  exact fun a ha => W.WP.at (n := (W.cx 117)) (E := [(9, b9.v), (14, whole14.v), (16, turned16.v), (17, few17.v)]) (W.WP.seq (c := C21) (x := C50) (y := C22) (by kernel_rfl) <| W.WP.reg (c := C50) (fun E w => KE_S14 E w R) (by kernel_rfl) (Eq.mp (by kernel_rfl) h4) fun _ _ a hA hK => (W.WP.seq (c := C22) (x := C23) (y := C27) (by kernel_rfl) (KE_S14_ok R _ _ hK)) a hA) (ha.cons hq9 (ha.cons hq14 (ha.cons hq16 (ha.cons hq17 ha.nil))))
noncomputable def C51 : Code := W.Code.fst C20
/-- law.go:270 -/
abbrev S12 (raw3 b9 whole14 turned16 : W.Sl) (w : World) (R : W.Post) : Prop :=
  Calls Try.prog n_enthymemeref01_Few #[raw3.v, .int .i64 40] w fun r_ w1 => ∃ t78 : W.Sl, r_ = .returned (t78.v) ∧ 
  S13 b9 whole14 turned16 t78 w1 R
def KE_S12 (E : W.Env) (w : World) (R : W.Post) : Prop := W.asSlice (W.Env.get? E 3) fun raw3 => W.asSlice (W.Env.get? E 9) fun b9 => W.asSlice (W.Env.get? E 14) fun whole14 => W.asSlice (W.Env.get? E 16) fun turned16 => S12 raw3 b9 whole14 turned16 w R
theorem KE_S12_ok (R : W.Post) (E : W.Env) (w : World) (h : KE_S12 E w R) : W.WP Try.prog (W.cx 117) C20 (Q7 R) E w := by
  obtain ⟨raw3, hq3, h1⟩ := W.asSlice_elim h
  obtain ⟨b9, hq9, h2⟩ := W.asSlice_elim h1
  obtain ⟨whole14, hq14, h3⟩ := W.asSlice_elim h2
  obtain ⟨turned16, hq16, h4⟩ := W.asSlice_elim h3
  exact fun a ha => W.WP.at (n := (W.cx 117)) (E := [(3, raw3.v), (9, b9.v), (14, whole14.v), (16, turned16.v)]) (W.WP.seq (c := C20) (x := C51) (y := C21) (by kernel_rfl) <| W.WP.reg (c := C51) (fun E w => KE_S13 E w R) (by kernel_rfl) (Eq.mp (by kernel_rfl) h4) fun _ _ a hA hK => (KE_S13_ok R _ _ hK) a hA) (ha.cons hq3 (ha.cons hq9 (ha.cons hq14 (ha.cons hq16 ha.nil))))
noncomputable def C52 : Code := W.Code.fst C19
/-- law.go:269 -/
abbrev S11 (at1 c2 : Int) (raw3 b9 whole14 turned16 : W.Sl) (w : World) (R : W.Post) : Prop :=
  Calls Try.prog n_enthymemeref01_Around #[.int .i64 at1, .int .i64 ((whole14.n : Nat) : Int)] w fun r_ w1 => ∃ t74 : Int, r_ = .returned (.int .i64 t74) ∧ 
  (0 : Int) ≤ t74 ∧ t74 < ((turned16.n : Nat) : Int) ∧ W.optP turned16.a fun t76_p => (w1.cell? (t76_p.add (Int.toNat t74 * 1))).isSome = true ∧ w1.frozen? (t76_p.add (Int.toNat t74 * 1)) = false ∧ let w2 := w1.setCell (t76_p.add (Int.toNat t74 * 1)) (.int .u8 c2)
  S12 raw3 b9 whole14 turned16 w2 R
def KE_S11 (E : W.Env) (w : World) (R : W.Post) : Prop := W.asInt .i64 (W.Env.get? E 1) fun at1 => W.asInt .u8 (W.Env.get? E 2) fun c2 => W.asSlice (W.Env.get? E 3) fun raw3 => W.asSlice (W.Env.get? E 9) fun b9 => W.asSlice (W.Env.get? E 14) fun whole14 => W.asSlice (W.Env.get? E 16) fun turned16 => S11 at1 c2 raw3 b9 whole14 turned16 w R
theorem KE_S11_ok (R : W.Post) (E : W.Env) (w : World) (h : KE_S11 E w R) : W.WP Try.prog (W.cx 117) C19 (Q7 R) E w := by
  obtain ⟨at1, hq1, h1⟩ := W.asInt_elim h
  obtain ⟨c2, hq2, h2⟩ := W.asInt_elim h1
  obtain ⟨raw3, hq3, h3⟩ := W.asSlice_elim h2
  obtain ⟨b9, hq9, h4⟩ := W.asSlice_elim h3
  obtain ⟨whole14, hq14, h5⟩ := W.asSlice_elim h4
  obtain ⟨turned16, hq16, h6⟩ := W.asSlice_elim h5
  exact fun a ha => W.WP.at (n := (W.cx 117)) (E := [(1, .int .i64 at1), (2, .int .u8 c2), (3, raw3.v), (9, b9.v), (14, whole14.v), (16, turned16.v)]) (W.WP.seq (c := C19) (x := C52) (y := C20) (by kernel_rfl) <| W.WP.reg (c := C52) (fun E w => KE_S12 E w R) (by kernel_rfl) (Eq.mp (by kernel_rfl) h6) fun _ _ a hA hK => (KE_S12_ok R _ _ hK) a hA) (ha.cons hq1 (ha.cons hq2 (ha.cons hq3 (ha.cons hq9 (ha.cons hq14 (ha.cons hq16 ha.nil))))))
noncomputable def C53 : Code := W.Code.fst C16
/-- law.go:268 -/
abbrev S10 (at1 c2 : Int) (raw3 b9 whole14 : W.Sl) (w : World) (R : W.Post) : Prop :=
  Calls Try.prog n_enthymemeref01_Few #[whole14.v, .int .i64 ((whole14.n : Nat) : Int)] w fun r_ w1 => ∃ t69 : W.Sl, r_ = .returned (t69.v) ∧ 
  S11 at1 c2 raw3 b9 whole14 t69 w1 R
def KE_S10 (E : W.Env) (w : World) (R : W.Post) : Prop := W.asInt .i64 (W.Env.get? E 1) fun at1 => W.asInt .u8 (W.Env.get? E 2) fun c2 => W.asSlice (W.Env.get? E 3) fun raw3 => W.asSlice (W.Env.get? E 9) fun b9 => W.asSlice (W.Env.get? E 14) fun whole14 => S10 at1 c2 raw3 b9 whole14 w R
theorem KE_S10_ok (R : W.Post) (E : W.Env) (w : World) (h : KE_S10 E w R) : W.WP Try.prog (W.cx 117) C16 (Q7 R) E w := by
  obtain ⟨at1, hq1, h1⟩ := W.asInt_elim h
  obtain ⟨c2, hq2, h2⟩ := W.asInt_elim h1
  obtain ⟨raw3, hq3, h3⟩ := W.asSlice_elim h2
  obtain ⟨b9, hq9, h4⟩ := W.asSlice_elim h3
  obtain ⟨whole14, hq14, h5⟩ := W.asSlice_elim h4
  exact fun a ha => W.WP.at (n := (W.cx 117)) (E := [(1, .int .i64 at1), (2, .int .u8 c2), (3, raw3.v), (9, b9.v), (14, whole14.v)]) (W.WP.seq (c := C16) (x := C53) (y := C19) (by kernel_rfl) <| W.WP.reg (c := C53) (fun E w => KE_S11 E w R) (by kernel_rfl) (Eq.mp (by kernel_rfl) h5) fun _ _ a hA hK => (KE_S11_ok R _ _ hK) a hA) (ha.cons hq1 (ha.cons hq2 (ha.cons hq3 (ha.cons hq9 (ha.cons hq14 ha.nil)))))
noncomputable def C54 : Code := W.Code.fst C13
noncomputable def C55 : Code := W.Code.snd C14
/-- law.go:265 -/
abbrev S8 (at1 c2 : Int) (raw3 b9 whole14 : W.Sl) (w : World) (R : W.Post) : Prop :=
  W.sel (((whole14.n : Nat) : Int) == 0) (S9  w R) (S10 at1 c2 raw3 b9 whole14 w R)
def KE_S8 (E : W.Env) (w : World) (R : W.Post) : Prop := W.asInt .i64 (W.Env.get? E 1) fun at1 => W.asInt .u8 (W.Env.get? E 2) fun c2 => W.asSlice (W.Env.get? E 3) fun raw3 => W.asSlice (W.Env.get? E 9) fun b9 => W.asSlice (W.Env.get? E 14) fun whole14 => S8 at1 c2 raw3 b9 whole14 w R
theorem KE_S8_ok (R : W.Post) (E : W.Env) (w : World) (h : KE_S8 E w R) : W.WP Try.prog (W.cx 117) C13 (Q1 R) E w := by
  obtain ⟨at1, hq1, h1⟩ := W.asInt_elim h
  obtain ⟨c2, hq2, h2⟩ := W.asInt_elim h1
  obtain ⟨raw3, hq3, h3⟩ := W.asSlice_elim h2
  obtain ⟨b9, hq9, h4⟩ := W.asSlice_elim h3
  obtain ⟨whole14, hq14, h5⟩ := W.asSlice_elim h4
  exact fun a ha => W.WP.at (n := (W.cx 117)) (E := [(1, .int .i64 at1), (2, .int .u8 c2), (3, raw3.v), (9, b9.v), (14, whole14.v)]) (W.WP.seq (c := C13) (x := C54) (y := C14) (by kernel_rfl) <| W.WP.reg (c := C54) (fun E w => W.condK (W.Env.val E (.tmp 65)) (KE_S9 E w R) (KE_S10 E w R)) (by kernel_rfl) (Eq.mp (by kernel_rfl) h5) fun _ _ a hA hK => (W.WP.condK (c := C14) (x := C15) (y := C55) (o := .tmp 65) (by kernel_rfl) (fun hK => (KE_S9_ok R _ _ hK)) (fun hK => (W.WP.skip (c := C55) (by kernel_rfl) fun a hA => (KE_S10_ok R _ _ hK) a hA)) hK) a hA) (ha.cons hq1 (ha.cons hq2 (ha.cons hq3 (ha.cons hq9 (ha.cons hq14 ha.nil)))))
noncomputable def C56 : Code := W.Code.fst C11
/-- law.go:264 -/
abbrev S7 (at1 c2 : Int) (raw3 b9 : W.Sl) (good13 : Addr) (w : World) (R : W.Post) : Prop :=
  ∃ t59_0 : Int, ∃ t59_1 : Int, ∃ t59_2 : W.Sl, w.cell? (good13.add 0) = some (.int .i64 t59_0) ∧ w.cell? (good13.add 1) = some (.int .i64 t59_1) ∧ w.cell? (good13.add 2) = some (t59_2.v) ∧ 
  Calls Try.prog n_enthymemeref38_Encode #[.agg #[.int .i64 t59_0, .int .i64 t59_1, t59_2.v]] w fun r_ w1 => ∃ t60_0 : W.Sl, ∃ t60_1 : Int, r_ = .returned (.tuple #[t60_0.v, .int .i64 t60_1]) ∧ 
  S8 at1 c2 raw3 b9 t60_0 w1 R
def KE_S7 (E : W.Env) (w : World) (R : W.Post) : Prop := W.asInt .i64 (W.Env.get? E 1) fun at1 => W.asInt .u8 (W.Env.get? E 2) fun c2 => W.asSlice (W.Env.get? E 3) fun raw3 => W.asSlice (W.Env.get? E 9) fun b9 => W.asRef (W.Env.get? E 13) fun good13 => S7 at1 c2 raw3 b9 good13 w R
theorem KE_S7_ok (R : W.Post) (E : W.Env) (w : World) (h : KE_S7 E w R) : W.WP Try.prog (W.cx 117) C11 (Q7 R) E w := by
  obtain ⟨at1, hq1, h1⟩ := W.asInt_elim h
  obtain ⟨c2, hq2, h2⟩ := W.asInt_elim h1
  obtain ⟨raw3, hq3, h3⟩ := W.asSlice_elim h2
  obtain ⟨b9, hq9, h4⟩ := W.asSlice_elim h3
  obtain ⟨good13, hq13, h5⟩ := W.asRef_elim h4
  exact fun a ha => W.WP.at (n := (W.cx 117)) (E := [(1, .int .i64 at1), (2, .int .u8 c2), (3, raw3.v), (9, b9.v), (13, .pointer (some good13))]) (W.WP.seq (c := C11) (x := C56) (y := C12) (by kernel_rfl) <| W.WP.reg (c := C56) (fun E w => KE_S8 E w R) (by kernel_rfl) (Eq.mp (by kernel_rfl) h5) fun _ _ a hA hK => (W.WP.seq (c := C12) (x := C13) (y := C16) (by kernel_rfl) (KE_S8_ok R _ _ hK)) a hA) (ha.cons hq1 (ha.cons hq2 (ha.cons hq3 (ha.cons hq9 (ha.cons hq13 ha.nil)))))
noncomputable def C57 : Code := W.Code.fst C8
/-- law.go:263 -/
abbrev S6 (at1 c2 : Int) (raw3 : W.Sl) (p4 : Addr) (b9 : W.Sl) (w : World) (R : W.Post) : Prop :=
  ∃ t49 : Int, w.drew.cell? (p4.add 0) = some (.int .i64 t49) ∧ 
  ∃ t53 : Int, w.drew.cell? (p4.add 1) = some (.int .i64 t53) ∧ 
  ∃ t56 : W.Sl, w.drew.cell? (p4.add 2) = some (t56.v) ∧ 
  ((Calls Try.prog n_enthymemeref01_Around #[.int .i64 t49, .int .i64 300] w.drew fun r_ w1 => ∃ t50 : Int, r_ = .returned (.int .i64 t50) ∧ 
  w1.cell? (p4.add 2) = some (t56.v) ∧ w1.cell? (p4.add 1) = some (.int .i64 t53) ∧ ((Calls Try.prog n_enthymemeref01_Around #[.int .i64 t53, .int .i64 300] w1 fun r_ w2 => ∃ t54 : Int, r_ = .returned (.int .i64 t54) ∧ 
  w2.cell? (p4.add 2) = some (t56.v) ∧ let w3 := w2.alloc (.cells #[.int .i64 0, .int .i64 0, .slice none 0 0] ty_enthymemeref38_Packet)
  w3.cell? (p4.add 2) = some (t56.v) ∧ (w3.cell? (Addr.mk w2.heap.size 0 none)).isSome = true ∧ w3.frozen? (Addr.mk w2.heap.size 0 none) = false ∧ let w4 := w3.setCell (Addr.mk w2.heap.size 0 none) (.int .i64 (IntKind.wrap .i64 (1 + t50)))
  (w4.cell? ((Addr.mk w2.heap.size 0 none).add 1)).isSome = true ∧ w4.frozen? ((Addr.mk w2.heap.size 0 none).add 1) = false ∧ let w5 := w4.setCell ((Addr.mk w2.heap.size 0 none).add 1) (.int .i64 t54)
  (w5.cell? ((Addr.mk w2.heap.size 0 none).add 2)).isSome = true ∧ w5.frozen? ((Addr.mk w2.heap.size 0 none).add 2) = false ∧ let w6 := w5.setCell ((Addr.mk w2.heap.size 0 none).add 2) (t56.v)
  S7 at1 c2 raw3 b9 (Addr.mk w2.heap.size 0 none) w6 R) ∧ (let w7 := w1.alloc (.cells #[.int .i64 0, .int .i64 0, .slice none 0 0] ty_enthymemeref38_Packet)
  w7.cell? (p4.add 2) = some (t56.v) ∧ w7.cell? (p4.add 1) = some (.int .i64 t53) ∧ Calls Try.prog n_enthymemeref01_Around #[.int .i64 t53, .int .i64 300] w7 fun r_ w8 => ∃ t54 : Int, r_ = .returned (.int .i64 t54) ∧ 
  w8.cell? (p4.add 2) = some (t56.v) ∧ (w8.cell? (Addr.mk w1.heap.size 0 none)).isSome = true ∧ w8.frozen? (Addr.mk w1.heap.size 0 none) = false ∧ let w9 := w8.setCell (Addr.mk w1.heap.size 0 none) (.int .i64 (IntKind.wrap .i64 (1 + t50)))
  (w9.cell? ((Addr.mk w1.heap.size 0 none).add 1)).isSome = true ∧ w9.frozen? ((Addr.mk w1.heap.size 0 none).add 1) = false ∧ let w10 := w9.setCell ((Addr.mk w1.heap.size 0 none).add 1) (.int .i64 t54)
  (w10.cell? ((Addr.mk w1.heap.size 0 none).add 2)).isSome = true ∧ w10.frozen? ((Addr.mk w1.heap.size 0 none).add 2) = false ∧ let w11 := w10.setCell ((Addr.mk w1.heap.size 0 none).add 2) (t56.v)
  S7 at1 c2 raw3 b9 (Addr.mk w1.heap.size 0 none) w11 R))) ∧ (let w12 := w.drew.alloc (.cells #[.int .i64 0, .int .i64 0, .slice none 0 0] ty_enthymemeref38_Packet)
  w12.cell? (p4.add 2) = some (t56.v) ∧ w12.cell? (p4.add 1) = some (.int .i64 t53) ∧ w12.cell? (p4.add 0) = some (.int .i64 t49) ∧ Calls Try.prog n_enthymemeref01_Around #[.int .i64 t49, .int .i64 300] w12 fun r_ w13 => ∃ t50 : Int, r_ = .returned (.int .i64 t50) ∧ 
  w13.cell? (p4.add 2) = some (t56.v) ∧ w13.cell? (p4.add 1) = some (.int .i64 t53) ∧ Calls Try.prog n_enthymemeref01_Around #[.int .i64 t53, .int .i64 300] w13 fun r_ w14 => ∃ t54 : Int, r_ = .returned (.int .i64 t54) ∧ 
  w14.cell? (p4.add 2) = some (t56.v) ∧ (w14.cell? (Addr.mk w.drew.heap.size 0 none)).isSome = true ∧ w14.frozen? (Addr.mk w.drew.heap.size 0 none) = false ∧ let w15 := w14.setCell (Addr.mk w.drew.heap.size 0 none) (.int .i64 (IntKind.wrap .i64 (1 + t50)))
  (w15.cell? ((Addr.mk w.drew.heap.size 0 none).add 1)).isSome = true ∧ w15.frozen? ((Addr.mk w.drew.heap.size 0 none).add 1) = false ∧ let w16 := w15.setCell ((Addr.mk w.drew.heap.size 0 none).add 1) (.int .i64 t54)
  (w16.cell? ((Addr.mk w.drew.heap.size 0 none).add 2)).isSome = true ∧ w16.frozen? ((Addr.mk w.drew.heap.size 0 none).add 2) = false ∧ let w17 := w16.setCell ((Addr.mk w.drew.heap.size 0 none).add 2) (t56.v)
  S7 at1 c2 raw3 b9 (Addr.mk w.drew.heap.size 0 none) w17 R))
def KE_S6 (E : W.Env) (w : World) (R : W.Post) : Prop := W.asInt .i64 (W.Env.get? E 1) fun at1 => W.asInt .u8 (W.Env.get? E 2) fun c2 => W.asSlice (W.Env.get? E 3) fun raw3 => W.asRef (W.Env.get? E 4) fun p4 => W.asSlice (W.Env.get? E 9) fun b9 => S6 at1 c2 raw3 p4 b9 w R
theorem KE_S6_ok (R : W.Post) (E : W.Env) (w : World) (h : KE_S6 E w R) : W.WP Try.prog (W.cx 117) C8 (Q7 R) E w := by
  obtain ⟨at1, hq1, h1⟩ := W.asInt_elim h
  obtain ⟨c2, hq2, h2⟩ := W.asInt_elim h1
  obtain ⟨raw3, hq3, h3⟩ := W.asSlice_elim h2
  obtain ⟨p4, hq4, h4⟩ := W.asRef_elim h3
  obtain ⟨b9, hq9, h5⟩ := W.asSlice_elim h4
  exact fun a ha => W.WP.at (n := (W.cx 117)) (E := [(1, .int .i64 at1), (2, .int .u8 c2), (3, raw3.v), (4, .pointer (some p4)), (9, b9.v)]) (W.WP.seq (c := C8) (x := C57) (y := C11) (by kernel_rfl) <| W.WP.tree (c := C57) (.one 0 (.one 1 (.one 4 (.one 5 (.one 7 (.one 8 (.fork (.one 2 (.one 3 (.fork (.one 6 (.one 9 (.one 10 (.one 11 .nil)))) (.one 10 (.one 6 (.one 9 (.one 11 .nil))))))) (.one 10 (.one 2 (.one 3 (.one 6 (.one 9 (.one 11 .nil))))))))))))) (fun E w => KE_S7 E w R) (by kernel_rfl) (Eq.mp (by kernel_rfl) h5) fun _ _ a hA hK => (KE_S7_ok R _ _ hK) a hA) (ha.cons hq1 (ha.cons hq2 (ha.cons hq3 (ha.cons hq4 (ha.cons hq9 ha.nil)))))
noncomputable def C58 : Code := W.Code.fst C5
noncomputable def C59 : Code := W.Code.snd C6
/-- law.go:260 -/
abbrev S4 (at1 c2 : Int) (raw3 : W.Sl) (p4 : Addr) (b9 : W.Sl) (e10 : Int) (want11 : W.Sl) (f12 : Int) (w : World) (R : W.Post) : Prop :=
  W.sel (e10 != f12) (S5  w R) (Calls Try.prog n_enthymemeref01_SameBytes #[b9.v, want11.v] w fun r_ w1 => ∃ t45 : Bool, r_ = .returned (.bool t45) ∧ 
  W.sel (!t45) (S5  w1 R) (S6 at1 c2 raw3 p4 b9 w1 R))
def KE_S4 (E : W.Env) (w : World) (R : W.Post) : Prop := W.asInt .i64 (W.Env.get? E 1) fun at1 => W.asInt .u8 (W.Env.get? E 2) fun c2 => W.asSlice (W.Env.get? E 3) fun raw3 => W.asRef (W.Env.get? E 4) fun p4 => W.asSlice (W.Env.get? E 9) fun b9 => W.asInt .i64 (W.Env.get? E 10) fun e10 => W.asSlice (W.Env.get? E 11) fun want11 => W.asInt .i64 (W.Env.get? E 12) fun f12 => S4 at1 c2 raw3 p4 b9 e10 want11 f12 w R
theorem KE_S4_ok (R : W.Post) (E : W.Env) (w : World) (h : KE_S4 E w R) : W.WP Try.prog (W.cx 117) C5 (Q0 R) E w := by
  obtain ⟨at1, hq1, h1⟩ := W.asInt_elim h
  obtain ⟨c2, hq2, h2⟩ := W.asInt_elim h1
  obtain ⟨raw3, hq3, h3⟩ := W.asSlice_elim h2
  obtain ⟨p4, hq4, h4⟩ := W.asRef_elim h3
  obtain ⟨b9, hq9, h5⟩ := W.asSlice_elim h4
  obtain ⟨e10, hq10, h6⟩ := W.asInt_elim h5
  obtain ⟨want11, hq11, h7⟩ := W.asSlice_elim h6
  obtain ⟨f12, hq12, h8⟩ := W.asInt_elim h7
  exact fun a ha => W.WP.at (n := (W.cx 117)) (E := [(1, .int .i64 at1), (2, .int .u8 c2), (3, raw3.v), (4, .pointer (some p4)), (9, b9.v), (10, .int .i64 e10), (11, want11.v), (12, .int .i64 f12)]) (W.WP.seq (c := C5) (x := C58) (y := C6) (by kernel_rfl) <| W.WP.reg (c := C58) (fun E w => W.condK (W.Env.val E (.tmp 47)) (KE_S5 E w R) (KE_S6 E w R)) (by kernel_rfl) (Eq.mp (by kernel_rfl) h8) fun _ _ a hA hK => (W.WP.condK (c := C6) (x := C7) (y := C59) (o := .tmp 47) (by kernel_rfl) (fun hK => (KE_S5_ok R _ _ hK)) (fun hK => (W.WP.skip (c := C59) (by kernel_rfl) fun a hA => (KE_S6_ok R _ _ hK) a hA)) hK) a hA) (ha.cons hq1 (ha.cons hq2 (ha.cons hq3 (ha.cons hq4 (ha.cons hq9 (ha.cons hq10 (ha.cons hq11 (ha.cons hq12 ha.nil))))))))
noncomputable def C60 : Code := W.Code.fst C3
/-- law.go:259 -/
abbrev S3 (at1 c2 : Int) (raw3 : W.Sl) (p4 : Addr) (b9 : W.Sl) (e10 : Int) (w : World) (R : W.Post) : Prop :=
  ∃ t34_0 : Int, ∃ t34_1 : Int, ∃ t34_2 : W.Sl, w.cell? (p4.add 0) = some (.int .i64 t34_0) ∧ w.cell? (p4.add 1) = some (.int .i64 t34_1) ∧ w.cell? (p4.add 2) = some (t34_2.v) ∧ 
  Calls Try.prog n_enthymemelaw38_plain #[.agg #[.int .i64 t34_0, .int .i64 t34_1, t34_2.v]] w fun r_ w1 => ∃ t35_0 : Int, ∃ t35_1 : Int, ∃ t35_2 : W.Sl, r_ = .returned (.agg #[.int .i64 t35_0, .int .i64 t35_1, t35_2.v]) ∧ 
  Calls Try.prog n_enthymemeref38_Encode #[.agg #[.int .i64 t35_0, .int .i64 t35_1, t35_2.v]] w1 fun r_ w2 => ∃ t36_0 : W.Sl, ∃ t36_1 : Int, r_ = .returned (.tuple #[t36_0.v, .int .i64 t36_1]) ∧ 
  S4 at1 c2 raw3 p4 b9 e10 t36_0 t36_1 w2 R
def KE_S3 (E : W.Env) (w : World) (R : W.Post) : Prop := W.asInt .i64 (W.Env.get? E 1) fun at1 => W.asInt .u8 (W.Env.get? E 2) fun c2 => W.asSlice (W.Env.get? E 3) fun raw3 => W.asRef (W.Env.get? E 4) fun p4 => W.asSlice (W.Env.get? E 9) fun b9 => W.asInt .i64 (W.Env.get? E 10) fun e10 => S3 at1 c2 raw3 p4 b9 e10 w R
theorem KE_S3_ok (R : W.Post) (E : W.Env) (w : World) (h : KE_S3 E w R) : W.WP Try.prog (W.cx 117) C3 (Q7 R) E w := by
  obtain ⟨at1, hq1, h1⟩ := W.asInt_elim h
  obtain ⟨c2, hq2, h2⟩ := W.asInt_elim h1
  obtain ⟨raw3, hq3, h3⟩ := W.asSlice_elim h2
  obtain ⟨p4, hq4, h4⟩ := W.asRef_elim h3
  obtain ⟨b9, hq9, h5⟩ := W.asSlice_elim h4
  obtain ⟨e10, hq10, h6⟩ := W.asInt_elim h5
  exact fun a ha => W.WP.at (n := (W.cx 117)) (E := [(1, .int .i64 at1), (2, .int .u8 c2), (3, raw3.v), (4, .pointer (some p4)), (9, b9.v), (10, .int .i64 e10)]) (W.WP.seq (c := C3) (x := C60) (y := C4) (by kernel_rfl) <| W.WP.reg (c := C60) (fun E w => KE_S4 E w R) (by kernel_rfl) (Eq.mp (by kernel_rfl) h6) fun _ _ a hA hK => (W.WP.seq (c := C4) (x := C5) (y := C8) (by kernel_rfl) (KE_S4_ok R _ _ hK)) a hA) (ha.cons hq1 (ha.cons hq2 (ha.cons hq3 (ha.cons hq4 (ha.cons hq9 (ha.cons hq10 ha.nil))))))
noncomputable def C61 : Code := W.Code.fst C2
/-- law.go:258 -/
abbrev S2 (at1 c2 : Int) (raw3 : W.Sl) (p4 : Addr) (w : World) (R : W.Post) : Prop :=
  ∃ t29_0 : Int, ∃ t29_1 : Int, ∃ t29_2 : W.Sl, w.cell? (p4.add 0) = some (.int .i64 t29_0) ∧ w.cell? (p4.add 1) = some (.int .i64 t29_1) ∧ w.cell? (p4.add 2) = some (t29_2.v) ∧ 
  Calls Try.prog n_channel_Encode #[.agg #[.int .i64 t29_0, .int .i64 t29_1, t29_2.v]] w fun r_ w1 => ∃ t30_0 : W.Sl, ∃ t30_1 : Int, r_ = .returned (.tuple #[t30_0.v, .int .i64 t30_1]) ∧ 
  S3 at1 c2 raw3 p4 t30_0 t30_1 w1 R
def KE_S2 (E : W.Env) (w : World) (R : W.Post) : Prop := W.asInt .i64 (W.Env.get? E 1) fun at1 => W.asInt .u8 (W.Env.get? E 2) fun c2 => W.asSlice (W.Env.get? E 3) fun raw3 => W.asRef (W.Env.get? E 4) fun p4 => S2 at1 c2 raw3 p4 w R
theorem KE_S2_ok (R : W.Post) (E : W.Env) (w : World) (h : KE_S2 E w R) : W.WP Try.prog (W.cx 117) C2 (Q7 R) E w := by
  obtain ⟨at1, hq1, h1⟩ := W.asInt_elim h
  obtain ⟨c2, hq2, h2⟩ := W.asInt_elim h1
  obtain ⟨raw3, hq3, h3⟩ := W.asSlice_elim h2
  obtain ⟨p4, hq4, h4⟩ := W.asRef_elim h3
  exact fun a ha => W.WP.at (n := (W.cx 117)) (E := [(1, .int .i64 at1), (2, .int .u8 c2), (3, raw3.v), (4, .pointer (some p4))]) (W.WP.seq (c := C2) (x := C61) (y := C3) (by kernel_rfl) <| W.WP.reg (c := C61) (fun E w => KE_S3 E w R) (by kernel_rfl) (Eq.mp (by kernel_rfl) h4) fun _ _ a hA hK => (KE_S3_ok R _ _ hK) a hA) (ha.cons hq1 (ha.cons hq2 (ha.cons hq3 (ha.cons hq4 ha.nil))))
noncomputable def C62 : Code := W.Code.fst C1
/-- law.go:257 -/
abbrev S1 (at1 c2 : Int) (raw3 : W.Sl) (p4 : Addr) (w : World) (R : W.Post) : Prop :=
  ∃ t25 : W.Sl, w.cell? (p4.add 2) = some (t25.v) ∧ 
  Calls Try.prog n_enthymemeref01_Few #[t25.v, .int .i64 40] w fun r_ w1 => ∃ t26 : W.Sl, r_ = .returned (t26.v) ∧ 
  (w1.cell? (p4.add 2)).isSome = true ∧ w1.frozen? (p4.add 2) = false ∧ let w2 := w1.setCell (p4.add 2) (t26.v)
  S2 at1 c2 raw3 p4 w2 R
def KE_S1 (E : W.Env) (w : World) (R : W.Post) : Prop := W.asInt .i64 (W.Env.get? E 1) fun at1 => W.asInt .u8 (W.Env.get? E 2) fun c2 => W.asSlice (W.Env.get? E 3) fun raw3 => W.asRef (W.Env.get? E 4) fun p4 => S1 at1 c2 raw3 p4 w R
theorem KE_S1_ok (R : W.Post) (E : W.Env) (w : World) (h : KE_S1 E w R) : W.WP Try.prog (W.cx 117) C1 (Q7 R) E w := by
  obtain ⟨at1, hq1, h1⟩ := W.asInt_elim h
  obtain ⟨c2, hq2, h2⟩ := W.asInt_elim h1
  obtain ⟨raw3, hq3, h3⟩ := W.asSlice_elim h2
  obtain ⟨p4, hq4, h4⟩ := W.asRef_elim h3
  exact fun a ha => W.WP.at (n := (W.cx 117)) (E := [(1, .int .i64 at1), (2, .int .u8 c2), (3, raw3.v), (4, .pointer (some p4))]) (W.WP.seq (c := C1) (x := C62) (y := C2) (by kernel_rfl) <| W.WP.reg (c := C62) (fun E w => KE_S2 E w R) (by kernel_rfl) (Eq.mp (by kernel_rfl) h4) fun _ _ a hA hK => (KE_S2_ok R _ _ hK) a hA) (ha.cons hq1 (ha.cons hq2 (ha.cons hq3 (ha.cons hq4 ha.nil))))
noncomputable def C63 : Code := W.Code.fst C0
/-- law.go:256 -/
abbrev S0 (p0_0 p0_1 : Int) (p0_2 : W.Sl) (at1 c2 : Int) (raw3 : W.Sl) (w : World) (R : W.Post) : Prop :=
  let w1 := w.alloc (.cells #[.int .i64 p0_0, .int .i64 p0_1, p0_2.v] ty_channel_Packet)
  S1 at1 c2 raw3 (Addr.mk w.heap.size 0 none) w1 R
def KE_S0 (E : W.Env) (w : World) (R : W.Post) : Prop := W.asAgg (W.Env.get? E 0) fun p0_l0 => W.asCons p0_l0 fun p0_v0 p0_l1 => W.asInt .i64 (some p0_v0) fun p0_0 => W.asCons p0_l1 fun p0_v1 p0_l2 => W.asInt .i64 (some p0_v1) fun p0_1 => W.asCons p0_l2 fun p0_v2 p0_l3 => W.asSlice (some p0_v2) fun p0_2 => W.asNil p0_l3 <| W.asInt .i64 (W.Env.get? E 1) fun at1 => W.asInt .u8 (W.Env.get? E 2) fun c2 => W.asSlice (W.Env.get? E 3) fun raw3 => S0 p0_0 p0_1 p0_2 at1 c2 raw3 w R
theorem KE_S0_ok (R : W.Post) (E : W.Env) (w : World) (h : KE_S0 E w R) : W.WP Try.prog (W.cx 117) C0 (Q7 R) E w := by
  obtain ⟨p0_l0, hq0, h1⟩ := W.asAgg_elim h
  obtain ⟨p0_v0, p0_l1, rfl, h2⟩ := W.asCons_elim h1
  obtain ⟨p0_0, ex, h3⟩ := W.asInt_elim h2
  obtain rfl := Option.some.inj ex
  obtain ⟨p0_v1, p0_l2, rfl, h4⟩ := W.asCons_elim h3
  obtain ⟨p0_1, ex, h5⟩ := W.asInt_elim h4
  obtain rfl := Option.some.inj ex
  obtain ⟨p0_v2, p0_l3, rfl, h6⟩ := W.asCons_elim h5
  obtain ⟨p0_2, ex, h7⟩ := W.asSlice_elim h6
  obtain rfl := Option.some.inj ex
  obtain ⟨rfl, h8⟩ := W.asNil_elim h7
  obtain ⟨at1, hq1, h9⟩ := W.asInt_elim h8
  obtain ⟨c2, hq2, h10⟩ := W.asInt_elim h9
  obtain ⟨raw3, hq3, h11⟩ := W.asSlice_elim h10
  exact fun a ha => W.WP.at (n := (W.cx 117)) (E := [(0, .agg #[.int .i64 p0_0, .int .i64 p0_1, p0_2.v]), (1, .int .i64 at1), (2, .int .u8 c2), (3, raw3.v)]) (W.WP.seq (c := C0) (x := C63) (y := C1) (by kernel_rfl) <| W.WP.reg (c := C63) (fun E w => KE_S1 E w R) (by kernel_rfl) (Eq.mp (by kernel_rfl) h11) fun _ _ a hA hK => (KE_S1_ok R _ _ hK) a hA) (ha.cons hq0 (ha.cons hq1 (ha.cons hq2 (ha.cons hq3 ha.nil))))
/-- enthymeme/enthymemelaw38.ChannelEncoding -/
theorem ok (p0_0 p0_1 : Int) (p0_2 : W.Sl) (at1 c2 : Int) (raw3 : W.Sl) (w : World) (R : W.Post) (h : S0 p0_0 p0_1 p0_2 at1 c2 raw3 w R) : Calls Try.prog n_enthymemelaw38_ChannelEncoding #[.agg #[.int .i64 p0_0, .int .i64 p0_1, p0_2.v], .int .i64 at1, .int .u8 c2, raw3.v] w R :=
  W.calls_of_WP' (fn := Try.f3) (c := C0) (args := [.agg #[.int .i64 p0_0, .int .i64 p0_1, p0_2.v], .int .i64 at1, .int .u8 c2, raw3.v]) (by kernel_rfl) (by kernel_rfl) (by kernel_rfl) (KE_S0_ok R _ _ (Eq.mp (by kernel_rfl) h))
end enthymemelaw38_ChannelEncoding
end Go.Proofs.Ytpfomlenbhocpaa

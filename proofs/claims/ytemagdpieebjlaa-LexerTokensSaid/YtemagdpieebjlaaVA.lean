/- Printed by a program of ours (vcgen.py) from the dump: the conditions of the functions, and that they suffice. -/
import Derived.Test.YtemagdpieebjlaaVR
set_option linter.unusedVariables false
set_option maxRecDepth 100000
namespace Go.Proofs.Ytemagdpieebjlaa
open Go
namespace enthymemelaw09_LexerTokens
noncomputable def C0 : Code := (Try.f3.body).getD .skip
noncomputable def C1 : Code := W.Code.snd C0
noncomputable def C2 : Code := W.Code.snd C1
noncomputable def C3 : Code := W.Code.snd C2
noncomputable def C4 : Code := W.Code.snd C3
noncomputable def C5 : Code := W.Code.snd C4
noncomputable def C6 : Code := W.Code.fst C5
noncomputable def C7 : Code := W.Code.snd C6
noncomputable def C8 : Code := W.Code.fst C7
noncomputable def C9 : Code := W.Code.fst C8
noncomputable def C10 : Code := W.Code.snd C5
abbrev Q0 (R : W.Post) : Exit → Act → World → Prop := (Exit.then (W.wpx Try.prog (W.cx 113) C10 (bodyPost Try.prog Try.f3 R)) (bodyPost Try.prog Try.f3 R))
abbrev Q1 (R : W.Post) : Exit → Act → World → Prop := (Exit.inBlock 0 (Q0 R))
/-- the head of the loop, law.go:43 -/
def L7 (all11 : W.Sl) (i12 : Int) (w : World) (R : W.Post) : Prop := W.LP Try.prog (W.cx 113) C9 (Q1 R) [(11, all11.v), (12, .int .i64 i12)] w
def KE_L7 (E : W.Env) (w : World) (R : W.Post) : Prop := W.asSlice (W.Env.get? E 11) fun all11 => W.asInt .i64 (W.Env.get? E 12) fun i12 => L7 all11 i12 w R
theorem KE_L7_ok (R : W.Post) (E : W.Env) (w : World) (h : KE_L7 E w R) : W.LP Try.prog (W.cx 113) C9 (Q1 R) E w := by
  obtain ⟨all11, hq11, h1⟩ := W.asSlice_elim h
  obtain ⟨i12, hq12, h2⟩ := W.asInt_elim h1
  intro a ha
  exact h2 a (ha.cons hq11 (ha.cons hq12 ha.nil))
noncomputable def C11 : Code := W.Code.snd C9
noncomputable def C12 : Code := W.Code.fst C11
noncomputable def C13 : Code := W.Code.fst C12
noncomputable def C14 : Code := W.Code.snd C13
noncomputable def C15 : Code := W.Code.snd C14
noncomputable def C16 : Code := W.Code.snd C15
noncomputable def C17 : Code := W.Code.fst C16
noncomputable def C18 : Code := W.Code.snd C11
abbrev Q2 (R : W.Post) : Exit → Act → World → Prop := (Exit.then (W.wpx Try.prog (W.cx 113) C18 (Exit.then (W.LoopWP Try.prog (W.cx 113) C9 (Q1 R)) (Q1 R))) (Exit.then (W.LoopWP Try.prog (W.cx 113) C9 (Q1 R)) (Q1 R)))
abbrev Q3 (R : W.Post) : Exit → Act → World → Prop := (Exit.inBlock 1 (Q2 R))
noncomputable def C19 : Code := W.Code.fst C17
noncomputable def C20 : Code := W.Code.snd C17
/-- law.go:47 -/
abbrev S12  (w : World) (R : W.Post) : Prop :=
  R (.returned (.bool false)) w
def KE_S12 (E : W.Env) (w : World) (R : W.Post) : Prop := S12  w R
theorem KE_S12_ok (R : W.Post) (E : W.Env) (w : World) (h : KE_S12 E w R) : W.WP Try.prog (W.cx 113) C17 (Q3 R) E w := by
  exact fun a ha => W.WP.at (n := (W.cx 113)) (E := []) (W.WP.seq (c := C17) (x := C19) (y := C20) (by kernel_rfl) <| W.WP.reg (c := C19) (fun E w => W.retVC Try.prog Try.f3 E w (fun v => R (.returned v) w)) (by kernel_rfl) (Eq.mp (by kernel_rfl) h) fun _ _ a hA hK => (W.WP.ret (c := C20) (by kernel_rfl) fun a hA => W.retVC_sound hA hK) a hA) ha.nil
abbrev Q4 (R : W.Post) : Exit → Act → World → Prop := (Exit.then (W.LoopWP Try.prog (W.cx 113) C9 (Q1 R)) (Q1 R))
/-- law.go:43 -/
abbrev S13 (all11 : W.Sl) (i12 : Int) (w : World) (R : W.Post) : Prop :=
  L7 all11 (IntKind.wrap .i64 (i12 + 1)) w R
def KE_S13 (E : W.Env) (w : World) (R : W.Post) : Prop := W.asSlice (W.Env.get? E 11) fun all11 => W.asInt .i64 (W.Env.get? E 12) fun i12 => S13 all11 i12 w R
theorem KE_S13_ok (R : W.Post) (E : W.Env) (w : World) (h : KE_S13 E w R) : W.WP Try.prog (W.cx 113) C18 (Q4 R) E w := by
  obtain ⟨all11, hq11, h1⟩ := W.asSlice_elim h
  obtain ⟨i12, hq12, h2⟩ := W.asInt_elim h1
  exact fun a ha => W.WP.at (n := (W.cx 113)) (E := [(11, all11.v), (12, .int .i64 i12)]) (W.WP.reg (c := C18) (fun E w => KE_L7 E w R) (by kernel_rfl) (Eq.mp (by kernel_rfl) h2) fun _ _ a hA hK => KE_L7_ok R _ _ hK a hA) (ha.cons hq11 (ha.cons hq12 ha.nil))
noncomputable def C21 : Code := W.Code.fst C15
noncomputable def C22 : Code := W.Code.snd C16
/-- law.go:46 -/
abbrev S11 (all11 : W.Sl) (i12 : Int) (a13 : W.Sl) (n14 e15 : Int) (b16 : W.Sl) (m17 f18 : Int) (w : World) (R : W.Post) : Prop :=
  W.sel (n14 != m17) (S12  w R) (W.sel (e15 != f18) (S12  w R) (Calls Try.prog n_enthymemelaw09_plain #[a13.v] w fun r_ w1 => ∃ t91 : W.Sl, r_ = .returned (t91.v) ∧ 
  Calls Try.prog n_enthymemeref09_Same #[t91.v, b16.v] w1 fun r_ w2 => ∃ t93 : Bool, r_ = .returned (.bool t93) ∧ 
  W.sel (!t93) (S12  w2 R) (S13 all11 i12 w2 R)))
def KE_S11 (E : W.Env) (w : World) (R : W.Post) : Prop := W.asSlice (W.Env.get? E 11) fun all11 => W.asInt .i64 (W.Env.get? E 12) fun i12 => W.asSlice (W.Env.get? E 13) fun a13 => W.asInt .i64 (W.Env.get? E 14) fun n14 => W.asInt .i64 (W.Env.get? E 15) fun e15 => W.asSlice (W.Env.get? E 16) fun b16 => W.asInt .i64 (W.Env.get? E 17) fun m17 => W.asInt .i64 (W.Env.get? E 18) fun f18 => S11 all11 i12 a13 n14 e15 b16 m17 f18 w R
theorem KE_S11_ok (R : W.Post) (E : W.Env) (w : World) (h : KE_S11 E w R) : W.WP Try.prog (W.cx 113) C15 (Q3 R) E w := by
  obtain ⟨all11, hq11, h1⟩ := W.asSlice_elim h
  obtain ⟨i12, hq12, h2⟩ := W.asInt_elim h1
  obtain ⟨a13, hq13, h3⟩ := W.asSlice_elim h2
  obtain ⟨n14, hq14, h4⟩ := W.asInt_elim h3
  obtain ⟨e15, hq15, h5⟩ := W.asInt_elim h4
  obtain ⟨b16, hq16, h6⟩ := W.asSlice_elim h5
  obtain ⟨m17, hq17, h7⟩ := W.asInt_elim h6
  obtain ⟨f18, hq18, h8⟩ := W.asInt_elim h7
  exact fun a ha => W.WP.at (n := (W.cx 113)) (E := [(11, all11.v), (12, .int .i64 i12), (13, a13.v), (14, .int .i64 n14), (15, .int .i64 e15), (16, b16.v), (17, .int .i64 m17), (18, .int .i64 f18)]) (W.WP.seq (c := C15) (x := C21) (y := C16) (by kernel_rfl) <| W.WP.reg (c := C21) (fun E w => W.condK (W.Env.val E (.tmp 95)) (KE_S12 E w R) (KE_S13 E w R)) (by kernel_rfl) (Eq.mp (by kernel_rfl) h8) fun _ _ a hA hK => (W.WP.condK (c := C16) (x := C17) (y := C22) (o := .tmp 95) (by kernel_rfl) (fun hK => (KE_S12_ok R _ _ hK)) (fun hK => (W.WP.skip (c := C22) (by kernel_rfl) fun a hA => (KE_S13_ok R _ _ hK) a hA)) hK) a hA) (ha.cons hq11 (ha.cons hq12 (ha.cons hq13 (ha.cons hq14 (ha.cons hq15 (ha.cons hq16 (ha.cons hq17 (ha.cons hq18 ha.nil))))))))
noncomputable def C23 : Code := W.Code.fst C14
/-- law.go:45 -/
abbrev S10 (all11 : W.Sl) (i12 : Int) (a13 : W.Sl) (n14 e15 : Int) (w : World) (R : W.Post) : Prop :=
  (0 : Int) ≤ i12 ∧ i12 < ((all11.n : Nat) : Int) ∧ W.optP all11.a fun t75_p => ∃ t76 : ByteArray, w.cell? (t75_p.add (Int.toNat i12 * 1)) = some (.string t76) ∧ 
  Calls Try.prog n_enthymemeref09_Tokens #[.string t76] w fun r_ w1 => ∃ t77_0 : W.Sl, ∃ t77_1 : Int, ∃ t77_2 : Int, r_ = .returned (.tuple #[t77_0.v, .int .i64 t77_1, .int .i64 t77_2]) ∧ 
  S11 all11 i12 a13 n14 e15 t77_0 t77_1 t77_2 w1 R
def KE_S10 (E : W.Env) (w : World) (R : W.Post) : Prop := W.asSlice (W.Env.get? E 11) fun all11 => W.asInt .i64 (W.Env.get? E 12) fun i12 => W.asSlice (W.Env.get? E 13) fun a13 => W.asInt .i64 (W.Env.get? E 14) fun n14 => W.asInt .i64 (W.Env.get? E 15) fun e15 => S10 all11 i12 a13 n14 e15 w R
theorem KE_S10_ok (R : W.Post) (E : W.Env) (w : World) (h : KE_S10 E w R) : W.WP Try.prog (W.cx 113) C14 (Q3 R) E w := by
  obtain ⟨all11, hq11, h1⟩ := W.asSlice_elim h
  obtain ⟨i12, hq12, h2⟩ := W.asInt_elim h1
  obtain ⟨a13, hq13, h3⟩ := W.asSlice_elim h2
  obtain ⟨n14, hq14, h4⟩ := W.asInt_elim h3
  obtain ⟨e15, hq15, h5⟩ := W.asInt_elim h4
  exact fun a ha => W.WP.at (n := (W.cx 113)) (E := [(11, all11.v), (12, .int .i64 i12), (13, a13.v), (14, .int .i64 n14), (15, .int .i64 e15)]) (W.WP.seq (c := C14) (x := C23) (y := C15) (by kernel_rfl) <| W.WP.reg (c := C23) (fun E w => KE_S11 E w R) (by kernel_rfl) (Eq.mp (by kernel_rfl) h5) fun _ _ a hA hK => (KE_S11_ok R _ _ hK) a hA) (ha.cons hq11 (ha.cons hq12 (ha.cons hq13 (ha.cons hq14 (ha.cons hq15 ha.nil)))))
noncomputable def C24 : Code := W.Code.fst C13
/-- law.go:44 -/
abbrev S9 (all11 : W.Sl) (i12 : Int) (w : World) (R : W.Post) : Prop :=
  (0 : Int) ≤ i12 ∧ i12 < ((all11.n : Nat) : Int) ∧ W.optP all11.a fun t66_p => ∃ t67 : ByteArray, w.cell? (t66_p.add (Int.toNat i12 * 1)) = some (.string t67) ∧ 
  Calls Try.prog n_lexer_Tokens #[.string t67] w fun r_ w1 => ∃ t68_0 : W.Sl, ∃ t68_1 : Int, ∃ t68_2 : Int, r_ = .returned (.tuple #[t68_0.v, .int .i64 t68_1, .int .i64 t68_2]) ∧ 
  S10 all11 i12 t68_0 t68_1 t68_2 w1 R
def KE_S9 (E : W.Env) (w : World) (R : W.Post) : Prop := W.asSlice (W.Env.get? E 11) fun all11 => W.asInt .i64 (W.Env.get? E 12) fun i12 => S9 all11 i12 w R
theorem KE_S9_ok (R : W.Post) (E : W.Env) (w : World) (h : KE_S9 E w R) : W.WP Try.prog (W.cx 113) C13 (Q3 R) E w := by
  obtain ⟨all11, hq11, h1⟩ := W.asSlice_elim h
  obtain ⟨i12, hq12, h2⟩ := W.asInt_elim h1
  exact fun a ha => W.WP.at (n := (W.cx 113)) (E := [(11, all11.v), (12, .int .i64 i12)]) (W.WP.seq (c := C13) (x := C24) (y := C14) (by kernel_rfl) <| W.WP.reg (c := C24) (fun E w => KE_S10 E w R) (by kernel_rfl) (Eq.mp (by kernel_rfl) h2) fun _ _ a hA hK => (KE_S10_ok R _ _ hK) a hA) (ha.cons hq11 (ha.cons hq12 ha.nil))
noncomputable def C25 : Code := W.Code.snd C10
noncomputable def C26 : Code := W.Code.snd C25
abbrev Q5 (R : W.Post) : Exit → Act → World → Prop := (bodyPost Try.prog Try.f3 R)
noncomputable def C27 : Code := W.Code.fst C26
noncomputable def C28 : Code := W.Code.snd C26
/-- law.go:52 -/
abbrev S16 (n21 e22 : Int) (w : World) (R : W.Post) : Prop :=
  W.sel (n21 == 65536) (W.sel (e22 == 4) (Calls Try.prog n_enthymemelaw09_lives #[] w fun r_ w1 => ∃ t111 : Bool, r_ = .returned (.bool t111) ∧ 
  R (.returned (.bool t111)) w1) (R (.returned (.bool false)) w)) (R (.returned (.bool false)) w)
def KE_S16 (E : W.Env) (w : World) (R : W.Post) : Prop := W.asInt .i64 (W.Env.get? E 21) fun n21 => W.asInt .i64 (W.Env.get? E 22) fun e22 => S16 n21 e22 w R
theorem KE_S16_ok (R : W.Post) (E : W.Env) (w : World) (h : KE_S16 E w R) : W.WP Try.prog (W.cx 113) C26 (Q5 R) E w := by
  obtain ⟨n21, hq21, h1⟩ := W.asInt_elim h
  obtain ⟨e22, hq22, h2⟩ := W.asInt_elim h1
  exact fun a ha => W.WP.at (n := (W.cx 113)) (E := [(21, .int .i64 n21), (22, .int .i64 e22)]) (W.WP.seq (c := C26) (x := C27) (y := C28) (by kernel_rfl) <| W.WP.reg (c := C27) (fun E w => W.retVC Try.prog Try.f3 E w (fun v => R (.returned v) w)) (by kernel_rfl) (Eq.mp (by kernel_rfl) h2) fun _ _ a hA hK => (W.WP.ret (c := C28) (by kernel_rfl) fun a hA => W.retVC_sound hA hK) a hA) (ha.cons hq21 (ha.cons hq22 ha.nil))
noncomputable def C29 : Code := W.Code.fst C25
/-- law.go:51 -/
abbrev S15 (long19 : ByteArray) (w : World) (R : W.Post) : Prop :=
  Calls Try.prog n_lexer_Tokens #[.string long19] w fun r_ w1 => ∃ t100_0 : W.Sl, ∃ t100_1 : Int, ∃ t100_2 : Int, r_ = .returned (.tuple #[t100_0.v, .int .i64 t100_1, .int .i64 t100_2]) ∧ 
  S16 t100_1 t100_2 w1 R
def KE_S15 (E : W.Env) (w : World) (R : W.Post) : Prop := W.asStr (W.Env.get? E 19) fun long19 => S15 long19 w R
theorem KE_S15_ok (R : W.Post) (E : W.Env) (w : World) (h : KE_S15 E w R) : W.WP Try.prog (W.cx 113) C25 (Q5 R) E w := by
  obtain ⟨long19, hq19, h1⟩ := W.asStr_elim h
  exact fun a ha => W.WP.at (n := (W.cx 113)) (E := [(19, .string long19)]) (W.WP.seq (c := C25) (x := C29) (y := C26) (by kernel_rfl) <| W.WP.reg (c := C29) (fun E w => KE_S16 E w R) (by kernel_rfl) (Eq.mp (by kernel_rfl) h1) fun _ _ a hA hK => (KE_S16_ok R _ _ hK) a hA) (ha.cons hq19 ha.nil)
noncomputable def C30 : Code := W.Code.fst C10
/-- law.go:50 -/
abbrev S14  (w : World) (R : W.Post) : Prop :=
  ∃ (t96 : W.Sl) (w1 : World), Sem.run Try.prog (Instr.makeSlice ty_sl_uint8 (.int .i64 65537) (.int .i64 65537)) w = .ok (t96.v) w1 ∧ ∃ t97 : ByteArray, Sem.run Try.prog (Go.convert ty_sl_uint8 ty_string (t96.v)) w1 = .ok (.string t97) w1 ∧ S15 t97 w1 R
def KE_S14 (E : W.Env) (w : World) (R : W.Post) : Prop := S14  w R
theorem KE_S14_ok (R : W.Post) (E : W.Env) (w : World) (h : KE_S14 E w R) : W.WP Try.prog (W.cx 113) C10 (Q5 R) E w := by
  exact fun a ha => W.WP.at (n := (W.cx 113)) (E := []) (W.WP.seq (c := C10) (x := C30) (y := C25) (by kernel_rfl) <| W.WP.reg (c := C30) (fun E w => KE_S15 E w R) (by kernel_rfl) (Eq.mp (by kernel_rfl) h) fun _ _ a hA hK => (KE_S15_ok R _ _ hK) a hA) ha.nil
noncomputable def C31 : Code := W.Code.fst C9
abbrev Q6 (R : W.Post) : Exit → Act → World → Prop := (Exit.then (W.wpx Try.prog (W.cx 113) C11 (Exit.then (W.LoopWP Try.prog (W.cx 113) C9 (Q1 R)) (Q1 R))) (Exit.then (W.LoopWP Try.prog (W.cx 113) C9 (Q1 R)) (Q1 R)))
noncomputable def C32 : Code := W.Code.fst C31
noncomputable def C33 : Code := W.Code.snd C31
noncomputable def C34 : Code := W.Code.fst C33
noncomputable def C35 : Code := W.Code.snd C33
/-- law.go:43 -/
abbrev S8 (all11 : W.Sl) (i12 : Int) (w : World) (R : W.Post) : Prop :=
  W.sel (decide (i12 < ((all11.n : Nat) : Int))) (S9 all11 i12 w R) (S14  w R)
def KE_S8 (E : W.Env) (w : World) (R : W.Post) : Prop := W.asSlice (W.Env.get? E 11) fun all11 => W.asInt .i64 (W.Env.get? E 12) fun i12 => S8 all11 i12 w R
theorem KE_S8_ok (R : W.Post) (E : W.Env) (w : World) (h : KE_S8 E w R) : W.WP Try.prog (W.cx 113) C31 (Q6 R) E w := by
  obtain ⟨all11, hq11, h1⟩ := W.asSlice_elim h
  obtain ⟨i12, hq12, h2⟩ := W.asInt_elim h1
  exact fun a ha => W.WP.at (n := (W.cx 113)) (E := [(11, all11.v), (12, .int .i64 i12)]) (W.WP.seq (c := C31) (x := C32) (y := C33) (by kernel_rfl) <| W.WP.reg (c := C32) (fun E w => W.condK (W.Env.val E (.tmp 60)) (KE_S9 E w R) (KE_S14 E w R)) (by kernel_rfl) (Eq.mp (by kernel_rfl) h2) fun _ _ a hA hK => (W.WP.condK (c := C33) (x := C34) (y := C35) (o := .tmp 60) (by kernel_rfl) (fun hK => (W.WP.skip (c := C34) (by kernel_rfl) fun a hA => (W.WP.seq (c := C11) (x := C12) (y := C18) (by kernel_rfl) (W.WP.block (c := C12) (x := C13) (id := 1) (by kernel_rfl) (KE_S9_ok R _ _ hK))) a hA)) (fun hK => (W.WP.exit (c := C35) (id := 0) (by kernel_rfl) fun a hA => (KE_S14_ok R _ _ hK) a hA)) hK) a hA) (ha.cons hq11 (ha.cons hq12 ha.nil))
theorem L7_step (all11 : W.Sl) (i12 : Int) (w : World) (R : W.Post) (h : S8 all11 i12 w R) : L7 all11 i12 w R :=
  W.LP.step (n := (W.cx 113)) (c := C9) (E := [(11, all11.v), (12, .int .i64 i12)]) (w := w) (W.WP.seq (c := C9) (x := C31) (y := C11) (by kernel_rfl) (KE_S8_ok R _ _ (Eq.mp (by kernel_rfl) h)))
noncomputable def C36 : Code := W.Code.fst C6
/-- law.go:43 -/
abbrev S6 (all11 : W.Sl) (w : World) (R : W.Post) : Prop :=
  L7 all11 0 w R
def KE_S6 (E : W.Env) (w : World) (R : W.Post) : Prop := W.asSlice (W.Env.get? E 11) fun all11 => S6 all11 w R
theorem KE_S6_ok (R : W.Post) (E : W.Env) (w : World) (h : KE_S6 E w R) : W.WP Try.prog (W.cx 113) C6 (Q0 R) E w := by
  obtain ⟨all11, hq11, h1⟩ := W.asSlice_elim h
  exact fun a ha => W.WP.at (n := (W.cx 113)) (E := [(11, all11.v)]) (W.WP.seq (c := C6) (x := C36) (y := C7) (by kernel_rfl) <| W.WP.reg (c := C36) (fun E w => KE_L7 E w R) (by kernel_rfl) (Eq.mp (by kernel_rfl) h1) fun _ _ a hA hK => (W.WP.block (c := C7) (x := C8) (id := 0) (by kernel_rfl) (W.WP.loop (c := C8) (x := C9) (by kernel_rfl) (KE_L7_ok R _ _ hK))) a hA) (ha.cons hq11 ha.nil)
noncomputable def C37 : Code := W.Code.fst C4
/-- law.go:42 -/
abbrev S5 (l0 : W.Sl) (s1 : ByteArray) (at2 : Int) (text9 : ByteArray) (bent10 : W.Sl) (w : World) (R : W.Post) : Prop :=
  W.drV w fun w1 => ∃ t39 : ByteArray, Sem.run Try.prog (Go.convert ty_sl_uint8 ty_string (bent10.v)) w1 = .ok (.string t39) w1 ∧ Calls Try.prog n_enthymemeref01_Around #[.int .i64 at2, .int .i64 (IntKind.wrap .i64 (((text9.size : Nat) : Int) + 1))] w1 fun r_ w2 => ∃ t45 : Int, r_ = .returned (.int .i64 t45) ∧ 
  Sem.run Try.prog (Go.convert ty_sl_uint8 ty_string (bent10.v)) w2 = .ok (.string t39) w2 ∧ (0 : Int) ≤ t45 ∧ t45 ≤ ((text9.size : Nat) : Int) ∧ Calls Try.prog n_enthymemeref01_Short #[.string s1, .int .i64 60] w2 fun r_ w3 => ∃ t48 : ByteArray, r_ = .returned (.string t48) ∧ 
  Sem.run Try.prog (Go.convert ty_sl_uint8 ty_string (bent10.v)) w3 = .ok (.string t39) w3 ∧ Calls Try.prog n_enthymemeref09_Good #[l0.v, .int .i64 12] w3 fun r_ w4 => ∃ t50 : ByteArray, r_ = .returned (.string t50) ∧ 
  Sem.run Try.prog (Go.convert ty_sl_uint8 ty_string (bent10.v)) w4 = .ok (.string t39) w4 ∧ Calls Try.prog n_enthymemeref09_Good #[l0.v, .int .i64 9] w4 fun r_ w5 => ∃ t52 : ByteArray, r_ = .returned (.string t52) ∧ 
  Sem.run Try.prog (Go.convert ty_sl_uint8 ty_string (bent10.v)) w5 = .ok (.string t39) w5 ∧ Calls Try.prog n_enthymemeref01_Short #[.string s1, .int .i64 5] w5 fun r_ w6 => ∃ t54 : ByteArray, r_ = .returned (.string t54) ∧ 
  Sem.run Try.prog (Go.convert ty_sl_uint8 ty_string (bent10.v)) w6 = .ok (.string t39) w6 ∧ ¬ (((t52.size + t54.size : Nat) : Int) > IntKind.i64.max) ∧ W.nwV w6 (.cells #[.string text9, .string t39, .string (text9.extract 0 (Int.toNat t45)), .string t48, .string t50, .string (t52 ++ t54), .string (ByteArray.mk #[])] ty_string) fun w7 => 
  S6 ⟨some (Addr.mk w6.heap.size 0 none), 7, 7⟩ w7 R
def KE_S5 (E : W.Env) (w : World) (R : W.Post) : Prop := W.asSlice (W.Env.get? E 0) fun l0 => W.asStr (W.Env.get? E 1) fun s1 => W.asInt .i64 (W.Env.get? E 2) fun at2 => W.asStr (W.Env.get? E 9) fun text9 => W.asSlice (W.Env.get? E 10) fun bent10 => S5 l0 s1 at2 text9 bent10 w R
theorem KE_S5_ok (R : W.Post) (E : W.Env) (w : World) (h : KE_S5 E w R) : W.WP Try.prog (W.cx 113) C4 (Q5 R) E w := by
  obtain ⟨l0, hq0, h1⟩ := W.asSlice_elim h
  obtain ⟨s1, hq1, h2⟩ := W.asStr_elim h1
  obtain ⟨at2, hq2, h3⟩ := W.asInt_elim h2
  obtain ⟨text9, hq9, h4⟩ := W.asStr_elim h3
  obtain ⟨bent10, hq10, h5⟩ := W.asSlice_elim h4
  exact fun a ha => W.WP.at (n := (W.cx 113)) (E := [(0, l0.v), (1, .string s1), (2, .int .i64 at2), (9, .string text9), (10, bent10.v)]) (W.WP.seq (c := C4) (x := C37) (y := C5) (by kernel_rfl) <| W.WP.draw (c := C37) [0, 1, 2, 3, 4, 5, 6, 7, 10, 12, 14, 16, 8, 9, 11, 13, 15, 17, 18, 19, 20] (fun E w => KE_S6 E w R) (by kernel_rfl) (Eq.mp (by kernel_rfl) h5) fun _ _ a hA hK => (W.WP.seq (c := C5) (x := C6) (y := C10) (by kernel_rfl) (KE_S6_ok R _ _ hK)) a hA) (ha.cons hq0 (ha.cons hq1 (ha.cons hq2 (ha.cons hq9 (ha.cons hq10 ha.nil)))))
noncomputable def C38 : Code := W.Code.fst C3
noncomputable def C39 : Code := W.Code.snd C38
noncomputable def C40 : Code := W.Code.fst C39
abbrev Q7 (R : W.Post) : Exit → Act → World → Prop := (Exit.then (W.wpx Try.prog (W.cx 113) C4 (bodyPost Try.prog Try.f3 R)) (bodyPost Try.prog Try.f3 R))
/-- law.go:40 -/
abbrev S4 (l0 : W.Sl) (s1 : ByteArray) (at2 c3 : Int) (text9 : ByteArray) (bent10 : W.Sl) (w : World) (R : W.Post) : Prop :=
  Calls Try.prog n_enthymemeref01_Around #[.int .i64 at2, .int .i64 ((bent10.n : Nat) : Int)] w fun r_ w1 => ∃ t34 : Int, r_ = .returned (.int .i64 t34) ∧ 
  (0 : Int) ≤ t34 ∧ t34 < ((bent10.n : Nat) : Int) ∧ W.optP bent10.a fun t36_p => W.stV w1 (t36_p.add (Int.toNat t34 * 1)) (.int .u8 c3) fun w2 => 
  S5 l0 s1 at2 text9 bent10 w2 R
def KE_S4 (E : W.Env) (w : World) (R : W.Post) : Prop := W.asSlice (W.Env.get? E 0) fun l0 => W.asStr (W.Env.get? E 1) fun s1 => W.asInt .i64 (W.Env.get? E 2) fun at2 => W.asInt .u8 (W.Env.get? E 3) fun c3 => W.asStr (W.Env.get? E 9) fun text9 => W.asSlice (W.Env.get? E 10) fun bent10 => S4 l0 s1 at2 c3 text9 bent10 w R
theorem KE_S4_ok (R : W.Post) (E : W.Env) (w : World) (h : KE_S4 E w R) : W.WP Try.prog (W.cx 113) C40 (Q7 R) E w := by
  obtain ⟨l0, hq0, h1⟩ := W.asSlice_elim h
  obtain ⟨s1, hq1, h2⟩ := W.asStr_elim h1
  obtain ⟨at2, hq2, h3⟩ := W.asInt_elim h2
  obtain ⟨c3, hq3, h4⟩ := W.asInt_elim h3
  obtain ⟨text9, hq9, h5⟩ := W.asStr_elim h4
  obtain ⟨bent10, hq10, h6⟩ := W.asSlice_elim h5
  exact fun a ha => W.WP.at (n := (W.cx 113)) (E := [(0, l0.v), (1, .string s1), (2, .int .i64 at2), (3, .int .u8 c3), (9, .string text9), (10, bent10.v)]) (W.WP.reg (c := C40) (fun E w => KE_S5 E w R) (by kernel_rfl) (Eq.mp (by kernel_rfl) h6) fun _ _ a hA hK => (KE_S5_ok R _ _ hK) a hA) (ha.cons hq0 (ha.cons hq1 (ha.cons hq2 (ha.cons hq3 (ha.cons hq9 (ha.cons hq10 ha.nil))))))
noncomputable def C41 : Code := W.Code.fst C38
noncomputable def C42 : Code := W.Code.snd C39
/-- law.go:39 -/
abbrev S3 (l0 : W.Sl) (s1 : ByteArray) (at2 c3 : Int) (text9 : ByteArray) (bent10 : W.Sl) (w : World) (R : W.Post) : Prop :=
  W.sel (decide (((bent10.n : Nat) : Int) > 0)) (S4 l0 s1 at2 c3 text9 bent10 w R) (S5 l0 s1 at2 text9 bent10 w R)
def KE_S3 (E : W.Env) (w : World) (R : W.Post) : Prop := W.asSlice (W.Env.get? E 0) fun l0 => W.asStr (W.Env.get? E 1) fun s1 => W.asInt .i64 (W.Env.get? E 2) fun at2 => W.asInt .u8 (W.Env.get? E 3) fun c3 => W.asStr (W.Env.get? E 9) fun text9 => W.asSlice (W.Env.get? E 10) fun bent10 => S3 l0 s1 at2 c3 text9 bent10 w R
theorem KE_S3_ok (R : W.Post) (E : W.Env) (w : World) (h : KE_S3 E w R) : W.WP Try.prog (W.cx 113) C38 (Q7 R) E w := by
  obtain ⟨l0, hq0, h1⟩ := W.asSlice_elim h
  obtain ⟨s1, hq1, h2⟩ := W.asStr_elim h1
  obtain ⟨at2, hq2, h3⟩ := W.asInt_elim h2
  obtain ⟨c3, hq3, h4⟩ := W.asInt_elim h3
  obtain ⟨text9, hq9, h5⟩ := W.asStr_elim h4
  obtain ⟨bent10, hq10, h6⟩ := W.asSlice_elim h5
  exact fun a ha => W.WP.at (n := (W.cx 113)) (E := [(0, l0.v), (1, .string s1), (2, .int .i64 at2), (3, .int .u8 c3), (9, .string text9), (10, bent10.v)]) (W.WP.seq (c := C38) (x := C41) (y := C39) (by kernel_rfl) <| W.WP.reg (c := C41) (fun E w => W.condK (W.Env.val E (.tmp 29)) (KE_S4 E w R) (KE_S5 E w R)) (by kernel_rfl) (Eq.mp (by kernel_rfl) h6) fun _ _ a hA hK => (W.WP.condK (c := C39) (x := C40) (y := C42) (o := .tmp 29) (by kernel_rfl) (fun hK => (KE_S4_ok R _ _ hK)) (fun hK => (W.WP.skip (c := C42) (by kernel_rfl) fun a hA => (KE_S5_ok R _ _ hK) a hA)) hK) a hA) (ha.cons hq0 (ha.cons hq1 (ha.cons hq2 (ha.cons hq3 (ha.cons hq9 (ha.cons hq10 ha.nil))))))
noncomputable def C43 : Code := W.Code.fst C2
/-- law.go:38 -/
abbrev S2 (l0 : W.Sl) (s1 : ByteArray) (at2 c3 : Int) (text9 : ByteArray) (w : World) (R : W.Post) : Prop :=
  ∃ (t26 : W.Sl) (w1 : World), Sem.run Try.prog (Go.convert ty_string ty_sl_uint8 (.string text9)) w = .ok (t26.v) w1 ∧ S3 l0 s1 at2 c3 text9 t26 w1 R
def KE_S2 (E : W.Env) (w : World) (R : W.Post) : Prop := W.asSlice (W.Env.get? E 0) fun l0 => W.asStr (W.Env.get? E 1) fun s1 => W.asInt .i64 (W.Env.get? E 2) fun at2 => W.asInt .u8 (W.Env.get? E 3) fun c3 => W.asStr (W.Env.get? E 9) fun text9 => S2 l0 s1 at2 c3 text9 w R
theorem KE_S2_ok (R : W.Post) (E : W.Env) (w : World) (h : KE_S2 E w R) : W.WP Try.prog (W.cx 113) C2 (Q5 R) E w := by
  obtain ⟨l0, hq0, h1⟩ := W.asSlice_elim h
  obtain ⟨s1, hq1, h2⟩ := W.asStr_elim h1
  obtain ⟨at2, hq2, h3⟩ := W.asInt_elim h2
  obtain ⟨c3, hq3, h4⟩ := W.asInt_elim h3
  obtain ⟨text9, hq9, h5⟩ := W.asStr_elim h4
  exact fun a ha => W.WP.at (n := (W.cx 113)) (E := [(0, l0.v), (1, .string s1), (2, .int .i64 at2), (3, .int .u8 c3), (9, .string text9)]) (W.WP.seq (c := C2) (x := C43) (y := C3) (by kernel_rfl) <| W.WP.reg (c := C43) (fun E w => KE_S3 E w R) (by kernel_rfl) (Eq.mp (by kernel_rfl) h5) fun _ _ a hA hK => (W.WP.seq (c := C3) (x := C38) (y := C4) (by kernel_rfl) (KE_S3_ok R _ _ hK)) a hA) (ha.cons hq0 (ha.cons hq1 (ha.cons hq2 (ha.cons hq3 (ha.cons hq9 ha.nil)))))
noncomputable def C44 : Code := W.Code.fst C1
/-- law.go:37 -/
abbrev S1 (l0 : W.Sl) (s1 : ByteArray) (at2 c3 : Int) (w : World) (R : W.Post) : Prop :=
  Calls Try.prog n_enthymemeref09_Some #[l0.v, .int .i64 12] w fun r_ w1 => ∃ t24 : ByteArray, r_ = .returned (.string t24) ∧ 
  S2 l0 s1 at2 c3 t24 w1 R
def KE_S1 (E : W.Env) (w : World) (R : W.Post) : Prop := W.asSlice (W.Env.get? E 0) fun l0 => W.asStr (W.Env.get? E 1) fun s1 => W.asInt .i64 (W.Env.get? E 2) fun at2 => W.asInt .u8 (W.Env.get? E 3) fun c3 => S1 l0 s1 at2 c3 w R
theorem KE_S1_ok (R : W.Post) (E : W.Env) (w : World) (h : KE_S1 E w R) : W.WP Try.prog (W.cx 113) C1 (Q5 R) E w := by
  obtain ⟨l0, hq0, h1⟩ := W.asSlice_elim h
  obtain ⟨s1, hq1, h2⟩ := W.asStr_elim h1
  obtain ⟨at2, hq2, h3⟩ := W.asInt_elim h2
  obtain ⟨c3, hq3, h4⟩ := W.asInt_elim h3
  exact fun a ha => W.WP.at (n := (W.cx 113)) (E := [(0, l0.v), (1, .string s1), (2, .int .i64 at2), (3, .int .u8 c3)]) (W.WP.seq (c := C1) (x := C44) (y := C2) (by kernel_rfl) <| W.WP.reg (c := C44) (fun E w => KE_S2 E w R) (by kernel_rfl) (Eq.mp (by kernel_rfl) h4) fun _ _ a hA hK => (KE_S2_ok R _ _ hK) a hA) (ha.cons hq0 (ha.cons hq1 (ha.cons hq2 (ha.cons hq3 ha.nil))))
noncomputable def C45 : Code := W.Code.fst C0
/-- law.go:36 -/
abbrev S0 (l0 : W.Sl) (s1 : ByteArray) (at2 c3 : Int) (w : World) (R : W.Post) : Prop :=
  S1 l0 s1 at2 c3 w R
def KE_S0 (E : W.Env) (w : World) (R : W.Post) : Prop := W.asSlice (W.Env.get? E 0) fun l0 => W.asStr (W.Env.get? E 1) fun s1 => W.asInt .i64 (W.Env.get? E 2) fun at2 => W.asInt .u8 (W.Env.get? E 3) fun c3 => S0 l0 s1 at2 c3 w R
theorem KE_S0_ok (R : W.Post) (E : W.Env) (w : World) (h : KE_S0 E w R) : W.WP Try.prog (W.cx 113) C0 (Q5 R) E w := by
  obtain ⟨l0, hq0, h1⟩ := W.asSlice_elim h
  obtain ⟨s1, hq1, h2⟩ := W.asStr_elim h1
  obtain ⟨at2, hq2, h3⟩ := W.asInt_elim h2
  obtain ⟨c3, hq3, h4⟩ := W.asInt_elim h3
  exact fun a ha => W.WP.at (n := (W.cx 113)) (E := [(0, l0.v), (1, .string s1), (2, .int .i64 at2), (3, .int .u8 c3)]) (W.WP.seq (c := C0) (x := C45) (y := C1) (by kernel_rfl) <| W.WP.reg (c := C45) (fun E w => KE_S1 E w R) (by kernel_rfl) (Eq.mp (by kernel_rfl) h4) fun _ _ a hA hK => (KE_S1_ok R _ _ hK) a hA) (ha.cons hq0 (ha.cons hq1 (ha.cons hq2 (ha.cons hq3 ha.nil))))
/-- enthymeme/enthymemelaw09.LexerTokens -/
theorem ok (l0 : W.Sl) (s1 : ByteArray) (at2 c3 : Int) (w : World) (R : W.Post) (h : S0 l0 s1 at2 c3 w R) : Calls Try.prog n_enthymemelaw09_LexerTokens #[l0.v, .string s1, .int .i64 at2, .int .u8 c3] w R :=
  W.calls_of_WP' (fn := Try.f3) (c := C0) (args := [l0.v, .string s1, .int .i64 at2, .int .u8 c3]) (by kernel_rfl) (by kernel_rfl) (by kernel_rfl) (KE_S0_ok R _ _ (Eq.mp (by kernel_rfl) h))
end enthymemelaw09_LexerTokens
end Go.Proofs.Ytemagdpieebjlaa

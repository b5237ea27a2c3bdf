/- Printed by a program of ours (vcgen.py) from the dump: the conditions of the functions, and that they suffice. -/
import Derived.Test.YtemagdpieebjlaaVR
set_option linter.unusedVariables false
set_option maxRecDepth 100000
namespace Go.Proofs.Ytemagdpieebjlaa
open Go
namespace enthymemelaw09_LexerQuotes
noncomputable def C0 : Code := (Try.f6.body).getD .skip
noncomputable def C1 : Code := W.Code.snd C0
noncomputable def C2 : Code := W.Code.snd C1
noncomputable def C3 : Code := W.Code.snd C2
noncomputable def C4 : Code := W.Code.snd C3
noncomputable def C5 : Code := W.Code.fst C4
noncomputable def C6 : Code := W.Code.snd C5
noncomputable def C7 : Code := W.Code.fst C6
noncomputable def C8 : Code := W.Code.snd C4
abbrev Q0 (R : W.Post) : Exit → Act → World → Prop := (Exit.then (W.wpx Try.prog (W.cx 93) C8 (bodyPost Try.prog Try.f6 R)) (bodyPost Try.prog Try.f6 R))
noncomputable def C9 : Code := W.Code.fst C7
noncomputable def C10 : Code := W.Code.snd C7
/-- law.go:61 -/
abbrev S5  (w : World) (R : W.Post) : Prop :=
  R (.returned (.bool false)) w
def KE_S5 (E : W.Env) (w : World) (R : W.Post) : Prop := S5  w R
theorem KE_S5_ok (R : W.Post) (E : W.Env) (w : World) (h : KE_S5 E w R) : W.WP Try.prog (W.cx 93) C7 (Q0 R) E w := by
  exact fun a ha => W.WP.at (n := (W.cx 93)) (E := []) (W.WP.seq (c := C7) (x := C9) (y := C10) (by kernel_rfl) <| W.WP.reg (c := C9) (fun E w => W.retVC Try.prog Try.f6 E w (fun v => R (.returned v) w)) (by kernel_rfl) (Eq.mp (by kernel_rfl) h) fun _ _ a hA hK => (W.WP.ret (c := C10) (by kernel_rfl) fun a hA => W.retVC_sound hA hK) a hA) ha.nil
noncomputable def C11 : Code := W.Code.snd C8
noncomputable def C12 : Code := W.Code.snd C11
abbrev Q1 (R : W.Post) : Exit → Act → World → Prop := (bodyPost Try.prog Try.f6 R)
noncomputable def C13 : Code := W.Code.fst C12
noncomputable def C14 : Code := W.Code.snd C12
/-- law.go:65 -/
abbrev S8 (x5 q6 : ByteArray) (l8 : W.Sl) (long11 g13 : Int) (w : World) (R : W.Post) : Prop :=
  (0 : Int) ≤ 0 ∧ 0 < ((l8.n : Nat) : Int) ∧ W.optP l8.a fun t59_p => ∃ t60_0 : Int, ∃ t60_1 : ByteArray, ∃ t60_2 : Int, w.cell? ((t59_p.add (Int.toNat 0 * 3)).add 0) = some (.int .i64 t60_0) ∧ w.cell? ((t59_p.add (Int.toNat 0 * 3)).add 1) = some (.string t60_1) ∧ w.cell? ((t59_p.add (Int.toNat 0 * 3)).add 2) = some (.int .i64 t60_2) ∧ 
  W.sel ((t60_0 == 5) && ((t60_1.toList == x5.toList) && ((t60_2 == 0) && true))) ((0 : Int) ≤ 1 ∧ 1 < ((l8.n : Nat) : Int) ∧ W.optP l8.a fun t66_p => ∃ t67_0 : Int, ∃ t67_1 : ByteArray, ∃ t67_2 : Int, w.cell? ((t66_p.add (Int.toNat 1 * 3)).add 0) = some (.int .i64 t67_0) ∧ w.cell? ((t66_p.add (Int.toNat 1 * 3)).add 1) = some (.string t67_1) ∧ w.cell? ((t66_p.add (Int.toNat 1 * 3)).add 2) = some (.int .i64 t67_2) ∧ 
  W.sel ((t67_0 == 6) && ((t67_1.toList == (ByteArray.mk #[]).toList) && ((t67_2 == ((q6.size : Nat) : Int)) && true))) (W.sel ((g13 == 0) == (decide ((IntKind.wrap .i64 ((IntKind.wrap .i64 (4 * long11)) + 2)) ≤ 65536))) (W.sel (g13 == 0) (Calls Try.prog n_enthymemelaw09_lives #[] w fun r_ w1 => ∃ t91 : Bool, r_ = .returned (.bool t91) ∧ 
  R (.returned (.bool t91)) w1) (W.sel (g13 == 4) (Calls Try.prog n_enthymemelaw09_lives #[] w fun r_ w2 => ∃ t91 : Bool, r_ = .returned (.bool t91) ∧ 
  R (.returned (.bool t91)) w2) (R (.returned (.bool false)) w))) (R (.returned (.bool false)) w)) (R (.returned (.bool false)) w)) (R (.returned (.bool false)) w)
def KE_S8 (E : W.Env) (w : World) (R : W.Post) : Prop := W.asStr (W.Env.get? E 5) fun x5 => W.asStr (W.Env.get? E 6) fun q6 => W.asSlice (W.Env.get? E 8) fun l8 => W.asInt .i64 (W.Env.get? E 11) fun long11 => W.asInt .i64 (W.Env.get? E 13) fun g13 => S8 x5 q6 l8 long11 g13 w R
theorem KE_S8_ok (R : W.Post) (E : W.Env) (w : World) (h : KE_S8 E w R) : W.WP Try.prog (W.cx 93) C12 (Q1 R) E w := by
  obtain ⟨x5, hq5, h1⟩ := W.asStr_elim h
  obtain ⟨q6, hq6, h2⟩ := W.asStr_elim h1
  obtain ⟨l8, hq8, h3⟩ := W.asSlice_elim h2
  obtain ⟨long11, hq11, h4⟩ := W.asInt_elim h3
  obtain ⟨g13, hq13, h5⟩ := W.asInt_elim h4
  exact fun a ha => W.WP.at (n := (W.cx 93)) (E := [(5, .string x5), (6, .string q6), (8, l8.v), (11, .int .i64 long11), (13, .int .i64 g13)]) (W.WP.seq (c := C12) (x := C13) (y := C14) (by kernel_rfl) <| W.WP.reg (c := C13) (fun E w => W.retVC Try.prog Try.f6 E w (fun v => R (.returned v) w)) (by kernel_rfl) (Eq.mp (by kernel_rfl) h5) fun _ _ a hA hK => (W.WP.ret (c := C14) (by kernel_rfl) fun a hA => W.retVC_sound hA hK) a hA) (ha.cons hq5 (ha.cons hq6 (ha.cons hq8 (ha.cons hq11 (ha.cons hq13 ha.nil)))))
noncomputable def C15 : Code := W.Code.fst C11
/-- law.go:64 -/
abbrev S7 (x5 q6 : ByteArray) (l8 : W.Sl) (long11 : Int) (w : World) (R : W.Post) : Prop :=
  ∃ (t53 : W.Sl) (w1 : World), Sem.run Try.prog (Instr.makeSlice ty_sl_uint8 (.int .i64 long11) (.int .i64 long11)) w = .ok (t53.v) w1 ∧ ∃ t54 : ByteArray, Sem.run Try.prog (Go.convert ty_sl_uint8 ty_string (t53.v)) w1 = .ok (.string t54) w1 ∧ Calls Try.prog n_lexer_Quote #[.string t54] w1 fun r_ w2 => ∃ t55_0 : ByteArray, ∃ t55_1 : Int, r_ = .returned (.tuple #[.string t55_0, .int .i64 t55_1]) ∧ 
  S8 x5 q6 l8 long11 t55_1 w2 R
def KE_S7 (E : W.Env) (w : World) (R : W.Post) : Prop := W.asStr (W.Env.get? E 5) fun x5 => W.asStr (W.Env.get? E 6) fun q6 => W.asSlice (W.Env.get? E 8) fun l8 => W.asInt .i64 (W.Env.get? E 11) fun long11 => S7 x5 q6 l8 long11 w R
theorem KE_S7_ok (R : W.Post) (E : W.Env) (w : World) (h : KE_S7 E w R) : W.WP Try.prog (W.cx 93) C11 (Q1 R) E w := by
  obtain ⟨x5, hq5, h1⟩ := W.asStr_elim h
  obtain ⟨q6, hq6, h2⟩ := W.asStr_elim h1
  obtain ⟨l8, hq8, h3⟩ := W.asSlice_elim h2
  obtain ⟨long11, hq11, h4⟩ := W.asInt_elim h3
  exact fun a ha => W.WP.at (n := (W.cx 93)) (E := [(5, .string x5), (6, .string q6), (8, l8.v), (11, .int .i64 long11)]) (W.WP.seq (c := C11) (x := C15) (y := C12) (by kernel_rfl) <| W.WP.reg (c := C15) (fun E w => KE_S8 E w R) (by kernel_rfl) (Eq.mp (by kernel_rfl) h4) fun _ _ a hA hK => (KE_S8_ok R _ _ hK) a hA) (ha.cons hq5 (ha.cons hq6 (ha.cons hq8 (ha.cons hq11 ha.nil))))
noncomputable def C16 : Code := W.Code.fst C8
/-- law.go:63 -/
abbrev S6 (n1 : Int) (x5 q6 : ByteArray) (l8 : W.Sl) (w : World) (R : W.Post) : Prop :=
  Calls Try.prog n_enthymemeref01_Around #[.int .i64 n1, .int .i64 3] w fun r_ w1 => ∃ t49 : Int, r_ = .returned (.int .i64 t49) ∧ 
  S7 x5 q6 l8 (IntKind.wrap .i64 (16383 + t49)) w1 R
def KE_S6 (E : W.Env) (w : World) (R : W.Post) : Prop := W.asInt .i64 (W.Env.get? E 1) fun n1 => W.asStr (W.Env.get? E 5) fun x5 => W.asStr (W.Env.get? E 6) fun q6 => W.asSlice (W.Env.get? E 8) fun l8 => S6 n1 x5 q6 l8 w R
theorem KE_S6_ok (R : W.Post) (E : W.Env) (w : World) (h : KE_S6 E w R) : W.WP Try.prog (W.cx 93) C8 (Q1 R) E w := by
  obtain ⟨n1, hq1, h1⟩ := W.asInt_elim h
  obtain ⟨x5, hq5, h2⟩ := W.asStr_elim h1
  obtain ⟨q6, hq6, h3⟩ := W.asStr_elim h2
  obtain ⟨l8, hq8, h4⟩ := W.asSlice_elim h3
  exact fun a ha => W.WP.at (n := (W.cx 93)) (E := [(1, .int .i64 n1), (5, .string x5), (6, .string q6), (8, l8.v)]) (W.WP.seq (c := C8) (x := C16) (y := C11) (by kernel_rfl) <| W.WP.reg (c := C16) (fun E w => KE_S7 E w R) (by kernel_rfl) (Eq.mp (by kernel_rfl) h4) fun _ _ a hA hK => (KE_S7_ok R _ _ hK) a hA) (ha.cons hq1 (ha.cons hq5 (ha.cons hq6 (ha.cons hq8 ha.nil))))
noncomputable def C17 : Code := W.Code.fst C5
noncomputable def C18 : Code := W.Code.snd C6
/-- law.go:60 -/
abbrev S4 (n1 : Int) (x5 q6 : ByteArray) (e7 : Int) (l8 : W.Sl) (m9 f10 : Int) (w : World) (R : W.Post) : Prop :=
  W.sel (e7 != 0) (S5  w R) (W.sel (f10 != 0) (S5  w R) (W.sel (m9 != 0) (S5  w R) (Calls Try.prog n_enthymemeref09_Quote #[.string x5] w fun r_ w1 => ∃ t40 : ByteArray, r_ = .returned (.string t40) ∧ 
  W.sel (!(q6.toList == t40.toList)) (S5  w1 R) (W.sel (((l8.n : Nat) : Int) != 2) (S5  w1 R) (S6 n1 x5 q6 l8 w1 R)))))
def KE_S4 (E : W.Env) (w : World) (R : W.Post) : Prop := W.asInt .i64 (W.Env.get? E 1) fun n1 => W.asStr (W.Env.get? E 5) fun x5 => W.asStr (W.Env.get? E 6) fun q6 => W.asInt .i64 (W.Env.get? E 7) fun e7 => W.asSlice (W.Env.get? E 8) fun l8 => W.asInt .i64 (W.Env.get? E 9) fun m9 => W.asInt .i64 (W.Env.get? E 10) fun f10 => S4 n1 x5 q6 e7 l8 m9 f10 w R
theorem KE_S4_ok (R : W.Post) (E : W.Env) (w : World) (h : KE_S4 E w R) : W.WP Try.prog (W.cx 93) C5 (Q0 R) E w := by
  obtain ⟨n1, hq1, h1⟩ := W.asInt_elim h
  obtain ⟨x5, hq5, h2⟩ := W.asStr_elim h1
  obtain ⟨q6, hq6, h3⟩ := W.asStr_elim h2
  obtain ⟨e7, hq7, h4⟩ := W.asInt_elim h3
  obtain ⟨l8, hq8, h5⟩ := W.asSlice_elim h4
  obtain ⟨m9, hq9, h6⟩ := W.asInt_elim h5
  obtain ⟨f10, hq10, h7⟩ := W.asInt_elim h6
  exact fun a ha => W.WP.at (n := (W.cx 93)) (E := [(1, .int .i64 n1), (5, .string x5), (6, .string q6), (7, .int .i64 e7), (8, l8.v), (9, .int .i64 m9), (10, .int .i64 f10)]) (W.WP.seq (c := C5) (x := C17) (y := C6) (by kernel_rfl) <| W.WP.reg (c := C17) (fun E w => W.condK (W.Env.val E (.tmp 47)) (KE_S5 E w R) (KE_S6 E w R)) (by kernel_rfl) (Eq.mp (by kernel_rfl) h7) fun _ _ a hA hK => (W.WP.condK (c := C6) (x := C7) (y := C18) (o := .tmp 47) (by kernel_rfl) (fun hK => (KE_S5_ok R _ _ hK)) (fun hK => (W.WP.skip (c := C18) (by kernel_rfl) fun a hA => (KE_S6_ok R _ _ hK) a hA)) hK) a hA) (ha.cons hq1 (ha.cons hq5 (ha.cons hq6 (ha.cons hq7 (ha.cons hq8 (ha.cons hq9 (ha.cons hq10 ha.nil)))))))
noncomputable def C19 : Code := W.Code.fst C3
/-- law.go:59 -/
abbrev S3 (n1 : Int) (x5 q6 : ByteArray) (e7 : Int) (w : World) (R : W.Post) : Prop :=
  Calls Try.prog n_lexer_Tokens #[.string q6] w fun r_ w1 => ∃ t23_0 : W.Sl, ∃ t23_1 : Int, ∃ t23_2 : Int, r_ = .returned (.tuple #[t23_0.v, .int .i64 t23_1, .int .i64 t23_2]) ∧ 
  S4 n1 x5 q6 e7 t23_0 t23_1 t23_2 w1 R
def KE_S3 (E : W.Env) (w : World) (R : W.Post) : Prop := W.asInt .i64 (W.Env.get? E 1) fun n1 => W.asStr (W.Env.get? E 5) fun x5 => W.asStr (W.Env.get? E 6) fun q6 => W.asInt .i64 (W.Env.get? E 7) fun e7 => S3 n1 x5 q6 e7 w R
theorem KE_S3_ok (R : W.Post) (E : W.Env) (w : World) (h : KE_S3 E w R) : W.WP Try.prog (W.cx 93) C3 (Q1 R) E w := by
  obtain ⟨n1, hq1, h1⟩ := W.asInt_elim h
  obtain ⟨x5, hq5, h2⟩ := W.asStr_elim h1
  obtain ⟨q6, hq6, h3⟩ := W.asStr_elim h2
  obtain ⟨e7, hq7, h4⟩ := W.asInt_elim h3
  exact fun a ha => W.WP.at (n := (W.cx 93)) (E := [(1, .int .i64 n1), (5, .string x5), (6, .string q6), (7, .int .i64 e7)]) (W.WP.seq (c := C3) (x := C19) (y := C4) (by kernel_rfl) <| W.WP.reg (c := C19) (fun E w => KE_S4 E w R) (by kernel_rfl) (Eq.mp (by kernel_rfl) h4) fun _ _ a hA hK => (W.WP.seq (c := C4) (x := C5) (y := C8) (by kernel_rfl) (KE_S4_ok R _ _ hK)) a hA) (ha.cons hq1 (ha.cons hq5 (ha.cons hq6 (ha.cons hq7 ha.nil))))
noncomputable def C20 : Code := W.Code.fst C2
/-- law.go:58 -/
abbrev S2 (n1 : Int) (x5 : ByteArray) (w : World) (R : W.Post) : Prop :=
  Calls Try.prog n_lexer_Quote #[.string x5] w fun r_ w1 => ∃ t18_0 : ByteArray, ∃ t18_1 : Int, r_ = .returned (.tuple #[.string t18_0, .int .i64 t18_1]) ∧ 
  S3 n1 x5 t18_0 t18_1 w1 R
def KE_S2 (E : W.Env) (w : World) (R : W.Post) : Prop := W.asInt .i64 (W.Env.get? E 1) fun n1 => W.asStr (W.Env.get? E 5) fun x5 => S2 n1 x5 w R
theorem KE_S2_ok (R : W.Post) (E : W.Env) (w : World) (h : KE_S2 E w R) : W.WP Try.prog (W.cx 93) C2 (Q1 R) E w := by
  obtain ⟨n1, hq1, h1⟩ := W.asInt_elim h
  obtain ⟨x5, hq5, h2⟩ := W.asStr_elim h1
  exact fun a ha => W.WP.at (n := (W.cx 93)) (E := [(1, .int .i64 n1), (5, .string x5)]) (W.WP.seq (c := C2) (x := C20) (y := C3) (by kernel_rfl) <| W.WP.reg (c := C20) (fun E w => KE_S3 E w R) (by kernel_rfl) (Eq.mp (by kernel_rfl) h2) fun _ _ a hA hK => (KE_S3_ok R _ _ hK) a hA) (ha.cons hq1 (ha.cons hq5 ha.nil))
noncomputable def C21 : Code := W.Code.fst C1
/-- law.go:57 -/
abbrev S1 (s0 : ByteArray) (n1 : Int) (w : World) (R : W.Post) : Prop :=
  Calls Try.prog n_enthymemeref01_Short #[.string s0, .int .i64 100] w fun r_ w1 => ∃ t15 : ByteArray, r_ = .returned (.string t15) ∧ 
  S2 n1 t15 w1 R
def KE_S1 (E : W.Env) (w : World) (R : W.Post) : Prop := W.asStr (W.Env.get? E 0) fun s0 => W.asInt .i64 (W.Env.get? E 1) fun n1 => S1 s0 n1 w R
theorem KE_S1_ok (R : W.Post) (E : W.Env) (w : World) (h : KE_S1 E w R) : W.WP Try.prog (W.cx 93) C1 (Q1 R) E w := by
  obtain ⟨s0, hq0, h1⟩ := W.asStr_elim h
  obtain ⟨n1, hq1, h2⟩ := W.asInt_elim h1
  exact fun a ha => W.WP.at (n := (W.cx 93)) (E := [(0, .string s0), (1, .int .i64 n1)]) (W.WP.seq (c := C1) (x := C21) (y := C2) (by kernel_rfl) <| W.WP.reg (c := C21) (fun E w => KE_S2 E w R) (by kernel_rfl) (Eq.mp (by kernel_rfl) h2) fun _ _ a hA hK => (KE_S2_ok R _ _ hK) a hA) (ha.cons hq0 (ha.cons hq1 ha.nil))
noncomputable def C22 : Code := W.Code.fst C0
/-- law.go:56 -/
abbrev S0 (s0 : ByteArray) (n1 : Int) (w : World) (R : W.Post) : Prop :=
  S1 s0 n1 w R
def KE_S0 (E : W.Env) (w : World) (R : W.Post) : Prop := W.asStr (W.Env.get? E 0) fun s0 => W.asInt .i64 (W.Env.get? E 1) fun n1 => S0 s0 n1 w R
theorem KE_S0_ok (R : W.Post) (E : W.Env) (w : World) (h : KE_S0 E w R) : W.WP Try.prog (W.cx 93) C0 (Q1 R) E w := by
  obtain ⟨s0, hq0, h1⟩ := W.asStr_elim h
  obtain ⟨n1, hq1, h2⟩ := W.asInt_elim h1
  exact fun a ha => W.WP.at (n := (W.cx 93)) (E := [(0, .string s0), (1, .int .i64 n1)]) (W.WP.seq (c := C0) (x := C22) (y := C1) (by kernel_rfl) <| W.WP.reg (c := C22) (fun E w => KE_S1 E w R) (by kernel_rfl) (Eq.mp (by kernel_rfl) h2) fun _ _ a hA hK => (KE_S1_ok R _ _ hK) a hA) (ha.cons hq0 (ha.cons hq1 ha.nil))
/-- enthymeme/enthymemelaw09.LexerQuotes -/
theorem ok (s0 : ByteArray) (n1 : Int) (w : World) (R : W.Post) (h : S0 s0 n1 w R) : Calls Try.prog n_enthymemelaw09_LexerQuotes #[.string s0, .int .i64 n1] w R :=
  W.calls_of_WP' (fn := Try.f6) (c := C0) (args := [.string s0, .int .i64 n1]) (by kernel_rfl) (by kernel_rfl) (by kernel_rfl) (KE_S0_ok R _ _ (Eq.mp (by kernel_rfl) h))
end enthymemelaw09_LexerQuotes
end Go.Proofs.Ytemagdpieebjlaa

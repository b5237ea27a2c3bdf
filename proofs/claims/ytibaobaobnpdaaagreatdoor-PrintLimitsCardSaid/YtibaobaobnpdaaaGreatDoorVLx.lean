/- Printed by a program of ours (vcgen.py) from the dump: the conditions of the functions, and that they suffice. Package strings, as far as the lexer goes: IndexByte. Package lexer in plain words. No program in sight. Package lexer: the contracts of small, digit, bare, allDigits. Package lexer: the contract of examine. Package lexer: the contracts of item and quoted. Printed by a program of ours (vcgen.py) from the dump: the conditions of the functions, and that they suffice. Package lexer: the contracts of quoted, bare and Quote. Package lexer: the contracts of the reader's functions. -/
import Derived.Test.YtibaobaobnpdaaaGreatDoorVPr
import Derived.Test.YtibaobaobnpdaaaGreatDoorU
import Derived.Laws.StandIn
import Derived.Lib.Bytealg
import Derived.Test.YtibaobaobnpdaaaGreatDoorW
import Derived.Laws.RangeString
set_option linter.unusedVariables false
set_option linter.unusedVariables false
set_option maxRecDepth 100000
set_option maxHeartbeats 2000000
namespace Go.Proofs.YtibaobaobnpdaaaGreatDoor
open Go Go.W
namespace strings_IndexFunc
noncomputable def C0 : Code := (Tryz.f121.body).getD .skip
noncomputable def C1:=C0.sn
abbrev Q0 (R : Post) : Exit → Act → World → Prop := (bodyPost Tryz.prog Tryz.f121 R)
noncomputable def C2:=C1.fs
noncomputable def C3:=C1.sn
/-- strings.go:898 -/
abbrev S1 (s0 : ByteArray) (f1 : Value) (w : World) (R : Post) : Prop :=
  Calls Tryz.prog n_strings_indexFunc #[.string s0, f1, .bool true] w fun r_ w1 => ∃ t7 : Int, r_ = .returned (.i t7) ∧ 
  R (.returned (.i t7)) w1
def KE_S1 (E : Env) (w : World) (R : Post) : Prop := W.asStr (Env.get? E 0) fun s0 => W.asVal (Env.get? E 1) fun f1 => S1 s0 f1 w R
theorem KE_S1_ok (R : Post) (E : Env) (w : World) (h : KE_S1 E w R) : WP Tryz.prog (cx 8) C1 (Q0 R) E w := by
  obtain ⟨s0, hq0, h_1⟩ := W.asStr_elim h
  obtain ⟨f1, hq1, h_2⟩ := W.asVal_elim h_1
  exact fun a ha => WP.at (n := (cx 8)) (E := [(0, .string s0), (1, f1)]) (WP.seq (c := C1) (x := C2) (y := C3) (by kernel_rfl) <| WP.reg (c := C2) (fun E w => retVC Tryz.prog Tryz.f121 E w (fun v => R (.returned v) w)) (by kernel_rfl) (Eq.mp (by kernel_rfl) h_2) fun _ _ a hA hK => (WP.ret (c := C3) (by kernel_rfl) fun a hA => retVC_sound hA hK) a hA) (ha.cons hq0 (ha.cons hq1 ha.nil))
noncomputable def C4:=C0.fs
/-- strings.go:897 -/
abbrev S0 (s0 : ByteArray) (f1 : Value) (w : World) (R : Post) : Prop :=
  S1 s0 (f1 : Value) w R
def KE_S0 (E : Env) (w : World) (R : Post) : Prop := W.asStr (Env.get? E 0) fun s0 => W.asVal (Env.get? E 1) fun f1 => S0 s0 f1 w R
theorem KE_S0_ok (R : Post) (E : Env) (w : World) (h : KE_S0 E w R) : WP Tryz.prog (cx 8) C0 (Q0 R) E w := by
  obtain ⟨s0, hq0, h_1⟩ := W.asStr_elim h
  obtain ⟨f1, hq1, h_2⟩ := W.asVal_elim h_1
  exact fun a ha => WP.at (n := (cx 8)) (E := [(0, .string s0), (1, f1)]) (WP.seq (c := C0) (x := C4) (y := C1) (by kernel_rfl) <| WP.reg (c := C4) (fun E w => KE_S1 E w R) (by kernel_rfl) (Eq.mp (by kernel_rfl) h_2) fun _ _ a hA hK => (KE_S1_ok R _ _ hK) a hA) (ha.cons hq0 (ha.cons hq1 ha.nil))
/-- strings.IndexFunc -/
theorem ok (s0 : ByteArray) (f1 : Value) (w : World) (R : Post) (h : S0 s0 (f1 : Value) w R) : Calls Tryz.prog n_strings_IndexFunc #[.string s0, f1] w R :=
  calls_of_WP' (R := R) (fn := Tryz.f121) (c := C0) (args := [.string s0, f1]) (by kernel_rfl) (by kernel_rfl) (by kernel_rfl) (KE_S0_ok R _ _ (Eq.mp (by kernel_rfl) h))
end strings_IndexFunc
namespace strings_indexFunc
noncomputable def C0 : Code := (Tryz.f141.body).getD .skip
noncomputable def C1:=C0.sn
noncomputable def C2:=C1.fs
noncomputable def C3:=C2.sn
noncomputable def C4:=C3.fs
noncomputable def C5:=C4.fs
noncomputable def C6:=C1.sn
abbrev Q0 (R : Post) : Exit → Act → World → Prop := (Exit.then (wpx Tryz.prog (cx 21) C6 (bodyPost Tryz.prog Tryz.f141 R)) (bodyPost Tryz.prog Tryz.f141 R))
abbrev Q1 (R : Post) : Exit → Act → World → Prop := (Exit.inBlock 0 (Q0 R))
/-- the head of the loop, strings.go:911 -/
def L2 (f1 : Fv) (truth2 : Bool) (t10 : Value) (w : World) (R : Post) : Prop := LP Tryz.prog (cx 21) C5 (Q1 R) [(1, f1.v), (2, .bool truth2), (10, t10)] w
def KE_L2 (E : Env) (w : World) (R : Post) : Prop := W.asFn (Env.get? E 1) fun f1 => W.asBool' (Env.get? E 2) fun truth2 => W.asVal (Env.get? E 10) fun t10 => L2 f1 truth2 t10 w R
theorem KE_L2_ok (R : Post) (E : Env) (w : World) (h : KE_L2 E w R) : LP Tryz.prog (cx 21) C5 (Q1 R) E w := by
  obtain ⟨f1, hq1, h_1⟩ := W.asFn_elim h
  obtain ⟨truth2, hq2, h_2⟩ := W.asBool_elim h_1
  obtain ⟨t10, hq10, h_3⟩ := W.asVal_elim h_2
  intro a ha
  exact h_3 a (ha.cons hq1 (ha.cons hq2 (ha.cons hq10 ha.nil)))
abbrev Q2 (R : Post) : Exit → Act → World → Prop := (bodyPost Tryz.prog Tryz.f141 R)
noncomputable def C7:=C6.fs
noncomputable def C8:=C6.sn
/-- strings.go:916 -/
abbrev S4  (w : World) (R : Post) : Prop :=
  R (.returned (.i (-1))) w
def KE_S4 (E : Env) (w : World) (R : Post) : Prop := S4  w R
theorem KE_S4_ok (R : Post) (E : Env) (w : World) (h : KE_S4 E w R) : WP Tryz.prog (cx 21) C6 (Q2 R) E w := by
  exact fun a ha => WP.at (n := (cx 21)) (E := []) (WP.seq (c := C6) (x := C7) (y := C8) (by kernel_rfl) <| WP.reg (c := C7) (fun E w => retVC Tryz.prog Tryz.f141 E w (fun v => R (.returned v) w)) (by kernel_rfl) (Eq.mp (by kernel_rfl) h) fun _ _ a hA hK => (WP.ret (c := C8) (by kernel_rfl) fun a hA => retVC_sound hA hK) a hA) ha.nil
noncomputable def C9:=C5.sn
noncomputable def C10:=C9.sn
noncomputable def C11:=C10.fs
noncomputable def C12:=C11.sn
noncomputable def C13:=C12.sn
noncomputable def C14:=C13.fs
abbrev Q3 (R : Post) : Exit → Act → World → Prop := (Exit.then (LoopWP Tryz.prog (cx 21) C5 (Q1 R)) (Q1 R))
abbrev Q4 (R : Post) : Exit → Act → World → Prop := (Exit.inBlock 1 (Q3 R))
noncomputable def C15:=C14.fs
noncomputable def C16:=C14.sn
/-- strings.go:913 -/
abbrev S7 (i7 : Int) (w : World) (R : Post) : Prop :=
  R (.returned (.i i7)) w
def KE_S7 (E : Env) (w : World) (R : Post) : Prop := W.asInt .i64 (Env.get? E 7) fun i7 => S7 i7 w R
theorem KE_S7_ok (R : Post) (E : Env) (w : World) (h : KE_S7 E w R) : WP Tryz.prog (cx 21) C14 (Q4 R) E w := by
  obtain ⟨i7, hq7, h_1⟩ := W.asInt_elim h
  exact fun a ha => WP.at (n := (cx 21)) (E := [(7, .i i7)]) (WP.seq (c := C14) (x := C15) (y := C16) (by kernel_rfl) <| WP.reg (c := C15) (fun E w => retVC Tryz.prog Tryz.f141 E w (fun v => R (.returned v) w)) (by kernel_rfl) (Eq.mp (by kernel_rfl) h_1) fun _ _ a hA hK => (WP.ret (c := C16) (by kernel_rfl) fun a hA => retVC_sound hA hK) a hA) (ha.cons hq7 ha.nil)
noncomputable def C17:=C12.fs
noncomputable def C18:=C13.sn
/-- strings.go:912 -/
abbrev S6 (f1 : Fv) (truth2 : Bool) (i7 r8 : Int) (t10 : Value) (w : World) (R : Post) : Prop :=
  AndT (callable Tryz.prog f1.n) (Calls Tryz.prog f1.n (f1.bs ++ #[.int .i32 r8] ++ f1.cs) w fun r_ w1 => ∃ t17 : Bool, r_ = .returned (.bool t17) ∧ 
  sel (t17 == truth2) (S7 i7 w1 R) (L2 f1 truth2 (t10 : Value) w1 R))
def KE_S6 (E : Env) (w : World) (R : Post) : Prop := W.asFn (Env.get? E 1) fun f1 => W.asBool' (Env.get? E 2) fun truth2 => W.asInt .i64 (Env.get? E 7) fun i7 => W.asInt .i32 (Env.get? E 8) fun r8 => W.asVal (Env.get? E 10) fun t10 => S6 f1 truth2 i7 r8 t10 w R
theorem KE_S6_ok (R : Post) (E : Env) (w : World) (h : KE_S6 E w R) : WP Tryz.prog (cx 21) C12 (Q4 R) E w := by
  obtain ⟨f1, hq1, h_1⟩ := W.asFn_elim h
  obtain ⟨truth2, hq2, h_2⟩ := W.asBool_elim h_1
  obtain ⟨i7, hq7, h_3⟩ := W.asInt_elim h_2
  obtain ⟨r8, hq8, h_4⟩ := W.asInt_elim h_3
  obtain ⟨t10, hq10, h_5⟩ := W.asVal_elim h_4
  exact fun a ha => WP.at (n := (cx 21)) (E := [(1, f1.v), (2, .bool truth2), (7, .i i7), (8, .int .i32 r8), (10, t10)]) (WP.seq (c := C12) (x := C17) (y := C13) (by kernel_rfl) <| WP.reg (c := C17) (fun E w => condK (Env.val E (.tmp 19)) (KE_S7 E w R) (KE_L2 E w R)) (by kernel_rfl) (Eq.mp (by kernel_rfl) h_5) fun _ _ a hA hK => (WP.condK (c := C13) (x := C14) (y := C18) (o := .tmp 19) (by kernel_rfl) (fun hK => (KE_S7_ok R _ _ hK)) (fun hK => (WP.skip (c := C18) (by kernel_rfl) fun a hA => KE_L2_ok R _ _ hK a hA)) hK) a hA) (ha.cons hq1 (ha.cons hq2 (ha.cons hq7 (ha.cons hq8 (ha.cons hq10 ha.nil)))))
noncomputable def C19:=C11.fs
/-- strings.go:911 -/
abbrev S5 (f1 : Fv) (truth2 : Bool) (t10 : Value) (t11_0 : Bool) (t11_1 t11_2 : Int) (w : World) (R : Post) : Prop :=
  S6 f1 truth2 t11_1 t11_2 (t10 : Value) w R
def KE_S5 (E : Env) (w : World) (R : Post) : Prop := W.asFn (Env.get? E 1) fun f1 => W.asBool' (Env.get? E 2) fun truth2 => W.asVal (Env.get? E 10) fun t10 => W.asTuple (Env.get? E 11) fun t11_l0 => W.asCons t11_l0 fun t11_v0 t11_l1 => W.asBool' (some t11_v0) fun t11_0 => W.asCons t11_l1 fun t11_v1 t11_l2 => W.asInt .i64 (some t11_v1) fun t11_1 => W.asCons t11_l2 fun t11_v2 t11_l3 => W.asInt .i32 (some t11_v2) fun t11_2 => W.asNil t11_l3 <| S5 f1 truth2 t10 t11_0 t11_1 t11_2 w R
theorem KE_S5_ok (R : Post) (E : Env) (w : World) (h : KE_S5 E w R) : WP Tryz.prog (cx 21) C11 (Q4 R) E w := by
  obtain ⟨f1, hq1, h_1⟩ := W.asFn_elim h
  obtain ⟨truth2, hq2, h_2⟩ := W.asBool_elim h_1
  obtain ⟨t10, hq10, h_3⟩ := W.asVal_elim h_2
  obtain ⟨t11_l0, hq11, h_4⟩ := W.asTuple_elim h_3
  obtain ⟨t11_v0, t11_l1, rfl, h_5⟩ := W.asCons_elim h_4
  obtain ⟨t11_0, ex, h_6⟩ := W.asBool_elim h_5
  obtain rfl := Option.some.inj ex
  obtain ⟨t11_v1, t11_l2, rfl, h_7⟩ := W.asCons_elim h_6
  obtain ⟨t11_1, ex, h_8⟩ := W.asInt_elim h_7
  obtain rfl := Option.some.inj ex
  obtain ⟨t11_v2, t11_l3, rfl, h_9⟩ := W.asCons_elim h_8
  obtain ⟨t11_2, ex, h_10⟩ := W.asInt_elim h_9
  obtain rfl := Option.some.inj ex
  obtain ⟨rfl, h_11⟩ := W.asNil_elim h_10
  exact fun a ha => WP.at (n := (cx 21)) (E := [(1, f1.v), (2, .bool truth2), (10, t10), (11, .tuple #[.bool t11_0, .i t11_1, .int .i32 t11_2])]) (WP.seq (c := C11) (x := C19) (y := C12) (by kernel_rfl) <| WP.reg (c := C19) (fun E w => KE_S6 E w R) (by kernel_rfl) (Eq.mp (by kernel_rfl) h_11) fun _ _ a hA hK => (KE_S6_ok R _ _ hK) a hA) (ha.cons hq1 (ha.cons hq2 (ha.cons hq10 (ha.cons hq11 ha.nil))))
noncomputable def C20:=C5.fs
noncomputable def C21:=C9.fs
noncomputable def C22:=C21.fs
noncomputable def C23:=C21.sn
/-- strings.go:911 -/
abbrev S3 (f1 : Fv) (truth2 : Bool) (t10 : Value) (w : World) (R : Post) : Prop :=
  ((∃ w1 : World, Sem.run Tryz.prog (Instr.next (t10) true ty_) w = .ok (.tuple #[.bool false]) w1 ∧ S4  w1 R) ∨ (∃ (t11_i t11_c : Int) (w1 : World), Sem.run Tryz.prog (Instr.next (t10) true ty_) w = .ok (.tuple #[.bool true, .i t11_i, .int .i32 t11_c]) w1 ∧ S5 f1 truth2 (t10 : Value) true t11_i t11_c w1 R))
def KE_S3 (E : Env) (w : World) (R : Post) : Prop := W.asFn (Env.get? E 1) fun f1 => W.asBool' (Env.get? E 2) fun truth2 => W.asVal (Env.get? E 10) fun t10 => S3 f1 truth2 t10 w R
theorem KE_S3_ok (R : Post) (E : Env) (w : World) (h : KE_S3 E w R) : WP Tryz.prog (cx 21) C5 (Q3 R) E w := by
  obtain ⟨f1, hq1, h_1⟩ := W.asFn_elim h
  obtain ⟨truth2, hq2, h_2⟩ := W.asBool_elim h_1
  obtain ⟨t10, hq10, h_3⟩ := W.asVal_elim h_2
  exact fun a ha => WP.at (n := (cx 21)) (E := [(1, f1.v), (2, .bool truth2), (10, t10)]) (WP.seq (c := C5) (x := C20) (y := C9) (by kernel_rfl) <| WP.reg (c := C20) (fun E w => condK (Env.val E (.tmp 12)) (KE_S5 E w R) (KE_S4 E w R)) (by kernel_rfl) (Eq.mp (by kernel_rfl) h_3) fun _ _ a hA hK => (WP.seq (c := C9) (x := C21) (y := C10) (by kernel_rfl) (WP.condK (c := C21) (x := C22) (y := C23) (o := .tmp 12) (by kernel_rfl) (fun hK => (WP.skip (c := C22) (by kernel_rfl) fun a hA => (WP.block (c := C10) (x := C11) (id := 1) (by kernel_rfl) (KE_S5_ok R _ _ hK)) a hA)) (fun hK => (WP.exit (c := C23) (id := 0) (by kernel_rfl) fun a hA => (KE_S4_ok R _ _ hK) a hA)) hK)) a hA) (ha.cons hq1 (ha.cons hq2 (ha.cons hq10 ha.nil)))
theorem L2_step (f1 : Fv) (truth2 : Bool) (t10 : Value) (w : World) (R : Post) (h : S3 f1 truth2 (t10 : Value) w R) : L2 f1 truth2 t10 w R :=
  LP.step (n := (cx 21)) (c := C5) (E := [(1, f1.v), (2, .bool truth2), (10, t10)]) (w := w) (KE_S3_ok R _ _ (Eq.mp (by kernel_rfl) h))
noncomputable def C24:=C2.fs
/-- strings.go:911 -/
abbrev S1 (s0 : ByteArray) (f1 : Fv) (truth2 : Bool) (w : World) (R : Post) : Prop :=
  ∃ (t10 : Value) (w1 : World), Sem.run Tryz.prog (Instr.range ty_string (.string s0)) w = .ok t10 w1 ∧ L2 f1 truth2 (t10 : Value) w1 R
def KE_S1 (E : Env) (w : World) (R : Post) : Prop := W.asStr (Env.get? E 0) fun s0 => W.asFn (Env.get? E 1) fun f1 => W.asBool' (Env.get? E 2) fun truth2 => S1 s0 f1 truth2 w R
theorem KE_S1_ok (R : Post) (E : Env) (w : World) (h : KE_S1 E w R) : WP Tryz.prog (cx 21) C2 (Q0 R) E w := by
  obtain ⟨s0, hq0, h_1⟩ := W.asStr_elim h
  obtain ⟨f1, hq1, h_2⟩ := W.asFn_elim h_1
  obtain ⟨truth2, hq2, h_3⟩ := W.asBool_elim h_2
  exact fun a ha => WP.at (n := (cx 21)) (E := [(0, .string s0), (1, f1.v), (2, .bool truth2)]) (WP.seq (c := C2) (x := C24) (y := C3) (by kernel_rfl) <| WP.reg (c := C24) (fun E w => KE_L2 E w R) (by kernel_rfl) (Eq.mp (by kernel_rfl) h_3) fun _ _ a hA hK => (WP.block (c := C3) (x := C4) (id := 0) (by kernel_rfl) (WP.loop (c := C4) (x := C5) (by kernel_rfl) (KE_L2_ok R _ _ hK))) a hA) (ha.cons hq0 (ha.cons hq1 (ha.cons hq2 ha.nil)))
noncomputable def C25:=C0.fs
/-- strings.go:910 -/
abbrev S0 (s0 : ByteArray) (f1 : Fv) (truth2 : Bool) (w : World) (R : Post) : Prop :=
  S1 s0 f1 truth2 w R
def KE_S0 (E : Env) (w : World) (R : Post) : Prop := W.asStr (Env.get? E 0) fun s0 => W.asFn (Env.get? E 1) fun f1 => W.asBool' (Env.get? E 2) fun truth2 => S0 s0 f1 truth2 w R
theorem KE_S0_ok (R : Post) (E : Env) (w : World) (h : KE_S0 E w R) : WP Tryz.prog (cx 21) C0 (Q2 R) E w := by
  obtain ⟨s0, hq0, h_1⟩ := W.asStr_elim h
  obtain ⟨f1, hq1, h_2⟩ := W.asFn_elim h_1
  obtain ⟨truth2, hq2, h_3⟩ := W.asBool_elim h_2
  exact fun a ha => WP.at (n := (cx 21)) (E := [(0, .string s0), (1, f1.v), (2, .bool truth2)]) (WP.seq (c := C0) (x := C25) (y := C1) (by kernel_rfl) <| WP.reg (c := C25) (fun E w => KE_S1 E w R) (by kernel_rfl) (Eq.mp (by kernel_rfl) h_3) fun _ _ a hA hK => (WP.seq (c := C1) (x := C2) (y := C6) (by kernel_rfl) (KE_S1_ok R _ _ hK)) a hA) (ha.cons hq0 (ha.cons hq1 (ha.cons hq2 ha.nil)))
/-- strings.indexFunc -/
theorem ok (s0 : ByteArray) (f1 : Fv) (truth2 : Bool) (w : World) (R : Post) (h : S0 s0 f1 truth2 w R) : Calls Tryz.prog n_strings_indexFunc #[.string s0, f1.v, .bool truth2] w R :=
  calls_of_WP' (R := R) (fn := Tryz.f141) (c := C0) (args := [.string s0, f1.v, .bool truth2]) (by kernel_rfl) (by kernel_rfl) (by kernel_rfl) (KE_S0_ok R _ _ (Eq.mp (by kernel_rfl) h))
end strings_indexFunc
namespace lexer_allDigits
noncomputable def C0 : Code := (Tryz.f92.body).getD .skip
noncomputable def C1:=C0.sn
abbrev Q0 (R : Post) : Exit → Act → World → Prop := (bodyPost Tryz.prog Tryz.f92 R)
noncomputable def C2:=C1.fs
noncomputable def C3:=C1.sn
/-- lexer.go:59 -/
abbrev S1 (s0 : ByteArray) (base3 : Addr) (w : World) (R : Post) : Prop :=
  Calls Tryz.prog n_strings_IndexFunc #[.string s0, .func (.func n_lexer_allDigits_1) #[] #[.pointer (some base3)]] w fun r_ w1 => ∃ t7 : Int, r_ = .returned (.i t7) ∧ 
  R (.returned (.bool (decide (t7 < 0)))) w1
def KE_S1 (E : Env) (w : World) (R : Post) : Prop := W.asStr (Env.get? E 0) fun s0 => W.asRef (Env.get? E 3) fun base3 => S1 s0 base3 w R
theorem KE_S1_ok (R : Post) (E : Env) (w : World) (h : KE_S1 E w R) : WP Tryz.prog (cx 9) C1 (Q0 R) E w := by
  obtain ⟨s0, hq0, h_1⟩ := W.asStr_elim h
  obtain ⟨base3, hq3, h_2⟩ := W.asRef_elim h_1
  exact fun a ha => WP.at (n := (cx 9)) (E := [(0, .string s0), (3, .pointer (some base3))]) (WP.seq (c := C1) (x := C2) (y := C3) (by kernel_rfl) <| WP.reg (c := C2) (fun E w => retVC Tryz.prog Tryz.f92 E w (fun v => R (.returned v) w)) (by kernel_rfl) (Eq.mp (by kernel_rfl) h_2) fun _ _ a hA hK => (WP.ret (c := C3) (by kernel_rfl) fun a hA => retVC_sound hA hK) a hA) (ha.cons hq0 (ha.cons hq3 ha.nil))
noncomputable def C4:=C0.fs
/-- lexer.go:58 -/
abbrev S0 (s0 : ByteArray) (base1 : Int) (w : World) (R : Post) : Prop :=
  let w1 := w.alloc (.cells #[.i base1] ty_int)
  S1 s0 (nb w) w1 R
def KE_S0 (E : Env) (w : World) (R : Post) : Prop := W.asStr (Env.get? E 0) fun s0 => W.asInt .i64 (Env.get? E 1) fun base1 => S0 s0 base1 w R
theorem KE_S0_ok (R : Post) (E : Env) (w : World) (h : KE_S0 E w R) : WP Tryz.prog (cx 9) C0 (Q0 R) E w := by
  obtain ⟨s0, hq0, h_1⟩ := W.asStr_elim h
  obtain ⟨base1, hq1, h_2⟩ := W.asInt_elim h_1
  exact fun a ha => WP.at (n := (cx 9)) (E := [(0, .string s0), (1, .i base1)]) (WP.seq (c := C0) (x := C4) (y := C1) (by kernel_rfl) <| WP.reg (c := C4) (fun E w => KE_S1 E w R) (by kernel_rfl) (Eq.mp (by kernel_rfl) h_2) fun _ _ a hA hK => (KE_S1_ok R _ _ hK) a hA) (ha.cons hq0 (ha.cons hq1 ha.nil))
/-- enthymeme/lexer.allDigits -/
theorem ok (s0 : ByteArray) (base1 : Int) (w : World) (R : Post) (h : S0 s0 base1 w R) : Calls Tryz.prog n_lexer_allDigits #[.string s0, .i base1] w R :=
  calls_of_WP' (R := R) (fn := Tryz.f92) (c := C0) (args := [.string s0, .i base1]) (by kernel_rfl) (by kernel_rfl) (by kernel_rfl) (KE_S0_ok R _ _ (Eq.mp (by kernel_rfl) h))
end lexer_allDigits
namespace lexer_allDigits_1
noncomputable def C0 : Code := (Tryz.f122.body).getD .skip
noncomputable def C1:=C0.sn
abbrev Q0 (R : Post) : Exit → Act → World → Prop := (bodyPost Tryz.prog Tryz.f122 R)
noncomputable def C2:=C1.fs
noncomputable def C3:=C1.sn
/-- lexer.go:59 -/
abbrev S1 (c0 : Int) (t1 : Addr) (w : World) (R : Post) : Prop :=
  ∃ t5 : Int, w.cell? t1 = some (.i t5) ∧ 
  Calls Tryz.prog n_lexer_digit_rune #[.int .i32 c0, .i t5] w fun r_ w1 => ∃ t6 : Bool, r_ = .returned (.bool t6) ∧ 
  R (.returned (.bool (!t6))) w1
def KE_S1 (E : Env) (w : World) (R : Post) : Prop := W.asInt .i32 (Env.get? E 0) fun c0 => W.asRef (Env.get? E 1) fun t1 => S1 c0 t1 w R
theorem KE_S1_ok (R : Post) (E : Env) (w : World) (h : KE_S1 E w R) : WP Tryz.prog (cx 8) C1 (Q0 R) E w := by
  obtain ⟨c0, hq0, h_1⟩ := W.asInt_elim h
  obtain ⟨t1, hq1, h_2⟩ := W.asRef_elim h_1
  exact fun a ha => WP.at (n := (cx 8)) (E := [(0, .int .i32 c0), (1, .pointer (some t1))]) (WP.seq (c := C1) (x := C2) (y := C3) (by kernel_rfl) <| WP.reg (c := C2) (fun E w => retVC Tryz.prog Tryz.f122 E w (fun v => R (.returned v) w)) (by kernel_rfl) (Eq.mp (by kernel_rfl) h_2) fun _ _ a hA hK => (WP.ret (c := C3) (by kernel_rfl) fun a hA => retVC_sound hA hK) a hA) (ha.cons hq0 (ha.cons hq1 ha.nil))
noncomputable def C4:=C0.fs
/-- lexer.go:59 -/
abbrev S0 (c0 : Int) (t1 : Addr) (w : World) (R : Post) : Prop :=
  S1 c0 t1 w R
def KE_S0 (E : Env) (w : World) (R : Post) : Prop := W.asInt .i32 (Env.get? E 0) fun c0 => W.asRef (Env.get? E 1) fun t1 => S0 c0 t1 w R
theorem KE_S0_ok (R : Post) (E : Env) (w : World) (h : KE_S0 E w R) : WP Tryz.prog (cx 8) C0 (Q0 R) E w := by
  obtain ⟨c0, hq0, h_1⟩ := W.asInt_elim h
  obtain ⟨t1, hq1, h_2⟩ := W.asRef_elim h_1
  exact fun a ha => WP.at (n := (cx 8)) (E := [(0, .int .i32 c0), (1, .pointer (some t1))]) (WP.seq (c := C0) (x := C4) (y := C1) (by kernel_rfl) <| WP.reg (c := C4) (fun E w => KE_S1 E w R) (by kernel_rfl) (Eq.mp (by kernel_rfl) h_2) fun _ _ a hA hK => (KE_S1_ok R _ _ hK) a hA) (ha.cons hq0 (ha.cons hq1 ha.nil))
/-- enthymeme/lexer.allDigits$1 -/
theorem ok (c0 : Int) (t1 : Addr) (w : World) (R : Post) (h : S0 c0 t1 w R) : Calls Tryz.prog n_lexer_allDigits_1 #[.int .i32 c0, .pointer (some t1)] w R :=
  calls_of_WP' (R := R) (fn := Tryz.f122) (c := C0) (args := [.int .i32 c0, .pointer (some t1)]) (by kernel_rfl) (by kernel_rfl) (by kernel_rfl) (KE_S0_ok R _ _ (Eq.mp (by kernel_rfl) h))
end lexer_allDigits_1
namespace lexer_digit_rune
noncomputable def C0 : Code := (Tryz.f123.body).getD .skip
noncomputable def C1:=C0.sn
noncomputable def C2:=C1.fs
noncomputable def C3:=C2.sn
noncomputable def C4:=C3.fs
noncomputable def C5:=C4.sn
noncomputable def C6:=C5.fs
noncomputable def C7:=C1.sn
abbrev Q0 (R : Post) : Exit → Act → World → Prop := (Exit.then (wpx Tryz.prog (cx 36) C7 (bodyPost Tryz.prog Tryz.f123 R)) (bodyPost Tryz.prog Tryz.f123 R))
abbrev Q1 (R : Post) : Exit → Act → World → Prop := (Exit.inBlock 0 (Q0 R))
noncomputable def C8:=C6.fs
noncomputable def C9:=C6.sn
/-- lexer.go:50 -/
abbrev S3 (c0 : Int) (w : World) (R : Post) : Prop :=
  sel (c0 == 48) (R (.returned (.bool true)) w) (R (.returned (.bool (c0 == 49))) w)
def KE_S3 (E : Env) (w : World) (R : Post) : Prop := W.asInt .i32 (Env.get? E 0) fun c0 => S3 c0 w R
theorem KE_S3_ok (R : Post) (E : Env) (w : World) (h : KE_S3 E w R) : WP Tryz.prog (cx 36) C6 (Q1 R) E w := by
  obtain ⟨c0, hq0, h_1⟩ := W.asInt_elim h
  exact fun a ha => WP.at (n := (cx 36)) (E := [(0, .int .i32 c0)]) (WP.seq (c := C6) (x := C8) (y := C9) (by kernel_rfl) <| WP.reg (c := C8) (fun E w => retVC Tryz.prog Tryz.f123 E w (fun v => R (.returned v) w)) (by kernel_rfl) (Eq.mp (by kernel_rfl) h_1) fun _ _ a hA hK => (WP.ret (c := C9) (by kernel_rfl) fun a hA => retVC_sound hA hK) a hA) (ha.cons hq0 ha.nil)
noncomputable def C10:=C5.sn
noncomputable def C11:=C10.sn
noncomputable def C12:=C11.fs
noncomputable def C13:=C12.fs
noncomputable def C14:=C12.sn
/-- lexer.go:52 -/
abbrev S5 (c0 : Int) (w : World) (R : Post) : Prop :=
  sel (decide (c0 ≥ 48)) (sel (decide (c0 ≤ 57)) (R (.returned (.bool true)) w) (sel (decide (c0 ≥ 97)) (R (.returned (.bool (decide (c0 ≤ 102)))) w) (R (.returned (.bool false)) w))) (sel (decide (c0 ≥ 97)) (R (.returned (.bool (decide (c0 ≤ 102)))) w) (R (.returned (.bool false)) w))
def KE_S5 (E : Env) (w : World) (R : Post) : Prop := W.asInt .i32 (Env.get? E 0) fun c0 => S5 c0 w R
theorem KE_S5_ok (R : Post) (E : Env) (w : World) (h : KE_S5 E w R) : WP Tryz.prog (cx 36) C12 (Q1 R) E w := by
  obtain ⟨c0, hq0, h_1⟩ := W.asInt_elim h
  exact fun a ha => WP.at (n := (cx 36)) (E := [(0, .int .i32 c0)]) (WP.seq (c := C12) (x := C13) (y := C14) (by kernel_rfl) <| WP.reg (c := C13) (fun E w => retVC Tryz.prog Tryz.f123 E w (fun v => R (.returned v) w)) (by kernel_rfl) (Eq.mp (by kernel_rfl) h_1) fun _ _ a hA hK => (WP.ret (c := C14) (by kernel_rfl) fun a hA => retVC_sound hA hK) a hA) (ha.cons hq0 ha.nil)
abbrev Q2 (R : Post) : Exit → Act → World → Prop := (bodyPost Tryz.prog Tryz.f123 R)
noncomputable def C15:=C7.fs
noncomputable def C16:=C7.sn
/-- lexer.go:54 -/
abbrev S6 (c0 : Int) (w : World) (R : Post) : Prop :=
  sel (decide (c0 ≥ 48)) (R (.returned (.bool (decide (c0 ≤ 57)))) w) (R (.returned (.bool false)) w)
def KE_S6 (E : Env) (w : World) (R : Post) : Prop := W.asInt .i32 (Env.get? E 0) fun c0 => S6 c0 w R
theorem KE_S6_ok (R : Post) (E : Env) (w : World) (h : KE_S6 E w R) : WP Tryz.prog (cx 36) C7 (Q2 R) E w := by
  obtain ⟨c0, hq0, h_1⟩ := W.asInt_elim h
  exact fun a ha => WP.at (n := (cx 36)) (E := [(0, .int .i32 c0)]) (WP.seq (c := C7) (x := C15) (y := C16) (by kernel_rfl) <| WP.reg (c := C15) (fun E w => retVC Tryz.prog Tryz.f123 E w (fun v => R (.returned v) w)) (by kernel_rfl) (Eq.mp (by kernel_rfl) h_1) fun _ _ a hA hK => (WP.ret (c := C16) (by kernel_rfl) fun a hA => retVC_sound hA hK) a hA) (ha.cons hq0 ha.nil)
noncomputable def C17:=C10.fs
noncomputable def C18:=C11.sn
/-- lexer.go:51 -/
abbrev S4 (c0 t5 : Int) (w : World) (R : Post) : Prop :=
  sel (t5 == 16) (S5 c0 w R) (S6 c0 w R)
def KE_S4 (E : Env) (w : World) (R : Post) : Prop := W.asInt .i32 (Env.get? E 0) fun c0 => W.asInt .i64 (Env.get? E 5) fun t5 => S4 c0 t5 w R
theorem KE_S4_ok (R : Post) (E : Env) (w : World) (h : KE_S4 E w R) : WP Tryz.prog (cx 36) C10 (Q1 R) E w := by
  obtain ⟨c0, hq0, h_1⟩ := W.asInt_elim h
  obtain ⟨t5, hq5, h_2⟩ := W.asInt_elim h_1
  exact fun a ha => WP.at (n := (cx 36)) (E := [(0, .int .i32 c0), (5, .i t5)]) (WP.seq (c := C10) (x := C17) (y := C11) (by kernel_rfl) <| WP.reg (c := C17) (fun E w => condK (Env.val E (.tmp 14)) (KE_S5 E w R) (KE_S6 E w R)) (by kernel_rfl) (Eq.mp (by kernel_rfl) h_2) fun _ _ a hA hK => (WP.condK (c := C11) (x := C12) (y := C18) (o := .tmp 14) (by kernel_rfl) (fun hK => (KE_S5_ok R _ _ hK)) (fun hK => (WP.skip (c := C18) (by kernel_rfl) fun a hA => (KE_S6_ok R _ _ hK) a hA)) hK) a hA) (ha.cons hq0 (ha.cons hq5 ha.nil))
noncomputable def C19:=C4.fs
/-- lexer.go:49 -/
abbrev S2 (c0 t5 : Int) (w : World) (R : Post) : Prop :=
  sel (t5 == 2) (S3 c0 w R) (S4 c0 t5 w R)
def KE_S2 (E : Env) (w : World) (R : Post) : Prop := W.asInt .i32 (Env.get? E 0) fun c0 => W.asInt .i64 (Env.get? E 5) fun t5 => S2 c0 t5 w R
theorem KE_S2_ok (R : Post) (E : Env) (w : World) (h : KE_S2 E w R) : WP Tryz.prog (cx 36) C4 (Q1 R) E w := by
  obtain ⟨c0, hq0, h_1⟩ := W.asInt_elim h
  obtain ⟨t5, hq5, h_2⟩ := W.asInt_elim h_1
  exact fun a ha => WP.at (n := (cx 36)) (E := [(0, .int .i32 c0), (5, .i t5)]) (WP.seq (c := C4) (x := C19) (y := C5) (by kernel_rfl) <| WP.reg (c := C19) (fun E w => condK (Env.val E (.tmp 6)) (KE_S3 E w R) (KE_S4 E w R)) (by kernel_rfl) (Eq.mp (by kernel_rfl) h_2) fun _ _ a hA hK => (WP.condK (c := C5) (x := C6) (y := C10) (o := .tmp 6) (by kernel_rfl) (fun hK => (KE_S3_ok R _ _ hK)) (fun hK => (KE_S4_ok R _ _ hK)) hK) a hA) (ha.cons hq0 (ha.cons hq5 ha.nil))
noncomputable def C20:=C2.fs
/-- lexer.go:48 -/
abbrev S1 (c0 base1 : Int) (w : World) (R : Post) : Prop :=
  S2 c0 base1 w R
def KE_S1 (E : Env) (w : World) (R : Post) : Prop := W.asInt .i32 (Env.get? E 0) fun c0 => W.asInt .i64 (Env.get? E 1) fun base1 => S1 c0 base1 w R
theorem KE_S1_ok (R : Post) (E : Env) (w : World) (h : KE_S1 E w R) : WP Tryz.prog (cx 36) C2 (Q0 R) E w := by
  obtain ⟨c0, hq0, h_1⟩ := W.asInt_elim h
  obtain ⟨base1, hq1, h_2⟩ := W.asInt_elim h_1
  exact fun a ha => WP.at (n := (cx 36)) (E := [(0, .int .i32 c0), (1, .i base1)]) (WP.seq (c := C2) (x := C20) (y := C3) (by kernel_rfl) <| WP.reg (c := C20) (fun E w => KE_S2 E w R) (by kernel_rfl) (Eq.mp (by kernel_rfl) h_2) fun _ _ a hA hK => (WP.block (c := C3) (x := C4) (id := 0) (by kernel_rfl) (KE_S2_ok R _ _ hK)) a hA) (ha.cons hq0 (ha.cons hq1 ha.nil))
noncomputable def C21:=C0.fs
/-- lexer.go:47 -/
abbrev S0 (c0 base1 : Int) (w : World) (R : Post) : Prop :=
  S1 c0 base1 w R
def KE_S0 (E : Env) (w : World) (R : Post) : Prop := W.asInt .i32 (Env.get? E 0) fun c0 => W.asInt .i64 (Env.get? E 1) fun base1 => S0 c0 base1 w R
theorem KE_S0_ok (R : Post) (E : Env) (w : World) (h : KE_S0 E w R) : WP Tryz.prog (cx 36) C0 (Q2 R) E w := by
  obtain ⟨c0, hq0, h_1⟩ := W.asInt_elim h
  obtain ⟨base1, hq1, h_2⟩ := W.asInt_elim h_1
  exact fun a ha => WP.at (n := (cx 36)) (E := [(0, .int .i32 c0), (1, .i base1)]) (WP.seq (c := C0) (x := C21) (y := C1) (by kernel_rfl) <| WP.reg (c := C21) (fun E w => KE_S1 E w R) (by kernel_rfl) (Eq.mp (by kernel_rfl) h_2) fun _ _ a hA hK => (WP.seq (c := C1) (x := C2) (y := C7) (by kernel_rfl) (KE_S1_ok R _ _ hK)) a hA) (ha.cons hq0 (ha.cons hq1 ha.nil))
/-- enthymeme/lexer.digit[rune] -/
theorem ok (c0 base1 : Int) (w : World) (R : Post) (h : S0 c0 base1 w R) : Calls Tryz.prog n_lexer_digit_rune #[.int .i32 c0, .i base1] w R :=
  calls_of_WP' (R := R) (fn := Tryz.f123) (c := C0) (args := [.int .i32 c0, .i base1]) (by kernel_rfl) (by kernel_rfl) (by kernel_rfl) (KE_S0_ok R _ _ (Eq.mp (by kernel_rfl) h))
end lexer_digit_rune
namespace lexer_small_byte
noncomputable def C0 : Code := (Tryz.f68.body).getD .skip
noncomputable def C1:=C0.sn
abbrev Q0 (R : Post) : Exit → Act → World → Prop := (bodyPost Tryz.prog Tryz.f68 R)
noncomputable def C2:=C1.fs
noncomputable def C3:=C1.sn
/-- lexer.go:44 -/
abbrev S1 (c0 : Int) (w : World) (R : Post) : Prop :=
  sel (decide (c0 ≥ 97)) (R (.returned (.bool (decide (c0 ≤ 122)))) w) (R (.returned (.bool false)) w)
def KE_S1 (E : Env) (w : World) (R : Post) : Prop := W.asInt .u8 (Env.get? E 0) fun c0 => S1 c0 w R
theorem KE_S1_ok (R : Post) (E : Env) (w : World) (h : KE_S1 E w R) : WP Tryz.prog (cx 9) C1 (Q0 R) E w := by
  obtain ⟨c0, hq0, h_1⟩ := W.asInt_elim h
  exact fun a ha => WP.at (n := (cx 9)) (E := [(0, .int .u8 c0)]) (WP.seq (c := C1) (x := C2) (y := C3) (by kernel_rfl) <| WP.reg (c := C2) (fun E w => retVC Tryz.prog Tryz.f68 E w (fun v => R (.returned v) w)) (by kernel_rfl) (Eq.mp (by kernel_rfl) h_1) fun _ _ a hA hK => (WP.ret (c := C3) (by kernel_rfl) fun a hA => retVC_sound hA hK) a hA) (ha.cons hq0 ha.nil)
noncomputable def C4:=C0.fs
/-- lexer.go:44 -/
abbrev S0 (c0 : Int) (w : World) (R : Post) : Prop :=
  S1 c0 w R
def KE_S0 (E : Env) (w : World) (R : Post) : Prop := W.asInt .u8 (Env.get? E 0) fun c0 => S0 c0 w R
theorem KE_S0_ok (R : Post) (E : Env) (w : World) (h : KE_S0 E w R) : WP Tryz.prog (cx 9) C0 (Q0 R) E w := by
  obtain ⟨c0, hq0, h_1⟩ := W.asInt_elim h
  exact fun a ha => WP.at (n := (cx 9)) (E := [(0, .int .u8 c0)]) (WP.seq (c := C0) (x := C4) (y := C1) (by kernel_rfl) <| WP.reg (c := C4) (fun E w => KE_S1 E w R) (by kernel_rfl) (Eq.mp (by kernel_rfl) h_1) fun _ _ a hA hK => (KE_S1_ok R _ _ hK) a hA) (ha.cons hq0 ha.nil)
/-- enthymeme/lexer.small[byte] -/
theorem ok (c0 : Int) (w : World) (R : Post) (h : S0 c0 w R) : Calls Tryz.prog n_lexer_small_byte #[.int .u8 c0] w R :=
  calls_of_WP' (R := R) (fn := Tryz.f68) (c := C0) (args := [.int .u8 c0]) (by kernel_rfl) (by kernel_rfl) (by kernel_rfl) (KE_S0_ok R _ _ (Eq.mp (by kernel_rfl) h))
end lexer_small_byte
namespace lexer_digit_byte
noncomputable def C0 : Code := (Tryz.f69.body).getD .skip
noncomputable def C1:=C0.sn
noncomputable def C2:=C1.fs
noncomputable def C3:=C2.sn
noncomputable def C4:=C3.fs
noncomputable def C5:=C4.sn
noncomputable def C6:=C5.fs
noncomputable def C7:=C1.sn
abbrev Q0 (R : Post) : Exit → Act → World → Prop := (Exit.then (wpx Tryz.prog (cx 36) C7 (bodyPost Tryz.prog Tryz.f69 R)) (bodyPost Tryz.prog Tryz.f69 R))
abbrev Q1 (R : Post) : Exit → Act → World → Prop := (Exit.inBlock 0 (Q0 R))
noncomputable def C8:=C6.fs
noncomputable def C9:=C6.sn
/-- lexer.go:50 -/
abbrev S3 (c0 : Int) (w : World) (R : Post) : Prop :=
  sel (c0 == 48) (R (.returned (.bool true)) w) (R (.returned (.bool (c0 == 49))) w)
def KE_S3 (E : Env) (w : World) (R : Post) : Prop := W.asInt .u8 (Env.get? E 0) fun c0 => S3 c0 w R
theorem KE_S3_ok (R : Post) (E : Env) (w : World) (h : KE_S3 E w R) : WP Tryz.prog (cx 36) C6 (Q1 R) E w := by
  obtain ⟨c0, hq0, h_1⟩ := W.asInt_elim h
  exact fun a ha => WP.at (n := (cx 36)) (E := [(0, .int .u8 c0)]) (WP.seq (c := C6) (x := C8) (y := C9) (by kernel_rfl) <| WP.reg (c := C8) (fun E w => retVC Tryz.prog Tryz.f69 E w (fun v => R (.returned v) w)) (by kernel_rfl) (Eq.mp (by kernel_rfl) h_1) fun _ _ a hA hK => (WP.ret (c := C9) (by kernel_rfl) fun a hA => retVC_sound hA hK) a hA) (ha.cons hq0 ha.nil)
noncomputable def C10:=C5.sn
noncomputable def C11:=C10.sn
noncomputable def C12:=C11.fs
noncomputable def C13:=C12.fs
noncomputable def C14:=C12.sn
/-- lexer.go:52 -/
abbrev S5 (c0 : Int) (w : World) (R : Post) : Prop :=
  sel (decide (c0 ≥ 48)) (sel (decide (c0 ≤ 57)) (R (.returned (.bool true)) w) (sel (decide (c0 ≥ 97)) (R (.returned (.bool (decide (c0 ≤ 102)))) w) (R (.returned (.bool false)) w))) (sel (decide (c0 ≥ 97)) (R (.returned (.bool (decide (c0 ≤ 102)))) w) (R (.returned (.bool false)) w))
def KE_S5 (E : Env) (w : World) (R : Post) : Prop := W.asInt .u8 (Env.get? E 0) fun c0 => S5 c0 w R
theorem KE_S5_ok (R : Post) (E : Env) (w : World) (h : KE_S5 E w R) : WP Tryz.prog (cx 36) C12 (Q1 R) E w := by
  obtain ⟨c0, hq0, h_1⟩ := W.asInt_elim h
  exact fun a ha => WP.at (n := (cx 36)) (E := [(0, .int .u8 c0)]) (WP.seq (c := C12) (x := C13) (y := C14) (by kernel_rfl) <| WP.reg (c := C13) (fun E w => retVC Tryz.prog Tryz.f69 E w (fun v => R (.returned v) w)) (by kernel_rfl) (Eq.mp (by kernel_rfl) h_1) fun _ _ a hA hK => (WP.ret (c := C14) (by kernel_rfl) fun a hA => retVC_sound hA hK) a hA) (ha.cons hq0 ha.nil)
abbrev Q2 (R : Post) : Exit → Act → World → Prop := (bodyPost Tryz.prog Tryz.f69 R)
noncomputable def C15:=C7.fs
noncomputable def C16:=C7.sn
/-- lexer.go:54 -/
abbrev S6 (c0 : Int) (w : World) (R : Post) : Prop :=
  sel (decide (c0 ≥ 48)) (R (.returned (.bool (decide (c0 ≤ 57)))) w) (R (.returned (.bool false)) w)
def KE_S6 (E : Env) (w : World) (R : Post) : Prop := W.asInt .u8 (Env.get? E 0) fun c0 => S6 c0 w R
theorem KE_S6_ok (R : Post) (E : Env) (w : World) (h : KE_S6 E w R) : WP Tryz.prog (cx 36) C7 (Q2 R) E w := by
  obtain ⟨c0, hq0, h_1⟩ := W.asInt_elim h
  exact fun a ha => WP.at (n := (cx 36)) (E := [(0, .int .u8 c0)]) (WP.seq (c := C7) (x := C15) (y := C16) (by kernel_rfl) <| WP.reg (c := C15) (fun E w => retVC Tryz.prog Tryz.f69 E w (fun v => R (.returned v) w)) (by kernel_rfl) (Eq.mp (by kernel_rfl) h_1) fun _ _ a hA hK => (WP.ret (c := C16) (by kernel_rfl) fun a hA => retVC_sound hA hK) a hA) (ha.cons hq0 ha.nil)
noncomputable def C17:=C10.fs
noncomputable def C18:=C11.sn
/-- lexer.go:51 -/
abbrev S4 (c0 t5 : Int) (w : World) (R : Post) : Prop :=
  sel (t5 == 16) (S5 c0 w R) (S6 c0 w R)
def KE_S4 (E : Env) (w : World) (R : Post) : Prop := W.asInt .u8 (Env.get? E 0) fun c0 => W.asInt .i64 (Env.get? E 5) fun t5 => S4 c0 t5 w R
theorem KE_S4_ok (R : Post) (E : Env) (w : World) (h : KE_S4 E w R) : WP Tryz.prog (cx 36) C10 (Q1 R) E w := by
  obtain ⟨c0, hq0, h_1⟩ := W.asInt_elim h
  obtain ⟨t5, hq5, h_2⟩ := W.asInt_elim h_1
  exact fun a ha => WP.at (n := (cx 36)) (E := [(0, .int .u8 c0), (5, .i t5)]) (WP.seq (c := C10) (x := C17) (y := C11) (by kernel_rfl) <| WP.reg (c := C17) (fun E w => condK (Env.val E (.tmp 14)) (KE_S5 E w R) (KE_S6 E w R)) (by kernel_rfl) (Eq.mp (by kernel_rfl) h_2) fun _ _ a hA hK => (WP.condK (c := C11) (x := C12) (y := C18) (o := .tmp 14) (by kernel_rfl) (fun hK => (KE_S5_ok R _ _ hK)) (fun hK => (WP.skip (c := C18) (by kernel_rfl) fun a hA => (KE_S6_ok R _ _ hK) a hA)) hK) a hA) (ha.cons hq0 (ha.cons hq5 ha.nil))
noncomputable def C19:=C4.fs
/-- lexer.go:49 -/
abbrev S2 (c0 t5 : Int) (w : World) (R : Post) : Prop :=
  sel (t5 == 2) (S3 c0 w R) (S4 c0 t5 w R)
def KE_S2 (E : Env) (w : World) (R : Post) : Prop := W.asInt .u8 (Env.get? E 0) fun c0 => W.asInt .i64 (Env.get? E 5) fun t5 => S2 c0 t5 w R
theorem KE_S2_ok (R : Post) (E : Env) (w : World) (h : KE_S2 E w R) : WP Tryz.prog (cx 36) C4 (Q1 R) E w := by
  obtain ⟨c0, hq0, h_1⟩ := W.asInt_elim h
  obtain ⟨t5, hq5, h_2⟩ := W.asInt_elim h_1
  exact fun a ha => WP.at (n := (cx 36)) (E := [(0, .int .u8 c0), (5, .i t5)]) (WP.seq (c := C4) (x := C19) (y := C5) (by kernel_rfl) <| WP.reg (c := C19) (fun E w => condK (Env.val E (.tmp 6)) (KE_S3 E w R) (KE_S4 E w R)) (by kernel_rfl) (Eq.mp (by kernel_rfl) h_2) fun _ _ a hA hK => (WP.condK (c := C5) (x := C6) (y := C10) (o := .tmp 6) (by kernel_rfl) (fun hK => (KE_S3_ok R _ _ hK)) (fun hK => (KE_S4_ok R _ _ hK)) hK) a hA) (ha.cons hq0 (ha.cons hq5 ha.nil))
noncomputable def C20:=C2.fs
/-- lexer.go:48 -/
abbrev S1 (c0 base1 : Int) (w : World) (R : Post) : Prop :=
  S2 c0 base1 w R
def KE_S1 (E : Env) (w : World) (R : Post) : Prop := W.asInt .u8 (Env.get? E 0) fun c0 => W.asInt .i64 (Env.get? E 1) fun base1 => S1 c0 base1 w R
theorem KE_S1_ok (R : Post) (E : Env) (w : World) (h : KE_S1 E w R) : WP Tryz.prog (cx 36) C2 (Q0 R) E w := by
  obtain ⟨c0, hq0, h_1⟩ := W.asInt_elim h
  obtain ⟨base1, hq1, h_2⟩ := W.asInt_elim h_1
  exact fun a ha => WP.at (n := (cx 36)) (E := [(0, .int .u8 c0), (1, .i base1)]) (WP.seq (c := C2) (x := C20) (y := C3) (by kernel_rfl) <| WP.reg (c := C20) (fun E w => KE_S2 E w R) (by kernel_rfl) (Eq.mp (by kernel_rfl) h_2) fun _ _ a hA hK => (WP.block (c := C3) (x := C4) (id := 0) (by kernel_rfl) (KE_S2_ok R _ _ hK)) a hA) (ha.cons hq0 (ha.cons hq1 ha.nil))
noncomputable def C21:=C0.fs
/-- lexer.go:47 -/
abbrev S0 (c0 base1 : Int) (w : World) (R : Post) : Prop :=
  S1 c0 base1 w R
def KE_S0 (E : Env) (w : World) (R : Post) : Prop := W.asInt .u8 (Env.get? E 0) fun c0 => W.asInt .i64 (Env.get? E 1) fun base1 => S0 c0 base1 w R
theorem KE_S0_ok (R : Post) (E : Env) (w : World) (h : KE_S0 E w R) : WP Tryz.prog (cx 36) C0 (Q2 R) E w := by
  obtain ⟨c0, hq0, h_1⟩ := W.asInt_elim h
  obtain ⟨base1, hq1, h_2⟩ := W.asInt_elim h_1
  exact fun a ha => WP.at (n := (cx 36)) (E := [(0, .int .u8 c0), (1, .i base1)]) (WP.seq (c := C0) (x := C21) (y := C1) (by kernel_rfl) <| WP.reg (c := C21) (fun E w => KE_S1 E w R) (by kernel_rfl) (Eq.mp (by kernel_rfl) h_2) fun _ _ a hA hK => (WP.seq (c := C1) (x := C2) (y := C7) (by kernel_rfl) (KE_S1_ok R _ _ hK)) a hA) (ha.cons hq0 (ha.cons hq1 ha.nil))
/-- enthymeme/lexer.digit[byte] -/
theorem ok (c0 base1 : Int) (w : World) (R : Post) (h : S0 c0 base1 w R) : Calls Tryz.prog n_lexer_digit_byte #[.int .u8 c0, .i base1] w R :=
  calls_of_WP' (R := R) (fn := Tryz.f69) (c := C0) (args := [.int .u8 c0, .i base1]) (by kernel_rfl) (by kernel_rfl) (by kernel_rfl) (KE_S0_ok R _ _ (Eq.mp (by kernel_rfl) h))
end lexer_digit_byte
namespace lexer_examine
noncomputable def C0 : Code := (Tryz.f70.body).getD .skip
noncomputable def C1:=C0.sn
noncomputable def C2:=C1.fs
noncomputable def C3:=C2.sn
noncomputable def C4:=C3.fs
noncomputable def C5:=C4.fs
noncomputable def C6:=C5.sn
noncomputable def C7:=C6.fs
noncomputable def C8:=C1.sn
noncomputable def C9:=C4.sn
abbrev Q0 (R : Post) : Exit → Act → World → Prop := (Exit.then (wpx Tryz.prog (cx 60) C9 (Exit.then (wpx Tryz.prog (cx 60) C8 (bodyPost Tryz.prog Tryz.f70 R)) (bodyPost Tryz.prog Tryz.f70 R))) (Exit.then (wpx Tryz.prog (cx 60) C8 (bodyPost Tryz.prog Tryz.f70 R)) (bodyPost Tryz.prog Tryz.f70 R)))
noncomputable def C10:=C7.fs
noncomputable def C11:=C7.sn
/-- lexer.go:66 -/
abbrev S3  (w : World) (R : Post) : Prop :=
  R (.returned (.tuple #[.i 0, .i 2])) w
def KE_S3 (E : Env) (w : World) (R : Post) : Prop := S3  w R
theorem KE_S3_ok (R : Post) (E : Env) (w : World) (h : KE_S3 E w R) : WP Tryz.prog (cx 60) C7 (Q0 R) E w := by
  exact fun a ha => WP.at (n := (cx 60)) (E := []) (WP.seq (c := C7) (x := C10) (y := C11) (by kernel_rfl) <| WP.reg (c := C10) (fun E w => retVC Tryz.prog Tryz.f70 E w (fun v => R (.returned v) w)) (by kernel_rfl) (Eq.mp (by kernel_rfl) h) fun _ _ a hA hK => (WP.ret (c := C11) (by kernel_rfl) fun a hA => retVC_sound hA hK) a hA) ha.nil
noncomputable def C12:=C9.fs
noncomputable def C13:=C12.sn
noncomputable def C14:=C13.fs
noncomputable def C15:=C9.sn
abbrev Q1 (R : Post) : Exit → Act → World → Prop := (Exit.then (wpx Tryz.prog (cx 60) C15 (Exit.then (wpx Tryz.prog (cx 60) C8 (bodyPost Tryz.prog Tryz.f70 R)) (bodyPost Tryz.prog Tryz.f70 R))) (Exit.then (wpx Tryz.prog (cx 60) C8 (bodyPost Tryz.prog Tryz.f70 R)) (bodyPost Tryz.prog Tryz.f70 R)))
noncomputable def C16:=C14.fs
noncomputable def C17:=C14.sn
/-- lexer.go:69 -/
abbrev S5  (w : World) (R : Post) : Prop :=
  R (.returned (.tuple #[.i 0, .i 6])) w
def KE_S5 (E : Env) (w : World) (R : Post) : Prop := S5  w R
theorem KE_S5_ok (R : Post) (E : Env) (w : World) (h : KE_S5 E w R) : WP Tryz.prog (cx 60) C14 (Q1 R) E w := by
  exact fun a ha => WP.at (n := (cx 60)) (E := []) (WP.seq (c := C14) (x := C16) (y := C17) (by kernel_rfl) <| WP.reg (c := C16) (fun E w => retVC Tryz.prog Tryz.f70 E w (fun v => R (.returned v) w)) (by kernel_rfl) (Eq.mp (by kernel_rfl) h) fun _ _ a hA hK => (WP.ret (c := C17) (by kernel_rfl) fun a hA => retVC_sound hA hK) a hA) ha.nil
abbrev Q2 (R : Post) : Exit → Act → World → Prop := (Exit.then (wpx Tryz.prog (cx 60) C8 (bodyPost Tryz.prog Tryz.f70 R)) (bodyPost Tryz.prog Tryz.f70 R))
noncomputable def C18:=C15.fs
noncomputable def C19:=C15.sn
/-- lexer.go:71 -/
abbrev S6  (w : World) (R : Post) : Prop :=
  R (.returned (.tuple #[.i 2, .i 0])) w
def KE_S6 (E : Env) (w : World) (R : Post) : Prop := S6  w R
theorem KE_S6_ok (R : Post) (E : Env) (w : World) (h : KE_S6 E w R) : WP Tryz.prog (cx 60) C15 (Q2 R) E w := by
  exact fun a ha => WP.at (n := (cx 60)) (E := []) (WP.seq (c := C15) (x := C18) (y := C19) (by kernel_rfl) <| WP.reg (c := C18) (fun E w => retVC Tryz.prog Tryz.f70 E w (fun v => R (.returned v) w)) (by kernel_rfl) (Eq.mp (by kernel_rfl) h) fun _ _ a hA hK => (WP.ret (c := C19) (by kernel_rfl) fun a hA => retVC_sound hA hK) a hA) ha.nil
noncomputable def C20:=C12.fs
noncomputable def C21:=C13.sn
/-- lexer.go:68 -/
abbrev S4 (s0 : ByteArray) (w : World) (R : Post) : Prop :=
  sel (decide (((s0.size : Nat) : Int) > 16)) (S5  w R) (S6  w R)
def KE_S4 (E : Env) (w : World) (R : Post) : Prop := W.asStr (Env.get? E 0) fun s0 => S4 s0 w R
theorem KE_S4_ok (R : Post) (E : Env) (w : World) (h : KE_S4 E w R) : WP Tryz.prog (cx 60) C12 (Q1 R) E w := by
  obtain ⟨s0, hq0, h_1⟩ := W.asStr_elim h
  exact fun a ha => WP.at (n := (cx 60)) (E := [(0, .string s0)]) (WP.seq (c := C12) (x := C20) (y := C13) (by kernel_rfl) <| WP.reg (c := C20) (fun E w => condK (Env.val E (.tmp 14)) (KE_S5 E w R) (KE_S6 E w R)) (by kernel_rfl) (Eq.mp (by kernel_rfl) h_1) fun _ _ a hA hK => (WP.condK (c := C13) (x := C14) (y := C21) (o := .tmp 14) (by kernel_rfl) (fun hK => (KE_S5_ok R _ _ hK)) (fun hK => (WP.skip (c := C21) (by kernel_rfl) fun a hA => (KE_S6_ok R _ _ hK) a hA)) hK) a hA) (ha.cons hq0 ha.nil)
noncomputable def C22:=C5.fs
noncomputable def C23:=C6.sn
/-- lexer.go:65 -/
abbrev S2 (s0 : ByteArray) (w : World) (R : Post) : Prop :=
  Calls Tryz.prog n_strings_IndexByte #[.string s0, .int .u8 35] w fun r_ w1 => ∃ t10 : Int, r_ = .returned (.i t10) ∧ 
  sel (decide (t10 ≥ 0)) (S3  w1 R) (S4 s0 w1 R)
def KE_S2 (E : Env) (w : World) (R : Post) : Prop := W.asStr (Env.get? E 0) fun s0 => S2 s0 w R
theorem KE_S2_ok (R : Post) (E : Env) (w : World) (h : KE_S2 E w R) : WP Tryz.prog (cx 60) C5 (Q0 R) E w := by
  obtain ⟨s0, hq0, h_1⟩ := W.asStr_elim h
  exact fun a ha => WP.at (n := (cx 60)) (E := [(0, .string s0)]) (WP.seq (c := C5) (x := C22) (y := C6) (by kernel_rfl) <| WP.reg (c := C22) (fun E w => condK (Env.val E (.tmp 11)) (KE_S3 E w R) (KE_S4 E w R)) (by kernel_rfl) (Eq.mp (by kernel_rfl) h_1) fun _ _ a hA hK => (WP.condK (c := C6) (x := C7) (y := C23) (o := .tmp 11) (by kernel_rfl) (fun hK => (KE_S3_ok R _ _ hK)) (fun hK => (WP.skip (c := C23) (by kernel_rfl) fun a hA => (WP.seq (c := C9) (x := C12) (y := C15) (by kernel_rfl) (KE_S4_ok R _ _ hK)) a hA)) hK) a hA) (ha.cons hq0 ha.nil)
noncomputable def C24:=C8.fs
noncomputable def C25:=C24.sn
noncomputable def C26:=C25.fs
noncomputable def C27:=C26.fs
noncomputable def C28:=C27.sn
noncomputable def C29:=C28.fs
noncomputable def C30:=C8.sn
noncomputable def C31:=C26.sn
abbrev Q3 (R : Post) : Exit → Act → World → Prop := (Exit.then (wpx Tryz.prog (cx 60) C31 (Exit.then (wpx Tryz.prog (cx 60) C30 (bodyPost Tryz.prog Tryz.f70 R)) (bodyPost Tryz.prog Tryz.f70 R))) (Exit.then (wpx Tryz.prog (cx 60) C30 (bodyPost Tryz.prog Tryz.f70 R)) (bodyPost Tryz.prog Tryz.f70 R)))
noncomputable def C32:=C29.fs
noncomputable def C33:=C29.sn
/-- lexer.go:75 -/
abbrev S9  (w : World) (R : Post) : Prop :=
  R (.returned (.tuple #[.i 0, .i 2])) w
def KE_S9 (E : Env) (w : World) (R : Post) : Prop := S9  w R
theorem KE_S9_ok (R : Post) (E : Env) (w : World) (h : KE_S9 E w R) : WP Tryz.prog (cx 60) C29 (Q3 R) E w := by
  exact fun a ha => WP.at (n := (cx 60)) (E := []) (WP.seq (c := C29) (x := C32) (y := C33) (by kernel_rfl) <| WP.reg (c := C32) (fun E w => retVC Tryz.prog Tryz.f70 E w (fun v => R (.returned v) w)) (by kernel_rfl) (Eq.mp (by kernel_rfl) h) fun _ _ a hA hK => (WP.ret (c := C33) (by kernel_rfl) fun a hA => retVC_sound hA hK) a hA) ha.nil
noncomputable def C34:=C31.fs
noncomputable def C35:=C34.sn
noncomputable def C36:=C35.fs
noncomputable def C37:=C31.sn
abbrev Q4 (R : Post) : Exit → Act → World → Prop := (Exit.then (wpx Tryz.prog (cx 60) C37 (Exit.then (wpx Tryz.prog (cx 60) C30 (bodyPost Tryz.prog Tryz.f70 R)) (bodyPost Tryz.prog Tryz.f70 R))) (Exit.then (wpx Tryz.prog (cx 60) C30 (bodyPost Tryz.prog Tryz.f70 R)) (bodyPost Tryz.prog Tryz.f70 R)))
noncomputable def C38:=C36.fs
noncomputable def C39:=C36.sn
/-- lexer.go:78 -/
abbrev S11  (w : World) (R : Post) : Prop :=
  R (.returned (.tuple #[.i 0, .i 4])) w
def KE_S11 (E : Env) (w : World) (R : Post) : Prop := S11  w R
theorem KE_S11_ok (R : Post) (E : Env) (w : World) (h : KE_S11 E w R) : WP Tryz.prog (cx 60) C36 (Q4 R) E w := by
  exact fun a ha => WP.at (n := (cx 60)) (E := []) (WP.seq (c := C36) (x := C38) (y := C39) (by kernel_rfl) <| WP.reg (c := C38) (fun E w => retVC Tryz.prog Tryz.f70 E w (fun v => R (.returned v) w)) (by kernel_rfl) (Eq.mp (by kernel_rfl) h) fun _ _ a hA hK => (WP.ret (c := C39) (by kernel_rfl) fun a hA => retVC_sound hA hK) a hA) ha.nil
abbrev Q5 (R : Post) : Exit → Act → World → Prop := (Exit.then (wpx Tryz.prog (cx 60) C30 (bodyPost Tryz.prog Tryz.f70 R)) (bodyPost Tryz.prog Tryz.f70 R))
noncomputable def C40:=C37.fs
noncomputable def C41:=C37.sn
/-- lexer.go:80 -/
abbrev S12  (w : World) (R : Post) : Prop :=
  R (.returned (.tuple #[.i 4, .i 0])) w
def KE_S12 (E : Env) (w : World) (R : Post) : Prop := S12  w R
theorem KE_S12_ok (R : Post) (E : Env) (w : World) (h : KE_S12 E w R) : WP Tryz.prog (cx 60) C37 (Q5 R) E w := by
  exact fun a ha => WP.at (n := (cx 60)) (E := []) (WP.seq (c := C37) (x := C40) (y := C41) (by kernel_rfl) <| WP.reg (c := C40) (fun E w => retVC Tryz.prog Tryz.f70 E w (fun v => R (.returned v) w)) (by kernel_rfl) (Eq.mp (by kernel_rfl) h) fun _ _ a hA hK => (WP.ret (c := C41) (by kernel_rfl) fun a hA => retVC_sound hA hK) a hA) ha.nil
noncomputable def C42:=C34.fs
noncomputable def C43:=C35.sn
/-- lexer.go:77 -/
abbrev S10 (s0 : ByteArray) (w : World) (R : Post) : Prop :=
  sel (decide (((s0.size : Nat) : Int) > 13)) (S11  w R) (S12  w R)
def KE_S10 (E : Env) (w : World) (R : Post) : Prop := W.asStr (Env.get? E 0) fun s0 => S10 s0 w R
theorem KE_S10_ok (R : Post) (E : Env) (w : World) (h : KE_S10 E w R) : WP Tryz.prog (cx 60) C34 (Q4 R) E w := by
  obtain ⟨s0, hq0, h_1⟩ := W.asStr_elim h
  exact fun a ha => WP.at (n := (cx 60)) (E := [(0, .string s0)]) (WP.seq (c := C34) (x := C42) (y := C35) (by kernel_rfl) <| WP.reg (c := C42) (fun E w => condK (Env.val E (.tmp 33)) (KE_S11 E w R) (KE_S12 E w R)) (by kernel_rfl) (Eq.mp (by kernel_rfl) h_1) fun _ _ a hA hK => (WP.condK (c := C35) (x := C36) (y := C43) (o := .tmp 33) (by kernel_rfl) (fun hK => (KE_S11_ok R _ _ hK)) (fun hK => (WP.skip (c := C43) (by kernel_rfl) fun a hA => (KE_S12_ok R _ _ hK) a hA)) hK) a hA) (ha.cons hq0 ha.nil)
noncomputable def C44:=C27.fs
noncomputable def C45:=C28.sn
/-- lexer.go:74 -/
abbrev S8 (s0 : ByteArray) (w : World) (R : Post) : Prop :=
  Calls Tryz.prog n_lexer_allDigits #[.string s0, .i 10] w fun r_ w1 => ∃ t19 : Bool, r_ = .returned (.bool t19) ∧ 
  sel (!t19) (S9  w1 R) ((0 : Int) ≤ 0 ∧ ∃ t23_b : UInt8, s0[Int.toNat 0]? = some t23_b ∧ sel (((t23_b.toNat : Nat) : Int) == 48) (sel (decide (((s0.size : Nat) : Int) > 1)) (S9  w1 R) (S10 s0 w1 R)) (S10 s0 w1 R))
def KE_S8 (E : Env) (w : World) (R : Post) : Prop := W.asStr (Env.get? E 0) fun s0 => S8 s0 w R
theorem KE_S8_ok (R : Post) (E : Env) (w : World) (h : KE_S8 E w R) : WP Tryz.prog (cx 60) C27 (Q3 R) E w := by
  obtain ⟨s0, hq0, h_1⟩ := W.asStr_elim h
  exact fun a ha => WP.at (n := (cx 60)) (E := [(0, .string s0)]) (WP.seq (c := C27) (x := C44) (y := C28) (by kernel_rfl) <| WP.reg (c := C44) (fun E w => condK (Env.val E (.tmp 30)) (KE_S9 E w R) (KE_S10 E w R)) (by kernel_rfl) (Eq.mp (by kernel_rfl) h_1) fun _ _ a hA hK => (WP.condK (c := C28) (x := C29) (y := C45) (o := .tmp 30) (by kernel_rfl) (fun hK => (KE_S9_ok R _ _ hK)) (fun hK => (WP.skip (c := C45) (by kernel_rfl) fun a hA => (WP.seq (c := C31) (x := C34) (y := C37) (by kernel_rfl) (KE_S10_ok R _ _ hK)) a hA)) hK) a hA) (ha.cons hq0 ha.nil)
noncomputable def C46:=C30.fs
noncomputable def C47:=C46.sn
noncomputable def C48:=C47.fs
noncomputable def C49:=C30.sn
abbrev Q6 (R : Post) : Exit → Act → World → Prop := (Exit.then (wpx Tryz.prog (cx 60) C49 (bodyPost Tryz.prog Tryz.f70 R)) (bodyPost Tryz.prog Tryz.f70 R))
noncomputable def C50:=C48.fs
noncomputable def C51:=C48.sn
/-- lexer.go:83 -/
abbrev S14  (w : World) (R : Post) : Prop :=
  R (.returned (.tuple #[.i 0, .i 2])) w
def KE_S14 (E : Env) (w : World) (R : Post) : Prop := S14  w R
theorem KE_S14_ok (R : Post) (E : Env) (w : World) (h : KE_S14 E w R) : WP Tryz.prog (cx 60) C48 (Q6 R) E w := by
  exact fun a ha => WP.at (n := (cx 60)) (E := []) (WP.seq (c := C48) (x := C50) (y := C51) (by kernel_rfl) <| WP.reg (c := C50) (fun E w => retVC Tryz.prog Tryz.f70 E w (fun v => R (.returned v) w)) (by kernel_rfl) (Eq.mp (by kernel_rfl) h) fun _ _ a hA hK => (WP.ret (c := C51) (by kernel_rfl) fun a hA => retVC_sound hA hK) a hA) ha.nil
noncomputable def C52:=C49.sn
noncomputable def C53:=C52.sn
noncomputable def C54:=C53.fs
noncomputable def C55:=C54.sn
noncomputable def C56:=C55.fs
noncomputable def C57:=C53.sn
abbrev Q7 (R : Post) : Exit → Act → World → Prop := (Exit.then (wpx Tryz.prog (cx 60) C57 (bodyPost Tryz.prog Tryz.f70 R)) (bodyPost Tryz.prog Tryz.f70 R))
noncomputable def C58:=C56.fs
noncomputable def C59:=C56.sn
/-- lexer.go:90 -/
abbrev S19  (w : World) (R : Post) : Prop :=
  R (.returned (.tuple #[.i 0, .i 2])) w
def KE_S19 (E : Env) (w : World) (R : Post) : Prop := S19  w R
theorem KE_S19_ok (R : Post) (E : Env) (w : World) (h : KE_S19 E w R) : WP Tryz.prog (cx 60) C56 (Q7 R) E w := by
  exact fun a ha => WP.at (n := (cx 60)) (E := []) (WP.seq (c := C56) (x := C58) (y := C59) (by kernel_rfl) <| WP.reg (c := C58) (fun E w => retVC Tryz.prog Tryz.f70 E w (fun v => R (.returned v) w)) (by kernel_rfl) (Eq.mp (by kernel_rfl) h) fun _ _ a hA hK => (WP.ret (c := C59) (by kernel_rfl) fun a hA => retVC_sound hA hK) a hA) ha.nil
noncomputable def C60:=C57.fs
noncomputable def C61:=C60.sn
noncomputable def C62:=C61.fs
noncomputable def C63:=C57.sn
abbrev Q8 (R : Post) : Exit → Act → World → Prop := (Exit.then (wpx Tryz.prog (cx 60) C63 (bodyPost Tryz.prog Tryz.f70 R)) (bodyPost Tryz.prog Tryz.f70 R))
noncomputable def C64:=C62.fs
noncomputable def C65:=C62.sn
/-- lexer.go:93 -/
abbrev S21  (w : World) (R : Post) : Prop :=
  R (.returned (.tuple #[.i 0, .i 4])) w
def KE_S21 (E : Env) (w : World) (R : Post) : Prop := S21  w R
theorem KE_S21_ok (R : Post) (E : Env) (w : World) (h : KE_S21 E w R) : WP Tryz.prog (cx 60) C62 (Q8 R) E w := by
  exact fun a ha => WP.at (n := (cx 60)) (E := []) (WP.seq (c := C62) (x := C64) (y := C65) (by kernel_rfl) <| WP.reg (c := C64) (fun E w => retVC Tryz.prog Tryz.f70 E w (fun v => R (.returned v) w)) (by kernel_rfl) (Eq.mp (by kernel_rfl) h) fun _ _ a hA hK => (WP.ret (c := C65) (by kernel_rfl) fun a hA => retVC_sound hA hK) a hA) ha.nil
abbrev Q9 (R : Post) : Exit → Act → World → Prop := (bodyPost Tryz.prog Tryz.f70 R)
noncomputable def C66:=C63.fs
noncomputable def C67:=C63.sn
/-- lexer.go:95 -/
abbrev S22  (w : World) (R : Post) : Prop :=
  R (.returned (.tuple #[.i 3, .i 0])) w
def KE_S22 (E : Env) (w : World) (R : Post) : Prop := S22  w R
theorem KE_S22_ok (R : Post) (E : Env) (w : World) (h : KE_S22 E w R) : WP Tryz.prog (cx 60) C63 (Q9 R) E w := by
  exact fun a ha => WP.at (n := (cx 60)) (E := []) (WP.seq (c := C63) (x := C66) (y := C67) (by kernel_rfl) <| WP.reg (c := C66) (fun E w => retVC Tryz.prog Tryz.f70 E w (fun v => R (.returned v) w)) (by kernel_rfl) (Eq.mp (by kernel_rfl) h) fun _ _ a hA hK => (WP.ret (c := C67) (by kernel_rfl) fun a hA => retVC_sound hA hK) a hA) ha.nil
noncomputable def C68:=C60.fs
noncomputable def C69:=C61.sn
/-- lexer.go:92 -/
abbrev S20 (s0 : ByteArray) (most5 : Int) (w : World) (R : Post) : Prop :=
  sel (decide ((IntKind.wrap .i64 (((s0.size : Nat) : Int) - 2)) > most5)) (S21  w R) (S22  w R)
def KE_S20 (E : Env) (w : World) (R : Post) : Prop := W.asStr (Env.get? E 0) fun s0 => W.asInt .i64 (Env.get? E 5) fun most5 => S20 s0 most5 w R
theorem KE_S20_ok (R : Post) (E : Env) (w : World) (h : KE_S20 E w R) : WP Tryz.prog (cx 60) C60 (Q8 R) E w := by
  obtain ⟨s0, hq0, h_1⟩ := W.asStr_elim h
  obtain ⟨most5, hq5, h_2⟩ := W.asInt_elim h_1
  exact fun a ha => WP.at (n := (cx 60)) (E := [(0, .string s0), (5, .i most5)]) (WP.seq (c := C60) (x := C68) (y := C61) (by kernel_rfl) <| WP.reg (c := C68) (fun E w => condK (Env.val E (.tmp 59)) (KE_S21 E w R) (KE_S22 E w R)) (by kernel_rfl) (Eq.mp (by kernel_rfl) h_2) fun _ _ a hA hK => (WP.condK (c := C61) (x := C62) (y := C69) (o := .tmp 59) (by kernel_rfl) (fun hK => (KE_S21_ok R _ _ hK)) (fun hK => (WP.skip (c := C69) (by kernel_rfl) fun a hA => (KE_S22_ok R _ _ hK) a hA)) hK) a hA) (ha.cons hq0 (ha.cons hq5 ha.nil))
noncomputable def C70:=C54.fs
noncomputable def C71:=C55.sn
/-- lexer.go:89 -/
abbrev S18 (s0 : ByteArray) (base4 most5 : Int) (w : World) (R : Post) : Prop :=
  (0 : Int) ≤ 2 ∧ 2 ≤ ((s0.size : Nat) : Int) ∧ Calls Tryz.prog n_lexer_allDigits #[.string (s0.extract (Int.toNat 2) s0.size), .i base4] w fun r_ w1 => ∃ t53 : Bool, r_ = .returned (.bool t53) ∧ 
  sel (!t53) (S19  w1 R) (S20 s0 most5 w1 R)
def KE_S18 (E : Env) (w : World) (R : Post) : Prop := W.asStr (Env.get? E 0) fun s0 => W.asInt .i64 (Env.get? E 4) fun base4 => W.asInt .i64 (Env.get? E 5) fun most5 => S18 s0 base4 most5 w R
theorem KE_S18_ok (R : Post) (E : Env) (w : World) (h : KE_S18 E w R) : WP Tryz.prog (cx 60) C54 (Q7 R) E w := by
  obtain ⟨s0, hq0, h_1⟩ := W.asStr_elim h
  obtain ⟨base4, hq4, h_2⟩ := W.asInt_elim h_1
  obtain ⟨most5, hq5, h_3⟩ := W.asInt_elim h_2
  exact fun a ha => WP.at (n := (cx 60)) (E := [(0, .string s0), (4, .i base4), (5, .i most5)]) (WP.seq (c := C54) (x := C70) (y := C55) (by kernel_rfl) <| WP.reg (c := C70) (fun E w => condK (Env.val E (.tmp 54)) (KE_S19 E w R) (KE_S20 E w R)) (by kernel_rfl) (Eq.mp (by kernel_rfl) h_3) fun _ _ a hA hK => (WP.condK (c := C55) (x := C56) (y := C71) (o := .tmp 54) (by kernel_rfl) (fun hK => (KE_S19_ok R _ _ hK)) (fun hK => (WP.skip (c := C71) (by kernel_rfl) fun a hA => (WP.seq (c := C57) (x := C60) (y := C63) (by kernel_rfl) (KE_S20_ok R _ _ hK)) a hA)) hK) a hA) (ha.cons hq0 (ha.cons hq4 (ha.cons hq5 ha.nil)))
noncomputable def C72:=C52.fs
noncomputable def C73:=C72.sn
noncomputable def C74:=C73.fs
abbrev Q10 (R : Post) : Exit → Act → World → Prop := (Exit.then (wpx Tryz.prog (cx 60) C53 (bodyPost Tryz.prog Tryz.f70 R)) (bodyPost Tryz.prog Tryz.f70 R))
/-- lexer.go:87 -/
abbrev S17 (s0 : ByteArray) (w : World) (R : Post) : Prop :=
  S18 s0 16 16 w R
def KE_S17 (E : Env) (w : World) (R : Post) : Prop := W.asStr (Env.get? E 0) fun s0 => S17 s0 w R
theorem KE_S17_ok (R : Post) (E : Env) (w : World) (h : KE_S17 E w R) : WP Tryz.prog (cx 60) C74 (Q10 R) E w := by
  obtain ⟨s0, hq0, h_1⟩ := W.asStr_elim h
  exact fun a ha => WP.at (n := (cx 60)) (E := [(0, .string s0)]) (WP.reg (c := C74) (fun E w => KE_S18 E w R) (by kernel_rfl) (Eq.mp (by kernel_rfl) h_1) fun _ _ a hA hK => (WP.seq (c := C53) (x := C54) (y := C57) (by kernel_rfl) (KE_S18_ok R _ _ hK)) a hA) (ha.cons hq0 ha.nil)
noncomputable def C75:=C72.fs
noncomputable def C76:=C73.sn
/-- lexer.go:86 -/
abbrev S16 (s0 : ByteArray) (base4 most5 : Int) (w : World) (R : Post) : Prop :=
  (0 : Int) ≤ 1 ∧ ∃ t48_b : UInt8, s0[Int.toNat 1]? = some t48_b ∧ sel (((t48_b.toNat : Nat) : Int) == 120) (S17 s0 w R) (S18 s0 base4 most5 w R)
def KE_S16 (E : Env) (w : World) (R : Post) : Prop := W.asStr (Env.get? E 0) fun s0 => W.asInt .i64 (Env.get? E 4) fun base4 => W.asInt .i64 (Env.get? E 5) fun most5 => S16 s0 base4 most5 w R
theorem KE_S16_ok (R : Post) (E : Env) (w : World) (h : KE_S16 E w R) : WP Tryz.prog (cx 60) C72 (Q10 R) E w := by
  obtain ⟨s0, hq0, h_1⟩ := W.asStr_elim h
  obtain ⟨base4, hq4, h_2⟩ := W.asInt_elim h_1
  obtain ⟨most5, hq5, h_3⟩ := W.asInt_elim h_2
  exact fun a ha => WP.at (n := (cx 60)) (E := [(0, .string s0), (4, .i base4), (5, .i most5)]) (WP.seq (c := C72) (x := C75) (y := C73) (by kernel_rfl) <| WP.reg (c := C75) (fun E w => condK (Env.val E (.tmp 49)) (KE_S17 E w R) (KE_S18 E w R)) (by kernel_rfl) (Eq.mp (by kernel_rfl) h_3) fun _ _ a hA hK => (WP.condK (c := C73) (x := C74) (y := C76) (o := .tmp 49) (by kernel_rfl) (fun hK => (KE_S17_ok R _ _ hK)) (fun hK => (WP.skip (c := C76) (by kernel_rfl) fun a hA => (WP.seq (c := C53) (x := C54) (y := C57) (by kernel_rfl) (KE_S18_ok R _ _ hK)) a hA)) hK) a hA) (ha.cons hq0 (ha.cons hq4 (ha.cons hq5 ha.nil)))
noncomputable def C77:=C49.fs
/-- lexer.go:85 -/
abbrev S15 (s0 : ByteArray) (w : World) (R : Post) : Prop :=
  S16 s0 2 64 w R
def KE_S15 (E : Env) (w : World) (R : Post) : Prop := W.asStr (Env.get? E 0) fun s0 => S15 s0 w R
theorem KE_S15_ok (R : Post) (E : Env) (w : World) (h : KE_S15 E w R) : WP Tryz.prog (cx 60) C49 (Q9 R) E w := by
  obtain ⟨s0, hq0, h_1⟩ := W.asStr_elim h
  exact fun a ha => WP.at (n := (cx 60)) (E := [(0, .string s0)]) (WP.seq (c := C49) (x := C77) (y := C52) (by kernel_rfl) <| WP.reg (c := C77) (fun E w => KE_S16 E w R) (by kernel_rfl) (Eq.mp (by kernel_rfl) h_1) fun _ _ a hA hK => (WP.seq (c := C52) (x := C72) (y := C53) (by kernel_rfl) (KE_S16_ok R _ _ hK)) a hA) (ha.cons hq0 ha.nil)
noncomputable def C78:=C46.fs
noncomputable def C79:=C47.sn
/-- lexer.go:82 -/
abbrev S13 (s0 : ByteArray) (w : World) (R : Post) : Prop :=
  sel (decide (((s0.size : Nat) : Int) < 3)) (S14  w R) ((0 : Int) ≤ 1 ∧ ∃ t39_b : UInt8, s0[Int.toNat 1]? = some t39_b ∧ sel (((t39_b.toNat : Nat) : Int) != 98) ((0 : Int) ≤ 1 ∧ ∃ t43_b : UInt8, s0[Int.toNat 1]? = some t43_b ∧ sel (((t43_b.toNat : Nat) : Int) != 120) (S14  w R) (S15 s0 w R)) (S15 s0 w R))
def KE_S13 (E : Env) (w : World) (R : Post) : Prop := W.asStr (Env.get? E 0) fun s0 => S13 s0 w R
theorem KE_S13_ok (R : Post) (E : Env) (w : World) (h : KE_S13 E w R) : WP Tryz.prog (cx 60) C46 (Q6 R) E w := by
  obtain ⟨s0, hq0, h_1⟩ := W.asStr_elim h
  exact fun a ha => WP.at (n := (cx 60)) (E := [(0, .string s0)]) (WP.seq (c := C46) (x := C78) (y := C47) (by kernel_rfl) <| WP.reg (c := C78) (fun E w => condK (Env.val E (.tmp 46)) (KE_S14 E w R) (KE_S15 E w R)) (by kernel_rfl) (Eq.mp (by kernel_rfl) h_1) fun _ _ a hA hK => (WP.condK (c := C47) (x := C48) (y := C79) (o := .tmp 46) (by kernel_rfl) (fun hK => (KE_S14_ok R _ _ hK)) (fun hK => (WP.skip (c := C79) (by kernel_rfl) fun a hA => (KE_S15_ok R _ _ hK) a hA)) hK) a hA) (ha.cons hq0 ha.nil)
noncomputable def C80:=C24.fs
noncomputable def C81:=C25.sn
/-- lexer.go:73 -/
abbrev S7 (s0 : ByteArray) (w : World) (R : Post) : Prop :=
  (0 : Int) ≤ 0 ∧ ∃ t16_b : UInt8, s0[Int.toNat 0]? = some t16_b ∧ sel (((t16_b.toNat : Nat) : Int) != 35) (S8 s0 w R) (S13 s0 w R)
def KE_S7 (E : Env) (w : World) (R : Post) : Prop := W.asStr (Env.get? E 0) fun s0 => S7 s0 w R
theorem KE_S7_ok (R : Post) (E : Env) (w : World) (h : KE_S7 E w R) : WP Tryz.prog (cx 60) C24 (Q5 R) E w := by
  obtain ⟨s0, hq0, h_1⟩ := W.asStr_elim h
  exact fun a ha => WP.at (n := (cx 60)) (E := [(0, .string s0)]) (WP.seq (c := C24) (x := C80) (y := C25) (by kernel_rfl) <| WP.reg (c := C80) (fun E w => condK (Env.val E (.tmp 17)) (KE_S8 E w R) (KE_S13 E w R)) (by kernel_rfl) (Eq.mp (by kernel_rfl) h_1) fun _ _ a hA hK => (WP.condK (c := C25) (x := C26) (y := C81) (o := .tmp 17) (by kernel_rfl) (fun hK => (WP.seq (c := C26) (x := C27) (y := C31) (by kernel_rfl) (KE_S8_ok R _ _ hK))) (fun hK => (WP.skip (c := C81) (by kernel_rfl) fun a hA => (WP.seq (c := C30) (x := C46) (y := C49) (by kernel_rfl) (KE_S13_ok R _ _ hK)) a hA)) hK) a hA) (ha.cons hq0 ha.nil)
noncomputable def C82:=C2.fs
noncomputable def C83:=C3.sn
/-- lexer.go:64 -/
abbrev S1 (s0 : ByteArray) (w : World) (R : Post) : Prop :=
  (0 : Int) ≤ 0 ∧ ∃ t7_b : UInt8, s0[Int.toNat 0]? = some t7_b ∧ Calls Tryz.prog n_lexer_small_byte #[.int .u8 ((t7_b.toNat : Nat) : Int)] w fun r_ w1 => ∃ t8 : Bool, r_ = .returned (.bool t8) ∧ 
  sel t8 (S2 s0 w1 R) (S7 s0 w1 R)
def KE_S1 (E : Env) (w : World) (R : Post) : Prop := W.asStr (Env.get? E 0) fun s0 => S1 s0 w R
theorem KE_S1_ok (R : Post) (E : Env) (w : World) (h : KE_S1 E w R) : WP Tryz.prog (cx 60) C2 (Q2 R) E w := by
  obtain ⟨s0, hq0, h_1⟩ := W.asStr_elim h
  exact fun a ha => WP.at (n := (cx 60)) (E := [(0, .string s0)]) (WP.seq (c := C2) (x := C82) (y := C3) (by kernel_rfl) <| WP.reg (c := C82) (fun E w => condK (Env.val E (.tmp 8)) (KE_S2 E w R) (KE_S7 E w R)) (by kernel_rfl) (Eq.mp (by kernel_rfl) h_1) fun _ _ a hA hK => (WP.condK (c := C3) (x := C4) (y := C83) (o := .tmp 8) (by kernel_rfl) (fun hK => (WP.seq (c := C4) (x := C5) (y := C9) (by kernel_rfl) (KE_S2_ok R _ _ hK))) (fun hK => (WP.skip (c := C83) (by kernel_rfl) fun a hA => (WP.seq (c := C8) (x := C24) (y := C30) (by kernel_rfl) (KE_S7_ok R _ _ hK)) a hA)) hK) a hA) (ha.cons hq0 ha.nil)
noncomputable def C84:=C0.fs
/-- lexer.go:63 -/
abbrev S0 (s0 : ByteArray) (w : World) (R : Post) : Prop :=
  S1 s0 w R
def KE_S0 (E : Env) (w : World) (R : Post) : Prop := W.asStr (Env.get? E 0) fun s0 => S0 s0 w R
theorem KE_S0_ok (R : Post) (E : Env) (w : World) (h : KE_S0 E w R) : WP Tryz.prog (cx 60) C0 (Q9 R) E w := by
  obtain ⟨s0, hq0, h_1⟩ := W.asStr_elim h
  exact fun a ha => WP.at (n := (cx 60)) (E := [(0, .string s0)]) (WP.seq (c := C0) (x := C84) (y := C1) (by kernel_rfl) <| WP.reg (c := C84) (fun E w => KE_S1 E w R) (by kernel_rfl) (Eq.mp (by kernel_rfl) h_1) fun _ _ a hA hK => (WP.seq (c := C1) (x := C2) (y := C8) (by kernel_rfl) (KE_S1_ok R _ _ hK)) a hA) (ha.cons hq0 ha.nil)
/-- enthymeme/lexer.examine -/
theorem ok (s0 : ByteArray) (w : World) (R : Post) (h : S0 s0 w R) : Calls Tryz.prog n_lexer_examine #[.string s0] w R :=
  calls_of_WP' (R := R) (fn := Tryz.f70) (c := C0) (args := [.string s0]) (by kernel_rfl) (by kernel_rfl) (by kernel_rfl) (KE_S0_ok R _ _ (Eq.mp (by kernel_rfl) h))
end lexer_examine
namespace lexer_item
noncomputable def C0 : Code := (Tryz.f91.body).getD .skip
noncomputable def C1:=C0.sn
noncomputable def C2:=C1.sn
noncomputable def C3:=C2.fs
noncomputable def C4:=C3.sn
noncomputable def C5:=C4.fs
noncomputable def C6:=C5.fs
noncomputable def C7:=C6.sn
noncomputable def C8:=C7.fs
noncomputable def C9:=C2.sn
noncomputable def C10:=C5.sn
abbrev Q0 (R : Post) : Exit → Act → World → Prop := (Exit.then (wpx Tryz.prog (cx 97) C10 (Exit.then (wpx Tryz.prog (cx 97) C9 (bodyPost Tryz.prog Tryz.f91 R)) (bodyPost Tryz.prog Tryz.f91 R))) (Exit.then (wpx Tryz.prog (cx 97) C9 (bodyPost Tryz.prog Tryz.f91 R)) (bodyPost Tryz.prog Tryz.f91 R)))
noncomputable def C11:=C8.fs
noncomputable def C12:=C8.sn
/-- lexer.go:103 -/
abbrev S4 (i1 : Int) (t6 form8 : Addr) (w : World) (R : Post) : Prop :=
  ∃ t32_0 : Int, ∃ t32_1 : Int, w.drew.cell? (form8.add 0) = some (.i t32_0) ∧ w.drew.cell? (form8.add 1) = some (.i t32_1) ∧ 
  (w.drew.cell? t6).isSome = true ∧ w.drew.frozen? t6 = false ∧ let w1 := w.drew.setCell t6 (.i t32_0)
  (w1.cell? (t6.add 1)).isSome = true ∧ w1.frozen? (t6.add 1) = false ∧ let w2 := w1.setCell (t6.add 1) (.i t32_1)
  ∃ r6_0 : Int, ∃ r6_1 : Int, w2.cell? (t6.add 0) = some (.i r6_0) ∧ w2.cell? (t6.add 1) = some (.i r6_1) ∧ 
  R (.returned (.tuple #[.int .u8 0, .i i1, .agg #[.i r6_0, .i r6_1]])) w2
def KE_S4 (E : Env) (w : World) (R : Post) : Prop := W.asInt .i64 (Env.get? E 1) fun i1 => W.asRef (Env.get? E 6) fun t6 => W.asRef (Env.get? E 8) fun form8 => S4 i1 t6 form8 w R
theorem KE_S4_ok (R : Post) (E : Env) (w : World) (h : KE_S4 E w R) : WP Tryz.prog (cx 97) C8 (Q0 R) E w := by
  obtain ⟨i1, hq1, h_1⟩ := W.asInt_elim h
  obtain ⟨t6, hq6, h_2⟩ := W.asRef_elim h_1
  obtain ⟨form8, hq8, h_3⟩ := W.asRef_elim h_2
  exact fun a ha => WP.at (n := (cx 97)) (E := [(1, .i i1), (6, .pointer (some t6)), (8, .pointer (some form8))]) (WP.seq (c := C8) (x := C11) (y := C12) (by kernel_rfl) <| WP.draw (c := C11) [0, 1, 2, 3, 4] (fun E w => retVC Tryz.prog Tryz.f91 E w (fun v => R (.returned v) w)) (by kernel_rfl) (Eq.mp (by kernel_rfl) h_3) fun _ _ a hA hK => (WP.ret (c := C12) (by kernel_rfl) fun a hA => retVC_sound hA hK) a hA) (ha.cons hq1 (ha.cons hq6 (ha.cons hq8 ha.nil)))
abbrev Q1 (R : Post) : Exit → Act → World → Prop := (Exit.then (wpx Tryz.prog (cx 97) C9 (bodyPost Tryz.prog Tryz.f91 R)) (bodyPost Tryz.prog Tryz.f91 R))
noncomputable def C13:=C10.fs
noncomputable def C14:=C10.sn
/-- lexer.go:105 -/
abbrev S5 (s0 : ByteArray) (i1 : Int) (t6 : Addr) (w : World) (R : Post) : Prop :=
  (0 : Int) ≤ i1 ∧ ∃ t35_b : UInt8, s0[Int.toNat i1]? = some t35_b ∧ (w.cell? t6).isSome = true ∧ w.frozen? t6 = false ∧ let w1 := w.setCell t6 (.i 0)
  (w1.cell? (t6.add 1)).isSome = true ∧ w1.frozen? (t6.add 1) = false ∧ let w2 := w1.setCell (t6.add 1) (.i 0)
  ∃ r6_0 : Int, ∃ r6_1 : Int, w2.cell? (t6.add 0) = some (.i r6_0) ∧ w2.cell? (t6.add 1) = some (.i r6_1) ∧ 
  R (.returned (.tuple #[.int .u8 ((t35_b.toNat : Nat) : Int), .i (IntKind.wrap .i64 (i1 + 1)), .agg #[.i r6_0, .i r6_1]])) w2
def KE_S5 (E : Env) (w : World) (R : Post) : Prop := W.asStr (Env.get? E 0) fun s0 => W.asInt .i64 (Env.get? E 1) fun i1 => W.asRef (Env.get? E 6) fun t6 => S5 s0 i1 t6 w R
theorem KE_S5_ok (R : Post) (E : Env) (w : World) (h : KE_S5 E w R) : WP Tryz.prog (cx 97) C10 (Q1 R) E w := by
  obtain ⟨s0, hq0, h_1⟩ := W.asStr_elim h
  obtain ⟨i1, hq1, h_2⟩ := W.asInt_elim h_1
  obtain ⟨t6, hq6, h_3⟩ := W.asRef_elim h_2
  exact fun a ha => WP.at (n := (cx 97)) (E := [(0, .string s0), (1, .i i1), (6, .pointer (some t6))]) (WP.seq (c := C10) (x := C13) (y := C14) (by kernel_rfl) <| WP.reg (c := C13) (fun E w => retVC Tryz.prog Tryz.f91 E w (fun v => R (.returned v) w)) (by kernel_rfl) (Eq.mp (by kernel_rfl) h_3) fun _ _ a hA hK => (WP.ret (c := C14) (by kernel_rfl) fun a hA => retVC_sound hA hK) a hA) (ha.cons hq0 (ha.cons hq1 (ha.cons hq6 ha.nil)))
noncomputable def C15:=C6.fs
noncomputable def C16:=C7.sn
/-- lexer.go:102 -/
abbrev S3 (s0 : ByteArray) (i1 : Int) (t6 form8 : Addr) (w : World) (R : Post) : Prop :=
  (0 : Int) ≤ i1 ∧ ∃ t23_b : UInt8, s0[Int.toNat i1]? = some t23_b ∧ sel (decide (((t23_b.toNat : Nat) : Int) < 32)) (S4 i1 t6 form8 w R) ((0 : Int) ≤ i1 ∧ ∃ t28_b : UInt8, s0[Int.toNat i1]? = some t28_b ∧ sel (decide (((t28_b.toNat : Nat) : Int) > 126)) (S4 i1 t6 form8 w R) (S5 s0 i1 t6 w R))
def KE_S3 (E : Env) (w : World) (R : Post) : Prop := W.asStr (Env.get? E 0) fun s0 => W.asInt .i64 (Env.get? E 1) fun i1 => W.asRef (Env.get? E 6) fun t6 => W.asRef (Env.get? E 8) fun form8 => S3 s0 i1 t6 form8 w R
theorem KE_S3_ok (R : Post) (E : Env) (w : World) (h : KE_S3 E w R) : WP Tryz.prog (cx 97) C6 (Q0 R) E w := by
  obtain ⟨s0, hq0, h_1⟩ := W.asStr_elim h
  obtain ⟨i1, hq1, h_2⟩ := W.asInt_elim h_1
  obtain ⟨t6, hq6, h_3⟩ := W.asRef_elim h_2
  obtain ⟨form8, hq8, h_4⟩ := W.asRef_elim h_3
  exact fun a ha => WP.at (n := (cx 97)) (E := [(0, .string s0), (1, .i i1), (6, .pointer (some t6)), (8, .pointer (some form8))]) (WP.seq (c := C6) (x := C15) (y := C7) (by kernel_rfl) <| WP.reg (c := C15) (fun E w => condK (Env.val E (.tmp 30)) (KE_S4 E w R) (KE_S5 E w R)) (by kernel_rfl) (Eq.mp (by kernel_rfl) h_4) fun _ _ a hA hK => (WP.condK (c := C7) (x := C8) (y := C16) (o := .tmp 30) (by kernel_rfl) (fun hK => (KE_S4_ok R _ _ hK)) (fun hK => (WP.skip (c := C16) (by kernel_rfl) fun a hA => (KE_S5_ok R _ _ hK) a hA)) hK) a hA) (ha.cons hq0 (ha.cons hq1 (ha.cons hq6 (ha.cons hq8 ha.nil))))
noncomputable def C17:=C9.fs
noncomputable def C18:=C17.sn
noncomputable def C19:=C18.fs
noncomputable def C20:=C9.sn
abbrev Q2 (R : Post) : Exit → Act → World → Prop := (Exit.then (wpx Tryz.prog (cx 97) C20 (bodyPost Tryz.prog Tryz.f91 R)) (bodyPost Tryz.prog Tryz.f91 R))
noncomputable def C21:=C19.fs
noncomputable def C22:=C19.sn
/-- lexer.go:108 -/
abbrev S7 (i1 : Int) (t6 more7 : Addr) (w : World) (R : Post) : Prop :=
  ∃ t45_0 : Int, ∃ t45_1 : Int, w.drew.cell? (more7.add 0) = some (.i t45_0) ∧ w.drew.cell? (more7.add 1) = some (.i t45_1) ∧ 
  (w.drew.cell? t6).isSome = true ∧ w.drew.frozen? t6 = false ∧ let w1 := w.drew.setCell t6 (.i t45_0)
  (w1.cell? (t6.add 1)).isSome = true ∧ w1.frozen? (t6.add 1) = false ∧ let w2 := w1.setCell (t6.add 1) (.i t45_1)
  ∃ r6_0 : Int, ∃ r6_1 : Int, w2.cell? (t6.add 0) = some (.i r6_0) ∧ w2.cell? (t6.add 1) = some (.i r6_1) ∧ 
  R (.returned (.tuple #[.int .u8 0, .i i1, .agg #[.i r6_0, .i r6_1]])) w2
def KE_S7 (E : Env) (w : World) (R : Post) : Prop := W.asInt .i64 (Env.get? E 1) fun i1 => W.asRef (Env.get? E 6) fun t6 => W.asRef (Env.get? E 7) fun more7 => S7 i1 t6 more7 w R
theorem KE_S7_ok (R : Post) (E : Env) (w : World) (h : KE_S7 E w R) : WP Tryz.prog (cx 97) C19 (Q2 R) E w := by
  obtain ⟨i1, hq1, h_1⟩ := W.asInt_elim h
  obtain ⟨t6, hq6, h_2⟩ := W.asRef_elim h_1
  obtain ⟨more7, hq7, h_3⟩ := W.asRef_elim h_2
  exact fun a ha => WP.at (n := (cx 97)) (E := [(1, .i i1), (6, .pointer (some t6)), (7, .pointer (some more7))]) (WP.seq (c := C19) (x := C21) (y := C22) (by kernel_rfl) <| WP.draw (c := C21) [0, 1, 2, 3, 4] (fun E w => retVC Tryz.prog Tryz.f91 E w (fun v => R (.returned v) w)) (by kernel_rfl) (Eq.mp (by kernel_rfl) h_3) fun _ _ a hA hK => (WP.ret (c := C22) (by kernel_rfl) fun a hA => retVC_sound hA hK) a hA) (ha.cons hq1 (ha.cons hq6 (ha.cons hq7 ha.nil)))
noncomputable def C23:=C20.fs
noncomputable def C24:=C23.sn
noncomputable def C25:=C24.sn
noncomputable def C26:=C25.fs
noncomputable def C27:=C26.fs
noncomputable def C28:=C27.sn
noncomputable def C29:=C28.fs
noncomputable def C30:=C20.sn
noncomputable def C31:=C26.sn
abbrev Q3 (R : Post) : Exit → Act → World → Prop := (Exit.then (wpx Tryz.prog (cx 97) C31 (Exit.then (wpx Tryz.prog (cx 97) C30 (bodyPost Tryz.prog Tryz.f91 R)) (bodyPost Tryz.prog Tryz.f91 R))) (Exit.then (wpx Tryz.prog (cx 97) C30 (bodyPost Tryz.prog Tryz.f91 R)) (bodyPost Tryz.prog Tryz.f91 R)))
noncomputable def C32:=C29.fs
noncomputable def C33:=C29.sn
/-- lexer.go:112 -/
abbrev S11 (i1 : Int) (t6 form8 : Addr) (w : World) (R : Post) : Prop :=
  ∃ t59_0 : Int, ∃ t59_1 : Int, w.drew.cell? (form8.add 0) = some (.i t59_0) ∧ w.drew.cell? (form8.add 1) = some (.i t59_1) ∧ 
  (w.drew.cell? t6).isSome = true ∧ w.drew.frozen? t6 = false ∧ let w1 := w.drew.setCell t6 (.i t59_0)
  (w1.cell? (t6.add 1)).isSome = true ∧ w1.frozen? (t6.add 1) = false ∧ let w2 := w1.setCell (t6.add 1) (.i t59_1)
  ∃ r6_0 : Int, ∃ r6_1 : Int, w2.cell? (t6.add 0) = some (.i r6_0) ∧ w2.cell? (t6.add 1) = some (.i r6_1) ∧ 
  R (.returned (.tuple #[.int .u8 0, .i i1, .agg #[.i r6_0, .i r6_1]])) w2
def KE_S11 (E : Env) (w : World) (R : Post) : Prop := W.asInt .i64 (Env.get? E 1) fun i1 => W.asRef (Env.get? E 6) fun t6 => W.asRef (Env.get? E 8) fun form8 => S11 i1 t6 form8 w R
theorem KE_S11_ok (R : Post) (E : Env) (w : World) (h : KE_S11 E w R) : WP Tryz.prog (cx 97) C29 (Q3 R) E w := by
  obtain ⟨i1, hq1, h_1⟩ := W.asInt_elim h
  obtain ⟨t6, hq6, h_2⟩ := W.asRef_elim h_1
  obtain ⟨form8, hq8, h_3⟩ := W.asRef_elim h_2
  exact fun a ha => WP.at (n := (cx 97)) (E := [(1, .i i1), (6, .pointer (some t6)), (8, .pointer (some form8))]) (WP.seq (c := C29) (x := C32) (y := C33) (by kernel_rfl) <| WP.draw (c := C32) [0, 1, 2, 3, 4] (fun E w => retVC Tryz.prog Tryz.f91 E w (fun v => R (.returned v) w)) (by kernel_rfl) (Eq.mp (by kernel_rfl) h_3) fun _ _ a hA hK => (WP.ret (c := C33) (by kernel_rfl) fun a hA => retVC_sound hA hK) a hA) (ha.cons hq1 (ha.cons hq6 (ha.cons hq8 ha.nil)))
abbrev Q4 (R : Post) : Exit → Act → World → Prop := (Exit.then (wpx Tryz.prog (cx 97) C30 (bodyPost Tryz.prog Tryz.f91 R)) (bodyPost Tryz.prog Tryz.f91 R))
noncomputable def C34:=C31.fs
noncomputable def C35:=C31.sn
/-- lexer.go:114 -/
abbrev S12 (i1 : Int) (t6 : Addr) (c9 : Int) (w : World) (R : Post) : Prop :=
  (w.cell? t6).isSome = true ∧ w.frozen? t6 = false ∧ let w1 := w.setCell t6 (.i 0)
  (w1.cell? (t6.add 1)).isSome = true ∧ w1.frozen? (t6.add 1) = false ∧ let w2 := w1.setCell (t6.add 1) (.i 0)
  ∃ r6_0 : Int, ∃ r6_1 : Int, w2.cell? (t6.add 0) = some (.i r6_0) ∧ w2.cell? (t6.add 1) = some (.i r6_1) ∧ 
  R (.returned (.tuple #[.int .u8 c9, .i (IntKind.wrap .i64 (i1 + 2)), .agg #[.i r6_0, .i r6_1]])) w2
def KE_S12 (E : Env) (w : World) (R : Post) : Prop := W.asInt .i64 (Env.get? E 1) fun i1 => W.asRef (Env.get? E 6) fun t6 => W.asInt .u8 (Env.get? E 9) fun c9 => S12 i1 t6 c9 w R
theorem KE_S12_ok (R : Post) (E : Env) (w : World) (h : KE_S12 E w R) : WP Tryz.prog (cx 97) C31 (Q4 R) E w := by
  obtain ⟨i1, hq1, h_1⟩ := W.asInt_elim h
  obtain ⟨t6, hq6, h_2⟩ := W.asRef_elim h_1
  obtain ⟨c9, hq9, h_3⟩ := W.asInt_elim h_2
  exact fun a ha => WP.at (n := (cx 97)) (E := [(1, .i i1), (6, .pointer (some t6)), (9, .int .u8 c9)]) (WP.seq (c := C31) (x := C34) (y := C35) (by kernel_rfl) <| WP.reg (c := C34) (fun E w => retVC Tryz.prog Tryz.f91 E w (fun v => R (.returned v) w)) (by kernel_rfl) (Eq.mp (by kernel_rfl) h_3) fun _ _ a hA hK => (WP.ret (c := C35) (by kernel_rfl) fun a hA => retVC_sound hA hK) a hA) (ha.cons hq1 (ha.cons hq6 (ha.cons hq9 ha.nil)))
noncomputable def C36:=C27.fs
noncomputable def C37:=C28.sn
/-- lexer.go:111 -/
abbrev S10 (i1 : Int) (t6 form8 : Addr) (c9 : Int) (w : World) (R : Post) : Prop :=
  sel (c9 != 34) (sel (c9 != 92) (S11 i1 t6 form8 w R) (S12 i1 t6 c9 w R)) (S12 i1 t6 c9 w R)
def KE_S10 (E : Env) (w : World) (R : Post) : Prop := W.asInt .i64 (Env.get? E 1) fun i1 => W.asRef (Env.get? E 6) fun t6 => W.asRef (Env.get? E 8) fun form8 => W.asInt .u8 (Env.get? E 9) fun c9 => S10 i1 t6 form8 c9 w R
theorem KE_S10_ok (R : Post) (E : Env) (w : World) (h : KE_S10 E w R) : WP Tryz.prog (cx 97) C27 (Q3 R) E w := by
  obtain ⟨i1, hq1, h_1⟩ := W.asInt_elim h
  obtain ⟨t6, hq6, h_2⟩ := W.asRef_elim h_1
  obtain ⟨form8, hq8, h_3⟩ := W.asRef_elim h_2
  obtain ⟨c9, hq9, h_4⟩ := W.asInt_elim h_3
  exact fun a ha => WP.at (n := (cx 97)) (E := [(1, .i i1), (6, .pointer (some t6)), (8, .pointer (some form8)), (9, .int .u8 c9)]) (WP.seq (c := C27) (x := C36) (y := C28) (by kernel_rfl) <| WP.reg (c := C36) (fun E w => condK (Env.val E (.tmp 57)) (KE_S11 E w R) (KE_S12 E w R)) (by kernel_rfl) (Eq.mp (by kernel_rfl) h_4) fun _ _ a hA hK => (WP.condK (c := C28) (x := C29) (y := C37) (o := .tmp 57) (by kernel_rfl) (fun hK => (KE_S11_ok R _ _ hK)) (fun hK => (WP.skip (c := C37) (by kernel_rfl) fun a hA => (KE_S12_ok R _ _ hK) a hA)) hK) a hA) (ha.cons hq1 (ha.cons hq6 (ha.cons hq8 (ha.cons hq9 ha.nil))))
noncomputable def C38:=C30.sn
noncomputable def C39:=C38.fs
noncomputable def C40:=C39.sn
noncomputable def C41:=C40.fs
noncomputable def C42:=C41.fs
noncomputable def C43:=C38.sn
abbrev Q5 (R : Post) : Exit → Act → World → Prop := (Exit.then (wpx Tryz.prog (cx 97) C43 (bodyPost Tryz.prog Tryz.f91 R)) (bodyPost Tryz.prog Tryz.f91 R))
abbrev Q6 (R : Post) : Exit → Act → World → Prop := (Exit.inBlock 0 (Q5 R))
/-- the head of the loop, lexer.go:117 -/
def L15 (s0 : ByteArray) (i1 : Int) (t6 more7 form8 : Addr) (b10 k11 : Int) (w : World) (R : Post) : Prop := LP Tryz.prog (cx 97) C42 (Q6 R) [(0, .string s0), (1, .i i1), (6, .pointer (some t6)), (7, .pointer (some more7)), (8, .pointer (some form8)), (10, .i b10), (11, .i k11)] w
def KE_L15 (E : Env) (w : World) (R : Post) : Prop := W.asStr (Env.get? E 0) fun s0 => W.asInt .i64 (Env.get? E 1) fun i1 => W.asRef (Env.get? E 6) fun t6 => W.asRef (Env.get? E 7) fun more7 => W.asRef (Env.get? E 8) fun form8 => W.asInt .i64 (Env.get? E 10) fun b10 => W.asInt .i64 (Env.get? E 11) fun k11 => L15 s0 i1 t6 more7 form8 b10 k11 w R
theorem KE_L15_ok (R : Post) (E : Env) (w : World) (h : KE_L15 E w R) : LP Tryz.prog (cx 97) C42 (Q6 R) E w := by
  obtain ⟨s0, hq0, h_1⟩ := W.asStr_elim h
  obtain ⟨i1, hq1, h_2⟩ := W.asInt_elim h_1
  obtain ⟨t6, hq6, h_3⟩ := W.asRef_elim h_2
  obtain ⟨more7, hq7, h_4⟩ := W.asRef_elim h_3
  obtain ⟨form8, hq8, h_5⟩ := W.asRef_elim h_4
  obtain ⟨b10, hq10, h_6⟩ := W.asInt_elim h_5
  obtain ⟨k11, hq11, h_7⟩ := W.asInt_elim h_6
  intro a ha
  exact h_7 a (ha.cons hq0 (ha.cons hq1 (ha.cons hq6 (ha.cons hq7 (ha.cons hq8 (ha.cons hq10 (ha.cons hq11 ha.nil)))))))
noncomputable def C44:=C42.sn
noncomputable def C45:=C44.fs
noncomputable def C46:=C45.fs
noncomputable def C47:=C46.fs
noncomputable def C48:=C47.sn
noncomputable def C49:=C48.fs
noncomputable def C50:=C44.sn
abbrev Q7 (R : Post) : Exit → Act → World → Prop := (Exit.then (wpx Tryz.prog (cx 97) C50 (Exit.then (LoopWP Tryz.prog (cx 97) C42 (Q6 R)) (Q6 R))) (Exit.then (LoopWP Tryz.prog (cx 97) C42 (Q6 R)) (Q6 R)))
noncomputable def C51:=C46.sn
abbrev Q8 (R : Post) : Exit → Act → World → Prop := (Exit.then (wpx Tryz.prog (cx 97) C51 (Exit.inBlock 1 (Q7 R))) (Exit.inBlock 1 (Q7 R)))
noncomputable def C52:=C49.fs
noncomputable def C53:=C49.sn
/-- lexer.go:119 -/
abbrev S18 (i1 : Int) (t6 more7 : Addr) (w : World) (R : Post) : Prop :=
  ∃ t77_0 : Int, ∃ t77_1 : Int, w.drew.cell? (more7.add 0) = some (.i t77_0) ∧ w.drew.cell? (more7.add 1) = some (.i t77_1) ∧ 
  (w.drew.cell? t6).isSome = true ∧ w.drew.frozen? t6 = false ∧ let w1 := w.drew.setCell t6 (.i t77_0)
  (w1.cell? (t6.add 1)).isSome = true ∧ w1.frozen? (t6.add 1) = false ∧ let w2 := w1.setCell (t6.add 1) (.i t77_1)
  ∃ r6_0 : Int, ∃ r6_1 : Int, w2.cell? (t6.add 0) = some (.i r6_0) ∧ w2.cell? (t6.add 1) = some (.i r6_1) ∧ 
  R (.returned (.tuple #[.int .u8 0, .i i1, .agg #[.i r6_0, .i r6_1]])) w2
def KE_S18 (E : Env) (w : World) (R : Post) : Prop := W.asInt .i64 (Env.get? E 1) fun i1 => W.asRef (Env.get? E 6) fun t6 => W.asRef (Env.get? E 7) fun more7 => S18 i1 t6 more7 w R
theorem KE_S18_ok (R : Post) (E : Env) (w : World) (h : KE_S18 E w R) : WP Tryz.prog (cx 97) C49 (Q8 R) E w := by
  obtain ⟨i1, hq1, h_1⟩ := W.asInt_elim h
  obtain ⟨t6, hq6, h_2⟩ := W.asRef_elim h_1
  obtain ⟨more7, hq7, h_3⟩ := W.asRef_elim h_2
  exact fun a ha => WP.at (n := (cx 97)) (E := [(1, .i i1), (6, .pointer (some t6)), (7, .pointer (some more7))]) (WP.seq (c := C49) (x := C52) (y := C53) (by kernel_rfl) <| WP.draw (c := C52) [0, 1, 2, 3, 4] (fun E w => retVC Tryz.prog Tryz.f91 E w (fun v => R (.returned v) w)) (by kernel_rfl) (Eq.mp (by kernel_rfl) h_3) fun _ _ a hA hK => (WP.ret (c := C53) (by kernel_rfl) fun a hA => retVC_sound hA hK) a hA) (ha.cons hq1 (ha.cons hq6 (ha.cons hq7 ha.nil)))
noncomputable def C54:=C51.fs
noncomputable def C55:=C54.sn
noncomputable def C56:=C55.fs
noncomputable def C57:=C51.sn
abbrev Q9 (R : Post) : Exit → Act → World → Prop := (Exit.then (wpx Tryz.prog (cx 97) C57 (Exit.inBlock 1 (Q7 R))) (Exit.inBlock 1 (Q7 R)))
noncomputable def C58:=C56.fs
noncomputable def C59:=C56.sn
/-- lexer.go:122 -/
abbrev S20 (i1 : Int) (t6 form8 : Addr) (w : World) (R : Post) : Prop :=
  ∃ t84_0 : Int, ∃ t84_1 : Int, w.drew.cell? (form8.add 0) = some (.i t84_0) ∧ w.drew.cell? (form8.add 1) = some (.i t84_1) ∧ 
  (w.drew.cell? t6).isSome = true ∧ w.drew.frozen? t6 = false ∧ let w1 := w.drew.setCell t6 (.i t84_0)
  (w1.cell? (t6.add 1)).isSome = true ∧ w1.frozen? (t6.add 1) = false ∧ let w2 := w1.setCell (t6.add 1) (.i t84_1)
  ∃ r6_0 : Int, ∃ r6_1 : Int, w2.cell? (t6.add 0) = some (.i r6_0) ∧ w2.cell? (t6.add 1) = some (.i r6_1) ∧ 
  R (.returned (.tuple #[.int .u8 0, .i i1, .agg #[.i r6_0, .i r6_1]])) w2
def KE_S20 (E : Env) (w : World) (R : Post) : Prop := W.asInt .i64 (Env.get? E 1) fun i1 => W.asRef (Env.get? E 6) fun t6 => W.asRef (Env.get? E 8) fun form8 => S20 i1 t6 form8 w R
theorem KE_S20_ok (R : Post) (E : Env) (w : World) (h : KE_S20 E w R) : WP Tryz.prog (cx 97) C56 (Q9 R) E w := by
  obtain ⟨i1, hq1, h_1⟩ := W.asInt_elim h
  obtain ⟨t6, hq6, h_2⟩ := W.asRef_elim h_1
  obtain ⟨form8, hq8, h_3⟩ := W.asRef_elim h_2
  exact fun a ha => WP.at (n := (cx 97)) (E := [(1, .i i1), (6, .pointer (some t6)), (8, .pointer (some form8))]) (WP.seq (c := C56) (x := C58) (y := C59) (by kernel_rfl) <| WP.draw (c := C58) [0, 1, 2, 3, 4] (fun E w => retVC Tryz.prog Tryz.f91 E w (fun v => R (.returned v) w)) (by kernel_rfl) (Eq.mp (by kernel_rfl) h_3) fun _ _ a hA hK => (WP.ret (c := C59) (by kernel_rfl) fun a hA => retVC_sound hA hK) a hA) (ha.cons hq1 (ha.cons hq6 (ha.cons hq8 ha.nil)))
abbrev Q10 (R : Post) : Exit → Act → World → Prop := (Exit.then (LoopWP Tryz.prog (cx 97) C42 (Q6 R)) (Q6 R))
/-- lexer.go:117 -/
abbrev S22 (s0 : ByteArray) (i1 : Int) (t6 more7 form8 : Addr) (b10 k11 : Int) (w : World) (R : Post) : Prop :=
  L15 s0 i1 t6 more7 form8 b10 (IntKind.wrap .i64 (k11 + 1)) w R
def KE_S22 (E : Env) (w : World) (R : Post) : Prop := W.asStr (Env.get? E 0) fun s0 => W.asInt .i64 (Env.get? E 1) fun i1 => W.asRef (Env.get? E 6) fun t6 => W.asRef (Env.get? E 7) fun more7 => W.asRef (Env.get? E 8) fun form8 => W.asInt .i64 (Env.get? E 10) fun b10 => W.asInt .i64 (Env.get? E 11) fun k11 => S22 s0 i1 t6 more7 form8 b10 k11 w R
theorem KE_S22_ok (R : Post) (E : Env) (w : World) (h : KE_S22 E w R) : WP Tryz.prog (cx 97) C50 (Q10 R) E w := by
  obtain ⟨s0, hq0, h_1⟩ := W.asStr_elim h
  obtain ⟨i1, hq1, h_2⟩ := W.asInt_elim h_1
  obtain ⟨t6, hq6, h_3⟩ := W.asRef_elim h_2
  obtain ⟨more7, hq7, h_4⟩ := W.asRef_elim h_3
  obtain ⟨form8, hq8, h_5⟩ := W.asRef_elim h_4
  obtain ⟨b10, hq10, h_6⟩ := W.asInt_elim h_5
  obtain ⟨k11, hq11, h_7⟩ := W.asInt_elim h_6
  exact fun a ha => WP.at (n := (cx 97)) (E := [(0, .string s0), (1, .i i1), (6, .pointer (some t6)), (7, .pointer (some more7)), (8, .pointer (some form8)), (10, .i b10), (11, .i k11)]) (WP.reg (c := C50) (fun E w => KE_L15 E w R) (by kernel_rfl) (Eq.mp (by kernel_rfl) h_7) fun _ _ a hA hK => KE_L15_ok R _ _ hK a hA) (ha.cons hq0 (ha.cons hq1 (ha.cons hq6 (ha.cons hq7 (ha.cons hq8 (ha.cons hq10 (ha.cons hq11 ha.nil)))))))
abbrev Q11 (R : Post) : Exit → Act → World → Prop := (Exit.inBlock 1 (Q7 R))
/-- lexer.go:124 -/
abbrev S21 (s0 : ByteArray) (i1 : Int) (t6 more7 form8 : Addr) (b10 k11 : Int) (w : World) (R : Post) : Prop :=
  (0 : Int) ≤ k11 ∧ ∃ t89_b : UInt8, s0[Int.toNat k11]? = some t89_b ∧ Calls Tryz.prog n_strings_IndexByte #[.string (ByteArray.mk #[48, 49, 50, 51, 52, 53, 54, 55, 56, 57, 97, 98, 99, 100, 101, 102]), .int .u8 ((t89_b.toNat : Nat) : Int)] w fun r_ w1 => ∃ t90 : Int, r_ = .returned (.i t90) ∧ 
  S22 s0 i1 t6 more7 form8 (bOr .i64 (IntKind.wrap .i64 (b10 * 2 ^ (4))) t90) k11 w1 R
def KE_S21 (E : Env) (w : World) (R : Post) : Prop := W.asStr (Env.get? E 0) fun s0 => W.asInt .i64 (Env.get? E 1) fun i1 => W.asRef (Env.get? E 6) fun t6 => W.asRef (Env.get? E 7) fun more7 => W.asRef (Env.get? E 8) fun form8 => W.asInt .i64 (Env.get? E 10) fun b10 => W.asInt .i64 (Env.get? E 11) fun k11 => S21 s0 i1 t6 more7 form8 b10 k11 w R
theorem KE_S21_ok (R : Post) (E : Env) (w : World) (h : KE_S21 E w R) : WP Tryz.prog (cx 97) C57 (Q11 R) E w := by
  obtain ⟨s0, hq0, h_1⟩ := W.asStr_elim h
  obtain ⟨i1, hq1, h_2⟩ := W.asInt_elim h_1
  obtain ⟨t6, hq6, h_3⟩ := W.asRef_elim h_2
  obtain ⟨more7, hq7, h_4⟩ := W.asRef_elim h_3
  obtain ⟨form8, hq8, h_5⟩ := W.asRef_elim h_4
  obtain ⟨b10, hq10, h_6⟩ := W.asInt_elim h_5
  obtain ⟨k11, hq11, h_7⟩ := W.asInt_elim h_6
  exact fun a ha => WP.at (n := (cx 97)) (E := [(0, .string s0), (1, .i i1), (6, .pointer (some t6)), (7, .pointer (some more7)), (8, .pointer (some form8)), (10, .i b10), (11, .i k11)]) (WP.reg (c := C57) (fun E w => KE_S22 E w R) (by kernel_rfl) (Eq.mp (by kernel_rfl) h_7) fun _ _ a hA hK => (KE_S22_ok R _ _ hK) a hA) (ha.cons hq0 (ha.cons hq1 (ha.cons hq6 (ha.cons hq7 (ha.cons hq8 (ha.cons hq10 (ha.cons hq11 ha.nil)))))))
noncomputable def C60:=C54.fs
noncomputable def C61:=C55.sn
/-- lexer.go:121 -/
abbrev S19 (s0 : ByteArray) (i1 : Int) (t6 more7 form8 : Addr) (b10 k11 : Int) (w : World) (R : Post) : Prop :=
  (0 : Int) ≤ k11 ∧ ∃ t80_b : UInt8, s0[Int.toNat k11]? = some t80_b ∧ Calls Tryz.prog n_lexer_digit_byte #[.int .u8 ((t80_b.toNat : Nat) : Int), .i 16] w fun r_ w1 => ∃ t81 : Bool, r_ = .returned (.bool t81) ∧ 
  sel (!t81) (S20 i1 t6 form8 w1 R) (S21 s0 i1 t6 more7 form8 b10 k11 w1 R)
def KE_S19 (E : Env) (w : World) (R : Post) : Prop := W.asStr (Env.get? E 0) fun s0 => W.asInt .i64 (Env.get? E 1) fun i1 => W.asRef (Env.get? E 6) fun t6 => W.asRef (Env.get? E 7) fun more7 => W.asRef (Env.get? E 8) fun form8 => W.asInt .i64 (Env.get? E 10) fun b10 => W.asInt .i64 (Env.get? E 11) fun k11 => S19 s0 i1 t6 more7 form8 b10 k11 w R
theorem KE_S19_ok (R : Post) (E : Env) (w : World) (h : KE_S19 E w R) : WP Tryz.prog (cx 97) C54 (Q9 R) E w := by
  obtain ⟨s0, hq0, h_1⟩ := W.asStr_elim h
  obtain ⟨i1, hq1, h_2⟩ := W.asInt_elim h_1
  obtain ⟨t6, hq6, h_3⟩ := W.asRef_elim h_2
  obtain ⟨more7, hq7, h_4⟩ := W.asRef_elim h_3
  obtain ⟨form8, hq8, h_5⟩ := W.asRef_elim h_4
  obtain ⟨b10, hq10, h_6⟩ := W.asInt_elim h_5
  obtain ⟨k11, hq11, h_7⟩ := W.asInt_elim h_6
  exact fun a ha => WP.at (n := (cx 97)) (E := [(0, .string s0), (1, .i i1), (6, .pointer (some t6)), (7, .pointer (some more7)), (8, .pointer (some form8)), (10, .i b10), (11, .i k11)]) (WP.seq (c := C54) (x := C60) (y := C55) (by kernel_rfl) <| WP.reg (c := C60) (fun E w => condK (Env.val E (.tmp 82)) (KE_S20 E w R) (KE_S21 E w R)) (by kernel_rfl) (Eq.mp (by kernel_rfl) h_7) fun _ _ a hA hK => (WP.condK (c := C55) (x := C56) (y := C61) (o := .tmp 82) (by kernel_rfl) (fun hK => (KE_S20_ok R _ _ hK)) (fun hK => (WP.skip (c := C61) (by kernel_rfl) fun a hA => (KE_S21_ok R _ _ hK) a hA)) hK) a hA) (ha.cons hq0 (ha.cons hq1 (ha.cons hq6 (ha.cons hq7 (ha.cons hq8 (ha.cons hq10 (ha.cons hq11 ha.nil)))))))
noncomputable def C62:=C47.fs
noncomputable def C63:=C48.sn
/-- lexer.go:118 -/
abbrev S17 (s0 : ByteArray) (i1 : Int) (t6 more7 form8 : Addr) (b10 k11 : Int) (w : World) (R : Post) : Prop :=
  sel (k11 == ((s0.size : Nat) : Int)) (S18 i1 t6 more7 w R) (S19 s0 i1 t6 more7 form8 b10 k11 w R)
def KE_S17 (E : Env) (w : World) (R : Post) : Prop := W.asStr (Env.get? E 0) fun s0 => W.asInt .i64 (Env.get? E 1) fun i1 => W.asRef (Env.get? E 6) fun t6 => W.asRef (Env.get? E 7) fun more7 => W.asRef (Env.get? E 8) fun form8 => W.asInt .i64 (Env.get? E 10) fun b10 => W.asInt .i64 (Env.get? E 11) fun k11 => S17 s0 i1 t6 more7 form8 b10 k11 w R
theorem KE_S17_ok (R : Post) (E : Env) (w : World) (h : KE_S17 E w R) : WP Tryz.prog (cx 97) C47 (Q8 R) E w := by
  obtain ⟨s0, hq0, h_1⟩ := W.asStr_elim h
  obtain ⟨i1, hq1, h_2⟩ := W.asInt_elim h_1
  obtain ⟨t6, hq6, h_3⟩ := W.asRef_elim h_2
  obtain ⟨more7, hq7, h_4⟩ := W.asRef_elim h_3
  obtain ⟨form8, hq8, h_5⟩ := W.asRef_elim h_4
  obtain ⟨b10, hq10, h_6⟩ := W.asInt_elim h_5
  obtain ⟨k11, hq11, h_7⟩ := W.asInt_elim h_6
  exact fun a ha => WP.at (n := (cx 97)) (E := [(0, .string s0), (1, .i i1), (6, .pointer (some t6)), (7, .pointer (some more7)), (8, .pointer (some form8)), (10, .i b10), (11, .i k11)]) (WP.seq (c := C47) (x := C62) (y := C48) (by kernel_rfl) <| WP.reg (c := C62) (fun E w => condK (Env.val E (.tmp 75)) (KE_S18 E w R) (KE_S19 E w R)) (by kernel_rfl) (Eq.mp (by kernel_rfl) h_7) fun _ _ a hA hK => (WP.condK (c := C48) (x := C49) (y := C63) (o := .tmp 75) (by kernel_rfl) (fun hK => (KE_S18_ok R _ _ hK)) (fun hK => (WP.skip (c := C63) (by kernel_rfl) fun a hA => (WP.seq (c := C51) (x := C54) (y := C57) (by kernel_rfl) (KE_S19_ok R _ _ hK)) a hA)) hK) a hA) (ha.cons hq0 (ha.cons hq1 (ha.cons hq6 (ha.cons hq7 (ha.cons hq8 (ha.cons hq10 (ha.cons hq11 ha.nil)))))))
abbrev Q12 (R : Post) : Exit → Act → World → Prop := (bodyPost Tryz.prog Tryz.f91 R)
noncomputable def C64:=C43.fs
noncomputable def C65:=C43.sn
/-- lexer.go:126 -/
abbrev S23 (i1 : Int) (t6 : Addr) (b10 : Int) (w : World) (R : Post) : Prop :=
  (w.cell? t6).isSome = true ∧ w.frozen? t6 = false ∧ let w1 := w.setCell t6 (.i 0)
  (w1.cell? (t6.add 1)).isSome = true ∧ w1.frozen? (t6.add 1) = false ∧ let w2 := w1.setCell (t6.add 1) (.i 0)
  ∃ r6_0 : Int, ∃ r6_1 : Int, w2.cell? (t6.add 0) = some (.i r6_0) ∧ w2.cell? (t6.add 1) = some (.i r6_1) ∧ 
  R (.returned (.tuple #[.int .u8 (IntKind.wrap .u8 b10), .i (IntKind.wrap .i64 (i1 + 4)), .agg #[.i r6_0, .i r6_1]])) w2
def KE_S23 (E : Env) (w : World) (R : Post) : Prop := W.asInt .i64 (Env.get? E 1) fun i1 => W.asRef (Env.get? E 6) fun t6 => W.asInt .i64 (Env.get? E 10) fun b10 => S23 i1 t6 b10 w R
theorem KE_S23_ok (R : Post) (E : Env) (w : World) (h : KE_S23 E w R) : WP Tryz.prog (cx 97) C43 (Q12 R) E w := by
  obtain ⟨i1, hq1, h_1⟩ := W.asInt_elim h
  obtain ⟨t6, hq6, h_2⟩ := W.asRef_elim h_1
  obtain ⟨b10, hq10, h_3⟩ := W.asInt_elim h_2
  exact fun a ha => WP.at (n := (cx 97)) (E := [(1, .i i1), (6, .pointer (some t6)), (10, .i b10)]) (WP.seq (c := C43) (x := C64) (y := C65) (by kernel_rfl) <| WP.reg (c := C64) (fun E w => retVC Tryz.prog Tryz.f91 E w (fun v => R (.returned v) w)) (by kernel_rfl) (Eq.mp (by kernel_rfl) h_3) fun _ _ a hA hK => (WP.ret (c := C65) (by kernel_rfl) fun a hA => retVC_sound hA hK) a hA) (ha.cons hq1 (ha.cons hq6 (ha.cons hq10 ha.nil)))
noncomputable def C66:=C42.fs
abbrev Q13 (R : Post) : Exit → Act → World → Prop := (Exit.then (wpx Tryz.prog (cx 97) C44 (Exit.then (LoopWP Tryz.prog (cx 97) C42 (Q6 R)) (Q6 R))) (Exit.then (LoopWP Tryz.prog (cx 97) C42 (Q6 R)) (Q6 R)))
noncomputable def C67:=C66.fs
noncomputable def C68:=C66.sn
noncomputable def C69:=C68.fs
noncomputable def C70:=C68.sn
/-- lexer.go:117 -/
abbrev S16 (s0 : ByteArray) (i1 : Int) (t6 more7 form8 : Addr) (b10 k11 : Int) (w : World) (R : Post) : Prop :=
  sel (decide (k11 < (IntKind.wrap .i64 (i1 + 4)))) (S17 s0 i1 t6 more7 form8 b10 k11 w R) (S23 i1 t6 b10 w R)
def KE_S16 (E : Env) (w : World) (R : Post) : Prop := W.asStr (Env.get? E 0) fun s0 => W.asInt .i64 (Env.get? E 1) fun i1 => W.asRef (Env.get? E 6) fun t6 => W.asRef (Env.get? E 7) fun more7 => W.asRef (Env.get? E 8) fun form8 => W.asInt .i64 (Env.get? E 10) fun b10 => W.asInt .i64 (Env.get? E 11) fun k11 => S16 s0 i1 t6 more7 form8 b10 k11 w R
theorem KE_S16_ok (R : Post) (E : Env) (w : World) (h : KE_S16 E w R) : WP Tryz.prog (cx 97) C66 (Q13 R) E w := by
  obtain ⟨s0, hq0, h_1⟩ := W.asStr_elim h
  obtain ⟨i1, hq1, h_2⟩ := W.asInt_elim h_1
  obtain ⟨t6, hq6, h_3⟩ := W.asRef_elim h_2
  obtain ⟨more7, hq7, h_4⟩ := W.asRef_elim h_3
  obtain ⟨form8, hq8, h_5⟩ := W.asRef_elim h_4
  obtain ⟨b10, hq10, h_6⟩ := W.asInt_elim h_5
  obtain ⟨k11, hq11, h_7⟩ := W.asInt_elim h_6
  exact fun a ha => WP.at (n := (cx 97)) (E := [(0, .string s0), (1, .i i1), (6, .pointer (some t6)), (7, .pointer (some more7)), (8, .pointer (some form8)), (10, .i b10), (11, .i k11)]) (WP.seq (c := C66) (x := C67) (y := C68) (by kernel_rfl) <| WP.reg (c := C67) (fun E w => condK (Env.val E (.tmp 69)) (KE_S17 E w R) (KE_S23 E w R)) (by kernel_rfl) (Eq.mp (by kernel_rfl) h_7) fun _ _ a hA hK => (WP.condK (c := C68) (x := C69) (y := C70) (o := .tmp 69) (by kernel_rfl) (fun hK => (WP.skip (c := C69) (by kernel_rfl) fun a hA => (WP.seq (c := C44) (x := C45) (y := C50) (by kernel_rfl) (WP.block (c := C45) (x := C46) (id := 1) (by kernel_rfl) (WP.seq (c := C46) (x := C47) (y := C51) (by kernel_rfl) (KE_S17_ok R _ _ hK)))) a hA)) (fun hK => (WP.exit (c := C70) (id := 0) (by kernel_rfl) fun a hA => (KE_S23_ok R _ _ hK) a hA)) hK) a hA) (ha.cons hq0 (ha.cons hq1 (ha.cons hq6 (ha.cons hq7 (ha.cons hq8 (ha.cons hq10 (ha.cons hq11 ha.nil)))))))
theorem L15_step (s0 : ByteArray) (i1 : Int) (t6 more7 form8 : Addr) (b10 k11 : Int) (w : World) (R : Post) (h : S16 s0 i1 t6 more7 form8 b10 k11 w R) : L15 s0 i1 t6 more7 form8 b10 k11 w R :=
  LP.step (n := (cx 97)) (c := C42) (E := [(0, .string s0), (1, .i i1), (6, .pointer (some t6)), (7, .pointer (some more7)), (8, .pointer (some form8)), (10, .i b10), (11, .i k11)]) (w := w) (WP.seq (c := C42) (x := C66) (y := C44) (by kernel_rfl) (KE_S16_ok R _ _ (Eq.mp (by kernel_rfl) h)))
noncomputable def C71:=C39.fs
/-- lexer.go:117 -/
abbrev S14 (s0 : ByteArray) (i1 : Int) (t6 more7 form8 : Addr) (b10 : Int) (w : World) (R : Post) : Prop :=
  L15 s0 i1 t6 more7 form8 b10 (IntKind.wrap .i64 (i1 + 2)) w R
def KE_S14 (E : Env) (w : World) (R : Post) : Prop := W.asStr (Env.get? E 0) fun s0 => W.asInt .i64 (Env.get? E 1) fun i1 => W.asRef (Env.get? E 6) fun t6 => W.asRef (Env.get? E 7) fun more7 => W.asRef (Env.get? E 8) fun form8 => W.asInt .i64 (Env.get? E 10) fun b10 => S14 s0 i1 t6 more7 form8 b10 w R
theorem KE_S14_ok (R : Post) (E : Env) (w : World) (h : KE_S14 E w R) : WP Tryz.prog (cx 97) C39 (Q5 R) E w := by
  obtain ⟨s0, hq0, h_1⟩ := W.asStr_elim h
  obtain ⟨i1, hq1, h_2⟩ := W.asInt_elim h_1
  obtain ⟨t6, hq6, h_3⟩ := W.asRef_elim h_2
  obtain ⟨more7, hq7, h_4⟩ := W.asRef_elim h_3
  obtain ⟨form8, hq8, h_5⟩ := W.asRef_elim h_4
  obtain ⟨b10, hq10, h_6⟩ := W.asInt_elim h_5
  exact fun a ha => WP.at (n := (cx 97)) (E := [(0, .string s0), (1, .i i1), (6, .pointer (some t6)), (7, .pointer (some more7)), (8, .pointer (some form8)), (10, .i b10)]) (WP.seq (c := C39) (x := C71) (y := C40) (by kernel_rfl) <| WP.reg (c := C71) (fun E w => KE_L15 E w R) (by kernel_rfl) (Eq.mp (by kernel_rfl) h_6) fun _ _ a hA hK => (WP.block (c := C40) (x := C41) (id := 0) (by kernel_rfl) (WP.loop (c := C41) (x := C42) (by kernel_rfl) (KE_L15_ok R _ _ hK))) a hA) (ha.cons hq0 (ha.cons hq1 (ha.cons hq6 (ha.cons hq7 (ha.cons hq8 (ha.cons hq10 ha.nil))))))
noncomputable def C72:=C30.fs
/-- lexer.go:116 -/
abbrev S13 (s0 : ByteArray) (i1 : Int) (t6 more7 form8 : Addr) (w : World) (R : Post) : Prop :=
  S14 s0 i1 t6 more7 form8 0 w R
def KE_S13 (E : Env) (w : World) (R : Post) : Prop := W.asStr (Env.get? E 0) fun s0 => W.asInt .i64 (Env.get? E 1) fun i1 => W.asRef (Env.get? E 6) fun t6 => W.asRef (Env.get? E 7) fun more7 => W.asRef (Env.get? E 8) fun form8 => S13 s0 i1 t6 more7 form8 w R
theorem KE_S13_ok (R : Post) (E : Env) (w : World) (h : KE_S13 E w R) : WP Tryz.prog (cx 97) C30 (Q12 R) E w := by
  obtain ⟨s0, hq0, h_1⟩ := W.asStr_elim h
  obtain ⟨i1, hq1, h_2⟩ := W.asInt_elim h_1
  obtain ⟨t6, hq6, h_3⟩ := W.asRef_elim h_2
  obtain ⟨more7, hq7, h_4⟩ := W.asRef_elim h_3
  obtain ⟨form8, hq8, h_5⟩ := W.asRef_elim h_4
  exact fun a ha => WP.at (n := (cx 97)) (E := [(0, .string s0), (1, .i i1), (6, .pointer (some t6)), (7, .pointer (some more7)), (8, .pointer (some form8))]) (WP.seq (c := C30) (x := C72) (y := C38) (by kernel_rfl) <| WP.reg (c := C72) (fun E w => KE_S14 E w R) (by kernel_rfl) (Eq.mp (by kernel_rfl) h_5) fun _ _ a hA hK => (WP.seq (c := C38) (x := C39) (y := C43) (by kernel_rfl) (KE_S14_ok R _ _ hK)) a hA) (ha.cons hq0 (ha.cons hq1 (ha.cons hq6 (ha.cons hq7 (ha.cons hq8 ha.nil)))))
noncomputable def C73:=C24.fs
noncomputable def C74:=C25.sn
/-- lexer.go:110 -/
abbrev S9 (s0 : ByteArray) (i1 : Int) (t6 more7 form8 : Addr) (c9 : Int) (w : World) (R : Post) : Prop :=
  sel (c9 != 120) (S10 i1 t6 form8 c9 w R) (S13 s0 i1 t6 more7 form8 w R)
def KE_S9 (E : Env) (w : World) (R : Post) : Prop := W.asStr (Env.get? E 0) fun s0 => W.asInt .i64 (Env.get? E 1) fun i1 => W.asRef (Env.get? E 6) fun t6 => W.asRef (Env.get? E 7) fun more7 => W.asRef (Env.get? E 8) fun form8 => W.asInt .u8 (Env.get? E 9) fun c9 => S9 s0 i1 t6 more7 form8 c9 w R
theorem KE_S9_ok (R : Post) (E : Env) (w : World) (h : KE_S9 E w R) : WP Tryz.prog (cx 97) C24 (Q4 R) E w := by
  obtain ⟨s0, hq0, h_1⟩ := W.asStr_elim h
  obtain ⟨i1, hq1, h_2⟩ := W.asInt_elim h_1
  obtain ⟨t6, hq6, h_3⟩ := W.asRef_elim h_2
  obtain ⟨more7, hq7, h_4⟩ := W.asRef_elim h_3
  obtain ⟨form8, hq8, h_5⟩ := W.asRef_elim h_4
  obtain ⟨c9, hq9, h_6⟩ := W.asInt_elim h_5
  exact fun a ha => WP.at (n := (cx 97)) (E := [(0, .string s0), (1, .i i1), (6, .pointer (some t6)), (7, .pointer (some more7)), (8, .pointer (some form8)), (9, .int .u8 c9)]) (WP.seq (c := C24) (x := C73) (y := C25) (by kernel_rfl) <| WP.reg (c := C73) (fun E w => condK (Env.val E (.tmp 51)) (KE_S10 E w R) (KE_S13 E w R)) (by kernel_rfl) (Eq.mp (by kernel_rfl) h_6) fun _ _ a hA hK => (WP.condK (c := C25) (x := C26) (y := C74) (o := .tmp 51) (by kernel_rfl) (fun hK => (WP.seq (c := C26) (x := C27) (y := C31) (by kernel_rfl) (KE_S10_ok R _ _ hK))) (fun hK => (WP.skip (c := C74) (by kernel_rfl) fun a hA => (KE_S13_ok R _ _ hK) a hA)) hK) a hA) (ha.cons hq0 (ha.cons hq1 (ha.cons hq6 (ha.cons hq7 (ha.cons hq8 (ha.cons hq9 ha.nil))))))
noncomputable def C75:=C23.fs
/-- lexer.go:110 -/
abbrev S8 (s0 : ByteArray) (i1 : Int) (t6 more7 form8 : Addr) (w : World) (R : Post) : Prop :=
  (0 : Int) ≤ (IntKind.wrap .i64 (i1 + 1)) ∧ ∃ t49_b : UInt8, s0[Int.toNat (IntKind.wrap .i64 (i1 + 1))]? = some t49_b ∧ S9 s0 i1 t6 more7 form8 ((t49_b.toNat : Nat) : Int) w R
def KE_S8 (E : Env) (w : World) (R : Post) : Prop := W.asStr (Env.get? E 0) fun s0 => W.asInt .i64 (Env.get? E 1) fun i1 => W.asRef (Env.get? E 6) fun t6 => W.asRef (Env.get? E 7) fun more7 => W.asRef (Env.get? E 8) fun form8 => S8 s0 i1 t6 more7 form8 w R
theorem KE_S8_ok (R : Post) (E : Env) (w : World) (h : KE_S8 E w R) : WP Tryz.prog (cx 97) C23 (Q4 R) E w := by
  obtain ⟨s0, hq0, h_1⟩ := W.asStr_elim h
  obtain ⟨i1, hq1, h_2⟩ := W.asInt_elim h_1
  obtain ⟨t6, hq6, h_3⟩ := W.asRef_elim h_2
  obtain ⟨more7, hq7, h_4⟩ := W.asRef_elim h_3
  obtain ⟨form8, hq8, h_5⟩ := W.asRef_elim h_4
  exact fun a ha => WP.at (n := (cx 97)) (E := [(0, .string s0), (1, .i i1), (6, .pointer (some t6)), (7, .pointer (some more7)), (8, .pointer (some form8))]) (WP.seq (c := C23) (x := C75) (y := C24) (by kernel_rfl) <| WP.reg (c := C75) (fun E w => KE_S9 E w R) (by kernel_rfl) (Eq.mp (by kernel_rfl) h_5) fun _ _ a hA hK => (KE_S9_ok R _ _ hK) a hA) (ha.cons hq0 (ha.cons hq1 (ha.cons hq6 (ha.cons hq7 (ha.cons hq8 ha.nil)))))
noncomputable def C76:=C17.fs
noncomputable def C77:=C18.sn
/-- lexer.go:107 -/
abbrev S6 (s0 : ByteArray) (i1 : Int) (t6 more7 form8 : Addr) (w : World) (R : Post) : Prop :=
  sel ((IntKind.wrap .i64 (i1 + 1)) == ((s0.size : Nat) : Int)) (S7 i1 t6 more7 w R) (S8 s0 i1 t6 more7 form8 w R)
def KE_S6 (E : Env) (w : World) (R : Post) : Prop := W.asStr (Env.get? E 0) fun s0 => W.asInt .i64 (Env.get? E 1) fun i1 => W.asRef (Env.get? E 6) fun t6 => W.asRef (Env.get? E 7) fun more7 => W.asRef (Env.get? E 8) fun form8 => S6 s0 i1 t6 more7 form8 w R
theorem KE_S6_ok (R : Post) (E : Env) (w : World) (h : KE_S6 E w R) : WP Tryz.prog (cx 97) C17 (Q2 R) E w := by
  obtain ⟨s0, hq0, h_1⟩ := W.asStr_elim h
  obtain ⟨i1, hq1, h_2⟩ := W.asInt_elim h_1
  obtain ⟨t6, hq6, h_3⟩ := W.asRef_elim h_2
  obtain ⟨more7, hq7, h_4⟩ := W.asRef_elim h_3
  obtain ⟨form8, hq8, h_5⟩ := W.asRef_elim h_4
  exact fun a ha => WP.at (n := (cx 97)) (E := [(0, .string s0), (1, .i i1), (6, .pointer (some t6)), (7, .pointer (some more7)), (8, .pointer (some form8))]) (WP.seq (c := C17) (x := C76) (y := C18) (by kernel_rfl) <| WP.reg (c := C76) (fun E w => condK (Env.val E (.tmp 43)) (KE_S7 E w R) (KE_S8 E w R)) (by kernel_rfl) (Eq.mp (by kernel_rfl) h_5) fun _ _ a hA hK => (WP.condK (c := C18) (x := C19) (y := C77) (o := .tmp 43) (by kernel_rfl) (fun hK => (KE_S7_ok R _ _ hK)) (fun hK => (WP.skip (c := C77) (by kernel_rfl) fun a hA => (WP.seq (c := C20) (x := C23) (y := C30) (by kernel_rfl) (KE_S8_ok R _ _ hK)) a hA)) hK) a hA) (ha.cons hq0 (ha.cons hq1 (ha.cons hq6 (ha.cons hq7 (ha.cons hq8 ha.nil)))))
noncomputable def C78:=C3.fs
noncomputable def C79:=C4.sn
/-- lexer.go:101 -/
abbrev S2 (s0 : ByteArray) (i1 : Int) (t6 more7 form8 : Addr) (w : World) (R : Post) : Prop :=
  (0 : Int) ≤ i1 ∧ ∃ t19_b : UInt8, s0[Int.toNat i1]? = some t19_b ∧ sel (((t19_b.toNat : Nat) : Int) != 92) (S3 s0 i1 t6 form8 w R) (S6 s0 i1 t6 more7 form8 w R)
def KE_S2 (E : Env) (w : World) (R : Post) : Prop := W.asStr (Env.get? E 0) fun s0 => W.asInt .i64 (Env.get? E 1) fun i1 => W.asRef (Env.get? E 6) fun t6 => W.asRef (Env.get? E 7) fun more7 => W.asRef (Env.get? E 8) fun form8 => S2 s0 i1 t6 more7 form8 w R
theorem KE_S2_ok (R : Post) (E : Env) (w : World) (h : KE_S2 E w R) : WP Tryz.prog (cx 97) C3 (Q1 R) E w := by
  obtain ⟨s0, hq0, h_1⟩ := W.asStr_elim h
  obtain ⟨i1, hq1, h_2⟩ := W.asInt_elim h_1
  obtain ⟨t6, hq6, h_3⟩ := W.asRef_elim h_2
  obtain ⟨more7, hq7, h_4⟩ := W.asRef_elim h_3
  obtain ⟨form8, hq8, h_5⟩ := W.asRef_elim h_4
  exact fun a ha => WP.at (n := (cx 97)) (E := [(0, .string s0), (1, .i i1), (6, .pointer (some t6)), (7, .pointer (some more7)), (8, .pointer (some form8))]) (WP.seq (c := C3) (x := C78) (y := C4) (by kernel_rfl) <| WP.reg (c := C78) (fun E w => condK (Env.val E (.tmp 20)) (KE_S3 E w R) (KE_S6 E w R)) (by kernel_rfl) (Eq.mp (by kernel_rfl) h_5) fun _ _ a hA hK => (WP.condK (c := C4) (x := C5) (y := C79) (o := .tmp 20) (by kernel_rfl) (fun hK => (WP.seq (c := C5) (x := C6) (y := C10) (by kernel_rfl) (KE_S3_ok R _ _ hK))) (fun hK => (WP.skip (c := C79) (by kernel_rfl) fun a hA => (WP.seq (c := C9) (x := C17) (y := C20) (by kernel_rfl) (KE_S6_ok R _ _ hK)) a hA)) hK) a hA) (ha.cons hq0 (ha.cons hq1 (ha.cons hq6 (ha.cons hq7 (ha.cons hq8 ha.nil)))))
noncomputable def C80:=C1.fs
/-- lexer.go:100 -/
abbrev S1 (s0 : ByteArray) (i1 : Int) (t6 : Addr) (w : World) (R : Post) : Prop :=
  let w1 := w.alloc (.cells #[.i 0, .i 0] ty_lexer_fault)
  let w2 := w1.alloc (.cells #[.i 0, .i 0] ty_lexer_fault)
  (w2.cell? (nb w)).isSome = true ∧ w2.frozen? (nb w) = false ∧ let w3 := w2.setCell (nb w) (.i 3)
  (w3.cell? ((nb w).add 1)).isSome = true ∧ w3.frozen? ((nb w).add 1) = false ∧ let w4 := w3.setCell ((nb w).add 1) (.i ((s0.size : Nat) : Int))
  (w4.cell? (nb w1)).isSome = true ∧ w4.frozen? (nb w1) = false ∧ let w5 := w4.setCell (nb w1) (.i 2)
  (w5.cell? ((nb w1).add 1)).isSome = true ∧ w5.frozen? ((nb w1).add 1) = false ∧ let w6 := w5.setCell ((nb w1).add 1) (.i i1)
  S2 s0 i1 t6 (nb w) (nb w1) w6 R
def KE_S1 (E : Env) (w : World) (R : Post) : Prop := W.asStr (Env.get? E 0) fun s0 => W.asInt .i64 (Env.get? E 1) fun i1 => W.asRef (Env.get? E 6) fun t6 => S1 s0 i1 t6 w R
theorem KE_S1_ok (R : Post) (E : Env) (w : World) (h : KE_S1 E w R) : WP Tryz.prog (cx 97) C1 (Q12 R) E w := by
  obtain ⟨s0, hq0, h_1⟩ := W.asStr_elim h
  obtain ⟨i1, hq1, h_2⟩ := W.asInt_elim h_1
  obtain ⟨t6, hq6, h_3⟩ := W.asRef_elim h_2
  exact fun a ha => WP.at (n := (cx 97)) (E := [(0, .string s0), (1, .i i1), (6, .pointer (some t6))]) (WP.seq (c := C1) (x := C80) (y := C2) (by kernel_rfl) <| WP.reg (c := C80) (fun E w => KE_S2 E w R) (by kernel_rfl) (Eq.mp (by kernel_rfl) h_3) fun _ _ a hA hK => (WP.seq (c := C2) (x := C3) (y := C9) (by kernel_rfl) (KE_S2_ok R _ _ hK)) a hA) (ha.cons hq0 (ha.cons hq1 (ha.cons hq6 ha.nil)))
noncomputable def C81:=C0.fs
/-- lexer.go:99 -/
abbrev S0 (s0 : ByteArray) (i1 : Int) (w : World) (R : Post) : Prop :=
  let w1 := w.alloc (.cells #[.i 0, .i 0] ty_lexer_fault)
  S1 s0 i1 (nb w) w1 R
def KE_S0 (E : Env) (w : World) (R : Post) : Prop := W.asStr (Env.get? E 0) fun s0 => W.asInt .i64 (Env.get? E 1) fun i1 => S0 s0 i1 w R
theorem KE_S0_ok (R : Post) (E : Env) (w : World) (h : KE_S0 E w R) : WP Tryz.prog (cx 97) C0 (Q12 R) E w := by
  obtain ⟨s0, hq0, h_1⟩ := W.asStr_elim h
  obtain ⟨i1, hq1, h_2⟩ := W.asInt_elim h_1
  exact fun a ha => WP.at (n := (cx 97)) (E := [(0, .string s0), (1, .i i1)]) (WP.seq (c := C0) (x := C81) (y := C1) (by kernel_rfl) <| WP.reg (c := C81) (fun E w => KE_S1 E w R) (by kernel_rfl) (Eq.mp (by kernel_rfl) h_2) fun _ _ a hA hK => (KE_S1_ok R _ _ hK) a hA) (ha.cons hq0 (ha.cons hq1 ha.nil))
/-- enthymeme/lexer.item -/
theorem ok (s0 : ByteArray) (i1 : Int) (w : World) (R : Post) (h : S0 s0 i1 w R) : Calls Tryz.prog n_lexer_item #[.string s0, .i i1] w R :=
  calls_of_WP' (R := R) (fn := Tryz.f91) (c := C0) (args := [.string s0, .i i1]) (by kernel_rfl) (by kernel_rfl) (by kernel_rfl) (KE_S0_ok R _ _ (Eq.mp (by kernel_rfl) h))
end lexer_item
end Go.Proofs.YtibaobaobnpdaaaGreatDoor
set_option maxRecDepth 100000
set_option maxHeartbeats 1000000
namespace Go.Proofs.YtibaobaobnpdaaaGreatDoor
open Go Go.W

theorem lx_indexByteString (s : ByteArray) (c : UInt8) (w : World) : Sem.run Tryz.prog (callFunc n_internal_bytealg_IndexByteString #[.string s, .int .u8 (c.toNat : Int)]) w = .ok (.value (.int .i64 (Go.Lib.indexByte (bl s) c))) w := by
  have h := run_callFunc_indexByte (P := Tryz.prog) (f := n_internal_bytealg_IndexByteString) (fn := (Tryz.prog.funcs[n_internal_bytealg_IndexByteString]?).getD default) (by kernel_rfl) (by kernel_rfl) (by kernel_rfl) (by kernel_rfl) (by kernel_rfl) #[.string s, .int .u8 (c.toNat : Int)] w
  rw [h, Go.Lib.run_indexByteString]
  show Result.ok _ w = _
  congr 4
  simp
theorem lx_indexByte (s : ByteArray) (c : UInt8) (w : World) : Calls Tryz.prog n_strings_IndexByte #[.string s, .int .u8 (c.toNat : Int)] w fun r w' => r = .returned (.int .i64 (Go.Lib.indexByte (bl s) c)) ∧ w = w' := by
  refine strings_IndexByte.ok _ _ w _ ?_
  refine (show Calls Tryz.prog n_internal_stringslite_IndexByte #[.string s, .int .u8 (c.toNat : Int)] w fun r w' => r = .returned (.int .i64 (Go.Lib.indexByte (bl s) c)) ∧ w = w' from ?_).mono ?_
  · exact internal_stringslite_IndexByte.ok _ _ w _ ⟨_, w, lx_indexByteString s c w, rfl, rfl⟩
  · rintro r w1 ⟨rfl, rfl⟩
    exact ⟨_, rfl, rfl, rfl⟩
theorem indexByte_mem : ∀ (l : List UInt8) (c : UInt8), (0 ≤ Go.Lib.indexByte l c) = (c ∈ l)
  | [], c => by simp [Go.Lib.indexByte]
  | b :: l, c => by
    unfold Go.Lib.indexByte
    have ih := indexByte_mem l c
    by_cases h : b = c
    · subst h; simp
    · rw [if_neg (by simpa using h)]
      have hge := Go.Lib.indexByte_ge l c
      have e : (c ∈ b :: l) = (c ∈ l) := by
        apply propext
        rw [List.mem_cons]
        exact ⟨fun h' => h'.resolve_left fun e => h e.symm, .inr⟩
      rw [e, ← ih]
      split
      · rename_i h1
        have : Go.Lib.indexByte l c = -1 := by simpa using h1
        rw [this]
      · rename_i h1
        have : Go.Lib.indexByte l c ≠ -1 := by simpa using h1
        apply propext
        omega
end Go.Proofs.YtibaobaobnpdaaaGreatDoor
set_option maxRecDepth 100000
set_option maxHeartbeats 1000000
namespace Go.Proofs.YtibaobaobnpdaaaGreatDoor
open Go Go.W

def lxSmall (c : UInt8) : Bool := decide (97 ≤ c.toNat) && decide (c.toNat ≤ 122)
def digB (base : Nat) (c : UInt8) : Bool :=
  if base = 2 then (c.toNat == 48 || c.toNat == 49)
  else if base = 16 then (decide (48 ≤ c.toNat) && decide (c.toNat ≤ 57)) || (decide (97 ≤ c.toNat) && decide (c.toNat ≤ 102))
  else decide (48 ≤ c.toNat) && decide (c.toNat ≤ 57)
def lxWord (c : UInt8) : Bool := lxSmall c || digB 10 c || c.toNat == 45 || c.toNat == 35
def startB (c : UInt8) : Bool := lxSmall c || digB 10 c || c.toNat == 35
def spaceB (c : UInt8) : Bool := c.toNat == 9 || c.toNat == 10 || c.toNat == 13 || c.toNat == 32
def followB (c : UInt8) : Bool := spaceB c || c.toNat == 59 || c.toNat == 40 || c.toNat == 41 || c.toNat == 34
/-- how many bytes of spaces and comments are in front; the flag: within a comment -/
def skipN : Bool → List UInt8 → Nat
  | _, [] => 0
  | false, c :: l => if spaceB c then 1 + skipN false l else if c.toNat = 59 then 1 + skipN true l else 0
  | true, c :: l => if c.toNat = 10 then 1 + skipN false l else 1 + skipN true l
def hexV (c : UInt8) : Nat := if c.toNat ≤ 57 then c.toNat - 48 else c.toNat - 87
/-- what a string in quotation marks is, behind the first mark: its bytes and how many were read, or place and error -/
inductive QR where
  | ok (text : List UInt8) (used : Nat)
  | bad (at' : Nat) (e : Int)
def QR.push (c : UInt8) (k : Nat) : QR → QR
  | .ok t u => .ok (c :: t) (k + u)
  | .bad a e => .bad (k + a) e
def qu : List UInt8 → QR
  | [] => .bad 0 3
  | c :: l =>
    if c.toNat = 34 then .ok [] 1
    else if c.toNat ≠ 92 then (if c.toNat < 32 ∨ 126 < c.toNat then .bad 0 2 else (qu l).push c 1)
    else match l with
      | [] => .bad 1 3
      | d :: l2 =>
        if d.toNat = 34 ∨ d.toNat = 92 then (qu l2).push d 2
        else if d.toNat ≠ 120 then .bad 0 2
        else match l2 with
          | [] => .bad 2 3
          | x :: l3 => if digB 16 x then (match l3 with
              | [] => .bad 3 3
              | y :: l4 => if digB 16 y then (qu l4).push (UInt8.ofNat (16 * hexV x + hexV y)) 4 else .bad 0 2)
            else .bad 0 2
/-- behind the # -/
def examH (l : List UInt8) : Int × Int := match l with
  | b :: d :: r =>
    if b.toNat = 98 then (if (d :: r).all (digB 2) then (if 64 < (d :: r).length then (0, 4) else (3, 0)) else (0, 2))
    else if b.toNat = 120 then (if (d :: r).all (digB 16) then (if 16 < (d :: r).length then (0, 4) else (3, 0)) else (0, 2))
    else (0, 2)
  | _ => (0, 2)
/-- the kind of a word, or the error -/
def exam (t : List UInt8) : Int × Int :=
  match t with
  | [] => (0, 2)
  | c :: l =>
    if lxSmall c then (if t.any (fun x => x.toNat == 35) then (0, 2) else if 16 < t.length then (0, 6) else (2, 0))
    else if c.toNat ≠ 35 then (if !(t.all (digB 10)) || (c.toNat == 48 && decide (1 < t.length)) then (0, 2) else if 13 < t.length then (0, 4) else (4, 0))
    else examH l
inductive NT where
  | fin
  | tok (kind : Int) (text : List UInt8) (used : Nat)
  | bad (at' : Nat) (e : Int)
/-- one token; spaces were skipped -/
def next1 : List UInt8 → NT
  | [] => .fin
  | c :: l =>
    if c.toNat = 40 then .tok 0 [] 1
    else if c.toNat = 41 then .tok 1 [] 1
    else if c.toNat = 34 then (match qu l with | .ok t u => .tok 5 t (1 + u) | .bad a e => .bad (1 + a) e)
    else if startB c then
      (let t := (c :: l).takeWhile lxWord
       match exam t with
       | (k, e) => if e ≠ 0 then .bad 0 e else match (c :: l).drop t.length with
         | [] => .tok k t t.length
         | x :: _ => if followB x then .tok k t t.length else .bad t.length 2)
    else .bad 0 2
structure Tok where
  kind : Int
  text : List UInt8
  at' : Nat
inductive TR where
  | ok (l : List Tok)
  | bad (at' : Nat) (e : Int)
def TR.push (t : Tok) : TR → TR
  | .ok l => .ok (t :: l)
  | .bad a e => .bad a e
def toks : Nat → Nat → List UInt8 → TR
  | 0, i, _ => .ok [⟨6, [], i⟩]
  | n + 1, i, l =>
    let k := skipN false l
    match next1 (l.drop k) with
    | .fin => .ok [⟨6, [], i + k⟩]
    | .bad a e => .bad (i + k + a) e
    | .tok kind t u => (toks n (i + k + u) ((l.drop k).drop u)).push ⟨kind, t, i + k⟩
theorem skipN_le : ∀ (b : Bool) (l : List UInt8), skipN b l ≤ l.length
  | b, [] => by cases b <;> simp [skipN]
  | false, c :: l => by
    have h1 := skipN_le false l
    have h2 := skipN_le true l
    simp only [skipN, List.length_cons]
    split
    · omega
    · split <;> omega
  | true, c :: l => by
    have h1 := skipN_le false l
    have h2 := skipN_le true l
    simp only [skipN, List.length_cons]
    split <;> omega
/-- one item within quotation marks -/
inductive IR where
  | ok (c : UInt8) (used : Nat)
  | bad (at' : Nat) (e : Int)
def item1 : List UInt8 → IR
  | [] => .bad 0 3
  | c :: l =>
    if c.toNat ≠ 92 then (if c.toNat < 32 ∨ 126 < c.toNat then .bad 0 2 else .ok c 1)
    else match l with
      | [] => .bad 1 3
      | d :: l2 =>
        if d.toNat = 34 ∨ d.toNat = 92 then .ok d 2
        else if d.toNat ≠ 120 then .bad 0 2
        else match l2 with
          | [] => .bad 2 3
          | x :: l3 => if digB 16 x then (match l3 with
              | [] => .bad 3 3
              | y :: _ => if digB 16 y then .ok (UInt8.ofNat (16 * hexV x + hexV y)) 4 else .bad 0 2)
            else .bad 0 2
theorem qu_item (c : UInt8) (l : List UInt8) (h : c.toNat ≠ 34) : qu (c :: l) = match item1 (c :: l) with | .ok d u => (qu ((c :: l).drop u)).push d u | .bad a e => .bad a e := by
  conv => lhs; unfold qu
  unfold item1
  rw [if_neg h]
  by_cases h92 : c.toNat ≠ 92
  · simp only [if_pos h92]
    split
    · rfl
    · rfl
  · simp only [if_neg h92]
    cases l with
    | nil => rfl
    | cons d l2 =>
      simp only []
      split
      · rfl
      · split
        · rfl
        · cases l2 with
          | nil => rfl
          | cons x l3 =>
            simp only []
            split
            · cases l3 with
              | nil => rfl
              | cons y l4 =>
                simp only []
                split <;> rfl
            · rfl
end Go.Proofs.YtibaobaobnpdaaaGreatDoor
set_option maxRecDepth 100000
set_option maxHeartbeats 1000000
namespace Go.Proofs.YtibaobaobnpdaaaGreatDoor
open Go Go.W

theorem l_small (c : UInt8) (w : World) : Calls Tryz.prog n_lexer_small_byte #[.int .u8 (c.toNat : Int)] w fun r w' => r = .returned (.bool (lxSmall c)) ∧ w = w' := by
  refine lexer_small_byte.ok _ w _ (sel_intro (fun h => ?_) (fun h => ?_))
  · have := of_decide_eq_true h
    refine ⟨?_, rfl⟩
    unfold lxSmall
    rw [decide_eq_true (show 97 ≤ c.toNat by omega), Bool.true_and]
    congr 2
    exact decide_eq_decide.2 (by omega)
  · have := of_decide_eq_false h
    refine ⟨?_, rfl⟩
    unfold lxSmall
    rw [decide_eq_false (show ¬ 97 ≤ c.toNat by omega), Bool.false_and]
theorem l_digit (c : UInt8) (base : Nat) (w : World) : Calls Tryz.prog n_lexer_digit_byte #[.int .u8 (c.toNat : Int), .int .i64 (base : Int)] w fun r w' => r = .returned (.bool (digB base c)) ∧ w = w' := by
  refine lexer_digit_byte.ok _ _ w _ (sel_intro (fun h2 => ?_) (fun h2 => sel_intro (fun h16 => ?_) (fun h16 => ?_)))
  · have e2 : base = 2 := by have : (base : Int) = 2 := by simpa using h2
                             omega
    subst e2
    refine sel_intro (fun h => ⟨?_, rfl⟩) (fun h => ⟨?_, rfl⟩) <;> (congr 2; unfold digB; rw [Bool.eq_iff_iff]; simp at h ⊢; omega)
  · have e2 : base = 16 := by have : (base : Int) = 16 := by simpa using h16
                              omega
    subst e2
    refine sel_intro (fun h => sel_intro (fun h' => ⟨?_, rfl⟩) (fun h' => sel_intro (fun h'' => ⟨?_, rfl⟩) (fun h'' => ⟨?_, rfl⟩))) (fun h => sel_intro (fun h'' => ⟨?_, rfl⟩) (fun h'' => ⟨?_, rfl⟩)) <;> (congr 2; unfold digB; rw [Bool.eq_iff_iff]; simp at *; omega)
  · have n2 : base ≠ 2 := fun e => by subst e; simp at h2
    have n16 : base ≠ 16 := fun e => by subst e; simp at h16
    refine sel_intro (fun h => ⟨?_, rfl⟩) (fun h => ⟨?_, rfl⟩) <;> (congr 2; unfold digB; rw [if_neg n2, if_neg n16, Bool.eq_iff_iff]; simp at h ⊢; omega)
theorem l_digitR (c : UInt8) (base : Nat) (w : World) : Calls Tryz.prog n_lexer_digit_rune #[.int .i32 (c.toNat : Int), .int .i64 (base : Int)] w fun r w' => r = .returned (.bool (digB base c)) ∧ w = w' := by
  refine lexer_digit_rune.ok _ _ w _ (sel_intro (fun h2 => ?_) (fun h2 => sel_intro (fun h16 => ?_) (fun h16 => ?_)))
  · have e2 : base = 2 := by have : (base : Int) = 2 := by simpa using h2
                             omega
    subst e2
    refine sel_intro (fun h => ⟨?_, rfl⟩) (fun h => ⟨?_, rfl⟩) <;> (congr 2; unfold digB; rw [Bool.eq_iff_iff]; simp at h ⊢; omega)
  · have e2 : base = 16 := by have : (base : Int) = 16 := by simpa using h16
                              omega
    subst e2
    refine sel_intro (fun h => sel_intro (fun h' => ⟨?_, rfl⟩) (fun h' => sel_intro (fun h'' => ⟨?_, rfl⟩) (fun h'' => ⟨?_, rfl⟩))) (fun h => sel_intro (fun h'' => ⟨?_, rfl⟩) (fun h'' => ⟨?_, rfl⟩)) <;> (congr 2; unfold digB; rw [Bool.eq_iff_iff]; simp at *; omega)
  · have n2 : base ≠ 2 := fun e => by subst e; simp at h2
    have n16 : base ≠ 16 := fun e => by subst e; simp at h16
    refine sel_intro (fun h => ⟨?_, rfl⟩) (fun h => ⟨?_, rfl⟩) <;> (congr 2; unfold digB; rw [if_neg n2, if_neg n16, Bool.eq_iff_iff]; simp at h ⊢; omega)
theorem andT_mk {b : Bool} {p : Prop} (h : b = true) (hp : p) : W.AndT b p := by subst h; exact hp
theorem iter_fr (w : World) (s : ByteArray) (i : Nat) : Fr0 w (w.iter s i) := Fr.alloc _ _ _
theorem l_allDigits1 (c : UInt8) (base bb : Nat) (w : World) (h : w.cell? (at0 bb) = some (.int .i64 (base : Int))) : Calls Tryz.prog n_lexer_allDigits_1 #[.int .i32 (c.toNat : Int), .pointer (some (at0 bb))] w fun r w' => r = .returned (.bool (!(digB base c))) ∧ w = w' := by
  refine lexer_allDigits_1.ok _ _ w _ ⟨_, h, (l_digitR c base w).mono ?_⟩
  rintro r w1 ⟨rfl, rfl⟩
  exact ⟨_, rfl, rfl, rfl⟩
theorem l_allDigits (s : ByteArray) (base : Nat) (w : World) (ha : ∀ c ∈ bl s, c.toNat < 128) : Calls Tryz.prog n_lexer_allDigits #[.string s, .int .i64 (base : Int)] w fun r w' => r = .returned (.bool ((bl s).all (digB base))) ∧ Fr0 w w' := by
  refine lexer_allDigits.ok _ _ w _ ?_
  unfold lexer_allDigits.S0
  intro w1
  have f1 : Fr0 w w1 := Fr.alloc _ _ _
  have c1 : w1.heap[w.heap.size]? = some (.cells #[.int .i64 (base : Int)] ty_int (0, 0)) := heap_new w _
  clear_value w1
  have key : ∀ (d i : Nat), i + d = s.size → ((bl s).take i).all (digB base) = true → strings_indexFunc.L2 ⟨n_lexer_allDigits_1, #[], #[.pointer (some (at0 w.heap.size))]⟩ true (.pointer (some ⟨w1.heap.size, 0, none⟩)) (w1.iter s i)
      fun r w' => (∃ t : Int, r = .returned (.int .i64 t) ∧ decide (t < 0) = (bl s).all (digB base)) ∧ Fr0 w w' := by
    intro d
    induction d with
    | zero =>
      intro i hi hall
      refine strings_indexFunc.L2_step _ _ _ _ _ (.inl ⟨_, run_next_end w1 s i _ (by omega), ⟨_, rfl, ?_⟩, f1.tr0 (iter_fr _ _ _)⟩)
      rw [List.take_of_length_le (by rw [bl_len]; omega)] at hall
      rw [hall]
      rfl
    | succ d ih =>
      intro i hi hall
      have hlt : i < s.size := by omega
      have hl : i < (bl s).length := by rw [bl_len]; exact hlt
      have hm : s[i] ∈ bl s := by
        have : (bl s)[i] = s[i] := rfl
        rw [← this]; exact List.getElem_mem hl
      have hc := ha _ hm
      refine strings_indexFunc.L2_step _ _ _ _ _ (.inr ⟨_, _, _, run_next_ascii w1 s i _ hlt hc, ?_⟩)
      have ht : (bl s).take (i + 1) = (bl s).take i ++ [s[i]] := by
        rw [List.take_add_one, List.getElem?_eq_getElem hl]; rfl
      refine andT_mk (by kernel_rfl) ((l_allDigits1 s[i] base w.heap.size (w1.iter s (i + 1)) ?_).mono ?_)
      · have := (iter_fr w1 s (i + 1)).at c1 id
        have := cellAt (p := at0 w.heap.size) (i := 0) this rfl rfl
        rwa [add0] at this
      · rintro r w2 ⟨rfl, rfl⟩
        refine ⟨_, rfl, sel_intro (fun h => ?_) (fun h => ?_)⟩
        · have hd : digB base s[i] = false := by simpa using h
          refine ⟨⟨_, rfl, ?_⟩, f1.tr0 (iter_fr _ _ _)⟩
          have : (bl s).all (digB base) = false := by
            cases hA : (bl s).all (digB base) with
            | false => rfl
            | true => have := List.all_eq_true.1 hA _ hm; rw [hd] at this; cases this
          rw [this]
          exact decide_eq_false (by omega)
        · have hd : digB base s[i] = true := by simpa using h
          exact ih (i + 1) (by omega) (by rw [ht, List.all_append, hall]; simp [hd])
  have whole : Calls Tryz.prog n_strings_IndexFunc #[.string s, .func (.func n_lexer_allDigits_1) #[] #[.pointer (some (at0 w.heap.size))]] w1 fun r w' => (∃ t : Int, r = .returned (.int .i64 t) ∧ decide (t < 0) = (bl s).all (digB base)) ∧ Fr0 w w' := by
    refine strings_IndexFunc.ok _ _ w1 _ ((show Calls Tryz.prog n_strings_indexFunc #[.string s, (⟨n_lexer_allDigits_1, #[], #[.pointer (some (at0 w.heap.size))]⟩ : W.Fv).v, .bool true] w1 _ from strings_indexFunc.ok _ _ _ w1 _ ⟨_, _, run_range_string w1 _ s str_und, key s.size 0 (by omega) rfl⟩).mono ?_)
    rintro r w2 ⟨⟨t, rfl, ht⟩, f⟩
    exact ⟨t, rfl, ⟨t, rfl, ht⟩, f⟩
  refine whole.mono ?_
  rintro r w2 ⟨⟨t, rfl, ht⟩, f⟩
  exact ⟨t, rfl, by rw [ht], f⟩
end Go.Proofs.YtibaobaobnpdaaaGreatDoor
set_option maxRecDepth 100000
set_option maxHeartbeats 1000000
namespace Go.Proofs.YtibaobaobnpdaaaGreatDoor
open Go Go.W

theorem lx_bl_get {s : ByteArray} {l : List UInt8} (h : bl s = l) (i : Nat) : s[i]? = l[i]? := by
  subst h
  by_cases hi : i < s.size
  · rw [getElem?_pos s i hi, List.getElem?_eq_getElem (by rw [bl_len]; exact hi)]; rfl
  · rw [getElem?_neg s i hi, List.getElem?_eq_none (by rw [bl_len]; omega)]
theorem bl_extract (s : ByteArray) (i j : Nat) : bl (s.extract i j) = ((bl s).take j).drop i := by
  unfold bl
  rw [ByteArray.data_extract, Array.toList_extract, List.extract_eq_drop_take']
theorem l_examine (s : ByteArray) (w : World) (h0 : bl s ≠ []) (hw : ∀ c ∈ bl s, lxWord c = true) (hsm : s.size ≤ 1000000) : Calls Tryz.prog n_lexer_examine #[.string s] w fun r w' => r = .returned (.tuple #[.int .i64 (exam (bl s)).1, .int .i64 (exam (bl s)).2]) ∧ Fr0 w w' := by
  obtain ⟨c, l, hl⟩ : ∃ c l, bl s = c :: l := by
    cases h : bl s with
    | nil => exact absurd h h0
    | cons c l => exact ⟨c, l, rfl⟩
  have ha : ∀ x ∈ bl s, x.toNat < 128 := fun x hx => by
    have := hw x hx
    unfold lxWord lxSmall digB at this
    simp at this
    omega
  have hsz : s.size = l.length + 1 := by rw [← bl_len, hl]; rfl
  have g0 : s[0]? = some c := by rw [lx_bl_get hl]; rfl
  refine lexer_examine.ok _ w _ ⟨by omega, c, g0, (l_small c w).mono ?_⟩
  rintro r w1 ⟨rfl, rfl⟩
  refine ⟨_, rfl, sel_intro (fun hs => ?_) (fun hs => ?_)⟩
  · refine (lx_indexByte s 35 w).mono ?_
    rintro r w1 ⟨rfl, rfl⟩
    refine ⟨_, rfl, sel_intro (fun h => ?_) (fun h => ?_)⟩
    · have hm : (35 : UInt8) ∈ bl s := by rw [← indexByte_mem]; exact of_decide_eq_true h
      have hany : (bl s).any (fun x => x.toNat == 35) = true := List.any_eq_true.2 ⟨35, hm, rfl⟩
      rw [hl] at hany ⊢
      unfold exam
      simp only []
      rw [if_pos hs, if_pos hany]
      exact ⟨rfl, Fr.refl _ _⟩
    · have hm : ¬ (35 : UInt8) ∈ bl s := by rw [← indexByte_mem]; have := of_decide_eq_false h; omega
      have hany : ¬ (bl s).any (fun x => x.toNat == 35) = true := fun e => by
        obtain ⟨x, hx, hx'⟩ := List.any_eq_true.1 e
        have : x = 35 := UInt8.toNat_inj.1 (by simpa using hx')
        exact hm (this ▸ hx)
      rw [hl] at hany ⊢
      unfold exam
      simp only []
      rw [if_pos hs, if_neg hany]
      refine sel_intro (fun h => ?_) (fun h => ?_)
      · have := of_decide_eq_true h
        rw [if_pos (by simp; omega)]
        exact ⟨rfl, Fr.refl _ _⟩
      · have := of_decide_eq_false h
        rw [if_neg (by simp; omega)]
        exact ⟨rfl, Fr.refl _ _⟩
  · have hs' : ¬ lxSmall c = true := by simpa using hs
    refine ⟨by omega, c, g0, sel_intro (fun h35 => ?_) (fun h35 => ?_)⟩
    · have n35 : c.toNat ≠ 35 := fun e => by rw [e] at h35; simp at h35
      refine (l_allDigits s 10 w ha).mono ?_
      rintro r w1 ⟨rfl, f1⟩
      have e : exam (bl s) = if !((bl s).all (digB 10)) || (c.toNat == 48 && decide (1 < (bl s).length)) then (0, 2) else if 13 < (bl s).length then (0, 4) else (4, 0) := by
        rw [hl]
        conv => lhs; unfold exam
        simp only []
        rw [if_neg hs', if_pos n35]
      rw [e]
      have hlen : (bl s).length = s.size := bl_len s
      refine ⟨_, rfl, sel_intro (fun h => ?_) (fun h => ?_)⟩
      · rw [h, Bool.true_or, if_pos rfl]; exact ⟨rfl, f1⟩
      · have h' : (!((bl s).all (digB 10))) = false := h
        rw [h', Bool.false_or]
        have tail : ¬ ((c.toNat == 48 && decide (1 < (bl s).length)) = true) → lexer_examine.S10 s w1 fun r w' => r = .returned (.tuple #[.int .i64 (if (c.toNat == 48 && decide (1 < (bl s).length)) = true then ((0 : Int), (2 : Int)) else if 13 < (bl s).length then (0, 4) else (4, 0)).1, .int .i64 (if (c.toNat == 48 && decide (1 < (bl s).length)) = true then ((0 : Int), (2 : Int)) else if 13 < (bl s).length then (0, 4) else (4, 0)).2]) ∧ Fr0 w w' := fun hz => by
          rw [if_neg hz]
          refine sel_intro (fun h => ?_) (fun h => ?_)
          · have := of_decide_eq_true h
            rw [if_pos (by omega)]; exact ⟨rfl, f1⟩
          · have := of_decide_eq_false h
            rw [if_neg (by omega)]; exact ⟨rfl, f1⟩
        refine ⟨by omega, c, g0, sel_intro (fun h48 => sel_intro (fun h1 => ?_) (fun h1 => tail ?_)) (fun h48 => tail ?_)⟩
        · have a1 : (c.toNat == 48) = true := by have : (c.toNat : Int) = 48 := by simpa using h48
                                                 simp; omega
          have := of_decide_eq_true h1
          rw [a1, decide_eq_true (show 1 < (bl s).length by omega)]
          exact ⟨rfl, f1⟩
        · have := of_decide_eq_false h1
          simp; omega
        · have : ¬ (c.toNat : Int) = 48 := by simpa using h48
          simp; omega
    · have e35 : ¬ c.toNat ≠ 35 := by
        have : (c.toNat : Int) = 35 := by simpa using h35
        omega
      rw [hl] at ha ⊢
      have e : exam (c :: l) = examH l := by
        conv => lhs; unfold exam
        simp only []
        rw [if_neg hs', if_neg e35]
      rw [e]
      refine sel_intro (fun h3 => ?_) (fun h3 => ?_)
      · have := of_decide_eq_true h3
        match l, hsz with
        | [], _ => exact ⟨rfl, Fr.refl _ _⟩
        | [b], _ => exact ⟨rfl, Fr.refl _ _⟩
        | b :: d :: r, hsz => simp at hsz; omega
      · have := of_decide_eq_false h3
        obtain ⟨b, d, r, rfl⟩ : ∃ b d r, l = b :: d :: r := by
          match l, hsz with
          | [], h => simp at h; omega
          | [b], h => simp at h; omega
          | b :: d :: r, _ => exact ⟨b, d, r, rfl⟩
        unfold examH
        simp only []
        have g1 : s[1]? = some b := by rw [lx_bl_get hl]; rfl
        have hex : bl (s.extract 2 s.size) = d :: r := by
          rw [bl_extract, List.take_of_length_le (by rw [bl_len]; omega), hl]; rfl
        have hsz' : s.size = r.length + 3 := by rw [hsz]; rfl
        have fin : ∀ (base most : Nat), most ≤ 100 → lexer_examine.S18 s (base : Int) (most : Int) w fun r_ w' => r_ = .returned (.tuple #[.int .i64 (if (d :: r).all (digB base) then (if most < (d :: r).length then ((0 : Int), (4 : Int)) else (3, 0)) else (0, 2)).1, .int .i64 (if (d :: r).all (digB base) then (if most < (d :: r).length then ((0 : Int), (4 : Int)) else (3, 0)) else (0, 2)).2]) ∧ Fr0 w w' := fun base most hmost => by
          refine ⟨by omega, by omega, (l_allDigits (s.extract 2 s.size) base w ?_).mono ?_⟩
          · rw [hex]; exact fun x hx => ha x (by simp at hx ⊢; rcases hx with h | h <;> simp [h])
          · rintro r_ w1 ⟨rfl, f1⟩
            rw [hex]
            refine ⟨_, rfl, sel_intro (fun h => ?_) (fun h => ?_)⟩
            · have : (d :: r).all (digB base) = false := by cases hA : (d :: r).all (digB base) with
                | false => rfl
                | true => rw [hA] at h; cases h
              rw [this]; exact ⟨rfl, f1⟩
            · have : (d :: r).all (digB base) = true := by cases hA : (d :: r).all (digB base) with
                | true => rfl
                | false => rw [hA] at h; cases h
              rw [this, if_pos rfl]
              unfold lexer_examine.S20
              rw [IntWalk.i64_in _ (by omega)]
              refine sel_intro (fun h => ?_) (fun h => ?_)
              · have := of_decide_eq_true h
                rw [if_pos (by simp; omega)]; exact ⟨rfl, f1⟩
              · have := of_decide_eq_false h
                rw [if_neg (by simp; omega)]; exact ⟨rfl, f1⟩
        refine ⟨by omega, b, g1, sel_intro (fun h98 => ⟨by omega, b, g1, sel_intro (fun h120 => ?_) (fun h120 => ⟨by omega, b, g1, ?_⟩)⟩) (fun h98 => ⟨by omega, b, g1, ?_⟩)⟩
        · have x1 : ¬ b.toNat = 98 := fun e => by rw [e] at h98; simp at h98
          have x2 : ¬ b.toNat = 120 := fun e => by rw [e] at h120; simp at h120
          rw [if_neg x1, if_neg x2]
          exact ⟨rfl, Fr.refl _ _⟩
        · have x1 : ¬ b.toNat = 98 := fun e => by rw [e] at h98; simp at h98
          have x2 : b.toNat = 120 := by
            have : ((b.toNat : Nat) : Int) = 120 := by simpa using h120
            omega
          rw [if_neg x1, if_pos x2]
          exact sel_true (by rw [x2]; rfl) (fin 16 16 (by omega))
        · have x1 : b.toNat = 98 := by
            have : ((b.toNat : Nat) : Int) = 98 := by simpa using h98
            omega
          rw [if_pos x1]
          exact sel_false (by rw [x1]; rfl) (fin 2 64 (by omega))
end Go.Proofs.YtibaobaobnpdaaaGreatDoor
set_option maxRecDepth 100000
set_option maxHeartbeats 1000000
namespace Go.Proofs.YtibaobaobnpdaaaGreatDoor
open Go Go.W

/-! ### Blocks of two cells -/
theorem set2 {w : World} {b : Nat} {a0 a1 : Value} {T : TypeId} (h : w.heap[b]? = some (.cells #[a0, a1] T (0, 0))) (v0 v1 : Value) (K : World → Prop)
    (hK : ∀ w', w'.heap[b]? = some (.cells #[v0, v1] T (0, 0)) → Fr (· = b) w w' → K w') :
    (w.cell? (at0 b)).isSome = true ∧ w.frozen? (at0 b) = false ∧ let w1 := w.setCell (at0 b) v0
    (w1.cell? ((at0 b).add 1)).isSome = true ∧ w1.frozen? ((at0 b).add 1) = false ∧ let w2 := w1.setCell ((at0 b).add 1) v1
    K w2 := by
  obtain ⟨x1, x2, x3, x4⟩ := set_c h 0 (by simp) v0
  rw [add0] at x1 x2 x3 x4
  obtain ⟨y1, y2, y3, y4⟩ := set_c x3 1 (by simp) v1
  exact ⟨x1, x2, y1, y2, hK _ (by simpa using y3) (x4.trans y4 fun _ _ e => e)⟩
theorem get2 {w : World} {b : Nat} {v0 v1 : Value} {T : TypeId} {f : Nat × Nat} (h : w.heap[b]? = some (.cells #[v0, v1] T f)) :
    w.cell? ((at0 b).add 0) = some v0 ∧ w.cell? ((at0 b).add 1) = some v1 :=
  ⟨cellAt (p := at0 b) h rfl rfl, cellAt (p := at0 b) h rfl rfl⟩
/-- a fault is handed back -/
theorem fault_ret {w : World} {rb fb : Nat} {a0 a1 : Value} {T T' : TypeId} {e a : Int} (hr : w.heap[rb]? = some (.cells #[a0, a1] T (0, 0))) (hf : w.heap[fb]? = some (.cells #[.int .i64 e, .int .i64 a] T' (0, 0))) (K : Int → Int → World → Prop) (hK : ∀ w', Fr (· = rb) w w' → K e a w') :
    ∃ t0 : Int, ∃ t1 : Int, w.drew.cell? ((at0 fb).add 0) = some (.int .i64 t0) ∧ w.drew.cell? ((at0 fb).add 1) = some (.int .i64 t1) ∧
    (w.drew.cell? (at0 rb)).isSome = true ∧ w.drew.frozen? (at0 rb) = false ∧ let w1 := w.drew.setCell (at0 rb) (.int .i64 t0)
    (w1.cell? ((at0 rb).add 1)).isSome = true ∧ w1.frozen? ((at0 rb).add 1) = false ∧ let w2 := w1.setCell ((at0 rb).add 1) (.int .i64 t1)
    ∃ r0 : Int, ∃ r1 : Int, w2.cell? ((at0 rb).add 0) = some (.int .i64 r0) ∧ w2.cell? ((at0 rb).add 1) = some (.int .i64 r1) ∧ K r0 r1 w2 := by
  have fd : Fr0 w w.drew := Fr.drew _ _
  obtain ⟨g0, g1⟩ := get2 (fd.at hf id)
  refine ⟨e, a, g0, g1, set2 (fd.at hr id) (.int .i64 e) (.int .i64 a) (fun w2 => ∃ r0 : Int, ∃ r1 : Int, w2.cell? ((at0 rb).add 0) = some (.int .i64 r0) ∧ w2.cell? ((at0 rb).add 1) = some (.int .i64 r1) ∧ K r0 r1 w2) fun w' h' f' => ?_⟩
  obtain ⟨k0, k1⟩ := get2 h'
  exact ⟨e, a, k0, k1, hK w' (fd.of0.trans f' fun _ _ h => h)⟩
/-- no fault is handed back -/
theorem fine_ret {w : World} {rb : Nat} {a0 a1 : Value} {T : TypeId} (hr : w.heap[rb]? = some (.cells #[a0, a1] T (0, 0))) (e a : Int) (K : Int → Int → World → Prop) (hK : ∀ w', Fr (· = rb) w w' → K e a w') :
    (w.cell? (at0 rb)).isSome = true ∧ w.frozen? (at0 rb) = false ∧ let w1 := w.setCell (at0 rb) (.int .i64 e)
    (w1.cell? ((at0 rb).add 1)).isSome = true ∧ w1.frozen? ((at0 rb).add 1) = false ∧ let w2 := w1.setCell ((at0 rb).add 1) (.int .i64 a)
    ∃ r0 : Int, ∃ r1 : Int, w2.cell? ((at0 rb).add 0) = some (.int .i64 r0) ∧ w2.cell? ((at0 rb).add 1) = some (.int .i64 r1) ∧ K r0 r1 w2 := by
  refine set2 hr (.int .i64 e) (.int .i64 a) (fun w2 => ∃ r0 : Int, ∃ r1 : Int, w2.cell? ((at0 rb).add 0) = some (.int .i64 r0) ∧ w2.cell? ((at0 rb).add 1) = some (.int .i64 r1) ∧ K r0 r1 w2) fun w' h' f' => ?_
  obtain ⟨k0, k1⟩ := get2 h'
  exact ⟨e, a, k0, k1, hK w' f'⟩
theorem lx_hex_at (c : UInt8) (h : digB 16 c = true) : Go.Lib.indexByte [48, 49, 50, 51, 52, 53, 54, 55, 56, 57, 97, 98, 99, 100, 101, 102] c = (hexV c : Int) ∧ hexV c < 16 := by
  have all : ∀ x : Fin 256, digB 16 (UInt8.ofNat x.val) = true → Go.Lib.indexByte [48, 49, 50, 51, 52, 53, 54, 55, 56, 57, 97, 98, 99, 100, 101, 102] (UInt8.ofNat x.val) = (hexV (UInt8.ofNat x.val) : Int) ∧ hexV (UInt8.ofNat x.val) < 16 := by decide +kernel
  have := all ⟨c.toNat, c.toNat_lt⟩
  simp only [UInt8.ofNat_toNat] at this
  exact this h
theorem hex_or (x y : Nat) (hx : x < 16) (hy : y < 16) : W.bOr .i64 (IntKind.wrap .i64 ((x : Int) * 2 ^ 4)) (y : Int) = ((16 * x + y : Nat) : Int) := by
  have all : ∀ x y : Fin 16, W.bOr .i64 (IntKind.wrap .i64 ((x.val : Int) * 2 ^ 4)) (y.val : Int) = ((16 * x.val + y.val : Nat) : Int) := by decide +kernel
  exact all ⟨x, hx⟩ ⟨y, hy⟩
def ItemPost (i : Nat) (w : World) : IR → Post
  | .ok c u => fun r w' => r = .returned (.tuple #[.int .u8 (c.toNat : Int), .int .i64 ((i + u : Nat) : Int), .agg #[.int .i64 0, .int .i64 0]]) ∧ Fr0 w w'
  | .bad a e => fun r w' => (∃ x y, r = .returned (.tuple #[.int .u8 x, .int .i64 y, .agg #[.int .i64 e, .int .i64 ((i + a : Nat) : Int)]])) ∧ Fr0 w w'
theorem l_item (s : ByteArray) (i : Nat) (c : UInt8) (l : List UInt8) (hl : (bl s).drop i = c :: l) (hsm : s.size ≤ 1000000) (w : World) : Calls Tryz.prog n_lexer_item #[.string s, .int .i64 (i : Int)] w (ItemPost i w (item1 (c :: l))) := by
  have hsz : s.size = i + l.length + 1 := by
    have := congrArg List.length hl
    rw [List.length_drop, bl_len] at this
    simp at this
    omega
  have get : ∀ k, s[i + k]? = (c :: l)[k]? := fun k => by rw [lx_bl_get (l := bl s) rfl, ← hl, List.getElem?_drop]
  have g0 : s[i]? = some c := get 0
  refine lexer_item.ok _ _ w _ ?_
  unfold lexer_item.S0
  intro w1
  have f1 : Fr0 w w1 := Fr.alloc _ _ _
  have s1 : w1.heap.size = w.heap.size + 1 := size_alloc _ _
  have c1 : w1.heap[w.heap.size]? = some (.cells #[.int .i64 0, .int .i64 0] ty_lexer_fault (0, 0)) := heap_new w _
  clear_value w1
  unfold lexer_item.S1
  intro w2 w3
  have f2 : Fr0 w1 w2 := Fr.alloc _ _ _
  have f3 : Fr0 w2 w3 := Fr.alloc _ _ _
  have s2 : w2.heap.size = w1.heap.size + 1 := size_alloc _ _
  have s3 : w3.heap.size = w2.heap.size + 1 := size_alloc _ _
  have m2 : w2.heap[w1.heap.size]? = some (.cells #[.int .i64 0, .int .i64 0] ty_lexer_fault (0, 0)) := heap_new w1 _
  have r3 : w3.heap[w2.heap.size]? = some (.cells #[.int .i64 0, .int .i64 0] ty_lexer_fault (0, 0)) := heap_new w2 _
  have m3 := f3.at m2 id
  have c3 := (f2.tr0 f3).at c1 id
  have F3 : Fr0 w w3 := f1.tr0 (f2.tr0 f3)
  clear_value w2 w3
  refine set2 m3 (.int .i64 3) (.int .i64 ((s.size : Nat) : Int)) (fun w4 => (w4.cell? (at0 w2.heap.size)).isSome = true ∧ w4.frozen? (at0 w2.heap.size) = false ∧ let w5 := w4.setCell (at0 w2.heap.size) (.int .i64 2)
    (w5.cell? ((at0 w2.heap.size).add 1)).isSome = true ∧ w5.frozen? ((at0 w2.heap.size).add 1) = false ∧ let w6 := w5.setCell ((at0 w2.heap.size).add 1) (.int .i64 (i : Int))
    lexer_item.S2 s (i : Int) (at0 w.heap.size) (at0 w1.heap.size) (at0 w2.heap.size) w6 _) fun w4 m4 f4 => ?_
  refine set2 (f4.at r3 (by omega)) (.int .i64 2) (.int .i64 (i : Int)) (fun w6 => lexer_item.S2 s (i : Int) (at0 w.heap.size) (at0 w1.heap.size) (at0 w2.heap.size) w6 _) fun w6 r6 f6 => ?_
  have hs4 : w3.heap.size ≤ w4.heap.size := f4.size
  have m6 := f6.at m4 (by omega)
  have c6 := f6.at (f4.at c3 (by omega)) (by omega)
  have F6 : Fr0 w w6 := (F3.trn f4 fun x e => by omega).trn f6 fun x e => by omega
  have last : ∀ {w' : World}, Fr (· = w.heap.size) w6 w' → Fr0 w w' := fun f => F6.trn f fun x e => by omega
  have g0' : s[Int.toNat (i : Int)]? = some c := by rw [Int.toNat_natCast]; exact g0
  have e1 : IntKind.wrap .i64 ((i : Int) + 1) = ((i + 1 : Nat) : Int) := i64_next i (by omega)
  refine ⟨by omega, c, g0', sel_intro (fun h92 => ?_) (fun h92 => ?_)⟩
  · have n92 : c.toNat ≠ 92 := fun e => by rw [e] at h92; simp at h92
    have e : item1 (c :: l) = if c.toNat < 32 ∨ 126 < c.toNat then .bad 0 2 else .ok c 1 := by
      conv => lhs; unfold item1
      simp only [if_pos n92]
    rw [e]
    have bad : c.toNat < 32 ∨ 126 < c.toNat → lexer_item.S4 (i : Int) (at0 w.heap.size) (at0 w2.heap.size) w6 (ItemPost i w (if c.toNat < 32 ∨ 126 < c.toNat then .bad 0 2 else .ok c 1)) := fun h => by
      rw [if_pos h]
      exact fault_ret c6 r6 (fun r0 r1 w' => ItemPost i w (.bad 0 2) (.returned (.tuple #[.int .u8 0, .int .i64 (i : Int), .agg #[.int .i64 r0, .int .i64 r1]])) w') fun w' f => ⟨⟨_, _, rfl⟩, last f⟩
    refine ⟨by omega, c, g0', sel_intro (fun h32 => bad ?_) (fun h32 => ⟨by omega, c, g0', sel_intro (fun h126 => bad ?_) (fun h126 => ?_)⟩)⟩
    · have := of_decide_eq_true h32; omega
    · have := of_decide_eq_true h126; omega
    · have := of_decide_eq_false h32
      have := of_decide_eq_false h126
      rw [if_neg (by omega)]
      refine ⟨by omega, c, g0', ?_⟩
      rw [e1]
      exact fine_ret c6 0 0 (fun r0 r1 w' => ItemPost i w (.ok c 1) (.returned (.tuple #[.int .u8 (c.toNat : Int), .int .i64 ((i + 1 : Nat) : Int), .agg #[.int .i64 r0, .int .i64 r1]])) w') fun w' f => ⟨rfl, last f⟩
  · have y92 : ¬ c.toNat ≠ 92 := by
      have : ((c.toNat : Nat) : Int) = 92 := by simpa using h92
      omega
    have form : lexer_item.S4 (i : Int) (at0 w.heap.size) (at0 w2.heap.size) w6 (ItemPost i w (.bad 0 2)) :=
      fault_ret c6 r6 (fun r0 r1 w' => ItemPost i w (.bad 0 2) (.returned (.tuple #[.int .u8 0, .int .i64 (i : Int), .agg #[.int .i64 r0, .int .i64 r1]])) w') fun w' f => ⟨⟨_, _, rfl⟩, last f⟩
    have more : ∀ a : Nat, s.size = i + a → lexer_item.S7 (i : Int) (at0 w.heap.size) (at0 w1.heap.size) w6 (ItemPost i w (.bad a 3)) := fun a ha => by
      rw [ha] at m6
      exact fault_ret c6 m6 (fun r0 r1 w' => ItemPost i w (.bad a 3) (.returned (.tuple #[.int .u8 0, .int .i64 (i : Int), .agg #[.int .i64 r0, .int .i64 r1]])) w') fun w' f => ⟨⟨_, _, rfl⟩, last f⟩
    unfold lexer_item.S6
    rw [e1]
    cases l with
    | nil =>
      have e : item1 [c] = .bad 1 3 := by conv => lhs; unfold item1
                                          simp only [if_neg y92]
      rw [e]
      exact sel_true (by simp at hsz; simp [hsz]) (more 1 (by simp at hsz; omega))
    | cons d l2 =>
      refine sel_false (by simp at hsz; simp; omega) ?_
      unfold lexer_item.S8
      rw [e1, Int.toNat_natCast]
      refine ⟨by omega, d, get 1, ?_⟩
      have two : ∀ (x : Int), lexer_item.S12 (i : Int) (at0 w.heap.size) x w6 fun r w' => r = .returned (.tuple #[.int .u8 x, .int .i64 ((i + 2 : Nat) : Int), .agg #[.int .i64 0, .int .i64 0]]) ∧ Fr0 w w' := fun x => by
        unfold lexer_item.S12
        rw [show IntKind.wrap .i64 ((i : Int) + 2) = ((i + 2 : Nat) : Int) from by rw [IntWalk.i64_in _ (by omega)]; omega]
        exact fine_ret c6 0 0 (fun r0 r1 w' => Ending.returned (.tuple #[.int .u8 x, .int .i64 ((i + 2 : Nat) : Int), .agg #[.int .i64 r0, .int .i64 r1]]) = .returned (.tuple #[.int .u8 x, .int .i64 ((i + 2 : Nat) : Int), .agg #[.int .i64 0, .int .i64 0]]) ∧ Fr0 w w') fun w' f => ⟨rfl, last f⟩
      refine sel_intro (fun h120 => ?_) (fun h120 => ?_)
      · have n120 : d.toNat ≠ 120 := fun e => by rw [e] at h120; simp at h120
        have e : item1 (c :: d :: l2) = if d.toNat = 34 ∨ d.toNat = 92 then .ok d 2 else .bad 0 2 := by
          conv => lhs; unfold item1
          simp only [if_neg y92, if_pos n120]
        rw [e]
        refine sel_intro (fun h34 => sel_intro (fun h92' => ?_) (fun h92' => ?_)) (fun h34 => ?_)
        · rw [if_neg (fun h => by rcases h with h | h
                                  · rw [h] at h34; simp at h34
                                  · rw [h] at h92'; simp at h92')]
          exact form
        · have : ((d.toNat : Nat) : Int) = 92 := by simpa using h92'
          rw [if_pos (.inr (by omega))]
          exact two _
        · have : ((d.toNat : Nat) : Int) = 34 := by simpa using h34
          rw [if_pos (.inl (by omega))]
          exact two _
      · have y120 : ¬ d.toNat ≠ 120 := by
          have : ((d.toNat : Nat) : Int) = 120 := by simpa using h120
          omega
        have nq : ¬ (d.toNat = 34 ∨ d.toNat = 92) := by omega
        have e2 : IntKind.wrap .i64 ((i : Int) + 2) = ((i + 2 : Nat) : Int) := by rw [IntWalk.i64_in _ (by omega)]; omega
        have e4 : IntKind.wrap .i64 ((i : Int) + 4) = ((i + 4 : Nat) : Int) := by rw [IntWalk.i64_in _ (by omega)]; omega
        have e3 : IntKind.wrap .i64 (((i + 2 : Nat) : Int) + 1) = ((i + 3 : Nat) : Int) := i64_next _ (by omega)
        have e4' : IntKind.wrap .i64 (((i + 3 : Nat) : Int) + 1) = ((i + 4 : Nat) : Int) := i64_next _ (by omega)
        show lexer_item.L15 s (i : Int) (at0 w.heap.size) (at0 w1.heap.size) (at0 w2.heap.size) 0 (IntKind.wrap .i64 ((i : Int) + 2)) w6 _
        rw [e2]
        refine lexer_item.L15_step _ _ _ _ _ _ _ _ _ ?_
        unfold lexer_item.S16
        rw [e4]
        refine sel_true (decide_eq_true (by omega)) ?_
        cases l2 with
        | nil =>
          have e : item1 [c, d] = .bad 2 3 := by
            conv => lhs; unfold item1
            simp only [if_neg y92, if_neg nq, if_neg y120]
          rw [e]
          exact sel_true (by simp at hsz; simp [hsz]; omega) (more 2 (by simp at hsz; omega))
        | cons x l3 =>
          refine sel_false (by simp at hsz; simp; omega) ?_
          refine ⟨by omega, x, by rw [Int.toNat_natCast]; exact get 2, (l_digit x 16 w6).mono ?_⟩
          rintro r w7 ⟨rfl, rfl⟩
          refine ⟨_, rfl, sel_intro (fun hx => ?_) (fun hx => ?_)⟩
          · have hx' : ¬ digB 16 x = true := by simpa using hx
            have e : item1 (c :: d :: x :: l3) = .bad 0 2 := by
              conv => lhs; unfold item1
              simp only [if_neg y92, if_neg nq, if_neg y120, if_neg hx']
            rw [e]
            exact form
          · have hx' : digB 16 x = true := by simpa using hx
            obtain ⟨hxi, hx16⟩ := lx_hex_at x hx'
            refine ⟨by omega, x, by rw [Int.toNat_natCast]; exact get 2, (lx_indexByte _ x w6).mono ?_⟩
            rintro r w7 ⟨rfl, rfl⟩
            refine ⟨_, rfl, ?_⟩
            show lexer_item.L15 s (i : Int) (at0 w.heap.size) (at0 w1.heap.size) (at0 w2.heap.size) (W.bOr .i64 (IntKind.wrap .i64 (0 * 2 ^ 4)) (Go.Lib.indexByte [48, 49, 50, 51, 52, 53, 54, 55, 56, 57, 97, 98, 99, 100, 101, 102] x)) (IntKind.wrap .i64 (((i + 2 : Nat) : Int) + 1)) w6 _
            rw [e3, hxi, show W.bOr .i64 (IntKind.wrap .i64 (0 * 2 ^ 4)) ((hexV x : Nat) : Int) = ((16 * 0 + hexV x : Nat) : Int) from hex_or 0 (hexV x) (by omega) hx16, show 16 * 0 + hexV x = hexV x by omega]
            refine lexer_item.L15_step _ _ _ _ _ _ _ _ _ ?_
            unfold lexer_item.S16
            rw [e4]
            refine sel_true (decide_eq_true (by omega)) ?_
            cases l3 with
            | nil =>
              have e : item1 [c, d, x] = .bad 3 3 := by
                conv => lhs; unfold item1
                simp only [if_neg y92, if_neg nq, if_neg y120, if_pos hx']
              rw [e]
              exact sel_true (by simp at hsz; simp [hsz]; omega) (more 3 (by simp at hsz; omega))
            | cons y l4 =>
              refine sel_false (by simp at hsz; simp; omega) ?_
              refine ⟨by omega, y, by rw [Int.toNat_natCast]; exact get 3, (l_digit y 16 w6).mono ?_⟩
              rintro r w7 ⟨rfl, rfl⟩
              refine ⟨_, rfl, sel_intro (fun hy => ?_) (fun hy => ?_)⟩
              · have hy' : ¬ digB 16 y = true := by simpa using hy
                have e : item1 (c :: d :: x :: y :: l4) = .bad 0 2 := by
                  conv => lhs; unfold item1
                  simp only [if_neg y92, if_neg nq, if_neg y120, if_pos hx', if_neg hy']
                rw [e]
                exact form
              · have hy' : digB 16 y = true := by simpa using hy
                obtain ⟨hyi, hy16⟩ := lx_hex_at y hy'
                refine ⟨by omega, y, by rw [Int.toNat_natCast]; exact get 3, (lx_indexByte _ y w6).mono ?_⟩
                rintro r w7 ⟨rfl, rfl⟩
                refine ⟨_, rfl, ?_⟩
                show lexer_item.L15 s (i : Int) (at0 w.heap.size) (at0 w1.heap.size) (at0 w2.heap.size) (W.bOr .i64 (IntKind.wrap .i64 (((hexV x : Nat) : Int) * 2 ^ 4)) (Go.Lib.indexByte [48, 49, 50, 51, 52, 53, 54, 55, 56, 57, 97, 98, 99, 100, 101, 102] y)) (IntKind.wrap .i64 (((i + 3 : Nat) : Int) + 1)) w6 _
                rw [e4', hyi, hex_or _ _ hx16 hy16]
                refine lexer_item.L15_step _ _ _ _ _ _ _ _ _ ?_
                unfold lexer_item.S16
                rw [e4]
                refine sel_false (decide_eq_false (by omega)) ?_
                have e : item1 (c :: d :: x :: y :: l4) = .ok (UInt8.ofNat (16 * hexV x + hexV y)) 4 := by
                  conv => lhs; unfold item1
                  simp only [if_neg y92, if_neg nq, if_neg y120, if_pos hx', if_pos hy']
                rw [e]
                unfold lexer_item.S23
                rw [e4]
                refine fine_ret c6 0 0 (fun r0 r1 w' => ItemPost i w (.ok (UInt8.ofNat (16 * hexV x + hexV y)) 4) (.returned (.tuple #[.int .u8 (IntKind.wrap .u8 ((16 * hexV x + hexV y : Nat) : Int)), .int .i64 ((i + 4 : Nat) : Int), .agg #[.int .i64 r0, .int .i64 r1]])) w') fun w' f => ⟨?_, last f⟩
                rw [u8_nat, UInt8.toNat_ofNat']
end Go.Proofs.YtibaobaobnpdaaaGreatDoor
set_option linter.unusedVariables false
set_option maxRecDepth 100000
set_option maxHeartbeats 2000000
namespace Go.Proofs.YtibaobaobnpdaaaGreatDoor
open Go Go.W
namespace lexer_quoted
noncomputable def C0 : Code := (Tryz.f67.body).getD .skip
noncomputable def C1:=C0.sn
noncomputable def C2:=C1.sn
noncomputable def C3:=C2.fs
noncomputable def C4:=C3.sn
noncomputable def C5:=C4.fs
noncomputable def C6:=C5.fs
noncomputable def C7:=C2.sn
abbrev Q0 (R : Post) : Exit → Act → World → Prop := (Exit.then (wpx Tryz.prog (cx 45) C7 (bodyPost Tryz.prog Tryz.f67 R)) (bodyPost Tryz.prog Tryz.f67 R))
abbrev Q1 (R : Post) : Exit → Act → World → Prop := (Exit.inBlock 0 (Q0 R))
/-- the head of the loop, lexer.go:132 -/
def L3 (s0 : ByteArray) (i1 : Int) (t6 : Addr) (text7 : Sl) (w : World) (R : Post) : Prop := LP Tryz.prog (cx 45) C6 (Q1 R) [(0, .string s0), (1, .i i1), (6, .pointer (some t6)), (7, text7.v)] w
def KE_L3 (E : Env) (w : World) (R : Post) : Prop := W.asStr (Env.get? E 0) fun s0 => W.asInt .i64 (Env.get? E 1) fun i1 => W.asRef (Env.get? E 6) fun t6 => W.asSlice (Env.get? E 7) fun text7 => L3 s0 i1 t6 text7 w R
theorem KE_L3_ok (R : Post) (E : Env) (w : World) (h : KE_L3 E w R) : LP Tryz.prog (cx 45) C6 (Q1 R) E w := by
  obtain ⟨s0, hq0, h_1⟩ := W.asStr_elim h
  obtain ⟨i1, hq1, h_2⟩ := W.asInt_elim h_1
  obtain ⟨t6, hq6, h_3⟩ := W.asRef_elim h_2
  obtain ⟨text7, hq7, h_4⟩ := W.asSlice_elim h_3
  intro a ha
  exact h_4 a (ha.cons hq0 (ha.cons hq1 (ha.cons hq6 (ha.cons hq7 ha.nil))))
noncomputable def C8:=C6.sn
noncomputable def C9:=C8.fs
noncomputable def C10:=C9.fs
noncomputable def C11:=C10.sn
noncomputable def C12:=C11.fs
abbrev Q2 (R : Post) : Exit → Act → World → Prop := (Exit.then (LoopWP Tryz.prog (cx 45) C6 (Q1 R)) (Q1 R))
noncomputable def C13:=C9.sn
abbrev Q3 (R : Post) : Exit → Act → World → Prop := (Exit.then (wpx Tryz.prog (cx 45) C13 (Exit.inBlock 1 (Q2 R))) (Exit.inBlock 1 (Q2 R)))
noncomputable def C14:=C12.fs
noncomputable def C15:=C12.sn
/-- lexer.go:134 -/
abbrev S6 (i1 : Int) (t6 : Addr) (text7 : Sl) (w : World) (R : Post) : Prop :=
  ∃ t22 : ByteArray, Sem.run Tryz.prog (Go.convert ty_sl_uint8 ty_string (text7.v)) w = .ok (.string t22) w ∧ stV w t6 (.i 0) fun w1 => 
  stV w1 (t6.add 1) (.i 0) fun w2 => 
  ∃ r6_0 : Int, ∃ r6_1 : Int, w2.cell? (t6.add 0) = some (.i r6_0) ∧ w2.cell? (t6.add 1) = some (.i r6_1) ∧ 
  R (.returned (.tuple #[.string t22, .i (IntKind.wrap .i64 (i1 + 1)), .agg #[.i r6_0, .i r6_1]])) w2
def KE_S6 (E : Env) (w : World) (R : Post) : Prop := W.asInt .i64 (Env.get? E 1) fun i1 => W.asRef (Env.get? E 6) fun t6 => W.asSlice (Env.get? E 7) fun text7 => S6 i1 t6 text7 w R
theorem KE_S6_ok (R : Post) (E : Env) (w : World) (h : KE_S6 E w R) : WP Tryz.prog (cx 45) C12 (Q3 R) E w := by
  obtain ⟨i1, hq1, h_1⟩ := W.asInt_elim h
  obtain ⟨t6, hq6, h_2⟩ := W.asRef_elim h_1
  obtain ⟨text7, hq7, h_3⟩ := W.asSlice_elim h_2
  exact fun a ha => WP.at (n := (cx 45)) (E := [(1, .i i1), (6, .pointer (some t6)), (7, text7.v)]) (WP.seq (c := C12) (x := C14) (y := C15) (by kernel_rfl) <| WP.reg (c := C14) (fun E w => retVC Tryz.prog Tryz.f67 E w (fun v => R (.returned v) w)) (by kernel_rfl) (Eq.mp (by kernel_rfl) h_3) fun _ _ a hA hK => (WP.ret (c := C15) (by kernel_rfl) fun a hA => retVC_sound hA hK) a hA) (ha.cons hq1 (ha.cons hq6 (ha.cons hq7 ha.nil)))
noncomputable def C16:=C13.sn
noncomputable def C17:=C16.fs
noncomputable def C18:=C17.sn
noncomputable def C19:=C18.fs
noncomputable def C20:=C16.sn
abbrev Q4 (R : Post) : Exit → Act → World → Prop := (Exit.then (wpx Tryz.prog (cx 45) C20 (Exit.inBlock 1 (Q2 R))) (Exit.inBlock 1 (Q2 R)))
noncomputable def C21:=C19.fs
noncomputable def C22:=C19.sn
/-- lexer.go:138 -/
abbrev S9 (t6 f10 : Addr) (w : World) (R : Post) : Prop :=
  drV w fun w1 => ∃ t36_0 : Int, ∃ t36_1 : Int, w1.cell? (f10.add 0) = some (.i t36_0) ∧ w1.cell? (f10.add 1) = some (.i t36_1) ∧ 
  stV w1 t6 (.i t36_0) fun w2 => 
  stV w2 (t6.add 1) (.i t36_1) fun w3 => 
  ∃ r6_0 : Int, ∃ r6_1 : Int, w3.cell? (t6.add 0) = some (.i r6_0) ∧ w3.cell? (t6.add 1) = some (.i r6_1) ∧ 
  R (.returned (.tuple #[.s0, .i 0, .agg #[.i r6_0, .i r6_1]])) w3
def KE_S9 (E : Env) (w : World) (R : Post) : Prop := W.asRef (Env.get? E 6) fun t6 => W.asRef (Env.get? E 10) fun f10 => S9 t6 f10 w R
theorem KE_S9_ok (R : Post) (E : Env) (w : World) (h : KE_S9 E w R) : WP Tryz.prog (cx 45) C19 (Q4 R) E w := by
  obtain ⟨t6, hq6, h_1⟩ := W.asRef_elim h
  obtain ⟨f10, hq10, h_2⟩ := W.asRef_elim h_1
  exact fun a ha => WP.at (n := (cx 45)) (E := [(6, .pointer (some t6)), (10, .pointer (some f10))]) (WP.seq (c := C19) (x := C21) (y := C22) (by kernel_rfl) <| WP.draw (c := C21) [0, 1, 2, 3] (fun E w => retVC Tryz.prog Tryz.f67 E w (fun v => R (.returned v) w)) (by kernel_rfl) (Eq.mp (by kernel_rfl) h_2) fun _ _ a hA hK => (WP.ret (c := C22) (by kernel_rfl) fun a hA => retVC_sound hA hK) a hA) (ha.cons hq6 (ha.cons hq10 ha.nil))
noncomputable def C23:=C20.sn
abbrev Q5 (R : Post) : Exit → Act → World → Prop := (Exit.inBlock 1 (Q2 R))
/-- lexer.go:141 -/
abbrev S11 (s0 : ByteArray) (t6 : Addr) (text7 : Sl) (next9 : Int) (w : World) (R : Post) : Prop :=
  L3 s0 next9 t6 text7 w R
def KE_S11 (E : Env) (w : World) (R : Post) : Prop := W.asStr (Env.get? E 0) fun s0 => W.asRef (Env.get? E 6) fun t6 => W.asSlice (Env.get? E 7) fun text7 => W.asInt .i64 (Env.get? E 9) fun next9 => S11 s0 t6 text7 next9 w R
theorem KE_S11_ok (R : Post) (E : Env) (w : World) (h : KE_S11 E w R) : WP Tryz.prog (cx 45) C23 (Q5 R) E w := by
  obtain ⟨s0, hq0, h_1⟩ := W.asStr_elim h
  obtain ⟨t6, hq6, h_2⟩ := W.asRef_elim h_1
  obtain ⟨text7, hq7, h_3⟩ := W.asSlice_elim h_2
  obtain ⟨next9, hq9, h_4⟩ := W.asInt_elim h_3
  exact fun a ha => WP.at (n := (cx 45)) (E := [(0, .string s0), (6, .pointer (some t6)), (7, text7.v), (9, .i next9)]) (WP.reg (c := C23) (fun E w => KE_L3 E w R) (by kernel_rfl) (Eq.mp (by kernel_rfl) h_4) fun _ _ a hA hK => KE_L3_ok R _ _ hK a hA) (ha.cons hq0 (ha.cons hq6 (ha.cons hq7 (ha.cons hq9 ha.nil))))
noncomputable def C24:=C20.fs
/-- lexer.go:140 -/
abbrev S10 (s0 : ByteArray) (t6 : Addr) (text7 : Sl) (c8 next9 : Int) (w : World) (R : Post) : Prop :=
  nwV w (.cells #[.int .u8 c8] ty_uint8) fun w1 => 
  ∃ (t40 : Sl) (w2 : World), Sem.run Tryz.prog (Builtin.append_ #[ty_sl_uint8, ty_sl_uint8] ty_sl_uint8 #[text7.v, .slice (some (nb w)) 1 1]) w1 = .ok (t40.v) w2 ∧ S11 s0 t6 t40 next9 w2 R
def KE_S10 (E : Env) (w : World) (R : Post) : Prop := W.asStr (Env.get? E 0) fun s0 => W.asRef (Env.get? E 6) fun t6 => W.asSlice (Env.get? E 7) fun text7 => W.asInt .u8 (Env.get? E 8) fun c8 => W.asInt .i64 (Env.get? E 9) fun next9 => S10 s0 t6 text7 c8 next9 w R
theorem KE_S10_ok (R : Post) (E : Env) (w : World) (h : KE_S10 E w R) : WP Tryz.prog (cx 45) C20 (Q5 R) E w := by
  obtain ⟨s0, hq0, h_1⟩ := W.asStr_elim h
  obtain ⟨t6, hq6, h_2⟩ := W.asRef_elim h_1
  obtain ⟨text7, hq7, h_3⟩ := W.asSlice_elim h_2
  obtain ⟨c8, hq8, h_4⟩ := W.asInt_elim h_3
  obtain ⟨next9, hq9, h_5⟩ := W.asInt_elim h_4
  exact fun a ha => WP.at (n := (cx 45)) (E := [(0, .string s0), (6, .pointer (some t6)), (7, text7.v), (8, .int .u8 c8), (9, .i next9)]) (WP.seq (c := C20) (x := C24) (y := C23) (by kernel_rfl) <| WP.reg (c := C24) (fun E w => KE_S11 E w R) (by kernel_rfl) (Eq.mp (by kernel_rfl) h_5) fun _ _ a hA hK => (KE_S11_ok R _ _ hK) a hA) (ha.cons hq0 (ha.cons hq6 (ha.cons hq7 (ha.cons hq8 (ha.cons hq9 ha.nil)))))
noncomputable def C25:=C17.fs
noncomputable def C26:=C18.sn
/-- lexer.go:137 -/
abbrev S8 (s0 : ByteArray) (t6 : Addr) (text7 : Sl) (c8 next9 : Int) (f10 : Addr) (w : World) (R : Post) : Prop :=
  ∃ t34 : Int, w.cell? (f10.add 0) = some (.i t34) ∧ 
  sel (t34 != 0) (S9 t6 f10 w R) (S10 s0 t6 text7 c8 next9 w R)
def KE_S8 (E : Env) (w : World) (R : Post) : Prop := W.asStr (Env.get? E 0) fun s0 => W.asRef (Env.get? E 6) fun t6 => W.asSlice (Env.get? E 7) fun text7 => W.asInt .u8 (Env.get? E 8) fun c8 => W.asInt .i64 (Env.get? E 9) fun next9 => W.asRef (Env.get? E 10) fun f10 => S8 s0 t6 text7 c8 next9 f10 w R
theorem KE_S8_ok (R : Post) (E : Env) (w : World) (h : KE_S8 E w R) : WP Tryz.prog (cx 45) C17 (Q4 R) E w := by
  obtain ⟨s0, hq0, h_1⟩ := W.asStr_elim h
  obtain ⟨t6, hq6, h_2⟩ := W.asRef_elim h_1
  obtain ⟨text7, hq7, h_3⟩ := W.asSlice_elim h_2
  obtain ⟨c8, hq8, h_4⟩ := W.asInt_elim h_3
  obtain ⟨next9, hq9, h_5⟩ := W.asInt_elim h_4
  obtain ⟨f10, hq10, h_6⟩ := W.asRef_elim h_5
  exact fun a ha => WP.at (n := (cx 45)) (E := [(0, .string s0), (6, .pointer (some t6)), (7, text7.v), (8, .int .u8 c8), (9, .i next9), (10, .pointer (some f10))]) (WP.seq (c := C17) (x := C25) (y := C18) (by kernel_rfl) <| WP.reg (c := C25) (fun E w => condK (Env.val E (.tmp 35)) (KE_S9 E w R) (KE_S10 E w R)) (by kernel_rfl) (Eq.mp (by kernel_rfl) h_6) fun _ _ a hA hK => (WP.condK (c := C18) (x := C19) (y := C26) (o := .tmp 35) (by kernel_rfl) (fun hK => (KE_S9_ok R _ _ hK)) (fun hK => (WP.skip (c := C26) (by kernel_rfl) fun a hA => (KE_S10_ok R _ _ hK) a hA)) hK) a hA) (ha.cons hq0 (ha.cons hq6 (ha.cons hq7 (ha.cons hq8 (ha.cons hq9 (ha.cons hq10 ha.nil))))))
noncomputable def C27:=C13.fs
/-- lexer.go:136 -/
abbrev S7 (s0 : ByteArray) (i1 : Int) (t6 : Addr) (text7 : Sl) (w : World) (R : Post) : Prop :=
  Calls Tryz.prog n_lexer_item #[.string s0, .i i1] w fun r_ w1 => ∃ t29_0 : Int, ∃ t29_1 : Int, ∃ t29_2_0 : Int, ∃ t29_2_1 : Int, r_ = .returned (.tuple #[.int .u8 t29_0, .i t29_1, .agg #[.i t29_2_0, .i t29_2_1]]) ∧ 
  nwV w1 (.cells #[.i 0, .i 0] ty_lexer_fault) fun w2 => 
  stV w2 (nb w1) (.i t29_2_0) fun w3 => 
  stV w3 ((nb w1).add 1) (.i t29_2_1) fun w4 => 
  S8 s0 t6 text7 t29_0 t29_1 (nb w1) w4 R
def KE_S7 (E : Env) (w : World) (R : Post) : Prop := W.asStr (Env.get? E 0) fun s0 => W.asInt .i64 (Env.get? E 1) fun i1 => W.asRef (Env.get? E 6) fun t6 => W.asSlice (Env.get? E 7) fun text7 => S7 s0 i1 t6 text7 w R
theorem KE_S7_ok (R : Post) (E : Env) (w : World) (h : KE_S7 E w R) : WP Tryz.prog (cx 45) C13 (Q5 R) E w := by
  obtain ⟨s0, hq0, h_1⟩ := W.asStr_elim h
  obtain ⟨i1, hq1, h_2⟩ := W.asInt_elim h_1
  obtain ⟨t6, hq6, h_3⟩ := W.asRef_elim h_2
  obtain ⟨text7, hq7, h_4⟩ := W.asSlice_elim h_3
  exact fun a ha => WP.at (n := (cx 45)) (E := [(0, .string s0), (1, .i i1), (6, .pointer (some t6)), (7, text7.v)]) (WP.seq (c := C13) (x := C27) (y := C16) (by kernel_rfl) <| WP.reg (c := C27) (fun E w => KE_S8 E w R) (by kernel_rfl) (Eq.mp (by kernel_rfl) h_4) fun _ _ a hA hK => (WP.seq (c := C16) (x := C17) (y := C20) (by kernel_rfl) (KE_S8_ok R _ _ hK)) a hA) (ha.cons hq0 (ha.cons hq1 (ha.cons hq6 (ha.cons hq7 ha.nil))))
noncomputable def C28:=C10.fs
noncomputable def C29:=C11.sn
/-- lexer.go:133 -/
abbrev S5 (s0 : ByteArray) (i1 : Int) (t6 : Addr) (text7 : Sl) (w : World) (R : Post) : Prop :=
  (0 : Int) ≤ i1 ∧ ∃ t19_b : UInt8, s0[Int.toNat i1]? = some t19_b ∧ sel (((t19_b.toNat : Nat) : Int) == 34) (S6 i1 t6 text7 w R) (S7 s0 i1 t6 text7 w R)
def KE_S5 (E : Env) (w : World) (R : Post) : Prop := W.asStr (Env.get? E 0) fun s0 => W.asInt .i64 (Env.get? E 1) fun i1 => W.asRef (Env.get? E 6) fun t6 => W.asSlice (Env.get? E 7) fun text7 => S5 s0 i1 t6 text7 w R
theorem KE_S5_ok (R : Post) (E : Env) (w : World) (h : KE_S5 E w R) : WP Tryz.prog (cx 45) C10 (Q3 R) E w := by
  obtain ⟨s0, hq0, h_1⟩ := W.asStr_elim h
  obtain ⟨i1, hq1, h_2⟩ := W.asInt_elim h_1
  obtain ⟨t6, hq6, h_3⟩ := W.asRef_elim h_2
  obtain ⟨text7, hq7, h_4⟩ := W.asSlice_elim h_3
  exact fun a ha => WP.at (n := (cx 45)) (E := [(0, .string s0), (1, .i i1), (6, .pointer (some t6)), (7, text7.v)]) (WP.seq (c := C10) (x := C28) (y := C11) (by kernel_rfl) <| WP.reg (c := C28) (fun E w => condK (Env.val E (.tmp 20)) (KE_S6 E w R) (KE_S7 E w R)) (by kernel_rfl) (Eq.mp (by kernel_rfl) h_4) fun _ _ a hA hK => (WP.condK (c := C11) (x := C12) (y := C29) (o := .tmp 20) (by kernel_rfl) (fun hK => (KE_S6_ok R _ _ hK)) (fun hK => (WP.skip (c := C29) (by kernel_rfl) fun a hA => (KE_S7_ok R _ _ hK) a hA)) hK) a hA) (ha.cons hq0 (ha.cons hq1 (ha.cons hq6 (ha.cons hq7 ha.nil))))
abbrev Q6 (R : Post) : Exit → Act → World → Prop := (bodyPost Tryz.prog Tryz.f67 R)
noncomputable def C30:=C7.fs
noncomputable def C31:=C7.sn
/-- lexer.go:143 -/
abbrev S12 (s0 : ByteArray) (t6 : Addr) (w : World) (R : Post) : Prop :=
  stV w t6 (.i 3) fun w1 => 
  stV w1 (t6.add 1) (.i ((s0.size : Nat) : Int)) fun w2 => 
  ∃ r6_0 : Int, ∃ r6_1 : Int, w2.cell? (t6.add 0) = some (.i r6_0) ∧ w2.cell? (t6.add 1) = some (.i r6_1) ∧ 
  R (.returned (.tuple #[.s0, .i 0, .agg #[.i r6_0, .i r6_1]])) w2
def KE_S12 (E : Env) (w : World) (R : Post) : Prop := W.asStr (Env.get? E 0) fun s0 => W.asRef (Env.get? E 6) fun t6 => S12 s0 t6 w R
theorem KE_S12_ok (R : Post) (E : Env) (w : World) (h : KE_S12 E w R) : WP Tryz.prog (cx 45) C7 (Q6 R) E w := by
  obtain ⟨s0, hq0, h_1⟩ := W.asStr_elim h
  obtain ⟨t6, hq6, h_2⟩ := W.asRef_elim h_1
  exact fun a ha => WP.at (n := (cx 45)) (E := [(0, .string s0), (6, .pointer (some t6))]) (WP.seq (c := C7) (x := C30) (y := C31) (by kernel_rfl) <| WP.reg (c := C30) (fun E w => retVC Tryz.prog Tryz.f67 E w (fun v => R (.returned v) w)) (by kernel_rfl) (Eq.mp (by kernel_rfl) h_2) fun _ _ a hA hK => (WP.ret (c := C31) (by kernel_rfl) fun a hA => retVC_sound hA hK) a hA) (ha.cons hq0 (ha.cons hq6 ha.nil))
noncomputable def C32:=C6.fs
abbrev Q7 (R : Post) : Exit → Act → World → Prop := (Exit.then (wpx Tryz.prog (cx 45) C8 (Exit.then (LoopWP Tryz.prog (cx 45) C6 (Q1 R)) (Q1 R))) (Exit.then (LoopWP Tryz.prog (cx 45) C6 (Q1 R)) (Q1 R)))
noncomputable def C33:=C32.fs
noncomputable def C34:=C32.sn
noncomputable def C35:=C34.fs
noncomputable def C36:=C34.sn
/-- lexer.go:132 -/
abbrev S4 (s0 : ByteArray) (i1 : Int) (t6 : Addr) (text7 : Sl) (w : World) (R : Post) : Prop :=
  sel (decide (i1 < ((s0.size : Nat) : Int))) (S5 s0 i1 t6 text7 w R) (S12 s0 t6 w R)
def KE_S4 (E : Env) (w : World) (R : Post) : Prop := W.asStr (Env.get? E 0) fun s0 => W.asInt .i64 (Env.get? E 1) fun i1 => W.asRef (Env.get? E 6) fun t6 => W.asSlice (Env.get? E 7) fun text7 => S4 s0 i1 t6 text7 w R
theorem KE_S4_ok (R : Post) (E : Env) (w : World) (h : KE_S4 E w R) : WP Tryz.prog (cx 45) C32 (Q7 R) E w := by
  obtain ⟨s0, hq0, h_1⟩ := W.asStr_elim h
  obtain ⟨i1, hq1, h_2⟩ := W.asInt_elim h_1
  obtain ⟨t6, hq6, h_3⟩ := W.asRef_elim h_2
  obtain ⟨text7, hq7, h_4⟩ := W.asSlice_elim h_3
  exact fun a ha => WP.at (n := (cx 45)) (E := [(0, .string s0), (1, .i i1), (6, .pointer (some t6)), (7, text7.v)]) (WP.seq (c := C32) (x := C33) (y := C34) (by kernel_rfl) <| WP.reg (c := C33) (fun E w => condK (Env.val E (.tmp 16)) (KE_S5 E w R) (KE_S12 E w R)) (by kernel_rfl) (Eq.mp (by kernel_rfl) h_4) fun _ _ a hA hK => (WP.condK (c := C34) (x := C35) (y := C36) (o := .tmp 16) (by kernel_rfl) (fun hK => (WP.skip (c := C35) (by kernel_rfl) fun a hA => (WP.block (c := C8) (x := C9) (id := 1) (by kernel_rfl) (WP.seq (c := C9) (x := C10) (y := C13) (by kernel_rfl) (KE_S5_ok R _ _ hK))) a hA)) (fun hK => (WP.exit (c := C36) (id := 0) (by kernel_rfl) fun a hA => (KE_S12_ok R _ _ hK) a hA)) hK) a hA) (ha.cons hq0 (ha.cons hq1 (ha.cons hq6 (ha.cons hq7 ha.nil))))
theorem L3_step (s0 : ByteArray) (i1 : Int) (t6 : Addr) (text7 : Sl) (w : World) (R : Post) (h : S4 s0 i1 t6 text7 w R) : L3 s0 i1 t6 text7 w R :=
  LP.step (n := (cx 45)) (c := C6) (E := [(0, .string s0), (1, .i i1), (6, .pointer (some t6)), (7, text7.v)]) (w := w) (WP.seq (c := C6) (x := C32) (y := C8) (by kernel_rfl) (KE_S4_ok R _ _ (Eq.mp (by kernel_rfl) h)))
noncomputable def C37:=C3.fs
/-- lexer.go:132 -/
abbrev S2 (s0 : ByteArray) (i1 : Int) (t6 : Addr) (text7 : Sl) (w : World) (R : Post) : Prop :=
  L3 s0 (IntKind.wrap .i64 (i1 + 1)) t6 text7 w R
def KE_S2 (E : Env) (w : World) (R : Post) : Prop := W.asStr (Env.get? E 0) fun s0 => W.asInt .i64 (Env.get? E 1) fun i1 => W.asRef (Env.get? E 6) fun t6 => W.asSlice (Env.get? E 7) fun text7 => S2 s0 i1 t6 text7 w R
theorem KE_S2_ok (R : Post) (E : Env) (w : World) (h : KE_S2 E w R) : WP Tryz.prog (cx 45) C3 (Q0 R) E w := by
  obtain ⟨s0, hq0, h_1⟩ := W.asStr_elim h
  obtain ⟨i1, hq1, h_2⟩ := W.asInt_elim h_1
  obtain ⟨t6, hq6, h_3⟩ := W.asRef_elim h_2
  obtain ⟨text7, hq7, h_4⟩ := W.asSlice_elim h_3
  exact fun a ha => WP.at (n := (cx 45)) (E := [(0, .string s0), (1, .i i1), (6, .pointer (some t6)), (7, text7.v)]) (WP.seq (c := C3) (x := C37) (y := C4) (by kernel_rfl) <| WP.reg (c := C37) (fun E w => KE_L3 E w R) (by kernel_rfl) (Eq.mp (by kernel_rfl) h_4) fun _ _ a hA hK => (WP.block (c := C4) (x := C5) (id := 0) (by kernel_rfl) (WP.loop (c := C5) (x := C6) (by kernel_rfl) (KE_L3_ok R _ _ hK))) a hA) (ha.cons hq0 (ha.cons hq1 (ha.cons hq6 (ha.cons hq7 ha.nil))))
noncomputable def C38:=C1.fs
/-- lexer.go:131 -/
abbrev S1 (s0 : ByteArray) (i1 : Int) (t6 : Addr) (w : World) (R : Post) : Prop :=
  S2 s0 i1 t6 ⟨none, 0, 0⟩ w R
def KE_S1 (E : Env) (w : World) (R : Post) : Prop := W.asStr (Env.get? E 0) fun s0 => W.asInt .i64 (Env.get? E 1) fun i1 => W.asRef (Env.get? E 6) fun t6 => S1 s0 i1 t6 w R
theorem KE_S1_ok (R : Post) (E : Env) (w : World) (h : KE_S1 E w R) : WP Tryz.prog (cx 45) C1 (Q6 R) E w := by
  obtain ⟨s0, hq0, h_1⟩ := W.asStr_elim h
  obtain ⟨i1, hq1, h_2⟩ := W.asInt_elim h_1
  obtain ⟨t6, hq6, h_3⟩ := W.asRef_elim h_2
  exact fun a ha => WP.at (n := (cx 45)) (E := [(0, .string s0), (1, .i i1), (6, .pointer (some t6))]) (WP.seq (c := C1) (x := C38) (y := C2) (by kernel_rfl) <| WP.reg (c := C38) (fun E w => KE_S2 E w R) (by kernel_rfl) (Eq.mp (by kernel_rfl) h_3) fun _ _ a hA hK => (WP.seq (c := C2) (x := C3) (y := C7) (by kernel_rfl) (KE_S2_ok R _ _ hK)) a hA) (ha.cons hq0 (ha.cons hq1 (ha.cons hq6 ha.nil)))
noncomputable def C39:=C0.fs
/-- lexer.go:130 -/
abbrev S0 (s0 : ByteArray) (i1 : Int) (w : World) (R : Post) : Prop :=
  nwV w (.cells #[.i 0, .i 0] ty_lexer_fault) fun w1 => 
  S1 s0 i1 (nb w) w1 R
def KE_S0 (E : Env) (w : World) (R : Post) : Prop := W.asStr (Env.get? E 0) fun s0 => W.asInt .i64 (Env.get? E 1) fun i1 => S0 s0 i1 w R
theorem KE_S0_ok (R : Post) (E : Env) (w : World) (h : KE_S0 E w R) : WP Tryz.prog (cx 45) C0 (Q6 R) E w := by
  obtain ⟨s0, hq0, h_1⟩ := W.asStr_elim h
  obtain ⟨i1, hq1, h_2⟩ := W.asInt_elim h_1
  exact fun a ha => WP.at (n := (cx 45)) (E := [(0, .string s0), (1, .i i1)]) (WP.seq (c := C0) (x := C39) (y := C1) (by kernel_rfl) <| WP.reg (c := C39) (fun E w => KE_S1 E w R) (by kernel_rfl) (Eq.mp (by kernel_rfl) h_2) fun _ _ a hA hK => (KE_S1_ok R _ _ hK) a hA) (ha.cons hq0 (ha.cons hq1 ha.nil))
/-- enthymeme/lexer.quoted -/
theorem ok (s0 : ByteArray) (i1 : Int) (w : World) (R : Post) (h : S0 s0 i1 w R) : Calls Tryz.prog n_lexer_quoted #[.string s0, .i i1] w R :=
  calls_of_WP' (R := R) (fn := Tryz.f67) (c := C0) (args := [.string s0, .i i1]) (by kernel_rfl) (by kernel_rfl) (by kernel_rfl) (KE_S0_ok R _ _ (Eq.mp (by kernel_rfl) h))
end lexer_quoted
namespace lexer_reader
noncomputable def C0 : Code := (Tryz.f42.body).getD .skip
noncomputable def C1:=C0.sn
noncomputable def C2:=C1.sn
noncomputable def C3:=C2.sn
abbrev Q0 (R : Post) : Exit → Act → World → Prop := (bodyPost Tryz.prog Tryz.f42 R)
noncomputable def C4:=C3.fs
noncomputable def C5:=C3.sn
/-- lexer.go:160 -/
abbrev S3 (s1 i3 skip4 : Addr) (w : World) (R : Post) : Prop :=
  R (.returned (.func (.func n_lexer_reader_2) #[] #[.pointer (some skip4), .pointer (some i3), .pointer (some s1)])) w
def KE_S3 (E : Env) (w : World) (R : Post) : Prop := W.asRef (Env.get? E 1) fun s1 => W.asRef (Env.get? E 3) fun i3 => W.asRef (Env.get? E 4) fun skip4 => S3 s1 i3 skip4 w R
theorem KE_S3_ok (R : Post) (E : Env) (w : World) (h : KE_S3 E w R) : WP Tryz.prog (cx 7) C3 (Q0 R) E w := by
  obtain ⟨s1, hq1, h_1⟩ := W.asRef_elim h
  obtain ⟨i3, hq3, h_2⟩ := W.asRef_elim h_1
  obtain ⟨skip4, hq4, h_3⟩ := W.asRef_elim h_2
  exact fun a ha => WP.at (n := (cx 7)) (E := [(1, .pointer (some s1)), (3, .pointer (some i3)), (4, .pointer (some skip4))]) (WP.seq (c := C3) (x := C4) (y := C5) (by kernel_rfl) <| WP.reg (c := C4) (fun E w => retVC Tryz.prog Tryz.f42 E w (fun v => R (.returned v) w)) (by kernel_rfl) (Eq.mp (by kernel_rfl) h_3) fun _ _ a hA hK => (WP.ret (c := C5) (by kernel_rfl) fun a hA => retVC_sound hA hK) a hA) (ha.cons hq1 (ha.cons hq3 (ha.cons hq4 ha.nil)))
noncomputable def C6:=C2.fs
/-- lexer.go:149 -/
abbrev S2 (s1 i3 : Addr) (w : World) (R : Post) : Prop :=
  nwV w (.cells #[.nilFunc] ty_func) fun w1 => 
  stV w1 (nb w) (.func (.func n_lexer_reader_1) #[] #[.pointer (some i3), .pointer (some s1)]) fun w2 => 
  S3 s1 i3 (nb w) w2 R
def KE_S2 (E : Env) (w : World) (R : Post) : Prop := W.asRef (Env.get? E 1) fun s1 => W.asRef (Env.get? E 3) fun i3 => S2 s1 i3 w R
theorem KE_S2_ok (R : Post) (E : Env) (w : World) (h : KE_S2 E w R) : WP Tryz.prog (cx 7) C2 (Q0 R) E w := by
  obtain ⟨s1, hq1, h_1⟩ := W.asRef_elim h
  obtain ⟨i3, hq3, h_2⟩ := W.asRef_elim h_1
  exact fun a ha => WP.at (n := (cx 7)) (E := [(1, .pointer (some s1)), (3, .pointer (some i3))]) (WP.seq (c := C2) (x := C6) (y := C3) (by kernel_rfl) <| WP.reg (c := C6) (fun E w => KE_S3 E w R) (by kernel_rfl) (Eq.mp (by kernel_rfl) h_2) fun _ _ a hA hK => (KE_S3_ok R _ _ hK) a hA) (ha.cons hq1 (ha.cons hq3 ha.nil))
noncomputable def C7:=C1.fs
/-- lexer.go:148 -/
abbrev S1 (s1 : Addr) (w : World) (R : Post) : Prop :=
  nwV w (.cells #[.i 0] ty_int) fun w1 => 
  stV w1 (nb w) (.i 0) fun w2 => 
  S2 s1 (nb w) w2 R
def KE_S1 (E : Env) (w : World) (R : Post) : Prop := W.asRef (Env.get? E 1) fun s1 => S1 s1 w R
theorem KE_S1_ok (R : Post) (E : Env) (w : World) (h : KE_S1 E w R) : WP Tryz.prog (cx 7) C1 (Q0 R) E w := by
  obtain ⟨s1, hq1, h_1⟩ := W.asRef_elim h
  exact fun a ha => WP.at (n := (cx 7)) (E := [(1, .pointer (some s1))]) (WP.seq (c := C1) (x := C7) (y := C2) (by kernel_rfl) <| WP.reg (c := C7) (fun E w => KE_S2 E w R) (by kernel_rfl) (Eq.mp (by kernel_rfl) h_1) fun _ _ a hA hK => (KE_S2_ok R _ _ hK) a hA) (ha.cons hq1 ha.nil)
noncomputable def C8:=C0.fs
/-- lexer.go:147 -/
abbrev S0 (s0 : ByteArray) (w : World) (R : Post) : Prop :=
  nwV w (.cells #[.string s0] ty_string) fun w1 => 
  S1 (nb w) w1 R
def KE_S0 (E : Env) (w : World) (R : Post) : Prop := W.asStr (Env.get? E 0) fun s0 => S0 s0 w R
theorem KE_S0_ok (R : Post) (E : Env) (w : World) (h : KE_S0 E w R) : WP Tryz.prog (cx 7) C0 (Q0 R) E w := by
  obtain ⟨s0, hq0, h_1⟩ := W.asStr_elim h
  exact fun a ha => WP.at (n := (cx 7)) (E := [(0, .string s0)]) (WP.seq (c := C0) (x := C8) (y := C1) (by kernel_rfl) <| WP.reg (c := C8) (fun E w => KE_S1 E w R) (by kernel_rfl) (Eq.mp (by kernel_rfl) h_1) fun _ _ a hA hK => (KE_S1_ok R _ _ hK) a hA) (ha.cons hq0 ha.nil)
/-- enthymeme/lexer.reader -/
theorem ok (s0 : ByteArray) (w : World) (R : Post) (h : S0 s0 w R) : Calls Tryz.prog n_lexer_reader #[.string s0] w R :=
  calls_of_WP' (R := R) (fn := Tryz.f42) (c := C0) (args := [.string s0]) (by kernel_rfl) (by kernel_rfl) (by kernel_rfl) (KE_S0_ok R _ _ (Eq.mp (by kernel_rfl) h))
end lexer_reader
namespace lexer_reader_1
noncomputable def C0 : Code := (Tryz.f64.body).getD .skip
noncomputable def C1:=C0.fs
noncomputable def C2:=C1.fs
abbrev Q0 (R : Post) : Exit → Act → World → Prop := (bodyPost Tryz.prog Tryz.f64 R)
abbrev Q1 (R : Post) : Exit → Act → World → Prop := (Exit.inBlock 0 (Q0 R))
/-- the head of the loop, lexer.go:150 -/
def L0 (t0 t1 : Addr) (w : World) (R : Post) : Prop := LP Tryz.prog (cx 37) C2 (Q1 R) [(0, .pointer (some t0)), (1, .pointer (some t1))] w
def KE_L0 (E : Env) (w : World) (R : Post) : Prop := W.asRef (Env.get? E 0) fun t0 => W.asRef (Env.get? E 1) fun t1 => L0 t0 t1 w R
theorem KE_L0_ok (R : Post) (E : Env) (w : World) (h : KE_L0 E w R) : LP Tryz.prog (cx 37) C2 (Q1 R) E w := by
  obtain ⟨t0, hq0, h_1⟩ := W.asRef_elim h
  obtain ⟨t1, hq1, h_2⟩ := W.asRef_elim h_1
  intro a ha
  exact h_2 a (ha.cons hq0 (ha.cons hq1 ha.nil))
noncomputable def C3:=C2.sn
noncomputable def C4:=C3.fs
noncomputable def C5:=C4.fs
noncomputable def C6:=C5.sn
noncomputable def C7:=C6.fs
abbrev Q2 (R : Post) : Exit → Act → World → Prop := (Exit.then (LoopWP Tryz.prog (cx 37) C2 (Q1 R)) (Q1 R))
noncomputable def C8:=C4.sn
abbrev Q3 (R : Post) : Exit → Act → World → Prop := (Exit.then (wpx Tryz.prog (cx 37) C8 (Exit.inBlock 1 (Q2 R))) (Exit.inBlock 1 (Q2 R)))
noncomputable def C9:=C7.fs
noncomputable def C10:=C7.sn
/-- lexer.go:152 -/
abbrev S3 (t0 t1 : Addr) (w : World) (R : Post) : Prop :=
  ∃ t23 : Int, w.cell? t0 = some (.i t23) ∧ 
  stV w t0 (.i (IntKind.wrap .i64 (t23 + 1))) fun w1 => 
  L0 t0 t1 w1 R
def KE_S3 (E : Env) (w : World) (R : Post) : Prop := W.asRef (Env.get? E 0) fun t0 => W.asRef (Env.get? E 1) fun t1 => S3 t0 t1 w R
theorem KE_S3_ok (R : Post) (E : Env) (w : World) (h : KE_S3 E w R) : WP Tryz.prog (cx 37) C7 (Q3 R) E w := by
  obtain ⟨t0, hq0, h_1⟩ := W.asRef_elim h
  obtain ⟨t1, hq1, h_2⟩ := W.asRef_elim h_1
  exact fun a ha => WP.at (n := (cx 37)) (E := [(0, .pointer (some t0)), (1, .pointer (some t1))]) (WP.seq (c := C7) (x := C9) (y := C10) (by kernel_rfl) <| WP.reg (c := C9) (fun E w => KE_L0 E w R) (by kernel_rfl) (Eq.mp (by kernel_rfl) h_2) fun _ _ a hA hK => (WP.exit (c := C10) (id := 1) (by kernel_rfl) fun a hA => KE_L0_ok R _ _ hK a hA) a hA) (ha.cons hq0 (ha.cons hq1 ha.nil))
noncomputable def C11:=C8.fs
noncomputable def C12:=C11.fs
abbrev Q4 (R : Post) : Exit → Act → World → Prop := (Exit.inBlock 1 (Q2 R))
abbrev Q5 (R : Post) : Exit → Act → World → Prop := (Exit.inBlock 2 (Q4 R))
/-- the head of the loop, lexer.go:155 -/
def L4 (t0 t1 : Addr) (w : World) (R : Post) : Prop := LP Tryz.prog (cx 37) C12 (Q5 R) [(0, .pointer (some t0)), (1, .pointer (some t1))] w
def KE_L4 (E : Env) (w : World) (R : Post) : Prop := W.asRef (Env.get? E 0) fun t0 => W.asRef (Env.get? E 1) fun t1 => L4 t0 t1 w R
theorem KE_L4_ok (R : Post) (E : Env) (w : World) (h : KE_L4 E w R) : LP Tryz.prog (cx 37) C12 (Q5 R) E w := by
  obtain ⟨t0, hq0, h_1⟩ := W.asRef_elim h
  obtain ⟨t1, hq1, h_2⟩ := W.asRef_elim h_1
  intro a ha
  exact h_2 a (ha.cons hq0 (ha.cons hq1 ha.nil))
noncomputable def C13:=C12.sn
noncomputable def C14:=C13.fs
abbrev Q6 (R : Post) : Exit → Act → World → Prop := (Exit.then (LoopWP Tryz.prog (cx 37) C12 (Q5 R)) (Q5 R))
abbrev Q7 (R : Post) : Exit → Act → World → Prop := (Exit.inBlock 3 (Q6 R))
/-- lexer.go:156 -/
abbrev S6 (t0 t1 : Addr) (w : World) (R : Post) : Prop :=
  ∃ t35 : Int, w.cell? t0 = some (.i t35) ∧ 
  stV w t0 (.i (IntKind.wrap .i64 (t35 + 1))) fun w1 => 
  L4 t0 t1 w1 R
def KE_S6 (E : Env) (w : World) (R : Post) : Prop := W.asRef (Env.get? E 0) fun t0 => W.asRef (Env.get? E 1) fun t1 => S6 t0 t1 w R
theorem KE_S6_ok (R : Post) (E : Env) (w : World) (h : KE_S6 E w R) : WP Tryz.prog (cx 37) C14 (Q7 R) E w := by
  obtain ⟨t0, hq0, h_1⟩ := W.asRef_elim h
  obtain ⟨t1, hq1, h_2⟩ := W.asRef_elim h_1
  exact fun a ha => WP.at (n := (cx 37)) (E := [(0, .pointer (some t0)), (1, .pointer (some t1))]) (WP.reg (c := C14) (fun E w => KE_L4 E w R) (by kernel_rfl) (Eq.mp (by kernel_rfl) h_2) fun _ _ a hA hK => KE_L4_ok R _ _ hK a hA) (ha.cons hq0 (ha.cons hq1 ha.nil))
noncomputable def C15:=C12.fs
abbrev Q8 (R : Post) : Exit → Act → World → Prop := (Exit.then (wpx Tryz.prog (cx 37) C13 (Exit.then (LoopWP Tryz.prog (cx 37) C12 (Q5 R)) (Q5 R))) (Exit.then (LoopWP Tryz.prog (cx 37) C12 (Q5 R)) (Q5 R)))
noncomputable def C16:=C15.fs
noncomputable def C17:=C15.sn
noncomputable def C18:=C17.fs
noncomputable def C19:=C17.sn
/-- lexer.go:155 -/
abbrev S5 (t0 t1 : Addr) (w : World) (R : Post) : Prop :=
  ∃ t25 : Int, w.cell? t0 = some (.i t25) ∧ 
  ∃ t26 : ByteArray, w.cell? t1 = some (.string t26) ∧ 
  sel (decide (t25 < ((t26.size : Nat) : Int))) (∃ t30 : ByteArray, w.cell? t1 = some (.string t30) ∧ 
  ∃ t31 : Int, w.cell? t0 = some (.i t31) ∧ 
  (0 : Int) ≤ t31 ∧ ∃ t32_b : UInt8, t30[Int.toNat t31]? = some t32_b ∧ sel (((t32_b.toNat : Nat) : Int) != 10) (S6 t0 t1 w R) (L0 t0 t1 w R)) (L0 t0 t1 w R)
def KE_S5 (E : Env) (w : World) (R : Post) : Prop := W.asRef (Env.get? E 0) fun t0 => W.asRef (Env.get? E 1) fun t1 => S5 t0 t1 w R
theorem KE_S5_ok (R : Post) (E : Env) (w : World) (h : KE_S5 E w R) : WP Tryz.prog (cx 37) C15 (Q8 R) E w := by
  obtain ⟨t0, hq0, h_1⟩ := W.asRef_elim h
  obtain ⟨t1, hq1, h_2⟩ := W.asRef_elim h_1
  exact fun a ha => WP.at (n := (cx 37)) (E := [(0, .pointer (some t0)), (1, .pointer (some t1))]) (WP.seq (c := C15) (x := C16) (y := C17) (by kernel_rfl) <| WP.reg (c := C16) (fun E w => condK (Env.val E (.tmp 34)) (KE_S6 E w R) (KE_L0 E w R)) (by kernel_rfl) (Eq.mp (by kernel_rfl) h_2) fun _ _ a hA hK => (WP.condK (c := C17) (x := C18) (y := C19) (o := .tmp 34) (by kernel_rfl) (fun hK => (WP.skip (c := C18) (by kernel_rfl) fun a hA => (WP.block (c := C13) (x := C14) (id := 3) (by kernel_rfl) (KE_S6_ok R _ _ hK)) a hA)) (fun hK => (WP.exit (c := C19) (id := 2) (by kernel_rfl) fun a hA => KE_L0_ok R _ _ hK a hA)) hK) a hA) (ha.cons hq0 (ha.cons hq1 ha.nil))
theorem L4_step (t0 t1 : Addr) (w : World) (R : Post) (h : S5 t0 t1 w R) : L4 t0 t1 w R :=
  LP.step (n := (cx 37)) (c := C12) (E := [(0, .pointer (some t0)), (1, .pointer (some t1))]) (w := w) (WP.seq (c := C12) (x := C15) (y := C13) (by kernel_rfl) (KE_S5_ok R _ _ (Eq.mp (by kernel_rfl) h)))
noncomputable def C20:=C5.fs
noncomputable def C21:=C6.sn
/-- lexer.go:151 -/
abbrev S2 (t0 t1 : Addr) (w : World) (R : Post) : Prop :=
  ∃ t19 : ByteArray, w.cell? t1 = some (.string t19) ∧ 
  ∃ t20 : Int, w.cell? t0 = some (.i t20) ∧ 
  (0 : Int) ≤ t20 ∧ ∃ t21_b : UInt8, t19[Int.toNat t20]? = some t21_b ∧ sel (((t21_b.toNat : Nat) : Int) != 59) (S3 t0 t1 w R) (L4 t0 t1 w R)
def KE_S2 (E : Env) (w : World) (R : Post) : Prop := W.asRef (Env.get? E 0) fun t0 => W.asRef (Env.get? E 1) fun t1 => S2 t0 t1 w R
theorem KE_S2_ok (R : Post) (E : Env) (w : World) (h : KE_S2 E w R) : WP Tryz.prog (cx 37) C5 (Q3 R) E w := by
  obtain ⟨t0, hq0, h_1⟩ := W.asRef_elim h
  obtain ⟨t1, hq1, h_2⟩ := W.asRef_elim h_1
  exact fun a ha => WP.at (n := (cx 37)) (E := [(0, .pointer (some t0)), (1, .pointer (some t1))]) (WP.seq (c := C5) (x := C20) (y := C6) (by kernel_rfl) <| WP.reg (c := C20) (fun E w => condK (Env.val E (.tmp 22)) (KE_S3 E w R) (KE_L4 E w R)) (by kernel_rfl) (Eq.mp (by kernel_rfl) h_2) fun _ _ a hA hK => (WP.condK (c := C6) (x := C7) (y := C21) (o := .tmp 22) (by kernel_rfl) (fun hK => (KE_S3_ok R _ _ hK)) (fun hK => (WP.skip (c := C21) (by kernel_rfl) fun a hA => (WP.block (c := C8) (x := C11) (id := 2) (by kernel_rfl) (WP.loop (c := C11) (x := C12) (by kernel_rfl) (KE_L4_ok R _ _ hK))) a hA)) hK) a hA) (ha.cons hq0 (ha.cons hq1 ha.nil))
noncomputable def C22:=C2.fs
abbrev Q9 (R : Post) : Exit → Act → World → Prop := (Exit.then (wpx Tryz.prog (cx 37) C3 (Exit.then (LoopWP Tryz.prog (cx 37) C2 (Q1 R)) (Q1 R))) (Exit.then (LoopWP Tryz.prog (cx 37) C2 (Q1 R)) (Q1 R)))
noncomputable def C23:=C22.fs
noncomputable def C24:=C22.sn
noncomputable def C25:=C24.fs
noncomputable def C26:=C24.sn
/-- lexer.go:150 -/
abbrev S1 (t0 t1 : Addr) (w : World) (R : Post) : Prop :=
  ∃ t2 : Int, w.cell? t0 = some (.i t2) ∧ 
  ∃ t3 : ByteArray, w.cell? t1 = some (.string t3) ∧ 
  sel (decide (t2 < ((t3.size : Nat) : Int))) (∃ t7 : ByteArray, w.cell? t1 = some (.string t7) ∧ 
  ∃ t8 : Int, w.cell? t0 = some (.i t8) ∧ 
  (0 : Int) ≤ t8 ∧ ∃ t9_b : UInt8, t7[Int.toNat t8]? = some t9_b ∧ sel (((t9_b.toNat : Nat) : Int) == 59) (S2 t0 t1 w R) (∃ t12 : ByteArray, w.cell? t1 = some (.string t12) ∧ 
  ∃ t13 : Int, w.cell? t0 = some (.i t13) ∧ 
  (0 : Int) ≤ t13 ∧ ∃ t14_b : UInt8, t12[Int.toNat t13]? = some t14_b ∧ Calls Tryz.prog n_strings_IndexByte #[.string (ByteArray.mk #[9, 10, 13, 32]), .int .u8 ((t14_b.toNat : Nat) : Int)] w fun r_ w1 => ∃ t15 : Int, r_ = .returned (.i t15) ∧ 
  sel (decide (t15 ≥ 0)) (S2 t0 t1 w1 R) (R (.returned (.tuple #[])) w1))) (R (.returned (.tuple #[])) w)
def KE_S1 (E : Env) (w : World) (R : Post) : Prop := W.asRef (Env.get? E 0) fun t0 => W.asRef (Env.get? E 1) fun t1 => S1 t0 t1 w R
theorem KE_S1_ok (R : Post) (E : Env) (w : World) (h : KE_S1 E w R) : WP Tryz.prog (cx 37) C22 (Q9 R) E w := by
  obtain ⟨t0, hq0, h_1⟩ := W.asRef_elim h
  obtain ⟨t1, hq1, h_2⟩ := W.asRef_elim h_1
  exact fun a ha => WP.at (n := (cx 37)) (E := [(0, .pointer (some t0)), (1, .pointer (some t1))]) (WP.seq (c := C22) (x := C23) (y := C24) (by kernel_rfl) <| WP.reg (c := C23) (fun E w => condK (Env.val E (.tmp 18)) (KE_S2 E w R) (retVC Tryz.prog Tryz.f64 E w (fun v => R (.returned v) w))) (by kernel_rfl) (Eq.mp (by kernel_rfl) h_2) fun _ _ a hA hK => (WP.condK (c := C24) (x := C25) (y := C26) (o := .tmp 18) (by kernel_rfl) (fun hK => (WP.skip (c := C25) (by kernel_rfl) fun a hA => (WP.block (c := C3) (x := C4) (id := 1) (by kernel_rfl) (WP.seq (c := C4) (x := C5) (y := C8) (by kernel_rfl) (KE_S2_ok R _ _ hK))) a hA)) (fun hK => (WP.exit (c := C26) (id := 0) (by kernel_rfl) fun a hA => retVC_sound hA hK)) hK) a hA) (ha.cons hq0 (ha.cons hq1 ha.nil))
theorem L0_step (t0 t1 : Addr) (w : World) (R : Post) (h : S1 t0 t1 w R) : L0 t0 t1 w R :=
  LP.step (n := (cx 37)) (c := C2) (E := [(0, .pointer (some t0)), (1, .pointer (some t1))]) (w := w) (WP.seq (c := C2) (x := C22) (y := C3) (by kernel_rfl) (KE_S1_ok R _ _ (Eq.mp (by kernel_rfl) h)))
/-- enthymeme/lexer.reader$1 -/
theorem ok (t0 t1 : Addr) (w : World) (R : Post) (h : L0 t0 t1 w R) : Calls Tryz.prog n_lexer_reader_1 #[.pointer (some t0), .pointer (some t1)] w R :=
  calls_of_WP' (R := R) (fn := Tryz.f64) (c := C0) (args := [.pointer (some t0), .pointer (some t1)]) (by kernel_rfl) (by kernel_rfl) (by kernel_rfl) (WP.block (c := C0) (x := C1) (id := 0) (by kernel_rfl) (WP.loop (c := C1) (x := C2) (by kernel_rfl) (KE_L0_ok R _ _ (Eq.mp (by kernel_rfl) h))))
end lexer_reader_1
namespace lexer_reader_2
noncomputable def C0 : Code := (Tryz.f66.body).getD .skip
noncomputable def C1:=C0.sn
noncomputable def C2:=C1.sn
noncomputable def C3:=C2.fs
noncomputable def C4:=C3.sn
noncomputable def C5:=C4.fs
noncomputable def C6:=C2.sn
abbrev Q0 (R : Post) : Exit → Act → World → Prop := (Exit.then (wpx Tryz.prog (cx 138) C6 (bodyPost Tryz.prog Tryz.f66 R)) (bodyPost Tryz.prog Tryz.f66 R))
noncomputable def C7:=C5.fs
noncomputable def C8:=C5.sn
/-- lexer.go:163 -/
abbrev S3 (t1 t3 t4 : Addr) (w : World) (R : Post) : Prop :=
  ∃ t18 : Int, w.cell? t1 = some (.i t18) ∧ 
  stV w t3 (.i 6) fun w1 => 
  stV w1 (t3.add 1) (.s0) fun w2 => 
  stV w2 (t3.add 2) (.i t18) fun w3 => 
  stV w3 t4 (.i 0) fun w4 => 
  stV w4 (t4.add 1) (.i 0) fun w5 => 
  ∃ r3_0 : Int, ∃ r3_1 : ByteArray, ∃ r3_2 : Int, w5.cell? (t3.add 0) = some (.i r3_0) ∧ w5.cell? (t3.add 1) = some (.string r3_1) ∧ w5.cell? (t3.add 2) = some (.i r3_2) ∧ 
  ∃ r4_0 : Int, ∃ r4_1 : Int, w5.cell? (t4.add 0) = some (.i r4_0) ∧ w5.cell? (t4.add 1) = some (.i r4_1) ∧ 
  R (.returned (.tuple #[.agg #[.i r3_0, .string r3_1, .i r3_2], .agg #[.i r4_0, .i r4_1]])) w5
def KE_S3 (E : Env) (w : World) (R : Post) : Prop := W.asRef (Env.get? E 1) fun t1 => W.asRef (Env.get? E 3) fun t3 => W.asRef (Env.get? E 4) fun t4 => S3 t1 t3 t4 w R
theorem KE_S3_ok (R : Post) (E : Env) (w : World) (h : KE_S3 E w R) : WP Tryz.prog (cx 138) C5 (Q0 R) E w := by
  obtain ⟨t1, hq1, h_1⟩ := W.asRef_elim h
  obtain ⟨t3, hq3, h_2⟩ := W.asRef_elim h_1
  obtain ⟨t4, hq4, h_3⟩ := W.asRef_elim h_2
  exact fun a ha => WP.at (n := (cx 138)) (E := [(1, .pointer (some t1)), (3, .pointer (some t3)), (4, .pointer (some t4))]) (WP.seq (c := C5) (x := C7) (y := C8) (by kernel_rfl) <| WP.reg (c := C7) (fun E w => retVC Tryz.prog Tryz.f66 E w (fun v => R (.returned v) w)) (by kernel_rfl) (Eq.mp (by kernel_rfl) h_3) fun _ _ a hA hK => (WP.ret (c := C8) (by kernel_rfl) fun a hA => retVC_sound hA hK) a hA) (ha.cons hq1 (ha.cons hq3 (ha.cons hq4 ha.nil)))
noncomputable def C9:=C6.sn
noncomputable def C10:=C9.sn
abbrev Q1 (R : Post) : Exit → Act → World → Prop := (bodyPost Tryz.prog Tryz.f66 R)
noncomputable def C11:=C10.fs
noncomputable def C12:=C10.sn
/-- lexer.go:195 -/
abbrev S9 (t3 t4 t5 : Addr) (w : World) (R : Post) : Prop :=
  ∃ t136_0 : Int, ∃ t136_1 : ByteArray, ∃ t136_2 : Int, w.cell? (t5.add 0) = some (.i t136_0) ∧ w.cell? (t5.add 1) = some (.string t136_1) ∧ w.cell? (t5.add 2) = some (.i t136_2) ∧ 
  stV w t3 (.i t136_0) fun w1 => 
  stV w1 (t3.add 1) (.string t136_1) fun w2 => 
  stV w2 (t3.add 2) (.i t136_2) fun w3 => 
  stV w3 t4 (.i 0) fun w4 => 
  stV w4 (t4.add 1) (.i 0) fun w5 => 
  ∃ r3_0 : Int, ∃ r3_1 : ByteArray, ∃ r3_2 : Int, w5.cell? (t3.add 0) = some (.i r3_0) ∧ w5.cell? (t3.add 1) = some (.string r3_1) ∧ w5.cell? (t3.add 2) = some (.i r3_2) ∧ 
  ∃ r4_0 : Int, ∃ r4_1 : Int, w5.cell? (t4.add 0) = some (.i r4_0) ∧ w5.cell? (t4.add 1) = some (.i r4_1) ∧ 
  R (.returned (.tuple #[.agg #[.i r3_0, .string r3_1, .i r3_2], .agg #[.i r4_0, .i r4_1]])) w5
def KE_S9 (E : Env) (w : World) (R : Post) : Prop := W.asRef (Env.get? E 3) fun t3 => W.asRef (Env.get? E 4) fun t4 => W.asRef (Env.get? E 5) fun t5 => S9 t3 t4 t5 w R
theorem KE_S9_ok (R : Post) (E : Env) (w : World) (h : KE_S9 E w R) : WP Tryz.prog (cx 138) C10 (Q1 R) E w := by
  obtain ⟨t3, hq3, h_1⟩ := W.asRef_elim h
  obtain ⟨t4, hq4, h_2⟩ := W.asRef_elim h_1
  obtain ⟨t5, hq5, h_3⟩ := W.asRef_elim h_2
  exact fun a ha => WP.at (n := (cx 138)) (E := [(3, .pointer (some t3)), (4, .pointer (some t4)), (5, .pointer (some t5))]) (WP.seq (c := C10) (x := C11) (y := C12) (by kernel_rfl) <| WP.reg (c := C11) (fun E w => retVC Tryz.prog Tryz.f66 E w (fun v => R (.returned v) w)) (by kernel_rfl) (Eq.mp (by kernel_rfl) h_3) fun _ _ a hA hK => (WP.ret (c := C12) (by kernel_rfl) fun a hA => retVC_sound hA hK) a hA) (ha.cons hq3 (ha.cons hq4 (ha.cons hq5 ha.nil)))
noncomputable def C13:=C9.fs
noncomputable def C14:=C13.sn
noncomputable def C15:=C14.fs
noncomputable def C16:=C15.sn
noncomputable def C17:=C16.fs
noncomputable def C18:=C17.sn
abbrev Q2 (R : Post) : Exit → Act → World → Prop := (Exit.then (wpx Tryz.prog (cx 138) C10 (bodyPost Tryz.prog Tryz.f66 R)) (bodyPost Tryz.prog Tryz.f66 R))
abbrev Q3 (R : Post) : Exit → Act → World → Prop := (Exit.inBlock 0 (Q2 R))
/-- lexer.go:169 -/
abbrev S8 (t1 t3 t4 t5 : Addr) (w : World) (R : Post) : Prop :=
  ∃ t33 : Int, w.cell? t1 = some (.i t33) ∧ 
  stV w t1 (.i (IntKind.wrap .i64 (t33 + 1))) fun w1 => 
  S9 t3 t4 t5 w1 R
def KE_S8 (E : Env) (w : World) (R : Post) : Prop := W.asRef (Env.get? E 1) fun t1 => W.asRef (Env.get? E 3) fun t3 => W.asRef (Env.get? E 4) fun t4 => W.asRef (Env.get? E 5) fun t5 => S8 t1 t3 t4 t5 w R
theorem KE_S8_ok (R : Post) (E : Env) (w : World) (h : KE_S8 E w R) : WP Tryz.prog (cx 138) C18 (Q3 R) E w := by
  obtain ⟨t1, hq1, h_1⟩ := W.asRef_elim h
  obtain ⟨t3, hq3, h_2⟩ := W.asRef_elim h_1
  obtain ⟨t4, hq4, h_3⟩ := W.asRef_elim h_2
  obtain ⟨t5, hq5, h_4⟩ := W.asRef_elim h_3
  exact fun a ha => WP.at (n := (cx 138)) (E := [(1, .pointer (some t1)), (3, .pointer (some t3)), (4, .pointer (some t4)), (5, .pointer (some t5))]) (WP.reg (c := C18) (fun E w => KE_S9 E w R) (by kernel_rfl) (Eq.mp (by kernel_rfl) h_4) fun _ _ a hA hK => (KE_S9_ok R _ _ hK) a hA) (ha.cons hq1 (ha.cons hq3 (ha.cons hq4 (ha.cons hq5 ha.nil))))
noncomputable def C19:=C17.fs
/-- lexer.go:168 -/
abbrev S7 (t1 t3 t4 t5 : Addr) (w : World) (R : Post) : Prop :=
  stV w (t5.add 0) (.i 0) fun w1 => 
  S8 t1 t3 t4 t5 w1 R
def KE_S7 (E : Env) (w : World) (R : Post) : Prop := W.asRef (Env.get? E 1) fun t1 => W.asRef (Env.get? E 3) fun t3 => W.asRef (Env.get? E 4) fun t4 => W.asRef (Env.get? E 5) fun t5 => S7 t1 t3 t4 t5 w R
theorem KE_S7_ok (R : Post) (E : Env) (w : World) (h : KE_S7 E w R) : WP Tryz.prog (cx 138) C17 (Q3 R) E w := by
  obtain ⟨t1, hq1, h_1⟩ := W.asRef_elim h
  obtain ⟨t3, hq3, h_2⟩ := W.asRef_elim h_1
  obtain ⟨t4, hq4, h_3⟩ := W.asRef_elim h_2
  obtain ⟨t5, hq5, h_4⟩ := W.asRef_elim h_3
  exact fun a ha => WP.at (n := (cx 138)) (E := [(1, .pointer (some t1)), (3, .pointer (some t3)), (4, .pointer (some t4)), (5, .pointer (some t5))]) (WP.seq (c := C17) (x := C19) (y := C18) (by kernel_rfl) <| WP.reg (c := C19) (fun E w => KE_S8 E w R) (by kernel_rfl) (Eq.mp (by kernel_rfl) h_4) fun _ _ a hA hK => (KE_S8_ok R _ _ hK) a hA) (ha.cons hq1 (ha.cons hq3 (ha.cons hq4 (ha.cons hq5 ha.nil))))
noncomputable def C20:=C16.sn
noncomputable def C21:=C20.sn
noncomputable def C22:=C21.fs
noncomputable def C23:=C22.sn
/-- lexer.go:172 -/
abbrev S12 (t1 t3 t4 t5 : Addr) (w : World) (R : Post) : Prop :=
  ∃ t39 : Int, w.cell? t1 = some (.i t39) ∧ 
  stV w t1 (.i (IntKind.wrap .i64 (t39 + 1))) fun w1 => 
  S9 t3 t4 t5 w1 R
def KE_S12 (E : Env) (w : World) (R : Post) : Prop := W.asRef (Env.get? E 1) fun t1 => W.asRef (Env.get? E 3) fun t3 => W.asRef (Env.get? E 4) fun t4 => W.asRef (Env.get? E 5) fun t5 => S12 t1 t3 t4 t5 w R
theorem KE_S12_ok (R : Post) (E : Env) (w : World) (h : KE_S12 E w R) : WP Tryz.prog (cx 138) C23 (Q3 R) E w := by
  obtain ⟨t1, hq1, h_1⟩ := W.asRef_elim h
  obtain ⟨t3, hq3, h_2⟩ := W.asRef_elim h_1
  obtain ⟨t4, hq4, h_3⟩ := W.asRef_elim h_2
  obtain ⟨t5, hq5, h_4⟩ := W.asRef_elim h_3
  exact fun a ha => WP.at (n := (cx 138)) (E := [(1, .pointer (some t1)), (3, .pointer (some t3)), (4, .pointer (some t4)), (5, .pointer (some t5))]) (WP.reg (c := C23) (fun E w => KE_S9 E w R) (by kernel_rfl) (Eq.mp (by kernel_rfl) h_4) fun _ _ a hA hK => (KE_S9_ok R _ _ hK) a hA) (ha.cons hq1 (ha.cons hq3 (ha.cons hq4 (ha.cons hq5 ha.nil))))
noncomputable def C24:=C22.fs
/-- lexer.go:171 -/
abbrev S11 (t1 t3 t4 t5 : Addr) (w : World) (R : Post) : Prop :=
  stV w (t5.add 0) (.i 1) fun w1 => 
  S12 t1 t3 t4 t5 w1 R
def KE_S11 (E : Env) (w : World) (R : Post) : Prop := W.asRef (Env.get? E 1) fun t1 => W.asRef (Env.get? E 3) fun t3 => W.asRef (Env.get? E 4) fun t4 => W.asRef (Env.get? E 5) fun t5 => S11 t1 t3 t4 t5 w R
theorem KE_S11_ok (R : Post) (E : Env) (w : World) (h : KE_S11 E w R) : WP Tryz.prog (cx 138) C22 (Q3 R) E w := by
  obtain ⟨t1, hq1, h_1⟩ := W.asRef_elim h
  obtain ⟨t3, hq3, h_2⟩ := W.asRef_elim h_1
  obtain ⟨t4, hq4, h_3⟩ := W.asRef_elim h_2
  obtain ⟨t5, hq5, h_4⟩ := W.asRef_elim h_3
  exact fun a ha => WP.at (n := (cx 138)) (E := [(1, .pointer (some t1)), (3, .pointer (some t3)), (4, .pointer (some t4)), (5, .pointer (some t5))]) (WP.seq (c := C22) (x := C24) (y := C23) (by kernel_rfl) <| WP.reg (c := C24) (fun E w => KE_S12 E w R) (by kernel_rfl) (Eq.mp (by kernel_rfl) h_4) fun _ _ a hA hK => (KE_S12_ok R _ _ hK) a hA) (ha.cons hq1 (ha.cons hq3 (ha.cons hq4 (ha.cons hq5 ha.nil))))
noncomputable def C25:=C21.sn
noncomputable def C26:=C25.sn
noncomputable def C27:=C26.fs
noncomputable def C28:=C27.sn
noncomputable def C29:=C28.fs
noncomputable def C30:=C29.sn
noncomputable def C31:=C30.fs
noncomputable def C32:=C28.sn
abbrev Q4 (R : Post) : Exit → Act → World → Prop := (Exit.then (wpx Tryz.prog (cx 138) C32 (Exit.inBlock 0 (Q2 R))) (Exit.inBlock 0 (Q2 R)))
noncomputable def C33:=C31.fs
noncomputable def C34:=C31.sn
/-- lexer.go:176 -/
abbrev S16 (t3 t4 f9 : Addr) (w : World) (R : Post) : Prop :=
  drV w fun w1 => ∃ t55_0 : Int, ∃ t55_1 : Int, w1.cell? (f9.add 0) = some (.i t55_0) ∧ w1.cell? (f9.add 1) = some (.i t55_1) ∧ 
  stV w1 t3 (.i 0) fun w2 => 
  stV w2 (t3.add 1) (.s0) fun w3 => 
  stV w3 (t3.add 2) (.i 0) fun w4 => 
  w4.cell? (f9.add 0) = some (.i t55_0) ∧ w4.cell? (f9.add 1) = some (.i t55_1) ∧ stV w4 t4 (.i t55_0) fun w5 => 
  stV w5 (t4.add 1) (.i t55_1) fun w6 => 
  ∃ r3_0 : Int, ∃ r3_1 : ByteArray, ∃ r3_2 : Int, w6.cell? (t3.add 0) = some (.i r3_0) ∧ w6.cell? (t3.add 1) = some (.string r3_1) ∧ w6.cell? (t3.add 2) = some (.i r3_2) ∧ 
  ∃ r4_0 : Int, ∃ r4_1 : Int, w6.cell? (t4.add 0) = some (.i r4_0) ∧ w6.cell? (t4.add 1) = some (.i r4_1) ∧ 
  R (.returned (.tuple #[.agg #[.i r3_0, .string r3_1, .i r3_2], .agg #[.i r4_0, .i r4_1]])) w6
def KE_S16 (E : Env) (w : World) (R : Post) : Prop := W.asRef (Env.get? E 3) fun t3 => W.asRef (Env.get? E 4) fun t4 => W.asRef (Env.get? E 9) fun f9 => S16 t3 t4 f9 w R
theorem KE_S16_ok (R : Post) (E : Env) (w : World) (h : KE_S16 E w R) : WP Tryz.prog (cx 138) C31 (Q4 R) E w := by
  obtain ⟨t3, hq3, h_1⟩ := W.asRef_elim h
  obtain ⟨t4, hq4, h_2⟩ := W.asRef_elim h_1
  obtain ⟨f9, hq9, h_3⟩ := W.asRef_elim h_2
  exact fun a ha => WP.at (n := (cx 138)) (E := [(3, .pointer (some t3)), (4, .pointer (some t4)), (9, .pointer (some f9))]) (WP.seq (c := C31) (x := C33) (y := C34) (by kernel_rfl) <| WP.draw (c := C33) [0, 1, 2, 3] (fun E w => retVC Tryz.prog Tryz.f66 E w (fun v => R (.returned v) w)) (by kernel_rfl) (Eq.mp (by kernel_rfl) h_3) fun _ _ a hA hK => (WP.ret (c := C34) (by kernel_rfl) fun a hA => retVC_sound hA hK) a hA) (ha.cons hq3 (ha.cons hq4 (ha.cons hq9 ha.nil)))
/-- lexer.go:178 -/
abbrev S17 (t1 t3 t4 t5 : Addr) (text7 : ByteArray) (next8 : Int) (w : World) (R : Post) : Prop :=
  stV w (t5.add 0) (.i 5) fun w1 => 
  stV w1 (t5.add 1) (.string text7) fun w2 => 
  stV w2 t1 (.i next8) fun w3 => 
  S9 t3 t4 t5 w3 R
def KE_S17 (E : Env) (w : World) (R : Post) : Prop := W.asRef (Env.get? E 1) fun t1 => W.asRef (Env.get? E 3) fun t3 => W.asRef (Env.get? E 4) fun t4 => W.asRef (Env.get? E 5) fun t5 => W.asStr (Env.get? E 7) fun text7 => W.asInt .i64 (Env.get? E 8) fun next8 => S17 t1 t3 t4 t5 text7 next8 w R
theorem KE_S17_ok (R : Post) (E : Env) (w : World) (h : KE_S17 E w R) : WP Tryz.prog (cx 138) C32 (Q3 R) E w := by
  obtain ⟨t1, hq1, h_1⟩ := W.asRef_elim h
  obtain ⟨t3, hq3, h_2⟩ := W.asRef_elim h_1
  obtain ⟨t4, hq4, h_3⟩ := W.asRef_elim h_2
  obtain ⟨t5, hq5, h_4⟩ := W.asRef_elim h_3
  obtain ⟨text7, hq7, h_5⟩ := W.asStr_elim h_4
  obtain ⟨next8, hq8, h_6⟩ := W.asInt_elim h_5
  exact fun a ha => WP.at (n := (cx 138)) (E := [(1, .pointer (some t1)), (3, .pointer (some t3)), (4, .pointer (some t4)), (5, .pointer (some t5)), (7, .string text7), (8, .i next8)]) (WP.reg (c := C32) (fun E w => KE_S9 E w R) (by kernel_rfl) (Eq.mp (by kernel_rfl) h_6) fun _ _ a hA hK => (KE_S9_ok R _ _ hK) a hA) (ha.cons hq1 (ha.cons hq3 (ha.cons hq4 (ha.cons hq5 (ha.cons hq7 (ha.cons hq8 ha.nil))))))
noncomputable def C35:=C29.fs
noncomputable def C36:=C30.sn
/-- lexer.go:175 -/
abbrev S15 (t1 t3 t4 t5 : Addr) (text7 : ByteArray) (next8 : Int) (f9 : Addr) (w : World) (R : Post) : Prop :=
  ∃ t52 : Int, w.cell? (f9.add 0) = some (.i t52) ∧ 
  sel (t52 != 0) (S16 t3 t4 f9 w R) (S17 t1 t3 t4 t5 text7 next8 w R)
def KE_S15 (E : Env) (w : World) (R : Post) : Prop := W.asRef (Env.get? E 1) fun t1 => W.asRef (Env.get? E 3) fun t3 => W.asRef (Env.get? E 4) fun t4 => W.asRef (Env.get? E 5) fun t5 => W.asStr (Env.get? E 7) fun text7 => W.asInt .i64 (Env.get? E 8) fun next8 => W.asRef (Env.get? E 9) fun f9 => S15 t1 t3 t4 t5 text7 next8 f9 w R
theorem KE_S15_ok (R : Post) (E : Env) (w : World) (h : KE_S15 E w R) : WP Tryz.prog (cx 138) C29 (Q4 R) E w := by
  obtain ⟨t1, hq1, h_1⟩ := W.asRef_elim h
  obtain ⟨t3, hq3, h_2⟩ := W.asRef_elim h_1
  obtain ⟨t4, hq4, h_3⟩ := W.asRef_elim h_2
  obtain ⟨t5, hq5, h_4⟩ := W.asRef_elim h_3
  obtain ⟨text7, hq7, h_5⟩ := W.asStr_elim h_4
  obtain ⟨next8, hq8, h_6⟩ := W.asInt_elim h_5
  obtain ⟨f9, hq9, h_7⟩ := W.asRef_elim h_6
  exact fun a ha => WP.at (n := (cx 138)) (E := [(1, .pointer (some t1)), (3, .pointer (some t3)), (4, .pointer (some t4)), (5, .pointer (some t5)), (7, .string text7), (8, .i next8), (9, .pointer (some f9))]) (WP.seq (c := C29) (x := C35) (y := C30) (by kernel_rfl) <| WP.reg (c := C35) (fun E w => condK (Env.val E (.tmp 53)) (KE_S16 E w R) (KE_S17 E w R)) (by kernel_rfl) (Eq.mp (by kernel_rfl) h_7) fun _ _ a hA hK => (WP.condK (c := C30) (x := C31) (y := C36) (o := .tmp 53) (by kernel_rfl) (fun hK => (KE_S16_ok R _ _ hK)) (fun hK => (WP.skip (c := C36) (by kernel_rfl) fun a hA => (KE_S17_ok R _ _ hK) a hA)) hK) a hA) (ha.cons hq1 (ha.cons hq3 (ha.cons hq4 (ha.cons hq5 (ha.cons hq7 (ha.cons hq8 (ha.cons hq9 ha.nil)))))))
noncomputable def C37:=C27.fs
/-- lexer.go:174 -/
abbrev S14 (t1 t2 t3 t4 t5 : Addr) (w : World) (R : Post) : Prop :=
  ∃ t45 : ByteArray, w.cell? t2 = some (.string t45) ∧ 
  ∃ t46 : Int, w.cell? t1 = some (.i t46) ∧ 
  Calls Tryz.prog n_lexer_quoted #[.string t45, .i t46] w fun r_ w1 => ∃ t47_0 : ByteArray, ∃ t47_1 : Int, ∃ t47_2_0 : Int, ∃ t47_2_1 : Int, r_ = .returned (.tuple #[.string t47_0, .i t47_1, .agg #[.i t47_2_0, .i t47_2_1]]) ∧ 
  nwV w1 (.cells #[.i 0, .i 0] ty_lexer_fault) fun w2 => 
  stV w2 (nb w1) (.i t47_2_0) fun w3 => 
  stV w3 ((nb w1).add 1) (.i t47_2_1) fun w4 => 
  S15 t1 t3 t4 t5 t47_0 t47_1 (nb w1) w4 R
def KE_S14 (E : Env) (w : World) (R : Post) : Prop := W.asRef (Env.get? E 1) fun t1 => W.asRef (Env.get? E 2) fun t2 => W.asRef (Env.get? E 3) fun t3 => W.asRef (Env.get? E 4) fun t4 => W.asRef (Env.get? E 5) fun t5 => S14 t1 t2 t3 t4 t5 w R
theorem KE_S14_ok (R : Post) (E : Env) (w : World) (h : KE_S14 E w R) : WP Tryz.prog (cx 138) C27 (Q3 R) E w := by
  obtain ⟨t1, hq1, h_1⟩ := W.asRef_elim h
  obtain ⟨t2, hq2, h_2⟩ := W.asRef_elim h_1
  obtain ⟨t3, hq3, h_3⟩ := W.asRef_elim h_2
  obtain ⟨t4, hq4, h_4⟩ := W.asRef_elim h_3
  obtain ⟨t5, hq5, h_5⟩ := W.asRef_elim h_4
  exact fun a ha => WP.at (n := (cx 138)) (E := [(1, .pointer (some t1)), (2, .pointer (some t2)), (3, .pointer (some t3)), (4, .pointer (some t4)), (5, .pointer (some t5))]) (WP.seq (c := C27) (x := C37) (y := C28) (by kernel_rfl) <| WP.reg (c := C37) (fun E w => KE_S15 E w R) (by kernel_rfl) (Eq.mp (by kernel_rfl) h_5) fun _ _ a hA hK => (WP.seq (c := C28) (x := C29) (y := C32) (by kernel_rfl) (KE_S15_ok R _ _ hK)) a hA) (ha.cons hq1 (ha.cons hq2 (ha.cons hq3 (ha.cons hq4 (ha.cons hq5 ha.nil)))))
noncomputable def C38:=C26.sn
noncomputable def C39:=C38.sn
noncomputable def C40:=C39.fs
noncomputable def C41:=C40.fs
noncomputable def C42:=C41.fs
noncomputable def C43:=C42.fs
noncomputable def C44:=C40.sn
abbrev Q5 (R : Post) : Exit → Act → World → Prop := (Exit.then (wpx Tryz.prog (cx 138) C44 (Exit.inBlock 0 (Q2 R))) (Exit.inBlock 0 (Q2 R)))
abbrev Q6 (R : Post) : Exit → Act → World → Prop := (Exit.inBlock 1 (Q5 R))
/-- the head of the loop, lexer.go:180 -/
def L19 (t1 t2 t3 t4 t5 : Addr) (w : World) (R : Post) : Prop := LP Tryz.prog (cx 138) C43 (Q6 R) [(1, .pointer (some t1)), (2, .pointer (some t2)), (3, .pointer (some t3)), (4, .pointer (some t4)), (5, .pointer (some t5))] w
def KE_L19 (E : Env) (w : World) (R : Post) : Prop := W.asRef (Env.get? E 1) fun t1 => W.asRef (Env.get? E 2) fun t2 => W.asRef (Env.get? E 3) fun t3 => W.asRef (Env.get? E 4) fun t4 => W.asRef (Env.get? E 5) fun t5 => L19 t1 t2 t3 t4 t5 w R
theorem KE_L19_ok (R : Post) (E : Env) (w : World) (h : KE_L19 E w R) : LP Tryz.prog (cx 138) C43 (Q6 R) E w := by
  obtain ⟨t1, hq1, h_1⟩ := W.asRef_elim h
  obtain ⟨t2, hq2, h_2⟩ := W.asRef_elim h_1
  obtain ⟨t3, hq3, h_3⟩ := W.asRef_elim h_2
  obtain ⟨t4, hq4, h_4⟩ := W.asRef_elim h_3
  obtain ⟨t5, hq5, h_5⟩ := W.asRef_elim h_4
  intro a ha
  exact h_5 a (ha.cons hq1 (ha.cons hq2 (ha.cons hq3 (ha.cons hq4 (ha.cons hq5 ha.nil)))))
noncomputable def C45:=C43.sn
noncomputable def C46:=C45.fs
abbrev Q7 (R : Post) : Exit → Act → World → Prop := (Exit.then (LoopWP Tryz.prog (cx 138) C43 (Q6 R)) (Q6 R))
abbrev Q8 (R : Post) : Exit → Act → World → Prop := (Exit.inBlock 2 (Q7 R))
/-- lexer.go:181 -/
abbrev S21 (t1 t2 t3 t4 t5 : Addr) (w : World) (R : Post) : Prop :=
  ∃ t99 : Int, w.cell? t1 = some (.i t99) ∧ 
  stV w t1 (.i (IntKind.wrap .i64 (t99 + 1))) fun w1 => 
  L19 t1 t2 t3 t4 t5 w1 R
def KE_S21 (E : Env) (w : World) (R : Post) : Prop := W.asRef (Env.get? E 1) fun t1 => W.asRef (Env.get? E 2) fun t2 => W.asRef (Env.get? E 3) fun t3 => W.asRef (Env.get? E 4) fun t4 => W.asRef (Env.get? E 5) fun t5 => S21 t1 t2 t3 t4 t5 w R
theorem KE_S21_ok (R : Post) (E : Env) (w : World) (h : KE_S21 E w R) : WP Tryz.prog (cx 138) C46 (Q8 R) E w := by
  obtain ⟨t1, hq1, h_1⟩ := W.asRef_elim h
  obtain ⟨t2, hq2, h_2⟩ := W.asRef_elim h_1
  obtain ⟨t3, hq3, h_3⟩ := W.asRef_elim h_2
  obtain ⟨t4, hq4, h_4⟩ := W.asRef_elim h_3
  obtain ⟨t5, hq5, h_5⟩ := W.asRef_elim h_4
  exact fun a ha => WP.at (n := (cx 138)) (E := [(1, .pointer (some t1)), (2, .pointer (some t2)), (3, .pointer (some t3)), (4, .pointer (some t4)), (5, .pointer (some t5))]) (WP.reg (c := C46) (fun E w => KE_L19 E w R) (by kernel_rfl) (Eq.mp (by kernel_rfl) h_5) fun _ _ a hA hK => KE_L19_ok R _ _ hK a hA) (ha.cons hq1 (ha.cons hq2 (ha.cons hq3 (ha.cons hq4 (ha.cons hq5 ha.nil)))))
noncomputable def C47:=C44.sn
noncomputable def C48:=C47.sn
noncomputable def C49:=C48.fs
noncomputable def C50:=C49.sn
noncomputable def C51:=C50.fs
noncomputable def C52:=C48.sn
abbrev Q9 (R : Post) : Exit → Act → World → Prop := (Exit.then (wpx Tryz.prog (cx 138) C52 (Exit.inBlock 0 (Q2 R))) (Exit.inBlock 0 (Q2 R)))
noncomputable def C53:=C51.fs
noncomputable def C54:=C51.sn
/-- lexer.go:186 -/
abbrev S25 (t3 t4 t5 : Addr) (e11 : Int) (w : World) (R : Post) : Prop :=
  drV w fun w1 => ∃ t118 : Int, w1.cell? (t5.add 2) = some (.i t118) ∧ 
  stV w1 t3 (.i 0) fun w2 => 
  stV w2 (t3.add 1) (.s0) fun w3 => 
  stV w3 (t3.add 2) (.i 0) fun w4 => 
  w4.cell? (t5.add 2) = some (.i t118) ∧ stV w4 t4 (.i e11) fun w5 => 
  stV w5 (t4.add 1) (.i t118) fun w6 => 
  ∃ r3_0 : Int, ∃ r3_1 : ByteArray, ∃ r3_2 : Int, w6.cell? (t3.add 0) = some (.i r3_0) ∧ w6.cell? (t3.add 1) = some (.string r3_1) ∧ w6.cell? (t3.add 2) = some (.i r3_2) ∧ 
  ∃ r4_0 : Int, ∃ r4_1 : Int, w6.cell? (t4.add 0) = some (.i r4_0) ∧ w6.cell? (t4.add 1) = some (.i r4_1) ∧ 
  R (.returned (.tuple #[.agg #[.i r3_0, .string r3_1, .i r3_2], .agg #[.i r4_0, .i r4_1]])) w6
def KE_S25 (E : Env) (w : World) (R : Post) : Prop := W.asRef (Env.get? E 3) fun t3 => W.asRef (Env.get? E 4) fun t4 => W.asRef (Env.get? E 5) fun t5 => W.asInt .i64 (Env.get? E 11) fun e11 => S25 t3 t4 t5 e11 w R
theorem KE_S25_ok (R : Post) (E : Env) (w : World) (h : KE_S25 E w R) : WP Tryz.prog (cx 138) C51 (Q9 R) E w := by
  obtain ⟨t3, hq3, h_1⟩ := W.asRef_elim h
  obtain ⟨t4, hq4, h_2⟩ := W.asRef_elim h_1
  obtain ⟨t5, hq5, h_3⟩ := W.asRef_elim h_2
  obtain ⟨e11, hq11, h_4⟩ := W.asInt_elim h_3
  exact fun a ha => WP.at (n := (cx 138)) (E := [(3, .pointer (some t3)), (4, .pointer (some t4)), (5, .pointer (some t5)), (11, .i e11)]) (WP.seq (c := C51) (x := C53) (y := C54) (by kernel_rfl) <| WP.draw (c := C53) [0, 1, 2, 3, 4, 5, 6] (fun E w => retVC Tryz.prog Tryz.f66 E w (fun v => R (.returned v) w)) (by kernel_rfl) (Eq.mp (by kernel_rfl) h_4) fun _ _ a hA hK => (WP.ret (c := C54) (by kernel_rfl) fun a hA => retVC_sound hA hK) a hA) (ha.cons hq3 (ha.cons hq4 (ha.cons hq5 (ha.cons hq11 ha.nil))))
noncomputable def C55:=C52.fs
noncomputable def C56:=C55.sn
noncomputable def C57:=C56.fs
noncomputable def C58:=C52.sn
abbrev Q10 (R : Post) : Exit → Act → World → Prop := (Exit.then (wpx Tryz.prog (cx 138) C58 (Exit.inBlock 0 (Q2 R))) (Exit.inBlock 0 (Q2 R)))
noncomputable def C59:=C57.fs
noncomputable def C60:=C57.sn
/-- lexer.go:189 -/
abbrev S27 (t1 t3 t4 : Addr) (w : World) (R : Post) : Prop :=
  drV w fun w1 => ∃ t132 : Int, w1.cell? t1 = some (.i t132) ∧ 
  stV w1 t3 (.i 0) fun w2 => 
  stV w2 (t3.add 1) (.s0) fun w3 => 
  stV w3 (t3.add 2) (.i 0) fun w4 => 
  w4.cell? t1 = some (.i t132) ∧ stV w4 t4 (.i 2) fun w5 => 
  stV w5 (t4.add 1) (.i t132) fun w6 => 
  ∃ r3_0 : Int, ∃ r3_1 : ByteArray, ∃ r3_2 : Int, w6.cell? (t3.add 0) = some (.i r3_0) ∧ w6.cell? (t3.add 1) = some (.string r3_1) ∧ w6.cell? (t3.add 2) = some (.i r3_2) ∧ 
  ∃ r4_0 : Int, ∃ r4_1 : Int, w6.cell? (t4.add 0) = some (.i r4_0) ∧ w6.cell? (t4.add 1) = some (.i r4_1) ∧ 
  R (.returned (.tuple #[.agg #[.i r3_0, .string r3_1, .i r3_2], .agg #[.i r4_0, .i r4_1]])) w6
def KE_S27 (E : Env) (w : World) (R : Post) : Prop := W.asRef (Env.get? E 1) fun t1 => W.asRef (Env.get? E 3) fun t3 => W.asRef (Env.get? E 4) fun t4 => S27 t1 t3 t4 w R
theorem KE_S27_ok (R : Post) (E : Env) (w : World) (h : KE_S27 E w R) : WP Tryz.prog (cx 138) C57 (Q10 R) E w := by
  obtain ⟨t1, hq1, h_1⟩ := W.asRef_elim h
  obtain ⟨t3, hq3, h_2⟩ := W.asRef_elim h_1
  obtain ⟨t4, hq4, h_3⟩ := W.asRef_elim h_2
  exact fun a ha => WP.at (n := (cx 138)) (E := [(1, .pointer (some t1)), (3, .pointer (some t3)), (4, .pointer (some t4))]) (WP.seq (c := C57) (x := C59) (y := C60) (by kernel_rfl) <| WP.draw (c := C59) [0, 1, 2, 3, 4] (fun E w => retVC Tryz.prog Tryz.f66 E w (fun v => R (.returned v) w)) (by kernel_rfl) (Eq.mp (by kernel_rfl) h_3) fun _ _ a hA hK => (WP.ret (c := C60) (by kernel_rfl) fun a hA => retVC_sound hA hK) a hA) (ha.cons hq1 (ha.cons hq3 (ha.cons hq4 ha.nil)))
/-- lexer.go:191 -/
abbrev S28 (t3 t4 t5 : Addr) (kind10 : Int) (w : World) (R : Post) : Prop :=
  stV w (t5.add 0) (.i kind10) fun w1 => 
  S9 t3 t4 t5 w1 R
def KE_S28 (E : Env) (w : World) (R : Post) : Prop := W.asRef (Env.get? E 3) fun t3 => W.asRef (Env.get? E 4) fun t4 => W.asRef (Env.get? E 5) fun t5 => W.asInt .i64 (Env.get? E 10) fun kind10 => S28 t3 t4 t5 kind10 w R
theorem KE_S28_ok (R : Post) (E : Env) (w : World) (h : KE_S28 E w R) : WP Tryz.prog (cx 138) C58 (Q3 R) E w := by
  obtain ⟨t3, hq3, h_1⟩ := W.asRef_elim h
  obtain ⟨t4, hq4, h_2⟩ := W.asRef_elim h_1
  obtain ⟨t5, hq5, h_3⟩ := W.asRef_elim h_2
  obtain ⟨kind10, hq10, h_4⟩ := W.asInt_elim h_3
  exact fun a ha => WP.at (n := (cx 138)) (E := [(3, .pointer (some t3)), (4, .pointer (some t4)), (5, .pointer (some t5)), (10, .i kind10)]) (WP.reg (c := C58) (fun E w => KE_S9 E w R) (by kernel_rfl) (Eq.mp (by kernel_rfl) h_4) fun _ _ a hA hK => (KE_S9_ok R _ _ hK) a hA) (ha.cons hq3 (ha.cons hq4 (ha.cons hq5 (ha.cons hq10 ha.nil))))
noncomputable def C61:=C55.fs
noncomputable def C62:=C56.sn
/-- lexer.go:188 -/
abbrev S26 (t1 t2 t3 t4 t5 : Addr) (kind10 : Int) (w : World) (R : Post) : Prop :=
  ∃ t120 : Int, w.cell? t1 = some (.i t120) ∧ 
  ∃ t121 : ByteArray, w.cell? t2 = some (.string t121) ∧ 
  sel (decide (t120 < ((t121.size : Nat) : Int))) (∃ t125 : ByteArray, w.cell? t2 = some (.string t125) ∧ 
  ∃ t126 : Int, w.cell? t1 = some (.i t126) ∧ 
  (0 : Int) ≤ t126 ∧ ∃ t127_b : UInt8, t125[Int.toNat t126]? = some t127_b ∧ Calls Tryz.prog n_strings_IndexByte #[.string (ByteArray.mk #[9, 10, 13, 32, 59, 40, 41, 34]), .int .u8 ((t127_b.toNat : Nat) : Int)] w fun r_ w1 => ∃ t128 : Int, r_ = .returned (.i t128) ∧ 
  sel (decide (t128 < 0)) (S27 t1 t3 t4 w1 R) (S28 t3 t4 t5 kind10 w1 R)) (S28 t3 t4 t5 kind10 w R)
def KE_S26 (E : Env) (w : World) (R : Post) : Prop := W.asRef (Env.get? E 1) fun t1 => W.asRef (Env.get? E 2) fun t2 => W.asRef (Env.get? E 3) fun t3 => W.asRef (Env.get? E 4) fun t4 => W.asRef (Env.get? E 5) fun t5 => W.asInt .i64 (Env.get? E 10) fun kind10 => S26 t1 t2 t3 t4 t5 kind10 w R
theorem KE_S26_ok (R : Post) (E : Env) (w : World) (h : KE_S26 E w R) : WP Tryz.prog (cx 138) C55 (Q10 R) E w := by
  obtain ⟨t1, hq1, h_1⟩ := W.asRef_elim h
  obtain ⟨t2, hq2, h_2⟩ := W.asRef_elim h_1
  obtain ⟨t3, hq3, h_3⟩ := W.asRef_elim h_2
  obtain ⟨t4, hq4, h_4⟩ := W.asRef_elim h_3
  obtain ⟨t5, hq5, h_5⟩ := W.asRef_elim h_4
  obtain ⟨kind10, hq10, h_6⟩ := W.asInt_elim h_5
  exact fun a ha => WP.at (n := (cx 138)) (E := [(1, .pointer (some t1)), (2, .pointer (some t2)), (3, .pointer (some t3)), (4, .pointer (some t4)), (5, .pointer (some t5)), (10, .i kind10)]) (WP.seq (c := C55) (x := C61) (y := C56) (by kernel_rfl) <| WP.reg (c := C61) (fun E w => condK (Env.val E (.tmp 130)) (KE_S27 E w R) (KE_S28 E w R)) (by kernel_rfl) (Eq.mp (by kernel_rfl) h_6) fun _ _ a hA hK => (WP.condK (c := C56) (x := C57) (y := C62) (o := .tmp 130) (by kernel_rfl) (fun hK => (KE_S27_ok R _ _ hK)) (fun hK => (WP.skip (c := C62) (by kernel_rfl) fun a hA => (KE_S28_ok R _ _ hK) a hA)) hK) a hA) (ha.cons hq1 (ha.cons hq2 (ha.cons hq3 (ha.cons hq4 (ha.cons hq5 (ha.cons hq10 ha.nil))))))
noncomputable def C63:=C49.fs
noncomputable def C64:=C50.sn
/-- lexer.go:185 -/
abbrev S24 (t1 t2 t3 t4 t5 : Addr) (kind10 e11 : Int) (w : World) (R : Post) : Prop :=
  sel (e11 != 0) (S25 t3 t4 t5 e11 w R) (S26 t1 t2 t3 t4 t5 kind10 w R)
def KE_S24 (E : Env) (w : World) (R : Post) : Prop := W.asRef (Env.get? E 1) fun t1 => W.asRef (Env.get? E 2) fun t2 => W.asRef (Env.get? E 3) fun t3 => W.asRef (Env.get? E 4) fun t4 => W.asRef (Env.get? E 5) fun t5 => W.asInt .i64 (Env.get? E 10) fun kind10 => W.asInt .i64 (Env.get? E 11) fun e11 => S24 t1 t2 t3 t4 t5 kind10 e11 w R
theorem KE_S24_ok (R : Post) (E : Env) (w : World) (h : KE_S24 E w R) : WP Tryz.prog (cx 138) C49 (Q9 R) E w := by
  obtain ⟨t1, hq1, h_1⟩ := W.asRef_elim h
  obtain ⟨t2, hq2, h_2⟩ := W.asRef_elim h_1
  obtain ⟨t3, hq3, h_3⟩ := W.asRef_elim h_2
  obtain ⟨t4, hq4, h_4⟩ := W.asRef_elim h_3
  obtain ⟨t5, hq5, h_5⟩ := W.asRef_elim h_4
  obtain ⟨kind10, hq10, h_6⟩ := W.asInt_elim h_5
  obtain ⟨e11, hq11, h_7⟩ := W.asInt_elim h_6
  exact fun a ha => WP.at (n := (cx 138)) (E := [(1, .pointer (some t1)), (2, .pointer (some t2)), (3, .pointer (some t3)), (4, .pointer (some t4)), (5, .pointer (some t5)), (10, .i kind10), (11, .i e11)]) (WP.seq (c := C49) (x := C63) (y := C50) (by kernel_rfl) <| WP.reg (c := C63) (fun E w => condK (Env.val E (.tmp 114)) (KE_S25 E w R) (KE_S26 E w R)) (by kernel_rfl) (Eq.mp (by kernel_rfl) h_7) fun _ _ a hA hK => (WP.condK (c := C50) (x := C51) (y := C64) (o := .tmp 114) (by kernel_rfl) (fun hK => (KE_S25_ok R _ _ hK)) (fun hK => (WP.skip (c := C64) (by kernel_rfl) fun a hA => (WP.seq (c := C52) (x := C55) (y := C58) (by kernel_rfl) (KE_S26_ok R _ _ hK)) a hA)) hK) a hA) (ha.cons hq1 (ha.cons hq2 (ha.cons hq3 (ha.cons hq4 (ha.cons hq5 (ha.cons hq10 (ha.cons hq11 ha.nil)))))))
noncomputable def C65:=C47.fs
/-- lexer.go:184 -/
abbrev S23 (t1 t2 t3 t4 t5 : Addr) (w : World) (R : Post) : Prop :=
  ∃ t109 : ByteArray, w.cell? (t5.add 1) = some (.string t109) ∧ 
  Calls Tryz.prog n_lexer_examine #[.string t109] w fun r_ w1 => ∃ t110_0 : Int, ∃ t110_1 : Int, r_ = .returned (.tuple #[.i t110_0, .i t110_1]) ∧ 
  S24 t1 t2 t3 t4 t5 t110_0 t110_1 w1 R
def KE_S23 (E : Env) (w : World) (R : Post) : Prop := W.asRef (Env.get? E 1) fun t1 => W.asRef (Env.get? E 2) fun t2 => W.asRef (Env.get? E 3) fun t3 => W.asRef (Env.get? E 4) fun t4 => W.asRef (Env.get? E 5) fun t5 => S23 t1 t2 t3 t4 t5 w R
theorem KE_S23_ok (R : Post) (E : Env) (w : World) (h : KE_S23 E w R) : WP Tryz.prog (cx 138) C47 (Q3 R) E w := by
  obtain ⟨t1, hq1, h_1⟩ := W.asRef_elim h
  obtain ⟨t2, hq2, h_2⟩ := W.asRef_elim h_1
  obtain ⟨t3, hq3, h_3⟩ := W.asRef_elim h_2
  obtain ⟨t4, hq4, h_4⟩ := W.asRef_elim h_3
  obtain ⟨t5, hq5, h_5⟩ := W.asRef_elim h_4
  exact fun a ha => WP.at (n := (cx 138)) (E := [(1, .pointer (some t1)), (2, .pointer (some t2)), (3, .pointer (some t3)), (4, .pointer (some t4)), (5, .pointer (some t5))]) (WP.seq (c := C47) (x := C65) (y := C48) (by kernel_rfl) <| WP.reg (c := C65) (fun E w => KE_S24 E w R) (by kernel_rfl) (Eq.mp (by kernel_rfl) h_5) fun _ _ a hA hK => (WP.seq (c := C48) (x := C49) (y := C52) (by kernel_rfl) (KE_S24_ok R _ _ hK)) a hA) (ha.cons hq1 (ha.cons hq2 (ha.cons hq3 (ha.cons hq4 (ha.cons hq5 ha.nil)))))
noncomputable def C66:=C44.fs
/-- lexer.go:183 -/
abbrev S22 (t1 t2 t3 t4 t5 : Addr) (w : World) (R : Post) : Prop :=
  ∃ t101 : ByteArray, w.cell? t2 = some (.string t101) ∧ 
  ∃ t103 : Int, w.cell? (t5.add 2) = some (.i t103) ∧ 
  ∃ t104 : Int, w.cell? t1 = some (.i t104) ∧ 
  (0 : Int) ≤ t104 ∧ t104 ≤ ((t101.size : Nat) : Int) ∧ (0 : Int) ≤ t103 ∧ t103 ≤ (((Int.toNat t104) : Nat) : Int) ∧ stV w (t5.add 1) (.string (t101.extract (Int.toNat t103) (Int.toNat t104))) fun w1 => 
  S23 t1 t2 t3 t4 t5 w1 R
def KE_S22 (E : Env) (w : World) (R : Post) : Prop := W.asRef (Env.get? E 1) fun t1 => W.asRef (Env.get? E 2) fun t2 => W.asRef (Env.get? E 3) fun t3 => W.asRef (Env.get? E 4) fun t4 => W.asRef (Env.get? E 5) fun t5 => S22 t1 t2 t3 t4 t5 w R
theorem KE_S22_ok (R : Post) (E : Env) (w : World) (h : KE_S22 E w R) : WP Tryz.prog (cx 138) C44 (Q3 R) E w := by
  obtain ⟨t1, hq1, h_1⟩ := W.asRef_elim h
  obtain ⟨t2, hq2, h_2⟩ := W.asRef_elim h_1
  obtain ⟨t3, hq3, h_3⟩ := W.asRef_elim h_2
  obtain ⟨t4, hq4, h_4⟩ := W.asRef_elim h_3
  obtain ⟨t5, hq5, h_5⟩ := W.asRef_elim h_4
  exact fun a ha => WP.at (n := (cx 138)) (E := [(1, .pointer (some t1)), (2, .pointer (some t2)), (3, .pointer (some t3)), (4, .pointer (some t4)), (5, .pointer (some t5))]) (WP.seq (c := C44) (x := C66) (y := C47) (by kernel_rfl) <| WP.reg (c := C66) (fun E w => KE_S23 E w R) (by kernel_rfl) (Eq.mp (by kernel_rfl) h_5) fun _ _ a hA hK => (KE_S23_ok R _ _ hK) a hA) (ha.cons hq1 (ha.cons hq2 (ha.cons hq3 (ha.cons hq4 (ha.cons hq5 ha.nil)))))
noncomputable def C67:=C43.fs
abbrev Q11 (R : Post) : Exit → Act → World → Prop := (Exit.then (wpx Tryz.prog (cx 138) C45 (Exit.then (LoopWP Tryz.prog (cx 138) C43 (Q6 R)) (Q6 R))) (Exit.then (LoopWP Tryz.prog (cx 138) C43 (Q6 R)) (Q6 R)))
noncomputable def C68:=C67.fs
noncomputable def C69:=C67.sn
noncomputable def C70:=C69.fs
noncomputable def C71:=C69.sn
/-- lexer.go:180 -/
abbrev S20 (t1 t2 t3 t4 t5 : Addr) (w : World) (R : Post) : Prop :=
  ∃ t71 : Int, w.cell? t1 = some (.i t71) ∧ 
  ∃ t72 : ByteArray, w.cell? t2 = some (.string t72) ∧ 
  sel (decide (t71 < ((t72.size : Nat) : Int))) (∃ t76 : ByteArray, w.cell? t2 = some (.string t76) ∧ 
  ∃ t77 : Int, w.cell? t1 = some (.i t77) ∧ 
  (0 : Int) ≤ t77 ∧ ∃ t78_b : UInt8, t76[Int.toNat t77]? = some t78_b ∧ Calls Tryz.prog n_lexer_small_byte #[.int .u8 ((t78_b.toNat : Nat) : Int)] w fun r_ w1 => ∃ t79 : Bool, r_ = .returned (.bool t79) ∧ 
  sel t79 (S21 t1 t2 t3 t4 t5 w1 R) (∃ t81 : ByteArray, w1.cell? t2 = some (.string t81) ∧ 
  ∃ t82 : Int, w1.cell? t1 = some (.i t82) ∧ 
  (0 : Int) ≤ t82 ∧ ∃ t83_b : UInt8, t81[Int.toNat t82]? = some t83_b ∧ Calls Tryz.prog n_lexer_digit_byte #[.int .u8 ((t83_b.toNat : Nat) : Int), .i 10] w1 fun r_ w2 => ∃ t84 : Bool, r_ = .returned (.bool t84) ∧ 
  sel t84 (S21 t1 t2 t3 t4 t5 w2 R) (∃ t87 : ByteArray, w2.cell? t2 = some (.string t87) ∧ 
  ∃ t88 : Int, w2.cell? t1 = some (.i t88) ∧ 
  (0 : Int) ≤ t88 ∧ ∃ t89_b : UInt8, t87[Int.toNat t88]? = some t89_b ∧ sel (((t89_b.toNat : Nat) : Int) == 45) (S21 t1 t2 t3 t4 t5 w2 R) (∃ t93 : ByteArray, w2.cell? t2 = some (.string t93) ∧ 
  ∃ t94 : Int, w2.cell? t1 = some (.i t94) ∧ 
  (0 : Int) ≤ t94 ∧ ∃ t95_b : UInt8, t93[Int.toNat t94]? = some t95_b ∧ sel (((t95_b.toNat : Nat) : Int) == 35) (S21 t1 t2 t3 t4 t5 w2 R) (S22 t1 t2 t3 t4 t5 w2 R))))) (S22 t1 t2 t3 t4 t5 w R)
def KE_S20 (E : Env) (w : World) (R : Post) : Prop := W.asRef (Env.get? E 1) fun t1 => W.asRef (Env.get? E 2) fun t2 => W.asRef (Env.get? E 3) fun t3 => W.asRef (Env.get? E 4) fun t4 => W.asRef (Env.get? E 5) fun t5 => S20 t1 t2 t3 t4 t5 w R
theorem KE_S20_ok (R : Post) (E : Env) (w : World) (h : KE_S20 E w R) : WP Tryz.prog (cx 138) C67 (Q11 R) E w := by
  obtain ⟨t1, hq1, h_1⟩ := W.asRef_elim h
  obtain ⟨t2, hq2, h_2⟩ := W.asRef_elim h_1
  obtain ⟨t3, hq3, h_3⟩ := W.asRef_elim h_2
  obtain ⟨t4, hq4, h_4⟩ := W.asRef_elim h_3
  obtain ⟨t5, hq5, h_5⟩ := W.asRef_elim h_4
  exact fun a ha => WP.at (n := (cx 138)) (E := [(1, .pointer (some t1)), (2, .pointer (some t2)), (3, .pointer (some t3)), (4, .pointer (some t4)), (5, .pointer (some t5))]) (WP.seq (c := C67) (x := C68) (y := C69) (by kernel_rfl) <| WP.reg (c := C68) (fun E w => condK (Env.val E (.tmp 98)) (KE_S21 E w R) (KE_S22 E w R)) (by kernel_rfl) (Eq.mp (by kernel_rfl) h_5) fun _ _ a hA hK => (WP.condK (c := C69) (x := C70) (y := C71) (o := .tmp 98) (by kernel_rfl) (fun hK => (WP.skip (c := C70) (by kernel_rfl) fun a hA => (WP.block (c := C45) (x := C46) (id := 2) (by kernel_rfl) (KE_S21_ok R _ _ hK)) a hA)) (fun hK => (WP.exit (c := C71) (id := 1) (by kernel_rfl) fun a hA => (KE_S22_ok R _ _ hK) a hA)) hK) a hA) (ha.cons hq1 (ha.cons hq2 (ha.cons hq3 (ha.cons hq4 (ha.cons hq5 ha.nil)))))
theorem L19_step (t1 t2 t3 t4 t5 : Addr) (w : World) (R : Post) (h : S20 t1 t2 t3 t4 t5 w R) : L19 t1 t2 t3 t4 t5 w R :=
  LP.step (n := (cx 138)) (c := C43) (E := [(1, .pointer (some t1)), (2, .pointer (some t2)), (3, .pointer (some t3)), (4, .pointer (some t4)), (5, .pointer (some t5))]) (w := w) (WP.seq (c := C43) (x := C67) (y := C45) (by kernel_rfl) (KE_S20_ok R _ _ (Eq.mp (by kernel_rfl) h)))
noncomputable def C72:=C39.sn
noncomputable def C73:=C72.fs
noncomputable def C74:=C72.sn
/-- lexer.go:193 -/
abbrev S29 (t1 t3 t4 : Addr) (w : World) (R : Post) : Prop :=
  drV w fun w1 => ∃ t27 : Int, w1.cell? t1 = some (.i t27) ∧ 
  stV w1 t3 (.i 0) fun w2 => 
  stV w2 (t3.add 1) (.s0) fun w3 => 
  stV w3 (t3.add 2) (.i 0) fun w4 => 
  w4.cell? t1 = some (.i t27) ∧ stV w4 t4 (.i 2) fun w5 => 
  stV w5 (t4.add 1) (.i t27) fun w6 => 
  ∃ r3_0 : Int, ∃ r3_1 : ByteArray, ∃ r3_2 : Int, w6.cell? (t3.add 0) = some (.i r3_0) ∧ w6.cell? (t3.add 1) = some (.string r3_1) ∧ w6.cell? (t3.add 2) = some (.i r3_2) ∧ 
  ∃ r4_0 : Int, ∃ r4_1 : Int, w6.cell? (t4.add 0) = some (.i r4_0) ∧ w6.cell? (t4.add 1) = some (.i r4_1) ∧ 
  R (.returned (.tuple #[.agg #[.i r3_0, .string r3_1, .i r3_2], .agg #[.i r4_0, .i r4_1]])) w6
def KE_S29 (E : Env) (w : World) (R : Post) : Prop := W.asRef (Env.get? E 1) fun t1 => W.asRef (Env.get? E 3) fun t3 => W.asRef (Env.get? E 4) fun t4 => S29 t1 t3 t4 w R
theorem KE_S29_ok (R : Post) (E : Env) (w : World) (h : KE_S29 E w R) : WP Tryz.prog (cx 138) C72 (Q3 R) E w := by
  obtain ⟨t1, hq1, h_1⟩ := W.asRef_elim h
  obtain ⟨t3, hq3, h_2⟩ := W.asRef_elim h_1
  obtain ⟨t4, hq4, h_3⟩ := W.asRef_elim h_2
  exact fun a ha => WP.at (n := (cx 138)) (E := [(1, .pointer (some t1)), (3, .pointer (some t3)), (4, .pointer (some t4))]) (WP.seq (c := C72) (x := C73) (y := C74) (by kernel_rfl) <| WP.draw (c := C73) [0, 1, 2, 3, 4] (fun E w => retVC Tryz.prog Tryz.f66 E w (fun v => R (.returned v) w)) (by kernel_rfl) (Eq.mp (by kernel_rfl) h_3) fun _ _ a hA hK => (WP.ret (c := C74) (by kernel_rfl) fun a hA => retVC_sound hA hK) a hA) (ha.cons hq1 (ha.cons hq3 (ha.cons hq4 ha.nil)))
noncomputable def C75:=C38.fs
/-- lexer.go:179 -/
abbrev S18 (t1 t2 t3 t4 t5 : Addr) (c6 : Int) (w : World) (R : Post) : Prop :=
  Calls Tryz.prog n_lexer_small_byte #[.int .u8 c6] w fun r_ w1 => ∃ t62 : Bool, r_ = .returned (.bool t62) ∧ 
  sel t62 (L19 t1 t2 t3 t4 t5 w1 R) (Calls Tryz.prog n_lexer_digit_byte #[.int .u8 c6, .i 10] w1 fun r_ w2 => ∃ t65 : Bool, r_ = .returned (.bool t65) ∧ 
  sel t65 (L19 t1 t2 t3 t4 t5 w2 R) (sel (c6 == 35) (L19 t1 t2 t3 t4 t5 w2 R) (S29 t1 t3 t4 w2 R)))
def KE_S18 (E : Env) (w : World) (R : Post) : Prop := W.asRef (Env.get? E 1) fun t1 => W.asRef (Env.get? E 2) fun t2 => W.asRef (Env.get? E 3) fun t3 => W.asRef (Env.get? E 4) fun t4 => W.asRef (Env.get? E 5) fun t5 => W.asInt .u8 (Env.get? E 6) fun c6 => S18 t1 t2 t3 t4 t5 c6 w R
theorem KE_S18_ok (R : Post) (E : Env) (w : World) (h : KE_S18 E w R) : WP Tryz.prog (cx 138) C38 (Q3 R) E w := by
  obtain ⟨t1, hq1, h_1⟩ := W.asRef_elim h
  obtain ⟨t2, hq2, h_2⟩ := W.asRef_elim h_1
  obtain ⟨t3, hq3, h_3⟩ := W.asRef_elim h_2
  obtain ⟨t4, hq4, h_4⟩ := W.asRef_elim h_3
  obtain ⟨t5, hq5, h_5⟩ := W.asRef_elim h_4
  obtain ⟨c6, hq6, h_6⟩ := W.asInt_elim h_5
  exact fun a ha => WP.at (n := (cx 138)) (E := [(1, .pointer (some t1)), (2, .pointer (some t2)), (3, .pointer (some t3)), (4, .pointer (some t4)), (5, .pointer (some t5)), (6, .int .u8 c6)]) (WP.seq (c := C38) (x := C75) (y := C39) (by kernel_rfl) <| WP.reg (c := C75) (fun E w => condK (Env.val E (.tmp 60)) (KE_L19 E w R) (KE_S29 E w R)) (by kernel_rfl) (Eq.mp (by kernel_rfl) h_6) fun _ _ a hA hK => (WP.condK (c := C39) (x := C40) (y := C72) (o := .tmp 60) (by kernel_rfl) (fun hK => (WP.seq (c := C40) (x := C41) (y := C44) (by kernel_rfl) (WP.block (c := C41) (x := C42) (id := 1) (by kernel_rfl) (WP.loop (c := C42) (x := C43) (by kernel_rfl) (KE_L19_ok R _ _ hK))))) (fun hK => (KE_S29_ok R _ _ hK)) hK) a hA) (ha.cons hq1 (ha.cons hq2 (ha.cons hq3 (ha.cons hq4 (ha.cons hq5 (ha.cons hq6 ha.nil))))))
noncomputable def C76:=C25.fs
/-- lexer.go:173 -/
abbrev S13 (t1 t2 t3 t4 t5 : Addr) (c6 : Int) (w : World) (R : Post) : Prop :=
  sel (c6 == 34) (S14 t1 t2 t3 t4 t5 w R) (S18 t1 t2 t3 t4 t5 c6 w R)
def KE_S13 (E : Env) (w : World) (R : Post) : Prop := W.asRef (Env.get? E 1) fun t1 => W.asRef (Env.get? E 2) fun t2 => W.asRef (Env.get? E 3) fun t3 => W.asRef (Env.get? E 4) fun t4 => W.asRef (Env.get? E 5) fun t5 => W.asInt .u8 (Env.get? E 6) fun c6 => S13 t1 t2 t3 t4 t5 c6 w R
theorem KE_S13_ok (R : Post) (E : Env) (w : World) (h : KE_S13 E w R) : WP Tryz.prog (cx 138) C25 (Q3 R) E w := by
  obtain ⟨t1, hq1, h_1⟩ := W.asRef_elim h
  obtain ⟨t2, hq2, h_2⟩ := W.asRef_elim h_1
  obtain ⟨t3, hq3, h_3⟩ := W.asRef_elim h_2
  obtain ⟨t4, hq4, h_4⟩ := W.asRef_elim h_3
  obtain ⟨t5, hq5, h_5⟩ := W.asRef_elim h_4
  obtain ⟨c6, hq6, h_6⟩ := W.asInt_elim h_5
  exact fun a ha => WP.at (n := (cx 138)) (E := [(1, .pointer (some t1)), (2, .pointer (some t2)), (3, .pointer (some t3)), (4, .pointer (some t4)), (5, .pointer (some t5)), (6, .int .u8 c6)]) (WP.seq (c := C25) (x := C76) (y := C26) (by kernel_rfl) <| WP.reg (c := C76) (fun E w => condK (Env.val E (.tmp 41)) (KE_S14 E w R) (KE_S18 E w R)) (by kernel_rfl) (Eq.mp (by kernel_rfl) h_6) fun _ _ a hA hK => (WP.condK (c := C26) (x := C27) (y := C38) (o := .tmp 41) (by kernel_rfl) (fun hK => (KE_S14_ok R _ _ hK)) (fun hK => (KE_S18_ok R _ _ hK)) hK) a hA) (ha.cons hq1 (ha.cons hq2 (ha.cons hq3 (ha.cons hq4 (ha.cons hq5 (ha.cons hq6 ha.nil))))))
noncomputable def C77:=C20.fs
/-- lexer.go:170 -/
abbrev S10 (t1 t2 t3 t4 t5 : Addr) (c6 : Int) (w : World) (R : Post) : Prop :=
  sel (c6 == 41) (S11 t1 t3 t4 t5 w R) (S13 t1 t2 t3 t4 t5 c6 w R)
def KE_S10 (E : Env) (w : World) (R : Post) : Prop := W.asRef (Env.get? E 1) fun t1 => W.asRef (Env.get? E 2) fun t2 => W.asRef (Env.get? E 3) fun t3 => W.asRef (Env.get? E 4) fun t4 => W.asRef (Env.get? E 5) fun t5 => W.asInt .u8 (Env.get? E 6) fun c6 => S10 t1 t2 t3 t4 t5 c6 w R
theorem KE_S10_ok (R : Post) (E : Env) (w : World) (h : KE_S10 E w R) : WP Tryz.prog (cx 138) C20 (Q3 R) E w := by
  obtain ⟨t1, hq1, h_1⟩ := W.asRef_elim h
  obtain ⟨t2, hq2, h_2⟩ := W.asRef_elim h_1
  obtain ⟨t3, hq3, h_3⟩ := W.asRef_elim h_2
  obtain ⟨t4, hq4, h_4⟩ := W.asRef_elim h_3
  obtain ⟨t5, hq5, h_5⟩ := W.asRef_elim h_4
  obtain ⟨c6, hq6, h_6⟩ := W.asInt_elim h_5
  exact fun a ha => WP.at (n := (cx 138)) (E := [(1, .pointer (some t1)), (2, .pointer (some t2)), (3, .pointer (some t3)), (4, .pointer (some t4)), (5, .pointer (some t5)), (6, .int .u8 c6)]) (WP.seq (c := C20) (x := C77) (y := C21) (by kernel_rfl) <| WP.reg (c := C77) (fun E w => condK (Env.val E (.tmp 35)) (KE_S11 E w R) (KE_S13 E w R)) (by kernel_rfl) (Eq.mp (by kernel_rfl) h_6) fun _ _ a hA hK => (WP.condK (c := C21) (x := C22) (y := C25) (o := .tmp 35) (by kernel_rfl) (fun hK => (KE_S11_ok R _ _ hK)) (fun hK => (KE_S13_ok R _ _ hK)) hK) a hA) (ha.cons hq1 (ha.cons hq2 (ha.cons hq3 (ha.cons hq4 (ha.cons hq5 (ha.cons hq6 ha.nil))))))
noncomputable def C78:=C15.fs
/-- lexer.go:167 -/
abbrev S6 (t1 t2 t3 t4 t5 : Addr) (c6 : Int) (w : World) (R : Post) : Prop :=
  sel (c6 == 40) (S7 t1 t3 t4 t5 w R) (S10 t1 t2 t3 t4 t5 c6 w R)
def KE_S6 (E : Env) (w : World) (R : Post) : Prop := W.asRef (Env.get? E 1) fun t1 => W.asRef (Env.get? E 2) fun t2 => W.asRef (Env.get? E 3) fun t3 => W.asRef (Env.get? E 4) fun t4 => W.asRef (Env.get? E 5) fun t5 => W.asInt .u8 (Env.get? E 6) fun c6 => S6 t1 t2 t3 t4 t5 c6 w R
theorem KE_S6_ok (R : Post) (E : Env) (w : World) (h : KE_S6 E w R) : WP Tryz.prog (cx 138) C15 (Q3 R) E w := by
  obtain ⟨t1, hq1, h_1⟩ := W.asRef_elim h
  obtain ⟨t2, hq2, h_2⟩ := W.asRef_elim h_1
  obtain ⟨t3, hq3, h_3⟩ := W.asRef_elim h_2
  obtain ⟨t4, hq4, h_4⟩ := W.asRef_elim h_3
  obtain ⟨t5, hq5, h_5⟩ := W.asRef_elim h_4
  obtain ⟨c6, hq6, h_6⟩ := W.asInt_elim h_5
  exact fun a ha => WP.at (n := (cx 138)) (E := [(1, .pointer (some t1)), (2, .pointer (some t2)), (3, .pointer (some t3)), (4, .pointer (some t4)), (5, .pointer (some t5)), (6, .int .u8 c6)]) (WP.seq (c := C15) (x := C78) (y := C16) (by kernel_rfl) <| WP.reg (c := C78) (fun E w => condK (Env.val E (.tmp 29)) (KE_S7 E w R) (KE_S10 E w R)) (by kernel_rfl) (Eq.mp (by kernel_rfl) h_6) fun _ _ a hA hK => (WP.condK (c := C16) (x := C17) (y := C20) (o := .tmp 29) (by kernel_rfl) (fun hK => (KE_S7_ok R _ _ hK)) (fun hK => (KE_S10_ok R _ _ hK)) hK) a hA) (ha.cons hq1 (ha.cons hq2 (ha.cons hq3 (ha.cons hq4 (ha.cons hq5 (ha.cons hq6 ha.nil))))))
noncomputable def C79:=C13.fs
/-- lexer.go:166 -/
abbrev S5 (t1 t2 t3 t4 t5 : Addr) (w : World) (R : Post) : Prop :=
  ∃ t23 : ByteArray, w.cell? t2 = some (.string t23) ∧ 
  ∃ t24 : Int, w.cell? t1 = some (.i t24) ∧ 
  (0 : Int) ≤ t24 ∧ ∃ t25_b : UInt8, t23[Int.toNat t24]? = some t25_b ∧ S6 t1 t2 t3 t4 t5 ((t25_b.toNat : Nat) : Int) w R
def KE_S5 (E : Env) (w : World) (R : Post) : Prop := W.asRef (Env.get? E 1) fun t1 => W.asRef (Env.get? E 2) fun t2 => W.asRef (Env.get? E 3) fun t3 => W.asRef (Env.get? E 4) fun t4 => W.asRef (Env.get? E 5) fun t5 => S5 t1 t2 t3 t4 t5 w R
theorem KE_S5_ok (R : Post) (E : Env) (w : World) (h : KE_S5 E w R) : WP Tryz.prog (cx 138) C13 (Q2 R) E w := by
  obtain ⟨t1, hq1, h_1⟩ := W.asRef_elim h
  obtain ⟨t2, hq2, h_2⟩ := W.asRef_elim h_1
  obtain ⟨t3, hq3, h_3⟩ := W.asRef_elim h_2
  obtain ⟨t4, hq4, h_4⟩ := W.asRef_elim h_3
  obtain ⟨t5, hq5, h_5⟩ := W.asRef_elim h_4
  exact fun a ha => WP.at (n := (cx 138)) (E := [(1, .pointer (some t1)), (2, .pointer (some t2)), (3, .pointer (some t3)), (4, .pointer (some t4)), (5, .pointer (some t5))]) (WP.seq (c := C13) (x := C79) (y := C14) (by kernel_rfl) <| WP.reg (c := C79) (fun E w => KE_S6 E w R) (by kernel_rfl) (Eq.mp (by kernel_rfl) h_5) fun _ _ a hA hK => (WP.block (c := C14) (x := C15) (id := 0) (by kernel_rfl) (KE_S6_ok R _ _ hK)) a hA) (ha.cons hq1 (ha.cons hq2 (ha.cons hq3 (ha.cons hq4 (ha.cons hq5 ha.nil)))))
noncomputable def C80:=C6.fs
/-- lexer.go:165 -/
abbrev S4 (t1 t2 t3 t4 : Addr) (w : World) (R : Post) : Prop :=
  ∃ t21 : Int, w.cell? t1 = some (.i t21) ∧ 
  nwV w (.cells #[.i 0, .s0, .i 0] ty_lexer_Token) fun w1 => 
  stV w1 (nb w) (.i 0) fun w2 => 
  stV w2 ((nb w).add 1) (.s0) fun w3 => 
  stV w3 ((nb w).add 2) (.i t21) fun w4 => 
  S5 t1 t2 t3 t4 (nb w) w4 R
def KE_S4 (E : Env) (w : World) (R : Post) : Prop := W.asRef (Env.get? E 1) fun t1 => W.asRef (Env.get? E 2) fun t2 => W.asRef (Env.get? E 3) fun t3 => W.asRef (Env.get? E 4) fun t4 => S4 t1 t2 t3 t4 w R
theorem KE_S4_ok (R : Post) (E : Env) (w : World) (h : KE_S4 E w R) : WP Tryz.prog (cx 138) C6 (Q1 R) E w := by
  obtain ⟨t1, hq1, h_1⟩ := W.asRef_elim h
  obtain ⟨t2, hq2, h_2⟩ := W.asRef_elim h_1
  obtain ⟨t3, hq3, h_3⟩ := W.asRef_elim h_2
  obtain ⟨t4, hq4, h_4⟩ := W.asRef_elim h_3
  exact fun a ha => WP.at (n := (cx 138)) (E := [(1, .pointer (some t1)), (2, .pointer (some t2)), (3, .pointer (some t3)), (4, .pointer (some t4))]) (WP.seq (c := C6) (x := C80) (y := C9) (by kernel_rfl) <| WP.reg (c := C80) (fun E w => KE_S5 E w R) (by kernel_rfl) (Eq.mp (by kernel_rfl) h_4) fun _ _ a hA hK => (WP.seq (c := C9) (x := C13) (y := C10) (by kernel_rfl) (KE_S5_ok R _ _ hK)) a hA) (ha.cons hq1 (ha.cons hq2 (ha.cons hq3 (ha.cons hq4 ha.nil))))
noncomputable def C81:=C3.fs
noncomputable def C82:=C4.sn
/-- lexer.go:162 -/
abbrev S2 (t1 t2 t3 t4 : Addr) (w : World) (R : Post) : Prop :=
  ∃ t14 : Int, w.cell? t1 = some (.i t14) ∧ 
  ∃ t15 : ByteArray, w.cell? t2 = some (.string t15) ∧ 
  sel (t14 == ((t15.size : Nat) : Int)) (S3 t1 t3 t4 w R) (S4 t1 t2 t3 t4 w R)
def KE_S2 (E : Env) (w : World) (R : Post) : Prop := W.asRef (Env.get? E 1) fun t1 => W.asRef (Env.get? E 2) fun t2 => W.asRef (Env.get? E 3) fun t3 => W.asRef (Env.get? E 4) fun t4 => S2 t1 t2 t3 t4 w R
theorem KE_S2_ok (R : Post) (E : Env) (w : World) (h : KE_S2 E w R) : WP Tryz.prog (cx 138) C3 (Q0 R) E w := by
  obtain ⟨t1, hq1, h_1⟩ := W.asRef_elim h
  obtain ⟨t2, hq2, h_2⟩ := W.asRef_elim h_1
  obtain ⟨t3, hq3, h_3⟩ := W.asRef_elim h_2
  obtain ⟨t4, hq4, h_4⟩ := W.asRef_elim h_3
  exact fun a ha => WP.at (n := (cx 138)) (E := [(1, .pointer (some t1)), (2, .pointer (some t2)), (3, .pointer (some t3)), (4, .pointer (some t4))]) (WP.seq (c := C3) (x := C81) (y := C4) (by kernel_rfl) <| WP.reg (c := C81) (fun E w => condK (Env.val E (.tmp 17)) (KE_S3 E w R) (KE_S4 E w R)) (by kernel_rfl) (Eq.mp (by kernel_rfl) h_4) fun _ _ a hA hK => (WP.condK (c := C4) (x := C5) (y := C82) (o := .tmp 17) (by kernel_rfl) (fun hK => (KE_S3_ok R _ _ hK)) (fun hK => (WP.skip (c := C82) (by kernel_rfl) fun a hA => (KE_S4_ok R _ _ hK) a hA)) hK) a hA) (ha.cons hq1 (ha.cons hq2 (ha.cons hq3 (ha.cons hq4 ha.nil))))
noncomputable def C83:=C1.fs
/-- lexer.go:161 -/
abbrev S1 (t0 t1 t2 t3 t4 : Addr) (w : World) (R : Post) : Prop :=
  ∃ t12 : Fv, w.cell? t0 = some (t12.v) ∧ 
  AndT (callable Tryz.prog t12.n) (Calls Tryz.prog t12.n (t12.bs ++ #[] ++ t12.cs) w fun r_ w1 => r_ = .returned (.tuple #[]) ∧ 
  S2 t1 t2 t3 t4 w1 R)
def KE_S1 (E : Env) (w : World) (R : Post) : Prop := W.asRef (Env.get? E 0) fun t0 => W.asRef (Env.get? E 1) fun t1 => W.asRef (Env.get? E 2) fun t2 => W.asRef (Env.get? E 3) fun t3 => W.asRef (Env.get? E 4) fun t4 => S1 t0 t1 t2 t3 t4 w R
theorem KE_S1_ok (R : Post) (E : Env) (w : World) (h : KE_S1 E w R) : WP Tryz.prog (cx 138) C1 (Q1 R) E w := by
  obtain ⟨t0, hq0, h_1⟩ := W.asRef_elim h
  obtain ⟨t1, hq1, h_2⟩ := W.asRef_elim h_1
  obtain ⟨t2, hq2, h_3⟩ := W.asRef_elim h_2
  obtain ⟨t3, hq3, h_4⟩ := W.asRef_elim h_3
  obtain ⟨t4, hq4, h_5⟩ := W.asRef_elim h_4
  exact fun a ha => WP.at (n := (cx 138)) (E := [(0, .pointer (some t0)), (1, .pointer (some t1)), (2, .pointer (some t2)), (3, .pointer (some t3)), (4, .pointer (some t4))]) (WP.seq (c := C1) (x := C83) (y := C2) (by kernel_rfl) <| WP.reg (c := C83) (fun E w => KE_S2 E w R) (by kernel_rfl) (Eq.mp (by kernel_rfl) h_5) fun _ _ a hA hK => (WP.seq (c := C2) (x := C3) (y := C6) (by kernel_rfl) (KE_S2_ok R _ _ hK)) a hA) (ha.cons hq0 (ha.cons hq1 (ha.cons hq2 (ha.cons hq3 (ha.cons hq4 ha.nil)))))
noncomputable def C84:=C0.fs
/-- lexer.go:160 -/
abbrev S0 (t0 t1 t2 : Addr) (w : World) (R : Post) : Prop :=
  nwV w (.cells #[.i 0, .s0, .i 0] ty_lexer_Token) fun w1 => 
  nwV w1 (.cells #[.i 0, .i 0] ty_lexer_fault) fun w2 => 
  S1 t0 t1 t2 (nb w) (nb w1) w2 R
def KE_S0 (E : Env) (w : World) (R : Post) : Prop := W.asRef (Env.get? E 0) fun t0 => W.asRef (Env.get? E 1) fun t1 => W.asRef (Env.get? E 2) fun t2 => S0 t0 t1 t2 w R
theorem KE_S0_ok (R : Post) (E : Env) (w : World) (h : KE_S0 E w R) : WP Tryz.prog (cx 138) C0 (Q1 R) E w := by
  obtain ⟨t0, hq0, h_1⟩ := W.asRef_elim h
  obtain ⟨t1, hq1, h_2⟩ := W.asRef_elim h_1
  obtain ⟨t2, hq2, h_3⟩ := W.asRef_elim h_2
  exact fun a ha => WP.at (n := (cx 138)) (E := [(0, .pointer (some t0)), (1, .pointer (some t1)), (2, .pointer (some t2))]) (WP.seq (c := C0) (x := C84) (y := C1) (by kernel_rfl) <| WP.reg (c := C84) (fun E w => KE_S1 E w R) (by kernel_rfl) (Eq.mp (by kernel_rfl) h_3) fun _ _ a hA hK => (KE_S1_ok R _ _ hK) a hA) (ha.cons hq0 (ha.cons hq1 (ha.cons hq2 ha.nil)))
/-- enthymeme/lexer.reader$2 -/
theorem ok (t0 t1 t2 : Addr) (w : World) (R : Post) (h : S0 t0 t1 t2 w R) : Calls Tryz.prog n_lexer_reader_2 #[.pointer (some t0), .pointer (some t1), .pointer (some t2)] w R :=
  calls_of_WP' (R := R) (fn := Tryz.f66) (c := C0) (args := [.pointer (some t0), .pointer (some t1), .pointer (some t2)]) (by kernel_rfl) (by kernel_rfl) (by kernel_rfl) (KE_S0_ok R _ _ (Eq.mp (by kernel_rfl) h))
end lexer_reader_2
namespace lexer_each
noncomputable def C0 : Code := (Tryz.f41.body).getD .skip
noncomputable def C1:=C0.sn
abbrev Q0 (R : Post) : Exit → Act → World → Prop := (bodyPost Tryz.prog Tryz.f41 R)
noncomputable def C2:=C1.fs
noncomputable def C3:=C1.sn
/-- lexer.go:201 -/
abbrev S1 (next1 : Addr) (w : World) (R : Post) : Prop :=
  R (.returned (.func (.func n_lexer_each_1) #[] #[.pointer (some next1)])) w
def KE_S1 (E : Env) (w : World) (R : Post) : Prop := W.asRef (Env.get? E 1) fun next1 => S1 next1 w R
theorem KE_S1_ok (R : Post) (E : Env) (w : World) (h : KE_S1 E w R) : WP Tryz.prog (cx 4) C1 (Q0 R) E w := by
  obtain ⟨next1, hq1, h_1⟩ := W.asRef_elim h
  exact fun a ha => WP.at (n := (cx 4)) (E := [(1, .pointer (some next1))]) (WP.seq (c := C1) (x := C2) (y := C3) (by kernel_rfl) <| WP.reg (c := C2) (fun E w => retVC Tryz.prog Tryz.f41 E w (fun v => R (.returned v) w)) (by kernel_rfl) (Eq.mp (by kernel_rfl) h_1) fun _ _ a hA hK => (WP.ret (c := C3) (by kernel_rfl) fun a hA => retVC_sound hA hK) a hA) (ha.cons hq1 ha.nil)
noncomputable def C4:=C0.fs
/-- lexer.go:200 -/
abbrev S0 (next0 : Fv) (w : World) (R : Post) : Prop :=
  nwV w (.cells #[next0.v] ty_func_lexer_Token_lexer_fault) fun w1 => 
  S1 (nb w) w1 R
def KE_S0 (E : Env) (w : World) (R : Post) : Prop := W.asFn (Env.get? E 0) fun next0 => S0 next0 w R
theorem KE_S0_ok (R : Post) (E : Env) (w : World) (h : KE_S0 E w R) : WP Tryz.prog (cx 4) C0 (Q0 R) E w := by
  obtain ⟨next0, hq0, h_1⟩ := W.asFn_elim h
  exact fun a ha => WP.at (n := (cx 4)) (E := [(0, next0.v)]) (WP.seq (c := C0) (x := C4) (y := C1) (by kernel_rfl) <| WP.reg (c := C4) (fun E w => KE_S1 E w R) (by kernel_rfl) (Eq.mp (by kernel_rfl) h_1) fun _ _ a hA hK => (KE_S1_ok R _ _ hK) a hA) (ha.cons hq0 ha.nil)
/-- enthymeme/lexer.each -/
theorem ok (next0 : Fv) (w : World) (R : Post) (h : S0 next0 w R) : Calls Tryz.prog n_lexer_each #[next0.v] w R :=
  calls_of_WP' (R := R) (fn := Tryz.f41) (c := C0) (args := [next0.v]) (by kernel_rfl) (by kernel_rfl) (by kernel_rfl) (KE_S0_ok R _ _ (Eq.mp (by kernel_rfl) h))
end lexer_each
namespace lexer_each_1
noncomputable def C0 : Code := (Tryz.f63.body).getD .skip
noncomputable def C1:=C0.fs
noncomputable def C2:=C1.fs
abbrev Q0 (R : Post) : Exit → Act → World → Prop := (bodyPost Tryz.prog Tryz.f63 R)
abbrev Q1 (R : Post) : Exit → Act → World → Prop := (Exit.inBlock 0 (Q0 R))
/-- the head of the loop, lexer.go:203 -/
def L0 (yield0 : Nat) (t1 : Addr) (w : World) (R : Post) : Prop := LP Tryz.prog (cx 25) C2 (Q1 R) [(0, .func (.yield yield0) #[] #[]), (1, .pointer (some t1))] w
def KE_L0 (E : Env) (w : World) (R : Post) : Prop := W.asYield (Env.get? E 0) fun yield0 => W.asRef (Env.get? E 1) fun t1 => L0 yield0 t1 w R
theorem KE_L0_ok (R : Post) (E : Env) (w : World) (h : KE_L0 E w R) : LP Tryz.prog (cx 25) C2 (Q1 R) E w := by
  obtain ⟨yield0, hq0, h_1⟩ := W.asYield_elim h
  obtain ⟨t1, hq1, h_2⟩ := W.asRef_elim h_1
  intro a ha
  exact h_2 a (ha.cons hq0 (ha.cons hq1 ha.nil))
noncomputable def C3:=C2.fs
noncomputable def C4:=C3.sn
abbrev Q2 (R : Post) : Exit → Act → World → Prop := (Exit.then (LoopWP Tryz.prog (cx 25) C2 (Q1 R)) (Q1 R))
abbrev Q3 (R : Post) : Exit → Act → World → Prop := (Exit.inBlock 1 (Q2 R))
noncomputable def C5:=C4.fs
noncomputable def C6:=C4.sn
noncomputable def C7:=C6.fs
noncomputable def C8:=C6.sn
/-- lexer.go:204 -/
abbrev S2 (yield0 : Nat) (t1 t3 f4 : Addr) (w : World) (R : Post) : Prop :=
  ∃ t11_0 : Int, ∃ t11_1 : ByteArray, ∃ t11_2 : Int, w.cell? (t3.add 0) = some (.i t11_0) ∧ w.cell? (t3.add 1) = some (.string t11_1) ∧ w.cell? (t3.add 2) = some (.i t11_2) ∧ 
  ∃ t12_0 : Int, ∃ t12_1 : Int, w.cell? (f4.add 0) = some (.i t12_0) ∧ w.cell? (f4.add 1) = some (.i t12_1) ∧ 
  yieldB Tryz.prog yield0 #[.agg #[.i t11_0, .string t11_1, .i t11_2], .agg #[.i t12_0, .i t12_1]] w fun (t13 : Bool) w1 => sel (!t13) (R (.returned (.tuple #[])) w1) (∃ t17 : Int, w1.cell? (f4.add 0) = some (.i t17) ∧ 
  sel (t17 != 0) (R (.returned (.tuple #[])) w1) (∃ t22 : Int, w1.cell? (t3.add 0) = some (.i t22) ∧ 
  sel (t22 == 6) (R (.returned (.tuple #[])) w1) (L0 yield0 t1 w1 R)))
def KE_S2 (E : Env) (w : World) (R : Post) : Prop := W.asYield (Env.get? E 0) fun yield0 => W.asRef (Env.get? E 1) fun t1 => W.asRef (Env.get? E 3) fun t3 => W.asRef (Env.get? E 4) fun f4 => S2 yield0 t1 t3 f4 w R
theorem KE_S2_ok (R : Post) (E : Env) (w : World) (h : KE_S2 E w R) : WP Tryz.prog (cx 25) C4 (Q3 R) E w := by
  obtain ⟨yield0, hq0, h_1⟩ := W.asYield_elim h
  obtain ⟨t1, hq1, h_2⟩ := W.asRef_elim h_1
  obtain ⟨t3, hq3, h_3⟩ := W.asRef_elim h_2
  obtain ⟨f4, hq4, h_4⟩ := W.asRef_elim h_3
  exact fun a ha => WP.at (n := (cx 25)) (E := [(0, .func (.yield yield0) #[] #[]), (1, .pointer (some t1)), (3, .pointer (some t3)), (4, .pointer (some f4))]) (WP.seq (c := C4) (x := C5) (y := C6) (by kernel_rfl) <| WP.reg (c := C5) (fun E w => condK (Env.val E (.tmp 24)) (retVC Tryz.prog Tryz.f63 E w (fun v => R (.returned v) w)) (KE_L0 E w R)) (by kernel_rfl) (Eq.mp (by kernel_rfl) h_4) fun _ _ a hA hK => (WP.condK (c := C6) (x := C7) (y := C8) (o := .tmp 24) (by kernel_rfl) (fun hK => (WP.ret (c := C7) (by kernel_rfl) fun a hA => retVC_sound hA hK)) (fun hK => (WP.skip (c := C8) (by kernel_rfl) fun a hA => KE_L0_ok R _ _ hK a hA)) hK) a hA) (ha.cons hq0 (ha.cons hq1 (ha.cons hq3 (ha.cons hq4 ha.nil))))
noncomputable def C9:=C3.fs
/-- lexer.go:203 -/
abbrev S1 (yield0 : Nat) (t1 : Addr) (w : World) (R : Post) : Prop :=
  ∃ t6 : Fv, w.cell? t1 = some (t6.v) ∧ 
  AndT (callable Tryz.prog t6.n) (Calls Tryz.prog t6.n (t6.bs ++ #[] ++ t6.cs) w fun r_ w1 => ∃ t7_0_0 : Int, ∃ t7_0_1 : ByteArray, ∃ t7_0_2 : Int, ∃ t7_1_0 : Int, ∃ t7_1_1 : Int, r_ = .returned (.tuple #[.agg #[.i t7_0_0, .string t7_0_1, .i t7_0_2], .agg #[.i t7_1_0, .i t7_1_1]]) ∧ 
  nwV w1 (.cells #[.i 0, .s0, .i 0] ty_lexer_Token) fun w2 => 
  nwV w2 (.cells #[.i 0, .i 0] ty_lexer_fault) fun w3 => 
  stV w3 (nb w1) (.i t7_0_0) fun w4 => 
  stV w4 ((nb w1).add 1) (.string t7_0_1) fun w5 => 
  stV w5 ((nb w1).add 2) (.i t7_0_2) fun w6 => 
  stV w6 (nb w2) (.i t7_1_0) fun w7 => 
  stV w7 ((nb w2).add 1) (.i t7_1_1) fun w8 => 
  S2 yield0 t1 (nb w1) (nb w2) w8 R)
def KE_S1 (E : Env) (w : World) (R : Post) : Prop := W.asYield (Env.get? E 0) fun yield0 => W.asRef (Env.get? E 1) fun t1 => S1 yield0 t1 w R
theorem KE_S1_ok (R : Post) (E : Env) (w : World) (h : KE_S1 E w R) : WP Tryz.prog (cx 25) C3 (Q3 R) E w := by
  obtain ⟨yield0, hq0, h_1⟩ := W.asYield_elim h
  obtain ⟨t1, hq1, h_2⟩ := W.asRef_elim h_1
  exact fun a ha => WP.at (n := (cx 25)) (E := [(0, .func (.yield yield0) #[] #[]), (1, .pointer (some t1))]) (WP.seq (c := C3) (x := C9) (y := C4) (by kernel_rfl) <| WP.reg (c := C9) (fun E w => KE_S2 E w R) (by kernel_rfl) (Eq.mp (by kernel_rfl) h_2) fun _ _ a hA hK => (KE_S2_ok R _ _ hK) a hA) (ha.cons hq0 (ha.cons hq1 ha.nil))
theorem L0_step (yield0 : Nat) (t1 : Addr) (w : World) (R : Post) (h : S1 yield0 t1 w R) : L0 yield0 t1 w R :=
  LP.step (n := (cx 25)) (c := C2) (E := [(0, .func (.yield yield0) #[] #[]), (1, .pointer (some t1))]) (w := w) (WP.block (c := C2) (x := C3) (id := 1) (by kernel_rfl) (KE_S1_ok R _ _ (Eq.mp (by kernel_rfl) h)))
/-- enthymeme/lexer.each$1 -/
theorem ok (yield0 : Nat) (t1 : Addr) (w : World) (R : Post) (h : L0 yield0 t1 w R) : Calls Tryz.prog n_lexer_each_1 #[.func (.yield yield0) #[] #[], .pointer (some t1)] w R :=
  calls_of_WP' (R := R) (fn := Tryz.f63) (c := C0) (args := [.func (.yield yield0) #[] #[], .pointer (some t1)]) (by kernel_rfl) (by kernel_rfl) (by kernel_rfl) (WP.block (c := C0) (x := C1) (id := 0) (by kernel_rfl) (WP.loop (c := C1) (x := C2) (by kernel_rfl) (KE_L0_ok R _ _ (Eq.mp (by kernel_rfl) h))))
end lexer_each_1
namespace lexer_Tokens
noncomputable def C0 : Code := (Tryz.f20.body).getD .skip
noncomputable def C1:=C0.sn
noncomputable def C2:=C1.fs
noncomputable def C3:=C2.sn
noncomputable def C4:=C3.fs
noncomputable def C5:=C1.sn
abbrev Q0 (R : Post) : Exit → Act → World → Prop := (Exit.then (wpx Tryz.prog (cx 28) C5 (bodyPostM Fence.wide 0 Tryz.prog Tryz.f20 R)) (bodyPostM Fence.wide 0 Tryz.prog Tryz.f20 R))
noncomputable def C6:=C4.fs
noncomputable def C7:=C4.sn
/-- lexer.go:214 -/
abbrev S2 (t2 t3 t4 : Addr) (w : World) (R : Post) : Prop :=
  stV w t2 (.slice none 0 0) fun w1 => 
  stV w1 t3 (.i 65536) fun w2 => 
  stV w2 t4 (.i 4) fun w3 => 
  ∃ r2 : Sl, w3.cell? t2 = some (r2.v) ∧ 
  ∃ r3 : Int, w3.cell? t3 = some (.i r3) ∧ 
  ∃ r4 : Int, w3.cell? t4 = some (.i r4) ∧ 
  R (.returned (.tuple #[r2.v, .i r3, .i r4])) w3
def KE_S2 (E : Env) (w : World) (R : Post) : Prop := W.asRef (Env.get? E 2) fun t2 => W.asRef (Env.get? E 3) fun t3 => W.asRef (Env.get? E 4) fun t4 => S2 t2 t3 t4 w R
theorem KE_S2_ok (R : Post) (E : Env) (w : World) (h : KE_S2 E w R) : WP Tryz.prog (cx 28) C4 (Q0 R) E w := by
  obtain ⟨t2, hq2, h_1⟩ := W.asRef_elim h
  obtain ⟨t3, hq3, h_2⟩ := W.asRef_elim h_1
  obtain ⟨t4, hq4, h_3⟩ := W.asRef_elim h_2
  exact fun a ha => WP.at (n := (cx 28)) (E := [(2, .pointer (some t2)), (3, .pointer (some t3)), (4, .pointer (some t4))]) (WP.seq (c := C4) (x := C6) (y := C7) (by kernel_rfl) <| WP.reg (c := C6) (fun E w => retVC Tryz.prog Tryz.f20 E w (fun v => R (.returned v) w)) (by kernel_rfl) (Eq.mp (by kernel_rfl) h_3) fun _ _ a hA hK => (WP.ret (c := C7) (by kernel_rfl) fun a hA => retM_sound hA hK) a hA) (ha.cons hq2 (ha.cons hq3 (ha.cons hq4 ha.nil)))
noncomputable def C8:=C5.sn
noncomputable def C9:=C8.fs
noncomputable def C10:=C9.sn
noncomputable def C11:=C10.fs
noncomputable def C12 := W.Code.asn C11
noncomputable def C13 := W.Code.bdy C11
noncomputable def C14:=C13.fs
noncomputable def C15:=C14.fs
noncomputable def C16:=C15.sn
noncomputable def C17:=C16.fs
abbrev Q1 (l_ : Nat) (rec_ : Loop) (R : Post) : Exit → Act → World → Prop := (roundPost Tryz.prog l_ R)
noncomputable def C18:=C14.sn
abbrev Q2 (l_ : Nat) (rec_ : Loop) (R : Post) : Exit → Act → World → Prop := (Exit.then (wpx Tryz.prog ⟨28, [], some l_⟩ C18 (Exit.inBlock 1 (Q1 l_ rec_ R))) (Exit.inBlock 1 (Q1 l_ rec_ R)))
noncomputable def C19:=C17.fs
noncomputable def C20:=C17.sn
/-- lexer.go:219 -/
abbrev S9 (l_ : Nat) (o_ : LoopState → Option Code → Obj) (t2 t3 t4 f7 : Addr) (w : World) (R : Post) : Prop :=
  drV w fun w1 => ∃ t20 : Int, w1.cell? (f7.add 1) = some (.i t20) ∧ 
  ∃ t22 : Int, w1.cell? (f7.add 0) = some (.i t22) ∧ 
  stV w1 t2 (.slice none 0 0) fun w2 => 
  w2.cell? (f7.add 0) = some (.i t22) ∧ w2.cell? (f7.add 1) = some (.i t20) ∧ stV w2 t3 (.i t20) fun w3 => 
  w3.cell? (f7.add 0) = some (.i t22) ∧ stV w3 t4 (.i t22) fun w4 => 
  puV w4 l_ (o_ .busy none) (o_ .done (some .ret)) fun w5 => R (.returned (.bool false)) w5
def KE_S9 (l_ : Nat) (o_ : LoopState → Option Code → Obj) (E : Env) (w : World) (R : Post) : Prop := W.asRef (Env.get? E 2) fun t2 => W.asRef (Env.get? E 3) fun t3 => W.asRef (Env.get? E 4) fun t4 => W.asRef (Env.get? E 7) fun f7 => S9 l_ o_ t2 t3 t4 f7 w R
theorem KE_S9_ok (l_ : Nat) (rec_ : Loop) (R : Post) (E : Env) (w : World) (h : KE_S9 l_ (lo rec_) E w R) : WP Tryz.prog ⟨28, [], some l_⟩ C17 (Q2 l_ rec_ R) E w := by
  obtain ⟨t2, hq2, h_1⟩ := W.asRef_elim h
  obtain ⟨t3, hq3, h_2⟩ := W.asRef_elim h_1
  obtain ⟨t4, hq4, h_3⟩ := W.asRef_elim h_2
  obtain ⟨f7, hq7, h_4⟩ := W.asRef_elim h_3
  exact fun a ha => WP.at (n := ⟨28, [], some l_⟩) (E := [(2, .pointer (some t2)), (3, .pointer (some t3)), (4, .pointer (some t4)), (7, .pointer (some f7))]) (WP.seq (c := C17) (x := C19) (y := C20) (by kernel_rfl) <| WP.draw (c := C19) [0, 1, 2, 3, 4, 5, 6] (fun E w => puV w l_ ((lo rec_) .busy none) ((lo rec_) .done (some .ret)) fun w1 => R (.returned (.bool false)) w1) (by kernel_rfl) (Eq.mp (by kernel_rfl) h_4) fun _ _ a hA hK => (WP.ret (c := C20) (Q := (Q2 l_ rec_ R)) (by kernel_rfl) fun a hA => (show roundPost Tryz.prog l_ R .ret a _ from round_ret (a := a) (hK).1 (hK).2)) a hA) (ha.cons hq2 (ha.cons hq3 (ha.cons hq4 (ha.cons hq7 ha.nil))))
abbrev Q3 (l_ : Nat) (rec_ : Loop) (R : Post) : Exit → Act → World → Prop := (Exit.inBlock 1 (Q1 l_ rec_ R))
/-- lexer.go:221 -/
abbrev S10 (l_ : Nat) (o_ : LoopState → Option Code → Obj) (l5 t6 : Addr) (w : World) (R : Post) : Prop :=
  ∃ t23 : Sl, w.cell? l5 = some (t23.v) ∧ 
  ∃ t24_0 : Int, ∃ t24_1 : ByteArray, ∃ t24_2 : Int, w.cell? (t6.add 0) = some (.i t24_0) ∧ w.cell? (t6.add 1) = some (.string t24_1) ∧ w.cell? (t6.add 2) = some (.i t24_2) ∧ 
  nwV w (.cells #[.i t24_0, .string t24_1, .i t24_2] ty_lexer_Token) fun w1 => 
  ∃ (t26 : Sl) (w2 : World), Sem.run Tryz.prog (Builtin.append_ #[ty_sl_lexer_Token, ty_sl_lexer_Token] ty_sl_lexer_Token #[t23.v, .slice (some (nb w)) 1 1]) w1 = .ok (t26.v) w2 ∧ stV w2 l5 (t26.v) fun w3 => 
  puV w3 l_ (o_ .busy none) (o_ .ready none) fun w4 => R (.returned (.bool true)) w4
def KE_S10 (l_ : Nat) (o_ : LoopState → Option Code → Obj) (E : Env) (w : World) (R : Post) : Prop := W.asRef (Env.get? E 5) fun l5 => W.asRef (Env.get? E 6) fun t6 => S10 l_ o_ l5 t6 w R
theorem KE_S10_ok (l_ : Nat) (rec_ : Loop) (R : Post) (E : Env) (w : World) (h : KE_S10 l_ (lo rec_) E w R) : WP Tryz.prog ⟨28, [], some l_⟩ C18 (Q3 l_ rec_ R) E w := by
  obtain ⟨l5, hq5, h_1⟩ := W.asRef_elim h
  obtain ⟨t6, hq6, h_2⟩ := W.asRef_elim h_1
  exact fun a ha => WP.at (n := ⟨28, [], some l_⟩) (E := [(5, .pointer (some l5)), (6, .pointer (some t6))]) (WP.reg (c := C18) (fun E w => puV w l_ ((lo rec_) .busy none) ((lo rec_) .ready none) fun w2 => R (.returned (.bool true)) w2) (by kernel_rfl) (Eq.mp (by kernel_rfl) h_2) fun _ _ a hA hK => round_end (a := a) (hK).1 (hK).2) (ha.cons hq5 (ha.cons hq6 ha.nil))
noncomputable def C21:=C15.fs
noncomputable def C22:=C16.sn
/-- lexer.go:218 -/
abbrev S8 (l_ : Nat) (o_ : LoopState → Option Code → Obj) (t2 t3 t4 l5 t6 f7 : Addr) (w : World) (R : Post) : Prop :=
  ∃ t17 : Int, w.cell? (f7.add 0) = some (.i t17) ∧ 
  sel (t17 != 0) (S9 l_ o_ t2 t3 t4 f7 w R) (S10 l_ o_ l5 t6 w R)
def KE_S8 (l_ : Nat) (o_ : LoopState → Option Code → Obj) (E : Env) (w : World) (R : Post) : Prop := W.asRef (Env.get? E 2) fun t2 => W.asRef (Env.get? E 3) fun t3 => W.asRef (Env.get? E 4) fun t4 => W.asRef (Env.get? E 5) fun l5 => W.asRef (Env.get? E 6) fun t6 => W.asRef (Env.get? E 7) fun f7 => S8 l_ o_ t2 t3 t4 l5 t6 f7 w R
theorem KE_S8_ok (l_ : Nat) (rec_ : Loop) (R : Post) (E : Env) (w : World) (h : KE_S8 l_ (lo rec_) E w R) : WP Tryz.prog ⟨28, [], some l_⟩ C15 (Q2 l_ rec_ R) E w := by
  obtain ⟨t2, hq2, h_1⟩ := W.asRef_elim h
  obtain ⟨t3, hq3, h_2⟩ := W.asRef_elim h_1
  obtain ⟨t4, hq4, h_3⟩ := W.asRef_elim h_2
  obtain ⟨l5, hq5, h_4⟩ := W.asRef_elim h_3
  obtain ⟨t6, hq6, h_5⟩ := W.asRef_elim h_4
  obtain ⟨f7, hq7, h_6⟩ := W.asRef_elim h_5
  exact fun a ha => WP.at (n := ⟨28, [], some l_⟩) (E := [(2, .pointer (some t2)), (3, .pointer (some t3)), (4, .pointer (some t4)), (5, .pointer (some l5)), (6, .pointer (some t6)), (7, .pointer (some f7))]) (WP.seq (c := C15) (x := C21) (y := C16) (by kernel_rfl) <| WP.reg (c := C21) (fun E w => condK (Env.val E (.tmp 18)) (KE_S9 l_ (lo rec_) E w R) (KE_S10 l_ (lo rec_) E w R)) (by kernel_rfl) (Eq.mp (by kernel_rfl) h_6) fun _ _ a hA hK => (WP.condK (c := C16) (x := C17) (y := C22) (o := .tmp 18) (by kernel_rfl) (fun hK => (KE_S9_ok l_ rec_ R _ _ hK)) (fun hK => (WP.skip (c := C22) (by kernel_rfl) fun a hA => (KE_S10_ok l_ rec_ R _ _ hK) a hA)) hK) a hA) (ha.cons hq2 (ha.cons hq3 (ha.cons hq4 (ha.cons hq5 (ha.cons hq6 (ha.cons hq7 ha.nil))))))
noncomputable def C23:=C12.sn
abbrev Q4 (l_ : Nat) (rec_ : Loop) (R : Post) : Exit → Act → World → Prop := (QAssign Tryz.prog 28 l_ rec_ C13 (roundPost Tryz.prog l_ R))
/-- lexer.go:217 -/
abbrev S7 (l_ : Nat) (o_ : LoopState → Option Code → Obj) (t2 t3 t4 l5 t6 : Addr) (t15_0 t15_1 : Int) (w : World) (R : Post) : Prop :=
  nwV w (.cells #[.i 0, .i 0] ty_lexer_fault) fun w1 => 
  stV w1 (nb w) (.i t15_0) fun w2 => 
  stV w2 ((nb w).add 1) (.i t15_1) fun w3 => 
  puV w3 l_ (o_ .ready none) (o_ .busy none) fun w4 => S8 l_ o_ t2 t3 t4 l5 t6 (nb w) w4 R
def KE_S7 (l_ : Nat) (o_ : LoopState → Option Code → Obj) (E : Env) (w : World) (R : Post) : Prop := W.asRef (Env.get? E 2) fun t2 => W.asRef (Env.get? E 3) fun t3 => W.asRef (Env.get? E 4) fun t4 => W.asRef (Env.get? E 5) fun l5 => W.asRef (Env.get? E 6) fun t6 => W.asAgg (Env.get? E 15) fun t15_l0 => W.asCons t15_l0 fun t15_v0 t15_l1 => W.asInt .i64 (some t15_v0) fun t15_0 => W.asCons t15_l1 fun t15_v1 t15_l2 => W.asInt .i64 (some t15_v1) fun t15_1 => W.asNil t15_l2 <| S7 l_ o_ t2 t3 t4 l5 t6 t15_0 t15_1 w R
theorem KE_S7_ok (l_ : Nat) (rec_ : Loop) (R : Post) (E : Env) (w : World) (h : KE_S7 l_ (lo rec_) E w R) : WP Tryz.prog ⟨28, [], some l_⟩ C23 (Q4 l_ rec_ R) E w := by
  obtain ⟨t2, hq2, h_1⟩ := W.asRef_elim h
  obtain ⟨t3, hq3, h_2⟩ := W.asRef_elim h_1
  obtain ⟨t4, hq4, h_3⟩ := W.asRef_elim h_2
  obtain ⟨l5, hq5, h_4⟩ := W.asRef_elim h_3
  obtain ⟨t6, hq6, h_5⟩ := W.asRef_elim h_4
  obtain ⟨t15_l0, hq15, h_6⟩ := W.asAgg_elim h_5
  obtain ⟨t15_v0, t15_l1, rfl, h_7⟩ := W.asCons_elim h_6
  obtain ⟨t15_0, ex, h_8⟩ := W.asInt_elim h_7
  obtain rfl := Option.some.inj ex
  obtain ⟨t15_v1, t15_l2, rfl, h_9⟩ := W.asCons_elim h_8
  obtain ⟨t15_1, ex, h_10⟩ := W.asInt_elim h_9
  obtain rfl := Option.some.inj ex
  obtain ⟨rfl, h_11⟩ := W.asNil_elim h_10
  exact fun a ha => WP.at (n := ⟨28, [], some l_⟩) (E := [(2, .pointer (some t2)), (3, .pointer (some t3)), (4, .pointer (some t4)), (5, .pointer (some l5)), (6, .pointer (some t6)), (15, .agg #[.i t15_0, .i t15_1])]) (WP.reg (c := C23) (fun E w => w.heap[l_]? = some (lo rec_ .ready none) ∧ ((fun w => KE_S8 l_ (lo rec_) E w R) (w.putObj l_ (lo rec_ .busy none)))) (by kernel_rfl) (Eq.mp (by kernel_rfl) h_11) fun _ _ a hA hK => ⟨(hK).1, (WP.block (c := C13) (x := C14) (id := 1) (by kernel_rfl) (WP.seq (c := C14) (x := C15) (y := C18) (by kernel_rfl) (KE_S8_ok l_ rec_ R _ _ (hK).2))) a hA⟩) (ha.cons hq2 (ha.cons hq3 (ha.cons hq4 (ha.cons hq5 (ha.cons hq6 (ha.cons hq15 ha.nil))))))
noncomputable def C24:=C12.fs
/-- lexer.go:217 -/
abbrev S6 (l_ : Nat) (o_ : LoopState → Option Code → Obj) (t2 t3 t4 l5 : Addr) (t14_0 : Int) (t14_1 : ByteArray) (t14_2 t15_0 t15_1 : Int) (w : World) (R : Post) : Prop :=
  nwV w (.cells #[.i 0, .s0, .i 0] ty_lexer_Token) fun w1 => 
  stV w1 (nb w) (.i t14_0) fun w2 => 
  stV w2 ((nb w).add 1) (.string t14_1) fun w3 => 
  stV w3 ((nb w).add 2) (.i t14_2) fun w4 => 
  S7 l_ o_ t2 t3 t4 l5 (nb w) t15_0 t15_1 w4 R
def KE_S6 (l_ : Nat) (o_ : LoopState → Option Code → Obj) (E : Env) (w : World) (R : Post) : Prop := W.asRef (Env.get? E 2) fun t2 => W.asRef (Env.get? E 3) fun t3 => W.asRef (Env.get? E 4) fun t4 => W.asRef (Env.get? E 5) fun l5 => W.asAgg (Env.get? E 14) fun t14_l0 => W.asCons t14_l0 fun t14_v0 t14_l1 => W.asInt .i64 (some t14_v0) fun t14_0 => W.asCons t14_l1 fun t14_v1 t14_l2 => W.asStr (some t14_v1) fun t14_1 => W.asCons t14_l2 fun t14_v2 t14_l3 => W.asInt .i64 (some t14_v2) fun t14_2 => W.asNil t14_l3 <| W.asAgg (Env.get? E 15) fun t15_l0 => W.asCons t15_l0 fun t15_v0 t15_l1 => W.asInt .i64 (some t15_v0) fun t15_0 => W.asCons t15_l1 fun t15_v1 t15_l2 => W.asInt .i64 (some t15_v1) fun t15_1 => W.asNil t15_l2 <| S6 l_ o_ t2 t3 t4 l5 t14_0 t14_1 t14_2 t15_0 t15_1 w R
theorem KE_S6_ok (l_ : Nat) (rec_ : Loop) (R : Post) (E : Env) (w : World) (h : KE_S6 l_ (lo rec_) E w R) : WP Tryz.prog ⟨28, [], some l_⟩ C12 (Q4 l_ rec_ R) E w := by
  obtain ⟨t2, hq2, h_1⟩ := W.asRef_elim h
  obtain ⟨t3, hq3, h_2⟩ := W.asRef_elim h_1
  obtain ⟨t4, hq4, h_3⟩ := W.asRef_elim h_2
  obtain ⟨l5, hq5, h_4⟩ := W.asRef_elim h_3
  obtain ⟨t14_l0, hq14, h_5⟩ := W.asAgg_elim h_4
  obtain ⟨t14_v0, t14_l1, rfl, h_6⟩ := W.asCons_elim h_5
  obtain ⟨t14_0, ex, h_7⟩ := W.asInt_elim h_6
  obtain rfl := Option.some.inj ex
  obtain ⟨t14_v1, t14_l2, rfl, h_8⟩ := W.asCons_elim h_7
  obtain ⟨t14_1, ex, h_9⟩ := W.asStr_elim h_8
  obtain rfl := Option.some.inj ex
  obtain ⟨t14_v2, t14_l3, rfl, h_10⟩ := W.asCons_elim h_9
  obtain ⟨t14_2, ex, h_11⟩ := W.asInt_elim h_10
  obtain rfl := Option.some.inj ex
  obtain ⟨rfl, h_12⟩ := W.asNil_elim h_11
  obtain ⟨t15_l0, hq15, h_13⟩ := W.asAgg_elim h_12
  obtain ⟨t15_v0, t15_l1, rfl, h_14⟩ := W.asCons_elim h_13
  obtain ⟨t15_0, ex, h_15⟩ := W.asInt_elim h_14
  obtain rfl := Option.some.inj ex
  obtain ⟨t15_v1, t15_l2, rfl, h_16⟩ := W.asCons_elim h_15
  obtain ⟨t15_1, ex, h_17⟩ := W.asInt_elim h_16
  obtain rfl := Option.some.inj ex
  obtain ⟨rfl, h_18⟩ := W.asNil_elim h_17
  exact fun a ha => WP.at (n := ⟨28, [], some l_⟩) (E := [(2, .pointer (some t2)), (3, .pointer (some t3)), (4, .pointer (some t4)), (5, .pointer (some l5)), (14, .agg #[.i t14_0, .string t14_1, .i t14_2]), (15, .agg #[.i t15_0, .i t15_1])]) (WP.seq (c := C12) (x := C24) (y := C23) (by kernel_rfl) <| WP.reg (c := C24) (fun E w => KE_S7 l_ (lo rec_) E w R) (by kernel_rfl) (Eq.mp (by kernel_rfl) h_18) fun _ _ a hA hK => (KE_S7_ok l_ rec_ R _ _ hK) a hA) (ha.cons hq2 (ha.cons hq3 (ha.cons hq4 (ha.cons hq5 (ha.cons hq14 (ha.cons hq15 ha.nil))))))
/-- a round of the loop, lexer.go:218 -/
abbrev B_S5 (l_ : Nat) (o_ : LoopState → Option Code → Obj) (t2 t3 t4 l5 t13_c0 : Addr) (x14_0 : Int) (x14_1 : ByteArray) (x14_2 x15_0 x15_1 : Int) (w : World) (R : Post) : Prop :=
  S6 l_ o_ t2 t3 t4 l5 x14_0 x14_1 x14_2 x15_0 x15_1 w R
theorem Y_S5 (l_ : Nat) (rec_ : Loop) (t2 t3 t4 l5 t13_c0 : Addr) (x14_0 : Int) (x14_1 : ByteArray) (x14_2 x15_0 x15_1 : Int) (w : World) (R : Post) (h : B_S5 l_ (lo rec_) t2 t3 t4 l5 t13_c0 x14_0 x14_1 x14_2 x15_0 x15_1 w R) : WP Tryz.prog ⟨28, [], some l_⟩ C12 (QAssign Tryz.prog 28 l_ rec_ C13 (roundPost Tryz.prog l_ R)) (putL [(2, .pointer (some t2)), (3, .pointer (some t3)), (4, .pointer (some t4)), (5, .pointer (some l5)), (13, .func (.func n_lexer_each_1) #[] #[.pointer (some t13_c0)])] [14, 15] [.agg #[.i x14_0, .string x14_1, .i x14_2], .agg #[.i x15_0, .i x15_1]]) w :=
  (KE_S6_ok l_ rec_ R _ _ (Eq.mp (by kernel_rfl) h))
noncomputable def C25:=C8.sn
abbrev Q5 (R : Post) : Exit → Act → World → Prop := (bodyPostM Fence.wide 0 Tryz.prog Tryz.f20 R)
noncomputable def C26:=C25.fs
noncomputable def C27:=C25.sn
/-- lexer.go:223 -/
abbrev S11 (D_ : Nat) (t2 t3 t4 l5 : Addr) (w : World) (R : Post) : Prop :=
  ∃ t27 : Sl, w.cell? l5 = some (t27.v) ∧ 
  stV w t2 (t27.v) fun w1 => 
  stV w1 t3 (.i 0) fun w2 => 
  stV w2 t4 (.i 0) fun w3 => 
  puV w3 D_ (.deferred (some [])) (.deferred none) fun w4 => ∃ r2 : Sl, w4.cell? t2 = some (r2.v) ∧ 
  ∃ r3 : Int, w4.cell? t3 = some (.i r3) ∧ 
  ∃ r4 : Int, w4.cell? t4 = some (.i r4) ∧ 
  R (.returned (.tuple #[r2.v, .i r3, .i r4])) w4
def KE_S11 (D_ : Nat) (E : Env) (w : World) (R : Post) : Prop := W.asRef (Env.get? E 2) fun t2 => W.asRef (Env.get? E 3) fun t3 => W.asRef (Env.get? E 4) fun t4 => W.asRef (Env.get? E 5) fun l5 => S11 D_ t2 t3 t4 l5 w R
theorem KE_S11_ok (D_ : Nat) (R : Post) (E : Env) (w : World) (h : KE_S11 D_ E w R) : WP Tryz.prog (marked 28 D_) C25 (Q5 R) E w := by
  obtain ⟨t2, hq2, h_1⟩ := W.asRef_elim h
  obtain ⟨t3, hq3, h_2⟩ := W.asRef_elim h_1
  obtain ⟨t4, hq4, h_3⟩ := W.asRef_elim h_2
  obtain ⟨l5, hq5, h_4⟩ := W.asRef_elim h_3
  exact fun a ha => WP.at (n := (marked 28 D_)) (E := [(2, .pointer (some t2)), (3, .pointer (some t3)), (4, .pointer (some t4)), (5, .pointer (some l5))]) (WP.seq (c := C25) (x := C26) (y := C27) (by kernel_rfl) <| WP.reg (c := C26) (fun E w => retVCm Tryz.prog Tryz.f20 E w D_ R) (by kernel_rfl) (Eq.mp (by kernel_rfl) h_4) fun _ _ a hA hK => (WP.ret (c := C27) (by kernel_rfl) fun a hA => retVCm_sound hA hK) a hA) (ha.cons hq2 (ha.cons hq3 (ha.cons hq4 (ha.cons hq5 ha.nil))))
/-- rangeFunc: a loop over a function -/
abbrev S5 (t2 t3 t4 l5 t13_c0 : Addr) (w : World) (R : Post) : Prop :=
  ∀ o_ : LoopState → Option Code → Obj, (∀ (x14_0 : Int) (x14_1 : ByteArray) (x14_2 x15_0 x15_1 : Int) (w_ : World) (K_ : Bool → World → Prop), w_.heap[w.heap.size + 1]? = some (o_ .ready none) → B_S5 (w.heap.size + 1) o_ t2 t3 t4 l5 t13_c0 x14_0 x14_1 x14_2 x15_0 x15_1 w_ (fun r_ w1 => ∃ b_ : Bool, r_ = .returned (.bool b_) ∧ K_ b_ w1) → yieldB Tryz.prog (w.heap.size + 1) #[.agg #[.i x14_0, .string x14_1, .i x14_2], .agg #[.i x15_0, .i x15_1]] w_ K_) →
  Calls Tryz.prog n_lexer_each_1 #[.func (.yield (w.heap.size + 1)) #[] #[], .pointer (some t13_c0)] ((w.alloc (.deferred (some []))).alloc (o_ .ready none)) fun r_ w2 => (∃ v_, r_ = .returned v_) ∧ RangeEnd w2 (w.heap.size + 1) o_ (fun w3 => S11 w.heap.size t2 t3 t4 l5 w3 R) (fun id_ w3 => False) (fun w3 => puV w3 w.heap.size (.deferred (some [])) (.deferred none) fun w4 => ∃ r2 : Sl, w4.cell? t2 = some (r2.v) ∧ 
  ∃ r3 : Int, w4.cell? t3 = some (.i r3) ∧ 
  ∃ r4 : Int, w4.cell? t4 = some (.i r4) ∧ 
  R (.returned (.tuple #[r2.v, .i r3, .i r4])) w4)
abbrev Q6 (R : Post) : Exit → Act → World → Prop := (Exit.then (wpx Tryz.prog (cx 28) C25 (bodyPostM Fence.wide 0 Tryz.prog Tryz.f20 R)) (bodyPostM Fence.wide 0 Tryz.prog Tryz.f20 R))
abbrev Q7 (R : Post) : Exit → Act → World → Prop := (Exit.inBlock 0 (Q6 R))
def KE_S5 (E : Env) (w : World) (R : Post) : Prop := W.asRef (Env.get? E 2) fun t2 => W.asRef (Env.get? E 3) fun t3 => W.asRef (Env.get? E 4) fun t4 => W.asRef (Env.get? E 5) fun l5 => W.asFunc n_lexer_each_1 (Env.get? E 13) fun t13_lf0 t13_lc0 => W.asNil t13_lf0 <| W.asCons t13_lc0 fun t13_vc0 t13_lc1 => W.asRef (some t13_vc0) fun t13_c0 => W.asNil t13_lc1 <| S5 t2 t3 t4 l5 t13_c0 w R
theorem KE_S5_ok (R : Post) (E : Env) (w : World) (h : KE_S5 E w R) : WP Tryz.prog (cx 28) C11 (Q7 R) E w := by
  obtain ⟨t2, hq2, h_1⟩ := W.asRef_elim h
  obtain ⟨t3, hq3, h_2⟩ := W.asRef_elim h_1
  obtain ⟨t4, hq4, h_3⟩ := W.asRef_elim h_2
  obtain ⟨l5, hq5, h_4⟩ := W.asRef_elim h_3
  obtain ⟨t13_lf0, t13_lc0, hq13, h_5⟩ := W.asFunc_elim h_4
  obtain ⟨rfl, h_6⟩ := W.asNil_elim h_5
  obtain ⟨t13_vc0, t13_lc1, rfl, h_7⟩ := W.asCons_elim h_6
  obtain ⟨t13_c0, ex, h_8⟩ := W.asRef_elim h_7
  obtain rfl := Option.some.inj ex
  obtain ⟨rfl, h_9⟩ := W.asNil_elim h_8
  exact fun a ha => WP.at (n := (cx 28)) (E := [(2, .pointer (some t2)), (3, .pointer (some t3)), (4, .pointer (some t4)), (5, .pointer (some l5)), (13, .func (.func n_lexer_each_1) #[] #[.pointer (some t13_c0)])]) (WP.range (m := 28) (c := C11) (g := .tmp 13) (ps := #[14, 15]) (assign := C12) (body := C13) (gf := n_lexer_each_1) (lb := #[.pointer (some t13_c0)]) (fun w3 => S11 w.heap.size t2 t3 t4 l5 w3 R) (fun id_ w3 => False) (fun w3 => puV w3 w.heap.size (.deferred (some [])) (.deferred none) fun w4 => ∃ r2 : Sl, w4.cell? t2 = some (r2.v) ∧ 
  ∃ r3 : Int, w4.cell? t3 = some (.i r3) ∧ 
  ∃ r4 : Int, w4.cell? t4 = some (.i r4) ∧ 
  R (.returned (.tuple #[r2.v, .i r3, .i r4])) w4) (by kernel_rfl) rfl (by kernel_rfl)
    (fun w3 hK a hA => (KE_S11_ok w.heap.size R _ _ (Eq.mp (by kernel_rfl) hK)) a hA)
    (fun _ _ hK => hK.elim)
    (fun w3 hK a hA => retVCm_sound hA (Eq.mp (by kernel_rfl) hK))
    (fun rec_ hr_ => h_9 (lo rec_) (fun x14_0 x14_1 x14_2 x15_0 x15_1 w_ K_ hl_ hb_ => yield_of (args := [.agg #[.i x14_0, .string x14_1, .i x14_2], .agg #[.i x15_0, .i x15_1]]) hr_ hl_ rfl (by kernel_rfl) (fun _ _ h => h) (Y_S5 _ rec_ t2 t3 t4 l5 t13_c0 x14_0 x14_1 x14_2 x15_0 x15_1 w_ _ hb_)))) (ha.cons hq2 (ha.cons hq3 (ha.cons hq4 (ha.cons hq5 (ha.cons hq13 ha.nil)))))
noncomputable def C28:=C9.fs
/-- lexer.go:217 -/
abbrev S4 (s0 : ByteArray) (t2 t3 t4 l5 : Addr) (w : World) (R : Post) : Prop :=
  Calls Tryz.prog n_lexer_reader #[.string s0] w fun r_ w1 => ∃ t12 : Value, r_ = .returned (t12) ∧ 
  Calls Tryz.prog n_lexer_each #[t12] w1 fun r_ w2 => ∃ t13 : Value, r_ = .returned (t13) ∧ 
  W.asFunc n_lexer_each_1 (some t13) fun t13f_lf0 t13f_lc0 => W.asNil t13f_lf0 <| W.asCons t13f_lc0 fun t13f_vc0 t13f_lc1 => W.asRef (some t13f_vc0) fun t13f_c0 => W.asNil t13f_lc1 <| S5 t2 t3 t4 l5 t13f_c0 w2 R
def KE_S4 (E : Env) (w : World) (R : Post) : Prop := W.asStr (Env.get? E 0) fun s0 => W.asRef (Env.get? E 2) fun t2 => W.asRef (Env.get? E 3) fun t3 => W.asRef (Env.get? E 4) fun t4 => W.asRef (Env.get? E 5) fun l5 => S4 s0 t2 t3 t4 l5 w R
theorem KE_S4_ok (R : Post) (E : Env) (w : World) (h : KE_S4 E w R) : WP Tryz.prog (cx 28) C9 (Q6 R) E w := by
  obtain ⟨s0, hq0, h_1⟩ := W.asStr_elim h
  obtain ⟨t2, hq2, h_2⟩ := W.asRef_elim h_1
  obtain ⟨t3, hq3, h_3⟩ := W.asRef_elim h_2
  obtain ⟨t4, hq4, h_4⟩ := W.asRef_elim h_3
  obtain ⟨l5, hq5, h_5⟩ := W.asRef_elim h_4
  exact fun a ha => WP.at (n := (cx 28)) (E := [(0, .string s0), (2, .pointer (some t2)), (3, .pointer (some t3)), (4, .pointer (some t4)), (5, .pointer (some l5))]) (WP.seq (c := C9) (x := C28) (y := C10) (by kernel_rfl) <| WP.reg (c := C28) (fun E w => KE_S5 E w R) (by kernel_rfl) (Eq.mp (by kernel_rfl) h_5) fun _ _ a hA hK => (WP.block (c := C10) (x := C11) (id := 0) (by kernel_rfl) (KE_S5_ok R _ _ hK)) a hA) (ha.cons hq0 (ha.cons hq2 (ha.cons hq3 (ha.cons hq4 (ha.cons hq5 ha.nil)))))
noncomputable def C29:=C5.fs
/-- lexer.go:216 -/
abbrev S3 (s0 : ByteArray) (t2 t3 t4 : Addr) (w : World) (R : Post) : Prop :=
  nwV w (.cells #[.slice none 0 0] ty_sl_lexer_Token) fun w1 => 
  S4 s0 t2 t3 t4 (nb w) w1 R
def KE_S3 (E : Env) (w : World) (R : Post) : Prop := W.asStr (Env.get? E 0) fun s0 => W.asRef (Env.get? E 2) fun t2 => W.asRef (Env.get? E 3) fun t3 => W.asRef (Env.get? E 4) fun t4 => S3 s0 t2 t3 t4 w R
theorem KE_S3_ok (R : Post) (E : Env) (w : World) (h : KE_S3 E w R) : WP Tryz.prog (cx 28) C5 (Q5 R) E w := by
  obtain ⟨s0, hq0, h_1⟩ := W.asStr_elim h
  obtain ⟨t2, hq2, h_2⟩ := W.asRef_elim h_1
  obtain ⟨t3, hq3, h_3⟩ := W.asRef_elim h_2
  obtain ⟨t4, hq4, h_4⟩ := W.asRef_elim h_3
  exact fun a ha => WP.at (n := (cx 28)) (E := [(0, .string s0), (2, .pointer (some t2)), (3, .pointer (some t3)), (4, .pointer (some t4))]) (WP.seq (c := C5) (x := C29) (y := C8) (by kernel_rfl) <| WP.reg (c := C29) (fun E w => KE_S4 E w R) (by kernel_rfl) (Eq.mp (by kernel_rfl) h_4) fun _ _ a hA hK => (WP.seq (c := C8) (x := C9) (y := C25) (by kernel_rfl) (KE_S4_ok R _ _ hK)) a hA) (ha.cons hq0 (ha.cons hq2 (ha.cons hq3 (ha.cons hq4 ha.nil))))
noncomputable def C30:=C2.fs
noncomputable def C31:=C3.sn
/-- lexer.go:213 -/
abbrev S1 (s0 : ByteArray) (t2 t3 t4 : Addr) (w : World) (R : Post) : Prop :=
  sel (decide (((s0.size : Nat) : Int) > 65536)) (S2 t2 t3 t4 w R) (S3 s0 t2 t3 t4 w R)
def KE_S1 (E : Env) (w : World) (R : Post) : Prop := W.asStr (Env.get? E 0) fun s0 => W.asRef (Env.get? E 2) fun t2 => W.asRef (Env.get? E 3) fun t3 => W.asRef (Env.get? E 4) fun t4 => S1 s0 t2 t3 t4 w R
theorem KE_S1_ok (R : Post) (E : Env) (w : World) (h : KE_S1 E w R) : WP Tryz.prog (cx 28) C2 (Q0 R) E w := by
  obtain ⟨s0, hq0, h_1⟩ := W.asStr_elim h
  obtain ⟨t2, hq2, h_2⟩ := W.asRef_elim h_1
  obtain ⟨t3, hq3, h_3⟩ := W.asRef_elim h_2
  obtain ⟨t4, hq4, h_4⟩ := W.asRef_elim h_3
  exact fun a ha => WP.at (n := (cx 28)) (E := [(0, .string s0), (2, .pointer (some t2)), (3, .pointer (some t3)), (4, .pointer (some t4))]) (WP.seq (c := C2) (x := C30) (y := C3) (by kernel_rfl) <| WP.reg (c := C30) (fun E w => condK (Env.val E (.tmp 10)) (KE_S2 E w R) (KE_S3 E w R)) (by kernel_rfl) (Eq.mp (by kernel_rfl) h_4) fun _ _ a hA hK => (WP.condK (c := C3) (x := C4) (y := C31) (o := .tmp 10) (by kernel_rfl) (fun hK => (KE_S2_ok R _ _ hK)) (fun hK => (WP.skip (c := C31) (by kernel_rfl) fun a hA => (KE_S3_ok R _ _ hK) a hA)) hK) a hA) (ha.cons hq0 (ha.cons hq2 (ha.cons hq3 (ha.cons hq4 ha.nil))))
noncomputable def C32:=C0.fs
/-- lexer.go:212 -/
abbrev S0 (s0 : ByteArray) (w : World) (R : Post) : Prop :=
  nwV w (.cells #[.slice none 0 0] ty_sl_lexer_Token) fun w1 => 
  nwV w1 (.cells #[.i 0] ty_int) fun w2 => 
  nwV w2 (.cells #[.i 0] ty_api_Errno) fun w3 => 
  S1 s0 (nb w) (nb w1) (nb w2) w3 R
def KE_S0 (E : Env) (w : World) (R : Post) : Prop := W.asStr (Env.get? E 0) fun s0 => S0 s0 w R
theorem KE_S0_ok (R : Post) (E : Env) (w : World) (h : KE_S0 E w R) : WP Tryz.prog (cx 28) C0 (Q5 R) E w := by
  obtain ⟨s0, hq0, h_1⟩ := W.asStr_elim h
  exact fun a ha => WP.at (n := (cx 28)) (E := [(0, .string s0)]) (WP.seq (c := C0) (x := C32) (y := C1) (by kernel_rfl) <| WP.reg (c := C32) (fun E w => KE_S1 E w R) (by kernel_rfl) (Eq.mp (by kernel_rfl) h_1) fun _ _ a hA hK => (WP.seq (c := C1) (x := C2) (y := C5) (by kernel_rfl) (KE_S1_ok R _ _ hK)) a hA) (ha.cons hq0 ha.nil)
/-- enthymeme/lexer.Tokens -/
theorem ok (s0 : ByteArray) (w : World) (R : Post) (h : S0 s0 w R) : Calls Tryz.prog n_lexer_Tokens #[.string s0] w R :=
  calls_of_WPM (R := R) (fn := Tryz.f20) (c := C0) (args := [.string s0]) (by kernel_rfl) (by kernel_rfl) (by kernel_rfl) (KE_S0_ok R _ _ (Eq.mp (by kernel_rfl) h))
end lexer_Tokens
end Go.Proofs.YtibaobaobnpdaaaGreatDoor
set_option maxRecDepth 100000
set_option maxHeartbeats 1000000
namespace Go.Proofs.YtibaobaobnpdaaaGreatDoor
open Go Go.W

def QuL (k : Nat) (acc : List UInt8) (w : World) : QR → Post
  | .ok t u => fun r w' => r = .returned (.tuple #[.string (ba (acc ++ t)), .int .i64 ((k + u : Nat) : Int), .agg #[.int .i64 0, .int .i64 0]]) ∧ Fr0 w w'
  | .bad a e => fun r w' => (∃ x y, r = .returned (.tuple #[.string x, .int .i64 y, .agg #[.int .i64 e, .int .i64 ((k + a : Nat) : Int)]])) ∧ Fr0 w w'
theorem item_len {l : List UInt8} {d : UInt8} {u : Nat} (h : item1 l = .ok d u) : 1 ≤ u ∧ u ≤ l.length := by
  unfold item1 at h
  cases l with
  | nil => cases h
  | cons c l =>
    simp only [] at h
    split at h
    · split at h
      · cases h
      · cases h; simp
    · cases l with
      | nil => cases h
      | cons x l =>
        simp only [] at h
        split at h
        · cases h; simp
        · split at h
          · cases h
          · cases l with
            | nil => cases h
            | cons y l =>
              simp only [] at h
              split at h
              · cases l with
                | nil => cases h
                | cons z l =>
                  simp only [] at h
                  split at h
                  · cases h; simp
                  · cases h
              · cases h
theorem item_err {l : List UInt8} {a : Nat} {e : Int} (h : item1 l = .bad a e) : e = 2 ∨ e = 3 := by
  unfold item1 at h
  split at h
  · cases h; simp
  · split at h
    · split at h <;> cases h; simp
    · split at h
      · cases h; simp
      · split at h
        · cases h
        · split at h
          · cases h; simp
          · split at h
            · cases h; simp
            · split at h
              · split at h
                · cases h; simp
                · split at h <;> cases h; simp
              · cases h; simp
theorem QuL_push (k : Nat) (acc : List UInt8) (w : World) (d : UInt8) (u : Nat) (q : QR) : QuL k acc w (q.push d u) = QuL (k + u) (acc ++ [d]) w q := by
  cases q <;> simp [QuL, QR.push, Nat.add_assoc]
theorem l_quoted_loop (s : ByteArray) (hsm : s.size ≤ 1000000) (w0 : World) (b : Nat) : ∀ (n k : Nat) (l acc : List UInt8) (xs : List Value) (text : Sl) (w : World), l.length < n → (bl s).drop k = l → k + l.length = s.size → acc.length ≤ k → xs = acc.map byteV →
    LH F0 w0 w [.c b [.int .i64 0, .int .i64 0] ty_lexer_fault, .row ty_uint8 1 text xs] [] → lexer_quoted.L3 s (k : Int) (at0 b) text w (QuL k acc w0 (qu l)) := by
  intro n
  induction n with
  | zero => intro k l acc xs text w hn; omega
  | succ n ih =>
    intro k l acc xs text w hn hl hk ha hx H
    cases l with
    | nil =>
      refine lexer_quoted.L3_step _ _ _ _ _ _ (sel_false (decide_eq_false (by simp at hk; omega)) ?_)
      refine H.st2 0 rfl fun w' H' => ⟨_, _, H'.ld 0 0, H'.ld 0 1, ⟨ByteArray.mk #[], 0, ?_⟩, H'.fr⟩
      simp at hk; simp [hk]
    | cons c l =>
      have hk' : k < s.size := by simp at hk; omega
      have gc : s[k]? = some c := by
        have := lx_bl_get (s := s) (l := bl s) rfl k
        rw [this, ← List.head?_drop, hl]; rfl
      have htl : OwnRow w ty_uint8 1 text (acc.map byteV) := hx ▸ H.get 1
      have tn : text.n = acc.length := by have := OwnRow.len htl; simp at this; omega
      refine lexer_quoted.L3_step _ _ _ _ _ _ (sel_true (decide_eq_true (by omega)) ⟨by omega, c, by rw [Int.toNat_natCast]; exact gc, sel_intro (fun h34 => ?_) (fun h34 => ?_)⟩)
      · have e34 : c.toNat = 34 := by have : ((c.toNat : Nat) : Int) = 34 := by simpa using h34
                                      omega
        have e : qu (c :: l) = .ok [] 1 := by unfold qu; rw [if_pos e34]
        rw [e]
        refine ⟨_, bytes_str (OwnRow.rd1 htl), H.st2 0 rfl fun w' H' => ⟨_, _, H'.ld 0 0, H'.ld 0 1, ?_, H'.fr⟩⟩
        rw [i64_next k (by omega), List.append_nil]
      · have n34 : c.toNat ≠ 34 := fun e => by rw [e] at h34; simp at h34
        rw [qu_item c l n34]
        refine (l_item s k c l hl hsm w).mono ?_
        intro r w1 hp
        cases hi : item1 (c :: l) with
        | bad a e =>
          rw [hi] at hp
          obtain ⟨⟨x, y, rfl⟩, f1⟩ := hp
          have he := item_err hi
          refine ⟨_, _, _, _, rfl, (H.fr0 f1).nw fun w2 _ H2 => H2.st2 2 rfl fun w3 H3 => ⟨_, H3.ld 2 0, sel_true (by rcases he with rfl | rfl <;> rfl) ?_⟩⟩
          exact H3.dr fun w4 H4 => ⟨_, _, H4.ld 2 0, H4.ld 2 1, H4.st2 0 rfl fun w5 H5 => ⟨_, _, H5.ld 0 0, H5.ld 0 1, ⟨_, _, rfl⟩, H5.fr⟩⟩
        | ok d u =>
          rw [hi] at hp
          obtain ⟨rfl, f1⟩ := hp
          obtain ⟨hu1, hu2⟩ := item_len hi
          refine ⟨_, _, _, _, rfl, (H.fr0 f1).nw fun w2 _ H2 => H2.st2 2 rfl fun w3 H3 => ⟨_, H3.ld 2 0, sel_false rfl ?_⟩⟩
          refine H3.ap1 1 el_bytes rfl (fun t w4 H4 _ _ => ?_) (by omega)
          simp only [QuL_push]
          exact ih (k + u) ((c :: l).drop u) (acc ++ [d]) _ t w4 (by simp at hn ⊢; omega) (by rw [← hl, List.drop_drop]) (by simp at hu2 hk ⊢; omega) (by simp; omega) (by simp [hx, byteV]) (H4.take 2)
theorem l_quoted (s : ByteArray) (i : Nat) (c : UInt8) (l : List UInt8) (hl : (bl s).drop i = c :: l) (hsm : s.size ≤ 1000000) (w : World) : Calls Tryz.prog n_lexer_quoted #[.string s, .int .i64 (i : Int)] w (QuL (i + 1) [] w (qu l)) := by
  have hlen : i + (c :: l).length = s.size := by
    have := congrArg List.length hl
    rw [List.length_drop, bl_len] at this
    simp at this ⊢
    omega
  refine lexer_quoted.ok _ _ w _ ((LH.start (M := F0) [] (by simp)).nw fun w1 _ H1 => ?_)
  show lexer_quoted.L3 s (IntKind.wrap .i64 ((i : Int) + 1)) (at0 w.heap.size) ⟨none, 0, 0⟩ w1 _
  rw [i64_next i (by simp at hlen; omega)]
  refine l_quoted_loop s hsm w _ (l.length + 1) (i + 1) l [] [] ⟨none, 0, 0⟩ w1 (by omega) ?_ (by simp at hlen ⊢; omega) (by simp) rfl (H1.nilrow _ _)
  rw [← List.drop_drop, hl]; rfl
end Go.Proofs.YtibaobaobnpdaaaGreatDoor
set_option maxRecDepth 100000
set_option maxHeartbeats 1000000
namespace Go.Proofs.YtibaobaobnpdaaaGreatDoor
open Go Go.W

theorem all_bytes {p : UInt8 → Prop} (h : ∀ x : Fin 256, p (UInt8.ofNat x.val)) (c : UInt8) : p c := by
  have := h ⟨c.toNat, c.toNat_lt⟩
  simpa only [UInt8.ofNat_toNat] using this
theorem space_at (c : UInt8) : decide (0 ≤ Go.Lib.indexByte [9, 10, 13, 32] c) = spaceB c := all_bytes (p := fun c => decide (0 ≤ Go.Lib.indexByte [9, 10, 13, 32] c) = spaceB c) (by decide +kernel) c
theorem follow_at (c : UInt8) : decide (Go.Lib.indexByte [9, 10, 13, 32, 59, 40, 41, 34] c < 0) = !followB c := all_bytes (p := fun c => decide (Go.Lib.indexByte [9, 10, 13, 32, 59, 40, 41, 34] c < 0) = !followB c) (by decide +kernel) c
theorem get_drop {s : ByteArray} {k : Nat} {c : UInt8} {l : List UInt8} (hl : (bl s).drop k = c :: l) : s[k]? = some c ∧ (bl s).drop (k + 1) = l ∧ k + l.length + 1 = s.size := by
  refine ⟨?_, by rw [← List.drop_drop, hl]; rfl, ?_⟩
  · rw [lx_bl_get (l := bl s) rfl, ← List.head?_drop, hl]; rfl
  · have := congrArg List.length hl
    rw [List.length_drop, bl_len] at this
    simp at this
    omega
theorem l_skip_loop (s : ByteArray) (hsm : s.size ≤ 1000000) (w0 : World) (bi bs m : Nat) (R : Post) (hR : ∀ w', LH (· = bi) w0 w' [.c bi [.int .i64 (m : Int)] ty_int] [.c bs [.string s] ty_string] → R (.returned (.tuple #[])) w') : ∀ (n k : Nat) (l : List UInt8) (w : World), l.length < n → (bl s).drop k = l → k ≤ s.size →
    LH (· = bi) w0 w [.c bi [.int .i64 (k : Int)] ty_int] [.c bs [.string s] ty_string] → (k + skipN false l = m → lexer_reader_1.L0 (at0 bi) (at0 bs) w R) ∧ (k + skipN true l = m → lexer_reader_1.L4 (at0 bi) (at0 bs) w R) := by
  intro n
  induction n with
  | zero => intro k l w hn; omega
  | succ n ih =>
    intro k l w hn hl hk H
    cases l with
    | nil =>
      have hks : ¬ ((k : Int) < ((s.size : Nat) : Int)) := by
        have := congrArg List.length hl
        rw [List.length_drop, bl_len] at this
        simp at this
        omega
      have zero : k = m → lexer_reader_1.L0 (at0 bi) (at0 bs) w R := fun e => by
        subst e
        exact lexer_reader_1.L0_step _ _ _ _ ⟨_, H.ld0 0, _, H.ldD0 0, sel_false (decide_eq_false hks) (hR w H)⟩
      exact ⟨zero, fun e => lexer_reader_1.L4_step _ _ _ _ ⟨_, H.ld0 0, _, H.ldD0 0, sel_false (decide_eq_false hks) (zero e)⟩⟩
    | cons c l =>
      obtain ⟨gc, hl1, hsz⟩ := get_drop hl
      have gc' : s[Int.toNat (k : Int)]? = some c := by rw [Int.toNat_natCast]; exact gc
      have hlt : ((k : Int) < ((s.size : Nat) : Int)) := by omega
      have next : ∀ {w1 : World}, LH (· = bi) w0 w1 [.c bi [.int .i64 ((k + 1 : Nat) : Int)] ty_int] [.c bs [.string s] ty_string] → (k + (1 + skipN false l) = m → lexer_reader_1.L0 (at0 bi) (at0 bs) w1 R) ∧ (k + (1 + skipN true l) = m → lexer_reader_1.L4 (at0 bi) (at0 bs) w1 R) := fun H1 => by
        have := ih (k + 1) l _ (by simp at hn; omega) hl1 (by omega) H1
        rwa [Nat.add_assoc, Nat.add_assoc] at this
      -- past one byte
      have P4 : c.toNat ≠ 10 → k + (1 + skipN true l) = m → lexer_reader_1.L4 (at0 bi) (at0 bs) w R := fun h10 e => by
        refine lexer_reader_1.L4_step _ _ _ _ ⟨_, H.ld0 0, _, H.ldD0 0, sel_true (decide_eq_true hlt) ⟨_, H.ldD0 0, _, H.ld0 0, by omega, c, gc', sel_ne (fun _ => ?_) (fun h => absurd (by omega) h10)⟩⟩
        refine ⟨_, H.ld0 0, ?_⟩
        rw [i64_next k (by omega)]
        exact H.st0 0 rfl fun w1 H1 => (next H1).2 e
      have P0 : k + skipN false (c :: l) = m → lexer_reader_1.L0 (at0 bi) (at0 bs) w R := fun e => by
        unfold skipN at e
        have two : (spaceB c = true → c.toNat ≠ 59 → k + (1 + skipN false l) = m) → (c.toNat = 59 → k + (1 + skipN true l) = m) → (spaceB c = true ∨ c.toNat = 59) → lexer_reader_1.S2 (at0 bi) (at0 bs) w R := fun e1 e2 hor =>
          ⟨_, H.ldD0 0, _, H.ld0 0, by omega, c, gc', sel_ne (fun h => ⟨_, H.ld0 0, by
            rw [i64_next k (by omega)]
            exact H.st0 0 rfl fun w1 H1 => (next H1).1 (e1 (hor.resolve_right (by omega)) (by omega))⟩) (fun h => P4 (by omega) (e2 (by omega)))⟩
        refine lexer_reader_1.L0_step _ _ _ _ ⟨_, H.ld0 0, _, H.ldD0 0, sel_true (decide_eq_true hlt) ⟨_, H.ldD0 0, _, H.ld0 0, by omega, c, gc', sel_eq (fun h => ?_) (fun h => ?_)⟩⟩
        · have hns : ¬ spaceB c = true := by
            unfold spaceB
            have : c.toNat = 59 := by omega
            simp [this]
          rw [if_neg hns, if_pos (by omega)] at e
          exact two (fun h => absurd h hns) (fun _ => e) (.inr (by omega))
        · refine ⟨_, H.ldD0 0, _, H.ld0 0, by omega, c, gc', (lx_indexByte _ c w).mono ?_⟩
          rintro r w1 ⟨rfl, rfl⟩
          refine ⟨_, rfl, ?_⟩
          show sel (decide (0 ≤ Go.Lib.indexByte [9, 10, 13, 32] c)) _ _
          rw [space_at]
          refine sel_intro (fun hs => ?_) (fun hs => ?_)
          · rw [if_pos hs] at e
            exact two (fun _ _ => e) (fun h' => absurd h' (by omega)) (.inl hs)
          · rw [if_neg (by simp [hs]), if_neg (by omega), Nat.add_zero] at e
            subst e
            exact hR w H
      refine ⟨P0, fun e => ?_⟩
      unfold skipN at e
      by_cases h10 : c.toNat = 10
      · rw [if_pos h10] at e
        refine lexer_reader_1.L4_step _ _ _ _ ⟨_, H.ld0 0, _, H.ldD0 0, sel_true (decide_eq_true hlt) ⟨_, H.ldD0 0, _, H.ld0 0, by omega, c, gc', sel_ne (fun h => absurd (by omega) h) (fun _ => P0 ?_)⟩⟩
        unfold skipN
        rw [if_pos (by unfold spaceB; simp [h10])]
        exact e
      · rw [if_neg h10] at e
        exact P4 h10 e
theorem l_skip {s : ByteArray} (hsm : s.size ≤ 1000000) {w : World} {bi bs k : Nat} (hi : w.heap[bi]? = some (.cells #[.int .i64 (k : Int)] ty_int (0, 0))) (hs : w.heap[bs]? = some (.cells #[.string s] ty_string (0, 0))) (hk : k ≤ s.size) :
    Calls Tryz.prog n_lexer_reader_1 #[.pointer (some (at0 bi)), .pointer (some (at0 bs))] w fun r w' => r = .returned (.tuple #[]) ∧ Fr (· = bi) w w' ∧ w'.heap[bi]? = some (.cells [Value.int .i64 ((k + skipN false ((bl s).drop k) : Nat) : Int)].toArray ty_int (0, 0)) := by
  have hne : bs ≠ bi := fun e => by rw [e, hi] at hs; cases hs
  refine lexer_reader_1.ok _ _ w _ ((l_skip_loop s hsm w bi bs _ _ (fun w' H => ?_) (((bl s).drop k).length + 1) k _ w (by omega) rfl hk ?_).1 rfl)
  · exact ⟨rfl, H.fr, H.ob 0⟩
  · exact LH.start' _ _ (by simp [En.ob, hi]) (by simp [En.ob]) (by simp [En.ob, hs, hne])
end Go.Proofs.YtibaobaobnpdaaaGreatDoor

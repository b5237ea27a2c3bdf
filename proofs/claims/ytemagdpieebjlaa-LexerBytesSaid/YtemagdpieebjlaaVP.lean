/- Printed by a program of ours (vcgen.py) from the dump: the conditions of the functions, and that they suffice. -/
import Derived.Test.YtemagdpieebjlaaV
set_option linter.unusedVariables false
set_option maxRecDepth 100000
namespace Go.Proofs.Ytemagdpieebjlaa
open Go
namespace strings_IndexByte
noncomputable def C0 : Code := (Try.f44.body).getD .skip
noncomputable def C1 : Code := W.Code.snd C0
abbrev Q0 (R : W.Post) : Exit → Act → World → Prop := (bodyPost Try.prog Try.f44 R)
noncomputable def C2 : Code := W.Code.fst C1
noncomputable def C3 : Code := W.Code.snd C1
/-- strings.go:103 -/
abbrev S1 (s0 : ByteArray) (c1 : Int) (w : World) (R : W.Post) : Prop :=
  Calls Try.prog n_internal_stringslite_IndexByte #[.string s0, .int .u8 c1] w fun r_ w1 => ∃ t7 : Int, r_ = .returned (.int .i64 t7) ∧ 
  R (.returned (.int .i64 t7)) w1
def KE_S1 (E : W.Env) (w : World) (R : W.Post) : Prop := W.asStr (W.Env.get? E 0) fun s0 => W.asInt .u8 (W.Env.get? E 1) fun c1 => S1 s0 c1 w R
theorem KE_S1_ok (R : W.Post) (E : W.Env) (w : World) (h : KE_S1 E w R) : W.WP Try.prog (W.cx 8) C1 (Q0 R) E w := by
  obtain ⟨s0, hq0, h1⟩ := W.asStr_elim h
  obtain ⟨c1, hq1, h2⟩ := W.asInt_elim h1
  exact fun a ha => W.WP.at (n := (W.cx 8)) (E := [(0, .string s0), (1, .int .u8 c1)]) (W.WP.seq (c := C1) (x := C2) (y := C3) (by kernel_rfl) <| W.WP.reg (c := C2) (fun E w => W.retVC Try.prog Try.f44 E w (fun v => R (.returned v) w)) (by kernel_rfl) (Eq.mp (by kernel_rfl) h2) fun _ _ a hA hK => (W.WP.ret (c := C3) (by kernel_rfl) fun a hA => W.retVC_sound hA hK) a hA) (ha.cons hq0 (ha.cons hq1 ha.nil))
noncomputable def C4 : Code := W.Code.fst C0
/-- strings.go:102 -/
abbrev S0 (s0 : ByteArray) (c1 : Int) (w : World) (R : W.Post) : Prop :=
  S1 s0 c1 w R
def KE_S0 (E : W.Env) (w : World) (R : W.Post) : Prop := W.asStr (W.Env.get? E 0) fun s0 => W.asInt .u8 (W.Env.get? E 1) fun c1 => S0 s0 c1 w R
theorem KE_S0_ok (R : W.Post) (E : W.Env) (w : World) (h : KE_S0 E w R) : W.WP Try.prog (W.cx 8) C0 (Q0 R) E w := by
  obtain ⟨s0, hq0, h1⟩ := W.asStr_elim h
  obtain ⟨c1, hq1, h2⟩ := W.asInt_elim h1
  exact fun a ha => W.WP.at (n := (W.cx 8)) (E := [(0, .string s0), (1, .int .u8 c1)]) (W.WP.seq (c := C0) (x := C4) (y := C1) (by kernel_rfl) <| W.WP.reg (c := C4) (fun E w => KE_S1 E w R) (by kernel_rfl) (Eq.mp (by kernel_rfl) h2) fun _ _ a hA hK => (KE_S1_ok R _ _ hK) a hA) (ha.cons hq0 (ha.cons hq1 ha.nil))
/-- strings.IndexByte -/
theorem ok (s0 : ByteArray) (c1 : Int) (w : World) (R : W.Post) (h : S0 s0 c1 w R) : Calls Try.prog n_strings_IndexByte #[.string s0, .int .u8 c1] w R :=
  W.calls_of_WP' (fn := Try.f44) (c := C0) (args := [.string s0, .int .u8 c1]) (by kernel_rfl) (by kernel_rfl) (by kernel_rfl) (KE_S0_ok R _ _ (Eq.mp (by kernel_rfl) h))
end strings_IndexByte
namespace internal_stringslite_IndexByte
noncomputable def C0 : Code := (Try.f54.body).getD .skip
noncomputable def C1 : Code := W.Code.snd C0
abbrev Q0 (R : W.Post) : Exit → Act → World → Prop := (bodyPost Try.prog Try.f54 R)
noncomputable def C2 : Code := W.Code.fst C1
noncomputable def C3 : Code := W.Code.snd C1
/-- strings.go:25 -/
abbrev S1 (s0 : ByteArray) (c1 : Int) (w : World) (R : W.Post) : Prop :=
  ∃ t7 : Int, ∃ w1 : World, Sem.run Try.prog (callFunc n_internal_bytealg_IndexByteString #[.string s0, .int .u8 c1]) w = .ok (.value (.int .i64 t7)) w1 ∧ 
  R (.returned (.int .i64 t7)) w1
def KE_S1 (E : W.Env) (w : World) (R : W.Post) : Prop := W.asStr (W.Env.get? E 0) fun s0 => W.asInt .u8 (W.Env.get? E 1) fun c1 => S1 s0 c1 w R
theorem KE_S1_ok (R : W.Post) (E : W.Env) (w : World) (h : KE_S1 E w R) : W.WP Try.prog (W.cx 8) C1 (Q0 R) E w := by
  obtain ⟨s0, hq0, h1⟩ := W.asStr_elim h
  obtain ⟨c1, hq1, h2⟩ := W.asInt_elim h1
  exact fun a ha => W.WP.at (n := (W.cx 8)) (E := [(0, .string s0), (1, .int .u8 c1)]) (W.WP.seq (c := C1) (x := C2) (y := C3) (by kernel_rfl) <| W.WP.reg (c := C2) (fun E w => W.retVC Try.prog Try.f54 E w (fun v => R (.returned v) w)) (by kernel_rfl) (Eq.mp (by kernel_rfl) h2) fun _ _ a hA hK => (W.WP.ret (c := C3) (by kernel_rfl) fun a hA => W.retVC_sound hA hK) a hA) (ha.cons hq0 (ha.cons hq1 ha.nil))
noncomputable def C4 : Code := W.Code.fst C0
/-- strings.go:24 -/
abbrev S0 (s0 : ByteArray) (c1 : Int) (w : World) (R : W.Post) : Prop :=
  S1 s0 c1 w R
def KE_S0 (E : W.Env) (w : World) (R : W.Post) : Prop := W.asStr (W.Env.get? E 0) fun s0 => W.asInt .u8 (W.Env.get? E 1) fun c1 => S0 s0 c1 w R
theorem KE_S0_ok (R : W.Post) (E : W.Env) (w : World) (h : KE_S0 E w R) : W.WP Try.prog (W.cx 8) C0 (Q0 R) E w := by
  obtain ⟨s0, hq0, h1⟩ := W.asStr_elim h
  obtain ⟨c1, hq1, h2⟩ := W.asInt_elim h1
  exact fun a ha => W.WP.at (n := (W.cx 8)) (E := [(0, .string s0), (1, .int .u8 c1)]) (W.WP.seq (c := C0) (x := C4) (y := C1) (by kernel_rfl) <| W.WP.reg (c := C4) (fun E w => KE_S1 E w R) (by kernel_rfl) (Eq.mp (by kernel_rfl) h2) fun _ _ a hA hK => (KE_S1_ok R _ _ hK) a hA) (ha.cons hq0 (ha.cons hq1 ha.nil))
/-- internal/stringslite.IndexByte -/
theorem ok (s0 : ByteArray) (c1 : Int) (w : World) (R : W.Post) (h : S0 s0 c1 w R) : Calls Try.prog n_internal_stringslite_IndexByte #[.string s0, .int .u8 c1] w R :=
  W.calls_of_WP' (fn := Try.f54) (c := C0) (args := [.string s0, .int .u8 c1]) (by kernel_rfl) (by kernel_rfl) (by kernel_rfl) (KE_S0_ok R _ _ (Eq.mp (by kernel_rfl) h))
end internal_stringslite_IndexByte
namespace strings_IndexFunc
noncomputable def C0 : Code := (Try.f58.body).getD .skip
noncomputable def C1 : Code := W.Code.snd C0
abbrev Q0 (R : W.Post) : Exit → Act → World → Prop := (bodyPost Try.prog Try.f58 R)
noncomputable def C2 : Code := W.Code.fst C1
noncomputable def C3 : Code := W.Code.snd C1
/-- strings.go:898 -/
abbrev S1 (s0 : ByteArray) (f1 : Value) (w : World) (R : W.Post) : Prop :=
  Calls Try.prog n_strings_indexFunc #[.string s0, f1, .bool true] w fun r_ w1 => ∃ t7 : Int, r_ = .returned (.int .i64 t7) ∧ 
  R (.returned (.int .i64 t7)) w1
def KE_S1 (E : W.Env) (w : World) (R : W.Post) : Prop := W.asStr (W.Env.get? E 0) fun s0 => W.asVal (W.Env.get? E 1) fun f1 => S1 s0 f1 w R
theorem KE_S1_ok (R : W.Post) (E : W.Env) (w : World) (h : KE_S1 E w R) : W.WP Try.prog (W.cx 8) C1 (Q0 R) E w := by
  obtain ⟨s0, hq0, h1⟩ := W.asStr_elim h
  obtain ⟨f1, hq1, h2⟩ := W.asVal_elim h1
  exact fun a ha => W.WP.at (n := (W.cx 8)) (E := [(0, .string s0), (1, f1)]) (W.WP.seq (c := C1) (x := C2) (y := C3) (by kernel_rfl) <| W.WP.reg (c := C2) (fun E w => W.retVC Try.prog Try.f58 E w (fun v => R (.returned v) w)) (by kernel_rfl) (Eq.mp (by kernel_rfl) h2) fun _ _ a hA hK => (W.WP.ret (c := C3) (by kernel_rfl) fun a hA => W.retVC_sound hA hK) a hA) (ha.cons hq0 (ha.cons hq1 ha.nil))
noncomputable def C4 : Code := W.Code.fst C0
/-- strings.go:897 -/
abbrev S0 (s0 : ByteArray) (f1 : Value) (w : World) (R : W.Post) : Prop :=
  S1 s0 (f1 : Value) w R
def KE_S0 (E : W.Env) (w : World) (R : W.Post) : Prop := W.asStr (W.Env.get? E 0) fun s0 => W.asVal (W.Env.get? E 1) fun f1 => S0 s0 f1 w R
theorem KE_S0_ok (R : W.Post) (E : W.Env) (w : World) (h : KE_S0 E w R) : W.WP Try.prog (W.cx 8) C0 (Q0 R) E w := by
  obtain ⟨s0, hq0, h1⟩ := W.asStr_elim h
  obtain ⟨f1, hq1, h2⟩ := W.asVal_elim h1
  exact fun a ha => W.WP.at (n := (W.cx 8)) (E := [(0, .string s0), (1, f1)]) (W.WP.seq (c := C0) (x := C4) (y := C1) (by kernel_rfl) <| W.WP.reg (c := C4) (fun E w => KE_S1 E w R) (by kernel_rfl) (Eq.mp (by kernel_rfl) h2) fun _ _ a hA hK => (KE_S1_ok R _ _ hK) a hA) (ha.cons hq0 (ha.cons hq1 ha.nil))
/-- strings.IndexFunc -/
theorem ok (s0 : ByteArray) (f1 : Value) (w : World) (R : W.Post) (h : S0 s0 (f1 : Value) w R) : Calls Try.prog n_strings_IndexFunc #[.string s0, f1] w R :=
  W.calls_of_WP' (fn := Try.f58) (c := C0) (args := [.string s0, f1]) (by kernel_rfl) (by kernel_rfl) (by kernel_rfl) (KE_S0_ok R _ _ (Eq.mp (by kernel_rfl) h))
end strings_IndexFunc
namespace strings_indexFunc
noncomputable def C0 : Code := (Try.f61.body).getD .skip
noncomputable def C1 : Code := W.Code.snd C0
noncomputable def C2 : Code := W.Code.fst C1
noncomputable def C3 : Code := W.Code.snd C2
noncomputable def C4 : Code := W.Code.fst C3
noncomputable def C5 : Code := W.Code.fst C4
noncomputable def C6 : Code := W.Code.snd C1
abbrev Q0 (R : W.Post) : Exit → Act → World → Prop := (Exit.then (W.wpx Try.prog (W.cx 21) C6 (bodyPost Try.prog Try.f61 R)) (bodyPost Try.prog Try.f61 R))
abbrev Q1 (R : W.Post) : Exit → Act → World → Prop := (Exit.inBlock 0 (Q0 R))
/-- the head of the loop, strings.go:911 -/
def L2 (f1 : W.Fv) (truth2 : Bool) (t10 : Value) (w : World) (R : W.Post) : Prop := W.LP Try.prog (W.cx 21) C5 (Q1 R) [(1, f1.v), (2, .bool truth2), (10, t10)] w
def KE_L2 (E : W.Env) (w : World) (R : W.Post) : Prop := W.asFn (W.Env.get? E 1) fun f1 => W.asBool' (W.Env.get? E 2) fun truth2 => W.asVal (W.Env.get? E 10) fun t10 => L2 f1 truth2 t10 w R
theorem KE_L2_ok (R : W.Post) (E : W.Env) (w : World) (h : KE_L2 E w R) : W.LP Try.prog (W.cx 21) C5 (Q1 R) E w := by
  obtain ⟨f1, hq1, h1⟩ := W.asFn_elim h
  obtain ⟨truth2, hq2, h2⟩ := W.asBool_elim h1
  obtain ⟨t10, hq10, h3⟩ := W.asVal_elim h2
  intro a ha
  exact h3 a (ha.cons hq1 (ha.cons hq2 (ha.cons hq10 ha.nil)))
abbrev Q2 (R : W.Post) : Exit → Act → World → Prop := (bodyPost Try.prog Try.f61 R)
noncomputable def C7 : Code := W.Code.fst C6
noncomputable def C8 : Code := W.Code.snd C6
/-- strings.go:916 -/
abbrev S4  (w : World) (R : W.Post) : Prop :=
  R (.returned (.int .i64 (-1))) w
def KE_S4 (E : W.Env) (w : World) (R : W.Post) : Prop := S4  w R
theorem KE_S4_ok (R : W.Post) (E : W.Env) (w : World) (h : KE_S4 E w R) : W.WP Try.prog (W.cx 21) C6 (Q2 R) E w := by
  exact fun a ha => W.WP.at (n := (W.cx 21)) (E := []) (W.WP.seq (c := C6) (x := C7) (y := C8) (by kernel_rfl) <| W.WP.reg (c := C7) (fun E w => W.retVC Try.prog Try.f61 E w (fun v => R (.returned v) w)) (by kernel_rfl) (Eq.mp (by kernel_rfl) h) fun _ _ a hA hK => (W.WP.ret (c := C8) (by kernel_rfl) fun a hA => W.retVC_sound hA hK) a hA) ha.nil
noncomputable def C9 : Code := W.Code.snd C5
noncomputable def C10 : Code := W.Code.snd C9
noncomputable def C11 : Code := W.Code.fst C10
noncomputable def C12 : Code := W.Code.snd C11
noncomputable def C13 : Code := W.Code.snd C12
noncomputable def C14 : Code := W.Code.fst C13
abbrev Q3 (R : W.Post) : Exit → Act → World → Prop := (Exit.then (W.LoopWP Try.prog (W.cx 21) C5 (Q1 R)) (Q1 R))
abbrev Q4 (R : W.Post) : Exit → Act → World → Prop := (Exit.inBlock 1 (Q3 R))
noncomputable def C15 : Code := W.Code.fst C14
noncomputable def C16 : Code := W.Code.snd C14
/-- strings.go:913 -/
abbrev S7 (i7 : Int) (w : World) (R : W.Post) : Prop :=
  R (.returned (.int .i64 i7)) w
def KE_S7 (E : W.Env) (w : World) (R : W.Post) : Prop := W.asInt .i64 (W.Env.get? E 7) fun i7 => S7 i7 w R
theorem KE_S7_ok (R : W.Post) (E : W.Env) (w : World) (h : KE_S7 E w R) : W.WP Try.prog (W.cx 21) C14 (Q4 R) E w := by
  obtain ⟨i7, hq7, h1⟩ := W.asInt_elim h
  exact fun a ha => W.WP.at (n := (W.cx 21)) (E := [(7, .int .i64 i7)]) (W.WP.seq (c := C14) (x := C15) (y := C16) (by kernel_rfl) <| W.WP.reg (c := C15) (fun E w => W.retVC Try.prog Try.f61 E w (fun v => R (.returned v) w)) (by kernel_rfl) (Eq.mp (by kernel_rfl) h1) fun _ _ a hA hK => (W.WP.ret (c := C16) (by kernel_rfl) fun a hA => W.retVC_sound hA hK) a hA) (ha.cons hq7 ha.nil)
noncomputable def C17 : Code := W.Code.fst C12
noncomputable def C18 : Code := W.Code.snd C13
/-- strings.go:912 -/
abbrev S6 (f1 : W.Fv) (truth2 : Bool) (i7 r8 : Int) (t10 : Value) (w : World) (R : W.Post) : Prop :=
  W.AndT (W.callable Try.prog f1.n) (Calls Try.prog f1.n (f1.bs ++ #[.int .i32 r8] ++ f1.cs) w fun r_ w1 => ∃ t17 : Bool, r_ = .returned (.bool t17) ∧ 
  W.sel (t17 == truth2) (S7 i7 w1 R) (L2 f1 truth2 (t10 : Value) w1 R))
def KE_S6 (E : W.Env) (w : World) (R : W.Post) : Prop := W.asFn (W.Env.get? E 1) fun f1 => W.asBool' (W.Env.get? E 2) fun truth2 => W.asInt .i64 (W.Env.get? E 7) fun i7 => W.asInt .i32 (W.Env.get? E 8) fun r8 => W.asVal (W.Env.get? E 10) fun t10 => S6 f1 truth2 i7 r8 t10 w R
theorem KE_S6_ok (R : W.Post) (E : W.Env) (w : World) (h : KE_S6 E w R) : W.WP Try.prog (W.cx 21) C12 (Q4 R) E w := by
  obtain ⟨f1, hq1, h1⟩ := W.asFn_elim h
  obtain ⟨truth2, hq2, h2⟩ := W.asBool_elim h1
  obtain ⟨i7, hq7, h3⟩ := W.asInt_elim h2
  obtain ⟨r8, hq8, h4⟩ := W.asInt_elim h3
  obtain ⟨t10, hq10, h5⟩ := W.asVal_elim h4
  exact fun a ha => W.WP.at (n := (W.cx 21)) (E := [(1, f1.v), (2, .bool truth2), (7, .int .i64 i7), (8, .int .i32 r8), (10, t10)]) (W.WP.seq (c := C12) (x := C17) (y := C13) (by kernel_rfl) <| W.WP.reg (c := C17) (fun E w => W.condK (W.Env.val E (.tmp 19)) (KE_S7 E w R) (KE_L2 E w R)) (by kernel_rfl) (Eq.mp (by kernel_rfl) h5) fun _ _ a hA hK => (W.WP.condK (c := C13) (x := C14) (y := C18) (o := .tmp 19) (by kernel_rfl) (fun hK => (KE_S7_ok R _ _ hK)) (fun hK => (W.WP.skip (c := C18) (by kernel_rfl) fun a hA => KE_L2_ok R _ _ hK a hA)) hK) a hA) (ha.cons hq1 (ha.cons hq2 (ha.cons hq7 (ha.cons hq8 (ha.cons hq10 ha.nil)))))
noncomputable def C19 : Code := W.Code.fst C11
/-- strings.go:911 -/
abbrev S5 (f1 : W.Fv) (truth2 : Bool) (t10 : Value) (t11_0 : Bool) (t11_1 t11_2 : Int) (w : World) (R : W.Post) : Prop :=
  S6 f1 truth2 t11_1 t11_2 (t10 : Value) w R
def KE_S5 (E : W.Env) (w : World) (R : W.Post) : Prop := W.asFn (W.Env.get? E 1) fun f1 => W.asBool' (W.Env.get? E 2) fun truth2 => W.asVal (W.Env.get? E 10) fun t10 => W.asTuple (W.Env.get? E 11) fun t11_l0 => W.asCons t11_l0 fun t11_v0 t11_l1 => W.asBool' (some t11_v0) fun t11_0 => W.asCons t11_l1 fun t11_v1 t11_l2 => W.asInt .i64 (some t11_v1) fun t11_1 => W.asCons t11_l2 fun t11_v2 t11_l3 => W.asInt .i32 (some t11_v2) fun t11_2 => W.asNil t11_l3 <| S5 f1 truth2 t10 t11_0 t11_1 t11_2 w R
theorem KE_S5_ok (R : W.Post) (E : W.Env) (w : World) (h : KE_S5 E w R) : W.WP Try.prog (W.cx 21) C11 (Q4 R) E w := by
  obtain ⟨f1, hq1, h1⟩ := W.asFn_elim h
  obtain ⟨truth2, hq2, h2⟩ := W.asBool_elim h1
  obtain ⟨t10, hq10, h3⟩ := W.asVal_elim h2
  obtain ⟨t11_l0, hq11, h4⟩ := W.asTuple_elim h3
  obtain ⟨t11_v0, t11_l1, rfl, h5⟩ := W.asCons_elim h4
  obtain ⟨t11_0, ex, h6⟩ := W.asBool_elim h5
  obtain rfl := Option.some.inj ex
  obtain ⟨t11_v1, t11_l2, rfl, h7⟩ := W.asCons_elim h6
  obtain ⟨t11_1, ex, h8⟩ := W.asInt_elim h7
  obtain rfl := Option.some.inj ex
  obtain ⟨t11_v2, t11_l3, rfl, h9⟩ := W.asCons_elim h8
  obtain ⟨t11_2, ex, h10⟩ := W.asInt_elim h9
  obtain rfl := Option.some.inj ex
  obtain ⟨rfl, h11⟩ := W.asNil_elim h10
  exact fun a ha => W.WP.at (n := (W.cx 21)) (E := [(1, f1.v), (2, .bool truth2), (10, t10), (11, .tuple #[.bool t11_0, .int .i64 t11_1, .int .i32 t11_2])]) (W.WP.seq (c := C11) (x := C19) (y := C12) (by kernel_rfl) <| W.WP.reg (c := C19) (fun E w => KE_S6 E w R) (by kernel_rfl) (Eq.mp (by kernel_rfl) h11) fun _ _ a hA hK => (KE_S6_ok R _ _ hK) a hA) (ha.cons hq1 (ha.cons hq2 (ha.cons hq10 (ha.cons hq11 ha.nil))))
noncomputable def C20 : Code := W.Code.fst C5
noncomputable def C21 : Code := W.Code.fst C9
noncomputable def C22 : Code := W.Code.fst C21
noncomputable def C23 : Code := W.Code.snd C21
/-- strings.go:911 -/
abbrev S3 (f1 : W.Fv) (truth2 : Bool) (t10 : Value) (w : World) (R : W.Post) : Prop :=
  ((∃ w1 : World, Sem.run Try.prog (Instr.next (t10) true ty_) w = .ok (.tuple #[.bool false]) w1 ∧ S4  w1 R) ∨ (∃ (t11_i t11_c : Int) (w1 : World), Sem.run Try.prog (Instr.next (t10) true ty_) w = .ok (.tuple #[.bool true, .int .i64 t11_i, .int .i32 t11_c]) w1 ∧ S5 f1 truth2 (t10 : Value) true t11_i t11_c w1 R))
def KE_S3 (E : W.Env) (w : World) (R : W.Post) : Prop := W.asFn (W.Env.get? E 1) fun f1 => W.asBool' (W.Env.get? E 2) fun truth2 => W.asVal (W.Env.get? E 10) fun t10 => S3 f1 truth2 t10 w R
theorem KE_S3_ok (R : W.Post) (E : W.Env) (w : World) (h : KE_S3 E w R) : W.WP Try.prog (W.cx 21) C5 (Q3 R) E w := by
  obtain ⟨f1, hq1, h1⟩ := W.asFn_elim h
  obtain ⟨truth2, hq2, h2⟩ := W.asBool_elim h1
  obtain ⟨t10, hq10, h3⟩ := W.asVal_elim h2
  exact fun a ha => W.WP.at (n := (W.cx 21)) (E := [(1, f1.v), (2, .bool truth2), (10, t10)]) (W.WP.seq (c := C5) (x := C20) (y := C9) (by kernel_rfl) <| W.WP.reg (c := C20) (fun E w => W.condK (W.Env.val E (.tmp 12)) (KE_S5 E w R) (KE_S4 E w R)) (by kernel_rfl) (Eq.mp (by kernel_rfl) h3) fun _ _ a hA hK => (W.WP.seq (c := C9) (x := C21) (y := C10) (by kernel_rfl) (W.WP.condK (c := C21) (x := C22) (y := C23) (o := .tmp 12) (by kernel_rfl) (fun hK => (W.WP.skip (c := C22) (by kernel_rfl) fun a hA => (W.WP.block (c := C10) (x := C11) (id := 1) (by kernel_rfl) (KE_S5_ok R _ _ hK)) a hA)) (fun hK => (W.WP.exit (c := C23) (id := 0) (by kernel_rfl) fun a hA => (KE_S4_ok R _ _ hK) a hA)) hK)) a hA) (ha.cons hq1 (ha.cons hq2 (ha.cons hq10 ha.nil)))
theorem L2_step (f1 : W.Fv) (truth2 : Bool) (t10 : Value) (w : World) (R : W.Post) (h : S3 f1 truth2 (t10 : Value) w R) : L2 f1 truth2 t10 w R :=
  W.LP.step (n := (W.cx 21)) (c := C5) (E := [(1, f1.v), (2, .bool truth2), (10, t10)]) (w := w) (KE_S3_ok R _ _ (Eq.mp (by kernel_rfl) h))
noncomputable def C24 : Code := W.Code.fst C2
/-- strings.go:911 -/
abbrev S1 (s0 : ByteArray) (f1 : W.Fv) (truth2 : Bool) (w : World) (R : W.Post) : Prop :=
  ∃ (t10 : Value) (w1 : World), Sem.run Try.prog (Instr.range ty_string (.string s0)) w = .ok t10 w1 ∧ L2 f1 truth2 (t10 : Value) w1 R
def KE_S1 (E : W.Env) (w : World) (R : W.Post) : Prop := W.asStr (W.Env.get? E 0) fun s0 => W.asFn (W.Env.get? E 1) fun f1 => W.asBool' (W.Env.get? E 2) fun truth2 => S1 s0 f1 truth2 w R
theorem KE_S1_ok (R : W.Post) (E : W.Env) (w : World) (h : KE_S1 E w R) : W.WP Try.prog (W.cx 21) C2 (Q0 R) E w := by
  obtain ⟨s0, hq0, h1⟩ := W.asStr_elim h
  obtain ⟨f1, hq1, h2⟩ := W.asFn_elim h1
  obtain ⟨truth2, hq2, h3⟩ := W.asBool_elim h2
  exact fun a ha => W.WP.at (n := (W.cx 21)) (E := [(0, .string s0), (1, f1.v), (2, .bool truth2)]) (W.WP.seq (c := C2) (x := C24) (y := C3) (by kernel_rfl) <| W.WP.reg (c := C24) (fun E w => KE_L2 E w R) (by kernel_rfl) (Eq.mp (by kernel_rfl) h3) fun _ _ a hA hK => (W.WP.block (c := C3) (x := C4) (id := 0) (by kernel_rfl) (W.WP.loop (c := C4) (x := C5) (by kernel_rfl) (KE_L2_ok R _ _ hK))) a hA) (ha.cons hq0 (ha.cons hq1 (ha.cons hq2 ha.nil)))
noncomputable def C25 : Code := W.Code.fst C0
/-- strings.go:910 -/
abbrev S0 (s0 : ByteArray) (f1 : W.Fv) (truth2 : Bool) (w : World) (R : W.Post) : Prop :=
  S1 s0 f1 truth2 w R
def KE_S0 (E : W.Env) (w : World) (R : W.Post) : Prop := W.asStr (W.Env.get? E 0) fun s0 => W.asFn (W.Env.get? E 1) fun f1 => W.asBool' (W.Env.get? E 2) fun truth2 => S0 s0 f1 truth2 w R
theorem KE_S0_ok (R : W.Post) (E : W.Env) (w : World) (h : KE_S0 E w R) : W.WP Try.prog (W.cx 21) C0 (Q2 R) E w := by
  obtain ⟨s0, hq0, h1⟩ := W.asStr_elim h
  obtain ⟨f1, hq1, h2⟩ := W.asFn_elim h1
  obtain ⟨truth2, hq2, h3⟩ := W.asBool_elim h2
  exact fun a ha => W.WP.at (n := (W.cx 21)) (E := [(0, .string s0), (1, f1.v), (2, .bool truth2)]) (W.WP.seq (c := C0) (x := C25) (y := C1) (by kernel_rfl) <| W.WP.reg (c := C25) (fun E w => KE_S1 E w R) (by kernel_rfl) (Eq.mp (by kernel_rfl) h3) fun _ _ a hA hK => (W.WP.seq (c := C1) (x := C2) (y := C6) (by kernel_rfl) (KE_S1_ok R _ _ hK)) a hA) (ha.cons hq0 (ha.cons hq1 (ha.cons hq2 ha.nil)))
/-- strings.indexFunc -/
theorem ok (s0 : ByteArray) (f1 : W.Fv) (truth2 : Bool) (w : World) (R : W.Post) (h : S0 s0 f1 truth2 w R) : Calls Try.prog n_strings_indexFunc #[.string s0, f1.v, .bool truth2] w R :=
  W.calls_of_WP' (fn := Try.f61) (c := C0) (args := [.string s0, f1.v, .bool truth2]) (by kernel_rfl) (by kernel_rfl) (by kernel_rfl) (KE_S0_ok R _ _ (Eq.mp (by kernel_rfl) h))
end strings_indexFunc
namespace lexer_allDigits
noncomputable def C0 : Code := (Try.f56.body).getD .skip
noncomputable def C1 : Code := W.Code.snd C0
abbrev Q0 (R : W.Post) : Exit → Act → World → Prop := (bodyPost Try.prog Try.f56 R)
noncomputable def C2 : Code := W.Code.fst C1
noncomputable def C3 : Code := W.Code.snd C1
/-- lexer.go:59 -/
abbrev S1 (s0 : ByteArray) (base3 : Addr) (w : World) (R : W.Post) : Prop :=
  Calls Try.prog n_strings_IndexFunc #[.string s0, .func (.func n_lexer_allDigits_1) #[] #[.pointer (some base3)]] w fun r_ w1 => ∃ t7 : Int, r_ = .returned (.int .i64 t7) ∧ 
  R (.returned (.bool (decide (t7 < 0)))) w1
def KE_S1 (E : W.Env) (w : World) (R : W.Post) : Prop := W.asStr (W.Env.get? E 0) fun s0 => W.asRef (W.Env.get? E 3) fun base3 => S1 s0 base3 w R
theorem KE_S1_ok (R : W.Post) (E : W.Env) (w : World) (h : KE_S1 E w R) : W.WP Try.prog (W.cx 9) C1 (Q0 R) E w := by
  obtain ⟨s0, hq0, h1⟩ := W.asStr_elim h
  obtain ⟨base3, hq3, h2⟩ := W.asRef_elim h1
  exact fun a ha => W.WP.at (n := (W.cx 9)) (E := [(0, .string s0), (3, .pointer (some base3))]) (W.WP.seq (c := C1) (x := C2) (y := C3) (by kernel_rfl) <| W.WP.reg (c := C2) (fun E w => W.retVC Try.prog Try.f56 E w (fun v => R (.returned v) w)) (by kernel_rfl) (Eq.mp (by kernel_rfl) h2) fun _ _ a hA hK => (W.WP.ret (c := C3) (by kernel_rfl) fun a hA => W.retVC_sound hA hK) a hA) (ha.cons hq0 (ha.cons hq3 ha.nil))
noncomputable def C4 : Code := W.Code.fst C0
/-- lexer.go:58 -/
abbrev S0 (s0 : ByteArray) (base1 : Int) (w : World) (R : W.Post) : Prop :=
  let w1 := w.alloc (.cells #[.int .i64 base1] ty_int)
  S1 s0 (Addr.mk w.heap.size 0 none) w1 R
def KE_S0 (E : W.Env) (w : World) (R : W.Post) : Prop := W.asStr (W.Env.get? E 0) fun s0 => W.asInt .i64 (W.Env.get? E 1) fun base1 => S0 s0 base1 w R
theorem KE_S0_ok (R : W.Post) (E : W.Env) (w : World) (h : KE_S0 E w R) : W.WP Try.prog (W.cx 9) C0 (Q0 R) E w := by
  obtain ⟨s0, hq0, h1⟩ := W.asStr_elim h
  obtain ⟨base1, hq1, h2⟩ := W.asInt_elim h1
  exact fun a ha => W.WP.at (n := (W.cx 9)) (E := [(0, .string s0), (1, .int .i64 base1)]) (W.WP.seq (c := C0) (x := C4) (y := C1) (by kernel_rfl) <| W.WP.reg (c := C4) (fun E w => KE_S1 E w R) (by kernel_rfl) (Eq.mp (by kernel_rfl) h2) fun _ _ a hA hK => (KE_S1_ok R _ _ hK) a hA) (ha.cons hq0 (ha.cons hq1 ha.nil))
/-- enthymeme/lexer.allDigits -/
theorem ok (s0 : ByteArray) (base1 : Int) (w : World) (R : W.Post) (h : S0 s0 base1 w R) : Calls Try.prog n_lexer_allDigits #[.string s0, .int .i64 base1] w R :=
  W.calls_of_WP' (fn := Try.f56) (c := C0) (args := [.string s0, .int .i64 base1]) (by kernel_rfl) (by kernel_rfl) (by kernel_rfl) (KE_S0_ok R _ _ (Eq.mp (by kernel_rfl) h))
end lexer_allDigits
namespace lexer_allDigits_1
noncomputable def C0 : Code := (Try.f59.body).getD .skip
noncomputable def C1 : Code := W.Code.snd C0
abbrev Q0 (R : W.Post) : Exit → Act → World → Prop := (bodyPost Try.prog Try.f59 R)
noncomputable def C2 : Code := W.Code.fst C1
noncomputable def C3 : Code := W.Code.snd C1
/-- lexer.go:59 -/
abbrev S1 (c0 : Int) (t1 : Addr) (w : World) (R : W.Post) : Prop :=
  ∃ t5 : Int, w.cell? t1 = some (.int .i64 t5) ∧ 
  Calls Try.prog n_lexer_digit_rune #[.int .i32 c0, .int .i64 t5] w fun r_ w1 => ∃ t6 : Bool, r_ = .returned (.bool t6) ∧ 
  R (.returned (.bool (!t6))) w1
def KE_S1 (E : W.Env) (w : World) (R : W.Post) : Prop := W.asInt .i32 (W.Env.get? E 0) fun c0 => W.asRef (W.Env.get? E 1) fun t1 => S1 c0 t1 w R
theorem KE_S1_ok (R : W.Post) (E : W.Env) (w : World) (h : KE_S1 E w R) : W.WP Try.prog (W.cx 8) C1 (Q0 R) E w := by
  obtain ⟨c0, hq0, h1⟩ := W.asInt_elim h
  obtain ⟨t1, hq1, h2⟩ := W.asRef_elim h1
  exact fun a ha => W.WP.at (n := (W.cx 8)) (E := [(0, .int .i32 c0), (1, .pointer (some t1))]) (W.WP.seq (c := C1) (x := C2) (y := C3) (by kernel_rfl) <| W.WP.reg (c := C2) (fun E w => W.retVC Try.prog Try.f59 E w (fun v => R (.returned v) w)) (by kernel_rfl) (Eq.mp (by kernel_rfl) h2) fun _ _ a hA hK => (W.WP.ret (c := C3) (by kernel_rfl) fun a hA => W.retVC_sound hA hK) a hA) (ha.cons hq0 (ha.cons hq1 ha.nil))
noncomputable def C4 : Code := W.Code.fst C0
/-- lexer.go:59 -/
abbrev S0 (c0 : Int) (t1 : Addr) (w : World) (R : W.Post) : Prop :=
  S1 c0 t1 w R
def KE_S0 (E : W.Env) (w : World) (R : W.Post) : Prop := W.asInt .i32 (W.Env.get? E 0) fun c0 => W.asRef (W.Env.get? E 1) fun t1 => S0 c0 t1 w R
theorem KE_S0_ok (R : W.Post) (E : W.Env) (w : World) (h : KE_S0 E w R) : W.WP Try.prog (W.cx 8) C0 (Q0 R) E w := by
  obtain ⟨c0, hq0, h1⟩ := W.asInt_elim h
  obtain ⟨t1, hq1, h2⟩ := W.asRef_elim h1
  exact fun a ha => W.WP.at (n := (W.cx 8)) (E := [(0, .int .i32 c0), (1, .pointer (some t1))]) (W.WP.seq (c := C0) (x := C4) (y := C1) (by kernel_rfl) <| W.WP.reg (c := C4) (fun E w => KE_S1 E w R) (by kernel_rfl) (Eq.mp (by kernel_rfl) h2) fun _ _ a hA hK => (KE_S1_ok R _ _ hK) a hA) (ha.cons hq0 (ha.cons hq1 ha.nil))
/-- enthymeme/lexer.allDigits$1 -/
theorem ok (c0 : Int) (t1 : Addr) (w : World) (R : W.Post) (h : S0 c0 t1 w R) : Calls Try.prog n_lexer_allDigits_1 #[.int .i32 c0, .pointer (some t1)] w R :=
  W.calls_of_WP' (fn := Try.f59) (c := C0) (args := [.int .i32 c0, .pointer (some t1)]) (by kernel_rfl) (by kernel_rfl) (by kernel_rfl) (KE_S0_ok R _ _ (Eq.mp (by kernel_rfl) h))
end lexer_allDigits_1
namespace lexer_digit_rune
noncomputable def C0 : Code := (Try.f60.body).getD .skip
noncomputable def C1 : Code := W.Code.snd C0
noncomputable def C2 : Code := W.Code.fst C1
noncomputable def C3 : Code := W.Code.snd C2
noncomputable def C4 : Code := W.Code.fst C3
noncomputable def C5 : Code := W.Code.snd C4
noncomputable def C6 : Code := W.Code.fst C5
noncomputable def C7 : Code := W.Code.snd C1
abbrev Q0 (R : W.Post) : Exit → Act → World → Prop := (Exit.then (W.wpx Try.prog (W.cx 36) C7 (bodyPost Try.prog Try.f60 R)) (bodyPost Try.prog Try.f60 R))
abbrev Q1 (R : W.Post) : Exit → Act → World → Prop := (Exit.inBlock 0 (Q0 R))
noncomputable def C8 : Code := W.Code.fst C6
noncomputable def C9 : Code := W.Code.snd C6
/-- lexer.go:50 -/
abbrev S3 (c0 : Int) (w : World) (R : W.Post) : Prop :=
  W.sel (c0 == 48) (R (.returned (.bool true)) w) (R (.returned (.bool (c0 == 49))) w)
def KE_S3 (E : W.Env) (w : World) (R : W.Post) : Prop := W.asInt .i32 (W.Env.get? E 0) fun c0 => S3 c0 w R
theorem KE_S3_ok (R : W.Post) (E : W.Env) (w : World) (h : KE_S3 E w R) : W.WP Try.prog (W.cx 36) C6 (Q1 R) E w := by
  obtain ⟨c0, hq0, h1⟩ := W.asInt_elim h
  exact fun a ha => W.WP.at (n := (W.cx 36)) (E := [(0, .int .i32 c0)]) (W.WP.seq (c := C6) (x := C8) (y := C9) (by kernel_rfl) <| W.WP.reg (c := C8) (fun E w => W.retVC Try.prog Try.f60 E w (fun v => R (.returned v) w)) (by kernel_rfl) (Eq.mp (by kernel_rfl) h1) fun _ _ a hA hK => (W.WP.ret (c := C9) (by kernel_rfl) fun a hA => W.retVC_sound hA hK) a hA) (ha.cons hq0 ha.nil)
noncomputable def C10 : Code := W.Code.snd C5
noncomputable def C11 : Code := W.Code.snd C10
noncomputable def C12 : Code := W.Code.fst C11
noncomputable def C13 : Code := W.Code.fst C12
noncomputable def C14 : Code := W.Code.snd C12
/-- lexer.go:52 -/
abbrev S5 (c0 : Int) (w : World) (R : W.Post) : Prop :=
  W.sel (decide (c0 ≥ 48)) (W.sel (decide (c0 ≤ 57)) (R (.returned (.bool true)) w) (W.sel (decide (c0 ≥ 97)) (R (.returned (.bool (decide (c0 ≤ 102)))) w) (R (.returned (.bool false)) w))) (W.sel (decide (c0 ≥ 97)) (R (.returned (.bool (decide (c0 ≤ 102)))) w) (R (.returned (.bool false)) w))
def KE_S5 (E : W.Env) (w : World) (R : W.Post) : Prop := W.asInt .i32 (W.Env.get? E 0) fun c0 => S5 c0 w R
theorem KE_S5_ok (R : W.Post) (E : W.Env) (w : World) (h : KE_S5 E w R) : W.WP Try.prog (W.cx 36) C12 (Q1 R) E w := by
  obtain ⟨c0, hq0, h1⟩ := W.asInt_elim h
  exact fun a ha => W.WP.at (n := (W.cx 36)) (E := [(0, .int .i32 c0)]) (W.WP.seq (c := C12) (x := C13) (y := C14) (by kernel_rfl) <| W.WP.reg (c := C13) (fun E w => W.retVC Try.prog Try.f60 E w (fun v => R (.returned v) w)) (by kernel_rfl) (Eq.mp (by kernel_rfl) h1) fun _ _ a hA hK => (W.WP.ret (c := C14) (by kernel_rfl) fun a hA => W.retVC_sound hA hK) a hA) (ha.cons hq0 ha.nil)
abbrev Q2 (R : W.Post) : Exit → Act → World → Prop := (bodyPost Try.prog Try.f60 R)
noncomputable def C15 : Code := W.Code.fst C7
noncomputable def C16 : Code := W.Code.snd C7
/-- lexer.go:54 -/
abbrev S6 (c0 : Int) (w : World) (R : W.Post) : Prop :=
  W.sel (decide (c0 ≥ 48)) (R (.returned (.bool (decide (c0 ≤ 57)))) w) (R (.returned (.bool false)) w)
def KE_S6 (E : W.Env) (w : World) (R : W.Post) : Prop := W.asInt .i32 (W.Env.get? E 0) fun c0 => S6 c0 w R
theorem KE_S6_ok (R : W.Post) (E : W.Env) (w : World) (h : KE_S6 E w R) : W.WP Try.prog (W.cx 36) C7 (Q2 R) E w := by
  obtain ⟨c0, hq0, h1⟩ := W.asInt_elim h
  exact fun a ha => W.WP.at (n := (W.cx 36)) (E := [(0, .int .i32 c0)]) (W.WP.seq (c := C7) (x := C15) (y := C16) (by kernel_rfl) <| W.WP.reg (c := C15) (fun E w => W.retVC Try.prog Try.f60 E w (fun v => R (.returned v) w)) (by kernel_rfl) (Eq.mp (by kernel_rfl) h1) fun _ _ a hA hK => (W.WP.ret (c := C16) (by kernel_rfl) fun a hA => W.retVC_sound hA hK) a hA) (ha.cons hq0 ha.nil)
noncomputable def C17 : Code := W.Code.fst C10
noncomputable def C18 : Code := W.Code.snd C11
/-- lexer.go:51 -/
abbrev S4 (c0 t5 : Int) (w : World) (R : W.Post) : Prop :=
  W.sel (t5 == 16) (S5 c0 w R) (S6 c0 w R)
def KE_S4 (E : W.Env) (w : World) (R : W.Post) : Prop := W.asInt .i32 (W.Env.get? E 0) fun c0 => W.asInt .i64 (W.Env.get? E 5) fun t5 => S4 c0 t5 w R
theorem KE_S4_ok (R : W.Post) (E : W.Env) (w : World) (h : KE_S4 E w R) : W.WP Try.prog (W.cx 36) C10 (Q1 R) E w := by
  obtain ⟨c0, hq0, h1⟩ := W.asInt_elim h
  obtain ⟨t5, hq5, h2⟩ := W.asInt_elim h1
  exact fun a ha => W.WP.at (n := (W.cx 36)) (E := [(0, .int .i32 c0), (5, .int .i64 t5)]) (W.WP.seq (c := C10) (x := C17) (y := C11) (by kernel_rfl) <| W.WP.reg (c := C17) (fun E w => W.condK (W.Env.val E (.tmp 14)) (KE_S5 E w R) (KE_S6 E w R)) (by kernel_rfl) (Eq.mp (by kernel_rfl) h2) fun _ _ a hA hK => (W.WP.condK (c := C11) (x := C12) (y := C18) (o := .tmp 14) (by kernel_rfl) (fun hK => (KE_S5_ok R _ _ hK)) (fun hK => (W.WP.skip (c := C18) (by kernel_rfl) fun a hA => (KE_S6_ok R _ _ hK) a hA)) hK) a hA) (ha.cons hq0 (ha.cons hq5 ha.nil))
noncomputable def C19 : Code := W.Code.fst C4
/-- lexer.go:49 -/
abbrev S2 (c0 t5 : Int) (w : World) (R : W.Post) : Prop :=
  W.sel (t5 == 2) (S3 c0 w R) (S4 c0 t5 w R)
def KE_S2 (E : W.Env) (w : World) (R : W.Post) : Prop := W.asInt .i32 (W.Env.get? E 0) fun c0 => W.asInt .i64 (W.Env.get? E 5) fun t5 => S2 c0 t5 w R
theorem KE_S2_ok (R : W.Post) (E : W.Env) (w : World) (h : KE_S2 E w R) : W.WP Try.prog (W.cx 36) C4 (Q1 R) E w := by
  obtain ⟨c0, hq0, h1⟩ := W.asInt_elim h
  obtain ⟨t5, hq5, h2⟩ := W.asInt_elim h1
  exact fun a ha => W.WP.at (n := (W.cx 36)) (E := [(0, .int .i32 c0), (5, .int .i64 t5)]) (W.WP.seq (c := C4) (x := C19) (y := C5) (by kernel_rfl) <| W.WP.reg (c := C19) (fun E w => W.condK (W.Env.val E (.tmp 6)) (KE_S3 E w R) (KE_S4 E w R)) (by kernel_rfl) (Eq.mp (by kernel_rfl) h2) fun _ _ a hA hK => (W.WP.condK (c := C5) (x := C6) (y := C10) (o := .tmp 6) (by kernel_rfl) (fun hK => (KE_S3_ok R _ _ hK)) (fun hK => (KE_S4_ok R _ _ hK)) hK) a hA) (ha.cons hq0 (ha.cons hq5 ha.nil))
noncomputable def C20 : Code := W.Code.fst C2
/-- lexer.go:48 -/
abbrev S1 (c0 base1 : Int) (w : World) (R : W.Post) : Prop :=
  S2 c0 base1 w R
def KE_S1 (E : W.Env) (w : World) (R : W.Post) : Prop := W.asInt .i32 (W.Env.get? E 0) fun c0 => W.asInt .i64 (W.Env.get? E 1) fun base1 => S1 c0 base1 w R
theorem KE_S1_ok (R : W.Post) (E : W.Env) (w : World) (h : KE_S1 E w R) : W.WP Try.prog (W.cx 36) C2 (Q0 R) E w := by
  obtain ⟨c0, hq0, h1⟩ := W.asInt_elim h
  obtain ⟨base1, hq1, h2⟩ := W.asInt_elim h1
  exact fun a ha => W.WP.at (n := (W.cx 36)) (E := [(0, .int .i32 c0), (1, .int .i64 base1)]) (W.WP.seq (c := C2) (x := C20) (y := C3) (by kernel_rfl) <| W.WP.reg (c := C20) (fun E w => KE_S2 E w R) (by kernel_rfl) (Eq.mp (by kernel_rfl) h2) fun _ _ a hA hK => (W.WP.block (c := C3) (x := C4) (id := 0) (by kernel_rfl) (KE_S2_ok R _ _ hK)) a hA) (ha.cons hq0 (ha.cons hq1 ha.nil))
noncomputable def C21 : Code := W.Code.fst C0
/-- lexer.go:47 -/
abbrev S0 (c0 base1 : Int) (w : World) (R : W.Post) : Prop :=
  S1 c0 base1 w R
def KE_S0 (E : W.Env) (w : World) (R : W.Post) : Prop := W.asInt .i32 (W.Env.get? E 0) fun c0 => W.asInt .i64 (W.Env.get? E 1) fun base1 => S0 c0 base1 w R
theorem KE_S0_ok (R : W.Post) (E : W.Env) (w : World) (h : KE_S0 E w R) : W.WP Try.prog (W.cx 36) C0 (Q2 R) E w := by
  obtain ⟨c0, hq0, h1⟩ := W.asInt_elim h
  obtain ⟨base1, hq1, h2⟩ := W.asInt_elim h1
  exact fun a ha => W.WP.at (n := (W.cx 36)) (E := [(0, .int .i32 c0), (1, .int .i64 base1)]) (W.WP.seq (c := C0) (x := C21) (y := C1) (by kernel_rfl) <| W.WP.reg (c := C21) (fun E w => KE_S1 E w R) (by kernel_rfl) (Eq.mp (by kernel_rfl) h2) fun _ _ a hA hK => (W.WP.seq (c := C1) (x := C2) (y := C7) (by kernel_rfl) (KE_S1_ok R _ _ hK)) a hA) (ha.cons hq0 (ha.cons hq1 ha.nil))
/-- enthymeme/lexer.digit[rune] -/
theorem ok (c0 base1 : Int) (w : World) (R : W.Post) (h : S0 c0 base1 w R) : Calls Try.prog n_lexer_digit_rune #[.int .i32 c0, .int .i64 base1] w R :=
  W.calls_of_WP' (fn := Try.f60) (c := C0) (args := [.int .i32 c0, .int .i64 base1]) (by kernel_rfl) (by kernel_rfl) (by kernel_rfl) (KE_S0_ok R _ _ (Eq.mp (by kernel_rfl) h))
end lexer_digit_rune
namespace lexer_small_byte
noncomputable def C0 : Code := (Try.f47.body).getD .skip
noncomputable def C1 : Code := W.Code.snd C0
abbrev Q0 (R : W.Post) : Exit → Act → World → Prop := (bodyPost Try.prog Try.f47 R)
noncomputable def C2 : Code := W.Code.fst C1
noncomputable def C3 : Code := W.Code.snd C1
/-- lexer.go:44 -/
abbrev S1 (c0 : Int) (w : World) (R : W.Post) : Prop :=
  W.sel (decide (c0 ≥ 97)) (R (.returned (.bool (decide (c0 ≤ 122)))) w) (R (.returned (.bool false)) w)
def KE_S1 (E : W.Env) (w : World) (R : W.Post) : Prop := W.asInt .u8 (W.Env.get? E 0) fun c0 => S1 c0 w R
theorem KE_S1_ok (R : W.Post) (E : W.Env) (w : World) (h : KE_S1 E w R) : W.WP Try.prog (W.cx 9) C1 (Q0 R) E w := by
  obtain ⟨c0, hq0, h1⟩ := W.asInt_elim h
  exact fun a ha => W.WP.at (n := (W.cx 9)) (E := [(0, .int .u8 c0)]) (W.WP.seq (c := C1) (x := C2) (y := C3) (by kernel_rfl) <| W.WP.reg (c := C2) (fun E w => W.retVC Try.prog Try.f47 E w (fun v => R (.returned v) w)) (by kernel_rfl) (Eq.mp (by kernel_rfl) h1) fun _ _ a hA hK => (W.WP.ret (c := C3) (by kernel_rfl) fun a hA => W.retVC_sound hA hK) a hA) (ha.cons hq0 ha.nil)
noncomputable def C4 : Code := W.Code.fst C0
/-- lexer.go:44 -/
abbrev S0 (c0 : Int) (w : World) (R : W.Post) : Prop :=
  S1 c0 w R
def KE_S0 (E : W.Env) (w : World) (R : W.Post) : Prop := W.asInt .u8 (W.Env.get? E 0) fun c0 => S0 c0 w R
theorem KE_S0_ok (R : W.Post) (E : W.Env) (w : World) (h : KE_S0 E w R) : W.WP Try.prog (W.cx 9) C0 (Q0 R) E w := by
  obtain ⟨c0, hq0, h1⟩ := W.asInt_elim h
  exact fun a ha => W.WP.at (n := (W.cx 9)) (E := [(0, .int .u8 c0)]) (W.WP.seq (c := C0) (x := C4) (y := C1) (by kernel_rfl) <| W.WP.reg (c := C4) (fun E w => KE_S1 E w R) (by kernel_rfl) (Eq.mp (by kernel_rfl) h1) fun _ _ a hA hK => (KE_S1_ok R _ _ hK) a hA) (ha.cons hq0 ha.nil)
/-- enthymeme/lexer.small[byte] -/
theorem ok (c0 : Int) (w : World) (R : W.Post) (h : S0 c0 w R) : Calls Try.prog n_lexer_small_byte #[.int .u8 c0] w R :=
  W.calls_of_WP' (fn := Try.f47) (c := C0) (args := [.int .u8 c0]) (by kernel_rfl) (by kernel_rfl) (by kernel_rfl) (KE_S0_ok R _ _ (Eq.mp (by kernel_rfl) h))
end lexer_small_byte
namespace lexer_digit_byte
noncomputable def C0 : Code := (Try.f48.body).getD .skip
noncomputable def C1 : Code := W.Code.snd C0
noncomputable def C2 : Code := W.Code.fst C1
noncomputable def C3 : Code := W.Code.snd C2
noncomputable def C4 : Code := W.Code.fst C3
noncomputable def C5 : Code := W.Code.snd C4
noncomputable def C6 : Code := W.Code.fst C5
noncomputable def C7 : Code := W.Code.snd C1
abbrev Q0 (R : W.Post) : Exit → Act → World → Prop := (Exit.then (W.wpx Try.prog (W.cx 36) C7 (bodyPost Try.prog Try.f48 R)) (bodyPost Try.prog Try.f48 R))
abbrev Q1 (R : W.Post) : Exit → Act → World → Prop := (Exit.inBlock 0 (Q0 R))
noncomputable def C8 : Code := W.Code.fst C6
noncomputable def C9 : Code := W.Code.snd C6
/-- lexer.go:50 -/
abbrev S3 (c0 : Int) (w : World) (R : W.Post) : Prop :=
  W.sel (c0 == 48) (R (.returned (.bool true)) w) (R (.returned (.bool (c0 == 49))) w)
def KE_S3 (E : W.Env) (w : World) (R : W.Post) : Prop := W.asInt .u8 (W.Env.get? E 0) fun c0 => S3 c0 w R
theorem KE_S3_ok (R : W.Post) (E : W.Env) (w : World) (h : KE_S3 E w R) : W.WP Try.prog (W.cx 36) C6 (Q1 R) E w := by
  obtain ⟨c0, hq0, h1⟩ := W.asInt_elim h
  exact fun a ha => W.WP.at (n := (W.cx 36)) (E := [(0, .int .u8 c0)]) (W.WP.seq (c := C6) (x := C8) (y := C9) (by kernel_rfl) <| W.WP.reg (c := C8) (fun E w => W.retVC Try.prog Try.f48 E w (fun v => R (.returned v) w)) (by kernel_rfl) (Eq.mp (by kernel_rfl) h1) fun _ _ a hA hK => (W.WP.ret (c := C9) (by kernel_rfl) fun a hA => W.retVC_sound hA hK) a hA) (ha.cons hq0 ha.nil)
noncomputable def C10 : Code := W.Code.snd C5
noncomputable def C11 : Code := W.Code.snd C10
noncomputable def C12 : Code := W.Code.fst C11
noncomputable def C13 : Code := W.Code.fst C12
noncomputable def C14 : Code := W.Code.snd C12
/-- lexer.go:52 -/
abbrev S5 (c0 : Int) (w : World) (R : W.Post) : Prop :=
  W.sel (decide (c0 ≥ 48)) (W.sel (decide (c0 ≤ 57)) (R (.returned (.bool true)) w) (W.sel (decide (c0 ≥ 97)) (R (.returned (.bool (decide (c0 ≤ 102)))) w) (R (.returned (.bool false)) w))) (W.sel (decide (c0 ≥ 97)) (R (.returned (.bool (decide (c0 ≤ 102)))) w) (R (.returned (.bool false)) w))
def KE_S5 (E : W.Env) (w : World) (R : W.Post) : Prop := W.asInt .u8 (W.Env.get? E 0) fun c0 => S5 c0 w R
theorem KE_S5_ok (R : W.Post) (E : W.Env) (w : World) (h : KE_S5 E w R) : W.WP Try.prog (W.cx 36) C12 (Q1 R) E w := by
  obtain ⟨c0, hq0, h1⟩ := W.asInt_elim h
  exact fun a ha => W.WP.at (n := (W.cx 36)) (E := [(0, .int .u8 c0)]) (W.WP.seq (c := C12) (x := C13) (y := C14) (by kernel_rfl) <| W.WP.reg (c := C13) (fun E w => W.retVC Try.prog Try.f48 E w (fun v => R (.returned v) w)) (by kernel_rfl) (Eq.mp (by kernel_rfl) h1) fun _ _ a hA hK => (W.WP.ret (c := C14) (by kernel_rfl) fun a hA => W.retVC_sound hA hK) a hA) (ha.cons hq0 ha.nil)
abbrev Q2 (R : W.Post) : Exit → Act → World → Prop := (bodyPost Try.prog Try.f48 R)
noncomputable def C15 : Code := W.Code.fst C7
noncomputable def C16 : Code := W.Code.snd C7
/-- lexer.go:54 -/
abbrev S6 (c0 : Int) (w : World) (R : W.Post) : Prop :=
  W.sel (decide (c0 ≥ 48)) (R (.returned (.bool (decide (c0 ≤ 57)))) w) (R (.returned (.bool false)) w)
def KE_S6 (E : W.Env) (w : World) (R : W.Post) : Prop := W.asInt .u8 (W.Env.get? E 0) fun c0 => S6 c0 w R
theorem KE_S6_ok (R : W.Post) (E : W.Env) (w : World) (h : KE_S6 E w R) : W.WP Try.prog (W.cx 36) C7 (Q2 R) E w := by
  obtain ⟨c0, hq0, h1⟩ := W.asInt_elim h
  exact fun a ha => W.WP.at (n := (W.cx 36)) (E := [(0, .int .u8 c0)]) (W.WP.seq (c := C7) (x := C15) (y := C16) (by kernel_rfl) <| W.WP.reg (c := C15) (fun E w => W.retVC Try.prog Try.f48 E w (fun v => R (.returned v) w)) (by kernel_rfl) (Eq.mp (by kernel_rfl) h1) fun _ _ a hA hK => (W.WP.ret (c := C16) (by kernel_rfl) fun a hA => W.retVC_sound hA hK) a hA) (ha.cons hq0 ha.nil)
noncomputable def C17 : Code := W.Code.fst C10
noncomputable def C18 : Code := W.Code.snd C11
/-- lexer.go:51 -/
abbrev S4 (c0 t5 : Int) (w : World) (R : W.Post) : Prop :=
  W.sel (t5 == 16) (S5 c0 w R) (S6 c0 w R)
def KE_S4 (E : W.Env) (w : World) (R : W.Post) : Prop := W.asInt .u8 (W.Env.get? E 0) fun c0 => W.asInt .i64 (W.Env.get? E 5) fun t5 => S4 c0 t5 w R
theorem KE_S4_ok (R : W.Post) (E : W.Env) (w : World) (h : KE_S4 E w R) : W.WP Try.prog (W.cx 36) C10 (Q1 R) E w := by
  obtain ⟨c0, hq0, h1⟩ := W.asInt_elim h
  obtain ⟨t5, hq5, h2⟩ := W.asInt_elim h1
  exact fun a ha => W.WP.at (n := (W.cx 36)) (E := [(0, .int .u8 c0), (5, .int .i64 t5)]) (W.WP.seq (c := C10) (x := C17) (y := C11) (by kernel_rfl) <| W.WP.reg (c := C17) (fun E w => W.condK (W.Env.val E (.tmp 14)) (KE_S5 E w R) (KE_S6 E w R)) (by kernel_rfl) (Eq.mp (by kernel_rfl) h2) fun _ _ a hA hK => (W.WP.condK (c := C11) (x := C12) (y := C18) (o := .tmp 14) (by kernel_rfl) (fun hK => (KE_S5_ok R _ _ hK)) (fun hK => (W.WP.skip (c := C18) (by kernel_rfl) fun a hA => (KE_S6_ok R _ _ hK) a hA)) hK) a hA) (ha.cons hq0 (ha.cons hq5 ha.nil))
noncomputable def C19 : Code := W.Code.fst C4
/-- lexer.go:49 -/
abbrev S2 (c0 t5 : Int) (w : World) (R : W.Post) : Prop :=
  W.sel (t5 == 2) (S3 c0 w R) (S4 c0 t5 w R)
def KE_S2 (E : W.Env) (w : World) (R : W.Post) : Prop := W.asInt .u8 (W.Env.get? E 0) fun c0 => W.asInt .i64 (W.Env.get? E 5) fun t5 => S2 c0 t5 w R
theorem KE_S2_ok (R : W.Post) (E : W.Env) (w : World) (h : KE_S2 E w R) : W.WP Try.prog (W.cx 36) C4 (Q1 R) E w := by
  obtain ⟨c0, hq0, h1⟩ := W.asInt_elim h
  obtain ⟨t5, hq5, h2⟩ := W.asInt_elim h1
  exact fun a ha => W.WP.at (n := (W.cx 36)) (E := [(0, .int .u8 c0), (5, .int .i64 t5)]) (W.WP.seq (c := C4) (x := C19) (y := C5) (by kernel_rfl) <| W.WP.reg (c := C19) (fun E w => W.condK (W.Env.val E (.tmp 6)) (KE_S3 E w R) (KE_S4 E w R)) (by kernel_rfl) (Eq.mp (by kernel_rfl) h2) fun _ _ a hA hK => (W.WP.condK (c := C5) (x := C6) (y := C10) (o := .tmp 6) (by kernel_rfl) (fun hK => (KE_S3_ok R _ _ hK)) (fun hK => (KE_S4_ok R _ _ hK)) hK) a hA) (ha.cons hq0 (ha.cons hq5 ha.nil))
noncomputable def C20 : Code := W.Code.fst C2
/-- lexer.go:48 -/
abbrev S1 (c0 base1 : Int) (w : World) (R : W.Post) : Prop :=
  S2 c0 base1 w R
def KE_S1 (E : W.Env) (w : World) (R : W.Post) : Prop := W.asInt .u8 (W.Env.get? E 0) fun c0 => W.asInt .i64 (W.Env.get? E 1) fun base1 => S1 c0 base1 w R
theorem KE_S1_ok (R : W.Post) (E : W.Env) (w : World) (h : KE_S1 E w R) : W.WP Try.prog (W.cx 36) C2 (Q0 R) E w := by
  obtain ⟨c0, hq0, h1⟩ := W.asInt_elim h
  obtain ⟨base1, hq1, h2⟩ := W.asInt_elim h1
  exact fun a ha => W.WP.at (n := (W.cx 36)) (E := [(0, .int .u8 c0), (1, .int .i64 base1)]) (W.WP.seq (c := C2) (x := C20) (y := C3) (by kernel_rfl) <| W.WP.reg (c := C20) (fun E w => KE_S2 E w R) (by kernel_rfl) (Eq.mp (by kernel_rfl) h2) fun _ _ a hA hK => (W.WP.block (c := C3) (x := C4) (id := 0) (by kernel_rfl) (KE_S2_ok R _ _ hK)) a hA) (ha.cons hq0 (ha.cons hq1 ha.nil))
noncomputable def C21 : Code := W.Code.fst C0
/-- lexer.go:47 -/
abbrev S0 (c0 base1 : Int) (w : World) (R : W.Post) : Prop :=
  S1 c0 base1 w R
def KE_S0 (E : W.Env) (w : World) (R : W.Post) : Prop := W.asInt .u8 (W.Env.get? E 0) fun c0 => W.asInt .i64 (W.Env.get? E 1) fun base1 => S0 c0 base1 w R
theorem KE_S0_ok (R : W.Post) (E : W.Env) (w : World) (h : KE_S0 E w R) : W.WP Try.prog (W.cx 36) C0 (Q2 R) E w := by
  obtain ⟨c0, hq0, h1⟩ := W.asInt_elim h
  obtain ⟨base1, hq1, h2⟩ := W.asInt_elim h1
  exact fun a ha => W.WP.at (n := (W.cx 36)) (E := [(0, .int .u8 c0), (1, .int .i64 base1)]) (W.WP.seq (c := C0) (x := C21) (y := C1) (by kernel_rfl) <| W.WP.reg (c := C21) (fun E w => KE_S1 E w R) (by kernel_rfl) (Eq.mp (by kernel_rfl) h2) fun _ _ a hA hK => (W.WP.seq (c := C1) (x := C2) (y := C7) (by kernel_rfl) (KE_S1_ok R _ _ hK)) a hA) (ha.cons hq0 (ha.cons hq1 ha.nil))
/-- enthymeme/lexer.digit[byte] -/
theorem ok (c0 base1 : Int) (w : World) (R : W.Post) (h : S0 c0 base1 w R) : Calls Try.prog n_lexer_digit_byte #[.int .u8 c0, .int .i64 base1] w R :=
  W.calls_of_WP' (fn := Try.f48) (c := C0) (args := [.int .u8 c0, .int .i64 base1]) (by kernel_rfl) (by kernel_rfl) (by kernel_rfl) (KE_S0_ok R _ _ (Eq.mp (by kernel_rfl) h))
end lexer_digit_byte
namespace lexer_examine
noncomputable def C0 : Code := (Try.f49.body).getD .skip
noncomputable def C1 : Code := W.Code.snd C0
noncomputable def C2 : Code := W.Code.fst C1
noncomputable def C3 : Code := W.Code.snd C2
noncomputable def C4 : Code := W.Code.fst C3
noncomputable def C5 : Code := W.Code.fst C4
noncomputable def C6 : Code := W.Code.snd C5
noncomputable def C7 : Code := W.Code.fst C6
noncomputable def C8 : Code := W.Code.snd C1
noncomputable def C9 : Code := W.Code.snd C4
abbrev Q0 (R : W.Post) : Exit → Act → World → Prop := (Exit.then (W.wpx Try.prog (W.cx 60) C9 (Exit.then (W.wpx Try.prog (W.cx 60) C8 (bodyPost Try.prog Try.f49 R)) (bodyPost Try.prog Try.f49 R))) (Exit.then (W.wpx Try.prog (W.cx 60) C8 (bodyPost Try.prog Try.f49 R)) (bodyPost Try.prog Try.f49 R)))
noncomputable def C10 : Code := W.Code.fst C7
noncomputable def C11 : Code := W.Code.snd C7
/-- lexer.go:66 -/
abbrev S3  (w : World) (R : W.Post) : Prop :=
  R (.returned (.tuple #[.int .i64 0, .int .i64 2])) w
def KE_S3 (E : W.Env) (w : World) (R : W.Post) : Prop := S3  w R
theorem KE_S3_ok (R : W.Post) (E : W.Env) (w : World) (h : KE_S3 E w R) : W.WP Try.prog (W.cx 60) C7 (Q0 R) E w := by
  exact fun a ha => W.WP.at (n := (W.cx 60)) (E := []) (W.WP.seq (c := C7) (x := C10) (y := C11) (by kernel_rfl) <| W.WP.reg (c := C10) (fun E w => W.retVC Try.prog Try.f49 E w (fun v => R (.returned v) w)) (by kernel_rfl) (Eq.mp (by kernel_rfl) h) fun _ _ a hA hK => (W.WP.ret (c := C11) (by kernel_rfl) fun a hA => W.retVC_sound hA hK) a hA) ha.nil
noncomputable def C12 : Code := W.Code.fst C9
noncomputable def C13 : Code := W.Code.snd C12
noncomputable def C14 : Code := W.Code.fst C13
noncomputable def C15 : Code := W.Code.snd C9
abbrev Q1 (R : W.Post) : Exit → Act → World → Prop := (Exit.then (W.wpx Try.prog (W.cx 60) C15 (Exit.then (W.wpx Try.prog (W.cx 60) C8 (bodyPost Try.prog Try.f49 R)) (bodyPost Try.prog Try.f49 R))) (Exit.then (W.wpx Try.prog (W.cx 60) C8 (bodyPost Try.prog Try.f49 R)) (bodyPost Try.prog Try.f49 R)))
noncomputable def C16 : Code := W.Code.fst C14
noncomputable def C17 : Code := W.Code.snd C14
/-- lexer.go:69 -/
abbrev S5  (w : World) (R : W.Post) : Prop :=
  R (.returned (.tuple #[.int .i64 0, .int .i64 6])) w
def KE_S5 (E : W.Env) (w : World) (R : W.Post) : Prop := S5  w R
theorem KE_S5_ok (R : W.Post) (E : W.Env) (w : World) (h : KE_S5 E w R) : W.WP Try.prog (W.cx 60) C14 (Q1 R) E w := by
  exact fun a ha => W.WP.at (n := (W.cx 60)) (E := []) (W.WP.seq (c := C14) (x := C16) (y := C17) (by kernel_rfl) <| W.WP.reg (c := C16) (fun E w => W.retVC Try.prog Try.f49 E w (fun v => R (.returned v) w)) (by kernel_rfl) (Eq.mp (by kernel_rfl) h) fun _ _ a hA hK => (W.WP.ret (c := C17) (by kernel_rfl) fun a hA => W.retVC_sound hA hK) a hA) ha.nil
abbrev Q2 (R : W.Post) : Exit → Act → World → Prop := (Exit.then (W.wpx Try.prog (W.cx 60) C8 (bodyPost Try.prog Try.f49 R)) (bodyPost Try.prog Try.f49 R))
noncomputable def C18 : Code := W.Code.fst C15
noncomputable def C19 : Code := W.Code.snd C15
/-- lexer.go:71 -/
abbrev S6  (w : World) (R : W.Post) : Prop :=
  R (.returned (.tuple #[.int .i64 2, .int .i64 0])) w
def KE_S6 (E : W.Env) (w : World) (R : W.Post) : Prop := S6  w R
theorem KE_S6_ok (R : W.Post) (E : W.Env) (w : World) (h : KE_S6 E w R) : W.WP Try.prog (W.cx 60) C15 (Q2 R) E w := by
  exact fun a ha => W.WP.at (n := (W.cx 60)) (E := []) (W.WP.seq (c := C15) (x := C18) (y := C19) (by kernel_rfl) <| W.WP.reg (c := C18) (fun E w => W.retVC Try.prog Try.f49 E w (fun v => R (.returned v) w)) (by kernel_rfl) (Eq.mp (by kernel_rfl) h) fun _ _ a hA hK => (W.WP.ret (c := C19) (by kernel_rfl) fun a hA => W.retVC_sound hA hK) a hA) ha.nil
noncomputable def C20 : Code := W.Code.fst C12
noncomputable def C21 : Code := W.Code.snd C13
/-- lexer.go:68 -/
abbrev S4 (s0 : ByteArray) (w : World) (R : W.Post) : Prop :=
  W.sel (decide (((s0.size : Nat) : Int) > 16)) (S5  w R) (S6  w R)
def KE_S4 (E : W.Env) (w : World) (R : W.Post) : Prop := W.asStr (W.Env.get? E 0) fun s0 => S4 s0 w R
theorem KE_S4_ok (R : W.Post) (E : W.Env) (w : World) (h : KE_S4 E w R) : W.WP Try.prog (W.cx 60) C12 (Q1 R) E w := by
  obtain ⟨s0, hq0, h1⟩ := W.asStr_elim h
  exact fun a ha => W.WP.at (n := (W.cx 60)) (E := [(0, .string s0)]) (W.WP.seq (c := C12) (x := C20) (y := C13) (by kernel_rfl) <| W.WP.reg (c := C20) (fun E w => W.condK (W.Env.val E (.tmp 14)) (KE_S5 E w R) (KE_S6 E w R)) (by kernel_rfl) (Eq.mp (by kernel_rfl) h1) fun _ _ a hA hK => (W.WP.condK (c := C13) (x := C14) (y := C21) (o := .tmp 14) (by kernel_rfl) (fun hK => (KE_S5_ok R _ _ hK)) (fun hK => (W.WP.skip (c := C21) (by kernel_rfl) fun a hA => (KE_S6_ok R _ _ hK) a hA)) hK) a hA) (ha.cons hq0 ha.nil)
noncomputable def C22 : Code := W.Code.fst C5
noncomputable def C23 : Code := W.Code.snd C6
/-- lexer.go:65 -/
abbrev S2 (s0 : ByteArray) (w : World) (R : W.Post) : Prop :=
  Calls Try.prog n_strings_IndexByte #[.string s0, .int .u8 35] w fun r_ w1 => ∃ t10 : Int, r_ = .returned (.int .i64 t10) ∧ 
  W.sel (decide (t10 ≥ 0)) (S3  w1 R) (S4 s0 w1 R)
def KE_S2 (E : W.Env) (w : World) (R : W.Post) : Prop := W.asStr (W.Env.get? E 0) fun s0 => S2 s0 w R
theorem KE_S2_ok (R : W.Post) (E : W.Env) (w : World) (h : KE_S2 E w R) : W.WP Try.prog (W.cx 60) C5 (Q0 R) E w := by
  obtain ⟨s0, hq0, h1⟩ := W.asStr_elim h
  exact fun a ha => W.WP.at (n := (W.cx 60)) (E := [(0, .string s0)]) (W.WP.seq (c := C5) (x := C22) (y := C6) (by kernel_rfl) <| W.WP.reg (c := C22) (fun E w => W.condK (W.Env.val E (.tmp 11)) (KE_S3 E w R) (KE_S4 E w R)) (by kernel_rfl) (Eq.mp (by kernel_rfl) h1) fun _ _ a hA hK => (W.WP.condK (c := C6) (x := C7) (y := C23) (o := .tmp 11) (by kernel_rfl) (fun hK => (KE_S3_ok R _ _ hK)) (fun hK => (W.WP.skip (c := C23) (by kernel_rfl) fun a hA => (W.WP.seq (c := C9) (x := C12) (y := C15) (by kernel_rfl) (KE_S4_ok R _ _ hK)) a hA)) hK) a hA) (ha.cons hq0 ha.nil)
noncomputable def C24 : Code := W.Code.fst C8
noncomputable def C25 : Code := W.Code.snd C24
noncomputable def C26 : Code := W.Code.fst C25
noncomputable def C27 : Code := W.Code.fst C26
noncomputable def C28 : Code := W.Code.snd C27
noncomputable def C29 : Code := W.Code.fst C28
noncomputable def C30 : Code := W.Code.snd C8
noncomputable def C31 : Code := W.Code.snd C26
abbrev Q3 (R : W.Post) : Exit → Act → World → Prop := (Exit.then (W.wpx Try.prog (W.cx 60) C31 (Exit.then (W.wpx Try.prog (W.cx 60) C30 (bodyPost Try.prog Try.f49 R)) (bodyPost Try.prog Try.f49 R))) (Exit.then (W.wpx Try.prog (W.cx 60) C30 (bodyPost Try.prog Try.f49 R)) (bodyPost Try.prog Try.f49 R)))
noncomputable def C32 : Code := W.Code.fst C29
noncomputable def C33 : Code := W.Code.snd C29
/-- lexer.go:75 -/
abbrev S9  (w : World) (R : W.Post) : Prop :=
  R (.returned (.tuple #[.int .i64 0, .int .i64 2])) w
def KE_S9 (E : W.Env) (w : World) (R : W.Post) : Prop := S9  w R
theorem KE_S9_ok (R : W.Post) (E : W.Env) (w : World) (h : KE_S9 E w R) : W.WP Try.prog (W.cx 60) C29 (Q3 R) E w := by
  exact fun a ha => W.WP.at (n := (W.cx 60)) (E := []) (W.WP.seq (c := C29) (x := C32) (y := C33) (by kernel_rfl) <| W.WP.reg (c := C32) (fun E w => W.retVC Try.prog Try.f49 E w (fun v => R (.returned v) w)) (by kernel_rfl) (Eq.mp (by kernel_rfl) h) fun _ _ a hA hK => (W.WP.ret (c := C33) (by kernel_rfl) fun a hA => W.retVC_sound hA hK) a hA) ha.nil
noncomputable def C34 : Code := W.Code.fst C31
noncomputable def C35 : Code := W.Code.snd C34
noncomputable def C36 : Code := W.Code.fst C35
noncomputable def C37 : Code := W.Code.snd C31
abbrev Q4 (R : W.Post) : Exit → Act → World → Prop := (Exit.then (W.wpx Try.prog (W.cx 60) C37 (Exit.then (W.wpx Try.prog (W.cx 60) C30 (bodyPost Try.prog Try.f49 R)) (bodyPost Try.prog Try.f49 R))) (Exit.then (W.wpx Try.prog (W.cx 60) C30 (bodyPost Try.prog Try.f49 R)) (bodyPost Try.prog Try.f49 R)))
noncomputable def C38 : Code := W.Code.fst C36
noncomputable def C39 : Code := W.Code.snd C36
/-- lexer.go:78 -/
abbrev S11  (w : World) (R : W.Post) : Prop :=
  R (.returned (.tuple #[.int .i64 0, .int .i64 4])) w
def KE_S11 (E : W.Env) (w : World) (R : W.Post) : Prop := S11  w R
theorem KE_S11_ok (R : W.Post) (E : W.Env) (w : World) (h : KE_S11 E w R) : W.WP Try.prog (W.cx 60) C36 (Q4 R) E w := by
  exact fun a ha => W.WP.at (n := (W.cx 60)) (E := []) (W.WP.seq (c := C36) (x := C38) (y := C39) (by kernel_rfl) <| W.WP.reg (c := C38) (fun E w => W.retVC Try.prog Try.f49 E w (fun v => R (.returned v) w)) (by kernel_rfl) (Eq.mp (by kernel_rfl) h) fun _ _ a hA hK => (W.WP.ret (c := C39) (by kernel_rfl) fun a hA => W.retVC_sound hA hK) a hA) ha.nil
abbrev Q5 (R : W.Post) : Exit → Act → World → Prop := (Exit.then (W.wpx Try.prog (W.cx 60) C30 (bodyPost Try.prog Try.f49 R)) (bodyPost Try.prog Try.f49 R))
noncomputable def C40 : Code := W.Code.fst C37
noncomputable def C41 : Code := W.Code.snd C37
/-- lexer.go:80 -/
abbrev S12  (w : World) (R : W.Post) : Prop :=
  R (.returned (.tuple #[.int .i64 4, .int .i64 0])) w
def KE_S12 (E : W.Env) (w : World) (R : W.Post) : Prop := S12  w R
theorem KE_S12_ok (R : W.Post) (E : W.Env) (w : World) (h : KE_S12 E w R) : W.WP Try.prog (W.cx 60) C37 (Q5 R) E w := by
  exact fun a ha => W.WP.at (n := (W.cx 60)) (E := []) (W.WP.seq (c := C37) (x := C40) (y := C41) (by kernel_rfl) <| W.WP.reg (c := C40) (fun E w => W.retVC Try.prog Try.f49 E w (fun v => R (.returned v) w)) (by kernel_rfl) (Eq.mp (by kernel_rfl) h) fun _ _ a hA hK => (W.WP.ret (c := C41) (by kernel_rfl) fun a hA => W.retVC_sound hA hK) a hA) ha.nil
noncomputable def C42 : Code := W.Code.fst C34
noncomputable def C43 : Code := W.Code.snd C35
/-- lexer.go:77 -/
abbrev S10 (s0 : ByteArray) (w : World) (R : W.Post) : Prop :=
  W.sel (decide (((s0.size : Nat) : Int) > 13)) (S11  w R) (S12  w R)
def KE_S10 (E : W.Env) (w : World) (R : W.Post) : Prop := W.asStr (W.Env.get? E 0) fun s0 => S10 s0 w R
theorem KE_S10_ok (R : W.Post) (E : W.Env) (w : World) (h : KE_S10 E w R) : W.WP Try.prog (W.cx 60) C34 (Q4 R) E w := by
  obtain ⟨s0, hq0, h1⟩ := W.asStr_elim h
  exact fun a ha => W.WP.at (n := (W.cx 60)) (E := [(0, .string s0)]) (W.WP.seq (c := C34) (x := C42) (y := C35) (by kernel_rfl) <| W.WP.reg (c := C42) (fun E w => W.condK (W.Env.val E (.tmp 33)) (KE_S11 E w R) (KE_S12 E w R)) (by kernel_rfl) (Eq.mp (by kernel_rfl) h1) fun _ _ a hA hK => (W.WP.condK (c := C35) (x := C36) (y := C43) (o := .tmp 33) (by kernel_rfl) (fun hK => (KE_S11_ok R _ _ hK)) (fun hK => (W.WP.skip (c := C43) (by kernel_rfl) fun a hA => (KE_S12_ok R _ _ hK) a hA)) hK) a hA) (ha.cons hq0 ha.nil)
noncomputable def C44 : Code := W.Code.fst C27
noncomputable def C45 : Code := W.Code.snd C28
/-- lexer.go:74 -/
abbrev S8 (s0 : ByteArray) (w : World) (R : W.Post) : Prop :=
  Calls Try.prog n_lexer_allDigits #[.string s0, .int .i64 10] w fun r_ w1 => ∃ t19 : Bool, r_ = .returned (.bool t19) ∧ 
  W.sel (!t19) (S9  w1 R) ((0 : Int) ≤ 0 ∧ ∃ t23_b : UInt8, s0[Int.toNat 0]? = some t23_b ∧ W.sel (((t23_b.toNat : Nat) : Int) == 48) (W.sel (decide (((s0.size : Nat) : Int) > 1)) (S9  w1 R) (S10 s0 w1 R)) (S10 s0 w1 R))
def KE_S8 (E : W.Env) (w : World) (R : W.Post) : Prop := W.asStr (W.Env.get? E 0) fun s0 => S8 s0 w R
theorem KE_S8_ok (R : W.Post) (E : W.Env) (w : World) (h : KE_S8 E w R) : W.WP Try.prog (W.cx 60) C27 (Q3 R) E w := by
  obtain ⟨s0, hq0, h1⟩ := W.asStr_elim h
  exact fun a ha => W.WP.at (n := (W.cx 60)) (E := [(0, .string s0)]) (W.WP.seq (c := C27) (x := C44) (y := C28) (by kernel_rfl) <| W.WP.reg (c := C44) (fun E w => W.condK (W.Env.val E (.tmp 30)) (KE_S9 E w R) (KE_S10 E w R)) (by kernel_rfl) (Eq.mp (by kernel_rfl) h1) fun _ _ a hA hK => (W.WP.condK (c := C28) (x := C29) (y := C45) (o := .tmp 30) (by kernel_rfl) (fun hK => (KE_S9_ok R _ _ hK)) (fun hK => (W.WP.skip (c := C45) (by kernel_rfl) fun a hA => (W.WP.seq (c := C31) (x := C34) (y := C37) (by kernel_rfl) (KE_S10_ok R _ _ hK)) a hA)) hK) a hA) (ha.cons hq0 ha.nil)
noncomputable def C46 : Code := W.Code.fst C30
noncomputable def C47 : Code := W.Code.snd C46
noncomputable def C48 : Code := W.Code.fst C47
noncomputable def C49 : Code := W.Code.snd C30
abbrev Q6 (R : W.Post) : Exit → Act → World → Prop := (Exit.then (W.wpx Try.prog (W.cx 60) C49 (bodyPost Try.prog Try.f49 R)) (bodyPost Try.prog Try.f49 R))
noncomputable def C50 : Code := W.Code.fst C48
noncomputable def C51 : Code := W.Code.snd C48
/-- lexer.go:83 -/
abbrev S14  (w : World) (R : W.Post) : Prop :=
  R (.returned (.tuple #[.int .i64 0, .int .i64 2])) w
def KE_S14 (E : W.Env) (w : World) (R : W.Post) : Prop := S14  w R
theorem KE_S14_ok (R : W.Post) (E : W.Env) (w : World) (h : KE_S14 E w R) : W.WP Try.prog (W.cx 60) C48 (Q6 R) E w := by
  exact fun a ha => W.WP.at (n := (W.cx 60)) (E := []) (W.WP.seq (c := C48) (x := C50) (y := C51) (by kernel_rfl) <| W.WP.reg (c := C50) (fun E w => W.retVC Try.prog Try.f49 E w (fun v => R (.returned v) w)) (by kernel_rfl) (Eq.mp (by kernel_rfl) h) fun _ _ a hA hK => (W.WP.ret (c := C51) (by kernel_rfl) fun a hA => W.retVC_sound hA hK) a hA) ha.nil
noncomputable def C52 : Code := W.Code.snd C49
noncomputable def C53 : Code := W.Code.snd C52
noncomputable def C54 : Code := W.Code.fst C53
noncomputable def C55 : Code := W.Code.snd C54
noncomputable def C56 : Code := W.Code.fst C55
noncomputable def C57 : Code := W.Code.snd C53
abbrev Q7 (R : W.Post) : Exit → Act → World → Prop := (Exit.then (W.wpx Try.prog (W.cx 60) C57 (bodyPost Try.prog Try.f49 R)) (bodyPost Try.prog Try.f49 R))
noncomputable def C58 : Code := W.Code.fst C56
noncomputable def C59 : Code := W.Code.snd C56
/-- lexer.go:90 -/
abbrev S19  (w : World) (R : W.Post) : Prop :=
  R (.returned (.tuple #[.int .i64 0, .int .i64 2])) w
def KE_S19 (E : W.Env) (w : World) (R : W.Post) : Prop := S19  w R
theorem KE_S19_ok (R : W.Post) (E : W.Env) (w : World) (h : KE_S19 E w R) : W.WP Try.prog (W.cx 60) C56 (Q7 R) E w := by
  exact fun a ha => W.WP.at (n := (W.cx 60)) (E := []) (W.WP.seq (c := C56) (x := C58) (y := C59) (by kernel_rfl) <| W.WP.reg (c := C58) (fun E w => W.retVC Try.prog Try.f49 E w (fun v => R (.returned v) w)) (by kernel_rfl) (Eq.mp (by kernel_rfl) h) fun _ _ a hA hK => (W.WP.ret (c := C59) (by kernel_rfl) fun a hA => W.retVC_sound hA hK) a hA) ha.nil
noncomputable def C60 : Code := W.Code.fst C57
noncomputable def C61 : Code := W.Code.snd C60
noncomputable def C62 : Code := W.Code.fst C61
noncomputable def C63 : Code := W.Code.snd C57
abbrev Q8 (R : W.Post) : Exit → Act → World → Prop := (Exit.then (W.wpx Try.prog (W.cx 60) C63 (bodyPost Try.prog Try.f49 R)) (bodyPost Try.prog Try.f49 R))
noncomputable def C64 : Code := W.Code.fst C62
noncomputable def C65 : Code := W.Code.snd C62
/-- lexer.go:93 -/
abbrev S21  (w : World) (R : W.Post) : Prop :=
  R (.returned (.tuple #[.int .i64 0, .int .i64 4])) w
def KE_S21 (E : W.Env) (w : World) (R : W.Post) : Prop := S21  w R
theorem KE_S21_ok (R : W.Post) (E : W.Env) (w : World) (h : KE_S21 E w R) : W.WP Try.prog (W.cx 60) C62 (Q8 R) E w := by
  exact fun a ha => W.WP.at (n := (W.cx 60)) (E := []) (W.WP.seq (c := C62) (x := C64) (y := C65) (by kernel_rfl) <| W.WP.reg (c := C64) (fun E w => W.retVC Try.prog Try.f49 E w (fun v => R (.returned v) w)) (by kernel_rfl) (Eq.mp (by kernel_rfl) h) fun _ _ a hA hK => (W.WP.ret (c := C65) (by kernel_rfl) fun a hA => W.retVC_sound hA hK) a hA) ha.nil
abbrev Q9 (R : W.Post) : Exit → Act → World → Prop := (bodyPost Try.prog Try.f49 R)
noncomputable def C66 : Code := W.Code.fst C63
noncomputable def C67 : Code := W.Code.snd C63
/-- lexer.go:95 -/
abbrev S22  (w : World) (R : W.Post) : Prop :=
  R (.returned (.tuple #[.int .i64 3, .int .i64 0])) w
def KE_S22 (E : W.Env) (w : World) (R : W.Post) : Prop := S22  w R
theorem KE_S22_ok (R : W.Post) (E : W.Env) (w : World) (h : KE_S22 E w R) : W.WP Try.prog (W.cx 60) C63 (Q9 R) E w := by
  exact fun a ha => W.WP.at (n := (W.cx 60)) (E := []) (W.WP.seq (c := C63) (x := C66) (y := C67) (by kernel_rfl) <| W.WP.reg (c := C66) (fun E w => W.retVC Try.prog Try.f49 E w (fun v => R (.returned v) w)) (by kernel_rfl) (Eq.mp (by kernel_rfl) h) fun _ _ a hA hK => (W.WP.ret (c := C67) (by kernel_rfl) fun a hA => W.retVC_sound hA hK) a hA) ha.nil
noncomputable def C68 : Code := W.Code.fst C60
noncomputable def C69 : Code := W.Code.snd C61
/-- lexer.go:92 -/
abbrev S20 (s0 : ByteArray) (most5 : Int) (w : World) (R : W.Post) : Prop :=
  W.sel (decide ((IntKind.wrap .i64 (((s0.size : Nat) : Int) - 2)) > most5)) (S21  w R) (S22  w R)
def KE_S20 (E : W.Env) (w : World) (R : W.Post) : Prop := W.asStr (W.Env.get? E 0) fun s0 => W.asInt .i64 (W.Env.get? E 5) fun most5 => S20 s0 most5 w R
theorem KE_S20_ok (R : W.Post) (E : W.Env) (w : World) (h : KE_S20 E w R) : W.WP Try.prog (W.cx 60) C60 (Q8 R) E w := by
  obtain ⟨s0, hq0, h1⟩ := W.asStr_elim h
  obtain ⟨most5, hq5, h2⟩ := W.asInt_elim h1
  exact fun a ha => W.WP.at (n := (W.cx 60)) (E := [(0, .string s0), (5, .int .i64 most5)]) (W.WP.seq (c := C60) (x := C68) (y := C61) (by kernel_rfl) <| W.WP.reg (c := C68) (fun E w => W.condK (W.Env.val E (.tmp 59)) (KE_S21 E w R) (KE_S22 E w R)) (by kernel_rfl) (Eq.mp (by kernel_rfl) h2) fun _ _ a hA hK => (W.WP.condK (c := C61) (x := C62) (y := C69) (o := .tmp 59) (by kernel_rfl) (fun hK => (KE_S21_ok R _ _ hK)) (fun hK => (W.WP.skip (c := C69) (by kernel_rfl) fun a hA => (KE_S22_ok R _ _ hK) a hA)) hK) a hA) (ha.cons hq0 (ha.cons hq5 ha.nil))
noncomputable def C70 : Code := W.Code.fst C54
noncomputable def C71 : Code := W.Code.snd C55
/-- lexer.go:89 -/
abbrev S18 (s0 : ByteArray) (base4 most5 : Int) (w : World) (R : W.Post) : Prop :=
  (0 : Int) ≤ 2 ∧ 2 ≤ ((s0.size : Nat) : Int) ∧ Calls Try.prog n_lexer_allDigits #[.string (s0.extract (Int.toNat 2) s0.size), .int .i64 base4] w fun r_ w1 => ∃ t53 : Bool, r_ = .returned (.bool t53) ∧ 
  W.sel (!t53) (S19  w1 R) (S20 s0 most5 w1 R)
def KE_S18 (E : W.Env) (w : World) (R : W.Post) : Prop := W.asStr (W.Env.get? E 0) fun s0 => W.asInt .i64 (W.Env.get? E 4) fun base4 => W.asInt .i64 (W.Env.get? E 5) fun most5 => S18 s0 base4 most5 w R
theorem KE_S18_ok (R : W.Post) (E : W.Env) (w : World) (h : KE_S18 E w R) : W.WP Try.prog (W.cx 60) C54 (Q7 R) E w := by
  obtain ⟨s0, hq0, h1⟩ := W.asStr_elim h
  obtain ⟨base4, hq4, h2⟩ := W.asInt_elim h1
  obtain ⟨most5, hq5, h3⟩ := W.asInt_elim h2
  exact fun a ha => W.WP.at (n := (W.cx 60)) (E := [(0, .string s0), (4, .int .i64 base4), (5, .int .i64 most5)]) (W.WP.seq (c := C54) (x := C70) (y := C55) (by kernel_rfl) <| W.WP.reg (c := C70) (fun E w => W.condK (W.Env.val E (.tmp 54)) (KE_S19 E w R) (KE_S20 E w R)) (by kernel_rfl) (Eq.mp (by kernel_rfl) h3) fun _ _ a hA hK => (W.WP.condK (c := C55) (x := C56) (y := C71) (o := .tmp 54) (by kernel_rfl) (fun hK => (KE_S19_ok R _ _ hK)) (fun hK => (W.WP.skip (c := C71) (by kernel_rfl) fun a hA => (W.WP.seq (c := C57) (x := C60) (y := C63) (by kernel_rfl) (KE_S20_ok R _ _ hK)) a hA)) hK) a hA) (ha.cons hq0 (ha.cons hq4 (ha.cons hq5 ha.nil)))
noncomputable def C72 : Code := W.Code.fst C52
noncomputable def C73 : Code := W.Code.snd C72
noncomputable def C74 : Code := W.Code.fst C73
abbrev Q10 (R : W.Post) : Exit → Act → World → Prop := (Exit.then (W.wpx Try.prog (W.cx 60) C53 (bodyPost Try.prog Try.f49 R)) (bodyPost Try.prog Try.f49 R))
/-- lexer.go:87 -/
abbrev S17 (s0 : ByteArray) (w : World) (R : W.Post) : Prop :=
  S18 s0 16 16 w R
def KE_S17 (E : W.Env) (w : World) (R : W.Post) : Prop := W.asStr (W.Env.get? E 0) fun s0 => S17 s0 w R
theorem KE_S17_ok (R : W.Post) (E : W.Env) (w : World) (h : KE_S17 E w R) : W.WP Try.prog (W.cx 60) C74 (Q10 R) E w := by
  obtain ⟨s0, hq0, h1⟩ := W.asStr_elim h
  exact fun a ha => W.WP.at (n := (W.cx 60)) (E := [(0, .string s0)]) (W.WP.reg (c := C74) (fun E w => KE_S18 E w R) (by kernel_rfl) (Eq.mp (by kernel_rfl) h1) fun _ _ a hA hK => (W.WP.seq (c := C53) (x := C54) (y := C57) (by kernel_rfl) (KE_S18_ok R _ _ hK)) a hA) (ha.cons hq0 ha.nil)
noncomputable def C75 : Code := W.Code.fst C72
noncomputable def C76 : Code := W.Code.snd C73
/-- lexer.go:86 -/
abbrev S16 (s0 : ByteArray) (base4 most5 : Int) (w : World) (R : W.Post) : Prop :=
  (0 : Int) ≤ 1 ∧ ∃ t48_b : UInt8, s0[Int.toNat 1]? = some t48_b ∧ W.sel (((t48_b.toNat : Nat) : Int) == 120) (S17 s0 w R) (S18 s0 base4 most5 w R)
def KE_S16 (E : W.Env) (w : World) (R : W.Post) : Prop := W.asStr (W.Env.get? E 0) fun s0 => W.asInt .i64 (W.Env.get? E 4) fun base4 => W.asInt .i64 (W.Env.get? E 5) fun most5 => S16 s0 base4 most5 w R
theorem KE_S16_ok (R : W.Post) (E : W.Env) (w : World) (h : KE_S16 E w R) : W.WP Try.prog (W.cx 60) C72 (Q10 R) E w := by
  obtain ⟨s0, hq0, h1⟩ := W.asStr_elim h
  obtain ⟨base4, hq4, h2⟩ := W.asInt_elim h1
  obtain ⟨most5, hq5, h3⟩ := W.asInt_elim h2
  exact fun a ha => W.WP.at (n := (W.cx 60)) (E := [(0, .string s0), (4, .int .i64 base4), (5, .int .i64 most5)]) (W.WP.seq (c := C72) (x := C75) (y := C73) (by kernel_rfl) <| W.WP.reg (c := C75) (fun E w => W.condK (W.Env.val E (.tmp 49)) (KE_S17 E w R) (KE_S18 E w R)) (by kernel_rfl) (Eq.mp (by kernel_rfl) h3) fun _ _ a hA hK => (W.WP.condK (c := C73) (x := C74) (y := C76) (o := .tmp 49) (by kernel_rfl) (fun hK => (KE_S17_ok R _ _ hK)) (fun hK => (W.WP.skip (c := C76) (by kernel_rfl) fun a hA => (W.WP.seq (c := C53) (x := C54) (y := C57) (by kernel_rfl) (KE_S18_ok R _ _ hK)) a hA)) hK) a hA) (ha.cons hq0 (ha.cons hq4 (ha.cons hq5 ha.nil)))
noncomputable def C77 : Code := W.Code.fst C49
/-- lexer.go:85 -/
abbrev S15 (s0 : ByteArray) (w : World) (R : W.Post) : Prop :=
  S16 s0 2 64 w R
def KE_S15 (E : W.Env) (w : World) (R : W.Post) : Prop := W.asStr (W.Env.get? E 0) fun s0 => S15 s0 w R
theorem KE_S15_ok (R : W.Post) (E : W.Env) (w : World) (h : KE_S15 E w R) : W.WP Try.prog (W.cx 60) C49 (Q9 R) E w := by
  obtain ⟨s0, hq0, h1⟩ := W.asStr_elim h
  exact fun a ha => W.WP.at (n := (W.cx 60)) (E := [(0, .string s0)]) (W.WP.seq (c := C49) (x := C77) (y := C52) (by kernel_rfl) <| W.WP.reg (c := C77) (fun E w => KE_S16 E w R) (by kernel_rfl) (Eq.mp (by kernel_rfl) h1) fun _ _ a hA hK => (W.WP.seq (c := C52) (x := C72) (y := C53) (by kernel_rfl) (KE_S16_ok R _ _ hK)) a hA) (ha.cons hq0 ha.nil)
noncomputable def C78 : Code := W.Code.fst C46
noncomputable def C79 : Code := W.Code.snd C47
/-- lexer.go:82 -/
abbrev S13 (s0 : ByteArray) (w : World) (R : W.Post) : Prop :=
  W.sel (decide (((s0.size : Nat) : Int) < 3)) (S14  w R) ((0 : Int) ≤ 1 ∧ ∃ t39_b : UInt8, s0[Int.toNat 1]? = some t39_b ∧ W.sel (((t39_b.toNat : Nat) : Int) != 98) ((0 : Int) ≤ 1 ∧ ∃ t43_b : UInt8, s0[Int.toNat 1]? = some t43_b ∧ W.sel (((t43_b.toNat : Nat) : Int) != 120) (S14  w R) (S15 s0 w R)) (S15 s0 w R))
def KE_S13 (E : W.Env) (w : World) (R : W.Post) : Prop := W.asStr (W.Env.get? E 0) fun s0 => S13 s0 w R
theorem KE_S13_ok (R : W.Post) (E : W.Env) (w : World) (h : KE_S13 E w R) : W.WP Try.prog (W.cx 60) C46 (Q6 R) E w := by
  obtain ⟨s0, hq0, h1⟩ := W.asStr_elim h
  exact fun a ha => W.WP.at (n := (W.cx 60)) (E := [(0, .string s0)]) (W.WP.seq (c := C46) (x := C78) (y := C47) (by kernel_rfl) <| W.WP.reg (c := C78) (fun E w => W.condK (W.Env.val E (.tmp 46)) (KE_S14 E w R) (KE_S15 E w R)) (by kernel_rfl) (Eq.mp (by kernel_rfl) h1) fun _ _ a hA hK => (W.WP.condK (c := C47) (x := C48) (y := C79) (o := .tmp 46) (by kernel_rfl) (fun hK => (KE_S14_ok R _ _ hK)) (fun hK => (W.WP.skip (c := C79) (by kernel_rfl) fun a hA => (KE_S15_ok R _ _ hK) a hA)) hK) a hA) (ha.cons hq0 ha.nil)
noncomputable def C80 : Code := W.Code.fst C24
noncomputable def C81 : Code := W.Code.snd C25
/-- lexer.go:73 -/
abbrev S7 (s0 : ByteArray) (w : World) (R : W.Post) : Prop :=
  (0 : Int) ≤ 0 ∧ ∃ t16_b : UInt8, s0[Int.toNat 0]? = some t16_b ∧ W.sel (((t16_b.toNat : Nat) : Int) != 35) (S8 s0 w R) (S13 s0 w R)
def KE_S7 (E : W.Env) (w : World) (R : W.Post) : Prop := W.asStr (W.Env.get? E 0) fun s0 => S7 s0 w R
theorem KE_S7_ok (R : W.Post) (E : W.Env) (w : World) (h : KE_S7 E w R) : W.WP Try.prog (W.cx 60) C24 (Q5 R) E w := by
  obtain ⟨s0, hq0, h1⟩ := W.asStr_elim h
  exact fun a ha => W.WP.at (n := (W.cx 60)) (E := [(0, .string s0)]) (W.WP.seq (c := C24) (x := C80) (y := C25) (by kernel_rfl) <| W.WP.reg (c := C80) (fun E w => W.condK (W.Env.val E (.tmp 17)) (KE_S8 E w R) (KE_S13 E w R)) (by kernel_rfl) (Eq.mp (by kernel_rfl) h1) fun _ _ a hA hK => (W.WP.condK (c := C25) (x := C26) (y := C81) (o := .tmp 17) (by kernel_rfl) (fun hK => (W.WP.seq (c := C26) (x := C27) (y := C31) (by kernel_rfl) (KE_S8_ok R _ _ hK))) (fun hK => (W.WP.skip (c := C81) (by kernel_rfl) fun a hA => (W.WP.seq (c := C30) (x := C46) (y := C49) (by kernel_rfl) (KE_S13_ok R _ _ hK)) a hA)) hK) a hA) (ha.cons hq0 ha.nil)
noncomputable def C82 : Code := W.Code.fst C2
noncomputable def C83 : Code := W.Code.snd C3
/-- lexer.go:64 -/
abbrev S1 (s0 : ByteArray) (w : World) (R : W.Post) : Prop :=
  (0 : Int) ≤ 0 ∧ ∃ t7_b : UInt8, s0[Int.toNat 0]? = some t7_b ∧ Calls Try.prog n_lexer_small_byte #[.int .u8 ((t7_b.toNat : Nat) : Int)] w fun r_ w1 => ∃ t8 : Bool, r_ = .returned (.bool t8) ∧ 
  W.sel t8 (S2 s0 w1 R) (S7 s0 w1 R)
def KE_S1 (E : W.Env) (w : World) (R : W.Post) : Prop := W.asStr (W.Env.get? E 0) fun s0 => S1 s0 w R
theorem KE_S1_ok (R : W.Post) (E : W.Env) (w : World) (h : KE_S1 E w R) : W.WP Try.prog (W.cx 60) C2 (Q2 R) E w := by
  obtain ⟨s0, hq0, h1⟩ := W.asStr_elim h
  exact fun a ha => W.WP.at (n := (W.cx 60)) (E := [(0, .string s0)]) (W.WP.seq (c := C2) (x := C82) (y := C3) (by kernel_rfl) <| W.WP.reg (c := C82) (fun E w => W.condK (W.Env.val E (.tmp 8)) (KE_S2 E w R) (KE_S7 E w R)) (by kernel_rfl) (Eq.mp (by kernel_rfl) h1) fun _ _ a hA hK => (W.WP.condK (c := C3) (x := C4) (y := C83) (o := .tmp 8) (by kernel_rfl) (fun hK => (W.WP.seq (c := C4) (x := C5) (y := C9) (by kernel_rfl) (KE_S2_ok R _ _ hK))) (fun hK => (W.WP.skip (c := C83) (by kernel_rfl) fun a hA => (W.WP.seq (c := C8) (x := C24) (y := C30) (by kernel_rfl) (KE_S7_ok R _ _ hK)) a hA)) hK) a hA) (ha.cons hq0 ha.nil)
noncomputable def C84 : Code := W.Code.fst C0
/-- lexer.go:63 -/
abbrev S0 (s0 : ByteArray) (w : World) (R : W.Post) : Prop :=
  S1 s0 w R
def KE_S0 (E : W.Env) (w : World) (R : W.Post) : Prop := W.asStr (W.Env.get? E 0) fun s0 => S0 s0 w R
theorem KE_S0_ok (R : W.Post) (E : W.Env) (w : World) (h : KE_S0 E w R) : W.WP Try.prog (W.cx 60) C0 (Q9 R) E w := by
  obtain ⟨s0, hq0, h1⟩ := W.asStr_elim h
  exact fun a ha => W.WP.at (n := (W.cx 60)) (E := [(0, .string s0)]) (W.WP.seq (c := C0) (x := C84) (y := C1) (by kernel_rfl) <| W.WP.reg (c := C84) (fun E w => KE_S1 E w R) (by kernel_rfl) (Eq.mp (by kernel_rfl) h1) fun _ _ a hA hK => (W.WP.seq (c := C1) (x := C2) (y := C8) (by kernel_rfl) (KE_S1_ok R _ _ hK)) a hA) (ha.cons hq0 ha.nil)
/-- enthymeme/lexer.examine -/
theorem ok (s0 : ByteArray) (w : World) (R : W.Post) (h : S0 s0 w R) : Calls Try.prog n_lexer_examine #[.string s0] w R :=
  W.calls_of_WP' (fn := Try.f49) (c := C0) (args := [.string s0]) (by kernel_rfl) (by kernel_rfl) (by kernel_rfl) (KE_S0_ok R _ _ (Eq.mp (by kernel_rfl) h))
end lexer_examine
namespace lexer_item
noncomputable def C0 : Code := (Try.f55.body).getD .skip
noncomputable def C1 : Code := W.Code.snd C0
noncomputable def C2 : Code := W.Code.snd C1
noncomputable def C3 : Code := W.Code.fst C2
noncomputable def C4 : Code := W.Code.snd C3
noncomputable def C5 : Code := W.Code.fst C4
noncomputable def C6 : Code := W.Code.fst C5
noncomputable def C7 : Code := W.Code.snd C6
noncomputable def C8 : Code := W.Code.fst C7
noncomputable def C9 : Code := W.Code.snd C2
noncomputable def C10 : Code := W.Code.snd C5
abbrev Q0 (R : W.Post) : Exit → Act → World → Prop := (Exit.then (W.wpx Try.prog (W.cx 97) C10 (Exit.then (W.wpx Try.prog (W.cx 97) C9 (bodyPost Try.prog Try.f55 R)) (bodyPost Try.prog Try.f55 R))) (Exit.then (W.wpx Try.prog (W.cx 97) C9 (bodyPost Try.prog Try.f55 R)) (bodyPost Try.prog Try.f55 R)))
noncomputable def C11 : Code := W.Code.fst C8
noncomputable def C12 : Code := W.Code.snd C8
/-- lexer.go:103 -/
abbrev S4 (i1 : Int) (t6 form8 : Addr) (w : World) (R : W.Post) : Prop :=
  ∃ t32_0 : Int, ∃ t32_1 : Int, w.drew.cell? (form8.add 0) = some (.int .i64 t32_0) ∧ w.drew.cell? (form8.add 1) = some (.int .i64 t32_1) ∧ 
  (w.drew.cell? t6).isSome = true ∧ w.drew.frozen? t6 = false ∧ let w1 := w.drew.setCell t6 (.int .i64 t32_0)
  (w1.cell? (t6.add 1)).isSome = true ∧ w1.frozen? (t6.add 1) = false ∧ let w2 := w1.setCell (t6.add 1) (.int .i64 t32_1)
  ∃ r6_0 : Int, ∃ r6_1 : Int, w2.cell? (t6.add 0) = some (.int .i64 r6_0) ∧ w2.cell? (t6.add 1) = some (.int .i64 r6_1) ∧ 
  R (.returned (.tuple #[.int .u8 0, .int .i64 i1, .agg #[.int .i64 r6_0, .int .i64 r6_1]])) w2
def KE_S4 (E : W.Env) (w : World) (R : W.Post) : Prop := W.asInt .i64 (W.Env.get? E 1) fun i1 => W.asRef (W.Env.get? E 6) fun t6 => W.asRef (W.Env.get? E 8) fun form8 => S4 i1 t6 form8 w R
theorem KE_S4_ok (R : W.Post) (E : W.Env) (w : World) (h : KE_S4 E w R) : W.WP Try.prog (W.cx 97) C8 (Q0 R) E w := by
  obtain ⟨i1, hq1, h1⟩ := W.asInt_elim h
  obtain ⟨t6, hq6, h2⟩ := W.asRef_elim h1
  obtain ⟨form8, hq8, h3⟩ := W.asRef_elim h2
  exact fun a ha => W.WP.at (n := (W.cx 97)) (E := [(1, .int .i64 i1), (6, .pointer (some t6)), (8, .pointer (some form8))]) (W.WP.seq (c := C8) (x := C11) (y := C12) (by kernel_rfl) <| W.WP.draw (c := C11) [0, 1, 2, 3, 4] (fun E w => W.retVC Try.prog Try.f55 E w (fun v => R (.returned v) w)) (by kernel_rfl) (Eq.mp (by kernel_rfl) h3) fun _ _ a hA hK => (W.WP.ret (c := C12) (by kernel_rfl) fun a hA => W.retVC_sound hA hK) a hA) (ha.cons hq1 (ha.cons hq6 (ha.cons hq8 ha.nil)))
abbrev Q1 (R : W.Post) : Exit → Act → World → Prop := (Exit.then (W.wpx Try.prog (W.cx 97) C9 (bodyPost Try.prog Try.f55 R)) (bodyPost Try.prog Try.f55 R))
noncomputable def C13 : Code := W.Code.fst C10
noncomputable def C14 : Code := W.Code.snd C10
/-- lexer.go:105 -/
abbrev S5 (s0 : ByteArray) (i1 : Int) (t6 : Addr) (w : World) (R : W.Post) : Prop :=
  (0 : Int) ≤ i1 ∧ ∃ t35_b : UInt8, s0[Int.toNat i1]? = some t35_b ∧ (w.cell? t6).isSome = true ∧ w.frozen? t6 = false ∧ let w1 := w.setCell t6 (.int .i64 0)
  (w1.cell? (t6.add 1)).isSome = true ∧ w1.frozen? (t6.add 1) = false ∧ let w2 := w1.setCell (t6.add 1) (.int .i64 0)
  ∃ r6_0 : Int, ∃ r6_1 : Int, w2.cell? (t6.add 0) = some (.int .i64 r6_0) ∧ w2.cell? (t6.add 1) = some (.int .i64 r6_1) ∧ 
  R (.returned (.tuple #[.int .u8 ((t35_b.toNat : Nat) : Int), .int .i64 (IntKind.wrap .i64 (i1 + 1)), .agg #[.int .i64 r6_0, .int .i64 r6_1]])) w2
def KE_S5 (E : W.Env) (w : World) (R : W.Post) : Prop := W.asStr (W.Env.get? E 0) fun s0 => W.asInt .i64 (W.Env.get? E 1) fun i1 => W.asRef (W.Env.get? E 6) fun t6 => S5 s0 i1 t6 w R
theorem KE_S5_ok (R : W.Post) (E : W.Env) (w : World) (h : KE_S5 E w R) : W.WP Try.prog (W.cx 97) C10 (Q1 R) E w := by
  obtain ⟨s0, hq0, h1⟩ := W.asStr_elim h
  obtain ⟨i1, hq1, h2⟩ := W.asInt_elim h1
  obtain ⟨t6, hq6, h3⟩ := W.asRef_elim h2
  exact fun a ha => W.WP.at (n := (W.cx 97)) (E := [(0, .string s0), (1, .int .i64 i1), (6, .pointer (some t6))]) (W.WP.seq (c := C10) (x := C13) (y := C14) (by kernel_rfl) <| W.WP.reg (c := C13) (fun E w => W.retVC Try.prog Try.f55 E w (fun v => R (.returned v) w)) (by kernel_rfl) (Eq.mp (by kernel_rfl) h3) fun _ _ a hA hK => (W.WP.ret (c := C14) (by kernel_rfl) fun a hA => W.retVC_sound hA hK) a hA) (ha.cons hq0 (ha.cons hq1 (ha.cons hq6 ha.nil)))
noncomputable def C15 : Code := W.Code.fst C6
noncomputable def C16 : Code := W.Code.snd C7
/-- lexer.go:102 -/
abbrev S3 (s0 : ByteArray) (i1 : Int) (t6 form8 : Addr) (w : World) (R : W.Post) : Prop :=
  (0 : Int) ≤ i1 ∧ ∃ t23_b : UInt8, s0[Int.toNat i1]? = some t23_b ∧ W.sel (decide (((t23_b.toNat : Nat) : Int) < 32)) (S4 i1 t6 form8 w R) ((0 : Int) ≤ i1 ∧ ∃ t28_b : UInt8, s0[Int.toNat i1]? = some t28_b ∧ W.sel (decide (((t28_b.toNat : Nat) : Int) > 126)) (S4 i1 t6 form8 w R) (S5 s0 i1 t6 w R))
def KE_S3 (E : W.Env) (w : World) (R : W.Post) : Prop := W.asStr (W.Env.get? E 0) fun s0 => W.asInt .i64 (W.Env.get? E 1) fun i1 => W.asRef (W.Env.get? E 6) fun t6 => W.asRef (W.Env.get? E 8) fun form8 => S3 s0 i1 t6 form8 w R
theorem KE_S3_ok (R : W.Post) (E : W.Env) (w : World) (h : KE_S3 E w R) : W.WP Try.prog (W.cx 97) C6 (Q0 R) E w := by
  obtain ⟨s0, hq0, h1⟩ := W.asStr_elim h
  obtain ⟨i1, hq1, h2⟩ := W.asInt_elim h1
  obtain ⟨t6, hq6, h3⟩ := W.asRef_elim h2
  obtain ⟨form8, hq8, h4⟩ := W.asRef_elim h3
  exact fun a ha => W.WP.at (n := (W.cx 97)) (E := [(0, .string s0), (1, .int .i64 i1), (6, .pointer (some t6)), (8, .pointer (some form8))]) (W.WP.seq (c := C6) (x := C15) (y := C7) (by kernel_rfl) <| W.WP.reg (c := C15) (fun E w => W.condK (W.Env.val E (.tmp 30)) (KE_S4 E w R) (KE_S5 E w R)) (by kernel_rfl) (Eq.mp (by kernel_rfl) h4) fun _ _ a hA hK => (W.WP.condK (c := C7) (x := C8) (y := C16) (o := .tmp 30) (by kernel_rfl) (fun hK => (KE_S4_ok R _ _ hK)) (fun hK => (W.WP.skip (c := C16) (by kernel_rfl) fun a hA => (KE_S5_ok R _ _ hK) a hA)) hK) a hA) (ha.cons hq0 (ha.cons hq1 (ha.cons hq6 (ha.cons hq8 ha.nil))))
noncomputable def C17 : Code := W.Code.fst C9
noncomputable def C18 : Code := W.Code.snd C17
noncomputable def C19 : Code := W.Code.fst C18
noncomputable def C20 : Code := W.Code.snd C9
abbrev Q2 (R : W.Post) : Exit → Act → World → Prop := (Exit.then (W.wpx Try.prog (W.cx 97) C20 (bodyPost Try.prog Try.f55 R)) (bodyPost Try.prog Try.f55 R))
noncomputable def C21 : Code := W.Code.fst C19
noncomputable def C22 : Code := W.Code.snd C19
/-- lexer.go:108 -/
abbrev S7 (i1 : Int) (t6 more7 : Addr) (w : World) (R : W.Post) : Prop :=
  ∃ t45_0 : Int, ∃ t45_1 : Int, w.drew.cell? (more7.add 0) = some (.int .i64 t45_0) ∧ w.drew.cell? (more7.add 1) = some (.int .i64 t45_1) ∧ 
  (w.drew.cell? t6).isSome = true ∧ w.drew.frozen? t6 = false ∧ let w1 := w.drew.setCell t6 (.int .i64 t45_0)
  (w1.cell? (t6.add 1)).isSome = true ∧ w1.frozen? (t6.add 1) = false ∧ let w2 := w1.setCell (t6.add 1) (.int .i64 t45_1)
  ∃ r6_0 : Int, ∃ r6_1 : Int, w2.cell? (t6.add 0) = some (.int .i64 r6_0) ∧ w2.cell? (t6.add 1) = some (.int .i64 r6_1) ∧ 
  R (.returned (.tuple #[.int .u8 0, .int .i64 i1, .agg #[.int .i64 r6_0, .int .i64 r6_1]])) w2
def KE_S7 (E : W.Env) (w : World) (R : W.Post) : Prop := W.asInt .i64 (W.Env.get? E 1) fun i1 => W.asRef (W.Env.get? E 6) fun t6 => W.asRef (W.Env.get? E 7) fun more7 => S7 i1 t6 more7 w R
theorem KE_S7_ok (R : W.Post) (E : W.Env) (w : World) (h : KE_S7 E w R) : W.WP Try.prog (W.cx 97) C19 (Q2 R) E w := by
  obtain ⟨i1, hq1, h1⟩ := W.asInt_elim h
  obtain ⟨t6, hq6, h2⟩ := W.asRef_elim h1
  obtain ⟨more7, hq7, h3⟩ := W.asRef_elim h2
  exact fun a ha => W.WP.at (n := (W.cx 97)) (E := [(1, .int .i64 i1), (6, .pointer (some t6)), (7, .pointer (some more7))]) (W.WP.seq (c := C19) (x := C21) (y := C22) (by kernel_rfl) <| W.WP.draw (c := C21) [0, 1, 2, 3, 4] (fun E w => W.retVC Try.prog Try.f55 E w (fun v => R (.returned v) w)) (by kernel_rfl) (Eq.mp (by kernel_rfl) h3) fun _ _ a hA hK => (W.WP.ret (c := C22) (by kernel_rfl) fun a hA => W.retVC_sound hA hK) a hA) (ha.cons hq1 (ha.cons hq6 (ha.cons hq7 ha.nil)))
noncomputable def C23 : Code := W.Code.fst C20
noncomputable def C24 : Code := W.Code.snd C23
noncomputable def C25 : Code := W.Code.snd C24
noncomputable def C26 : Code := W.Code.fst C25
noncomputable def C27 : Code := W.Code.fst C26
noncomputable def C28 : Code := W.Code.snd C27
noncomputable def C29 : Code := W.Code.fst C28
noncomputable def C30 : Code := W.Code.snd C20
noncomputable def C31 : Code := W.Code.snd C26
abbrev Q3 (R : W.Post) : Exit → Act → World → Prop := (Exit.then (W.wpx Try.prog (W.cx 97) C31 (Exit.then (W.wpx Try.prog (W.cx 97) C30 (bodyPost Try.prog Try.f55 R)) (bodyPost Try.prog Try.f55 R))) (Exit.then (W.wpx Try.prog (W.cx 97) C30 (bodyPost Try.prog Try.f55 R)) (bodyPost Try.prog Try.f55 R)))
noncomputable def C32 : Code := W.Code.fst C29
noncomputable def C33 : Code := W.Code.snd C29
/-- lexer.go:112 -/
abbrev S11 (i1 : Int) (t6 form8 : Addr) (w : World) (R : W.Post) : Prop :=
  ∃ t59_0 : Int, ∃ t59_1 : Int, w.drew.cell? (form8.add 0) = some (.int .i64 t59_0) ∧ w.drew.cell? (form8.add 1) = some (.int .i64 t59_1) ∧ 
  (w.drew.cell? t6).isSome = true ∧ w.drew.frozen? t6 = false ∧ let w1 := w.drew.setCell t6 (.int .i64 t59_0)
  (w1.cell? (t6.add 1)).isSome = true ∧ w1.frozen? (t6.add 1) = false ∧ let w2 := w1.setCell (t6.add 1) (.int .i64 t59_1)
  ∃ r6_0 : Int, ∃ r6_1 : Int, w2.cell? (t6.add 0) = some (.int .i64 r6_0) ∧ w2.cell? (t6.add 1) = some (.int .i64 r6_1) ∧ 
  R (.returned (.tuple #[.int .u8 0, .int .i64 i1, .agg #[.int .i64 r6_0, .int .i64 r6_1]])) w2
def KE_S11 (E : W.Env) (w : World) (R : W.Post) : Prop := W.asInt .i64 (W.Env.get? E 1) fun i1 => W.asRef (W.Env.get? E 6) fun t6 => W.asRef (W.Env.get? E 8) fun form8 => S11 i1 t6 form8 w R
theorem KE_S11_ok (R : W.Post) (E : W.Env) (w : World) (h : KE_S11 E w R) : W.WP Try.prog (W.cx 97) C29 (Q3 R) E w := by
  obtain ⟨i1, hq1, h1⟩ := W.asInt_elim h
  obtain ⟨t6, hq6, h2⟩ := W.asRef_elim h1
  obtain ⟨form8, hq8, h3⟩ := W.asRef_elim h2
  exact fun a ha => W.WP.at (n := (W.cx 97)) (E := [(1, .int .i64 i1), (6, .pointer (some t6)), (8, .pointer (some form8))]) (W.WP.seq (c := C29) (x := C32) (y := C33) (by kernel_rfl) <| W.WP.draw (c := C32) [0, 1, 2, 3, 4] (fun E w => W.retVC Try.prog Try.f55 E w (fun v => R (.returned v) w)) (by kernel_rfl) (Eq.mp (by kernel_rfl) h3) fun _ _ a hA hK => (W.WP.ret (c := C33) (by kernel_rfl) fun a hA => W.retVC_sound hA hK) a hA) (ha.cons hq1 (ha.cons hq6 (ha.cons hq8 ha.nil)))
abbrev Q4 (R : W.Post) : Exit → Act → World → Prop := (Exit.then (W.wpx Try.prog (W.cx 97) C30 (bodyPost Try.prog Try.f55 R)) (bodyPost Try.prog Try.f55 R))
noncomputable def C34 : Code := W.Code.fst C31
noncomputable def C35 : Code := W.Code.snd C31
/-- lexer.go:114 -/
abbrev S12 (i1 : Int) (t6 : Addr) (c9 : Int) (w : World) (R : W.Post) : Prop :=
  (w.cell? t6).isSome = true ∧ w.frozen? t6 = false ∧ let w1 := w.setCell t6 (.int .i64 0)
  (w1.cell? (t6.add 1)).isSome = true ∧ w1.frozen? (t6.add 1) = false ∧ let w2 := w1.setCell (t6.add 1) (.int .i64 0)
  ∃ r6_0 : Int, ∃ r6_1 : Int, w2.cell? (t6.add 0) = some (.int .i64 r6_0) ∧ w2.cell? (t6.add 1) = some (.int .i64 r6_1) ∧ 
  R (.returned (.tuple #[.int .u8 c9, .int .i64 (IntKind.wrap .i64 (i1 + 2)), .agg #[.int .i64 r6_0, .int .i64 r6_1]])) w2
def KE_S12 (E : W.Env) (w : World) (R : W.Post) : Prop := W.asInt .i64 (W.Env.get? E 1) fun i1 => W.asRef (W.Env.get? E 6) fun t6 => W.asInt .u8 (W.Env.get? E 9) fun c9 => S12 i1 t6 c9 w R
theorem KE_S12_ok (R : W.Post) (E : W.Env) (w : World) (h : KE_S12 E w R) : W.WP Try.prog (W.cx 97) C31 (Q4 R) E w := by
  obtain ⟨i1, hq1, h1⟩ := W.asInt_elim h
  obtain ⟨t6, hq6, h2⟩ := W.asRef_elim h1
  obtain ⟨c9, hq9, h3⟩ := W.asInt_elim h2
  exact fun a ha => W.WP.at (n := (W.cx 97)) (E := [(1, .int .i64 i1), (6, .pointer (some t6)), (9, .int .u8 c9)]) (W.WP.seq (c := C31) (x := C34) (y := C35) (by kernel_rfl) <| W.WP.reg (c := C34) (fun E w => W.retVC Try.prog Try.f55 E w (fun v => R (.returned v) w)) (by kernel_rfl) (Eq.mp (by kernel_rfl) h3) fun _ _ a hA hK => (W.WP.ret (c := C35) (by kernel_rfl) fun a hA => W.retVC_sound hA hK) a hA) (ha.cons hq1 (ha.cons hq6 (ha.cons hq9 ha.nil)))
noncomputable def C36 : Code := W.Code.fst C27
noncomputable def C37 : Code := W.Code.snd C28
/-- lexer.go:111 -/
abbrev S10 (i1 : Int) (t6 form8 : Addr) (c9 : Int) (w : World) (R : W.Post) : Prop :=
  W.sel (c9 != 34) (W.sel (c9 != 92) (S11 i1 t6 form8 w R) (S12 i1 t6 c9 w R)) (S12 i1 t6 c9 w R)
def KE_S10 (E : W.Env) (w : World) (R : W.Post) : Prop := W.asInt .i64 (W.Env.get? E 1) fun i1 => W.asRef (W.Env.get? E 6) fun t6 => W.asRef (W.Env.get? E 8) fun form8 => W.asInt .u8 (W.Env.get? E 9) fun c9 => S10 i1 t6 form8 c9 w R
theorem KE_S10_ok (R : W.Post) (E : W.Env) (w : World) (h : KE_S10 E w R) : W.WP Try.prog (W.cx 97) C27 (Q3 R) E w := by
  obtain ⟨i1, hq1, h1⟩ := W.asInt_elim h
  obtain ⟨t6, hq6, h2⟩ := W.asRef_elim h1
  obtain ⟨form8, hq8, h3⟩ := W.asRef_elim h2
  obtain ⟨c9, hq9, h4⟩ := W.asInt_elim h3
  exact fun a ha => W.WP.at (n := (W.cx 97)) (E := [(1, .int .i64 i1), (6, .pointer (some t6)), (8, .pointer (some form8)), (9, .int .u8 c9)]) (W.WP.seq (c := C27) (x := C36) (y := C28) (by kernel_rfl) <| W.WP.reg (c := C36) (fun E w => W.condK (W.Env.val E (.tmp 57)) (KE_S11 E w R) (KE_S12 E w R)) (by kernel_rfl) (Eq.mp (by kernel_rfl) h4) fun _ _ a hA hK => (W.WP.condK (c := C28) (x := C29) (y := C37) (o := .tmp 57) (by kernel_rfl) (fun hK => (KE_S11_ok R _ _ hK)) (fun hK => (W.WP.skip (c := C37) (by kernel_rfl) fun a hA => (KE_S12_ok R _ _ hK) a hA)) hK) a hA) (ha.cons hq1 (ha.cons hq6 (ha.cons hq8 (ha.cons hq9 ha.nil))))
noncomputable def C38 : Code := W.Code.snd C30
noncomputable def C39 : Code := W.Code.fst C38
noncomputable def C40 : Code := W.Code.snd C39
noncomputable def C41 : Code := W.Code.fst C40
noncomputable def C42 : Code := W.Code.fst C41
noncomputable def C43 : Code := W.Code.snd C38
abbrev Q5 (R : W.Post) : Exit → Act → World → Prop := (Exit.then (W.wpx Try.prog (W.cx 97) C43 (bodyPost Try.prog Try.f55 R)) (bodyPost Try.prog Try.f55 R))
abbrev Q6 (R : W.Post) : Exit → Act → World → Prop := (Exit.inBlock 0 (Q5 R))
/-- the head of the loop, lexer.go:117 -/
def L15 (s0 : ByteArray) (i1 : Int) (t6 more7 form8 : Addr) (b10 k11 : Int) (w : World) (R : W.Post) : Prop := W.LP Try.prog (W.cx 97) C42 (Q6 R) [(0, .string s0), (1, .int .i64 i1), (6, .pointer (some t6)), (7, .pointer (some more7)), (8, .pointer (some form8)), (10, .int .i64 b10), (11, .int .i64 k11)] w
def KE_L15 (E : W.Env) (w : World) (R : W.Post) : Prop := W.asStr (W.Env.get? E 0) fun s0 => W.asInt .i64 (W.Env.get? E 1) fun i1 => W.asRef (W.Env.get? E 6) fun t6 => W.asRef (W.Env.get? E 7) fun more7 => W.asRef (W.Env.get? E 8) fun form8 => W.asInt .i64 (W.Env.get? E 10) fun b10 => W.asInt .i64 (W.Env.get? E 11) fun k11 => L15 s0 i1 t6 more7 form8 b10 k11 w R
theorem KE_L15_ok (R : W.Post) (E : W.Env) (w : World) (h : KE_L15 E w R) : W.LP Try.prog (W.cx 97) C42 (Q6 R) E w := by
  obtain ⟨s0, hq0, h1⟩ := W.asStr_elim h
  obtain ⟨i1, hq1, h2⟩ := W.asInt_elim h1
  obtain ⟨t6, hq6, h3⟩ := W.asRef_elim h2
  obtain ⟨more7, hq7, h4⟩ := W.asRef_elim h3
  obtain ⟨form8, hq8, h5⟩ := W.asRef_elim h4
  obtain ⟨b10, hq10, h6⟩ := W.asInt_elim h5
  obtain ⟨k11, hq11, h7⟩ := W.asInt_elim h6
  intro a ha
  exact h7 a (ha.cons hq0 (ha.cons hq1 (ha.cons hq6 (ha.cons hq7 (ha.cons hq8 (ha.cons hq10 (ha.cons hq11 ha.nil)))))))
noncomputable def C44 : Code := W.Code.snd C42
noncomputable def C45 : Code := W.Code.fst C44
noncomputable def C46 : Code := W.Code.fst C45
noncomputable def C47 : Code := W.Code.fst C46
noncomputable def C48 : Code := W.Code.snd C47
noncomputable def C49 : Code := W.Code.fst C48
noncomputable def C50 : Code := W.Code.snd C44
abbrev Q7 (R : W.Post) : Exit → Act → World → Prop := (Exit.then (W.wpx Try.prog (W.cx 97) C50 (Exit.then (W.LoopWP Try.prog (W.cx 97) C42 (Q6 R)) (Q6 R))) (Exit.then (W.LoopWP Try.prog (W.cx 97) C42 (Q6 R)) (Q6 R)))
noncomputable def C51 : Code := W.Code.snd C46
abbrev Q8 (R : W.Post) : Exit → Act → World → Prop := (Exit.then (W.wpx Try.prog (W.cx 97) C51 (Exit.inBlock 1 (Q7 R))) (Exit.inBlock 1 (Q7 R)))
noncomputable def C52 : Code := W.Code.fst C49
noncomputable def C53 : Code := W.Code.snd C49
/-- lexer.go:119 -/
abbrev S18 (i1 : Int) (t6 more7 : Addr) (w : World) (R : W.Post) : Prop :=
  ∃ t77_0 : Int, ∃ t77_1 : Int, w.drew.cell? (more7.add 0) = some (.int .i64 t77_0) ∧ w.drew.cell? (more7.add 1) = some (.int .i64 t77_1) ∧ 
  (w.drew.cell? t6).isSome = true ∧ w.drew.frozen? t6 = false ∧ let w1 := w.drew.setCell t6 (.int .i64 t77_0)
  (w1.cell? (t6.add 1)).isSome = true ∧ w1.frozen? (t6.add 1) = false ∧ let w2 := w1.setCell (t6.add 1) (.int .i64 t77_1)
  ∃ r6_0 : Int, ∃ r6_1 : Int, w2.cell? (t6.add 0) = some (.int .i64 r6_0) ∧ w2.cell? (t6.add 1) = some (.int .i64 r6_1) ∧ 
  R (.returned (.tuple #[.int .u8 0, .int .i64 i1, .agg #[.int .i64 r6_0, .int .i64 r6_1]])) w2
def KE_S18 (E : W.Env) (w : World) (R : W.Post) : Prop := W.asInt .i64 (W.Env.get? E 1) fun i1 => W.asRef (W.Env.get? E 6) fun t6 => W.asRef (W.Env.get? E 7) fun more7 => S18 i1 t6 more7 w R
theorem KE_S18_ok (R : W.Post) (E : W.Env) (w : World) (h : KE_S18 E w R) : W.WP Try.prog (W.cx 97) C49 (Q8 R) E w := by
  obtain ⟨i1, hq1, h1⟩ := W.asInt_elim h
  obtain ⟨t6, hq6, h2⟩ := W.asRef_elim h1
  obtain ⟨more7, hq7, h3⟩ := W.asRef_elim h2
  exact fun a ha => W.WP.at (n := (W.cx 97)) (E := [(1, .int .i64 i1), (6, .pointer (some t6)), (7, .pointer (some more7))]) (W.WP.seq (c := C49) (x := C52) (y := C53) (by kernel_rfl) <| W.WP.draw (c := C52) [0, 1, 2, 3, 4] (fun E w => W.retVC Try.prog Try.f55 E w (fun v => R (.returned v) w)) (by kernel_rfl) (Eq.mp (by kernel_rfl) h3) fun _ _ a hA hK => (W.WP.ret (c := C53) (by kernel_rfl) fun a hA => W.retVC_sound hA hK) a hA) (ha.cons hq1 (ha.cons hq6 (ha.cons hq7 ha.nil)))
noncomputable def C54 : Code := W.Code.fst C51
noncomputable def C55 : Code := W.Code.snd C54
noncomputable def C56 : Code := W.Code.fst C55
noncomputable def C57 : Code := W.Code.snd C51
abbrev Q9 (R : W.Post) : Exit → Act → World → Prop := (Exit.then (W.wpx Try.prog (W.cx 97) C57 (Exit.inBlock 1 (Q7 R))) (Exit.inBlock 1 (Q7 R)))
noncomputable def C58 : Code := W.Code.fst C56
noncomputable def C59 : Code := W.Code.snd C56
/-- lexer.go:122 -/
abbrev S20 (i1 : Int) (t6 form8 : Addr) (w : World) (R : W.Post) : Prop :=
  ∃ t84_0 : Int, ∃ t84_1 : Int, w.drew.cell? (form8.add 0) = some (.int .i64 t84_0) ∧ w.drew.cell? (form8.add 1) = some (.int .i64 t84_1) ∧ 
  (w.drew.cell? t6).isSome = true ∧ w.drew.frozen? t6 = false ∧ let w1 := w.drew.setCell t6 (.int .i64 t84_0)
  (w1.cell? (t6.add 1)).isSome = true ∧ w1.frozen? (t6.add 1) = false ∧ let w2 := w1.setCell (t6.add 1) (.int .i64 t84_1)
  ∃ r6_0 : Int, ∃ r6_1 : Int, w2.cell? (t6.add 0) = some (.int .i64 r6_0) ∧ w2.cell? (t6.add 1) = some (.int .i64 r6_1) ∧ 
  R (.returned (.tuple #[.int .u8 0, .int .i64 i1, .agg #[.int .i64 r6_0, .int .i64 r6_1]])) w2
def KE_S20 (E : W.Env) (w : World) (R : W.Post) : Prop := W.asInt .i64 (W.Env.get? E 1) fun i1 => W.asRef (W.Env.get? E 6) fun t6 => W.asRef (W.Env.get? E 8) fun form8 => S20 i1 t6 form8 w R
theorem KE_S20_ok (R : W.Post) (E : W.Env) (w : World) (h : KE_S20 E w R) : W.WP Try.prog (W.cx 97) C56 (Q9 R) E w := by
  obtain ⟨i1, hq1, h1⟩ := W.asInt_elim h
  obtain ⟨t6, hq6, h2⟩ := W.asRef_elim h1
  obtain ⟨form8, hq8, h3⟩ := W.asRef_elim h2
  exact fun a ha => W.WP.at (n := (W.cx 97)) (E := [(1, .int .i64 i1), (6, .pointer (some t6)), (8, .pointer (some form8))]) (W.WP.seq (c := C56) (x := C58) (y := C59) (by kernel_rfl) <| W.WP.draw (c := C58) [0, 1, 2, 3, 4] (fun E w => W.retVC Try.prog Try.f55 E w (fun v => R (.returned v) w)) (by kernel_rfl) (Eq.mp (by kernel_rfl) h3) fun _ _ a hA hK => (W.WP.ret (c := C59) (by kernel_rfl) fun a hA => W.retVC_sound hA hK) a hA) (ha.cons hq1 (ha.cons hq6 (ha.cons hq8 ha.nil)))
abbrev Q10 (R : W.Post) : Exit → Act → World → Prop := (Exit.then (W.LoopWP Try.prog (W.cx 97) C42 (Q6 R)) (Q6 R))
/-- lexer.go:117 -/
abbrev S22 (s0 : ByteArray) (i1 : Int) (t6 more7 form8 : Addr) (b10 k11 : Int) (w : World) (R : W.Post) : Prop :=
  L15 s0 i1 t6 more7 form8 b10 (IntKind.wrap .i64 (k11 + 1)) w R
def KE_S22 (E : W.Env) (w : World) (R : W.Post) : Prop := W.asStr (W.Env.get? E 0) fun s0 => W.asInt .i64 (W.Env.get? E 1) fun i1 => W.asRef (W.Env.get? E 6) fun t6 => W.asRef (W.Env.get? E 7) fun more7 => W.asRef (W.Env.get? E 8) fun form8 => W.asInt .i64 (W.Env.get? E 10) fun b10 => W.asInt .i64 (W.Env.get? E 11) fun k11 => S22 s0 i1 t6 more7 form8 b10 k11 w R
theorem KE_S22_ok (R : W.Post) (E : W.Env) (w : World) (h : KE_S22 E w R) : W.WP Try.prog (W.cx 97) C50 (Q10 R) E w := by
  obtain ⟨s0, hq0, h1⟩ := W.asStr_elim h
  obtain ⟨i1, hq1, h2⟩ := W.asInt_elim h1
  obtain ⟨t6, hq6, h3⟩ := W.asRef_elim h2
  obtain ⟨more7, hq7, h4⟩ := W.asRef_elim h3
  obtain ⟨form8, hq8, h5⟩ := W.asRef_elim h4
  obtain ⟨b10, hq10, h6⟩ := W.asInt_elim h5
  obtain ⟨k11, hq11, h7⟩ := W.asInt_elim h6
  exact fun a ha => W.WP.at (n := (W.cx 97)) (E := [(0, .string s0), (1, .int .i64 i1), (6, .pointer (some t6)), (7, .pointer (some more7)), (8, .pointer (some form8)), (10, .int .i64 b10), (11, .int .i64 k11)]) (W.WP.reg (c := C50) (fun E w => KE_L15 E w R) (by kernel_rfl) (Eq.mp (by kernel_rfl) h7) fun _ _ a hA hK => KE_L15_ok R _ _ hK a hA) (ha.cons hq0 (ha.cons hq1 (ha.cons hq6 (ha.cons hq7 (ha.cons hq8 (ha.cons hq10 (ha.cons hq11 ha.nil)))))))
abbrev Q11 (R : W.Post) : Exit → Act → World → Prop := (Exit.inBlock 1 (Q7 R))
/-- lexer.go:124 -/
abbrev S21 (s0 : ByteArray) (i1 : Int) (t6 more7 form8 : Addr) (b10 k11 : Int) (w : World) (R : W.Post) : Prop :=
  (0 : Int) ≤ k11 ∧ ∃ t89_b : UInt8, s0[Int.toNat k11]? = some t89_b ∧ Calls Try.prog n_strings_IndexByte #[.string (ByteArray.mk #[48, 49, 50, 51, 52, 53, 54, 55, 56, 57, 97, 98, 99, 100, 101, 102]), .int .u8 ((t89_b.toNat : Nat) : Int)] w fun r_ w1 => ∃ t90 : Int, r_ = .returned (.int .i64 t90) ∧ 
  S22 s0 i1 t6 more7 form8 (W.bOr .i64 (IntKind.wrap .i64 (b10 * 2 ^ (4))) t90) k11 w1 R
def KE_S21 (E : W.Env) (w : World) (R : W.Post) : Prop := W.asStr (W.Env.get? E 0) fun s0 => W.asInt .i64 (W.Env.get? E 1) fun i1 => W.asRef (W.Env.get? E 6) fun t6 => W.asRef (W.Env.get? E 7) fun more7 => W.asRef (W.Env.get? E 8) fun form8 => W.asInt .i64 (W.Env.get? E 10) fun b10 => W.asInt .i64 (W.Env.get? E 11) fun k11 => S21 s0 i1 t6 more7 form8 b10 k11 w R
theorem KE_S21_ok (R : W.Post) (E : W.Env) (w : World) (h : KE_S21 E w R) : W.WP Try.prog (W.cx 97) C57 (Q11 R) E w := by
  obtain ⟨s0, hq0, h1⟩ := W.asStr_elim h
  obtain ⟨i1, hq1, h2⟩ := W.asInt_elim h1
  obtain ⟨t6, hq6, h3⟩ := W.asRef_elim h2
  obtain ⟨more7, hq7, h4⟩ := W.asRef_elim h3
  obtain ⟨form8, hq8, h5⟩ := W.asRef_elim h4
  obtain ⟨b10, hq10, h6⟩ := W.asInt_elim h5
  obtain ⟨k11, hq11, h7⟩ := W.asInt_elim h6
  exact fun a ha => W.WP.at (n := (W.cx 97)) (E := [(0, .string s0), (1, .int .i64 i1), (6, .pointer (some t6)), (7, .pointer (some more7)), (8, .pointer (some form8)), (10, .int .i64 b10), (11, .int .i64 k11)]) (W.WP.reg (c := C57) (fun E w => KE_S22 E w R) (by kernel_rfl) (Eq.mp (by kernel_rfl) h7) fun _ _ a hA hK => (KE_S22_ok R _ _ hK) a hA) (ha.cons hq0 (ha.cons hq1 (ha.cons hq6 (ha.cons hq7 (ha.cons hq8 (ha.cons hq10 (ha.cons hq11 ha.nil)))))))
noncomputable def C60 : Code := W.Code.fst C54
noncomputable def C61 : Code := W.Code.snd C55
/-- lexer.go:121 -/
abbrev S19 (s0 : ByteArray) (i1 : Int) (t6 more7 form8 : Addr) (b10 k11 : Int) (w : World) (R : W.Post) : Prop :=
  (0 : Int) ≤ k11 ∧ ∃ t80_b : UInt8, s0[Int.toNat k11]? = some t80_b ∧ Calls Try.prog n_lexer_digit_byte #[.int .u8 ((t80_b.toNat : Nat) : Int), .int .i64 16] w fun r_ w1 => ∃ t81 : Bool, r_ = .returned (.bool t81) ∧ 
  W.sel (!t81) (S20 i1 t6 form8 w1 R) (S21 s0 i1 t6 more7 form8 b10 k11 w1 R)
def KE_S19 (E : W.Env) (w : World) (R : W.Post) : Prop := W.asStr (W.Env.get? E 0) fun s0 => W.asInt .i64 (W.Env.get? E 1) fun i1 => W.asRef (W.Env.get? E 6) fun t6 => W.asRef (W.Env.get? E 7) fun more7 => W.asRef (W.Env.get? E 8) fun form8 => W.asInt .i64 (W.Env.get? E 10) fun b10 => W.asInt .i64 (W.Env.get? E 11) fun k11 => S19 s0 i1 t6 more7 form8 b10 k11 w R
theorem KE_S19_ok (R : W.Post) (E : W.Env) (w : World) (h : KE_S19 E w R) : W.WP Try.prog (W.cx 97) C54 (Q9 R) E w := by
  obtain ⟨s0, hq0, h1⟩ := W.asStr_elim h
  obtain ⟨i1, hq1, h2⟩ := W.asInt_elim h1
  obtain ⟨t6, hq6, h3⟩ := W.asRef_elim h2
  obtain ⟨more7, hq7, h4⟩ := W.asRef_elim h3
  obtain ⟨form8, hq8, h5⟩ := W.asRef_elim h4
  obtain ⟨b10, hq10, h6⟩ := W.asInt_elim h5
  obtain ⟨k11, hq11, h7⟩ := W.asInt_elim h6
  exact fun a ha => W.WP.at (n := (W.cx 97)) (E := [(0, .string s0), (1, .int .i64 i1), (6, .pointer (some t6)), (7, .pointer (some more7)), (8, .pointer (some form8)), (10, .int .i64 b10), (11, .int .i64 k11)]) (W.WP.seq (c := C54) (x := C60) (y := C55) (by kernel_rfl) <| W.WP.reg (c := C60) (fun E w => W.condK (W.Env.val E (.tmp 82)) (KE_S20 E w R) (KE_S21 E w R)) (by kernel_rfl) (Eq.mp (by kernel_rfl) h7) fun _ _ a hA hK => (W.WP.condK (c := C55) (x := C56) (y := C61) (o := .tmp 82) (by kernel_rfl) (fun hK => (KE_S20_ok R _ _ hK)) (fun hK => (W.WP.skip (c := C61) (by kernel_rfl) fun a hA => (KE_S21_ok R _ _ hK) a hA)) hK) a hA) (ha.cons hq0 (ha.cons hq1 (ha.cons hq6 (ha.cons hq7 (ha.cons hq8 (ha.cons hq10 (ha.cons hq11 ha.nil)))))))
noncomputable def C62 : Code := W.Code.fst C47
noncomputable def C63 : Code := W.Code.snd C48
/-- lexer.go:118 -/
abbrev S17 (s0 : ByteArray) (i1 : Int) (t6 more7 form8 : Addr) (b10 k11 : Int) (w : World) (R : W.Post) : Prop :=
  W.sel (k11 == ((s0.size : Nat) : Int)) (S18 i1 t6 more7 w R) (S19 s0 i1 t6 more7 form8 b10 k11 w R)
def KE_S17 (E : W.Env) (w : World) (R : W.Post) : Prop := W.asStr (W.Env.get? E 0) fun s0 => W.asInt .i64 (W.Env.get? E 1) fun i1 => W.asRef (W.Env.get? E 6) fun t6 => W.asRef (W.Env.get? E 7) fun more7 => W.asRef (W.Env.get? E 8) fun form8 => W.asInt .i64 (W.Env.get? E 10) fun b10 => W.asInt .i64 (W.Env.get? E 11) fun k11 => S17 s0 i1 t6 more7 form8 b10 k11 w R
theorem KE_S17_ok (R : W.Post) (E : W.Env) (w : World) (h : KE_S17 E w R) : W.WP Try.prog (W.cx 97) C47 (Q8 R) E w := by
  obtain ⟨s0, hq0, h1⟩ := W.asStr_elim h
  obtain ⟨i1, hq1, h2⟩ := W.asInt_elim h1
  obtain ⟨t6, hq6, h3⟩ := W.asRef_elim h2
  obtain ⟨more7, hq7, h4⟩ := W.asRef_elim h3
  obtain ⟨form8, hq8, h5⟩ := W.asRef_elim h4
  obtain ⟨b10, hq10, h6⟩ := W.asInt_elim h5
  obtain ⟨k11, hq11, h7⟩ := W.asInt_elim h6
  exact fun a ha => W.WP.at (n := (W.cx 97)) (E := [(0, .string s0), (1, .int .i64 i1), (6, .pointer (some t6)), (7, .pointer (some more7)), (8, .pointer (some form8)), (10, .int .i64 b10), (11, .int .i64 k11)]) (W.WP.seq (c := C47) (x := C62) (y := C48) (by kernel_rfl) <| W.WP.reg (c := C62) (fun E w => W.condK (W.Env.val E (.tmp 75)) (KE_S18 E w R) (KE_S19 E w R)) (by kernel_rfl) (Eq.mp (by kernel_rfl) h7) fun _ _ a hA hK => (W.WP.condK (c := C48) (x := C49) (y := C63) (o := .tmp 75) (by kernel_rfl) (fun hK => (KE_S18_ok R _ _ hK)) (fun hK => (W.WP.skip (c := C63) (by kernel_rfl) fun a hA => (W.WP.seq (c := C51) (x := C54) (y := C57) (by kernel_rfl) (KE_S19_ok R _ _ hK)) a hA)) hK) a hA) (ha.cons hq0 (ha.cons hq1 (ha.cons hq6 (ha.cons hq7 (ha.cons hq8 (ha.cons hq10 (ha.cons hq11 ha.nil)))))))
abbrev Q12 (R : W.Post) : Exit → Act → World → Prop := (bodyPost Try.prog Try.f55 R)
noncomputable def C64 : Code := W.Code.fst C43
noncomputable def C65 : Code := W.Code.snd C43
/-- lexer.go:126 -/
abbrev S23 (i1 : Int) (t6 : Addr) (b10 : Int) (w : World) (R : W.Post) : Prop :=
  (w.cell? t6).isSome = true ∧ w.frozen? t6 = false ∧ let w1 := w.setCell t6 (.int .i64 0)
  (w1.cell? (t6.add 1)).isSome = true ∧ w1.frozen? (t6.add 1) = false ∧ let w2 := w1.setCell (t6.add 1) (.int .i64 0)
  ∃ r6_0 : Int, ∃ r6_1 : Int, w2.cell? (t6.add 0) = some (.int .i64 r6_0) ∧ w2.cell? (t6.add 1) = some (.int .i64 r6_1) ∧ 
  R (.returned (.tuple #[.int .u8 (IntKind.wrap .u8 b10), .int .i64 (IntKind.wrap .i64 (i1 + 4)), .agg #[.int .i64 r6_0, .int .i64 r6_1]])) w2
def KE_S23 (E : W.Env) (w : World) (R : W.Post) : Prop := W.asInt .i64 (W.Env.get? E 1) fun i1 => W.asRef (W.Env.get? E 6) fun t6 => W.asInt .i64 (W.Env.get? E 10) fun b10 => S23 i1 t6 b10 w R
theorem KE_S23_ok (R : W.Post) (E : W.Env) (w : World) (h : KE_S23 E w R) : W.WP Try.prog (W.cx 97) C43 (Q12 R) E w := by
  obtain ⟨i1, hq1, h1⟩ := W.asInt_elim h
  obtain ⟨t6, hq6, h2⟩ := W.asRef_elim h1
  obtain ⟨b10, hq10, h3⟩ := W.asInt_elim h2
  exact fun a ha => W.WP.at (n := (W.cx 97)) (E := [(1, .int .i64 i1), (6, .pointer (some t6)), (10, .int .i64 b10)]) (W.WP.seq (c := C43) (x := C64) (y := C65) (by kernel_rfl) <| W.WP.reg (c := C64) (fun E w => W.retVC Try.prog Try.f55 E w (fun v => R (.returned v) w)) (by kernel_rfl) (Eq.mp (by kernel_rfl) h3) fun _ _ a hA hK => (W.WP.ret (c := C65) (by kernel_rfl) fun a hA => W.retVC_sound hA hK) a hA) (ha.cons hq1 (ha.cons hq6 (ha.cons hq10 ha.nil)))
noncomputable def C66 : Code := W.Code.fst C42
abbrev Q13 (R : W.Post) : Exit → Act → World → Prop := (Exit.then (W.wpx Try.prog (W.cx 97) C44 (Exit.then (W.LoopWP Try.prog (W.cx 97) C42 (Q6 R)) (Q6 R))) (Exit.then (W.LoopWP Try.prog (W.cx 97) C42 (Q6 R)) (Q6 R)))
noncomputable def C67 : Code := W.Code.fst C66
noncomputable def C68 : Code := W.Code.snd C66
noncomputable def C69 : Code := W.Code.fst C68
noncomputable def C70 : Code := W.Code.snd C68
/-- lexer.go:117 -/
abbrev S16 (s0 : ByteArray) (i1 : Int) (t6 more7 form8 : Addr) (b10 k11 : Int) (w : World) (R : W.Post) : Prop :=
  W.sel (decide (k11 < (IntKind.wrap .i64 (i1 + 4)))) (S17 s0 i1 t6 more7 form8 b10 k11 w R) (S23 i1 t6 b10 w R)
def KE_S16 (E : W.Env) (w : World) (R : W.Post) : Prop := W.asStr (W.Env.get? E 0) fun s0 => W.asInt .i64 (W.Env.get? E 1) fun i1 => W.asRef (W.Env.get? E 6) fun t6 => W.asRef (W.Env.get? E 7) fun more7 => W.asRef (W.Env.get? E 8) fun form8 => W.asInt .i64 (W.Env.get? E 10) fun b10 => W.asInt .i64 (W.Env.get? E 11) fun k11 => S16 s0 i1 t6 more7 form8 b10 k11 w R
theorem KE_S16_ok (R : W.Post) (E : W.Env) (w : World) (h : KE_S16 E w R) : W.WP Try.prog (W.cx 97) C66 (Q13 R) E w := by
  obtain ⟨s0, hq0, h1⟩ := W.asStr_elim h
  obtain ⟨i1, hq1, h2⟩ := W.asInt_elim h1
  obtain ⟨t6, hq6, h3⟩ := W.asRef_elim h2
  obtain ⟨more7, hq7, h4⟩ := W.asRef_elim h3
  obtain ⟨form8, hq8, h5⟩ := W.asRef_elim h4
  obtain ⟨b10, hq10, h6⟩ := W.asInt_elim h5
  obtain ⟨k11, hq11, h7⟩ := W.asInt_elim h6
  exact fun a ha => W.WP.at (n := (W.cx 97)) (E := [(0, .string s0), (1, .int .i64 i1), (6, .pointer (some t6)), (7, .pointer (some more7)), (8, .pointer (some form8)), (10, .int .i64 b10), (11, .int .i64 k11)]) (W.WP.seq (c := C66) (x := C67) (y := C68) (by kernel_rfl) <| W.WP.reg (c := C67) (fun E w => W.condK (W.Env.val E (.tmp 69)) (KE_S17 E w R) (KE_S23 E w R)) (by kernel_rfl) (Eq.mp (by kernel_rfl) h7) fun _ _ a hA hK => (W.WP.condK (c := C68) (x := C69) (y := C70) (o := .tmp 69) (by kernel_rfl) (fun hK => (W.WP.skip (c := C69) (by kernel_rfl) fun a hA => (W.WP.seq (c := C44) (x := C45) (y := C50) (by kernel_rfl) (W.WP.block (c := C45) (x := C46) (id := 1) (by kernel_rfl) (W.WP.seq (c := C46) (x := C47) (y := C51) (by kernel_rfl) (KE_S17_ok R _ _ hK)))) a hA)) (fun hK => (W.WP.exit (c := C70) (id := 0) (by kernel_rfl) fun a hA => (KE_S23_ok R _ _ hK) a hA)) hK) a hA) (ha.cons hq0 (ha.cons hq1 (ha.cons hq6 (ha.cons hq7 (ha.cons hq8 (ha.cons hq10 (ha.cons hq11 ha.nil)))))))
theorem L15_step (s0 : ByteArray) (i1 : Int) (t6 more7 form8 : Addr) (b10 k11 : Int) (w : World) (R : W.Post) (h : S16 s0 i1 t6 more7 form8 b10 k11 w R) : L15 s0 i1 t6 more7 form8 b10 k11 w R :=
  W.LP.step (n := (W.cx 97)) (c := C42) (E := [(0, .string s0), (1, .int .i64 i1), (6, .pointer (some t6)), (7, .pointer (some more7)), (8, .pointer (some form8)), (10, .int .i64 b10), (11, .int .i64 k11)]) (w := w) (W.WP.seq (c := C42) (x := C66) (y := C44) (by kernel_rfl) (KE_S16_ok R _ _ (Eq.mp (by kernel_rfl) h)))
noncomputable def C71 : Code := W.Code.fst C39
/-- lexer.go:117 -/
abbrev S14 (s0 : ByteArray) (i1 : Int) (t6 more7 form8 : Addr) (b10 : Int) (w : World) (R : W.Post) : Prop :=
  L15 s0 i1 t6 more7 form8 b10 (IntKind.wrap .i64 (i1 + 2)) w R
def KE_S14 (E : W.Env) (w : World) (R : W.Post) : Prop := W.asStr (W.Env.get? E 0) fun s0 => W.asInt .i64 (W.Env.get? E 1) fun i1 => W.asRef (W.Env.get? E 6) fun t6 => W.asRef (W.Env.get? E 7) fun more7 => W.asRef (W.Env.get? E 8) fun form8 => W.asInt .i64 (W.Env.get? E 10) fun b10 => S14 s0 i1 t6 more7 form8 b10 w R
theorem KE_S14_ok (R : W.Post) (E : W.Env) (w : World) (h : KE_S14 E w R) : W.WP Try.prog (W.cx 97) C39 (Q5 R) E w := by
  obtain ⟨s0, hq0, h1⟩ := W.asStr_elim h
  obtain ⟨i1, hq1, h2⟩ := W.asInt_elim h1
  obtain ⟨t6, hq6, h3⟩ := W.asRef_elim h2
  obtain ⟨more7, hq7, h4⟩ := W.asRef_elim h3
  obtain ⟨form8, hq8, h5⟩ := W.asRef_elim h4
  obtain ⟨b10, hq10, h6⟩ := W.asInt_elim h5
  exact fun a ha => W.WP.at (n := (W.cx 97)) (E := [(0, .string s0), (1, .int .i64 i1), (6, .pointer (some t6)), (7, .pointer (some more7)), (8, .pointer (some form8)), (10, .int .i64 b10)]) (W.WP.seq (c := C39) (x := C71) (y := C40) (by kernel_rfl) <| W.WP.reg (c := C71) (fun E w => KE_L15 E w R) (by kernel_rfl) (Eq.mp (by kernel_rfl) h6) fun _ _ a hA hK => (W.WP.block (c := C40) (x := C41) (id := 0) (by kernel_rfl) (W.WP.loop (c := C41) (x := C42) (by kernel_rfl) (KE_L15_ok R _ _ hK))) a hA) (ha.cons hq0 (ha.cons hq1 (ha.cons hq6 (ha.cons hq7 (ha.cons hq8 (ha.cons hq10 ha.nil))))))
noncomputable def C72 : Code := W.Code.fst C30
/-- lexer.go:116 -/
abbrev S13 (s0 : ByteArray) (i1 : Int) (t6 more7 form8 : Addr) (w : World) (R : W.Post) : Prop :=
  S14 s0 i1 t6 more7 form8 0 w R
def KE_S13 (E : W.Env) (w : World) (R : W.Post) : Prop := W.asStr (W.Env.get? E 0) fun s0 => W.asInt .i64 (W.Env.get? E 1) fun i1 => W.asRef (W.Env.get? E 6) fun t6 => W.asRef (W.Env.get? E 7) fun more7 => W.asRef (W.Env.get? E 8) fun form8 => S13 s0 i1 t6 more7 form8 w R
theorem KE_S13_ok (R : W.Post) (E : W.Env) (w : World) (h : KE_S13 E w R) : W.WP Try.prog (W.cx 97) C30 (Q12 R) E w := by
  obtain ⟨s0, hq0, h1⟩ := W.asStr_elim h
  obtain ⟨i1, hq1, h2⟩ := W.asInt_elim h1
  obtain ⟨t6, hq6, h3⟩ := W.asRef_elim h2
  obtain ⟨more7, hq7, h4⟩ := W.asRef_elim h3
  obtain ⟨form8, hq8, h5⟩ := W.asRef_elim h4
  exact fun a ha => W.WP.at (n := (W.cx 97)) (E := [(0, .string s0), (1, .int .i64 i1), (6, .pointer (some t6)), (7, .pointer (some more7)), (8, .pointer (some form8))]) (W.WP.seq (c := C30) (x := C72) (y := C38) (by kernel_rfl) <| W.WP.reg (c := C72) (fun E w => KE_S14 E w R) (by kernel_rfl) (Eq.mp (by kernel_rfl) h5) fun _ _ a hA hK => (W.WP.seq (c := C38) (x := C39) (y := C43) (by kernel_rfl) (KE_S14_ok R _ _ hK)) a hA) (ha.cons hq0 (ha.cons hq1 (ha.cons hq6 (ha.cons hq7 (ha.cons hq8 ha.nil)))))
noncomputable def C73 : Code := W.Code.fst C24
noncomputable def C74 : Code := W.Code.snd C25
/-- lexer.go:110 -/
abbrev S9 (s0 : ByteArray) (i1 : Int) (t6 more7 form8 : Addr) (c9 : Int) (w : World) (R : W.Post) : Prop :=
  W.sel (c9 != 120) (S10 i1 t6 form8 c9 w R) (S13 s0 i1 t6 more7 form8 w R)
def KE_S9 (E : W.Env) (w : World) (R : W.Post) : Prop := W.asStr (W.Env.get? E 0) fun s0 => W.asInt .i64 (W.Env.get? E 1) fun i1 => W.asRef (W.Env.get? E 6) fun t6 => W.asRef (W.Env.get? E 7) fun more7 => W.asRef (W.Env.get? E 8) fun form8 => W.asInt .u8 (W.Env.get? E 9) fun c9 => S9 s0 i1 t6 more7 form8 c9 w R
theorem KE_S9_ok (R : W.Post) (E : W.Env) (w : World) (h : KE_S9 E w R) : W.WP Try.prog (W.cx 97) C24 (Q4 R) E w := by
  obtain ⟨s0, hq0, h1⟩ := W.asStr_elim h
  obtain ⟨i1, hq1, h2⟩ := W.asInt_elim h1
  obtain ⟨t6, hq6, h3⟩ := W.asRef_elim h2
  obtain ⟨more7, hq7, h4⟩ := W.asRef_elim h3
  obtain ⟨form8, hq8, h5⟩ := W.asRef_elim h4
  obtain ⟨c9, hq9, h6⟩ := W.asInt_elim h5
  exact fun a ha => W.WP.at (n := (W.cx 97)) (E := [(0, .string s0), (1, .int .i64 i1), (6, .pointer (some t6)), (7, .pointer (some more7)), (8, .pointer (some form8)), (9, .int .u8 c9)]) (W.WP.seq (c := C24) (x := C73) (y := C25) (by kernel_rfl) <| W.WP.reg (c := C73) (fun E w => W.condK (W.Env.val E (.tmp 51)) (KE_S10 E w R) (KE_S13 E w R)) (by kernel_rfl) (Eq.mp (by kernel_rfl) h6) fun _ _ a hA hK => (W.WP.condK (c := C25) (x := C26) (y := C74) (o := .tmp 51) (by kernel_rfl) (fun hK => (W.WP.seq (c := C26) (x := C27) (y := C31) (by kernel_rfl) (KE_S10_ok R _ _ hK))) (fun hK => (W.WP.skip (c := C74) (by kernel_rfl) fun a hA => (KE_S13_ok R _ _ hK) a hA)) hK) a hA) (ha.cons hq0 (ha.cons hq1 (ha.cons hq6 (ha.cons hq7 (ha.cons hq8 (ha.cons hq9 ha.nil))))))
noncomputable def C75 : Code := W.Code.fst C23
/-- lexer.go:110 -/
abbrev S8 (s0 : ByteArray) (i1 : Int) (t6 more7 form8 : Addr) (w : World) (R : W.Post) : Prop :=
  (0 : Int) ≤ (IntKind.wrap .i64 (i1 + 1)) ∧ ∃ t49_b : UInt8, s0[Int.toNat (IntKind.wrap .i64 (i1 + 1))]? = some t49_b ∧ S9 s0 i1 t6 more7 form8 ((t49_b.toNat : Nat) : Int) w R
def KE_S8 (E : W.Env) (w : World) (R : W.Post) : Prop := W.asStr (W.Env.get? E 0) fun s0 => W.asInt .i64 (W.Env.get? E 1) fun i1 => W.asRef (W.Env.get? E 6) fun t6 => W.asRef (W.Env.get? E 7) fun more7 => W.asRef (W.Env.get? E 8) fun form8 => S8 s0 i1 t6 more7 form8 w R
theorem KE_S8_ok (R : W.Post) (E : W.Env) (w : World) (h : KE_S8 E w R) : W.WP Try.prog (W.cx 97) C23 (Q4 R) E w := by
  obtain ⟨s0, hq0, h1⟩ := W.asStr_elim h
  obtain ⟨i1, hq1, h2⟩ := W.asInt_elim h1
  obtain ⟨t6, hq6, h3⟩ := W.asRef_elim h2
  obtain ⟨more7, hq7, h4⟩ := W.asRef_elim h3
  obtain ⟨form8, hq8, h5⟩ := W.asRef_elim h4
  exact fun a ha => W.WP.at (n := (W.cx 97)) (E := [(0, .string s0), (1, .int .i64 i1), (6, .pointer (some t6)), (7, .pointer (some more7)), (8, .pointer (some form8))]) (W.WP.seq (c := C23) (x := C75) (y := C24) (by kernel_rfl) <| W.WP.reg (c := C75) (fun E w => KE_S9 E w R) (by kernel_rfl) (Eq.mp (by kernel_rfl) h5) fun _ _ a hA hK => (KE_S9_ok R _ _ hK) a hA) (ha.cons hq0 (ha.cons hq1 (ha.cons hq6 (ha.cons hq7 (ha.cons hq8 ha.nil)))))
noncomputable def C76 : Code := W.Code.fst C17
noncomputable def C77 : Code := W.Code.snd C18
/-- lexer.go:107 -/
abbrev S6 (s0 : ByteArray) (i1 : Int) (t6 more7 form8 : Addr) (w : World) (R : W.Post) : Prop :=
  W.sel ((IntKind.wrap .i64 (i1 + 1)) == ((s0.size : Nat) : Int)) (S7 i1 t6 more7 w R) (S8 s0 i1 t6 more7 form8 w R)
def KE_S6 (E : W.Env) (w : World) (R : W.Post) : Prop := W.asStr (W.Env.get? E 0) fun s0 => W.asInt .i64 (W.Env.get? E 1) fun i1 => W.asRef (W.Env.get? E 6) fun t6 => W.asRef (W.Env.get? E 7) fun more7 => W.asRef (W.Env.get? E 8) fun form8 => S6 s0 i1 t6 more7 form8 w R
theorem KE_S6_ok (R : W.Post) (E : W.Env) (w : World) (h : KE_S6 E w R) : W.WP Try.prog (W.cx 97) C17 (Q2 R) E w := by
  obtain ⟨s0, hq0, h1⟩ := W.asStr_elim h
  obtain ⟨i1, hq1, h2⟩ := W.asInt_elim h1
  obtain ⟨t6, hq6, h3⟩ := W.asRef_elim h2
  obtain ⟨more7, hq7, h4⟩ := W.asRef_elim h3
  obtain ⟨form8, hq8, h5⟩ := W.asRef_elim h4
  exact fun a ha => W.WP.at (n := (W.cx 97)) (E := [(0, .string s0), (1, .int .i64 i1), (6, .pointer (some t6)), (7, .pointer (some more7)), (8, .pointer (some form8))]) (W.WP.seq (c := C17) (x := C76) (y := C18) (by kernel_rfl) <| W.WP.reg (c := C76) (fun E w => W.condK (W.Env.val E (.tmp 43)) (KE_S7 E w R) (KE_S8 E w R)) (by kernel_rfl) (Eq.mp (by kernel_rfl) h5) fun _ _ a hA hK => (W.WP.condK (c := C18) (x := C19) (y := C77) (o := .tmp 43) (by kernel_rfl) (fun hK => (KE_S7_ok R _ _ hK)) (fun hK => (W.WP.skip (c := C77) (by kernel_rfl) fun a hA => (W.WP.seq (c := C20) (x := C23) (y := C30) (by kernel_rfl) (KE_S8_ok R _ _ hK)) a hA)) hK) a hA) (ha.cons hq0 (ha.cons hq1 (ha.cons hq6 (ha.cons hq7 (ha.cons hq8 ha.nil)))))
noncomputable def C78 : Code := W.Code.fst C3
noncomputable def C79 : Code := W.Code.snd C4
/-- lexer.go:101 -/
abbrev S2 (s0 : ByteArray) (i1 : Int) (t6 more7 form8 : Addr) (w : World) (R : W.Post) : Prop :=
  (0 : Int) ≤ i1 ∧ ∃ t19_b : UInt8, s0[Int.toNat i1]? = some t19_b ∧ W.sel (((t19_b.toNat : Nat) : Int) != 92) (S3 s0 i1 t6 form8 w R) (S6 s0 i1 t6 more7 form8 w R)
def KE_S2 (E : W.Env) (w : World) (R : W.Post) : Prop := W.asStr (W.Env.get? E 0) fun s0 => W.asInt .i64 (W.Env.get? E 1) fun i1 => W.asRef (W.Env.get? E 6) fun t6 => W.asRef (W.Env.get? E 7) fun more7 => W.asRef (W.Env.get? E 8) fun form8 => S2 s0 i1 t6 more7 form8 w R
theorem KE_S2_ok (R : W.Post) (E : W.Env) (w : World) (h : KE_S2 E w R) : W.WP Try.prog (W.cx 97) C3 (Q1 R) E w := by
  obtain ⟨s0, hq0, h1⟩ := W.asStr_elim h
  obtain ⟨i1, hq1, h2⟩ := W.asInt_elim h1
  obtain ⟨t6, hq6, h3⟩ := W.asRef_elim h2
  obtain ⟨more7, hq7, h4⟩ := W.asRef_elim h3
  obtain ⟨form8, hq8, h5⟩ := W.asRef_elim h4
  exact fun a ha => W.WP.at (n := (W.cx 97)) (E := [(0, .string s0), (1, .int .i64 i1), (6, .pointer (some t6)), (7, .pointer (some more7)), (8, .pointer (some form8))]) (W.WP.seq (c := C3) (x := C78) (y := C4) (by kernel_rfl) <| W.WP.reg (c := C78) (fun E w => W.condK (W.Env.val E (.tmp 20)) (KE_S3 E w R) (KE_S6 E w R)) (by kernel_rfl) (Eq.mp (by kernel_rfl) h5) fun _ _ a hA hK => (W.WP.condK (c := C4) (x := C5) (y := C79) (o := .tmp 20) (by kernel_rfl) (fun hK => (W.WP.seq (c := C5) (x := C6) (y := C10) (by kernel_rfl) (KE_S3_ok R _ _ hK))) (fun hK => (W.WP.skip (c := C79) (by kernel_rfl) fun a hA => (W.WP.seq (c := C9) (x := C17) (y := C20) (by kernel_rfl) (KE_S6_ok R _ _ hK)) a hA)) hK) a hA) (ha.cons hq0 (ha.cons hq1 (ha.cons hq6 (ha.cons hq7 (ha.cons hq8 ha.nil)))))
noncomputable def C80 : Code := W.Code.fst C1
/-- lexer.go:100 -/
abbrev S1 (s0 : ByteArray) (i1 : Int) (t6 : Addr) (w : World) (R : W.Post) : Prop :=
  let w1 := w.alloc (.cells #[.int .i64 0, .int .i64 0] ty_lexer_fault)
  let w2 := w1.alloc (.cells #[.int .i64 0, .int .i64 0] ty_lexer_fault)
  (w2.cell? (Addr.mk w.heap.size 0 none)).isSome = true ∧ w2.frozen? (Addr.mk w.heap.size 0 none) = false ∧ let w3 := w2.setCell (Addr.mk w.heap.size 0 none) (.int .i64 3)
  (w3.cell? ((Addr.mk w.heap.size 0 none).add 1)).isSome = true ∧ w3.frozen? ((Addr.mk w.heap.size 0 none).add 1) = false ∧ let w4 := w3.setCell ((Addr.mk w.heap.size 0 none).add 1) (.int .i64 ((s0.size : Nat) : Int))
  (w4.cell? (Addr.mk w1.heap.size 0 none)).isSome = true ∧ w4.frozen? (Addr.mk w1.heap.size 0 none) = false ∧ let w5 := w4.setCell (Addr.mk w1.heap.size 0 none) (.int .i64 2)
  (w5.cell? ((Addr.mk w1.heap.size 0 none).add 1)).isSome = true ∧ w5.frozen? ((Addr.mk w1.heap.size 0 none).add 1) = false ∧ let w6 := w5.setCell ((Addr.mk w1.heap.size 0 none).add 1) (.int .i64 i1)
  S2 s0 i1 t6 (Addr.mk w.heap.size 0 none) (Addr.mk w1.heap.size 0 none) w6 R
def KE_S1 (E : W.Env) (w : World) (R : W.Post) : Prop := W.asStr (W.Env.get? E 0) fun s0 => W.asInt .i64 (W.Env.get? E 1) fun i1 => W.asRef (W.Env.get? E 6) fun t6 => S1 s0 i1 t6 w R
theorem KE_S1_ok (R : W.Post) (E : W.Env) (w : World) (h : KE_S1 E w R) : W.WP Try.prog (W.cx 97) C1 (Q12 R) E w := by
  obtain ⟨s0, hq0, h1⟩ := W.asStr_elim h
  obtain ⟨i1, hq1, h2⟩ := W.asInt_elim h1
  obtain ⟨t6, hq6, h3⟩ := W.asRef_elim h2
  exact fun a ha => W.WP.at (n := (W.cx 97)) (E := [(0, .string s0), (1, .int .i64 i1), (6, .pointer (some t6))]) (W.WP.seq (c := C1) (x := C80) (y := C2) (by kernel_rfl) <| W.WP.reg (c := C80) (fun E w => KE_S2 E w R) (by kernel_rfl) (Eq.mp (by kernel_rfl) h3) fun _ _ a hA hK => (W.WP.seq (c := C2) (x := C3) (y := C9) (by kernel_rfl) (KE_S2_ok R _ _ hK)) a hA) (ha.cons hq0 (ha.cons hq1 (ha.cons hq6 ha.nil)))
noncomputable def C81 : Code := W.Code.fst C0
/-- lexer.go:99 -/
abbrev S0 (s0 : ByteArray) (i1 : Int) (w : World) (R : W.Post) : Prop :=
  let w1 := w.alloc (.cells #[.int .i64 0, .int .i64 0] ty_lexer_fault)
  S1 s0 i1 (Addr.mk w.heap.size 0 none) w1 R
def KE_S0 (E : W.Env) (w : World) (R : W.Post) : Prop := W.asStr (W.Env.get? E 0) fun s0 => W.asInt .i64 (W.Env.get? E 1) fun i1 => S0 s0 i1 w R
theorem KE_S0_ok (R : W.Post) (E : W.Env) (w : World) (h : KE_S0 E w R) : W.WP Try.prog (W.cx 97) C0 (Q12 R) E w := by
  obtain ⟨s0, hq0, h1⟩ := W.asStr_elim h
  obtain ⟨i1, hq1, h2⟩ := W.asInt_elim h1
  exact fun a ha => W.WP.at (n := (W.cx 97)) (E := [(0, .string s0), (1, .int .i64 i1)]) (W.WP.seq (c := C0) (x := C81) (y := C1) (by kernel_rfl) <| W.WP.reg (c := C81) (fun E w => KE_S1 E w R) (by kernel_rfl) (Eq.mp (by kernel_rfl) h2) fun _ _ a hA hK => (KE_S1_ok R _ _ hK) a hA) (ha.cons hq0 (ha.cons hq1 ha.nil))
/-- enthymeme/lexer.item -/
theorem ok (s0 : ByteArray) (i1 : Int) (w : World) (R : W.Post) (h : S0 s0 i1 w R) : Calls Try.prog n_lexer_item #[.string s0, .int .i64 i1] w R :=
  W.calls_of_WP' (fn := Try.f55) (c := C0) (args := [.string s0, .int .i64 i1]) (by kernel_rfl) (by kernel_rfl) (by kernel_rfl) (KE_S0_ok R _ _ (Eq.mp (by kernel_rfl) h))
end lexer_item
end Go.Proofs.Ytemagdpieebjlaa

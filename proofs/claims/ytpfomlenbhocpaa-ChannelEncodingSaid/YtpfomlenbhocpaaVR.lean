/- Printed by a program of ours (vcgen.py) from the dump: the conditions of the functions, and that they suffice. -/
import Derived.Test.YtpfomlenbhocpaaVD
import Derived.Test.YtpfomlenbhocpaaVE
import Derived.Test.YtpfomlenbhocpaaVM
set_option linter.unusedVariables false
set_option maxRecDepth 100000
namespace Go.Proofs.Ytpfomlenbhocpaa
open Go
namespace enthymemeref38_Valid
noncomputable def C0 : Code := (Try.f26.body).getD .skip
noncomputable def C1 : Code := W.Code.snd C0
abbrev Q0 (R : W.Post) : Exit → Act → World → Prop := (bodyPost Try.prog Try.f26 R)
noncomputable def C2 : Code := W.Code.fst C1
noncomputable def C3 : Code := W.Code.snd C1
/-- ref.go:60 -/
abbrev S1 (p1 : Addr) (w : World) (R : W.Post) : Prop :=
  ∃ t4 : Int, w.cell? (p1.add 0) = some (.int .i64 t4) ∧ 
  W.sel (decide (t4 ≥ 0)) (∃ t8 : Int, w.cell? (p1.add 1) = some (.int .i64 t8) ∧ 
  W.sel (decide (t8 ≥ 0)) (∃ t13 : W.Sl, w.cell? (p1.add 2) = some (t13.v) ∧ 
  W.sel (decide (((t13.n : Nat) : Int) ≤ 65536)) (∃ t19 : Int, w.cell? (p1.add 0) = some (.int .i64 t19) ∧ 
  W.sel (decide (t19 > 0)) (R (.returned (.bool true)) w) (∃ t23 : W.Sl, w.cell? (p1.add 2) = some (t23.v) ∧ 
  R (.returned (.bool (((t23.n : Nat) : Int) == 0))) w)) (R (.returned (.bool false)) w)) (R (.returned (.bool false)) w)) (R (.returned (.bool false)) w)
def KE_S1 (E : W.Env) (w : World) (R : W.Post) : Prop := W.asRef (W.Env.get? E 1) fun p1 => S1 p1 w R
theorem KE_S1_ok (R : W.Post) (E : W.Env) (w : World) (h : KE_S1 E w R) : W.WP Try.prog (W.cx 28) C1 (Q0 R) E w := by
  obtain ⟨p1, hq1, h1⟩ := W.asRef_elim h
  exact fun a ha => W.WP.at (n := (W.cx 28)) (E := [(1, .pointer (some p1))]) (W.WP.seq (c := C1) (x := C2) (y := C3) (by kernel_rfl) <| W.WP.reg (c := C2) (fun E w => W.retVC Try.prog Try.f26 E w (fun v => R (.returned v) w)) (by kernel_rfl) (Eq.mp (by kernel_rfl) h1) fun _ _ a hA hK => (W.WP.ret (c := C3) (by kernel_rfl) fun a hA => W.retVC_sound hA hK) a hA) (ha.cons hq1 ha.nil)
noncomputable def C4 : Code := W.Code.fst C0
/-- ref.go:59 -/
abbrev S0 (p0_0 p0_1 : Int) (p0_2 : W.Sl) (w : World) (R : W.Post) : Prop :=
  let w1 := w.alloc (.cells #[.int .i64 p0_0, .int .i64 p0_1, p0_2.v] ty_enthymemeref38_Packet)
  S1 (Addr.mk w.heap.size 0 none) w1 R
def KE_S0 (E : W.Env) (w : World) (R : W.Post) : Prop := W.asAgg (W.Env.get? E 0) fun p0_l0 => W.asCons p0_l0 fun p0_v0 p0_l1 => W.asInt .i64 (some p0_v0) fun p0_0 => W.asCons p0_l1 fun p0_v1 p0_l2 => W.asInt .i64 (some p0_v1) fun p0_1 => W.asCons p0_l2 fun p0_v2 p0_l3 => W.asSlice (some p0_v2) fun p0_2 => W.asNil p0_l3 <| S0 p0_0 p0_1 p0_2 w R
theorem KE_S0_ok (R : W.Post) (E : W.Env) (w : World) (h : KE_S0 E w R) : W.WP Try.prog (W.cx 28) C0 (Q0 R) E w := by
  obtain ⟨p0_l0, hq0, h1⟩ := W.asAgg_elim h
  obtain ⟨p0_v0, p0_l1, rfl, h2⟩ := W.asCons_elim h1
  obtain ⟨p0_0, ex, h3⟩ := W.asInt_elim h2
  obtain rfl := Option.some.inj ex
  obtain ⟨p0_v1, p0_l2, rfl, h4⟩ := W.asCons_elim h3
  obtain ⟨p0_1, ex, h5⟩ := W.asInt_elim h4
  obtain rfl := Option.some.inj ex
  obtain ⟨p0_v2, p0_l3, rfl, h6⟩ := W.asCons_elim h5
  obtain ⟨p0_2, ex, h7⟩ := W.asSlice_elim h6
  obtain rfl := Option.some.inj ex
  obtain ⟨rfl, h8⟩ := W.asNil_elim h7
  exact fun a ha => W.WP.at (n := (W.cx 28)) (E := [(0, .agg #[.int .i64 p0_0, .int .i64 p0_1, p0_2.v])]) (W.WP.seq (c := C0) (x := C4) (y := C1) (by kernel_rfl) <| W.WP.reg (c := C4) (fun E w => KE_S1 E w R) (by kernel_rfl) (Eq.mp (by kernel_rfl) h8) fun _ _ a hA hK => (KE_S1_ok R _ _ hK) a hA) (ha.cons hq0 ha.nil)
/-- enthymeme/enthymemeref38.Valid -/
theorem ok (p0_0 p0_1 : Int) (p0_2 : W.Sl) (w : World) (R : W.Post) (h : S0 p0_0 p0_1 p0_2 w R) : Calls Try.prog n_enthymemeref38_Valid #[.agg #[.int .i64 p0_0, .int .i64 p0_1, p0_2.v]] w R :=
  W.calls_of_WP' (fn := Try.f26) (c := C0) (args := [.agg #[.int .i64 p0_0, .int .i64 p0_1, p0_2.v]]) (by kernel_rfl) (by kernel_rfl) (by kernel_rfl) (KE_S0_ok R _ _ (Eq.mp (by kernel_rfl) h))
end enthymemeref38_Valid
namespace enthymemeref38_core
noncomputable def C0 : Code := (Try.f27.body).getD .skip
noncomputable def C1 : Code := W.Code.snd C0
noncomputable def C2 : Code := W.Code.snd C1
noncomputable def C3 : Code := W.Code.snd C2
abbrev Q0 (R : W.Post) : Exit → Act → World → Prop := (bodyPost Try.prog Try.f27 R)
noncomputable def C4 : Code := W.Code.fst C3
noncomputable def C5 : Code := W.Code.snd C3
/-- ref.go:104 -/
abbrev S3 (p1 : Addr) (out3 : W.Sl) (w : World) (R : W.Post) : Prop :=
  ∃ t14 : W.Sl, w.cell? (p1.add 2) = some (t14.v) ∧ 
  Calls Try.prog n_enthymemeref02_Raw #[t14.v] w fun r_ w1 => ∃ t15 : W.Sl, r_ = .returned (t15.v) ∧ 
  ∃ (t16 : W.Sl) (w2 : World), Sem.run Try.prog (Builtin.append_ #[ty_sl_uint8, ty_sl_uint8] ty_sl_uint8 #[out3.v, t15.v]) w1 = .ok (t16.v) w2 ∧ R (.returned (t16.v)) w2
def KE_S3 (E : W.Env) (w : World) (R : W.Post) : Prop := W.asRef (W.Env.get? E 1) fun p1 => W.asSlice (W.Env.get? E 3) fun out3 => S3 p1 out3 w R
theorem KE_S3_ok (R : W.Post) (E : W.Env) (w : World) (h : KE_S3 E w R) : W.WP Try.prog (W.cx 17) C3 (Q0 R) E w := by
  obtain ⟨p1, hq1, h1⟩ := W.asRef_elim h
  obtain ⟨out3, hq3, h2⟩ := W.asSlice_elim h1
  exact fun a ha => W.WP.at (n := (W.cx 17)) (E := [(1, .pointer (some p1)), (3, out3.v)]) (W.WP.seq (c := C3) (x := C4) (y := C5) (by kernel_rfl) <| W.WP.reg (c := C4) (fun E w => W.retVC Try.prog Try.f27 E w (fun v => R (.returned v) w)) (by kernel_rfl) (Eq.mp (by kernel_rfl) h2) fun _ _ a hA hK => (W.WP.ret (c := C5) (by kernel_rfl) fun a hA => W.retVC_sound hA hK) a hA) (ha.cons hq1 (ha.cons hq3 ha.nil))
noncomputable def C6 : Code := W.Code.fst C2
/-- ref.go:103 -/
abbrev S2 (p1 : Addr) (out3 : W.Sl) (w : World) (R : W.Post) : Prop :=
  ∃ t9 : Int, w.cell? (p1.add 1) = some (.int .i64 t9) ∧ 
  Calls Try.prog n_enthymemeref02_Int #[.int .i64 t9] w fun r_ w1 => ∃ t10 : W.Sl, r_ = .returned (t10.v) ∧ 
  ∃ (t11 : W.Sl) (w2 : World), Sem.run Try.prog (Builtin.append_ #[ty_sl_uint8, ty_sl_uint8] ty_sl_uint8 #[out3.v, t10.v]) w1 = .ok (t11.v) w2 ∧ S3 p1 t11 w2 R
def KE_S2 (E : W.Env) (w : World) (R : W.Post) : Prop := W.asRef (W.Env.get? E 1) fun p1 => W.asSlice (W.Env.get? E 3) fun out3 => S2 p1 out3 w R
theorem KE_S2_ok (R : W.Post) (E : W.Env) (w : World) (h : KE_S2 E w R) : W.WP Try.prog (W.cx 17) C2 (Q0 R) E w := by
  obtain ⟨p1, hq1, h1⟩ := W.asRef_elim h
  obtain ⟨out3, hq3, h2⟩ := W.asSlice_elim h1
  exact fun a ha => W.WP.at (n := (W.cx 17)) (E := [(1, .pointer (some p1)), (3, out3.v)]) (W.WP.seq (c := C2) (x := C6) (y := C3) (by kernel_rfl) <| W.WP.reg (c := C6) (fun E w => KE_S3 E w R) (by kernel_rfl) (Eq.mp (by kernel_rfl) h2) fun _ _ a hA hK => (KE_S3_ok R _ _ hK) a hA) (ha.cons hq1 (ha.cons hq3 ha.nil))
noncomputable def C7 : Code := W.Code.fst C1
/-- ref.go:102 -/
abbrev S1 (p1 : Addr) (w : World) (R : W.Post) : Prop :=
  ∃ t5 : Int, w.cell? (p1.add 0) = some (.int .i64 t5) ∧ 
  Calls Try.prog n_enthymemeref02_Int #[.int .i64 t5] w fun r_ w1 => ∃ t6 : W.Sl, r_ = .returned (t6.v) ∧ 
  S2 p1 t6 w1 R
def KE_S1 (E : W.Env) (w : World) (R : W.Post) : Prop := W.asRef (W.Env.get? E 1) fun p1 => S1 p1 w R
theorem KE_S1_ok (R : W.Post) (E : W.Env) (w : World) (h : KE_S1 E w R) : W.WP Try.prog (W.cx 17) C1 (Q0 R) E w := by
  obtain ⟨p1, hq1, h1⟩ := W.asRef_elim h
  exact fun a ha => W.WP.at (n := (W.cx 17)) (E := [(1, .pointer (some p1))]) (W.WP.seq (c := C1) (x := C7) (y := C2) (by kernel_rfl) <| W.WP.reg (c := C7) (fun E w => KE_S2 E w R) (by kernel_rfl) (Eq.mp (by kernel_rfl) h1) fun _ _ a hA hK => (KE_S2_ok R _ _ hK) a hA) (ha.cons hq1 ha.nil)
noncomputable def C8 : Code := W.Code.fst C0
/-- ref.go:101 -/
abbrev S0 (p0_0 p0_1 : Int) (p0_2 : W.Sl) (w : World) (R : W.Post) : Prop :=
  let w1 := w.alloc (.cells #[.int .i64 p0_0, .int .i64 p0_1, p0_2.v] ty_enthymemeref38_Packet)
  S1 (Addr.mk w.heap.size 0 none) w1 R
def KE_S0 (E : W.Env) (w : World) (R : W.Post) : Prop := W.asAgg (W.Env.get? E 0) fun p0_l0 => W.asCons p0_l0 fun p0_v0 p0_l1 => W.asInt .i64 (some p0_v0) fun p0_0 => W.asCons p0_l1 fun p0_v1 p0_l2 => W.asInt .i64 (some p0_v1) fun p0_1 => W.asCons p0_l2 fun p0_v2 p0_l3 => W.asSlice (some p0_v2) fun p0_2 => W.asNil p0_l3 <| S0 p0_0 p0_1 p0_2 w R
theorem KE_S0_ok (R : W.Post) (E : W.Env) (w : World) (h : KE_S0 E w R) : W.WP Try.prog (W.cx 17) C0 (Q0 R) E w := by
  obtain ⟨p0_l0, hq0, h1⟩ := W.asAgg_elim h
  obtain ⟨p0_v0, p0_l1, rfl, h2⟩ := W.asCons_elim h1
  obtain ⟨p0_0, ex, h3⟩ := W.asInt_elim h2
  obtain rfl := Option.some.inj ex
  obtain ⟨p0_v1, p0_l2, rfl, h4⟩ := W.asCons_elim h3
  obtain ⟨p0_1, ex, h5⟩ := W.asInt_elim h4
  obtain rfl := Option.some.inj ex
  obtain ⟨p0_v2, p0_l3, rfl, h6⟩ := W.asCons_elim h5
  obtain ⟨p0_2, ex, h7⟩ := W.asSlice_elim h6
  obtain rfl := Option.some.inj ex
  obtain ⟨rfl, h8⟩ := W.asNil_elim h7
  exact fun a ha => W.WP.at (n := (W.cx 17)) (E := [(0, .agg #[.int .i64 p0_0, .int .i64 p0_1, p0_2.v])]) (W.WP.seq (c := C0) (x := C8) (y := C1) (by kernel_rfl) <| W.WP.reg (c := C8) (fun E w => KE_S1 E w R) (by kernel_rfl) (Eq.mp (by kernel_rfl) h8) fun _ _ a hA hK => (KE_S1_ok R _ _ hK) a hA) (ha.cons hq0 ha.nil)
/-- enthymeme/enthymemeref38.core -/
theorem ok (p0_0 p0_1 : Int) (p0_2 : W.Sl) (w : World) (R : W.Post) (h : S0 p0_0 p0_1 p0_2 w R) : Calls Try.prog n_enthymemeref38_core #[.agg #[.int .i64 p0_0, .int .i64 p0_1, p0_2.v]] w R :=
  W.calls_of_WP' (fn := Try.f27) (c := C0) (args := [.agg #[.int .i64 p0_0, .int .i64 p0_1, p0_2.v]]) (by kernel_rfl) (by kernel_rfl) (by kernel_rfl) (KE_S0_ok R _ _ (Eq.mp (by kernel_rfl) h))
end enthymemeref38_core
namespace enthymemeref38_Whole
noncomputable def C0 : Code := (Try.f11.body).getD .skip
noncomputable def C1 : Code := W.Code.snd C0
noncomputable def C2 : Code := W.Code.snd C1
abbrev Q0 (R : W.Post) : Exit → Act → World → Prop := (bodyPost Try.prog Try.f11 R)
noncomputable def C3 : Code := W.Code.fst C2
noncomputable def C4 : Code := W.Code.snd C2
/-- ref.go:110 -/
abbrev S2 (c0 out3 : W.Sl) (w : World) (R : W.Post) : Prop :=
  Calls Try.prog n_enthymemeref01_Bytes #[.string (ByteArray.mk #[112, 97, 114, 99, 101, 108]), c0.v] w fun r_ w1 => ∃ t8 : Int, r_ = .returned (.int .u64 t8) ∧ 
  Calls Try.prog n_enthymemeref02_Uint #[.int .u64 t8] w1 fun r_ w2 => ∃ t9 : W.Sl, r_ = .returned (t9.v) ∧ 
  ∃ (t10 : W.Sl) (w3 : World), Sem.run Try.prog (Builtin.append_ #[ty_sl_uint8, ty_sl_uint8] ty_sl_uint8 #[out3.v, t9.v]) w2 = .ok (t10.v) w3 ∧ R (.returned (t10.v)) w3
def KE_S2 (E : W.Env) (w : World) (R : W.Post) : Prop := W.asSlice (W.Env.get? E 0) fun c0 => W.asSlice (W.Env.get? E 3) fun out3 => S2 c0 out3 w R
theorem KE_S2_ok (R : W.Post) (E : W.Env) (w : World) (h : KE_S2 E w R) : W.WP Try.prog (W.cx 11) C2 (Q0 R) E w := by
  obtain ⟨c0, hq0, h1⟩ := W.asSlice_elim h
  obtain ⟨out3, hq3, h2⟩ := W.asSlice_elim h1
  exact fun a ha => W.WP.at (n := (W.cx 11)) (E := [(0, c0.v), (3, out3.v)]) (W.WP.seq (c := C2) (x := C3) (y := C4) (by kernel_rfl) <| W.WP.reg (c := C3) (fun E w => W.retVC Try.prog Try.f11 E w (fun v => R (.returned v) w)) (by kernel_rfl) (Eq.mp (by kernel_rfl) h2) fun _ _ a hA hK => (W.WP.ret (c := C4) (by kernel_rfl) fun a hA => W.retVC_sound hA hK) a hA) (ha.cons hq0 (ha.cons hq3 ha.nil))
noncomputable def C5 : Code := W.Code.fst C1
/-- ref.go:109 -/
abbrev S1 (c0 : W.Sl) (w : World) (R : W.Post) : Prop :=
  Calls Try.prog n_enthymemeref02_Raw #[c0.v] w fun r_ w1 => ∃ t5 : W.Sl, r_ = .returned (t5.v) ∧ 
  S2 c0 t5 w1 R
def KE_S1 (E : W.Env) (w : World) (R : W.Post) : Prop := W.asSlice (W.Env.get? E 0) fun c0 => S1 c0 w R
theorem KE_S1_ok (R : W.Post) (E : W.Env) (w : World) (h : KE_S1 E w R) : W.WP Try.prog (W.cx 11) C1 (Q0 R) E w := by
  obtain ⟨c0, hq0, h1⟩ := W.asSlice_elim h
  exact fun a ha => W.WP.at (n := (W.cx 11)) (E := [(0, c0.v)]) (W.WP.seq (c := C1) (x := C5) (y := C2) (by kernel_rfl) <| W.WP.reg (c := C5) (fun E w => KE_S2 E w R) (by kernel_rfl) (Eq.mp (by kernel_rfl) h1) fun _ _ a hA hK => (KE_S2_ok R _ _ hK) a hA) (ha.cons hq0 ha.nil)
noncomputable def C6 : Code := W.Code.fst C0
/-- ref.go:108 -/
abbrev S0 (c0 : W.Sl) (w : World) (R : W.Post) : Prop :=
  S1 c0 w R
def KE_S0 (E : W.Env) (w : World) (R : W.Post) : Prop := W.asSlice (W.Env.get? E 0) fun c0 => S0 c0 w R
theorem KE_S0_ok (R : W.Post) (E : W.Env) (w : World) (h : KE_S0 E w R) : W.WP Try.prog (W.cx 11) C0 (Q0 R) E w := by
  obtain ⟨c0, hq0, h1⟩ := W.asSlice_elim h
  exact fun a ha => W.WP.at (n := (W.cx 11)) (E := [(0, c0.v)]) (W.WP.seq (c := C0) (x := C6) (y := C1) (by kernel_rfl) <| W.WP.reg (c := C6) (fun E w => KE_S1 E w R) (by kernel_rfl) (Eq.mp (by kernel_rfl) h1) fun _ _ a hA hK => (KE_S1_ok R _ _ hK) a hA) (ha.cons hq0 ha.nil)
/-- enthymeme/enthymemeref38.Whole -/
theorem ok (c0 : W.Sl) (w : World) (R : W.Post) (h : S0 c0 w R) : Calls Try.prog n_enthymemeref38_Whole #[c0.v] w R :=
  W.calls_of_WP' (fn := Try.f11) (c := C0) (args := [c0.v]) (by kernel_rfl) (by kernel_rfl) (by kernel_rfl) (KE_S0_ok R _ _ (Eq.mp (by kernel_rfl) h))
end enthymemeref38_Whole
namespace enthymemeref38_Encode
noncomputable def C0 : Code := (Try.f7.body).getD .skip
noncomputable def C1 : Code := W.Code.snd C0
noncomputable def C2 : Code := W.Code.snd C1
noncomputable def C3 : Code := W.Code.fst C2
noncomputable def C4 : Code := W.Code.snd C3
noncomputable def C5 : Code := W.Code.fst C4
noncomputable def C6 : Code := W.Code.snd C2
abbrev Q0 (R : W.Post) : Exit → Act → World → Prop := (Exit.then (W.wpx Try.prog (W.cx 12) C6 (bodyPost Try.prog Try.f7 R)) (bodyPost Try.prog Try.f7 R))
noncomputable def C7 : Code := W.Code.fst C5
noncomputable def C8 : Code := W.Code.snd C5
/-- ref.go:117 -/
abbrev S3  (w : World) (R : W.Post) : Prop :=
  R (.returned (.tuple #[.slice none 0 0, .int .i64 1])) w
def KE_S3 (E : W.Env) (w : World) (R : W.Post) : Prop := S3  w R
theorem KE_S3_ok (R : W.Post) (E : W.Env) (w : World) (h : KE_S3 E w R) : W.WP Try.prog (W.cx 12) C5 (Q0 R) E w := by
  exact fun a ha => W.WP.at (n := (W.cx 12)) (E := []) (W.WP.seq (c := C5) (x := C7) (y := C8) (by kernel_rfl) <| W.WP.reg (c := C7) (fun E w => W.retVC Try.prog Try.f7 E w (fun v => R (.returned v) w)) (by kernel_rfl) (Eq.mp (by kernel_rfl) h) fun _ _ a hA hK => (W.WP.ret (c := C8) (by kernel_rfl) fun a hA => W.retVC_sound hA hK) a hA) ha.nil
abbrev Q1 (R : W.Post) : Exit → Act → World → Prop := (bodyPost Try.prog Try.f7 R)
noncomputable def C9 : Code := W.Code.fst C6
noncomputable def C10 : Code := W.Code.snd C6
/-- ref.go:119 -/
abbrev S4 (p1 : Addr) (w : World) (R : W.Post) : Prop :=
  ∃ t9_0 : Int, ∃ t9_1 : Int, ∃ t9_2 : W.Sl, w.cell? (p1.add 0) = some (.int .i64 t9_0) ∧ w.cell? (p1.add 1) = some (.int .i64 t9_1) ∧ w.cell? (p1.add 2) = some (t9_2.v) ∧ 
  Calls Try.prog n_enthymemeref38_core #[.agg #[.int .i64 t9_0, .int .i64 t9_1, t9_2.v]] w fun r_ w1 => ∃ t10 : W.Sl, r_ = .returned (t10.v) ∧ 
  Calls Try.prog n_enthymemeref38_Whole #[t10.v] w1 fun r_ w2 => ∃ t11 : W.Sl, r_ = .returned (t11.v) ∧ 
  R (.returned (.tuple #[t11.v, .int .i64 0])) w2
def KE_S4 (E : W.Env) (w : World) (R : W.Post) : Prop := W.asRef (W.Env.get? E 1) fun p1 => S4 p1 w R
theorem KE_S4_ok (R : W.Post) (E : W.Env) (w : World) (h : KE_S4 E w R) : W.WP Try.prog (W.cx 12) C6 (Q1 R) E w := by
  obtain ⟨p1, hq1, h1⟩ := W.asRef_elim h
  exact fun a ha => W.WP.at (n := (W.cx 12)) (E := [(1, .pointer (some p1))]) (W.WP.seq (c := C6) (x := C9) (y := C10) (by kernel_rfl) <| W.WP.reg (c := C9) (fun E w => W.retVC Try.prog Try.f7 E w (fun v => R (.returned v) w)) (by kernel_rfl) (Eq.mp (by kernel_rfl) h1) fun _ _ a hA hK => (W.WP.ret (c := C10) (by kernel_rfl) fun a hA => W.retVC_sound hA hK) a hA) (ha.cons hq1 ha.nil)
noncomputable def C11 : Code := W.Code.fst C3
noncomputable def C12 : Code := W.Code.snd C4
/-- ref.go:116 -/
abbrev S2 (p1 : Addr) (valid4 : Bool) (w : World) (R : W.Post) : Prop :=
  W.sel (!valid4) (S3  w R) (S4 p1 w R)
def KE_S2 (E : W.Env) (w : World) (R : W.Post) : Prop := W.asRef (W.Env.get? E 1) fun p1 => W.asBool' (W.Env.get? E 4) fun valid4 => S2 p1 valid4 w R
theorem KE_S2_ok (R : W.Post) (E : W.Env) (w : World) (h : KE_S2 E w R) : W.WP Try.prog (W.cx 12) C3 (Q0 R) E w := by
  obtain ⟨p1, hq1, h1⟩ := W.asRef_elim h
  obtain ⟨valid4, hq4, h2⟩ := W.asBool_elim h1
  exact fun a ha => W.WP.at (n := (W.cx 12)) (E := [(1, .pointer (some p1)), (4, .bool valid4)]) (W.WP.seq (c := C3) (x := C11) (y := C4) (by kernel_rfl) <| W.WP.reg (c := C11) (fun E w => W.condK (W.Env.val E (.tmp 8)) (KE_S3 E w R) (KE_S4 E w R)) (by kernel_rfl) (Eq.mp (by kernel_rfl) h2) fun _ _ a hA hK => (W.WP.condK (c := C4) (x := C5) (y := C12) (o := .tmp 8) (by kernel_rfl) (fun hK => (KE_S3_ok R _ _ hK)) (fun hK => (W.WP.skip (c := C12) (by kernel_rfl) fun a hA => (KE_S4_ok R _ _ hK) a hA)) hK) a hA) (ha.cons hq1 (ha.cons hq4 ha.nil))
noncomputable def C13 : Code := W.Code.fst C1
/-- ref.go:115 -/
abbrev S1 (p1 : Addr) (w : World) (R : W.Post) : Prop :=
  ∃ t5_0 : Int, ∃ t5_1 : Int, ∃ t5_2 : W.Sl, w.cell? (p1.add 0) = some (.int .i64 t5_0) ∧ w.cell? (p1.add 1) = some (.int .i64 t5_1) ∧ w.cell? (p1.add 2) = some (t5_2.v) ∧ 
  Calls Try.prog n_enthymemeref38_Valid #[.agg #[.int .i64 t5_0, .int .i64 t5_1, t5_2.v]] w fun r_ w1 => ∃ t6 : Bool, r_ = .returned (.bool t6) ∧ 
  S2 p1 t6 w1 R
def KE_S1 (E : W.Env) (w : World) (R : W.Post) : Prop := W.asRef (W.Env.get? E 1) fun p1 => S1 p1 w R
theorem KE_S1_ok (R : W.Post) (E : W.Env) (w : World) (h : KE_S1 E w R) : W.WP Try.prog (W.cx 12) C1 (Q1 R) E w := by
  obtain ⟨p1, hq1, h1⟩ := W.asRef_elim h
  exact fun a ha => W.WP.at (n := (W.cx 12)) (E := [(1, .pointer (some p1))]) (W.WP.seq (c := C1) (x := C13) (y := C2) (by kernel_rfl) <| W.WP.reg (c := C13) (fun E w => KE_S2 E w R) (by kernel_rfl) (Eq.mp (by kernel_rfl) h1) fun _ _ a hA hK => (W.WP.seq (c := C2) (x := C3) (y := C6) (by kernel_rfl) (KE_S2_ok R _ _ hK)) a hA) (ha.cons hq1 ha.nil)
noncomputable def C14 : Code := W.Code.fst C0
/-- ref.go:114 -/
abbrev S0 (p0_0 p0_1 : Int) (p0_2 : W.Sl) (w : World) (R : W.Post) : Prop :=
  let w1 := w.alloc (.cells #[.int .i64 p0_0, .int .i64 p0_1, p0_2.v] ty_enthymemeref38_Packet)
  S1 (Addr.mk w.heap.size 0 none) w1 R
def KE_S0 (E : W.Env) (w : World) (R : W.Post) : Prop := W.asAgg (W.Env.get? E 0) fun p0_l0 => W.asCons p0_l0 fun p0_v0 p0_l1 => W.asInt .i64 (some p0_v0) fun p0_0 => W.asCons p0_l1 fun p0_v1 p0_l2 => W.asInt .i64 (some p0_v1) fun p0_1 => W.asCons p0_l2 fun p0_v2 p0_l3 => W.asSlice (some p0_v2) fun p0_2 => W.asNil p0_l3 <| S0 p0_0 p0_1 p0_2 w R
theorem KE_S0_ok (R : W.Post) (E : W.Env) (w : World) (h : KE_S0 E w R) : W.WP Try.prog (W.cx 12) C0 (Q1 R) E w := by
  obtain ⟨p0_l0, hq0, h1⟩ := W.asAgg_elim h
  obtain ⟨p0_v0, p0_l1, rfl, h2⟩ := W.asCons_elim h1
  obtain ⟨p0_0, ex, h3⟩ := W.asInt_elim h2
  obtain rfl := Option.some.inj ex
  obtain ⟨p0_v1, p0_l2, rfl, h4⟩ := W.asCons_elim h3
  obtain ⟨p0_1, ex, h5⟩ := W.asInt_elim h4
  obtain rfl := Option.some.inj ex
  obtain ⟨p0_v2, p0_l3, rfl, h6⟩ := W.asCons_elim h5
  obtain ⟨p0_2, ex, h7⟩ := W.asSlice_elim h6
  obtain rfl := Option.some.inj ex
  obtain ⟨rfl, h8⟩ := W.asNil_elim h7
  exact fun a ha => W.WP.at (n := (W.cx 12)) (E := [(0, .agg #[.int .i64 p0_0, .int .i64 p0_1, p0_2.v])]) (W.WP.seq (c := C0) (x := C14) (y := C1) (by kernel_rfl) <| W.WP.reg (c := C14) (fun E w => KE_S1 E w R) (by kernel_rfl) (Eq.mp (by kernel_rfl) h8) fun _ _ a hA hK => (KE_S1_ok R _ _ hK) a hA) (ha.cons hq0 ha.nil)
/-- enthymeme/enthymemeref38.Encode -/
theorem ok (p0_0 p0_1 : Int) (p0_2 : W.Sl) (w : World) (R : W.Post) (h : S0 p0_0 p0_1 p0_2 w R) : Calls Try.prog n_enthymemeref38_Encode #[.agg #[.int .i64 p0_0, .int .i64 p0_1, p0_2.v]] w R :=
  W.calls_of_WP' (fn := Try.f7) (c := C0) (args := [.agg #[.int .i64 p0_0, .int .i64 p0_1, p0_2.v]]) (by kernel_rfl) (by kernel_rfl) (by kernel_rfl) (KE_S0_ok R _ _ (Eq.mp (by kernel_rfl) h))
end enthymemeref38_Encode
namespace enthymemeref38_Decode
noncomputable def C0 : Code := (Try.f13.body).getD .skip
noncomputable def C1 : Code := W.Code.snd C0
noncomputable def C2 : Code := W.Code.snd C1
noncomputable def C3 : Code := W.Code.snd C2
noncomputable def C4 : Code := W.Code.snd C3
noncomputable def C5 : Code := W.Code.fst C4
noncomputable def C6 : Code := W.Code.snd C5
noncomputable def C7 : Code := W.Code.fst C6
noncomputable def C8 : Code := W.Code.snd C4
abbrev Q0 (R : W.Post) : Exit → Act → World → Prop := (Exit.then (W.wpx Try.prog (W.cx 49) C8 (bodyPost Try.prog Try.f13 R)) (bodyPost Try.prog Try.f13 R))
noncomputable def C9 : Code := W.Code.fst C7
noncomputable def C10 : Code := W.Code.snd C7
/-- ref.go:128 -/
abbrev S5 (t2 : Addr) (w : World) (R : W.Post) : Prop :=
  (w.cell? t2).isSome = true ∧ w.frozen? t2 = false ∧ let w1 := w.setCell t2 (.int .i64 0)
  (w1.cell? (t2.add 1)).isSome = true ∧ w1.frozen? (t2.add 1) = false ∧ let w2 := w1.setCell (t2.add 1) (.int .i64 0)
  (w2.cell? (t2.add 2)).isSome = true ∧ w2.frozen? (t2.add 2) = false ∧ let w3 := w2.setCell (t2.add 2) (.slice none 0 0)
  ∃ r2_0 : Int, ∃ r2_1 : Int, ∃ r2_2 : W.Sl, w3.cell? (t2.add 0) = some (.int .i64 r2_0) ∧ w3.cell? (t2.add 1) = some (.int .i64 r2_1) ∧ w3.cell? (t2.add 2) = some (r2_2.v) ∧ 
  R (.returned (.tuple #[.agg #[.int .i64 r2_0, .int .i64 r2_1, r2_2.v], .int .i64 2])) w3
def KE_S5 (E : W.Env) (w : World) (R : W.Post) : Prop := W.asRef (W.Env.get? E 2) fun t2 => S5 t2 w R
theorem KE_S5_ok (R : W.Post) (E : W.Env) (w : World) (h : KE_S5 E w R) : W.WP Try.prog (W.cx 49) C7 (Q0 R) E w := by
  obtain ⟨t2, hq2, h1⟩ := W.asRef_elim h
  exact fun a ha => W.WP.at (n := (W.cx 49)) (E := [(2, .pointer (some t2))]) (W.WP.seq (c := C7) (x := C9) (y := C10) (by kernel_rfl) <| W.WP.reg (c := C9) (fun E w => W.retVC Try.prog Try.f13 E w (fun v => R (.returned v) w)) (by kernel_rfl) (Eq.mp (by kernel_rfl) h1) fun _ _ a hA hK => (W.WP.ret (c := C10) (by kernel_rfl) fun a hA => W.retVC_sound hA hK) a hA) (ha.cons hq2 ha.nil)
noncomputable def C11 : Code := W.Code.fst C8
noncomputable def C12 : Code := W.Code.snd C11
noncomputable def C13 : Code := W.Code.fst C12
noncomputable def C14 : Code := W.Code.snd C8
abbrev Q1 (R : W.Post) : Exit → Act → World → Prop := (Exit.then (W.wpx Try.prog (W.cx 49) C14 (bodyPost Try.prog Try.f13 R)) (bodyPost Try.prog Try.f13 R))
noncomputable def C15 : Code := W.Code.fst C13
noncomputable def C16 : Code := W.Code.snd C13
/-- ref.go:131 -/
abbrev S7 (t2 : Addr) (w : World) (R : W.Post) : Prop :=
  (w.cell? t2).isSome = true ∧ w.frozen? t2 = false ∧ let w1 := w.setCell t2 (.int .i64 0)
  (w1.cell? (t2.add 1)).isSome = true ∧ w1.frozen? (t2.add 1) = false ∧ let w2 := w1.setCell (t2.add 1) (.int .i64 0)
  (w2.cell? (t2.add 2)).isSome = true ∧ w2.frozen? (t2.add 2) = false ∧ let w3 := w2.setCell (t2.add 2) (.slice none 0 0)
  ∃ r2_0 : Int, ∃ r2_1 : Int, ∃ r2_2 : W.Sl, w3.cell? (t2.add 0) = some (.int .i64 r2_0) ∧ w3.cell? (t2.add 1) = some (.int .i64 r2_1) ∧ w3.cell? (t2.add 2) = some (r2_2.v) ∧ 
  R (.returned (.tuple #[.agg #[.int .i64 r2_0, .int .i64 r2_1, r2_2.v], .int .i64 21])) w3
def KE_S7 (E : W.Env) (w : World) (R : W.Post) : Prop := W.asRef (W.Env.get? E 2) fun t2 => S7 t2 w R
theorem KE_S7_ok (R : W.Post) (E : W.Env) (w : World) (h : KE_S7 E w R) : W.WP Try.prog (W.cx 49) C13 (Q1 R) E w := by
  obtain ⟨t2, hq2, h1⟩ := W.asRef_elim h
  exact fun a ha => W.WP.at (n := (W.cx 49)) (E := [(2, .pointer (some t2))]) (W.WP.seq (c := C13) (x := C15) (y := C16) (by kernel_rfl) <| W.WP.reg (c := C15) (fun E w => W.retVC Try.prog Try.f13 E w (fun v => R (.returned v) w)) (by kernel_rfl) (Eq.mp (by kernel_rfl) h1) fun _ _ a hA hK => (W.WP.ret (c := C16) (by kernel_rfl) fun a hA => W.retVC_sound hA hK) a hA) (ha.cons hq2 ha.nil)
noncomputable def C17 : Code := W.Code.snd C14
noncomputable def C18 : Code := W.Code.snd C17
noncomputable def C19 : Code := W.Code.snd C18
noncomputable def C20 : Code := W.Code.snd C19
noncomputable def C21 : Code := W.Code.snd C20
noncomputable def C22 : Code := W.Code.fst C21
noncomputable def C23 : Code := W.Code.snd C22
noncomputable def C24 : Code := W.Code.fst C23
noncomputable def C25 : Code := W.Code.snd C21
abbrev Q2 (R : W.Post) : Exit → Act → World → Prop := (Exit.then (W.wpx Try.prog (W.cx 49) C25 (bodyPost Try.prog Try.f13 R)) (bodyPost Try.prog Try.f13 R))
noncomputable def C26 : Code := W.Code.fst C24
noncomputable def C27 : Code := W.Code.snd C24
/-- ref.go:139 -/
abbrev S14 (t2 : Addr) (w : World) (R : W.Post) : Prop :=
  (w.cell? t2).isSome = true ∧ w.frozen? t2 = false ∧ let w1 := w.setCell t2 (.int .i64 0)
  (w1.cell? (t2.add 1)).isSome = true ∧ w1.frozen? (t2.add 1) = false ∧ let w2 := w1.setCell (t2.add 1) (.int .i64 0)
  (w2.cell? (t2.add 2)).isSome = true ∧ w2.frozen? (t2.add 2) = false ∧ let w3 := w2.setCell (t2.add 2) (.slice none 0 0)
  ∃ r2_0 : Int, ∃ r2_1 : Int, ∃ r2_2 : W.Sl, w3.cell? (t2.add 0) = some (.int .i64 r2_0) ∧ w3.cell? (t2.add 1) = some (.int .i64 r2_1) ∧ w3.cell? (t2.add 2) = some (r2_2.v) ∧ 
  R (.returned (.tuple #[.agg #[.int .i64 r2_0, .int .i64 r2_1, r2_2.v], .int .i64 2])) w3
def KE_S14 (E : W.Env) (w : World) (R : W.Post) : Prop := W.asRef (W.Env.get? E 2) fun t2 => S14 t2 w R
theorem KE_S14_ok (R : W.Post) (E : W.Env) (w : World) (h : KE_S14 E w R) : W.WP Try.prog (W.cx 49) C24 (Q2 R) E w := by
  obtain ⟨t2, hq2, h1⟩ := W.asRef_elim h
  exact fun a ha => W.WP.at (n := (W.cx 49)) (E := [(2, .pointer (some t2))]) (W.WP.seq (c := C24) (x := C26) (y := C27) (by kernel_rfl) <| W.WP.reg (c := C26) (fun E w => W.retVC Try.prog Try.f13 E w (fun v => R (.returned v) w)) (by kernel_rfl) (Eq.mp (by kernel_rfl) h1) fun _ _ a hA hK => (W.WP.ret (c := C27) (by kernel_rfl) fun a hA => W.retVC_sound hA hK) a hA) (ha.cons hq2 ha.nil)
abbrev Q3 (R : W.Post) : Exit → Act → World → Prop := (bodyPost Try.prog Try.f13 R)
noncomputable def C28 : Code := W.Code.fst C25
noncomputable def C29 : Code := W.Code.snd C25
/-- ref.go:141 -/
abbrev S15 (t2 p8 : Addr) (w : World) (R : W.Post) : Prop :=
  ∃ t48_0 : Int, ∃ t48_1 : Int, ∃ t48_2 : W.Sl, w.cell? (p8.add 0) = some (.int .i64 t48_0) ∧ w.cell? (p8.add 1) = some (.int .i64 t48_1) ∧ w.cell? (p8.add 2) = some (t48_2.v) ∧ 
  (w.cell? t2).isSome = true ∧ w.frozen? t2 = false ∧ let w1 := w.setCell t2 (.int .i64 t48_0)
  (w1.cell? (t2.add 1)).isSome = true ∧ w1.frozen? (t2.add 1) = false ∧ let w2 := w1.setCell (t2.add 1) (.int .i64 t48_1)
  (w2.cell? (t2.add 2)).isSome = true ∧ w2.frozen? (t2.add 2) = false ∧ let w3 := w2.setCell (t2.add 2) (t48_2.v)
  ∃ r2_0 : Int, ∃ r2_1 : Int, ∃ r2_2 : W.Sl, w3.cell? (t2.add 0) = some (.int .i64 r2_0) ∧ w3.cell? (t2.add 1) = some (.int .i64 r2_1) ∧ w3.cell? (t2.add 2) = some (r2_2.v) ∧ 
  R (.returned (.tuple #[.agg #[.int .i64 r2_0, .int .i64 r2_1, r2_2.v], .int .i64 0])) w3
def KE_S15 (E : W.Env) (w : World) (R : W.Post) : Prop := W.asRef (W.Env.get? E 2) fun t2 => W.asRef (W.Env.get? E 8) fun p8 => S15 t2 p8 w R
theorem KE_S15_ok (R : W.Post) (E : W.Env) (w : World) (h : KE_S15 E w R) : W.WP Try.prog (W.cx 49) C25 (Q3 R) E w := by
  obtain ⟨t2, hq2, h1⟩ := W.asRef_elim h
  obtain ⟨p8, hq8, h2⟩ := W.asRef_elim h1
  exact fun a ha => W.WP.at (n := (W.cx 49)) (E := [(2, .pointer (some t2)), (8, .pointer (some p8))]) (W.WP.seq (c := C25) (x := C28) (y := C29) (by kernel_rfl) <| W.WP.reg (c := C28) (fun E w => W.retVC Try.prog Try.f13 E w (fun v => R (.returned v) w)) (by kernel_rfl) (Eq.mp (by kernel_rfl) h2) fun _ _ a hA hK => (W.WP.ret (c := C29) (by kernel_rfl) fun a hA => W.retVC_sound hA hK) a hA) (ha.cons hq2 (ha.cons hq8 ha.nil))
noncomputable def C30 : Code := W.Code.fst C22
noncomputable def C31 : Code := W.Code.snd C23
/-- ref.go:138 -/
abbrev S13 (t2 in7 p8 : Addr) (valid9 : Bool) (w : World) (R : W.Post) : Prop :=
  Calls Try.prog n_enthymemeref02_Reader_End #[.pointer (some in7)] w fun r_ w1 => ∃ t41 : Int, r_ = .returned (.int .i64 t41) ∧ 
  W.sel (t41 != 0) (S14 t2 w1 R) (W.sel (!valid9) (S14 t2 w1 R) (S15 t2 p8 w1 R))
def KE_S13 (E : W.Env) (w : World) (R : W.Post) : Prop := W.asRef (W.Env.get? E 2) fun t2 => W.asRef (W.Env.get? E 7) fun in7 => W.asRef (W.Env.get? E 8) fun p8 => W.asBool' (W.Env.get? E 9) fun valid9 => S13 t2 in7 p8 valid9 w R
theorem KE_S13_ok (R : W.Post) (E : W.Env) (w : World) (h : KE_S13 E w R) : W.WP Try.prog (W.cx 49) C22 (Q2 R) E w := by
  obtain ⟨t2, hq2, h1⟩ := W.asRef_elim h
  obtain ⟨in7, hq7, h2⟩ := W.asRef_elim h1
  obtain ⟨p8, hq8, h3⟩ := W.asRef_elim h2
  obtain ⟨valid9, hq9, h4⟩ := W.asBool_elim h3
  exact fun a ha => W.WP.at (n := (W.cx 49)) (E := [(2, .pointer (some t2)), (7, .pointer (some in7)), (8, .pointer (some p8)), (9, .bool valid9)]) (W.WP.seq (c := C22) (x := C30) (y := C23) (by kernel_rfl) <| W.WP.reg (c := C30) (fun E w => W.condK (W.Env.val E (.tmp 46)) (KE_S14 E w R) (KE_S15 E w R)) (by kernel_rfl) (Eq.mp (by kernel_rfl) h4) fun _ _ a hA hK => (W.WP.condK (c := C23) (x := C24) (y := C31) (o := .tmp 46) (by kernel_rfl) (fun hK => (KE_S14_ok R _ _ hK)) (fun hK => (W.WP.skip (c := C31) (by kernel_rfl) fun a hA => (KE_S15_ok R _ _ hK) a hA)) hK) a hA) (ha.cons hq2 (ha.cons hq7 (ha.cons hq8 (ha.cons hq9 ha.nil))))
noncomputable def C32 : Code := W.Code.fst C20
/-- ref.go:137 -/
abbrev S12 (t2 in7 p8 : Addr) (w : World) (R : W.Post) : Prop :=
  ∃ t38_0 : Int, ∃ t38_1 : Int, ∃ t38_2 : W.Sl, w.cell? (p8.add 0) = some (.int .i64 t38_0) ∧ w.cell? (p8.add 1) = some (.int .i64 t38_1) ∧ w.cell? (p8.add 2) = some (t38_2.v) ∧ 
  Calls Try.prog n_enthymemeref38_Valid #[.agg #[.int .i64 t38_0, .int .i64 t38_1, t38_2.v]] w fun r_ w1 => ∃ t39 : Bool, r_ = .returned (.bool t39) ∧ 
  S13 t2 in7 p8 t39 w1 R
def KE_S12 (E : W.Env) (w : World) (R : W.Post) : Prop := W.asRef (W.Env.get? E 2) fun t2 => W.asRef (W.Env.get? E 7) fun in7 => W.asRef (W.Env.get? E 8) fun p8 => S12 t2 in7 p8 w R
theorem KE_S12_ok (R : W.Post) (E : W.Env) (w : World) (h : KE_S12 E w R) : W.WP Try.prog (W.cx 49) C20 (Q3 R) E w := by
  obtain ⟨t2, hq2, h1⟩ := W.asRef_elim h
  obtain ⟨in7, hq7, h2⟩ := W.asRef_elim h1
  obtain ⟨p8, hq8, h3⟩ := W.asRef_elim h2
  exact fun a ha => W.WP.at (n := (W.cx 49)) (E := [(2, .pointer (some t2)), (7, .pointer (some in7)), (8, .pointer (some p8))]) (W.WP.seq (c := C20) (x := C32) (y := C21) (by kernel_rfl) <| W.WP.reg (c := C32) (fun E w => KE_S13 E w R) (by kernel_rfl) (Eq.mp (by kernel_rfl) h3) fun _ _ a hA hK => (W.WP.seq (c := C21) (x := C22) (y := C25) (by kernel_rfl) (KE_S13_ok R _ _ hK)) a hA) (ha.cons hq2 (ha.cons hq7 (ha.cons hq8 ha.nil)))
noncomputable def C33 : Code := W.Code.fst C19
/-- ref.go:136 -/
abbrev S11 (t2 in7 p8 : Addr) (w : World) (R : W.Post) : Prop :=
  Calls Try.prog n_enthymemeref02_Reader_Raw #[.pointer (some in7)] w fun r_ w1 => ∃ t36 : W.Sl, r_ = .returned (t36.v) ∧ 
  (w1.cell? (p8.add 2)).isSome = true ∧ w1.frozen? (p8.add 2) = false ∧ let w2 := w1.setCell (p8.add 2) (t36.v)
  S12 t2 in7 p8 w2 R
def KE_S11 (E : W.Env) (w : World) (R : W.Post) : Prop := W.asRef (W.Env.get? E 2) fun t2 => W.asRef (W.Env.get? E 7) fun in7 => W.asRef (W.Env.get? E 8) fun p8 => S11 t2 in7 p8 w R
theorem KE_S11_ok (R : W.Post) (E : W.Env) (w : World) (h : KE_S11 E w R) : W.WP Try.prog (W.cx 49) C19 (Q3 R) E w := by
  obtain ⟨t2, hq2, h1⟩ := W.asRef_elim h
  obtain ⟨in7, hq7, h2⟩ := W.asRef_elim h1
  obtain ⟨p8, hq8, h3⟩ := W.asRef_elim h2
  exact fun a ha => W.WP.at (n := (W.cx 49)) (E := [(2, .pointer (some t2)), (7, .pointer (some in7)), (8, .pointer (some p8))]) (W.WP.seq (c := C19) (x := C33) (y := C20) (by kernel_rfl) <| W.WP.reg (c := C33) (fun E w => KE_S12 E w R) (by kernel_rfl) (Eq.mp (by kernel_rfl) h3) fun _ _ a hA hK => (KE_S12_ok R _ _ hK) a hA) (ha.cons hq2 (ha.cons hq7 (ha.cons hq8 ha.nil)))
noncomputable def C34 : Code := W.Code.fst C18
/-- ref.go:135 -/
abbrev S10 (t2 in7 p8 : Addr) (w : World) (R : W.Post) : Prop :=
  Calls Try.prog n_enthymemeref02_Reader_Int #[.pointer (some in7)] w fun r_ w1 => ∃ t33 : Int, r_ = .returned (.int .i64 t33) ∧ 
  (w1.cell? (p8.add 1)).isSome = true ∧ w1.frozen? (p8.add 1) = false ∧ let w2 := w1.setCell (p8.add 1) (.int .i64 t33)
  S11 t2 in7 p8 w2 R
def KE_S10 (E : W.Env) (w : World) (R : W.Post) : Prop := W.asRef (W.Env.get? E 2) fun t2 => W.asRef (W.Env.get? E 7) fun in7 => W.asRef (W.Env.get? E 8) fun p8 => S10 t2 in7 p8 w R
theorem KE_S10_ok (R : W.Post) (E : W.Env) (w : World) (h : KE_S10 E w R) : W.WP Try.prog (W.cx 49) C18 (Q3 R) E w := by
  obtain ⟨t2, hq2, h1⟩ := W.asRef_elim h
  obtain ⟨in7, hq7, h2⟩ := W.asRef_elim h1
  obtain ⟨p8, hq8, h3⟩ := W.asRef_elim h2
  exact fun a ha => W.WP.at (n := (W.cx 49)) (E := [(2, .pointer (some t2)), (7, .pointer (some in7)), (8, .pointer (some p8))]) (W.WP.seq (c := C18) (x := C34) (y := C19) (by kernel_rfl) <| W.WP.reg (c := C34) (fun E w => KE_S11 E w R) (by kernel_rfl) (Eq.mp (by kernel_rfl) h3) fun _ _ a hA hK => (KE_S11_ok R _ _ hK) a hA) (ha.cons hq2 (ha.cons hq7 (ha.cons hq8 ha.nil)))
noncomputable def C35 : Code := W.Code.fst C17
/-- ref.go:134 -/
abbrev S9 (t2 in7 : Addr) (w : World) (R : W.Post) : Prop :=
  Calls Try.prog n_enthymemeref02_Reader_Int #[.pointer (some in7)] w fun r_ w1 => ∃ t30 : Int, r_ = .returned (.int .i64 t30) ∧ 
  let w2 := w1.alloc (.cells #[.int .i64 0, .int .i64 0, .slice none 0 0] ty_enthymemeref38_Packet)
  (w2.cell? (Addr.mk w1.heap.size 0 none)).isSome = true ∧ w2.frozen? (Addr.mk w1.heap.size 0 none) = false ∧ let w3 := w2.setCell (Addr.mk w1.heap.size 0 none) (.int .i64 t30)
  (w3.cell? ((Addr.mk w1.heap.size 0 none).add 1)).isSome = true ∧ w3.frozen? ((Addr.mk w1.heap.size 0 none).add 1) = false ∧ let w4 := w3.setCell ((Addr.mk w1.heap.size 0 none).add 1) (.int .i64 0)
  (w4.cell? ((Addr.mk w1.heap.size 0 none).add 2)).isSome = true ∧ w4.frozen? ((Addr.mk w1.heap.size 0 none).add 2) = false ∧ let w5 := w4.setCell ((Addr.mk w1.heap.size 0 none).add 2) (.slice none 0 0)
  S10 t2 in7 (Addr.mk w1.heap.size 0 none) w5 R
def KE_S9 (E : W.Env) (w : World) (R : W.Post) : Prop := W.asRef (W.Env.get? E 2) fun t2 => W.asRef (W.Env.get? E 7) fun in7 => S9 t2 in7 w R
theorem KE_S9_ok (R : W.Post) (E : W.Env) (w : World) (h : KE_S9 E w R) : W.WP Try.prog (W.cx 49) C17 (Q3 R) E w := by
  obtain ⟨t2, hq2, h1⟩ := W.asRef_elim h
  obtain ⟨in7, hq7, h2⟩ := W.asRef_elim h1
  exact fun a ha => W.WP.at (n := (W.cx 49)) (E := [(2, .pointer (some t2)), (7, .pointer (some in7))]) (W.WP.seq (c := C17) (x := C35) (y := C18) (by kernel_rfl) <| W.WP.reg (c := C35) (fun E w => KE_S10 E w R) (by kernel_rfl) (Eq.mp (by kernel_rfl) h2) fun _ _ a hA hK => (KE_S10_ok R _ _ hK) a hA) (ha.cons hq2 (ha.cons hq7 ha.nil))
noncomputable def C36 : Code := W.Code.fst C14
/-- ref.go:133 -/
abbrev S8 (t2 : Addr) (c5 : W.Sl) (w : World) (R : W.Post) : Prop :=
  let w1 := w.alloc (.cells #[c5.v, .int .i64 0] ty_enthymemeref02_Reader)
  S9 t2 (Addr.mk w.heap.size 0 none) w1 R
def KE_S8 (E : W.Env) (w : World) (R : W.Post) : Prop := W.asRef (W.Env.get? E 2) fun t2 => W.asSlice (W.Env.get? E 5) fun c5 => S8 t2 c5 w R
theorem KE_S8_ok (R : W.Post) (E : W.Env) (w : World) (h : KE_S8 E w R) : W.WP Try.prog (W.cx 49) C14 (Q3 R) E w := by
  obtain ⟨t2, hq2, h1⟩ := W.asRef_elim h
  obtain ⟨c5, hq5, h2⟩ := W.asSlice_elim h1
  exact fun a ha => W.WP.at (n := (W.cx 49)) (E := [(2, .pointer (some t2)), (5, c5.v)]) (W.WP.seq (c := C14) (x := C36) (y := C17) (by kernel_rfl) <| W.WP.reg (c := C36) (fun E w => KE_S9 E w R) (by kernel_rfl) (Eq.mp (by kernel_rfl) h2) fun _ _ a hA hK => (KE_S9_ok R _ _ hK) a hA) (ha.cons hq2 (ha.cons hq5 ha.nil))
noncomputable def C37 : Code := W.Code.fst C11
noncomputable def C38 : Code := W.Code.snd C12
/-- ref.go:130 -/
abbrev S6 (t2 : Addr) (c5 : W.Sl) (sum6 : Int) (w : World) (R : W.Post) : Prop :=
  Calls Try.prog n_enthymemeref01_Bytes #[.string (ByteArray.mk #[112, 97, 114, 99, 101, 108]), c5.v] w fun r_ w1 => ∃ t23 : Int, r_ = .returned (.int .u64 t23) ∧ 
  W.sel (sum6 != t23) (S7 t2 w1 R) (S8 t2 c5 w1 R)
def KE_S6 (E : W.Env) (w : World) (R : W.Post) : Prop := W.asRef (W.Env.get? E 2) fun t2 => W.asSlice (W.Env.get? E 5) fun c5 => W.asInt .u64 (W.Env.get? E 6) fun sum6 => S6 t2 c5 sum6 w R
theorem KE_S6_ok (R : W.Post) (E : W.Env) (w : World) (h : KE_S6 E w R) : W.WP Try.prog (W.cx 49) C11 (Q1 R) E w := by
  obtain ⟨t2, hq2, h1⟩ := W.asRef_elim h
  obtain ⟨c5, hq5, h2⟩ := W.asSlice_elim h1
  obtain ⟨sum6, hq6, h3⟩ := W.asInt_elim h2
  exact fun a ha => W.WP.at (n := (W.cx 49)) (E := [(2, .pointer (some t2)), (5, c5.v), (6, .int .u64 sum6)]) (W.WP.seq (c := C11) (x := C37) (y := C12) (by kernel_rfl) <| W.WP.reg (c := C37) (fun E w => W.condK (W.Env.val E (.tmp 24)) (KE_S7 E w R) (KE_S8 E w R)) (by kernel_rfl) (Eq.mp (by kernel_rfl) h3) fun _ _ a hA hK => (W.WP.condK (c := C12) (x := C13) (y := C38) (o := .tmp 24) (by kernel_rfl) (fun hK => (KE_S7_ok R _ _ hK)) (fun hK => (W.WP.skip (c := C38) (by kernel_rfl) fun a hA => (KE_S8_ok R _ _ hK) a hA)) hK) a hA) (ha.cons hq2 (ha.cons hq5 (ha.cons hq6 ha.nil)))
noncomputable def C39 : Code := W.Code.fst C5
noncomputable def C40 : Code := W.Code.snd C6
/-- ref.go:127 -/
abbrev S4 (t2 r4 : Addr) (c5 : W.Sl) (sum6 : Int) (w : World) (R : W.Post) : Prop :=
  Calls Try.prog n_enthymemeref02_Reader_End #[.pointer (some r4)] w fun r_ w1 => ∃ t18 : Int, r_ = .returned (.int .i64 t18) ∧ 
  W.sel (t18 != 0) (S5 t2 w1 R) (S6 t2 c5 sum6 w1 R)
def KE_S4 (E : W.Env) (w : World) (R : W.Post) : Prop := W.asRef (W.Env.get? E 2) fun t2 => W.asRef (W.Env.get? E 4) fun r4 => W.asSlice (W.Env.get? E 5) fun c5 => W.asInt .u64 (W.Env.get? E 6) fun sum6 => S4 t2 r4 c5 sum6 w R
theorem KE_S4_ok (R : W.Post) (E : W.Env) (w : World) (h : KE_S4 E w R) : W.WP Try.prog (W.cx 49) C5 (Q0 R) E w := by
  obtain ⟨t2, hq2, h1⟩ := W.asRef_elim h
  obtain ⟨r4, hq4, h2⟩ := W.asRef_elim h1
  obtain ⟨c5, hq5, h3⟩ := W.asSlice_elim h2
  obtain ⟨sum6, hq6, h4⟩ := W.asInt_elim h3
  exact fun a ha => W.WP.at (n := (W.cx 49)) (E := [(2, .pointer (some t2)), (4, .pointer (some r4)), (5, c5.v), (6, .int .u64 sum6)]) (W.WP.seq (c := C5) (x := C39) (y := C6) (by kernel_rfl) <| W.WP.reg (c := C39) (fun E w => W.condK (W.Env.val E (.tmp 19)) (KE_S5 E w R) (KE_S6 E w R)) (by kernel_rfl) (Eq.mp (by kernel_rfl) h4) fun _ _ a hA hK => (W.WP.condK (c := C6) (x := C7) (y := C40) (o := .tmp 19) (by kernel_rfl) (fun hK => (KE_S5_ok R _ _ hK)) (fun hK => (W.WP.skip (c := C40) (by kernel_rfl) fun a hA => (W.WP.seq (c := C8) (x := C11) (y := C14) (by kernel_rfl) (KE_S6_ok R _ _ hK)) a hA)) hK) a hA) (ha.cons hq2 (ha.cons hq4 (ha.cons hq5 (ha.cons hq6 ha.nil))))
noncomputable def C41 : Code := W.Code.fst C3
/-- ref.go:126 -/
abbrev S3 (t2 r4 : Addr) (c5 : W.Sl) (w : World) (R : W.Post) : Prop :=
  Calls Try.prog n_enthymemeref02_Reader_Uint #[.pointer (some r4)] w fun r_ w1 => ∃ t16 : Int, r_ = .returned (.int .u64 t16) ∧ 
  S4 t2 r4 c5 t16 w1 R
def KE_S3 (E : W.Env) (w : World) (R : W.Post) : Prop := W.asRef (W.Env.get? E 2) fun t2 => W.asRef (W.Env.get? E 4) fun r4 => W.asSlice (W.Env.get? E 5) fun c5 => S3 t2 r4 c5 w R
theorem KE_S3_ok (R : W.Post) (E : W.Env) (w : World) (h : KE_S3 E w R) : W.WP Try.prog (W.cx 49) C3 (Q3 R) E w := by
  obtain ⟨t2, hq2, h1⟩ := W.asRef_elim h
  obtain ⟨r4, hq4, h2⟩ := W.asRef_elim h1
  obtain ⟨c5, hq5, h3⟩ := W.asSlice_elim h2
  exact fun a ha => W.WP.at (n := (W.cx 49)) (E := [(2, .pointer (some t2)), (4, .pointer (some r4)), (5, c5.v)]) (W.WP.seq (c := C3) (x := C41) (y := C4) (by kernel_rfl) <| W.WP.reg (c := C41) (fun E w => KE_S4 E w R) (by kernel_rfl) (Eq.mp (by kernel_rfl) h3) fun _ _ a hA hK => (W.WP.seq (c := C4) (x := C5) (y := C8) (by kernel_rfl) (KE_S4_ok R _ _ hK)) a hA) (ha.cons hq2 (ha.cons hq4 (ha.cons hq5 ha.nil)))
noncomputable def C42 : Code := W.Code.fst C2
/-- ref.go:125 -/
abbrev S2 (t2 r4 : Addr) (w : World) (R : W.Post) : Prop :=
  Calls Try.prog n_enthymemeref02_Reader_Raw #[.pointer (some r4)] w fun r_ w1 => ∃ t14 : W.Sl, r_ = .returned (t14.v) ∧ 
  S3 t2 r4 t14 w1 R
def KE_S2 (E : W.Env) (w : World) (R : W.Post) : Prop := W.asRef (W.Env.get? E 2) fun t2 => W.asRef (W.Env.get? E 4) fun r4 => S2 t2 r4 w R
theorem KE_S2_ok (R : W.Post) (E : W.Env) (w : World) (h : KE_S2 E w R) : W.WP Try.prog (W.cx 49) C2 (Q3 R) E w := by
  obtain ⟨t2, hq2, h1⟩ := W.asRef_elim h
  obtain ⟨r4, hq4, h2⟩ := W.asRef_elim h1
  exact fun a ha => W.WP.at (n := (W.cx 49)) (E := [(2, .pointer (some t2)), (4, .pointer (some r4))]) (W.WP.seq (c := C2) (x := C42) (y := C3) (by kernel_rfl) <| W.WP.reg (c := C42) (fun E w => KE_S3 E w R) (by kernel_rfl) (Eq.mp (by kernel_rfl) h2) fun _ _ a hA hK => (KE_S3_ok R _ _ hK) a hA) (ha.cons hq2 (ha.cons hq4 ha.nil))
noncomputable def C43 : Code := W.Code.fst C1
/-- ref.go:124 -/
abbrev S1 (b0 : W.Sl) (t2 : Addr) (w : World) (R : W.Post) : Prop :=
  let w1 := w.alloc (.cells #[b0.v, .int .i64 0] ty_enthymemeref02_Reader)
  S2 t2 (Addr.mk w.heap.size 0 none) w1 R
def KE_S1 (E : W.Env) (w : World) (R : W.Post) : Prop := W.asSlice (W.Env.get? E 0) fun b0 => W.asRef (W.Env.get? E 2) fun t2 => S1 b0 t2 w R
theorem KE_S1_ok (R : W.Post) (E : W.Env) (w : World) (h : KE_S1 E w R) : W.WP Try.prog (W.cx 49) C1 (Q3 R) E w := by
  obtain ⟨b0, hq0, h1⟩ := W.asSlice_elim h
  obtain ⟨t2, hq2, h2⟩ := W.asRef_elim h1
  exact fun a ha => W.WP.at (n := (W.cx 49)) (E := [(0, b0.v), (2, .pointer (some t2))]) (W.WP.seq (c := C1) (x := C43) (y := C2) (by kernel_rfl) <| W.WP.reg (c := C43) (fun E w => KE_S2 E w R) (by kernel_rfl) (Eq.mp (by kernel_rfl) h2) fun _ _ a hA hK => (KE_S2_ok R _ _ hK) a hA) (ha.cons hq0 (ha.cons hq2 ha.nil))
noncomputable def C44 : Code := W.Code.fst C0
/-- ref.go:123 -/
abbrev S0 (b0 : W.Sl) (w : World) (R : W.Post) : Prop :=
  let w1 := w.alloc (.cells #[.int .i64 0, .int .i64 0, .slice none 0 0] ty_enthymemeref38_Packet)
  S1 b0 (Addr.mk w.heap.size 0 none) w1 R
def KE_S0 (E : W.Env) (w : World) (R : W.Post) : Prop := W.asSlice (W.Env.get? E 0) fun b0 => S0 b0 w R
theorem KE_S0_ok (R : W.Post) (E : W.Env) (w : World) (h : KE_S0 E w R) : W.WP Try.prog (W.cx 49) C0 (Q3 R) E w := by
  obtain ⟨b0, hq0, h1⟩ := W.asSlice_elim h
  exact fun a ha => W.WP.at (n := (W.cx 49)) (E := [(0, b0.v)]) (W.WP.seq (c := C0) (x := C44) (y := C1) (by kernel_rfl) <| W.WP.reg (c := C44) (fun E w => KE_S1 E w R) (by kernel_rfl) (Eq.mp (by kernel_rfl) h1) fun _ _ a hA hK => (KE_S1_ok R _ _ hK) a hA) (ha.cons hq0 ha.nil)
/-- enthymeme/enthymemeref38.Decode -/
theorem ok (b0 : W.Sl) (w : World) (R : W.Post) (h : S0 b0 w R) : Calls Try.prog n_enthymemeref38_Decode #[b0.v] w R :=
  W.calls_of_WP' (fn := Try.f13) (c := C0) (args := [b0.v]) (by kernel_rfl) (by kernel_rfl) (by kernel_rfl) (KE_S0_ok R _ _ (Eq.mp (by kernel_rfl) h))
end enthymemeref38_Decode
namespace enthymemeref38_Same
noncomputable def C0 : Code := (Try.f14.body).getD .skip
noncomputable def C1 : Code := W.Code.snd C0
abbrev Q0 (R : W.Post) : Exit → Act → World → Prop := (bodyPost Try.prog Try.f14 R)
noncomputable def C2 : Code := W.Code.fst C1
noncomputable def C3 : Code := W.Code.snd C1
/-- ref.go:146 -/
abbrev S1 (a2 b3 : Addr) (w : World) (R : W.Post) : Prop :=
  ∃ t6 : Int, w.cell? (a2.add 0) = some (.int .i64 t6) ∧ 
  ∃ t8 : Int, w.cell? (b3.add 0) = some (.int .i64 t8) ∧ 
  W.sel (t6 == t8) (∃ t12 : Int, w.cell? (a2.add 1) = some (.int .i64 t12) ∧ 
  ∃ t14 : Int, w.cell? (b3.add 1) = some (.int .i64 t14) ∧ 
  W.sel (t12 == t14) (∃ t19 : W.Sl, w.cell? (a2.add 2) = some (t19.v) ∧ 
  ∃ t21 : W.Sl, w.cell? (b3.add 2) = some (t21.v) ∧ 
  Calls Try.prog n_enthymemeref01_SameBytes #[t19.v, t21.v] w fun r_ w1 => ∃ t22 : Bool, r_ = .returned (.bool t22) ∧ 
  R (.returned (.bool t22)) w1) (R (.returned (.bool false)) w)) (R (.returned (.bool false)) w)
def KE_S1 (E : W.Env) (w : World) (R : W.Post) : Prop := W.asRef (W.Env.get? E 2) fun a2 => W.asRef (W.Env.get? E 3) fun b3 => S1 a2 b3 w R
theorem KE_S1_ok (R : W.Post) (E : W.Env) (w : World) (h : KE_S1 E w R) : W.WP Try.prog (W.cx 24) C1 (Q0 R) E w := by
  obtain ⟨a2, hq2, h1⟩ := W.asRef_elim h
  obtain ⟨b3, hq3, h2⟩ := W.asRef_elim h1
  exact fun a ha => W.WP.at (n := (W.cx 24)) (E := [(2, .pointer (some a2)), (3, .pointer (some b3))]) (W.WP.seq (c := C1) (x := C2) (y := C3) (by kernel_rfl) <| W.WP.reg (c := C2) (fun E w => W.retVC Try.prog Try.f14 E w (fun v => R (.returned v) w)) (by kernel_rfl) (Eq.mp (by kernel_rfl) h2) fun _ _ a hA hK => (W.WP.ret (c := C3) (by kernel_rfl) fun a hA => W.retVC_sound hA hK) a hA) (ha.cons hq2 (ha.cons hq3 ha.nil))
noncomputable def C4 : Code := W.Code.fst C0
/-- ref.go:145 -/
abbrev S0 (a0_0 a0_1 : Int) (a0_2 : W.Sl) (b1_0 b1_1 : Int) (b1_2 : W.Sl) (w : World) (R : W.Post) : Prop :=
  let w1 := w.alloc (.cells #[.int .i64 a0_0, .int .i64 a0_1, a0_2.v] ty_enthymemeref38_Packet)
  let w2 := w1.alloc (.cells #[.int .i64 b1_0, .int .i64 b1_1, b1_2.v] ty_enthymemeref38_Packet)
  S1 (Addr.mk w.heap.size 0 none) (Addr.mk w1.heap.size 0 none) w2 R
def KE_S0 (E : W.Env) (w : World) (R : W.Post) : Prop := W.asAgg (W.Env.get? E 0) fun a0_l0 => W.asCons a0_l0 fun a0_v0 a0_l1 => W.asInt .i64 (some a0_v0) fun a0_0 => W.asCons a0_l1 fun a0_v1 a0_l2 => W.asInt .i64 (some a0_v1) fun a0_1 => W.asCons a0_l2 fun a0_v2 a0_l3 => W.asSlice (some a0_v2) fun a0_2 => W.asNil a0_l3 <| W.asAgg (W.Env.get? E 1) fun b1_l0 => W.asCons b1_l0 fun b1_v0 b1_l1 => W.asInt .i64 (some b1_v0) fun b1_0 => W.asCons b1_l1 fun b1_v1 b1_l2 => W.asInt .i64 (some b1_v1) fun b1_1 => W.asCons b1_l2 fun b1_v2 b1_l3 => W.asSlice (some b1_v2) fun b1_2 => W.asNil b1_l3 <| S0 a0_0 a0_1 a0_2 b1_0 b1_1 b1_2 w R
theorem KE_S0_ok (R : W.Post) (E : W.Env) (w : World) (h : KE_S0 E w R) : W.WP Try.prog (W.cx 24) C0 (Q0 R) E w := by
  obtain ⟨a0_l0, hq0, h1⟩ := W.asAgg_elim h
  obtain ⟨a0_v0, a0_l1, rfl, h2⟩ := W.asCons_elim h1
  obtain ⟨a0_0, ex, h3⟩ := W.asInt_elim h2
  obtain rfl := Option.some.inj ex
  obtain ⟨a0_v1, a0_l2, rfl, h4⟩ := W.asCons_elim h3
  obtain ⟨a0_1, ex, h5⟩ := W.asInt_elim h4
  obtain rfl := Option.some.inj ex
  obtain ⟨a0_v2, a0_l3, rfl, h6⟩ := W.asCons_elim h5
  obtain ⟨a0_2, ex, h7⟩ := W.asSlice_elim h6
  obtain rfl := Option.some.inj ex
  obtain ⟨rfl, h8⟩ := W.asNil_elim h7
  obtain ⟨b1_l0, hq1, h9⟩ := W.asAgg_elim h8
  obtain ⟨b1_v0, b1_l1, rfl, h10⟩ := W.asCons_elim h9
  obtain ⟨b1_0, ex, h11⟩ := W.asInt_elim h10
  obtain rfl := Option.some.inj ex
  obtain ⟨b1_v1, b1_l2, rfl, h12⟩ := W.asCons_elim h11
  obtain ⟨b1_1, ex, h13⟩ := W.asInt_elim h12
  obtain rfl := Option.some.inj ex
  obtain ⟨b1_v2, b1_l3, rfl, h14⟩ := W.asCons_elim h13
  obtain ⟨b1_2, ex, h15⟩ := W.asSlice_elim h14
  obtain rfl := Option.some.inj ex
  obtain ⟨rfl, h16⟩ := W.asNil_elim h15
  exact fun a ha => W.WP.at (n := (W.cx 24)) (E := [(0, .agg #[.int .i64 a0_0, .int .i64 a0_1, a0_2.v]), (1, .agg #[.int .i64 b1_0, .int .i64 b1_1, b1_2.v])]) (W.WP.seq (c := C0) (x := C4) (y := C1) (by kernel_rfl) <| W.WP.reg (c := C4) (fun E w => KE_S1 E w R) (by kernel_rfl) (Eq.mp (by kernel_rfl) h16) fun _ _ a hA hK => (KE_S1_ok R _ _ hK) a hA) (ha.cons hq0 (ha.cons hq1 ha.nil))
/-- enthymeme/enthymemeref38.Same -/
theorem ok (a0_0 a0_1 : Int) (a0_2 : W.Sl) (b1_0 b1_1 : Int) (b1_2 : W.Sl) (w : World) (R : W.Post) (h : S0 a0_0 a0_1 a0_2 b1_0 b1_1 b1_2 w R) : Calls Try.prog n_enthymemeref38_Same #[.agg #[.int .i64 a0_0, .int .i64 a0_1, a0_2.v], .agg #[.int .i64 b1_0, .int .i64 b1_1, b1_2.v]] w R :=
  W.calls_of_WP' (fn := Try.f14) (c := C0) (args := [.agg #[.int .i64 a0_0, .int .i64 a0_1, a0_2.v], .agg #[.int .i64 b1_0, .int .i64 b1_1, b1_2.v]]) (by kernel_rfl) (by kernel_rfl) (by kernel_rfl) (KE_S0_ok R _ _ (Eq.mp (by kernel_rfl) h))
end enthymemeref38_Same
namespace enthymemelaw38_plain
noncomputable def C0 : Code := (Try.f8.body).getD .skip
noncomputable def C1 : Code := W.Code.snd C0
abbrev Q0 (R : W.Post) : Exit → Act → World → Prop := (bodyPost Try.prog Try.f8 R)
noncomputable def C2 : Code := W.Code.fst C1
noncomputable def C3 : Code := W.Code.snd C1
/-- law.go:40 -/
abbrev S1 (p1 t2 : Addr) (w : World) (R : W.Post) : Prop :=
  ∃ t4 : Int, w.cell? (p1.add 0) = some (.int .i64 t4) ∧ 
  ∃ t6 : Int, w.cell? (p1.add 1) = some (.int .i64 t6) ∧ 
  ∃ t8 : W.Sl, w.cell? (p1.add 2) = some (t8.v) ∧ 
  (w.cell? t2).isSome = true ∧ w.frozen? t2 = false ∧ let w1 := w.setCell t2 (.int .i64 t4)
  (w1.cell? (t2.add 1)).isSome = true ∧ w1.frozen? (t2.add 1) = false ∧ let w2 := w1.setCell (t2.add 1) (.int .i64 t6)
  (w2.cell? (t2.add 2)).isSome = true ∧ w2.frozen? (t2.add 2) = false ∧ let w3 := w2.setCell (t2.add 2) (t8.v)
  ∃ r2_0 : Int, ∃ r2_1 : Int, ∃ r2_2 : W.Sl, w3.cell? (t2.add 0) = some (.int .i64 r2_0) ∧ w3.cell? (t2.add 1) = some (.int .i64 r2_1) ∧ w3.cell? (t2.add 2) = some (r2_2.v) ∧ 
  R (.returned (.agg #[.int .i64 r2_0, .int .i64 r2_1, r2_2.v])) w3
def KE_S1 (E : W.Env) (w : World) (R : W.Post) : Prop := W.asRef (W.Env.get? E 1) fun p1 => W.asRef (W.Env.get? E 2) fun t2 => S1 p1 t2 w R
theorem KE_S1_ok (R : W.Post) (E : W.Env) (w : World) (h : KE_S1 E w R) : W.WP Try.prog (W.cx 10) C1 (Q0 R) E w := by
  obtain ⟨p1, hq1, h1⟩ := W.asRef_elim h
  obtain ⟨t2, hq2, h2⟩ := W.asRef_elim h1
  exact fun a ha => W.WP.at (n := (W.cx 10)) (E := [(1, .pointer (some p1)), (2, .pointer (some t2))]) (W.WP.seq (c := C1) (x := C2) (y := C3) (by kernel_rfl) <| W.WP.reg (c := C2) (fun E w => W.retVC Try.prog Try.f8 E w (fun v => R (.returned v) w)) (by kernel_rfl) (Eq.mp (by kernel_rfl) h2) fun _ _ a hA hK => (W.WP.ret (c := C3) (by kernel_rfl) fun a hA => W.retVC_sound hA hK) a hA) (ha.cons hq1 (ha.cons hq2 ha.nil))
noncomputable def C4 : Code := W.Code.fst C0
/-- law.go:39 -/
abbrev S0 (p0_0 p0_1 : Int) (p0_2 : W.Sl) (w : World) (R : W.Post) : Prop :=
  let w1 := w.alloc (.cells #[.int .i64 p0_0, .int .i64 p0_1, p0_2.v] ty_channel_Packet)
  let w2 := w1.alloc (.cells #[.int .i64 0, .int .i64 0, .slice none 0 0] ty_enthymemeref38_Packet)
  S1 (Addr.mk w.heap.size 0 none) (Addr.mk w1.heap.size 0 none) w2 R
def KE_S0 (E : W.Env) (w : World) (R : W.Post) : Prop := W.asAgg (W.Env.get? E 0) fun p0_l0 => W.asCons p0_l0 fun p0_v0 p0_l1 => W.asInt .i64 (some p0_v0) fun p0_0 => W.asCons p0_l1 fun p0_v1 p0_l2 => W.asInt .i64 (some p0_v1) fun p0_1 => W.asCons p0_l2 fun p0_v2 p0_l3 => W.asSlice (some p0_v2) fun p0_2 => W.asNil p0_l3 <| S0 p0_0 p0_1 p0_2 w R
theorem KE_S0_ok (R : W.Post) (E : W.Env) (w : World) (h : KE_S0 E w R) : W.WP Try.prog (W.cx 10) C0 (Q0 R) E w := by
  obtain ⟨p0_l0, hq0, h1⟩ := W.asAgg_elim h
  obtain ⟨p0_v0, p0_l1, rfl, h2⟩ := W.asCons_elim h1
  obtain ⟨p0_0, ex, h3⟩ := W.asInt_elim h2
  obtain rfl := Option.some.inj ex
  obtain ⟨p0_v1, p0_l2, rfl, h4⟩ := W.asCons_elim h3
  obtain ⟨p0_1, ex, h5⟩ := W.asInt_elim h4
  obtain rfl := Option.some.inj ex
  obtain ⟨p0_v2, p0_l3, rfl, h6⟩ := W.asCons_elim h5
  obtain ⟨p0_2, ex, h7⟩ := W.asSlice_elim h6
  obtain rfl := Option.some.inj ex
  obtain ⟨rfl, h8⟩ := W.asNil_elim h7
  exact fun a ha => W.WP.at (n := (W.cx 10)) (E := [(0, .agg #[.int .i64 p0_0, .int .i64 p0_1, p0_2.v])]) (W.WP.seq (c := C0) (x := C4) (y := C1) (by kernel_rfl) <| W.WP.reg (c := C4) (fun E w => KE_S1 E w R) (by kernel_rfl) (Eq.mp (by kernel_rfl) h8) fun _ _ a hA hK => (KE_S1_ok R _ _ hK) a hA) (ha.cons hq0 ha.nil)
/-- enthymeme/enthymemelaw38.plain -/
theorem ok (p0_0 p0_1 : Int) (p0_2 : W.Sl) (w : World) (R : W.Post) (h : S0 p0_0 p0_1 p0_2 w R) : Calls Try.prog n_enthymemelaw38_plain #[.agg #[.int .i64 p0_0, .int .i64 p0_1, p0_2.v]] w R :=
  W.calls_of_WP' (fn := Try.f8) (c := C0) (args := [.agg #[.int .i64 p0_0, .int .i64 p0_1, p0_2.v]]) (by kernel_rfl) (by kernel_rfl) (by kernel_rfl) (KE_S0_ok R _ _ (Eq.mp (by kernel_rfl) h))
end enthymemelaw38_plain
end Go.Proofs.Ytpfomlenbhocpaa

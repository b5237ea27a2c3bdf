/- Printed by a program of ours (vcgen.py) from the dump: the conditions of the functions, and that they suffice. -/
import Derived.Test.YtpfomlenbhocpaaVK
import Derived.Test.YtpfomlenbhocpaaVC
set_option linter.unusedVariables false
set_option maxRecDepth 100000
namespace Go.Proofs.Ytpfomlenbhocpaa
open Go
namespace channel_Encode
noncomputable def C0 : Code := (Try.f6.body).getD .skip
noncomputable def C1 : Code := W.Code.snd C0
noncomputable def C2 : Code := W.Code.fst C1
noncomputable def C3 : Code := W.Code.snd C2
noncomputable def C4 : Code := W.Code.fst C3
noncomputable def C5 : Code := W.Code.snd C1
abbrev Q0 (R : W.Post) : Exit → Act → World → Prop := (Exit.then (W.wpx Try.prog (W.cx 26) C5 (bodyPost Try.prog Try.f6 R)) (bodyPost Try.prog Try.f6 R))
noncomputable def C6 : Code := W.Code.fst C4
noncomputable def C7 : Code := W.Code.snd C4
/-- channel.go:120 -/
abbrev S2  (w : World) (R : W.Post) : Prop :=
  R (.returned (.tuple #[.slice none 0 0, .int .i64 1])) w
def KE_S2 (E : W.Env) (w : World) (R : W.Post) : Prop := S2  w R
theorem KE_S2_ok (R : W.Post) (E : W.Env) (w : World) (h : KE_S2 E w R) : W.WP Try.prog (W.cx 26) C4 (Q0 R) E w := by
  exact fun a ha => W.WP.at (n := (W.cx 26)) (E := []) (W.WP.seq (c := C4) (x := C6) (y := C7) (by kernel_rfl) <| W.WP.reg (c := C6) (fun E w => W.retVC Try.prog Try.f6 E w (fun v => R (.returned v) w)) (by kernel_rfl) (Eq.mp (by kernel_rfl) h) fun _ _ a hA hK => (W.WP.ret (c := C7) (by kernel_rfl) fun a hA => W.retVC_sound hA hK) a hA) ha.nil
noncomputable def C8 : Code := W.Code.snd C5
noncomputable def C9 : Code := W.Code.snd C8
noncomputable def C10 : Code := W.Code.snd C9
noncomputable def C11 : Code := W.Code.snd C10
noncomputable def C12 : Code := W.Code.snd C11
noncomputable def C13 : Code := W.Code.snd C12
noncomputable def C14 : Code := W.Code.snd C13
abbrev Q1 (R : W.Post) : Exit → Act → World → Prop := (bodyPost Try.prog Try.f6 R)
noncomputable def C15 : Code := W.Code.fst C14
noncomputable def C16 : Code := W.Code.snd C14
/-- channel.go:129 -/
abbrev S10 (wv5 : Addr) (w : World) (R : W.Post) : Prop :=
  Calls Try.prog n_wire_Writer_Done #[.pointer (some wv5)] w fun r_ w1 => ∃ t25 : W.Sl, r_ = .returned (t25.v) ∧ 
  R (.returned (.tuple #[t25.v, .int .i64 0])) w1
def KE_S10 (E : W.Env) (w : World) (R : W.Post) : Prop := W.asRef (W.Env.get? E 5) fun wv5 => S10 wv5 w R
theorem KE_S10_ok (R : W.Post) (E : W.Env) (w : World) (h : KE_S10 E w R) : W.WP Try.prog (W.cx 26) C14 (Q1 R) E w := by
  obtain ⟨wv5, hq5, h1⟩ := W.asRef_elim h
  exact fun a ha => W.WP.at (n := (W.cx 26)) (E := [(5, .pointer (some wv5))]) (W.WP.seq (c := C14) (x := C15) (y := C16) (by kernel_rfl) <| W.WP.reg (c := C15) (fun E w => W.retVC Try.prog Try.f6 E w (fun v => R (.returned v) w)) (by kernel_rfl) (Eq.mp (by kernel_rfl) h1) fun _ _ a hA hK => (W.WP.ret (c := C16) (by kernel_rfl) fun a hA => W.retVC_sound hA hK) a hA) (ha.cons hq5 ha.nil)
noncomputable def C17 : Code := W.Code.fst C13
/-- channel.go:128 -/
abbrev S9 (wv5 : Addr) (c6 : W.Sl) (w : World) (R : W.Post) : Prop :=
  Calls Try.prog n_hash_Bytes #[.string (ByteArray.mk #[112, 97, 114, 99, 101, 108]), c6.v] w fun r_ w1 => ∃ t23 : Int, r_ = .returned (.int .u64 t23) ∧ 
  Calls Try.prog n_wire_Writer_Uint #[.pointer (some wv5), .int .u64 t23] w1 fun r_ w2 => r_ = .returned (.tuple #[]) ∧ 
  S10 wv5 w2 R
def KE_S9 (E : W.Env) (w : World) (R : W.Post) : Prop := W.asRef (W.Env.get? E 5) fun wv5 => W.asSlice (W.Env.get? E 6) fun c6 => S9 wv5 c6 w R
theorem KE_S9_ok (R : W.Post) (E : W.Env) (w : World) (h : KE_S9 E w R) : W.WP Try.prog (W.cx 26) C13 (Q1 R) E w := by
  obtain ⟨wv5, hq5, h1⟩ := W.asRef_elim h
  obtain ⟨c6, hq6, h2⟩ := W.asSlice_elim h1
  exact fun a ha => W.WP.at (n := (W.cx 26)) (E := [(5, .pointer (some wv5)), (6, c6.v)]) (W.WP.seq (c := C13) (x := C17) (y := C14) (by kernel_rfl) <| W.WP.reg (c := C17) (fun E w => KE_S10 E w R) (by kernel_rfl) (Eq.mp (by kernel_rfl) h2) fun _ _ a hA hK => (KE_S10_ok R _ _ hK) a hA) (ha.cons hq5 (ha.cons hq6 ha.nil))
noncomputable def C18 : Code := W.Code.fst C12
/-- channel.go:127 -/
abbrev S8 (wv5 : Addr) (c6 : W.Sl) (w : World) (R : W.Post) : Prop :=
  Calls Try.prog n_wire_Writer_Raw #[.pointer (some wv5), c6.v] w fun r_ w1 => r_ = .returned (.tuple #[]) ∧ 
  S9 wv5 c6 w1 R
def KE_S8 (E : W.Env) (w : World) (R : W.Post) : Prop := W.asRef (W.Env.get? E 5) fun wv5 => W.asSlice (W.Env.get? E 6) fun c6 => S8 wv5 c6 w R
theorem KE_S8_ok (R : W.Post) (E : W.Env) (w : World) (h : KE_S8 E w R) : W.WP Try.prog (W.cx 26) C12 (Q1 R) E w := by
  obtain ⟨wv5, hq5, h1⟩ := W.asRef_elim h
  obtain ⟨c6, hq6, h2⟩ := W.asSlice_elim h1
  exact fun a ha => W.WP.at (n := (W.cx 26)) (E := [(5, .pointer (some wv5)), (6, c6.v)]) (W.WP.seq (c := C12) (x := C18) (y := C13) (by kernel_rfl) <| W.WP.reg (c := C18) (fun E w => KE_S9 E w R) (by kernel_rfl) (Eq.mp (by kernel_rfl) h2) fun _ _ a hA hK => (KE_S9_ok R _ _ hK) a hA) (ha.cons hq5 (ha.cons hq6 ha.nil))
noncomputable def C19 : Code := W.Code.fst C11
/-- channel.go:126 -/
abbrev S7 (core4 wv5 : Addr) (w : World) (R : W.Post) : Prop :=
  Calls Try.prog n_wire_Writer_Done #[.pointer (some core4)] w fun r_ w1 => ∃ t19 : W.Sl, r_ = .returned (t19.v) ∧ 
  S8 wv5 t19 w1 R
def KE_S7 (E : W.Env) (w : World) (R : W.Post) : Prop := W.asRef (W.Env.get? E 4) fun core4 => W.asRef (W.Env.get? E 5) fun wv5 => S7 core4 wv5 w R
theorem KE_S7_ok (R : W.Post) (E : W.Env) (w : World) (h : KE_S7 E w R) : W.WP Try.prog (W.cx 26) C11 (Q1 R) E w := by
  obtain ⟨core4, hq4, h1⟩ := W.asRef_elim h
  obtain ⟨wv5, hq5, h2⟩ := W.asRef_elim h1
  exact fun a ha => W.WP.at (n := (W.cx 26)) (E := [(4, .pointer (some core4)), (5, .pointer (some wv5))]) (W.WP.seq (c := C11) (x := C19) (y := C12) (by kernel_rfl) <| W.WP.reg (c := C19) (fun E w => KE_S8 E w R) (by kernel_rfl) (Eq.mp (by kernel_rfl) h2) fun _ _ a hA hK => (KE_S8_ok R _ _ hK) a hA) (ha.cons hq4 (ha.cons hq5 ha.nil))
noncomputable def C20 : Code := W.Code.fst C10
/-- channel.go:125 -/
abbrev S6 (p1 core4 wv5 : Addr) (w : World) (R : W.Post) : Prop :=
  ∃ t17 : W.Sl, w.cell? (p1.add 2) = some (t17.v) ∧ 
  Calls Try.prog n_wire_Writer_Raw #[.pointer (some core4), t17.v] w fun r_ w1 => r_ = .returned (.tuple #[]) ∧ 
  S7 core4 wv5 w1 R
def KE_S6 (E : W.Env) (w : World) (R : W.Post) : Prop := W.asRef (W.Env.get? E 1) fun p1 => W.asRef (W.Env.get? E 4) fun core4 => W.asRef (W.Env.get? E 5) fun wv5 => S6 p1 core4 wv5 w R
theorem KE_S6_ok (R : W.Post) (E : W.Env) (w : World) (h : KE_S6 E w R) : W.WP Try.prog (W.cx 26) C10 (Q1 R) E w := by
  obtain ⟨p1, hq1, h1⟩ := W.asRef_elim h
  obtain ⟨core4, hq4, h2⟩ := W.asRef_elim h1
  obtain ⟨wv5, hq5, h3⟩ := W.asRef_elim h2
  exact fun a ha => W.WP.at (n := (W.cx 26)) (E := [(1, .pointer (some p1)), (4, .pointer (some core4)), (5, .pointer (some wv5))]) (W.WP.seq (c := C10) (x := C20) (y := C11) (by kernel_rfl) <| W.WP.reg (c := C20) (fun E w => KE_S7 E w R) (by kernel_rfl) (Eq.mp (by kernel_rfl) h3) fun _ _ a hA hK => (KE_S7_ok R _ _ hK) a hA) (ha.cons hq1 (ha.cons hq4 (ha.cons hq5 ha.nil)))
noncomputable def C21 : Code := W.Code.fst C9
/-- channel.go:124 -/
abbrev S5 (p1 core4 wv5 : Addr) (w : World) (R : W.Post) : Prop :=
  ∃ t14 : Int, w.cell? (p1.add 1) = some (.int .i64 t14) ∧ 
  Calls Try.prog n_wire_Writer_Int #[.pointer (some core4), .int .i64 t14] w fun r_ w1 => r_ = .returned (.tuple #[]) ∧ 
  S6 p1 core4 wv5 w1 R
def KE_S5 (E : W.Env) (w : World) (R : W.Post) : Prop := W.asRef (W.Env.get? E 1) fun p1 => W.asRef (W.Env.get? E 4) fun core4 => W.asRef (W.Env.get? E 5) fun wv5 => S5 p1 core4 wv5 w R
theorem KE_S5_ok (R : W.Post) (E : W.Env) (w : World) (h : KE_S5 E w R) : W.WP Try.prog (W.cx 26) C9 (Q1 R) E w := by
  obtain ⟨p1, hq1, h1⟩ := W.asRef_elim h
  obtain ⟨core4, hq4, h2⟩ := W.asRef_elim h1
  obtain ⟨wv5, hq5, h3⟩ := W.asRef_elim h2
  exact fun a ha => W.WP.at (n := (W.cx 26)) (E := [(1, .pointer (some p1)), (4, .pointer (some core4)), (5, .pointer (some wv5))]) (W.WP.seq (c := C9) (x := C21) (y := C10) (by kernel_rfl) <| W.WP.reg (c := C21) (fun E w => KE_S6 E w R) (by kernel_rfl) (Eq.mp (by kernel_rfl) h3) fun _ _ a hA hK => (KE_S6_ok R _ _ hK) a hA) (ha.cons hq1 (ha.cons hq4 (ha.cons hq5 ha.nil)))
noncomputable def C22 : Code := W.Code.fst C8
/-- channel.go:123 -/
abbrev S4 (p1 core4 wv5 : Addr) (w : World) (R : W.Post) : Prop :=
  ∃ t11 : Int, w.cell? (p1.add 0) = some (.int .i64 t11) ∧ 
  Calls Try.prog n_wire_Writer_Int #[.pointer (some core4), .int .i64 t11] w fun r_ w1 => r_ = .returned (.tuple #[]) ∧ 
  S5 p1 core4 wv5 w1 R
def KE_S4 (E : W.Env) (w : World) (R : W.Post) : Prop := W.asRef (W.Env.get? E 1) fun p1 => W.asRef (W.Env.get? E 4) fun core4 => W.asRef (W.Env.get? E 5) fun wv5 => S4 p1 core4 wv5 w R
theorem KE_S4_ok (R : W.Post) (E : W.Env) (w : World) (h : KE_S4 E w R) : W.WP Try.prog (W.cx 26) C8 (Q1 R) E w := by
  obtain ⟨p1, hq1, h1⟩ := W.asRef_elim h
  obtain ⟨core4, hq4, h2⟩ := W.asRef_elim h1
  obtain ⟨wv5, hq5, h3⟩ := W.asRef_elim h2
  exact fun a ha => W.WP.at (n := (W.cx 26)) (E := [(1, .pointer (some p1)), (4, .pointer (some core4)), (5, .pointer (some wv5))]) (W.WP.seq (c := C8) (x := C22) (y := C9) (by kernel_rfl) <| W.WP.reg (c := C22) (fun E w => KE_S5 E w R) (by kernel_rfl) (Eq.mp (by kernel_rfl) h3) fun _ _ a hA hK => (KE_S5_ok R _ _ hK) a hA) (ha.cons hq1 (ha.cons hq4 (ha.cons hq5 ha.nil)))
noncomputable def C23 : Code := W.Code.fst C5
/-- channel.go:122 -/
abbrev S3 (p1 : Addr) (w : World) (R : W.Post) : Prop :=
  let w1 := w.alloc (.cells #[.slice none 0 0] ty_wire_Writer)
  let w2 := w1.alloc (.cells #[.slice none 0 0] ty_wire_Writer)
  S4 p1 (Addr.mk w.heap.size 0 none) (Addr.mk w1.heap.size 0 none) w2 R
def KE_S3 (E : W.Env) (w : World) (R : W.Post) : Prop := W.asRef (W.Env.get? E 1) fun p1 => S3 p1 w R
theorem KE_S3_ok (R : W.Post) (E : W.Env) (w : World) (h : KE_S3 E w R) : W.WP Try.prog (W.cx 26) C5 (Q1 R) E w := by
  obtain ⟨p1, hq1, h1⟩ := W.asRef_elim h
  exact fun a ha => W.WP.at (n := (W.cx 26)) (E := [(1, .pointer (some p1))]) (W.WP.seq (c := C5) (x := C23) (y := C8) (by kernel_rfl) <| W.WP.reg (c := C23) (fun E w => KE_S4 E w R) (by kernel_rfl) (Eq.mp (by kernel_rfl) h1) fun _ _ a hA hK => (KE_S4_ok R _ _ hK) a hA) (ha.cons hq1 ha.nil)
noncomputable def C24 : Code := W.Code.fst C2
noncomputable def C25 : Code := W.Code.snd C3
/-- channel.go:119 -/
abbrev S1 (p1 : Addr) (w : World) (R : W.Post) : Prop :=
  ∃ t7_0 : Int, ∃ t7_1 : Int, ∃ t7_2 : W.Sl, w.cell? (p1.add 0) = some (.int .i64 t7_0) ∧ w.cell? (p1.add 1) = some (.int .i64 t7_1) ∧ w.cell? (p1.add 2) = some (t7_2.v) ∧ 
  Calls Try.prog n_channel_valid #[.agg #[.int .i64 t7_0, .int .i64 t7_1, t7_2.v]] w fun r_ w1 => ∃ t8 : Bool, r_ = .returned (.bool t8) ∧ 
  W.sel (!t8) (S2  w1 R) (S3 p1 w1 R)
def KE_S1 (E : W.Env) (w : World) (R : W.Post) : Prop := W.asRef (W.Env.get? E 1) fun p1 => S1 p1 w R
theorem KE_S1_ok (R : W.Post) (E : W.Env) (w : World) (h : KE_S1 E w R) : W.WP Try.prog (W.cx 26) C2 (Q0 R) E w := by
  obtain ⟨p1, hq1, h1⟩ := W.asRef_elim h
  exact fun a ha => W.WP.at (n := (W.cx 26)) (E := [(1, .pointer (some p1))]) (W.WP.seq (c := C2) (x := C24) (y := C3) (by kernel_rfl) <| W.WP.reg (c := C24) (fun E w => W.condK (W.Env.val E (.tmp 9)) (KE_S2 E w R) (KE_S3 E w R)) (by kernel_rfl) (Eq.mp (by kernel_rfl) h1) fun _ _ a hA hK => (W.WP.condK (c := C3) (x := C4) (y := C25) (o := .tmp 9) (by kernel_rfl) (fun hK => (KE_S2_ok R _ _ hK)) (fun hK => (W.WP.skip (c := C25) (by kernel_rfl) fun a hA => (KE_S3_ok R _ _ hK) a hA)) hK) a hA) (ha.cons hq1 ha.nil)
noncomputable def C26 : Code := W.Code.fst C0
/-- channel.go:118 -/
abbrev S0 (p0_0 p0_1 : Int) (p0_2 : W.Sl) (w : World) (R : W.Post) : Prop :=
  let w1 := w.alloc (.cells #[.int .i64 p0_0, .int .i64 p0_1, p0_2.v] ty_channel_Packet)
  S1 (Addr.mk w.heap.size 0 none) w1 R
def KE_S0 (E : W.Env) (w : World) (R : W.Post) : Prop := W.asAgg (W.Env.get? E 0) fun p0_l0 => W.asCons p0_l0 fun p0_v0 p0_l1 => W.asInt .i64 (some p0_v0) fun p0_0 => W.asCons p0_l1 fun p0_v1 p0_l2 => W.asInt .i64 (some p0_v1) fun p0_1 => W.asCons p0_l2 fun p0_v2 p0_l3 => W.asSlice (some p0_v2) fun p0_2 => W.asNil p0_l3 <| S0 p0_0 p0_1 p0_2 w R
theorem KE_S0_ok (R : W.Post) (E : W.Env) (w : World) (h : KE_S0 E w R) : W.WP Try.prog (W.cx 26) C0 (Q1 R) E w := by
  obtain ⟨p0_l0, hq0, h1⟩ := W.asAgg_elim h
  obtain ⟨p0_v0, p0_l1, rfl, h2⟩ := W.asCons_elim h1
  obtain ⟨p0_0, ex, h3⟩ := W.asInt_elim h2
  obtain rfl := Option.some.inj ex
  obtain ⟨p0_v1, p0_l2, rfl, h4⟩ := W.asCons_elim h3
  obtain ⟨p0_1, ex, h5⟩ := W.asInt_elim h4
  obtain rfl := Option.some.inj ex
  obtain ⟨p0_v2, p0_l3, rfl, h6⟩ := W.asCons_elim h5
  obtain ⟨p0_2, ex, h7⟩ := W.asSlice_elim h6
  obtain rfl := Option.some.inj ex
  obtain ⟨rfl, h8⟩ := W.asNil_elim h7
  exact fun a ha => W.WP.at (n := (W.cx 26)) (E := [(0, .agg #[.int .i64 p0_0, .int .i64 p0_1, p0_2.v])]) (W.WP.seq (c := C0) (x := C26) (y := C1) (by kernel_rfl) <| W.WP.reg (c := C26) (fun E w => KE_S1 E w R) (by kernel_rfl) (Eq.mp (by kernel_rfl) h8) fun _ _ a hA hK => (W.WP.seq (c := C1) (x := C2) (y := C5) (by kernel_rfl) (KE_S1_ok R _ _ hK)) a hA) (ha.cons hq0 ha.nil)
/-- enthymeme/channel.Encode -/
theorem ok (p0_0 p0_1 : Int) (p0_2 : W.Sl) (w : World) (R : W.Post) (h : S0 p0_0 p0_1 p0_2 w R) : Calls Try.prog n_channel_Encode #[.agg #[.int .i64 p0_0, .int .i64 p0_1, p0_2.v]] w R :=
  W.calls_of_WP' (fn := Try.f6) (c := C0) (args := [.agg #[.int .i64 p0_0, .int .i64 p0_1, p0_2.v]]) (by kernel_rfl) (by kernel_rfl) (by kernel_rfl) (KE_S0_ok R _ _ (Eq.mp (by kernel_rfl) h))
end channel_Encode
namespace channel_Decode
noncomputable def C0 : Code := (Try.f12.body).getD .skip
noncomputable def C1 : Code := W.Code.snd C0
noncomputable def C2 : Code := W.Code.snd C1
noncomputable def C3 : Code := W.Code.snd C2
noncomputable def C4 : Code := W.Code.fst C3
noncomputable def C5 : Code := W.Code.snd C4
noncomputable def C6 : Code := W.Code.fst C5
noncomputable def C7 : Code := W.Code.snd C3
abbrev Q0 (R : W.Post) : Exit → Act → World → Prop := (Exit.then (W.wpx Try.prog (W.cx 42) C7 (bodyPost Try.prog Try.f12 R)) (bodyPost Try.prog Try.f12 R))
noncomputable def C8 : Code := W.Code.fst C6
noncomputable def C9 : Code := W.Code.snd C6
/-- channel.go:137 -/
abbrev S4 (t2 : Addr) (w : World) (R : W.Post) : Prop :=
  (w.cell? t2).isSome = true ∧ w.frozen? t2 = false ∧ let w1 := w.setCell t2 (.int .i64 0)
  (w1.cell? (t2.add 1)).isSome = true ∧ w1.frozen? (t2.add 1) = false ∧ let w2 := w1.setCell (t2.add 1) (.int .i64 0)
  (w2.cell? (t2.add 2)).isSome = true ∧ w2.frozen? (t2.add 2) = false ∧ let w3 := w2.setCell (t2.add 2) (.slice none 0 0)
  ∃ r2_0 : Int, ∃ r2_1 : Int, ∃ r2_2 : W.Sl, w3.cell? (t2.add 0) = some (.int .i64 r2_0) ∧ w3.cell? (t2.add 1) = some (.int .i64 r2_1) ∧ w3.cell? (t2.add 2) = some (r2_2.v) ∧ 
  R (.returned (.tuple #[.agg #[.int .i64 r2_0, .int .i64 r2_1, r2_2.v], .int .i64 2])) w3
def KE_S4 (E : W.Env) (w : World) (R : W.Post) : Prop := W.asRef (W.Env.get? E 2) fun t2 => S4 t2 w R
theorem KE_S4_ok (R : W.Post) (E : W.Env) (w : World) (h : KE_S4 E w R) : W.WP Try.prog (W.cx 42) C6 (Q0 R) E w := by
  obtain ⟨t2, hq2, h1⟩ := W.asRef_elim h
  exact fun a ha => W.WP.at (n := (W.cx 42)) (E := [(2, .pointer (some t2))]) (W.WP.seq (c := C6) (x := C8) (y := C9) (by kernel_rfl) <| W.WP.reg (c := C8) (fun E w => W.retVC Try.prog Try.f12 E w (fun v => R (.returned v) w)) (by kernel_rfl) (Eq.mp (by kernel_rfl) h1) fun _ _ a hA hK => (W.WP.ret (c := C9) (by kernel_rfl) fun a hA => W.retVC_sound hA hK) a hA) (ha.cons hq2 ha.nil)
noncomputable def C10 : Code := W.Code.fst C7
noncomputable def C11 : Code := W.Code.snd C10
noncomputable def C12 : Code := W.Code.fst C11
noncomputable def C13 : Code := W.Code.snd C7
abbrev Q1 (R : W.Post) : Exit → Act → World → Prop := (Exit.then (W.wpx Try.prog (W.cx 42) C13 (bodyPost Try.prog Try.f12 R)) (bodyPost Try.prog Try.f12 R))
noncomputable def C14 : Code := W.Code.fst C12
noncomputable def C15 : Code := W.Code.snd C12
/-- channel.go:140 -/
abbrev S6 (t2 : Addr) (w : World) (R : W.Post) : Prop :=
  (w.cell? t2).isSome = true ∧ w.frozen? t2 = false ∧ let w1 := w.setCell t2 (.int .i64 0)
  (w1.cell? (t2.add 1)).isSome = true ∧ w1.frozen? (t2.add 1) = false ∧ let w2 := w1.setCell (t2.add 1) (.int .i64 0)
  (w2.cell? (t2.add 2)).isSome = true ∧ w2.frozen? (t2.add 2) = false ∧ let w3 := w2.setCell (t2.add 2) (.slice none 0 0)
  ∃ r2_0 : Int, ∃ r2_1 : Int, ∃ r2_2 : W.Sl, w3.cell? (t2.add 0) = some (.int .i64 r2_0) ∧ w3.cell? (t2.add 1) = some (.int .i64 r2_1) ∧ w3.cell? (t2.add 2) = some (r2_2.v) ∧ 
  R (.returned (.tuple #[.agg #[.int .i64 r2_0, .int .i64 r2_1, r2_2.v], .int .i64 21])) w3
def KE_S6 (E : W.Env) (w : World) (R : W.Post) : Prop := W.asRef (W.Env.get? E 2) fun t2 => S6 t2 w R
theorem KE_S6_ok (R : W.Post) (E : W.Env) (w : World) (h : KE_S6 E w R) : W.WP Try.prog (W.cx 42) C12 (Q1 R) E w := by
  obtain ⟨t2, hq2, h1⟩ := W.asRef_elim h
  exact fun a ha => W.WP.at (n := (W.cx 42)) (E := [(2, .pointer (some t2))]) (W.WP.seq (c := C12) (x := C14) (y := C15) (by kernel_rfl) <| W.WP.reg (c := C14) (fun E w => W.retVC Try.prog Try.f12 E w (fun v => R (.returned v) w)) (by kernel_rfl) (Eq.mp (by kernel_rfl) h1) fun _ _ a hA hK => (W.WP.ret (c := C15) (by kernel_rfl) fun a hA => W.retVC_sound hA hK) a hA) (ha.cons hq2 ha.nil)
noncomputable def C16 : Code := W.Code.snd C13
noncomputable def C17 : Code := W.Code.snd C16
noncomputable def C18 : Code := W.Code.fst C17
noncomputable def C19 : Code := W.Code.snd C18
noncomputable def C20 : Code := W.Code.fst C19
noncomputable def C21 : Code := W.Code.snd C17
abbrev Q2 (R : W.Post) : Exit → Act → World → Prop := (Exit.then (W.wpx Try.prog (W.cx 42) C21 (bodyPost Try.prog Try.f12 R)) (bodyPost Try.prog Try.f12 R))
noncomputable def C22 : Code := W.Code.fst C20
noncomputable def C23 : Code := W.Code.snd C20
/-- channel.go:145 -/
abbrev S10 (t2 : Addr) (w : World) (R : W.Post) : Prop :=
  (w.cell? t2).isSome = true ∧ w.frozen? t2 = false ∧ let w1 := w.setCell t2 (.int .i64 0)
  (w1.cell? (t2.add 1)).isSome = true ∧ w1.frozen? (t2.add 1) = false ∧ let w2 := w1.setCell (t2.add 1) (.int .i64 0)
  (w2.cell? (t2.add 2)).isSome = true ∧ w2.frozen? (t2.add 2) = false ∧ let w3 := w2.setCell (t2.add 2) (.slice none 0 0)
  ∃ r2_0 : Int, ∃ r2_1 : Int, ∃ r2_2 : W.Sl, w3.cell? (t2.add 0) = some (.int .i64 r2_0) ∧ w3.cell? (t2.add 1) = some (.int .i64 r2_1) ∧ w3.cell? (t2.add 2) = some (r2_2.v) ∧ 
  R (.returned (.tuple #[.agg #[.int .i64 r2_0, .int .i64 r2_1, r2_2.v], .int .i64 2])) w3
def KE_S10 (E : W.Env) (w : World) (R : W.Post) : Prop := W.asRef (W.Env.get? E 2) fun t2 => S10 t2 w R
theorem KE_S10_ok (R : W.Post) (E : W.Env) (w : World) (h : KE_S10 E w R) : W.WP Try.prog (W.cx 42) C20 (Q2 R) E w := by
  obtain ⟨t2, hq2, h1⟩ := W.asRef_elim h
  exact fun a ha => W.WP.at (n := (W.cx 42)) (E := [(2, .pointer (some t2))]) (W.WP.seq (c := C20) (x := C22) (y := C23) (by kernel_rfl) <| W.WP.reg (c := C22) (fun E w => W.retVC Try.prog Try.f12 E w (fun v => R (.returned v) w)) (by kernel_rfl) (Eq.mp (by kernel_rfl) h1) fun _ _ a hA hK => (W.WP.ret (c := C23) (by kernel_rfl) fun a hA => W.retVC_sound hA hK) a hA) (ha.cons hq2 ha.nil)
abbrev Q3 (R : W.Post) : Exit → Act → World → Prop := (bodyPost Try.prog Try.f12 R)
noncomputable def C24 : Code := W.Code.fst C21
noncomputable def C25 : Code := W.Code.snd C21
/-- channel.go:147 -/
abbrev S11 (t2 p7 : Addr) (w : World) (R : W.Post) : Prop :=
  ∃ t41_0 : Int, ∃ t41_1 : Int, ∃ t41_2 : W.Sl, w.cell? (p7.add 0) = some (.int .i64 t41_0) ∧ w.cell? (p7.add 1) = some (.int .i64 t41_1) ∧ w.cell? (p7.add 2) = some (t41_2.v) ∧ 
  (w.cell? t2).isSome = true ∧ w.frozen? t2 = false ∧ let w1 := w.setCell t2 (.int .i64 t41_0)
  (w1.cell? (t2.add 1)).isSome = true ∧ w1.frozen? (t2.add 1) = false ∧ let w2 := w1.setCell (t2.add 1) (.int .i64 t41_1)
  (w2.cell? (t2.add 2)).isSome = true ∧ w2.frozen? (t2.add 2) = false ∧ let w3 := w2.setCell (t2.add 2) (t41_2.v)
  ∃ r2_0 : Int, ∃ r2_1 : Int, ∃ r2_2 : W.Sl, w3.cell? (t2.add 0) = some (.int .i64 r2_0) ∧ w3.cell? (t2.add 1) = some (.int .i64 r2_1) ∧ w3.cell? (t2.add 2) = some (r2_2.v) ∧ 
  R (.returned (.tuple #[.agg #[.int .i64 r2_0, .int .i64 r2_1, r2_2.v], .int .i64 0])) w3
def KE_S11 (E : W.Env) (w : World) (R : W.Post) : Prop := W.asRef (W.Env.get? E 2) fun t2 => W.asRef (W.Env.get? E 7) fun p7 => S11 t2 p7 w R
theorem KE_S11_ok (R : W.Post) (E : W.Env) (w : World) (h : KE_S11 E w R) : W.WP Try.prog (W.cx 42) C21 (Q3 R) E w := by
  obtain ⟨t2, hq2, h1⟩ := W.asRef_elim h
  obtain ⟨p7, hq7, h2⟩ := W.asRef_elim h1
  exact fun a ha => W.WP.at (n := (W.cx 42)) (E := [(2, .pointer (some t2)), (7, .pointer (some p7))]) (W.WP.seq (c := C21) (x := C24) (y := C25) (by kernel_rfl) <| W.WP.reg (c := C24) (fun E w => W.retVC Try.prog Try.f12 E w (fun v => R (.returned v) w)) (by kernel_rfl) (Eq.mp (by kernel_rfl) h2) fun _ _ a hA hK => (W.WP.ret (c := C25) (by kernel_rfl) fun a hA => W.retVC_sound hA hK) a hA) (ha.cons hq2 (ha.cons hq7 ha.nil))
noncomputable def C26 : Code := W.Code.fst C18
noncomputable def C27 : Code := W.Code.snd C19
/-- channel.go:144 -/
abbrev S9 (t2 : Addr) (r4 : Option Addr) (p7 : Addr) (w : World) (R : W.Post) : Prop :=
  Calls Try.prog n_wire_Reader_End #[.pointer r4] w fun r_ w1 => ∃ t33 : Int, r_ = .returned (.int .i64 t33) ∧ 
  W.sel (t33 != 0) (S10 t2 w1 R) (∃ t36_0 : Int, ∃ t36_1 : Int, ∃ t36_2 : W.Sl, w1.cell? (p7.add 0) = some (.int .i64 t36_0) ∧ w1.cell? (p7.add 1) = some (.int .i64 t36_1) ∧ w1.cell? (p7.add 2) = some (t36_2.v) ∧ 
  Calls Try.prog n_channel_valid #[.agg #[.int .i64 t36_0, .int .i64 t36_1, t36_2.v]] w1 fun r_ w2 => ∃ t37 : Bool, r_ = .returned (.bool t37) ∧ 
  W.sel (!t37) (S10 t2 w2 R) (S11 t2 p7 w2 R))
def KE_S9 (E : W.Env) (w : World) (R : W.Post) : Prop := W.asRef (W.Env.get? E 2) fun t2 => W.asPtr (W.Env.get? E 4) fun r4 => W.asRef (W.Env.get? E 7) fun p7 => S9 t2 r4 p7 w R
theorem KE_S9_ok (R : W.Post) (E : W.Env) (w : World) (h : KE_S9 E w R) : W.WP Try.prog (W.cx 42) C18 (Q2 R) E w := by
  obtain ⟨t2, hq2, h1⟩ := W.asRef_elim h
  obtain ⟨r4, hq4, h2⟩ := W.asPtr_elim h1
  obtain ⟨p7, hq7, h3⟩ := W.asRef_elim h2
  exact fun a ha => W.WP.at (n := (W.cx 42)) (E := [(2, .pointer (some t2)), (4, .pointer r4), (7, .pointer (some p7))]) (W.WP.seq (c := C18) (x := C26) (y := C19) (by kernel_rfl) <| W.WP.reg (c := C26) (fun E w => W.condK (W.Env.val E (.tmp 39)) (KE_S10 E w R) (KE_S11 E w R)) (by kernel_rfl) (Eq.mp (by kernel_rfl) h3) fun _ _ a hA hK => (W.WP.condK (c := C19) (x := C20) (y := C27) (o := .tmp 39) (by kernel_rfl) (fun hK => (KE_S10_ok R _ _ hK)) (fun hK => (W.WP.skip (c := C27) (by kernel_rfl) fun a hA => (KE_S11_ok R _ _ hK) a hA)) hK) a hA) (ha.cons hq2 (ha.cons hq4 (ha.cons hq7 ha.nil)))
noncomputable def C28 : Code := W.Code.fst C16
/-- channel.go:143 -/
abbrev S8 (t2 : Addr) (r4 : Option Addr) (w : World) (R : W.Post) : Prop :=
  Calls Try.prog n_wire_Reader_Int #[.pointer r4] w fun r_ w1 => ∃ t26 : Int, r_ = .returned (.int .i64 t26) ∧ 
  Calls Try.prog n_wire_Reader_Int #[.pointer r4] w1 fun r_ w2 => ∃ t28 : Int, r_ = .returned (.int .i64 t28) ∧ 
  Calls Try.prog n_wire_Reader_Raw #[.pointer r4] w2 fun r_ w3 => ∃ t30 : W.Sl, r_ = .returned (t30.v) ∧ 
  let w4 := w3.alloc (.cells #[.int .i64 0, .int .i64 0, .slice none 0 0] ty_channel_Packet)
  (w4.cell? (Addr.mk w3.heap.size 0 none)).isSome = true ∧ w4.frozen? (Addr.mk w3.heap.size 0 none) = false ∧ let w5 := w4.setCell (Addr.mk w3.heap.size 0 none) (.int .i64 t26)
  (w5.cell? ((Addr.mk w3.heap.size 0 none).add 1)).isSome = true ∧ w5.frozen? ((Addr.mk w3.heap.size 0 none).add 1) = false ∧ let w6 := w5.setCell ((Addr.mk w3.heap.size 0 none).add 1) (.int .i64 t28)
  (w6.cell? ((Addr.mk w3.heap.size 0 none).add 2)).isSome = true ∧ w6.frozen? ((Addr.mk w3.heap.size 0 none).add 2) = false ∧ let w7 := w6.setCell ((Addr.mk w3.heap.size 0 none).add 2) (t30.v)
  S9 t2 r4 (Addr.mk w3.heap.size 0 none) w7 R
def KE_S8 (E : W.Env) (w : World) (R : W.Post) : Prop := W.asRef (W.Env.get? E 2) fun t2 => W.asPtr (W.Env.get? E 4) fun r4 => S8 t2 r4 w R
theorem KE_S8_ok (R : W.Post) (E : W.Env) (w : World) (h : KE_S8 E w R) : W.WP Try.prog (W.cx 42) C16 (Q3 R) E w := by
  obtain ⟨t2, hq2, h1⟩ := W.asRef_elim h
  obtain ⟨r4, hq4, h2⟩ := W.asPtr_elim h1
  exact fun a ha => W.WP.at (n := (W.cx 42)) (E := [(2, .pointer (some t2)), (4, .pointer r4)]) (W.WP.seq (c := C16) (x := C28) (y := C17) (by kernel_rfl) <| W.WP.reg (c := C28) (fun E w => KE_S9 E w R) (by kernel_rfl) (Eq.mp (by kernel_rfl) h2) fun _ _ a hA hK => (W.WP.seq (c := C17) (x := C18) (y := C21) (by kernel_rfl) (KE_S9_ok R _ _ hK)) a hA) (ha.cons hq2 (ha.cons hq4 ha.nil))
noncomputable def C29 : Code := W.Code.fst C13
/-- channel.go:142 -/
abbrev S7 (t2 : Addr) (core5 : W.Sl) (w : World) (R : W.Post) : Prop :=
  Calls Try.prog n_wire_Read #[core5.v] w fun r_ w1 => ∃ t24 : Option Addr, r_ = .returned (.pointer t24) ∧ 
  S8 t2 t24 w1 R
def KE_S7 (E : W.Env) (w : World) (R : W.Post) : Prop := W.asRef (W.Env.get? E 2) fun t2 => W.asSlice (W.Env.get? E 5) fun core5 => S7 t2 core5 w R
theorem KE_S7_ok (R : W.Post) (E : W.Env) (w : World) (h : KE_S7 E w R) : W.WP Try.prog (W.cx 42) C13 (Q3 R) E w := by
  obtain ⟨t2, hq2, h1⟩ := W.asRef_elim h
  obtain ⟨core5, hq5, h2⟩ := W.asSlice_elim h1
  exact fun a ha => W.WP.at (n := (W.cx 42)) (E := [(2, .pointer (some t2)), (5, core5.v)]) (W.WP.seq (c := C13) (x := C29) (y := C16) (by kernel_rfl) <| W.WP.reg (c := C29) (fun E w => KE_S8 E w R) (by kernel_rfl) (Eq.mp (by kernel_rfl) h2) fun _ _ a hA hK => (KE_S8_ok R _ _ hK) a hA) (ha.cons hq2 (ha.cons hq5 ha.nil))
noncomputable def C30 : Code := W.Code.fst C10
noncomputable def C31 : Code := W.Code.snd C11
/-- channel.go:139 -/
abbrev S5 (t2 : Addr) (core5 : W.Sl) (sum6 : Int) (w : World) (R : W.Post) : Prop :=
  Calls Try.prog n_hash_Bytes #[.string (ByteArray.mk #[112, 97, 114, 99, 101, 108]), core5.v] w fun r_ w1 => ∃ t20 : Int, r_ = .returned (.int .u64 t20) ∧ 
  W.sel (sum6 != t20) (S6 t2 w1 R) (S7 t2 core5 w1 R)
def KE_S5 (E : W.Env) (w : World) (R : W.Post) : Prop := W.asRef (W.Env.get? E 2) fun t2 => W.asSlice (W.Env.get? E 5) fun core5 => W.asInt .u64 (W.Env.get? E 6) fun sum6 => S5 t2 core5 sum6 w R
theorem KE_S5_ok (R : W.Post) (E : W.Env) (w : World) (h : KE_S5 E w R) : W.WP Try.prog (W.cx 42) C10 (Q1 R) E w := by
  obtain ⟨t2, hq2, h1⟩ := W.asRef_elim h
  obtain ⟨core5, hq5, h2⟩ := W.asSlice_elim h1
  obtain ⟨sum6, hq6, h3⟩ := W.asInt_elim h2
  exact fun a ha => W.WP.at (n := (W.cx 42)) (E := [(2, .pointer (some t2)), (5, core5.v), (6, .int .u64 sum6)]) (W.WP.seq (c := C10) (x := C30) (y := C11) (by kernel_rfl) <| W.WP.reg (c := C30) (fun E w => W.condK (W.Env.val E (.tmp 21)) (KE_S6 E w R) (KE_S7 E w R)) (by kernel_rfl) (Eq.mp (by kernel_rfl) h3) fun _ _ a hA hK => (W.WP.condK (c := C11) (x := C12) (y := C31) (o := .tmp 21) (by kernel_rfl) (fun hK => (KE_S6_ok R _ _ hK)) (fun hK => (W.WP.skip (c := C31) (by kernel_rfl) fun a hA => (KE_S7_ok R _ _ hK) a hA)) hK) a hA) (ha.cons hq2 (ha.cons hq5 (ha.cons hq6 ha.nil)))
noncomputable def C32 : Code := W.Code.fst C4
noncomputable def C33 : Code := W.Code.snd C5
/-- channel.go:136 -/
abbrev S3 (t2 : Addr) (r4 : Option Addr) (core5 : W.Sl) (sum6 : Int) (w : World) (R : W.Post) : Prop :=
  Calls Try.prog n_wire_Reader_End #[.pointer r4] w fun r_ w1 => ∃ t15 : Int, r_ = .returned (.int .i64 t15) ∧ 
  W.sel (t15 != 0) (S4 t2 w1 R) (S5 t2 core5 sum6 w1 R)
def KE_S3 (E : W.Env) (w : World) (R : W.Post) : Prop := W.asRef (W.Env.get? E 2) fun t2 => W.asPtr (W.Env.get? E 4) fun r4 => W.asSlice (W.Env.get? E 5) fun core5 => W.asInt .u64 (W.Env.get? E 6) fun sum6 => S3 t2 r4 core5 sum6 w R
theorem KE_S3_ok (R : W.Post) (E : W.Env) (w : World) (h : KE_S3 E w R) : W.WP Try.prog (W.cx 42) C4 (Q0 R) E w := by
  obtain ⟨t2, hq2, h1⟩ := W.asRef_elim h
  obtain ⟨r4, hq4, h2⟩ := W.asPtr_elim h1
  obtain ⟨core5, hq5, h3⟩ := W.asSlice_elim h2
  obtain ⟨sum6, hq6, h4⟩ := W.asInt_elim h3
  exact fun a ha => W.WP.at (n := (W.cx 42)) (E := [(2, .pointer (some t2)), (4, .pointer r4), (5, core5.v), (6, .int .u64 sum6)]) (W.WP.seq (c := C4) (x := C32) (y := C5) (by kernel_rfl) <| W.WP.reg (c := C32) (fun E w => W.condK (W.Env.val E (.tmp 16)) (KE_S4 E w R) (KE_S5 E w R)) (by kernel_rfl) (Eq.mp (by kernel_rfl) h4) fun _ _ a hA hK => (W.WP.condK (c := C5) (x := C6) (y := C33) (o := .tmp 16) (by kernel_rfl) (fun hK => (KE_S4_ok R _ _ hK)) (fun hK => (W.WP.skip (c := C33) (by kernel_rfl) fun a hA => (W.WP.seq (c := C7) (x := C10) (y := C13) (by kernel_rfl) (KE_S5_ok R _ _ hK)) a hA)) hK) a hA) (ha.cons hq2 (ha.cons hq4 (ha.cons hq5 (ha.cons hq6 ha.nil))))
noncomputable def C34 : Code := W.Code.fst C2
/-- channel.go:135 -/
abbrev S2 (t2 : Addr) (r4 : Option Addr) (w : World) (R : W.Post) : Prop :=
  Calls Try.prog n_wire_Reader_Raw #[.pointer r4] w fun r_ w1 => ∃ t11 : W.Sl, r_ = .returned (t11.v) ∧ 
  Calls Try.prog n_wire_Reader_Uint #[.pointer r4] w1 fun r_ w2 => ∃ t13 : Int, r_ = .returned (.int .u64 t13) ∧ 
  S3 t2 r4 t11 t13 w2 R
def KE_S2 (E : W.Env) (w : World) (R : W.Post) : Prop := W.asRef (W.Env.get? E 2) fun t2 => W.asPtr (W.Env.get? E 4) fun r4 => S2 t2 r4 w R
theorem KE_S2_ok (R : W.Post) (E : W.Env) (w : World) (h : KE_S2 E w R) : W.WP Try.prog (W.cx 42) C2 (Q3 R) E w := by
  obtain ⟨t2, hq2, h1⟩ := W.asRef_elim h
  obtain ⟨r4, hq4, h2⟩ := W.asPtr_elim h1
  exact fun a ha => W.WP.at (n := (W.cx 42)) (E := [(2, .pointer (some t2)), (4, .pointer r4)]) (W.WP.seq (c := C2) (x := C34) (y := C3) (by kernel_rfl) <| W.WP.reg (c := C34) (fun E w => KE_S3 E w R) (by kernel_rfl) (Eq.mp (by kernel_rfl) h2) fun _ _ a hA hK => (W.WP.seq (c := C3) (x := C4) (y := C7) (by kernel_rfl) (KE_S3_ok R _ _ hK)) a hA) (ha.cons hq2 (ha.cons hq4 ha.nil))
noncomputable def C35 : Code := W.Code.fst C1
/-- channel.go:134 -/
abbrev S1 (b0 : W.Sl) (t2 : Addr) (w : World) (R : W.Post) : Prop :=
  Calls Try.prog n_wire_Read #[b0.v] w fun r_ w1 => ∃ t9 : Option Addr, r_ = .returned (.pointer t9) ∧ 
  S2 t2 t9 w1 R
def KE_S1 (E : W.Env) (w : World) (R : W.Post) : Prop := W.asSlice (W.Env.get? E 0) fun b0 => W.asRef (W.Env.get? E 2) fun t2 => S1 b0 t2 w R
theorem KE_S1_ok (R : W.Post) (E : W.Env) (w : World) (h : KE_S1 E w R) : W.WP Try.prog (W.cx 42) C1 (Q3 R) E w := by
  obtain ⟨b0, hq0, h1⟩ := W.asSlice_elim h
  obtain ⟨t2, hq2, h2⟩ := W.asRef_elim h1
  exact fun a ha => W.WP.at (n := (W.cx 42)) (E := [(0, b0.v), (2, .pointer (some t2))]) (W.WP.seq (c := C1) (x := C35) (y := C2) (by kernel_rfl) <| W.WP.reg (c := C35) (fun E w => KE_S2 E w R) (by kernel_rfl) (Eq.mp (by kernel_rfl) h2) fun _ _ a hA hK => (KE_S2_ok R _ _ hK) a hA) (ha.cons hq0 (ha.cons hq2 ha.nil))
noncomputable def C36 : Code := W.Code.fst C0
/-- channel.go:133 -/
abbrev S0 (b0 : W.Sl) (w : World) (R : W.Post) : Prop :=
  let w1 := w.alloc (.cells #[.int .i64 0, .int .i64 0, .slice none 0 0] ty_channel_Packet)
  S1 b0 (Addr.mk w.heap.size 0 none) w1 R
def KE_S0 (E : W.Env) (w : World) (R : W.Post) : Prop := W.asSlice (W.Env.get? E 0) fun b0 => S0 b0 w R
theorem KE_S0_ok (R : W.Post) (E : W.Env) (w : World) (h : KE_S0 E w R) : W.WP Try.prog (W.cx 42) C0 (Q3 R) E w := by
  obtain ⟨b0, hq0, h1⟩ := W.asSlice_elim h
  exact fun a ha => W.WP.at (n := (W.cx 42)) (E := [(0, b0.v)]) (W.WP.seq (c := C0) (x := C36) (y := C1) (by kernel_rfl) <| W.WP.reg (c := C36) (fun E w => KE_S1 E w R) (by kernel_rfl) (Eq.mp (by kernel_rfl) h1) fun _ _ a hA hK => (KE_S1_ok R _ _ hK) a hA) (ha.cons hq0 ha.nil)
/-- enthymeme/channel.Decode -/
theorem ok (b0 : W.Sl) (w : World) (R : W.Post) (h : S0 b0 w R) : Calls Try.prog n_channel_Decode #[b0.v] w R :=
  W.calls_of_WP' (fn := Try.f12) (c := C0) (args := [b0.v]) (by kernel_rfl) (by kernel_rfl) (by kernel_rfl) (KE_S0_ok R _ _ (Eq.mp (by kernel_rfl) h))
end channel_Decode
end Go.Proofs.Ytpfomlenbhocpaa

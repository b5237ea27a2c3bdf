/- Printed by a program of ours (vcgen.py) from the dump: the conditions of the functions, and that they suffice. -/
import Derived.Test.YtjmnpdacalbpkaaV
set_option linter.unusedVariables false
set_option maxRecDepth 100000
namespace Go.Proofs.Ytjmnpdacalbpkaa
open Go
namespace enthymemelaw02_WireSizes
noncomputable def C0 : Code := (Try.f3.body).getD .skip
noncomputable def C1 : Code := W.Code.snd C0
noncomputable def C2 : Code := W.Code.snd C1
noncomputable def C3 : Code := W.Code.snd C2
noncomputable def C4 : Code := W.Code.fst C3
noncomputable def C5 : Code := W.Code.snd C4
noncomputable def C6 : Code := W.Code.fst C5
noncomputable def C7 : Code := W.Code.fst C6
noncomputable def C8 : Code := W.Code.snd C3
abbrev Q0 (R : W.Post) : Exit → Act → World → Prop := (Exit.then (Code.wp Try.prog C8 (bodyPost Try.prog Try.f3 R)) (bodyPost Try.prog Try.f3 R))
abbrev Q1 (R : W.Post) : Exit → Act → World → Prop := (Exit.inBlock 0 (Q0 R))
/-- the head of the loop, law.go:189 -/
def L4 (n1 k7 size8 rest9 : Int) (w : World) (R : W.Post) : Prop := W.LP Try.prog 50 C7 (Q1 R) [(1, .int .i64 n1), (7, .int .u64 k7), (8, .int .i64 size8), (9, .int .u64 rest9)] w
def KE_L4 (E : W.Env) (w : World) (R : W.Post) : Prop := W.asInt .i64 (W.Env.get? E 1) fun n1 => W.asInt .u64 (W.Env.get? E 7) fun k7 => W.asInt .i64 (W.Env.get? E 8) fun size8 => W.asInt .u64 (W.Env.get? E 9) fun rest9 => L4 n1 k7 size8 rest9 w R
theorem KE_L4_ok (R : W.Post) (E : W.Env) (w : World) (h : KE_L4 E w R) : W.LP Try.prog 50 C7 (Q1 R) E w := by
  obtain ⟨n1, hq1, h1⟩ := W.asInt_elim h
  obtain ⟨k7, hq7, h2⟩ := W.asInt_elim h1
  obtain ⟨size8, hq8, h3⟩ := W.asInt_elim h2
  obtain ⟨rest9, hq9, h4⟩ := W.asInt_elim h3
  intro a ha
  exact h4 a (ha.cons hq1 (ha.cons hq7 (ha.cons hq8 (ha.cons hq9 ha.nil))))
noncomputable def C9 : Code := W.Code.snd C7
noncomputable def C10 : Code := W.Code.snd C9
abbrev Q2 (R : W.Post) : Exit → Act → World → Prop := (Exit.then (W.LoopWP Try.prog C7 (Q1 R)) (Q1 R))
/-- law.go:189 -/
abbrev S7 (n1 k7 size8 rest9 : Int) (w : World) (R : W.Post) : Prop :=
  L4 n1 k7 size8 (IntKind.wrap .u64 (Int.tdiv rest9 128)) w R
def KE_S7 (E : W.Env) (w : World) (R : W.Post) : Prop := W.asInt .i64 (W.Env.get? E 1) fun n1 => W.asInt .u64 (W.Env.get? E 7) fun k7 => W.asInt .i64 (W.Env.get? E 8) fun size8 => W.asInt .u64 (W.Env.get? E 9) fun rest9 => S7 n1 k7 size8 rest9 w R
theorem KE_S7_ok (R : W.Post) (E : W.Env) (w : World) (h : KE_S7 E w R) : W.WP Try.prog 50 C10 (Q2 R) E w := by
  obtain ⟨n1, hq1, h1⟩ := W.asInt_elim h
  obtain ⟨k7, hq7, h2⟩ := W.asInt_elim h1
  obtain ⟨size8, hq8, h3⟩ := W.asInt_elim h2
  obtain ⟨rest9, hq9, h4⟩ := W.asInt_elim h3
  exact fun a ha => W.WP.at (E := [(1, .int .i64 n1), (7, .int .u64 k7), (8, .int .i64 size8), (9, .int .u64 rest9)]) (W.WP.reg (c := C10) (fun E w => KE_L4 E w R) (by kernel_rfl) (Eq.mp (by kernel_rfl) h4) fun _ _ a hA hK => KE_L4_ok R _ _ hK a hA) (ha.cons hq1 (ha.cons hq7 (ha.cons hq8 (ha.cons hq9 ha.nil))))
noncomputable def C11 : Code := W.Code.fst C9
noncomputable def C12 : Code := W.Code.fst C11
abbrev Q3 (R : W.Post) : Exit → Act → World → Prop := (Exit.then (Code.wp Try.prog C10 (Exit.then (W.LoopWP Try.prog C7 (Q1 R)) (Q1 R))) (Exit.then (W.LoopWP Try.prog C7 (Q1 R)) (Q1 R)))
abbrev Q4 (R : W.Post) : Exit → Act → World → Prop := (Exit.inBlock 1 (Q3 R))
/-- law.go:190 -/
abbrev S6 (n1 k7 size8 rest9 : Int) (w : World) (R : W.Post) : Prop :=
  S7 n1 k7 (IntKind.wrap .i64 (size8 + 1)) rest9 w R
def KE_S6 (E : W.Env) (w : World) (R : W.Post) : Prop := W.asInt .i64 (W.Env.get? E 1) fun n1 => W.asInt .u64 (W.Env.get? E 7) fun k7 => W.asInt .i64 (W.Env.get? E 8) fun size8 => W.asInt .u64 (W.Env.get? E 9) fun rest9 => S6 n1 k7 size8 rest9 w R
theorem KE_S6_ok (R : W.Post) (E : W.Env) (w : World) (h : KE_S6 E w R) : W.WP Try.prog 50 C12 (Q4 R) E w := by
  obtain ⟨n1, hq1, h1⟩ := W.asInt_elim h
  obtain ⟨k7, hq7, h2⟩ := W.asInt_elim h1
  obtain ⟨size8, hq8, h3⟩ := W.asInt_elim h2
  obtain ⟨rest9, hq9, h4⟩ := W.asInt_elim h3
  exact fun a ha => W.WP.at (E := [(1, .int .i64 n1), (7, .int .u64 k7), (8, .int .i64 size8), (9, .int .u64 rest9)]) (W.WP.reg (c := C12) (fun E w => KE_S7 E w R) (by kernel_rfl) (Eq.mp (by kernel_rfl) h4) fun _ _ a hA hK => (KE_S7_ok R _ _ hK) a hA) (ha.cons hq1 (ha.cons hq7 (ha.cons hq8 (ha.cons hq9 ha.nil))))
noncomputable def C13 : Code := W.Code.snd C8
noncomputable def C14 : Code := W.Code.snd C13
noncomputable def C15 : Code := W.Code.snd C14
noncomputable def C16 : Code := W.Code.snd C15
noncomputable def C17 : Code := W.Code.snd C16
noncomputable def C18 : Code := W.Code.snd C17
noncomputable def C19 : Code := W.Code.snd C18
abbrev Q5 (R : W.Post) : Exit → Act → World → Prop := (bodyPost Try.prog Try.f3 R)
noncomputable def C20 : Code := W.Code.fst C19
noncomputable def C21 : Code := W.Code.snd C19
/-- law.go:199 -/
abbrev S15 (size8 : Int) (wv10 x11 : Addr) (w : World) (R : W.Post) : Prop :=
  Calls Try.prog n_wire_Writer_Done #[.pointer (some wv10)] w fun r_ w1 => ∃ t38 : W.Sl, r_ = .returned (t38.v) ∧ 
  W.sel (((t38.n : Nat) : Int) == size8) (Calls Try.prog n_wire_Writer_Done #[.pointer (some x11)] w1 fun r_ w2 => ∃ t43 : W.Sl, r_ = .returned (t43.v) ∧ 
  W.sel (((t43.n : Nat) : Int) == 3) (Calls Try.prog n_enthymemelaw02_lives #[] w2 fun r_ w3 => ∃ t48 : Bool, r_ = .returned (.bool t48) ∧ 
  R (.returned (.bool t48)) w3) (R (.returned (.bool false)) w2)) (R (.returned (.bool false)) w1)
def KE_S15 (E : W.Env) (w : World) (R : W.Post) : Prop := W.asInt .i64 (W.Env.get? E 8) fun size8 => W.asRef (W.Env.get? E 10) fun wv10 => W.asRef (W.Env.get? E 11) fun x11 => S15 size8 wv10 x11 w R
theorem KE_S15_ok (R : W.Post) (E : W.Env) (w : World) (h : KE_S15 E w R) : W.WP Try.prog 50 C19 (Q5 R) E w := by
  obtain ⟨size8, hq8, h1⟩ := W.asInt_elim h
  obtain ⟨wv10, hq10, h2⟩ := W.asRef_elim h1
  obtain ⟨x11, hq11, h3⟩ := W.asRef_elim h2
  exact fun a ha => W.WP.at (E := [(8, .int .i64 size8), (10, .pointer (some wv10)), (11, .pointer (some x11))]) (W.WP.seq (c := C19) (x := C20) (y := C21) (by kernel_rfl) <| W.WP.reg (c := C20) (fun E w => W.retVC Try.prog Try.f3 E w (fun v => R (.returned v) w)) (by kernel_rfl) (Eq.mp (by kernel_rfl) h3) fun _ _ a hA hK => (W.WP.ret (c := C21) (by kernel_rfl) fun a hA => W.retVC_sound hA hK) a hA) (ha.cons hq8 (ha.cons hq10 (ha.cons hq11 ha.nil)))
noncomputable def C22 : Code := W.Code.fst C18
/-- law.go:198 -/
abbrev S14 (size8 : Int) (wv10 x11 : Addr) (m12 : Int) (w : World) (R : W.Post) : Prop :=
  Calls Try.prog n_wire_Writer_Bool #[.pointer (some x11), .bool (decide (m12 > 0))] w fun r_ w1 => r_ = .returned (.tuple #[]) ∧ 
  S15 size8 wv10 x11 w1 R
def KE_S14 (E : W.Env) (w : World) (R : W.Post) : Prop := W.asInt .i64 (W.Env.get? E 8) fun size8 => W.asRef (W.Env.get? E 10) fun wv10 => W.asRef (W.Env.get? E 11) fun x11 => W.asInt .i64 (W.Env.get? E 12) fun m12 => S14 size8 wv10 x11 m12 w R
theorem KE_S14_ok (R : W.Post) (E : W.Env) (w : World) (h : KE_S14 E w R) : W.WP Try.prog 50 C18 (Q5 R) E w := by
  obtain ⟨size8, hq8, h1⟩ := W.asInt_elim h
  obtain ⟨wv10, hq10, h2⟩ := W.asRef_elim h1
  obtain ⟨x11, hq11, h3⟩ := W.asRef_elim h2
  obtain ⟨m12, hq12, h4⟩ := W.asInt_elim h3
  exact fun a ha => W.WP.at (E := [(8, .int .i64 size8), (10, .pointer (some wv10)), (11, .pointer (some x11)), (12, .int .i64 m12)]) (W.WP.seq (c := C18) (x := C22) (y := C19) (by kernel_rfl) <| W.WP.reg (c := C22) (fun E w => KE_S15 E w R) (by kernel_rfl) (Eq.mp (by kernel_rfl) h4) fun _ _ a hA hK => (KE_S15_ok R _ _ hK) a hA) (ha.cons hq8 (ha.cons hq10 (ha.cons hq11 (ha.cons hq12 ha.nil))))
noncomputable def C23 : Code := W.Code.fst C17
/-- law.go:197 -/
abbrev S13 (size8 : Int) (wv10 x11 : Addr) (m12 : Int) (w : World) (R : W.Post) : Prop :=
  Calls Try.prog n_wire_Writer_Int #[.pointer (some x11), .int .i64 (IntKind.wrap .i64 (0 - m12))] w fun r_ w1 => r_ = .returned (.tuple #[]) ∧ 
  S14 size8 wv10 x11 m12 w1 R
def KE_S13 (E : W.Env) (w : World) (R : W.Post) : Prop := W.asInt .i64 (W.Env.get? E 8) fun size8 => W.asRef (W.Env.get? E 10) fun wv10 => W.asRef (W.Env.get? E 11) fun x11 => W.asInt .i64 (W.Env.get? E 12) fun m12 => S13 size8 wv10 x11 m12 w R
theorem KE_S13_ok (R : W.Post) (E : W.Env) (w : World) (h : KE_S13 E w R) : W.WP Try.prog 50 C17 (Q5 R) E w := by
  obtain ⟨size8, hq8, h1⟩ := W.asInt_elim h
  obtain ⟨wv10, hq10, h2⟩ := W.asRef_elim h1
  obtain ⟨x11, hq11, h3⟩ := W.asRef_elim h2
  obtain ⟨m12, hq12, h4⟩ := W.asInt_elim h3
  exact fun a ha => W.WP.at (E := [(8, .int .i64 size8), (10, .pointer (some wv10)), (11, .pointer (some x11)), (12, .int .i64 m12)]) (W.WP.seq (c := C17) (x := C23) (y := C18) (by kernel_rfl) <| W.WP.reg (c := C23) (fun E w => KE_S14 E w R) (by kernel_rfl) (Eq.mp (by kernel_rfl) h4) fun _ _ a hA hK => (KE_S14_ok R _ _ hK) a hA) (ha.cons hq8 (ha.cons hq10 (ha.cons hq11 (ha.cons hq12 ha.nil))))
noncomputable def C24 : Code := W.Code.fst C16
/-- law.go:196 -/
abbrev S12 (size8 : Int) (wv10 x11 : Addr) (m12 : Int) (w : World) (R : W.Post) : Prop :=
  Calls Try.prog n_wire_Writer_Int #[.pointer (some x11), .int .i64 m12] w fun r_ w1 => r_ = .returned (.tuple #[]) ∧ 
  S13 size8 wv10 x11 m12 w1 R
def KE_S12 (E : W.Env) (w : World) (R : W.Post) : Prop := W.asInt .i64 (W.Env.get? E 8) fun size8 => W.asRef (W.Env.get? E 10) fun wv10 => W.asRef (W.Env.get? E 11) fun x11 => W.asInt .i64 (W.Env.get? E 12) fun m12 => S12 size8 wv10 x11 m12 w R
theorem KE_S12_ok (R : W.Post) (E : W.Env) (w : World) (h : KE_S12 E w R) : W.WP Try.prog 50 C16 (Q5 R) E w := by
  obtain ⟨size8, hq8, h1⟩ := W.asInt_elim h
  obtain ⟨wv10, hq10, h2⟩ := W.asRef_elim h1
  obtain ⟨x11, hq11, h3⟩ := W.asRef_elim h2
  obtain ⟨m12, hq12, h4⟩ := W.asInt_elim h3
  exact fun a ha => W.WP.at (E := [(8, .int .i64 size8), (10, .pointer (some wv10)), (11, .pointer (some x11)), (12, .int .i64 m12)]) (W.WP.seq (c := C16) (x := C24) (y := C17) (by kernel_rfl) <| W.WP.reg (c := C24) (fun E w => KE_S13 E w R) (by kernel_rfl) (Eq.mp (by kernel_rfl) h4) fun _ _ a hA hK => (KE_S13_ok R _ _ hK) a hA) (ha.cons hq8 (ha.cons hq10 (ha.cons hq11 (ha.cons hq12 ha.nil))))
noncomputable def C25 : Code := W.Code.fst C15
/-- law.go:195 -/
abbrev S11 (n1 size8 : Int) (wv10 x11 : Addr) (w : World) (R : W.Post) : Prop :=
  Calls Try.prog n_enthymemeref01_Bound #[.int .i64 n1, .int .i64 63] w fun r_ w1 => ∃ t29 : Int, r_ = .returned (.int .i64 t29) ∧ 
  S12 size8 wv10 x11 t29 w1 R
def KE_S11 (E : W.Env) (w : World) (R : W.Post) : Prop := W.asInt .i64 (W.Env.get? E 1) fun n1 => W.asInt .i64 (W.Env.get? E 8) fun size8 => W.asRef (W.Env.get? E 10) fun wv10 => W.asRef (W.Env.get? E 11) fun x11 => S11 n1 size8 wv10 x11 w R
theorem KE_S11_ok (R : W.Post) (E : W.Env) (w : World) (h : KE_S11 E w R) : W.WP Try.prog 50 C15 (Q5 R) E w := by
  obtain ⟨n1, hq1, h1⟩ := W.asInt_elim h
  obtain ⟨size8, hq8, h2⟩ := W.asInt_elim h1
  obtain ⟨wv10, hq10, h3⟩ := W.asRef_elim h2
  obtain ⟨x11, hq11, h4⟩ := W.asRef_elim h3
  exact fun a ha => W.WP.at (E := [(1, .int .i64 n1), (8, .int .i64 size8), (10, .pointer (some wv10)), (11, .pointer (some x11))]) (W.WP.seq (c := C15) (x := C25) (y := C16) (by kernel_rfl) <| W.WP.reg (c := C25) (fun E w => KE_S12 E w R) (by kernel_rfl) (Eq.mp (by kernel_rfl) h4) fun _ _ a hA hK => (KE_S12_ok R _ _ hK) a hA) (ha.cons hq1 (ha.cons hq8 (ha.cons hq10 (ha.cons hq11 ha.nil))))
noncomputable def C26 : Code := W.Code.fst C14
/-- law.go:194 -/
abbrev S10 (n1 size8 : Int) (wv10 : Addr) (w : World) (R : W.Post) : Prop :=
  let w1 := w.alloc (.cells #[.slice none 0 0] ty_wire_Writer)
  S11 n1 size8 wv10 (Addr.mk w.heap.size 0 none) w1 R
def KE_S10 (E : W.Env) (w : World) (R : W.Post) : Prop := W.asInt .i64 (W.Env.get? E 1) fun n1 => W.asInt .i64 (W.Env.get? E 8) fun size8 => W.asRef (W.Env.get? E 10) fun wv10 => S10 n1 size8 wv10 w R
theorem KE_S10_ok (R : W.Post) (E : W.Env) (w : World) (h : KE_S10 E w R) : W.WP Try.prog 50 C14 (Q5 R) E w := by
  obtain ⟨n1, hq1, h1⟩ := W.asInt_elim h
  obtain ⟨size8, hq8, h2⟩ := W.asInt_elim h1
  obtain ⟨wv10, hq10, h3⟩ := W.asRef_elim h2
  exact fun a ha => W.WP.at (E := [(1, .int .i64 n1), (8, .int .i64 size8), (10, .pointer (some wv10))]) (W.WP.seq (c := C14) (x := C26) (y := C15) (by kernel_rfl) <| W.WP.reg (c := C26) (fun E w => KE_S11 E w R) (by kernel_rfl) (Eq.mp (by kernel_rfl) h3) fun _ _ a hA hK => (KE_S11_ok R _ _ hK) a hA) (ha.cons hq1 (ha.cons hq8 (ha.cons hq10 ha.nil)))
noncomputable def C27 : Code := W.Code.fst C13
/-- law.go:193 -/
abbrev S9 (n1 k7 size8 : Int) (wv10 : Addr) (w : World) (R : W.Post) : Prop :=
  Calls Try.prog n_wire_Writer_Uint #[.pointer (some wv10), .int .u64 k7] w fun r_ w1 => r_ = .returned (.tuple #[]) ∧ 
  S10 n1 size8 wv10 w1 R
def KE_S9 (E : W.Env) (w : World) (R : W.Post) : Prop := W.asInt .i64 (W.Env.get? E 1) fun n1 => W.asInt .u64 (W.Env.get? E 7) fun k7 => W.asInt .i64 (W.Env.get? E 8) fun size8 => W.asRef (W.Env.get? E 10) fun wv10 => S9 n1 k7 size8 wv10 w R
theorem KE_S9_ok (R : W.Post) (E : W.Env) (w : World) (h : KE_S9 E w R) : W.WP Try.prog 50 C13 (Q5 R) E w := by
  obtain ⟨n1, hq1, h1⟩ := W.asInt_elim h
  obtain ⟨k7, hq7, h2⟩ := W.asInt_elim h1
  obtain ⟨size8, hq8, h3⟩ := W.asInt_elim h2
  obtain ⟨wv10, hq10, h4⟩ := W.asRef_elim h3
  exact fun a ha => W.WP.at (E := [(1, .int .i64 n1), (7, .int .u64 k7), (8, .int .i64 size8), (10, .pointer (some wv10))]) (W.WP.seq (c := C13) (x := C27) (y := C14) (by kernel_rfl) <| W.WP.reg (c := C27) (fun E w => KE_S10 E w R) (by kernel_rfl) (Eq.mp (by kernel_rfl) h4) fun _ _ a hA hK => (KE_S10_ok R _ _ hK) a hA) (ha.cons hq1 (ha.cons hq7 (ha.cons hq8 (ha.cons hq10 ha.nil))))
noncomputable def C28 : Code := W.Code.fst C8
/-- law.go:192 -/
abbrev S8 (n1 k7 size8 : Int) (w : World) (R : W.Post) : Prop :=
  let w1 := w.alloc (.cells #[.slice none 0 0] ty_wire_Writer)
  S9 n1 k7 size8 (Addr.mk w.heap.size 0 none) w1 R
def KE_S8 (E : W.Env) (w : World) (R : W.Post) : Prop := W.asInt .i64 (W.Env.get? E 1) fun n1 => W.asInt .u64 (W.Env.get? E 7) fun k7 => W.asInt .i64 (W.Env.get? E 8) fun size8 => S8 n1 k7 size8 w R
theorem KE_S8_ok (R : W.Post) (E : W.Env) (w : World) (h : KE_S8 E w R) : W.WP Try.prog 50 C8 (Q5 R) E w := by
  obtain ⟨n1, hq1, h1⟩ := W.asInt_elim h
  obtain ⟨k7, hq7, h2⟩ := W.asInt_elim h1
  obtain ⟨size8, hq8, h3⟩ := W.asInt_elim h2
  exact fun a ha => W.WP.at (E := [(1, .int .i64 n1), (7, .int .u64 k7), (8, .int .i64 size8)]) (W.WP.seq (c := C8) (x := C28) (y := C13) (by kernel_rfl) <| W.WP.reg (c := C28) (fun E w => KE_S9 E w R) (by kernel_rfl) (Eq.mp (by kernel_rfl) h3) fun _ _ a hA hK => (KE_S9_ok R _ _ hK) a hA) (ha.cons hq1 (ha.cons hq7 (ha.cons hq8 ha.nil)))
noncomputable def C29 : Code := W.Code.fst C7
abbrev Q6 (R : W.Post) : Exit → Act → World → Prop := (Exit.then (Code.wp Try.prog C9 (Exit.then (W.LoopWP Try.prog C7 (Q1 R)) (Q1 R))) (Exit.then (W.LoopWP Try.prog C7 (Q1 R)) (Q1 R)))
noncomputable def C30 : Code := W.Code.fst C29
noncomputable def C31 : Code := W.Code.snd C29
noncomputable def C32 : Code := W.Code.fst C31
noncomputable def C33 : Code := W.Code.snd C31
/-- law.go:189 -/
abbrev S5 (n1 k7 size8 rest9 : Int) (w : World) (R : W.Post) : Prop :=
  W.sel (decide (rest9 > 0)) (S6 n1 k7 size8 rest9 w R) (S8 n1 k7 size8 w R)
def KE_S5 (E : W.Env) (w : World) (R : W.Post) : Prop := W.asInt .i64 (W.Env.get? E 1) fun n1 => W.asInt .u64 (W.Env.get? E 7) fun k7 => W.asInt .i64 (W.Env.get? E 8) fun size8 => W.asInt .u64 (W.Env.get? E 9) fun rest9 => S5 n1 k7 size8 rest9 w R
theorem KE_S5_ok (R : W.Post) (E : W.Env) (w : World) (h : KE_S5 E w R) : W.WP Try.prog 50 C29 (Q6 R) E w := by
  obtain ⟨n1, hq1, h1⟩ := W.asInt_elim h
  obtain ⟨k7, hq7, h2⟩ := W.asInt_elim h1
  obtain ⟨size8, hq8, h3⟩ := W.asInt_elim h2
  obtain ⟨rest9, hq9, h4⟩ := W.asInt_elim h3
  exact fun a ha => W.WP.at (E := [(1, .int .i64 n1), (7, .int .u64 k7), (8, .int .i64 size8), (9, .int .u64 rest9)]) (W.WP.seq (c := C29) (x := C30) (y := C31) (by kernel_rfl) <| W.WP.reg (c := C30) (fun E w => W.condK (W.Env.val E (.tmp 21)) (KE_S6 E w R) (KE_S8 E w R)) (by kernel_rfl) (Eq.mp (by kernel_rfl) h4) fun _ _ a hA hK => (W.WP.condK (c := C31) (x := C32) (y := C33) (o := .tmp 21) (by kernel_rfl) (fun hK => (W.WP.skip (c := C32) (by kernel_rfl) fun a hA => (W.WP.seq (c := C9) (x := C11) (y := C10) (by kernel_rfl) (W.WP.block (c := C11) (x := C12) (id := 1) (by kernel_rfl) (KE_S6_ok R _ _ hK))) a hA)) (fun hK => (W.WP.exit (c := C33) (id := 0) (by kernel_rfl) fun a hA => (KE_S8_ok R _ _ hK) a hA)) hK) a hA) (ha.cons hq1 (ha.cons hq7 (ha.cons hq8 (ha.cons hq9 ha.nil))))
theorem L4_step (n1 k7 size8 rest9 : Int) (w : World) (R : W.Post) (h : S5 n1 k7 size8 rest9 w R) : L4 n1 k7 size8 rest9 w R :=
  W.LP.step (c := C7) (E := [(1, .int .i64 n1), (7, .int .u64 k7), (8, .int .i64 size8), (9, .int .u64 rest9)]) (w := w) (W.WP.seq (c := C7) (x := C29) (y := C9) (by kernel_rfl) (KE_S5_ok R _ _ (Eq.mp (by kernel_rfl) h)))
noncomputable def C34 : Code := W.Code.fst C4
/-- law.go:189 -/
abbrev S3 (n1 k7 size8 : Int) (w : World) (R : W.Post) : Prop :=
  L4 n1 k7 size8 (IntKind.wrap .u64 (Int.tdiv k7 128)) w R
def KE_S3 (E : W.Env) (w : World) (R : W.Post) : Prop := W.asInt .i64 (W.Env.get? E 1) fun n1 => W.asInt .u64 (W.Env.get? E 7) fun k7 => W.asInt .i64 (W.Env.get? E 8) fun size8 => S3 n1 k7 size8 w R
theorem KE_S3_ok (R : W.Post) (E : W.Env) (w : World) (h : KE_S3 E w R) : W.WP Try.prog 50 C4 (Q0 R) E w := by
  obtain ⟨n1, hq1, h1⟩ := W.asInt_elim h
  obtain ⟨k7, hq7, h2⟩ := W.asInt_elim h1
  obtain ⟨size8, hq8, h3⟩ := W.asInt_elim h2
  exact fun a ha => W.WP.at (E := [(1, .int .i64 n1), (7, .int .u64 k7), (8, .int .i64 size8)]) (W.WP.seq (c := C4) (x := C34) (y := C5) (by kernel_rfl) <| W.WP.reg (c := C34) (fun E w => KE_L4 E w R) (by kernel_rfl) (Eq.mp (by kernel_rfl) h3) fun _ _ a hA hK => (W.WP.block (c := C5) (x := C6) (id := 0) (by kernel_rfl) (W.WP.loop (c := C6) (x := C7) (by kernel_rfl) (KE_L4_ok R _ _ hK))) a hA) (ha.cons hq1 (ha.cons hq7 (ha.cons hq8 ha.nil)))
noncomputable def C35 : Code := W.Code.fst C2
/-- law.go:188 -/
abbrev S2 (n1 k7 : Int) (w : World) (R : W.Post) : Prop :=
  S3 n1 k7 1 w R
def KE_S2 (E : W.Env) (w : World) (R : W.Post) : Prop := W.asInt .i64 (W.Env.get? E 1) fun n1 => W.asInt .u64 (W.Env.get? E 7) fun k7 => S2 n1 k7 w R
theorem KE_S2_ok (R : W.Post) (E : W.Env) (w : World) (h : KE_S2 E w R) : W.WP Try.prog 50 C2 (Q5 R) E w := by
  obtain ⟨n1, hq1, h1⟩ := W.asInt_elim h
  obtain ⟨k7, hq7, h2⟩ := W.asInt_elim h1
  exact fun a ha => W.WP.at (E := [(1, .int .i64 n1), (7, .int .u64 k7)]) (W.WP.seq (c := C2) (x := C35) (y := C3) (by kernel_rfl) <| W.WP.reg (c := C35) (fun E w => KE_S3 E w R) (by kernel_rfl) (Eq.mp (by kernel_rfl) h2) fun _ _ a hA hK => (W.WP.seq (c := C3) (x := C4) (y := C8) (by kernel_rfl) (KE_S3_ok R _ _ hK)) a hA) (ha.cons hq1 (ha.cons hq7 ha.nil))
noncomputable def C36 : Code := W.Code.fst C1
/-- law.go:187 -/
abbrev S1 (u0 n1 shift2 : Int) (w : World) (R : W.Post) : Prop :=
  Calls Try.prog n_enthymemeref01_Around #[.int .i64 shift2, .int .i64 64] w fun r_ w1 => ∃ t15 : Int, r_ = .returned (.int .i64 t15) ∧ 
  ¬ (IntKind.wrap .u64 t15) < 0 ∧ S2 n1 (Int.fdiv u0 (2 ^ (min (Int.toNat (IntKind.wrap .u64 t15)) (IntKind.bits .u64)))) w1 R
def KE_S1 (E : W.Env) (w : World) (R : W.Post) : Prop := W.asInt .u64 (W.Env.get? E 0) fun u0 => W.asInt .i64 (W.Env.get? E 1) fun n1 => W.asInt .i64 (W.Env.get? E 2) fun shift2 => S1 u0 n1 shift2 w R
theorem KE_S1_ok (R : W.Post) (E : W.Env) (w : World) (h : KE_S1 E w R) : W.WP Try.prog 50 C1 (Q5 R) E w := by
  obtain ⟨u0, hq0, h1⟩ := W.asInt_elim h
  obtain ⟨n1, hq1, h2⟩ := W.asInt_elim h1
  obtain ⟨shift2, hq2, h3⟩ := W.asInt_elim h2
  exact fun a ha => W.WP.at (E := [(0, .int .u64 u0), (1, .int .i64 n1), (2, .int .i64 shift2)]) (W.WP.seq (c := C1) (x := C36) (y := C2) (by kernel_rfl) <| W.WP.reg (c := C36) (fun E w => KE_S2 E w R) (by kernel_rfl) (Eq.mp (by kernel_rfl) h3) fun _ _ a hA hK => (KE_S2_ok R _ _ hK) a hA) (ha.cons hq0 (ha.cons hq1 (ha.cons hq2 ha.nil)))
noncomputable def C37 : Code := W.Code.fst C0
/-- law.go:186 -/
abbrev S0 (u0 n1 shift2 : Int) (w : World) (R : W.Post) : Prop :=
  S1 u0 n1 shift2 w R
def KE_S0 (E : W.Env) (w : World) (R : W.Post) : Prop := W.asInt .u64 (W.Env.get? E 0) fun u0 => W.asInt .i64 (W.Env.get? E 1) fun n1 => W.asInt .i64 (W.Env.get? E 2) fun shift2 => S0 u0 n1 shift2 w R
theorem KE_S0_ok (R : W.Post) (E : W.Env) (w : World) (h : KE_S0 E w R) : W.WP Try.prog 50 C0 (Q5 R) E w := by
  obtain ⟨u0, hq0, h1⟩ := W.asInt_elim h
  obtain ⟨n1, hq1, h2⟩ := W.asInt_elim h1
  obtain ⟨shift2, hq2, h3⟩ := W.asInt_elim h2
  exact fun a ha => W.WP.at (E := [(0, .int .u64 u0), (1, .int .i64 n1), (2, .int .i64 shift2)]) (W.WP.seq (c := C0) (x := C37) (y := C1) (by kernel_rfl) <| W.WP.reg (c := C37) (fun E w => KE_S1 E w R) (by kernel_rfl) (Eq.mp (by kernel_rfl) h3) fun _ _ a hA hK => (KE_S1_ok R _ _ hK) a hA) (ha.cons hq0 (ha.cons hq1 (ha.cons hq2 ha.nil)))
/-- enthymeme/enthymemelaw02.WireSizes -/
theorem ok (u0 n1 shift2 : Int) (w : World) (R : W.Post) (h : S0 u0 n1 shift2 w R) : Calls Try.prog n_enthymemelaw02_WireSizes #[.int .u64 u0, .int .i64 n1, .int .i64 shift2] w R :=
  W.calls_of_WP' (fn := Try.f3) (c := C0) (args := [.int .u64 u0, .int .i64 n1, .int .i64 shift2]) (by kernel_rfl) (by kernel_rfl) (by kernel_rfl) (KE_S0_ok R _ _ (Eq.mp (by kernel_rfl) h))
end enthymemelaw02_WireSizes
end Go.Proofs.Ytjmnpdacalbpkaa

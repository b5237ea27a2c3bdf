/- Printed by a program of ours (vcgen.py) from the dump: the conditions of the functions, and that they suffice. -/
import Derived.Test.YtjmnpdacalbpkaaVK
set_option linter.unusedVariables false
set_option maxRecDepth 100000
namespace Go.Proofs.Ytjmnpdacalbpkaa
open Go
namespace enthymemelaw02_WireHash
noncomputable def C0 : Code := (Try.f7.body).getD .skip
noncomputable def C1 : Code := W.Code.snd C0
noncomputable def C2 : Code := W.Code.snd C1
noncomputable def C3 : Code := W.Code.snd C2
noncomputable def C4 : Code := W.Code.snd C3
noncomputable def C5 : Code := W.Code.snd C4
noncomputable def C6 : Code := W.Code.snd C5
noncomputable def C7 : Code := W.Code.snd C6
noncomputable def C8 : Code := W.Code.snd C7
noncomputable def C9 : Code := W.Code.snd C8
noncomputable def C10 : Code := W.Code.snd C9
noncomputable def C11 : Code := W.Code.snd C10
noncomputable def C12 : Code := W.Code.fst C11
noncomputable def C13 : Code := W.Code.snd C12
noncomputable def C14 : Code := W.Code.fst C13
noncomputable def C15 : Code := W.Code.snd C11
abbrev Q0 (R : W.Post) : Exit → Act → World → Prop := (Exit.then (W.wpx Try.prog (W.cx 70) C15 (bodyPost Try.prog Try.f7 R)) (bodyPost Try.prog Try.f7 R))
noncomputable def C16 : Code := W.Code.fst C14
noncomputable def C17 : Code := W.Code.snd C14
/-- law.go:251 -/
abbrev S12 (m10 n11 : Int) (p14 : W.Sl) (w : World) (R : W.Post) : Prop :=
  W.sel (decide (((p14.n : Nat) : Int) ≤ 8)) (W.sel (m10 != n11) (Calls Try.prog n_enthymemelaw02_lives #[] w fun r_ w1 => ∃ t54 : Bool, r_ = .returned (.bool t54) ∧ 
  R (.returned (.bool t54)) w1) (R (.returned (.bool false)) w)) (R (.returned (.bool false)) w)
def KE_S12 (E : W.Env) (w : World) (R : W.Post) : Prop := W.asInt .u64 (W.Env.get? E 10) fun m10 => W.asInt .u64 (W.Env.get? E 11) fun n11 => W.asSlice (W.Env.get? E 14) fun p14 => S12 m10 n11 p14 w R
theorem KE_S12_ok (R : W.Post) (E : W.Env) (w : World) (h : KE_S12 E w R) : W.WP Try.prog (W.cx 70) C14 (Q0 R) E w := by
  obtain ⟨m10, hq10, h1⟩ := W.asInt_elim h
  obtain ⟨n11, hq11, h2⟩ := W.asInt_elim h1
  obtain ⟨p14, hq14, h3⟩ := W.asSlice_elim h2
  exact fun a ha => W.WP.at (n := (W.cx 70)) (E := [(10, .int .u64 m10), (11, .int .u64 n11), (14, p14.v)]) (W.WP.seq (c := C14) (x := C16) (y := C17) (by kernel_rfl) <| W.WP.reg (c := C16) (fun E w => W.retVC Try.prog Try.f7 E w (fun v => R (.returned v) w)) (by kernel_rfl) (Eq.mp (by kernel_rfl) h3) fun _ _ a hA hK => (W.WP.ret (c := C17) (by kernel_rfl) fun a hA => W.retVC_sound hA hK) a hA) (ha.cons hq10 (ha.cons hq11 (ha.cons hq14 ha.nil)))
abbrev Q1 (R : W.Post) : Exit → Act → World → Prop := (bodyPost Try.prog Try.f7 R)
noncomputable def C18 : Code := W.Code.fst C15
noncomputable def C19 : Code := W.Code.snd C15
/-- law.go:253 -/
abbrev S13 (m10 n11 : Int) (p14 q15 : W.Sl) (s16 : ByteArray) (w : World) (R : W.Post) : Prop :=
  Calls Try.prog n_hash_Bytes #[.string s16, p14.v] w fun r_ w1 => ∃ t58 : Int, r_ = .returned (.int .u64 t58) ∧ 
  Calls Try.prog n_hash_Bytes #[.string s16, q15.v] w1 fun r_ w2 => ∃ t61 : Int, r_ = .returned (.int .u64 t61) ∧ 
  W.sel ((t58 == t61) == (m10 == n11)) (Calls Try.prog n_enthymemelaw02_lives #[] w2 fun r_ w3 => ∃ t68 : Bool, r_ = .returned (.bool t68) ∧ 
  R (.returned (.bool t68)) w3) (R (.returned (.bool false)) w2)
def KE_S13 (E : W.Env) (w : World) (R : W.Post) : Prop := W.asInt .u64 (W.Env.get? E 10) fun m10 => W.asInt .u64 (W.Env.get? E 11) fun n11 => W.asSlice (W.Env.get? E 14) fun p14 => W.asSlice (W.Env.get? E 15) fun q15 => W.asStr (W.Env.get? E 16) fun s16 => S13 m10 n11 p14 q15 s16 w R
theorem KE_S13_ok (R : W.Post) (E : W.Env) (w : World) (h : KE_S13 E w R) : W.WP Try.prog (W.cx 70) C15 (Q1 R) E w := by
  obtain ⟨m10, hq10, h1⟩ := W.asInt_elim h
  obtain ⟨n11, hq11, h2⟩ := W.asInt_elim h1
  obtain ⟨p14, hq14, h3⟩ := W.asSlice_elim h2
  obtain ⟨q15, hq15, h4⟩ := W.asSlice_elim h3
  obtain ⟨s16, hq16, h5⟩ := W.asStr_elim h4
  exact fun a ha => W.WP.at (n := (W.cx 70)) (E := [(10, .int .u64 m10), (11, .int .u64 n11), (14, p14.v), (15, q15.v), (16, .string s16)]) (W.WP.seq (c := C15) (x := C18) (y := C19) (by kernel_rfl) <| W.WP.reg (c := C18) (fun E w => W.retVC Try.prog Try.f7 E w (fun v => R (.returned v) w)) (by kernel_rfl) (Eq.mp (by kernel_rfl) h5) fun _ _ a hA hK => (W.WP.ret (c := C19) (by kernel_rfl) fun a hA => W.retVC_sound hA hK) a hA) (ha.cons hq10 (ha.cons hq11 (ha.cons hq14 (ha.cons hq15 (ha.cons hq16 ha.nil)))))
noncomputable def C20 : Code := W.Code.fst C12
noncomputable def C21 : Code := W.Code.snd C13
/-- law.go:250 -/
abbrev S11 (m10 n11 : Int) (p14 q15 : W.Sl) (s16 : ByteArray) (w : World) (R : W.Post) : Prop :=
  W.sel (((p14.n : Nat) : Int) != ((q15.n : Nat) : Int)) (S12 m10 n11 p14 w R) (W.sel (decide (((p14.n : Nat) : Int) > 8)) (S12 m10 n11 p14 w R) (S13 m10 n11 p14 q15 s16 w R))
def KE_S11 (E : W.Env) (w : World) (R : W.Post) : Prop := W.asInt .u64 (W.Env.get? E 10) fun m10 => W.asInt .u64 (W.Env.get? E 11) fun n11 => W.asSlice (W.Env.get? E 14) fun p14 => W.asSlice (W.Env.get? E 15) fun q15 => W.asStr (W.Env.get? E 16) fun s16 => S11 m10 n11 p14 q15 s16 w R
theorem KE_S11_ok (R : W.Post) (E : W.Env) (w : World) (h : KE_S11 E w R) : W.WP Try.prog (W.cx 70) C12 (Q0 R) E w := by
  obtain ⟨m10, hq10, h1⟩ := W.asInt_elim h
  obtain ⟨n11, hq11, h2⟩ := W.asInt_elim h1
  obtain ⟨p14, hq14, h3⟩ := W.asSlice_elim h2
  obtain ⟨q15, hq15, h4⟩ := W.asSlice_elim h3
  obtain ⟨s16, hq16, h5⟩ := W.asStr_elim h4
  exact fun a ha => W.WP.at (n := (W.cx 70)) (E := [(10, .int .u64 m10), (11, .int .u64 n11), (14, p14.v), (15, q15.v), (16, .string s16)]) (W.WP.seq (c := C12) (x := C20) (y := C13) (by kernel_rfl) <| W.WP.reg (c := C20) (fun E w => W.condK (W.Env.val E (.tmp 44)) (KE_S12 E w R) (KE_S13 E w R)) (by kernel_rfl) (Eq.mp (by kernel_rfl) h5) fun _ _ a hA hK => (W.WP.condK (c := C13) (x := C14) (y := C21) (o := .tmp 44) (by kernel_rfl) (fun hK => (KE_S12_ok R _ _ hK)) (fun hK => (W.WP.skip (c := C21) (by kernel_rfl) fun a hA => (KE_S13_ok R _ _ hK) a hA)) hK) a hA) (ha.cons hq10 (ha.cons hq11 (ha.cons hq14 (ha.cons hq15 (ha.cons hq16 ha.nil)))))
noncomputable def C22 : Code := W.Code.fst C10
/-- law.go:249 -/
abbrev S10 (label3 : ByteArray) (m10 n11 : Int) (p14 q15 : W.Sl) (w : World) (R : W.Post) : Prop :=
  Calls Try.prog n_enthymemeref01_Short #[.string label3, .int .i64 20] w fun r_ w1 => ∃ t34 : ByteArray, r_ = .returned (.string t34) ∧ 
  S11 m10 n11 p14 q15 t34 w1 R
def KE_S10 (E : W.Env) (w : World) (R : W.Post) : Prop := W.asStr (W.Env.get? E 3) fun label3 => W.asInt .u64 (W.Env.get? E 10) fun m10 => W.asInt .u64 (W.Env.get? E 11) fun n11 => W.asSlice (W.Env.get? E 14) fun p14 => W.asSlice (W.Env.get? E 15) fun q15 => S10 label3 m10 n11 p14 q15 w R
theorem KE_S10_ok (R : W.Post) (E : W.Env) (w : World) (h : KE_S10 E w R) : W.WP Try.prog (W.cx 70) C10 (Q1 R) E w := by
  obtain ⟨label3, hq3, h1⟩ := W.asStr_elim h
  obtain ⟨m10, hq10, h2⟩ := W.asInt_elim h1
  obtain ⟨n11, hq11, h3⟩ := W.asInt_elim h2
  obtain ⟨p14, hq14, h4⟩ := W.asSlice_elim h3
  obtain ⟨q15, hq15, h5⟩ := W.asSlice_elim h4
  exact fun a ha => W.WP.at (n := (W.cx 70)) (E := [(3, .string label3), (10, .int .u64 m10), (11, .int .u64 n11), (14, p14.v), (15, q15.v)]) (W.WP.seq (c := C10) (x := C22) (y := C11) (by kernel_rfl) <| W.WP.reg (c := C22) (fun E w => KE_S11 E w R) (by kernel_rfl) (Eq.mp (by kernel_rfl) h5) fun _ _ a hA hK => (W.WP.seq (c := C11) (x := C12) (y := C15) (by kernel_rfl) (KE_S11_ok R _ _ hK)) a hA) (ha.cons hq3 (ha.cons hq10 (ha.cons hq11 (ha.cons hq14 (ha.cons hq15 ha.nil)))))
noncomputable def C23 : Code := W.Code.fst C9
/-- law.go:248 -/
abbrev S9 (label3 : ByteArray) (m10 n11 : Int) (y13 : Addr) (p14 : W.Sl) (w : World) (R : W.Post) : Prop :=
  Calls Try.prog n_wire_Writer_Done #[.pointer (some y13)] w fun r_ w1 => ∃ t32 : W.Sl, r_ = .returned (t32.v) ∧ 
  S10 label3 m10 n11 p14 t32 w1 R
def KE_S9 (E : W.Env) (w : World) (R : W.Post) : Prop := W.asStr (W.Env.get? E 3) fun label3 => W.asInt .u64 (W.Env.get? E 10) fun m10 => W.asInt .u64 (W.Env.get? E 11) fun n11 => W.asRef (W.Env.get? E 13) fun y13 => W.asSlice (W.Env.get? E 14) fun p14 => S9 label3 m10 n11 y13 p14 w R
theorem KE_S9_ok (R : W.Post) (E : W.Env) (w : World) (h : KE_S9 E w R) : W.WP Try.prog (W.cx 70) C9 (Q1 R) E w := by
  obtain ⟨label3, hq3, h1⟩ := W.asStr_elim h
  obtain ⟨m10, hq10, h2⟩ := W.asInt_elim h1
  obtain ⟨n11, hq11, h3⟩ := W.asInt_elim h2
  obtain ⟨y13, hq13, h4⟩ := W.asRef_elim h3
  obtain ⟨p14, hq14, h5⟩ := W.asSlice_elim h4
  exact fun a ha => W.WP.at (n := (W.cx 70)) (E := [(3, .string label3), (10, .int .u64 m10), (11, .int .u64 n11), (13, .pointer (some y13)), (14, p14.v)]) (W.WP.seq (c := C9) (x := C23) (y := C10) (by kernel_rfl) <| W.WP.reg (c := C23) (fun E w => KE_S10 E w R) (by kernel_rfl) (Eq.mp (by kernel_rfl) h5) fun _ _ a hA hK => (KE_S10_ok R _ _ hK) a hA) (ha.cons hq3 (ha.cons hq10 (ha.cons hq11 (ha.cons hq13 (ha.cons hq14 ha.nil)))))
noncomputable def C24 : Code := W.Code.fst C8
/-- law.go:247 -/
abbrev S8 (label3 : ByteArray) (m10 n11 : Int) (x12 y13 : Addr) (w : World) (R : W.Post) : Prop :=
  Calls Try.prog n_wire_Writer_Done #[.pointer (some x12)] w fun r_ w1 => ∃ t31 : W.Sl, r_ = .returned (t31.v) ∧ 
  S9 label3 m10 n11 y13 t31 w1 R
def KE_S8 (E : W.Env) (w : World) (R : W.Post) : Prop := W.asStr (W.Env.get? E 3) fun label3 => W.asInt .u64 (W.Env.get? E 10) fun m10 => W.asInt .u64 (W.Env.get? E 11) fun n11 => W.asRef (W.Env.get? E 12) fun x12 => W.asRef (W.Env.get? E 13) fun y13 => S8 label3 m10 n11 x12 y13 w R
theorem KE_S8_ok (R : W.Post) (E : W.Env) (w : World) (h : KE_S8 E w R) : W.WP Try.prog (W.cx 70) C8 (Q1 R) E w := by
  obtain ⟨label3, hq3, h1⟩ := W.asStr_elim h
  obtain ⟨m10, hq10, h2⟩ := W.asInt_elim h1
  obtain ⟨n11, hq11, h3⟩ := W.asInt_elim h2
  obtain ⟨x12, hq12, h4⟩ := W.asRef_elim h3
  obtain ⟨y13, hq13, h5⟩ := W.asRef_elim h4
  exact fun a ha => W.WP.at (n := (W.cx 70)) (E := [(3, .string label3), (10, .int .u64 m10), (11, .int .u64 n11), (12, .pointer (some x12)), (13, .pointer (some y13))]) (W.WP.seq (c := C8) (x := C24) (y := C9) (by kernel_rfl) <| W.WP.reg (c := C24) (fun E w => KE_S9 E w R) (by kernel_rfl) (Eq.mp (by kernel_rfl) h5) fun _ _ a hA hK => (KE_S9_ok R _ _ hK) a hA) (ha.cons hq3 (ha.cons hq10 (ha.cons hq11 (ha.cons hq12 (ha.cons hq13 ha.nil)))))
noncomputable def C25 : Code := W.Code.fst C7
/-- law.go:246 -/
abbrev S7 (label3 : ByteArray) (m10 n11 : Int) (x12 y13 : Addr) (w : World) (R : W.Post) : Prop :=
  Calls Try.prog n_wire_Writer_Uint #[.pointer (some y13), .int .u64 n11] w fun r_ w1 => r_ = .returned (.tuple #[]) ∧ 
  S8 label3 m10 n11 x12 y13 w1 R
def KE_S7 (E : W.Env) (w : World) (R : W.Post) : Prop := W.asStr (W.Env.get? E 3) fun label3 => W.asInt .u64 (W.Env.get? E 10) fun m10 => W.asInt .u64 (W.Env.get? E 11) fun n11 => W.asRef (W.Env.get? E 12) fun x12 => W.asRef (W.Env.get? E 13) fun y13 => S7 label3 m10 n11 x12 y13 w R
theorem KE_S7_ok (R : W.Post) (E : W.Env) (w : World) (h : KE_S7 E w R) : W.WP Try.prog (W.cx 70) C7 (Q1 R) E w := by
  obtain ⟨label3, hq3, h1⟩ := W.asStr_elim h
  obtain ⟨m10, hq10, h2⟩ := W.asInt_elim h1
  obtain ⟨n11, hq11, h3⟩ := W.asInt_elim h2
  obtain ⟨x12, hq12, h4⟩ := W.asRef_elim h3
  obtain ⟨y13, hq13, h5⟩ := W.asRef_elim h4
  exact fun a ha => W.WP.at (n := (W.cx 70)) (E := [(3, .string label3), (10, .int .u64 m10), (11, .int .u64 n11), (12, .pointer (some x12)), (13, .pointer (some y13))]) (W.WP.seq (c := C7) (x := C25) (y := C8) (by kernel_rfl) <| W.WP.reg (c := C25) (fun E w => KE_S8 E w R) (by kernel_rfl) (Eq.mp (by kernel_rfl) h5) fun _ _ a hA hK => (KE_S8_ok R _ _ hK) a hA) (ha.cons hq3 (ha.cons hq10 (ha.cons hq11 (ha.cons hq12 (ha.cons hq13 ha.nil)))))
noncomputable def C26 : Code := W.Code.fst C6
/-- law.go:245 -/
abbrev S6 (label3 : ByteArray) (m10 n11 : Int) (x12 : Addr) (w : World) (R : W.Post) : Prop :=
  let w1 := w.alloc (.cells #[.slice none 0 0] ty_wire_Writer)
  S7 label3 m10 n11 x12 (Addr.mk w.heap.size 0 none) w1 R
def KE_S6 (E : W.Env) (w : World) (R : W.Post) : Prop := W.asStr (W.Env.get? E 3) fun label3 => W.asInt .u64 (W.Env.get? E 10) fun m10 => W.asInt .u64 (W.Env.get? E 11) fun n11 => W.asRef (W.Env.get? E 12) fun x12 => S6 label3 m10 n11 x12 w R
theorem KE_S6_ok (R : W.Post) (E : W.Env) (w : World) (h : KE_S6 E w R) : W.WP Try.prog (W.cx 70) C6 (Q1 R) E w := by
  obtain ⟨label3, hq3, h1⟩ := W.asStr_elim h
  obtain ⟨m10, hq10, h2⟩ := W.asInt_elim h1
  obtain ⟨n11, hq11, h3⟩ := W.asInt_elim h2
  obtain ⟨x12, hq12, h4⟩ := W.asRef_elim h3
  exact fun a ha => W.WP.at (n := (W.cx 70)) (E := [(3, .string label3), (10, .int .u64 m10), (11, .int .u64 n11), (12, .pointer (some x12))]) (W.WP.seq (c := C6) (x := C26) (y := C7) (by kernel_rfl) <| W.WP.reg (c := C26) (fun E w => KE_S7 E w R) (by kernel_rfl) (Eq.mp (by kernel_rfl) h4) fun _ _ a hA hK => (KE_S7_ok R _ _ hK) a hA) (ha.cons hq3 (ha.cons hq10 (ha.cons hq11 (ha.cons hq12 ha.nil))))
noncomputable def C27 : Code := W.Code.fst C5
/-- law.go:244 -/
abbrev S5 (label3 : ByteArray) (m10 n11 : Int) (x12 : Addr) (w : World) (R : W.Post) : Prop :=
  Calls Try.prog n_wire_Writer_Uint #[.pointer (some x12), .int .u64 m10] w fun r_ w1 => r_ = .returned (.tuple #[]) ∧ 
  S6 label3 m10 n11 x12 w1 R
def KE_S5 (E : W.Env) (w : World) (R : W.Post) : Prop := W.asStr (W.Env.get? E 3) fun label3 => W.asInt .u64 (W.Env.get? E 10) fun m10 => W.asInt .u64 (W.Env.get? E 11) fun n11 => W.asRef (W.Env.get? E 12) fun x12 => S5 label3 m10 n11 x12 w R
theorem KE_S5_ok (R : W.Post) (E : W.Env) (w : World) (h : KE_S5 E w R) : W.WP Try.prog (W.cx 70) C5 (Q1 R) E w := by
  obtain ⟨label3, hq3, h1⟩ := W.asStr_elim h
  obtain ⟨m10, hq10, h2⟩ := W.asInt_elim h1
  obtain ⟨n11, hq11, h3⟩ := W.asInt_elim h2
  obtain ⟨x12, hq12, h4⟩ := W.asRef_elim h3
  exact fun a ha => W.WP.at (n := (W.cx 70)) (E := [(3, .string label3), (10, .int .u64 m10), (11, .int .u64 n11), (12, .pointer (some x12))]) (W.WP.seq (c := C5) (x := C27) (y := C6) (by kernel_rfl) <| W.WP.reg (c := C27) (fun E w => KE_S6 E w R) (by kernel_rfl) (Eq.mp (by kernel_rfl) h4) fun _ _ a hA hK => (KE_S6_ok R _ _ hK) a hA) (ha.cons hq3 (ha.cons hq10 (ha.cons hq11 (ha.cons hq12 ha.nil))))
noncomputable def C28 : Code := W.Code.fst C4
/-- law.go:243 -/
abbrev S4 (label3 : ByteArray) (m10 n11 : Int) (w : World) (R : W.Post) : Prop :=
  let w1 := w.alloc (.cells #[.slice none 0 0] ty_wire_Writer)
  S5 label3 m10 n11 (Addr.mk w.heap.size 0 none) w1 R
def KE_S4 (E : W.Env) (w : World) (R : W.Post) : Prop := W.asStr (W.Env.get? E 3) fun label3 => W.asInt .u64 (W.Env.get? E 10) fun m10 => W.asInt .u64 (W.Env.get? E 11) fun n11 => S4 label3 m10 n11 w R
theorem KE_S4_ok (R : W.Post) (E : W.Env) (w : World) (h : KE_S4 E w R) : W.WP Try.prog (W.cx 70) C4 (Q1 R) E w := by
  obtain ⟨label3, hq3, h1⟩ := W.asStr_elim h
  obtain ⟨m10, hq10, h2⟩ := W.asInt_elim h1
  obtain ⟨n11, hq11, h3⟩ := W.asInt_elim h2
  exact fun a ha => W.WP.at (n := (W.cx 70)) (E := [(3, .string label3), (10, .int .u64 m10), (11, .int .u64 n11)]) (W.WP.seq (c := C4) (x := C28) (y := C5) (by kernel_rfl) <| W.WP.reg (c := C28) (fun E w => KE_S5 E w R) (by kernel_rfl) (Eq.mp (by kernel_rfl) h3) fun _ _ a hA hK => (KE_S5_ok R _ _ hK) a hA) (ha.cons hq3 (ha.cons hq10 (ha.cons hq11 ha.nil)))
noncomputable def C29 : Code := W.Code.fst C3
/-- law.go:242 -/
abbrev S3 (b1 : Int) (label3 : ByteArray) (k9 m10 : Int) (w : World) (R : W.Post) : Prop :=
  ¬ k9 < 0 ∧ S4 label3 m10 (Int.fdiv b1 (2 ^ (min (Int.toNat k9) (IntKind.bits .u64)))) w R
def KE_S3 (E : W.Env) (w : World) (R : W.Post) : Prop := W.asInt .u64 (W.Env.get? E 1) fun b1 => W.asStr (W.Env.get? E 3) fun label3 => W.asInt .u64 (W.Env.get? E 9) fun k9 => W.asInt .u64 (W.Env.get? E 10) fun m10 => S3 b1 label3 k9 m10 w R
theorem KE_S3_ok (R : W.Post) (E : W.Env) (w : World) (h : KE_S3 E w R) : W.WP Try.prog (W.cx 70) C3 (Q1 R) E w := by
  obtain ⟨b1, hq1, h1⟩ := W.asInt_elim h
  obtain ⟨label3, hq3, h2⟩ := W.asStr_elim h1
  obtain ⟨k9, hq9, h3⟩ := W.asInt_elim h2
  obtain ⟨m10, hq10, h4⟩ := W.asInt_elim h3
  exact fun a ha => W.WP.at (n := (W.cx 70)) (E := [(1, .int .u64 b1), (3, .string label3), (9, .int .u64 k9), (10, .int .u64 m10)]) (W.WP.seq (c := C3) (x := C29) (y := C4) (by kernel_rfl) <| W.WP.reg (c := C29) (fun E w => KE_S4 E w R) (by kernel_rfl) (Eq.mp (by kernel_rfl) h4) fun _ _ a hA hK => (KE_S4_ok R _ _ hK) a hA) (ha.cons hq1 (ha.cons hq3 (ha.cons hq9 (ha.cons hq10 ha.nil))))
noncomputable def C30 : Code := W.Code.fst C2
/-- law.go:241 -/
abbrev S2 (a0 b1 : Int) (label3 : ByteArray) (k9 : Int) (w : World) (R : W.Post) : Prop :=
  ¬ k9 < 0 ∧ S3 b1 label3 k9 (Int.fdiv a0 (2 ^ (min (Int.toNat k9) (IntKind.bits .u64)))) w R
def KE_S2 (E : W.Env) (w : World) (R : W.Post) : Prop := W.asInt .u64 (W.Env.get? E 0) fun a0 => W.asInt .u64 (W.Env.get? E 1) fun b1 => W.asStr (W.Env.get? E 3) fun label3 => W.asInt .u64 (W.Env.get? E 9) fun k9 => S2 a0 b1 label3 k9 w R
theorem KE_S2_ok (R : W.Post) (E : W.Env) (w : World) (h : KE_S2 E w R) : W.WP Try.prog (W.cx 70) C2 (Q1 R) E w := by
  obtain ⟨a0, hq0, h1⟩ := W.asInt_elim h
  obtain ⟨b1, hq1, h2⟩ := W.asInt_elim h1
  obtain ⟨label3, hq3, h3⟩ := W.asStr_elim h2
  obtain ⟨k9, hq9, h4⟩ := W.asInt_elim h3
  exact fun a ha => W.WP.at (n := (W.cx 70)) (E := [(0, .int .u64 a0), (1, .int .u64 b1), (3, .string label3), (9, .int .u64 k9)]) (W.WP.seq (c := C2) (x := C30) (y := C3) (by kernel_rfl) <| W.WP.reg (c := C30) (fun E w => KE_S3 E w R) (by kernel_rfl) (Eq.mp (by kernel_rfl) h4) fun _ _ a hA hK => (KE_S3_ok R _ _ hK) a hA) (ha.cons hq0 (ha.cons hq1 (ha.cons hq3 (ha.cons hq9 ha.nil))))
noncomputable def C31 : Code := W.Code.fst C1
/-- law.go:240 -/
abbrev S1 (a0 b1 shift2 : Int) (label3 : ByteArray) (w : World) (R : W.Post) : Prop :=
  Calls Try.prog n_enthymemeref01_Around #[.int .i64 shift2, .int .i64 56] w fun r_ w1 => ∃ t18 : Int, r_ = .returned (.int .i64 t18) ∧ 
  S2 a0 b1 label3 (IntKind.wrap .u64 (IntKind.wrap .i64 (8 + t18))) w1 R
def KE_S1 (E : W.Env) (w : World) (R : W.Post) : Prop := W.asInt .u64 (W.Env.get? E 0) fun a0 => W.asInt .u64 (W.Env.get? E 1) fun b1 => W.asInt .i64 (W.Env.get? E 2) fun shift2 => W.asStr (W.Env.get? E 3) fun label3 => S1 a0 b1 shift2 label3 w R
theorem KE_S1_ok (R : W.Post) (E : W.Env) (w : World) (h : KE_S1 E w R) : W.WP Try.prog (W.cx 70) C1 (Q1 R) E w := by
  obtain ⟨a0, hq0, h1⟩ := W.asInt_elim h
  obtain ⟨b1, hq1, h2⟩ := W.asInt_elim h1
  obtain ⟨shift2, hq2, h3⟩ := W.asInt_elim h2
  obtain ⟨label3, hq3, h4⟩ := W.asStr_elim h3
  exact fun a ha => W.WP.at (n := (W.cx 70)) (E := [(0, .int .u64 a0), (1, .int .u64 b1), (2, .int .i64 shift2), (3, .string label3)]) (W.WP.seq (c := C1) (x := C31) (y := C2) (by kernel_rfl) <| W.WP.reg (c := C31) (fun E w => KE_S2 E w R) (by kernel_rfl) (Eq.mp (by kernel_rfl) h4) fun _ _ a hA hK => (KE_S2_ok R _ _ hK) a hA) (ha.cons hq0 (ha.cons hq1 (ha.cons hq2 (ha.cons hq3 ha.nil))))
noncomputable def C32 : Code := W.Code.fst C0
/-- law.go:239 -/
abbrev S0 (a0 b1 shift2 : Int) (label3 : ByteArray) (w : World) (R : W.Post) : Prop :=
  S1 a0 b1 shift2 label3 w R
def KE_S0 (E : W.Env) (w : World) (R : W.Post) : Prop := W.asInt .u64 (W.Env.get? E 0) fun a0 => W.asInt .u64 (W.Env.get? E 1) fun b1 => W.asInt .i64 (W.Env.get? E 2) fun shift2 => W.asStr (W.Env.get? E 3) fun label3 => S0 a0 b1 shift2 label3 w R
theorem KE_S0_ok (R : W.Post) (E : W.Env) (w : World) (h : KE_S0 E w R) : W.WP Try.prog (W.cx 70) C0 (Q1 R) E w := by
  obtain ⟨a0, hq0, h1⟩ := W.asInt_elim h
  obtain ⟨b1, hq1, h2⟩ := W.asInt_elim h1
  obtain ⟨shift2, hq2, h3⟩ := W.asInt_elim h2
  obtain ⟨label3, hq3, h4⟩ := W.asStr_elim h3
  exact fun a ha => W.WP.at (n := (W.cx 70)) (E := [(0, .int .u64 a0), (1, .int .u64 b1), (2, .int .i64 shift2), (3, .string label3)]) (W.WP.seq (c := C0) (x := C32) (y := C1) (by kernel_rfl) <| W.WP.reg (c := C32) (fun E w => KE_S1 E w R) (by kernel_rfl) (Eq.mp (by kernel_rfl) h4) fun _ _ a hA hK => (KE_S1_ok R _ _ hK) a hA) (ha.cons hq0 (ha.cons hq1 (ha.cons hq2 (ha.cons hq3 ha.nil))))
/-- enthymeme/enthymemelaw02.WireHash -/
theorem ok (a0 b1 shift2 : Int) (label3 : ByteArray) (w : World) (R : W.Post) (h : S0 a0 b1 shift2 label3 w R) : Calls Try.prog n_enthymemelaw02_WireHash #[.int .u64 a0, .int .u64 b1, .int .i64 shift2, .string label3] w R :=
  W.calls_of_WP' (fn := Try.f7) (c := C0) (args := [.int .u64 a0, .int .u64 b1, .int .i64 shift2, .string label3]) (by kernel_rfl) (by kernel_rfl) (by kernel_rfl) (KE_S0_ok R _ _ (Eq.mp (by kernel_rfl) h))
end enthymemelaw02_WireHash
end Go.Proofs.Ytjmnpdacalbpkaa

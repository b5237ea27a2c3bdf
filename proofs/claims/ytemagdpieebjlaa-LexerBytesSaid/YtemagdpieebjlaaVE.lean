/- Printed by a program of ours (vcgen.py) from the dump: the conditions of the functions, and that they suffice. -/
import Derived.Test.YtemagdpieebjlaaVR
import Derived.Test.YtemagdpieebjlaaVK
set_option linter.unusedVariables false
set_option maxRecDepth 100000
namespace Go.Proofs.Ytemagdpieebjlaa
open Go
namespace enthymemelaw09_LexerBytes
noncomputable def C0 : Code := (Try.f8.body).getD .skip
noncomputable def C1 : Code := W.Code.snd C0
noncomputable def C2 : Code := W.Code.snd C1
noncomputable def C3 : Code := W.Code.snd C2
noncomputable def C4 : Code := W.Code.snd C3
noncomputable def C5 : Code := W.Code.snd C4
noncomputable def C6 : Code := W.Code.snd C5
noncomputable def C7 : Code := W.Code.snd C6
noncomputable def C8 : Code := W.Code.snd C7
noncomputable def C9 : Code := W.Code.snd C8
noncomputable def C10 : Code := W.Code.snd C9
noncomputable def C11 : Code := W.Code.fst C10
noncomputable def C12 : Code := W.Code.snd C11
noncomputable def C13 : Code := W.Code.fst C12
noncomputable def C14 : Code := W.Code.snd C10
abbrev Q0 (R : W.Post) : Exit → Act → World → Prop := (Exit.then (W.wpx Try.prog (W.cx 120) C14 (bodyPost Try.prog Try.f8 R)) (bodyPost Try.prog Try.f8 R))
noncomputable def C15 : Code := W.Code.fst C13
noncomputable def C16 : Code := W.Code.snd C13
/-- law.go:133 -/
abbrev S11  (w : World) (R : W.Post) : Prop :=
  R (.returned (.bool false)) w
def KE_S11 (E : W.Env) (w : World) (R : W.Post) : Prop := S11  w R
theorem KE_S11_ok (R : W.Post) (E : W.Env) (w : World) (h : KE_S11 E w R) : W.WP Try.prog (W.cx 120) C13 (Q0 R) E w := by
  exact fun a ha => W.WP.at (n := (W.cx 120)) (E := []) (W.WP.seq (c := C13) (x := C15) (y := C16) (by kernel_rfl) <| W.WP.reg (c := C15) (fun E w => W.retVC Try.prog Try.f8 E w (fun v => R (.returned v) w)) (by kernel_rfl) (Eq.mp (by kernel_rfl) h) fun _ _ a hA hK => (W.WP.ret (c := C16) (by kernel_rfl) fun a hA => W.retVC_sound hA hK) a hA) ha.nil
noncomputable def C17 : Code := W.Code.snd C14
noncomputable def C18 : Code := W.Code.snd C17
noncomputable def C19 : Code := W.Code.fst C18
noncomputable def C20 : Code := W.Code.snd C19
noncomputable def C21 : Code := W.Code.fst C20
noncomputable def C22 : Code := W.Code.snd C18
abbrev Q1 (R : W.Post) : Exit → Act → World → Prop := (Exit.then (W.wpx Try.prog (W.cx 120) C22 (bodyPost Try.prog Try.f8 R)) (bodyPost Try.prog Try.f8 R))
noncomputable def C23 : Code := W.Code.fst C21
noncomputable def C24 : Code := W.Code.snd C21
/-- law.go:138 -/
abbrev S15  (w : World) (R : W.Post) : Prop :=
  R (.returned (.bool false)) w
def KE_S15 (E : W.Env) (w : World) (R : W.Post) : Prop := S15  w R
theorem KE_S15_ok (R : W.Post) (E : W.Env) (w : World) (h : KE_S15 E w R) : W.WP Try.prog (W.cx 120) C21 (Q1 R) E w := by
  exact fun a ha => W.WP.at (n := (W.cx 120)) (E := []) (W.WP.seq (c := C21) (x := C23) (y := C24) (by kernel_rfl) <| W.WP.reg (c := C23) (fun E w => W.retVC Try.prog Try.f8 E w (fun v => R (.returned v) w)) (by kernel_rfl) (Eq.mp (by kernel_rfl) h) fun _ _ a hA hK => (W.WP.ret (c := C24) (by kernel_rfl) fun a hA => W.retVC_sound hA hK) a hA) ha.nil
noncomputable def C25 : Code := W.Code.snd C22
noncomputable def C26 : Code := W.Code.snd C25
abbrev Q2 (R : W.Post) : Exit → Act → World → Prop := (bodyPost Try.prog Try.f8 R)
noncomputable def C27 : Code := W.Code.fst C26
noncomputable def C28 : Code := W.Code.snd C26
/-- law.go:142 -/
abbrev S18 (l0 : W.Sl) (n1 : Int) (t12 : W.Sl) (r15 q16 : Option Addr) (back17 : W.Sl) (last18 : Int) (w : World) (R : W.Post) : Prop :=
  W.drV w fun w1 => (0 : Int) ≤ (if 40 < ((l0.n : Nat) : Int) then 40 else ((l0.n : Nat) : Int)) ∧ (if 40 < ((l0.n : Nat) : Int) then 40 else ((l0.n : Nat) : Int)) ≤ ((l0.c : Nat) : Int) ∧ Calls Try.prog n_enthymemeref01_SameInts #[back17.v, .slice (if l0.c = 0 then l0.a else l0.a.map (·.add (0 * 1))) ((Int.toNat (if 40 < ((l0.n : Nat) : Int) then 40 else ((l0.n : Nat) : Int))) - 0) (l0.c - 0)] w1 fun r_ w2 => ∃ t95 : Bool, r_ = .returned (.bool t95) ∧ 
  W.sel t95 (W.sel (last18 == n1) (Calls Try.prog n_wire_Reader_End #[.pointer r15] w2 fun r_ w3 => ∃ t103 : Int, r_ = .returned (.int .i64 t103) ∧ 
  W.sel (t103 == 0) ((0 : Int) ≤ 0 ∧ 0 < ((t12.n : Nat) : Int) ∧ W.optP t12.a fun t110_p => ∃ t112 : ByteArray, w3.cell? ((t110_p.add (Int.toNat 0 * 3)).add 1) = some (.string t112) ∧ 
  ((Calls Try.prog n_wire_Reader_Uint #[.pointer q16] w3 fun r_ w4 => ∃ t108 : Int, r_ = .returned (.int .u64 t108) ∧ 
  w4.cell? ((t110_p.add (Int.toNat 0 * 3)).add 1) = some (.string t112) ∧ ∃ (t113 : W.Sl) (w5 : World), Sem.run Try.prog (Go.convert ty_string ty_sl_uint8 (.string t112)) w4 = .ok (t113.v) w5 ∧ Calls Try.prog n_hash_Bytes #[.string (ByteArray.mk #[116, 101, 120, 116]), t113.v] w5 fun r_ w6 => ∃ t114 : Int, r_ = .returned (.int .u64 t114) ∧ 
  W.sel (t108 == t114) (Calls Try.prog n_enthymemelaw09_lives #[] w6 fun r_ w7 => ∃ t118 : Bool, r_ = .returned (.bool t118) ∧ 
  R (.returned (.bool t118)) w7) (R (.returned (.bool false)) w6)) ∧ (∃ (t113 : W.Sl) (w8 : World), Sem.run Try.prog (Go.convert ty_string ty_sl_uint8 (.string t112)) w3 = .ok (t113.v) w8 ∧ Calls Try.prog n_wire_Reader_Uint #[.pointer q16] w8 fun r_ w9 => ∃ t108 : Int, r_ = .returned (.int .u64 t108) ∧ 
  Calls Try.prog n_hash_Bytes #[.string (ByteArray.mk #[116, 101, 120, 116]), t113.v] w9 fun r_ w10 => ∃ t114 : Int, r_ = .returned (.int .u64 t114) ∧ 
  W.sel (t108 == t114) (Calls Try.prog n_enthymemelaw09_lives #[] w10 fun r_ w11 => ∃ t118 : Bool, r_ = .returned (.bool t118) ∧ 
  R (.returned (.bool t118)) w11) (R (.returned (.bool false)) w10)))) (((R (.returned (.bool false)) w3) ∧ (R (.returned (.bool false)) w3)))) (((R (.returned (.bool false)) w2) ∧ (R (.returned (.bool false)) w2)))) (((R (.returned (.bool false)) w2) ∧ (R (.returned (.bool false)) w2)))
def KE_S18 (E : W.Env) (w : World) (R : W.Post) : Prop := W.asSlice (W.Env.get? E 0) fun l0 => W.asInt .u64 (W.Env.get? E 1) fun n1 => W.asSlice (W.Env.get? E 12) fun t12 => W.asPtr (W.Env.get? E 15) fun r15 => W.asPtr (W.Env.get? E 16) fun q16 => W.asSlice (W.Env.get? E 17) fun back17 => W.asInt .u64 (W.Env.get? E 18) fun last18 => S18 l0 n1 t12 r15 q16 back17 last18 w R
theorem KE_S18_ok (R : W.Post) (E : W.Env) (w : World) (h : KE_S18 E w R) : W.WP Try.prog (W.cx 120) C26 (Q2 R) E w := by
  obtain ⟨l0, hq0, h1⟩ := W.asSlice_elim h
  obtain ⟨n1, hq1, h2⟩ := W.asInt_elim h1
  obtain ⟨t12, hq12, h3⟩ := W.asSlice_elim h2
  obtain ⟨r15, hq15, h4⟩ := W.asPtr_elim h3
  obtain ⟨q16, hq16, h5⟩ := W.asPtr_elim h4
  obtain ⟨back17, hq17, h6⟩ := W.asSlice_elim h5
  obtain ⟨last18, hq18, h7⟩ := W.asInt_elim h6
  exact fun a ha => W.WP.at (n := (W.cx 120)) (E := [(0, l0.v), (1, .int .u64 n1), (12, t12.v), (15, .pointer r15), (16, .pointer q16), (17, back17.v), (18, .int .u64 last18)]) (W.WP.seq (c := C26) (x := C27) (y := C28) (by kernel_rfl) <| W.WP.tree (c := C27) (.one 0 (.one 1 (.one 2 (.one 3 (.one 4 (.one 5 (.one 6 (.one 7 (.one 8 (.one 9 (.one 10 (.one 11 (.one 12 (.one 13 (.one 14 (.one 15 (.one 16 (.one 17 (.one 18 (.one 20 (.one 21 (.one 22 (.one 23 (.fork (.one 19 (.one 24 (.one 25 (.one 26 (.one 27 (.one 28 (.one 29 (.one 30 (.one 31 .nil))))))))) (.one 24 (.one 19 (.one 25 (.one 26 (.one 27 (.one 28 (.one 29 (.one 30 (.one 31 .nil))))))))))))))))))))))))))))))))) (fun E w => W.retVC Try.prog Try.f8 E w (fun v => R (.returned v) w)) (by kernel_rfl) (Eq.mp (by kernel_rfl) h7) fun _ _ a hA hK => (W.WP.ret (c := C28) (by kernel_rfl) fun a hA => W.retVC_sound hA hK) a hA) (ha.cons hq0 (ha.cons hq1 (ha.cons hq12 (ha.cons hq15 (ha.cons hq16 (ha.cons hq17 (ha.cons hq18 ha.nil)))))))
noncomputable def C29 : Code := W.Code.fst C25
/-- law.go:141 -/
abbrev S17 (l0 : W.Sl) (n1 : Int) (t12 : W.Sl) (r15 q16 : Option Addr) (back17 : W.Sl) (w : World) (R : W.Post) : Prop :=
  Calls Try.prog n_wire_Reader_Uint #[.pointer r15] w fun r_ w1 => ∃ t88 : Int, r_ = .returned (.int .u64 t88) ∧ 
  S18 l0 n1 t12 r15 q16 back17 t88 w1 R
def KE_S17 (E : W.Env) (w : World) (R : W.Post) : Prop := W.asSlice (W.Env.get? E 0) fun l0 => W.asInt .u64 (W.Env.get? E 1) fun n1 => W.asSlice (W.Env.get? E 12) fun t12 => W.asPtr (W.Env.get? E 15) fun r15 => W.asPtr (W.Env.get? E 16) fun q16 => W.asSlice (W.Env.get? E 17) fun back17 => S17 l0 n1 t12 r15 q16 back17 w R
theorem KE_S17_ok (R : W.Post) (E : W.Env) (w : World) (h : KE_S17 E w R) : W.WP Try.prog (W.cx 120) C25 (Q2 R) E w := by
  obtain ⟨l0, hq0, h1⟩ := W.asSlice_elim h
  obtain ⟨n1, hq1, h2⟩ := W.asInt_elim h1
  obtain ⟨t12, hq12, h3⟩ := W.asSlice_elim h2
  obtain ⟨r15, hq15, h4⟩ := W.asPtr_elim h3
  obtain ⟨q16, hq16, h5⟩ := W.asPtr_elim h4
  obtain ⟨back17, hq17, h6⟩ := W.asSlice_elim h5
  exact fun a ha => W.WP.at (n := (W.cx 120)) (E := [(0, l0.v), (1, .int .u64 n1), (12, t12.v), (15, .pointer r15), (16, .pointer q16), (17, back17.v)]) (W.WP.seq (c := C25) (x := C29) (y := C26) (by kernel_rfl) <| W.WP.reg (c := C29) (fun E w => KE_S18 E w R) (by kernel_rfl) (Eq.mp (by kernel_rfl) h6) fun _ _ a hA hK => (KE_S18_ok R _ _ hK) a hA) (ha.cons hq0 (ha.cons hq1 (ha.cons hq12 (ha.cons hq15 (ha.cons hq16 (ha.cons hq17 ha.nil))))))
noncomputable def C30 : Code := W.Code.fst C22
/-- law.go:140 -/
abbrev S16 (l0 : W.Sl) (n1 : Int) (t12 : W.Sl) (r15 q16 : Option Addr) (w : World) (R : W.Post) : Prop :=
  Calls Try.prog n_wire_Reader_Ints #[.pointer r15] w fun r_ w1 => ∃ t86 : W.Sl, r_ = .returned (t86.v) ∧ 
  S17 l0 n1 t12 r15 q16 t86 w1 R
def KE_S16 (E : W.Env) (w : World) (R : W.Post) : Prop := W.asSlice (W.Env.get? E 0) fun l0 => W.asInt .u64 (W.Env.get? E 1) fun n1 => W.asSlice (W.Env.get? E 12) fun t12 => W.asPtr (W.Env.get? E 15) fun r15 => W.asPtr (W.Env.get? E 16) fun q16 => S16 l0 n1 t12 r15 q16 w R
theorem KE_S16_ok (R : W.Post) (E : W.Env) (w : World) (h : KE_S16 E w R) : W.WP Try.prog (W.cx 120) C22 (Q2 R) E w := by
  obtain ⟨l0, hq0, h1⟩ := W.asSlice_elim h
  obtain ⟨n1, hq1, h2⟩ := W.asInt_elim h1
  obtain ⟨t12, hq12, h3⟩ := W.asSlice_elim h2
  obtain ⟨r15, hq15, h4⟩ := W.asPtr_elim h3
  obtain ⟨q16, hq16, h5⟩ := W.asPtr_elim h4
  exact fun a ha => W.WP.at (n := (W.cx 120)) (E := [(0, l0.v), (1, .int .u64 n1), (12, t12.v), (15, .pointer r15), (16, .pointer q16)]) (W.WP.seq (c := C22) (x := C30) (y := C25) (by kernel_rfl) <| W.WP.reg (c := C30) (fun E w => KE_S17 E w R) (by kernel_rfl) (Eq.mp (by kernel_rfl) h5) fun _ _ a hA hK => (KE_S17_ok R _ _ hK) a hA) (ha.cons hq0 (ha.cons hq1 (ha.cons hq12 (ha.cons hq15 (ha.cons hq16 ha.nil)))))
noncomputable def C31 : Code := W.Code.fst C19
noncomputable def C32 : Code := W.Code.snd C20
/-- law.go:137 -/
abbrev S14 (l0 : W.Sl) (n1 : Int) (t12 : W.Sl) (r15 q16 : Option Addr) (w : World) (R : W.Post) : Prop :=
  W.sel r15.isNone (S15  w R) (W.sel q16.isNone (S15  w R) (S16 l0 n1 t12 r15 q16 w R))
def KE_S14 (E : W.Env) (w : World) (R : W.Post) : Prop := W.asSlice (W.Env.get? E 0) fun l0 => W.asInt .u64 (W.Env.get? E 1) fun n1 => W.asSlice (W.Env.get? E 12) fun t12 => W.asPtr (W.Env.get? E 15) fun r15 => W.asPtr (W.Env.get? E 16) fun q16 => S14 l0 n1 t12 r15 q16 w R
theorem KE_S14_ok (R : W.Post) (E : W.Env) (w : World) (h : KE_S14 E w R) : W.WP Try.prog (W.cx 120) C19 (Q1 R) E w := by
  obtain ⟨l0, hq0, h1⟩ := W.asSlice_elim h
  obtain ⟨n1, hq1, h2⟩ := W.asInt_elim h1
  obtain ⟨t12, hq12, h3⟩ := W.asSlice_elim h2
  obtain ⟨r15, hq15, h4⟩ := W.asPtr_elim h3
  obtain ⟨q16, hq16, h5⟩ := W.asPtr_elim h4
  exact fun a ha => W.WP.at (n := (W.cx 120)) (E := [(0, l0.v), (1, .int .u64 n1), (12, t12.v), (15, .pointer r15), (16, .pointer q16)]) (W.WP.seq (c := C19) (x := C31) (y := C20) (by kernel_rfl) <| W.WP.reg (c := C31) (fun E w => W.condK (W.Env.val E (.tmp 84)) (KE_S15 E w R) (KE_S16 E w R)) (by kernel_rfl) (Eq.mp (by kernel_rfl) h5) fun _ _ a hA hK => (W.WP.condK (c := C20) (x := C21) (y := C32) (o := .tmp 84) (by kernel_rfl) (fun hK => (KE_S15_ok R _ _ hK)) (fun hK => (W.WP.skip (c := C32) (by kernel_rfl) fun a hA => (KE_S16_ok R _ _ hK) a hA)) hK) a hA) (ha.cons hq0 (ha.cons hq1 (ha.cons hq12 (ha.cons hq15 (ha.cons hq16 ha.nil)))))
noncomputable def C33 : Code := W.Code.fst C17
/-- law.go:136 -/
abbrev S13 (l0 : W.Sl) (n1 : Int) (t12 : W.Sl) (r15 : Option Addr) (w : World) (R : W.Post) : Prop :=
  (0 : Int) ≤ 1 ∧ 1 < ((t12.n : Nat) : Int) ∧ W.optP t12.a fun t74_p => ∃ t76 : ByteArray, w.cell? ((t74_p.add (Int.toNat 1 * 3)).add 1) = some (.string t76) ∧ 
  ∃ (t77 : W.Sl) (w1 : World), Sem.run Try.prog (Go.convert ty_string ty_sl_uint8 (.string t76)) w = .ok (t77.v) w1 ∧ Calls Try.prog n_wire_Read #[t77.v] w1 fun r_ w2 => ∃ t78 : Option Addr, r_ = .returned (.pointer t78) ∧ 
  S14 l0 n1 t12 r15 t78 w2 R
def KE_S13 (E : W.Env) (w : World) (R : W.Post) : Prop := W.asSlice (W.Env.get? E 0) fun l0 => W.asInt .u64 (W.Env.get? E 1) fun n1 => W.asSlice (W.Env.get? E 12) fun t12 => W.asPtr (W.Env.get? E 15) fun r15 => S13 l0 n1 t12 r15 w R
theorem KE_S13_ok (R : W.Post) (E : W.Env) (w : World) (h : KE_S13 E w R) : W.WP Try.prog (W.cx 120) C17 (Q2 R) E w := by
  obtain ⟨l0, hq0, h1⟩ := W.asSlice_elim h
  obtain ⟨n1, hq1, h2⟩ := W.asInt_elim h1
  obtain ⟨t12, hq12, h3⟩ := W.asSlice_elim h2
  obtain ⟨r15, hq15, h4⟩ := W.asPtr_elim h3
  exact fun a ha => W.WP.at (n := (W.cx 120)) (E := [(0, l0.v), (1, .int .u64 n1), (12, t12.v), (15, .pointer r15)]) (W.WP.seq (c := C17) (x := C33) (y := C18) (by kernel_rfl) <| W.WP.reg (c := C33) (fun E w => KE_S14 E w R) (by kernel_rfl) (Eq.mp (by kernel_rfl) h4) fun _ _ a hA hK => (W.WP.seq (c := C18) (x := C19) (y := C22) (by kernel_rfl) (KE_S14_ok R _ _ hK)) a hA) (ha.cons hq0 (ha.cons hq1 (ha.cons hq12 (ha.cons hq15 ha.nil))))
noncomputable def C34 : Code := W.Code.fst C14
/-- law.go:135 -/
abbrev S12 (l0 : W.Sl) (n1 : Int) (t12 : W.Sl) (w : World) (R : W.Post) : Prop :=
  (0 : Int) ≤ 0 ∧ 0 < ((t12.n : Nat) : Int) ∧ W.optP t12.a fun t68_p => ∃ t70 : ByteArray, w.cell? ((t68_p.add (Int.toNat 0 * 3)).add 1) = some (.string t70) ∧ 
  ∃ (t71 : W.Sl) (w1 : World), Sem.run Try.prog (Go.convert ty_string ty_sl_uint8 (.string t70)) w = .ok (t71.v) w1 ∧ Calls Try.prog n_wire_Read #[t71.v] w1 fun r_ w2 => ∃ t72 : Option Addr, r_ = .returned (.pointer t72) ∧ 
  S13 l0 n1 t12 t72 w2 R
def KE_S12 (E : W.Env) (w : World) (R : W.Post) : Prop := W.asSlice (W.Env.get? E 0) fun l0 => W.asInt .u64 (W.Env.get? E 1) fun n1 => W.asSlice (W.Env.get? E 12) fun t12 => S12 l0 n1 t12 w R
theorem KE_S12_ok (R : W.Post) (E : W.Env) (w : World) (h : KE_S12 E w R) : W.WP Try.prog (W.cx 120) C14 (Q2 R) E w := by
  obtain ⟨l0, hq0, h1⟩ := W.asSlice_elim h
  obtain ⟨n1, hq1, h2⟩ := W.asInt_elim h1
  obtain ⟨t12, hq12, h3⟩ := W.asSlice_elim h2
  exact fun a ha => W.WP.at (n := (W.cx 120)) (E := [(0, l0.v), (1, .int .u64 n1), (12, t12.v)]) (W.WP.seq (c := C14) (x := C34) (y := C17) (by kernel_rfl) <| W.WP.reg (c := C34) (fun E w => KE_S13 E w R) (by kernel_rfl) (Eq.mp (by kernel_rfl) h3) fun _ _ a hA hK => (KE_S13_ok R _ _ hK) a hA) (ha.cons hq0 (ha.cons hq1 (ha.cons hq12 ha.nil)))
noncomputable def C35 : Code := W.Code.fst C11
noncomputable def C36 : Code := W.Code.snd C12
/-- law.go:132 -/
abbrev S10 (l0 : W.Sl) (n1 e8 f11 : Int) (t12 : W.Sl) (g14 : Int) (w : World) (R : W.Post) : Prop :=
  W.sel (e8 != 0) (S11  w R) (W.sel (f11 != 0) (S11  w R) (W.sel (g14 != 0) (S11  w R) (W.sel (((t12.n : Nat) : Int) != 3) (S11  w R) (S12 l0 n1 t12 w R))))
def KE_S10 (E : W.Env) (w : World) (R : W.Post) : Prop := W.asSlice (W.Env.get? E 0) fun l0 => W.asInt .u64 (W.Env.get? E 1) fun n1 => W.asInt .i64 (W.Env.get? E 8) fun e8 => W.asInt .i64 (W.Env.get? E 11) fun f11 => W.asSlice (W.Env.get? E 12) fun t12 => W.asInt .i64 (W.Env.get? E 14) fun g14 => S10 l0 n1 e8 f11 t12 g14 w R
theorem KE_S10_ok (R : W.Post) (E : W.Env) (w : World) (h : KE_S10 E w R) : W.WP Try.prog (W.cx 120) C11 (Q0 R) E w := by
  obtain ⟨l0, hq0, h1⟩ := W.asSlice_elim h
  obtain ⟨n1, hq1, h2⟩ := W.asInt_elim h1
  obtain ⟨e8, hq8, h3⟩ := W.asInt_elim h2
  obtain ⟨f11, hq11, h4⟩ := W.asInt_elim h3
  obtain ⟨t12, hq12, h5⟩ := W.asSlice_elim h4
  obtain ⟨g14, hq14, h6⟩ := W.asInt_elim h5
  exact fun a ha => W.WP.at (n := (W.cx 120)) (E := [(0, l0.v), (1, .int .u64 n1), (8, .int .i64 e8), (11, .int .i64 f11), (12, t12.v), (14, .int .i64 g14)]) (W.WP.seq (c := C11) (x := C35) (y := C12) (by kernel_rfl) <| W.WP.reg (c := C35) (fun E w => W.condK (W.Env.val E (.tmp 66)) (KE_S11 E w R) (KE_S12 E w R)) (by kernel_rfl) (Eq.mp (by kernel_rfl) h6) fun _ _ a hA hK => (W.WP.condK (c := C12) (x := C13) (y := C36) (o := .tmp 66) (by kernel_rfl) (fun hK => (KE_S11_ok R _ _ hK)) (fun hK => (W.WP.skip (c := C36) (by kernel_rfl) fun a hA => (KE_S12_ok R _ _ hK) a hA)) hK) a hA) (ha.cons hq0 (ha.cons hq1 (ha.cons hq8 (ha.cons hq11 (ha.cons hq12 (ha.cons hq14 ha.nil))))))
noncomputable def C37 : Code := W.Code.fst C9
/-- law.go:131 -/
abbrev S9 (l0 : W.Sl) (n1 : Int) (x7 : ByteArray) (e8 : Int) (y10 : ByteArray) (f11 : Int) (w : World) (R : W.Post) : Prop :=
  ¬ (((x7.size + (ByteArray.mk #[32]).size : Nat) : Int) > IntKind.i64.max) ∧ ¬ ((((x7 ++ (ByteArray.mk #[32])).size + y10.size : Nat) : Int) > IntKind.i64.max) ∧ Calls Try.prog n_lexer_Tokens #[.string ((x7 ++ (ByteArray.mk #[32])) ++ y10)] w fun r_ w1 => ∃ t48_0 : W.Sl, ∃ t48_1 : Int, ∃ t48_2 : Int, r_ = .returned (.tuple #[t48_0.v, .int .i64 t48_1, .int .i64 t48_2]) ∧ 
  S10 l0 n1 e8 f11 t48_0 t48_2 w1 R
def KE_S9 (E : W.Env) (w : World) (R : W.Post) : Prop := W.asSlice (W.Env.get? E 0) fun l0 => W.asInt .u64 (W.Env.get? E 1) fun n1 => W.asStr (W.Env.get? E 7) fun x7 => W.asInt .i64 (W.Env.get? E 8) fun e8 => W.asStr (W.Env.get? E 10) fun y10 => W.asInt .i64 (W.Env.get? E 11) fun f11 => S9 l0 n1 x7 e8 y10 f11 w R
theorem KE_S9_ok (R : W.Post) (E : W.Env) (w : World) (h : KE_S9 E w R) : W.WP Try.prog (W.cx 120) C9 (Q2 R) E w := by
  obtain ⟨l0, hq0, h1⟩ := W.asSlice_elim h
  obtain ⟨n1, hq1, h2⟩ := W.asInt_elim h1
  obtain ⟨x7, hq7, h3⟩ := W.asStr_elim h2
  obtain ⟨e8, hq8, h4⟩ := W.asInt_elim h3
  obtain ⟨y10, hq10, h5⟩ := W.asStr_elim h4
  obtain ⟨f11, hq11, h6⟩ := W.asInt_elim h5
  exact fun a ha => W.WP.at (n := (W.cx 120)) (E := [(0, l0.v), (1, .int .u64 n1), (7, .string x7), (8, .int .i64 e8), (10, .string y10), (11, .int .i64 f11)]) (W.WP.seq (c := C9) (x := C37) (y := C10) (by kernel_rfl) <| W.WP.reg (c := C37) (fun E w => KE_S10 E w R) (by kernel_rfl) (Eq.mp (by kernel_rfl) h6) fun _ _ a hA hK => (W.WP.seq (c := C10) (x := C11) (y := C14) (by kernel_rfl) (KE_S10_ok R _ _ hK)) a hA) (ha.cons hq0 (ha.cons hq1 (ha.cons hq7 (ha.cons hq8 (ha.cons hq10 (ha.cons hq11 ha.nil))))))
noncomputable def C38 : Code := W.Code.fst C8
/-- law.go:130 -/
abbrev S8 (l0 : W.Sl) (n1 : Int) (x7 : ByteArray) (e8 : Int) (v9 : Addr) (w : World) (R : W.Post) : Prop :=
  Calls Try.prog n_wire_Writer_Done #[.pointer (some v9)] w fun r_ w1 => ∃ t38 : W.Sl, r_ = .returned (t38.v) ∧ 
  ∃ t39 : ByteArray, Sem.run Try.prog (Go.convert ty_sl_uint8 ty_string (t38.v)) w1 = .ok (.string t39) w1 ∧ Calls Try.prog n_lexer_Quote #[.string t39] w1 fun r_ w2 => ∃ t40_0 : ByteArray, ∃ t40_1 : Int, r_ = .returned (.tuple #[.string t40_0, .int .i64 t40_1]) ∧ 
  S9 l0 n1 x7 e8 t40_0 t40_1 w2 R
def KE_S8 (E : W.Env) (w : World) (R : W.Post) : Prop := W.asSlice (W.Env.get? E 0) fun l0 => W.asInt .u64 (W.Env.get? E 1) fun n1 => W.asStr (W.Env.get? E 7) fun x7 => W.asInt .i64 (W.Env.get? E 8) fun e8 => W.asRef (W.Env.get? E 9) fun v9 => S8 l0 n1 x7 e8 v9 w R
theorem KE_S8_ok (R : W.Post) (E : W.Env) (w : World) (h : KE_S8 E w R) : W.WP Try.prog (W.cx 120) C8 (Q2 R) E w := by
  obtain ⟨l0, hq0, h1⟩ := W.asSlice_elim h
  obtain ⟨n1, hq1, h2⟩ := W.asInt_elim h1
  obtain ⟨x7, hq7, h3⟩ := W.asStr_elim h2
  obtain ⟨e8, hq8, h4⟩ := W.asInt_elim h3
  obtain ⟨v9, hq9, h5⟩ := W.asRef_elim h4
  exact fun a ha => W.WP.at (n := (W.cx 120)) (E := [(0, l0.v), (1, .int .u64 n1), (7, .string x7), (8, .int .i64 e8), (9, .pointer (some v9))]) (W.WP.seq (c := C8) (x := C38) (y := C9) (by kernel_rfl) <| W.WP.reg (c := C38) (fun E w => KE_S9 E w R) (by kernel_rfl) (Eq.mp (by kernel_rfl) h5) fun _ _ a hA hK => (KE_S9_ok R _ _ hK) a hA) (ha.cons hq0 (ha.cons hq1 (ha.cons hq7 (ha.cons hq8 (ha.cons hq9 ha.nil)))))
noncomputable def C39 : Code := W.Code.fst C7
/-- law.go:129 -/
abbrev S7 (l0 : W.Sl) (n1 : Int) (b6 : W.Sl) (x7 : ByteArray) (e8 : Int) (v9 : Addr) (w : World) (R : W.Post) : Prop :=
  Calls Try.prog n_hash_Bytes #[.string (ByteArray.mk #[116, 101, 120, 116]), b6.v] w fun r_ w1 => ∃ t35 : Int, r_ = .returned (.int .u64 t35) ∧ 
  Calls Try.prog n_wire_Writer_Uint #[.pointer (some v9), .int .u64 t35] w1 fun r_ w2 => r_ = .returned (.tuple #[]) ∧ 
  S8 l0 n1 x7 e8 v9 w2 R
def KE_S7 (E : W.Env) (w : World) (R : W.Post) : Prop := W.asSlice (W.Env.get? E 0) fun l0 => W.asInt .u64 (W.Env.get? E 1) fun n1 => W.asSlice (W.Env.get? E 6) fun b6 => W.asStr (W.Env.get? E 7) fun x7 => W.asInt .i64 (W.Env.get? E 8) fun e8 => W.asRef (W.Env.get? E 9) fun v9 => S7 l0 n1 b6 x7 e8 v9 w R
theorem KE_S7_ok (R : W.Post) (E : W.Env) (w : World) (h : KE_S7 E w R) : W.WP Try.prog (W.cx 120) C7 (Q2 R) E w := by
  obtain ⟨l0, hq0, h1⟩ := W.asSlice_elim h
  obtain ⟨n1, hq1, h2⟩ := W.asInt_elim h1
  obtain ⟨b6, hq6, h3⟩ := W.asSlice_elim h2
  obtain ⟨x7, hq7, h4⟩ := W.asStr_elim h3
  obtain ⟨e8, hq8, h5⟩ := W.asInt_elim h4
  obtain ⟨v9, hq9, h6⟩ := W.asRef_elim h5
  exact fun a ha => W.WP.at (n := (W.cx 120)) (E := [(0, l0.v), (1, .int .u64 n1), (6, b6.v), (7, .string x7), (8, .int .i64 e8), (9, .pointer (some v9))]) (W.WP.seq (c := C7) (x := C39) (y := C8) (by kernel_rfl) <| W.WP.reg (c := C39) (fun E w => KE_S8 E w R) (by kernel_rfl) (Eq.mp (by kernel_rfl) h6) fun _ _ a hA hK => (KE_S8_ok R _ _ hK) a hA) (ha.cons hq0 (ha.cons hq1 (ha.cons hq6 (ha.cons hq7 (ha.cons hq8 (ha.cons hq9 ha.nil))))))
noncomputable def C40 : Code := W.Code.fst C6
/-- law.go:128 -/
abbrev S6 (l0 : W.Sl) (n1 : Int) (b6 : W.Sl) (x7 : ByteArray) (e8 : Int) (w : World) (R : W.Post) : Prop :=
  W.nwV w (.cells #[.slice none 0 0] ty_wire_Writer) fun w1 => 
  S7 l0 n1 b6 x7 e8 (Addr.mk w.heap.size 0 none) w1 R
def KE_S6 (E : W.Env) (w : World) (R : W.Post) : Prop := W.asSlice (W.Env.get? E 0) fun l0 => W.asInt .u64 (W.Env.get? E 1) fun n1 => W.asSlice (W.Env.get? E 6) fun b6 => W.asStr (W.Env.get? E 7) fun x7 => W.asInt .i64 (W.Env.get? E 8) fun e8 => S6 l0 n1 b6 x7 e8 w R
theorem KE_S6_ok (R : W.Post) (E : W.Env) (w : World) (h : KE_S6 E w R) : W.WP Try.prog (W.cx 120) C6 (Q2 R) E w := by
  obtain ⟨l0, hq0, h1⟩ := W.asSlice_elim h
  obtain ⟨n1, hq1, h2⟩ := W.asInt_elim h1
  obtain ⟨b6, hq6, h3⟩ := W.asSlice_elim h2
  obtain ⟨x7, hq7, h4⟩ := W.asStr_elim h3
  obtain ⟨e8, hq8, h5⟩ := W.asInt_elim h4
  exact fun a ha => W.WP.at (n := (W.cx 120)) (E := [(0, l0.v), (1, .int .u64 n1), (6, b6.v), (7, .string x7), (8, .int .i64 e8)]) (W.WP.seq (c := C6) (x := C40) (y := C7) (by kernel_rfl) <| W.WP.reg (c := C40) (fun E w => KE_S7 E w R) (by kernel_rfl) (Eq.mp (by kernel_rfl) h5) fun _ _ a hA hK => (KE_S7_ok R _ _ hK) a hA) (ha.cons hq0 (ha.cons hq1 (ha.cons hq6 (ha.cons hq7 (ha.cons hq8 ha.nil)))))
noncomputable def C41 : Code := W.Code.fst C5
/-- law.go:127 -/
abbrev S5 (l0 : W.Sl) (n1 : Int) (b6 : W.Sl) (w : World) (R : W.Post) : Prop :=
  ∃ t30 : ByteArray, Sem.run Try.prog (Go.convert ty_sl_uint8 ty_string (b6.v)) w = .ok (.string t30) w ∧ Calls Try.prog n_lexer_Quote #[.string t30] w fun r_ w1 => ∃ t31_0 : ByteArray, ∃ t31_1 : Int, r_ = .returned (.tuple #[.string t31_0, .int .i64 t31_1]) ∧ 
  S6 l0 n1 b6 t31_0 t31_1 w1 R
def KE_S5 (E : W.Env) (w : World) (R : W.Post) : Prop := W.asSlice (W.Env.get? E 0) fun l0 => W.asInt .u64 (W.Env.get? E 1) fun n1 => W.asSlice (W.Env.get? E 6) fun b6 => S5 l0 n1 b6 w R
theorem KE_S5_ok (R : W.Post) (E : W.Env) (w : World) (h : KE_S5 E w R) : W.WP Try.prog (W.cx 120) C5 (Q2 R) E w := by
  obtain ⟨l0, hq0, h1⟩ := W.asSlice_elim h
  obtain ⟨n1, hq1, h2⟩ := W.asInt_elim h1
  obtain ⟨b6, hq6, h3⟩ := W.asSlice_elim h2
  exact fun a ha => W.WP.at (n := (W.cx 120)) (E := [(0, l0.v), (1, .int .u64 n1), (6, b6.v)]) (W.WP.seq (c := C5) (x := C41) (y := C6) (by kernel_rfl) <| W.WP.reg (c := C41) (fun E w => KE_S6 E w R) (by kernel_rfl) (Eq.mp (by kernel_rfl) h3) fun _ _ a hA hK => (KE_S6_ok R _ _ hK) a hA) (ha.cons hq0 (ha.cons hq1 (ha.cons hq6 ha.nil)))
noncomputable def C42 : Code := W.Code.fst C4
/-- law.go:126 -/
abbrev S4 (l0 : W.Sl) (n1 : Int) (wv5 : Addr) (w : World) (R : W.Post) : Prop :=
  Calls Try.prog n_wire_Writer_Done #[.pointer (some wv5)] w fun r_ w1 => ∃ t27 : W.Sl, r_ = .returned (t27.v) ∧ 
  S5 l0 n1 t27 w1 R
def KE_S4 (E : W.Env) (w : World) (R : W.Post) : Prop := W.asSlice (W.Env.get? E 0) fun l0 => W.asInt .u64 (W.Env.get? E 1) fun n1 => W.asRef (W.Env.get? E 5) fun wv5 => S4 l0 n1 wv5 w R
theorem KE_S4_ok (R : W.Post) (E : W.Env) (w : World) (h : KE_S4 E w R) : W.WP Try.prog (W.cx 120) C4 (Q2 R) E w := by
  obtain ⟨l0, hq0, h1⟩ := W.asSlice_elim h
  obtain ⟨n1, hq1, h2⟩ := W.asInt_elim h1
  obtain ⟨wv5, hq5, h3⟩ := W.asRef_elim h2
  exact fun a ha => W.WP.at (n := (W.cx 120)) (E := [(0, l0.v), (1, .int .u64 n1), (5, .pointer (some wv5))]) (W.WP.seq (c := C4) (x := C42) (y := C5) (by kernel_rfl) <| W.WP.reg (c := C42) (fun E w => KE_S5 E w R) (by kernel_rfl) (Eq.mp (by kernel_rfl) h3) fun _ _ a hA hK => (KE_S5_ok R _ _ hK) a hA) (ha.cons hq0 (ha.cons hq1 (ha.cons hq5 ha.nil)))
noncomputable def C43 : Code := W.Code.fst C3
/-- law.go:125 -/
abbrev S3 (l0 : W.Sl) (n1 : Int) (wv5 : Addr) (w : World) (R : W.Post) : Prop :=
  Calls Try.prog n_wire_Writer_Uint #[.pointer (some wv5), .int .u64 n1] w fun r_ w1 => r_ = .returned (.tuple #[]) ∧ 
  S4 l0 n1 wv5 w1 R
def KE_S3 (E : W.Env) (w : World) (R : W.Post) : Prop := W.asSlice (W.Env.get? E 0) fun l0 => W.asInt .u64 (W.Env.get? E 1) fun n1 => W.asRef (W.Env.get? E 5) fun wv5 => S3 l0 n1 wv5 w R
theorem KE_S3_ok (R : W.Post) (E : W.Env) (w : World) (h : KE_S3 E w R) : W.WP Try.prog (W.cx 120) C3 (Q2 R) E w := by
  obtain ⟨l0, hq0, h1⟩ := W.asSlice_elim h
  obtain ⟨n1, hq1, h2⟩ := W.asInt_elim h1
  obtain ⟨wv5, hq5, h3⟩ := W.asRef_elim h2
  exact fun a ha => W.WP.at (n := (W.cx 120)) (E := [(0, l0.v), (1, .int .u64 n1), (5, .pointer (some wv5))]) (W.WP.seq (c := C3) (x := C43) (y := C4) (by kernel_rfl) <| W.WP.reg (c := C43) (fun E w => KE_S4 E w R) (by kernel_rfl) (Eq.mp (by kernel_rfl) h3) fun _ _ a hA hK => (KE_S4_ok R _ _ hK) a hA) (ha.cons hq0 (ha.cons hq1 (ha.cons hq5 ha.nil)))
noncomputable def C44 : Code := W.Code.fst C2
/-- law.go:124 -/
abbrev S2 (l0 : W.Sl) (n1 : Int) (wv5 : Addr) (w : World) (R : W.Post) : Prop :=
  (0 : Int) ≤ (if 40 < ((l0.n : Nat) : Int) then 40 else ((l0.n : Nat) : Int)) ∧ (if 40 < ((l0.n : Nat) : Int) then 40 else ((l0.n : Nat) : Int)) ≤ ((l0.c : Nat) : Int) ∧ Calls Try.prog n_wire_Writer_Ints #[.pointer (some wv5), .slice (if l0.c = 0 then l0.a else l0.a.map (·.add (0 * 1))) ((Int.toNat (if 40 < ((l0.n : Nat) : Int) then 40 else ((l0.n : Nat) : Int))) - 0) (l0.c - 0)] w fun r_ w1 => r_ = .returned (.tuple #[]) ∧ 
  S3 l0 n1 wv5 w1 R
def KE_S2 (E : W.Env) (w : World) (R : W.Post) : Prop := W.asSlice (W.Env.get? E 0) fun l0 => W.asInt .u64 (W.Env.get? E 1) fun n1 => W.asRef (W.Env.get? E 5) fun wv5 => S2 l0 n1 wv5 w R
theorem KE_S2_ok (R : W.Post) (E : W.Env) (w : World) (h : KE_S2 E w R) : W.WP Try.prog (W.cx 120) C2 (Q2 R) E w := by
  obtain ⟨l0, hq0, h1⟩ := W.asSlice_elim h
  obtain ⟨n1, hq1, h2⟩ := W.asInt_elim h1
  obtain ⟨wv5, hq5, h3⟩ := W.asRef_elim h2
  exact fun a ha => W.WP.at (n := (W.cx 120)) (E := [(0, l0.v), (1, .int .u64 n1), (5, .pointer (some wv5))]) (W.WP.seq (c := C2) (x := C44) (y := C3) (by kernel_rfl) <| W.WP.reg (c := C44) (fun E w => KE_S3 E w R) (by kernel_rfl) (Eq.mp (by kernel_rfl) h3) fun _ _ a hA hK => (KE_S3_ok R _ _ hK) a hA) (ha.cons hq0 (ha.cons hq1 (ha.cons hq5 ha.nil)))
noncomputable def C45 : Code := W.Code.fst C1
/-- law.go:123 -/
abbrev S1 (l0 : W.Sl) (n1 : Int) (w : World) (R : W.Post) : Prop :=
  W.nwV w (.cells #[.slice none 0 0] ty_wire_Writer) fun w1 => 
  S2 l0 n1 (Addr.mk w.heap.size 0 none) w1 R
def KE_S1 (E : W.Env) (w : World) (R : W.Post) : Prop := W.asSlice (W.Env.get? E 0) fun l0 => W.asInt .u64 (W.Env.get? E 1) fun n1 => S1 l0 n1 w R
theorem KE_S1_ok (R : W.Post) (E : W.Env) (w : World) (h : KE_S1 E w R) : W.WP Try.prog (W.cx 120) C1 (Q2 R) E w := by
  obtain ⟨l0, hq0, h1⟩ := W.asSlice_elim h
  obtain ⟨n1, hq1, h2⟩ := W.asInt_elim h1
  exact fun a ha => W.WP.at (n := (W.cx 120)) (E := [(0, l0.v), (1, .int .u64 n1)]) (W.WP.seq (c := C1) (x := C45) (y := C2) (by kernel_rfl) <| W.WP.reg (c := C45) (fun E w => KE_S2 E w R) (by kernel_rfl) (Eq.mp (by kernel_rfl) h2) fun _ _ a hA hK => (KE_S2_ok R _ _ hK) a hA) (ha.cons hq0 (ha.cons hq1 ha.nil))
noncomputable def C46 : Code := W.Code.fst C0
/-- law.go:122 -/
abbrev S0 (l0 : W.Sl) (n1 : Int) (w : World) (R : W.Post) : Prop :=
  S1 l0 n1 w R
def KE_S0 (E : W.Env) (w : World) (R : W.Post) : Prop := W.asSlice (W.Env.get? E 0) fun l0 => W.asInt .u64 (W.Env.get? E 1) fun n1 => S0 l0 n1 w R
theorem KE_S0_ok (R : W.Post) (E : W.Env) (w : World) (h : KE_S0 E w R) : W.WP Try.prog (W.cx 120) C0 (Q2 R) E w := by
  obtain ⟨l0, hq0, h1⟩ := W.asSlice_elim h
  obtain ⟨n1, hq1, h2⟩ := W.asInt_elim h1
  exact fun a ha => W.WP.at (n := (W.cx 120)) (E := [(0, l0.v), (1, .int .u64 n1)]) (W.WP.seq (c := C0) (x := C46) (y := C1) (by kernel_rfl) <| W.WP.reg (c := C46) (fun E w => KE_S1 E w R) (by kernel_rfl) (Eq.mp (by kernel_rfl) h2) fun _ _ a hA hK => (KE_S1_ok R _ _ hK) a hA) (ha.cons hq0 (ha.cons hq1 ha.nil))
/-- enthymeme/enthymemelaw09.LexerBytes -/
theorem ok (l0 : W.Sl) (n1 : Int) (w : World) (R : W.Post) (h : S0 l0 n1 w R) : Calls Try.prog n_enthymemelaw09_LexerBytes #[l0.v, .int .u64 n1] w R :=
  W.calls_of_WP' (fn := Try.f8) (c := C0) (args := [l0.v, .int .u64 n1]) (by kernel_rfl) (by kernel_rfl) (by kernel_rfl) (KE_S0_ok R _ _ (Eq.mp (by kernel_rfl) h))
end enthymemelaw09_LexerBytes
end Go.Proofs.Ytemagdpieebjlaa

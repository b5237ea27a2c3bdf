/- Printed by a program of ours (vcgen.py) from the dump: the conditions of the functions, and that they suffice. -/
import Derived.Test.YtjmnpdacalbpkaaV
set_option linter.unusedVariables false
set_option maxRecDepth 100000
namespace Go.Proofs.Ytjmnpdacalbpkaa
open Go
namespace enthymemelaw02_WireReads
noncomputable def C0 : Code := (Try.f6.body).getD .skip
noncomputable def C1 : Code := W.Code.snd C0
noncomputable def C2 : Code := W.Code.snd C1
noncomputable def C3 : Code := W.Code.snd C2
noncomputable def C4 : Code := W.Code.snd C3
noncomputable def C5 : Code := W.Code.fst C4
noncomputable def C6 : Code := W.Code.snd C5
noncomputable def C7 : Code := W.Code.fst C6
noncomputable def C8 : Code := W.Code.fst C7
noncomputable def C9 : Code := W.Code.snd C4
abbrev Q0 (R : W.Post) : Exit → Act → World → Prop := (Exit.then (Code.wp Try.prog C9 (bodyPost Try.prog Try.f6 R)) (bodyPost Try.prog Try.f6 R))
abbrev Q1 (R : W.Post) : Exit → Act → World → Prop := (Exit.inBlock 0 (Q0 R))
/-- the head of the loop, law.go:100 -/
def L6 (kinds4 all12 : W.Sl) (i13 : Int) (w : World) (R : W.Post) : Prop := W.LP Try.prog 83 C8 (Q1 R) [(4, kinds4.v), (12, all12.v), (13, .int .i64 i13)] w
def KE_L6 (E : W.Env) (w : World) (R : W.Post) : Prop := W.asSlice (W.Env.get? E 4) fun kinds4 => W.asSlice (W.Env.get? E 12) fun all12 => W.asInt .i64 (W.Env.get? E 13) fun i13 => L6 kinds4 all12 i13 w R
theorem KE_L6_ok (R : W.Post) (E : W.Env) (w : World) (h : KE_L6 E w R) : W.LP Try.prog 83 C8 (Q1 R) E w := by
  obtain ⟨kinds4, hq4, h1⟩ := W.asSlice_elim h
  obtain ⟨all12, hq12, h2⟩ := W.asSlice_elim h1
  obtain ⟨i13, hq13, h3⟩ := W.asInt_elim h2
  intro a ha
  exact h3 a (ha.cons hq4 (ha.cons hq12 (ha.cons hq13 ha.nil)))
noncomputable def C10 : Code := W.Code.snd C8
noncomputable def C11 : Code := W.Code.fst C10
noncomputable def C12 : Code := W.Code.fst C11
noncomputable def C13 : Code := W.Code.snd C12
noncomputable def C14 : Code := W.Code.snd C13
noncomputable def C15 : Code := W.Code.fst C14
noncomputable def C16 : Code := W.Code.snd C15
noncomputable def C17 : Code := W.Code.fst C16
noncomputable def C18 : Code := W.Code.snd C10
abbrev Q2 (R : W.Post) : Exit → Act → World → Prop := (Exit.then (Code.wp Try.prog C18 (Exit.then (W.LoopWP Try.prog C8 (Q1 R)) (Q1 R))) (Exit.then (W.LoopWP Try.prog C8 (Q1 R)) (Q1 R)))
noncomputable def C19 : Code := W.Code.snd C14
abbrev Q3 (R : W.Post) : Exit → Act → World → Prop := (Exit.then (Code.wp Try.prog C19 (Exit.inBlock 1 (Q2 R))) (Exit.inBlock 1 (Q2 R)))
noncomputable def C20 : Code := W.Code.fst C17
noncomputable def C21 : Code := W.Code.snd C17
/-- law.go:104 -/
abbrev S11  (w : World) (R : W.Post) : Prop :=
  R (.returned (.bool false)) w
def KE_S11 (E : W.Env) (w : World) (R : W.Post) : Prop := S11  w R
theorem KE_S11_ok (R : W.Post) (E : W.Env) (w : World) (h : KE_S11 E w R) : W.WP Try.prog 83 C17 (Q3 R) E w := by
  exact fun a ha => W.WP.at (E := []) (W.WP.seq (c := C17) (x := C20) (y := C21) (by kernel_rfl) <| W.WP.reg (c := C20) (fun E w => W.retVC Try.prog Try.f6 E w (fun v => R (.returned v) w)) (by kernel_rfl) (Eq.mp (by kernel_rfl) h) fun _ _ a hA hK => (W.WP.ret (c := C21) (by kernel_rfl) fun a hA => W.retVC_sound hA hK) a hA) ha.nil
noncomputable def C22 : Code := W.Code.snd C19
noncomputable def C23 : Code := W.Code.fst C22
noncomputable def C24 : Code := W.Code.fst C23
abbrev Q4 (R : W.Post) : Exit → Act → World → Prop := (Exit.inBlock 1 (Q2 R))
abbrev Q5 (R : W.Post) : Exit → Act → World → Prop := (Exit.inBlock 2 (Q4 R))
/-- the head of the loop, law.go:106 -/
def L13 (kinds4 all12 : W.Sl) (i13 : Int) (r14 : Option Addr) (want15 : Addr) (k16 : Int) (w : World) (R : W.Post) : Prop := W.LP Try.prog 83 C24 (Q5 R) [(4, kinds4.v), (12, all12.v), (13, .int .i64 i13), (14, .pointer r14), (15, .pointer (some want15)), (16, .int .i64 k16)] w
def KE_L13 (E : W.Env) (w : World) (R : W.Post) : Prop := W.asSlice (W.Env.get? E 4) fun kinds4 => W.asSlice (W.Env.get? E 12) fun all12 => W.asInt .i64 (W.Env.get? E 13) fun i13 => W.asPtr (W.Env.get? E 14) fun r14 => W.asRef (W.Env.get? E 15) fun want15 => W.asInt .i64 (W.Env.get? E 16) fun k16 => L13 kinds4 all12 i13 r14 want15 k16 w R
theorem KE_L13_ok (R : W.Post) (E : W.Env) (w : World) (h : KE_L13 E w R) : W.LP Try.prog 83 C24 (Q5 R) E w := by
  obtain ⟨kinds4, hq4, h1⟩ := W.asSlice_elim h
  obtain ⟨all12, hq12, h2⟩ := W.asSlice_elim h1
  obtain ⟨i13, hq13, h3⟩ := W.asInt_elim h2
  obtain ⟨r14, hq14, h4⟩ := W.asPtr_elim h3
  obtain ⟨want15, hq15, h5⟩ := W.asRef_elim h4
  obtain ⟨k16, hq16, h6⟩ := W.asInt_elim h5
  intro a ha
  exact h6 a (ha.cons hq4 (ha.cons hq12 (ha.cons hq13 (ha.cons hq14 (ha.cons hq15 (ha.cons hq16 ha.nil))))))
noncomputable def C25 : Code := W.Code.snd C24
noncomputable def C26 : Code := W.Code.fst C25
noncomputable def C27 : Code := W.Code.fst C26
noncomputable def C28 : Code := W.Code.snd C27
noncomputable def C29 : Code := W.Code.snd C28
noncomputable def C30 : Code := W.Code.fst C29
noncomputable def C31 : Code := W.Code.snd C25
abbrev Q6 (R : W.Post) : Exit → Act → World → Prop := (Exit.then (Code.wp Try.prog C31 (Exit.then (W.LoopWP Try.prog C24 (Q5 R)) (Q5 R))) (Exit.then (W.LoopWP Try.prog C24 (Q5 R)) (Q5 R)))
abbrev Q7 (R : W.Post) : Exit → Act → World → Prop := (Exit.inBlock 3 (Q6 R))
noncomputable def C32 : Code := W.Code.fst C30
noncomputable def C33 : Code := W.Code.snd C30
/-- law.go:109 -/
abbrev S17  (w : World) (R : W.Post) : Prop :=
  R (.returned (.bool false)) w
def KE_S17 (E : W.Env) (w : World) (R : W.Post) : Prop := S17  w R
theorem KE_S17_ok (R : W.Post) (E : W.Env) (w : World) (h : KE_S17 E w R) : W.WP Try.prog 83 C30 (Q7 R) E w := by
  exact fun a ha => W.WP.at (E := []) (W.WP.seq (c := C30) (x := C32) (y := C33) (by kernel_rfl) <| W.WP.reg (c := C32) (fun E w => W.retVC Try.prog Try.f6 E w (fun v => R (.returned v) w)) (by kernel_rfl) (Eq.mp (by kernel_rfl) h) fun _ _ a hA hK => (W.WP.ret (c := C33) (by kernel_rfl) fun a hA => W.retVC_sound hA hK) a hA) ha.nil
abbrev Q8 (R : W.Post) : Exit → Act → World → Prop := (Exit.then (W.LoopWP Try.prog C24 (Q5 R)) (Q5 R))
/-- law.go:106 -/
abbrev S18 (kinds4 all12 : W.Sl) (i13 : Int) (r14 : Option Addr) (want15 : Addr) (k16 : Int) (w : World) (R : W.Post) : Prop :=
  L13 kinds4 all12 i13 r14 want15 (IntKind.wrap .i64 (k16 + 1)) w R
def KE_S18 (E : W.Env) (w : World) (R : W.Post) : Prop := W.asSlice (W.Env.get? E 4) fun kinds4 => W.asSlice (W.Env.get? E 12) fun all12 => W.asInt .i64 (W.Env.get? E 13) fun i13 => W.asPtr (W.Env.get? E 14) fun r14 => W.asRef (W.Env.get? E 15) fun want15 => W.asInt .i64 (W.Env.get? E 16) fun k16 => S18 kinds4 all12 i13 r14 want15 k16 w R
theorem KE_S18_ok (R : W.Post) (E : W.Env) (w : World) (h : KE_S18 E w R) : W.WP Try.prog 83 C31 (Q8 R) E w := by
  obtain ⟨kinds4, hq4, h1⟩ := W.asSlice_elim h
  obtain ⟨all12, hq12, h2⟩ := W.asSlice_elim h1
  obtain ⟨i13, hq13, h3⟩ := W.asInt_elim h2
  obtain ⟨r14, hq14, h4⟩ := W.asPtr_elim h3
  obtain ⟨want15, hq15, h5⟩ := W.asRef_elim h4
  obtain ⟨k16, hq16, h6⟩ := W.asInt_elim h5
  exact fun a ha => W.WP.at (E := [(4, kinds4.v), (12, all12.v), (13, .int .i64 i13), (14, .pointer r14), (15, .pointer (some want15)), (16, .int .i64 k16)]) (W.WP.reg (c := C31) (fun E w => KE_L13 E w R) (by kernel_rfl) (Eq.mp (by kernel_rfl) h6) fun _ _ a hA hK => KE_L13_ok R _ _ hK a hA) (ha.cons hq4 (ha.cons hq12 (ha.cons hq13 (ha.cons hq14 (ha.cons hq15 (ha.cons hq16 ha.nil))))))
noncomputable def C34 : Code := W.Code.fst C28
noncomputable def C35 : Code := W.Code.snd C29
/-- law.go:108 -/
abbrev S16 (kinds4 all12 : W.Sl) (i13 : Int) (r14 : Option Addr) (want15 : Addr) (k16 kind17 : Int) (w : World) (R : W.Post) : Prop :=
  Calls Try.prog n_enthymemelaw02_read #[.pointer r14, .int .i64 kind17] w fun r_ w1 => ∃ t69_0 : Int, ∃ t69_1 : Int, ∃ t69_2 : Int, ∃ t69_3 : W.Sl, ∃ t69_4 : W.Sl, r_ = .returned (.agg #[.int .i64 t69_0, .int .u64 t69_1, .int .i64 t69_2, t69_3.v, t69_4.v]) ∧ 
  Calls Try.prog n_enthymemeref02_Reader_Read #[.pointer (some want15), .int .i64 kind17] w1 fun r_ w2 => ∃ t72_0 : Int, ∃ t72_1 : Int, ∃ t72_2 : Int, ∃ t72_3 : W.Sl, ∃ t72_4 : W.Sl, r_ = .returned (.agg #[.int .i64 t72_0, .int .u64 t72_1, .int .i64 t72_2, t72_3.v, t72_4.v]) ∧ 
  Calls Try.prog n_enthymemeref02_Same #[.agg #[.int .i64 t69_0, .int .u64 t69_1, .int .i64 t69_2, t69_3.v, t69_4.v], .agg #[.int .i64 t72_0, .int .u64 t72_1, .int .i64 t72_2, t72_3.v, t72_4.v]] w2 fun r_ w3 => ∃ t73 : Bool, r_ = .returned (.bool t73) ∧ 
  W.sel (!t73) (S17  w3 R) (Calls Try.prog n_wire_Reader_End #[.pointer r14] w3 fun r_ w4 => ∃ t77 : Int, r_ = .returned (.int .i64 t77) ∧ 
  Calls Try.prog n_enthymemeref02_Reader_End #[.pointer (some want15)] w4 fun r_ w5 => ∃ t79 : Int, r_ = .returned (.int .i64 t79) ∧ 
  W.sel (t77 != t79) (S17  w5 R) (S18 kinds4 all12 i13 r14 want15 k16 w5 R))
def KE_S16 (E : W.Env) (w : World) (R : W.Post) : Prop := W.asSlice (W.Env.get? E 4) fun kinds4 => W.asSlice (W.Env.get? E 12) fun all12 => W.asInt .i64 (W.Env.get? E 13) fun i13 => W.asPtr (W.Env.get? E 14) fun r14 => W.asRef (W.Env.get? E 15) fun want15 => W.asInt .i64 (W.Env.get? E 16) fun k16 => W.asInt .i64 (W.Env.get? E 17) fun kind17 => S16 kinds4 all12 i13 r14 want15 k16 kind17 w R
theorem KE_S16_ok (R : W.Post) (E : W.Env) (w : World) (h : KE_S16 E w R) : W.WP Try.prog 83 C28 (Q7 R) E w := by
  obtain ⟨kinds4, hq4, h1⟩ := W.asSlice_elim h
  obtain ⟨all12, hq12, h2⟩ := W.asSlice_elim h1
  obtain ⟨i13, hq13, h3⟩ := W.asInt_elim h2
  obtain ⟨r14, hq14, h4⟩ := W.asPtr_elim h3
  obtain ⟨want15, hq15, h5⟩ := W.asRef_elim h4
  obtain ⟨k16, hq16, h6⟩ := W.asInt_elim h5
  obtain ⟨kind17, hq17, h7⟩ := W.asInt_elim h6
  exact fun a ha => W.WP.at (E := [(4, kinds4.v), (12, all12.v), (13, .int .i64 i13), (14, .pointer r14), (15, .pointer (some want15)), (16, .int .i64 k16), (17, .int .i64 kind17)]) (W.WP.seq (c := C28) (x := C34) (y := C29) (by kernel_rfl) <| W.WP.reg (c := C34) (fun E w => W.condK (W.Env.val E (.tmp 81)) (KE_S17 E w R) (KE_S18 E w R)) (by kernel_rfl) (Eq.mp (by kernel_rfl) h7) fun _ _ a hA hK => (W.WP.condK (c := C29) (x := C30) (y := C35) (o := .tmp 81) (by kernel_rfl) (fun hK => (KE_S17_ok R _ _ hK)) (fun hK => (W.WP.skip (c := C35) (by kernel_rfl) fun a hA => (KE_S18_ok R _ _ hK) a hA)) hK) a hA) (ha.cons hq4 (ha.cons hq12 (ha.cons hq13 (ha.cons hq14 (ha.cons hq15 (ha.cons hq16 (ha.cons hq17 ha.nil)))))))
noncomputable def C36 : Code := W.Code.fst C27
/-- law.go:107 -/
abbrev S15 (kinds4 all12 : W.Sl) (i13 : Int) (r14 : Option Addr) (want15 : Addr) (k16 : Int) (w : World) (R : W.Post) : Prop :=
  (0 : Int) ≤ k16 ∧ k16 < ((kinds4.n : Nat) : Int) ∧ W.optP kinds4.a fun t64_p => ∃ t65 : Int, w.cell? (t64_p.add (Int.toNat k16 * 1)) = some (.int .i64 t65) ∧ 
  Calls Try.prog n_enthymemeref01_Around #[.int .i64 t65, .int .i64 6] w fun r_ w1 => ∃ t66 : Int, r_ = .returned (.int .i64 t66) ∧ 
  S16 kinds4 all12 i13 r14 want15 k16 t66 w1 R
def KE_S15 (E : W.Env) (w : World) (R : W.Post) : Prop := W.asSlice (W.Env.get? E 4) fun kinds4 => W.asSlice (W.Env.get? E 12) fun all12 => W.asInt .i64 (W.Env.get? E 13) fun i13 => W.asPtr (W.Env.get? E 14) fun r14 => W.asRef (W.Env.get? E 15) fun want15 => W.asInt .i64 (W.Env.get? E 16) fun k16 => S15 kinds4 all12 i13 r14 want15 k16 w R
theorem KE_S15_ok (R : W.Post) (E : W.Env) (w : World) (h : KE_S15 E w R) : W.WP Try.prog 83 C27 (Q7 R) E w := by
  obtain ⟨kinds4, hq4, h1⟩ := W.asSlice_elim h
  obtain ⟨all12, hq12, h2⟩ := W.asSlice_elim h1
  obtain ⟨i13, hq13, h3⟩ := W.asInt_elim h2
  obtain ⟨r14, hq14, h4⟩ := W.asPtr_elim h3
  obtain ⟨want15, hq15, h5⟩ := W.asRef_elim h4
  obtain ⟨k16, hq16, h6⟩ := W.asInt_elim h5
  exact fun a ha => W.WP.at (E := [(4, kinds4.v), (12, all12.v), (13, .int .i64 i13), (14, .pointer r14), (15, .pointer (some want15)), (16, .int .i64 k16)]) (W.WP.seq (c := C27) (x := C36) (y := C28) (by kernel_rfl) <| W.WP.reg (c := C36) (fun E w => KE_S16 E w R) (by kernel_rfl) (Eq.mp (by kernel_rfl) h6) fun _ _ a hA hK => (KE_S16_ok R _ _ hK) a hA) (ha.cons hq4 (ha.cons hq12 (ha.cons hq13 (ha.cons hq14 (ha.cons hq15 (ha.cons hq16 ha.nil))))))
abbrev Q9 (R : W.Post) : Exit → Act → World → Prop := (Exit.then (W.LoopWP Try.prog C8 (Q1 R)) (Q1 R))
/-- law.go:100 -/
abbrev S19 (kinds4 all12 : W.Sl) (i13 : Int) (w : World) (R : W.Post) : Prop :=
  L6 kinds4 all12 (IntKind.wrap .i64 (i13 + 1)) w R
def KE_S19 (E : W.Env) (w : World) (R : W.Post) : Prop := W.asSlice (W.Env.get? E 4) fun kinds4 => W.asSlice (W.Env.get? E 12) fun all12 => W.asInt .i64 (W.Env.get? E 13) fun i13 => S19 kinds4 all12 i13 w R
theorem KE_S19_ok (R : W.Post) (E : W.Env) (w : World) (h : KE_S19 E w R) : W.WP Try.prog 83 C18 (Q9 R) E w := by
  obtain ⟨kinds4, hq4, h1⟩ := W.asSlice_elim h
  obtain ⟨all12, hq12, h2⟩ := W.asSlice_elim h1
  obtain ⟨i13, hq13, h3⟩ := W.asInt_elim h2
  exact fun a ha => W.WP.at (E := [(4, kinds4.v), (12, all12.v), (13, .int .i64 i13)]) (W.WP.reg (c := C18) (fun E w => KE_L6 E w R) (by kernel_rfl) (Eq.mp (by kernel_rfl) h3) fun _ _ a hA hK => KE_L6_ok R _ _ hK a hA) (ha.cons hq4 (ha.cons hq12 (ha.cons hq13 ha.nil)))
noncomputable def C37 : Code := W.Code.fst C24
abbrev Q10 (R : W.Post) : Exit → Act → World → Prop := (Exit.then (Code.wp Try.prog C25 (Exit.then (W.LoopWP Try.prog C24 (Q5 R)) (Q5 R))) (Exit.then (W.LoopWP Try.prog C24 (Q5 R)) (Q5 R)))
noncomputable def C38 : Code := W.Code.fst C37
noncomputable def C39 : Code := W.Code.snd C37
noncomputable def C40 : Code := W.Code.fst C39
noncomputable def C41 : Code := W.Code.snd C39
/-- law.go:106 -/
abbrev S14 (kinds4 all12 : W.Sl) (i13 : Int) (r14 : Option Addr) (want15 : Addr) (k16 : Int) (w : World) (R : W.Post) : Prop :=
  W.sel (decide (k16 < ((kinds4.n : Nat) : Int))) (W.sel (decide (k16 < 10)) (S15 kinds4 all12 i13 r14 want15 k16 w R) (S19 kinds4 all12 i13 w R)) (S19 kinds4 all12 i13 w R)
def KE_S14 (E : W.Env) (w : World) (R : W.Post) : Prop := W.asSlice (W.Env.get? E 4) fun kinds4 => W.asSlice (W.Env.get? E 12) fun all12 => W.asInt .i64 (W.Env.get? E 13) fun i13 => W.asPtr (W.Env.get? E 14) fun r14 => W.asRef (W.Env.get? E 15) fun want15 => W.asInt .i64 (W.Env.get? E 16) fun k16 => S14 kinds4 all12 i13 r14 want15 k16 w R
theorem KE_S14_ok (R : W.Post) (E : W.Env) (w : World) (h : KE_S14 E w R) : W.WP Try.prog 83 C37 (Q10 R) E w := by
  obtain ⟨kinds4, hq4, h1⟩ := W.asSlice_elim h
  obtain ⟨all12, hq12, h2⟩ := W.asSlice_elim h1
  obtain ⟨i13, hq13, h3⟩ := W.asInt_elim h2
  obtain ⟨r14, hq14, h4⟩ := W.asPtr_elim h3
  obtain ⟨want15, hq15, h5⟩ := W.asRef_elim h4
  obtain ⟨k16, hq16, h6⟩ := W.asInt_elim h5
  exact fun a ha => W.WP.at (E := [(4, kinds4.v), (12, all12.v), (13, .int .i64 i13), (14, .pointer r14), (15, .pointer (some want15)), (16, .int .i64 k16)]) (W.WP.seq (c := C37) (x := C38) (y := C39) (by kernel_rfl) <| W.WP.reg (c := C38) (fun E w => W.condK (W.Env.val E (.tmp 59)) (KE_S15 E w R) (KE_S19 E w R)) (by kernel_rfl) (Eq.mp (by kernel_rfl) h6) fun _ _ a hA hK => (W.WP.condK (c := C39) (x := C40) (y := C41) (o := .tmp 59) (by kernel_rfl) (fun hK => (W.WP.skip (c := C40) (by kernel_rfl) fun a hA => (W.WP.seq (c := C25) (x := C26) (y := C31) (by kernel_rfl) (W.WP.block (c := C26) (x := C27) (id := 3) (by kernel_rfl) (KE_S15_ok R _ _ hK))) a hA)) (fun hK => (W.WP.exit (c := C41) (id := 2) (by kernel_rfl) fun a hA => (KE_S19_ok R _ _ hK) a hA)) hK) a hA) (ha.cons hq4 (ha.cons hq12 (ha.cons hq13 (ha.cons hq14 (ha.cons hq15 (ha.cons hq16 ha.nil))))))
theorem L13_step (kinds4 all12 : W.Sl) (i13 : Int) (r14 : Option Addr) (want15 : Addr) (k16 : Int) (w : World) (R : W.Post) (h : S14 kinds4 all12 i13 r14 want15 k16 w R) : L13 kinds4 all12 i13 r14 want15 k16 w R :=
  W.LP.step (c := C24) (E := [(4, kinds4.v), (12, all12.v), (13, .int .i64 i13), (14, .pointer r14), (15, .pointer (some want15)), (16, .int .i64 k16)]) (w := w) (W.WP.seq (c := C24) (x := C37) (y := C25) (by kernel_rfl) (KE_S14_ok R _ _ (Eq.mp (by kernel_rfl) h)))
noncomputable def C42 : Code := W.Code.fst C19
/-- law.go:106 -/
abbrev S12 (kinds4 all12 : W.Sl) (i13 : Int) (r14 : Option Addr) (want15 : Addr) (w : World) (R : W.Post) : Prop :=
  L13 kinds4 all12 i13 r14 want15 0 w R
def KE_S12 (E : W.Env) (w : World) (R : W.Post) : Prop := W.asSlice (W.Env.get? E 4) fun kinds4 => W.asSlice (W.Env.get? E 12) fun all12 => W.asInt .i64 (W.Env.get? E 13) fun i13 => W.asPtr (W.Env.get? E 14) fun r14 => W.asRef (W.Env.get? E 15) fun want15 => S12 kinds4 all12 i13 r14 want15 w R
theorem KE_S12_ok (R : W.Post) (E : W.Env) (w : World) (h : KE_S12 E w R) : W.WP Try.prog 83 C19 (Q4 R) E w := by
  obtain ⟨kinds4, hq4, h1⟩ := W.asSlice_elim h
  obtain ⟨all12, hq12, h2⟩ := W.asSlice_elim h1
  obtain ⟨i13, hq13, h3⟩ := W.asInt_elim h2
  obtain ⟨r14, hq14, h4⟩ := W.asPtr_elim h3
  obtain ⟨want15, hq15, h5⟩ := W.asRef_elim h4
  exact fun a ha => W.WP.at (E := [(4, kinds4.v), (12, all12.v), (13, .int .i64 i13), (14, .pointer r14), (15, .pointer (some want15))]) (W.WP.seq (c := C19) (x := C42) (y := C22) (by kernel_rfl) <| W.WP.reg (c := C42) (fun E w => KE_L13 E w R) (by kernel_rfl) (Eq.mp (by kernel_rfl) h5) fun _ _ a hA hK => (W.WP.block (c := C22) (x := C23) (id := 2) (by kernel_rfl) (W.WP.loop (c := C23) (x := C24) (by kernel_rfl) (KE_L13_ok R _ _ hK))) a hA) (ha.cons hq4 (ha.cons hq12 (ha.cons hq13 (ha.cons hq14 (ha.cons hq15 ha.nil)))))
noncomputable def C43 : Code := W.Code.fst C15
noncomputable def C44 : Code := W.Code.snd C16
/-- law.go:103 -/
abbrev S10 (kinds4 all12 : W.Sl) (i13 : Int) (r14 : Option Addr) (want15 : Addr) (w : World) (R : W.Post) : Prop :=
  W.sel r14.isNone (S11  w R) (S12 kinds4 all12 i13 r14 want15 w R)
def KE_S10 (E : W.Env) (w : World) (R : W.Post) : Prop := W.asSlice (W.Env.get? E 4) fun kinds4 => W.asSlice (W.Env.get? E 12) fun all12 => W.asInt .i64 (W.Env.get? E 13) fun i13 => W.asPtr (W.Env.get? E 14) fun r14 => W.asRef (W.Env.get? E 15) fun want15 => S10 kinds4 all12 i13 r14 want15 w R
theorem KE_S10_ok (R : W.Post) (E : W.Env) (w : World) (h : KE_S10 E w R) : W.WP Try.prog 83 C15 (Q3 R) E w := by
  obtain ⟨kinds4, hq4, h1⟩ := W.asSlice_elim h
  obtain ⟨all12, hq12, h2⟩ := W.asSlice_elim h1
  obtain ⟨i13, hq13, h3⟩ := W.asInt_elim h2
  obtain ⟨r14, hq14, h4⟩ := W.asPtr_elim h3
  obtain ⟨want15, hq15, h5⟩ := W.asRef_elim h4
  exact fun a ha => W.WP.at (E := [(4, kinds4.v), (12, all12.v), (13, .int .i64 i13), (14, .pointer r14), (15, .pointer (some want15))]) (W.WP.seq (c := C15) (x := C43) (y := C16) (by kernel_rfl) <| W.WP.reg (c := C43) (fun E w => W.condK (W.Env.val E (.tmp 51)) (KE_S11 E w R) (KE_S12 E w R)) (by kernel_rfl) (Eq.mp (by kernel_rfl) h5) fun _ _ a hA hK => (W.WP.condK (c := C16) (x := C17) (y := C44) (o := .tmp 51) (by kernel_rfl) (fun hK => (KE_S11_ok R _ _ hK)) (fun hK => (W.WP.skip (c := C44) (by kernel_rfl) fun a hA => (KE_S12_ok R _ _ hK) a hA)) hK) a hA) (ha.cons hq4 (ha.cons hq12 (ha.cons hq13 (ha.cons hq14 (ha.cons hq15 ha.nil)))))
noncomputable def C45 : Code := W.Code.fst C13
/-- law.go:102 -/
abbrev S9 (kinds4 all12 : W.Sl) (i13 : Int) (r14 : Option Addr) (w : World) (R : W.Post) : Prop :=
  (0 : Int) ≤ i13 ∧ i13 < ((all12.n : Nat) : Int) ∧ W.optP all12.a fun t46_p => ∃ t47 : W.Sl, w.cell? (t46_p.add (Int.toNat i13 * 1)) = some (t47.v) ∧ 
  let w1 := w.alloc (.cells #[t47.v, .int .i64 0] ty_enthymemeref02_Reader)
  S10 kinds4 all12 i13 r14 (Addr.mk w.heap.size 0 none) w1 R
def KE_S9 (E : W.Env) (w : World) (R : W.Post) : Prop := W.asSlice (W.Env.get? E 4) fun kinds4 => W.asSlice (W.Env.get? E 12) fun all12 => W.asInt .i64 (W.Env.get? E 13) fun i13 => W.asPtr (W.Env.get? E 14) fun r14 => S9 kinds4 all12 i13 r14 w R
theorem KE_S9_ok (R : W.Post) (E : W.Env) (w : World) (h : KE_S9 E w R) : W.WP Try.prog 83 C13 (Q4 R) E w := by
  obtain ⟨kinds4, hq4, h1⟩ := W.asSlice_elim h
  obtain ⟨all12, hq12, h2⟩ := W.asSlice_elim h1
  obtain ⟨i13, hq13, h3⟩ := W.asInt_elim h2
  obtain ⟨r14, hq14, h4⟩ := W.asPtr_elim h3
  exact fun a ha => W.WP.at (E := [(4, kinds4.v), (12, all12.v), (13, .int .i64 i13), (14, .pointer r14)]) (W.WP.seq (c := C13) (x := C45) (y := C14) (by kernel_rfl) <| W.WP.reg (c := C45) (fun E w => KE_S10 E w R) (by kernel_rfl) (Eq.mp (by kernel_rfl) h4) fun _ _ a hA hK => (W.WP.seq (c := C14) (x := C15) (y := C19) (by kernel_rfl) (KE_S10_ok R _ _ hK)) a hA) (ha.cons hq4 (ha.cons hq12 (ha.cons hq13 (ha.cons hq14 ha.nil))))
noncomputable def C46 : Code := W.Code.fst C12
/-- law.go:101 -/
abbrev S8 (kinds4 all12 : W.Sl) (i13 : Int) (w : World) (R : W.Post) : Prop :=
  (0 : Int) ≤ i13 ∧ i13 < ((all12.n : Nat) : Int) ∧ W.optP all12.a fun t41_p => ∃ t42 : W.Sl, w.cell? (t41_p.add (Int.toNat i13 * 1)) = some (t42.v) ∧ 
  Calls Try.prog n_wire_Read #[t42.v] w fun r_ w1 => ∃ t43 : Option Addr, r_ = .returned (.pointer t43) ∧ 
  S9 kinds4 all12 i13 t43 w1 R
def KE_S8 (E : W.Env) (w : World) (R : W.Post) : Prop := W.asSlice (W.Env.get? E 4) fun kinds4 => W.asSlice (W.Env.get? E 12) fun all12 => W.asInt .i64 (W.Env.get? E 13) fun i13 => S8 kinds4 all12 i13 w R
theorem KE_S8_ok (R : W.Post) (E : W.Env) (w : World) (h : KE_S8 E w R) : W.WP Try.prog 83 C12 (Q4 R) E w := by
  obtain ⟨kinds4, hq4, h1⟩ := W.asSlice_elim h
  obtain ⟨all12, hq12, h2⟩ := W.asSlice_elim h1
  obtain ⟨i13, hq13, h3⟩ := W.asInt_elim h2
  exact fun a ha => W.WP.at (E := [(4, kinds4.v), (12, all12.v), (13, .int .i64 i13)]) (W.WP.seq (c := C12) (x := C46) (y := C13) (by kernel_rfl) <| W.WP.reg (c := C46) (fun E w => KE_S9 E w R) (by kernel_rfl) (Eq.mp (by kernel_rfl) h3) fun _ _ a hA hK => (KE_S9_ok R _ _ hK) a hA) (ha.cons hq4 (ha.cons hq12 (ha.cons hq13 ha.nil)))
abbrev Q11 (R : W.Post) : Exit → Act → World → Prop := (bodyPost Try.prog Try.f6 R)
noncomputable def C47 : Code := W.Code.fst C9
noncomputable def C48 : Code := W.Code.snd C9
/-- law.go:113 -/
abbrev S20  (w : World) (R : W.Post) : Prop :=
  Calls Try.prog n_enthymemelaw02_lives #[] w fun r_ w1 => ∃ t82 : Bool, r_ = .returned (.bool t82) ∧ 
  R (.returned (.bool t82)) w1
def KE_S20 (E : W.Env) (w : World) (R : W.Post) : Prop := S20  w R
theorem KE_S20_ok (R : W.Post) (E : W.Env) (w : World) (h : KE_S20 E w R) : W.WP Try.prog 83 C9 (Q11 R) E w := by
  exact fun a ha => W.WP.at (E := []) (W.WP.seq (c := C9) (x := C47) (y := C48) (by kernel_rfl) <| W.WP.reg (c := C47) (fun E w => W.retVC Try.prog Try.f6 E w (fun v => R (.returned v) w)) (by kernel_rfl) (Eq.mp (by kernel_rfl) h) fun _ _ a hA hK => (W.WP.ret (c := C48) (by kernel_rfl) fun a hA => W.retVC_sound hA hK) a hA) ha.nil
noncomputable def C49 : Code := W.Code.fst C8
abbrev Q12 (R : W.Post) : Exit → Act → World → Prop := (Exit.then (Code.wp Try.prog C10 (Exit.then (W.LoopWP Try.prog C8 (Q1 R)) (Q1 R))) (Exit.then (W.LoopWP Try.prog C8 (Q1 R)) (Q1 R)))
noncomputable def C50 : Code := W.Code.fst C49
noncomputable def C51 : Code := W.Code.snd C49
noncomputable def C52 : Code := W.Code.fst C51
noncomputable def C53 : Code := W.Code.snd C51
/-- law.go:100 -/
abbrev S7 (kinds4 all12 : W.Sl) (i13 : Int) (w : World) (R : W.Post) : Prop :=
  W.sel (decide (i13 < 2)) (S8 kinds4 all12 i13 w R) (S20  w R)
def KE_S7 (E : W.Env) (w : World) (R : W.Post) : Prop := W.asSlice (W.Env.get? E 4) fun kinds4 => W.asSlice (W.Env.get? E 12) fun all12 => W.asInt .i64 (W.Env.get? E 13) fun i13 => S7 kinds4 all12 i13 w R
theorem KE_S7_ok (R : W.Post) (E : W.Env) (w : World) (h : KE_S7 E w R) : W.WP Try.prog 83 C49 (Q12 R) E w := by
  obtain ⟨kinds4, hq4, h1⟩ := W.asSlice_elim h
  obtain ⟨all12, hq12, h2⟩ := W.asSlice_elim h1
  obtain ⟨i13, hq13, h3⟩ := W.asInt_elim h2
  exact fun a ha => W.WP.at (E := [(4, kinds4.v), (12, all12.v), (13, .int .i64 i13)]) (W.WP.seq (c := C49) (x := C50) (y := C51) (by kernel_rfl) <| W.WP.reg (c := C50) (fun E w => W.condK (W.Env.val E (.tmp 36)) (KE_S8 E w R) (KE_S20 E w R)) (by kernel_rfl) (Eq.mp (by kernel_rfl) h3) fun _ _ a hA hK => (W.WP.condK (c := C51) (x := C52) (y := C53) (o := .tmp 36) (by kernel_rfl) (fun hK => (W.WP.skip (c := C52) (by kernel_rfl) fun a hA => (W.WP.seq (c := C10) (x := C11) (y := C18) (by kernel_rfl) (W.WP.block (c := C11) (x := C12) (id := 1) (by kernel_rfl) (KE_S8_ok R _ _ hK))) a hA)) (fun hK => (W.WP.exit (c := C53) (id := 0) (by kernel_rfl) fun a hA => (KE_S20_ok R _ _ hK) a hA)) hK) a hA) (ha.cons hq4 (ha.cons hq12 (ha.cons hq13 ha.nil)))
theorem L6_step (kinds4 all12 : W.Sl) (i13 : Int) (w : World) (R : W.Post) (h : S7 kinds4 all12 i13 w R) : L6 kinds4 all12 i13 w R :=
  W.LP.step (c := C8) (E := [(4, kinds4.v), (12, all12.v), (13, .int .i64 i13)]) (w := w) (W.WP.seq (c := C8) (x := C49) (y := C10) (by kernel_rfl) (KE_S7_ok R _ _ (Eq.mp (by kernel_rfl) h)))
noncomputable def C54 : Code := W.Code.fst C5
/-- law.go:100 -/
abbrev S5 (kinds4 all12 : W.Sl) (w : World) (R : W.Post) : Prop :=
  L6 kinds4 all12 0 w R
def KE_S5 (E : W.Env) (w : World) (R : W.Post) : Prop := W.asSlice (W.Env.get? E 4) fun kinds4 => W.asSlice (W.Env.get? E 12) fun all12 => S5 kinds4 all12 w R
theorem KE_S5_ok (R : W.Post) (E : W.Env) (w : World) (h : KE_S5 E w R) : W.WP Try.prog 83 C5 (Q0 R) E w := by
  obtain ⟨kinds4, hq4, h1⟩ := W.asSlice_elim h
  obtain ⟨all12, hq12, h2⟩ := W.asSlice_elim h1
  exact fun a ha => W.WP.at (E := [(4, kinds4.v), (12, all12.v)]) (W.WP.seq (c := C5) (x := C54) (y := C6) (by kernel_rfl) <| W.WP.reg (c := C54) (fun E w => KE_L6 E w R) (by kernel_rfl) (Eq.mp (by kernel_rfl) h2) fun _ _ a hA hK => (W.WP.block (c := C6) (x := C7) (id := 0) (by kernel_rfl) (W.WP.loop (c := C7) (x := C8) (by kernel_rfl) (KE_L6_ok R _ _ hK))) a hA) (ha.cons hq4 (ha.cons hq12 ha.nil))
noncomputable def C55 : Code := W.Code.fst C3
/-- law.go:99 -/
abbrev S4 (raw0 kinds4 turned11 : W.Sl) (w : World) (R : W.Post) : Prop :=
  Calls Try.prog n_enthymemeref01_Few #[raw0.v, .int .i64 60] w fun r_ w1 => ∃ t32 : W.Sl, r_ = .returned (t32.v) ∧ 
  let w2 := w1.alloc (.cells #[t32.v, turned11.v] ty_sl_uint8)
  S5 kinds4 ⟨some (Addr.mk w1.heap.size 0 none), 2, 2⟩ w2 R
def KE_S4 (E : W.Env) (w : World) (R : W.Post) : Prop := W.asSlice (W.Env.get? E 0) fun raw0 => W.asSlice (W.Env.get? E 4) fun kinds4 => W.asSlice (W.Env.get? E 11) fun turned11 => S4 raw0 kinds4 turned11 w R
theorem KE_S4_ok (R : W.Post) (E : W.Env) (w : World) (h : KE_S4 E w R) : W.WP Try.prog 83 C3 (Q11 R) E w := by
  obtain ⟨raw0, hq0, h1⟩ := W.asSlice_elim h
  obtain ⟨kinds4, hq4, h2⟩ := W.asSlice_elim h1
  obtain ⟨turned11, hq11, h3⟩ := W.asSlice_elim h2
  exact fun a ha => W.WP.at (E := [(0, raw0.v), (4, kinds4.v), (11, turned11.v)]) (W.WP.seq (c := C3) (x := C55) (y := C4) (by kernel_rfl) <| W.WP.reg (c := C55) (fun E w => KE_S5 E w R) (by kernel_rfl) (Eq.mp (by kernel_rfl) h3) fun _ _ a hA hK => (W.WP.seq (c := C4) (x := C5) (y := C9) (by kernel_rfl) (KE_S5_ok R _ _ hK)) a hA) (ha.cons hq0 (ha.cons hq4 (ha.cons hq11 ha.nil)))
noncomputable def C56 : Code := W.Code.fst C2
noncomputable def C57 : Code := W.Code.snd C56
noncomputable def C58 : Code := W.Code.fst C57
abbrev Q13 (R : W.Post) : Exit → Act → World → Prop := (Exit.then (Code.wp Try.prog C3 (bodyPost Try.prog Try.f6 R)) (bodyPost Try.prog Try.f6 R))
/-- law.go:97 -/
abbrev S3 (raw0 : W.Sl) (at2 c3 : Int) (kinds4 turned11 : W.Sl) (w : World) (R : W.Post) : Prop :=
  Calls Try.prog n_enthymemeref01_Around #[.int .i64 at2, .int .i64 ((turned11.n : Nat) : Int)] w fun r_ w1 => ∃ t28 : Int, r_ = .returned (.int .i64 t28) ∧ 
  (0 : Int) ≤ t28 ∧ t28 < ((turned11.n : Nat) : Int) ∧ W.optP turned11.a fun t30_p => (w1.cell? (t30_p.add (Int.toNat t28 * 1))).isSome = true ∧ w1.frozen? (t30_p.add (Int.toNat t28 * 1)) = false ∧ let w2 := w1.setCell (t30_p.add (Int.toNat t28 * 1)) (.int .u8 c3)
  S4 raw0 kinds4 turned11 w2 R
def KE_S3 (E : W.Env) (w : World) (R : W.Post) : Prop := W.asSlice (W.Env.get? E 0) fun raw0 => W.asInt .i64 (W.Env.get? E 2) fun at2 => W.asInt .u8 (W.Env.get? E 3) fun c3 => W.asSlice (W.Env.get? E 4) fun kinds4 => W.asSlice (W.Env.get? E 11) fun turned11 => S3 raw0 at2 c3 kinds4 turned11 w R
theorem KE_S3_ok (R : W.Post) (E : W.Env) (w : World) (h : KE_S3 E w R) : W.WP Try.prog 83 C58 (Q13 R) E w := by
  obtain ⟨raw0, hq0, h1⟩ := W.asSlice_elim h
  obtain ⟨at2, hq2, h2⟩ := W.asInt_elim h1
  obtain ⟨c3, hq3, h3⟩ := W.asInt_elim h2
  obtain ⟨kinds4, hq4, h4⟩ := W.asSlice_elim h3
  obtain ⟨turned11, hq11, h5⟩ := W.asSlice_elim h4
  exact fun a ha => W.WP.at (E := [(0, raw0.v), (2, .int .i64 at2), (3, .int .u8 c3), (4, kinds4.v), (11, turned11.v)]) (W.WP.reg (c := C58) (fun E w => KE_S4 E w R) (by kernel_rfl) (Eq.mp (by kernel_rfl) h5) fun _ _ a hA hK => (KE_S4_ok R _ _ hK) a hA) (ha.cons hq0 (ha.cons hq2 (ha.cons hq3 (ha.cons hq4 (ha.cons hq11 ha.nil)))))
noncomputable def C59 : Code := W.Code.fst C56
noncomputable def C60 : Code := W.Code.snd C57
/-- law.go:96 -/
abbrev S2 (raw0 : W.Sl) (at2 c3 : Int) (kinds4 turned11 : W.Sl) (w : World) (R : W.Post) : Prop :=
  W.sel (decide (((turned11.n : Nat) : Int) > 0)) (S3 raw0 at2 c3 kinds4 turned11 w R) (S4 raw0 kinds4 turned11 w R)
def KE_S2 (E : W.Env) (w : World) (R : W.Post) : Prop := W.asSlice (W.Env.get? E 0) fun raw0 => W.asInt .i64 (W.Env.get? E 2) fun at2 => W.asInt .u8 (W.Env.get? E 3) fun c3 => W.asSlice (W.Env.get? E 4) fun kinds4 => W.asSlice (W.Env.get? E 11) fun turned11 => S2 raw0 at2 c3 kinds4 turned11 w R
theorem KE_S2_ok (R : W.Post) (E : W.Env) (w : World) (h : KE_S2 E w R) : W.WP Try.prog 83 C56 (Q13 R) E w := by
  obtain ⟨raw0, hq0, h1⟩ := W.asSlice_elim h
  obtain ⟨at2, hq2, h2⟩ := W.asInt_elim h1
  obtain ⟨c3, hq3, h3⟩ := W.asInt_elim h2
  obtain ⟨kinds4, hq4, h4⟩ := W.asSlice_elim h3
  obtain ⟨turned11, hq11, h5⟩ := W.asSlice_elim h4
  exact fun a ha => W.WP.at (E := [(0, raw0.v), (2, .int .i64 at2), (3, .int .u8 c3), (4, kinds4.v), (11, turned11.v)]) (W.WP.seq (c := C56) (x := C59) (y := C57) (by kernel_rfl) <| W.WP.reg (c := C59) (fun E w => W.condK (W.Env.val E (.tmp 23)) (KE_S3 E w R) (KE_S4 E w R)) (by kernel_rfl) (Eq.mp (by kernel_rfl) h5) fun _ _ a hA hK => (W.WP.condK (c := C57) (x := C58) (y := C60) (o := .tmp 23) (by kernel_rfl) (fun hK => (KE_S3_ok R _ _ hK)) (fun hK => (W.WP.skip (c := C60) (by kernel_rfl) fun a hA => (KE_S4_ok R _ _ hK) a hA)) hK) a hA) (ha.cons hq0 (ha.cons hq2 (ha.cons hq3 (ha.cons hq4 (ha.cons hq11 ha.nil)))))
noncomputable def C61 : Code := W.Code.fst C1
/-- law.go:95 -/
abbrev S1 (raw0 l1 : W.Sl) (at2 c3 : Int) (kinds4 : W.Sl) (w : World) (R : W.Post) : Prop :=
  Calls Try.prog n_enthymemeref02_Vals #[l1.v] w fun r_ w1 => ∃ t19 : W.Sl, r_ = .returned (t19.v) ∧ 
  Calls Try.prog n_enthymemeref02_Encode #[t19.v] w1 fun r_ w2 => ∃ t20 : W.Sl, r_ = .returned (t20.v) ∧ 
  S2 raw0 at2 c3 kinds4 t20 w2 R
def KE_S1 (E : W.Env) (w : World) (R : W.Post) : Prop := W.asSlice (W.Env.get? E 0) fun raw0 => W.asSlice (W.Env.get? E 1) fun l1 => W.asInt .i64 (W.Env.get? E 2) fun at2 => W.asInt .u8 (W.Env.get? E 3) fun c3 => W.asSlice (W.Env.get? E 4) fun kinds4 => S1 raw0 l1 at2 c3 kinds4 w R
theorem KE_S1_ok (R : W.Post) (E : W.Env) (w : World) (h : KE_S1 E w R) : W.WP Try.prog 83 C1 (Q11 R) E w := by
  obtain ⟨raw0, hq0, h1⟩ := W.asSlice_elim h
  obtain ⟨l1, hq1, h2⟩ := W.asSlice_elim h1
  obtain ⟨at2, hq2, h3⟩ := W.asInt_elim h2
  obtain ⟨c3, hq3, h4⟩ := W.asInt_elim h3
  obtain ⟨kinds4, hq4, h5⟩ := W.asSlice_elim h4
  exact fun a ha => W.WP.at (E := [(0, raw0.v), (1, l1.v), (2, .int .i64 at2), (3, .int .u8 c3), (4, kinds4.v)]) (W.WP.seq (c := C1) (x := C61) (y := C2) (by kernel_rfl) <| W.WP.reg (c := C61) (fun E w => KE_S2 E w R) (by kernel_rfl) (Eq.mp (by kernel_rfl) h5) fun _ _ a hA hK => (W.WP.seq (c := C2) (x := C56) (y := C3) (by kernel_rfl) (KE_S2_ok R _ _ hK)) a hA) (ha.cons hq0 (ha.cons hq1 (ha.cons hq2 (ha.cons hq3 (ha.cons hq4 ha.nil)))))
noncomputable def C62 : Code := W.Code.fst C0
/-- law.go:94 -/
abbrev S0 (raw0 l1 : W.Sl) (at2 c3 : Int) (kinds4 : W.Sl) (w : World) (R : W.Post) : Prop :=
  S1 raw0 l1 at2 c3 kinds4 w R
def KE_S0 (E : W.Env) (w : World) (R : W.Post) : Prop := W.asSlice (W.Env.get? E 0) fun raw0 => W.asSlice (W.Env.get? E 1) fun l1 => W.asInt .i64 (W.Env.get? E 2) fun at2 => W.asInt .u8 (W.Env.get? E 3) fun c3 => W.asSlice (W.Env.get? E 4) fun kinds4 => S0 raw0 l1 at2 c3 kinds4 w R
theorem KE_S0_ok (R : W.Post) (E : W.Env) (w : World) (h : KE_S0 E w R) : W.WP Try.prog 83 C0 (Q11 R) E w := by
  obtain ⟨raw0, hq0, h1⟩ := W.asSlice_elim h
  obtain ⟨l1, hq1, h2⟩ := W.asSlice_elim h1
  obtain ⟨at2, hq2, h3⟩ := W.asInt_elim h2
  obtain ⟨c3, hq3, h4⟩ := W.asInt_elim h3
  obtain ⟨kinds4, hq4, h5⟩ := W.asSlice_elim h4
  exact fun a ha => W.WP.at (E := [(0, raw0.v), (1, l1.v), (2, .int .i64 at2), (3, .int .u8 c3), (4, kinds4.v)]) (W.WP.seq (c := C0) (x := C62) (y := C1) (by kernel_rfl) <| W.WP.reg (c := C62) (fun E w => KE_S1 E w R) (by kernel_rfl) (Eq.mp (by kernel_rfl) h5) fun _ _ a hA hK => (KE_S1_ok R _ _ hK) a hA) (ha.cons hq0 (ha.cons hq1 (ha.cons hq2 (ha.cons hq3 (ha.cons hq4 ha.nil)))))
/-- enthymeme/enthymemelaw02.WireReads -/
theorem ok (raw0 l1 : W.Sl) (at2 c3 : Int) (kinds4 : W.Sl) (w : World) (R : W.Post) (h : S0 raw0 l1 at2 c3 kinds4 w R) : Calls Try.prog n_enthymemelaw02_WireReads #[raw0.v, l1.v, .int .i64 at2, .int .u8 c3, kinds4.v] w R :=
  W.calls_of_WP' (fn := Try.f6) (c := C0) (args := [raw0.v, l1.v, .int .i64 at2, .int .u8 c3, kinds4.v]) (by kernel_rfl) (by kernel_rfl) (by kernel_rfl) (KE_S0_ok R _ _ (Eq.mp (by kernel_rfl) h))
end enthymemelaw02_WireReads
end Go.Proofs.Ytjmnpdacalbpkaa

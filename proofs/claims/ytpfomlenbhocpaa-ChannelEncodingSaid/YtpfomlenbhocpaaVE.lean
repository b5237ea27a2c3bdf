/- Printed by a program of ours (vcgen.py) from the dump: the conditions of the functions, and that they suffice. -/
import Derived.Test.YtpfomlenbhocpaaV
set_option linter.unusedVariables false
set_option maxRecDepth 100000
namespace Go.Proofs.Ytpfomlenbhocpaa
open Go
namespace enthymemeref02_Reader_Uint
noncomputable def C0 : Code := (Try.f33.body).getD .skip
noncomputable def C1 : Code := W.Code.snd C0
noncomputable def C2 : Code := W.Code.snd C1
noncomputable def C3 : Code := W.Code.snd C2
noncomputable def C4 : Code := W.Code.fst C3
noncomputable def C5 : Code := W.Code.snd C4
noncomputable def C6 : Code := W.Code.fst C5
noncomputable def C7 : Code := W.Code.fst C6
noncomputable def C8 : Code := W.Code.snd C3
abbrev Q0 (R : W.Post) : Exit → Act → World → Prop := (Exit.then (W.wpx Try.prog (W.cx 70) C8 (bodyPost Try.prog Try.f33 R)) (bodyPost Try.prog Try.f33 R))
abbrev Q1 (R : W.Post) : Exit → Act → World → Prop := (Exit.inBlock 0 (Q0 R))
/-- the head of the loop, ref.go:68 -/
def L4 (r0 : Addr) (n3 unit4 i5 : Int) (w : World) (R : W.Post) : Prop := W.LP Try.prog (W.cx 70) C7 (Q1 R) [(0, .pointer (some r0)), (3, .int .u64 n3), (4, .int .u64 unit4), (5, .int .i64 i5)] w
def KE_L4 (E : W.Env) (w : World) (R : W.Post) : Prop := W.asRef (W.Env.get? E 0) fun r0 => W.asInt .u64 (W.Env.get? E 3) fun n3 => W.asInt .u64 (W.Env.get? E 4) fun unit4 => W.asInt .i64 (W.Env.get? E 5) fun i5 => L4 r0 n3 unit4 i5 w R
theorem KE_L4_ok (R : W.Post) (E : W.Env) (w : World) (h : KE_L4 E w R) : W.LP Try.prog (W.cx 70) C7 (Q1 R) E w := by
  obtain ⟨r0, hq0, h1⟩ := W.asRef_elim h
  obtain ⟨n3, hq3, h2⟩ := W.asInt_elim h1
  obtain ⟨unit4, hq4, h3⟩ := W.asInt_elim h2
  obtain ⟨i5, hq5, h4⟩ := W.asInt_elim h3
  intro a ha
  exact h4 a (ha.cons hq0 (ha.cons hq3 (ha.cons hq4 (ha.cons hq5 ha.nil))))
abbrev Q2 (R : W.Post) : Exit → Act → World → Prop := (bodyPost Try.prog Try.f33 R)
noncomputable def C9 : Code := W.Code.fst C8
noncomputable def C10 : Code := W.Code.snd C8
/-- ref.go:85 -/
abbrev S8  (w : World) (R : W.Post) : Prop :=
  R (.returned (.int .u64 0)) w
def KE_S8 (E : W.Env) (w : World) (R : W.Post) : Prop := S8  w R
theorem KE_S8_ok (R : W.Post) (E : W.Env) (w : World) (h : KE_S8 E w R) : W.WP Try.prog (W.cx 70) C8 (Q2 R) E w := by
  exact fun a ha => W.WP.at (n := (W.cx 70)) (E := []) (W.WP.seq (c := C8) (x := C9) (y := C10) (by kernel_rfl) <| W.WP.reg (c := C9) (fun E w => W.retVC Try.prog Try.f33 E w (fun v => R (.returned v) w)) (by kernel_rfl) (Eq.mp (by kernel_rfl) h) fun _ _ a hA hK => (W.WP.ret (c := C10) (by kernel_rfl) fun a hA => W.retVC_sound hA hK) a hA) ha.nil
noncomputable def C11 : Code := W.Code.snd C7
noncomputable def C12 : Code := W.Code.fst C11
noncomputable def C13 : Code := W.Code.fst C12
noncomputable def C14 : Code := W.Code.fst C13
noncomputable def C15 : Code := W.Code.snd C14
noncomputable def C16 : Code := W.Code.fst C15
noncomputable def C17 : Code := W.Code.snd C11
abbrev Q3 (R : W.Post) : Exit → Act → World → Prop := (Exit.then (W.wpx Try.prog (W.cx 70) C17 (Exit.then (W.LoopWP Try.prog (W.cx 70) C7 (Q1 R)) (Q1 R))) (Exit.then (W.LoopWP Try.prog (W.cx 70) C7 (Q1 R)) (Q1 R)))
noncomputable def C18 : Code := W.Code.snd C13
abbrev Q4 (R : W.Post) : Exit → Act → World → Prop := (Exit.then (W.wpx Try.prog (W.cx 70) C18 (Exit.inBlock 1 (Q3 R))) (Exit.inBlock 1 (Q3 R)))
noncomputable def C19 : Code := W.Code.fst C16
noncomputable def C20 : Code := W.Code.snd C16
/-- ref.go:70 -/
abbrev S7 (r0 : Addr) (w : World) (R : W.Post) : Prop :=
  (w.cell? (r0.add 1)).isSome = true ∧ w.frozen? (r0.add 1) = false ∧ let w1 := w.setCell (r0.add 1) (.int .i64 3)
  S8  w1 R
def KE_S7 (E : W.Env) (w : World) (R : W.Post) : Prop := W.asRef (W.Env.get? E 0) fun r0 => S7 r0 w R
theorem KE_S7_ok (R : W.Post) (E : W.Env) (w : World) (h : KE_S7 E w R) : W.WP Try.prog (W.cx 70) C16 (Q4 R) E w := by
  obtain ⟨r0, hq0, h1⟩ := W.asRef_elim h
  exact fun a ha => W.WP.at (n := (W.cx 70)) (E := [(0, .pointer (some r0))]) (W.WP.seq (c := C16) (x := C19) (y := C20) (by kernel_rfl) <| W.WP.reg (c := C19) (fun E w => KE_S8 E w R) (by kernel_rfl) (Eq.mp (by kernel_rfl) h1) fun _ _ a hA hK => (W.WP.exit (c := C20) (id := 0) (by kernel_rfl) fun a hA => (KE_S8_ok R _ _ hK) a hA) a hA) (ha.cons hq0 ha.nil)
noncomputable def C21 : Code := W.Code.snd C18
noncomputable def C22 : Code := W.Code.fst C21
noncomputable def C23 : Code := W.Code.snd C22
noncomputable def C24 : Code := W.Code.fst C23
noncomputable def C25 : Code := W.Code.snd C21
abbrev Q5 (R : W.Post) : Exit → Act → World → Prop := (Exit.then (W.wpx Try.prog (W.cx 70) C25 (Exit.inBlock 1 (Q3 R))) (Exit.inBlock 1 (Q3 R)))
noncomputable def C26 : Code := W.Code.fst C24
noncomputable def C27 : Code := W.Code.snd C24
/-- ref.go:75 -/
abbrev S11 (r0 : Addr) (w : World) (R : W.Post) : Prop :=
  (w.cell? (r0.add 1)).isSome = true ∧ w.frozen? (r0.add 1) = false ∧ let w1 := w.setCell (r0.add 1) (.int .i64 2)
  S8  w1 R
def KE_S11 (E : W.Env) (w : World) (R : W.Post) : Prop := W.asRef (W.Env.get? E 0) fun r0 => S11 r0 w R
theorem KE_S11_ok (R : W.Post) (E : W.Env) (w : World) (h : KE_S11 E w R) : W.WP Try.prog (W.cx 70) C24 (Q5 R) E w := by
  obtain ⟨r0, hq0, h1⟩ := W.asRef_elim h
  exact fun a ha => W.WP.at (n := (W.cx 70)) (E := [(0, .pointer (some r0))]) (W.WP.seq (c := C24) (x := C26) (y := C27) (by kernel_rfl) <| W.WP.reg (c := C26) (fun E w => KE_S8 E w R) (by kernel_rfl) (Eq.mp (by kernel_rfl) h1) fun _ _ a hA hK => (W.WP.exit (c := C27) (id := 0) (by kernel_rfl) fun a hA => (KE_S8_ok R _ _ hK) a hA) a hA) (ha.cons hq0 ha.nil)
noncomputable def C28 : Code := W.Code.snd C25
noncomputable def C29 : Code := W.Code.snd C28
noncomputable def C30 : Code := W.Code.snd C29
noncomputable def C31 : Code := W.Code.fst C30
noncomputable def C32 : Code := W.Code.snd C31
abbrev Q6 (R : W.Post) : Exit → Act → World → Prop := (Exit.inBlock 1 (Q3 R))
noncomputable def C33 : Code := W.Code.fst C32
noncomputable def C34 : Code := W.Code.snd C32
/-- ref.go:82 -/
abbrev S16 (n3 : Int) (w : World) (R : W.Post) : Prop :=
  R (.returned (.int .u64 n3)) w
def KE_S16 (E : W.Env) (w : World) (R : W.Post) : Prop := W.asInt .u64 (W.Env.get? E 3) fun n3 => S16 n3 w R
theorem KE_S16_ok (R : W.Post) (E : W.Env) (w : World) (h : KE_S16 E w R) : W.WP Try.prog (W.cx 70) C32 (Q6 R) E w := by
  obtain ⟨n3, hq3, h1⟩ := W.asInt_elim h
  exact fun a ha => W.WP.at (n := (W.cx 70)) (E := [(3, .int .u64 n3)]) (W.WP.seq (c := C32) (x := C33) (y := C34) (by kernel_rfl) <| W.WP.reg (c := C33) (fun E w => W.retVC Try.prog Try.f33 E w (fun v => R (.returned v) w)) (by kernel_rfl) (Eq.mp (by kernel_rfl) h1) fun _ _ a hA hK => (W.WP.ret (c := C34) (by kernel_rfl) fun a hA => W.retVC_sound hA hK) a hA) (ha.cons hq3 ha.nil)
noncomputable def C35 : Code := W.Code.fst C31
/-- ref.go:81 -/
abbrev S15 (r0 : Addr) (n3 i5 : Int) (w : World) (R : W.Post) : Prop :=
  ∃ t63 : W.Sl, w.cell? (r0.add 0) = some (t63.v) ∧ 
  (0 : Int) ≤ (IntKind.wrap .i64 (i5 + 1)) ∧ (IntKind.wrap .i64 (i5 + 1)) ≤ ((t63.n : Nat) : Int) ∧ (w.cell? (r0.add 0)).isSome = true ∧ w.frozen? (r0.add 0) = false ∧ let w1 := w.setCell (r0.add 0) (.slice (if t63.c = (Int.toNat (IntKind.wrap .i64 (i5 + 1))) then t63.a else t63.a.map (·.add ((Int.toNat (IntKind.wrap .i64 (i5 + 1))) * 1))) (t63.n - (Int.toNat (IntKind.wrap .i64 (i5 + 1)))) (t63.c - (Int.toNat (IntKind.wrap .i64 (i5 + 1)))))
  S16 n3 w1 R
def KE_S15 (E : W.Env) (w : World) (R : W.Post) : Prop := W.asRef (W.Env.get? E 0) fun r0 => W.asInt .u64 (W.Env.get? E 3) fun n3 => W.asInt .i64 (W.Env.get? E 5) fun i5 => S15 r0 n3 i5 w R
theorem KE_S15_ok (R : W.Post) (E : W.Env) (w : World) (h : KE_S15 E w R) : W.WP Try.prog (W.cx 70) C31 (Q6 R) E w := by
  obtain ⟨r0, hq0, h1⟩ := W.asRef_elim h
  obtain ⟨n3, hq3, h2⟩ := W.asInt_elim h1
  obtain ⟨i5, hq5, h3⟩ := W.asInt_elim h2
  exact fun a ha => W.WP.at (n := (W.cx 70)) (E := [(0, .pointer (some r0)), (3, .int .u64 n3), (5, .int .i64 i5)]) (W.WP.seq (c := C31) (x := C35) (y := C32) (by kernel_rfl) <| W.WP.reg (c := C35) (fun E w => KE_S16 E w R) (by kernel_rfl) (Eq.mp (by kernel_rfl) h3) fun _ _ a hA hK => (KE_S16_ok R _ _ hK) a hA) (ha.cons hq0 (ha.cons hq3 (ha.cons hq5 ha.nil)))
abbrev Q7 (R : W.Post) : Exit → Act → World → Prop := (Exit.then (W.LoopWP Try.prog (W.cx 70) C7 (Q1 R)) (Q1 R))
/-- ref.go:68 -/
abbrev S17 (r0 : Addr) (n3 unit4 i5 : Int) (w : World) (R : W.Post) : Prop :=
  L4 r0 n3 unit4 (IntKind.wrap .i64 (i5 + 1)) w R
def KE_S17 (E : W.Env) (w : World) (R : W.Post) : Prop := W.asRef (W.Env.get? E 0) fun r0 => W.asInt .u64 (W.Env.get? E 3) fun n3 => W.asInt .u64 (W.Env.get? E 4) fun unit4 => W.asInt .i64 (W.Env.get? E 5) fun i5 => S17 r0 n3 unit4 i5 w R
theorem KE_S17_ok (R : W.Post) (E : W.Env) (w : World) (h : KE_S17 E w R) : W.WP Try.prog (W.cx 70) C17 (Q7 R) E w := by
  obtain ⟨r0, hq0, h1⟩ := W.asRef_elim h
  obtain ⟨n3, hq3, h2⟩ := W.asInt_elim h1
  obtain ⟨unit4, hq4, h3⟩ := W.asInt_elim h2
  obtain ⟨i5, hq5, h4⟩ := W.asInt_elim h3
  exact fun a ha => W.WP.at (n := (W.cx 70)) (E := [(0, .pointer (some r0)), (3, .int .u64 n3), (4, .int .u64 unit4), (5, .int .i64 i5)]) (W.WP.reg (c := C17) (fun E w => KE_L4 E w R) (by kernel_rfl) (Eq.mp (by kernel_rfl) h4) fun _ _ a hA hK => KE_L4_ok R _ _ hK a hA) (ha.cons hq0 (ha.cons hq3 (ha.cons hq4 (ha.cons hq5 ha.nil))))
noncomputable def C36 : Code := W.Code.fst C29
noncomputable def C37 : Code := W.Code.snd C30
/-- ref.go:80 -/
abbrev S14 (r0 : Addr) (n3 unit4 i5 c6 : Int) (w : World) (R : W.Post) : Prop :=
  W.sel (decide (c6 < 128)) (S15 r0 n3 i5 w R) (S17 r0 n3 unit4 i5 w R)
def KE_S14 (E : W.Env) (w : World) (R : W.Post) : Prop := W.asRef (W.Env.get? E 0) fun r0 => W.asInt .u64 (W.Env.get? E 3) fun n3 => W.asInt .u64 (W.Env.get? E 4) fun unit4 => W.asInt .i64 (W.Env.get? E 5) fun i5 => W.asInt .u8 (W.Env.get? E 6) fun c6 => S14 r0 n3 unit4 i5 c6 w R
theorem KE_S14_ok (R : W.Post) (E : W.Env) (w : World) (h : KE_S14 E w R) : W.WP Try.prog (W.cx 70) C29 (Q6 R) E w := by
  obtain ⟨r0, hq0, h1⟩ := W.asRef_elim h
  obtain ⟨n3, hq3, h2⟩ := W.asInt_elim h1
  obtain ⟨unit4, hq4, h3⟩ := W.asInt_elim h2
  obtain ⟨i5, hq5, h4⟩ := W.asInt_elim h3
  obtain ⟨c6, hq6, h5⟩ := W.asInt_elim h4
  exact fun a ha => W.WP.at (n := (W.cx 70)) (E := [(0, .pointer (some r0)), (3, .int .u64 n3), (4, .int .u64 unit4), (5, .int .i64 i5), (6, .int .u8 c6)]) (W.WP.seq (c := C29) (x := C36) (y := C30) (by kernel_rfl) <| W.WP.reg (c := C36) (fun E w => W.condK (W.Env.val E (.tmp 58)) (KE_S15 E w R) (KE_S17 E w R)) (by kernel_rfl) (Eq.mp (by kernel_rfl) h5) fun _ _ a hA hK => (W.WP.condK (c := C30) (x := C31) (y := C37) (o := .tmp 58) (by kernel_rfl) (fun hK => (KE_S15_ok R _ _ hK)) (fun hK => (W.WP.skip (c := C37) (by kernel_rfl) fun a hA => (KE_S17_ok R _ _ hK) a hA)) hK) a hA) (ha.cons hq0 (ha.cons hq3 (ha.cons hq4 (ha.cons hq5 (ha.cons hq6 ha.nil)))))
noncomputable def C38 : Code := W.Code.fst C28
/-- ref.go:79 -/
abbrev S13 (r0 : Addr) (n3 unit4 i5 c6 : Int) (w : World) (R : W.Post) : Prop :=
  S14 r0 n3 (IntKind.wrap .u64 (unit4 * 128)) i5 c6 w R
def KE_S13 (E : W.Env) (w : World) (R : W.Post) : Prop := W.asRef (W.Env.get? E 0) fun r0 => W.asInt .u64 (W.Env.get? E 3) fun n3 => W.asInt .u64 (W.Env.get? E 4) fun unit4 => W.asInt .i64 (W.Env.get? E 5) fun i5 => W.asInt .u8 (W.Env.get? E 6) fun c6 => S13 r0 n3 unit4 i5 c6 w R
theorem KE_S13_ok (R : W.Post) (E : W.Env) (w : World) (h : KE_S13 E w R) : W.WP Try.prog (W.cx 70) C28 (Q6 R) E w := by
  obtain ⟨r0, hq0, h1⟩ := W.asRef_elim h
  obtain ⟨n3, hq3, h2⟩ := W.asInt_elim h1
  obtain ⟨unit4, hq4, h3⟩ := W.asInt_elim h2
  obtain ⟨i5, hq5, h4⟩ := W.asInt_elim h3
  obtain ⟨c6, hq6, h5⟩ := W.asInt_elim h4
  exact fun a ha => W.WP.at (n := (W.cx 70)) (E := [(0, .pointer (some r0)), (3, .int .u64 n3), (4, .int .u64 unit4), (5, .int .i64 i5), (6, .int .u8 c6)]) (W.WP.seq (c := C28) (x := C38) (y := C29) (by kernel_rfl) <| W.WP.reg (c := C38) (fun E w => KE_S14 E w R) (by kernel_rfl) (Eq.mp (by kernel_rfl) h5) fun _ _ a hA hK => (KE_S14_ok R _ _ hK) a hA) (ha.cons hq0 (ha.cons hq3 (ha.cons hq4 (ha.cons hq5 (ha.cons hq6 ha.nil)))))
noncomputable def C39 : Code := W.Code.fst C25
/-- ref.go:78 -/
abbrev S12 (r0 : Addr) (n3 unit4 i5 c6 : Int) (w : World) (R : W.Post) : Prop :=
  S13 r0 (IntKind.wrap .u64 (n3 + (IntKind.wrap .u64 ((IntKind.wrap .u64 (Int.tmod c6 128)) * unit4)))) unit4 i5 c6 w R
def KE_S12 (E : W.Env) (w : World) (R : W.Post) : Prop := W.asRef (W.Env.get? E 0) fun r0 => W.asInt .u64 (W.Env.get? E 3) fun n3 => W.asInt .u64 (W.Env.get? E 4) fun unit4 => W.asInt .i64 (W.Env.get? E 5) fun i5 => W.asInt .u8 (W.Env.get? E 6) fun c6 => S12 r0 n3 unit4 i5 c6 w R
theorem KE_S12_ok (R : W.Post) (E : W.Env) (w : World) (h : KE_S12 E w R) : W.WP Try.prog (W.cx 70) C25 (Q6 R) E w := by
  obtain ⟨r0, hq0, h1⟩ := W.asRef_elim h
  obtain ⟨n3, hq3, h2⟩ := W.asInt_elim h1
  obtain ⟨unit4, hq4, h3⟩ := W.asInt_elim h2
  obtain ⟨i5, hq5, h4⟩ := W.asInt_elim h3
  obtain ⟨c6, hq6, h5⟩ := W.asInt_elim h4
  exact fun a ha => W.WP.at (n := (W.cx 70)) (E := [(0, .pointer (some r0)), (3, .int .u64 n3), (4, .int .u64 unit4), (5, .int .i64 i5), (6, .int .u8 c6)]) (W.WP.seq (c := C25) (x := C39) (y := C28) (by kernel_rfl) <| W.WP.reg (c := C39) (fun E w => KE_S13 E w R) (by kernel_rfl) (Eq.mp (by kernel_rfl) h5) fun _ _ a hA hK => (KE_S13_ok R _ _ hK) a hA) (ha.cons hq0 (ha.cons hq3 (ha.cons hq4 (ha.cons hq5 (ha.cons hq6 ha.nil)))))
noncomputable def C40 : Code := W.Code.fst C22
noncomputable def C41 : Code := W.Code.snd C23
/-- ref.go:74 -/
abbrev S10 (r0 : Addr) (n3 unit4 i5 c6 : Int) (w : World) (R : W.Post) : Prop :=
  W.sel (i5 == 9) (W.sel (decide (c6 > 1)) (S11 r0 w R) (W.sel (decide (i5 > 0)) (W.sel (c6 == 0) (S11 r0 w R) (S12 r0 n3 unit4 i5 c6 w R)) (S12 r0 n3 unit4 i5 c6 w R))) (W.sel (decide (i5 > 0)) (W.sel (c6 == 0) (S11 r0 w R) (S12 r0 n3 unit4 i5 c6 w R)) (S12 r0 n3 unit4 i5 c6 w R))
def KE_S10 (E : W.Env) (w : World) (R : W.Post) : Prop := W.asRef (W.Env.get? E 0) fun r0 => W.asInt .u64 (W.Env.get? E 3) fun n3 => W.asInt .u64 (W.Env.get? E 4) fun unit4 => W.asInt .i64 (W.Env.get? E 5) fun i5 => W.asInt .u8 (W.Env.get? E 6) fun c6 => S10 r0 n3 unit4 i5 c6 w R
theorem KE_S10_ok (R : W.Post) (E : W.Env) (w : World) (h : KE_S10 E w R) : W.WP Try.prog (W.cx 70) C22 (Q5 R) E w := by
  obtain ⟨r0, hq0, h1⟩ := W.asRef_elim h
  obtain ⟨n3, hq3, h2⟩ := W.asInt_elim h1
  obtain ⟨unit4, hq4, h3⟩ := W.asInt_elim h2
  obtain ⟨i5, hq5, h4⟩ := W.asInt_elim h3
  obtain ⟨c6, hq6, h5⟩ := W.asInt_elim h4
  exact fun a ha => W.WP.at (n := (W.cx 70)) (E := [(0, .pointer (some r0)), (3, .int .u64 n3), (4, .int .u64 unit4), (5, .int .i64 i5), (6, .int .u8 c6)]) (W.WP.seq (c := C22) (x := C40) (y := C23) (by kernel_rfl) <| W.WP.reg (c := C40) (fun E w => W.condK (W.Env.val E (.tmp 44)) (KE_S11 E w R) (KE_S12 E w R)) (by kernel_rfl) (Eq.mp (by kernel_rfl) h5) fun _ _ a hA hK => (W.WP.condK (c := C23) (x := C24) (y := C41) (o := .tmp 44) (by kernel_rfl) (fun hK => (KE_S11_ok R _ _ hK)) (fun hK => (W.WP.skip (c := C41) (by kernel_rfl) fun a hA => (KE_S12_ok R _ _ hK) a hA)) hK) a hA) (ha.cons hq0 (ha.cons hq3 (ha.cons hq4 (ha.cons hq5 (ha.cons hq6 ha.nil)))))
noncomputable def C42 : Code := W.Code.fst C18
/-- ref.go:73 -/
abbrev S9 (r0 : Addr) (n3 unit4 i5 : Int) (w : World) (R : W.Post) : Prop :=
  ∃ t27 : W.Sl, w.cell? (r0.add 0) = some (t27.v) ∧ 
  (0 : Int) ≤ i5 ∧ i5 < ((t27.n : Nat) : Int) ∧ W.optP t27.a fun t29_p => ∃ t30 : Int, w.cell? (t29_p.add (Int.toNat i5 * 1)) = some (.int .u8 t30) ∧ 
  S10 r0 n3 unit4 i5 t30 w R
def KE_S9 (E : W.Env) (w : World) (R : W.Post) : Prop := W.asRef (W.Env.get? E 0) fun r0 => W.asInt .u64 (W.Env.get? E 3) fun n3 => W.asInt .u64 (W.Env.get? E 4) fun unit4 => W.asInt .i64 (W.Env.get? E 5) fun i5 => S9 r0 n3 unit4 i5 w R
theorem KE_S9_ok (R : W.Post) (E : W.Env) (w : World) (h : KE_S9 E w R) : W.WP Try.prog (W.cx 70) C18 (Q6 R) E w := by
  obtain ⟨r0, hq0, h1⟩ := W.asRef_elim h
  obtain ⟨n3, hq3, h2⟩ := W.asInt_elim h1
  obtain ⟨unit4, hq4, h3⟩ := W.asInt_elim h2
  obtain ⟨i5, hq5, h4⟩ := W.asInt_elim h3
  exact fun a ha => W.WP.at (n := (W.cx 70)) (E := [(0, .pointer (some r0)), (3, .int .u64 n3), (4, .int .u64 unit4), (5, .int .i64 i5)]) (W.WP.seq (c := C18) (x := C42) (y := C21) (by kernel_rfl) <| W.WP.reg (c := C42) (fun E w => KE_S10 E w R) (by kernel_rfl) (Eq.mp (by kernel_rfl) h4) fun _ _ a hA hK => (W.WP.seq (c := C21) (x := C22) (y := C25) (by kernel_rfl) (KE_S10_ok R _ _ hK)) a hA) (ha.cons hq0 (ha.cons hq3 (ha.cons hq4 (ha.cons hq5 ha.nil))))
noncomputable def C43 : Code := W.Code.fst C14
noncomputable def C44 : Code := W.Code.snd C15
/-- ref.go:69 -/
abbrev S6 (r0 : Addr) (n3 unit4 i5 : Int) (w : World) (R : W.Post) : Prop :=
  ∃ t18 : W.Sl, w.cell? (r0.add 0) = some (t18.v) ∧ 
  W.sel (decide (i5 ≥ ((t18.n : Nat) : Int))) (S7 r0 w R) (S9 r0 n3 unit4 i5 w R)
def KE_S6 (E : W.Env) (w : World) (R : W.Post) : Prop := W.asRef (W.Env.get? E 0) fun r0 => W.asInt .u64 (W.Env.get? E 3) fun n3 => W.asInt .u64 (W.Env.get? E 4) fun unit4 => W.asInt .i64 (W.Env.get? E 5) fun i5 => S6 r0 n3 unit4 i5 w R
theorem KE_S6_ok (R : W.Post) (E : W.Env) (w : World) (h : KE_S6 E w R) : W.WP Try.prog (W.cx 70) C14 (Q4 R) E w := by
  obtain ⟨r0, hq0, h1⟩ := W.asRef_elim h
  obtain ⟨n3, hq3, h2⟩ := W.asInt_elim h1
  obtain ⟨unit4, hq4, h3⟩ := W.asInt_elim h2
  obtain ⟨i5, hq5, h4⟩ := W.asInt_elim h3
  exact fun a ha => W.WP.at (n := (W.cx 70)) (E := [(0, .pointer (some r0)), (3, .int .u64 n3), (4, .int .u64 unit4), (5, .int .i64 i5)]) (W.WP.seq (c := C14) (x := C43) (y := C15) (by kernel_rfl) <| W.WP.reg (c := C43) (fun E w => W.condK (W.Env.val E (.tmp 20)) (KE_S7 E w R) (KE_S9 E w R)) (by kernel_rfl) (Eq.mp (by kernel_rfl) h4) fun _ _ a hA hK => (W.WP.condK (c := C15) (x := C16) (y := C44) (o := .tmp 20) (by kernel_rfl) (fun hK => (KE_S7_ok R _ _ hK)) (fun hK => (W.WP.skip (c := C44) (by kernel_rfl) fun a hA => (KE_S9_ok R _ _ hK) a hA)) hK) a hA) (ha.cons hq0 (ha.cons hq3 (ha.cons hq4 (ha.cons hq5 ha.nil))))
noncomputable def C45 : Code := W.Code.fst C7
abbrev Q8 (R : W.Post) : Exit → Act → World → Prop := (Exit.then (W.wpx Try.prog (W.cx 70) C11 (Exit.then (W.LoopWP Try.prog (W.cx 70) C7 (Q1 R)) (Q1 R))) (Exit.then (W.LoopWP Try.prog (W.cx 70) C7 (Q1 R)) (Q1 R)))
noncomputable def C46 : Code := W.Code.fst C45
noncomputable def C47 : Code := W.Code.snd C45
noncomputable def C48 : Code := W.Code.fst C47
noncomputable def C49 : Code := W.Code.snd C47
/-- ref.go:68 -/
abbrev S5 (r0 : Addr) (n3 unit4 i5 : Int) (w : World) (R : W.Post) : Prop :=
  ∃ t10 : Int, w.cell? (r0.add 1) = some (.int .i64 t10) ∧ 
  W.sel (t10 == 0) (S6 r0 n3 unit4 i5 w R) (S8  w R)
def KE_S5 (E : W.Env) (w : World) (R : W.Post) : Prop := W.asRef (W.Env.get? E 0) fun r0 => W.asInt .u64 (W.Env.get? E 3) fun n3 => W.asInt .u64 (W.Env.get? E 4) fun unit4 => W.asInt .i64 (W.Env.get? E 5) fun i5 => S5 r0 n3 unit4 i5 w R
theorem KE_S5_ok (R : W.Post) (E : W.Env) (w : World) (h : KE_S5 E w R) : W.WP Try.prog (W.cx 70) C45 (Q8 R) E w := by
  obtain ⟨r0, hq0, h1⟩ := W.asRef_elim h
  obtain ⟨n3, hq3, h2⟩ := W.asInt_elim h1
  obtain ⟨unit4, hq4, h3⟩ := W.asInt_elim h2
  obtain ⟨i5, hq5, h4⟩ := W.asInt_elim h3
  exact fun a ha => W.WP.at (n := (W.cx 70)) (E := [(0, .pointer (some r0)), (3, .int .u64 n3), (4, .int .u64 unit4), (5, .int .i64 i5)]) (W.WP.seq (c := C45) (x := C46) (y := C47) (by kernel_rfl) <| W.WP.reg (c := C46) (fun E w => W.condK (W.Env.val E (.tmp 11)) (KE_S6 E w R) (KE_S8 E w R)) (by kernel_rfl) (Eq.mp (by kernel_rfl) h4) fun _ _ a hA hK => (W.WP.condK (c := C47) (x := C48) (y := C49) (o := .tmp 11) (by kernel_rfl) (fun hK => (W.WP.skip (c := C48) (by kernel_rfl) fun a hA => (W.WP.seq (c := C11) (x := C12) (y := C17) (by kernel_rfl) (W.WP.block (c := C12) (x := C13) (id := 1) (by kernel_rfl) (W.WP.seq (c := C13) (x := C14) (y := C18) (by kernel_rfl) (KE_S6_ok R _ _ hK)))) a hA)) (fun hK => (W.WP.exit (c := C49) (id := 0) (by kernel_rfl) fun a hA => (KE_S8_ok R _ _ hK) a hA)) hK) a hA) (ha.cons hq0 (ha.cons hq3 (ha.cons hq4 (ha.cons hq5 ha.nil))))
theorem L4_step (r0 : Addr) (n3 unit4 i5 : Int) (w : World) (R : W.Post) (h : S5 r0 n3 unit4 i5 w R) : L4 r0 n3 unit4 i5 w R :=
  W.LP.step (n := (W.cx 70)) (c := C7) (E := [(0, .pointer (some r0)), (3, .int .u64 n3), (4, .int .u64 unit4), (5, .int .i64 i5)]) (w := w) (W.WP.seq (c := C7) (x := C45) (y := C11) (by kernel_rfl) (KE_S5_ok R _ _ (Eq.mp (by kernel_rfl) h)))
noncomputable def C50 : Code := W.Code.fst C4
/-- ref.go:68 -/
abbrev S3 (r0 : Addr) (n3 unit4 : Int) (w : World) (R : W.Post) : Prop :=
  L4 r0 n3 unit4 0 w R
def KE_S3 (E : W.Env) (w : World) (R : W.Post) : Prop := W.asRef (W.Env.get? E 0) fun r0 => W.asInt .u64 (W.Env.get? E 3) fun n3 => W.asInt .u64 (W.Env.get? E 4) fun unit4 => S3 r0 n3 unit4 w R
theorem KE_S3_ok (R : W.Post) (E : W.Env) (w : World) (h : KE_S3 E w R) : W.WP Try.prog (W.cx 70) C4 (Q0 R) E w := by
  obtain ⟨r0, hq0, h1⟩ := W.asRef_elim h
  obtain ⟨n3, hq3, h2⟩ := W.asInt_elim h1
  obtain ⟨unit4, hq4, h3⟩ := W.asInt_elim h2
  exact fun a ha => W.WP.at (n := (W.cx 70)) (E := [(0, .pointer (some r0)), (3, .int .u64 n3), (4, .int .u64 unit4)]) (W.WP.seq (c := C4) (x := C50) (y := C5) (by kernel_rfl) <| W.WP.reg (c := C50) (fun E w => KE_L4 E w R) (by kernel_rfl) (Eq.mp (by kernel_rfl) h3) fun _ _ a hA hK => (W.WP.block (c := C5) (x := C6) (id := 0) (by kernel_rfl) (W.WP.loop (c := C6) (x := C7) (by kernel_rfl) (KE_L4_ok R _ _ hK))) a hA) (ha.cons hq0 (ha.cons hq3 (ha.cons hq4 ha.nil)))
noncomputable def C51 : Code := W.Code.fst C2
/-- ref.go:67 -/
abbrev S2 (r0 : Addr) (n3 : Int) (w : World) (R : W.Post) : Prop :=
  S3 r0 n3 1 w R
def KE_S2 (E : W.Env) (w : World) (R : W.Post) : Prop := W.asRef (W.Env.get? E 0) fun r0 => W.asInt .u64 (W.Env.get? E 3) fun n3 => S2 r0 n3 w R
theorem KE_S2_ok (R : W.Post) (E : W.Env) (w : World) (h : KE_S2 E w R) : W.WP Try.prog (W.cx 70) C2 (Q2 R) E w := by
  obtain ⟨r0, hq0, h1⟩ := W.asRef_elim h
  obtain ⟨n3, hq3, h2⟩ := W.asInt_elim h1
  exact fun a ha => W.WP.at (n := (W.cx 70)) (E := [(0, .pointer (some r0)), (3, .int .u64 n3)]) (W.WP.seq (c := C2) (x := C51) (y := C3) (by kernel_rfl) <| W.WP.reg (c := C51) (fun E w => KE_S3 E w R) (by kernel_rfl) (Eq.mp (by kernel_rfl) h2) fun _ _ a hA hK => (W.WP.seq (c := C3) (x := C4) (y := C8) (by kernel_rfl) (KE_S3_ok R _ _ hK)) a hA) (ha.cons hq0 (ha.cons hq3 ha.nil))
noncomputable def C52 : Code := W.Code.fst C1
/-- ref.go:66 -/
abbrev S1 (r0 : Addr) (w : World) (R : W.Post) : Prop :=
  S2 r0 0 w R
def KE_S1 (E : W.Env) (w : World) (R : W.Post) : Prop := W.asRef (W.Env.get? E 0) fun r0 => S1 r0 w R
theorem KE_S1_ok (R : W.Post) (E : W.Env) (w : World) (h : KE_S1 E w R) : W.WP Try.prog (W.cx 70) C1 (Q2 R) E w := by
  obtain ⟨r0, hq0, h1⟩ := W.asRef_elim h
  exact fun a ha => W.WP.at (n := (W.cx 70)) (E := [(0, .pointer (some r0))]) (W.WP.seq (c := C1) (x := C52) (y := C2) (by kernel_rfl) <| W.WP.reg (c := C52) (fun E w => KE_S2 E w R) (by kernel_rfl) (Eq.mp (by kernel_rfl) h1) fun _ _ a hA hK => (KE_S2_ok R _ _ hK) a hA) (ha.cons hq0 ha.nil)
noncomputable def C53 : Code := W.Code.fst C0
/-- ref.go:65 -/
abbrev S0 (r0 : Addr) (w : World) (R : W.Post) : Prop :=
  S1 r0 w R
def KE_S0 (E : W.Env) (w : World) (R : W.Post) : Prop := W.asRef (W.Env.get? E 0) fun r0 => S0 r0 w R
theorem KE_S0_ok (R : W.Post) (E : W.Env) (w : World) (h : KE_S0 E w R) : W.WP Try.prog (W.cx 70) C0 (Q2 R) E w := by
  obtain ⟨r0, hq0, h1⟩ := W.asRef_elim h
  exact fun a ha => W.WP.at (n := (W.cx 70)) (E := [(0, .pointer (some r0))]) (W.WP.seq (c := C0) (x := C53) (y := C1) (by kernel_rfl) <| W.WP.reg (c := C53) (fun E w => KE_S1 E w R) (by kernel_rfl) (Eq.mp (by kernel_rfl) h1) fun _ _ a hA hK => (KE_S1_ok R _ _ hK) a hA) (ha.cons hq0 ha.nil)
/-- (*enthymeme/enthymemeref02.Reader).Uint -/
theorem ok (r0 : Addr) (w : World) (R : W.Post) (h : S0 r0 w R) : Calls Try.prog n_enthymemeref02_Reader_Uint #[.pointer (some r0)] w R :=
  W.calls_of_WP' (fn := Try.f33) (c := C0) (args := [.pointer (some r0)]) (by kernel_rfl) (by kernel_rfl) (by kernel_rfl) (KE_S0_ok R _ _ (Eq.mp (by kernel_rfl) h))
end enthymemeref02_Reader_Uint
namespace enthymemeref02_Reader_Int
noncomputable def C0 : Code := (Try.f35.body).getD .skip
noncomputable def C1 : Code := W.Code.snd C0
abbrev Q0 (R : W.Post) : Exit → Act → World → Prop := (bodyPost Try.prog Try.f35 R)
noncomputable def C2 : Code := W.Code.fst C1
noncomputable def C3 : Code := W.Code.snd C1
/-- ref.go:89 -/
abbrev S1 (r0 : Addr) (w : World) (R : W.Post) : Prop :=
  Calls Try.prog n_enthymemeref02_Reader_Uint #[.pointer (some r0)] w fun r_ w1 => ∃ t4 : Int, r_ = .returned (.int .u64 t4) ∧ 
  Calls Try.prog n_enthymemeref02_Back #[.int .u64 t4] w1 fun r_ w2 => ∃ t5 : Int, r_ = .returned (.int .i64 t5) ∧ 
  R (.returned (.int .i64 t5)) w2
def KE_S1 (E : W.Env) (w : World) (R : W.Post) : Prop := W.asRef (W.Env.get? E 0) fun r0 => S1 r0 w R
theorem KE_S1_ok (R : W.Post) (E : W.Env) (w : World) (h : KE_S1 E w R) : W.WP Try.prog (W.cx 6) C1 (Q0 R) E w := by
  obtain ⟨r0, hq0, h1⟩ := W.asRef_elim h
  exact fun a ha => W.WP.at (n := (W.cx 6)) (E := [(0, .pointer (some r0))]) (W.WP.seq (c := C1) (x := C2) (y := C3) (by kernel_rfl) <| W.WP.reg (c := C2) (fun E w => W.retVC Try.prog Try.f35 E w (fun v => R (.returned v) w)) (by kernel_rfl) (Eq.mp (by kernel_rfl) h1) fun _ _ a hA hK => (W.WP.ret (c := C3) (by kernel_rfl) fun a hA => W.retVC_sound hA hK) a hA) (ha.cons hq0 ha.nil)
noncomputable def C4 : Code := W.Code.fst C0
/-- ref.go:89 -/
abbrev S0 (r0 : Addr) (w : World) (R : W.Post) : Prop :=
  S1 r0 w R
def KE_S0 (E : W.Env) (w : World) (R : W.Post) : Prop := W.asRef (W.Env.get? E 0) fun r0 => S0 r0 w R
theorem KE_S0_ok (R : W.Post) (E : W.Env) (w : World) (h : KE_S0 E w R) : W.WP Try.prog (W.cx 6) C0 (Q0 R) E w := by
  obtain ⟨r0, hq0, h1⟩ := W.asRef_elim h
  exact fun a ha => W.WP.at (n := (W.cx 6)) (E := [(0, .pointer (some r0))]) (W.WP.seq (c := C0) (x := C4) (y := C1) (by kernel_rfl) <| W.WP.reg (c := C4) (fun E w => KE_S1 E w R) (by kernel_rfl) (Eq.mp (by kernel_rfl) h1) fun _ _ a hA hK => (KE_S1_ok R _ _ hK) a hA) (ha.cons hq0 ha.nil)
/-- (*enthymeme/enthymemeref02.Reader).Int -/
theorem ok (r0 : Addr) (w : World) (R : W.Post) (h : S0 r0 w R) : Calls Try.prog n_enthymemeref02_Reader_Int #[.pointer (some r0)] w R :=
  W.calls_of_WP' (fn := Try.f35) (c := C0) (args := [.pointer (some r0)]) (by kernel_rfl) (by kernel_rfl) (by kernel_rfl) (KE_S0_ok R _ _ (Eq.mp (by kernel_rfl) h))
end enthymemeref02_Reader_Int
namespace enthymemeref02_Reader_length
noncomputable def C0 : Code := (Try.f49.body).getD .skip
noncomputable def C1 : Code := W.Code.snd C0
noncomputable def C2 : Code := W.Code.snd C1
noncomputable def C3 : Code := W.Code.snd C2
noncomputable def C4 : Code := W.Code.fst C3
noncomputable def C5 : Code := W.Code.snd C4
noncomputable def C6 : Code := W.Code.fst C5
noncomputable def C7 : Code := W.Code.snd C3
abbrev Q0 (R : W.Post) : Exit → Act → World → Prop := (Exit.then (W.wpx Try.prog (W.cx 31) C7 (bodyPost Try.prog Try.f49 R)) (bodyPost Try.prog Try.f49 R))
noncomputable def C8 : Code := W.Code.fst C6
noncomputable def C9 : Code := W.Code.snd C6
/-- ref.go:114 -/
abbrev S5  (w : World) (R : W.Post) : Prop :=
  R (.returned (.int .i64 0)) w
def KE_S5 (E : W.Env) (w : World) (R : W.Post) : Prop := S5  w R
theorem KE_S5_ok (R : W.Post) (E : W.Env) (w : World) (h : KE_S5 E w R) : W.WP Try.prog (W.cx 31) C6 (Q0 R) E w := by
  exact fun a ha => W.WP.at (n := (W.cx 31)) (E := []) (W.WP.seq (c := C6) (x := C8) (y := C9) (by kernel_rfl) <| W.WP.reg (c := C8) (fun E w => W.retVC Try.prog Try.f49 E w (fun v => R (.returned v) w)) (by kernel_rfl) (Eq.mp (by kernel_rfl) h) fun _ _ a hA hK => (W.WP.ret (c := C9) (by kernel_rfl) fun a hA => W.retVC_sound hA hK) a hA) ha.nil
abbrev Q1 (R : W.Post) : Exit → Act → World → Prop := (bodyPost Try.prog Try.f49 R)
noncomputable def C10 : Code := W.Code.fst C7
noncomputable def C11 : Code := W.Code.snd C7
/-- ref.go:116 -/
abbrev S6 (n3 : Int) (w : World) (R : W.Post) : Prop :=
  R (.returned (.int .i64 (IntKind.wrap .i64 n3))) w
def KE_S6 (E : W.Env) (w : World) (R : W.Post) : Prop := W.asInt .u64 (W.Env.get? E 3) fun n3 => S6 n3 w R
theorem KE_S6_ok (R : W.Post) (E : W.Env) (w : World) (h : KE_S6 E w R) : W.WP Try.prog (W.cx 31) C7 (Q1 R) E w := by
  obtain ⟨n3, hq3, h1⟩ := W.asInt_elim h
  exact fun a ha => W.WP.at (n := (W.cx 31)) (E := [(3, .int .u64 n3)]) (W.WP.seq (c := C7) (x := C10) (y := C11) (by kernel_rfl) <| W.WP.reg (c := C10) (fun E w => W.retVC Try.prog Try.f49 E w (fun v => R (.returned v) w)) (by kernel_rfl) (Eq.mp (by kernel_rfl) h1) fun _ _ a hA hK => (W.WP.ret (c := C11) (by kernel_rfl) fun a hA => W.retVC_sound hA hK) a hA) (ha.cons hq3 ha.nil)
noncomputable def C12 : Code := W.Code.fst C4
noncomputable def C13 : Code := W.Code.snd C5
/-- ref.go:113 -/
abbrev S4 (r0 : Addr) (n3 : Int) (w : World) (R : W.Post) : Prop :=
  ∃ t27 : Int, w.cell? (r0.add 1) = some (.int .i64 t27) ∧ 
  W.sel (t27 != 0) (S5  w R) (S6 n3 w R)
def KE_S4 (E : W.Env) (w : World) (R : W.Post) : Prop := W.asRef (W.Env.get? E 0) fun r0 => W.asInt .u64 (W.Env.get? E 3) fun n3 => S4 r0 n3 w R
theorem KE_S4_ok (R : W.Post) (E : W.Env) (w : World) (h : KE_S4 E w R) : W.WP Try.prog (W.cx 31) C4 (Q0 R) E w := by
  obtain ⟨r0, hq0, h1⟩ := W.asRef_elim h
  obtain ⟨n3, hq3, h2⟩ := W.asInt_elim h1
  exact fun a ha => W.WP.at (n := (W.cx 31)) (E := [(0, .pointer (some r0)), (3, .int .u64 n3)]) (W.WP.seq (c := C4) (x := C12) (y := C5) (by kernel_rfl) <| W.WP.reg (c := C12) (fun E w => W.condK (W.Env.val E (.tmp 28)) (KE_S5 E w R) (KE_S6 E w R)) (by kernel_rfl) (Eq.mp (by kernel_rfl) h2) fun _ _ a hA hK => (W.WP.condK (c := C5) (x := C6) (y := C13) (o := .tmp 28) (by kernel_rfl) (fun hK => (KE_S5_ok R _ _ hK)) (fun hK => (W.WP.skip (c := C13) (by kernel_rfl) fun a hA => (KE_S6_ok R _ _ hK) a hA)) hK) a hA) (ha.cons hq0 (ha.cons hq3 ha.nil))
noncomputable def C14 : Code := W.Code.fst C2
noncomputable def C15 : Code := W.Code.snd C14
noncomputable def C16 : Code := W.Code.fst C15
abbrev Q2 (R : W.Post) : Exit → Act → World → Prop := (Exit.then (W.wpx Try.prog (W.cx 31) C3 (bodyPost Try.prog Try.f49 R)) (bodyPost Try.prog Try.f49 R))
/-- ref.go:111 -/
abbrev S3 (r0 : Addr) (n3 : Int) (w : World) (R : W.Post) : Prop :=
  (w.cell? (r0.add 1)).isSome = true ∧ w.frozen? (r0.add 1) = false ∧ let w1 := w.setCell (r0.add 1) (.int .i64 3)
  S4 r0 n3 w1 R
def KE_S3 (E : W.Env) (w : World) (R : W.Post) : Prop := W.asRef (W.Env.get? E 0) fun r0 => W.asInt .u64 (W.Env.get? E 3) fun n3 => S3 r0 n3 w R
theorem KE_S3_ok (R : W.Post) (E : W.Env) (w : World) (h : KE_S3 E w R) : W.WP Try.prog (W.cx 31) C16 (Q2 R) E w := by
  obtain ⟨r0, hq0, h1⟩ := W.asRef_elim h
  obtain ⟨n3, hq3, h2⟩ := W.asInt_elim h1
  exact fun a ha => W.WP.at (n := (W.cx 31)) (E := [(0, .pointer (some r0)), (3, .int .u64 n3)]) (W.WP.reg (c := C16) (fun E w => KE_S4 E w R) (by kernel_rfl) (Eq.mp (by kernel_rfl) h2) fun _ _ a hA hK => (W.WP.seq (c := C3) (x := C4) (y := C7) (by kernel_rfl) (KE_S4_ok R _ _ hK)) a hA) (ha.cons hq0 (ha.cons hq3 ha.nil))
noncomputable def C17 : Code := W.Code.fst C14
noncomputable def C18 : Code := W.Code.snd C15
/-- ref.go:110 -/
abbrev S2 (r0 : Addr) (n3 : Int) (w : World) (R : W.Post) : Prop :=
  ∃ t9 : Int, w.cell? (r0.add 1) = some (.int .i64 t9) ∧ 
  W.sel (t9 == 0) (∃ t16 : W.Sl, w.cell? (r0.add 0) = some (t16.v) ∧ 
  W.sel (decide (n3 > (IntKind.wrap .u64 ((t16.n : Nat) : Int)))) (S3 r0 n3 w R) (S4 r0 n3 w R)) (S4 r0 n3 w R)
def KE_S2 (E : W.Env) (w : World) (R : W.Post) : Prop := W.asRef (W.Env.get? E 0) fun r0 => W.asInt .u64 (W.Env.get? E 3) fun n3 => S2 r0 n3 w R
theorem KE_S2_ok (R : W.Post) (E : W.Env) (w : World) (h : KE_S2 E w R) : W.WP Try.prog (W.cx 31) C14 (Q2 R) E w := by
  obtain ⟨r0, hq0, h1⟩ := W.asRef_elim h
  obtain ⟨n3, hq3, h2⟩ := W.asInt_elim h1
  exact fun a ha => W.WP.at (n := (W.cx 31)) (E := [(0, .pointer (some r0)), (3, .int .u64 n3)]) (W.WP.seq (c := C14) (x := C17) (y := C15) (by kernel_rfl) <| W.WP.reg (c := C17) (fun E w => W.condK (W.Env.val E (.tmp 20)) (KE_S3 E w R) (KE_S4 E w R)) (by kernel_rfl) (Eq.mp (by kernel_rfl) h2) fun _ _ a hA hK => (W.WP.condK (c := C15) (x := C16) (y := C18) (o := .tmp 20) (by kernel_rfl) (fun hK => (KE_S3_ok R _ _ hK)) (fun hK => (W.WP.skip (c := C18) (by kernel_rfl) fun a hA => (W.WP.seq (c := C3) (x := C4) (y := C7) (by kernel_rfl) (KE_S4_ok R _ _ hK)) a hA)) hK) a hA) (ha.cons hq0 (ha.cons hq3 ha.nil))
noncomputable def C19 : Code := W.Code.fst C1
/-- ref.go:109 -/
abbrev S1 (r0 : Addr) (w : World) (R : W.Post) : Prop :=
  Calls Try.prog n_enthymemeref02_Reader_Uint #[.pointer (some r0)] w fun r_ w1 => ∃ t5 : Int, r_ = .returned (.int .u64 t5) ∧ 
  S2 r0 t5 w1 R
def KE_S1 (E : W.Env) (w : World) (R : W.Post) : Prop := W.asRef (W.Env.get? E 0) fun r0 => S1 r0 w R
theorem KE_S1_ok (R : W.Post) (E : W.Env) (w : World) (h : KE_S1 E w R) : W.WP Try.prog (W.cx 31) C1 (Q1 R) E w := by
  obtain ⟨r0, hq0, h1⟩ := W.asRef_elim h
  exact fun a ha => W.WP.at (n := (W.cx 31)) (E := [(0, .pointer (some r0))]) (W.WP.seq (c := C1) (x := C19) (y := C2) (by kernel_rfl) <| W.WP.reg (c := C19) (fun E w => KE_S2 E w R) (by kernel_rfl) (Eq.mp (by kernel_rfl) h1) fun _ _ a hA hK => (W.WP.seq (c := C2) (x := C14) (y := C3) (by kernel_rfl) (KE_S2_ok R _ _ hK)) a hA) (ha.cons hq0 ha.nil)
noncomputable def C20 : Code := W.Code.fst C0
/-- ref.go:108 -/
abbrev S0 (r0 : Addr) (w : World) (R : W.Post) : Prop :=
  S1 r0 w R
def KE_S0 (E : W.Env) (w : World) (R : W.Post) : Prop := W.asRef (W.Env.get? E 0) fun r0 => S0 r0 w R
theorem KE_S0_ok (R : W.Post) (E : W.Env) (w : World) (h : KE_S0 E w R) : W.WP Try.prog (W.cx 31) C0 (Q1 R) E w := by
  obtain ⟨r0, hq0, h1⟩ := W.asRef_elim h
  exact fun a ha => W.WP.at (n := (W.cx 31)) (E := [(0, .pointer (some r0))]) (W.WP.seq (c := C0) (x := C20) (y := C1) (by kernel_rfl) <| W.WP.reg (c := C20) (fun E w => KE_S1 E w R) (by kernel_rfl) (Eq.mp (by kernel_rfl) h1) fun _ _ a hA hK => (KE_S1_ok R _ _ hK) a hA) (ha.cons hq0 ha.nil)
/-- (*enthymeme/enthymemeref02.Reader).length -/
theorem ok (r0 : Addr) (w : World) (R : W.Post) (h : S0 r0 w R) : Calls Try.prog n_enthymemeref02_Reader_length #[.pointer (some r0)] w R :=
  W.calls_of_WP' (fn := Try.f49) (c := C0) (args := [.pointer (some r0)]) (by kernel_rfl) (by kernel_rfl) (by kernel_rfl) (KE_S0_ok R _ _ (Eq.mp (by kernel_rfl) h))
end enthymemeref02_Reader_length
namespace enthymemeref02_Reader_Raw
noncomputable def C0 : Code := (Try.f32.body).getD .skip
noncomputable def C1 : Code := W.Code.snd C0
noncomputable def C2 : Code := W.Code.snd C1
noncomputable def C3 : Code := W.Code.fst C2
noncomputable def C4 : Code := W.Code.snd C3
noncomputable def C5 : Code := W.Code.fst C4
noncomputable def C6 : Code := W.Code.snd C2
abbrev Q0 (R : W.Post) : Exit → Act → World → Prop := (Exit.then (W.wpx Try.prog (W.cx 28) C6 (bodyPost Try.prog Try.f32 R)) (bodyPost Try.prog Try.f32 R))
noncomputable def C7 : Code := W.Code.fst C5
noncomputable def C8 : Code := W.Code.snd C5
/-- ref.go:123 -/
abbrev S3  (w : World) (R : W.Post) : Prop :=
  R (.returned (.slice none 0 0)) w
def KE_S3 (E : W.Env) (w : World) (R : W.Post) : Prop := S3  w R
theorem KE_S3_ok (R : W.Post) (E : W.Env) (w : World) (h : KE_S3 E w R) : W.WP Try.prog (W.cx 28) C5 (Q0 R) E w := by
  exact fun a ha => W.WP.at (n := (W.cx 28)) (E := []) (W.WP.seq (c := C5) (x := C7) (y := C8) (by kernel_rfl) <| W.WP.reg (c := C7) (fun E w => W.retVC Try.prog Try.f32 E w (fun v => R (.returned v) w)) (by kernel_rfl) (Eq.mp (by kernel_rfl) h) fun _ _ a hA hK => (W.WP.ret (c := C8) (by kernel_rfl) fun a hA => W.retVC_sound hA hK) a hA) ha.nil
noncomputable def C9 : Code := W.Code.snd C6
noncomputable def C10 : Code := W.Code.snd C9
abbrev Q1 (R : W.Post) : Exit → Act → World → Prop := (bodyPost Try.prog Try.f32 R)
noncomputable def C11 : Code := W.Code.fst C10
noncomputable def C12 : Code := W.Code.snd C10
/-- ref.go:127 -/
abbrev S6 (out4 : W.Sl) (w : World) (R : W.Post) : Prop :=
  R (.returned (out4.v)) w
def KE_S6 (E : W.Env) (w : World) (R : W.Post) : Prop := W.asSlice (W.Env.get? E 4) fun out4 => S6 out4 w R
theorem KE_S6_ok (R : W.Post) (E : W.Env) (w : World) (h : KE_S6 E w R) : W.WP Try.prog (W.cx 28) C10 (Q1 R) E w := by
  obtain ⟨out4, hq4, h1⟩ := W.asSlice_elim h
  exact fun a ha => W.WP.at (n := (W.cx 28)) (E := [(4, out4.v)]) (W.WP.seq (c := C10) (x := C11) (y := C12) (by kernel_rfl) <| W.WP.reg (c := C11) (fun E w => W.retVC Try.prog Try.f32 E w (fun v => R (.returned v) w)) (by kernel_rfl) (Eq.mp (by kernel_rfl) h1) fun _ _ a hA hK => (W.WP.ret (c := C12) (by kernel_rfl) fun a hA => W.retVC_sound hA hK) a hA) (ha.cons hq4 ha.nil)
noncomputable def C13 : Code := W.Code.fst C9
/-- ref.go:126 -/
abbrev S5 (r0 : Addr) (n3 : Int) (out4 : W.Sl) (w : World) (R : W.Post) : Prop :=
  ∃ t22 : W.Sl, w.cell? (r0.add 0) = some (t22.v) ∧ 
  (0 : Int) ≤ n3 ∧ n3 ≤ ((t22.n : Nat) : Int) ∧ (w.cell? (r0.add 0)).isSome = true ∧ w.frozen? (r0.add 0) = false ∧ let w1 := w.setCell (r0.add 0) (.slice (if t22.c = (Int.toNat n3) then t22.a else t22.a.map (·.add ((Int.toNat n3) * 1))) (t22.n - (Int.toNat n3)) (t22.c - (Int.toNat n3)))
  S6 out4 w1 R
def KE_S5 (E : W.Env) (w : World) (R : W.Post) : Prop := W.asRef (W.Env.get? E 0) fun r0 => W.asInt .i64 (W.Env.get? E 3) fun n3 => W.asSlice (W.Env.get? E 4) fun out4 => S5 r0 n3 out4 w R
theorem KE_S5_ok (R : W.Post) (E : W.Env) (w : World) (h : KE_S5 E w R) : W.WP Try.prog (W.cx 28) C9 (Q1 R) E w := by
  obtain ⟨r0, hq0, h1⟩ := W.asRef_elim h
  obtain ⟨n3, hq3, h2⟩ := W.asInt_elim h1
  obtain ⟨out4, hq4, h3⟩ := W.asSlice_elim h2
  exact fun a ha => W.WP.at (n := (W.cx 28)) (E := [(0, .pointer (some r0)), (3, .int .i64 n3), (4, out4.v)]) (W.WP.seq (c := C9) (x := C13) (y := C10) (by kernel_rfl) <| W.WP.reg (c := C13) (fun E w => KE_S6 E w R) (by kernel_rfl) (Eq.mp (by kernel_rfl) h3) fun _ _ a hA hK => (KE_S6_ok R _ _ hK) a hA) (ha.cons hq0 (ha.cons hq3 (ha.cons hq4 ha.nil)))
noncomputable def C14 : Code := W.Code.fst C6
/-- ref.go:125 -/
abbrev S4 (r0 : Addr) (n3 : Int) (w : World) (R : W.Post) : Prop :=
  ∃ t15 : W.Sl, w.cell? (r0.add 0) = some (t15.v) ∧ 
  (0 : Int) ≤ n3 ∧ n3 ≤ ((t15.c : Nat) : Int) ∧ S5 r0 n3 ⟨(if t15.c = 0 then t15.a else t15.a.map (·.add (0 * 1))), ((Int.toNat n3) - 0), (t15.c - 0)⟩ w R
def KE_S4 (E : W.Env) (w : World) (R : W.Post) : Prop := W.asRef (W.Env.get? E 0) fun r0 => W.asInt .i64 (W.Env.get? E 3) fun n3 => S4 r0 n3 w R
theorem KE_S4_ok (R : W.Post) (E : W.Env) (w : World) (h : KE_S4 E w R) : W.WP Try.prog (W.cx 28) C6 (Q1 R) E w := by
  obtain ⟨r0, hq0, h1⟩ := W.asRef_elim h
  obtain ⟨n3, hq3, h2⟩ := W.asInt_elim h1
  exact fun a ha => W.WP.at (n := (W.cx 28)) (E := [(0, .pointer (some r0)), (3, .int .i64 n3)]) (W.WP.seq (c := C6) (x := C14) (y := C9) (by kernel_rfl) <| W.WP.reg (c := C14) (fun E w => KE_S5 E w R) (by kernel_rfl) (Eq.mp (by kernel_rfl) h2) fun _ _ a hA hK => (KE_S5_ok R _ _ hK) a hA) (ha.cons hq0 (ha.cons hq3 ha.nil))
noncomputable def C15 : Code := W.Code.fst C3
noncomputable def C16 : Code := W.Code.snd C4
/-- ref.go:122 -/
abbrev S2 (r0 : Addr) (n3 : Int) (w : World) (R : W.Post) : Prop :=
  ∃ t10 : Int, w.cell? (r0.add 1) = some (.int .i64 t10) ∧ 
  W.sel (t10 != 0) (S3  w R) (S4 r0 n3 w R)
def KE_S2 (E : W.Env) (w : World) (R : W.Post) : Prop := W.asRef (W.Env.get? E 0) fun r0 => W.asInt .i64 (W.Env.get? E 3) fun n3 => S2 r0 n3 w R
theorem KE_S2_ok (R : W.Post) (E : W.Env) (w : World) (h : KE_S2 E w R) : W.WP Try.prog (W.cx 28) C3 (Q0 R) E w := by
  obtain ⟨r0, hq0, h1⟩ := W.asRef_elim h
  obtain ⟨n3, hq3, h2⟩ := W.asInt_elim h1
  exact fun a ha => W.WP.at (n := (W.cx 28)) (E := [(0, .pointer (some r0)), (3, .int .i64 n3)]) (W.WP.seq (c := C3) (x := C15) (y := C4) (by kernel_rfl) <| W.WP.reg (c := C15) (fun E w => W.condK (W.Env.val E (.tmp 11)) (KE_S3 E w R) (KE_S4 E w R)) (by kernel_rfl) (Eq.mp (by kernel_rfl) h2) fun _ _ a hA hK => (W.WP.condK (c := C4) (x := C5) (y := C16) (o := .tmp 11) (by kernel_rfl) (fun hK => (KE_S3_ok R _ _ hK)) (fun hK => (W.WP.skip (c := C16) (by kernel_rfl) fun a hA => (KE_S4_ok R _ _ hK) a hA)) hK) a hA) (ha.cons hq0 (ha.cons hq3 ha.nil))
noncomputable def C17 : Code := W.Code.fst C1
/-- ref.go:121 -/
abbrev S1 (r0 : Addr) (w : World) (R : W.Post) : Prop :=
  Calls Try.prog n_enthymemeref02_Reader_length #[.pointer (some r0)] w fun r_ w1 => ∃ t6 : Int, r_ = .returned (.int .i64 t6) ∧ 
  S2 r0 t6 w1 R
def KE_S1 (E : W.Env) (w : World) (R : W.Post) : Prop := W.asRef (W.Env.get? E 0) fun r0 => S1 r0 w R
theorem KE_S1_ok (R : W.Post) (E : W.Env) (w : World) (h : KE_S1 E w R) : W.WP Try.prog (W.cx 28) C1 (Q1 R) E w := by
  obtain ⟨r0, hq0, h1⟩ := W.asRef_elim h
  exact fun a ha => W.WP.at (n := (W.cx 28)) (E := [(0, .pointer (some r0))]) (W.WP.seq (c := C1) (x := C17) (y := C2) (by kernel_rfl) <| W.WP.reg (c := C17) (fun E w => KE_S2 E w R) (by kernel_rfl) (Eq.mp (by kernel_rfl) h1) fun _ _ a hA hK => (W.WP.seq (c := C2) (x := C3) (y := C6) (by kernel_rfl) (KE_S2_ok R _ _ hK)) a hA) (ha.cons hq0 ha.nil)
noncomputable def C18 : Code := W.Code.fst C0
/-- ref.go:120 -/
abbrev S0 (r0 : Addr) (w : World) (R : W.Post) : Prop :=
  S1 r0 w R
def KE_S0 (E : W.Env) (w : World) (R : W.Post) : Prop := W.asRef (W.Env.get? E 0) fun r0 => S0 r0 w R
theorem KE_S0_ok (R : W.Post) (E : W.Env) (w : World) (h : KE_S0 E w R) : W.WP Try.prog (W.cx 28) C0 (Q1 R) E w := by
  obtain ⟨r0, hq0, h1⟩ := W.asRef_elim h
  exact fun a ha => W.WP.at (n := (W.cx 28)) (E := [(0, .pointer (some r0))]) (W.WP.seq (c := C0) (x := C18) (y := C1) (by kernel_rfl) <| W.WP.reg (c := C18) (fun E w => KE_S1 E w R) (by kernel_rfl) (Eq.mp (by kernel_rfl) h1) fun _ _ a hA hK => (KE_S1_ok R _ _ hK) a hA) (ha.cons hq0 ha.nil)
/-- (*enthymeme/enthymemeref02.Reader).Raw -/
theorem ok (r0 : Addr) (w : World) (R : W.Post) (h : S0 r0 w R) : Calls Try.prog n_enthymemeref02_Reader_Raw #[.pointer (some r0)] w R :=
  W.calls_of_WP' (fn := Try.f32) (c := C0) (args := [.pointer (some r0)]) (by kernel_rfl) (by kernel_rfl) (by kernel_rfl) (KE_S0_ok R _ _ (Eq.mp (by kernel_rfl) h))
end enthymemeref02_Reader_Raw
namespace enthymemeref02_Reader_End
noncomputable def C0 : Code := (Try.f34.body).getD .skip
noncomputable def C1 : Code := W.Code.snd C0
noncomputable def C2 : Code := W.Code.fst C1
noncomputable def C3 : Code := W.Code.snd C2
noncomputable def C4 : Code := W.Code.fst C3
noncomputable def C5 : Code := W.Code.snd C1
abbrev Q0 (R : W.Post) : Exit → Act → World → Prop := (Exit.then (W.wpx Try.prog (W.cx 20) C5 (bodyPost Try.prog Try.f34 R)) (bodyPost Try.prog Try.f34 R))
noncomputable def C6 : Code := W.Code.fst C4
noncomputable def C7 : Code := W.Code.snd C4
/-- ref.go:146 -/
abbrev S2  (w : World) (R : W.Post) : Prop :=
  R (.returned (.int .i64 2)) w
def KE_S2 (E : W.Env) (w : World) (R : W.Post) : Prop := S2  w R
theorem KE_S2_ok (R : W.Post) (E : W.Env) (w : World) (h : KE_S2 E w R) : W.WP Try.prog (W.cx 20) C4 (Q0 R) E w := by
  exact fun a ha => W.WP.at (n := (W.cx 20)) (E := []) (W.WP.seq (c := C4) (x := C6) (y := C7) (by kernel_rfl) <| W.WP.reg (c := C6) (fun E w => W.retVC Try.prog Try.f34 E w (fun v => R (.returned v) w)) (by kernel_rfl) (Eq.mp (by kernel_rfl) h) fun _ _ a hA hK => (W.WP.ret (c := C7) (by kernel_rfl) fun a hA => W.retVC_sound hA hK) a hA) ha.nil
abbrev Q1 (R : W.Post) : Exit → Act → World → Prop := (bodyPost Try.prog Try.f34 R)
noncomputable def C8 : Code := W.Code.fst C5
noncomputable def C9 : Code := W.Code.snd C5
/-- ref.go:148 -/
abbrev S3 (r0 : Addr) (w : World) (R : W.Post) : Prop :=
  ∃ t19 : Int, w.cell? (r0.add 1) = some (.int .i64 t19) ∧ 
  R (.returned (.int .i64 t19)) w
def KE_S3 (E : W.Env) (w : World) (R : W.Post) : Prop := W.asRef (W.Env.get? E 0) fun r0 => S3 r0 w R
theorem KE_S3_ok (R : W.Post) (E : W.Env) (w : World) (h : KE_S3 E w R) : W.WP Try.prog (W.cx 20) C5 (Q1 R) E w := by
  obtain ⟨r0, hq0, h1⟩ := W.asRef_elim h
  exact fun a ha => W.WP.at (n := (W.cx 20)) (E := [(0, .pointer (some r0))]) (W.WP.seq (c := C5) (x := C8) (y := C9) (by kernel_rfl) <| W.WP.reg (c := C8) (fun E w => W.retVC Try.prog Try.f34 E w (fun v => R (.returned v) w)) (by kernel_rfl) (Eq.mp (by kernel_rfl) h1) fun _ _ a hA hK => (W.WP.ret (c := C9) (by kernel_rfl) fun a hA => W.retVC_sound hA hK) a hA) (ha.cons hq0 ha.nil)
noncomputable def C10 : Code := W.Code.fst C2
noncomputable def C11 : Code := W.Code.snd C3
/-- ref.go:145 -/
abbrev S1 (r0 : Addr) (w : World) (R : W.Post) : Prop :=
  ∃ t6 : Int, w.cell? (r0.add 1) = some (.int .i64 t6) ∧ 
  W.sel (t6 == 0) (∃ t12 : W.Sl, w.cell? (r0.add 0) = some (t12.v) ∧ 
  W.sel (decide (((t12.n : Nat) : Int) > 0)) (S2  w R) (S3 r0 w R)) (S3 r0 w R)
def KE_S1 (E : W.Env) (w : World) (R : W.Post) : Prop := W.asRef (W.Env.get? E 0) fun r0 => S1 r0 w R
theorem KE_S1_ok (R : W.Post) (E : W.Env) (w : World) (h : KE_S1 E w R) : W.WP Try.prog (W.cx 20) C2 (Q0 R) E w := by
  obtain ⟨r0, hq0, h1⟩ := W.asRef_elim h
  exact fun a ha => W.WP.at (n := (W.cx 20)) (E := [(0, .pointer (some r0))]) (W.WP.seq (c := C2) (x := C10) (y := C3) (by kernel_rfl) <| W.WP.reg (c := C10) (fun E w => W.condK (W.Env.val E (.tmp 15)) (KE_S2 E w R) (KE_S3 E w R)) (by kernel_rfl) (Eq.mp (by kernel_rfl) h1) fun _ _ a hA hK => (W.WP.condK (c := C3) (x := C4) (y := C11) (o := .tmp 15) (by kernel_rfl) (fun hK => (KE_S2_ok R _ _ hK)) (fun hK => (W.WP.skip (c := C11) (by kernel_rfl) fun a hA => (KE_S3_ok R _ _ hK) a hA)) hK) a hA) (ha.cons hq0 ha.nil)
noncomputable def C12 : Code := W.Code.fst C0
/-- ref.go:144 -/
abbrev S0 (r0 : Addr) (w : World) (R : W.Post) : Prop :=
  S1 r0 w R
def KE_S0 (E : W.Env) (w : World) (R : W.Post) : Prop := W.asRef (W.Env.get? E 0) fun r0 => S0 r0 w R
theorem KE_S0_ok (R : W.Post) (E : W.Env) (w : World) (h : KE_S0 E w R) : W.WP Try.prog (W.cx 20) C0 (Q1 R) E w := by
  obtain ⟨r0, hq0, h1⟩ := W.asRef_elim h
  exact fun a ha => W.WP.at (n := (W.cx 20)) (E := [(0, .pointer (some r0))]) (W.WP.seq (c := C0) (x := C12) (y := C1) (by kernel_rfl) <| W.WP.reg (c := C12) (fun E w => KE_S1 E w R) (by kernel_rfl) (Eq.mp (by kernel_rfl) h1) fun _ _ a hA hK => (W.WP.seq (c := C1) (x := C2) (y := C5) (by kernel_rfl) (KE_S1_ok R _ _ hK)) a hA) (ha.cons hq0 ha.nil)
/-- (*enthymeme/enthymemeref02.Reader).End -/
theorem ok (r0 : Addr) (w : World) (R : W.Post) (h : S0 r0 w R) : Calls Try.prog n_enthymemeref02_Reader_End #[.pointer (some r0)] w R :=
  W.calls_of_WP' (fn := Try.f34) (c := C0) (args := [.pointer (some r0)]) (by kernel_rfl) (by kernel_rfl) (by kernel_rfl) (KE_S0_ok R _ _ (Eq.mp (by kernel_rfl) h))
end enthymemeref02_Reader_End
end Go.Proofs.Ytpfomlenbhocpaa

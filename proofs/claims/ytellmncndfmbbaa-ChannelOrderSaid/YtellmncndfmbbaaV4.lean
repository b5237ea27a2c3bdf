/- Printed by a program of ours (vcgen.py) from the dump: the conditions of the functions, and that they suffice. -/
import Derived.Test.YtellmncndfmbbaaV
set_option linter.unusedVariables false
set_option maxRecDepth 100000
namespace Go.Proofs.Ytellmncndfmbbaa
open Go
namespace enthymemelaw38_ChannelOrder
noncomputable def C0 : Code := (Try.f4.body).getD .skip
noncomputable def C1 : Code := W.Code.snd C0
noncomputable def C2 : Code := W.Code.snd C1
noncomputable def C3 : Code := W.Code.fst C2
noncomputable def C4 : Code := W.Code.snd C3
noncomputable def C5 : Code := W.Code.fst C4
noncomputable def C6 : Code := W.Code.snd C2
abbrev Q0 (R : W.Post) : Exit → Act → World → Prop := (Exit.then (Code.wp Try.prog C6 (bodyPost Try.prog Try.f4 R)) (bodyPost Try.prog Try.f4 R))
noncomputable def C7 : Code := W.Code.fst C5
noncomputable def C8 : Code := W.Code.snd C5
/-- law.go:138 -/
def S3  (w : World) (R : W.Post) : Prop :=
  R (.returned (.bool false)) w
def KE_S3 (E : W.Env) (w : World) (R : W.Post) : Prop := S3  w R
theorem KE_S3_ok (R : W.Post) (E : W.Env) (w : World) (h : KE_S3 E w R) : W.WP Try.prog 197 C5 (Q0 R) E w := by
  exact fun a ha => W.WP.at (E := []) (W.WP.seq (c := C5) (x := C7) (y := C8) (by kernel_rfl) <| W.WP.reg (c := C7) (fun E w => W.retVC Try.prog Try.f4 E w (fun v => R (.returned v) w)) (by kernel_rfl) (Eq.mp (by kernel_rfl) h) fun _ _ a hA hK => (W.WP.ret (c := C8) (by kernel_rfl) fun a hA => W.retVC_sound hA hK) a hA) ha.nil
noncomputable def C9 : Code := W.Code.snd C6
noncomputable def C10 : Code := W.Code.snd C9
noncomputable def C11 : Code := W.Code.snd C10
noncomputable def C12 : Code := W.Code.snd C11
noncomputable def C13 : Code := W.Code.fst C12
noncomputable def C14 : Code := W.Code.snd C13
noncomputable def C15 : Code := W.Code.fst C14
noncomputable def C16 : Code := W.Code.fst C15
noncomputable def C17 : Code := W.Code.snd C12
abbrev Q1 (R : W.Post) : Exit → Act → World → Prop := (Exit.then (Code.wp Try.prog C17 (bodyPost Try.prog Try.f4 R)) (bodyPost Try.prog Try.f4 R))
abbrev Q2 (R : W.Post) : Exit → Act → World → Prop := (Exit.inBlock 0 (Q1 R))
/-- the head of the loop, law.go:144 -/
def L9 (l1 e5 sent6 got7 link8 to9 : W.Sl) (i10 : Int) (w : World) (R : W.Post) : Prop := W.LP Try.prog 197 C16 (Q2 R) [(1, l1.v), (5, e5.v), (6, sent6.v), (7, got7.v), (8, link8.v), (9, to9.v), (10, .int .i64 i10)] w
def KE_L9 (E : W.Env) (w : World) (R : W.Post) : Prop := W.asSlice (W.Env.get? E 1) fun l1 => W.asSlice (W.Env.get? E 5) fun e5 => W.asSlice (W.Env.get? E 6) fun sent6 => W.asSlice (W.Env.get? E 7) fun got7 => W.asSlice (W.Env.get? E 8) fun link8 => W.asSlice (W.Env.get? E 9) fun to9 => W.asInt .i64 (W.Env.get? E 10) fun i10 => L9 l1 e5 sent6 got7 link8 to9 i10 w R
theorem KE_L9_ok (R : W.Post) (E : W.Env) (w : World) (h : KE_L9 E w R) : W.LP Try.prog 197 C16 (Q2 R) E w := by
  obtain ⟨l1, hq1, h1⟩ := W.asSlice_elim h
  obtain ⟨e5, hq5, h2⟩ := W.asSlice_elim h1
  obtain ⟨sent6, hq6, h3⟩ := W.asSlice_elim h2
  obtain ⟨got7, hq7, h4⟩ := W.asSlice_elim h3
  obtain ⟨link8, hq8, h5⟩ := W.asSlice_elim h4
  obtain ⟨to9, hq9, h6⟩ := W.asSlice_elim h5
  obtain ⟨i10, hq10, h7⟩ := W.asInt_elim h6
  intro a ha
  exact h7 a (ha.cons hq1 (ha.cons hq5 (ha.cons hq6 (ha.cons hq7 (ha.cons hq8 (ha.cons hq9 (ha.cons hq10 ha.nil)))))))
noncomputable def C18 : Code := W.Code.snd C16
noncomputable def C19 : Code := W.Code.fst C18
noncomputable def C20 : Code := W.Code.fst C19
noncomputable def C21 : Code := W.Code.snd C20
noncomputable def C22 : Code := W.Code.snd C21
noncomputable def C23 : Code := W.Code.fst C22
noncomputable def C24 : Code := W.Code.snd C23
noncomputable def C25 : Code := W.Code.fst C24
noncomputable def C26 : Code := W.Code.snd C25
noncomputable def C27 : Code := W.Code.fst C26
noncomputable def C28 : Code := W.Code.snd C27
noncomputable def C29 : Code := W.Code.fst C28
noncomputable def C30 : Code := W.Code.snd C29
noncomputable def C31 : Code := W.Code.fst C30
noncomputable def C32 : Code := W.Code.snd C18
abbrev Q3 (R : W.Post) : Exit → Act → World → Prop := (Exit.then (Code.wp Try.prog C32 (Exit.then (W.LoopWP Try.prog C16 (Q2 R)) (Q2 R))) (Exit.then (W.LoopWP Try.prog C16 (Q2 R)) (Q2 R)))
noncomputable def C33 : Code := W.Code.snd C22
abbrev Q4 (R : W.Post) : Exit → Act → World → Prop := (Exit.then (Code.wp Try.prog C33 (Exit.inBlock 1 (Q3 R))) (Exit.inBlock 1 (Q3 R)))
noncomputable def C34 : Code := W.Code.snd C28
abbrev Q5 (R : W.Post) : Exit → Act → World → Prop := (Exit.then (Code.wp Try.prog C34 (Exit.inBlock 2 (Q4 R))) (Exit.inBlock 2 (Q4 R)))
noncomputable def C35 : Code := W.Code.fst C31
noncomputable def C36 : Code := W.Code.snd C31
/-- law.go:151 -/
def S17  (w : World) (R : W.Post) : Prop :=
  R (.returned (.bool false)) w
def KE_S17 (E : W.Env) (w : World) (R : W.Post) : Prop := S17  w R
theorem KE_S17_ok (R : W.Post) (E : W.Env) (w : World) (h : KE_S17 E w R) : W.WP Try.prog 197 C31 (Q5 R) E w := by
  exact fun a ha => W.WP.at (E := []) (W.WP.seq (c := C31) (x := C35) (y := C36) (by kernel_rfl) <| W.WP.reg (c := C35) (fun E w => W.retVC Try.prog Try.f4 E w (fun v => R (.returned v) w)) (by kernel_rfl) (Eq.mp (by kernel_rfl) h) fun _ _ a hA hK => (W.WP.ret (c := C36) (by kernel_rfl) fun a hA => W.retVC_sound hA hK) a hA) ha.nil
noncomputable def C37 : Code := W.Code.snd C33
noncomputable def C38 : Code := W.Code.fst C37
noncomputable def C39 : Code := W.Code.fst C38
abbrev Q6 (R : W.Post) : Exit → Act → World → Prop := (Exit.inBlock 1 (Q3 R))
abbrev Q7 (R : W.Post) : Exit → Act → World → Prop := (Exit.inBlock 7 (Q6 R))
/-- the head of the loop, law.go:174 -/
def L20 (l1 e5 sent6 got7 link8 to9 : W.Sl) (i10 j20 : Int) (w : World) (R : W.Post) : Prop := W.LP Try.prog 197 C39 (Q7 R) [(1, l1.v), (5, e5.v), (6, sent6.v), (7, got7.v), (8, link8.v), (9, to9.v), (10, .int .i64 i10), (20, .int .i64 j20)] w
def KE_L20 (E : W.Env) (w : World) (R : W.Post) : Prop := W.asSlice (W.Env.get? E 1) fun l1 => W.asSlice (W.Env.get? E 5) fun e5 => W.asSlice (W.Env.get? E 6) fun sent6 => W.asSlice (W.Env.get? E 7) fun got7 => W.asSlice (W.Env.get? E 8) fun link8 => W.asSlice (W.Env.get? E 9) fun to9 => W.asInt .i64 (W.Env.get? E 10) fun i10 => W.asInt .i64 (W.Env.get? E 20) fun j20 => L20 l1 e5 sent6 got7 link8 to9 i10 j20 w R
theorem KE_L20_ok (R : W.Post) (E : W.Env) (w : World) (h : KE_L20 E w R) : W.LP Try.prog 197 C39 (Q7 R) E w := by
  obtain ⟨l1, hq1, h1⟩ := W.asSlice_elim h
  obtain ⟨e5, hq5, h2⟩ := W.asSlice_elim h1
  obtain ⟨sent6, hq6, h3⟩ := W.asSlice_elim h2
  obtain ⟨got7, hq7, h4⟩ := W.asSlice_elim h3
  obtain ⟨link8, hq8, h5⟩ := W.asSlice_elim h4
  obtain ⟨to9, hq9, h6⟩ := W.asSlice_elim h5
  obtain ⟨i10, hq10, h7⟩ := W.asInt_elim h6
  obtain ⟨j20, hq20, h8⟩ := W.asInt_elim h7
  intro a ha
  exact h8 a (ha.cons hq1 (ha.cons hq5 (ha.cons hq6 (ha.cons hq7 (ha.cons hq8 (ha.cons hq9 (ha.cons hq10 (ha.cons hq20 ha.nil))))))))
noncomputable def C40 : Code := W.Code.snd C39
noncomputable def C41 : Code := W.Code.fst C40
noncomputable def C42 : Code := W.Code.fst C41
noncomputable def C43 : Code := W.Code.snd C42
noncomputable def C44 : Code := W.Code.fst C43
noncomputable def C45 : Code := W.Code.snd C40
abbrev Q8 (R : W.Post) : Exit → Act → World → Prop := (Exit.then (Code.wp Try.prog C45 (Exit.then (W.LoopWP Try.prog C39 (Q7 R)) (Q7 R))) (Exit.then (W.LoopWP Try.prog C39 (Q7 R)) (Q7 R)))
abbrev Q9 (R : W.Post) : Exit → Act → World → Prop := (Exit.inBlock 8 (Q8 R))
noncomputable def C46 : Code := W.Code.fst C44
noncomputable def C47 : Code := W.Code.snd C44
/-- law.go:176 -/
def S23  (w : World) (R : W.Post) : Prop :=
  R (.returned (.bool false)) w
def KE_S23 (E : W.Env) (w : World) (R : W.Post) : Prop := S23  w R
theorem KE_S23_ok (R : W.Post) (E : W.Env) (w : World) (h : KE_S23 E w R) : W.WP Try.prog 197 C44 (Q9 R) E w := by
  exact fun a ha => W.WP.at (E := []) (W.WP.seq (c := C44) (x := C46) (y := C47) (by kernel_rfl) <| W.WP.reg (c := C46) (fun E w => W.retVC Try.prog Try.f4 E w (fun v => R (.returned v) w)) (by kernel_rfl) (Eq.mp (by kernel_rfl) h) fun _ _ a hA hK => (W.WP.ret (c := C47) (by kernel_rfl) fun a hA => W.retVC_sound hA hK) a hA) ha.nil
abbrev Q10 (R : W.Post) : Exit → Act → World → Prop := (Exit.then (W.LoopWP Try.prog C39 (Q7 R)) (Q7 R))
/-- law.go:174 -/
def S24 (l1 e5 sent6 got7 link8 to9 : W.Sl) (i10 j20 : Int) (w : World) (R : W.Post) : Prop :=
  L20 l1 e5 sent6 got7 link8 to9 i10 (IntKind.wrap .i64 (j20 + 1)) w R
def KE_S24 (E : W.Env) (w : World) (R : W.Post) : Prop := W.asSlice (W.Env.get? E 1) fun l1 => W.asSlice (W.Env.get? E 5) fun e5 => W.asSlice (W.Env.get? E 6) fun sent6 => W.asSlice (W.Env.get? E 7) fun got7 => W.asSlice (W.Env.get? E 8) fun link8 => W.asSlice (W.Env.get? E 9) fun to9 => W.asInt .i64 (W.Env.get? E 10) fun i10 => W.asInt .i64 (W.Env.get? E 20) fun j20 => S24 l1 e5 sent6 got7 link8 to9 i10 j20 w R
theorem KE_S24_ok (R : W.Post) (E : W.Env) (w : World) (h : KE_S24 E w R) : W.WP Try.prog 197 C45 (Q10 R) E w := by
  obtain ⟨l1, hq1, h1⟩ := W.asSlice_elim h
  obtain ⟨e5, hq5, h2⟩ := W.asSlice_elim h1
  obtain ⟨sent6, hq6, h3⟩ := W.asSlice_elim h2
  obtain ⟨got7, hq7, h4⟩ := W.asSlice_elim h3
  obtain ⟨link8, hq8, h5⟩ := W.asSlice_elim h4
  obtain ⟨to9, hq9, h6⟩ := W.asSlice_elim h5
  obtain ⟨i10, hq10, h7⟩ := W.asInt_elim h6
  obtain ⟨j20, hq20, h8⟩ := W.asInt_elim h7
  exact fun a ha => W.WP.at (E := [(1, l1.v), (5, e5.v), (6, sent6.v), (7, got7.v), (8, link8.v), (9, to9.v), (10, .int .i64 i10), (20, .int .i64 j20)]) (W.WP.reg (c := C45) (fun E w => KE_L20 E w R) (by kernel_rfl) (Eq.mp (by kernel_rfl) h8) fun _ _ a hA hK => KE_L20_ok R _ _ hK a hA) (ha.cons hq1 (ha.cons hq5 (ha.cons hq6 (ha.cons hq7 (ha.cons hq8 (ha.cons hq9 (ha.cons hq10 (ha.cons hq20 ha.nil))))))))
noncomputable def C48 : Code := W.Code.fst C42
noncomputable def C49 : Code := W.Code.snd C43
/-- law.go:175 -/
def S22 (l1 e5 sent6 got7 link8 to9 : W.Sl) (i10 j20 : Int) (w : World) (R : W.Post) : Prop :=
  (0 : Int) ≤ j20 ∧ j20 < ((e5.n : Nat) : Int) ∧ W.optP e5.a fun t168_p => ∃ t169 : Option Addr, w.drew.cell? (t168_p.add (Int.toNat j20 * 1)) = some (.pointer t169) ∧ 
  (0 : Int) ≤ j20 ∧ j20 < ((sent6.n : Nat) : Int) ∧ W.optP sent6.a fun t173_p => ∃ t174 : W.Sl, w.drew.cell? (t173_p.add (Int.toNat j20 * 1)) = some (t174.v) ∧ 
  Calls Try.prog n_channel_End_Waiting #[.pointer t169] w.drew fun r_ w1 => ∃ t170 : Int, r_ = .returned (.int .i64 t170) ∧ 
  w1.cell? (t173_p.add (Int.toNat j20 * 1)) = some (t174.v) ∧ W.sel (decide (t170 > ((t174.n : Nat) : Int))) (S23  w1 R) ((0 : Int) ≤ j20 ∧ j20 < ((e5.n : Nat) : Int) ∧ W.optP e5.a fun t180_p => ∃ t181 : Option Addr, w1.cell? (t180_p.add (Int.toNat j20 * 1)) = some (.pointer t181) ∧ 
  (0 : Int) ≤ j20 ∧ j20 < ((sent6.n : Nat) : Int) ∧ W.optP sent6.a fun t185_p => ∃ t186 : W.Sl, w1.cell? (t185_p.add (Int.toNat j20 * 1)) = some (t186.v) ∧ 
  (0 : Int) ≤ (IntKind.wrap .i64 (1 - j20)) ∧ (IntKind.wrap .i64 (1 - j20)) < ((got7.n : Nat) : Int) ∧ W.optP got7.a fun t191_p => ∃ t192 : Int, w1.cell? (t191_p.add (Int.toNat (IntKind.wrap .i64 (1 - j20)) * 1)) = some (.int .i64 t192) ∧ 
  Calls Try.prog n_channel_End_Waiting #[.pointer t181] w1 fun r_ w2 => ∃ t182 : Int, r_ = .returned (.int .i64 t182) ∧ 
  w2.cell? (t191_p.add (Int.toNat (IntKind.wrap .i64 (1 - j20)) * 1)) = some (.int .i64 t192) ∧ w2.cell? (t185_p.add (Int.toNat j20 * 1)) = some (t186.v) ∧ w2.cell? (t173_p.add (Int.toNat j20 * 1)) = some (t174.v) ∧ W.sel (decide (t182 < (IntKind.wrap .i64 (((t186.n : Nat) : Int) - t192)))) (S23  w2 R) (S24 l1 e5 sent6 got7 link8 to9 i10 j20 w2 R))
def KE_S22 (E : W.Env) (w : World) (R : W.Post) : Prop := W.asSlice (W.Env.get? E 1) fun l1 => W.asSlice (W.Env.get? E 5) fun e5 => W.asSlice (W.Env.get? E 6) fun sent6 => W.asSlice (W.Env.get? E 7) fun got7 => W.asSlice (W.Env.get? E 8) fun link8 => W.asSlice (W.Env.get? E 9) fun to9 => W.asInt .i64 (W.Env.get? E 10) fun i10 => W.asInt .i64 (W.Env.get? E 20) fun j20 => S22 l1 e5 sent6 got7 link8 to9 i10 j20 w R
theorem KE_S22_ok (R : W.Post) (E : W.Env) (w : World) (h : KE_S22 E w R) : W.WP Try.prog 197 C42 (Q9 R) E w := by
  obtain ⟨l1, hq1, h1⟩ := W.asSlice_elim h
  obtain ⟨e5, hq5, h2⟩ := W.asSlice_elim h1
  obtain ⟨sent6, hq6, h3⟩ := W.asSlice_elim h2
  obtain ⟨got7, hq7, h4⟩ := W.asSlice_elim h3
  obtain ⟨link8, hq8, h5⟩ := W.asSlice_elim h4
  obtain ⟨to9, hq9, h6⟩ := W.asSlice_elim h5
  obtain ⟨i10, hq10, h7⟩ := W.asInt_elim h6
  obtain ⟨j20, hq20, h8⟩ := W.asInt_elim h7
  exact fun a ha => W.WP.at (E := [(1, l1.v), (5, e5.v), (6, sent6.v), (7, got7.v), (8, link8.v), (9, to9.v), (10, .int .i64 i10), (20, .int .i64 j20)]) (W.WP.seq (c := C42) (x := C48) (y := C43) (by kernel_rfl) <| W.WP.draw (c := C48) [0, 1, 2, 3, 5, 6, 7, 8, 9, 4, 10, 11, 12, 13, 14, 15, 17, 18, 19, 20, 21, 22, 23, 24, 25, 26, 27, 16, 28, 29] (fun E w => W.condK (W.Env.val E (.tmp 195)) (KE_S23 E w R) (KE_S24 E w R)) (by kernel_rfl) (Eq.mp (by kernel_rfl) h8) fun _ _ a hA hK => (W.WP.condK (c := C43) (x := C44) (y := C49) (o := .tmp 195) (by kernel_rfl) (fun hK => (KE_S23_ok R _ _ hK)) (fun hK => (W.WP.skip (c := C49) (by kernel_rfl) fun a hA => (KE_S24_ok R _ _ hK) a hA)) hK) a hA) (ha.cons hq1 (ha.cons hq5 (ha.cons hq6 (ha.cons hq7 (ha.cons hq8 (ha.cons hq9 (ha.cons hq10 (ha.cons hq20 ha.nil))))))))
abbrev Q11 (R : W.Post) : Exit → Act → World → Prop := (Exit.then (W.LoopWP Try.prog C16 (Q2 R)) (Q2 R))
/-- law.go:144 -/
def S25 (l1 e5 sent6 got7 link8 to9 : W.Sl) (i10 : Int) (w : World) (R : W.Post) : Prop :=
  L9 l1 e5 sent6 got7 link8 to9 (IntKind.wrap .i64 (i10 + 1)) w R
def KE_S25 (E : W.Env) (w : World) (R : W.Post) : Prop := W.asSlice (W.Env.get? E 1) fun l1 => W.asSlice (W.Env.get? E 5) fun e5 => W.asSlice (W.Env.get? E 6) fun sent6 => W.asSlice (W.Env.get? E 7) fun got7 => W.asSlice (W.Env.get? E 8) fun link8 => W.asSlice (W.Env.get? E 9) fun to9 => W.asInt .i64 (W.Env.get? E 10) fun i10 => S25 l1 e5 sent6 got7 link8 to9 i10 w R
theorem KE_S25_ok (R : W.Post) (E : W.Env) (w : World) (h : KE_S25 E w R) : W.WP Try.prog 197 C32 (Q11 R) E w := by
  obtain ⟨l1, hq1, h1⟩ := W.asSlice_elim h
  obtain ⟨e5, hq5, h2⟩ := W.asSlice_elim h1
  obtain ⟨sent6, hq6, h3⟩ := W.asSlice_elim h2
  obtain ⟨got7, hq7, h4⟩ := W.asSlice_elim h3
  obtain ⟨link8, hq8, h5⟩ := W.asSlice_elim h4
  obtain ⟨to9, hq9, h6⟩ := W.asSlice_elim h5
  obtain ⟨i10, hq10, h7⟩ := W.asInt_elim h6
  exact fun a ha => W.WP.at (E := [(1, l1.v), (5, e5.v), (6, sent6.v), (7, got7.v), (8, link8.v), (9, to9.v), (10, .int .i64 i10)]) (W.WP.reg (c := C32) (fun E w => KE_L9 E w R) (by kernel_rfl) (Eq.mp (by kernel_rfl) h7) fun _ _ a hA hK => KE_L9_ok R _ _ hK a hA) (ha.cons hq1 (ha.cons hq5 (ha.cons hq6 (ha.cons hq7 (ha.cons hq8 (ha.cons hq9 (ha.cons hq10 ha.nil)))))))
noncomputable def C50 : Code := W.Code.fst C39
abbrev Q12 (R : W.Post) : Exit → Act → World → Prop := (Exit.then (Code.wp Try.prog C40 (Exit.then (W.LoopWP Try.prog C39 (Q7 R)) (Q7 R))) (Exit.then (W.LoopWP Try.prog C39 (Q7 R)) (Q7 R)))
noncomputable def C51 : Code := W.Code.fst C50
noncomputable def C52 : Code := W.Code.snd C50
noncomputable def C53 : Code := W.Code.fst C52
noncomputable def C54 : Code := W.Code.snd C52
/-- law.go:174 -/
def S21 (l1 e5 sent6 got7 link8 to9 : W.Sl) (i10 j20 : Int) (w : World) (R : W.Post) : Prop :=
  W.sel (decide (j20 < 2)) (S22 l1 e5 sent6 got7 link8 to9 i10 j20 w R) (S25 l1 e5 sent6 got7 link8 to9 i10 w R)
def KE_S21 (E : W.Env) (w : World) (R : W.Post) : Prop := W.asSlice (W.Env.get? E 1) fun l1 => W.asSlice (W.Env.get? E 5) fun e5 => W.asSlice (W.Env.get? E 6) fun sent6 => W.asSlice (W.Env.get? E 7) fun got7 => W.asSlice (W.Env.get? E 8) fun link8 => W.asSlice (W.Env.get? E 9) fun to9 => W.asInt .i64 (W.Env.get? E 10) fun i10 => W.asInt .i64 (W.Env.get? E 20) fun j20 => S21 l1 e5 sent6 got7 link8 to9 i10 j20 w R
theorem KE_S21_ok (R : W.Post) (E : W.Env) (w : World) (h : KE_S21 E w R) : W.WP Try.prog 197 C50 (Q12 R) E w := by
  obtain ⟨l1, hq1, h1⟩ := W.asSlice_elim h
  obtain ⟨e5, hq5, h2⟩ := W.asSlice_elim h1
  obtain ⟨sent6, hq6, h3⟩ := W.asSlice_elim h2
  obtain ⟨got7, hq7, h4⟩ := W.asSlice_elim h3
  obtain ⟨link8, hq8, h5⟩ := W.asSlice_elim h4
  obtain ⟨to9, hq9, h6⟩ := W.asSlice_elim h5
  obtain ⟨i10, hq10, h7⟩ := W.asInt_elim h6
  obtain ⟨j20, hq20, h8⟩ := W.asInt_elim h7
  exact fun a ha => W.WP.at (E := [(1, l1.v), (5, e5.v), (6, sent6.v), (7, got7.v), (8, link8.v), (9, to9.v), (10, .int .i64 i10), (20, .int .i64 j20)]) (W.WP.seq (c := C50) (x := C51) (y := C52) (by kernel_rfl) <| W.WP.reg (c := C51) (fun E w => W.condK (W.Env.val E (.tmp 163)) (KE_S22 E w R) (KE_S25 E w R)) (by kernel_rfl) (Eq.mp (by kernel_rfl) h8) fun _ _ a hA hK => (W.WP.condK (c := C52) (x := C53) (y := C54) (o := .tmp 163) (by kernel_rfl) (fun hK => (W.WP.skip (c := C53) (by kernel_rfl) fun a hA => (W.WP.seq (c := C40) (x := C41) (y := C45) (by kernel_rfl) (W.WP.block (c := C41) (x := C42) (id := 8) (by kernel_rfl) (KE_S22_ok R _ _ hK))) a hA)) (fun hK => (W.WP.exit (c := C54) (id := 7) (by kernel_rfl) fun a hA => (KE_S25_ok R _ _ hK) a hA)) hK) a hA) (ha.cons hq1 (ha.cons hq5 (ha.cons hq6 (ha.cons hq7 (ha.cons hq8 (ha.cons hq9 (ha.cons hq10 (ha.cons hq20 ha.nil))))))))
theorem L20_step (l1 e5 sent6 got7 link8 to9 : W.Sl) (i10 j20 : Int) (w : World) (R : W.Post) (h : S21 l1 e5 sent6 got7 link8 to9 i10 j20 w R) : L20 l1 e5 sent6 got7 link8 to9 i10 j20 w R :=
  W.LP.step (c := C39) (E := [(1, l1.v), (5, e5.v), (6, sent6.v), (7, got7.v), (8, link8.v), (9, to9.v), (10, .int .i64 i10), (20, .int .i64 j20)]) (w := w) (W.WP.seq (c := C39) (x := C50) (y := C40) (by kernel_rfl) (KE_S21_ok R _ _ (Eq.mp (by kernel_rfl) h)))
noncomputable def C55 : Code := W.Code.fst C33
/-- law.go:174 -/
def S19 (l1 e5 sent6 got7 link8 to9 : W.Sl) (i10 : Int) (w : World) (R : W.Post) : Prop :=
  L20 l1 e5 sent6 got7 link8 to9 i10 0 w R
def KE_S19 (E : W.Env) (w : World) (R : W.Post) : Prop := W.asSlice (W.Env.get? E 1) fun l1 => W.asSlice (W.Env.get? E 5) fun e5 => W.asSlice (W.Env.get? E 6) fun sent6 => W.asSlice (W.Env.get? E 7) fun got7 => W.asSlice (W.Env.get? E 8) fun link8 => W.asSlice (W.Env.get? E 9) fun to9 => W.asInt .i64 (W.Env.get? E 10) fun i10 => S19 l1 e5 sent6 got7 link8 to9 i10 w R
theorem KE_S19_ok (R : W.Post) (E : W.Env) (w : World) (h : KE_S19 E w R) : W.WP Try.prog 197 C33 (Q6 R) E w := by
  obtain ⟨l1, hq1, h1⟩ := W.asSlice_elim h
  obtain ⟨e5, hq5, h2⟩ := W.asSlice_elim h1
  obtain ⟨sent6, hq6, h3⟩ := W.asSlice_elim h2
  obtain ⟨got7, hq7, h4⟩ := W.asSlice_elim h3
  obtain ⟨link8, hq8, h5⟩ := W.asSlice_elim h4
  obtain ⟨to9, hq9, h6⟩ := W.asSlice_elim h5
  obtain ⟨i10, hq10, h7⟩ := W.asInt_elim h6
  exact fun a ha => W.WP.at (E := [(1, l1.v), (5, e5.v), (6, sent6.v), (7, got7.v), (8, link8.v), (9, to9.v), (10, .int .i64 i10)]) (W.WP.seq (c := C33) (x := C55) (y := C37) (by kernel_rfl) <| W.WP.reg (c := C55) (fun E w => KE_L20 E w R) (by kernel_rfl) (Eq.mp (by kernel_rfl) h7) fun _ _ a hA hK => (W.WP.block (c := C37) (x := C38) (id := 7) (by kernel_rfl) (W.WP.loop (c := C38) (x := C39) (by kernel_rfl) (KE_L20_ok R _ _ hK))) a hA) (ha.cons hq1 (ha.cons hq5 (ha.cons hq6 (ha.cons hq7 (ha.cons hq8 (ha.cons hq9 (ha.cons hq10 ha.nil)))))))
abbrev Q13 (R : W.Post) : Exit → Act → World → Prop := (Exit.inBlock 2 (Q4 R))
/-- law.go:153 -/
def S18 (l1 e5 sent6 got7 link8 to9 : W.Sl) (i10 k12 : Int) (b13 : W.Sl) (w : World) (R : W.Post) : Prop :=
  (0 : Int) ≤ k12 ∧ k12 < ((sent6.n : Nat) : Int) ∧ W.optP sent6.a fun t130_p => ∃ t131 : W.Sl, w.cell? (t130_p.add (Int.toNat k12 * 1)) = some (t131.v) ∧ 
  let w1 := w.alloc (.cells #[b13.v] ty_sl_uint8)
  ∃ (t134 : W.Sl) (w2 : World), Sem.run Try.prog (Builtin.append_ #[ty_sl_sl_uint8, ty_sl_sl_uint8] ty_sl_sl_uint8 #[t131.v, .slice (some (Addr.mk w.heap.size 0 none)) 1 1]) w1 = .ok (t134.v) w2 ∧ (0 : Int) ≤ k12 ∧ k12 < ((sent6.n : Nat) : Int) ∧ W.optP sent6.a fun t135_p => (w2.cell? (t135_p.add (Int.toNat k12 * 1))).isSome = true ∧ w2.frozen? (t135_p.add (Int.toNat k12 * 1)) = false ∧ let w3 := w2.setCell (t135_p.add (Int.toNat k12 * 1)) (t134.v)
  S19 l1 e5 sent6 got7 link8 to9 i10 w3 R
def KE_S18 (E : W.Env) (w : World) (R : W.Post) : Prop := W.asSlice (W.Env.get? E 1) fun l1 => W.asSlice (W.Env.get? E 5) fun e5 => W.asSlice (W.Env.get? E 6) fun sent6 => W.asSlice (W.Env.get? E 7) fun got7 => W.asSlice (W.Env.get? E 8) fun link8 => W.asSlice (W.Env.get? E 9) fun to9 => W.asInt .i64 (W.Env.get? E 10) fun i10 => W.asInt .i64 (W.Env.get? E 12) fun k12 => W.asSlice (W.Env.get? E 13) fun b13 => S18 l1 e5 sent6 got7 link8 to9 i10 k12 b13 w R
theorem KE_S18_ok (R : W.Post) (E : W.Env) (w : World) (h : KE_S18 E w R) : W.WP Try.prog 197 C34 (Q13 R) E w := by
  obtain ⟨l1, hq1, h1⟩ := W.asSlice_elim h
  obtain ⟨e5, hq5, h2⟩ := W.asSlice_elim h1
  obtain ⟨sent6, hq6, h3⟩ := W.asSlice_elim h2
  obtain ⟨got7, hq7, h4⟩ := W.asSlice_elim h3
  obtain ⟨link8, hq8, h5⟩ := W.asSlice_elim h4
  obtain ⟨to9, hq9, h6⟩ := W.asSlice_elim h5
  obtain ⟨i10, hq10, h7⟩ := W.asInt_elim h6
  obtain ⟨k12, hq12, h8⟩ := W.asInt_elim h7
  obtain ⟨b13, hq13, h9⟩ := W.asSlice_elim h8
  exact fun a ha => W.WP.at (E := [(1, l1.v), (5, e5.v), (6, sent6.v), (7, got7.v), (8, link8.v), (9, to9.v), (10, .int .i64 i10), (12, .int .i64 k12), (13, b13.v)]) (W.WP.reg (c := C34) (fun E w => KE_S19 E w R) (by kernel_rfl) (Eq.mp (by kernel_rfl) h9) fun _ _ a hA hK => (KE_S19_ok R _ _ hK) a hA) (ha.cons hq1 (ha.cons hq5 (ha.cons hq6 (ha.cons hq7 (ha.cons hq8 (ha.cons hq9 (ha.cons hq10 (ha.cons hq12 (ha.cons hq13 ha.nil)))))))))
noncomputable def C56 : Code := W.Code.fst C29
noncomputable def C57 : Code := W.Code.snd C30
/-- law.go:150 -/
def S16 (l1 e5 sent6 got7 link8 to9 : W.Sl) (i10 k12 : Int) (b13 : W.Sl) (w : World) (R : W.Post) : Prop :=
  (0 : Int) ≤ k12 ∧ k12 < ((e5.n : Nat) : Int) ∧ W.optP e5.a fun t121_p => ∃ t122 : Option Addr, w.cell? (t121_p.add (Int.toNat k12 * 1)) = some (.pointer t122) ∧ 
  Calls Try.prog n_channel_End_Send #[.pointer t122, b13.v] w fun r_ w1 => ∃ t124 : Int, r_ = .returned (.int .i64 t124) ∧ 
  W.sel (t124 != 0) (S17  w1 R) (S18 l1 e5 sent6 got7 link8 to9 i10 k12 b13 w1 R)
def KE_S16 (E : W.Env) (w : World) (R : W.Post) : Prop := W.asSlice (W.Env.get? E 1) fun l1 => W.asSlice (W.Env.get? E 5) fun e5 => W.asSlice (W.Env.get? E 6) fun sent6 => W.asSlice (W.Env.get? E 7) fun got7 => W.asSlice (W.Env.get? E 8) fun link8 => W.asSlice (W.Env.get? E 9) fun to9 => W.asInt .i64 (W.Env.get? E 10) fun i10 => W.asInt .i64 (W.Env.get? E 12) fun k12 => W.asSlice (W.Env.get? E 13) fun b13 => S16 l1 e5 sent6 got7 link8 to9 i10 k12 b13 w R
theorem KE_S16_ok (R : W.Post) (E : W.Env) (w : World) (h : KE_S16 E w R) : W.WP Try.prog 197 C29 (Q5 R) E w := by
  obtain ⟨l1, hq1, h1⟩ := W.asSlice_elim h
  obtain ⟨e5, hq5, h2⟩ := W.asSlice_elim h1
  obtain ⟨sent6, hq6, h3⟩ := W.asSlice_elim h2
  obtain ⟨got7, hq7, h4⟩ := W.asSlice_elim h3
  obtain ⟨link8, hq8, h5⟩ := W.asSlice_elim h4
  obtain ⟨to9, hq9, h6⟩ := W.asSlice_elim h5
  obtain ⟨i10, hq10, h7⟩ := W.asInt_elim h6
  obtain ⟨k12, hq12, h8⟩ := W.asInt_elim h7
  obtain ⟨b13, hq13, h9⟩ := W.asSlice_elim h8
  exact fun a ha => W.WP.at (E := [(1, l1.v), (5, e5.v), (6, sent6.v), (7, got7.v), (8, link8.v), (9, to9.v), (10, .int .i64 i10), (12, .int .i64 k12), (13, b13.v)]) (W.WP.seq (c := C29) (x := C56) (y := C30) (by kernel_rfl) <| W.WP.reg (c := C56) (fun E w => W.condK (W.Env.val E (.tmp 125)) (KE_S17 E w R) (KE_S18 E w R)) (by kernel_rfl) (Eq.mp (by kernel_rfl) h9) fun _ _ a hA hK => (W.WP.condK (c := C30) (x := C31) (y := C57) (o := .tmp 125) (by kernel_rfl) (fun hK => (KE_S17_ok R _ _ hK)) (fun hK => (W.WP.skip (c := C57) (by kernel_rfl) fun a hA => (KE_S18_ok R _ _ hK) a hA)) hK) a hA) (ha.cons hq1 (ha.cons hq5 (ha.cons hq6 (ha.cons hq7 (ha.cons hq8 (ha.cons hq9 (ha.cons hq10 (ha.cons hq12 (ha.cons hq13 ha.nil)))))))))
noncomputable def C58 : Code := W.Code.fst C27
/-- law.go:149 -/
def S15 (l1 e5 sent6 got7 link8 to9 : W.Sl) (i10 k12 : Int) (w : World) (R : W.Post) : Prop :=
  let w1 := w.alloc (.cells #[.int .u8 (IntKind.wrap .u8 i10), .int .u8 3] ty_uint8)
  S16 l1 e5 sent6 got7 link8 to9 i10 k12 ⟨some (Addr.mk w.heap.size 0 none), 2, 2⟩ w1 R
def KE_S15 (E : W.Env) (w : World) (R : W.Post) : Prop := W.asSlice (W.Env.get? E 1) fun l1 => W.asSlice (W.Env.get? E 5) fun e5 => W.asSlice (W.Env.get? E 6) fun sent6 => W.asSlice (W.Env.get? E 7) fun got7 => W.asSlice (W.Env.get? E 8) fun link8 => W.asSlice (W.Env.get? E 9) fun to9 => W.asInt .i64 (W.Env.get? E 10) fun i10 => W.asInt .i64 (W.Env.get? E 12) fun k12 => S15 l1 e5 sent6 got7 link8 to9 i10 k12 w R
theorem KE_S15_ok (R : W.Post) (E : W.Env) (w : World) (h : KE_S15 E w R) : W.WP Try.prog 197 C27 (Q13 R) E w := by
  obtain ⟨l1, hq1, h1⟩ := W.asSlice_elim h
  obtain ⟨e5, hq5, h2⟩ := W.asSlice_elim h1
  obtain ⟨sent6, hq6, h3⟩ := W.asSlice_elim h2
  obtain ⟨got7, hq7, h4⟩ := W.asSlice_elim h3
  obtain ⟨link8, hq8, h5⟩ := W.asSlice_elim h4
  obtain ⟨to9, hq9, h6⟩ := W.asSlice_elim h5
  obtain ⟨i10, hq10, h7⟩ := W.asInt_elim h6
  obtain ⟨k12, hq12, h8⟩ := W.asInt_elim h7
  exact fun a ha => W.WP.at (E := [(1, l1.v), (5, e5.v), (6, sent6.v), (7, got7.v), (8, link8.v), (9, to9.v), (10, .int .i64 i10), (12, .int .i64 k12)]) (W.WP.seq (c := C27) (x := C58) (y := C28) (by kernel_rfl) <| W.WP.reg (c := C58) (fun E w => KE_S16 E w R) (by kernel_rfl) (Eq.mp (by kernel_rfl) h8) fun _ _ a hA hK => (W.WP.seq (c := C28) (x := C29) (y := C34) (by kernel_rfl) (KE_S16_ok R _ _ hK)) a hA) (ha.cons hq1 (ha.cons hq5 (ha.cons hq6 (ha.cons hq7 (ha.cons hq8 (ha.cons hq9 (ha.cons hq10 (ha.cons hq12 ha.nil))))))))
noncomputable def C59 : Code := W.Code.snd C26
noncomputable def C60 : Code := W.Code.snd C59
noncomputable def C61 : Code := W.Code.fst C60
noncomputable def C62 : Code := W.Code.snd C61
noncomputable def C63 : Code := W.Code.snd C62
noncomputable def C64 : Code := W.Code.fst C63
noncomputable def C65 : Code := W.Code.fst C64
abbrev Q14 (R : W.Post) : Exit → Act → World → Prop := (Exit.inBlock 5 (Q13 R))
/-- the head of the loop, law.go:156 -/
def L29 (l1 e5 sent6 got7 link8 to9 : W.Sl) (i10 k12 : Int) (p14 : W.Sl) (j15 : Int) (w : World) (R : W.Post) : Prop := W.LP Try.prog 197 C65 (Q14 R) [(1, l1.v), (5, e5.v), (6, sent6.v), (7, got7.v), (8, link8.v), (9, to9.v), (10, .int .i64 i10), (12, .int .i64 k12), (14, p14.v), (15, .int .i64 j15)] w
def KE_L29 (E : W.Env) (w : World) (R : W.Post) : Prop := W.asSlice (W.Env.get? E 1) fun l1 => W.asSlice (W.Env.get? E 5) fun e5 => W.asSlice (W.Env.get? E 6) fun sent6 => W.asSlice (W.Env.get? E 7) fun got7 => W.asSlice (W.Env.get? E 8) fun link8 => W.asSlice (W.Env.get? E 9) fun to9 => W.asInt .i64 (W.Env.get? E 10) fun i10 => W.asInt .i64 (W.Env.get? E 12) fun k12 => W.asSlice (W.Env.get? E 14) fun p14 => W.asInt .i64 (W.Env.get? E 15) fun j15 => L29 l1 e5 sent6 got7 link8 to9 i10 k12 p14 j15 w R
theorem KE_L29_ok (R : W.Post) (E : W.Env) (w : World) (h : KE_L29 E w R) : W.LP Try.prog 197 C65 (Q14 R) E w := by
  obtain ⟨l1, hq1, h1⟩ := W.asSlice_elim h
  obtain ⟨e5, hq5, h2⟩ := W.asSlice_elim h1
  obtain ⟨sent6, hq6, h3⟩ := W.asSlice_elim h2
  obtain ⟨got7, hq7, h4⟩ := W.asSlice_elim h3
  obtain ⟨link8, hq8, h5⟩ := W.asSlice_elim h4
  obtain ⟨to9, hq9, h6⟩ := W.asSlice_elim h5
  obtain ⟨i10, hq10, h7⟩ := W.asInt_elim h6
  obtain ⟨k12, hq12, h8⟩ := W.asInt_elim h7
  obtain ⟨p14, hq14, h9⟩ := W.asSlice_elim h8
  obtain ⟨j15, hq15, h10⟩ := W.asInt_elim h9
  intro a ha
  exact h10 a (ha.cons hq1 (ha.cons hq5 (ha.cons hq6 (ha.cons hq7 (ha.cons hq8 (ha.cons hq9 (ha.cons hq10 (ha.cons hq12 (ha.cons hq14 (ha.cons hq15 ha.nil))))))))))
noncomputable def C66 : Code := W.Code.snd C65
noncomputable def C67 : Code := W.Code.snd C66
abbrev Q15 (R : W.Post) : Exit → Act → World → Prop := (Exit.then (W.LoopWP Try.prog C65 (Q14 R)) (Q14 R))
/-- law.go:156 -/
def S33 (l1 e5 sent6 got7 link8 to9 : W.Sl) (i10 k12 : Int) (p14 : W.Sl) (j15 : Int) (w : World) (R : W.Post) : Prop :=
  L29 l1 e5 sent6 got7 link8 to9 i10 k12 p14 (IntKind.wrap .i64 (j15 + 1)) w R
def KE_S33 (E : W.Env) (w : World) (R : W.Post) : Prop := W.asSlice (W.Env.get? E 1) fun l1 => W.asSlice (W.Env.get? E 5) fun e5 => W.asSlice (W.Env.get? E 6) fun sent6 => W.asSlice (W.Env.get? E 7) fun got7 => W.asSlice (W.Env.get? E 8) fun link8 => W.asSlice (W.Env.get? E 9) fun to9 => W.asInt .i64 (W.Env.get? E 10) fun i10 => W.asInt .i64 (W.Env.get? E 12) fun k12 => W.asSlice (W.Env.get? E 14) fun p14 => W.asInt .i64 (W.Env.get? E 15) fun j15 => S33 l1 e5 sent6 got7 link8 to9 i10 k12 p14 j15 w R
theorem KE_S33_ok (R : W.Post) (E : W.Env) (w : World) (h : KE_S33 E w R) : W.WP Try.prog 197 C67 (Q15 R) E w := by
  obtain ⟨l1, hq1, h1⟩ := W.asSlice_elim h
  obtain ⟨e5, hq5, h2⟩ := W.asSlice_elim h1
  obtain ⟨sent6, hq6, h3⟩ := W.asSlice_elim h2
  obtain ⟨got7, hq7, h4⟩ := W.asSlice_elim h3
  obtain ⟨link8, hq8, h5⟩ := W.asSlice_elim h4
  obtain ⟨to9, hq9, h6⟩ := W.asSlice_elim h5
  obtain ⟨i10, hq10, h7⟩ := W.asInt_elim h6
  obtain ⟨k12, hq12, h8⟩ := W.asInt_elim h7
  obtain ⟨p14, hq14, h9⟩ := W.asSlice_elim h8
  obtain ⟨j15, hq15, h10⟩ := W.asInt_elim h9
  exact fun a ha => W.WP.at (E := [(1, l1.v), (5, e5.v), (6, sent6.v), (7, got7.v), (8, link8.v), (9, to9.v), (10, .int .i64 i10), (12, .int .i64 k12), (14, p14.v), (15, .int .i64 j15)]) (W.WP.reg (c := C67) (fun E w => KE_L29 E w R) (by kernel_rfl) (Eq.mp (by kernel_rfl) h10) fun _ _ a hA hK => KE_L29_ok R _ _ hK a hA) (ha.cons hq1 (ha.cons hq5 (ha.cons hq6 (ha.cons hq7 (ha.cons hq8 (ha.cons hq9 (ha.cons hq10 (ha.cons hq12 (ha.cons hq14 (ha.cons hq15 ha.nil))))))))))
noncomputable def C68 : Code := W.Code.fst C66
noncomputable def C69 : Code := W.Code.fst C68
noncomputable def C70 : Code := W.Code.snd C69
abbrev Q16 (R : W.Post) : Exit → Act → World → Prop := (Exit.then (Code.wp Try.prog C67 (Exit.then (W.LoopWP Try.prog C65 (Q14 R)) (Q14 R))) (Exit.then (W.LoopWP Try.prog C65 (Q14 R)) (Q14 R)))
abbrev Q17 (R : W.Post) : Exit → Act → World → Prop := (Exit.inBlock 6 (Q16 R))
/-- law.go:158 -/
def S32 (l1 e5 sent6 got7 link8 to9 : W.Sl) (i10 k12 : Int) (p14 : W.Sl) (j15 : Int) (w : World) (R : W.Post) : Prop :=
  let w1 := w.alloc (.cells #[.int .i64 (IntKind.wrap .i64 (1 - k12))] ty_int)
  ∃ (t161 : W.Sl) (w2 : World), Sem.run Try.prog (Builtin.append_ #[ty_sl_int, ty_sl_int] ty_sl_int #[to9.v, .slice (some (Addr.mk w.heap.size 0 none)) 1 1]) w1 = .ok (t161.v) w2 ∧ S33 l1 e5 sent6 got7 link8 t161 i10 k12 p14 j15 w2 R
def KE_S32 (E : W.Env) (w : World) (R : W.Post) : Prop := W.asSlice (W.Env.get? E 1) fun l1 => W.asSlice (W.Env.get? E 5) fun e5 => W.asSlice (W.Env.get? E 6) fun sent6 => W.asSlice (W.Env.get? E 7) fun got7 => W.asSlice (W.Env.get? E 8) fun link8 => W.asSlice (W.Env.get? E 9) fun to9 => W.asInt .i64 (W.Env.get? E 10) fun i10 => W.asInt .i64 (W.Env.get? E 12) fun k12 => W.asSlice (W.Env.get? E 14) fun p14 => W.asInt .i64 (W.Env.get? E 15) fun j15 => S32 l1 e5 sent6 got7 link8 to9 i10 k12 p14 j15 w R
theorem KE_S32_ok (R : W.Post) (E : W.Env) (w : World) (h : KE_S32 E w R) : W.WP Try.prog 197 C70 (Q17 R) E w := by
  obtain ⟨l1, hq1, h1⟩ := W.asSlice_elim h
  obtain ⟨e5, hq5, h2⟩ := W.asSlice_elim h1
  obtain ⟨sent6, hq6, h3⟩ := W.asSlice_elim h2
  obtain ⟨got7, hq7, h4⟩ := W.asSlice_elim h3
  obtain ⟨link8, hq8, h5⟩ := W.asSlice_elim h4
  obtain ⟨to9, hq9, h6⟩ := W.asSlice_elim h5
  obtain ⟨i10, hq10, h7⟩ := W.asInt_elim h6
  obtain ⟨k12, hq12, h8⟩ := W.asInt_elim h7
  obtain ⟨p14, hq14, h9⟩ := W.asSlice_elim h8
  obtain ⟨j15, hq15, h10⟩ := W.asInt_elim h9
  exact fun a ha => W.WP.at (E := [(1, l1.v), (5, e5.v), (6, sent6.v), (7, got7.v), (8, link8.v), (9, to9.v), (10, .int .i64 i10), (12, .int .i64 k12), (14, p14.v), (15, .int .i64 j15)]) (W.WP.reg (c := C70) (fun E w => KE_S33 E w R) (by kernel_rfl) (Eq.mp (by kernel_rfl) h10) fun _ _ a hA hK => (KE_S33_ok R _ _ hK) a hA) (ha.cons hq1 (ha.cons hq5 (ha.cons hq6 (ha.cons hq7 (ha.cons hq8 (ha.cons hq9 (ha.cons hq10 (ha.cons hq12 (ha.cons hq14 (ha.cons hq15 ha.nil))))))))))
noncomputable def C71 : Code := W.Code.fst C69
/-- law.go:157 -/
def S31 (l1 e5 sent6 got7 link8 to9 : W.Sl) (i10 k12 : Int) (p14 : W.Sl) (j15 : Int) (w : World) (R : W.Post) : Prop :=
  (0 : Int) ≤ j15 ∧ j15 < ((p14.n : Nat) : Int) ∧ W.optP p14.a fun t153_p => ∃ t154_0 : Int, ∃ t154_1 : Int, ∃ t154_2 : W.Sl, w.cell? ((t153_p.add (Int.toNat j15 * 3)).add 0) = some (.int .i64 t154_0) ∧ w.cell? ((t153_p.add (Int.toNat j15 * 3)).add 1) = some (.int .i64 t154_1) ∧ w.cell? ((t153_p.add (Int.toNat j15 * 3)).add 2) = some (t154_2.v) ∧ 
  let w1 := w.alloc (.cells #[.int .i64 t154_0, .int .i64 t154_1, t154_2.v] ty_channel_Packet)
  ∃ (t156 : W.Sl) (w2 : World), Sem.run Try.prog (Builtin.append_ #[ty_sl_channel_Packet, ty_sl_channel_Packet] ty_sl_channel_Packet #[link8.v, .slice (some (Addr.mk w.heap.size 0 none)) 1 1]) w1 = .ok (t156.v) w2 ∧ S32 l1 e5 sent6 got7 t156 to9 i10 k12 p14 j15 w2 R
def KE_S31 (E : W.Env) (w : World) (R : W.Post) : Prop := W.asSlice (W.Env.get? E 1) fun l1 => W.asSlice (W.Env.get? E 5) fun e5 => W.asSlice (W.Env.get? E 6) fun sent6 => W.asSlice (W.Env.get? E 7) fun got7 => W.asSlice (W.Env.get? E 8) fun link8 => W.asSlice (W.Env.get? E 9) fun to9 => W.asInt .i64 (W.Env.get? E 10) fun i10 => W.asInt .i64 (W.Env.get? E 12) fun k12 => W.asSlice (W.Env.get? E 14) fun p14 => W.asInt .i64 (W.Env.get? E 15) fun j15 => S31 l1 e5 sent6 got7 link8 to9 i10 k12 p14 j15 w R
theorem KE_S31_ok (R : W.Post) (E : W.Env) (w : World) (h : KE_S31 E w R) : W.WP Try.prog 197 C69 (Q17 R) E w := by
  obtain ⟨l1, hq1, h1⟩ := W.asSlice_elim h
  obtain ⟨e5, hq5, h2⟩ := W.asSlice_elim h1
  obtain ⟨sent6, hq6, h3⟩ := W.asSlice_elim h2
  obtain ⟨got7, hq7, h4⟩ := W.asSlice_elim h3
  obtain ⟨link8, hq8, h5⟩ := W.asSlice_elim h4
  obtain ⟨to9, hq9, h6⟩ := W.asSlice_elim h5
  obtain ⟨i10, hq10, h7⟩ := W.asInt_elim h6
  obtain ⟨k12, hq12, h8⟩ := W.asInt_elim h7
  obtain ⟨p14, hq14, h9⟩ := W.asSlice_elim h8
  obtain ⟨j15, hq15, h10⟩ := W.asInt_elim h9
  exact fun a ha => W.WP.at (E := [(1, l1.v), (5, e5.v), (6, sent6.v), (7, got7.v), (8, link8.v), (9, to9.v), (10, .int .i64 i10), (12, .int .i64 k12), (14, p14.v), (15, .int .i64 j15)]) (W.WP.seq (c := C69) (x := C71) (y := C70) (by kernel_rfl) <| W.WP.reg (c := C71) (fun E w => KE_S32 E w R) (by kernel_rfl) (Eq.mp (by kernel_rfl) h10) fun _ _ a hA hK => (KE_S32_ok R _ _ hK) a hA) (ha.cons hq1 (ha.cons hq5 (ha.cons hq6 (ha.cons hq7 (ha.cons hq8 (ha.cons hq9 (ha.cons hq10 (ha.cons hq12 (ha.cons hq14 (ha.cons hq15 ha.nil))))))))))
noncomputable def C72 : Code := W.Code.fst C65
abbrev Q18 (R : W.Post) : Exit → Act → World → Prop := (Exit.then (Code.wp Try.prog C66 (Exit.then (W.LoopWP Try.prog C65 (Q14 R)) (Q14 R))) (Exit.then (W.LoopWP Try.prog C65 (Q14 R)) (Q14 R)))
noncomputable def C73 : Code := W.Code.fst C72
noncomputable def C74 : Code := W.Code.snd C72
noncomputable def C75 : Code := W.Code.fst C74
noncomputable def C76 : Code := W.Code.snd C74
/-- law.go:156 -/
def S30 (l1 e5 sent6 got7 link8 to9 : W.Sl) (i10 k12 : Int) (p14 : W.Sl) (j15 : Int) (w : World) (R : W.Post) : Prop :=
  W.sel (decide (j15 < ((p14.n : Nat) : Int))) (S31 l1 e5 sent6 got7 link8 to9 i10 k12 p14 j15 w R) (S19 l1 e5 sent6 got7 link8 to9 i10 w R)
def KE_S30 (E : W.Env) (w : World) (R : W.Post) : Prop := W.asSlice (W.Env.get? E 1) fun l1 => W.asSlice (W.Env.get? E 5) fun e5 => W.asSlice (W.Env.get? E 6) fun sent6 => W.asSlice (W.Env.get? E 7) fun got7 => W.asSlice (W.Env.get? E 8) fun link8 => W.asSlice (W.Env.get? E 9) fun to9 => W.asInt .i64 (W.Env.get? E 10) fun i10 => W.asInt .i64 (W.Env.get? E 12) fun k12 => W.asSlice (W.Env.get? E 14) fun p14 => W.asInt .i64 (W.Env.get? E 15) fun j15 => S30 l1 e5 sent6 got7 link8 to9 i10 k12 p14 j15 w R
theorem KE_S30_ok (R : W.Post) (E : W.Env) (w : World) (h : KE_S30 E w R) : W.WP Try.prog 197 C72 (Q18 R) E w := by
  obtain ⟨l1, hq1, h1⟩ := W.asSlice_elim h
  obtain ⟨e5, hq5, h2⟩ := W.asSlice_elim h1
  obtain ⟨sent6, hq6, h3⟩ := W.asSlice_elim h2
  obtain ⟨got7, hq7, h4⟩ := W.asSlice_elim h3
  obtain ⟨link8, hq8, h5⟩ := W.asSlice_elim h4
  obtain ⟨to9, hq9, h6⟩ := W.asSlice_elim h5
  obtain ⟨i10, hq10, h7⟩ := W.asInt_elim h6
  obtain ⟨k12, hq12, h8⟩ := W.asInt_elim h7
  obtain ⟨p14, hq14, h9⟩ := W.asSlice_elim h8
  obtain ⟨j15, hq15, h10⟩ := W.asInt_elim h9
  exact fun a ha => W.WP.at (E := [(1, l1.v), (5, e5.v), (6, sent6.v), (7, got7.v), (8, link8.v), (9, to9.v), (10, .int .i64 i10), (12, .int .i64 k12), (14, p14.v), (15, .int .i64 j15)]) (W.WP.seq (c := C72) (x := C73) (y := C74) (by kernel_rfl) <| W.WP.reg (c := C73) (fun E w => W.condK (W.Env.val E (.tmp 147)) (KE_S31 E w R) (KE_S19 E w R)) (by kernel_rfl) (Eq.mp (by kernel_rfl) h10) fun _ _ a hA hK => (W.WP.condK (c := C74) (x := C75) (y := C76) (o := .tmp 147) (by kernel_rfl) (fun hK => (W.WP.skip (c := C75) (by kernel_rfl) fun a hA => (W.WP.seq (c := C66) (x := C68) (y := C67) (by kernel_rfl) (W.WP.block (c := C68) (x := C69) (id := 6) (by kernel_rfl) (KE_S31_ok R _ _ hK))) a hA)) (fun hK => (W.WP.exit (c := C76) (id := 5) (by kernel_rfl) fun a hA => (KE_S19_ok R _ _ hK) a hA)) hK) a hA) (ha.cons hq1 (ha.cons hq5 (ha.cons hq6 (ha.cons hq7 (ha.cons hq8 (ha.cons hq9 (ha.cons hq10 (ha.cons hq12 (ha.cons hq14 (ha.cons hq15 ha.nil))))))))))
theorem L29_step (l1 e5 sent6 got7 link8 to9 : W.Sl) (i10 k12 : Int) (p14 : W.Sl) (j15 : Int) (w : World) (R : W.Post) (h : S30 l1 e5 sent6 got7 link8 to9 i10 k12 p14 j15 w R) : L29 l1 e5 sent6 got7 link8 to9 i10 k12 p14 j15 w R :=
  W.LP.step (c := C65) (E := [(1, l1.v), (5, e5.v), (6, sent6.v), (7, got7.v), (8, link8.v), (9, to9.v), (10, .int .i64 i10), (12, .int .i64 k12), (14, p14.v), (15, .int .i64 j15)]) (w := w) (W.WP.seq (c := C65) (x := C72) (y := C66) (by kernel_rfl) (KE_S30_ok R _ _ (Eq.mp (by kernel_rfl) h)))
noncomputable def C77 : Code := W.Code.fst C62
/-- law.go:156 -/
def S28 (l1 e5 sent6 got7 link8 to9 : W.Sl) (i10 k12 : Int) (p14 : W.Sl) (w : World) (R : W.Post) : Prop :=
  L29 l1 e5 sent6 got7 link8 to9 i10 k12 p14 0 w R
def KE_S28 (E : W.Env) (w : World) (R : W.Post) : Prop := W.asSlice (W.Env.get? E 1) fun l1 => W.asSlice (W.Env.get? E 5) fun e5 => W.asSlice (W.Env.get? E 6) fun sent6 => W.asSlice (W.Env.get? E 7) fun got7 => W.asSlice (W.Env.get? E 8) fun link8 => W.asSlice (W.Env.get? E 9) fun to9 => W.asInt .i64 (W.Env.get? E 10) fun i10 => W.asInt .i64 (W.Env.get? E 12) fun k12 => W.asSlice (W.Env.get? E 14) fun p14 => S28 l1 e5 sent6 got7 link8 to9 i10 k12 p14 w R
theorem KE_S28_ok (R : W.Post) (E : W.Env) (w : World) (h : KE_S28 E w R) : W.WP Try.prog 197 C62 (Q13 R) E w := by
  obtain ⟨l1, hq1, h1⟩ := W.asSlice_elim h
  obtain ⟨e5, hq5, h2⟩ := W.asSlice_elim h1
  obtain ⟨sent6, hq6, h3⟩ := W.asSlice_elim h2
  obtain ⟨got7, hq7, h4⟩ := W.asSlice_elim h3
  obtain ⟨link8, hq8, h5⟩ := W.asSlice_elim h4
  obtain ⟨to9, hq9, h6⟩ := W.asSlice_elim h5
  obtain ⟨i10, hq10, h7⟩ := W.asInt_elim h6
  obtain ⟨k12, hq12, h8⟩ := W.asInt_elim h7
  obtain ⟨p14, hq14, h9⟩ := W.asSlice_elim h8
  exact fun a ha => W.WP.at (E := [(1, l1.v), (5, e5.v), (6, sent6.v), (7, got7.v), (8, link8.v), (9, to9.v), (10, .int .i64 i10), (12, .int .i64 k12), (14, p14.v)]) (W.WP.seq (c := C62) (x := C77) (y := C63) (by kernel_rfl) <| W.WP.reg (c := C77) (fun E w => KE_L29 E w R) (by kernel_rfl) (Eq.mp (by kernel_rfl) h9) fun _ _ a hA hK => (W.WP.block (c := C63) (x := C64) (id := 5) (by kernel_rfl) (W.WP.loop (c := C64) (x := C65) (by kernel_rfl) (KE_L29_ok R _ _ hK))) a hA) (ha.cons hq1 (ha.cons hq5 (ha.cons hq6 (ha.cons hq7 (ha.cons hq8 (ha.cons hq9 (ha.cons hq10 (ha.cons hq12 (ha.cons hq14 ha.nil)))))))))
noncomputable def C78 : Code := W.Code.fst C61
/-- law.go:155 -/
def S27 (l1 e5 sent6 got7 link8 to9 : W.Sl) (i10 k12 : Int) (w : World) (R : W.Post) : Prop :=
  (0 : Int) ≤ k12 ∧ k12 < ((e5.n : Nat) : Int) ∧ W.optP e5.a fun t141_p => ∃ t142 : Option Addr, w.cell? (t141_p.add (Int.toNat k12 * 1)) = some (.pointer t142) ∧ 
  Calls Try.prog n_channel_End_Out #[.pointer t142] w fun r_ w1 => ∃ t143 : W.Sl, r_ = .returned (t143.v) ∧ 
  S28 l1 e5 sent6 got7 link8 to9 i10 k12 t143 w1 R
def KE_S27 (E : W.Env) (w : World) (R : W.Post) : Prop := W.asSlice (W.Env.get? E 1) fun l1 => W.asSlice (W.Env.get? E 5) fun e5 => W.asSlice (W.Env.get? E 6) fun sent6 => W.asSlice (W.Env.get? E 7) fun got7 => W.asSlice (W.Env.get? E 8) fun link8 => W.asSlice (W.Env.get? E 9) fun to9 => W.asInt .i64 (W.Env.get? E 10) fun i10 => W.asInt .i64 (W.Env.get? E 12) fun k12 => S27 l1 e5 sent6 got7 link8 to9 i10 k12 w R
theorem KE_S27_ok (R : W.Post) (E : W.Env) (w : World) (h : KE_S27 E w R) : W.WP Try.prog 197 C61 (Q13 R) E w := by
  obtain ⟨l1, hq1, h1⟩ := W.asSlice_elim h
  obtain ⟨e5, hq5, h2⟩ := W.asSlice_elim h1
  obtain ⟨sent6, hq6, h3⟩ := W.asSlice_elim h2
  obtain ⟨got7, hq7, h4⟩ := W.asSlice_elim h3
  obtain ⟨link8, hq8, h5⟩ := W.asSlice_elim h4
  obtain ⟨to9, hq9, h6⟩ := W.asSlice_elim h5
  obtain ⟨i10, hq10, h7⟩ := W.asInt_elim h6
  obtain ⟨k12, hq12, h8⟩ := W.asInt_elim h7
  exact fun a ha => W.WP.at (E := [(1, l1.v), (5, e5.v), (6, sent6.v), (7, got7.v), (8, link8.v), (9, to9.v), (10, .int .i64 i10), (12, .int .i64 k12)]) (W.WP.seq (c := C61) (x := C78) (y := C62) (by kernel_rfl) <| W.WP.reg (c := C78) (fun E w => KE_S28 E w R) (by kernel_rfl) (Eq.mp (by kernel_rfl) h8) fun _ _ a hA hK => (KE_S28_ok R _ _ hK) a hA) (ha.cons hq1 (ha.cons hq5 (ha.cons hq6 (ha.cons hq7 (ha.cons hq8 (ha.cons hq9 (ha.cons hq10 (ha.cons hq12 ha.nil))))))))
noncomputable def C79 : Code := W.Code.snd C60
noncomputable def C80 : Code := W.Code.snd C79
noncomputable def C81 : Code := W.Code.snd C80
noncomputable def C82 : Code := W.Code.snd C81
noncomputable def C83 : Code := W.Code.snd C82
noncomputable def C84 : Code := W.Code.snd C83
noncomputable def C85 : Code := W.Code.fst C84
noncomputable def C86 : Code := W.Code.fst C85
abbrev Q19 (R : W.Post) : Exit → Act → World → Prop := (Exit.inBlock 3 (Q13 R))
/-- the head of the loop, law.go:167 -/
def L39 (l1 e5 sent6 got7 link8 to9 : W.Sl) (i10 t17 : Int) (x18 : W.Sl) (r19 : Int) (w : World) (R : W.Post) : Prop := W.LP Try.prog 197 C86 (Q19 R) [(1, l1.v), (5, e5.v), (6, sent6.v), (7, got7.v), (8, link8.v), (9, to9.v), (10, .int .i64 i10), (17, .int .i64 t17), (18, x18.v), (19, .int .i64 r19)] w
def KE_L39 (E : W.Env) (w : World) (R : W.Post) : Prop := W.asSlice (W.Env.get? E 1) fun l1 => W.asSlice (W.Env.get? E 5) fun e5 => W.asSlice (W.Env.get? E 6) fun sent6 => W.asSlice (W.Env.get? E 7) fun got7 => W.asSlice (W.Env.get? E 8) fun link8 => W.asSlice (W.Env.get? E 9) fun to9 => W.asInt .i64 (W.Env.get? E 10) fun i10 => W.asInt .i64 (W.Env.get? E 17) fun t17 => W.asSlice (W.Env.get? E 18) fun x18 => W.asInt .i64 (W.Env.get? E 19) fun r19 => L39 l1 e5 sent6 got7 link8 to9 i10 t17 x18 r19 w R
theorem KE_L39_ok (R : W.Post) (E : W.Env) (w : World) (h : KE_L39 E w R) : W.LP Try.prog 197 C86 (Q19 R) E w := by
  obtain ⟨l1, hq1, h1⟩ := W.asSlice_elim h
  obtain ⟨e5, hq5, h2⟩ := W.asSlice_elim h1
  obtain ⟨sent6, hq6, h3⟩ := W.asSlice_elim h2
  obtain ⟨got7, hq7, h4⟩ := W.asSlice_elim h3
  obtain ⟨link8, hq8, h5⟩ := W.asSlice_elim h4
  obtain ⟨to9, hq9, h6⟩ := W.asSlice_elim h5
  obtain ⟨i10, hq10, h7⟩ := W.asInt_elim h6
  obtain ⟨t17, hq17, h8⟩ := W.asInt_elim h7
  obtain ⟨x18, hq18, h9⟩ := W.asSlice_elim h8
  obtain ⟨r19, hq19, h10⟩ := W.asInt_elim h9
  intro a ha
  exact h10 a (ha.cons hq1 (ha.cons hq5 (ha.cons hq6 (ha.cons hq7 (ha.cons hq8 (ha.cons hq9 (ha.cons hq10 (ha.cons hq17 (ha.cons hq18 (ha.cons hq19 ha.nil))))))))))
noncomputable def C87 : Code := W.Code.snd C86
noncomputable def C88 : Code := W.Code.fst C87
noncomputable def C89 : Code := W.Code.fst C88
noncomputable def C90 : Code := W.Code.fst C89
noncomputable def C91 : Code := W.Code.snd C90
noncomputable def C92 : Code := W.Code.fst C91
noncomputable def C93 : Code := W.Code.snd C87
abbrev Q20 (R : W.Post) : Exit → Act → World → Prop := (Exit.then (Code.wp Try.prog C93 (Exit.then (W.LoopWP Try.prog C86 (Q19 R)) (Q19 R))) (Exit.then (W.LoopWP Try.prog C86 (Q19 R)) (Q19 R)))
noncomputable def C94 : Code := W.Code.snd C89
abbrev Q21 (R : W.Post) : Exit → Act → World → Prop := (Exit.then (Code.wp Try.prog C94 (Exit.inBlock 4 (Q20 R))) (Exit.inBlock 4 (Q20 R)))
noncomputable def C95 : Code := W.Code.fst C92
noncomputable def C96 : Code := W.Code.snd C92
/-- law.go:169 -/
def S42  (w : World) (R : W.Post) : Prop :=
  R (.returned (.bool false)) w
def KE_S42 (E : W.Env) (w : World) (R : W.Post) : Prop := S42  w R
theorem KE_S42_ok (R : W.Post) (E : W.Env) (w : World) (h : KE_S42 E w R) : W.WP Try.prog 197 C92 (Q21 R) E w := by
  exact fun a ha => W.WP.at (E := []) (W.WP.seq (c := C92) (x := C95) (y := C96) (by kernel_rfl) <| W.WP.reg (c := C95) (fun E w => W.retVC Try.prog Try.f4 E w (fun v => R (.returned v) w)) (by kernel_rfl) (Eq.mp (by kernel_rfl) h) fun _ _ a hA hK => (W.WP.ret (c := C96) (by kernel_rfl) fun a hA => W.retVC_sound hA hK) a hA) ha.nil
abbrev Q22 (R : W.Post) : Exit → Act → World → Prop := (Exit.then (W.LoopWP Try.prog C86 (Q19 R)) (Q19 R))
/-- law.go:167 -/
def S44 (l1 e5 sent6 got7 link8 to9 : W.Sl) (i10 t17 : Int) (x18 : W.Sl) (r19 : Int) (w : World) (R : W.Post) : Prop :=
  L39 l1 e5 sent6 got7 link8 to9 i10 t17 x18 (IntKind.wrap .i64 (r19 + 1)) w R
def KE_S44 (E : W.Env) (w : World) (R : W.Post) : Prop := W.asSlice (W.Env.get? E 1) fun l1 => W.asSlice (W.Env.get? E 5) fun e5 => W.asSlice (W.Env.get? E 6) fun sent6 => W.asSlice (W.Env.get? E 7) fun got7 => W.asSlice (W.Env.get? E 8) fun link8 => W.asSlice (W.Env.get? E 9) fun to9 => W.asInt .i64 (W.Env.get? E 10) fun i10 => W.asInt .i64 (W.Env.get? E 17) fun t17 => W.asSlice (W.Env.get? E 18) fun x18 => W.asInt .i64 (W.Env.get? E 19) fun r19 => S44 l1 e5 sent6 got7 link8 to9 i10 t17 x18 r19 w R
theorem KE_S44_ok (R : W.Post) (E : W.Env) (w : World) (h : KE_S44 E w R) : W.WP Try.prog 197 C93 (Q22 R) E w := by
  obtain ⟨l1, hq1, h1⟩ := W.asSlice_elim h
  obtain ⟨e5, hq5, h2⟩ := W.asSlice_elim h1
  obtain ⟨sent6, hq6, h3⟩ := W.asSlice_elim h2
  obtain ⟨got7, hq7, h4⟩ := W.asSlice_elim h3
  obtain ⟨link8, hq8, h5⟩ := W.asSlice_elim h4
  obtain ⟨to9, hq9, h6⟩ := W.asSlice_elim h5
  obtain ⟨i10, hq10, h7⟩ := W.asInt_elim h6
  obtain ⟨t17, hq17, h8⟩ := W.asInt_elim h7
  obtain ⟨x18, hq18, h9⟩ := W.asSlice_elim h8
  obtain ⟨r19, hq19, h10⟩ := W.asInt_elim h9
  exact fun a ha => W.WP.at (E := [(1, l1.v), (5, e5.v), (6, sent6.v), (7, got7.v), (8, link8.v), (9, to9.v), (10, .int .i64 i10), (17, .int .i64 t17), (18, x18.v), (19, .int .i64 r19)]) (W.WP.reg (c := C93) (fun E w => KE_L39 E w R) (by kernel_rfl) (Eq.mp (by kernel_rfl) h10) fun _ _ a hA hK => KE_L39_ok R _ _ hK a hA) (ha.cons hq1 (ha.cons hq5 (ha.cons hq6 (ha.cons hq7 (ha.cons hq8 (ha.cons hq9 (ha.cons hq10 (ha.cons hq17 (ha.cons hq18 (ha.cons hq19 ha.nil))))))))))
abbrev Q23 (R : W.Post) : Exit → Act → World → Prop := (Exit.inBlock 4 (Q20 R))
/-- law.go:171 -/
def S43 (l1 e5 sent6 got7 link8 to9 : W.Sl) (i10 t17 : Int) (x18 : W.Sl) (r19 : Int) (w : World) (R : W.Post) : Prop :=
  (0 : Int) ≤ t17 ∧ t17 < ((got7.n : Nat) : Int) ∧ W.optP got7.a fun t109_p => ∃ t110 : Int, w.cell? (t109_p.add (Int.toNat t17 * 1)) = some (.int .i64 t110) ∧ 
  (0 : Int) ≤ t17 ∧ t17 < ((got7.n : Nat) : Int) ∧ W.optP got7.a fun t112_p => (w.cell? (t112_p.add (Int.toNat t17 * 1))).isSome = true ∧ w.frozen? (t112_p.add (Int.toNat t17 * 1)) = false ∧ let w1 := w.setCell (t112_p.add (Int.toNat t17 * 1)) (.int .i64 (IntKind.wrap .i64 (t110 + 1)))
  S44 l1 e5 sent6 got7 link8 to9 i10 t17 x18 r19 w1 R
def KE_S43 (E : W.Env) (w : World) (R : W.Post) : Prop := W.asSlice (W.Env.get? E 1) fun l1 => W.asSlice (W.Env.get? E 5) fun e5 => W.asSlice (W.Env.get? E 6) fun sent6 => W.asSlice (W.Env.get? E 7) fun got7 => W.asSlice (W.Env.get? E 8) fun link8 => W.asSlice (W.Env.get? E 9) fun to9 => W.asInt .i64 (W.Env.get? E 10) fun i10 => W.asInt .i64 (W.Env.get? E 17) fun t17 => W.asSlice (W.Env.get? E 18) fun x18 => W.asInt .i64 (W.Env.get? E 19) fun r19 => S43 l1 e5 sent6 got7 link8 to9 i10 t17 x18 r19 w R
theorem KE_S43_ok (R : W.Post) (E : W.Env) (w : World) (h : KE_S43 E w R) : W.WP Try.prog 197 C94 (Q23 R) E w := by
  obtain ⟨l1, hq1, h1⟩ := W.asSlice_elim h
  obtain ⟨e5, hq5, h2⟩ := W.asSlice_elim h1
  obtain ⟨sent6, hq6, h3⟩ := W.asSlice_elim h2
  obtain ⟨got7, hq7, h4⟩ := W.asSlice_elim h3
  obtain ⟨link8, hq8, h5⟩ := W.asSlice_elim h4
  obtain ⟨to9, hq9, h6⟩ := W.asSlice_elim h5
  obtain ⟨i10, hq10, h7⟩ := W.asInt_elim h6
  obtain ⟨t17, hq17, h8⟩ := W.asInt_elim h7
  obtain ⟨x18, hq18, h9⟩ := W.asSlice_elim h8
  obtain ⟨r19, hq19, h10⟩ := W.asInt_elim h9
  exact fun a ha => W.WP.at (E := [(1, l1.v), (5, e5.v), (6, sent6.v), (7, got7.v), (8, link8.v), (9, to9.v), (10, .int .i64 i10), (17, .int .i64 t17), (18, x18.v), (19, .int .i64 r19)]) (W.WP.reg (c := C94) (fun E w => KE_S44 E w R) (by kernel_rfl) (Eq.mp (by kernel_rfl) h10) fun _ _ a hA hK => (KE_S44_ok R _ _ hK) a hA) (ha.cons hq1 (ha.cons hq5 (ha.cons hq6 (ha.cons hq7 (ha.cons hq8 (ha.cons hq9 (ha.cons hq10 (ha.cons hq17 (ha.cons hq18 (ha.cons hq19 ha.nil))))))))))
noncomputable def C97 : Code := W.Code.fst C90
noncomputable def C98 : Code := W.Code.snd C91
/-- law.go:168 -/
def S41 (l1 e5 sent6 got7 link8 to9 : W.Sl) (i10 t17 : Int) (x18 : W.Sl) (r19 : Int) (w : World) (R : W.Post) : Prop :=
  (0 : Int) ≤ t17 ∧ t17 < ((got7.n : Nat) : Int) ∧ W.optP got7.a fun t79_p => ∃ t80 : Int, w.drew.cell? (t79_p.add (Int.toNat t17 * 1)) = some (.int .i64 t80) ∧ 
  (0 : Int) ≤ (IntKind.wrap .i64 (1 - t17)) ∧ (IntKind.wrap .i64 (1 - t17)) < ((sent6.n : Nat) : Int) ∧ W.optP sent6.a fun t84_p => ∃ t85 : W.Sl, w.drew.cell? (t84_p.add (Int.toNat (IntKind.wrap .i64 (1 - t17)) * 1)) = some (t85.v) ∧ 
  W.sel (decide (t80 ≥ ((t85.n : Nat) : Int))) (S42  w.drew R) ((0 : Int) ≤ r19 ∧ r19 < ((x18.n : Nat) : Int) ∧ W.optP x18.a fun t91_p => ∃ t92 : W.Sl, w.drew.cell? (t91_p.add (Int.toNat r19 * 1)) = some (t92.v) ∧ 
  (0 : Int) ≤ (IntKind.wrap .i64 (1 - t17)) ∧ (IntKind.wrap .i64 (1 - t17)) < ((sent6.n : Nat) : Int) ∧ W.optP sent6.a fun t96_p => ∃ t97 : W.Sl, w.drew.cell? (t96_p.add (Int.toNat (IntKind.wrap .i64 (1 - t17)) * 1)) = some (t97.v) ∧ 
  (0 : Int) ≤ t17 ∧ t17 < ((got7.n : Nat) : Int) ∧ W.optP got7.a fun t100_p => ∃ t101 : Int, w.drew.cell? (t100_p.add (Int.toNat t17 * 1)) = some (.int .i64 t101) ∧ 
  (0 : Int) ≤ t101 ∧ t101 < ((t97.n : Nat) : Int) ∧ W.optP t97.a fun t102_p => ∃ t103 : W.Sl, w.drew.cell? (t102_p.add (Int.toNat t101 * 1)) = some (t103.v) ∧ 
  Calls Try.prog n_enthymemeref01_SameBytes #[t92.v, t103.v] w.drew fun r_ w1 => ∃ t104 : Bool, r_ = .returned (.bool t104) ∧ 
  w1.cell? (t100_p.add (Int.toNat t17 * 1)) = some (.int .i64 t101) ∧ w1.cell? (t96_p.add (Int.toNat (IntKind.wrap .i64 (1 - t17)) * 1)) = some (t97.v) ∧ w1.cell? (t84_p.add (Int.toNat (IntKind.wrap .i64 (1 - t17)) * 1)) = some (t85.v) ∧ w1.cell? (t79_p.add (Int.toNat t17 * 1)) = some (.int .i64 t80) ∧ W.sel (!t104) (S42  w1 R) (S43 l1 e5 sent6 got7 link8 to9 i10 t17 x18 r19 w1 R))
def KE_S41 (E : W.Env) (w : World) (R : W.Post) : Prop := W.asSlice (W.Env.get? E 1) fun l1 => W.asSlice (W.Env.get? E 5) fun e5 => W.asSlice (W.Env.get? E 6) fun sent6 => W.asSlice (W.Env.get? E 7) fun got7 => W.asSlice (W.Env.get? E 8) fun link8 => W.asSlice (W.Env.get? E 9) fun to9 => W.asInt .i64 (W.Env.get? E 10) fun i10 => W.asInt .i64 (W.Env.get? E 17) fun t17 => W.asSlice (W.Env.get? E 18) fun x18 => W.asInt .i64 (W.Env.get? E 19) fun r19 => S41 l1 e5 sent6 got7 link8 to9 i10 t17 x18 r19 w R
theorem KE_S41_ok (R : W.Post) (E : W.Env) (w : World) (h : KE_S41 E w R) : W.WP Try.prog 197 C90 (Q21 R) E w := by
  obtain ⟨l1, hq1, h1⟩ := W.asSlice_elim h
  obtain ⟨e5, hq5, h2⟩ := W.asSlice_elim h1
  obtain ⟨sent6, hq6, h3⟩ := W.asSlice_elim h2
  obtain ⟨got7, hq7, h4⟩ := W.asSlice_elim h3
  obtain ⟨link8, hq8, h5⟩ := W.asSlice_elim h4
  obtain ⟨to9, hq9, h6⟩ := W.asSlice_elim h5
  obtain ⟨i10, hq10, h7⟩ := W.asInt_elim h6
  obtain ⟨t17, hq17, h8⟩ := W.asInt_elim h7
  obtain ⟨x18, hq18, h9⟩ := W.asSlice_elim h8
  obtain ⟨r19, hq19, h10⟩ := W.asInt_elim h9
  exact fun a ha => W.WP.at (E := [(1, l1.v), (5, e5.v), (6, sent6.v), (7, got7.v), (8, link8.v), (9, to9.v), (10, .int .i64 i10), (17, .int .i64 t17), (18, x18.v), (19, .int .i64 r19)]) (W.WP.seq (c := C90) (x := C97) (y := C91) (by kernel_rfl) <| W.WP.draw (c := C97) [0, 1, 2, 3, 4, 5, 6, 7, 8, 9, 10, 11, 12, 13, 14, 15, 16, 17, 18, 19, 20, 21, 22, 23, 24, 25, 26, 27, 28, 29] (fun E w => W.condK (W.Env.val E (.tmp 106)) (KE_S42 E w R) (KE_S43 E w R)) (by kernel_rfl) (Eq.mp (by kernel_rfl) h10) fun _ _ a hA hK => (W.WP.condK (c := C91) (x := C92) (y := C98) (o := .tmp 106) (by kernel_rfl) (fun hK => (KE_S42_ok R _ _ hK)) (fun hK => (W.WP.skip (c := C98) (by kernel_rfl) fun a hA => (KE_S43_ok R _ _ hK) a hA)) hK) a hA) (ha.cons hq1 (ha.cons hq5 (ha.cons hq6 (ha.cons hq7 (ha.cons hq8 (ha.cons hq9 (ha.cons hq10 (ha.cons hq17 (ha.cons hq18 (ha.cons hq19 ha.nil))))))))))
noncomputable def C99 : Code := W.Code.fst C86
abbrev Q24 (R : W.Post) : Exit → Act → World → Prop := (Exit.then (Code.wp Try.prog C87 (Exit.then (W.LoopWP Try.prog C86 (Q19 R)) (Q19 R))) (Exit.then (W.LoopWP Try.prog C86 (Q19 R)) (Q19 R)))
noncomputable def C100 : Code := W.Code.fst C99
noncomputable def C101 : Code := W.Code.snd C99
noncomputable def C102 : Code := W.Code.fst C101
noncomputable def C103 : Code := W.Code.snd C101
/-- law.go:167 -/
def S40 (l1 e5 sent6 got7 link8 to9 : W.Sl) (i10 t17 : Int) (x18 : W.Sl) (r19 : Int) (w : World) (R : W.Post) : Prop :=
  W.sel (decide (r19 < ((x18.n : Nat) : Int))) (S41 l1 e5 sent6 got7 link8 to9 i10 t17 x18 r19 w R) (S19 l1 e5 sent6 got7 link8 to9 i10 w R)
def KE_S40 (E : W.Env) (w : World) (R : W.Post) : Prop := W.asSlice (W.Env.get? E 1) fun l1 => W.asSlice (W.Env.get? E 5) fun e5 => W.asSlice (W.Env.get? E 6) fun sent6 => W.asSlice (W.Env.get? E 7) fun got7 => W.asSlice (W.Env.get? E 8) fun link8 => W.asSlice (W.Env.get? E 9) fun to9 => W.asInt .i64 (W.Env.get? E 10) fun i10 => W.asInt .i64 (W.Env.get? E 17) fun t17 => W.asSlice (W.Env.get? E 18) fun x18 => W.asInt .i64 (W.Env.get? E 19) fun r19 => S40 l1 e5 sent6 got7 link8 to9 i10 t17 x18 r19 w R
theorem KE_S40_ok (R : W.Post) (E : W.Env) (w : World) (h : KE_S40 E w R) : W.WP Try.prog 197 C99 (Q24 R) E w := by
  obtain ⟨l1, hq1, h1⟩ := W.asSlice_elim h
  obtain ⟨e5, hq5, h2⟩ := W.asSlice_elim h1
  obtain ⟨sent6, hq6, h3⟩ := W.asSlice_elim h2
  obtain ⟨got7, hq7, h4⟩ := W.asSlice_elim h3
  obtain ⟨link8, hq8, h5⟩ := W.asSlice_elim h4
  obtain ⟨to9, hq9, h6⟩ := W.asSlice_elim h5
  obtain ⟨i10, hq10, h7⟩ := W.asInt_elim h6
  obtain ⟨t17, hq17, h8⟩ := W.asInt_elim h7
  obtain ⟨x18, hq18, h9⟩ := W.asSlice_elim h8
  obtain ⟨r19, hq19, h10⟩ := W.asInt_elim h9
  exact fun a ha => W.WP.at (E := [(1, l1.v), (5, e5.v), (6, sent6.v), (7, got7.v), (8, link8.v), (9, to9.v), (10, .int .i64 i10), (17, .int .i64 t17), (18, x18.v), (19, .int .i64 r19)]) (W.WP.seq (c := C99) (x := C100) (y := C101) (by kernel_rfl) <| W.WP.reg (c := C100) (fun E w => W.condK (W.Env.val E (.tmp 74)) (KE_S41 E w R) (KE_S19 E w R)) (by kernel_rfl) (Eq.mp (by kernel_rfl) h10) fun _ _ a hA hK => (W.WP.condK (c := C101) (x := C102) (y := C103) (o := .tmp 74) (by kernel_rfl) (fun hK => (W.WP.skip (c := C102) (by kernel_rfl) fun a hA => (W.WP.seq (c := C87) (x := C88) (y := C93) (by kernel_rfl) (W.WP.block (c := C88) (x := C89) (id := 4) (by kernel_rfl) (W.WP.seq (c := C89) (x := C90) (y := C94) (by kernel_rfl) (KE_S41_ok R _ _ hK)))) a hA)) (fun hK => (W.WP.exit (c := C103) (id := 3) (by kernel_rfl) fun a hA => (KE_S19_ok R _ _ hK) a hA)) hK) a hA) (ha.cons hq1 (ha.cons hq5 (ha.cons hq6 (ha.cons hq7 (ha.cons hq8 (ha.cons hq9 (ha.cons hq10 (ha.cons hq17 (ha.cons hq18 (ha.cons hq19 ha.nil))))))))))
theorem L39_step (l1 e5 sent6 got7 link8 to9 : W.Sl) (i10 t17 : Int) (x18 : W.Sl) (r19 : Int) (w : World) (R : W.Post) (h : S40 l1 e5 sent6 got7 link8 to9 i10 t17 x18 r19 w R) : L39 l1 e5 sent6 got7 link8 to9 i10 t17 x18 r19 w R :=
  W.LP.step (c := C86) (E := [(1, l1.v), (5, e5.v), (6, sent6.v), (7, got7.v), (8, link8.v), (9, to9.v), (10, .int .i64 i10), (17, .int .i64 t17), (18, x18.v), (19, .int .i64 r19)]) (w := w) (W.WP.seq (c := C86) (x := C99) (y := C87) (by kernel_rfl) (KE_S40_ok R _ _ (Eq.mp (by kernel_rfl) h)))
noncomputable def C104 : Code := W.Code.fst C83
/-- law.go:167 -/
def S38 (l1 e5 sent6 got7 link8 to9 : W.Sl) (i10 t17 : Int) (x18 : W.Sl) (w : World) (R : W.Post) : Prop :=
  L39 l1 e5 sent6 got7 link8 to9 i10 t17 x18 0 w R
def KE_S38 (E : W.Env) (w : World) (R : W.Post) : Prop := W.asSlice (W.Env.get? E 1) fun l1 => W.asSlice (W.Env.get? E 5) fun e5 => W.asSlice (W.Env.get? E 6) fun sent6 => W.asSlice (W.Env.get? E 7) fun got7 => W.asSlice (W.Env.get? E 8) fun link8 => W.asSlice (W.Env.get? E 9) fun to9 => W.asInt .i64 (W.Env.get? E 10) fun i10 => W.asInt .i64 (W.Env.get? E 17) fun t17 => W.asSlice (W.Env.get? E 18) fun x18 => S38 l1 e5 sent6 got7 link8 to9 i10 t17 x18 w R
theorem KE_S38_ok (R : W.Post) (E : W.Env) (w : World) (h : KE_S38 E w R) : W.WP Try.prog 197 C83 (Q13 R) E w := by
  obtain ⟨l1, hq1, h1⟩ := W.asSlice_elim h
  obtain ⟨e5, hq5, h2⟩ := W.asSlice_elim h1
  obtain ⟨sent6, hq6, h3⟩ := W.asSlice_elim h2
  obtain ⟨got7, hq7, h4⟩ := W.asSlice_elim h3
  obtain ⟨link8, hq8, h5⟩ := W.asSlice_elim h4
  obtain ⟨to9, hq9, h6⟩ := W.asSlice_elim h5
  obtain ⟨i10, hq10, h7⟩ := W.asInt_elim h6
  obtain ⟨t17, hq17, h8⟩ := W.asInt_elim h7
  obtain ⟨x18, hq18, h9⟩ := W.asSlice_elim h8
  exact fun a ha => W.WP.at (E := [(1, l1.v), (5, e5.v), (6, sent6.v), (7, got7.v), (8, link8.v), (9, to9.v), (10, .int .i64 i10), (17, .int .i64 t17), (18, x18.v)]) (W.WP.seq (c := C83) (x := C104) (y := C84) (by kernel_rfl) <| W.WP.reg (c := C104) (fun E w => KE_L39 E w R) (by kernel_rfl) (Eq.mp (by kernel_rfl) h9) fun _ _ a hA hK => (W.WP.block (c := C84) (x := C85) (id := 3) (by kernel_rfl) (W.WP.loop (c := C85) (x := C86) (by kernel_rfl) (KE_L39_ok R _ _ hK))) a hA) (ha.cons hq1 (ha.cons hq5 (ha.cons hq6 (ha.cons hq7 (ha.cons hq8 (ha.cons hq9 (ha.cons hq10 (ha.cons hq17 (ha.cons hq18 ha.nil)))))))))
noncomputable def C105 : Code := W.Code.fst C82
/-- law.go:166 -/
def S37 (l1 e5 sent6 got7 link8 to9 : W.Sl) (i10 j16 t17 : Int) (w : World) (R : W.Post) : Prop :=
  (0 : Int) ≤ t17 ∧ t17 < ((e5.n : Nat) : Int) ∧ W.optP e5.a fun t64_p => ∃ t65 : Option Addr, w.drew.cell? (t64_p.add (Int.toNat t17 * 1)) = some (.pointer t65) ∧ 
  (0 : Int) ≤ j16 ∧ j16 < ((link8.n : Nat) : Int) ∧ W.optP link8.a fun t68_p => ∃ t69_0 : Int, ∃ t69_1 : Int, ∃ t69_2 : W.Sl, w.drew.cell? ((t68_p.add (Int.toNat j16 * 3)).add 0) = some (.int .i64 t69_0) ∧ w.drew.cell? ((t68_p.add (Int.toNat j16 * 3)).add 1) = some (.int .i64 t69_1) ∧ w.drew.cell? ((t68_p.add (Int.toNat j16 * 3)).add 2) = some (t69_2.v) ∧ 
  Calls Try.prog n_channel_End_In #[.pointer t65, .agg #[.int .i64 t69_0, .int .i64 t69_1, t69_2.v]] w.drew fun r_ w1 => ∃ t70 : W.Sl, r_ = .returned (t70.v) ∧ 
  S38 l1 e5 sent6 got7 link8 to9 i10 t17 t70 w1 R
def KE_S37 (E : W.Env) (w : World) (R : W.Post) : Prop := W.asSlice (W.Env.get? E 1) fun l1 => W.asSlice (W.Env.get? E 5) fun e5 => W.asSlice (W.Env.get? E 6) fun sent6 => W.asSlice (W.Env.get? E 7) fun got7 => W.asSlice (W.Env.get? E 8) fun link8 => W.asSlice (W.Env.get? E 9) fun to9 => W.asInt .i64 (W.Env.get? E 10) fun i10 => W.asInt .i64 (W.Env.get? E 16) fun j16 => W.asInt .i64 (W.Env.get? E 17) fun t17 => S37 l1 e5 sent6 got7 link8 to9 i10 j16 t17 w R
theorem KE_S37_ok (R : W.Post) (E : W.Env) (w : World) (h : KE_S37 E w R) : W.WP Try.prog 197 C82 (Q13 R) E w := by
  obtain ⟨l1, hq1, h1⟩ := W.asSlice_elim h
  obtain ⟨e5, hq5, h2⟩ := W.asSlice_elim h1
  obtain ⟨sent6, hq6, h3⟩ := W.asSlice_elim h2
  obtain ⟨got7, hq7, h4⟩ := W.asSlice_elim h3
  obtain ⟨link8, hq8, h5⟩ := W.asSlice_elim h4
  obtain ⟨to9, hq9, h6⟩ := W.asSlice_elim h5
  obtain ⟨i10, hq10, h7⟩ := W.asInt_elim h6
  obtain ⟨j16, hq16, h8⟩ := W.asInt_elim h7
  obtain ⟨t17, hq17, h9⟩ := W.asInt_elim h8
  exact fun a ha => W.WP.at (E := [(1, l1.v), (5, e5.v), (6, sent6.v), (7, got7.v), (8, link8.v), (9, to9.v), (10, .int .i64 i10), (16, .int .i64 j16), (17, .int .i64 t17)]) (W.WP.seq (c := C82) (x := C105) (y := C83) (by kernel_rfl) <| W.WP.draw (c := C105) [0, 1, 2, 3, 4, 5, 6, 7, 8, 9] (fun E w => KE_S38 E w R) (by kernel_rfl) (Eq.mp (by kernel_rfl) h9) fun _ _ a hA hK => (KE_S38_ok R _ _ hK) a hA) (ha.cons hq1 (ha.cons hq5 (ha.cons hq6 (ha.cons hq7 (ha.cons hq8 (ha.cons hq9 (ha.cons hq10 (ha.cons hq16 (ha.cons hq17 ha.nil)))))))))
noncomputable def C106 : Code := W.Code.fst C81
/-- law.go:165 -/
def S36 (l1 e5 sent6 got7 link8 to9 : W.Sl) (i10 j16 : Int) (w : World) (R : W.Post) : Prop :=
  (0 : Int) ≤ j16 ∧ j16 < ((to9.n : Nat) : Int) ∧ W.optP to9.a fun t60_p => ∃ t61 : Int, w.cell? (t60_p.add (Int.toNat j16 * 1)) = some (.int .i64 t61) ∧ 
  S37 l1 e5 sent6 got7 link8 to9 i10 j16 t61 w R
def KE_S36 (E : W.Env) (w : World) (R : W.Post) : Prop := W.asSlice (W.Env.get? E 1) fun l1 => W.asSlice (W.Env.get? E 5) fun e5 => W.asSlice (W.Env.get? E 6) fun sent6 => W.asSlice (W.Env.get? E 7) fun got7 => W.asSlice (W.Env.get? E 8) fun link8 => W.asSlice (W.Env.get? E 9) fun to9 => W.asInt .i64 (W.Env.get? E 10) fun i10 => W.asInt .i64 (W.Env.get? E 16) fun j16 => S36 l1 e5 sent6 got7 link8 to9 i10 j16 w R
theorem KE_S36_ok (R : W.Post) (E : W.Env) (w : World) (h : KE_S36 E w R) : W.WP Try.prog 197 C81 (Q13 R) E w := by
  obtain ⟨l1, hq1, h1⟩ := W.asSlice_elim h
  obtain ⟨e5, hq5, h2⟩ := W.asSlice_elim h1
  obtain ⟨sent6, hq6, h3⟩ := W.asSlice_elim h2
  obtain ⟨got7, hq7, h4⟩ := W.asSlice_elim h3
  obtain ⟨link8, hq8, h5⟩ := W.asSlice_elim h4
  obtain ⟨to9, hq9, h6⟩ := W.asSlice_elim h5
  obtain ⟨i10, hq10, h7⟩ := W.asInt_elim h6
  obtain ⟨j16, hq16, h8⟩ := W.asInt_elim h7
  exact fun a ha => W.WP.at (E := [(1, l1.v), (5, e5.v), (6, sent6.v), (7, got7.v), (8, link8.v), (9, to9.v), (10, .int .i64 i10), (16, .int .i64 j16)]) (W.WP.seq (c := C81) (x := C106) (y := C82) (by kernel_rfl) <| W.WP.reg (c := C106) (fun E w => KE_S37 E w R) (by kernel_rfl) (Eq.mp (by kernel_rfl) h8) fun _ _ a hA hK => (KE_S37_ok R _ _ hK) a hA) (ha.cons hq1 (ha.cons hq5 (ha.cons hq6 (ha.cons hq7 (ha.cons hq8 (ha.cons hq9 (ha.cons hq10 (ha.cons hq16 ha.nil))))))))
noncomputable def C107 : Code := W.Code.fst C80
/-- law.go:164 -/
def S35 (l1 e5 sent6 got7 link8 to9 : W.Sl) (i10 n11 : Int) (w : World) (R : W.Post) : Prop :=
  ((link8.n : Nat) : Int) ≠ 0 ∧ S36 l1 e5 sent6 got7 link8 to9 i10 (Int.tmod (IntKind.wrap .i64 (Int.tdiv n11 2)) ((link8.n : Nat) : Int)) w R
def KE_S35 (E : W.Env) (w : World) (R : W.Post) : Prop := W.asSlice (W.Env.get? E 1) fun l1 => W.asSlice (W.Env.get? E 5) fun e5 => W.asSlice (W.Env.get? E 6) fun sent6 => W.asSlice (W.Env.get? E 7) fun got7 => W.asSlice (W.Env.get? E 8) fun link8 => W.asSlice (W.Env.get? E 9) fun to9 => W.asInt .i64 (W.Env.get? E 10) fun i10 => W.asInt .i64 (W.Env.get? E 11) fun n11 => S35 l1 e5 sent6 got7 link8 to9 i10 n11 w R
theorem KE_S35_ok (R : W.Post) (E : W.Env) (w : World) (h : KE_S35 E w R) : W.WP Try.prog 197 C80 (Q13 R) E w := by
  obtain ⟨l1, hq1, h1⟩ := W.asSlice_elim h
  obtain ⟨e5, hq5, h2⟩ := W.asSlice_elim h1
  obtain ⟨sent6, hq6, h3⟩ := W.asSlice_elim h2
  obtain ⟨got7, hq7, h4⟩ := W.asSlice_elim h3
  obtain ⟨link8, hq8, h5⟩ := W.asSlice_elim h4
  obtain ⟨to9, hq9, h6⟩ := W.asSlice_elim h5
  obtain ⟨i10, hq10, h7⟩ := W.asInt_elim h6
  obtain ⟨n11, hq11, h8⟩ := W.asInt_elim h7
  exact fun a ha => W.WP.at (E := [(1, l1.v), (5, e5.v), (6, sent6.v), (7, got7.v), (8, link8.v), (9, to9.v), (10, .int .i64 i10), (11, .int .i64 n11)]) (W.WP.seq (c := C80) (x := C107) (y := C81) (by kernel_rfl) <| W.WP.reg (c := C107) (fun E w => KE_S36 E w R) (by kernel_rfl) (Eq.mp (by kernel_rfl) h8) fun _ _ a hA hK => (KE_S36_ok R _ _ hK) a hA) (ha.cons hq1 (ha.cons hq5 (ha.cons hq6 (ha.cons hq7 (ha.cons hq8 (ha.cons hq9 (ha.cons hq10 (ha.cons hq11 ha.nil))))))))
noncomputable def C108 : Code := W.Code.fst C79
abbrev Q25 (R : W.Post) : Exit → Act → World → Prop := (Exit.then (Code.wp Try.prog C80 (Exit.inBlock 2 (Q4 R))) (Exit.inBlock 2 (Q4 R)))
noncomputable def C109 : Code := W.Code.fst C108
noncomputable def C110 : Code := W.Code.snd C108
noncomputable def C111 : Code := W.Code.fst C110
noncomputable def C112 : Code := W.Code.snd C110
/-- law.go:161 -/
def S34 (l1 e5 sent6 got7 link8 to9 : W.Sl) (i10 n11 : Int) (w : World) (R : W.Post) : Prop :=
  W.sel (((link8.n : Nat) : Int) == 0) (S25 l1 e5 sent6 got7 link8 to9 i10 w R) (S35 l1 e5 sent6 got7 link8 to9 i10 n11 w R)
def KE_S34 (E : W.Env) (w : World) (R : W.Post) : Prop := W.asSlice (W.Env.get? E 1) fun l1 => W.asSlice (W.Env.get? E 5) fun e5 => W.asSlice (W.Env.get? E 6) fun sent6 => W.asSlice (W.Env.get? E 7) fun got7 => W.asSlice (W.Env.get? E 8) fun link8 => W.asSlice (W.Env.get? E 9) fun to9 => W.asInt .i64 (W.Env.get? E 10) fun i10 => W.asInt .i64 (W.Env.get? E 11) fun n11 => S34 l1 e5 sent6 got7 link8 to9 i10 n11 w R
theorem KE_S34_ok (R : W.Post) (E : W.Env) (w : World) (h : KE_S34 E w R) : W.WP Try.prog 197 C108 (Q25 R) E w := by
  obtain ⟨l1, hq1, h1⟩ := W.asSlice_elim h
  obtain ⟨e5, hq5, h2⟩ := W.asSlice_elim h1
  obtain ⟨sent6, hq6, h3⟩ := W.asSlice_elim h2
  obtain ⟨got7, hq7, h4⟩ := W.asSlice_elim h3
  obtain ⟨link8, hq8, h5⟩ := W.asSlice_elim h4
  obtain ⟨to9, hq9, h6⟩ := W.asSlice_elim h5
  obtain ⟨i10, hq10, h7⟩ := W.asInt_elim h6
  obtain ⟨n11, hq11, h8⟩ := W.asInt_elim h7
  exact fun a ha => W.WP.at (E := [(1, l1.v), (5, e5.v), (6, sent6.v), (7, got7.v), (8, link8.v), (9, to9.v), (10, .int .i64 i10), (11, .int .i64 n11)]) (W.WP.seq (c := C108) (x := C109) (y := C110) (by kernel_rfl) <| W.WP.reg (c := C109) (fun E w => W.condK (W.Env.val E (.tmp 52)) (KE_S25 E w R) (KE_S35 E w R)) (by kernel_rfl) (Eq.mp (by kernel_rfl) h8) fun _ _ a hA hK => (W.WP.condK (c := C110) (x := C111) (y := C112) (o := .tmp 52) (by kernel_rfl) (fun hK => (W.WP.exit (c := C111) (id := 1) (by kernel_rfl) fun a hA => (KE_S25_ok R _ _ hK) a hA)) (fun hK => (W.WP.skip (c := C112) (by kernel_rfl) fun a hA => (KE_S35_ok R _ _ hK) a hA)) hK) a hA) (ha.cons hq1 (ha.cons hq5 (ha.cons hq6 (ha.cons hq7 (ha.cons hq8 (ha.cons hq9 (ha.cons hq10 (ha.cons hq11 ha.nil))))))))
noncomputable def C113 : Code := W.Code.fst C59
noncomputable def C114 : Code := W.Code.snd C113
noncomputable def C115 : Code := W.Code.snd C114
abbrev Q26 (R : W.Post) : Exit → Act → World → Prop := (Exit.then (Code.wp Try.prog C60 (Exit.inBlock 2 (Q4 R))) (Exit.inBlock 2 (Q4 R)))
/-- law.go:154 -/
def S45 (l1 e5 sent6 got7 link8 to9 : W.Sl) (i10 n11 k12 t49 : Int) (w : World) (R : W.Post) : Prop :=
  W.sel (t49 == 3) (S27 l1 e5 sent6 got7 link8 to9 i10 k12 w R) (S34 l1 e5 sent6 got7 link8 to9 i10 n11 w R)
def KE_S45 (E : W.Env) (w : World) (R : W.Post) : Prop := W.asSlice (W.Env.get? E 1) fun l1 => W.asSlice (W.Env.get? E 5) fun e5 => W.asSlice (W.Env.get? E 6) fun sent6 => W.asSlice (W.Env.get? E 7) fun got7 => W.asSlice (W.Env.get? E 8) fun link8 => W.asSlice (W.Env.get? E 9) fun to9 => W.asInt .i64 (W.Env.get? E 10) fun i10 => W.asInt .i64 (W.Env.get? E 11) fun n11 => W.asInt .i64 (W.Env.get? E 12) fun k12 => W.asInt .i64 (W.Env.get? E 49) fun t49 => S45 l1 e5 sent6 got7 link8 to9 i10 n11 k12 t49 w R
theorem KE_S45_ok (R : W.Post) (E : W.Env) (w : World) (h : KE_S45 E w R) : W.WP Try.prog 197 C115 (Q26 R) E w := by
  obtain ⟨l1, hq1, h1⟩ := W.asSlice_elim h
  obtain ⟨e5, hq5, h2⟩ := W.asSlice_elim h1
  obtain ⟨sent6, hq6, h3⟩ := W.asSlice_elim h2
  obtain ⟨got7, hq7, h4⟩ := W.asSlice_elim h3
  obtain ⟨link8, hq8, h5⟩ := W.asSlice_elim h4
  obtain ⟨to9, hq9, h6⟩ := W.asSlice_elim h5
  obtain ⟨i10, hq10, h7⟩ := W.asInt_elim h6
  obtain ⟨n11, hq11, h8⟩ := W.asInt_elim h7
  obtain ⟨k12, hq12, h9⟩ := W.asInt_elim h8
  obtain ⟨t49, hq49, h10⟩ := W.asInt_elim h9
  exact fun a ha => W.WP.at (E := [(1, l1.v), (5, e5.v), (6, sent6.v), (7, got7.v), (8, link8.v), (9, to9.v), (10, .int .i64 i10), (11, .int .i64 n11), (12, .int .i64 k12), (49, .int .i64 t49)]) (W.WP.reg (c := C115) (fun E w => W.condK (W.Env.val E (.tmp 136)) (KE_S27 E w R) (KE_S34 E w R)) (by kernel_rfl) (Eq.mp (by kernel_rfl) h10) fun _ _ a hA hK => (W.WP.condK (c := C60) (x := C61) (y := C79) (o := .tmp 136) (by kernel_rfl) (fun hK => (KE_S27_ok R _ _ hK)) (fun hK => (W.WP.seq (c := C79) (x := C108) (y := C80) (by kernel_rfl) (KE_S34_ok R _ _ hK))) hK) a hA) (ha.cons hq1 (ha.cons hq5 (ha.cons hq6 (ha.cons hq7 (ha.cons hq8 (ha.cons hq9 (ha.cons hq10 (ha.cons hq11 (ha.cons hq12 (ha.cons hq49 ha.nil))))))))))
noncomputable def C116 : Code := W.Code.fst C113
noncomputable def C117 : Code := W.Code.fst C114
/-- law.go:154 -/
def S26 (l1 e5 sent6 got7 link8 to9 : W.Sl) (i10 n11 k12 t49 : Int) (w : World) (R : W.Post) : Prop :=
  W.sel (t49 == 2) (W.sel (t49 == 2) (S27 l1 e5 sent6 got7 link8 to9 i10 k12 w R) (S34 l1 e5 sent6 got7 link8 to9 i10 n11 w R)) (S45 l1 e5 sent6 got7 link8 to9 i10 n11 k12 t49 w R)
def KE_S26 (E : W.Env) (w : World) (R : W.Post) : Prop := W.asSlice (W.Env.get? E 1) fun l1 => W.asSlice (W.Env.get? E 5) fun e5 => W.asSlice (W.Env.get? E 6) fun sent6 => W.asSlice (W.Env.get? E 7) fun got7 => W.asSlice (W.Env.get? E 8) fun link8 => W.asSlice (W.Env.get? E 9) fun to9 => W.asInt .i64 (W.Env.get? E 10) fun i10 => W.asInt .i64 (W.Env.get? E 11) fun n11 => W.asInt .i64 (W.Env.get? E 12) fun k12 => W.asInt .i64 (W.Env.get? E 49) fun t49 => S26 l1 e5 sent6 got7 link8 to9 i10 n11 k12 t49 w R
theorem KE_S26_ok (R : W.Post) (E : W.Env) (w : World) (h : KE_S26 E w R) : W.WP Try.prog 197 C113 (Q26 R) E w := by
  obtain ⟨l1, hq1, h1⟩ := W.asSlice_elim h
  obtain ⟨e5, hq5, h2⟩ := W.asSlice_elim h1
  obtain ⟨sent6, hq6, h3⟩ := W.asSlice_elim h2
  obtain ⟨got7, hq7, h4⟩ := W.asSlice_elim h3
  obtain ⟨link8, hq8, h5⟩ := W.asSlice_elim h4
  obtain ⟨to9, hq9, h6⟩ := W.asSlice_elim h5
  obtain ⟨i10, hq10, h7⟩ := W.asInt_elim h6
  obtain ⟨n11, hq11, h8⟩ := W.asInt_elim h7
  obtain ⟨k12, hq12, h9⟩ := W.asInt_elim h8
  obtain ⟨t49, hq49, h10⟩ := W.asInt_elim h9
  exact fun a ha => W.WP.at (E := [(1, l1.v), (5, e5.v), (6, sent6.v), (7, got7.v), (8, link8.v), (9, to9.v), (10, .int .i64 i10), (11, .int .i64 n11), (12, .int .i64 k12), (49, .int .i64 t49)]) (W.WP.seq (c := C113) (x := C116) (y := C114) (by kernel_rfl) <| W.WP.reg (c := C116) (fun E w => W.condK (W.Env.val E (.tmp 136)) (W.condK (W.Env.val E (.tmp 136)) (KE_S27 E w R) (KE_S34 E w R)) (KE_S45 E w R)) (by kernel_rfl) (Eq.mp (by kernel_rfl) h10) fun _ _ a hA hK => (W.WP.condK (c := C114) (x := C117) (y := C115) (o := .tmp 136) (by kernel_rfl) (fun hK => (W.WP.skip (c := C117) (by kernel_rfl) fun a hA => (W.WP.condK (c := C60) (x := C61) (y := C79) (o := .tmp 136) (by kernel_rfl) (fun hK => (KE_S27_ok R _ _ hK)) (fun hK => (W.WP.seq (c := C79) (x := C108) (y := C80) (by kernel_rfl) (KE_S34_ok R _ _ hK))) hK) a hA)) (fun hK => (KE_S45_ok R _ _ hK)) hK) a hA) (ha.cons hq1 (ha.cons hq5 (ha.cons hq6 (ha.cons hq7 (ha.cons hq8 (ha.cons hq9 (ha.cons hq10 (ha.cons hq11 (ha.cons hq12 (ha.cons hq49 ha.nil))))))))))
noncomputable def C118 : Code := W.Code.fst C25
noncomputable def C119 : Code := W.Code.snd C118
noncomputable def C120 : Code := W.Code.snd C119
abbrev Q27 (R : W.Post) : Exit → Act → World → Prop := (Exit.then (Code.wp Try.prog C26 (Exit.inBlock 2 (Q4 R))) (Exit.inBlock 2 (Q4 R)))
/-- law.go:148 -/
def S46 (l1 e5 sent6 got7 link8 to9 : W.Sl) (i10 n11 k12 t49 : Int) (w : World) (R : W.Post) : Prop :=
  W.sel (t49 == 1) (S15 l1 e5 sent6 got7 link8 to9 i10 k12 w R) (S26 l1 e5 sent6 got7 link8 to9 i10 n11 k12 t49 w R)
def KE_S46 (E : W.Env) (w : World) (R : W.Post) : Prop := W.asSlice (W.Env.get? E 1) fun l1 => W.asSlice (W.Env.get? E 5) fun e5 => W.asSlice (W.Env.get? E 6) fun sent6 => W.asSlice (W.Env.get? E 7) fun got7 => W.asSlice (W.Env.get? E 8) fun link8 => W.asSlice (W.Env.get? E 9) fun to9 => W.asInt .i64 (W.Env.get? E 10) fun i10 => W.asInt .i64 (W.Env.get? E 11) fun n11 => W.asInt .i64 (W.Env.get? E 12) fun k12 => W.asInt .i64 (W.Env.get? E 49) fun t49 => S46 l1 e5 sent6 got7 link8 to9 i10 n11 k12 t49 w R
theorem KE_S46_ok (R : W.Post) (E : W.Env) (w : World) (h : KE_S46 E w R) : W.WP Try.prog 197 C120 (Q27 R) E w := by
  obtain ⟨l1, hq1, h1⟩ := W.asSlice_elim h
  obtain ⟨e5, hq5, h2⟩ := W.asSlice_elim h1
  obtain ⟨sent6, hq6, h3⟩ := W.asSlice_elim h2
  obtain ⟨got7, hq7, h4⟩ := W.asSlice_elim h3
  obtain ⟨link8, hq8, h5⟩ := W.asSlice_elim h4
  obtain ⟨to9, hq9, h6⟩ := W.asSlice_elim h5
  obtain ⟨i10, hq10, h7⟩ := W.asInt_elim h6
  obtain ⟨n11, hq11, h8⟩ := W.asInt_elim h7
  obtain ⟨k12, hq12, h9⟩ := W.asInt_elim h8
  obtain ⟨t49, hq49, h10⟩ := W.asInt_elim h9
  exact fun a ha => W.WP.at (E := [(1, l1.v), (5, e5.v), (6, sent6.v), (7, got7.v), (8, link8.v), (9, to9.v), (10, .int .i64 i10), (11, .int .i64 n11), (12, .int .i64 k12), (49, .int .i64 t49)]) (W.WP.reg (c := C120) (fun E w => W.condK (W.Env.val E (.tmp 113)) (KE_S15 E w R) (KE_S26 E w R)) (by kernel_rfl) (Eq.mp (by kernel_rfl) h10) fun _ _ a hA hK => (W.WP.condK (c := C26) (x := C27) (y := C59) (o := .tmp 113) (by kernel_rfl) (fun hK => (KE_S15_ok R _ _ hK)) (fun hK => (W.WP.seq (c := C59) (x := C113) (y := C60) (by kernel_rfl) (KE_S26_ok R _ _ hK))) hK) a hA) (ha.cons hq1 (ha.cons hq5 (ha.cons hq6 (ha.cons hq7 (ha.cons hq8 (ha.cons hq9 (ha.cons hq10 (ha.cons hq11 (ha.cons hq12 (ha.cons hq49 ha.nil))))))))))
noncomputable def C121 : Code := W.Code.fst C118
noncomputable def C122 : Code := W.Code.fst C119
/-- law.go:148 -/
def S14 (l1 e5 sent6 got7 link8 to9 : W.Sl) (i10 n11 k12 t49 : Int) (w : World) (R : W.Post) : Prop :=
  W.sel (t49 == 0) (W.sel (t49 == 0) (S15 l1 e5 sent6 got7 link8 to9 i10 k12 w R) (S26 l1 e5 sent6 got7 link8 to9 i10 n11 k12 t49 w R)) (S46 l1 e5 sent6 got7 link8 to9 i10 n11 k12 t49 w R)
def KE_S14 (E : W.Env) (w : World) (R : W.Post) : Prop := W.asSlice (W.Env.get? E 1) fun l1 => W.asSlice (W.Env.get? E 5) fun e5 => W.asSlice (W.Env.get? E 6) fun sent6 => W.asSlice (W.Env.get? E 7) fun got7 => W.asSlice (W.Env.get? E 8) fun link8 => W.asSlice (W.Env.get? E 9) fun to9 => W.asInt .i64 (W.Env.get? E 10) fun i10 => W.asInt .i64 (W.Env.get? E 11) fun n11 => W.asInt .i64 (W.Env.get? E 12) fun k12 => W.asInt .i64 (W.Env.get? E 49) fun t49 => S14 l1 e5 sent6 got7 link8 to9 i10 n11 k12 t49 w R
theorem KE_S14_ok (R : W.Post) (E : W.Env) (w : World) (h : KE_S14 E w R) : W.WP Try.prog 197 C118 (Q27 R) E w := by
  obtain ⟨l1, hq1, h1⟩ := W.asSlice_elim h
  obtain ⟨e5, hq5, h2⟩ := W.asSlice_elim h1
  obtain ⟨sent6, hq6, h3⟩ := W.asSlice_elim h2
  obtain ⟨got7, hq7, h4⟩ := W.asSlice_elim h3
  obtain ⟨link8, hq8, h5⟩ := W.asSlice_elim h4
  obtain ⟨to9, hq9, h6⟩ := W.asSlice_elim h5
  obtain ⟨i10, hq10, h7⟩ := W.asInt_elim h6
  obtain ⟨n11, hq11, h8⟩ := W.asInt_elim h7
  obtain ⟨k12, hq12, h9⟩ := W.asInt_elim h8
  obtain ⟨t49, hq49, h10⟩ := W.asInt_elim h9
  exact fun a ha => W.WP.at (E := [(1, l1.v), (5, e5.v), (6, sent6.v), (7, got7.v), (8, link8.v), (9, to9.v), (10, .int .i64 i10), (11, .int .i64 n11), (12, .int .i64 k12), (49, .int .i64 t49)]) (W.WP.seq (c := C118) (x := C121) (y := C119) (by kernel_rfl) <| W.WP.reg (c := C121) (fun E w => W.condK (W.Env.val E (.tmp 113)) (W.condK (W.Env.val E (.tmp 113)) (KE_S15 E w R) (KE_S26 E w R)) (KE_S46 E w R)) (by kernel_rfl) (Eq.mp (by kernel_rfl) h10) fun _ _ a hA hK => (W.WP.condK (c := C119) (x := C122) (y := C120) (o := .tmp 113) (by kernel_rfl) (fun hK => (W.WP.skip (c := C122) (by kernel_rfl) fun a hA => (W.WP.condK (c := C26) (x := C27) (y := C59) (o := .tmp 113) (by kernel_rfl) (fun hK => (KE_S15_ok R _ _ hK)) (fun hK => (W.WP.seq (c := C59) (x := C113) (y := C60) (by kernel_rfl) (KE_S26_ok R _ _ hK))) hK) a hA)) (fun hK => (KE_S46_ok R _ _ hK)) hK) a hA) (ha.cons hq1 (ha.cons hq5 (ha.cons hq6 (ha.cons hq7 (ha.cons hq8 (ha.cons hq9 (ha.cons hq10 (ha.cons hq11 (ha.cons hq12 (ha.cons hq49 ha.nil))))))))))
noncomputable def C123 : Code := W.Code.fst C23
/-- law.go:147 -/
def S13 (l1 e5 sent6 got7 link8 to9 : W.Sl) (i10 n11 k12 : Int) (w : World) (R : W.Post) : Prop :=
  (0 : Int) ≤ i10 ∧ i10 < ((l1.n : Nat) : Int) ∧ W.optP l1.a fun t47_p => ∃ t48 : Int, w.cell? (t47_p.add (Int.toNat i10 * 1)) = some (.int .i64 t48) ∧ 
  Calls Try.prog n_enthymemeref01_Around #[.int .i64 t48, .int .i64 8] w fun r_ w1 => ∃ t49 : Int, r_ = .returned (.int .i64 t49) ∧ 
  S14 l1 e5 sent6 got7 link8 to9 i10 n11 k12 t49 w1 R
def KE_S13 (E : W.Env) (w : World) (R : W.Post) : Prop := W.asSlice (W.Env.get? E 1) fun l1 => W.asSlice (W.Env.get? E 5) fun e5 => W.asSlice (W.Env.get? E 6) fun sent6 => W.asSlice (W.Env.get? E 7) fun got7 => W.asSlice (W.Env.get? E 8) fun link8 => W.asSlice (W.Env.get? E 9) fun to9 => W.asInt .i64 (W.Env.get? E 10) fun i10 => W.asInt .i64 (W.Env.get? E 11) fun n11 => W.asInt .i64 (W.Env.get? E 12) fun k12 => S13 l1 e5 sent6 got7 link8 to9 i10 n11 k12 w R
theorem KE_S13_ok (R : W.Post) (E : W.Env) (w : World) (h : KE_S13 E w R) : W.WP Try.prog 197 C23 (Q4 R) E w := by
  obtain ⟨l1, hq1, h1⟩ := W.asSlice_elim h
  obtain ⟨e5, hq5, h2⟩ := W.asSlice_elim h1
  obtain ⟨sent6, hq6, h3⟩ := W.asSlice_elim h2
  obtain ⟨got7, hq7, h4⟩ := W.asSlice_elim h3
  obtain ⟨link8, hq8, h5⟩ := W.asSlice_elim h4
  obtain ⟨to9, hq9, h6⟩ := W.asSlice_elim h5
  obtain ⟨i10, hq10, h7⟩ := W.asInt_elim h6
  obtain ⟨n11, hq11, h8⟩ := W.asInt_elim h7
  obtain ⟨k12, hq12, h9⟩ := W.asInt_elim h8
  exact fun a ha => W.WP.at (E := [(1, l1.v), (5, e5.v), (6, sent6.v), (7, got7.v), (8, link8.v), (9, to9.v), (10, .int .i64 i10), (11, .int .i64 n11), (12, .int .i64 k12)]) (W.WP.seq (c := C23) (x := C123) (y := C24) (by kernel_rfl) <| W.WP.reg (c := C123) (fun E w => KE_S14 E w R) (by kernel_rfl) (Eq.mp (by kernel_rfl) h9) fun _ _ a hA hK => (W.WP.block (c := C24) (x := C25) (id := 2) (by kernel_rfl) (W.WP.seq (c := C25) (x := C118) (y := C26) (by kernel_rfl) (KE_S14_ok R _ _ hK))) a hA) (ha.cons hq1 (ha.cons hq5 (ha.cons hq6 (ha.cons hq7 (ha.cons hq8 (ha.cons hq9 (ha.cons hq10 (ha.cons hq11 (ha.cons hq12 ha.nil)))))))))
noncomputable def C124 : Code := W.Code.fst C21
/-- law.go:146 -/
def S12 (l1 e5 sent6 got7 link8 to9 : W.Sl) (i10 n11 : Int) (w : World) (R : W.Post) : Prop :=
  S13 l1 e5 sent6 got7 link8 to9 i10 n11 (Int.tmod n11 2) w R
def KE_S12 (E : W.Env) (w : World) (R : W.Post) : Prop := W.asSlice (W.Env.get? E 1) fun l1 => W.asSlice (W.Env.get? E 5) fun e5 => W.asSlice (W.Env.get? E 6) fun sent6 => W.asSlice (W.Env.get? E 7) fun got7 => W.asSlice (W.Env.get? E 8) fun link8 => W.asSlice (W.Env.get? E 9) fun to9 => W.asInt .i64 (W.Env.get? E 10) fun i10 => W.asInt .i64 (W.Env.get? E 11) fun n11 => S12 l1 e5 sent6 got7 link8 to9 i10 n11 w R
theorem KE_S12_ok (R : W.Post) (E : W.Env) (w : World) (h : KE_S12 E w R) : W.WP Try.prog 197 C21 (Q6 R) E w := by
  obtain ⟨l1, hq1, h1⟩ := W.asSlice_elim h
  obtain ⟨e5, hq5, h2⟩ := W.asSlice_elim h1
  obtain ⟨sent6, hq6, h3⟩ := W.asSlice_elim h2
  obtain ⟨got7, hq7, h4⟩ := W.asSlice_elim h3
  obtain ⟨link8, hq8, h5⟩ := W.asSlice_elim h4
  obtain ⟨to9, hq9, h6⟩ := W.asSlice_elim h5
  obtain ⟨i10, hq10, h7⟩ := W.asInt_elim h6
  obtain ⟨n11, hq11, h8⟩ := W.asInt_elim h7
  exact fun a ha => W.WP.at (E := [(1, l1.v), (5, e5.v), (6, sent6.v), (7, got7.v), (8, link8.v), (9, to9.v), (10, .int .i64 i10), (11, .int .i64 n11)]) (W.WP.seq (c := C21) (x := C124) (y := C22) (by kernel_rfl) <| W.WP.reg (c := C124) (fun E w => KE_S13 E w R) (by kernel_rfl) (Eq.mp (by kernel_rfl) h8) fun _ _ a hA hK => (W.WP.seq (c := C22) (x := C23) (y := C33) (by kernel_rfl) (KE_S13_ok R _ _ hK)) a hA) (ha.cons hq1 (ha.cons hq5 (ha.cons hq6 (ha.cons hq7 (ha.cons hq8 (ha.cons hq9 (ha.cons hq10 (ha.cons hq11 ha.nil))))))))
noncomputable def C125 : Code := W.Code.fst C20
/-- law.go:145 -/
def S11 (l1 e5 sent6 got7 link8 to9 : W.Sl) (i10 : Int) (w : World) (R : W.Post) : Prop :=
  (0 : Int) ≤ i10 ∧ i10 < ((l1.n : Nat) : Int) ∧ W.optP l1.a fun t39_p => ∃ t40 : Int, w.cell? (t39_p.add (Int.toNat i10 * 1)) = some (.int .i64 t40) ∧ 
  Calls Try.prog n_enthymemeref01_Around #[.int .i64 (IntKind.wrap .i64 (Int.tdiv t40 8)), .int .i64 1073741824] w fun r_ w1 => ∃ t42 : Int, r_ = .returned (.int .i64 t42) ∧ 
  S12 l1 e5 sent6 got7 link8 to9 i10 t42 w1 R
def KE_S11 (E : W.Env) (w : World) (R : W.Post) : Prop := W.asSlice (W.Env.get? E 1) fun l1 => W.asSlice (W.Env.get? E 5) fun e5 => W.asSlice (W.Env.get? E 6) fun sent6 => W.asSlice (W.Env.get? E 7) fun got7 => W.asSlice (W.Env.get? E 8) fun link8 => W.asSlice (W.Env.get? E 9) fun to9 => W.asInt .i64 (W.Env.get? E 10) fun i10 => S11 l1 e5 sent6 got7 link8 to9 i10 w R
theorem KE_S11_ok (R : W.Post) (E : W.Env) (w : World) (h : KE_S11 E w R) : W.WP Try.prog 197 C20 (Q6 R) E w := by
  obtain ⟨l1, hq1, h1⟩ := W.asSlice_elim h
  obtain ⟨e5, hq5, h2⟩ := W.asSlice_elim h1
  obtain ⟨sent6, hq6, h3⟩ := W.asSlice_elim h2
  obtain ⟨got7, hq7, h4⟩ := W.asSlice_elim h3
  obtain ⟨link8, hq8, h5⟩ := W.asSlice_elim h4
  obtain ⟨to9, hq9, h6⟩ := W.asSlice_elim h5
  obtain ⟨i10, hq10, h7⟩ := W.asInt_elim h6
  exact fun a ha => W.WP.at (E := [(1, l1.v), (5, e5.v), (6, sent6.v), (7, got7.v), (8, link8.v), (9, to9.v), (10, .int .i64 i10)]) (W.WP.seq (c := C20) (x := C125) (y := C21) (by kernel_rfl) <| W.WP.reg (c := C125) (fun E w => KE_S12 E w R) (by kernel_rfl) (Eq.mp (by kernel_rfl) h7) fun _ _ a hA hK => (KE_S12_ok R _ _ hK) a hA) (ha.cons hq1 (ha.cons hq5 (ha.cons hq6 (ha.cons hq7 (ha.cons hq8 (ha.cons hq9 (ha.cons hq10 ha.nil)))))))
abbrev Q28 (R : W.Post) : Exit → Act → World → Prop := (bodyPost Try.prog Try.f4 R)
noncomputable def C126 : Code := W.Code.fst C17
noncomputable def C127 : Code := W.Code.snd C17
/-- law.go:180 -/
def S47  (w : World) (R : W.Post) : Prop :=
  Calls Try.prog n_enthymemelaw38_lives #[] w fun r_ w1 => ∃ t196 : Bool, r_ = .returned (.bool t196) ∧ 
  R (.returned (.bool t196)) w1
def KE_S47 (E : W.Env) (w : World) (R : W.Post) : Prop := S47  w R
theorem KE_S47_ok (R : W.Post) (E : W.Env) (w : World) (h : KE_S47 E w R) : W.WP Try.prog 197 C17 (Q28 R) E w := by
  exact fun a ha => W.WP.at (E := []) (W.WP.seq (c := C17) (x := C126) (y := C127) (by kernel_rfl) <| W.WP.reg (c := C126) (fun E w => W.retVC Try.prog Try.f4 E w (fun v => R (.returned v) w)) (by kernel_rfl) (Eq.mp (by kernel_rfl) h) fun _ _ a hA hK => (W.WP.ret (c := C127) (by kernel_rfl) fun a hA => W.retVC_sound hA hK) a hA) ha.nil
noncomputable def C128 : Code := W.Code.fst C16
abbrev Q29 (R : W.Post) : Exit → Act → World → Prop := (Exit.then (Code.wp Try.prog C18 (Exit.then (W.LoopWP Try.prog C16 (Q2 R)) (Q2 R))) (Exit.then (W.LoopWP Try.prog C16 (Q2 R)) (Q2 R)))
noncomputable def C129 : Code := W.Code.fst C128
noncomputable def C130 : Code := W.Code.snd C128
noncomputable def C131 : Code := W.Code.fst C130
noncomputable def C132 : Code := W.Code.snd C130
/-- law.go:144 -/
def S10 (l1 e5 sent6 got7 link8 to9 : W.Sl) (i10 : Int) (w : World) (R : W.Post) : Prop :=
  W.sel (decide (i10 < ((l1.n : Nat) : Int))) (W.sel (decide (i10 < 80)) (S11 l1 e5 sent6 got7 link8 to9 i10 w R) (S47  w R)) (S47  w R)
def KE_S10 (E : W.Env) (w : World) (R : W.Post) : Prop := W.asSlice (W.Env.get? E 1) fun l1 => W.asSlice (W.Env.get? E 5) fun e5 => W.asSlice (W.Env.get? E 6) fun sent6 => W.asSlice (W.Env.get? E 7) fun got7 => W.asSlice (W.Env.get? E 8) fun link8 => W.asSlice (W.Env.get? E 9) fun to9 => W.asInt .i64 (W.Env.get? E 10) fun i10 => S10 l1 e5 sent6 got7 link8 to9 i10 w R
theorem KE_S10_ok (R : W.Post) (E : W.Env) (w : World) (h : KE_S10 E w R) : W.WP Try.prog 197 C128 (Q29 R) E w := by
  obtain ⟨l1, hq1, h1⟩ := W.asSlice_elim h
  obtain ⟨e5, hq5, h2⟩ := W.asSlice_elim h1
  obtain ⟨sent6, hq6, h3⟩ := W.asSlice_elim h2
  obtain ⟨got7, hq7, h4⟩ := W.asSlice_elim h3
  obtain ⟨link8, hq8, h5⟩ := W.asSlice_elim h4
  obtain ⟨to9, hq9, h6⟩ := W.asSlice_elim h5
  obtain ⟨i10, hq10, h7⟩ := W.asInt_elim h6
  exact fun a ha => W.WP.at (E := [(1, l1.v), (5, e5.v), (6, sent6.v), (7, got7.v), (8, link8.v), (9, to9.v), (10, .int .i64 i10)]) (W.WP.seq (c := C128) (x := C129) (y := C130) (by kernel_rfl) <| W.WP.reg (c := C129) (fun E w => W.condK (W.Env.val E (.tmp 34)) (KE_S11 E w R) (KE_S47 E w R)) (by kernel_rfl) (Eq.mp (by kernel_rfl) h7) fun _ _ a hA hK => (W.WP.condK (c := C130) (x := C131) (y := C132) (o := .tmp 34) (by kernel_rfl) (fun hK => (W.WP.skip (c := C131) (by kernel_rfl) fun a hA => (W.WP.seq (c := C18) (x := C19) (y := C32) (by kernel_rfl) (W.WP.block (c := C19) (x := C20) (id := 1) (by kernel_rfl) (KE_S11_ok R _ _ hK))) a hA)) (fun hK => (W.WP.exit (c := C132) (id := 0) (by kernel_rfl) fun a hA => (KE_S47_ok R _ _ hK) a hA)) hK) a hA) (ha.cons hq1 (ha.cons hq5 (ha.cons hq6 (ha.cons hq7 (ha.cons hq8 (ha.cons hq9 (ha.cons hq10 ha.nil)))))))
theorem L9_step (l1 e5 sent6 got7 link8 to9 : W.Sl) (i10 : Int) (w : World) (R : W.Post) (h : S10 l1 e5 sent6 got7 link8 to9 i10 w R) : L9 l1 e5 sent6 got7 link8 to9 i10 w R :=
  W.LP.step (c := C16) (E := [(1, l1.v), (5, e5.v), (6, sent6.v), (7, got7.v), (8, link8.v), (9, to9.v), (10, .int .i64 i10)]) (w := w) (W.WP.seq (c := C16) (x := C128) (y := C18) (by kernel_rfl) (KE_S10_ok R _ _ (Eq.mp (by kernel_rfl) h)))
noncomputable def C133 : Code := W.Code.fst C13
/-- law.go:144 -/
def S8 (l1 e5 sent6 got7 link8 to9 : W.Sl) (w : World) (R : W.Post) : Prop :=
  L9 l1 e5 sent6 got7 link8 to9 0 w R
def KE_S8 (E : W.Env) (w : World) (R : W.Post) : Prop := W.asSlice (W.Env.get? E 1) fun l1 => W.asSlice (W.Env.get? E 5) fun e5 => W.asSlice (W.Env.get? E 6) fun sent6 => W.asSlice (W.Env.get? E 7) fun got7 => W.asSlice (W.Env.get? E 8) fun link8 => W.asSlice (W.Env.get? E 9) fun to9 => S8 l1 e5 sent6 got7 link8 to9 w R
theorem KE_S8_ok (R : W.Post) (E : W.Env) (w : World) (h : KE_S8 E w R) : W.WP Try.prog 197 C13 (Q1 R) E w := by
  obtain ⟨l1, hq1, h1⟩ := W.asSlice_elim h
  obtain ⟨e5, hq5, h2⟩ := W.asSlice_elim h1
  obtain ⟨sent6, hq6, h3⟩ := W.asSlice_elim h2
  obtain ⟨got7, hq7, h4⟩ := W.asSlice_elim h3
  obtain ⟨link8, hq8, h5⟩ := W.asSlice_elim h4
  obtain ⟨to9, hq9, h6⟩ := W.asSlice_elim h5
  exact fun a ha => W.WP.at (E := [(1, l1.v), (5, e5.v), (6, sent6.v), (7, got7.v), (8, link8.v), (9, to9.v)]) (W.WP.seq (c := C13) (x := C133) (y := C14) (by kernel_rfl) <| W.WP.reg (c := C133) (fun E w => KE_L9 E w R) (by kernel_rfl) (Eq.mp (by kernel_rfl) h6) fun _ _ a hA hK => (W.WP.block (c := C14) (x := C15) (id := 0) (by kernel_rfl) (W.WP.loop (c := C15) (x := C16) (by kernel_rfl) (KE_L9_ok R _ _ hK))) a hA) (ha.cons hq1 (ha.cons hq5 (ha.cons hq6 (ha.cons hq7 (ha.cons hq8 (ha.cons hq9 ha.nil))))))
noncomputable def C134 : Code := W.Code.fst C11
/-- law.go:143 -/
def S7 (l1 e5 sent6 got7 link8 : W.Sl) (w : World) (R : W.Post) : Prop :=
  S8 l1 e5 sent6 got7 link8 ⟨none, 0, 0⟩ w R
def KE_S7 (E : W.Env) (w : World) (R : W.Post) : Prop := W.asSlice (W.Env.get? E 1) fun l1 => W.asSlice (W.Env.get? E 5) fun e5 => W.asSlice (W.Env.get? E 6) fun sent6 => W.asSlice (W.Env.get? E 7) fun got7 => W.asSlice (W.Env.get? E 8) fun link8 => S7 l1 e5 sent6 got7 link8 w R
theorem KE_S7_ok (R : W.Post) (E : W.Env) (w : World) (h : KE_S7 E w R) : W.WP Try.prog 197 C11 (Q28 R) E w := by
  obtain ⟨l1, hq1, h1⟩ := W.asSlice_elim h
  obtain ⟨e5, hq5, h2⟩ := W.asSlice_elim h1
  obtain ⟨sent6, hq6, h3⟩ := W.asSlice_elim h2
  obtain ⟨got7, hq7, h4⟩ := W.asSlice_elim h3
  obtain ⟨link8, hq8, h5⟩ := W.asSlice_elim h4
  exact fun a ha => W.WP.at (E := [(1, l1.v), (5, e5.v), (6, sent6.v), (7, got7.v), (8, link8.v)]) (W.WP.seq (c := C11) (x := C134) (y := C12) (by kernel_rfl) <| W.WP.reg (c := C134) (fun E w => KE_S8 E w R) (by kernel_rfl) (Eq.mp (by kernel_rfl) h5) fun _ _ a hA hK => (W.WP.seq (c := C12) (x := C13) (y := C17) (by kernel_rfl) (KE_S8_ok R _ _ hK)) a hA) (ha.cons hq1 (ha.cons hq5 (ha.cons hq6 (ha.cons hq7 (ha.cons hq8 ha.nil)))))
noncomputable def C135 : Code := W.Code.fst C10
/-- law.go:142 -/
def S6 (l1 e5 sent6 got7 : W.Sl) (w : World) (R : W.Post) : Prop :=
  S7 l1 e5 sent6 got7 ⟨none, 0, 0⟩ w R
def KE_S6 (E : W.Env) (w : World) (R : W.Post) : Prop := W.asSlice (W.Env.get? E 1) fun l1 => W.asSlice (W.Env.get? E 5) fun e5 => W.asSlice (W.Env.get? E 6) fun sent6 => W.asSlice (W.Env.get? E 7) fun got7 => S6 l1 e5 sent6 got7 w R
theorem KE_S6_ok (R : W.Post) (E : W.Env) (w : World) (h : KE_S6 E w R) : W.WP Try.prog 197 C10 (Q28 R) E w := by
  obtain ⟨l1, hq1, h1⟩ := W.asSlice_elim h
  obtain ⟨e5, hq5, h2⟩ := W.asSlice_elim h1
  obtain ⟨sent6, hq6, h3⟩ := W.asSlice_elim h2
  obtain ⟨got7, hq7, h4⟩ := W.asSlice_elim h3
  exact fun a ha => W.WP.at (E := [(1, l1.v), (5, e5.v), (6, sent6.v), (7, got7.v)]) (W.WP.seq (c := C10) (x := C135) (y := C11) (by kernel_rfl) <| W.WP.reg (c := C135) (fun E w => KE_S7 E w R) (by kernel_rfl) (Eq.mp (by kernel_rfl) h4) fun _ _ a hA hK => (KE_S7_ok R _ _ hK) a hA) (ha.cons hq1 (ha.cons hq5 (ha.cons hq6 (ha.cons hq7 ha.nil))))
noncomputable def C136 : Code := W.Code.fst C9
/-- law.go:141 -/
def S5 (l1 e5 sent6 : W.Sl) (w : World) (R : W.Post) : Prop :=
  let w1 := w.alloc (.cells #[.int .i64 0, .int .i64 0] ty_int)
  S6 l1 e5 sent6 ⟨some (Addr.mk w.heap.size 0 none), 2, 2⟩ w1 R
def KE_S5 (E : W.Env) (w : World) (R : W.Post) : Prop := W.asSlice (W.Env.get? E 1) fun l1 => W.asSlice (W.Env.get? E 5) fun e5 => W.asSlice (W.Env.get? E 6) fun sent6 => S5 l1 e5 sent6 w R
theorem KE_S5_ok (R : W.Post) (E : W.Env) (w : World) (h : KE_S5 E w R) : W.WP Try.prog 197 C9 (Q28 R) E w := by
  obtain ⟨l1, hq1, h1⟩ := W.asSlice_elim h
  obtain ⟨e5, hq5, h2⟩ := W.asSlice_elim h1
  obtain ⟨sent6, hq6, h3⟩ := W.asSlice_elim h2
  exact fun a ha => W.WP.at (E := [(1, l1.v), (5, e5.v), (6, sent6.v)]) (W.WP.seq (c := C9) (x := C136) (y := C10) (by kernel_rfl) <| W.WP.reg (c := C136) (fun E w => KE_S6 E w R) (by kernel_rfl) (Eq.mp (by kernel_rfl) h3) fun _ _ a hA hK => (KE_S6_ok R _ _ hK) a hA) (ha.cons hq1 (ha.cons hq5 (ha.cons hq6 ha.nil)))
noncomputable def C137 : Code := W.Code.fst C6
/-- law.go:140 -/
def S4 (l1 e5 : W.Sl) (w : World) (R : W.Post) : Prop :=
  let w1 := w.alloc (.cells #[.slice none 0 0, .slice none 0 0] ty_sl_sl_uint8)
  S5 l1 e5 ⟨some (Addr.mk w.heap.size 0 none), 2, 2⟩ w1 R
def KE_S4 (E : W.Env) (w : World) (R : W.Post) : Prop := W.asSlice (W.Env.get? E 1) fun l1 => W.asSlice (W.Env.get? E 5) fun e5 => S4 l1 e5 w R
theorem KE_S4_ok (R : W.Post) (E : W.Env) (w : World) (h : KE_S4 E w R) : W.WP Try.prog 197 C6 (Q28 R) E w := by
  obtain ⟨l1, hq1, h1⟩ := W.asSlice_elim h
  obtain ⟨e5, hq5, h2⟩ := W.asSlice_elim h1
  exact fun a ha => W.WP.at (E := [(1, l1.v), (5, e5.v)]) (W.WP.seq (c := C6) (x := C137) (y := C9) (by kernel_rfl) <| W.WP.reg (c := C137) (fun E w => KE_S5 E w R) (by kernel_rfl) (Eq.mp (by kernel_rfl) h2) fun _ _ a hA hK => (KE_S5_ok R _ _ hK) a hA) (ha.cons hq1 (ha.cons hq5 ha.nil))
noncomputable def C138 : Code := W.Code.fst C3
noncomputable def C139 : Code := W.Code.snd C4
/-- law.go:137 -/
def S2 (l1 e5 : W.Sl) (w : World) (R : W.Post) : Prop :=
  W.sel e5.a.isNone (S3  w R) (S4 l1 e5 w R)
def KE_S2 (E : W.Env) (w : World) (R : W.Post) : Prop := W.asSlice (W.Env.get? E 1) fun l1 => W.asSlice (W.Env.get? E 5) fun e5 => S2 l1 e5 w R
theorem KE_S2_ok (R : W.Post) (E : W.Env) (w : World) (h : KE_S2 E w R) : W.WP Try.prog 197 C3 (Q0 R) E w := by
  obtain ⟨l1, hq1, h1⟩ := W.asSlice_elim h
  obtain ⟨e5, hq5, h2⟩ := W.asSlice_elim h1
  exact fun a ha => W.WP.at (E := [(1, l1.v), (5, e5.v)]) (W.WP.seq (c := C3) (x := C138) (y := C4) (by kernel_rfl) <| W.WP.reg (c := C138) (fun E w => W.condK (W.Env.val E (.tmp 24)) (KE_S3 E w R) (KE_S4 E w R)) (by kernel_rfl) (Eq.mp (by kernel_rfl) h2) fun _ _ a hA hK => (W.WP.condK (c := C4) (x := C5) (y := C139) (o := .tmp 24) (by kernel_rfl) (fun hK => (KE_S3_ok R _ _ hK)) (fun hK => (W.WP.skip (c := C139) (by kernel_rfl) fun a hA => (KE_S4_ok R _ _ hK) a hA)) hK) a hA) (ha.cons hq1 (ha.cons hq5 ha.nil))
noncomputable def C140 : Code := W.Code.fst C1
/-- law.go:136 -/
def S1 (window0 : Int) (l1 : W.Sl) (w : World) (R : W.Post) : Prop :=
  Calls Try.prog n_enthymemelaw38_ends #[.int .i64 window0] w fun r_ w1 => ∃ t22 : W.Sl, r_ = .returned (t22.v) ∧ 
  S2 l1 t22 w1 R
def KE_S1 (E : W.Env) (w : World) (R : W.Post) : Prop := W.asInt .i64 (W.Env.get? E 0) fun window0 => W.asSlice (W.Env.get? E 1) fun l1 => S1 window0 l1 w R
theorem KE_S1_ok (R : W.Post) (E : W.Env) (w : World) (h : KE_S1 E w R) : W.WP Try.prog 197 C1 (Q28 R) E w := by
  obtain ⟨window0, hq0, h1⟩ := W.asInt_elim h
  obtain ⟨l1, hq1, h2⟩ := W.asSlice_elim h1
  exact fun a ha => W.WP.at (E := [(0, .int .i64 window0), (1, l1.v)]) (W.WP.seq (c := C1) (x := C140) (y := C2) (by kernel_rfl) <| W.WP.reg (c := C140) (fun E w => KE_S2 E w R) (by kernel_rfl) (Eq.mp (by kernel_rfl) h2) fun _ _ a hA hK => (W.WP.seq (c := C2) (x := C3) (y := C6) (by kernel_rfl) (KE_S2_ok R _ _ hK)) a hA) (ha.cons hq0 (ha.cons hq1 ha.nil))
noncomputable def C141 : Code := W.Code.fst C0
/-- law.go:135 -/
def S0 (window0 : Int) (l1 : W.Sl) (w : World) (R : W.Post) : Prop :=
  S1 window0 l1 w R
def KE_S0 (E : W.Env) (w : World) (R : W.Post) : Prop := W.asInt .i64 (W.Env.get? E 0) fun window0 => W.asSlice (W.Env.get? E 1) fun l1 => S0 window0 l1 w R
theorem KE_S0_ok (R : W.Post) (E : W.Env) (w : World) (h : KE_S0 E w R) : W.WP Try.prog 197 C0 (Q28 R) E w := by
  obtain ⟨window0, hq0, h1⟩ := W.asInt_elim h
  obtain ⟨l1, hq1, h2⟩ := W.asSlice_elim h1
  exact fun a ha => W.WP.at (E := [(0, .int .i64 window0), (1, l1.v)]) (W.WP.seq (c := C0) (x := C141) (y := C1) (by kernel_rfl) <| W.WP.reg (c := C141) (fun E w => KE_S1 E w R) (by kernel_rfl) (Eq.mp (by kernel_rfl) h2) fun _ _ a hA hK => (KE_S1_ok R _ _ hK) a hA) (ha.cons hq0 (ha.cons hq1 ha.nil))
/-- enthymeme/enthymemelaw38.ChannelOrder -/
theorem ok (window0 : Int) (l1 : W.Sl) (w : World) (R : W.Post) (h : S0 window0 l1 w R) : Calls Try.prog n_enthymemelaw38_ChannelOrder #[.int .i64 window0, l1.v] w R :=
  W.calls_of_WP' (fn := Try.f4) (c := C0) (args := [.int .i64 window0, l1.v]) (by kernel_rfl) (by kernel_rfl) (by kernel_rfl) (KE_S0_ok R _ _ (Eq.mp (by kernel_rfl) h))
end enthymemelaw38_ChannelOrder
end Go.Proofs.Ytellmncndfmbbaa

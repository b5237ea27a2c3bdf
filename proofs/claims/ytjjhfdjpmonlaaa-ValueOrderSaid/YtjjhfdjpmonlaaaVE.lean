/- Printed by a program of ours (vcgen.py) from the dump: the conditions of the functions, and that they suffice. -/
import Derived.Test.YtjjhfdjpmonlaaaVR
import Derived.Test.YtjjhfdjpmonlaaaVW
import Derived.Test.YtjjhfdjpmonlaaaVX
import Derived.Test.YtjjhfdjpmonlaaaY
set_option linter.unusedVariables false
set_option maxRecDepth 100000
set_option maxHeartbeats 2000000
namespace Go.Proofs.Ytjjhfdjpmonlaaa
open Go Go.W
namespace enthymemelaw06_ValueOrder
noncomputable def C0 : Code := (Try.f7.body).getD .skip
noncomputable def C1:=C0.sn
noncomputable def C2:=C1.sn
noncomputable def C3:=C2.fs
noncomputable def C4:=C3.sn
noncomputable def C5:=C4.fs
noncomputable def C6:=C5.fs
noncomputable def C7:=C2.sn
abbrev Q0 (R : Post) : Exit → Act → World → Prop := (Exit.then (wpx Try.prog (cx 154) C7 (bodyPost Try.prog Try.f7 R)) (bodyPost Try.prog Try.f7 R))
abbrev Q1 (R : Post) : Exit → Act → World → Prop := (Exit.inBlock 0 (Q0 R))
/-- the head of the loop, law.go:71 -/
def L0 (all13 : Sl) (i14 : Int) (w : World) (R : Post) : Prop := LP Try.prog (cx 154) C6 (Q1 R) [(13, all13.v), (14, .i i14)] w
def KE_L0 (E : Env) (w : World) (R : Post) : Prop := asSlice (Env.get? E 13) fun all13 => W.asInt .i64 (Env.get? E 14) fun i14 => L0 all13 i14 w R
theorem KE_L0_ok (R : Post) (E : Env) (w : World) (h : KE_L0 E w R) : LP Try.prog (cx 154) C6 (Q1 R) E w := by
  obtain ⟨all13, hq13, h_1⟩ := asSlice_elim h
  obtain ⟨i14, hq14, h_2⟩ := asInt_elim h_1
  intro a ha
  exact h_2 a (ha.cons hq13 (ha.cons hq14 ha.nil))
noncomputable def C8:=C6.sn
noncomputable def C9:=C8.fs
noncomputable def C10:=C9.fs
noncomputable def C11:=C10.sn
noncomputable def C12:=C11.fs
noncomputable def C13:=C12.fs
noncomputable def C14:=C8.sn
abbrev Q2 (R : Post) : Exit → Act → World → Prop := (Exit.then (wpx Try.prog (cx 154) C14 (Exit.then (LoopWP Try.prog (cx 154) C6 (Q1 R)) (Q1 R))) (Exit.then (LoopWP Try.prog (cx 154) C6 (Q1 R)) (Q1 R)))
abbrev Q3 (R : Post) : Exit → Act → World → Prop := (Exit.inBlock 1 (Q2 R))
abbrev Q4 (R : Post) : Exit → Act → World → Prop := (Exit.inBlock 2 (Q3 R))
/-- the head of the loop, law.go:72 -/
def L1 (all13 : Sl) (i14 k15 : Int) (w : World) (R : Post) : Prop := LP Try.prog (cx 154) C13 (Q4 R) [(13, all13.v), (14, .i i14), (15, .i k15)] w
def KE_L1 (E : Env) (w : World) (R : Post) : Prop := asSlice (Env.get? E 13) fun all13 => W.asInt .i64 (Env.get? E 14) fun i14 => W.asInt .i64 (Env.get? E 15) fun k15 => L1 all13 i14 k15 w R
theorem KE_L1_ok (R : Post) (E : Env) (w : World) (h : KE_L1 E w R) : LP Try.prog (cx 154) C13 (Q4 R) E w := by
  obtain ⟨all13, hq13, h_1⟩ := asSlice_elim h
  obtain ⟨i14, hq14, h_2⟩ := asInt_elim h_1
  obtain ⟨k15, hq15, h_3⟩ := asInt_elim h_2
  intro a ha
  exact h_3 a (ha.cons hq13 (ha.cons hq14 (ha.cons hq15 ha.nil)))
noncomputable def C15:=C13.sn
noncomputable def C16:=C15.fs
noncomputable def C17:=C16.fs
noncomputable def C18:=C17.sn
noncomputable def C19:=C18.fs
noncomputable def C20:=C19.sn
noncomputable def C21:=C20.fs
noncomputable def C22:=C15.sn
abbrev Q5 (R : Post) : Exit → Act → World → Prop := (Exit.then (wpx Try.prog (cx 154) C22 (Exit.then (LoopWP Try.prog (cx 154) C13 (Q4 R)) (Q4 R))) (Exit.then (LoopWP Try.prog (cx 154) C13 (Q4 R)) (Q4 R)))
noncomputable def C23:=C18.sn
abbrev Q6 (R : Post) : Exit → Act → World → Prop := (Exit.then (wpx Try.prog (cx 154) C23 (Exit.inBlock 3 (Q5 R))) (Exit.inBlock 3 (Q5 R)))
noncomputable def C24:=C21.sn
/-- law.go:75 -/
abbrev S2  (w : World) (R : Post) : Prop :=
  R (.returned (.bool false)) w
def KE_S2 (E : Env) (w : World) (R : Post) : Prop := S2  w R
theorem KE_S2_ok (R : Post) (E : Env) (w : World) (h : KE_S2 E w R) : WP Try.prog (cx 154) C21 (Q6 R) E w := by
  exact fun a ha => WP.at (E := []) (sr C21 (K := fun E w => retVC Try.prog Try.f7 E w (fun v => R (.returned v) w)) (Eq.mp (by kernel_rfl) h) fun _ _ hK => (rt C24 fun a hA => retVC_sound hA hK)) ha.nil
noncomputable def C25:=C23.sn
noncomputable def C26:=C25.sn
noncomputable def C27:=C26.sn
noncomputable def C28:=C27.sn
noncomputable def C29:=C28.fs
noncomputable def C30:=C29.fs
abbrev Q7 (R : Post) : Exit → Act → World → Prop := (Exit.inBlock 3 (Q5 R))
abbrev Q8 (R : Post) : Exit → Act → World → Prop := (Exit.inBlock 4 (Q7 R))
/-- the head of the loop, law.go:82 -/
def L4 (all13 : Sl) (i14 k15 c16 j21 : Int) (w : World) (R : Post) : Prop := LP Try.prog (cx 154) C30 (Q8 R) [(13, all13.v), (14, .i i14), (15, .i k15), (16, .i c16), (21, .i j21)] w
def KE_L4 (E : Env) (w : World) (R : Post) : Prop := asSlice (Env.get? E 13) fun all13 => W.asInt .i64 (Env.get? E 14) fun i14 => W.asInt .i64 (Env.get? E 15) fun k15 => W.asInt .i64 (Env.get? E 16) fun c16 => W.asInt .i64 (Env.get? E 21) fun j21 => L4 all13 i14 k15 c16 j21 w R
theorem KE_L4_ok (R : Post) (E : Env) (w : World) (h : KE_L4 E w R) : LP Try.prog (cx 154) C30 (Q8 R) E w := by
  obtain ⟨all13, hq13, h_1⟩ := asSlice_elim h
  obtain ⟨i14, hq14, h_2⟩ := asInt_elim h_1
  obtain ⟨k15, hq15, h_3⟩ := asInt_elim h_2
  obtain ⟨c16, hq16, h_4⟩ := asInt_elim h_3
  obtain ⟨j21, hq21, h_5⟩ := asInt_elim h_4
  intro a ha
  exact h_5 a (ha.cons hq13 (ha.cons hq14 (ha.cons hq15 (ha.cons hq16 (ha.cons hq21 ha.nil)))))
noncomputable def C31:=C30.sn
noncomputable def C32:=C31.sn
abbrev Q9 (R : Post) : Exit → Act → World → Prop := (Exit.then (LoopWP Try.prog (cx 154) C30 (Q8 R)) (Q8 R))
/-- law.go:82 -/
abbrev S5 (all13 : Sl) (i14 k15 c16 j21 : Int) (w : World) (R : Post) : Prop :=
  L4 all13 i14 k15 c16 (IntKind.wrap .i64 (j21 + 1)) w R
def KE_S5 (E : Env) (w : World) (R : Post) : Prop := asSlice (Env.get? E 13) fun all13 => W.asInt .i64 (Env.get? E 14) fun i14 => W.asInt .i64 (Env.get? E 15) fun k15 => W.asInt .i64 (Env.get? E 16) fun c16 => W.asInt .i64 (Env.get? E 21) fun j21 => S5 all13 i14 k15 c16 j21 w R
theorem KE_S5_ok (R : Post) (E : Env) (w : World) (h : KE_S5 E w R) : WP Try.prog (cx 154) C32 (Q9 R) E w := by
  obtain ⟨all13, hq13, h_1⟩ := asSlice_elim h
  obtain ⟨i14, hq14, h_2⟩ := asInt_elim h_1
  obtain ⟨k15, hq15, h_3⟩ := asInt_elim h_2
  obtain ⟨c16, hq16, h_4⟩ := asInt_elim h_3
  obtain ⟨j21, hq21, h_5⟩ := asInt_elim h_4
  exact fun a ha => WP.at (E := [(13, all13.v), (14, .i i14), (15, .i k15), (16, .i c16), (21, .i j21)]) (rg C32 (K := fun E w => KE_L4 E w R) (by kernel_rfl) (Eq.mp (by kernel_rfl) h_5) fun _ _ a hA hK => KE_L4_ok R _ _ hK a hA) (ha.cons hq13 (ha.cons hq14 (ha.cons hq15 (ha.cons hq16 (ha.cons hq21 ha.nil)))))
noncomputable def C33:=C30.fs
noncomputable def C34:=C31.fs
noncomputable def C35:=C34.fs
noncomputable def C36:=C35.sn
noncomputable def C37:=C36.fs
noncomputable def C38:=C33.sn
noncomputable def C39:=C38.fs
noncomputable def C40:=C37.sn
noncomputable def C41:=C36.sn
noncomputable def C42:=C38.sn
theorem L4_step (all13 : Sl) (i14 k15 c16 j21 : Int) (w : World) (R : Post) (h : sel (decide (j21 < ((all13.n : Nat) : Int))) (drV w fun w1 => sel (decide (c16 ≤ 0)) ((0 : Int) ≤ k15 ∧ k15 < ((all13.n : Nat) : Int) ∧ optP all13.a fun t128_p => ∃ t129_0 : Int, ∃ t129_1 : Int, ∃ t129_2 : Int, ∃ t129_3 : Int, ∃ t129_4 : ByteArray, ∃ t129_5 : Sl, w1.cell? ((t128_p.add (Int.toNat k15 * 6)).add 0) = some (.i t129_0) ∧ w1.cell? ((t128_p.add (Int.toNat k15 * 6)).add 1) = some (.i t129_1) ∧ w1.cell? ((t128_p.add (Int.toNat k15 * 6)).add 2) = some (.i t129_2) ∧ w1.cell? ((t128_p.add (Int.toNat k15 * 6)).add 3) = some (.u t129_3) ∧ w1.cell? ((t128_p.add (Int.toNat k15 * 6)).add 4) = some (.string t129_4) ∧ w1.cell? ((t128_p.add (Int.toNat k15 * 6)).add 5) = some (t129_5.v) ∧ 
  (0 : Int) ≤ j21 ∧ j21 < ((all13.n : Nat) : Int) ∧ optP all13.a fun t133_p => ∃ t134_0 : Int, ∃ t134_1 : Int, ∃ t134_2 : Int, ∃ t134_3 : Int, ∃ t134_4 : ByteArray, ∃ t134_5 : Sl, w1.cell? ((t133_p.add (Int.toNat j21 * 6)).add 0) = some (.i t134_0) ∧ w1.cell? ((t133_p.add (Int.toNat j21 * 6)).add 1) = some (.i t134_1) ∧ w1.cell? ((t133_p.add (Int.toNat j21 * 6)).add 2) = some (.i t134_2) ∧ w1.cell? ((t133_p.add (Int.toNat j21 * 6)).add 3) = some (.u t134_3) ∧ w1.cell? ((t133_p.add (Int.toNat j21 * 6)).add 4) = some (.string t134_4) ∧ w1.cell? ((t133_p.add (Int.toNat j21 * 6)).add 5) = some (t134_5.v) ∧ 
  Calls Try.prog n_enthymemelaw06_own #[.agg #[.i t129_0, .i t129_1, .i t129_2, .u t129_3, .string t129_4, t129_5.v]] w1 fun r_ w2 => ∃ t130_0 : Int, ∃ t130_1 : Int, ∃ t130_2 : Int, ∃ t130_3 : Int, ∃ t130_4 : ByteArray, ∃ t130_5 : Sl, r_ = .returned (.agg #[.i t130_0, .i t130_1, .i t130_2, .u t130_3, .string t130_4, t130_5.v]) ∧ 
  w2.cell? ((t133_p.add (Int.toNat j21 * 6)).add 0) = some (.i t134_0) ∧ w2.cell? ((t133_p.add (Int.toNat j21 * 6)).add 1) = some (.i t134_1) ∧ w2.cell? ((t133_p.add (Int.toNat j21 * 6)).add 2) = some (.i t134_2) ∧ w2.cell? ((t133_p.add (Int.toNat j21 * 6)).add 3) = some (.u t134_3) ∧ w2.cell? ((t133_p.add (Int.toNat j21 * 6)).add 4) = some (.string t134_4) ∧ w2.cell? ((t133_p.add (Int.toNat j21 * 6)).add 5) = some (t134_5.v) ∧ Calls Try.prog n_enthymemelaw06_own #[.agg #[.i t134_0, .i t134_1, .i t134_2, .u t134_3, .string t134_4, t134_5.v]] w2 fun r_ w3 => ∃ t135_0 : Int, ∃ t135_1 : Int, ∃ t135_2 : Int, ∃ t135_3 : Int, ∃ t135_4 : ByteArray, ∃ t135_5 : Sl, r_ = .returned (.agg #[.i t135_0, .i t135_1, .i t135_2, .u t135_3, .string t135_4, t135_5.v]) ∧ 
  Calls Try.prog n_value_Compare #[.agg #[.i t130_0, .i t130_1, .i t130_2, .u t130_3, .string t130_4, t130_5.v], .agg #[.i t135_0, .i t135_1, .i t135_2, .u t135_3, .string t135_4, t135_5.v]] w3 fun r_ w4 => ∃ t136 : Int, r_ = .returned (.i t136) ∧ 
  sel (decide (t136 ≤ 0)) ((0 : Int) ≤ i14 ∧ i14 < ((all13.n : Nat) : Int) ∧ optP all13.a fun t142_p => ∃ t143_0 : Int, ∃ t143_1 : Int, ∃ t143_2 : Int, ∃ t143_3 : Int, ∃ t143_4 : ByteArray, ∃ t143_5 : Sl, w4.cell? ((t142_p.add (Int.toNat i14 * 6)).add 0) = some (.i t143_0) ∧ w4.cell? ((t142_p.add (Int.toNat i14 * 6)).add 1) = some (.i t143_1) ∧ w4.cell? ((t142_p.add (Int.toNat i14 * 6)).add 2) = some (.i t143_2) ∧ w4.cell? ((t142_p.add (Int.toNat i14 * 6)).add 3) = some (.u t143_3) ∧ w4.cell? ((t142_p.add (Int.toNat i14 * 6)).add 4) = some (.string t143_4) ∧ w4.cell? ((t142_p.add (Int.toNat i14 * 6)).add 5) = some (t143_5.v) ∧ 
  (0 : Int) ≤ j21 ∧ j21 < ((all13.n : Nat) : Int) ∧ optP all13.a fun t147_p => ∃ t148_0 : Int, ∃ t148_1 : Int, ∃ t148_2 : Int, ∃ t148_3 : Int, ∃ t148_4 : ByteArray, ∃ t148_5 : Sl, w4.cell? ((t147_p.add (Int.toNat j21 * 6)).add 0) = some (.i t148_0) ∧ w4.cell? ((t147_p.add (Int.toNat j21 * 6)).add 1) = some (.i t148_1) ∧ w4.cell? ((t147_p.add (Int.toNat j21 * 6)).add 2) = some (.i t148_2) ∧ w4.cell? ((t147_p.add (Int.toNat j21 * 6)).add 3) = some (.u t148_3) ∧ w4.cell? ((t147_p.add (Int.toNat j21 * 6)).add 4) = some (.string t148_4) ∧ w4.cell? ((t147_p.add (Int.toNat j21 * 6)).add 5) = some (t148_5.v) ∧ 
  Calls Try.prog n_enthymemelaw06_own #[.agg #[.i t143_0, .i t143_1, .i t143_2, .u t143_3, .string t143_4, t143_5.v]] w4 fun r_ w5 => ∃ t144_0 : Int, ∃ t144_1 : Int, ∃ t144_2 : Int, ∃ t144_3 : Int, ∃ t144_4 : ByteArray, ∃ t144_5 : Sl, r_ = .returned (.agg #[.i t144_0, .i t144_1, .i t144_2, .u t144_3, .string t144_4, t144_5.v]) ∧ 
  w5.cell? ((t147_p.add (Int.toNat j21 * 6)).add 0) = some (.i t148_0) ∧ w5.cell? ((t147_p.add (Int.toNat j21 * 6)).add 1) = some (.i t148_1) ∧ w5.cell? ((t147_p.add (Int.toNat j21 * 6)).add 2) = some (.i t148_2) ∧ w5.cell? ((t147_p.add (Int.toNat j21 * 6)).add 3) = some (.u t148_3) ∧ w5.cell? ((t147_p.add (Int.toNat j21 * 6)).add 4) = some (.string t148_4) ∧ w5.cell? ((t147_p.add (Int.toNat j21 * 6)).add 5) = some (t148_5.v) ∧ Calls Try.prog n_enthymemelaw06_own #[.agg #[.i t148_0, .i t148_1, .i t148_2, .u t148_3, .string t148_4, t148_5.v]] w5 fun r_ w6 => ∃ t149_0 : Int, ∃ t149_1 : Int, ∃ t149_2 : Int, ∃ t149_3 : Int, ∃ t149_4 : ByteArray, ∃ t149_5 : Sl, r_ = .returned (.agg #[.i t149_0, .i t149_1, .i t149_2, .u t149_3, .string t149_4, t149_5.v]) ∧ 
  Calls Try.prog n_value_Compare #[.agg #[.i t144_0, .i t144_1, .i t144_2, .u t144_3, .string t144_4, t144_5.v], .agg #[.i t149_0, .i t149_1, .i t149_2, .u t149_3, .string t149_4, t149_5.v]] w6 fun r_ w7 => ∃ t150 : Int, r_ = .returned (.i t150) ∧ 
  sel (decide (t150 > 0)) (R (.returned (.bool false)) w7) (S5 all13 i14 k15 c16 j21 w7 R)) (S5 all13 i14 k15 c16 j21 w4 R)) (S5 all13 i14 k15 c16 j21 w1 R)) (L1 all13 i14 (IntKind.wrap .i64 (k15 + 1)) w R)) : L4 all13 i14 k15 c16 j21 w R :=
  LP.step (n := (cx 154)) (c := C30) (E := [(13, all13.v), (14, .i i14), (15, .i k15), (16, .i c16), (21, .i j21)]) (w := w) (sq C30 (sr C33 (show (fun (E : Env) (w : World) => srK Try.prog C33 (fun E w => condK (Env.val E (.tmp 120)) (sdK Try.prog C35 [0, 1, 2, 3, 4, 5, 6, 8, 9, 10, 11, 7, 12, 13, 14, 15, 16, 17, 18, 19, 20, 22, 23, 24, 25, 21, 26, 27, 28, 29] (fun E w => condK (Env.val E (.tmp 152)) (srK Try.prog C37 (fun E w => retVC Try.prog Try.f7 E w (fun v => R (.returned v) w)) E w) (KE_S5 E w R)) E w) (rgK Try.prog C22 (fun E w => KE_L1 E w R) E w)) E w) [(13, all13.v), (14, .i i14), (15, .i k15), (16, .i c16), (21, .i j21)] w from Eq.mp (by kernel_rfl) h) fun _ _ hK => (cn C38 hK (fun hK => (sk C39 fun a hA => nx hA (sq C31 (bk C34 5 (by kernel_rfl) (sd C35 (by kernel_rfl) hK fun _ _ hK => (cn C36 hK (fun hK => (sr C37 hK fun _ _ hK => (rt C40 fun a hA => retVC_sound hA hK))) (fun hK => (sk C41 fun a hA => nx hA (KE_S5_ok R _ _ hK))))))))) (fun hK => (xt C42 4 (by kernel_rfl) fun a hA => nx hA (rg C22 (by kernel_rfl) hK fun _ _ a hA hK => KE_L1_ok R _ _ hK a hA))))))
/-- law.go:82 -/
abbrev S3 (all13 : Sl) (i14 k15 c16 : Int) (w : World) (R : Post) : Prop :=
  L4 all13 i14 k15 c16 0 w R
def KE_S3 (E : Env) (w : World) (R : Post) : Prop := asSlice (Env.get? E 13) fun all13 => W.asInt .i64 (Env.get? E 14) fun i14 => W.asInt .i64 (Env.get? E 15) fun k15 => W.asInt .i64 (Env.get? E 16) fun c16 => S3 all13 i14 k15 c16 w R
theorem KE_S3_ok (R : Post) (E : Env) (w : World) (h : KE_S3 E w R) : WP Try.prog (cx 154) C27 (Q7 R) E w := by
  obtain ⟨all13, hq13, h_1⟩ := asSlice_elim h
  obtain ⟨i14, hq14, h_2⟩ := asInt_elim h_1
  obtain ⟨k15, hq15, h_3⟩ := asInt_elim h_2
  obtain ⟨c16, hq16, h_4⟩ := asInt_elim h_3
  exact fun a ha => WP.at (E := [(13, all13.v), (14, .i i14), (15, .i k15), (16, .i c16)]) (sr C27 (K := fun E w => KE_L4 E w R) (Eq.mp (by kernel_rfl) h_4) fun _ _ hK => (bk C28 4 (by kernel_rfl) (lp C29 (by kernel_rfl) (KE_L4_ok R _ _ hK)))) (ha.cons hq13 (ha.cons hq14 (ha.cons hq15 (ha.cons hq16 ha.nil))))
noncomputable def C43:=C13.fs
noncomputable def C44:=C26.fs
noncomputable def C45:=C44.sn
noncomputable def C46:=C45.fs
noncomputable def C47:=C43.sn
noncomputable def C48:=C47.fs
noncomputable def C49:=C20.sn
noncomputable def C50:=C46.sn
noncomputable def C51:=C45.sn
noncomputable def C52:=C47.sn
theorem L1_step (all13 : Sl) (i14 k15 : Int) (w : World) (R : Post) (h : sel (decide (k15 < ((all13.n : Nat) : Int))) (drV w fun w4 => (0 : Int) ≤ i14 ∧ i14 < ((all13.n : Nat) : Int) ∧ optP all13.a fun t49_p => ∃ t50_0 : Int, ∃ t50_1 : Int, ∃ t50_2 : Int, ∃ t50_3 : Int, ∃ t50_4 : ByteArray, ∃ t50_5 : Sl, w4.cell? ((t49_p.add (Int.toNat i14 * 6)).add 0) = some (.i t50_0) ∧ w4.cell? ((t49_p.add (Int.toNat i14 * 6)).add 1) = some (.i t50_1) ∧ w4.cell? ((t49_p.add (Int.toNat i14 * 6)).add 2) = some (.i t50_2) ∧ w4.cell? ((t49_p.add (Int.toNat i14 * 6)).add 3) = some (.u t50_3) ∧ w4.cell? ((t49_p.add (Int.toNat i14 * 6)).add 4) = some (.string t50_4) ∧ w4.cell? ((t49_p.add (Int.toNat i14 * 6)).add 5) = some (t50_5.v) ∧ 
  (0 : Int) ≤ k15 ∧ k15 < ((all13.n : Nat) : Int) ∧ optP all13.a fun t54_p => ∃ t55_0 : Int, ∃ t55_1 : Int, ∃ t55_2 : Int, ∃ t55_3 : Int, ∃ t55_4 : ByteArray, ∃ t55_5 : Sl, w4.cell? ((t54_p.add (Int.toNat k15 * 6)).add 0) = some (.i t55_0) ∧ w4.cell? ((t54_p.add (Int.toNat k15 * 6)).add 1) = some (.i t55_1) ∧ w4.cell? ((t54_p.add (Int.toNat k15 * 6)).add 2) = some (.i t55_2) ∧ w4.cell? ((t54_p.add (Int.toNat k15 * 6)).add 3) = some (.u t55_3) ∧ w4.cell? ((t54_p.add (Int.toNat k15 * 6)).add 4) = some (.string t55_4) ∧ w4.cell? ((t54_p.add (Int.toNat k15 * 6)).add 5) = some (t55_5.v) ∧ 
  Calls Try.prog n_enthymemelaw06_own #[.agg #[.i t50_0, .i t50_1, .i t50_2, .u t50_3, .string t50_4, t50_5.v]] w4 fun r_ w5 => ∃ t51_0 : Int, ∃ t51_1 : Int, ∃ t51_2 : Int, ∃ t51_3 : Int, ∃ t51_4 : ByteArray, ∃ t51_5 : Sl, r_ = .returned (.agg #[.i t51_0, .i t51_1, .i t51_2, .u t51_3, .string t51_4, t51_5.v]) ∧ 
  w5.cell? ((t54_p.add (Int.toNat k15 * 6)).add 0) = some (.i t55_0) ∧ w5.cell? ((t54_p.add (Int.toNat k15 * 6)).add 1) = some (.i t55_1) ∧ w5.cell? ((t54_p.add (Int.toNat k15 * 6)).add 2) = some (.i t55_2) ∧ w5.cell? ((t54_p.add (Int.toNat k15 * 6)).add 3) = some (.u t55_3) ∧ w5.cell? ((t54_p.add (Int.toNat k15 * 6)).add 4) = some (.string t55_4) ∧ w5.cell? ((t54_p.add (Int.toNat k15 * 6)).add 5) = some (t55_5.v) ∧ Calls Try.prog n_enthymemelaw06_own #[.agg #[.i t55_0, .i t55_1, .i t55_2, .u t55_3, .string t55_4, t55_5.v]] w5 fun r_ w6 => ∃ t56_0 : Int, ∃ t56_1 : Int, ∃ t56_2 : Int, ∃ t56_3 : Int, ∃ t56_4 : ByteArray, ∃ t56_5 : Sl, r_ = .returned (.agg #[.i t56_0, .i t56_1, .i t56_2, .u t56_3, .string t56_4, t56_5.v]) ∧ 
  Calls Try.prog n_value_Compare #[.agg #[.i t51_0, .i t51_1, .i t51_2, .u t51_3, .string t51_4, t51_5.v], .agg #[.i t56_0, .i t56_1, .i t56_2, .u t56_3, .string t56_4, t56_5.v]] w6 fun r_ w7 => ∃ t57 : Int, r_ = .returned (.i t57) ∧ 
  drV w7 fun w8 => (0 : Int) ≤ i14 ∧ i14 < ((all13.n : Nat) : Int) ∧ optP all13.a fun t61_p => ∃ t62_0 : Int, ∃ t62_1 : Int, ∃ t62_2 : Int, ∃ t62_3 : Int, ∃ t62_4 : ByteArray, ∃ t62_5 : Sl, w8.cell? ((t61_p.add (Int.toNat i14 * 6)).add 0) = some (.i t62_0) ∧ w8.cell? ((t61_p.add (Int.toNat i14 * 6)).add 1) = some (.i t62_1) ∧ w8.cell? ((t61_p.add (Int.toNat i14 * 6)).add 2) = some (.i t62_2) ∧ w8.cell? ((t61_p.add (Int.toNat i14 * 6)).add 3) = some (.u t62_3) ∧ w8.cell? ((t61_p.add (Int.toNat i14 * 6)).add 4) = some (.string t62_4) ∧ w8.cell? ((t61_p.add (Int.toNat i14 * 6)).add 5) = some (t62_5.v) ∧ 
  (0 : Int) ≤ k15 ∧ k15 < ((all13.n : Nat) : Int) ∧ optP all13.a fun t65_p => ∃ t66_0 : Int, ∃ t66_1 : Int, ∃ t66_2 : Int, ∃ t66_3 : Int, ∃ t66_4 : ByteArray, ∃ t66_5 : Sl, w8.cell? ((t65_p.add (Int.toNat k15 * 6)).add 0) = some (.i t66_0) ∧ w8.cell? ((t65_p.add (Int.toNat k15 * 6)).add 1) = some (.i t66_1) ∧ w8.cell? ((t65_p.add (Int.toNat k15 * 6)).add 2) = some (.i t66_2) ∧ w8.cell? ((t65_p.add (Int.toNat k15 * 6)).add 3) = some (.u t66_3) ∧ w8.cell? ((t65_p.add (Int.toNat k15 * 6)).add 4) = some (.string t66_4) ∧ w8.cell? ((t65_p.add (Int.toNat k15 * 6)).add 5) = some (t66_5.v) ∧ 
  Calls Try.prog n_enthymemeref06_Compare #[.agg #[.i t62_0, .i t62_1, .i t62_2, .u t62_3, .string t62_4, t62_5.v], .agg #[.i t66_0, .i t66_1, .i t66_2, .u t66_3, .string t66_4, t66_5.v]] w8 fun r_ w9 => ∃ t67 : Int, r_ = .returned (.i t67) ∧ 
  sel (t57 != t67) (S2  w9 R) ((0 : Int) ≤ k15 ∧ k15 < ((all13.n : Nat) : Int) ∧ optP all13.a fun t72_p => ∃ t73_0 : Int, ∃ t73_1 : Int, ∃ t73_2 : Int, ∃ t73_3 : Int, ∃ t73_4 : ByteArray, ∃ t73_5 : Sl, w9.cell? ((t72_p.add (Int.toNat k15 * 6)).add 0) = some (.i t73_0) ∧ w9.cell? ((t72_p.add (Int.toNat k15 * 6)).add 1) = some (.i t73_1) ∧ w9.cell? ((t72_p.add (Int.toNat k15 * 6)).add 2) = some (.i t73_2) ∧ w9.cell? ((t72_p.add (Int.toNat k15 * 6)).add 3) = some (.u t73_3) ∧ w9.cell? ((t72_p.add (Int.toNat k15 * 6)).add 4) = some (.string t73_4) ∧ w9.cell? ((t72_p.add (Int.toNat k15 * 6)).add 5) = some (t73_5.v) ∧ 
  (0 : Int) ≤ i14 ∧ i14 < ((all13.n : Nat) : Int) ∧ optP all13.a fun t77_p => ∃ t78_0 : Int, ∃ t78_1 : Int, ∃ t78_2 : Int, ∃ t78_3 : Int, ∃ t78_4 : ByteArray, ∃ t78_5 : Sl, w9.cell? ((t77_p.add (Int.toNat i14 * 6)).add 0) = some (.i t78_0) ∧ w9.cell? ((t77_p.add (Int.toNat i14 * 6)).add 1) = some (.i t78_1) ∧ w9.cell? ((t77_p.add (Int.toNat i14 * 6)).add 2) = some (.i t78_2) ∧ w9.cell? ((t77_p.add (Int.toNat i14 * 6)).add 3) = some (.u t78_3) ∧ w9.cell? ((t77_p.add (Int.toNat i14 * 6)).add 4) = some (.string t78_4) ∧ w9.cell? ((t77_p.add (Int.toNat i14 * 6)).add 5) = some (t78_5.v) ∧ 
  Calls Try.prog n_enthymemelaw06_own #[.agg #[.i t73_0, .i t73_1, .i t73_2, .u t73_3, .string t73_4, t73_5.v]] w9 fun r_ w10 => ∃ t74_0 : Int, ∃ t74_1 : Int, ∃ t74_2 : Int, ∃ t74_3 : Int, ∃ t74_4 : ByteArray, ∃ t74_5 : Sl, r_ = .returned (.agg #[.i t74_0, .i t74_1, .i t74_2, .u t74_3, .string t74_4, t74_5.v]) ∧ 
  w10.cell? ((t77_p.add (Int.toNat i14 * 6)).add 0) = some (.i t78_0) ∧ w10.cell? ((t77_p.add (Int.toNat i14 * 6)).add 1) = some (.i t78_1) ∧ w10.cell? ((t77_p.add (Int.toNat i14 * 6)).add 2) = some (.i t78_2) ∧ w10.cell? ((t77_p.add (Int.toNat i14 * 6)).add 3) = some (.u t78_3) ∧ w10.cell? ((t77_p.add (Int.toNat i14 * 6)).add 4) = some (.string t78_4) ∧ w10.cell? ((t77_p.add (Int.toNat i14 * 6)).add 5) = some (t78_5.v) ∧ Calls Try.prog n_enthymemelaw06_own #[.agg #[.i t78_0, .i t78_1, .i t78_2, .u t78_3, .string t78_4, t78_5.v]] w10 fun r_ w11 => ∃ t79_0 : Int, ∃ t79_1 : Int, ∃ t79_2 : Int, ∃ t79_3 : Int, ∃ t79_4 : ByteArray, ∃ t79_5 : Sl, r_ = .returned (.agg #[.i t79_0, .i t79_1, .i t79_2, .u t79_3, .string t79_4, t79_5.v]) ∧ 
  Calls Try.prog n_value_Compare #[.agg #[.i t74_0, .i t74_1, .i t74_2, .u t74_3, .string t74_4, t74_5.v], .agg #[.i t79_0, .i t79_1, .i t79_2, .u t79_3, .string t79_4, t79_5.v]] w11 fun r_ w12 => ∃ t80 : Int, r_ = .returned (.i t80) ∧ 
  sel (t80 != (IntKind.wrap .i64 (0 - t57))) (S2  w12 R) ((0 : Int) ≤ i14 ∧ i14 < ((all13.n : Nat) : Int) ∧ optP all13.a fun t88_p => ∃ t89_0 : Int, ∃ t89_1 : Int, ∃ t89_2 : Int, ∃ t89_3 : Int, ∃ t89_4 : ByteArray, ∃ t89_5 : Sl, w12.cell? ((t88_p.add (Int.toNat i14 * 6)).add 0) = some (.i t89_0) ∧ w12.cell? ((t88_p.add (Int.toNat i14 * 6)).add 1) = some (.i t89_1) ∧ w12.cell? ((t88_p.add (Int.toNat i14 * 6)).add 2) = some (.i t89_2) ∧ w12.cell? ((t88_p.add (Int.toNat i14 * 6)).add 3) = some (.u t89_3) ∧ w12.cell? ((t88_p.add (Int.toNat i14 * 6)).add 4) = some (.string t89_4) ∧ w12.cell? ((t88_p.add (Int.toNat i14 * 6)).add 5) = some (t89_5.v) ∧ 
  Calls Try.prog n_enthymemelaw06_own #[.agg #[.i t89_0, .i t89_1, .i t89_2, .u t89_3, .string t89_4, t89_5.v]] w12 fun r_ w13 => ∃ t90_0 : Int, ∃ t90_1 : Int, ∃ t90_2 : Int, ∃ t90_3 : Int, ∃ t90_4 : ByteArray, ∃ t90_5 : Sl, r_ = .returned (.agg #[.i t90_0, .i t90_1, .i t90_2, .u t90_3, .string t90_4, t90_5.v]) ∧ 
  Calls Try.prog n_value_Encode #[.agg #[.i t90_0, .i t90_1, .i t90_2, .u t90_3, .string t90_4, t90_5.v]] w13 fun r_ w14 => ∃ t91_0 : Sl, ∃ t91_1 : Int, r_ = .returned (.tuple #[t91_0.v, .i t91_1]) ∧ 
  (0 : Int) ≤ k15 ∧ k15 < ((all13.n : Nat) : Int) ∧ optP all13.a fun t97_p => ∃ t98_0 : Int, ∃ t98_1 : Int, ∃ t98_2 : Int, ∃ t98_3 : Int, ∃ t98_4 : ByteArray, ∃ t98_5 : Sl, w14.cell? ((t97_p.add (Int.toNat k15 * 6)).add 0) = some (.i t98_0) ∧ w14.cell? ((t97_p.add (Int.toNat k15 * 6)).add 1) = some (.i t98_1) ∧ w14.cell? ((t97_p.add (Int.toNat k15 * 6)).add 2) = some (.i t98_2) ∧ w14.cell? ((t97_p.add (Int.toNat k15 * 6)).add 3) = some (.u t98_3) ∧ w14.cell? ((t97_p.add (Int.toNat k15 * 6)).add 4) = some (.string t98_4) ∧ w14.cell? ((t97_p.add (Int.toNat k15 * 6)).add 5) = some (t98_5.v) ∧ 
  Calls Try.prog n_enthymemelaw06_own #[.agg #[.i t98_0, .i t98_1, .i t98_2, .u t98_3, .string t98_4, t98_5.v]] w14 fun r_ w15 => ∃ t99_0 : Int, ∃ t99_1 : Int, ∃ t99_2 : Int, ∃ t99_3 : Int, ∃ t99_4 : ByteArray, ∃ t99_5 : Sl, r_ = .returned (.agg #[.i t99_0, .i t99_1, .i t99_2, .u t99_3, .string t99_4, t99_5.v]) ∧ 
  Calls Try.prog n_value_Encode #[.agg #[.i t99_0, .i t99_1, .i t99_2, .u t99_3, .string t99_4, t99_5.v]] w15 fun r_ w16 => ∃ t100_0 : Sl, ∃ t100_1 : Int, r_ = .returned (.tuple #[t100_0.v, .i t100_1]) ∧ 
  sel (t91_1 == 0) (sel (t100_1 == 0) (Calls Try.prog n_enthymemeref01_SameBytes #[t91_0.v, t100_0.v] w16 fun r_ w17 => ∃ t112 : Bool, r_ = .returned (.bool t112) ∧ 
  sel (!(t112 == (t57 == 0))) (R (.returned (.bool false)) w17) (S3 all13 i14 k15 t57 w17 R)) (S3 all13 i14 k15 t57 w16 R)) (S3 all13 i14 k15 t57 w16 R)))) (L0 all13 (IntKind.wrap .i64 (i14 + 1)) w R)) : L1 all13 i14 k15 w R :=
  LP.step (n := (cx 154)) (c := C13) (E := [(13, all13.v), (14, .i i14), (15, .i k15)]) (w := w) (sq C13 (sr C43 (show (fun (E : Env) (w : World) => srK Try.prog C43 (fun E w => condK (Env.val E (.tmp 44)) (sdK Try.prog C17 [0, 1, 2, 3, 5, 6, 7, 8, 4, 9, 10, 11] (fun E w => sdK Try.prog C19 [0, 1, 2, 3, 4, 5, 6, 7, 8, 9, 10, 11, 12, 13, 14, 15, 17, 18, 19, 20, 23, 24, 16, 21, 22, 25, 26] (fun E w => condK (Env.val E (.tmp 84)) (KE_S2 E w R) (srK Try.prog C23 (fun E w => srK Try.prog C25 (fun E w => srK Try.prog C44 (fun E w => condK (Env.val E (.tmp 116)) (srK Try.prog C46 (fun E w => retVC Try.prog Try.f7 E w (fun v => R (.returned v) w)) E w) (KE_S3 E w R)) E w) E w) E w)) E w) E w) (rgK Try.prog C14 (fun E w => KE_L0 E w R) E w)) E w) [(13, all13.v), (14, .i i14), (15, .i k15)] w from Eq.mp (by kernel_rfl) h) fun _ _ hK => (cn C47 hK (fun hK => (sk C48 fun a hA => nx hA (sq C15 (bk C16 3 (by kernel_rfl) (sd C17 (by kernel_rfl) hK fun _ _ hK => (sq C18 (sd C19 (by kernel_rfl) hK fun _ _ hK => (cn C20 hK (fun hK => (KE_S2_ok R _ _ hK)) (fun hK => (sk C49 fun a hA => nx hA (sr C23 hK fun _ _ hK => (sr C25 hK fun _ _ hK => (sq C26 (sr C44 hK fun _ _ hK => (cn C45 hK (fun hK => (sr C46 hK fun _ _ hK => (rt C50 fun a hA => retVC_sound hA hK))) (fun hK => (sk C51 fun a hA => nx hA (KE_S3_ok R _ _ hK)))))))))))))))))) (fun hK => (xt C52 2 (by kernel_rfl) fun a hA => nx hA (rg C14 (by kernel_rfl) hK fun _ _ a hA hK => KE_L0_ok R _ _ hK a hA))))))
noncomputable def C53:=C6.fs
noncomputable def C54:=C53.sn
noncomputable def C55:=C54.fs
noncomputable def C56:=C54.sn
noncomputable def C57:=C7.sn
theorem L0_step (all13 : Sl) (i14 : Int) (w : World) (R : Post) (h : sel (decide (i14 < ((all13.n : Nat) : Int))) (L1 all13 i14 0 w R) (Calls Try.prog n_enthymemelaw06_lives #[] w fun r_ w18 => ∃ t153 : Bool, r_ = .returned (.bool t153) ∧ 
  R (.returned (.bool t153)) w18)) : L0 all13 i14 w R :=
  LP.step (n := (cx 154)) (c := C6) (E := [(13, all13.v), (14, .i i14)]) (w := w) (sq C6 (sr C53 (show (fun (E : Env) (w : World) => srK Try.prog C53 (fun E w => condK (Env.val E (.tmp 38)) (srK Try.prog C10 (fun E w => KE_L1 E w R) E w) (srK Try.prog C7 (fun E w => retVC Try.prog Try.f7 E w (fun v => R (.returned v) w)) E w)) E w) [(13, all13.v), (14, .i i14)] w from Eq.mp (by kernel_rfl) h) fun _ _ hK => (cn C54 hK (fun hK => (sk C55 fun a hA => nx hA (sq C8 (bk C9 1 (by kernel_rfl) (sr C10 hK fun _ _ hK => (bk C11 2 (by kernel_rfl) (lp C12 (by kernel_rfl) (KE_L1_ok R _ _ hK)))))))) (fun hK => (xt C56 0 (by kernel_rfl) fun a hA => nx hA (sr C7 hK fun _ _ hK => (rt C57 fun a hA => retVC_sound hA hK)))))))
/-- enthymeme/enthymemelaw06.ValueOrder -/
theorem ok (n0 : Int) (l1 m2 : Sl) (at3 how4 by5 : Int) (w : World) (R : Post) (h : Calls Try.prog n_enthymemelaw06_some #[.i n0, l1.v, .i at3, .i how4, .i by5] w fun r_ w1 => ∃ t27 : Sl, r_ = .returned (t27.v) ∧ 
  Calls Try.prog n_enthymemelaw06_some #[.i n0, m2.v, .i how4, .i at3, .i by5] w1 fun r_ w2 => ∃ t33 : Sl, r_ = .returned (t33.v) ∧ 
  ∃ (t34 : Sl) (w3 : World), Sem.run Try.prog (Builtin.append_ #[ty_sl_enthymemeref06_Value, ty_sl_enthymemeref06_Value] ty_sl_enthymemeref06_Value #[t27.v, t33.v]) w2 = .ok (t34.v) w3 ∧ L0 t34 0 w3 R) : Calls Try.prog n_enthymemelaw06_ValueOrder #[.i n0, l1.v, m2.v, .i at3, .i how4, .i by5] w R :=
  calls_of_WP' (R := R) (fn := Try.f7) (c := C0) (args := [.i n0, l1.v, m2.v, .i at3, .i how4, .i by5]) (by kernel_rfl) (by kernel_rfl) (by kernel_rfl) (sr C0 (show (fun (E : Env) (w : World) => srK Try.prog C0 (fun E w => srK Try.prog C1 (fun E w => srK Try.prog C3 (fun E w => KE_L0 E w R) E w) E w) E w) (envOf 0 [.i n0, l1.v, m2.v, .i at3, .i how4, .i by5]) w from Eq.mp (by kernel_rfl) h) fun _ _ hK => (sr C1 hK fun _ _ hK => (sq C2 (sr C3 hK fun _ _ hK => (bk C4 0 (by kernel_rfl) (lp C5 (by kernel_rfl) (KE_L0_ok R _ _ hK)))))))
end enthymemelaw06_ValueOrder
end Go.Proofs.Ytjjhfdjpmonlaaa

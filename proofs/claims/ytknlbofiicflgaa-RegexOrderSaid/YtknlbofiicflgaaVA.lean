/- Printed by a program of ours (vcgen.py) from the dump: the conditions of the functions, and that they suffice. -/
import Derived.Test.YtknlbofiicflgaaVL
import Derived.Test.YtknlbofiicflgaaVG
import Derived.Test.YtknlbofiicflgaaY
set_option linter.unusedVariables false
set_option maxRecDepth 100000
set_option maxHeartbeats 2000000
namespace Go.Proofs.Ytknlbofiicflgaa
open Go Go.W
namespace enthymemelaw04_RegexOrder
noncomputable def C0 : Code := (Try.f3.body).getD .skip
noncomputable def C1:=C0.sn
noncomputable def C2:=C1.sn
noncomputable def C3:=C2.sn
noncomputable def C4:=C3.fs
noncomputable def C5:=C4.sn
noncomputable def C6:=C5.fs
noncomputable def C7:=C6.fs
noncomputable def C8:=C3.sn
abbrev Q0 (R : Post) : Exit → Act → World → Prop := (Exit.then (wpx Try.prog (cx 117) C8 (bodyPost Try.prog Try.f3 R)) (bodyPost Try.prog Try.f3 R))
abbrev Q1 (R : Post) : Exit → Act → World → Prop := (Exit.inBlock 0 (Q0 R))
/-- the head of the loop, law.go:157 -/
def L0 (all12 : Sl) (i13 : Int) (w : World) (R : Post) : Prop := LP Try.prog (cx 117) C7 (Q1 R) [(12, all12.v), (13, .i i13)] w
def KE_L0 (E : Env) (w : World) (R : Post) : Prop := W.asSlice (Env.get? E 12) fun all12 => W.asInt .i64 (Env.get? E 13) fun i13 => L0 all12 i13 w R
theorem KE_L0_ok (R : Post) (E : Env) (w : World) (h : KE_L0 E w R) : LP Try.prog (cx 117) C7 (Q1 R) E w := by
  obtain ⟨all12, hq12, h_1⟩ := W.asSlice_elim h
  obtain ⟨i13, hq13, h_2⟩ := W.asInt_elim h_1
  intro a ha
  exact h_2 a (ha.cons hq12 (ha.cons hq13 ha.nil))
noncomputable def C9:=C7.sn
noncomputable def C10:=C9.fs
noncomputable def C11:=C10.fs
noncomputable def C12:=C11.sn
noncomputable def C13:=C12.fs
noncomputable def C14:=C13.fs
noncomputable def C15:=C9.sn
abbrev Q2 (R : Post) : Exit → Act → World → Prop := (Exit.then (wpx Try.prog (cx 117) C15 (Exit.then (LoopWP Try.prog (cx 117) C7 (Q1 R)) (Q1 R))) (Exit.then (LoopWP Try.prog (cx 117) C7 (Q1 R)) (Q1 R)))
abbrev Q3 (R : Post) : Exit → Act → World → Prop := (Exit.inBlock 1 (Q2 R))
abbrev Q4 (R : Post) : Exit → Act → World → Prop := (Exit.inBlock 2 (Q3 R))
/-- the head of the loop, law.go:158 -/
def L1 (all12 : Sl) (i13 j14 : Int) (w : World) (R : Post) : Prop := LP Try.prog (cx 117) C14 (Q4 R) [(12, all12.v), (13, .i i13), (14, .i j14)] w
def KE_L1 (E : Env) (w : World) (R : Post) : Prop := W.asSlice (Env.get? E 12) fun all12 => W.asInt .i64 (Env.get? E 13) fun i13 => W.asInt .i64 (Env.get? E 14) fun j14 => L1 all12 i13 j14 w R
theorem KE_L1_ok (R : Post) (E : Env) (w : World) (h : KE_L1 E w R) : LP Try.prog (cx 117) C14 (Q4 R) E w := by
  obtain ⟨all12, hq12, h_1⟩ := W.asSlice_elim h
  obtain ⟨i13, hq13, h_2⟩ := W.asInt_elim h_1
  obtain ⟨j14, hq14, h_3⟩ := W.asInt_elim h_2
  intro a ha
  exact h_3 a (ha.cons hq12 (ha.cons hq13 (ha.cons hq14 ha.nil)))
noncomputable def C16:=C14.sn
noncomputable def C17:=C16.fs
noncomputable def C18:=C17.fs
noncomputable def C19:=C18.sn
noncomputable def C20:=C19.fs
noncomputable def C21:=C20.sn
noncomputable def C22:=C21.fs
noncomputable def C23:=C16.sn
abbrev Q5 (R : Post) : Exit → Act → World → Prop := (Exit.then (wpx Try.prog (cx 117) C23 (Exit.then (LoopWP Try.prog (cx 117) C14 (Q4 R)) (Q4 R))) (Exit.then (LoopWP Try.prog (cx 117) C14 (Q4 R)) (Q4 R)))
noncomputable def C24:=C19.sn
abbrev Q6 (R : Post) : Exit → Act → World → Prop := (Exit.then (wpx Try.prog (cx 117) C24 (Exit.inBlock 3 (Q5 R))) (Exit.inBlock 3 (Q5 R)))
noncomputable def C25:=C22.sn
/-- law.go:161 -/
abbrev S2  (w : World) (R : Post) : Prop :=
  R (.returned (.bool false)) w
def KE_S2 (E : Env) (w : World) (R : Post) : Prop := S2  w R
theorem KE_S2_ok (R : Post) (E : Env) (w : World) (h : KE_S2 E w R) : WP Try.prog (cx 117) C22 (Q6 R) E w := by
  exact fun a ha => WP.at (E := []) (sr C22 (K := fun E w => retVC Try.prog Try.f3 E w (fun v => R (.returned v) w)) (Eq.mp (by kernel_rfl) h) fun _ _ hK => (rt C25 fun a hA => retVC_sound hA hK)) ha.nil
noncomputable def C26:=C24.sn
noncomputable def C27:=C26.fs
noncomputable def C28:=C27.fs
abbrev Q7 (R : Post) : Exit → Act → World → Prop := (Exit.inBlock 3 (Q5 R))
abbrev Q8 (R : Post) : Exit → Act → World → Prop := (Exit.inBlock 4 (Q7 R))
/-- the head of the loop, law.go:163 -/
def L3 (all12 : Sl) (i13 j14 x15 n16 : Int) (w : World) (R : Post) : Prop := LP Try.prog (cx 117) C28 (Q8 R) [(12, all12.v), (13, .i i13), (14, .i j14), (15, .i x15), (16, .i n16)] w
def KE_L3 (E : Env) (w : World) (R : Post) : Prop := W.asSlice (Env.get? E 12) fun all12 => W.asInt .i64 (Env.get? E 13) fun i13 => W.asInt .i64 (Env.get? E 14) fun j14 => W.asInt .i64 (Env.get? E 15) fun x15 => W.asInt .i64 (Env.get? E 16) fun n16 => L3 all12 i13 j14 x15 n16 w R
theorem KE_L3_ok (R : Post) (E : Env) (w : World) (h : KE_L3 E w R) : LP Try.prog (cx 117) C28 (Q8 R) E w := by
  obtain ⟨all12, hq12, h_1⟩ := W.asSlice_elim h
  obtain ⟨i13, hq13, h_2⟩ := W.asInt_elim h_1
  obtain ⟨j14, hq14, h_3⟩ := W.asInt_elim h_2
  obtain ⟨x15, hq15, h_4⟩ := W.asInt_elim h_3
  obtain ⟨n16, hq16, h_5⟩ := W.asInt_elim h_4
  intro a ha
  exact h_5 a (ha.cons hq12 (ha.cons hq13 (ha.cons hq14 (ha.cons hq15 (ha.cons hq16 ha.nil)))))
noncomputable def C29:=C28.sn
noncomputable def C30:=C29.sn
abbrev Q9 (R : Post) : Exit → Act → World → Prop := (Exit.then (LoopWP Try.prog (cx 117) C28 (Q8 R)) (Q8 R))
/-- law.go:163 -/
abbrev S4 (all12 : Sl) (i13 j14 x15 n16 : Int) (w : World) (R : Post) : Prop :=
  L3 all12 i13 j14 x15 (IntKind.wrap .i64 (n16 + 1)) w R
def KE_S4 (E : Env) (w : World) (R : Post) : Prop := W.asSlice (Env.get? E 12) fun all12 => W.asInt .i64 (Env.get? E 13) fun i13 => W.asInt .i64 (Env.get? E 14) fun j14 => W.asInt .i64 (Env.get? E 15) fun x15 => W.asInt .i64 (Env.get? E 16) fun n16 => S4 all12 i13 j14 x15 n16 w R
theorem KE_S4_ok (R : Post) (E : Env) (w : World) (h : KE_S4 E w R) : WP Try.prog (cx 117) C30 (Q9 R) E w := by
  obtain ⟨all12, hq12, h_1⟩ := W.asSlice_elim h
  obtain ⟨i13, hq13, h_2⟩ := W.asInt_elim h_1
  obtain ⟨j14, hq14, h_3⟩ := W.asInt_elim h_2
  obtain ⟨x15, hq15, h_4⟩ := W.asInt_elim h_3
  obtain ⟨n16, hq16, h_5⟩ := W.asInt_elim h_4
  exact fun a ha => WP.at (E := [(12, all12.v), (13, .i i13), (14, .i j14), (15, .i x15), (16, .i n16)]) (rg C30 (K := fun E w => KE_L3 E w R) (by kernel_rfl) (Eq.mp (by kernel_rfl) h_5) fun _ _ a hA hK => KE_L3_ok R _ _ hK a hA) (ha.cons hq12 (ha.cons hq13 (ha.cons hq14 (ha.cons hq15 (ha.cons hq16 ha.nil)))))
noncomputable def C31:=C28.fs
noncomputable def C32:=C29.fs
noncomputable def C33:=C32.fs
noncomputable def C34:=C33.sn
noncomputable def C35:=C34.sn
noncomputable def C36:=C35.fs
noncomputable def C37:=C31.sn
noncomputable def C38:=C37.fs
noncomputable def C39:=C36.sn
noncomputable def C40:=C35.sn
noncomputable def C41:=C37.sn
theorem L3_step (all12 : Sl) (i13 j14 x15 n16 : Int) (w : World) (R : Post) (h : sel (decide (n16 < 5)) (drV w fun w23 => (0 : Int) ≤ j14 ∧ j14 < ((all12.n : Nat) : Int) ∧ optP all12.a fun t87_p => ∃ t88_0 : Int, ∃ t88_1 : Int, ∃ t88_2 : Int, ∃ t88_3 : Sl, w23.cell? ((t87_p.add (Int.toNat j14 * 4)).add 0) = some (.i t88_0) ∧ w23.cell? ((t87_p.add (Int.toNat j14 * 4)).add 1) = some (.int .u8 t88_1) ∧ w23.cell? ((t87_p.add (Int.toNat j14 * 4)).add 2) = some (.int .u8 t88_2) ∧ w23.cell? ((t87_p.add (Int.toNat j14 * 4)).add 3) = some (t88_3.v) ∧ 
  (0 : Int) ≤ n16 ∧ n16 < ((all12.n : Nat) : Int) ∧ optP all12.a fun t92_p => ∃ t93_0 : Int, ∃ t93_1 : Int, ∃ t93_2 : Int, ∃ t93_3 : Sl, w23.cell? ((t92_p.add (Int.toNat n16 * 4)).add 0) = some (.i t93_0) ∧ w23.cell? ((t92_p.add (Int.toNat n16 * 4)).add 1) = some (.int .u8 t93_1) ∧ w23.cell? ((t92_p.add (Int.toNat n16 * 4)).add 2) = some (.int .u8 t93_2) ∧ w23.cell? ((t92_p.add (Int.toNat n16 * 4)).add 3) = some (t93_3.v) ∧ 
  Calls Try.prog n_enthymemelaw04_own #[.agg #[.i t88_0, .int .u8 t88_1, .int .u8 t88_2, t88_3.v]] w23 fun r_ w24 => ∃ t89_0 : Int, ∃ t89_1 : Int, ∃ t89_2 : Int, ∃ t89_3 : Sl, r_ = .returned (.agg #[.i t89_0, .int .u8 t89_1, .int .u8 t89_2, t89_3.v]) ∧ 
  w24.cell? ((t92_p.add (Int.toNat n16 * 4)).add 0) = some (.i t93_0) ∧ w24.cell? ((t92_p.add (Int.toNat n16 * 4)).add 1) = some (.int .u8 t93_1) ∧ w24.cell? ((t92_p.add (Int.toNat n16 * 4)).add 2) = some (.int .u8 t93_2) ∧ w24.cell? ((t92_p.add (Int.toNat n16 * 4)).add 3) = some (t93_3.v) ∧ Calls Try.prog n_enthymemelaw04_own #[.agg #[.i t93_0, .int .u8 t93_1, .int .u8 t93_2, t93_3.v]] w24 fun r_ w25 => ∃ t94_0 : Int, ∃ t94_1 : Int, ∃ t94_2 : Int, ∃ t94_3 : Sl, r_ = .returned (.agg #[.i t94_0, .int .u8 t94_1, .int .u8 t94_2, t94_3.v]) ∧ 
  Calls Try.prog n_regex_Compare #[.agg #[.i t89_0, .int .u8 t89_1, .int .u8 t89_2, t89_3.v], .agg #[.i t94_0, .int .u8 t94_1, .int .u8 t94_2, t94_3.v]] w25 fun r_ w26 => ∃ t95 : Int, r_ = .returned (.i t95) ∧ 
  drV w26 fun w27 => sel (decide (x15 ≤ 0)) (sel (decide (t95 ≤ 0)) ((0 : Int) ≤ i13 ∧ i13 < ((all12.n : Nat) : Int) ∧ optP all12.a fun t105_p => ∃ t106_0 : Int, ∃ t106_1 : Int, ∃ t106_2 : Int, ∃ t106_3 : Sl, w27.cell? ((t105_p.add (Int.toNat i13 * 4)).add 0) = some (.i t106_0) ∧ w27.cell? ((t105_p.add (Int.toNat i13 * 4)).add 1) = some (.int .u8 t106_1) ∧ w27.cell? ((t105_p.add (Int.toNat i13 * 4)).add 2) = some (.int .u8 t106_2) ∧ w27.cell? ((t105_p.add (Int.toNat i13 * 4)).add 3) = some (t106_3.v) ∧ 
  (0 : Int) ≤ n16 ∧ n16 < ((all12.n : Nat) : Int) ∧ optP all12.a fun t110_p => ∃ t111_0 : Int, ∃ t111_1 : Int, ∃ t111_2 : Int, ∃ t111_3 : Sl, w27.cell? ((t110_p.add (Int.toNat n16 * 4)).add 0) = some (.i t111_0) ∧ w27.cell? ((t110_p.add (Int.toNat n16 * 4)).add 1) = some (.int .u8 t111_1) ∧ w27.cell? ((t110_p.add (Int.toNat n16 * 4)).add 2) = some (.int .u8 t111_2) ∧ w27.cell? ((t110_p.add (Int.toNat n16 * 4)).add 3) = some (t111_3.v) ∧ 
  Calls Try.prog n_enthymemelaw04_own #[.agg #[.i t106_0, .int .u8 t106_1, .int .u8 t106_2, t106_3.v]] w27 fun r_ w28 => ∃ t107_0 : Int, ∃ t107_1 : Int, ∃ t107_2 : Int, ∃ t107_3 : Sl, r_ = .returned (.agg #[.i t107_0, .int .u8 t107_1, .int .u8 t107_2, t107_3.v]) ∧ 
  w28.cell? ((t110_p.add (Int.toNat n16 * 4)).add 0) = some (.i t111_0) ∧ w28.cell? ((t110_p.add (Int.toNat n16 * 4)).add 1) = some (.int .u8 t111_1) ∧ w28.cell? ((t110_p.add (Int.toNat n16 * 4)).add 2) = some (.int .u8 t111_2) ∧ w28.cell? ((t110_p.add (Int.toNat n16 * 4)).add 3) = some (t111_3.v) ∧ Calls Try.prog n_enthymemelaw04_own #[.agg #[.i t111_0, .int .u8 t111_1, .int .u8 t111_2, t111_3.v]] w28 fun r_ w29 => ∃ t112_0 : Int, ∃ t112_1 : Int, ∃ t112_2 : Int, ∃ t112_3 : Sl, r_ = .returned (.agg #[.i t112_0, .int .u8 t112_1, .int .u8 t112_2, t112_3.v]) ∧ 
  Calls Try.prog n_regex_Compare #[.agg #[.i t107_0, .int .u8 t107_1, .int .u8 t107_2, t107_3.v], .agg #[.i t112_0, .int .u8 t112_1, .int .u8 t112_2, t112_3.v]] w29 fun r_ w30 => ∃ t113 : Int, r_ = .returned (.i t113) ∧ 
  sel (decide (t113 > 0)) (R (.returned (.bool false)) w30) (S4 all12 i13 j14 x15 n16 w30 R)) (S4 all12 i13 j14 x15 n16 w27 R)) (S4 all12 i13 j14 x15 n16 w27 R)) (L1 all12 i13 (IntKind.wrap .i64 (j14 + 1)) w R)) : L3 all12 i13 j14 x15 n16 w R :=
  LP.step (n := (cx 117)) (c := C28) (E := [(12, all12.v), (13, .i i13), (14, .i j14), (15, .i x15), (16, .i n16)]) (w := w) (sq C28 (sr C31 (show (fun (E : Env) (w : World) => srK Try.prog C31 (fun E w => condK (Env.val E (.tmp 82)) (sdK Try.prog C33 [0, 1, 2, 3, 5, 6, 7, 8, 4, 9, 10, 11] (fun E w => sdK Try.prog C34 [0, 1, 2, 3, 4, 5, 6, 7, 8, 9, 10, 12, 13, 14, 15, 11, 16, 17, 18, 19] (fun E w => condK (Env.val E (.tmp 115)) (srK Try.prog C36 (fun E w => retVC Try.prog Try.f3 E w (fun v => R (.returned v) w)) E w) (KE_S4 E w R)) E w) E w) (rgK Try.prog C23 (fun E w => KE_L1 E w R) E w)) E w) [(12, all12.v), (13, .i i13), (14, .i j14), (15, .i x15), (16, .i n16)] w from Eq.mp (by kernel_rfl) h) fun _ _ hK => (cn C37 hK (fun hK => (sk C38 fun a hA => nx hA (sq C29 (bk C32 5 (by kernel_rfl) (sd C33 (by kernel_rfl) hK fun _ _ hK => (sd C34 (by kernel_rfl) hK fun _ _ hK => (cn C35 hK (fun hK => (sr C36 hK fun _ _ hK => (rt C39 fun a hA => retVC_sound hA hK))) (fun hK => (sk C40 fun a hA => nx hA (KE_S4_ok R _ _ hK)))))))))) (fun hK => (xt C41 4 (by kernel_rfl) fun a hA => nx hA (rg C23 (by kernel_rfl) hK fun _ _ a hA hK => KE_L1_ok R _ _ hK a hA))))))
noncomputable def C42:=C14.fs
noncomputable def C43:=C42.sn
noncomputable def C44:=C43.fs
noncomputable def C45:=C21.sn
noncomputable def C46:=C43.sn
theorem L1_step (all12 : Sl) (i13 j14 : Int) (w : World) (R : Post) (h : sel (decide (j14 < 5)) (drV w fun w14 => (0 : Int) ≤ i13 ∧ i13 < ((all12.n : Nat) : Int) ∧ optP all12.a fun t45_p => ∃ t46_0 : Int, ∃ t46_1 : Int, ∃ t46_2 : Int, ∃ t46_3 : Sl, w14.cell? ((t45_p.add (Int.toNat i13 * 4)).add 0) = some (.i t46_0) ∧ w14.cell? ((t45_p.add (Int.toNat i13 * 4)).add 1) = some (.int .u8 t46_1) ∧ w14.cell? ((t45_p.add (Int.toNat i13 * 4)).add 2) = some (.int .u8 t46_2) ∧ w14.cell? ((t45_p.add (Int.toNat i13 * 4)).add 3) = some (t46_3.v) ∧ 
  (0 : Int) ≤ j14 ∧ j14 < ((all12.n : Nat) : Int) ∧ optP all12.a fun t50_p => ∃ t51_0 : Int, ∃ t51_1 : Int, ∃ t51_2 : Int, ∃ t51_3 : Sl, w14.cell? ((t50_p.add (Int.toNat j14 * 4)).add 0) = some (.i t51_0) ∧ w14.cell? ((t50_p.add (Int.toNat j14 * 4)).add 1) = some (.int .u8 t51_1) ∧ w14.cell? ((t50_p.add (Int.toNat j14 * 4)).add 2) = some (.int .u8 t51_2) ∧ w14.cell? ((t50_p.add (Int.toNat j14 * 4)).add 3) = some (t51_3.v) ∧ 
  Calls Try.prog n_enthymemelaw04_own #[.agg #[.i t46_0, .int .u8 t46_1, .int .u8 t46_2, t46_3.v]] w14 fun r_ w15 => ∃ t47_0 : Int, ∃ t47_1 : Int, ∃ t47_2 : Int, ∃ t47_3 : Sl, r_ = .returned (.agg #[.i t47_0, .int .u8 t47_1, .int .u8 t47_2, t47_3.v]) ∧ 
  w15.cell? ((t50_p.add (Int.toNat j14 * 4)).add 0) = some (.i t51_0) ∧ w15.cell? ((t50_p.add (Int.toNat j14 * 4)).add 1) = some (.int .u8 t51_1) ∧ w15.cell? ((t50_p.add (Int.toNat j14 * 4)).add 2) = some (.int .u8 t51_2) ∧ w15.cell? ((t50_p.add (Int.toNat j14 * 4)).add 3) = some (t51_3.v) ∧ Calls Try.prog n_enthymemelaw04_own #[.agg #[.i t51_0, .int .u8 t51_1, .int .u8 t51_2, t51_3.v]] w15 fun r_ w16 => ∃ t52_0 : Int, ∃ t52_1 : Int, ∃ t52_2 : Int, ∃ t52_3 : Sl, r_ = .returned (.agg #[.i t52_0, .int .u8 t52_1, .int .u8 t52_2, t52_3.v]) ∧ 
  Calls Try.prog n_regex_Compare #[.agg #[.i t47_0, .int .u8 t47_1, .int .u8 t47_2, t47_3.v], .agg #[.i t52_0, .int .u8 t52_1, .int .u8 t52_2, t52_3.v]] w16 fun r_ w17 => ∃ t53 : Int, r_ = .returned (.i t53) ∧ 
  drV w17 fun w18 => (0 : Int) ≤ i13 ∧ i13 < ((all12.n : Nat) : Int) ∧ optP all12.a fun t57_p => ∃ t58_0 : Int, ∃ t58_1 : Int, ∃ t58_2 : Int, ∃ t58_3 : Sl, w18.cell? ((t57_p.add (Int.toNat i13 * 4)).add 0) = some (.i t58_0) ∧ w18.cell? ((t57_p.add (Int.toNat i13 * 4)).add 1) = some (.int .u8 t58_1) ∧ w18.cell? ((t57_p.add (Int.toNat i13 * 4)).add 2) = some (.int .u8 t58_2) ∧ w18.cell? ((t57_p.add (Int.toNat i13 * 4)).add 3) = some (t58_3.v) ∧ 
  (0 : Int) ≤ j14 ∧ j14 < ((all12.n : Nat) : Int) ∧ optP all12.a fun t61_p => ∃ t62_0 : Int, ∃ t62_1 : Int, ∃ t62_2 : Int, ∃ t62_3 : Sl, w18.cell? ((t61_p.add (Int.toNat j14 * 4)).add 0) = some (.i t62_0) ∧ w18.cell? ((t61_p.add (Int.toNat j14 * 4)).add 1) = some (.int .u8 t62_1) ∧ w18.cell? ((t61_p.add (Int.toNat j14 * 4)).add 2) = some (.int .u8 t62_2) ∧ w18.cell? ((t61_p.add (Int.toNat j14 * 4)).add 3) = some (t62_3.v) ∧ 
  Calls Try.prog n_enthymemeref04_Compare #[.agg #[.i t58_0, .int .u8 t58_1, .int .u8 t58_2, t58_3.v], .agg #[.i t62_0, .int .u8 t62_1, .int .u8 t62_2, t62_3.v]] w18 fun r_ w19 => ∃ t63 : Int, r_ = .returned (.i t63) ∧ 
  sel (t53 != t63) (S2  w19 R) ((0 : Int) ≤ j14 ∧ j14 < ((all12.n : Nat) : Int) ∧ optP all12.a fun t69_p => ∃ t70_0 : Int, ∃ t70_1 : Int, ∃ t70_2 : Int, ∃ t70_3 : Sl, w19.cell? ((t69_p.add (Int.toNat j14 * 4)).add 0) = some (.i t70_0) ∧ w19.cell? ((t69_p.add (Int.toNat j14 * 4)).add 1) = some (.int .u8 t70_1) ∧ w19.cell? ((t69_p.add (Int.toNat j14 * 4)).add 2) = some (.int .u8 t70_2) ∧ w19.cell? ((t69_p.add (Int.toNat j14 * 4)).add 3) = some (t70_3.v) ∧ 
  (0 : Int) ≤ i13 ∧ i13 < ((all12.n : Nat) : Int) ∧ optP all12.a fun t74_p => ∃ t75_0 : Int, ∃ t75_1 : Int, ∃ t75_2 : Int, ∃ t75_3 : Sl, w19.cell? ((t74_p.add (Int.toNat i13 * 4)).add 0) = some (.i t75_0) ∧ w19.cell? ((t74_p.add (Int.toNat i13 * 4)).add 1) = some (.int .u8 t75_1) ∧ w19.cell? ((t74_p.add (Int.toNat i13 * 4)).add 2) = some (.int .u8 t75_2) ∧ w19.cell? ((t74_p.add (Int.toNat i13 * 4)).add 3) = some (t75_3.v) ∧ 
  Calls Try.prog n_enthymemelaw04_own #[.agg #[.i t70_0, .int .u8 t70_1, .int .u8 t70_2, t70_3.v]] w19 fun r_ w20 => ∃ t71_0 : Int, ∃ t71_1 : Int, ∃ t71_2 : Int, ∃ t71_3 : Sl, r_ = .returned (.agg #[.i t71_0, .int .u8 t71_1, .int .u8 t71_2, t71_3.v]) ∧ 
  w20.cell? ((t74_p.add (Int.toNat i13 * 4)).add 0) = some (.i t75_0) ∧ w20.cell? ((t74_p.add (Int.toNat i13 * 4)).add 1) = some (.int .u8 t75_1) ∧ w20.cell? ((t74_p.add (Int.toNat i13 * 4)).add 2) = some (.int .u8 t75_2) ∧ w20.cell? ((t74_p.add (Int.toNat i13 * 4)).add 3) = some (t75_3.v) ∧ Calls Try.prog n_enthymemelaw04_own #[.agg #[.i t75_0, .int .u8 t75_1, .int .u8 t75_2, t75_3.v]] w20 fun r_ w21 => ∃ t76_0 : Int, ∃ t76_1 : Int, ∃ t76_2 : Int, ∃ t76_3 : Sl, r_ = .returned (.agg #[.i t76_0, .int .u8 t76_1, .int .u8 t76_2, t76_3.v]) ∧ 
  Calls Try.prog n_regex_Compare #[.agg #[.i t71_0, .int .u8 t71_1, .int .u8 t71_2, t71_3.v], .agg #[.i t76_0, .int .u8 t76_1, .int .u8 t76_2, t76_3.v]] w21 fun r_ w22 => ∃ t77 : Int, r_ = .returned (.i t77) ∧ 
  sel (t53 != (IntKind.wrap .i64 (0 - t77))) (S2  w22 R) (L3 all12 i13 j14 t53 0 w22 R))) (L0 all12 (IntKind.wrap .i64 (i13 + 1)) w R)) : L1 all12 i13 j14 w R :=
  LP.step (n := (cx 117)) (c := C14) (E := [(12, all12.v), (13, .i i13), (14, .i j14)]) (w := w) (sq C14 (sr C42 (show (fun (E : Env) (w : World) => srK Try.prog C42 (fun E w => condK (Env.val E (.tmp 40)) (sdK Try.prog C18 [0, 1, 2, 3, 5, 6, 7, 8, 4, 9, 10, 11] (fun E w => sdK Try.prog C20 [0, 1, 2, 3, 4, 5, 6, 7, 8, 9, 10, 11, 12, 13, 14, 15, 16, 18, 19, 20, 21, 17, 22, 23, 24, 25, 26] (fun E w => condK (Env.val E (.tmp 80)) (KE_S2 E w R) (srK Try.prog C24 (fun E w => KE_L3 E w R) E w)) E w) E w) (rgK Try.prog C15 (fun E w => KE_L0 E w R) E w)) E w) [(12, all12.v), (13, .i i13), (14, .i j14)] w from Eq.mp (by kernel_rfl) h) fun _ _ hK => (cn C43 hK (fun hK => (sk C44 fun a hA => nx hA (sq C16 (bk C17 3 (by kernel_rfl) (sd C18 (by kernel_rfl) hK fun _ _ hK => (sq C19 (sd C20 (by kernel_rfl) hK fun _ _ hK => (cn C21 hK (fun hK => (KE_S2_ok R _ _ hK)) (fun hK => (sk C45 fun a hA => nx hA (sr C24 hK fun _ _ hK => (bk C26 4 (by kernel_rfl) (lp C27 (by kernel_rfl) (KE_L3_ok R _ _ hK)))))))))))))) (fun hK => (xt C46 2 (by kernel_rfl) fun a hA => nx hA (rg C15 (by kernel_rfl) hK fun _ _ a hA hK => KE_L0_ok R _ _ hK a hA))))))
noncomputable def C47:=C7.fs
noncomputable def C48:=C47.sn
noncomputable def C49:=C48.fs
noncomputable def C50:=C48.sn
noncomputable def C51:=C8.sn
theorem L0_step (all12 : Sl) (i13 : Int) (w : World) (R : Post) (h : sel (decide (i13 < 5)) (L1 all12 i13 0 w R) (Calls Try.prog n_enthymemelaw04_lives #[] w fun r_ w31 => ∃ t116 : Bool, r_ = .returned (.bool t116) ∧ 
  R (.returned (.bool t116)) w31)) : L0 all12 i13 w R :=
  LP.step (n := (cx 117)) (c := C7) (E := [(12, all12.v), (13, .i i13)]) (w := w) (sq C7 (sr C47 (show (fun (E : Env) (w : World) => srK Try.prog C47 (fun E w => condK (Env.val E (.tmp 36)) (srK Try.prog C11 (fun E w => KE_L1 E w R) E w) (srK Try.prog C8 (fun E w => retVC Try.prog Try.f3 E w (fun v => R (.returned v) w)) E w)) E w) [(12, all12.v), (13, .i i13)] w from Eq.mp (by kernel_rfl) h) fun _ _ hK => (cn C48 hK (fun hK => (sk C49 fun a hA => nx hA (sq C9 (bk C10 1 (by kernel_rfl) (sr C11 hK fun _ _ hK => (bk C12 2 (by kernel_rfl) (lp C13 (by kernel_rfl) (KE_L1_ok R _ _ hK)))))))) (fun hK => (xt C50 0 (by kernel_rfl) fun a hA => nx hA (sr C8 hK fun _ _ hK => (rt C51 fun a hA => retVC_sound hA hK)))))))
/-- enthymeme/enthymemelaw04.RegexOrder -/
theorem ok (l0 m1 k2 : Sl) (how3 by4 : Int) (w : World) (R : Post) (h : Calls Try.prog n_enthymemeref04_Made #[l0.v] w fun r_ w1 => ∃ t19_0 : Int, ∃ t19_1 : Int, ∃ t19_2 : Int, ∃ t19_3 : Sl, r_ = .returned (.agg #[.i t19_0, .int .u8 t19_1, .int .u8 t19_2, t19_3.v]) ∧ 
  nwV w1 (.cells #[.i 0, .int .u8 0, .int .u8 0, .slice none 0 0] ty_enthymemeref04_Regex) fun w2 => 
  stV w2 (nb w1) (.i t19_0) fun w3 => 
  stV w3 ((nb w1).add 1) (.int .u8 t19_1) fun w4 => 
  stV w4 ((nb w1).add 2) (.int .u8 t19_2) fun w5 => 
  stV w5 ((nb w1).add 3) (t19_3.v) fun w6 => 
  drV w6 fun w7 => ∃ t20_0 : Int, ∃ t20_1 : Int, ∃ t20_2 : Int, ∃ t20_3 : Sl, w7.cell? ((nb w1).add 0) = some (.i t20_0) ∧ w7.cell? ((nb w1).add 1) = some (.int .u8 t20_1) ∧ w7.cell? ((nb w1).add 2) = some (.int .u8 t20_2) ∧ w7.cell? ((nb w1).add 3) = some (t20_3.v) ∧ 
  ∃ t25_0 : Int, ∃ t25_1 : Int, ∃ t25_2 : Int, ∃ t25_3 : Sl, w7.cell? ((nb w1).add 0) = some (.i t25_0) ∧ w7.cell? ((nb w1).add 1) = some (.int .u8 t25_1) ∧ w7.cell? ((nb w1).add 2) = some (.int .u8 t25_2) ∧ w7.cell? ((nb w1).add 3) = some (t25_3.v) ∧ 
  Calls Try.prog n_enthymemeref04_Made #[m1.v] w7 fun r_ w8 => ∃ t22_0 : Int, ∃ t22_1 : Int, ∃ t22_2 : Int, ∃ t22_3 : Sl, r_ = .returned (.agg #[.i t22_0, .int .u8 t22_1, .int .u8 t22_2, t22_3.v]) ∧ 
  w8.cell? ((nb w1).add 0) = some (.i t25_0) ∧ w8.cell? ((nb w1).add 1) = some (.int .u8 t25_1) ∧ w8.cell? ((nb w1).add 2) = some (.int .u8 t25_2) ∧ w8.cell? ((nb w1).add 3) = some (t25_3.v) ∧ w8.cell? ((nb w1).add 0) = some (.i t20_0) ∧ w8.cell? ((nb w1).add 1) = some (.int .u8 t20_1) ∧ w8.cell? ((nb w1).add 2) = some (.int .u8 t20_2) ∧ w8.cell? ((nb w1).add 3) = some (t20_3.v) ∧ Calls Try.prog n_enthymemeref04_Made #[k2.v] w8 fun r_ w9 => ∃ t24_0 : Int, ∃ t24_1 : Int, ∃ t24_2 : Int, ∃ t24_3 : Sl, r_ = .returned (.agg #[.i t24_0, .int .u8 t24_1, .int .u8 t24_2, t24_3.v]) ∧ 
  w9.cell? ((nb w1).add 0) = some (.i t25_0) ∧ w9.cell? ((nb w1).add 1) = some (.int .u8 t25_1) ∧ w9.cell? ((nb w1).add 2) = some (.int .u8 t25_2) ∧ w9.cell? ((nb w1).add 3) = some (t25_3.v) ∧ w9.cell? ((nb w1).add 0) = some (.i t20_0) ∧ w9.cell? ((nb w1).add 1) = some (.int .u8 t20_1) ∧ w9.cell? ((nb w1).add 2) = some (.int .u8 t20_2) ∧ w9.cell? ((nb w1).add 3) = some (t20_3.v) ∧ Calls Try.prog n_enthymemeref04_Spoilt #[.agg #[.i t25_0, .int .u8 t25_1, .int .u8 t25_2, t25_3.v], .i how3, .i by4] w9 fun r_ w10 => ∃ t28_0 : Int, ∃ t28_1 : Int, ∃ t28_2 : Int, ∃ t28_3 : Sl, r_ = .returned (.agg #[.i t28_0, .int .u8 t28_1, .int .u8 t28_2, t28_3.v]) ∧ 
  w10.cell? ((nb w1).add 0) = some (.i t20_0) ∧ w10.cell? ((nb w1).add 1) = some (.int .u8 t20_1) ∧ w10.cell? ((nb w1).add 2) = some (.int .u8 t20_2) ∧ w10.cell? ((nb w1).add 3) = some (t20_3.v) ∧ Calls Try.prog n_enthymemeref04_Made #[m1.v] w10 fun r_ w11 => ∃ t30_0 : Int, ∃ t30_1 : Int, ∃ t30_2 : Int, ∃ t30_3 : Sl, r_ = .returned (.agg #[.i t30_0, .int .u8 t30_1, .int .u8 t30_2, t30_3.v]) ∧ 
  w11.cell? ((nb w1).add 0) = some (.i t20_0) ∧ w11.cell? ((nb w1).add 1) = some (.int .u8 t20_1) ∧ w11.cell? ((nb w1).add 2) = some (.int .u8 t20_2) ∧ w11.cell? ((nb w1).add 3) = some (t20_3.v) ∧ Calls Try.prog n_enthymemeref04_Spoilt #[.agg #[.i t30_0, .int .u8 t30_1, .int .u8 t30_2, t30_3.v], .i by4, .i how3] w11 fun r_ w12 => ∃ t33_0 : Int, ∃ t33_1 : Int, ∃ t33_2 : Int, ∃ t33_3 : Sl, r_ = .returned (.agg #[.i t33_0, .int .u8 t33_1, .int .u8 t33_2, t33_3.v]) ∧ 
  w12.cell? ((nb w1).add 0) = some (.i t20_0) ∧ w12.cell? ((nb w1).add 1) = some (.int .u8 t20_1) ∧ w12.cell? ((nb w1).add 2) = some (.int .u8 t20_2) ∧ w12.cell? ((nb w1).add 3) = some (t20_3.v) ∧ nwV w12 (.cells #[.i t20_0, .int .u8 t20_1, .int .u8 t20_2, t20_3.v, .i t22_0, .int .u8 t22_1, .int .u8 t22_2, t22_3.v, .i t24_0, .int .u8 t24_1, .int .u8 t24_2, t24_3.v, .i t28_0, .int .u8 t28_1, .int .u8 t28_2, t28_3.v, .i t33_0, .int .u8 t33_1, .int .u8 t33_2, t33_3.v] ty_enthymemeref04_Regex) fun w13 => 
  L0 ⟨some (nb w12), 5, 5⟩ 0 w13 R) : Calls Try.prog n_enthymemelaw04_RegexOrder #[l0.v, m1.v, k2.v, .i how3, .i by4] w R :=
  calls_of_WP' (R := R) (fn := Try.f3) (c := C0) (args := [l0.v, m1.v, k2.v, .i how3, .i by4]) (by kernel_rfl) (by kernel_rfl) (by kernel_rfl) (sr C0 (show (fun (E : Env) (w : World) => srK Try.prog C0 (fun E w => srK Try.prog C1 (fun E w => sdK Try.prog C2 [0, 1, 3, 5, 6, 7, 9, 11, 12, 2, 4, 8, 10, 13, 14, 15] (fun E w => srK Try.prog C4 (fun E w => KE_L0 E w R) E w) E w) E w) E w) (envOf 0 [l0.v, m1.v, k2.v, .i how3, .i by4]) w from Eq.mp (by kernel_rfl) h) fun _ _ hK => (sr C1 hK fun _ _ hK => (sd C2 (by kernel_rfl) hK fun _ _ hK => (sq C3 (sr C4 hK fun _ _ hK => (bk C5 0 (by kernel_rfl) (lp C6 (by kernel_rfl) (KE_L0_ok R _ _ hK))))))))
def L0T (all12 : Sl) (i13 : Int) (w : World) (R : Post) : Prop := LC w [] → L0 all12 i13 w R
def L1T (all12 : Sl) (i13 j14 : Int) (w : World) (R : Post) : Prop := LC w [] → L1 all12 i13 j14 w R
abbrev S2T  (w : World) (R : Post) : Prop :=
  R (.returned (.bool false)) w
theorem S2T_ok  {w : World} {R : Post} (h : S2T  w R) (H : LC w []) : S2  w R := h
def L3T (all12 : Sl) (i13 j14 x15 n16 : Int) (w : World) (R : Post) : Prop := LC w [] → L3 all12 i13 j14 x15 n16 w R
abbrev S4T (all12 : Sl) (i13 j14 x15 n16 : Int) (w : World) (R : Post) : Prop :=
  L3T all12 i13 j14 x15 (IntKind.wrap .i64 (n16 + 1)) w R
theorem S4T_ok {all12 : Sl} {i13 j14 x15 n16 : Int} {w : World} {R : Post} (h : S4T all12 i13 j14 x15 n16 w R) (H : LC w []) : S4 all12 i13 j14 x15 n16 w R := h (LC.nil _)
theorem L3T_step (all12 : Sl) (i13 j14 x15 n16 : Int) (w : World) (R : Post) (h : sel (decide (n16 < 5)) (drV w fun w23 => (0 : Int) ≤ j14 ∧ j14 < ((all12.n : Nat) : Int) ∧ optP all12.a fun t87_p => ∃ t88_0 : Int, ∃ t88_1 : Int, ∃ t88_2 : Int, ∃ t88_3 : Sl, w23.cell? ((t87_p.add (Int.toNat j14 * 4)).add 0) = some (.i t88_0) ∧ w23.cell? ((t87_p.add (Int.toNat j14 * 4)).add 1) = some (.int .u8 t88_1) ∧ w23.cell? ((t87_p.add (Int.toNat j14 * 4)).add 2) = some (.int .u8 t88_2) ∧ w23.cell? ((t87_p.add (Int.toNat j14 * 4)).add 3) = some (t88_3.v) ∧ 
  (0 : Int) ≤ n16 ∧ n16 < ((all12.n : Nat) : Int) ∧ optP all12.a fun t92_p => ∃ t93_0 : Int, ∃ t93_1 : Int, ∃ t93_2 : Int, ∃ t93_3 : Sl, w23.cell? ((t92_p.add (Int.toNat n16 * 4)).add 0) = some (.i t93_0) ∧ w23.cell? ((t92_p.add (Int.toNat n16 * 4)).add 1) = some (.int .u8 t93_1) ∧ w23.cell? ((t92_p.add (Int.toNat n16 * 4)).add 2) = some (.int .u8 t93_2) ∧ w23.cell? ((t92_p.add (Int.toNat n16 * 4)).add 3) = some (t93_3.v) ∧ 
  Calls Try.prog n_enthymemelaw04_own #[.agg #[.i t88_0, .int .u8 t88_1, .int .u8 t88_2, t88_3.v]] w23 fun r_ w24 => ∃ t89_0 : Int, ∃ t89_1 : Int, ∃ t89_2 : Int, ∃ t89_3 : Sl, r_ = .returned (.agg #[.i t89_0, .int .u8 t89_1, .int .u8 t89_2, t89_3.v]) ∧ 
  w24.cell? ((t92_p.add (Int.toNat n16 * 4)).add 0) = some (.i t93_0) ∧ w24.cell? ((t92_p.add (Int.toNat n16 * 4)).add 1) = some (.int .u8 t93_1) ∧ w24.cell? ((t92_p.add (Int.toNat n16 * 4)).add 2) = some (.int .u8 t93_2) ∧ w24.cell? ((t92_p.add (Int.toNat n16 * 4)).add 3) = some (t93_3.v) ∧ Calls Try.prog n_enthymemelaw04_own #[.agg #[.i t93_0, .int .u8 t93_1, .int .u8 t93_2, t93_3.v]] w24 fun r_ w25 => ∃ t94_0 : Int, ∃ t94_1 : Int, ∃ t94_2 : Int, ∃ t94_3 : Sl, r_ = .returned (.agg #[.i t94_0, .int .u8 t94_1, .int .u8 t94_2, t94_3.v]) ∧ 
  Calls Try.prog n_regex_Compare #[.agg #[.i t89_0, .int .u8 t89_1, .int .u8 t89_2, t89_3.v], .agg #[.i t94_0, .int .u8 t94_1, .int .u8 t94_2, t94_3.v]] w25 fun r_ w26 => ∃ t95 : Int, r_ = .returned (.i t95) ∧ 
  drV w26 fun w27 => sel (decide (x15 ≤ 0)) (sel (decide (t95 ≤ 0)) ((0 : Int) ≤ i13 ∧ i13 < ((all12.n : Nat) : Int) ∧ optP all12.a fun t105_p => ∃ t106_0 : Int, ∃ t106_1 : Int, ∃ t106_2 : Int, ∃ t106_3 : Sl, w27.cell? ((t105_p.add (Int.toNat i13 * 4)).add 0) = some (.i t106_0) ∧ w27.cell? ((t105_p.add (Int.toNat i13 * 4)).add 1) = some (.int .u8 t106_1) ∧ w27.cell? ((t105_p.add (Int.toNat i13 * 4)).add 2) = some (.int .u8 t106_2) ∧ w27.cell? ((t105_p.add (Int.toNat i13 * 4)).add 3) = some (t106_3.v) ∧ 
  (0 : Int) ≤ n16 ∧ n16 < ((all12.n : Nat) : Int) ∧ optP all12.a fun t110_p => ∃ t111_0 : Int, ∃ t111_1 : Int, ∃ t111_2 : Int, ∃ t111_3 : Sl, w27.cell? ((t110_p.add (Int.toNat n16 * 4)).add 0) = some (.i t111_0) ∧ w27.cell? ((t110_p.add (Int.toNat n16 * 4)).add 1) = some (.int .u8 t111_1) ∧ w27.cell? ((t110_p.add (Int.toNat n16 * 4)).add 2) = some (.int .u8 t111_2) ∧ w27.cell? ((t110_p.add (Int.toNat n16 * 4)).add 3) = some (t111_3.v) ∧ 
  Calls Try.prog n_enthymemelaw04_own #[.agg #[.i t106_0, .int .u8 t106_1, .int .u8 t106_2, t106_3.v]] w27 fun r_ w28 => ∃ t107_0 : Int, ∃ t107_1 : Int, ∃ t107_2 : Int, ∃ t107_3 : Sl, r_ = .returned (.agg #[.i t107_0, .int .u8 t107_1, .int .u8 t107_2, t107_3.v]) ∧ 
  w28.cell? ((t110_p.add (Int.toNat n16 * 4)).add 0) = some (.i t111_0) ∧ w28.cell? ((t110_p.add (Int.toNat n16 * 4)).add 1) = some (.int .u8 t111_1) ∧ w28.cell? ((t110_p.add (Int.toNat n16 * 4)).add 2) = some (.int .u8 t111_2) ∧ w28.cell? ((t110_p.add (Int.toNat n16 * 4)).add 3) = some (t111_3.v) ∧ Calls Try.prog n_enthymemelaw04_own #[.agg #[.i t111_0, .int .u8 t111_1, .int .u8 t111_2, t111_3.v]] w28 fun r_ w29 => ∃ t112_0 : Int, ∃ t112_1 : Int, ∃ t112_2 : Int, ∃ t112_3 : Sl, r_ = .returned (.agg #[.i t112_0, .int .u8 t112_1, .int .u8 t112_2, t112_3.v]) ∧ 
  Calls Try.prog n_regex_Compare #[.agg #[.i t107_0, .int .u8 t107_1, .int .u8 t107_2, t107_3.v], .agg #[.i t112_0, .int .u8 t112_1, .int .u8 t112_2, t112_3.v]] w29 fun r_ w30 => ∃ t113 : Int, r_ = .returned (.i t113) ∧ 
  sel (decide (t113 > 0)) (R (.returned (.bool false)) w30) (S4T all12 i13 j14 x15 n16 w30 R)) (S4T all12 i13 j14 x15 n16 w27 R)) (S4T all12 i13 j14 x15 n16 w27 R)) (L1T all12 i13 (IntKind.wrap .i64 (j14 + 1)) w R)) : L3T all12 i13 j14 x15 n16 w R := fun H => L3_step _ _ _ _ _ w R (sel_imp h (fun h => ⟨h.1, h.2.1, have h := h.2.2; optP_imp h fun t87_p h => let ⟨t88_0, t88_1, t88_2, t88_3, hc0, hc1, hc2, hc3, h⟩ := h; ⟨t88_0, t88_1, t88_2, t88_3, hc0, hc1, hc2, hc3, ⟨h.1, h.2.1, have h := h.2.2; optP_imp h fun t92_p h => let ⟨t93_0, t93_1, t93_2, t93_3, hc0, hc1, hc2, hc3, h⟩ := h; ⟨t93_0, t93_1, t93_2, t93_3, hc0, hc1, hc2, hc3, Calls.mono h fun r_ w24 h => let ⟨t89_0, t89_1, t89_2, t89_3, hr, h⟩ := h; ⟨t89_0, t89_1, t89_2, t89_3, hr, ⟨h.1, h.2.1, h.2.2.1, h.2.2.2.1, have h := h.2.2.2.2; Calls.mono h fun r_ w25 h => let ⟨t94_0, t94_1, t94_2, t94_3, hr, h⟩ := h; ⟨t94_0, t94_1, t94_2, t94_3, hr, Calls.mono h fun r_ w26 h => let ⟨t95, hr, h⟩ := h; ⟨t95, hr, sel_imp h (fun h => sel_imp h (fun h => ⟨h.1, h.2.1, have h := h.2.2; optP_imp h fun t105_p h => let ⟨t106_0, t106_1, t106_2, t106_3, hc0, hc1, hc2, hc3, h⟩ := h; ⟨t106_0, t106_1, t106_2, t106_3, hc0, hc1, hc2, hc3, ⟨h.1, h.2.1, have h := h.2.2; optP_imp h fun t110_p h => let ⟨t111_0, t111_1, t111_2, t111_3, hc0, hc1, hc2, hc3, h⟩ := h; ⟨t111_0, t111_1, t111_2, t111_3, hc0, hc1, hc2, hc3, Calls.mono h fun r_ w28 h => let ⟨t107_0, t107_1, t107_2, t107_3, hr, h⟩ := h; ⟨t107_0, t107_1, t107_2, t107_3, hr, ⟨h.1, h.2.1, h.2.2.1, h.2.2.2.1, have h := h.2.2.2.2; Calls.mono h fun r_ w29 h => let ⟨t112_0, t112_1, t112_2, t112_3, hr, h⟩ := h; ⟨t112_0, t112_1, t112_2, t112_3, hr, Calls.mono h fun r_ w30 h => let ⟨t113, hr, h⟩ := h; ⟨t113, hr, sel_imp h (fun h => h) (fun h => S4T_ok h (LC.nil _))⟩⟩⟩⟩⟩⟩⟩⟩) (fun h => S4T_ok h (LC.nil _))) (fun h => S4T_ok h (LC.nil _))⟩⟩⟩⟩⟩⟩⟩⟩) (fun h => h (LC.nil _)))
theorem L1T_step (all12 : Sl) (i13 j14 : Int) (w : World) (R : Post) (h : sel (decide (j14 < 5)) (drV w fun w14 => (0 : Int) ≤ i13 ∧ i13 < ((all12.n : Nat) : Int) ∧ optP all12.a fun t45_p => ∃ t46_0 : Int, ∃ t46_1 : Int, ∃ t46_2 : Int, ∃ t46_3 : Sl, w14.cell? ((t45_p.add (Int.toNat i13 * 4)).add 0) = some (.i t46_0) ∧ w14.cell? ((t45_p.add (Int.toNat i13 * 4)).add 1) = some (.int .u8 t46_1) ∧ w14.cell? ((t45_p.add (Int.toNat i13 * 4)).add 2) = some (.int .u8 t46_2) ∧ w14.cell? ((t45_p.add (Int.toNat i13 * 4)).add 3) = some (t46_3.v) ∧ 
  (0 : Int) ≤ j14 ∧ j14 < ((all12.n : Nat) : Int) ∧ optP all12.a fun t50_p => ∃ t51_0 : Int, ∃ t51_1 : Int, ∃ t51_2 : Int, ∃ t51_3 : Sl, w14.cell? ((t50_p.add (Int.toNat j14 * 4)).add 0) = some (.i t51_0) ∧ w14.cell? ((t50_p.add (Int.toNat j14 * 4)).add 1) = some (.int .u8 t51_1) ∧ w14.cell? ((t50_p.add (Int.toNat j14 * 4)).add 2) = some (.int .u8 t51_2) ∧ w14.cell? ((t50_p.add (Int.toNat j14 * 4)).add 3) = some (t51_3.v) ∧ 
  Calls Try.prog n_enthymemelaw04_own #[.agg #[.i t46_0, .int .u8 t46_1, .int .u8 t46_2, t46_3.v]] w14 fun r_ w15 => ∃ t47_0 : Int, ∃ t47_1 : Int, ∃ t47_2 : Int, ∃ t47_3 : Sl, r_ = .returned (.agg #[.i t47_0, .int .u8 t47_1, .int .u8 t47_2, t47_3.v]) ∧ 
  w15.cell? ((t50_p.add (Int.toNat j14 * 4)).add 0) = some (.i t51_0) ∧ w15.cell? ((t50_p.add (Int.toNat j14 * 4)).add 1) = some (.int .u8 t51_1) ∧ w15.cell? ((t50_p.add (Int.toNat j14 * 4)).add 2) = some (.int .u8 t51_2) ∧ w15.cell? ((t50_p.add (Int.toNat j14 * 4)).add 3) = some (t51_3.v) ∧ Calls Try.prog n_enthymemelaw04_own #[.agg #[.i t51_0, .int .u8 t51_1, .int .u8 t51_2, t51_3.v]] w15 fun r_ w16 => ∃ t52_0 : Int, ∃ t52_1 : Int, ∃ t52_2 : Int, ∃ t52_3 : Sl, r_ = .returned (.agg #[.i t52_0, .int .u8 t52_1, .int .u8 t52_2, t52_3.v]) ∧ 
  Calls Try.prog n_regex_Compare #[.agg #[.i t47_0, .int .u8 t47_1, .int .u8 t47_2, t47_3.v], .agg #[.i t52_0, .int .u8 t52_1, .int .u8 t52_2, t52_3.v]] w16 fun r_ w17 => ∃ t53 : Int, r_ = .returned (.i t53) ∧ 
  drV w17 fun w18 => (0 : Int) ≤ i13 ∧ i13 < ((all12.n : Nat) : Int) ∧ optP all12.a fun t57_p => ∃ t58_0 : Int, ∃ t58_1 : Int, ∃ t58_2 : Int, ∃ t58_3 : Sl, w18.cell? ((t57_p.add (Int.toNat i13 * 4)).add 0) = some (.i t58_0) ∧ w18.cell? ((t57_p.add (Int.toNat i13 * 4)).add 1) = some (.int .u8 t58_1) ∧ w18.cell? ((t57_p.add (Int.toNat i13 * 4)).add 2) = some (.int .u8 t58_2) ∧ w18.cell? ((t57_p.add (Int.toNat i13 * 4)).add 3) = some (t58_3.v) ∧ 
  (0 : Int) ≤ j14 ∧ j14 < ((all12.n : Nat) : Int) ∧ optP all12.a fun t61_p => ∃ t62_0 : Int, ∃ t62_1 : Int, ∃ t62_2 : Int, ∃ t62_3 : Sl, w18.cell? ((t61_p.add (Int.toNat j14 * 4)).add 0) = some (.i t62_0) ∧ w18.cell? ((t61_p.add (Int.toNat j14 * 4)).add 1) = some (.int .u8 t62_1) ∧ w18.cell? ((t61_p.add (Int.toNat j14 * 4)).add 2) = some (.int .u8 t62_2) ∧ w18.cell? ((t61_p.add (Int.toNat j14 * 4)).add 3) = some (t62_3.v) ∧ 
  Calls Try.prog n_enthymemeref04_Compare #[.agg #[.i t58_0, .int .u8 t58_1, .int .u8 t58_2, t58_3.v], .agg #[.i t62_0, .int .u8 t62_1, .int .u8 t62_2, t62_3.v]] w18 fun r_ w19 => ∃ t63 : Int, r_ = .returned (.i t63) ∧ 
  sel (t53 != t63) (S2T  w19 R) ((0 : Int) ≤ j14 ∧ j14 < ((all12.n : Nat) : Int) ∧ optP all12.a fun t69_p => ∃ t70_0 : Int, ∃ t70_1 : Int, ∃ t70_2 : Int, ∃ t70_3 : Sl, w19.cell? ((t69_p.add (Int.toNat j14 * 4)).add 0) = some (.i t70_0) ∧ w19.cell? ((t69_p.add (Int.toNat j14 * 4)).add 1) = some (.int .u8 t70_1) ∧ w19.cell? ((t69_p.add (Int.toNat j14 * 4)).add 2) = some (.int .u8 t70_2) ∧ w19.cell? ((t69_p.add (Int.toNat j14 * 4)).add 3) = some (t70_3.v) ∧ 
  (0 : Int) ≤ i13 ∧ i13 < ((all12.n : Nat) : Int) ∧ optP all12.a fun t74_p => ∃ t75_0 : Int, ∃ t75_1 : Int, ∃ t75_2 : Int, ∃ t75_3 : Sl, w19.cell? ((t74_p.add (Int.toNat i13 * 4)).add 0) = some (.i t75_0) ∧ w19.cell? ((t74_p.add (Int.toNat i13 * 4)).add 1) = some (.int .u8 t75_1) ∧ w19.cell? ((t74_p.add (Int.toNat i13 * 4)).add 2) = some (.int .u8 t75_2) ∧ w19.cell? ((t74_p.add (Int.toNat i13 * 4)).add 3) = some (t75_3.v) ∧ 
  Calls Try.prog n_enthymemelaw04_own #[.agg #[.i t70_0, .int .u8 t70_1, .int .u8 t70_2, t70_3.v]] w19 fun r_ w20 => ∃ t71_0 : Int, ∃ t71_1 : Int, ∃ t71_2 : Int, ∃ t71_3 : Sl, r_ = .returned (.agg #[.i t71_0, .int .u8 t71_1, .int .u8 t71_2, t71_3.v]) ∧ 
  w20.cell? ((t74_p.add (Int.toNat i13 * 4)).add 0) = some (.i t75_0) ∧ w20.cell? ((t74_p.add (Int.toNat i13 * 4)).add 1) = some (.int .u8 t75_1) ∧ w20.cell? ((t74_p.add (Int.toNat i13 * 4)).add 2) = some (.int .u8 t75_2) ∧ w20.cell? ((t74_p.add (Int.toNat i13 * 4)).add 3) = some (t75_3.v) ∧ Calls Try.prog n_enthymemelaw04_own #[.agg #[.i t75_0, .int .u8 t75_1, .int .u8 t75_2, t75_3.v]] w20 fun r_ w21 => ∃ t76_0 : Int, ∃ t76_1 : Int, ∃ t76_2 : Int, ∃ t76_3 : Sl, r_ = .returned (.agg #[.i t76_0, .int .u8 t76_1, .int .u8 t76_2, t76_3.v]) ∧ 
  Calls Try.prog n_regex_Compare #[.agg #[.i t71_0, .int .u8 t71_1, .int .u8 t71_2, t71_3.v], .agg #[.i t76_0, .int .u8 t76_1, .int .u8 t76_2, t76_3.v]] w21 fun r_ w22 => ∃ t77 : Int, r_ = .returned (.i t77) ∧ 
  sel (t53 != (IntKind.wrap .i64 (0 - t77))) (S2T  w22 R) (L3T all12 i13 j14 t53 0 w22 R))) (L0T all12 (IntKind.wrap .i64 (i13 + 1)) w R)) : L1T all12 i13 j14 w R := fun H => L1_step _ _ _ w R (sel_imp h (fun h => ⟨h.1, h.2.1, have h := h.2.2; optP_imp h fun t45_p h => let ⟨t46_0, t46_1, t46_2, t46_3, hc0, hc1, hc2, hc3, h⟩ := h; ⟨t46_0, t46_1, t46_2, t46_3, hc0, hc1, hc2, hc3, ⟨h.1, h.2.1, have h := h.2.2; optP_imp h fun t50_p h => let ⟨t51_0, t51_1, t51_2, t51_3, hc0, hc1, hc2, hc3, h⟩ := h; ⟨t51_0, t51_1, t51_2, t51_3, hc0, hc1, hc2, hc3, Calls.mono h fun r_ w15 h => let ⟨t47_0, t47_1, t47_2, t47_3, hr, h⟩ := h; ⟨t47_0, t47_1, t47_2, t47_3, hr, ⟨h.1, h.2.1, h.2.2.1, h.2.2.2.1, have h := h.2.2.2.2; Calls.mono h fun r_ w16 h => let ⟨t52_0, t52_1, t52_2, t52_3, hr, h⟩ := h; ⟨t52_0, t52_1, t52_2, t52_3, hr, Calls.mono h fun r_ w17 h => let ⟨t53, hr, h⟩ := h; ⟨t53, hr, ⟨h.1, h.2.1, have h := h.2.2; optP_imp h fun t57_p h => let ⟨t58_0, t58_1, t58_2, t58_3, hc0, hc1, hc2, hc3, h⟩ := h; ⟨t58_0, t58_1, t58_2, t58_3, hc0, hc1, hc2, hc3, ⟨h.1, h.2.1, have h := h.2.2; optP_imp h fun t61_p h => let ⟨t62_0, t62_1, t62_2, t62_3, hc0, hc1, hc2, hc3, h⟩ := h; ⟨t62_0, t62_1, t62_2, t62_3, hc0, hc1, hc2, hc3, Calls.mono h fun r_ w19 h => let ⟨t63, hr, h⟩ := h; ⟨t63, hr, sel_imp h (fun h => S2T_ok h (LC.nil _)) (fun h => ⟨h.1, h.2.1, have h := h.2.2; optP_imp h fun t69_p h => let ⟨t70_0, t70_1, t70_2, t70_3, hc0, hc1, hc2, hc3, h⟩ := h; ⟨t70_0, t70_1, t70_2, t70_3, hc0, hc1, hc2, hc3, ⟨h.1, h.2.1, have h := h.2.2; optP_imp h fun t74_p h => let ⟨t75_0, t75_1, t75_2, t75_3, hc0, hc1, hc2, hc3, h⟩ := h; ⟨t75_0, t75_1, t75_2, t75_3, hc0, hc1, hc2, hc3, Calls.mono h fun r_ w20 h => let ⟨t71_0, t71_1, t71_2, t71_3, hr, h⟩ := h; ⟨t71_0, t71_1, t71_2, t71_3, hr, ⟨h.1, h.2.1, h.2.2.1, h.2.2.2.1, have h := h.2.2.2.2; Calls.mono h fun r_ w21 h => let ⟨t76_0, t76_1, t76_2, t76_3, hr, h⟩ := h; ⟨t76_0, t76_1, t76_2, t76_3, hr, Calls.mono h fun r_ w22 h => let ⟨t77, hr, h⟩ := h; ⟨t77, hr, sel_imp h (fun h => S2T_ok h (LC.nil _)) (fun h => h (LC.nil _))⟩⟩⟩⟩⟩⟩⟩⟩)⟩⟩⟩⟩⟩⟩⟩⟩⟩⟩⟩⟩⟩) (fun h => h (LC.nil _)))
theorem L0T_step (all12 : Sl) (i13 : Int) (w : World) (R : Post) (h : sel (decide (i13 < 5)) (L1T all12 i13 0 w R) (Calls Try.prog n_enthymemelaw04_lives #[] w fun r_ w31 => ∃ t116 : Bool, r_ = .returned (.bool t116) ∧ 
  R (.returned (.bool t116)) w31)) : L0T all12 i13 w R := fun H => L0_step _ _ w R (sel_imp h (fun h => h (LC.nil _)) (fun h => Calls.mono h fun r_ w31 h => let ⟨t116, hr, h⟩ := h; ⟨t116, hr, h⟩))
theorem okT (l0 m1 k2 : Sl) (how3 by4 : Int) (w : World) (R : Post) (h : Calls Try.prog n_enthymemeref04_Made #[l0.v] w fun r_ w1 => ∃ t19_0 : Int, ∃ t19_1 : Int, ∃ t19_2 : Int, ∃ t19_3 : Sl, r_ = .returned (.agg #[.i t19_0, .int .u8 t19_1, .int .u8 t19_2, t19_3.v]) ∧ 
  newV [] w1 fun b11 w2 => 
  loc [b11] w2 fun w7 => callF [b11] Try.prog n_enthymemeref04_Made #[m1.v] w7 fun r_ w8 => ∃ t22_0 : Int, ∃ t22_1 : Int, ∃ t22_2 : Int, ∃ t22_3 : Sl, r_ = .returned (.agg #[.i t22_0, .int .u8 t22_1, .int .u8 t22_2, t22_3.v]) ∧ 
  callF [b11] Try.prog n_enthymemeref04_Made #[k2.v] w8 fun r_ w9 => ∃ t24_0 : Int, ∃ t24_1 : Int, ∃ t24_2 : Int, ∃ t24_3 : Sl, r_ = .returned (.agg #[.i t24_0, .int .u8 t24_1, .int .u8 t24_2, t24_3.v]) ∧ 
  callF [b11] Try.prog n_enthymemeref04_Spoilt #[.agg #[.i t19_0, .int .u8 t19_1, .int .u8 t19_2, t19_3.v], .i how3, .i by4] w9 fun r_ w10 => ∃ t28_0 : Int, ∃ t28_1 : Int, ∃ t28_2 : Int, ∃ t28_3 : Sl, r_ = .returned (.agg #[.i t28_0, .int .u8 t28_1, .int .u8 t28_2, t28_3.v]) ∧ 
  callF [b11] Try.prog n_enthymemeref04_Made #[m1.v] w10 fun r_ w11 => ∃ t30_0 : Int, ∃ t30_1 : Int, ∃ t30_2 : Int, ∃ t30_3 : Sl, r_ = .returned (.agg #[.i t30_0, .int .u8 t30_1, .int .u8 t30_2, t30_3.v]) ∧ 
  callF [b11] Try.prog n_enthymemeref04_Spoilt #[.agg #[.i t30_0, .int .u8 t30_1, .int .u8 t30_2, t30_3.v], .i by4, .i how3] w11 fun r_ w12 => ∃ t33_0 : Int, ∃ t33_1 : Int, ∃ t33_2 : Int, ∃ t33_3 : Sl, r_ = .returned (.agg #[.i t33_0, .int .u8 t33_1, .int .u8 t33_2, t33_3.v]) ∧ 
  nwV w12 (.cells #[.i t19_0, .int .u8 t19_1, .int .u8 t19_2, t19_3.v, .i t22_0, .int .u8 t22_1, .int .u8 t22_2, t22_3.v, .i t24_0, .int .u8 t24_1, .int .u8 t24_2, t24_3.v, .i t28_0, .int .u8 t28_1, .int .u8 t28_2, t28_3.v, .i t33_0, .int .u8 t33_1, .int .u8 t33_2, t33_3.v] ty_enthymemeref04_Regex) fun w13 => 
  L0T ⟨some (nb w12), 5, 5⟩ 0 w13 R) : Calls Try.prog n_enthymemelaw04_RegexOrder #[l0.v, m1.v, k2.v, .i how3, .i by4] w R :=
  ok _ _ _ _ _ w R (Calls.mono h fun r_ w1 h => let ⟨t19_0, t19_1, t19_2, t19_3, hr, h⟩ := h; ⟨t19_0, t19_1, t19_2, t19_3, hr, LC.nwT (LC.nil _) (Fr.refl _ _) h fun w2 H h => LC.stT0 H 0 (Fr.refl _ _) rfl rfl fun w3 H f => LC.stT H 0 1 f rfl rfl fun w4 H f => LC.stT H 0 2 f rfl rfl fun w5 H f => LC.stT H 0 3 f rfl rfl fun w6 (H : LC w6 [(w1.heap.size, [.i t19_0, .int .u8 t19_1, .int .u8 t19_2, t19_3.v], ty_enthymemeref04_Regex)]) (f : Fr (· ∈ [w1.heap.size]) _ w6) => LC.drT H f fun w7 H f => ⟨_, _, _, t19_3, H.ld 0 0, H.ld 0 1, H.ld 0 2, H.ld 0 3, ⟨_, _, _, t19_3, H.ld 0 0, H.ld 0 1, H.ld 0 2, H.ld 0 3, have h := h _ f; LC.callT H h fun r_ w8 H h => let ⟨t22_0, t22_1, t22_2, t22_3, hr, h⟩ := h; ⟨t22_0, t22_1, t22_2, t22_3, hr, ⟨H.ld 0 0, H.ld 0 1, H.ld 0 2, H.ld 0 3, H.ld 0 0, H.ld 0 1, H.ld 0 2, H.ld 0 3, LC.callT H h fun r_ w9 H h => let ⟨t24_0, t24_1, t24_2, t24_3, hr, h⟩ := h; ⟨t24_0, t24_1, t24_2, t24_3, hr, ⟨H.ld 0 0, H.ld 0 1, H.ld 0 2, H.ld 0 3, H.ld 0 0, H.ld 0 1, H.ld 0 2, H.ld 0 3, LC.callT H h fun r_ w10 H h => let ⟨t28_0, t28_1, t28_2, t28_3, hr, h⟩ := h; ⟨t28_0, t28_1, t28_2, t28_3, hr, ⟨H.ld 0 0, H.ld 0 1, H.ld 0 2, H.ld 0 3, LC.callT H h fun r_ w11 H h => let ⟨t30_0, t30_1, t30_2, t30_3, hr, h⟩ := h; ⟨t30_0, t30_1, t30_2, t30_3, hr, ⟨H.ld 0 0, H.ld 0 1, H.ld 0 2, H.ld 0 3, LC.callT H h fun r_ w12 H h => let ⟨t33_0, t33_1, t33_2, t33_3, hr, h⟩ := h; ⟨t33_0, t33_1, t33_2, t33_3, hr, ⟨H.ld 0 0, H.ld 0 1, H.ld 0 2, H.ld 0 3, LC.nwN H h fun w13 H h => h (LC.nil _)⟩⟩⟩⟩⟩⟩⟩⟩⟩⟩⟩⟩⟩)
end enthymemelaw04_RegexOrder
end Go.Proofs.Ytknlbofiicflgaa

/- Printed by a program of ours (vcgen.py) from the dump: the conditions of the functions, and that they suffice. -/
import Derived.Test.YtknlbofiicflgaaGreatVC
import Derived.Test.YtknlbofiicflgaaGreatY
set_option linter.unusedVariables false
set_option maxRecDepth 100000
set_option maxHeartbeats 2000000
namespace Go.Proofs.YtknlbofiicflgaaGreat
open Go Go.W
namespace regex_countdown
noncomputable def C0 : Code := (Tryz.f56.body).getD .skip
noncomputable def C1:=C0.sn
noncomputable def C2:=C1.sn
noncomputable def C3:=C2.fs
noncomputable def C4:=C3.sn
noncomputable def C5:=C4.fs
noncomputable def C6:=C5.fs
noncomputable def C7:=C2.sn
abbrev Q0 (R : Post) : ExP := (Exit.then (wpx Tryz.prog (cx 27) C7 (bodyPost Tryz.prog Tryz.f56 R)) (bodyPost Tryz.prog Tryz.f56 R))
abbrev Q1 (R : Post) : ExP := (Exit.inBlock 0 (Q0 R))
/-- the head of the loop, regex.go:33 -/
def L1 (left1 : Int) (r2 : Addr) (i5 : Int) (w : World) (R : Post) : Prop := LP Tryz.prog (cx 27) C6 (Q1 R) [(1, .i left1), (2, .pointer (some r2)), (5, .i i5)] w
def KE_L1 (E : Env) (w : World) (R : Post) : Prop := W.asInt .i64 (Env.get? E 1) fun left1 => W.asRef (Env.get? E 2) fun r2 => W.asInt .i64 (Env.get? E 5) fun i5 => L1 left1 r2 i5 w R
theorem KE_L1_ok : LOk Tryz.prog 27 KE_L1 C6 Q1 := by
  intro R E w h
  obtain ⟨left1, hq1, h_1⟩ := W.asInt_elim h
  obtain ⟨r2, hq2, h_2⟩ := W.asRef_elim h_1
  obtain ⟨i5, hq5, h_3⟩ := W.asInt_elim h_2
  intro a ha
  exact h_3 a (ha.cons hq1 (ha.cons hq2 (ha.cons hq5 ha.nil)))
abbrev Q2 (R : Post) : ExP := (bodyPost Tryz.prog Tryz.f56 R)
noncomputable def C8:=C7.sn
/-- regex.go:36 -/
abbrev S2 (left1 : Int) (w : World) (R : Post) : Prop :=
  R (.returned (.i left1)) w
def KE_S2 (E : Env) (w : World) (R : Post) : Prop := W.asInt .i64 (Env.get? E 1) fun left1 => S2 left1 w R
theorem KE_S2_ok : KOk Tryz.prog 27 KE_S2 C7 Q2 := by
  intro R E w h
  obtain ⟨left1, hq1, h_1⟩ := W.asInt_elim h
  exact fun a ha => WP.at (E := [(1, .i left1)]) (sr C7 (K := fun E w => retVC Tryz.prog Tryz.f56 E w (fun v => R (.returned v) w)) (mp h_1) fun _ _ hK => (rt C8 fun a hA => retVC_sound hA hK)) (ha.cons hq1 ha.nil)
noncomputable def C9:=C6.fs
noncomputable def C10:=C6.sn
noncomputable def C11:=C10.fs
noncomputable def C12:=C11.fs
noncomputable def C13:=C10.sn
noncomputable def C14:=C9.sn
noncomputable def C15:=C14.fs
noncomputable def C16:=C14.sn
theorem L1_step (left1 : Int) (r2 : Addr) (i5 : Int) (w : World) (R : Post) (h : ∃ t10 : Sl, w.cell? (r2.add 3) = some (t10.v) ∧ 
  sel (decide (i5 < ((t10.n : Nat) : Int))) (sel (decide (left1 ≥ 0)) (∃ t20 : Sl, w.cell? (r2.add 3) = some (t20.v) ∧ 
  (0 : Int) ≤ i5 ∧ i5 < ((t20.n : Nat) : Int) ∧ optP t20.a fun t22_p => ld4_0 w (t22_p.add (Int.toNat i5 * 4)) fun t23_0 t23_1 t23_2 t23_3 => ca0 n_regex_countdown #[.agg #[.i t23_0, .int .u8 t23_1, .int .u8 t23_2, t23_3.v], .i left1] w fun t25 w1 => L1 t25 r2 (IntKind.wrap .i64 (i5 + 1)) w1 R) (S2 left1 w R)) (S2 left1 w R)) : L1 left1 r2 i5 w R :=
  LP.step (n := (cx 27)) (c := C6) (E := [(1, .i left1), (2, .pointer (some r2)), (5, .i i5)]) (w := w) (sq C6 (sr C9 (show (fun (E : Env) (w : World) => srK Tryz.prog C9 (fun E w => condK (Env.val E (.tmp 16)) (rgK Tryz.prog C12 (fun E w => rgK Tryz.prog C13 (fun E w => KE_L1 E w R) E w) E w) (KE_S2 E w R)) E w) [(1, .i left1), (2, .pointer (some r2)), (5, .i i5)] w from mp h) fun _ _ hK => (cn C14 hK (fun hK => (sk C15 fun a hA => nx hA (sq C10 (bk C11 1 (by kernel_rfl) (rg C12 (by kernel_rfl) hK fun _ _ a hA hK => nx hA (rg C13 (by kernel_rfl) hK fun _ _ a hA hK => KE_L1_ok R _ _ hK a hA)))))) (fun hK => (xt C16 0 (by kernel_rfl) fun a hA => nx hA (KE_S2_ok R _ _ hK))))))
/-- regex.go:33 -/
abbrev S0 (left1 : Int) (r2 : Addr) (w : World) (R : Post) : Prop :=
  L1 left1 r2 0 w R
def KE_S0 (E : Env) (w : World) (R : Post) : Prop := W.asInt .i64 (Env.get? E 1) fun left1 => W.asRef (Env.get? E 2) fun r2 => S0 left1 r2 w R
theorem KE_S0_ok : KOk Tryz.prog 27 KE_S0 C3 Q0 := by
  intro R E w h
  obtain ⟨left1, hq1, h_1⟩ := W.asInt_elim h
  obtain ⟨r2, hq2, h_2⟩ := W.asRef_elim h_1
  exact fun a ha => WP.at (E := [(1, .i left1), (2, .pointer (some r2))]) (sr C3 (K := fun E w => KE_L1 E w R) (mp h_2) fun _ _ hK => (bk C4 0 (by kernel_rfl) (lp C5 (by kernel_rfl) (KE_L1_ok R _ _ hK)))) (ha.cons hq1 (ha.cons hq2 ha.nil))
/-- enthymeme/regex.countdown -/
theorem ok (r0_0 r0_1 r0_2 : Int) (r0_3 : Sl) (left1 : Int) (w : World) (R : Post) (h : nwV w (.cells #[.i r0_0, .int .u8 r0_1, .int .u8 r0_2, r0_3.v] ty_regex_Regex) fun w1 => 
  S0 (IntKind.wrap .i64 (left1 - 1)) (nb w) w1 R) : Calls Tryz.prog n_regex_countdown #[.agg #[.i r0_0, .int .u8 r0_1, .int .u8 r0_2, r0_3.v], .i left1] w R :=
  calls_of_WP' (R := R) (fn := Tryz.f56) (c := C0) (args := [.agg #[.i r0_0, .int .u8 r0_1, .int .u8 r0_2, r0_3.v], .i left1]) (by kernel_rfl) (by kernel_rfl) (by kernel_rfl) (sr C0 (show (fun (E : Env) (w : World) => srK Tryz.prog C0 (fun E w => srK Tryz.prog C1 (fun E w => KE_S0 E w R) E w) E w) (envOf 0 [.agg #[.i r0_0, .int .u8 r0_1, .int .u8 r0_2, r0_3.v], .i left1]) w from mp h) fun _ _ hK => (sr C1 hK fun _ _ hK => (sq C2 (KE_S0_ok R _ _ hK))))
def L1T (left1 : Int) (r2 : Nat) (r2_0 r2_1 r2_2 : Int) (r2_3 : Sl) (i5 : Int) (w : World) (R : Post) : Prop := LC w [(r2, [.i r2_0, .int .u8 r2_1, .int .u8 r2_2, r2_3.v], ty_regex_Regex)] → L1 left1 (at0 r2) i5 w R
abbrev S2T (left1 : Int) (w : World) (R : Post) : Prop :=
  R (.returned (.i left1)) w
theorem S2T_ok {left1 : Int} {w : World} {R : Post} (h : S2T left1 w R) (H : LC w []) : S2 left1 w R := h
theorem L1T_step (left1 : Int) (r2 : Nat) (r2_0 r2_1 r2_2 : Int) (r2_3 : Sl) (i5 : Int) (w : World) (R : Post) (h : sel (decide (i5 < ((r2_3.n : Nat) : Int))) (sel (decide (left1 ≥ 0)) ((0 : Int) ≤ i5 ∧ i5 < ((r2_3.n : Nat) : Int) ∧ optP r2_3.a fun t22_p => ld4_0 w (t22_p.add (Int.toNat i5 * 4)) fun t23_0 t23_1 t23_2 t23_3 => cf0 [r2] n_regex_countdown #[.agg #[.i t23_0, .int .u8 t23_1, .int .u8 t23_2, t23_3.v], .i left1] w fun t25 w1 => L1T t25 r2 r2_0 r2_1 r2_2 r2_3 (IntKind.wrap .i64 (i5 + 1)) w1 R) (S2T left1 w R)) (S2T left1 w R)) : L1T left1 r2 r2_0 r2_1 r2_2 r2_3 i5 w R := fun H => L1_step _ _ _ w R (⟨r2_3, H.ld 0 3, sel_imp h (fun h => sel_imp h (fun h => ⟨r2_3, H.ld 0 3, ⟨h.1, h.2.1, have h := h.2.2; optP_imp h fun t22_p h => let ⟨t23_0, t23_1, t23_2, t23_3, hc0, hc1, hc2, hc3, h⟩ := h; ⟨t23_0, t23_1, t23_2, t23_3, hc0, hc1, hc2, hc3, LC.callT H h fun r_ w1 H h => let ⟨t25, hr, h⟩ := h; ⟨t25, hr, h H⟩⟩⟩⟩) (fun h => S2T_ok h (LC.nil _))) (fun h => S2T_ok h (LC.nil _))⟩)
abbrev S0T (left1 : Int) (r2 : Nat) (r2_0 r2_1 r2_2 : Int) (r2_3 : Sl) (w : World) (R : Post) : Prop :=
  L1T left1 r2 r2_0 r2_1 r2_2 r2_3 0 w R
theorem S0T_ok {left1 : Int} {r2 : Nat} {r2_0 r2_1 r2_2 : Int} {r2_3 : Sl} {w : World} {R : Post} (h : S0T left1 r2 r2_0 r2_1 r2_2 r2_3 w R) (H : LC w [(r2, [.i r2_0, .int .u8 r2_1, .int .u8 r2_2, r2_3.v], ty_regex_Regex)]) : S0 left1 (at0 r2) w R := h H
theorem okT (r0_0 r0_1 r0_2 : Int) (r0_3 : Sl) (left1 : Int) (w : World) (R : Post) (h : newV [] w fun b2 w1 => 
  S0T (IntKind.wrap .i64 (left1 - 1)) b2 r0_0 r0_1 r0_2 r0_3 w1 R) : Calls Tryz.prog n_regex_countdown #[.agg #[.i r0_0, .int .u8 r0_1, .int .u8 r0_2, r0_3.v], .i left1] w R :=
  ok _ _ _ _ _ w R (LC.nwT (LC.nil _) (Fr.refl _ _) h fun w1 H h => S0T_ok h H)
end regex_countdown
namespace regex_tooLarge
noncomputable def C0 : Code := (Tryz.f29.body).getD .skip
/-- enthymeme/regex.tooLarge -/
noncomputable def C1:=C0.sn
noncomputable def C2:=C1.sn
theorem ok (r0_0 r0_1 r0_2 : Int) (r0_3 : Sl) (w : World) (R : Post) (h : nwV w (.cells #[.i r0_0, .int .u8 r0_1, .int .u8 r0_2, r0_3.v] ty_regex_Regex) fun w1 => 
  ld4_0 w1 (nb w) fun t3_0 t3_1 t3_2 t3_3 => ca0 n_regex_countdown #[.agg #[.i t3_0, .int .u8 t3_1, .int .u8 t3_2, t3_3.v], .i 64] w1 fun t4 w2 => R (.returned (.bool (decide (t4 < 0)))) w2) : Calls Tryz.prog n_regex_tooLarge #[.agg #[.i r0_0, .int .u8 r0_1, .int .u8 r0_2, r0_3.v]] w R :=
  calls_of_WP' (R := R) (fn := Tryz.f29) (c := C0) (args := [.agg #[.i r0_0, .int .u8 r0_1, .int .u8 r0_2, r0_3.v]]) (by kernel_rfl) (by kernel_rfl) (by kernel_rfl) (sr C0 (show (fun (E : Env) (w : World) => srK Tryz.prog C0 (fun E w => srK Tryz.prog C1 (fun E w => retVC Tryz.prog Tryz.f29 E w (fun v => R (.returned v) w)) E w) E w) (envOf 0 [.agg #[.i r0_0, .int .u8 r0_1, .int .u8 r0_2, r0_3.v]]) w from mp h) fun _ _ hK => (sr C1 hK fun _ _ hK => (rt C2 fun a hA => retVC_sound hA hK)))
theorem okT (r0_0 r0_1 r0_2 : Int) (r0_3 : Sl) (w : World) (R : Post) (h : newV [] w fun b1 w1 => 
  cf0 [b1] n_regex_countdown #[.agg #[.i r0_0, .int .u8 r0_1, .int .u8 r0_2, r0_3.v], .i 64] w1 fun t4 w2 => R (.returned (.bool (decide (t4 < 0)))) w2) : Calls Tryz.prog n_regex_tooLarge #[.agg #[.i r0_0, .int .u8 r0_1, .int .u8 r0_2, r0_3.v]] w R :=
  ok _ _ _ _ w R (LC.nwT (LC.nil _) (Fr.refl _ _) h fun w1 H h => ⟨_, _, _, r0_3, H.ld 0 0, H.ld 0 1, H.ld 0 2, H.ld 0 3, LC.callT H h fun r_ w2 H h => let ⟨t4, hr, h⟩ := h; ⟨t4, hr, h⟩⟩)
end regex_tooLarge
namespace regex_proper
noncomputable def C0 : Code := (Tryz.f30.body).getD .skip
noncomputable def C1:=C0.sn
noncomputable def C2:=C1.fs
noncomputable def C3:=C2.sn
noncomputable def C4:=C3.fs
noncomputable def C5:=C1.sn
abbrev Q0 (R : Post) : ExP := (Exit.then (wpx Tryz.prog (cx 62) C5 (bodyPost Tryz.prog Tryz.f30 R)) (bodyPost Tryz.prog Tryz.f30 R))
noncomputable def C6:=C4.sn
/-- regex.go:47 -/
abbrev S0  (w : World) (R : Post) : Prop :=
  R (.returned (.bool false)) w
def KE_S0 (E : Env) (w : World) (R : Post) : Prop := S0  w R
theorem KE_S0_ok : KOk Tryz.prog 62 KE_S0 C4 Q0 := by
  intro R E w h
  exact fun a ha => WP.at (E := []) (sr C4 (K := fun E w => retVC Tryz.prog Tryz.f30 E w (fun v => R (.returned v) w)) (mp h) fun _ _ hK => (rt C6 fun a hA => retVC_sound hA hK)) ha.nil
noncomputable def C7:=C5.fs
noncomputable def C8:=C7.sn
noncomputable def C9:=C8.fs
noncomputable def C10:=C9.sn
noncomputable def C11:=C10.fs
noncomputable def C12:=C5.sn
abbrev Q1 (R : Post) : ExP := (Exit.then (wpx Tryz.prog (cx 62) C12 (bodyPost Tryz.prog Tryz.f30 R)) (bodyPost Tryz.prog Tryz.f30 R))
abbrev Q2 (R : Post) : ExP := (Exit.inBlock 0 (Q1 R))
noncomputable def C13:=C11.sn
/-- regex.go:51 -/
abbrev S2 (r1 : Addr) (w : World) (R : Post) : Prop :=
  ∃ t24 : Sl, w.cell? (r1.add 3) = some (t24.v) ∧ 
  R (.returned (.bool (((t24.n : Nat) : Int) == 0))) w
def KE_S2 (E : Env) (w : World) (R : Post) : Prop := W.asRef (Env.get? E 1) fun r1 => S2 r1 w R
theorem KE_S2_ok : KOk Tryz.prog 62 KE_S2 C11 Q2 := by
  intro R E w h
  obtain ⟨r1, hq1, h_1⟩ := W.asRef_elim h
  exact fun a ha => WP.at (E := [(1, .pointer (some r1))]) (sr C11 (K := fun E w => retVC Tryz.prog Tryz.f30 E w (fun v => R (.returned v) w)) (mp h_1) fun _ _ hK => (rt C13 fun a hA => retVC_sound hA hK)) (ha.cons hq1 ha.nil)
noncomputable def C14:=C12.fs
noncomputable def C15:=C14.sn
noncomputable def C16:=C15.fs
noncomputable def C17:=C16.fs
noncomputable def C18:=C12.sn
abbrev Q3 (R : Post) : ExP := (Exit.then (wpx Tryz.prog (cx 62) C18 (bodyPost Tryz.prog Tryz.f30 R)) (bodyPost Tryz.prog Tryz.f30 R))
abbrev Q4 (R : Post) : ExP := (Exit.inBlock 1 (Q3 R))
/-- the head of the loop, regex.go:62 -/
def L5 (t52 : Sl) (t53 t54 : Int) (w : World) (R : Post) : Prop := LP Tryz.prog (cx 62) C17 (Q4 R) [(52, t52.v), (53, .i t53), (54, .i t54)] w
def KE_L5 (E : Env) (w : World) (R : Post) : Prop := W.asSlice (Env.get? E 52) fun t52 => W.asInt .i64 (Env.get? E 53) fun t53 => W.asInt .i64 (Env.get? E 54) fun t54 => L5 t52 t53 t54 w R
theorem KE_L5_ok : LOk Tryz.prog 62 KE_L5 C17 Q4 := by
  intro R E w h
  obtain ⟨t52, hq52, h_1⟩ := W.asSlice_elim h
  obtain ⟨t53, hq53, h_2⟩ := W.asInt_elim h_1
  obtain ⟨t54, hq54, h_3⟩ := W.asInt_elim h_2
  intro a ha
  exact h_3 a (ha.cons hq52 (ha.cons hq53 (ha.cons hq54 ha.nil)))
noncomputable def C19:=C17.sn
noncomputable def C20:=C19.sn
noncomputable def C21:=C20.fs
noncomputable def C22:=C21.fs
noncomputable def C23:=C22.sn
noncomputable def C24:=C23.sn
noncomputable def C25:=C24.fs
noncomputable def C26:=C20.sn
noncomputable def C27:=C19.fs
noncomputable def C28:=C27.fs
noncomputable def C29:=C25.sn
noncomputable def C30:=C24.sn
noncomputable def C31:=C27.sn
noncomputable def C32:=C18.sn
theorem L5_step (t52 : Sl) (t53 t54 : Int) (w : World) (R : Post) (h : sel (decide (t54 < t53)) ((0 : Int) ≤ t54 ∧ t54 < ((t52.n : Nat) : Int) ∧ optP t52.a fun t56_p => ld4_0 w (t56_p.add (Int.toNat t54 * 4)) fun t57_0 t57_1 t57_2 t57_3 => nwV w (.cells #[.i 0, .int .u8 0, .int .u8 0, .slice none 0 0] ty_regex_Regex) fun w1 => 
  stW4 w1 (nb w) (.i t57_0) (.int .u8 t57_1) (.int .u8 t57_2) (t57_3.v) fun w5 => ld4_0 w5 (nb w) fun t58_0 t58_1 t58_2 t58_3 => ca1 n_regex_proper #[.agg #[.i t58_0, .int .u8 t58_1, .int .u8 t58_2, t58_3.v]] w5 fun t59 w6 => sel (!t59) (R (.returned (.bool false)) w6) (L5 t52 t53 (IntKind.wrap .i64 (t54 + 1)) w6 R)) (R (.returned (.bool true)) w)) : L5 t52 t53 t54 w R :=
  LP.step (n := (cx 62)) (c := C17) (E := [(52, t52.v), (53, .i t53), (54, .i t54)]) (w := w) (sr C17 (show (fun (E : Env) (w : World) => srK Tryz.prog C17 (fun E w => condK (Env.val E (.tmp 55)) (srK Tryz.prog C22 (fun E w => srK Tryz.prog C23 (fun E w => condK (Env.val E (.tmp 60)) (srK Tryz.prog C25 (fun E w => retVC Tryz.prog Tryz.f30 E w (fun v => R (.returned v) w)) E w) (rgK Tryz.prog C26 (fun E w => KE_L5 E w R) E w)) E w) E w) (srK Tryz.prog C18 (fun E w => retVC Tryz.prog Tryz.f30 E w (fun v => R (.returned v) w)) E w)) E w) [(52, t52.v), (53, .i t53), (54, .i t54)] w from mp h) fun _ _ hK => (sq C19 (cn C27 hK (fun hK => (sk C28 fun a hA => nx hA (sq C20 (bk C21 2 (by kernel_rfl) (sr C22 hK fun _ _ hK => (sr C23 hK fun _ _ hK => (cn C24 hK (fun hK => (sr C25 hK fun _ _ hK => (rt C29 fun a hA => retVC_sound hA hK))) (fun hK => (sk C30 fun a hA => nx hA (rg C26 (by kernel_rfl) hK fun _ _ a hA hK => KE_L5_ok R _ _ hK a hA)))))))))) (fun hK => (xt C31 1 (by kernel_rfl) fun a hA => nx hA (sr C18 hK fun _ _ hK => (rt C32 fun a hA => retVC_sound hA hK)))))))
/-- regex.go:62 -/
abbrev S4 (r1 : Addr) (w : World) (R : Post) : Prop :=
  ∃ t52 : Sl, w.cell? (r1.add 3) = some (t52.v) ∧ 
  L5 t52 ((t52.n : Nat) : Int) 0 w R
def KE_S4 (E : Env) (w : World) (R : Post) : Prop := W.asRef (Env.get? E 1) fun r1 => S4 r1 w R
theorem KE_S4_ok : KOk Tryz.prog 62 KE_S4 C14 Q3 := by
  intro R E w h
  obtain ⟨r1, hq1, h_1⟩ := W.asRef_elim h
  exact fun a ha => WP.at (E := [(1, .pointer (some r1))]) (sr C14 (K := fun E w => KE_L5 E w R) (mp h_1) fun _ _ hK => (bk C15 1 (by kernel_rfl) (lp C16 (by kernel_rfl) (KE_L5_ok R _ _ hK)))) (ha.cons hq1 ha.nil)
noncomputable def C33:=C10.sn
noncomputable def C34:=C33.sn
noncomputable def C35:=C34.sn
noncomputable def C36:=C35.sn
noncomputable def C37:=C36.sn
noncomputable def C38:=C37.sn
noncomputable def C39:=C38.fs
noncomputable def C40:=C39.sn
noncomputable def C41:=C40.fs
noncomputable def C42:=C41.sn
noncomputable def C43:=C40.sn
/-- regex.go:56 -/
abbrev S7 (r1 : Addr) (w : World) (R : Post) : Prop :=
  ∃ t48 : Sl, w.cell? (r1.add 3) = some (t48.v) ∧ 
  sel (((t48.n : Nat) : Int) != 1) (R (.returned (.bool false)) w) (S4 r1 w R)
def KE_S7 (E : Env) (w : World) (R : Post) : Prop := W.asRef (Env.get? E 1) fun r1 => S7 r1 w R
theorem KE_S7_ok : KOk Tryz.prog 62 KE_S7 C39 Q2 := by
  intro R E w h
  obtain ⟨r1, hq1, h_1⟩ := W.asRef_elim h
  exact fun a ha => WP.at (E := [(1, .pointer (some r1))]) (sr C39 (K := fun E w => condK (Env.val E (.tmp 50)) (srK Tryz.prog C41 (fun E w => retVC Tryz.prog Tryz.f30 E w (fun v => R (.returned v) w)) E w) (KE_S4 E w R)) (mp h_1) fun _ _ hK => (cn C40 hK (fun hK => (sr C41 hK fun _ _ hK => (rt C42 fun a hA => retVC_sound hA hK))) (fun hK => (sk C43 fun a hA => nx hA (sq C12 (KE_S4_ok R _ _ hK)))))) (ha.cons hq1 ha.nil)
noncomputable def C44:=C38.sn
noncomputable def C45:=C44.sn
/-- regex.go:60 -/
abbrev S8  (w : World) (R : Post) : Prop :=
  R (.returned (.bool false)) w
def KE_S8 (E : Env) (w : World) (R : Post) : Prop := S8  w R
theorem KE_S8_ok : KOk Tryz.prog 62 KE_S8 C44 Q2 := by
  intro R E w h
  exact fun a ha => WP.at (E := []) (sr C44 (K := fun E w => retVC Tryz.prog Tryz.f30 E w (fun v => R (.returned v) w)) (mp h) fun _ _ hK => (rt C45 fun a hA => retVC_sound hA hK)) ha.nil
noncomputable def C46:=C37.fs
abbrev Q5 (R : Post) : ExP := (Exit.then (wpx Tryz.prog (cx 62) C38 (Exit.inBlock 0 (Q1 R))) (Exit.inBlock 0 (Q1 R)))
noncomputable def C47:=C46.sn
noncomputable def C48:=C47.sn
noncomputable def C49:=C47.fs
/-- regex.go:55 -/
abbrev S6 (r1 : Addr) (t19 : Int) (w : World) (R : Post) : Prop :=
  sel (t19 == 6) (sel (t19 == 6) (S7 r1 w R) (S8  w R)) (sel (t19 == 7) (S7 r1 w R) (S8  w R))
def KE_S6 (E : Env) (w : World) (R : Post) : Prop := W.asRef (Env.get? E 1) fun r1 => W.asInt .i64 (Env.get? E 19) fun t19 => S6 r1 t19 w R
theorem KE_S6_ok : KOk Tryz.prog 62 KE_S6 C46 Q5 := by
  intro R E w h
  obtain ⟨r1, hq1, h_1⟩ := W.asRef_elim h
  obtain ⟨t19, hq19, h_2⟩ := W.asInt_elim h_1
  exact fun a ha => WP.at (E := [(1, .pointer (some r1)), (19, .i t19)]) (sr C46 (K := fun E w => condK (Env.val E (.tmp 44)) (condK (Env.val E (.tmp 44)) (KE_S7 E w R) (KE_S8 E w R)) (rgK Tryz.prog C48 (fun E w => condK (Env.val E (.tmp 44)) (KE_S7 E w R) (KE_S8 E w R)) E w)) (mp h_2) fun _ _ hK => (cn C47 hK (fun hK => (sk C49 fun a hA => nx hA (cn C38 hK (fun hK => (KE_S7_ok R _ _ hK)) (fun hK => (KE_S8_ok R _ _ hK))))) (fun hK => (rg C48 (by kernel_rfl) hK fun _ _ a hA hK => nx hA (cn C38 hK (fun hK => (KE_S7_ok R _ _ hK)) (fun hK => (KE_S8_ok R _ _ hK))))))) (ha.cons hq1 (ha.cons hq19 ha.nil))
noncomputable def C50:=C34.fs
noncomputable def C51:=C35.fs
noncomputable def C52:=C51.sn
noncomputable def C53:=C52.sn
noncomputable def C54:=C53.sn
noncomputable def C55:=C54.sn
noncomputable def C56:=C50.sn
noncomputable def C57:=C52.fs
noncomputable def C58:=C36.fs
noncomputable def C59:=C54.fs
/-- regex.go:52 -/
abbrev S3 (r1 : Addr) (t19 : Int) (w : World) (R : Post) : Prop :=
  sel (t19 == 2) (∃ t30 : Sl, w.cell? (r1.add 3) = some (t30.v) ∧ 
  sel (((t30.n : Nat) : Int) == 0) (∃ t35 : Int, w.cell? (r1.add 1) = some (.int .u8 t35) ∧ 
  ∃ t37 : Int, w.cell? (r1.add 2) = some (.int .u8 t37) ∧ 
  R (.returned (.bool (decide (t35 ≤ t37)))) w) (R (.returned (.bool false)) w)) (sel (t19 == 3) (sel (t19 == 3) (S4 r1 w R) (S6 r1 t19 w R)) (sel (t19 == 4) (sel (t19 == 4) (S4 r1 w R) (S6 r1 t19 w R)) (sel (t19 == 5) (S4 r1 w R) (S6 r1 t19 w R))))
def KE_S3 (E : Env) (w : World) (R : Post) : Prop := W.asRef (Env.get? E 1) fun r1 => W.asInt .i64 (Env.get? E 19) fun t19 => S3 r1 t19 w R
theorem KE_S3_ok : KOk Tryz.prog 62 KE_S3 C33 Q2 := by
  intro R E w h
  obtain ⟨r1, hq1, h_1⟩ := W.asRef_elim h
  obtain ⟨t19, hq19, h_2⟩ := W.asInt_elim h_1
  exact fun a ha => WP.at (E := [(1, .pointer (some r1)), (19, .i t19)]) (sr C33 (K := fun E w => condK (Env.val E (.tmp 27)) (srK Tryz.prog C50 (fun E w => retVC Tryz.prog Tryz.f30 E w (fun v => R (.returned v) w)) E w) (srK Tryz.prog C51 (fun E w => condK (Env.val E (.tmp 40)) (condK (Env.val E (.tmp 40)) (KE_S4 E w R) (KE_S6 E w R)) (srK Tryz.prog C53 (fun E w => condK (Env.val E (.tmp 40)) (condK (Env.val E (.tmp 40)) (KE_S4 E w R) (KE_S6 E w R)) (rgK Tryz.prog C55 (fun E w => condK (Env.val E (.tmp 40)) (KE_S4 E w R) (KE_S6 E w R)) E w)) E w)) E w)) (mp h_2) fun _ _ hK => (cn C34 hK (fun hK => (sr C50 hK fun _ _ hK => (rt C56 fun a hA => retVC_sound hA hK))) (fun hK => (sq C35 (sr C51 hK fun _ _ hK => (cn C52 hK (fun hK => (sk C57 fun a hA => nx hA (cn C36 hK (fun hK => (sk C58 fun a hA => nx hA (sq C12 (KE_S4_ok R _ _ hK)))) (fun hK => (sq C37 (KE_S6_ok R _ _ hK)))))) (fun hK => (sr C53 hK fun _ _ hK => (cn C54 hK (fun hK => (sk C59 fun a hA => nx hA (cn C36 hK (fun hK => (sk C58 fun a hA => nx hA (sq C12 (KE_S4_ok R _ _ hK)))) (fun hK => (sq C37 (KE_S6_ok R _ _ hK)))))) (fun hK => (rg C55 (by kernel_rfl) hK fun _ _ a hA hK => nx hA (cn C36 hK (fun hK => (sk C58 fun a hA => nx hA (sq C12 (KE_S4_ok R _ _ hK)))) (fun hK => (sq C37 (KE_S6_ok R _ _ hK))))))))))))))) (ha.cons hq1 (ha.cons hq19 ha.nil))
noncomputable def C60:=C9.fs
noncomputable def C61:=C60.sn
noncomputable def C62:=C61.sn
noncomputable def C63:=C61.fs
/-- regex.go:49 -/
abbrev S1 (r1 : Addr) (w : World) (R : Post) : Prop :=
  ∃ t19 : Int, w.cell? (r1.add 0) = some (.i t19) ∧ 
  sel (t19 == 0) (sel (t19 == 0) (S2 r1 w R) (S3 r1 t19 w R)) (sel (t19 == 1) (S2 r1 w R) (S3 r1 t19 w R))
def KE_S1 (E : Env) (w : World) (R : Post) : Prop := W.asRef (Env.get? E 1) fun r1 => S1 r1 w R
theorem KE_S1_ok : KOk Tryz.prog 62 KE_S1 C7 Q1 := by
  intro R E w h
  obtain ⟨r1, hq1, h_1⟩ := W.asRef_elim h
  exact fun a ha => WP.at (E := [(1, .pointer (some r1))]) (sr C7 (K := fun E w => srK Tryz.prog C60 (fun E w => condK (Env.val E (.tmp 20)) (condK (Env.val E (.tmp 20)) (KE_S2 E w R) (KE_S3 E w R)) (rgK Tryz.prog C62 (fun E w => condK (Env.val E (.tmp 20)) (KE_S2 E w R) (KE_S3 E w R)) E w)) E w) (mp h_1) fun _ _ hK => (bk C8 0 (by kernel_rfl) (sq C9 (sr C60 hK fun _ _ hK => (cn C61 hK (fun hK => (sk C63 fun a hA => nx hA (cn C10 hK (fun hK => (KE_S2_ok R _ _ hK)) (fun hK => (KE_S3_ok R _ _ hK))))) (fun hK => (rg C62 (by kernel_rfl) hK fun _ _ a hA hK => nx hA (cn C10 hK (fun hK => (KE_S2_ok R _ _ hK)) (fun hK => (KE_S3_ok R _ _ hK)))))))))) (ha.cons hq1 ha.nil)
/-- enthymeme/regex.proper -/
noncomputable def C64:=C3.sn
theorem ok (r0_0 r0_1 r0_2 : Int) (r0_3 : Sl) (w : World) (R : Post) (h : nwV w (.cells #[.i r0_0, .int .u8 r0_1, .int .u8 r0_2, r0_3.v] ty_regex_Regex) fun w1 => 
  ∃ t6 : Int, w1.cell? ((nb w).add 0) = some (.i t6) ∧ 
  sel (t6 != 2) (∃ t10 : Int, w1.cell? ((nb w).add 1) = some (.int .u8 t10) ∧ 
  sel (t10 != 0) (S0  w1 R) (∃ t14 : Int, w1.cell? ((nb w).add 2) = some (.int .u8 t14) ∧ 
  sel (t14 != 0) (S0  w1 R) (S1 (nb w) w1 R))) (S1 (nb w) w1 R)) : Calls Tryz.prog n_regex_proper #[.agg #[.i r0_0, .int .u8 r0_1, .int .u8 r0_2, r0_3.v]] w R :=
  calls_of_WP' (R := R) (fn := Tryz.f30) (c := C0) (args := [.agg #[.i r0_0, .int .u8 r0_1, .int .u8 r0_2, r0_3.v]]) (by kernel_rfl) (by kernel_rfl) (by kernel_rfl) (sr C0 (show (fun (E : Env) (w : World) => srK Tryz.prog C0 (fun E w => srK Tryz.prog C2 (fun E w => condK (Env.val E (.tmp 17)) (KE_S0 E w R) (KE_S1 E w R)) E w) E w) (envOf 0 [.agg #[.i r0_0, .int .u8 r0_1, .int .u8 r0_2, r0_3.v]]) w from mp h) fun _ _ hK => (sq C1 (sr C2 hK fun _ _ hK => (cn C3 hK (fun hK => (KE_S0_ok R _ _ hK)) (fun hK => (sk C64 fun a hA => nx hA (sq C5 (KE_S1_ok R _ _ hK))))))))
abbrev S0T  (w : World) (R : Post) : Prop :=
  R (.returned (.bool false)) w
theorem S0T_ok  {w : World} {R : Post} (h : S0T  w R) (H : LC w []) : S0  w R := h
abbrev S2T (r1 : Nat) (r1_0 r1_1 r1_2 : Int) (r1_3 : Sl) (w : World) (R : Post) : Prop :=
  R (.returned (.bool (((r1_3.n : Nat) : Int) == 0))) w
theorem S2T_ok {r1 : Nat} {r1_0 r1_1 r1_2 : Int} {r1_3 : Sl} {w : World} {R : Post} (h : S2T r1 r1_0 r1_1 r1_2 r1_3 w R) (H : LC w [(r1, [.i r1_0, .int .u8 r1_1, .int .u8 r1_2, r1_3.v], ty_regex_Regex)]) : S2 (at0 r1) w R := ⟨r1_3, H.ld 0 3, h⟩
def L5T (t52 : Sl) (t53 t54 : Int) (w : World) (R : Post) : Prop := LC w [] → L5 t52 t53 t54 w R
theorem L5T_step (t52 : Sl) (t53 t54 : Int) (w : World) (R : Post) (h : sel (decide (t54 < t53)) ((0 : Int) ≤ t54 ∧ t54 < ((t52.n : Nat) : Int) ∧ optP t52.a fun t56_p => ld4_0 w (t56_p.add (Int.toNat t54 * 4)) fun t57_0 t57_1 t57_2 t57_3 => newV [] w fun b4 w1 => 
  loc [b4] w1 fun w5 => cf1 [b4] n_regex_proper #[.agg #[.i t57_0, .int .u8 t57_1, .int .u8 t57_2, t57_3.v]] w5 fun t59 w6 => sel (!t59) (R (.returned (.bool false)) w6) (L5T t52 t53 (IntKind.wrap .i64 (t54 + 1)) w6 R)) (R (.returned (.bool true)) w)) : L5T t52 t53 t54 w R := fun H => L5_step _ _ _ w R (sel_imp h (fun h => ⟨h.1, h.2.1, have h := h.2.2; optP_imp h fun t56_p h => let ⟨t57_0, t57_1, t57_2, t57_3, hc0, hc1, hc2, hc3, h⟩ := h; ⟨t57_0, t57_1, t57_2, t57_3, hc0, hc1, hc2, hc3, LC.nwT (LC.nil _) (Fr.refl _ _) h fun w1 H h => LC.stT0 H 0 (Fr.refl _ _) rfl rfl fun w2 H f => LC.stT H 0 1 f rfl rfl fun w3 H f => LC.stT H 0 2 f rfl rfl fun w4 H f => LC.stT H 0 3 f rfl rfl fun w5 (H : LC w5 [(w.heap.size, [.i t57_0, .int .u8 t57_1, .int .u8 t57_2, t57_3.v], ty_regex_Regex)]) (f : Fr (· ∈ [w.heap.size]) _ w5) => ⟨_, _, _, t57_3, H.ld 0 0, H.ld 0 1, H.ld 0 2, H.ld 0 3, have h := h _ f; LC.callT H h fun r_ w6 H h => let ⟨t59, hr, h⟩ := h; ⟨t59, hr, sel_imp h (fun h => h) (fun h => h (LC.nil _))⟩⟩⟩⟩) (fun h => h))
abbrev S4T (r1 : Nat) (r1_0 r1_1 r1_2 : Int) (r1_3 : Sl) (w : World) (R : Post) : Prop :=
  L5T r1_3 ((r1_3.n : Nat) : Int) 0 w R
theorem S4T_ok {r1 : Nat} {r1_0 r1_1 r1_2 : Int} {r1_3 : Sl} {w : World} {R : Post} (h : S4T r1 r1_0 r1_1 r1_2 r1_3 w R) (H : LC w [(r1, [.i r1_0, .int .u8 r1_1, .int .u8 r1_2, r1_3.v], ty_regex_Regex)]) : S4 (at0 r1) w R := ⟨r1_3, H.ld 0 3, h (LC.nil _)⟩
abbrev S7T (r1 : Nat) (r1_0 r1_1 r1_2 : Int) (r1_3 : Sl) (w : World) (R : Post) : Prop :=
  sel (((r1_3.n : Nat) : Int) != 1) (R (.returned (.bool false)) w) (S4T r1 r1_0 r1_1 r1_2 r1_3 w R)
theorem S7T_ok {r1 : Nat} {r1_0 r1_1 r1_2 : Int} {r1_3 : Sl} {w : World} {R : Post} (h : S7T r1 r1_0 r1_1 r1_2 r1_3 w R) (H : LC w [(r1, [.i r1_0, .int .u8 r1_1, .int .u8 r1_2, r1_3.v], ty_regex_Regex)]) : S7 (at0 r1) w R := ⟨r1_3, H.ld 0 3, sel_imp h (fun h => h) (fun h => S4T_ok h H)⟩
abbrev S8T  (w : World) (R : Post) : Prop :=
  R (.returned (.bool false)) w
theorem S8T_ok  {w : World} {R : Post} (h : S8T  w R) (H : LC w []) : S8  w R := h
abbrev S6T (r1 : Nat) (r1_0 r1_1 r1_2 : Int) (r1_3 : Sl) (t19 : Int) (w : World) (R : Post) : Prop :=
  sel (t19 == 6) (sel (t19 == 6) (S7T r1 r1_0 r1_1 r1_2 r1_3 w R) (S8T  w R)) (sel (t19 == 7) (S7T r1 r1_0 r1_1 r1_2 r1_3 w R) (S8T  w R))
theorem S6T_ok {r1 : Nat} {r1_0 r1_1 r1_2 : Int} {r1_3 : Sl} {t19 : Int} {w : World} {R : Post} (h : S6T r1 r1_0 r1_1 r1_2 r1_3 t19 w R) (H : LC w [(r1, [.i r1_0, .int .u8 r1_1, .int .u8 r1_2, r1_3.v], ty_regex_Regex)]) : S6 (at0 r1) t19 w R := sel_imp h (fun h => sel_imp h (fun h => S7T_ok h H) (fun h => S8T_ok h (LC.nil _))) (fun h => sel_imp h (fun h => S7T_ok h H) (fun h => S8T_ok h (LC.nil _)))
abbrev S3T (r1 : Nat) (r1_0 r1_1 r1_2 : Int) (r1_3 : Sl) (t19 : Int) (w : World) (R : Post) : Prop :=
  sel (t19 == 2) (sel (((r1_3.n : Nat) : Int) == 0) (R (.returned (.bool (decide (r1_1 ≤ r1_2)))) w) (R (.returned (.bool false)) w)) (sel (t19 == 3) (sel (t19 == 3) (S4T r1 r1_0 r1_1 r1_2 r1_3 w R) (S6T r1 r1_0 r1_1 r1_2 r1_3 t19 w R)) (sel (t19 == 4) (sel (t19 == 4) (S4T r1 r1_0 r1_1 r1_2 r1_3 w R) (S6T r1 r1_0 r1_1 r1_2 r1_3 t19 w R)) (sel (t19 == 5) (S4T r1 r1_0 r1_1 r1_2 r1_3 w R) (S6T r1 r1_0 r1_1 r1_2 r1_3 t19 w R))))
theorem S3T_ok {r1 : Nat} {r1_0 r1_1 r1_2 : Int} {r1_3 : Sl} {t19 : Int} {w : World} {R : Post} (h : S3T r1 r1_0 r1_1 r1_2 r1_3 t19 w R) (H : LC w [(r1, [.i r1_0, .int .u8 r1_1, .int .u8 r1_2, r1_3.v], ty_regex_Regex)]) : S3 (at0 r1) t19 w R := sel_imp h (fun h => ⟨r1_3, H.ld 0 3, sel_imp h (fun h => ⟨_, H.ld 0 1, ⟨_, H.ld 0 2, h⟩⟩) (fun h => h)⟩) (fun h => sel_imp h (fun h => sel_imp h (fun h => S4T_ok h H) (fun h => S6T_ok h H)) (fun h => sel_imp h (fun h => sel_imp h (fun h => S4T_ok h H) (fun h => S6T_ok h H)) (fun h => sel_imp h (fun h => S4T_ok h H) (fun h => S6T_ok h H))))
abbrev S1T (r1 : Nat) (r1_0 r1_1 r1_2 : Int) (r1_3 : Sl) (w : World) (R : Post) : Prop :=
  sel (r1_0 == 0) (sel (r1_0 == 0) (S2T r1 r1_0 r1_1 r1_2 r1_3 w R) (S3T r1 r1_0 r1_1 r1_2 r1_3 r1_0 w R)) (sel (r1_0 == 1) (S2T r1 r1_0 r1_1 r1_2 r1_3 w R) (S3T r1 r1_0 r1_1 r1_2 r1_3 r1_0 w R))
theorem S1T_ok {r1 : Nat} {r1_0 r1_1 r1_2 : Int} {r1_3 : Sl} {w : World} {R : Post} (h : S1T r1 r1_0 r1_1 r1_2 r1_3 w R) (H : LC w [(r1, [.i r1_0, .int .u8 r1_1, .int .u8 r1_2, r1_3.v], ty_regex_Regex)]) : S1 (at0 r1) w R := ⟨_, H.ld 0 0, sel_imp h (fun h => sel_imp h (fun h => S2T_ok h H) (fun h => S3T_ok h H)) (fun h => sel_imp h (fun h => S2T_ok h H) (fun h => S3T_ok h H))⟩
theorem okT (r0_0 r0_1 r0_2 : Int) (r0_3 : Sl) (w : World) (R : Post) (h : newV [] w fun b1 w1 => 
  sel (r0_0 != 2) (sel (r0_1 != 0) (S0T  w1 R) (sel (r0_2 != 0) (S0T  w1 R) (S1T b1 r0_0 r0_1 r0_2 r0_3 w1 R))) (S1T b1 r0_0 r0_1 r0_2 r0_3 w1 R)) : Calls Tryz.prog n_regex_proper #[.agg #[.i r0_0, .int .u8 r0_1, .int .u8 r0_2, r0_3.v]] w R :=
  ok _ _ _ _ w R (LC.nwT (LC.nil _) (Fr.refl _ _) h fun w1 H h => ⟨_, H.ld 0 0, sel_imp h (fun h => ⟨_, H.ld 0 1, sel_imp h (fun h => S0T_ok h (LC.nil _)) (fun h => ⟨_, H.ld 0 2, sel_imp h (fun h => S0T_ok h (LC.nil _)) (fun h => S1T_ok h H)⟩)⟩) (fun h => S1T_ok h H)⟩)
end regex_proper
namespace regex_Valid
noncomputable def C0 : Code := (Tryz.f10.body).getD .skip
/-- enthymeme/regex.Valid -/
noncomputable def C1:=C0.sn
noncomputable def C2:=C1.fs
noncomputable def C3:=C2.sn
noncomputable def C4:=C3.fs
noncomputable def C5:=C1.sn
noncomputable def C6:=C5.fs
noncomputable def C7:=C6.sn
noncomputable def C8:=C7.fs
noncomputable def C9:=C5.sn
noncomputable def C10:=C4.sn
noncomputable def C11:=C3.sn
noncomputable def C12:=C8.sn
noncomputable def C13:=C7.sn
noncomputable def C14:=C9.sn
theorem ok (r0_0 r0_1 r0_2 : Int) (r0_3 : Sl) (w : World) (R : Post) (h : nwV w (.cells #[.i r0_0, .int .u8 r0_1, .int .u8 r0_2, r0_3.v] ty_regex_Regex) fun w1 => 
  ld4_0 w1 (nb w) fun t3_0 t3_1 t3_2 t3_3 => ca1 n_regex_tooLarge #[.agg #[.i t3_0, .int .u8 t3_1, .int .u8 t3_2, t3_3.v]] w1 fun t4 w2 => sel t4 (R (.returned (.i 4)) w2) (ld4_0 w2 (nb w) fun t5_0 t5_1 t5_2 t5_3 => ca1 n_regex_proper #[.agg #[.i t5_0, .int .u8 t5_1, .int .u8 t5_2, t5_3.v]] w2 fun t6 w3 => sel (!t6) (R (.returned (.i 1)) w3) (R (.returned (.i 0)) w3))) : Calls Tryz.prog n_regex_Valid #[.agg #[.i r0_0, .int .u8 r0_1, .int .u8 r0_2, r0_3.v]] w R :=
  calls_of_WP' (R := R) (fn := Tryz.f10) (c := C0) (args := [.agg #[.i r0_0, .int .u8 r0_1, .int .u8 r0_2, r0_3.v]]) (by kernel_rfl) (by kernel_rfl) (by kernel_rfl) (sr C0 (show (fun (E : Env) (w : World) => srK Tryz.prog C0 (fun E w => srK Tryz.prog C2 (fun E w => condK (Env.val E (.tmp 4)) (srK Tryz.prog C4 (fun E w => retVC Tryz.prog Tryz.f10 E w (fun v => R (.returned v) w)) E w) (srK Tryz.prog C6 (fun E w => condK (Env.val E (.tmp 7)) (srK Tryz.prog C8 (fun E w => retVC Tryz.prog Tryz.f10 E w (fun v => R (.returned v) w)) E w) (srK Tryz.prog C9 (fun E w => retVC Tryz.prog Tryz.f10 E w (fun v => R (.returned v) w)) E w)) E w)) E w) E w) (envOf 0 [.agg #[.i r0_0, .int .u8 r0_1, .int .u8 r0_2, r0_3.v]]) w from mp h) fun _ _ hK => (sq C1 (sr C2 hK fun _ _ hK => (cn C3 hK (fun hK => (sr C4 hK fun _ _ hK => (rt C10 fun a hA => retVC_sound hA hK))) (fun hK => (sk C11 fun a hA => nx hA (sq C5 (sr C6 hK fun _ _ hK => (cn C7 hK (fun hK => (sr C8 hK fun _ _ hK => (rt C12 fun a hA => retVC_sound hA hK))) (fun hK => (sk C13 fun a hA => nx hA (sr C9 hK fun _ _ hK => (rt C14 fun a hA => retVC_sound hA hK)))))))))))))
theorem okT (r0_0 r0_1 r0_2 : Int) (r0_3 : Sl) (w : World) (R : Post) (h : newV [] w fun b1 w1 => 
  cf1 [b1] n_regex_tooLarge #[.agg #[.i r0_0, .int .u8 r0_1, .int .u8 r0_2, r0_3.v]] w1 fun t4 w2 => sel t4 (R (.returned (.i 4)) w2) (cf1 [b1] n_regex_proper #[.agg #[.i r0_0, .int .u8 r0_1, .int .u8 r0_2, r0_3.v]] w2 fun t6 w3 => sel (!t6) (R (.returned (.i 1)) w3) (R (.returned (.i 0)) w3))) : Calls Tryz.prog n_regex_Valid #[.agg #[.i r0_0, .int .u8 r0_1, .int .u8 r0_2, r0_3.v]] w R :=
  ok _ _ _ _ w R (LC.nwT (LC.nil _) (Fr.refl _ _) h fun w1 H h => ⟨_, _, _, r0_3, H.ld 0 0, H.ld 0 1, H.ld 0 2, H.ld 0 3, LC.callT H h fun r_ w2 H h => let ⟨t4, hr, h⟩ := h; ⟨t4, hr, sel_imp h (fun h => h) (fun h => ⟨_, _, _, r0_3, H.ld 0 0, H.ld 0 1, H.ld 0 2, H.ld 0 3, LC.callT H h fun r_ w3 H h => let ⟨t6, hr, h⟩ := h; ⟨t6, hr, sel_imp h (fun h => h) (fun h => h)⟩⟩)⟩⟩)
end regex_Valid
namespace regex_clone
noncomputable def C0 : Code := (Tryz.f43.body).getD .skip
noncomputable def C1:=C0.sn
noncomputable def C2:=C1.sn
noncomputable def C3:=C2.fs
noncomputable def C4:=C3.sn
noncomputable def C5:=C4.fs
noncomputable def C6:=C5.fs
noncomputable def C7:=C2.sn
abbrev Q0 (R : Post) : ExP := (Exit.then (wpx Tryz.prog (cx 27) C7 (bodyPost Tryz.prog Tryz.f43 R)) (bodyPost Tryz.prog Tryz.f43 R))
abbrev Q1 (R : Post) : ExP := (Exit.inBlock 0 (Q0 R))
/-- the head of the loop, regex.go:95 -/
def L0 (r1 t2 : Addr) (kids3 t7 : Sl) (t8 t9 : Int) (w : World) (R : Post) : Prop := LP Tryz.prog (cx 27) C6 (Q1 R) [(1, .pointer (some r1)), (2, .pointer (some t2)), (3, kids3.v), (7, t7.v), (8, .i t8), (9, .i t9)] w
def KE_L0 (E : Env) (w : World) (R : Post) : Prop := W.asRef (Env.get? E 1) fun r1 => W.asRef (Env.get? E 2) fun t2 => W.asSlice (Env.get? E 3) fun kids3 => W.asSlice (Env.get? E 7) fun t7 => W.asInt .i64 (Env.get? E 8) fun t8 => W.asInt .i64 (Env.get? E 9) fun t9 => L0 r1 t2 kids3 t7 t8 t9 w R
theorem KE_L0_ok : LOk Tryz.prog 27 KE_L0 C6 Q1 := by
  intro R E w h
  obtain ⟨r1, hq1, h_1⟩ := W.asRef_elim h
  obtain ⟨t2, hq2, h_2⟩ := W.asRef_elim h_1
  obtain ⟨kids3, hq3, h_3⟩ := W.asSlice_elim h_2
  obtain ⟨t7, hq7, h_4⟩ := W.asSlice_elim h_3
  obtain ⟨t8, hq8, h_5⟩ := W.asInt_elim h_4
  obtain ⟨t9, hq9, h_6⟩ := W.asInt_elim h_5
  intro a ha
  exact h_6 a (ha.cons hq1 (ha.cons hq2 (ha.cons hq3 (ha.cons hq7 (ha.cons hq8 (ha.cons hq9 ha.nil))))))
noncomputable def C8:=C6.sn
noncomputable def C9:=C8.sn
noncomputable def C10:=C9.fs
noncomputable def C11:=C10.fs
noncomputable def C12:=C11.sn
noncomputable def C13:=C9.sn
noncomputable def C14:=C8.fs
noncomputable def C15:=C14.fs
noncomputable def C16:=C14.sn
noncomputable def C17:=C7.sn
theorem L0_step (r1 t2 : Addr) (kids3 t7 : Sl) (t8 t9 : Int) (w : World) (R : Post) (h : sel (decide (t9 < t8)) ((0 : Int) ≤ t9 ∧ t9 < ((t7.n : Nat) : Int) ∧ optP t7.a fun t11_p => ld4_0 w (t11_p.add (Int.toNat t9 * 4)) fun t12_0 t12_1 t12_2 t12_3 => nwV w (.cells #[.i 0, .int .u8 0, .int .u8 0, .slice none 0 0] ty_regex_Regex) fun w3 => 
  stW4 w3 (nb w) (.i t12_0) (.int .u8 t12_1) (.int .u8 t12_2) (t12_3.v) fun w7 => ld4_0 w7 (nb w) fun t14_0 t14_1 t14_2 t14_3 => ca2 n_regex_clone #[.agg #[.i t14_0, .int .u8 t14_1, .int .u8 t14_2, t14_3.v]] w7 fun t15_0 t15_1 t15_2 t15_3 w8 => nwV w8 (.cells #[.i t15_0, .int .u8 t15_1, .int .u8 t15_2, t15_3.v] ty_regex_Regex) fun w9 => 
  ∃ (t17 : Sl) (w10 : World), Sem.run Tryz.prog (Builtin.append_ #[ty_sl_regex_Regex, ty_sl_regex_Regex] ty_sl_regex_Regex #[kids3.v, .slice (some (nb w8)) 1 1]) w9 = .ok (t17.v) w10 ∧ L0 r1 t2 t17 t7 t8 (IntKind.wrap .i64 (t9 + 1)) w10 R) (∃ t20 : Int, w.cell? (r1.add 0) = some (.i t20) ∧ 
  ∃ t22 : Int, w.cell? (r1.add 1) = some (.int .u8 t22) ∧ 
  ∃ t24 : Int, w.cell? (r1.add 2) = some (.int .u8 t24) ∧ 
  stW4 w t2 (.i t20) (.int .u8 t22) (.int .u8 t24) (kids3.v) fun w14 => ld4_0 w14 t2 fun r2_0 r2_1 r2_2 r2_3 => R (.returned (.agg #[.i r2_0, .int .u8 r2_1, .int .u8 r2_2, r2_3.v])) w14)) : L0 r1 t2 kids3 t7 t8 t9 w R :=
  LP.step (n := (cx 27)) (c := C6) (E := [(1, .pointer (some r1)), (2, .pointer (some t2)), (3, kids3.v), (7, t7.v), (8, .i t8), (9, .i t9)]) (w := w) (sr C6 (show (fun (E : Env) (w : World) => srK Tryz.prog C6 (fun E w => condK (Env.val E (.tmp 10)) (srK Tryz.prog C11 (fun E w => rgK Tryz.prog C12 (fun E w => rgK Tryz.prog C13 (fun E w => KE_L0 E w R) E w) E w) E w) (srK Tryz.prog C7 (fun E w => retVC Tryz.prog Tryz.f43 E w (fun v => R (.returned v) w)) E w)) E w) [(1, .pointer (some r1)), (2, .pointer (some t2)), (3, kids3.v), (7, t7.v), (8, .i t8), (9, .i t9)] w from mp h) fun _ _ hK => (sq C8 (cn C14 hK (fun hK => (sk C15 fun a hA => nx hA (sq C9 (bk C10 1 (by kernel_rfl) (sr C11 hK fun _ _ hK => (rg C12 (by kernel_rfl) hK fun _ _ a hA hK => nx hA (rg C13 (by kernel_rfl) hK fun _ _ a hA hK => KE_L0_ok R _ _ hK a hA))))))) (fun hK => (xt C16 0 (by kernel_rfl) fun a hA => nx hA (sr C7 hK fun _ _ hK => (rt C17 fun a hA => retVC_sound hA hK)))))))
/-- enthymeme/regex.clone -/
theorem ok (r0_0 r0_1 r0_2 : Int) (r0_3 : Sl) (w : World) (R : Post) (h : nwV w (.cells #[.i r0_0, .int .u8 r0_1, .int .u8 r0_2, r0_3.v] ty_regex_Regex) fun w1 => 
  nwV w1 (.cells #[.i 0, .int .u8 0, .int .u8 0, .slice none 0 0] ty_regex_Regex) fun w2 => 
  ∃ t7 : Sl, w2.cell? ((nb w).add 3) = some (t7.v) ∧ 
  L0 (nb w) (nb w1) ⟨none, 0, 0⟩ t7 ((t7.n : Nat) : Int) 0 w2 R) : Calls Tryz.prog n_regex_clone #[.agg #[.i r0_0, .int .u8 r0_1, .int .u8 r0_2, r0_3.v]] w R :=
  calls_of_WP' (R := R) (fn := Tryz.f43) (c := C0) (args := [.agg #[.i r0_0, .int .u8 r0_1, .int .u8 r0_2, r0_3.v]]) (by kernel_rfl) (by kernel_rfl) (by kernel_rfl) (sr C0 (show (fun (E : Env) (w : World) => srK Tryz.prog C0 (fun E w => srK Tryz.prog C1 (fun E w => srK Tryz.prog C3 (fun E w => KE_L0 E w R) E w) E w) E w) (envOf 0 [.agg #[.i r0_0, .int .u8 r0_1, .int .u8 r0_2, r0_3.v]]) w from mp h) fun _ _ hK => (sr C1 hK fun _ _ hK => (sq C2 (sr C3 hK fun _ _ hK => (bk C4 0 (by kernel_rfl) (lp C5 (by kernel_rfl) (KE_L0_ok R _ _ hK)))))))
def L0T (r1 : Nat) (r1_0 r1_1 r1_2 : Int) (r1_3 : Sl) (t2 : Nat) (t2_0 t2_1 t2_2 : Int) (t2_3 kids3 t7 : Sl) (t8 t9 : Int) (w : World) (R : Post) : Prop := LC w [(r1, [.i r1_0, .int .u8 r1_1, .int .u8 r1_2, r1_3.v], ty_regex_Regex), (t2, [.i t2_0, .int .u8 t2_1, .int .u8 t2_2, t2_3.v], ty_regex_Regex)] → L0 (at0 r1) (at0 t2) kids3 t7 t8 t9 w R
theorem L0T_step (r1 : Nat) (r1_0 r1_1 r1_2 : Int) (r1_3 : Sl) (t2 : Nat) (t2_0 t2_1 t2_2 : Int) (t2_3 kids3 t7 : Sl) (t8 t9 : Int) (w : World) (R : Post) (h : sel (decide (t9 < t8)) ((0 : Int) ≤ t9 ∧ t9 < ((t7.n : Nat) : Int) ∧ optP t7.a fun t11_p => ld4_0 w (t11_p.add (Int.toNat t9 * 4)) fun t12_0 t12_1 t12_2 t12_3 => newV [r1, t2] w fun b5 w3 => 
  loc [r1, t2, b5] w3 fun w7 => cf2 [r1, t2, b5] n_regex_clone #[.agg #[.i t12_0, .int .u8 t12_1, .int .u8 t12_2, t12_3.v]] w7 fun t15_0 t15_1 t15_2 t15_3 w8 => nwV w8 (.cells #[.i t15_0, .int .u8 t15_1, .int .u8 t15_2, t15_3.v] ty_regex_Regex) fun w9 => 
  ∃ (t17 : Sl) (w10 : World), Sem.run Tryz.prog (Builtin.append_ #[ty_sl_regex_Regex, ty_sl_regex_Regex] ty_sl_regex_Regex #[kids3.v, .slice (some (nb w8)) 1 1]) w9 = .ok (t17.v) w10 ∧ kept [r1, t2, b5] w9 w10 ∧ L0T r1 r1_0 r1_1 r1_2 r1_3 t2 t2_0 t2_1 t2_2 t2_3 t17 t7 t8 (IntKind.wrap .i64 (t9 + 1)) w10 R) (loc [r1, t2] w fun w14 => R (.returned (.agg #[.i r1_0, .int .u8 r1_1, .int .u8 r1_2, kids3.v])) w14)) : L0T r1 r1_0 r1_1 r1_2 r1_3 t2 t2_0 t2_1 t2_2 t2_3 kids3 t7 t8 t9 w R := fun H => L0_step _ _ _ _ _ _ w R (sel_imp h (fun h => ⟨h.1, h.2.1, have h := h.2.2; optP_imp h fun t11_p h => let ⟨t12_0, t12_1, t12_2, t12_3, hc0, hc1, hc2, hc3, h⟩ := h; ⟨t12_0, t12_1, t12_2, t12_3, hc0, hc1, hc2, hc3, LC.nwT H (Fr.refl _ _) h fun w3 (H : LC w3 [(r1, [.i r1_0, .int .u8 r1_1, .int .u8 r1_2, r1_3.v], ty_regex_Regex), (t2, [.i t2_0, .int .u8 t2_1, .int .u8 t2_2, t2_3.v], ty_regex_Regex), (w.heap.size, [.i 0, .int .u8 0, .int .u8 0, .slice none 0 0], ty_regex_Regex)]) h => LC.stT0 H 2 (Fr.refl _ _) rfl rfl fun w4 H f => LC.stT H 2 1 f rfl rfl fun w5 H f => LC.stT H 2 2 f rfl rfl fun w6 H f => LC.stT H 2 3 f rfl rfl fun w7 (H : LC w7 [(r1, [.i r1_0, .int .u8 r1_1, .int .u8 r1_2, r1_3.v], ty_regex_Regex), (t2, [.i t2_0, .int .u8 t2_1, .int .u8 t2_2, t2_3.v], ty_regex_Regex), (w.heap.size, [.i t12_0, .int .u8 t12_1, .int .u8 t12_2, t12_3.v], ty_regex_Regex)]) (f : Fr (· ∈ [r1, t2, w.heap.size]) _ w7) => ⟨_, _, _, t12_3, H.ld 2 0, H.ld 2 1, H.ld 2 2, H.ld 2 3, have h := h _ f; LC.callT H h fun r_ w8 H h => let ⟨t15_0, t15_1, t15_2, t15_3, hr, h⟩ := h; ⟨t15_0, t15_1, t15_2, t15_3, hr, LC.nwN H h fun w9 H h => let ⟨t17, w10, he, hk, h⟩ := h; have H := LC.keptT H hk; ⟨t17, w10, he, h (H.pick [0, 1] (by decide))⟩⟩⟩⟩⟩) (fun h => ⟨_, H.ld 0 0, ⟨_, H.ld 0 1, ⟨_, H.ld 0 2, LC.stT0 H 1 (Fr.refl _ _) rfl rfl fun w11 H f => LC.stT H 1 1 f rfl rfl fun w12 H f => LC.stT H 1 2 f rfl rfl fun w13 H f => LC.stT H 1 3 f rfl rfl fun w14 (H : LC w14 [(r1, [.i r1_0, .int .u8 r1_1, .int .u8 r1_2, r1_3.v], ty_regex_Regex), (t2, [.i r1_0, .int .u8 r1_1, .int .u8 r1_2, kids3.v], ty_regex_Regex)]) (f : Fr (· ∈ [r1, t2]) _ w14) => ⟨_, _, _, kids3, H.ld 1 0, H.ld 1 1, H.ld 1 2, H.ld 1 3, have h := h _ f; h⟩⟩⟩⟩))
theorem okT (r0_0 r0_1 r0_2 : Int) (r0_3 : Sl) (w : World) (R : Post) (h : newV [] w fun b1 w1 => 
  newV [b1] w1 fun b2 w2 => 
  L0T b1 r0_0 r0_1 r0_2 r0_3 b2 0 0 0 ⟨none, 0, 0⟩ ⟨none, 0, 0⟩ r0_3 ((r0_3.n : Nat) : Int) 0 w2 R) : Calls Tryz.prog n_regex_clone #[.agg #[.i r0_0, .int .u8 r0_1, .int .u8 r0_2, r0_3.v]] w R :=
  ok _ _ _ _ w R (LC.nwT (LC.nil _) (Fr.refl _ _) h fun w1 H h => LC.nwT H (Fr.refl _ _) h fun w2 H h => ⟨r0_3, H.ld 0 3, h H⟩)
end regex_clone
namespace regex_limited
noncomputable def C0 : Code := (Tryz.f24.body).getD .skip
/-- enthymeme/regex.limited -/
noncomputable def C1:=C0.sn
noncomputable def C2:=C1.fs
noncomputable def C3:=C2.sn
noncomputable def C4:=C3.fs
noncomputable def C5:=C1.sn
noncomputable def C6:=C4.sn
noncomputable def C7:=C3.sn
noncomputable def C8:=C5.sn
theorem ok (r0_0 r0_1 r0_2 : Int) (r0_3 : Sl) (w : World) (R : Post) (h : nwV w (.cells #[.i r0_0, .int .u8 r0_1, .int .u8 r0_2, r0_3.v] ty_regex_Regex) fun w1 => 
  nwV w1 (.cells #[.i 0, .int .u8 0, .int .u8 0, .slice none 0 0] ty_regex_Regex) fun w2 => 
  ld4_0 w2 (nb w) fun t4_0 t4_1 t4_2 t4_3 => ca1 n_regex_tooLarge #[.agg #[.i t4_0, .int .u8 t4_1, .int .u8 t4_2, t4_3.v]] w2 fun t5 w3 => sel t5 (stW4 w3 (nb w1) (.i 0) (.int .u8 0) (.int .u8 0) (.slice none 0 0) fun w7 => ld4_0 w7 (nb w1) fun r2_0 r2_1 r2_2 r2_3 => R (.returned (.tuple #[.agg #[.i r2_0, .int .u8 r2_1, .int .u8 r2_2, r2_3.v], .i 4])) w7) (ld4_0 w3 (nb w) fun t7_0 t7_1 t7_2 t7_3 => ca2 n_regex_clone #[.agg #[.i t7_0, .int .u8 t7_1, .int .u8 t7_2, t7_3.v]] w3 fun t8_0 t8_1 t8_2 t8_3 w8 => stW4 w8 (nb w1) (.i t8_0) (.int .u8 t8_1) (.int .u8 t8_2) (t8_3.v) fun w12 => ld4_0 w12 (nb w1) fun r2_0 r2_1 r2_2 r2_3 => R (.returned (.tuple #[.agg #[.i r2_0, .int .u8 r2_1, .int .u8 r2_2, r2_3.v], .i 0])) w12)) : Calls Tryz.prog n_regex_limited #[.agg #[.i r0_0, .int .u8 r0_1, .int .u8 r0_2, r0_3.v]] w R :=
  calls_of_WP' (R := R) (fn := Tryz.f24) (c := C0) (args := [.agg #[.i r0_0, .int .u8 r0_1, .int .u8 r0_2, r0_3.v]]) (by kernel_rfl) (by kernel_rfl) (by kernel_rfl) (sr C0 (show (fun (E : Env) (w : World) => srK Tryz.prog C0 (fun E w => srK Tryz.prog C2 (fun E w => condK (Env.val E (.tmp 5)) (srK Tryz.prog C4 (fun E w => retVC Tryz.prog Tryz.f24 E w (fun v => R (.returned v) w)) E w) (srK Tryz.prog C5 (fun E w => retVC Tryz.prog Tryz.f24 E w (fun v => R (.returned v) w)) E w)) E w) E w) (envOf 0 [.agg #[.i r0_0, .int .u8 r0_1, .int .u8 r0_2, r0_3.v]]) w from mp h) fun _ _ hK => (sq C1 (sr C2 hK fun _ _ hK => (cn C3 hK (fun hK => (sr C4 hK fun _ _ hK => (rt C6 fun a hA => retVC_sound hA hK))) (fun hK => (sk C7 fun a hA => nx hA (sr C5 hK fun _ _ hK => (rt C8 fun a hA => retVC_sound hA hK))))))))
theorem okT (r0_0 r0_1 r0_2 : Int) (r0_3 : Sl) (w : World) (R : Post) (h : newV [] w fun b1 w1 => 
  newV [b1] w1 fun b2 w2 => 
  cf1 [b1, b2] n_regex_tooLarge #[.agg #[.i r0_0, .int .u8 r0_1, .int .u8 r0_2, r0_3.v]] w2 fun t5 w3 => sel t5 (loc [b1, b2] w3 fun w7 => R (.returned (.tuple #[.agg #[.i 0, .int .u8 0, .int .u8 0, .slice none 0 0], .i 4])) w7) (cf2 [b1, b2] n_regex_clone #[.agg #[.i r0_0, .int .u8 r0_1, .int .u8 r0_2, r0_3.v]] w3 fun t8_0 t8_1 t8_2 t8_3 w8 => loc [b1, b2] w8 fun w12 => R (.returned (.tuple #[.agg #[.i t8_0, .int .u8 t8_1, .int .u8 t8_2, t8_3.v], .i 0])) w12)) : Calls Tryz.prog n_regex_limited #[.agg #[.i r0_0, .int .u8 r0_1, .int .u8 r0_2, r0_3.v]] w R :=
  ok _ _ _ _ w R (LC.nwT (LC.nil _) (Fr.refl _ _) h fun w1 H h => LC.nwT H (Fr.refl _ _) h fun w2 H h => ⟨_, _, _, r0_3, H.ld 0 0, H.ld 0 1, H.ld 0 2, H.ld 0 3, LC.callT H h fun r_ w3 H h => let ⟨t5, hr, h⟩ := h; ⟨t5, hr, sel_imp h (fun h => LC.stT0 H 1 (Fr.refl _ _) rfl rfl fun w4 H f => LC.stT H 1 1 f rfl rfl fun w5 H f => LC.stT H 1 2 f rfl rfl fun w6 H f => LC.stT H 1 3 f rfl rfl fun w7 (H : LC w7 [(w.heap.size, [.i r0_0, .int .u8 r0_1, .int .u8 r0_2, r0_3.v], ty_regex_Regex), (w1.heap.size, [.i 0, .int .u8 0, .int .u8 0, .slice none 0 0], ty_regex_Regex)]) (f : Fr (· ∈ [w.heap.size, w1.heap.size]) _ w7) => ⟨_, _, _, ⟨none, 0, 0⟩, H.ld 1 0, H.ld 1 1, H.ld 1 2, H.ld 1 3, have h := h _ f; h⟩) (fun h => ⟨_, _, _, r0_3, H.ld 0 0, H.ld 0 1, H.ld 0 2, H.ld 0 3, LC.callT H h fun r_ w8 H h => let ⟨t8_0, t8_1, t8_2, t8_3, hr, h⟩ := h; ⟨t8_0, t8_1, t8_2, t8_3, hr, LC.stT0 H 1 (Fr.refl _ _) rfl rfl fun w9 H f => LC.stT H 1 1 f rfl rfl fun w10 H f => LC.stT H 1 2 f rfl rfl fun w11 H f => LC.stT H 1 3 f rfl rfl fun w12 (H : LC w12 [(w.heap.size, [.i r0_0, .int .u8 r0_1, .int .u8 r0_2, r0_3.v], ty_regex_Regex), (w1.heap.size, [.i t8_0, .int .u8 t8_1, .int .u8 t8_2, t8_3.v], ty_regex_Regex)]) (f : Fr (· ∈ [w.heap.size, w1.heap.size]) _ w12) => ⟨_, _, _, t8_3, H.ld 1 0, H.ld 1 1, H.ld 1 2, H.ld 1 3, have h := h _ f; h⟩⟩⟩)⟩⟩)
end regex_limited
namespace regex_nullable
noncomputable def C0 : Code := (Tryz.f41.body).getD .skip
noncomputable def C1:=C0.sn
noncomputable def C2:=C1.fs
noncomputable def C3:=C2.sn
noncomputable def C4:=C3.fs
noncomputable def C5:=C4.sn
noncomputable def C6:=C5.fs
noncomputable def C7:=C1.sn
abbrev Q0 (R : Post) : ExP := (Exit.then (wpx Tryz.prog (cx 37) C7 (bodyPost Tryz.prog Tryz.f41 R)) (bodyPost Tryz.prog Tryz.f41 R))
abbrev Q1 (R : Post) : ExP := (Exit.inBlock 0 (Q0 R))
noncomputable def C8:=C6.sn
/-- regex.go:193 -/
abbrev S0  (w : World) (R : Post) : Prop :=
  R (.returned (.bool true)) w
def KE_S0 (E : Env) (w : World) (R : Post) : Prop := S0  w R
theorem KE_S0_ok : KOk Tryz.prog 37 KE_S0 C6 Q1 := by
  intro R E w h
  exact fun a ha => WP.at (E := []) (sr C6 (K := fun E w => retVC Tryz.prog Tryz.f41 E w (fun v => R (.returned v) w)) (mp h) fun _ _ hK => (rt C8 fun a hA => retVC_sound hA hK)) ha.nil
noncomputable def C9:=C5.sn
noncomputable def C10:=C9.sn
noncomputable def C11:=C10.fs
noncomputable def C12:=C11.fs
noncomputable def C13:=C12.sn
noncomputable def C14:=C13.fs
noncomputable def C15:=C14.fs
noncomputable def C16:=C11.sn
abbrev Q2 (R : Post) : ExP := (Exit.then (wpx Tryz.prog (cx 37) C16 (Exit.inBlock 0 (Q0 R))) (Exit.inBlock 0 (Q0 R)))
abbrev Q3 (R : Post) : ExP := (Exit.inBlock 1 (Q2 R))
/-- the head of the loop, regex.go:195 -/
def L3 (t14 : Sl) (t15 t16 : Int) (w : World) (R : Post) : Prop := LP Tryz.prog (cx 37) C15 (Q3 R) [(14, t14.v), (15, .i t15), (16, .i t16)] w
def KE_L3 (E : Env) (w : World) (R : Post) : Prop := W.asSlice (Env.get? E 14) fun t14 => W.asInt .i64 (Env.get? E 15) fun t15 => W.asInt .i64 (Env.get? E 16) fun t16 => L3 t14 t15 t16 w R
theorem KE_L3_ok : LOk Tryz.prog 37 KE_L3 C15 Q3 := by
  intro R E w h
  obtain ⟨t14, hq14, h_1⟩ := W.asSlice_elim h
  obtain ⟨t15, hq15, h_2⟩ := W.asInt_elim h_1
  obtain ⟨t16, hq16, h_3⟩ := W.asInt_elim h_2
  intro a ha
  exact h_3 a (ha.cons hq14 (ha.cons hq15 (ha.cons hq16 ha.nil)))
noncomputable def C17:=C15.sn
noncomputable def C18:=C17.sn
noncomputable def C19:=C18.fs
noncomputable def C20:=C19.fs
noncomputable def C21:=C20.sn
noncomputable def C22:=C21.sn
noncomputable def C23:=C22.fs
noncomputable def C24:=C18.sn
noncomputable def C25:=C17.fs
noncomputable def C26:=C25.fs
noncomputable def C27:=C23.sn
noncomputable def C28:=C22.sn
noncomputable def C29:=C25.sn
noncomputable def C30:=C16.sn
theorem L3_step (t14 : Sl) (t15 t16 : Int) (w : World) (R : Post) (h : sel (decide (t16 < t15)) ((0 : Int) ≤ t16 ∧ t16 < ((t14.n : Nat) : Int) ∧ optP t14.a fun t18_p => ld4_0 w (t18_p.add (Int.toNat t16 * 4)) fun t19_0 t19_1 t19_2 t19_3 => nwV w (.cells #[.i 0, .int .u8 0, .int .u8 0, .slice none 0 0] ty_regex_Regex) fun w1 => 
  stW4 w1 (nb w) (.i t19_0) (.int .u8 t19_1) (.int .u8 t19_2) (t19_3.v) fun w5 => ld4_0 w5 (nb w) fun t20_0 t20_1 t20_2 t20_3 => ca1 n_regex_nullable #[.agg #[.i t20_0, .int .u8 t20_1, .int .u8 t20_2, t20_3.v]] w5 fun t21 w6 => sel (!t21) (R (.returned (.bool false)) w6) (L3 t14 t15 (IntKind.wrap .i64 (t16 + 1)) w6 R)) (R (.returned (.bool true)) w)) : L3 t14 t15 t16 w R :=
  LP.step (n := (cx 37)) (c := C15) (E := [(14, t14.v), (15, .i t15), (16, .i t16)]) (w := w) (sr C15 (show (fun (E : Env) (w : World) => srK Tryz.prog C15 (fun E w => condK (Env.val E (.tmp 17)) (srK Tryz.prog C20 (fun E w => srK Tryz.prog C21 (fun E w => condK (Env.val E (.tmp 22)) (srK Tryz.prog C23 (fun E w => retVC Tryz.prog Tryz.f41 E w (fun v => R (.returned v) w)) E w) (rgK Tryz.prog C24 (fun E w => KE_L3 E w R) E w)) E w) E w) (srK Tryz.prog C16 (fun E w => retVC Tryz.prog Tryz.f41 E w (fun v => R (.returned v) w)) E w)) E w) [(14, t14.v), (15, .i t15), (16, .i t16)] w from mp h) fun _ _ hK => (sq C17 (cn C25 hK (fun hK => (sk C26 fun a hA => nx hA (sq C18 (bk C19 2 (by kernel_rfl) (sr C20 hK fun _ _ hK => (sr C21 hK fun _ _ hK => (cn C22 hK (fun hK => (sr C23 hK fun _ _ hK => (rt C27 fun a hA => retVC_sound hA hK))) (fun hK => (sk C28 fun a hA => nx hA (rg C24 (by kernel_rfl) hK fun _ _ a hA hK => KE_L3_ok R _ _ hK a hA)))))))))) (fun hK => (xt C29 1 (by kernel_rfl) fun a hA => nx hA (sr C16 hK fun _ _ hK => (rt C30 fun a hA => retVC_sound hA hK)))))))
/-- regex.go:195 -/
abbrev S2 (r1 : Addr) (w : World) (R : Post) : Prop :=
  ∃ t14 : Sl, w.cell? (r1.add 3) = some (t14.v) ∧ 
  L3 t14 ((t14.n : Nat) : Int) 0 w R
def KE_S2 (E : Env) (w : World) (R : Post) : Prop := W.asRef (Env.get? E 1) fun r1 => S2 r1 w R
theorem KE_S2_ok : KOk Tryz.prog 37 KE_S2 C12 Q2 := by
  intro R E w h
  obtain ⟨r1, hq1, h_1⟩ := W.asRef_elim h
  exact fun a ha => WP.at (E := [(1, .pointer (some r1))]) (sr C12 (K := fun E w => KE_L3 E w R) (mp h_1) fun _ _ hK => (bk C13 1 (by kernel_rfl) (lp C14 (by kernel_rfl) (KE_L3_ok R _ _ hK)))) (ha.cons hq1 ha.nil)
noncomputable def C31:=C10.sn
noncomputable def C32:=C31.sn
noncomputable def C33:=C32.fs
noncomputable def C34:=C32.sn
noncomputable def C35:=C34.sn
noncomputable def C36:=C35.fs
noncomputable def C37:=C33.sn
noncomputable def C38:=C36.sn
noncomputable def C39:=C35.sn
noncomputable def C40:=C7.sn
/-- regex.go:201 -/
abbrev S4 (r1 : Addr) (t6 : Int) (w : World) (R : Post) : Prop :=
  sel (t6 == 4) (∃ t27 : Sl, w.cell? (r1.add 3) = some (t27.v) ∧ 
  ca1 n_slices_ContainsFunc_sl_regex_Regex_regex_Regex #[t27.v, .func (.func n_regex_nullable) #[] #[]] w fun t28 w1 => R (.returned (.bool t28)) w1) (sel (t6 == 6) (∃ t32 : Sl, w.cell? (r1.add 3) = some (t32.v) ∧ 
  (0 : Int) ≤ 0 ∧ 0 < ((t32.n : Nat) : Int) ∧ optP t32.a fun t33_p => ld4_0 w (t33_p.add (Int.toNat 0 * 4)) fun t34_0 t34_1 t34_2 t34_3 => ca1 n_regex_nullable #[.agg #[.i t34_0, .int .u8 t34_1, .int .u8 t34_2, t34_3.v]] w fun t35 w2 => R (.returned (.bool (!t35))) w2) (R (.returned (.bool false)) w))
def KE_S4 (E : Env) (w : World) (R : Post) : Prop := W.asRef (Env.get? E 1) fun r1 => W.asInt .i64 (Env.get? E 6) fun t6 => S4 r1 t6 w R
theorem KE_S4_ok : KOk Tryz.prog 37 KE_S4 C31 Q1 := by
  intro R E w h
  obtain ⟨r1, hq1, h_1⟩ := W.asRef_elim h
  obtain ⟨t6, hq6, h_2⟩ := W.asInt_elim h_1
  exact fun a ha => WP.at (E := [(1, .pointer (some r1)), (6, .i t6)]) (sr C31 (K := fun E w => condK (Env.val E (.tmp 24)) (srK Tryz.prog C33 (fun E w => retVC Tryz.prog Tryz.f41 E w (fun v => R (.returned v) w)) E w) (srK Tryz.prog C34 (fun E w => condK (Env.val E (.tmp 29)) (srK Tryz.prog C36 (fun E w => retVC Tryz.prog Tryz.f41 E w (fun v => R (.returned v) w)) E w) (srK Tryz.prog C7 (fun E w => retVC Tryz.prog Tryz.f41 E w (fun v => R (.returned v) w)) E w)) E w)) (mp h_2) fun _ _ hK => (cn C32 hK (fun hK => (sr C33 hK fun _ _ hK => (rt C37 fun a hA => retVC_sound hA hK))) (fun hK => (sr C34 hK fun _ _ hK => (cn C35 hK (fun hK => (sr C36 hK fun _ _ hK => (rt C38 fun a hA => retVC_sound hA hK))) (fun hK => (sk C39 fun a hA => nx hA (sr C7 hK fun _ _ hK => (rt C40 fun a hA => retVC_sound hA hK))))))))) (ha.cons hq1 (ha.cons hq6 ha.nil))
noncomputable def C41:=C9.fs
abbrev Q4 (R : Post) : ExP := (Exit.then (wpx Tryz.prog (cx 37) C10 (Exit.inBlock 0 (Q0 R))) (Exit.inBlock 0 (Q0 R)))
noncomputable def C42:=C41.sn
noncomputable def C43:=C42.sn
noncomputable def C44:=C42.fs
/-- regex.go:194 -/
abbrev S1 (r1 : Addr) (t6 : Int) (w : World) (R : Post) : Prop :=
  sel (t6 == 3) (sel (t6 == 3) (S2 r1 w R) (S4 r1 t6 w R)) (sel (t6 == 5) (S2 r1 w R) (S4 r1 t6 w R))
def KE_S1 (E : Env) (w : World) (R : Post) : Prop := W.asRef (Env.get? E 1) fun r1 => W.asInt .i64 (Env.get? E 6) fun t6 => S1 r1 t6 w R
theorem KE_S1_ok : KOk Tryz.prog 37 KE_S1 C41 Q4 := by
  intro R E w h
  obtain ⟨r1, hq1, h_1⟩ := W.asRef_elim h
  obtain ⟨t6, hq6, h_2⟩ := W.asInt_elim h_1
  exact fun a ha => WP.at (E := [(1, .pointer (some r1)), (6, .i t6)]) (sr C41 (K := fun E w => condK (Env.val E (.tmp 10)) (condK (Env.val E (.tmp 10)) (KE_S2 E w R) (KE_S4 E w R)) (rgK Tryz.prog C43 (fun E w => condK (Env.val E (.tmp 10)) (KE_S2 E w R) (KE_S4 E w R)) E w)) (mp h_2) fun _ _ hK => (cn C42 hK (fun hK => (sk C44 fun a hA => nx hA (cn C10 hK (fun hK => (sq C11 (KE_S2_ok R _ _ hK))) (fun hK => (KE_S4_ok R _ _ hK))))) (fun hK => (rg C43 (by kernel_rfl) hK fun _ _ a hA hK => nx hA (cn C10 hK (fun hK => (sq C11 (KE_S2_ok R _ _ hK))) (fun hK => (KE_S4_ok R _ _ hK))))))) (ha.cons hq1 (ha.cons hq6 ha.nil))
/-- enthymeme/regex.nullable -/
noncomputable def C45:=C4.fs
noncomputable def C46:=C45.sn
noncomputable def C47:=C46.sn
noncomputable def C48:=C46.fs
theorem ok (r0_0 r0_1 r0_2 : Int) (r0_3 : Sl) (w : World) (R : Post) (h : nwV w (.cells #[.i r0_0, .int .u8 r0_1, .int .u8 r0_2, r0_3.v] ty_regex_Regex) fun w1 => 
  ∃ t6 : Int, w1.cell? ((nb w).add 0) = some (.i t6) ∧ 
  sel (t6 == 1) (sel (t6 == 1) (S0  w1 R) (S1 (nb w) t6 w1 R)) (sel (t6 == 7) (S0  w1 R) (S1 (nb w) t6 w1 R))) : Calls Tryz.prog n_regex_nullable #[.agg #[.i r0_0, .int .u8 r0_1, .int .u8 r0_2, r0_3.v]] w R :=
  calls_of_WP' (R := R) (fn := Tryz.f41) (c := C0) (args := [.agg #[.i r0_0, .int .u8 r0_1, .int .u8 r0_2, r0_3.v]]) (by kernel_rfl) (by kernel_rfl) (by kernel_rfl) (sr C0 (show (fun (E : Env) (w : World) => srK Tryz.prog C0 (fun E w => srK Tryz.prog C2 (fun E w => srK Tryz.prog C45 (fun E w => condK (Env.val E (.tmp 7)) (condK (Env.val E (.tmp 7)) (KE_S0 E w R) (KE_S1 E w R)) (rgK Tryz.prog C47 (fun E w => condK (Env.val E (.tmp 7)) (KE_S0 E w R) (KE_S1 E w R)) E w)) E w) E w) E w) (envOf 0 [.agg #[.i r0_0, .int .u8 r0_1, .int .u8 r0_2, r0_3.v]]) w from mp h) fun _ _ hK => (sq C1 (sr C2 hK fun _ _ hK => (bk C3 0 (by kernel_rfl) (sq C4 (sr C45 hK fun _ _ hK => (cn C46 hK (fun hK => (sk C48 fun a hA => nx hA (cn C5 hK (fun hK => (KE_S0_ok R _ _ hK)) (fun hK => (sq C9 (KE_S1_ok R _ _ hK)))))) (fun hK => (rg C47 (by kernel_rfl) hK fun _ _ a hA hK => nx hA (cn C5 hK (fun hK => (KE_S0_ok R _ _ hK)) (fun hK => (sq C9 (KE_S1_ok R _ _ hK)))))))))))))
abbrev S0T  (w : World) (R : Post) : Prop :=
  R (.returned (.bool true)) w
theorem S0T_ok  {w : World} {R : Post} (h : S0T  w R) (H : LC w []) : S0  w R := h
def L3T (t14 : Sl) (t15 t16 : Int) (w : World) (R : Post) : Prop := LC w [] → L3 t14 t15 t16 w R
theorem L3T_step (t14 : Sl) (t15 t16 : Int) (w : World) (R : Post) (h : sel (decide (t16 < t15)) ((0 : Int) ≤ t16 ∧ t16 < ((t14.n : Nat) : Int) ∧ optP t14.a fun t18_p => ld4_0 w (t18_p.add (Int.toNat t16 * 4)) fun t19_0 t19_1 t19_2 t19_3 => newV [] w fun b4 w1 => 
  loc [b4] w1 fun w5 => cf1 [b4] n_regex_nullable #[.agg #[.i t19_0, .int .u8 t19_1, .int .u8 t19_2, t19_3.v]] w5 fun t21 w6 => sel (!t21) (R (.returned (.bool false)) w6) (L3T t14 t15 (IntKind.wrap .i64 (t16 + 1)) w6 R)) (R (.returned (.bool true)) w)) : L3T t14 t15 t16 w R := fun H => L3_step _ _ _ w R (sel_imp h (fun h => ⟨h.1, h.2.1, have h := h.2.2; optP_imp h fun t18_p h => let ⟨t19_0, t19_1, t19_2, t19_3, hc0, hc1, hc2, hc3, h⟩ := h; ⟨t19_0, t19_1, t19_2, t19_3, hc0, hc1, hc2, hc3, LC.nwT (LC.nil _) (Fr.refl _ _) h fun w1 H h => LC.stT0 H 0 (Fr.refl _ _) rfl rfl fun w2 H f => LC.stT H 0 1 f rfl rfl fun w3 H f => LC.stT H 0 2 f rfl rfl fun w4 H f => LC.stT H 0 3 f rfl rfl fun w5 (H : LC w5 [(w.heap.size, [.i t19_0, .int .u8 t19_1, .int .u8 t19_2, t19_3.v], ty_regex_Regex)]) (f : Fr (· ∈ [w.heap.size]) _ w5) => ⟨_, _, _, t19_3, H.ld 0 0, H.ld 0 1, H.ld 0 2, H.ld 0 3, have h := h _ f; LC.callT H h fun r_ w6 H h => let ⟨t21, hr, h⟩ := h; ⟨t21, hr, sel_imp h (fun h => h) (fun h => h (LC.nil _))⟩⟩⟩⟩) (fun h => h))
abbrev S2T (r1 : Nat) (r1_0 r1_1 r1_2 : Int) (r1_3 : Sl) (w : World) (R : Post) : Prop :=
  L3T r1_3 ((r1_3.n : Nat) : Int) 0 w R
theorem S2T_ok {r1 : Nat} {r1_0 r1_1 r1_2 : Int} {r1_3 : Sl} {w : World} {R : Post} (h : S2T r1 r1_0 r1_1 r1_2 r1_3 w R) (H : LC w [(r1, [.i r1_0, .int .u8 r1_1, .int .u8 r1_2, r1_3.v], ty_regex_Regex)]) : S2 (at0 r1) w R := ⟨r1_3, H.ld 0 3, h (LC.nil _)⟩
abbrev S4T (r1 : Nat) (r1_0 r1_1 r1_2 : Int) (r1_3 : Sl) (t6 : Int) (w : World) (R : Post) : Prop :=
  sel (t6 == 4) (cf1 [r1] n_slices_ContainsFunc_sl_regex_Regex_regex_Regex #[r1_3.v, .func (.func n_regex_nullable) #[] #[]] w fun t28 w1 => R (.returned (.bool t28)) w1) (sel (t6 == 6) ((0 : Int) ≤ 0 ∧ 0 < ((r1_3.n : Nat) : Int) ∧ optP r1_3.a fun t33_p => ld4_0 w (t33_p.add (Int.toNat 0 * 4)) fun t34_0 t34_1 t34_2 t34_3 => cf1 [r1] n_regex_nullable #[.agg #[.i t34_0, .int .u8 t34_1, .int .u8 t34_2, t34_3.v]] w fun t35 w2 => R (.returned (.bool (!t35))) w2) (R (.returned (.bool false)) w))
theorem S4T_ok {r1 : Nat} {r1_0 r1_1 r1_2 : Int} {r1_3 : Sl} {t6 : Int} {w : World} {R : Post} (h : S4T r1 r1_0 r1_1 r1_2 r1_3 t6 w R) (H : LC w [(r1, [.i r1_0, .int .u8 r1_1, .int .u8 r1_2, r1_3.v], ty_regex_Regex)]) : S4 (at0 r1) t6 w R := sel_imp h (fun h => ⟨r1_3, H.ld 0 3, LC.callT H h fun r_ w1 H h => let ⟨t28, hr, h⟩ := h; ⟨t28, hr, h⟩⟩) (fun h => sel_imp h (fun h => ⟨r1_3, H.ld 0 3, ⟨h.1, h.2.1, have h := h.2.2; optP_imp h fun t33_p h => let ⟨t34_0, t34_1, t34_2, t34_3, hc0, hc1, hc2, hc3, h⟩ := h; ⟨t34_0, t34_1, t34_2, t34_3, hc0, hc1, hc2, hc3, LC.callT H h fun r_ w2 H h => let ⟨t35, hr, h⟩ := h; ⟨t35, hr, h⟩⟩⟩⟩) (fun h => h))
abbrev S1T (r1 : Nat) (r1_0 r1_1 r1_2 : Int) (r1_3 : Sl) (t6 : Int) (w : World) (R : Post) : Prop :=
  sel (t6 == 3) (sel (t6 == 3) (S2T r1 r1_0 r1_1 r1_2 r1_3 w R) (S4T r1 r1_0 r1_1 r1_2 r1_3 t6 w R)) (sel (t6 == 5) (S2T r1 r1_0 r1_1 r1_2 r1_3 w R) (S4T r1 r1_0 r1_1 r1_2 r1_3 t6 w R))
theorem S1T_ok {r1 : Nat} {r1_0 r1_1 r1_2 : Int} {r1_3 : Sl} {t6 : Int} {w : World} {R : Post} (h : S1T r1 r1_0 r1_1 r1_2 r1_3 t6 w R) (H : LC w [(r1, [.i r1_0, .int .u8 r1_1, .int .u8 r1_2, r1_3.v], ty_regex_Regex)]) : S1 (at0 r1) t6 w R := sel_imp h (fun h => sel_imp h (fun h => S2T_ok h H) (fun h => S4T_ok h H)) (fun h => sel_imp h (fun h => S2T_ok h H) (fun h => S4T_ok h H))
theorem okT (r0_0 r0_1 r0_2 : Int) (r0_3 : Sl) (w : World) (R : Post) (h : newV [] w fun b1 w1 => 
  sel (r0_0 == 1) (sel (r0_0 == 1) (S0T  w1 R) (S1T b1 r0_0 r0_1 r0_2 r0_3 r0_0 w1 R)) (sel (r0_0 == 7) (S0T  w1 R) (S1T b1 r0_0 r0_1 r0_2 r0_3 r0_0 w1 R))) : Calls Tryz.prog n_regex_nullable #[.agg #[.i r0_0, .int .u8 r0_1, .int .u8 r0_2, r0_3.v]] w R :=
  ok _ _ _ _ w R (LC.nwT (LC.nil _) (Fr.refl _ _) h fun w1 H h => ⟨_, H.ld 0 0, sel_imp h (fun h => sel_imp h (fun h => S0T_ok h (LC.nil _)) (fun h => S1T_ok h H)) (fun h => sel_imp h (fun h => S0T_ok h (LC.nil _)) (fun h => S1T_ok h H))⟩)
end regex_nullable
end Go.Proofs.YtknlbofiicflgaaGreat

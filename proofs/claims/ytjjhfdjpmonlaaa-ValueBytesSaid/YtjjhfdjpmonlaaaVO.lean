/- Printed by a program of ours (vcgen.py) from the dump: the conditions of the functions, and that they suffice. -/
import Derived.Test.YtjjhfdjpmonlaaaV
import Derived.Test.YtjjhfdjpmonlaaaY
set_option linter.unusedVariables false
set_option maxRecDepth 100000
set_option maxHeartbeats 2000000
namespace Go.Proofs.Ytjjhfdjpmonlaaa
open Go Go.W
namespace value_ValidSort
noncomputable def C0 : Code := (Try.f12.body).getD .skip
noncomputable def C1:=C0.sn
noncomputable def C2:=C1.sn
noncomputable def C3:=C2.sn
noncomputable def C4:=C3.fs
noncomputable def C5:=C4.sn
noncomputable def C6:=C5.fs
noncomputable def C7:=C3.sn
abbrev Q0 (R : Post) : Exit → Act → World → Prop := (Exit.then (wpx Try.prog (cx 46) C7 (bodyPost Try.prog Try.f12 R)) (bodyPost Try.prog Try.f12 R))
noncomputable def C8:=C6.sn
/-- value.go:42 -/
abbrev S1  (w : World) (R : Post) : Prop :=
  R (.returned (.i 9)) w
def KE_S1 (E : Env) (w : World) (R : Post) : Prop := S1  w R
theorem KE_S1_ok (R : Post) (E : Env) (w : World) (h : KE_S1 E w R) : WP Try.prog (cx 46) C6 (Q0 R) E w := by
  exact fun a ha => WP.at (E := []) (sr C6 (K := fun E w => retVC Try.prog Try.f12 E w (fun v => R (.returned v) w)) (Eq.mp (by kernel_rfl) h) fun _ _ hK => (rt C8 fun a hA => retVC_sound hA hK)) ha.nil
noncomputable def C9:=C7.fs
noncomputable def C10:=C9.sn
noncomputable def C11:=C10.fs
noncomputable def C12:=C7.sn
abbrev Q1 (R : Post) : Exit → Act → World → Prop := (Exit.then (wpx Try.prog (cx 46) C12 (bodyPost Try.prog Try.f12 R)) (bodyPost Try.prog Try.f12 R))
noncomputable def C13:=C11.sn
/-- value.go:45 -/
abbrev S2  (w : World) (R : Post) : Prop :=
  R (.returned (.i 9)) w
def KE_S2 (E : Env) (w : World) (R : Post) : Prop := S2  w R
theorem KE_S2_ok (R : Post) (E : Env) (w : World) (h : KE_S2 E w R) : WP Try.prog (cx 46) C11 (Q1 R) E w := by
  exact fun a ha => WP.at (E := []) (sr C11 (K := fun E w => retVC Try.prog Try.f12 E w (fun v => R (.returned v) w)) (Eq.mp (by kernel_rfl) h) fun _ _ hK => (rt C13 fun a hA => retVC_sound hA hK)) ha.nil
abbrev Q2 (R : Post) : Exit → Act → World → Prop := (bodyPost Try.prog Try.f12 R)
noncomputable def C14:=C12.sn
/-- value.go:47 -/
abbrev S3  (w : World) (R : Post) : Prop :=
  R (.returned (.i 0)) w
def KE_S3 (E : Env) (w : World) (R : Post) : Prop := S3  w R
theorem KE_S3_ok (R : Post) (E : Env) (w : World) (h : KE_S3 E w R) : WP Try.prog (cx 46) C12 (Q2 R) E w := by
  exact fun a ha => WP.at (E := []) (sr C12 (K := fun E w => retVC Try.prog Try.f12 E w (fun v => R (.returned v) w)) (Eq.mp (by kernel_rfl) h) fun _ _ hK => (rt C14 fun a hA => retVC_sound hA hK)) ha.nil
noncomputable def C15:=C5.sn
noncomputable def C16:=C10.sn
/-- value.go:41 -/
abbrev S0 (s1 : Addr) (least3 most4 : Int) (index5 : Bool) (w : World) (R : Post) : Prop :=
  ∃ t17 : Int, w.cell? (s1.add 1) = some (.i t17) ∧ 
  sel (decide (t17 < least3)) (S1  w R) (∃ t22 : Int, w.cell? (s1.add 1) = some (.i t22) ∧ 
  sel (decide (t22 > most4)) (S1  w R) (sel index5 (∃ t29 : Int, w.cell? (s1.add 2) = some (.i t29) ∧ 
  sel (decide (t29 < 1)) (S2  w R) (∃ t33 : Int, w.cell? (s1.add 2) = some (.i t33) ∧ 
  sel (decide (t33 > 16)) (S2  w R) (sel (!index5) (∃ t42 : Int, w.cell? (s1.add 2) = some (.i t42) ∧ 
  sel (t42 != 0) (S2  w R) (S3  w R)) (S3  w R)))) (sel (!index5) (∃ t42_x1 : Int, w.cell? (s1.add 2) = some (.i t42_x1) ∧ 
  sel (t42_x1 != 0) (S2  w R) (S3  w R)) (S3  w R))))
def KE_S0 (E : Env) (w : World) (R : Post) : Prop := asRef (Env.get? E 1) fun s1 => W.asInt .i64 (Env.get? E 3) fun least3 => W.asInt .i64 (Env.get? E 4) fun most4 => asBool' (Env.get? E 5) fun index5 => S0 s1 least3 most4 index5 w R
theorem KE_S0_ok (R : Post) (E : Env) (w : World) (h : KE_S0 E w R) : WP Try.prog (cx 46) C4 (Q0 R) E w := by
  obtain ⟨s1, hq1, h_1⟩ := asRef_elim h
  obtain ⟨least3, hq3, h_2⟩ := asInt_elim h_1
  obtain ⟨most4, hq4, h_3⟩ := asInt_elim h_2
  obtain ⟨index5, hq5, h_4⟩ := asBool_elim h_3
  exact fun a ha => WP.at (E := [(1, .pointer (some s1)), (3, .i least3), (4, .i most4), (5, .bool index5)]) (sr C4 (K := fun E w => condK (Env.val E (.tmp 25)) (KE_S1 E w R) (srK Try.prog C9 (fun E w => condK (Env.val E (.tmp 45)) (KE_S2 E w R) (KE_S3 E w R)) E w)) (Eq.mp (by kernel_rfl) h_4) fun _ _ hK => (cn C5 hK (fun hK => (KE_S1_ok R _ _ hK)) (fun hK => (sk C15 fun a hA => nx hA (sq C7 (sr C9 hK fun _ _ hK => (cn C10 hK (fun hK => (KE_S2_ok R _ _ hK)) (fun hK => (sk C16 fun a hA => nx hA (KE_S3_ok R _ _ hK)))))))))) (ha.cons hq1 (ha.cons hq3 (ha.cons hq4 (ha.cons hq5 ha.nil))))
/-- enthymeme/value.ValidSort -/
noncomputable def C17:=C2.fs
noncomputable def C18:=C17.sn
noncomputable def C19:=C18.fs
noncomputable def C20:=C19.sn
noncomputable def C21:=C20.sn
noncomputable def C22:=C21.sn
noncomputable def C23:=C22.fs
noncomputable def C24:=C22.sn
noncomputable def C25:=C24.sn
noncomputable def C26:=C25.fs
noncomputable def C27:=C25.sn
noncomputable def C28:=C27.sn
noncomputable def C29:=C28.fs
noncomputable def C30:=C28.sn
noncomputable def C31:=C20.fs
noncomputable def C32:=C30.sn
theorem ok (s0_0 s0_1 s0_2 : Int) (w : World) (R : Post) (h : nwV w (.cells #[.i s0_0, .i s0_1, .i s0_2] ty_api_Sort) fun w1 => 
  ∃ t7 : Int, w1.cell? ((nb w).add 0) = some (.i t7) ∧ 
  sel (t7 == 0) (S0 (nb w) 1 64 false w1 R) (sel (t7 == 1) (S0 (nb w) 0 64 false w1 R) (sel (t7 == 2) (S0 (nb w) 1 64 true w1 R) (sel (t7 == 3) (S0 (nb w) 0 64 true w1 R) (R (.returned (.i 9)) w1))))) : Calls Try.prog n_value_ValidSort #[.agg #[.i s0_0, .i s0_1, .i s0_2]] w R :=
  calls_of_WP' (R := R) (fn := Try.f12) (c := C0) (args := [.agg #[.i s0_0, .i s0_1, .i s0_2]]) (by kernel_rfl) (by kernel_rfl) (by kernel_rfl) (sr C0 (show (fun (E : Env) (w : World) => srK Try.prog C0 (fun E w => srK Try.prog C1 (fun E w => srK Try.prog C17 (fun E w => srK Try.prog C19 (fun E w => condK (Env.val E (.tmp 8)) (KE_S0 E w R) (srK Try.prog C21 (fun E w => condK (Env.val E (.tmp 10)) (rgK Try.prog C23 (fun E w => KE_S0 E w R) E w) (srK Try.prog C24 (fun E w => condK (Env.val E (.tmp 12)) (rgK Try.prog C26 (fun E w => KE_S0 E w R) E w) (srK Try.prog C27 (fun E w => condK (Env.val E (.tmp 14)) (rgK Try.prog C29 (fun E w => KE_S0 E w R) E w) (srK Try.prog C30 (fun E w => retVC Try.prog Try.f12 E w (fun v => R (.returned v) w)) E w)) E w)) E w)) E w)) E w) E w) E w) E w) (envOf 0 [.agg #[.i s0_0, .i s0_1, .i s0_2]]) w from Eq.mp (by kernel_rfl) h) fun _ _ hK => (sr C1 hK fun _ _ hK => (sq C2 (sr C17 hK fun _ _ hK => (bk C18 0 (by kernel_rfl) (sr C19 hK fun _ _ hK => (cn C20 hK (fun hK => (sk C31 fun a hA => nx hA (sq C3 (KE_S0_ok R _ _ hK)))) (fun hK => (sr C21 hK fun _ _ hK => (cn C22 hK (fun hK => (rg C23 (by kernel_rfl) hK fun _ _ a hA hK => nx hA (sq C3 (KE_S0_ok R _ _ hK)))) (fun hK => (sr C24 hK fun _ _ hK => (cn C25 hK (fun hK => (rg C26 (by kernel_rfl) hK fun _ _ a hA hK => nx hA (sq C3 (KE_S0_ok R _ _ hK)))) (fun hK => (sr C27 hK fun _ _ hK => (cn C28 hK (fun hK => (rg C29 (by kernel_rfl) hK fun _ _ a hA hK => nx hA (sq C3 (KE_S0_ok R _ _ hK)))) (fun hK => (sr C30 hK fun _ _ hK => (rt C32 fun a hA => retVC_sound hA hK)))))))))))))))))))
abbrev S1T  (w : World) (R : Post) : Prop :=
  R (.returned (.i 9)) w
theorem S1T_ok  {w : World} {R : Post} (h : S1T  w R) (H : LC w []) : S1  w R := h
abbrev S2T  (w : World) (R : Post) : Prop :=
  R (.returned (.i 9)) w
theorem S2T_ok  {w : World} {R : Post} (h : S2T  w R) (H : LC w []) : S2  w R := h
abbrev S3T  (w : World) (R : Post) : Prop :=
  R (.returned (.i 0)) w
theorem S3T_ok  {w : World} {R : Post} (h : S3T  w R) (H : LC w []) : S3  w R := h
abbrev S0T (s1 : Nat) (s1_0 s1_1 s1_2 least3 most4 : Int) (index5 : Bool) (w : World) (R : Post) : Prop :=
  sel (decide (s1_1 < least3)) (S1T  w R) (sel (decide (s1_1 > most4)) (S1T  w R) (sel index5 (sel (decide (s1_2 < 1)) (S2T  w R) (sel (decide (s1_2 > 16)) (S2T  w R) (sel (!index5) (sel (s1_2 != 0) (S2T  w R) (S3T  w R)) (S3T  w R)))) (sel (!index5) (sel (s1_2 != 0) (S2T  w R) (S3T  w R)) (S3T  w R))))
theorem S0T_ok {s1 : Nat} {s1_0 s1_1 s1_2 least3 most4 : Int} {index5 : Bool} {w : World} {R : Post} (h : S0T s1 s1_0 s1_1 s1_2 least3 most4 index5 w R) (H : LC w [(s1, [.i s1_0, .i s1_1, .i s1_2], ty_api_Sort)]) : S0 (at0 s1) least3 most4 index5 w R := ⟨_, H.ld 0 1, sel_imp h (fun h => S1T_ok h (LC.nil _)) (fun h => ⟨_, H.ld 0 1, sel_imp h (fun h => S1T_ok h (LC.nil _)) (fun h => sel_imp h (fun h => ⟨_, H.ld 0 2, sel_imp h (fun h => S2T_ok h (LC.nil _)) (fun h => ⟨_, H.ld 0 2, sel_imp h (fun h => S2T_ok h (LC.nil _)) (fun h => sel_imp h (fun h => ⟨_, H.ld 0 2, sel_imp h (fun h => S2T_ok h (LC.nil _)) (fun h => S3T_ok h (LC.nil _))⟩) (fun h => S3T_ok h (LC.nil _)))⟩)⟩) (fun h => sel_imp h (fun h => ⟨_, H.ld 0 2, sel_imp h (fun h => S2T_ok h (LC.nil _)) (fun h => S3T_ok h (LC.nil _))⟩) (fun h => S3T_ok h (LC.nil _))))⟩)⟩
theorem okT (s0_0 s0_1 s0_2 : Int) (w : World) (R : Post) (h : newV [] w fun b1 w1 => 
  sel (s0_0 == 0) (S0T b1 s0_0 s0_1 s0_2 1 64 false w1 R) (sel (s0_0 == 1) (S0T b1 s0_0 s0_1 s0_2 0 64 false w1 R) (sel (s0_0 == 2) (S0T b1 s0_0 s0_1 s0_2 1 64 true w1 R) (sel (s0_0 == 3) (S0T b1 s0_0 s0_1 s0_2 0 64 true w1 R) (R (.returned (.i 9)) w1))))) : Calls Try.prog n_value_ValidSort #[.agg #[.i s0_0, .i s0_1, .i s0_2]] w R :=
  ok _ _ _ w R (LC.nwT (LC.nil _) (Fr.refl _ _) h fun w1 H h => ⟨_, H.ld 0 0, sel_imp h (fun h => S0T_ok h H) (fun h => sel_imp h (fun h => S0T_ok h H) (fun h => sel_imp h (fun h => S0T_ok h H) (fun h => sel_imp h (fun h => S0T_ok h H) (fun h => h))))⟩)
end value_ValidSort
namespace value_below
noncomputable def C0 : Code := (Try.f41.body).getD .skip
/-- enthymeme/value.below -/
noncomputable def C1:=C0.sn
noncomputable def C2:=C1.sn
theorem ok (u0 n1 : Int) (w : World) (R : Post) (h : sel (n1 == 64) (R (.returned (.bool true)) w) (¬ n1 < 0 ∧ R (.returned (.bool (decide (u0 < (IntKind.wrap .u64 (1 * 2 ^ (min (Int.toNat n1) (IntKind.bits .u64)))))))) w)) : Calls Try.prog n_value_below #[.u u0, .i n1] w R :=
  calls_of_WP' (R := R) (fn := Try.f41) (c := C0) (args := [.u u0, .i n1]) (by kernel_rfl) (by kernel_rfl) (by kernel_rfl) (sr C0 (show (fun (E : Env) (w : World) => srK Try.prog C0 (fun E w => srK Try.prog C1 (fun E w => retVC Try.prog Try.f41 E w (fun v => R (.returned v) w)) E w) E w) (envOf 0 [.u u0, .i n1]) w from Eq.mp (by kernel_rfl) h) fun _ _ hK => (sr C1 hK fun _ _ hK => (rt C2 fun a hA => retVC_sound hA hK)))
end value_below
namespace value_isArray
noncomputable def C0 : Code := (Try.f49.body).getD .skip
/-- enthymeme/value.isArray -/
noncomputable def C1:=C0.sn
noncomputable def C2:=C1.sn
theorem ok (s0_0 s0_1 s0_2 : Int) (w : World) (R : Post) (h : nwV w (.cells #[.i s0_0, .i s0_1, .i s0_2] ty_api_Sort) fun w1 => 
  ∃ t4 : Int, w1.cell? ((nb w).add 0) = some (.i t4) ∧ 
  sel (t4 == 2) (R (.returned (.bool true)) w1) (∃ t8 : Int, w1.cell? ((nb w).add 0) = some (.i t8) ∧ 
  R (.returned (.bool (t8 == 3))) w1)) : Calls Try.prog n_value_isArray #[.agg #[.i s0_0, .i s0_1, .i s0_2]] w R :=
  calls_of_WP' (R := R) (fn := Try.f49) (c := C0) (args := [.agg #[.i s0_0, .i s0_1, .i s0_2]]) (by kernel_rfl) (by kernel_rfl) (by kernel_rfl) (sr C0 (show (fun (E : Env) (w : World) => srK Try.prog C0 (fun E w => srK Try.prog C1 (fun E w => retVC Try.prog Try.f49 E w (fun v => R (.returned v) w)) E w) E w) (envOf 0 [.agg #[.i s0_0, .i s0_1, .i s0_2]]) w from Eq.mp (by kernel_rfl) h) fun _ _ hK => (sr C1 hK fun _ _ hK => (rt C2 fun a hA => retVC_sound hA hK)))
theorem okT (s0_0 s0_1 s0_2 : Int) (w : World) (R : Post) (h : newV [] w fun b1 w1 => 
  sel (s0_0 == 2) (R (.returned (.bool true)) w1) (R (.returned (.bool (s0_0 == 3))) w1)) : Calls Try.prog n_value_isArray #[.agg #[.i s0_0, .i s0_1, .i s0_2]] w R :=
  ok _ _ _ w R (LC.nwT (LC.nil _) (Fr.refl _ _) h fun w1 H h => ⟨_, H.ld 0 0, sel_imp h (fun h => h) (fun h => ⟨_, H.ld 0 0, h⟩)⟩)
end value_isArray
namespace value_validMap
noncomputable def C0 : Code := (Try.f42.body).getD .skip
noncomputable def C1:=C0.sn
noncomputable def C2:=C1.fs
noncomputable def C3:=C2.sn
noncomputable def C4:=C3.fs
noncomputable def C5:=C4.fs
noncomputable def C6:=C1.sn
abbrev Q0 (R : Post) : Exit → Act → World → Prop := (Exit.then (wpx Try.prog (cx 75) C6 (bodyPost Try.prog Try.f42 R)) (bodyPost Try.prog Try.f42 R))
abbrev Q1 (R : Post) : Exit → Act → World → Prop := (Exit.inBlock 0 (Q0 R))
/-- the head of the loop, value.go:80 -/
def L0 (l1 : Sl) (s2 : Addr) (t7 : Sl) (t8 t9 : Int) (w : World) (R : Post) : Prop := LP Try.prog (cx 75) C5 (Q1 R) [(1, l1.v), (2, .pointer (some s2)), (7, t7.v), (8, .i t8), (9, .i t9)] w
def KE_L0 (E : Env) (w : World) (R : Post) : Prop := asSlice (Env.get? E 1) fun l1 => asRef (Env.get? E 2) fun s2 => asSlice (Env.get? E 7) fun t7 => W.asInt .i64 (Env.get? E 8) fun t8 => W.asInt .i64 (Env.get? E 9) fun t9 => L0 l1 s2 t7 t8 t9 w R
theorem KE_L0_ok (R : Post) (E : Env) (w : World) (h : KE_L0 E w R) : LP Try.prog (cx 75) C5 (Q1 R) E w := by
  obtain ⟨l1, hq1, h_1⟩ := asSlice_elim h
  obtain ⟨s2, hq2, h_2⟩ := asRef_elim h_1
  obtain ⟨t7, hq7, h_3⟩ := asSlice_elim h_2
  obtain ⟨t8, hq8, h_4⟩ := asInt_elim h_3
  obtain ⟨t9, hq9, h_5⟩ := asInt_elim h_4
  intro a ha
  exact h_5 a (ha.cons hq1 (ha.cons hq2 (ha.cons hq7 (ha.cons hq8 (ha.cons hq9 ha.nil)))))
noncomputable def C7:=C5.sn
noncomputable def C8:=C7.sn
noncomputable def C9:=C8.fs
noncomputable def C10:=C9.fs
noncomputable def C11:=C10.sn
noncomputable def C12:=C11.fs
noncomputable def C13:=C12.sn
noncomputable def C14:=C13.fs
noncomputable def C15:=C8.sn
abbrev Q2 (R : Post) : Exit → Act → World → Prop := (Exit.then (wpx Try.prog (cx 75) C15 (Exit.then (LoopWP Try.prog (cx 75) C5 (Q1 R)) (Q1 R))) (Exit.then (LoopWP Try.prog (cx 75) C5 (Q1 R)) (Q1 R)))
noncomputable def C16:=C11.sn
abbrev Q3 (R : Post) : Exit → Act → World → Prop := (Exit.then (wpx Try.prog (cx 75) C16 (Exit.inBlock 1 (Q2 R))) (Exit.inBlock 1 (Q2 R)))
noncomputable def C17:=C14.sn
/-- value.go:82 -/
abbrev S1  (w : World) (R : Post) : Prop :=
  R (.returned (.bool false)) w
def KE_S1 (E : Env) (w : World) (R : Post) : Prop := S1  w R
theorem KE_S1_ok (R : Post) (E : Env) (w : World) (h : KE_S1 E w R) : WP Try.prog (cx 75) C14 (Q3 R) E w := by
  exact fun a ha => WP.at (E := []) (sr C14 (K := fun E w => retVC Try.prog Try.f42 E w (fun v => R (.returned v) w)) (Eq.mp (by kernel_rfl) h) fun _ _ hK => (rt C17 fun a hA => retVC_sound hA hK)) ha.nil
noncomputable def C18:=C16.fs
noncomputable def C19:=C18.sn
noncomputable def C20:=C19.fs
noncomputable def C21:=C16.sn
abbrev Q4 (R : Post) : Exit → Act → World → Prop := (Exit.then (wpx Try.prog (cx 75) C21 (Exit.inBlock 1 (Q2 R))) (Exit.inBlock 1 (Q2 R)))
noncomputable def C22:=C20.sn
/-- value.go:85 -/
abbrev S3  (w : World) (R : Post) : Prop :=
  R (.returned (.bool false)) w
def KE_S3 (E : Env) (w : World) (R : Post) : Prop := S3  w R
theorem KE_S3_ok (R : Post) (E : Env) (w : World) (h : KE_S3 E w R) : WP Try.prog (cx 75) C20 (Q4 R) E w := by
  exact fun a ha => WP.at (E := []) (sr C20 (K := fun E w => retVC Try.prog Try.f42 E w (fun v => R (.returned v) w)) (Eq.mp (by kernel_rfl) h) fun _ _ hK => (rt C22 fun a hA => retVC_sound hA hK)) ha.nil
noncomputable def C23:=C21.sn
noncomputable def C24:=C23.fs
abbrev Q5 (R : Post) : Exit → Act → World → Prop := (Exit.inBlock 1 (Q2 R))
noncomputable def C25:=C24.sn
/-- value.go:88 -/
abbrev S5  (w : World) (R : Post) : Prop :=
  R (.returned (.bool false)) w
def KE_S5 (E : Env) (w : World) (R : Post) : Prop := S5  w R
theorem KE_S5_ok (R : Post) (E : Env) (w : World) (h : KE_S5 E w R) : WP Try.prog (cx 75) C24 (Q5 R) E w := by
  exact fun a ha => WP.at (E := []) (sr C24 (K := fun E w => retVC Try.prog Try.f42 E w (fun v => R (.returned v) w)) (Eq.mp (by kernel_rfl) h) fun _ _ hK => (rt C25 fun a hA => retVC_sound hA hK)) ha.nil
abbrev Q6 (R : Post) : Exit → Act → World → Prop := (Exit.then (LoopWP Try.prog (cx 75) C5 (Q1 R)) (Q1 R))
/-- value.go:80 -/
abbrev S6 (l1 : Sl) (s2 : Addr) (t7 : Sl) (t8 t9 : Int) (w : World) (R : Post) : Prop :=
  L0 l1 s2 t7 t8 (IntKind.wrap .i64 (t9 + 1)) w R
def KE_S6 (E : Env) (w : World) (R : Post) : Prop := asSlice (Env.get? E 1) fun l1 => asRef (Env.get? E 2) fun s2 => asSlice (Env.get? E 7) fun t7 => W.asInt .i64 (Env.get? E 8) fun t8 => W.asInt .i64 (Env.get? E 9) fun t9 => S6 l1 s2 t7 t8 t9 w R
theorem KE_S6_ok (R : Post) (E : Env) (w : World) (h : KE_S6 E w R) : WP Try.prog (cx 75) C15 (Q6 R) E w := by
  obtain ⟨l1, hq1, h_1⟩ := asSlice_elim h
  obtain ⟨s2, hq2, h_2⟩ := asRef_elim h_1
  obtain ⟨t7, hq7, h_3⟩ := asSlice_elim h_2
  obtain ⟨t8, hq8, h_4⟩ := asInt_elim h_3
  obtain ⟨t9, hq9, h_5⟩ := asInt_elim h_4
  exact fun a ha => WP.at (E := [(1, l1.v), (2, .pointer (some s2)), (7, t7.v), (8, .i t8), (9, .i t9)]) (rg C15 (K := fun E w => KE_L0 E w R) (by kernel_rfl) (Eq.mp (by kernel_rfl) h_5) fun _ _ a hA hK => KE_L0_ok R _ _ hK a hA) (ha.cons hq1 (ha.cons hq2 (ha.cons hq7 (ha.cons hq8 (ha.cons hq9 ha.nil)))))
noncomputable def C26:=C23.sn
/-- value.go:87 -/
abbrev S4 (l1 : Sl) (s2 x6 : Addr) (t7 : Sl) (t8 t9 : Int) (w : World) (R : Post) : Prop :=
  ∃ t59 : Int, w.cell? (s2.add 0) = some (.i t59) ∧ 
  sel (t59 == 3) (∃ t63 : Int, w.cell? (x6.add 1) = some (.u t63) ∧ 
  sel (t63 != 0) (S5  w R) (∃ t67 : ByteArray, w.cell? (x6.add 2) = some (.string t67) ∧ 
  ∃ t70 : Int, w.cell? (s2.add 1) = some (.i t70) ∧ 
  sel (decide (((t67.size : Nat) : Int) > t70)) (S5  w R) (S6 l1 s2 t7 t8 t9 w R))) (S6 l1 s2 t7 t8 t9 w R)
def KE_S4 (E : Env) (w : World) (R : Post) : Prop := asSlice (Env.get? E 1) fun l1 => asRef (Env.get? E 2) fun s2 => asRef (Env.get? E 6) fun x6 => asSlice (Env.get? E 7) fun t7 => W.asInt .i64 (Env.get? E 8) fun t8 => W.asInt .i64 (Env.get? E 9) fun t9 => S4 l1 s2 x6 t7 t8 t9 w R
theorem KE_S4_ok (R : Post) (E : Env) (w : World) (h : KE_S4 E w R) : WP Try.prog (cx 75) C21 (Q5 R) E w := by
  obtain ⟨l1, hq1, h_1⟩ := asSlice_elim h
  obtain ⟨s2, hq2, h_2⟩ := asRef_elim h_1
  obtain ⟨x6, hq6, h_3⟩ := asRef_elim h_2
  obtain ⟨t7, hq7, h_4⟩ := asSlice_elim h_3
  obtain ⟨t8, hq8, h_5⟩ := asInt_elim h_4
  obtain ⟨t9, hq9, h_6⟩ := asInt_elim h_5
  exact fun a ha => WP.at (E := [(1, l1.v), (2, .pointer (some s2)), (6, .pointer (some x6)), (7, t7.v), (8, .i t8), (9, .i t9)]) (sr C21 (K := fun E w => condK (Env.val E (.tmp 73)) (KE_S5 E w R) (KE_S6 E w R)) (Eq.mp (by kernel_rfl) h_6) fun _ _ hK => (cn C23 hK (fun hK => (KE_S5_ok R _ _ hK)) (fun hK => (sk C26 fun a hA => nx hA (KE_S6_ok R _ _ hK))))) (ha.cons hq1 (ha.cons hq2 (ha.cons hq6 (ha.cons hq7 (ha.cons hq8 (ha.cons hq9 ha.nil))))))
noncomputable def C27:=C19.sn
/-- value.go:84 -/
abbrev S2 (l1 : Sl) (s2 x6 : Addr) (t7 : Sl) (t8 t9 : Int) (w : World) (R : Post) : Prop :=
  ∃ t43 : Int, w.cell? (s2.add 0) = some (.i t43) ∧ 
  sel (t43 == 2) (∃ t47 : Int, w.cell? (x6.add 1) = some (.u t47) ∧ 
  ∃ t49 : Int, w.cell? (s2.add 1) = some (.i t49) ∧ 
  Calls Try.prog n_value_below #[.u t47, .i t49] w fun r_ w1 => ∃ t50 : Bool, r_ = .returned (.bool t50) ∧ 
  sel (!t50) (S3  w1 R) (∃ t54 : ByteArray, w1.cell? (x6.add 2) = some (.string t54) ∧ 
  sel (!(t54.toList == (ByteArray.mk #[]).toList)) (S3  w1 R) (S4 l1 s2 x6 t7 t8 t9 w1 R))) (S4 l1 s2 x6 t7 t8 t9 w R)
def KE_S2 (E : Env) (w : World) (R : Post) : Prop := asSlice (Env.get? E 1) fun l1 => asRef (Env.get? E 2) fun s2 => asRef (Env.get? E 6) fun x6 => asSlice (Env.get? E 7) fun t7 => W.asInt .i64 (Env.get? E 8) fun t8 => W.asInt .i64 (Env.get? E 9) fun t9 => S2 l1 s2 x6 t7 t8 t9 w R
theorem KE_S2_ok (R : Post) (E : Env) (w : World) (h : KE_S2 E w R) : WP Try.prog (cx 75) C18 (Q4 R) E w := by
  obtain ⟨l1, hq1, h_1⟩ := asSlice_elim h
  obtain ⟨s2, hq2, h_2⟩ := asRef_elim h_1
  obtain ⟨x6, hq6, h_3⟩ := asRef_elim h_2
  obtain ⟨t7, hq7, h_4⟩ := asSlice_elim h_3
  obtain ⟨t8, hq8, h_5⟩ := asInt_elim h_4
  obtain ⟨t9, hq9, h_6⟩ := asInt_elim h_5
  exact fun a ha => WP.at (E := [(1, l1.v), (2, .pointer (some s2)), (6, .pointer (some x6)), (7, t7.v), (8, .i t8), (9, .i t9)]) (sr C18 (K := fun E w => condK (Env.val E (.tmp 57)) (KE_S3 E w R) (KE_S4 E w R)) (Eq.mp (by kernel_rfl) h_6) fun _ _ hK => (cn C19 hK (fun hK => (KE_S3_ok R _ _ hK)) (fun hK => (sk C27 fun a hA => nx hA (KE_S4_ok R _ _ hK))))) (ha.cons hq1 (ha.cons hq2 (ha.cons hq6 (ha.cons hq7 (ha.cons hq8 (ha.cons hq9 ha.nil))))))
noncomputable def C28:=C7.fs
noncomputable def C29:=C28.fs
noncomputable def C30:=C13.sn
noncomputable def C31:=C28.sn
noncomputable def C32:=C6.sn
theorem L0_step (l1 : Sl) (s2 : Addr) (t7 : Sl) (t8 t9 : Int) (w : World) (R : Post) (h : sel (decide (t9 < t8)) ((0 : Int) ≤ t9 ∧ t9 < ((t7.n : Nat) : Int) ∧ optP t7.a fun t12_p => ∃ t13_0 : Int, ∃ t13_1 : Int, ∃ t13_2 : ByteArray, w.cell? ((t12_p.add (Int.toNat t9 * 3)).add 0) = some (.u t13_0) ∧ w.cell? ((t12_p.add (Int.toNat t9 * 3)).add 1) = some (.u t13_1) ∧ w.cell? ((t12_p.add (Int.toNat t9 * 3)).add 2) = some (.string t13_2) ∧ 
  nwV w (.cells #[.u 0, .u 0, .s0] ty_value_Entry) fun w2 => 
  stV w2 (nb w) (.u t13_0) fun w3 => 
  stV w3 ((nb w).add 1) (.u t13_1) fun w4 => 
  stV w4 ((nb w).add 2) (.string t13_2) fun w5 => 
  drV w5 fun w6 => sel (decide (t9 > 0)) (∃ t18 : Int, w6.cell? ((nb w).add 0) = some (.u t18) ∧ 
  (0 : Int) ≤ (IntKind.wrap .i64 (t9 - 1)) ∧ (IntKind.wrap .i64 (t9 - 1)) < ((l1.n : Nat) : Int) ∧ optP l1.a fun t22_p => ∃ t24 : Int, w6.cell? ((t22_p.add (Int.toNat (IntKind.wrap .i64 (t9 - 1)) * 3)).add 0) = some (.u t24) ∧ 
  sel (decide (t18 ≤ t24)) (S1  w6 R) (∃ t29 : Int, w6.cell? ((nb w).add 0) = some (.u t29) ∧ 
  ∃ t31 : Int, w6.cell? (s2.add 2) = some (.i t31) ∧ 
  Calls Try.prog n_value_below #[.u t29, .i t31] w6 fun r_ w7 => ∃ t32 : Bool, r_ = .returned (.bool t32) ∧ 
  w7.cell? ((t22_p.add (Int.toNat (IntKind.wrap .i64 (t9 - 1)) * 3)).add 0) = some (.u t24) ∧ w7.cell? ((nb w).add 0) = some (.u t18) ∧ sel (!t32) (S1  w7 R) (∃ t36_0 : Int, ∃ t36_1 : Int, ∃ t36_2 : ByteArray, w7.cell? ((nb w).add 0) = some (.u t36_0) ∧ w7.cell? ((nb w).add 1) = some (.u t36_1) ∧ w7.cell? ((nb w).add 2) = some (.string t36_2) ∧ 
  ∃ t38 : Int, w7.cell? ((nb w).add 0) = some (.u t38) ∧ 
  sel ((t36_0 == t38) && ((t36_1 == 0) && ((t36_2.toList == (ByteArray.mk #[]).toList) && true))) (S1  w7 R) (S2 l1 s2 (nb w) t7 t8 t9 w7 R)))) (∃ t29_x1 : Int, w6.cell? ((nb w).add 0) = some (.u t29_x1) ∧ 
  ∃ t31_x1 : Int, w6.cell? (s2.add 2) = some (.i t31_x1) ∧ 
  Calls Try.prog n_value_below #[.u t29_x1, .i t31_x1] w6 fun r_ w8 => ∃ t32_x1 : Bool, r_ = .returned (.bool t32_x1) ∧ 
  sel (!t32_x1) (S1  w8 R) (∃ t36_x1_0 : Int, ∃ t36_x1_1 : Int, ∃ t36_x1_2 : ByteArray, w8.cell? ((nb w).add 0) = some (.u t36_x1_0) ∧ w8.cell? ((nb w).add 1) = some (.u t36_x1_1) ∧ w8.cell? ((nb w).add 2) = some (.string t36_x1_2) ∧ 
  ∃ t38_x1 : Int, w8.cell? ((nb w).add 0) = some (.u t38_x1) ∧ 
  sel ((t36_x1_0 == t38_x1) && ((t36_x1_1 == 0) && ((t36_x1_2.toList == (ByteArray.mk #[]).toList) && true))) (S1  w8 R) (S2 l1 s2 (nb w) t7 t8 t9 w8 R)))) (R (.returned (.bool true)) w)) : L0 l1 s2 t7 t8 t9 w R :=
  LP.step (n := (cx 75)) (c := C5) (E := [(1, l1.v), (2, .pointer (some s2)), (7, t7.v), (8, .i t8), (9, .i t9)]) (w := w) (sr C5 (show (fun (E : Env) (w : World) => srK Try.prog C5 (fun E w => condK (Env.val E (.tmp 10)) (srK Try.prog C10 (fun E w => sdK Try.prog C12 [0, 1, 2, 3, 4, 5, 6, 7, 8, 9, 10, 11, 12, 13, 14, 15, 16, 17, 18, 19, 20, 21, 22, 23, 24, 25, 26, 27] (fun E w => condK (Env.val E (.tmp 41)) (KE_S1 E w R) (KE_S2 E w R)) E w) E w) (srK Try.prog C6 (fun E w => retVC Try.prog Try.f42 E w (fun v => R (.returned v) w)) E w)) E w) [(1, l1.v), (2, .pointer (some s2)), (7, t7.v), (8, .i t8), (9, .i t9)] w from Eq.mp (by kernel_rfl) h) fun _ _ hK => (sq C7 (cn C28 hK (fun hK => (sk C29 fun a hA => nx hA (sq C8 (bk C9 1 (by kernel_rfl) (sr C10 hK fun _ _ hK => (sq C11 (sd C12 (by kernel_rfl) hK fun _ _ hK => (cn C13 hK (fun hK => (KE_S1_ok R _ _ hK)) (fun hK => (sk C30 fun a hA => nx hA (sq C16 (KE_S2_ok R _ _ hK)))))))))))) (fun hK => (xt C31 0 (by kernel_rfl) fun a hA => nx hA (sr C6 hK fun _ _ hK => (rt C32 fun a hA => retVC_sound hA hK)))))))
/-- enthymeme/value.validMap -/
theorem ok (s0_0 s0_1 s0_2 : Int) (l1 : Sl) (w : World) (R : Post) (h : nwV w (.cells #[.i s0_0, .i s0_1, .i s0_2] ty_api_Sort) fun w1 => 
  L0 l1 (nb w) l1 ((l1.n : Nat) : Int) 0 w1 R) : Calls Try.prog n_value_validMap #[.agg #[.i s0_0, .i s0_1, .i s0_2], l1.v] w R :=
  calls_of_WP' (R := R) (fn := Try.f42) (c := C0) (args := [.agg #[.i s0_0, .i s0_1, .i s0_2], l1.v]) (by kernel_rfl) (by kernel_rfl) (by kernel_rfl) (sr C0 (show (fun (E : Env) (w : World) => srK Try.prog C0 (fun E w => srK Try.prog C2 (fun E w => KE_L0 E w R) E w) E w) (envOf 0 [.agg #[.i s0_0, .i s0_1, .i s0_2], l1.v]) w from Eq.mp (by kernel_rfl) h) fun _ _ hK => (sq C1 (sr C2 hK fun _ _ hK => (bk C3 0 (by kernel_rfl) (lp C4 (by kernel_rfl) (KE_L0_ok R _ _ hK))))))
def L0T (l1 : Sl) (s2 : Nat) (s2_0 s2_1 s2_2 : Int) (t7 : Sl) (t8 t9 : Int) (w : World) (R : Post) : Prop := LC w [(s2, [.i s2_0, .i s2_1, .i s2_2], ty_api_Sort)] → L0 l1 (at0 s2) t7 t8 t9 w R
abbrev S1T  (w : World) (R : Post) : Prop :=
  R (.returned (.bool false)) w
theorem S1T_ok  {w : World} {R : Post} (h : S1T  w R) (H : LC w []) : S1  w R := h
abbrev S3T  (w : World) (R : Post) : Prop :=
  R (.returned (.bool false)) w
theorem S3T_ok  {w : World} {R : Post} (h : S3T  w R) (H : LC w []) : S3  w R := h
abbrev S5T  (w : World) (R : Post) : Prop :=
  R (.returned (.bool false)) w
theorem S5T_ok  {w : World} {R : Post} (h : S5T  w R) (H : LC w []) : S5  w R := h
abbrev S6T (l1 : Sl) (s2 : Nat) (s2_0 s2_1 s2_2 : Int) (t7 : Sl) (t8 t9 : Int) (w : World) (R : Post) : Prop :=
  L0T l1 s2 s2_0 s2_1 s2_2 t7 t8 (IntKind.wrap .i64 (t9 + 1)) w R
theorem S6T_ok {l1 : Sl} {s2 : Nat} {s2_0 s2_1 s2_2 : Int} {t7 : Sl} {t8 t9 : Int} {w : World} {R : Post} (h : S6T l1 s2 s2_0 s2_1 s2_2 t7 t8 t9 w R) (H : LC w [(s2, [.i s2_0, .i s2_1, .i s2_2], ty_api_Sort)]) : S6 l1 (at0 s2) t7 t8 t9 w R := h H
abbrev S4T (l1 : Sl) (s2 : Nat) (s2_0 s2_1 s2_2 : Int) (x6 : Nat) (x6_0 x6_1 : Int) (x6_2 : ByteArray) (t7 : Sl) (t8 t9 : Int) (w : World) (R : Post) : Prop :=
  sel (s2_0 == 3) (sel (x6_1 != 0) (S5T  w R) (sel (decide (((x6_2.size : Nat) : Int) > s2_1)) (S5T  w R) (S6T l1 s2 s2_0 s2_1 s2_2 t7 t8 t9 w R))) (S6T l1 s2 s2_0 s2_1 s2_2 t7 t8 t9 w R)
theorem S4T_ok {l1 : Sl} {s2 : Nat} {s2_0 s2_1 s2_2 : Int} {x6 : Nat} {x6_0 x6_1 : Int} {x6_2 : ByteArray} {t7 : Sl} {t8 t9 : Int} {w : World} {R : Post} (h : S4T l1 s2 s2_0 s2_1 s2_2 x6 x6_0 x6_1 x6_2 t7 t8 t9 w R) (H : LC w [(s2, [.i s2_0, .i s2_1, .i s2_2], ty_api_Sort), (x6, [.u x6_0, .u x6_1, .string x6_2], ty_value_Entry)]) : S4 l1 (at0 s2) (at0 x6) t7 t8 t9 w R := ⟨_, H.ld 0 0, sel_imp h (fun h => ⟨_, H.ld 1 1, sel_imp h (fun h => S5T_ok h (LC.nil _)) (fun h => ⟨_, H.ld 1 2, ⟨_, H.ld 0 1, sel_imp h (fun h => S5T_ok h (LC.nil _)) (fun h => S6T_ok h (H.pick [0] (by decide)))⟩⟩)⟩) (fun h => S6T_ok h (H.pick [0] (by decide)))⟩
abbrev S2T (l1 : Sl) (s2 : Nat) (s2_0 s2_1 s2_2 : Int) (x6 : Nat) (x6_0 x6_1 : Int) (x6_2 : ByteArray) (t7 : Sl) (t8 t9 : Int) (w : World) (R : Post) : Prop :=
  sel (s2_0 == 2) (callF [s2, x6] Try.prog n_value_below #[.u x6_1, .i s2_1] w fun r_ w1 => ∃ t50 : Bool, r_ = .returned (.bool t50) ∧ 
  sel (!t50) (S3T  w1 R) (sel (!(x6_2.toList == (ByteArray.mk #[]).toList)) (S3T  w1 R) (S4T l1 s2 s2_0 s2_1 s2_2 x6 x6_0 x6_1 x6_2 t7 t8 t9 w1 R))) (S4T l1 s2 s2_0 s2_1 s2_2 x6 x6_0 x6_1 x6_2 t7 t8 t9 w R)
theorem S2T_ok {l1 : Sl} {s2 : Nat} {s2_0 s2_1 s2_2 : Int} {x6 : Nat} {x6_0 x6_1 : Int} {x6_2 : ByteArray} {t7 : Sl} {t8 t9 : Int} {w : World} {R : Post} (h : S2T l1 s2 s2_0 s2_1 s2_2 x6 x6_0 x6_1 x6_2 t7 t8 t9 w R) (H : LC w [(s2, [.i s2_0, .i s2_1, .i s2_2], ty_api_Sort), (x6, [.u x6_0, .u x6_1, .string x6_2], ty_value_Entry)]) : S2 l1 (at0 s2) (at0 x6) t7 t8 t9 w R := ⟨_, H.ld 0 0, sel_imp h (fun h => ⟨_, H.ld 1 1, ⟨_, H.ld 0 1, LC.callT H h fun r_ w1 H h => let ⟨t50, hr, h⟩ := h; ⟨t50, hr, sel_imp h (fun h => S3T_ok h (LC.nil _)) (fun h => ⟨_, H.ld 1 2, sel_imp h (fun h => S3T_ok h (LC.nil _)) (fun h => S4T_ok h H)⟩)⟩⟩⟩) (fun h => S4T_ok h H)⟩
theorem L0T_step (l1 : Sl) (s2 : Nat) (s2_0 s2_1 s2_2 : Int) (t7 : Sl) (t8 t9 : Int) (w : World) (R : Post) (h : sel (decide (t9 < t8)) ((0 : Int) ≤ t9 ∧ t9 < ((t7.n : Nat) : Int) ∧ optP t7.a fun t12_p => ∃ t13_0 : Int, ∃ t13_1 : Int, ∃ t13_2 : ByteArray, w.cell? ((t12_p.add (Int.toNat t9 * 3)).add 0) = some (.u t13_0) ∧ w.cell? ((t12_p.add (Int.toNat t9 * 3)).add 1) = some (.u t13_1) ∧ w.cell? ((t12_p.add (Int.toNat t9 * 3)).add 2) = some (.string t13_2) ∧ 
  newV [s2] w fun b6 w2 => 
  sel (decide (t9 > 0)) ((0 : Int) ≤ (IntKind.wrap .i64 (t9 - 1)) ∧ (IntKind.wrap .i64 (t9 - 1)) < ((l1.n : Nat) : Int) ∧ optP l1.a fun t22_p => loc [s2, b6] w2 fun w6 => ∃ t24 : Int, w6.cell? ((t22_p.add (Int.toNat (IntKind.wrap .i64 (t9 - 1)) * 3)).add 0) = some (.u t24) ∧ 
  sel (decide (t13_0 ≤ t24)) (S1T  w6 R) (callF [s2, b6] Try.prog n_value_below #[.u t13_0, .i s2_2] w6 fun r_ w7 => ∃ t32 : Bool, r_ = .returned (.bool t32) ∧ 
  w7.cell? ((t22_p.add (Int.toNat (IntKind.wrap .i64 (t9 - 1)) * 3)).add 0) = some (.u t24) ∧ sel (!t32) (S1T  w7 R) (sel ((t13_0 == t13_0) && ((t13_1 == 0) && ((t13_2.toList == (ByteArray.mk #[]).toList) && true))) (S1T  w7 R) (S2T l1 s2 s2_0 s2_1 s2_2 b6 t13_0 t13_1 t13_2 t7 t8 t9 w7 R)))) (loc [s2, b6] w2 fun w6 => callF [s2, b6] Try.prog n_value_below #[.u t13_0, .i s2_2] w6 fun r_ w8 => ∃ t32_x1 : Bool, r_ = .returned (.bool t32_x1) ∧ 
  sel (!t32_x1) (S1T  w8 R) (sel ((t13_0 == t13_0) && ((t13_1 == 0) && ((t13_2.toList == (ByteArray.mk #[]).toList) && true))) (S1T  w8 R) (S2T l1 s2 s2_0 s2_1 s2_2 b6 t13_0 t13_1 t13_2 t7 t8 t9 w8 R)))) (R (.returned (.bool true)) w)) : L0T l1 s2 s2_0 s2_1 s2_2 t7 t8 t9 w R := fun H => L0_step _ _ _ _ _ w R (sel_imp h (fun h => ⟨h.1, h.2.1, have h := h.2.2; optP_imp h fun t12_p h => let ⟨t13_0, t13_1, t13_2, hc0, hc1, hc2, h⟩ := h; ⟨t13_0, t13_1, t13_2, hc0, hc1, hc2, LC.nwT H (Fr.refl _ _) h fun w2 H h => LC.stT0 H 1 (Fr.refl _ _) rfl rfl fun w3 H f => LC.stT H 1 1 f rfl rfl fun w4 H f => LC.stT H 1 2 f rfl rfl fun w5 (H : LC w5 [(s2, [.i s2_0, .i s2_1, .i s2_2], ty_api_Sort), (w.heap.size, [.u t13_0, .u t13_1, .string t13_2], ty_value_Entry)]) (f : Fr (· ∈ [s2, w.heap.size]) _ w5) => LC.drT H f fun w6 H f => sel_imp h (fun h => ⟨_, H.ld 1 0, ⟨h.1, h.2.1, have h := h.2.2; optP_imp h fun t22_p h => have h := h _ f; let ⟨t24, hc0, h⟩ := h; ⟨t24, hc0, sel_imp h (fun h => S1T_ok h (LC.nil _)) (fun h => ⟨_, H.ld 1 0, ⟨_, H.ld 0 2, LC.callT H h fun r_ w7 H h => let ⟨t32, hr, h⟩ := h; ⟨t32, hr, ⟨h.1, H.ld 1 0, have h := h.2; sel_imp h (fun h => S1T_ok h (LC.nil _)) (fun h => ⟨_, _, _, H.ld 1 0, H.ld 1 1, H.ld 1 2, ⟨_, H.ld 1 0, sel_imp h (fun h => S1T_ok h (LC.nil _)) (fun h => S2T_ok h H)⟩⟩)⟩⟩⟩⟩)⟩⟩⟩) (fun h => ⟨_, H.ld 1 0, ⟨_, H.ld 0 2, have h := h _ f; LC.callT H h fun r_ w8 H h => let ⟨t32_x1, hr, h⟩ := h; ⟨t32_x1, hr, sel_imp h (fun h => S1T_ok h (LC.nil _)) (fun h => ⟨_, _, _, H.ld 1 0, H.ld 1 1, H.ld 1 2, ⟨_, H.ld 1 0, sel_imp h (fun h => S1T_ok h (LC.nil _)) (fun h => S2T_ok h H)⟩⟩)⟩⟩⟩)⟩⟩) (fun h => h))
theorem okT (s0_0 s0_1 s0_2 : Int) (l1 : Sl) (w : World) (R : Post) (h : newV [] w fun b2 w1 => 
  L0T l1 b2 s0_0 s0_1 s0_2 l1 ((l1.n : Nat) : Int) 0 w1 R) : Calls Try.prog n_value_validMap #[.agg #[.i s0_0, .i s0_1, .i s0_2], l1.v] w R :=
  ok _ _ _ _ w R (LC.nwT (LC.nil _) (Fr.refl _ _) h fun w1 H h => h H)
end value_validMap
namespace value_Valid
noncomputable def C0 : Code := (Try.f13.body).getD .skip
noncomputable def C1:=C0.sn
noncomputable def C2:=C1.sn
noncomputable def C3:=C2.sn
noncomputable def C4:=C3.sn
noncomputable def C5:=C4.fs
noncomputable def C6:=C4.sn
abbrev Q0 (R : Post) : Exit → Act → World → Prop := (Exit.then (wpx Try.prog (cx 70) C6 (bodyPost Try.prog Try.f13 R)) (bodyPost Try.prog Try.f13 R))
noncomputable def C7:=C5.sn
noncomputable def C8:=C7.fs
noncomputable def C9:=C8.sn
noncomputable def C10:=C7.sn
noncomputable def C11:=C6.sn
/-- value.go:72 -/
abbrev S0 (ok4 : Bool) (w : World) (R : Post) : Prop :=
  sel (!ok4) (R (.returned (.i 1)) w) (R (.returned (.i 0)) w)
def KE_S0 (E : Env) (w : World) (R : Post) : Prop := asBool' (Env.get? E 4) fun ok4 => S0 ok4 w R
theorem KE_S0_ok (R : Post) (E : Env) (w : World) (h : KE_S0 E w R) : WP Try.prog (cx 70) C5 (Q0 R) E w := by
  obtain ⟨ok4, hq4, h_1⟩ := asBool_elim h
  exact fun a ha => WP.at (E := [(4, .bool ok4)]) (sr C5 (K := fun E w => condK (Env.val E (.tmp 69)) (srK Try.prog C8 (fun E w => retVC Try.prog Try.f13 E w (fun v => R (.returned v) w)) E w) (srK Try.prog C6 (fun E w => retVC Try.prog Try.f13 E w (fun v => R (.returned v) w)) E w)) (Eq.mp (by kernel_rfl) h_1) fun _ _ hK => (cn C7 hK (fun hK => (sr C8 hK fun _ _ hK => (rt C9 fun a hA => retVC_sound hA hK))) (fun hK => (sk C10 fun a hA => nx hA (sr C6 hK fun _ _ hK => (rt C11 fun a hA => retVC_sound hA hK)))))) (ha.cons hq4 ha.nil)
/-- enthymeme/value.Valid -/
noncomputable def C12:=C1.fs
noncomputable def C13:=C12.sn
noncomputable def C14:=C13.sn
noncomputable def C15:=C14.fs
noncomputable def C16:=C3.fs
noncomputable def C17:=C16.sn
noncomputable def C18:=C17.fs
noncomputable def C19:=C18.sn
noncomputable def C20:=C19.fs
noncomputable def C21:=C19.sn
noncomputable def C22:=C21.sn
noncomputable def C23:=C22.fs
noncomputable def C24:=C22.sn
noncomputable def C25:=C15.sn
noncomputable def C26:=C14.sn
theorem ok (v0_0 v0_1 v0_2 v0_3 : Int) (v0_4 : ByteArray) (v0_5 : Sl) (w : World) (R : Post) (h : nwV w (.cells #[.i v0_0, .i v0_1, .i v0_2, .u v0_3, .string v0_4, v0_5.v] ty_value_Value) fun w1 => 
  ∃ t6_0 : Int, ∃ t6_1 : Int, ∃ t6_2 : Int, w1.cell? (((nb w).add 0).add 0) = some (.i t6_0) ∧ w1.cell? (((nb w).add 0).add 1) = some (.i t6_1) ∧ w1.cell? (((nb w).add 0).add 2) = some (.i t6_2) ∧ 
  Calls Try.prog n_value_ValidSort #[.agg #[.i t6_0, .i t6_1, .i t6_2]] w1 fun r_ w2 => ∃ t7 : Int, r_ = .returned (.i t7) ∧ 
  sel (t7 != 0) (R (.returned (.i t7)) w2) (∃ t13 : Int, w2.cell? (((nb w).add 0).add 0) = some (.i t13) ∧ 
  sel (t13 == 0) (∃ t32 : Int, w2.cell? ((nb w).add 3) = some (.u t32) ∧ 
  ∃ t35 : Int, w2.cell? (((nb w).add 0).add 1) = some (.i t35) ∧ 
  Calls Try.prog n_value_below #[.u t32, .i t35] w2 fun r_ w3 => ∃ t36 : Bool, r_ = .returned (.bool t36) ∧ 
  sel t36 (∃ t39 : ByteArray, w3.cell? ((nb w).add 4) = some (.string t39) ∧ 
  sel (t39.toList == (ByteArray.mk #[]).toList) (∃ t44 : Sl, w3.cell? ((nb w).add 5) = some (t44.v) ∧ 
  S0 (((t44.n : Nat) : Int) == 0) w3 R) (S0 false w3 R)) (S0 false w3 R)) (sel (t13 == 1) (∃ t51 : ByteArray, w2.cell? ((nb w).add 4) = some (.string t51) ∧ 
  ∃ t55 : Int, w2.cell? (((nb w).add 0).add 1) = some (.i t55) ∧ 
  sel (decide (((t51.size : Nat) : Int) ≤ t55)) (∃ t59 : Int, w2.cell? ((nb w).add 3) = some (.u t59) ∧ 
  sel (t59 == 0) (∃ t64 : Sl, w2.cell? ((nb w).add 5) = some (t64.v) ∧ 
  S0 (((t64.n : Nat) : Int) == 0) w2 R) (S0 false w2 R)) (S0 false w2 R)) (∃ t15 : Int, w2.cell? ((nb w).add 3) = some (.u t15) ∧ 
  sel (t15 == 0) (∃ t19 : ByteArray, w2.cell? ((nb w).add 4) = some (.string t19) ∧ 
  sel (t19.toList == (ByteArray.mk #[]).toList) (∃ t24_0 : Int, ∃ t24_1 : Int, ∃ t24_2 : Int, w2.cell? (((nb w).add 0).add 0) = some (.i t24_0) ∧ w2.cell? (((nb w).add 0).add 1) = some (.i t24_1) ∧ w2.cell? (((nb w).add 0).add 2) = some (.i t24_2) ∧ 
  ∃ t26 : Sl, w2.cell? ((nb w).add 5) = some (t26.v) ∧ 
  Calls Try.prog n_value_validMap #[.agg #[.i t24_0, .i t24_1, .i t24_2], t26.v] w2 fun r_ w4 => ∃ t27 : Bool, r_ = .returned (.bool t27) ∧ 
  S0 t27 w4 R) (S0 false w2 R)) (S0 false w2 R))))) : Calls Try.prog n_value_Valid #[.agg #[.i v0_0, .i v0_1, .i v0_2, .u v0_3, .string v0_4, v0_5.v]] w R :=
  calls_of_WP' (R := R) (fn := Try.f13) (c := C0) (args := [.agg #[.i v0_0, .i v0_1, .i v0_2, .u v0_3, .string v0_4, v0_5.v]]) (by kernel_rfl) (by kernel_rfl) (by kernel_rfl) (sr C0 (show (fun (E : Env) (w : World) => srK Try.prog C0 (fun E w => srK Try.prog C12 (fun E w => srK Try.prog C13 (fun E w => condK (Env.val E (.tmp 9)) (srK Try.prog C15 (fun E w => retVC Try.prog Try.f13 E w (fun v => R (.returned v) w)) E w) (srK Try.prog C2 (fun E w => srK Try.prog C16 (fun E w => srK Try.prog C18 (fun E w => condK (Env.val E (.tmp 29)) (rgK Try.prog C20 (fun E w => KE_S0 E w R) E w) (srK Try.prog C21 (fun E w => condK (Env.val E (.tmp 48)) (rgK Try.prog C23 (fun E w => KE_S0 E w R) E w) (rgK Try.prog C24 (fun E w => KE_S0 E w R) E w)) E w)) E w) E w) E w)) E w) E w) E w) (envOf 0 [.agg #[.i v0_0, .i v0_1, .i v0_2, .u v0_3, .string v0_4, v0_5.v]]) w from Eq.mp (by kernel_rfl) h) fun _ _ hK => (sq C1 (sr C12 hK fun _ _ hK => (sr C13 hK fun _ _ hK => (cn C14 hK (fun hK => (sr C15 hK fun _ _ hK => (rt C25 fun a hA => retVC_sound hA hK))) (fun hK => (sk C26 fun a hA => nx hA (sr C2 hK fun _ _ hK => (sq C3 (sr C16 hK fun _ _ hK => (bk C17 0 (by kernel_rfl) (sr C18 hK fun _ _ hK => (cn C19 hK (fun hK => (rg C20 (by kernel_rfl) hK fun _ _ a hA hK => nx hA (sq C4 (KE_S0_ok R _ _ hK)))) (fun hK => (sr C21 hK fun _ _ hK => (cn C22 hK (fun hK => (rg C23 (by kernel_rfl) hK fun _ _ a hA hK => nx hA (sq C4 (KE_S0_ok R _ _ hK)))) (fun hK => (rg C24 (by kernel_rfl) hK fun _ _ a hA hK => nx hA (sq C4 (KE_S0_ok R _ _ hK))))))))))))))))))))
abbrev S0T (ok4 : Bool) (w : World) (R : Post) : Prop :=
  sel (!ok4) (R (.returned (.i 1)) w) (R (.returned (.i 0)) w)
theorem S0T_ok {ok4 : Bool} {w : World} {R : Post} (h : S0T ok4 w R) (H : LC w []) : S0 ok4 w R := sel_imp h (fun h => h) (fun h => h)
theorem okT (v0_0 v0_1 v0_2 v0_3 : Int) (v0_4 : ByteArray) (v0_5 : Sl) (w : World) (R : Post) (h : newV [] w fun b1 w1 => 
  callF [b1] Try.prog n_value_ValidSort #[.agg #[.i v0_0, .i v0_1, .i v0_2]] w1 fun r_ w2 => ∃ t7 : Int, r_ = .returned (.i t7) ∧ 
  sel (t7 != 0) (R (.returned (.i t7)) w2) (sel (v0_0 == 0) (callF [b1] Try.prog n_value_below #[.u v0_3, .i v0_1] w2 fun r_ w3 => ∃ t36 : Bool, r_ = .returned (.bool t36) ∧ 
  sel t36 (sel (v0_4.toList == (ByteArray.mk #[]).toList) (S0T (((v0_5.n : Nat) : Int) == 0) w3 R) (S0T false w3 R)) (S0T false w3 R)) (sel (v0_0 == 1) (sel (decide (((v0_4.size : Nat) : Int) ≤ v0_1)) (sel (v0_3 == 0) (S0T (((v0_5.n : Nat) : Int) == 0) w2 R) (S0T false w2 R)) (S0T false w2 R)) (sel (v0_3 == 0) (sel (v0_4.toList == (ByteArray.mk #[]).toList) (callF [b1] Try.prog n_value_validMap #[.agg #[.i v0_0, .i v0_1, .i v0_2], v0_5.v] w2 fun r_ w4 => ∃ t27 : Bool, r_ = .returned (.bool t27) ∧ 
  S0T t27 w4 R) (S0T false w2 R)) (S0T false w2 R))))) : Calls Try.prog n_value_Valid #[.agg #[.i v0_0, .i v0_1, .i v0_2, .u v0_3, .string v0_4, v0_5.v]] w R :=
  ok _ _ _ _ _ _ w R (LC.nwT (LC.nil _) (Fr.refl _ _) h fun w1 H h => ⟨_, _, _, H.ld 0 0, H.ld 0 1, H.ld 0 2, LC.callT H h fun r_ w2 H h => let ⟨t7, hr, h⟩ := h; ⟨t7, hr, sel_imp h (fun h => h) (fun h => ⟨_, H.ld 0 0, sel_imp h (fun h => ⟨_, H.ld 0 3, ⟨_, H.ld 0 1, LC.callT H h fun r_ w3 H h => let ⟨t36, hr, h⟩ := h; ⟨t36, hr, sel_imp h (fun h => ⟨_, H.ld 0 4, sel_imp h (fun h => ⟨v0_5, H.ld 0 5, S0T_ok h (LC.nil _)⟩) (fun h => S0T_ok h (LC.nil _))⟩) (fun h => S0T_ok h (LC.nil _))⟩⟩⟩) (fun h => sel_imp h (fun h => ⟨_, H.ld 0 4, ⟨_, H.ld 0 1, sel_imp h (fun h => ⟨_, H.ld 0 3, sel_imp h (fun h => ⟨v0_5, H.ld 0 5, S0T_ok h (LC.nil _)⟩) (fun h => S0T_ok h (LC.nil _))⟩) (fun h => S0T_ok h (LC.nil _))⟩⟩) (fun h => ⟨_, H.ld 0 3, sel_imp h (fun h => ⟨_, H.ld 0 4, sel_imp h (fun h => ⟨_, _, _, H.ld 0 0, H.ld 0 1, H.ld 0 2, ⟨v0_5, H.ld 0 5, LC.callT H h fun r_ w4 H h => let ⟨t27, hr, h⟩ := h; ⟨t27, hr, S0T_ok h (LC.nil _)⟩⟩⟩) (fun h => S0T_ok h (LC.nil _))⟩) (fun h => S0T_ok h (LC.nil _))⟩))⟩)⟩⟩)
end value_Valid
namespace value_Zero
noncomputable def C0 : Code := (Try.f11.body).getD .skip
/-- enthymeme/value.Zero -/
noncomputable def C1:=C0.sn
noncomputable def C2:=C1.fs
noncomputable def C3:=C2.sn
noncomputable def C4:=C3.sn
noncomputable def C5:=C4.fs
noncomputable def C6:=C1.sn
noncomputable def C7:=C5.sn
noncomputable def C8:=C4.sn
noncomputable def C9:=C6.sn
theorem ok (s0_0 s0_1 s0_2 : Int) (w : World) (R : Post) (h : nwV w (.cells #[.i s0_0, .i s0_1, .i s0_2] ty_api_Sort) fun w1 => 
  nwV w1 (.cells #[.i 0, .i 0, .i 0, .u 0, .s0, .slice none 0 0] ty_value_Value) fun w2 => 
  ∃ t5_0 : Int, ∃ t5_1 : Int, ∃ t5_2 : Int, w2.cell? ((nb w).add 0) = some (.i t5_0) ∧ w2.cell? ((nb w).add 1) = some (.i t5_1) ∧ w2.cell? ((nb w).add 2) = some (.i t5_2) ∧ 
  Calls Try.prog n_value_ValidSort #[.agg #[.i t5_0, .i t5_1, .i t5_2]] w2 fun r_ w3 => ∃ t6 : Int, r_ = .returned (.i t6) ∧ 
  sel (t6 != 0) (stV w3 (nb w1) (.i 0) fun w4 => 
  stV w4 ((nb w1).add 1) (.i 0) fun w5 => 
  stV w5 ((nb w1).add 2) (.i 0) fun w6 => 
  stV w6 ((nb w1).add 3) (.u 0) fun w7 => 
  stV w7 ((nb w1).add 4) (.s0) fun w8 => 
  stV w8 ((nb w1).add 5) (.slice none 0 0) fun w9 => 
  ∃ r2_0 : Int, ∃ r2_1 : Int, ∃ r2_2 : Int, ∃ r2_3 : Int, ∃ r2_4 : ByteArray, ∃ r2_5 : Sl, w9.cell? ((nb w1).add 0) = some (.i r2_0) ∧ w9.cell? ((nb w1).add 1) = some (.i r2_1) ∧ w9.cell? ((nb w1).add 2) = some (.i r2_2) ∧ w9.cell? ((nb w1).add 3) = some (.u r2_3) ∧ w9.cell? ((nb w1).add 4) = some (.string r2_4) ∧ w9.cell? ((nb w1).add 5) = some (r2_5.v) ∧ 
  R (.returned (.tuple #[.agg #[.i r2_0, .i r2_1, .i r2_2, .u r2_3, .string r2_4, r2_5.v], .i t6])) w9) (∃ t11_0 : Int, ∃ t11_1 : Int, ∃ t11_2 : Int, w3.cell? ((nb w).add 0) = some (.i t11_0) ∧ w3.cell? ((nb w).add 1) = some (.i t11_1) ∧ w3.cell? ((nb w).add 2) = some (.i t11_2) ∧ 
  stV w3 (nb w1) (.i t11_0) fun w10 => 
  stV w10 ((nb w1).add 1) (.i t11_1) fun w11 => 
  stV w11 ((nb w1).add 2) (.i t11_2) fun w12 => 
  stV w12 ((nb w1).add 3) (.u 0) fun w13 => 
  stV w13 ((nb w1).add 4) (.s0) fun w14 => 
  stV w14 ((nb w1).add 5) (.slice none 0 0) fun w15 => 
  ∃ r2_0 : Int, ∃ r2_1 : Int, ∃ r2_2 : Int, ∃ r2_3 : Int, ∃ r2_4 : ByteArray, ∃ r2_5 : Sl, w15.cell? ((nb w1).add 0) = some (.i r2_0) ∧ w15.cell? ((nb w1).add 1) = some (.i r2_1) ∧ w15.cell? ((nb w1).add 2) = some (.i r2_2) ∧ w15.cell? ((nb w1).add 3) = some (.u r2_3) ∧ w15.cell? ((nb w1).add 4) = some (.string r2_4) ∧ w15.cell? ((nb w1).add 5) = some (r2_5.v) ∧ 
  R (.returned (.tuple #[.agg #[.i r2_0, .i r2_1, .i r2_2, .u r2_3, .string r2_4, r2_5.v], .i 0])) w15)) : Calls Try.prog n_value_Zero #[.agg #[.i s0_0, .i s0_1, .i s0_2]] w R :=
  calls_of_WP' (R := R) (fn := Try.f11) (c := C0) (args := [.agg #[.i s0_0, .i s0_1, .i s0_2]]) (by kernel_rfl) (by kernel_rfl) (by kernel_rfl) (sr C0 (show (fun (E : Env) (w : World) => srK Try.prog C0 (fun E w => srK Try.prog C2 (fun E w => srK Try.prog C3 (fun E w => condK (Env.val E (.tmp 8)) (srK Try.prog C5 (fun E w => retVC Try.prog Try.f11 E w (fun v => R (.returned v) w)) E w) (srK Try.prog C6 (fun E w => retVC Try.prog Try.f11 E w (fun v => R (.returned v) w)) E w)) E w) E w) E w) (envOf 0 [.agg #[.i s0_0, .i s0_1, .i s0_2]]) w from Eq.mp (by kernel_rfl) h) fun _ _ hK => (sq C1 (sr C2 hK fun _ _ hK => (sr C3 hK fun _ _ hK => (cn C4 hK (fun hK => (sr C5 hK fun _ _ hK => (rt C7 fun a hA => retVC_sound hA hK))) (fun hK => (sk C8 fun a hA => nx hA (sr C6 hK fun _ _ hK => (rt C9 fun a hA => retVC_sound hA hK)))))))))
theorem okT (s0_0 s0_1 s0_2 : Int) (w : World) (R : Post) (h : newV [] w fun b1 w1 => 
  newV [b1] w1 fun b2 w2 => 
  callF [b1, b2] Try.prog n_value_ValidSort #[.agg #[.i s0_0, .i s0_1, .i s0_2]] w2 fun r_ w3 => ∃ t6 : Int, r_ = .returned (.i t6) ∧ 
  sel (t6 != 0) (loc [b1, b2] w3 fun w9 => R (.returned (.tuple #[.agg #[.i 0, .i 0, .i 0, .u 0, .s0, .slice none 0 0], .i t6])) w9) (loc [b1, b2] w3 fun w15 => R (.returned (.tuple #[.agg #[.i s0_0, .i s0_1, .i s0_2, .u 0, .s0, .slice none 0 0], .i 0])) w15)) : Calls Try.prog n_value_Zero #[.agg #[.i s0_0, .i s0_1, .i s0_2]] w R :=
  ok _ _ _ w R (LC.nwT (LC.nil _) (Fr.refl _ _) h fun w1 H h => LC.nwT H (Fr.refl _ _) h fun w2 H h => ⟨_, _, _, H.ld 0 0, H.ld 0 1, H.ld 0 2, LC.callT H h fun r_ w3 H h => let ⟨t6, hr, h⟩ := h; ⟨t6, hr, sel_imp h (fun h => LC.stT0 H 1 (Fr.refl _ _) rfl rfl fun w4 H f => LC.stT H 1 1 f rfl rfl fun w5 H f => LC.stT H 1 2 f rfl rfl fun w6 H f => LC.stT H 1 3 f rfl rfl fun w7 H f => LC.stT H 1 4 f rfl rfl fun w8 H f => LC.stT H 1 5 f rfl rfl fun w9 (H : LC w9 [(w.heap.size, [.i s0_0, .i s0_1, .i s0_2], ty_api_Sort), (w1.heap.size, [.i 0, .i 0, .i 0, .u 0, .s0, .slice none 0 0], ty_value_Value)]) (f : Fr (· ∈ [w.heap.size, w1.heap.size]) _ w9) => ⟨_, _, _, _, _, ⟨none, 0, 0⟩, H.ld 1 0, H.ld 1 1, H.ld 1 2, H.ld 1 3, H.ld 1 4, H.ld 1 5, have h := h _ f; h⟩) (fun h => ⟨_, _, _, H.ld 0 0, H.ld 0 1, H.ld 0 2, LC.stT0 H 1 (Fr.refl _ _) rfl rfl fun w10 H f => LC.stT H 1 1 f rfl rfl fun w11 H f => LC.stT H 1 2 f rfl rfl fun w12 H f => LC.stT H 1 3 f rfl rfl fun w13 H f => LC.stT H 1 4 f rfl rfl fun w14 H f => LC.stT H 1 5 f rfl rfl fun w15 (H : LC w15 [(w.heap.size, [.i s0_0, .i s0_1, .i s0_2], ty_api_Sort), (w1.heap.size, [.i s0_0, .i s0_1, .i s0_2, .u 0, .s0, .slice none 0 0], ty_value_Value)]) (f : Fr (· ∈ [w.heap.size, w1.heap.size]) _ w15) => ⟨_, _, _, _, _, ⟨none, 0, 0⟩, H.ld 1 0, H.ld 1 1, H.ld 1 2, H.ld 1 3, H.ld 1 4, H.ld 1 5, have h := h _ f; h⟩⟩)⟩⟩)
end value_Zero
namespace value_place_1
noncomputable def C0 : Code := (Try.f76.body).getD .skip
/-- enthymeme/value.place$1 -/
noncomputable def C1:=C0.sn
noncomputable def C2:=C1.sn
theorem ok (x0_0 x0_1 : Int) (x0_2 : ByteArray) (i1 : Int) (w : World) (R : Post) (h : nwV w (.cells #[.u x0_0, .u x0_1, .string x0_2] ty_value_Entry) fun w1 => 
  ∃ t6 : Int, w1.cell? ((nb w).add 0) = some (.u t6) ∧ 
  Calls Try.prog n_cmp_Compare_uint64 #[.u t6, .u i1] w1 fun r_ w2 => ∃ t8 : Int, r_ = .returned (.i t8) ∧ 
  R (.returned (.i t8)) w2) : Calls Try.prog n_value_place_1 #[.agg #[.u x0_0, .u x0_1, .string x0_2], .u i1] w R :=
  calls_of_WP' (R := R) (fn := Try.f76) (c := C0) (args := [.agg #[.u x0_0, .u x0_1, .string x0_2], .u i1]) (by kernel_rfl) (by kernel_rfl) (by kernel_rfl) (sr C0 (show (fun (E : Env) (w : World) => srK Try.prog C0 (fun E w => srK Try.prog C1 (fun E w => retVC Try.prog Try.f76 E w (fun v => R (.returned v) w)) E w) E w) (envOf 0 [.agg #[.u x0_0, .u x0_1, .string x0_2], .u i1]) w from Eq.mp (by kernel_rfl) h) fun _ _ hK => (sr C1 hK fun _ _ hK => (rt C2 fun a hA => retVC_sound hA hK)))
theorem okT (x0_0 x0_1 : Int) (x0_2 : ByteArray) (i1 : Int) (w : World) (R : Post) (h : newV [] w fun b2 w1 => 
  callF [b2] Try.prog n_cmp_Compare_uint64 #[.u x0_0, .u i1] w1 fun r_ w2 => ∃ t8 : Int, r_ = .returned (.i t8) ∧ 
  R (.returned (.i t8)) w2) : Calls Try.prog n_value_place_1 #[.agg #[.u x0_0, .u x0_1, .string x0_2], .u i1] w R :=
  ok _ _ _ _ w R (LC.nwT (LC.nil _) (Fr.refl _ _) h fun w1 H h => ⟨_, H.ld 0 0, LC.callT H h fun r_ w2 H h => let ⟨t8, hr, h⟩ := h; ⟨t8, hr, h⟩⟩)
end value_place_1
namespace slices_BinarySearchFunc_sl_value_Entry_value_Entry_uint64
noncomputable def C0 : Code := (Try.f75.body).getD .skip
noncomputable def C1:=C0.sn
noncomputable def C2:=C1.sn
noncomputable def C3:=C2.sn
noncomputable def C4:=C3.fs
noncomputable def C5:=C4.fs
noncomputable def C6:=C5.fs
noncomputable def C7:=C3.sn
abbrev Q0 (R : Post) : Exit → Act → World → Prop := (Exit.then (wpx Try.prog (cx 49) C7 (bodyPost Try.prog Try.f75 R)) (bodyPost Try.prog Try.f75 R))
abbrev Q1 (R : Post) : Exit → Act → World → Prop := (Exit.inBlock 0 (Q0 R))
/-- the head of the loop, sort.go:157 -/
def L0 (x0 : Sl) (target1 n8 i9 j10 : Int) (w : World) (R : Post) : Prop := LP Try.prog (cx 49) C6 (Q1 R) [(0, x0.v), (1, .u target1), (2, .func (.func n_value_place_1) #[] #[]), (8, .i n8), (9, .i i9), (10, .i j10)] w
def KE_L0 (E : Env) (w : World) (R : Post) : Prop := asSlice (Env.get? E 0) fun x0 => W.asInt .u64 (Env.get? E 1) fun target1 => asFunc n_value_place_1 (Env.get? E 2) fun cmp2_lf0 cmp2_lc0 => asNil cmp2_lf0 <| asNil cmp2_lc0 <| W.asInt .i64 (Env.get? E 8) fun n8 => W.asInt .i64 (Env.get? E 9) fun i9 => W.asInt .i64 (Env.get? E 10) fun j10 => L0 x0 target1 n8 i9 j10 w R
theorem KE_L0_ok (R : Post) (E : Env) (w : World) (h : KE_L0 E w R) : LP Try.prog (cx 49) C6 (Q1 R) E w := by
  obtain ⟨x0, hq0, h_1⟩ := asSlice_elim h
  obtain ⟨target1, hq1, h_2⟩ := asInt_elim h_1
  obtain ⟨cmp2_lf0, cmp2_lc0, hq2, h_3⟩ := asFunc_elim h_2
  obtain ⟨rfl, h_4⟩ := asNil_elim h_3
  obtain ⟨rfl, h_5⟩ := asNil_elim h_4
  obtain ⟨n8, hq8, h_6⟩ := asInt_elim h_5
  obtain ⟨i9, hq9, h_7⟩ := asInt_elim h_6
  obtain ⟨j10, hq10, h_8⟩ := asInt_elim h_7
  intro a ha
  exact h_8 a (ha.cons hq0 (ha.cons hq1 (ha.cons hq2 (ha.cons hq8 (ha.cons hq9 (ha.cons hq10 ha.nil))))))
noncomputable def C8:=C6.sn
noncomputable def C9:=C8.fs
noncomputable def C10:=C9.sn
abbrev Q2 (R : Post) : Exit → Act → World → Prop := (Exit.then (LoopWP Try.prog (cx 49) C6 (Q1 R)) (Q1 R))
abbrev Q3 (R : Post) : Exit → Act → World → Prop := (Exit.inBlock 1 (Q2 R))
noncomputable def C11:=C10.sn
noncomputable def C12:=C11.fs
noncomputable def C13:=C11.sn
/-- sort.go:160 -/
abbrev S1 (x0 : Sl) (target1 n8 i9 j10 h11 : Int) (w : World) (R : Post) : Prop :=
  (0 : Int) ≤ h11 ∧ h11 < ((x0.n : Nat) : Int) ∧ optP x0.a fun t27_p => ∃ t28_0 : Int, ∃ t28_1 : Int, ∃ t28_2 : ByteArray, w.cell? ((t27_p.add (Int.toNat h11 * 3)).add 0) = some (.u t28_0) ∧ w.cell? ((t27_p.add (Int.toNat h11 * 3)).add 1) = some (.u t28_1) ∧ w.cell? ((t27_p.add (Int.toNat h11 * 3)).add 2) = some (.string t28_2) ∧ 
  Calls Try.prog n_value_place_1 #[.agg #[.u t28_0, .u t28_1, .string t28_2], .u target1] w fun r_ w1 => ∃ t30 : Int, r_ = .returned (.i t30) ∧ 
  sel (decide (t30 < 0)) (L0 x0 target1 n8 (IntKind.wrap .i64 (h11 + 1)) j10 w1 R) (L0 x0 target1 n8 i9 h11 w1 R)
def KE_S1 (E : Env) (w : World) (R : Post) : Prop := asSlice (Env.get? E 0) fun x0 => W.asInt .u64 (Env.get? E 1) fun target1 => asFunc n_value_place_1 (Env.get? E 2) fun cmp2_lf0 cmp2_lc0 => asNil cmp2_lf0 <| asNil cmp2_lc0 <| W.asInt .i64 (Env.get? E 8) fun n8 => W.asInt .i64 (Env.get? E 9) fun i9 => W.asInt .i64 (Env.get? E 10) fun j10 => W.asInt .i64 (Env.get? E 11) fun h11 => S1 x0 target1 n8 i9 j10 h11 w R
theorem KE_S1_ok (R : Post) (E : Env) (w : World) (h : KE_S1 E w R) : WP Try.prog (cx 49) C10 (Q3 R) E w := by
  obtain ⟨x0, hq0, h_1⟩ := asSlice_elim h
  obtain ⟨target1, hq1, h_2⟩ := asInt_elim h_1
  obtain ⟨cmp2_lf0, cmp2_lc0, hq2, h_3⟩ := asFunc_elim h_2
  obtain ⟨rfl, h_4⟩ := asNil_elim h_3
  obtain ⟨rfl, h_5⟩ := asNil_elim h_4
  obtain ⟨n8, hq8, h_6⟩ := asInt_elim h_5
  obtain ⟨i9, hq9, h_7⟩ := asInt_elim h_6
  obtain ⟨j10, hq10, h_8⟩ := asInt_elim h_7
  obtain ⟨h11, hq11, h_9⟩ := asInt_elim h_8
  exact fun a ha => WP.at (E := [(0, x0.v), (1, .u target1), (2, .func (.func n_value_place_1) #[] #[]), (8, .i n8), (9, .i i9), (10, .i j10), (11, .i h11)]) (sr C10 (K := fun E w => condK (Env.val E (.tmp 31)) (rgK Try.prog C12 (fun E w => KE_L0 E w R) E w) (rgK Try.prog C13 (fun E w => KE_L0 E w R) E w)) (Eq.mp (by kernel_rfl) h_9) fun _ _ hK => (cn C11 hK (fun hK => (rg C12 (by kernel_rfl) hK fun _ _ a hA hK => KE_L0_ok R _ _ hK a hA)) (fun hK => (rg C13 (by kernel_rfl) hK fun _ _ a hA hK => KE_L0_ok R _ _ hK a hA)))) (ha.cons hq0 (ha.cons hq1 (ha.cons hq2 (ha.cons hq8 (ha.cons hq9 (ha.cons hq10 (ha.cons hq11 ha.nil)))))))
noncomputable def C14:=C6.fs
noncomputable def C15:=C14.sn
noncomputable def C16:=C15.fs
noncomputable def C17:=C15.sn
noncomputable def C18:=C7.sn
theorem L0_step (x0 : Sl) (target1 n8 i9 j10 : Int) (w : World) (R : Post) (h : sel (decide (i9 < j10)) (S1 x0 target1 n8 i9 j10 (IntKind.wrap .i64 (Int.fdiv (IntKind.wrap .u64 (IntKind.wrap .i64 (i9 + j10))) (2 ^ (1)))) w R) (sel (decide (i9 < n8)) ((0 : Int) ≤ i9 ∧ i9 < ((x0.n : Nat) : Int) ∧ optP x0.a fun t43_p => ∃ t44_0 : Int, ∃ t44_1 : Int, ∃ t44_2 : ByteArray, w.cell? ((t43_p.add (Int.toNat i9 * 3)).add 0) = some (.u t44_0) ∧ w.cell? ((t43_p.add (Int.toNat i9 * 3)).add 1) = some (.u t44_1) ∧ w.cell? ((t43_p.add (Int.toNat i9 * 3)).add 2) = some (.string t44_2) ∧ 
  Calls Try.prog n_value_place_1 #[.agg #[.u t44_0, .u t44_1, .string t44_2], .u target1] w fun r_ w1 => ∃ t46 : Int, r_ = .returned (.i t46) ∧ 
  R (.returned (.tuple #[.i i9, .bool (t46 == 0)])) w1) (R (.returned (.tuple #[.i i9, .bool false])) w))) : L0 x0 target1 n8 i9 j10 w R :=
  LP.step (n := (cx 49)) (c := C6) (E := [(0, x0.v), (1, .u target1), (2, .func (.func n_value_place_1) #[] #[]), (8, .i n8), (9, .i i9), (10, .i j10)]) (w := w) (sq C6 (sr C14 (show (fun (E : Env) (w : World) => srK Try.prog C14 (fun E w => condK (Env.val E (.tmp 17)) (srK Try.prog C9 (fun E w => KE_S1 E w R) E w) (srK Try.prog C7 (fun E w => retVC Try.prog Try.f75 E w (fun v => R (.returned v) w)) E w)) E w) [(0, x0.v), (1, .u target1), (2, .func (.func n_value_place_1) #[] #[]), (8, .i n8), (9, .i i9), (10, .i j10)] w from Eq.mp (by kernel_rfl) h) fun _ _ hK => (cn C15 hK (fun hK => (sk C16 fun a hA => nx hA (bk C8 1 (by kernel_rfl) (sr C9 hK fun _ _ hK => (KE_S1_ok R _ _ hK))))) (fun hK => (xt C17 0 (by kernel_rfl) fun a hA => nx hA (sr C7 hK fun _ _ hK => (rt C18 fun a hA => retVC_sound hA hK)))))))
/-- slices.BinarySearchFunc[[]enthymeme/value.Entry,enthymeme/value.Entry,uint64] -/
theorem ok (x0 : Sl) (target1 : Int) (w : World) (R : Post) (h : L0 x0 target1 ((x0.n : Nat) : Int) 0 ((x0.n : Nat) : Int) w R) : Calls Try.prog n_slices_BinarySearchFunc_sl_value_Entry_value_Entry_uint64 #[x0.v, .u target1, .func (.func n_value_place_1) #[] #[]] w R :=
  calls_of_WP' (R := R) (fn := Try.f75) (c := C0) (args := [x0.v, .u target1, .func (.func n_value_place_1) #[] #[]]) (by kernel_rfl) (by kernel_rfl) (by kernel_rfl) (sr C0 (show (fun (E : Env) (w : World) => srK Try.prog C0 (fun E w => srK Try.prog C1 (fun E w => srK Try.prog C2 (fun E w => KE_L0 E w R) E w) E w) E w) (envOf 0 [x0.v, .u target1, .func (.func n_value_place_1) #[] #[]]) w from Eq.mp (by kernel_rfl) h) fun _ _ hK => (sr C1 hK fun _ _ hK => (sr C2 hK fun _ _ hK => (sq C3 (bk C4 0 (by kernel_rfl) (lp C5 (by kernel_rfl) (KE_L0_ok R _ _ hK)))))))
end slices_BinarySearchFunc_sl_value_Entry_value_Entry_uint64
namespace value_place
noncomputable def C0 : Code := (Try.f50.body).getD .skip
/-- enthymeme/value.place -/
noncomputable def C1:=C0.sn
noncomputable def C2:=C1.sn
theorem ok (l0 : Sl) (index1 : Int) (w : World) (R : Post) (h : Calls Try.prog n_slices_BinarySearchFunc_sl_value_Entry_value_Entry_uint64 #[l0.v, .u index1, .func (.func n_value_place_1) #[] #[]] w fun r_ w1 => ∃ t8_0 : Int, ∃ t8_1 : Bool, r_ = .returned (.tuple #[.i t8_0, .bool t8_1]) ∧ 
  R (.returned (.tuple #[.i t8_0, .bool t8_1])) w1) : Calls Try.prog n_value_place #[l0.v, .u index1] w R :=
  calls_of_WP' (R := R) (fn := Try.f50) (c := C0) (args := [l0.v, .u index1]) (by kernel_rfl) (by kernel_rfl) (by kernel_rfl) (sr C0 (show (fun (E : Env) (w : World) => srK Try.prog C0 (fun E w => srK Try.prog C1 (fun E w => retVC Try.prog Try.f50 E w (fun v => R (.returned v) w)) E w) E w) (envOf 0 [l0.v, .u index1]) w from Eq.mp (by kernel_rfl) h) fun _ _ hK => (sr C1 hK fun _ _ hK => (rt C2 fun a hA => retVC_sound hA hK)))
end value_place
namespace value_Select
noncomputable def C0 : Code := (Try.f23.body).getD .skip
noncomputable def C1:=C0.sn
noncomputable def C2:=C1.sn
noncomputable def C3:=C2.sn
noncomputable def C4:=C3.sn
noncomputable def C5:=C4.sn
noncomputable def C6:=C5.sn
noncomputable def C7:=C6.sn
abbrev Q0 (R : Post) : Exit → Act → World → Prop := (bodyPost Try.prog Try.f23 R)
noncomputable def C8:=C7.sn
/-- value.go:147 -/
abbrev S1 (t4 v7 : Addr) (w : World) (R : Post) : Prop :=
  ∃ t61_0 : Int, ∃ t61_1 : Int, ∃ t61_2 : Int, ∃ t61_3 : Int, ∃ t61_4 : ByteArray, ∃ t61_5 : Sl, w.cell? (v7.add 0) = some (.i t61_0) ∧ w.cell? (v7.add 1) = some (.i t61_1) ∧ w.cell? (v7.add 2) = some (.i t61_2) ∧ w.cell? (v7.add 3) = some (.u t61_3) ∧ w.cell? (v7.add 4) = some (.string t61_4) ∧ w.cell? (v7.add 5) = some (t61_5.v) ∧ 
  stV w t4 (.i t61_0) fun w1 => 
  stV w1 (t4.add 1) (.i t61_1) fun w2 => 
  stV w2 (t4.add 2) (.i t61_2) fun w3 => 
  stV w3 (t4.add 3) (.u t61_3) fun w4 => 
  stV w4 (t4.add 4) (.string t61_4) fun w5 => 
  stV w5 (t4.add 5) (t61_5.v) fun w6 => 
  ∃ r4_0 : Int, ∃ r4_1 : Int, ∃ r4_2 : Int, ∃ r4_3 : Int, ∃ r4_4 : ByteArray, ∃ r4_5 : Sl, w6.cell? (t4.add 0) = some (.i r4_0) ∧ w6.cell? (t4.add 1) = some (.i r4_1) ∧ w6.cell? (t4.add 2) = some (.i r4_2) ∧ w6.cell? (t4.add 3) = some (.u r4_3) ∧ w6.cell? (t4.add 4) = some (.string r4_4) ∧ w6.cell? (t4.add 5) = some (r4_5.v) ∧ 
  R (.returned (.tuple #[.agg #[.i r4_0, .i r4_1, .i r4_2, .u r4_3, .string r4_4, r4_5.v], .i 0])) w6
def KE_S1 (E : Env) (w : World) (R : Post) : Prop := asRef (Env.get? E 4) fun t4 => asRef (Env.get? E 7) fun v7 => S1 t4 v7 w R
theorem KE_S1_ok (R : Post) (E : Env) (w : World) (h : KE_S1 E w R) : WP Try.prog (cx 62) C7 (Q0 R) E w := by
  obtain ⟨t4, hq4, h_1⟩ := asRef_elim h
  obtain ⟨v7, hq7, h_2⟩ := asRef_elim h_1
  exact fun a ha => WP.at (E := [(4, .pointer (some t4)), (7, .pointer (some v7))]) (sr C7 (K := fun E w => retVC Try.prog Try.f23 E w (fun v => R (.returned v) w)) (Eq.mp (by kernel_rfl) h_2) fun _ _ hK => (rt C8 fun a hA => retVC_sound hA hK)) (ha.cons hq4 (ha.cons hq7 ha.nil))
noncomputable def C9:=C6.fs
abbrev Q1 (R : Post) : Exit → Act → World → Prop := (Exit.then (wpx Try.prog (cx 62) C7 (bodyPost Try.prog Try.f23 R)) (bodyPost Try.prog Try.f23 R))
noncomputable def C10:=C9.sn
noncomputable def C11:=C10.sn
noncomputable def C12:=C11.fs
noncomputable def C13:=C11.sn
/-- value.go:144 -/
abbrev S0 (index1 : Int) (a2 t4 v7 : Addr) (w : World) (R : Post) : Prop :=
  ∃ t41 : Sl, w.cell? (a2.add 5) = some (t41.v) ∧ 
  Calls Try.prog n_value_place #[t41.v, .u index1] w fun r_ w1 => ∃ t43_0 : Int, ∃ t43_1 : Bool, r_ = .returned (.tuple #[.i t43_0, .bool t43_1]) ∧ 
  sel t43_1 (drV w1 fun w2 => ∃ t48 : Sl, w2.cell? (a2.add 5) = some (t48.v) ∧ 
  (0 : Int) ≤ t43_0 ∧ t43_0 < ((t48.n : Nat) : Int) ∧ optP t48.a fun t50_p => ∃ t52 : Int, w2.cell? ((t50_p.add (Int.toNat t43_0 * 3)).add 1) = some (.u t52) ∧ 
  ∃ t54 : Sl, w2.cell? (a2.add 5) = some (t54.v) ∧ 
  (0 : Int) ≤ t43_0 ∧ t43_0 < ((t54.n : Nat) : Int) ∧ optP t54.a fun t56_p => ∃ t58 : ByteArray, w2.cell? ((t56_p.add (Int.toNat t43_0 * 3)).add 2) = some (.string t58) ∧ 
  stV w2 (v7.add 3) (.u t52) fun w3 => 
  w3.cell? ((t56_p.add (Int.toNat t43_0 * 3)).add 2) = some (.string t58) ∧ w3.cell? (a2.add 5) = some (t54.v) ∧ stV w3 (v7.add 4) (.string t58) fun w4 => 
  S1 t4 v7 w4 R) (S1 t4 v7 w1 R)
def KE_S0 (E : Env) (w : World) (R : Post) : Prop := W.asInt .u64 (Env.get? E 1) fun index1 => asRef (Env.get? E 2) fun a2 => asRef (Env.get? E 4) fun t4 => asRef (Env.get? E 7) fun v7 => S0 index1 a2 t4 v7 w R
theorem KE_S0_ok (R : Post) (E : Env) (w : World) (h : KE_S0 E w R) : WP Try.prog (cx 62) C9 (Q1 R) E w := by
  obtain ⟨index1, hq1, h_1⟩ := asInt_elim h
  obtain ⟨a2, hq2, h_2⟩ := asRef_elim h_1
  obtain ⟨t4, hq4, h_3⟩ := asRef_elim h_2
  obtain ⟨v7, hq7, h_4⟩ := asRef_elim h_3
  exact fun a ha => WP.at (E := [(1, .u index1), (2, .pointer (some a2)), (4, .pointer (some t4)), (7, .pointer (some v7))]) (sr C9 (K := fun E w => srK Try.prog C10 (fun E w => condK (Env.val E (.tmp 46)) (dgK Try.prog C12 [0, 1, 2, 3, 4, 5, 6, 7, 8, 9, 10, 11, 12, 13, 14, 15] (fun E w => KE_S1 E w R) E w) (KE_S1 E w R)) E w) (Eq.mp (by kernel_rfl) h_4) fun _ _ hK => (sr C10 hK fun _ _ hK => (cn C11 hK (fun hK => (dg C12 (by kernel_rfl) hK fun _ _ a hA hK => nx hA (KE_S1_ok R _ _ hK))) (fun hK => (sk C13 fun a hA => nx hA (KE_S1_ok R _ _ hK)))))) (ha.cons hq1 (ha.cons hq2 (ha.cons hq4 (ha.cons hq7 ha.nil))))
/-- enthymeme/value.Select -/
noncomputable def C14:=C1.fs
noncomputable def C15:=C14.sn
noncomputable def C16:=C15.sn
noncomputable def C17:=C16.fs
noncomputable def C18:=C2.fs
noncomputable def C19:=C18.sn
noncomputable def C20:=C19.fs
noncomputable def C21:=C3.fs
noncomputable def C22:=C21.sn
noncomputable def C23:=C22.fs
noncomputable def C24:=C5.fs
noncomputable def C25:=C24.sn
noncomputable def C26:=C25.fs
noncomputable def C27:=C17.sn
noncomputable def C28:=C16.sn
noncomputable def C29:=C20.sn
noncomputable def C30:=C19.sn
noncomputable def C31:=C23.sn
noncomputable def C32:=C22.sn
noncomputable def C33:=C25.sn
theorem ok (a0_0 a0_1 a0_2 a0_3 : Int) (a0_4 : ByteArray) (a0_5 : Sl) (index1 : Int) (w : World) (R : Post) (h : nwV w (.cells #[.i a0_0, .i a0_1, .i a0_2, .u a0_3, .string a0_4, a0_5.v] ty_value_Value) fun w1 => 
  nwV w1 (.cells #[.i 0, .i 0, .i 0, .u 0, .s0, .slice none 0 0] ty_value_Value) fun w2 => 
  ∃ t10_0 : Int, ∃ t10_1 : Int, ∃ t10_2 : Int, ∃ t10_3 : Int, ∃ t10_4 : ByteArray, ∃ t10_5 : Sl, w2.cell? ((nb w).add 0) = some (.i t10_0) ∧ w2.cell? ((nb w).add 1) = some (.i t10_1) ∧ w2.cell? ((nb w).add 2) = some (.i t10_2) ∧ w2.cell? ((nb w).add 3) = some (.u t10_3) ∧ w2.cell? ((nb w).add 4) = some (.string t10_4) ∧ w2.cell? ((nb w).add 5) = some (t10_5.v) ∧ 
  Calls Try.prog n_value_Valid #[.agg #[.i t10_0, .i t10_1, .i t10_2, .u t10_3, .string t10_4, t10_5.v]] w2 fun r_ w3 => ∃ t11 : Int, r_ = .returned (.i t11) ∧ 
  sel (t11 != 0) (stV w3 (nb w1) (.i 0) fun w4 => 
  stV w4 ((nb w1).add 1) (.i 0) fun w5 => 
  stV w5 ((nb w1).add 2) (.i 0) fun w6 => 
  stV w6 ((nb w1).add 3) (.u 0) fun w7 => 
  stV w7 ((nb w1).add 4) (.s0) fun w8 => 
  stV w8 ((nb w1).add 5) (.slice none 0 0) fun w9 => 
  ∃ r4_0 : Int, ∃ r4_1 : Int, ∃ r4_2 : Int, ∃ r4_3 : Int, ∃ r4_4 : ByteArray, ∃ r4_5 : Sl, w9.cell? ((nb w1).add 0) = some (.i r4_0) ∧ w9.cell? ((nb w1).add 1) = some (.i r4_1) ∧ w9.cell? ((nb w1).add 2) = some (.i r4_2) ∧ w9.cell? ((nb w1).add 3) = some (.u r4_3) ∧ w9.cell? ((nb w1).add 4) = some (.string r4_4) ∧ w9.cell? ((nb w1).add 5) = some (r4_5.v) ∧ 
  R (.returned (.tuple #[.agg #[.i r4_0, .i r4_1, .i r4_2, .u r4_3, .string r4_4, r4_5.v], .i t11])) w9) (∃ t17_0 : Int, ∃ t17_1 : Int, ∃ t17_2 : Int, w3.cell? (((nb w).add 0).add 0) = some (.i t17_0) ∧ w3.cell? (((nb w).add 0).add 1) = some (.i t17_1) ∧ w3.cell? (((nb w).add 0).add 2) = some (.i t17_2) ∧ 
  Calls Try.prog n_value_isArray #[.agg #[.i t17_0, .i t17_1, .i t17_2]] w3 fun r_ w10 => ∃ t18 : Bool, r_ = .returned (.bool t18) ∧ 
  sel (!t18) (stV w10 (nb w1) (.i 0) fun w11 => 
  stV w11 ((nb w1).add 1) (.i 0) fun w12 => 
  stV w12 ((nb w1).add 2) (.i 0) fun w13 => 
  stV w13 ((nb w1).add 3) (.u 0) fun w14 => 
  stV w14 ((nb w1).add 4) (.s0) fun w15 => 
  stV w15 ((nb w1).add 5) (.slice none 0 0) fun w16 => 
  ∃ r4_0 : Int, ∃ r4_1 : Int, ∃ r4_2 : Int, ∃ r4_3 : Int, ∃ r4_4 : ByteArray, ∃ r4_5 : Sl, w16.cell? ((nb w1).add 0) = some (.i r4_0) ∧ w16.cell? ((nb w1).add 1) = some (.i r4_1) ∧ w16.cell? ((nb w1).add 2) = some (.i r4_2) ∧ w16.cell? ((nb w1).add 3) = some (.u r4_3) ∧ w16.cell? ((nb w1).add 4) = some (.string r4_4) ∧ w16.cell? ((nb w1).add 5) = some (r4_5.v) ∧ 
  R (.returned (.tuple #[.agg #[.i r4_0, .i r4_1, .i r4_2, .u r4_3, .string r4_4, r4_5.v], .i 9])) w16) (∃ t24 : Int, w10.cell? (((nb w).add 0).add 2) = some (.i t24) ∧ 
  Calls Try.prog n_value_below #[.u index1, .i t24] w10 fun r_ w17 => ∃ t25 : Bool, r_ = .returned (.bool t25) ∧ 
  sel (!t25) (stV w17 (nb w1) (.i 0) fun w18 => 
  stV w18 ((nb w1).add 1) (.i 0) fun w19 => 
  stV w19 ((nb w1).add 2) (.i 0) fun w20 => 
  stV w20 ((nb w1).add 3) (.u 0) fun w21 => 
  stV w21 ((nb w1).add 4) (.s0) fun w22 => 
  stV w22 ((nb w1).add 5) (.slice none 0 0) fun w23 => 
  ∃ r4_0 : Int, ∃ r4_1 : Int, ∃ r4_2 : Int, ∃ r4_3 : Int, ∃ r4_4 : ByteArray, ∃ r4_5 : Sl, w23.cell? ((nb w1).add 0) = some (.i r4_0) ∧ w23.cell? ((nb w1).add 1) = some (.i r4_1) ∧ w23.cell? ((nb w1).add 2) = some (.i r4_2) ∧ w23.cell? ((nb w1).add 3) = some (.u r4_3) ∧ w23.cell? ((nb w1).add 4) = some (.string r4_4) ∧ w23.cell? ((nb w1).add 5) = some (r4_5.v) ∧ 
  R (.returned (.tuple #[.agg #[.i r4_0, .i r4_1, .i r4_2, .u r4_3, .string r4_4, r4_5.v], .i 5])) w23) (∃ t30 : Int, w17.cell? (((nb w).add 0).add 1) = some (.i t30) ∧ 
  nwV w17 (.cells #[.i 0, .i 0, .i 0, .u 0, .s0, .slice none 0 0] ty_value_Value) fun w24 => 
  stV w24 (nb w17) (.i 0) fun w25 => 
  stV w25 ((nb w17).add 1) (.i t30) fun w26 => 
  stV w26 ((nb w17).add 2) (.i 0) fun w27 => 
  stV w27 ((nb w17).add 3) (.u 0) fun w28 => 
  stV w28 ((nb w17).add 4) (.s0) fun w29 => 
  stV w29 ((nb w17).add 5) (.slice none 0 0) fun w30 => 
  ∃ t35 : Int, w30.cell? (((nb w).add 0).add 0) = some (.i t35) ∧ 
  sel (t35 == 3) (stV w30 (((nb w17).add 0).add 0) (.i 1) fun w31 => 
  S0 index1 (nb w) (nb w1) (nb w17) w31 R) (S0 index1 (nb w) (nb w1) (nb w17) w30 R))))) : Calls Try.prog n_value_Select #[.agg #[.i a0_0, .i a0_1, .i a0_2, .u a0_3, .string a0_4, a0_5.v], .u index1] w R :=
  calls_of_WP' (R := R) (fn := Try.f23) (c := C0) (args := [.agg #[.i a0_0, .i a0_1, .i a0_2, .u a0_3, .string a0_4, a0_5.v], .u index1]) (by kernel_rfl) (by kernel_rfl) (by kernel_rfl) (sr C0 (show (fun (E : Env) (w : World) => srK Try.prog C0 (fun E w => srK Try.prog C14 (fun E w => srK Try.prog C15 (fun E w => condK (Env.val E (.tmp 13)) (srK Try.prog C17 (fun E w => retVC Try.prog Try.f23 E w (fun v => R (.returned v) w)) E w) (srK Try.prog C18 (fun E w => condK (Env.val E (.tmp 19)) (srK Try.prog C20 (fun E w => retVC Try.prog Try.f23 E w (fun v => R (.returned v) w)) E w) (srK Try.prog C21 (fun E w => condK (Env.val E (.tmp 26)) (srK Try.prog C23 (fun E w => retVC Try.prog Try.f23 E w (fun v => R (.returned v) w)) E w) (srK Try.prog C4 (fun E w => srK Try.prog C24 (fun E w => condK (Env.val E (.tmp 36)) (rgK Try.prog C26 (fun E w => KE_S0 E w R) E w) (KE_S0 E w R)) E w) E w)) E w)) E w)) E w) E w) E w) (envOf 0 [.agg #[.i a0_0, .i a0_1, .i a0_2, .u a0_3, .string a0_4, a0_5.v], .u index1]) w from Eq.mp (by kernel_rfl) h) fun _ _ hK => (sq C1 (sr C14 hK fun _ _ hK => (sr C15 hK fun _ _ hK => (cn C16 hK (fun hK => (sr C17 hK fun _ _ hK => (rt C27 fun a hA => retVC_sound hA hK))) (fun hK => (sk C28 fun a hA => nx hA (sq C2 (sr C18 hK fun _ _ hK => (cn C19 hK (fun hK => (sr C20 hK fun _ _ hK => (rt C29 fun a hA => retVC_sound hA hK))) (fun hK => (sk C30 fun a hA => nx hA (sq C3 (sr C21 hK fun _ _ hK => (cn C22 hK (fun hK => (sr C23 hK fun _ _ hK => (rt C31 fun a hA => retVC_sound hA hK))) (fun hK => (sk C32 fun a hA => nx hA (sr C4 hK fun _ _ hK => (sq C5 (sr C24 hK fun _ _ hK => (cn C25 hK (fun hK => (rg C26 (by kernel_rfl) hK fun _ _ a hA hK => nx hA (sq C6 (KE_S0_ok R _ _ hK)))) (fun hK => (sk C33 fun a hA => nx hA (sq C6 (KE_S0_ok R _ _ hK)))))))))))))))))))))))))
abbrev S1T (t4 : Nat) (t4_0 t4_1 t4_2 t4_3 : Int) (t4_4 : ByteArray) (t4_5 : Sl) (v7 : Nat) (v7_0 v7_1 v7_2 v7_3 : Int) (v7_4 : ByteArray) (v7_5 : Sl) (w : World) (R : Post) : Prop :=
  loc [t4, v7] w fun w6 => R (.returned (.tuple #[.agg #[.i v7_0, .i v7_1, .i v7_2, .u v7_3, .string v7_4, v7_5.v], .i 0])) w6
theorem S1T_ok {t4 : Nat} {t4_0 t4_1 t4_2 t4_3 : Int} {t4_4 : ByteArray} {t4_5 : Sl} {v7 : Nat} {v7_0 v7_1 v7_2 v7_3 : Int} {v7_4 : ByteArray} {v7_5 : Sl} {w : World} {R : Post} (h : S1T t4 t4_0 t4_1 t4_2 t4_3 t4_4 t4_5 v7 v7_0 v7_1 v7_2 v7_3 v7_4 v7_5 w R) (H : LC w [(t4, [.i t4_0, .i t4_1, .i t4_2, .u t4_3, .string t4_4, t4_5.v], ty_value_Value), (v7, [.i v7_0, .i v7_1, .i v7_2, .u v7_3, .string v7_4, v7_5.v], ty_value_Value)]) : S1 (at0 t4) (at0 v7) w R := ⟨_, _, _, _, _, v7_5, H.ld 1 0, H.ld 1 1, H.ld 1 2, H.ld 1 3, H.ld 1 4, H.ld 1 5, LC.stT0 H 0 (Fr.refl _ _) rfl rfl fun w1 H f => LC.stT H 0 1 f rfl rfl fun w2 H f => LC.stT H 0 2 f rfl rfl fun w3 H f => LC.stT H 0 3 f rfl rfl fun w4 H f => LC.stT H 0 4 f rfl rfl fun w5 H f => LC.stT H 0 5 f rfl rfl fun w6 (H : LC w6 [(t4, [.i v7_0, .i v7_1, .i v7_2, .u v7_3, .string v7_4, v7_5.v], ty_value_Value), (v7, [.i v7_0, .i v7_1, .i v7_2, .u v7_3, .string v7_4, v7_5.v], ty_value_Value)]) (f : Fr (· ∈ [t4, v7]) _ w6) => ⟨_, _, _, _, _, v7_5, H.ld 0 0, H.ld 0 1, H.ld 0 2, H.ld 0 3, H.ld 0 4, H.ld 0 5, have h := h _ f; h⟩⟩
abbrev S0T (index1 : Int) (a2 : Nat) (a2_0 a2_1 a2_2 a2_3 : Int) (a2_4 : ByteArray) (a2_5 : Sl) (t4 : Nat) (t4_0 t4_1 t4_2 t4_3 : Int) (t4_4 : ByteArray) (t4_5 : Sl) (v7 : Nat) (v7_0 v7_1 v7_2 v7_3 : Int) (v7_4 : ByteArray) (v7_5 : Sl) (w : World) (R : Post) : Prop :=
  callF [a2, t4, v7] Try.prog n_value_place #[a2_5.v, .u index1] w fun r_ w1 => ∃ t43_0 : Int, ∃ t43_1 : Bool, r_ = .returned (.tuple #[.i t43_0, .bool t43_1]) ∧ 
  sel t43_1 ((0 : Int) ≤ t43_0 ∧ t43_0 < ((a2_5.n : Nat) : Int) ∧ optP a2_5.a fun t50_p => loc [a2, t4, v7] w1 fun w2 => ∃ t52 : Int, w2.cell? ((t50_p.add (Int.toNat t43_0 * 3)).add 1) = some (.u t52) ∧ 
  (0 : Int) ≤ t43_0 ∧ t43_0 < ((a2_5.n : Nat) : Int) ∧ optP a2_5.a fun t56_p => ∃ t58 : ByteArray, w2.cell? ((t56_p.add (Int.toNat t43_0 * 3)).add 2) = some (.string t58) ∧ 
  loc [a2, t4, v7] w2 fun w3 => w3.cell? ((t56_p.add (Int.toNat t43_0 * 3)).add 2) = some (.string t58) ∧ loc [a2, t4, v7] w3 fun w4 => S1T t4 t4_0 t4_1 t4_2 t4_3 t4_4 t4_5 v7 v7_0 v7_1 v7_2 t52 t58 v7_5 w4 R) (S1T t4 t4_0 t4_1 t4_2 t4_3 t4_4 t4_5 v7 v7_0 v7_1 v7_2 v7_3 v7_4 v7_5 w1 R)
theorem S0T_ok {index1 : Int} {a2 : Nat} {a2_0 a2_1 a2_2 a2_3 : Int} {a2_4 : ByteArray} {a2_5 : Sl} {t4 : Nat} {t4_0 t4_1 t4_2 t4_3 : Int} {t4_4 : ByteArray} {t4_5 : Sl} {v7 : Nat} {v7_0 v7_1 v7_2 v7_3 : Int} {v7_4 : ByteArray} {v7_5 : Sl} {w : World} {R : Post} (h : S0T index1 a2 a2_0 a2_1 a2_2 a2_3 a2_4 a2_5 t4 t4_0 t4_1 t4_2 t4_3 t4_4 t4_5 v7 v7_0 v7_1 v7_2 v7_3 v7_4 v7_5 w R) (H : LC w [(a2, [.i a2_0, .i a2_1, .i a2_2, .u a2_3, .string a2_4, a2_5.v], ty_value_Value), (t4, [.i t4_0, .i t4_1, .i t4_2, .u t4_3, .string t4_4, t4_5.v], ty_value_Value), (v7, [.i v7_0, .i v7_1, .i v7_2, .u v7_3, .string v7_4, v7_5.v], ty_value_Value)]) : S0 index1 (at0 a2) (at0 t4) (at0 v7) w R := ⟨a2_5, H.ld 0 5, LC.callT H h fun r_ w1 H h => let ⟨t43_0, t43_1, hr, h⟩ := h; ⟨t43_0, t43_1, hr, sel_imp h (fun h => LC.drT H (Fr.refl _ _) fun w2 H f => ⟨a2_5, H.ld 0 5, ⟨h.1, h.2.1, have h := h.2.2; optP_imp h fun t50_p h => have h := h _ f; let ⟨t52, hc0, h⟩ := h; ⟨t52, hc0, ⟨a2_5, H.ld 0 5, ⟨h.1, h.2.1, have h := h.2.2; optP_imp h fun t56_p h => let ⟨t58, hc0, h⟩ := h; ⟨t58, hc0, LC.stT H 2 3 (Fr.refl _ _) rfl rfl fun w3 (H : LC w3 [(a2, [.i a2_0, .i a2_1, .i a2_2, .u a2_3, .string a2_4, a2_5.v], ty_value_Value), (t4, [.i t4_0, .i t4_1, .i t4_2, .u t4_3, .string t4_4, t4_5.v], ty_value_Value), (v7, [.i v7_0, .i v7_1, .i v7_2, .u t52, .string v7_4, v7_5.v], ty_value_Value)]) (f : Fr (· ∈ [a2, t4, v7]) _ w3) => have h := h _ f; ⟨h.1, H.ld 0 5, have h := h.2; LC.stT H 2 4 (Fr.refl _ _) rfl rfl fun w4 (H : LC w4 [(a2, [.i a2_0, .i a2_1, .i a2_2, .u a2_3, .string a2_4, a2_5.v], ty_value_Value), (t4, [.i t4_0, .i t4_1, .i t4_2, .u t4_3, .string t4_4, t4_5.v], ty_value_Value), (v7, [.i v7_0, .i v7_1, .i v7_2, .u t52, .string t58, v7_5.v], ty_value_Value)]) (f : Fr (· ∈ [a2, t4, v7]) _ w4) => have h := h _ f; S1T_ok h (H.pick [1, 2] (by decide))⟩⟩⟩⟩⟩⟩⟩) (fun h => S1T_ok h (H.pick [1, 2] (by decide)))⟩⟩
theorem okT (a0_0 a0_1 a0_2 a0_3 : Int) (a0_4 : ByteArray) (a0_5 : Sl) (index1 : Int) (w : World) (R : Post) (h : newV [] w fun b2 w1 => 
  newV [b2] w1 fun b4 w2 => 
  callF [b2, b4] Try.prog n_value_Valid #[.agg #[.i a0_0, .i a0_1, .i a0_2, .u a0_3, .string a0_4, a0_5.v]] w2 fun r_ w3 => ∃ t11 : Int, r_ = .returned (.i t11) ∧ 
  sel (t11 != 0) (loc [b2, b4] w3 fun w9 => R (.returned (.tuple #[.agg #[.i 0, .i 0, .i 0, .u 0, .s0, .slice none 0 0], .i t11])) w9) (callF [b2, b4] Try.prog n_value_isArray #[.agg #[.i a0_0, .i a0_1, .i a0_2]] w3 fun r_ w10 => ∃ t18 : Bool, r_ = .returned (.bool t18) ∧ 
  sel (!t18) (loc [b2, b4] w10 fun w16 => R (.returned (.tuple #[.agg #[.i 0, .i 0, .i 0, .u 0, .s0, .slice none 0 0], .i 9])) w16) (callF [b2, b4] Try.prog n_value_below #[.u index1, .i a0_2] w10 fun r_ w17 => ∃ t25 : Bool, r_ = .returned (.bool t25) ∧ 
  sel (!t25) (loc [b2, b4] w17 fun w23 => R (.returned (.tuple #[.agg #[.i 0, .i 0, .i 0, .u 0, .s0, .slice none 0 0], .i 5])) w23) (newV [b2, b4] w17 fun b7 w24 => 
  sel (a0_0 == 3) (loc [b2, b4, b7] w24 fun w31 => S0T index1 b2 a0_0 a0_1 a0_2 a0_3 a0_4 a0_5 b4 0 0 0 0 (ByteArray.mk #[]) ⟨none, 0, 0⟩ b7 1 a0_1 0 0 (ByteArray.mk #[]) ⟨none, 0, 0⟩ w31 R) (loc [b2, b4, b7] w24 fun w30 => S0T index1 b2 a0_0 a0_1 a0_2 a0_3 a0_4 a0_5 b4 0 0 0 0 (ByteArray.mk #[]) ⟨none, 0, 0⟩ b7 0 a0_1 0 0 (ByteArray.mk #[]) ⟨none, 0, 0⟩ w30 R))))) : Calls Try.prog n_value_Select #[.agg #[.i a0_0, .i a0_1, .i a0_2, .u a0_3, .string a0_4, a0_5.v], .u index1] w R :=
  ok _ _ _ _ _ _ _ w R (LC.nwT (LC.nil _) (Fr.refl _ _) h fun w1 H h => LC.nwT H (Fr.refl _ _) h fun w2 H h => ⟨_, _, _, _, _, a0_5, H.ld 0 0, H.ld 0 1, H.ld 0 2, H.ld 0 3, H.ld 0 4, H.ld 0 5, LC.callT H h fun r_ w3 H h => let ⟨t11, hr, h⟩ := h; ⟨t11, hr, sel_imp h (fun h => LC.stT0 H 1 (Fr.refl _ _) rfl rfl fun w4 H f => LC.stT H 1 1 f rfl rfl fun w5 H f => LC.stT H 1 2 f rfl rfl fun w6 H f => LC.stT H 1 3 f rfl rfl fun w7 H f => LC.stT H 1 4 f rfl rfl fun w8 H f => LC.stT H 1 5 f rfl rfl fun w9 (H : LC w9 [(w.heap.size, [.i a0_0, .i a0_1, .i a0_2, .u a0_3, .string a0_4, a0_5.v], ty_value_Value), (w1.heap.size, [.i 0, .i 0, .i 0, .u 0, .s0, .slice none 0 0], ty_value_Value)]) (f : Fr (· ∈ [w.heap.size, w1.heap.size]) _ w9) => ⟨_, _, _, _, _, ⟨none, 0, 0⟩, H.ld 1 0, H.ld 1 1, H.ld 1 2, H.ld 1 3, H.ld 1 4, H.ld 1 5, have h := h _ f; h⟩) (fun h => ⟨_, _, _, H.ld 0 0, H.ld 0 1, H.ld 0 2, LC.callT H h fun r_ w10 H h => let ⟨t18, hr, h⟩ := h; ⟨t18, hr, sel_imp h (fun h => LC.stT0 H 1 (Fr.refl _ _) rfl rfl fun w11 H f => LC.stT H 1 1 f rfl rfl fun w12 H f => LC.stT H 1 2 f rfl rfl fun w13 H f => LC.stT H 1 3 f rfl rfl fun w14 H f => LC.stT H 1 4 f rfl rfl fun w15 H f => LC.stT H 1 5 f rfl rfl fun w16 (H : LC w16 [(w.heap.size, [.i a0_0, .i a0_1, .i a0_2, .u a0_3, .string a0_4, a0_5.v], ty_value_Value), (w1.heap.size, [.i 0, .i 0, .i 0, .u 0, .s0, .slice none 0 0], ty_value_Value)]) (f : Fr (· ∈ [w.heap.size, w1.heap.size]) _ w16) => ⟨_, _, _, _, _, ⟨none, 0, 0⟩, H.ld 1 0, H.ld 1 1, H.ld 1 2, H.ld 1 3, H.ld 1 4, H.ld 1 5, have h := h _ f; h⟩) (fun h => ⟨_, H.ld 0 2, LC.callT H h fun r_ w17 H h => let ⟨t25, hr, h⟩ := h; ⟨t25, hr, sel_imp h (fun h => LC.stT0 H 1 (Fr.refl _ _) rfl rfl fun w18 H f => LC.stT H 1 1 f rfl rfl fun w19 H f => LC.stT H 1 2 f rfl rfl fun w20 H f => LC.stT H 1 3 f rfl rfl fun w21 H f => LC.stT H 1 4 f rfl rfl fun w22 H f => LC.stT H 1 5 f rfl rfl fun w23 (H : LC w23 [(w.heap.size, [.i a0_0, .i a0_1, .i a0_2, .u a0_3, .string a0_4, a0_5.v], ty_value_Value), (w1.heap.size, [.i 0, .i 0, .i 0, .u 0, .s0, .slice none 0 0], ty_value_Value)]) (f : Fr (· ∈ [w.heap.size, w1.heap.size]) _ w23) => ⟨_, _, _, _, _, ⟨none, 0, 0⟩, H.ld 1 0, H.ld 1 1, H.ld 1 2, H.ld 1 3, H.ld 1 4, H.ld 1 5, have h := h _ f; h⟩) (fun h => ⟨_, H.ld 0 1, LC.nwT H (Fr.refl _ _) h fun w24 (H : LC w24 [(w.heap.size, [.i a0_0, .i a0_1, .i a0_2, .u a0_3, .string a0_4, a0_5.v], ty_value_Value), (w1.heap.size, [.i 0, .i 0, .i 0, .u 0, .s0, .slice none 0 0], ty_value_Value), (w17.heap.size, [.i 0, .i 0, .i 0, .u 0, .s0, .slice none 0 0], ty_value_Value)]) h => LC.stT0 H 2 (Fr.refl _ _) rfl rfl fun w25 H f => LC.stT H 2 1 f rfl rfl fun w26 H f => LC.stT H 2 2 f rfl rfl fun w27 H f => LC.stT H 2 3 f rfl rfl fun w28 H f => LC.stT H 2 4 f rfl rfl fun w29 H f => LC.stT H 2 5 f rfl rfl fun w30 (H : LC w30 [(w.heap.size, [.i a0_0, .i a0_1, .i a0_2, .u a0_3, .string a0_4, a0_5.v], ty_value_Value), (w1.heap.size, [.i 0, .i 0, .i 0, .u 0, .s0, .slice none 0 0], ty_value_Value), (w17.heap.size, [.i 0, .i a0_1, .i 0, .u 0, .s0, .slice none 0 0], ty_value_Value)]) (f : Fr (· ∈ [w.heap.size, w1.heap.size, w17.heap.size]) _ w30) => ⟨_, H.ld 0 0, sel_imp h (fun h => LC.stT H 2 0 f rfl rfl fun w31 (H : LC w31 [(w.heap.size, [.i a0_0, .i a0_1, .i a0_2, .u a0_3, .string a0_4, a0_5.v], ty_value_Value), (w1.heap.size, [.i 0, .i 0, .i 0, .u 0, .s0, .slice none 0 0], ty_value_Value), (w17.heap.size, [.i 1, .i a0_1, .i 0, .u 0, .s0, .slice none 0 0], ty_value_Value)]) (f : Fr (· ∈ [w.heap.size, w1.heap.size, w17.heap.size]) _ w31) => have h := h _ f; S0T_ok h H) (fun h => have h := h _ f; S0T_ok h H)⟩⟩)⟩⟩)⟩⟩)⟩⟩)
end value_Select
namespace slices_Clone_sl_value_Entry_value_Entry
noncomputable def C0 : Code := (Try.f52.body).getD .skip
/-- slices.Clone[[]enthymeme/value.Entry,enthymeme/value.Entry] -/
noncomputable def C1:=C0.sn
noncomputable def C2:=C1.fs
noncomputable def C3:=C2.sn
noncomputable def C4:=C3.fs
noncomputable def C5:=C1.sn
noncomputable def C6:=C4.sn
noncomputable def C7:=C3.sn
noncomputable def C8:=C5.sn
theorem ok (s0 : Sl) (w : World) (R : Post) (h : sel s0.a.isNone (R (.returned (.slice none 0 0)) w) (nwV w (.cells #[] ty_value_Entry) fun w1 => 
  ∃ (t7 : Sl) (w2 : World), Sem.run Try.prog (Builtin.append_ #[ty_sl_value_Entry, ty_sl_value_Entry] ty_sl_value_Entry #[.slice (some (nb w)) 0 0, s0.v]) w1 = .ok (t7.v) w2 ∧ R (.returned (t7.v)) w2)) : Calls Try.prog n_slices_Clone_sl_value_Entry_value_Entry #[s0.v] w R :=
  calls_of_WP' (R := R) (fn := Try.f52) (c := C0) (args := [s0.v]) (by kernel_rfl) (by kernel_rfl) (by kernel_rfl) (sr C0 (show (fun (E : Env) (w : World) => srK Try.prog C0 (fun E w => srK Try.prog C2 (fun E w => condK (Env.val E (.tmp 4)) (srK Try.prog C4 (fun E w => retVC Try.prog Try.f52 E w (fun v => R (.returned v) w)) E w) (srK Try.prog C5 (fun E w => retVC Try.prog Try.f52 E w (fun v => R (.returned v) w)) E w)) E w) E w) (envOf 0 [s0.v]) w from Eq.mp (by kernel_rfl) h) fun _ _ hK => (sq C1 (sr C2 hK fun _ _ hK => (cn C3 hK (fun hK => (sr C4 hK fun _ _ hK => (rt C6 fun a hA => retVC_sound hA hK))) (fun hK => (sk C7 fun a hA => nx hA (sr C5 hK fun _ _ hK => (rt C8 fun a hA => retVC_sound hA hK))))))))
end slices_Clone_sl_value_Entry_value_Entry
namespace value_Store
noncomputable def C0 : Code := (Try.f25.body).getD .skip
noncomputable def C1:=C0.sn
noncomputable def C2:=C1.sn
noncomputable def C3:=C2.sn
noncomputable def C4:=C3.sn
noncomputable def C5:=C4.sn
noncomputable def C6:=C5.sn
noncomputable def C7:=C6.sn
noncomputable def C8:=C7.sn
noncomputable def C9:=C8.sn
abbrev Q0 (R : Post) : Exit → Act → World → Prop := (bodyPost Try.prog Try.f25 R)
noncomputable def C10:=C9.sn
/-- value.go:175 -/
abbrev S2 (a3 t6 : Addr) (i10 : Int) (l12 : Sl) (w : World) (R : Post) : Prop :=
  drV w fun w1 => ∃ t104_0 : Int, ∃ t104_1 : Int, ∃ t104_2 : Int, w1.cell? ((a3.add 0).add 0) = some (.i t104_0) ∧ w1.cell? ((a3.add 0).add 1) = some (.i t104_1) ∧ w1.cell? ((a3.add 0).add 2) = some (.i t104_2) ∧ 
  ∃ t107 : Sl, w1.cell? (a3.add 5) = some (t107.v) ∧ 
  (0 : Int) ≤ i10 ∧ i10 ≤ ((t107.n : Nat) : Int) ∧ ∃ (t110 : Sl) (w2 : World), Sem.run Try.prog (Builtin.append_ #[ty_sl_value_Entry, ty_sl_value_Entry] ty_sl_value_Entry #[l12.v, .slice (if t107.c = (Int.toNat i10) then t107.a else t107.a.map (·.add ((Int.toNat i10) * 3))) (t107.n - (Int.toNat i10)) (t107.c - (Int.toNat i10))]) w1 = .ok (t110.v) w2 ∧ w2.cell? (a3.add 5) = some (t107.v) ∧ w2.cell? ((a3.add 0).add 0) = some (.i t104_0) ∧ w2.cell? ((a3.add 0).add 1) = some (.i t104_1) ∧ w2.cell? ((a3.add 0).add 2) = some (.i t104_2) ∧ stV w2 t6 (.i t104_0) fun w3 => 
  stV w3 (t6.add 1) (.i t104_1) fun w4 => 
  stV w4 (t6.add 2) (.i t104_2) fun w5 => 
  stV w5 (t6.add 3) (.u 0) fun w6 => 
  stV w6 (t6.add 4) (.s0) fun w7 => 
  stV w7 (t6.add 5) (t110.v) fun w8 => 
  ∃ r6_0 : Int, ∃ r6_1 : Int, ∃ r6_2 : Int, ∃ r6_3 : Int, ∃ r6_4 : ByteArray, ∃ r6_5 : Sl, w8.cell? (t6.add 0) = some (.i r6_0) ∧ w8.cell? (t6.add 1) = some (.i r6_1) ∧ w8.cell? (t6.add 2) = some (.i r6_2) ∧ w8.cell? (t6.add 3) = some (.u r6_3) ∧ w8.cell? (t6.add 4) = some (.string r6_4) ∧ w8.cell? (t6.add 5) = some (r6_5.v) ∧ 
  R (.returned (.tuple #[.agg #[.i r6_0, .i r6_1, .i r6_2, .u r6_3, .string r6_4, r6_5.v], .i 0])) w8
def KE_S2 (E : Env) (w : World) (R : Post) : Prop := asRef (Env.get? E 3) fun a3 => asRef (Env.get? E 6) fun t6 => W.asInt .i64 (Env.get? E 10) fun i10 => asSlice (Env.get? E 12) fun l12 => S2 a3 t6 i10 l12 w R
theorem KE_S2_ok (R : Post) (E : Env) (w : World) (h : KE_S2 E w R) : WP Try.prog (cx 112) C9 (Q0 R) E w := by
  obtain ⟨a3, hq3, h_1⟩ := asRef_elim h
  obtain ⟨t6, hq6, h_2⟩ := asRef_elim h_1
  obtain ⟨i10, hq10, h_3⟩ := asInt_elim h_2
  obtain ⟨l12, hq12, h_4⟩ := asSlice_elim h_3
  exact fun a ha => WP.at (E := [(3, .pointer (some a3)), (6, .pointer (some t6)), (10, .i i10), (12, l12.v)]) (sd C9 (K := fun E w => retVC Try.prog Try.f25 E w (fun v => R (.returned v) w)) (l := [0, 1, 2, 3, 4, 5, 6, 7, 8, 9, 10]) (by kernel_rfl) (Eq.mp (by kernel_rfl) h_4) fun _ _ hK => (rt C10 fun a hA => retVC_sound hA hK)) (ha.cons hq3 (ha.cons hq6 (ha.cons hq10 (ha.cons hq12 ha.nil))))
noncomputable def C11:=C8.fs
abbrev Q1 (R : Post) : Exit → Act → World → Prop := (Exit.then (wpx Try.prog (cx 112) C9 (bodyPost Try.prog Try.f25 R)) (bodyPost Try.prog Try.f25 R))
noncomputable def C12:=C11.sn
noncomputable def C13:=C12.fs
noncomputable def C14:=C12.sn
/-- value.go:172 -/
abbrev S1 (a3 t6 : Addr) (i10 : Int) (ok11 : Bool) (l12 : Sl) (w : World) (R : Post) : Prop :=
  sel ok11 (S2 a3 t6 (IntKind.wrap .i64 (i10 + 1)) l12 w R) (S2 a3 t6 i10 l12 w R)
def KE_S1 (E : Env) (w : World) (R : Post) : Prop := asRef (Env.get? E 3) fun a3 => asRef (Env.get? E 6) fun t6 => W.asInt .i64 (Env.get? E 10) fun i10 => asBool' (Env.get? E 11) fun ok11 => asSlice (Env.get? E 12) fun l12 => S1 a3 t6 i10 ok11 l12 w R
theorem KE_S1_ok (R : Post) (E : Env) (w : World) (h : KE_S1 E w R) : WP Try.prog (cx 112) C11 (Q1 R) E w := by
  obtain ⟨a3, hq3, h_1⟩ := asRef_elim h
  obtain ⟨t6, hq6, h_2⟩ := asRef_elim h_1
  obtain ⟨i10, hq10, h_3⟩ := asInt_elim h_2
  obtain ⟨ok11, hq11, h_4⟩ := asBool_elim h_3
  obtain ⟨l12, hq12, h_5⟩ := asSlice_elim h_4
  exact fun a ha => WP.at (E := [(3, .pointer (some a3)), (6, .pointer (some t6)), (10, .i i10), (11, .bool ok11), (12, l12.v)]) (sr C11 (K := fun E w => condK (Env.val E (.tmp 100)) (rgK Try.prog C13 (fun E w => KE_S2 E w R) E w) (KE_S2 E w R)) (Eq.mp (by kernel_rfl) h_5) fun _ _ hK => (cn C12 hK (fun hK => (rg C13 (by kernel_rfl) hK fun _ _ a hA hK => nx hA (KE_S2_ok R _ _ hK))) (fun hK => (sk C14 fun a hA => nx hA (KE_S2_ok R _ _ hK))))) (ha.cons hq3 (ha.cons hq6 (ha.cons hq10 (ha.cons hq11 (ha.cons hq12 ha.nil)))))
noncomputable def C15:=C4.fs
abbrev Q2 (R : Post) : Exit → Act → World → Prop := (Exit.then (wpx Try.prog (cx 112) C5 (bodyPost Try.prog Try.f25 R)) (bodyPost Try.prog Try.f25 R))
noncomputable def C16:=C15.sn
noncomputable def C17:=C16.fs
noncomputable def C18:=C7.fs
noncomputable def C19:=C18.sn
noncomputable def C20:=C19.sn
noncomputable def C21:=C20.fs
noncomputable def C22:=C17.sn
noncomputable def C23:=C16.sn
noncomputable def C24:=C20.sn
/-- value.go:164 -/
abbrev S0 (index1 : Int) (a3 v5 t6 : Addr) (w : World) (R : Post) : Prop :=
  ∃ t70 : Int, w.cell? ((a3.add 0).add 2) = some (.i t70) ∧ 
  Calls Try.prog n_value_below #[.u index1, .i t70] w fun r_ w1 => ∃ t71 : Bool, r_ = .returned (.bool t71) ∧ 
  sel (!t71) (stV w1 t6 (.i 0) fun w2 => 
  stV w2 (t6.add 1) (.i 0) fun w3 => 
  stV w3 (t6.add 2) (.i 0) fun w4 => 
  stV w4 (t6.add 3) (.u 0) fun w5 => 
  stV w5 (t6.add 4) (.s0) fun w6 => 
  stV w6 (t6.add 5) (.slice none 0 0) fun w7 => 
  ∃ r6_0 : Int, ∃ r6_1 : Int, ∃ r6_2 : Int, ∃ r6_3 : Int, ∃ r6_4 : ByteArray, ∃ r6_5 : Sl, w7.cell? (t6.add 0) = some (.i r6_0) ∧ w7.cell? (t6.add 1) = some (.i r6_1) ∧ w7.cell? (t6.add 2) = some (.i r6_2) ∧ w7.cell? (t6.add 3) = some (.u r6_3) ∧ w7.cell? (t6.add 4) = some (.string r6_4) ∧ w7.cell? (t6.add 5) = some (r6_5.v) ∧ 
  R (.returned (.tuple #[.agg #[.i r6_0, .i r6_1, .i r6_2, .u r6_3, .string r6_4, r6_5.v], .i 5])) w7) (∃ t76 : Sl, w1.cell? (a3.add 5) = some (t76.v) ∧ 
  Calls Try.prog n_value_place #[t76.v, .u index1] w1 fun r_ w8 => ∃ t78_0 : Int, ∃ t78_1 : Bool, r_ = .returned (.tuple #[.i t78_0, .bool t78_1]) ∧ 
  ∃ t82 : Sl, w8.cell? (a3.add 5) = some (t82.v) ∧ 
  (0 : Int) ≤ t78_0 ∧ t78_0 ≤ ((t82.c : Nat) : Int) ∧ Calls Try.prog n_slices_Clone_sl_value_Entry_value_Entry #[.slice (if t82.c = 0 then t82.a else t82.a.map (·.add (0 * 3))) ((Int.toNat t78_0) - 0) (t82.c - 0)] w8 fun r_ w9 => ∃ t85 : Sl, r_ = .returned (t85.v) ∧ 
  ∃ t88 : Int, w9.cell? (v5.add 3) = some (.u t88) ∧ 
  ∃ t90 : ByteArray, w9.cell? (v5.add 4) = some (.string t90) ∧ 
  nwV w9 (.cells #[.u 0, .u 0, .s0] ty_value_Entry) fun w10 => 
  stV w10 (nb w9) (.u index1) fun w11 => 
  stV w11 ((nb w9).add 1) (.u t88) fun w12 => 
  stV w12 ((nb w9).add 2) (.string t90) fun w13 => 
  ∃ t92_0 : Int, ∃ t92_1 : Int, ∃ t92_2 : ByteArray, w13.cell? ((nb w9).add 0) = some (.u t92_0) ∧ w13.cell? ((nb w9).add 1) = some (.u t92_1) ∧ w13.cell? ((nb w9).add 2) = some (.string t92_2) ∧ 
  sel (!((t92_0 == index1) && ((t92_1 == 0) && ((t92_2.toList == (ByteArray.mk #[]).toList) && true)))) (∃ t97_0 : Int, ∃ t97_1 : Int, ∃ t97_2 : ByteArray, w13.cell? ((nb w9).add 0) = some (.u t97_0) ∧ w13.cell? ((nb w9).add 1) = some (.u t97_1) ∧ w13.cell? ((nb w9).add 2) = some (.string t97_2) ∧ 
  nwV w13 (.cells #[.u t97_0, .u t97_1, .string t97_2] ty_value_Entry) fun w14 => 
  ∃ (t99 : Sl) (w15 : World), Sem.run Try.prog (Builtin.append_ #[ty_sl_value_Entry, ty_sl_value_Entry] ty_sl_value_Entry #[t85.v, .slice (some (nb w13)) 1 1]) w14 = .ok (t99.v) w15 ∧ S1 a3 t6 t78_0 t78_1 t99 w15 R) (S1 a3 t6 t78_0 t78_1 t85 w13 R))
def KE_S0 (E : Env) (w : World) (R : Post) : Prop := W.asInt .u64 (Env.get? E 1) fun index1 => asRef (Env.get? E 3) fun a3 => asRef (Env.get? E 5) fun v5 => asRef (Env.get? E 6) fun t6 => S0 index1 a3 v5 t6 w R
theorem KE_S0_ok (R : Post) (E : Env) (w : World) (h : KE_S0 E w R) : WP Try.prog (cx 112) C15 (Q2 R) E w := by
  obtain ⟨index1, hq1, h_1⟩ := asInt_elim h
  obtain ⟨a3, hq3, h_2⟩ := asRef_elim h_1
  obtain ⟨v5, hq5, h_3⟩ := asRef_elim h_2
  obtain ⟨t6, hq6, h_4⟩ := asRef_elim h_3
  exact fun a ha => WP.at (E := [(1, .u index1), (3, .pointer (some a3)), (5, .pointer (some v5)), (6, .pointer (some t6))]) (sr C15 (K := fun E w => condK (Env.val E (.tmp 72)) (srK Try.prog C17 (fun E w => retVC Try.prog Try.f25 E w (fun v => R (.returned v) w)) E w) (srK Try.prog C5 (fun E w => srK Try.prog C6 (fun E w => srK Try.prog C18 (fun E w => srK Try.prog C19 (fun E w => condK (Env.val E (.tmp 95)) (rgK Try.prog C21 (fun E w => KE_S1 E w R) E w) (KE_S1 E w R)) E w) E w) E w) E w)) (Eq.mp (by kernel_rfl) h_4) fun _ _ hK => (cn C16 hK (fun hK => (sr C17 hK fun _ _ hK => (rt C22 fun a hA => retVC_sound hA hK))) (fun hK => (sk C23 fun a hA => nx hA (sr C5 hK fun _ _ hK => (sr C6 hK fun _ _ hK => (sq C7 (sr C18 hK fun _ _ hK => (sr C19 hK fun _ _ hK => (cn C20 hK (fun hK => (rg C21 (by kernel_rfl) hK fun _ _ a hA hK => nx hA (sq C8 (KE_S1_ok R _ _ hK)))) (fun hK => (sk C24 fun a hA => nx hA (sq C8 (KE_S1_ok R _ _ hK)))))))))))))) (ha.cons hq1 (ha.cons hq3 (ha.cons hq5 (ha.cons hq6 ha.nil))))
noncomputable def C25:=C3.fs
noncomputable def C26:=C25.fs
noncomputable def C27:=C26.sn
noncomputable def C28:=C27.sn
noncomputable def C29:=C28.sn
noncomputable def C30:=C29.sn
abbrev Q3 (R : Post) : Exit → Act → World → Prop := (Exit.then (wpx Try.prog (cx 112) C4 (bodyPost Try.prog Try.f25 R)) (bodyPost Try.prog Try.f25 R))
abbrev Q4 (R : Post) : Exit → Act → World → Prop := (Exit.inBlock 0 (Q3 R))
noncomputable def C31:=C30.sn
/-- value.go:162 -/
abbrev S4 (t6 : Addr) (w : World) (R : Post) : Prop :=
  stV w t6 (.i 0) fun w1 => 
  stV w1 (t6.add 1) (.i 0) fun w2 => 
  stV w2 (t6.add 2) (.i 0) fun w3 => 
  stV w3 (t6.add 3) (.u 0) fun w4 => 
  stV w4 (t6.add 4) (.s0) fun w5 => 
  stV w5 (t6.add 5) (.slice none 0 0) fun w6 => 
  ∃ r6_0 : Int, ∃ r6_1 : Int, ∃ r6_2 : Int, ∃ r6_3 : Int, ∃ r6_4 : ByteArray, ∃ r6_5 : Sl, w6.cell? (t6.add 0) = some (.i r6_0) ∧ w6.cell? (t6.add 1) = some (.i r6_1) ∧ w6.cell? (t6.add 2) = some (.i r6_2) ∧ w6.cell? (t6.add 3) = some (.u r6_3) ∧ w6.cell? (t6.add 4) = some (.string r6_4) ∧ w6.cell? (t6.add 5) = some (r6_5.v) ∧ 
  R (.returned (.tuple #[.agg #[.i r6_0, .i r6_1, .i r6_2, .u r6_3, .string r6_4, r6_5.v], .i 9])) w6
def KE_S4 (E : Env) (w : World) (R : Post) : Prop := asRef (Env.get? E 6) fun t6 => S4 t6 w R
theorem KE_S4_ok (R : Post) (E : Env) (w : World) (h : KE_S4 E w R) : WP Try.prog (cx 112) C30 (Q4 R) E w := by
  obtain ⟨t6, hq6, h_1⟩ := asRef_elim h
  exact fun a ha => WP.at (E := [(6, .pointer (some t6))]) (sr C30 (K := fun E w => retVC Try.prog Try.f25 E w (fun v => R (.returned v) w)) (Eq.mp (by kernel_rfl) h_1) fun _ _ hK => (rt C31 fun a hA => retVC_sound hA hK)) (ha.cons hq6 ha.nil)
noncomputable def C32:=C29.fs
/-- value.go:160 -/
abbrev S3 (index1 : Int) (a3 v5 t6 : Addr) (w : World) (R : Post) : Prop :=
  ∃ t50 : Int, w.cell? ((a3.add 0).add 0) = some (.i t50) ∧ 
  sel (t50 == 3) (∃ t55 : Int, w.cell? ((v5.add 0).add 0) = some (.i t55) ∧ 
  sel (t55 == 1) (∃ t61 : Int, w.cell? ((v5.add 0).add 1) = some (.i t61) ∧ 
  ∃ t64 : Int, w.cell? ((a3.add 0).add 1) = some (.i t64) ∧ 
  sel (decide (t61 ≤ t64)) (S0 index1 a3 v5 t6 w R) (S4 t6 w R)) (S4 t6 w R)) (S4 t6 w R)
def KE_S3 (E : Env) (w : World) (R : Post) : Prop := W.asInt .u64 (Env.get? E 1) fun index1 => asRef (Env.get? E 3) fun a3 => asRef (Env.get? E 5) fun v5 => asRef (Env.get? E 6) fun t6 => S3 index1 a3 v5 t6 w R
theorem KE_S3_ok (R : Post) (E : Env) (w : World) (h : KE_S3 E w R) : WP Try.prog (cx 112) C28 (Q4 R) E w := by
  obtain ⟨index1, hq1, h_1⟩ := asInt_elim h
  obtain ⟨a3, hq3, h_2⟩ := asRef_elim h_1
  obtain ⟨v5, hq5, h_3⟩ := asRef_elim h_2
  obtain ⟨t6, hq6, h_4⟩ := asRef_elim h_3
  exact fun a ha => WP.at (E := [(1, .u index1), (3, .pointer (some a3)), (5, .pointer (some v5)), (6, .pointer (some t6))]) (sr C28 (K := fun E w => condK (Env.val E (.tmp 47)) (KE_S0 E w R) (KE_S4 E w R)) (Eq.mp (by kernel_rfl) h_4) fun _ _ hK => (cn C29 hK (fun hK => (sk C32 fun a hA => nx hA (sq C4 (KE_S0_ok R _ _ hK)))) (fun hK => (KE_S4_ok R _ _ hK)))) (ha.cons hq1 (ha.cons hq3 (ha.cons hq5 (ha.cons hq6 ha.nil))))
/-- enthymeme/value.Store -/
noncomputable def C33:=C1.fs
noncomputable def C34:=C33.sn
noncomputable def C35:=C34.sn
noncomputable def C36:=C35.fs
noncomputable def C37:=C2.fs
noncomputable def C38:=C37.sn
noncomputable def C39:=C38.sn
noncomputable def C40:=C39.fs
noncomputable def C41:=C36.sn
noncomputable def C42:=C35.sn
noncomputable def C43:=C40.sn
noncomputable def C44:=C39.sn
noncomputable def C45:=C27.fs
theorem ok (a0_0 a0_1 a0_2 a0_3 : Int) (a0_4 : ByteArray) (a0_5 : Sl) (index1 v2_0 v2_1 v2_2 v2_3 : Int) (v2_4 : ByteArray) (v2_5 : Sl) (w : World) (R : Post) (h : nwV w (.cells #[.i a0_0, .i a0_1, .i a0_2, .u a0_3, .string a0_4, a0_5.v] ty_value_Value) fun w1 => 
  nwV w1 (.cells #[.i v2_0, .i v2_1, .i v2_2, .u v2_3, .string v2_4, v2_5.v] ty_value_Value) fun w2 => 
  nwV w2 (.cells #[.i 0, .i 0, .i 0, .u 0, .s0, .slice none 0 0] ty_value_Value) fun w3 => 
  ∃ t14_0 : Int, ∃ t14_1 : Int, ∃ t14_2 : Int, ∃ t14_3 : Int, ∃ t14_4 : ByteArray, ∃ t14_5 : Sl, w3.cell? ((nb w).add 0) = some (.i t14_0) ∧ w3.cell? ((nb w).add 1) = some (.i t14_1) ∧ w3.cell? ((nb w).add 2) = some (.i t14_2) ∧ w3.cell? ((nb w).add 3) = some (.u t14_3) ∧ w3.cell? ((nb w).add 4) = some (.string t14_4) ∧ w3.cell? ((nb w).add 5) = some (t14_5.v) ∧ 
  Calls Try.prog n_value_Valid #[.agg #[.i t14_0, .i t14_1, .i t14_2, .u t14_3, .string t14_4, t14_5.v]] w3 fun r_ w4 => ∃ t15 : Int, r_ = .returned (.i t15) ∧ 
  sel (t15 != 0) (stV w4 (nb w2) (.i 0) fun w5 => 
  stV w5 ((nb w2).add 1) (.i 0) fun w6 => 
  stV w6 ((nb w2).add 2) (.i 0) fun w7 => 
  stV w7 ((nb w2).add 3) (.u 0) fun w8 => 
  stV w8 ((nb w2).add 4) (.s0) fun w9 => 
  stV w9 ((nb w2).add 5) (.slice none 0 0) fun w10 => 
  ∃ r6_0 : Int, ∃ r6_1 : Int, ∃ r6_2 : Int, ∃ r6_3 : Int, ∃ r6_4 : ByteArray, ∃ r6_5 : Sl, w10.cell? ((nb w2).add 0) = some (.i r6_0) ∧ w10.cell? ((nb w2).add 1) = some (.i r6_1) ∧ w10.cell? ((nb w2).add 2) = some (.i r6_2) ∧ w10.cell? ((nb w2).add 3) = some (.u r6_3) ∧ w10.cell? ((nb w2).add 4) = some (.string r6_4) ∧ w10.cell? ((nb w2).add 5) = some (r6_5.v) ∧ 
  R (.returned (.tuple #[.agg #[.i r6_0, .i r6_1, .i r6_2, .u r6_3, .string r6_4, r6_5.v], .i t15])) w10) (∃ t20_0 : Int, ∃ t20_1 : Int, ∃ t20_2 : Int, ∃ t20_3 : Int, ∃ t20_4 : ByteArray, ∃ t20_5 : Sl, w4.cell? ((nb w1).add 0) = some (.i t20_0) ∧ w4.cell? ((nb w1).add 1) = some (.i t20_1) ∧ w4.cell? ((nb w1).add 2) = some (.i t20_2) ∧ w4.cell? ((nb w1).add 3) = some (.u t20_3) ∧ w4.cell? ((nb w1).add 4) = some (.string t20_4) ∧ w4.cell? ((nb w1).add 5) = some (t20_5.v) ∧ 
  Calls Try.prog n_value_Valid #[.agg #[.i t20_0, .i t20_1, .i t20_2, .u t20_3, .string t20_4, t20_5.v]] w4 fun r_ w11 => ∃ t21 : Int, r_ = .returned (.i t21) ∧ 
  sel (t21 != 0) (stV w11 (nb w2) (.i 0) fun w12 => 
  stV w12 ((nb w2).add 1) (.i 0) fun w13 => 
  stV w13 ((nb w2).add 2) (.i 0) fun w14 => 
  stV w14 ((nb w2).add 3) (.u 0) fun w15 => 
  stV w15 ((nb w2).add 4) (.s0) fun w16 => 
  stV w16 ((nb w2).add 5) (.slice none 0 0) fun w17 => 
  ∃ r6_0 : Int, ∃ r6_1 : Int, ∃ r6_2 : Int, ∃ r6_3 : Int, ∃ r6_4 : ByteArray, ∃ r6_5 : Sl, w17.cell? ((nb w2).add 0) = some (.i r6_0) ∧ w17.cell? ((nb w2).add 1) = some (.i r6_1) ∧ w17.cell? ((nb w2).add 2) = some (.i r6_2) ∧ w17.cell? ((nb w2).add 3) = some (.u r6_3) ∧ w17.cell? ((nb w2).add 4) = some (.string r6_4) ∧ w17.cell? ((nb w2).add 5) = some (r6_5.v) ∧ 
  R (.returned (.tuple #[.agg #[.i r6_0, .i r6_1, .i r6_2, .u r6_3, .string r6_4, r6_5.v], .i t21])) w17) (∃ t30 : Int, w11.cell? (((nb w).add 0).add 0) = some (.i t30) ∧ 
  sel (t30 == 2) (∃ t35 : Int, w11.cell? (((nb w1).add 0).add 0) = some (.i t35) ∧ 
  sel (t35 == 0) (∃ t41 : Int, w11.cell? (((nb w1).add 0).add 1) = some (.i t41) ∧ 
  ∃ t44 : Int, w11.cell? (((nb w).add 0).add 1) = some (.i t44) ∧ 
  sel (t41 == t44) (S0 index1 (nb w) (nb w1) (nb w2) w11 R) (S3 index1 (nb w) (nb w1) (nb w2) w11 R)) (S3 index1 (nb w) (nb w1) (nb w2) w11 R)) (S3 index1 (nb w) (nb w1) (nb w2) w11 R)))) : Calls Try.prog n_value_Store #[.agg #[.i a0_0, .i a0_1, .i a0_2, .u a0_3, .string a0_4, a0_5.v], .u index1, .agg #[.i v2_0, .i v2_1, .i v2_2, .u v2_3, .string v2_4, v2_5.v]] w R :=
  calls_of_WP' (R := R) (fn := Try.f25) (c := C0) (args := [.agg #[.i a0_0, .i a0_1, .i a0_2, .u a0_3, .string a0_4, a0_5.v], .u index1, .agg #[.i v2_0, .i v2_1, .i v2_2, .u v2_3, .string v2_4, v2_5.v]]) (by kernel_rfl) (by kernel_rfl) (by kernel_rfl) (sr C0 (show (fun (E : Env) (w : World) => srK Try.prog C0 (fun E w => srK Try.prog C33 (fun E w => srK Try.prog C34 (fun E w => condK (Env.val E (.tmp 17)) (srK Try.prog C36 (fun E w => retVC Try.prog Try.f25 E w (fun v => R (.returned v) w)) E w) (srK Try.prog C37 (fun E w => srK Try.prog C38 (fun E w => condK (Env.val E (.tmp 23)) (srK Try.prog C40 (fun E w => retVC Try.prog Try.f25 E w (fun v => R (.returned v) w)) E w) (srK Try.prog C26 (fun E w => condK (Env.val E (.tmp 27)) (KE_S0 E w R) (KE_S3 E w R)) E w)) E w) E w)) E w) E w) E w) (envOf 0 [.agg #[.i a0_0, .i a0_1, .i a0_2, .u a0_3, .string a0_4, a0_5.v], .u index1, .agg #[.i v2_0, .i v2_1, .i v2_2, .u v2_3, .string v2_4, v2_5.v]]) w from Eq.mp (by kernel_rfl) h) fun _ _ hK => (sq C1 (sr C33 hK fun _ _ hK => (sr C34 hK fun _ _ hK => (cn C35 hK (fun hK => (sr C36 hK fun _ _ hK => (rt C41 fun a hA => retVC_sound hA hK))) (fun hK => (sk C42 fun a hA => nx hA (sq C2 (sr C37 hK fun _ _ hK => (sr C38 hK fun _ _ hK => (cn C39 hK (fun hK => (sr C40 hK fun _ _ hK => (rt C43 fun a hA => retVC_sound hA hK))) (fun hK => (sk C44 fun a hA => nx hA (sq C3 (bk C25 0 (by kernel_rfl) (sr C26 hK fun _ _ hK => (cn C27 hK (fun hK => (sk C45 fun a hA => nx hA (sq C4 (KE_S0_ok R _ _ hK)))) (fun hK => (KE_S3_ok R _ _ hK)))))))))))))))))))
abbrev S2T (a3 : Nat) (a3_0 a3_1 a3_2 a3_3 : Int) (a3_4 : ByteArray) (a3_5 : Sl) (t6 : Nat) (t6_0 t6_1 t6_2 t6_3 : Int) (t6_4 : ByteArray) (t6_5 : Sl) (i10 : Int) (l12 : Sl) (w : World) (R : Post) : Prop :=
  (0 : Int) ≤ i10 ∧ i10 ≤ ((a3_5.n : Nat) : Int) ∧ loc [a3, t6] w fun w1 => ∃ (t110 : Sl) (w2 : World), Sem.run Try.prog (Builtin.append_ #[ty_sl_value_Entry, ty_sl_value_Entry] ty_sl_value_Entry #[l12.v, .slice (if a3_5.c = (Int.toNat i10) then a3_5.a else a3_5.a.map (·.add ((Int.toNat i10) * 3))) (a3_5.n - (Int.toNat i10)) (a3_5.c - (Int.toNat i10))]) w1 = .ok (t110.v) w2 ∧ kept [a3, t6] w1 w2 ∧ loc [a3, t6] w2 fun w8 => R (.returned (.tuple #[.agg #[.i a3_0, .i a3_1, .i a3_2, .u 0, .s0, t110.v], .i 0])) w8
theorem S2T_ok {a3 : Nat} {a3_0 a3_1 a3_2 a3_3 : Int} {a3_4 : ByteArray} {a3_5 : Sl} {t6 : Nat} {t6_0 t6_1 t6_2 t6_3 : Int} {t6_4 : ByteArray} {t6_5 : Sl} {i10 : Int} {l12 : Sl} {w : World} {R : Post} (h : S2T a3 a3_0 a3_1 a3_2 a3_3 a3_4 a3_5 t6 t6_0 t6_1 t6_2 t6_3 t6_4 t6_5 i10 l12 w R) (H : LC w [(a3, [.i a3_0, .i a3_1, .i a3_2, .u a3_3, .string a3_4, a3_5.v], ty_value_Value), (t6, [.i t6_0, .i t6_1, .i t6_2, .u t6_3, .string t6_4, t6_5.v], ty_value_Value)]) : S2 (at0 a3) (at0 t6) i10 l12 w R := LC.drT H (Fr.refl _ _) fun w1 H f => ⟨_, _, _, H.ld 0 0, H.ld 0 1, H.ld 0 2, ⟨a3_5, H.ld 0 5, ⟨h.1, h.2.1, have h := h.2.2; have h := h _ f; let ⟨t110, w2, he, hk, h⟩ := h; have H := LC.keptT H hk; ⟨t110, w2, he, ⟨H.ld 0 5, H.ld 0 0, H.ld 0 1, H.ld 0 2, LC.stT0 H 1 (Fr.refl _ _) rfl rfl fun w3 H f => LC.stT H 1 1 f rfl rfl fun w4 H f => LC.stT H 1 2 f rfl rfl fun w5 H f => LC.stT H 1 3 f rfl rfl fun w6 H f => LC.stT H 1 4 f rfl rfl fun w7 H f => LC.stT H 1 5 f rfl rfl fun w8 (H : LC w8 [(a3, [.i a3_0, .i a3_1, .i a3_2, .u a3_3, .string a3_4, a3_5.v], ty_value_Value), (t6, [.i a3_0, .i a3_1, .i a3_2, .u 0, .s0, t110.v], ty_value_Value)]) (f : Fr (· ∈ [a3, t6]) _ w8) => ⟨_, _, _, _, _, t110, H.ld 1 0, H.ld 1 1, H.ld 1 2, H.ld 1 3, H.ld 1 4, H.ld 1 5, have h := h _ f; h⟩⟩⟩⟩⟩⟩
abbrev S1T (a3 : Nat) (a3_0 a3_1 a3_2 a3_3 : Int) (a3_4 : ByteArray) (a3_5 : Sl) (t6 : Nat) (t6_0 t6_1 t6_2 t6_3 : Int) (t6_4 : ByteArray) (t6_5 : Sl) (i10 : Int) (ok11 : Bool) (l12 : Sl) (w : World) (R : Post) : Prop :=
  sel ok11 (S2T a3 a3_0 a3_1 a3_2 a3_3 a3_4 a3_5 t6 t6_0 t6_1 t6_2 t6_3 t6_4 t6_5 (IntKind.wrap .i64 (i10 + 1)) l12 w R) (S2T a3 a3_0 a3_1 a3_2 a3_3 a3_4 a3_5 t6 t6_0 t6_1 t6_2 t6_3 t6_4 t6_5 i10 l12 w R)
theorem S1T_ok {a3 : Nat} {a3_0 a3_1 a3_2 a3_3 : Int} {a3_4 : ByteArray} {a3_5 : Sl} {t6 : Nat} {t6_0 t6_1 t6_2 t6_3 : Int} {t6_4 : ByteArray} {t6_5 : Sl} {i10 : Int} {ok11 : Bool} {l12 : Sl} {w : World} {R : Post} (h : S1T a3 a3_0 a3_1 a3_2 a3_3 a3_4 a3_5 t6 t6_0 t6_1 t6_2 t6_3 t6_4 t6_5 i10 ok11 l12 w R) (H : LC w [(a3, [.i a3_0, .i a3_1, .i a3_2, .u a3_3, .string a3_4, a3_5.v], ty_value_Value), (t6, [.i t6_0, .i t6_1, .i t6_2, .u t6_3, .string t6_4, t6_5.v], ty_value_Value)]) : S1 (at0 a3) (at0 t6) i10 ok11 l12 w R := sel_imp h (fun h => S2T_ok h H) (fun h => S2T_ok h H)
abbrev S0T (index1 : Int) (a3 : Nat) (a3_0 a3_1 a3_2 a3_3 : Int) (a3_4 : ByteArray) (a3_5 : Sl) (v5 : Nat) (v5_0 v5_1 v5_2 v5_3 : Int) (v5_4 : ByteArray) (v5_5 : Sl) (t6 : Nat) (t6_0 t6_1 t6_2 t6_3 : Int) (t6_4 : ByteArray) (t6_5 : Sl) (w : World) (R : Post) : Prop :=
  callF [a3, v5, t6] Try.prog n_value_below #[.u index1, .i a3_2] w fun r_ w1 => ∃ t71 : Bool, r_ = .returned (.bool t71) ∧ 
  sel (!t71) (loc [a3, v5, t6] w1 fun w7 => R (.returned (.tuple #[.agg #[.i 0, .i 0, .i 0, .u 0, .s0, .slice none 0 0], .i 5])) w7) (callF [a3, v5, t6] Try.prog n_value_place #[a3_5.v, .u index1] w1 fun r_ w8 => ∃ t78_0 : Int, ∃ t78_1 : Bool, r_ = .returned (.tuple #[.i t78_0, .bool t78_1]) ∧ 
  (0 : Int) ≤ t78_0 ∧ t78_0 ≤ ((a3_5.c : Nat) : Int) ∧ callF [a3, v5, t6] Try.prog n_slices_Clone_sl_value_Entry_value_Entry #[.slice (if a3_5.c = 0 then a3_5.a else a3_5.a.map (·.add (0 * 3))) ((Int.toNat t78_0) - 0) (a3_5.c - 0)] w8 fun r_ w9 => ∃ t85 : Sl, r_ = .returned (t85.v) ∧ 
  newV [a3, v5, t6] w9 fun b13 w10 => 
  sel (!((index1 == index1) && ((v5_3 == 0) && ((v5_4.toList == (ByteArray.mk #[]).toList) && true)))) (loc [a3, v5, t6, b13] w10 fun w13 => nwV w13 (.cells #[.u index1, .u v5_3, .string v5_4] ty_value_Entry) fun w14 => 
  ∃ (t99 : Sl) (w15 : World), Sem.run Try.prog (Builtin.append_ #[ty_sl_value_Entry, ty_sl_value_Entry] ty_sl_value_Entry #[t85.v, .slice (some (nb w13)) 1 1]) w14 = .ok (t99.v) w15 ∧ kept [a3, v5, t6, b13] w14 w15 ∧ S1T a3 a3_0 a3_1 a3_2 a3_3 a3_4 a3_5 t6 t6_0 t6_1 t6_2 t6_3 t6_4 t6_5 t78_0 t78_1 t99 w15 R) (loc [a3, v5, t6, b13] w10 fun w13 => S1T a3 a3_0 a3_1 a3_2 a3_3 a3_4 a3_5 t6 t6_0 t6_1 t6_2 t6_3 t6_4 t6_5 t78_0 t78_1 t85 w13 R))
theorem S0T_ok {index1 : Int} {a3 : Nat} {a3_0 a3_1 a3_2 a3_3 : Int} {a3_4 : ByteArray} {a3_5 : Sl} {v5 : Nat} {v5_0 v5_1 v5_2 v5_3 : Int} {v5_4 : ByteArray} {v5_5 : Sl} {t6 : Nat} {t6_0 t6_1 t6_2 t6_3 : Int} {t6_4 : ByteArray} {t6_5 : Sl} {w : World} {R : Post} (h : S0T index1 a3 a3_0 a3_1 a3_2 a3_3 a3_4 a3_5 v5 v5_0 v5_1 v5_2 v5_3 v5_4 v5_5 t6 t6_0 t6_1 t6_2 t6_3 t6_4 t6_5 w R) (H : LC w [(a3, [.i a3_0, .i a3_1, .i a3_2, .u a3_3, .string a3_4, a3_5.v], ty_value_Value), (v5, [.i v5_0, .i v5_1, .i v5_2, .u v5_3, .string v5_4, v5_5.v], ty_value_Value), (t6, [.i t6_0, .i t6_1, .i t6_2, .u t6_3, .string t6_4, t6_5.v], ty_value_Value)]) : S0 index1 (at0 a3) (at0 v5) (at0 t6) w R := ⟨_, H.ld 0 2, LC.callT H h fun r_ w1 H h => let ⟨t71, hr, h⟩ := h; ⟨t71, hr, sel_imp h (fun h => LC.stT0 H 2 (Fr.refl _ _) rfl rfl fun w2 H f => LC.stT H 2 1 f rfl rfl fun w3 H f => LC.stT H 2 2 f rfl rfl fun w4 H f => LC.stT H 2 3 f rfl rfl fun w5 H f => LC.stT H 2 4 f rfl rfl fun w6 H f => LC.stT H 2 5 f rfl rfl fun w7 (H : LC w7 [(a3, [.i a3_0, .i a3_1, .i a3_2, .u a3_3, .string a3_4, a3_5.v], ty_value_Value), (v5, [.i v5_0, .i v5_1, .i v5_2, .u v5_3, .string v5_4, v5_5.v], ty_value_Value), (t6, [.i 0, .i 0, .i 0, .u 0, .s0, .slice none 0 0], ty_value_Value)]) (f : Fr (· ∈ [a3, v5, t6]) _ w7) => ⟨_, _, _, _, _, ⟨none, 0, 0⟩, H.ld 2 0, H.ld 2 1, H.ld 2 2, H.ld 2 3, H.ld 2 4, H.ld 2 5, have h := h _ f; h⟩) (fun h => ⟨a3_5, H.ld 0 5, LC.callT H h fun r_ w8 H h => let ⟨t78_0, t78_1, hr, h⟩ := h; ⟨t78_0, t78_1, hr, ⟨a3_5, H.ld 0 5, ⟨h.1, h.2.1, have h := h.2.2; LC.callT H h fun r_ w9 H h => let ⟨t85, hr, h⟩ := h; ⟨t85, hr, ⟨_, H.ld 1 3, ⟨_, H.ld 1 4, LC.nwT H (Fr.refl _ _) h fun w10 (H : LC w10 [(a3, [.i a3_0, .i a3_1, .i a3_2, .u a3_3, .string a3_4, a3_5.v], ty_value_Value), (v5, [.i v5_0, .i v5_1, .i v5_2, .u v5_3, .string v5_4, v5_5.v], ty_value_Value), (t6, [.i t6_0, .i t6_1, .i t6_2, .u t6_3, .string t6_4, t6_5.v], ty_value_Value), (w9.heap.size, [.u 0, .u 0, .s0], ty_value_Entry)]) h => LC.stT0 H 3 (Fr.refl _ _) rfl rfl fun w11 H f => LC.stT H 3 1 f rfl rfl fun w12 H f => LC.stT H 3 2 f rfl rfl fun w13 (H : LC w13 [(a3, [.i a3_0, .i a3_1, .i a3_2, .u a3_3, .string a3_4, a3_5.v], ty_value_Value), (v5, [.i v5_0, .i v5_1, .i v5_2, .u v5_3, .string v5_4, v5_5.v], ty_value_Value), (t6, [.i t6_0, .i t6_1, .i t6_2, .u t6_3, .string t6_4, t6_5.v], ty_value_Value), (w9.heap.size, [.u index1, .u v5_3, .string v5_4], ty_value_Entry)]) (f : Fr (· ∈ [a3, v5, t6, w9.heap.size]) _ w13) => ⟨_, _, _, H.ld 3 0, H.ld 3 1, H.ld 3 2, sel_imp h (fun h => ⟨_, _, _, H.ld 3 0, H.ld 3 1, H.ld 3 2, have h := h _ f; LC.nwN H h fun w14 H h => let ⟨t99, w15, he, hk, h⟩ := h; have H := LC.keptT H hk; ⟨t99, w15, he, S1T_ok h (H.pick [0, 2] (by decide))⟩⟩) (fun h => have h := h _ f; S1T_ok h (H.pick [0, 2] (by decide)))⟩⟩⟩⟩⟩⟩⟩⟩)⟩⟩
abbrev S4T (t6 : Nat) (t6_0 t6_1 t6_2 t6_3 : Int) (t6_4 : ByteArray) (t6_5 : Sl) (w : World) (R : Post) : Prop :=
  loc [t6] w fun w6 => R (.returned (.tuple #[.agg #[.i 0, .i 0, .i 0, .u 0, .s0, .slice none 0 0], .i 9])) w6
theorem S4T_ok {t6 : Nat} {t6_0 t6_1 t6_2 t6_3 : Int} {t6_4 : ByteArray} {t6_5 : Sl} {w : World} {R : Post} (h : S4T t6 t6_0 t6_1 t6_2 t6_3 t6_4 t6_5 w R) (H : LC w [(t6, [.i t6_0, .i t6_1, .i t6_2, .u t6_3, .string t6_4, t6_5.v], ty_value_Value)]) : S4 (at0 t6) w R := LC.stT0 H 0 (Fr.refl _ _) rfl rfl fun w1 H f => LC.stT H 0 1 f rfl rfl fun w2 H f => LC.stT H 0 2 f rfl rfl fun w3 H f => LC.stT H 0 3 f rfl rfl fun w4 H f => LC.stT H 0 4 f rfl rfl fun w5 H f => LC.stT H 0 5 f rfl rfl fun w6 (H : LC w6 [(t6, [.i 0, .i 0, .i 0, .u 0, .s0, .slice none 0 0], ty_value_Value)]) (f : Fr (· ∈ [t6]) _ w6) => ⟨_, _, _, _, _, ⟨none, 0, 0⟩, H.ld 0 0, H.ld 0 1, H.ld 0 2, H.ld 0 3, H.ld 0 4, H.ld 0 5, have h := h _ f; h⟩
abbrev S3T (index1 : Int) (a3 : Nat) (a3_0 a3_1 a3_2 a3_3 : Int) (a3_4 : ByteArray) (a3_5 : Sl) (v5 : Nat) (v5_0 v5_1 v5_2 v5_3 : Int) (v5_4 : ByteArray) (v5_5 : Sl) (t6 : Nat) (t6_0 t6_1 t6_2 t6_3 : Int) (t6_4 : ByteArray) (t6_5 : Sl) (w : World) (R : Post) : Prop :=
  sel (a3_0 == 3) (sel (v5_0 == 1) (sel (decide (v5_1 ≤ a3_1)) (S0T index1 a3 a3_0 a3_1 a3_2 a3_3 a3_4 a3_5 v5 v5_0 v5_1 v5_2 v5_3 v5_4 v5_5 t6 t6_0 t6_1 t6_2 t6_3 t6_4 t6_5 w R) (S4T t6 t6_0 t6_1 t6_2 t6_3 t6_4 t6_5 w R)) (S4T t6 t6_0 t6_1 t6_2 t6_3 t6_4 t6_5 w R)) (S4T t6 t6_0 t6_1 t6_2 t6_3 t6_4 t6_5 w R)
theorem S3T_ok {index1 : Int} {a3 : Nat} {a3_0 a3_1 a3_2 a3_3 : Int} {a3_4 : ByteArray} {a3_5 : Sl} {v5 : Nat} {v5_0 v5_1 v5_2 v5_3 : Int} {v5_4 : ByteArray} {v5_5 : Sl} {t6 : Nat} {t6_0 t6_1 t6_2 t6_3 : Int} {t6_4 : ByteArray} {t6_5 : Sl} {w : World} {R : Post} (h : S3T index1 a3 a3_0 a3_1 a3_2 a3_3 a3_4 a3_5 v5 v5_0 v5_1 v5_2 v5_3 v5_4 v5_5 t6 t6_0 t6_1 t6_2 t6_3 t6_4 t6_5 w R) (H : LC w [(a3, [.i a3_0, .i a3_1, .i a3_2, .u a3_3, .string a3_4, a3_5.v], ty_value_Value), (v5, [.i v5_0, .i v5_1, .i v5_2, .u v5_3, .string v5_4, v5_5.v], ty_value_Value), (t6, [.i t6_0, .i t6_1, .i t6_2, .u t6_3, .string t6_4, t6_5.v], ty_value_Value)]) : S3 index1 (at0 a3) (at0 v5) (at0 t6) w R := ⟨_, H.ld 0 0, sel_imp h (fun h => ⟨_, H.ld 1 0, sel_imp h (fun h => ⟨_, H.ld 1 1, ⟨_, H.ld 0 1, sel_imp h (fun h => S0T_ok h H) (fun h => S4T_ok h (H.pick [2] (by decide)))⟩⟩) (fun h => S4T_ok h (H.pick [2] (by decide)))⟩) (fun h => S4T_ok h (H.pick [2] (by decide)))⟩
theorem okT (a0_0 a0_1 a0_2 a0_3 : Int) (a0_4 : ByteArray) (a0_5 : Sl) (index1 v2_0 v2_1 v2_2 v2_3 : Int) (v2_4 : ByteArray) (v2_5 : Sl) (w : World) (R : Post) (h : newV [] w fun b3 w1 => 
  newV [b3] w1 fun b5 w2 => 
  newV [b3, b5] w2 fun b6 w3 => 
  callF [b3, b5, b6] Try.prog n_value_Valid #[.agg #[.i a0_0, .i a0_1, .i a0_2, .u a0_3, .string a0_4, a0_5.v]] w3 fun r_ w4 => ∃ t15 : Int, r_ = .returned (.i t15) ∧ 
  sel (t15 != 0) (loc [b3, b5, b6] w4 fun w10 => R (.returned (.tuple #[.agg #[.i 0, .i 0, .i 0, .u 0, .s0, .slice none 0 0], .i t15])) w10) (callF [b3, b5, b6] Try.prog n_value_Valid #[.agg #[.i v2_0, .i v2_1, .i v2_2, .u v2_3, .string v2_4, v2_5.v]] w4 fun r_ w11 => ∃ t21 : Int, r_ = .returned (.i t21) ∧ 
  sel (t21 != 0) (loc [b3, b5, b6] w11 fun w17 => R (.returned (.tuple #[.agg #[.i 0, .i 0, .i 0, .u 0, .s0, .slice none 0 0], .i t21])) w17) (sel (a0_0 == 2) (sel (v2_0 == 0) (sel (v2_1 == a0_1) (S0T index1 b3 a0_0 a0_1 a0_2 a0_3 a0_4 a0_5 b5 v2_0 v2_1 v2_2 v2_3 v2_4 v2_5 b6 0 0 0 0 (ByteArray.mk #[]) ⟨none, 0, 0⟩ w11 R) (S3T index1 b3 a0_0 a0_1 a0_2 a0_3 a0_4 a0_5 b5 v2_0 v2_1 v2_2 v2_3 v2_4 v2_5 b6 0 0 0 0 (ByteArray.mk #[]) ⟨none, 0, 0⟩ w11 R)) (S3T index1 b3 a0_0 a0_1 a0_2 a0_3 a0_4 a0_5 b5 v2_0 v2_1 v2_2 v2_3 v2_4 v2_5 b6 0 0 0 0 (ByteArray.mk #[]) ⟨none, 0, 0⟩ w11 R)) (S3T index1 b3 a0_0 a0_1 a0_2 a0_3 a0_4 a0_5 b5 v2_0 v2_1 v2_2 v2_3 v2_4 v2_5 b6 0 0 0 0 (ByteArray.mk #[]) ⟨none, 0, 0⟩ w11 R)))) : Calls Try.prog n_value_Store #[.agg #[.i a0_0, .i a0_1, .i a0_2, .u a0_3, .string a0_4, a0_5.v], .u index1, .agg #[.i v2_0, .i v2_1, .i v2_2, .u v2_3, .string v2_4, v2_5.v]] w R :=
  ok _ _ _ _ _ _ _ _ _ _ _ _ _ w R (LC.nwT (LC.nil _) (Fr.refl _ _) h fun w1 H h => LC.nwT H (Fr.refl _ _) h fun w2 H h => LC.nwT H (Fr.refl _ _) h fun w3 (H : LC w3 [(w.heap.size, [.i a0_0, .i a0_1, .i a0_2, .u a0_3, .string a0_4, a0_5.v], ty_value_Value), (w1.heap.size, [.i v2_0, .i v2_1, .i v2_2, .u v2_3, .string v2_4, v2_5.v], ty_value_Value), (w2.heap.size, [.i 0, .i 0, .i 0, .u 0, .s0, .slice none 0 0], ty_value_Value)]) h => ⟨_, _, _, _, _, a0_5, H.ld 0 0, H.ld 0 1, H.ld 0 2, H.ld 0 3, H.ld 0 4, H.ld 0 5, LC.callT H h fun r_ w4 H h => let ⟨t15, hr, h⟩ := h; ⟨t15, hr, sel_imp h (fun h => LC.stT0 H 2 (Fr.refl _ _) rfl rfl fun w5 H f => LC.stT H 2 1 f rfl rfl fun w6 H f => LC.stT H 2 2 f rfl rfl fun w7 H f => LC.stT H 2 3 f rfl rfl fun w8 H f => LC.stT H 2 4 f rfl rfl fun w9 H f => LC.stT H 2 5 f rfl rfl fun w10 (H : LC w10 [(w.heap.size, [.i a0_0, .i a0_1, .i a0_2, .u a0_3, .string a0_4, a0_5.v], ty_value_Value), (w1.heap.size, [.i v2_0, .i v2_1, .i v2_2, .u v2_3, .string v2_4, v2_5.v], ty_value_Value), (w2.heap.size, [.i 0, .i 0, .i 0, .u 0, .s0, .slice none 0 0], ty_value_Value)]) (f : Fr (· ∈ [w.heap.size, w1.heap.size, w2.heap.size]) _ w10) => ⟨_, _, _, _, _, ⟨none, 0, 0⟩, H.ld 2 0, H.ld 2 1, H.ld 2 2, H.ld 2 3, H.ld 2 4, H.ld 2 5, have h := h _ f; h⟩) (fun h => ⟨_, _, _, _, _, v2_5, H.ld 1 0, H.ld 1 1, H.ld 1 2, H.ld 1 3, H.ld 1 4, H.ld 1 5, LC.callT H h fun r_ w11 H h => let ⟨t21, hr, h⟩ := h; ⟨t21, hr, sel_imp h (fun h => LC.stT0 H 2 (Fr.refl _ _) rfl rfl fun w12 H f => LC.stT H 2 1 f rfl rfl fun w13 H f => LC.stT H 2 2 f rfl rfl fun w14 H f => LC.stT H 2 3 f rfl rfl fun w15 H f => LC.stT H 2 4 f rfl rfl fun w16 H f => LC.stT H 2 5 f rfl rfl fun w17 (H : LC w17 [(w.heap.size, [.i a0_0, .i a0_1, .i a0_2, .u a0_3, .string a0_4, a0_5.v], ty_value_Value), (w1.heap.size, [.i v2_0, .i v2_1, .i v2_2, .u v2_3, .string v2_4, v2_5.v], ty_value_Value), (w2.heap.size, [.i 0, .i 0, .i 0, .u 0, .s0, .slice none 0 0], ty_value_Value)]) (f : Fr (· ∈ [w.heap.size, w1.heap.size, w2.heap.size]) _ w17) => ⟨_, _, _, _, _, ⟨none, 0, 0⟩, H.ld 2 0, H.ld 2 1, H.ld 2 2, H.ld 2 3, H.ld 2 4, H.ld 2 5, have h := h _ f; h⟩) (fun h => ⟨_, H.ld 0 0, sel_imp h (fun h => ⟨_, H.ld 1 0, sel_imp h (fun h => ⟨_, H.ld 1 1, ⟨_, H.ld 0 1, sel_imp h (fun h => S0T_ok h H) (fun h => S3T_ok h H)⟩⟩) (fun h => S3T_ok h H)⟩) (fun h => S3T_ok h H)⟩)⟩⟩)⟩⟩)
end value_Store
namespace value_Diff
noncomputable def C0 : Code := (Try.f27.body).getD .skip
noncomputable def C1:=C0.sn
noncomputable def C2:=C1.sn
noncomputable def C3:=C2.sn
noncomputable def C4:=C3.fs
noncomputable def C5:=C4.sn
noncomputable def C6:=C5.fs
noncomputable def C7:=C3.sn
abbrev Q0 (R : Post) : Exit → Act → World → Prop := (Exit.then (wpx Try.prog (cx 93) C7 (bodyPost Try.prog Try.f27 R)) (bodyPost Try.prog Try.f27 R))
noncomputable def C8:=C6.sn
/-- value.go:187 -/
abbrev S0  (w : World) (R : Post) : Prop :=
  R (.returned (.tuple #[.u 0, .i 9])) w
def KE_S0 (E : Env) (w : World) (R : Post) : Prop := S0  w R
theorem KE_S0_ok (R : Post) (E : Env) (w : World) (h : KE_S0 E w R) : WP Try.prog (cx 93) C6 (Q0 R) E w := by
  exact fun a ha => WP.at (E := []) (sr C6 (K := fun E w => retVC Try.prog Try.f27 E w (fun v => R (.returned v) w)) (Eq.mp (by kernel_rfl) h) fun _ _ hK => (rt C8 fun a hA => retVC_sound hA hK)) ha.nil
noncomputable def C9:=C7.fs
noncomputable def C10:=C9.sn
noncomputable def C11:=C10.fs
noncomputable def C12:=C11.fs
noncomputable def C13:=C7.sn
abbrev Q1 (R : Post) : Exit → Act → World → Prop := (Exit.then (wpx Try.prog (cx 93) C13 (bodyPost Try.prog Try.f27 R)) (bodyPost Try.prog Try.f27 R))
abbrev Q2 (R : Post) : Exit → Act → World → Prop := (Exit.inBlock 0 (Q1 R))
/-- the head of the loop, value.go:189 -/
def L1 (a2 b3 : Addr) (i8 : Int) (w : World) (R : Post) : Prop := LP Try.prog (cx 93) C12 (Q2 R) [(2, .pointer (some a2)), (3, .pointer (some b3)), (8, .i i8)] w
def KE_L1 (E : Env) (w : World) (R : Post) : Prop := asRef (Env.get? E 2) fun a2 => asRef (Env.get? E 3) fun b3 => W.asInt .i64 (Env.get? E 8) fun i8 => L1 a2 b3 i8 w R
theorem KE_L1_ok (R : Post) (E : Env) (w : World) (h : KE_L1 E w R) : LP Try.prog (cx 93) C12 (Q2 R) E w := by
  obtain ⟨a2, hq2, h_1⟩ := asRef_elim h
  obtain ⟨b3, hq3, h_2⟩ := asRef_elim h_1
  obtain ⟨i8, hq8, h_3⟩ := asInt_elim h_2
  intro a ha
  exact h_3 a (ha.cons hq2 (ha.cons hq3 (ha.cons hq8 ha.nil)))
noncomputable def C14:=C12.sn
noncomputable def C15:=C14.fs
noncomputable def C16:=C15.fs
noncomputable def C17:=C16.fs
noncomputable def C18:=C14.sn
abbrev Q3 (R : Post) : Exit → Act → World → Prop := (Exit.then (wpx Try.prog (cx 93) C18 (Exit.then (LoopWP Try.prog (cx 93) C12 (Q2 R)) (Q2 R))) (Exit.then (LoopWP Try.prog (cx 93) C12 (Q2 R)) (Q2 R)))
abbrev Q4 (R : Post) : Exit → Act → World → Prop := (Exit.inBlock 1 (Q3 R))
abbrev Q5 (R : Post) : Exit → Act → World → Prop := (Exit.inBlock 2 (Q4 R))
noncomputable def C19:=C17.sn
noncomputable def C20:=C19.fs
noncomputable def C21:=C19.sn
noncomputable def C22:=C21.sn
noncomputable def C23:=C22.fs
noncomputable def C24:=C22.sn
noncomputable def C25:=C24.sn
noncomputable def C26:=C25.fs
noncomputable def C27:=C20.sn
noncomputable def C28:=C23.sn
noncomputable def C29:=C26.sn
noncomputable def C30:=C25.sn
/-- value.go:191 -/
abbrev S2 (a2 b3 : Addr) (i8 : Int) (w : World) (R : Post) : Prop :=
  ∃ t47 : Sl, w.cell? (a2.add 5) = some (t47.v) ∧ 
  sel (decide (i8 ≥ ((t47.n : Nat) : Int))) (∃ t51 : Sl, w.cell? (b3.add 5) = some (t51.v) ∧ 
  (0 : Int) ≤ i8 ∧ i8 < ((t51.n : Nat) : Int) ∧ optP t51.a fun t53_p => ∃ t55 : Int, w.cell? ((t53_p.add (Int.toNat i8 * 3)).add 0) = some (.u t55) ∧ 
  R (.returned (.tuple #[.u t55, .i 0])) w) (∃ t59 : Sl, w.cell? (b3.add 5) = some (t59.v) ∧ 
  sel (decide (i8 ≥ ((t59.n : Nat) : Int))) (∃ t63 : Sl, w.cell? (a2.add 5) = some (t63.v) ∧ 
  (0 : Int) ≤ i8 ∧ i8 < ((t63.n : Nat) : Int) ∧ optP t63.a fun t65_p => ∃ t67 : Int, w.cell? ((t65_p.add (Int.toNat i8 * 3)).add 0) = some (.u t67) ∧ 
  R (.returned (.tuple #[.u t67, .i 0])) w) (drV w fun w1 => ∃ t70 : Sl, w1.cell? (a2.add 5) = some (t70.v) ∧ 
  (0 : Int) ≤ i8 ∧ i8 < ((t70.n : Nat) : Int) ∧ optP t70.a fun t72_p => ∃ t73_0 : Int, ∃ t73_1 : Int, ∃ t73_2 : ByteArray, w1.cell? ((t72_p.add (Int.toNat i8 * 3)).add 0) = some (.u t73_0) ∧ w1.cell? ((t72_p.add (Int.toNat i8 * 3)).add 1) = some (.u t73_1) ∧ w1.cell? ((t72_p.add (Int.toNat i8 * 3)).add 2) = some (.string t73_2) ∧ 
  ∃ t75 : Sl, w1.cell? (b3.add 5) = some (t75.v) ∧ 
  (0 : Int) ≤ i8 ∧ i8 < ((t75.n : Nat) : Int) ∧ optP t75.a fun t77_p => ∃ t78_0 : Int, ∃ t78_1 : Int, ∃ t78_2 : ByteArray, w1.cell? ((t77_p.add (Int.toNat i8 * 3)).add 0) = some (.u t78_0) ∧ w1.cell? ((t77_p.add (Int.toNat i8 * 3)).add 1) = some (.u t78_1) ∧ w1.cell? ((t77_p.add (Int.toNat i8 * 3)).add 2) = some (.string t78_2) ∧ 
  sel (!((t73_0 == t78_0) && ((t73_1 == t78_1) && ((t73_2.toList == t78_2.toList) && true)))) (drV w1 fun w2 => ∃ t81 : Sl, w2.cell? (a2.add 5) = some (t81.v) ∧ 
  (0 : Int) ≤ i8 ∧ i8 < ((t81.n : Nat) : Int) ∧ optP t81.a fun t83_p => ∃ t85 : Int, w2.cell? ((t83_p.add (Int.toNat i8 * 3)).add 0) = some (.u t85) ∧ 
  ∃ t87 : Sl, w2.cell? (b3.add 5) = some (t87.v) ∧ 
  (0 : Int) ≤ i8 ∧ i8 < ((t87.n : Nat) : Int) ∧ optP t87.a fun t89_p => ∃ t91 : Int, w2.cell? ((t89_p.add (Int.toNat i8 * 3)).add 0) = some (.u t91) ∧ 
  R (.returned (.tuple #[.u (if t91 < t85 then t91 else t85), .i 0])) w2) (L1 a2 b3 (IntKind.wrap .i64 (i8 + 1)) w1 R)))
def KE_S2 (E : Env) (w : World) (R : Post) : Prop := asRef (Env.get? E 2) fun a2 => asRef (Env.get? E 3) fun b3 => W.asInt .i64 (Env.get? E 8) fun i8 => S2 a2 b3 i8 w R
theorem KE_S2_ok (R : Post) (E : Env) (w : World) (h : KE_S2 E w R) : WP Try.prog (cx 93) C17 (Q5 R) E w := by
  obtain ⟨a2, hq2, h_1⟩ := asRef_elim h
  obtain ⟨b3, hq3, h_2⟩ := asRef_elim h_1
  obtain ⟨i8, hq8, h_3⟩ := asInt_elim h_2
  exact fun a ha => WP.at (E := [(2, .pointer (some a2)), (3, .pointer (some b3)), (8, .i i8)]) (sr C17 (K := fun E w => condK (Env.val E (.tmp 44)) (srK Try.prog C20 (fun E w => retVC Try.prog Try.f27 E w (fun v => R (.returned v) w)) E w) (srK Try.prog C21 (fun E w => condK (Env.val E (.tmp 56)) (srK Try.prog C23 (fun E w => retVC Try.prog Try.f27 E w (fun v => R (.returned v) w)) E w) (sdK Try.prog C24 [0, 1, 2, 3, 4, 5, 6, 7, 8, 9, 10, 11] (fun E w => condK (Env.val E (.tmp 68)) (sdK Try.prog C26 [0, 1, 2, 3, 4, 5, 6, 7, 8, 9, 10, 11, 12, 13, 14] (fun E w => retVC Try.prog Try.f27 E w (fun v => R (.returned v) w)) E w) (rgK Try.prog C18 (fun E w => KE_L1 E w R) E w)) E w)) E w)) (Eq.mp (by kernel_rfl) h_3) fun _ _ hK => (cn C19 hK (fun hK => (sr C20 hK fun _ _ hK => (rt C27 fun a hA => retVC_sound hA hK))) (fun hK => (sr C21 hK fun _ _ hK => (cn C22 hK (fun hK => (sr C23 hK fun _ _ hK => (rt C28 fun a hA => retVC_sound hA hK))) (fun hK => (sd C24 (by kernel_rfl) hK fun _ _ hK => (cn C25 hK (fun hK => (sd C26 (by kernel_rfl) hK fun _ _ hK => (rt C29 fun a hA => retVC_sound hA hK))) (fun hK => (sk C30 fun a hA => nx hA (rg C18 (by kernel_rfl) hK fun _ _ a hA hK => KE_L1_ok R _ _ hK a hA))))))))))) (ha.cons hq2 (ha.cons hq3 (ha.cons hq8 ha.nil)))
noncomputable def C31:=C12.fs
noncomputable def C32:=C31.sn
noncomputable def C33:=C32.fs
noncomputable def C34:=C32.sn
noncomputable def C35:=C13.sn
theorem L1_step (a2 b3 : Addr) (i8 : Int) (w : World) (R : Post) (h : ∃ t32 : Sl, w.cell? (a2.add 5) = some (t32.v) ∧ 
  sel (decide (i8 < ((t32.n : Nat) : Int))) (S2 a2 b3 i8 w R) (∃ t38 : Sl, w.cell? (b3.add 5) = some (t38.v) ∧ 
  sel (decide (i8 < ((t38.n : Nat) : Int))) (S2 a2 b3 i8 w R) (R (.returned (.tuple #[.u 0, .i 0])) w))) : L1 a2 b3 i8 w R :=
  LP.step (n := (cx 93)) (c := C12) (E := [(2, .pointer (some a2)), (3, .pointer (some b3)), (8, .i i8)]) (w := w) (sq C12 (sr C31 (show (fun (E : Env) (w : World) => srK Try.prog C31 (fun E w => condK (Env.val E (.tmp 41)) (KE_S2 E w R) (srK Try.prog C13 (fun E w => retVC Try.prog Try.f27 E w (fun v => R (.returned v) w)) E w)) E w) [(2, .pointer (some a2)), (3, .pointer (some b3)), (8, .i i8)] w from Eq.mp (by kernel_rfl) h) fun _ _ hK => (cn C32 hK (fun hK => (sk C33 fun a hA => nx hA (sq C14 (bk C15 1 (by kernel_rfl) (bk C16 2 (by kernel_rfl) (KE_S2_ok R _ _ hK)))))) (fun hK => (xt C34 0 (by kernel_rfl) fun a hA => nx hA (sr C13 hK fun _ _ hK => (rt C35 fun a hA => retVC_sound hA hK)))))))
/-- enthymeme/value.Diff -/
noncomputable def C36:=C1.fs
noncomputable def C37:=C36.sn
noncomputable def C38:=C37.sn
noncomputable def C39:=C38.fs
noncomputable def C40:=C2.fs
noncomputable def C41:=C40.sn
noncomputable def C42:=C41.sn
noncomputable def C43:=C42.fs
noncomputable def C44:=C39.sn
noncomputable def C45:=C38.sn
noncomputable def C46:=C43.sn
noncomputable def C47:=C42.sn
noncomputable def C48:=C5.sn
theorem ok (a0_0 a0_1 a0_2 a0_3 : Int) (a0_4 : ByteArray) (a0_5 : Sl) (b1_0 b1_1 b1_2 b1_3 : Int) (b1_4 : ByteArray) (b1_5 : Sl) (w : World) (R : Post) (h : nwV w (.cells #[.i a0_0, .i a0_1, .i a0_2, .u a0_3, .string a0_4, a0_5.v] ty_value_Value) fun w1 => 
  nwV w1 (.cells #[.i b1_0, .i b1_1, .i b1_2, .u b1_3, .string b1_4, b1_5.v] ty_value_Value) fun w2 => 
  ∃ t9_0 : Int, ∃ t9_1 : Int, ∃ t9_2 : Int, ∃ t9_3 : Int, ∃ t9_4 : ByteArray, ∃ t9_5 : Sl, w2.cell? ((nb w).add 0) = some (.i t9_0) ∧ w2.cell? ((nb w).add 1) = some (.i t9_1) ∧ w2.cell? ((nb w).add 2) = some (.i t9_2) ∧ w2.cell? ((nb w).add 3) = some (.u t9_3) ∧ w2.cell? ((nb w).add 4) = some (.string t9_4) ∧ w2.cell? ((nb w).add 5) = some (t9_5.v) ∧ 
  Calls Try.prog n_value_Valid #[.agg #[.i t9_0, .i t9_1, .i t9_2, .u t9_3, .string t9_4, t9_5.v]] w2 fun r_ w3 => ∃ t10 : Int, r_ = .returned (.i t10) ∧ 
  sel (t10 != 0) (R (.returned (.tuple #[.u 0, .i t10])) w3) (∃ t14_0 : Int, ∃ t14_1 : Int, ∃ t14_2 : Int, ∃ t14_3 : Int, ∃ t14_4 : ByteArray, ∃ t14_5 : Sl, w3.cell? ((nb w1).add 0) = some (.i t14_0) ∧ w3.cell? ((nb w1).add 1) = some (.i t14_1) ∧ w3.cell? ((nb w1).add 2) = some (.i t14_2) ∧ w3.cell? ((nb w1).add 3) = some (.u t14_3) ∧ w3.cell? ((nb w1).add 4) = some (.string t14_4) ∧ w3.cell? ((nb w1).add 5) = some (t14_5.v) ∧ 
  Calls Try.prog n_value_Valid #[.agg #[.i t14_0, .i t14_1, .i t14_2, .u t14_3, .string t14_4, t14_5.v]] w3 fun r_ w4 => ∃ t15 : Int, r_ = .returned (.i t15) ∧ 
  sel (t15 != 0) (R (.returned (.tuple #[.u 0, .i t15])) w4) (∃ t20_0 : Int, ∃ t20_1 : Int, ∃ t20_2 : Int, w4.cell? (((nb w).add 0).add 0) = some (.i t20_0) ∧ w4.cell? (((nb w).add 0).add 1) = some (.i t20_1) ∧ w4.cell? (((nb w).add 0).add 2) = some (.i t20_2) ∧ 
  Calls Try.prog n_value_isArray #[.agg #[.i t20_0, .i t20_1, .i t20_2]] w4 fun r_ w5 => ∃ t21 : Bool, r_ = .returned (.bool t21) ∧ 
  sel (!t21) (S0  w5 R) (∃ t25_0 : Int, ∃ t25_1 : Int, ∃ t25_2 : Int, w5.cell? (((nb w).add 0).add 0) = some (.i t25_0) ∧ w5.cell? (((nb w).add 0).add 1) = some (.i t25_1) ∧ w5.cell? (((nb w).add 0).add 2) = some (.i t25_2) ∧ 
  ∃ t27_0 : Int, ∃ t27_1 : Int, ∃ t27_2 : Int, w5.cell? (((nb w1).add 0).add 0) = some (.i t27_0) ∧ w5.cell? (((nb w1).add 0).add 1) = some (.i t27_1) ∧ w5.cell? (((nb w1).add 0).add 2) = some (.i t27_2) ∧ 
  sel (!((t25_0 == t27_0) && ((t25_1 == t27_1) && ((t25_2 == t27_2) && true)))) (S0  w5 R) (L1 (nb w) (nb w1) 0 w5 R))))) : Calls Try.prog n_value_Diff #[.agg #[.i a0_0, .i a0_1, .i a0_2, .u a0_3, .string a0_4, a0_5.v], .agg #[.i b1_0, .i b1_1, .i b1_2, .u b1_3, .string b1_4, b1_5.v]] w R :=
  calls_of_WP' (R := R) (fn := Try.f27) (c := C0) (args := [.agg #[.i a0_0, .i a0_1, .i a0_2, .u a0_3, .string a0_4, a0_5.v], .agg #[.i b1_0, .i b1_1, .i b1_2, .u b1_3, .string b1_4, b1_5.v]]) (by kernel_rfl) (by kernel_rfl) (by kernel_rfl) (sr C0 (show (fun (E : Env) (w : World) => srK Try.prog C0 (fun E w => srK Try.prog C36 (fun E w => srK Try.prog C37 (fun E w => condK (Env.val E (.tmp 12)) (srK Try.prog C39 (fun E w => retVC Try.prog Try.f27 E w (fun v => R (.returned v) w)) E w) (srK Try.prog C40 (fun E w => srK Try.prog C41 (fun E w => condK (Env.val E (.tmp 17)) (srK Try.prog C43 (fun E w => retVC Try.prog Try.f27 E w (fun v => R (.returned v) w)) E w) (srK Try.prog C4 (fun E w => condK (Env.val E (.tmp 29)) (KE_S0 E w R) (srK Try.prog C9 (fun E w => KE_L1 E w R) E w)) E w)) E w) E w)) E w) E w) E w) (envOf 0 [.agg #[.i a0_0, .i a0_1, .i a0_2, .u a0_3, .string a0_4, a0_5.v], .agg #[.i b1_0, .i b1_1, .i b1_2, .u b1_3, .string b1_4, b1_5.v]]) w from Eq.mp (by kernel_rfl) h) fun _ _ hK => (sq C1 (sr C36 hK fun _ _ hK => (sr C37 hK fun _ _ hK => (cn C38 hK (fun hK => (sr C39 hK fun _ _ hK => (rt C44 fun a hA => retVC_sound hA hK))) (fun hK => (sk C45 fun a hA => nx hA (sq C2 (sr C40 hK fun _ _ hK => (sr C41 hK fun _ _ hK => (cn C42 hK (fun hK => (sr C43 hK fun _ _ hK => (rt C46 fun a hA => retVC_sound hA hK))) (fun hK => (sk C47 fun a hA => nx hA (sq C3 (sr C4 hK fun _ _ hK => (cn C5 hK (fun hK => (KE_S0_ok R _ _ hK)) (fun hK => (sk C48 fun a hA => nx hA (sq C7 (sr C9 hK fun _ _ hK => (bk C10 0 (by kernel_rfl) (lp C11 (by kernel_rfl) (KE_L1_ok R _ _ hK)))))))))))))))))))))))
abbrev S0T  (w : World) (R : Post) : Prop :=
  R (.returned (.tuple #[.u 0, .i 9])) w
theorem S0T_ok  {w : World} {R : Post} (h : S0T  w R) (H : LC w []) : S0  w R := h
def L1T (a2 : Nat) (a2_0 a2_1 a2_2 a2_3 : Int) (a2_4 : ByteArray) (a2_5 : Sl) (b3 : Nat) (b3_0 b3_1 b3_2 b3_3 : Int) (b3_4 : ByteArray) (b3_5 : Sl) (i8 : Int) (w : World) (R : Post) : Prop := LC w [(a2, [.i a2_0, .i a2_1, .i a2_2, .u a2_3, .string a2_4, a2_5.v], ty_value_Value), (b3, [.i b3_0, .i b3_1, .i b3_2, .u b3_3, .string b3_4, b3_5.v], ty_value_Value)] → L1 (at0 a2) (at0 b3) i8 w R
abbrev S2T (a2 : Nat) (a2_0 a2_1 a2_2 a2_3 : Int) (a2_4 : ByteArray) (a2_5 : Sl) (b3 : Nat) (b3_0 b3_1 b3_2 b3_3 : Int) (b3_4 : ByteArray) (b3_5 : Sl) (i8 : Int) (w : World) (R : Post) : Prop :=
  sel (decide (i8 ≥ ((a2_5.n : Nat) : Int))) ((0 : Int) ≤ i8 ∧ i8 < ((b3_5.n : Nat) : Int) ∧ optP b3_5.a fun t53_p => ∃ t55 : Int, w.cell? ((t53_p.add (Int.toNat i8 * 3)).add 0) = some (.u t55) ∧ 
  R (.returned (.tuple #[.u t55, .i 0])) w) (sel (decide (i8 ≥ ((b3_5.n : Nat) : Int))) ((0 : Int) ≤ i8 ∧ i8 < ((a2_5.n : Nat) : Int) ∧ optP a2_5.a fun t65_p => ∃ t67 : Int, w.cell? ((t65_p.add (Int.toNat i8 * 3)).add 0) = some (.u t67) ∧ 
  R (.returned (.tuple #[.u t67, .i 0])) w) ((0 : Int) ≤ i8 ∧ i8 < ((a2_5.n : Nat) : Int) ∧ optP a2_5.a fun t72_p => loc [a2, b3] w fun w1 => ∃ t73_0 : Int, ∃ t73_1 : Int, ∃ t73_2 : ByteArray, w1.cell? ((t72_p.add (Int.toNat i8 * 3)).add 0) = some (.u t73_0) ∧ w1.cell? ((t72_p.add (Int.toNat i8 * 3)).add 1) = some (.u t73_1) ∧ w1.cell? ((t72_p.add (Int.toNat i8 * 3)).add 2) = some (.string t73_2) ∧ 
  (0 : Int) ≤ i8 ∧ i8 < ((b3_5.n : Nat) : Int) ∧ optP b3_5.a fun t77_p => ∃ t78_0 : Int, ∃ t78_1 : Int, ∃ t78_2 : ByteArray, w1.cell? ((t77_p.add (Int.toNat i8 * 3)).add 0) = some (.u t78_0) ∧ w1.cell? ((t77_p.add (Int.toNat i8 * 3)).add 1) = some (.u t78_1) ∧ w1.cell? ((t77_p.add (Int.toNat i8 * 3)).add 2) = some (.string t78_2) ∧ 
  sel (!((t73_0 == t78_0) && ((t73_1 == t78_1) && ((t73_2.toList == t78_2.toList) && true)))) ((0 : Int) ≤ i8 ∧ i8 < ((a2_5.n : Nat) : Int) ∧ optP a2_5.a fun t83_p => loc [a2, b3] w1 fun w2 => ∃ t85 : Int, w2.cell? ((t83_p.add (Int.toNat i8 * 3)).add 0) = some (.u t85) ∧ 
  (0 : Int) ≤ i8 ∧ i8 < ((b3_5.n : Nat) : Int) ∧ optP b3_5.a fun t89_p => ∃ t91 : Int, w2.cell? ((t89_p.add (Int.toNat i8 * 3)).add 0) = some (.u t91) ∧ 
  R (.returned (.tuple #[.u (if t91 < t85 then t91 else t85), .i 0])) w2) (L1T a2 a2_0 a2_1 a2_2 a2_3 a2_4 a2_5 b3 b3_0 b3_1 b3_2 b3_3 b3_4 b3_5 (IntKind.wrap .i64 (i8 + 1)) w1 R)))
theorem S2T_ok {a2 : Nat} {a2_0 a2_1 a2_2 a2_3 : Int} {a2_4 : ByteArray} {a2_5 : Sl} {b3 : Nat} {b3_0 b3_1 b3_2 b3_3 : Int} {b3_4 : ByteArray} {b3_5 : Sl} {i8 : Int} {w : World} {R : Post} (h : S2T a2 a2_0 a2_1 a2_2 a2_3 a2_4 a2_5 b3 b3_0 b3_1 b3_2 b3_3 b3_4 b3_5 i8 w R) (H : LC w [(a2, [.i a2_0, .i a2_1, .i a2_2, .u a2_3, .string a2_4, a2_5.v], ty_value_Value), (b3, [.i b3_0, .i b3_1, .i b3_2, .u b3_3, .string b3_4, b3_5.v], ty_value_Value)]) : S2 (at0 a2) (at0 b3) i8 w R := ⟨a2_5, H.ld 0 5, sel_imp h (fun h => ⟨b3_5, H.ld 1 5, ⟨h.1, h.2.1, have h := h.2.2; optP_imp h fun t53_p h => let ⟨t55, hc0, h⟩ := h; ⟨t55, hc0, h⟩⟩⟩) (fun h => ⟨b3_5, H.ld 1 5, sel_imp h (fun h => ⟨a2_5, H.ld 0 5, ⟨h.1, h.2.1, have h := h.2.2; optP_imp h fun t65_p h => let ⟨t67, hc0, h⟩ := h; ⟨t67, hc0, h⟩⟩⟩) (fun h => LC.drT H (Fr.refl _ _) fun w1 H f => ⟨a2_5, H.ld 0 5, ⟨h.1, h.2.1, have h := h.2.2; optP_imp h fun t72_p h => have h := h _ f; let ⟨t73_0, t73_1, t73_2, hc0, hc1, hc2, h⟩ := h; ⟨t73_0, t73_1, t73_2, hc0, hc1, hc2, ⟨b3_5, H.ld 1 5, ⟨h.1, h.2.1, have h := h.2.2; optP_imp h fun t77_p h => let ⟨t78_0, t78_1, t78_2, hc0, hc1, hc2, h⟩ := h; ⟨t78_0, t78_1, t78_2, hc0, hc1, hc2, sel_imp h (fun h => LC.drT H (Fr.refl _ _) fun w2 H f => ⟨a2_5, H.ld 0 5, ⟨h.1, h.2.1, have h := h.2.2; optP_imp h fun t83_p h => have h := h _ f; let ⟨t85, hc0, h⟩ := h; ⟨t85, hc0, ⟨b3_5, H.ld 1 5, ⟨h.1, h.2.1, have h := h.2.2; optP_imp h fun t89_p h => let ⟨t91, hc0, h⟩ := h; ⟨t91, hc0, h⟩⟩⟩⟩⟩⟩) (fun h => h H)⟩⟩⟩⟩⟩⟩)⟩)⟩
theorem L1T_step (a2 : Nat) (a2_0 a2_1 a2_2 a2_3 : Int) (a2_4 : ByteArray) (a2_5 : Sl) (b3 : Nat) (b3_0 b3_1 b3_2 b3_3 : Int) (b3_4 : ByteArray) (b3_5 : Sl) (i8 : Int) (w : World) (R : Post) (h : sel (decide (i8 < ((a2_5.n : Nat) : Int))) (S2T a2 a2_0 a2_1 a2_2 a2_3 a2_4 a2_5 b3 b3_0 b3_1 b3_2 b3_3 b3_4 b3_5 i8 w R) (sel (decide (i8 < ((b3_5.n : Nat) : Int))) (S2T a2 a2_0 a2_1 a2_2 a2_3 a2_4 a2_5 b3 b3_0 b3_1 b3_2 b3_3 b3_4 b3_5 i8 w R) (R (.returned (.tuple #[.u 0, .i 0])) w))) : L1T a2 a2_0 a2_1 a2_2 a2_3 a2_4 a2_5 b3 b3_0 b3_1 b3_2 b3_3 b3_4 b3_5 i8 w R := fun H => L1_step _ _ _ w R (⟨a2_5, H.ld 0 5, sel_imp h (fun h => S2T_ok h H) (fun h => ⟨b3_5, H.ld 1 5, sel_imp h (fun h => S2T_ok h H) (fun h => h)⟩)⟩)
theorem okT (a0_0 a0_1 a0_2 a0_3 : Int) (a0_4 : ByteArray) (a0_5 : Sl) (b1_0 b1_1 b1_2 b1_3 : Int) (b1_4 : ByteArray) (b1_5 : Sl) (w : World) (R : Post) (h : newV [] w fun b2 w1 => 
  newV [b2] w1 fun b3 w2 => 
  callF [b2, b3] Try.prog n_value_Valid #[.agg #[.i a0_0, .i a0_1, .i a0_2, .u a0_3, .string a0_4, a0_5.v]] w2 fun r_ w3 => ∃ t10 : Int, r_ = .returned (.i t10) ∧ 
  sel (t10 != 0) (R (.returned (.tuple #[.u 0, .i t10])) w3) (callF [b2, b3] Try.prog n_value_Valid #[.agg #[.i b1_0, .i b1_1, .i b1_2, .u b1_3, .string b1_4, b1_5.v]] w3 fun r_ w4 => ∃ t15 : Int, r_ = .returned (.i t15) ∧ 
  sel (t15 != 0) (R (.returned (.tuple #[.u 0, .i t15])) w4) (callF [b2, b3] Try.prog n_value_isArray #[.agg #[.i a0_0, .i a0_1, .i a0_2]] w4 fun r_ w5 => ∃ t21 : Bool, r_ = .returned (.bool t21) ∧ 
  sel (!t21) (S0T  w5 R) (sel (!((a0_0 == b1_0) && ((a0_1 == b1_1) && ((a0_2 == b1_2) && true)))) (S0T  w5 R) (L1T b2 a0_0 a0_1 a0_2 a0_3 a0_4 a0_5 b3 b1_0 b1_1 b1_2 b1_3 b1_4 b1_5 0 w5 R))))) : Calls Try.prog n_value_Diff #[.agg #[.i a0_0, .i a0_1, .i a0_2, .u a0_3, .string a0_4, a0_5.v], .agg #[.i b1_0, .i b1_1, .i b1_2, .u b1_3, .string b1_4, b1_5.v]] w R :=
  ok _ _ _ _ _ _ _ _ _ _ _ _ w R (LC.nwT (LC.nil _) (Fr.refl _ _) h fun w1 H h => LC.nwT H (Fr.refl _ _) h fun w2 H h => ⟨_, _, _, _, _, a0_5, H.ld 0 0, H.ld 0 1, H.ld 0 2, H.ld 0 3, H.ld 0 4, H.ld 0 5, LC.callT H h fun r_ w3 H h => let ⟨t10, hr, h⟩ := h; ⟨t10, hr, sel_imp h (fun h => h) (fun h => ⟨_, _, _, _, _, b1_5, H.ld 1 0, H.ld 1 1, H.ld 1 2, H.ld 1 3, H.ld 1 4, H.ld 1 5, LC.callT H h fun r_ w4 H h => let ⟨t15, hr, h⟩ := h; ⟨t15, hr, sel_imp h (fun h => h) (fun h => ⟨_, _, _, H.ld 0 0, H.ld 0 1, H.ld 0 2, LC.callT H h fun r_ w5 H h => let ⟨t21, hr, h⟩ := h; ⟨t21, hr, sel_imp h (fun h => S0T_ok h (LC.nil _)) (fun h => ⟨_, _, _, H.ld 0 0, H.ld 0 1, H.ld 0 2, ⟨_, _, _, H.ld 1 0, H.ld 1 1, H.ld 1 2, sel_imp h (fun h => S0T_ok h (LC.nil _)) (fun h => h H)⟩⟩)⟩⟩)⟩⟩)⟩⟩)
end value_Diff
end Go.Proofs.Ytjjhfdjpmonlaaa

/- Printed by a program of ours (vcgen.py) from the dump: the conditions of the functions, and that they suffice. -/
import Derived.Test.YtjjhfdjpmonlaaaV
import Derived.Test.YtjjhfdjpmonlaaaY
set_option linter.unusedVariables false
set_option maxRecDepth 100000
set_option maxHeartbeats 2000000
namespace Go.Proofs.Ytjjhfdjpmonlaaa
open Go Go.W
namespace enthymemeref06_within
noncomputable def C0 : Code := (Try.f40.body).getD .skip
/-- enthymeme/enthymemeref06.within -/
noncomputable def C1:=C0.sn
noncomputable def C2:=C1.sn
theorem ok (n0 lo1 hi2 : Int) (w : World) (R : Post) (h : sel (decide (n0 ≥ lo1)) (R (.returned (.bool (decide (n0 ≤ hi2)))) w) (R (.returned (.bool false)) w)) : Calls Try.prog n_enthymemeref06_within #[.i n0, .i lo1, .i hi2] w R :=
  calls_of_WP' (R := R) (fn := Try.f40) (c := C0) (args := [.i n0, .i lo1, .i hi2]) (by kernel_rfl) (by kernel_rfl) (by kernel_rfl) (sr C0 (show (fun (E : Env) (w : World) => srK Try.prog C0 (fun E w => srK Try.prog C1 (fun E w => retVC Try.prog Try.f40 E w (fun v => R (.returned v) w)) E w) E w) (envOf 0 [.i n0, .i lo1, .i hi2]) w from Eq.mp (by kernel_rfl) h) fun _ _ hK => (sr C1 hK fun _ _ hK => (rt C2 fun a hA => retVC_sound hA hK)))
end enthymemeref06_within
namespace enthymemeref06_Array
noncomputable def C0 : Code := (Try.f44.body).getD .skip
/-- enthymeme/enthymemeref06.Array -/
noncomputable def C1:=C0.sn
noncomputable def C2:=C1.sn
theorem ok (s0_0 s0_1 s0_2 : Int) (w : World) (R : Post) (h : nwV w (.cells #[.i s0_0, .i s0_1, .i s0_2] ty_api_Sort) fun w1 => 
  ∃ t4 : Int, w1.cell? ((nb w).add 0) = some (.i t4) ∧ 
  sel (t4 == 2) (R (.returned (.bool true)) w1) (∃ t8 : Int, w1.cell? ((nb w).add 0) = some (.i t8) ∧ 
  R (.returned (.bool (t8 == 3))) w1)) : Calls Try.prog n_enthymemeref06_Array #[.agg #[.i s0_0, .i s0_1, .i s0_2]] w R :=
  calls_of_WP' (R := R) (fn := Try.f44) (c := C0) (args := [.agg #[.i s0_0, .i s0_1, .i s0_2]]) (by kernel_rfl) (by kernel_rfl) (by kernel_rfl) (sr C0 (show (fun (E : Env) (w : World) => srK Try.prog C0 (fun E w => srK Try.prog C1 (fun E w => retVC Try.prog Try.f44 E w (fun v => R (.returned v) w)) E w) E w) (envOf 0 [.agg #[.i s0_0, .i s0_1, .i s0_2]]) w from Eq.mp (by kernel_rfl) h) fun _ _ hK => (sr C1 hK fun _ _ hK => (rt C2 fun a hA => retVC_sound hA hK)))
theorem okT (s0_0 s0_1 s0_2 : Int) (w : World) (R : Post) (h : newV [] w fun b1 w1 => 
  sel (s0_0 == 2) (R (.returned (.bool true)) w1) (R (.returned (.bool (s0_0 == 3))) w1)) : Calls Try.prog n_enthymemeref06_Array #[.agg #[.i s0_0, .i s0_1, .i s0_2]] w R :=
  ok _ _ _ w R (LC.nwT (LC.nil _) (Fr.refl _ _) h fun w1 H h => ⟨_, H.ld 0 0, sel_imp h (fun h => h) (fun h => ⟨_, H.ld 0 0, h⟩)⟩)
end enthymemeref06_Array
namespace enthymemeref06_ValidSort
noncomputable def C0 : Code := (Try.f10.body).getD .skip
noncomputable def C1:=C0.sn
noncomputable def C2:=C1.sn
noncomputable def C3:=C2.sn
noncomputable def C4:=C3.fs
noncomputable def C5:=C3.sn
abbrev Q0 (R : Post) : Exit → Act → World → Prop := (Exit.then (wpx Try.prog (cx 48) C5 (bodyPost Try.prog Try.f10 R)) (bodyPost Try.prog Try.f10 R))
noncomputable def C6:=C4.sn
noncomputable def C7:=C6.fs
noncomputable def C8:=C7.sn
noncomputable def C9:=C6.sn
noncomputable def C10:=C5.sn
/-- ref.go:44 -/
abbrev S0 (fine3 : Bool) (w : World) (R : Post) : Prop :=
  sel (!fine3) (R (.returned (.i 9)) w) (R (.returned (.i 0)) w)
def KE_S0 (E : Env) (w : World) (R : Post) : Prop := asBool' (Env.get? E 3) fun fine3 => S0 fine3 w R
theorem KE_S0_ok (R : Post) (E : Env) (w : World) (h : KE_S0 E w R) : WP Try.prog (cx 48) C4 (Q0 R) E w := by
  obtain ⟨fine3, hq3, h_1⟩ := asBool_elim h
  exact fun a ha => WP.at (E := [(3, .bool fine3)]) (sr C4 (K := fun E w => condK (Env.val E (.tmp 47)) (srK Try.prog C7 (fun E w => retVC Try.prog Try.f10 E w (fun v => R (.returned v) w)) E w) (srK Try.prog C5 (fun E w => retVC Try.prog Try.f10 E w (fun v => R (.returned v) w)) E w)) (Eq.mp (by kernel_rfl) h_1) fun _ _ hK => (cn C6 hK (fun hK => (sr C7 hK fun _ _ hK => (rt C8 fun a hA => retVC_sound hA hK))) (fun hK => (sk C9 fun a hA => nx hA (sr C5 hK fun _ _ hK => (rt C10 fun a hA => retVC_sound hA hK)))))) (ha.cons hq3 ha.nil)
/-- enthymeme/enthymemeref06.ValidSort -/
noncomputable def C11:=C2.fs
noncomputable def C12:=C11.sn
noncomputable def C13:=C12.fs
noncomputable def C14:=C13.sn
noncomputable def C15:=C14.fs
noncomputable def C16:=C14.sn
noncomputable def C17:=C16.sn
noncomputable def C18:=C17.fs
noncomputable def C19:=C17.sn
noncomputable def C20:=C19.sn
noncomputable def C21:=C20.fs
noncomputable def C22:=C20.sn
noncomputable def C23:=C22.sn
noncomputable def C24:=C23.fs
noncomputable def C25:=C23.sn
theorem ok (s0_0 s0_1 s0_2 : Int) (w : World) (R : Post) (h : nwV w (.cells #[.i s0_0, .i s0_1, .i s0_2] ty_api_Sort) fun w1 => 
  ∃ t5 : Int, w1.cell? ((nb w).add 0) = some (.i t5) ∧ 
  sel (t5 == 0) (∃ t9 : Int, w1.cell? ((nb w).add 1) = some (.i t9) ∧ 
  Calls Try.prog n_enthymemeref06_within #[.i t9, .i 1, .i 64] w1 fun r_ w2 => ∃ t10 : Bool, r_ = .returned (.bool t10) ∧ 
  sel t10 (∃ t13 : Int, w2.cell? ((nb w).add 2) = some (.i t13) ∧ 
  S0 (t13 == 0) w2 R) (S0 false w2 R)) (sel (t5 == 1) (∃ t19 : Int, w1.cell? ((nb w).add 1) = some (.i t19) ∧ 
  Calls Try.prog n_enthymemeref06_within #[.i t19, .i 0, .i 64] w1 fun r_ w3 => ∃ t20 : Bool, r_ = .returned (.bool t20) ∧ 
  sel t20 (∃ t23 : Int, w3.cell? ((nb w).add 2) = some (.i t23) ∧ 
  S0 (t23 == 0) w3 R) (S0 false w3 R)) (sel (t5 == 2) (∃ t29 : Int, w1.cell? ((nb w).add 1) = some (.i t29) ∧ 
  Calls Try.prog n_enthymemeref06_within #[.i t29, .i 1, .i 64] w1 fun r_ w4 => ∃ t30 : Bool, r_ = .returned (.bool t30) ∧ 
  sel t30 (∃ t33 : Int, w4.cell? ((nb w).add 2) = some (.i t33) ∧ 
  Calls Try.prog n_enthymemeref06_within #[.i t33, .i 1, .i 16] w4 fun r_ w5 => ∃ t34 : Bool, r_ = .returned (.bool t34) ∧ 
  S0 t34 w5 R) (S0 false w4 R)) (sel (t5 == 3) (∃ t39 : Int, w1.cell? ((nb w).add 1) = some (.i t39) ∧ 
  Calls Try.prog n_enthymemeref06_within #[.i t39, .i 0, .i 64] w1 fun r_ w6 => ∃ t40 : Bool, r_ = .returned (.bool t40) ∧ 
  sel t40 (∃ t43 : Int, w6.cell? ((nb w).add 2) = some (.i t43) ∧ 
  Calls Try.prog n_enthymemeref06_within #[.i t43, .i 1, .i 16] w6 fun r_ w7 => ∃ t44 : Bool, r_ = .returned (.bool t44) ∧ 
  S0 t44 w7 R) (S0 false w6 R)) (S0 false w1 R))))) : Calls Try.prog n_enthymemeref06_ValidSort #[.agg #[.i s0_0, .i s0_1, .i s0_2]] w R :=
  calls_of_WP' (R := R) (fn := Try.f10) (c := C0) (args := [.agg #[.i s0_0, .i s0_1, .i s0_2]]) (by kernel_rfl) (by kernel_rfl) (by kernel_rfl) (sr C0 (show (fun (E : Env) (w : World) => srK Try.prog C0 (fun E w => srK Try.prog C1 (fun E w => srK Try.prog C11 (fun E w => srK Try.prog C13 (fun E w => condK (Env.val E (.tmp 6)) (rgK Try.prog C15 (fun E w => KE_S0 E w R) E w) (srK Try.prog C16 (fun E w => condK (Env.val E (.tmp 16)) (rgK Try.prog C18 (fun E w => KE_S0 E w R) E w) (srK Try.prog C19 (fun E w => condK (Env.val E (.tmp 26)) (rgK Try.prog C21 (fun E w => KE_S0 E w R) E w) (srK Try.prog C22 (fun E w => condK (Env.val E (.tmp 36)) (rgK Try.prog C24 (fun E w => KE_S0 E w R) E w) (KE_S0 E w R)) E w)) E w)) E w)) E w) E w) E w) E w) (envOf 0 [.agg #[.i s0_0, .i s0_1, .i s0_2]]) w from Eq.mp (by kernel_rfl) h) fun _ _ hK => (sr C1 hK fun _ _ hK => (sq C2 (sr C11 hK fun _ _ hK => (bk C12 0 (by kernel_rfl) (sr C13 hK fun _ _ hK => (cn C14 hK (fun hK => (rg C15 (by kernel_rfl) hK fun _ _ a hA hK => nx hA (sq C3 (KE_S0_ok R _ _ hK)))) (fun hK => (sr C16 hK fun _ _ hK => (cn C17 hK (fun hK => (rg C18 (by kernel_rfl) hK fun _ _ a hA hK => nx hA (sq C3 (KE_S0_ok R _ _ hK)))) (fun hK => (sr C19 hK fun _ _ hK => (cn C20 hK (fun hK => (rg C21 (by kernel_rfl) hK fun _ _ a hA hK => nx hA (sq C3 (KE_S0_ok R _ _ hK)))) (fun hK => (sr C22 hK fun _ _ hK => (cn C23 hK (fun hK => (rg C24 (by kernel_rfl) hK fun _ _ a hA hK => nx hA (sq C3 (KE_S0_ok R _ _ hK)))) (fun hK => (sk C25 fun a hA => nx hA (sq C3 (KE_S0_ok R _ _ hK))))))))))))))))))))
abbrev S0T (fine3 : Bool) (w : World) (R : Post) : Prop :=
  sel (!fine3) (R (.returned (.i 9)) w) (R (.returned (.i 0)) w)
theorem S0T_ok {fine3 : Bool} {w : World} {R : Post} (h : S0T fine3 w R) (H : LC w []) : S0 fine3 w R := sel_imp h (fun h => h) (fun h => h)
theorem okT (s0_0 s0_1 s0_2 : Int) (w : World) (R : Post) (h : newV [] w fun b1 w1 => 
  sel (s0_0 == 0) (callF [b1] Try.prog n_enthymemeref06_within #[.i s0_1, .i 1, .i 64] w1 fun r_ w2 => ∃ t10 : Bool, r_ = .returned (.bool t10) ∧ 
  sel t10 (S0T (s0_2 == 0) w2 R) (S0T false w2 R)) (sel (s0_0 == 1) (callF [b1] Try.prog n_enthymemeref06_within #[.i s0_1, .i 0, .i 64] w1 fun r_ w3 => ∃ t20 : Bool, r_ = .returned (.bool t20) ∧ 
  sel t20 (S0T (s0_2 == 0) w3 R) (S0T false w3 R)) (sel (s0_0 == 2) (callF [b1] Try.prog n_enthymemeref06_within #[.i s0_1, .i 1, .i 64] w1 fun r_ w4 => ∃ t30 : Bool, r_ = .returned (.bool t30) ∧ 
  sel t30 (callF [b1] Try.prog n_enthymemeref06_within #[.i s0_2, .i 1, .i 16] w4 fun r_ w5 => ∃ t34 : Bool, r_ = .returned (.bool t34) ∧ 
  S0T t34 w5 R) (S0T false w4 R)) (sel (s0_0 == 3) (callF [b1] Try.prog n_enthymemeref06_within #[.i s0_1, .i 0, .i 64] w1 fun r_ w6 => ∃ t40 : Bool, r_ = .returned (.bool t40) ∧ 
  sel t40 (callF [b1] Try.prog n_enthymemeref06_within #[.i s0_2, .i 1, .i 16] w6 fun r_ w7 => ∃ t44 : Bool, r_ = .returned (.bool t44) ∧ 
  S0T t44 w7 R) (S0T false w6 R)) (S0T false w1 R))))) : Calls Try.prog n_enthymemeref06_ValidSort #[.agg #[.i s0_0, .i s0_1, .i s0_2]] w R :=
  ok _ _ _ w R (LC.nwT (LC.nil _) (Fr.refl _ _) h fun w1 H h => ⟨_, H.ld 0 0, sel_imp h (fun h => ⟨_, H.ld 0 1, LC.callT H h fun r_ w2 H h => let ⟨t10, hr, h⟩ := h; ⟨t10, hr, sel_imp h (fun h => ⟨_, H.ld 0 2, S0T_ok h (LC.nil _)⟩) (fun h => S0T_ok h (LC.nil _))⟩⟩) (fun h => sel_imp h (fun h => ⟨_, H.ld 0 1, LC.callT H h fun r_ w3 H h => let ⟨t20, hr, h⟩ := h; ⟨t20, hr, sel_imp h (fun h => ⟨_, H.ld 0 2, S0T_ok h (LC.nil _)⟩) (fun h => S0T_ok h (LC.nil _))⟩⟩) (fun h => sel_imp h (fun h => ⟨_, H.ld 0 1, LC.callT H h fun r_ w4 H h => let ⟨t30, hr, h⟩ := h; ⟨t30, hr, sel_imp h (fun h => ⟨_, H.ld 0 2, LC.callT H h fun r_ w5 H h => let ⟨t34, hr, h⟩ := h; ⟨t34, hr, S0T_ok h (LC.nil _)⟩⟩) (fun h => S0T_ok h (LC.nil _))⟩⟩) (fun h => sel_imp h (fun h => ⟨_, H.ld 0 1, LC.callT H h fun r_ w6 H h => let ⟨t40, hr, h⟩ := h; ⟨t40, hr, sel_imp h (fun h => ⟨_, H.ld 0 2, LC.callT H h fun r_ w7 H h => let ⟨t44, hr, h⟩ := h; ⟨t44, hr, S0T_ok h (LC.nil _)⟩⟩) (fun h => S0T_ok h (LC.nil _))⟩⟩) (fun h => S0T_ok h (LC.nil _)))))⟩)
end enthymemeref06_ValidSort
namespace enthymemeref06_fits
noncomputable def C0 : Code := (Try.f43.body).getD .skip
/-- enthymeme/enthymemeref06.fits -/
noncomputable def C1:=C0.sn
noncomputable def C2:=C1.sn
theorem ok (u0 bits1 : Int) (w : World) (R : Post) (h : sel (decide (bits1 > 63)) (R (.returned (.bool true)) w) (¬ (IntKind.wrap .u64 bits1) < 0 ∧ R (.returned (.bool (decide (u0 < (IntKind.wrap .u64 (1 * 2 ^ (min (Int.toNat (IntKind.wrap .u64 bits1)) (IntKind.bits .u64)))))))) w)) : Calls Try.prog n_enthymemeref06_fits #[.u u0, .i bits1] w R :=
  calls_of_WP' (R := R) (fn := Try.f43) (c := C0) (args := [.u u0, .i bits1]) (by kernel_rfl) (by kernel_rfl) (by kernel_rfl) (sr C0 (show (fun (E : Env) (w : World) => srK Try.prog C0 (fun E w => srK Try.prog C1 (fun E w => retVC Try.prog Try.f43 E w (fun v => R (.returned v) w)) E w) E w) (envOf 0 [.u u0, .i bits1]) w from Eq.mp (by kernel_rfl) h) fun _ _ hK => (sr C1 hK fun _ _ hK => (rt C2 fun a hA => retVC_sound hA hK)))
end enthymemeref06_fits
namespace enthymemeref06_Valid
noncomputable def C0 : Code := (Try.f15.body).getD .skip
noncomputable def C1:=C0.sn
noncomputable def C2:=C1.sn
noncomputable def C3:=C2.sn
noncomputable def C4:=C3.fs
noncomputable def C5:=C4.sn
noncomputable def C6:=C5.fs
noncomputable def C7:=C3.sn
abbrev Q0 (R : Post) : Exit → Act → World → Prop := (Exit.then (wpx Try.prog (cx 149) C7 (bodyPost Try.prog Try.f15 R)) (bodyPost Try.prog Try.f15 R))
noncomputable def C8:=C6.sn
/-- ref.go:60 -/
abbrev S0  (w : World) (R : Post) : Prop :=
  R (.returned (.i 1)) w
def KE_S0 (E : Env) (w : World) (R : Post) : Prop := S0  w R
theorem KE_S0_ok (R : Post) (E : Env) (w : World) (h : KE_S0 E w R) : WP Try.prog (cx 149) C6 (Q0 R) E w := by
  exact fun a ha => WP.at (E := []) (sr C6 (K := fun E w => retVC Try.prog Try.f15 E w (fun v => R (.returned v) w)) (Eq.mp (by kernel_rfl) h) fun _ _ hK => (rt C8 fun a hA => retVC_sound hA hK)) ha.nil
noncomputable def C9:=C7.fs
noncomputable def C10:=C9.sn
noncomputable def C11:=C10.fs
noncomputable def C12:=C7.sn
abbrev Q1 (R : Post) : Exit → Act → World → Prop := (Exit.then (wpx Try.prog (cx 149) C12 (bodyPost Try.prog Try.f15 R)) (bodyPost Try.prog Try.f15 R))
noncomputable def C13:=C11.sn
/-- ref.go:63 -/
abbrev S2  (w : World) (R : Post) : Prop :=
  R (.returned (.i 1)) w
def KE_S2 (E : Env) (w : World) (R : Post) : Prop := S2  w R
theorem KE_S2_ok (R : Post) (E : Env) (w : World) (h : KE_S2 E w R) : WP Try.prog (cx 149) C11 (Q1 R) E w := by
  exact fun a ha => WP.at (E := []) (sr C11 (K := fun E w => retVC Try.prog Try.f15 E w (fun v => R (.returned v) w)) (Eq.mp (by kernel_rfl) h) fun _ _ hK => (rt C13 fun a hA => retVC_sound hA hK)) ha.nil
noncomputable def C14:=C12.sn
noncomputable def C15:=C14.fs
noncomputable def C16:=C15.sn
noncomputable def C17:=C16.fs
noncomputable def C18:=C14.sn
abbrev Q2 (R : Post) : Exit → Act → World → Prop := (Exit.then (wpx Try.prog (cx 149) C18 (bodyPost Try.prog Try.f15 R)) (bodyPost Try.prog Try.f15 R))
noncomputable def C19:=C17.sn
/-- ref.go:69 -/
abbrev S4  (w : World) (R : Post) : Prop :=
  R (.returned (.i 1)) w
def KE_S4 (E : Env) (w : World) (R : Post) : Prop := S4  w R
theorem KE_S4_ok (R : Post) (E : Env) (w : World) (h : KE_S4 E w R) : WP Try.prog (cx 149) C17 (Q2 R) E w := by
  exact fun a ha => WP.at (E := []) (sr C17 (K := fun E w => retVC Try.prog Try.f15 E w (fun v => R (.returned v) w)) (Eq.mp (by kernel_rfl) h) fun _ _ hK => (rt C19 fun a hA => retVC_sound hA hK)) ha.nil
noncomputable def C20:=C18.fs
noncomputable def C21:=C20.sn
noncomputable def C22:=C21.fs
noncomputable def C23:=C22.fs
noncomputable def C24:=C18.sn
abbrev Q3 (R : Post) : Exit → Act → World → Prop := (Exit.then (wpx Try.prog (cx 149) C24 (bodyPost Try.prog Try.f15 R)) (bodyPost Try.prog Try.f15 R))
abbrev Q4 (R : Post) : Exit → Act → World → Prop := (Exit.inBlock 0 (Q3 R))
/-- the head of the loop, ref.go:71 -/
def L5 (v1 s3 : Addr) (i4 : Int) (w : World) (R : Post) : Prop := LP Try.prog (cx 149) C23 (Q4 R) [(1, .pointer (some v1)), (3, .pointer (some s3)), (4, .i i4)] w
def KE_L5 (E : Env) (w : World) (R : Post) : Prop := asRef (Env.get? E 1) fun v1 => asRef (Env.get? E 3) fun s3 => W.asInt .i64 (Env.get? E 4) fun i4 => L5 v1 s3 i4 w R
theorem KE_L5_ok (R : Post) (E : Env) (w : World) (h : KE_L5 E w R) : LP Try.prog (cx 149) C23 (Q4 R) E w := by
  obtain ⟨v1, hq1, h_1⟩ := asRef_elim h
  obtain ⟨s3, hq3, h_2⟩ := asRef_elim h_1
  obtain ⟨i4, hq4, h_3⟩ := asInt_elim h_2
  intro a ha
  exact h_3 a (ha.cons hq1 (ha.cons hq3 (ha.cons hq4 ha.nil)))
noncomputable def C25:=C23.sn
noncomputable def C26:=C25.fs
noncomputable def C27:=C26.fs
noncomputable def C28:=C27.sn
noncomputable def C29:=C28.fs
noncomputable def C30:=C29.sn
noncomputable def C31:=C30.fs
noncomputable def C32:=C25.sn
abbrev Q5 (R : Post) : Exit → Act → World → Prop := (Exit.then (wpx Try.prog (cx 149) C32 (Exit.then (LoopWP Try.prog (cx 149) C23 (Q4 R)) (Q4 R))) (Exit.then (LoopWP Try.prog (cx 149) C23 (Q4 R)) (Q4 R)))
noncomputable def C33:=C28.sn
abbrev Q6 (R : Post) : Exit → Act → World → Prop := (Exit.then (wpx Try.prog (cx 149) C33 (Exit.inBlock 1 (Q5 R))) (Exit.inBlock 1 (Q5 R)))
noncomputable def C34:=C31.sn
/-- ref.go:74 -/
abbrev S6  (w : World) (R : Post) : Prop :=
  R (.returned (.i 1)) w
def KE_S6 (E : Env) (w : World) (R : Post) : Prop := S6  w R
theorem KE_S6_ok (R : Post) (E : Env) (w : World) (h : KE_S6 E w R) : WP Try.prog (cx 149) C31 (Q6 R) E w := by
  exact fun a ha => WP.at (E := []) (sr C31 (K := fun E w => retVC Try.prog Try.f15 E w (fun v => R (.returned v) w)) (Eq.mp (by kernel_rfl) h) fun _ _ hK => (rt C34 fun a hA => retVC_sound hA hK)) ha.nil
noncomputable def C35:=C33.sn
noncomputable def C36:=C35.fs
abbrev Q7 (R : Post) : Exit → Act → World → Prop := (Exit.inBlock 1 (Q5 R))
noncomputable def C37:=C36.sn
/-- ref.go:77 -/
abbrev S8  (w : World) (R : Post) : Prop :=
  R (.returned (.i 1)) w
def KE_S8 (E : Env) (w : World) (R : Post) : Prop := S8  w R
theorem KE_S8_ok (R : Post) (E : Env) (w : World) (h : KE_S8 E w R) : WP Try.prog (cx 149) C36 (Q7 R) E w := by
  exact fun a ha => WP.at (E := []) (sr C36 (K := fun E w => retVC Try.prog Try.f15 E w (fun v => R (.returned v) w)) (Eq.mp (by kernel_rfl) h) fun _ _ hK => (rt C37 fun a hA => retVC_sound hA hK)) ha.nil
abbrev Q8 (R : Post) : Exit → Act → World → Prop := (Exit.then (LoopWP Try.prog (cx 149) C23 (Q4 R)) (Q4 R))
/-- ref.go:71 -/
abbrev S9 (v1 s3 : Addr) (i4 : Int) (w : World) (R : Post) : Prop :=
  L5 v1 s3 (IntKind.wrap .i64 (i4 + 1)) w R
def KE_S9 (E : Env) (w : World) (R : Post) : Prop := asRef (Env.get? E 1) fun v1 => asRef (Env.get? E 3) fun s3 => W.asInt .i64 (Env.get? E 4) fun i4 => S9 v1 s3 i4 w R
theorem KE_S9_ok (R : Post) (E : Env) (w : World) (h : KE_S9 E w R) : WP Try.prog (cx 149) C32 (Q8 R) E w := by
  obtain ⟨v1, hq1, h_1⟩ := asRef_elim h
  obtain ⟨s3, hq3, h_2⟩ := asRef_elim h_1
  obtain ⟨i4, hq4, h_3⟩ := asInt_elim h_2
  exact fun a ha => WP.at (E := [(1, .pointer (some v1)), (3, .pointer (some s3)), (4, .i i4)]) (rg C32 (K := fun E w => KE_L5 E w R) (by kernel_rfl) (Eq.mp (by kernel_rfl) h_3) fun _ _ a hA hK => KE_L5_ok R _ _ hK a hA) (ha.cons hq1 (ha.cons hq3 (ha.cons hq4 ha.nil)))
noncomputable def C38:=C35.sn
/-- ref.go:76 -/
abbrev S7 (v1 s3 : Addr) (i4 : Int) (x5 : Addr) (w : World) (R : Post) : Prop :=
  ∃ t104 : Int, w.cell? (s3.add 0) = some (.i t104) ∧ 
  sel (t104 == 2) (∃ t108 : Int, w.cell? (x5.add 1) = some (.u t108) ∧ 
  sel (t108 == 0) (S8  w R) (∃ t112 : Int, w.cell? (x5.add 1) = some (.u t112) ∧ 
  ∃ t114 : Int, w.cell? (s3.add 1) = some (.i t114) ∧ 
  Calls Try.prog n_enthymemeref06_fits #[.u t112, .i t114] w fun r_ w1 => ∃ t115 : Bool, r_ = .returned (.bool t115) ∧ 
  sel (!t115) (S8  w1 R) (∃ t120 : ByteArray, w1.cell? (x5.add 2) = some (.string t120) ∧ 
  sel (decide (((t120.size : Nat) : Int) > 0)) (S8  w1 R) (∃ t127 : Int, w1.cell? (s3.add 0) = some (.i t127) ∧ 
  sel (t127 == 3) (∃ t131 : Int, w1.cell? (x5.add 1) = some (.u t131) ∧ 
  sel (decide (t131 > 0)) (S8  w1 R) (∃ t135 : ByteArray, w1.cell? (x5.add 2) = some (.string t135) ∧ 
  sel (((t135.size : Nat) : Int) == 0) (S8  w1 R) (∃ t141 : ByteArray, w1.cell? (x5.add 2) = some (.string t141) ∧ 
  ∃ t144 : Int, w1.cell? (s3.add 1) = some (.i t144) ∧ 
  sel (decide (((t141.size : Nat) : Int) > t144)) (S8  w1 R) (S9 v1 s3 i4 w1 R)))) (S9 v1 s3 i4 w1 R))))) (∃ t127_x1 : Int, w.cell? (s3.add 0) = some (.i t127_x1) ∧ 
  sel (t127_x1 == 3) (∃ t131_x1 : Int, w.cell? (x5.add 1) = some (.u t131_x1) ∧ 
  sel (decide (t131_x1 > 0)) (S8  w R) (∃ t135_x1 : ByteArray, w.cell? (x5.add 2) = some (.string t135_x1) ∧ 
  sel (((t135_x1.size : Nat) : Int) == 0) (S8  w R) (∃ t141_x1 : ByteArray, w.cell? (x5.add 2) = some (.string t141_x1) ∧ 
  ∃ t144_x1 : Int, w.cell? (s3.add 1) = some (.i t144_x1) ∧ 
  sel (decide (((t141_x1.size : Nat) : Int) > t144_x1)) (S8  w R) (S9 v1 s3 i4 w R)))) (S9 v1 s3 i4 w R))
def KE_S7 (E : Env) (w : World) (R : Post) : Prop := asRef (Env.get? E 1) fun v1 => asRef (Env.get? E 3) fun s3 => W.asInt .i64 (Env.get? E 4) fun i4 => asRef (Env.get? E 5) fun x5 => S7 v1 s3 i4 x5 w R
theorem KE_S7_ok (R : Post) (E : Env) (w : World) (h : KE_S7 E w R) : WP Try.prog (cx 149) C33 (Q7 R) E w := by
  obtain ⟨v1, hq1, h_1⟩ := asRef_elim h
  obtain ⟨s3, hq3, h_2⟩ := asRef_elim h_1
  obtain ⟨i4, hq4, h_3⟩ := asInt_elim h_2
  obtain ⟨x5, hq5, h_4⟩ := asRef_elim h_3
  exact fun a ha => WP.at (E := [(1, .pointer (some v1)), (3, .pointer (some s3)), (4, .i i4), (5, .pointer (some x5))]) (sr C33 (K := fun E w => condK (Env.val E (.tmp 148)) (KE_S8 E w R) (KE_S9 E w R)) (Eq.mp (by kernel_rfl) h_4) fun _ _ hK => (cn C35 hK (fun hK => (KE_S8_ok R _ _ hK)) (fun hK => (sk C38 fun a hA => nx hA (KE_S9_ok R _ _ hK))))) (ha.cons hq1 (ha.cons hq3 (ha.cons hq4 (ha.cons hq5 ha.nil))))
noncomputable def C39:=C23.fs
noncomputable def C40:=C39.sn
noncomputable def C41:=C40.fs
noncomputable def C42:=C30.sn
noncomputable def C43:=C40.sn
noncomputable def C44:=C24.sn
theorem L5_step (v1 s3 : Addr) (i4 : Int) (w : World) (R : Post) (h : ∃ t71 : Sl, w.cell? (v1.add 5) = some (t71.v) ∧ 
  sel (decide (i4 < ((t71.n : Nat) : Int))) (∃ t77 : Sl, w.cell? (v1.add 5) = some (t77.v) ∧ 
  (0 : Int) ≤ i4 ∧ i4 < ((t77.n : Nat) : Int) ∧ optP t77.a fun t79_p => ∃ t80_0 : Int, ∃ t80_1 : Int, ∃ t80_2 : ByteArray, w.cell? ((t79_p.add (Int.toNat i4 * 3)).add 0) = some (.u t80_0) ∧ w.cell? ((t79_p.add (Int.toNat i4 * 3)).add 1) = some (.u t80_1) ∧ w.cell? ((t79_p.add (Int.toNat i4 * 3)).add 2) = some (.string t80_2) ∧ 
  nwV w (.cells #[.u 0, .u 0, .s0] ty_enthymemeref06_Entry) fun w2 => 
  stV w2 (nb w) (.u t80_0) fun w3 => 
  stV w3 ((nb w).add 1) (.u t80_1) fun w4 => 
  stV w4 ((nb w).add 2) (.string t80_2) fun w5 => 
  drV w5 fun w6 => ∃ t82 : Int, w6.cell? ((nb w).add 0) = some (.u t82) ∧ 
  ∃ t84 : Int, w6.cell? (s3.add 2) = some (.i t84) ∧ 
  Calls Try.prog n_enthymemeref06_fits #[.u t82, .i t84] w6 fun r_ w7 => ∃ t85 : Bool, r_ = .returned (.bool t85) ∧ 
  sel (!t85) (S6  w7 R) (sel (decide (i4 > 0)) (∃ t92 : Sl, w7.cell? (v1.add 5) = some (t92.v) ∧ 
  (0 : Int) ≤ (IntKind.wrap .i64 (i4 - 1)) ∧ (IntKind.wrap .i64 (i4 - 1)) < ((t92.n : Nat) : Int) ∧ optP t92.a fun t95_p => ∃ t97 : Int, w7.cell? ((t95_p.add (Int.toNat (IntKind.wrap .i64 (i4 - 1)) * 3)).add 0) = some (.u t97) ∧ 
  ∃ t99 : Int, w7.cell? ((nb w).add 0) = some (.u t99) ∧ 
  sel (decide (t97 ≥ t99)) (S6  w7 R) (S7 v1 s3 i4 (nb w) w7 R)) (S7 v1 s3 i4 (nb w) w7 R))) (R (.returned (.i 0)) w)) : L5 v1 s3 i4 w R :=
  LP.step (n := (cx 149)) (c := C23) (E := [(1, .pointer (some v1)), (3, .pointer (some s3)), (4, .i i4)]) (w := w) (sq C23 (sr C39 (show (fun (E : Env) (w : World) => srK Try.prog C39 (fun E w => condK (Env.val E (.tmp 73)) (srK Try.prog C27 (fun E w => sdK Try.prog C29 [0, 1, 2, 3, 4, 5, 6, 7, 8, 9, 10, 11, 12, 13, 14, 15, 16, 17, 18, 19, 20, 21] (fun E w => condK (Env.val E (.tmp 102)) (KE_S6 E w R) (KE_S7 E w R)) E w) E w) (srK Try.prog C24 (fun E w => retVC Try.prog Try.f15 E w (fun v => R (.returned v) w)) E w)) E w) [(1, .pointer (some v1)), (3, .pointer (some s3)), (4, .i i4)] w from Eq.mp (by kernel_rfl) h) fun _ _ hK => (cn C40 hK (fun hK => (sk C41 fun a hA => nx hA (sq C25 (bk C26 1 (by kernel_rfl) (sr C27 hK fun _ _ hK => (sq C28 (sd C29 (by kernel_rfl) hK fun _ _ hK => (cn C30 hK (fun hK => (KE_S6_ok R _ _ hK)) (fun hK => (sk C42 fun a hA => nx hA (KE_S7_ok R _ _ hK))))))))))) (fun hK => (xt C43 0 (by kernel_rfl) fun a hA => nx hA (sr C24 hK fun _ _ hK => (rt C44 fun a hA => retVC_sound hA hK)))))))
noncomputable def C45:=C12.fs
abbrev Q9 (R : Post) : Exit → Act → World → Prop := (Exit.then (wpx Try.prog (cx 149) C14 (bodyPost Try.prog Try.f15 R)) (bodyPost Try.prog Try.f15 R))
noncomputable def C46:=C45.sn
noncomputable def C47:=C46.fs
noncomputable def C48:=C47.sn
noncomputable def C49:=C46.sn
noncomputable def C50:=C16.sn
/-- ref.go:65 -/
abbrev S3 (v1 s3 : Addr) (w : World) (R : Post) : Prop :=
  ∃ t57_0 : Int, ∃ t57_1 : Int, ∃ t57_2 : Int, w.cell? (s3.add 0) = some (.i t57_0) ∧ w.cell? (s3.add 1) = some (.i t57_1) ∧ w.cell? (s3.add 2) = some (.i t57_2) ∧ 
  Calls Try.prog n_enthymemeref06_Array #[.agg #[.i t57_0, .i t57_1, .i t57_2]] w fun r_ w1 => ∃ t58 : Bool, r_ = .returned (.bool t58) ∧ 
  sel (!t58) (R (.returned (.i 0)) w1) (∃ t61 : Int, w1.cell? (v1.add 3) = some (.u t61) ∧ 
  sel (decide (t61 > 0)) (S4  w1 R) (∃ t65 : ByteArray, w1.cell? (v1.add 4) = some (.string t65) ∧ 
  sel (decide (((t65.size : Nat) : Int) > 0)) (S4  w1 R) (L5 v1 s3 0 w1 R)))
def KE_S3 (E : Env) (w : World) (R : Post) : Prop := asRef (Env.get? E 1) fun v1 => asRef (Env.get? E 3) fun s3 => S3 v1 s3 w R
theorem KE_S3_ok (R : Post) (E : Env) (w : World) (h : KE_S3 E w R) : WP Try.prog (cx 149) C45 (Q9 R) E w := by
  obtain ⟨v1, hq1, h_1⟩ := asRef_elim h
  obtain ⟨s3, hq3, h_2⟩ := asRef_elim h_1
  exact fun a ha => WP.at (E := [(1, .pointer (some v1)), (3, .pointer (some s3))]) (sr C45 (K := fun E w => condK (Env.val E (.tmp 59)) (srK Try.prog C47 (fun E w => retVC Try.prog Try.f15 E w (fun v => R (.returned v) w)) E w) (srK Try.prog C15 (fun E w => condK (Env.val E (.tmp 68)) (KE_S4 E w R) (srK Try.prog C20 (fun E w => KE_L5 E w R) E w)) E w)) (Eq.mp (by kernel_rfl) h_2) fun _ _ hK => (cn C46 hK (fun hK => (sr C47 hK fun _ _ hK => (rt C48 fun a hA => retVC_sound hA hK))) (fun hK => (sk C49 fun a hA => nx hA (sq C14 (sr C15 hK fun _ _ hK => (cn C16 hK (fun hK => (KE_S4_ok R _ _ hK)) (fun hK => (sk C50 fun a hA => nx hA (sq C18 (sr C20 hK fun _ _ hK => (bk C21 0 (by kernel_rfl) (lp C22 (by kernel_rfl) (KE_L5_ok R _ _ hK)))))))))))))) (ha.cons hq1 (ha.cons hq3 ha.nil))
noncomputable def C51:=C10.sn
/-- ref.go:62 -/
abbrev S1 (v1 s3 : Addr) (w : World) (R : Post) : Prop :=
  ∃ t36 : Int, w.cell? (s3.add 0) = some (.i t36) ∧ 
  sel (t36 == 1) (∃ t40 : Int, w.cell? (v1.add 3) = some (.u t40) ∧ 
  sel (decide (t40 > 0)) (S2  w R) (∃ t44 : ByteArray, w.cell? (v1.add 4) = some (.string t44) ∧ 
  ∃ t47 : Int, w.cell? (s3.add 1) = some (.i t47) ∧ 
  sel (decide (((t44.size : Nat) : Int) > t47)) (S2  w R) (∃ t52 : Sl, w.cell? (v1.add 5) = some (t52.v) ∧ 
  sel (decide (((t52.n : Nat) : Int) > 0)) (S2  w R) (S3 v1 s3 w R)))) (S3 v1 s3 w R)
def KE_S1 (E : Env) (w : World) (R : Post) : Prop := asRef (Env.get? E 1) fun v1 => asRef (Env.get? E 3) fun s3 => S1 v1 s3 w R
theorem KE_S1_ok (R : Post) (E : Env) (w : World) (h : KE_S1 E w R) : WP Try.prog (cx 149) C9 (Q1 R) E w := by
  obtain ⟨v1, hq1, h_1⟩ := asRef_elim h
  obtain ⟨s3, hq3, h_2⟩ := asRef_elim h_1
  exact fun a ha => WP.at (E := [(1, .pointer (some v1)), (3, .pointer (some s3))]) (sr C9 (K := fun E w => condK (Env.val E (.tmp 56)) (KE_S2 E w R) (KE_S3 E w R)) (Eq.mp (by kernel_rfl) h_2) fun _ _ hK => (cn C10 hK (fun hK => (KE_S2_ok R _ _ hK)) (fun hK => (sk C51 fun a hA => nx hA (sq C12 (KE_S3_ok R _ _ hK)))))) (ha.cons hq1 (ha.cons hq3 ha.nil))
/-- enthymeme/enthymemeref06.Valid -/
noncomputable def C52:=C1.fs
noncomputable def C53:=C52.sn
noncomputable def C54:=C53.fs
noncomputable def C55:=C54.sn
noncomputable def C56:=C53.sn
noncomputable def C57:=C5.sn
theorem ok (v0_0 v0_1 v0_2 v0_3 : Int) (v0_4 : ByteArray) (v0_5 : Sl) (w : World) (R : Post) (h : nwV w (.cells #[.i v0_0, .i v0_1, .i v0_2, .u v0_3, .string v0_4, v0_5.v] ty_enthymemeref06_Value) fun w1 => 
  ∃ t7_0 : Int, ∃ t7_1 : Int, ∃ t7_2 : Int, w1.cell? (((nb w).add 0).add 0) = some (.i t7_0) ∧ w1.cell? (((nb w).add 0).add 1) = some (.i t7_1) ∧ w1.cell? (((nb w).add 0).add 2) = some (.i t7_2) ∧ 
  Calls Try.prog n_enthymemeref06_ValidSort #[.agg #[.i t7_0, .i t7_1, .i t7_2]] w1 fun r_ w2 => ∃ t8 : Int, r_ = .returned (.i t8) ∧ 
  sel (t8 != 0) (R (.returned (.i 9)) w2) (∃ t11_0 : Int, ∃ t11_1 : Int, ∃ t11_2 : Int, w2.cell? (((nb w).add 0).add 0) = some (.i t11_0) ∧ w2.cell? (((nb w).add 0).add 1) = some (.i t11_1) ∧ w2.cell? (((nb w).add 0).add 2) = some (.i t11_2) ∧ 
  nwV w2 (.cells #[.i 0, .i 0, .i 0] ty_api_Sort) fun w3 => 
  stV w3 (nb w2) (.i t11_0) fun w4 => 
  stV w4 ((nb w2).add 1) (.i t11_1) fun w5 => 
  stV w5 ((nb w2).add 2) (.i t11_2) fun w6 => 
  ∃ t13 : Int, w6.cell? ((nb w2).add 0) = some (.i t13) ∧ 
  sel (t13 == 0) (∃ t17 : Int, w6.cell? ((nb w).add 3) = some (.u t17) ∧ 
  ∃ t19 : Int, w6.cell? ((nb w2).add 1) = some (.i t19) ∧ 
  Calls Try.prog n_enthymemeref06_fits #[.u t17, .i t19] w6 fun r_ w7 => ∃ t20 : Bool, r_ = .returned (.bool t20) ∧ 
  sel (!t20) (S0  w7 R) (∃ t24 : ByteArray, w7.cell? ((nb w).add 4) = some (.string t24) ∧ 
  sel (decide (((t24.size : Nat) : Int) > 0)) (S0  w7 R) (∃ t30 : Sl, w7.cell? ((nb w).add 5) = some (t30.v) ∧ 
  sel (decide (((t30.n : Nat) : Int) > 0)) (S0  w7 R) (S1 (nb w) (nb w2) w7 R)))) (S1 (nb w) (nb w2) w6 R))) : Calls Try.prog n_enthymemeref06_Valid #[.agg #[.i v0_0, .i v0_1, .i v0_2, .u v0_3, .string v0_4, v0_5.v]] w R :=
  calls_of_WP' (R := R) (fn := Try.f15) (c := C0) (args := [.agg #[.i v0_0, .i v0_1, .i v0_2, .u v0_3, .string v0_4, v0_5.v]]) (by kernel_rfl) (by kernel_rfl) (by kernel_rfl) (sr C0 (show (fun (E : Env) (w : World) => srK Try.prog C0 (fun E w => srK Try.prog C52 (fun E w => condK (Env.val E (.tmp 9)) (srK Try.prog C54 (fun E w => retVC Try.prog Try.f15 E w (fun v => R (.returned v) w)) E w) (srK Try.prog C2 (fun E w => srK Try.prog C4 (fun E w => condK (Env.val E (.tmp 34)) (KE_S0 E w R) (KE_S1 E w R)) E w) E w)) E w) E w) (envOf 0 [.agg #[.i v0_0, .i v0_1, .i v0_2, .u v0_3, .string v0_4, v0_5.v]]) w from Eq.mp (by kernel_rfl) h) fun _ _ hK => (sq C1 (sr C52 hK fun _ _ hK => (cn C53 hK (fun hK => (sr C54 hK fun _ _ hK => (rt C55 fun a hA => retVC_sound hA hK))) (fun hK => (sk C56 fun a hA => nx hA (sr C2 hK fun _ _ hK => (sq C3 (sr C4 hK fun _ _ hK => (cn C5 hK (fun hK => (KE_S0_ok R _ _ hK)) (fun hK => (sk C57 fun a hA => nx hA (sq C7 (KE_S1_ok R _ _ hK))))))))))))))
abbrev S0T  (w : World) (R : Post) : Prop :=
  R (.returned (.i 1)) w
theorem S0T_ok  {w : World} {R : Post} (h : S0T  w R) (H : LC w []) : S0  w R := h
abbrev S2T  (w : World) (R : Post) : Prop :=
  R (.returned (.i 1)) w
theorem S2T_ok  {w : World} {R : Post} (h : S2T  w R) (H : LC w []) : S2  w R := h
abbrev S4T  (w : World) (R : Post) : Prop :=
  R (.returned (.i 1)) w
theorem S4T_ok  {w : World} {R : Post} (h : S4T  w R) (H : LC w []) : S4  w R := h
def L5T (v1 : Nat) (v1_0 v1_1 v1_2 v1_3 : Int) (v1_4 : ByteArray) (v1_5 : Sl) (s3 : Nat) (s3_0 s3_1 s3_2 i4 : Int) (w : World) (R : Post) : Prop := LC w [(v1, [.i v1_0, .i v1_1, .i v1_2, .u v1_3, .string v1_4, v1_5.v], ty_enthymemeref06_Value), (s3, [.i s3_0, .i s3_1, .i s3_2], ty_api_Sort)] → L5 (at0 v1) (at0 s3) i4 w R
abbrev S6T  (w : World) (R : Post) : Prop :=
  R (.returned (.i 1)) w
theorem S6T_ok  {w : World} {R : Post} (h : S6T  w R) (H : LC w []) : S6  w R := h
abbrev S8T  (w : World) (R : Post) : Prop :=
  R (.returned (.i 1)) w
theorem S8T_ok  {w : World} {R : Post} (h : S8T  w R) (H : LC w []) : S8  w R := h
abbrev S9T (v1 : Nat) (v1_0 v1_1 v1_2 v1_3 : Int) (v1_4 : ByteArray) (v1_5 : Sl) (s3 : Nat) (s3_0 s3_1 s3_2 i4 : Int) (w : World) (R : Post) : Prop :=
  L5T v1 v1_0 v1_1 v1_2 v1_3 v1_4 v1_5 s3 s3_0 s3_1 s3_2 (IntKind.wrap .i64 (i4 + 1)) w R
theorem S9T_ok {v1 : Nat} {v1_0 v1_1 v1_2 v1_3 : Int} {v1_4 : ByteArray} {v1_5 : Sl} {s3 : Nat} {s3_0 s3_1 s3_2 i4 : Int} {w : World} {R : Post} (h : S9T v1 v1_0 v1_1 v1_2 v1_3 v1_4 v1_5 s3 s3_0 s3_1 s3_2 i4 w R) (H : LC w [(v1, [.i v1_0, .i v1_1, .i v1_2, .u v1_3, .string v1_4, v1_5.v], ty_enthymemeref06_Value), (s3, [.i s3_0, .i s3_1, .i s3_2], ty_api_Sort)]) : S9 (at0 v1) (at0 s3) i4 w R := h H
abbrev S7T (v1 : Nat) (v1_0 v1_1 v1_2 v1_3 : Int) (v1_4 : ByteArray) (v1_5 : Sl) (s3 : Nat) (s3_0 s3_1 s3_2 i4 : Int) (x5 : Nat) (x5_0 x5_1 : Int) (x5_2 : ByteArray) (w : World) (R : Post) : Prop :=
  sel (s3_0 == 2) (sel (x5_1 == 0) (S8T  w R) (callF [v1, s3, x5] Try.prog n_enthymemeref06_fits #[.u x5_1, .i s3_1] w fun r_ w1 => ∃ t115 : Bool, r_ = .returned (.bool t115) ∧ 
  sel (!t115) (S8T  w1 R) (sel (decide (((x5_2.size : Nat) : Int) > 0)) (S8T  w1 R) (sel (s3_0 == 3) (sel (decide (x5_1 > 0)) (S8T  w1 R) (sel (((x5_2.size : Nat) : Int) == 0) (S8T  w1 R) (sel (decide (((x5_2.size : Nat) : Int) > s3_1)) (S8T  w1 R) (S9T v1 v1_0 v1_1 v1_2 v1_3 v1_4 v1_5 s3 s3_0 s3_1 s3_2 i4 w1 R)))) (S9T v1 v1_0 v1_1 v1_2 v1_3 v1_4 v1_5 s3 s3_0 s3_1 s3_2 i4 w1 R))))) (sel (s3_0 == 3) (sel (decide (x5_1 > 0)) (S8T  w R) (sel (((x5_2.size : Nat) : Int) == 0) (S8T  w R) (sel (decide (((x5_2.size : Nat) : Int) > s3_1)) (S8T  w R) (S9T v1 v1_0 v1_1 v1_2 v1_3 v1_4 v1_5 s3 s3_0 s3_1 s3_2 i4 w R)))) (S9T v1 v1_0 v1_1 v1_2 v1_3 v1_4 v1_5 s3 s3_0 s3_1 s3_2 i4 w R))
theorem S7T_ok {v1 : Nat} {v1_0 v1_1 v1_2 v1_3 : Int} {v1_4 : ByteArray} {v1_5 : Sl} {s3 : Nat} {s3_0 s3_1 s3_2 i4 : Int} {x5 : Nat} {x5_0 x5_1 : Int} {x5_2 : ByteArray} {w : World} {R : Post} (h : S7T v1 v1_0 v1_1 v1_2 v1_3 v1_4 v1_5 s3 s3_0 s3_1 s3_2 i4 x5 x5_0 x5_1 x5_2 w R) (H : LC w [(v1, [.i v1_0, .i v1_1, .i v1_2, .u v1_3, .string v1_4, v1_5.v], ty_enthymemeref06_Value), (s3, [.i s3_0, .i s3_1, .i s3_2], ty_api_Sort), (x5, [.u x5_0, .u x5_1, .string x5_2], ty_enthymemeref06_Entry)]) : S7 (at0 v1) (at0 s3) i4 (at0 x5) w R := ⟨_, H.ld 1 0, sel_imp h (fun h => ⟨_, H.ld 2 1, sel_imp h (fun h => S8T_ok h (LC.nil _)) (fun h => ⟨_, H.ld 2 1, ⟨_, H.ld 1 1, LC.callT H h fun r_ w1 H h => let ⟨t115, hr, h⟩ := h; ⟨t115, hr, sel_imp h (fun h => S8T_ok h (LC.nil _)) (fun h => ⟨_, H.ld 2 2, sel_imp h (fun h => S8T_ok h (LC.nil _)) (fun h => ⟨_, H.ld 1 0, sel_imp h (fun h => ⟨_, H.ld 2 1, sel_imp h (fun h => S8T_ok h (LC.nil _)) (fun h => ⟨_, H.ld 2 2, sel_imp h (fun h => S8T_ok h (LC.nil _)) (fun h => ⟨_, H.ld 2 2, ⟨_, H.ld 1 1, sel_imp h (fun h => S8T_ok h (LC.nil _)) (fun h => S9T_ok h (H.pick [0, 1] (by decide)))⟩⟩)⟩)⟩) (fun h => S9T_ok h (H.pick [0, 1] (by decide)))⟩)⟩)⟩⟩⟩)⟩) (fun h => ⟨_, H.ld 1 0, sel_imp h (fun h => ⟨_, H.ld 2 1, sel_imp h (fun h => S8T_ok h (LC.nil _)) (fun h => ⟨_, H.ld 2 2, sel_imp h (fun h => S8T_ok h (LC.nil _)) (fun h => ⟨_, H.ld 2 2, ⟨_, H.ld 1 1, sel_imp h (fun h => S8T_ok h (LC.nil _)) (fun h => S9T_ok h (H.pick [0, 1] (by decide)))⟩⟩)⟩)⟩) (fun h => S9T_ok h (H.pick [0, 1] (by decide)))⟩)⟩
theorem L5T_step (v1 : Nat) (v1_0 v1_1 v1_2 v1_3 : Int) (v1_4 : ByteArray) (v1_5 : Sl) (s3 : Nat) (s3_0 s3_1 s3_2 i4 : Int) (w : World) (R : Post) (h : sel (decide (i4 < ((v1_5.n : Nat) : Int))) ((0 : Int) ≤ i4 ∧ i4 < ((v1_5.n : Nat) : Int) ∧ optP v1_5.a fun t79_p => ∃ t80_0 : Int, ∃ t80_1 : Int, ∃ t80_2 : ByteArray, w.cell? ((t79_p.add (Int.toNat i4 * 3)).add 0) = some (.u t80_0) ∧ w.cell? ((t79_p.add (Int.toNat i4 * 3)).add 1) = some (.u t80_1) ∧ w.cell? ((t79_p.add (Int.toNat i4 * 3)).add 2) = some (.string t80_2) ∧ 
  newV [v1, s3] w fun b5 w2 => 
  loc [v1, s3, b5] w2 fun w6 => callF [v1, s3, b5] Try.prog n_enthymemeref06_fits #[.u t80_0, .i s3_2] w6 fun r_ w7 => ∃ t85 : Bool, r_ = .returned (.bool t85) ∧ 
  sel (!t85) (S6T  w7 R) (sel (decide (i4 > 0)) ((0 : Int) ≤ (IntKind.wrap .i64 (i4 - 1)) ∧ (IntKind.wrap .i64 (i4 - 1)) < ((v1_5.n : Nat) : Int) ∧ optP v1_5.a fun t95_p => ∃ t97 : Int, w7.cell? ((t95_p.add (Int.toNat (IntKind.wrap .i64 (i4 - 1)) * 3)).add 0) = some (.u t97) ∧ 
  sel (decide (t97 ≥ t80_0)) (S6T  w7 R) (S7T v1 v1_0 v1_1 v1_2 v1_3 v1_4 v1_5 s3 s3_0 s3_1 s3_2 i4 b5 t80_0 t80_1 t80_2 w7 R)) (S7T v1 v1_0 v1_1 v1_2 v1_3 v1_4 v1_5 s3 s3_0 s3_1 s3_2 i4 b5 t80_0 t80_1 t80_2 w7 R))) (R (.returned (.i 0)) w)) : L5T v1 v1_0 v1_1 v1_2 v1_3 v1_4 v1_5 s3 s3_0 s3_1 s3_2 i4 w R := fun H => L5_step _ _ _ w R (⟨v1_5, H.ld 0 5, sel_imp h (fun h => ⟨v1_5, H.ld 0 5, ⟨h.1, h.2.1, have h := h.2.2; optP_imp h fun t79_p h => let ⟨t80_0, t80_1, t80_2, hc0, hc1, hc2, h⟩ := h; ⟨t80_0, t80_1, t80_2, hc0, hc1, hc2, LC.nwT H (Fr.refl _ _) h fun w2 (H : LC w2 [(v1, [.i v1_0, .i v1_1, .i v1_2, .u v1_3, .string v1_4, v1_5.v], ty_enthymemeref06_Value), (s3, [.i s3_0, .i s3_1, .i s3_2], ty_api_Sort), (w.heap.size, [.u 0, .u 0, .s0], ty_enthymemeref06_Entry)]) h => LC.stT0 H 2 (Fr.refl _ _) rfl rfl fun w3 H f => LC.stT H 2 1 f rfl rfl fun w4 H f => LC.stT H 2 2 f rfl rfl fun w5 (H : LC w5 [(v1, [.i v1_0, .i v1_1, .i v1_2, .u v1_3, .string v1_4, v1_5.v], ty_enthymemeref06_Value), (s3, [.i s3_0, .i s3_1, .i s3_2], ty_api_Sort), (w.heap.size, [.u t80_0, .u t80_1, .string t80_2], ty_enthymemeref06_Entry)]) (f : Fr (· ∈ [v1, s3, w.heap.size]) _ w5) => LC.drT H f fun w6 H f => ⟨_, H.ld 2 0, ⟨_, H.ld 1 2, have h := h _ f; LC.callT H h fun r_ w7 H h => let ⟨t85, hr, h⟩ := h; ⟨t85, hr, sel_imp h (fun h => S6T_ok h (LC.nil _)) (fun h => sel_imp h (fun h => ⟨v1_5, H.ld 0 5, ⟨h.1, h.2.1, have h := h.2.2; optP_imp h fun t95_p h => let ⟨t97, hc0, h⟩ := h; ⟨t97, hc0, ⟨_, H.ld 2 0, sel_imp h (fun h => S6T_ok h (LC.nil _)) (fun h => S7T_ok h H)⟩⟩⟩⟩) (fun h => S7T_ok h H))⟩⟩⟩⟩⟩⟩) (fun h => h)⟩)
abbrev S3T (v1 : Nat) (v1_0 v1_1 v1_2 v1_3 : Int) (v1_4 : ByteArray) (v1_5 : Sl) (s3 : Nat) (s3_0 s3_1 s3_2 : Int) (w : World) (R : Post) : Prop :=
  callF [v1, s3] Try.prog n_enthymemeref06_Array #[.agg #[.i s3_0, .i s3_1, .i s3_2]] w fun r_ w1 => ∃ t58 : Bool, r_ = .returned (.bool t58) ∧ 
  sel (!t58) (R (.returned (.i 0)) w1) (sel (decide (v1_3 > 0)) (S4T  w1 R) (sel (decide (((v1_4.size : Nat) : Int) > 0)) (S4T  w1 R) (L5T v1 v1_0 v1_1 v1_2 v1_3 v1_4 v1_5 s3 s3_0 s3_1 s3_2 0 w1 R)))
theorem S3T_ok {v1 : Nat} {v1_0 v1_1 v1_2 v1_3 : Int} {v1_4 : ByteArray} {v1_5 : Sl} {s3 : Nat} {s3_0 s3_1 s3_2 : Int} {w : World} {R : Post} (h : S3T v1 v1_0 v1_1 v1_2 v1_3 v1_4 v1_5 s3 s3_0 s3_1 s3_2 w R) (H : LC w [(v1, [.i v1_0, .i v1_1, .i v1_2, .u v1_3, .string v1_4, v1_5.v], ty_enthymemeref06_Value), (s3, [.i s3_0, .i s3_1, .i s3_2], ty_api_Sort)]) : S3 (at0 v1) (at0 s3) w R := ⟨_, _, _, H.ld 1 0, H.ld 1 1, H.ld 1 2, LC.callT H h fun r_ w1 H h => let ⟨t58, hr, h⟩ := h; ⟨t58, hr, sel_imp h (fun h => h) (fun h => ⟨_, H.ld 0 3, sel_imp h (fun h => S4T_ok h (LC.nil _)) (fun h => ⟨_, H.ld 0 4, sel_imp h (fun h => S4T_ok h (LC.nil _)) (fun h => h H)⟩)⟩)⟩⟩
abbrev S1T (v1 : Nat) (v1_0 v1_1 v1_2 v1_3 : Int) (v1_4 : ByteArray) (v1_5 : Sl) (s3 : Nat) (s3_0 s3_1 s3_2 : Int) (w : World) (R : Post) : Prop :=
  sel (s3_0 == 1) (sel (decide (v1_3 > 0)) (S2T  w R) (sel (decide (((v1_4.size : Nat) : Int) > s3_1)) (S2T  w R) (sel (decide (((v1_5.n : Nat) : Int) > 0)) (S2T  w R) (S3T v1 v1_0 v1_1 v1_2 v1_3 v1_4 v1_5 s3 s3_0 s3_1 s3_2 w R)))) (S3T v1 v1_0 v1_1 v1_2 v1_3 v1_4 v1_5 s3 s3_0 s3_1 s3_2 w R)
theorem S1T_ok {v1 : Nat} {v1_0 v1_1 v1_2 v1_3 : Int} {v1_4 : ByteArray} {v1_5 : Sl} {s3 : Nat} {s3_0 s3_1 s3_2 : Int} {w : World} {R : Post} (h : S1T v1 v1_0 v1_1 v1_2 v1_3 v1_4 v1_5 s3 s3_0 s3_1 s3_2 w R) (H : LC w [(v1, [.i v1_0, .i v1_1, .i v1_2, .u v1_3, .string v1_4, v1_5.v], ty_enthymemeref06_Value), (s3, [.i s3_0, .i s3_1, .i s3_2], ty_api_Sort)]) : S1 (at0 v1) (at0 s3) w R := ⟨_, H.ld 1 0, sel_imp h (fun h => ⟨_, H.ld 0 3, sel_imp h (fun h => S2T_ok h (LC.nil _)) (fun h => ⟨_, H.ld 0 4, ⟨_, H.ld 1 1, sel_imp h (fun h => S2T_ok h (LC.nil _)) (fun h => ⟨v1_5, H.ld 0 5, sel_imp h (fun h => S2T_ok h (LC.nil _)) (fun h => S3T_ok h H)⟩)⟩⟩)⟩) (fun h => S3T_ok h H)⟩
theorem okT (v0_0 v0_1 v0_2 v0_3 : Int) (v0_4 : ByteArray) (v0_5 : Sl) (w : World) (R : Post) (h : newV [] w fun b1 w1 => 
  callF [b1] Try.prog n_enthymemeref06_ValidSort #[.agg #[.i v0_0, .i v0_1, .i v0_2]] w1 fun r_ w2 => ∃ t8 : Int, r_ = .returned (.i t8) ∧ 
  sel (t8 != 0) (R (.returned (.i 9)) w2) (newV [b1] w2 fun b3 w3 => 
  sel (v0_0 == 0) (loc [b1, b3] w3 fun w6 => callF [b1, b3] Try.prog n_enthymemeref06_fits #[.u v0_3, .i v0_1] w6 fun r_ w7 => ∃ t20 : Bool, r_ = .returned (.bool t20) ∧ 
  sel (!t20) (S0T  w7 R) (sel (decide (((v0_4.size : Nat) : Int) > 0)) (S0T  w7 R) (sel (decide (((v0_5.n : Nat) : Int) > 0)) (S0T  w7 R) (S1T b1 v0_0 v0_1 v0_2 v0_3 v0_4 v0_5 b3 v0_0 v0_1 v0_2 w7 R)))) (loc [b1, b3] w3 fun w6 => S1T b1 v0_0 v0_1 v0_2 v0_3 v0_4 v0_5 b3 v0_0 v0_1 v0_2 w6 R))) : Calls Try.prog n_enthymemeref06_Valid #[.agg #[.i v0_0, .i v0_1, .i v0_2, .u v0_3, .string v0_4, v0_5.v]] w R :=
  ok _ _ _ _ _ _ w R (LC.nwT (LC.nil _) (Fr.refl _ _) h fun w1 H h => ⟨_, _, _, H.ld 0 0, H.ld 0 1, H.ld 0 2, LC.callT H h fun r_ w2 H h => let ⟨t8, hr, h⟩ := h; ⟨t8, hr, sel_imp h (fun h => h) (fun h => ⟨_, _, _, H.ld 0 0, H.ld 0 1, H.ld 0 2, LC.nwT H (Fr.refl _ _) h fun w3 H h => LC.stT0 H 1 (Fr.refl _ _) rfl rfl fun w4 H f => LC.stT H 1 1 f rfl rfl fun w5 H f => LC.stT H 1 2 f rfl rfl fun w6 (H : LC w6 [(w.heap.size, [.i v0_0, .i v0_1, .i v0_2, .u v0_3, .string v0_4, v0_5.v], ty_enthymemeref06_Value), (w2.heap.size, [.i v0_0, .i v0_1, .i v0_2], ty_api_Sort)]) (f : Fr (· ∈ [w.heap.size, w2.heap.size]) _ w6) => ⟨_, H.ld 1 0, sel_imp h (fun h => ⟨_, H.ld 0 3, ⟨_, H.ld 1 1, have h := h _ f; LC.callT H h fun r_ w7 H h => let ⟨t20, hr, h⟩ := h; ⟨t20, hr, sel_imp h (fun h => S0T_ok h (LC.nil _)) (fun h => ⟨_, H.ld 0 4, sel_imp h (fun h => S0T_ok h (LC.nil _)) (fun h => ⟨v0_5, H.ld 0 5, sel_imp h (fun h => S0T_ok h (LC.nil _)) (fun h => S1T_ok h H)⟩)⟩)⟩⟩⟩) (fun h => have h := h _ f; S1T_ok h H)⟩⟩)⟩⟩)
end enthymemeref06_Valid
namespace enthymemeref06_Zero
noncomputable def C0 : Code := (Try.f18.body).getD .skip
/-- enthymeme/enthymemeref06.Zero -/
noncomputable def C1:=C0.sn
noncomputable def C2:=C1.sn
theorem ok (s0_0 s0_1 s0_2 : Int) (w : World) (R : Post) (h : nwV w (.cells #[.i s0_0, .i s0_1, .i s0_2] ty_api_Sort) fun w1 => 
  nwV w1 (.cells #[.i 0, .i 0, .i 0, .u 0, .s0, .slice none 0 0] ty_enthymemeref06_Value) fun w2 => 
  ∃ t3_0 : Int, ∃ t3_1 : Int, ∃ t3_2 : Int, w2.cell? ((nb w).add 0) = some (.i t3_0) ∧ w2.cell? ((nb w).add 1) = some (.i t3_1) ∧ w2.cell? ((nb w).add 2) = some (.i t3_2) ∧ 
  stV w2 (nb w1) (.i t3_0) fun w3 => 
  stV w3 ((nb w1).add 1) (.i t3_1) fun w4 => 
  stV w4 ((nb w1).add 2) (.i t3_2) fun w5 => 
  stV w5 ((nb w1).add 3) (.u 0) fun w6 => 
  stV w6 ((nb w1).add 4) (.s0) fun w7 => 
  stV w7 ((nb w1).add 5) (.slice none 0 0) fun w8 => 
  ∃ r2_0 : Int, ∃ r2_1 : Int, ∃ r2_2 : Int, ∃ r2_3 : Int, ∃ r2_4 : ByteArray, ∃ r2_5 : Sl, w8.cell? ((nb w1).add 0) = some (.i r2_0) ∧ w8.cell? ((nb w1).add 1) = some (.i r2_1) ∧ w8.cell? ((nb w1).add 2) = some (.i r2_2) ∧ w8.cell? ((nb w1).add 3) = some (.u r2_3) ∧ w8.cell? ((nb w1).add 4) = some (.string r2_4) ∧ w8.cell? ((nb w1).add 5) = some (r2_5.v) ∧ 
  R (.returned (.agg #[.i r2_0, .i r2_1, .i r2_2, .u r2_3, .string r2_4, r2_5.v])) w8) : Calls Try.prog n_enthymemeref06_Zero #[.agg #[.i s0_0, .i s0_1, .i s0_2]] w R :=
  calls_of_WP' (R := R) (fn := Try.f18) (c := C0) (args := [.agg #[.i s0_0, .i s0_1, .i s0_2]]) (by kernel_rfl) (by kernel_rfl) (by kernel_rfl) (sr C0 (show (fun (E : Env) (w : World) => srK Try.prog C0 (fun E w => srK Try.prog C1 (fun E w => retVC Try.prog Try.f18 E w (fun v => R (.returned v) w)) E w) E w) (envOf 0 [.agg #[.i s0_0, .i s0_1, .i s0_2]]) w from Eq.mp (by kernel_rfl) h) fun _ _ hK => (sr C1 hK fun _ _ hK => (rt C2 fun a hA => retVC_sound hA hK)))
theorem okT (s0_0 s0_1 s0_2 : Int) (w : World) (R : Post) (h : newV [] w fun b1 w1 => 
  newV [b1] w1 fun b2 w2 => 
  loc [b1, b2] w2 fun w8 => R (.returned (.agg #[.i s0_0, .i s0_1, .i s0_2, .u 0, .s0, .slice none 0 0])) w8) : Calls Try.prog n_enthymemeref06_Zero #[.agg #[.i s0_0, .i s0_1, .i s0_2]] w R :=
  ok _ _ _ w R (LC.nwT (LC.nil _) (Fr.refl _ _) h fun w1 H h => LC.nwT H (Fr.refl _ _) h fun w2 H h => ⟨_, _, _, H.ld 0 0, H.ld 0 1, H.ld 0 2, LC.stT0 H 1 (Fr.refl _ _) rfl rfl fun w3 H f => LC.stT H 1 1 f rfl rfl fun w4 H f => LC.stT H 1 2 f rfl rfl fun w5 H f => LC.stT H 1 3 f rfl rfl fun w6 H f => LC.stT H 1 4 f rfl rfl fun w7 H f => LC.stT H 1 5 f rfl rfl fun w8 (H : LC w8 [(w.heap.size, [.i s0_0, .i s0_1, .i s0_2], ty_api_Sort), (w1.heap.size, [.i s0_0, .i s0_1, .i s0_2, .u 0, .s0, .slice none 0 0], ty_enthymemeref06_Value)]) (f : Fr (· ∈ [w.heap.size, w1.heap.size]) _ w8) => ⟨_, _, _, _, _, ⟨none, 0, 0⟩, H.ld 1 0, H.ld 1 1, H.ld 1 2, H.ld 1 3, H.ld 1 4, H.ld 1 5, have h := h _ f; h⟩⟩)
end enthymemeref06_Zero
namespace enthymemeref06_number
noncomputable def C0 : Code := (Try.f62.body).getD .skip
/-- enthymeme/enthymemeref06.number -/
noncomputable def C1:=C0.sn
noncomputable def C2:=C1.fs
noncomputable def C3:=C2.sn
noncomputable def C4:=C3.fs
noncomputable def C5:=C1.sn
noncomputable def C6:=C5.fs
noncomputable def C7:=C6.sn
noncomputable def C8:=C7.fs
noncomputable def C9:=C5.sn
noncomputable def C10:=C4.sn
noncomputable def C11:=C3.sn
noncomputable def C12:=C8.sn
noncomputable def C13:=C7.sn
noncomputable def C14:=C9.sn
theorem ok (a0 b1 : Int) (w : World) (R : Post) (h : sel (decide (a0 < b1)) (R (.returned (.i (-1))) w) (sel (decide (a0 > b1)) (R (.returned (.i 1)) w) (R (.returned (.i 0)) w))) : Calls Try.prog n_enthymemeref06_number #[.u a0, .u b1] w R :=
  calls_of_WP' (R := R) (fn := Try.f62) (c := C0) (args := [.u a0, .u b1]) (by kernel_rfl) (by kernel_rfl) (by kernel_rfl) (sr C0 (show (fun (E : Env) (w : World) => srK Try.prog C0 (fun E w => srK Try.prog C2 (fun E w => condK (Env.val E (.tmp 7)) (srK Try.prog C4 (fun E w => retVC Try.prog Try.f62 E w (fun v => R (.returned v) w)) E w) (srK Try.prog C6 (fun E w => condK (Env.val E (.tmp 10)) (srK Try.prog C8 (fun E w => retVC Try.prog Try.f62 E w (fun v => R (.returned v) w)) E w) (srK Try.prog C9 (fun E w => retVC Try.prog Try.f62 E w (fun v => R (.returned v) w)) E w)) E w)) E w) E w) (envOf 0 [.u a0, .u b1]) w from Eq.mp (by kernel_rfl) h) fun _ _ hK => (sq C1 (sr C2 hK fun _ _ hK => (cn C3 hK (fun hK => (sr C4 hK fun _ _ hK => (rt C10 fun a hA => retVC_sound hA hK))) (fun hK => (sk C11 fun a hA => nx hA (sq C5 (sr C6 hK fun _ _ hK => (cn C7 hK (fun hK => (sr C8 hK fun _ _ hK => (rt C12 fun a hA => retVC_sound hA hK))) (fun hK => (sk C13 fun a hA => nx hA (sr C9 hK fun _ _ hK => (rt C14 fun a hA => retVC_sound hA hK)))))))))))))
end enthymemeref06_number
namespace enthymemeref06_ints
noncomputable def C0 : Code := (Try.f61.body).getD .skip
/-- enthymeme/enthymemeref06.ints -/
noncomputable def C1:=C0.sn
noncomputable def C2:=C1.fs
noncomputable def C3:=C2.sn
noncomputable def C4:=C3.fs
noncomputable def C5:=C1.sn
noncomputable def C6:=C5.fs
noncomputable def C7:=C6.sn
noncomputable def C8:=C7.fs
noncomputable def C9:=C5.sn
noncomputable def C10:=C4.sn
noncomputable def C11:=C3.sn
noncomputable def C12:=C8.sn
noncomputable def C13:=C7.sn
noncomputable def C14:=C9.sn
theorem ok (a0 b1 : Int) (w : World) (R : Post) (h : sel (decide (a0 < b1)) (R (.returned (.i (-1))) w) (sel (decide (a0 > b1)) (R (.returned (.i 1)) w) (R (.returned (.i 0)) w))) : Calls Try.prog n_enthymemeref06_ints #[.i a0, .i b1] w R :=
  calls_of_WP' (R := R) (fn := Try.f61) (c := C0) (args := [.i a0, .i b1]) (by kernel_rfl) (by kernel_rfl) (by kernel_rfl) (sr C0 (show (fun (E : Env) (w : World) => srK Try.prog C0 (fun E w => srK Try.prog C2 (fun E w => condK (Env.val E (.tmp 7)) (srK Try.prog C4 (fun E w => retVC Try.prog Try.f61 E w (fun v => R (.returned v) w)) E w) (srK Try.prog C6 (fun E w => condK (Env.val E (.tmp 10)) (srK Try.prog C8 (fun E w => retVC Try.prog Try.f61 E w (fun v => R (.returned v) w)) E w) (srK Try.prog C9 (fun E w => retVC Try.prog Try.f61 E w (fun v => R (.returned v) w)) E w)) E w)) E w) E w) (envOf 0 [.i a0, .i b1]) w from Eq.mp (by kernel_rfl) h) fun _ _ hK => (sq C1 (sr C2 hK fun _ _ hK => (cn C3 hK (fun hK => (sr C4 hK fun _ _ hK => (rt C10 fun a hA => retVC_sound hA hK))) (fun hK => (sk C11 fun a hA => nx hA (sq C5 (sr C6 hK fun _ _ hK => (cn C7 hK (fun hK => (sr C8 hK fun _ _ hK => (rt C12 fun a hA => retVC_sound hA hK))) (fun hK => (sk C13 fun a hA => nx hA (sr C9 hK fun _ _ hK => (rt C14 fun a hA => retVC_sound hA hK)))))))))))))
end enthymemeref06_ints
namespace enthymemeref06_texts
noncomputable def C0 : Code := (Try.f63.body).getD .skip
noncomputable def C1:=C0.sn
noncomputable def C2:=C1.fs
noncomputable def C3:=C2.sn
noncomputable def C4:=C3.fs
noncomputable def C5:=C4.fs
noncomputable def C6:=C1.sn
abbrev Q0 (R : Post) : Exit → Act → World → Prop := (Exit.then (wpx Try.prog (cx 36) C6 (bodyPost Try.prog Try.f63 R)) (bodyPost Try.prog Try.f63 R))
abbrev Q1 (R : Post) : Exit → Act → World → Prop := (Exit.inBlock 0 (Q0 R))
/-- the head of the loop, ref.go:110 -/
def L0 (a0 b1 : ByteArray) (i5 : Int) (w : World) (R : Post) : Prop := LP Try.prog (cx 36) C5 (Q1 R) [(0, .string a0), (1, .string b1), (5, .i i5)] w
def KE_L0 (E : Env) (w : World) (R : Post) : Prop := asStr (Env.get? E 0) fun a0 => asStr (Env.get? E 1) fun b1 => W.asInt .i64 (Env.get? E 5) fun i5 => L0 a0 b1 i5 w R
theorem KE_L0_ok (R : Post) (E : Env) (w : World) (h : KE_L0 E w R) : LP Try.prog (cx 36) C5 (Q1 R) E w := by
  obtain ⟨a0, hq0, h_1⟩ := asStr_elim h
  obtain ⟨b1, hq1, h_2⟩ := asStr_elim h_1
  obtain ⟨i5, hq5, h_3⟩ := asInt_elim h_2
  intro a ha
  exact h_3 a (ha.cons hq0 (ha.cons hq1 (ha.cons hq5 ha.nil)))
abbrev Q2 (R : Post) : Exit → Act → World → Prop := (bodyPost Try.prog Try.f63 R)
noncomputable def C7:=C6.sn
/-- ref.go:116 -/
abbrev S1 (a0 b1 : ByteArray) (w : World) (R : Post) : Prop :=
  Calls Try.prog n_enthymemeref06_ints #[.i ((a0.size : Nat) : Int), .i ((b1.size : Nat) : Int)] w fun r_ w1 => ∃ t35 : Int, r_ = .returned (.i t35) ∧ 
  R (.returned (.i t35)) w1
def KE_S1 (E : Env) (w : World) (R : Post) : Prop := asStr (Env.get? E 0) fun a0 => asStr (Env.get? E 1) fun b1 => S1 a0 b1 w R
theorem KE_S1_ok (R : Post) (E : Env) (w : World) (h : KE_S1 E w R) : WP Try.prog (cx 36) C6 (Q2 R) E w := by
  obtain ⟨a0, hq0, h_1⟩ := asStr_elim h
  obtain ⟨b1, hq1, h_2⟩ := asStr_elim h_1
  exact fun a ha => WP.at (E := [(0, .string a0), (1, .string b1)]) (sr C6 (K := fun E w => retVC Try.prog Try.f63 E w (fun v => R (.returned v) w)) (Eq.mp (by kernel_rfl) h_2) fun _ _ hK => (rt C7 fun a hA => retVC_sound hA hK)) (ha.cons hq0 (ha.cons hq1 ha.nil))
noncomputable def C8:=C5.fs
noncomputable def C9:=C5.sn
noncomputable def C10:=C9.fs
noncomputable def C11:=C10.fs
noncomputable def C12:=C11.sn
noncomputable def C13:=C12.sn
noncomputable def C14:=C13.fs
noncomputable def C15:=C9.sn
noncomputable def C16:=C8.sn
noncomputable def C17:=C16.fs
noncomputable def C18:=C14.sn
noncomputable def C19:=C13.sn
noncomputable def C20:=C16.sn
theorem L0_step (a0 b1 : ByteArray) (i5 : Int) (w : World) (R : Post) (h : sel (decide (i5 < ((a0.size : Nat) : Int))) (sel (decide (i5 < ((b1.size : Nat) : Int))) (drV w fun w1 => (0 : Int) ≤ i5 ∧ ∃ t21_b : UInt8, a0[Int.toNat i5]? = some t21_b ∧ (0 : Int) ≤ i5 ∧ ∃ t25_b : UInt8, b1[Int.toNat i5]? = some t25_b ∧ Calls Try.prog n_enthymemeref06_ints #[.i (IntKind.wrap .i64 ((t21_b.toNat : Nat) : Int)), .i (IntKind.wrap .i64 ((t25_b.toNat : Nat) : Int))] w1 fun r_ w2 => ∃ t27 : Int, r_ = .returned (.i t27) ∧ 
  sel (t27 != 0) (R (.returned (.i t27)) w2) (L0 a0 b1 (IntKind.wrap .i64 (i5 + 1)) w2 R)) (S1 a0 b1 w R)) (S1 a0 b1 w R)) : L0 a0 b1 i5 w R :=
  LP.step (n := (cx 36)) (c := C5) (E := [(0, .string a0), (1, .string b1), (5, .i i5)]) (w := w) (sq C5 (sr C8 (show (fun (E : Env) (w : World) => srK Try.prog C8 (fun E w => condK (Env.val E (.tmp 16)) (sdK Try.prog C11 [0, 1, 2, 3, 4, 5, 6, 7, 8, 9] (fun E w => srK Try.prog C12 (fun E w => condK (Env.val E (.tmp 29)) (srK Try.prog C14 (fun E w => retVC Try.prog Try.f63 E w (fun v => R (.returned v) w)) E w) (rgK Try.prog C15 (fun E w => KE_L0 E w R) E w)) E w) E w) (KE_S1 E w R)) E w) [(0, .string a0), (1, .string b1), (5, .i i5)] w from Eq.mp (by kernel_rfl) h) fun _ _ hK => (cn C16 hK (fun hK => (sk C17 fun a hA => nx hA (sq C9 (bk C10 1 (by kernel_rfl) (sd C11 (by kernel_rfl) hK fun _ _ hK => (sr C12 hK fun _ _ hK => (cn C13 hK (fun hK => (sr C14 hK fun _ _ hK => (rt C18 fun a hA => retVC_sound hA hK))) (fun hK => (sk C19 fun a hA => nx hA (rg C15 (by kernel_rfl) hK fun _ _ a hA hK => KE_L0_ok R _ _ hK a hA)))))))))) (fun hK => (xt C20 0 (by kernel_rfl) fun a hA => nx hA (KE_S1_ok R _ _ hK))))))
/-- enthymeme/enthymemeref06.texts -/
theorem ok (a0 b1 : ByteArray) (w : World) (R : Post) (h : L0 a0 b1 0 w R) : Calls Try.prog n_enthymemeref06_texts #[.string a0, .string b1] w R :=
  calls_of_WP' (R := R) (fn := Try.f63) (c := C0) (args := [.string a0, .string b1]) (by kernel_rfl) (by kernel_rfl) (by kernel_rfl) (sr C0 (show (fun (E : Env) (w : World) => srK Try.prog C0 (fun E w => srK Try.prog C2 (fun E w => KE_L0 E w R) E w) E w) (envOf 0 [.string a0, .string b1]) w from Eq.mp (by kernel_rfl) h) fun _ _ hK => (sq C1 (sr C2 hK fun _ _ hK => (bk C3 0 (by kernel_rfl) (lp C4 (by kernel_rfl) (KE_L0_ok R _ _ hK))))))
end enthymemeref06_texts
namespace enthymemeref06_first
noncomputable def C0 : Code := (Try.f60.body).getD .skip
noncomputable def C1:=C0.sn
noncomputable def C2:=C1.fs
noncomputable def C3:=C2.sn
noncomputable def C4:=C3.fs
noncomputable def C5:=C4.fs
noncomputable def C6:=C1.sn
abbrev Q0 (R : Post) : Exit → Act → World → Prop := (Exit.then (wpx Try.prog (cx 19) C6 (bodyPost Try.prog Try.f60 R)) (bodyPost Try.prog Try.f60 R))
abbrev Q1 (R : Post) : Exit → Act → World → Prop := (Exit.inBlock 0 (Q0 R))
/-- the head of the loop, ref.go:121 -/
def L0 (l0 : Sl) (i3 : Int) (w : World) (R : Post) : Prop := LP Try.prog (cx 19) C5 (Q1 R) [(0, l0.v), (3, .i i3)] w
def KE_L0 (E : Env) (w : World) (R : Post) : Prop := asSlice (Env.get? E 0) fun l0 => W.asInt .i64 (Env.get? E 3) fun i3 => L0 l0 i3 w R
theorem KE_L0_ok (R : Post) (E : Env) (w : World) (h : KE_L0 E w R) : LP Try.prog (cx 19) C5 (Q1 R) E w := by
  obtain ⟨l0, hq0, h_1⟩ := asSlice_elim h
  obtain ⟨i3, hq3, h_2⟩ := asInt_elim h_1
  intro a ha
  exact h_2 a (ha.cons hq0 (ha.cons hq3 ha.nil))
noncomputable def C7:=C5.fs
noncomputable def C8:=C5.sn
noncomputable def C9:=C8.fs
noncomputable def C10:=C9.fs
noncomputable def C11:=C10.sn
noncomputable def C12:=C11.fs
noncomputable def C13:=C8.sn
noncomputable def C14:=C7.sn
noncomputable def C15:=C14.fs
noncomputable def C16:=C12.sn
noncomputable def C17:=C11.sn
noncomputable def C18:=C14.sn
noncomputable def C19:=C6.sn
theorem L0_step (l0 : Sl) (i3 : Int) (w : World) (R : Post) (h : sel (decide (i3 < ((l0.n : Nat) : Int))) ((0 : Int) ≤ i3 ∧ i3 < ((l0.n : Nat) : Int) ∧ optP l0.a fun t12_p => ∃ t13 : Int, w.cell? (t12_p.add (Int.toNat i3 * 1)) = some (.i t13) ∧ 
  sel (t13 != 0) ((0 : Int) ≤ i3 ∧ i3 < ((l0.n : Nat) : Int) ∧ optP l0.a fun t17_p => ∃ t18 : Int, w.cell? (t17_p.add (Int.toNat i3 * 1)) = some (.i t18) ∧ 
  R (.returned (.i t18)) w) (L0 l0 (IntKind.wrap .i64 (i3 + 1)) w R)) (R (.returned (.i 0)) w)) : L0 l0 i3 w R :=
  LP.step (n := (cx 19)) (c := C5) (E := [(0, l0.v), (3, .i i3)]) (w := w) (sq C5 (sr C7 (show (fun (E : Env) (w : World) => srK Try.prog C7 (fun E w => condK (Env.val E (.tmp 7)) (srK Try.prog C10 (fun E w => condK (Env.val E (.tmp 14)) (srK Try.prog C12 (fun E w => retVC Try.prog Try.f60 E w (fun v => R (.returned v) w)) E w) (rgK Try.prog C13 (fun E w => KE_L0 E w R) E w)) E w) (srK Try.prog C6 (fun E w => retVC Try.prog Try.f60 E w (fun v => R (.returned v) w)) E w)) E w) [(0, l0.v), (3, .i i3)] w from Eq.mp (by kernel_rfl) h) fun _ _ hK => (cn C14 hK (fun hK => (sk C15 fun a hA => nx hA (sq C8 (bk C9 1 (by kernel_rfl) (sr C10 hK fun _ _ hK => (cn C11 hK (fun hK => (sr C12 hK fun _ _ hK => (rt C16 fun a hA => retVC_sound hA hK))) (fun hK => (sk C17 fun a hA => nx hA (rg C13 (by kernel_rfl) hK fun _ _ a hA hK => KE_L0_ok R _ _ hK a hA))))))))) (fun hK => (xt C18 0 (by kernel_rfl) fun a hA => nx hA (sr C6 hK fun _ _ hK => (rt C19 fun a hA => retVC_sound hA hK)))))))
/-- enthymeme/enthymemeref06.first -/
theorem ok (l0 : Sl) (w : World) (R : Post) (h : L0 l0 0 w R) : Calls Try.prog n_enthymemeref06_first #[l0.v] w R :=
  calls_of_WP' (R := R) (fn := Try.f60) (c := C0) (args := [l0.v]) (by kernel_rfl) (by kernel_rfl) (by kernel_rfl) (sr C0 (show (fun (E : Env) (w : World) => srK Try.prog C0 (fun E w => srK Try.prog C2 (fun E w => KE_L0 E w R) E w) E w) (envOf 0 [l0.v]) w from Eq.mp (by kernel_rfl) h) fun _ _ hK => (sq C1 (sr C2 hK fun _ _ hK => (bk C3 0 (by kernel_rfl) (lp C4 (by kernel_rfl) (KE_L0_ok R _ _ hK))))))
end enthymemeref06_first
namespace enthymemeref06_Compare
noncomputable def C0 : Code := (Try.f31.body).getD .skip
noncomputable def C1:=C0.sn
noncomputable def C2:=C1.sn
noncomputable def C3:=C2.fs
noncomputable def C4:=C3.sn
noncomputable def C5:=C4.fs
noncomputable def C6:=C5.fs
noncomputable def C7:=C2.sn
abbrev Q0 (R : Post) : Exit → Act → World → Prop := (Exit.then (wpx Try.prog (cx 97) C7 (bodyPost Try.prog Try.f31 R)) (bodyPost Try.prog Try.f31 R))
abbrev Q1 (R : Post) : Exit → Act → World → Prop := (Exit.inBlock 0 (Q0 R))
/-- the head of the loop, ref.go:132 -/
def L0 (a2 b3 : Addr) (c5 i6 : Int) (w : World) (R : Post) : Prop := LP Try.prog (cx 97) C6 (Q1 R) [(2, .pointer (some a2)), (3, .pointer (some b3)), (5, .i c5), (6, .i i6)] w
def KE_L0 (E : Env) (w : World) (R : Post) : Prop := asRef (Env.get? E 2) fun a2 => asRef (Env.get? E 3) fun b3 => W.asInt .i64 (Env.get? E 5) fun c5 => W.asInt .i64 (Env.get? E 6) fun i6 => L0 a2 b3 c5 i6 w R
theorem KE_L0_ok (R : Post) (E : Env) (w : World) (h : KE_L0 E w R) : LP Try.prog (cx 97) C6 (Q1 R) E w := by
  obtain ⟨a2, hq2, h_1⟩ := asRef_elim h
  obtain ⟨b3, hq3, h_2⟩ := asRef_elim h_1
  obtain ⟨c5, hq5, h_3⟩ := asInt_elim h_2
  obtain ⟨i6, hq6, h_4⟩ := asInt_elim h_3
  intro a ha
  exact h_4 a (ha.cons hq2 (ha.cons hq3 (ha.cons hq5 (ha.cons hq6 ha.nil))))
noncomputable def C8:=C7.fs
noncomputable def C9:=C7.sn
abbrev Q2 (R : Post) : Exit → Act → World → Prop := (Exit.then (wpx Try.prog (cx 97) C9 (bodyPost Try.prog Try.f31 R)) (bodyPost Try.prog Try.f31 R))
noncomputable def C10:=C8.sn
noncomputable def C11:=C10.fs
noncomputable def C12:=C11.sn
noncomputable def C13:=C10.sn
noncomputable def C14:=C9.sn
/-- ref.go:137 -/
abbrev S1 (a2 b3 : Addr) (c5 : Int) (w : World) (R : Post) : Prop :=
  sel (c5 != 0) (R (.returned (.i c5)) w) (∃ t91 : Sl, w.cell? (a2.add 5) = some (t91.v) ∧ 
  ∃ t94 : Sl, w.cell? (b3.add 5) = some (t94.v) ∧ 
  Calls Try.prog n_enthymemeref06_ints #[.i ((t91.n : Nat) : Int), .i ((t94.n : Nat) : Int)] w fun r_ w1 => ∃ t96 : Int, r_ = .returned (.i t96) ∧ 
  R (.returned (.i t96)) w1)
def KE_S1 (E : Env) (w : World) (R : Post) : Prop := asRef (Env.get? E 2) fun a2 => asRef (Env.get? E 3) fun b3 => W.asInt .i64 (Env.get? E 5) fun c5 => S1 a2 b3 c5 w R
theorem KE_S1_ok (R : Post) (E : Env) (w : World) (h : KE_S1 E w R) : WP Try.prog (cx 97) C8 (Q2 R) E w := by
  obtain ⟨a2, hq2, h_1⟩ := asRef_elim h
  obtain ⟨b3, hq3, h_2⟩ := asRef_elim h_1
  obtain ⟨c5, hq5, h_3⟩ := asInt_elim h_2
  exact fun a ha => WP.at (E := [(2, .pointer (some a2)), (3, .pointer (some b3)), (5, .i c5)]) (sr C8 (K := fun E w => condK (Env.val E (.tmp 88)) (srK Try.prog C11 (fun E w => retVC Try.prog Try.f31 E w (fun v => R (.returned v) w)) E w) (srK Try.prog C9 (fun E w => retVC Try.prog Try.f31 E w (fun v => R (.returned v) w)) E w)) (Eq.mp (by kernel_rfl) h_3) fun _ _ hK => (cn C10 hK (fun hK => (sr C11 hK fun _ _ hK => (rt C12 fun a hA => retVC_sound hA hK))) (fun hK => (sk C13 fun a hA => nx hA (sr C9 hK fun _ _ hK => (rt C14 fun a hA => retVC_sound hA hK)))))) (ha.cons hq2 (ha.cons hq3 (ha.cons hq5 ha.nil)))
noncomputable def C15:=C6.fs
noncomputable def C16:=C6.sn
noncomputable def C17:=C16.fs
noncomputable def C18:=C17.fs
noncomputable def C19:=C18.sn
noncomputable def C20:=C19.sn
noncomputable def C21:=C16.sn
noncomputable def C22:=C15.sn
noncomputable def C23:=C22.fs
noncomputable def C24:=C22.sn
theorem L0_step (a2 b3 : Addr) (c5 i6 : Int) (w : World) (R : Post) (h : ∃ t44 : Sl, w.cell? (a2.add 5) = some (t44.v) ∧ 
  sel (decide (i6 < ((t44.n : Nat) : Int))) (∃ t50 : Sl, w.cell? (b3.add 5) = some (t50.v) ∧ 
  sel (decide (i6 < ((t50.n : Nat) : Int))) (sel (c5 == 0) (∃ t61 : Sl, w.cell? (a2.add 5) = some (t61.v) ∧ 
  (0 : Int) ≤ i6 ∧ i6 < ((t61.n : Nat) : Int) ∧ optP t61.a fun t63_p => ∃ t64_0 : Int, ∃ t64_1 : Int, ∃ t64_2 : ByteArray, w.cell? ((t63_p.add (Int.toNat i6 * 3)).add 0) = some (.u t64_0) ∧ w.cell? ((t63_p.add (Int.toNat i6 * 3)).add 1) = some (.u t64_1) ∧ w.cell? ((t63_p.add (Int.toNat i6 * 3)).add 2) = some (.string t64_2) ∧ 
  nwV w (.cells #[.u 0, .u 0, .s0] ty_enthymemeref06_Entry) fun w11 => 
  stV w11 (nb w) (.u t64_0) fun w12 => 
  stV w12 ((nb w).add 1) (.u t64_1) fun w13 => 
  stV w13 ((nb w).add 2) (.string t64_2) fun w14 => 
  ∃ t66 : Sl, w14.cell? (b3.add 5) = some (t66.v) ∧ 
  (0 : Int) ≤ i6 ∧ i6 < ((t66.n : Nat) : Int) ∧ optP t66.a fun t68_p => ∃ t69_0 : Int, ∃ t69_1 : Int, ∃ t69_2 : ByteArray, w14.cell? ((t68_p.add (Int.toNat i6 * 3)).add 0) = some (.u t69_0) ∧ w14.cell? ((t68_p.add (Int.toNat i6 * 3)).add 1) = some (.u t69_1) ∧ w14.cell? ((t68_p.add (Int.toNat i6 * 3)).add 2) = some (.string t69_2) ∧ 
  nwV w14 (.cells #[.u 0, .u 0, .s0] ty_enthymemeref06_Entry) fun w15 => 
  stV w15 (nb w14) (.u t69_0) fun w16 => 
  stV w16 ((nb w14).add 1) (.u t69_1) fun w17 => 
  stV w17 ((nb w14).add 2) (.string t69_2) fun w18 => 
  drV w18 fun w19 => ∃ t71 : Int, w19.cell? ((nb w).add 0) = some (.u t71) ∧ 
  ∃ t73 : Int, w19.cell? ((nb w14).add 0) = some (.u t73) ∧ 
  ∃ t76 : Int, w19.cell? ((nb w).add 1) = some (.u t76) ∧ 
  ∃ t78 : Int, w19.cell? ((nb w14).add 1) = some (.u t78) ∧ 
  ∃ t81 : ByteArray, w19.cell? ((nb w).add 2) = some (.string t81) ∧ 
  ∃ t83 : ByteArray, w19.cell? ((nb w14).add 2) = some (.string t83) ∧ 
  Calls Try.prog n_enthymemeref06_number #[.u t71, .u t73] w19 fun r_ w20 => ∃ t74 : Int, r_ = .returned (.i t74) ∧ 
  w20.cell? ((nb w14).add 2) = some (.string t83) ∧ w20.cell? ((nb w).add 2) = some (.string t81) ∧ w20.cell? ((nb w14).add 1) = some (.u t78) ∧ w20.cell? ((nb w).add 1) = some (.u t76) ∧ Calls Try.prog n_enthymemeref06_number #[.u t76, .u t78] w20 fun r_ w21 => ∃ t79 : Int, r_ = .returned (.i t79) ∧ 
  w21.cell? ((nb w14).add 2) = some (.string t83) ∧ w21.cell? ((nb w).add 2) = some (.string t81) ∧ Calls Try.prog n_enthymemeref06_texts #[.string t81, .string t83] w21 fun r_ w22 => ∃ t84 : Int, r_ = .returned (.i t84) ∧ 
  nwV w22 (.cells #[.i t74, .i t79, .i t84] ty_int) fun w23 => 
  Calls Try.prog n_enthymemeref06_first #[.slice (some (nb w22)) 3 3] w23 fun r_ w24 => ∃ t86 : Int, r_ = .returned (.i t86) ∧ 
  L0 a2 b3 t86 (IntKind.wrap .i64 (i6 + 1)) w24 R) (S1 a2 b3 c5 w R)) (S1 a2 b3 c5 w R)) (S1 a2 b3 c5 w R)) : L0 a2 b3 c5 i6 w R :=
  LP.step (n := (cx 97)) (c := C6) (E := [(2, .pointer (some a2)), (3, .pointer (some b3)), (5, .i c5), (6, .i i6)]) (w := w) (sq C6 (sr C15 (show (fun (E : Env) (w : World) => srK Try.prog C15 (fun E w => condK (Env.val E (.tmp 57)) (srK Try.prog C18 (fun E w => srK Try.prog C19 (fun E w => dgK Try.prog C20 [0, 1, 2, 3, 5, 6, 7, 8, 10, 11, 12, 13, 4, 9, 14, 15, 16, 17] (fun E w => rgK Try.prog C21 (fun E w => KE_L0 E w R) E w) E w) E w) E w) (KE_S1 E w R)) E w) [(2, .pointer (some a2)), (3, .pointer (some b3)), (5, .i c5), (6, .i i6)] w from Eq.mp (by kernel_rfl) h) fun _ _ hK => (cn C22 hK (fun hK => (sk C23 fun a hA => nx hA (sq C16 (bk C17 1 (by kernel_rfl) (sr C18 hK fun _ _ hK => (sr C19 hK fun _ _ hK => (dg C20 (by kernel_rfl) hK fun _ _ a hA hK => nx hA (rg C21 (by kernel_rfl) hK fun _ _ a hA hK => KE_L0_ok R _ _ hK a hA)))))))) (fun hK => (xt C24 0 (by kernel_rfl) fun a hA => nx hA (sq C7 (KE_S1_ok R _ _ hK)))))))
/-- enthymeme/enthymemeref06.Compare -/
theorem ok (a0_0 a0_1 a0_2 a0_3 : Int) (a0_4 : ByteArray) (a0_5 : Sl) (b1_0 b1_1 b1_2 b1_3 : Int) (b1_4 : ByteArray) (b1_5 : Sl) (w : World) (R : Post) (h : nwV w (.cells #[.i a0_0, .i a0_1, .i a0_2, .u a0_3, .string a0_4, a0_5.v] ty_enthymemeref06_Value) fun w1 => 
  nwV w1 (.cells #[.i b1_0, .i b1_1, .i b1_2, .u b1_3, .string b1_4, b1_5.v] ty_enthymemeref06_Value) fun w2 => 
  drV w2 fun w3 => ∃ t11 : Int, w3.cell? (((nb w).add 0).add 0) = some (.i t11) ∧ 
  ∃ t14 : Int, w3.cell? (((nb w1).add 0).add 0) = some (.i t14) ∧ 
  ∃ t18 : Int, w3.cell? (((nb w).add 0).add 1) = some (.i t18) ∧ 
  ∃ t21 : Int, w3.cell? (((nb w1).add 0).add 1) = some (.i t21) ∧ 
  ∃ t25 : Int, w3.cell? (((nb w).add 0).add 2) = some (.i t25) ∧ 
  ∃ t28 : Int, w3.cell? (((nb w1).add 0).add 2) = some (.i t28) ∧ 
  ∃ t31 : Int, w3.cell? ((nb w).add 3) = some (.u t31) ∧ 
  ∃ t33 : Int, w3.cell? ((nb w1).add 3) = some (.u t33) ∧ 
  ∃ t36 : ByteArray, w3.cell? ((nb w).add 4) = some (.string t36) ∧ 
  ∃ t38 : ByteArray, w3.cell? ((nb w1).add 4) = some (.string t38) ∧ 
  Calls Try.prog n_enthymemeref06_ints #[.i t11, .i t14] w3 fun r_ w4 => ∃ t15 : Int, r_ = .returned (.i t15) ∧ 
  w4.cell? ((nb w1).add 4) = some (.string t38) ∧ w4.cell? ((nb w).add 4) = some (.string t36) ∧ w4.cell? ((nb w1).add 3) = some (.u t33) ∧ w4.cell? ((nb w).add 3) = some (.u t31) ∧ w4.cell? (((nb w1).add 0).add 2) = some (.i t28) ∧ w4.cell? (((nb w).add 0).add 2) = some (.i t25) ∧ w4.cell? (((nb w1).add 0).add 1) = some (.i t21) ∧ w4.cell? (((nb w).add 0).add 1) = some (.i t18) ∧ Calls Try.prog n_enthymemeref06_ints #[.i t18, .i t21] w4 fun r_ w5 => ∃ t22 : Int, r_ = .returned (.i t22) ∧ 
  w5.cell? ((nb w1).add 4) = some (.string t38) ∧ w5.cell? ((nb w).add 4) = some (.string t36) ∧ w5.cell? ((nb w1).add 3) = some (.u t33) ∧ w5.cell? ((nb w).add 3) = some (.u t31) ∧ w5.cell? (((nb w1).add 0).add 2) = some (.i t28) ∧ w5.cell? (((nb w).add 0).add 2) = some (.i t25) ∧ Calls Try.prog n_enthymemeref06_ints #[.i t25, .i t28] w5 fun r_ w6 => ∃ t29 : Int, r_ = .returned (.i t29) ∧ 
  w6.cell? ((nb w1).add 4) = some (.string t38) ∧ w6.cell? ((nb w).add 4) = some (.string t36) ∧ w6.cell? ((nb w1).add 3) = some (.u t33) ∧ w6.cell? ((nb w).add 3) = some (.u t31) ∧ Calls Try.prog n_enthymemeref06_number #[.u t31, .u t33] w6 fun r_ w7 => ∃ t34 : Int, r_ = .returned (.i t34) ∧ 
  w7.cell? ((nb w1).add 4) = some (.string t38) ∧ w7.cell? ((nb w).add 4) = some (.string t36) ∧ Calls Try.prog n_enthymemeref06_texts #[.string t36, .string t38] w7 fun r_ w8 => ∃ t39 : Int, r_ = .returned (.i t39) ∧ 
  nwV w8 (.cells #[.i t15, .i t22, .i t29, .i t34, .i t39] ty_int) fun w9 => 
  Calls Try.prog n_enthymemeref06_first #[.slice (some (nb w8)) 5 5] w9 fun r_ w10 => ∃ t41 : Int, r_ = .returned (.i t41) ∧ 
  L0 (nb w) (nb w1) t41 0 w10 R) : Calls Try.prog n_enthymemeref06_Compare #[.agg #[.i a0_0, .i a0_1, .i a0_2, .u a0_3, .string a0_4, a0_5.v], .agg #[.i b1_0, .i b1_1, .i b1_2, .u b1_3, .string b1_4, b1_5.v]] w R :=
  calls_of_WP' (R := R) (fn := Try.f31) (c := C0) (args := [.agg #[.i a0_0, .i a0_1, .i a0_2, .u a0_3, .string a0_4, a0_5.v], .agg #[.i b1_0, .i b1_1, .i b1_2, .u b1_3, .string b1_4, b1_5.v]]) (by kernel_rfl) (by kernel_rfl) (by kernel_rfl) (sr C0 (show (fun (E : Env) (w : World) => srK Try.prog C0 (fun E w => sdK Try.prog C1 [0, 1, 2, 3, 4, 5, 7, 8, 9, 10, 11, 12, 14, 15, 16, 17, 18, 19, 21, 22, 23, 24, 26, 27, 28, 29, 6, 13, 20, 25, 30, 31, 32, 33] (fun E w => srK Try.prog C3 (fun E w => KE_L0 E w R) E w) E w) E w) (envOf 0 [.agg #[.i a0_0, .i a0_1, .i a0_2, .u a0_3, .string a0_4, a0_5.v], .agg #[.i b1_0, .i b1_1, .i b1_2, .u b1_3, .string b1_4, b1_5.v]]) w from Eq.mp (by kernel_rfl) h) fun _ _ hK => (sd C1 (by kernel_rfl) hK fun _ _ hK => (sq C2 (sr C3 hK fun _ _ hK => (bk C4 0 (by kernel_rfl) (lp C5 (by kernel_rfl) (KE_L0_ok R _ _ hK)))))))
def L0T (a2 : Nat) (a2_0 a2_1 a2_2 a2_3 : Int) (a2_4 : ByteArray) (a2_5 : Sl) (b3 : Nat) (b3_0 b3_1 b3_2 b3_3 : Int) (b3_4 : ByteArray) (b3_5 : Sl) (c5 i6 : Int) (w : World) (R : Post) : Prop := LC w [(a2, [.i a2_0, .i a2_1, .i a2_2, .u a2_3, .string a2_4, a2_5.v], ty_enthymemeref06_Value), (b3, [.i b3_0, .i b3_1, .i b3_2, .u b3_3, .string b3_4, b3_5.v], ty_enthymemeref06_Value)] → L0 (at0 a2) (at0 b3) c5 i6 w R
abbrev S1T (a2 : Nat) (a2_0 a2_1 a2_2 a2_3 : Int) (a2_4 : ByteArray) (a2_5 : Sl) (b3 : Nat) (b3_0 b3_1 b3_2 b3_3 : Int) (b3_4 : ByteArray) (b3_5 : Sl) (c5 : Int) (w : World) (R : Post) : Prop :=
  sel (c5 != 0) (R (.returned (.i c5)) w) (callF [a2, b3] Try.prog n_enthymemeref06_ints #[.i ((a2_5.n : Nat) : Int), .i ((b3_5.n : Nat) : Int)] w fun r_ w1 => ∃ t96 : Int, r_ = .returned (.i t96) ∧ 
  R (.returned (.i t96)) w1)
theorem S1T_ok {a2 : Nat} {a2_0 a2_1 a2_2 a2_3 : Int} {a2_4 : ByteArray} {a2_5 : Sl} {b3 : Nat} {b3_0 b3_1 b3_2 b3_3 : Int} {b3_4 : ByteArray} {b3_5 : Sl} {c5 : Int} {w : World} {R : Post} (h : S1T a2 a2_0 a2_1 a2_2 a2_3 a2_4 a2_5 b3 b3_0 b3_1 b3_2 b3_3 b3_4 b3_5 c5 w R) (H : LC w [(a2, [.i a2_0, .i a2_1, .i a2_2, .u a2_3, .string a2_4, a2_5.v], ty_enthymemeref06_Value), (b3, [.i b3_0, .i b3_1, .i b3_2, .u b3_3, .string b3_4, b3_5.v], ty_enthymemeref06_Value)]) : S1 (at0 a2) (at0 b3) c5 w R := sel_imp h (fun h => h) (fun h => ⟨a2_5, H.ld 0 5, ⟨b3_5, H.ld 1 5, LC.callT H h fun r_ w1 H h => let ⟨t96, hr, h⟩ := h; ⟨t96, hr, h⟩⟩⟩)
theorem L0T_step (a2 : Nat) (a2_0 a2_1 a2_2 a2_3 : Int) (a2_4 : ByteArray) (a2_5 : Sl) (b3 : Nat) (b3_0 b3_1 b3_2 b3_3 : Int) (b3_4 : ByteArray) (b3_5 : Sl) (c5 i6 : Int) (w : World) (R : Post) (h : sel (decide (i6 < ((a2_5.n : Nat) : Int))) (sel (decide (i6 < ((b3_5.n : Nat) : Int))) (sel (c5 == 0) ((0 : Int) ≤ i6 ∧ i6 < ((a2_5.n : Nat) : Int) ∧ optP a2_5.a fun t63_p => ∃ t64_0 : Int, ∃ t64_1 : Int, ∃ t64_2 : ByteArray, w.cell? ((t63_p.add (Int.toNat i6 * 3)).add 0) = some (.u t64_0) ∧ w.cell? ((t63_p.add (Int.toNat i6 * 3)).add 1) = some (.u t64_1) ∧ w.cell? ((t63_p.add (Int.toNat i6 * 3)).add 2) = some (.string t64_2) ∧ 
  newV [a2, b3] w fun b7 w11 => 
  (0 : Int) ≤ i6 ∧ i6 < ((b3_5.n : Nat) : Int) ∧ optP b3_5.a fun t68_p => loc [a2, b3, b7] w11 fun w14 => ∃ t69_0 : Int, ∃ t69_1 : Int, ∃ t69_2 : ByteArray, w14.cell? ((t68_p.add (Int.toNat i6 * 3)).add 0) = some (.u t69_0) ∧ w14.cell? ((t68_p.add (Int.toNat i6 * 3)).add 1) = some (.u t69_1) ∧ w14.cell? ((t68_p.add (Int.toNat i6 * 3)).add 2) = some (.string t69_2) ∧ 
  newV [a2, b3, b7] w14 fun b8 w15 => 
  loc [a2, b3, b7, b8] w15 fun w19 => callF [a2, b3, b7, b8] Try.prog n_enthymemeref06_number #[.u t64_0, .u t69_0] w19 fun r_ w20 => ∃ t74 : Int, r_ = .returned (.i t74) ∧ 
  callF [a2, b3, b7, b8] Try.prog n_enthymemeref06_number #[.u t64_1, .u t69_1] w20 fun r_ w21 => ∃ t79 : Int, r_ = .returned (.i t79) ∧ 
  callF [a2, b3, b7, b8] Try.prog n_enthymemeref06_texts #[.string t64_2, .string t69_2] w21 fun r_ w22 => ∃ t84 : Int, r_ = .returned (.i t84) ∧ 
  nwV w22 (.cells #[.i t74, .i t79, .i t84] ty_int) fun w23 => 
  callF [a2, b3, b7, b8] Try.prog n_enthymemeref06_first #[.slice (some (nb w22)) 3 3] w23 fun r_ w24 => ∃ t86 : Int, r_ = .returned (.i t86) ∧ 
  L0T a2 a2_0 a2_1 a2_2 a2_3 a2_4 a2_5 b3 b3_0 b3_1 b3_2 b3_3 b3_4 b3_5 t86 (IntKind.wrap .i64 (i6 + 1)) w24 R) (S1T a2 a2_0 a2_1 a2_2 a2_3 a2_4 a2_5 b3 b3_0 b3_1 b3_2 b3_3 b3_4 b3_5 c5 w R)) (S1T a2 a2_0 a2_1 a2_2 a2_3 a2_4 a2_5 b3 b3_0 b3_1 b3_2 b3_3 b3_4 b3_5 c5 w R)) (S1T a2 a2_0 a2_1 a2_2 a2_3 a2_4 a2_5 b3 b3_0 b3_1 b3_2 b3_3 b3_4 b3_5 c5 w R)) : L0T a2 a2_0 a2_1 a2_2 a2_3 a2_4 a2_5 b3 b3_0 b3_1 b3_2 b3_3 b3_4 b3_5 c5 i6 w R := fun H => L0_step _ _ _ _ w R (⟨a2_5, H.ld 0 5, sel_imp h (fun h => ⟨b3_5, H.ld 1 5, sel_imp h (fun h => sel_imp h (fun h => ⟨a2_5, H.ld 0 5, ⟨h.1, h.2.1, have h := h.2.2; optP_imp h fun t63_p h => let ⟨t64_0, t64_1, t64_2, hc0, hc1, hc2, h⟩ := h; ⟨t64_0, t64_1, t64_2, hc0, hc1, hc2, LC.nwT H (Fr.refl _ _) h fun w11 (H : LC w11 [(a2, [.i a2_0, .i a2_1, .i a2_2, .u a2_3, .string a2_4, a2_5.v], ty_enthymemeref06_Value), (b3, [.i b3_0, .i b3_1, .i b3_2, .u b3_3, .string b3_4, b3_5.v], ty_enthymemeref06_Value), (w.heap.size, [.u 0, .u 0, .s0], ty_enthymemeref06_Entry)]) h => LC.stT0 H 2 (Fr.refl _ _) rfl rfl fun w12 H f => LC.stT H 2 1 f rfl rfl fun w13 H f => LC.stT H 2 2 f rfl rfl fun w14 (H : LC w14 [(a2, [.i a2_0, .i a2_1, .i a2_2, .u a2_3, .string a2_4, a2_5.v], ty_enthymemeref06_Value), (b3, [.i b3_0, .i b3_1, .i b3_2, .u b3_3, .string b3_4, b3_5.v], ty_enthymemeref06_Value), (w.heap.size, [.u t64_0, .u t64_1, .string t64_2], ty_enthymemeref06_Entry)]) (f : Fr (· ∈ [a2, b3, w.heap.size]) _ w14) => ⟨b3_5, H.ld 1 5, ⟨h.1, h.2.1, have h := h.2.2; optP_imp h fun t68_p h => have h := h _ f; let ⟨t69_0, t69_1, t69_2, hc0, hc1, hc2, h⟩ := h; ⟨t69_0, t69_1, t69_2, hc0, hc1, hc2, LC.nwT H (Fr.refl _ _) h fun w15 (H : LC w15 [(a2, [.i a2_0, .i a2_1, .i a2_2, .u a2_3, .string a2_4, a2_5.v], ty_enthymemeref06_Value), (b3, [.i b3_0, .i b3_1, .i b3_2, .u b3_3, .string b3_4, b3_5.v], ty_enthymemeref06_Value), (w.heap.size, [.u t64_0, .u t64_1, .string t64_2], ty_enthymemeref06_Entry), (w14.heap.size, [.u 0, .u 0, .s0], ty_enthymemeref06_Entry)]) h => LC.stT0 H 3 (Fr.refl _ _) rfl rfl fun w16 H f => LC.stT H 3 1 f rfl rfl fun w17 H f => LC.stT H 3 2 f rfl rfl fun w18 (H : LC w18 [(a2, [.i a2_0, .i a2_1, .i a2_2, .u a2_3, .string a2_4, a2_5.v], ty_enthymemeref06_Value), (b3, [.i b3_0, .i b3_1, .i b3_2, .u b3_3, .string b3_4, b3_5.v], ty_enthymemeref06_Value), (w.heap.size, [.u t64_0, .u t64_1, .string t64_2], ty_enthymemeref06_Entry), (w14.heap.size, [.u t69_0, .u t69_1, .string t69_2], ty_enthymemeref06_Entry)]) (f : Fr (· ∈ [a2, b3, w.heap.size, w14.heap.size]) _ w18) => LC.drT H f fun w19 H f => ⟨_, H.ld 2 0, ⟨_, H.ld 3 0, ⟨_, H.ld 2 1, ⟨_, H.ld 3 1, ⟨_, H.ld 2 2, ⟨_, H.ld 3 2, have h := h _ f; LC.callT H h fun r_ w20 H h => let ⟨t74, hr, h⟩ := h; ⟨t74, hr, ⟨H.ld 3 2, H.ld 2 2, H.ld 3 1, H.ld 2 1, LC.callT H h fun r_ w21 H h => let ⟨t79, hr, h⟩ := h; ⟨t79, hr, ⟨H.ld 3 2, H.ld 2 2, LC.callT H h fun r_ w22 H h => let ⟨t84, hr, h⟩ := h; ⟨t84, hr, LC.nwN H h fun w23 H h => LC.callT H h fun r_ w24 H h => let ⟨t86, hr, h⟩ := h; ⟨t86, hr, h (H.pick [0, 1] (by decide))⟩⟩⟩⟩⟩⟩⟩⟩⟩⟩⟩⟩⟩⟩⟩⟩⟩⟩) (fun h => S1T_ok h H)) (fun h => S1T_ok h H)⟩) (fun h => S1T_ok h H)⟩)
theorem okT (a0_0 a0_1 a0_2 a0_3 : Int) (a0_4 : ByteArray) (a0_5 : Sl) (b1_0 b1_1 b1_2 b1_3 : Int) (b1_4 : ByteArray) (b1_5 : Sl) (w : World) (R : Post) (h : newV [] w fun b2 w1 => 
  newV [b2] w1 fun b3 w2 => 
  loc [b2, b3] w2 fun w3 => callF [b2, b3] Try.prog n_enthymemeref06_ints #[.i a0_0, .i b1_0] w3 fun r_ w4 => ∃ t15 : Int, r_ = .returned (.i t15) ∧ 
  callF [b2, b3] Try.prog n_enthymemeref06_ints #[.i a0_1, .i b1_1] w4 fun r_ w5 => ∃ t22 : Int, r_ = .returned (.i t22) ∧ 
  callF [b2, b3] Try.prog n_enthymemeref06_ints #[.i a0_2, .i b1_2] w5 fun r_ w6 => ∃ t29 : Int, r_ = .returned (.i t29) ∧ 
  callF [b2, b3] Try.prog n_enthymemeref06_number #[.u a0_3, .u b1_3] w6 fun r_ w7 => ∃ t34 : Int, r_ = .returned (.i t34) ∧ 
  callF [b2, b3] Try.prog n_enthymemeref06_texts #[.string a0_4, .string b1_4] w7 fun r_ w8 => ∃ t39 : Int, r_ = .returned (.i t39) ∧ 
  nwV w8 (.cells #[.i t15, .i t22, .i t29, .i t34, .i t39] ty_int) fun w9 => 
  callF [b2, b3] Try.prog n_enthymemeref06_first #[.slice (some (nb w8)) 5 5] w9 fun r_ w10 => ∃ t41 : Int, r_ = .returned (.i t41) ∧ 
  L0T b2 a0_0 a0_1 a0_2 a0_3 a0_4 a0_5 b3 b1_0 b1_1 b1_2 b1_3 b1_4 b1_5 t41 0 w10 R) : Calls Try.prog n_enthymemeref06_Compare #[.agg #[.i a0_0, .i a0_1, .i a0_2, .u a0_3, .string a0_4, a0_5.v], .agg #[.i b1_0, .i b1_1, .i b1_2, .u b1_3, .string b1_4, b1_5.v]] w R :=
  ok _ _ _ _ _ _ _ _ _ _ _ _ w R (LC.nwT (LC.nil _) (Fr.refl _ _) h fun w1 H h => LC.nwT H (Fr.refl _ _) h fun w2 H h => LC.drT H (Fr.refl _ _) fun w3 H f => ⟨_, H.ld 0 0, ⟨_, H.ld 1 0, ⟨_, H.ld 0 1, ⟨_, H.ld 1 1, ⟨_, H.ld 0 2, ⟨_, H.ld 1 2, ⟨_, H.ld 0 3, ⟨_, H.ld 1 3, ⟨_, H.ld 0 4, ⟨_, H.ld 1 4, have h := h _ f; LC.callT H h fun r_ w4 H h => let ⟨t15, hr, h⟩ := h; ⟨t15, hr, ⟨H.ld 1 4, H.ld 0 4, H.ld 1 3, H.ld 0 3, H.ld 1 2, H.ld 0 2, H.ld 1 1, H.ld 0 1, LC.callT H h fun r_ w5 H h => let ⟨t22, hr, h⟩ := h; ⟨t22, hr, ⟨H.ld 1 4, H.ld 0 4, H.ld 1 3, H.ld 0 3, H.ld 1 2, H.ld 0 2, LC.callT H h fun r_ w6 H h => let ⟨t29, hr, h⟩ := h; ⟨t29, hr, ⟨H.ld 1 4, H.ld 0 4, H.ld 1 3, H.ld 0 3, LC.callT H h fun r_ w7 H h => let ⟨t34, hr, h⟩ := h; ⟨t34, hr, ⟨H.ld 1 4, H.ld 0 4, LC.callT H h fun r_ w8 H h => let ⟨t39, hr, h⟩ := h; ⟨t39, hr, LC.nwN H h fun w9 H h => LC.callT H h fun r_ w10 H h => let ⟨t41, hr, h⟩ := h; ⟨t41, hr, h H⟩⟩⟩⟩⟩⟩⟩⟩⟩⟩⟩⟩⟩⟩⟩⟩⟩⟩⟩⟩)
end enthymemeref06_Compare
namespace enthymemeref06_Same
noncomputable def C0 : Code := (Try.f16.body).getD .skip
/-- enthymeme/enthymemeref06.Same -/
noncomputable def C1:=C0.sn
noncomputable def C2:=C1.sn
theorem ok (a0_0 a0_1 a0_2 a0_3 : Int) (a0_4 : ByteArray) (a0_5 : Sl) (b1_0 b1_1 b1_2 b1_3 : Int) (b1_4 : ByteArray) (b1_5 : Sl) (w : World) (R : Post) (h : nwV w (.cells #[.i a0_0, .i a0_1, .i a0_2, .u a0_3, .string a0_4, a0_5.v] ty_enthymemeref06_Value) fun w1 => 
  nwV w1 (.cells #[.i b1_0, .i b1_1, .i b1_2, .u b1_3, .string b1_4, b1_5.v] ty_enthymemeref06_Value) fun w2 => 
  ∃ t5_0 : Int, ∃ t5_1 : Int, ∃ t5_2 : Int, ∃ t5_3 : Int, ∃ t5_4 : ByteArray, ∃ t5_5 : Sl, w2.cell? ((nb w).add 0) = some (.i t5_0) ∧ w2.cell? ((nb w).add 1) = some (.i t5_1) ∧ w2.cell? ((nb w).add 2) = some (.i t5_2) ∧ w2.cell? ((nb w).add 3) = some (.u t5_3) ∧ w2.cell? ((nb w).add 4) = some (.string t5_4) ∧ w2.cell? ((nb w).add 5) = some (t5_5.v) ∧ 
  ∃ t6_0 : Int, ∃ t6_1 : Int, ∃ t6_2 : Int, ∃ t6_3 : Int, ∃ t6_4 : ByteArray, ∃ t6_5 : Sl, w2.cell? ((nb w1).add 0) = some (.i t6_0) ∧ w2.cell? ((nb w1).add 1) = some (.i t6_1) ∧ w2.cell? ((nb w1).add 2) = some (.i t6_2) ∧ w2.cell? ((nb w1).add 3) = some (.u t6_3) ∧ w2.cell? ((nb w1).add 4) = some (.string t6_4) ∧ w2.cell? ((nb w1).add 5) = some (t6_5.v) ∧ 
  Calls Try.prog n_enthymemeref06_Compare #[.agg #[.i t5_0, .i t5_1, .i t5_2, .u t5_3, .string t5_4, t5_5.v], .agg #[.i t6_0, .i t6_1, .i t6_2, .u t6_3, .string t6_4, t6_5.v]] w2 fun r_ w3 => ∃ t7 : Int, r_ = .returned (.i t7) ∧ 
  R (.returned (.bool (t7 == 0))) w3) : Calls Try.prog n_enthymemeref06_Same #[.agg #[.i a0_0, .i a0_1, .i a0_2, .u a0_3, .string a0_4, a0_5.v], .agg #[.i b1_0, .i b1_1, .i b1_2, .u b1_3, .string b1_4, b1_5.v]] w R :=
  calls_of_WP' (R := R) (fn := Try.f16) (c := C0) (args := [.agg #[.i a0_0, .i a0_1, .i a0_2, .u a0_3, .string a0_4, a0_5.v], .agg #[.i b1_0, .i b1_1, .i b1_2, .u b1_3, .string b1_4, b1_5.v]]) (by kernel_rfl) (by kernel_rfl) (by kernel_rfl) (sr C0 (show (fun (E : Env) (w : World) => srK Try.prog C0 (fun E w => srK Try.prog C1 (fun E w => retVC Try.prog Try.f16 E w (fun v => R (.returned v) w)) E w) E w) (envOf 0 [.agg #[.i a0_0, .i a0_1, .i a0_2, .u a0_3, .string a0_4, a0_5.v], .agg #[.i b1_0, .i b1_1, .i b1_2, .u b1_3, .string b1_4, b1_5.v]]) w from Eq.mp (by kernel_rfl) h) fun _ _ hK => (sr C1 hK fun _ _ hK => (rt C2 fun a hA => retVC_sound hA hK)))
theorem okT (a0_0 a0_1 a0_2 a0_3 : Int) (a0_4 : ByteArray) (a0_5 : Sl) (b1_0 b1_1 b1_2 b1_3 : Int) (b1_4 : ByteArray) (b1_5 : Sl) (w : World) (R : Post) (h : newV [] w fun b2 w1 => 
  newV [b2] w1 fun b3 w2 => 
  callF [b2, b3] Try.prog n_enthymemeref06_Compare #[.agg #[.i a0_0, .i a0_1, .i a0_2, .u a0_3, .string a0_4, a0_5.v], .agg #[.i b1_0, .i b1_1, .i b1_2, .u b1_3, .string b1_4, b1_5.v]] w2 fun r_ w3 => ∃ t7 : Int, r_ = .returned (.i t7) ∧ 
  R (.returned (.bool (t7 == 0))) w3) : Calls Try.prog n_enthymemeref06_Same #[.agg #[.i a0_0, .i a0_1, .i a0_2, .u a0_3, .string a0_4, a0_5.v], .agg #[.i b1_0, .i b1_1, .i b1_2, .u b1_3, .string b1_4, b1_5.v]] w R :=
  ok _ _ _ _ _ _ _ _ _ _ _ _ w R (LC.nwT (LC.nil _) (Fr.refl _ _) h fun w1 H h => LC.nwT H (Fr.refl _ _) h fun w2 H h => ⟨_, _, _, _, _, a0_5, H.ld 0 0, H.ld 0 1, H.ld 0 2, H.ld 0 3, H.ld 0 4, H.ld 0 5, ⟨_, _, _, _, _, b1_5, H.ld 1 0, H.ld 1 1, H.ld 1 2, H.ld 1 3, H.ld 1 4, H.ld 1 5, LC.callT H h fun r_ w3 H h => let ⟨t7, hr, h⟩ := h; ⟨t7, hr, h⟩⟩⟩)
end enthymemeref06_Same
namespace enthymemeref06_Element
noncomputable def C0 : Code := (Try.f22.body).getD .skip
/-- enthymeme/enthymemeref06.Element -/
noncomputable def C1:=C0.sn
noncomputable def C2:=C1.fs
noncomputable def C3:=C2.sn
noncomputable def C4:=C3.fs
noncomputable def C5:=C1.sn
noncomputable def C6:=C4.sn
noncomputable def C7:=C3.sn
noncomputable def C8:=C5.sn
theorem ok (s0_0 s0_1 s0_2 : Int) (w : World) (R : Post) (h : nwV w (.cells #[.i s0_0, .i s0_1, .i s0_2] ty_api_Sort) fun w1 => 
  nwV w1 (.cells #[.i 0, .i 0, .i 0] ty_api_Sort) fun w2 => 
  ∃ t4 : Int, w2.cell? ((nb w).add 0) = some (.i t4) ∧ 
  sel (t4 == 2) (∃ t7 : Int, w2.cell? ((nb w).add 1) = some (.i t7) ∧ 
  stV w2 (nb w1) (.i 0) fun w3 => 
  stV w3 ((nb w1).add 1) (.i t7) fun w4 => 
  stV w4 ((nb w1).add 2) (.i 0) fun w5 => 
  ∃ r2_0 : Int, ∃ r2_1 : Int, ∃ r2_2 : Int, w5.cell? ((nb w1).add 0) = some (.i r2_0) ∧ w5.cell? ((nb w1).add 1) = some (.i r2_1) ∧ w5.cell? ((nb w1).add 2) = some (.i r2_2) ∧ 
  R (.returned (.agg #[.i r2_0, .i r2_1, .i r2_2])) w5) (∃ t10 : Int, w2.cell? ((nb w).add 1) = some (.i t10) ∧ 
  stV w2 (nb w1) (.i 1) fun w6 => 
  stV w6 ((nb w1).add 1) (.i t10) fun w7 => 
  stV w7 ((nb w1).add 2) (.i 0) fun w8 => 
  ∃ r2_0 : Int, ∃ r2_1 : Int, ∃ r2_2 : Int, w8.cell? ((nb w1).add 0) = some (.i r2_0) ∧ w8.cell? ((nb w1).add 1) = some (.i r2_1) ∧ w8.cell? ((nb w1).add 2) = some (.i r2_2) ∧ 
  R (.returned (.agg #[.i r2_0, .i r2_1, .i r2_2])) w8)) : Calls Try.prog n_enthymemeref06_Element #[.agg #[.i s0_0, .i s0_1, .i s0_2]] w R :=
  calls_of_WP' (R := R) (fn := Try.f22) (c := C0) (args := [.agg #[.i s0_0, .i s0_1, .i s0_2]]) (by kernel_rfl) (by kernel_rfl) (by kernel_rfl) (sr C0 (show (fun (E : Env) (w : World) => srK Try.prog C0 (fun E w => srK Try.prog C2 (fun E w => condK (Env.val E (.tmp 5)) (srK Try.prog C4 (fun E w => retVC Try.prog Try.f22 E w (fun v => R (.returned v) w)) E w) (srK Try.prog C5 (fun E w => retVC Try.prog Try.f22 E w (fun v => R (.returned v) w)) E w)) E w) E w) (envOf 0 [.agg #[.i s0_0, .i s0_1, .i s0_2]]) w from Eq.mp (by kernel_rfl) h) fun _ _ hK => (sq C1 (sr C2 hK fun _ _ hK => (cn C3 hK (fun hK => (sr C4 hK fun _ _ hK => (rt C6 fun a hA => retVC_sound hA hK))) (fun hK => (sk C7 fun a hA => nx hA (sr C5 hK fun _ _ hK => (rt C8 fun a hA => retVC_sound hA hK))))))))
theorem okT (s0_0 s0_1 s0_2 : Int) (w : World) (R : Post) (h : newV [] w fun b1 w1 => 
  newV [b1] w1 fun b2 w2 => 
  sel (s0_0 == 2) (loc [b1, b2] w2 fun w5 => R (.returned (.agg #[.i 0, .i s0_1, .i 0])) w5) (loc [b1, b2] w2 fun w8 => R (.returned (.agg #[.i 1, .i s0_1, .i 0])) w8)) : Calls Try.prog n_enthymemeref06_Element #[.agg #[.i s0_0, .i s0_1, .i s0_2]] w R :=
  ok _ _ _ w R (LC.nwT (LC.nil _) (Fr.refl _ _) h fun w1 H h => LC.nwT H (Fr.refl _ _) h fun w2 H h => ⟨_, H.ld 0 0, sel_imp h (fun h => ⟨_, H.ld 0 1, LC.stT0 H 1 (Fr.refl _ _) rfl rfl fun w3 H f => LC.stT H 1 1 f rfl rfl fun w4 H f => LC.stT H 1 2 f rfl rfl fun w5 (H : LC w5 [(w.heap.size, [.i s0_0, .i s0_1, .i s0_2], ty_api_Sort), (w1.heap.size, [.i 0, .i s0_1, .i 0], ty_api_Sort)]) (f : Fr (· ∈ [w.heap.size, w1.heap.size]) _ w5) => ⟨_, _, _, H.ld 1 0, H.ld 1 1, H.ld 1 2, have h := h _ f; h⟩⟩) (fun h => ⟨_, H.ld 0 1, LC.stT0 H 1 (Fr.refl _ _) rfl rfl fun w6 H f => LC.stT H 1 1 f rfl rfl fun w7 H f => LC.stT H 1 2 f rfl rfl fun w8 (H : LC w8 [(w.heap.size, [.i s0_0, .i s0_1, .i s0_2], ty_api_Sort), (w1.heap.size, [.i 1, .i s0_1, .i 0], ty_api_Sort)]) (f : Fr (· ∈ [w.heap.size, w1.heap.size]) _ w8) => ⟨_, _, _, H.ld 1 0, H.ld 1 1, H.ld 1 2, have h := h _ f; h⟩⟩)⟩)
end enthymemeref06_Element
namespace enthymemeref06_At
noncomputable def C0 : Code := (Try.f51.body).getD .skip
noncomputable def C1:=C0.sn
noncomputable def C2:=C1.sn
noncomputable def C3:=C2.fs
noncomputable def C4:=C3.sn
noncomputable def C5:=C4.fs
noncomputable def C6:=C5.fs
noncomputable def C7:=C2.sn
abbrev Q0 (R : Post) : Exit → Act → World → Prop := (Exit.then (wpx Try.prog (cx 41) C7 (bodyPost Try.prog Try.f51 R)) (bodyPost Try.prog Try.f51 R))
abbrev Q1 (R : Post) : Exit → Act → World → Prop := (Exit.inBlock 0 (Q0 R))
/-- the head of the loop, ref.go:157 -/
def L0 (index1 : Int) (a2 t4 out5 : Addr) (i6 : Int) (w : World) (R : Post) : Prop := LP Try.prog (cx 41) C6 (Q1 R) [(1, .u index1), (2, .pointer (some a2)), (4, .pointer (some t4)), (5, .pointer (some out5)), (6, .i i6)] w
def KE_L0 (E : Env) (w : World) (R : Post) : Prop := W.asInt .u64 (Env.get? E 1) fun index1 => asRef (Env.get? E 2) fun a2 => asRef (Env.get? E 4) fun t4 => asRef (Env.get? E 5) fun out5 => W.asInt .i64 (Env.get? E 6) fun i6 => L0 index1 a2 t4 out5 i6 w R
theorem KE_L0_ok (R : Post) (E : Env) (w : World) (h : KE_L0 E w R) : LP Try.prog (cx 41) C6 (Q1 R) E w := by
  obtain ⟨index1, hq1, h_1⟩ := asInt_elim h
  obtain ⟨a2, hq2, h_2⟩ := asRef_elim h_1
  obtain ⟨t4, hq4, h_3⟩ := asRef_elim h_2
  obtain ⟨out5, hq5, h_4⟩ := asRef_elim h_3
  obtain ⟨i6, hq6, h_5⟩ := asInt_elim h_4
  intro a ha
  exact h_5 a (ha.cons hq1 (ha.cons hq2 (ha.cons hq4 (ha.cons hq5 (ha.cons hq6 ha.nil)))))
noncomputable def C8:=C6.sn
noncomputable def C9:=C8.sn
abbrev Q2 (R : Post) : Exit → Act → World → Prop := (Exit.then (LoopWP Try.prog (cx 41) C6 (Q1 R)) (Q1 R))
/-- ref.go:157 -/
abbrev S1 (index1 : Int) (a2 t4 out5 : Addr) (i6 : Int) (w : World) (R : Post) : Prop :=
  L0 index1 a2 t4 out5 (IntKind.wrap .i64 (i6 + 1)) w R
def KE_S1 (E : Env) (w : World) (R : Post) : Prop := W.asInt .u64 (Env.get? E 1) fun index1 => asRef (Env.get? E 2) fun a2 => asRef (Env.get? E 4) fun t4 => asRef (Env.get? E 5) fun out5 => W.asInt .i64 (Env.get? E 6) fun i6 => S1 index1 a2 t4 out5 i6 w R
theorem KE_S1_ok (R : Post) (E : Env) (w : World) (h : KE_S1 E w R) : WP Try.prog (cx 41) C9 (Q2 R) E w := by
  obtain ⟨index1, hq1, h_1⟩ := asInt_elim h
  obtain ⟨a2, hq2, h_2⟩ := asRef_elim h_1
  obtain ⟨t4, hq4, h_3⟩ := asRef_elim h_2
  obtain ⟨out5, hq5, h_4⟩ := asRef_elim h_3
  obtain ⟨i6, hq6, h_5⟩ := asInt_elim h_4
  exact fun a ha => WP.at (E := [(1, .u index1), (2, .pointer (some a2)), (4, .pointer (some t4)), (5, .pointer (some out5)), (6, .i i6)]) (rg C9 (K := fun E w => KE_L0 E w R) (by kernel_rfl) (Eq.mp (by kernel_rfl) h_5) fun _ _ a hA hK => KE_L0_ok R _ _ hK a hA) (ha.cons hq1 (ha.cons hq2 (ha.cons hq4 (ha.cons hq5 (ha.cons hq6 ha.nil)))))
noncomputable def C10:=C6.fs
noncomputable def C11:=C8.fs
noncomputable def C12:=C11.fs
noncomputable def C13:=C12.sn
noncomputable def C14:=C13.fs
noncomputable def C15:=C14.sn
noncomputable def C16:=C10.sn
noncomputable def C17:=C16.fs
noncomputable def C18:=C13.sn
noncomputable def C19:=C16.sn
noncomputable def C20:=C7.sn
theorem L0_step (index1 : Int) (a2 t4 out5 : Addr) (i6 : Int) (w : World) (R : Post) (h : ∃ t13 : Sl, w.cell? (a2.add 5) = some (t13.v) ∧ 
  sel (decide (i6 < ((t13.n : Nat) : Int))) (∃ t19 : Sl, w.cell? (a2.add 5) = some (t19.v) ∧ 
  (0 : Int) ≤ i6 ∧ i6 < ((t19.n : Nat) : Int) ∧ optP t19.a fun t21_p => ∃ t23 : Int, w.cell? ((t21_p.add (Int.toNat i6 * 3)).add 0) = some (.u t23) ∧ 
  sel (t23 == index1) (∃ t27 : Sl, w.cell? (a2.add 5) = some (t27.v) ∧ 
  (0 : Int) ≤ i6 ∧ i6 < ((t27.n : Nat) : Int) ∧ optP t27.a fun t29_p => ∃ t31 : Int, w.cell? ((t29_p.add (Int.toNat i6 * 3)).add 1) = some (.u t31) ∧ 
  stV w (out5.add 3) (.u t31) fun w11 => 
  ∃ t34 : Sl, w11.cell? (a2.add 5) = some (t34.v) ∧ 
  (0 : Int) ≤ i6 ∧ i6 < ((t34.n : Nat) : Int) ∧ optP t34.a fun t36_p => ∃ t38 : ByteArray, w11.cell? ((t36_p.add (Int.toNat i6 * 3)).add 2) = some (.string t38) ∧ 
  stV w11 (out5.add 4) (.string t38) fun w12 => 
  S1 index1 a2 t4 out5 i6 w12 R) (S1 index1 a2 t4 out5 i6 w R)) (∃ t40_0 : Int, ∃ t40_1 : Int, ∃ t40_2 : Int, ∃ t40_3 : Int, ∃ t40_4 : ByteArray, ∃ t40_5 : Sl, w.cell? (out5.add 0) = some (.i t40_0) ∧ w.cell? (out5.add 1) = some (.i t40_1) ∧ w.cell? (out5.add 2) = some (.i t40_2) ∧ w.cell? (out5.add 3) = some (.u t40_3) ∧ w.cell? (out5.add 4) = some (.string t40_4) ∧ w.cell? (out5.add 5) = some (t40_5.v) ∧ 
  stV w t4 (.i t40_0) fun w13 => 
  stV w13 (t4.add 1) (.i t40_1) fun w14 => 
  stV w14 (t4.add 2) (.i t40_2) fun w15 => 
  stV w15 (t4.add 3) (.u t40_3) fun w16 => 
  stV w16 (t4.add 4) (.string t40_4) fun w17 => 
  stV w17 (t4.add 5) (t40_5.v) fun w18 => 
  ∃ r4_0 : Int, ∃ r4_1 : Int, ∃ r4_2 : Int, ∃ r4_3 : Int, ∃ r4_4 : ByteArray, ∃ r4_5 : Sl, w18.cell? (t4.add 0) = some (.i r4_0) ∧ w18.cell? (t4.add 1) = some (.i r4_1) ∧ w18.cell? (t4.add 2) = some (.i r4_2) ∧ w18.cell? (t4.add 3) = some (.u r4_3) ∧ w18.cell? (t4.add 4) = some (.string r4_4) ∧ w18.cell? (t4.add 5) = some (r4_5.v) ∧ 
  R (.returned (.agg #[.i r4_0, .i r4_1, .i r4_2, .u r4_3, .string r4_4, r4_5.v])) w18)) : L0 index1 a2 t4 out5 i6 w R :=
  LP.step (n := (cx 41)) (c := C6) (E := [(1, .u index1), (2, .pointer (some a2)), (4, .pointer (some t4)), (5, .pointer (some out5)), (6, .i i6)]) (w := w) (sq C6 (sr C10 (show (fun (E : Env) (w : World) => srK Try.prog C10 (fun E w => condK (Env.val E (.tmp 15)) (srK Try.prog C12 (fun E w => condK (Env.val E (.tmp 25)) (srK Try.prog C14 (fun E w => rgK Try.prog C15 (fun E w => KE_S1 E w R) E w) E w) (KE_S1 E w R)) E w) (srK Try.prog C7 (fun E w => retVC Try.prog Try.f51 E w (fun v => R (.returned v) w)) E w)) E w) [(1, .u index1), (2, .pointer (some a2)), (4, .pointer (some t4)), (5, .pointer (some out5)), (6, .i i6)] w from Eq.mp (by kernel_rfl) h) fun _ _ hK => (cn C16 hK (fun hK => (sk C17 fun a hA => nx hA (sq C8 (bk C11 1 (by kernel_rfl) (sr C12 hK fun _ _ hK => (cn C13 hK (fun hK => (sr C14 hK fun _ _ hK => (rg C15 (by kernel_rfl) hK fun _ _ a hA hK => nx hA (KE_S1_ok R _ _ hK)))) (fun hK => (sk C18 fun a hA => nx hA (KE_S1_ok R _ _ hK))))))))) (fun hK => (xt C19 0 (by kernel_rfl) fun a hA => nx hA (sr C7 hK fun _ _ hK => (rt C20 fun a hA => retVC_sound hA hK)))))))
/-- enthymeme/enthymemeref06.At -/
theorem ok (a0_0 a0_1 a0_2 a0_3 : Int) (a0_4 : ByteArray) (a0_5 : Sl) (index1 : Int) (w : World) (R : Post) (h : nwV w (.cells #[.i a0_0, .i a0_1, .i a0_2, .u a0_3, .string a0_4, a0_5.v] ty_enthymemeref06_Value) fun w1 => 
  nwV w1 (.cells #[.i 0, .i 0, .i 0, .u 0, .s0, .slice none 0 0] ty_enthymemeref06_Value) fun w2 => 
  ∃ t8_0 : Int, ∃ t8_1 : Int, ∃ t8_2 : Int, w2.cell? (((nb w).add 0).add 0) = some (.i t8_0) ∧ w2.cell? (((nb w).add 0).add 1) = some (.i t8_1) ∧ w2.cell? (((nb w).add 0).add 2) = some (.i t8_2) ∧ 
  Calls Try.prog n_enthymemeref06_Element #[.agg #[.i t8_0, .i t8_1, .i t8_2]] w2 fun r_ w3 => ∃ t9_0 : Int, ∃ t9_1 : Int, ∃ t9_2 : Int, r_ = .returned (.agg #[.i t9_0, .i t9_1, .i t9_2]) ∧ 
  nwV w3 (.cells #[.i 0, .i 0, .i 0, .u 0, .s0, .slice none 0 0] ty_enthymemeref06_Value) fun w4 => 
  stV w4 (nb w3) (.i t9_0) fun w5 => 
  stV w5 ((nb w3).add 1) (.i t9_1) fun w6 => 
  stV w6 ((nb w3).add 2) (.i t9_2) fun w7 => 
  stV w7 ((nb w3).add 3) (.u 0) fun w8 => 
  stV w8 ((nb w3).add 4) (.s0) fun w9 => 
  stV w9 ((nb w3).add 5) (.slice none 0 0) fun w10 => 
  L0 index1 (nb w) (nb w1) (nb w3) 0 w10 R) : Calls Try.prog n_enthymemeref06_At #[.agg #[.i a0_0, .i a0_1, .i a0_2, .u a0_3, .string a0_4, a0_5.v], .u index1] w R :=
  calls_of_WP' (R := R) (fn := Try.f51) (c := C0) (args := [.agg #[.i a0_0, .i a0_1, .i a0_2, .u a0_3, .string a0_4, a0_5.v], .u index1]) (by kernel_rfl) (by kernel_rfl) (by kernel_rfl) (sr C0 (show (fun (E : Env) (w : World) => srK Try.prog C0 (fun E w => srK Try.prog C1 (fun E w => srK Try.prog C3 (fun E w => KE_L0 E w R) E w) E w) E w) (envOf 0 [.agg #[.i a0_0, .i a0_1, .i a0_2, .u a0_3, .string a0_4, a0_5.v], .u index1]) w from Eq.mp (by kernel_rfl) h) fun _ _ hK => (sr C1 hK fun _ _ hK => (sq C2 (sr C3 hK fun _ _ hK => (bk C4 0 (by kernel_rfl) (lp C5 (by kernel_rfl) (KE_L0_ok R _ _ hK)))))))
def L0T (index1 : Int) (a2 : Nat) (a2_0 a2_1 a2_2 a2_3 : Int) (a2_4 : ByteArray) (a2_5 : Sl) (t4 : Nat) (t4_0 t4_1 t4_2 t4_3 : Int) (t4_4 : ByteArray) (t4_5 : Sl) (out5 : Nat) (out5_0 out5_1 out5_2 out5_3 : Int) (out5_4 : ByteArray) (out5_5 : Sl) (i6 : Int) (w : World) (R : Post) : Prop := LC w [(a2, [.i a2_0, .i a2_1, .i a2_2, .u a2_3, .string a2_4, a2_5.v], ty_enthymemeref06_Value), (t4, [.i t4_0, .i t4_1, .i t4_2, .u t4_3, .string t4_4, t4_5.v], ty_enthymemeref06_Value), (out5, [.i out5_0, .i out5_1, .i out5_2, .u out5_3, .string out5_4, out5_5.v], ty_enthymemeref06_Value)] → L0 index1 (at0 a2) (at0 t4) (at0 out5) i6 w R
abbrev S1T (index1 : Int) (a2 : Nat) (a2_0 a2_1 a2_2 a2_3 : Int) (a2_4 : ByteArray) (a2_5 : Sl) (t4 : Nat) (t4_0 t4_1 t4_2 t4_3 : Int) (t4_4 : ByteArray) (t4_5 : Sl) (out5 : Nat) (out5_0 out5_1 out5_2 out5_3 : Int) (out5_4 : ByteArray) (out5_5 : Sl) (i6 : Int) (w : World) (R : Post) : Prop :=
  L0T index1 a2 a2_0 a2_1 a2_2 a2_3 a2_4 a2_5 t4 t4_0 t4_1 t4_2 t4_3 t4_4 t4_5 out5 out5_0 out5_1 out5_2 out5_3 out5_4 out5_5 (IntKind.wrap .i64 (i6 + 1)) w R
theorem S1T_ok {index1 : Int} {a2 : Nat} {a2_0 a2_1 a2_2 a2_3 : Int} {a2_4 : ByteArray} {a2_5 : Sl} {t4 : Nat} {t4_0 t4_1 t4_2 t4_3 : Int} {t4_4 : ByteArray} {t4_5 : Sl} {out5 : Nat} {out5_0 out5_1 out5_2 out5_3 : Int} {out5_4 : ByteArray} {out5_5 : Sl} {i6 : Int} {w : World} {R : Post} (h : S1T index1 a2 a2_0 a2_1 a2_2 a2_3 a2_4 a2_5 t4 t4_0 t4_1 t4_2 t4_3 t4_4 t4_5 out5 out5_0 out5_1 out5_2 out5_3 out5_4 out5_5 i6 w R) (H : LC w [(a2, [.i a2_0, .i a2_1, .i a2_2, .u a2_3, .string a2_4, a2_5.v], ty_enthymemeref06_Value), (t4, [.i t4_0, .i t4_1, .i t4_2, .u t4_3, .string t4_4, t4_5.v], ty_enthymemeref06_Value), (out5, [.i out5_0, .i out5_1, .i out5_2, .u out5_3, .string out5_4, out5_5.v], ty_enthymemeref06_Value)]) : S1 index1 (at0 a2) (at0 t4) (at0 out5) i6 w R := h H
theorem L0T_step (index1 : Int) (a2 : Nat) (a2_0 a2_1 a2_2 a2_3 : Int) (a2_4 : ByteArray) (a2_5 : Sl) (t4 : Nat) (t4_0 t4_1 t4_2 t4_3 : Int) (t4_4 : ByteArray) (t4_5 : Sl) (out5 : Nat) (out5_0 out5_1 out5_2 out5_3 : Int) (out5_4 : ByteArray) (out5_5 : Sl) (i6 : Int) (w : World) (R : Post) (h : sel (decide (i6 < ((a2_5.n : Nat) : Int))) ((0 : Int) ≤ i6 ∧ i6 < ((a2_5.n : Nat) : Int) ∧ optP a2_5.a fun t21_p => ∃ t23 : Int, w.cell? ((t21_p.add (Int.toNat i6 * 3)).add 0) = some (.u t23) ∧ 
  sel (t23 == index1) ((0 : Int) ≤ i6 ∧ i6 < ((a2_5.n : Nat) : Int) ∧ optP a2_5.a fun t29_p => ∃ t31 : Int, w.cell? ((t29_p.add (Int.toNat i6 * 3)).add 1) = some (.u t31) ∧ 
  (0 : Int) ≤ i6 ∧ i6 < ((a2_5.n : Nat) : Int) ∧ optP a2_5.a fun t36_p => loc [a2, t4, out5] w fun w11 => ∃ t38 : ByteArray, w11.cell? ((t36_p.add (Int.toNat i6 * 3)).add 2) = some (.string t38) ∧ 
  loc [a2, t4, out5] w11 fun w12 => S1T index1 a2 a2_0 a2_1 a2_2 a2_3 a2_4 a2_5 t4 t4_0 t4_1 t4_2 t4_3 t4_4 t4_5 out5 out5_0 out5_1 out5_2 t31 t38 out5_5 i6 w12 R) (S1T index1 a2 a2_0 a2_1 a2_2 a2_3 a2_4 a2_5 t4 t4_0 t4_1 t4_2 t4_3 t4_4 t4_5 out5 out5_0 out5_1 out5_2 out5_3 out5_4 out5_5 i6 w R)) (loc [a2, t4, out5] w fun w18 => R (.returned (.agg #[.i out5_0, .i out5_1, .i out5_2, .u out5_3, .string out5_4, out5_5.v])) w18)) : L0T index1 a2 a2_0 a2_1 a2_2 a2_3 a2_4 a2_5 t4 t4_0 t4_1 t4_2 t4_3 t4_4 t4_5 out5 out5_0 out5_1 out5_2 out5_3 out5_4 out5_5 i6 w R := fun H => L0_step _ _ _ _ _ w R (⟨a2_5, H.ld 0 5, sel_imp h (fun h => ⟨a2_5, H.ld 0 5, ⟨h.1, h.2.1, have h := h.2.2; optP_imp h fun t21_p h => let ⟨t23, hc0, h⟩ := h; ⟨t23, hc0, sel_imp h (fun h => ⟨a2_5, H.ld 0 5, ⟨h.1, h.2.1, have h := h.2.2; optP_imp h fun t29_p h => let ⟨t31, hc0, h⟩ := h; ⟨t31, hc0, LC.stT H 2 3 (Fr.refl _ _) rfl rfl fun w11 (H : LC w11 [(a2, [.i a2_0, .i a2_1, .i a2_2, .u a2_3, .string a2_4, a2_5.v], ty_enthymemeref06_Value), (t4, [.i t4_0, .i t4_1, .i t4_2, .u t4_3, .string t4_4, t4_5.v], ty_enthymemeref06_Value), (out5, [.i out5_0, .i out5_1, .i out5_2, .u t31, .string out5_4, out5_5.v], ty_enthymemeref06_Value)]) (f : Fr (· ∈ [a2, t4, out5]) _ w11) => ⟨a2_5, H.ld 0 5, ⟨h.1, h.2.1, have h := h.2.2; optP_imp h fun t36_p h => have h := h _ f; let ⟨t38, hc0, h⟩ := h; ⟨t38, hc0, LC.stT H 2 4 (Fr.refl _ _) rfl rfl fun w12 (H : LC w12 [(a2, [.i a2_0, .i a2_1, .i a2_2, .u a2_3, .string a2_4, a2_5.v], ty_enthymemeref06_Value), (t4, [.i t4_0, .i t4_1, .i t4_2, .u t4_3, .string t4_4, t4_5.v], ty_enthymemeref06_Value), (out5, [.i out5_0, .i out5_1, .i out5_2, .u t31, .string t38, out5_5.v], ty_enthymemeref06_Value)]) (f : Fr (· ∈ [a2, t4, out5]) _ w12) => have h := h _ f; S1T_ok h H⟩⟩⟩⟩⟩⟩) (fun h => S1T_ok h H)⟩⟩⟩) (fun h => ⟨_, _, _, _, _, out5_5, H.ld 2 0, H.ld 2 1, H.ld 2 2, H.ld 2 3, H.ld 2 4, H.ld 2 5, LC.stT0 H 1 (Fr.refl _ _) rfl rfl fun w13 H f => LC.stT H 1 1 f rfl rfl fun w14 H f => LC.stT H 1 2 f rfl rfl fun w15 H f => LC.stT H 1 3 f rfl rfl fun w16 H f => LC.stT H 1 4 f rfl rfl fun w17 H f => LC.stT H 1 5 f rfl rfl fun w18 (H : LC w18 [(a2, [.i a2_0, .i a2_1, .i a2_2, .u a2_3, .string a2_4, a2_5.v], ty_enthymemeref06_Value), (t4, [.i out5_0, .i out5_1, .i out5_2, .u out5_3, .string out5_4, out5_5.v], ty_enthymemeref06_Value), (out5, [.i out5_0, .i out5_1, .i out5_2, .u out5_3, .string out5_4, out5_5.v], ty_enthymemeref06_Value)]) (f : Fr (· ∈ [a2, t4, out5]) _ w18) => ⟨_, _, _, _, _, out5_5, H.ld 1 0, H.ld 1 1, H.ld 1 2, H.ld 1 3, H.ld 1 4, H.ld 1 5, have h := h _ f; h⟩⟩)⟩)
theorem okT (a0_0 a0_1 a0_2 a0_3 : Int) (a0_4 : ByteArray) (a0_5 : Sl) (index1 : Int) (w : World) (R : Post) (h : newV [] w fun b2 w1 => 
  newV [b2] w1 fun b4 w2 => 
  callF [b2, b4] Try.prog n_enthymemeref06_Element #[.agg #[.i a0_0, .i a0_1, .i a0_2]] w2 fun r_ w3 => ∃ t9_0 : Int, ∃ t9_1 : Int, ∃ t9_2 : Int, r_ = .returned (.agg #[.i t9_0, .i t9_1, .i t9_2]) ∧ 
  newV [b2, b4] w3 fun b5 w4 => 
  loc [b2, b4, b5] w4 fun w10 => L0T index1 b2 a0_0 a0_1 a0_2 a0_3 a0_4 a0_5 b4 0 0 0 0 (ByteArray.mk #[]) ⟨none, 0, 0⟩ b5 t9_0 t9_1 t9_2 0 (ByteArray.mk #[]) ⟨none, 0, 0⟩ 0 w10 R) : Calls Try.prog n_enthymemeref06_At #[.agg #[.i a0_0, .i a0_1, .i a0_2, .u a0_3, .string a0_4, a0_5.v], .u index1] w R :=
  ok _ _ _ _ _ _ _ w R (LC.nwT (LC.nil _) (Fr.refl _ _) h fun w1 H h => LC.nwT H (Fr.refl _ _) h fun w2 H h => ⟨_, _, _, H.ld 0 0, H.ld 0 1, H.ld 0 2, LC.callT H h fun r_ w3 H h => let ⟨t9_0, t9_1, t9_2, hr, h⟩ := h; ⟨t9_0, t9_1, t9_2, hr, LC.nwT H (Fr.refl _ _) h fun w4 (H : LC w4 [(w.heap.size, [.i a0_0, .i a0_1, .i a0_2, .u a0_3, .string a0_4, a0_5.v], ty_enthymemeref06_Value), (w1.heap.size, [.i 0, .i 0, .i 0, .u 0, .s0, .slice none 0 0], ty_enthymemeref06_Value), (w3.heap.size, [.i 0, .i 0, .i 0, .u 0, .s0, .slice none 0 0], ty_enthymemeref06_Value)]) h => LC.stT0 H 2 (Fr.refl _ _) rfl rfl fun w5 H f => LC.stT H 2 1 f rfl rfl fun w6 H f => LC.stT H 2 2 f rfl rfl fun w7 H f => LC.stT H 2 3 f rfl rfl fun w8 H f => LC.stT H 2 4 f rfl rfl fun w9 H f => LC.stT H 2 5 f rfl rfl fun w10 (H : LC w10 [(w.heap.size, [.i a0_0, .i a0_1, .i a0_2, .u a0_3, .string a0_4, a0_5.v], ty_enthymemeref06_Value), (w1.heap.size, [.i 0, .i 0, .i 0, .u 0, .s0, .slice none 0 0], ty_enthymemeref06_Value), (w3.heap.size, [.i t9_0, .i t9_1, .i t9_2, .u 0, .s0, .slice none 0 0], ty_enthymemeref06_Value)]) (f : Fr (· ∈ [w.heap.size, w1.heap.size, w3.heap.size]) _ w10) => have h := h _ f; h H⟩⟩)
end enthymemeref06_At
namespace enthymemeref06_Select
noncomputable def C0 : Code := (Try.f24.body).getD .skip
/-- enthymeme/enthymemeref06.Select -/
noncomputable def C1:=C0.sn
noncomputable def C2:=C1.sn
noncomputable def C3:=C2.fs
noncomputable def C4:=C3.sn
noncomputable def C5:=C4.fs
noncomputable def C6:=C2.sn
noncomputable def C7:=C6.fs
noncomputable def C8:=C7.sn
noncomputable def C9:=C8.fs
noncomputable def C10:=C6.sn
noncomputable def C11:=C10.fs
noncomputable def C12:=C11.sn
noncomputable def C13:=C12.fs
noncomputable def C14:=C10.sn
noncomputable def C15:=C5.sn
noncomputable def C16:=C4.sn
noncomputable def C17:=C9.sn
noncomputable def C18:=C8.sn
noncomputable def C19:=C13.sn
noncomputable def C20:=C12.sn
noncomputable def C21:=C14.sn
theorem ok (a0_0 a0_1 a0_2 a0_3 : Int) (a0_4 : ByteArray) (a0_5 : Sl) (index1 : Int) (w : World) (R : Post) (h : nwV w (.cells #[.i a0_0, .i a0_1, .i a0_2, .u a0_3, .string a0_4, a0_5.v] ty_enthymemeref06_Value) fun w1 => 
  nwV w1 (.cells #[.i 0, .i 0, .i 0, .u 0, .s0, .slice none 0 0] ty_enthymemeref06_Value) fun w2 => 
  ∃ t7_0 : Int, ∃ t7_1 : Int, ∃ t7_2 : Int, ∃ t7_3 : Int, ∃ t7_4 : ByteArray, ∃ t7_5 : Sl, w2.cell? ((nb w).add 0) = some (.i t7_0) ∧ w2.cell? ((nb w).add 1) = some (.i t7_1) ∧ w2.cell? ((nb w).add 2) = some (.i t7_2) ∧ w2.cell? ((nb w).add 3) = some (.u t7_3) ∧ w2.cell? ((nb w).add 4) = some (.string t7_4) ∧ w2.cell? ((nb w).add 5) = some (t7_5.v) ∧ 
  Calls Try.prog n_enthymemeref06_Valid #[.agg #[.i t7_0, .i t7_1, .i t7_2, .u t7_3, .string t7_4, t7_5.v]] w2 fun r_ w3 => ∃ t8 : Int, r_ = .returned (.i t8) ∧ 
  sel (t8 != 0) (stV w3 (nb w1) (.i 0) fun w4 => 
  stV w4 ((nb w1).add 1) (.i 0) fun w5 => 
  stV w5 ((nb w1).add 2) (.i 0) fun w6 => 
  stV w6 ((nb w1).add 3) (.u 0) fun w7 => 
  stV w7 ((nb w1).add 4) (.s0) fun w8 => 
  stV w8 ((nb w1).add 5) (.slice none 0 0) fun w9 => 
  ∃ r4_0 : Int, ∃ r4_1 : Int, ∃ r4_2 : Int, ∃ r4_3 : Int, ∃ r4_4 : ByteArray, ∃ r4_5 : Sl, w9.cell? ((nb w1).add 0) = some (.i r4_0) ∧ w9.cell? ((nb w1).add 1) = some (.i r4_1) ∧ w9.cell? ((nb w1).add 2) = some (.i r4_2) ∧ w9.cell? ((nb w1).add 3) = some (.u r4_3) ∧ w9.cell? ((nb w1).add 4) = some (.string r4_4) ∧ w9.cell? ((nb w1).add 5) = some (r4_5.v) ∧ 
  R (.returned (.tuple #[.agg #[.i r4_0, .i r4_1, .i r4_2, .u r4_3, .string r4_4, r4_5.v], .i t8])) w9) (∃ t14_0 : Int, ∃ t14_1 : Int, ∃ t14_2 : Int, w3.cell? (((nb w).add 0).add 0) = some (.i t14_0) ∧ w3.cell? (((nb w).add 0).add 1) = some (.i t14_1) ∧ w3.cell? (((nb w).add 0).add 2) = some (.i t14_2) ∧ 
  Calls Try.prog n_enthymemeref06_Array #[.agg #[.i t14_0, .i t14_1, .i t14_2]] w3 fun r_ w10 => ∃ t15 : Bool, r_ = .returned (.bool t15) ∧ 
  sel (!t15) (stV w10 (nb w1) (.i 0) fun w11 => 
  stV w11 ((nb w1).add 1) (.i 0) fun w12 => 
  stV w12 ((nb w1).add 2) (.i 0) fun w13 => 
  stV w13 ((nb w1).add 3) (.u 0) fun w14 => 
  stV w14 ((nb w1).add 4) (.s0) fun w15 => 
  stV w15 ((nb w1).add 5) (.slice none 0 0) fun w16 => 
  ∃ r4_0 : Int, ∃ r4_1 : Int, ∃ r4_2 : Int, ∃ r4_3 : Int, ∃ r4_4 : ByteArray, ∃ r4_5 : Sl, w16.cell? ((nb w1).add 0) = some (.i r4_0) ∧ w16.cell? ((nb w1).add 1) = some (.i r4_1) ∧ w16.cell? ((nb w1).add 2) = some (.i r4_2) ∧ w16.cell? ((nb w1).add 3) = some (.u r4_3) ∧ w16.cell? ((nb w1).add 4) = some (.string r4_4) ∧ w16.cell? ((nb w1).add 5) = some (r4_5.v) ∧ 
  R (.returned (.tuple #[.agg #[.i r4_0, .i r4_1, .i r4_2, .u r4_3, .string r4_4, r4_5.v], .i 9])) w16) (∃ t21 : Int, w10.cell? (((nb w).add 0).add 2) = some (.i t21) ∧ 
  Calls Try.prog n_enthymemeref06_fits #[.u index1, .i t21] w10 fun r_ w17 => ∃ t22 : Bool, r_ = .returned (.bool t22) ∧ 
  sel (!t22) (stV w17 (nb w1) (.i 0) fun w18 => 
  stV w18 ((nb w1).add 1) (.i 0) fun w19 => 
  stV w19 ((nb w1).add 2) (.i 0) fun w20 => 
  stV w20 ((nb w1).add 3) (.u 0) fun w21 => 
  stV w21 ((nb w1).add 4) (.s0) fun w22 => 
  stV w22 ((nb w1).add 5) (.slice none 0 0) fun w23 => 
  ∃ r4_0 : Int, ∃ r4_1 : Int, ∃ r4_2 : Int, ∃ r4_3 : Int, ∃ r4_4 : ByteArray, ∃ r4_5 : Sl, w23.cell? ((nb w1).add 0) = some (.i r4_0) ∧ w23.cell? ((nb w1).add 1) = some (.i r4_1) ∧ w23.cell? ((nb w1).add 2) = some (.i r4_2) ∧ w23.cell? ((nb w1).add 3) = some (.u r4_3) ∧ w23.cell? ((nb w1).add 4) = some (.string r4_4) ∧ w23.cell? ((nb w1).add 5) = some (r4_5.v) ∧ 
  R (.returned (.tuple #[.agg #[.i r4_0, .i r4_1, .i r4_2, .u r4_3, .string r4_4, r4_5.v], .i 5])) w23) (∃ t25_0 : Int, ∃ t25_1 : Int, ∃ t25_2 : Int, ∃ t25_3 : Int, ∃ t25_4 : ByteArray, ∃ t25_5 : Sl, w17.cell? ((nb w).add 0) = some (.i t25_0) ∧ w17.cell? ((nb w).add 1) = some (.i t25_1) ∧ w17.cell? ((nb w).add 2) = some (.i t25_2) ∧ w17.cell? ((nb w).add 3) = some (.u t25_3) ∧ w17.cell? ((nb w).add 4) = some (.string t25_4) ∧ w17.cell? ((nb w).add 5) = some (t25_5.v) ∧ 
  Calls Try.prog n_enthymemeref06_At #[.agg #[.i t25_0, .i t25_1, .i t25_2, .u t25_3, .string t25_4, t25_5.v], .u index1] w17 fun r_ w24 => ∃ t27_0 : Int, ∃ t27_1 : Int, ∃ t27_2 : Int, ∃ t27_3 : Int, ∃ t27_4 : ByteArray, ∃ t27_5 : Sl, r_ = .returned (.agg #[.i t27_0, .i t27_1, .i t27_2, .u t27_3, .string t27_4, t27_5.v]) ∧ 
  stV w24 (nb w1) (.i t27_0) fun w25 => 
  stV w25 ((nb w1).add 1) (.i t27_1) fun w26 => 
  stV w26 ((nb w1).add 2) (.i t27_2) fun w27 => 
  stV w27 ((nb w1).add 3) (.u t27_3) fun w28 => 
  stV w28 ((nb w1).add 4) (.string t27_4) fun w29 => 
  stV w29 ((nb w1).add 5) (t27_5.v) fun w30 => 
  ∃ r4_0 : Int, ∃ r4_1 : Int, ∃ r4_2 : Int, ∃ r4_3 : Int, ∃ r4_4 : ByteArray, ∃ r4_5 : Sl, w30.cell? ((nb w1).add 0) = some (.i r4_0) ∧ w30.cell? ((nb w1).add 1) = some (.i r4_1) ∧ w30.cell? ((nb w1).add 2) = some (.i r4_2) ∧ w30.cell? ((nb w1).add 3) = some (.u r4_3) ∧ w30.cell? ((nb w1).add 4) = some (.string r4_4) ∧ w30.cell? ((nb w1).add 5) = some (r4_5.v) ∧ 
  R (.returned (.tuple #[.agg #[.i r4_0, .i r4_1, .i r4_2, .u r4_3, .string r4_4, r4_5.v], .i 0])) w30)))) : Calls Try.prog n_enthymemeref06_Select #[.agg #[.i a0_0, .i a0_1, .i a0_2, .u a0_3, .string a0_4, a0_5.v], .u index1] w R :=
  calls_of_WP' (R := R) (fn := Try.f24) (c := C0) (args := [.agg #[.i a0_0, .i a0_1, .i a0_2, .u a0_3, .string a0_4, a0_5.v], .u index1]) (by kernel_rfl) (by kernel_rfl) (by kernel_rfl) (sr C0 (show (fun (E : Env) (w : World) => srK Try.prog C0 (fun E w => srK Try.prog C1 (fun E w => srK Try.prog C3 (fun E w => condK (Env.val E (.tmp 10)) (srK Try.prog C5 (fun E w => retVC Try.prog Try.f24 E w (fun v => R (.returned v) w)) E w) (srK Try.prog C7 (fun E w => condK (Env.val E (.tmp 16)) (srK Try.prog C9 (fun E w => retVC Try.prog Try.f24 E w (fun v => R (.returned v) w)) E w) (srK Try.prog C11 (fun E w => condK (Env.val E (.tmp 23)) (srK Try.prog C13 (fun E w => retVC Try.prog Try.f24 E w (fun v => R (.returned v) w)) E w) (srK Try.prog C14 (fun E w => retVC Try.prog Try.f24 E w (fun v => R (.returned v) w)) E w)) E w)) E w)) E w) E w) E w) (envOf 0 [.agg #[.i a0_0, .i a0_1, .i a0_2, .u a0_3, .string a0_4, a0_5.v], .u index1]) w from Eq.mp (by kernel_rfl) h) fun _ _ hK => (sr C1 hK fun _ _ hK => (sq C2 (sr C3 hK fun _ _ hK => (cn C4 hK (fun hK => (sr C5 hK fun _ _ hK => (rt C15 fun a hA => retVC_sound hA hK))) (fun hK => (sk C16 fun a hA => nx hA (sq C6 (sr C7 hK fun _ _ hK => (cn C8 hK (fun hK => (sr C9 hK fun _ _ hK => (rt C17 fun a hA => retVC_sound hA hK))) (fun hK => (sk C18 fun a hA => nx hA (sq C10 (sr C11 hK fun _ _ hK => (cn C12 hK (fun hK => (sr C13 hK fun _ _ hK => (rt C19 fun a hA => retVC_sound hA hK))) (fun hK => (sk C20 fun a hA => nx hA (sr C14 hK fun _ _ hK => (rt C21 fun a hA => retVC_sound hA hK)))))))))))))))))))
theorem okT (a0_0 a0_1 a0_2 a0_3 : Int) (a0_4 : ByteArray) (a0_5 : Sl) (index1 : Int) (w : World) (R : Post) (h : newV [] w fun b2 w1 => 
  newV [b2] w1 fun b4 w2 => 
  callF [b2, b4] Try.prog n_enthymemeref06_Valid #[.agg #[.i a0_0, .i a0_1, .i a0_2, .u a0_3, .string a0_4, a0_5.v]] w2 fun r_ w3 => ∃ t8 : Int, r_ = .returned (.i t8) ∧ 
  sel (t8 != 0) (loc [b2, b4] w3 fun w9 => R (.returned (.tuple #[.agg #[.i 0, .i 0, .i 0, .u 0, .s0, .slice none 0 0], .i t8])) w9) (callF [b2, b4] Try.prog n_enthymemeref06_Array #[.agg #[.i a0_0, .i a0_1, .i a0_2]] w3 fun r_ w10 => ∃ t15 : Bool, r_ = .returned (.bool t15) ∧ 
  sel (!t15) (loc [b2, b4] w10 fun w16 => R (.returned (.tuple #[.agg #[.i 0, .i 0, .i 0, .u 0, .s0, .slice none 0 0], .i 9])) w16) (callF [b2, b4] Try.prog n_enthymemeref06_fits #[.u index1, .i a0_2] w10 fun r_ w17 => ∃ t22 : Bool, r_ = .returned (.bool t22) ∧ 
  sel (!t22) (loc [b2, b4] w17 fun w23 => R (.returned (.tuple #[.agg #[.i 0, .i 0, .i 0, .u 0, .s0, .slice none 0 0], .i 5])) w23) (callF [b2, b4] Try.prog n_enthymemeref06_At #[.agg #[.i a0_0, .i a0_1, .i a0_2, .u a0_3, .string a0_4, a0_5.v], .u index1] w17 fun r_ w24 => ∃ t27_0 : Int, ∃ t27_1 : Int, ∃ t27_2 : Int, ∃ t27_3 : Int, ∃ t27_4 : ByteArray, ∃ t27_5 : Sl, r_ = .returned (.agg #[.i t27_0, .i t27_1, .i t27_2, .u t27_3, .string t27_4, t27_5.v]) ∧ 
  loc [b2, b4] w24 fun w30 => R (.returned (.tuple #[.agg #[.i t27_0, .i t27_1, .i t27_2, .u t27_3, .string t27_4, t27_5.v], .i 0])) w30)))) : Calls Try.prog n_enthymemeref06_Select #[.agg #[.i a0_0, .i a0_1, .i a0_2, .u a0_3, .string a0_4, a0_5.v], .u index1] w R :=
  ok _ _ _ _ _ _ _ w R (LC.nwT (LC.nil _) (Fr.refl _ _) h fun w1 H h => LC.nwT H (Fr.refl _ _) h fun w2 H h => ⟨_, _, _, _, _, a0_5, H.ld 0 0, H.ld 0 1, H.ld 0 2, H.ld 0 3, H.ld 0 4, H.ld 0 5, LC.callT H h fun r_ w3 H h => let ⟨t8, hr, h⟩ := h; ⟨t8, hr, sel_imp h (fun h => LC.stT0 H 1 (Fr.refl _ _) rfl rfl fun w4 H f => LC.stT H 1 1 f rfl rfl fun w5 H f => LC.stT H 1 2 f rfl rfl fun w6 H f => LC.stT H 1 3 f rfl rfl fun w7 H f => LC.stT H 1 4 f rfl rfl fun w8 H f => LC.stT H 1 5 f rfl rfl fun w9 (H : LC w9 [(w.heap.size, [.i a0_0, .i a0_1, .i a0_2, .u a0_3, .string a0_4, a0_5.v], ty_enthymemeref06_Value), (w1.heap.size, [.i 0, .i 0, .i 0, .u 0, .s0, .slice none 0 0], ty_enthymemeref06_Value)]) (f : Fr (· ∈ [w.heap.size, w1.heap.size]) _ w9) => ⟨_, _, _, _, _, ⟨none, 0, 0⟩, H.ld 1 0, H.ld 1 1, H.ld 1 2, H.ld 1 3, H.ld 1 4, H.ld 1 5, have h := h _ f; h⟩) (fun h => ⟨_, _, _, H.ld 0 0, H.ld 0 1, H.ld 0 2, LC.callT H h fun r_ w10 H h => let ⟨t15, hr, h⟩ := h; ⟨t15, hr, sel_imp h (fun h => LC.stT0 H 1 (Fr.refl _ _) rfl rfl fun w11 H f => LC.stT H 1 1 f rfl rfl fun w12 H f => LC.stT H 1 2 f rfl rfl fun w13 H f => LC.stT H 1 3 f rfl rfl fun w14 H f => LC.stT H 1 4 f rfl rfl fun w15 H f => LC.stT H 1 5 f rfl rfl fun w16 (H : LC w16 [(w.heap.size, [.i a0_0, .i a0_1, .i a0_2, .u a0_3, .string a0_4, a0_5.v], ty_enthymemeref06_Value), (w1.heap.size, [.i 0, .i 0, .i 0, .u 0, .s0, .slice none 0 0], ty_enthymemeref06_Value)]) (f : Fr (· ∈ [w.heap.size, w1.heap.size]) _ w16) => ⟨_, _, _, _, _, ⟨none, 0, 0⟩, H.ld 1 0, H.ld 1 1, H.ld 1 2, H.ld 1 3, H.ld 1 4, H.ld 1 5, have h := h _ f; h⟩) (fun h => ⟨_, H.ld 0 2, LC.callT H h fun r_ w17 H h => let ⟨t22, hr, h⟩ := h; ⟨t22, hr, sel_imp h (fun h => LC.stT0 H 1 (Fr.refl _ _) rfl rfl fun w18 H f => LC.stT H 1 1 f rfl rfl fun w19 H f => LC.stT H 1 2 f rfl rfl fun w20 H f => LC.stT H 1 3 f rfl rfl fun w21 H f => LC.stT H 1 4 f rfl rfl fun w22 H f => LC.stT H 1 5 f rfl rfl fun w23 (H : LC w23 [(w.heap.size, [.i a0_0, .i a0_1, .i a0_2, .u a0_3, .string a0_4, a0_5.v], ty_enthymemeref06_Value), (w1.heap.size, [.i 0, .i 0, .i 0, .u 0, .s0, .slice none 0 0], ty_enthymemeref06_Value)]) (f : Fr (· ∈ [w.heap.size, w1.heap.size]) _ w23) => ⟨_, _, _, _, _, ⟨none, 0, 0⟩, H.ld 1 0, H.ld 1 1, H.ld 1 2, H.ld 1 3, H.ld 1 4, H.ld 1 5, have h := h _ f; h⟩) (fun h => ⟨_, _, _, _, _, a0_5, H.ld 0 0, H.ld 0 1, H.ld 0 2, H.ld 0 3, H.ld 0 4, H.ld 0 5, LC.callT H h fun r_ w24 H h => let ⟨t27_0, t27_1, t27_2, t27_3, t27_4, t27_5, hr, h⟩ := h; ⟨t27_0, t27_1, t27_2, t27_3, t27_4, t27_5, hr, LC.stT0 H 1 (Fr.refl _ _) rfl rfl fun w25 H f => LC.stT H 1 1 f rfl rfl fun w26 H f => LC.stT H 1 2 f rfl rfl fun w27 H f => LC.stT H 1 3 f rfl rfl fun w28 H f => LC.stT H 1 4 f rfl rfl fun w29 H f => LC.stT H 1 5 f rfl rfl fun w30 (H : LC w30 [(w.heap.size, [.i a0_0, .i a0_1, .i a0_2, .u a0_3, .string a0_4, a0_5.v], ty_enthymemeref06_Value), (w1.heap.size, [.i t27_0, .i t27_1, .i t27_2, .u t27_3, .string t27_4, t27_5.v], ty_enthymemeref06_Value)]) (f : Fr (· ∈ [w.heap.size, w1.heap.size]) _ w30) => ⟨_, _, _, _, _, t27_5, H.ld 1 0, H.ld 1 1, H.ld 1 2, H.ld 1 3, H.ld 1 4, H.ld 1 5, have h := h _ f; h⟩⟩⟩)⟩⟩)⟩⟩)⟩⟩)
end enthymemeref06_Select
namespace enthymemeref06_Put
noncomputable def C0 : Code := (Try.f48.body).getD .skip
noncomputable def C1:=C0.sn
noncomputable def C2:=C1.sn
noncomputable def C3:=C2.sn
noncomputable def C4:=C3.fs
noncomputable def C5:=C4.fs
noncomputable def C6:=C5.fs
noncomputable def C7:=C3.sn
abbrev Q0 (R : Post) : Exit → Act → World → Prop := (Exit.then (wpx Try.prog (cx 83) C7 (bodyPost Try.prog Try.f48 R)) (bodyPost Try.prog Try.f48 R))
abbrev Q1 (R : Post) : Exit → Act → World → Prop := (Exit.inBlock 0 (Q0 R))
/-- the head of the loop, ref.go:185 -/
def L0 (index1 u2 : Int) (s3 : ByteArray) (a4 t8 out9 : Addr) (k10 : Int) (w : World) (R : Post) : Prop := LP Try.prog (cx 83) C6 (Q1 R) [(1, .u index1), (2, .u u2), (3, .string s3), (4, .pointer (some a4)), (8, .pointer (some t8)), (9, .pointer (some out9)), (10, .i k10)] w
def KE_L0 (E : Env) (w : World) (R : Post) : Prop := W.asInt .u64 (Env.get? E 1) fun index1 => W.asInt .u64 (Env.get? E 2) fun u2 => asStr (Env.get? E 3) fun s3 => asRef (Env.get? E 4) fun a4 => asRef (Env.get? E 8) fun t8 => asRef (Env.get? E 9) fun out9 => W.asInt .i64 (Env.get? E 10) fun k10 => L0 index1 u2 s3 a4 t8 out9 k10 w R
theorem KE_L0_ok (R : Post) (E : Env) (w : World) (h : KE_L0 E w R) : LP Try.prog (cx 83) C6 (Q1 R) E w := by
  obtain ⟨index1, hq1, h_1⟩ := asInt_elim h
  obtain ⟨u2, hq2, h_2⟩ := asInt_elim h_1
  obtain ⟨s3, hq3, h_3⟩ := asStr_elim h_2
  obtain ⟨a4, hq4, h_4⟩ := asRef_elim h_3
  obtain ⟨t8, hq8, h_5⟩ := asRef_elim h_4
  obtain ⟨out9, hq9, h_6⟩ := asRef_elim h_5
  obtain ⟨k10, hq10, h_7⟩ := asInt_elim h_6
  intro a ha
  exact h_7 a (ha.cons hq1 (ha.cons hq2 (ha.cons hq3 (ha.cons hq4 (ha.cons hq8 (ha.cons hq9 (ha.cons hq10 ha.nil)))))))
noncomputable def C8:=C7.sn
noncomputable def C9:=C8.sn
abbrev Q2 (R : Post) : Exit → Act → World → Prop := (bodyPost Try.prog Try.f48 R)
noncomputable def C10:=C9.sn
noncomputable def C11:=C10.sn
/-- ref.go:195 -/
abbrev S4 (a4 t8 out9 : Addr) (k10 : Int) (w : World) (R : Post) : Prop :=
  drV w fun w1 => ∃ t75 : Sl, w1.cell? (out9.add 5) = some (t75.v) ∧ 
  ∃ t77 : Sl, w1.cell? (a4.add 5) = some (t77.v) ∧ 
  (0 : Int) ≤ k10 ∧ k10 ≤ ((t77.n : Nat) : Int) ∧ ∃ (t80 : Sl) (w2 : World), Sem.run Try.prog (Builtin.append_ #[ty_sl_enthymemeref06_Entry, ty_sl_enthymemeref06_Entry] ty_sl_enthymemeref06_Entry #[t75.v, .slice (if t77.c = (Int.toNat k10) then t77.a else t77.a.map (·.add ((Int.toNat k10) * 3))) (t77.n - (Int.toNat k10)) (t77.c - (Int.toNat k10))]) w1 = .ok (t80.v) w2 ∧ w2.cell? (a4.add 5) = some (t77.v) ∧ stV w2 (out9.add 5) (t80.v) fun w3 => 
  ∃ t82_0 : Int, ∃ t82_1 : Int, ∃ t82_2 : Int, ∃ t82_3 : Int, ∃ t82_4 : ByteArray, ∃ t82_5 : Sl, w3.cell? (out9.add 0) = some (.i t82_0) ∧ w3.cell? (out9.add 1) = some (.i t82_1) ∧ w3.cell? (out9.add 2) = some (.i t82_2) ∧ w3.cell? (out9.add 3) = some (.u t82_3) ∧ w3.cell? (out9.add 4) = some (.string t82_4) ∧ w3.cell? (out9.add 5) = some (t82_5.v) ∧ 
  stV w3 t8 (.i t82_0) fun w4 => 
  stV w4 (t8.add 1) (.i t82_1) fun w5 => 
  stV w5 (t8.add 2) (.i t82_2) fun w6 => 
  stV w6 (t8.add 3) (.u t82_3) fun w7 => 
  stV w7 (t8.add 4) (.string t82_4) fun w8 => 
  stV w8 (t8.add 5) (t82_5.v) fun w9 => 
  ∃ r8_0 : Int, ∃ r8_1 : Int, ∃ r8_2 : Int, ∃ r8_3 : Int, ∃ r8_4 : ByteArray, ∃ r8_5 : Sl, w9.cell? (t8.add 0) = some (.i r8_0) ∧ w9.cell? (t8.add 1) = some (.i r8_1) ∧ w9.cell? (t8.add 2) = some (.i r8_2) ∧ w9.cell? (t8.add 3) = some (.u r8_3) ∧ w9.cell? (t8.add 4) = some (.string r8_4) ∧ w9.cell? (t8.add 5) = some (r8_5.v) ∧ 
  R (.returned (.agg #[.i r8_0, .i r8_1, .i r8_2, .u r8_3, .string r8_4, r8_5.v])) w9
def KE_S4 (E : Env) (w : World) (R : Post) : Prop := asRef (Env.get? E 4) fun a4 => asRef (Env.get? E 8) fun t8 => asRef (Env.get? E 9) fun out9 => W.asInt .i64 (Env.get? E 10) fun k10 => S4 a4 t8 out9 k10 w R
theorem KE_S4_ok (R : Post) (E : Env) (w : World) (h : KE_S4 E w R) : WP Try.prog (cx 83) C9 (Q2 R) E w := by
  obtain ⟨a4, hq4, h_1⟩ := asRef_elim h
  obtain ⟨t8, hq8, h_2⟩ := asRef_elim h_1
  obtain ⟨out9, hq9, h_3⟩ := asRef_elim h_2
  obtain ⟨k10, hq10, h_4⟩ := asInt_elim h_3
  exact fun a ha => WP.at (E := [(4, .pointer (some a4)), (8, .pointer (some t8)), (9, .pointer (some out9)), (10, .i k10)]) (sd C9 (K := fun E w => srK Try.prog C10 (fun E w => retVC Try.prog Try.f48 E w (fun v => R (.returned v) w)) E w) (l := [0, 1, 2, 3, 4, 5, 6, 7, 8]) (by kernel_rfl) (Eq.mp (by kernel_rfl) h_4) fun _ _ hK => (sr C10 hK fun _ _ hK => (rt C11 fun a hA => retVC_sound hA hK))) (ha.cons hq4 (ha.cons hq8 (ha.cons hq9 (ha.cons hq10 ha.nil))))
noncomputable def C12:=C8.fs
abbrev Q3 (R : Post) : Exit → Act → World → Prop := (Exit.then (wpx Try.prog (cx 83) C9 (bodyPost Try.prog Try.f48 R)) (bodyPost Try.prog Try.f48 R))
noncomputable def C13:=C12.sn
noncomputable def C14:=C13.fs
noncomputable def C15:=C13.sn
/-- ref.go:192 -/
abbrev S3 (index1 : Int) (a4 t8 out9 : Addr) (k10 : Int) (w : World) (R : Post) : Prop :=
  ∃ t59 : Sl, w.cell? (a4.add 5) = some (t59.v) ∧ 
  sel (decide (k10 < ((t59.n : Nat) : Int))) (∃ t64 : Sl, w.cell? (a4.add 5) = some (t64.v) ∧ 
  (0 : Int) ≤ k10 ∧ k10 < ((t64.n : Nat) : Int) ∧ optP t64.a fun t66_p => ∃ t68 : Int, w.cell? ((t66_p.add (Int.toNat k10 * 3)).add 0) = some (.u t68) ∧ 
  sel (t68 == index1) (S4 a4 t8 out9 (IntKind.wrap .i64 (k10 + 1)) w R) (S4 a4 t8 out9 k10 w R)) (S4 a4 t8 out9 k10 w R)
def KE_S3 (E : Env) (w : World) (R : Post) : Prop := W.asInt .u64 (Env.get? E 1) fun index1 => asRef (Env.get? E 4) fun a4 => asRef (Env.get? E 8) fun t8 => asRef (Env.get? E 9) fun out9 => W.asInt .i64 (Env.get? E 10) fun k10 => S3 index1 a4 t8 out9 k10 w R
theorem KE_S3_ok (R : Post) (E : Env) (w : World) (h : KE_S3 E w R) : WP Try.prog (cx 83) C12 (Q3 R) E w := by
  obtain ⟨index1, hq1, h_1⟩ := asInt_elim h
  obtain ⟨a4, hq4, h_2⟩ := asRef_elim h_1
  obtain ⟨t8, hq8, h_3⟩ := asRef_elim h_2
  obtain ⟨out9, hq9, h_4⟩ := asRef_elim h_3
  obtain ⟨k10, hq10, h_5⟩ := asInt_elim h_4
  exact fun a ha => WP.at (E := [(1, .u index1), (4, .pointer (some a4)), (8, .pointer (some t8)), (9, .pointer (some out9)), (10, .i k10)]) (sr C12 (K := fun E w => condK (Env.val E (.tmp 71)) (rgK Try.prog C14 (fun E w => KE_S4 E w R) E w) (KE_S4 E w R)) (Eq.mp (by kernel_rfl) h_5) fun _ _ hK => (cn C13 hK (fun hK => (rg C14 (by kernel_rfl) hK fun _ _ a hA hK => nx hA (KE_S4_ok R _ _ hK))) (fun hK => (sk C15 fun a hA => nx hA (KE_S4_ok R _ _ hK))))) (ha.cons hq1 (ha.cons hq4 (ha.cons hq8 (ha.cons hq9 (ha.cons hq10 ha.nil)))))
noncomputable def C16:=C7.fs
noncomputable def C17:=C16.sn
noncomputable def C18:=C17.fs
abbrev Q4 (R : Post) : Exit → Act → World → Prop := (Exit.then (wpx Try.prog (cx 83) C8 (bodyPost Try.prog Try.f48 R)) (bodyPost Try.prog Try.f48 R))
/-- ref.go:190 -/
abbrev S2 (index1 u2 : Int) (s3 : ByteArray) (a4 t8 out9 : Addr) (k10 : Int) (w : World) (R : Post) : Prop :=
  ∃ t49 : Sl, w.cell? (out9.add 5) = some (t49.v) ∧ 
  nwV w (.cells #[.u index1, .u u2, .string s3] ty_enthymemeref06_Entry) fun w1 => 
  ∃ (t55 : Sl) (w2 : World), Sem.run Try.prog (Builtin.append_ #[ty_sl_enthymemeref06_Entry, ty_sl_enthymemeref06_Entry] ty_sl_enthymemeref06_Entry #[t49.v, .slice (some (nb w)) 1 1]) w1 = .ok (t55.v) w2 ∧ stV w2 (out9.add 5) (t55.v) fun w3 => 
  S3 index1 a4 t8 out9 k10 w3 R
def KE_S2 (E : Env) (w : World) (R : Post) : Prop := W.asInt .u64 (Env.get? E 1) fun index1 => W.asInt .u64 (Env.get? E 2) fun u2 => asStr (Env.get? E 3) fun s3 => asRef (Env.get? E 4) fun a4 => asRef (Env.get? E 8) fun t8 => asRef (Env.get? E 9) fun out9 => W.asInt .i64 (Env.get? E 10) fun k10 => S2 index1 u2 s3 a4 t8 out9 k10 w R
theorem KE_S2_ok (R : Post) (E : Env) (w : World) (h : KE_S2 E w R) : WP Try.prog (cx 83) C18 (Q4 R) E w := by
  obtain ⟨index1, hq1, h_1⟩ := asInt_elim h
  obtain ⟨u2, hq2, h_2⟩ := asInt_elim h_1
  obtain ⟨s3, hq3, h_3⟩ := asStr_elim h_2
  obtain ⟨a4, hq4, h_4⟩ := asRef_elim h_3
  obtain ⟨t8, hq8, h_5⟩ := asRef_elim h_4
  obtain ⟨out9, hq9, h_6⟩ := asRef_elim h_5
  obtain ⟨k10, hq10, h_7⟩ := asInt_elim h_6
  exact fun a ha => WP.at (E := [(1, .u index1), (2, .u u2), (3, .string s3), (4, .pointer (some a4)), (8, .pointer (some t8)), (9, .pointer (some out9)), (10, .i k10)]) (rg C18 (K := fun E w => KE_S3 E w R) (by kernel_rfl) (Eq.mp (by kernel_rfl) h_7) fun _ _ a hA hK => nx hA (sq C8 (KE_S3_ok R _ _ hK))) (ha.cons hq1 (ha.cons hq2 (ha.cons hq3 (ha.cons hq4 (ha.cons hq8 (ha.cons hq9 (ha.cons hq10 ha.nil)))))))
noncomputable def C19:=C17.sn
/-- ref.go:189 -/
abbrev S1 (index1 u2 : Int) (s3 : ByteArray) (a4 t8 out9 : Addr) (k10 : Int) (w : World) (R : Post) : Prop :=
  sel (decide (u2 > 0)) (S2 index1 u2 s3 a4 t8 out9 k10 w R) (sel (decide (((s3.size : Nat) : Int) > 0)) (S2 index1 u2 s3 a4 t8 out9 k10 w R) (S3 index1 a4 t8 out9 k10 w R))
def KE_S1 (E : Env) (w : World) (R : Post) : Prop := W.asInt .u64 (Env.get? E 1) fun index1 => W.asInt .u64 (Env.get? E 2) fun u2 => asStr (Env.get? E 3) fun s3 => asRef (Env.get? E 4) fun a4 => asRef (Env.get? E 8) fun t8 => asRef (Env.get? E 9) fun out9 => W.asInt .i64 (Env.get? E 10) fun k10 => S1 index1 u2 s3 a4 t8 out9 k10 w R
theorem KE_S1_ok (R : Post) (E : Env) (w : World) (h : KE_S1 E w R) : WP Try.prog (cx 83) C16 (Q4 R) E w := by
  obtain ⟨index1, hq1, h_1⟩ := asInt_elim h
  obtain ⟨u2, hq2, h_2⟩ := asInt_elim h_1
  obtain ⟨s3, hq3, h_3⟩ := asStr_elim h_2
  obtain ⟨a4, hq4, h_4⟩ := asRef_elim h_3
  obtain ⟨t8, hq8, h_5⟩ := asRef_elim h_4
  obtain ⟨out9, hq9, h_6⟩ := asRef_elim h_5
  obtain ⟨k10, hq10, h_7⟩ := asInt_elim h_6
  exact fun a ha => WP.at (E := [(1, .u index1), (2, .u u2), (3, .string s3), (4, .pointer (some a4)), (8, .pointer (some t8)), (9, .pointer (some out9)), (10, .i k10)]) (sr C16 (K := fun E w => condK (Env.val E (.tmp 47)) (KE_S2 E w R) (KE_S3 E w R)) (Eq.mp (by kernel_rfl) h_7) fun _ _ hK => (cn C17 hK (fun hK => (KE_S2_ok R _ _ hK)) (fun hK => (sk C19 fun a hA => nx hA (sq C8 (KE_S3_ok R _ _ hK)))))) (ha.cons hq1 (ha.cons hq2 (ha.cons hq3 (ha.cons hq4 (ha.cons hq8 (ha.cons hq9 (ha.cons hq10 ha.nil)))))))
noncomputable def C20:=C6.fs
noncomputable def C21:=C6.sn
noncomputable def C22:=C21.fs
noncomputable def C23:=C22.sn
noncomputable def C24:=C20.sn
noncomputable def C25:=C24.fs
noncomputable def C26:=C24.sn
theorem L0_step (index1 u2 : Int) (s3 : ByteArray) (a4 t8 out9 : Addr) (k10 : Int) (w : World) (R : Post) (h : ∃ t16 : Sl, w.cell? (a4.add 5) = some (t16.v) ∧ 
  sel (decide (k10 < ((t16.n : Nat) : Int))) (∃ t21 : Sl, w.cell? (a4.add 5) = some (t21.v) ∧ 
  (0 : Int) ≤ k10 ∧ k10 < ((t21.n : Nat) : Int) ∧ optP t21.a fun t23_p => ∃ t25 : Int, w.cell? ((t23_p.add (Int.toNat k10 * 3)).add 0) = some (.u t25) ∧ 
  sel (decide (t25 < index1)) (drV w fun w10 => ∃ t30 : Sl, w10.cell? (out9.add 5) = some (t30.v) ∧ 
  ∃ t32 : Sl, w10.cell? (a4.add 5) = some (t32.v) ∧ 
  (0 : Int) ≤ k10 ∧ k10 < ((t32.n : Nat) : Int) ∧ optP t32.a fun t34_p => ∃ t35_0 : Int, ∃ t35_1 : Int, ∃ t35_2 : ByteArray, w10.cell? ((t34_p.add (Int.toNat k10 * 3)).add 0) = some (.u t35_0) ∧ w10.cell? ((t34_p.add (Int.toNat k10 * 3)).add 1) = some (.u t35_1) ∧ w10.cell? ((t34_p.add (Int.toNat k10 * 3)).add 2) = some (.string t35_2) ∧ 
  nwV w10 (.cells #[.u t35_0, .u t35_1, .string t35_2] ty_enthymemeref06_Entry) fun w11 => 
  w11.cell? (a4.add 5) = some (t32.v) ∧ w11.cell? (out9.add 5) = some (t30.v) ∧ ∃ (t37 : Sl) (w12 : World), Sem.run Try.prog (Builtin.append_ #[ty_sl_enthymemeref06_Entry, ty_sl_enthymemeref06_Entry] ty_sl_enthymemeref06_Entry #[t30.v, .slice (some (nb w10)) 1 1]) w11 = .ok (t37.v) w12 ∧ w12.cell? (a4.add 5) = some (t32.v) ∧ stV w12 (out9.add 5) (t37.v) fun w13 => 
  L0 index1 u2 s3 a4 t8 out9 (IntKind.wrap .i64 (k10 + 1)) w13 R) (S1 index1 u2 s3 a4 t8 out9 k10 w R)) (S1 index1 u2 s3 a4 t8 out9 k10 w R)) : L0 index1 u2 s3 a4 t8 out9 k10 w R :=
  LP.step (n := (cx 83)) (c := C6) (E := [(1, .u index1), (2, .u u2), (3, .string s3), (4, .pointer (some a4)), (8, .pointer (some t8)), (9, .pointer (some out9)), (10, .i k10)]) (w := w) (sq C6 (sr C20 (show (fun (E : Env) (w : World) => srK Try.prog C20 (fun E w => condK (Env.val E (.tmp 28)) (sdK Try.prog C22 [0, 1, 2, 3, 4, 5, 6, 7, 8, 9, 10] (fun E w => rgK Try.prog C23 (fun E w => KE_L0 E w R) E w) E w) (KE_S1 E w R)) E w) [(1, .u index1), (2, .u u2), (3, .string s3), (4, .pointer (some a4)), (8, .pointer (some t8)), (9, .pointer (some out9)), (10, .i k10)] w from Eq.mp (by kernel_rfl) h) fun _ _ hK => (cn C24 hK (fun hK => (sk C25 fun a hA => nx hA (bk C21 1 (by kernel_rfl) (sd C22 (by kernel_rfl) hK fun _ _ hK => (rg C23 (by kernel_rfl) hK fun _ _ a hA hK => KE_L0_ok R _ _ hK a hA))))) (fun hK => (xt C26 0 (by kernel_rfl) fun a hA => nx hA (sq C7 (KE_S1_ok R _ _ hK)))))))
/-- enthymeme/enthymemeref06.Put -/
theorem ok (a0_0 a0_1 a0_2 a0_3 : Int) (a0_4 : ByteArray) (a0_5 : Sl) (index1 u2 : Int) (s3 : ByteArray) (w : World) (R : Post) (h : nwV w (.cells #[.i a0_0, .i a0_1, .i a0_2, .u a0_3, .string a0_4, a0_5.v] ty_enthymemeref06_Value) fun w1 => 
  nwV w1 (.cells #[.i 0, .i 0, .i 0, .u 0, .s0, .slice none 0 0] ty_enthymemeref06_Value) fun w2 => 
  ∃ t12_0 : Int, ∃ t12_1 : Int, ∃ t12_2 : Int, w2.cell? (((nb w).add 0).add 0) = some (.i t12_0) ∧ w2.cell? (((nb w).add 0).add 1) = some (.i t12_1) ∧ w2.cell? (((nb w).add 0).add 2) = some (.i t12_2) ∧ 
  nwV w2 (.cells #[.i 0, .i 0, .i 0, .u 0, .s0, .slice none 0 0] ty_enthymemeref06_Value) fun w3 => 
  stV w3 (nb w2) (.i t12_0) fun w4 => 
  stV w4 ((nb w2).add 1) (.i t12_1) fun w5 => 
  stV w5 ((nb w2).add 2) (.i t12_2) fun w6 => 
  stV w6 ((nb w2).add 3) (.u 0) fun w7 => 
  stV w7 ((nb w2).add 4) (.s0) fun w8 => 
  stV w8 ((nb w2).add 5) (.slice none 0 0) fun w9 => 
  L0 index1 u2 s3 (nb w) (nb w1) (nb w2) 0 w9 R) : Calls Try.prog n_enthymemeref06_Put #[.agg #[.i a0_0, .i a0_1, .i a0_2, .u a0_3, .string a0_4, a0_5.v], .u index1, .u u2, .string s3] w R :=
  calls_of_WP' (R := R) (fn := Try.f48) (c := C0) (args := [.agg #[.i a0_0, .i a0_1, .i a0_2, .u a0_3, .string a0_4, a0_5.v], .u index1, .u u2, .string s3]) (by kernel_rfl) (by kernel_rfl) (by kernel_rfl) (sr C0 (show (fun (E : Env) (w : World) => srK Try.prog C0 (fun E w => srK Try.prog C1 (fun E w => srK Try.prog C2 (fun E w => KE_L0 E w R) E w) E w) E w) (envOf 0 [.agg #[.i a0_0, .i a0_1, .i a0_2, .u a0_3, .string a0_4, a0_5.v], .u index1, .u u2, .string s3]) w from Eq.mp (by kernel_rfl) h) fun _ _ hK => (sr C1 hK fun _ _ hK => (sr C2 hK fun _ _ hK => (sq C3 (bk C4 0 (by kernel_rfl) (lp C5 (by kernel_rfl) (KE_L0_ok R _ _ hK)))))))
def L0T (index1 u2 : Int) (s3 : ByteArray) (a4 : Nat) (a4_0 a4_1 a4_2 a4_3 : Int) (a4_4 : ByteArray) (a4_5 : Sl) (t8 : Nat) (t8_0 t8_1 t8_2 t8_3 : Int) (t8_4 : ByteArray) (t8_5 : Sl) (out9 : Nat) (out9_0 out9_1 out9_2 out9_3 : Int) (out9_4 : ByteArray) (out9_5 : Sl) (k10 : Int) (w : World) (R : Post) : Prop := LC w [(a4, [.i a4_0, .i a4_1, .i a4_2, .u a4_3, .string a4_4, a4_5.v], ty_enthymemeref06_Value), (t8, [.i t8_0, .i t8_1, .i t8_2, .u t8_3, .string t8_4, t8_5.v], ty_enthymemeref06_Value), (out9, [.i out9_0, .i out9_1, .i out9_2, .u out9_3, .string out9_4, out9_5.v], ty_enthymemeref06_Value)] → L0 index1 u2 s3 (at0 a4) (at0 t8) (at0 out9) k10 w R
abbrev S4T (a4 : Nat) (a4_0 a4_1 a4_2 a4_3 : Int) (a4_4 : ByteArray) (a4_5 : Sl) (t8 : Nat) (t8_0 t8_1 t8_2 t8_3 : Int) (t8_4 : ByteArray) (t8_5 : Sl) (out9 : Nat) (out9_0 out9_1 out9_2 out9_3 : Int) (out9_4 : ByteArray) (out9_5 : Sl) (k10 : Int) (w : World) (R : Post) : Prop :=
  (0 : Int) ≤ k10 ∧ k10 ≤ ((a4_5.n : Nat) : Int) ∧ loc [a4, t8, out9] w fun w1 => ∃ (t80 : Sl) (w2 : World), Sem.run Try.prog (Builtin.append_ #[ty_sl_enthymemeref06_Entry, ty_sl_enthymemeref06_Entry] ty_sl_enthymemeref06_Entry #[out9_5.v, .slice (if a4_5.c = (Int.toNat k10) then a4_5.a else a4_5.a.map (·.add ((Int.toNat k10) * 3))) (a4_5.n - (Int.toNat k10)) (a4_5.c - (Int.toNat k10))]) w1 = .ok (t80.v) w2 ∧ kept [a4, t8, out9] w1 w2 ∧ loc [a4, t8, out9] w2 fun w9 => R (.returned (.agg #[.i out9_0, .i out9_1, .i out9_2, .u out9_3, .string out9_4, t80.v])) w9
theorem S4T_ok {a4 : Nat} {a4_0 a4_1 a4_2 a4_3 : Int} {a4_4 : ByteArray} {a4_5 : Sl} {t8 : Nat} {t8_0 t8_1 t8_2 t8_3 : Int} {t8_4 : ByteArray} {t8_5 : Sl} {out9 : Nat} {out9_0 out9_1 out9_2 out9_3 : Int} {out9_4 : ByteArray} {out9_5 : Sl} {k10 : Int} {w : World} {R : Post} (h : S4T a4 a4_0 a4_1 a4_2 a4_3 a4_4 a4_5 t8 t8_0 t8_1 t8_2 t8_3 t8_4 t8_5 out9 out9_0 out9_1 out9_2 out9_3 out9_4 out9_5 k10 w R) (H : LC w [(a4, [.i a4_0, .i a4_1, .i a4_2, .u a4_3, .string a4_4, a4_5.v], ty_enthymemeref06_Value), (t8, [.i t8_0, .i t8_1, .i t8_2, .u t8_3, .string t8_4, t8_5.v], ty_enthymemeref06_Value), (out9, [.i out9_0, .i out9_1, .i out9_2, .u out9_3, .string out9_4, out9_5.v], ty_enthymemeref06_Value)]) : S4 (at0 a4) (at0 t8) (at0 out9) k10 w R := LC.drT H (Fr.refl _ _) fun w1 H f => ⟨out9_5, H.ld 2 5, ⟨a4_5, H.ld 0 5, ⟨h.1, h.2.1, have h := h.2.2; have h := h _ f; let ⟨t80, w2, he, hk, h⟩ := h; have H := LC.keptT H hk; ⟨t80, w2, he, ⟨H.ld 0 5, LC.stT H 2 5 (Fr.refl _ _) rfl rfl fun w3 (H : LC w3 [(a4, [.i a4_0, .i a4_1, .i a4_2, .u a4_3, .string a4_4, a4_5.v], ty_enthymemeref06_Value), (t8, [.i t8_0, .i t8_1, .i t8_2, .u t8_3, .string t8_4, t8_5.v], ty_enthymemeref06_Value), (out9, [.i out9_0, .i out9_1, .i out9_2, .u out9_3, .string out9_4, t80.v], ty_enthymemeref06_Value)]) (f : Fr (· ∈ [a4, t8, out9]) _ w3) => ⟨_, _, _, _, _, t80, H.ld 2 0, H.ld 2 1, H.ld 2 2, H.ld 2 3, H.ld 2 4, H.ld 2 5, LC.stT0 H 1 f rfl rfl fun w4 H f => LC.stT H 1 1 f rfl rfl fun w5 H f => LC.stT H 1 2 f rfl rfl fun w6 H f => LC.stT H 1 3 f rfl rfl fun w7 H f => LC.stT H 1 4 f rfl rfl fun w8 H f => LC.stT H 1 5 f rfl rfl fun w9 (H : LC w9 [(a4, [.i a4_0, .i a4_1, .i a4_2, .u a4_3, .string a4_4, a4_5.v], ty_enthymemeref06_Value), (t8, [.i out9_0, .i out9_1, .i out9_2, .u out9_3, .string out9_4, t80.v], ty_enthymemeref06_Value), (out9, [.i out9_0, .i out9_1, .i out9_2, .u out9_3, .string out9_4, t80.v], ty_enthymemeref06_Value)]) (f : Fr (· ∈ [a4, t8, out9]) _ w9) => ⟨_, _, _, _, _, t80, H.ld 1 0, H.ld 1 1, H.ld 1 2, H.ld 1 3, H.ld 1 4, H.ld 1 5, have h := h _ f; h⟩⟩⟩⟩⟩⟩⟩
abbrev S3T (index1 : Int) (a4 : Nat) (a4_0 a4_1 a4_2 a4_3 : Int) (a4_4 : ByteArray) (a4_5 : Sl) (t8 : Nat) (t8_0 t8_1 t8_2 t8_3 : Int) (t8_4 : ByteArray) (t8_5 : Sl) (out9 : Nat) (out9_0 out9_1 out9_2 out9_3 : Int) (out9_4 : ByteArray) (out9_5 : Sl) (k10 : Int) (w : World) (R : Post) : Prop :=
  sel (decide (k10 < ((a4_5.n : Nat) : Int))) ((0 : Int) ≤ k10 ∧ k10 < ((a4_5.n : Nat) : Int) ∧ optP a4_5.a fun t66_p => ∃ t68 : Int, w.cell? ((t66_p.add (Int.toNat k10 * 3)).add 0) = some (.u t68) ∧ 
  sel (t68 == index1) (S4T a4 a4_0 a4_1 a4_2 a4_3 a4_4 a4_5 t8 t8_0 t8_1 t8_2 t8_3 t8_4 t8_5 out9 out9_0 out9_1 out9_2 out9_3 out9_4 out9_5 (IntKind.wrap .i64 (k10 + 1)) w R) (S4T a4 a4_0 a4_1 a4_2 a4_3 a4_4 a4_5 t8 t8_0 t8_1 t8_2 t8_3 t8_4 t8_5 out9 out9_0 out9_1 out9_2 out9_3 out9_4 out9_5 k10 w R)) (S4T a4 a4_0 a4_1 a4_2 a4_3 a4_4 a4_5 t8 t8_0 t8_1 t8_2 t8_3 t8_4 t8_5 out9 out9_0 out9_1 out9_2 out9_3 out9_4 out9_5 k10 w R)
theorem S3T_ok {index1 : Int} {a4 : Nat} {a4_0 a4_1 a4_2 a4_3 : Int} {a4_4 : ByteArray} {a4_5 : Sl} {t8 : Nat} {t8_0 t8_1 t8_2 t8_3 : Int} {t8_4 : ByteArray} {t8_5 : Sl} {out9 : Nat} {out9_0 out9_1 out9_2 out9_3 : Int} {out9_4 : ByteArray} {out9_5 : Sl} {k10 : Int} {w : World} {R : Post} (h : S3T index1 a4 a4_0 a4_1 a4_2 a4_3 a4_4 a4_5 t8 t8_0 t8_1 t8_2 t8_3 t8_4 t8_5 out9 out9_0 out9_1 out9_2 out9_3 out9_4 out9_5 k10 w R) (H : LC w [(a4, [.i a4_0, .i a4_1, .i a4_2, .u a4_3, .string a4_4, a4_5.v], ty_enthymemeref06_Value), (t8, [.i t8_0, .i t8_1, .i t8_2, .u t8_3, .string t8_4, t8_5.v], ty_enthymemeref06_Value), (out9, [.i out9_0, .i out9_1, .i out9_2, .u out9_3, .string out9_4, out9_5.v], ty_enthymemeref06_Value)]) : S3 index1 (at0 a4) (at0 t8) (at0 out9) k10 w R := ⟨a4_5, H.ld 0 5, sel_imp h (fun h => ⟨a4_5, H.ld 0 5, ⟨h.1, h.2.1, have h := h.2.2; optP_imp h fun t66_p h => let ⟨t68, hc0, h⟩ := h; ⟨t68, hc0, sel_imp h (fun h => S4T_ok h H) (fun h => S4T_ok h H)⟩⟩⟩) (fun h => S4T_ok h H)⟩
abbrev S2T (index1 u2 : Int) (s3 : ByteArray) (a4 : Nat) (a4_0 a4_1 a4_2 a4_3 : Int) (a4_4 : ByteArray) (a4_5 : Sl) (t8 : Nat) (t8_0 t8_1 t8_2 t8_3 : Int) (t8_4 : ByteArray) (t8_5 : Sl) (out9 : Nat) (out9_0 out9_1 out9_2 out9_3 : Int) (out9_4 : ByteArray) (out9_5 : Sl) (k10 : Int) (w : World) (R : Post) : Prop :=
  nwV w (.cells #[.u index1, .u u2, .string s3] ty_enthymemeref06_Entry) fun w1 => 
  ∃ (t55 : Sl) (w2 : World), Sem.run Try.prog (Builtin.append_ #[ty_sl_enthymemeref06_Entry, ty_sl_enthymemeref06_Entry] ty_sl_enthymemeref06_Entry #[out9_5.v, .slice (some (nb w)) 1 1]) w1 = .ok (t55.v) w2 ∧ kept [a4, t8, out9] w1 w2 ∧ loc [a4, t8, out9] w2 fun w3 => S3T index1 a4 a4_0 a4_1 a4_2 a4_3 a4_4 a4_5 t8 t8_0 t8_1 t8_2 t8_3 t8_4 t8_5 out9 out9_0 out9_1 out9_2 out9_3 out9_4 t55 k10 w3 R
theorem S2T_ok {index1 u2 : Int} {s3 : ByteArray} {a4 : Nat} {a4_0 a4_1 a4_2 a4_3 : Int} {a4_4 : ByteArray} {a4_5 : Sl} {t8 : Nat} {t8_0 t8_1 t8_2 t8_3 : Int} {t8_4 : ByteArray} {t8_5 : Sl} {out9 : Nat} {out9_0 out9_1 out9_2 out9_3 : Int} {out9_4 : ByteArray} {out9_5 : Sl} {k10 : Int} {w : World} {R : Post} (h : S2T index1 u2 s3 a4 a4_0 a4_1 a4_2 a4_3 a4_4 a4_5 t8 t8_0 t8_1 t8_2 t8_3 t8_4 t8_5 out9 out9_0 out9_1 out9_2 out9_3 out9_4 out9_5 k10 w R) (H : LC w [(a4, [.i a4_0, .i a4_1, .i a4_2, .u a4_3, .string a4_4, a4_5.v], ty_enthymemeref06_Value), (t8, [.i t8_0, .i t8_1, .i t8_2, .u t8_3, .string t8_4, t8_5.v], ty_enthymemeref06_Value), (out9, [.i out9_0, .i out9_1, .i out9_2, .u out9_3, .string out9_4, out9_5.v], ty_enthymemeref06_Value)]) : S2 index1 u2 s3 (at0 a4) (at0 t8) (at0 out9) k10 w R := ⟨out9_5, H.ld 2 5, LC.nwN H h fun w1 H h => let ⟨t55, w2, he, hk, h⟩ := h; have H := LC.keptT H hk; ⟨t55, w2, he, LC.stT H 2 5 (Fr.refl _ _) rfl rfl fun w3 (H : LC w3 [(a4, [.i a4_0, .i a4_1, .i a4_2, .u a4_3, .string a4_4, a4_5.v], ty_enthymemeref06_Value), (t8, [.i t8_0, .i t8_1, .i t8_2, .u t8_3, .string t8_4, t8_5.v], ty_enthymemeref06_Value), (out9, [.i out9_0, .i out9_1, .i out9_2, .u out9_3, .string out9_4, t55.v], ty_enthymemeref06_Value)]) (f : Fr (· ∈ [a4, t8, out9]) _ w3) => have h := h _ f; S3T_ok h H⟩⟩
abbrev S1T (index1 u2 : Int) (s3 : ByteArray) (a4 : Nat) (a4_0 a4_1 a4_2 a4_3 : Int) (a4_4 : ByteArray) (a4_5 : Sl) (t8 : Nat) (t8_0 t8_1 t8_2 t8_3 : Int) (t8_4 : ByteArray) (t8_5 : Sl) (out9 : Nat) (out9_0 out9_1 out9_2 out9_3 : Int) (out9_4 : ByteArray) (out9_5 : Sl) (k10 : Int) (w : World) (R : Post) : Prop :=
  sel (decide (u2 > 0)) (S2T index1 u2 s3 a4 a4_0 a4_1 a4_2 a4_3 a4_4 a4_5 t8 t8_0 t8_1 t8_2 t8_3 t8_4 t8_5 out9 out9_0 out9_1 out9_2 out9_3 out9_4 out9_5 k10 w R) (sel (decide (((s3.size : Nat) : Int) > 0)) (S2T index1 u2 s3 a4 a4_0 a4_1 a4_2 a4_3 a4_4 a4_5 t8 t8_0 t8_1 t8_2 t8_3 t8_4 t8_5 out9 out9_0 out9_1 out9_2 out9_3 out9_4 out9_5 k10 w R) (S3T index1 a4 a4_0 a4_1 a4_2 a4_3 a4_4 a4_5 t8 t8_0 t8_1 t8_2 t8_3 t8_4 t8_5 out9 out9_0 out9_1 out9_2 out9_3 out9_4 out9_5 k10 w R))
theorem S1T_ok {index1 u2 : Int} {s3 : ByteArray} {a4 : Nat} {a4_0 a4_1 a4_2 a4_3 : Int} {a4_4 : ByteArray} {a4_5 : Sl} {t8 : Nat} {t8_0 t8_1 t8_2 t8_3 : Int} {t8_4 : ByteArray} {t8_5 : Sl} {out9 : Nat} {out9_0 out9_1 out9_2 out9_3 : Int} {out9_4 : ByteArray} {out9_5 : Sl} {k10 : Int} {w : World} {R : Post} (h : S1T index1 u2 s3 a4 a4_0 a4_1 a4_2 a4_3 a4_4 a4_5 t8 t8_0 t8_1 t8_2 t8_3 t8_4 t8_5 out9 out9_0 out9_1 out9_2 out9_3 out9_4 out9_5 k10 w R) (H : LC w [(a4, [.i a4_0, .i a4_1, .i a4_2, .u a4_3, .string a4_4, a4_5.v], ty_enthymemeref06_Value), (t8, [.i t8_0, .i t8_1, .i t8_2, .u t8_3, .string t8_4, t8_5.v], ty_enthymemeref06_Value), (out9, [.i out9_0, .i out9_1, .i out9_2, .u out9_3, .string out9_4, out9_5.v], ty_enthymemeref06_Value)]) : S1 index1 u2 s3 (at0 a4) (at0 t8) (at0 out9) k10 w R := sel_imp h (fun h => S2T_ok h H) (fun h => sel_imp h (fun h => S2T_ok h H) (fun h => S3T_ok h H))
theorem L0T_step (index1 u2 : Int) (s3 : ByteArray) (a4 : Nat) (a4_0 a4_1 a4_2 a4_3 : Int) (a4_4 : ByteArray) (a4_5 : Sl) (t8 : Nat) (t8_0 t8_1 t8_2 t8_3 : Int) (t8_4 : ByteArray) (t8_5 : Sl) (out9 : Nat) (out9_0 out9_1 out9_2 out9_3 : Int) (out9_4 : ByteArray) (out9_5 : Sl) (k10 : Int) (w : World) (R : Post) (h : sel (decide (k10 < ((a4_5.n : Nat) : Int))) ((0 : Int) ≤ k10 ∧ k10 < ((a4_5.n : Nat) : Int) ∧ optP a4_5.a fun t23_p => ∃ t25 : Int, w.cell? ((t23_p.add (Int.toNat k10 * 3)).add 0) = some (.u t25) ∧ 
  sel (decide (t25 < index1)) ((0 : Int) ≤ k10 ∧ k10 < ((a4_5.n : Nat) : Int) ∧ optP a4_5.a fun t34_p => loc [a4, t8, out9] w fun w10 => ∃ t35_0 : Int, ∃ t35_1 : Int, ∃ t35_2 : ByteArray, w10.cell? ((t34_p.add (Int.toNat k10 * 3)).add 0) = some (.u t35_0) ∧ w10.cell? ((t34_p.add (Int.toNat k10 * 3)).add 1) = some (.u t35_1) ∧ w10.cell? ((t34_p.add (Int.toNat k10 * 3)).add 2) = some (.string t35_2) ∧ 
  nwV w10 (.cells #[.u t35_0, .u t35_1, .string t35_2] ty_enthymemeref06_Entry) fun w11 => 
  ∃ (t37 : Sl) (w12 : World), Sem.run Try.prog (Builtin.append_ #[ty_sl_enthymemeref06_Entry, ty_sl_enthymemeref06_Entry] ty_sl_enthymemeref06_Entry #[out9_5.v, .slice (some (nb w10)) 1 1]) w11 = .ok (t37.v) w12 ∧ kept [a4, t8, out9] w11 w12 ∧ loc [a4, t8, out9] w12 fun w13 => L0T index1 u2 s3 a4 a4_0 a4_1 a4_2 a4_3 a4_4 a4_5 t8 t8_0 t8_1 t8_2 t8_3 t8_4 t8_5 out9 out9_0 out9_1 out9_2 out9_3 out9_4 t37 (IntKind.wrap .i64 (k10 + 1)) w13 R) (S1T index1 u2 s3 a4 a4_0 a4_1 a4_2 a4_3 a4_4 a4_5 t8 t8_0 t8_1 t8_2 t8_3 t8_4 t8_5 out9 out9_0 out9_1 out9_2 out9_3 out9_4 out9_5 k10 w R)) (S1T index1 u2 s3 a4 a4_0 a4_1 a4_2 a4_3 a4_4 a4_5 t8 t8_0 t8_1 t8_2 t8_3 t8_4 t8_5 out9 out9_0 out9_1 out9_2 out9_3 out9_4 out9_5 k10 w R)) : L0T index1 u2 s3 a4 a4_0 a4_1 a4_2 a4_3 a4_4 a4_5 t8 t8_0 t8_1 t8_2 t8_3 t8_4 t8_5 out9 out9_0 out9_1 out9_2 out9_3 out9_4 out9_5 k10 w R := fun H => L0_step _ _ _ _ _ _ _ w R (⟨a4_5, H.ld 0 5, sel_imp h (fun h => ⟨a4_5, H.ld 0 5, ⟨h.1, h.2.1, have h := h.2.2; optP_imp h fun t23_p h => let ⟨t25, hc0, h⟩ := h; ⟨t25, hc0, sel_imp h (fun h => LC.drT H (Fr.refl _ _) fun w10 H f => ⟨out9_5, H.ld 2 5, ⟨a4_5, H.ld 0 5, ⟨h.1, h.2.1, have h := h.2.2; optP_imp h fun t34_p h => have h := h _ f; let ⟨t35_0, t35_1, t35_2, hc0, hc1, hc2, h⟩ := h; ⟨t35_0, t35_1, t35_2, hc0, hc1, hc2, LC.nwN H h fun w11 H h => ⟨H.ld 0 5, H.ld 2 5, let ⟨t37, w12, he, hk, h⟩ := h; have H := LC.keptT H hk; ⟨t37, w12, he, ⟨H.ld 0 5, LC.stT H 2 5 (Fr.refl _ _) rfl rfl fun w13 (H : LC w13 [(a4, [.i a4_0, .i a4_1, .i a4_2, .u a4_3, .string a4_4, a4_5.v], ty_enthymemeref06_Value), (t8, [.i t8_0, .i t8_1, .i t8_2, .u t8_3, .string t8_4, t8_5.v], ty_enthymemeref06_Value), (out9, [.i out9_0, .i out9_1, .i out9_2, .u out9_3, .string out9_4, t37.v], ty_enthymemeref06_Value)]) (f : Fr (· ∈ [a4, t8, out9]) _ w13) => have h := h _ f; h H⟩⟩⟩⟩⟩⟩⟩) (fun h => S1T_ok h H)⟩⟩⟩) (fun h => S1T_ok h H)⟩)
theorem okT (a0_0 a0_1 a0_2 a0_3 : Int) (a0_4 : ByteArray) (a0_5 : Sl) (index1 u2 : Int) (s3 : ByteArray) (w : World) (R : Post) (h : newV [] w fun b4 w1 => 
  newV [b4] w1 fun b8 w2 => 
  newV [b4, b8] w2 fun b9 w3 => 
  loc [b4, b8, b9] w3 fun w9 => L0T index1 u2 s3 b4 a0_0 a0_1 a0_2 a0_3 a0_4 a0_5 b8 0 0 0 0 (ByteArray.mk #[]) ⟨none, 0, 0⟩ b9 a0_0 a0_1 a0_2 0 (ByteArray.mk #[]) ⟨none, 0, 0⟩ 0 w9 R) : Calls Try.prog n_enthymemeref06_Put #[.agg #[.i a0_0, .i a0_1, .i a0_2, .u a0_3, .string a0_4, a0_5.v], .u index1, .u u2, .string s3] w R :=
  ok _ _ _ _ _ _ _ _ _ w R (LC.nwT (LC.nil _) (Fr.refl _ _) h fun w1 H h => LC.nwT H (Fr.refl _ _) h fun w2 H h => ⟨_, _, _, H.ld 0 0, H.ld 0 1, H.ld 0 2, LC.nwT H (Fr.refl _ _) h fun w3 (H : LC w3 [(w.heap.size, [.i a0_0, .i a0_1, .i a0_2, .u a0_3, .string a0_4, a0_5.v], ty_enthymemeref06_Value), (w1.heap.size, [.i 0, .i 0, .i 0, .u 0, .s0, .slice none 0 0], ty_enthymemeref06_Value), (w2.heap.size, [.i 0, .i 0, .i 0, .u 0, .s0, .slice none 0 0], ty_enthymemeref06_Value)]) h => LC.stT0 H 2 (Fr.refl _ _) rfl rfl fun w4 H f => LC.stT H 2 1 f rfl rfl fun w5 H f => LC.stT H 2 2 f rfl rfl fun w6 H f => LC.stT H 2 3 f rfl rfl fun w7 H f => LC.stT H 2 4 f rfl rfl fun w8 H f => LC.stT H 2 5 f rfl rfl fun w9 (H : LC w9 [(w.heap.size, [.i a0_0, .i a0_1, .i a0_2, .u a0_3, .string a0_4, a0_5.v], ty_enthymemeref06_Value), (w1.heap.size, [.i 0, .i 0, .i 0, .u 0, .s0, .slice none 0 0], ty_enthymemeref06_Value), (w2.heap.size, [.i a0_0, .i a0_1, .i a0_2, .u 0, .s0, .slice none 0 0], ty_enthymemeref06_Value)]) (f : Fr (· ∈ [w.heap.size, w1.heap.size, w2.heap.size]) _ w9) => have h := h _ f; h H⟩)
end enthymemeref06_Put
namespace enthymemeref06_Store
noncomputable def C0 : Code := (Try.f26.body).getD .skip
noncomputable def C1:=C0.sn
noncomputable def C2:=C1.sn
noncomputable def C3:=C2.sn
noncomputable def C4:=C3.sn
noncomputable def C5:=C4.sn
noncomputable def C6:=C5.sn
noncomputable def C7:=C6.fs
noncomputable def C8:=C7.sn
noncomputable def C9:=C8.fs
noncomputable def C10:=C6.sn
abbrev Q0 (R : Post) : Exit → Act → World → Prop := (Exit.then (wpx Try.prog (cx 75) C10 (bodyPost Try.prog Try.f26 R)) (bodyPost Try.prog Try.f26 R))
noncomputable def C11:=C9.sn
/-- ref.go:213 -/
abbrev S0 (t6 : Addr) (w : World) (R : Post) : Prop :=
  stV w t6 (.i 0) fun w1 => 
  stV w1 (t6.add 1) (.i 0) fun w2 => 
  stV w2 (t6.add 2) (.i 0) fun w3 => 
  stV w3 (t6.add 3) (.u 0) fun w4 => 
  stV w4 (t6.add 4) (.s0) fun w5 => 
  stV w5 (t6.add 5) (.slice none 0 0) fun w6 => 
  ∃ r6_0 : Int, ∃ r6_1 : Int, ∃ r6_2 : Int, ∃ r6_3 : Int, ∃ r6_4 : ByteArray, ∃ r6_5 : Sl, w6.cell? (t6.add 0) = some (.i r6_0) ∧ w6.cell? (t6.add 1) = some (.i r6_1) ∧ w6.cell? (t6.add 2) = some (.i r6_2) ∧ w6.cell? (t6.add 3) = some (.u r6_3) ∧ w6.cell? (t6.add 4) = some (.string r6_4) ∧ w6.cell? (t6.add 5) = some (r6_5.v) ∧ 
  R (.returned (.tuple #[.agg #[.i r6_0, .i r6_1, .i r6_2, .u r6_3, .string r6_4, r6_5.v], .i 9])) w6
def KE_S0 (E : Env) (w : World) (R : Post) : Prop := asRef (Env.get? E 6) fun t6 => S0 t6 w R
theorem KE_S0_ok (R : Post) (E : Env) (w : World) (h : KE_S0 E w R) : WP Try.prog (cx 75) C9 (Q0 R) E w := by
  obtain ⟨t6, hq6, h_1⟩ := asRef_elim h
  exact fun a ha => WP.at (E := [(6, .pointer (some t6))]) (sr C9 (K := fun E w => retVC Try.prog Try.f26 E w (fun v => R (.returned v) w)) (Eq.mp (by kernel_rfl) h_1) fun _ _ hK => (rt C11 fun a hA => retVC_sound hA hK)) (ha.cons hq6 ha.nil)
noncomputable def C12:=C10.fs
noncomputable def C13:=C10.sn
abbrev Q1 (R : Post) : Exit → Act → World → Prop := (Exit.then (wpx Try.prog (cx 75) C13 (bodyPost Try.prog Try.f26 R)) (bodyPost Try.prog Try.f26 R))
noncomputable def C14:=C12.sn
noncomputable def C15:=C14.fs
noncomputable def C16:=C15.sn
noncomputable def C17:=C14.sn
noncomputable def C18:=C13.sn
/-- ref.go:215 -/
abbrev S1 (index1 : Int) (a3 v5 t6 : Addr) (w : World) (R : Post) : Prop :=
  ∃ t64 : Int, w.cell? ((a3.add 0).add 2) = some (.i t64) ∧ 
  Calls Try.prog n_enthymemeref06_fits #[.u index1, .i t64] w fun r_ w1 => ∃ t65 : Bool, r_ = .returned (.bool t65) ∧ 
  sel (!t65) (stV w1 t6 (.i 0) fun w2 => 
  stV w2 (t6.add 1) (.i 0) fun w3 => 
  stV w3 (t6.add 2) (.i 0) fun w4 => 
  stV w4 (t6.add 3) (.u 0) fun w5 => 
  stV w5 (t6.add 4) (.s0) fun w6 => 
  stV w6 (t6.add 5) (.slice none 0 0) fun w7 => 
  ∃ r6_0 : Int, ∃ r6_1 : Int, ∃ r6_2 : Int, ∃ r6_3 : Int, ∃ r6_4 : ByteArray, ∃ r6_5 : Sl, w7.cell? (t6.add 0) = some (.i r6_0) ∧ w7.cell? (t6.add 1) = some (.i r6_1) ∧ w7.cell? (t6.add 2) = some (.i r6_2) ∧ w7.cell? (t6.add 3) = some (.u r6_3) ∧ w7.cell? (t6.add 4) = some (.string r6_4) ∧ w7.cell? (t6.add 5) = some (r6_5.v) ∧ 
  R (.returned (.tuple #[.agg #[.i r6_0, .i r6_1, .i r6_2, .u r6_3, .string r6_4, r6_5.v], .i 5])) w7) (∃ t68_0 : Int, ∃ t68_1 : Int, ∃ t68_2 : Int, ∃ t68_3 : Int, ∃ t68_4 : ByteArray, ∃ t68_5 : Sl, w1.cell? (a3.add 0) = some (.i t68_0) ∧ w1.cell? (a3.add 1) = some (.i t68_1) ∧ w1.cell? (a3.add 2) = some (.i t68_2) ∧ w1.cell? (a3.add 3) = some (.u t68_3) ∧ w1.cell? (a3.add 4) = some (.string t68_4) ∧ w1.cell? (a3.add 5) = some (t68_5.v) ∧ 
  ∃ t71 : Int, w1.cell? (v5.add 3) = some (.u t71) ∧ 
  ∃ t73 : ByteArray, w1.cell? (v5.add 4) = some (.string t73) ∧ 
  Calls Try.prog n_enthymemeref06_Put #[.agg #[.i t68_0, .i t68_1, .i t68_2, .u t68_3, .string t68_4, t68_5.v], .u index1, .u t71, .string t73] w1 fun r_ w8 => ∃ t74_0 : Int, ∃ t74_1 : Int, ∃ t74_2 : Int, ∃ t74_3 : Int, ∃ t74_4 : ByteArray, ∃ t74_5 : Sl, r_ = .returned (.agg #[.i t74_0, .i t74_1, .i t74_2, .u t74_3, .string t74_4, t74_5.v]) ∧ 
  stV w8 t6 (.i t74_0) fun w9 => 
  stV w9 (t6.add 1) (.i t74_1) fun w10 => 
  stV w10 (t6.add 2) (.i t74_2) fun w11 => 
  stV w11 (t6.add 3) (.u t74_3) fun w12 => 
  stV w12 (t6.add 4) (.string t74_4) fun w13 => 
  stV w13 (t6.add 5) (t74_5.v) fun w14 => 
  ∃ r6_0 : Int, ∃ r6_1 : Int, ∃ r6_2 : Int, ∃ r6_3 : Int, ∃ r6_4 : ByteArray, ∃ r6_5 : Sl, w14.cell? (t6.add 0) = some (.i r6_0) ∧ w14.cell? (t6.add 1) = some (.i r6_1) ∧ w14.cell? (t6.add 2) = some (.i r6_2) ∧ w14.cell? (t6.add 3) = some (.u r6_3) ∧ w14.cell? (t6.add 4) = some (.string r6_4) ∧ w14.cell? (t6.add 5) = some (r6_5.v) ∧ 
  R (.returned (.tuple #[.agg #[.i r6_0, .i r6_1, .i r6_2, .u r6_3, .string r6_4, r6_5.v], .i 0])) w14)
def KE_S1 (E : Env) (w : World) (R : Post) : Prop := W.asInt .u64 (Env.get? E 1) fun index1 => asRef (Env.get? E 3) fun a3 => asRef (Env.get? E 5) fun v5 => asRef (Env.get? E 6) fun t6 => S1 index1 a3 v5 t6 w R
theorem KE_S1_ok (R : Post) (E : Env) (w : World) (h : KE_S1 E w R) : WP Try.prog (cx 75) C12 (Q1 R) E w := by
  obtain ⟨index1, hq1, h_1⟩ := asInt_elim h
  obtain ⟨a3, hq3, h_2⟩ := asRef_elim h_1
  obtain ⟨v5, hq5, h_3⟩ := asRef_elim h_2
  obtain ⟨t6, hq6, h_4⟩ := asRef_elim h_3
  exact fun a ha => WP.at (E := [(1, .u index1), (3, .pointer (some a3)), (5, .pointer (some v5)), (6, .pointer (some t6))]) (sr C12 (K := fun E w => condK (Env.val E (.tmp 66)) (srK Try.prog C15 (fun E w => retVC Try.prog Try.f26 E w (fun v => R (.returned v) w)) E w) (srK Try.prog C13 (fun E w => retVC Try.prog Try.f26 E w (fun v => R (.returned v) w)) E w)) (Eq.mp (by kernel_rfl) h_4) fun _ _ hK => (cn C14 hK (fun hK => (sr C15 hK fun _ _ hK => (rt C16 fun a hA => retVC_sound hA hK))) (fun hK => (sk C17 fun a hA => nx hA (sr C13 hK fun _ _ hK => (rt C18 fun a hA => retVC_sound hA hK)))))) (ha.cons hq1 (ha.cons hq3 (ha.cons hq5 (ha.cons hq6 ha.nil))))
/-- enthymeme/enthymemeref06.Store -/
noncomputable def C19:=C2.fs
noncomputable def C20:=C19.sn
noncomputable def C21:=C20.fs
noncomputable def C22:=C4.fs
noncomputable def C23:=C22.sn
noncomputable def C24:=C23.fs
noncomputable def C25:=C5.fs
noncomputable def C26:=C25.sn
noncomputable def C27:=C26.fs
noncomputable def C28:=C21.sn
noncomputable def C29:=C20.sn
noncomputable def C30:=C24.sn
noncomputable def C31:=C23.sn
noncomputable def C32:=C27.sn
noncomputable def C33:=C26.sn
noncomputable def C34:=C8.sn
theorem ok (a0_0 a0_1 a0_2 a0_3 : Int) (a0_4 : ByteArray) (a0_5 : Sl) (index1 v2_0 v2_1 v2_2 v2_3 : Int) (v2_4 : ByteArray) (v2_5 : Sl) (w : World) (R : Post) (h : nwV w (.cells #[.i a0_0, .i a0_1, .i a0_2, .u a0_3, .string a0_4, a0_5.v] ty_enthymemeref06_Value) fun w1 => 
  nwV w1 (.cells #[.i v2_0, .i v2_1, .i v2_2, .u v2_3, .string v2_4, v2_5.v] ty_enthymemeref06_Value) fun w2 => 
  nwV w2 (.cells #[.i 0, .i 0, .i 0, .u 0, .s0, .slice none 0 0] ty_enthymemeref06_Value) fun w3 => 
  ∃ t10_0 : Int, ∃ t10_1 : Int, ∃ t10_2 : Int, ∃ t10_3 : Int, ∃ t10_4 : ByteArray, ∃ t10_5 : Sl, w3.cell? ((nb w).add 0) = some (.i t10_0) ∧ w3.cell? ((nb w).add 1) = some (.i t10_1) ∧ w3.cell? ((nb w).add 2) = some (.i t10_2) ∧ w3.cell? ((nb w).add 3) = some (.u t10_3) ∧ w3.cell? ((nb w).add 4) = some (.string t10_4) ∧ w3.cell? ((nb w).add 5) = some (t10_5.v) ∧ 
  Calls Try.prog n_enthymemeref06_Valid #[.agg #[.i t10_0, .i t10_1, .i t10_2, .u t10_3, .string t10_4, t10_5.v]] w3 fun r_ w4 => ∃ t11 : Int, r_ = .returned (.i t11) ∧ 
  sel (t11 != 0) (stV w4 (nb w2) (.i 0) fun w5 => 
  stV w5 ((nb w2).add 1) (.i 0) fun w6 => 
  stV w6 ((nb w2).add 2) (.i 0) fun w7 => 
  stV w7 ((nb w2).add 3) (.u 0) fun w8 => 
  stV w8 ((nb w2).add 4) (.s0) fun w9 => 
  stV w9 ((nb w2).add 5) (.slice none 0 0) fun w10 => 
  ∃ r6_0 : Int, ∃ r6_1 : Int, ∃ r6_2 : Int, ∃ r6_3 : Int, ∃ r6_4 : ByteArray, ∃ r6_5 : Sl, w10.cell? ((nb w2).add 0) = some (.i r6_0) ∧ w10.cell? ((nb w2).add 1) = some (.i r6_1) ∧ w10.cell? ((nb w2).add 2) = some (.i r6_2) ∧ w10.cell? ((nb w2).add 3) = some (.u r6_3) ∧ w10.cell? ((nb w2).add 4) = some (.string r6_4) ∧ w10.cell? ((nb w2).add 5) = some (r6_5.v) ∧ 
  R (.returned (.tuple #[.agg #[.i r6_0, .i r6_1, .i r6_2, .u r6_3, .string r6_4, r6_5.v], .i t11])) w10) (∃ t16_0 : Int, ∃ t16_1 : Int, ∃ t16_2 : Int, ∃ t16_3 : Int, ∃ t16_4 : ByteArray, ∃ t16_5 : Sl, w4.cell? ((nb w1).add 0) = some (.i t16_0) ∧ w4.cell? ((nb w1).add 1) = some (.i t16_1) ∧ w4.cell? ((nb w1).add 2) = some (.i t16_2) ∧ w4.cell? ((nb w1).add 3) = some (.u t16_3) ∧ w4.cell? ((nb w1).add 4) = some (.string t16_4) ∧ w4.cell? ((nb w1).add 5) = some (t16_5.v) ∧ 
  Calls Try.prog n_enthymemeref06_Valid #[.agg #[.i t16_0, .i t16_1, .i t16_2, .u t16_3, .string t16_4, t16_5.v]] w4 fun r_ w11 => ∃ t17 : Int, r_ = .returned (.i t17) ∧ 
  sel (t17 != 0) (stV w11 (nb w2) (.i 0) fun w12 => 
  stV w12 ((nb w2).add 1) (.i 0) fun w13 => 
  stV w13 ((nb w2).add 2) (.i 0) fun w14 => 
  stV w14 ((nb w2).add 3) (.u 0) fun w15 => 
  stV w15 ((nb w2).add 4) (.s0) fun w16 => 
  stV w16 ((nb w2).add 5) (.slice none 0 0) fun w17 => 
  ∃ r6_0 : Int, ∃ r6_1 : Int, ∃ r6_2 : Int, ∃ r6_3 : Int, ∃ r6_4 : ByteArray, ∃ r6_5 : Sl, w17.cell? ((nb w2).add 0) = some (.i r6_0) ∧ w17.cell? ((nb w2).add 1) = some (.i r6_1) ∧ w17.cell? ((nb w2).add 2) = some (.i r6_2) ∧ w17.cell? ((nb w2).add 3) = some (.u r6_3) ∧ w17.cell? ((nb w2).add 4) = some (.string r6_4) ∧ w17.cell? ((nb w2).add 5) = some (r6_5.v) ∧ 
  R (.returned (.tuple #[.agg #[.i r6_0, .i r6_1, .i r6_2, .u r6_3, .string r6_4, r6_5.v], .i t17])) w17) (∃ t23_0 : Int, ∃ t23_1 : Int, ∃ t23_2 : Int, w11.cell? (((nb w).add 0).add 0) = some (.i t23_0) ∧ w11.cell? (((nb w).add 0).add 1) = some (.i t23_1) ∧ w11.cell? (((nb w).add 0).add 2) = some (.i t23_2) ∧ 
  Calls Try.prog n_enthymemeref06_Array #[.agg #[.i t23_0, .i t23_1, .i t23_2]] w11 fun r_ w18 => ∃ t24 : Bool, r_ = .returned (.bool t24) ∧ 
  sel (!t24) (stV w18 (nb w2) (.i 0) fun w19 => 
  stV w19 ((nb w2).add 1) (.i 0) fun w20 => 
  stV w20 ((nb w2).add 2) (.i 0) fun w21 => 
  stV w21 ((nb w2).add 3) (.u 0) fun w22 => 
  stV w22 ((nb w2).add 4) (.s0) fun w23 => 
  stV w23 ((nb w2).add 5) (.slice none 0 0) fun w24 => 
  ∃ r6_0 : Int, ∃ r6_1 : Int, ∃ r6_2 : Int, ∃ r6_3 : Int, ∃ r6_4 : ByteArray, ∃ r6_5 : Sl, w24.cell? ((nb w2).add 0) = some (.i r6_0) ∧ w24.cell? ((nb w2).add 1) = some (.i r6_1) ∧ w24.cell? ((nb w2).add 2) = some (.i r6_2) ∧ w24.cell? ((nb w2).add 3) = some (.u r6_3) ∧ w24.cell? ((nb w2).add 4) = some (.string r6_4) ∧ w24.cell? ((nb w2).add 5) = some (r6_5.v) ∧ 
  R (.returned (.tuple #[.agg #[.i r6_0, .i r6_1, .i r6_2, .u r6_3, .string r6_4, r6_5.v], .i 9])) w24) (drV w18 fun w25 => ∃ t29 : Int, w25.cell? (((nb w).add 0).add 0) = some (.i t29) ∧ 
  sel (t29 == 2) (∃ t33_0 : Int, ∃ t33_1 : Int, ∃ t33_2 : Int, w25.cell? (((nb w1).add 0).add 0) = some (.i t33_0) ∧ w25.cell? (((nb w1).add 0).add 1) = some (.i t33_1) ∧ w25.cell? (((nb w1).add 0).add 2) = some (.i t33_2) ∧ 
  ∃ t35_0 : Int, ∃ t35_1 : Int, ∃ t35_2 : Int, w25.cell? (((nb w).add 0).add 0) = some (.i t35_0) ∧ w25.cell? (((nb w).add 0).add 1) = some (.i t35_1) ∧ w25.cell? (((nb w).add 0).add 2) = some (.i t35_2) ∧ 
  Calls Try.prog n_enthymemeref06_Element #[.agg #[.i t35_0, .i t35_1, .i t35_2]] w25 fun r_ w26 => ∃ t36_0 : Int, ∃ t36_1 : Int, ∃ t36_2 : Int, r_ = .returned (.agg #[.i t36_0, .i t36_1, .i t36_2]) ∧ 
  w26.cell? (((nb w1).add 0).add 0) = some (.i t33_0) ∧ w26.cell? (((nb w1).add 0).add 1) = some (.i t33_1) ∧ w26.cell? (((nb w1).add 0).add 2) = some (.i t33_2) ∧ w26.cell? (((nb w).add 0).add 0) = some (.i t29) ∧ sel (!((t33_0 == t36_0) && ((t33_1 == t36_1) && ((t33_2 == t36_2) && true)))) (S0 (nb w2) w26 R) (∃ t42 : Int, w26.cell? (((nb w).add 0).add 0) = some (.i t42) ∧ 
  sel (t42 == 3) (∃ t47 : Int, w26.cell? (((nb w1).add 0).add 0) = some (.i t47) ∧ 
  sel (t47 != 1) (S0 (nb w2) w26 R) (∃ t52 : Int, w26.cell? (((nb w1).add 0).add 1) = some (.i t52) ∧ 
  ∃ t55 : Int, w26.cell? (((nb w).add 0).add 1) = some (.i t55) ∧ 
  sel (decide (t52 > t55)) (S0 (nb w2) w26 R) (S1 index1 (nb w) (nb w1) (nb w2) w26 R))) (S1 index1 (nb w) (nb w1) (nb w2) w26 R))) (∃ t42_x1 : Int, w25.cell? (((nb w).add 0).add 0) = some (.i t42_x1) ∧ 
  sel (t42_x1 == 3) (∃ t47_x1 : Int, w25.cell? (((nb w1).add 0).add 0) = some (.i t47_x1) ∧ 
  sel (t47_x1 != 1) (S0 (nb w2) w25 R) (∃ t52_x1 : Int, w25.cell? (((nb w1).add 0).add 1) = some (.i t52_x1) ∧ 
  ∃ t55_x1 : Int, w25.cell? (((nb w).add 0).add 1) = some (.i t55_x1) ∧ 
  sel (decide (t52_x1 > t55_x1)) (S0 (nb w2) w25 R) (S1 index1 (nb w) (nb w1) (nb w2) w25 R))) (S1 index1 (nb w) (nb w1) (nb w2) w25 R)))))) : Calls Try.prog n_enthymemeref06_Store #[.agg #[.i a0_0, .i a0_1, .i a0_2, .u a0_3, .string a0_4, a0_5.v], .u index1, .agg #[.i v2_0, .i v2_1, .i v2_2, .u v2_3, .string v2_4, v2_5.v]] w R :=
  calls_of_WP' (R := R) (fn := Try.f26) (c := C0) (args := [.agg #[.i a0_0, .i a0_1, .i a0_2, .u a0_3, .string a0_4, a0_5.v], .u index1, .agg #[.i v2_0, .i v2_1, .i v2_2, .u v2_3, .string v2_4, v2_5.v]]) (by kernel_rfl) (by kernel_rfl) (by kernel_rfl) (sr C0 (show (fun (E : Env) (w : World) => srK Try.prog C0 (fun E w => srK Try.prog C1 (fun E w => srK Try.prog C19 (fun E w => condK (Env.val E (.tmp 13)) (srK Try.prog C21 (fun E w => retVC Try.prog Try.f26 E w (fun v => R (.returned v) w)) E w) (srK Try.prog C3 (fun E w => srK Try.prog C22 (fun E w => condK (Env.val E (.tmp 19)) (srK Try.prog C24 (fun E w => retVC Try.prog Try.f26 E w (fun v => R (.returned v) w)) E w) (srK Try.prog C25 (fun E w => condK (Env.val E (.tmp 25)) (srK Try.prog C27 (fun E w => retVC Try.prog Try.f26 E w (fun v => R (.returned v) w)) E w) (sdK Try.prog C7 [0, 1, 2, 3, 4, 5, 6, 7, 8, 9, 10, 11, 12, 13, 14, 15, 16, 17, 18, 19, 20, 21, 22, 23, 24, 25, 26, 27, 28, 29, 30, 31, 32] (fun E w => condK (Env.val E (.tmp 59)) (KE_S0 E w R) (KE_S1 E w R)) E w)) E w)) E w) E w)) E w) E w) E w) (envOf 0 [.agg #[.i a0_0, .i a0_1, .i a0_2, .u a0_3, .string a0_4, a0_5.v], .u index1, .agg #[.i v2_0, .i v2_1, .i v2_2, .u v2_3, .string v2_4, v2_5.v]]) w from Eq.mp (by kernel_rfl) h) fun _ _ hK => (sr C1 hK fun _ _ hK => (sq C2 (sr C19 hK fun _ _ hK => (cn C20 hK (fun hK => (sr C21 hK fun _ _ hK => (rt C28 fun a hA => retVC_sound hA hK))) (fun hK => (sk C29 fun a hA => nx hA (sr C3 hK fun _ _ hK => (sq C4 (sr C22 hK fun _ _ hK => (cn C23 hK (fun hK => (sr C24 hK fun _ _ hK => (rt C30 fun a hA => retVC_sound hA hK))) (fun hK => (sk C31 fun a hA => nx hA (sq C5 (sr C25 hK fun _ _ hK => (cn C26 hK (fun hK => (sr C27 hK fun _ _ hK => (rt C32 fun a hA => retVC_sound hA hK))) (fun hK => (sk C33 fun a hA => nx hA (sq C6 (sd C7 (by kernel_rfl) hK fun _ _ hK => (cn C8 hK (fun hK => (KE_S0_ok R _ _ hK)) (fun hK => (sk C34 fun a hA => nx hA (sq C10 (KE_S1_ok R _ _ hK)))))))))))))))))))))))))
abbrev S0T (t6 : Nat) (t6_0 t6_1 t6_2 t6_3 : Int) (t6_4 : ByteArray) (t6_5 : Sl) (w : World) (R : Post) : Prop :=
  loc [t6] w fun w6 => R (.returned (.tuple #[.agg #[.i 0, .i 0, .i 0, .u 0, .s0, .slice none 0 0], .i 9])) w6
theorem S0T_ok {t6 : Nat} {t6_0 t6_1 t6_2 t6_3 : Int} {t6_4 : ByteArray} {t6_5 : Sl} {w : World} {R : Post} (h : S0T t6 t6_0 t6_1 t6_2 t6_3 t6_4 t6_5 w R) (H : LC w [(t6, [.i t6_0, .i t6_1, .i t6_2, .u t6_3, .string t6_4, t6_5.v], ty_enthymemeref06_Value)]) : S0 (at0 t6) w R := LC.stT0 H 0 (Fr.refl _ _) rfl rfl fun w1 H f => LC.stT H 0 1 f rfl rfl fun w2 H f => LC.stT H 0 2 f rfl rfl fun w3 H f => LC.stT H 0 3 f rfl rfl fun w4 H f => LC.stT H 0 4 f rfl rfl fun w5 H f => LC.stT H 0 5 f rfl rfl fun w6 (H : LC w6 [(t6, [.i 0, .i 0, .i 0, .u 0, .s0, .slice none 0 0], ty_enthymemeref06_Value)]) (f : Fr (· ∈ [t6]) _ w6) => ⟨_, _, _, _, _, ⟨none, 0, 0⟩, H.ld 0 0, H.ld 0 1, H.ld 0 2, H.ld 0 3, H.ld 0 4, H.ld 0 5, have h := h _ f; h⟩
abbrev S1T (index1 : Int) (a3 : Nat) (a3_0 a3_1 a3_2 a3_3 : Int) (a3_4 : ByteArray) (a3_5 : Sl) (v5 : Nat) (v5_0 v5_1 v5_2 v5_3 : Int) (v5_4 : ByteArray) (v5_5 : Sl) (t6 : Nat) (t6_0 t6_1 t6_2 t6_3 : Int) (t6_4 : ByteArray) (t6_5 : Sl) (w : World) (R : Post) : Prop :=
  callF [a3, v5, t6] Try.prog n_enthymemeref06_fits #[.u index1, .i a3_2] w fun r_ w1 => ∃ t65 : Bool, r_ = .returned (.bool t65) ∧ 
  sel (!t65) (loc [a3, v5, t6] w1 fun w7 => R (.returned (.tuple #[.agg #[.i 0, .i 0, .i 0, .u 0, .s0, .slice none 0 0], .i 5])) w7) (callF [a3, v5, t6] Try.prog n_enthymemeref06_Put #[.agg #[.i a3_0, .i a3_1, .i a3_2, .u a3_3, .string a3_4, a3_5.v], .u index1, .u v5_3, .string v5_4] w1 fun r_ w8 => ∃ t74_0 : Int, ∃ t74_1 : Int, ∃ t74_2 : Int, ∃ t74_3 : Int, ∃ t74_4 : ByteArray, ∃ t74_5 : Sl, r_ = .returned (.agg #[.i t74_0, .i t74_1, .i t74_2, .u t74_3, .string t74_4, t74_5.v]) ∧ 
  loc [a3, v5, t6] w8 fun w14 => R (.returned (.tuple #[.agg #[.i t74_0, .i t74_1, .i t74_2, .u t74_3, .string t74_4, t74_5.v], .i 0])) w14)
theorem S1T_ok {index1 : Int} {a3 : Nat} {a3_0 a3_1 a3_2 a3_3 : Int} {a3_4 : ByteArray} {a3_5 : Sl} {v5 : Nat} {v5_0 v5_1 v5_2 v5_3 : Int} {v5_4 : ByteArray} {v5_5 : Sl} {t6 : Nat} {t6_0 t6_1 t6_2 t6_3 : Int} {t6_4 : ByteArray} {t6_5 : Sl} {w : World} {R : Post} (h : S1T index1 a3 a3_0 a3_1 a3_2 a3_3 a3_4 a3_5 v5 v5_0 v5_1 v5_2 v5_3 v5_4 v5_5 t6 t6_0 t6_1 t6_2 t6_3 t6_4 t6_5 w R) (H : LC w [(a3, [.i a3_0, .i a3_1, .i a3_2, .u a3_3, .string a3_4, a3_5.v], ty_enthymemeref06_Value), (v5, [.i v5_0, .i v5_1, .i v5_2, .u v5_3, .string v5_4, v5_5.v], ty_enthymemeref06_Value), (t6, [.i t6_0, .i t6_1, .i t6_2, .u t6_3, .string t6_4, t6_5.v], ty_enthymemeref06_Value)]) : S1 index1 (at0 a3) (at0 v5) (at0 t6) w R := ⟨_, H.ld 0 2, LC.callT H h fun r_ w1 H h => let ⟨t65, hr, h⟩ := h; ⟨t65, hr, sel_imp h (fun h => LC.stT0 H 2 (Fr.refl _ _) rfl rfl fun w2 H f => LC.stT H 2 1 f rfl rfl fun w3 H f => LC.stT H 2 2 f rfl rfl fun w4 H f => LC.stT H 2 3 f rfl rfl fun w5 H f => LC.stT H 2 4 f rfl rfl fun w6 H f => LC.stT H 2 5 f rfl rfl fun w7 (H : LC w7 [(a3, [.i a3_0, .i a3_1, .i a3_2, .u a3_3, .string a3_4, a3_5.v], ty_enthymemeref06_Value), (v5, [.i v5_0, .i v5_1, .i v5_2, .u v5_3, .string v5_4, v5_5.v], ty_enthymemeref06_Value), (t6, [.i 0, .i 0, .i 0, .u 0, .s0, .slice none 0 0], ty_enthymemeref06_Value)]) (f : Fr (· ∈ [a3, v5, t6]) _ w7) => ⟨_, _, _, _, _, ⟨none, 0, 0⟩, H.ld 2 0, H.ld 2 1, H.ld 2 2, H.ld 2 3, H.ld 2 4, H.ld 2 5, have h := h _ f; h⟩) (fun h => ⟨_, _, _, _, _, a3_5, H.ld 0 0, H.ld 0 1, H.ld 0 2, H.ld 0 3, H.ld 0 4, H.ld 0 5, ⟨_, H.ld 1 3, ⟨_, H.ld 1 4, LC.callT H h fun r_ w8 H h => let ⟨t74_0, t74_1, t74_2, t74_3, t74_4, t74_5, hr, h⟩ := h; ⟨t74_0, t74_1, t74_2, t74_3, t74_4, t74_5, hr, LC.stT0 H 2 (Fr.refl _ _) rfl rfl fun w9 H f => LC.stT H 2 1 f rfl rfl fun w10 H f => LC.stT H 2 2 f rfl rfl fun w11 H f => LC.stT H 2 3 f rfl rfl fun w12 H f => LC.stT H 2 4 f rfl rfl fun w13 H f => LC.stT H 2 5 f rfl rfl fun w14 (H : LC w14 [(a3, [.i a3_0, .i a3_1, .i a3_2, .u a3_3, .string a3_4, a3_5.v], ty_enthymemeref06_Value), (v5, [.i v5_0, .i v5_1, .i v5_2, .u v5_3, .string v5_4, v5_5.v], ty_enthymemeref06_Value), (t6, [.i t74_0, .i t74_1, .i t74_2, .u t74_3, .string t74_4, t74_5.v], ty_enthymemeref06_Value)]) (f : Fr (· ∈ [a3, v5, t6]) _ w14) => ⟨_, _, _, _, _, t74_5, H.ld 2 0, H.ld 2 1, H.ld 2 2, H.ld 2 3, H.ld 2 4, H.ld 2 5, have h := h _ f; h⟩⟩⟩⟩⟩)⟩⟩
theorem okT (a0_0 a0_1 a0_2 a0_3 : Int) (a0_4 : ByteArray) (a0_5 : Sl) (index1 v2_0 v2_1 v2_2 v2_3 : Int) (v2_4 : ByteArray) (v2_5 : Sl) (w : World) (R : Post) (h : newV [] w fun b3 w1 => 
  newV [b3] w1 fun b5 w2 => 
  newV [b3, b5] w2 fun b6 w3 => 
  callF [b3, b5, b6] Try.prog n_enthymemeref06_Valid #[.agg #[.i a0_0, .i a0_1, .i a0_2, .u a0_3, .string a0_4, a0_5.v]] w3 fun r_ w4 => ∃ t11 : Int, r_ = .returned (.i t11) ∧ 
  sel (t11 != 0) (loc [b3, b5, b6] w4 fun w10 => R (.returned (.tuple #[.agg #[.i 0, .i 0, .i 0, .u 0, .s0, .slice none 0 0], .i t11])) w10) (callF [b3, b5, b6] Try.prog n_enthymemeref06_Valid #[.agg #[.i v2_0, .i v2_1, .i v2_2, .u v2_3, .string v2_4, v2_5.v]] w4 fun r_ w11 => ∃ t17 : Int, r_ = .returned (.i t17) ∧ 
  sel (t17 != 0) (loc [b3, b5, b6] w11 fun w17 => R (.returned (.tuple #[.agg #[.i 0, .i 0, .i 0, .u 0, .s0, .slice none 0 0], .i t17])) w17) (callF [b3, b5, b6] Try.prog n_enthymemeref06_Array #[.agg #[.i a0_0, .i a0_1, .i a0_2]] w11 fun r_ w18 => ∃ t24 : Bool, r_ = .returned (.bool t24) ∧ 
  sel (!t24) (loc [b3, b5, b6] w18 fun w24 => R (.returned (.tuple #[.agg #[.i 0, .i 0, .i 0, .u 0, .s0, .slice none 0 0], .i 9])) w24) (sel (a0_0 == 2) (loc [b3, b5, b6] w18 fun w25 => callF [b3, b5, b6] Try.prog n_enthymemeref06_Element #[.agg #[.i a0_0, .i a0_1, .i a0_2]] w25 fun r_ w26 => ∃ t36_0 : Int, ∃ t36_1 : Int, ∃ t36_2 : Int, r_ = .returned (.agg #[.i t36_0, .i t36_1, .i t36_2]) ∧ 
  sel (!((v2_0 == t36_0) && ((v2_1 == t36_1) && ((v2_2 == t36_2) && true)))) (S0T b6 0 0 0 0 (ByteArray.mk #[]) ⟨none, 0, 0⟩ w26 R) (sel (a0_0 == 3) (sel (v2_0 != 1) (S0T b6 0 0 0 0 (ByteArray.mk #[]) ⟨none, 0, 0⟩ w26 R) (sel (decide (v2_1 > a0_1)) (S0T b6 0 0 0 0 (ByteArray.mk #[]) ⟨none, 0, 0⟩ w26 R) (S1T index1 b3 a0_0 a0_1 a0_2 a0_3 a0_4 a0_5 b5 v2_0 v2_1 v2_2 v2_3 v2_4 v2_5 b6 0 0 0 0 (ByteArray.mk #[]) ⟨none, 0, 0⟩ w26 R))) (S1T index1 b3 a0_0 a0_1 a0_2 a0_3 a0_4 a0_5 b5 v2_0 v2_1 v2_2 v2_3 v2_4 v2_5 b6 0 0 0 0 (ByteArray.mk #[]) ⟨none, 0, 0⟩ w26 R))) (sel (a0_0 == 3) (sel (v2_0 != 1) (loc [b3, b5, b6] w18 fun w25 => S0T b6 0 0 0 0 (ByteArray.mk #[]) ⟨none, 0, 0⟩ w25 R) (sel (decide (v2_1 > a0_1)) (loc [b3, b5, b6] w18 fun w25 => S0T b6 0 0 0 0 (ByteArray.mk #[]) ⟨none, 0, 0⟩ w25 R) (loc [b3, b5, b6] w18 fun w25 => S1T index1 b3 a0_0 a0_1 a0_2 a0_3 a0_4 a0_5 b5 v2_0 v2_1 v2_2 v2_3 v2_4 v2_5 b6 0 0 0 0 (ByteArray.mk #[]) ⟨none, 0, 0⟩ w25 R))) (loc [b3, b5, b6] w18 fun w25 => S1T index1 b3 a0_0 a0_1 a0_2 a0_3 a0_4 a0_5 b5 v2_0 v2_1 v2_2 v2_3 v2_4 v2_5 b6 0 0 0 0 (ByteArray.mk #[]) ⟨none, 0, 0⟩ w25 R)))))) : Calls Try.prog n_enthymemeref06_Store #[.agg #[.i a0_0, .i a0_1, .i a0_2, .u a0_3, .string a0_4, a0_5.v], .u index1, .agg #[.i v2_0, .i v2_1, .i v2_2, .u v2_3, .string v2_4, v2_5.v]] w R :=
  ok _ _ _ _ _ _ _ _ _ _ _ _ _ w R (LC.nwT (LC.nil _) (Fr.refl _ _) h fun w1 H h => LC.nwT H (Fr.refl _ _) h fun w2 H h => LC.nwT H (Fr.refl _ _) h fun w3 (H : LC w3 [(w.heap.size, [.i a0_0, .i a0_1, .i a0_2, .u a0_3, .string a0_4, a0_5.v], ty_enthymemeref06_Value), (w1.heap.size, [.i v2_0, .i v2_1, .i v2_2, .u v2_3, .string v2_4, v2_5.v], ty_enthymemeref06_Value), (w2.heap.size, [.i 0, .i 0, .i 0, .u 0, .s0, .slice none 0 0], ty_enthymemeref06_Value)]) h => ⟨_, _, _, _, _, a0_5, H.ld 0 0, H.ld 0 1, H.ld 0 2, H.ld 0 3, H.ld 0 4, H.ld 0 5, LC.callT H h fun r_ w4 H h => let ⟨t11, hr, h⟩ := h; ⟨t11, hr, sel_imp h (fun h => LC.stT0 H 2 (Fr.refl _ _) rfl rfl fun w5 H f => LC.stT H 2 1 f rfl rfl fun w6 H f => LC.stT H 2 2 f rfl rfl fun w7 H f => LC.stT H 2 3 f rfl rfl fun w8 H f => LC.stT H 2 4 f rfl rfl fun w9 H f => LC.stT H 2 5 f rfl rfl fun w10 (H : LC w10 [(w.heap.size, [.i a0_0, .i a0_1, .i a0_2, .u a0_3, .string a0_4, a0_5.v], ty_enthymemeref06_Value), (w1.heap.size, [.i v2_0, .i v2_1, .i v2_2, .u v2_3, .string v2_4, v2_5.v], ty_enthymemeref06_Value), (w2.heap.size, [.i 0, .i 0, .i 0, .u 0, .s0, .slice none 0 0], ty_enthymemeref06_Value)]) (f : Fr (· ∈ [w.heap.size, w1.heap.size, w2.heap.size]) _ w10) => ⟨_, _, _, _, _, ⟨none, 0, 0⟩, H.ld 2 0, H.ld 2 1, H.ld 2 2, H.ld 2 3, H.ld 2 4, H.ld 2 5, have h := h _ f; h⟩) (fun h => ⟨_, _, _, _, _, v2_5, H.ld 1 0, H.ld 1 1, H.ld 1 2, H.ld 1 3, H.ld 1 4, H.ld 1 5, LC.callT H h fun r_ w11 H h => let ⟨t17, hr, h⟩ := h; ⟨t17, hr, sel_imp h (fun h => LC.stT0 H 2 (Fr.refl _ _) rfl rfl fun w12 H f => LC.stT H 2 1 f rfl rfl fun w13 H f => LC.stT H 2 2 f rfl rfl fun w14 H f => LC.stT H 2 3 f rfl rfl fun w15 H f => LC.stT H 2 4 f rfl rfl fun w16 H f => LC.stT H 2 5 f rfl rfl fun w17 (H : LC w17 [(w.heap.size, [.i a0_0, .i a0_1, .i a0_2, .u a0_3, .string a0_4, a0_5.v], ty_enthymemeref06_Value), (w1.heap.size, [.i v2_0, .i v2_1, .i v2_2, .u v2_3, .string v2_4, v2_5.v], ty_enthymemeref06_Value), (w2.heap.size, [.i 0, .i 0, .i 0, .u 0, .s0, .slice none 0 0], ty_enthymemeref06_Value)]) (f : Fr (· ∈ [w.heap.size, w1.heap.size, w2.heap.size]) _ w17) => ⟨_, _, _, _, _, ⟨none, 0, 0⟩, H.ld 2 0, H.ld 2 1, H.ld 2 2, H.ld 2 3, H.ld 2 4, H.ld 2 5, have h := h _ f; h⟩) (fun h => ⟨_, _, _, H.ld 0 0, H.ld 0 1, H.ld 0 2, LC.callT H h fun r_ w18 H h => let ⟨t24, hr, h⟩ := h; ⟨t24, hr, sel_imp h (fun h => LC.stT0 H 2 (Fr.refl _ _) rfl rfl fun w19 H f => LC.stT H 2 1 f rfl rfl fun w20 H f => LC.stT H 2 2 f rfl rfl fun w21 H f => LC.stT H 2 3 f rfl rfl fun w22 H f => LC.stT H 2 4 f rfl rfl fun w23 H f => LC.stT H 2 5 f rfl rfl fun w24 (H : LC w24 [(w.heap.size, [.i a0_0, .i a0_1, .i a0_2, .u a0_3, .string a0_4, a0_5.v], ty_enthymemeref06_Value), (w1.heap.size, [.i v2_0, .i v2_1, .i v2_2, .u v2_3, .string v2_4, v2_5.v], ty_enthymemeref06_Value), (w2.heap.size, [.i 0, .i 0, .i 0, .u 0, .s0, .slice none 0 0], ty_enthymemeref06_Value)]) (f : Fr (· ∈ [w.heap.size, w1.heap.size, w2.heap.size]) _ w24) => ⟨_, _, _, _, _, ⟨none, 0, 0⟩, H.ld 2 0, H.ld 2 1, H.ld 2 2, H.ld 2 3, H.ld 2 4, H.ld 2 5, have h := h _ f; h⟩) (fun h => LC.drT H (Fr.refl _ _) fun w25 H f => ⟨_, H.ld 0 0, sel_imp h (fun h => ⟨_, _, _, H.ld 1 0, H.ld 1 1, H.ld 1 2, ⟨_, _, _, H.ld 0 0, H.ld 0 1, H.ld 0 2, have h := h _ f; LC.callT H h fun r_ w26 H h => let ⟨t36_0, t36_1, t36_2, hr, h⟩ := h; ⟨t36_0, t36_1, t36_2, hr, ⟨H.ld 1 0, H.ld 1 1, H.ld 1 2, H.ld 0 0, sel_imp h (fun h => S0T_ok h (H.pick [2] (by decide))) (fun h => ⟨_, H.ld 0 0, sel_imp h (fun h => ⟨_, H.ld 1 0, sel_imp h (fun h => S0T_ok h (H.pick [2] (by decide))) (fun h => ⟨_, H.ld 1 1, ⟨_, H.ld 0 1, sel_imp h (fun h => S0T_ok h (H.pick [2] (by decide))) (fun h => S1T_ok h H)⟩⟩)⟩) (fun h => S1T_ok h H)⟩)⟩⟩⟩⟩) (fun h => ⟨_, H.ld 0 0, sel_imp h (fun h => ⟨_, H.ld 1 0, sel_imp h (fun h => have h := h _ f; S0T_ok h (H.pick [2] (by decide))) (fun h => ⟨_, H.ld 1 1, ⟨_, H.ld 0 1, sel_imp h (fun h => have h := h _ f; S0T_ok h (H.pick [2] (by decide))) (fun h => have h := h _ f; S1T_ok h H)⟩⟩)⟩) (fun h => have h := h _ f; S1T_ok h H)⟩)⟩)⟩⟩)⟩⟩)⟩⟩)
end enthymemeref06_Store
namespace enthymemeref06_Least
noncomputable def C0 : Code := (Try.f53.body).getD .skip
noncomputable def C1:=C0.sn
noncomputable def C2:=C1.sn
noncomputable def C3:=C2.sn
noncomputable def C4:=C3.fs
noncomputable def C5:=C4.sn
noncomputable def C6:=C5.fs
noncomputable def C7:=C6.fs
noncomputable def C8:=C3.sn
abbrev Q0 (R : Post) : Exit → Act → World → Prop := (Exit.then (wpx Try.prog (cx 53) C8 (bodyPost Try.prog Try.f53 R)) (bodyPost Try.prog Try.f53 R))
abbrev Q1 (R : Post) : Exit → Act → World → Prop := (Exit.inBlock 0 (Q0 R))
/-- the head of the loop, ref.go:241 -/
def L0 (a2 b3 : Addr) (best5 : Int) (lists6 : Sl) (k7 : Int) (w : World) (R : Post) : Prop := LP Try.prog (cx 53) C7 (Q1 R) [(2, .pointer (some a2)), (3, .pointer (some b3)), (5, .u best5), (6, lists6.v), (7, .i k7)] w
def KE_L0 (E : Env) (w : World) (R : Post) : Prop := asRef (Env.get? E 2) fun a2 => asRef (Env.get? E 3) fun b3 => W.asInt .u64 (Env.get? E 5) fun best5 => asSlice (Env.get? E 6) fun lists6 => W.asInt .i64 (Env.get? E 7) fun k7 => L0 a2 b3 best5 lists6 k7 w R
theorem KE_L0_ok (R : Post) (E : Env) (w : World) (h : KE_L0 E w R) : LP Try.prog (cx 53) C7 (Q1 R) E w := by
  obtain ⟨a2, hq2, h_1⟩ := asRef_elim h
  obtain ⟨b3, hq3, h_2⟩ := asRef_elim h_1
  obtain ⟨best5, hq5, h_3⟩ := asInt_elim h_2
  obtain ⟨lists6, hq6, h_4⟩ := asSlice_elim h_3
  obtain ⟨k7, hq7, h_5⟩ := asInt_elim h_4
  intro a ha
  exact h_5 a (ha.cons hq2 (ha.cons hq3 (ha.cons hq5 (ha.cons hq6 (ha.cons hq7 ha.nil)))))
noncomputable def C9:=C7.sn
noncomputable def C10:=C9.fs
noncomputable def C11:=C10.fs
noncomputable def C12:=C11.sn
noncomputable def C13:=C12.fs
noncomputable def C14:=C13.fs
noncomputable def C15:=C9.sn
abbrev Q2 (R : Post) : Exit → Act → World → Prop := (Exit.then (wpx Try.prog (cx 53) C15 (Exit.then (LoopWP Try.prog (cx 53) C7 (Q1 R)) (Q1 R))) (Exit.then (LoopWP Try.prog (cx 53) C7 (Q1 R)) (Q1 R)))
abbrev Q3 (R : Post) : Exit → Act → World → Prop := (Exit.inBlock 1 (Q2 R))
abbrev Q4 (R : Post) : Exit → Act → World → Prop := (Exit.inBlock 2 (Q3 R))
/-- the head of the loop, ref.go:242 -/
def L1 (a2 b3 : Addr) (best5 : Int) (lists6 : Sl) (k7 i8 : Int) (w : World) (R : Post) : Prop := LP Try.prog (cx 53) C14 (Q4 R) [(2, .pointer (some a2)), (3, .pointer (some b3)), (5, .u best5), (6, lists6.v), (7, .i k7), (8, .i i8)] w
def KE_L1 (E : Env) (w : World) (R : Post) : Prop := asRef (Env.get? E 2) fun a2 => asRef (Env.get? E 3) fun b3 => W.asInt .u64 (Env.get? E 5) fun best5 => asSlice (Env.get? E 6) fun lists6 => W.asInt .i64 (Env.get? E 7) fun k7 => W.asInt .i64 (Env.get? E 8) fun i8 => L1 a2 b3 best5 lists6 k7 i8 w R
theorem KE_L1_ok (R : Post) (E : Env) (w : World) (h : KE_L1 E w R) : LP Try.prog (cx 53) C14 (Q4 R) E w := by
  obtain ⟨a2, hq2, h_1⟩ := asRef_elim h
  obtain ⟨b3, hq3, h_2⟩ := asRef_elim h_1
  obtain ⟨best5, hq5, h_3⟩ := asInt_elim h_2
  obtain ⟨lists6, hq6, h_4⟩ := asSlice_elim h_3
  obtain ⟨k7, hq7, h_5⟩ := asInt_elim h_4
  obtain ⟨i8, hq8, h_6⟩ := asInt_elim h_5
  intro a ha
  exact h_6 a (ha.cons hq2 (ha.cons hq3 (ha.cons hq5 (ha.cons hq6 (ha.cons hq7 (ha.cons hq8 ha.nil))))))
noncomputable def C16:=C14.sn
noncomputable def C17:=C16.sn
abbrev Q5 (R : Post) : Exit → Act → World → Prop := (Exit.then (LoopWP Try.prog (cx 53) C14 (Q4 R)) (Q4 R))
/-- ref.go:242 -/
abbrev S2 (a2 b3 : Addr) (best5 : Int) (lists6 : Sl) (k7 i8 : Int) (w : World) (R : Post) : Prop :=
  L1 a2 b3 best5 lists6 k7 (IntKind.wrap .i64 (i8 + 1)) w R
def KE_S2 (E : Env) (w : World) (R : Post) : Prop := asRef (Env.get? E 2) fun a2 => asRef (Env.get? E 3) fun b3 => W.asInt .u64 (Env.get? E 5) fun best5 => asSlice (Env.get? E 6) fun lists6 => W.asInt .i64 (Env.get? E 7) fun k7 => W.asInt .i64 (Env.get? E 8) fun i8 => S2 a2 b3 best5 lists6 k7 i8 w R
theorem KE_S2_ok (R : Post) (E : Env) (w : World) (h : KE_S2 E w R) : WP Try.prog (cx 53) C17 (Q5 R) E w := by
  obtain ⟨a2, hq2, h_1⟩ := asRef_elim h
  obtain ⟨b3, hq3, h_2⟩ := asRef_elim h_1
  obtain ⟨best5, hq5, h_3⟩ := asInt_elim h_2
  obtain ⟨lists6, hq6, h_4⟩ := asSlice_elim h_3
  obtain ⟨k7, hq7, h_5⟩ := asInt_elim h_4
  obtain ⟨i8, hq8, h_6⟩ := asInt_elim h_5
  exact fun a ha => WP.at (E := [(2, .pointer (some a2)), (3, .pointer (some b3)), (5, .u best5), (6, lists6.v), (7, .i k7), (8, .i i8)]) (rg C17 (K := fun E w => KE_L1 E w R) (by kernel_rfl) (Eq.mp (by kernel_rfl) h_6) fun _ _ a hA hK => KE_L1_ok R _ _ hK a hA) (ha.cons hq2 (ha.cons hq3 (ha.cons hq5 (ha.cons hq6 (ha.cons hq7 (ha.cons hq8 ha.nil))))))
noncomputable def C18:=C14.fs
noncomputable def C19:=C16.fs
noncomputable def C20:=C19.fs
noncomputable def C21:=C20.sn
noncomputable def C22:=C21.sn
noncomputable def C23:=C22.fs
noncomputable def C24:=C18.sn
noncomputable def C25:=C24.fs
noncomputable def C26:=C22.sn
noncomputable def C27:=C24.sn
theorem L1_step (a2 b3 : Addr) (best5 : Int) (lists6 : Sl) (k7 i8 : Int) (w : World) (R : Post) (h : (0 : Int) ≤ k7 ∧ k7 < ((lists6.n : Nat) : Int) ∧ optP lists6.a fun t22_p => ∃ t23 : Sl, w.cell? (t22_p.add (Int.toNat k7 * 1)) = some (t23.v) ∧ 
  sel (decide (i8 < ((t23.n : Nat) : Int))) ((0 : Int) ≤ k7 ∧ k7 < ((lists6.n : Nat) : Int) ∧ optP lists6.a fun t30_p => ∃ t31 : Sl, w.cell? (t30_p.add (Int.toNat k7 * 1)) = some (t31.v) ∧ 
  (0 : Int) ≤ i8 ∧ i8 < ((t31.n : Nat) : Int) ∧ optP t31.a fun t33_p => ∃ t35 : Int, w.cell? ((t33_p.add (Int.toNat i8 * 3)).add 0) = some (.u t35) ∧ 
  drV w fun w4 => sel (decide (t35 < best5)) (∃ t40_0 : Int, ∃ t40_1 : Int, ∃ t40_2 : Int, ∃ t40_3 : Int, ∃ t40_4 : ByteArray, ∃ t40_5 : Sl, w4.cell? (a2.add 0) = some (.i t40_0) ∧ w4.cell? (a2.add 1) = some (.i t40_1) ∧ w4.cell? (a2.add 2) = some (.i t40_2) ∧ w4.cell? (a2.add 3) = some (.u t40_3) ∧ w4.cell? (a2.add 4) = some (.string t40_4) ∧ w4.cell? (a2.add 5) = some (t40_5.v) ∧ 
  ∃ t43_0 : Int, ∃ t43_1 : Int, ∃ t43_2 : Int, ∃ t43_3 : Int, ∃ t43_4 : ByteArray, ∃ t43_5 : Sl, w4.cell? (b3.add 0) = some (.i t43_0) ∧ w4.cell? (b3.add 1) = some (.i t43_1) ∧ w4.cell? (b3.add 2) = some (.i t43_2) ∧ w4.cell? (b3.add 3) = some (.u t43_3) ∧ w4.cell? (b3.add 4) = some (.string t43_4) ∧ w4.cell? (b3.add 5) = some (t43_5.v) ∧ 
  Calls Try.prog n_enthymemeref06_At #[.agg #[.i t40_0, .i t40_1, .i t40_2, .u t40_3, .string t40_4, t40_5.v], .u t35] w4 fun r_ w5 => ∃ t42_0 : Int, ∃ t42_1 : Int, ∃ t42_2 : Int, ∃ t42_3 : Int, ∃ t42_4 : ByteArray, ∃ t42_5 : Sl, r_ = .returned (.agg #[.i t42_0, .i t42_1, .i t42_2, .u t42_3, .string t42_4, t42_5.v]) ∧ 
  w5.cell? (b3.add 0) = some (.i t43_0) ∧ w5.cell? (b3.add 1) = some (.i t43_1) ∧ w5.cell? (b3.add 2) = some (.i t43_2) ∧ w5.cell? (b3.add 3) = some (.u t43_3) ∧ w5.cell? (b3.add 4) = some (.string t43_4) ∧ w5.cell? (b3.add 5) = some (t43_5.v) ∧ Calls Try.prog n_enthymemeref06_At #[.agg #[.i t43_0, .i t43_1, .i t43_2, .u t43_3, .string t43_4, t43_5.v], .u t35] w5 fun r_ w6 => ∃ t45_0 : Int, ∃ t45_1 : Int, ∃ t45_2 : Int, ∃ t45_3 : Int, ∃ t45_4 : ByteArray, ∃ t45_5 : Sl, r_ = .returned (.agg #[.i t45_0, .i t45_1, .i t45_2, .u t45_3, .string t45_4, t45_5.v]) ∧ 
  Calls Try.prog n_enthymemeref06_Same #[.agg #[.i t42_0, .i t42_1, .i t42_2, .u t42_3, .string t42_4, t42_5.v], .agg #[.i t45_0, .i t45_1, .i t45_2, .u t45_3, .string t45_4, t45_5.v]] w6 fun r_ w7 => ∃ t46 : Bool, r_ = .returned (.bool t46) ∧ 
  sel (!t46) (S2 a2 b3 t35 lists6 k7 i8 w7 R) (S2 a2 b3 best5 lists6 k7 i8 w7 R)) (S2 a2 b3 best5 lists6 k7 i8 w4 R)) (L0 a2 b3 best5 lists6 (IntKind.wrap .i64 (k7 + 1)) w R)) : L1 a2 b3 best5 lists6 k7 i8 w R :=
  LP.step (n := (cx 53)) (c := C14) (E := [(2, .pointer (some a2)), (3, .pointer (some b3)), (5, .u best5), (6, lists6.v), (7, .i k7), (8, .i i8)]) (w := w) (sq C14 (sr C18 (show (fun (E : Env) (w : World) => srK Try.prog C18 (fun E w => condK (Env.val E (.tmp 25)) (srK Try.prog C20 (fun E w => sdK Try.prog C21 [0, 1, 2, 3, 4, 5, 7, 8, 6, 9, 10, 11, 12] (fun E w => condK (Env.val E (.tmp 48)) (rgK Try.prog C23 (fun E w => KE_S2 E w R) E w) (KE_S2 E w R)) E w) E w) (rgK Try.prog C15 (fun E w => KE_L0 E w R) E w)) E w) [(2, .pointer (some a2)), (3, .pointer (some b3)), (5, .u best5), (6, lists6.v), (7, .i k7), (8, .i i8)] w from Eq.mp (by kernel_rfl) h) fun _ _ hK => (cn C24 hK (fun hK => (sk C25 fun a hA => nx hA (sq C16 (bk C19 3 (by kernel_rfl) (sr C20 hK fun _ _ hK => (sd C21 (by kernel_rfl) hK fun _ _ hK => (cn C22 hK (fun hK => (rg C23 (by kernel_rfl) hK fun _ _ a hA hK => nx hA (KE_S2_ok R _ _ hK))) (fun hK => (sk C26 fun a hA => nx hA (KE_S2_ok R _ _ hK)))))))))) (fun hK => (xt C27 2 (by kernel_rfl) fun a hA => nx hA (rg C15 (by kernel_rfl) hK fun _ _ a hA hK => KE_L0_ok R _ _ hK a hA))))))
noncomputable def C28:=C7.fs
noncomputable def C29:=C8.fs
noncomputable def C30:=C29.sn
noncomputable def C31:=C30.fs
noncomputable def C32:=C8.sn
noncomputable def C33:=C28.sn
noncomputable def C34:=C33.fs
noncomputable def C35:=C33.sn
noncomputable def C36:=C31.sn
noncomputable def C37:=C30.sn
noncomputable def C38:=C32.sn
theorem L0_step (a2 b3 : Addr) (best5 : Int) (lists6 : Sl) (k7 : Int) (w : World) (R : Post) (h : sel (decide (k7 < 2)) (L1 a2 b3 best5 lists6 k7 0 w R) (sel (best5 == 1048576) (R (.returned (.u 0)) w) (R (.returned (.u best5)) w))) : L0 a2 b3 best5 lists6 k7 w R :=
  LP.step (n := (cx 53)) (c := C7) (E := [(2, .pointer (some a2)), (3, .pointer (some b3)), (5, .u best5), (6, lists6.v), (7, .i k7)]) (w := w) (sq C7 (sr C28 (show (fun (E : Env) (w : World) => srK Try.prog C28 (fun E w => condK (Env.val E (.tmp 16)) (srK Try.prog C11 (fun E w => KE_L1 E w R) E w) (srK Try.prog C29 (fun E w => condK (Env.val E (.tmp 51)) (srK Try.prog C31 (fun E w => retVC Try.prog Try.f53 E w (fun v => R (.returned v) w)) E w) (srK Try.prog C32 (fun E w => retVC Try.prog Try.f53 E w (fun v => R (.returned v) w)) E w)) E w)) E w) [(2, .pointer (some a2)), (3, .pointer (some b3)), (5, .u best5), (6, lists6.v), (7, .i k7)] w from Eq.mp (by kernel_rfl) h) fun _ _ hK => (cn C33 hK (fun hK => (sk C34 fun a hA => nx hA (sq C9 (bk C10 1 (by kernel_rfl) (sr C11 hK fun _ _ hK => (bk C12 2 (by kernel_rfl) (lp C13 (by kernel_rfl) (KE_L1_ok R _ _ hK)))))))) (fun hK => (xt C35 0 (by kernel_rfl) fun a hA => nx hA (sq C8 (sr C29 hK fun _ _ hK => (cn C30 hK (fun hK => (sr C31 hK fun _ _ hK => (rt C36 fun a hA => retVC_sound hA hK))) (fun hK => (sk C37 fun a hA => nx hA (sr C32 hK fun _ _ hK => (rt C38 fun a hA => retVC_sound hA hK))))))))))))
/-- enthymeme/enthymemeref06.Least -/
theorem ok (a0_0 a0_1 a0_2 a0_3 : Int) (a0_4 : ByteArray) (a0_5 : Sl) (b1_0 b1_1 b1_2 b1_3 : Int) (b1_4 : ByteArray) (b1_5 : Sl) (w : World) (R : Post) (h : nwV w (.cells #[.i a0_0, .i a0_1, .i a0_2, .u a0_3, .string a0_4, a0_5.v] ty_enthymemeref06_Value) fun w1 => 
  nwV w1 (.cells #[.i b1_0, .i b1_1, .i b1_2, .u b1_3, .string b1_4, b1_5.v] ty_enthymemeref06_Value) fun w2 => 
  ∃ t11 : Sl, w2.cell? ((nb w).add 5) = some (t11.v) ∧ 
  ∃ t13 : Sl, w2.cell? ((nb w1).add 5) = some (t13.v) ∧ 
  nwV w2 (.cells #[t11.v, t13.v] ty_sl_enthymemeref06_Entry) fun w3 => 
  L0 (nb w) (nb w1) 1048576 ⟨some (nb w2), 2, 2⟩ 0 w3 R) : Calls Try.prog n_enthymemeref06_Least #[.agg #[.i a0_0, .i a0_1, .i a0_2, .u a0_3, .string a0_4, a0_5.v], .agg #[.i b1_0, .i b1_1, .i b1_2, .u b1_3, .string b1_4, b1_5.v]] w R :=
  calls_of_WP' (R := R) (fn := Try.f53) (c := C0) (args := [.agg #[.i a0_0, .i a0_1, .i a0_2, .u a0_3, .string a0_4, a0_5.v], .agg #[.i b1_0, .i b1_1, .i b1_2, .u b1_3, .string b1_4, b1_5.v]]) (by kernel_rfl) (by kernel_rfl) (by kernel_rfl) (sr C0 (show (fun (E : Env) (w : World) => srK Try.prog C0 (fun E w => srK Try.prog C1 (fun E w => srK Try.prog C2 (fun E w => srK Try.prog C4 (fun E w => KE_L0 E w R) E w) E w) E w) E w) (envOf 0 [.agg #[.i a0_0, .i a0_1, .i a0_2, .u a0_3, .string a0_4, a0_5.v], .agg #[.i b1_0, .i b1_1, .i b1_2, .u b1_3, .string b1_4, b1_5.v]]) w from Eq.mp (by kernel_rfl) h) fun _ _ hK => (sr C1 hK fun _ _ hK => (sr C2 hK fun _ _ hK => (sq C3 (sr C4 hK fun _ _ hK => (bk C5 0 (by kernel_rfl) (lp C6 (by kernel_rfl) (KE_L0_ok R _ _ hK))))))))
def L0T (a2 : Nat) (a2_0 a2_1 a2_2 a2_3 : Int) (a2_4 : ByteArray) (a2_5 : Sl) (b3 : Nat) (b3_0 b3_1 b3_2 b3_3 : Int) (b3_4 : ByteArray) (b3_5 : Sl) (best5 : Int) (lists6 : Sl) (k7 : Int) (w : World) (R : Post) : Prop := LC w [(a2, [.i a2_0, .i a2_1, .i a2_2, .u a2_3, .string a2_4, a2_5.v], ty_enthymemeref06_Value), (b3, [.i b3_0, .i b3_1, .i b3_2, .u b3_3, .string b3_4, b3_5.v], ty_enthymemeref06_Value)] → L0 (at0 a2) (at0 b3) best5 lists6 k7 w R
def L1T (a2 : Nat) (a2_0 a2_1 a2_2 a2_3 : Int) (a2_4 : ByteArray) (a2_5 : Sl) (b3 : Nat) (b3_0 b3_1 b3_2 b3_3 : Int) (b3_4 : ByteArray) (b3_5 : Sl) (best5 : Int) (lists6 : Sl) (k7 i8 : Int) (w : World) (R : Post) : Prop := LC w [(a2, [.i a2_0, .i a2_1, .i a2_2, .u a2_3, .string a2_4, a2_5.v], ty_enthymemeref06_Value), (b3, [.i b3_0, .i b3_1, .i b3_2, .u b3_3, .string b3_4, b3_5.v], ty_enthymemeref06_Value)] → L1 (at0 a2) (at0 b3) best5 lists6 k7 i8 w R
abbrev S2T (a2 : Nat) (a2_0 a2_1 a2_2 a2_3 : Int) (a2_4 : ByteArray) (a2_5 : Sl) (b3 : Nat) (b3_0 b3_1 b3_2 b3_3 : Int) (b3_4 : ByteArray) (b3_5 : Sl) (best5 : Int) (lists6 : Sl) (k7 i8 : Int) (w : World) (R : Post) : Prop :=
  L1T a2 a2_0 a2_1 a2_2 a2_3 a2_4 a2_5 b3 b3_0 b3_1 b3_2 b3_3 b3_4 b3_5 best5 lists6 k7 (IntKind.wrap .i64 (i8 + 1)) w R
theorem S2T_ok {a2 : Nat} {a2_0 a2_1 a2_2 a2_3 : Int} {a2_4 : ByteArray} {a2_5 : Sl} {b3 : Nat} {b3_0 b3_1 b3_2 b3_3 : Int} {b3_4 : ByteArray} {b3_5 : Sl} {best5 : Int} {lists6 : Sl} {k7 i8 : Int} {w : World} {R : Post} (h : S2T a2 a2_0 a2_1 a2_2 a2_3 a2_4 a2_5 b3 b3_0 b3_1 b3_2 b3_3 b3_4 b3_5 best5 lists6 k7 i8 w R) (H : LC w [(a2, [.i a2_0, .i a2_1, .i a2_2, .u a2_3, .string a2_4, a2_5.v], ty_enthymemeref06_Value), (b3, [.i b3_0, .i b3_1, .i b3_2, .u b3_3, .string b3_4, b3_5.v], ty_enthymemeref06_Value)]) : S2 (at0 a2) (at0 b3) best5 lists6 k7 i8 w R := h H
theorem L1T_step (a2 : Nat) (a2_0 a2_1 a2_2 a2_3 : Int) (a2_4 : ByteArray) (a2_5 : Sl) (b3 : Nat) (b3_0 b3_1 b3_2 b3_3 : Int) (b3_4 : ByteArray) (b3_5 : Sl) (best5 : Int) (lists6 : Sl) (k7 i8 : Int) (w : World) (R : Post) (h : (0 : Int) ≤ k7 ∧ k7 < ((lists6.n : Nat) : Int) ∧ optP lists6.a fun t22_p => ∃ t23 : Sl, w.cell? (t22_p.add (Int.toNat k7 * 1)) = some (t23.v) ∧ 
  sel (decide (i8 < ((t23.n : Nat) : Int))) ((0 : Int) ≤ k7 ∧ k7 < ((lists6.n : Nat) : Int) ∧ optP lists6.a fun t30_p => ∃ t31 : Sl, w.cell? (t30_p.add (Int.toNat k7 * 1)) = some (t31.v) ∧ 
  (0 : Int) ≤ i8 ∧ i8 < ((t31.n : Nat) : Int) ∧ optP t31.a fun t33_p => ∃ t35 : Int, w.cell? ((t33_p.add (Int.toNat i8 * 3)).add 0) = some (.u t35) ∧ 
  sel (decide (t35 < best5)) (loc [a2, b3] w fun w4 => callF [a2, b3] Try.prog n_enthymemeref06_At #[.agg #[.i a2_0, .i a2_1, .i a2_2, .u a2_3, .string a2_4, a2_5.v], .u t35] w4 fun r_ w5 => ∃ t42_0 : Int, ∃ t42_1 : Int, ∃ t42_2 : Int, ∃ t42_3 : Int, ∃ t42_4 : ByteArray, ∃ t42_5 : Sl, r_ = .returned (.agg #[.i t42_0, .i t42_1, .i t42_2, .u t42_3, .string t42_4, t42_5.v]) ∧ 
  callF [a2, b3] Try.prog n_enthymemeref06_At #[.agg #[.i b3_0, .i b3_1, .i b3_2, .u b3_3, .string b3_4, b3_5.v], .u t35] w5 fun r_ w6 => ∃ t45_0 : Int, ∃ t45_1 : Int, ∃ t45_2 : Int, ∃ t45_3 : Int, ∃ t45_4 : ByteArray, ∃ t45_5 : Sl, r_ = .returned (.agg #[.i t45_0, .i t45_1, .i t45_2, .u t45_3, .string t45_4, t45_5.v]) ∧ 
  callF [a2, b3] Try.prog n_enthymemeref06_Same #[.agg #[.i t42_0, .i t42_1, .i t42_2, .u t42_3, .string t42_4, t42_5.v], .agg #[.i t45_0, .i t45_1, .i t45_2, .u t45_3, .string t45_4, t45_5.v]] w6 fun r_ w7 => ∃ t46 : Bool, r_ = .returned (.bool t46) ∧ 
  sel (!t46) (S2T a2 a2_0 a2_1 a2_2 a2_3 a2_4 a2_5 b3 b3_0 b3_1 b3_2 b3_3 b3_4 b3_5 t35 lists6 k7 i8 w7 R) (S2T a2 a2_0 a2_1 a2_2 a2_3 a2_4 a2_5 b3 b3_0 b3_1 b3_2 b3_3 b3_4 b3_5 best5 lists6 k7 i8 w7 R)) (loc [a2, b3] w fun w4 => S2T a2 a2_0 a2_1 a2_2 a2_3 a2_4 a2_5 b3 b3_0 b3_1 b3_2 b3_3 b3_4 b3_5 best5 lists6 k7 i8 w4 R)) (L0T a2 a2_0 a2_1 a2_2 a2_3 a2_4 a2_5 b3 b3_0 b3_1 b3_2 b3_3 b3_4 b3_5 best5 lists6 (IntKind.wrap .i64 (k7 + 1)) w R)) : L1T a2 a2_0 a2_1 a2_2 a2_3 a2_4 a2_5 b3 b3_0 b3_1 b3_2 b3_3 b3_4 b3_5 best5 lists6 k7 i8 w R := fun H => L1_step _ _ _ _ _ _ w R (⟨h.1, h.2.1, have h := h.2.2; optP_imp h fun t22_p h => let ⟨t23, hc0, h⟩ := h; ⟨t23, hc0, sel_imp h (fun h => ⟨h.1, h.2.1, have h := h.2.2; optP_imp h fun t30_p h => let ⟨t31, hc0, h⟩ := h; ⟨t31, hc0, ⟨h.1, h.2.1, have h := h.2.2; optP_imp h fun t33_p h => let ⟨t35, hc0, h⟩ := h; ⟨t35, hc0, LC.drT H (Fr.refl _ _) fun w4 H f => sel_imp h (fun h => ⟨_, _, _, _, _, a2_5, H.ld 0 0, H.ld 0 1, H.ld 0 2, H.ld 0 3, H.ld 0 4, H.ld 0 5, ⟨_, _, _, _, _, b3_5, H.ld 1 0, H.ld 1 1, H.ld 1 2, H.ld 1 3, H.ld 1 4, H.ld 1 5, have h := h _ f; LC.callT H h fun r_ w5 H h => let ⟨t42_0, t42_1, t42_2, t42_3, t42_4, t42_5, hr, h⟩ := h; ⟨t42_0, t42_1, t42_2, t42_3, t42_4, t42_5, hr, ⟨H.ld 1 0, H.ld 1 1, H.ld 1 2, H.ld 1 3, H.ld 1 4, H.ld 1 5, LC.callT H h fun r_ w6 H h => let ⟨t45_0, t45_1, t45_2, t45_3, t45_4, t45_5, hr, h⟩ := h; ⟨t45_0, t45_1, t45_2, t45_3, t45_4, t45_5, hr, LC.callT H h fun r_ w7 H h => let ⟨t46, hr, h⟩ := h; ⟨t46, hr, sel_imp h (fun h => S2T_ok h H) (fun h => S2T_ok h H)⟩⟩⟩⟩⟩⟩) (fun h => have h := h _ f; S2T_ok h H)⟩⟩⟩⟩) (fun h => h H)⟩⟩)
theorem L0T_step (a2 : Nat) (a2_0 a2_1 a2_2 a2_3 : Int) (a2_4 : ByteArray) (a2_5 : Sl) (b3 : Nat) (b3_0 b3_1 b3_2 b3_3 : Int) (b3_4 : ByteArray) (b3_5 : Sl) (best5 : Int) (lists6 : Sl) (k7 : Int) (w : World) (R : Post) (h : sel (decide (k7 < 2)) (L1T a2 a2_0 a2_1 a2_2 a2_3 a2_4 a2_5 b3 b3_0 b3_1 b3_2 b3_3 b3_4 b3_5 best5 lists6 k7 0 w R) (sel (best5 == 1048576) (R (.returned (.u 0)) w) (R (.returned (.u best5)) w))) : L0T a2 a2_0 a2_1 a2_2 a2_3 a2_4 a2_5 b3 b3_0 b3_1 b3_2 b3_3 b3_4 b3_5 best5 lists6 k7 w R := fun H => L0_step _ _ _ _ _ w R (sel_imp h (fun h => h H) (fun h => sel_imp h (fun h => h) (fun h => h)))
theorem okT (a0_0 a0_1 a0_2 a0_3 : Int) (a0_4 : ByteArray) (a0_5 : Sl) (b1_0 b1_1 b1_2 b1_3 : Int) (b1_4 : ByteArray) (b1_5 : Sl) (w : World) (R : Post) (h : newV [] w fun b2 w1 => 
  newV [b2] w1 fun b3 w2 => 
  nwV w2 (.cells #[a0_5.v, b1_5.v] ty_sl_enthymemeref06_Entry) fun w3 => 
  L0T b2 a0_0 a0_1 a0_2 a0_3 a0_4 a0_5 b3 b1_0 b1_1 b1_2 b1_3 b1_4 b1_5 1048576 ⟨some (nb w2), 2, 2⟩ 0 w3 R) : Calls Try.prog n_enthymemeref06_Least #[.agg #[.i a0_0, .i a0_1, .i a0_2, .u a0_3, .string a0_4, a0_5.v], .agg #[.i b1_0, .i b1_1, .i b1_2, .u b1_3, .string b1_4, b1_5.v]] w R :=
  ok _ _ _ _ _ _ _ _ _ _ _ _ w R (LC.nwT (LC.nil _) (Fr.refl _ _) h fun w1 H h => LC.nwT H (Fr.refl _ _) h fun w2 H h => ⟨a0_5, H.ld 0 5, ⟨b1_5, H.ld 1 5, LC.nwN H h fun w3 H h => h H⟩⟩)
end enthymemeref06_Least
namespace enthymemeref06_Diff
noncomputable def C0 : Code := (Try.f28.body).getD .skip
noncomputable def C1:=C0.sn
noncomputable def C2:=C1.sn
noncomputable def C3:=C2.sn
noncomputable def C4:=C3.sn
noncomputable def C5:=C4.sn
noncomputable def C6:=C5.fs
noncomputable def C7:=C6.sn
noncomputable def C8:=C7.fs
noncomputable def C9:=C5.sn
abbrev Q0 (R : Post) : Exit → Act → World → Prop := (Exit.then (wpx Try.prog (cx 32) C9 (bodyPost Try.prog Try.f28 R)) (bodyPost Try.prog Try.f28 R))
noncomputable def C10:=C8.sn
/-- ref.go:232 -/
abbrev S0  (w : World) (R : Post) : Prop :=
  R (.returned (.tuple #[.u 0, .i 9])) w
def KE_S0 (E : Env) (w : World) (R : Post) : Prop := S0  w R
theorem KE_S0_ok (R : Post) (E : Env) (w : World) (h : KE_S0 E w R) : WP Try.prog (cx 32) C8 (Q0 R) E w := by
  exact fun a ha => WP.at (E := []) (sr C8 (K := fun E w => retVC Try.prog Try.f28 E w (fun v => R (.returned v) w)) (Eq.mp (by kernel_rfl) h) fun _ _ hK => (rt C10 fun a hA => retVC_sound hA hK)) ha.nil
/-- enthymeme/enthymemeref06.Diff -/
noncomputable def C11:=C2.fs
noncomputable def C12:=C11.sn
noncomputable def C13:=C12.fs
noncomputable def C14:=C4.fs
noncomputable def C15:=C14.sn
noncomputable def C16:=C15.fs
noncomputable def C17:=C13.sn
noncomputable def C18:=C12.sn
noncomputable def C19:=C16.sn
noncomputable def C20:=C15.sn
noncomputable def C21:=C7.sn
noncomputable def C22:=C9.sn
theorem ok (a0_0 a0_1 a0_2 a0_3 : Int) (a0_4 : ByteArray) (a0_5 : Sl) (b1_0 b1_1 b1_2 b1_3 : Int) (b1_4 : ByteArray) (b1_5 : Sl) (w : World) (R : Post) (h : nwV w (.cells #[.i a0_0, .i a0_1, .i a0_2, .u a0_3, .string a0_4, a0_5.v] ty_enthymemeref06_Value) fun w1 => 
  nwV w1 (.cells #[.i b1_0, .i b1_1, .i b1_2, .u b1_3, .string b1_4, b1_5.v] ty_enthymemeref06_Value) fun w2 => 
  ∃ t8_0 : Int, ∃ t8_1 : Int, ∃ t8_2 : Int, ∃ t8_3 : Int, ∃ t8_4 : ByteArray, ∃ t8_5 : Sl, w2.cell? ((nb w).add 0) = some (.i t8_0) ∧ w2.cell? ((nb w).add 1) = some (.i t8_1) ∧ w2.cell? ((nb w).add 2) = some (.i t8_2) ∧ w2.cell? ((nb w).add 3) = some (.u t8_3) ∧ w2.cell? ((nb w).add 4) = some (.string t8_4) ∧ w2.cell? ((nb w).add 5) = some (t8_5.v) ∧ 
  Calls Try.prog n_enthymemeref06_Valid #[.agg #[.i t8_0, .i t8_1, .i t8_2, .u t8_3, .string t8_4, t8_5.v]] w2 fun r_ w3 => ∃ t9 : Int, r_ = .returned (.i t9) ∧ 
  sel (t9 != 0) (R (.returned (.tuple #[.u 0, .i t9])) w3) (∃ t13_0 : Int, ∃ t13_1 : Int, ∃ t13_2 : Int, ∃ t13_3 : Int, ∃ t13_4 : ByteArray, ∃ t13_5 : Sl, w3.cell? ((nb w1).add 0) = some (.i t13_0) ∧ w3.cell? ((nb w1).add 1) = some (.i t13_1) ∧ w3.cell? ((nb w1).add 2) = some (.i t13_2) ∧ w3.cell? ((nb w1).add 3) = some (.u t13_3) ∧ w3.cell? ((nb w1).add 4) = some (.string t13_4) ∧ w3.cell? ((nb w1).add 5) = some (t13_5.v) ∧ 
  Calls Try.prog n_enthymemeref06_Valid #[.agg #[.i t13_0, .i t13_1, .i t13_2, .u t13_3, .string t13_4, t13_5.v]] w3 fun r_ w4 => ∃ t14 : Int, r_ = .returned (.i t14) ∧ 
  sel (t14 != 0) (R (.returned (.tuple #[.u 0, .i t14])) w4) (∃ t19_0 : Int, ∃ t19_1 : Int, ∃ t19_2 : Int, w4.cell? (((nb w).add 0).add 0) = some (.i t19_0) ∧ w4.cell? (((nb w).add 0).add 1) = some (.i t19_1) ∧ w4.cell? (((nb w).add 0).add 2) = some (.i t19_2) ∧ 
  Calls Try.prog n_enthymemeref06_Array #[.agg #[.i t19_0, .i t19_1, .i t19_2]] w4 fun r_ w5 => ∃ t20 : Bool, r_ = .returned (.bool t20) ∧ 
  sel (!t20) (S0  w5 R) (∃ t24_0 : Int, ∃ t24_1 : Int, ∃ t24_2 : Int, w5.cell? (((nb w).add 0).add 0) = some (.i t24_0) ∧ w5.cell? (((nb w).add 0).add 1) = some (.i t24_1) ∧ w5.cell? (((nb w).add 0).add 2) = some (.i t24_2) ∧ 
  ∃ t26_0 : Int, ∃ t26_1 : Int, ∃ t26_2 : Int, w5.cell? (((nb w1).add 0).add 0) = some (.i t26_0) ∧ w5.cell? (((nb w1).add 0).add 1) = some (.i t26_1) ∧ w5.cell? (((nb w1).add 0).add 2) = some (.i t26_2) ∧ 
  sel (!((t24_0 == t26_0) && ((t24_1 == t26_1) && ((t24_2 == t26_2) && true)))) (S0  w5 R) (∃ t29_0 : Int, ∃ t29_1 : Int, ∃ t29_2 : Int, ∃ t29_3 : Int, ∃ t29_4 : ByteArray, ∃ t29_5 : Sl, w5.cell? ((nb w).add 0) = some (.i t29_0) ∧ w5.cell? ((nb w).add 1) = some (.i t29_1) ∧ w5.cell? ((nb w).add 2) = some (.i t29_2) ∧ w5.cell? ((nb w).add 3) = some (.u t29_3) ∧ w5.cell? ((nb w).add 4) = some (.string t29_4) ∧ w5.cell? ((nb w).add 5) = some (t29_5.v) ∧ 
  ∃ t30_0 : Int, ∃ t30_1 : Int, ∃ t30_2 : Int, ∃ t30_3 : Int, ∃ t30_4 : ByteArray, ∃ t30_5 : Sl, w5.cell? ((nb w1).add 0) = some (.i t30_0) ∧ w5.cell? ((nb w1).add 1) = some (.i t30_1) ∧ w5.cell? ((nb w1).add 2) = some (.i t30_2) ∧ w5.cell? ((nb w1).add 3) = some (.u t30_3) ∧ w5.cell? ((nb w1).add 4) = some (.string t30_4) ∧ w5.cell? ((nb w1).add 5) = some (t30_5.v) ∧ 
  Calls Try.prog n_enthymemeref06_Least #[.agg #[.i t29_0, .i t29_1, .i t29_2, .u t29_3, .string t29_4, t29_5.v], .agg #[.i t30_0, .i t30_1, .i t30_2, .u t30_3, .string t30_4, t30_5.v]] w5 fun r_ w6 => ∃ t31 : Int, r_ = .returned (.u t31) ∧ 
  R (.returned (.tuple #[.u t31, .i 0])) w6))))) : Calls Try.prog n_enthymemeref06_Diff #[.agg #[.i a0_0, .i a0_1, .i a0_2, .u a0_3, .string a0_4, a0_5.v], .agg #[.i b1_0, .i b1_1, .i b1_2, .u b1_3, .string b1_4, b1_5.v]] w R :=
  calls_of_WP' (R := R) (fn := Try.f28) (c := C0) (args := [.agg #[.i a0_0, .i a0_1, .i a0_2, .u a0_3, .string a0_4, a0_5.v], .agg #[.i b1_0, .i b1_1, .i b1_2, .u b1_3, .string b1_4, b1_5.v]]) (by kernel_rfl) (by kernel_rfl) (by kernel_rfl) (sr C0 (show (fun (E : Env) (w : World) => srK Try.prog C0 (fun E w => srK Try.prog C1 (fun E w => srK Try.prog C11 (fun E w => condK (Env.val E (.tmp 11)) (srK Try.prog C13 (fun E w => retVC Try.prog Try.f28 E w (fun v => R (.returned v) w)) E w) (srK Try.prog C3 (fun E w => srK Try.prog C14 (fun E w => condK (Env.val E (.tmp 16)) (srK Try.prog C16 (fun E w => retVC Try.prog Try.f28 E w (fun v => R (.returned v) w)) E w) (srK Try.prog C6 (fun E w => condK (Env.val E (.tmp 28)) (KE_S0 E w R) (srK Try.prog C9 (fun E w => retVC Try.prog Try.f28 E w (fun v => R (.returned v) w)) E w)) E w)) E w) E w)) E w) E w) E w) (envOf 0 [.agg #[.i a0_0, .i a0_1, .i a0_2, .u a0_3, .string a0_4, a0_5.v], .agg #[.i b1_0, .i b1_1, .i b1_2, .u b1_3, .string b1_4, b1_5.v]]) w from Eq.mp (by kernel_rfl) h) fun _ _ hK => (sr C1 hK fun _ _ hK => (sq C2 (sr C11 hK fun _ _ hK => (cn C12 hK (fun hK => (sr C13 hK fun _ _ hK => (rt C17 fun a hA => retVC_sound hA hK))) (fun hK => (sk C18 fun a hA => nx hA (sr C3 hK fun _ _ hK => (sq C4 (sr C14 hK fun _ _ hK => (cn C15 hK (fun hK => (sr C16 hK fun _ _ hK => (rt C19 fun a hA => retVC_sound hA hK))) (fun hK => (sk C20 fun a hA => nx hA (sq C5 (sr C6 hK fun _ _ hK => (cn C7 hK (fun hK => (KE_S0_ok R _ _ hK)) (fun hK => (sk C21 fun a hA => nx hA (sr C9 hK fun _ _ hK => (rt C22 fun a hA => retVC_sound hA hK))))))))))))))))))))
abbrev S0T  (w : World) (R : Post) : Prop :=
  R (.returned (.tuple #[.u 0, .i 9])) w
theorem S0T_ok  {w : World} {R : Post} (h : S0T  w R) (H : LC w []) : S0  w R := h
theorem okT (a0_0 a0_1 a0_2 a0_3 : Int) (a0_4 : ByteArray) (a0_5 : Sl) (b1_0 b1_1 b1_2 b1_3 : Int) (b1_4 : ByteArray) (b1_5 : Sl) (w : World) (R : Post) (h : newV [] w fun b2 w1 => 
  newV [b2] w1 fun b3 w2 => 
  callF [b2, b3] Try.prog n_enthymemeref06_Valid #[.agg #[.i a0_0, .i a0_1, .i a0_2, .u a0_3, .string a0_4, a0_5.v]] w2 fun r_ w3 => ∃ t9 : Int, r_ = .returned (.i t9) ∧ 
  sel (t9 != 0) (R (.returned (.tuple #[.u 0, .i t9])) w3) (callF [b2, b3] Try.prog n_enthymemeref06_Valid #[.agg #[.i b1_0, .i b1_1, .i b1_2, .u b1_3, .string b1_4, b1_5.v]] w3 fun r_ w4 => ∃ t14 : Int, r_ = .returned (.i t14) ∧ 
  sel (t14 != 0) (R (.returned (.tuple #[.u 0, .i t14])) w4) (callF [b2, b3] Try.prog n_enthymemeref06_Array #[.agg #[.i a0_0, .i a0_1, .i a0_2]] w4 fun r_ w5 => ∃ t20 : Bool, r_ = .returned (.bool t20) ∧ 
  sel (!t20) (S0T  w5 R) (sel (!((a0_0 == b1_0) && ((a0_1 == b1_1) && ((a0_2 == b1_2) && true)))) (S0T  w5 R) (callF [b2, b3] Try.prog n_enthymemeref06_Least #[.agg #[.i a0_0, .i a0_1, .i a0_2, .u a0_3, .string a0_4, a0_5.v], .agg #[.i b1_0, .i b1_1, .i b1_2, .u b1_3, .string b1_4, b1_5.v]] w5 fun r_ w6 => ∃ t31 : Int, r_ = .returned (.u t31) ∧ 
  R (.returned (.tuple #[.u t31, .i 0])) w6))))) : Calls Try.prog n_enthymemeref06_Diff #[.agg #[.i a0_0, .i a0_1, .i a0_2, .u a0_3, .string a0_4, a0_5.v], .agg #[.i b1_0, .i b1_1, .i b1_2, .u b1_3, .string b1_4, b1_5.v]] w R :=
  ok _ _ _ _ _ _ _ _ _ _ _ _ w R (LC.nwT (LC.nil _) (Fr.refl _ _) h fun w1 H h => LC.nwT H (Fr.refl _ _) h fun w2 H h => ⟨_, _, _, _, _, a0_5, H.ld 0 0, H.ld 0 1, H.ld 0 2, H.ld 0 3, H.ld 0 4, H.ld 0 5, LC.callT H h fun r_ w3 H h => let ⟨t9, hr, h⟩ := h; ⟨t9, hr, sel_imp h (fun h => h) (fun h => ⟨_, _, _, _, _, b1_5, H.ld 1 0, H.ld 1 1, H.ld 1 2, H.ld 1 3, H.ld 1 4, H.ld 1 5, LC.callT H h fun r_ w4 H h => let ⟨t14, hr, h⟩ := h; ⟨t14, hr, sel_imp h (fun h => h) (fun h => ⟨_, _, _, H.ld 0 0, H.ld 0 1, H.ld 0 2, LC.callT H h fun r_ w5 H h => let ⟨t20, hr, h⟩ := h; ⟨t20, hr, sel_imp h (fun h => S0T_ok h (LC.nil _)) (fun h => ⟨_, _, _, H.ld 0 0, H.ld 0 1, H.ld 0 2, ⟨_, _, _, H.ld 1 0, H.ld 1 1, H.ld 1 2, sel_imp h (fun h => S0T_ok h (LC.nil _)) (fun h => ⟨_, _, _, _, _, a0_5, H.ld 0 0, H.ld 0 1, H.ld 0 2, H.ld 0 3, H.ld 0 4, H.ld 0 5, ⟨_, _, _, _, _, b1_5, H.ld 1 0, H.ld 1 1, H.ld 1 2, H.ld 1 3, H.ld 1 4, H.ld 1 5, LC.callT H h fun r_ w6 H h => let ⟨t31, hr, h⟩ := h; ⟨t31, hr, h⟩⟩⟩)⟩⟩)⟩⟩)⟩⟩)⟩⟩)
end enthymemeref06_Diff
end Go.Proofs.Ytjjhfdjpmonlaaa

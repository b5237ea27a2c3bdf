/- Printed by a program of ours (vcgen.py) from the dump: the conditions of the functions, and that they suffice. -/
import Derived.Test.YtknlbofiicflgaaGreatV
import Derived.Test.YtknlbofiicflgaaGreatY
set_option linter.unusedVariables false
set_option maxRecDepth 100000
set_option maxHeartbeats 2000000
namespace Go.Proofs.YtknlbofiicflgaaGreat
open Go Go.W
namespace cmp_isNaN_int
noncomputable def C0 : Code := (Tryz.f57.body).getD .skip
/-- cmp.isNaN[int] -/
noncomputable def C1:=C0.sn
noncomputable def C2:=C1.sn
theorem ok (x0 : Int) (w : World) (R : Post) (h : R (.returned (.bool (x0 != x0))) w) : Calls Tryz.prog n_cmp_isNaN_int #[.i x0] w R :=
  calls_of_WP' (R := R) (fn := Tryz.f57) (c := C0) (args := [.i x0]) (by kernel_rfl) (by kernel_rfl) (by kernel_rfl) (sr C0 (show (fun (E : Env) (w : World) => srK Tryz.prog C0 (fun E w => srK Tryz.prog C1 (fun E w => retVC Tryz.prog Tryz.f57 E w (fun v => R (.returned v) w)) E w) E w) (envOf 0 [.i x0]) w from mp h) fun _ _ hK => (sr C1 hK fun _ _ hK => (rt C2 fun a hA => retVC_sound hA hK)))
end cmp_isNaN_int
namespace cmp_isNaN_byte
noncomputable def C0 : Code := (Tryz.f58.body).getD .skip
/-- cmp.isNaN[byte] -/
noncomputable def C1:=C0.sn
noncomputable def C2:=C1.sn
theorem ok (x0 : Int) (w : World) (R : Post) (h : R (.returned (.bool (x0 != x0))) w) : Calls Tryz.prog n_cmp_isNaN_byte #[.int .u8 x0] w R :=
  calls_of_WP' (R := R) (fn := Tryz.f58) (c := C0) (args := [.int .u8 x0]) (by kernel_rfl) (by kernel_rfl) (by kernel_rfl) (sr C0 (show (fun (E : Env) (w : World) => srK Tryz.prog C0 (fun E w => srK Tryz.prog C1 (fun E w => retVC Tryz.prog Tryz.f58 E w (fun v => R (.returned v) w)) E w) E w) (envOf 0 [.int .u8 x0]) w from mp h) fun _ _ hK => (sr C1 hK fun _ _ hK => (rt C2 fun a hA => retVC_sound hA hK)))
end cmp_isNaN_byte
namespace cmp_Compare_int
noncomputable def C0 : Code := (Tryz.f34.body).getD .skip
/-- cmp.Compare[int] -/
noncomputable def C1:=C0.sn
noncomputable def C2:=C1.sn
noncomputable def C3:=C2.sn
noncomputable def C4:=C3.fs
noncomputable def C5:=C4.sn
noncomputable def C6:=C5.fs
noncomputable def C7:=C6.fs
noncomputable def C8:=C7.sn
noncomputable def C9:=C8.fs
noncomputable def C10:=C6.sn
noncomputable def C11:=C3.sn
noncomputable def C12:=C11.fs
noncomputable def C13:=C12.sn
noncomputable def C14:=C13.fs
noncomputable def C15:=C11.sn
noncomputable def C16:=C15.fs
noncomputable def C17:=C16.sn
noncomputable def C18:=C17.fs
noncomputable def C19:=C15.sn
noncomputable def C20:=C19.fs
noncomputable def C21:=C20.sn
noncomputable def C22:=C21.fs
noncomputable def C23:=C19.sn
noncomputable def C24:=C9.sn
noncomputable def C25:=C8.sn
noncomputable def C26:=C10.sn
noncomputable def C27:=C5.sn
noncomputable def C28:=C14.sn
noncomputable def C29:=C13.sn
noncomputable def C30:=C18.sn
noncomputable def C31:=C17.sn
noncomputable def C32:=C22.sn
noncomputable def C33:=C21.sn
noncomputable def C34:=C23.sn
theorem ok (x0 y1 : Int) (w : World) (R : Post) (h : ca1 n_cmp_isNaN_int #[.i x0] w fun t8 w1 => ca1 n_cmp_isNaN_int #[.i y1] w1 fun t10 w2 => sel t8 (sel t10 (R (.returned (.i 0)) w2) (R (.returned (.i (-1))) w2)) (sel t10 (R (.returned (.i 1)) w2) (sel (decide (x0 < y1)) (R (.returned (.i (-1))) w2) (sel (decide (x0 > y1)) (R (.returned (.i 1)) w2) (R (.returned (.i 0)) w2))))) : Calls Tryz.prog n_cmp_Compare_int #[.i x0, .i y1] w R :=
  calls_of_WP' (R := R) (fn := Tryz.f34) (c := C0) (args := [.i x0, .i y1]) (by kernel_rfl) (by kernel_rfl) (by kernel_rfl) (sr C0 (show (fun (E : Env) (w : World) => srK Tryz.prog C0 (fun E w => srK Tryz.prog C1 (fun E w => srK Tryz.prog C2 (fun E w => srK Tryz.prog C4 (fun E w => condK (Env.val E (.tmp 11)) (srK Tryz.prog C7 (fun E w => condK (Env.val E (.tmp 12)) (srK Tryz.prog C9 (fun E w => retVC Tryz.prog Tryz.f34 E w (fun v => R (.returned v) w)) E w) (srK Tryz.prog C10 (fun E w => retVC Tryz.prog Tryz.f34 E w (fun v => R (.returned v) w)) E w)) E w) (srK Tryz.prog C12 (fun E w => condK (Env.val E (.tmp 13)) (srK Tryz.prog C14 (fun E w => retVC Tryz.prog Tryz.f34 E w (fun v => R (.returned v) w)) E w) (srK Tryz.prog C16 (fun E w => condK (Env.val E (.tmp 16)) (srK Tryz.prog C18 (fun E w => retVC Tryz.prog Tryz.f34 E w (fun v => R (.returned v) w)) E w) (srK Tryz.prog C20 (fun E w => condK (Env.val E (.tmp 19)) (srK Tryz.prog C22 (fun E w => retVC Tryz.prog Tryz.f34 E w (fun v => R (.returned v) w)) E w) (srK Tryz.prog C23 (fun E w => retVC Tryz.prog Tryz.f34 E w (fun v => R (.returned v) w)) E w)) E w)) E w)) E w)) E w) E w) E w) E w) (envOf 0 [.i x0, .i y1]) w from mp h) fun _ _ hK => (sr C1 hK fun _ _ hK => (sr C2 hK fun _ _ hK => (sq C3 (sr C4 hK fun _ _ hK => (cn C5 hK (fun hK => (sq C6 (sr C7 hK fun _ _ hK => (cn C8 hK (fun hK => (sr C9 hK fun _ _ hK => (rt C24 fun a hA => retVC_sound hA hK))) (fun hK => (sk C25 fun a hA => nx hA (sr C10 hK fun _ _ hK => (rt C26 fun a hA => retVC_sound hA hK)))))))) (fun hK => (sk C27 fun a hA => nx hA (sq C11 (sr C12 hK fun _ _ hK => (cn C13 hK (fun hK => (sr C14 hK fun _ _ hK => (rt C28 fun a hA => retVC_sound hA hK))) (fun hK => (sk C29 fun a hA => nx hA (sq C15 (sr C16 hK fun _ _ hK => (cn C17 hK (fun hK => (sr C18 hK fun _ _ hK => (rt C30 fun a hA => retVC_sound hA hK))) (fun hK => (sk C31 fun a hA => nx hA (sq C19 (sr C20 hK fun _ _ hK => (cn C21 hK (fun hK => (sr C22 hK fun _ _ hK => (rt C32 fun a hA => retVC_sound hA hK))) (fun hK => (sk C33 fun a hA => nx hA (sr C23 hK fun _ _ hK => (rt C34 fun a hA => retVC_sound hA hK)))))))))))))))))))))))))
end cmp_Compare_int
namespace cmp_Compare_byte
noncomputable def C0 : Code := (Tryz.f35.body).getD .skip
/-- cmp.Compare[byte] -/
noncomputable def C1:=C0.sn
noncomputable def C2:=C1.sn
noncomputable def C3:=C2.sn
noncomputable def C4:=C3.fs
noncomputable def C5:=C4.sn
noncomputable def C6:=C5.fs
noncomputable def C7:=C6.fs
noncomputable def C8:=C7.sn
noncomputable def C9:=C8.fs
noncomputable def C10:=C6.sn
noncomputable def C11:=C3.sn
noncomputable def C12:=C11.fs
noncomputable def C13:=C12.sn
noncomputable def C14:=C13.fs
noncomputable def C15:=C11.sn
noncomputable def C16:=C15.fs
noncomputable def C17:=C16.sn
noncomputable def C18:=C17.fs
noncomputable def C19:=C15.sn
noncomputable def C20:=C19.fs
noncomputable def C21:=C20.sn
noncomputable def C22:=C21.fs
noncomputable def C23:=C19.sn
noncomputable def C24:=C9.sn
noncomputable def C25:=C8.sn
noncomputable def C26:=C10.sn
noncomputable def C27:=C5.sn
noncomputable def C28:=C14.sn
noncomputable def C29:=C13.sn
noncomputable def C30:=C18.sn
noncomputable def C31:=C17.sn
noncomputable def C32:=C22.sn
noncomputable def C33:=C21.sn
noncomputable def C34:=C23.sn
theorem ok (x0 y1 : Int) (w : World) (R : Post) (h : ca1 n_cmp_isNaN_byte #[.int .u8 x0] w fun t8 w1 => ca1 n_cmp_isNaN_byte #[.int .u8 y1] w1 fun t10 w2 => sel t8 (sel t10 (R (.returned (.i 0)) w2) (R (.returned (.i (-1))) w2)) (sel t10 (R (.returned (.i 1)) w2) (sel (decide (x0 < y1)) (R (.returned (.i (-1))) w2) (sel (decide (x0 > y1)) (R (.returned (.i 1)) w2) (R (.returned (.i 0)) w2))))) : Calls Tryz.prog n_cmp_Compare_byte #[.int .u8 x0, .int .u8 y1] w R :=
  calls_of_WP' (R := R) (fn := Tryz.f35) (c := C0) (args := [.int .u8 x0, .int .u8 y1]) (by kernel_rfl) (by kernel_rfl) (by kernel_rfl) (sr C0 (show (fun (E : Env) (w : World) => srK Tryz.prog C0 (fun E w => srK Tryz.prog C1 (fun E w => srK Tryz.prog C2 (fun E w => srK Tryz.prog C4 (fun E w => condK (Env.val E (.tmp 11)) (srK Tryz.prog C7 (fun E w => condK (Env.val E (.tmp 12)) (srK Tryz.prog C9 (fun E w => retVC Tryz.prog Tryz.f35 E w (fun v => R (.returned v) w)) E w) (srK Tryz.prog C10 (fun E w => retVC Tryz.prog Tryz.f35 E w (fun v => R (.returned v) w)) E w)) E w) (srK Tryz.prog C12 (fun E w => condK (Env.val E (.tmp 13)) (srK Tryz.prog C14 (fun E w => retVC Tryz.prog Tryz.f35 E w (fun v => R (.returned v) w)) E w) (srK Tryz.prog C16 (fun E w => condK (Env.val E (.tmp 16)) (srK Tryz.prog C18 (fun E w => retVC Tryz.prog Tryz.f35 E w (fun v => R (.returned v) w)) E w) (srK Tryz.prog C20 (fun E w => condK (Env.val E (.tmp 19)) (srK Tryz.prog C22 (fun E w => retVC Tryz.prog Tryz.f35 E w (fun v => R (.returned v) w)) E w) (srK Tryz.prog C23 (fun E w => retVC Tryz.prog Tryz.f35 E w (fun v => R (.returned v) w)) E w)) E w)) E w)) E w)) E w) E w) E w) E w) (envOf 0 [.int .u8 x0, .int .u8 y1]) w from mp h) fun _ _ hK => (sr C1 hK fun _ _ hK => (sr C2 hK fun _ _ hK => (sq C3 (sr C4 hK fun _ _ hK => (cn C5 hK (fun hK => (sq C6 (sr C7 hK fun _ _ hK => (cn C8 hK (fun hK => (sr C9 hK fun _ _ hK => (rt C24 fun a hA => retVC_sound hA hK))) (fun hK => (sk C25 fun a hA => nx hA (sr C10 hK fun _ _ hK => (rt C26 fun a hA => retVC_sound hA hK)))))))) (fun hK => (sk C27 fun a hA => nx hA (sq C11 (sr C12 hK fun _ _ hK => (cn C13 hK (fun hK => (sr C14 hK fun _ _ hK => (rt C28 fun a hA => retVC_sound hA hK))) (fun hK => (sk C29 fun a hA => nx hA (sq C15 (sr C16 hK fun _ _ hK => (cn C17 hK (fun hK => (sr C18 hK fun _ _ hK => (rt C30 fun a hA => retVC_sound hA hK))) (fun hK => (sk C31 fun a hA => nx hA (sq C19 (sr C20 hK fun _ _ hK => (cn C21 hK (fun hK => (sr C22 hK fun _ _ hK => (rt C32 fun a hA => retVC_sound hA hK))) (fun hK => (sk C33 fun a hA => nx hA (sr C23 hK fun _ _ hK => (rt C34 fun a hA => retVC_sound hA hK)))))))))))))))))))))))))
end cmp_Compare_byte
namespace cmp_Or_int
noncomputable def C0 : Code := (Tryz.f33.body).getD .skip
noncomputable def C1:=C0.sn
noncomputable def C2:=C1.sn
noncomputable def C3:=C2.fs
noncomputable def C4:=C3.sn
noncomputable def C5:=C4.fs
noncomputable def C6:=C5.fs
noncomputable def C7:=C2.sn
abbrev Q0 (R : Post) : ExP := (Exit.then (wpx Tryz.prog (cx 18) C7 (bodyPost Tryz.prog Tryz.f33 R)) (bodyPost Tryz.prog Tryz.f33 R))
abbrev Q1 (R : Post) : ExP := (Exit.inBlock 0 (Q0 R))
/-- the head of the loop, cmp.go:71 -/
def L0 (zero3 : Int) (t6 : Sl) (t7 t8 : Int) (w : World) (R : Post) : Prop := LP Tryz.prog (cx 18) C6 (Q1 R) [(3, .i zero3), (6, t6.v), (7, .i t7), (8, .i t8)] w
def KE_L0 (E : Env) (w : World) (R : Post) : Prop := W.asInt .i64 (Env.get? E 3) fun zero3 => W.asSlice (Env.get? E 6) fun t6 => W.asInt .i64 (Env.get? E 7) fun t7 => W.asInt .i64 (Env.get? E 8) fun t8 => L0 zero3 t6 t7 t8 w R
theorem KE_L0_ok : LOk Tryz.prog 18 KE_L0 C6 Q1 := by
  intro R E w h
  obtain ⟨zero3, hq3, h_1⟩ := W.asInt_elim h
  obtain ⟨t6, hq6, h_2⟩ := W.asSlice_elim h_1
  obtain ⟨t7, hq7, h_3⟩ := W.asInt_elim h_2
  obtain ⟨t8, hq8, h_4⟩ := W.asInt_elim h_3
  intro a ha
  exact h_4 a (ha.cons hq3 (ha.cons hq6 (ha.cons hq7 (ha.cons hq8 ha.nil))))
noncomputable def C8:=C6.sn
noncomputable def C9:=C8.sn
noncomputable def C10:=C9.fs
noncomputable def C11:=C10.fs
noncomputable def C12:=C11.sn
noncomputable def C13:=C12.sn
noncomputable def C14:=C13.fs
noncomputable def C15:=C9.sn
noncomputable def C16:=C8.fs
noncomputable def C17:=C16.fs
noncomputable def C18:=C14.sn
noncomputable def C19:=C13.sn
noncomputable def C20:=C16.sn
noncomputable def C21:=C7.sn
theorem L0_step (zero3 : Int) (t6 : Sl) (t7 t8 : Int) (w : World) (R : Post) (h : sel (decide (t8 < t7)) ((0 : Int) ≤ t8 ∧ t8 < ((t6.n : Nat) : Int) ∧ optP t6.a fun t10_p => ∃ t11 : Int, w.cell? (t10_p.add (Int.toNat t8 * 1)) = some (.i t11) ∧ 
  sel (t11 != zero3) (R (.returned (.i t11)) w) (L0 zero3 t6 t7 (IntKind.wrap .i64 (t8 + 1)) w R)) (R (.returned (.i zero3)) w)) : L0 zero3 t6 t7 t8 w R :=
  LP.step (n := (cx 18)) (c := C6) (E := [(3, .i zero3), (6, t6.v), (7, .i t7), (8, .i t8)]) (w := w) (sr C6 (show (fun (E : Env) (w : World) => srK Tryz.prog C6 (fun E w => condK (Env.val E (.tmp 9)) (srK Tryz.prog C11 (fun E w => srK Tryz.prog C12 (fun E w => condK (Env.val E (.tmp 14)) (srK Tryz.prog C14 (fun E w => retVC Tryz.prog Tryz.f33 E w (fun v => R (.returned v) w)) E w) (rgK Tryz.prog C15 (fun E w => KE_L0 E w R) E w)) E w) E w) (srK Tryz.prog C7 (fun E w => retVC Tryz.prog Tryz.f33 E w (fun v => R (.returned v) w)) E w)) E w) [(3, .i zero3), (6, t6.v), (7, .i t7), (8, .i t8)] w from mp h) fun _ _ hK => (sq C8 (cn C16 hK (fun hK => (sk C17 fun a hA => nx hA (sq C9 (bk C10 1 (by kernel_rfl) (sr C11 hK fun _ _ hK => (sr C12 hK fun _ _ hK => (cn C13 hK (fun hK => (sr C14 hK fun _ _ hK => (rt C18 fun a hA => retVC_sound hA hK))) (fun hK => (sk C19 fun a hA => nx hA (rg C15 (by kernel_rfl) hK fun _ _ a hA hK => KE_L0_ok R _ _ hK a hA)))))))))) (fun hK => (xt C20 0 (by kernel_rfl) fun a hA => nx hA (sr C7 hK fun _ _ hK => (rt C21 fun a hA => retVC_sound hA hK)))))))
/-- cmp.Or[int] -/
theorem ok (vals0 : Sl) (w : World) (R : Post) (h : L0 0 vals0 ((vals0.n : Nat) : Int) 0 w R) : Calls Tryz.prog n_cmp_Or_int #[vals0.v] w R :=
  calls_of_WP' (R := R) (fn := Tryz.f33) (c := C0) (args := [vals0.v]) (by kernel_rfl) (by kernel_rfl) (by kernel_rfl) (sr C0 (show (fun (E : Env) (w : World) => srK Tryz.prog C0 (fun E w => srK Tryz.prog C1 (fun E w => srK Tryz.prog C3 (fun E w => KE_L0 E w R) E w) E w) E w) (envOf 0 [vals0.v]) w from mp h) fun _ _ hK => (sr C1 hK fun _ _ hK => (sq C2 (sr C3 hK fun _ _ hK => (bk C4 0 (by kernel_rfl) (lp C5 (by kernel_rfl) (KE_L0_ok R _ _ hK)))))))
end cmp_Or_int
namespace regex_Compare
noncomputable def C0 : Code := (Tryz.f13.body).getD .skip
/-- enthymeme/regex.Compare -/
noncomputable def C1:=C0.sn
noncomputable def C2:=C1.sn
noncomputable def C3:=C2.fs
noncomputable def C4:=C3.sn
noncomputable def C5:=C4.fs
noncomputable def C6:=C2.sn
noncomputable def C7:=C5.sn
noncomputable def C8:=C4.sn
noncomputable def C9:=C6.sn
theorem ok (a0_0 a0_1 a0_2 : Int) (a0_3 : Sl) (b1_0 b1_1 b1_2 : Int) (b1_3 : Sl) (w : World) (R : Post) (h : nwV w (.cells #[.i a0_0, .int .u8 a0_1, .int .u8 a0_2, a0_3.v] ty_regex_Regex) fun w1 => 
  nwV w1 (.cells #[.i b1_0, .int .u8 b1_1, .int .u8 b1_2, b1_3.v] ty_regex_Regex) fun w2 => 
  drV w2 fun w3 => ∃ t7 : Int, w3.cell? ((nb w).add 0) = some (.i t7) ∧ 
  ∃ t9 : Int, w3.cell? ((nb w1).add 0) = some (.i t9) ∧ 
  ∃ t12 : Int, w3.cell? ((nb w).add 1) = some (.int .u8 t12) ∧ 
  ∃ t14 : Int, w3.cell? ((nb w1).add 1) = some (.int .u8 t14) ∧ 
  ∃ t17 : Int, w3.cell? ((nb w).add 2) = some (.int .u8 t17) ∧ 
  ∃ t19 : Int, w3.cell? ((nb w1).add 2) = some (.int .u8 t19) ∧ 
  ca0 n_cmp_Compare_int #[.i t7, .i t9] w3 fun t10 w4 => w4.cell? ((nb w1).add 2) = some (.int .u8 t19) ∧ w4.cell? ((nb w).add 2) = some (.int .u8 t17) ∧ w4.cell? ((nb w1).add 1) = some (.int .u8 t14) ∧ w4.cell? ((nb w).add 1) = some (.int .u8 t12) ∧ ca0 n_cmp_Compare_byte #[.int .u8 t12, .int .u8 t14] w4 fun t15 w5 => w5.cell? ((nb w1).add 2) = some (.int .u8 t19) ∧ w5.cell? ((nb w).add 2) = some (.int .u8 t17) ∧ ca0 n_cmp_Compare_byte #[.int .u8 t17, .int .u8 t19] w5 fun t20 w6 => nwV w6 (.cells #[.i t10, .i t15, .i t20] ty_int) fun w7 => 
  ca0 n_cmp_Or_int #[.slice (some (nb w6)) 3 3] w7 fun t22 w8 => sel (t22 != 0) (R (.returned (.i t22)) w8) (∃ t27 : Sl, w8.cell? ((nb w).add 3) = some (t27.v) ∧ 
  ∃ t29 : Sl, w8.cell? ((nb w1).add 3) = some (t29.v) ∧ 
  ca0 n_slices_CompareFunc_sl_regex_Regex_sl_regex_Regex_regex_Regex_regex_Regex #[t27.v, t29.v, .func (.func n_regex_Compare) #[] #[]] w8 fun t30 w9 => R (.returned (.i t30)) w9)) : Calls Tryz.prog n_regex_Compare #[.agg #[.i a0_0, .int .u8 a0_1, .int .u8 a0_2, a0_3.v], .agg #[.i b1_0, .int .u8 b1_1, .int .u8 b1_2, b1_3.v]] w R :=
  calls_of_WP' (R := R) (fn := Tryz.f13) (c := C0) (args := [.agg #[.i a0_0, .int .u8 a0_1, .int .u8 a0_2, a0_3.v], .agg #[.i b1_0, .int .u8 b1_1, .int .u8 b1_2, b1_3.v]]) (by kernel_rfl) (by kernel_rfl) (by kernel_rfl) (sr C0 (show (fun (E : Env) (w : World) => srK Tryz.prog C0 (fun E w => sdK Tryz.prog C1 [0, 1, 2, 3, 5, 6, 7, 8, 10, 11, 12, 13, 4, 9, 14, 15, 16, 17] (fun E w => srK Tryz.prog C3 (fun E w => condK (Env.val E (.tmp 24)) (srK Tryz.prog C5 (fun E w => retVC Tryz.prog Tryz.f13 E w (fun v => R (.returned v) w)) E w) (srK Tryz.prog C6 (fun E w => retVC Tryz.prog Tryz.f13 E w (fun v => R (.returned v) w)) E w)) E w) E w) E w) (envOf 0 [.agg #[.i a0_0, .int .u8 a0_1, .int .u8 a0_2, a0_3.v], .agg #[.i b1_0, .int .u8 b1_1, .int .u8 b1_2, b1_3.v]]) w from mp h) fun _ _ hK => (sd C1 (by kernel_rfl) hK fun _ _ hK => (sq C2 (sr C3 hK fun _ _ hK => (cn C4 hK (fun hK => (sr C5 hK fun _ _ hK => (rt C7 fun a hA => retVC_sound hA hK))) (fun hK => (sk C8 fun a hA => nx hA (sr C6 hK fun _ _ hK => (rt C9 fun a hA => retVC_sound hA hK)))))))))
theorem okT (a0_0 a0_1 a0_2 : Int) (a0_3 : Sl) (b1_0 b1_1 b1_2 : Int) (b1_3 : Sl) (w : World) (R : Post) (h : newV [] w fun b2 w1 => 
  newV [b2] w1 fun b3 w2 => 
  loc [b2, b3] w2 fun w3 => cf0 [b2, b3] n_cmp_Compare_int #[.i a0_0, .i b1_0] w3 fun t10 w4 => cf0 [b2, b3] n_cmp_Compare_byte #[.int .u8 a0_1, .int .u8 b1_1] w4 fun t15 w5 => cf0 [b2, b3] n_cmp_Compare_byte #[.int .u8 a0_2, .int .u8 b1_2] w5 fun t20 w6 => nwV w6 (.cells #[.i t10, .i t15, .i t20] ty_int) fun w7 => 
  cf0 [b2, b3] n_cmp_Or_int #[.slice (some (nb w6)) 3 3] w7 fun t22 w8 => sel (t22 != 0) (R (.returned (.i t22)) w8) (cf0 [b2, b3] n_slices_CompareFunc_sl_regex_Regex_sl_regex_Regex_regex_Regex_regex_Regex #[a0_3.v, b1_3.v, .func (.func n_regex_Compare) #[] #[]] w8 fun t30 w9 => R (.returned (.i t30)) w9)) : Calls Tryz.prog n_regex_Compare #[.agg #[.i a0_0, .int .u8 a0_1, .int .u8 a0_2, a0_3.v], .agg #[.i b1_0, .int .u8 b1_1, .int .u8 b1_2, b1_3.v]] w R :=
  ok _ _ _ _ _ _ _ _ w R (LC.nwT (LC.nil _) (Fr.refl _ _) h fun w1 H h => LC.nwT H (Fr.refl _ _) h fun w2 H h => LC.drT H (Fr.refl _ _) fun w3 H f => ⟨_, H.ld 0 0, ⟨_, H.ld 1 0, ⟨_, H.ld 0 1, ⟨_, H.ld 1 1, ⟨_, H.ld 0 2, ⟨_, H.ld 1 2, have h := h _ f; LC.callT H h fun r_ w4 H h => let ⟨t10, hr, h⟩ := h; ⟨t10, hr, ⟨H.ld 1 2, H.ld 0 2, H.ld 1 1, H.ld 0 1, LC.callT H h fun r_ w5 H h => let ⟨t15, hr, h⟩ := h; ⟨t15, hr, ⟨H.ld 1 2, H.ld 0 2, LC.callT H h fun r_ w6 H h => let ⟨t20, hr, h⟩ := h; ⟨t20, hr, LC.nwN H h fun w7 H h => LC.callT H h fun r_ w8 H h => let ⟨t22, hr, h⟩ := h; ⟨t22, hr, sel_imp h (fun h => h) (fun h => ⟨a0_3, H.ld 0 3, ⟨b1_3, H.ld 1 3, LC.callT H h fun r_ w9 H h => let ⟨t30, hr, h⟩ := h; ⟨t30, hr, h⟩⟩⟩)⟩⟩⟩⟩⟩⟩⟩⟩⟩⟩⟩⟩)
end regex_Compare
namespace slices_CompareFunc_sl_regex_Regex_sl_regex_Regex_regex_Regex_regex_Regex
noncomputable def C0 : Code := (Tryz.f36.body).getD .skip
noncomputable def C1:=C0.sn
noncomputable def C2:=C1.fs
noncomputable def C3:=C2.sn
noncomputable def C4:=C3.fs
noncomputable def C5:=C4.fs
noncomputable def C6:=C1.sn
abbrev Q0 (R : Post) : ExP := (Exit.then (wpx Tryz.prog (cx 39) C6 (bodyPost Tryz.prog Tryz.f36 R)) (bodyPost Tryz.prog Tryz.f36 R))
abbrev Q1 (R : Post) : ExP := (Exit.inBlock 0 (Q0 R))
/-- the head of the loop, slices.go:79 -/
def L0 (s10 s21 t11 : Sl) (t12 t13 : Int) (w : World) (R : Post) : Prop := LP Tryz.prog (cx 39) C5 (Q1 R) [(0, s10.v), (1, s21.v), (2, .func (.func n_regex_Compare) #[] #[]), (11, t11.v), (12, .i t12), (13, .i t13)] w
def KE_L0 (E : Env) (w : World) (R : Post) : Prop := W.asSlice (Env.get? E 0) fun s10 => W.asSlice (Env.get? E 1) fun s21 => W.asFunc n_regex_Compare (Env.get? E 2) fun cmp2_lf0 cmp2_lc0 => W.asNil cmp2_lf0 <| W.asNil cmp2_lc0 <| W.asSlice (Env.get? E 11) fun t11 => W.asInt .i64 (Env.get? E 12) fun t12 => W.asInt .i64 (Env.get? E 13) fun t13 => L0 s10 s21 t11 t12 t13 w R
theorem KE_L0_ok : LOk Tryz.prog 39 KE_L0 C5 Q1 := by
  intro R E w h
  obtain ⟨s10, hq0, h_1⟩ := W.asSlice_elim h
  obtain ⟨s21, hq1, h_2⟩ := W.asSlice_elim h_1
  obtain ⟨cmp2_lf0, cmp2_lc0, hq2, h_3⟩ := W.asFunc_elim h_2
  obtain ⟨rfl, h_4⟩ := W.asNil_elim h_3
  obtain ⟨rfl, h_5⟩ := W.asNil_elim h_4
  obtain ⟨t11, hq11, h_6⟩ := W.asSlice_elim h_5
  obtain ⟨t12, hq12, h_7⟩ := W.asInt_elim h_6
  obtain ⟨t13, hq13, h_8⟩ := W.asInt_elim h_7
  intro a ha
  exact h_8 a (ha.cons hq0 (ha.cons hq1 (ha.cons hq2 (ha.cons hq11 (ha.cons hq12 (ha.cons hq13 ha.nil))))))
noncomputable def C7:=C5.sn
noncomputable def C8:=C7.sn
noncomputable def C9:=C8.fs
noncomputable def C10:=C9.fs
noncomputable def C11:=C10.sn
noncomputable def C12:=C11.fs
noncomputable def C13:=C12.sn
noncomputable def C14:=C13.fs
noncomputable def C15:=C11.sn
noncomputable def C16:=C15.sn
noncomputable def C17:=C16.sn
noncomputable def C18:=C17.sn
noncomputable def C19:=C18.fs
noncomputable def C20:=C8.sn
noncomputable def C21:=C6.fs
noncomputable def C22:=C21.sn
noncomputable def C23:=C22.fs
noncomputable def C24:=C6.sn
noncomputable def C25:=C7.fs
noncomputable def C26:=C25.fs
noncomputable def C27:=C14.sn
noncomputable def C28:=C13.sn
noncomputable def C29:=C19.sn
noncomputable def C30:=C18.sn
noncomputable def C31:=C25.sn
noncomputable def C32:=C23.sn
noncomputable def C33:=C22.sn
noncomputable def C34:=C24.sn
theorem L0_step (s10 s21 t11 : Sl) (t12 t13 : Int) (w : World) (R : Post) (h : sel (decide (t13 < t12)) ((0 : Int) ≤ t13 ∧ t13 < ((t11.n : Nat) : Int) ∧ optP t11.a fun t16_p => ld4_0 w (t16_p.add (Int.toNat t13 * 4)) fun t17_0 t17_1 t17_2 t17_3 => nwV w (.cells #[.i 0, .int .u8 0, .int .u8 0, .slice none 0 0] ty_regex_Regex) fun w1 => 
  stW4 w1 (nb w) (.i t17_0) (.int .u8 t17_1) (.int .u8 t17_2) (t17_3.v) fun w5 => sel (decide (t13 ≥ ((s21.n : Nat) : Int))) (R (.returned (.i 1)) w5) ((0 : Int) ≤ t13 ∧ t13 < ((s21.n : Nat) : Int) ∧ optP s21.a fun t24_p => ld4_0 w5 (t24_p.add (Int.toNat t13 * 4)) fun t25_0 t25_1 t25_2 t25_3 => nwV w5 (.cells #[.i 0, .int .u8 0, .int .u8 0, .slice none 0 0] ty_regex_Regex) fun w6 => 
  stW4 w6 (nb w5) (.i t25_0) (.int .u8 t25_1) (.int .u8 t25_2) (t25_3.v) fun w10 => ld4_0 w10 (nb w) fun t27_0 t27_1 t27_2 t27_3 => ld4_0 w10 (nb w5) fun t28_0 t28_1 t28_2 t28_3 => ca0 n_regex_Compare #[.agg #[.i t27_0, .int .u8 t27_1, .int .u8 t27_2, t27_3.v], .agg #[.i t28_0, .int .u8 t28_1, .int .u8 t28_2, t28_3.v]] w10 fun t29 w11 => sel (t29 != 0) (R (.returned (.i t29)) w11) (L0 s10 s21 t11 t12 (IntKind.wrap .i64 (t13 + 1)) w11 R))) (sel (decide (((s10.n : Nat) : Int) < ((s21.n : Nat) : Int))) (R (.returned (.i (-1))) w) (R (.returned (.i 0)) w))) : L0 s10 s21 t11 t12 t13 w R :=
  LP.step (n := (cx 39)) (c := C5) (E := [(0, s10.v), (1, s21.v), (2, .func (.func n_regex_Compare) #[] #[]), (11, t11.v), (12, .i t12), (13, .i t13)]) (w := w) (sr C5 (show (fun (E : Env) (w : World) => srK Tryz.prog C5 (fun E w => condK (Env.val E (.tmp 14)) (srK Tryz.prog C10 (fun E w => srK Tryz.prog C12 (fun E w => condK (Env.val E (.tmp 21)) (srK Tryz.prog C14 (fun E w => retVC Tryz.prog Tryz.f36 E w (fun v => R (.returned v) w)) E w) (srK Tryz.prog C15 (fun E w => srK Tryz.prog C16 (fun E w => srK Tryz.prog C17 (fun E w => condK (Env.val E (.tmp 31)) (srK Tryz.prog C19 (fun E w => retVC Tryz.prog Tryz.f36 E w (fun v => R (.returned v) w)) E w) (rgK Tryz.prog C20 (fun E w => KE_L0 E w R) E w)) E w) E w) E w)) E w) E w) (srK Tryz.prog C21 (fun E w => condK (Env.val E (.tmp 38)) (srK Tryz.prog C23 (fun E w => retVC Tryz.prog Tryz.f36 E w (fun v => R (.returned v) w)) E w) (srK Tryz.prog C24 (fun E w => retVC Tryz.prog Tryz.f36 E w (fun v => R (.returned v) w)) E w)) E w)) E w) [(0, s10.v), (1, s21.v), (2, .func (.func n_regex_Compare) #[] #[]), (11, t11.v), (12, .i t12), (13, .i t13)] w from mp h) fun _ _ hK => (sq C7 (cn C25 hK (fun hK => (sk C26 fun a hA => nx hA (sq C8 (bk C9 1 (by kernel_rfl) (sr C10 hK fun _ _ hK => (sq C11 (sr C12 hK fun _ _ hK => (cn C13 hK (fun hK => (sr C14 hK fun _ _ hK => (rt C27 fun a hA => retVC_sound hA hK))) (fun hK => (sk C28 fun a hA => nx hA (sr C15 hK fun _ _ hK => (sr C16 hK fun _ _ hK => (sr C17 hK fun _ _ hK => (cn C18 hK (fun hK => (sr C19 hK fun _ _ hK => (rt C29 fun a hA => retVC_sound hA hK))) (fun hK => (sk C30 fun a hA => nx hA (rg C20 (by kernel_rfl) hK fun _ _ a hA hK => KE_L0_ok R _ _ hK a hA))))))))))))))))) (fun hK => (xt C31 0 (by kernel_rfl) fun a hA => nx hA (sq C6 (sr C21 hK fun _ _ hK => (cn C22 hK (fun hK => (sr C23 hK fun _ _ hK => (rt C32 fun a hA => retVC_sound hA hK))) (fun hK => (sk C33 fun a hA => nx hA (sr C24 hK fun _ _ hK => (rt C34 fun a hA => retVC_sound hA hK))))))))))))
/-- slices.CompareFunc[[]enthymeme/regex.Regex,[]enthymeme/regex.Regex,enthymeme/regex.Regex,enthymeme/regex.Regex] -/
theorem ok (s10 s21 : Sl) (w : World) (R : Post) (h : L0 s10 s21 s10 ((s10.n : Nat) : Int) 0 w R) : Calls Tryz.prog n_slices_CompareFunc_sl_regex_Regex_sl_regex_Regex_regex_Regex_regex_Regex #[s10.v, s21.v, .func (.func n_regex_Compare) #[] #[]] w R :=
  calls_of_WP' (R := R) (fn := Tryz.f36) (c := C0) (args := [s10.v, s21.v, .func (.func n_regex_Compare) #[] #[]]) (by kernel_rfl) (by kernel_rfl) (by kernel_rfl) (sr C0 (show (fun (E : Env) (w : World) => srK Tryz.prog C0 (fun E w => srK Tryz.prog C2 (fun E w => KE_L0 E w R) E w) E w) (envOf 0 [s10.v, s21.v, .func (.func n_regex_Compare) #[] #[]]) w from mp h) fun _ _ hK => (sq C1 (sr C2 hK fun _ _ hK => (bk C3 0 (by kernel_rfl) (lp C4 (by kernel_rfl) (KE_L0_ok R _ _ hK))))))
def L0T (s10 s21 t11 : Sl) (t12 t13 : Int) (w : World) (R : Post) : Prop := LC w [] → L0 s10 s21 t11 t12 t13 w R
theorem L0T_step (s10 s21 t11 : Sl) (t12 t13 : Int) (w : World) (R : Post) (h : sel (decide (t13 < t12)) ((0 : Int) ≤ t13 ∧ t13 < ((t11.n : Nat) : Int) ∧ optP t11.a fun t16_p => ld4_0 w (t16_p.add (Int.toNat t13 * 4)) fun t17_0 t17_1 t17_2 t17_3 => newV [] w fun b8 w1 => 
  sel (decide (t13 ≥ ((s21.n : Nat) : Int))) (loc [b8] w1 fun w5 => R (.returned (.i 1)) w5) ((0 : Int) ≤ t13 ∧ t13 < ((s21.n : Nat) : Int) ∧ optP s21.a fun t24_p => loc [b8] w1 fun w5 => ld4_0 w5 (t24_p.add (Int.toNat t13 * 4)) fun t25_0 t25_1 t25_2 t25_3 => newV [b8] w5 fun b9 w6 => 
  loc [b8, b9] w6 fun w10 => cf0 [b8, b9] n_regex_Compare #[.agg #[.i t17_0, .int .u8 t17_1, .int .u8 t17_2, t17_3.v], .agg #[.i t25_0, .int .u8 t25_1, .int .u8 t25_2, t25_3.v]] w10 fun t29 w11 => sel (t29 != 0) (R (.returned (.i t29)) w11) (L0T s10 s21 t11 t12 (IntKind.wrap .i64 (t13 + 1)) w11 R))) (sel (decide (((s10.n : Nat) : Int) < ((s21.n : Nat) : Int))) (R (.returned (.i (-1))) w) (R (.returned (.i 0)) w))) : L0T s10 s21 t11 t12 t13 w R := fun H => L0_step _ _ _ _ _ w R (sel_imp h (fun h => ⟨h.1, h.2.1, have h := h.2.2; optP_imp h fun t16_p h => let ⟨t17_0, t17_1, t17_2, t17_3, hc0, hc1, hc2, hc3, h⟩ := h; ⟨t17_0, t17_1, t17_2, t17_3, hc0, hc1, hc2, hc3, LC.nwT (LC.nil _) (Fr.refl _ _) h fun w1 H h => LC.stT0 H 0 (Fr.refl _ _) rfl rfl fun w2 H f => LC.stT H 0 1 f rfl rfl fun w3 H f => LC.stT H 0 2 f rfl rfl fun w4 H f => LC.stT H 0 3 f rfl rfl fun w5 (H : LC w5 [(w.heap.size, [.i t17_0, .int .u8 t17_1, .int .u8 t17_2, t17_3.v], ty_regex_Regex)]) (f : Fr (· ∈ [w.heap.size]) _ w5) => sel_imp h (fun h => have h := h _ f; h) (fun h => ⟨h.1, h.2.1, have h := h.2.2; optP_imp h fun t24_p h => have h := h _ f; let ⟨t25_0, t25_1, t25_2, t25_3, hc0, hc1, hc2, hc3, h⟩ := h; ⟨t25_0, t25_1, t25_2, t25_3, hc0, hc1, hc2, hc3, LC.nwT H (Fr.refl _ _) h fun w6 H h => LC.stT0 H 1 (Fr.refl _ _) rfl rfl fun w7 H f => LC.stT H 1 1 f rfl rfl fun w8 H f => LC.stT H 1 2 f rfl rfl fun w9 H f => LC.stT H 1 3 f rfl rfl fun w10 (H : LC w10 [(w.heap.size, [.i t17_0, .int .u8 t17_1, .int .u8 t17_2, t17_3.v], ty_regex_Regex), (w5.heap.size, [.i t25_0, .int .u8 t25_1, .int .u8 t25_2, t25_3.v], ty_regex_Regex)]) (f : Fr (· ∈ [w.heap.size, w5.heap.size]) _ w10) => ⟨_, _, _, t17_3, H.ld 0 0, H.ld 0 1, H.ld 0 2, H.ld 0 3, ⟨_, _, _, t25_3, H.ld 1 0, H.ld 1 1, H.ld 1 2, H.ld 1 3, have h := h _ f; LC.callT H h fun r_ w11 H h => let ⟨t29, hr, h⟩ := h; ⟨t29, hr, sel_imp h (fun h => h) (fun h => h (LC.nil _))⟩⟩⟩⟩⟩)⟩⟩) (fun h => sel_imp h (fun h => h) (fun h => h)))
theorem okT (s10 s21 : Sl) (w : World) (R : Post) (h : L0T s10 s21 s10 ((s10.n : Nat) : Int) 0 w R) : Calls Tryz.prog n_slices_CompareFunc_sl_regex_Regex_sl_regex_Regex_regex_Regex_regex_Regex #[s10.v, s21.v, .func (.func n_regex_Compare) #[] #[]] w R :=
  ok _ _ w R (h (LC.nil _))
end slices_CompareFunc_sl_regex_Regex_sl_regex_Regex_regex_Regex_regex_Regex
namespace regex_equal
noncomputable def C0 : Code := (Tryz.f50.body).getD .skip
/-- enthymeme/regex.equal -/
noncomputable def C1:=C0.sn
noncomputable def C2:=C1.sn
theorem ok (a0_0 a0_1 a0_2 : Int) (a0_3 : Sl) (b1_0 b1_1 b1_2 : Int) (b1_3 : Sl) (w : World) (R : Post) (h : nwV w (.cells #[.i a0_0, .int .u8 a0_1, .int .u8 a0_2, a0_3.v] ty_regex_Regex) fun w1 => 
  nwV w1 (.cells #[.i b1_0, .int .u8 b1_1, .int .u8 b1_2, b1_3.v] ty_regex_Regex) fun w2 => 
  ld4_0 w2 (nb w) fun t5_0 t5_1 t5_2 t5_3 => ld4_0 w2 (nb w1) fun t6_0 t6_1 t6_2 t6_3 => ca0 n_regex_Compare #[.agg #[.i t5_0, .int .u8 t5_1, .int .u8 t5_2, t5_3.v], .agg #[.i t6_0, .int .u8 t6_1, .int .u8 t6_2, t6_3.v]] w2 fun t7 w3 => R (.returned (.bool (t7 == 0))) w3) : Calls Tryz.prog n_regex_equal #[.agg #[.i a0_0, .int .u8 a0_1, .int .u8 a0_2, a0_3.v], .agg #[.i b1_0, .int .u8 b1_1, .int .u8 b1_2, b1_3.v]] w R :=
  calls_of_WP' (R := R) (fn := Tryz.f50) (c := C0) (args := [.agg #[.i a0_0, .int .u8 a0_1, .int .u8 a0_2, a0_3.v], .agg #[.i b1_0, .int .u8 b1_1, .int .u8 b1_2, b1_3.v]]) (by kernel_rfl) (by kernel_rfl) (by kernel_rfl) (sr C0 (show (fun (E : Env) (w : World) => srK Tryz.prog C0 (fun E w => srK Tryz.prog C1 (fun E w => retVC Tryz.prog Tryz.f50 E w (fun v => R (.returned v) w)) E w) E w) (envOf 0 [.agg #[.i a0_0, .int .u8 a0_1, .int .u8 a0_2, a0_3.v], .agg #[.i b1_0, .int .u8 b1_1, .int .u8 b1_2, b1_3.v]]) w from mp h) fun _ _ hK => (sr C1 hK fun _ _ hK => (rt C2 fun a hA => retVC_sound hA hK)))
theorem okT (a0_0 a0_1 a0_2 : Int) (a0_3 : Sl) (b1_0 b1_1 b1_2 : Int) (b1_3 : Sl) (w : World) (R : Post) (h : newV [] w fun b2 w1 => 
  newV [b2] w1 fun b3 w2 => 
  cf0 [b2, b3] n_regex_Compare #[.agg #[.i a0_0, .int .u8 a0_1, .int .u8 a0_2, a0_3.v], .agg #[.i b1_0, .int .u8 b1_1, .int .u8 b1_2, b1_3.v]] w2 fun t7 w3 => R (.returned (.bool (t7 == 0))) w3) : Calls Tryz.prog n_regex_equal #[.agg #[.i a0_0, .int .u8 a0_1, .int .u8 a0_2, a0_3.v], .agg #[.i b1_0, .int .u8 b1_1, .int .u8 b1_2, b1_3.v]] w R :=
  ok _ _ _ _ _ _ _ _ w R (LC.nwT (LC.nil _) (Fr.refl _ _) h fun w1 H h => LC.nwT H (Fr.refl _ _) h fun w2 H h => ⟨_, _, _, a0_3, H.ld 0 0, H.ld 0 1, H.ld 0 2, H.ld 0 3, ⟨_, _, _, b1_3, H.ld 1 0, H.ld 1 1, H.ld 1 2, H.ld 1 3, LC.callT H h fun r_ w3 H h => let ⟨t7, hr, h⟩ := h; ⟨t7, hr, h⟩⟩⟩)
end regex_equal
end Go.Proofs.YtknlbofiicflgaaGreat

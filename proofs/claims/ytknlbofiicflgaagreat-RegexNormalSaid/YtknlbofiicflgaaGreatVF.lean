/- Printed by a program of ours (vcgen.py) from the dump: the conditions of the functions, and that they suffice. -/
import Derived.Test.YtknlbofiicflgaaGreatVN
set_option linter.unusedVariables false
set_option maxRecDepth 100000
set_option maxHeartbeats 2000000
namespace Go.Proofs.YtknlbofiicflgaaGreat
open Go Go.W
namespace regex_forms
noncomputable def C0 : Code := (Tryz.f26.body).getD .skip
noncomputable def C1:=C0.sn
noncomputable def C2:=C1.sn
noncomputable def C3:=C2.sn
noncomputable def C4:=C3.sn
noncomputable def C5:=C4.sn
/-- enthymeme/regex.forms -/
noncomputable def C6:=C5.sn
theorem ok  (w : World) (R : Post) (h : nwV w (.cells #[.i 0, .int .u8 0, .int .u8 0, .slice none 0 0] ty_regex_Regex) fun w1 => 
  nwV w1 (.cells #[.i 0, .int .u8 0, .int .u8 0, .slice none 0 0] ty_regex_Regex) fun w2 => 
  stW4 w2 (nb w) (.i 0) (.int .u8 0) (.int .u8 0) (.slice none 0 0) fun w6 => stV w6 (nb w1) (.i 1) fun w7 => 
  stV w7 ((nb w1).add 1) (.int .u8 0) fun w8 => 
  stV w8 ((nb w1).add 2) (.int .u8 0) fun w9 => 
  stV w9 ((nb w1).add 3) (.slice none 0 0) fun w10 => 
  ld4_0 w10 (nb w) fun t8_0 t8_1 t8_2 t8_3 => nwV w10 (.cells #[.i t8_0, .int .u8 t8_1, .int .u8 t8_2, t8_3.v] ty_regex_Regex) fun w11 => 
  nwV w11 (.cells #[.i 0, .int .u8 0, .int .u8 0, .slice none 0 0] ty_regex_Regex) fun w12 => 
  stW4 w12 (nb w11) (.i 6) (.int .u8 0) (.int .u8 0) (.slice (some (nb w10)) 1 1) fun w16 => siK Tryz.prog C5 (fun E w => retVC Tryz.prog Tryz.f26 E w (fun v => R (.returned v) w)) [(5, .func (.func n_regex_forms_2) #[] #[]), (4, .func (.func n_regex_forms_1) #[] #[]), (3, .pointer (some (nb w11))), (10, .agg #[.i 6, .int .u8 0, .int .u8 0, .slice (some (nb w10)) 1 1]), (9, .slice (some (nb w10)) 1 1), (8, .agg #[.i t8_0, .int .u8 t8_1, .int .u8 t8_2, t8_3.v]), (2, .pointer (some (nb w1))), (1, .pointer (some (nb w))), (7, .agg #[.i 1, .int .u8 0, .int .u8 0, .slice none 0 0]), (6, .agg #[.i 0, .int .u8 0, .int .u8 0, .slice none 0 0]), (0, .map none)] w16) : Calls Tryz.prog n_regex_forms #[] w R :=
  calls_of_WP' (R := R) (fn := Tryz.f26) (c := C0) (args := []) (by kernel_rfl) (by kernel_rfl) (by kernel_rfl) (sr C0 (show (fun (E : Env) (w : World) => srK Tryz.prog C0 (fun E w => srK Tryz.prog C1 (fun E w => srK Tryz.prog C2 (fun E w => srK Tryz.prog C3 (fun E w => srK Tryz.prog C4 (fun E w => siK Tryz.prog C5 (fun E w => retVC Tryz.prog Tryz.f26 E w (fun v => R (.returned v) w)) E w) E w) E w) E w) E w) E w) (envOf 0 []) w from mp h) fun _ _ hK => (sr C1 hK fun _ _ hK => (sr C2 hK fun _ _ hK => (sr C3 hK fun _ _ hK => (sr C4 hK fun _ _ hK => (si C5 (by kernel_rfl) hK fun _ _ hK => (rt C6 fun a hA => retVC_sound hA hK)))))))
end regex_forms
end Go.Proofs.YtknlbofiicflgaaGreat

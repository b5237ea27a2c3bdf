/- Printed by a program of ours (vcgen.py) from the dump: the conditions of the functions, and that they suffice. -/
import Derived.Test.YtknlbofiicflgaaGreatVD
import Derived.Test.YtknlbofiicflgaaGreatY
set_option linter.unusedVariables false
set_option maxRecDepth 100000
set_option maxHeartbeats 2000000
namespace Go.Proofs.YtknlbofiicflgaaGreat
open Go Go.W
namespace regex_Nullable
noncomputable def C0 : Code := (Tryz.f20.body).getD .skip
/-- enthymeme/regex.Nullable -/
noncomputable def C1:=C0.sn
noncomputable def C2:=C1.fs
noncomputable def C3:=C2.sn
noncomputable def C4:=C3.sn
noncomputable def C5:=C4.fs
noncomputable def C6:=C1.sn
noncomputable def C7:=C5.sn
noncomputable def C8:=C4.sn
noncomputable def C9:=C6.sn
theorem ok (r0_0 r0_1 r0_2 : Int) (r0_3 : Sl) (w : World) (R : Post) (h : nwV w (.cells #[.i r0_0, .int .u8 r0_1, .int .u8 r0_2, r0_3.v] ty_regex_Regex) fun w1 => 
  ld4_0 w1 (nb w) fun t5_0 t5_1 t5_2 t5_3 => ca0 n_regex_Valid #[.agg #[.i t5_0, .int .u8 t5_1, .int .u8 t5_2, t5_3.v]] w1 fun t6 w2 => sel (t6 != 0) (R (.returned (.tuple #[.bool false, .i t6])) w2) (ld4_0 w2 (nb w) fun t10_0 t10_1 t10_2 t10_3 => ca1 n_regex_nullable #[.agg #[.i t10_0, .int .u8 t10_1, .int .u8 t10_2, t10_3.v]] w2 fun t11 w3 => R (.returned (.tuple #[.bool t11, .i 0])) w3)) : Calls Tryz.prog n_regex_Nullable #[.agg #[.i r0_0, .int .u8 r0_1, .int .u8 r0_2, r0_3.v]] w R :=
  calls_of_WP' (R := R) (fn := Tryz.f20) (c := C0) (args := [.agg #[.i r0_0, .int .u8 r0_1, .int .u8 r0_2, r0_3.v]]) (by kernel_rfl) (by kernel_rfl) (by kernel_rfl) (sr C0 (show (fun (E : Env) (w : World) => srK Tryz.prog C0 (fun E w => srK Tryz.prog C2 (fun E w => srK Tryz.prog C3 (fun E w => condK (Env.val E (.tmp 8)) (srK Tryz.prog C5 (fun E w => retVC Tryz.prog Tryz.f20 E w (fun v => R (.returned v) w)) E w) (srK Tryz.prog C6 (fun E w => retVC Tryz.prog Tryz.f20 E w (fun v => R (.returned v) w)) E w)) E w) E w) E w) (envOf 0 [.agg #[.i r0_0, .int .u8 r0_1, .int .u8 r0_2, r0_3.v]]) w from mp h) fun _ _ hK => (sq C1 (sr C2 hK fun _ _ hK => (sr C3 hK fun _ _ hK => (cn C4 hK (fun hK => (sr C5 hK fun _ _ hK => (rt C7 fun a hA => retVC_sound hA hK))) (fun hK => (sk C8 fun a hA => nx hA (sr C6 hK fun _ _ hK => (rt C9 fun a hA => retVC_sound hA hK)))))))))
theorem okT (r0_0 r0_1 r0_2 : Int) (r0_3 : Sl) (w : World) (R : Post) (h : newV [] w fun b1 w1 => 
  cf0 [b1] n_regex_Valid #[.agg #[.i r0_0, .int .u8 r0_1, .int .u8 r0_2, r0_3.v]] w1 fun t6 w2 => sel (t6 != 0) (R (.returned (.tuple #[.bool false, .i t6])) w2) (cf1 [b1] n_regex_nullable #[.agg #[.i r0_0, .int .u8 r0_1, .int .u8 r0_2, r0_3.v]] w2 fun t11 w3 => R (.returned (.tuple #[.bool t11, .i 0])) w3)) : Calls Tryz.prog n_regex_Nullable #[.agg #[.i r0_0, .int .u8 r0_1, .int .u8 r0_2, r0_3.v]] w R :=
  ok _ _ _ _ w R (LC.nwT (LC.nil _) (Fr.refl _ _) h fun w1 H h => ⟨_, _, _, r0_3, H.ld 0 0, H.ld 0 1, H.ld 0 2, H.ld 0 3, LC.callT H h fun r_ w2 H h => let ⟨t6, hr, h⟩ := h; ⟨t6, hr, sel_imp h (fun h => h) (fun h => ⟨_, _, _, r0_3, H.ld 0 0, H.ld 0 1, H.ld 0 2, H.ld 0 3, LC.callT H h fun r_ w3 H h => let ⟨t11, hr, h⟩ := h; ⟨t11, hr, h⟩⟩)⟩⟩)
end regex_Nullable
end Go.Proofs.YtknlbofiicflgaaGreat

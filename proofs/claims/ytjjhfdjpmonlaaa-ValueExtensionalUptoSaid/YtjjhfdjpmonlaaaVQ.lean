/- Printed by a program of ours (vcgen.py) from the dump: the conditions of the functions, and that they suffice. -/
import Derived.Test.YtjjhfdjpmonlaaaV
import Derived.Test.YtjjhfdjpmonlaaaY
set_option linter.unusedVariables false
set_option maxRecDepth 100000
set_option maxHeartbeats 2000000
namespace Go.Proofs.Ytjjhfdjpmonlaaa
open Go
namespace enthymemeref06_within
noncomputable def C0 : Code := (Try.f40.body).getD .skip
/-- enthymeme/enthymemeref06.within -/
noncomputable def C1 := W.Code.snd C0
noncomputable def C2 := W.Code.snd C1
theorem ok (n0 lo1 hi2 : Int) (w : World) (R : W.Post) (h : W.sel (decide (n0 ≥ lo1)) (R (.returned (.bool (decide (n0 ≤ hi2)))) w) (R (.returned (.bool false)) w)) : Calls Try.prog n_enthymemeref06_within #[.int .i64 n0, .int .i64 lo1, .int .i64 hi2] w R :=
  W.calls_of_WP' (R := R) (fn := Try.f40) (c := C0) (args := [.int .i64 n0, .int .i64 lo1, .int .i64 hi2]) (by kernel_rfl) (by kernel_rfl) (by kernel_rfl) (W.sr C0 (by kernel_rfl) (show (fun (E : W.Env) (w : World) => W.srK Try.prog C0 (fun E w => W.srK Try.prog C1 (fun E w => W.retVC Try.prog Try.f40 E w (fun v => R (.returned v) w)) E w) E w) (W.envOf 0 [.int .i64 n0, .int .i64 lo1, .int .i64 hi2]) w from Eq.mp (by kernel_rfl) h) fun _ _ hK => (W.sr C1 (by kernel_rfl) hK fun _ _ hK => (W.rt C2 (by kernel_rfl) fun a hA => W.retVC_sound hA hK)))
end enthymemeref06_within
namespace enthymemeref06_Array
noncomputable def C0 : Code := (Try.f44.body).getD .skip
/-- enthymeme/enthymemeref06.Array -/
noncomputable def C1 := W.Code.snd C0
noncomputable def C2 := W.Code.snd C1
theorem ok (s0_0 s0_1 s0_2 : Int) (w : World) (R : W.Post) (h : W.nwV w (.cells #[.int .i64 s0_0, .int .i64 s0_1, .int .i64 s0_2] ty_api_Sort) fun w1 => 
  ∃ t4 : Int, w1.cell? ((Addr.mk w.heap.size 0 none).add 0) = some (.int .i64 t4) ∧ 
  W.sel (t4 == 2) (R (.returned (.bool true)) w1) (∃ t8 : Int, w1.cell? ((Addr.mk w.heap.size 0 none).add 0) = some (.int .i64 t8) ∧ 
  R (.returned (.bool (t8 == 3))) w1)) : Calls Try.prog n_enthymemeref06_Array #[.agg #[.int .i64 s0_0, .int .i64 s0_1, .int .i64 s0_2]] w R :=
  W.calls_of_WP' (R := R) (fn := Try.f44) (c := C0) (args := [.agg #[.int .i64 s0_0, .int .i64 s0_1, .int .i64 s0_2]]) (by kernel_rfl) (by kernel_rfl) (by kernel_rfl) (W.sr C0 (by kernel_rfl) (show (fun (E : W.Env) (w : World) => W.srK Try.prog C0 (fun E w => W.srK Try.prog C1 (fun E w => W.retVC Try.prog Try.f44 E w (fun v => R (.returned v) w)) E w) E w) (W.envOf 0 [.agg #[.int .i64 s0_0, .int .i64 s0_1, .int .i64 s0_2]]) w from Eq.mp (by kernel_rfl) h) fun _ _ hK => (W.sr C1 (by kernel_rfl) hK fun _ _ hK => (W.rt C2 (by kernel_rfl) fun a hA => W.retVC_sound hA hK)))
theorem okT (s0_0 s0_1 s0_2 : Int) (w : World) (R : W.Post) (h : W.newV [] w fun b1 w1 => 
  W.sel (s0_0 == 2) (R (.returned (.bool true)) w1) (R (.returned (.bool (s0_0 == 3))) w1)) : Calls Try.prog n_enthymemeref06_Array #[.agg #[.int .i64 s0_0, .int .i64 s0_1, .int .i64 s0_2]] w R :=
  ok _ _ _ w R (W.LC.nwT (W.LC.nil _) (W.Fr.refl _ _) h fun w1 H h => ⟨_, H.ld 0 0, W.sel_imp h (fun h => h) (fun h => ⟨_, H.ld 0 0, h⟩)⟩)
end enthymemeref06_Array
namespace enthymemeref06_ValidSort
noncomputable def C0 : Code := (Try.f10.body).getD .skip
noncomputable def C1 := W.Code.snd C0
noncomputable def C2 := W.Code.snd C1
noncomputable def C3 := W.Code.snd C2
noncomputable def C4 := W.Code.fst C3
noncomputable def C5 := W.Code.snd C3
abbrev Q0 (R : W.Post) : Exit → Act → World → Prop := (Exit.then (W.wpx Try.prog (W.cx 48) C5 (bodyPost Try.prog Try.f10 R)) (bodyPost Try.prog Try.f10 R))
noncomputable def C6 := W.Code.snd C4
noncomputable def C7 := W.Code.fst C6
noncomputable def C8 := W.Code.snd C7
noncomputable def C9 := W.Code.snd C6
noncomputable def C10 := W.Code.snd C5
/-- ref.go:44 -/
abbrev S0 (fine3 : Bool) (w : World) (R : W.Post) : Prop :=
  W.sel (!fine3) (R (.returned (.int .i64 9)) w) (R (.returned (.int .i64 0)) w)
def KE_S0 (E : W.Env) (w : World) (R : W.Post) : Prop := W.asBool' (W.Env.get? E 3) fun fine3 => S0 fine3 w R
theorem KE_S0_ok (R : W.Post) (E : W.Env) (w : World) (h : KE_S0 E w R) : W.WP Try.prog (W.cx 48) C4 (Q0 R) E w := by
  obtain ⟨fine3, hq3, h_1⟩ := W.asBool_elim h
  exact fun a ha => W.WP.at (E := [(3, .bool fine3)]) (W.sr C4 (K := fun E w => W.condK (W.Env.val E (.tmp 47)) (W.srK Try.prog C7 (fun E w => W.retVC Try.prog Try.f10 E w (fun v => R (.returned v) w)) E w) (W.srK Try.prog C5 (fun E w => W.retVC Try.prog Try.f10 E w (fun v => R (.returned v) w)) E w)) (by kernel_rfl) (Eq.mp (by kernel_rfl) h_1) fun _ _ hK => (W.cn C6 (by kernel_rfl) hK (fun hK => (W.sr C7 (by kernel_rfl) hK fun _ _ hK => (W.rt C8 (by kernel_rfl) fun a hA => W.retVC_sound hA hK))) (fun hK => (W.sk C9 (by kernel_rfl) fun a hA => W.nx hA (W.sr C5 (by kernel_rfl) hK fun _ _ hK => (W.rt C10 (by kernel_rfl) fun a hA => W.retVC_sound hA hK)))))) (ha.cons hq3 ha.nil)
/-- enthymeme/enthymemeref06.ValidSort -/
noncomputable def C11 := W.Code.fst C2
noncomputable def C12 := W.Code.snd C11
noncomputable def C13 := W.Code.fst C12
noncomputable def C14 := W.Code.snd C13
noncomputable def C15 := W.Code.fst C14
noncomputable def C16 := W.Code.snd C14
noncomputable def C17 := W.Code.snd C16
noncomputable def C18 := W.Code.fst C17
noncomputable def C19 := W.Code.snd C17
noncomputable def C20 := W.Code.snd C19
noncomputable def C21 := W.Code.fst C20
noncomputable def C22 := W.Code.snd C20
noncomputable def C23 := W.Code.snd C22
noncomputable def C24 := W.Code.fst C23
noncomputable def C25 := W.Code.snd C23
theorem ok (s0_0 s0_1 s0_2 : Int) (w : World) (R : W.Post) (h : W.nwV w (.cells #[.int .i64 s0_0, .int .i64 s0_1, .int .i64 s0_2] ty_api_Sort) fun w1 => 
  ∃ t5 : Int, w1.cell? ((Addr.mk w.heap.size 0 none).add 0) = some (.int .i64 t5) ∧ 
  W.sel (t5 == 0) (∃ t9 : Int, w1.cell? ((Addr.mk w.heap.size 0 none).add 1) = some (.int .i64 t9) ∧ 
  Calls Try.prog n_enthymemeref06_within #[.int .i64 t9, .int .i64 1, .int .i64 64] w1 fun r_ w2 => ∃ t10 : Bool, r_ = .returned (.bool t10) ∧ 
  W.sel t10 (∃ t13 : Int, w2.cell? ((Addr.mk w.heap.size 0 none).add 2) = some (.int .i64 t13) ∧ 
  S0 (t13 == 0) w2 R) (S0 false w2 R)) (W.sel (t5 == 1) (∃ t19 : Int, w1.cell? ((Addr.mk w.heap.size 0 none).add 1) = some (.int .i64 t19) ∧ 
  Calls Try.prog n_enthymemeref06_within #[.int .i64 t19, .int .i64 0, .int .i64 64] w1 fun r_ w3 => ∃ t20 : Bool, r_ = .returned (.bool t20) ∧ 
  W.sel t20 (∃ t23 : Int, w3.cell? ((Addr.mk w.heap.size 0 none).add 2) = some (.int .i64 t23) ∧ 
  S0 (t23 == 0) w3 R) (S0 false w3 R)) (W.sel (t5 == 2) (∃ t29 : Int, w1.cell? ((Addr.mk w.heap.size 0 none).add 1) = some (.int .i64 t29) ∧ 
  Calls Try.prog n_enthymemeref06_within #[.int .i64 t29, .int .i64 1, .int .i64 64] w1 fun r_ w4 => ∃ t30 : Bool, r_ = .returned (.bool t30) ∧ 
  W.sel t30 (∃ t33 : Int, w4.cell? ((Addr.mk w.heap.size 0 none).add 2) = some (.int .i64 t33) ∧ 
  Calls Try.prog n_enthymemeref06_within #[.int .i64 t33, .int .i64 1, .int .i64 16] w4 fun r_ w5 => ∃ t34 : Bool, r_ = .returned (.bool t34) ∧ 
  S0 t34 w5 R) (S0 false w4 R)) (W.sel (t5 == 3) (∃ t39 : Int, w1.cell? ((Addr.mk w.heap.size 0 none).add 1) = some (.int .i64 t39) ∧ 
  Calls Try.prog n_enthymemeref06_within #[.int .i64 t39, .int .i64 0, .int .i64 64] w1 fun r_ w6 => ∃ t40 : Bool, r_ = .returned (.bool t40) ∧ 
  W.sel t40 (∃ t43 : Int, w6.cell? ((Addr.mk w.heap.size 0 none).add 2) = some (.int .i64 t43) ∧ 
  Calls Try.prog n_enthymemeref06_within #[.int .i64 t43, .int .i64 1, .int .i64 16] w6 fun r_ w7 => ∃ t44 : Bool, r_ = .returned (.bool t44) ∧ 
  S0 t44 w7 R) (S0 false w6 R)) (S0 false w1 R))))) : Calls Try.prog n_enthymemeref06_ValidSort #[.agg #[.int .i64 s0_0, .int .i64 s0_1, .int .i64 s0_2]] w R :=
  W.calls_of_WP' (R := R) (fn := Try.f10) (c := C0) (args := [.agg #[.int .i64 s0_0, .int .i64 s0_1, .int .i64 s0_2]]) (by kernel_rfl) (by kernel_rfl) (by kernel_rfl) (W.sr C0 (by kernel_rfl) (show (fun (E : W.Env) (w : World) => W.srK Try.prog C0 (fun E w => W.srK Try.prog C1 (fun E w => W.srK Try.prog C11 (fun E w => W.srK Try.prog C13 (fun E w => W.condK (W.Env.val E (.tmp 6)) (W.rgK Try.prog C15 (fun E w => KE_S0 E w R) E w) (W.srK Try.prog C16 (fun E w => W.condK (W.Env.val E (.tmp 16)) (W.rgK Try.prog C18 (fun E w => KE_S0 E w R) E w) (W.srK Try.prog C19 (fun E w => W.condK (W.Env.val E (.tmp 26)) (W.rgK Try.prog C21 (fun E w => KE_S0 E w R) E w) (W.srK Try.prog C22 (fun E w => W.condK (W.Env.val E (.tmp 36)) (W.rgK Try.prog C24 (fun E w => KE_S0 E w R) E w) (KE_S0 E w R)) E w)) E w)) E w)) E w) E w) E w) E w) (W.envOf 0 [.agg #[.int .i64 s0_0, .int .i64 s0_1, .int .i64 s0_2]]) w from Eq.mp (by kernel_rfl) h) fun _ _ hK => (W.sr C1 (by kernel_rfl) hK fun _ _ hK => (W.sq C2 (by kernel_rfl) (W.sr C11 (by kernel_rfl) hK fun _ _ hK => (W.bk C12 0 (by kernel_rfl) (W.sr C13 (by kernel_rfl) hK fun _ _ hK => (W.cn C14 (by kernel_rfl) hK (fun hK => (W.rg C15 (by kernel_rfl) hK fun _ _ a hA hK => W.nx hA (W.sq C3 (by kernel_rfl) (KE_S0_ok R _ _ hK)))) (fun hK => (W.sr C16 (by kernel_rfl) hK fun _ _ hK => (W.cn C17 (by kernel_rfl) hK (fun hK => (W.rg C18 (by kernel_rfl) hK fun _ _ a hA hK => W.nx hA (W.sq C3 (by kernel_rfl) (KE_S0_ok R _ _ hK)))) (fun hK => (W.sr C19 (by kernel_rfl) hK fun _ _ hK => (W.cn C20 (by kernel_rfl) hK (fun hK => (W.rg C21 (by kernel_rfl) hK fun _ _ a hA hK => W.nx hA (W.sq C3 (by kernel_rfl) (KE_S0_ok R _ _ hK)))) (fun hK => (W.sr C22 (by kernel_rfl) hK fun _ _ hK => (W.cn C23 (by kernel_rfl) hK (fun hK => (W.rg C24 (by kernel_rfl) hK fun _ _ a hA hK => W.nx hA (W.sq C3 (by kernel_rfl) (KE_S0_ok R _ _ hK)))) (fun hK => (W.sk C25 (by kernel_rfl) fun a hA => W.nx hA (W.sq C3 (by kernel_rfl) (KE_S0_ok R _ _ hK))))))))))))))))))))
abbrev S0T (fine3 : Bool) (w : World) (R : W.Post) : Prop :=
  W.sel (!fine3) (R (.returned (.int .i64 9)) w) (R (.returned (.int .i64 0)) w)
theorem S0T_ok {fine3 : Bool} {w : World} {R : W.Post} (h : S0T fine3 w R) (H : W.LC w []) : S0 fine3 w R := W.sel_imp h (fun h => h) (fun h => h)
theorem okT (s0_0 s0_1 s0_2 : Int) (w : World) (R : W.Post) (h : W.newV [] w fun b1 w1 => 
  W.sel (s0_0 == 0) (W.callF [b1] Try.prog n_enthymemeref06_within #[.int .i64 s0_1, .int .i64 1, .int .i64 64] w1 fun r_ w2 => ∃ t10 : Bool, r_ = .returned (.bool t10) ∧ 
  W.sel t10 (S0T (s0_2 == 0) w2 R) (S0T false w2 R)) (W.sel (s0_0 == 1) (W.callF [b1] Try.prog n_enthymemeref06_within #[.int .i64 s0_1, .int .i64 0, .int .i64 64] w1 fun r_ w3 => ∃ t20 : Bool, r_ = .returned (.bool t20) ∧ 
  W.sel t20 (S0T (s0_2 == 0) w3 R) (S0T false w3 R)) (W.sel (s0_0 == 2) (W.callF [b1] Try.prog n_enthymemeref06_within #[.int .i64 s0_1, .int .i64 1, .int .i64 64] w1 fun r_ w4 => ∃ t30 : Bool, r_ = .returned (.bool t30) ∧ 
  W.sel t30 (W.callF [b1] Try.prog n_enthymemeref06_within #[.int .i64 s0_2, .int .i64 1, .int .i64 16] w4 fun r_ w5 => ∃ t34 : Bool, r_ = .returned (.bool t34) ∧ 
  S0T t34 w5 R) (S0T false w4 R)) (W.sel (s0_0 == 3) (W.callF [b1] Try.prog n_enthymemeref06_within #[.int .i64 s0_1, .int .i64 0, .int .i64 64] w1 fun r_ w6 => ∃ t40 : Bool, r_ = .returned (.bool t40) ∧ 
  W.sel t40 (W.callF [b1] Try.prog n_enthymemeref06_within #[.int .i64 s0_2, .int .i64 1, .int .i64 16] w6 fun r_ w7 => ∃ t44 : Bool, r_ = .returned (.bool t44) ∧ 
  S0T t44 w7 R) (S0T false w6 R)) (S0T false w1 R))))) : Calls Try.prog n_enthymemeref06_ValidSort #[.agg #[.int .i64 s0_0, .int .i64 s0_1, .int .i64 s0_2]] w R :=
  ok _ _ _ w R (W.LC.nwT (W.LC.nil _) (W.Fr.refl _ _) h fun w1 H h => ⟨_, H.ld 0 0, W.sel_imp h (fun h => ⟨_, H.ld 0 1, W.LC.callT H h fun r_ w2 H h => let ⟨t10, hr, h⟩ := h; ⟨t10, hr, W.sel_imp h (fun h => ⟨_, H.ld 0 2, S0T_ok h (W.LC.nil _)⟩) (fun h => S0T_ok h (W.LC.nil _))⟩⟩) (fun h => W.sel_imp h (fun h => ⟨_, H.ld 0 1, W.LC.callT H h fun r_ w3 H h => let ⟨t20, hr, h⟩ := h; ⟨t20, hr, W.sel_imp h (fun h => ⟨_, H.ld 0 2, S0T_ok h (W.LC.nil _)⟩) (fun h => S0T_ok h (W.LC.nil _))⟩⟩) (fun h => W.sel_imp h (fun h => ⟨_, H.ld 0 1, W.LC.callT H h fun r_ w4 H h => let ⟨t30, hr, h⟩ := h; ⟨t30, hr, W.sel_imp h (fun h => ⟨_, H.ld 0 2, W.LC.callT H h fun r_ w5 H h => let ⟨t34, hr, h⟩ := h; ⟨t34, hr, S0T_ok h (W.LC.nil _)⟩⟩) (fun h => S0T_ok h (W.LC.nil _))⟩⟩) (fun h => W.sel_imp h (fun h => ⟨_, H.ld 0 1, W.LC.callT H h fun r_ w6 H h => let ⟨t40, hr, h⟩ := h; ⟨t40, hr, W.sel_imp h (fun h => ⟨_, H.ld 0 2, W.LC.callT H h fun r_ w7 H h => let ⟨t44, hr, h⟩ := h; ⟨t44, hr, S0T_ok h (W.LC.nil _)⟩⟩) (fun h => S0T_ok h (W.LC.nil _))⟩⟩) (fun h => S0T_ok h (W.LC.nil _)))))⟩)
end enthymemeref06_ValidSort
namespace enthymemeref06_fits
noncomputable def C0 : Code := (Try.f43.body).getD .skip
/-- enthymeme/enthymemeref06.fits -/
noncomputable def C1 := W.Code.snd C0
noncomputable def C2 := W.Code.snd C1
theorem ok (u0 bits1 : Int) (w : World) (R : W.Post) (h : W.sel (decide (bits1 > 63)) (R (.returned (.bool true)) w) (¬ (IntKind.wrap .u64 bits1) < 0 ∧ R (.returned (.bool (decide (u0 < (IntKind.wrap .u64 (1 * 2 ^ (min (Int.toNat (IntKind.wrap .u64 bits1)) (IntKind.bits .u64)))))))) w)) : Calls Try.prog n_enthymemeref06_fits #[.int .u64 u0, .int .i64 bits1] w R :=
  W.calls_of_WP' (R := R) (fn := Try.f43) (c := C0) (args := [.int .u64 u0, .int .i64 bits1]) (by kernel_rfl) (by kernel_rfl) (by kernel_rfl) (W.sr C0 (by kernel_rfl) (show (fun (E : W.Env) (w : World) => W.srK Try.prog C0 (fun E w => W.srK Try.prog C1 (fun E w => W.retVC Try.prog Try.f43 E w (fun v => R (.returned v) w)) E w) E w) (W.envOf 0 [.int .u64 u0, .int .i64 bits1]) w from Eq.mp (by kernel_rfl) h) fun _ _ hK => (W.sr C1 (by kernel_rfl) hK fun _ _ hK => (W.rt C2 (by kernel_rfl) fun a hA => W.retVC_sound hA hK)))
end enthymemeref06_fits
namespace enthymemeref06_Valid
noncomputable def C0 : Code := (Try.f15.body).getD .skip
noncomputable def C1 := W.Code.snd C0
noncomputable def C2 := W.Code.snd C1
noncomputable def C3 := W.Code.snd C2
noncomputable def C4 := W.Code.fst C3
noncomputable def C5 := W.Code.snd C4
noncomputable def C6 := W.Code.fst C5
noncomputable def C7 := W.Code.snd C3
abbrev Q0 (R : W.Post) : Exit → Act → World → Prop := (Exit.then (W.wpx Try.prog (W.cx 149) C7 (bodyPost Try.prog Try.f15 R)) (bodyPost Try.prog Try.f15 R))
noncomputable def C8 := W.Code.snd C6
/-- ref.go:60 -/
abbrev S0  (w : World) (R : W.Post) : Prop :=
  R (.returned (.int .i64 1)) w
def KE_S0 (E : W.Env) (w : World) (R : W.Post) : Prop := S0  w R
theorem KE_S0_ok (R : W.Post) (E : W.Env) (w : World) (h : KE_S0 E w R) : W.WP Try.prog (W.cx 149) C6 (Q0 R) E w := by
  exact fun a ha => W.WP.at (E := []) (W.sr C6 (K := fun E w => W.retVC Try.prog Try.f15 E w (fun v => R (.returned v) w)) (by kernel_rfl) (Eq.mp (by kernel_rfl) h) fun _ _ hK => (W.rt C8 (by kernel_rfl) fun a hA => W.retVC_sound hA hK)) ha.nil
noncomputable def C9 := W.Code.fst C7
noncomputable def C10 := W.Code.snd C9
noncomputable def C11 := W.Code.fst C10
noncomputable def C12 := W.Code.snd C7
abbrev Q1 (R : W.Post) : Exit → Act → World → Prop := (Exit.then (W.wpx Try.prog (W.cx 149) C12 (bodyPost Try.prog Try.f15 R)) (bodyPost Try.prog Try.f15 R))
noncomputable def C13 := W.Code.snd C11
/-- ref.go:63 -/
abbrev S2  (w : World) (R : W.Post) : Prop :=
  R (.returned (.int .i64 1)) w
def KE_S2 (E : W.Env) (w : World) (R : W.Post) : Prop := S2  w R
theorem KE_S2_ok (R : W.Post) (E : W.Env) (w : World) (h : KE_S2 E w R) : W.WP Try.prog (W.cx 149) C11 (Q1 R) E w := by
  exact fun a ha => W.WP.at (E := []) (W.sr C11 (K := fun E w => W.retVC Try.prog Try.f15 E w (fun v => R (.returned v) w)) (by kernel_rfl) (Eq.mp (by kernel_rfl) h) fun _ _ hK => (W.rt C13 (by kernel_rfl) fun a hA => W.retVC_sound hA hK)) ha.nil
noncomputable def C14 := W.Code.snd C12
noncomputable def C15 := W.Code.fst C14
noncomputable def C16 := W.Code.snd C15
noncomputable def C17 := W.Code.fst C16
noncomputable def C18 := W.Code.snd C14
abbrev Q2 (R : W.Post) : Exit → Act → World → Prop := (Exit.then (W.wpx Try.prog (W.cx 149) C18 (bodyPost Try.prog Try.f15 R)) (bodyPost Try.prog Try.f15 R))
noncomputable def C19 := W.Code.snd C17
/-- ref.go:69 -/
abbrev S4  (w : World) (R : W.Post) : Prop :=
  R (.returned (.int .i64 1)) w
def KE_S4 (E : W.Env) (w : World) (R : W.Post) : Prop := S4  w R
theorem KE_S4_ok (R : W.Post) (E : W.Env) (w : World) (h : KE_S4 E w R) : W.WP Try.prog (W.cx 149) C17 (Q2 R) E w := by
  exact fun a ha => W.WP.at (E := []) (W.sr C17 (K := fun E w => W.retVC Try.prog Try.f15 E w (fun v => R (.returned v) w)) (by kernel_rfl) (Eq.mp (by kernel_rfl) h) fun _ _ hK => (W.rt C19 (by kernel_rfl) fun a hA => W.retVC_sound hA hK)) ha.nil
noncomputable def C20 := W.Code.fst C18
noncomputable def C21 := W.Code.snd C20
noncomputable def C22 := W.Code.fst C21
noncomputable def C23 := W.Code.fst C22
noncomputable def C24 := W.Code.snd C18
abbrev Q3 (R : W.Post) : Exit → Act → World → Prop := (Exit.then (W.wpx Try.prog (W.cx 149) C24 (bodyPost Try.prog Try.f15 R)) (bodyPost Try.prog Try.f15 R))
abbrev Q4 (R : W.Post) : Exit → Act → World → Prop := (Exit.inBlock 0 (Q3 R))
/-- the head of the loop, ref.go:71 -/
def L5 (v1 s3 : Addr) (i4 : Int) (w : World) (R : W.Post) : Prop := W.LP Try.prog (W.cx 149) C23 (Q4 R) [(1, .pointer (some v1)), (3, .pointer (some s3)), (4, .int .i64 i4)] w
def KE_L5 (E : W.Env) (w : World) (R : W.Post) : Prop := W.asRef (W.Env.get? E 1) fun v1 => W.asRef (W.Env.get? E 3) fun s3 => W.asInt .i64 (W.Env.get? E 4) fun i4 => L5 v1 s3 i4 w R
theorem KE_L5_ok (R : W.Post) (E : W.Env) (w : World) (h : KE_L5 E w R) : W.LP Try.prog (W.cx 149) C23 (Q4 R) E w := by
  obtain ⟨v1, hq1, h_1⟩ := W.asRef_elim h
  obtain ⟨s3, hq3, h_2⟩ := W.asRef_elim h_1
  obtain ⟨i4, hq4, h_3⟩ := W.asInt_elim h_2
  intro a ha
  exact h_3 a (ha.cons hq1 (ha.cons hq3 (ha.cons hq4 ha.nil)))
noncomputable def C25 := W.Code.snd C23
noncomputable def C26 := W.Code.fst C25
noncomputable def C27 := W.Code.fst C26
noncomputable def C28 := W.Code.snd C27
noncomputable def C29 := W.Code.fst C28
noncomputable def C30 := W.Code.snd C29
noncomputable def C31 := W.Code.fst C30
noncomputable def C32 := W.Code.snd C25
abbrev Q5 (R : W.Post) : Exit → Act → World → Prop := (Exit.then (W.wpx Try.prog (W.cx 149) C32 (Exit.then (W.LoopWP Try.prog (W.cx 149) C23 (Q4 R)) (Q4 R))) (Exit.then (W.LoopWP Try.prog (W.cx 149) C23 (Q4 R)) (Q4 R)))
noncomputable def C33 := W.Code.snd C28
abbrev Q6 (R : W.Post) : Exit → Act → World → Prop := (Exit.then (W.wpx Try.prog (W.cx 149) C33 (Exit.inBlock 1 (Q5 R))) (Exit.inBlock 1 (Q5 R)))
noncomputable def C34 := W.Code.snd C31
/-- ref.go:74 -/
abbrev S6  (w : World) (R : W.Post) : Prop :=
  R (.returned (.int .i64 1)) w
def KE_S6 (E : W.Env) (w : World) (R : W.Post) : Prop := S6  w R
theorem KE_S6_ok (R : W.Post) (E : W.Env) (w : World) (h : KE_S6 E w R) : W.WP Try.prog (W.cx 149) C31 (Q6 R) E w := by
  exact fun a ha => W.WP.at (E := []) (W.sr C31 (K := fun E w => W.retVC Try.prog Try.f15 E w (fun v => R (.returned v) w)) (by kernel_rfl) (Eq.mp (by kernel_rfl) h) fun _ _ hK => (W.rt C34 (by kernel_rfl) fun a hA => W.retVC_sound hA hK)) ha.nil
noncomputable def C35 := W.Code.snd C33
noncomputable def C36 := W.Code.fst C35
abbrev Q7 (R : W.Post) : Exit → Act → World → Prop := (Exit.inBlock 1 (Q5 R))
noncomputable def C37 := W.Code.snd C36
/-- ref.go:77 -/
abbrev S8  (w : World) (R : W.Post) : Prop :=
  R (.returned (.int .i64 1)) w
def KE_S8 (E : W.Env) (w : World) (R : W.Post) : Prop := S8  w R
theorem KE_S8_ok (R : W.Post) (E : W.Env) (w : World) (h : KE_S8 E w R) : W.WP Try.prog (W.cx 149) C36 (Q7 R) E w := by
  exact fun a ha => W.WP.at (E := []) (W.sr C36 (K := fun E w => W.retVC Try.prog Try.f15 E w (fun v => R (.returned v) w)) (by kernel_rfl) (Eq.mp (by kernel_rfl) h) fun _ _ hK => (W.rt C37 (by kernel_rfl) fun a hA => W.retVC_sound hA hK)) ha.nil
abbrev Q8 (R : W.Post) : Exit → Act → World → Prop := (Exit.then (W.LoopWP Try.prog (W.cx 149) C23 (Q4 R)) (Q4 R))
/-- ref.go:71 -/
abbrev S9 (v1 s3 : Addr) (i4 : Int) (w : World) (R : W.Post) : Prop :=
  L5 v1 s3 (IntKind.wrap .i64 (i4 + 1)) w R
def KE_S9 (E : W.Env) (w : World) (R : W.Post) : Prop := W.asRef (W.Env.get? E 1) fun v1 => W.asRef (W.Env.get? E 3) fun s3 => W.asInt .i64 (W.Env.get? E 4) fun i4 => S9 v1 s3 i4 w R
theorem KE_S9_ok (R : W.Post) (E : W.Env) (w : World) (h : KE_S9 E w R) : W.WP Try.prog (W.cx 149) C32 (Q8 R) E w := by
  obtain ⟨v1, hq1, h_1⟩ := W.asRef_elim h
  obtain ⟨s3, hq3, h_2⟩ := W.asRef_elim h_1
  obtain ⟨i4, hq4, h_3⟩ := W.asInt_elim h_2
  exact fun a ha => W.WP.at (E := [(1, .pointer (some v1)), (3, .pointer (some s3)), (4, .int .i64 i4)]) (W.rg C32 (K := fun E w => KE_L5 E w R) (by kernel_rfl) (Eq.mp (by kernel_rfl) h_3) fun _ _ a hA hK => KE_L5_ok R _ _ hK a hA) (ha.cons hq1 (ha.cons hq3 (ha.cons hq4 ha.nil)))
noncomputable def C38 := W.Code.snd C35
/-- ref.go:76 -/
abbrev S7 (v1 s3 : Addr) (i4 : Int) (x5 : Addr) (w : World) (R : W.Post) : Prop :=
  ∃ t104 : Int, w.cell? (s3.add 0) = some (.int .i64 t104) ∧ 
  W.sel (t104 == 2) (∃ t108 : Int, w.cell? (x5.add 1) = some (.int .u64 t108) ∧ 
  W.sel (t108 == 0) (S8  w R) (∃ t112 : Int, w.cell? (x5.add 1) = some (.int .u64 t112) ∧ 
  ∃ t114 : Int, w.cell? (s3.add 1) = some (.int .i64 t114) ∧ 
  Calls Try.prog n_enthymemeref06_fits #[.int .u64 t112, .int .i64 t114] w fun r_ w1 => ∃ t115 : Bool, r_ = .returned (.bool t115) ∧ 
  W.sel (!t115) (S8  w1 R) (∃ t120 : ByteArray, w1.cell? (x5.add 2) = some (.string t120) ∧ 
  W.sel (decide (((t120.size : Nat) : Int) > 0)) (S8  w1 R) (∃ t127 : Int, w1.cell? (s3.add 0) = some (.int .i64 t127) ∧ 
  W.sel (t127 == 3) (∃ t131 : Int, w1.cell? (x5.add 1) = some (.int .u64 t131) ∧ 
  W.sel (decide (t131 > 0)) (S8  w1 R) (∃ t135 : ByteArray, w1.cell? (x5.add 2) = some (.string t135) ∧ 
  W.sel (((t135.size : Nat) : Int) == 0) (S8  w1 R) (∃ t141 : ByteArray, w1.cell? (x5.add 2) = some (.string t141) ∧ 
  ∃ t144 : Int, w1.cell? (s3.add 1) = some (.int .i64 t144) ∧ 
  W.sel (decide (((t141.size : Nat) : Int) > t144)) (S8  w1 R) (S9 v1 s3 i4 w1 R)))) (S9 v1 s3 i4 w1 R))))) (∃ t127_x1 : Int, w.cell? (s3.add 0) = some (.int .i64 t127_x1) ∧ 
  W.sel (t127_x1 == 3) (∃ t131_x1 : Int, w.cell? (x5.add 1) = some (.int .u64 t131_x1) ∧ 
  W.sel (decide (t131_x1 > 0)) (S8  w R) (∃ t135_x1 : ByteArray, w.cell? (x5.add 2) = some (.string t135_x1) ∧ 
  W.sel (((t135_x1.size : Nat) : Int) == 0) (S8  w R) (∃ t141_x1 : ByteArray, w.cell? (x5.add 2) = some (.string t141_x1) ∧ 
  ∃ t144_x1 : Int, w.cell? (s3.add 1) = some (.int .i64 t144_x1) ∧ 
  W.sel (decide (((t141_x1.size : Nat) : Int) > t144_x1)) (S8  w R) (S9 v1 s3 i4 w R)))) (S9 v1 s3 i4 w R))
def KE_S7 (E : W.Env) (w : World) (R : W.Post) : Prop := W.asRef (W.Env.get? E 1) fun v1 => W.asRef (W.Env.get? E 3) fun s3 => W.asInt .i64 (W.Env.get? E 4) fun i4 => W.asRef (W.Env.get? E 5) fun x5 => S7 v1 s3 i4 x5 w R
theorem KE_S7_ok (R : W.Post) (E : W.Env) (w : World) (h : KE_S7 E w R) : W.WP Try.prog (W.cx 149) C33 (Q7 R) E w := by
  obtain ⟨v1, hq1, h_1⟩ := W.asRef_elim h
  obtain ⟨s3, hq3, h_2⟩ := W.asRef_elim h_1
  obtain ⟨i4, hq4, h_3⟩ := W.asInt_elim h_2
  obtain ⟨x5, hq5, h_4⟩ := W.asRef_elim h_3
  exact fun a ha => W.WP.at (E := [(1, .pointer (some v1)), (3, .pointer (some s3)), (4, .int .i64 i4), (5, .pointer (some x5))]) (W.sr C33 (K := fun E w => W.condK (W.Env.val E (.tmp 148)) (KE_S8 E w R) (KE_S9 E w R)) (by kernel_rfl) (Eq.mp (by kernel_rfl) h_4) fun _ _ hK => (W.cn C35 (by kernel_rfl) hK (fun hK => (KE_S8_ok R _ _ hK)) (fun hK => (W.sk C38 (by kernel_rfl) fun a hA => W.nx hA (KE_S9_ok R _ _ hK))))) (ha.cons hq1 (ha.cons hq3 (ha.cons hq4 (ha.cons hq5 ha.nil))))
noncomputable def C39 := W.Code.fst C23
noncomputable def C40 := W.Code.snd C39
noncomputable def C41 := W.Code.fst C40
noncomputable def C42 := W.Code.snd C30
noncomputable def C43 := W.Code.snd C40
noncomputable def C44 := W.Code.snd C24
theorem L5_step (v1 s3 : Addr) (i4 : Int) (w : World) (R : W.Post) (h : ∃ t71 : W.Sl, w.cell? (v1.add 5) = some (t71.v) ∧ 
  W.sel (decide (i4 < ((t71.n : Nat) : Int))) (∃ t77 : W.Sl, w.cell? (v1.add 5) = some (t77.v) ∧ 
  (0 : Int) ≤ i4 ∧ i4 < ((t77.n : Nat) : Int) ∧ W.optP t77.a fun t79_p => ∃ t80_0 : Int, ∃ t80_1 : Int, ∃ t80_2 : ByteArray, w.cell? ((t79_p.add (Int.toNat i4 * 3)).add 0) = some (.int .u64 t80_0) ∧ w.cell? ((t79_p.add (Int.toNat i4 * 3)).add 1) = some (.int .u64 t80_1) ∧ w.cell? ((t79_p.add (Int.toNat i4 * 3)).add 2) = some (.string t80_2) ∧ 
  W.nwV w (.cells #[.int .u64 0, .int .u64 0, .string (ByteArray.mk #[])] ty_enthymemeref06_Entry) fun w2 => 
  W.stV w2 (Addr.mk w.heap.size 0 none) (.int .u64 t80_0) fun w3 => 
  W.stV w3 ((Addr.mk w.heap.size 0 none).add 1) (.int .u64 t80_1) fun w4 => 
  W.stV w4 ((Addr.mk w.heap.size 0 none).add 2) (.string t80_2) fun w5 => 
  W.drV w5 fun w6 => ∃ t82 : Int, w6.cell? ((Addr.mk w.heap.size 0 none).add 0) = some (.int .u64 t82) ∧ 
  ∃ t84 : Int, w6.cell? (s3.add 2) = some (.int .i64 t84) ∧ 
  Calls Try.prog n_enthymemeref06_fits #[.int .u64 t82, .int .i64 t84] w6 fun r_ w7 => ∃ t85 : Bool, r_ = .returned (.bool t85) ∧ 
  W.sel (!t85) (S6  w7 R) (W.sel (decide (i4 > 0)) (∃ t92 : W.Sl, w7.cell? (v1.add 5) = some (t92.v) ∧ 
  (0 : Int) ≤ (IntKind.wrap .i64 (i4 - 1)) ∧ (IntKind.wrap .i64 (i4 - 1)) < ((t92.n : Nat) : Int) ∧ W.optP t92.a fun t95_p => ∃ t97 : Int, w7.cell? ((t95_p.add (Int.toNat (IntKind.wrap .i64 (i4 - 1)) * 3)).add 0) = some (.int .u64 t97) ∧ 
  ∃ t99 : Int, w7.cell? ((Addr.mk w.heap.size 0 none).add 0) = some (.int .u64 t99) ∧ 
  W.sel (decide (t97 ≥ t99)) (S6  w7 R) (S7 v1 s3 i4 (Addr.mk w.heap.size 0 none) w7 R)) (S7 v1 s3 i4 (Addr.mk w.heap.size 0 none) w7 R))) (R (.returned (.int .i64 0)) w)) : L5 v1 s3 i4 w R :=
  W.LP.step (n := (W.cx 149)) (c := C23) (E := [(1, .pointer (some v1)), (3, .pointer (some s3)), (4, .int .i64 i4)]) (w := w) (W.sq C23 (by kernel_rfl) (W.sr C39 (by kernel_rfl) (show (fun (E : W.Env) (w : World) => W.srK Try.prog C39 (fun E w => W.condK (W.Env.val E (.tmp 73)) (W.srK Try.prog C27 (fun E w => W.sdK Try.prog C29 [0, 1, 2, 3, 4, 5, 6, 7, 8, 9, 10, 11, 12, 13, 14, 15, 16, 17, 18, 19, 20, 21] (fun E w => W.condK (W.Env.val E (.tmp 102)) (KE_S6 E w R) (KE_S7 E w R)) E w) E w) (W.srK Try.prog C24 (fun E w => W.retVC Try.prog Try.f15 E w (fun v => R (.returned v) w)) E w)) E w) [(1, .pointer (some v1)), (3, .pointer (some s3)), (4, .int .i64 i4)] w from Eq.mp (by kernel_rfl) h) fun _ _ hK => (W.cn C40 (by kernel_rfl) hK (fun hK => (W.sk C41 (by kernel_rfl) fun a hA => W.nx hA (W.sq C25 (by kernel_rfl) (W.bk C26 1 (by kernel_rfl) (W.sr C27 (by kernel_rfl) hK fun _ _ hK => (W.sq C28 (by kernel_rfl) (W.sd C29 (by kernel_rfl) hK fun _ _ hK => (W.cn C30 (by kernel_rfl) hK (fun hK => (KE_S6_ok R _ _ hK)) (fun hK => (W.sk C42 (by kernel_rfl) fun a hA => W.nx hA (KE_S7_ok R _ _ hK))))))))))) (fun hK => (W.xt C43 0 (by kernel_rfl) fun a hA => W.nx hA (W.sr C24 (by kernel_rfl) hK fun _ _ hK => (W.rt C44 (by kernel_rfl) fun a hA => W.retVC_sound hA hK)))))))
noncomputable def C45 := W.Code.fst C12
abbrev Q9 (R : W.Post) : Exit → Act → World → Prop := (Exit.then (W.wpx Try.prog (W.cx 149) C14 (bodyPost Try.prog Try.f15 R)) (bodyPost Try.prog Try.f15 R))
noncomputable def C46 := W.Code.snd C45
noncomputable def C47 := W.Code.fst C46
noncomputable def C48 := W.Code.snd C47
noncomputable def C49 := W.Code.snd C46
noncomputable def C50 := W.Code.snd C16
/-- ref.go:65 -/
abbrev S3 (v1 s3 : Addr) (w : World) (R : W.Post) : Prop :=
  ∃ t57_0 : Int, ∃ t57_1 : Int, ∃ t57_2 : Int, w.cell? (s3.add 0) = some (.int .i64 t57_0) ∧ w.cell? (s3.add 1) = some (.int .i64 t57_1) ∧ w.cell? (s3.add 2) = some (.int .i64 t57_2) ∧ 
  Calls Try.prog n_enthymemeref06_Array #[.agg #[.int .i64 t57_0, .int .i64 t57_1, .int .i64 t57_2]] w fun r_ w1 => ∃ t58 : Bool, r_ = .returned (.bool t58) ∧ 
  W.sel (!t58) (R (.returned (.int .i64 0)) w1) (∃ t61 : Int, w1.cell? (v1.add 3) = some (.int .u64 t61) ∧ 
  W.sel (decide (t61 > 0)) (S4  w1 R) (∃ t65 : ByteArray, w1.cell? (v1.add 4) = some (.string t65) ∧ 
  W.sel (decide (((t65.size : Nat) : Int) > 0)) (S4  w1 R) (L5 v1 s3 0 w1 R)))
def KE_S3 (E : W.Env) (w : World) (R : W.Post) : Prop := W.asRef (W.Env.get? E 1) fun v1 => W.asRef (W.Env.get? E 3) fun s3 => S3 v1 s3 w R
theorem KE_S3_ok (R : W.Post) (E : W.Env) (w : World) (h : KE_S3 E w R) : W.WP Try.prog (W.cx 149) C45 (Q9 R) E w := by
  obtain ⟨v1, hq1, h_1⟩ := W.asRef_elim h
  obtain ⟨s3, hq3, h_2⟩ := W.asRef_elim h_1
  exact fun a ha => W.WP.at (E := [(1, .pointer (some v1)), (3, .pointer (some s3))]) (W.sr C45 (K := fun E w => W.condK (W.Env.val E (.tmp 59)) (W.srK Try.prog C47 (fun E w => W.retVC Try.prog Try.f15 E w (fun v => R (.returned v) w)) E w) (W.srK Try.prog C15 (fun E w => W.condK (W.Env.val E (.tmp 68)) (KE_S4 E w R) (W.srK Try.prog C20 (fun E w => KE_L5 E w R) E w)) E w)) (by kernel_rfl) (Eq.mp (by kernel_rfl) h_2) fun _ _ hK => (W.cn C46 (by kernel_rfl) hK (fun hK => (W.sr C47 (by kernel_rfl) hK fun _ _ hK => (W.rt C48 (by kernel_rfl) fun a hA => W.retVC_sound hA hK))) (fun hK => (W.sk C49 (by kernel_rfl) fun a hA => W.nx hA (W.sq C14 (by kernel_rfl) (W.sr C15 (by kernel_rfl) hK fun _ _ hK => (W.cn C16 (by kernel_rfl) hK (fun hK => (KE_S4_ok R _ _ hK)) (fun hK => (W.sk C50 (by kernel_rfl) fun a hA => W.nx hA (W.sq C18 (by kernel_rfl) (W.sr C20 (by kernel_rfl) hK fun _ _ hK => (W.bk C21 0 (by kernel_rfl) (W.lp C22 (by kernel_rfl) (KE_L5_ok R _ _ hK)))))))))))))) (ha.cons hq1 (ha.cons hq3 ha.nil))
noncomputable def C51 := W.Code.snd C10
/-- ref.go:62 -/
abbrev S1 (v1 s3 : Addr) (w : World) (R : W.Post) : Prop :=
  ∃ t36 : Int, w.cell? (s3.add 0) = some (.int .i64 t36) ∧ 
  W.sel (t36 == 1) (∃ t40 : Int, w.cell? (v1.add 3) = some (.int .u64 t40) ∧ 
  W.sel (decide (t40 > 0)) (S2  w R) (∃ t44 : ByteArray, w.cell? (v1.add 4) = some (.string t44) ∧ 
  ∃ t47 : Int, w.cell? (s3.add 1) = some (.int .i64 t47) ∧ 
  W.sel (decide (((t44.size : Nat) : Int) > t47)) (S2  w R) (∃ t52 : W.Sl, w.cell? (v1.add 5) = some (t52.v) ∧ 
  W.sel (decide (((t52.n : Nat) : Int) > 0)) (S2  w R) (S3 v1 s3 w R)))) (S3 v1 s3 w R)
def KE_S1 (E : W.Env) (w : World) (R : W.Post) : Prop := W.asRef (W.Env.get? E 1) fun v1 => W.asRef (W.Env.get? E 3) fun s3 => S1 v1 s3 w R
theorem KE_S1_ok (R : W.Post) (E : W.Env) (w : World) (h : KE_S1 E w R) : W.WP Try.prog (W.cx 149) C9 (Q1 R) E w := by
  obtain ⟨v1, hq1, h_1⟩ := W.asRef_elim h
  obtain ⟨s3, hq3, h_2⟩ := W.asRef_elim h_1
  exact fun a ha => W.WP.at (E := [(1, .pointer (some v1)), (3, .pointer (some s3))]) (W.sr C9 (K := fun E w => W.condK (W.Env.val E (.tmp 56)) (KE_S2 E w R) (KE_S3 E w R)) (by kernel_rfl) (Eq.mp (by kernel_rfl) h_2) fun _ _ hK => (W.cn C10 (by kernel_rfl) hK (fun hK => (KE_S2_ok R _ _ hK)) (fun hK => (W.sk C51 (by kernel_rfl) fun a hA => W.nx hA (W.sq C12 (by kernel_rfl) (KE_S3_ok R _ _ hK)))))) (ha.cons hq1 (ha.cons hq3 ha.nil))
/-- enthymeme/enthymemeref06.Valid -/
noncomputable def C52 := W.Code.fst C1
noncomputable def C53 := W.Code.snd C52
noncomputable def C54 := W.Code.fst C53
noncomputable def C55 := W.Code.snd C54
noncomputable def C56 := W.Code.snd C53
noncomputable def C57 := W.Code.snd C5
theorem ok (v0_0 v0_1 v0_2 v0_3 : Int) (v0_4 : ByteArray) (v0_5 : W.Sl) (w : World) (R : W.Post) (h : W.nwV w (.cells #[.int .i64 v0_0, .int .i64 v0_1, .int .i64 v0_2, .int .u64 v0_3, .string v0_4, v0_5.v] ty_enthymemeref06_Value) fun w1 => 
  ∃ t7_0 : Int, ∃ t7_1 : Int, ∃ t7_2 : Int, w1.cell? (((Addr.mk w.heap.size 0 none).add 0).add 0) = some (.int .i64 t7_0) ∧ w1.cell? (((Addr.mk w.heap.size 0 none).add 0).add 1) = some (.int .i64 t7_1) ∧ w1.cell? (((Addr.mk w.heap.size 0 none).add 0).add 2) = some (.int .i64 t7_2) ∧ 
  Calls Try.prog n_enthymemeref06_ValidSort #[.agg #[.int .i64 t7_0, .int .i64 t7_1, .int .i64 t7_2]] w1 fun r_ w2 => ∃ t8 : Int, r_ = .returned (.int .i64 t8) ∧ 
  W.sel (t8 != 0) (R (.returned (.int .i64 9)) w2) (∃ t11_0 : Int, ∃ t11_1 : Int, ∃ t11_2 : Int, w2.cell? (((Addr.mk w.heap.size 0 none).add 0).add 0) = some (.int .i64 t11_0) ∧ w2.cell? (((Addr.mk w.heap.size 0 none).add 0).add 1) = some (.int .i64 t11_1) ∧ w2.cell? (((Addr.mk w.heap.size 0 none).add 0).add 2) = some (.int .i64 t11_2) ∧ 
  W.nwV w2 (.cells #[.int .i64 0, .int .i64 0, .int .i64 0] ty_api_Sort) fun w3 => 
  W.stV w3 (Addr.mk w2.heap.size 0 none) (.int .i64 t11_0) fun w4 => 
  W.stV w4 ((Addr.mk w2.heap.size 0 none).add 1) (.int .i64 t11_1) fun w5 => 
  W.stV w5 ((Addr.mk w2.heap.size 0 none).add 2) (.int .i64 t11_2) fun w6 => 
  ∃ t13 : Int, w6.cell? ((Addr.mk w2.heap.size 0 none).add 0) = some (.int .i64 t13) ∧ 
  W.sel (t13 == 0) (∃ t17 : Int, w6.cell? ((Addr.mk w.heap.size 0 none).add 3) = some (.int .u64 t17) ∧ 
  ∃ t19 : Int, w6.cell? ((Addr.mk w2.heap.size 0 none).add 1) = some (.int .i64 t19) ∧ 
  Calls Try.prog n_enthymemeref06_fits #[.int .u64 t17, .int .i64 t19] w6 fun r_ w7 => ∃ t20 : Bool, r_ = .returned (.bool t20) ∧ 
  W.sel (!t20) (S0  w7 R) (∃ t24 : ByteArray, w7.cell? ((Addr.mk w.heap.size 0 none).add 4) = some (.string t24) ∧ 
  W.sel (decide (((t24.size : Nat) : Int) > 0)) (S0  w7 R) (∃ t30 : W.Sl, w7.cell? ((Addr.mk w.heap.size 0 none).add 5) = some (t30.v) ∧ 
  W.sel (decide (((t30.n : Nat) : Int) > 0)) (S0  w7 R) (S1 (Addr.mk w.heap.size 0 none) (Addr.mk w2.heap.size 0 none) w7 R)))) (S1 (Addr.mk w.heap.size 0 none) (Addr.mk w2.heap.size 0 none) w6 R))) : Calls Try.prog n_enthymemeref06_Valid #[.agg #[.int .i64 v0_0, .int .i64 v0_1, .int .i64 v0_2, .int .u64 v0_3, .string v0_4, v0_5.v]] w R :=
  W.calls_of_WP' (R := R) (fn := Try.f15) (c := C0) (args := [.agg #[.int .i64 v0_0, .int .i64 v0_1, .int .i64 v0_2, .int .u64 v0_3, .string v0_4, v0_5.v]]) (by kernel_rfl) (by kernel_rfl) (by kernel_rfl) (W.sr C0 (by kernel_rfl) (show (fun (E : W.Env) (w : World) => W.srK Try.prog C0 (fun E w => W.srK Try.prog C52 (fun E w => W.condK (W.Env.val E (.tmp 9)) (W.srK Try.prog C54 (fun E w => W.retVC Try.prog Try.f15 E w (fun v => R (.returned v) w)) E w) (W.srK Try.prog C2 (fun E w => W.srK Try.prog C4 (fun E w => W.condK (W.Env.val E (.tmp 34)) (KE_S0 E w R) (KE_S1 E w R)) E w) E w)) E w) E w) (W.envOf 0 [.agg #[.int .i64 v0_0, .int .i64 v0_1, .int .i64 v0_2, .int .u64 v0_3, .string v0_4, v0_5.v]]) w from Eq.mp (by kernel_rfl) h) fun _ _ hK => (W.sq C1 (by kernel_rfl) (W.sr C52 (by kernel_rfl) hK fun _ _ hK => (W.cn C53 (by kernel_rfl) hK (fun hK => (W.sr C54 (by kernel_rfl) hK fun _ _ hK => (W.rt C55 (by kernel_rfl) fun a hA => W.retVC_sound hA hK))) (fun hK => (W.sk C56 (by kernel_rfl) fun a hA => W.nx hA (W.sr C2 (by kernel_rfl) hK fun _ _ hK => (W.sq C3 (by kernel_rfl) (W.sr C4 (by kernel_rfl) hK fun _ _ hK => (W.cn C5 (by kernel_rfl) hK (fun hK => (KE_S0_ok R _ _ hK)) (fun hK => (W.sk C57 (by kernel_rfl) fun a hA => W.nx hA (W.sq C7 (by kernel_rfl) (KE_S1_ok R _ _ hK))))))))))))))
abbrev S0T  (w : World) (R : W.Post) : Prop :=
  R (.returned (.int .i64 1)) w
theorem S0T_ok  {w : World} {R : W.Post} (h : S0T  w R) (H : W.LC w []) : S0  w R := h
abbrev S2T  (w : World) (R : W.Post) : Prop :=
  R (.returned (.int .i64 1)) w
theorem S2T_ok  {w : World} {R : W.Post} (h : S2T  w R) (H : W.LC w []) : S2  w R := h
abbrev S4T  (w : World) (R : W.Post) : Prop :=
  R (.returned (.int .i64 1)) w
theorem S4T_ok  {w : World} {R : W.Post} (h : S4T  w R) (H : W.LC w []) : S4  w R := h
def L5T (v1 : Nat) (v1_0 v1_1 v1_2 v1_3 : Int) (v1_4 : ByteArray) (v1_5 : W.Sl) (s3 : Nat) (s3_0 s3_1 s3_2 i4 : Int) (w : World) (R : W.Post) : Prop := W.LC w [(v1, [.int .i64 v1_0, .int .i64 v1_1, .int .i64 v1_2, .int .u64 v1_3, .string v1_4, v1_5.v], ty_enthymemeref06_Value), (s3, [.int .i64 s3_0, .int .i64 s3_1, .int .i64 s3_2], ty_api_Sort)] → L5 (W.at0 v1) (W.at0 s3) i4 w R
abbrev S6T  (w : World) (R : W.Post) : Prop :=
  R (.returned (.int .i64 1)) w
theorem S6T_ok  {w : World} {R : W.Post} (h : S6T  w R) (H : W.LC w []) : S6  w R := h
abbrev S8T  (w : World) (R : W.Post) : Prop :=
  R (.returned (.int .i64 1)) w
theorem S8T_ok  {w : World} {R : W.Post} (h : S8T  w R) (H : W.LC w []) : S8  w R := h
abbrev S9T (v1 : Nat) (v1_0 v1_1 v1_2 v1_3 : Int) (v1_4 : ByteArray) (v1_5 : W.Sl) (s3 : Nat) (s3_0 s3_1 s3_2 i4 : Int) (w : World) (R : W.Post) : Prop :=
  L5T v1 v1_0 v1_1 v1_2 v1_3 v1_4 v1_5 s3 s3_0 s3_1 s3_2 (IntKind.wrap .i64 (i4 + 1)) w R
theorem S9T_ok {v1 : Nat} {v1_0 v1_1 v1_2 v1_3 : Int} {v1_4 : ByteArray} {v1_5 : W.Sl} {s3 : Nat} {s3_0 s3_1 s3_2 i4 : Int} {w : World} {R : W.Post} (h : S9T v1 v1_0 v1_1 v1_2 v1_3 v1_4 v1_5 s3 s3_0 s3_1 s3_2 i4 w R) (H : W.LC w [(v1, [.int .i64 v1_0, .int .i64 v1_1, .int .i64 v1_2, .int .u64 v1_3, .string v1_4, v1_5.v], ty_enthymemeref06_Value), (s3, [.int .i64 s3_0, .int .i64 s3_1, .int .i64 s3_2], ty_api_Sort)]) : S9 (W.at0 v1) (W.at0 s3) i4 w R := h H
abbrev S7T (v1 : Nat) (v1_0 v1_1 v1_2 v1_3 : Int) (v1_4 : ByteArray) (v1_5 : W.Sl) (s3 : Nat) (s3_0 s3_1 s3_2 i4 : Int) (x5 : Nat) (x5_0 x5_1 : Int) (x5_2 : ByteArray) (w : World) (R : W.Post) : Prop :=
  W.sel (s3_0 == 2) (W.sel (x5_1 == 0) (S8T  w R) (W.callF [v1, s3, x5] Try.prog n_enthymemeref06_fits #[.int .u64 x5_1, .int .i64 s3_1] w fun r_ w1 => ∃ t115 : Bool, r_ = .returned (.bool t115) ∧ 
  W.sel (!t115) (S8T  w1 R) (W.sel (decide (((x5_2.size : Nat) : Int) > 0)) (S8T  w1 R) (W.sel (s3_0 == 3) (W.sel (decide (x5_1 > 0)) (S8T  w1 R) (W.sel (((x5_2.size : Nat) : Int) == 0) (S8T  w1 R) (W.sel (decide (((x5_2.size : Nat) : Int) > s3_1)) (S8T  w1 R) (S9T v1 v1_0 v1_1 v1_2 v1_3 v1_4 v1_5 s3 s3_0 s3_1 s3_2 i4 w1 R)))) (S9T v1 v1_0 v1_1 v1_2 v1_3 v1_4 v1_5 s3 s3_0 s3_1 s3_2 i4 w1 R))))) (W.sel (s3_0 == 3) (W.sel (decide (x5_1 > 0)) (S8T  w R) (W.sel (((x5_2.size : Nat) : Int) == 0) (S8T  w R) (W.sel (decide (((x5_2.size : Nat) : Int) > s3_1)) (S8T  w R) (S9T v1 v1_0 v1_1 v1_2 v1_3 v1_4 v1_5 s3 s3_0 s3_1 s3_2 i4 w R)))) (S9T v1 v1_0 v1_1 v1_2 v1_3 v1_4 v1_5 s3 s3_0 s3_1 s3_2 i4 w R))
theorem S7T_ok {v1 : Nat} {v1_0 v1_1 v1_2 v1_3 : Int} {v1_4 : ByteArray} {v1_5 : W.Sl} {s3 : Nat} {s3_0 s3_1 s3_2 i4 : Int} {x5 : Nat} {x5_0 x5_1 : Int} {x5_2 : ByteArray} {w : World} {R : W.Post} (h : S7T v1 v1_0 v1_1 v1_2 v1_3 v1_4 v1_5 s3 s3_0 s3_1 s3_2 i4 x5 x5_0 x5_1 x5_2 w R) (H : W.LC w [(v1, [.int .i64 v1_0, .int .i64 v1_1, .int .i64 v1_2, .int .u64 v1_3, .string v1_4, v1_5.v], ty_enthymemeref06_Value), (s3, [.int .i64 s3_0, .int .i64 s3_1, .int .i64 s3_2], ty_api_Sort), (x5, [.int .u64 x5_0, .int .u64 x5_1, .string x5_2], ty_enthymemeref06_Entry)]) : S7 (W.at0 v1) (W.at0 s3) i4 (W.at0 x5) w R := ⟨_, H.ld 1 0, W.sel_imp h (fun h => ⟨_, H.ld 2 1, W.sel_imp h (fun h => S8T_ok h (W.LC.nil _)) (fun h => ⟨_, H.ld 2 1, ⟨_, H.ld 1 1, W.LC.callT H h fun r_ w1 H h => let ⟨t115, hr, h⟩ := h; ⟨t115, hr, W.sel_imp h (fun h => S8T_ok h (W.LC.nil _)) (fun h => ⟨_, H.ld 2 2, W.sel_imp h (fun h => S8T_ok h (W.LC.nil _)) (fun h => ⟨_, H.ld 1 0, W.sel_imp h (fun h => ⟨_, H.ld 2 1, W.sel_imp h (fun h => S8T_ok h (W.LC.nil _)) (fun h => ⟨_, H.ld 2 2, W.sel_imp h (fun h => S8T_ok h (W.LC.nil _)) (fun h => ⟨_, H.ld 2 2, ⟨_, H.ld 1 1, W.sel_imp h (fun h => S8T_ok h (W.LC.nil _)) (fun h => S9T_ok h (H.pick [0, 1] (by decide)))⟩⟩)⟩)⟩) (fun h => S9T_ok h (H.pick [0, 1] (by decide)))⟩)⟩)⟩⟩⟩)⟩) (fun h => ⟨_, H.ld 1 0, W.sel_imp h (fun h => ⟨_, H.ld 2 1, W.sel_imp h (fun h => S8T_ok h (W.LC.nil _)) (fun h => ⟨_, H.ld 2 2, W.sel_imp h (fun h => S8T_ok h (W.LC.nil _)) (fun h => ⟨_, H.ld 2 2, ⟨_, H.ld 1 1, W.sel_imp h (fun h => S8T_ok h (W.LC.nil _)) (fun h => S9T_ok h (H.pick [0, 1] (by decide)))⟩⟩)⟩)⟩) (fun h => S9T_ok h (H.pick [0, 1] (by decide)))⟩)⟩
theorem L5T_step (v1 : Nat) (v1_0 v1_1 v1_2 v1_3 : Int) (v1_4 : ByteArray) (v1_5 : W.Sl) (s3 : Nat) (s3_0 s3_1 s3_2 i4 : Int) (w : World) (R : W.Post) (h : W.sel (decide (i4 < ((v1_5.n : Nat) : Int))) ((0 : Int) ≤ i4 ∧ i4 < ((v1_5.n : Nat) : Int) ∧ W.optP v1_5.a fun t79_p => ∃ t80_0 : Int, ∃ t80_1 : Int, ∃ t80_2 : ByteArray, w.cell? ((t79_p.add (Int.toNat i4 * 3)).add 0) = some (.int .u64 t80_0) ∧ w.cell? ((t79_p.add (Int.toNat i4 * 3)).add 1) = some (.int .u64 t80_1) ∧ w.cell? ((t79_p.add (Int.toNat i4 * 3)).add 2) = some (.string t80_2) ∧ 
  W.newV [v1, s3] w fun b5 w2 => 
  W.loc [v1, s3, b5] w2 fun w6 => W.callF [v1, s3, b5] Try.prog n_enthymemeref06_fits #[.int .u64 t80_0, .int .i64 s3_2] w6 fun r_ w7 => ∃ t85 : Bool, r_ = .returned (.bool t85) ∧ 
  W.sel (!t85) (S6T  w7 R) (W.sel (decide (i4 > 0)) ((0 : Int) ≤ (IntKind.wrap .i64 (i4 - 1)) ∧ (IntKind.wrap .i64 (i4 - 1)) < ((v1_5.n : Nat) : Int) ∧ W.optP v1_5.a fun t95_p => ∃ t97 : Int, w7.cell? ((t95_p.add (Int.toNat (IntKind.wrap .i64 (i4 - 1)) * 3)).add 0) = some (.int .u64 t97) ∧ 
  W.sel (decide (t97 ≥ t80_0)) (S6T  w7 R) (S7T v1 v1_0 v1_1 v1_2 v1_3 v1_4 v1_5 s3 s3_0 s3_1 s3_2 i4 b5 t80_0 t80_1 t80_2 w7 R)) (S7T v1 v1_0 v1_1 v1_2 v1_3 v1_4 v1_5 s3 s3_0 s3_1 s3_2 i4 b5 t80_0 t80_1 t80_2 w7 R))) (R (.returned (.int .i64 0)) w)) : L5T v1 v1_0 v1_1 v1_2 v1_3 v1_4 v1_5 s3 s3_0 s3_1 s3_2 i4 w R := fun H => L5_step _ _ _ w R (⟨v1_5, H.ld 0 5, W.sel_imp h (fun h => ⟨v1_5, H.ld 0 5, ⟨h.1, h.2.1, have h := h.2.2; W.optP_imp h fun t79_p h => let ⟨t80_0, t80_1, t80_2, hc0, hc1, hc2, h⟩ := h; ⟨t80_0, t80_1, t80_2, hc0, hc1, hc2, W.LC.nwT H (W.Fr.refl _ _) h fun w2 (H : W.LC w2 [(v1, [.int .i64 v1_0, .int .i64 v1_1, .int .i64 v1_2, .int .u64 v1_3, .string v1_4, v1_5.v], ty_enthymemeref06_Value), (s3, [.int .i64 s3_0, .int .i64 s3_1, .int .i64 s3_2], ty_api_Sort), (w.heap.size, [.int .u64 0, .int .u64 0, .string (ByteArray.mk #[])], ty_enthymemeref06_Entry)]) h => W.LC.stT0 H 2 (W.Fr.refl _ _) rfl rfl fun w3 H f => W.LC.stT H 2 1 f rfl rfl fun w4 H f => W.LC.stT H 2 2 f rfl rfl fun w5 (H : W.LC w5 [(v1, [.int .i64 v1_0, .int .i64 v1_1, .int .i64 v1_2, .int .u64 v1_3, .string v1_4, v1_5.v], ty_enthymemeref06_Value), (s3, [.int .i64 s3_0, .int .i64 s3_1, .int .i64 s3_2], ty_api_Sort), (w.heap.size, [.int .u64 t80_0, .int .u64 t80_1, .string t80_2], ty_enthymemeref06_Entry)]) (f : W.Fr (· ∈ [v1, s3, w.heap.size]) _ w5) => W.LC.drT H f fun w6 H f => ⟨_, H.ld 2 0, ⟨_, H.ld 1 2, have h := h _ f; W.LC.callT H h fun r_ w7 H h => let ⟨t85, hr, h⟩ := h; ⟨t85, hr, W.sel_imp h (fun h => S6T_ok h (W.LC.nil _)) (fun h => W.sel_imp h (fun h => ⟨v1_5, H.ld 0 5, ⟨h.1, h.2.1, have h := h.2.2; W.optP_imp h fun t95_p h => let ⟨t97, hc0, h⟩ := h; ⟨t97, hc0, ⟨_, H.ld 2 0, W.sel_imp h (fun h => S6T_ok h (W.LC.nil _)) (fun h => S7T_ok h H)⟩⟩⟩⟩) (fun h => S7T_ok h H))⟩⟩⟩⟩⟩⟩) (fun h => h)⟩)
abbrev S3T (v1 : Nat) (v1_0 v1_1 v1_2 v1_3 : Int) (v1_4 : ByteArray) (v1_5 : W.Sl) (s3 : Nat) (s3_0 s3_1 s3_2 : Int) (w : World) (R : W.Post) : Prop :=
  W.callF [v1, s3] Try.prog n_enthymemeref06_Array #[.agg #[.int .i64 s3_0, .int .i64 s3_1, .int .i64 s3_2]] w fun r_ w1 => ∃ t58 : Bool, r_ = .returned (.bool t58) ∧ 
  W.sel (!t58) (R (.returned (.int .i64 0)) w1) (W.sel (decide (v1_3 > 0)) (S4T  w1 R) (W.sel (decide (((v1_4.size : Nat) : Int) > 0)) (S4T  w1 R) (L5T v1 v1_0 v1_1 v1_2 v1_3 v1_4 v1_5 s3 s3_0 s3_1 s3_2 0 w1 R)))
theorem S3T_ok {v1 : Nat} {v1_0 v1_1 v1_2 v1_3 : Int} {v1_4 : ByteArray} {v1_5 : W.Sl} {s3 : Nat} {s3_0 s3_1 s3_2 : Int} {w : World} {R : W.Post} (h : S3T v1 v1_0 v1_1 v1_2 v1_3 v1_4 v1_5 s3 s3_0 s3_1 s3_2 w R) (H : W.LC w [(v1, [.int .i64 v1_0, .int .i64 v1_1, .int .i64 v1_2, .int .u64 v1_3, .string v1_4, v1_5.v], ty_enthymemeref06_Value), (s3, [.int .i64 s3_0, .int .i64 s3_1, .int .i64 s3_2], ty_api_Sort)]) : S3 (W.at0 v1) (W.at0 s3) w R := ⟨_, _, _, H.ld 1 0, H.ld 1 1, H.ld 1 2, W.LC.callT H h fun r_ w1 H h => let ⟨t58, hr, h⟩ := h; ⟨t58, hr, W.sel_imp h (fun h => h) (fun h => ⟨_, H.ld 0 3, W.sel_imp h (fun h => S4T_ok h (W.LC.nil _)) (fun h => ⟨_, H.ld 0 4, W.sel_imp h (fun h => S4T_ok h (W.LC.nil _)) (fun h => h H)⟩)⟩)⟩⟩
abbrev S1T (v1 : Nat) (v1_0 v1_1 v1_2 v1_3 : Int) (v1_4 : ByteArray) (v1_5 : W.Sl) (s3 : Nat) (s3_0 s3_1 s3_2 : Int) (w : World) (R : W.Post) : Prop :=
  W.sel (s3_0 == 1) (W.sel (decide (v1_3 > 0)) (S2T  w R) (W.sel (decide (((v1_4.size : Nat) : Int) > s3_1)) (S2T  w R) (W.sel (decide (((v1_5.n : Nat) : Int) > 0)) (S2T  w R) (S3T v1 v1_0 v1_1 v1_2 v1_3 v1_4 v1_5 s3 s3_0 s3_1 s3_2 w R)))) (S3T v1 v1_0 v1_1 v1_2 v1_3 v1_4 v1_5 s3 s3_0 s3_1 s3_2 w R)
theorem S1T_ok {v1 : Nat} {v1_0 v1_1 v1_2 v1_3 : Int} {v1_4 : ByteArray} {v1_5 : W.Sl} {s3 : Nat} {s3_0 s3_1 s3_2 : Int} {w : World} {R : W.Post} (h : S1T v1 v1_0 v1_1 v1_2 v1_3 v1_4 v1_5 s3 s3_0 s3_1 s3_2 w R) (H : W.LC w [(v1, [.int .i64 v1_0, .int .i64 v1_1, .int .i64 v1_2, .int .u64 v1_3, .string v1_4, v1_5.v], ty_enthymemeref06_Value), (s3, [.int .i64 s3_0, .int .i64 s3_1, .int .i64 s3_2], ty_api_Sort)]) : S1 (W.at0 v1) (W.at0 s3) w R := ⟨_, H.ld 1 0, W.sel_imp h (fun h => ⟨_, H.ld 0 3, W.sel_imp h (fun h => S2T_ok h (W.LC.nil _)) (fun h => ⟨_, H.ld 0 4, ⟨_, H.ld 1 1, W.sel_imp h (fun h => S2T_ok h (W.LC.nil _)) (fun h => ⟨v1_5, H.ld 0 5, W.sel_imp h (fun h => S2T_ok h (W.LC.nil _)) (fun h => S3T_ok h H)⟩)⟩⟩)⟩) (fun h => S3T_ok h H)⟩
theorem okT (v0_0 v0_1 v0_2 v0_3 : Int) (v0_4 : ByteArray) (v0_5 : W.Sl) (w : World) (R : W.Post) (h : W.newV [] w fun b1 w1 => 
  W.callF [b1] Try.prog n_enthymemeref06_ValidSort #[.agg #[.int .i64 v0_0, .int .i64 v0_1, .int .i64 v0_2]] w1 fun r_ w2 => ∃ t8 : Int, r_ = .returned (.int .i64 t8) ∧ 
  W.sel (t8 != 0) (R (.returned (.int .i64 9)) w2) (W.newV [b1] w2 fun b3 w3 => 
  W.sel (v0_0 == 0) (W.loc [b1, b3] w3 fun w6 => W.callF [b1, b3] Try.prog n_enthymemeref06_fits #[.int .u64 v0_3, .int .i64 v0_1] w6 fun r_ w7 => ∃ t20 : Bool, r_ = .returned (.bool t20) ∧ 
  W.sel (!t20) (S0T  w7 R) (W.sel (decide (((v0_4.size : Nat) : Int) > 0)) (S0T  w7 R) (W.sel (decide (((v0_5.n : Nat) : Int) > 0)) (S0T  w7 R) (S1T b1 v0_0 v0_1 v0_2 v0_3 v0_4 v0_5 b3 v0_0 v0_1 v0_2 w7 R)))) (W.loc [b1, b3] w3 fun w6 => S1T b1 v0_0 v0_1 v0_2 v0_3 v0_4 v0_5 b3 v0_0 v0_1 v0_2 w6 R))) : Calls Try.prog n_enthymemeref06_Valid #[.agg #[.int .i64 v0_0, .int .i64 v0_1, .int .i64 v0_2, .int .u64 v0_3, .string v0_4, v0_5.v]] w R :=
  ok _ _ _ _ _ _ w R (W.LC.nwT (W.LC.nil _) (W.Fr.refl _ _) h fun w1 H h => ⟨_, _, _, H.ld 0 0, H.ld 0 1, H.ld 0 2, W.LC.callT H h fun r_ w2 H h => let ⟨t8, hr, h⟩ := h; ⟨t8, hr, W.sel_imp h (fun h => h) (fun h => ⟨_, _, _, H.ld 0 0, H.ld 0 1, H.ld 0 2, W.LC.nwT H (W.Fr.refl _ _) h fun w3 H h => W.LC.stT0 H 1 (W.Fr.refl _ _) rfl rfl fun w4 H f => W.LC.stT H 1 1 f rfl rfl fun w5 H f => W.LC.stT H 1 2 f rfl rfl fun w6 (H : W.LC w6 [(w.heap.size, [.int .i64 v0_0, .int .i64 v0_1, .int .i64 v0_2, .int .u64 v0_3, .string v0_4, v0_5.v], ty_enthymemeref06_Value), (w2.heap.size, [.int .i64 v0_0, .int .i64 v0_1, .int .i64 v0_2], ty_api_Sort)]) (f : W.Fr (· ∈ [w.heap.size, w2.heap.size]) _ w6) => ⟨_, H.ld 1 0, W.sel_imp h (fun h => ⟨_, H.ld 0 3, ⟨_, H.ld 1 1, have h := h _ f; W.LC.callT H h fun r_ w7 H h => let ⟨t20, hr, h⟩ := h; ⟨t20, hr, W.sel_imp h (fun h => S0T_ok h (W.LC.nil _)) (fun h => ⟨_, H.ld 0 4, W.sel_imp h (fun h => S0T_ok h (W.LC.nil _)) (fun h => ⟨v0_5, H.ld 0 5, W.sel_imp h (fun h => S0T_ok h (W.LC.nil _)) (fun h => S1T_ok h H)⟩)⟩)⟩⟩⟩) (fun h => have h := h _ f; S1T_ok h H)⟩⟩)⟩⟩)
end enthymemeref06_Valid
namespace enthymemeref06_Zero
noncomputable def C0 : Code := (Try.f18.body).getD .skip
/-- enthymeme/enthymemeref06.Zero -/
noncomputable def C1 := W.Code.snd C0
noncomputable def C2 := W.Code.snd C1
theorem ok (s0_0 s0_1 s0_2 : Int) (w : World) (R : W.Post) (h : W.nwV w (.cells #[.int .i64 s0_0, .int .i64 s0_1, .int .i64 s0_2] ty_api_Sort) fun w1 => 
  W.nwV w1 (.cells #[.int .i64 0, .int .i64 0, .int .i64 0, .int .u64 0, .string (ByteArray.mk #[]), .slice none 0 0] ty_enthymemeref06_Value) fun w2 => 
  ∃ t3_0 : Int, ∃ t3_1 : Int, ∃ t3_2 : Int, w2.cell? ((Addr.mk w.heap.size 0 none).add 0) = some (.int .i64 t3_0) ∧ w2.cell? ((Addr.mk w.heap.size 0 none).add 1) = some (.int .i64 t3_1) ∧ w2.cell? ((Addr.mk w.heap.size 0 none).add 2) = some (.int .i64 t3_2) ∧ 
  W.stV w2 (Addr.mk w1.heap.size 0 none) (.int .i64 t3_0) fun w3 => 
  W.stV w3 ((Addr.mk w1.heap.size 0 none).add 1) (.int .i64 t3_1) fun w4 => 
  W.stV w4 ((Addr.mk w1.heap.size 0 none).add 2) (.int .i64 t3_2) fun w5 => 
  W.stV w5 ((Addr.mk w1.heap.size 0 none).add 3) (.int .u64 0) fun w6 => 
  W.stV w6 ((Addr.mk w1.heap.size 0 none).add 4) (.string (ByteArray.mk #[])) fun w7 => 
  W.stV w7 ((Addr.mk w1.heap.size 0 none).add 5) (.slice none 0 0) fun w8 => 
  ∃ r2_0 : Int, ∃ r2_1 : Int, ∃ r2_2 : Int, ∃ r2_3 : Int, ∃ r2_4 : ByteArray, ∃ r2_5 : W.Sl, w8.cell? ((Addr.mk w1.heap.size 0 none).add 0) = some (.int .i64 r2_0) ∧ w8.cell? ((Addr.mk w1.heap.size 0 none).add 1) = some (.int .i64 r2_1) ∧ w8.cell? ((Addr.mk w1.heap.size 0 none).add 2) = some (.int .i64 r2_2) ∧ w8.cell? ((Addr.mk w1.heap.size 0 none).add 3) = some (.int .u64 r2_3) ∧ w8.cell? ((Addr.mk w1.heap.size 0 none).add 4) = some (.string r2_4) ∧ w8.cell? ((Addr.mk w1.heap.size 0 none).add 5) = some (r2_5.v) ∧ 
  R (.returned (.agg #[.int .i64 r2_0, .int .i64 r2_1, .int .i64 r2_2, .int .u64 r2_3, .string r2_4, r2_5.v])) w8) : Calls Try.prog n_enthymemeref06_Zero #[.agg #[.int .i64 s0_0, .int .i64 s0_1, .int .i64 s0_2]] w R :=
  W.calls_of_WP' (R := R) (fn := Try.f18) (c := C0) (args := [.agg #[.int .i64 s0_0, .int .i64 s0_1, .int .i64 s0_2]]) (by kernel_rfl) (by kernel_rfl) (by kernel_rfl) (W.sr C0 (by kernel_rfl) (show (fun (E : W.Env) (w : World) => W.srK Try.prog C0 (fun E w => W.srK Try.prog C1 (fun E w => W.retVC Try.prog Try.f18 E w (fun v => R (.returned v) w)) E w) E w) (W.envOf 0 [.agg #[.int .i64 s0_0, .int .i64 s0_1, .int .i64 s0_2]]) w from Eq.mp (by kernel_rfl) h) fun _ _ hK => (W.sr C1 (by kernel_rfl) hK fun _ _ hK => (W.rt C2 (by kernel_rfl) fun a hA => W.retVC_sound hA hK)))
theorem okT (s0_0 s0_1 s0_2 : Int) (w : World) (R : W.Post) (h : W.newV [] w fun b1 w1 => 
  W.newV [b1] w1 fun b2 w2 => 
  W.loc [b1, b2] w2 fun w8 => R (.returned (.agg #[.int .i64 s0_0, .int .i64 s0_1, .int .i64 s0_2, .int .u64 0, .string (ByteArray.mk #[]), .slice none 0 0])) w8) : Calls Try.prog n_enthymemeref06_Zero #[.agg #[.int .i64 s0_0, .int .i64 s0_1, .int .i64 s0_2]] w R :=
  ok _ _ _ w R (W.LC.nwT (W.LC.nil _) (W.Fr.refl _ _) h fun w1 H h => W.LC.nwT H (W.Fr.refl _ _) h fun w2 H h => ⟨_, _, _, H.ld 0 0, H.ld 0 1, H.ld 0 2, W.LC.stT0 H 1 (W.Fr.refl _ _) rfl rfl fun w3 H f => W.LC.stT H 1 1 f rfl rfl fun w4 H f => W.LC.stT H 1 2 f rfl rfl fun w5 H f => W.LC.stT H 1 3 f rfl rfl fun w6 H f => W.LC.stT H 1 4 f rfl rfl fun w7 H f => W.LC.stT H 1 5 f rfl rfl fun w8 (H : W.LC w8 [(w.heap.size, [.int .i64 s0_0, .int .i64 s0_1, .int .i64 s0_2], ty_api_Sort), (w1.heap.size, [.int .i64 s0_0, .int .i64 s0_1, .int .i64 s0_2, .int .u64 0, .string (ByteArray.mk #[]), .slice none 0 0], ty_enthymemeref06_Value)]) (f : W.Fr (· ∈ [w.heap.size, w1.heap.size]) _ w8) => ⟨_, _, _, _, _, ⟨none, 0, 0⟩, H.ld 1 0, H.ld 1 1, H.ld 1 2, H.ld 1 3, H.ld 1 4, H.ld 1 5, have h := h _ f; h⟩⟩)
end enthymemeref06_Zero
namespace enthymemeref06_number
noncomputable def C0 : Code := (Try.f62.body).getD .skip
/-- enthymeme/enthymemeref06.number -/
noncomputable def C1 := W.Code.snd C0
noncomputable def C2 := W.Code.fst C1
noncomputable def C3 := W.Code.snd C2
noncomputable def C4 := W.Code.fst C3
noncomputable def C5 := W.Code.snd C1
noncomputable def C6 := W.Code.fst C5
noncomputable def C7 := W.Code.snd C6
noncomputable def C8 := W.Code.fst C7
noncomputable def C9 := W.Code.snd C5
noncomputable def C10 := W.Code.snd C4
noncomputable def C11 := W.Code.snd C3
noncomputable def C12 := W.Code.snd C8
noncomputable def C13 := W.Code.snd C7
noncomputable def C14 := W.Code.snd C9
theorem ok (a0 b1 : Int) (w : World) (R : W.Post) (h : W.sel (decide (a0 < b1)) (R (.returned (.int .i64 (-1))) w) (W.sel (decide (a0 > b1)) (R (.returned (.int .i64 1)) w) (R (.returned (.int .i64 0)) w))) : Calls Try.prog n_enthymemeref06_number #[.int .u64 a0, .int .u64 b1] w R :=
  W.calls_of_WP' (R := R) (fn := Try.f62) (c := C0) (args := [.int .u64 a0, .int .u64 b1]) (by kernel_rfl) (by kernel_rfl) (by kernel_rfl) (W.sr C0 (by kernel_rfl) (show (fun (E : W.Env) (w : World) => W.srK Try.prog C0 (fun E w => W.srK Try.prog C2 (fun E w => W.condK (W.Env.val E (.tmp 7)) (W.srK Try.prog C4 (fun E w => W.retVC Try.prog Try.f62 E w (fun v => R (.returned v) w)) E w) (W.srK Try.prog C6 (fun E w => W.condK (W.Env.val E (.tmp 10)) (W.srK Try.prog C8 (fun E w => W.retVC Try.prog Try.f62 E w (fun v => R (.returned v) w)) E w) (W.srK Try.prog C9 (fun E w => W.retVC Try.prog Try.f62 E w (fun v => R (.returned v) w)) E w)) E w)) E w) E w) (W.envOf 0 [.int .u64 a0, .int .u64 b1]) w from Eq.mp (by kernel_rfl) h) fun _ _ hK => (W.sq C1 (by kernel_rfl) (W.sr C2 (by kernel_rfl) hK fun _ _ hK => (W.cn C3 (by kernel_rfl) hK (fun hK => (W.sr C4 (by kernel_rfl) hK fun _ _ hK => (W.rt C10 (by kernel_rfl) fun a hA => W.retVC_sound hA hK))) (fun hK => (W.sk C11 (by kernel_rfl) fun a hA => W.nx hA (W.sq C5 (by kernel_rfl) (W.sr C6 (by kernel_rfl) hK fun _ _ hK => (W.cn C7 (by kernel_rfl) hK (fun hK => (W.sr C8 (by kernel_rfl) hK fun _ _ hK => (W.rt C12 (by kernel_rfl) fun a hA => W.retVC_sound hA hK))) (fun hK => (W.sk C13 (by kernel_rfl) fun a hA => W.nx hA (W.sr C9 (by kernel_rfl) hK fun _ _ hK => (W.rt C14 (by kernel_rfl) fun a hA => W.retVC_sound hA hK)))))))))))))
end enthymemeref06_number
namespace enthymemeref06_ints
noncomputable def C0 : Code := (Try.f61.body).getD .skip
/-- enthymeme/enthymemeref06.ints -/
noncomputable def C1 := W.Code.snd C0
noncomputable def C2 := W.Code.fst C1
noncomputable def C3 := W.Code.snd C2
noncomputable def C4 := W.Code.fst C3
noncomputable def C5 := W.Code.snd C1
noncomputable def C6 := W.Code.fst C5
noncomputable def C7 := W.Code.snd C6
noncomputable def C8 := W.Code.fst C7
noncomputable def C9 := W.Code.snd C5
noncomputable def C10 := W.Code.snd C4
noncomputable def C11 := W.Code.snd C3
noncomputable def C12 := W.Code.snd C8
noncomputable def C13 := W.Code.snd C7
noncomputable def C14 := W.Code.snd C9
theorem ok (a0 b1 : Int) (w : World) (R : W.Post) (h : W.sel (decide (a0 < b1)) (R (.returned (.int .i64 (-1))) w) (W.sel (decide (a0 > b1)) (R (.returned (.int .i64 1)) w) (R (.returned (.int .i64 0)) w))) : Calls Try.prog n_enthymemeref06_ints #[.int .i64 a0, .int .i64 b1] w R :=
  W.calls_of_WP' (R := R) (fn := Try.f61) (c := C0) (args := [.int .i64 a0, .int .i64 b1]) (by kernel_rfl) (by kernel_rfl) (by kernel_rfl) (W.sr C0 (by kernel_rfl) (show (fun (E : W.Env) (w : World) => W.srK Try.prog C0 (fun E w => W.srK Try.prog C2 (fun E w => W.condK (W.Env.val E (.tmp 7)) (W.srK Try.prog C4 (fun E w => W.retVC Try.prog Try.f61 E w (fun v => R (.returned v) w)) E w) (W.srK Try.prog C6 (fun E w => W.condK (W.Env.val E (.tmp 10)) (W.srK Try.prog C8 (fun E w => W.retVC Try.prog Try.f61 E w (fun v => R (.returned v) w)) E w) (W.srK Try.prog C9 (fun E w => W.retVC Try.prog Try.f61 E w (fun v => R (.returned v) w)) E w)) E w)) E w) E w) (W.envOf 0 [.int .i64 a0, .int .i64 b1]) w from Eq.mp (by kernel_rfl) h) fun _ _ hK => (W.sq C1 (by kernel_rfl) (W.sr C2 (by kernel_rfl) hK fun _ _ hK => (W.cn C3 (by kernel_rfl) hK (fun hK => (W.sr C4 (by kernel_rfl) hK fun _ _ hK => (W.rt C10 (by kernel_rfl) fun a hA => W.retVC_sound hA hK))) (fun hK => (W.sk C11 (by kernel_rfl) fun a hA => W.nx hA (W.sq C5 (by kernel_rfl) (W.sr C6 (by kernel_rfl) hK fun _ _ hK => (W.cn C7 (by kernel_rfl) hK (fun hK => (W.sr C8 (by kernel_rfl) hK fun _ _ hK => (W.rt C12 (by kernel_rfl) fun a hA => W.retVC_sound hA hK))) (fun hK => (W.sk C13 (by kernel_rfl) fun a hA => W.nx hA (W.sr C9 (by kernel_rfl) hK fun _ _ hK => (W.rt C14 (by kernel_rfl) fun a hA => W.retVC_sound hA hK)))))))))))))
end enthymemeref06_ints
namespace enthymemeref06_texts
noncomputable def C0 : Code := (Try.f63.body).getD .skip
noncomputable def C1 := W.Code.snd C0
noncomputable def C2 := W.Code.fst C1
noncomputable def C3 := W.Code.snd C2
noncomputable def C4 := W.Code.fst C3
noncomputable def C5 := W.Code.fst C4
noncomputable def C6 := W.Code.snd C1
abbrev Q0 (R : W.Post) : Exit → Act → World → Prop := (Exit.then (W.wpx Try.prog (W.cx 36) C6 (bodyPost Try.prog Try.f63 R)) (bodyPost Try.prog Try.f63 R))
abbrev Q1 (R : W.Post) : Exit → Act → World → Prop := (Exit.inBlock 0 (Q0 R))
/-- the head of the loop, ref.go:110 -/
def L0 (a0 b1 : ByteArray) (i5 : Int) (w : World) (R : W.Post) : Prop := W.LP Try.prog (W.cx 36) C5 (Q1 R) [(0, .string a0), (1, .string b1), (5, .int .i64 i5)] w
def KE_L0 (E : W.Env) (w : World) (R : W.Post) : Prop := W.asStr (W.Env.get? E 0) fun a0 => W.asStr (W.Env.get? E 1) fun b1 => W.asInt .i64 (W.Env.get? E 5) fun i5 => L0 a0 b1 i5 w R
theorem KE_L0_ok (R : W.Post) (E : W.Env) (w : World) (h : KE_L0 E w R) : W.LP Try.prog (W.cx 36) C5 (Q1 R) E w := by
  obtain ⟨a0, hq0, h_1⟩ := W.asStr_elim h
  obtain ⟨b1, hq1, h_2⟩ := W.asStr_elim h_1
  obtain ⟨i5, hq5, h_3⟩ := W.asInt_elim h_2
  intro a ha
  exact h_3 a (ha.cons hq0 (ha.cons hq1 (ha.cons hq5 ha.nil)))
abbrev Q2 (R : W.Post) : Exit → Act → World → Prop := (bodyPost Try.prog Try.f63 R)
noncomputable def C7 := W.Code.snd C6
/-- ref.go:116 -/
abbrev S1 (a0 b1 : ByteArray) (w : World) (R : W.Post) : Prop :=
  Calls Try.prog n_enthymemeref06_ints #[.int .i64 ((a0.size : Nat) : Int), .int .i64 ((b1.size : Nat) : Int)] w fun r_ w1 => ∃ t35 : Int, r_ = .returned (.int .i64 t35) ∧ 
  R (.returned (.int .i64 t35)) w1
def KE_S1 (E : W.Env) (w : World) (R : W.Post) : Prop := W.asStr (W.Env.get? E 0) fun a0 => W.asStr (W.Env.get? E 1) fun b1 => S1 a0 b1 w R
theorem KE_S1_ok (R : W.Post) (E : W.Env) (w : World) (h : KE_S1 E w R) : W.WP Try.prog (W.cx 36) C6 (Q2 R) E w := by
  obtain ⟨a0, hq0, h_1⟩ := W.asStr_elim h
  obtain ⟨b1, hq1, h_2⟩ := W.asStr_elim h_1
  exact fun a ha => W.WP.at (E := [(0, .string a0), (1, .string b1)]) (W.sr C6 (K := fun E w => W.retVC Try.prog Try.f63 E w (fun v => R (.returned v) w)) (by kernel_rfl) (Eq.mp (by kernel_rfl) h_2) fun _ _ hK => (W.rt C7 (by kernel_rfl) fun a hA => W.retVC_sound hA hK)) (ha.cons hq0 (ha.cons hq1 ha.nil))
noncomputable def C8 := W.Code.fst C5
noncomputable def C9 := W.Code.snd C5
noncomputable def C10 := W.Code.fst C9
noncomputable def C11 := W.Code.fst C10
noncomputable def C12 := W.Code.snd C11
noncomputable def C13 := W.Code.snd C12
noncomputable def C14 := W.Code.fst C13
noncomputable def C15 := W.Code.snd C9
noncomputable def C16 := W.Code.snd C8
noncomputable def C17 := W.Code.fst C16
noncomputable def C18 := W.Code.snd C14
noncomputable def C19 := W.Code.snd C13
noncomputable def C20 := W.Code.snd C16
theorem L0_step (a0 b1 : ByteArray) (i5 : Int) (w : World) (R : W.Post) (h : W.sel (decide (i5 < ((a0.size : Nat) : Int))) (W.sel (decide (i5 < ((b1.size : Nat) : Int))) (W.drV w fun w1 => (0 : Int) ≤ i5 ∧ ∃ t21_b : UInt8, a0[Int.toNat i5]? = some t21_b ∧ (0 : Int) ≤ i5 ∧ ∃ t25_b : UInt8, b1[Int.toNat i5]? = some t25_b ∧ Calls Try.prog n_enthymemeref06_ints #[.int .i64 (IntKind.wrap .i64 ((t21_b.toNat : Nat) : Int)), .int .i64 (IntKind.wrap .i64 ((t25_b.toNat : Nat) : Int))] w1 fun r_ w2 => ∃ t27 : Int, r_ = .returned (.int .i64 t27) ∧ 
  W.sel (t27 != 0) (R (.returned (.int .i64 t27)) w2) (L0 a0 b1 (IntKind.wrap .i64 (i5 + 1)) w2 R)) (S1 a0 b1 w R)) (S1 a0 b1 w R)) : L0 a0 b1 i5 w R :=
  W.LP.step (n := (W.cx 36)) (c := C5) (E := [(0, .string a0), (1, .string b1), (5, .int .i64 i5)]) (w := w) (W.sq C5 (by kernel_rfl) (W.sr C8 (by kernel_rfl) (show (fun (E : W.Env) (w : World) => W.srK Try.prog C8 (fun E w => W.condK (W.Env.val E (.tmp 16)) (W.sdK Try.prog C11 [0, 1, 2, 3, 4, 5, 6, 7, 8, 9] (fun E w => W.srK Try.prog C12 (fun E w => W.condK (W.Env.val E (.tmp 29)) (W.srK Try.prog C14 (fun E w => W.retVC Try.prog Try.f63 E w (fun v => R (.returned v) w)) E w) (W.rgK Try.prog C15 (fun E w => KE_L0 E w R) E w)) E w) E w) (KE_S1 E w R)) E w) [(0, .string a0), (1, .string b1), (5, .int .i64 i5)] w from Eq.mp (by kernel_rfl) h) fun _ _ hK => (W.cn C16 (by kernel_rfl) hK (fun hK => (W.sk C17 (by kernel_rfl) fun a hA => W.nx hA (W.sq C9 (by kernel_rfl) (W.bk C10 1 (by kernel_rfl) (W.sd C11 (by kernel_rfl) hK fun _ _ hK => (W.sr C12 (by kernel_rfl) hK fun _ _ hK => (W.cn C13 (by kernel_rfl) hK (fun hK => (W.sr C14 (by kernel_rfl) hK fun _ _ hK => (W.rt C18 (by kernel_rfl) fun a hA => W.retVC_sound hA hK))) (fun hK => (W.sk C19 (by kernel_rfl) fun a hA => W.nx hA (W.rg C15 (by kernel_rfl) hK fun _ _ a hA hK => KE_L0_ok R _ _ hK a hA)))))))))) (fun hK => (W.xt C20 0 (by kernel_rfl) fun a hA => W.nx hA (KE_S1_ok R _ _ hK))))))
/-- enthymeme/enthymemeref06.texts -/
theorem ok (a0 b1 : ByteArray) (w : World) (R : W.Post) (h : L0 a0 b1 0 w R) : Calls Try.prog n_enthymemeref06_texts #[.string a0, .string b1] w R :=
  W.calls_of_WP' (R := R) (fn := Try.f63) (c := C0) (args := [.string a0, .string b1]) (by kernel_rfl) (by kernel_rfl) (by kernel_rfl) (W.sr C0 (by kernel_rfl) (show (fun (E : W.Env) (w : World) => W.srK Try.prog C0 (fun E w => W.srK Try.prog C2 (fun E w => KE_L0 E w R) E w) E w) (W.envOf 0 [.string a0, .string b1]) w from Eq.mp (by kernel_rfl) h) fun _ _ hK => (W.sq C1 (by kernel_rfl) (W.sr C2 (by kernel_rfl) hK fun _ _ hK => (W.bk C3 0 (by kernel_rfl) (W.lp C4 (by kernel_rfl) (KE_L0_ok R _ _ hK))))))
end enthymemeref06_texts
namespace enthymemeref06_first
noncomputable def C0 : Code := (Try.f60.body).getD .skip
noncomputable def C1 := W.Code.snd C0
noncomputable def C2 := W.Code.fst C1
noncomputable def C3 := W.Code.snd C2
noncomputable def C4 := W.Code.fst C3
noncomputable def C5 := W.Code.fst C4
noncomputable def C6 := W.Code.snd C1
abbrev Q0 (R : W.Post) : Exit → Act → World → Prop := (Exit.then (W.wpx Try.prog (W.cx 19) C6 (bodyPost Try.prog Try.f60 R)) (bodyPost Try.prog Try.f60 R))
abbrev Q1 (R : W.Post) : Exit → Act → World → Prop := (Exit.inBlock 0 (Q0 R))
/-- the head of the loop, ref.go:121 -/
def L0 (l0 : W.Sl) (i3 : Int) (w : World) (R : W.Post) : Prop := W.LP Try.prog (W.cx 19) C5 (Q1 R) [(0, l0.v), (3, .int .i64 i3)] w
def KE_L0 (E : W.Env) (w : World) (R : W.Post) : Prop := W.asSlice (W.Env.get? E 0) fun l0 => W.asInt .i64 (W.Env.get? E 3) fun i3 => L0 l0 i3 w R
theorem KE_L0_ok (R : W.Post) (E : W.Env) (w : World) (h : KE_L0 E w R) : W.LP Try.prog (W.cx 19) C5 (Q1 R) E w := by
  obtain ⟨l0, hq0, h_1⟩ := W.asSlice_elim h
  obtain ⟨i3, hq3, h_2⟩ := W.asInt_elim h_1
  intro a ha
  exact h_2 a (ha.cons hq0 (ha.cons hq3 ha.nil))
noncomputable def C7 := W.Code.fst C5
noncomputable def C8 := W.Code.snd C5
noncomputable def C9 := W.Code.fst C8
noncomputable def C10 := W.Code.fst C9
noncomputable def C11 := W.Code.snd C10
noncomputable def C12 := W.Code.fst C11
noncomputable def C13 := W.Code.snd C8
noncomputable def C14 := W.Code.snd C7
noncomputable def C15 := W.Code.fst C14
noncomputable def C16 := W.Code.snd C12
noncomputable def C17 := W.Code.snd C11
noncomputable def C18 := W.Code.snd C14
noncomputable def C19 := W.Code.snd C6
theorem L0_step (l0 : W.Sl) (i3 : Int) (w : World) (R : W.Post) (h : W.sel (decide (i3 < ((l0.n : Nat) : Int))) ((0 : Int) ≤ i3 ∧ i3 < ((l0.n : Nat) : Int) ∧ W.optP l0.a fun t12_p => ∃ t13 : Int, w.cell? (t12_p.add (Int.toNat i3 * 1)) = some (.int .i64 t13) ∧ 
  W.sel (t13 != 0) ((0 : Int) ≤ i3 ∧ i3 < ((l0.n : Nat) : Int) ∧ W.optP l0.a fun t17_p => ∃ t18 : Int, w.cell? (t17_p.add (Int.toNat i3 * 1)) = some (.int .i64 t18) ∧ 
  R (.returned (.int .i64 t18)) w) (L0 l0 (IntKind.wrap .i64 (i3 + 1)) w R)) (R (.returned (.int .i64 0)) w)) : L0 l0 i3 w R :=
  W.LP.step (n := (W.cx 19)) (c := C5) (E := [(0, l0.v), (3, .int .i64 i3)]) (w := w) (W.sq C5 (by kernel_rfl) (W.sr C7 (by kernel_rfl) (show (fun (E : W.Env) (w : World) => W.srK Try.prog C7 (fun E w => W.condK (W.Env.val E (.tmp 7)) (W.srK Try.prog C10 (fun E w => W.condK (W.Env.val E (.tmp 14)) (W.srK Try.prog C12 (fun E w => W.retVC Try.prog Try.f60 E w (fun v => R (.returned v) w)) E w) (W.rgK Try.prog C13 (fun E w => KE_L0 E w R) E w)) E w) (W.srK Try.prog C6 (fun E w => W.retVC Try.prog Try.f60 E w (fun v => R (.returned v) w)) E w)) E w) [(0, l0.v), (3, .int .i64 i3)] w from Eq.mp (by kernel_rfl) h) fun _ _ hK => (W.cn C14 (by kernel_rfl) hK (fun hK => (W.sk C15 (by kernel_rfl) fun a hA => W.nx hA (W.sq C8 (by kernel_rfl) (W.bk C9 1 (by kernel_rfl) (W.sr C10 (by kernel_rfl) hK fun _ _ hK => (W.cn C11 (by kernel_rfl) hK (fun hK => (W.sr C12 (by kernel_rfl) hK fun _ _ hK => (W.rt C16 (by kernel_rfl) fun a hA => W.retVC_sound hA hK))) (fun hK => (W.sk C17 (by kernel_rfl) fun a hA => W.nx hA (W.rg C13 (by kernel_rfl) hK fun _ _ a hA hK => KE_L0_ok R _ _ hK a hA))))))))) (fun hK => (W.xt C18 0 (by kernel_rfl) fun a hA => W.nx hA (W.sr C6 (by kernel_rfl) hK fun _ _ hK => (W.rt C19 (by kernel_rfl) fun a hA => W.retVC_sound hA hK)))))))
/-- enthymeme/enthymemeref06.first -/
theorem ok (l0 : W.Sl) (w : World) (R : W.Post) (h : L0 l0 0 w R) : Calls Try.prog n_enthymemeref06_first #[l0.v] w R :=
  W.calls_of_WP' (R := R) (fn := Try.f60) (c := C0) (args := [l0.v]) (by kernel_rfl) (by kernel_rfl) (by kernel_rfl) (W.sr C0 (by kernel_rfl) (show (fun (E : W.Env) (w : World) => W.srK Try.prog C0 (fun E w => W.srK Try.prog C2 (fun E w => KE_L0 E w R) E w) E w) (W.envOf 0 [l0.v]) w from Eq.mp (by kernel_rfl) h) fun _ _ hK => (W.sq C1 (by kernel_rfl) (W.sr C2 (by kernel_rfl) hK fun _ _ hK => (W.bk C3 0 (by kernel_rfl) (W.lp C4 (by kernel_rfl) (KE_L0_ok R _ _ hK))))))
end enthymemeref06_first
namespace enthymemeref06_Compare
noncomputable def C0 : Code := (Try.f31.body).getD .skip
noncomputable def C1 := W.Code.snd C0
noncomputable def C2 := W.Code.snd C1
noncomputable def C3 := W.Code.fst C2
noncomputable def C4 := W.Code.snd C3
noncomputable def C5 := W.Code.fst C4
noncomputable def C6 := W.Code.fst C5
noncomputable def C7 := W.Code.snd C2
abbrev Q0 (R : W.Post) : Exit → Act → World → Prop := (Exit.then (W.wpx Try.prog (W.cx 97) C7 (bodyPost Try.prog Try.f31 R)) (bodyPost Try.prog Try.f31 R))
abbrev Q1 (R : W.Post) : Exit → Act → World → Prop := (Exit.inBlock 0 (Q0 R))
/-- the head of the loop, ref.go:132 -/
def L0 (a2 b3 : Addr) (c5 i6 : Int) (w : World) (R : W.Post) : Prop := W.LP Try.prog (W.cx 97) C6 (Q1 R) [(2, .pointer (some a2)), (3, .pointer (some b3)), (5, .int .i64 c5), (6, .int .i64 i6)] w
def KE_L0 (E : W.Env) (w : World) (R : W.Post) : Prop := W.asRef (W.Env.get? E 2) fun a2 => W.asRef (W.Env.get? E 3) fun b3 => W.asInt .i64 (W.Env.get? E 5) fun c5 => W.asInt .i64 (W.Env.get? E 6) fun i6 => L0 a2 b3 c5 i6 w R
theorem KE_L0_ok (R : W.Post) (E : W.Env) (w : World) (h : KE_L0 E w R) : W.LP Try.prog (W.cx 97) C6 (Q1 R) E w := by
  obtain ⟨a2, hq2, h_1⟩ := W.asRef_elim h
  obtain ⟨b3, hq3, h_2⟩ := W.asRef_elim h_1
  obtain ⟨c5, hq5, h_3⟩ := W.asInt_elim h_2
  obtain ⟨i6, hq6, h_4⟩ := W.asInt_elim h_3
  intro a ha
  exact h_4 a (ha.cons hq2 (ha.cons hq3 (ha.cons hq5 (ha.cons hq6 ha.nil))))
noncomputable def C8 := W.Code.fst C7
noncomputable def C9 := W.Code.snd C7
abbrev Q2 (R : W.Post) : Exit → Act → World → Prop := (Exit.then (W.wpx Try.prog (W.cx 97) C9 (bodyPost Try.prog Try.f31 R)) (bodyPost Try.prog Try.f31 R))
noncomputable def C10 := W.Code.snd C8
noncomputable def C11 := W.Code.fst C10
noncomputable def C12 := W.Code.snd C11
noncomputable def C13 := W.Code.snd C10
noncomputable def C14 := W.Code.snd C9
/-- ref.go:137 -/
abbrev S1 (a2 b3 : Addr) (c5 : Int) (w : World) (R : W.Post) : Prop :=
  W.sel (c5 != 0) (R (.returned (.int .i64 c5)) w) (∃ t91 : W.Sl, w.cell? (a2.add 5) = some (t91.v) ∧ 
  ∃ t94 : W.Sl, w.cell? (b3.add 5) = some (t94.v) ∧ 
  Calls Try.prog n_enthymemeref06_ints #[.int .i64 ((t91.n : Nat) : Int), .int .i64 ((t94.n : Nat) : Int)] w fun r_ w1 => ∃ t96 : Int, r_ = .returned (.int .i64 t96) ∧ 
  R (.returned (.int .i64 t96)) w1)
def KE_S1 (E : W.Env) (w : World) (R : W.Post) : Prop := W.asRef (W.Env.get? E 2) fun a2 => W.asRef (W.Env.get? E 3) fun b3 => W.asInt .i64 (W.Env.get? E 5) fun c5 => S1 a2 b3 c5 w R
theorem KE_S1_ok (R : W.Post) (E : W.Env) (w : World) (h : KE_S1 E w R) : W.WP Try.prog (W.cx 97) C8 (Q2 R) E w := by
  obtain ⟨a2, hq2, h_1⟩ := W.asRef_elim h
  obtain ⟨b3, hq3, h_2⟩ := W.asRef_elim h_1
  obtain ⟨c5, hq5, h_3⟩ := W.asInt_elim h_2
  exact fun a ha => W.WP.at (E := [(2, .pointer (some a2)), (3, .pointer (some b3)), (5, .int .i64 c5)]) (W.sr C8 (K := fun E w => W.condK (W.Env.val E (.tmp 88)) (W.srK Try.prog C11 (fun E w => W.retVC Try.prog Try.f31 E w (fun v => R (.returned v) w)) E w) (W.srK Try.prog C9 (fun E w => W.retVC Try.prog Try.f31 E w (fun v => R (.returned v) w)) E w)) (by kernel_rfl) (Eq.mp (by kernel_rfl) h_3) fun _ _ hK => (W.cn C10 (by kernel_rfl) hK (fun hK => (W.sr C11 (by kernel_rfl) hK fun _ _ hK => (W.rt C12 (by kernel_rfl) fun a hA => W.retVC_sound hA hK))) (fun hK => (W.sk C13 (by kernel_rfl) fun a hA => W.nx hA (W.sr C9 (by kernel_rfl) hK fun _ _ hK => (W.rt C14 (by kernel_rfl) fun a hA => W.retVC_sound hA hK)))))) (ha.cons hq2 (ha.cons hq3 (ha.cons hq5 ha.nil)))
noncomputable def C15 := W.Code.fst C6
noncomputable def C16 := W.Code.snd C6
noncomputable def C17 := W.Code.fst C16
noncomputable def C18 := W.Code.fst C17
noncomputable def C19 := W.Code.snd C18
noncomputable def C20 := W.Code.snd C19
noncomputable def C21 := W.Code.snd C16
noncomputable def C22 := W.Code.snd C15
noncomputable def C23 := W.Code.fst C22
noncomputable def C24 := W.Code.snd C22
theorem L0_step (a2 b3 : Addr) (c5 i6 : Int) (w : World) (R : W.Post) (h : ∃ t44 : W.Sl, w.cell? (a2.add 5) = some (t44.v) ∧ 
  W.sel (decide (i6 < ((t44.n : Nat) : Int))) (∃ t50 : W.Sl, w.cell? (b3.add 5) = some (t50.v) ∧ 
  W.sel (decide (i6 < ((t50.n : Nat) : Int))) (W.sel (c5 == 0) (∃ t61 : W.Sl, w.cell? (a2.add 5) = some (t61.v) ∧ 
  (0 : Int) ≤ i6 ∧ i6 < ((t61.n : Nat) : Int) ∧ W.optP t61.a fun t63_p => ∃ t64_0 : Int, ∃ t64_1 : Int, ∃ t64_2 : ByteArray, w.cell? ((t63_p.add (Int.toNat i6 * 3)).add 0) = some (.int .u64 t64_0) ∧ w.cell? ((t63_p.add (Int.toNat i6 * 3)).add 1) = some (.int .u64 t64_1) ∧ w.cell? ((t63_p.add (Int.toNat i6 * 3)).add 2) = some (.string t64_2) ∧ 
  W.nwV w (.cells #[.int .u64 0, .int .u64 0, .string (ByteArray.mk #[])] ty_enthymemeref06_Entry) fun w11 => 
  W.stV w11 (Addr.mk w.heap.size 0 none) (.int .u64 t64_0) fun w12 => 
  W.stV w12 ((Addr.mk w.heap.size 0 none).add 1) (.int .u64 t64_1) fun w13 => 
  W.stV w13 ((Addr.mk w.heap.size 0 none).add 2) (.string t64_2) fun w14 => 
  ∃ t66 : W.Sl, w14.cell? (b3.add 5) = some (t66.v) ∧ 
  (0 : Int) ≤ i6 ∧ i6 < ((t66.n : Nat) : Int) ∧ W.optP t66.a fun t68_p => ∃ t69_0 : Int, ∃ t69_1 : Int, ∃ t69_2 : ByteArray, w14.cell? ((t68_p.add (Int.toNat i6 * 3)).add 0) = some (.int .u64 t69_0) ∧ w14.cell? ((t68_p.add (Int.toNat i6 * 3)).add 1) = some (.int .u64 t69_1) ∧ w14.cell? ((t68_p.add (Int.toNat i6 * 3)).add 2) = some (.string t69_2) ∧ 
  W.nwV w14 (.cells #[.int .u64 0, .int .u64 0, .string (ByteArray.mk #[])] ty_enthymemeref06_Entry) fun w15 => 
  W.stV w15 (Addr.mk w14.heap.size 0 none) (.int .u64 t69_0) fun w16 => 
  W.stV w16 ((Addr.mk w14.heap.size 0 none).add 1) (.int .u64 t69_1) fun w17 => 
  W.stV w17 ((Addr.mk w14.heap.size 0 none).add 2) (.string t69_2) fun w18 => 
  W.drV w18 fun w19 => ∃ t71 : Int, w19.cell? ((Addr.mk w.heap.size 0 none).add 0) = some (.int .u64 t71) ∧ 
  ∃ t73 : Int, w19.cell? ((Addr.mk w14.heap.size 0 none).add 0) = some (.int .u64 t73) ∧ 
  ∃ t76 : Int, w19.cell? ((Addr.mk w.heap.size 0 none).add 1) = some (.int .u64 t76) ∧ 
  ∃ t78 : Int, w19.cell? ((Addr.mk w14.heap.size 0 none).add 1) = some (.int .u64 t78) ∧ 
  ∃ t81 : ByteArray, w19.cell? ((Addr.mk w.heap.size 0 none).add 2) = some (.string t81) ∧ 
  ∃ t83 : ByteArray, w19.cell? ((Addr.mk w14.heap.size 0 none).add 2) = some (.string t83) ∧ 
  Calls Try.prog n_enthymemeref06_number #[.int .u64 t71, .int .u64 t73] w19 fun r_ w20 => ∃ t74 : Int, r_ = .returned (.int .i64 t74) ∧ 
  w20.cell? ((Addr.mk w14.heap.size 0 none).add 2) = some (.string t83) ∧ w20.cell? ((Addr.mk w.heap.size 0 none).add 2) = some (.string t81) ∧ w20.cell? ((Addr.mk w14.heap.size 0 none).add 1) = some (.int .u64 t78) ∧ w20.cell? ((Addr.mk w.heap.size 0 none).add 1) = some (.int .u64 t76) ∧ Calls Try.prog n_enthymemeref06_number #[.int .u64 t76, .int .u64 t78] w20 fun r_ w21 => ∃ t79 : Int, r_ = .returned (.int .i64 t79) ∧ 
  w21.cell? ((Addr.mk w14.heap.size 0 none).add 2) = some (.string t83) ∧ w21.cell? ((Addr.mk w.heap.size 0 none).add 2) = some (.string t81) ∧ Calls Try.prog n_enthymemeref06_texts #[.string t81, .string t83] w21 fun r_ w22 => ∃ t84 : Int, r_ = .returned (.int .i64 t84) ∧ 
  W.nwV w22 (.cells #[.int .i64 t74, .int .i64 t79, .int .i64 t84] ty_int) fun w23 => 
  Calls Try.prog n_enthymemeref06_first #[.slice (some (Addr.mk w22.heap.size 0 none)) 3 3] w23 fun r_ w24 => ∃ t86 : Int, r_ = .returned (.int .i64 t86) ∧ 
  L0 a2 b3 t86 (IntKind.wrap .i64 (i6 + 1)) w24 R) (S1 a2 b3 c5 w R)) (S1 a2 b3 c5 w R)) (S1 a2 b3 c5 w R)) : L0 a2 b3 c5 i6 w R :=
  W.LP.step (n := (W.cx 97)) (c := C6) (E := [(2, .pointer (some a2)), (3, .pointer (some b3)), (5, .int .i64 c5), (6, .int .i64 i6)]) (w := w) (W.sq C6 (by kernel_rfl) (W.sr C15 (by kernel_rfl) (show (fun (E : W.Env) (w : World) => W.srK Try.prog C15 (fun E w => W.condK (W.Env.val E (.tmp 57)) (W.srK Try.prog C18 (fun E w => W.srK Try.prog C19 (fun E w => W.dgK Try.prog C20 [0, 1, 2, 3, 5, 6, 7, 8, 10, 11, 12, 13, 4, 9, 14, 15, 16, 17] (fun E w => W.rgK Try.prog C21 (fun E w => KE_L0 E w R) E w) E w) E w) E w) (KE_S1 E w R)) E w) [(2, .pointer (some a2)), (3, .pointer (some b3)), (5, .int .i64 c5), (6, .int .i64 i6)] w from Eq.mp (by kernel_rfl) h) fun _ _ hK => (W.cn C22 (by kernel_rfl) hK (fun hK => (W.sk C23 (by kernel_rfl) fun a hA => W.nx hA (W.sq C16 (by kernel_rfl) (W.bk C17 1 (by kernel_rfl) (W.sr C18 (by kernel_rfl) hK fun _ _ hK => (W.sr C19 (by kernel_rfl) hK fun _ _ hK => (W.dg C20 (by kernel_rfl) hK fun _ _ a hA hK => W.nx hA (W.rg C21 (by kernel_rfl) hK fun _ _ a hA hK => KE_L0_ok R _ _ hK a hA)))))))) (fun hK => (W.xt C24 0 (by kernel_rfl) fun a hA => W.nx hA (W.sq C7 (by kernel_rfl) (KE_S1_ok R _ _ hK)))))))
/-- enthymeme/enthymemeref06.Compare -/
theorem ok (a0_0 a0_1 a0_2 a0_3 : Int) (a0_4 : ByteArray) (a0_5 : W.Sl) (b1_0 b1_1 b1_2 b1_3 : Int) (b1_4 : ByteArray) (b1_5 : W.Sl) (w : World) (R : W.Post) (h : W.nwV w (.cells #[.int .i64 a0_0, .int .i64 a0_1, .int .i64 a0_2, .int .u64 a0_3, .string a0_4, a0_5.v] ty_enthymemeref06_Value) fun w1 => 
  W.nwV w1 (.cells #[.int .i64 b1_0, .int .i64 b1_1, .int .i64 b1_2, .int .u64 b1_3, .string b1_4, b1_5.v] ty_enthymemeref06_Value) fun w2 => 
  W.drV w2 fun w3 => ∃ t11 : Int, w3.cell? (((Addr.mk w.heap.size 0 none).add 0).add 0) = some (.int .i64 t11) ∧ 
  ∃ t14 : Int, w3.cell? (((Addr.mk w1.heap.size 0 none).add 0).add 0) = some (.int .i64 t14) ∧ 
  ∃ t18 : Int, w3.cell? (((Addr.mk w.heap.size 0 none).add 0).add 1) = some (.int .i64 t18) ∧ 
  ∃ t21 : Int, w3.cell? (((Addr.mk w1.heap.size 0 none).add 0).add 1) = some (.int .i64 t21) ∧ 
  ∃ t25 : Int, w3.cell? (((Addr.mk w.heap.size 0 none).add 0).add 2) = some (.int .i64 t25) ∧ 
  ∃ t28 : Int, w3.cell? (((Addr.mk w1.heap.size 0 none).add 0).add 2) = some (.int .i64 t28) ∧ 
  ∃ t31 : Int, w3.cell? ((Addr.mk w.heap.size 0 none).add 3) = some (.int .u64 t31) ∧ 
  ∃ t33 : Int, w3.cell? ((Addr.mk w1.heap.size 0 none).add 3) = some (.int .u64 t33) ∧ 
  ∃ t36 : ByteArray, w3.cell? ((Addr.mk w.heap.size 0 none).add 4) = some (.string t36) ∧ 
  ∃ t38 : ByteArray, w3.cell? ((Addr.mk w1.heap.size 0 none).add 4) = some (.string t38) ∧ 
  Calls Try.prog n_enthymemeref06_ints #[.int .i64 t11, .int .i64 t14] w3 fun r_ w4 => ∃ t15 : Int, r_ = .returned (.int .i64 t15) ∧ 
  w4.cell? ((Addr.mk w1.heap.size 0 none).add 4) = some (.string t38) ∧ w4.cell? ((Addr.mk w.heap.size 0 none).add 4) = some (.string t36) ∧ w4.cell? ((Addr.mk w1.heap.size 0 none).add 3) = some (.int .u64 t33) ∧ w4.cell? ((Addr.mk w.heap.size 0 none).add 3) = some (.int .u64 t31) ∧ w4.cell? (((Addr.mk w1.heap.size 0 none).add 0).add 2) = some (.int .i64 t28) ∧ w4.cell? (((Addr.mk w.heap.size 0 none).add 0).add 2) = some (.int .i64 t25) ∧ w4.cell? (((Addr.mk w1.heap.size 0 none).add 0).add 1) = some (.int .i64 t21) ∧ w4.cell? (((Addr.mk w.heap.size 0 none).add 0).add 1) = some (.int .i64 t18) ∧ Calls Try.prog n_enthymemeref06_ints #[.int .i64 t18, .int .i64 t21] w4 fun r_ w5 => ∃ t22 : Int, r_ = .returned (.int .i64 t22) ∧ 
  w5.cell? ((Addr.mk w1.heap.size 0 none).add 4) = some (.string t38) ∧ w5.cell? ((Addr.mk w.heap.size 0 none).add 4) = some (.string t36) ∧ w5.cell? ((Addr.mk w1.heap.size 0 none).add 3) = some (.int .u64 t33) ∧ w5.cell? ((Addr.mk w.heap.size 0 none).add 3) = some (.int .u64 t31) ∧ w5.cell? (((Addr.mk w1.heap.size 0 none).add 0).add 2) = some (.int .i64 t28) ∧ w5.cell? (((Addr.mk w.heap.size 0 none).add 0).add 2) = some (.int .i64 t25) ∧ Calls Try.prog n_enthymemeref06_ints #[.int .i64 t25, .int .i64 t28] w5 fun r_ w6 => ∃ t29 : Int, r_ = .returned (.int .i64 t29) ∧ 
  w6.cell? ((Addr.mk w1.heap.size 0 none).add 4) = some (.string t38) ∧ w6.cell? ((Addr.mk w.heap.size 0 none).add 4) = some (.string t36) ∧ w6.cell? ((Addr.mk w1.heap.size 0 none).add 3) = some (.int .u64 t33) ∧ w6.cell? ((Addr.mk w.heap.size 0 none).add 3) = some (.int .u64 t31) ∧ Calls Try.prog n_enthymemeref06_number #[.int .u64 t31, .int .u64 t33] w6 fun r_ w7 => ∃ t34 : Int, r_ = .returned (.int .i64 t34) ∧ 
  w7.cell? ((Addr.mk w1.heap.size 0 none).add 4) = some (.string t38) ∧ w7.cell? ((Addr.mk w.heap.size 0 none).add 4) = some (.string t36) ∧ Calls Try.prog n_enthymemeref06_texts #[.string t36, .string t38] w7 fun r_ w8 => ∃ t39 : Int, r_ = .returned (.int .i64 t39) ∧ 
  W.nwV w8 (.cells #[.int .i64 t15, .int .i64 t22, .int .i64 t29, .int .i64 t34, .int .i64 t39] ty_int) fun w9 => 
  Calls Try.prog n_enthymemeref06_first #[.slice (some (Addr.mk w8.heap.size 0 none)) 5 5] w9 fun r_ w10 => ∃ t41 : Int, r_ = .returned (.int .i64 t41) ∧ 
  L0 (Addr.mk w.heap.size 0 none) (Addr.mk w1.heap.size 0 none) t41 0 w10 R) : Calls Try.prog n_enthymemeref06_Compare #[.agg #[.int .i64 a0_0, .int .i64 a0_1, .int .i64 a0_2, .int .u64 a0_3, .string a0_4, a0_5.v], .agg #[.int .i64 b1_0, .int .i64 b1_1, .int .i64 b1_2, .int .u64 b1_3, .string b1_4, b1_5.v]] w R :=
  W.calls_of_WP' (R := R) (fn := Try.f31) (c := C0) (args := [.agg #[.int .i64 a0_0, .int .i64 a0_1, .int .i64 a0_2, .int .u64 a0_3, .string a0_4, a0_5.v], .agg #[.int .i64 b1_0, .int .i64 b1_1, .int .i64 b1_2, .int .u64 b1_3, .string b1_4, b1_5.v]]) (by kernel_rfl) (by kernel_rfl) (by kernel_rfl) (W.sr C0 (by kernel_rfl) (show (fun (E : W.Env) (w : World) => W.srK Try.prog C0 (fun E w => W.sdK Try.prog C1 [0, 1, 2, 3, 4, 5, 7, 8, 9, 10, 11, 12, 14, 15, 16, 17, 18, 19, 21, 22, 23, 24, 26, 27, 28, 29, 6, 13, 20, 25, 30, 31, 32, 33] (fun E w => W.srK Try.prog C3 (fun E w => KE_L0 E w R) E w) E w) E w) (W.envOf 0 [.agg #[.int .i64 a0_0, .int .i64 a0_1, .int .i64 a0_2, .int .u64 a0_3, .string a0_4, a0_5.v], .agg #[.int .i64 b1_0, .int .i64 b1_1, .int .i64 b1_2, .int .u64 b1_3, .string b1_4, b1_5.v]]) w from Eq.mp (by kernel_rfl) h) fun _ _ hK => (W.sd C1 (by kernel_rfl) hK fun _ _ hK => (W.sq C2 (by kernel_rfl) (W.sr C3 (by kernel_rfl) hK fun _ _ hK => (W.bk C4 0 (by kernel_rfl) (W.lp C5 (by kernel_rfl) (KE_L0_ok R _ _ hK)))))))
def L0T (a2 : Nat) (a2_0 a2_1 a2_2 a2_3 : Int) (a2_4 : ByteArray) (a2_5 : W.Sl) (b3 : Nat) (b3_0 b3_1 b3_2 b3_3 : Int) (b3_4 : ByteArray) (b3_5 : W.Sl) (c5 i6 : Int) (w : World) (R : W.Post) : Prop := W.LC w [(a2, [.int .i64 a2_0, .int .i64 a2_1, .int .i64 a2_2, .int .u64 a2_3, .string a2_4, a2_5.v], ty_enthymemeref06_Value), (b3, [.int .i64 b3_0, .int .i64 b3_1, .int .i64 b3_2, .int .u64 b3_3, .string b3_4, b3_5.v], ty_enthymemeref06_Value)] → L0 (W.at0 a2) (W.at0 b3) c5 i6 w R
abbrev S1T (a2 : Nat) (a2_0 a2_1 a2_2 a2_3 : Int) (a2_4 : ByteArray) (a2_5 : W.Sl) (b3 : Nat) (b3_0 b3_1 b3_2 b3_3 : Int) (b3_4 : ByteArray) (b3_5 : W.Sl) (c5 : Int) (w : World) (R : W.Post) : Prop :=
  W.sel (c5 != 0) (R (.returned (.int .i64 c5)) w) (W.callF [a2, b3] Try.prog n_enthymemeref06_ints #[.int .i64 ((a2_5.n : Nat) : Int), .int .i64 ((b3_5.n : Nat) : Int)] w fun r_ w1 => ∃ t96 : Int, r_ = .returned (.int .i64 t96) ∧ 
  R (.returned (.int .i64 t96)) w1)
theorem S1T_ok {a2 : Nat} {a2_0 a2_1 a2_2 a2_3 : Int} {a2_4 : ByteArray} {a2_5 : W.Sl} {b3 : Nat} {b3_0 b3_1 b3_2 b3_3 : Int} {b3_4 : ByteArray} {b3_5 : W.Sl} {c5 : Int} {w : World} {R : W.Post} (h : S1T a2 a2_0 a2_1 a2_2 a2_3 a2_4 a2_5 b3 b3_0 b3_1 b3_2 b3_3 b3_4 b3_5 c5 w R) (H : W.LC w [(a2, [.int .i64 a2_0, .int .i64 a2_1, .int .i64 a2_2, .int .u64 a2_3, .string a2_4, a2_5.v], ty_enthymemeref06_Value), (b3, [.int .i64 b3_0, .int .i64 b3_1, .int .i64 b3_2, .int .u64 b3_3, .string b3_4, b3_5.v], ty_enthymemeref06_Value)]) : S1 (W.at0 a2) (W.at0 b3) c5 w R := W.sel_imp h (fun h => h) (fun h => ⟨a2_5, H.ld 0 5, ⟨b3_5, H.ld 1 5, W.LC.callT H h fun r_ w1 H h => let ⟨t96, hr, h⟩ := h; ⟨t96, hr, h⟩⟩⟩)
theorem L0T_step (a2 : Nat) (a2_0 a2_1 a2_2 a2_3 : Int) (a2_4 : ByteArray) (a2_5 : W.Sl) (b3 : Nat) (b3_0 b3_1 b3_2 b3_3 : Int) (b3_4 : ByteArray) (b3_5 : W.Sl) (c5 i6 : Int) (w : World) (R : W.Post) (h : W.sel (decide (i6 < ((a2_5.n : Nat) : Int))) (W.sel (decide (i6 < ((b3_5.n : Nat) : Int))) (W.sel (c5 == 0) ((0 : Int) ≤ i6 ∧ i6 < ((a2_5.n : Nat) : Int) ∧ W.optP a2_5.a fun t63_p => ∃ t64_0 : Int, ∃ t64_1 : Int, ∃ t64_2 : ByteArray, w.cell? ((t63_p.add (Int.toNat i6 * 3)).add 0) = some (.int .u64 t64_0) ∧ w.cell? ((t63_p.add (Int.toNat i6 * 3)).add 1) = some (.int .u64 t64_1) ∧ w.cell? ((t63_p.add (Int.toNat i6 * 3)).add 2) = some (.string t64_2) ∧ 
  W.newV [a2, b3] w fun b7 w11 => 
  (0 : Int) ≤ i6 ∧ i6 < ((b3_5.n : Nat) : Int) ∧ W.optP b3_5.a fun t68_p => W.loc [a2, b3, b7] w11 fun w14 => ∃ t69_0 : Int, ∃ t69_1 : Int, ∃ t69_2 : ByteArray, w14.cell? ((t68_p.add (Int.toNat i6 * 3)).add 0) = some (.int .u64 t69_0) ∧ w14.cell? ((t68_p.add (Int.toNat i6 * 3)).add 1) = some (.int .u64 t69_1) ∧ w14.cell? ((t68_p.add (Int.toNat i6 * 3)).add 2) = some (.string t69_2) ∧ 
  W.newV [a2, b3, b7] w14 fun b8 w15 => 
  W.loc [a2, b3, b7, b8] w15 fun w19 => W.callF [a2, b3, b7, b8] Try.prog n_enthymemeref06_number #[.int .u64 t64_0, .int .u64 t69_0] w19 fun r_ w20 => ∃ t74 : Int, r_ = .returned (.int .i64 t74) ∧ 
  W.callF [a2, b3, b7, b8] Try.prog n_enthymemeref06_number #[.int .u64 t64_1, .int .u64 t69_1] w20 fun r_ w21 => ∃ t79 : Int, r_ = .returned (.int .i64 t79) ∧ 
  W.callF [a2, b3, b7, b8] Try.prog n_enthymemeref06_texts #[.string t64_2, .string t69_2] w21 fun r_ w22 => ∃ t84 : Int, r_ = .returned (.int .i64 t84) ∧ 
  W.nwV w22 (.cells #[.int .i64 t74, .int .i64 t79, .int .i64 t84] ty_int) fun w23 => 
  W.callF [a2, b3, b7, b8] Try.prog n_enthymemeref06_first #[.slice (some (Addr.mk w22.heap.size 0 none)) 3 3] w23 fun r_ w24 => ∃ t86 : Int, r_ = .returned (.int .i64 t86) ∧ 
  L0T a2 a2_0 a2_1 a2_2 a2_3 a2_4 a2_5 b3 b3_0 b3_1 b3_2 b3_3 b3_4 b3_5 t86 (IntKind.wrap .i64 (i6 + 1)) w24 R) (S1T a2 a2_0 a2_1 a2_2 a2_3 a2_4 a2_5 b3 b3_0 b3_1 b3_2 b3_3 b3_4 b3_5 c5 w R)) (S1T a2 a2_0 a2_1 a2_2 a2_3 a2_4 a2_5 b3 b3_0 b3_1 b3_2 b3_3 b3_4 b3_5 c5 w R)) (S1T a2 a2_0 a2_1 a2_2 a2_3 a2_4 a2_5 b3 b3_0 b3_1 b3_2 b3_3 b3_4 b3_5 c5 w R)) : L0T a2 a2_0 a2_1 a2_2 a2_3 a2_4 a2_5 b3 b3_0 b3_1 b3_2 b3_3 b3_4 b3_5 c5 i6 w R := fun H => L0_step _ _ _ _ w R (⟨a2_5, H.ld 0 5, W.sel_imp h (fun h => ⟨b3_5, H.ld 1 5, W.sel_imp h (fun h => W.sel_imp h (fun h => ⟨a2_5, H.ld 0 5, ⟨h.1, h.2.1, have h := h.2.2; W.optP_imp h fun t63_p h => let ⟨t64_0, t64_1, t64_2, hc0, hc1, hc2, h⟩ := h; ⟨t64_0, t64_1, t64_2, hc0, hc1, hc2, W.LC.nwT H (W.Fr.refl _ _) h fun w11 (H : W.LC w11 [(a2, [.int .i64 a2_0, .int .i64 a2_1, .int .i64 a2_2, .int .u64 a2_3, .string a2_4, a2_5.v], ty_enthymemeref06_Value), (b3, [.int .i64 b3_0, .int .i64 b3_1, .int .i64 b3_2, .int .u64 b3_3, .string b3_4, b3_5.v], ty_enthymemeref06_Value), (w.heap.size, [.int .u64 0, .int .u64 0, .string (ByteArray.mk #[])], ty_enthymemeref06_Entry)]) h => W.LC.stT0 H 2 (W.Fr.refl _ _) rfl rfl fun w12 H f => W.LC.stT H 2 1 f rfl rfl fun w13 H f => W.LC.stT H 2 2 f rfl rfl fun w14 (H : W.LC w14 [(a2, [.int .i64 a2_0, .int .i64 a2_1, .int .i64 a2_2, .int .u64 a2_3, .string a2_4, a2_5.v], ty_enthymemeref06_Value), (b3, [.int .i64 b3_0, .int .i64 b3_1, .int .i64 b3_2, .int .u64 b3_3, .string b3_4, b3_5.v], ty_enthymemeref06_Value), (w.heap.size, [.int .u64 t64_0, .int .u64 t64_1, .string t64_2], ty_enthymemeref06_Entry)]) (f : W.Fr (· ∈ [a2, b3, w.heap.size]) _ w14) => ⟨b3_5, H.ld 1 5, ⟨h.1, h.2.1, have h := h.2.2; W.optP_imp h fun t68_p h => have h := h _ f; let ⟨t69_0, t69_1, t69_2, hc0, hc1, hc2, h⟩ := h; ⟨t69_0, t69_1, t69_2, hc0, hc1, hc2, W.LC.nwT H (W.Fr.refl _ _) h fun w15 (H : W.LC w15 [(a2, [.int .i64 a2_0, .int .i64 a2_1, .int .i64 a2_2, .int .u64 a2_3, .string a2_4, a2_5.v], ty_enthymemeref06_Value), (b3, [.int .i64 b3_0, .int .i64 b3_1, .int .i64 b3_2, .int .u64 b3_3, .string b3_4, b3_5.v], ty_enthymemeref06_Value), (w.heap.size, [.int .u64 t64_0, .int .u64 t64_1, .string t64_2], ty_enthymemeref06_Entry), (w14.heap.size, [.int .u64 0, .int .u64 0, .string (ByteArray.mk #[])], ty_enthymemeref06_Entry)]) h => W.LC.stT0 H 3 (W.Fr.refl _ _) rfl rfl fun w16 H f => W.LC.stT H 3 1 f rfl rfl fun w17 H f => W.LC.stT H 3 2 f rfl rfl fun w18 (H : W.LC w18 [(a2, [.int .i64 a2_0, .int .i64 a2_1, .int .i64 a2_2, .int .u64 a2_3, .string a2_4, a2_5.v], ty_enthymemeref06_Value), (b3, [.int .i64 b3_0, .int .i64 b3_1, .int .i64 b3_2, .int .u64 b3_3, .string b3_4, b3_5.v], ty_enthymemeref06_Value), (w.heap.size, [.int .u64 t64_0, .int .u64 t64_1, .string t64_2], ty_enthymemeref06_Entry), (w14.heap.size, [.int .u64 t69_0, .int .u64 t69_1, .string t69_2], ty_enthymemeref06_Entry)]) (f : W.Fr (· ∈ [a2, b3, w.heap.size, w14.heap.size]) _ w18) => W.LC.drT H f fun w19 H f => ⟨_, H.ld 2 0, ⟨_, H.ld 3 0, ⟨_, H.ld 2 1, ⟨_, H.ld 3 1, ⟨_, H.ld 2 2, ⟨_, H.ld 3 2, have h := h _ f; W.LC.callT H h fun r_ w20 H h => let ⟨t74, hr, h⟩ := h; ⟨t74, hr, ⟨H.ld 3 2, H.ld 2 2, H.ld 3 1, H.ld 2 1, W.LC.callT H h fun r_ w21 H h => let ⟨t79, hr, h⟩ := h; ⟨t79, hr, ⟨H.ld 3 2, H.ld 2 2, W.LC.callT H h fun r_ w22 H h => let ⟨t84, hr, h⟩ := h; ⟨t84, hr, W.LC.nwN H h fun w23 H h => W.LC.callT H h fun r_ w24 H h => let ⟨t86, hr, h⟩ := h; ⟨t86, hr, h (H.pick [0, 1] (by decide))⟩⟩⟩⟩⟩⟩⟩⟩⟩⟩⟩⟩⟩⟩⟩⟩⟩⟩) (fun h => S1T_ok h H)) (fun h => S1T_ok h H)⟩) (fun h => S1T_ok h H)⟩)
theorem okT (a0_0 a0_1 a0_2 a0_3 : Int) (a0_4 : ByteArray) (a0_5 : W.Sl) (b1_0 b1_1 b1_2 b1_3 : Int) (b1_4 : ByteArray) (b1_5 : W.Sl) (w : World) (R : W.Post) (h : W.newV [] w fun b2 w1 => 
  W.newV [b2] w1 fun b3 w2 => 
  W.loc [b2, b3] w2 fun w3 => W.callF [b2, b3] Try.prog n_enthymemeref06_ints #[.int .i64 a0_0, .int .i64 b1_0] w3 fun r_ w4 => ∃ t15 : Int, r_ = .returned (.int .i64 t15) ∧ 
  W.callF [b2, b3] Try.prog n_enthymemeref06_ints #[.int .i64 a0_1, .int .i64 b1_1] w4 fun r_ w5 => ∃ t22 : Int, r_ = .returned (.int .i64 t22) ∧ 
  W.callF [b2, b3] Try.prog n_enthymemeref06_ints #[.int .i64 a0_2, .int .i64 b1_2] w5 fun r_ w6 => ∃ t29 : Int, r_ = .returned (.int .i64 t29) ∧ 
  W.callF [b2, b3] Try.prog n_enthymemeref06_number #[.int .u64 a0_3, .int .u64 b1_3] w6 fun r_ w7 => ∃ t34 : Int, r_ = .returned (.int .i64 t34) ∧ 
  W.callF [b2, b3] Try.prog n_enthymemeref06_texts #[.string a0_4, .string b1_4] w7 fun r_ w8 => ∃ t39 : Int, r_ = .returned (.int .i64 t39) ∧ 
  W.nwV w8 (.cells #[.int .i64 t15, .int .i64 t22, .int .i64 t29, .int .i64 t34, .int .i64 t39] ty_int) fun w9 => 
  W.callF [b2, b3] Try.prog n_enthymemeref06_first #[.slice (some (Addr.mk w8.heap.size 0 none)) 5 5] w9 fun r_ w10 => ∃ t41 : Int, r_ = .returned (.int .i64 t41) ∧ 
  L0T b2 a0_0 a0_1 a0_2 a0_3 a0_4 a0_5 b3 b1_0 b1_1 b1_2 b1_3 b1_4 b1_5 t41 0 w10 R) : Calls Try.prog n_enthymemeref06_Compare #[.agg #[.int .i64 a0_0, .int .i64 a0_1, .int .i64 a0_2, .int .u64 a0_3, .string a0_4, a0_5.v], .agg #[.int .i64 b1_0, .int .i64 b1_1, .int .i64 b1_2, .int .u64 b1_3, .string b1_4, b1_5.v]] w R :=
  ok _ _ _ _ _ _ _ _ _ _ _ _ w R (W.LC.nwT (W.LC.nil _) (W.Fr.refl _ _) h fun w1 H h => W.LC.nwT H (W.Fr.refl _ _) h fun w2 H h => W.LC.drT H (W.Fr.refl _ _) fun w3 H f => ⟨_, H.ld 0 0, ⟨_, H.ld 1 0, ⟨_, H.ld 0 1, ⟨_, H.ld 1 1, ⟨_, H.ld 0 2, ⟨_, H.ld 1 2, ⟨_, H.ld 0 3, ⟨_, H.ld 1 3, ⟨_, H.ld 0 4, ⟨_, H.ld 1 4, have h := h _ f; W.LC.callT H h fun r_ w4 H h => let ⟨t15, hr, h⟩ := h; ⟨t15, hr, ⟨H.ld 1 4, H.ld 0 4, H.ld 1 3, H.ld 0 3, H.ld 1 2, H.ld 0 2, H.ld 1 1, H.ld 0 1, W.LC.callT H h fun r_ w5 H h => let ⟨t22, hr, h⟩ := h; ⟨t22, hr, ⟨H.ld 1 4, H.ld 0 4, H.ld 1 3, H.ld 0 3, H.ld 1 2, H.ld 0 2, W.LC.callT H h fun r_ w6 H h => let ⟨t29, hr, h⟩ := h; ⟨t29, hr, ⟨H.ld 1 4, H.ld 0 4, H.ld 1 3, H.ld 0 3, W.LC.callT H h fun r_ w7 H h => let ⟨t34, hr, h⟩ := h; ⟨t34, hr, ⟨H.ld 1 4, H.ld 0 4, W.LC.callT H h fun r_ w8 H h => let ⟨t39, hr, h⟩ := h; ⟨t39, hr, W.LC.nwN H h fun w9 H h => W.LC.callT H h fun r_ w10 H h => let ⟨t41, hr, h⟩ := h; ⟨t41, hr, h H⟩⟩⟩⟩⟩⟩⟩⟩⟩⟩⟩⟩⟩⟩⟩⟩⟩⟩⟩⟩)
end enthymemeref06_Compare
namespace enthymemeref06_Same
noncomputable def C0 : Code := (Try.f16.body).getD .skip
/-- enthymeme/enthymemeref06.Same -/
noncomputable def C1 := W.Code.snd C0
noncomputable def C2 := W.Code.snd C1
theorem ok (a0_0 a0_1 a0_2 a0_3 : Int) (a0_4 : ByteArray) (a0_5 : W.Sl) (b1_0 b1_1 b1_2 b1_3 : Int) (b1_4 : ByteArray) (b1_5 : W.Sl) (w : World) (R : W.Post) (h : W.nwV w (.cells #[.int .i64 a0_0, .int .i64 a0_1, .int .i64 a0_2, .int .u64 a0_3, .string a0_4, a0_5.v] ty_enthymemeref06_Value) fun w1 => 
  W.nwV w1 (.cells #[.int .i64 b1_0, .int .i64 b1_1, .int .i64 b1_2, .int .u64 b1_3, .string b1_4, b1_5.v] ty_enthymemeref06_Value) fun w2 => 
  ∃ t5_0 : Int, ∃ t5_1 : Int, ∃ t5_2 : Int, ∃ t5_3 : Int, ∃ t5_4 : ByteArray, ∃ t5_5 : W.Sl, w2.cell? ((Addr.mk w.heap.size 0 none).add 0) = some (.int .i64 t5_0) ∧ w2.cell? ((Addr.mk w.heap.size 0 none).add 1) = some (.int .i64 t5_1) ∧ w2.cell? ((Addr.mk w.heap.size 0 none).add 2) = some (.int .i64 t5_2) ∧ w2.cell? ((Addr.mk w.heap.size 0 none).add 3) = some (.int .u64 t5_3) ∧ w2.cell? ((Addr.mk w.heap.size 0 none).add 4) = some (.string t5_4) ∧ w2.cell? ((Addr.mk w.heap.size 0 none).add 5) = some (t5_5.v) ∧ 
  ∃ t6_0 : Int, ∃ t6_1 : Int, ∃ t6_2 : Int, ∃ t6_3 : Int, ∃ t6_4 : ByteArray, ∃ t6_5 : W.Sl, w2.cell? ((Addr.mk w1.heap.size 0 none).add 0) = some (.int .i64 t6_0) ∧ w2.cell? ((Addr.mk w1.heap.size 0 none).add 1) = some (.int .i64 t6_1) ∧ w2.cell? ((Addr.mk w1.heap.size 0 none).add 2) = some (.int .i64 t6_2) ∧ w2.cell? ((Addr.mk w1.heap.size 0 none).add 3) = some (.int .u64 t6_3) ∧ w2.cell? ((Addr.mk w1.heap.size 0 none).add 4) = some (.string t6_4) ∧ w2.cell? ((Addr.mk w1.heap.size 0 none).add 5) = some (t6_5.v) ∧ 
  Calls Try.prog n_enthymemeref06_Compare #[.agg #[.int .i64 t5_0, .int .i64 t5_1, .int .i64 t5_2, .int .u64 t5_3, .string t5_4, t5_5.v], .agg #[.int .i64 t6_0, .int .i64 t6_1, .int .i64 t6_2, .int .u64 t6_3, .string t6_4, t6_5.v]] w2 fun r_ w3 => ∃ t7 : Int, r_ = .returned (.int .i64 t7) ∧ 
  R (.returned (.bool (t7 == 0))) w3) : Calls Try.prog n_enthymemeref06_Same #[.agg #[.int .i64 a0_0, .int .i64 a0_1, .int .i64 a0_2, .int .u64 a0_3, .string a0_4, a0_5.v], .agg #[.int .i64 b1_0, .int .i64 b1_1, .int .i64 b1_2, .int .u64 b1_3, .string b1_4, b1_5.v]] w R :=
  W.calls_of_WP' (R := R) (fn := Try.f16) (c := C0) (args := [.agg #[.int .i64 a0_0, .int .i64 a0_1, .int .i64 a0_2, .int .u64 a0_3, .string a0_4, a0_5.v], .agg #[.int .i64 b1_0, .int .i64 b1_1, .int .i64 b1_2, .int .u64 b1_3, .string b1_4, b1_5.v]]) (by kernel_rfl) (by kernel_rfl) (by kernel_rfl) (W.sr C0 (by kernel_rfl) (show (fun (E : W.Env) (w : World) => W.srK Try.prog C0 (fun E w => W.srK Try.prog C1 (fun E w => W.retVC Try.prog Try.f16 E w (fun v => R (.returned v) w)) E w) E w) (W.envOf 0 [.agg #[.int .i64 a0_0, .int .i64 a0_1, .int .i64 a0_2, .int .u64 a0_3, .string a0_4, a0_5.v], .agg #[.int .i64 b1_0, .int .i64 b1_1, .int .i64 b1_2, .int .u64 b1_3, .string b1_4, b1_5.v]]) w from Eq.mp (by kernel_rfl) h) fun _ _ hK => (W.sr C1 (by kernel_rfl) hK fun _ _ hK => (W.rt C2 (by kernel_rfl) fun a hA => W.retVC_sound hA hK)))
theorem okT (a0_0 a0_1 a0_2 a0_3 : Int) (a0_4 : ByteArray) (a0_5 : W.Sl) (b1_0 b1_1 b1_2 b1_3 : Int) (b1_4 : ByteArray) (b1_5 : W.Sl) (w : World) (R : W.Post) (h : W.newV [] w fun b2 w1 => 
  W.newV [b2] w1 fun b3 w2 => 
  W.callF [b2, b3] Try.prog n_enthymemeref06_Compare #[.agg #[.int .i64 a0_0, .int .i64 a0_1, .int .i64 a0_2, .int .u64 a0_3, .string a0_4, a0_5.v], .agg #[.int .i64 b1_0, .int .i64 b1_1, .int .i64 b1_2, .int .u64 b1_3, .string b1_4, b1_5.v]] w2 fun r_ w3 => ∃ t7 : Int, r_ = .returned (.int .i64 t7) ∧ 
  R (.returned (.bool (t7 == 0))) w3) : Calls Try.prog n_enthymemeref06_Same #[.agg #[.int .i64 a0_0, .int .i64 a0_1, .int .i64 a0_2, .int .u64 a0_3, .string a0_4, a0_5.v], .agg #[.int .i64 b1_0, .int .i64 b1_1, .int .i64 b1_2, .int .u64 b1_3, .string b1_4, b1_5.v]] w R :=
  ok _ _ _ _ _ _ _ _ _ _ _ _ w R (W.LC.nwT (W.LC.nil _) (W.Fr.refl _ _) h fun w1 H h => W.LC.nwT H (W.Fr.refl _ _) h fun w2 H h => ⟨_, _, _, _, _, a0_5, H.ld 0 0, H.ld 0 1, H.ld 0 2, H.ld 0 3, H.ld 0 4, H.ld 0 5, ⟨_, _, _, _, _, b1_5, H.ld 1 0, H.ld 1 1, H.ld 1 2, H.ld 1 3, H.ld 1 4, H.ld 1 5, W.LC.callT H h fun r_ w3 H h => let ⟨t7, hr, h⟩ := h; ⟨t7, hr, h⟩⟩⟩)
end enthymemeref06_Same
namespace enthymemeref06_Element
noncomputable def C0 : Code := (Try.f22.body).getD .skip
/-- enthymeme/enthymemeref06.Element -/
noncomputable def C1 := W.Code.snd C0
noncomputable def C2 := W.Code.fst C1
noncomputable def C3 := W.Code.snd C2
noncomputable def C4 := W.Code.fst C3
noncomputable def C5 := W.Code.snd C1
noncomputable def C6 := W.Code.snd C4
noncomputable def C7 := W.Code.snd C3
noncomputable def C8 := W.Code.snd C5
theorem ok (s0_0 s0_1 s0_2 : Int) (w : World) (R : W.Post) (h : W.nwV w (.cells #[.int .i64 s0_0, .int .i64 s0_1, .int .i64 s0_2] ty_api_Sort) fun w1 => 
  W.nwV w1 (.cells #[.int .i64 0, .int .i64 0, .int .i64 0] ty_api_Sort) fun w2 => 
  ∃ t4 : Int, w2.cell? ((Addr.mk w.heap.size 0 none).add 0) = some (.int .i64 t4) ∧ 
  W.sel (t4 == 2) (∃ t7 : Int, w2.cell? ((Addr.mk w.heap.size 0 none).add 1) = some (.int .i64 t7) ∧ 
  W.stV w2 (Addr.mk w1.heap.size 0 none) (.int .i64 0) fun w3 => 
  W.stV w3 ((Addr.mk w1.heap.size 0 none).add 1) (.int .i64 t7) fun w4 => 
  W.stV w4 ((Addr.mk w1.heap.size 0 none).add 2) (.int .i64 0) fun w5 => 
  ∃ r2_0 : Int, ∃ r2_1 : Int, ∃ r2_2 : Int, w5.cell? ((Addr.mk w1.heap.size 0 none).add 0) = some (.int .i64 r2_0) ∧ w5.cell? ((Addr.mk w1.heap.size 0 none).add 1) = some (.int .i64 r2_1) ∧ w5.cell? ((Addr.mk w1.heap.size 0 none).add 2) = some (.int .i64 r2_2) ∧ 
  R (.returned (.agg #[.int .i64 r2_0, .int .i64 r2_1, .int .i64 r2_2])) w5) (∃ t10 : Int, w2.cell? ((Addr.mk w.heap.size 0 none).add 1) = some (.int .i64 t10) ∧ 
  W.stV w2 (Addr.mk w1.heap.size 0 none) (.int .i64 1) fun w6 => 
  W.stV w6 ((Addr.mk w1.heap.size 0 none).add 1) (.int .i64 t10) fun w7 => 
  W.stV w7 ((Addr.mk w1.heap.size 0 none).add 2) (.int .i64 0) fun w8 => 
  ∃ r2_0 : Int, ∃ r2_1 : Int, ∃ r2_2 : Int, w8.cell? ((Addr.mk w1.heap.size 0 none).add 0) = some (.int .i64 r2_0) ∧ w8.cell? ((Addr.mk w1.heap.size 0 none).add 1) = some (.int .i64 r2_1) ∧ w8.cell? ((Addr.mk w1.heap.size 0 none).add 2) = some (.int .i64 r2_2) ∧ 
  R (.returned (.agg #[.int .i64 r2_0, .int .i64 r2_1, .int .i64 r2_2])) w8)) : Calls Try.prog n_enthymemeref06_Element #[.agg #[.int .i64 s0_0, .int .i64 s0_1, .int .i64 s0_2]] w R :=
  W.calls_of_WP' (R := R) (fn := Try.f22) (c := C0) (args := [.agg #[.int .i64 s0_0, .int .i64 s0_1, .int .i64 s0_2]]) (by kernel_rfl) (by kernel_rfl) (by kernel_rfl) (W.sr C0 (by kernel_rfl) (show (fun (E : W.Env) (w : World) => W.srK Try.prog C0 (fun E w => W.srK Try.prog C2 (fun E w => W.condK (W.Env.val E (.tmp 5)) (W.srK Try.prog C4 (fun E w => W.retVC Try.prog Try.f22 E w (fun v => R (.returned v) w)) E w) (W.srK Try.prog C5 (fun E w => W.retVC Try.prog Try.f22 E w (fun v => R (.returned v) w)) E w)) E w) E w) (W.envOf 0 [.agg #[.int .i64 s0_0, .int .i64 s0_1, .int .i64 s0_2]]) w from Eq.mp (by kernel_rfl) h) fun _ _ hK => (W.sq C1 (by kernel_rfl) (W.sr C2 (by kernel_rfl) hK fun _ _ hK => (W.cn C3 (by kernel_rfl) hK (fun hK => (W.sr C4 (by kernel_rfl) hK fun _ _ hK => (W.rt C6 (by kernel_rfl) fun a hA => W.retVC_sound hA hK))) (fun hK => (W.sk C7 (by kernel_rfl) fun a hA => W.nx hA (W.sr C5 (by kernel_rfl) hK fun _ _ hK => (W.rt C8 (by kernel_rfl) fun a hA => W.retVC_sound hA hK))))))))
theorem okT (s0_0 s0_1 s0_2 : Int) (w : World) (R : W.Post) (h : W.newV [] w fun b1 w1 => 
  W.newV [b1] w1 fun b2 w2 => 
  W.sel (s0_0 == 2) (W.loc [b1, b2] w2 fun w5 => R (.returned (.agg #[.int .i64 0, .int .i64 s0_1, .int .i64 0])) w5) (W.loc [b1, b2] w2 fun w8 => R (.returned (.agg #[.int .i64 1, .int .i64 s0_1, .int .i64 0])) w8)) : Calls Try.prog n_enthymemeref06_Element #[.agg #[.int .i64 s0_0, .int .i64 s0_1, .int .i64 s0_2]] w R :=
  ok _ _ _ w R (W.LC.nwT (W.LC.nil _) (W.Fr.refl _ _) h fun w1 H h => W.LC.nwT H (W.Fr.refl _ _) h fun w2 H h => ⟨_, H.ld 0 0, W.sel_imp h (fun h => ⟨_, H.ld 0 1, W.LC.stT0 H 1 (W.Fr.refl _ _) rfl rfl fun w3 H f => W.LC.stT H 1 1 f rfl rfl fun w4 H f => W.LC.stT H 1 2 f rfl rfl fun w5 (H : W.LC w5 [(w.heap.size, [.int .i64 s0_0, .int .i64 s0_1, .int .i64 s0_2], ty_api_Sort), (w1.heap.size, [.int .i64 0, .int .i64 s0_1, .int .i64 0], ty_api_Sort)]) (f : W.Fr (· ∈ [w.heap.size, w1.heap.size]) _ w5) => ⟨_, _, _, H.ld 1 0, H.ld 1 1, H.ld 1 2, have h := h _ f; h⟩⟩) (fun h => ⟨_, H.ld 0 1, W.LC.stT0 H 1 (W.Fr.refl _ _) rfl rfl fun w6 H f => W.LC.stT H 1 1 f rfl rfl fun w7 H f => W.LC.stT H 1 2 f rfl rfl fun w8 (H : W.LC w8 [(w.heap.size, [.int .i64 s0_0, .int .i64 s0_1, .int .i64 s0_2], ty_api_Sort), (w1.heap.size, [.int .i64 1, .int .i64 s0_1, .int .i64 0], ty_api_Sort)]) (f : W.Fr (· ∈ [w.heap.size, w1.heap.size]) _ w8) => ⟨_, _, _, H.ld 1 0, H.ld 1 1, H.ld 1 2, have h := h _ f; h⟩⟩)⟩)
end enthymemeref06_Element
namespace enthymemeref06_At
noncomputable def C0 : Code := (Try.f51.body).getD .skip
noncomputable def C1 := W.Code.snd C0
noncomputable def C2 := W.Code.snd C1
noncomputable def C3 := W.Code.fst C2
noncomputable def C4 := W.Code.snd C3
noncomputable def C5 := W.Code.fst C4
noncomputable def C6 := W.Code.fst C5
noncomputable def C7 := W.Code.snd C2
abbrev Q0 (R : W.Post) : Exit → Act → World → Prop := (Exit.then (W.wpx Try.prog (W.cx 41) C7 (bodyPost Try.prog Try.f51 R)) (bodyPost Try.prog Try.f51 R))
abbrev Q1 (R : W.Post) : Exit → Act → World → Prop := (Exit.inBlock 0 (Q0 R))
/-- the head of the loop, ref.go:157 -/
def L0 (index1 : Int) (a2 t4 out5 : Addr) (i6 : Int) (w : World) (R : W.Post) : Prop := W.LP Try.prog (W.cx 41) C6 (Q1 R) [(1, .int .u64 index1), (2, .pointer (some a2)), (4, .pointer (some t4)), (5, .pointer (some out5)), (6, .int .i64 i6)] w
def KE_L0 (E : W.Env) (w : World) (R : W.Post) : Prop := W.asInt .u64 (W.Env.get? E 1) fun index1 => W.asRef (W.Env.get? E 2) fun a2 => W.asRef (W.Env.get? E 4) fun t4 => W.asRef (W.Env.get? E 5) fun out5 => W.asInt .i64 (W.Env.get? E 6) fun i6 => L0 index1 a2 t4 out5 i6 w R
theorem KE_L0_ok (R : W.Post) (E : W.Env) (w : World) (h : KE_L0 E w R) : W.LP Try.prog (W.cx 41) C6 (Q1 R) E w := by
  obtain ⟨index1, hq1, h_1⟩ := W.asInt_elim h
  obtain ⟨a2, hq2, h_2⟩ := W.asRef_elim h_1
  obtain ⟨t4, hq4, h_3⟩ := W.asRef_elim h_2
  obtain ⟨out5, hq5, h_4⟩ := W.asRef_elim h_3
  obtain ⟨i6, hq6, h_5⟩ := W.asInt_elim h_4
  intro a ha
  exact h_5 a (ha.cons hq1 (ha.cons hq2 (ha.cons hq4 (ha.cons hq5 (ha.cons hq6 ha.nil)))))
noncomputable def C8 := W.Code.snd C6
noncomputable def C9 := W.Code.snd C8
abbrev Q2 (R : W.Post) : Exit → Act → World → Prop := (Exit.then (W.LoopWP Try.prog (W.cx 41) C6 (Q1 R)) (Q1 R))
/-- ref.go:157 -/
abbrev S1 (index1 : Int) (a2 t4 out5 : Addr) (i6 : Int) (w : World) (R : W.Post) : Prop :=
  L0 index1 a2 t4 out5 (IntKind.wrap .i64 (i6 + 1)) w R
def KE_S1 (E : W.Env) (w : World) (R : W.Post) : Prop := W.asInt .u64 (W.Env.get? E 1) fun index1 => W.asRef (W.Env.get? E 2) fun a2 => W.asRef (W.Env.get? E 4) fun t4 => W.asRef (W.Env.get? E 5) fun out5 => W.asInt .i64 (W.Env.get? E 6) fun i6 => S1 index1 a2 t4 out5 i6 w R
theorem KE_S1_ok (R : W.Post) (E : W.Env) (w : World) (h : KE_S1 E w R) : W.WP Try.prog (W.cx 41) C9 (Q2 R) E w := by
  obtain ⟨index1, hq1, h_1⟩ := W.asInt_elim h
  obtain ⟨a2, hq2, h_2⟩ := W.asRef_elim h_1
  obtain ⟨t4, hq4, h_3⟩ := W.asRef_elim h_2
  obtain ⟨out5, hq5, h_4⟩ := W.asRef_elim h_3
  obtain ⟨i6, hq6, h_5⟩ := W.asInt_elim h_4
  exact fun a ha => W.WP.at (E := [(1, .int .u64 index1), (2, .pointer (some a2)), (4, .pointer (some t4)), (5, .pointer (some out5)), (6, .int .i64 i6)]) (W.rg C9 (K := fun E w => KE_L0 E w R) (by kernel_rfl) (Eq.mp (by kernel_rfl) h_5) fun _ _ a hA hK => KE_L0_ok R _ _ hK a hA) (ha.cons hq1 (ha.cons hq2 (ha.cons hq4 (ha.cons hq5 (ha.cons hq6 ha.nil)))))
noncomputable def C10 := W.Code.fst C6
noncomputable def C11 := W.Code.fst C8
noncomputable def C12 := W.Code.fst C11
noncomputable def C13 := W.Code.snd C12
noncomputable def C14 := W.Code.fst C13
noncomputable def C15 := W.Code.snd C14
noncomputable def C16 := W.Code.snd C10
noncomputable def C17 := W.Code.fst C16
noncomputable def C18 := W.Code.snd C13
noncomputable def C19 := W.Code.snd C16
noncomputable def C20 := W.Code.snd C7
theorem L0_step (index1 : Int) (a2 t4 out5 : Addr) (i6 : Int) (w : World) (R : W.Post) (h : ∃ t13 : W.Sl, w.cell? (a2.add 5) = some (t13.v) ∧ 
  W.sel (decide (i6 < ((t13.n : Nat) : Int))) (∃ t19 : W.Sl, w.cell? (a2.add 5) = some (t19.v) ∧ 
  (0 : Int) ≤ i6 ∧ i6 < ((t19.n : Nat) : Int) ∧ W.optP t19.a fun t21_p => ∃ t23 : Int, w.cell? ((t21_p.add (Int.toNat i6 * 3)).add 0) = some (.int .u64 t23) ∧ 
  W.sel (t23 == index1) (∃ t27 : W.Sl, w.cell? (a2.add 5) = some (t27.v) ∧ 
  (0 : Int) ≤ i6 ∧ i6 < ((t27.n : Nat) : Int) ∧ W.optP t27.a fun t29_p => ∃ t31 : Int, w.cell? ((t29_p.add (Int.toNat i6 * 3)).add 1) = some (.int .u64 t31) ∧ 
  W.stV w (out5.add 3) (.int .u64 t31) fun w11 => 
  ∃ t34 : W.Sl, w11.cell? (a2.add 5) = some (t34.v) ∧ 
  (0 : Int) ≤ i6 ∧ i6 < ((t34.n : Nat) : Int) ∧ W.optP t34.a fun t36_p => ∃ t38 : ByteArray, w11.cell? ((t36_p.add (Int.toNat i6 * 3)).add 2) = some (.string t38) ∧ 
  W.stV w11 (out5.add 4) (.string t38) fun w12 => 
  S1 index1 a2 t4 out5 i6 w12 R) (S1 index1 a2 t4 out5 i6 w R)) (∃ t40_0 : Int, ∃ t40_1 : Int, ∃ t40_2 : Int, ∃ t40_3 : Int, ∃ t40_4 : ByteArray, ∃ t40_5 : W.Sl, w.cell? (out5.add 0) = some (.int .i64 t40_0) ∧ w.cell? (out5.add 1) = some (.int .i64 t40_1) ∧ w.cell? (out5.add 2) = some (.int .i64 t40_2) ∧ w.cell? (out5.add 3) = some (.int .u64 t40_3) ∧ w.cell? (out5.add 4) = some (.string t40_4) ∧ w.cell? (out5.add 5) = some (t40_5.v) ∧ 
  W.stV w t4 (.int .i64 t40_0) fun w13 => 
  W.stV w13 (t4.add 1) (.int .i64 t40_1) fun w14 => 
  W.stV w14 (t4.add 2) (.int .i64 t40_2) fun w15 => 
  W.stV w15 (t4.add 3) (.int .u64 t40_3) fun w16 => 
  W.stV w16 (t4.add 4) (.string t40_4) fun w17 => 
  W.stV w17 (t4.add 5) (t40_5.v) fun w18 => 
  ∃ r4_0 : Int, ∃ r4_1 : Int, ∃ r4_2 : Int, ∃ r4_3 : Int, ∃ r4_4 : ByteArray, ∃ r4_5 : W.Sl, w18.cell? (t4.add 0) = some (.int .i64 r4_0) ∧ w18.cell? (t4.add 1) = some (.int .i64 r4_1) ∧ w18.cell? (t4.add 2) = some (.int .i64 r4_2) ∧ w18.cell? (t4.add 3) = some (.int .u64 r4_3) ∧ w18.cell? (t4.add 4) = some (.string r4_4) ∧ w18.cell? (t4.add 5) = some (r4_5.v) ∧ 
  R (.returned (.agg #[.int .i64 r4_0, .int .i64 r4_1, .int .i64 r4_2, .int .u64 r4_3, .string r4_4, r4_5.v])) w18)) : L0 index1 a2 t4 out5 i6 w R :=
  W.LP.step (n := (W.cx 41)) (c := C6) (E := [(1, .int .u64 index1), (2, .pointer (some a2)), (4, .pointer (some t4)), (5, .pointer (some out5)), (6, .int .i64 i6)]) (w := w) (W.sq C6 (by kernel_rfl) (W.sr C10 (by kernel_rfl) (show (fun (E : W.Env) (w : World) => W.srK Try.prog C10 (fun E w => W.condK (W.Env.val E (.tmp 15)) (W.srK Try.prog C12 (fun E w => W.condK (W.Env.val E (.tmp 25)) (W.srK Try.prog C14 (fun E w => W.rgK Try.prog C15 (fun E w => KE_S1 E w R) E w) E w) (KE_S1 E w R)) E w) (W.srK Try.prog C7 (fun E w => W.retVC Try.prog Try.f51 E w (fun v => R (.returned v) w)) E w)) E w) [(1, .int .u64 index1), (2, .pointer (some a2)), (4, .pointer (some t4)), (5, .pointer (some out5)), (6, .int .i64 i6)] w from Eq.mp (by kernel_rfl) h) fun _ _ hK => (W.cn C16 (by kernel_rfl) hK (fun hK => (W.sk C17 (by kernel_rfl) fun a hA => W.nx hA (W.sq C8 (by kernel_rfl) (W.bk C11 1 (by kernel_rfl) (W.sr C12 (by kernel_rfl) hK fun _ _ hK => (W.cn C13 (by kernel_rfl) hK (fun hK => (W.sr C14 (by kernel_rfl) hK fun _ _ hK => (W.rg C15 (by kernel_rfl) hK fun _ _ a hA hK => W.nx hA (KE_S1_ok R _ _ hK)))) (fun hK => (W.sk C18 (by kernel_rfl) fun a hA => W.nx hA (KE_S1_ok R _ _ hK))))))))) (fun hK => (W.xt C19 0 (by kernel_rfl) fun a hA => W.nx hA (W.sr C7 (by kernel_rfl) hK fun _ _ hK => (W.rt C20 (by kernel_rfl) fun a hA => W.retVC_sound hA hK)))))))
/-- enthymeme/enthymemeref06.At -/
theorem ok (a0_0 a0_1 a0_2 a0_3 : Int) (a0_4 : ByteArray) (a0_5 : W.Sl) (index1 : Int) (w : World) (R : W.Post) (h : W.nwV w (.cells #[.int .i64 a0_0, .int .i64 a0_1, .int .i64 a0_2, .int .u64 a0_3, .string a0_4, a0_5.v] ty_enthymemeref06_Value) fun w1 => 
  W.nwV w1 (.cells #[.int .i64 0, .int .i64 0, .int .i64 0, .int .u64 0, .string (ByteArray.mk #[]), .slice none 0 0] ty_enthymemeref06_Value) fun w2 => 
  ∃ t8_0 : Int, ∃ t8_1 : Int, ∃ t8_2 : Int, w2.cell? (((Addr.mk w.heap.size 0 none).add 0).add 0) = some (.int .i64 t8_0) ∧ w2.cell? (((Addr.mk w.heap.size 0 none).add 0).add 1) = some (.int .i64 t8_1) ∧ w2.cell? (((Addr.mk w.heap.size 0 none).add 0).add 2) = some (.int .i64 t8_2) ∧ 
  Calls Try.prog n_enthymemeref06_Element #[.agg #[.int .i64 t8_0, .int .i64 t8_1, .int .i64 t8_2]] w2 fun r_ w3 => ∃ t9_0 : Int, ∃ t9_1 : Int, ∃ t9_2 : Int, r_ = .returned (.agg #[.int .i64 t9_0, .int .i64 t9_1, .int .i64 t9_2]) ∧ 
  W.nwV w3 (.cells #[.int .i64 0, .int .i64 0, .int .i64 0, .int .u64 0, .string (ByteArray.mk #[]), .slice none 0 0] ty_enthymemeref06_Value) fun w4 => 
  W.stV w4 (Addr.mk w3.heap.size 0 none) (.int .i64 t9_0) fun w5 => 
  W.stV w5 ((Addr.mk w3.heap.size 0 none).add 1) (.int .i64 t9_1) fun w6 => 
  W.stV w6 ((Addr.mk w3.heap.size 0 none).add 2) (.int .i64 t9_2) fun w7 => 
  W.stV w7 ((Addr.mk w3.heap.size 0 none).add 3) (.int .u64 0) fun w8 => 
  W.stV w8 ((Addr.mk w3.heap.size 0 none).add 4) (.string (ByteArray.mk #[])) fun w9 => 
  W.stV w9 ((Addr.mk w3.heap.size 0 none).add 5) (.slice none 0 0) fun w10 => 
  L0 index1 (Addr.mk w.heap.size 0 none) (Addr.mk w1.heap.size 0 none) (Addr.mk w3.heap.size 0 none) 0 w10 R) : Calls Try.prog n_enthymemeref06_At #[.agg #[.int .i64 a0_0, .int .i64 a0_1, .int .i64 a0_2, .int .u64 a0_3, .string a0_4, a0_5.v], .int .u64 index1] w R :=
  W.calls_of_WP' (R := R) (fn := Try.f51) (c := C0) (args := [.agg #[.int .i64 a0_0, .int .i64 a0_1, .int .i64 a0_2, .int .u64 a0_3, .string a0_4, a0_5.v], .int .u64 index1]) (by kernel_rfl) (by kernel_rfl) (by kernel_rfl) (W.sr C0 (by kernel_rfl) (show (fun (E : W.Env) (w : World) => W.srK Try.prog C0 (fun E w => W.srK Try.prog C1 (fun E w => W.srK Try.prog C3 (fun E w => KE_L0 E w R) E w) E w) E w) (W.envOf 0 [.agg #[.int .i64 a0_0, .int .i64 a0_1, .int .i64 a0_2, .int .u64 a0_3, .string a0_4, a0_5.v], .int .u64 index1]) w from Eq.mp (by kernel_rfl) h) fun _ _ hK => (W.sr C1 (by kernel_rfl) hK fun _ _ hK => (W.sq C2 (by kernel_rfl) (W.sr C3 (by kernel_rfl) hK fun _ _ hK => (W.bk C4 0 (by kernel_rfl) (W.lp C5 (by kernel_rfl) (KE_L0_ok R _ _ hK)))))))
def L0T (index1 : Int) (a2 : Nat) (a2_0 a2_1 a2_2 a2_3 : Int) (a2_4 : ByteArray) (a2_5 : W.Sl) (t4 : Nat) (t4_0 t4_1 t4_2 t4_3 : Int) (t4_4 : ByteArray) (t4_5 : W.Sl) (out5 : Nat) (out5_0 out5_1 out5_2 out5_3 : Int) (out5_4 : ByteArray) (out5_5 : W.Sl) (i6 : Int) (w : World) (R : W.Post) : Prop := W.LC w [(a2, [.int .i64 a2_0, .int .i64 a2_1, .int .i64 a2_2, .int .u64 a2_3, .string a2_4, a2_5.v], ty_enthymemeref06_Value), (t4, [.int .i64 t4_0, .int .i64 t4_1, .int .i64 t4_2, .int .u64 t4_3, .string t4_4, t4_5.v], ty_enthymemeref06_Value), (out5, [.int .i64 out5_0, .int .i64 out5_1, .int .i64 out5_2, .int .u64 out5_3, .string out5_4, out5_5.v], ty_enthymemeref06_Value)] → L0 index1 (W.at0 a2) (W.at0 t4) (W.at0 out5) i6 w R
abbrev S1T (index1 : Int) (a2 : Nat) (a2_0 a2_1 a2_2 a2_3 : Int) (a2_4 : ByteArray) (a2_5 : W.Sl) (t4 : Nat) (t4_0 t4_1 t4_2 t4_3 : Int) (t4_4 : ByteArray) (t4_5 : W.Sl) (out5 : Nat) (out5_0 out5_1 out5_2 out5_3 : Int) (out5_4 : ByteArray) (out5_5 : W.Sl) (i6 : Int) (w : World) (R : W.Post) : Prop :=
  L0T index1 a2 a2_0 a2_1 a2_2 a2_3 a2_4 a2_5 t4 t4_0 t4_1 t4_2 t4_3 t4_4 t4_5 out5 out5_0 out5_1 out5_2 out5_3 out5_4 out5_5 (IntKind.wrap .i64 (i6 + 1)) w R
theorem S1T_ok {index1 : Int} {a2 : Nat} {a2_0 a2_1 a2_2 a2_3 : Int} {a2_4 : ByteArray} {a2_5 : W.Sl} {t4 : Nat} {t4_0 t4_1 t4_2 t4_3 : Int} {t4_4 : ByteArray} {t4_5 : W.Sl} {out5 : Nat} {out5_0 out5_1 out5_2 out5_3 : Int} {out5_4 : ByteArray} {out5_5 : W.Sl} {i6 : Int} {w : World} {R : W.Post} (h : S1T index1 a2 a2_0 a2_1 a2_2 a2_3 a2_4 a2_5 t4 t4_0 t4_1 t4_2 t4_3 t4_4 t4_5 out5 out5_0 out5_1 out5_2 out5_3 out5_4 out5_5 i6 w R) (H : W.LC w [(a2, [.int .i64 a2_0, .int .i64 a2_1, .int .i64 a2_2, .int .u64 a2_3, .string a2_4, a2_5.v], ty_enthymemeref06_Value), (t4, [.int .i64 t4_0, .int .i64 t4_1, .int .i64 t4_2, .int .u64 t4_3, .string t4_4, t4_5.v], ty_enthymemeref06_Value), (out5, [.int .i64 out5_0, .int .i64 out5_1, .int .i64 out5_2, .int .u64 out5_3, .string out5_4, out5_5.v], ty_enthymemeref06_Value)]) : S1 index1 (W.at0 a2) (W.at0 t4) (W.at0 out5) i6 w R := h H
theorem L0T_step (index1 : Int) (a2 : Nat) (a2_0 a2_1 a2_2 a2_3 : Int) (a2_4 : ByteArray) (a2_5 : W.Sl) (t4 : Nat) (t4_0 t4_1 t4_2 t4_3 : Int) (t4_4 : ByteArray) (t4_5 : W.Sl) (out5 : Nat) (out5_0 out5_1 out5_2 out5_3 : Int) (out5_4 : ByteArray) (out5_5 : W.Sl) (i6 : Int) (w : World) (R : W.Post) (h : W.sel (decide (i6 < ((a2_5.n : Nat) : Int))) ((0 : Int) ≤ i6 ∧ i6 < ((a2_5.n : Nat) : Int) ∧ W.optP a2_5.a fun t21_p => ∃ t23 : Int, w.cell? ((t21_p.add (Int.toNat i6 * 3)).add 0) = some (.int .u64 t23) ∧ 
  W.sel (t23 == index1) ((0 : Int) ≤ i6 ∧ i6 < ((a2_5.n : Nat) : Int) ∧ W.optP a2_5.a fun t29_p => ∃ t31 : Int, w.cell? ((t29_p.add (Int.toNat i6 * 3)).add 1) = some (.int .u64 t31) ∧ 
  (0 : Int) ≤ i6 ∧ i6 < ((a2_5.n : Nat) : Int) ∧ W.optP a2_5.a fun t36_p => W.loc [a2, t4, out5] w fun w11 => ∃ t38 : ByteArray, w11.cell? ((t36_p.add (Int.toNat i6 * 3)).add 2) = some (.string t38) ∧ 
  W.loc [a2, t4, out5] w11 fun w12 => S1T index1 a2 a2_0 a2_1 a2_2 a2_3 a2_4 a2_5 t4 t4_0 t4_1 t4_2 t4_3 t4_4 t4_5 out5 out5_0 out5_1 out5_2 t31 t38 out5_5 i6 w12 R) (S1T index1 a2 a2_0 a2_1 a2_2 a2_3 a2_4 a2_5 t4 t4_0 t4_1 t4_2 t4_3 t4_4 t4_5 out5 out5_0 out5_1 out5_2 out5_3 out5_4 out5_5 i6 w R)) (W.loc [a2, t4, out5] w fun w18 => R (.returned (.agg #[.int .i64 out5_0, .int .i64 out5_1, .int .i64 out5_2, .int .u64 out5_3, .string out5_4, out5_5.v])) w18)) : L0T index1 a2 a2_0 a2_1 a2_2 a2_3 a2_4 a2_5 t4 t4_0 t4_1 t4_2 t4_3 t4_4 t4_5 out5 out5_0 out5_1 out5_2 out5_3 out5_4 out5_5 i6 w R := fun H => L0_step _ _ _ _ _ w R (⟨a2_5, H.ld 0 5, W.sel_imp h (fun h => ⟨a2_5, H.ld 0 5, ⟨h.1, h.2.1, have h := h.2.2; W.optP_imp h fun t21_p h => let ⟨t23, hc0, h⟩ := h; ⟨t23, hc0, W.sel_imp h (fun h => ⟨a2_5, H.ld 0 5, ⟨h.1, h.2.1, have h := h.2.2; W.optP_imp h fun t29_p h => let ⟨t31, hc0, h⟩ := h; ⟨t31, hc0, W.LC.stT H 2 3 (W.Fr.refl _ _) rfl rfl fun w11 (H : W.LC w11 [(a2, [.int .i64 a2_0, .int .i64 a2_1, .int .i64 a2_2, .int .u64 a2_3, .string a2_4, a2_5.v], ty_enthymemeref06_Value), (t4, [.int .i64 t4_0, .int .i64 t4_1, .int .i64 t4_2, .int .u64 t4_3, .string t4_4, t4_5.v], ty_enthymemeref06_Value), (out5, [.int .i64 out5_0, .int .i64 out5_1, .int .i64 out5_2, .int .u64 t31, .string out5_4, out5_5.v], ty_enthymemeref06_Value)]) (f : W.Fr (· ∈ [a2, t4, out5]) _ w11) => ⟨a2_5, H.ld 0 5, ⟨h.1, h.2.1, have h := h.2.2; W.optP_imp h fun t36_p h => have h := h _ f; let ⟨t38, hc0, h⟩ := h; ⟨t38, hc0, W.LC.stT H 2 4 (W.Fr.refl _ _) rfl rfl fun w12 (H : W.LC w12 [(a2, [.int .i64 a2_0, .int .i64 a2_1, .int .i64 a2_2, .int .u64 a2_3, .string a2_4, a2_5.v], ty_enthymemeref06_Value), (t4, [.int .i64 t4_0, .int .i64 t4_1, .int .i64 t4_2, .int .u64 t4_3, .string t4_4, t4_5.v], ty_enthymemeref06_Value), (out5, [.int .i64 out5_0, .int .i64 out5_1, .int .i64 out5_2, .int .u64 t31, .string t38, out5_5.v], ty_enthymemeref06_Value)]) (f : W.Fr (· ∈ [a2, t4, out5]) _ w12) => have h := h _ f; S1T_ok h H⟩⟩⟩⟩⟩⟩) (fun h => S1T_ok h H)⟩⟩⟩) (fun h => ⟨_, _, _, _, _, out5_5, H.ld 2 0, H.ld 2 1, H.ld 2 2, H.ld 2 3, H.ld 2 4, H.ld 2 5, W.LC.stT0 H 1 (W.Fr.refl _ _) rfl rfl fun w13 H f => W.LC.stT H 1 1 f rfl rfl fun w14 H f => W.LC.stT H 1 2 f rfl rfl fun w15 H f => W.LC.stT H 1 3 f rfl rfl fun w16 H f => W.LC.stT H 1 4 f rfl rfl fun w17 H f => W.LC.stT H 1 5 f rfl rfl fun w18 (H : W.LC w18 [(a2, [.int .i64 a2_0, .int .i64 a2_1, .int .i64 a2_2, .int .u64 a2_3, .string a2_4, a2_5.v], ty_enthymemeref06_Value), (t4, [.int .i64 out5_0, .int .i64 out5_1, .int .i64 out5_2, .int .u64 out5_3, .string out5_4, out5_5.v], ty_enthymemeref06_Value), (out5, [.int .i64 out5_0, .int .i64 out5_1, .int .i64 out5_2, .int .u64 out5_3, .string out5_4, out5_5.v], ty_enthymemeref06_Value)]) (f : W.Fr (· ∈ [a2, t4, out5]) _ w18) => ⟨_, _, _, _, _, out5_5, H.ld 1 0, H.ld 1 1, H.ld 1 2, H.ld 1 3, H.ld 1 4, H.ld 1 5, have h := h _ f; h⟩⟩)⟩)
theorem okT (a0_0 a0_1 a0_2 a0_3 : Int) (a0_4 : ByteArray) (a0_5 : W.Sl) (index1 : Int) (w : World) (R : W.Post) (h : W.newV [] w fun b2 w1 => 
  W.newV [b2] w1 fun b4 w2 => 
  W.callF [b2, b4] Try.prog n_enthymemeref06_Element #[.agg #[.int .i64 a0_0, .int .i64 a0_1, .int .i64 a0_2]] w2 fun r_ w3 => ∃ t9_0 : Int, ∃ t9_1 : Int, ∃ t9_2 : Int, r_ = .returned (.agg #[.int .i64 t9_0, .int .i64 t9_1, .int .i64 t9_2]) ∧ 
  W.newV [b2, b4] w3 fun b5 w4 => 
  W.loc [b2, b4, b5] w4 fun w10 => L0T index1 b2 a0_0 a0_1 a0_2 a0_3 a0_4 a0_5 b4 0 0 0 0 (ByteArray.mk #[]) ⟨none, 0, 0⟩ b5 t9_0 t9_1 t9_2 0 (ByteArray.mk #[]) ⟨none, 0, 0⟩ 0 w10 R) : Calls Try.prog n_enthymemeref06_At #[.agg #[.int .i64 a0_0, .int .i64 a0_1, .int .i64 a0_2, .int .u64 a0_3, .string a0_4, a0_5.v], .int .u64 index1] w R :=
  ok _ _ _ _ _ _ _ w R (W.LC.nwT (W.LC.nil _) (W.Fr.refl _ _) h fun w1 H h => W.LC.nwT H (W.Fr.refl _ _) h fun w2 H h => ⟨_, _, _, H.ld 0 0, H.ld 0 1, H.ld 0 2, W.LC.callT H h fun r_ w3 H h => let ⟨t9_0, t9_1, t9_2, hr, h⟩ := h; ⟨t9_0, t9_1, t9_2, hr, W.LC.nwT H (W.Fr.refl _ _) h fun w4 (H : W.LC w4 [(w.heap.size, [.int .i64 a0_0, .int .i64 a0_1, .int .i64 a0_2, .int .u64 a0_3, .string a0_4, a0_5.v], ty_enthymemeref06_Value), (w1.heap.size, [.int .i64 0, .int .i64 0, .int .i64 0, .int .u64 0, .string (ByteArray.mk #[]), .slice none 0 0], ty_enthymemeref06_Value), (w3.heap.size, [.int .i64 0, .int .i64 0, .int .i64 0, .int .u64 0, .string (ByteArray.mk #[]), .slice none 0 0], ty_enthymemeref06_Value)]) h => W.LC.stT0 H 2 (W.Fr.refl _ _) rfl rfl fun w5 H f => W.LC.stT H 2 1 f rfl rfl fun w6 H f => W.LC.stT H 2 2 f rfl rfl fun w7 H f => W.LC.stT H 2 3 f rfl rfl fun w8 H f => W.LC.stT H 2 4 f rfl rfl fun w9 H f => W.LC.stT H 2 5 f rfl rfl fun w10 (H : W.LC w10 [(w.heap.size, [.int .i64 a0_0, .int .i64 a0_1, .int .i64 a0_2, .int .u64 a0_3, .string a0_4, a0_5.v], ty_enthymemeref06_Value), (w1.heap.size, [.int .i64 0, .int .i64 0, .int .i64 0, .int .u64 0, .string (ByteArray.mk #[]), .slice none 0 0], ty_enthymemeref06_Value), (w3.heap.size, [.int .i64 t9_0, .int .i64 t9_1, .int .i64 t9_2, .int .u64 0, .string (ByteArray.mk #[]), .slice none 0 0], ty_enthymemeref06_Value)]) (f : W.Fr (· ∈ [w.heap.size, w1.heap.size, w3.heap.size]) _ w10) => have h := h _ f; h H⟩⟩)
end enthymemeref06_At
namespace enthymemeref06_Select
noncomputable def C0 : Code := (Try.f24.body).getD .skip
/-- enthymeme/enthymemeref06.Select -/
noncomputable def C1 := W.Code.snd C0
noncomputable def C2 := W.Code.snd C1
noncomputable def C3 := W.Code.fst C2
noncomputable def C4 := W.Code.snd C3
noncomputable def C5 := W.Code.fst C4
noncomputable def C6 := W.Code.snd C2
noncomputable def C7 := W.Code.fst C6
noncomputable def C8 := W.Code.snd C7
noncomputable def C9 := W.Code.fst C8
noncomputable def C10 := W.Code.snd C6
noncomputable def C11 := W.Code.fst C10
noncomputable def C12 := W.Code.snd C11
noncomputable def C13 := W.Code.fst C12
noncomputable def C14 := W.Code.snd C10
noncomputable def C15 := W.Code.snd C5
noncomputable def C16 := W.Code.snd C4
noncomputable def C17 := W.Code.snd C9
noncomputable def C18 := W.Code.snd C8
noncomputable def C19 := W.Code.snd C13
noncomputable def C20 := W.Code.snd C12
noncomputable def C21 := W.Code.snd C14
theorem ok (a0_0 a0_1 a0_2 a0_3 : Int) (a0_4 : ByteArray) (a0_5 : W.Sl) (index1 : Int) (w : World) (R : W.Post) (h : W.nwV w (.cells #[.int .i64 a0_0, .int .i64 a0_1, .int .i64 a0_2, .int .u64 a0_3, .string a0_4, a0_5.v] ty_enthymemeref06_Value) fun w1 => 
  W.nwV w1 (.cells #[.int .i64 0, .int .i64 0, .int .i64 0, .int .u64 0, .string (ByteArray.mk #[]), .slice none 0 0] ty_enthymemeref06_Value) fun w2 => 
  ∃ t7_0 : Int, ∃ t7_1 : Int, ∃ t7_2 : Int, ∃ t7_3 : Int, ∃ t7_4 : ByteArray, ∃ t7_5 : W.Sl, w2.cell? ((Addr.mk w.heap.size 0 none).add 0) = some (.int .i64 t7_0) ∧ w2.cell? ((Addr.mk w.heap.size 0 none).add 1) = some (.int .i64 t7_1) ∧ w2.cell? ((Addr.mk w.heap.size 0 none).add 2) = some (.int .i64 t7_2) ∧ w2.cell? ((Addr.mk w.heap.size 0 none).add 3) = some (.int .u64 t7_3) ∧ w2.cell? ((Addr.mk w.heap.size 0 none).add 4) = some (.string t7_4) ∧ w2.cell? ((Addr.mk w.heap.size 0 none).add 5) = some (t7_5.v) ∧ 
  Calls Try.prog n_enthymemeref06_Valid #[.agg #[.int .i64 t7_0, .int .i64 t7_1, .int .i64 t7_2, .int .u64 t7_3, .string t7_4, t7_5.v]] w2 fun r_ w3 => ∃ t8 : Int, r_ = .returned (.int .i64 t8) ∧ 
  W.sel (t8 != 0) (W.stV w3 (Addr.mk w1.heap.size 0 none) (.int .i64 0) fun w4 => 
  W.stV w4 ((Addr.mk w1.heap.size 0 none).add 1) (.int .i64 0) fun w5 => 
  W.stV w5 ((Addr.mk w1.heap.size 0 none).add 2) (.int .i64 0) fun w6 => 
  W.stV w6 ((Addr.mk w1.heap.size 0 none).add 3) (.int .u64 0) fun w7 => 
  W.stV w7 ((Addr.mk w1.heap.size 0 none).add 4) (.string (ByteArray.mk #[])) fun w8 => 
  W.stV w8 ((Addr.mk w1.heap.size 0 none).add 5) (.slice none 0 0) fun w9 => 
  ∃ r4_0 : Int, ∃ r4_1 : Int, ∃ r4_2 : Int, ∃ r4_3 : Int, ∃ r4_4 : ByteArray, ∃ r4_5 : W.Sl, w9.cell? ((Addr.mk w1.heap.size 0 none).add 0) = some (.int .i64 r4_0) ∧ w9.cell? ((Addr.mk w1.heap.size 0 none).add 1) = some (.int .i64 r4_1) ∧ w9.cell? ((Addr.mk w1.heap.size 0 none).add 2) = some (.int .i64 r4_2) ∧ w9.cell? ((Addr.mk w1.heap.size 0 none).add 3) = some (.int .u64 r4_3) ∧ w9.cell? ((Addr.mk w1.heap.size 0 none).add 4) = some (.string r4_4) ∧ w9.cell? ((Addr.mk w1.heap.size 0 none).add 5) = some (r4_5.v) ∧ 
  R (.returned (.tuple #[.agg #[.int .i64 r4_0, .int .i64 r4_1, .int .i64 r4_2, .int .u64 r4_3, .string r4_4, r4_5.v], .int .i64 t8])) w9) (∃ t14_0 : Int, ∃ t14_1 : Int, ∃ t14_2 : Int, w3.cell? (((Addr.mk w.heap.size 0 none).add 0).add 0) = some (.int .i64 t14_0) ∧ w3.cell? (((Addr.mk w.heap.size 0 none).add 0).add 1) = some (.int .i64 t14_1) ∧ w3.cell? (((Addr.mk w.heap.size 0 none).add 0).add 2) = some (.int .i64 t14_2) ∧ 
  Calls Try.prog n_enthymemeref06_Array #[.agg #[.int .i64 t14_0, .int .i64 t14_1, .int .i64 t14_2]] w3 fun r_ w10 => ∃ t15 : Bool, r_ = .returned (.bool t15) ∧ 
  W.sel (!t15) (W.stV w10 (Addr.mk w1.heap.size 0 none) (.int .i64 0) fun w11 => 
  W.stV w11 ((Addr.mk w1.heap.size 0 none).add 1) (.int .i64 0) fun w12 => 
  W.stV w12 ((Addr.mk w1.heap.size 0 none).add 2) (.int .i64 0) fun w13 => 
  W.stV w13 ((Addr.mk w1.heap.size 0 none).add 3) (.int .u64 0) fun w14 => 
  W.stV w14 ((Addr.mk w1.heap.size 0 none).add 4) (.string (ByteArray.mk #[])) fun w15 => 
  W.stV w15 ((Addr.mk w1.heap.size 0 none).add 5) (.slice none 0 0) fun w16 => 
  ∃ r4_0 : Int, ∃ r4_1 : Int, ∃ r4_2 : Int, ∃ r4_3 : Int, ∃ r4_4 : ByteArray, ∃ r4_5 : W.Sl, w16.cell? ((Addr.mk w1.heap.size 0 none).add 0) = some (.int .i64 r4_0) ∧ w16.cell? ((Addr.mk w1.heap.size 0 none).add 1) = some (.int .i64 r4_1) ∧ w16.cell? ((Addr.mk w1.heap.size 0 none).add 2) = some (.int .i64 r4_2) ∧ w16.cell? ((Addr.mk w1.heap.size 0 none).add 3) = some (.int .u64 r4_3) ∧ w16.cell? ((Addr.mk w1.heap.size 0 none).add 4) = some (.string r4_4) ∧ w16.cell? ((Addr.mk w1.heap.size 0 none).add 5) = some (r4_5.v) ∧ 
  R (.returned (.tuple #[.agg #[.int .i64 r4_0, .int .i64 r4_1, .int .i64 r4_2, .int .u64 r4_3, .string r4_4, r4_5.v], .int .i64 9])) w16) (∃ t21 : Int, w10.cell? (((Addr.mk w.heap.size 0 none).add 0).add 2) = some (.int .i64 t21) ∧ 
  Calls Try.prog n_enthymemeref06_fits #[.int .u64 index1, .int .i64 t21] w10 fun r_ w17 => ∃ t22 : Bool, r_ = .returned (.bool t22) ∧ 
  W.sel (!t22) (W.stV w17 (Addr.mk w1.heap.size 0 none) (.int .i64 0) fun w18 => 
  W.stV w18 ((Addr.mk w1.heap.size 0 none).add 1) (.int .i64 0) fun w19 => 
  W.stV w19 ((Addr.mk w1.heap.size 0 none).add 2) (.int .i64 0) fun w20 => 
  W.stV w20 ((Addr.mk w1.heap.size 0 none).add 3) (.int .u64 0) fun w21 => 
  W.stV w21 ((Addr.mk w1.heap.size 0 none).add 4) (.string (ByteArray.mk #[])) fun w22 => 
  W.stV w22 ((Addr.mk w1.heap.size 0 none).add 5) (.slice none 0 0) fun w23 => 
  ∃ r4_0 : Int, ∃ r4_1 : Int, ∃ r4_2 : Int, ∃ r4_3 : Int, ∃ r4_4 : ByteArray, ∃ r4_5 : W.Sl, w23.cell? ((Addr.mk w1.heap.size 0 none).add 0) = some (.int .i64 r4_0) ∧ w23.cell? ((Addr.mk w1.heap.size 0 none).add 1) = some (.int .i64 r4_1) ∧ w23.cell? ((Addr.mk w1.heap.size 0 none).add 2) = some (.int .i64 r4_2) ∧ w23.cell? ((Addr.mk w1.heap.size 0 none).add 3) = some (.int .u64 r4_3) ∧ w23.cell? ((Addr.mk w1.heap.size 0 none).add 4) = some (.string r4_4) ∧ w23.cell? ((Addr.mk w1.heap.size 0 none).add 5) = some (r4_5.v) ∧ 
  R (.returned (.tuple #[.agg #[.int .i64 r4_0, .int .i64 r4_1, .int .i64 r4_2, .int .u64 r4_3, .string r4_4, r4_5.v], .int .i64 5])) w23) (∃ t25_0 : Int, ∃ t25_1 : Int, ∃ t25_2 : Int, ∃ t25_3 : Int, ∃ t25_4 : ByteArray, ∃ t25_5 : W.Sl, w17.cell? ((Addr.mk w.heap.size 0 none).add 0) = some (.int .i64 t25_0) ∧ w17.cell? ((Addr.mk w.heap.size 0 none).add 1) = some (.int .i64 t25_1) ∧ w17.cell? ((Addr.mk w.heap.size 0 none).add 2) = some (.int .i64 t25_2) ∧ w17.cell? ((Addr.mk w.heap.size 0 none).add 3) = some (.int .u64 t25_3) ∧ w17.cell? ((Addr.mk w.heap.size 0 none).add 4) = some (.string t25_4) ∧ w17.cell? ((Addr.mk w.heap.size 0 none).add 5) = some (t25_5.v) ∧ 
  Calls Try.prog n_enthymemeref06_At #[.agg #[.int .i64 t25_0, .int .i64 t25_1, .int .i64 t25_2, .int .u64 t25_3, .string t25_4, t25_5.v], .int .u64 index1] w17 fun r_ w24 => ∃ t27_0 : Int, ∃ t27_1 : Int, ∃ t27_2 : Int, ∃ t27_3 : Int, ∃ t27_4 : ByteArray, ∃ t27_5 : W.Sl, r_ = .returned (.agg #[.int .i64 t27_0, .int .i64 t27_1, .int .i64 t27_2, .int .u64 t27_3, .string t27_4, t27_5.v]) ∧ 
  W.stV w24 (Addr.mk w1.heap.size 0 none) (.int .i64 t27_0) fun w25 => 
  W.stV w25 ((Addr.mk w1.heap.size 0 none).add 1) (.int .i64 t27_1) fun w26 => 
  W.stV w26 ((Addr.mk w1.heap.size 0 none).add 2) (.int .i64 t27_2) fun w27 => 
  W.stV w27 ((Addr.mk w1.heap.size 0 none).add 3) (.int .u64 t27_3) fun w28 => 
  W.stV w28 ((Addr.mk w1.heap.size 0 none).add 4) (.string t27_4) fun w29 => 
  W.stV w29 ((Addr.mk w1.heap.size 0 none).add 5) (t27_5.v) fun w30 => 
  ∃ r4_0 : Int, ∃ r4_1 : Int, ∃ r4_2 : Int, ∃ r4_3 : Int, ∃ r4_4 : ByteArray, ∃ r4_5 : W.Sl, w30.cell? ((Addr.mk w1.heap.size 0 none).add 0) = some (.int .i64 r4_0) ∧ w30.cell? ((Addr.mk w1.heap.size 0 none).add 1) = some (.int .i64 r4_1) ∧ w30.cell? ((Addr.mk w1.heap.size 0 none).add 2) = some (.int .i64 r4_2) ∧ w30.cell? ((Addr.mk w1.heap.size 0 none).add 3) = some (.int .u64 r4_3) ∧ w30.cell? ((Addr.mk w1.heap.size 0 none).add 4) = some (.string r4_4) ∧ w30.cell? ((Addr.mk w1.heap.size 0 none).add 5) = some (r4_5.v) ∧ 
  R (.returned (.tuple #[.agg #[.int .i64 r4_0, .int .i64 r4_1, .int .i64 r4_2, .int .u64 r4_3, .string r4_4, r4_5.v], .int .i64 0])) w30)))) : Calls Try.prog n_enthymemeref06_Select #[.agg #[.int .i64 a0_0, .int .i64 a0_1, .int .i64 a0_2, .int .u64 a0_3, .string a0_4, a0_5.v], .int .u64 index1] w R :=
  W.calls_of_WP' (R := R) (fn := Try.f24) (c := C0) (args := [.agg #[.int .i64 a0_0, .int .i64 a0_1, .int .i64 a0_2, .int .u64 a0_3, .string a0_4, a0_5.v], .int .u64 index1]) (by kernel_rfl) (by kernel_rfl) (by kernel_rfl) (W.sr C0 (by kernel_rfl) (show (fun (E : W.Env) (w : World) => W.srK Try.prog C0 (fun E w => W.srK Try.prog C1 (fun E w => W.srK Try.prog C3 (fun E w => W.condK (W.Env.val E (.tmp 10)) (W.srK Try.prog C5 (fun E w => W.retVC Try.prog Try.f24 E w (fun v => R (.returned v) w)) E w) (W.srK Try.prog C7 (fun E w => W.condK (W.Env.val E (.tmp 16)) (W.srK Try.prog C9 (fun E w => W.retVC Try.prog Try.f24 E w (fun v => R (.returned v) w)) E w) (W.srK Try.prog C11 (fun E w => W.condK (W.Env.val E (.tmp 23)) (W.srK Try.prog C13 (fun E w => W.retVC Try.prog Try.f24 E w (fun v => R (.returned v) w)) E w) (W.srK Try.prog C14 (fun E w => W.retVC Try.prog Try.f24 E w (fun v => R (.returned v) w)) E w)) E w)) E w)) E w) E w) E w) (W.envOf 0 [.agg #[.int .i64 a0_0, .int .i64 a0_1, .int .i64 a0_2, .int .u64 a0_3, .string a0_4, a0_5.v], .int .u64 index1]) w from Eq.mp (by kernel_rfl) h) fun _ _ hK => (W.sr C1 (by kernel_rfl) hK fun _ _ hK => (W.sq C2 (by kernel_rfl) (W.sr C3 (by kernel_rfl) hK fun _ _ hK => (W.cn C4 (by kernel_rfl) hK (fun hK => (W.sr C5 (by kernel_rfl) hK fun _ _ hK => (W.rt C15 (by kernel_rfl) fun a hA => W.retVC_sound hA hK))) (fun hK => (W.sk C16 (by kernel_rfl) fun a hA => W.nx hA (W.sq C6 (by kernel_rfl) (W.sr C7 (by kernel_rfl) hK fun _ _ hK => (W.cn C8 (by kernel_rfl) hK (fun hK => (W.sr C9 (by kernel_rfl) hK fun _ _ hK => (W.rt C17 (by kernel_rfl) fun a hA => W.retVC_sound hA hK))) (fun hK => (W.sk C18 (by kernel_rfl) fun a hA => W.nx hA (W.sq C10 (by kernel_rfl) (W.sr C11 (by kernel_rfl) hK fun _ _ hK => (W.cn C12 (by kernel_rfl) hK (fun hK => (W.sr C13 (by kernel_rfl) hK fun _ _ hK => (W.rt C19 (by kernel_rfl) fun a hA => W.retVC_sound hA hK))) (fun hK => (W.sk C20 (by kernel_rfl) fun a hA => W.nx hA (W.sr C14 (by kernel_rfl) hK fun _ _ hK => (W.rt C21 (by kernel_rfl) fun a hA => W.retVC_sound hA hK)))))))))))))))))))
theorem okT (a0_0 a0_1 a0_2 a0_3 : Int) (a0_4 : ByteArray) (a0_5 : W.Sl) (index1 : Int) (w : World) (R : W.Post) (h : W.newV [] w fun b2 w1 => 
  W.newV [b2] w1 fun b4 w2 => 
  W.callF [b2, b4] Try.prog n_enthymemeref06_Valid #[.agg #[.int .i64 a0_0, .int .i64 a0_1, .int .i64 a0_2, .int .u64 a0_3, .string a0_4, a0_5.v]] w2 fun r_ w3 => ∃ t8 : Int, r_ = .returned (.int .i64 t8) ∧ 
  W.sel (t8 != 0) (W.loc [b2, b4] w3 fun w9 => R (.returned (.tuple #[.agg #[.int .i64 0, .int .i64 0, .int .i64 0, .int .u64 0, .string (ByteArray.mk #[]), .slice none 0 0], .int .i64 t8])) w9) (W.callF [b2, b4] Try.prog n_enthymemeref06_Array #[.agg #[.int .i64 a0_0, .int .i64 a0_1, .int .i64 a0_2]] w3 fun r_ w10 => ∃ t15 : Bool, r_ = .returned (.bool t15) ∧ 
  W.sel (!t15) (W.loc [b2, b4] w10 fun w16 => R (.returned (.tuple #[.agg #[.int .i64 0, .int .i64 0, .int .i64 0, .int .u64 0, .string (ByteArray.mk #[]), .slice none 0 0], .int .i64 9])) w16) (W.callF [b2, b4] Try.prog n_enthymemeref06_fits #[.int .u64 index1, .int .i64 a0_2] w10 fun r_ w17 => ∃ t22 : Bool, r_ = .returned (.bool t22) ∧ 
  W.sel (!t22) (W.loc [b2, b4] w17 fun w23 => R (.returned (.tuple #[.agg #[.int .i64 0, .int .i64 0, .int .i64 0, .int .u64 0, .string (ByteArray.mk #[]), .slice none 0 0], .int .i64 5])) w23) (W.callF [b2, b4] Try.prog n_enthymemeref06_At #[.agg #[.int .i64 a0_0, .int .i64 a0_1, .int .i64 a0_2, .int .u64 a0_3, .string a0_4, a0_5.v], .int .u64 index1] w17 fun r_ w24 => ∃ t27_0 : Int, ∃ t27_1 : Int, ∃ t27_2 : Int, ∃ t27_3 : Int, ∃ t27_4 : ByteArray, ∃ t27_5 : W.Sl, r_ = .returned (.agg #[.int .i64 t27_0, .int .i64 t27_1, .int .i64 t27_2, .int .u64 t27_3, .string t27_4, t27_5.v]) ∧ 
  W.loc [b2, b4] w24 fun w30 => R (.returned (.tuple #[.agg #[.int .i64 t27_0, .int .i64 t27_1, .int .i64 t27_2, .int .u64 t27_3, .string t27_4, t27_5.v], .int .i64 0])) w30)))) : Calls Try.prog n_enthymemeref06_Select #[.agg #[.int .i64 a0_0, .int .i64 a0_1, .int .i64 a0_2, .int .u64 a0_3, .string a0_4, a0_5.v], .int .u64 index1] w R :=
  ok _ _ _ _ _ _ _ w R (W.LC.nwT (W.LC.nil _) (W.Fr.refl _ _) h fun w1 H h => W.LC.nwT H (W.Fr.refl _ _) h fun w2 H h => ⟨_, _, _, _, _, a0_5, H.ld 0 0, H.ld 0 1, H.ld 0 2, H.ld 0 3, H.ld 0 4, H.ld 0 5, W.LC.callT H h fun r_ w3 H h => let ⟨t8, hr, h⟩ := h; ⟨t8, hr, W.sel_imp h (fun h => W.LC.stT0 H 1 (W.Fr.refl _ _) rfl rfl fun w4 H f => W.LC.stT H 1 1 f rfl rfl fun w5 H f => W.LC.stT H 1 2 f rfl rfl fun w6 H f => W.LC.stT H 1 3 f rfl rfl fun w7 H f => W.LC.stT H 1 4 f rfl rfl fun w8 H f => W.LC.stT H 1 5 f rfl rfl fun w9 (H : W.LC w9 [(w.heap.size, [.int .i64 a0_0, .int .i64 a0_1, .int .i64 a0_2, .int .u64 a0_3, .string a0_4, a0_5.v], ty_enthymemeref06_Value), (w1.heap.size, [.int .i64 0, .int .i64 0, .int .i64 0, .int .u64 0, .string (ByteArray.mk #[]), .slice none 0 0], ty_enthymemeref06_Value)]) (f : W.Fr (· ∈ [w.heap.size, w1.heap.size]) _ w9) => ⟨_, _, _, _, _, ⟨none, 0, 0⟩, H.ld 1 0, H.ld 1 1, H.ld 1 2, H.ld 1 3, H.ld 1 4, H.ld 1 5, have h := h _ f; h⟩) (fun h => ⟨_, _, _, H.ld 0 0, H.ld 0 1, H.ld 0 2, W.LC.callT H h fun r_ w10 H h => let ⟨t15, hr, h⟩ := h; ⟨t15, hr, W.sel_imp h (fun h => W.LC.stT0 H 1 (W.Fr.refl _ _) rfl rfl fun w11 H f => W.LC.stT H 1 1 f rfl rfl fun w12 H f => W.LC.stT H 1 2 f rfl rfl fun w13 H f => W.LC.stT H 1 3 f rfl rfl fun w14 H f => W.LC.stT H 1 4 f rfl rfl fun w15 H f => W.LC.stT H 1 5 f rfl rfl fun w16 (H : W.LC w16 [(w.heap.size, [.int .i64 a0_0, .int .i64 a0_1, .int .i64 a0_2, .int .u64 a0_3, .string a0_4, a0_5.v], ty_enthymemeref06_Value), (w1.heap.size, [.int .i64 0, .int .i64 0, .int .i64 0, .int .u64 0, .string (ByteArray.mk #[]), .slice none 0 0], ty_enthymemeref06_Value)]) (f : W.Fr (· ∈ [w.heap.size, w1.heap.size]) _ w16) => ⟨_, _, _, _, _, ⟨none, 0, 0⟩, H.ld 1 0, H.ld 1 1, H.ld 1 2, H.ld 1 3, H.ld 1 4, H.ld 1 5, have h := h _ f; h⟩) (fun h => ⟨_, H.ld 0 2, W.LC.callT H h fun r_ w17 H h => let ⟨t22, hr, h⟩ := h; ⟨t22, hr, W.sel_imp h (fun h => W.LC.stT0 H 1 (W.Fr.refl _ _) rfl rfl fun w18 H f => W.LC.stT H 1 1 f rfl rfl fun w19 H f => W.LC.stT H 1 2 f rfl rfl fun w20 H f => W.LC.stT H 1 3 f rfl rfl fun w21 H f => W.LC.stT H 1 4 f rfl rfl fun w22 H f => W.LC.stT H 1 5 f rfl rfl fun w23 (H : W.LC w23 [(w.heap.size, [.int .i64 a0_0, .int .i64 a0_1, .int .i64 a0_2, .int .u64 a0_3, .string a0_4, a0_5.v], ty_enthymemeref06_Value), (w1.heap.size, [.int .i64 0, .int .i64 0, .int .i64 0, .int .u64 0, .string (ByteArray.mk #[]), .slice none 0 0], ty_enthymemeref06_Value)]) (f : W.Fr (· ∈ [w.heap.size, w1.heap.size]) _ w23) => ⟨_, _, _, _, _, ⟨none, 0, 0⟩, H.ld 1 0, H.ld 1 1, H.ld 1 2, H.ld 1 3, H.ld 1 4, H.ld 1 5, have h := h _ f; h⟩) (fun h => ⟨_, _, _, _, _, a0_5, H.ld 0 0, H.ld 0 1, H.ld 0 2, H.ld 0 3, H.ld 0 4, H.ld 0 5, W.LC.callT H h fun r_ w24 H h => let ⟨t27_0, t27_1, t27_2, t27_3, t27_4, t27_5, hr, h⟩ := h; ⟨t27_0, t27_1, t27_2, t27_3, t27_4, t27_5, hr, W.LC.stT0 H 1 (W.Fr.refl _ _) rfl rfl fun w25 H f => W.LC.stT H 1 1 f rfl rfl fun w26 H f => W.LC.stT H 1 2 f rfl rfl fun w27 H f => W.LC.stT H 1 3 f rfl rfl fun w28 H f => W.LC.stT H 1 4 f rfl rfl fun w29 H f => W.LC.stT H 1 5 f rfl rfl fun w30 (H : W.LC w30 [(w.heap.size, [.int .i64 a0_0, .int .i64 a0_1, .int .i64 a0_2, .int .u64 a0_3, .string a0_4, a0_5.v], ty_enthymemeref06_Value), (w1.heap.size, [.int .i64 t27_0, .int .i64 t27_1, .int .i64 t27_2, .int .u64 t27_3, .string t27_4, t27_5.v], ty_enthymemeref06_Value)]) (f : W.Fr (· ∈ [w.heap.size, w1.heap.size]) _ w30) => ⟨_, _, _, _, _, t27_5, H.ld 1 0, H.ld 1 1, H.ld 1 2, H.ld 1 3, H.ld 1 4, H.ld 1 5, have h := h _ f; h⟩⟩⟩)⟩⟩)⟩⟩)⟩⟩)
end enthymemeref06_Select
namespace enthymemeref06_Put
noncomputable def C0 : Code := (Try.f48.body).getD .skip
noncomputable def C1 := W.Code.snd C0
noncomputable def C2 := W.Code.snd C1
noncomputable def C3 := W.Code.snd C2
noncomputable def C4 := W.Code.fst C3
noncomputable def C5 := W.Code.fst C4
noncomputable def C6 := W.Code.fst C5
noncomputable def C7 := W.Code.snd C3
abbrev Q0 (R : W.Post) : Exit → Act → World → Prop := (Exit.then (W.wpx Try.prog (W.cx 83) C7 (bodyPost Try.prog Try.f48 R)) (bodyPost Try.prog Try.f48 R))
abbrev Q1 (R : W.Post) : Exit → Act → World → Prop := (Exit.inBlock 0 (Q0 R))
/-- the head of the loop, ref.go:185 -/
def L0 (index1 u2 : Int) (s3 : ByteArray) (a4 t8 out9 : Addr) (k10 : Int) (w : World) (R : W.Post) : Prop := W.LP Try.prog (W.cx 83) C6 (Q1 R) [(1, .int .u64 index1), (2, .int .u64 u2), (3, .string s3), (4, .pointer (some a4)), (8, .pointer (some t8)), (9, .pointer (some out9)), (10, .int .i64 k10)] w
def KE_L0 (E : W.Env) (w : World) (R : W.Post) : Prop := W.asInt .u64 (W.Env.get? E 1) fun index1 => W.asInt .u64 (W.Env.get? E 2) fun u2 => W.asStr (W.Env.get? E 3) fun s3 => W.asRef (W.Env.get? E 4) fun a4 => W.asRef (W.Env.get? E 8) fun t8 => W.asRef (W.Env.get? E 9) fun out9 => W.asInt .i64 (W.Env.get? E 10) fun k10 => L0 index1 u2 s3 a4 t8 out9 k10 w R
theorem KE_L0_ok (R : W.Post) (E : W.Env) (w : World) (h : KE_L0 E w R) : W.LP Try.prog (W.cx 83) C6 (Q1 R) E w := by
  obtain ⟨index1, hq1, h_1⟩ := W.asInt_elim h
  obtain ⟨u2, hq2, h_2⟩ := W.asInt_elim h_1
  obtain ⟨s3, hq3, h_3⟩ := W.asStr_elim h_2
  obtain ⟨a4, hq4, h_4⟩ := W.asRef_elim h_3
  obtain ⟨t8, hq8, h_5⟩ := W.asRef_elim h_4
  obtain ⟨out9, hq9, h_6⟩ := W.asRef_elim h_5
  obtain ⟨k10, hq10, h_7⟩ := W.asInt_elim h_6
  intro a ha
  exact h_7 a (ha.cons hq1 (ha.cons hq2 (ha.cons hq3 (ha.cons hq4 (ha.cons hq8 (ha.cons hq9 (ha.cons hq10 ha.nil)))))))
noncomputable def C8 := W.Code.snd C7
noncomputable def C9 := W.Code.snd C8
abbrev Q2 (R : W.Post) : Exit → Act → World → Prop := (bodyPost Try.prog Try.f48 R)
noncomputable def C10 := W.Code.snd C9
noncomputable def C11 := W.Code.snd C10
/-- ref.go:195 -/
abbrev S4 (a4 t8 out9 : Addr) (k10 : Int) (w : World) (R : W.Post) : Prop :=
  W.drV w fun w1 => ∃ t75 : W.Sl, w1.cell? (out9.add 5) = some (t75.v) ∧ 
  ∃ t77 : W.Sl, w1.cell? (a4.add 5) = some (t77.v) ∧ 
  (0 : Int) ≤ k10 ∧ k10 ≤ ((t77.n : Nat) : Int) ∧ ∃ (t80 : W.Sl) (w2 : World), Sem.run Try.prog (Builtin.append_ #[ty_sl_enthymemeref06_Entry, ty_sl_enthymemeref06_Entry] ty_sl_enthymemeref06_Entry #[t75.v, .slice (if t77.c = (Int.toNat k10) then t77.a else t77.a.map (·.add ((Int.toNat k10) * 3))) (t77.n - (Int.toNat k10)) (t77.c - (Int.toNat k10))]) w1 = .ok (t80.v) w2 ∧ w2.cell? (a4.add 5) = some (t77.v) ∧ W.stV w2 (out9.add 5) (t80.v) fun w3 => 
  ∃ t82_0 : Int, ∃ t82_1 : Int, ∃ t82_2 : Int, ∃ t82_3 : Int, ∃ t82_4 : ByteArray, ∃ t82_5 : W.Sl, w3.cell? (out9.add 0) = some (.int .i64 t82_0) ∧ w3.cell? (out9.add 1) = some (.int .i64 t82_1) ∧ w3.cell? (out9.add 2) = some (.int .i64 t82_2) ∧ w3.cell? (out9.add 3) = some (.int .u64 t82_3) ∧ w3.cell? (out9.add 4) = some (.string t82_4) ∧ w3.cell? (out9.add 5) = some (t82_5.v) ∧ 
  W.stV w3 t8 (.int .i64 t82_0) fun w4 => 
  W.stV w4 (t8.add 1) (.int .i64 t82_1) fun w5 => 
  W.stV w5 (t8.add 2) (.int .i64 t82_2) fun w6 => 
  W.stV w6 (t8.add 3) (.int .u64 t82_3) fun w7 => 
  W.stV w7 (t8.add 4) (.string t82_4) fun w8 => 
  W.stV w8 (t8.add 5) (t82_5.v) fun w9 => 
  ∃ r8_0 : Int, ∃ r8_1 : Int, ∃ r8_2 : Int, ∃ r8_3 : Int, ∃ r8_4 : ByteArray, ∃ r8_5 : W.Sl, w9.cell? (t8.add 0) = some (.int .i64 r8_0) ∧ w9.cell? (t8.add 1) = some (.int .i64 r8_1) ∧ w9.cell? (t8.add 2) = some (.int .i64 r8_2) ∧ w9.cell? (t8.add 3) = some (.int .u64 r8_3) ∧ w9.cell? (t8.add 4) = some (.string r8_4) ∧ w9.cell? (t8.add 5) = some (r8_5.v) ∧ 
  R (.returned (.agg #[.int .i64 r8_0, .int .i64 r8_1, .int .i64 r8_2, .int .u64 r8_3, .string r8_4, r8_5.v])) w9
def KE_S4 (E : W.Env) (w : World) (R : W.Post) : Prop := W.asRef (W.Env.get? E 4) fun a4 => W.asRef (W.Env.get? E 8) fun t8 => W.asRef (W.Env.get? E 9) fun out9 => W.asInt .i64 (W.Env.get? E 10) fun k10 => S4 a4 t8 out9 k10 w R
theorem KE_S4_ok (R : W.Post) (E : W.Env) (w : World) (h : KE_S4 E w R) : W.WP Try.prog (W.cx 83) C9 (Q2 R) E w := by
  obtain ⟨a4, hq4, h_1⟩ := W.asRef_elim h
  obtain ⟨t8, hq8, h_2⟩ := W.asRef_elim h_1
  obtain ⟨out9, hq9, h_3⟩ := W.asRef_elim h_2
  obtain ⟨k10, hq10, h_4⟩ := W.asInt_elim h_3
  exact fun a ha => W.WP.at (E := [(4, .pointer (some a4)), (8, .pointer (some t8)), (9, .pointer (some out9)), (10, .int .i64 k10)]) (W.sd C9 (K := fun E w => W.srK Try.prog C10 (fun E w => W.retVC Try.prog Try.f48 E w (fun v => R (.returned v) w)) E w) (l := [0, 1, 2, 3, 4, 5, 6, 7, 8]) (by kernel_rfl) (Eq.mp (by kernel_rfl) h_4) fun _ _ hK => (W.sr C10 (by kernel_rfl) hK fun _ _ hK => (W.rt C11 (by kernel_rfl) fun a hA => W.retVC_sound hA hK))) (ha.cons hq4 (ha.cons hq8 (ha.cons hq9 (ha.cons hq10 ha.nil))))
noncomputable def C12 := W.Code.fst C8
abbrev Q3 (R : W.Post) : Exit → Act → World → Prop := (Exit.then (W.wpx Try.prog (W.cx 83) C9 (bodyPost Try.prog Try.f48 R)) (bodyPost Try.prog Try.f48 R))
noncomputable def C13 := W.Code.snd C12
noncomputable def C14 := W.Code.fst C13
noncomputable def C15 := W.Code.snd C13
/-- ref.go:192 -/
abbrev S3 (index1 : Int) (a4 t8 out9 : Addr) (k10 : Int) (w : World) (R : W.Post) : Prop :=
  ∃ t59 : W.Sl, w.cell? (a4.add 5) = some (t59.v) ∧ 
  W.sel (decide (k10 < ((t59.n : Nat) : Int))) (∃ t64 : W.Sl, w.cell? (a4.add 5) = some (t64.v) ∧ 
  (0 : Int) ≤ k10 ∧ k10 < ((t64.n : Nat) : Int) ∧ W.optP t64.a fun t66_p => ∃ t68 : Int, w.cell? ((t66_p.add (Int.toNat k10 * 3)).add 0) = some (.int .u64 t68) ∧ 
  W.sel (t68 == index1) (S4 a4 t8 out9 (IntKind.wrap .i64 (k10 + 1)) w R) (S4 a4 t8 out9 k10 w R)) (S4 a4 t8 out9 k10 w R)
def KE_S3 (E : W.Env) (w : World) (R : W.Post) : Prop := W.asInt .u64 (W.Env.get? E 1) fun index1 => W.asRef (W.Env.get? E 4) fun a4 => W.asRef (W.Env.get? E 8) fun t8 => W.asRef (W.Env.get? E 9) fun out9 => W.asInt .i64 (W.Env.get? E 10) fun k10 => S3 index1 a4 t8 out9 k10 w R
theorem KE_S3_ok (R : W.Post) (E : W.Env) (w : World) (h : KE_S3 E w R) : W.WP Try.prog (W.cx 83) C12 (Q3 R) E w := by
  obtain ⟨index1, hq1, h_1⟩ := W.asInt_elim h
  obtain ⟨a4, hq4, h_2⟩ := W.asRef_elim h_1
  obtain ⟨t8, hq8, h_3⟩ := W.asRef_elim h_2
  obtain ⟨out9, hq9, h_4⟩ := W.asRef_elim h_3
  obtain ⟨k10, hq10, h_5⟩ := W.asInt_elim h_4
  exact fun a ha => W.WP.at (E := [(1, .int .u64 index1), (4, .pointer (some a4)), (8, .pointer (some t8)), (9, .pointer (some out9)), (10, .int .i64 k10)]) (W.sr C12 (K := fun E w => W.condK (W.Env.val E (.tmp 71)) (W.rgK Try.prog C14 (fun E w => KE_S4 E w R) E w) (KE_S4 E w R)) (by kernel_rfl) (Eq.mp (by kernel_rfl) h_5) fun _ _ hK => (W.cn C13 (by kernel_rfl) hK (fun hK => (W.rg C14 (by kernel_rfl) hK fun _ _ a hA hK => W.nx hA (KE_S4_ok R _ _ hK))) (fun hK => (W.sk C15 (by kernel_rfl) fun a hA => W.nx hA (KE_S4_ok R _ _ hK))))) (ha.cons hq1 (ha.cons hq4 (ha.cons hq8 (ha.cons hq9 (ha.cons hq10 ha.nil)))))
noncomputable def C16 := W.Code.fst C7
noncomputable def C17 := W.Code.snd C16
noncomputable def C18 := W.Code.fst C17
abbrev Q4 (R : W.Post) : Exit → Act → World → Prop := (Exit.then (W.wpx Try.prog (W.cx 83) C8 (bodyPost Try.prog Try.f48 R)) (bodyPost Try.prog Try.f48 R))
/-- ref.go:190 -/
abbrev S2 (index1 u2 : Int) (s3 : ByteArray) (a4 t8 out9 : Addr) (k10 : Int) (w : World) (R : W.Post) : Prop :=
  ∃ t49 : W.Sl, w.cell? (out9.add 5) = some (t49.v) ∧ 
  W.nwV w (.cells #[.int .u64 index1, .int .u64 u2, .string s3] ty_enthymemeref06_Entry) fun w1 => 
  ∃ (t55 : W.Sl) (w2 : World), Sem.run Try.prog (Builtin.append_ #[ty_sl_enthymemeref06_Entry, ty_sl_enthymemeref06_Entry] ty_sl_enthymemeref06_Entry #[t49.v, .slice (some (Addr.mk w.heap.size 0 none)) 1 1]) w1 = .ok (t55.v) w2 ∧ W.stV w2 (out9.add 5) (t55.v) fun w3 => 
  S3 index1 a4 t8 out9 k10 w3 R
def KE_S2 (E : W.Env) (w : World) (R : W.Post) : Prop := W.asInt .u64 (W.Env.get? E 1) fun index1 => W.asInt .u64 (W.Env.get? E 2) fun u2 => W.asStr (W.Env.get? E 3) fun s3 => W.asRef (W.Env.get? E 4) fun a4 => W.asRef (W.Env.get? E 8) fun t8 => W.asRef (W.Env.get? E 9) fun out9 => W.asInt .i64 (W.Env.get? E 10) fun k10 => S2 index1 u2 s3 a4 t8 out9 k10 w R
theorem KE_S2_ok (R : W.Post) (E : W.Env) (w : World) (h : KE_S2 E w R) : W.WP Try.prog (W.cx 83) C18 (Q4 R) E w := by
  obtain ⟨index1, hq1, h_1⟩ := W.asInt_elim h
  obtain ⟨u2, hq2, h_2⟩ := W.asInt_elim h_1
  obtain ⟨s3, hq3, h_3⟩ := W.asStr_elim h_2
  obtain ⟨a4, hq4, h_4⟩ := W.asRef_elim h_3
  obtain ⟨t8, hq8, h_5⟩ := W.asRef_elim h_4
  obtain ⟨out9, hq9, h_6⟩ := W.asRef_elim h_5
  obtain ⟨k10, hq10, h_7⟩ := W.asInt_elim h_6
  exact fun a ha => W.WP.at (E := [(1, .int .u64 index1), (2, .int .u64 u2), (3, .string s3), (4, .pointer (some a4)), (8, .pointer (some t8)), (9, .pointer (some out9)), (10, .int .i64 k10)]) (W.rg C18 (K := fun E w => KE_S3 E w R) (by kernel_rfl) (Eq.mp (by kernel_rfl) h_7) fun _ _ a hA hK => W.nx hA (W.sq C8 (by kernel_rfl) (KE_S3_ok R _ _ hK))) (ha.cons hq1 (ha.cons hq2 (ha.cons hq3 (ha.cons hq4 (ha.cons hq8 (ha.cons hq9 (ha.cons hq10 ha.nil)))))))
noncomputable def C19 := W.Code.snd C17
/-- ref.go:189 -/
abbrev S1 (index1 u2 : Int) (s3 : ByteArray) (a4 t8 out9 : Addr) (k10 : Int) (w : World) (R : W.Post) : Prop :=
  W.sel (decide (u2 > 0)) (S2 index1 u2 s3 a4 t8 out9 k10 w R) (W.sel (decide (((s3.size : Nat) : Int) > 0)) (S2 index1 u2 s3 a4 t8 out9 k10 w R) (S3 index1 a4 t8 out9 k10 w R))
def KE_S1 (E : W.Env) (w : World) (R : W.Post) : Prop := W.asInt .u64 (W.Env.get? E 1) fun index1 => W.asInt .u64 (W.Env.get? E 2) fun u2 => W.asStr (W.Env.get? E 3) fun s3 => W.asRef (W.Env.get? E 4) fun a4 => W.asRef (W.Env.get? E 8) fun t8 => W.asRef (W.Env.get? E 9) fun out9 => W.asInt .i64 (W.Env.get? E 10) fun k10 => S1 index1 u2 s3 a4 t8 out9 k10 w R
theorem KE_S1_ok (R : W.Post) (E : W.Env) (w : World) (h : KE_S1 E w R) : W.WP Try.prog (W.cx 83) C16 (Q4 R) E w := by
  obtain ⟨index1, hq1, h_1⟩ := W.asInt_elim h
  obtain ⟨u2, hq2, h_2⟩ := W.asInt_elim h_1
  obtain ⟨s3, hq3, h_3⟩ := W.asStr_elim h_2
  obtain ⟨a4, hq4, h_4⟩ := W.asRef_elim h_3
  obtain ⟨t8, hq8, h_5⟩ := W.asRef_elim h_4
  obtain ⟨out9, hq9, h_6⟩ := W.asRef_elim h_5
  obtain ⟨k10, hq10, h_7⟩ := W.asInt_elim h_6
  exact fun a ha => W.WP.at (E := [(1, .int .u64 index1), (2, .int .u64 u2), (3, .string s3), (4, .pointer (some a4)), (8, .pointer (some t8)), (9, .pointer (some out9)), (10, .int .i64 k10)]) (W.sr C16 (K := fun E w => W.condK (W.Env.val E (.tmp 47)) (KE_S2 E w R) (KE_S3 E w R)) (by kernel_rfl) (Eq.mp (by kernel_rfl) h_7) fun _ _ hK => (W.cn C17 (by kernel_rfl) hK (fun hK => (KE_S2_ok R _ _ hK)) (fun hK => (W.sk C19 (by kernel_rfl) fun a hA => W.nx hA (W.sq C8 (by kernel_rfl) (KE_S3_ok R _ _ hK)))))) (ha.cons hq1 (ha.cons hq2 (ha.cons hq3 (ha.cons hq4 (ha.cons hq8 (ha.cons hq9 (ha.cons hq10 ha.nil)))))))
noncomputable def C20 := W.Code.fst C6
noncomputable def C21 := W.Code.snd C6
noncomputable def C22 := W.Code.fst C21
noncomputable def C23 := W.Code.snd C22
noncomputable def C24 := W.Code.snd C20
noncomputable def C25 := W.Code.fst C24
noncomputable def C26 := W.Code.snd C24
theorem L0_step (index1 u2 : Int) (s3 : ByteArray) (a4 t8 out9 : Addr) (k10 : Int) (w : World) (R : W.Post) (h : ∃ t16 : W.Sl, w.cell? (a4.add 5) = some (t16.v) ∧ 
  W.sel (decide (k10 < ((t16.n : Nat) : Int))) (∃ t21 : W.Sl, w.cell? (a4.add 5) = some (t21.v) ∧ 
  (0 : Int) ≤ k10 ∧ k10 < ((t21.n : Nat) : Int) ∧ W.optP t21.a fun t23_p => ∃ t25 : Int, w.cell? ((t23_p.add (Int.toNat k10 * 3)).add 0) = some (.int .u64 t25) ∧ 
  W.sel (decide (t25 < index1)) (W.drV w fun w10 => ∃ t30 : W.Sl, w10.cell? (out9.add 5) = some (t30.v) ∧ 
  ∃ t32 : W.Sl, w10.cell? (a4.add 5) = some (t32.v) ∧ 
  (0 : Int) ≤ k10 ∧ k10 < ((t32.n : Nat) : Int) ∧ W.optP t32.a fun t34_p => ∃ t35_0 : Int, ∃ t35_1 : Int, ∃ t35_2 : ByteArray, w10.cell? ((t34_p.add (Int.toNat k10 * 3)).add 0) = some (.int .u64 t35_0) ∧ w10.cell? ((t34_p.add (Int.toNat k10 * 3)).add 1) = some (.int .u64 t35_1) ∧ w10.cell? ((t34_p.add (Int.toNat k10 * 3)).add 2) = some (.string t35_2) ∧ 
  W.nwV w10 (.cells #[.int .u64 t35_0, .int .u64 t35_1, .string t35_2] ty_enthymemeref06_Entry) fun w11 => 
  w11.cell? (a4.add 5) = some (t32.v) ∧ w11.cell? (out9.add 5) = some (t30.v) ∧ ∃ (t37 : W.Sl) (w12 : World), Sem.run Try.prog (Builtin.append_ #[ty_sl_enthymemeref06_Entry, ty_sl_enthymemeref06_Entry] ty_sl_enthymemeref06_Entry #[t30.v, .slice (some (Addr.mk w10.heap.size 0 none)) 1 1]) w11 = .ok (t37.v) w12 ∧ w12.cell? (a4.add 5) = some (t32.v) ∧ W.stV w12 (out9.add 5) (t37.v) fun w13 => 
  L0 index1 u2 s3 a4 t8 out9 (IntKind.wrap .i64 (k10 + 1)) w13 R) (S1 index1 u2 s3 a4 t8 out9 k10 w R)) (S1 index1 u2 s3 a4 t8 out9 k10 w R)) : L0 index1 u2 s3 a4 t8 out9 k10 w R :=
  W.LP.step (n := (W.cx 83)) (c := C6) (E := [(1, .int .u64 index1), (2, .int .u64 u2), (3, .string s3), (4, .pointer (some a4)), (8, .pointer (some t8)), (9, .pointer (some out9)), (10, .int .i64 k10)]) (w := w) (W.sq C6 (by kernel_rfl) (W.sr C20 (by kernel_rfl) (show (fun (E : W.Env) (w : World) => W.srK Try.prog C20 (fun E w => W.condK (W.Env.val E (.tmp 28)) (W.sdK Try.prog C22 [0, 1, 2, 3, 4, 5, 6, 7, 8, 9, 10] (fun E w => W.rgK Try.prog C23 (fun E w => KE_L0 E w R) E w) E w) (KE_S1 E w R)) E w) [(1, .int .u64 index1), (2, .int .u64 u2), (3, .string s3), (4, .pointer (some a4)), (8, .pointer (some t8)), (9, .pointer (some out9)), (10, .int .i64 k10)] w from Eq.mp (by kernel_rfl) h) fun _ _ hK => (W.cn C24 (by kernel_rfl) hK (fun hK => (W.sk C25 (by kernel_rfl) fun a hA => W.nx hA (W.bk C21 1 (by kernel_rfl) (W.sd C22 (by kernel_rfl) hK fun _ _ hK => (W.rg C23 (by kernel_rfl) hK fun _ _ a hA hK => KE_L0_ok R _ _ hK a hA))))) (fun hK => (W.xt C26 0 (by kernel_rfl) fun a hA => W.nx hA (W.sq C7 (by kernel_rfl) (KE_S1_ok R _ _ hK)))))))
/-- enthymeme/enthymemeref06.Put -/
theorem ok (a0_0 a0_1 a0_2 a0_3 : Int) (a0_4 : ByteArray) (a0_5 : W.Sl) (index1 u2 : Int) (s3 : ByteArray) (w : World) (R : W.Post) (h : W.nwV w (.cells #[.int .i64 a0_0, .int .i64 a0_1, .int .i64 a0_2, .int .u64 a0_3, .string a0_4, a0_5.v] ty_enthymemeref06_Value) fun w1 => 
  W.nwV w1 (.cells #[.int .i64 0, .int .i64 0, .int .i64 0, .int .u64 0, .string (ByteArray.mk #[]), .slice none 0 0] ty_enthymemeref06_Value) fun w2 => 
  ∃ t12_0 : Int, ∃ t12_1 : Int, ∃ t12_2 : Int, w2.cell? (((Addr.mk w.heap.size 0 none).add 0).add 0) = some (.int .i64 t12_0) ∧ w2.cell? (((Addr.mk w.heap.size 0 none).add 0).add 1) = some (.int .i64 t12_1) ∧ w2.cell? (((Addr.mk w.heap.size 0 none).add 0).add 2) = some (.int .i64 t12_2) ∧ 
  W.nwV w2 (.cells #[.int .i64 0, .int .i64 0, .int .i64 0, .int .u64 0, .string (ByteArray.mk #[]), .slice none 0 0] ty_enthymemeref06_Value) fun w3 => 
  W.stV w3 (Addr.mk w2.heap.size 0 none) (.int .i64 t12_0) fun w4 => 
  W.stV w4 ((Addr.mk w2.heap.size 0 none).add 1) (.int .i64 t12_1) fun w5 => 
  W.stV w5 ((Addr.mk w2.heap.size 0 none).add 2) (.int .i64 t12_2) fun w6 => 
  W.stV w6 ((Addr.mk w2.heap.size 0 none).add 3) (.int .u64 0) fun w7 => 
  W.stV w7 ((Addr.mk w2.heap.size 0 none).add 4) (.string (ByteArray.mk #[])) fun w8 => 
  W.stV w8 ((Addr.mk w2.heap.size 0 none).add 5) (.slice none 0 0) fun w9 => 
  L0 index1 u2 s3 (Addr.mk w.heap.size 0 none) (Addr.mk w1.heap.size 0 none) (Addr.mk w2.heap.size 0 none) 0 w9 R) : Calls Try.prog n_enthymemeref06_Put #[.agg #[.int .i64 a0_0, .int .i64 a0_1, .int .i64 a0_2, .int .u64 a0_3, .string a0_4, a0_5.v], .int .u64 index1, .int .u64 u2, .string s3] w R :=
  W.calls_of_WP' (R := R) (fn := Try.f48) (c := C0) (args := [.agg #[.int .i64 a0_0, .int .i64 a0_1, .int .i64 a0_2, .int .u64 a0_3, .string a0_4, a0_5.v], .int .u64 index1, .int .u64 u2, .string s3]) (by kernel_rfl) (by kernel_rfl) (by kernel_rfl) (W.sr C0 (by kernel_rfl) (show (fun (E : W.Env) (w : World) => W.srK Try.prog C0 (fun E w => W.srK Try.prog C1 (fun E w => W.srK Try.prog C2 (fun E w => KE_L0 E w R) E w) E w) E w) (W.envOf 0 [.agg #[.int .i64 a0_0, .int .i64 a0_1, .int .i64 a0_2, .int .u64 a0_3, .string a0_4, a0_5.v], .int .u64 index1, .int .u64 u2, .string s3]) w from Eq.mp (by kernel_rfl) h) fun _ _ hK => (W.sr C1 (by kernel_rfl) hK fun _ _ hK => (W.sr C2 (by kernel_rfl) hK fun _ _ hK => (W.sq C3 (by kernel_rfl) (W.bk C4 0 (by kernel_rfl) (W.lp C5 (by kernel_rfl) (KE_L0_ok R _ _ hK)))))))
def L0T (index1 u2 : Int) (s3 : ByteArray) (a4 : Nat) (a4_0 a4_1 a4_2 a4_3 : Int) (a4_4 : ByteArray) (a4_5 : W.Sl) (t8 : Nat) (t8_0 t8_1 t8_2 t8_3 : Int) (t8_4 : ByteArray) (t8_5 : W.Sl) (out9 : Nat) (out9_0 out9_1 out9_2 out9_3 : Int) (out9_4 : ByteArray) (out9_5 : W.Sl) (k10 : Int) (w : World) (R : W.Post) : Prop := W.LC w [(a4, [.int .i64 a4_0, .int .i64 a4_1, .int .i64 a4_2, .int .u64 a4_3, .string a4_4, a4_5.v], ty_enthymemeref06_Value), (t8, [.int .i64 t8_0, .int .i64 t8_1, .int .i64 t8_2, .int .u64 t8_3, .string t8_4, t8_5.v], ty_enthymemeref06_Value), (out9, [.int .i64 out9_0, .int .i64 out9_1, .int .i64 out9_2, .int .u64 out9_3, .string out9_4, out9_5.v], ty_enthymemeref06_Value)] → L0 index1 u2 s3 (W.at0 a4) (W.at0 t8) (W.at0 out9) k10 w R
abbrev S4T (a4 : Nat) (a4_0 a4_1 a4_2 a4_3 : Int) (a4_4 : ByteArray) (a4_5 : W.Sl) (t8 : Nat) (t8_0 t8_1 t8_2 t8_3 : Int) (t8_4 : ByteArray) (t8_5 : W.Sl) (out9 : Nat) (out9_0 out9_1 out9_2 out9_3 : Int) (out9_4 : ByteArray) (out9_5 : W.Sl) (k10 : Int) (w : World) (R : W.Post) : Prop :=
  (0 : Int) ≤ k10 ∧ k10 ≤ ((a4_5.n : Nat) : Int) ∧ W.loc [a4, t8, out9] w fun w1 => ∃ (t80 : W.Sl) (w2 : World), Sem.run Try.prog (Builtin.append_ #[ty_sl_enthymemeref06_Entry, ty_sl_enthymemeref06_Entry] ty_sl_enthymemeref06_Entry #[out9_5.v, .slice (if a4_5.c = (Int.toNat k10) then a4_5.a else a4_5.a.map (·.add ((Int.toNat k10) * 3))) (a4_5.n - (Int.toNat k10)) (a4_5.c - (Int.toNat k10))]) w1 = .ok (t80.v) w2 ∧ W.kept [a4, t8, out9] w1 w2 ∧ W.loc [a4, t8, out9] w2 fun w9 => R (.returned (.agg #[.int .i64 out9_0, .int .i64 out9_1, .int .i64 out9_2, .int .u64 out9_3, .string out9_4, t80.v])) w9
theorem S4T_ok {a4 : Nat} {a4_0 a4_1 a4_2 a4_3 : Int} {a4_4 : ByteArray} {a4_5 : W.Sl} {t8 : Nat} {t8_0 t8_1 t8_2 t8_3 : Int} {t8_4 : ByteArray} {t8_5 : W.Sl} {out9 : Nat} {out9_0 out9_1 out9_2 out9_3 : Int} {out9_4 : ByteArray} {out9_5 : W.Sl} {k10 : Int} {w : World} {R : W.Post} (h : S4T a4 a4_0 a4_1 a4_2 a4_3 a4_4 a4_5 t8 t8_0 t8_1 t8_2 t8_3 t8_4 t8_5 out9 out9_0 out9_1 out9_2 out9_3 out9_4 out9_5 k10 w R) (H : W.LC w [(a4, [.int .i64 a4_0, .int .i64 a4_1, .int .i64 a4_2, .int .u64 a4_3, .string a4_4, a4_5.v], ty_enthymemeref06_Value), (t8, [.int .i64 t8_0, .int .i64 t8_1, .int .i64 t8_2, .int .u64 t8_3, .string t8_4, t8_5.v], ty_enthymemeref06_Value), (out9, [.int .i64 out9_0, .int .i64 out9_1, .int .i64 out9_2, .int .u64 out9_3, .string out9_4, out9_5.v], ty_enthymemeref06_Value)]) : S4 (W.at0 a4) (W.at0 t8) (W.at0 out9) k10 w R := W.LC.drT H (W.Fr.refl _ _) fun w1 H f => ⟨out9_5, H.ld 2 5, ⟨a4_5, H.ld 0 5, ⟨h.1, h.2.1, have h := h.2.2; have h := h _ f; let ⟨t80, w2, he, hk, h⟩ := h; have H := W.LC.keptT H hk; ⟨t80, w2, he, ⟨H.ld 0 5, W.LC.stT H 2 5 (W.Fr.refl _ _) rfl rfl fun w3 (H : W.LC w3 [(a4, [.int .i64 a4_0, .int .i64 a4_1, .int .i64 a4_2, .int .u64 a4_3, .string a4_4, a4_5.v], ty_enthymemeref06_Value), (t8, [.int .i64 t8_0, .int .i64 t8_1, .int .i64 t8_2, .int .u64 t8_3, .string t8_4, t8_5.v], ty_enthymemeref06_Value), (out9, [.int .i64 out9_0, .int .i64 out9_1, .int .i64 out9_2, .int .u64 out9_3, .string out9_4, t80.v], ty_enthymemeref06_Value)]) (f : W.Fr (· ∈ [a4, t8, out9]) _ w3) => ⟨_, _, _, _, _, t80, H.ld 2 0, H.ld 2 1, H.ld 2 2, H.ld 2 3, H.ld 2 4, H.ld 2 5, W.LC.stT0 H 1 f rfl rfl fun w4 H f => W.LC.stT H 1 1 f rfl rfl fun w5 H f => W.LC.stT H 1 2 f rfl rfl fun w6 H f => W.LC.stT H 1 3 f rfl rfl fun w7 H f => W.LC.stT H 1 4 f rfl rfl fun w8 H f => W.LC.stT H 1 5 f rfl rfl fun w9 (H : W.LC w9 [(a4, [.int .i64 a4_0, .int .i64 a4_1, .int .i64 a4_2, .int .u64 a4_3, .string a4_4, a4_5.v], ty_enthymemeref06_Value), (t8, [.int .i64 out9_0, .int .i64 out9_1, .int .i64 out9_2, .int .u64 out9_3, .string out9_4, t80.v], ty_enthymemeref06_Value), (out9, [.int .i64 out9_0, .int .i64 out9_1, .int .i64 out9_2, .int .u64 out9_3, .string out9_4, t80.v], ty_enthymemeref06_Value)]) (f : W.Fr (· ∈ [a4, t8, out9]) _ w9) => ⟨_, _, _, _, _, t80, H.ld 1 0, H.ld 1 1, H.ld 1 2, H.ld 1 3, H.ld 1 4, H.ld 1 5, have h := h _ f; h⟩⟩⟩⟩⟩⟩⟩
abbrev S3T (index1 : Int) (a4 : Nat) (a4_0 a4_1 a4_2 a4_3 : Int) (a4_4 : ByteArray) (a4_5 : W.Sl) (t8 : Nat) (t8_0 t8_1 t8_2 t8_3 : Int) (t8_4 : ByteArray) (t8_5 : W.Sl) (out9 : Nat) (out9_0 out9_1 out9_2 out9_3 : Int) (out9_4 : ByteArray) (out9_5 : W.Sl) (k10 : Int) (w : World) (R : W.Post) : Prop :=
  W.sel (decide (k10 < ((a4_5.n : Nat) : Int))) ((0 : Int) ≤ k10 ∧ k10 < ((a4_5.n : Nat) : Int) ∧ W.optP a4_5.a fun t66_p => ∃ t68 : Int, w.cell? ((t66_p.add (Int.toNat k10 * 3)).add 0) = some (.int .u64 t68) ∧ 
  W.sel (t68 == index1) (S4T a4 a4_0 a4_1 a4_2 a4_3 a4_4 a4_5 t8 t8_0 t8_1 t8_2 t8_3 t8_4 t8_5 out9 out9_0 out9_1 out9_2 out9_3 out9_4 out9_5 (IntKind.wrap .i64 (k10 + 1)) w R) (S4T a4 a4_0 a4_1 a4_2 a4_3 a4_4 a4_5 t8 t8_0 t8_1 t8_2 t8_3 t8_4 t8_5 out9 out9_0 out9_1 out9_2 out9_3 out9_4 out9_5 k10 w R)) (S4T a4 a4_0 a4_1 a4_2 a4_3 a4_4 a4_5 t8 t8_0 t8_1 t8_2 t8_3 t8_4 t8_5 out9 out9_0 out9_1 out9_2 out9_3 out9_4 out9_5 k10 w R)
theorem S3T_ok {index1 : Int} {a4 : Nat} {a4_0 a4_1 a4_2 a4_3 : Int} {a4_4 : ByteArray} {a4_5 : W.Sl} {t8 : Nat} {t8_0 t8_1 t8_2 t8_3 : Int} {t8_4 : ByteArray} {t8_5 : W.Sl} {out9 : Nat} {out9_0 out9_1 out9_2 out9_3 : Int} {out9_4 : ByteArray} {out9_5 : W.Sl} {k10 : Int} {w : World} {R : W.Post} (h : S3T index1 a4 a4_0 a4_1 a4_2 a4_3 a4_4 a4_5 t8 t8_0 t8_1 t8_2 t8_3 t8_4 t8_5 out9 out9_0 out9_1 out9_2 out9_3 out9_4 out9_5 k10 w R) (H : W.LC w [(a4, [.int .i64 a4_0, .int .i64 a4_1, .int .i64 a4_2, .int .u64 a4_3, .string a4_4, a4_5.v], ty_enthymemeref06_Value), (t8, [.int .i64 t8_0, .int .i64 t8_1, .int .i64 t8_2, .int .u64 t8_3, .string t8_4, t8_5.v], ty_enthymemeref06_Value), (out9, [.int .i64 out9_0, .int .i64 out9_1, .int .i64 out9_2, .int .u64 out9_3, .string out9_4, out9_5.v], ty_enthymemeref06_Value)]) : S3 index1 (W.at0 a4) (W.at0 t8) (W.at0 out9) k10 w R := ⟨a4_5, H.ld 0 5, W.sel_imp h (fun h => ⟨a4_5, H.ld 0 5, ⟨h.1, h.2.1, have h := h.2.2; W.optP_imp h fun t66_p h => let ⟨t68, hc0, h⟩ := h; ⟨t68, hc0, W.sel_imp h (fun h => S4T_ok h H) (fun h => S4T_ok h H)⟩⟩⟩) (fun h => S4T_ok h H)⟩
abbrev S2T (index1 u2 : Int) (s3 : ByteArray) (a4 : Nat) (a4_0 a4_1 a4_2 a4_3 : Int) (a4_4 : ByteArray) (a4_5 : W.Sl) (t8 : Nat) (t8_0 t8_1 t8_2 t8_3 : Int) (t8_4 : ByteArray) (t8_5 : W.Sl) (out9 : Nat) (out9_0 out9_1 out9_2 out9_3 : Int) (out9_4 : ByteArray) (out9_5 : W.Sl) (k10 : Int) (w : World) (R : W.Post) : Prop :=
  W.nwV w (.cells #[.int .u64 index1, .int .u64 u2, .string s3] ty_enthymemeref06_Entry) fun w1 => 
  ∃ (t55 : W.Sl) (w2 : World), Sem.run Try.prog (Builtin.append_ #[ty_sl_enthymemeref06_Entry, ty_sl_enthymemeref06_Entry] ty_sl_enthymemeref06_Entry #[out9_5.v, .slice (some (Addr.mk w.heap.size 0 none)) 1 1]) w1 = .ok (t55.v) w2 ∧ W.kept [a4, t8, out9] w1 w2 ∧ W.loc [a4, t8, out9] w2 fun w3 => S3T index1 a4 a4_0 a4_1 a4_2 a4_3 a4_4 a4_5 t8 t8_0 t8_1 t8_2 t8_3 t8_4 t8_5 out9 out9_0 out9_1 out9_2 out9_3 out9_4 t55 k10 w3 R
theorem S2T_ok {index1 u2 : Int} {s3 : ByteArray} {a4 : Nat} {a4_0 a4_1 a4_2 a4_3 : Int} {a4_4 : ByteArray} {a4_5 : W.Sl} {t8 : Nat} {t8_0 t8_1 t8_2 t8_3 : Int} {t8_4 : ByteArray} {t8_5 : W.Sl} {out9 : Nat} {out9_0 out9_1 out9_2 out9_3 : Int} {out9_4 : ByteArray} {out9_5 : W.Sl} {k10 : Int} {w : World} {R : W.Post} (h : S2T index1 u2 s3 a4 a4_0 a4_1 a4_2 a4_3 a4_4 a4_5 t8 t8_0 t8_1 t8_2 t8_3 t8_4 t8_5 out9 out9_0 out9_1 out9_2 out9_3 out9_4 out9_5 k10 w R) (H : W.LC w [(a4, [.int .i64 a4_0, .int .i64 a4_1, .int .i64 a4_2, .int .u64 a4_3, .string a4_4, a4_5.v], ty_enthymemeref06_Value), (t8, [.int .i64 t8_0, .int .i64 t8_1, .int .i64 t8_2, .int .u64 t8_3, .string t8_4, t8_5.v], ty_enthymemeref06_Value), (out9, [.int .i64 out9_0, .int .i64 out9_1, .int .i64 out9_2, .int .u64 out9_3, .string out9_4, out9_5.v], ty_enthymemeref06_Value)]) : S2 index1 u2 s3 (W.at0 a4) (W.at0 t8) (W.at0 out9) k10 w R := ⟨out9_5, H.ld 2 5, W.LC.nwN H h fun w1 H h => let ⟨t55, w2, he, hk, h⟩ := h; have H := W.LC.keptT H hk; ⟨t55, w2, he, W.LC.stT H 2 5 (W.Fr.refl _ _) rfl rfl fun w3 (H : W.LC w3 [(a4, [.int .i64 a4_0, .int .i64 a4_1, .int .i64 a4_2, .int .u64 a4_3, .string a4_4, a4_5.v], ty_enthymemeref06_Value), (t8, [.int .i64 t8_0, .int .i64 t8_1, .int .i64 t8_2, .int .u64 t8_3, .string t8_4, t8_5.v], ty_enthymemeref06_Value), (out9, [.int .i64 out9_0, .int .i64 out9_1, .int .i64 out9_2, .int .u64 out9_3, .string out9_4, t55.v], ty_enthymemeref06_Value)]) (f : W.Fr (· ∈ [a4, t8, out9]) _ w3) => have h := h _ f; S3T_ok h H⟩⟩
abbrev S1T (index1 u2 : Int) (s3 : ByteArray) (a4 : Nat) (a4_0 a4_1 a4_2 a4_3 : Int) (a4_4 : ByteArray) (a4_5 : W.Sl) (t8 : Nat) (t8_0 t8_1 t8_2 t8_3 : Int) (t8_4 : ByteArray) (t8_5 : W.Sl) (out9 : Nat) (out9_0 out9_1 out9_2 out9_3 : Int) (out9_4 : ByteArray) (out9_5 : W.Sl) (k10 : Int) (w : World) (R : W.Post) : Prop :=
  W.sel (decide (u2 > 0)) (S2T index1 u2 s3 a4 a4_0 a4_1 a4_2 a4_3 a4_4 a4_5 t8 t8_0 t8_1 t8_2 t8_3 t8_4 t8_5 out9 out9_0 out9_1 out9_2 out9_3 out9_4 out9_5 k10 w R) (W.sel (decide (((s3.size : Nat) : Int) > 0)) (S2T index1 u2 s3 a4 a4_0 a4_1 a4_2 a4_3 a4_4 a4_5 t8 t8_0 t8_1 t8_2 t8_3 t8_4 t8_5 out9 out9_0 out9_1 out9_2 out9_3 out9_4 out9_5 k10 w R) (S3T index1 a4 a4_0 a4_1 a4_2 a4_3 a4_4 a4_5 t8 t8_0 t8_1 t8_2 t8_3 t8_4 t8_5 out9 out9_0 out9_1 out9_2 out9_3 out9_4 out9_5 k10 w R))
theorem S1T_ok {index1 u2 : Int} {s3 : ByteArray} {a4 : Nat} {a4_0 a4_1 a4_2 a4_3 : Int} {a4_4 : ByteArray} {a4_5 : W.Sl} {t8 : Nat} {t8_0 t8_1 t8_2 t8_3 : Int} {t8_4 : ByteArray} {t8_5 : W.Sl} {out9 : Nat} {out9_0 out9_1 out9_2 out9_3 : Int} {out9_4 : ByteArray} {out9_5 : W.Sl} {k10 : Int} {w : World} {R : W.Post} (h : S1T index1 u2 s3 a4 a4_0 a4_1 a4_2 a4_3 a4_4 a4_5 t8 t8_0 t8_1 t8_2 t8_3 t8_4 t8_5 out9 out9_0 out9_1 out9_2 out9_3 out9_4 out9_5 k10 w R) (H : W.LC w [(a4, [.int .i64 a4_0, .int .i64 a4_1, .int .i64 a4_2, .int .u64 a4_3, .string a4_4, a4_5.v], ty_enthymemeref06_Value), (t8, [.int .i64 t8_0, .int .i64 t8_1, .int .i64 t8_2, .int .u64 t8_3, .string t8_4, t8_5.v], ty_enthymemeref06_Value), (out9, [.int .i64 out9_0, .int .i64 out9_1, .int .i64 out9_2, .int .u64 out9_3, .string out9_4, out9_5.v], ty_enthymemeref06_Value)]) : S1 index1 u2 s3 (W.at0 a4) (W.at0 t8) (W.at0 out9) k10 w R := W.sel_imp h (fun h => S2T_ok h H) (fun h => W.sel_imp h (fun h => S2T_ok h H) (fun h => S3T_ok h H))
theorem L0T_step (index1 u2 : Int) (s3 : ByteArray) (a4 : Nat) (a4_0 a4_1 a4_2 a4_3 : Int) (a4_4 : ByteArray) (a4_5 : W.Sl) (t8 : Nat) (t8_0 t8_1 t8_2 t8_3 : Int) (t8_4 : ByteArray) (t8_5 : W.Sl) (out9 : Nat) (out9_0 out9_1 out9_2 out9_3 : Int) (out9_4 : ByteArray) (out9_5 : W.Sl) (k10 : Int) (w : World) (R : W.Post) (h : W.sel (decide (k10 < ((a4_5.n : Nat) : Int))) ((0 : Int) ≤ k10 ∧ k10 < ((a4_5.n : Nat) : Int) ∧ W.optP a4_5.a fun t23_p => ∃ t25 : Int, w.cell? ((t23_p.add (Int.toNat k10 * 3)).add 0) = some (.int .u64 t25) ∧ 
  W.sel (decide (t25 < index1)) ((0 : Int) ≤ k10 ∧ k10 < ((a4_5.n : Nat) : Int) ∧ W.optP a4_5.a fun t34_p => W.loc [a4, t8, out9] w fun w10 => ∃ t35_0 : Int, ∃ t35_1 : Int, ∃ t35_2 : ByteArray, w10.cell? ((t34_p.add (Int.toNat k10 * 3)).add 0) = some (.int .u64 t35_0) ∧ w10.cell? ((t34_p.add (Int.toNat k10 * 3)).add 1) = some (.int .u64 t35_1) ∧ w10.cell? ((t34_p.add (Int.toNat k10 * 3)).add 2) = some (.string t35_2) ∧ 
  W.nwV w10 (.cells #[.int .u64 t35_0, .int .u64 t35_1, .string t35_2] ty_enthymemeref06_Entry) fun w11 => 
  ∃ (t37 : W.Sl) (w12 : World), Sem.run Try.prog (Builtin.append_ #[ty_sl_enthymemeref06_Entry, ty_sl_enthymemeref06_Entry] ty_sl_enthymemeref06_Entry #[out9_5.v, .slice (some (Addr.mk w10.heap.size 0 none)) 1 1]) w11 = .ok (t37.v) w12 ∧ W.kept [a4, t8, out9] w11 w12 ∧ W.loc [a4, t8, out9] w12 fun w13 => L0T index1 u2 s3 a4 a4_0 a4_1 a4_2 a4_3 a4_4 a4_5 t8 t8_0 t8_1 t8_2 t8_3 t8_4 t8_5 out9 out9_0 out9_1 out9_2 out9_3 out9_4 t37 (IntKind.wrap .i64 (k10 + 1)) w13 R) (S1T index1 u2 s3 a4 a4_0 a4_1 a4_2 a4_3 a4_4 a4_5 t8 t8_0 t8_1 t8_2 t8_3 t8_4 t8_5 out9 out9_0 out9_1 out9_2 out9_3 out9_4 out9_5 k10 w R)) (S1T index1 u2 s3 a4 a4_0 a4_1 a4_2 a4_3 a4_4 a4_5 t8 t8_0 t8_1 t8_2 t8_3 t8_4 t8_5 out9 out9_0 out9_1 out9_2 out9_3 out9_4 out9_5 k10 w R)) : L0T index1 u2 s3 a4 a4_0 a4_1 a4_2 a4_3 a4_4 a4_5 t8 t8_0 t8_1 t8_2 t8_3 t8_4 t8_5 out9 out9_0 out9_1 out9_2 out9_3 out9_4 out9_5 k10 w R := fun H => L0_step _ _ _ _ _ _ _ w R (⟨a4_5, H.ld 0 5, W.sel_imp h (fun h => ⟨a4_5, H.ld 0 5, ⟨h.1, h.2.1, have h := h.2.2; W.optP_imp h fun t23_p h => let ⟨t25, hc0, h⟩ := h; ⟨t25, hc0, W.sel_imp h (fun h => W.LC.drT H (W.Fr.refl _ _) fun w10 H f => ⟨out9_5, H.ld 2 5, ⟨a4_5, H.ld 0 5, ⟨h.1, h.2.1, have h := h.2.2; W.optP_imp h fun t34_p h => have h := h _ f; let ⟨t35_0, t35_1, t35_2, hc0, hc1, hc2, h⟩ := h; ⟨t35_0, t35_1, t35_2, hc0, hc1, hc2, W.LC.nwN H h fun w11 H h => ⟨H.ld 0 5, H.ld 2 5, let ⟨t37, w12, he, hk, h⟩ := h; have H := W.LC.keptT H hk; ⟨t37, w12, he, ⟨H.ld 0 5, W.LC.stT H 2 5 (W.Fr.refl _ _) rfl rfl fun w13 (H : W.LC w13 [(a4, [.int .i64 a4_0, .int .i64 a4_1, .int .i64 a4_2, .int .u64 a4_3, .string a4_4, a4_5.v], ty_enthymemeref06_Value), (t8, [.int .i64 t8_0, .int .i64 t8_1, .int .i64 t8_2, .int .u64 t8_3, .string t8_4, t8_5.v], ty_enthymemeref06_Value), (out9, [.int .i64 out9_0, .int .i64 out9_1, .int .i64 out9_2, .int .u64 out9_3, .string out9_4, t37.v], ty_enthymemeref06_Value)]) (f : W.Fr (· ∈ [a4, t8, out9]) _ w13) => have h := h _ f; h H⟩⟩⟩⟩⟩⟩⟩) (fun h => S1T_ok h H)⟩⟩⟩) (fun h => S1T_ok h H)⟩)
theorem okT (a0_0 a0_1 a0_2 a0_3 : Int) (a0_4 : ByteArray) (a0_5 : W.Sl) (index1 u2 : Int) (s3 : ByteArray) (w : World) (R : W.Post) (h : W.newV [] w fun b4 w1 => 
  W.newV [b4] w1 fun b8 w2 => 
  W.newV [b4, b8] w2 fun b9 w3 => 
  W.loc [b4, b8, b9] w3 fun w9 => L0T index1 u2 s3 b4 a0_0 a0_1 a0_2 a0_3 a0_4 a0_5 b8 0 0 0 0 (ByteArray.mk #[]) ⟨none, 0, 0⟩ b9 a0_0 a0_1 a0_2 0 (ByteArray.mk #[]) ⟨none, 0, 0⟩ 0 w9 R) : Calls Try.prog n_enthymemeref06_Put #[.agg #[.int .i64 a0_0, .int .i64 a0_1, .int .i64 a0_2, .int .u64 a0_3, .string a0_4, a0_5.v], .int .u64 index1, .int .u64 u2, .string s3] w R :=
  ok _ _ _ _ _ _ _ _ _ w R (W.LC.nwT (W.LC.nil _) (W.Fr.refl _ _) h fun w1 H h => W.LC.nwT H (W.Fr.refl _ _) h fun w2 H h => ⟨_, _, _, H.ld 0 0, H.ld 0 1, H.ld 0 2, W.LC.nwT H (W.Fr.refl _ _) h fun w3 (H : W.LC w3 [(w.heap.size, [.int .i64 a0_0, .int .i64 a0_1, .int .i64 a0_2, .int .u64 a0_3, .string a0_4, a0_5.v], ty_enthymemeref06_Value), (w1.heap.size, [.int .i64 0, .int .i64 0, .int .i64 0, .int .u64 0, .string (ByteArray.mk #[]), .slice none 0 0], ty_enthymemeref06_Value), (w2.heap.size, [.int .i64 0, .int .i64 0, .int .i64 0, .int .u64 0, .string (ByteArray.mk #[]), .slice none 0 0], ty_enthymemeref06_Value)]) h => W.LC.stT0 H 2 (W.Fr.refl _ _) rfl rfl fun w4 H f => W.LC.stT H 2 1 f rfl rfl fun w5 H f => W.LC.stT H 2 2 f rfl rfl fun w6 H f => W.LC.stT H 2 3 f rfl rfl fun w7 H f => W.LC.stT H 2 4 f rfl rfl fun w8 H f => W.LC.stT H 2 5 f rfl rfl fun w9 (H : W.LC w9 [(w.heap.size, [.int .i64 a0_0, .int .i64 a0_1, .int .i64 a0_2, .int .u64 a0_3, .string a0_4, a0_5.v], ty_enthymemeref06_Value), (w1.heap.size, [.int .i64 0, .int .i64 0, .int .i64 0, .int .u64 0, .string (ByteArray.mk #[]), .slice none 0 0], ty_enthymemeref06_Value), (w2.heap.size, [.int .i64 a0_0, .int .i64 a0_1, .int .i64 a0_2, .int .u64 0, .string (ByteArray.mk #[]), .slice none 0 0], ty_enthymemeref06_Value)]) (f : W.Fr (· ∈ [w.heap.size, w1.heap.size, w2.heap.size]) _ w9) => have h := h _ f; h H⟩)
end enthymemeref06_Put
namespace enthymemeref06_Store
noncomputable def C0 : Code := (Try.f26.body).getD .skip
noncomputable def C1 := W.Code.snd C0
noncomputable def C2 := W.Code.snd C1
noncomputable def C3 := W.Code.snd C2
noncomputable def C4 := W.Code.snd C3
noncomputable def C5 := W.Code.snd C4
noncomputable def C6 := W.Code.snd C5
noncomputable def C7 := W.Code.fst C6
noncomputable def C8 := W.Code.snd C7
noncomputable def C9 := W.Code.fst C8
noncomputable def C10 := W.Code.snd C6
abbrev Q0 (R : W.Post) : Exit → Act → World → Prop := (Exit.then (W.wpx Try.prog (W.cx 75) C10 (bodyPost Try.prog Try.f26 R)) (bodyPost Try.prog Try.f26 R))
noncomputable def C11 := W.Code.snd C9
/-- ref.go:213 -/
abbrev S0 (t6 : Addr) (w : World) (R : W.Post) : Prop :=
  W.stV w t6 (.int .i64 0) fun w1 => 
  W.stV w1 (t6.add 1) (.int .i64 0) fun w2 => 
  W.stV w2 (t6.add 2) (.int .i64 0) fun w3 => 
  W.stV w3 (t6.add 3) (.int .u64 0) fun w4 => 
  W.stV w4 (t6.add 4) (.string (ByteArray.mk #[])) fun w5 => 
  W.stV w5 (t6.add 5) (.slice none 0 0) fun w6 => 
  ∃ r6_0 : Int, ∃ r6_1 : Int, ∃ r6_2 : Int, ∃ r6_3 : Int, ∃ r6_4 : ByteArray, ∃ r6_5 : W.Sl, w6.cell? (t6.add 0) = some (.int .i64 r6_0) ∧ w6.cell? (t6.add 1) = some (.int .i64 r6_1) ∧ w6.cell? (t6.add 2) = some (.int .i64 r6_2) ∧ w6.cell? (t6.add 3) = some (.int .u64 r6_3) ∧ w6.cell? (t6.add 4) = some (.string r6_4) ∧ w6.cell? (t6.add 5) = some (r6_5.v) ∧ 
  R (.returned (.tuple #[.agg #[.int .i64 r6_0, .int .i64 r6_1, .int .i64 r6_2, .int .u64 r6_3, .string r6_4, r6_5.v], .int .i64 9])) w6
def KE_S0 (E : W.Env) (w : World) (R : W.Post) : Prop := W.asRef (W.Env.get? E 6) fun t6 => S0 t6 w R
theorem KE_S0_ok (R : W.Post) (E : W.Env) (w : World) (h : KE_S0 E w R) : W.WP Try.prog (W.cx 75) C9 (Q0 R) E w := by
  obtain ⟨t6, hq6, h_1⟩ := W.asRef_elim h
  exact fun a ha => W.WP.at (E := [(6, .pointer (some t6))]) (W.sr C9 (K := fun E w => W.retVC Try.prog Try.f26 E w (fun v => R (.returned v) w)) (by kernel_rfl) (Eq.mp (by kernel_rfl) h_1) fun _ _ hK => (W.rt C11 (by kernel_rfl) fun a hA => W.retVC_sound hA hK)) (ha.cons hq6 ha.nil)
noncomputable def C12 := W.Code.fst C10
noncomputable def C13 := W.Code.snd C10
abbrev Q1 (R : W.Post) : Exit → Act → World → Prop := (Exit.then (W.wpx Try.prog (W.cx 75) C13 (bodyPost Try.prog Try.f26 R)) (bodyPost Try.prog Try.f26 R))
noncomputable def C14 := W.Code.snd C12
noncomputable def C15 := W.Code.fst C14
noncomputable def C16 := W.Code.snd C15
noncomputable def C17 := W.Code.snd C14
noncomputable def C18 := W.Code.snd C13
/-- ref.go:215 -/
abbrev S1 (index1 : Int) (a3 v5 t6 : Addr) (w : World) (R : W.Post) : Prop :=
  ∃ t64 : Int, w.cell? ((a3.add 0).add 2) = some (.int .i64 t64) ∧ 
  Calls Try.prog n_enthymemeref06_fits #[.int .u64 index1, .int .i64 t64] w fun r_ w1 => ∃ t65 : Bool, r_ = .returned (.bool t65) ∧ 
  W.sel (!t65) (W.stV w1 t6 (.int .i64 0) fun w2 => 
  W.stV w2 (t6.add 1) (.int .i64 0) fun w3 => 
  W.stV w3 (t6.add 2) (.int .i64 0) fun w4 => 
  W.stV w4 (t6.add 3) (.int .u64 0) fun w5 => 
  W.stV w5 (t6.add 4) (.string (ByteArray.mk #[])) fun w6 => 
  W.stV w6 (t6.add 5) (.slice none 0 0) fun w7 => 
  ∃ r6_0 : Int, ∃ r6_1 : Int, ∃ r6_2 : Int, ∃ r6_3 : Int, ∃ r6_4 : ByteArray, ∃ r6_5 : W.Sl, w7.cell? (t6.add 0) = some (.int .i64 r6_0) ∧ w7.cell? (t6.add 1) = some (.int .i64 r6_1) ∧ w7.cell? (t6.add 2) = some (.int .i64 r6_2) ∧ w7.cell? (t6.add 3) = some (.int .u64 r6_3) ∧ w7.cell? (t6.add 4) = some (.string r6_4) ∧ w7.cell? (t6.add 5) = some (r6_5.v) ∧ 
  R (.returned (.tuple #[.agg #[.int .i64 r6_0, .int .i64 r6_1, .int .i64 r6_2, .int .u64 r6_3, .string r6_4, r6_5.v], .int .i64 5])) w7) (∃ t68_0 : Int, ∃ t68_1 : Int, ∃ t68_2 : Int, ∃ t68_3 : Int, ∃ t68_4 : ByteArray, ∃ t68_5 : W.Sl, w1.cell? (a3.add 0) = some (.int .i64 t68_0) ∧ w1.cell? (a3.add 1) = some (.int .i64 t68_1) ∧ w1.cell? (a3.add 2) = some (.int .i64 t68_2) ∧ w1.cell? (a3.add 3) = some (.int .u64 t68_3) ∧ w1.cell? (a3.add 4) = some (.string t68_4) ∧ w1.cell? (a3.add 5) = some (t68_5.v) ∧ 
  ∃ t71 : Int, w1.cell? (v5.add 3) = some (.int .u64 t71) ∧ 
  ∃ t73 : ByteArray, w1.cell? (v5.add 4) = some (.string t73) ∧ 
  Calls Try.prog n_enthymemeref06_Put #[.agg #[.int .i64 t68_0, .int .i64 t68_1, .int .i64 t68_2, .int .u64 t68_3, .string t68_4, t68_5.v], .int .u64 index1, .int .u64 t71, .string t73] w1 fun r_ w8 => ∃ t74_0 : Int, ∃ t74_1 : Int, ∃ t74_2 : Int, ∃ t74_3 : Int, ∃ t74_4 : ByteArray, ∃ t74_5 : W.Sl, r_ = .returned (.agg #[.int .i64 t74_0, .int .i64 t74_1, .int .i64 t74_2, .int .u64 t74_3, .string t74_4, t74_5.v]) ∧ 
  W.stV w8 t6 (.int .i64 t74_0) fun w9 => 
  W.stV w9 (t6.add 1) (.int .i64 t74_1) fun w10 => 
  W.stV w10 (t6.add 2) (.int .i64 t74_2) fun w11 => 
  W.stV w11 (t6.add 3) (.int .u64 t74_3) fun w12 => 
  W.stV w12 (t6.add 4) (.string t74_4) fun w13 => 
  W.stV w13 (t6.add 5) (t74_5.v) fun w14 => 
  ∃ r6_0 : Int, ∃ r6_1 : Int, ∃ r6_2 : Int, ∃ r6_3 : Int, ∃ r6_4 : ByteArray, ∃ r6_5 : W.Sl, w14.cell? (t6.add 0) = some (.int .i64 r6_0) ∧ w14.cell? (t6.add 1) = some (.int .i64 r6_1) ∧ w14.cell? (t6.add 2) = some (.int .i64 r6_2) ∧ w14.cell? (t6.add 3) = some (.int .u64 r6_3) ∧ w14.cell? (t6.add 4) = some (.string r6_4) ∧ w14.cell? (t6.add 5) = some (r6_5.v) ∧ 
  R (.returned (.tuple #[.agg #[.int .i64 r6_0, .int .i64 r6_1, .int .i64 r6_2, .int .u64 r6_3, .string r6_4, r6_5.v], .int .i64 0])) w14)
def KE_S1 (E : W.Env) (w : World) (R : W.Post) : Prop := W.asInt .u64 (W.Env.get? E 1) fun index1 => W.asRef (W.Env.get? E 3) fun a3 => W.asRef (W.Env.get? E 5) fun v5 => W.asRef (W.Env.get? E 6) fun t6 => S1 index1 a3 v5 t6 w R
theorem KE_S1_ok (R : W.Post) (E : W.Env) (w : World) (h : KE_S1 E w R) : W.WP Try.prog (W.cx 75) C12 (Q1 R) E w := by
  obtain ⟨index1, hq1, h_1⟩ := W.asInt_elim h
  obtain ⟨a3, hq3, h_2⟩ := W.asRef_elim h_1
  obtain ⟨v5, hq5, h_3⟩ := W.asRef_elim h_2
  obtain ⟨t6, hq6, h_4⟩ := W.asRef_elim h_3
  exact fun a ha => W.WP.at (E := [(1, .int .u64 index1), (3, .pointer (some a3)), (5, .pointer (some v5)), (6, .pointer (some t6))]) (W.sr C12 (K := fun E w => W.condK (W.Env.val E (.tmp 66)) (W.srK Try.prog C15 (fun E w => W.retVC Try.prog Try.f26 E w (fun v => R (.returned v) w)) E w) (W.srK Try.prog C13 (fun E w => W.retVC Try.prog Try.f26 E w (fun v => R (.returned v) w)) E w)) (by kernel_rfl) (Eq.mp (by kernel_rfl) h_4) fun _ _ hK => (W.cn C14 (by kernel_rfl) hK (fun hK => (W.sr C15 (by kernel_rfl) hK fun _ _ hK => (W.rt C16 (by kernel_rfl) fun a hA => W.retVC_sound hA hK))) (fun hK => (W.sk C17 (by kernel_rfl) fun a hA => W.nx hA (W.sr C13 (by kernel_rfl) hK fun _ _ hK => (W.rt C18 (by kernel_rfl) fun a hA => W.retVC_sound hA hK)))))) (ha.cons hq1 (ha.cons hq3 (ha.cons hq5 (ha.cons hq6 ha.nil))))
/-- enthymeme/enthymemeref06.Store -/
noncomputable def C19 := W.Code.fst C2
noncomputable def C20 := W.Code.snd C19
noncomputable def C21 := W.Code.fst C20
noncomputable def C22 := W.Code.fst C4
noncomputable def C23 := W.Code.snd C22
noncomputable def C24 := W.Code.fst C23
noncomputable def C25 := W.Code.fst C5
noncomputable def C26 := W.Code.snd C25
noncomputable def C27 := W.Code.fst C26
noncomputable def C28 := W.Code.snd C21
noncomputable def C29 := W.Code.snd C20
noncomputable def C30 := W.Code.snd C24
noncomputable def C31 := W.Code.snd C23
noncomputable def C32 := W.Code.snd C27
noncomputable def C33 := W.Code.snd C26
noncomputable def C34 := W.Code.snd C8
theorem ok (a0_0 a0_1 a0_2 a0_3 : Int) (a0_4 : ByteArray) (a0_5 : W.Sl) (index1 v2_0 v2_1 v2_2 v2_3 : Int) (v2_4 : ByteArray) (v2_5 : W.Sl) (w : World) (R : W.Post) (h : W.nwV w (.cells #[.int .i64 a0_0, .int .i64 a0_1, .int .i64 a0_2, .int .u64 a0_3, .string a0_4, a0_5.v] ty_enthymemeref06_Value) fun w1 => 
  W.nwV w1 (.cells #[.int .i64 v2_0, .int .i64 v2_1, .int .i64 v2_2, .int .u64 v2_3, .string v2_4, v2_5.v] ty_enthymemeref06_Value) fun w2 => 
  W.nwV w2 (.cells #[.int .i64 0, .int .i64 0, .int .i64 0, .int .u64 0, .string (ByteArray.mk #[]), .slice none 0 0] ty_enthymemeref06_Value) fun w3 => 
  ∃ t10_0 : Int, ∃ t10_1 : Int, ∃ t10_2 : Int, ∃ t10_3 : Int, ∃ t10_4 : ByteArray, ∃ t10_5 : W.Sl, w3.cell? ((Addr.mk w.heap.size 0 none).add 0) = some (.int .i64 t10_0) ∧ w3.cell? ((Addr.mk w.heap.size 0 none).add 1) = some (.int .i64 t10_1) ∧ w3.cell? ((Addr.mk w.heap.size 0 none).add 2) = some (.int .i64 t10_2) ∧ w3.cell? ((Addr.mk w.heap.size 0 none).add 3) = some (.int .u64 t10_3) ∧ w3.cell? ((Addr.mk w.heap.size 0 none).add 4) = some (.string t10_4) ∧ w3.cell? ((Addr.mk w.heap.size 0 none).add 5) = some (t10_5.v) ∧ 
  Calls Try.prog n_enthymemeref06_Valid #[.agg #[.int .i64 t10_0, .int .i64 t10_1, .int .i64 t10_2, .int .u64 t10_3, .string t10_4, t10_5.v]] w3 fun r_ w4 => ∃ t11 : Int, r_ = .returned (.int .i64 t11) ∧ 
  W.sel (t11 != 0) (W.stV w4 (Addr.mk w2.heap.size 0 none) (.int .i64 0) fun w5 => 
  W.stV w5 ((Addr.mk w2.heap.size 0 none).add 1) (.int .i64 0) fun w6 => 
  W.stV w6 ((Addr.mk w2.heap.size 0 none).add 2) (.int .i64 0) fun w7 => 
  W.stV w7 ((Addr.mk w2.heap.size 0 none).add 3) (.int .u64 0) fun w8 => 
  W.stV w8 ((Addr.mk w2.heap.size 0 none).add 4) (.string (ByteArray.mk #[])) fun w9 => 
  W.stV w9 ((Addr.mk w2.heap.size 0 none).add 5) (.slice none 0 0) fun w10 => 
  ∃ r6_0 : Int, ∃ r6_1 : Int, ∃ r6_2 : Int, ∃ r6_3 : Int, ∃ r6_4 : ByteArray, ∃ r6_5 : W.Sl, w10.cell? ((Addr.mk w2.heap.size 0 none).add 0) = some (.int .i64 r6_0) ∧ w10.cell? ((Addr.mk w2.heap.size 0 none).add 1) = some (.int .i64 r6_1) ∧ w10.cell? ((Addr.mk w2.heap.size 0 none).add 2) = some (.int .i64 r6_2) ∧ w10.cell? ((Addr.mk w2.heap.size 0 none).add 3) = some (.int .u64 r6_3) ∧ w10.cell? ((Addr.mk w2.heap.size 0 none).add 4) = some (.string r6_4) ∧ w10.cell? ((Addr.mk w2.heap.size 0 none).add 5) = some (r6_5.v) ∧ 
  R (.returned (.tuple #[.agg #[.int .i64 r6_0, .int .i64 r6_1, .int .i64 r6_2, .int .u64 r6_3, .string r6_4, r6_5.v], .int .i64 t11])) w10) (∃ t16_0 : Int, ∃ t16_1 : Int, ∃ t16_2 : Int, ∃ t16_3 : Int, ∃ t16_4 : ByteArray, ∃ t16_5 : W.Sl, w4.cell? ((Addr.mk w1.heap.size 0 none).add 0) = some (.int .i64 t16_0) ∧ w4.cell? ((Addr.mk w1.heap.size 0 none).add 1) = some (.int .i64 t16_1) ∧ w4.cell? ((Addr.mk w1.heap.size 0 none).add 2) = some (.int .i64 t16_2) ∧ w4.cell? ((Addr.mk w1.heap.size 0 none).add 3) = some (.int .u64 t16_3) ∧ w4.cell? ((Addr.mk w1.heap.size 0 none).add 4) = some (.string t16_4) ∧ w4.cell? ((Addr.mk w1.heap.size 0 none).add 5) = some (t16_5.v) ∧ 
  Calls Try.prog n_enthymemeref06_Valid #[.agg #[.int .i64 t16_0, .int .i64 t16_1, .int .i64 t16_2, .int .u64 t16_3, .string t16_4, t16_5.v]] w4 fun r_ w11 => ∃ t17 : Int, r_ = .returned (.int .i64 t17) ∧ 
  W.sel (t17 != 0) (W.stV w11 (Addr.mk w2.heap.size 0 none) (.int .i64 0) fun w12 => 
  W.stV w12 ((Addr.mk w2.heap.size 0 none).add 1) (.int .i64 0) fun w13 => 
  W.stV w13 ((Addr.mk w2.heap.size 0 none).add 2) (.int .i64 0) fun w14 => 
  W.stV w14 ((Addr.mk w2.heap.size 0 none).add 3) (.int .u64 0) fun w15 => 
  W.stV w15 ((Addr.mk w2.heap.size 0 none).add 4) (.string (ByteArray.mk #[])) fun w16 => 
  W.stV w16 ((Addr.mk w2.heap.size 0 none).add 5) (.slice none 0 0) fun w17 => 
  ∃ r6_0 : Int, ∃ r6_1 : Int, ∃ r6_2 : Int, ∃ r6_3 : Int, ∃ r6_4 : ByteArray, ∃ r6_5 : W.Sl, w17.cell? ((Addr.mk w2.heap.size 0 none).add 0) = some (.int .i64 r6_0) ∧ w17.cell? ((Addr.mk w2.heap.size 0 none).add 1) = some (.int .i64 r6_1) ∧ w17.cell? ((Addr.mk w2.heap.size 0 none).add 2) = some (.int .i64 r6_2) ∧ w17.cell? ((Addr.mk w2.heap.size 0 none).add 3) = some (.int .u64 r6_3) ∧ w17.cell? ((Addr.mk w2.heap.size 0 none).add 4) = some (.string r6_4) ∧ w17.cell? ((Addr.mk w2.heap.size 0 none).add 5) = some (r6_5.v) ∧ 
  R (.returned (.tuple #[.agg #[.int .i64 r6_0, .int .i64 r6_1, .int .i64 r6_2, .int .u64 r6_3, .string r6_4, r6_5.v], .int .i64 t17])) w17) (∃ t23_0 : Int, ∃ t23_1 : Int, ∃ t23_2 : Int, w11.cell? (((Addr.mk w.heap.size 0 none).add 0).add 0) = some (.int .i64 t23_0) ∧ w11.cell? (((Addr.mk w.heap.size 0 none).add 0).add 1) = some (.int .i64 t23_1) ∧ w11.cell? (((Addr.mk w.heap.size 0 none).add 0).add 2) = some (.int .i64 t23_2) ∧ 
  Calls Try.prog n_enthymemeref06_Array #[.agg #[.int .i64 t23_0, .int .i64 t23_1, .int .i64 t23_2]] w11 fun r_ w18 => ∃ t24 : Bool, r_ = .returned (.bool t24) ∧ 
  W.sel (!t24) (W.stV w18 (Addr.mk w2.heap.size 0 none) (.int .i64 0) fun w19 => 
  W.stV w19 ((Addr.mk w2.heap.size 0 none).add 1) (.int .i64 0) fun w20 => 
  W.stV w20 ((Addr.mk w2.heap.size 0 none).add 2) (.int .i64 0) fun w21 => 
  W.stV w21 ((Addr.mk w2.heap.size 0 none).add 3) (.int .u64 0) fun w22 => 
  W.stV w22 ((Addr.mk w2.heap.size 0 none).add 4) (.string (ByteArray.mk #[])) fun w23 => 
  W.stV w23 ((Addr.mk w2.heap.size 0 none).add 5) (.slice none 0 0) fun w24 => 
  ∃ r6_0 : Int, ∃ r6_1 : Int, ∃ r6_2 : Int, ∃ r6_3 : Int, ∃ r6_4 : ByteArray, ∃ r6_5 : W.Sl, w24.cell? ((Addr.mk w2.heap.size 0 none).add 0) = some (.int .i64 r6_0) ∧ w24.cell? ((Addr.mk w2.heap.size 0 none).add 1) = some (.int .i64 r6_1) ∧ w24.cell? ((Addr.mk w2.heap.size 0 none).add 2) = some (.int .i64 r6_2) ∧ w24.cell? ((Addr.mk w2.heap.size 0 none).add 3) = some (.int .u64 r6_3) ∧ w24.cell? ((Addr.mk w2.heap.size 0 none).add 4) = some (.string r6_4) ∧ w24.cell? ((Addr.mk w2.heap.size 0 none).add 5) = some (r6_5.v) ∧ 
  R (.returned (.tuple #[.agg #[.int .i64 r6_0, .int .i64 r6_1, .int .i64 r6_2, .int .u64 r6_3, .string r6_4, r6_5.v], .int .i64 9])) w24) (W.drV w18 fun w25 => ∃ t29 : Int, w25.cell? (((Addr.mk w.heap.size 0 none).add 0).add 0) = some (.int .i64 t29) ∧ 
  W.sel (t29 == 2) (∃ t33_0 : Int, ∃ t33_1 : Int, ∃ t33_2 : Int, w25.cell? (((Addr.mk w1.heap.size 0 none).add 0).add 0) = some (.int .i64 t33_0) ∧ w25.cell? (((Addr.mk w1.heap.size 0 none).add 0).add 1) = some (.int .i64 t33_1) ∧ w25.cell? (((Addr.mk w1.heap.size 0 none).add 0).add 2) = some (.int .i64 t33_2) ∧ 
  ∃ t35_0 : Int, ∃ t35_1 : Int, ∃ t35_2 : Int, w25.cell? (((Addr.mk w.heap.size 0 none).add 0).add 0) = some (.int .i64 t35_0) ∧ w25.cell? (((Addr.mk w.heap.size 0 none).add 0).add 1) = some (.int .i64 t35_1) ∧ w25.cell? (((Addr.mk w.heap.size 0 none).add 0).add 2) = some (.int .i64 t35_2) ∧ 
  Calls Try.prog n_enthymemeref06_Element #[.agg #[.int .i64 t35_0, .int .i64 t35_1, .int .i64 t35_2]] w25 fun r_ w26 => ∃ t36_0 : Int, ∃ t36_1 : Int, ∃ t36_2 : Int, r_ = .returned (.agg #[.int .i64 t36_0, .int .i64 t36_1, .int .i64 t36_2]) ∧ 
  w26.cell? (((Addr.mk w1.heap.size 0 none).add 0).add 0) = some (.int .i64 t33_0) ∧ w26.cell? (((Addr.mk w1.heap.size 0 none).add 0).add 1) = some (.int .i64 t33_1) ∧ w26.cell? (((Addr.mk w1.heap.size 0 none).add 0).add 2) = some (.int .i64 t33_2) ∧ w26.cell? (((Addr.mk w.heap.size 0 none).add 0).add 0) = some (.int .i64 t29) ∧ W.sel (!((t33_0 == t36_0) && ((t33_1 == t36_1) && ((t33_2 == t36_2) && true)))) (S0 (Addr.mk w2.heap.size 0 none) w26 R) (∃ t42 : Int, w26.cell? (((Addr.mk w.heap.size 0 none).add 0).add 0) = some (.int .i64 t42) ∧ 
  W.sel (t42 == 3) (∃ t47 : Int, w26.cell? (((Addr.mk w1.heap.size 0 none).add 0).add 0) = some (.int .i64 t47) ∧ 
  W.sel (t47 != 1) (S0 (Addr.mk w2.heap.size 0 none) w26 R) (∃ t52 : Int, w26.cell? (((Addr.mk w1.heap.size 0 none).add 0).add 1) = some (.int .i64 t52) ∧ 
  ∃ t55 : Int, w26.cell? (((Addr.mk w.heap.size 0 none).add 0).add 1) = some (.int .i64 t55) ∧ 
  W.sel (decide (t52 > t55)) (S0 (Addr.mk w2.heap.size 0 none) w26 R) (S1 index1 (Addr.mk w.heap.size 0 none) (Addr.mk w1.heap.size 0 none) (Addr.mk w2.heap.size 0 none) w26 R))) (S1 index1 (Addr.mk w.heap.size 0 none) (Addr.mk w1.heap.size 0 none) (Addr.mk w2.heap.size 0 none) w26 R))) (∃ t42_x1 : Int, w25.cell? (((Addr.mk w.heap.size 0 none).add 0).add 0) = some (.int .i64 t42_x1) ∧ 
  W.sel (t42_x1 == 3) (∃ t47_x1 : Int, w25.cell? (((Addr.mk w1.heap.size 0 none).add 0).add 0) = some (.int .i64 t47_x1) ∧ 
  W.sel (t47_x1 != 1) (S0 (Addr.mk w2.heap.size 0 none) w25 R) (∃ t52_x1 : Int, w25.cell? (((Addr.mk w1.heap.size 0 none).add 0).add 1) = some (.int .i64 t52_x1) ∧ 
  ∃ t55_x1 : Int, w25.cell? (((Addr.mk w.heap.size 0 none).add 0).add 1) = some (.int .i64 t55_x1) ∧ 
  W.sel (decide (t52_x1 > t55_x1)) (S0 (Addr.mk w2.heap.size 0 none) w25 R) (S1 index1 (Addr.mk w.heap.size 0 none) (Addr.mk w1.heap.size 0 none) (Addr.mk w2.heap.size 0 none) w25 R))) (S1 index1 (Addr.mk w.heap.size 0 none) (Addr.mk w1.heap.size 0 none) (Addr.mk w2.heap.size 0 none) w25 R)))))) : Calls Try.prog n_enthymemeref06_Store #[.agg #[.int .i64 a0_0, .int .i64 a0_1, .int .i64 a0_2, .int .u64 a0_3, .string a0_4, a0_5.v], .int .u64 index1, .agg #[.int .i64 v2_0, .int .i64 v2_1, .int .i64 v2_2, .int .u64 v2_3, .string v2_4, v2_5.v]] w R :=
  W.calls_of_WP' (R := R) (fn := Try.f26) (c := C0) (args := [.agg #[.int .i64 a0_0, .int .i64 a0_1, .int .i64 a0_2, .int .u64 a0_3, .string a0_4, a0_5.v], .int .u64 index1, .agg #[.int .i64 v2_0, .int .i64 v2_1, .int .i64 v2_2, .int .u64 v2_3, .string v2_4, v2_5.v]]) (by kernel_rfl) (by kernel_rfl) (by kernel_rfl) (W.sr C0 (by kernel_rfl) (show (fun (E : W.Env) (w : World) => W.srK Try.prog C0 (fun E w => W.srK Try.prog C1 (fun E w => W.srK Try.prog C19 (fun E w => W.condK (W.Env.val E (.tmp 13)) (W.srK Try.prog C21 (fun E w => W.retVC Try.prog Try.f26 E w (fun v => R (.returned v) w)) E w) (W.srK Try.prog C3 (fun E w => W.srK Try.prog C22 (fun E w => W.condK (W.Env.val E (.tmp 19)) (W.srK Try.prog C24 (fun E w => W.retVC Try.prog Try.f26 E w (fun v => R (.returned v) w)) E w) (W.srK Try.prog C25 (fun E w => W.condK (W.Env.val E (.tmp 25)) (W.srK Try.prog C27 (fun E w => W.retVC Try.prog Try.f26 E w (fun v => R (.returned v) w)) E w) (W.sdK Try.prog C7 [0, 1, 2, 3, 4, 5, 6, 7, 8, 9, 10, 11, 12, 13, 14, 15, 16, 17, 18, 19, 20, 21, 22, 23, 24, 25, 26, 27, 28, 29, 30, 31, 32] (fun E w => W.condK (W.Env.val E (.tmp 59)) (KE_S0 E w R) (KE_S1 E w R)) E w)) E w)) E w) E w)) E w) E w) E w) (W.envOf 0 [.agg #[.int .i64 a0_0, .int .i64 a0_1, .int .i64 a0_2, .int .u64 a0_3, .string a0_4, a0_5.v], .int .u64 index1, .agg #[.int .i64 v2_0, .int .i64 v2_1, .int .i64 v2_2, .int .u64 v2_3, .string v2_4, v2_5.v]]) w from Eq.mp (by kernel_rfl) h) fun _ _ hK => (W.sr C1 (by kernel_rfl) hK fun _ _ hK => (W.sq C2 (by kernel_rfl) (W.sr C19 (by kernel_rfl) hK fun _ _ hK => (W.cn C20 (by kernel_rfl) hK (fun hK => (W.sr C21 (by kernel_rfl) hK fun _ _ hK => (W.rt C28 (by kernel_rfl) fun a hA => W.retVC_sound hA hK))) (fun hK => (W.sk C29 (by kernel_rfl) fun a hA => W.nx hA (W.sr C3 (by kernel_rfl) hK fun _ _ hK => (W.sq C4 (by kernel_rfl) (W.sr C22 (by kernel_rfl) hK fun _ _ hK => (W.cn C23 (by kernel_rfl) hK (fun hK => (W.sr C24 (by kernel_rfl) hK fun _ _ hK => (W.rt C30 (by kernel_rfl) fun a hA => W.retVC_sound hA hK))) (fun hK => (W.sk C31 (by kernel_rfl) fun a hA => W.nx hA (W.sq C5 (by kernel_rfl) (W.sr C25 (by kernel_rfl) hK fun _ _ hK => (W.cn C26 (by kernel_rfl) hK (fun hK => (W.sr C27 (by kernel_rfl) hK fun _ _ hK => (W.rt C32 (by kernel_rfl) fun a hA => W.retVC_sound hA hK))) (fun hK => (W.sk C33 (by kernel_rfl) fun a hA => W.nx hA (W.sq C6 (by kernel_rfl) (W.sd C7 (by kernel_rfl) hK fun _ _ hK => (W.cn C8 (by kernel_rfl) hK (fun hK => (KE_S0_ok R _ _ hK)) (fun hK => (W.sk C34 (by kernel_rfl) fun a hA => W.nx hA (W.sq C10 (by kernel_rfl) (KE_S1_ok R _ _ hK)))))))))))))))))))))))))
abbrev S0T (t6 : Nat) (t6_0 t6_1 t6_2 t6_3 : Int) (t6_4 : ByteArray) (t6_5 : W.Sl) (w : World) (R : W.Post) : Prop :=
  W.loc [t6] w fun w6 => R (.returned (.tuple #[.agg #[.int .i64 0, .int .i64 0, .int .i64 0, .int .u64 0, .string (ByteArray.mk #[]), .slice none 0 0], .int .i64 9])) w6
theorem S0T_ok {t6 : Nat} {t6_0 t6_1 t6_2 t6_3 : Int} {t6_4 : ByteArray} {t6_5 : W.Sl} {w : World} {R : W.Post} (h : S0T t6 t6_0 t6_1 t6_2 t6_3 t6_4 t6_5 w R) (H : W.LC w [(t6, [.int .i64 t6_0, .int .i64 t6_1, .int .i64 t6_2, .int .u64 t6_3, .string t6_4, t6_5.v], ty_enthymemeref06_Value)]) : S0 (W.at0 t6) w R := W.LC.stT0 H 0 (W.Fr.refl _ _) rfl rfl fun w1 H f => W.LC.stT H 0 1 f rfl rfl fun w2 H f => W.LC.stT H 0 2 f rfl rfl fun w3 H f => W.LC.stT H 0 3 f rfl rfl fun w4 H f => W.LC.stT H 0 4 f rfl rfl fun w5 H f => W.LC.stT H 0 5 f rfl rfl fun w6 (H : W.LC w6 [(t6, [.int .i64 0, .int .i64 0, .int .i64 0, .int .u64 0, .string (ByteArray.mk #[]), .slice none 0 0], ty_enthymemeref06_Value)]) (f : W.Fr (· ∈ [t6]) _ w6) => ⟨_, _, _, _, _, ⟨none, 0, 0⟩, H.ld 0 0, H.ld 0 1, H.ld 0 2, H.ld 0 3, H.ld 0 4, H.ld 0 5, have h := h _ f; h⟩
abbrev S1T (index1 : Int) (a3 : Nat) (a3_0 a3_1 a3_2 a3_3 : Int) (a3_4 : ByteArray) (a3_5 : W.Sl) (v5 : Nat) (v5_0 v5_1 v5_2 v5_3 : Int) (v5_4 : ByteArray) (v5_5 : W.Sl) (t6 : Nat) (t6_0 t6_1 t6_2 t6_3 : Int) (t6_4 : ByteArray) (t6_5 : W.Sl) (w : World) (R : W.Post) : Prop :=
  W.callF [a3, v5, t6] Try.prog n_enthymemeref06_fits #[.int .u64 index1, .int .i64 a3_2] w fun r_ w1 => ∃ t65 : Bool, r_ = .returned (.bool t65) ∧ 
  W.sel (!t65) (W.loc [a3, v5, t6] w1 fun w7 => R (.returned (.tuple #[.agg #[.int .i64 0, .int .i64 0, .int .i64 0, .int .u64 0, .string (ByteArray.mk #[]), .slice none 0 0], .int .i64 5])) w7) (W.callF [a3, v5, t6] Try.prog n_enthymemeref06_Put #[.agg #[.int .i64 a3_0, .int .i64 a3_1, .int .i64 a3_2, .int .u64 a3_3, .string a3_4, a3_5.v], .int .u64 index1, .int .u64 v5_3, .string v5_4] w1 fun r_ w8 => ∃ t74_0 : Int, ∃ t74_1 : Int, ∃ t74_2 : Int, ∃ t74_3 : Int, ∃ t74_4 : ByteArray, ∃ t74_5 : W.Sl, r_ = .returned (.agg #[.int .i64 t74_0, .int .i64 t74_1, .int .i64 t74_2, .int .u64 t74_3, .string t74_4, t74_5.v]) ∧ 
  W.loc [a3, v5, t6] w8 fun w14 => R (.returned (.tuple #[.agg #[.int .i64 t74_0, .int .i64 t74_1, .int .i64 t74_2, .int .u64 t74_3, .string t74_4, t74_5.v], .int .i64 0])) w14)
theorem S1T_ok {index1 : Int} {a3 : Nat} {a3_0 a3_1 a3_2 a3_3 : Int} {a3_4 : ByteArray} {a3_5 : W.Sl} {v5 : Nat} {v5_0 v5_1 v5_2 v5_3 : Int} {v5_4 : ByteArray} {v5_5 : W.Sl} {t6 : Nat} {t6_0 t6_1 t6_2 t6_3 : Int} {t6_4 : ByteArray} {t6_5 : W.Sl} {w : World} {R : W.Post} (h : S1T index1 a3 a3_0 a3_1 a3_2 a3_3 a3_4 a3_5 v5 v5_0 v5_1 v5_2 v5_3 v5_4 v5_5 t6 t6_0 t6_1 t6_2 t6_3 t6_4 t6_5 w R) (H : W.LC w [(a3, [.int .i64 a3_0, .int .i64 a3_1, .int .i64 a3_2, .int .u64 a3_3, .string a3_4, a3_5.v], ty_enthymemeref06_Value), (v5, [.int .i64 v5_0, .int .i64 v5_1, .int .i64 v5_2, .int .u64 v5_3, .string v5_4, v5_5.v], ty_enthymemeref06_Value), (t6, [.int .i64 t6_0, .int .i64 t6_1, .int .i64 t6_2, .int .u64 t6_3, .string t6_4, t6_5.v], ty_enthymemeref06_Value)]) : S1 index1 (W.at0 a3) (W.at0 v5) (W.at0 t6) w R := ⟨_, H.ld 0 2, W.LC.callT H h fun r_ w1 H h => let ⟨t65, hr, h⟩ := h; ⟨t65, hr, W.sel_imp h (fun h => W.LC.stT0 H 2 (W.Fr.refl _ _) rfl rfl fun w2 H f => W.LC.stT H 2 1 f rfl rfl fun w3 H f => W.LC.stT H 2 2 f rfl rfl fun w4 H f => W.LC.stT H 2 3 f rfl rfl fun w5 H f => W.LC.stT H 2 4 f rfl rfl fun w6 H f => W.LC.stT H 2 5 f rfl rfl fun w7 (H : W.LC w7 [(a3, [.int .i64 a3_0, .int .i64 a3_1, .int .i64 a3_2, .int .u64 a3_3, .string a3_4, a3_5.v], ty_enthymemeref06_Value), (v5, [.int .i64 v5_0, .int .i64 v5_1, .int .i64 v5_2, .int .u64 v5_3, .string v5_4, v5_5.v], ty_enthymemeref06_Value), (t6, [.int .i64 0, .int .i64 0, .int .i64 0, .int .u64 0, .string (ByteArray.mk #[]), .slice none 0 0], ty_enthymemeref06_Value)]) (f : W.Fr (· ∈ [a3, v5, t6]) _ w7) => ⟨_, _, _, _, _, ⟨none, 0, 0⟩, H.ld 2 0, H.ld 2 1, H.ld 2 2, H.ld 2 3, H.ld 2 4, H.ld 2 5, have h := h _ f; h⟩) (fun h => ⟨_, _, _, _, _, a3_5, H.ld 0 0, H.ld 0 1, H.ld 0 2, H.ld 0 3, H.ld 0 4, H.ld 0 5, ⟨_, H.ld 1 3, ⟨_, H.ld 1 4, W.LC.callT H h fun r_ w8 H h => let ⟨t74_0, t74_1, t74_2, t74_3, t74_4, t74_5, hr, h⟩ := h; ⟨t74_0, t74_1, t74_2, t74_3, t74_4, t74_5, hr, W.LC.stT0 H 2 (W.Fr.refl _ _) rfl rfl fun w9 H f => W.LC.stT H 2 1 f rfl rfl fun w10 H f => W.LC.stT H 2 2 f rfl rfl fun w11 H f => W.LC.stT H 2 3 f rfl rfl fun w12 H f => W.LC.stT H 2 4 f rfl rfl fun w13 H f => W.LC.stT H 2 5 f rfl rfl fun w14 (H : W.LC w14 [(a3, [.int .i64 a3_0, .int .i64 a3_1, .int .i64 a3_2, .int .u64 a3_3, .string a3_4, a3_5.v], ty_enthymemeref06_Value), (v5, [.int .i64 v5_0, .int .i64 v5_1, .int .i64 v5_2, .int .u64 v5_3, .string v5_4, v5_5.v], ty_enthymemeref06_Value), (t6, [.int .i64 t74_0, .int .i64 t74_1, .int .i64 t74_2, .int .u64 t74_3, .string t74_4, t74_5.v], ty_enthymemeref06_Value)]) (f : W.Fr (· ∈ [a3, v5, t6]) _ w14) => ⟨_, _, _, _, _, t74_5, H.ld 2 0, H.ld 2 1, H.ld 2 2, H.ld 2 3, H.ld 2 4, H.ld 2 5, have h := h _ f; h⟩⟩⟩⟩⟩)⟩⟩
theorem okT (a0_0 a0_1 a0_2 a0_3 : Int) (a0_4 : ByteArray) (a0_5 : W.Sl) (index1 v2_0 v2_1 v2_2 v2_3 : Int) (v2_4 : ByteArray) (v2_5 : W.Sl) (w : World) (R : W.Post) (h : W.newV [] w fun b3 w1 => 
  W.newV [b3] w1 fun b5 w2 => 
  W.newV [b3, b5] w2 fun b6 w3 => 
  W.callF [b3, b5, b6] Try.prog n_enthymemeref06_Valid #[.agg #[.int .i64 a0_0, .int .i64 a0_1, .int .i64 a0_2, .int .u64 a0_3, .string a0_4, a0_5.v]] w3 fun r_ w4 => ∃ t11 : Int, r_ = .returned (.int .i64 t11) ∧ 
  W.sel (t11 != 0) (W.loc [b3, b5, b6] w4 fun w10 => R (.returned (.tuple #[.agg #[.int .i64 0, .int .i64 0, .int .i64 0, .int .u64 0, .string (ByteArray.mk #[]), .slice none 0 0], .int .i64 t11])) w10) (W.callF [b3, b5, b6] Try.prog n_enthymemeref06_Valid #[.agg #[.int .i64 v2_0, .int .i64 v2_1, .int .i64 v2_2, .int .u64 v2_3, .string v2_4, v2_5.v]] w4 fun r_ w11 => ∃ t17 : Int, r_ = .returned (.int .i64 t17) ∧ 
  W.sel (t17 != 0) (W.loc [b3, b5, b6] w11 fun w17 => R (.returned (.tuple #[.agg #[.int .i64 0, .int .i64 0, .int .i64 0, .int .u64 0, .string (ByteArray.mk #[]), .slice none 0 0], .int .i64 t17])) w17) (W.callF [b3, b5, b6] Try.prog n_enthymemeref06_Array #[.agg #[.int .i64 a0_0, .int .i64 a0_1, .int .i64 a0_2]] w11 fun r_ w18 => ∃ t24 : Bool, r_ = .returned (.bool t24) ∧ 
  W.sel (!t24) (W.loc [b3, b5, b6] w18 fun w24 => R (.returned (.tuple #[.agg #[.int .i64 0, .int .i64 0, .int .i64 0, .int .u64 0, .string (ByteArray.mk #[]), .slice none 0 0], .int .i64 9])) w24) (W.sel (a0_0 == 2) (W.loc [b3, b5, b6] w18 fun w25 => W.callF [b3, b5, b6] Try.prog n_enthymemeref06_Element #[.agg #[.int .i64 a0_0, .int .i64 a0_1, .int .i64 a0_2]] w25 fun r_ w26 => ∃ t36_0 : Int, ∃ t36_1 : Int, ∃ t36_2 : Int, r_ = .returned (.agg #[.int .i64 t36_0, .int .i64 t36_1, .int .i64 t36_2]) ∧ 
  W.sel (!((v2_0 == t36_0) && ((v2_1 == t36_1) && ((v2_2 == t36_2) && true)))) (S0T b6 0 0 0 0 (ByteArray.mk #[]) ⟨none, 0, 0⟩ w26 R) (W.sel (a0_0 == 3) (W.sel (v2_0 != 1) (S0T b6 0 0 0 0 (ByteArray.mk #[]) ⟨none, 0, 0⟩ w26 R) (W.sel (decide (v2_1 > a0_1)) (S0T b6 0 0 0 0 (ByteArray.mk #[]) ⟨none, 0, 0⟩ w26 R) (S1T index1 b3 a0_0 a0_1 a0_2 a0_3 a0_4 a0_5 b5 v2_0 v2_1 v2_2 v2_3 v2_4 v2_5 b6 0 0 0 0 (ByteArray.mk #[]) ⟨none, 0, 0⟩ w26 R))) (S1T index1 b3 a0_0 a0_1 a0_2 a0_3 a0_4 a0_5 b5 v2_0 v2_1 v2_2 v2_3 v2_4 v2_5 b6 0 0 0 0 (ByteArray.mk #[]) ⟨none, 0, 0⟩ w26 R))) (W.sel (a0_0 == 3) (W.sel (v2_0 != 1) (W.loc [b3, b5, b6] w18 fun w25 => S0T b6 0 0 0 0 (ByteArray.mk #[]) ⟨none, 0, 0⟩ w25 R) (W.sel (decide (v2_1 > a0_1)) (W.loc [b3, b5, b6] w18 fun w25 => S0T b6 0 0 0 0 (ByteArray.mk #[]) ⟨none, 0, 0⟩ w25 R) (W.loc [b3, b5, b6] w18 fun w25 => S1T index1 b3 a0_0 a0_1 a0_2 a0_3 a0_4 a0_5 b5 v2_0 v2_1 v2_2 v2_3 v2_4 v2_5 b6 0 0 0 0 (ByteArray.mk #[]) ⟨none, 0, 0⟩ w25 R))) (W.loc [b3, b5, b6] w18 fun w25 => S1T index1 b3 a0_0 a0_1 a0_2 a0_3 a0_4 a0_5 b5 v2_0 v2_1 v2_2 v2_3 v2_4 v2_5 b6 0 0 0 0 (ByteArray.mk #[]) ⟨none, 0, 0⟩ w25 R)))))) : Calls Try.prog n_enthymemeref06_Store #[.agg #[.int .i64 a0_0, .int .i64 a0_1, .int .i64 a0_2, .int .u64 a0_3, .string a0_4, a0_5.v], .int .u64 index1, .agg #[.int .i64 v2_0, .int .i64 v2_1, .int .i64 v2_2, .int .u64 v2_3, .string v2_4, v2_5.v]] w R :=
  ok _ _ _ _ _ _ _ _ _ _ _ _ _ w R (W.LC.nwT (W.LC.nil _) (W.Fr.refl _ _) h fun w1 H h => W.LC.nwT H (W.Fr.refl _ _) h fun w2 H h => W.LC.nwT H (W.Fr.refl _ _) h fun w3 (H : W.LC w3 [(w.heap.size, [.int .i64 a0_0, .int .i64 a0_1, .int .i64 a0_2, .int .u64 a0_3, .string a0_4, a0_5.v], ty_enthymemeref06_Value), (w1.heap.size, [.int .i64 v2_0, .int .i64 v2_1, .int .i64 v2_2, .int .u64 v2_3, .string v2_4, v2_5.v], ty_enthymemeref06_Value), (w2.heap.size, [.int .i64 0, .int .i64 0, .int .i64 0, .int .u64 0, .string (ByteArray.mk #[]), .slice none 0 0], ty_enthymemeref06_Value)]) h => ⟨_, _, _, _, _, a0_5, H.ld 0 0, H.ld 0 1, H.ld 0 2, H.ld 0 3, H.ld 0 4, H.ld 0 5, W.LC.callT H h fun r_ w4 H h => let ⟨t11, hr, h⟩ := h; ⟨t11, hr, W.sel_imp h (fun h => W.LC.stT0 H 2 (W.Fr.refl _ _) rfl rfl fun w5 H f => W.LC.stT H 2 1 f rfl rfl fun w6 H f => W.LC.stT H 2 2 f rfl rfl fun w7 H f => W.LC.stT H 2 3 f rfl rfl fun w8 H f => W.LC.stT H 2 4 f rfl rfl fun w9 H f => W.LC.stT H 2 5 f rfl rfl fun w10 (H : W.LC w10 [(w.heap.size, [.int .i64 a0_0, .int .i64 a0_1, .int .i64 a0_2, .int .u64 a0_3, .string a0_4, a0_5.v], ty_enthymemeref06_Value), (w1.heap.size, [.int .i64 v2_0, .int .i64 v2_1, .int .i64 v2_2, .int .u64 v2_3, .string v2_4, v2_5.v], ty_enthymemeref06_Value), (w2.heap.size, [.int .i64 0, .int .i64 0, .int .i64 0, .int .u64 0, .string (ByteArray.mk #[]), .slice none 0 0], ty_enthymemeref06_Value)]) (f : W.Fr (· ∈ [w.heap.size, w1.heap.size, w2.heap.size]) _ w10) => ⟨_, _, _, _, _, ⟨none, 0, 0⟩, H.ld 2 0, H.ld 2 1, H.ld 2 2, H.ld 2 3, H.ld 2 4, H.ld 2 5, have h := h _ f; h⟩) (fun h => ⟨_, _, _, _, _, v2_5, H.ld 1 0, H.ld 1 1, H.ld 1 2, H.ld 1 3, H.ld 1 4, H.ld 1 5, W.LC.callT H h fun r_ w11 H h => let ⟨t17, hr, h⟩ := h; ⟨t17, hr, W.sel_imp h (fun h => W.LC.stT0 H 2 (W.Fr.refl _ _) rfl rfl fun w12 H f => W.LC.stT H 2 1 f rfl rfl fun w13 H f => W.LC.stT H 2 2 f rfl rfl fun w14 H f => W.LC.stT H 2 3 f rfl rfl fun w15 H f => W.LC.stT H 2 4 f rfl rfl fun w16 H f => W.LC.stT H 2 5 f rfl rfl fun w17 (H : W.LC w17 [(w.heap.size, [.int .i64 a0_0, .int .i64 a0_1, .int .i64 a0_2, .int .u64 a0_3, .string a0_4, a0_5.v], ty_enthymemeref06_Value), (w1.heap.size, [.int .i64 v2_0, .int .i64 v2_1, .int .i64 v2_2, .int .u64 v2_3, .string v2_4, v2_5.v], ty_enthymemeref06_Value), (w2.heap.size, [.int .i64 0, .int .i64 0, .int .i64 0, .int .u64 0, .string (ByteArray.mk #[]), .slice none 0 0], ty_enthymemeref06_Value)]) (f : W.Fr (· ∈ [w.heap.size, w1.heap.size, w2.heap.size]) _ w17) => ⟨_, _, _, _, _, ⟨none, 0, 0⟩, H.ld 2 0, H.ld 2 1, H.ld 2 2, H.ld 2 3, H.ld 2 4, H.ld 2 5, have h := h _ f; h⟩) (fun h => ⟨_, _, _, H.ld 0 0, H.ld 0 1, H.ld 0 2, W.LC.callT H h fun r_ w18 H h => let ⟨t24, hr, h⟩ := h; ⟨t24, hr, W.sel_imp h (fun h => W.LC.stT0 H 2 (W.Fr.refl _ _) rfl rfl fun w19 H f => W.LC.stT H 2 1 f rfl rfl fun w20 H f => W.LC.stT H 2 2 f rfl rfl fun w21 H f => W.LC.stT H 2 3 f rfl rfl fun w22 H f => W.LC.stT H 2 4 f rfl rfl fun w23 H f => W.LC.stT H 2 5 f rfl rfl fun w24 (H : W.LC w24 [(w.heap.size, [.int .i64 a0_0, .int .i64 a0_1, .int .i64 a0_2, .int .u64 a0_3, .string a0_4, a0_5.v], ty_enthymemeref06_Value), (w1.heap.size, [.int .i64 v2_0, .int .i64 v2_1, .int .i64 v2_2, .int .u64 v2_3, .string v2_4, v2_5.v], ty_enthymemeref06_Value), (w2.heap.size, [.int .i64 0, .int .i64 0, .int .i64 0, .int .u64 0, .string (ByteArray.mk #[]), .slice none 0 0], ty_enthymemeref06_Value)]) (f : W.Fr (· ∈ [w.heap.size, w1.heap.size, w2.heap.size]) _ w24) => ⟨_, _, _, _, _, ⟨none, 0, 0⟩, H.ld 2 0, H.ld 2 1, H.ld 2 2, H.ld 2 3, H.ld 2 4, H.ld 2 5, have h := h _ f; h⟩) (fun h => W.LC.drT H (W.Fr.refl _ _) fun w25 H f => ⟨_, H.ld 0 0, W.sel_imp h (fun h => ⟨_, _, _, H.ld 1 0, H.ld 1 1, H.ld 1 2, ⟨_, _, _, H.ld 0 0, H.ld 0 1, H.ld 0 2, have h := h _ f; W.LC.callT H h fun r_ w26 H h => let ⟨t36_0, t36_1, t36_2, hr, h⟩ := h; ⟨t36_0, t36_1, t36_2, hr, ⟨H.ld 1 0, H.ld 1 1, H.ld 1 2, H.ld 0 0, W.sel_imp h (fun h => S0T_ok h (H.pick [2] (by decide))) (fun h => ⟨_, H.ld 0 0, W.sel_imp h (fun h => ⟨_, H.ld 1 0, W.sel_imp h (fun h => S0T_ok h (H.pick [2] (by decide))) (fun h => ⟨_, H.ld 1 1, ⟨_, H.ld 0 1, W.sel_imp h (fun h => S0T_ok h (H.pick [2] (by decide))) (fun h => S1T_ok h H)⟩⟩)⟩) (fun h => S1T_ok h H)⟩)⟩⟩⟩⟩) (fun h => ⟨_, H.ld 0 0, W.sel_imp h (fun h => ⟨_, H.ld 1 0, W.sel_imp h (fun h => have h := h _ f; S0T_ok h (H.pick [2] (by decide))) (fun h => ⟨_, H.ld 1 1, ⟨_, H.ld 0 1, W.sel_imp h (fun h => have h := h _ f; S0T_ok h (H.pick [2] (by decide))) (fun h => have h := h _ f; S1T_ok h H)⟩⟩)⟩) (fun h => have h := h _ f; S1T_ok h H)⟩)⟩)⟩⟩)⟩⟩)⟩⟩)
end enthymemeref06_Store
namespace enthymemeref06_Least
noncomputable def C0 : Code := (Try.f53.body).getD .skip
noncomputable def C1 := W.Code.snd C0
noncomputable def C2 := W.Code.snd C1
noncomputable def C3 := W.Code.snd C2
noncomputable def C4 := W.Code.fst C3
noncomputable def C5 := W.Code.snd C4
noncomputable def C6 := W.Code.fst C5
noncomputable def C7 := W.Code.fst C6
noncomputable def C8 := W.Code.snd C3
abbrev Q0 (R : W.Post) : Exit → Act → World → Prop := (Exit.then (W.wpx Try.prog (W.cx 53) C8 (bodyPost Try.prog Try.f53 R)) (bodyPost Try.prog Try.f53 R))
abbrev Q1 (R : W.Post) : Exit → Act → World → Prop := (Exit.inBlock 0 (Q0 R))
/-- the head of the loop, ref.go:241 -/
def L0 (a2 b3 : Addr) (best5 : Int) (lists6 : W.Sl) (k7 : Int) (w : World) (R : W.Post) : Prop := W.LP Try.prog (W.cx 53) C7 (Q1 R) [(2, .pointer (some a2)), (3, .pointer (some b3)), (5, .int .u64 best5), (6, lists6.v), (7, .int .i64 k7)] w
def KE_L0 (E : W.Env) (w : World) (R : W.Post) : Prop := W.asRef (W.Env.get? E 2) fun a2 => W.asRef (W.Env.get? E 3) fun b3 => W.asInt .u64 (W.Env.get? E 5) fun best5 => W.asSlice (W.Env.get? E 6) fun lists6 => W.asInt .i64 (W.Env.get? E 7) fun k7 => L0 a2 b3 best5 lists6 k7 w R
theorem KE_L0_ok (R : W.Post) (E : W.Env) (w : World) (h : KE_L0 E w R) : W.LP Try.prog (W.cx 53) C7 (Q1 R) E w := by
  obtain ⟨a2, hq2, h_1⟩ := W.asRef_elim h
  obtain ⟨b3, hq3, h_2⟩ := W.asRef_elim h_1
  obtain ⟨best5, hq5, h_3⟩ := W.asInt_elim h_2
  obtain ⟨lists6, hq6, h_4⟩ := W.asSlice_elim h_3
  obtain ⟨k7, hq7, h_5⟩ := W.asInt_elim h_4
  intro a ha
  exact h_5 a (ha.cons hq2 (ha.cons hq3 (ha.cons hq5 (ha.cons hq6 (ha.cons hq7 ha.nil)))))
noncomputable def C9 := W.Code.snd C7
noncomputable def C10 := W.Code.fst C9
noncomputable def C11 := W.Code.fst C10
noncomputable def C12 := W.Code.snd C11
noncomputable def C13 := W.Code.fst C12
noncomputable def C14 := W.Code.fst C13
noncomputable def C15 := W.Code.snd C9
abbrev Q2 (R : W.Post) : Exit → Act → World → Prop := (Exit.then (W.wpx Try.prog (W.cx 53) C15 (Exit.then (W.LoopWP Try.prog (W.cx 53) C7 (Q1 R)) (Q1 R))) (Exit.then (W.LoopWP Try.prog (W.cx 53) C7 (Q1 R)) (Q1 R)))
abbrev Q3 (R : W.Post) : Exit → Act → World → Prop := (Exit.inBlock 1 (Q2 R))
abbrev Q4 (R : W.Post) : Exit → Act → World → Prop := (Exit.inBlock 2 (Q3 R))
/-- the head of the loop, ref.go:242 -/
def L1 (a2 b3 : Addr) (best5 : Int) (lists6 : W.Sl) (k7 i8 : Int) (w : World) (R : W.Post) : Prop := W.LP Try.prog (W.cx 53) C14 (Q4 R) [(2, .pointer (some a2)), (3, .pointer (some b3)), (5, .int .u64 best5), (6, lists6.v), (7, .int .i64 k7), (8, .int .i64 i8)] w
def KE_L1 (E : W.Env) (w : World) (R : W.Post) : Prop := W.asRef (W.Env.get? E 2) fun a2 => W.asRef (W.Env.get? E 3) fun b3 => W.asInt .u64 (W.Env.get? E 5) fun best5 => W.asSlice (W.Env.get? E 6) fun lists6 => W.asInt .i64 (W.Env.get? E 7) fun k7 => W.asInt .i64 (W.Env.get? E 8) fun i8 => L1 a2 b3 best5 lists6 k7 i8 w R
theorem KE_L1_ok (R : W.Post) (E : W.Env) (w : World) (h : KE_L1 E w R) : W.LP Try.prog (W.cx 53) C14 (Q4 R) E w := by
  obtain ⟨a2, hq2, h_1⟩ := W.asRef_elim h
  obtain ⟨b3, hq3, h_2⟩ := W.asRef_elim h_1
  obtain ⟨best5, hq5, h_3⟩ := W.asInt_elim h_2
  obtain ⟨lists6, hq6, h_4⟩ := W.asSlice_elim h_3
  obtain ⟨k7, hq7, h_5⟩ := W.asInt_elim h_4
  obtain ⟨i8, hq8, h_6⟩ := W.asInt_elim h_5
  intro a ha
  exact h_6 a (ha.cons hq2 (ha.cons hq3 (ha.cons hq5 (ha.cons hq6 (ha.cons hq7 (ha.cons hq8 ha.nil))))))
noncomputable def C16 := W.Code.snd C14
noncomputable def C17 := W.Code.snd C16
abbrev Q5 (R : W.Post) : Exit → Act → World → Prop := (Exit.then (W.LoopWP Try.prog (W.cx 53) C14 (Q4 R)) (Q4 R))
/-- ref.go:242 -/
abbrev S2 (a2 b3 : Addr) (best5 : Int) (lists6 : W.Sl) (k7 i8 : Int) (w : World) (R : W.Post) : Prop :=
  L1 a2 b3 best5 lists6 k7 (IntKind.wrap .i64 (i8 + 1)) w R
def KE_S2 (E : W.Env) (w : World) (R : W.Post) : Prop := W.asRef (W.Env.get? E 2) fun a2 => W.asRef (W.Env.get? E 3) fun b3 => W.asInt .u64 (W.Env.get? E 5) fun best5 => W.asSlice (W.Env.get? E 6) fun lists6 => W.asInt .i64 (W.Env.get? E 7) fun k7 => W.asInt .i64 (W.Env.get? E 8) fun i8 => S2 a2 b3 best5 lists6 k7 i8 w R
theorem KE_S2_ok (R : W.Post) (E : W.Env) (w : World) (h : KE_S2 E w R) : W.WP Try.prog (W.cx 53) C17 (Q5 R) E w := by
  obtain ⟨a2, hq2, h_1⟩ := W.asRef_elim h
  obtain ⟨b3, hq3, h_2⟩ := W.asRef_elim h_1
  obtain ⟨best5, hq5, h_3⟩ := W.asInt_elim h_2
  obtain ⟨lists6, hq6, h_4⟩ := W.asSlice_elim h_3
  obtain ⟨k7, hq7, h_5⟩ := W.asInt_elim h_4
  obtain ⟨i8, hq8, h_6⟩ := W.asInt_elim h_5
  exact fun a ha => W.WP.at (E := [(2, .pointer (some a2)), (3, .pointer (some b3)), (5, .int .u64 best5), (6, lists6.v), (7, .int .i64 k7), (8, .int .i64 i8)]) (W.rg C17 (K := fun E w => KE_L1 E w R) (by kernel_rfl) (Eq.mp (by kernel_rfl) h_6) fun _ _ a hA hK => KE_L1_ok R _ _ hK a hA) (ha.cons hq2 (ha.cons hq3 (ha.cons hq5 (ha.cons hq6 (ha.cons hq7 (ha.cons hq8 ha.nil))))))
noncomputable def C18 := W.Code.fst C14
noncomputable def C19 := W.Code.fst C16
noncomputable def C20 := W.Code.fst C19
noncomputable def C21 := W.Code.snd C20
noncomputable def C22 := W.Code.snd C21
noncomputable def C23 := W.Code.fst C22
noncomputable def C24 := W.Code.snd C18
noncomputable def C25 := W.Code.fst C24
noncomputable def C26 := W.Code.snd C22
noncomputable def C27 := W.Code.snd C24
theorem L1_step (a2 b3 : Addr) (best5 : Int) (lists6 : W.Sl) (k7 i8 : Int) (w : World) (R : W.Post) (h : (0 : Int) ≤ k7 ∧ k7 < ((lists6.n : Nat) : Int) ∧ W.optP lists6.a fun t22_p => ∃ t23 : W.Sl, w.cell? (t22_p.add (Int.toNat k7 * 1)) = some (t23.v) ∧ 
  W.sel (decide (i8 < ((t23.n : Nat) : Int))) ((0 : Int) ≤ k7 ∧ k7 < ((lists6.n : Nat) : Int) ∧ W.optP lists6.a fun t30_p => ∃ t31 : W.Sl, w.cell? (t30_p.add (Int.toNat k7 * 1)) = some (t31.v) ∧ 
  (0 : Int) ≤ i8 ∧ i8 < ((t31.n : Nat) : Int) ∧ W.optP t31.a fun t33_p => ∃ t35 : Int, w.cell? ((t33_p.add (Int.toNat i8 * 3)).add 0) = some (.int .u64 t35) ∧ 
  W.drV w fun w4 => W.sel (decide (t35 < best5)) (∃ t40_0 : Int, ∃ t40_1 : Int, ∃ t40_2 : Int, ∃ t40_3 : Int, ∃ t40_4 : ByteArray, ∃ t40_5 : W.Sl, w4.cell? (a2.add 0) = some (.int .i64 t40_0) ∧ w4.cell? (a2.add 1) = some (.int .i64 t40_1) ∧ w4.cell? (a2.add 2) = some (.int .i64 t40_2) ∧ w4.cell? (a2.add 3) = some (.int .u64 t40_3) ∧ w4.cell? (a2.add 4) = some (.string t40_4) ∧ w4.cell? (a2.add 5) = some (t40_5.v) ∧ 
  ∃ t43_0 : Int, ∃ t43_1 : Int, ∃ t43_2 : Int, ∃ t43_3 : Int, ∃ t43_4 : ByteArray, ∃ t43_5 : W.Sl, w4.cell? (b3.add 0) = some (.int .i64 t43_0) ∧ w4.cell? (b3.add 1) = some (.int .i64 t43_1) ∧ w4.cell? (b3.add 2) = some (.int .i64 t43_2) ∧ w4.cell? (b3.add 3) = some (.int .u64 t43_3) ∧ w4.cell? (b3.add 4) = some (.string t43_4) ∧ w4.cell? (b3.add 5) = some (t43_5.v) ∧ 
  Calls Try.prog n_enthymemeref06_At #[.agg #[.int .i64 t40_0, .int .i64 t40_1, .int .i64 t40_2, .int .u64 t40_3, .string t40_4, t40_5.v], .int .u64 t35] w4 fun r_ w5 => ∃ t42_0 : Int, ∃ t42_1 : Int, ∃ t42_2 : Int, ∃ t42_3 : Int, ∃ t42_4 : ByteArray, ∃ t42_5 : W.Sl, r_ = .returned (.agg #[.int .i64 t42_0, .int .i64 t42_1, .int .i64 t42_2, .int .u64 t42_3, .string t42_4, t42_5.v]) ∧ 
  w5.cell? (b3.add 0) = some (.int .i64 t43_0) ∧ w5.cell? (b3.add 1) = some (.int .i64 t43_1) ∧ w5.cell? (b3.add 2) = some (.int .i64 t43_2) ∧ w5.cell? (b3.add 3) = some (.int .u64 t43_3) ∧ w5.cell? (b3.add 4) = some (.string t43_4) ∧ w5.cell? (b3.add 5) = some (t43_5.v) ∧ Calls Try.prog n_enthymemeref06_At #[.agg #[.int .i64 t43_0, .int .i64 t43_1, .int .i64 t43_2, .int .u64 t43_3, .string t43_4, t43_5.v], .int .u64 t35] w5 fun r_ w6 => ∃ t45_0 : Int, ∃ t45_1 : Int, ∃ t45_2 : Int, ∃ t45_3 : Int, ∃ t45_4 : ByteArray, ∃ t45_5 : W.Sl, r_ = .returned (.agg #[.int .i64 t45_0, .int .i64 t45_1, .int .i64 t45_2, .int .u64 t45_3, .string t45_4, t45_5.v]) ∧ 
  Calls Try.prog n_enthymemeref06_Same #[.agg #[.int .i64 t42_0, .int .i64 t42_1, .int .i64 t42_2, .int .u64 t42_3, .string t42_4, t42_5.v], .agg #[.int .i64 t45_0, .int .i64 t45_1, .int .i64 t45_2, .int .u64 t45_3, .string t45_4, t45_5.v]] w6 fun r_ w7 => ∃ t46 : Bool, r_ = .returned (.bool t46) ∧ 
  W.sel (!t46) (S2 a2 b3 t35 lists6 k7 i8 w7 R) (S2 a2 b3 best5 lists6 k7 i8 w7 R)) (S2 a2 b3 best5 lists6 k7 i8 w4 R)) (L0 a2 b3 best5 lists6 (IntKind.wrap .i64 (k7 + 1)) w R)) : L1 a2 b3 best5 lists6 k7 i8 w R :=
  W.LP.step (n := (W.cx 53)) (c := C14) (E := [(2, .pointer (some a2)), (3, .pointer (some b3)), (5, .int .u64 best5), (6, lists6.v), (7, .int .i64 k7), (8, .int .i64 i8)]) (w := w) (W.sq C14 (by kernel_rfl) (W.sr C18 (by kernel_rfl) (show (fun (E : W.Env) (w : World) => W.srK Try.prog C18 (fun E w => W.condK (W.Env.val E (.tmp 25)) (W.srK Try.prog C20 (fun E w => W.sdK Try.prog C21 [0, 1, 2, 3, 4, 5, 7, 8, 6, 9, 10, 11, 12] (fun E w => W.condK (W.Env.val E (.tmp 48)) (W.rgK Try.prog C23 (fun E w => KE_S2 E w R) E w) (KE_S2 E w R)) E w) E w) (W.rgK Try.prog C15 (fun E w => KE_L0 E w R) E w)) E w) [(2, .pointer (some a2)), (3, .pointer (some b3)), (5, .int .u64 best5), (6, lists6.v), (7, .int .i64 k7), (8, .int .i64 i8)] w from Eq.mp (by kernel_rfl) h) fun _ _ hK => (W.cn C24 (by kernel_rfl) hK (fun hK => (W.sk C25 (by kernel_rfl) fun a hA => W.nx hA (W.sq C16 (by kernel_rfl) (W.bk C19 3 (by kernel_rfl) (W.sr C20 (by kernel_rfl) hK fun _ _ hK => (W.sd C21 (by kernel_rfl) hK fun _ _ hK => (W.cn C22 (by kernel_rfl) hK (fun hK => (W.rg C23 (by kernel_rfl) hK fun _ _ a hA hK => W.nx hA (KE_S2_ok R _ _ hK))) (fun hK => (W.sk C26 (by kernel_rfl) fun a hA => W.nx hA (KE_S2_ok R _ _ hK)))))))))) (fun hK => (W.xt C27 2 (by kernel_rfl) fun a hA => W.nx hA (W.rg C15 (by kernel_rfl) hK fun _ _ a hA hK => KE_L0_ok R _ _ hK a hA))))))
noncomputable def C28 := W.Code.fst C7
noncomputable def C29 := W.Code.fst C8
noncomputable def C30 := W.Code.snd C29
noncomputable def C31 := W.Code.fst C30
noncomputable def C32 := W.Code.snd C8
noncomputable def C33 := W.Code.snd C28
noncomputable def C34 := W.Code.fst C33
noncomputable def C35 := W.Code.snd C33
noncomputable def C36 := W.Code.snd C31
noncomputable def C37 := W.Code.snd C30
noncomputable def C38 := W.Code.snd C32
theorem L0_step (a2 b3 : Addr) (best5 : Int) (lists6 : W.Sl) (k7 : Int) (w : World) (R : W.Post) (h : W.sel (decide (k7 < 2)) (L1 a2 b3 best5 lists6 k7 0 w R) (W.sel (best5 == 1048576) (R (.returned (.int .u64 0)) w) (R (.returned (.int .u64 best5)) w))) : L0 a2 b3 best5 lists6 k7 w R :=
  W.LP.step (n := (W.cx 53)) (c := C7) (E := [(2, .pointer (some a2)), (3, .pointer (some b3)), (5, .int .u64 best5), (6, lists6.v), (7, .int .i64 k7)]) (w := w) (W.sq C7 (by kernel_rfl) (W.sr C28 (by kernel_rfl) (show (fun (E : W.Env) (w : World) => W.srK Try.prog C28 (fun E w => W.condK (W.Env.val E (.tmp 16)) (W.srK Try.prog C11 (fun E w => KE_L1 E w R) E w) (W.srK Try.prog C29 (fun E w => W.condK (W.Env.val E (.tmp 51)) (W.srK Try.prog C31 (fun E w => W.retVC Try.prog Try.f53 E w (fun v => R (.returned v) w)) E w) (W.srK Try.prog C32 (fun E w => W.retVC Try.prog Try.f53 E w (fun v => R (.returned v) w)) E w)) E w)) E w) [(2, .pointer (some a2)), (3, .pointer (some b3)), (5, .int .u64 best5), (6, lists6.v), (7, .int .i64 k7)] w from Eq.mp (by kernel_rfl) h) fun _ _ hK => (W.cn C33 (by kernel_rfl) hK (fun hK => (W.sk C34 (by kernel_rfl) fun a hA => W.nx hA (W.sq C9 (by kernel_rfl) (W.bk C10 1 (by kernel_rfl) (W.sr C11 (by kernel_rfl) hK fun _ _ hK => (W.bk C12 2 (by kernel_rfl) (W.lp C13 (by kernel_rfl) (KE_L1_ok R _ _ hK)))))))) (fun hK => (W.xt C35 0 (by kernel_rfl) fun a hA => W.nx hA (W.sq C8 (by kernel_rfl) (W.sr C29 (by kernel_rfl) hK fun _ _ hK => (W.cn C30 (by kernel_rfl) hK (fun hK => (W.sr C31 (by kernel_rfl) hK fun _ _ hK => (W.rt C36 (by kernel_rfl) fun a hA => W.retVC_sound hA hK))) (fun hK => (W.sk C37 (by kernel_rfl) fun a hA => W.nx hA (W.sr C32 (by kernel_rfl) hK fun _ _ hK => (W.rt C38 (by kernel_rfl) fun a hA => W.retVC_sound hA hK))))))))))))
/-- enthymeme/enthymemeref06.Least -/
theorem ok (a0_0 a0_1 a0_2 a0_3 : Int) (a0_4 : ByteArray) (a0_5 : W.Sl) (b1_0 b1_1 b1_2 b1_3 : Int) (b1_4 : ByteArray) (b1_5 : W.Sl) (w : World) (R : W.Post) (h : W.nwV w (.cells #[.int .i64 a0_0, .int .i64 a0_1, .int .i64 a0_2, .int .u64 a0_3, .string a0_4, a0_5.v] ty_enthymemeref06_Value) fun w1 => 
  W.nwV w1 (.cells #[.int .i64 b1_0, .int .i64 b1_1, .int .i64 b1_2, .int .u64 b1_3, .string b1_4, b1_5.v] ty_enthymemeref06_Value) fun w2 => 
  ∃ t11 : W.Sl, w2.cell? ((Addr.mk w.heap.size 0 none).add 5) = some (t11.v) ∧ 
  ∃ t13 : W.Sl, w2.cell? ((Addr.mk w1.heap.size 0 none).add 5) = some (t13.v) ∧ 
  W.nwV w2 (.cells #[t11.v, t13.v] ty_sl_enthymemeref06_Entry) fun w3 => 
  L0 (Addr.mk w.heap.size 0 none) (Addr.mk w1.heap.size 0 none) 1048576 ⟨some (Addr.mk w2.heap.size 0 none), 2, 2⟩ 0 w3 R) : Calls Try.prog n_enthymemeref06_Least #[.agg #[.int .i64 a0_0, .int .i64 a0_1, .int .i64 a0_2, .int .u64 a0_3, .string a0_4, a0_5.v], .agg #[.int .i64 b1_0, .int .i64 b1_1, .int .i64 b1_2, .int .u64 b1_3, .string b1_4, b1_5.v]] w R :=
  W.calls_of_WP' (R := R) (fn := Try.f53) (c := C0) (args := [.agg #[.int .i64 a0_0, .int .i64 a0_1, .int .i64 a0_2, .int .u64 a0_3, .string a0_4, a0_5.v], .agg #[.int .i64 b1_0, .int .i64 b1_1, .int .i64 b1_2, .int .u64 b1_3, .string b1_4, b1_5.v]]) (by kernel_rfl) (by kernel_rfl) (by kernel_rfl) (W.sr C0 (by kernel_rfl) (show (fun (E : W.Env) (w : World) => W.srK Try.prog C0 (fun E w => W.srK Try.prog C1 (fun E w => W.srK Try.prog C2 (fun E w => W.srK Try.prog C4 (fun E w => KE_L0 E w R) E w) E w) E w) E w) (W.envOf 0 [.agg #[.int .i64 a0_0, .int .i64 a0_1, .int .i64 a0_2, .int .u64 a0_3, .string a0_4, a0_5.v], .agg #[.int .i64 b1_0, .int .i64 b1_1, .int .i64 b1_2, .int .u64 b1_3, .string b1_4, b1_5.v]]) w from Eq.mp (by kernel_rfl) h) fun _ _ hK => (W.sr C1 (by kernel_rfl) hK fun _ _ hK => (W.sr C2 (by kernel_rfl) hK fun _ _ hK => (W.sq C3 (by kernel_rfl) (W.sr C4 (by kernel_rfl) hK fun _ _ hK => (W.bk C5 0 (by kernel_rfl) (W.lp C6 (by kernel_rfl) (KE_L0_ok R _ _ hK))))))))
def L0T (a2 : Nat) (a2_0 a2_1 a2_2 a2_3 : Int) (a2_4 : ByteArray) (a2_5 : W.Sl) (b3 : Nat) (b3_0 b3_1 b3_2 b3_3 : Int) (b3_4 : ByteArray) (b3_5 : W.Sl) (best5 : Int) (lists6 : W.Sl) (k7 : Int) (w : World) (R : W.Post) : Prop := W.LC w [(a2, [.int .i64 a2_0, .int .i64 a2_1, .int .i64 a2_2, .int .u64 a2_3, .string a2_4, a2_5.v], ty_enthymemeref06_Value), (b3, [.int .i64 b3_0, .int .i64 b3_1, .int .i64 b3_2, .int .u64 b3_3, .string b3_4, b3_5.v], ty_enthymemeref06_Value)] → L0 (W.at0 a2) (W.at0 b3) best5 lists6 k7 w R
def L1T (a2 : Nat) (a2_0 a2_1 a2_2 a2_3 : Int) (a2_4 : ByteArray) (a2_5 : W.Sl) (b3 : Nat) (b3_0 b3_1 b3_2 b3_3 : Int) (b3_4 : ByteArray) (b3_5 : W.Sl) (best5 : Int) (lists6 : W.Sl) (k7 i8 : Int) (w : World) (R : W.Post) : Prop := W.LC w [(a2, [.int .i64 a2_0, .int .i64 a2_1, .int .i64 a2_2, .int .u64 a2_3, .string a2_4, a2_5.v], ty_enthymemeref06_Value), (b3, [.int .i64 b3_0, .int .i64 b3_1, .int .i64 b3_2, .int .u64 b3_3, .string b3_4, b3_5.v], ty_enthymemeref06_Value)] → L1 (W.at0 a2) (W.at0 b3) best5 lists6 k7 i8 w R
abbrev S2T (a2 : Nat) (a2_0 a2_1 a2_2 a2_3 : Int) (a2_4 : ByteArray) (a2_5 : W.Sl) (b3 : Nat) (b3_0 b3_1 b3_2 b3_3 : Int) (b3_4 : ByteArray) (b3_5 : W.Sl) (best5 : Int) (lists6 : W.Sl) (k7 i8 : Int) (w : World) (R : W.Post) : Prop :=
  L1T a2 a2_0 a2_1 a2_2 a2_3 a2_4 a2_5 b3 b3_0 b3_1 b3_2 b3_3 b3_4 b3_5 best5 lists6 k7 (IntKind.wrap .i64 (i8 + 1)) w R
theorem S2T_ok {a2 : Nat} {a2_0 a2_1 a2_2 a2_3 : Int} {a2_4 : ByteArray} {a2_5 : W.Sl} {b3 : Nat} {b3_0 b3_1 b3_2 b3_3 : Int} {b3_4 : ByteArray} {b3_5 : W.Sl} {best5 : Int} {lists6 : W.Sl} {k7 i8 : Int} {w : World} {R : W.Post} (h : S2T a2 a2_0 a2_1 a2_2 a2_3 a2_4 a2_5 b3 b3_0 b3_1 b3_2 b3_3 b3_4 b3_5 best5 lists6 k7 i8 w R) (H : W.LC w [(a2, [.int .i64 a2_0, .int .i64 a2_1, .int .i64 a2_2, .int .u64 a2_3, .string a2_4, a2_5.v], ty_enthymemeref06_Value), (b3, [.int .i64 b3_0, .int .i64 b3_1, .int .i64 b3_2, .int .u64 b3_3, .string b3_4, b3_5.v], ty_enthymemeref06_Value)]) : S2 (W.at0 a2) (W.at0 b3) best5 lists6 k7 i8 w R := h H
theorem L1T_step (a2 : Nat) (a2_0 a2_1 a2_2 a2_3 : Int) (a2_4 : ByteArray) (a2_5 : W.Sl) (b3 : Nat) (b3_0 b3_1 b3_2 b3_3 : Int) (b3_4 : ByteArray) (b3_5 : W.Sl) (best5 : Int) (lists6 : W.Sl) (k7 i8 : Int) (w : World) (R : W.Post) (h : (0 : Int) ≤ k7 ∧ k7 < ((lists6.n : Nat) : Int) ∧ W.optP lists6.a fun t22_p => ∃ t23 : W.Sl, w.cell? (t22_p.add (Int.toNat k7 * 1)) = some (t23.v) ∧ 
  W.sel (decide (i8 < ((t23.n : Nat) : Int))) ((0 : Int) ≤ k7 ∧ k7 < ((lists6.n : Nat) : Int) ∧ W.optP lists6.a fun t30_p => ∃ t31 : W.Sl, w.cell? (t30_p.add (Int.toNat k7 * 1)) = some (t31.v) ∧ 
  (0 : Int) ≤ i8 ∧ i8 < ((t31.n : Nat) : Int) ∧ W.optP t31.a fun t33_p => ∃ t35 : Int, w.cell? ((t33_p.add (Int.toNat i8 * 3)).add 0) = some (.int .u64 t35) ∧ 
  W.sel (decide (t35 < best5)) (W.loc [a2, b3] w fun w4 => W.callF [a2, b3] Try.prog n_enthymemeref06_At #[.agg #[.int .i64 a2_0, .int .i64 a2_1, .int .i64 a2_2, .int .u64 a2_3, .string a2_4, a2_5.v], .int .u64 t35] w4 fun r_ w5 => ∃ t42_0 : Int, ∃ t42_1 : Int, ∃ t42_2 : Int, ∃ t42_3 : Int, ∃ t42_4 : ByteArray, ∃ t42_5 : W.Sl, r_ = .returned (.agg #[.int .i64 t42_0, .int .i64 t42_1, .int .i64 t42_2, .int .u64 t42_3, .string t42_4, t42_5.v]) ∧ 
  W.callF [a2, b3] Try.prog n_enthymemeref06_At #[.agg #[.int .i64 b3_0, .int .i64 b3_1, .int .i64 b3_2, .int .u64 b3_3, .string b3_4, b3_5.v], .int .u64 t35] w5 fun r_ w6 => ∃ t45_0 : Int, ∃ t45_1 : Int, ∃ t45_2 : Int, ∃ t45_3 : Int, ∃ t45_4 : ByteArray, ∃ t45_5 : W.Sl, r_ = .returned (.agg #[.int .i64 t45_0, .int .i64 t45_1, .int .i64 t45_2, .int .u64 t45_3, .string t45_4, t45_5.v]) ∧ 
  W.callF [a2, b3] Try.prog n_enthymemeref06_Same #[.agg #[.int .i64 t42_0, .int .i64 t42_1, .int .i64 t42_2, .int .u64 t42_3, .string t42_4, t42_5.v], .agg #[.int .i64 t45_0, .int .i64 t45_1, .int .i64 t45_2, .int .u64 t45_3, .string t45_4, t45_5.v]] w6 fun r_ w7 => ∃ t46 : Bool, r_ = .returned (.bool t46) ∧ 
  W.sel (!t46) (S2T a2 a2_0 a2_1 a2_2 a2_3 a2_4 a2_5 b3 b3_0 b3_1 b3_2 b3_3 b3_4 b3_5 t35 lists6 k7 i8 w7 R) (S2T a2 a2_0 a2_1 a2_2 a2_3 a2_4 a2_5 b3 b3_0 b3_1 b3_2 b3_3 b3_4 b3_5 best5 lists6 k7 i8 w7 R)) (W.loc [a2, b3] w fun w4 => S2T a2 a2_0 a2_1 a2_2 a2_3 a2_4 a2_5 b3 b3_0 b3_1 b3_2 b3_3 b3_4 b3_5 best5 lists6 k7 i8 w4 R)) (L0T a2 a2_0 a2_1 a2_2 a2_3 a2_4 a2_5 b3 b3_0 b3_1 b3_2 b3_3 b3_4 b3_5 best5 lists6 (IntKind.wrap .i64 (k7 + 1)) w R)) : L1T a2 a2_0 a2_1 a2_2 a2_3 a2_4 a2_5 b3 b3_0 b3_1 b3_2 b3_3 b3_4 b3_5 best5 lists6 k7 i8 w R := fun H => L1_step _ _ _ _ _ _ w R (⟨h.1, h.2.1, have h := h.2.2; W.optP_imp h fun t22_p h => let ⟨t23, hc0, h⟩ := h; ⟨t23, hc0, W.sel_imp h (fun h => ⟨h.1, h.2.1, have h := h.2.2; W.optP_imp h fun t30_p h => let ⟨t31, hc0, h⟩ := h; ⟨t31, hc0, ⟨h.1, h.2.1, have h := h.2.2; W.optP_imp h fun t33_p h => let ⟨t35, hc0, h⟩ := h; ⟨t35, hc0, W.LC.drT H (W.Fr.refl _ _) fun w4 H f => W.sel_imp h (fun h => ⟨_, _, _, _, _, a2_5, H.ld 0 0, H.ld 0 1, H.ld 0 2, H.ld 0 3, H.ld 0 4, H.ld 0 5, ⟨_, _, _, _, _, b3_5, H.ld 1 0, H.ld 1 1, H.ld 1 2, H.ld 1 3, H.ld 1 4, H.ld 1 5, have h := h _ f; W.LC.callT H h fun r_ w5 H h => let ⟨t42_0, t42_1, t42_2, t42_3, t42_4, t42_5, hr, h⟩ := h; ⟨t42_0, t42_1, t42_2, t42_3, t42_4, t42_5, hr, ⟨H.ld 1 0, H.ld 1 1, H.ld 1 2, H.ld 1 3, H.ld 1 4, H.ld 1 5, W.LC.callT H h fun r_ w6 H h => let ⟨t45_0, t45_1, t45_2, t45_3, t45_4, t45_5, hr, h⟩ := h; ⟨t45_0, t45_1, t45_2, t45_3, t45_4, t45_5, hr, W.LC.callT H h fun r_ w7 H h => let ⟨t46, hr, h⟩ := h; ⟨t46, hr, W.sel_imp h (fun h => S2T_ok h H) (fun h => S2T_ok h H)⟩⟩⟩⟩⟩⟩) (fun h => have h := h _ f; S2T_ok h H)⟩⟩⟩⟩) (fun h => h H)⟩⟩)
theorem L0T_step (a2 : Nat) (a2_0 a2_1 a2_2 a2_3 : Int) (a2_4 : ByteArray) (a2_5 : W.Sl) (b3 : Nat) (b3_0 b3_1 b3_2 b3_3 : Int) (b3_4 : ByteArray) (b3_5 : W.Sl) (best5 : Int) (lists6 : W.Sl) (k7 : Int) (w : World) (R : W.Post) (h : W.sel (decide (k7 < 2)) (L1T a2 a2_0 a2_1 a2_2 a2_3 a2_4 a2_5 b3 b3_0 b3_1 b3_2 b3_3 b3_4 b3_5 best5 lists6 k7 0 w R) (W.sel (best5 == 1048576) (R (.returned (.int .u64 0)) w) (R (.returned (.int .u64 best5)) w))) : L0T a2 a2_0 a2_1 a2_2 a2_3 a2_4 a2_5 b3 b3_0 b3_1 b3_2 b3_3 b3_4 b3_5 best5 lists6 k7 w R := fun H => L0_step _ _ _ _ _ w R (W.sel_imp h (fun h => h H) (fun h => W.sel_imp h (fun h => h) (fun h => h)))
theorem okT (a0_0 a0_1 a0_2 a0_3 : Int) (a0_4 : ByteArray) (a0_5 : W.Sl) (b1_0 b1_1 b1_2 b1_3 : Int) (b1_4 : ByteArray) (b1_5 : W.Sl) (w : World) (R : W.Post) (h : W.newV [] w fun b2 w1 => 
  W.newV [b2] w1 fun b3 w2 => 
  W.nwV w2 (.cells #[a0_5.v, b1_5.v] ty_sl_enthymemeref06_Entry) fun w3 => 
  L0T b2 a0_0 a0_1 a0_2 a0_3 a0_4 a0_5 b3 b1_0 b1_1 b1_2 b1_3 b1_4 b1_5 1048576 ⟨some (Addr.mk w2.heap.size 0 none), 2, 2⟩ 0 w3 R) : Calls Try.prog n_enthymemeref06_Least #[.agg #[.int .i64 a0_0, .int .i64 a0_1, .int .i64 a0_2, .int .u64 a0_3, .string a0_4, a0_5.v], .agg #[.int .i64 b1_0, .int .i64 b1_1, .int .i64 b1_2, .int .u64 b1_3, .string b1_4, b1_5.v]] w R :=
  ok _ _ _ _ _ _ _ _ _ _ _ _ w R (W.LC.nwT (W.LC.nil _) (W.Fr.refl _ _) h fun w1 H h => W.LC.nwT H (W.Fr.refl _ _) h fun w2 H h => ⟨a0_5, H.ld 0 5, ⟨b1_5, H.ld 1 5, W.LC.nwN H h fun w3 H h => h H⟩⟩)
end enthymemeref06_Least
namespace enthymemeref06_Diff
noncomputable def C0 : Code := (Try.f28.body).getD .skip
noncomputable def C1 := W.Code.snd C0
noncomputable def C2 := W.Code.snd C1
noncomputable def C3 := W.Code.snd C2
noncomputable def C4 := W.Code.snd C3
noncomputable def C5 := W.Code.snd C4
noncomputable def C6 := W.Code.fst C5
noncomputable def C7 := W.Code.snd C6
noncomputable def C8 := W.Code.fst C7
noncomputable def C9 := W.Code.snd C5
abbrev Q0 (R : W.Post) : Exit → Act → World → Prop := (Exit.then (W.wpx Try.prog (W.cx 32) C9 (bodyPost Try.prog Try.f28 R)) (bodyPost Try.prog Try.f28 R))
noncomputable def C10 := W.Code.snd C8
/-- ref.go:232 -/
abbrev S0  (w : World) (R : W.Post) : Prop :=
  R (.returned (.tuple #[.int .u64 0, .int .i64 9])) w
def KE_S0 (E : W.Env) (w : World) (R : W.Post) : Prop := S0  w R
theorem KE_S0_ok (R : W.Post) (E : W.Env) (w : World) (h : KE_S0 E w R) : W.WP Try.prog (W.cx 32) C8 (Q0 R) E w := by
  exact fun a ha => W.WP.at (E := []) (W.sr C8 (K := fun E w => W.retVC Try.prog Try.f28 E w (fun v => R (.returned v) w)) (by kernel_rfl) (Eq.mp (by kernel_rfl) h) fun _ _ hK => (W.rt C10 (by kernel_rfl) fun a hA => W.retVC_sound hA hK)) ha.nil
/-- enthymeme/enthymemeref06.Diff -/
noncomputable def C11 := W.Code.fst C2
noncomputable def C12 := W.Code.snd C11
noncomputable def C13 := W.Code.fst C12
noncomputable def C14 := W.Code.fst C4
noncomputable def C15 := W.Code.snd C14
noncomputable def C16 := W.Code.fst C15
noncomputable def C17 := W.Code.snd C13
noncomputable def C18 := W.Code.snd C12
noncomputable def C19 := W.Code.snd C16
noncomputable def C20 := W.Code.snd C15
noncomputable def C21 := W.Code.snd C7
noncomputable def C22 := W.Code.snd C9
theorem ok (a0_0 a0_1 a0_2 a0_3 : Int) (a0_4 : ByteArray) (a0_5 : W.Sl) (b1_0 b1_1 b1_2 b1_3 : Int) (b1_4 : ByteArray) (b1_5 : W.Sl) (w : World) (R : W.Post) (h : W.nwV w (.cells #[.int .i64 a0_0, .int .i64 a0_1, .int .i64 a0_2, .int .u64 a0_3, .string a0_4, a0_5.v] ty_enthymemeref06_Value) fun w1 => 
  W.nwV w1 (.cells #[.int .i64 b1_0, .int .i64 b1_1, .int .i64 b1_2, .int .u64 b1_3, .string b1_4, b1_5.v] ty_enthymemeref06_Value) fun w2 => 
  ∃ t8_0 : Int, ∃ t8_1 : Int, ∃ t8_2 : Int, ∃ t8_3 : Int, ∃ t8_4 : ByteArray, ∃ t8_5 : W.Sl, w2.cell? ((Addr.mk w.heap.size 0 none).add 0) = some (.int .i64 t8_0) ∧ w2.cell? ((Addr.mk w.heap.size 0 none).add 1) = some (.int .i64 t8_1) ∧ w2.cell? ((Addr.mk w.heap.size 0 none).add 2) = some (.int .i64 t8_2) ∧ w2.cell? ((Addr.mk w.heap.size 0 none).add 3) = some (.int .u64 t8_3) ∧ w2.cell? ((Addr.mk w.heap.size 0 none).add 4) = some (.string t8_4) ∧ w2.cell? ((Addr.mk w.heap.size 0 none).add 5) = some (t8_5.v) ∧ 
  Calls Try.prog n_enthymemeref06_Valid #[.agg #[.int .i64 t8_0, .int .i64 t8_1, .int .i64 t8_2, .int .u64 t8_3, .string t8_4, t8_5.v]] w2 fun r_ w3 => ∃ t9 : Int, r_ = .returned (.int .i64 t9) ∧ 
  W.sel (t9 != 0) (R (.returned (.tuple #[.int .u64 0, .int .i64 t9])) w3) (∃ t13_0 : Int, ∃ t13_1 : Int, ∃ t13_2 : Int, ∃ t13_3 : Int, ∃ t13_4 : ByteArray, ∃ t13_5 : W.Sl, w3.cell? ((Addr.mk w1.heap.size 0 none).add 0) = some (.int .i64 t13_0) ∧ w3.cell? ((Addr.mk w1.heap.size 0 none).add 1) = some (.int .i64 t13_1) ∧ w3.cell? ((Addr.mk w1.heap.size 0 none).add 2) = some (.int .i64 t13_2) ∧ w3.cell? ((Addr.mk w1.heap.size 0 none).add 3) = some (.int .u64 t13_3) ∧ w3.cell? ((Addr.mk w1.heap.size 0 none).add 4) = some (.string t13_4) ∧ w3.cell? ((Addr.mk w1.heap.size 0 none).add 5) = some (t13_5.v) ∧ 
  Calls Try.prog n_enthymemeref06_Valid #[.agg #[.int .i64 t13_0, .int .i64 t13_1, .int .i64 t13_2, .int .u64 t13_3, .string t13_4, t13_5.v]] w3 fun r_ w4 => ∃ t14 : Int, r_ = .returned (.int .i64 t14) ∧ 
  W.sel (t14 != 0) (R (.returned (.tuple #[.int .u64 0, .int .i64 t14])) w4) (∃ t19_0 : Int, ∃ t19_1 : Int, ∃ t19_2 : Int, w4.cell? (((Addr.mk w.heap.size 0 none).add 0).add 0) = some (.int .i64 t19_0) ∧ w4.cell? (((Addr.mk w.heap.size 0 none).add 0).add 1) = some (.int .i64 t19_1) ∧ w4.cell? (((Addr.mk w.heap.size 0 none).add 0).add 2) = some (.int .i64 t19_2) ∧ 
  Calls Try.prog n_enthymemeref06_Array #[.agg #[.int .i64 t19_0, .int .i64 t19_1, .int .i64 t19_2]] w4 fun r_ w5 => ∃ t20 : Bool, r_ = .returned (.bool t20) ∧ 
  W.sel (!t20) (S0  w5 R) (∃ t24_0 : Int, ∃ t24_1 : Int, ∃ t24_2 : Int, w5.cell? (((Addr.mk w.heap.size 0 none).add 0).add 0) = some (.int .i64 t24_0) ∧ w5.cell? (((Addr.mk w.heap.size 0 none).add 0).add 1) = some (.int .i64 t24_1) ∧ w5.cell? (((Addr.mk w.heap.size 0 none).add 0).add 2) = some (.int .i64 t24_2) ∧ 
  ∃ t26_0 : Int, ∃ t26_1 : Int, ∃ t26_2 : Int, w5.cell? (((Addr.mk w1.heap.size 0 none).add 0).add 0) = some (.int .i64 t26_0) ∧ w5.cell? (((Addr.mk w1.heap.size 0 none).add 0).add 1) = some (.int .i64 t26_1) ∧ w5.cell? (((Addr.mk w1.heap.size 0 none).add 0).add 2) = some (.int .i64 t26_2) ∧ 
  W.sel (!((t24_0 == t26_0) && ((t24_1 == t26_1) && ((t24_2 == t26_2) && true)))) (S0  w5 R) (∃ t29_0 : Int, ∃ t29_1 : Int, ∃ t29_2 : Int, ∃ t29_3 : Int, ∃ t29_4 : ByteArray, ∃ t29_5 : W.Sl, w5.cell? ((Addr.mk w.heap.size 0 none).add 0) = some (.int .i64 t29_0) ∧ w5.cell? ((Addr.mk w.heap.size 0 none).add 1) = some (.int .i64 t29_1) ∧ w5.cell? ((Addr.mk w.heap.size 0 none).add 2) = some (.int .i64 t29_2) ∧ w5.cell? ((Addr.mk w.heap.size 0 none).add 3) = some (.int .u64 t29_3) ∧ w5.cell? ((Addr.mk w.heap.size 0 none).add 4) = some (.string t29_4) ∧ w5.cell? ((Addr.mk w.heap.size 0 none).add 5) = some (t29_5.v) ∧ 
  ∃ t30_0 : Int, ∃ t30_1 : Int, ∃ t30_2 : Int, ∃ t30_3 : Int, ∃ t30_4 : ByteArray, ∃ t30_5 : W.Sl, w5.cell? ((Addr.mk w1.heap.size 0 none).add 0) = some (.int .i64 t30_0) ∧ w5.cell? ((Addr.mk w1.heap.size 0 none).add 1) = some (.int .i64 t30_1) ∧ w5.cell? ((Addr.mk w1.heap.size 0 none).add 2) = some (.int .i64 t30_2) ∧ w5.cell? ((Addr.mk w1.heap.size 0 none).add 3) = some (.int .u64 t30_3) ∧ w5.cell? ((Addr.mk w1.heap.size 0 none).add 4) = some (.string t30_4) ∧ w5.cell? ((Addr.mk w1.heap.size 0 none).add 5) = some (t30_5.v) ∧ 
  Calls Try.prog n_enthymemeref06_Least #[.agg #[.int .i64 t29_0, .int .i64 t29_1, .int .i64 t29_2, .int .u64 t29_3, .string t29_4, t29_5.v], .agg #[.int .i64 t30_0, .int .i64 t30_1, .int .i64 t30_2, .int .u64 t30_3, .string t30_4, t30_5.v]] w5 fun r_ w6 => ∃ t31 : Int, r_ = .returned (.int .u64 t31) ∧ 
  R (.returned (.tuple #[.int .u64 t31, .int .i64 0])) w6))))) : Calls Try.prog n_enthymemeref06_Diff #[.agg #[.int .i64 a0_0, .int .i64 a0_1, .int .i64 a0_2, .int .u64 a0_3, .string a0_4, a0_5.v], .agg #[.int .i64 b1_0, .int .i64 b1_1, .int .i64 b1_2, .int .u64 b1_3, .string b1_4, b1_5.v]] w R :=
  W.calls_of_WP' (R := R) (fn := Try.f28) (c := C0) (args := [.agg #[.int .i64 a0_0, .int .i64 a0_1, .int .i64 a0_2, .int .u64 a0_3, .string a0_4, a0_5.v], .agg #[.int .i64 b1_0, .int .i64 b1_1, .int .i64 b1_2, .int .u64 b1_3, .string b1_4, b1_5.v]]) (by kernel_rfl) (by kernel_rfl) (by kernel_rfl) (W.sr C0 (by kernel_rfl) (show (fun (E : W.Env) (w : World) => W.srK Try.prog C0 (fun E w => W.srK Try.prog C1 (fun E w => W.srK Try.prog C11 (fun E w => W.condK (W.Env.val E (.tmp 11)) (W.srK Try.prog C13 (fun E w => W.retVC Try.prog Try.f28 E w (fun v => R (.returned v) w)) E w) (W.srK Try.prog C3 (fun E w => W.srK Try.prog C14 (fun E w => W.condK (W.Env.val E (.tmp 16)) (W.srK Try.prog C16 (fun E w => W.retVC Try.prog Try.f28 E w (fun v => R (.returned v) w)) E w) (W.srK Try.prog C6 (fun E w => W.condK (W.Env.val E (.tmp 28)) (KE_S0 E w R) (W.srK Try.prog C9 (fun E w => W.retVC Try.prog Try.f28 E w (fun v => R (.returned v) w)) E w)) E w)) E w) E w)) E w) E w) E w) (W.envOf 0 [.agg #[.int .i64 a0_0, .int .i64 a0_1, .int .i64 a0_2, .int .u64 a0_3, .string a0_4, a0_5.v], .agg #[.int .i64 b1_0, .int .i64 b1_1, .int .i64 b1_2, .int .u64 b1_3, .string b1_4, b1_5.v]]) w from Eq.mp (by kernel_rfl) h) fun _ _ hK => (W.sr C1 (by kernel_rfl) hK fun _ _ hK => (W.sq C2 (by kernel_rfl) (W.sr C11 (by kernel_rfl) hK fun _ _ hK => (W.cn C12 (by kernel_rfl) hK (fun hK => (W.sr C13 (by kernel_rfl) hK fun _ _ hK => (W.rt C17 (by kernel_rfl) fun a hA => W.retVC_sound hA hK))) (fun hK => (W.sk C18 (by kernel_rfl) fun a hA => W.nx hA (W.sr C3 (by kernel_rfl) hK fun _ _ hK => (W.sq C4 (by kernel_rfl) (W.sr C14 (by kernel_rfl) hK fun _ _ hK => (W.cn C15 (by kernel_rfl) hK (fun hK => (W.sr C16 (by kernel_rfl) hK fun _ _ hK => (W.rt C19 (by kernel_rfl) fun a hA => W.retVC_sound hA hK))) (fun hK => (W.sk C20 (by kernel_rfl) fun a hA => W.nx hA (W.sq C5 (by kernel_rfl) (W.sr C6 (by kernel_rfl) hK fun _ _ hK => (W.cn C7 (by kernel_rfl) hK (fun hK => (KE_S0_ok R _ _ hK)) (fun hK => (W.sk C21 (by kernel_rfl) fun a hA => W.nx hA (W.sr C9 (by kernel_rfl) hK fun _ _ hK => (W.rt C22 (by kernel_rfl) fun a hA => W.retVC_sound hA hK))))))))))))))))))))
abbrev S0T  (w : World) (R : W.Post) : Prop :=
  R (.returned (.tuple #[.int .u64 0, .int .i64 9])) w
theorem S0T_ok  {w : World} {R : W.Post} (h : S0T  w R) (H : W.LC w []) : S0  w R := h
theorem okT (a0_0 a0_1 a0_2 a0_3 : Int) (a0_4 : ByteArray) (a0_5 : W.Sl) (b1_0 b1_1 b1_2 b1_3 : Int) (b1_4 : ByteArray) (b1_5 : W.Sl) (w : World) (R : W.Post) (h : W.newV [] w fun b2 w1 => 
  W.newV [b2] w1 fun b3 w2 => 
  W.callF [b2, b3] Try.prog n_enthymemeref06_Valid #[.agg #[.int .i64 a0_0, .int .i64 a0_1, .int .i64 a0_2, .int .u64 a0_3, .string a0_4, a0_5.v]] w2 fun r_ w3 => ∃ t9 : Int, r_ = .returned (.int .i64 t9) ∧ 
  W.sel (t9 != 0) (R (.returned (.tuple #[.int .u64 0, .int .i64 t9])) w3) (W.callF [b2, b3] Try.prog n_enthymemeref06_Valid #[.agg #[.int .i64 b1_0, .int .i64 b1_1, .int .i64 b1_2, .int .u64 b1_3, .string b1_4, b1_5.v]] w3 fun r_ w4 => ∃ t14 : Int, r_ = .returned (.int .i64 t14) ∧ 
  W.sel (t14 != 0) (R (.returned (.tuple #[.int .u64 0, .int .i64 t14])) w4) (W.callF [b2, b3] Try.prog n_enthymemeref06_Array #[.agg #[.int .i64 a0_0, .int .i64 a0_1, .int .i64 a0_2]] w4 fun r_ w5 => ∃ t20 : Bool, r_ = .returned (.bool t20) ∧ 
  W.sel (!t20) (S0T  w5 R) (W.sel (!((a0_0 == b1_0) && ((a0_1 == b1_1) && ((a0_2 == b1_2) && true)))) (S0T  w5 R) (W.callF [b2, b3] Try.prog n_enthymemeref06_Least #[.agg #[.int .i64 a0_0, .int .i64 a0_1, .int .i64 a0_2, .int .u64 a0_3, .string a0_4, a0_5.v], .agg #[.int .i64 b1_0, .int .i64 b1_1, .int .i64 b1_2, .int .u64 b1_3, .string b1_4, b1_5.v]] w5 fun r_ w6 => ∃ t31 : Int, r_ = .returned (.int .u64 t31) ∧ 
  R (.returned (.tuple #[.int .u64 t31, .int .i64 0])) w6))))) : Calls Try.prog n_enthymemeref06_Diff #[.agg #[.int .i64 a0_0, .int .i64 a0_1, .int .i64 a0_2, .int .u64 a0_3, .string a0_4, a0_5.v], .agg #[.int .i64 b1_0, .int .i64 b1_1, .int .i64 b1_2, .int .u64 b1_3, .string b1_4, b1_5.v]] w R :=
  ok _ _ _ _ _ _ _ _ _ _ _ _ w R (W.LC.nwT (W.LC.nil _) (W.Fr.refl _ _) h fun w1 H h => W.LC.nwT H (W.Fr.refl _ _) h fun w2 H h => ⟨_, _, _, _, _, a0_5, H.ld 0 0, H.ld 0 1, H.ld 0 2, H.ld 0 3, H.ld 0 4, H.ld 0 5, W.LC.callT H h fun r_ w3 H h => let ⟨t9, hr, h⟩ := h; ⟨t9, hr, W.sel_imp h (fun h => h) (fun h => ⟨_, _, _, _, _, b1_5, H.ld 1 0, H.ld 1 1, H.ld 1 2, H.ld 1 3, H.ld 1 4, H.ld 1 5, W.LC.callT H h fun r_ w4 H h => let ⟨t14, hr, h⟩ := h; ⟨t14, hr, W.sel_imp h (fun h => h) (fun h => ⟨_, _, _, H.ld 0 0, H.ld 0 1, H.ld 0 2, W.LC.callT H h fun r_ w5 H h => let ⟨t20, hr, h⟩ := h; ⟨t20, hr, W.sel_imp h (fun h => S0T_ok h (W.LC.nil _)) (fun h => ⟨_, _, _, H.ld 0 0, H.ld 0 1, H.ld 0 2, ⟨_, _, _, H.ld 1 0, H.ld 1 1, H.ld 1 2, W.sel_imp h (fun h => S0T_ok h (W.LC.nil _)) (fun h => ⟨_, _, _, _, _, a0_5, H.ld 0 0, H.ld 0 1, H.ld 0 2, H.ld 0 3, H.ld 0 4, H.ld 0 5, ⟨_, _, _, _, _, b1_5, H.ld 1 0, H.ld 1 1, H.ld 1 2, H.ld 1 3, H.ld 1 4, H.ld 1 5, W.LC.callT H h fun r_ w6 H h => let ⟨t31, hr, h⟩ := h; ⟨t31, hr, h⟩⟩⟩)⟩⟩)⟩⟩)⟩⟩)⟩⟩)
end enthymemeref06_Diff
end Go.Proofs.Ytjjhfdjpmonlaaa

/- Printed by a program of ours (vcgen.py) from the dump: the conditions of the functions, and that they suffice. -/
import Derived.Test.YtjjhfdjpmonlaaaV
import Derived.Test.YtjjhfdjpmonlaaaY
set_option linter.unusedVariables false
set_option maxRecDepth 100000
set_option maxHeartbeats 2000000
namespace Go.Proofs.Ytjjhfdjpmonlaaa
open Go
namespace value_ValidSort
noncomputable def C0 : Code := (Try.f12.body).getD .skip
noncomputable def C1 := W.Code.snd C0
noncomputable def C2 := W.Code.snd C1
noncomputable def C3 := W.Code.snd C2
noncomputable def C4 := W.Code.fst C3
noncomputable def C5 := W.Code.snd C4
noncomputable def C6 := W.Code.fst C5
noncomputable def C7 := W.Code.snd C3
abbrev Q0 (R : W.Post) : Exit → Act → World → Prop := (Exit.then (W.wpx Try.prog (W.cx 46) C7 (bodyPost Try.prog Try.f12 R)) (bodyPost Try.prog Try.f12 R))
noncomputable def C8 := W.Code.snd C6
/-- value.go:42 -/
abbrev S1  (w : World) (R : W.Post) : Prop :=
  R (.returned (.int .i64 9)) w
def KE_S1 (E : W.Env) (w : World) (R : W.Post) : Prop := S1  w R
theorem KE_S1_ok (R : W.Post) (E : W.Env) (w : World) (h : KE_S1 E w R) : W.WP Try.prog (W.cx 46) C6 (Q0 R) E w := by
  exact fun a ha => W.WP.at (E := []) (W.sr C6 (K := fun E w => W.retVC Try.prog Try.f12 E w (fun v => R (.returned v) w)) (by kernel_rfl) (Eq.mp (by kernel_rfl) h) fun _ _ hK => (W.rt C8 (by kernel_rfl) fun a hA => W.retVC_sound hA hK)) ha.nil
noncomputable def C9 := W.Code.fst C7
noncomputable def C10 := W.Code.snd C9
noncomputable def C11 := W.Code.fst C10
noncomputable def C12 := W.Code.snd C7
abbrev Q1 (R : W.Post) : Exit → Act → World → Prop := (Exit.then (W.wpx Try.prog (W.cx 46) C12 (bodyPost Try.prog Try.f12 R)) (bodyPost Try.prog Try.f12 R))
noncomputable def C13 := W.Code.snd C11
/-- value.go:45 -/
abbrev S2  (w : World) (R : W.Post) : Prop :=
  R (.returned (.int .i64 9)) w
def KE_S2 (E : W.Env) (w : World) (R : W.Post) : Prop := S2  w R
theorem KE_S2_ok (R : W.Post) (E : W.Env) (w : World) (h : KE_S2 E w R) : W.WP Try.prog (W.cx 46) C11 (Q1 R) E w := by
  exact fun a ha => W.WP.at (E := []) (W.sr C11 (K := fun E w => W.retVC Try.prog Try.f12 E w (fun v => R (.returned v) w)) (by kernel_rfl) (Eq.mp (by kernel_rfl) h) fun _ _ hK => (W.rt C13 (by kernel_rfl) fun a hA => W.retVC_sound hA hK)) ha.nil
abbrev Q2 (R : W.Post) : Exit → Act → World → Prop := (bodyPost Try.prog Try.f12 R)
noncomputable def C14 := W.Code.snd C12
/-- value.go:47 -/
abbrev S3  (w : World) (R : W.Post) : Prop :=
  R (.returned (.int .i64 0)) w
def KE_S3 (E : W.Env) (w : World) (R : W.Post) : Prop := S3  w R
theorem KE_S3_ok (R : W.Post) (E : W.Env) (w : World) (h : KE_S3 E w R) : W.WP Try.prog (W.cx 46) C12 (Q2 R) E w := by
  exact fun a ha => W.WP.at (E := []) (W.sr C12 (K := fun E w => W.retVC Try.prog Try.f12 E w (fun v => R (.returned v) w)) (by kernel_rfl) (Eq.mp (by kernel_rfl) h) fun _ _ hK => (W.rt C14 (by kernel_rfl) fun a hA => W.retVC_sound hA hK)) ha.nil
noncomputable def C15 := W.Code.snd C5
noncomputable def C16 := W.Code.snd C10
/-- value.go:41 -/
abbrev S0 (s1 : Addr) (least3 most4 : Int) (index5 : Bool) (w : World) (R : W.Post) : Prop :=
  ∃ t17 : Int, w.cell? (s1.add 1) = some (.int .i64 t17) ∧ 
  W.sel (decide (t17 < least3)) (S1  w R) (∃ t22 : Int, w.cell? (s1.add 1) = some (.int .i64 t22) ∧ 
  W.sel (decide (t22 > most4)) (S1  w R) (W.sel index5 (∃ t29 : Int, w.cell? (s1.add 2) = some (.int .i64 t29) ∧ 
  W.sel (decide (t29 < 1)) (S2  w R) (∃ t33 : Int, w.cell? (s1.add 2) = some (.int .i64 t33) ∧ 
  W.sel (decide (t33 > 16)) (S2  w R) (W.sel (!index5) (∃ t42 : Int, w.cell? (s1.add 2) = some (.int .i64 t42) ∧ 
  W.sel (t42 != 0) (S2  w R) (S3  w R)) (S3  w R)))) (W.sel (!index5) (∃ t42_x1 : Int, w.cell? (s1.add 2) = some (.int .i64 t42_x1) ∧ 
  W.sel (t42_x1 != 0) (S2  w R) (S3  w R)) (S3  w R))))
def KE_S0 (E : W.Env) (w : World) (R : W.Post) : Prop := W.asRef (W.Env.get? E 1) fun s1 => W.asInt .i64 (W.Env.get? E 3) fun least3 => W.asInt .i64 (W.Env.get? E 4) fun most4 => W.asBool' (W.Env.get? E 5) fun index5 => S0 s1 least3 most4 index5 w R
theorem KE_S0_ok (R : W.Post) (E : W.Env) (w : World) (h : KE_S0 E w R) : W.WP Try.prog (W.cx 46) C4 (Q0 R) E w := by
  obtain ⟨s1, hq1, h_1⟩ := W.asRef_elim h
  obtain ⟨least3, hq3, h_2⟩ := W.asInt_elim h_1
  obtain ⟨most4, hq4, h_3⟩ := W.asInt_elim h_2
  obtain ⟨index5, hq5, h_4⟩ := W.asBool_elim h_3
  exact fun a ha => W.WP.at (E := [(1, .pointer (some s1)), (3, .int .i64 least3), (4, .int .i64 most4), (5, .bool index5)]) (W.sr C4 (K := fun E w => W.condK (W.Env.val E (.tmp 25)) (KE_S1 E w R) (W.srK Try.prog C9 (fun E w => W.condK (W.Env.val E (.tmp 45)) (KE_S2 E w R) (KE_S3 E w R)) E w)) (by kernel_rfl) (Eq.mp (by kernel_rfl) h_4) fun _ _ hK => (W.cn C5 (by kernel_rfl) hK (fun hK => (KE_S1_ok R _ _ hK)) (fun hK => (W.sk C15 (by kernel_rfl) fun a hA => W.nx hA (W.sq C7 (by kernel_rfl) (W.sr C9 (by kernel_rfl) hK fun _ _ hK => (W.cn C10 (by kernel_rfl) hK (fun hK => (KE_S2_ok R _ _ hK)) (fun hK => (W.sk C16 (by kernel_rfl) fun a hA => W.nx hA (KE_S3_ok R _ _ hK)))))))))) (ha.cons hq1 (ha.cons hq3 (ha.cons hq4 (ha.cons hq5 ha.nil))))
/-- enthymeme/value.ValidSort -/
noncomputable def C17 := W.Code.fst C2
noncomputable def C18 := W.Code.snd C17
noncomputable def C19 := W.Code.fst C18
noncomputable def C20 := W.Code.snd C19
noncomputable def C21 := W.Code.snd C20
noncomputable def C22 := W.Code.snd C21
noncomputable def C23 := W.Code.fst C22
noncomputable def C24 := W.Code.snd C22
noncomputable def C25 := W.Code.snd C24
noncomputable def C26 := W.Code.fst C25
noncomputable def C27 := W.Code.snd C25
noncomputable def C28 := W.Code.snd C27
noncomputable def C29 := W.Code.fst C28
noncomputable def C30 := W.Code.snd C28
noncomputable def C31 := W.Code.fst C20
noncomputable def C32 := W.Code.snd C30
theorem ok (s0_0 s0_1 s0_2 : Int) (w : World) (R : W.Post) (h : W.nwV w (.cells #[.int .i64 s0_0, .int .i64 s0_1, .int .i64 s0_2] ty_api_Sort) fun w1 => 
  ∃ t7 : Int, w1.cell? ((Addr.mk w.heap.size 0 none).add 0) = some (.int .i64 t7) ∧ 
  W.sel (t7 == 0) (S0 (Addr.mk w.heap.size 0 none) 1 64 false w1 R) (W.sel (t7 == 1) (S0 (Addr.mk w.heap.size 0 none) 0 64 false w1 R) (W.sel (t7 == 2) (S0 (Addr.mk w.heap.size 0 none) 1 64 true w1 R) (W.sel (t7 == 3) (S0 (Addr.mk w.heap.size 0 none) 0 64 true w1 R) (R (.returned (.int .i64 9)) w1))))) : Calls Try.prog n_value_ValidSort #[.agg #[.int .i64 s0_0, .int .i64 s0_1, .int .i64 s0_2]] w R :=
  W.calls_of_WP' (R := R) (fn := Try.f12) (c := C0) (args := [.agg #[.int .i64 s0_0, .int .i64 s0_1, .int .i64 s0_2]]) (by kernel_rfl) (by kernel_rfl) (by kernel_rfl) (W.sr C0 (by kernel_rfl) (show (fun (E : W.Env) (w : World) => W.srK Try.prog C0 (fun E w => W.srK Try.prog C1 (fun E w => W.srK Try.prog C17 (fun E w => W.srK Try.prog C19 (fun E w => W.condK (W.Env.val E (.tmp 8)) (KE_S0 E w R) (W.srK Try.prog C21 (fun E w => W.condK (W.Env.val E (.tmp 10)) (W.rgK Try.prog C23 (fun E w => KE_S0 E w R) E w) (W.srK Try.prog C24 (fun E w => W.condK (W.Env.val E (.tmp 12)) (W.rgK Try.prog C26 (fun E w => KE_S0 E w R) E w) (W.srK Try.prog C27 (fun E w => W.condK (W.Env.val E (.tmp 14)) (W.rgK Try.prog C29 (fun E w => KE_S0 E w R) E w) (W.srK Try.prog C30 (fun E w => W.retVC Try.prog Try.f12 E w (fun v => R (.returned v) w)) E w)) E w)) E w)) E w)) E w) E w) E w) E w) (W.envOf 0 [.agg #[.int .i64 s0_0, .int .i64 s0_1, .int .i64 s0_2]]) w from Eq.mp (by kernel_rfl) h) fun _ _ hK => (W.sr C1 (by kernel_rfl) hK fun _ _ hK => (W.sq C2 (by kernel_rfl) (W.sr C17 (by kernel_rfl) hK fun _ _ hK => (W.bk C18 0 (by kernel_rfl) (W.sr C19 (by kernel_rfl) hK fun _ _ hK => (W.cn C20 (by kernel_rfl) hK (fun hK => (W.sk C31 (by kernel_rfl) fun a hA => W.nx hA (W.sq C3 (by kernel_rfl) (KE_S0_ok R _ _ hK)))) (fun hK => (W.sr C21 (by kernel_rfl) hK fun _ _ hK => (W.cn C22 (by kernel_rfl) hK (fun hK => (W.rg C23 (by kernel_rfl) hK fun _ _ a hA hK => W.nx hA (W.sq C3 (by kernel_rfl) (KE_S0_ok R _ _ hK)))) (fun hK => (W.sr C24 (by kernel_rfl) hK fun _ _ hK => (W.cn C25 (by kernel_rfl) hK (fun hK => (W.rg C26 (by kernel_rfl) hK fun _ _ a hA hK => W.nx hA (W.sq C3 (by kernel_rfl) (KE_S0_ok R _ _ hK)))) (fun hK => (W.sr C27 (by kernel_rfl) hK fun _ _ hK => (W.cn C28 (by kernel_rfl) hK (fun hK => (W.rg C29 (by kernel_rfl) hK fun _ _ a hA hK => W.nx hA (W.sq C3 (by kernel_rfl) (KE_S0_ok R _ _ hK)))) (fun hK => (W.sr C30 (by kernel_rfl) hK fun _ _ hK => (W.rt C32 (by kernel_rfl) fun a hA => W.retVC_sound hA hK)))))))))))))))))))
abbrev S1T  (w : World) (R : W.Post) : Prop :=
  R (.returned (.int .i64 9)) w
theorem S1T_ok  {w : World} {R : W.Post} (h : S1T  w R) (H : W.LC w []) : S1  w R := h
abbrev S2T  (w : World) (R : W.Post) : Prop :=
  R (.returned (.int .i64 9)) w
theorem S2T_ok  {w : World} {R : W.Post} (h : S2T  w R) (H : W.LC w []) : S2  w R := h
abbrev S3T  (w : World) (R : W.Post) : Prop :=
  R (.returned (.int .i64 0)) w
theorem S3T_ok  {w : World} {R : W.Post} (h : S3T  w R) (H : W.LC w []) : S3  w R := h
abbrev S0T (s1 : Nat) (s1_0 s1_1 s1_2 least3 most4 : Int) (index5 : Bool) (w : World) (R : W.Post) : Prop :=
  W.sel (decide (s1_1 < least3)) (S1T  w R) (W.sel (decide (s1_1 > most4)) (S1T  w R) (W.sel index5 (W.sel (decide (s1_2 < 1)) (S2T  w R) (W.sel (decide (s1_2 > 16)) (S2T  w R) (W.sel (!index5) (W.sel (s1_2 != 0) (S2T  w R) (S3T  w R)) (S3T  w R)))) (W.sel (!index5) (W.sel (s1_2 != 0) (S2T  w R) (S3T  w R)) (S3T  w R))))
theorem S0T_ok {s1 : Nat} {s1_0 s1_1 s1_2 least3 most4 : Int} {index5 : Bool} {w : World} {R : W.Post} (h : S0T s1 s1_0 s1_1 s1_2 least3 most4 index5 w R) (H : W.LC w [(s1, [.int .i64 s1_0, .int .i64 s1_1, .int .i64 s1_2], ty_api_Sort)]) : S0 (W.at0 s1) least3 most4 index5 w R := ⟨_, H.ld 0 1, W.sel_imp h (fun h => S1T_ok h (W.LC.nil _)) (fun h => ⟨_, H.ld 0 1, W.sel_imp h (fun h => S1T_ok h (W.LC.nil _)) (fun h => W.sel_imp h (fun h => ⟨_, H.ld 0 2, W.sel_imp h (fun h => S2T_ok h (W.LC.nil _)) (fun h => ⟨_, H.ld 0 2, W.sel_imp h (fun h => S2T_ok h (W.LC.nil _)) (fun h => W.sel_imp h (fun h => ⟨_, H.ld 0 2, W.sel_imp h (fun h => S2T_ok h (W.LC.nil _)) (fun h => S3T_ok h (W.LC.nil _))⟩) (fun h => S3T_ok h (W.LC.nil _)))⟩)⟩) (fun h => W.sel_imp h (fun h => ⟨_, H.ld 0 2, W.sel_imp h (fun h => S2T_ok h (W.LC.nil _)) (fun h => S3T_ok h (W.LC.nil _))⟩) (fun h => S3T_ok h (W.LC.nil _))))⟩)⟩
theorem okT (s0_0 s0_1 s0_2 : Int) (w : World) (R : W.Post) (h : W.newV [] w fun b1 w1 => 
  W.sel (s0_0 == 0) (S0T b1 s0_0 s0_1 s0_2 1 64 false w1 R) (W.sel (s0_0 == 1) (S0T b1 s0_0 s0_1 s0_2 0 64 false w1 R) (W.sel (s0_0 == 2) (S0T b1 s0_0 s0_1 s0_2 1 64 true w1 R) (W.sel (s0_0 == 3) (S0T b1 s0_0 s0_1 s0_2 0 64 true w1 R) (R (.returned (.int .i64 9)) w1))))) : Calls Try.prog n_value_ValidSort #[.agg #[.int .i64 s0_0, .int .i64 s0_1, .int .i64 s0_2]] w R :=
  ok _ _ _ w R (W.LC.nwT (W.LC.nil _) (W.Fr.refl _ _) h fun w1 H h => ⟨_, H.ld 0 0, W.sel_imp h (fun h => S0T_ok h H) (fun h => W.sel_imp h (fun h => S0T_ok h H) (fun h => W.sel_imp h (fun h => S0T_ok h H) (fun h => W.sel_imp h (fun h => S0T_ok h H) (fun h => h))))⟩)
end value_ValidSort
namespace value_below
noncomputable def C0 : Code := (Try.f41.body).getD .skip
/-- enthymeme/value.below -/
noncomputable def C1 := W.Code.snd C0
noncomputable def C2 := W.Code.snd C1
theorem ok (u0 n1 : Int) (w : World) (R : W.Post) (h : W.sel (n1 == 64) (R (.returned (.bool true)) w) (¬ n1 < 0 ∧ R (.returned (.bool (decide (u0 < (IntKind.wrap .u64 (1 * 2 ^ (min (Int.toNat n1) (IntKind.bits .u64)))))))) w)) : Calls Try.prog n_value_below #[.int .u64 u0, .int .i64 n1] w R :=
  W.calls_of_WP' (R := R) (fn := Try.f41) (c := C0) (args := [.int .u64 u0, .int .i64 n1]) (by kernel_rfl) (by kernel_rfl) (by kernel_rfl) (W.sr C0 (by kernel_rfl) (show (fun (E : W.Env) (w : World) => W.srK Try.prog C0 (fun E w => W.srK Try.prog C1 (fun E w => W.retVC Try.prog Try.f41 E w (fun v => R (.returned v) w)) E w) E w) (W.envOf 0 [.int .u64 u0, .int .i64 n1]) w from Eq.mp (by kernel_rfl) h) fun _ _ hK => (W.sr C1 (by kernel_rfl) hK fun _ _ hK => (W.rt C2 (by kernel_rfl) fun a hA => W.retVC_sound hA hK)))
end value_below
namespace value_isArray
noncomputable def C0 : Code := (Try.f49.body).getD .skip
/-- enthymeme/value.isArray -/
noncomputable def C1 := W.Code.snd C0
noncomputable def C2 := W.Code.snd C1
theorem ok (s0_0 s0_1 s0_2 : Int) (w : World) (R : W.Post) (h : W.nwV w (.cells #[.int .i64 s0_0, .int .i64 s0_1, .int .i64 s0_2] ty_api_Sort) fun w1 => 
  ∃ t4 : Int, w1.cell? ((Addr.mk w.heap.size 0 none).add 0) = some (.int .i64 t4) ∧ 
  W.sel (t4 == 2) (R (.returned (.bool true)) w1) (∃ t8 : Int, w1.cell? ((Addr.mk w.heap.size 0 none).add 0) = some (.int .i64 t8) ∧ 
  R (.returned (.bool (t8 == 3))) w1)) : Calls Try.prog n_value_isArray #[.agg #[.int .i64 s0_0, .int .i64 s0_1, .int .i64 s0_2]] w R :=
  W.calls_of_WP' (R := R) (fn := Try.f49) (c := C0) (args := [.agg #[.int .i64 s0_0, .int .i64 s0_1, .int .i64 s0_2]]) (by kernel_rfl) (by kernel_rfl) (by kernel_rfl) (W.sr C0 (by kernel_rfl) (show (fun (E : W.Env) (w : World) => W.srK Try.prog C0 (fun E w => W.srK Try.prog C1 (fun E w => W.retVC Try.prog Try.f49 E w (fun v => R (.returned v) w)) E w) E w) (W.envOf 0 [.agg #[.int .i64 s0_0, .int .i64 s0_1, .int .i64 s0_2]]) w from Eq.mp (by kernel_rfl) h) fun _ _ hK => (W.sr C1 (by kernel_rfl) hK fun _ _ hK => (W.rt C2 (by kernel_rfl) fun a hA => W.retVC_sound hA hK)))
theorem okT (s0_0 s0_1 s0_2 : Int) (w : World) (R : W.Post) (h : W.newV [] w fun b1 w1 => 
  W.sel (s0_0 == 2) (R (.returned (.bool true)) w1) (R (.returned (.bool (s0_0 == 3))) w1)) : Calls Try.prog n_value_isArray #[.agg #[.int .i64 s0_0, .int .i64 s0_1, .int .i64 s0_2]] w R :=
  ok _ _ _ w R (W.LC.nwT (W.LC.nil _) (W.Fr.refl _ _) h fun w1 H h => ⟨_, H.ld 0 0, W.sel_imp h (fun h => h) (fun h => ⟨_, H.ld 0 0, h⟩)⟩)
end value_isArray
namespace value_validMap
noncomputable def C0 : Code := (Try.f42.body).getD .skip
noncomputable def C1 := W.Code.snd C0
noncomputable def C2 := W.Code.fst C1
noncomputable def C3 := W.Code.snd C2
noncomputable def C4 := W.Code.fst C3
noncomputable def C5 := W.Code.fst C4
noncomputable def C6 := W.Code.snd C1
abbrev Q0 (R : W.Post) : Exit → Act → World → Prop := (Exit.then (W.wpx Try.prog (W.cx 75) C6 (bodyPost Try.prog Try.f42 R)) (bodyPost Try.prog Try.f42 R))
abbrev Q1 (R : W.Post) : Exit → Act → World → Prop := (Exit.inBlock 0 (Q0 R))
/-- the head of the loop, value.go:80 -/
def L0 (l1 : W.Sl) (s2 : Addr) (t7 : W.Sl) (t8 t9 : Int) (w : World) (R : W.Post) : Prop := W.LP Try.prog (W.cx 75) C5 (Q1 R) [(1, l1.v), (2, .pointer (some s2)), (7, t7.v), (8, .int .i64 t8), (9, .int .i64 t9)] w
def KE_L0 (E : W.Env) (w : World) (R : W.Post) : Prop := W.asSlice (W.Env.get? E 1) fun l1 => W.asRef (W.Env.get? E 2) fun s2 => W.asSlice (W.Env.get? E 7) fun t7 => W.asInt .i64 (W.Env.get? E 8) fun t8 => W.asInt .i64 (W.Env.get? E 9) fun t9 => L0 l1 s2 t7 t8 t9 w R
theorem KE_L0_ok (R : W.Post) (E : W.Env) (w : World) (h : KE_L0 E w R) : W.LP Try.prog (W.cx 75) C5 (Q1 R) E w := by
  obtain ⟨l1, hq1, h_1⟩ := W.asSlice_elim h
  obtain ⟨s2, hq2, h_2⟩ := W.asRef_elim h_1
  obtain ⟨t7, hq7, h_3⟩ := W.asSlice_elim h_2
  obtain ⟨t8, hq8, h_4⟩ := W.asInt_elim h_3
  obtain ⟨t9, hq9, h_5⟩ := W.asInt_elim h_4
  intro a ha
  exact h_5 a (ha.cons hq1 (ha.cons hq2 (ha.cons hq7 (ha.cons hq8 (ha.cons hq9 ha.nil)))))
noncomputable def C7 := W.Code.snd C5
noncomputable def C8 := W.Code.snd C7
noncomputable def C9 := W.Code.fst C8
noncomputable def C10 := W.Code.fst C9
noncomputable def C11 := W.Code.snd C10
noncomputable def C12 := W.Code.fst C11
noncomputable def C13 := W.Code.snd C12
noncomputable def C14 := W.Code.fst C13
noncomputable def C15 := W.Code.snd C8
abbrev Q2 (R : W.Post) : Exit → Act → World → Prop := (Exit.then (W.wpx Try.prog (W.cx 75) C15 (Exit.then (W.LoopWP Try.prog (W.cx 75) C5 (Q1 R)) (Q1 R))) (Exit.then (W.LoopWP Try.prog (W.cx 75) C5 (Q1 R)) (Q1 R)))
noncomputable def C16 := W.Code.snd C11
abbrev Q3 (R : W.Post) : Exit → Act → World → Prop := (Exit.then (W.wpx Try.prog (W.cx 75) C16 (Exit.inBlock 1 (Q2 R))) (Exit.inBlock 1 (Q2 R)))
noncomputable def C17 := W.Code.snd C14
/-- value.go:82 -/
abbrev S1  (w : World) (R : W.Post) : Prop :=
  R (.returned (.bool false)) w
def KE_S1 (E : W.Env) (w : World) (R : W.Post) : Prop := S1  w R
theorem KE_S1_ok (R : W.Post) (E : W.Env) (w : World) (h : KE_S1 E w R) : W.WP Try.prog (W.cx 75) C14 (Q3 R) E w := by
  exact fun a ha => W.WP.at (E := []) (W.sr C14 (K := fun E w => W.retVC Try.prog Try.f42 E w (fun v => R (.returned v) w)) (by kernel_rfl) (Eq.mp (by kernel_rfl) h) fun _ _ hK => (W.rt C17 (by kernel_rfl) fun a hA => W.retVC_sound hA hK)) ha.nil
noncomputable def C18 := W.Code.fst C16
noncomputable def C19 := W.Code.snd C18
noncomputable def C20 := W.Code.fst C19
noncomputable def C21 := W.Code.snd C16
abbrev Q4 (R : W.Post) : Exit → Act → World → Prop := (Exit.then (W.wpx Try.prog (W.cx 75) C21 (Exit.inBlock 1 (Q2 R))) (Exit.inBlock 1 (Q2 R)))
noncomputable def C22 := W.Code.snd C20
/-- value.go:85 -/
abbrev S3  (w : World) (R : W.Post) : Prop :=
  R (.returned (.bool false)) w
def KE_S3 (E : W.Env) (w : World) (R : W.Post) : Prop := S3  w R
theorem KE_S3_ok (R : W.Post) (E : W.Env) (w : World) (h : KE_S3 E w R) : W.WP Try.prog (W.cx 75) C20 (Q4 R) E w := by
  exact fun a ha => W.WP.at (E := []) (W.sr C20 (K := fun E w => W.retVC Try.prog Try.f42 E w (fun v => R (.returned v) w)) (by kernel_rfl) (Eq.mp (by kernel_rfl) h) fun _ _ hK => (W.rt C22 (by kernel_rfl) fun a hA => W.retVC_sound hA hK)) ha.nil
noncomputable def C23 := W.Code.snd C21
noncomputable def C24 := W.Code.fst C23
abbrev Q5 (R : W.Post) : Exit → Act → World → Prop := (Exit.inBlock 1 (Q2 R))
noncomputable def C25 := W.Code.snd C24
/-- value.go:88 -/
abbrev S5  (w : World) (R : W.Post) : Prop :=
  R (.returned (.bool false)) w
def KE_S5 (E : W.Env) (w : World) (R : W.Post) : Prop := S5  w R
theorem KE_S5_ok (R : W.Post) (E : W.Env) (w : World) (h : KE_S5 E w R) : W.WP Try.prog (W.cx 75) C24 (Q5 R) E w := by
  exact fun a ha => W.WP.at (E := []) (W.sr C24 (K := fun E w => W.retVC Try.prog Try.f42 E w (fun v => R (.returned v) w)) (by kernel_rfl) (Eq.mp (by kernel_rfl) h) fun _ _ hK => (W.rt C25 (by kernel_rfl) fun a hA => W.retVC_sound hA hK)) ha.nil
abbrev Q6 (R : W.Post) : Exit → Act → World → Prop := (Exit.then (W.LoopWP Try.prog (W.cx 75) C5 (Q1 R)) (Q1 R))
/-- value.go:80 -/
abbrev S6 (l1 : W.Sl) (s2 : Addr) (t7 : W.Sl) (t8 t9 : Int) (w : World) (R : W.Post) : Prop :=
  L0 l1 s2 t7 t8 (IntKind.wrap .i64 (t9 + 1)) w R
def KE_S6 (E : W.Env) (w : World) (R : W.Post) : Prop := W.asSlice (W.Env.get? E 1) fun l1 => W.asRef (W.Env.get? E 2) fun s2 => W.asSlice (W.Env.get? E 7) fun t7 => W.asInt .i64 (W.Env.get? E 8) fun t8 => W.asInt .i64 (W.Env.get? E 9) fun t9 => S6 l1 s2 t7 t8 t9 w R
theorem KE_S6_ok (R : W.Post) (E : W.Env) (w : World) (h : KE_S6 E w R) : W.WP Try.prog (W.cx 75) C15 (Q6 R) E w := by
  obtain ⟨l1, hq1, h_1⟩ := W.asSlice_elim h
  obtain ⟨s2, hq2, h_2⟩ := W.asRef_elim h_1
  obtain ⟨t7, hq7, h_3⟩ := W.asSlice_elim h_2
  obtain ⟨t8, hq8, h_4⟩ := W.asInt_elim h_3
  obtain ⟨t9, hq9, h_5⟩ := W.asInt_elim h_4
  exact fun a ha => W.WP.at (E := [(1, l1.v), (2, .pointer (some s2)), (7, t7.v), (8, .int .i64 t8), (9, .int .i64 t9)]) (W.rg C15 (K := fun E w => KE_L0 E w R) (by kernel_rfl) (Eq.mp (by kernel_rfl) h_5) fun _ _ a hA hK => KE_L0_ok R _ _ hK a hA) (ha.cons hq1 (ha.cons hq2 (ha.cons hq7 (ha.cons hq8 (ha.cons hq9 ha.nil)))))
noncomputable def C26 := W.Code.snd C23
/-- value.go:87 -/
abbrev S4 (l1 : W.Sl) (s2 x6 : Addr) (t7 : W.Sl) (t8 t9 : Int) (w : World) (R : W.Post) : Prop :=
  ∃ t59 : Int, w.cell? (s2.add 0) = some (.int .i64 t59) ∧ 
  W.sel (t59 == 3) (∃ t63 : Int, w.cell? (x6.add 1) = some (.int .u64 t63) ∧ 
  W.sel (t63 != 0) (S5  w R) (∃ t67 : ByteArray, w.cell? (x6.add 2) = some (.string t67) ∧ 
  ∃ t70 : Int, w.cell? (s2.add 1) = some (.int .i64 t70) ∧ 
  W.sel (decide (((t67.size : Nat) : Int) > t70)) (S5  w R) (S6 l1 s2 t7 t8 t9 w R))) (S6 l1 s2 t7 t8 t9 w R)
def KE_S4 (E : W.Env) (w : World) (R : W.Post) : Prop := W.asSlice (W.Env.get? E 1) fun l1 => W.asRef (W.Env.get? E 2) fun s2 => W.asRef (W.Env.get? E 6) fun x6 => W.asSlice (W.Env.get? E 7) fun t7 => W.asInt .i64 (W.Env.get? E 8) fun t8 => W.asInt .i64 (W.Env.get? E 9) fun t9 => S4 l1 s2 x6 t7 t8 t9 w R
theorem KE_S4_ok (R : W.Post) (E : W.Env) (w : World) (h : KE_S4 E w R) : W.WP Try.prog (W.cx 75) C21 (Q5 R) E w := by
  obtain ⟨l1, hq1, h_1⟩ := W.asSlice_elim h
  obtain ⟨s2, hq2, h_2⟩ := W.asRef_elim h_1
  obtain ⟨x6, hq6, h_3⟩ := W.asRef_elim h_2
  obtain ⟨t7, hq7, h_4⟩ := W.asSlice_elim h_3
  obtain ⟨t8, hq8, h_5⟩ := W.asInt_elim h_4
  obtain ⟨t9, hq9, h_6⟩ := W.asInt_elim h_5
  exact fun a ha => W.WP.at (E := [(1, l1.v), (2, .pointer (some s2)), (6, .pointer (some x6)), (7, t7.v), (8, .int .i64 t8), (9, .int .i64 t9)]) (W.sr C21 (K := fun E w => W.condK (W.Env.val E (.tmp 73)) (KE_S5 E w R) (KE_S6 E w R)) (by kernel_rfl) (Eq.mp (by kernel_rfl) h_6) fun _ _ hK => (W.cn C23 (by kernel_rfl) hK (fun hK => (KE_S5_ok R _ _ hK)) (fun hK => (W.sk C26 (by kernel_rfl) fun a hA => W.nx hA (KE_S6_ok R _ _ hK))))) (ha.cons hq1 (ha.cons hq2 (ha.cons hq6 (ha.cons hq7 (ha.cons hq8 (ha.cons hq9 ha.nil))))))
noncomputable def C27 := W.Code.snd C19
/-- value.go:84 -/
abbrev S2 (l1 : W.Sl) (s2 x6 : Addr) (t7 : W.Sl) (t8 t9 : Int) (w : World) (R : W.Post) : Prop :=
  ∃ t43 : Int, w.cell? (s2.add 0) = some (.int .i64 t43) ∧ 
  W.sel (t43 == 2) (∃ t47 : Int, w.cell? (x6.add 1) = some (.int .u64 t47) ∧ 
  ∃ t49 : Int, w.cell? (s2.add 1) = some (.int .i64 t49) ∧ 
  Calls Try.prog n_value_below #[.int .u64 t47, .int .i64 t49] w fun r_ w1 => ∃ t50 : Bool, r_ = .returned (.bool t50) ∧ 
  W.sel (!t50) (S3  w1 R) (∃ t54 : ByteArray, w1.cell? (x6.add 2) = some (.string t54) ∧ 
  W.sel (!(t54.toList == (ByteArray.mk #[]).toList)) (S3  w1 R) (S4 l1 s2 x6 t7 t8 t9 w1 R))) (S4 l1 s2 x6 t7 t8 t9 w R)
def KE_S2 (E : W.Env) (w : World) (R : W.Post) : Prop := W.asSlice (W.Env.get? E 1) fun l1 => W.asRef (W.Env.get? E 2) fun s2 => W.asRef (W.Env.get? E 6) fun x6 => W.asSlice (W.Env.get? E 7) fun t7 => W.asInt .i64 (W.Env.get? E 8) fun t8 => W.asInt .i64 (W.Env.get? E 9) fun t9 => S2 l1 s2 x6 t7 t8 t9 w R
theorem KE_S2_ok (R : W.Post) (E : W.Env) (w : World) (h : KE_S2 E w R) : W.WP Try.prog (W.cx 75) C18 (Q4 R) E w := by
  obtain ⟨l1, hq1, h_1⟩ := W.asSlice_elim h
  obtain ⟨s2, hq2, h_2⟩ := W.asRef_elim h_1
  obtain ⟨x6, hq6, h_3⟩ := W.asRef_elim h_2
  obtain ⟨t7, hq7, h_4⟩ := W.asSlice_elim h_3
  obtain ⟨t8, hq8, h_5⟩ := W.asInt_elim h_4
  obtain ⟨t9, hq9, h_6⟩ := W.asInt_elim h_5
  exact fun a ha => W.WP.at (E := [(1, l1.v), (2, .pointer (some s2)), (6, .pointer (some x6)), (7, t7.v), (8, .int .i64 t8), (9, .int .i64 t9)]) (W.sr C18 (K := fun E w => W.condK (W.Env.val E (.tmp 57)) (KE_S3 E w R) (KE_S4 E w R)) (by kernel_rfl) (Eq.mp (by kernel_rfl) h_6) fun _ _ hK => (W.cn C19 (by kernel_rfl) hK (fun hK => (KE_S3_ok R _ _ hK)) (fun hK => (W.sk C27 (by kernel_rfl) fun a hA => W.nx hA (KE_S4_ok R _ _ hK))))) (ha.cons hq1 (ha.cons hq2 (ha.cons hq6 (ha.cons hq7 (ha.cons hq8 (ha.cons hq9 ha.nil))))))
noncomputable def C28 := W.Code.fst C7
noncomputable def C29 := W.Code.fst C28
noncomputable def C30 := W.Code.snd C13
noncomputable def C31 := W.Code.snd C28
noncomputable def C32 := W.Code.snd C6
theorem L0_step (l1 : W.Sl) (s2 : Addr) (t7 : W.Sl) (t8 t9 : Int) (w : World) (R : W.Post) (h : W.sel (decide (t9 < t8)) ((0 : Int) ≤ t9 ∧ t9 < ((t7.n : Nat) : Int) ∧ W.optP t7.a fun t12_p => ∃ t13_0 : Int, ∃ t13_1 : Int, ∃ t13_2 : ByteArray, w.cell? ((t12_p.add (Int.toNat t9 * 3)).add 0) = some (.int .u64 t13_0) ∧ w.cell? ((t12_p.add (Int.toNat t9 * 3)).add 1) = some (.int .u64 t13_1) ∧ w.cell? ((t12_p.add (Int.toNat t9 * 3)).add 2) = some (.string t13_2) ∧ 
  W.nwV w (.cells #[.int .u64 0, .int .u64 0, .string (ByteArray.mk #[])] ty_value_Entry) fun w2 => 
  W.stV w2 (Addr.mk w.heap.size 0 none) (.int .u64 t13_0) fun w3 => 
  W.stV w3 ((Addr.mk w.heap.size 0 none).add 1) (.int .u64 t13_1) fun w4 => 
  W.stV w4 ((Addr.mk w.heap.size 0 none).add 2) (.string t13_2) fun w5 => 
  W.drV w5 fun w6 => W.sel (decide (t9 > 0)) (∃ t18 : Int, w6.cell? ((Addr.mk w.heap.size 0 none).add 0) = some (.int .u64 t18) ∧ 
  (0 : Int) ≤ (IntKind.wrap .i64 (t9 - 1)) ∧ (IntKind.wrap .i64 (t9 - 1)) < ((l1.n : Nat) : Int) ∧ W.optP l1.a fun t22_p => ∃ t24 : Int, w6.cell? ((t22_p.add (Int.toNat (IntKind.wrap .i64 (t9 - 1)) * 3)).add 0) = some (.int .u64 t24) ∧ 
  W.sel (decide (t18 ≤ t24)) (S1  w6 R) (∃ t29 : Int, w6.cell? ((Addr.mk w.heap.size 0 none).add 0) = some (.int .u64 t29) ∧ 
  ∃ t31 : Int, w6.cell? (s2.add 2) = some (.int .i64 t31) ∧ 
  Calls Try.prog n_value_below #[.int .u64 t29, .int .i64 t31] w6 fun r_ w7 => ∃ t32 : Bool, r_ = .returned (.bool t32) ∧ 
  w7.cell? ((t22_p.add (Int.toNat (IntKind.wrap .i64 (t9 - 1)) * 3)).add 0) = some (.int .u64 t24) ∧ w7.cell? ((Addr.mk w.heap.size 0 none).add 0) = some (.int .u64 t18) ∧ W.sel (!t32) (S1  w7 R) (∃ t36_0 : Int, ∃ t36_1 : Int, ∃ t36_2 : ByteArray, w7.cell? ((Addr.mk w.heap.size 0 none).add 0) = some (.int .u64 t36_0) ∧ w7.cell? ((Addr.mk w.heap.size 0 none).add 1) = some (.int .u64 t36_1) ∧ w7.cell? ((Addr.mk w.heap.size 0 none).add 2) = some (.string t36_2) ∧ 
  ∃ t38 : Int, w7.cell? ((Addr.mk w.heap.size 0 none).add 0) = some (.int .u64 t38) ∧ 
  W.sel ((t36_0 == t38) && ((t36_1 == 0) && ((t36_2.toList == (ByteArray.mk #[]).toList) && true))) (S1  w7 R) (S2 l1 s2 (Addr.mk w.heap.size 0 none) t7 t8 t9 w7 R)))) (∃ t29_x1 : Int, w6.cell? ((Addr.mk w.heap.size 0 none).add 0) = some (.int .u64 t29_x1) ∧ 
  ∃ t31_x1 : Int, w6.cell? (s2.add 2) = some (.int .i64 t31_x1) ∧ 
  Calls Try.prog n_value_below #[.int .u64 t29_x1, .int .i64 t31_x1] w6 fun r_ w8 => ∃ t32_x1 : Bool, r_ = .returned (.bool t32_x1) ∧ 
  W.sel (!t32_x1) (S1  w8 R) (∃ t36_x1_0 : Int, ∃ t36_x1_1 : Int, ∃ t36_x1_2 : ByteArray, w8.cell? ((Addr.mk w.heap.size 0 none).add 0) = some (.int .u64 t36_x1_0) ∧ w8.cell? ((Addr.mk w.heap.size 0 none).add 1) = some (.int .u64 t36_x1_1) ∧ w8.cell? ((Addr.mk w.heap.size 0 none).add 2) = some (.string t36_x1_2) ∧ 
  ∃ t38_x1 : Int, w8.cell? ((Addr.mk w.heap.size 0 none).add 0) = some (.int .u64 t38_x1) ∧ 
  W.sel ((t36_x1_0 == t38_x1) && ((t36_x1_1 == 0) && ((t36_x1_2.toList == (ByteArray.mk #[]).toList) && true))) (S1  w8 R) (S2 l1 s2 (Addr.mk w.heap.size 0 none) t7 t8 t9 w8 R)))) (R (.returned (.bool true)) w)) : L0 l1 s2 t7 t8 t9 w R :=
  W.LP.step (n := (W.cx 75)) (c := C5) (E := [(1, l1.v), (2, .pointer (some s2)), (7, t7.v), (8, .int .i64 t8), (9, .int .i64 t9)]) (w := w) (W.sr C5 (by kernel_rfl) (show (fun (E : W.Env) (w : World) => W.srK Try.prog C5 (fun E w => W.condK (W.Env.val E (.tmp 10)) (W.srK Try.prog C10 (fun E w => W.sdK Try.prog C12 [0, 1, 2, 3, 4, 5, 6, 7, 8, 9, 10, 11, 12, 13, 14, 15, 16, 17, 18, 19, 20, 21, 22, 23, 24, 25, 26, 27] (fun E w => W.condK (W.Env.val E (.tmp 41)) (KE_S1 E w R) (KE_S2 E w R)) E w) E w) (W.srK Try.prog C6 (fun E w => W.retVC Try.prog Try.f42 E w (fun v => R (.returned v) w)) E w)) E w) [(1, l1.v), (2, .pointer (some s2)), (7, t7.v), (8, .int .i64 t8), (9, .int .i64 t9)] w from Eq.mp (by kernel_rfl) h) fun _ _ hK => (W.sq C7 (by kernel_rfl) (W.cn C28 (by kernel_rfl) hK (fun hK => (W.sk C29 (by kernel_rfl) fun a hA => W.nx hA (W.sq C8 (by kernel_rfl) (W.bk C9 1 (by kernel_rfl) (W.sr C10 (by kernel_rfl) hK fun _ _ hK => (W.sq C11 (by kernel_rfl) (W.sd C12 (by kernel_rfl) hK fun _ _ hK => (W.cn C13 (by kernel_rfl) hK (fun hK => (KE_S1_ok R _ _ hK)) (fun hK => (W.sk C30 (by kernel_rfl) fun a hA => W.nx hA (W.sq C16 (by kernel_rfl) (KE_S2_ok R _ _ hK)))))))))))) (fun hK => (W.xt C31 0 (by kernel_rfl) fun a hA => W.nx hA (W.sr C6 (by kernel_rfl) hK fun _ _ hK => (W.rt C32 (by kernel_rfl) fun a hA => W.retVC_sound hA hK)))))))
/-- enthymeme/value.validMap -/
theorem ok (s0_0 s0_1 s0_2 : Int) (l1 : W.Sl) (w : World) (R : W.Post) (h : W.nwV w (.cells #[.int .i64 s0_0, .int .i64 s0_1, .int .i64 s0_2] ty_api_Sort) fun w1 => 
  L0 l1 (Addr.mk w.heap.size 0 none) l1 ((l1.n : Nat) : Int) 0 w1 R) : Calls Try.prog n_value_validMap #[.agg #[.int .i64 s0_0, .int .i64 s0_1, .int .i64 s0_2], l1.v] w R :=
  W.calls_of_WP' (R := R) (fn := Try.f42) (c := C0) (args := [.agg #[.int .i64 s0_0, .int .i64 s0_1, .int .i64 s0_2], l1.v]) (by kernel_rfl) (by kernel_rfl) (by kernel_rfl) (W.sr C0 (by kernel_rfl) (show (fun (E : W.Env) (w : World) => W.srK Try.prog C0 (fun E w => W.srK Try.prog C2 (fun E w => KE_L0 E w R) E w) E w) (W.envOf 0 [.agg #[.int .i64 s0_0, .int .i64 s0_1, .int .i64 s0_2], l1.v]) w from Eq.mp (by kernel_rfl) h) fun _ _ hK => (W.sq C1 (by kernel_rfl) (W.sr C2 (by kernel_rfl) hK fun _ _ hK => (W.bk C3 0 (by kernel_rfl) (W.lp C4 (by kernel_rfl) (KE_L0_ok R _ _ hK))))))
def L0T (l1 : W.Sl) (s2 : Nat) (s2_0 s2_1 s2_2 : Int) (t7 : W.Sl) (t8 t9 : Int) (w : World) (R : W.Post) : Prop := W.LC w [(s2, [.int .i64 s2_0, .int .i64 s2_1, .int .i64 s2_2], ty_api_Sort)] → L0 l1 (W.at0 s2) t7 t8 t9 w R
abbrev S1T  (w : World) (R : W.Post) : Prop :=
  R (.returned (.bool false)) w
theorem S1T_ok  {w : World} {R : W.Post} (h : S1T  w R) (H : W.LC w []) : S1  w R := h
abbrev S3T  (w : World) (R : W.Post) : Prop :=
  R (.returned (.bool false)) w
theorem S3T_ok  {w : World} {R : W.Post} (h : S3T  w R) (H : W.LC w []) : S3  w R := h
abbrev S5T  (w : World) (R : W.Post) : Prop :=
  R (.returned (.bool false)) w
theorem S5T_ok  {w : World} {R : W.Post} (h : S5T  w R) (H : W.LC w []) : S5  w R := h
abbrev S6T (l1 : W.Sl) (s2 : Nat) (s2_0 s2_1 s2_2 : Int) (t7 : W.Sl) (t8 t9 : Int) (w : World) (R : W.Post) : Prop :=
  L0T l1 s2 s2_0 s2_1 s2_2 t7 t8 (IntKind.wrap .i64 (t9 + 1)) w R
theorem S6T_ok {l1 : W.Sl} {s2 : Nat} {s2_0 s2_1 s2_2 : Int} {t7 : W.Sl} {t8 t9 : Int} {w : World} {R : W.Post} (h : S6T l1 s2 s2_0 s2_1 s2_2 t7 t8 t9 w R) (H : W.LC w [(s2, [.int .i64 s2_0, .int .i64 s2_1, .int .i64 s2_2], ty_api_Sort)]) : S6 l1 (W.at0 s2) t7 t8 t9 w R := h H
abbrev S4T (l1 : W.Sl) (s2 : Nat) (s2_0 s2_1 s2_2 : Int) (x6 : Nat) (x6_0 x6_1 : Int) (x6_2 : ByteArray) (t7 : W.Sl) (t8 t9 : Int) (w : World) (R : W.Post) : Prop :=
  W.sel (s2_0 == 3) (W.sel (x6_1 != 0) (S5T  w R) (W.sel (decide (((x6_2.size : Nat) : Int) > s2_1)) (S5T  w R) (S6T l1 s2 s2_0 s2_1 s2_2 t7 t8 t9 w R))) (S6T l1 s2 s2_0 s2_1 s2_2 t7 t8 t9 w R)
theorem S4T_ok {l1 : W.Sl} {s2 : Nat} {s2_0 s2_1 s2_2 : Int} {x6 : Nat} {x6_0 x6_1 : Int} {x6_2 : ByteArray} {t7 : W.Sl} {t8 t9 : Int} {w : World} {R : W.Post} (h : S4T l1 s2 s2_0 s2_1 s2_2 x6 x6_0 x6_1 x6_2 t7 t8 t9 w R) (H : W.LC w [(s2, [.int .i64 s2_0, .int .i64 s2_1, .int .i64 s2_2], ty_api_Sort), (x6, [.int .u64 x6_0, .int .u64 x6_1, .string x6_2], ty_value_Entry)]) : S4 l1 (W.at0 s2) (W.at0 x6) t7 t8 t9 w R := ⟨_, H.ld 0 0, W.sel_imp h (fun h => ⟨_, H.ld 1 1, W.sel_imp h (fun h => S5T_ok h (W.LC.nil _)) (fun h => ⟨_, H.ld 1 2, ⟨_, H.ld 0 1, W.sel_imp h (fun h => S5T_ok h (W.LC.nil _)) (fun h => S6T_ok h (H.pick [0] (by decide)))⟩⟩)⟩) (fun h => S6T_ok h (H.pick [0] (by decide)))⟩
abbrev S2T (l1 : W.Sl) (s2 : Nat) (s2_0 s2_1 s2_2 : Int) (x6 : Nat) (x6_0 x6_1 : Int) (x6_2 : ByteArray) (t7 : W.Sl) (t8 t9 : Int) (w : World) (R : W.Post) : Prop :=
  W.sel (s2_0 == 2) (W.callF [s2, x6] Try.prog n_value_below #[.int .u64 x6_1, .int .i64 s2_1] w fun r_ w1 => ∃ t50 : Bool, r_ = .returned (.bool t50) ∧ 
  W.sel (!t50) (S3T  w1 R) (W.sel (!(x6_2.toList == (ByteArray.mk #[]).toList)) (S3T  w1 R) (S4T l1 s2 s2_0 s2_1 s2_2 x6 x6_0 x6_1 x6_2 t7 t8 t9 w1 R))) (S4T l1 s2 s2_0 s2_1 s2_2 x6 x6_0 x6_1 x6_2 t7 t8 t9 w R)
theorem S2T_ok {l1 : W.Sl} {s2 : Nat} {s2_0 s2_1 s2_2 : Int} {x6 : Nat} {x6_0 x6_1 : Int} {x6_2 : ByteArray} {t7 : W.Sl} {t8 t9 : Int} {w : World} {R : W.Post} (h : S2T l1 s2 s2_0 s2_1 s2_2 x6 x6_0 x6_1 x6_2 t7 t8 t9 w R) (H : W.LC w [(s2, [.int .i64 s2_0, .int .i64 s2_1, .int .i64 s2_2], ty_api_Sort), (x6, [.int .u64 x6_0, .int .u64 x6_1, .string x6_2], ty_value_Entry)]) : S2 l1 (W.at0 s2) (W.at0 x6) t7 t8 t9 w R := ⟨_, H.ld 0 0, W.sel_imp h (fun h => ⟨_, H.ld 1 1, ⟨_, H.ld 0 1, W.LC.callT H h fun r_ w1 H h => let ⟨t50, hr, h⟩ := h; ⟨t50, hr, W.sel_imp h (fun h => S3T_ok h (W.LC.nil _)) (fun h => ⟨_, H.ld 1 2, W.sel_imp h (fun h => S3T_ok h (W.LC.nil _)) (fun h => S4T_ok h H)⟩)⟩⟩⟩) (fun h => S4T_ok h H)⟩
theorem L0T_step (l1 : W.Sl) (s2 : Nat) (s2_0 s2_1 s2_2 : Int) (t7 : W.Sl) (t8 t9 : Int) (w : World) (R : W.Post) (h : W.sel (decide (t9 < t8)) ((0 : Int) ≤ t9 ∧ t9 < ((t7.n : Nat) : Int) ∧ W.optP t7.a fun t12_p => ∃ t13_0 : Int, ∃ t13_1 : Int, ∃ t13_2 : ByteArray, w.cell? ((t12_p.add (Int.toNat t9 * 3)).add 0) = some (.int .u64 t13_0) ∧ w.cell? ((t12_p.add (Int.toNat t9 * 3)).add 1) = some (.int .u64 t13_1) ∧ w.cell? ((t12_p.add (Int.toNat t9 * 3)).add 2) = some (.string t13_2) ∧ 
  W.newV [s2] w fun b6 w2 => 
  W.sel (decide (t9 > 0)) ((0 : Int) ≤ (IntKind.wrap .i64 (t9 - 1)) ∧ (IntKind.wrap .i64 (t9 - 1)) < ((l1.n : Nat) : Int) ∧ W.optP l1.a fun t22_p => W.loc [s2, b6] w2 fun w6 => ∃ t24 : Int, w6.cell? ((t22_p.add (Int.toNat (IntKind.wrap .i64 (t9 - 1)) * 3)).add 0) = some (.int .u64 t24) ∧ 
  W.sel (decide (t13_0 ≤ t24)) (S1T  w6 R) (W.callF [s2, b6] Try.prog n_value_below #[.int .u64 t13_0, .int .i64 s2_2] w6 fun r_ w7 => ∃ t32 : Bool, r_ = .returned (.bool t32) ∧ 
  w7.cell? ((t22_p.add (Int.toNat (IntKind.wrap .i64 (t9 - 1)) * 3)).add 0) = some (.int .u64 t24) ∧ W.sel (!t32) (S1T  w7 R) (W.sel ((t13_0 == t13_0) && ((t13_1 == 0) && ((t13_2.toList == (ByteArray.mk #[]).toList) && true))) (S1T  w7 R) (S2T l1 s2 s2_0 s2_1 s2_2 b6 t13_0 t13_1 t13_2 t7 t8 t9 w7 R)))) (W.loc [s2, b6] w2 fun w6 => W.callF [s2, b6] Try.prog n_value_below #[.int .u64 t13_0, .int .i64 s2_2] w6 fun r_ w8 => ∃ t32_x1 : Bool, r_ = .returned (.bool t32_x1) ∧ 
  W.sel (!t32_x1) (S1T  w8 R) (W.sel ((t13_0 == t13_0) && ((t13_1 == 0) && ((t13_2.toList == (ByteArray.mk #[]).toList) && true))) (S1T  w8 R) (S2T l1 s2 s2_0 s2_1 s2_2 b6 t13_0 t13_1 t13_2 t7 t8 t9 w8 R)))) (R (.returned (.bool true)) w)) : L0T l1 s2 s2_0 s2_1 s2_2 t7 t8 t9 w R := fun H => L0_step _ _ _ _ _ w R (W.sel_imp h (fun h => ⟨h.1, h.2.1, have h := h.2.2; W.optP_imp h fun t12_p h => let ⟨t13_0, t13_1, t13_2, hc0, hc1, hc2, h⟩ := h; ⟨t13_0, t13_1, t13_2, hc0, hc1, hc2, W.LC.nwT H (W.Fr.refl _ _) h fun w2 H h => W.LC.stT0 H 1 (W.Fr.refl _ _) rfl rfl fun w3 H f => W.LC.stT H 1 1 f rfl rfl fun w4 H f => W.LC.stT H 1 2 f rfl rfl fun w5 (H : W.LC w5 [(s2, [.int .i64 s2_0, .int .i64 s2_1, .int .i64 s2_2], ty_api_Sort), (w.heap.size, [.int .u64 t13_0, .int .u64 t13_1, .string t13_2], ty_value_Entry)]) (f : W.Fr (· ∈ [s2, w.heap.size]) _ w5) => W.LC.drT H f fun w6 H f => W.sel_imp h (fun h => ⟨_, H.ld 1 0, ⟨h.1, h.2.1, have h := h.2.2; W.optP_imp h fun t22_p h => have h := h _ f; let ⟨t24, hc0, h⟩ := h; ⟨t24, hc0, W.sel_imp h (fun h => S1T_ok h (W.LC.nil _)) (fun h => ⟨_, H.ld 1 0, ⟨_, H.ld 0 2, W.LC.callT H h fun r_ w7 H h => let ⟨t32, hr, h⟩ := h; ⟨t32, hr, ⟨h.1, H.ld 1 0, have h := h.2; W.sel_imp h (fun h => S1T_ok h (W.LC.nil _)) (fun h => ⟨_, _, _, H.ld 1 0, H.ld 1 1, H.ld 1 2, ⟨_, H.ld 1 0, W.sel_imp h (fun h => S1T_ok h (W.LC.nil _)) (fun h => S2T_ok h H)⟩⟩)⟩⟩⟩⟩)⟩⟩⟩) (fun h => ⟨_, H.ld 1 0, ⟨_, H.ld 0 2, have h := h _ f; W.LC.callT H h fun r_ w8 H h => let ⟨t32_x1, hr, h⟩ := h; ⟨t32_x1, hr, W.sel_imp h (fun h => S1T_ok h (W.LC.nil _)) (fun h => ⟨_, _, _, H.ld 1 0, H.ld 1 1, H.ld 1 2, ⟨_, H.ld 1 0, W.sel_imp h (fun h => S1T_ok h (W.LC.nil _)) (fun h => S2T_ok h H)⟩⟩)⟩⟩⟩)⟩⟩) (fun h => h))
theorem okT (s0_0 s0_1 s0_2 : Int) (l1 : W.Sl) (w : World) (R : W.Post) (h : W.newV [] w fun b2 w1 => 
  L0T l1 b2 s0_0 s0_1 s0_2 l1 ((l1.n : Nat) : Int) 0 w1 R) : Calls Try.prog n_value_validMap #[.agg #[.int .i64 s0_0, .int .i64 s0_1, .int .i64 s0_2], l1.v] w R :=
  ok _ _ _ _ w R (W.LC.nwT (W.LC.nil _) (W.Fr.refl _ _) h fun w1 H h => h H)
end value_validMap
namespace value_Valid
noncomputable def C0 : Code := (Try.f13.body).getD .skip
noncomputable def C1 := W.Code.snd C0
noncomputable def C2 := W.Code.snd C1
noncomputable def C3 := W.Code.snd C2
noncomputable def C4 := W.Code.snd C3
noncomputable def C5 := W.Code.fst C4
noncomputable def C6 := W.Code.snd C4
abbrev Q0 (R : W.Post) : Exit → Act → World → Prop := (Exit.then (W.wpx Try.prog (W.cx 70) C6 (bodyPost Try.prog Try.f13 R)) (bodyPost Try.prog Try.f13 R))
noncomputable def C7 := W.Code.snd C5
noncomputable def C8 := W.Code.fst C7
noncomputable def C9 := W.Code.snd C8
noncomputable def C10 := W.Code.snd C7
noncomputable def C11 := W.Code.snd C6
/-- value.go:72 -/
abbrev S0 (ok4 : Bool) (w : World) (R : W.Post) : Prop :=
  W.sel (!ok4) (R (.returned (.int .i64 1)) w) (R (.returned (.int .i64 0)) w)
def KE_S0 (E : W.Env) (w : World) (R : W.Post) : Prop := W.asBool' (W.Env.get? E 4) fun ok4 => S0 ok4 w R
theorem KE_S0_ok (R : W.Post) (E : W.Env) (w : World) (h : KE_S0 E w R) : W.WP Try.prog (W.cx 70) C5 (Q0 R) E w := by
  obtain ⟨ok4, hq4, h_1⟩ := W.asBool_elim h
  exact fun a ha => W.WP.at (E := [(4, .bool ok4)]) (W.sr C5 (K := fun E w => W.condK (W.Env.val E (.tmp 69)) (W.srK Try.prog C8 (fun E w => W.retVC Try.prog Try.f13 E w (fun v => R (.returned v) w)) E w) (W.srK Try.prog C6 (fun E w => W.retVC Try.prog Try.f13 E w (fun v => R (.returned v) w)) E w)) (by kernel_rfl) (Eq.mp (by kernel_rfl) h_1) fun _ _ hK => (W.cn C7 (by kernel_rfl) hK (fun hK => (W.sr C8 (by kernel_rfl) hK fun _ _ hK => (W.rt C9 (by kernel_rfl) fun a hA => W.retVC_sound hA hK))) (fun hK => (W.sk C10 (by kernel_rfl) fun a hA => W.nx hA (W.sr C6 (by kernel_rfl) hK fun _ _ hK => (W.rt C11 (by kernel_rfl) fun a hA => W.retVC_sound hA hK)))))) (ha.cons hq4 ha.nil)
/-- enthymeme/value.Valid -/
noncomputable def C12 := W.Code.fst C1
noncomputable def C13 := W.Code.snd C12
noncomputable def C14 := W.Code.snd C13
noncomputable def C15 := W.Code.fst C14
noncomputable def C16 := W.Code.fst C3
noncomputable def C17 := W.Code.snd C16
noncomputable def C18 := W.Code.fst C17
noncomputable def C19 := W.Code.snd C18
noncomputable def C20 := W.Code.fst C19
noncomputable def C21 := W.Code.snd C19
noncomputable def C22 := W.Code.snd C21
noncomputable def C23 := W.Code.fst C22
noncomputable def C24 := W.Code.snd C22
noncomputable def C25 := W.Code.snd C15
noncomputable def C26 := W.Code.snd C14
theorem ok (v0_0 v0_1 v0_2 v0_3 : Int) (v0_4 : ByteArray) (v0_5 : W.Sl) (w : World) (R : W.Post) (h : W.nwV w (.cells #[.int .i64 v0_0, .int .i64 v0_1, .int .i64 v0_2, .int .u64 v0_3, .string v0_4, v0_5.v] ty_value_Value) fun w1 => 
  ∃ t6_0 : Int, ∃ t6_1 : Int, ∃ t6_2 : Int, w1.cell? (((Addr.mk w.heap.size 0 none).add 0).add 0) = some (.int .i64 t6_0) ∧ w1.cell? (((Addr.mk w.heap.size 0 none).add 0).add 1) = some (.int .i64 t6_1) ∧ w1.cell? (((Addr.mk w.heap.size 0 none).add 0).add 2) = some (.int .i64 t6_2) ∧ 
  Calls Try.prog n_value_ValidSort #[.agg #[.int .i64 t6_0, .int .i64 t6_1, .int .i64 t6_2]] w1 fun r_ w2 => ∃ t7 : Int, r_ = .returned (.int .i64 t7) ∧ 
  W.sel (t7 != 0) (R (.returned (.int .i64 t7)) w2) (∃ t13 : Int, w2.cell? (((Addr.mk w.heap.size 0 none).add 0).add 0) = some (.int .i64 t13) ∧ 
  W.sel (t13 == 0) (∃ t32 : Int, w2.cell? ((Addr.mk w.heap.size 0 none).add 3) = some (.int .u64 t32) ∧ 
  ∃ t35 : Int, w2.cell? (((Addr.mk w.heap.size 0 none).add 0).add 1) = some (.int .i64 t35) ∧ 
  Calls Try.prog n_value_below #[.int .u64 t32, .int .i64 t35] w2 fun r_ w3 => ∃ t36 : Bool, r_ = .returned (.bool t36) ∧ 
  W.sel t36 (∃ t39 : ByteArray, w3.cell? ((Addr.mk w.heap.size 0 none).add 4) = some (.string t39) ∧ 
  W.sel (t39.toList == (ByteArray.mk #[]).toList) (∃ t44 : W.Sl, w3.cell? ((Addr.mk w.heap.size 0 none).add 5) = some (t44.v) ∧ 
  S0 (((t44.n : Nat) : Int) == 0) w3 R) (S0 false w3 R)) (S0 false w3 R)) (W.sel (t13 == 1) (∃ t51 : ByteArray, w2.cell? ((Addr.mk w.heap.size 0 none).add 4) = some (.string t51) ∧ 
  ∃ t55 : Int, w2.cell? (((Addr.mk w.heap.size 0 none).add 0).add 1) = some (.int .i64 t55) ∧ 
  W.sel (decide (((t51.size : Nat) : Int) ≤ t55)) (∃ t59 : Int, w2.cell? ((Addr.mk w.heap.size 0 none).add 3) = some (.int .u64 t59) ∧ 
  W.sel (t59 == 0) (∃ t64 : W.Sl, w2.cell? ((Addr.mk w.heap.size 0 none).add 5) = some (t64.v) ∧ 
  S0 (((t64.n : Nat) : Int) == 0) w2 R) (S0 false w2 R)) (S0 false w2 R)) (∃ t15 : Int, w2.cell? ((Addr.mk w.heap.size 0 none).add 3) = some (.int .u64 t15) ∧ 
  W.sel (t15 == 0) (∃ t19 : ByteArray, w2.cell? ((Addr.mk w.heap.size 0 none).add 4) = some (.string t19) ∧ 
  W.sel (t19.toList == (ByteArray.mk #[]).toList) (∃ t24_0 : Int, ∃ t24_1 : Int, ∃ t24_2 : Int, w2.cell? (((Addr.mk w.heap.size 0 none).add 0).add 0) = some (.int .i64 t24_0) ∧ w2.cell? (((Addr.mk w.heap.size 0 none).add 0).add 1) = some (.int .i64 t24_1) ∧ w2.cell? (((Addr.mk w.heap.size 0 none).add 0).add 2) = some (.int .i64 t24_2) ∧ 
  ∃ t26 : W.Sl, w2.cell? ((Addr.mk w.heap.size 0 none).add 5) = some (t26.v) ∧ 
  Calls Try.prog n_value_validMap #[.agg #[.int .i64 t24_0, .int .i64 t24_1, .int .i64 t24_2], t26.v] w2 fun r_ w4 => ∃ t27 : Bool, r_ = .returned (.bool t27) ∧ 
  S0 t27 w4 R) (S0 false w2 R)) (S0 false w2 R))))) : Calls Try.prog n_value_Valid #[.agg #[.int .i64 v0_0, .int .i64 v0_1, .int .i64 v0_2, .int .u64 v0_3, .string v0_4, v0_5.v]] w R :=
  W.calls_of_WP' (R := R) (fn := Try.f13) (c := C0) (args := [.agg #[.int .i64 v0_0, .int .i64 v0_1, .int .i64 v0_2, .int .u64 v0_3, .string v0_4, v0_5.v]]) (by kernel_rfl) (by kernel_rfl) (by kernel_rfl) (W.sr C0 (by kernel_rfl) (show (fun (E : W.Env) (w : World) => W.srK Try.prog C0 (fun E w => W.srK Try.prog C12 (fun E w => W.srK Try.prog C13 (fun E w => W.condK (W.Env.val E (.tmp 9)) (W.srK Try.prog C15 (fun E w => W.retVC Try.prog Try.f13 E w (fun v => R (.returned v) w)) E w) (W.srK Try.prog C2 (fun E w => W.srK Try.prog C16 (fun E w => W.srK Try.prog C18 (fun E w => W.condK (W.Env.val E (.tmp 29)) (W.rgK Try.prog C20 (fun E w => KE_S0 E w R) E w) (W.srK Try.prog C21 (fun E w => W.condK (W.Env.val E (.tmp 48)) (W.rgK Try.prog C23 (fun E w => KE_S0 E w R) E w) (W.rgK Try.prog C24 (fun E w => KE_S0 E w R) E w)) E w)) E w) E w) E w)) E w) E w) E w) (W.envOf 0 [.agg #[.int .i64 v0_0, .int .i64 v0_1, .int .i64 v0_2, .int .u64 v0_3, .string v0_4, v0_5.v]]) w from Eq.mp (by kernel_rfl) h) fun _ _ hK => (W.sq C1 (by kernel_rfl) (W.sr C12 (by kernel_rfl) hK fun _ _ hK => (W.sr C13 (by kernel_rfl) hK fun _ _ hK => (W.cn C14 (by kernel_rfl) hK (fun hK => (W.sr C15 (by kernel_rfl) hK fun _ _ hK => (W.rt C25 (by kernel_rfl) fun a hA => W.retVC_sound hA hK))) (fun hK => (W.sk C26 (by kernel_rfl) fun a hA => W.nx hA (W.sr C2 (by kernel_rfl) hK fun _ _ hK => (W.sq C3 (by kernel_rfl) (W.sr C16 (by kernel_rfl) hK fun _ _ hK => (W.bk C17 0 (by kernel_rfl) (W.sr C18 (by kernel_rfl) hK fun _ _ hK => (W.cn C19 (by kernel_rfl) hK (fun hK => (W.rg C20 (by kernel_rfl) hK fun _ _ a hA hK => W.nx hA (W.sq C4 (by kernel_rfl) (KE_S0_ok R _ _ hK)))) (fun hK => (W.sr C21 (by kernel_rfl) hK fun _ _ hK => (W.cn C22 (by kernel_rfl) hK (fun hK => (W.rg C23 (by kernel_rfl) hK fun _ _ a hA hK => W.nx hA (W.sq C4 (by kernel_rfl) (KE_S0_ok R _ _ hK)))) (fun hK => (W.rg C24 (by kernel_rfl) hK fun _ _ a hA hK => W.nx hA (W.sq C4 (by kernel_rfl) (KE_S0_ok R _ _ hK))))))))))))))))))))
abbrev S0T (ok4 : Bool) (w : World) (R : W.Post) : Prop :=
  W.sel (!ok4) (R (.returned (.int .i64 1)) w) (R (.returned (.int .i64 0)) w)
theorem S0T_ok {ok4 : Bool} {w : World} {R : W.Post} (h : S0T ok4 w R) (H : W.LC w []) : S0 ok4 w R := W.sel_imp h (fun h => h) (fun h => h)
theorem okT (v0_0 v0_1 v0_2 v0_3 : Int) (v0_4 : ByteArray) (v0_5 : W.Sl) (w : World) (R : W.Post) (h : W.newV [] w fun b1 w1 => 
  W.callF [b1] Try.prog n_value_ValidSort #[.agg #[.int .i64 v0_0, .int .i64 v0_1, .int .i64 v0_2]] w1 fun r_ w2 => ∃ t7 : Int, r_ = .returned (.int .i64 t7) ∧ 
  W.sel (t7 != 0) (R (.returned (.int .i64 t7)) w2) (W.sel (v0_0 == 0) (W.callF [b1] Try.prog n_value_below #[.int .u64 v0_3, .int .i64 v0_1] w2 fun r_ w3 => ∃ t36 : Bool, r_ = .returned (.bool t36) ∧ 
  W.sel t36 (W.sel (v0_4.toList == (ByteArray.mk #[]).toList) (S0T (((v0_5.n : Nat) : Int) == 0) w3 R) (S0T false w3 R)) (S0T false w3 R)) (W.sel (v0_0 == 1) (W.sel (decide (((v0_4.size : Nat) : Int) ≤ v0_1)) (W.sel (v0_3 == 0) (S0T (((v0_5.n : Nat) : Int) == 0) w2 R) (S0T false w2 R)) (S0T false w2 R)) (W.sel (v0_3 == 0) (W.sel (v0_4.toList == (ByteArray.mk #[]).toList) (W.callF [b1] Try.prog n_value_validMap #[.agg #[.int .i64 v0_0, .int .i64 v0_1, .int .i64 v0_2], v0_5.v] w2 fun r_ w4 => ∃ t27 : Bool, r_ = .returned (.bool t27) ∧ 
  S0T t27 w4 R) (S0T false w2 R)) (S0T false w2 R))))) : Calls Try.prog n_value_Valid #[.agg #[.int .i64 v0_0, .int .i64 v0_1, .int .i64 v0_2, .int .u64 v0_3, .string v0_4, v0_5.v]] w R :=
  ok _ _ _ _ _ _ w R (W.LC.nwT (W.LC.nil _) (W.Fr.refl _ _) h fun w1 H h => ⟨_, _, _, H.ld 0 0, H.ld 0 1, H.ld 0 2, W.LC.callT H h fun r_ w2 H h => let ⟨t7, hr, h⟩ := h; ⟨t7, hr, W.sel_imp h (fun h => h) (fun h => ⟨_, H.ld 0 0, W.sel_imp h (fun h => ⟨_, H.ld 0 3, ⟨_, H.ld 0 1, W.LC.callT H h fun r_ w3 H h => let ⟨t36, hr, h⟩ := h; ⟨t36, hr, W.sel_imp h (fun h => ⟨_, H.ld 0 4, W.sel_imp h (fun h => ⟨v0_5, H.ld 0 5, S0T_ok h (W.LC.nil _)⟩) (fun h => S0T_ok h (W.LC.nil _))⟩) (fun h => S0T_ok h (W.LC.nil _))⟩⟩⟩) (fun h => W.sel_imp h (fun h => ⟨_, H.ld 0 4, ⟨_, H.ld 0 1, W.sel_imp h (fun h => ⟨_, H.ld 0 3, W.sel_imp h (fun h => ⟨v0_5, H.ld 0 5, S0T_ok h (W.LC.nil _)⟩) (fun h => S0T_ok h (W.LC.nil _))⟩) (fun h => S0T_ok h (W.LC.nil _))⟩⟩) (fun h => ⟨_, H.ld 0 3, W.sel_imp h (fun h => ⟨_, H.ld 0 4, W.sel_imp h (fun h => ⟨_, _, _, H.ld 0 0, H.ld 0 1, H.ld 0 2, ⟨v0_5, H.ld 0 5, W.LC.callT H h fun r_ w4 H h => let ⟨t27, hr, h⟩ := h; ⟨t27, hr, S0T_ok h (W.LC.nil _)⟩⟩⟩) (fun h => S0T_ok h (W.LC.nil _))⟩) (fun h => S0T_ok h (W.LC.nil _))⟩))⟩)⟩⟩)
end value_Valid
namespace value_Zero
noncomputable def C0 : Code := (Try.f11.body).getD .skip
/-- enthymeme/value.Zero -/
noncomputable def C1 := W.Code.snd C0
noncomputable def C2 := W.Code.fst C1
noncomputable def C3 := W.Code.snd C2
noncomputable def C4 := W.Code.snd C3
noncomputable def C5 := W.Code.fst C4
noncomputable def C6 := W.Code.snd C1
noncomputable def C7 := W.Code.snd C5
noncomputable def C8 := W.Code.snd C4
noncomputable def C9 := W.Code.snd C6
theorem ok (s0_0 s0_1 s0_2 : Int) (w : World) (R : W.Post) (h : W.nwV w (.cells #[.int .i64 s0_0, .int .i64 s0_1, .int .i64 s0_2] ty_api_Sort) fun w1 => 
  W.nwV w1 (.cells #[.int .i64 0, .int .i64 0, .int .i64 0, .int .u64 0, .string (ByteArray.mk #[]), .slice none 0 0] ty_value_Value) fun w2 => 
  ∃ t5_0 : Int, ∃ t5_1 : Int, ∃ t5_2 : Int, w2.cell? ((Addr.mk w.heap.size 0 none).add 0) = some (.int .i64 t5_0) ∧ w2.cell? ((Addr.mk w.heap.size 0 none).add 1) = some (.int .i64 t5_1) ∧ w2.cell? ((Addr.mk w.heap.size 0 none).add 2) = some (.int .i64 t5_2) ∧ 
  Calls Try.prog n_value_ValidSort #[.agg #[.int .i64 t5_0, .int .i64 t5_1, .int .i64 t5_2]] w2 fun r_ w3 => ∃ t6 : Int, r_ = .returned (.int .i64 t6) ∧ 
  W.sel (t6 != 0) (W.stV w3 (Addr.mk w1.heap.size 0 none) (.int .i64 0) fun w4 => 
  W.stV w4 ((Addr.mk w1.heap.size 0 none).add 1) (.int .i64 0) fun w5 => 
  W.stV w5 ((Addr.mk w1.heap.size 0 none).add 2) (.int .i64 0) fun w6 => 
  W.stV w6 ((Addr.mk w1.heap.size 0 none).add 3) (.int .u64 0) fun w7 => 
  W.stV w7 ((Addr.mk w1.heap.size 0 none).add 4) (.string (ByteArray.mk #[])) fun w8 => 
  W.stV w8 ((Addr.mk w1.heap.size 0 none).add 5) (.slice none 0 0) fun w9 => 
  ∃ r2_0 : Int, ∃ r2_1 : Int, ∃ r2_2 : Int, ∃ r2_3 : Int, ∃ r2_4 : ByteArray, ∃ r2_5 : W.Sl, w9.cell? ((Addr.mk w1.heap.size 0 none).add 0) = some (.int .i64 r2_0) ∧ w9.cell? ((Addr.mk w1.heap.size 0 none).add 1) = some (.int .i64 r2_1) ∧ w9.cell? ((Addr.mk w1.heap.size 0 none).add 2) = some (.int .i64 r2_2) ∧ w9.cell? ((Addr.mk w1.heap.size 0 none).add 3) = some (.int .u64 r2_3) ∧ w9.cell? ((Addr.mk w1.heap.size 0 none).add 4) = some (.string r2_4) ∧ w9.cell? ((Addr.mk w1.heap.size 0 none).add 5) = some (r2_5.v) ∧ 
  R (.returned (.tuple #[.agg #[.int .i64 r2_0, .int .i64 r2_1, .int .i64 r2_2, .int .u64 r2_3, .string r2_4, r2_5.v], .int .i64 t6])) w9) (∃ t11_0 : Int, ∃ t11_1 : Int, ∃ t11_2 : Int, w3.cell? ((Addr.mk w.heap.size 0 none).add 0) = some (.int .i64 t11_0) ∧ w3.cell? ((Addr.mk w.heap.size 0 none).add 1) = some (.int .i64 t11_1) ∧ w3.cell? ((Addr.mk w.heap.size 0 none).add 2) = some (.int .i64 t11_2) ∧ 
  W.stV w3 (Addr.mk w1.heap.size 0 none) (.int .i64 t11_0) fun w10 => 
  W.stV w10 ((Addr.mk w1.heap.size 0 none).add 1) (.int .i64 t11_1) fun w11 => 
  W.stV w11 ((Addr.mk w1.heap.size 0 none).add 2) (.int .i64 t11_2) fun w12 => 
  W.stV w12 ((Addr.mk w1.heap.size 0 none).add 3) (.int .u64 0) fun w13 => 
  W.stV w13 ((Addr.mk w1.heap.size 0 none).add 4) (.string (ByteArray.mk #[])) fun w14 => 
  W.stV w14 ((Addr.mk w1.heap.size 0 none).add 5) (.slice none 0 0) fun w15 => 
  ∃ r2_0 : Int, ∃ r2_1 : Int, ∃ r2_2 : Int, ∃ r2_3 : Int, ∃ r2_4 : ByteArray, ∃ r2_5 : W.Sl, w15.cell? ((Addr.mk w1.heap.size 0 none).add 0) = some (.int .i64 r2_0) ∧ w15.cell? ((Addr.mk w1.heap.size 0 none).add 1) = some (.int .i64 r2_1) ∧ w15.cell? ((Addr.mk w1.heap.size 0 none).add 2) = some (.int .i64 r2_2) ∧ w15.cell? ((Addr.mk w1.heap.size 0 none).add 3) = some (.int .u64 r2_3) ∧ w15.cell? ((Addr.mk w1.heap.size 0 none).add 4) = some (.string r2_4) ∧ w15.cell? ((Addr.mk w1.heap.size 0 none).add 5) = some (r2_5.v) ∧ 
  R (.returned (.tuple #[.agg #[.int .i64 r2_0, .int .i64 r2_1, .int .i64 r2_2, .int .u64 r2_3, .string r2_4, r2_5.v], .int .i64 0])) w15)) : Calls Try.prog n_value_Zero #[.agg #[.int .i64 s0_0, .int .i64 s0_1, .int .i64 s0_2]] w R :=
  W.calls_of_WP' (R := R) (fn := Try.f11) (c := C0) (args := [.agg #[.int .i64 s0_0, .int .i64 s0_1, .int .i64 s0_2]]) (by kernel_rfl) (by kernel_rfl) (by kernel_rfl) (W.sr C0 (by kernel_rfl) (show (fun (E : W.Env) (w : World) => W.srK Try.prog C0 (fun E w => W.srK Try.prog C2 (fun E w => W.srK Try.prog C3 (fun E w => W.condK (W.Env.val E (.tmp 8)) (W.srK Try.prog C5 (fun E w => W.retVC Try.prog Try.f11 E w (fun v => R (.returned v) w)) E w) (W.srK Try.prog C6 (fun E w => W.retVC Try.prog Try.f11 E w (fun v => R (.returned v) w)) E w)) E w) E w) E w) (W.envOf 0 [.agg #[.int .i64 s0_0, .int .i64 s0_1, .int .i64 s0_2]]) w from Eq.mp (by kernel_rfl) h) fun _ _ hK => (W.sq C1 (by kernel_rfl) (W.sr C2 (by kernel_rfl) hK fun _ _ hK => (W.sr C3 (by kernel_rfl) hK fun _ _ hK => (W.cn C4 (by kernel_rfl) hK (fun hK => (W.sr C5 (by kernel_rfl) hK fun _ _ hK => (W.rt C7 (by kernel_rfl) fun a hA => W.retVC_sound hA hK))) (fun hK => (W.sk C8 (by kernel_rfl) fun a hA => W.nx hA (W.sr C6 (by kernel_rfl) hK fun _ _ hK => (W.rt C9 (by kernel_rfl) fun a hA => W.retVC_sound hA hK)))))))))
theorem okT (s0_0 s0_1 s0_2 : Int) (w : World) (R : W.Post) (h : W.newV [] w fun b1 w1 => 
  W.newV [b1] w1 fun b2 w2 => 
  W.callF [b1, b2] Try.prog n_value_ValidSort #[.agg #[.int .i64 s0_0, .int .i64 s0_1, .int .i64 s0_2]] w2 fun r_ w3 => ∃ t6 : Int, r_ = .returned (.int .i64 t6) ∧ 
  W.sel (t6 != 0) (W.loc [b1, b2] w3 fun w9 => R (.returned (.tuple #[.agg #[.int .i64 0, .int .i64 0, .int .i64 0, .int .u64 0, .string (ByteArray.mk #[]), .slice none 0 0], .int .i64 t6])) w9) (W.loc [b1, b2] w3 fun w15 => R (.returned (.tuple #[.agg #[.int .i64 s0_0, .int .i64 s0_1, .int .i64 s0_2, .int .u64 0, .string (ByteArray.mk #[]), .slice none 0 0], .int .i64 0])) w15)) : Calls Try.prog n_value_Zero #[.agg #[.int .i64 s0_0, .int .i64 s0_1, .int .i64 s0_2]] w R :=
  ok _ _ _ w R (W.LC.nwT (W.LC.nil _) (W.Fr.refl _ _) h fun w1 H h => W.LC.nwT H (W.Fr.refl _ _) h fun w2 H h => ⟨_, _, _, H.ld 0 0, H.ld 0 1, H.ld 0 2, W.LC.callT H h fun r_ w3 H h => let ⟨t6, hr, h⟩ := h; ⟨t6, hr, W.sel_imp h (fun h => W.LC.stT0 H 1 (W.Fr.refl _ _) rfl rfl fun w4 H f => W.LC.stT H 1 1 f rfl rfl fun w5 H f => W.LC.stT H 1 2 f rfl rfl fun w6 H f => W.LC.stT H 1 3 f rfl rfl fun w7 H f => W.LC.stT H 1 4 f rfl rfl fun w8 H f => W.LC.stT H 1 5 f rfl rfl fun w9 (H : W.LC w9 [(w.heap.size, [.int .i64 s0_0, .int .i64 s0_1, .int .i64 s0_2], ty_api_Sort), (w1.heap.size, [.int .i64 0, .int .i64 0, .int .i64 0, .int .u64 0, .string (ByteArray.mk #[]), .slice none 0 0], ty_value_Value)]) (f : W.Fr (· ∈ [w.heap.size, w1.heap.size]) _ w9) => ⟨_, _, _, _, _, ⟨none, 0, 0⟩, H.ld 1 0, H.ld 1 1, H.ld 1 2, H.ld 1 3, H.ld 1 4, H.ld 1 5, have h := h _ f; h⟩) (fun h => ⟨_, _, _, H.ld 0 0, H.ld 0 1, H.ld 0 2, W.LC.stT0 H 1 (W.Fr.refl _ _) rfl rfl fun w10 H f => W.LC.stT H 1 1 f rfl rfl fun w11 H f => W.LC.stT H 1 2 f rfl rfl fun w12 H f => W.LC.stT H 1 3 f rfl rfl fun w13 H f => W.LC.stT H 1 4 f rfl rfl fun w14 H f => W.LC.stT H 1 5 f rfl rfl fun w15 (H : W.LC w15 [(w.heap.size, [.int .i64 s0_0, .int .i64 s0_1, .int .i64 s0_2], ty_api_Sort), (w1.heap.size, [.int .i64 s0_0, .int .i64 s0_1, .int .i64 s0_2, .int .u64 0, .string (ByteArray.mk #[]), .slice none 0 0], ty_value_Value)]) (f : W.Fr (· ∈ [w.heap.size, w1.heap.size]) _ w15) => ⟨_, _, _, _, _, ⟨none, 0, 0⟩, H.ld 1 0, H.ld 1 1, H.ld 1 2, H.ld 1 3, H.ld 1 4, H.ld 1 5, have h := h _ f; h⟩⟩)⟩⟩)
end value_Zero
namespace value_place_1
noncomputable def C0 : Code := (Try.f76.body).getD .skip
/-- enthymeme/value.place$1 -/
noncomputable def C1 := W.Code.snd C0
noncomputable def C2 := W.Code.snd C1
theorem ok (x0_0 x0_1 : Int) (x0_2 : ByteArray) (i1 : Int) (w : World) (R : W.Post) (h : W.nwV w (.cells #[.int .u64 x0_0, .int .u64 x0_1, .string x0_2] ty_value_Entry) fun w1 => 
  ∃ t6 : Int, w1.cell? ((Addr.mk w.heap.size 0 none).add 0) = some (.int .u64 t6) ∧ 
  Calls Try.prog n_cmp_Compare_uint64 #[.int .u64 t6, .int .u64 i1] w1 fun r_ w2 => ∃ t8 : Int, r_ = .returned (.int .i64 t8) ∧ 
  R (.returned (.int .i64 t8)) w2) : Calls Try.prog n_value_place_1 #[.agg #[.int .u64 x0_0, .int .u64 x0_1, .string x0_2], .int .u64 i1] w R :=
  W.calls_of_WP' (R := R) (fn := Try.f76) (c := C0) (args := [.agg #[.int .u64 x0_0, .int .u64 x0_1, .string x0_2], .int .u64 i1]) (by kernel_rfl) (by kernel_rfl) (by kernel_rfl) (W.sr C0 (by kernel_rfl) (show (fun (E : W.Env) (w : World) => W.srK Try.prog C0 (fun E w => W.srK Try.prog C1 (fun E w => W.retVC Try.prog Try.f76 E w (fun v => R (.returned v) w)) E w) E w) (W.envOf 0 [.agg #[.int .u64 x0_0, .int .u64 x0_1, .string x0_2], .int .u64 i1]) w from Eq.mp (by kernel_rfl) h) fun _ _ hK => (W.sr C1 (by kernel_rfl) hK fun _ _ hK => (W.rt C2 (by kernel_rfl) fun a hA => W.retVC_sound hA hK)))
theorem okT (x0_0 x0_1 : Int) (x0_2 : ByteArray) (i1 : Int) (w : World) (R : W.Post) (h : W.newV [] w fun b2 w1 => 
  W.callF [b2] Try.prog n_cmp_Compare_uint64 #[.int .u64 x0_0, .int .u64 i1] w1 fun r_ w2 => ∃ t8 : Int, r_ = .returned (.int .i64 t8) ∧ 
  R (.returned (.int .i64 t8)) w2) : Calls Try.prog n_value_place_1 #[.agg #[.int .u64 x0_0, .int .u64 x0_1, .string x0_2], .int .u64 i1] w R :=
  ok _ _ _ _ w R (W.LC.nwT (W.LC.nil _) (W.Fr.refl _ _) h fun w1 H h => ⟨_, H.ld 0 0, W.LC.callT H h fun r_ w2 H h => let ⟨t8, hr, h⟩ := h; ⟨t8, hr, h⟩⟩)
end value_place_1
namespace slices_BinarySearchFunc_sl_value_Entry_value_Entry_uint64
noncomputable def C0 : Code := (Try.f75.body).getD .skip
noncomputable def C1 := W.Code.snd C0
noncomputable def C2 := W.Code.snd C1
noncomputable def C3 := W.Code.snd C2
noncomputable def C4 := W.Code.fst C3
noncomputable def C5 := W.Code.fst C4
noncomputable def C6 := W.Code.fst C5
noncomputable def C7 := W.Code.snd C3
abbrev Q0 (R : W.Post) : Exit → Act → World → Prop := (Exit.then (W.wpx Try.prog (W.cx 49) C7 (bodyPost Try.prog Try.f75 R)) (bodyPost Try.prog Try.f75 R))
abbrev Q1 (R : W.Post) : Exit → Act → World → Prop := (Exit.inBlock 0 (Q0 R))
/-- the head of the loop, sort.go:157 -/
def L0 (x0 : W.Sl) (target1 n8 i9 j10 : Int) (w : World) (R : W.Post) : Prop := W.LP Try.prog (W.cx 49) C6 (Q1 R) [(0, x0.v), (1, .int .u64 target1), (2, .func (.func n_value_place_1) #[] #[]), (8, .int .i64 n8), (9, .int .i64 i9), (10, .int .i64 j10)] w
def KE_L0 (E : W.Env) (w : World) (R : W.Post) : Prop := W.asSlice (W.Env.get? E 0) fun x0 => W.asInt .u64 (W.Env.get? E 1) fun target1 => W.asFunc n_value_place_1 (W.Env.get? E 2) fun cmp2_lf0 cmp2_lc0 => W.asNil cmp2_lf0 <| W.asNil cmp2_lc0 <| W.asInt .i64 (W.Env.get? E 8) fun n8 => W.asInt .i64 (W.Env.get? E 9) fun i9 => W.asInt .i64 (W.Env.get? E 10) fun j10 => L0 x0 target1 n8 i9 j10 w R
theorem KE_L0_ok (R : W.Post) (E : W.Env) (w : World) (h : KE_L0 E w R) : W.LP Try.prog (W.cx 49) C6 (Q1 R) E w := by
  obtain ⟨x0, hq0, h_1⟩ := W.asSlice_elim h
  obtain ⟨target1, hq1, h_2⟩ := W.asInt_elim h_1
  obtain ⟨cmp2_lf0, cmp2_lc0, hq2, h_3⟩ := W.asFunc_elim h_2
  obtain ⟨rfl, h_4⟩ := W.asNil_elim h_3
  obtain ⟨rfl, h_5⟩ := W.asNil_elim h_4
  obtain ⟨n8, hq8, h_6⟩ := W.asInt_elim h_5
  obtain ⟨i9, hq9, h_7⟩ := W.asInt_elim h_6
  obtain ⟨j10, hq10, h_8⟩ := W.asInt_elim h_7
  intro a ha
  exact h_8 a (ha.cons hq0 (ha.cons hq1 (ha.cons hq2 (ha.cons hq8 (ha.cons hq9 (ha.cons hq10 ha.nil))))))
noncomputable def C8 := W.Code.snd C6
noncomputable def C9 := W.Code.fst C8
noncomputable def C10 := W.Code.snd C9
abbrev Q2 (R : W.Post) : Exit → Act → World → Prop := (Exit.then (W.LoopWP Try.prog (W.cx 49) C6 (Q1 R)) (Q1 R))
abbrev Q3 (R : W.Post) : Exit → Act → World → Prop := (Exit.inBlock 1 (Q2 R))
noncomputable def C11 := W.Code.snd C10
noncomputable def C12 := W.Code.fst C11
noncomputable def C13 := W.Code.snd C11
/-- sort.go:160 -/
abbrev S1 (x0 : W.Sl) (target1 n8 i9 j10 h11 : Int) (w : World) (R : W.Post) : Prop :=
  (0 : Int) ≤ h11 ∧ h11 < ((x0.n : Nat) : Int) ∧ W.optP x0.a fun t27_p => ∃ t28_0 : Int, ∃ t28_1 : Int, ∃ t28_2 : ByteArray, w.cell? ((t27_p.add (Int.toNat h11 * 3)).add 0) = some (.int .u64 t28_0) ∧ w.cell? ((t27_p.add (Int.toNat h11 * 3)).add 1) = some (.int .u64 t28_1) ∧ w.cell? ((t27_p.add (Int.toNat h11 * 3)).add 2) = some (.string t28_2) ∧ 
  Calls Try.prog n_value_place_1 #[.agg #[.int .u64 t28_0, .int .u64 t28_1, .string t28_2], .int .u64 target1] w fun r_ w1 => ∃ t30 : Int, r_ = .returned (.int .i64 t30) ∧ 
  W.sel (decide (t30 < 0)) (L0 x0 target1 n8 (IntKind.wrap .i64 (h11 + 1)) j10 w1 R) (L0 x0 target1 n8 i9 h11 w1 R)
def KE_S1 (E : W.Env) (w : World) (R : W.Post) : Prop := W.asSlice (W.Env.get? E 0) fun x0 => W.asInt .u64 (W.Env.get? E 1) fun target1 => W.asFunc n_value_place_1 (W.Env.get? E 2) fun cmp2_lf0 cmp2_lc0 => W.asNil cmp2_lf0 <| W.asNil cmp2_lc0 <| W.asInt .i64 (W.Env.get? E 8) fun n8 => W.asInt .i64 (W.Env.get? E 9) fun i9 => W.asInt .i64 (W.Env.get? E 10) fun j10 => W.asInt .i64 (W.Env.get? E 11) fun h11 => S1 x0 target1 n8 i9 j10 h11 w R
theorem KE_S1_ok (R : W.Post) (E : W.Env) (w : World) (h : KE_S1 E w R) : W.WP Try.prog (W.cx 49) C10 (Q3 R) E w := by
  obtain ⟨x0, hq0, h_1⟩ := W.asSlice_elim h
  obtain ⟨target1, hq1, h_2⟩ := W.asInt_elim h_1
  obtain ⟨cmp2_lf0, cmp2_lc0, hq2, h_3⟩ := W.asFunc_elim h_2
  obtain ⟨rfl, h_4⟩ := W.asNil_elim h_3
  obtain ⟨rfl, h_5⟩ := W.asNil_elim h_4
  obtain ⟨n8, hq8, h_6⟩ := W.asInt_elim h_5
  obtain ⟨i9, hq9, h_7⟩ := W.asInt_elim h_6
  obtain ⟨j10, hq10, h_8⟩ := W.asInt_elim h_7
  obtain ⟨h11, hq11, h_9⟩ := W.asInt_elim h_8
  exact fun a ha => W.WP.at (E := [(0, x0.v), (1, .int .u64 target1), (2, .func (.func n_value_place_1) #[] #[]), (8, .int .i64 n8), (9, .int .i64 i9), (10, .int .i64 j10), (11, .int .i64 h11)]) (W.sr C10 (K := fun E w => W.condK (W.Env.val E (.tmp 31)) (W.rgK Try.prog C12 (fun E w => KE_L0 E w R) E w) (W.rgK Try.prog C13 (fun E w => KE_L0 E w R) E w)) (by kernel_rfl) (Eq.mp (by kernel_rfl) h_9) fun _ _ hK => (W.cn C11 (by kernel_rfl) hK (fun hK => (W.rg C12 (by kernel_rfl) hK fun _ _ a hA hK => KE_L0_ok R _ _ hK a hA)) (fun hK => (W.rg C13 (by kernel_rfl) hK fun _ _ a hA hK => KE_L0_ok R _ _ hK a hA)))) (ha.cons hq0 (ha.cons hq1 (ha.cons hq2 (ha.cons hq8 (ha.cons hq9 (ha.cons hq10 (ha.cons hq11 ha.nil)))))))
noncomputable def C14 := W.Code.fst C6
noncomputable def C15 := W.Code.snd C14
noncomputable def C16 := W.Code.fst C15
noncomputable def C17 := W.Code.snd C15
noncomputable def C18 := W.Code.snd C7
theorem L0_step (x0 : W.Sl) (target1 n8 i9 j10 : Int) (w : World) (R : W.Post) (h : W.sel (decide (i9 < j10)) (S1 x0 target1 n8 i9 j10 (IntKind.wrap .i64 (Int.fdiv (IntKind.wrap .u64 (IntKind.wrap .i64 (i9 + j10))) (2 ^ (1)))) w R) (W.sel (decide (i9 < n8)) ((0 : Int) ≤ i9 ∧ i9 < ((x0.n : Nat) : Int) ∧ W.optP x0.a fun t43_p => ∃ t44_0 : Int, ∃ t44_1 : Int, ∃ t44_2 : ByteArray, w.cell? ((t43_p.add (Int.toNat i9 * 3)).add 0) = some (.int .u64 t44_0) ∧ w.cell? ((t43_p.add (Int.toNat i9 * 3)).add 1) = some (.int .u64 t44_1) ∧ w.cell? ((t43_p.add (Int.toNat i9 * 3)).add 2) = some (.string t44_2) ∧ 
  Calls Try.prog n_value_place_1 #[.agg #[.int .u64 t44_0, .int .u64 t44_1, .string t44_2], .int .u64 target1] w fun r_ w1 => ∃ t46 : Int, r_ = .returned (.int .i64 t46) ∧ 
  R (.returned (.tuple #[.int .i64 i9, .bool (t46 == 0)])) w1) (R (.returned (.tuple #[.int .i64 i9, .bool false])) w))) : L0 x0 target1 n8 i9 j10 w R :=
  W.LP.step (n := (W.cx 49)) (c := C6) (E := [(0, x0.v), (1, .int .u64 target1), (2, .func (.func n_value_place_1) #[] #[]), (8, .int .i64 n8), (9, .int .i64 i9), (10, .int .i64 j10)]) (w := w) (W.sq C6 (by kernel_rfl) (W.sr C14 (by kernel_rfl) (show (fun (E : W.Env) (w : World) => W.srK Try.prog C14 (fun E w => W.condK (W.Env.val E (.tmp 17)) (W.srK Try.prog C9 (fun E w => KE_S1 E w R) E w) (W.srK Try.prog C7 (fun E w => W.retVC Try.prog Try.f75 E w (fun v => R (.returned v) w)) E w)) E w) [(0, x0.v), (1, .int .u64 target1), (2, .func (.func n_value_place_1) #[] #[]), (8, .int .i64 n8), (9, .int .i64 i9), (10, .int .i64 j10)] w from Eq.mp (by kernel_rfl) h) fun _ _ hK => (W.cn C15 (by kernel_rfl) hK (fun hK => (W.sk C16 (by kernel_rfl) fun a hA => W.nx hA (W.bk C8 1 (by kernel_rfl) (W.sr C9 (by kernel_rfl) hK fun _ _ hK => (KE_S1_ok R _ _ hK))))) (fun hK => (W.xt C17 0 (by kernel_rfl) fun a hA => W.nx hA (W.sr C7 (by kernel_rfl) hK fun _ _ hK => (W.rt C18 (by kernel_rfl) fun a hA => W.retVC_sound hA hK)))))))
/-- slices.BinarySearchFunc[[]enthymeme/value.Entry,enthymeme/value.Entry,uint64] -/
theorem ok (x0 : W.Sl) (target1 : Int) (w : World) (R : W.Post) (h : L0 x0 target1 ((x0.n : Nat) : Int) 0 ((x0.n : Nat) : Int) w R) : Calls Try.prog n_slices_BinarySearchFunc_sl_value_Entry_value_Entry_uint64 #[x0.v, .int .u64 target1, .func (.func n_value_place_1) #[] #[]] w R :=
  W.calls_of_WP' (R := R) (fn := Try.f75) (c := C0) (args := [x0.v, .int .u64 target1, .func (.func n_value_place_1) #[] #[]]) (by kernel_rfl) (by kernel_rfl) (by kernel_rfl) (W.sr C0 (by kernel_rfl) (show (fun (E : W.Env) (w : World) => W.srK Try.prog C0 (fun E w => W.srK Try.prog C1 (fun E w => W.srK Try.prog C2 (fun E w => KE_L0 E w R) E w) E w) E w) (W.envOf 0 [x0.v, .int .u64 target1, .func (.func n_value_place_1) #[] #[]]) w from Eq.mp (by kernel_rfl) h) fun _ _ hK => (W.sr C1 (by kernel_rfl) hK fun _ _ hK => (W.sr C2 (by kernel_rfl) hK fun _ _ hK => (W.sq C3 (by kernel_rfl) (W.bk C4 0 (by kernel_rfl) (W.lp C5 (by kernel_rfl) (KE_L0_ok R _ _ hK)))))))
end slices_BinarySearchFunc_sl_value_Entry_value_Entry_uint64
namespace value_place
noncomputable def C0 : Code := (Try.f50.body).getD .skip
/-- enthymeme/value.place -/
noncomputable def C1 := W.Code.snd C0
noncomputable def C2 := W.Code.snd C1
theorem ok (l0 : W.Sl) (index1 : Int) (w : World) (R : W.Post) (h : Calls Try.prog n_slices_BinarySearchFunc_sl_value_Entry_value_Entry_uint64 #[l0.v, .int .u64 index1, .func (.func n_value_place_1) #[] #[]] w fun r_ w1 => ∃ t8_0 : Int, ∃ t8_1 : Bool, r_ = .returned (.tuple #[.int .i64 t8_0, .bool t8_1]) ∧ 
  R (.returned (.tuple #[.int .i64 t8_0, .bool t8_1])) w1) : Calls Try.prog n_value_place #[l0.v, .int .u64 index1] w R :=
  W.calls_of_WP' (R := R) (fn := Try.f50) (c := C0) (args := [l0.v, .int .u64 index1]) (by kernel_rfl) (by kernel_rfl) (by kernel_rfl) (W.sr C0 (by kernel_rfl) (show (fun (E : W.Env) (w : World) => W.srK Try.prog C0 (fun E w => W.srK Try.prog C1 (fun E w => W.retVC Try.prog Try.f50 E w (fun v => R (.returned v) w)) E w) E w) (W.envOf 0 [l0.v, .int .u64 index1]) w from Eq.mp (by kernel_rfl) h) fun _ _ hK => (W.sr C1 (by kernel_rfl) hK fun _ _ hK => (W.rt C2 (by kernel_rfl) fun a hA => W.retVC_sound hA hK)))
end value_place
namespace value_Select
noncomputable def C0 : Code := (Try.f23.body).getD .skip
noncomputable def C1 := W.Code.snd C0
noncomputable def C2 := W.Code.snd C1
noncomputable def C3 := W.Code.snd C2
noncomputable def C4 := W.Code.snd C3
noncomputable def C5 := W.Code.snd C4
noncomputable def C6 := W.Code.snd C5
noncomputable def C7 := W.Code.snd C6
abbrev Q0 (R : W.Post) : Exit → Act → World → Prop := (bodyPost Try.prog Try.f23 R)
noncomputable def C8 := W.Code.snd C7
/-- value.go:147 -/
abbrev S1 (t4 v7 : Addr) (w : World) (R : W.Post) : Prop :=
  ∃ t61_0 : Int, ∃ t61_1 : Int, ∃ t61_2 : Int, ∃ t61_3 : Int, ∃ t61_4 : ByteArray, ∃ t61_5 : W.Sl, w.cell? (v7.add 0) = some (.int .i64 t61_0) ∧ w.cell? (v7.add 1) = some (.int .i64 t61_1) ∧ w.cell? (v7.add 2) = some (.int .i64 t61_2) ∧ w.cell? (v7.add 3) = some (.int .u64 t61_3) ∧ w.cell? (v7.add 4) = some (.string t61_4) ∧ w.cell? (v7.add 5) = some (t61_5.v) ∧ 
  W.stV w t4 (.int .i64 t61_0) fun w1 => 
  W.stV w1 (t4.add 1) (.int .i64 t61_1) fun w2 => 
  W.stV w2 (t4.add 2) (.int .i64 t61_2) fun w3 => 
  W.stV w3 (t4.add 3) (.int .u64 t61_3) fun w4 => 
  W.stV w4 (t4.add 4) (.string t61_4) fun w5 => 
  W.stV w5 (t4.add 5) (t61_5.v) fun w6 => 
  ∃ r4_0 : Int, ∃ r4_1 : Int, ∃ r4_2 : Int, ∃ r4_3 : Int, ∃ r4_4 : ByteArray, ∃ r4_5 : W.Sl, w6.cell? (t4.add 0) = some (.int .i64 r4_0) ∧ w6.cell? (t4.add 1) = some (.int .i64 r4_1) ∧ w6.cell? (t4.add 2) = some (.int .i64 r4_2) ∧ w6.cell? (t4.add 3) = some (.int .u64 r4_3) ∧ w6.cell? (t4.add 4) = some (.string r4_4) ∧ w6.cell? (t4.add 5) = some (r4_5.v) ∧ 
  R (.returned (.tuple #[.agg #[.int .i64 r4_0, .int .i64 r4_1, .int .i64 r4_2, .int .u64 r4_3, .string r4_4, r4_5.v], .int .i64 0])) w6
def KE_S1 (E : W.Env) (w : World) (R : W.Post) : Prop := W.asRef (W.Env.get? E 4) fun t4 => W.asRef (W.Env.get? E 7) fun v7 => S1 t4 v7 w R
theorem KE_S1_ok (R : W.Post) (E : W.Env) (w : World) (h : KE_S1 E w R) : W.WP Try.prog (W.cx 62) C7 (Q0 R) E w := by
  obtain ⟨t4, hq4, h_1⟩ := W.asRef_elim h
  obtain ⟨v7, hq7, h_2⟩ := W.asRef_elim h_1
  exact fun a ha => W.WP.at (E := [(4, .pointer (some t4)), (7, .pointer (some v7))]) (W.sr C7 (K := fun E w => W.retVC Try.prog Try.f23 E w (fun v => R (.returned v) w)) (by kernel_rfl) (Eq.mp (by kernel_rfl) h_2) fun _ _ hK => (W.rt C8 (by kernel_rfl) fun a hA => W.retVC_sound hA hK)) (ha.cons hq4 (ha.cons hq7 ha.nil))
noncomputable def C9 := W.Code.fst C6
abbrev Q1 (R : W.Post) : Exit → Act → World → Prop := (Exit.then (W.wpx Try.prog (W.cx 62) C7 (bodyPost Try.prog Try.f23 R)) (bodyPost Try.prog Try.f23 R))
noncomputable def C10 := W.Code.snd C9
noncomputable def C11 := W.Code.snd C10
noncomputable def C12 := W.Code.fst C11
noncomputable def C13 := W.Code.snd C11
/-- value.go:144 -/
abbrev S0 (index1 : Int) (a2 t4 v7 : Addr) (w : World) (R : W.Post) : Prop :=
  ∃ t41 : W.Sl, w.cell? (a2.add 5) = some (t41.v) ∧ 
  Calls Try.prog n_value_place #[t41.v, .int .u64 index1] w fun r_ w1 => ∃ t43_0 : Int, ∃ t43_1 : Bool, r_ = .returned (.tuple #[.int .i64 t43_0, .bool t43_1]) ∧ 
  W.sel t43_1 (W.drV w1 fun w2 => ∃ t48 : W.Sl, w2.cell? (a2.add 5) = some (t48.v) ∧ 
  (0 : Int) ≤ t43_0 ∧ t43_0 < ((t48.n : Nat) : Int) ∧ W.optP t48.a fun t50_p => ∃ t52 : Int, w2.cell? ((t50_p.add (Int.toNat t43_0 * 3)).add 1) = some (.int .u64 t52) ∧ 
  ∃ t54 : W.Sl, w2.cell? (a2.add 5) = some (t54.v) ∧ 
  (0 : Int) ≤ t43_0 ∧ t43_0 < ((t54.n : Nat) : Int) ∧ W.optP t54.a fun t56_p => ∃ t58 : ByteArray, w2.cell? ((t56_p.add (Int.toNat t43_0 * 3)).add 2) = some (.string t58) ∧ 
  W.stV w2 (v7.add 3) (.int .u64 t52) fun w3 => 
  w3.cell? ((t56_p.add (Int.toNat t43_0 * 3)).add 2) = some (.string t58) ∧ w3.cell? (a2.add 5) = some (t54.v) ∧ W.stV w3 (v7.add 4) (.string t58) fun w4 => 
  S1 t4 v7 w4 R) (S1 t4 v7 w1 R)
def KE_S0 (E : W.Env) (w : World) (R : W.Post) : Prop := W.asInt .u64 (W.Env.get? E 1) fun index1 => W.asRef (W.Env.get? E 2) fun a2 => W.asRef (W.Env.get? E 4) fun t4 => W.asRef (W.Env.get? E 7) fun v7 => S0 index1 a2 t4 v7 w R
theorem KE_S0_ok (R : W.Post) (E : W.Env) (w : World) (h : KE_S0 E w R) : W.WP Try.prog (W.cx 62) C9 (Q1 R) E w := by
  obtain ⟨index1, hq1, h_1⟩ := W.asInt_elim h
  obtain ⟨a2, hq2, h_2⟩ := W.asRef_elim h_1
  obtain ⟨t4, hq4, h_3⟩ := W.asRef_elim h_2
  obtain ⟨v7, hq7, h_4⟩ := W.asRef_elim h_3
  exact fun a ha => W.WP.at (E := [(1, .int .u64 index1), (2, .pointer (some a2)), (4, .pointer (some t4)), (7, .pointer (some v7))]) (W.sr C9 (K := fun E w => W.srK Try.prog C10 (fun E w => W.condK (W.Env.val E (.tmp 46)) (W.dgK Try.prog C12 [0, 1, 2, 3, 4, 5, 6, 7, 8, 9, 10, 11, 12, 13, 14, 15] (fun E w => KE_S1 E w R) E w) (KE_S1 E w R)) E w) (by kernel_rfl) (Eq.mp (by kernel_rfl) h_4) fun _ _ hK => (W.sr C10 (by kernel_rfl) hK fun _ _ hK => (W.cn C11 (by kernel_rfl) hK (fun hK => (W.dg C12 (by kernel_rfl) hK fun _ _ a hA hK => W.nx hA (KE_S1_ok R _ _ hK))) (fun hK => (W.sk C13 (by kernel_rfl) fun a hA => W.nx hA (KE_S1_ok R _ _ hK)))))) (ha.cons hq1 (ha.cons hq2 (ha.cons hq4 (ha.cons hq7 ha.nil))))
/-- enthymeme/value.Select -/
noncomputable def C14 := W.Code.fst C1
noncomputable def C15 := W.Code.snd C14
noncomputable def C16 := W.Code.snd C15
noncomputable def C17 := W.Code.fst C16
noncomputable def C18 := W.Code.fst C2
noncomputable def C19 := W.Code.snd C18
noncomputable def C20 := W.Code.fst C19
noncomputable def C21 := W.Code.fst C3
noncomputable def C22 := W.Code.snd C21
noncomputable def C23 := W.Code.fst C22
noncomputable def C24 := W.Code.fst C5
noncomputable def C25 := W.Code.snd C24
noncomputable def C26 := W.Code.fst C25
noncomputable def C27 := W.Code.snd C17
noncomputable def C28 := W.Code.snd C16
noncomputable def C29 := W.Code.snd C20
noncomputable def C30 := W.Code.snd C19
noncomputable def C31 := W.Code.snd C23
noncomputable def C32 := W.Code.snd C22
noncomputable def C33 := W.Code.snd C25
theorem ok (a0_0 a0_1 a0_2 a0_3 : Int) (a0_4 : ByteArray) (a0_5 : W.Sl) (index1 : Int) (w : World) (R : W.Post) (h : W.nwV w (.cells #[.int .i64 a0_0, .int .i64 a0_1, .int .i64 a0_2, .int .u64 a0_3, .string a0_4, a0_5.v] ty_value_Value) fun w1 => 
  W.nwV w1 (.cells #[.int .i64 0, .int .i64 0, .int .i64 0, .int .u64 0, .string (ByteArray.mk #[]), .slice none 0 0] ty_value_Value) fun w2 => 
  ∃ t10_0 : Int, ∃ t10_1 : Int, ∃ t10_2 : Int, ∃ t10_3 : Int, ∃ t10_4 : ByteArray, ∃ t10_5 : W.Sl, w2.cell? ((Addr.mk w.heap.size 0 none).add 0) = some (.int .i64 t10_0) ∧ w2.cell? ((Addr.mk w.heap.size 0 none).add 1) = some (.int .i64 t10_1) ∧ w2.cell? ((Addr.mk w.heap.size 0 none).add 2) = some (.int .i64 t10_2) ∧ w2.cell? ((Addr.mk w.heap.size 0 none).add 3) = some (.int .u64 t10_3) ∧ w2.cell? ((Addr.mk w.heap.size 0 none).add 4) = some (.string t10_4) ∧ w2.cell? ((Addr.mk w.heap.size 0 none).add 5) = some (t10_5.v) ∧ 
  Calls Try.prog n_value_Valid #[.agg #[.int .i64 t10_0, .int .i64 t10_1, .int .i64 t10_2, .int .u64 t10_3, .string t10_4, t10_5.v]] w2 fun r_ w3 => ∃ t11 : Int, r_ = .returned (.int .i64 t11) ∧ 
  W.sel (t11 != 0) (W.stV w3 (Addr.mk w1.heap.size 0 none) (.int .i64 0) fun w4 => 
  W.stV w4 ((Addr.mk w1.heap.size 0 none).add 1) (.int .i64 0) fun w5 => 
  W.stV w5 ((Addr.mk w1.heap.size 0 none).add 2) (.int .i64 0) fun w6 => 
  W.stV w6 ((Addr.mk w1.heap.size 0 none).add 3) (.int .u64 0) fun w7 => 
  W.stV w7 ((Addr.mk w1.heap.size 0 none).add 4) (.string (ByteArray.mk #[])) fun w8 => 
  W.stV w8 ((Addr.mk w1.heap.size 0 none).add 5) (.slice none 0 0) fun w9 => 
  ∃ r4_0 : Int, ∃ r4_1 : Int, ∃ r4_2 : Int, ∃ r4_3 : Int, ∃ r4_4 : ByteArray, ∃ r4_5 : W.Sl, w9.cell? ((Addr.mk w1.heap.size 0 none).add 0) = some (.int .i64 r4_0) ∧ w9.cell? ((Addr.mk w1.heap.size 0 none).add 1) = some (.int .i64 r4_1) ∧ w9.cell? ((Addr.mk w1.heap.size 0 none).add 2) = some (.int .i64 r4_2) ∧ w9.cell? ((Addr.mk w1.heap.size 0 none).add 3) = some (.int .u64 r4_3) ∧ w9.cell? ((Addr.mk w1.heap.size 0 none).add 4) = some (.string r4_4) ∧ w9.cell? ((Addr.mk w1.heap.size 0 none).add 5) = some (r4_5.v) ∧ 
  R (.returned (.tuple #[.agg #[.int .i64 r4_0, .int .i64 r4_1, .int .i64 r4_2, .int .u64 r4_3, .string r4_4, r4_5.v], .int .i64 t11])) w9) (∃ t17_0 : Int, ∃ t17_1 : Int, ∃ t17_2 : Int, w3.cell? (((Addr.mk w.heap.size 0 none).add 0).add 0) = some (.int .i64 t17_0) ∧ w3.cell? (((Addr.mk w.heap.size 0 none).add 0).add 1) = some (.int .i64 t17_1) ∧ w3.cell? (((Addr.mk w.heap.size 0 none).add 0).add 2) = some (.int .i64 t17_2) ∧ 
  Calls Try.prog n_value_isArray #[.agg #[.int .i64 t17_0, .int .i64 t17_1, .int .i64 t17_2]] w3 fun r_ w10 => ∃ t18 : Bool, r_ = .returned (.bool t18) ∧ 
  W.sel (!t18) (W.stV w10 (Addr.mk w1.heap.size 0 none) (.int .i64 0) fun w11 => 
  W.stV w11 ((Addr.mk w1.heap.size 0 none).add 1) (.int .i64 0) fun w12 => 
  W.stV w12 ((Addr.mk w1.heap.size 0 none).add 2) (.int .i64 0) fun w13 => 
  W.stV w13 ((Addr.mk w1.heap.size 0 none).add 3) (.int .u64 0) fun w14 => 
  W.stV w14 ((Addr.mk w1.heap.size 0 none).add 4) (.string (ByteArray.mk #[])) fun w15 => 
  W.stV w15 ((Addr.mk w1.heap.size 0 none).add 5) (.slice none 0 0) fun w16 => 
  ∃ r4_0 : Int, ∃ r4_1 : Int, ∃ r4_2 : Int, ∃ r4_3 : Int, ∃ r4_4 : ByteArray, ∃ r4_5 : W.Sl, w16.cell? ((Addr.mk w1.heap.size 0 none).add 0) = some (.int .i64 r4_0) ∧ w16.cell? ((Addr.mk w1.heap.size 0 none).add 1) = some (.int .i64 r4_1) ∧ w16.cell? ((Addr.mk w1.heap.size 0 none).add 2) = some (.int .i64 r4_2) ∧ w16.cell? ((Addr.mk w1.heap.size 0 none).add 3) = some (.int .u64 r4_3) ∧ w16.cell? ((Addr.mk w1.heap.size 0 none).add 4) = some (.string r4_4) ∧ w16.cell? ((Addr.mk w1.heap.size 0 none).add 5) = some (r4_5.v) ∧ 
  R (.returned (.tuple #[.agg #[.int .i64 r4_0, .int .i64 r4_1, .int .i64 r4_2, .int .u64 r4_3, .string r4_4, r4_5.v], .int .i64 9])) w16) (∃ t24 : Int, w10.cell? (((Addr.mk w.heap.size 0 none).add 0).add 2) = some (.int .i64 t24) ∧ 
  Calls Try.prog n_value_below #[.int .u64 index1, .int .i64 t24] w10 fun r_ w17 => ∃ t25 : Bool, r_ = .returned (.bool t25) ∧ 
  W.sel (!t25) (W.stV w17 (Addr.mk w1.heap.size 0 none) (.int .i64 0) fun w18 => 
  W.stV w18 ((Addr.mk w1.heap.size 0 none).add 1) (.int .i64 0) fun w19 => 
  W.stV w19 ((Addr.mk w1.heap.size 0 none).add 2) (.int .i64 0) fun w20 => 
  W.stV w20 ((Addr.mk w1.heap.size 0 none).add 3) (.int .u64 0) fun w21 => 
  W.stV w21 ((Addr.mk w1.heap.size 0 none).add 4) (.string (ByteArray.mk #[])) fun w22 => 
  W.stV w22 ((Addr.mk w1.heap.size 0 none).add 5) (.slice none 0 0) fun w23 => 
  ∃ r4_0 : Int, ∃ r4_1 : Int, ∃ r4_2 : Int, ∃ r4_3 : Int, ∃ r4_4 : ByteArray, ∃ r4_5 : W.Sl, w23.cell? ((Addr.mk w1.heap.size 0 none).add 0) = some (.int .i64 r4_0) ∧ w23.cell? ((Addr.mk w1.heap.size 0 none).add 1) = some (.int .i64 r4_1) ∧ w23.cell? ((Addr.mk w1.heap.size 0 none).add 2) = some (.int .i64 r4_2) ∧ w23.cell? ((Addr.mk w1.heap.size 0 none).add 3) = some (.int .u64 r4_3) ∧ w23.cell? ((Addr.mk w1.heap.size 0 none).add 4) = some (.string r4_4) ∧ w23.cell? ((Addr.mk w1.heap.size 0 none).add 5) = some (r4_5.v) ∧ 
  R (.returned (.tuple #[.agg #[.int .i64 r4_0, .int .i64 r4_1, .int .i64 r4_2, .int .u64 r4_3, .string r4_4, r4_5.v], .int .i64 5])) w23) (∃ t30 : Int, w17.cell? (((Addr.mk w.heap.size 0 none).add 0).add 1) = some (.int .i64 t30) ∧ 
  W.nwV w17 (.cells #[.int .i64 0, .int .i64 0, .int .i64 0, .int .u64 0, .string (ByteArray.mk #[]), .slice none 0 0] ty_value_Value) fun w24 => 
  W.stV w24 (Addr.mk w17.heap.size 0 none) (.int .i64 0) fun w25 => 
  W.stV w25 ((Addr.mk w17.heap.size 0 none).add 1) (.int .i64 t30) fun w26 => 
  W.stV w26 ((Addr.mk w17.heap.size 0 none).add 2) (.int .i64 0) fun w27 => 
  W.stV w27 ((Addr.mk w17.heap.size 0 none).add 3) (.int .u64 0) fun w28 => 
  W.stV w28 ((Addr.mk w17.heap.size 0 none).add 4) (.string (ByteArray.mk #[])) fun w29 => 
  W.stV w29 ((Addr.mk w17.heap.size 0 none).add 5) (.slice none 0 0) fun w30 => 
  ∃ t35 : Int, w30.cell? (((Addr.mk w.heap.size 0 none).add 0).add 0) = some (.int .i64 t35) ∧ 
  W.sel (t35 == 3) (W.stV w30 (((Addr.mk w17.heap.size 0 none).add 0).add 0) (.int .i64 1) fun w31 => 
  S0 index1 (Addr.mk w.heap.size 0 none) (Addr.mk w1.heap.size 0 none) (Addr.mk w17.heap.size 0 none) w31 R) (S0 index1 (Addr.mk w.heap.size 0 none) (Addr.mk w1.heap.size 0 none) (Addr.mk w17.heap.size 0 none) w30 R))))) : Calls Try.prog n_value_Select #[.agg #[.int .i64 a0_0, .int .i64 a0_1, .int .i64 a0_2, .int .u64 a0_3, .string a0_4, a0_5.v], .int .u64 index1] w R :=
  W.calls_of_WP' (R := R) (fn := Try.f23) (c := C0) (args := [.agg #[.int .i64 a0_0, .int .i64 a0_1, .int .i64 a0_2, .int .u64 a0_3, .string a0_4, a0_5.v], .int .u64 index1]) (by kernel_rfl) (by kernel_rfl) (by kernel_rfl) (W.sr C0 (by kernel_rfl) (show (fun (E : W.Env) (w : World) => W.srK Try.prog C0 (fun E w => W.srK Try.prog C14 (fun E w => W.srK Try.prog C15 (fun E w => W.condK (W.Env.val E (.tmp 13)) (W.srK Try.prog C17 (fun E w => W.retVC Try.prog Try.f23 E w (fun v => R (.returned v) w)) E w) (W.srK Try.prog C18 (fun E w => W.condK (W.Env.val E (.tmp 19)) (W.srK Try.prog C20 (fun E w => W.retVC Try.prog Try.f23 E w (fun v => R (.returned v) w)) E w) (W.srK Try.prog C21 (fun E w => W.condK (W.Env.val E (.tmp 26)) (W.srK Try.prog C23 (fun E w => W.retVC Try.prog Try.f23 E w (fun v => R (.returned v) w)) E w) (W.srK Try.prog C4 (fun E w => W.srK Try.prog C24 (fun E w => W.condK (W.Env.val E (.tmp 36)) (W.rgK Try.prog C26 (fun E w => KE_S0 E w R) E w) (KE_S0 E w R)) E w) E w)) E w)) E w)) E w) E w) E w) (W.envOf 0 [.agg #[.int .i64 a0_0, .int .i64 a0_1, .int .i64 a0_2, .int .u64 a0_3, .string a0_4, a0_5.v], .int .u64 index1]) w from Eq.mp (by kernel_rfl) h) fun _ _ hK => (W.sq C1 (by kernel_rfl) (W.sr C14 (by kernel_rfl) hK fun _ _ hK => (W.sr C15 (by kernel_rfl) hK fun _ _ hK => (W.cn C16 (by kernel_rfl) hK (fun hK => (W.sr C17 (by kernel_rfl) hK fun _ _ hK => (W.rt C27 (by kernel_rfl) fun a hA => W.retVC_sound hA hK))) (fun hK => (W.sk C28 (by kernel_rfl) fun a hA => W.nx hA (W.sq C2 (by kernel_rfl) (W.sr C18 (by kernel_rfl) hK fun _ _ hK => (W.cn C19 (by kernel_rfl) hK (fun hK => (W.sr C20 (by kernel_rfl) hK fun _ _ hK => (W.rt C29 (by kernel_rfl) fun a hA => W.retVC_sound hA hK))) (fun hK => (W.sk C30 (by kernel_rfl) fun a hA => W.nx hA (W.sq C3 (by kernel_rfl) (W.sr C21 (by kernel_rfl) hK fun _ _ hK => (W.cn C22 (by kernel_rfl) hK (fun hK => (W.sr C23 (by kernel_rfl) hK fun _ _ hK => (W.rt C31 (by kernel_rfl) fun a hA => W.retVC_sound hA hK))) (fun hK => (W.sk C32 (by kernel_rfl) fun a hA => W.nx hA (W.sr C4 (by kernel_rfl) hK fun _ _ hK => (W.sq C5 (by kernel_rfl) (W.sr C24 (by kernel_rfl) hK fun _ _ hK => (W.cn C25 (by kernel_rfl) hK (fun hK => (W.rg C26 (by kernel_rfl) hK fun _ _ a hA hK => W.nx hA (W.sq C6 (by kernel_rfl) (KE_S0_ok R _ _ hK)))) (fun hK => (W.sk C33 (by kernel_rfl) fun a hA => W.nx hA (W.sq C6 (by kernel_rfl) (KE_S0_ok R _ _ hK)))))))))))))))))))))))))
abbrev S1T (t4 : Nat) (t4_0 t4_1 t4_2 t4_3 : Int) (t4_4 : ByteArray) (t4_5 : W.Sl) (v7 : Nat) (v7_0 v7_1 v7_2 v7_3 : Int) (v7_4 : ByteArray) (v7_5 : W.Sl) (w : World) (R : W.Post) : Prop :=
  W.loc [t4, v7] w fun w6 => R (.returned (.tuple #[.agg #[.int .i64 v7_0, .int .i64 v7_1, .int .i64 v7_2, .int .u64 v7_3, .string v7_4, v7_5.v], .int .i64 0])) w6
theorem S1T_ok {t4 : Nat} {t4_0 t4_1 t4_2 t4_3 : Int} {t4_4 : ByteArray} {t4_5 : W.Sl} {v7 : Nat} {v7_0 v7_1 v7_2 v7_3 : Int} {v7_4 : ByteArray} {v7_5 : W.Sl} {w : World} {R : W.Post} (h : S1T t4 t4_0 t4_1 t4_2 t4_3 t4_4 t4_5 v7 v7_0 v7_1 v7_2 v7_3 v7_4 v7_5 w R) (H : W.LC w [(t4, [.int .i64 t4_0, .int .i64 t4_1, .int .i64 t4_2, .int .u64 t4_3, .string t4_4, t4_5.v], ty_value_Value), (v7, [.int .i64 v7_0, .int .i64 v7_1, .int .i64 v7_2, .int .u64 v7_3, .string v7_4, v7_5.v], ty_value_Value)]) : S1 (W.at0 t4) (W.at0 v7) w R := ⟨_, _, _, _, _, v7_5, H.ld 1 0, H.ld 1 1, H.ld 1 2, H.ld 1 3, H.ld 1 4, H.ld 1 5, W.LC.stT0 H 0 (W.Fr.refl _ _) rfl rfl fun w1 H f => W.LC.stT H 0 1 f rfl rfl fun w2 H f => W.LC.stT H 0 2 f rfl rfl fun w3 H f => W.LC.stT H 0 3 f rfl rfl fun w4 H f => W.LC.stT H 0 4 f rfl rfl fun w5 H f => W.LC.stT H 0 5 f rfl rfl fun w6 (H : W.LC w6 [(t4, [.int .i64 v7_0, .int .i64 v7_1, .int .i64 v7_2, .int .u64 v7_3, .string v7_4, v7_5.v], ty_value_Value), (v7, [.int .i64 v7_0, .int .i64 v7_1, .int .i64 v7_2, .int .u64 v7_3, .string v7_4, v7_5.v], ty_value_Value)]) (f : W.Fr (· ∈ [t4, v7]) _ w6) => ⟨_, _, _, _, _, v7_5, H.ld 0 0, H.ld 0 1, H.ld 0 2, H.ld 0 3, H.ld 0 4, H.ld 0 5, have h := h _ f; h⟩⟩
abbrev S0T (index1 : Int) (a2 : Nat) (a2_0 a2_1 a2_2 a2_3 : Int) (a2_4 : ByteArray) (a2_5 : W.Sl) (t4 : Nat) (t4_0 t4_1 t4_2 t4_3 : Int) (t4_4 : ByteArray) (t4_5 : W.Sl) (v7 : Nat) (v7_0 v7_1 v7_2 v7_3 : Int) (v7_4 : ByteArray) (v7_5 : W.Sl) (w : World) (R : W.Post) : Prop :=
  W.callF [a2, t4, v7] Try.prog n_value_place #[a2_5.v, .int .u64 index1] w fun r_ w1 => ∃ t43_0 : Int, ∃ t43_1 : Bool, r_ = .returned (.tuple #[.int .i64 t43_0, .bool t43_1]) ∧ 
  W.sel t43_1 ((0 : Int) ≤ t43_0 ∧ t43_0 < ((a2_5.n : Nat) : Int) ∧ W.optP a2_5.a fun t50_p => W.loc [a2, t4, v7] w1 fun w2 => ∃ t52 : Int, w2.cell? ((t50_p.add (Int.toNat t43_0 * 3)).add 1) = some (.int .u64 t52) ∧ 
  (0 : Int) ≤ t43_0 ∧ t43_0 < ((a2_5.n : Nat) : Int) ∧ W.optP a2_5.a fun t56_p => ∃ t58 : ByteArray, w2.cell? ((t56_p.add (Int.toNat t43_0 * 3)).add 2) = some (.string t58) ∧ 
  W.loc [a2, t4, v7] w2 fun w3 => w3.cell? ((t56_p.add (Int.toNat t43_0 * 3)).add 2) = some (.string t58) ∧ W.loc [a2, t4, v7] w3 fun w4 => S1T t4 t4_0 t4_1 t4_2 t4_3 t4_4 t4_5 v7 v7_0 v7_1 v7_2 t52 t58 v7_5 w4 R) (S1T t4 t4_0 t4_1 t4_2 t4_3 t4_4 t4_5 v7 v7_0 v7_1 v7_2 v7_3 v7_4 v7_5 w1 R)
theorem S0T_ok {index1 : Int} {a2 : Nat} {a2_0 a2_1 a2_2 a2_3 : Int} {a2_4 : ByteArray} {a2_5 : W.Sl} {t4 : Nat} {t4_0 t4_1 t4_2 t4_3 : Int} {t4_4 : ByteArray} {t4_5 : W.Sl} {v7 : Nat} {v7_0 v7_1 v7_2 v7_3 : Int} {v7_4 : ByteArray} {v7_5 : W.Sl} {w : World} {R : W.Post} (h : S0T index1 a2 a2_0 a2_1 a2_2 a2_3 a2_4 a2_5 t4 t4_0 t4_1 t4_2 t4_3 t4_4 t4_5 v7 v7_0 v7_1 v7_2 v7_3 v7_4 v7_5 w R) (H : W.LC w [(a2, [.int .i64 a2_0, .int .i64 a2_1, .int .i64 a2_2, .int .u64 a2_3, .string a2_4, a2_5.v], ty_value_Value), (t4, [.int .i64 t4_0, .int .i64 t4_1, .int .i64 t4_2, .int .u64 t4_3, .string t4_4, t4_5.v], ty_value_Value), (v7, [.int .i64 v7_0, .int .i64 v7_1, .int .i64 v7_2, .int .u64 v7_3, .string v7_4, v7_5.v], ty_value_Value)]) : S0 index1 (W.at0 a2) (W.at0 t4) (W.at0 v7) w R := ⟨a2_5, H.ld 0 5, W.LC.callT H h fun r_ w1 H h => let ⟨t43_0, t43_1, hr, h⟩ := h; ⟨t43_0, t43_1, hr, W.sel_imp h (fun h => W.LC.drT H (W.Fr.refl _ _) fun w2 H f => ⟨a2_5, H.ld 0 5, ⟨h.1, h.2.1, have h := h.2.2; W.optP_imp h fun t50_p h => have h := h _ f; let ⟨t52, hc0, h⟩ := h; ⟨t52, hc0, ⟨a2_5, H.ld 0 5, ⟨h.1, h.2.1, have h := h.2.2; W.optP_imp h fun t56_p h => let ⟨t58, hc0, h⟩ := h; ⟨t58, hc0, W.LC.stT H 2 3 (W.Fr.refl _ _) rfl rfl fun w3 (H : W.LC w3 [(a2, [.int .i64 a2_0, .int .i64 a2_1, .int .i64 a2_2, .int .u64 a2_3, .string a2_4, a2_5.v], ty_value_Value), (t4, [.int .i64 t4_0, .int .i64 t4_1, .int .i64 t4_2, .int .u64 t4_3, .string t4_4, t4_5.v], ty_value_Value), (v7, [.int .i64 v7_0, .int .i64 v7_1, .int .i64 v7_2, .int .u64 t52, .string v7_4, v7_5.v], ty_value_Value)]) (f : W.Fr (· ∈ [a2, t4, v7]) _ w3) => have h := h _ f; ⟨h.1, H.ld 0 5, have h := h.2; W.LC.stT H 2 4 (W.Fr.refl _ _) rfl rfl fun w4 (H : W.LC w4 [(a2, [.int .i64 a2_0, .int .i64 a2_1, .int .i64 a2_2, .int .u64 a2_3, .string a2_4, a2_5.v], ty_value_Value), (t4, [.int .i64 t4_0, .int .i64 t4_1, .int .i64 t4_2, .int .u64 t4_3, .string t4_4, t4_5.v], ty_value_Value), (v7, [.int .i64 v7_0, .int .i64 v7_1, .int .i64 v7_2, .int .u64 t52, .string t58, v7_5.v], ty_value_Value)]) (f : W.Fr (· ∈ [a2, t4, v7]) _ w4) => have h := h _ f; S1T_ok h (H.pick [1, 2] (by decide))⟩⟩⟩⟩⟩⟩⟩) (fun h => S1T_ok h (H.pick [1, 2] (by decide)))⟩⟩
theorem okT (a0_0 a0_1 a0_2 a0_3 : Int) (a0_4 : ByteArray) (a0_5 : W.Sl) (index1 : Int) (w : World) (R : W.Post) (h : W.newV [] w fun b2 w1 => 
  W.newV [b2] w1 fun b4 w2 => 
  W.callF [b2, b4] Try.prog n_value_Valid #[.agg #[.int .i64 a0_0, .int .i64 a0_1, .int .i64 a0_2, .int .u64 a0_3, .string a0_4, a0_5.v]] w2 fun r_ w3 => ∃ t11 : Int, r_ = .returned (.int .i64 t11) ∧ 
  W.sel (t11 != 0) (W.loc [b2, b4] w3 fun w9 => R (.returned (.tuple #[.agg #[.int .i64 0, .int .i64 0, .int .i64 0, .int .u64 0, .string (ByteArray.mk #[]), .slice none 0 0], .int .i64 t11])) w9) (W.callF [b2, b4] Try.prog n_value_isArray #[.agg #[.int .i64 a0_0, .int .i64 a0_1, .int .i64 a0_2]] w3 fun r_ w10 => ∃ t18 : Bool, r_ = .returned (.bool t18) ∧ 
  W.sel (!t18) (W.loc [b2, b4] w10 fun w16 => R (.returned (.tuple #[.agg #[.int .i64 0, .int .i64 0, .int .i64 0, .int .u64 0, .string (ByteArray.mk #[]), .slice none 0 0], .int .i64 9])) w16) (W.callF [b2, b4] Try.prog n_value_below #[.int .u64 index1, .int .i64 a0_2] w10 fun r_ w17 => ∃ t25 : Bool, r_ = .returned (.bool t25) ∧ 
  W.sel (!t25) (W.loc [b2, b4] w17 fun w23 => R (.returned (.tuple #[.agg #[.int .i64 0, .int .i64 0, .int .i64 0, .int .u64 0, .string (ByteArray.mk #[]), .slice none 0 0], .int .i64 5])) w23) (W.newV [b2, b4] w17 fun b7 w24 => 
  W.sel (a0_0 == 3) (W.loc [b2, b4, b7] w24 fun w31 => S0T index1 b2 a0_0 a0_1 a0_2 a0_3 a0_4 a0_5 b4 0 0 0 0 (ByteArray.mk #[]) ⟨none, 0, 0⟩ b7 1 a0_1 0 0 (ByteArray.mk #[]) ⟨none, 0, 0⟩ w31 R) (W.loc [b2, b4, b7] w24 fun w30 => S0T index1 b2 a0_0 a0_1 a0_2 a0_3 a0_4 a0_5 b4 0 0 0 0 (ByteArray.mk #[]) ⟨none, 0, 0⟩ b7 0 a0_1 0 0 (ByteArray.mk #[]) ⟨none, 0, 0⟩ w30 R))))) : Calls Try.prog n_value_Select #[.agg #[.int .i64 a0_0, .int .i64 a0_1, .int .i64 a0_2, .int .u64 a0_3, .string a0_4, a0_5.v], .int .u64 index1] w R :=
  ok _ _ _ _ _ _ _ w R (W.LC.nwT (W.LC.nil _) (W.Fr.refl _ _) h fun w1 H h => W.LC.nwT H (W.Fr.refl _ _) h fun w2 H h => ⟨_, _, _, _, _, a0_5, H.ld 0 0, H.ld 0 1, H.ld 0 2, H.ld 0 3, H.ld 0 4, H.ld 0 5, W.LC.callT H h fun r_ w3 H h => let ⟨t11, hr, h⟩ := h; ⟨t11, hr, W.sel_imp h (fun h => W.LC.stT0 H 1 (W.Fr.refl _ _) rfl rfl fun w4 H f => W.LC.stT H 1 1 f rfl rfl fun w5 H f => W.LC.stT H 1 2 f rfl rfl fun w6 H f => W.LC.stT H 1 3 f rfl rfl fun w7 H f => W.LC.stT H 1 4 f rfl rfl fun w8 H f => W.LC.stT H 1 5 f rfl rfl fun w9 (H : W.LC w9 [(w.heap.size, [.int .i64 a0_0, .int .i64 a0_1, .int .i64 a0_2, .int .u64 a0_3, .string a0_4, a0_5.v], ty_value_Value), (w1.heap.size, [.int .i64 0, .int .i64 0, .int .i64 0, .int .u64 0, .string (ByteArray.mk #[]), .slice none 0 0], ty_value_Value)]) (f : W.Fr (· ∈ [w.heap.size, w1.heap.size]) _ w9) => ⟨_, _, _, _, _, ⟨none, 0, 0⟩, H.ld 1 0, H.ld 1 1, H.ld 1 2, H.ld 1 3, H.ld 1 4, H.ld 1 5, have h := h _ f; h⟩) (fun h => ⟨_, _, _, H.ld 0 0, H.ld 0 1, H.ld 0 2, W.LC.callT H h fun r_ w10 H h => let ⟨t18, hr, h⟩ := h; ⟨t18, hr, W.sel_imp h (fun h => W.LC.stT0 H 1 (W.Fr.refl _ _) rfl rfl fun w11 H f => W.LC.stT H 1 1 f rfl rfl fun w12 H f => W.LC.stT H 1 2 f rfl rfl fun w13 H f => W.LC.stT H 1 3 f rfl rfl fun w14 H f => W.LC.stT H 1 4 f rfl rfl fun w15 H f => W.LC.stT H 1 5 f rfl rfl fun w16 (H : W.LC w16 [(w.heap.size, [.int .i64 a0_0, .int .i64 a0_1, .int .i64 a0_2, .int .u64 a0_3, .string a0_4, a0_5.v], ty_value_Value), (w1.heap.size, [.int .i64 0, .int .i64 0, .int .i64 0, .int .u64 0, .string (ByteArray.mk #[]), .slice none 0 0], ty_value_Value)]) (f : W.Fr (· ∈ [w.heap.size, w1.heap.size]) _ w16) => ⟨_, _, _, _, _, ⟨none, 0, 0⟩, H.ld 1 0, H.ld 1 1, H.ld 1 2, H.ld 1 3, H.ld 1 4, H.ld 1 5, have h := h _ f; h⟩) (fun h => ⟨_, H.ld 0 2, W.LC.callT H h fun r_ w17 H h => let ⟨t25, hr, h⟩ := h; ⟨t25, hr, W.sel_imp h (fun h => W.LC.stT0 H 1 (W.Fr.refl _ _) rfl rfl fun w18 H f => W.LC.stT H 1 1 f rfl rfl fun w19 H f => W.LC.stT H 1 2 f rfl rfl fun w20 H f => W.LC.stT H 1 3 f rfl rfl fun w21 H f => W.LC.stT H 1 4 f rfl rfl fun w22 H f => W.LC.stT H 1 5 f rfl rfl fun w23 (H : W.LC w23 [(w.heap.size, [.int .i64 a0_0, .int .i64 a0_1, .int .i64 a0_2, .int .u64 a0_3, .string a0_4, a0_5.v], ty_value_Value), (w1.heap.size, [.int .i64 0, .int .i64 0, .int .i64 0, .int .u64 0, .string (ByteArray.mk #[]), .slice none 0 0], ty_value_Value)]) (f : W.Fr (· ∈ [w.heap.size, w1.heap.size]) _ w23) => ⟨_, _, _, _, _, ⟨none, 0, 0⟩, H.ld 1 0, H.ld 1 1, H.ld 1 2, H.ld 1 3, H.ld 1 4, H.ld 1 5, have h := h _ f; h⟩) (fun h => ⟨_, H.ld 0 1, W.LC.nwT H (W.Fr.refl _ _) h fun w24 (H : W.LC w24 [(w.heap.size, [.int .i64 a0_0, .int .i64 a0_1, .int .i64 a0_2, .int .u64 a0_3, .string a0_4, a0_5.v], ty_value_Value), (w1.heap.size, [.int .i64 0, .int .i64 0, .int .i64 0, .int .u64 0, .string (ByteArray.mk #[]), .slice none 0 0], ty_value_Value), (w17.heap.size, [.int .i64 0, .int .i64 0, .int .i64 0, .int .u64 0, .string (ByteArray.mk #[]), .slice none 0 0], ty_value_Value)]) h => W.LC.stT0 H 2 (W.Fr.refl _ _) rfl rfl fun w25 H f => W.LC.stT H 2 1 f rfl rfl fun w26 H f => W.LC.stT H 2 2 f rfl rfl fun w27 H f => W.LC.stT H 2 3 f rfl rfl fun w28 H f => W.LC.stT H 2 4 f rfl rfl fun w29 H f => W.LC.stT H 2 5 f rfl rfl fun w30 (H : W.LC w30 [(w.heap.size, [.int .i64 a0_0, .int .i64 a0_1, .int .i64 a0_2, .int .u64 a0_3, .string a0_4, a0_5.v], ty_value_Value), (w1.heap.size, [.int .i64 0, .int .i64 0, .int .i64 0, .int .u64 0, .string (ByteArray.mk #[]), .slice none 0 0], ty_value_Value), (w17.heap.size, [.int .i64 0, .int .i64 a0_1, .int .i64 0, .int .u64 0, .string (ByteArray.mk #[]), .slice none 0 0], ty_value_Value)]) (f : W.Fr (· ∈ [w.heap.size, w1.heap.size, w17.heap.size]) _ w30) => ⟨_, H.ld 0 0, W.sel_imp h (fun h => W.LC.stT H 2 0 f rfl rfl fun w31 (H : W.LC w31 [(w.heap.size, [.int .i64 a0_0, .int .i64 a0_1, .int .i64 a0_2, .int .u64 a0_3, .string a0_4, a0_5.v], ty_value_Value), (w1.heap.size, [.int .i64 0, .int .i64 0, .int .i64 0, .int .u64 0, .string (ByteArray.mk #[]), .slice none 0 0], ty_value_Value), (w17.heap.size, [.int .i64 1, .int .i64 a0_1, .int .i64 0, .int .u64 0, .string (ByteArray.mk #[]), .slice none 0 0], ty_value_Value)]) (f : W.Fr (· ∈ [w.heap.size, w1.heap.size, w17.heap.size]) _ w31) => have h := h _ f; S0T_ok h H) (fun h => have h := h _ f; S0T_ok h H)⟩⟩)⟩⟩)⟩⟩)⟩⟩)
end value_Select
namespace slices_Clone_sl_value_Entry_value_Entry
noncomputable def C0 : Code := (Try.f52.body).getD .skip
/-- slices.Clone[[]enthymeme/value.Entry,enthymeme/value.Entry] -/
noncomputable def C1 := W.Code.snd C0
noncomputable def C2 := W.Code.fst C1
noncomputable def C3 := W.Code.snd C2
noncomputable def C4 := W.Code.fst C3
noncomputable def C5 := W.Code.snd C1
noncomputable def C6 := W.Code.snd C4
noncomputable def C7 := W.Code.snd C3
noncomputable def C8 := W.Code.snd C5
theorem ok (s0 : W.Sl) (w : World) (R : W.Post) (h : W.sel s0.a.isNone (R (.returned (.slice none 0 0)) w) (W.nwV w (.cells #[] ty_value_Entry) fun w1 => 
  ∃ (t7 : W.Sl) (w2 : World), Sem.run Try.prog (Builtin.append_ #[ty_sl_value_Entry, ty_sl_value_Entry] ty_sl_value_Entry #[.slice (some (Addr.mk w.heap.size 0 none)) 0 0, s0.v]) w1 = .ok (t7.v) w2 ∧ R (.returned (t7.v)) w2)) : Calls Try.prog n_slices_Clone_sl_value_Entry_value_Entry #[s0.v] w R :=
  W.calls_of_WP' (R := R) (fn := Try.f52) (c := C0) (args := [s0.v]) (by kernel_rfl) (by kernel_rfl) (by kernel_rfl) (W.sr C0 (by kernel_rfl) (show (fun (E : W.Env) (w : World) => W.srK Try.prog C0 (fun E w => W.srK Try.prog C2 (fun E w => W.condK (W.Env.val E (.tmp 4)) (W.srK Try.prog C4 (fun E w => W.retVC Try.prog Try.f52 E w (fun v => R (.returned v) w)) E w) (W.srK Try.prog C5 (fun E w => W.retVC Try.prog Try.f52 E w (fun v => R (.returned v) w)) E w)) E w) E w) (W.envOf 0 [s0.v]) w from Eq.mp (by kernel_rfl) h) fun _ _ hK => (W.sq C1 (by kernel_rfl) (W.sr C2 (by kernel_rfl) hK fun _ _ hK => (W.cn C3 (by kernel_rfl) hK (fun hK => (W.sr C4 (by kernel_rfl) hK fun _ _ hK => (W.rt C6 (by kernel_rfl) fun a hA => W.retVC_sound hA hK))) (fun hK => (W.sk C7 (by kernel_rfl) fun a hA => W.nx hA (W.sr C5 (by kernel_rfl) hK fun _ _ hK => (W.rt C8 (by kernel_rfl) fun a hA => W.retVC_sound hA hK))))))))
end slices_Clone_sl_value_Entry_value_Entry
namespace value_Store
noncomputable def C0 : Code := (Try.f25.body).getD .skip
noncomputable def C1 := W.Code.snd C0
noncomputable def C2 := W.Code.snd C1
noncomputable def C3 := W.Code.snd C2
noncomputable def C4 := W.Code.snd C3
noncomputable def C5 := W.Code.snd C4
noncomputable def C6 := W.Code.snd C5
noncomputable def C7 := W.Code.snd C6
noncomputable def C8 := W.Code.snd C7
noncomputable def C9 := W.Code.snd C8
abbrev Q0 (R : W.Post) : Exit → Act → World → Prop := (bodyPost Try.prog Try.f25 R)
noncomputable def C10 := W.Code.snd C9
/-- value.go:175 -/
abbrev S2 (a3 t6 : Addr) (i10 : Int) (l12 : W.Sl) (w : World) (R : W.Post) : Prop :=
  W.drV w fun w1 => ∃ t104_0 : Int, ∃ t104_1 : Int, ∃ t104_2 : Int, w1.cell? ((a3.add 0).add 0) = some (.int .i64 t104_0) ∧ w1.cell? ((a3.add 0).add 1) = some (.int .i64 t104_1) ∧ w1.cell? ((a3.add 0).add 2) = some (.int .i64 t104_2) ∧ 
  ∃ t107 : W.Sl, w1.cell? (a3.add 5) = some (t107.v) ∧ 
  (0 : Int) ≤ i10 ∧ i10 ≤ ((t107.n : Nat) : Int) ∧ ∃ (t110 : W.Sl) (w2 : World), Sem.run Try.prog (Builtin.append_ #[ty_sl_value_Entry, ty_sl_value_Entry] ty_sl_value_Entry #[l12.v, .slice (if t107.c = (Int.toNat i10) then t107.a else t107.a.map (·.add ((Int.toNat i10) * 3))) (t107.n - (Int.toNat i10)) (t107.c - (Int.toNat i10))]) w1 = .ok (t110.v) w2 ∧ w2.cell? (a3.add 5) = some (t107.v) ∧ w2.cell? ((a3.add 0).add 0) = some (.int .i64 t104_0) ∧ w2.cell? ((a3.add 0).add 1) = some (.int .i64 t104_1) ∧ w2.cell? ((a3.add 0).add 2) = some (.int .i64 t104_2) ∧ W.stV w2 t6 (.int .i64 t104_0) fun w3 => 
  W.stV w3 (t6.add 1) (.int .i64 t104_1) fun w4 => 
  W.stV w4 (t6.add 2) (.int .i64 t104_2) fun w5 => 
  W.stV w5 (t6.add 3) (.int .u64 0) fun w6 => 
  W.stV w6 (t6.add 4) (.string (ByteArray.mk #[])) fun w7 => 
  W.stV w7 (t6.add 5) (t110.v) fun w8 => 
  ∃ r6_0 : Int, ∃ r6_1 : Int, ∃ r6_2 : Int, ∃ r6_3 : Int, ∃ r6_4 : ByteArray, ∃ r6_5 : W.Sl, w8.cell? (t6.add 0) = some (.int .i64 r6_0) ∧ w8.cell? (t6.add 1) = some (.int .i64 r6_1) ∧ w8.cell? (t6.add 2) = some (.int .i64 r6_2) ∧ w8.cell? (t6.add 3) = some (.int .u64 r6_3) ∧ w8.cell? (t6.add 4) = some (.string r6_4) ∧ w8.cell? (t6.add 5) = some (r6_5.v) ∧ 
  R (.returned (.tuple #[.agg #[.int .i64 r6_0, .int .i64 r6_1, .int .i64 r6_2, .int .u64 r6_3, .string r6_4, r6_5.v], .int .i64 0])) w8
def KE_S2 (E : W.Env) (w : World) (R : W.Post) : Prop := W.asRef (W.Env.get? E 3) fun a3 => W.asRef (W.Env.get? E 6) fun t6 => W.asInt .i64 (W.Env.get? E 10) fun i10 => W.asSlice (W.Env.get? E 12) fun l12 => S2 a3 t6 i10 l12 w R
theorem KE_S2_ok (R : W.Post) (E : W.Env) (w : World) (h : KE_S2 E w R) : W.WP Try.prog (W.cx 112) C9 (Q0 R) E w := by
  obtain ⟨a3, hq3, h_1⟩ := W.asRef_elim h
  obtain ⟨t6, hq6, h_2⟩ := W.asRef_elim h_1
  obtain ⟨i10, hq10, h_3⟩ := W.asInt_elim h_2
  obtain ⟨l12, hq12, h_4⟩ := W.asSlice_elim h_3
  exact fun a ha => W.WP.at (E := [(3, .pointer (some a3)), (6, .pointer (some t6)), (10, .int .i64 i10), (12, l12.v)]) (W.sd C9 (K := fun E w => W.retVC Try.prog Try.f25 E w (fun v => R (.returned v) w)) (l := [0, 1, 2, 3, 4, 5, 6, 7, 8, 9, 10]) (by kernel_rfl) (Eq.mp (by kernel_rfl) h_4) fun _ _ hK => (W.rt C10 (by kernel_rfl) fun a hA => W.retVC_sound hA hK)) (ha.cons hq3 (ha.cons hq6 (ha.cons hq10 (ha.cons hq12 ha.nil))))
noncomputable def C11 := W.Code.fst C8
abbrev Q1 (R : W.Post) : Exit → Act → World → Prop := (Exit.then (W.wpx Try.prog (W.cx 112) C9 (bodyPost Try.prog Try.f25 R)) (bodyPost Try.prog Try.f25 R))
noncomputable def C12 := W.Code.snd C11
noncomputable def C13 := W.Code.fst C12
noncomputable def C14 := W.Code.snd C12
/-- value.go:172 -/
abbrev S1 (a3 t6 : Addr) (i10 : Int) (ok11 : Bool) (l12 : W.Sl) (w : World) (R : W.Post) : Prop :=
  W.sel ok11 (S2 a3 t6 (IntKind.wrap .i64 (i10 + 1)) l12 w R) (S2 a3 t6 i10 l12 w R)
def KE_S1 (E : W.Env) (w : World) (R : W.Post) : Prop := W.asRef (W.Env.get? E 3) fun a3 => W.asRef (W.Env.get? E 6) fun t6 => W.asInt .i64 (W.Env.get? E 10) fun i10 => W.asBool' (W.Env.get? E 11) fun ok11 => W.asSlice (W.Env.get? E 12) fun l12 => S1 a3 t6 i10 ok11 l12 w R
theorem KE_S1_ok (R : W.Post) (E : W.Env) (w : World) (h : KE_S1 E w R) : W.WP Try.prog (W.cx 112) C11 (Q1 R) E w := by
  obtain ⟨a3, hq3, h_1⟩ := W.asRef_elim h
  obtain ⟨t6, hq6, h_2⟩ := W.asRef_elim h_1
  obtain ⟨i10, hq10, h_3⟩ := W.asInt_elim h_2
  obtain ⟨ok11, hq11, h_4⟩ := W.asBool_elim h_3
  obtain ⟨l12, hq12, h_5⟩ := W.asSlice_elim h_4
  exact fun a ha => W.WP.at (E := [(3, .pointer (some a3)), (6, .pointer (some t6)), (10, .int .i64 i10), (11, .bool ok11), (12, l12.v)]) (W.sr C11 (K := fun E w => W.condK (W.Env.val E (.tmp 100)) (W.rgK Try.prog C13 (fun E w => KE_S2 E w R) E w) (KE_S2 E w R)) (by kernel_rfl) (Eq.mp (by kernel_rfl) h_5) fun _ _ hK => (W.cn C12 (by kernel_rfl) hK (fun hK => (W.rg C13 (by kernel_rfl) hK fun _ _ a hA hK => W.nx hA (KE_S2_ok R _ _ hK))) (fun hK => (W.sk C14 (by kernel_rfl) fun a hA => W.nx hA (KE_S2_ok R _ _ hK))))) (ha.cons hq3 (ha.cons hq6 (ha.cons hq10 (ha.cons hq11 (ha.cons hq12 ha.nil)))))
noncomputable def C15 := W.Code.fst C4
abbrev Q2 (R : W.Post) : Exit → Act → World → Prop := (Exit.then (W.wpx Try.prog (W.cx 112) C5 (bodyPost Try.prog Try.f25 R)) (bodyPost Try.prog Try.f25 R))
noncomputable def C16 := W.Code.snd C15
noncomputable def C17 := W.Code.fst C16
noncomputable def C18 := W.Code.fst C7
noncomputable def C19 := W.Code.snd C18
noncomputable def C20 := W.Code.snd C19
noncomputable def C21 := W.Code.fst C20
noncomputable def C22 := W.Code.snd C17
noncomputable def C23 := W.Code.snd C16
noncomputable def C24 := W.Code.snd C20
/-- value.go:164 -/
abbrev S0 (index1 : Int) (a3 v5 t6 : Addr) (w : World) (R : W.Post) : Prop :=
  ∃ t70 : Int, w.cell? ((a3.add 0).add 2) = some (.int .i64 t70) ∧ 
  Calls Try.prog n_value_below #[.int .u64 index1, .int .i64 t70] w fun r_ w1 => ∃ t71 : Bool, r_ = .returned (.bool t71) ∧ 
  W.sel (!t71) (W.stV w1 t6 (.int .i64 0) fun w2 => 
  W.stV w2 (t6.add 1) (.int .i64 0) fun w3 => 
  W.stV w3 (t6.add 2) (.int .i64 0) fun w4 => 
  W.stV w4 (t6.add 3) (.int .u64 0) fun w5 => 
  W.stV w5 (t6.add 4) (.string (ByteArray.mk #[])) fun w6 => 
  W.stV w6 (t6.add 5) (.slice none 0 0) fun w7 => 
  ∃ r6_0 : Int, ∃ r6_1 : Int, ∃ r6_2 : Int, ∃ r6_3 : Int, ∃ r6_4 : ByteArray, ∃ r6_5 : W.Sl, w7.cell? (t6.add 0) = some (.int .i64 r6_0) ∧ w7.cell? (t6.add 1) = some (.int .i64 r6_1) ∧ w7.cell? (t6.add 2) = some (.int .i64 r6_2) ∧ w7.cell? (t6.add 3) = some (.int .u64 r6_3) ∧ w7.cell? (t6.add 4) = some (.string r6_4) ∧ w7.cell? (t6.add 5) = some (r6_5.v) ∧ 
  R (.returned (.tuple #[.agg #[.int .i64 r6_0, .int .i64 r6_1, .int .i64 r6_2, .int .u64 r6_3, .string r6_4, r6_5.v], .int .i64 5])) w7) (∃ t76 : W.Sl, w1.cell? (a3.add 5) = some (t76.v) ∧ 
  Calls Try.prog n_value_place #[t76.v, .int .u64 index1] w1 fun r_ w8 => ∃ t78_0 : Int, ∃ t78_1 : Bool, r_ = .returned (.tuple #[.int .i64 t78_0, .bool t78_1]) ∧ 
  ∃ t82 : W.Sl, w8.cell? (a3.add 5) = some (t82.v) ∧ 
  (0 : Int) ≤ t78_0 ∧ t78_0 ≤ ((t82.c : Nat) : Int) ∧ Calls Try.prog n_slices_Clone_sl_value_Entry_value_Entry #[.slice (if t82.c = 0 then t82.a else t82.a.map (·.add (0 * 3))) ((Int.toNat t78_0) - 0) (t82.c - 0)] w8 fun r_ w9 => ∃ t85 : W.Sl, r_ = .returned (t85.v) ∧ 
  ∃ t88 : Int, w9.cell? (v5.add 3) = some (.int .u64 t88) ∧ 
  ∃ t90 : ByteArray, w9.cell? (v5.add 4) = some (.string t90) ∧ 
  W.nwV w9 (.cells #[.int .u64 0, .int .u64 0, .string (ByteArray.mk #[])] ty_value_Entry) fun w10 => 
  W.stV w10 (Addr.mk w9.heap.size 0 none) (.int .u64 index1) fun w11 => 
  W.stV w11 ((Addr.mk w9.heap.size 0 none).add 1) (.int .u64 t88) fun w12 => 
  W.stV w12 ((Addr.mk w9.heap.size 0 none).add 2) (.string t90) fun w13 => 
  ∃ t92_0 : Int, ∃ t92_1 : Int, ∃ t92_2 : ByteArray, w13.cell? ((Addr.mk w9.heap.size 0 none).add 0) = some (.int .u64 t92_0) ∧ w13.cell? ((Addr.mk w9.heap.size 0 none).add 1) = some (.int .u64 t92_1) ∧ w13.cell? ((Addr.mk w9.heap.size 0 none).add 2) = some (.string t92_2) ∧ 
  W.sel (!((t92_0 == index1) && ((t92_1 == 0) && ((t92_2.toList == (ByteArray.mk #[]).toList) && true)))) (∃ t97_0 : Int, ∃ t97_1 : Int, ∃ t97_2 : ByteArray, w13.cell? ((Addr.mk w9.heap.size 0 none).add 0) = some (.int .u64 t97_0) ∧ w13.cell? ((Addr.mk w9.heap.size 0 none).add 1) = some (.int .u64 t97_1) ∧ w13.cell? ((Addr.mk w9.heap.size 0 none).add 2) = some (.string t97_2) ∧ 
  W.nwV w13 (.cells #[.int .u64 t97_0, .int .u64 t97_1, .string t97_2] ty_value_Entry) fun w14 => 
  ∃ (t99 : W.Sl) (w15 : World), Sem.run Try.prog (Builtin.append_ #[ty_sl_value_Entry, ty_sl_value_Entry] ty_sl_value_Entry #[t85.v, .slice (some (Addr.mk w13.heap.size 0 none)) 1 1]) w14 = .ok (t99.v) w15 ∧ S1 a3 t6 t78_0 t78_1 t99 w15 R) (S1 a3 t6 t78_0 t78_1 t85 w13 R))
def KE_S0 (E : W.Env) (w : World) (R : W.Post) : Prop := W.asInt .u64 (W.Env.get? E 1) fun index1 => W.asRef (W.Env.get? E 3) fun a3 => W.asRef (W.Env.get? E 5) fun v5 => W.asRef (W.Env.get? E 6) fun t6 => S0 index1 a3 v5 t6 w R
theorem KE_S0_ok (R : W.Post) (E : W.Env) (w : World) (h : KE_S0 E w R) : W.WP Try.prog (W.cx 112) C15 (Q2 R) E w := by
  obtain ⟨index1, hq1, h_1⟩ := W.asInt_elim h
  obtain ⟨a3, hq3, h_2⟩ := W.asRef_elim h_1
  obtain ⟨v5, hq5, h_3⟩ := W.asRef_elim h_2
  obtain ⟨t6, hq6, h_4⟩ := W.asRef_elim h_3
  exact fun a ha => W.WP.at (E := [(1, .int .u64 index1), (3, .pointer (some a3)), (5, .pointer (some v5)), (6, .pointer (some t6))]) (W.sr C15 (K := fun E w => W.condK (W.Env.val E (.tmp 72)) (W.srK Try.prog C17 (fun E w => W.retVC Try.prog Try.f25 E w (fun v => R (.returned v) w)) E w) (W.srK Try.prog C5 (fun E w => W.srK Try.prog C6 (fun E w => W.srK Try.prog C18 (fun E w => W.srK Try.prog C19 (fun E w => W.condK (W.Env.val E (.tmp 95)) (W.rgK Try.prog C21 (fun E w => KE_S1 E w R) E w) (KE_S1 E w R)) E w) E w) E w) E w)) (by kernel_rfl) (Eq.mp (by kernel_rfl) h_4) fun _ _ hK => (W.cn C16 (by kernel_rfl) hK (fun hK => (W.sr C17 (by kernel_rfl) hK fun _ _ hK => (W.rt C22 (by kernel_rfl) fun a hA => W.retVC_sound hA hK))) (fun hK => (W.sk C23 (by kernel_rfl) fun a hA => W.nx hA (W.sr C5 (by kernel_rfl) hK fun _ _ hK => (W.sr C6 (by kernel_rfl) hK fun _ _ hK => (W.sq C7 (by kernel_rfl) (W.sr C18 (by kernel_rfl) hK fun _ _ hK => (W.sr C19 (by kernel_rfl) hK fun _ _ hK => (W.cn C20 (by kernel_rfl) hK (fun hK => (W.rg C21 (by kernel_rfl) hK fun _ _ a hA hK => W.nx hA (W.sq C8 (by kernel_rfl) (KE_S1_ok R _ _ hK)))) (fun hK => (W.sk C24 (by kernel_rfl) fun a hA => W.nx hA (W.sq C8 (by kernel_rfl) (KE_S1_ok R _ _ hK)))))))))))))) (ha.cons hq1 (ha.cons hq3 (ha.cons hq5 (ha.cons hq6 ha.nil))))
noncomputable def C25 := W.Code.fst C3
noncomputable def C26 := W.Code.fst C25
noncomputable def C27 := W.Code.snd C26
noncomputable def C28 := W.Code.snd C27
noncomputable def C29 := W.Code.snd C28
noncomputable def C30 := W.Code.snd C29
abbrev Q3 (R : W.Post) : Exit → Act → World → Prop := (Exit.then (W.wpx Try.prog (W.cx 112) C4 (bodyPost Try.prog Try.f25 R)) (bodyPost Try.prog Try.f25 R))
abbrev Q4 (R : W.Post) : Exit → Act → World → Prop := (Exit.inBlock 0 (Q3 R))
noncomputable def C31 := W.Code.snd C30
/-- value.go:162 -/
abbrev S4 (t6 : Addr) (w : World) (R : W.Post) : Prop :=
  W.stV w t6 (.int .i64 0) fun w1 => 
  W.stV w1 (t6.add 1) (.int .i64 0) fun w2 => 
  W.stV w2 (t6.add 2) (.int .i64 0) fun w3 => 
  W.stV w3 (t6.add 3) (.int .u64 0) fun w4 => 
  W.stV w4 (t6.add 4) (.string (ByteArray.mk #[])) fun w5 => 
  W.stV w5 (t6.add 5) (.slice none 0 0) fun w6 => 
  ∃ r6_0 : Int, ∃ r6_1 : Int, ∃ r6_2 : Int, ∃ r6_3 : Int, ∃ r6_4 : ByteArray, ∃ r6_5 : W.Sl, w6.cell? (t6.add 0) = some (.int .i64 r6_0) ∧ w6.cell? (t6.add 1) = some (.int .i64 r6_1) ∧ w6.cell? (t6.add 2) = some (.int .i64 r6_2) ∧ w6.cell? (t6.add 3) = some (.int .u64 r6_3) ∧ w6.cell? (t6.add 4) = some (.string r6_4) ∧ w6.cell? (t6.add 5) = some (r6_5.v) ∧ 
  R (.returned (.tuple #[.agg #[.int .i64 r6_0, .int .i64 r6_1, .int .i64 r6_2, .int .u64 r6_3, .string r6_4, r6_5.v], .int .i64 9])) w6
def KE_S4 (E : W.Env) (w : World) (R : W.Post) : Prop := W.asRef (W.Env.get? E 6) fun t6 => S4 t6 w R
theorem KE_S4_ok (R : W.Post) (E : W.Env) (w : World) (h : KE_S4 E w R) : W.WP Try.prog (W.cx 112) C30 (Q4 R) E w := by
  obtain ⟨t6, hq6, h_1⟩ := W.asRef_elim h
  exact fun a ha => W.WP.at (E := [(6, .pointer (some t6))]) (W.sr C30 (K := fun E w => W.retVC Try.prog Try.f25 E w (fun v => R (.returned v) w)) (by kernel_rfl) (Eq.mp (by kernel_rfl) h_1) fun _ _ hK => (W.rt C31 (by kernel_rfl) fun a hA => W.retVC_sound hA hK)) (ha.cons hq6 ha.nil)
noncomputable def C32 := W.Code.fst C29
/-- value.go:160 -/
abbrev S3 (index1 : Int) (a3 v5 t6 : Addr) (w : World) (R : W.Post) : Prop :=
  ∃ t50 : Int, w.cell? ((a3.add 0).add 0) = some (.int .i64 t50) ∧ 
  W.sel (t50 == 3) (∃ t55 : Int, w.cell? ((v5.add 0).add 0) = some (.int .i64 t55) ∧ 
  W.sel (t55 == 1) (∃ t61 : Int, w.cell? ((v5.add 0).add 1) = some (.int .i64 t61) ∧ 
  ∃ t64 : Int, w.cell? ((a3.add 0).add 1) = some (.int .i64 t64) ∧ 
  W.sel (decide (t61 ≤ t64)) (S0 index1 a3 v5 t6 w R) (S4 t6 w R)) (S4 t6 w R)) (S4 t6 w R)
def KE_S3 (E : W.Env) (w : World) (R : W.Post) : Prop := W.asInt .u64 (W.Env.get? E 1) fun index1 => W.asRef (W.Env.get? E 3) fun a3 => W.asRef (W.Env.get? E 5) fun v5 => W.asRef (W.Env.get? E 6) fun t6 => S3 index1 a3 v5 t6 w R
theorem KE_S3_ok (R : W.Post) (E : W.Env) (w : World) (h : KE_S3 E w R) : W.WP Try.prog (W.cx 112) C28 (Q4 R) E w := by
  obtain ⟨index1, hq1, h_1⟩ := W.asInt_elim h
  obtain ⟨a3, hq3, h_2⟩ := W.asRef_elim h_1
  obtain ⟨v5, hq5, h_3⟩ := W.asRef_elim h_2
  obtain ⟨t6, hq6, h_4⟩ := W.asRef_elim h_3
  exact fun a ha => W.WP.at (E := [(1, .int .u64 index1), (3, .pointer (some a3)), (5, .pointer (some v5)), (6, .pointer (some t6))]) (W.sr C28 (K := fun E w => W.condK (W.Env.val E (.tmp 47)) (KE_S0 E w R) (KE_S4 E w R)) (by kernel_rfl) (Eq.mp (by kernel_rfl) h_4) fun _ _ hK => (W.cn C29 (by kernel_rfl) hK (fun hK => (W.sk C32 (by kernel_rfl) fun a hA => W.nx hA (W.sq C4 (by kernel_rfl) (KE_S0_ok R _ _ hK)))) (fun hK => (KE_S4_ok R _ _ hK)))) (ha.cons hq1 (ha.cons hq3 (ha.cons hq5 (ha.cons hq6 ha.nil))))
/-- enthymeme/value.Store -/
noncomputable def C33 := W.Code.fst C1
noncomputable def C34 := W.Code.snd C33
noncomputable def C35 := W.Code.snd C34
noncomputable def C36 := W.Code.fst C35
noncomputable def C37 := W.Code.fst C2
noncomputable def C38 := W.Code.snd C37
noncomputable def C39 := W.Code.snd C38
noncomputable def C40 := W.Code.fst C39
noncomputable def C41 := W.Code.snd C36
noncomputable def C42 := W.Code.snd C35
noncomputable def C43 := W.Code.snd C40
noncomputable def C44 := W.Code.snd C39
noncomputable def C45 := W.Code.fst C27
theorem ok (a0_0 a0_1 a0_2 a0_3 : Int) (a0_4 : ByteArray) (a0_5 : W.Sl) (index1 v2_0 v2_1 v2_2 v2_3 : Int) (v2_4 : ByteArray) (v2_5 : W.Sl) (w : World) (R : W.Post) (h : W.nwV w (.cells #[.int .i64 a0_0, .int .i64 a0_1, .int .i64 a0_2, .int .u64 a0_3, .string a0_4, a0_5.v] ty_value_Value) fun w1 => 
  W.nwV w1 (.cells #[.int .i64 v2_0, .int .i64 v2_1, .int .i64 v2_2, .int .u64 v2_3, .string v2_4, v2_5.v] ty_value_Value) fun w2 => 
  W.nwV w2 (.cells #[.int .i64 0, .int .i64 0, .int .i64 0, .int .u64 0, .string (ByteArray.mk #[]), .slice none 0 0] ty_value_Value) fun w3 => 
  ∃ t14_0 : Int, ∃ t14_1 : Int, ∃ t14_2 : Int, ∃ t14_3 : Int, ∃ t14_4 : ByteArray, ∃ t14_5 : W.Sl, w3.cell? ((Addr.mk w.heap.size 0 none).add 0) = some (.int .i64 t14_0) ∧ w3.cell? ((Addr.mk w.heap.size 0 none).add 1) = some (.int .i64 t14_1) ∧ w3.cell? ((Addr.mk w.heap.size 0 none).add 2) = some (.int .i64 t14_2) ∧ w3.cell? ((Addr.mk w.heap.size 0 none).add 3) = some (.int .u64 t14_3) ∧ w3.cell? ((Addr.mk w.heap.size 0 none).add 4) = some (.string t14_4) ∧ w3.cell? ((Addr.mk w.heap.size 0 none).add 5) = some (t14_5.v) ∧ 
  Calls Try.prog n_value_Valid #[.agg #[.int .i64 t14_0, .int .i64 t14_1, .int .i64 t14_2, .int .u64 t14_3, .string t14_4, t14_5.v]] w3 fun r_ w4 => ∃ t15 : Int, r_ = .returned (.int .i64 t15) ∧ 
  W.sel (t15 != 0) (W.stV w4 (Addr.mk w2.heap.size 0 none) (.int .i64 0) fun w5 => 
  W.stV w5 ((Addr.mk w2.heap.size 0 none).add 1) (.int .i64 0) fun w6 => 
  W.stV w6 ((Addr.mk w2.heap.size 0 none).add 2) (.int .i64 0) fun w7 => 
  W.stV w7 ((Addr.mk w2.heap.size 0 none).add 3) (.int .u64 0) fun w8 => 
  W.stV w8 ((Addr.mk w2.heap.size 0 none).add 4) (.string (ByteArray.mk #[])) fun w9 => 
  W.stV w9 ((Addr.mk w2.heap.size 0 none).add 5) (.slice none 0 0) fun w10 => 
  ∃ r6_0 : Int, ∃ r6_1 : Int, ∃ r6_2 : Int, ∃ r6_3 : Int, ∃ r6_4 : ByteArray, ∃ r6_5 : W.Sl, w10.cell? ((Addr.mk w2.heap.size 0 none).add 0) = some (.int .i64 r6_0) ∧ w10.cell? ((Addr.mk w2.heap.size 0 none).add 1) = some (.int .i64 r6_1) ∧ w10.cell? ((Addr.mk w2.heap.size 0 none).add 2) = some (.int .i64 r6_2) ∧ w10.cell? ((Addr.mk w2.heap.size 0 none).add 3) = some (.int .u64 r6_3) ∧ w10.cell? ((Addr.mk w2.heap.size 0 none).add 4) = some (.string r6_4) ∧ w10.cell? ((Addr.mk w2.heap.size 0 none).add 5) = some (r6_5.v) ∧ 
  R (.returned (.tuple #[.agg #[.int .i64 r6_0, .int .i64 r6_1, .int .i64 r6_2, .int .u64 r6_3, .string r6_4, r6_5.v], .int .i64 t15])) w10) (∃ t20_0 : Int, ∃ t20_1 : Int, ∃ t20_2 : Int, ∃ t20_3 : Int, ∃ t20_4 : ByteArray, ∃ t20_5 : W.Sl, w4.cell? ((Addr.mk w1.heap.size 0 none).add 0) = some (.int .i64 t20_0) ∧ w4.cell? ((Addr.mk w1.heap.size 0 none).add 1) = some (.int .i64 t20_1) ∧ w4.cell? ((Addr.mk w1.heap.size 0 none).add 2) = some (.int .i64 t20_2) ∧ w4.cell? ((Addr.mk w1.heap.size 0 none).add 3) = some (.int .u64 t20_3) ∧ w4.cell? ((Addr.mk w1.heap.size 0 none).add 4) = some (.string t20_4) ∧ w4.cell? ((Addr.mk w1.heap.size 0 none).add 5) = some (t20_5.v) ∧ 
  Calls Try.prog n_value_Valid #[.agg #[.int .i64 t20_0, .int .i64 t20_1, .int .i64 t20_2, .int .u64 t20_3, .string t20_4, t20_5.v]] w4 fun r_ w11 => ∃ t21 : Int, r_ = .returned (.int .i64 t21) ∧ 
  W.sel (t21 != 0) (W.stV w11 (Addr.mk w2.heap.size 0 none) (.int .i64 0) fun w12 => 
  W.stV w12 ((Addr.mk w2.heap.size 0 none).add 1) (.int .i64 0) fun w13 => 
  W.stV w13 ((Addr.mk w2.heap.size 0 none).add 2) (.int .i64 0) fun w14 => 
  W.stV w14 ((Addr.mk w2.heap.size 0 none).add 3) (.int .u64 0) fun w15 => 
  W.stV w15 ((Addr.mk w2.heap.size 0 none).add 4) (.string (ByteArray.mk #[])) fun w16 => 
  W.stV w16 ((Addr.mk w2.heap.size 0 none).add 5) (.slice none 0 0) fun w17 => 
  ∃ r6_0 : Int, ∃ r6_1 : Int, ∃ r6_2 : Int, ∃ r6_3 : Int, ∃ r6_4 : ByteArray, ∃ r6_5 : W.Sl, w17.cell? ((Addr.mk w2.heap.size 0 none).add 0) = some (.int .i64 r6_0) ∧ w17.cell? ((Addr.mk w2.heap.size 0 none).add 1) = some (.int .i64 r6_1) ∧ w17.cell? ((Addr.mk w2.heap.size 0 none).add 2) = some (.int .i64 r6_2) ∧ w17.cell? ((Addr.mk w2.heap.size 0 none).add 3) = some (.int .u64 r6_3) ∧ w17.cell? ((Addr.mk w2.heap.size 0 none).add 4) = some (.string r6_4) ∧ w17.cell? ((Addr.mk w2.heap.size 0 none).add 5) = some (r6_5.v) ∧ 
  R (.returned (.tuple #[.agg #[.int .i64 r6_0, .int .i64 r6_1, .int .i64 r6_2, .int .u64 r6_3, .string r6_4, r6_5.v], .int .i64 t21])) w17) (∃ t30 : Int, w11.cell? (((Addr.mk w.heap.size 0 none).add 0).add 0) = some (.int .i64 t30) ∧ 
  W.sel (t30 == 2) (∃ t35 : Int, w11.cell? (((Addr.mk w1.heap.size 0 none).add 0).add 0) = some (.int .i64 t35) ∧ 
  W.sel (t35 == 0) (∃ t41 : Int, w11.cell? (((Addr.mk w1.heap.size 0 none).add 0).add 1) = some (.int .i64 t41) ∧ 
  ∃ t44 : Int, w11.cell? (((Addr.mk w.heap.size 0 none).add 0).add 1) = some (.int .i64 t44) ∧ 
  W.sel (t41 == t44) (S0 index1 (Addr.mk w.heap.size 0 none) (Addr.mk w1.heap.size 0 none) (Addr.mk w2.heap.size 0 none) w11 R) (S3 index1 (Addr.mk w.heap.size 0 none) (Addr.mk w1.heap.size 0 none) (Addr.mk w2.heap.size 0 none) w11 R)) (S3 index1 (Addr.mk w.heap.size 0 none) (Addr.mk w1.heap.size 0 none) (Addr.mk w2.heap.size 0 none) w11 R)) (S3 index1 (Addr.mk w.heap.size 0 none) (Addr.mk w1.heap.size 0 none) (Addr.mk w2.heap.size 0 none) w11 R)))) : Calls Try.prog n_value_Store #[.agg #[.int .i64 a0_0, .int .i64 a0_1, .int .i64 a0_2, .int .u64 a0_3, .string a0_4, a0_5.v], .int .u64 index1, .agg #[.int .i64 v2_0, .int .i64 v2_1, .int .i64 v2_2, .int .u64 v2_3, .string v2_4, v2_5.v]] w R :=
  W.calls_of_WP' (R := R) (fn := Try.f25) (c := C0) (args := [.agg #[.int .i64 a0_0, .int .i64 a0_1, .int .i64 a0_2, .int .u64 a0_3, .string a0_4, a0_5.v], .int .u64 index1, .agg #[.int .i64 v2_0, .int .i64 v2_1, .int .i64 v2_2, .int .u64 v2_3, .string v2_4, v2_5.v]]) (by kernel_rfl) (by kernel_rfl) (by kernel_rfl) (W.sr C0 (by kernel_rfl) (show (fun (E : W.Env) (w : World) => W.srK Try.prog C0 (fun E w => W.srK Try.prog C33 (fun E w => W.srK Try.prog C34 (fun E w => W.condK (W.Env.val E (.tmp 17)) (W.srK Try.prog C36 (fun E w => W.retVC Try.prog Try.f25 E w (fun v => R (.returned v) w)) E w) (W.srK Try.prog C37 (fun E w => W.srK Try.prog C38 (fun E w => W.condK (W.Env.val E (.tmp 23)) (W.srK Try.prog C40 (fun E w => W.retVC Try.prog Try.f25 E w (fun v => R (.returned v) w)) E w) (W.srK Try.prog C26 (fun E w => W.condK (W.Env.val E (.tmp 27)) (KE_S0 E w R) (KE_S3 E w R)) E w)) E w) E w)) E w) E w) E w) (W.envOf 0 [.agg #[.int .i64 a0_0, .int .i64 a0_1, .int .i64 a0_2, .int .u64 a0_3, .string a0_4, a0_5.v], .int .u64 index1, .agg #[.int .i64 v2_0, .int .i64 v2_1, .int .i64 v2_2, .int .u64 v2_3, .string v2_4, v2_5.v]]) w from Eq.mp (by kernel_rfl) h) fun _ _ hK => (W.sq C1 (by kernel_rfl) (W.sr C33 (by kernel_rfl) hK fun _ _ hK => (W.sr C34 (by kernel_rfl) hK fun _ _ hK => (W.cn C35 (by kernel_rfl) hK (fun hK => (W.sr C36 (by kernel_rfl) hK fun _ _ hK => (W.rt C41 (by kernel_rfl) fun a hA => W.retVC_sound hA hK))) (fun hK => (W.sk C42 (by kernel_rfl) fun a hA => W.nx hA (W.sq C2 (by kernel_rfl) (W.sr C37 (by kernel_rfl) hK fun _ _ hK => (W.sr C38 (by kernel_rfl) hK fun _ _ hK => (W.cn C39 (by kernel_rfl) hK (fun hK => (W.sr C40 (by kernel_rfl) hK fun _ _ hK => (W.rt C43 (by kernel_rfl) fun a hA => W.retVC_sound hA hK))) (fun hK => (W.sk C44 (by kernel_rfl) fun a hA => W.nx hA (W.sq C3 (by kernel_rfl) (W.bk C25 0 (by kernel_rfl) (W.sr C26 (by kernel_rfl) hK fun _ _ hK => (W.cn C27 (by kernel_rfl) hK (fun hK => (W.sk C45 (by kernel_rfl) fun a hA => W.nx hA (W.sq C4 (by kernel_rfl) (KE_S0_ok R _ _ hK)))) (fun hK => (KE_S3_ok R _ _ hK)))))))))))))))))))
abbrev S2T (a3 : Nat) (a3_0 a3_1 a3_2 a3_3 : Int) (a3_4 : ByteArray) (a3_5 : W.Sl) (t6 : Nat) (t6_0 t6_1 t6_2 t6_3 : Int) (t6_4 : ByteArray) (t6_5 : W.Sl) (i10 : Int) (l12 : W.Sl) (w : World) (R : W.Post) : Prop :=
  (0 : Int) ≤ i10 ∧ i10 ≤ ((a3_5.n : Nat) : Int) ∧ W.loc [a3, t6] w fun w1 => ∃ (t110 : W.Sl) (w2 : World), Sem.run Try.prog (Builtin.append_ #[ty_sl_value_Entry, ty_sl_value_Entry] ty_sl_value_Entry #[l12.v, .slice (if a3_5.c = (Int.toNat i10) then a3_5.a else a3_5.a.map (·.add ((Int.toNat i10) * 3))) (a3_5.n - (Int.toNat i10)) (a3_5.c - (Int.toNat i10))]) w1 = .ok (t110.v) w2 ∧ W.kept [a3, t6] w1 w2 ∧ W.loc [a3, t6] w2 fun w8 => R (.returned (.tuple #[.agg #[.int .i64 a3_0, .int .i64 a3_1, .int .i64 a3_2, .int .u64 0, .string (ByteArray.mk #[]), t110.v], .int .i64 0])) w8
theorem S2T_ok {a3 : Nat} {a3_0 a3_1 a3_2 a3_3 : Int} {a3_4 : ByteArray} {a3_5 : W.Sl} {t6 : Nat} {t6_0 t6_1 t6_2 t6_3 : Int} {t6_4 : ByteArray} {t6_5 : W.Sl} {i10 : Int} {l12 : W.Sl} {w : World} {R : W.Post} (h : S2T a3 a3_0 a3_1 a3_2 a3_3 a3_4 a3_5 t6 t6_0 t6_1 t6_2 t6_3 t6_4 t6_5 i10 l12 w R) (H : W.LC w [(a3, [.int .i64 a3_0, .int .i64 a3_1, .int .i64 a3_2, .int .u64 a3_3, .string a3_4, a3_5.v], ty_value_Value), (t6, [.int .i64 t6_0, .int .i64 t6_1, .int .i64 t6_2, .int .u64 t6_3, .string t6_4, t6_5.v], ty_value_Value)]) : S2 (W.at0 a3) (W.at0 t6) i10 l12 w R := W.LC.drT H (W.Fr.refl _ _) fun w1 H f => ⟨_, _, _, H.ld 0 0, H.ld 0 1, H.ld 0 2, ⟨a3_5, H.ld 0 5, ⟨h.1, h.2.1, have h := h.2.2; have h := h _ f; let ⟨t110, w2, he, hk, h⟩ := h; have H := W.LC.keptT H hk; ⟨t110, w2, he, ⟨H.ld 0 5, H.ld 0 0, H.ld 0 1, H.ld 0 2, W.LC.stT0 H 1 (W.Fr.refl _ _) rfl rfl fun w3 H f => W.LC.stT H 1 1 f rfl rfl fun w4 H f => W.LC.stT H 1 2 f rfl rfl fun w5 H f => W.LC.stT H 1 3 f rfl rfl fun w6 H f => W.LC.stT H 1 4 f rfl rfl fun w7 H f => W.LC.stT H 1 5 f rfl rfl fun w8 (H : W.LC w8 [(a3, [.int .i64 a3_0, .int .i64 a3_1, .int .i64 a3_2, .int .u64 a3_3, .string a3_4, a3_5.v], ty_value_Value), (t6, [.int .i64 a3_0, .int .i64 a3_1, .int .i64 a3_2, .int .u64 0, .string (ByteArray.mk #[]), t110.v], ty_value_Value)]) (f : W.Fr (· ∈ [a3, t6]) _ w8) => ⟨_, _, _, _, _, t110, H.ld 1 0, H.ld 1 1, H.ld 1 2, H.ld 1 3, H.ld 1 4, H.ld 1 5, have h := h _ f; h⟩⟩⟩⟩⟩⟩
abbrev S1T (a3 : Nat) (a3_0 a3_1 a3_2 a3_3 : Int) (a3_4 : ByteArray) (a3_5 : W.Sl) (t6 : Nat) (t6_0 t6_1 t6_2 t6_3 : Int) (t6_4 : ByteArray) (t6_5 : W.Sl) (i10 : Int) (ok11 : Bool) (l12 : W.Sl) (w : World) (R : W.Post) : Prop :=
  W.sel ok11 (S2T a3 a3_0 a3_1 a3_2 a3_3 a3_4 a3_5 t6 t6_0 t6_1 t6_2 t6_3 t6_4 t6_5 (IntKind.wrap .i64 (i10 + 1)) l12 w R) (S2T a3 a3_0 a3_1 a3_2 a3_3 a3_4 a3_5 t6 t6_0 t6_1 t6_2 t6_3 t6_4 t6_5 i10 l12 w R)
theorem S1T_ok {a3 : Nat} {a3_0 a3_1 a3_2 a3_3 : Int} {a3_4 : ByteArray} {a3_5 : W.Sl} {t6 : Nat} {t6_0 t6_1 t6_2 t6_3 : Int} {t6_4 : ByteArray} {t6_5 : W.Sl} {i10 : Int} {ok11 : Bool} {l12 : W.Sl} {w : World} {R : W.Post} (h : S1T a3 a3_0 a3_1 a3_2 a3_3 a3_4 a3_5 t6 t6_0 t6_1 t6_2 t6_3 t6_4 t6_5 i10 ok11 l12 w R) (H : W.LC w [(a3, [.int .i64 a3_0, .int .i64 a3_1, .int .i64 a3_2, .int .u64 a3_3, .string a3_4, a3_5.v], ty_value_Value), (t6, [.int .i64 t6_0, .int .i64 t6_1, .int .i64 t6_2, .int .u64 t6_3, .string t6_4, t6_5.v], ty_value_Value)]) : S1 (W.at0 a3) (W.at0 t6) i10 ok11 l12 w R := W.sel_imp h (fun h => S2T_ok h H) (fun h => S2T_ok h H)
abbrev S0T (index1 : Int) (a3 : Nat) (a3_0 a3_1 a3_2 a3_3 : Int) (a3_4 : ByteArray) (a3_5 : W.Sl) (v5 : Nat) (v5_0 v5_1 v5_2 v5_3 : Int) (v5_4 : ByteArray) (v5_5 : W.Sl) (t6 : Nat) (t6_0 t6_1 t6_2 t6_3 : Int) (t6_4 : ByteArray) (t6_5 : W.Sl) (w : World) (R : W.Post) : Prop :=
  W.callF [a3, v5, t6] Try.prog n_value_below #[.int .u64 index1, .int .i64 a3_2] w fun r_ w1 => ∃ t71 : Bool, r_ = .returned (.bool t71) ∧ 
  W.sel (!t71) (W.loc [a3, v5, t6] w1 fun w7 => R (.returned (.tuple #[.agg #[.int .i64 0, .int .i64 0, .int .i64 0, .int .u64 0, .string (ByteArray.mk #[]), .slice none 0 0], .int .i64 5])) w7) (W.callF [a3, v5, t6] Try.prog n_value_place #[a3_5.v, .int .u64 index1] w1 fun r_ w8 => ∃ t78_0 : Int, ∃ t78_1 : Bool, r_ = .returned (.tuple #[.int .i64 t78_0, .bool t78_1]) ∧ 
  (0 : Int) ≤ t78_0 ∧ t78_0 ≤ ((a3_5.c : Nat) : Int) ∧ W.callF [a3, v5, t6] Try.prog n_slices_Clone_sl_value_Entry_value_Entry #[.slice (if a3_5.c = 0 then a3_5.a else a3_5.a.map (·.add (0 * 3))) ((Int.toNat t78_0) - 0) (a3_5.c - 0)] w8 fun r_ w9 => ∃ t85 : W.Sl, r_ = .returned (t85.v) ∧ 
  W.newV [a3, v5, t6] w9 fun b13 w10 => 
  W.sel (!((index1 == index1) && ((v5_3 == 0) && ((v5_4.toList == (ByteArray.mk #[]).toList) && true)))) (W.loc [a3, v5, t6, b13] w10 fun w13 => W.nwV w13 (.cells #[.int .u64 index1, .int .u64 v5_3, .string v5_4] ty_value_Entry) fun w14 => 
  ∃ (t99 : W.Sl) (w15 : World), Sem.run Try.prog (Builtin.append_ #[ty_sl_value_Entry, ty_sl_value_Entry] ty_sl_value_Entry #[t85.v, .slice (some (Addr.mk w13.heap.size 0 none)) 1 1]) w14 = .ok (t99.v) w15 ∧ W.kept [a3, v5, t6, b13] w14 w15 ∧ S1T a3 a3_0 a3_1 a3_2 a3_3 a3_4 a3_5 t6 t6_0 t6_1 t6_2 t6_3 t6_4 t6_5 t78_0 t78_1 t99 w15 R) (W.loc [a3, v5, t6, b13] w10 fun w13 => S1T a3 a3_0 a3_1 a3_2 a3_3 a3_4 a3_5 t6 t6_0 t6_1 t6_2 t6_3 t6_4 t6_5 t78_0 t78_1 t85 w13 R))
theorem S0T_ok {index1 : Int} {a3 : Nat} {a3_0 a3_1 a3_2 a3_3 : Int} {a3_4 : ByteArray} {a3_5 : W.Sl} {v5 : Nat} {v5_0 v5_1 v5_2 v5_3 : Int} {v5_4 : ByteArray} {v5_5 : W.Sl} {t6 : Nat} {t6_0 t6_1 t6_2 t6_3 : Int} {t6_4 : ByteArray} {t6_5 : W.Sl} {w : World} {R : W.Post} (h : S0T index1 a3 a3_0 a3_1 a3_2 a3_3 a3_4 a3_5 v5 v5_0 v5_1 v5_2 v5_3 v5_4 v5_5 t6 t6_0 t6_1 t6_2 t6_3 t6_4 t6_5 w R) (H : W.LC w [(a3, [.int .i64 a3_0, .int .i64 a3_1, .int .i64 a3_2, .int .u64 a3_3, .string a3_4, a3_5.v], ty_value_Value), (v5, [.int .i64 v5_0, .int .i64 v5_1, .int .i64 v5_2, .int .u64 v5_3, .string v5_4, v5_5.v], ty_value_Value), (t6, [.int .i64 t6_0, .int .i64 t6_1, .int .i64 t6_2, .int .u64 t6_3, .string t6_4, t6_5.v], ty_value_Value)]) : S0 index1 (W.at0 a3) (W.at0 v5) (W.at0 t6) w R := ⟨_, H.ld 0 2, W.LC.callT H h fun r_ w1 H h => let ⟨t71, hr, h⟩ := h; ⟨t71, hr, W.sel_imp h (fun h => W.LC.stT0 H 2 (W.Fr.refl _ _) rfl rfl fun w2 H f => W.LC.stT H 2 1 f rfl rfl fun w3 H f => W.LC.stT H 2 2 f rfl rfl fun w4 H f => W.LC.stT H 2 3 f rfl rfl fun w5 H f => W.LC.stT H 2 4 f rfl rfl fun w6 H f => W.LC.stT H 2 5 f rfl rfl fun w7 (H : W.LC w7 [(a3, [.int .i64 a3_0, .int .i64 a3_1, .int .i64 a3_2, .int .u64 a3_3, .string a3_4, a3_5.v], ty_value_Value), (v5, [.int .i64 v5_0, .int .i64 v5_1, .int .i64 v5_2, .int .u64 v5_3, .string v5_4, v5_5.v], ty_value_Value), (t6, [.int .i64 0, .int .i64 0, .int .i64 0, .int .u64 0, .string (ByteArray.mk #[]), .slice none 0 0], ty_value_Value)]) (f : W.Fr (· ∈ [a3, v5, t6]) _ w7) => ⟨_, _, _, _, _, ⟨none, 0, 0⟩, H.ld 2 0, H.ld 2 1, H.ld 2 2, H.ld 2 3, H.ld 2 4, H.ld 2 5, have h := h _ f; h⟩) (fun h => ⟨a3_5, H.ld 0 5, W.LC.callT H h fun r_ w8 H h => let ⟨t78_0, t78_1, hr, h⟩ := h; ⟨t78_0, t78_1, hr, ⟨a3_5, H.ld 0 5, ⟨h.1, h.2.1, have h := h.2.2; W.LC.callT H h fun r_ w9 H h => let ⟨t85, hr, h⟩ := h; ⟨t85, hr, ⟨_, H.ld 1 3, ⟨_, H.ld 1 4, W.LC.nwT H (W.Fr.refl _ _) h fun w10 (H : W.LC w10 [(a3, [.int .i64 a3_0, .int .i64 a3_1, .int .i64 a3_2, .int .u64 a3_3, .string a3_4, a3_5.v], ty_value_Value), (v5, [.int .i64 v5_0, .int .i64 v5_1, .int .i64 v5_2, .int .u64 v5_3, .string v5_4, v5_5.v], ty_value_Value), (t6, [.int .i64 t6_0, .int .i64 t6_1, .int .i64 t6_2, .int .u64 t6_3, .string t6_4, t6_5.v], ty_value_Value), (w9.heap.size, [.int .u64 0, .int .u64 0, .string (ByteArray.mk #[])], ty_value_Entry)]) h => W.LC.stT0 H 3 (W.Fr.refl _ _) rfl rfl fun w11 H f => W.LC.stT H 3 1 f rfl rfl fun w12 H f => W.LC.stT H 3 2 f rfl rfl fun w13 (H : W.LC w13 [(a3, [.int .i64 a3_0, .int .i64 a3_1, .int .i64 a3_2, .int .u64 a3_3, .string a3_4, a3_5.v], ty_value_Value), (v5, [.int .i64 v5_0, .int .i64 v5_1, .int .i64 v5_2, .int .u64 v5_3, .string v5_4, v5_5.v], ty_value_Value), (t6, [.int .i64 t6_0, .int .i64 t6_1, .int .i64 t6_2, .int .u64 t6_3, .string t6_4, t6_5.v], ty_value_Value), (w9.heap.size, [.int .u64 index1, .int .u64 v5_3, .string v5_4], ty_value_Entry)]) (f : W.Fr (· ∈ [a3, v5, t6, w9.heap.size]) _ w13) => ⟨_, _, _, H.ld 3 0, H.ld 3 1, H.ld 3 2, W.sel_imp h (fun h => ⟨_, _, _, H.ld 3 0, H.ld 3 1, H.ld 3 2, have h := h _ f; W.LC.nwN H h fun w14 H h => let ⟨t99, w15, he, hk, h⟩ := h; have H := W.LC.keptT H hk; ⟨t99, w15, he, S1T_ok h (H.pick [0, 2] (by decide))⟩⟩) (fun h => have h := h _ f; S1T_ok h (H.pick [0, 2] (by decide)))⟩⟩⟩⟩⟩⟩⟩⟩)⟩⟩
abbrev S4T (t6 : Nat) (t6_0 t6_1 t6_2 t6_3 : Int) (t6_4 : ByteArray) (t6_5 : W.Sl) (w : World) (R : W.Post) : Prop :=
  W.loc [t6] w fun w6 => R (.returned (.tuple #[.agg #[.int .i64 0, .int .i64 0, .int .i64 0, .int .u64 0, .string (ByteArray.mk #[]), .slice none 0 0], .int .i64 9])) w6
theorem S4T_ok {t6 : Nat} {t6_0 t6_1 t6_2 t6_3 : Int} {t6_4 : ByteArray} {t6_5 : W.Sl} {w : World} {R : W.Post} (h : S4T t6 t6_0 t6_1 t6_2 t6_3 t6_4 t6_5 w R) (H : W.LC w [(t6, [.int .i64 t6_0, .int .i64 t6_1, .int .i64 t6_2, .int .u64 t6_3, .string t6_4, t6_5.v], ty_value_Value)]) : S4 (W.at0 t6) w R := W.LC.stT0 H 0 (W.Fr.refl _ _) rfl rfl fun w1 H f => W.LC.stT H 0 1 f rfl rfl fun w2 H f => W.LC.stT H 0 2 f rfl rfl fun w3 H f => W.LC.stT H 0 3 f rfl rfl fun w4 H f => W.LC.stT H 0 4 f rfl rfl fun w5 H f => W.LC.stT H 0 5 f rfl rfl fun w6 (H : W.LC w6 [(t6, [.int .i64 0, .int .i64 0, .int .i64 0, .int .u64 0, .string (ByteArray.mk #[]), .slice none 0 0], ty_value_Value)]) (f : W.Fr (· ∈ [t6]) _ w6) => ⟨_, _, _, _, _, ⟨none, 0, 0⟩, H.ld 0 0, H.ld 0 1, H.ld 0 2, H.ld 0 3, H.ld 0 4, H.ld 0 5, have h := h _ f; h⟩
abbrev S3T (index1 : Int) (a3 : Nat) (a3_0 a3_1 a3_2 a3_3 : Int) (a3_4 : ByteArray) (a3_5 : W.Sl) (v5 : Nat) (v5_0 v5_1 v5_2 v5_3 : Int) (v5_4 : ByteArray) (v5_5 : W.Sl) (t6 : Nat) (t6_0 t6_1 t6_2 t6_3 : Int) (t6_4 : ByteArray) (t6_5 : W.Sl) (w : World) (R : W.Post) : Prop :=
  W.sel (a3_0 == 3) (W.sel (v5_0 == 1) (W.sel (decide (v5_1 ≤ a3_1)) (S0T index1 a3 a3_0 a3_1 a3_2 a3_3 a3_4 a3_5 v5 v5_0 v5_1 v5_2 v5_3 v5_4 v5_5 t6 t6_0 t6_1 t6_2 t6_3 t6_4 t6_5 w R) (S4T t6 t6_0 t6_1 t6_2 t6_3 t6_4 t6_5 w R)) (S4T t6 t6_0 t6_1 t6_2 t6_3 t6_4 t6_5 w R)) (S4T t6 t6_0 t6_1 t6_2 t6_3 t6_4 t6_5 w R)
theorem S3T_ok {index1 : Int} {a3 : Nat} {a3_0 a3_1 a3_2 a3_3 : Int} {a3_4 : ByteArray} {a3_5 : W.Sl} {v5 : Nat} {v5_0 v5_1 v5_2 v5_3 : Int} {v5_4 : ByteArray} {v5_5 : W.Sl} {t6 : Nat} {t6_0 t6_1 t6_2 t6_3 : Int} {t6_4 : ByteArray} {t6_5 : W.Sl} {w : World} {R : W.Post} (h : S3T index1 a3 a3_0 a3_1 a3_2 a3_3 a3_4 a3_5 v5 v5_0 v5_1 v5_2 v5_3 v5_4 v5_5 t6 t6_0 t6_1 t6_2 t6_3 t6_4 t6_5 w R) (H : W.LC w [(a3, [.int .i64 a3_0, .int .i64 a3_1, .int .i64 a3_2, .int .u64 a3_3, .string a3_4, a3_5.v], ty_value_Value), (v5, [.int .i64 v5_0, .int .i64 v5_1, .int .i64 v5_2, .int .u64 v5_3, .string v5_4, v5_5.v], ty_value_Value), (t6, [.int .i64 t6_0, .int .i64 t6_1, .int .i64 t6_2, .int .u64 t6_3, .string t6_4, t6_5.v], ty_value_Value)]) : S3 index1 (W.at0 a3) (W.at0 v5) (W.at0 t6) w R := ⟨_, H.ld 0 0, W.sel_imp h (fun h => ⟨_, H.ld 1 0, W.sel_imp h (fun h => ⟨_, H.ld 1 1, ⟨_, H.ld 0 1, W.sel_imp h (fun h => S0T_ok h H) (fun h => S4T_ok h (H.pick [2] (by decide)))⟩⟩) (fun h => S4T_ok h (H.pick [2] (by decide)))⟩) (fun h => S4T_ok h (H.pick [2] (by decide)))⟩
theorem okT (a0_0 a0_1 a0_2 a0_3 : Int) (a0_4 : ByteArray) (a0_5 : W.Sl) (index1 v2_0 v2_1 v2_2 v2_3 : Int) (v2_4 : ByteArray) (v2_5 : W.Sl) (w : World) (R : W.Post) (h : W.newV [] w fun b3 w1 => 
  W.newV [b3] w1 fun b5 w2 => 
  W.newV [b3, b5] w2 fun b6 w3 => 
  W.callF [b3, b5, b6] Try.prog n_value_Valid #[.agg #[.int .i64 a0_0, .int .i64 a0_1, .int .i64 a0_2, .int .u64 a0_3, .string a0_4, a0_5.v]] w3 fun r_ w4 => ∃ t15 : Int, r_ = .returned (.int .i64 t15) ∧ 
  W.sel (t15 != 0) (W.loc [b3, b5, b6] w4 fun w10 => R (.returned (.tuple #[.agg #[.int .i64 0, .int .i64 0, .int .i64 0, .int .u64 0, .string (ByteArray.mk #[]), .slice none 0 0], .int .i64 t15])) w10) (W.callF [b3, b5, b6] Try.prog n_value_Valid #[.agg #[.int .i64 v2_0, .int .i64 v2_1, .int .i64 v2_2, .int .u64 v2_3, .string v2_4, v2_5.v]] w4 fun r_ w11 => ∃ t21 : Int, r_ = .returned (.int .i64 t21) ∧ 
  W.sel (t21 != 0) (W.loc [b3, b5, b6] w11 fun w17 => R (.returned (.tuple #[.agg #[.int .i64 0, .int .i64 0, .int .i64 0, .int .u64 0, .string (ByteArray.mk #[]), .slice none 0 0], .int .i64 t21])) w17) (W.sel (a0_0 == 2) (W.sel (v2_0 == 0) (W.sel (v2_1 == a0_1) (S0T index1 b3 a0_0 a0_1 a0_2 a0_3 a0_4 a0_5 b5 v2_0 v2_1 v2_2 v2_3 v2_4 v2_5 b6 0 0 0 0 (ByteArray.mk #[]) ⟨none, 0, 0⟩ w11 R) (S3T index1 b3 a0_0 a0_1 a0_2 a0_3 a0_4 a0_5 b5 v2_0 v2_1 v2_2 v2_3 v2_4 v2_5 b6 0 0 0 0 (ByteArray.mk #[]) ⟨none, 0, 0⟩ w11 R)) (S3T index1 b3 a0_0 a0_1 a0_2 a0_3 a0_4 a0_5 b5 v2_0 v2_1 v2_2 v2_3 v2_4 v2_5 b6 0 0 0 0 (ByteArray.mk #[]) ⟨none, 0, 0⟩ w11 R)) (S3T index1 b3 a0_0 a0_1 a0_2 a0_3 a0_4 a0_5 b5 v2_0 v2_1 v2_2 v2_3 v2_4 v2_5 b6 0 0 0 0 (ByteArray.mk #[]) ⟨none, 0, 0⟩ w11 R)))) : Calls Try.prog n_value_Store #[.agg #[.int .i64 a0_0, .int .i64 a0_1, .int .i64 a0_2, .int .u64 a0_3, .string a0_4, a0_5.v], .int .u64 index1, .agg #[.int .i64 v2_0, .int .i64 v2_1, .int .i64 v2_2, .int .u64 v2_3, .string v2_4, v2_5.v]] w R :=
  ok _ _ _ _ _ _ _ _ _ _ _ _ _ w R (W.LC.nwT (W.LC.nil _) (W.Fr.refl _ _) h fun w1 H h => W.LC.nwT H (W.Fr.refl _ _) h fun w2 H h => W.LC.nwT H (W.Fr.refl _ _) h fun w3 (H : W.LC w3 [(w.heap.size, [.int .i64 a0_0, .int .i64 a0_1, .int .i64 a0_2, .int .u64 a0_3, .string a0_4, a0_5.v], ty_value_Value), (w1.heap.size, [.int .i64 v2_0, .int .i64 v2_1, .int .i64 v2_2, .int .u64 v2_3, .string v2_4, v2_5.v], ty_value_Value), (w2.heap.size, [.int .i64 0, .int .i64 0, .int .i64 0, .int .u64 0, .string (ByteArray.mk #[]), .slice none 0 0], ty_value_Value)]) h => ⟨_, _, _, _, _, a0_5, H.ld 0 0, H.ld 0 1, H.ld 0 2, H.ld 0 3, H.ld 0 4, H.ld 0 5, W.LC.callT H h fun r_ w4 H h => let ⟨t15, hr, h⟩ := h; ⟨t15, hr, W.sel_imp h (fun h => W.LC.stT0 H 2 (W.Fr.refl _ _) rfl rfl fun w5 H f => W.LC.stT H 2 1 f rfl rfl fun w6 H f => W.LC.stT H 2 2 f rfl rfl fun w7 H f => W.LC.stT H 2 3 f rfl rfl fun w8 H f => W.LC.stT H 2 4 f rfl rfl fun w9 H f => W.LC.stT H 2 5 f rfl rfl fun w10 (H : W.LC w10 [(w.heap.size, [.int .i64 a0_0, .int .i64 a0_1, .int .i64 a0_2, .int .u64 a0_3, .string a0_4, a0_5.v], ty_value_Value), (w1.heap.size, [.int .i64 v2_0, .int .i64 v2_1, .int .i64 v2_2, .int .u64 v2_3, .string v2_4, v2_5.v], ty_value_Value), (w2.heap.size, [.int .i64 0, .int .i64 0, .int .i64 0, .int .u64 0, .string (ByteArray.mk #[]), .slice none 0 0], ty_value_Value)]) (f : W.Fr (· ∈ [w.heap.size, w1.heap.size, w2.heap.size]) _ w10) => ⟨_, _, _, _, _, ⟨none, 0, 0⟩, H.ld 2 0, H.ld 2 1, H.ld 2 2, H.ld 2 3, H.ld 2 4, H.ld 2 5, have h := h _ f; h⟩) (fun h => ⟨_, _, _, _, _, v2_5, H.ld 1 0, H.ld 1 1, H.ld 1 2, H.ld 1 3, H.ld 1 4, H.ld 1 5, W.LC.callT H h fun r_ w11 H h => let ⟨t21, hr, h⟩ := h; ⟨t21, hr, W.sel_imp h (fun h => W.LC.stT0 H 2 (W.Fr.refl _ _) rfl rfl fun w12 H f => W.LC.stT H 2 1 f rfl rfl fun w13 H f => W.LC.stT H 2 2 f rfl rfl fun w14 H f => W.LC.stT H 2 3 f rfl rfl fun w15 H f => W.LC.stT H 2 4 f rfl rfl fun w16 H f => W.LC.stT H 2 5 f rfl rfl fun w17 (H : W.LC w17 [(w.heap.size, [.int .i64 a0_0, .int .i64 a0_1, .int .i64 a0_2, .int .u64 a0_3, .string a0_4, a0_5.v], ty_value_Value), (w1.heap.size, [.int .i64 v2_0, .int .i64 v2_1, .int .i64 v2_2, .int .u64 v2_3, .string v2_4, v2_5.v], ty_value_Value), (w2.heap.size, [.int .i64 0, .int .i64 0, .int .i64 0, .int .u64 0, .string (ByteArray.mk #[]), .slice none 0 0], ty_value_Value)]) (f : W.Fr (· ∈ [w.heap.size, w1.heap.size, w2.heap.size]) _ w17) => ⟨_, _, _, _, _, ⟨none, 0, 0⟩, H.ld 2 0, H.ld 2 1, H.ld 2 2, H.ld 2 3, H.ld 2 4, H.ld 2 5, have h := h _ f; h⟩) (fun h => ⟨_, H.ld 0 0, W.sel_imp h (fun h => ⟨_, H.ld 1 0, W.sel_imp h (fun h => ⟨_, H.ld 1 1, ⟨_, H.ld 0 1, W.sel_imp h (fun h => S0T_ok h H) (fun h => S3T_ok h H)⟩⟩) (fun h => S3T_ok h H)⟩) (fun h => S3T_ok h H)⟩)⟩⟩)⟩⟩)
end value_Store
namespace value_Diff
noncomputable def C0 : Code := (Try.f27.body).getD .skip
noncomputable def C1 := W.Code.snd C0
noncomputable def C2 := W.Code.snd C1
noncomputable def C3 := W.Code.snd C2
noncomputable def C4 := W.Code.fst C3
noncomputable def C5 := W.Code.snd C4
noncomputable def C6 := W.Code.fst C5
noncomputable def C7 := W.Code.snd C3
abbrev Q0 (R : W.Post) : Exit → Act → World → Prop := (Exit.then (W.wpx Try.prog (W.cx 93) C7 (bodyPost Try.prog Try.f27 R)) (bodyPost Try.prog Try.f27 R))
noncomputable def C8 := W.Code.snd C6
/-- value.go:187 -/
abbrev S0  (w : World) (R : W.Post) : Prop :=
  R (.returned (.tuple #[.int .u64 0, .int .i64 9])) w
def KE_S0 (E : W.Env) (w : World) (R : W.Post) : Prop := S0  w R
theorem KE_S0_ok (R : W.Post) (E : W.Env) (w : World) (h : KE_S0 E w R) : W.WP Try.prog (W.cx 93) C6 (Q0 R) E w := by
  exact fun a ha => W.WP.at (E := []) (W.sr C6 (K := fun E w => W.retVC Try.prog Try.f27 E w (fun v => R (.returned v) w)) (by kernel_rfl) (Eq.mp (by kernel_rfl) h) fun _ _ hK => (W.rt C8 (by kernel_rfl) fun a hA => W.retVC_sound hA hK)) ha.nil
noncomputable def C9 := W.Code.fst C7
noncomputable def C10 := W.Code.snd C9
noncomputable def C11 := W.Code.fst C10
noncomputable def C12 := W.Code.fst C11
noncomputable def C13 := W.Code.snd C7
abbrev Q1 (R : W.Post) : Exit → Act → World → Prop := (Exit.then (W.wpx Try.prog (W.cx 93) C13 (bodyPost Try.prog Try.f27 R)) (bodyPost Try.prog Try.f27 R))
abbrev Q2 (R : W.Post) : Exit → Act → World → Prop := (Exit.inBlock 0 (Q1 R))
/-- the head of the loop, value.go:189 -/
def L1 (a2 b3 : Addr) (i8 : Int) (w : World) (R : W.Post) : Prop := W.LP Try.prog (W.cx 93) C12 (Q2 R) [(2, .pointer (some a2)), (3, .pointer (some b3)), (8, .int .i64 i8)] w
def KE_L1 (E : W.Env) (w : World) (R : W.Post) : Prop := W.asRef (W.Env.get? E 2) fun a2 => W.asRef (W.Env.get? E 3) fun b3 => W.asInt .i64 (W.Env.get? E 8) fun i8 => L1 a2 b3 i8 w R
theorem KE_L1_ok (R : W.Post) (E : W.Env) (w : World) (h : KE_L1 E w R) : W.LP Try.prog (W.cx 93) C12 (Q2 R) E w := by
  obtain ⟨a2, hq2, h_1⟩ := W.asRef_elim h
  obtain ⟨b3, hq3, h_2⟩ := W.asRef_elim h_1
  obtain ⟨i8, hq8, h_3⟩ := W.asInt_elim h_2
  intro a ha
  exact h_3 a (ha.cons hq2 (ha.cons hq3 (ha.cons hq8 ha.nil)))
noncomputable def C14 := W.Code.snd C12
noncomputable def C15 := W.Code.fst C14
noncomputable def C16 := W.Code.fst C15
noncomputable def C17 := W.Code.fst C16
noncomputable def C18 := W.Code.snd C14
abbrev Q3 (R : W.Post) : Exit → Act → World → Prop := (Exit.then (W.wpx Try.prog (W.cx 93) C18 (Exit.then (W.LoopWP Try.prog (W.cx 93) C12 (Q2 R)) (Q2 R))) (Exit.then (W.LoopWP Try.prog (W.cx 93) C12 (Q2 R)) (Q2 R)))
abbrev Q4 (R : W.Post) : Exit → Act → World → Prop := (Exit.inBlock 1 (Q3 R))
abbrev Q5 (R : W.Post) : Exit → Act → World → Prop := (Exit.inBlock 2 (Q4 R))
noncomputable def C19 := W.Code.snd C17
noncomputable def C20 := W.Code.fst C19
noncomputable def C21 := W.Code.snd C19
noncomputable def C22 := W.Code.snd C21
noncomputable def C23 := W.Code.fst C22
noncomputable def C24 := W.Code.snd C22
noncomputable def C25 := W.Code.snd C24
noncomputable def C26 := W.Code.fst C25
noncomputable def C27 := W.Code.snd C20
noncomputable def C28 := W.Code.snd C23
noncomputable def C29 := W.Code.snd C26
noncomputable def C30 := W.Code.snd C25
/-- value.go:191 -/
abbrev S2 (a2 b3 : Addr) (i8 : Int) (w : World) (R : W.Post) : Prop :=
  ∃ t47 : W.Sl, w.cell? (a2.add 5) = some (t47.v) ∧ 
  W.sel (decide (i8 ≥ ((t47.n : Nat) : Int))) (∃ t51 : W.Sl, w.cell? (b3.add 5) = some (t51.v) ∧ 
  (0 : Int) ≤ i8 ∧ i8 < ((t51.n : Nat) : Int) ∧ W.optP t51.a fun t53_p => ∃ t55 : Int, w.cell? ((t53_p.add (Int.toNat i8 * 3)).add 0) = some (.int .u64 t55) ∧ 
  R (.returned (.tuple #[.int .u64 t55, .int .i64 0])) w) (∃ t59 : W.Sl, w.cell? (b3.add 5) = some (t59.v) ∧ 
  W.sel (decide (i8 ≥ ((t59.n : Nat) : Int))) (∃ t63 : W.Sl, w.cell? (a2.add 5) = some (t63.v) ∧ 
  (0 : Int) ≤ i8 ∧ i8 < ((t63.n : Nat) : Int) ∧ W.optP t63.a fun t65_p => ∃ t67 : Int, w.cell? ((t65_p.add (Int.toNat i8 * 3)).add 0) = some (.int .u64 t67) ∧ 
  R (.returned (.tuple #[.int .u64 t67, .int .i64 0])) w) (W.drV w fun w1 => ∃ t70 : W.Sl, w1.cell? (a2.add 5) = some (t70.v) ∧ 
  (0 : Int) ≤ i8 ∧ i8 < ((t70.n : Nat) : Int) ∧ W.optP t70.a fun t72_p => ∃ t73_0 : Int, ∃ t73_1 : Int, ∃ t73_2 : ByteArray, w1.cell? ((t72_p.add (Int.toNat i8 * 3)).add 0) = some (.int .u64 t73_0) ∧ w1.cell? ((t72_p.add (Int.toNat i8 * 3)).add 1) = some (.int .u64 t73_1) ∧ w1.cell? ((t72_p.add (Int.toNat i8 * 3)).add 2) = some (.string t73_2) ∧ 
  ∃ t75 : W.Sl, w1.cell? (b3.add 5) = some (t75.v) ∧ 
  (0 : Int) ≤ i8 ∧ i8 < ((t75.n : Nat) : Int) ∧ W.optP t75.a fun t77_p => ∃ t78_0 : Int, ∃ t78_1 : Int, ∃ t78_2 : ByteArray, w1.cell? ((t77_p.add (Int.toNat i8 * 3)).add 0) = some (.int .u64 t78_0) ∧ w1.cell? ((t77_p.add (Int.toNat i8 * 3)).add 1) = some (.int .u64 t78_1) ∧ w1.cell? ((t77_p.add (Int.toNat i8 * 3)).add 2) = some (.string t78_2) ∧ 
  W.sel (!((t73_0 == t78_0) && ((t73_1 == t78_1) && ((t73_2.toList == t78_2.toList) && true)))) (W.drV w1 fun w2 => ∃ t81 : W.Sl, w2.cell? (a2.add 5) = some (t81.v) ∧ 
  (0 : Int) ≤ i8 ∧ i8 < ((t81.n : Nat) : Int) ∧ W.optP t81.a fun t83_p => ∃ t85 : Int, w2.cell? ((t83_p.add (Int.toNat i8 * 3)).add 0) = some (.int .u64 t85) ∧ 
  ∃ t87 : W.Sl, w2.cell? (b3.add 5) = some (t87.v) ∧ 
  (0 : Int) ≤ i8 ∧ i8 < ((t87.n : Nat) : Int) ∧ W.optP t87.a fun t89_p => ∃ t91 : Int, w2.cell? ((t89_p.add (Int.toNat i8 * 3)).add 0) = some (.int .u64 t91) ∧ 
  R (.returned (.tuple #[.int .u64 (if t91 < t85 then t91 else t85), .int .i64 0])) w2) (L1 a2 b3 (IntKind.wrap .i64 (i8 + 1)) w1 R)))
def KE_S2 (E : W.Env) (w : World) (R : W.Post) : Prop := W.asRef (W.Env.get? E 2) fun a2 => W.asRef (W.Env.get? E 3) fun b3 => W.asInt .i64 (W.Env.get? E 8) fun i8 => S2 a2 b3 i8 w R
theorem KE_S2_ok (R : W.Post) (E : W.Env) (w : World) (h : KE_S2 E w R) : W.WP Try.prog (W.cx 93) C17 (Q5 R) E w := by
  obtain ⟨a2, hq2, h_1⟩ := W.asRef_elim h
  obtain ⟨b3, hq3, h_2⟩ := W.asRef_elim h_1
  obtain ⟨i8, hq8, h_3⟩ := W.asInt_elim h_2
  exact fun a ha => W.WP.at (E := [(2, .pointer (some a2)), (3, .pointer (some b3)), (8, .int .i64 i8)]) (W.sr C17 (K := fun E w => W.condK (W.Env.val E (.tmp 44)) (W.srK Try.prog C20 (fun E w => W.retVC Try.prog Try.f27 E w (fun v => R (.returned v) w)) E w) (W.srK Try.prog C21 (fun E w => W.condK (W.Env.val E (.tmp 56)) (W.srK Try.prog C23 (fun E w => W.retVC Try.prog Try.f27 E w (fun v => R (.returned v) w)) E w) (W.sdK Try.prog C24 [0, 1, 2, 3, 4, 5, 6, 7, 8, 9, 10, 11] (fun E w => W.condK (W.Env.val E (.tmp 68)) (W.sdK Try.prog C26 [0, 1, 2, 3, 4, 5, 6, 7, 8, 9, 10, 11, 12, 13, 14] (fun E w => W.retVC Try.prog Try.f27 E w (fun v => R (.returned v) w)) E w) (W.rgK Try.prog C18 (fun E w => KE_L1 E w R) E w)) E w)) E w)) (by kernel_rfl) (Eq.mp (by kernel_rfl) h_3) fun _ _ hK => (W.cn C19 (by kernel_rfl) hK (fun hK => (W.sr C20 (by kernel_rfl) hK fun _ _ hK => (W.rt C27 (by kernel_rfl) fun a hA => W.retVC_sound hA hK))) (fun hK => (W.sr C21 (by kernel_rfl) hK fun _ _ hK => (W.cn C22 (by kernel_rfl) hK (fun hK => (W.sr C23 (by kernel_rfl) hK fun _ _ hK => (W.rt C28 (by kernel_rfl) fun a hA => W.retVC_sound hA hK))) (fun hK => (W.sd C24 (by kernel_rfl) hK fun _ _ hK => (W.cn C25 (by kernel_rfl) hK (fun hK => (W.sd C26 (by kernel_rfl) hK fun _ _ hK => (W.rt C29 (by kernel_rfl) fun a hA => W.retVC_sound hA hK))) (fun hK => (W.sk C30 (by kernel_rfl) fun a hA => W.nx hA (W.rg C18 (by kernel_rfl) hK fun _ _ a hA hK => KE_L1_ok R _ _ hK a hA))))))))))) (ha.cons hq2 (ha.cons hq3 (ha.cons hq8 ha.nil)))
noncomputable def C31 := W.Code.fst C12
noncomputable def C32 := W.Code.snd C31
noncomputable def C33 := W.Code.fst C32
noncomputable def C34 := W.Code.snd C32
noncomputable def C35 := W.Code.snd C13
theorem L1_step (a2 b3 : Addr) (i8 : Int) (w : World) (R : W.Post) (h : ∃ t32 : W.Sl, w.cell? (a2.add 5) = some (t32.v) ∧ 
  W.sel (decide (i8 < ((t32.n : Nat) : Int))) (S2 a2 b3 i8 w R) (∃ t38 : W.Sl, w.cell? (b3.add 5) = some (t38.v) ∧ 
  W.sel (decide (i8 < ((t38.n : Nat) : Int))) (S2 a2 b3 i8 w R) (R (.returned (.tuple #[.int .u64 0, .int .i64 0])) w))) : L1 a2 b3 i8 w R :=
  W.LP.step (n := (W.cx 93)) (c := C12) (E := [(2, .pointer (some a2)), (3, .pointer (some b3)), (8, .int .i64 i8)]) (w := w) (W.sq C12 (by kernel_rfl) (W.sr C31 (by kernel_rfl) (show (fun (E : W.Env) (w : World) => W.srK Try.prog C31 (fun E w => W.condK (W.Env.val E (.tmp 41)) (KE_S2 E w R) (W.srK Try.prog C13 (fun E w => W.retVC Try.prog Try.f27 E w (fun v => R (.returned v) w)) E w)) E w) [(2, .pointer (some a2)), (3, .pointer (some b3)), (8, .int .i64 i8)] w from Eq.mp (by kernel_rfl) h) fun _ _ hK => (W.cn C32 (by kernel_rfl) hK (fun hK => (W.sk C33 (by kernel_rfl) fun a hA => W.nx hA (W.sq C14 (by kernel_rfl) (W.bk C15 1 (by kernel_rfl) (W.bk C16 2 (by kernel_rfl) (KE_S2_ok R _ _ hK)))))) (fun hK => (W.xt C34 0 (by kernel_rfl) fun a hA => W.nx hA (W.sr C13 (by kernel_rfl) hK fun _ _ hK => (W.rt C35 (by kernel_rfl) fun a hA => W.retVC_sound hA hK)))))))
/-- enthymeme/value.Diff -/
noncomputable def C36 := W.Code.fst C1
noncomputable def C37 := W.Code.snd C36
noncomputable def C38 := W.Code.snd C37
noncomputable def C39 := W.Code.fst C38
noncomputable def C40 := W.Code.fst C2
noncomputable def C41 := W.Code.snd C40
noncomputable def C42 := W.Code.snd C41
noncomputable def C43 := W.Code.fst C42
noncomputable def C44 := W.Code.snd C39
noncomputable def C45 := W.Code.snd C38
noncomputable def C46 := W.Code.snd C43
noncomputable def C47 := W.Code.snd C42
noncomputable def C48 := W.Code.snd C5
theorem ok (a0_0 a0_1 a0_2 a0_3 : Int) (a0_4 : ByteArray) (a0_5 : W.Sl) (b1_0 b1_1 b1_2 b1_3 : Int) (b1_4 : ByteArray) (b1_5 : W.Sl) (w : World) (R : W.Post) (h : W.nwV w (.cells #[.int .i64 a0_0, .int .i64 a0_1, .int .i64 a0_2, .int .u64 a0_3, .string a0_4, a0_5.v] ty_value_Value) fun w1 => 
  W.nwV w1 (.cells #[.int .i64 b1_0, .int .i64 b1_1, .int .i64 b1_2, .int .u64 b1_3, .string b1_4, b1_5.v] ty_value_Value) fun w2 => 
  ∃ t9_0 : Int, ∃ t9_1 : Int, ∃ t9_2 : Int, ∃ t9_3 : Int, ∃ t9_4 : ByteArray, ∃ t9_5 : W.Sl, w2.cell? ((Addr.mk w.heap.size 0 none).add 0) = some (.int .i64 t9_0) ∧ w2.cell? ((Addr.mk w.heap.size 0 none).add 1) = some (.int .i64 t9_1) ∧ w2.cell? ((Addr.mk w.heap.size 0 none).add 2) = some (.int .i64 t9_2) ∧ w2.cell? ((Addr.mk w.heap.size 0 none).add 3) = some (.int .u64 t9_3) ∧ w2.cell? ((Addr.mk w.heap.size 0 none).add 4) = some (.string t9_4) ∧ w2.cell? ((Addr.mk w.heap.size 0 none).add 5) = some (t9_5.v) ∧ 
  Calls Try.prog n_value_Valid #[.agg #[.int .i64 t9_0, .int .i64 t9_1, .int .i64 t9_2, .int .u64 t9_3, .string t9_4, t9_5.v]] w2 fun r_ w3 => ∃ t10 : Int, r_ = .returned (.int .i64 t10) ∧ 
  W.sel (t10 != 0) (R (.returned (.tuple #[.int .u64 0, .int .i64 t10])) w3) (∃ t14_0 : Int, ∃ t14_1 : Int, ∃ t14_2 : Int, ∃ t14_3 : Int, ∃ t14_4 : ByteArray, ∃ t14_5 : W.Sl, w3.cell? ((Addr.mk w1.heap.size 0 none).add 0) = some (.int .i64 t14_0) ∧ w3.cell? ((Addr.mk w1.heap.size 0 none).add 1) = some (.int .i64 t14_1) ∧ w3.cell? ((Addr.mk w1.heap.size 0 none).add 2) = some (.int .i64 t14_2) ∧ w3.cell? ((Addr.mk w1.heap.size 0 none).add 3) = some (.int .u64 t14_3) ∧ w3.cell? ((Addr.mk w1.heap.size 0 none).add 4) = some (.string t14_4) ∧ w3.cell? ((Addr.mk w1.heap.size 0 none).add 5) = some (t14_5.v) ∧ 
  Calls Try.prog n_value_Valid #[.agg #[.int .i64 t14_0, .int .i64 t14_1, .int .i64 t14_2, .int .u64 t14_3, .string t14_4, t14_5.v]] w3 fun r_ w4 => ∃ t15 : Int, r_ = .returned (.int .i64 t15) ∧ 
  W.sel (t15 != 0) (R (.returned (.tuple #[.int .u64 0, .int .i64 t15])) w4) (∃ t20_0 : Int, ∃ t20_1 : Int, ∃ t20_2 : Int, w4.cell? (((Addr.mk w.heap.size 0 none).add 0).add 0) = some (.int .i64 t20_0) ∧ w4.cell? (((Addr.mk w.heap.size 0 none).add 0).add 1) = some (.int .i64 t20_1) ∧ w4.cell? (((Addr.mk w.heap.size 0 none).add 0).add 2) = some (.int .i64 t20_2) ∧ 
  Calls Try.prog n_value_isArray #[.agg #[.int .i64 t20_0, .int .i64 t20_1, .int .i64 t20_2]] w4 fun r_ w5 => ∃ t21 : Bool, r_ = .returned (.bool t21) ∧ 
  W.sel (!t21) (S0  w5 R) (∃ t25_0 : Int, ∃ t25_1 : Int, ∃ t25_2 : Int, w5.cell? (((Addr.mk w.heap.size 0 none).add 0).add 0) = some (.int .i64 t25_0) ∧ w5.cell? (((Addr.mk w.heap.size 0 none).add 0).add 1) = some (.int .i64 t25_1) ∧ w5.cell? (((Addr.mk w.heap.size 0 none).add 0).add 2) = some (.int .i64 t25_2) ∧ 
  ∃ t27_0 : Int, ∃ t27_1 : Int, ∃ t27_2 : Int, w5.cell? (((Addr.mk w1.heap.size 0 none).add 0).add 0) = some (.int .i64 t27_0) ∧ w5.cell? (((Addr.mk w1.heap.size 0 none).add 0).add 1) = some (.int .i64 t27_1) ∧ w5.cell? (((Addr.mk w1.heap.size 0 none).add 0).add 2) = some (.int .i64 t27_2) ∧ 
  W.sel (!((t25_0 == t27_0) && ((t25_1 == t27_1) && ((t25_2 == t27_2) && true)))) (S0  w5 R) (L1 (Addr.mk w.heap.size 0 none) (Addr.mk w1.heap.size 0 none) 0 w5 R))))) : Calls Try.prog n_value_Diff #[.agg #[.int .i64 a0_0, .int .i64 a0_1, .int .i64 a0_2, .int .u64 a0_3, .string a0_4, a0_5.v], .agg #[.int .i64 b1_0, .int .i64 b1_1, .int .i64 b1_2, .int .u64 b1_3, .string b1_4, b1_5.v]] w R :=
  W.calls_of_WP' (R := R) (fn := Try.f27) (c := C0) (args := [.agg #[.int .i64 a0_0, .int .i64 a0_1, .int .i64 a0_2, .int .u64 a0_3, .string a0_4, a0_5.v], .agg #[.int .i64 b1_0, .int .i64 b1_1, .int .i64 b1_2, .int .u64 b1_3, .string b1_4, b1_5.v]]) (by kernel_rfl) (by kernel_rfl) (by kernel_rfl) (W.sr C0 (by kernel_rfl) (show (fun (E : W.Env) (w : World) => W.srK Try.prog C0 (fun E w => W.srK Try.prog C36 (fun E w => W.srK Try.prog C37 (fun E w => W.condK (W.Env.val E (.tmp 12)) (W.srK Try.prog C39 (fun E w => W.retVC Try.prog Try.f27 E w (fun v => R (.returned v) w)) E w) (W.srK Try.prog C40 (fun E w => W.srK Try.prog C41 (fun E w => W.condK (W.Env.val E (.tmp 17)) (W.srK Try.prog C43 (fun E w => W.retVC Try.prog Try.f27 E w (fun v => R (.returned v) w)) E w) (W.srK Try.prog C4 (fun E w => W.condK (W.Env.val E (.tmp 29)) (KE_S0 E w R) (W.srK Try.prog C9 (fun E w => KE_L1 E w R) E w)) E w)) E w) E w)) E w) E w) E w) (W.envOf 0 [.agg #[.int .i64 a0_0, .int .i64 a0_1, .int .i64 a0_2, .int .u64 a0_3, .string a0_4, a0_5.v], .agg #[.int .i64 b1_0, .int .i64 b1_1, .int .i64 b1_2, .int .u64 b1_3, .string b1_4, b1_5.v]]) w from Eq.mp (by kernel_rfl) h) fun _ _ hK => (W.sq C1 (by kernel_rfl) (W.sr C36 (by kernel_rfl) hK fun _ _ hK => (W.sr C37 (by kernel_rfl) hK fun _ _ hK => (W.cn C38 (by kernel_rfl) hK (fun hK => (W.sr C39 (by kernel_rfl) hK fun _ _ hK => (W.rt C44 (by kernel_rfl) fun a hA => W.retVC_sound hA hK))) (fun hK => (W.sk C45 (by kernel_rfl) fun a hA => W.nx hA (W.sq C2 (by kernel_rfl) (W.sr C40 (by kernel_rfl) hK fun _ _ hK => (W.sr C41 (by kernel_rfl) hK fun _ _ hK => (W.cn C42 (by kernel_rfl) hK (fun hK => (W.sr C43 (by kernel_rfl) hK fun _ _ hK => (W.rt C46 (by kernel_rfl) fun a hA => W.retVC_sound hA hK))) (fun hK => (W.sk C47 (by kernel_rfl) fun a hA => W.nx hA (W.sq C3 (by kernel_rfl) (W.sr C4 (by kernel_rfl) hK fun _ _ hK => (W.cn C5 (by kernel_rfl) hK (fun hK => (KE_S0_ok R _ _ hK)) (fun hK => (W.sk C48 (by kernel_rfl) fun a hA => W.nx hA (W.sq C7 (by kernel_rfl) (W.sr C9 (by kernel_rfl) hK fun _ _ hK => (W.bk C10 0 (by kernel_rfl) (W.lp C11 (by kernel_rfl) (KE_L1_ok R _ _ hK)))))))))))))))))))))))
abbrev S0T  (w : World) (R : W.Post) : Prop :=
  R (.returned (.tuple #[.int .u64 0, .int .i64 9])) w
theorem S0T_ok  {w : World} {R : W.Post} (h : S0T  w R) (H : W.LC w []) : S0  w R := h
def L1T (a2 : Nat) (a2_0 a2_1 a2_2 a2_3 : Int) (a2_4 : ByteArray) (a2_5 : W.Sl) (b3 : Nat) (b3_0 b3_1 b3_2 b3_3 : Int) (b3_4 : ByteArray) (b3_5 : W.Sl) (i8 : Int) (w : World) (R : W.Post) : Prop := W.LC w [(a2, [.int .i64 a2_0, .int .i64 a2_1, .int .i64 a2_2, .int .u64 a2_3, .string a2_4, a2_5.v], ty_value_Value), (b3, [.int .i64 b3_0, .int .i64 b3_1, .int .i64 b3_2, .int .u64 b3_3, .string b3_4, b3_5.v], ty_value_Value)] → L1 (W.at0 a2) (W.at0 b3) i8 w R
abbrev S2T (a2 : Nat) (a2_0 a2_1 a2_2 a2_3 : Int) (a2_4 : ByteArray) (a2_5 : W.Sl) (b3 : Nat) (b3_0 b3_1 b3_2 b3_3 : Int) (b3_4 : ByteArray) (b3_5 : W.Sl) (i8 : Int) (w : World) (R : W.Post) : Prop :=
  W.sel (decide (i8 ≥ ((a2_5.n : Nat) : Int))) ((0 : Int) ≤ i8 ∧ i8 < ((b3_5.n : Nat) : Int) ∧ W.optP b3_5.a fun t53_p => ∃ t55 : Int, w.cell? ((t53_p.add (Int.toNat i8 * 3)).add 0) = some (.int .u64 t55) ∧ 
  R (.returned (.tuple #[.int .u64 t55, .int .i64 0])) w) (W.sel (decide (i8 ≥ ((b3_5.n : Nat) : Int))) ((0 : Int) ≤ i8 ∧ i8 < ((a2_5.n : Nat) : Int) ∧ W.optP a2_5.a fun t65_p => ∃ t67 : Int, w.cell? ((t65_p.add (Int.toNat i8 * 3)).add 0) = some (.int .u64 t67) ∧ 
  R (.returned (.tuple #[.int .u64 t67, .int .i64 0])) w) ((0 : Int) ≤ i8 ∧ i8 < ((a2_5.n : Nat) : Int) ∧ W.optP a2_5.a fun t72_p => W.loc [a2, b3] w fun w1 => ∃ t73_0 : Int, ∃ t73_1 : Int, ∃ t73_2 : ByteArray, w1.cell? ((t72_p.add (Int.toNat i8 * 3)).add 0) = some (.int .u64 t73_0) ∧ w1.cell? ((t72_p.add (Int.toNat i8 * 3)).add 1) = some (.int .u64 t73_1) ∧ w1.cell? ((t72_p.add (Int.toNat i8 * 3)).add 2) = some (.string t73_2) ∧ 
  (0 : Int) ≤ i8 ∧ i8 < ((b3_5.n : Nat) : Int) ∧ W.optP b3_5.a fun t77_p => ∃ t78_0 : Int, ∃ t78_1 : Int, ∃ t78_2 : ByteArray, w1.cell? ((t77_p.add (Int.toNat i8 * 3)).add 0) = some (.int .u64 t78_0) ∧ w1.cell? ((t77_p.add (Int.toNat i8 * 3)).add 1) = some (.int .u64 t78_1) ∧ w1.cell? ((t77_p.add (Int.toNat i8 * 3)).add 2) = some (.string t78_2) ∧ 
  W.sel (!((t73_0 == t78_0) && ((t73_1 == t78_1) && ((t73_2.toList == t78_2.toList) && true)))) ((0 : Int) ≤ i8 ∧ i8 < ((a2_5.n : Nat) : Int) ∧ W.optP a2_5.a fun t83_p => W.loc [a2, b3] w1 fun w2 => ∃ t85 : Int, w2.cell? ((t83_p.add (Int.toNat i8 * 3)).add 0) = some (.int .u64 t85) ∧ 
  (0 : Int) ≤ i8 ∧ i8 < ((b3_5.n : Nat) : Int) ∧ W.optP b3_5.a fun t89_p => ∃ t91 : Int, w2.cell? ((t89_p.add (Int.toNat i8 * 3)).add 0) = some (.int .u64 t91) ∧ 
  R (.returned (.tuple #[.int .u64 (if t91 < t85 then t91 else t85), .int .i64 0])) w2) (L1T a2 a2_0 a2_1 a2_2 a2_3 a2_4 a2_5 b3 b3_0 b3_1 b3_2 b3_3 b3_4 b3_5 (IntKind.wrap .i64 (i8 + 1)) w1 R)))
theorem S2T_ok {a2 : Nat} {a2_0 a2_1 a2_2 a2_3 : Int} {a2_4 : ByteArray} {a2_5 : W.Sl} {b3 : Nat} {b3_0 b3_1 b3_2 b3_3 : Int} {b3_4 : ByteArray} {b3_5 : W.Sl} {i8 : Int} {w : World} {R : W.Post} (h : S2T a2 a2_0 a2_1 a2_2 a2_3 a2_4 a2_5 b3 b3_0 b3_1 b3_2 b3_3 b3_4 b3_5 i8 w R) (H : W.LC w [(a2, [.int .i64 a2_0, .int .i64 a2_1, .int .i64 a2_2, .int .u64 a2_3, .string a2_4, a2_5.v], ty_value_Value), (b3, [.int .i64 b3_0, .int .i64 b3_1, .int .i64 b3_2, .int .u64 b3_3, .string b3_4, b3_5.v], ty_value_Value)]) : S2 (W.at0 a2) (W.at0 b3) i8 w R := ⟨a2_5, H.ld 0 5, W.sel_imp h (fun h => ⟨b3_5, H.ld 1 5, ⟨h.1, h.2.1, have h := h.2.2; W.optP_imp h fun t53_p h => let ⟨t55, hc0, h⟩ := h; ⟨t55, hc0, h⟩⟩⟩) (fun h => ⟨b3_5, H.ld 1 5, W.sel_imp h (fun h => ⟨a2_5, H.ld 0 5, ⟨h.1, h.2.1, have h := h.2.2; W.optP_imp h fun t65_p h => let ⟨t67, hc0, h⟩ := h; ⟨t67, hc0, h⟩⟩⟩) (fun h => W.LC.drT H (W.Fr.refl _ _) fun w1 H f => ⟨a2_5, H.ld 0 5, ⟨h.1, h.2.1, have h := h.2.2; W.optP_imp h fun t72_p h => have h := h _ f; let ⟨t73_0, t73_1, t73_2, hc0, hc1, hc2, h⟩ := h; ⟨t73_0, t73_1, t73_2, hc0, hc1, hc2, ⟨b3_5, H.ld 1 5, ⟨h.1, h.2.1, have h := h.2.2; W.optP_imp h fun t77_p h => let ⟨t78_0, t78_1, t78_2, hc0, hc1, hc2, h⟩ := h; ⟨t78_0, t78_1, t78_2, hc0, hc1, hc2, W.sel_imp h (fun h => W.LC.drT H (W.Fr.refl _ _) fun w2 H f => ⟨a2_5, H.ld 0 5, ⟨h.1, h.2.1, have h := h.2.2; W.optP_imp h fun t83_p h => have h := h _ f; let ⟨t85, hc0, h⟩ := h; ⟨t85, hc0, ⟨b3_5, H.ld 1 5, ⟨h.1, h.2.1, have h := h.2.2; W.optP_imp h fun t89_p h => let ⟨t91, hc0, h⟩ := h; ⟨t91, hc0, h⟩⟩⟩⟩⟩⟩) (fun h => h H)⟩⟩⟩⟩⟩⟩)⟩)⟩
theorem L1T_step (a2 : Nat) (a2_0 a2_1 a2_2 a2_3 : Int) (a2_4 : ByteArray) (a2_5 : W.Sl) (b3 : Nat) (b3_0 b3_1 b3_2 b3_3 : Int) (b3_4 : ByteArray) (b3_5 : W.Sl) (i8 : Int) (w : World) (R : W.Post) (h : W.sel (decide (i8 < ((a2_5.n : Nat) : Int))) (S2T a2 a2_0 a2_1 a2_2 a2_3 a2_4 a2_5 b3 b3_0 b3_1 b3_2 b3_3 b3_4 b3_5 i8 w R) (W.sel (decide (i8 < ((b3_5.n : Nat) : Int))) (S2T a2 a2_0 a2_1 a2_2 a2_3 a2_4 a2_5 b3 b3_0 b3_1 b3_2 b3_3 b3_4 b3_5 i8 w R) (R (.returned (.tuple #[.int .u64 0, .int .i64 0])) w))) : L1T a2 a2_0 a2_1 a2_2 a2_3 a2_4 a2_5 b3 b3_0 b3_1 b3_2 b3_3 b3_4 b3_5 i8 w R := fun H => L1_step _ _ _ w R (⟨a2_5, H.ld 0 5, W.sel_imp h (fun h => S2T_ok h H) (fun h => ⟨b3_5, H.ld 1 5, W.sel_imp h (fun h => S2T_ok h H) (fun h => h)⟩)⟩)
theorem okT (a0_0 a0_1 a0_2 a0_3 : Int) (a0_4 : ByteArray) (a0_5 : W.Sl) (b1_0 b1_1 b1_2 b1_3 : Int) (b1_4 : ByteArray) (b1_5 : W.Sl) (w : World) (R : W.Post) (h : W.newV [] w fun b2 w1 => 
  W.newV [b2] w1 fun b3 w2 => 
  W.callF [b2, b3] Try.prog n_value_Valid #[.agg #[.int .i64 a0_0, .int .i64 a0_1, .int .i64 a0_2, .int .u64 a0_3, .string a0_4, a0_5.v]] w2 fun r_ w3 => ∃ t10 : Int, r_ = .returned (.int .i64 t10) ∧ 
  W.sel (t10 != 0) (R (.returned (.tuple #[.int .u64 0, .int .i64 t10])) w3) (W.callF [b2, b3] Try.prog n_value_Valid #[.agg #[.int .i64 b1_0, .int .i64 b1_1, .int .i64 b1_2, .int .u64 b1_3, .string b1_4, b1_5.v]] w3 fun r_ w4 => ∃ t15 : Int, r_ = .returned (.int .i64 t15) ∧ 
  W.sel (t15 != 0) (R (.returned (.tuple #[.int .u64 0, .int .i64 t15])) w4) (W.callF [b2, b3] Try.prog n_value_isArray #[.agg #[.int .i64 a0_0, .int .i64 a0_1, .int .i64 a0_2]] w4 fun r_ w5 => ∃ t21 : Bool, r_ = .returned (.bool t21) ∧ 
  W.sel (!t21) (S0T  w5 R) (W.sel (!((a0_0 == b1_0) && ((a0_1 == b1_1) && ((a0_2 == b1_2) && true)))) (S0T  w5 R) (L1T b2 a0_0 a0_1 a0_2 a0_3 a0_4 a0_5 b3 b1_0 b1_1 b1_2 b1_3 b1_4 b1_5 0 w5 R))))) : Calls Try.prog n_value_Diff #[.agg #[.int .i64 a0_0, .int .i64 a0_1, .int .i64 a0_2, .int .u64 a0_3, .string a0_4, a0_5.v], .agg #[.int .i64 b1_0, .int .i64 b1_1, .int .i64 b1_2, .int .u64 b1_3, .string b1_4, b1_5.v]] w R :=
  ok _ _ _ _ _ _ _ _ _ _ _ _ w R (W.LC.nwT (W.LC.nil _) (W.Fr.refl _ _) h fun w1 H h => W.LC.nwT H (W.Fr.refl _ _) h fun w2 H h => ⟨_, _, _, _, _, a0_5, H.ld 0 0, H.ld 0 1, H.ld 0 2, H.ld 0 3, H.ld 0 4, H.ld 0 5, W.LC.callT H h fun r_ w3 H h => let ⟨t10, hr, h⟩ := h; ⟨t10, hr, W.sel_imp h (fun h => h) (fun h => ⟨_, _, _, _, _, b1_5, H.ld 1 0, H.ld 1 1, H.ld 1 2, H.ld 1 3, H.ld 1 4, H.ld 1 5, W.LC.callT H h fun r_ w4 H h => let ⟨t15, hr, h⟩ := h; ⟨t15, hr, W.sel_imp h (fun h => h) (fun h => ⟨_, _, _, H.ld 0 0, H.ld 0 1, H.ld 0 2, W.LC.callT H h fun r_ w5 H h => let ⟨t21, hr, h⟩ := h; ⟨t21, hr, W.sel_imp h (fun h => S0T_ok h (W.LC.nil _)) (fun h => ⟨_, _, _, H.ld 0 0, H.ld 0 1, H.ld 0 2, ⟨_, _, _, H.ld 1 0, H.ld 1 1, H.ld 1 2, W.sel_imp h (fun h => S0T_ok h (W.LC.nil _)) (fun h => h H)⟩⟩)⟩⟩)⟩⟩)⟩⟩)
end value_Diff
end Go.Proofs.Ytjjhfdjpmonlaaa

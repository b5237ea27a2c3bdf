/- Printed by a program of ours (vcgen.py) from the dump: the conditions of the functions, and that they suffice. -/
import Derived.Test.YtknlbofiicflgaaGreatVG
import Derived.Test.YtknlbofiicflgaaGreatY
set_option linter.unusedVariables false
set_option maxRecDepth 100000
set_option maxHeartbeats 2000000
namespace Go.Proofs.YtknlbofiicflgaaGreat
open Go Go.W
namespace enthymemeref04_Nodes
noncomputable def C0 : Code := (Tryz.f14.body).getD .skip
noncomputable def C1:=C0.sn
noncomputable def C2:=C1.sn
noncomputable def C3:=C2.fs
noncomputable def C4:=C3.sn
noncomputable def C5:=C4.fs
noncomputable def C6:=C5.fs
noncomputable def C7:=C2.sn
abbrev Q0 (R : Post) : ExP := (Exit.then (wpx Tryz.prog (cx 21) C7 (bodyPost Tryz.prog Tryz.f14 R)) (bodyPost Tryz.prog Tryz.f14 R))
abbrev Q1 (R : Post) : ExP := (Exit.inBlock 0 (Q0 R))
/-- the head of the loop, ref.go:20 -/
def L0 (r1 : Addr) (n3 i4 : Int) (w : World) (R : Post) : Prop := LP Tryz.prog (cx 21) C6 (Q1 R) [(1, .pointer (some r1)), (3, .i n3), (4, .i i4)] w
def KE_L0 (E : Env) (w : World) (R : Post) : Prop := W.asRef (Env.get? E 1) fun r1 => W.asInt .i64 (Env.get? E 3) fun n3 => W.asInt .i64 (Env.get? E 4) fun i4 => L0 r1 n3 i4 w R
theorem KE_L0_ok : LOk Tryz.prog 21 KE_L0 C6 Q1 := by
  intro R E w h
  obtain ⟨r1, hq1, h_1⟩ := W.asRef_elim h
  obtain ⟨n3, hq3, h_2⟩ := W.asInt_elim h_1
  obtain ⟨i4, hq4, h_3⟩ := W.asInt_elim h_2
  intro a ha
  exact h_3 a (ha.cons hq1 (ha.cons hq3 (ha.cons hq4 ha.nil)))
noncomputable def C8:=C6.sn
noncomputable def C9:=C8.sn
abbrev Q2 (R : Post) : ExP := (Exit.then (LoopWP Tryz.prog (cx 21) C6 (Q1 R)) (Q1 R))
/-- ref.go:20 -/
abbrev S1 (r1 : Addr) (n3 i4 : Int) (w : World) (R : Post) : Prop :=
  L0 r1 n3 (IntKind.wrap .i64 (i4 + 1)) w R
def KE_S1 (E : Env) (w : World) (R : Post) : Prop := W.asRef (Env.get? E 1) fun r1 => W.asInt .i64 (Env.get? E 3) fun n3 => W.asInt .i64 (Env.get? E 4) fun i4 => S1 r1 n3 i4 w R
theorem KE_S1_ok : KOk Tryz.prog 21 KE_S1 C9 Q2 := by
  intro R E w h
  obtain ⟨r1, hq1, h_1⟩ := W.asRef_elim h
  obtain ⟨n3, hq3, h_2⟩ := W.asInt_elim h_1
  obtain ⟨i4, hq4, h_3⟩ := W.asInt_elim h_2
  exact fun a ha => WP.at (E := [(1, .pointer (some r1)), (3, .i n3), (4, .i i4)]) (rg C9 (K := fun E w => KE_L0 E w R) (by kernel_rfl) (mp h_3) fun _ _ a hA hK => KE_L0_ok R _ _ hK a hA) (ha.cons hq1 (ha.cons hq3 (ha.cons hq4 ha.nil)))
noncomputable def C10:=C6.fs
noncomputable def C11:=C8.fs
noncomputable def C12:=C11.fs
noncomputable def C13:=C10.sn
noncomputable def C14:=C13.fs
noncomputable def C15:=C13.sn
noncomputable def C16:=C7.sn
theorem L0_step (r1 : Addr) (n3 i4 : Int) (w : World) (R : Post) (h : ∃ t7 : Sl, w.cell? (r1.add 3) = some (t7.v) ∧ 
  sel (decide (i4 < ((t7.n : Nat) : Int))) (∃ t14 : Sl, w.cell? (r1.add 3) = some (t14.v) ∧ 
  (0 : Int) ≤ i4 ∧ i4 < ((t14.n : Nat) : Int) ∧ optP t14.a fun t16_p => ld4_0 w (t16_p.add (Int.toNat i4 * 4)) fun t17_0 t17_1 t17_2 t17_3 => ca0 n_enthymemeref04_Nodes #[.agg #[.i t17_0, .int .u8 t17_1, .int .u8 t17_2, t17_3.v]] w fun t18 w2 => S1 r1 (IntKind.wrap .i64 (n3 + t18)) i4 w2 R) (R (.returned (.i n3)) w)) : L0 r1 n3 i4 w R :=
  LP.step (n := (cx 21)) (c := C6) (E := [(1, .pointer (some r1)), (3, .i n3), (4, .i i4)]) (w := w) (sq C6 (sr C10 (show (fun (E : Env) (w : World) => srK Tryz.prog C10 (fun E w => condK (Env.val E (.tmp 9)) (rgK Tryz.prog C12 (fun E w => KE_S1 E w R) E w) (srK Tryz.prog C7 (fun E w => retVC Tryz.prog Tryz.f14 E w (fun v => R (.returned v) w)) E w)) E w) [(1, .pointer (some r1)), (3, .i n3), (4, .i i4)] w from mp h) fun _ _ hK => (cn C13 hK (fun hK => (sk C14 fun a hA => nx hA (sq C8 (bk C11 1 (by kernel_rfl) (rg C12 (by kernel_rfl) hK fun _ _ a hA hK => nx hA (KE_S1_ok R _ _ hK)))))) (fun hK => (xt C15 0 (by kernel_rfl) fun a hA => nx hA (sr C7 hK fun _ _ hK => (rt C16 fun a hA => retVC_sound hA hK)))))))
/-- enthymeme/enthymemeref04.Nodes -/
theorem ok (r0_0 r0_1 r0_2 : Int) (r0_3 : Sl) (w : World) (R : Post) (h : nwV w (.cells #[.i r0_0, .int .u8 r0_1, .int .u8 r0_2, r0_3.v] ty_enthymemeref04_Regex) fun w1 => 
  L0 (nb w) 1 0 w1 R) : Calls Tryz.prog n_enthymemeref04_Nodes #[.agg #[.i r0_0, .int .u8 r0_1, .int .u8 r0_2, r0_3.v]] w R :=
  calls_of_WP' (R := R) (fn := Tryz.f14) (c := C0) (args := [.agg #[.i r0_0, .int .u8 r0_1, .int .u8 r0_2, r0_3.v]]) (by kernel_rfl) (by kernel_rfl) (by kernel_rfl) (sr C0 (show (fun (E : Env) (w : World) => srK Tryz.prog C0 (fun E w => srK Tryz.prog C1 (fun E w => srK Tryz.prog C3 (fun E w => KE_L0 E w R) E w) E w) E w) (envOf 0 [.agg #[.i r0_0, .int .u8 r0_1, .int .u8 r0_2, r0_3.v]]) w from mp h) fun _ _ hK => (sr C1 hK fun _ _ hK => (sq C2 (sr C3 hK fun _ _ hK => (bk C4 0 (by kernel_rfl) (lp C5 (by kernel_rfl) (KE_L0_ok R _ _ hK)))))))
def L0T (r1 : Nat) (r1_0 r1_1 r1_2 : Int) (r1_3 : Sl) (n3 i4 : Int) (w : World) (R : Post) : Prop := LC w [(r1, [.i r1_0, .int .u8 r1_1, .int .u8 r1_2, r1_3.v], ty_enthymemeref04_Regex)] → L0 (at0 r1) n3 i4 w R
abbrev S1T (r1 : Nat) (r1_0 r1_1 r1_2 : Int) (r1_3 : Sl) (n3 i4 : Int) (w : World) (R : Post) : Prop :=
  L0T r1 r1_0 r1_1 r1_2 r1_3 n3 (IntKind.wrap .i64 (i4 + 1)) w R
theorem S1T_ok {r1 : Nat} {r1_0 r1_1 r1_2 : Int} {r1_3 : Sl} {n3 i4 : Int} {w : World} {R : Post} (h : S1T r1 r1_0 r1_1 r1_2 r1_3 n3 i4 w R) (H : LC w [(r1, [.i r1_0, .int .u8 r1_1, .int .u8 r1_2, r1_3.v], ty_enthymemeref04_Regex)]) : S1 (at0 r1) n3 i4 w R := h H
theorem L0T_step (r1 : Nat) (r1_0 r1_1 r1_2 : Int) (r1_3 : Sl) (n3 i4 : Int) (w : World) (R : Post) (h : sel (decide (i4 < ((r1_3.n : Nat) : Int))) ((0 : Int) ≤ i4 ∧ i4 < ((r1_3.n : Nat) : Int) ∧ optP r1_3.a fun t16_p => ld4_0 w (t16_p.add (Int.toNat i4 * 4)) fun t17_0 t17_1 t17_2 t17_3 => cf0 [r1] n_enthymemeref04_Nodes #[.agg #[.i t17_0, .int .u8 t17_1, .int .u8 t17_2, t17_3.v]] w fun t18 w2 => S1T r1 r1_0 r1_1 r1_2 r1_3 (IntKind.wrap .i64 (n3 + t18)) i4 w2 R) (R (.returned (.i n3)) w)) : L0T r1 r1_0 r1_1 r1_2 r1_3 n3 i4 w R := fun H => L0_step _ _ _ w R (⟨r1_3, H.ld 0 3, sel_imp h (fun h => ⟨r1_3, H.ld 0 3, ⟨h.1, h.2.1, have h := h.2.2; optP_imp h fun t16_p h => let ⟨t17_0, t17_1, t17_2, t17_3, hc0, hc1, hc2, hc3, h⟩ := h; ⟨t17_0, t17_1, t17_2, t17_3, hc0, hc1, hc2, hc3, LC.callT H h fun r_ w2 H h => let ⟨t18, hr, h⟩ := h; ⟨t18, hr, S1T_ok h H⟩⟩⟩⟩) (fun h => h)⟩)
theorem okT (r0_0 r0_1 r0_2 : Int) (r0_3 : Sl) (w : World) (R : Post) (h : newV [] w fun b1 w1 => 
  L0T b1 r0_0 r0_1 r0_2 r0_3 1 0 w1 R) : Calls Tryz.prog n_enthymemeref04_Nodes #[.agg #[.i r0_0, .int .u8 r0_1, .int .u8 r0_2, r0_3.v]] w R :=
  ok _ _ _ _ w R (LC.nwT (LC.nil _) (Fr.refl _ _) h fun w1 H h => h H)
end enthymemeref04_Nodes
namespace enthymemeref04_good
noncomputable def C0 : Code := (Tryz.f31.body).getD .skip
noncomputable def C1:=C0.sn
noncomputable def C2:=C1.sn
noncomputable def C3:=C2.sn
noncomputable def C4:=C3.fs
noncomputable def C5:=C4.sn
noncomputable def C6:=C5.fs
noncomputable def C7:=C3.sn
abbrev Q0 (R : Post) : ExP := (Exit.then (wpx Tryz.prog (cx 69) C7 (bodyPost Tryz.prog Tryz.f31 R)) (bodyPost Tryz.prog Tryz.f31 R))
noncomputable def C8:=C6.sn
/-- ref.go:31 -/
abbrev S0  (w : World) (R : Post) : Prop :=
  R (.returned (.bool false)) w
def KE_S0 (E : Env) (w : World) (R : Post) : Prop := S0  w R
theorem KE_S0_ok : KOk Tryz.prog 69 KE_S0 C6 Q0 := by
  intro R E w h
  exact fun a ha => WP.at (E := []) (sr C6 (K := fun E w => retVC Tryz.prog Tryz.f31 E w (fun v => R (.returned v) w)) (mp h) fun _ _ hK => (rt C8 fun a hA => retVC_sound hA hK)) ha.nil
noncomputable def C9:=C7.fs
noncomputable def C10:=C9.sn
noncomputable def C11:=C10.fs
noncomputable def C12:=C7.sn
abbrev Q1 (R : Post) : ExP := (Exit.then (wpx Tryz.prog (cx 69) C12 (bodyPost Tryz.prog Tryz.f31 R)) (bodyPost Tryz.prog Tryz.f31 R))
noncomputable def C13:=C11.sn
/-- ref.go:34 -/
abbrev S1  (w : World) (R : Post) : Prop :=
  R (.returned (.bool false)) w
def KE_S1 (E : Env) (w : World) (R : Post) : Prop := S1  w R
theorem KE_S1_ok : KOk Tryz.prog 69 KE_S1 C11 Q1 := by
  intro R E w h
  exact fun a ha => WP.at (E := []) (sr C11 (K := fun E w => retVC Tryz.prog Tryz.f31 E w (fun v => R (.returned v) w)) (mp h) fun _ _ hK => (rt C13 fun a hA => retVC_sound hA hK)) ha.nil
noncomputable def C14:=C12.fs
noncomputable def C15:=C14.sn
noncomputable def C16:=C15.fs
noncomputable def C17:=C16.fs
noncomputable def C18:=C12.sn
abbrev Q2 (R : Post) : ExP := (Exit.then (wpx Tryz.prog (cx 69) C18 (bodyPost Tryz.prog Tryz.f31 R)) (bodyPost Tryz.prog Tryz.f31 R))
abbrev Q3 (R : Post) : ExP := (Exit.inBlock 0 (Q2 R))
/-- the head of the loop, ref.go:36 -/
def L3 (r1 : Addr) (i5 : Int) (w : World) (R : Post) : Prop := LP Tryz.prog (cx 69) C17 (Q3 R) [(1, .pointer (some r1)), (5, .i i5)] w
def KE_L3 (E : Env) (w : World) (R : Post) : Prop := W.asRef (Env.get? E 1) fun r1 => W.asInt .i64 (Env.get? E 5) fun i5 => L3 r1 i5 w R
theorem KE_L3_ok : LOk Tryz.prog 69 KE_L3 C17 Q3 := by
  intro R E w h
  obtain ⟨r1, hq1, h_1⟩ := W.asRef_elim h
  obtain ⟨i5, hq5, h_2⟩ := W.asInt_elim h_1
  intro a ha
  exact h_2 a (ha.cons hq1 (ha.cons hq5 ha.nil))
noncomputable def C19:=C17.fs
noncomputable def C20:=C17.sn
noncomputable def C21:=C20.fs
noncomputable def C22:=C21.fs
noncomputable def C23:=C22.sn
noncomputable def C24:=C23.sn
noncomputable def C25:=C24.fs
noncomputable def C26:=C20.sn
noncomputable def C27:=C19.sn
noncomputable def C28:=C27.fs
noncomputable def C29:=C25.sn
noncomputable def C30:=C24.sn
noncomputable def C31:=C27.sn
noncomputable def C32:=C18.sn
theorem L3_step (r1 : Addr) (i5 : Int) (w : World) (R : Post) (h : ∃ t56 : Sl, w.cell? (r1.add 3) = some (t56.v) ∧ 
  sel (decide (i5 < ((t56.n : Nat) : Int))) (∃ t62 : Sl, w.cell? (r1.add 3) = some (t62.v) ∧ 
  (0 : Int) ≤ i5 ∧ i5 < ((t62.n : Nat) : Int) ∧ optP t62.a fun t64_p => ld4_0 w (t64_p.add (Int.toNat i5 * 4)) fun t65_0 t65_1 t65_2 t65_3 => ca1 n_enthymemeref04_good #[.agg #[.i t65_0, .int .u8 t65_1, .int .u8 t65_2, t65_3.v]] w fun t66 w1 => sel (!t66) (R (.returned (.bool false)) w1) (L3 r1 (IntKind.wrap .i64 (i5 + 1)) w1 R)) (R (.returned (.bool true)) w)) : L3 r1 i5 w R :=
  LP.step (n := (cx 69)) (c := C17) (E := [(1, .pointer (some r1)), (5, .i i5)]) (w := w) (sq C17 (sr C19 (show (fun (E : Env) (w : World) => srK Tryz.prog C19 (fun E w => condK (Env.val E (.tmp 58)) (srK Tryz.prog C22 (fun E w => srK Tryz.prog C23 (fun E w => condK (Env.val E (.tmp 68)) (srK Tryz.prog C25 (fun E w => retVC Tryz.prog Tryz.f31 E w (fun v => R (.returned v) w)) E w) (rgK Tryz.prog C26 (fun E w => KE_L3 E w R) E w)) E w) E w) (srK Tryz.prog C18 (fun E w => retVC Tryz.prog Tryz.f31 E w (fun v => R (.returned v) w)) E w)) E w) [(1, .pointer (some r1)), (5, .i i5)] w from mp h) fun _ _ hK => (cn C27 hK (fun hK => (sk C28 fun a hA => nx hA (sq C20 (bk C21 1 (by kernel_rfl) (sr C22 hK fun _ _ hK => (sr C23 hK fun _ _ hK => (cn C24 hK (fun hK => (sr C25 hK fun _ _ hK => (rt C29 fun a hA => retVC_sound hA hK))) (fun hK => (sk C30 fun a hA => nx hA (rg C26 (by kernel_rfl) hK fun _ _ a hA hK => KE_L3_ok R _ _ hK a hA)))))))))) (fun hK => (xt C31 0 (by kernel_rfl) fun a hA => nx hA (sr C18 hK fun _ _ hK => (rt C32 fun a hA => retVC_sound hA hK)))))))
/-- ref.go:36 -/
abbrev S2 (r1 : Addr) (w : World) (R : Post) : Prop :=
  L3 r1 0 w R
def KE_S2 (E : Env) (w : World) (R : Post) : Prop := W.asRef (Env.get? E 1) fun r1 => S2 r1 w R
theorem KE_S2_ok : KOk Tryz.prog 69 KE_S2 C14 Q2 := by
  intro R E w h
  obtain ⟨r1, hq1, h_1⟩ := W.asRef_elim h
  exact fun a ha => WP.at (E := [(1, .pointer (some r1))]) (sr C14 (K := fun E w => KE_L3 E w R) (mp h_1) fun _ _ hK => (bk C15 0 (by kernel_rfl) (lp C16 (by kernel_rfl) (KE_L3_ok R _ _ hK)))) (ha.cons hq1 ha.nil)
/-- enthymeme/enthymemeref04.good -/
noncomputable def C33:=C5.sn
noncomputable def C34:=C10.sn
theorem ok (r0_0 r0_1 r0_2 : Int) (r0_3 : Sl) (w : World) (R : Post) (h : nwV w (.cells #[.i r0_0, .int .u8 r0_1, .int .u8 r0_2, r0_3.v] ty_enthymemeref04_Regex) fun w1 => 
  nwV w1 (.cells #[.i 0, .i 0, .i 0, .i 64, .i 64, .i 64, .i 1, .i 1] ty_int) fun w2 => 
  nwV w2 (.cells #[.i 0, .i 0, .i 0, .i 0, .i 0, .i 0, .i 1, .i 1] ty_int) fun w3 => 
  drV w3 fun w4 => ∃ t10 : Int, w4.cell? ((nb w).add 0) = some (.i t10) ∧ 
  sel (decide (t10 < 0)) (S0  w4 R) (∃ t14 : Int, w4.cell? ((nb w).add 0) = some (.i t14) ∧ 
  sel (decide (t14 > 7)) (S0  w4 R) (∃ t19 : Sl, w4.cell? ((nb w).add 3) = some (t19.v) ∧ 
  ∃ t23 : Int, w4.cell? ((nb w).add 0) = some (.i t23) ∧ 
  (0 : Int) ≤ t23 ∧ t23 < ((8 : Nat) : Int) ∧ optP (some (nb w2)) fun t24_p => ∃ t25 : Int, w4.cell? (t24_p.add (Int.toNat t23 * 1)) = some (.i t25) ∧ 
  sel (decide (((t19.n : Nat) : Int) < t25)) (S0  w4 R) (∃ t30 : Sl, w4.cell? ((nb w).add 3) = some (t30.v) ∧ 
  ∃ t34 : Int, w4.cell? ((nb w).add 0) = some (.i t34) ∧ 
  (0 : Int) ≤ t34 ∧ t34 < ((8 : Nat) : Int) ∧ optP (some (nb w1)) fun t35_p => ∃ t36 : Int, w4.cell? (t35_p.add (Int.toNat t34 * 1)) = some (.i t36) ∧ 
  sel (decide (((t30.n : Nat) : Int) > t36)) (S0  w4 R) (∃ t40 : Int, w4.cell? ((nb w).add 1) = some (.int .u8 t40) ∧ 
  ∃ t42 : Int, w4.cell? ((nb w).add 2) = some (.int .u8 t42) ∧ 
  sel (decide (t40 > t42)) (S1  w4 R) (∃ t46 : Int, w4.cell? ((nb w).add 0) = some (.i t46) ∧ 
  sel (t46 != 2) (∃ t50 : Int, w4.cell? ((nb w).add 2) = some (.int .u8 t50) ∧ 
  sel (decide (t50 > 0)) (S1  w4 R) (S2 (nb w) w4 R)) (S2 (nb w) w4 R))))))) : Calls Tryz.prog n_enthymemeref04_good #[.agg #[.i r0_0, .int .u8 r0_1, .int .u8 r0_2, r0_3.v]] w R :=
  calls_of_WP' (R := R) (fn := Tryz.f31) (c := C0) (args := [.agg #[.i r0_0, .int .u8 r0_1, .int .u8 r0_2, r0_3.v]]) (by kernel_rfl) (by kernel_rfl) (by kernel_rfl) (sr C0 (show (fun (E : Env) (w : World) => srK Tryz.prog C0 (fun E w => srK Tryz.prog C1 (fun E w => srK Tryz.prog C2 (fun E w => sdK Tryz.prog C4 [0, 1, 2, 3, 4, 5, 6, 7, 8, 9, 10, 11, 12, 13, 14, 15, 16, 17, 18, 19, 20, 21, 22, 23, 24, 25, 26, 27, 28, 29] (fun E w => condK (Env.val E (.tmp 38)) (KE_S0 E w R) (srK Tryz.prog C9 (fun E w => condK (Env.val E (.tmp 53)) (KE_S1 E w R) (KE_S2 E w R)) E w)) E w) E w) E w) E w) (envOf 0 [.agg #[.i r0_0, .int .u8 r0_1, .int .u8 r0_2, r0_3.v]]) w from mp h) fun _ _ hK => (sr C1 hK fun _ _ hK => (sr C2 hK fun _ _ hK => (sq C3 (sd C4 (by kernel_rfl) hK fun _ _ hK => (cn C5 hK (fun hK => (KE_S0_ok R _ _ hK)) (fun hK => (sk C33 fun a hA => nx hA (sq C7 (sr C9 hK fun _ _ hK => (cn C10 hK (fun hK => (KE_S1_ok R _ _ hK)) (fun hK => (sk C34 fun a hA => nx hA (sq C12 (KE_S2_ok R _ _ hK)))))))))))))))
abbrev S0T  (w : World) (R : Post) : Prop :=
  R (.returned (.bool false)) w
theorem S0T_ok  {w : World} {R : Post} (h : S0T  w R) (H : LC w []) : S0  w R := h
abbrev S1T  (w : World) (R : Post) : Prop :=
  R (.returned (.bool false)) w
theorem S1T_ok  {w : World} {R : Post} (h : S1T  w R) (H : LC w []) : S1  w R := h
def L3T (r1 : Nat) (r1_0 r1_1 r1_2 : Int) (r1_3 : Sl) (i5 : Int) (w : World) (R : Post) : Prop := LC w [(r1, [.i r1_0, .int .u8 r1_1, .int .u8 r1_2, r1_3.v], ty_enthymemeref04_Regex)] → L3 (at0 r1) i5 w R
theorem L3T_step (r1 : Nat) (r1_0 r1_1 r1_2 : Int) (r1_3 : Sl) (i5 : Int) (w : World) (R : Post) (h : sel (decide (i5 < ((r1_3.n : Nat) : Int))) ((0 : Int) ≤ i5 ∧ i5 < ((r1_3.n : Nat) : Int) ∧ optP r1_3.a fun t64_p => ld4_0 w (t64_p.add (Int.toNat i5 * 4)) fun t65_0 t65_1 t65_2 t65_3 => cf1 [r1] n_enthymemeref04_good #[.agg #[.i t65_0, .int .u8 t65_1, .int .u8 t65_2, t65_3.v]] w fun t66 w1 => sel (!t66) (R (.returned (.bool false)) w1) (L3T r1 r1_0 r1_1 r1_2 r1_3 (IntKind.wrap .i64 (i5 + 1)) w1 R)) (R (.returned (.bool true)) w)) : L3T r1 r1_0 r1_1 r1_2 r1_3 i5 w R := fun H => L3_step _ _ w R (⟨r1_3, H.ld 0 3, sel_imp h (fun h => ⟨r1_3, H.ld 0 3, ⟨h.1, h.2.1, have h := h.2.2; optP_imp h fun t64_p h => let ⟨t65_0, t65_1, t65_2, t65_3, hc0, hc1, hc2, hc3, h⟩ := h; ⟨t65_0, t65_1, t65_2, t65_3, hc0, hc1, hc2, hc3, LC.callT H h fun r_ w1 H h => let ⟨t66, hr, h⟩ := h; ⟨t66, hr, sel_imp h (fun h => h) (fun h => h H)⟩⟩⟩⟩) (fun h => h)⟩)
abbrev S2T (r1 : Nat) (r1_0 r1_1 r1_2 : Int) (r1_3 : Sl) (w : World) (R : Post) : Prop :=
  L3T r1 r1_0 r1_1 r1_2 r1_3 0 w R
theorem S2T_ok {r1 : Nat} {r1_0 r1_1 r1_2 : Int} {r1_3 : Sl} {w : World} {R : Post} (h : S2T r1 r1_0 r1_1 r1_2 r1_3 w R) (H : LC w [(r1, [.i r1_0, .int .u8 r1_1, .int .u8 r1_2, r1_3.v], ty_enthymemeref04_Regex)]) : S2 (at0 r1) w R := h H
theorem okT (r0_0 r0_1 r0_2 : Int) (r0_3 : Sl) (w : World) (R : Post) (h : newV [] w fun b1 w1 => 
  nwV w1 (.cells #[.i 0, .i 0, .i 0, .i 64, .i 64, .i 64, .i 1, .i 1] ty_int) fun w2 => 
  nwV w2 (.cells #[.i 0, .i 0, .i 0, .i 0, .i 0, .i 0, .i 1, .i 1] ty_int) fun w3 => 
  sel (decide (r0_0 < 0)) (loc [b1] w3 fun w4 => S0T  w4 R) (sel (decide (r0_0 > 7)) (loc [b1] w3 fun w4 => S0T  w4 R) ((0 : Int) ≤ r0_0 ∧ r0_0 < ((8 : Nat) : Int) ∧ optP (some (nb w2)) fun t24_p => loc [b1] w3 fun w4 => ∃ t25 : Int, w4.cell? (t24_p.add (Int.toNat r0_0 * 1)) = some (.i t25) ∧ 
  sel (decide (((r0_3.n : Nat) : Int) < t25)) (S0T  w4 R) ((0 : Int) ≤ r0_0 ∧ r0_0 < ((8 : Nat) : Int) ∧ optP (some (nb w1)) fun t35_p => ∃ t36 : Int, w4.cell? (t35_p.add (Int.toNat r0_0 * 1)) = some (.i t36) ∧ 
  sel (decide (((r0_3.n : Nat) : Int) > t36)) (S0T  w4 R) (sel (decide (r0_1 > r0_2)) (S1T  w4 R) (sel (r0_0 != 2) (sel (decide (r0_2 > 0)) (S1T  w4 R) (S2T b1 r0_0 r0_1 r0_2 r0_3 w4 R)) (S2T b1 r0_0 r0_1 r0_2 r0_3 w4 R))))))) : Calls Tryz.prog n_enthymemeref04_good #[.agg #[.i r0_0, .int .u8 r0_1, .int .u8 r0_2, r0_3.v]] w R :=
  ok _ _ _ _ w R (LC.nwT (LC.nil _) (Fr.refl _ _) h fun w1 H h => LC.nwN H h fun w2 H h => LC.nwN H h fun w3 H h => LC.drT H (Fr.refl _ _) fun w4 H f => ⟨_, H.ld 0 0, sel_imp h (fun h => have h := h _ f; S0T_ok h (LC.nil _)) (fun h => ⟨_, H.ld 0 0, sel_imp h (fun h => have h := h _ f; S0T_ok h (LC.nil _)) (fun h => ⟨r0_3, H.ld 0 3, ⟨_, H.ld 0 0, ⟨h.1, h.2.1, have h := h.2.2; optP_imp h fun t24_p h => have h := h _ f; let ⟨t25, hc0, h⟩ := h; ⟨t25, hc0, sel_imp h (fun h => S0T_ok h (LC.nil _)) (fun h => ⟨r0_3, H.ld 0 3, ⟨_, H.ld 0 0, ⟨h.1, h.2.1, have h := h.2.2; optP_imp h fun t35_p h => let ⟨t36, hc0, h⟩ := h; ⟨t36, hc0, sel_imp h (fun h => S0T_ok h (LC.nil _)) (fun h => ⟨_, H.ld 0 1, ⟨_, H.ld 0 2, sel_imp h (fun h => S1T_ok h (LC.nil _)) (fun h => ⟨_, H.ld 0 0, sel_imp h (fun h => ⟨_, H.ld 0 2, sel_imp h (fun h => S1T_ok h (LC.nil _)) (fun h => S2T_ok h H)⟩) (fun h => S2T_ok h H)⟩)⟩⟩)⟩⟩⟩⟩)⟩⟩⟩⟩)⟩)⟩)
end enthymemeref04_good
namespace enthymemeref04_Valid
noncomputable def C0 : Code := (Tryz.f11.body).getD .skip
/-- enthymeme/enthymemeref04.Valid -/
noncomputable def C1:=C0.sn
noncomputable def C2:=C1.fs
noncomputable def C3:=C2.sn
noncomputable def C4:=C3.fs
noncomputable def C5:=C1.sn
noncomputable def C6:=C5.sn
noncomputable def C7:=C6.fs
noncomputable def C8:=C7.sn
noncomputable def C9:=C8.fs
noncomputable def C10:=C6.sn
noncomputable def C11:=C4.sn
noncomputable def C12:=C3.sn
noncomputable def C13:=C9.sn
noncomputable def C14:=C8.sn
noncomputable def C15:=C10.sn
theorem ok (r0_0 r0_1 r0_2 : Int) (r0_3 : Sl) (w : World) (R : Post) (h : nwV w (.cells #[.i r0_0, .int .u8 r0_1, .int .u8 r0_2, r0_3.v] ty_enthymemeref04_Regex) fun w1 => 
  ld4_0 w1 (nb w) fun t4_0 t4_1 t4_2 t4_3 => ca0 n_enthymemeref04_Nodes #[.agg #[.i t4_0, .int .u8 t4_1, .int .u8 t4_2, t4_3.v]] w1 fun t5 w2 => sel (decide (t5 > 64)) (R (.returned (.i 4)) w2) (ld4_0 w2 (nb w) fun t7_0 t7_1 t7_2 t7_3 => ca1 n_enthymemeref04_good #[.agg #[.i t7_0, .int .u8 t7_1, .int .u8 t7_2, t7_3.v]] w2 fun t8 w3 => sel (!t8) (R (.returned (.i 1)) w3) (R (.returned (.i 0)) w3))) : Calls Tryz.prog n_enthymemeref04_Valid #[.agg #[.i r0_0, .int .u8 r0_1, .int .u8 r0_2, r0_3.v]] w R :=
  calls_of_WP' (R := R) (fn := Tryz.f11) (c := C0) (args := [.agg #[.i r0_0, .int .u8 r0_1, .int .u8 r0_2, r0_3.v]]) (by kernel_rfl) (by kernel_rfl) (by kernel_rfl) (sr C0 (show (fun (E : Env) (w : World) => srK Tryz.prog C0 (fun E w => srK Tryz.prog C2 (fun E w => condK (Env.val E (.tmp 6)) (srK Tryz.prog C4 (fun E w => retVC Tryz.prog Tryz.f11 E w (fun v => R (.returned v) w)) E w) (srK Tryz.prog C5 (fun E w => srK Tryz.prog C7 (fun E w => condK (Env.val E (.tmp 10)) (srK Tryz.prog C9 (fun E w => retVC Tryz.prog Tryz.f11 E w (fun v => R (.returned v) w)) E w) (srK Tryz.prog C10 (fun E w => retVC Tryz.prog Tryz.f11 E w (fun v => R (.returned v) w)) E w)) E w) E w)) E w) E w) (envOf 0 [.agg #[.i r0_0, .int .u8 r0_1, .int .u8 r0_2, r0_3.v]]) w from mp h) fun _ _ hK => (sq C1 (sr C2 hK fun _ _ hK => (cn C3 hK (fun hK => (sr C4 hK fun _ _ hK => (rt C11 fun a hA => retVC_sound hA hK))) (fun hK => (sk C12 fun a hA => nx hA (sr C5 hK fun _ _ hK => (sq C6 (sr C7 hK fun _ _ hK => (cn C8 hK (fun hK => (sr C9 hK fun _ _ hK => (rt C13 fun a hA => retVC_sound hA hK))) (fun hK => (sk C14 fun a hA => nx hA (sr C10 hK fun _ _ hK => (rt C15 fun a hA => retVC_sound hA hK))))))))))))))
theorem okT (r0_0 r0_1 r0_2 : Int) (r0_3 : Sl) (w : World) (R : Post) (h : newV [] w fun b1 w1 => 
  cf0 [b1] n_enthymemeref04_Nodes #[.agg #[.i r0_0, .int .u8 r0_1, .int .u8 r0_2, r0_3.v]] w1 fun t5 w2 => sel (decide (t5 > 64)) (R (.returned (.i 4)) w2) (cf1 [b1] n_enthymemeref04_good #[.agg #[.i r0_0, .int .u8 r0_1, .int .u8 r0_2, r0_3.v]] w2 fun t8 w3 => sel (!t8) (R (.returned (.i 1)) w3) (R (.returned (.i 0)) w3))) : Calls Tryz.prog n_enthymemeref04_Valid #[.agg #[.i r0_0, .int .u8 r0_1, .int .u8 r0_2, r0_3.v]] w R :=
  ok _ _ _ _ w R (LC.nwT (LC.nil _) (Fr.refl _ _) h fun w1 H h => ⟨_, _, _, r0_3, H.ld 0 0, H.ld 0 1, H.ld 0 2, H.ld 0 3, LC.callT H h fun r_ w2 H h => let ⟨t5, hr, h⟩ := h; ⟨t5, hr, sel_imp h (fun h => h) (fun h => ⟨_, _, _, r0_3, H.ld 0 0, H.ld 0 1, H.ld 0 2, H.ld 0 3, LC.callT H h fun r_ w3 H h => let ⟨t8, hr, h⟩ := h; ⟨t8, hr, sel_imp h (fun h => h) (fun h => h)⟩⟩)⟩⟩)
end enthymemeref04_Valid
namespace enthymemeref04_match
noncomputable def C0 : Code := (Tryz.f40.body).getD .skip
noncomputable def C1:=C0.sn
noncomputable def C2:=C1.fs
noncomputable def C3:=C2.sn
noncomputable def C4:=C3.fs
noncomputable def C5:=C4.sn
noncomputable def C6:=C5.sn
noncomputable def C7:=C6.sn
noncomputable def C8:=C7.sn
noncomputable def C9:=C8.sn
noncomputable def C10:=C9.sn
noncomputable def C11:=C10.sn
noncomputable def C12:=C11.fs
noncomputable def C13:=C12.sn
noncomputable def C14:=C13.fs
noncomputable def C15:=C14.sn
noncomputable def C16:=C15.fs
noncomputable def C17:=C16.fs
noncomputable def C18:=C1.sn
abbrev Q0 (R : Post) : ExP := (Exit.then (wpx Tryz.prog (cx 130) C18 (bodyPost Tryz.prog Tryz.f40 R)) (bodyPost Tryz.prog Tryz.f40 R))
noncomputable def C19:=C13.sn
abbrev Q1 (R : Post) : ExP := (Exit.then (wpx Tryz.prog (cx 130) C19 (Exit.inBlock 0 (Q0 R))) (Exit.inBlock 0 (Q0 R)))
abbrev Q2 (R : Post) : ExP := (Exit.inBlock 1 (Q1 R))
/-- the head of the loop, ref.go:195 -/
def L0 (s1 : ByteArray) (r2 : Addr) (i5 : Int) (w : World) (R : Post) : Prop := LP Tryz.prog (cx 130) C17 (Q2 R) [(1, .string s1), (2, .pointer (some r2)), (5, .i i5)] w
def KE_L0 (E : Env) (w : World) (R : Post) : Prop := W.asStr (Env.get? E 1) fun s1 => W.asRef (Env.get? E 2) fun r2 => W.asInt .i64 (Env.get? E 5) fun i5 => L0 s1 r2 i5 w R
theorem KE_L0_ok : LOk Tryz.prog 130 KE_L0 C17 Q2 := by
  intro R E w h
  obtain ⟨s1, hq1, h_1⟩ := W.asStr_elim h
  obtain ⟨r2, hq2, h_2⟩ := W.asRef_elim h_1
  obtain ⟨i5, hq5, h_3⟩ := W.asInt_elim h_2
  intro a ha
  exact h_3 a (ha.cons hq1 (ha.cons hq2 (ha.cons hq5 ha.nil)))
noncomputable def C20:=C17.sn
noncomputable def C21:=C20.sn
abbrev Q3 (R : Post) : ExP := (Exit.then (LoopWP Tryz.prog (cx 130) C17 (Q2 R)) (Q2 R))
/-- ref.go:195 -/
abbrev S1 (s1 : ByteArray) (r2 : Addr) (i5 : Int) (w : World) (R : Post) : Prop :=
  L0 s1 r2 (IntKind.wrap .i64 (i5 + 1)) w R
def KE_S1 (E : Env) (w : World) (R : Post) : Prop := W.asStr (Env.get? E 1) fun s1 => W.asRef (Env.get? E 2) fun r2 => W.asInt .i64 (Env.get? E 5) fun i5 => S1 s1 r2 i5 w R
theorem KE_S1_ok : KOk Tryz.prog 130 KE_S1 C21 Q3 := by
  intro R E w h
  obtain ⟨s1, hq1, h_1⟩ := W.asStr_elim h
  obtain ⟨r2, hq2, h_2⟩ := W.asRef_elim h_1
  obtain ⟨i5, hq5, h_3⟩ := W.asInt_elim h_2
  exact fun a ha => WP.at (E := [(1, .string s1), (2, .pointer (some r2)), (5, .i i5)]) (rg C21 (K := fun E w => KE_L0 E w R) (by kernel_rfl) (mp h_3) fun _ _ a hA hK => KE_L0_ok R _ _ hK a hA) (ha.cons hq1 (ha.cons hq2 (ha.cons hq5 ha.nil)))
noncomputable def C22:=C17.fs
noncomputable def C23:=C20.fs
noncomputable def C24:=C23.fs
noncomputable def C25:=C24.sn
noncomputable def C26:=C25.sn
noncomputable def C27:=C26.fs
noncomputable def C28:=C22.sn
noncomputable def C29:=C28.fs
noncomputable def C30:=C27.sn
noncomputable def C31:=C26.sn
noncomputable def C32:=C28.sn
noncomputable def C33:=C19.sn
theorem L0_step (s1 : ByteArray) (r2 : Addr) (i5 : Int) (w : World) (R : Post) (h : sel (decide (i5 ≤ ((s1.size : Nat) : Int))) (drV w fun w3 => ∃ t52 : Sl, w3.cell? (r2.add 3) = some (t52.v) ∧ 
  (0 : Int) ≤ 0 ∧ 0 < ((t52.n : Nat) : Int) ∧ optP t52.a fun t53_p => ld4_0 w3 (t53_p.add (Int.toNat 0 * 4)) fun t54_0 t54_1 t54_2 t54_3 => (0 : Int) ≤ i5 ∧ i5 ≤ ((s1.size : Nat) : Int) ∧ ca1 n_enthymemeref04_match #[.agg #[.i t54_0, .int .u8 t54_1, .int .u8 t54_2, t54_3.v], .string (s1.extract 0 (Int.toNat i5))] w3 fun t58 w4 => drV w4 fun w5 => sel t58 (∃ t62 : Sl, w5.cell? (r2.add 3) = some (t62.v) ∧ 
  (0 : Int) ≤ 1 ∧ 1 ≤ ((t62.n : Nat) : Int) ∧ (0 : Int) ≤ i5 ∧ i5 ≤ ((s1.size : Nat) : Int) ∧ ca1 n_enthymemeref04_match #[.agg #[.i 3, .int .u8 0, .int .u8 0, .slice (if t62.c = (Int.toNat 1) then t62.a else t62.a.map (·.add ((Int.toNat 1) * 4))) (t62.n - (Int.toNat 1)) (t62.c - (Int.toNat 1))], .string (s1.extract (Int.toNat i5) s1.size)] w5 fun t68 w6 => sel t68 (R (.returned (.bool true)) w6) (S1 s1 r2 i5 w6 R)) (S1 s1 r2 i5 w5 R)) (R (.returned (.bool false)) w)) : L0 s1 r2 i5 w R :=
  LP.step (n := (cx 130)) (c := C17) (E := [(1, .string s1), (2, .pointer (some r2)), (5, .i i5)]) (w := w) (sq C17 (sr C22 (show (fun (E : Env) (w : World) => srK Tryz.prog C22 (fun E w => condK (Env.val E (.tmp 48)) (sdK Tryz.prog C24 [0, 1, 2, 3, 4, 5, 6, 7, 8] (fun E w => sdK Tryz.prog C25 [0, 1, 2, 3, 4, 5, 6, 7, 8, 9, 10] (fun E w => condK (Env.val E (.tmp 69)) (srK Tryz.prog C27 (fun E w => retVC Tryz.prog Tryz.f40 E w (fun v => R (.returned v) w)) E w) (KE_S1 E w R)) E w) E w) (srK Tryz.prog C19 (fun E w => retVC Tryz.prog Tryz.f40 E w (fun v => R (.returned v) w)) E w)) E w) [(1, .string s1), (2, .pointer (some r2)), (5, .i i5)] w from mp h) fun _ _ hK => (cn C28 hK (fun hK => (sk C29 fun a hA => nx hA (sq C20 (bk C23 2 (by kernel_rfl) (sd C24 (by kernel_rfl) hK fun _ _ hK => (sd C25 (by kernel_rfl) hK fun _ _ hK => (cn C26 hK (fun hK => (sr C27 hK fun _ _ hK => (rt C30 fun a hA => retVC_sound hA hK))) (fun hK => (sk C31 fun a hA => nx hA (KE_S1_ok R _ _ hK)))))))))) (fun hK => (xt C32 1 (by kernel_rfl) fun a hA => nx hA (sr C19 hK fun _ _ hK => (rt C33 fun a hA => retVC_sound hA hK)))))))
noncomputable def C34:=C11.sn
noncomputable def C35:=C34.sn
noncomputable def C36:=C35.fs
noncomputable def C37:=C36.fs
noncomputable def C38:=C37.sn
noncomputable def C39:=C38.fs
noncomputable def C40:=C39.fs
noncomputable def C41:=C36.sn
abbrev Q4 (R : Post) : ExP := (Exit.then (wpx Tryz.prog (cx 130) C41 (Exit.inBlock 0 (Q0 R))) (Exit.inBlock 0 (Q0 R)))
abbrev Q5 (R : Post) : ExP := (Exit.inBlock 3 (Q4 R))
/-- the head of the loop, ref.go:203 -/
def L3 (s1 : ByteArray) (r2 : Addr) (i7 : Int) (w : World) (R : Post) : Prop := LP Tryz.prog (cx 130) C40 (Q5 R) [(1, .string s1), (2, .pointer (some r2)), (7, .i i7)] w
def KE_L3 (E : Env) (w : World) (R : Post) : Prop := W.asStr (Env.get? E 1) fun s1 => W.asRef (Env.get? E 2) fun r2 => W.asInt .i64 (Env.get? E 7) fun i7 => L3 s1 r2 i7 w R
theorem KE_L3_ok : LOk Tryz.prog 130 KE_L3 C40 Q5 := by
  intro R E w h
  obtain ⟨s1, hq1, h_1⟩ := W.asStr_elim h
  obtain ⟨r2, hq2, h_2⟩ := W.asRef_elim h_1
  obtain ⟨i7, hq7, h_3⟩ := W.asInt_elim h_2
  intro a ha
  exact h_3 a (ha.cons hq1 (ha.cons hq2 (ha.cons hq7 ha.nil)))
noncomputable def C42:=C40.fs
noncomputable def C43:=C40.sn
noncomputable def C44:=C43.fs
noncomputable def C45:=C44.fs
noncomputable def C46:=C45.sn
noncomputable def C47:=C46.fs
noncomputable def C48:=C43.sn
noncomputable def C49:=C42.sn
noncomputable def C50:=C49.fs
noncomputable def C51:=C47.sn
noncomputable def C52:=C46.sn
noncomputable def C53:=C49.sn
noncomputable def C54:=C41.sn
theorem L3_step (s1 : ByteArray) (r2 : Addr) (i7 : Int) (w : World) (R : Post) (h : ∃ t75 : Sl, w.cell? (r2.add 3) = some (t75.v) ∧ 
  sel (decide (i7 < ((t75.n : Nat) : Int))) (drV w fun w1 => ∃ t81 : Sl, w1.cell? (r2.add 3) = some (t81.v) ∧ 
  (0 : Int) ≤ i7 ∧ i7 < ((t81.n : Nat) : Int) ∧ optP t81.a fun t83_p => ld4_0 w1 (t83_p.add (Int.toNat i7 * 4)) fun t84_0 t84_1 t84_2 t84_3 => ∃ t88 : Int, w1.cell? (r2.add 0) = some (.i t88) ∧ 
  ca1 n_enthymemeref04_match #[.agg #[.i t84_0, .int .u8 t84_1, .int .u8 t84_2, t84_3.v], .string s1] w1 fun t86 w2 => w2.cell? (r2.add 0) = some (.i t88) ∧ sel (t86 == (t88 == 4)) (∃ t92 : Int, w2.cell? (r2.add 0) = some (.i t92) ∧ 
  R (.returned (.bool (t92 == 4))) w2) (L3 s1 r2 (IntKind.wrap .i64 (i7 + 1)) w2 R)) (∃ t95 : Int, w.cell? (r2.add 0) = some (.i t95) ∧ 
  R (.returned (.bool (t95 == 5))) w)) : L3 s1 r2 i7 w R :=
  LP.step (n := (cx 130)) (c := C40) (E := [(1, .string s1), (2, .pointer (some r2)), (7, .i i7)]) (w := w) (sq C40 (sr C42 (show (fun (E : Env) (w : World) => srK Tryz.prog C42 (fun E w => condK (Env.val E (.tmp 77)) (sdK Tryz.prog C45 [0, 1, 2, 3, 4, 5, 7, 8, 9, 6, 10] (fun E w => condK (Env.val E (.tmp 90)) (srK Tryz.prog C47 (fun E w => retVC Tryz.prog Tryz.f40 E w (fun v => R (.returned v) w)) E w) (rgK Tryz.prog C48 (fun E w => KE_L3 E w R) E w)) E w) (srK Tryz.prog C41 (fun E w => retVC Tryz.prog Tryz.f40 E w (fun v => R (.returned v) w)) E w)) E w) [(1, .string s1), (2, .pointer (some r2)), (7, .i i7)] w from mp h) fun _ _ hK => (cn C49 hK (fun hK => (sk C50 fun a hA => nx hA (sq C43 (bk C44 4 (by kernel_rfl) (sd C45 (by kernel_rfl) hK fun _ _ hK => (cn C46 hK (fun hK => (sr C47 hK fun _ _ hK => (rt C51 fun a hA => retVC_sound hA hK))) (fun hK => (sk C52 fun a hA => nx hA (rg C48 (by kernel_rfl) hK fun _ _ a hA hK => KE_L3_ok R _ _ hK a hA))))))))) (fun hK => (xt C53 3 (by kernel_rfl) fun a hA => nx hA (sr C41 hK fun _ _ hK => (rt C54 fun a hA => retVC_sound hA hK)))))))
/-- ref.go:203 -/
abbrev S2 (s1 : ByteArray) (r2 : Addr) (w : World) (R : Post) : Prop :=
  L3 s1 r2 0 w R
def KE_S2 (E : Env) (w : World) (R : Post) : Prop := W.asStr (Env.get? E 1) fun s1 => W.asRef (Env.get? E 2) fun r2 => S2 s1 r2 w R
theorem KE_S2_ok : KOk Tryz.prog 130 KE_S2 C37 Q4 := by
  intro R E w h
  obtain ⟨s1, hq1, h_1⟩ := W.asStr_elim h
  obtain ⟨r2, hq2, h_2⟩ := W.asRef_elim h_1
  exact fun a ha => WP.at (E := [(1, .string s1), (2, .pointer (some r2))]) (sr C37 (K := fun E w => KE_L3 E w R) (mp h_2) fun _ _ hK => (bk C38 3 (by kernel_rfl) (lp C39 (by kernel_rfl) (KE_L3_ok R _ _ hK)))) (ha.cons hq1 (ha.cons hq2 ha.nil))
noncomputable def C55:=C18.fs
noncomputable def C56:=C55.sn
noncomputable def C57:=C56.fs
noncomputable def C58:=C57.fs
noncomputable def C59:=C18.sn
abbrev Q6 (R : Post) : ExP := (Exit.then (wpx Tryz.prog (cx 130) C59 (bodyPost Tryz.prog Tryz.f40 R)) (bodyPost Tryz.prog Tryz.f40 R))
abbrev Q7 (R : Post) : ExP := (Exit.inBlock 5 (Q6 R))
/-- the head of the loop, ref.go:212 -/
def L5 (s1 : ByteArray) (r2 : Addr) (i8 : Int) (w : World) (R : Post) : Prop := LP Tryz.prog (cx 130) C58 (Q7 R) [(1, .string s1), (2, .pointer (some r2)), (8, .i i8)] w
def KE_L5 (E : Env) (w : World) (R : Post) : Prop := W.asStr (Env.get? E 1) fun s1 => W.asRef (Env.get? E 2) fun r2 => W.asInt .i64 (Env.get? E 8) fun i8 => L5 s1 r2 i8 w R
theorem KE_L5_ok : LOk Tryz.prog 130 KE_L5 C58 Q7 := by
  intro R E w h
  obtain ⟨s1, hq1, h_1⟩ := W.asStr_elim h
  obtain ⟨r2, hq2, h_2⟩ := W.asRef_elim h_1
  obtain ⟨i8, hq8, h_3⟩ := W.asInt_elim h_2
  intro a ha
  exact h_3 a (ha.cons hq1 (ha.cons hq2 (ha.cons hq8 ha.nil)))
noncomputable def C60:=C58.sn
noncomputable def C61:=C60.sn
abbrev Q8 (R : Post) : ExP := (Exit.then (LoopWP Tryz.prog (cx 130) C58 (Q7 R)) (Q7 R))
/-- ref.go:212 -/
abbrev S6 (s1 : ByteArray) (r2 : Addr) (i8 : Int) (w : World) (R : Post) : Prop :=
  L5 s1 r2 (IntKind.wrap .i64 (i8 + 1)) w R
def KE_S6 (E : Env) (w : World) (R : Post) : Prop := W.asStr (Env.get? E 1) fun s1 => W.asRef (Env.get? E 2) fun r2 => W.asInt .i64 (Env.get? E 8) fun i8 => S6 s1 r2 i8 w R
theorem KE_S6_ok : KOk Tryz.prog 130 KE_S6 C61 Q8 := by
  intro R E w h
  obtain ⟨s1, hq1, h_1⟩ := W.asStr_elim h
  obtain ⟨r2, hq2, h_2⟩ := W.asRef_elim h_1
  obtain ⟨i8, hq8, h_3⟩ := W.asInt_elim h_2
  exact fun a ha => WP.at (E := [(1, .string s1), (2, .pointer (some r2)), (8, .i i8)]) (rg C61 (K := fun E w => KE_L5 E w R) (by kernel_rfl) (mp h_3) fun _ _ a hA hK => KE_L5_ok R _ _ hK a hA) (ha.cons hq1 (ha.cons hq2 (ha.cons hq8 ha.nil)))
noncomputable def C62:=C58.fs
noncomputable def C63:=C60.fs
noncomputable def C64:=C63.fs
noncomputable def C65:=C64.sn
noncomputable def C66:=C65.sn
noncomputable def C67:=C66.fs
noncomputable def C68:=C62.sn
noncomputable def C69:=C68.fs
noncomputable def C70:=C67.sn
noncomputable def C71:=C66.sn
noncomputable def C72:=C68.sn
noncomputable def C73:=C59.sn
theorem L5_step (s1 : ByteArray) (r2 : Addr) (i8 : Int) (w : World) (R : Post) (h : sel (decide (i8 ≤ ((s1.size : Nat) : Int))) (drV w fun w2 => ∃ t113 : Sl, w2.cell? (r2.add 3) = some (t113.v) ∧ 
  (0 : Int) ≤ 0 ∧ 0 < ((t113.n : Nat) : Int) ∧ optP t113.a fun t114_p => ld4_0 w2 (t114_p.add (Int.toNat 0 * 4)) fun t115_0 t115_1 t115_2 t115_3 => (0 : Int) ≤ i8 ∧ i8 ≤ ((s1.size : Nat) : Int) ∧ ca1 n_enthymemeref04_match #[.agg #[.i t115_0, .int .u8 t115_1, .int .u8 t115_2, t115_3.v], .string (s1.extract 0 (Int.toNat i8))] w2 fun t119 w3 => drV w3 fun w4 => sel t119 (ld4_0 w4 r2 fun t122_0 t122_1 t122_2 t122_3 => (0 : Int) ≤ i8 ∧ i8 ≤ ((s1.size : Nat) : Int) ∧ ca1 n_enthymemeref04_match #[.agg #[.i t122_0, .int .u8 t122_1, .int .u8 t122_2, t122_3.v], .string (s1.extract (Int.toNat i8) s1.size)] w4 fun t126 w5 => sel t126 (R (.returned (.bool true)) w5) (S6 s1 r2 i8 w5 R)) (S6 s1 r2 i8 w4 R)) (R (.returned (.bool (s1.toList == (ByteArray.mk #[]).toList))) w)) : L5 s1 r2 i8 w R :=
  LP.step (n := (cx 130)) (c := C58) (E := [(1, .string s1), (2, .pointer (some r2)), (8, .i i8)]) (w := w) (sq C58 (sr C62 (show (fun (E : Env) (w : World) => srK Tryz.prog C62 (fun E w => condK (Env.val E (.tmp 109)) (sdK Tryz.prog C64 [0, 1, 2, 3, 4, 5, 6, 7, 8] (fun E w => sdK Tryz.prog C65 [0, 1, 2, 3, 4, 5, 6, 7] (fun E w => condK (Env.val E (.tmp 127)) (srK Tryz.prog C67 (fun E w => retVC Tryz.prog Tryz.f40 E w (fun v => R (.returned v) w)) E w) (KE_S6 E w R)) E w) E w) (srK Tryz.prog C59 (fun E w => retVC Tryz.prog Tryz.f40 E w (fun v => R (.returned v) w)) E w)) E w) [(1, .string s1), (2, .pointer (some r2)), (8, .i i8)] w from mp h) fun _ _ hK => (cn C68 hK (fun hK => (sk C69 fun a hA => nx hA (sq C60 (bk C63 6 (by kernel_rfl) (sd C64 (by kernel_rfl) hK fun _ _ hK => (sd C65 (by kernel_rfl) hK fun _ _ hK => (cn C66 hK (fun hK => (sr C67 hK fun _ _ hK => (rt C70 fun a hA => retVC_sound hA hK))) (fun hK => (sk C71 fun a hA => nx hA (KE_S6_ok R _ _ hK)))))))))) (fun hK => (xt C72 5 (by kernel_rfl) fun a hA => nx hA (sr C59 hK fun _ _ hK => (rt C73 fun a hA => retVC_sound hA hK)))))))
noncomputable def C74:=C35.sn
abbrev Q9 (R : Post) : ExP := (Exit.inBlock 0 (Q0 R))
noncomputable def C75:=C74.sn
noncomputable def C76:=C75.fs
noncomputable def C77:=C76.sn
noncomputable def C78:=C75.sn
/-- ref.go:209 -/
abbrev S4 (s1 : ByteArray) (r2 : Addr) (t11 : Int) (w : World) (R : Post) : Prop :=
  sel (t11 == 6) (∃ t100 : Sl, w.cell? (r2.add 3) = some (t100.v) ∧ 
  (0 : Int) ≤ 0 ∧ 0 < ((t100.n : Nat) : Int) ∧ optP t100.a fun t101_p => ld4_0 w (t101_p.add (Int.toNat 0 * 4)) fun t102_0 t102_1 t102_2 t102_3 => ca1 n_enthymemeref04_match #[.agg #[.i t102_0, .int .u8 t102_1, .int .u8 t102_2, t102_3.v], .string s1] w fun t104 w1 => R (.returned (.bool (!t104))) w1) (L5 s1 r2 1 w R)
def KE_S4 (E : Env) (w : World) (R : Post) : Prop := W.asStr (Env.get? E 1) fun s1 => W.asRef (Env.get? E 2) fun r2 => W.asInt .i64 (Env.get? E 11) fun t11 => S4 s1 r2 t11 w R
theorem KE_S4_ok : KOk Tryz.prog 130 KE_S4 C74 Q9 := by
  intro R E w h
  obtain ⟨s1, hq1, h_1⟩ := W.asStr_elim h
  obtain ⟨r2, hq2, h_2⟩ := W.asRef_elim h_1
  obtain ⟨t11, hq11, h_3⟩ := W.asInt_elim h_2
  exact fun a ha => WP.at (E := [(1, .string s1), (2, .pointer (some r2)), (11, .i t11)]) (sr C74 (K := fun E w => condK (Env.val E (.tmp 97)) (srK Tryz.prog C76 (fun E w => retVC Tryz.prog Tryz.f40 E w (fun v => R (.returned v) w)) E w) (srK Tryz.prog C55 (fun E w => KE_L5 E w R) E w)) (mp h_3) fun _ _ hK => (cn C75 hK (fun hK => (sr C76 hK fun _ _ hK => (rt C77 fun a hA => retVC_sound hA hK))) (fun hK => (sk C78 fun a hA => nx hA (sq C18 (sr C55 hK fun _ _ hK => (bk C56 5 (by kernel_rfl) (lp C57 (by kernel_rfl) (KE_L5_ok R _ _ hK))))))))) (ha.cons hq1 (ha.cons hq2 (ha.cons hq11 ha.nil)))
/-- enthymeme/enthymemeref04.match -/
noncomputable def C79:=C5.fs
noncomputable def C80:=C7.fs
noncomputable def C81:=C9.fs
noncomputable def C82:=C12.fs
noncomputable def C83:=C82.sn
noncomputable def C84:=C83.fs
noncomputable def C85:=C34.fs
noncomputable def C86:=C85.sn
noncomputable def C87:=C86.sn
noncomputable def C88:=C79.sn
noncomputable def C89:=C80.sn
noncomputable def C90:=C81.sn
noncomputable def C91:=C84.sn
noncomputable def C92:=C83.sn
noncomputable def C93:=C86.fs
theorem ok (r0_0 r0_1 r0_2 : Int) (r0_3 : Sl) (s1 : ByteArray) (w : World) (R : Post) (h : nwV w (.cells #[.i r0_0, .int .u8 r0_1, .int .u8 r0_2, r0_3.v] ty_enthymemeref04_Regex) fun w1 => 
  ∃ t11 : Int, w1.cell? ((nb w).add 0) = some (.i t11) ∧ 
  sel (t11 == 0) (R (.returned (.bool false)) w1) (sel (t11 == 1) (R (.returned (.bool (s1.toList == (ByteArray.mk #[]).toList))) w1) (sel (t11 == 2) (drV w1 fun w2 => sel (((s1.size : Nat) : Int) == 1) (∃ t25 : Int, w2.cell? ((nb w).add 1) = some (.int .u8 t25) ∧ 
  (0 : Int) ≤ 0 ∧ ∃ t27_b : UInt8, s1[Int.toNat 0]? = some t27_b ∧ sel (decide (t25 ≤ ((t27_b.toNat : Nat) : Int))) ((0 : Int) ≤ 0 ∧ ∃ t32_b : UInt8, s1[Int.toNat 0]? = some t32_b ∧ ∃ t34 : Int, w2.cell? ((nb w).add 2) = some (.int .u8 t34) ∧ 
  R (.returned (.bool (decide (((t32_b.toNat : Nat) : Int) ≤ t34)))) w2) (R (.returned (.bool false)) w2)) (R (.returned (.bool false)) w2)) (sel (t11 == 3) (∃ t40 : Sl, w1.cell? ((nb w).add 3) = some (t40.v) ∧ 
  sel (((t40.n : Nat) : Int) == 0) (R (.returned (.bool (s1.toList == (ByteArray.mk #[]).toList))) w1) (L0 s1 (nb w) 0 w1 R)) (sel (t11 == 4) (sel (t11 == 4) (S2 s1 (nb w) w1 R) (S4 s1 (nb w) t11 w1 R)) (sel (t11 == 5) (S2 s1 (nb w) w1 R) (S4 s1 (nb w) t11 w1 R))))))) : Calls Tryz.prog n_enthymemeref04_match #[.agg #[.i r0_0, .int .u8 r0_1, .int .u8 r0_2, r0_3.v], .string s1] w R :=
  calls_of_WP' (R := R) (fn := Tryz.f40) (c := C0) (args := [.agg #[.i r0_0, .int .u8 r0_1, .int .u8 r0_2, r0_3.v], .string s1]) (by kernel_rfl) (by kernel_rfl) (by kernel_rfl) (sr C0 (show (fun (E : Env) (w : World) => srK Tryz.prog C0 (fun E w => srK Tryz.prog C2 (fun E w => srK Tryz.prog C4 (fun E w => condK (Env.val E (.tmp 12)) (srK Tryz.prog C79 (fun E w => retVC Tryz.prog Tryz.f40 E w (fun v => R (.returned v) w)) E w) (srK Tryz.prog C6 (fun E w => condK (Env.val E (.tmp 14)) (srK Tryz.prog C80 (fun E w => retVC Tryz.prog Tryz.f40 E w (fun v => R (.returned v) w)) E w) (srK Tryz.prog C8 (fun E w => condK (Env.val E (.tmp 18)) (sdK Tryz.prog C81 [0, 1, 2, 3, 4, 5, 6, 7, 8, 9, 10, 11, 12, 13, 14, 15, 16, 17] (fun E w => retVC Tryz.prog Tryz.f40 E w (fun v => R (.returned v) w)) E w) (srK Tryz.prog C10 (fun E w => condK (Env.val E (.tmp 37)) (srK Tryz.prog C82 (fun E w => condK (Env.val E (.tmp 42)) (srK Tryz.prog C84 (fun E w => retVC Tryz.prog Tryz.f40 E w (fun v => R (.returned v) w)) E w) (srK Tryz.prog C14 (fun E w => KE_L0 E w R) E w)) E w) (srK Tryz.prog C85 (fun E w => condK (Env.val E (.tmp 70)) (condK (Env.val E (.tmp 70)) (KE_S2 E w R) (KE_S4 E w R)) (rgK Tryz.prog C87 (fun E w => condK (Env.val E (.tmp 70)) (KE_S2 E w R) (KE_S4 E w R)) E w)) E w)) E w)) E w)) E w)) E w) E w) E w) (envOf 0 [.agg #[.i r0_0, .int .u8 r0_1, .int .u8 r0_2, r0_3.v], .string s1]) w from mp h) fun _ _ hK => (sq C1 (sr C2 hK fun _ _ hK => (bk C3 0 (by kernel_rfl) (sr C4 hK fun _ _ hK => (cn C5 hK (fun hK => (sr C79 hK fun _ _ hK => (rt C88 fun a hA => retVC_sound hA hK))) (fun hK => (sr C6 hK fun _ _ hK => (cn C7 hK (fun hK => (sr C80 hK fun _ _ hK => (rt C89 fun a hA => retVC_sound hA hK))) (fun hK => (sr C8 hK fun _ _ hK => (cn C9 hK (fun hK => (sd C81 (by kernel_rfl) hK fun _ _ hK => (rt C90 fun a hA => retVC_sound hA hK))) (fun hK => (sr C10 hK fun _ _ hK => (cn C11 hK (fun hK => (sq C12 (sr C82 hK fun _ _ hK => (cn C83 hK (fun hK => (sr C84 hK fun _ _ hK => (rt C91 fun a hA => retVC_sound hA hK))) (fun hK => (sk C92 fun a hA => nx hA (sq C13 (sr C14 hK fun _ _ hK => (bk C15 1 (by kernel_rfl) (lp C16 (by kernel_rfl) (KE_L0_ok R _ _ hK))))))))))) (fun hK => (sq C34 (sr C85 hK fun _ _ hK => (cn C86 hK (fun hK => (sk C93 fun a hA => nx hA (cn C35 hK (fun hK => (sq C36 (KE_S2_ok R _ _ hK))) (fun hK => (KE_S4_ok R _ _ hK))))) (fun hK => (rg C87 (by kernel_rfl) hK fun _ _ a hA hK => nx hA (cn C35 hK (fun hK => (sq C36 (KE_S2_ok R _ _ hK))) (fun hK => (KE_S4_ok R _ _ hK))))))))))))))))))))))))
def L0T (s1 : ByteArray) (r2 : Nat) (r2_0 r2_1 r2_2 : Int) (r2_3 : Sl) (i5 : Int) (w : World) (R : Post) : Prop := LC w [(r2, [.i r2_0, .int .u8 r2_1, .int .u8 r2_2, r2_3.v], ty_enthymemeref04_Regex)] → L0 s1 (at0 r2) i5 w R
abbrev S1T (s1 : ByteArray) (r2 : Nat) (r2_0 r2_1 r2_2 : Int) (r2_3 : Sl) (i5 : Int) (w : World) (R : Post) : Prop :=
  L0T s1 r2 r2_0 r2_1 r2_2 r2_3 (IntKind.wrap .i64 (i5 + 1)) w R
theorem S1T_ok {s1 : ByteArray} {r2 : Nat} {r2_0 r2_1 r2_2 : Int} {r2_3 : Sl} {i5 : Int} {w : World} {R : Post} (h : S1T s1 r2 r2_0 r2_1 r2_2 r2_3 i5 w R) (H : LC w [(r2, [.i r2_0, .int .u8 r2_1, .int .u8 r2_2, r2_3.v], ty_enthymemeref04_Regex)]) : S1 s1 (at0 r2) i5 w R := h H
theorem L0T_step (s1 : ByteArray) (r2 : Nat) (r2_0 r2_1 r2_2 : Int) (r2_3 : Sl) (i5 : Int) (w : World) (R : Post) (h : sel (decide (i5 ≤ ((s1.size : Nat) : Int))) ((0 : Int) ≤ 0 ∧ 0 < ((r2_3.n : Nat) : Int) ∧ optP r2_3.a fun t53_p => loc [r2] w fun w3 => ld4_0 w3 (t53_p.add (Int.toNat 0 * 4)) fun t54_0 t54_1 t54_2 t54_3 => (0 : Int) ≤ i5 ∧ i5 ≤ ((s1.size : Nat) : Int) ∧ cf1 [r2] n_enthymemeref04_match #[.agg #[.i t54_0, .int .u8 t54_1, .int .u8 t54_2, t54_3.v], .string (s1.extract 0 (Int.toNat i5))] w3 fun t58 w4 => sel t58 ((0 : Int) ≤ 1 ∧ 1 ≤ ((r2_3.n : Nat) : Int) ∧ (0 : Int) ≤ i5 ∧ i5 ≤ ((s1.size : Nat) : Int) ∧ loc [r2] w4 fun w5 => cf1 [r2] n_enthymemeref04_match #[.agg #[.i 3, .int .u8 0, .int .u8 0, .slice (if r2_3.c = (Int.toNat 1) then r2_3.a else r2_3.a.map (·.add ((Int.toNat 1) * 4))) (r2_3.n - (Int.toNat 1)) (r2_3.c - (Int.toNat 1))], .string (s1.extract (Int.toNat i5) s1.size)] w5 fun t68 w6 => sel t68 (R (.returned (.bool true)) w6) (S1T s1 r2 r2_0 r2_1 r2_2 r2_3 i5 w6 R)) (loc [r2] w4 fun w5 => S1T s1 r2 r2_0 r2_1 r2_2 r2_3 i5 w5 R)) (R (.returned (.bool false)) w)) : L0T s1 r2 r2_0 r2_1 r2_2 r2_3 i5 w R := fun H => L0_step _ _ _ w R (sel_imp h (fun h => LC.drT H (Fr.refl _ _) fun w3 H f => ⟨r2_3, H.ld 0 3, ⟨h.1, h.2.1, have h := h.2.2; optP_imp h fun t53_p h => have h := h _ f; let ⟨t54_0, t54_1, t54_2, t54_3, hc0, hc1, hc2, hc3, h⟩ := h; ⟨t54_0, t54_1, t54_2, t54_3, hc0, hc1, hc2, hc3, ⟨h.1, h.2.1, have h := h.2.2; LC.callT H h fun r_ w4 H h => let ⟨t58, hr, h⟩ := h; ⟨t58, hr, LC.drT H (Fr.refl _ _) fun w5 H f => sel_imp h (fun h => ⟨r2_3, H.ld 0 3, ⟨h.1, h.2.1, have h := h.2.2; ⟨h.1, h.2.1, have h := h.2.2; have h := h _ f; LC.callT H h fun r_ w6 H h => let ⟨t68, hr, h⟩ := h; ⟨t68, hr, sel_imp h (fun h => h) (fun h => S1T_ok h H)⟩⟩⟩⟩) (fun h => have h := h _ f; S1T_ok h H)⟩⟩⟩⟩⟩) (fun h => h))
def L3T (s1 : ByteArray) (r2 : Nat) (r2_0 r2_1 r2_2 : Int) (r2_3 : Sl) (i7 : Int) (w : World) (R : Post) : Prop := LC w [(r2, [.i r2_0, .int .u8 r2_1, .int .u8 r2_2, r2_3.v], ty_enthymemeref04_Regex)] → L3 s1 (at0 r2) i7 w R
theorem L3T_step (s1 : ByteArray) (r2 : Nat) (r2_0 r2_1 r2_2 : Int) (r2_3 : Sl) (i7 : Int) (w : World) (R : Post) (h : sel (decide (i7 < ((r2_3.n : Nat) : Int))) ((0 : Int) ≤ i7 ∧ i7 < ((r2_3.n : Nat) : Int) ∧ optP r2_3.a fun t83_p => loc [r2] w fun w1 => ld4_0 w1 (t83_p.add (Int.toNat i7 * 4)) fun t84_0 t84_1 t84_2 t84_3 => cf1 [r2] n_enthymemeref04_match #[.agg #[.i t84_0, .int .u8 t84_1, .int .u8 t84_2, t84_3.v], .string s1] w1 fun t86 w2 => sel (t86 == (r2_0 == 4)) (R (.returned (.bool (r2_0 == 4))) w2) (L3T s1 r2 r2_0 r2_1 r2_2 r2_3 (IntKind.wrap .i64 (i7 + 1)) w2 R)) (R (.returned (.bool (r2_0 == 5))) w)) : L3T s1 r2 r2_0 r2_1 r2_2 r2_3 i7 w R := fun H => L3_step _ _ _ w R (⟨r2_3, H.ld 0 3, sel_imp h (fun h => LC.drT H (Fr.refl _ _) fun w1 H f => ⟨r2_3, H.ld 0 3, ⟨h.1, h.2.1, have h := h.2.2; optP_imp h fun t83_p h => have h := h _ f; let ⟨t84_0, t84_1, t84_2, t84_3, hc0, hc1, hc2, hc3, h⟩ := h; ⟨t84_0, t84_1, t84_2, t84_3, hc0, hc1, hc2, hc3, ⟨_, H.ld 0 0, LC.callT H h fun r_ w2 H h => let ⟨t86, hr, h⟩ := h; ⟨t86, hr, ⟨H.ld 0 0, sel_imp h (fun h => ⟨_, H.ld 0 0, h⟩) (fun h => h H)⟩⟩⟩⟩⟩⟩) (fun h => ⟨_, H.ld 0 0, h⟩)⟩)
abbrev S2T (s1 : ByteArray) (r2 : Nat) (r2_0 r2_1 r2_2 : Int) (r2_3 : Sl) (w : World) (R : Post) : Prop :=
  L3T s1 r2 r2_0 r2_1 r2_2 r2_3 0 w R
theorem S2T_ok {s1 : ByteArray} {r2 : Nat} {r2_0 r2_1 r2_2 : Int} {r2_3 : Sl} {w : World} {R : Post} (h : S2T s1 r2 r2_0 r2_1 r2_2 r2_3 w R) (H : LC w [(r2, [.i r2_0, .int .u8 r2_1, .int .u8 r2_2, r2_3.v], ty_enthymemeref04_Regex)]) : S2 s1 (at0 r2) w R := h H
def L5T (s1 : ByteArray) (r2 : Nat) (r2_0 r2_1 r2_2 : Int) (r2_3 : Sl) (i8 : Int) (w : World) (R : Post) : Prop := LC w [(r2, [.i r2_0, .int .u8 r2_1, .int .u8 r2_2, r2_3.v], ty_enthymemeref04_Regex)] → L5 s1 (at0 r2) i8 w R
abbrev S6T (s1 : ByteArray) (r2 : Nat) (r2_0 r2_1 r2_2 : Int) (r2_3 : Sl) (i8 : Int) (w : World) (R : Post) : Prop :=
  L5T s1 r2 r2_0 r2_1 r2_2 r2_3 (IntKind.wrap .i64 (i8 + 1)) w R
theorem S6T_ok {s1 : ByteArray} {r2 : Nat} {r2_0 r2_1 r2_2 : Int} {r2_3 : Sl} {i8 : Int} {w : World} {R : Post} (h : S6T s1 r2 r2_0 r2_1 r2_2 r2_3 i8 w R) (H : LC w [(r2, [.i r2_0, .int .u8 r2_1, .int .u8 r2_2, r2_3.v], ty_enthymemeref04_Regex)]) : S6 s1 (at0 r2) i8 w R := h H
theorem L5T_step (s1 : ByteArray) (r2 : Nat) (r2_0 r2_1 r2_2 : Int) (r2_3 : Sl) (i8 : Int) (w : World) (R : Post) (h : sel (decide (i8 ≤ ((s1.size : Nat) : Int))) ((0 : Int) ≤ 0 ∧ 0 < ((r2_3.n : Nat) : Int) ∧ optP r2_3.a fun t114_p => loc [r2] w fun w2 => ld4_0 w2 (t114_p.add (Int.toNat 0 * 4)) fun t115_0 t115_1 t115_2 t115_3 => (0 : Int) ≤ i8 ∧ i8 ≤ ((s1.size : Nat) : Int) ∧ cf1 [r2] n_enthymemeref04_match #[.agg #[.i t115_0, .int .u8 t115_1, .int .u8 t115_2, t115_3.v], .string (s1.extract 0 (Int.toNat i8))] w2 fun t119 w3 => sel t119 ((0 : Int) ≤ i8 ∧ i8 ≤ ((s1.size : Nat) : Int) ∧ loc [r2] w3 fun w4 => cf1 [r2] n_enthymemeref04_match #[.agg #[.i r2_0, .int .u8 r2_1, .int .u8 r2_2, r2_3.v], .string (s1.extract (Int.toNat i8) s1.size)] w4 fun t126 w5 => sel t126 (R (.returned (.bool true)) w5) (S6T s1 r2 r2_0 r2_1 r2_2 r2_3 i8 w5 R)) (loc [r2] w3 fun w4 => S6T s1 r2 r2_0 r2_1 r2_2 r2_3 i8 w4 R)) (R (.returned (.bool (s1.toList == (ByteArray.mk #[]).toList))) w)) : L5T s1 r2 r2_0 r2_1 r2_2 r2_3 i8 w R := fun H => L5_step _ _ _ w R (sel_imp h (fun h => LC.drT H (Fr.refl _ _) fun w2 H f => ⟨r2_3, H.ld 0 3, ⟨h.1, h.2.1, have h := h.2.2; optP_imp h fun t114_p h => have h := h _ f; let ⟨t115_0, t115_1, t115_2, t115_3, hc0, hc1, hc2, hc3, h⟩ := h; ⟨t115_0, t115_1, t115_2, t115_3, hc0, hc1, hc2, hc3, ⟨h.1, h.2.1, have h := h.2.2; LC.callT H h fun r_ w3 H h => let ⟨t119, hr, h⟩ := h; ⟨t119, hr, LC.drT H (Fr.refl _ _) fun w4 H f => sel_imp h (fun h => ⟨_, _, _, r2_3, H.ld 0 0, H.ld 0 1, H.ld 0 2, H.ld 0 3, ⟨h.1, h.2.1, have h := h.2.2; have h := h _ f; LC.callT H h fun r_ w5 H h => let ⟨t126, hr, h⟩ := h; ⟨t126, hr, sel_imp h (fun h => h) (fun h => S6T_ok h H)⟩⟩⟩) (fun h => have h := h _ f; S6T_ok h H)⟩⟩⟩⟩⟩) (fun h => h))
abbrev S4T (s1 : ByteArray) (r2 : Nat) (r2_0 r2_1 r2_2 : Int) (r2_3 : Sl) (t11 : Int) (w : World) (R : Post) : Prop :=
  sel (t11 == 6) ((0 : Int) ≤ 0 ∧ 0 < ((r2_3.n : Nat) : Int) ∧ optP r2_3.a fun t101_p => ld4_0 w (t101_p.add (Int.toNat 0 * 4)) fun t102_0 t102_1 t102_2 t102_3 => cf1 [r2] n_enthymemeref04_match #[.agg #[.i t102_0, .int .u8 t102_1, .int .u8 t102_2, t102_3.v], .string s1] w fun t104 w1 => R (.returned (.bool (!t104))) w1) (L5T s1 r2 r2_0 r2_1 r2_2 r2_3 1 w R)
theorem S4T_ok {s1 : ByteArray} {r2 : Nat} {r2_0 r2_1 r2_2 : Int} {r2_3 : Sl} {t11 : Int} {w : World} {R : Post} (h : S4T s1 r2 r2_0 r2_1 r2_2 r2_3 t11 w R) (H : LC w [(r2, [.i r2_0, .int .u8 r2_1, .int .u8 r2_2, r2_3.v], ty_enthymemeref04_Regex)]) : S4 s1 (at0 r2) t11 w R := sel_imp h (fun h => ⟨r2_3, H.ld 0 3, ⟨h.1, h.2.1, have h := h.2.2; optP_imp h fun t101_p h => let ⟨t102_0, t102_1, t102_2, t102_3, hc0, hc1, hc2, hc3, h⟩ := h; ⟨t102_0, t102_1, t102_2, t102_3, hc0, hc1, hc2, hc3, LC.callT H h fun r_ w1 H h => let ⟨t104, hr, h⟩ := h; ⟨t104, hr, h⟩⟩⟩⟩) (fun h => h H)
theorem okT (r0_0 r0_1 r0_2 : Int) (r0_3 : Sl) (s1 : ByteArray) (w : World) (R : Post) (h : newV [] w fun b2 w1 => 
  sel (r0_0 == 0) (R (.returned (.bool false)) w1) (sel (r0_0 == 1) (R (.returned (.bool (s1.toList == (ByteArray.mk #[]).toList))) w1) (sel (r0_0 == 2) (sel (((s1.size : Nat) : Int) == 1) ((0 : Int) ≤ 0 ∧ ∃ t27_b : UInt8, s1[Int.toNat 0]? = some t27_b ∧ sel (decide (r0_1 ≤ ((t27_b.toNat : Nat) : Int))) ((0 : Int) ≤ 0 ∧ ∃ t32_b : UInt8, s1[Int.toNat 0]? = some t32_b ∧ loc [b2] w1 fun w2 => R (.returned (.bool (decide (((t32_b.toNat : Nat) : Int) ≤ r0_2)))) w2) (loc [b2] w1 fun w2 => R (.returned (.bool false)) w2)) (loc [b2] w1 fun w2 => R (.returned (.bool false)) w2)) (sel (r0_0 == 3) (sel (((r0_3.n : Nat) : Int) == 0) (R (.returned (.bool (s1.toList == (ByteArray.mk #[]).toList))) w1) (L0T s1 b2 r0_0 r0_1 r0_2 r0_3 0 w1 R)) (sel (r0_0 == 4) (sel (r0_0 == 4) (S2T s1 b2 r0_0 r0_1 r0_2 r0_3 w1 R) (S4T s1 b2 r0_0 r0_1 r0_2 r0_3 r0_0 w1 R)) (sel (r0_0 == 5) (S2T s1 b2 r0_0 r0_1 r0_2 r0_3 w1 R) (S4T s1 b2 r0_0 r0_1 r0_2 r0_3 r0_0 w1 R))))))) : Calls Tryz.prog n_enthymemeref04_match #[.agg #[.i r0_0, .int .u8 r0_1, .int .u8 r0_2, r0_3.v], .string s1] w R :=
  ok _ _ _ _ _ w R (LC.nwT (LC.nil _) (Fr.refl _ _) h fun w1 H h => ⟨_, H.ld 0 0, sel_imp h (fun h => h) (fun h => sel_imp h (fun h => h) (fun h => sel_imp h (fun h => LC.drT H (Fr.refl _ _) fun w2 H f => sel_imp h (fun h => ⟨_, H.ld 0 1, ⟨h.1, have h := h.2; let ⟨t27_b, hc, h⟩ := h; ⟨t27_b, hc, sel_imp h (fun h => ⟨h.1, have h := h.2; let ⟨t32_b, hc, h⟩ := h; ⟨t32_b, hc, ⟨_, H.ld 0 2, have h := h _ f; h⟩⟩⟩) (fun h => have h := h _ f; h)⟩⟩⟩) (fun h => have h := h _ f; h)) (fun h => sel_imp h (fun h => ⟨r0_3, H.ld 0 3, sel_imp h (fun h => h) (fun h => h H)⟩) (fun h => sel_imp h (fun h => sel_imp h (fun h => S2T_ok h H) (fun h => S4T_ok h H)) (fun h => sel_imp h (fun h => S2T_ok h H) (fun h => S4T_ok h H))))))⟩)
end enthymemeref04_match
namespace enthymemeref04_Match
noncomputable def C0 : Code := (Tryz.f19.body).getD .skip
/-- enthymeme/enthymemeref04.Match -/
noncomputable def C1:=C0.sn
noncomputable def C2:=C1.sn
noncomputable def C3:=C2.fs
noncomputable def C4:=C3.sn
noncomputable def C5:=C4.fs
noncomputable def C6:=C2.sn
noncomputable def C7:=C6.fs
noncomputable def C8:=C7.sn
noncomputable def C9:=C8.fs
noncomputable def C10:=C6.sn
noncomputable def C11:=C5.sn
noncomputable def C12:=C4.sn
noncomputable def C13:=C9.sn
noncomputable def C14:=C8.sn
noncomputable def C15:=C10.sn
theorem ok (r0_0 r0_1 r0_2 : Int) (r0_3 : Sl) (s1 : ByteArray) (w : World) (R : Post) (h : nwV w (.cells #[.i r0_0, .int .u8 r0_1, .int .u8 r0_2, r0_3.v] ty_enthymemeref04_Regex) fun w1 => 
  ld4_0 w1 (nb w) fun t7_0 t7_1 t7_2 t7_3 => ca0 n_enthymemeref04_Valid #[.agg #[.i t7_0, .int .u8 t7_1, .int .u8 t7_2, t7_3.v]] w1 fun t8 w2 => sel (t8 != 0) (R (.returned (.tuple #[.bool false, .i t8])) w2) (sel (decide (((s1.size : Nat) : Int) > 64)) (R (.returned (.tuple #[.bool false, .i 4])) w2) (ld4_0 w2 (nb w) fun t15_0 t15_1 t15_2 t15_3 => ca1 n_enthymemeref04_match #[.agg #[.i t15_0, .int .u8 t15_1, .int .u8 t15_2, t15_3.v], .string s1] w2 fun t17 w3 => R (.returned (.tuple #[.bool t17, .i 0])) w3))) : Calls Tryz.prog n_enthymemeref04_Match #[.agg #[.i r0_0, .int .u8 r0_1, .int .u8 r0_2, r0_3.v], .string s1] w R :=
  calls_of_WP' (R := R) (fn := Tryz.f19) (c := C0) (args := [.agg #[.i r0_0, .int .u8 r0_1, .int .u8 r0_2, r0_3.v], .string s1]) (by kernel_rfl) (by kernel_rfl) (by kernel_rfl) (sr C0 (show (fun (E : Env) (w : World) => srK Tryz.prog C0 (fun E w => srK Tryz.prog C1 (fun E w => srK Tryz.prog C3 (fun E w => condK (Env.val E (.tmp 10)) (srK Tryz.prog C5 (fun E w => retVC Tryz.prog Tryz.f19 E w (fun v => R (.returned v) w)) E w) (srK Tryz.prog C7 (fun E w => condK (Env.val E (.tmp 14)) (srK Tryz.prog C9 (fun E w => retVC Tryz.prog Tryz.f19 E w (fun v => R (.returned v) w)) E w) (srK Tryz.prog C10 (fun E w => retVC Tryz.prog Tryz.f19 E w (fun v => R (.returned v) w)) E w)) E w)) E w) E w) E w) (envOf 0 [.agg #[.i r0_0, .int .u8 r0_1, .int .u8 r0_2, r0_3.v], .string s1]) w from mp h) fun _ _ hK => (sr C1 hK fun _ _ hK => (sq C2 (sr C3 hK fun _ _ hK => (cn C4 hK (fun hK => (sr C5 hK fun _ _ hK => (rt C11 fun a hA => retVC_sound hA hK))) (fun hK => (sk C12 fun a hA => nx hA (sq C6 (sr C7 hK fun _ _ hK => (cn C8 hK (fun hK => (sr C9 hK fun _ _ hK => (rt C13 fun a hA => retVC_sound hA hK))) (fun hK => (sk C14 fun a hA => nx hA (sr C10 hK fun _ _ hK => (rt C15 fun a hA => retVC_sound hA hK))))))))))))))
theorem okT (r0_0 r0_1 r0_2 : Int) (r0_3 : Sl) (s1 : ByteArray) (w : World) (R : Post) (h : newV [] w fun b2 w1 => 
  cf0 [b2] n_enthymemeref04_Valid #[.agg #[.i r0_0, .int .u8 r0_1, .int .u8 r0_2, r0_3.v]] w1 fun t8 w2 => sel (t8 != 0) (R (.returned (.tuple #[.bool false, .i t8])) w2) (sel (decide (((s1.size : Nat) : Int) > 64)) (R (.returned (.tuple #[.bool false, .i 4])) w2) (cf1 [b2] n_enthymemeref04_match #[.agg #[.i r0_0, .int .u8 r0_1, .int .u8 r0_2, r0_3.v], .string s1] w2 fun t17 w3 => R (.returned (.tuple #[.bool t17, .i 0])) w3))) : Calls Tryz.prog n_enthymemeref04_Match #[.agg #[.i r0_0, .int .u8 r0_1, .int .u8 r0_2, r0_3.v], .string s1] w R :=
  ok _ _ _ _ _ w R (LC.nwT (LC.nil _) (Fr.refl _ _) h fun w1 H h => ⟨_, _, _, r0_3, H.ld 0 0, H.ld 0 1, H.ld 0 2, H.ld 0 3, LC.callT H h fun r_ w2 H h => let ⟨t8, hr, h⟩ := h; ⟨t8, hr, sel_imp h (fun h => h) (fun h => sel_imp h (fun h => h) (fun h => ⟨_, _, _, r0_3, H.ld 0 0, H.ld 0 1, H.ld 0 2, H.ld 0 3, LC.callT H h fun r_ w3 H h => let ⟨t17, hr, h⟩ := h; ⟨t17, hr, h⟩⟩))⟩⟩)
end enthymemeref04_Match
namespace enthymemeref04_Nullable
noncomputable def C0 : Code := (Tryz.f21.body).getD .skip
/-- enthymeme/enthymemeref04.Nullable -/
noncomputable def C1:=C0.sn
noncomputable def C2:=C1.sn
noncomputable def C3:=C2.fs
noncomputable def C4:=C3.sn
noncomputable def C5:=C4.fs
noncomputable def C6:=C2.sn
noncomputable def C7:=C5.sn
noncomputable def C8:=C4.sn
noncomputable def C9:=C6.sn
theorem ok (r0_0 r0_1 r0_2 : Int) (r0_3 : Sl) (w : World) (R : Post) (h : nwV w (.cells #[.i r0_0, .int .u8 r0_1, .int .u8 r0_2, r0_3.v] ty_enthymemeref04_Regex) fun w1 => 
  ld4_0 w1 (nb w) fun t5_0 t5_1 t5_2 t5_3 => ca0 n_enthymemeref04_Valid #[.agg #[.i t5_0, .int .u8 t5_1, .int .u8 t5_2, t5_3.v]] w1 fun t6 w2 => sel (t6 != 0) (R (.returned (.tuple #[.bool false, .i t6])) w2) (ld4_0 w2 (nb w) fun t10_0 t10_1 t10_2 t10_3 => ca1 n_enthymemeref04_match #[.agg #[.i t10_0, .int .u8 t10_1, .int .u8 t10_2, t10_3.v], .s0] w2 fun t11 w3 => R (.returned (.tuple #[.bool t11, .i 0])) w3)) : Calls Tryz.prog n_enthymemeref04_Nullable #[.agg #[.i r0_0, .int .u8 r0_1, .int .u8 r0_2, r0_3.v]] w R :=
  calls_of_WP' (R := R) (fn := Tryz.f21) (c := C0) (args := [.agg #[.i r0_0, .int .u8 r0_1, .int .u8 r0_2, r0_3.v]]) (by kernel_rfl) (by kernel_rfl) (by kernel_rfl) (sr C0 (show (fun (E : Env) (w : World) => srK Tryz.prog C0 (fun E w => srK Tryz.prog C1 (fun E w => srK Tryz.prog C3 (fun E w => condK (Env.val E (.tmp 8)) (srK Tryz.prog C5 (fun E w => retVC Tryz.prog Tryz.f21 E w (fun v => R (.returned v) w)) E w) (srK Tryz.prog C6 (fun E w => retVC Tryz.prog Tryz.f21 E w (fun v => R (.returned v) w)) E w)) E w) E w) E w) (envOf 0 [.agg #[.i r0_0, .int .u8 r0_1, .int .u8 r0_2, r0_3.v]]) w from mp h) fun _ _ hK => (sr C1 hK fun _ _ hK => (sq C2 (sr C3 hK fun _ _ hK => (cn C4 hK (fun hK => (sr C5 hK fun _ _ hK => (rt C7 fun a hA => retVC_sound hA hK))) (fun hK => (sk C8 fun a hA => nx hA (sr C6 hK fun _ _ hK => (rt C9 fun a hA => retVC_sound hA hK)))))))))
theorem okT (r0_0 r0_1 r0_2 : Int) (r0_3 : Sl) (w : World) (R : Post) (h : newV [] w fun b1 w1 => 
  cf0 [b1] n_enthymemeref04_Valid #[.agg #[.i r0_0, .int .u8 r0_1, .int .u8 r0_2, r0_3.v]] w1 fun t6 w2 => sel (t6 != 0) (R (.returned (.tuple #[.bool false, .i t6])) w2) (cf1 [b1] n_enthymemeref04_match #[.agg #[.i r0_0, .int .u8 r0_1, .int .u8 r0_2, r0_3.v], .s0] w2 fun t11 w3 => R (.returned (.tuple #[.bool t11, .i 0])) w3)) : Calls Tryz.prog n_enthymemeref04_Nullable #[.agg #[.i r0_0, .int .u8 r0_1, .int .u8 r0_2, r0_3.v]] w R :=
  ok _ _ _ _ w R (LC.nwT (LC.nil _) (Fr.refl _ _) h fun w1 H h => ⟨_, _, _, r0_3, H.ld 0 0, H.ld 0 1, H.ld 0 2, H.ld 0 3, LC.callT H h fun r_ w2 H h => let ⟨t6, hr, h⟩ := h; ⟨t6, hr, sel_imp h (fun h => h) (fun h => ⟨_, _, _, r0_3, H.ld 0 0, H.ld 0 1, H.ld 0 2, H.ld 0 3, LC.callT H h fun r_ w3 H h => let ⟨t11, hr, h⟩ := h; ⟨t11, hr, h⟩⟩)⟩⟩)
end enthymemeref04_Nullable
end Go.Proofs.YtknlbofiicflgaaGreat

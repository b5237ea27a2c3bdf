/- Printed by a program of ours (vcgen.py) from the dump: the conditions of the functions, and that they suffice. -/
import Derived.Test.YtknlbofiicflgaaGreatVC
import Derived.Test.YtknlbofiicflgaaGreatY
set_option linter.unusedVariables false
set_option maxRecDepth 100000
set_option maxHeartbeats 2000000
namespace Go.Proofs.YtknlbofiicflgaaGreat
open Go Go.W
namespace math_bits_Len64
noncomputable def C0 : Code := (Tryz.f102.body).getD .skip
noncomputable def C1:=C0.sn
noncomputable def C2:=C1.sn
noncomputable def C3:=C2.sn
noncomputable def C4:=C3.sn
abbrev Q0 (R : Post) : ExP := (bodyPost Tryz.prog Tryz.f102 R)
noncomputable def C5:=C4.sn
/-- bits.go:350 -/
abbrev S2 (x0 n2 : Int) (w : World) (R : Post) : Prop :=
  (0 : Int) ≤ (IntKind.wrap .u8 x0) ∧ ∃ t22_b : UInt8, (ByteArray.mk #[0, 1, 2, 2, 3, 3, 3, 3, 4, 4, 4, 4, 4, 4, 4, 4, 5, 5, 5, 5, 5, 5, 5, 5, 5, 5, 5, 5, 5, 5, 5, 5, 6, 6, 6, 6, 6, 6, 6, 6, 6, 6, 6, 6, 6, 6, 6, 6, 6, 6, 6, 6, 6, 6, 6, 6, 6, 6, 6, 6, 6, 6, 6, 6, 7, 7, 7, 7, 7, 7, 7, 7, 7, 7, 7, 7, 7, 7, 7, 7, 7, 7, 7, 7, 7, 7, 7, 7, 7, 7, 7, 7, 7, 7, 7, 7, 7, 7, 7, 7, 7, 7, 7, 7, 7, 7, 7, 7, 7, 7, 7, 7, 7, 7, 7, 7, 7, 7, 7, 7, 7, 7, 7, 7, 7, 7, 7, 7, 8, 8, 8, 8, 8, 8, 8, 8, 8, 8, 8, 8, 8, 8, 8, 8, 8, 8, 8, 8, 8, 8, 8, 8, 8, 8, 8, 8, 8, 8, 8, 8, 8, 8, 8, 8, 8, 8, 8, 8, 8, 8, 8, 8, 8, 8, 8, 8, 8, 8, 8, 8, 8, 8, 8, 8, 8, 8, 8, 8, 8, 8, 8, 8, 8, 8, 8, 8, 8, 8, 8, 8, 8, 8, 8, 8, 8, 8, 8, 8, 8, 8, 8, 8, 8, 8, 8, 8, 8, 8, 8, 8, 8, 8, 8, 8, 8, 8, 8, 8, 8, 8, 8, 8, 8, 8, 8, 8, 8, 8, 8, 8, 8, 8, 8, 8, 8, 8, 8, 8, 8, 8, 8, 8, 8, 8, 8, 8])[Int.toNat (IntKind.wrap .u8 x0)]? = some t22_b ∧ R (.returned (.i (IntKind.wrap .i64 (n2 + (IntKind.wrap .i64 ((t22_b.toNat : Nat) : Int)))))) w
def KE_S2 (E : Env) (w : World) (R : Post) : Prop := W.asInt .u64 (Env.get? E 0) fun x0 => W.asInt .i64 (Env.get? E 2) fun n2 => S2 x0 n2 w R
theorem KE_S2_ok : KOk Tryz.prog 25 KE_S2 C4 Q0 := by
  intro R E w h
  obtain ⟨x0, hq0, h_1⟩ := W.asInt_elim h
  obtain ⟨n2, hq2, h_2⟩ := W.asInt_elim h_1
  exact fun a ha => WP.at (E := [(0, .u x0), (2, .i n2)]) (sr C4 (K := fun E w => retVC Tryz.prog Tryz.f102 E w (fun v => R (.returned v) w)) (mp h_2) fun _ _ hK => (rt C5 fun a hA => retVC_sound hA hK)) (ha.cons hq0 (ha.cons hq2 ha.nil))
noncomputable def C6:=C3.fs
abbrev Q1 (R : Post) : ExP := (Exit.then (wpx Tryz.prog (cx 25) C4 (bodyPost Tryz.prog Tryz.f102 R)) (bodyPost Tryz.prog Tryz.f102 R))
noncomputable def C7:=C6.sn
noncomputable def C8:=C7.fs
noncomputable def C9:=C8.sn
noncomputable def C10:=C7.sn
/-- bits.go:346 -/
abbrev S1 (x0 n2 : Int) (w : World) (R : Post) : Prop :=
  sel (decide (x0 ≥ 256)) (S2 (Int.fdiv x0 (2 ^ (8))) (IntKind.wrap .i64 (n2 + 8)) w R) (S2 x0 n2 w R)
def KE_S1 (E : Env) (w : World) (R : Post) : Prop := W.asInt .u64 (Env.get? E 0) fun x0 => W.asInt .i64 (Env.get? E 2) fun n2 => S1 x0 n2 w R
theorem KE_S1_ok : KOk Tryz.prog 25 KE_S1 C6 Q1 := by
  intro R E w h
  obtain ⟨x0, hq0, h_1⟩ := W.asInt_elim h
  obtain ⟨n2, hq2, h_2⟩ := W.asInt_elim h_1
  exact fun a ha => WP.at (E := [(0, .u x0), (2, .i n2)]) (sr C6 (K := fun E w => condK (Env.val E (.tmp 14)) (srK Tryz.prog C8 (fun E w => rgK Tryz.prog C9 (fun E w => KE_S2 E w R) E w) E w) (KE_S2 E w R)) (mp h_2) fun _ _ hK => (cn C7 hK (fun hK => (sr C8 hK fun _ _ hK => (rg C9 (by kernel_rfl) hK fun _ _ a hA hK => nx hA (KE_S2_ok R _ _ hK)))) (fun hK => (sk C10 fun a hA => nx hA (KE_S2_ok R _ _ hK))))) (ha.cons hq0 (ha.cons hq2 ha.nil))
noncomputable def C11:=C2.fs
abbrev Q2 (R : Post) : ExP := (Exit.then (wpx Tryz.prog (cx 25) C3 (bodyPost Tryz.prog Tryz.f102 R)) (bodyPost Tryz.prog Tryz.f102 R))
noncomputable def C12:=C11.sn
noncomputable def C13:=C12.fs
noncomputable def C14:=C13.sn
noncomputable def C15:=C12.sn
/-- bits.go:342 -/
abbrev S0 (x0 n2 : Int) (w : World) (R : Post) : Prop :=
  sel (decide (x0 ≥ 65536)) (S1 (Int.fdiv x0 (2 ^ (16))) (IntKind.wrap .i64 (n2 + 16)) w R) (S1 x0 n2 w R)
def KE_S0 (E : Env) (w : World) (R : Post) : Prop := W.asInt .u64 (Env.get? E 0) fun x0 => W.asInt .i64 (Env.get? E 2) fun n2 => S0 x0 n2 w R
theorem KE_S0_ok : KOk Tryz.prog 25 KE_S0 C11 Q2 := by
  intro R E w h
  obtain ⟨x0, hq0, h_1⟩ := W.asInt_elim h
  obtain ⟨n2, hq2, h_2⟩ := W.asInt_elim h_1
  exact fun a ha => WP.at (E := [(0, .u x0), (2, .i n2)]) (sr C11 (K := fun E w => condK (Env.val E (.tmp 8)) (srK Tryz.prog C13 (fun E w => rgK Tryz.prog C14 (fun E w => KE_S1 E w R) E w) E w) (KE_S1 E w R)) (mp h_2) fun _ _ hK => (cn C12 hK (fun hK => (sr C13 hK fun _ _ hK => (rg C14 (by kernel_rfl) hK fun _ _ a hA hK => nx hA (sq C3 (KE_S1_ok R _ _ hK))))) (fun hK => (sk C15 fun a hA => nx hA (sq C3 (KE_S1_ok R _ _ hK)))))) (ha.cons hq0 (ha.cons hq2 ha.nil))
/-- math/bits.Len64 -/
noncomputable def C16:=C1.fs
noncomputable def C17:=C16.sn
noncomputable def C18:=C17.fs
noncomputable def C19:=C18.sn
noncomputable def C20:=C17.sn
theorem ok (x0 : Int) (w : World) (R : Post) (h : sel (decide (x0 ≥ 4294967296)) (S0 (Int.fdiv x0 (2 ^ (32))) 32 w R) (S0 x0 0 w R)) : Calls Tryz.prog n_math_bits_Len64 #[.u x0] w R :=
  calls_of_WP' (R := R) (fn := Tryz.f102) (c := C0) (args := [.u x0]) (by kernel_rfl) (by kernel_rfl) (by kernel_rfl) (sr C0 (show (fun (E : Env) (w : World) => srK Tryz.prog C0 (fun E w => srK Tryz.prog C16 (fun E w => condK (Env.val E (.tmp 4)) (srK Tryz.prog C18 (fun E w => rgK Tryz.prog C19 (fun E w => KE_S0 E w R) E w) E w) (KE_S0 E w R)) E w) E w) (envOf 0 [.u x0]) w from mp h) fun _ _ hK => (sq C1 (sr C16 hK fun _ _ hK => (cn C17 hK (fun hK => (sr C18 hK fun _ _ hK => (rg C19 (by kernel_rfl) hK fun _ _ a hA hK => nx hA (sq C2 (KE_S0_ok R _ _ hK))))) (fun hK => (sk C20 fun a hA => nx hA (sq C2 (KE_S0_ok R _ _ hK))))))))
end math_bits_Len64
namespace math_bits_Len
noncomputable def C0 : Code := (Tryz.f80.body).getD .skip
/-- math/bits.Len -/
noncomputable def C1:=C0.sn
noncomputable def C2:=C1.sn
noncomputable def C3:=C1.fs
noncomputable def C4:=C3.fs
noncomputable def C5:=C3.sn
noncomputable def C6:=C2.sn
theorem ok (x0 : Int) (w : World) (R : Post) (h : ca0 n_math_bits_Len64 #[.u x0] w fun t7 w1 => R (.returned (.i t7)) w1) : Calls Tryz.prog n_math_bits_Len #[.u x0] w R :=
  calls_of_WP' (R := R) (fn := Tryz.f80) (c := C0) (args := [.u x0]) (by kernel_rfl) (by kernel_rfl) (by kernel_rfl) (sr C0 (show (fun (E : Env) (w : World) => srK Tryz.prog C0 (fun E w => condK (Env.val E (.const (.bool false))) (False) (srK Tryz.prog C2 (fun E w => retVC Tryz.prog Tryz.f80 E w (fun v => R (.returned v) w)) E w)) E w) (envOf 0 [.u x0]) w from mp h) fun _ _ hK => (sq C1 (cn C3 hK (fun hK => (False.elim hK)) (fun hK => (sk C5 fun a hA => nx hA (sr C2 hK fun _ _ hK => (rt C6 fun a hA => retVC_sound hA hK)))))))
end math_bits_Len
namespace slices_insertionSortCmpFunc_regex_Regex
noncomputable def C0 : Code := (Tryz.f93.body).getD .skip
noncomputable def C1:=C0.sn
noncomputable def C2:=C1.fs
noncomputable def C3:=C2.fs
abbrev Q0 (R : Post) : ExP := (bodyPost Tryz.prog Tryz.f93 R)
abbrev Q1 (R : Post) : ExP := (Exit.inBlock 0 (Q0 R))
/-- the head of the loop, zsortanyfunc.go:11 -/
def L0 (data0 : Sl) (a1 b2 i8 : Int) (w : World) (R : Post) : Prop := LP Tryz.prog (cx 53) C3 (Q1 R) [(0, data0.v), (1, .i a1), (2, .i b2), (3, .func (.func n_regex_Compare) #[] #[]), (8, .i i8)] w
def KE_L0 (E : Env) (w : World) (R : Post) : Prop := W.asSlice (Env.get? E 0) fun data0 => W.asInt .i64 (Env.get? E 1) fun a1 => W.asInt .i64 (Env.get? E 2) fun b2 => W.asFunc n_regex_Compare (Env.get? E 3) fun cmp3_lf0 cmp3_lc0 => W.asNil cmp3_lf0 <| W.asNil cmp3_lc0 <| W.asInt .i64 (Env.get? E 8) fun i8 => L0 data0 a1 b2 i8 w R
theorem KE_L0_ok : LOk Tryz.prog 53 KE_L0 C3 Q1 := by
  intro R E w h
  obtain ⟨data0, hq0, h_1⟩ := W.asSlice_elim h
  obtain ⟨a1, hq1, h_2⟩ := W.asInt_elim h_1
  obtain ⟨b2, hq2, h_3⟩ := W.asInt_elim h_2
  obtain ⟨cmp3_lf0, cmp3_lc0, hq3, h_4⟩ := W.asFunc_elim h_3
  obtain ⟨rfl, h_5⟩ := W.asNil_elim h_4
  obtain ⟨rfl, h_6⟩ := W.asNil_elim h_5
  obtain ⟨i8, hq8, h_7⟩ := W.asInt_elim h_6
  intro a ha
  exact h_7 a (ha.cons hq0 (ha.cons hq1 (ha.cons hq2 (ha.cons hq3 (ha.cons hq8 ha.nil)))))
noncomputable def C4:=C3.sn
noncomputable def C5:=C4.fs
noncomputable def C6:=C5.fs
noncomputable def C7:=C6.sn
noncomputable def C8:=C7.fs
noncomputable def C9:=C8.fs
noncomputable def C10:=C4.sn
abbrev Q2 (R : Post) : ExP := (Exit.then (wpx Tryz.prog (cx 53) C10 (Exit.then (LoopWP Tryz.prog (cx 53) C3 (Q1 R)) (Q1 R))) (Exit.then (LoopWP Tryz.prog (cx 53) C3 (Q1 R)) (Q1 R)))
abbrev Q3 (R : Post) : ExP := (Exit.inBlock 1 (Q2 R))
abbrev Q4 (R : Post) : ExP := (Exit.inBlock 2 (Q3 R))
/-- the head of the loop, zsortanyfunc.go:12 -/
def L1 (data0 : Sl) (a1 b2 i8 j9 : Int) (w : World) (R : Post) : Prop := LP Tryz.prog (cx 53) C9 (Q4 R) [(0, data0.v), (1, .i a1), (2, .i b2), (3, .func (.func n_regex_Compare) #[] #[]), (8, .i i8), (9, .i j9)] w
def KE_L1 (E : Env) (w : World) (R : Post) : Prop := W.asSlice (Env.get? E 0) fun data0 => W.asInt .i64 (Env.get? E 1) fun a1 => W.asInt .i64 (Env.get? E 2) fun b2 => W.asFunc n_regex_Compare (Env.get? E 3) fun cmp3_lf0 cmp3_lc0 => W.asNil cmp3_lf0 <| W.asNil cmp3_lc0 <| W.asInt .i64 (Env.get? E 8) fun i8 => W.asInt .i64 (Env.get? E 9) fun j9 => L1 data0 a1 b2 i8 j9 w R
theorem KE_L1_ok : LOk Tryz.prog 53 KE_L1 C9 Q4 := by
  intro R E w h
  obtain ⟨data0, hq0, h_1⟩ := W.asSlice_elim h
  obtain ⟨a1, hq1, h_2⟩ := W.asInt_elim h_1
  obtain ⟨b2, hq2, h_3⟩ := W.asInt_elim h_2
  obtain ⟨cmp3_lf0, cmp3_lc0, hq3, h_4⟩ := W.asFunc_elim h_3
  obtain ⟨rfl, h_5⟩ := W.asNil_elim h_4
  obtain ⟨rfl, h_6⟩ := W.asNil_elim h_5
  obtain ⟨i8, hq8, h_7⟩ := W.asInt_elim h_6
  obtain ⟨j9, hq9, h_8⟩ := W.asInt_elim h_7
  intro a ha
  exact h_8 a (ha.cons hq0 (ha.cons hq1 (ha.cons hq2 (ha.cons hq3 (ha.cons hq8 (ha.cons hq9 ha.nil))))))
abbrev Q5 (R : Post) : ExP := (Exit.then (LoopWP Tryz.prog (cx 53) C3 (Q1 R)) (Q1 R))
/-- zsortanyfunc.go:11 -/
abbrev S2 (data0 : Sl) (a1 b2 i8 : Int) (w : World) (R : Post) : Prop :=
  L0 data0 a1 b2 (IntKind.wrap .i64 (i8 + 1)) w R
def KE_S2 (E : Env) (w : World) (R : Post) : Prop := W.asSlice (Env.get? E 0) fun data0 => W.asInt .i64 (Env.get? E 1) fun a1 => W.asInt .i64 (Env.get? E 2) fun b2 => W.asFunc n_regex_Compare (Env.get? E 3) fun cmp3_lf0 cmp3_lc0 => W.asNil cmp3_lf0 <| W.asNil cmp3_lc0 <| W.asInt .i64 (Env.get? E 8) fun i8 => S2 data0 a1 b2 i8 w R
theorem KE_S2_ok : KOk Tryz.prog 53 KE_S2 C10 Q5 := by
  intro R E w h
  obtain ⟨data0, hq0, h_1⟩ := W.asSlice_elim h
  obtain ⟨a1, hq1, h_2⟩ := W.asInt_elim h_1
  obtain ⟨b2, hq2, h_3⟩ := W.asInt_elim h_2
  obtain ⟨cmp3_lf0, cmp3_lc0, hq3, h_4⟩ := W.asFunc_elim h_3
  obtain ⟨rfl, h_5⟩ := W.asNil_elim h_4
  obtain ⟨rfl, h_6⟩ := W.asNil_elim h_5
  obtain ⟨i8, hq8, h_7⟩ := W.asInt_elim h_6
  exact fun a ha => WP.at (E := [(0, data0.v), (1, .i a1), (2, .i b2), (3, .func (.func n_regex_Compare) #[] #[]), (8, .i i8)]) (rg C10 (K := fun E w => KE_L0 E w R) (by kernel_rfl) (mp h_7) fun _ _ a hA hK => KE_L0_ok R _ _ hK a hA) (ha.cons hq0 (ha.cons hq1 (ha.cons hq2 (ha.cons hq3 (ha.cons hq8 ha.nil)))))
noncomputable def C11:=C9.fs
noncomputable def C12:=C9.sn
noncomputable def C13:=C12.fs
noncomputable def C14:=C13.fs
noncomputable def C15:=C12.sn
noncomputable def C16:=C11.sn
noncomputable def C17:=C16.fs
noncomputable def C18:=C16.sn
theorem L1_step (data0 : Sl) (a1 b2 i8 j9 : Int) (w : World) (R : Post) (h : drV w fun w1 => sel (decide (j9 > a1)) ((0 : Int) ≤ j9 ∧ j9 < ((data0.n : Nat) : Int) ∧ optP data0.a fun t25_p => ld4_0 w1 (t25_p.add (Int.toNat j9 * 4)) fun t26_0 t26_1 t26_2 t26_3 => (0 : Int) ≤ (IntKind.wrap .i64 (j9 - 1)) ∧ (IntKind.wrap .i64 (j9 - 1)) < ((data0.n : Nat) : Int) ∧ optP data0.a fun t30_p => ld4_0 w1 (t30_p.add (Int.toNat (IntKind.wrap .i64 (j9 - 1)) * 4)) fun t31_0 t31_1 t31_2 t31_3 => ca0 n_regex_Compare #[.agg #[.i t26_0, .int .u8 t26_1, .int .u8 t26_2, t26_3.v], .agg #[.i t31_0, .int .u8 t31_1, .int .u8 t31_2, t31_3.v]] w1 fun t32 w2 => sel (decide (t32 < 0)) (drV w2 fun w3 => (0 : Int) ≤ (IntKind.wrap .i64 (j9 - 1)) ∧ (IntKind.wrap .i64 (j9 - 1)) < ((data0.n : Nat) : Int) ∧ optP data0.a fun t45_p => ld4_0 w3 (t45_p.add (Int.toNat (IntKind.wrap .i64 (j9 - 1)) * 4)) fun t46_0 t46_1 t46_2 t46_3 => (0 : Int) ≤ j9 ∧ j9 < ((data0.n : Nat) : Int) ∧ optP data0.a fun t49_p => ld4_0 w3 (t49_p.add (Int.toNat j9 * 4)) fun t50_0 t50_1 t50_2 t50_3 => (0 : Int) ≤ j9 ∧ j9 < ((data0.n : Nat) : Int) ∧ optP data0.a fun t51_p => stW4 w3 (t51_p.add (Int.toNat j9 * 4)) (.i t46_0) (.int .u8 t46_1) (.int .u8 t46_2) (t46_3.v) fun w7 => (0 : Int) ≤ (IntKind.wrap .i64 (j9 - 1)) ∧ (IntKind.wrap .i64 (j9 - 1)) < ((data0.n : Nat) : Int) ∧ optP data0.a fun t52_p => stW4 w7 (t52_p.add (Int.toNat (IntKind.wrap .i64 (j9 - 1)) * 4)) (.i t50_0) (.int .u8 t50_1) (.int .u8 t50_2) (t50_3.v) fun w11 => L1 data0 a1 b2 i8 (IntKind.wrap .i64 (j9 - 1)) w11 R) (S2 data0 a1 b2 i8 w2 R)) (S2 data0 a1 b2 i8 w1 R)) : L1 data0 a1 b2 i8 j9 w R :=
  LP.step (n := (cx 53)) (c := C9) (E := [(0, data0.v), (1, .i a1), (2, .i b2), (3, .func (.func n_regex_Compare) #[] #[]), (8, .i i8), (9, .i j9)]) (w := w) (sq C9 (sd C11 (by kernel_rfl) (show (fun (E : Env) (w : World) => sdK Tryz.prog C11 [0, 1, 2, 3, 4, 5, 6, 7, 8, 9, 10, 11, 12, 13, 14, 15, 16] (fun E w => condK (Env.val E (.tmp 34)) (dgK Tryz.prog C14 [0, 1, 2, 3, 4, 5, 6, 7, 8, 9, 10, 11, 12, 13, 14, 15, 16, 17] (fun E w => rgK Tryz.prog C15 (fun E w => KE_L1 E w R) E w) E w) (KE_S2 E w R)) E w) [(0, data0.v), (1, .i a1), (2, .i b2), (3, .func (.func n_regex_Compare) #[] #[]), (8, .i i8), (9, .i j9)] w from mp h) fun _ _ hK => (cn C16 hK (fun hK => (sk C17 fun a hA => nx hA (sq C12 (bk C13 3 (by kernel_rfl) (dg C14 (by kernel_rfl) hK fun _ _ a hA hK => nx hA (rg C15 (by kernel_rfl) hK fun _ _ a hA hK => KE_L1_ok R _ _ hK a hA)))))) (fun hK => (xt C18 2 (by kernel_rfl) fun a hA => nx hA (KE_S2_ok R _ _ hK))))))
noncomputable def C19:=C3.fs
noncomputable def C20:=C19.sn
noncomputable def C21:=C20.fs
noncomputable def C22:=C20.sn
theorem L0_step (data0 : Sl) (a1 b2 i8 : Int) (w : World) (R : Post) (h : sel (decide (i8 < b2)) (L1 data0 a1 b2 i8 i8 w R) (R (.returned (.tuple #[])) w)) : L0 data0 a1 b2 i8 w R :=
  LP.step (n := (cx 53)) (c := C3) (E := [(0, data0.v), (1, .i a1), (2, .i b2), (3, .func (.func n_regex_Compare) #[] #[]), (8, .i i8)]) (w := w) (sq C3 (sr C19 (show (fun (E : Env) (w : World) => srK Tryz.prog C19 (fun E w => condK (Env.val E (.tmp 14)) (srK Tryz.prog C6 (fun E w => KE_L1 E w R) E w) (retVC Tryz.prog Tryz.f93 E w (fun v => R (.returned v) w))) E w) [(0, data0.v), (1, .i a1), (2, .i b2), (3, .func (.func n_regex_Compare) #[] #[]), (8, .i i8)] w from mp h) fun _ _ hK => (cn C20 hK (fun hK => (sk C21 fun a hA => nx hA (sq C4 (bk C5 1 (by kernel_rfl) (sr C6 hK fun _ _ hK => (bk C7 2 (by kernel_rfl) (lp C8 (by kernel_rfl) (KE_L1_ok R _ _ hK)))))))) (fun hK => (xt C22 0 (by kernel_rfl) fun a hA => retVC_sound hA hK)))))
/-- slices.insertionSortCmpFunc[enthymeme/regex.Regex] -/
theorem ok (data0 : Sl) (a1 b2 : Int) (w : World) (R : Post) (h : L0 data0 a1 b2 (IntKind.wrap .i64 (a1 + 1)) w R) : Calls Tryz.prog n_slices_insertionSortCmpFunc_regex_Regex #[data0.v, .i a1, .i b2, .func (.func n_regex_Compare) #[] #[]] w R :=
  calls_of_WP' (R := R) (fn := Tryz.f93) (c := C0) (args := [data0.v, .i a1, .i b2, .func (.func n_regex_Compare) #[] #[]]) (by kernel_rfl) (by kernel_rfl) (by kernel_rfl) (sr C0 (show (fun (E : Env) (w : World) => srK Tryz.prog C0 (fun E w => KE_L0 E w R) E w) (envOf 0 [data0.v, .i a1, .i b2, .func (.func n_regex_Compare) #[] #[]]) w from mp h) fun _ _ hK => (bk C1 0 (by kernel_rfl) (lp C2 (by kernel_rfl) (KE_L0_ok R _ _ hK))))
end slices_insertionSortCmpFunc_regex_Regex
namespace slices_pdqsortCmpFunc_regex_Regex
noncomputable def C0 : Code := (Tryz.f79.body).getD .skip
noncomputable def C1:=C0.sn
noncomputable def C2:=C1.sn
noncomputable def C3:=C2.fs
noncomputable def C4:=C3.fs
abbrev Q0 (R : Post) : ExP := (bodyPost Tryz.prog Tryz.f79 R)
abbrev Q1 (R : Post) : ExP := (Exit.inBlock 0 (Q0 R))
/-- the head of the loop, zsortanyfunc.go:70 -/
def L0 (data0 : Sl) (a1 b2 limit3 : Int) (wasBalanced10 wasPartitioned11 : Bool) (w : World) (R : Post) : Prop := LP Tryz.prog (cx 148) C4 (Q1 R) [(0, data0.v), (1, .i a1), (2, .i b2), (3, .i limit3), (4, .func (.func n_regex_Compare) #[] #[]), (10, .bool wasBalanced10), (11, .bool wasPartitioned11)] w
def KE_L0 (E : Env) (w : World) (R : Post) : Prop := W.asSlice (Env.get? E 0) fun data0 => W.asInt .i64 (Env.get? E 1) fun a1 => W.asInt .i64 (Env.get? E 2) fun b2 => W.asInt .i64 (Env.get? E 3) fun limit3 => W.asFunc n_regex_Compare (Env.get? E 4) fun cmp4_lf0 cmp4_lc0 => W.asNil cmp4_lf0 <| W.asNil cmp4_lc0 <| W.asBool' (Env.get? E 10) fun wasBalanced10 => W.asBool' (Env.get? E 11) fun wasPartitioned11 => L0 data0 a1 b2 limit3 wasBalanced10 wasPartitioned11 w R
theorem KE_L0_ok : LOk Tryz.prog 148 KE_L0 C4 Q1 := by
  intro R E w h
  obtain ⟨data0, hq0, h_1⟩ := W.asSlice_elim h
  obtain ⟨a1, hq1, h_2⟩ := W.asInt_elim h_1
  obtain ⟨b2, hq2, h_3⟩ := W.asInt_elim h_2
  obtain ⟨limit3, hq3, h_4⟩ := W.asInt_elim h_3
  obtain ⟨cmp4_lf0, cmp4_lc0, hq4, h_5⟩ := W.asFunc_elim h_4
  obtain ⟨rfl, h_6⟩ := W.asNil_elim h_5
  obtain ⟨rfl, h_7⟩ := W.asNil_elim h_6
  obtain ⟨wasBalanced10, hq10, h_8⟩ := W.asBool_elim h_7
  obtain ⟨wasPartitioned11, hq11, h_9⟩ := W.asBool_elim h_8
  intro a ha
  exact h_9 a (ha.cons hq0 (ha.cons hq1 (ha.cons hq2 (ha.cons hq3 (ha.cons hq4 (ha.cons hq10 (ha.cons hq11 ha.nil)))))))
noncomputable def C5:=C4.fs
noncomputable def C6:=C5.sn
noncomputable def C7:=C6.fs
abbrev Q2 (R : Post) : ExP := (Exit.then (LoopWP Tryz.prog (cx 148) C4 (Q1 R)) (Q1 R))
noncomputable def C8:=C6.sn
abbrev Q3 (R : Post) : ExP := (Exit.then (wpx Tryz.prog (cx 148) C8 (Exit.inBlock 1 (Q2 R))) (Exit.inBlock 1 (Q2 R)))
noncomputable def C9:=C7.sn
noncomputable def C10:=C9.fs
noncomputable def C11:=C10.sn
noncomputable def C12:=C9.sn
noncomputable def C13:=C8.fs
/-- zsortanyfunc.go:72 -/
abbrev S1 (data0 : Sl) (a1 b2 limit3 : Int) (wasBalanced10 wasPartitioned11 : Bool) (length12 : Int) (w : World) (R : Post) : Prop :=
  sel (decide (length12 ≤ 12)) (ca4 n_slices_insertionSortCmpFunc_regex_Regex #[data0.v, .i a1, .i b2, .func (.func n_regex_Compare) #[] #[]] w fun w1 => R (.returned (.tuple #[])) w1) (False)
def KE_S1 (E : Env) (w : World) (R : Post) : Prop := W.asSlice (Env.get? E 0) fun data0 => W.asInt .i64 (Env.get? E 1) fun a1 => W.asInt .i64 (Env.get? E 2) fun b2 => W.asInt .i64 (Env.get? E 3) fun limit3 => W.asFunc n_regex_Compare (Env.get? E 4) fun cmp4_lf0 cmp4_lc0 => W.asNil cmp4_lf0 <| W.asNil cmp4_lc0 <| W.asBool' (Env.get? E 10) fun wasBalanced10 => W.asBool' (Env.get? E 11) fun wasPartitioned11 => W.asInt .i64 (Env.get? E 12) fun length12 => S1 data0 a1 b2 limit3 wasBalanced10 wasPartitioned11 length12 w R
theorem KE_S1_ok : KOk Tryz.prog 148 KE_S1 C7 Q3 := by
  intro R E w h
  obtain ⟨data0, hq0, h_1⟩ := W.asSlice_elim h
  obtain ⟨a1, hq1, h_2⟩ := W.asInt_elim h_1
  obtain ⟨b2, hq2, h_3⟩ := W.asInt_elim h_2
  obtain ⟨limit3, hq3, h_4⟩ := W.asInt_elim h_3
  obtain ⟨cmp4_lf0, cmp4_lc0, hq4, h_5⟩ := W.asFunc_elim h_4
  obtain ⟨rfl, h_6⟩ := W.asNil_elim h_5
  obtain ⟨rfl, h_7⟩ := W.asNil_elim h_6
  obtain ⟨wasBalanced10, hq10, h_8⟩ := W.asBool_elim h_7
  obtain ⟨wasPartitioned11, hq11, h_9⟩ := W.asBool_elim h_8
  obtain ⟨length12, hq12, h_10⟩ := W.asInt_elim h_9
  exact fun a ha => WP.at (E := [(0, data0.v), (1, .i a1), (2, .i b2), (3, .i limit3), (4, .func (.func n_regex_Compare) #[] #[]), (10, .bool wasBalanced10), (11, .bool wasPartitioned11), (12, .i length12)]) (sr C7 (K := fun E w => condK (Env.val E (.tmp 25)) (srK Tryz.prog C10 (fun E w => retVC Tryz.prog Tryz.f79 E w (fun v => R (.returned v) w)) E w) (False)) (mp h_10) fun _ _ hK => (cn C9 hK (fun hK => (sr C10 hK fun _ _ hK => (rt C11 fun a hA => retVC_sound hA hK))) (fun hK => (sk C12 fun a hA => nx hA (sq C8 (False.elim hK)))))) (ha.cons hq0 (ha.cons hq1 (ha.cons hq2 (ha.cons hq3 (ha.cons hq4 (ha.cons hq10 (ha.cons hq11 (ha.cons hq12 ha.nil))))))))
theorem L0_step (data0 : Sl) (a1 b2 limit3 : Int) (wasBalanced10 wasPartitioned11 : Bool) (w : World) (R : Post) (h : S1 data0 a1 b2 limit3 wasBalanced10 wasPartitioned11 (IntKind.wrap .i64 (b2 - a1)) w R) : L0 data0 a1 b2 limit3 wasBalanced10 wasPartitioned11 w R :=
  LP.step (n := (cx 148)) (c := C4) (E := [(0, data0.v), (1, .i a1), (2, .i b2), (3, .i limit3), (4, .func (.func n_regex_Compare) #[] #[]), (10, .bool wasBalanced10), (11, .bool wasPartitioned11)]) (w := w) (bk C4 1 (by kernel_rfl) (sr C5 (show (fun (E : Env) (w : World) => srK Tryz.prog C5 (fun E w => KE_S1 E w R) E w) [(0, data0.v), (1, .i a1), (2, .i b2), (3, .i limit3), (4, .func (.func n_regex_Compare) #[] #[]), (10, .bool wasBalanced10), (11, .bool wasPartitioned11)] w from mp h) fun _ _ hK => (sq C6 (KE_S1_ok R _ _ hK))))
/-- slices.pdqsortCmpFunc[enthymeme/regex.Regex] -/
theorem ok (data0 : Sl) (a1 b2 limit3 : Int) (w : World) (R : Post) (h : L0 data0 a1 b2 limit3 true true w R) : Calls Tryz.prog n_slices_pdqsortCmpFunc_regex_Regex #[data0.v, .i a1, .i b2, .i limit3, .func (.func n_regex_Compare) #[] #[]] w R :=
  calls_of_WP' (R := R) (fn := Tryz.f79) (c := C0) (args := [data0.v, .i a1, .i b2, .i limit3, .func (.func n_regex_Compare) #[] #[]]) (by kernel_rfl) (by kernel_rfl) (by kernel_rfl) (sr C0 (show (fun (E : Env) (w : World) => srK Tryz.prog C0 (fun E w => srK Tryz.prog C1 (fun E w => KE_L0 E w R) E w) E w) (envOf 0 [data0.v, .i a1, .i b2, .i limit3, .func (.func n_regex_Compare) #[] #[]]) w from mp h) fun _ _ hK => (sr C1 hK fun _ _ hK => (bk C2 0 (by kernel_rfl) (lp C3 (by kernel_rfl) (KE_L0_ok R _ _ hK)))))
end slices_pdqsortCmpFunc_regex_Regex
namespace slices_SortFunc_sl_regex_Regex_regex_Regex
noncomputable def C0 : Code := (Tryz.f51.body).getD .skip
/-- slices.SortFunc[[]enthymeme/regex.Regex,enthymeme/regex.Regex] -/
noncomputable def C1:=C0.sn
theorem ok (x0 : Sl) (w : World) (R : Post) (h : ca0 n_math_bits_Len #[.u (IntKind.wrap .u64 ((x0.n : Nat) : Int))] w fun t11 w1 => ca4 n_slices_pdqsortCmpFunc_regex_Regex #[x0.v, .i 0, .i ((x0.n : Nat) : Int), .i t11, .func (.func n_regex_Compare) #[] #[]] w1 fun w2 => R (.returned (.tuple #[])) w2) : Calls Tryz.prog n_slices_SortFunc_sl_regex_Regex_regex_Regex #[x0.v, .func (.func n_regex_Compare) #[] #[]] w R :=
  calls_of_WP' (R := R) (fn := Tryz.f51) (c := C0) (args := [x0.v, .func (.func n_regex_Compare) #[] #[]]) (by kernel_rfl) (by kernel_rfl) (by kernel_rfl) (sr C0 (show (fun (E : Env) (w : World) => srK Tryz.prog C0 (fun E w => rgK Tryz.prog C1 (fun E w => retVC Tryz.prog Tryz.f51 E w (fun v => R (.returned v) w)) E w) E w) (envOf 0 [x0.v, .func (.func n_regex_Compare) #[] #[]]) w from mp h) fun _ _ hK => (rg C1 (by kernel_rfl) hK fun _ _ a hA hK => retVC_sound hA hK))
end slices_SortFunc_sl_regex_Regex_regex_Regex
end Go.Proofs.YtknlbofiicflgaaGreat

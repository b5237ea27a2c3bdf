/- Printed by a program of ours (vcgen.py) from the dump: the conditions of the functions, and that they suffice. -/
import Derived.Test.YtknlbofiicflgaaGreatVD
import Derived.Test.YtknlbofiicflgaaGreatY
set_option linter.unusedVariables false
set_option maxRecDepth 100000
set_option maxHeartbeats 2000000
namespace Go.Proofs.YtknlbofiicflgaaGreat
open Go Go.W
namespace regex_flat_1
noncomputable def C0 : Code := (Tryz.f77.body).getD .skip
/-- enthymeme/regex.flat$1 -/
noncomputable def C1:=C0.sn
noncomputable def C2:=C1.sn
theorem ok (k0_0 k0_1 k0_2 : Int) (k0_3 : Sl) (t1 : Addr) (w : World) (R : Post) (h : nwV w (.cells #[.i k0_0, .int .u8 k0_1, .int .u8 k0_2, k0_3.v] ty_regex_Regex) fun w1 => 
  ld4_0 w1 (nb w) fun t4_0 t4_1 t4_2 t4_3 => ld4_0 w1 t1 fun t5_0 t5_1 t5_2 t5_3 => ca1 n_regex_equal #[.agg #[.i t4_0, .int .u8 t4_1, .int .u8 t4_2, t4_3.v], .agg #[.i t5_0, .int .u8 t5_1, .int .u8 t5_2, t5_3.v]] w1 fun t6 w2 => R (.returned (.bool t6)) w2) : Calls Tryz.prog n_regex_flat_1 #[.agg #[.i k0_0, .int .u8 k0_1, .int .u8 k0_2, k0_3.v], .pointer (some t1)] w R :=
  calls_of_WP' (R := R) (fn := Tryz.f77) (c := C0) (args := [.agg #[.i k0_0, .int .u8 k0_1, .int .u8 k0_2, k0_3.v], .pointer (some t1)]) (by kernel_rfl) (by kernel_rfl) (by kernel_rfl) (sr C0 (show (fun (E : Env) (w : World) => srK Tryz.prog C0 (fun E w => srK Tryz.prog C1 (fun E w => retVC Tryz.prog Tryz.f77 E w (fun v => R (.returned v) w)) E w) E w) (envOf 0 [.agg #[.i k0_0, .int .u8 k0_1, .int .u8 k0_2, k0_3.v], .pointer (some t1)]) w from mp h) fun _ _ hK => (sr C1 hK fun _ _ hK => (rt C2 fun a hA => retVC_sound hA hK)))
theorem okT (k0_0 k0_1 k0_2 : Int) (k0_3 : Sl) (t1 : Addr) (w : World) (R : Post) (h : newV [] w fun b2 w1 => 
  ld4_0 w1 t1 fun t5_0 t5_1 t5_2 t5_3 => cf1 [b2] n_regex_equal #[.agg #[.i k0_0, .int .u8 k0_1, .int .u8 k0_2, k0_3.v], .agg #[.i t5_0, .int .u8 t5_1, .int .u8 t5_2, t5_3.v]] w1 fun t6 w2 => R (.returned (.bool t6)) w2) : Calls Tryz.prog n_regex_flat_1 #[.agg #[.i k0_0, .int .u8 k0_1, .int .u8 k0_2, k0_3.v], .pointer (some t1)] w R :=
  ok _ _ _ _ _ w R (LC.nwT (LC.nil _) (Fr.refl _ _) h fun w1 H h => ⟨_, _, _, k0_3, H.ld 0 0, H.ld 0 1, H.ld 0 2, H.ld 0 3, let ⟨t5_0, t5_1, t5_2, t5_3, hc0, hc1, hc2, hc3, h⟩ := h; ⟨t5_0, t5_1, t5_2, t5_3, hc0, hc1, hc2, hc3, LC.callT H h fun r_ w2 H h => let ⟨t6, hr, h⟩ := h; ⟨t6, hr, h⟩⟩⟩)
end regex_flat_1
namespace slices_IndexFunc_sl_regex_Regex_regex_Regex
noncomputable def C0 : Code := (Tryz.f78.body).getD .skip
noncomputable def C1:=C0.sn
noncomputable def C2:=C1.fs
noncomputable def C3:=C2.sn
noncomputable def C4:=C3.fs
noncomputable def C5:=C4.fs
noncomputable def C6:=C1.sn
abbrev Q0 (R : Post) : ExP := (Exit.then (wpx Tryz.prog (cx 19) C6 (bodyPost Tryz.prog Tryz.f78 R)) (bodyPost Tryz.prog Tryz.f78 R))
abbrev Q1 (R : Post) : ExP := (Exit.inBlock 0 (Q0 R))
/-- the head of the loop, slices.go:108 -/
def L0 (s0 : Sl) (f1 : Fv) (t7 t8 : Int) (w : World) (R : Post) : Prop := LP Tryz.prog (cx 19) C5 (Q1 R) [(0, s0.v), (1, f1.v), (7, .i t7), (8, .i t8)] w
def KE_L0 (E : Env) (w : World) (R : Post) : Prop := W.asSlice (Env.get? E 0) fun s0 => W.asFn (Env.get? E 1) fun f1 => W.asInt .i64 (Env.get? E 7) fun t7 => W.asInt .i64 (Env.get? E 8) fun t8 => L0 s0 f1 t7 t8 w R
theorem KE_L0_ok : LOk Tryz.prog 19 KE_L0 C5 Q1 := by
  intro R E w h
  obtain ⟨s0, hq0, h_1⟩ := W.asSlice_elim h
  obtain ⟨f1, hq1, h_2⟩ := W.asFn_elim h_1
  obtain ⟨t7, hq7, h_3⟩ := W.asInt_elim h_2
  obtain ⟨t8, hq8, h_4⟩ := W.asInt_elim h_3
  intro a ha
  exact h_4 a (ha.cons hq0 (ha.cons hq1 (ha.cons hq7 (ha.cons hq8 ha.nil))))
noncomputable def C7:=C5.sn
noncomputable def C8:=C7.sn
noncomputable def C9:=C8.fs
noncomputable def C10:=C9.fs
noncomputable def C11:=C10.sn
noncomputable def C12:=C11.sn
noncomputable def C13:=C12.fs
noncomputable def C14:=C8.sn
noncomputable def C15:=C7.fs
noncomputable def C16:=C15.fs
noncomputable def C17:=C13.sn
noncomputable def C18:=C12.sn
noncomputable def C19:=C15.sn
noncomputable def C20:=C6.sn
theorem L0_step (s0 : Sl) (f1 : Fv) (t7 t8 : Int) (w : World) (R : Post) (h : sel (decide (t8 < t7)) ((0 : Int) ≤ t8 ∧ t8 < ((s0.n : Nat) : Int) ∧ optP s0.a fun t14_p => ld4_0 w (t14_p.add (Int.toNat t8 * 4)) fun t15_0 t15_1 t15_2 t15_3 => AndT (callable Tryz.prog f1.n) (Calls Tryz.prog f1.n (f1.bs ++ #[.agg #[.i t15_0, .int .u8 t15_1, .int .u8 t15_2, t15_3.v]] ++ f1.cs) w fun r_ w1 => ∃ t16 : Bool, r_ = .returned (.bool t16) ∧ 
  sel t16 (R (.returned (.i t8)) w1) (L0 s0 f1 t7 (IntKind.wrap .i64 (t8 + 1)) w1 R))) (R (.returned (.i (-1))) w)) : L0 s0 f1 t7 t8 w R :=
  LP.step (n := (cx 19)) (c := C5) (E := [(0, s0.v), (1, f1.v), (7, .i t7), (8, .i t8)]) (w := w) (sr C5 (show (fun (E : Env) (w : World) => srK Tryz.prog C5 (fun E w => condK (Env.val E (.tmp 9)) (srK Tryz.prog C10 (fun E w => srK Tryz.prog C11 (fun E w => condK (Env.val E (.tmp 16)) (srK Tryz.prog C13 (fun E w => retVC Tryz.prog Tryz.f78 E w (fun v => R (.returned v) w)) E w) (rgK Tryz.prog C14 (fun E w => KE_L0 E w R) E w)) E w) E w) (srK Tryz.prog C6 (fun E w => retVC Tryz.prog Tryz.f78 E w (fun v => R (.returned v) w)) E w)) E w) [(0, s0.v), (1, f1.v), (7, .i t7), (8, .i t8)] w from mp h) fun _ _ hK => (sq C7 (cn C15 hK (fun hK => (sk C16 fun a hA => nx hA (sq C8 (bk C9 1 (by kernel_rfl) (sr C10 hK fun _ _ hK => (sr C11 hK fun _ _ hK => (cn C12 hK (fun hK => (sr C13 hK fun _ _ hK => (rt C17 fun a hA => retVC_sound hA hK))) (fun hK => (sk C18 fun a hA => nx hA (rg C14 (by kernel_rfl) hK fun _ _ a hA hK => KE_L0_ok R _ _ hK a hA)))))))))) (fun hK => (xt C19 0 (by kernel_rfl) fun a hA => nx hA (sr C6 hK fun _ _ hK => (rt C20 fun a hA => retVC_sound hA hK)))))))
/-- slices.IndexFunc[[]enthymeme/regex.Regex,enthymeme/regex.Regex] -/
theorem ok (s0 : Sl) (f1 : Fv) (w : World) (R : Post) (h : L0 s0 f1 ((s0.n : Nat) : Int) 0 w R) : Calls Tryz.prog n_slices_IndexFunc_sl_regex_Regex_regex_Regex #[s0.v, f1.v] w R :=
  calls_of_WP' (R := R) (fn := Tryz.f78) (c := C0) (args := [s0.v, f1.v]) (by kernel_rfl) (by kernel_rfl) (by kernel_rfl) (sr C0 (show (fun (E : Env) (w : World) => srK Tryz.prog C0 (fun E w => srK Tryz.prog C2 (fun E w => KE_L0 E w R) E w) E w) (envOf 0 [s0.v, f1.v]) w from mp h) fun _ _ hK => (sq C1 (sr C2 hK fun _ _ hK => (bk C3 0 (by kernel_rfl) (lp C4 (by kernel_rfl) (KE_L0_ok R _ _ hK))))))
end slices_IndexFunc_sl_regex_Regex_regex_Regex
namespace slices_ContainsFunc_sl_regex_Regex_regex_Regex
noncomputable def C0 : Code := (Tryz.f48.body).getD .skip
/-- slices.ContainsFunc[[]enthymeme/regex.Regex,enthymeme/regex.Regex] -/
noncomputable def C1:=C0.sn
noncomputable def C2:=C1.sn
theorem ok (s0 : Sl) (f1 : Fv) (w : World) (R : Post) (h : ca0 n_slices_IndexFunc_sl_regex_Regex_regex_Regex #[s0.v, f1.v] w fun t7 w1 => R (.returned (.bool (decide (t7 ≥ 0)))) w1) : Calls Tryz.prog n_slices_ContainsFunc_sl_regex_Regex_regex_Regex #[s0.v, f1.v] w R :=
  calls_of_WP' (R := R) (fn := Tryz.f48) (c := C0) (args := [s0.v, f1.v]) (by kernel_rfl) (by kernel_rfl) (by kernel_rfl) (sr C0 (show (fun (E : Env) (w : World) => srK Tryz.prog C0 (fun E w => srK Tryz.prog C1 (fun E w => retVC Tryz.prog Tryz.f48 E w (fun v => R (.returned v) w)) E w) E w) (envOf 0 [s0.v, f1.v]) w from mp h) fun _ _ hK => (sr C1 hK fun _ _ hK => (rt C2 fun a hA => retVC_sound hA hK)))
end slices_ContainsFunc_sl_regex_Regex_regex_Regex
namespace slices_DeleteFunc_sl_regex_Regex_regex_Regex
noncomputable def C0 : Code := (Tryz.f76.body).getD .skip
noncomputable def C1:=C0.sn
noncomputable def C2:=C1.sn
noncomputable def C3:=C2.sn
noncomputable def C4:=C3.fs
noncomputable def C5:=C4.sn
noncomputable def C6:=C5.fs
noncomputable def C7:=C6.fs
noncomputable def C8:=C3.sn
abbrev Q0 (R : Post) : ExP := (Exit.then (wpx Tryz.prog (cx 42) C8 (bodyPost Tryz.prog Tryz.f76 R)) (bodyPost Tryz.prog Tryz.f76 R))
abbrev Q1 (R : Post) : ExP := (Exit.inBlock 0 (Q0 R))
/-- the head of the loop, slices.go:247 -/
def L0 (s0 : Sl) (del1_c0 : Addr) (i5 j6 : Int) (w : World) (R : Post) : Prop := LP Tryz.prog (cx 42) C7 (Q1 R) [(0, s0.v), (1, .func (.func n_regex_flat_1) #[] #[.pointer (some del1_c0)]), (5, .i i5), (6, .i j6)] w
def KE_L0 (E : Env) (w : World) (R : Post) : Prop := W.asSlice (Env.get? E 0) fun s0 => W.asFunc n_regex_flat_1 (Env.get? E 1) fun del1_lf0 del1_lc0 => W.asNil del1_lf0 <| W.asCons del1_lc0 fun del1_vc0 del1_lc1 => W.asRef (some del1_vc0) fun del1_c0 => W.asNil del1_lc1 <| W.asInt .i64 (Env.get? E 5) fun i5 => W.asInt .i64 (Env.get? E 6) fun j6 => L0 s0 del1_c0 i5 j6 w R
theorem KE_L0_ok : LOk Tryz.prog 42 KE_L0 C7 Q1 := by
  intro R E w h
  obtain ⟨s0, hq0, h_1⟩ := W.asSlice_elim h
  obtain ⟨del1_lf0, del1_lc0, hq1, h_2⟩ := W.asFunc_elim h_1
  obtain ⟨rfl, h_3⟩ := W.asNil_elim h_2
  obtain ⟨del1_vc0, del1_lc1, rfl, h_4⟩ := W.asCons_elim h_3
  obtain ⟨del1_c0, ex, h_5⟩ := W.asRef_elim h_4
  obtain rfl := Option.some.inj ex
  obtain ⟨rfl, h_6⟩ := W.asNil_elim h_5
  obtain ⟨i5, hq5, h_7⟩ := W.asInt_elim h_6
  obtain ⟨j6, hq6, h_8⟩ := W.asInt_elim h_7
  intro a ha
  exact h_8 a (ha.cons hq0 (ha.cons hq1 (ha.cons hq5 (ha.cons hq6 ha.nil))))
noncomputable def C9:=C7.sn
noncomputable def C10:=C9.sn
abbrev Q2 (R : Post) : ExP := (Exit.then (LoopWP Tryz.prog (cx 42) C7 (Q1 R)) (Q1 R))
/-- slices.go:247 -/
abbrev S1 (s0 : Sl) (del1_c0 : Addr) (i5 j6 : Int) (w : World) (R : Post) : Prop :=
  L0 s0 del1_c0 i5 (IntKind.wrap .i64 (j6 + 1)) w R
def KE_S1 (E : Env) (w : World) (R : Post) : Prop := W.asSlice (Env.get? E 0) fun s0 => W.asFunc n_regex_flat_1 (Env.get? E 1) fun del1_lf0 del1_lc0 => W.asNil del1_lf0 <| W.asCons del1_lc0 fun del1_vc0 del1_lc1 => W.asRef (some del1_vc0) fun del1_c0 => W.asNil del1_lc1 <| W.asInt .i64 (Env.get? E 5) fun i5 => W.asInt .i64 (Env.get? E 6) fun j6 => S1 s0 del1_c0 i5 j6 w R
theorem KE_S1_ok : KOk Tryz.prog 42 KE_S1 C10 Q2 := by
  intro R E w h
  obtain ⟨s0, hq0, h_1⟩ := W.asSlice_elim h
  obtain ⟨del1_lf0, del1_lc0, hq1, h_2⟩ := W.asFunc_elim h_1
  obtain ⟨rfl, h_3⟩ := W.asNil_elim h_2
  obtain ⟨del1_vc0, del1_lc1, rfl, h_4⟩ := W.asCons_elim h_3
  obtain ⟨del1_c0, ex, h_5⟩ := W.asRef_elim h_4
  obtain rfl := Option.some.inj ex
  obtain ⟨rfl, h_6⟩ := W.asNil_elim h_5
  obtain ⟨i5, hq5, h_7⟩ := W.asInt_elim h_6
  obtain ⟨j6, hq6, h_8⟩ := W.asInt_elim h_7
  exact fun a ha => WP.at (E := [(0, s0.v), (1, .func (.func n_regex_flat_1) #[] #[.pointer (some del1_c0)]), (5, .i i5), (6, .i j6)]) (rg C10 (K := fun E w => KE_L0 E w R) (by kernel_rfl) (mp h_8) fun _ _ a hA hK => KE_L0_ok R _ _ hK a hA) (ha.cons hq0 (ha.cons hq1 (ha.cons hq5 (ha.cons hq6 ha.nil))))
noncomputable def C11:=C7.fs
noncomputable def C12:=C9.fs
noncomputable def C13:=C12.fs
noncomputable def C14:=C13.sn
noncomputable def C15:=C14.sn
noncomputable def C16:=C15.fs
noncomputable def C17:=C16.sn
noncomputable def C18:=C8.sn
noncomputable def C19:=C11.sn
noncomputable def C20:=C19.fs
noncomputable def C21:=C15.sn
noncomputable def C22:=C19.sn
noncomputable def C23:=C18.sn
theorem L0_step (s0 : Sl) (del1_c0 : Addr) (i5 j6 : Int) (w : World) (R : Post) (h : sel (decide (j6 < ((s0.n : Nat) : Int))) ((0 : Int) ≤ j6 ∧ j6 < ((s0.n : Nat) : Int) ∧ optP s0.a fun t24_p => ld4_0 w (t24_p.add (Int.toNat j6 * 4)) fun t25_0 t25_1 t25_2 t25_3 => nwV w (.cells #[.i 0, .int .u8 0, .int .u8 0, .slice none 0 0] ty_regex_Regex) fun w2 => 
  stW4 w2 (nb w) (.i t25_0) (.int .u8 t25_1) (.int .u8 t25_2) (t25_3.v) fun w6 => ld4_0 w6 (nb w) fun t27_0 t27_1 t27_2 t27_3 => ca1 n_regex_flat_1 #[.agg #[.i t27_0, .int .u8 t27_1, .int .u8 t27_2, t27_3.v], .pointer (some del1_c0)] w6 fun t28 w7 => sel (!t28) (ld4_0 w7 (nb w) fun t32_0 t32_1 t32_2 t32_3 => (0 : Int) ≤ i5 ∧ i5 < ((s0.n : Nat) : Int) ∧ optP s0.a fun t33_p => stW4 w7 (t33_p.add (Int.toNat i5 * 4)) (.i t32_0) (.int .u8 t32_1) (.int .u8 t32_2) (t32_3.v) fun w11 => S1 s0 del1_c0 (IntKind.wrap .i64 (i5 + 1)) j6 w11 R) (S1 s0 del1_c0 i5 j6 w7 R)) ((0 : Int) ≤ i5 ∧ i5 ≤ ((s0.n : Nat) : Int) ∧ ∃ (w12 : World), Sem.run Tryz.prog (Builtin.clear_ #[ty_sl_regex_Regex] ty_ #[.slice (if s0.c = (Int.toNat i5) then s0.a else s0.a.map (·.add ((Int.toNat i5) * 4))) (s0.n - (Int.toNat i5)) (s0.c - (Int.toNat i5))]) w = .ok (.tuple #[]) w12 ∧ (0 : Int) ≤ i5 ∧ i5 ≤ ((s0.c : Nat) : Int) ∧ R (.returned (.slice (if s0.c = 0 then s0.a else s0.a.map (·.add (0 * 4))) ((Int.toNat i5) - 0) (s0.c - 0))) w12)) : L0 s0 del1_c0 i5 j6 w R :=
  LP.step (n := (cx 42)) (c := C7) (E := [(0, s0.v), (1, .func (.func n_regex_flat_1) #[] #[.pointer (some del1_c0)]), (5, .i i5), (6, .i j6)]) (w := w) (sq C7 (sr C11 (show (fun (E : Env) (w : World) => srK Tryz.prog C11 (fun E w => condK (Env.val E (.tmp 19)) (srK Tryz.prog C13 (fun E w => srK Tryz.prog C14 (fun E w => condK (Env.val E (.tmp 29)) (srK Tryz.prog C16 (fun E w => rgK Tryz.prog C17 (fun E w => KE_S1 E w R) E w) E w) (KE_S1 E w R)) E w) E w) (srK Tryz.prog C8 (fun E w => srK Tryz.prog C18 (fun E w => retVC Tryz.prog Tryz.f76 E w (fun v => R (.returned v) w)) E w) E w)) E w) [(0, s0.v), (1, .func (.func n_regex_flat_1) #[] #[.pointer (some del1_c0)]), (5, .i i5), (6, .i j6)] w from mp h) fun _ _ hK => (cn C19 hK (fun hK => (sk C20 fun a hA => nx hA (sq C9 (bk C12 1 (by kernel_rfl) (sr C13 hK fun _ _ hK => (sr C14 hK fun _ _ hK => (cn C15 hK (fun hK => (sr C16 hK fun _ _ hK => (rg C17 (by kernel_rfl) hK fun _ _ a hA hK => nx hA (KE_S1_ok R _ _ hK)))) (fun hK => (sk C21 fun a hA => nx hA (KE_S1_ok R _ _ hK)))))))))) (fun hK => (xt C22 0 (by kernel_rfl) fun a hA => nx hA (sr C8 hK fun _ _ hK => (sr C18 hK fun _ _ hK => (rt C23 fun a hA => retVC_sound hA hK))))))))
/-- slices.DeleteFunc[[]enthymeme/regex.Regex,enthymeme/regex.Regex] -/
noncomputable def C24:=C2.fs
noncomputable def C25:=C24.sn
noncomputable def C26:=C25.fs
noncomputable def C27:=C26.sn
noncomputable def C28:=C25.sn
theorem ok (s0 : Sl) (del1_c0 : Addr) (w : World) (R : Post) (h : ca0 n_slices_IndexFunc_sl_regex_Regex_regex_Regex #[s0.v, .func (.func n_regex_flat_1) #[] #[.pointer (some del1_c0)]] w fun t10 w1 => sel (t10 == (-1)) (R (.returned (s0.v)) w1) (L0 s0 del1_c0 t10 (IntKind.wrap .i64 (t10 + 1)) w1 R)) : Calls Tryz.prog n_slices_DeleteFunc_sl_regex_Regex_regex_Regex #[s0.v, .func (.func n_regex_flat_1) #[] #[.pointer (some del1_c0)]] w R :=
  calls_of_WP' (R := R) (fn := Tryz.f76) (c := C0) (args := [s0.v, .func (.func n_regex_flat_1) #[] #[.pointer (some del1_c0)]]) (by kernel_rfl) (by kernel_rfl) (by kernel_rfl) (sr C0 (show (fun (E : Env) (w : World) => srK Tryz.prog C0 (fun E w => srK Tryz.prog C1 (fun E w => srK Tryz.prog C24 (fun E w => condK (Env.val E (.tmp 12)) (srK Tryz.prog C26 (fun E w => retVC Tryz.prog Tryz.f76 E w (fun v => R (.returned v) w)) E w) (srK Tryz.prog C4 (fun E w => KE_L0 E w R) E w)) E w) E w) E w) (envOf 0 [s0.v, .func (.func n_regex_flat_1) #[] #[.pointer (some del1_c0)]]) w from mp h) fun _ _ hK => (sr C1 hK fun _ _ hK => (sq C2 (sr C24 hK fun _ _ hK => (cn C25 hK (fun hK => (sr C26 hK fun _ _ hK => (rt C27 fun a hA => retVC_sound hA hK))) (fun hK => (sk C28 fun a hA => nx hA (sq C3 (sr C4 hK fun _ _ hK => (bk C5 0 (by kernel_rfl) (lp C6 (by kernel_rfl) (KE_L0_ok R _ _ hK))))))))))))
def L0T (s0 : Sl) (del1_c0 : Addr) (i5 j6 : Int) (w : World) (R : Post) : Prop := LC w [] → L0 s0 del1_c0 i5 j6 w R
abbrev S1T (s0 : Sl) (del1_c0 : Addr) (i5 j6 : Int) (w : World) (R : Post) : Prop :=
  L0T s0 del1_c0 i5 (IntKind.wrap .i64 (j6 + 1)) w R
theorem S1T_ok {s0 : Sl} {del1_c0 : Addr} {i5 j6 : Int} {w : World} {R : Post} (h : S1T s0 del1_c0 i5 j6 w R) (H : LC w []) : S1 s0 del1_c0 i5 j6 w R := h (LC.nil _)
theorem L0T_step (s0 : Sl) (del1_c0 : Addr) (i5 j6 : Int) (w : World) (R : Post) (h : sel (decide (j6 < ((s0.n : Nat) : Int))) ((0 : Int) ≤ j6 ∧ j6 < ((s0.n : Nat) : Int) ∧ optP s0.a fun t24_p => ld4_0 w (t24_p.add (Int.toNat j6 * 4)) fun t25_0 t25_1 t25_2 t25_3 => newV [] w fun b7 w2 => 
  loc [b7] w2 fun w6 => cf1 [b7] n_regex_flat_1 #[.agg #[.i t25_0, .int .u8 t25_1, .int .u8 t25_2, t25_3.v], .pointer (some del1_c0)] w6 fun t28 w7 => sel (!t28) ((0 : Int) ≤ i5 ∧ i5 < ((s0.n : Nat) : Int) ∧ optP s0.a fun t33_p => stV w7 (t33_p.add (Int.toNat i5 * 4)) (.i t25_0) fun w8 => kept [b7] w7 w8 ∧ 
  stV w8 ((t33_p.add (Int.toNat i5 * 4)).add 1) (.int .u8 t25_1) fun w9 => kept [b7] w8 w9 ∧ 
  stV w9 ((t33_p.add (Int.toNat i5 * 4)).add 2) (.int .u8 t25_2) fun w10 => kept [b7] w9 w10 ∧ 
  stV w10 ((t33_p.add (Int.toNat i5 * 4)).add 3) (t25_3.v) fun w11 => kept [b7] w10 w11 ∧ 
  S1T s0 del1_c0 (IntKind.wrap .i64 (i5 + 1)) j6 w11 R) (S1T s0 del1_c0 i5 j6 w7 R)) ((0 : Int) ≤ i5 ∧ i5 ≤ ((s0.n : Nat) : Int) ∧ ∃ (w12 : World), Sem.run Tryz.prog (Builtin.clear_ #[ty_sl_regex_Regex] ty_ #[.slice (if s0.c = (Int.toNat i5) then s0.a else s0.a.map (·.add ((Int.toNat i5) * 4))) (s0.n - (Int.toNat i5)) (s0.c - (Int.toNat i5))]) w = .ok (.tuple #[]) w12 ∧ (0 : Int) ≤ i5 ∧ i5 ≤ ((s0.c : Nat) : Int) ∧ R (.returned (.slice (if s0.c = 0 then s0.a else s0.a.map (·.add (0 * 4))) ((Int.toNat i5) - 0) (s0.c - 0))) w12)) : L0T s0 del1_c0 i5 j6 w R := fun H => L0_step _ _ _ _ w R (sel_imp h (fun h => ⟨h.1, h.2.1, have h := h.2.2; optP_imp h fun t24_p h => let ⟨t25_0, t25_1, t25_2, t25_3, hc0, hc1, hc2, hc3, h⟩ := h; ⟨t25_0, t25_1, t25_2, t25_3, hc0, hc1, hc2, hc3, LC.nwT (LC.nil _) (Fr.refl _ _) h fun w2 H h => LC.stT0 H 0 (Fr.refl _ _) rfl rfl fun w3 H f => LC.stT H 0 1 f rfl rfl fun w4 H f => LC.stT H 0 2 f rfl rfl fun w5 H f => LC.stT H 0 3 f rfl rfl fun w6 (H : LC w6 [(w.heap.size, [.i t25_0, .int .u8 t25_1, .int .u8 t25_2, t25_3.v], ty_regex_Regex)]) (f : Fr (· ∈ [w.heap.size]) _ w6) => ⟨_, _, _, t25_3, H.ld 0 0, H.ld 0 1, H.ld 0 2, H.ld 0 3, have h := h _ f; LC.callT H h fun r_ w7 H h => let ⟨t28, hr, h⟩ := h; ⟨t28, hr, sel_imp h (fun h => ⟨_, _, _, t25_3, H.ld 0 0, H.ld 0 1, H.ld 0 2, H.ld 0 3, ⟨h.1, h.2.1, have h := h.2.2; optP_imp h fun t33_p h => stV_imp h fun w8 h => have H := LC.keptT H h.1; have h := h.2; stV_imp h fun w9 h => have H := LC.keptT H h.1; have h := h.2; stV_imp h fun w10 h => have H := LC.keptT H h.1; have h := h.2; stV_imp h fun w11 h => have H := LC.keptT H h.1; have h := h.2; S1T_ok h (LC.nil _)⟩⟩) (fun h => S1T_ok h (LC.nil _))⟩⟩⟩⟩) (fun h => ⟨h.1, h.2.1, have h := h.2.2; let ⟨w12, he, h⟩ := h; ⟨w12, he, ⟨h.1, h.2.1, have h := h.2.2; h⟩⟩⟩))
theorem okT (s0 : Sl) (del1_c0 : Addr) (w : World) (R : Post) (h : ca0 n_slices_IndexFunc_sl_regex_Regex_regex_Regex #[s0.v, .func (.func n_regex_flat_1) #[] #[.pointer (some del1_c0)]] w fun t10 w1 => sel (t10 == (-1)) (R (.returned (s0.v)) w1) (L0T s0 del1_c0 t10 (IntKind.wrap .i64 (t10 + 1)) w1 R)) : Calls Tryz.prog n_slices_DeleteFunc_sl_regex_Regex_regex_Regex #[s0.v, .func (.func n_regex_flat_1) #[] #[.pointer (some del1_c0)]] w R :=
  ok _ _ w R (Calls.mono h fun r_ w1 h => let ⟨t10, hr, h⟩ := h; ⟨t10, hr, sel_imp h (fun h => h) (fun h => h (LC.nil _))⟩)
end slices_DeleteFunc_sl_regex_Regex_regex_Regex
namespace slices_CompactFunc_sl_regex_Regex_regex_Regex
noncomputable def C0 : Code := (Tryz.f52.body).getD .skip
noncomputable def C1:=C0.sn
noncomputable def C2:=C1.sn
noncomputable def C3:=C2.fs
noncomputable def C4:=C3.sn
noncomputable def C5:=C4.fs
noncomputable def C6:=C5.fs
noncomputable def C7:=C2.sn
abbrev Q0 (R : Post) : ExP := (Exit.then (wpx Tryz.prog (cx 66) C7 (bodyPost Tryz.prog Tryz.f52 R)) (bodyPost Tryz.prog Tryz.f52 R))
abbrev Q1 (R : Post) : ExP := (Exit.inBlock 0 (Q0 R))
/-- the head of the loop, slices.go:400 -/
def L0 (s0 : Sl) (k5 : Int) (w : World) (R : Post) : Prop := LP Tryz.prog (cx 66) C6 (Q1 R) [(0, s0.v), (1, .func (.func n_regex_equal) #[] #[]), (5, .i k5)] w
def KE_L0 (E : Env) (w : World) (R : Post) : Prop := W.asSlice (Env.get? E 0) fun s0 => W.asFunc n_regex_equal (Env.get? E 1) fun eq1_lf0 eq1_lc0 => W.asNil eq1_lf0 <| W.asNil eq1_lc0 <| W.asInt .i64 (Env.get? E 5) fun k5 => L0 s0 k5 w R
theorem KE_L0_ok : LOk Tryz.prog 66 KE_L0 C6 Q1 := by
  intro R E w h
  obtain ⟨s0, hq0, h_1⟩ := W.asSlice_elim h
  obtain ⟨eq1_lf0, eq1_lc0, hq1, h_2⟩ := W.asFunc_elim h_1
  obtain ⟨rfl, h_3⟩ := W.asNil_elim h_2
  obtain ⟨rfl, h_4⟩ := W.asNil_elim h_3
  obtain ⟨k5, hq5, h_5⟩ := W.asInt_elim h_4
  intro a ha
  exact h_5 a (ha.cons hq0 (ha.cons hq1 (ha.cons hq5 ha.nil)))
noncomputable def C8:=C6.sn
noncomputable def C9:=C8.fs
noncomputable def C10:=C9.fs
noncomputable def C11:=C10.sn
noncomputable def C12:=C11.fs
noncomputable def C13:=C12.sn
noncomputable def C14:=C13.fs
noncomputable def C15:=C14.sn
noncomputable def C16:=C15.fs
noncomputable def C17:=C16.fs
noncomputable def C18:=C8.sn
abbrev Q2 (R : Post) : ExP := (Exit.then (wpx Tryz.prog (cx 66) C18 (Exit.then (LoopWP Tryz.prog (cx 66) C6 (Q1 R)) (Q1 R))) (Exit.then (LoopWP Tryz.prog (cx 66) C6 (Q1 R)) (Q1 R)))
noncomputable def C19:=C13.sn
abbrev Q3 (R : Post) : ExP := (Exit.then (wpx Tryz.prog (cx 66) C19 (Exit.inBlock 1 (Q2 R))) (Exit.inBlock 1 (Q2 R)))
abbrev Q4 (R : Post) : ExP := (Exit.inBlock 2 (Q3 R))
/-- the head of the loop, slices.go:403 -/
def L2 (s0 : Sl) (k5 : Int) (s26 : Sl) (k27 : Int) (w : World) (R : Post) : Prop := LP Tryz.prog (cx 66) C17 (Q4 R) [(0, s0.v), (1, .func (.func n_regex_equal) #[] #[]), (5, .i k5), (6, s26.v), (7, .i k27)] w
def KE_L2 (E : Env) (w : World) (R : Post) : Prop := W.asSlice (Env.get? E 0) fun s0 => W.asFunc n_regex_equal (Env.get? E 1) fun eq1_lf0 eq1_lc0 => W.asNil eq1_lf0 <| W.asNil eq1_lc0 <| W.asInt .i64 (Env.get? E 5) fun k5 => W.asSlice (Env.get? E 6) fun s26 => W.asInt .i64 (Env.get? E 7) fun k27 => L2 s0 k5 s26 k27 w R
theorem KE_L2_ok : LOk Tryz.prog 66 KE_L2 C17 Q4 := by
  intro R E w h
  obtain ⟨s0, hq0, h_1⟩ := W.asSlice_elim h
  obtain ⟨eq1_lf0, eq1_lc0, hq1, h_2⟩ := W.asFunc_elim h_1
  obtain ⟨rfl, h_3⟩ := W.asNil_elim h_2
  obtain ⟨rfl, h_4⟩ := W.asNil_elim h_3
  obtain ⟨k5, hq5, h_5⟩ := W.asInt_elim h_4
  obtain ⟨s26, hq6, h_6⟩ := W.asSlice_elim h_5
  obtain ⟨k27, hq7, h_7⟩ := W.asInt_elim h_6
  intro a ha
  exact h_7 a (ha.cons hq0 (ha.cons hq1 (ha.cons hq5 (ha.cons hq6 (ha.cons hq7 ha.nil)))))
noncomputable def C20:=C17.sn
noncomputable def C21:=C20.sn
abbrev Q5 (R : Post) : ExP := (Exit.then (LoopWP Tryz.prog (cx 66) C17 (Q4 R)) (Q4 R))
/-- slices.go:403 -/
abbrev S3 (s0 : Sl) (k5 : Int) (s26 : Sl) (k27 : Int) (w : World) (R : Post) : Prop :=
  L2 s0 k5 s26 (IntKind.wrap .i64 (k27 + 1)) w R
def KE_S3 (E : Env) (w : World) (R : Post) : Prop := W.asSlice (Env.get? E 0) fun s0 => W.asFunc n_regex_equal (Env.get? E 1) fun eq1_lf0 eq1_lc0 => W.asNil eq1_lf0 <| W.asNil eq1_lc0 <| W.asInt .i64 (Env.get? E 5) fun k5 => W.asSlice (Env.get? E 6) fun s26 => W.asInt .i64 (Env.get? E 7) fun k27 => S3 s0 k5 s26 k27 w R
theorem KE_S3_ok : KOk Tryz.prog 66 KE_S3 C21 Q5 := by
  intro R E w h
  obtain ⟨s0, hq0, h_1⟩ := W.asSlice_elim h
  obtain ⟨eq1_lf0, eq1_lc0, hq1, h_2⟩ := W.asFunc_elim h_1
  obtain ⟨rfl, h_3⟩ := W.asNil_elim h_2
  obtain ⟨rfl, h_4⟩ := W.asNil_elim h_3
  obtain ⟨k5, hq5, h_5⟩ := W.asInt_elim h_4
  obtain ⟨s26, hq6, h_6⟩ := W.asSlice_elim h_5
  obtain ⟨k27, hq7, h_7⟩ := W.asInt_elim h_6
  exact fun a ha => WP.at (E := [(0, s0.v), (1, .func (.func n_regex_equal) #[] #[]), (5, .i k5), (6, s26.v), (7, .i k27)]) (rg C21 (K := fun E w => KE_L2 E w R) (by kernel_rfl) (mp h_7) fun _ _ a hA hK => KE_L2_ok R _ _ hK a hA) (ha.cons hq0 (ha.cons hq1 (ha.cons hq5 (ha.cons hq6 (ha.cons hq7 ha.nil)))))
noncomputable def C22:=C17.fs
noncomputable def C23:=C20.fs
noncomputable def C24:=C23.fs
noncomputable def C25:=C24.sn
noncomputable def C26:=C25.fs
noncomputable def C27:=C26.sn
noncomputable def C28:=C19.sn
noncomputable def C29:=C22.sn
noncomputable def C30:=C29.fs
noncomputable def C31:=C25.sn
noncomputable def C32:=C29.sn
noncomputable def C33:=C28.sn
theorem L2_step (s0 : Sl) (k5 : Int) (s26 : Sl) (k27 : Int) (w : World) (R : Post) (h : sel (decide (k27 < ((s26.n : Nat) : Int))) (drV w fun w1 => (0 : Int) ≤ k27 ∧ k27 < ((s26.n : Nat) : Int) ∧ optP s26.a fun t41_p => ld4_0 w1 (t41_p.add (Int.toNat k27 * 4)) fun t42_0 t42_1 t42_2 t42_3 => (0 : Int) ≤ (IntKind.wrap .i64 (k27 - 1)) ∧ (IntKind.wrap .i64 (k27 - 1)) < ((s26.n : Nat) : Int) ∧ optP s26.a fun t46_p => ld4_0 w1 (t46_p.add (Int.toNat (IntKind.wrap .i64 (k27 - 1)) * 4)) fun t47_0 t47_1 t47_2 t47_3 => ca1 n_regex_equal #[.agg #[.i t42_0, .int .u8 t42_1, .int .u8 t42_2, t42_3.v], .agg #[.i t47_0, .int .u8 t47_1, .int .u8 t47_2, t47_3.v]] w1 fun t48 w2 => sel (!t48) ((0 : Int) ≤ k27 ∧ k27 < ((s26.n : Nat) : Int) ∧ optP s26.a fun t54_p => ld4_0 w2 (t54_p.add (Int.toNat k27 * 4)) fun t55_0 t55_1 t55_2 t55_3 => (0 : Int) ≤ k5 ∧ k5 < ((s0.n : Nat) : Int) ∧ optP s0.a fun t56_p => stW4 w2 (t56_p.add (Int.toNat k5 * 4)) (.i t55_0) (.int .u8 t55_1) (.int .u8 t55_2) (t55_3.v) fun w6 => S3 s0 (IntKind.wrap .i64 (k5 + 1)) s26 k27 w6 R) (S3 s0 k5 s26 k27 w2 R)) ((0 : Int) ≤ k5 ∧ k5 ≤ ((s0.n : Nat) : Int) ∧ ∃ (w7 : World), Sem.run Tryz.prog (Builtin.clear_ #[ty_sl_regex_Regex] ty_ #[.slice (if s0.c = (Int.toNat k5) then s0.a else s0.a.map (·.add ((Int.toNat k5) * 4))) (s0.n - (Int.toNat k5)) (s0.c - (Int.toNat k5))]) w = .ok (.tuple #[]) w7 ∧ (0 : Int) ≤ k5 ∧ k5 ≤ ((s0.c : Nat) : Int) ∧ R (.returned (.slice (if s0.c = 0 then s0.a else s0.a.map (·.add (0 * 4))) ((Int.toNat k5) - 0) (s0.c - 0))) w7)) : L2 s0 k5 s26 k27 w R :=
  LP.step (n := (cx 66)) (c := C17) (E := [(0, s0.v), (1, .func (.func n_regex_equal) #[] #[]), (5, .i k5), (6, s26.v), (7, .i k27)]) (w := w) (sq C17 (sr C22 (show (fun (E : Env) (w : World) => srK Tryz.prog C22 (fun E w => condK (Env.val E (.tmp 35)) (sdK Tryz.prog C24 [0, 1, 2, 3, 4, 5, 6, 7, 8, 9, 10, 11] (fun E w => condK (Env.val E (.tmp 49)) (srK Tryz.prog C26 (fun E w => rgK Tryz.prog C27 (fun E w => KE_S3 E w R) E w) E w) (KE_S3 E w R)) E w) (srK Tryz.prog C19 (fun E w => srK Tryz.prog C28 (fun E w => retVC Tryz.prog Tryz.f52 E w (fun v => R (.returned v) w)) E w) E w)) E w) [(0, s0.v), (1, .func (.func n_regex_equal) #[] #[]), (5, .i k5), (6, s26.v), (7, .i k27)] w from mp h) fun _ _ hK => (cn C29 hK (fun hK => (sk C30 fun a hA => nx hA (sq C20 (bk C23 3 (by kernel_rfl) (sd C24 (by kernel_rfl) hK fun _ _ hK => (cn C25 hK (fun hK => (sr C26 hK fun _ _ hK => (rg C27 (by kernel_rfl) hK fun _ _ a hA hK => nx hA (KE_S3_ok R _ _ hK)))) (fun hK => (sk C31 fun a hA => nx hA (KE_S3_ok R _ _ hK))))))))) (fun hK => (xt C32 2 (by kernel_rfl) fun a hA => nx hA (sr C19 hK fun _ _ hK => (sr C28 hK fun _ _ hK => (rt C33 fun a hA => retVC_sound hA hK))))))))
/-- slices.go:403 -/
abbrev S1 (s0 : Sl) (k5 : Int) (s26 : Sl) (w : World) (R : Post) : Prop :=
  L2 s0 k5 s26 1 w R
def KE_S1 (E : Env) (w : World) (R : Post) : Prop := W.asSlice (Env.get? E 0) fun s0 => W.asFunc n_regex_equal (Env.get? E 1) fun eq1_lf0 eq1_lc0 => W.asNil eq1_lf0 <| W.asNil eq1_lc0 <| W.asInt .i64 (Env.get? E 5) fun k5 => W.asSlice (Env.get? E 6) fun s26 => S1 s0 k5 s26 w R
theorem KE_S1_ok : KOk Tryz.prog 66 KE_S1 C14 Q3 := by
  intro R E w h
  obtain ⟨s0, hq0, h_1⟩ := W.asSlice_elim h
  obtain ⟨eq1_lf0, eq1_lc0, hq1, h_2⟩ := W.asFunc_elim h_1
  obtain ⟨rfl, h_3⟩ := W.asNil_elim h_2
  obtain ⟨rfl, h_4⟩ := W.asNil_elim h_3
  obtain ⟨k5, hq5, h_5⟩ := W.asInt_elim h_4
  obtain ⟨s26, hq6, h_6⟩ := W.asSlice_elim h_5
  exact fun a ha => WP.at (E := [(0, s0.v), (1, .func (.func n_regex_equal) #[] #[]), (5, .i k5), (6, s26.v)]) (sr C14 (K := fun E w => KE_L2 E w R) (mp h_6) fun _ _ hK => (bk C15 2 (by kernel_rfl) (lp C16 (by kernel_rfl) (KE_L2_ok R _ _ hK)))) (ha.cons hq0 (ha.cons hq1 (ha.cons hq5 (ha.cons hq6 ha.nil))))
noncomputable def C34:=C6.fs
noncomputable def C35:=C34.sn
noncomputable def C36:=C35.fs
noncomputable def C37:=C11.sn
noncomputable def C38:=C35.sn
noncomputable def C39:=C7.sn
theorem L0_step (s0 : Sl) (k5 : Int) (w : World) (R : Post) (h : sel (decide (k5 < ((s0.n : Nat) : Int))) (drV w fun w1 => (0 : Int) ≤ k5 ∧ k5 < ((s0.n : Nat) : Int) ∧ optP s0.a fun t21_p => ld4_0 w1 (t21_p.add (Int.toNat k5 * 4)) fun t22_0 t22_1 t22_2 t22_3 => (0 : Int) ≤ (IntKind.wrap .i64 (k5 - 1)) ∧ (IntKind.wrap .i64 (k5 - 1)) < ((s0.n : Nat) : Int) ∧ optP s0.a fun t26_p => ld4_0 w1 (t26_p.add (Int.toNat (IntKind.wrap .i64 (k5 - 1)) * 4)) fun t27_0 t27_1 t27_2 t27_3 => ca1 n_regex_equal #[.agg #[.i t22_0, .int .u8 t22_1, .int .u8 t22_2, t22_3.v], .agg #[.i t27_0, .int .u8 t27_1, .int .u8 t27_2, t27_3.v]] w1 fun t28 w2 => sel t28 ((0 : Int) ≤ k5 ∧ k5 ≤ ((s0.n : Nat) : Int) ∧ S1 s0 k5 ⟨(if s0.c = (Int.toNat k5) then s0.a else s0.a.map (·.add ((Int.toNat k5) * 4))), (s0.n - (Int.toNat k5)), (s0.c - (Int.toNat k5))⟩ w2 R) (L0 s0 (IntKind.wrap .i64 (k5 + 1)) w2 R)) (R (.returned (s0.v)) w)) : L0 s0 k5 w R :=
  LP.step (n := (cx 66)) (c := C6) (E := [(0, s0.v), (1, .func (.func n_regex_equal) #[] #[]), (5, .i k5)]) (w := w) (sq C6 (sr C34 (show (fun (E : Env) (w : World) => srK Tryz.prog C34 (fun E w => condK (Env.val E (.tmp 15)) (sdK Tryz.prog C10 [0, 1, 2, 3, 4, 5, 6, 7, 8, 9, 10] (fun E w => condK (Env.val E (.tmp 28)) (srK Tryz.prog C12 (fun E w => KE_S1 E w R) E w) (rgK Tryz.prog C18 (fun E w => KE_L0 E w R) E w)) E w) (srK Tryz.prog C7 (fun E w => retVC Tryz.prog Tryz.f52 E w (fun v => R (.returned v) w)) E w)) E w) [(0, s0.v), (1, .func (.func n_regex_equal) #[] #[]), (5, .i k5)] w from mp h) fun _ _ hK => (cn C35 hK (fun hK => (sk C36 fun a hA => nx hA (sq C8 (bk C9 1 (by kernel_rfl) (sd C10 (by kernel_rfl) hK fun _ _ hK => (cn C11 hK (fun hK => (sr C12 hK fun _ _ hK => (sq C13 (KE_S1_ok R _ _ hK)))) (fun hK => (sk C37 fun a hA => nx hA (rg C18 (by kernel_rfl) hK fun _ _ a hA hK => KE_L0_ok R _ _ hK a hA))))))))) (fun hK => (xt C38 0 (by kernel_rfl) fun a hA => nx hA (sr C7 hK fun _ _ hK => (rt C39 fun a hA => retVC_sound hA hK)))))))
/-- slices.CompactFunc[[]enthymeme/regex.Regex,enthymeme/regex.Regex] -/
noncomputable def C40:=C1.fs
noncomputable def C41:=C40.sn
noncomputable def C42:=C41.fs
noncomputable def C43:=C42.sn
noncomputable def C44:=C41.sn
theorem ok (s0 : Sl) (w : World) (R : Post) (h : sel (decide (((s0.n : Nat) : Int) < 2)) (R (.returned (s0.v)) w) (L0 s0 1 w R)) : Calls Tryz.prog n_slices_CompactFunc_sl_regex_Regex_regex_Regex #[s0.v, .func (.func n_regex_equal) #[] #[]] w R :=
  calls_of_WP' (R := R) (fn := Tryz.f52) (c := C0) (args := [s0.v, .func (.func n_regex_equal) #[] #[]]) (by kernel_rfl) (by kernel_rfl) (by kernel_rfl) (sr C0 (show (fun (E : Env) (w : World) => srK Tryz.prog C0 (fun E w => srK Tryz.prog C40 (fun E w => condK (Env.val E (.tmp 10)) (srK Tryz.prog C42 (fun E w => retVC Tryz.prog Tryz.f52 E w (fun v => R (.returned v) w)) E w) (srK Tryz.prog C3 (fun E w => KE_L0 E w R) E w)) E w) E w) (envOf 0 [s0.v, .func (.func n_regex_equal) #[] #[]]) w from mp h) fun _ _ hK => (sq C1 (sr C40 hK fun _ _ hK => (cn C41 hK (fun hK => (sr C42 hK fun _ _ hK => (rt C43 fun a hA => retVC_sound hA hK))) (fun hK => (sk C44 fun a hA => nx hA (sq C2 (sr C3 hK fun _ _ hK => (bk C4 0 (by kernel_rfl) (lp C5 (by kernel_rfl) (KE_L0_ok R _ _ hK)))))))))))
end slices_CompactFunc_sl_regex_Regex_regex_Regex
namespace regex_flat
noncomputable def C0 : Code := (Tryz.f47.body).getD .skip
noncomputable def C1:=C0.sn
noncomputable def C2:=C1.sn
noncomputable def C3:=C2.fs
noncomputable def C4:=C3.sn
noncomputable def C5:=C4.fs
noncomputable def C6:=C5.fs
noncomputable def C7:=C2.sn
abbrev Q0 (R : Post) : ExP := (Exit.then (wpx Tryz.prog (cx 32) C7 (bodyPost Tryz.prog Tryz.f47 R)) (bodyPost Tryz.prog Tryz.f47 R))
abbrev Q1 (R : Post) : ExP := (Exit.inBlock 0 (Q0 R))
/-- the head of the loop, regex.go:154 -/
def L0 (r2 unit3 : Addr) (l5 t9 : Sl) (t10 t11 : Int) (w : World) (R : Post) : Prop := LP Tryz.prog (cx 32) C6 (Q1 R) [(2, .pointer (some r2)), (3, .pointer (some unit3)), (5, l5.v), (9, t9.v), (10, .i t10), (11, .i t11)] w
def KE_L0 (E : Env) (w : World) (R : Post) : Prop := W.asRef (Env.get? E 2) fun r2 => W.asRef (Env.get? E 3) fun unit3 => W.asSlice (Env.get? E 5) fun l5 => W.asSlice (Env.get? E 9) fun t9 => W.asInt .i64 (Env.get? E 10) fun t10 => W.asInt .i64 (Env.get? E 11) fun t11 => L0 r2 unit3 l5 t9 t10 t11 w R
theorem KE_L0_ok : LOk Tryz.prog 32 KE_L0 C6 Q1 := by
  intro R E w h
  obtain ⟨r2, hq2, h_1⟩ := W.asRef_elim h
  obtain ⟨unit3, hq3, h_2⟩ := W.asRef_elim h_1
  obtain ⟨l5, hq5, h_3⟩ := W.asSlice_elim h_2
  obtain ⟨t9, hq9, h_4⟩ := W.asSlice_elim h_3
  obtain ⟨t10, hq10, h_5⟩ := W.asInt_elim h_4
  obtain ⟨t11, hq11, h_6⟩ := W.asInt_elim h_5
  intro a ha
  exact h_6 a (ha.cons hq2 (ha.cons hq3 (ha.cons hq5 (ha.cons hq9 (ha.cons hq10 (ha.cons hq11 ha.nil))))))
noncomputable def C8:=C6.sn
noncomputable def C9:=C8.sn
noncomputable def C10:=C9.sn
abbrev Q2 (R : Post) : ExP := (Exit.then (LoopWP Tryz.prog (cx 32) C6 (Q1 R)) (Q1 R))
/-- regex.go:154 -/
abbrev S1 (r2 unit3 : Addr) (l5 t9 : Sl) (t10 t11 : Int) (w : World) (R : Post) : Prop :=
  L0 r2 unit3 l5 t9 t10 (IntKind.wrap .i64 (t11 + 1)) w R
def KE_S1 (E : Env) (w : World) (R : Post) : Prop := W.asRef (Env.get? E 2) fun r2 => W.asRef (Env.get? E 3) fun unit3 => W.asSlice (Env.get? E 5) fun l5 => W.asSlice (Env.get? E 9) fun t9 => W.asInt .i64 (Env.get? E 10) fun t10 => W.asInt .i64 (Env.get? E 11) fun t11 => S1 r2 unit3 l5 t9 t10 t11 w R
theorem KE_S1_ok : KOk Tryz.prog 32 KE_S1 C10 Q2 := by
  intro R E w h
  obtain ⟨r2, hq2, h_1⟩ := W.asRef_elim h
  obtain ⟨unit3, hq3, h_2⟩ := W.asRef_elim h_1
  obtain ⟨l5, hq5, h_3⟩ := W.asSlice_elim h_2
  obtain ⟨t9, hq9, h_4⟩ := W.asSlice_elim h_3
  obtain ⟨t10, hq10, h_5⟩ := W.asInt_elim h_4
  obtain ⟨t11, hq11, h_6⟩ := W.asInt_elim h_5
  exact fun a ha => WP.at (E := [(2, .pointer (some r2)), (3, .pointer (some unit3)), (5, l5.v), (9, t9.v), (10, .i t10), (11, .i t11)]) (rg C10 (K := fun E w => KE_L0 E w R) (by kernel_rfl) (mp h_6) fun _ _ a hA hK => KE_L0_ok R _ _ hK a hA) (ha.cons hq2 (ha.cons hq3 (ha.cons hq5 (ha.cons hq9 (ha.cons hq10 (ha.cons hq11 ha.nil))))))
noncomputable def C11:=C9.fs
noncomputable def C12:=C11.fs
noncomputable def C13:=C12.sn
noncomputable def C14:=C13.sn
noncomputable def C15:=C14.fs
noncomputable def C16:=C14.sn
noncomputable def C17:=C8.fs
noncomputable def C18:=C17.fs
noncomputable def C19:=C17.sn
noncomputable def C20:=C7.sn
theorem L0_step (r2 unit3 : Addr) (l5 t9 : Sl) (t10 t11 : Int) (w : World) (R : Post) (h : sel (decide (t11 < t10)) ((0 : Int) ≤ t11 ∧ t11 < ((t9.n : Nat) : Int) ∧ optP t9.a fun t13_p => ld4_0 w (t13_p.add (Int.toNat t11 * 4)) fun t14_0 t14_1 t14_2 t14_3 => nwV w (.cells #[.i 0, .int .u8 0, .int .u8 0, .slice none 0 0] ty_regex_Regex) fun w3 => 
  stW4 w3 (nb w) (.i t14_0) (.int .u8 t14_1) (.int .u8 t14_2) (t14_3.v) fun w7 => ∃ t16 : Int, w7.cell? ((nb w).add 0) = some (.i t16) ∧ 
  ∃ t18 : Int, w7.cell? (r2.add 0) = some (.i t18) ∧ 
  sel (t16 == t18) (∃ t22 : Sl, w7.cell? ((nb w).add 3) = some (t22.v) ∧ 
  ∃ (t23 : Sl) (w8 : World), Sem.run Tryz.prog (Builtin.append_ #[ty_sl_regex_Regex, ty_sl_regex_Regex] ty_sl_regex_Regex #[l5.v, t22.v]) w7 = .ok (t23.v) w8 ∧ S1 r2 unit3 t23 t9 t10 t11 w8 R) (ld4_0 w7 (nb w) fun t25_0 t25_1 t25_2 t25_3 => nwV w7 (.cells #[.i t25_0, .int .u8 t25_1, .int .u8 t25_2, t25_3.v] ty_regex_Regex) fun w9 => 
  ∃ (t27 : Sl) (w10 : World), Sem.run Tryz.prog (Builtin.append_ #[ty_sl_regex_Regex, ty_sl_regex_Regex] ty_sl_regex_Regex #[l5.v, .slice (some (nb w7)) 1 1]) w9 = .ok (t27.v) w10 ∧ S1 r2 unit3 t27 t9 t10 t11 w10 R)) (ca3 n_slices_DeleteFunc_sl_regex_Regex_regex_Regex #[l5.v, .func (.func n_regex_flat_1) #[] #[.pointer (some unit3)]] w fun t31 w11 => R (.returned (t31.v)) w11)) : L0 r2 unit3 l5 t9 t10 t11 w R :=
  LP.step (n := (cx 32)) (c := C6) (E := [(2, .pointer (some r2)), (3, .pointer (some unit3)), (5, l5.v), (9, t9.v), (10, .i t10), (11, .i t11)]) (w := w) (sr C6 (show (fun (E : Env) (w : World) => srK Tryz.prog C6 (fun E w => condK (Env.val E (.tmp 12)) (srK Tryz.prog C12 (fun E w => srK Tryz.prog C13 (fun E w => condK (Env.val E (.tmp 19)) (rgK Tryz.prog C15 (fun E w => KE_S1 E w R) E w) (rgK Tryz.prog C16 (fun E w => KE_S1 E w R) E w)) E w) E w) (srK Tryz.prog C7 (fun E w => retVC Tryz.prog Tryz.f47 E w (fun v => R (.returned v) w)) E w)) E w) [(2, .pointer (some r2)), (3, .pointer (some unit3)), (5, l5.v), (9, t9.v), (10, .i t10), (11, .i t11)] w from mp h) fun _ _ hK => (sq C8 (cn C17 hK (fun hK => (sk C18 fun a hA => nx hA (sq C9 (bk C11 1 (by kernel_rfl) (sr C12 hK fun _ _ hK => (sr C13 hK fun _ _ hK => (cn C14 hK (fun hK => (rg C15 (by kernel_rfl) hK fun _ _ a hA hK => nx hA (KE_S1_ok R _ _ hK))) (fun hK => (rg C16 (by kernel_rfl) hK fun _ _ a hA hK => nx hA (KE_S1_ok R _ _ hK)))))))))) (fun hK => (xt C19 0 (by kernel_rfl) fun a hA => nx hA (sr C7 hK fun _ _ hK => (rt C20 fun a hA => retVC_sound hA hK)))))))
/-- enthymeme/regex.flat -/
theorem ok (r0_0 r0_1 r0_2 : Int) (r0_3 : Sl) (unit1_0 unit1_1 unit1_2 : Int) (unit1_3 : Sl) (w : World) (R : Post) (h : nwV w (.cells #[.i r0_0, .int .u8 r0_1, .int .u8 r0_2, r0_3.v] ty_regex_Regex) fun w1 => 
  nwV w1 (.cells #[.i unit1_0, .int .u8 unit1_1, .int .u8 unit1_2, unit1_3.v] ty_regex_Regex) fun w2 => 
  ∃ t9 : Sl, w2.cell? ((nb w).add 3) = some (t9.v) ∧ 
  L0 (nb w) (nb w1) ⟨none, 0, 0⟩ t9 ((t9.n : Nat) : Int) 0 w2 R) : Calls Tryz.prog n_regex_flat #[.agg #[.i r0_0, .int .u8 r0_1, .int .u8 r0_2, r0_3.v], .agg #[.i unit1_0, .int .u8 unit1_1, .int .u8 unit1_2, unit1_3.v]] w R :=
  calls_of_WP' (R := R) (fn := Tryz.f47) (c := C0) (args := [.agg #[.i r0_0, .int .u8 r0_1, .int .u8 r0_2, r0_3.v], .agg #[.i unit1_0, .int .u8 unit1_1, .int .u8 unit1_2, unit1_3.v]]) (by kernel_rfl) (by kernel_rfl) (by kernel_rfl) (sr C0 (show (fun (E : Env) (w : World) => srK Tryz.prog C0 (fun E w => srK Tryz.prog C1 (fun E w => srK Tryz.prog C3 (fun E w => KE_L0 E w R) E w) E w) E w) (envOf 0 [.agg #[.i r0_0, .int .u8 r0_1, .int .u8 r0_2, r0_3.v], .agg #[.i unit1_0, .int .u8 unit1_1, .int .u8 unit1_2, unit1_3.v]]) w from mp h) fun _ _ hK => (sr C1 hK fun _ _ hK => (sq C2 (sr C3 hK fun _ _ hK => (bk C4 0 (by kernel_rfl) (lp C5 (by kernel_rfl) (KE_L0_ok R _ _ hK)))))))
def L0T (r2 : Nat) (r2_0 r2_1 r2_2 : Int) (r2_3 : Sl) (unit3 : Addr) (l5 t9 : Sl) (t10 t11 : Int) (w : World) (R : Post) : Prop := LC w [(r2, [.i r2_0, .int .u8 r2_1, .int .u8 r2_2, r2_3.v], ty_regex_Regex)] → L0 (at0 r2) unit3 l5 t9 t10 t11 w R
abbrev S1T (r2 : Nat) (r2_0 r2_1 r2_2 : Int) (r2_3 : Sl) (unit3 : Addr) (l5 t9 : Sl) (t10 t11 : Int) (w : World) (R : Post) : Prop :=
  L0T r2 r2_0 r2_1 r2_2 r2_3 unit3 l5 t9 t10 (IntKind.wrap .i64 (t11 + 1)) w R
theorem S1T_ok {r2 : Nat} {r2_0 r2_1 r2_2 : Int} {r2_3 : Sl} {unit3 : Addr} {l5 t9 : Sl} {t10 t11 : Int} {w : World} {R : Post} (h : S1T r2 r2_0 r2_1 r2_2 r2_3 unit3 l5 t9 t10 t11 w R) (H : LC w [(r2, [.i r2_0, .int .u8 r2_1, .int .u8 r2_2, r2_3.v], ty_regex_Regex)]) : S1 (at0 r2) unit3 l5 t9 t10 t11 w R := h H
theorem L0T_step (r2 : Nat) (r2_0 r2_1 r2_2 : Int) (r2_3 : Sl) (unit3 : Addr) (l5 t9 : Sl) (t10 t11 : Int) (w : World) (R : Post) (h : sel (decide (t11 < t10)) ((0 : Int) ≤ t11 ∧ t11 < ((t9.n : Nat) : Int) ∧ optP t9.a fun t13_p => ld4_0 w (t13_p.add (Int.toNat t11 * 4)) fun t14_0 t14_1 t14_2 t14_3 => newV [r2] w fun b7 w3 => 
  sel (t14_0 == r2_0) (loc [r2, b7] w3 fun w7 => ∃ (t23 : Sl) (w8 : World), Sem.run Tryz.prog (Builtin.append_ #[ty_sl_regex_Regex, ty_sl_regex_Regex] ty_sl_regex_Regex #[l5.v, t14_3.v]) w7 = .ok (t23.v) w8 ∧ kept [r2, b7] w7 w8 ∧ S1T r2 r2_0 r2_1 r2_2 r2_3 unit3 t23 t9 t10 t11 w8 R) (loc [r2, b7] w3 fun w7 => nwV w7 (.cells #[.i t14_0, .int .u8 t14_1, .int .u8 t14_2, t14_3.v] ty_regex_Regex) fun w9 => 
  ∃ (t27 : Sl) (w10 : World), Sem.run Tryz.prog (Builtin.append_ #[ty_sl_regex_Regex, ty_sl_regex_Regex] ty_sl_regex_Regex #[l5.v, .slice (some (nb w7)) 1 1]) w9 = .ok (t27.v) w10 ∧ kept [r2, b7] w9 w10 ∧ S1T r2 r2_0 r2_1 r2_2 r2_3 unit3 t27 t9 t10 t11 w10 R)) (cf3 [r2] n_slices_DeleteFunc_sl_regex_Regex_regex_Regex #[l5.v, .func (.func n_regex_flat_1) #[] #[.pointer (some unit3)]] w fun t31 w11 => R (.returned (t31.v)) w11)) : L0T r2 r2_0 r2_1 r2_2 r2_3 unit3 l5 t9 t10 t11 w R := fun H => L0_step _ _ _ _ _ _ w R (sel_imp h (fun h => ⟨h.1, h.2.1, have h := h.2.2; optP_imp h fun t13_p h => let ⟨t14_0, t14_1, t14_2, t14_3, hc0, hc1, hc2, hc3, h⟩ := h; ⟨t14_0, t14_1, t14_2, t14_3, hc0, hc1, hc2, hc3, LC.nwT H (Fr.refl _ _) h fun w3 H h => LC.stT0 H 1 (Fr.refl _ _) rfl rfl fun w4 H f => LC.stT H 1 1 f rfl rfl fun w5 H f => LC.stT H 1 2 f rfl rfl fun w6 H f => LC.stT H 1 3 f rfl rfl fun w7 (H : LC w7 [(r2, [.i r2_0, .int .u8 r2_1, .int .u8 r2_2, r2_3.v], ty_regex_Regex), (w.heap.size, [.i t14_0, .int .u8 t14_1, .int .u8 t14_2, t14_3.v], ty_regex_Regex)]) (f : Fr (· ∈ [r2, w.heap.size]) _ w7) => ⟨_, H.ld 1 0, ⟨_, H.ld 0 0, sel_imp h (fun h => ⟨t14_3, H.ld 1 3, have h := h _ f; let ⟨t23, w8, he, hk, h⟩ := h; have H := LC.keptT H hk; ⟨t23, w8, he, S1T_ok h (H.pick [0] (by decide))⟩⟩) (fun h => ⟨_, _, _, t14_3, H.ld 1 0, H.ld 1 1, H.ld 1 2, H.ld 1 3, have h := h _ f; LC.nwN H h fun w9 H h => let ⟨t27, w10, he, hk, h⟩ := h; have H := LC.keptT H hk; ⟨t27, w10, he, S1T_ok h (H.pick [0] (by decide))⟩⟩)⟩⟩⟩⟩) (fun h => LC.callT H h fun r_ w11 H h => let ⟨t31, hr, h⟩ := h; ⟨t31, hr, h⟩))
theorem okT (r0_0 r0_1 r0_2 : Int) (r0_3 : Sl) (unit1_0 unit1_1 unit1_2 : Int) (unit1_3 : Sl) (w : World) (R : Post) (h : newV [] w fun b2 w1 => 
  nwV w1 (.cells #[.i unit1_0, .int .u8 unit1_1, .int .u8 unit1_2, unit1_3.v] ty_regex_Regex) fun w2 => 
  L0T b2 r0_0 r0_1 r0_2 r0_3 (nb w1) ⟨none, 0, 0⟩ r0_3 ((r0_3.n : Nat) : Int) 0 w2 R) : Calls Tryz.prog n_regex_flat #[.agg #[.i r0_0, .int .u8 r0_1, .int .u8 r0_2, r0_3.v], .agg #[.i unit1_0, .int .u8 unit1_1, .int .u8 unit1_2, unit1_3.v]] w R :=
  ok _ _ _ _ _ _ _ _ w R (LC.nwT (LC.nil _) (Fr.refl _ _) h fun w1 H h => LC.nwN H h fun w2 H h => ⟨r0_3, H.ld 0 3, h H⟩)
end regex_flat
namespace regex_forms_1
noncomputable def C0 : Code := (Tryz.f44.body).getD .skip
/-- enthymeme/regex.forms$1 -/
noncomputable def C1:=C0.sn
noncomputable def C2:=C1.sn
theorem ok (r0_0 r0_1 r0_2 : Int) (r0_3 : Sl) (w : World) (R : Post) (h : nwV w (.cells #[.i r0_0, .int .u8 r0_1, .int .u8 r0_2, r0_3.v] ty_regex_Regex) fun w1 => 
  nwV w1 (.cells #[.i 0, .int .u8 0, .int .u8 0, .slice none 0 0] ty_regex_Regex) fun w2 => 
  ld4_0 w2 (nb w) fun t3_0 t3_1 t3_2 t3_3 => stW4 w2 (nb w1) (.i t3_0) (.int .u8 t3_1) (.int .u8 t3_2) (t3_3.v) fun w6 => ld4_0 w6 (nb w1) fun r2_0 r2_1 r2_2 r2_3 => R (.returned (.agg #[.i r2_0, .int .u8 r2_1, .int .u8 r2_2, r2_3.v])) w6) : Calls Tryz.prog n_regex_forms_1 #[.agg #[.i r0_0, .int .u8 r0_1, .int .u8 r0_2, r0_3.v]] w R :=
  calls_of_WP' (R := R) (fn := Tryz.f44) (c := C0) (args := [.agg #[.i r0_0, .int .u8 r0_1, .int .u8 r0_2, r0_3.v]]) (by kernel_rfl) (by kernel_rfl) (by kernel_rfl) (sr C0 (show (fun (E : Env) (w : World) => srK Tryz.prog C0 (fun E w => srK Tryz.prog C1 (fun E w => retVC Tryz.prog Tryz.f44 E w (fun v => R (.returned v) w)) E w) E w) (envOf 0 [.agg #[.i r0_0, .int .u8 r0_1, .int .u8 r0_2, r0_3.v]]) w from mp h) fun _ _ hK => (sr C1 hK fun _ _ hK => (rt C2 fun a hA => retVC_sound hA hK)))
theorem okT (r0_0 r0_1 r0_2 : Int) (r0_3 : Sl) (w : World) (R : Post) (h : newV [] w fun b1 w1 => 
  newV [b1] w1 fun b2 w2 => 
  loc [b1, b2] w2 fun w6 => R (.returned (.agg #[.i r0_0, .int .u8 r0_1, .int .u8 r0_2, r0_3.v])) w6) : Calls Tryz.prog n_regex_forms_1 #[.agg #[.i r0_0, .int .u8 r0_1, .int .u8 r0_2, r0_3.v]] w R :=
  ok _ _ _ _ w R (LC.nwT (LC.nil _) (Fr.refl _ _) h fun w1 H h => LC.nwT H (Fr.refl _ _) h fun w2 H h => ⟨_, _, _, r0_3, H.ld 0 0, H.ld 0 1, H.ld 0 2, H.ld 0 3, LC.stT0 H 1 (Fr.refl _ _) rfl rfl fun w3 H f => LC.stT H 1 1 f rfl rfl fun w4 H f => LC.stT H 1 2 f rfl rfl fun w5 H f => LC.stT H 1 3 f rfl rfl fun w6 (H : LC w6 [(w.heap.size, [.i r0_0, .int .u8 r0_1, .int .u8 r0_2, r0_3.v], ty_regex_Regex), (w1.heap.size, [.i r0_0, .int .u8 r0_1, .int .u8 r0_2, r0_3.v], ty_regex_Regex)]) (f : Fr (· ∈ [w.heap.size, w1.heap.size]) _ w6) => ⟨_, _, _, r0_3, H.ld 1 0, H.ld 1 1, H.ld 1 2, H.ld 1 3, have h := h _ f; h⟩⟩)
end regex_forms_1
namespace regex_forms_2
noncomputable def C0 : Code := (Tryz.f45.body).getD .skip
/-- enthymeme/regex.forms$2 -/
noncomputable def C1:=C0.sn
noncomputable def C2:=C1.sn
theorem ok (unit0_0 unit0_1 unit0_2 : Int) (unit0_3 : Sl) (zero1_0 zero1_1 zero1_2 : Int) (zero1_3 : Sl) (w : World) (R : Post) (h : nwV w (.cells #[.i unit0_0, .int .u8 unit0_1, .int .u8 unit0_2, unit0_3.v] ty_regex_Regex) fun w1 => 
  nwV w1 (.cells #[.i zero1_0, .int .u8 zero1_1, .int .u8 zero1_2, zero1_3.v] ty_regex_Regex) fun w2 => 
  R (.returned (.func (.func n_regex_forms_2_1) #[] #[.pointer (some (nb w)), .pointer (some (nb w1))])) w2) : Calls Tryz.prog n_regex_forms_2 #[.agg #[.i unit0_0, .int .u8 unit0_1, .int .u8 unit0_2, unit0_3.v], .agg #[.i zero1_0, .int .u8 zero1_1, .int .u8 zero1_2, zero1_3.v]] w R :=
  calls_of_WP' (R := R) (fn := Tryz.f45) (c := C0) (args := [.agg #[.i unit0_0, .int .u8 unit0_1, .int .u8 unit0_2, unit0_3.v], .agg #[.i zero1_0, .int .u8 zero1_1, .int .u8 zero1_2, zero1_3.v]]) (by kernel_rfl) (by kernel_rfl) (by kernel_rfl) (sr C0 (show (fun (E : Env) (w : World) => srK Tryz.prog C0 (fun E w => srK Tryz.prog C1 (fun E w => retVC Tryz.prog Tryz.f45 E w (fun v => R (.returned v) w)) E w) E w) (envOf 0 [.agg #[.i unit0_0, .int .u8 unit0_1, .int .u8 unit0_2, unit0_3.v], .agg #[.i zero1_0, .int .u8 zero1_1, .int .u8 zero1_2, zero1_3.v]]) w from mp h) fun _ _ hK => (sr C1 hK fun _ _ hK => (rt C2 fun a hA => retVC_sound hA hK)))
end regex_forms_2
namespace regex_forms_2_1
noncomputable def C0 : Code := (Tryz.f46.body).getD .skip
noncomputable def C1:=C0.sn
noncomputable def C2:=C1.sn
noncomputable def C3:=C2.sn
noncomputable def C4:=C3.sn
noncomputable def C5:=C4.fs
noncomputable def C6:=C4.sn
abbrev Q0 (R : Post) : ExP := (Exit.then (wpx Tryz.prog (cx 34) C6 (bodyPost Tryz.prog Tryz.f46 R)) (bodyPost Tryz.prog Tryz.f46 R))
noncomputable def C7:=C5.sn
noncomputable def C8:=C7.fs
noncomputable def C9:=C8.sn
noncomputable def C10:=C9.fs
noncomputable def C11:=C9.sn
noncomputable def C12:=C11.sn
noncomputable def C13:=C12.fs
noncomputable def C14:=C10.sn
noncomputable def C15:=C13.sn
noncomputable def C16:=C12.sn
noncomputable def C17:=C6.sn
/-- regex.go:116 -/
abbrev S0 (t1 r3 t4 : Addr) (kids5 : Sl) (w : World) (R : Post) : Prop :=
  sel (((kids5.n : Nat) : Int) == 0) (ld4_0 w t1 fun t24_0 t24_1 t24_2 t24_3 => stW4 w t4 (.i t24_0) (.int .u8 t24_1) (.int .u8 t24_2) (t24_3.v) fun w4 => ld4_0 w4 t4 fun r4_0 r4_1 r4_2 r4_3 => R (.returned (.agg #[.i r4_0, .int .u8 r4_1, .int .u8 r4_2, r4_3.v])) w4) (sel (((kids5.n : Nat) : Int) == 1) ((0 : Int) ≤ 0 ∧ 0 < ((kids5.n : Nat) : Int) ∧ optP kids5.a fun t28_p => ld4_0 w (t28_p.add (Int.toNat 0 * 4)) fun t29_0 t29_1 t29_2 t29_3 => stW4 w t4 (.i t29_0) (.int .u8 t29_1) (.int .u8 t29_2) (t29_3.v) fun w8 => ld4_0 w8 t4 fun r4_0 r4_1 r4_2 r4_3 => R (.returned (.agg #[.i r4_0, .int .u8 r4_1, .int .u8 r4_2, r4_3.v])) w8) (∃ t31 : Int, w.cell? (r3.add 0) = some (.i t31) ∧ 
  stW4 w t4 (.i t31) (.int .u8 0) (.int .u8 0) (kids5.v) fun w12 => ld4_0 w12 t4 fun r4_0 r4_1 r4_2 r4_3 => R (.returned (.agg #[.i r4_0, .int .u8 r4_1, .int .u8 r4_2, r4_3.v])) w12))
def KE_S0 (E : Env) (w : World) (R : Post) : Prop := W.asRef (Env.get? E 1) fun t1 => W.asRef (Env.get? E 3) fun r3 => W.asRef (Env.get? E 4) fun t4 => W.asSlice (Env.get? E 5) fun kids5 => S0 t1 r3 t4 kids5 w R
theorem KE_S0_ok : KOk Tryz.prog 34 KE_S0 C5 Q0 := by
  intro R E w h
  obtain ⟨t1, hq1, h_1⟩ := W.asRef_elim h
  obtain ⟨r3, hq3, h_2⟩ := W.asRef_elim h_1
  obtain ⟨t4, hq4, h_3⟩ := W.asRef_elim h_2
  obtain ⟨kids5, hq5, h_4⟩ := W.asSlice_elim h_3
  exact fun a ha => WP.at (E := [(1, .pointer (some t1)), (3, .pointer (some r3)), (4, .pointer (some t4)), (5, kids5.v)]) (sr C5 (K := fun E w => srK Tryz.prog C8 (fun E w => condK (Env.val E (.tmp 22)) (srK Tryz.prog C10 (fun E w => retVC Tryz.prog Tryz.f46 E w (fun v => R (.returned v) w)) E w) (srK Tryz.prog C11 (fun E w => condK (Env.val E (.tmp 25)) (srK Tryz.prog C13 (fun E w => retVC Tryz.prog Tryz.f46 E w (fun v => R (.returned v) w)) E w) (srK Tryz.prog C6 (fun E w => retVC Tryz.prog Tryz.f46 E w (fun v => R (.returned v) w)) E w)) E w)) E w) (mp h_4) fun _ _ hK => (bk C7 0 (by kernel_rfl) (sr C8 hK fun _ _ hK => (cn C9 hK (fun hK => (sr C10 hK fun _ _ hK => (rt C14 fun a hA => retVC_sound hA hK))) (fun hK => (sr C11 hK fun _ _ hK => (cn C12 hK (fun hK => (sr C13 hK fun _ _ hK => (rt C15 fun a hA => retVC_sound hA hK))) (fun hK => (sk C16 fun a hA => nx hA (sr C6 hK fun _ _ hK => (rt C17 fun a hA => retVC_sound hA hK))))))))))) (ha.cons hq1 (ha.cons hq3 (ha.cons hq4 (ha.cons hq5 ha.nil))))
/-- enthymeme/regex.forms$2$1 -/
noncomputable def C18:=C2.fs
noncomputable def C19:=C18.sn
noncomputable def C20:=C19.fs
noncomputable def C21:=C3.fs
noncomputable def C22:=C21.sn
noncomputable def C23:=C22.fs
noncomputable def C24:=C23.sn
noncomputable def C25:=C20.sn
noncomputable def C26:=C19.sn
noncomputable def C27:=C22.sn
theorem ok (r0_0 r0_1 r0_2 : Int) (r0_3 : Sl) (t1 t2 : Addr) (w : World) (R : Post) (h : nwV w (.cells #[.i r0_0, .int .u8 r0_1, .int .u8 r0_2, r0_3.v] ty_regex_Regex) fun w1 => 
  nwV w1 (.cells #[.i 0, .int .u8 0, .int .u8 0, .slice none 0 0] ty_regex_Regex) fun w2 => 
  ld4_0 w2 (nb w) fun t6_0 t6_1 t6_2 t6_3 => ld4_0 w2 t1 fun t7_0 t7_1 t7_2 t7_3 => ca3 n_regex_flat #[.agg #[.i t6_0, .int .u8 t6_1, .int .u8 t6_2, t6_3.v], .agg #[.i t7_0, .int .u8 t7_1, .int .u8 t7_2, t7_3.v]] w2 fun t8 w3 => ca1 n_slices_ContainsFunc_sl_regex_Regex_regex_Regex #[t8.v, .func (.func n_regex_forms_2_1_1) #[] #[.pointer (some t2)]] w3 fun t11 w4 => sel t11 (ld4_0 w4 t2 fun t12_0 t12_1 t12_2 t12_3 => stW4 w4 (nb w1) (.i t12_0) (.int .u8 t12_1) (.int .u8 t12_2) (t12_3.v) fun w8 => ld4_0 w8 (nb w1) fun r4_0 r4_1 r4_2 r4_3 => R (.returned (.agg #[.i r4_0, .int .u8 r4_1, .int .u8 r4_2, r4_3.v])) w8) (∃ t14 : Int, w4.cell? ((nb w).add 0) = some (.i t14) ∧ 
  sel (t14 != 3) (ca4 n_slices_SortFunc_sl_regex_Regex_regex_Regex #[t8.v, .func (.func n_regex_Compare) #[] #[]] w4 fun w9 => ca3 n_slices_CompactFunc_sl_regex_Regex_regex_Regex #[t8.v, .func (.func n_regex_equal) #[] #[]] w9 fun t19 w10 => S0 t1 (nb w) (nb w1) t19 w10 R) (S0 t1 (nb w) (nb w1) t8 w4 R))) : Calls Tryz.prog n_regex_forms_2_1 #[.agg #[.i r0_0, .int .u8 r0_1, .int .u8 r0_2, r0_3.v], .pointer (some t1), .pointer (some t2)] w R :=
  calls_of_WP' (R := R) (fn := Tryz.f46) (c := C0) (args := [.agg #[.i r0_0, .int .u8 r0_1, .int .u8 r0_2, r0_3.v], .pointer (some t1), .pointer (some t2)]) (by kernel_rfl) (by kernel_rfl) (by kernel_rfl) (sr C0 (show (fun (E : Env) (w : World) => srK Tryz.prog C0 (fun E w => srK Tryz.prog C1 (fun E w => srK Tryz.prog C18 (fun E w => condK (Env.val E (.tmp 11)) (srK Tryz.prog C20 (fun E w => retVC Tryz.prog Tryz.f46 E w (fun v => R (.returned v) w)) E w) (srK Tryz.prog C21 (fun E w => condK (Env.val E (.tmp 15)) (srK Tryz.prog C23 (fun E w => rgK Tryz.prog C24 (fun E w => KE_S0 E w R) E w) E w) (KE_S0 E w R)) E w)) E w) E w) E w) (envOf 0 [.agg #[.i r0_0, .int .u8 r0_1, .int .u8 r0_2, r0_3.v], .pointer (some t1), .pointer (some t2)]) w from mp h) fun _ _ hK => (sr C1 hK fun _ _ hK => (sq C2 (sr C18 hK fun _ _ hK => (cn C19 hK (fun hK => (sr C20 hK fun _ _ hK => (rt C25 fun a hA => retVC_sound hA hK))) (fun hK => (sk C26 fun a hA => nx hA (sq C3 (sr C21 hK fun _ _ hK => (cn C22 hK (fun hK => (sr C23 hK fun _ _ hK => (rg C24 (by kernel_rfl) hK fun _ _ a hA hK => nx hA (sq C4 (KE_S0_ok R _ _ hK))))) (fun hK => (sk C27 fun a hA => nx hA (sq C4 (KE_S0_ok R _ _ hK))))))))))))))
abbrev S0T (t1 : Addr) (r3 : Nat) (r3_0 r3_1 r3_2 : Int) (r3_3 : Sl) (t4 : Nat) (t4_0 t4_1 t4_2 : Int) (t4_3 kids5 : Sl) (w : World) (R : Post) : Prop :=
  sel (((kids5.n : Nat) : Int) == 0) (ld4_0 w t1 fun t24_0 t24_1 t24_2 t24_3 => loc [r3, t4] w fun w4 => R (.returned (.agg #[.i t24_0, .int .u8 t24_1, .int .u8 t24_2, t24_3.v])) w4) (sel (((kids5.n : Nat) : Int) == 1) ((0 : Int) ≤ 0 ∧ 0 < ((kids5.n : Nat) : Int) ∧ optP kids5.a fun t28_p => ld4_0 w (t28_p.add (Int.toNat 0 * 4)) fun t29_0 t29_1 t29_2 t29_3 => loc [r3, t4] w fun w8 => R (.returned (.agg #[.i t29_0, .int .u8 t29_1, .int .u8 t29_2, t29_3.v])) w8) (loc [r3, t4] w fun w12 => R (.returned (.agg #[.i r3_0, .int .u8 0, .int .u8 0, kids5.v])) w12))
theorem S0T_ok {t1 : Addr} {r3 : Nat} {r3_0 r3_1 r3_2 : Int} {r3_3 : Sl} {t4 : Nat} {t4_0 t4_1 t4_2 : Int} {t4_3 kids5 : Sl} {w : World} {R : Post} (h : S0T t1 r3 r3_0 r3_1 r3_2 r3_3 t4 t4_0 t4_1 t4_2 t4_3 kids5 w R) (H : LC w [(r3, [.i r3_0, .int .u8 r3_1, .int .u8 r3_2, r3_3.v], ty_regex_Regex), (t4, [.i t4_0, .int .u8 t4_1, .int .u8 t4_2, t4_3.v], ty_regex_Regex)]) : S0 t1 (at0 r3) (at0 t4) kids5 w R := sel_imp h (fun h => let ⟨t24_0, t24_1, t24_2, t24_3, hc0, hc1, hc2, hc3, h⟩ := h; ⟨t24_0, t24_1, t24_2, t24_3, hc0, hc1, hc2, hc3, LC.stT0 H 1 (Fr.refl _ _) rfl rfl fun w1 H f => LC.stT H 1 1 f rfl rfl fun w2 H f => LC.stT H 1 2 f rfl rfl fun w3 H f => LC.stT H 1 3 f rfl rfl fun w4 (H : LC w4 [(r3, [.i r3_0, .int .u8 r3_1, .int .u8 r3_2, r3_3.v], ty_regex_Regex), (t4, [.i t24_0, .int .u8 t24_1, .int .u8 t24_2, t24_3.v], ty_regex_Regex)]) (f : Fr (· ∈ [r3, t4]) _ w4) => ⟨_, _, _, t24_3, H.ld 1 0, H.ld 1 1, H.ld 1 2, H.ld 1 3, have h := h _ f; h⟩⟩) (fun h => sel_imp h (fun h => ⟨h.1, h.2.1, have h := h.2.2; optP_imp h fun t28_p h => let ⟨t29_0, t29_1, t29_2, t29_3, hc0, hc1, hc2, hc3, h⟩ := h; ⟨t29_0, t29_1, t29_2, t29_3, hc0, hc1, hc2, hc3, LC.stT0 H 1 (Fr.refl _ _) rfl rfl fun w5 H f => LC.stT H 1 1 f rfl rfl fun w6 H f => LC.stT H 1 2 f rfl rfl fun w7 H f => LC.stT H 1 3 f rfl rfl fun w8 (H : LC w8 [(r3, [.i r3_0, .int .u8 r3_1, .int .u8 r3_2, r3_3.v], ty_regex_Regex), (t4, [.i t29_0, .int .u8 t29_1, .int .u8 t29_2, t29_3.v], ty_regex_Regex)]) (f : Fr (· ∈ [r3, t4]) _ w8) => ⟨_, _, _, t29_3, H.ld 1 0, H.ld 1 1, H.ld 1 2, H.ld 1 3, have h := h _ f; h⟩⟩⟩) (fun h => ⟨_, H.ld 0 0, LC.stT0 H 1 (Fr.refl _ _) rfl rfl fun w9 H f => LC.stT H 1 1 f rfl rfl fun w10 H f => LC.stT H 1 2 f rfl rfl fun w11 H f => LC.stT H 1 3 f rfl rfl fun w12 (H : LC w12 [(r3, [.i r3_0, .int .u8 r3_1, .int .u8 r3_2, r3_3.v], ty_regex_Regex), (t4, [.i r3_0, .int .u8 0, .int .u8 0, kids5.v], ty_regex_Regex)]) (f : Fr (· ∈ [r3, t4]) _ w12) => ⟨_, _, _, kids5, H.ld 1 0, H.ld 1 1, H.ld 1 2, H.ld 1 3, have h := h _ f; h⟩⟩))
theorem okT (r0_0 r0_1 r0_2 : Int) (r0_3 : Sl) (t1 t2 : Addr) (w : World) (R : Post) (h : newV [] w fun b3 w1 => 
  newV [b3] w1 fun b4 w2 => 
  ld4_0 w2 t1 fun t7_0 t7_1 t7_2 t7_3 => cf3 [b3, b4] n_regex_flat #[.agg #[.i r0_0, .int .u8 r0_1, .int .u8 r0_2, r0_3.v], .agg #[.i t7_0, .int .u8 t7_1, .int .u8 t7_2, t7_3.v]] w2 fun t8 w3 => cf1 [b3, b4] n_slices_ContainsFunc_sl_regex_Regex_regex_Regex #[t8.v, .func (.func n_regex_forms_2_1_1) #[] #[.pointer (some t2)]] w3 fun t11 w4 => sel t11 (ld4_0 w4 t2 fun t12_0 t12_1 t12_2 t12_3 => loc [b3, b4] w4 fun w8 => R (.returned (.agg #[.i t12_0, .int .u8 t12_1, .int .u8 t12_2, t12_3.v])) w8) (sel (r0_0 != 3) (cf4 [b3, b4] n_slices_SortFunc_sl_regex_Regex_regex_Regex #[t8.v, .func (.func n_regex_Compare) #[] #[]] w4 fun w9 => cf3 [b3, b4] n_slices_CompactFunc_sl_regex_Regex_regex_Regex #[t8.v, .func (.func n_regex_equal) #[] #[]] w9 fun t19 w10 => S0T t1 b3 r0_0 r0_1 r0_2 r0_3 b4 0 0 0 ⟨none, 0, 0⟩ t19 w10 R) (S0T t1 b3 r0_0 r0_1 r0_2 r0_3 b4 0 0 0 ⟨none, 0, 0⟩ t8 w4 R))) : Calls Tryz.prog n_regex_forms_2_1 #[.agg #[.i r0_0, .int .u8 r0_1, .int .u8 r0_2, r0_3.v], .pointer (some t1), .pointer (some t2)] w R :=
  ok _ _ _ _ _ _ w R (LC.nwT (LC.nil _) (Fr.refl _ _) h fun w1 H h => LC.nwT H (Fr.refl _ _) h fun w2 H h => ⟨_, _, _, r0_3, H.ld 0 0, H.ld 0 1, H.ld 0 2, H.ld 0 3, let ⟨t7_0, t7_1, t7_2, t7_3, hc0, hc1, hc2, hc3, h⟩ := h; ⟨t7_0, t7_1, t7_2, t7_3, hc0, hc1, hc2, hc3, LC.callT H h fun r_ w3 H h => let ⟨t8, hr, h⟩ := h; ⟨t8, hr, LC.callT H h fun r_ w4 H h => let ⟨t11, hr, h⟩ := h; ⟨t11, hr, sel_imp h (fun h => let ⟨t12_0, t12_1, t12_2, t12_3, hc0, hc1, hc2, hc3, h⟩ := h; ⟨t12_0, t12_1, t12_2, t12_3, hc0, hc1, hc2, hc3, LC.stT0 H 1 (Fr.refl _ _) rfl rfl fun w5 H f => LC.stT H 1 1 f rfl rfl fun w6 H f => LC.stT H 1 2 f rfl rfl fun w7 H f => LC.stT H 1 3 f rfl rfl fun w8 (H : LC w8 [(w.heap.size, [.i r0_0, .int .u8 r0_1, .int .u8 r0_2, r0_3.v], ty_regex_Regex), (w1.heap.size, [.i t12_0, .int .u8 t12_1, .int .u8 t12_2, t12_3.v], ty_regex_Regex)]) (f : Fr (· ∈ [w.heap.size, w1.heap.size]) _ w8) => ⟨_, _, _, t12_3, H.ld 1 0, H.ld 1 1, H.ld 1 2, H.ld 1 3, have h := h _ f; h⟩⟩) (fun h => ⟨_, H.ld 0 0, sel_imp h (fun h => LC.callT H h fun r_ w9 H h => let ⟨hr, h⟩ := h; ⟨hr, LC.callT H h fun r_ w10 H h => let ⟨t19, hr, h⟩ := h; ⟨t19, hr, S0T_ok h H⟩⟩) (fun h => S0T_ok h H)⟩)⟩⟩⟩⟩)
end regex_forms_2_1
namespace regex_forms_2_1_1
noncomputable def C0 : Code := (Tryz.f49.body).getD .skip
/-- enthymeme/regex.forms$2$1$1 -/
noncomputable def C1:=C0.sn
noncomputable def C2:=C1.sn
theorem ok (k0_0 k0_1 k0_2 : Int) (k0_3 : Sl) (t1 : Addr) (w : World) (R : Post) (h : nwV w (.cells #[.i k0_0, .int .u8 k0_1, .int .u8 k0_2, k0_3.v] ty_regex_Regex) fun w1 => 
  ld4_0 w1 (nb w) fun t4_0 t4_1 t4_2 t4_3 => ld4_0 w1 t1 fun t5_0 t5_1 t5_2 t5_3 => ca1 n_regex_equal #[.agg #[.i t4_0, .int .u8 t4_1, .int .u8 t4_2, t4_3.v], .agg #[.i t5_0, .int .u8 t5_1, .int .u8 t5_2, t5_3.v]] w1 fun t6 w2 => R (.returned (.bool t6)) w2) : Calls Tryz.prog n_regex_forms_2_1_1 #[.agg #[.i k0_0, .int .u8 k0_1, .int .u8 k0_2, k0_3.v], .pointer (some t1)] w R :=
  calls_of_WP' (R := R) (fn := Tryz.f49) (c := C0) (args := [.agg #[.i k0_0, .int .u8 k0_1, .int .u8 k0_2, k0_3.v], .pointer (some t1)]) (by kernel_rfl) (by kernel_rfl) (by kernel_rfl) (sr C0 (show (fun (E : Env) (w : World) => srK Tryz.prog C0 (fun E w => srK Tryz.prog C1 (fun E w => retVC Tryz.prog Tryz.f49 E w (fun v => R (.returned v) w)) E w) E w) (envOf 0 [.agg #[.i k0_0, .int .u8 k0_1, .int .u8 k0_2, k0_3.v], .pointer (some t1)]) w from mp h) fun _ _ hK => (sr C1 hK fun _ _ hK => (rt C2 fun a hA => retVC_sound hA hK)))
theorem okT (k0_0 k0_1 k0_2 : Int) (k0_3 : Sl) (t1 : Addr) (w : World) (R : Post) (h : newV [] w fun b2 w1 => 
  ld4_0 w1 t1 fun t5_0 t5_1 t5_2 t5_3 => cf1 [b2] n_regex_equal #[.agg #[.i k0_0, .int .u8 k0_1, .int .u8 k0_2, k0_3.v], .agg #[.i t5_0, .int .u8 t5_1, .int .u8 t5_2, t5_3.v]] w1 fun t6 w2 => R (.returned (.bool t6)) w2) : Calls Tryz.prog n_regex_forms_2_1_1 #[.agg #[.i k0_0, .int .u8 k0_1, .int .u8 k0_2, k0_3.v], .pointer (some t1)] w R :=
  ok _ _ _ _ _ w R (LC.nwT (LC.nil _) (Fr.refl _ _) h fun w1 H h => ⟨_, _, _, k0_3, H.ld 0 0, H.ld 0 1, H.ld 0 2, H.ld 0 3, let ⟨t5_0, t5_1, t5_2, t5_3, hc0, hc1, hc2, hc3, h⟩ := h; ⟨t5_0, t5_1, t5_2, t5_3, hc0, hc1, hc2, hc3, LC.callT H h fun r_ w2 H h => let ⟨t6, hr, h⟩ := h; ⟨t6, hr, h⟩⟩⟩)
end regex_forms_2_1_1
namespace regex_forms_3
noncomputable def C0 : Code := (Tryz.f53.body).getD .skip
/-- enthymeme/regex.forms$3 -/
noncomputable def C1:=C0.sn
noncomputable def C2:=C1.fs
noncomputable def C3:=C2.sn
noncomputable def C4:=C3.fs
noncomputable def C5:=C1.sn
noncomputable def C6:=C4.sn
noncomputable def C7:=C3.sn
noncomputable def C8:=C5.sn
theorem ok (r0_0 r0_1 r0_2 : Int) (r0_3 : Sl) (w : World) (R : Post) (h : nwV w (.cells #[.i r0_0, .int .u8 r0_1, .int .u8 r0_2, r0_3.v] ty_regex_Regex) fun w1 => 
  nwV w1 (.cells #[.i 0, .int .u8 0, .int .u8 0, .slice none 0 0] ty_regex_Regex) fun w2 => 
  ∃ t4 : Sl, w2.cell? ((nb w).add 3) = some (t4.v) ∧ 
  (0 : Int) ≤ 0 ∧ 0 < ((t4.n : Nat) : Int) ∧ optP t4.a fun t5_p => ∃ t7 : Int, w2.cell? ((t5_p.add (Int.toNat 0 * 4)).add 0) = some (.i t7) ∧ 
  sel (t7 == 6) (∃ t10 : Sl, w2.cell? ((nb w).add 3) = some (t10.v) ∧ 
  (0 : Int) ≤ 0 ∧ 0 < ((t10.n : Nat) : Int) ∧ optP t10.a fun t11_p => ∃ t13 : Sl, w2.cell? ((t11_p.add (Int.toNat 0 * 4)).add 3) = some (t13.v) ∧ 
  (0 : Int) ≤ 0 ∧ 0 < ((t13.n : Nat) : Int) ∧ optP t13.a fun t14_p => ld4_0 w2 (t14_p.add (Int.toNat 0 * 4)) fun t15_0 t15_1 t15_2 t15_3 => stW4 w2 (nb w1) (.i t15_0) (.int .u8 t15_1) (.int .u8 t15_2) (t15_3.v) fun w6 => ld4_0 w6 (nb w1) fun r2_0 r2_1 r2_2 r2_3 => R (.returned (.agg #[.i r2_0, .int .u8 r2_1, .int .u8 r2_2, r2_3.v])) w6) (ld4_0 w2 (nb w) fun t16_0 t16_1 t16_2 t16_3 => stW4 w2 (nb w1) (.i t16_0) (.int .u8 t16_1) (.int .u8 t16_2) (t16_3.v) fun w10 => ld4_0 w10 (nb w1) fun r2_0 r2_1 r2_2 r2_3 => R (.returned (.agg #[.i r2_0, .int .u8 r2_1, .int .u8 r2_2, r2_3.v])) w10)) : Calls Tryz.prog n_regex_forms_3 #[.agg #[.i r0_0, .int .u8 r0_1, .int .u8 r0_2, r0_3.v]] w R :=
  calls_of_WP' (R := R) (fn := Tryz.f53) (c := C0) (args := [.agg #[.i r0_0, .int .u8 r0_1, .int .u8 r0_2, r0_3.v]]) (by kernel_rfl) (by kernel_rfl) (by kernel_rfl) (sr C0 (show (fun (E : Env) (w : World) => srK Tryz.prog C0 (fun E w => srK Tryz.prog C2 (fun E w => condK (Env.val E (.tmp 8)) (srK Tryz.prog C4 (fun E w => retVC Tryz.prog Tryz.f53 E w (fun v => R (.returned v) w)) E w) (srK Tryz.prog C5 (fun E w => retVC Tryz.prog Tryz.f53 E w (fun v => R (.returned v) w)) E w)) E w) E w) (envOf 0 [.agg #[.i r0_0, .int .u8 r0_1, .int .u8 r0_2, r0_3.v]]) w from mp h) fun _ _ hK => (sq C1 (sr C2 hK fun _ _ hK => (cn C3 hK (fun hK => (sr C4 hK fun _ _ hK => (rt C6 fun a hA => retVC_sound hA hK))) (fun hK => (sk C7 fun a hA => nx hA (sr C5 hK fun _ _ hK => (rt C8 fun a hA => retVC_sound hA hK))))))))
theorem okT (r0_0 r0_1 r0_2 : Int) (r0_3 : Sl) (w : World) (R : Post) (h : newV [] w fun b1 w1 => 
  newV [b1] w1 fun b2 w2 => 
  (0 : Int) ≤ 0 ∧ 0 < ((r0_3.n : Nat) : Int) ∧ optP r0_3.a fun t5_p => ∃ t7 : Int, w2.cell? ((t5_p.add (Int.toNat 0 * 4)).add 0) = some (.i t7) ∧ 
  sel (t7 == 6) ((0 : Int) ≤ 0 ∧ 0 < ((r0_3.n : Nat) : Int) ∧ optP r0_3.a fun t11_p => ∃ t13 : Sl, w2.cell? ((t11_p.add (Int.toNat 0 * 4)).add 3) = some (t13.v) ∧ 
  (0 : Int) ≤ 0 ∧ 0 < ((t13.n : Nat) : Int) ∧ optP t13.a fun t14_p => ld4_0 w2 (t14_p.add (Int.toNat 0 * 4)) fun t15_0 t15_1 t15_2 t15_3 => loc [b1, b2] w2 fun w6 => R (.returned (.agg #[.i t15_0, .int .u8 t15_1, .int .u8 t15_2, t15_3.v])) w6) (loc [b1, b2] w2 fun w10 => R (.returned (.agg #[.i r0_0, .int .u8 r0_1, .int .u8 r0_2, r0_3.v])) w10)) : Calls Tryz.prog n_regex_forms_3 #[.agg #[.i r0_0, .int .u8 r0_1, .int .u8 r0_2, r0_3.v]] w R :=
  ok _ _ _ _ w R (LC.nwT (LC.nil _) (Fr.refl _ _) h fun w1 H h => LC.nwT H (Fr.refl _ _) h fun w2 H h => ⟨r0_3, H.ld 0 3, ⟨h.1, h.2.1, have h := h.2.2; optP_imp h fun t5_p h => let ⟨t7, hc0, h⟩ := h; ⟨t7, hc0, sel_imp h (fun h => ⟨r0_3, H.ld 0 3, ⟨h.1, h.2.1, have h := h.2.2; optP_imp h fun t11_p h => let ⟨t13, hc0, h⟩ := h; ⟨t13, hc0, ⟨h.1, h.2.1, have h := h.2.2; optP_imp h fun t14_p h => let ⟨t15_0, t15_1, t15_2, t15_3, hc0, hc1, hc2, hc3, h⟩ := h; ⟨t15_0, t15_1, t15_2, t15_3, hc0, hc1, hc2, hc3, LC.stT0 H 1 (Fr.refl _ _) rfl rfl fun w3 H f => LC.stT H 1 1 f rfl rfl fun w4 H f => LC.stT H 1 2 f rfl rfl fun w5 H f => LC.stT H 1 3 f rfl rfl fun w6 (H : LC w6 [(w.heap.size, [.i r0_0, .int .u8 r0_1, .int .u8 r0_2, r0_3.v], ty_regex_Regex), (w1.heap.size, [.i t15_0, .int .u8 t15_1, .int .u8 t15_2, t15_3.v], ty_regex_Regex)]) (f : Fr (· ∈ [w.heap.size, w1.heap.size]) _ w6) => ⟨_, _, _, t15_3, H.ld 1 0, H.ld 1 1, H.ld 1 2, H.ld 1 3, have h := h _ f; h⟩⟩⟩⟩⟩⟩) (fun h => ⟨_, _, _, r0_3, H.ld 0 0, H.ld 0 1, H.ld 0 2, H.ld 0 3, LC.stT0 H 1 (Fr.refl _ _) rfl rfl fun w7 H f => LC.stT H 1 1 f rfl rfl fun w8 H f => LC.stT H 1 2 f rfl rfl fun w9 H f => LC.stT H 1 3 f rfl rfl fun w10 (H : LC w10 [(w.heap.size, [.i r0_0, .int .u8 r0_1, .int .u8 r0_2, r0_3.v], ty_regex_Regex), (w1.heap.size, [.i r0_0, .int .u8 r0_1, .int .u8 r0_2, r0_3.v], ty_regex_Regex)]) (f : Fr (· ∈ [w.heap.size, w1.heap.size]) _ w10) => ⟨_, _, _, r0_3, H.ld 1 0, H.ld 1 1, H.ld 1 2, H.ld 1 3, have h := h _ f; h⟩⟩)⟩⟩⟩)
end regex_forms_3
namespace regex_forms_4
noncomputable def C0 : Code := (Tryz.f54.body).getD .skip
noncomputable def C1:=C0.sn
noncomputable def C2:=C1.sn
noncomputable def C3:=C2.fs
noncomputable def C4:=C3.sn
noncomputable def C5:=C4.fs
noncomputable def C6:=C2.sn
abbrev Q0 (R : Post) : ExP := (Exit.then (wpx Tryz.prog (cx 29) C6 (bodyPost Tryz.prog Tryz.f54 R)) (bodyPost Tryz.prog Tryz.f54 R))
noncomputable def C7:=C5.sn
/-- regex.go:141 -/
abbrev S0 (t1 t4 : Addr) (w : World) (R : Post) : Prop :=
  ld4_0 w t1 fun t18_0 t18_1 t18_2 t18_3 => stW4 w t4 (.i t18_0) (.int .u8 t18_1) (.int .u8 t18_2) (t18_3.v) fun w4 => ld4_0 w4 t4 fun r4_0 r4_1 r4_2 r4_3 => R (.returned (.agg #[.i r4_0, .int .u8 r4_1, .int .u8 r4_2, r4_3.v])) w4
def KE_S0 (E : Env) (w : World) (R : Post) : Prop := W.asRef (Env.get? E 1) fun t1 => W.asRef (Env.get? E 4) fun t4 => S0 t1 t4 w R
theorem KE_S0_ok : KOk Tryz.prog 29 KE_S0 C5 Q0 := by
  intro R E w h
  obtain ⟨t1, hq1, h_1⟩ := W.asRef_elim h
  obtain ⟨t4, hq4, h_2⟩ := W.asRef_elim h_1
  exact fun a ha => WP.at (E := [(1, .pointer (some t1)), (4, .pointer (some t4))]) (sr C5 (K := fun E w => retVC Tryz.prog Tryz.f54 E w (fun v => R (.returned v) w)) (mp h_2) fun _ _ hK => (rt C7 fun a hA => retVC_sound hA hK)) (ha.cons hq1 (ha.cons hq4 ha.nil))
noncomputable def C8:=C6.fs
noncomputable def C9:=C8.sn
noncomputable def C10:=C9.fs
noncomputable def C11:=C6.sn
abbrev Q1 (R : Post) : ExP := (Exit.then (wpx Tryz.prog (cx 29) C11 (bodyPost Tryz.prog Tryz.f54 R)) (bodyPost Tryz.prog Tryz.f54 R))
noncomputable def C12:=C10.sn
/-- regex.go:144 -/
abbrev S1 (t4 k5 : Addr) (w : World) (R : Post) : Prop :=
  ld4_0 w k5 fun t27_0 t27_1 t27_2 t27_3 => stW4 w t4 (.i t27_0) (.int .u8 t27_1) (.int .u8 t27_2) (t27_3.v) fun w4 => ld4_0 w4 t4 fun r4_0 r4_1 r4_2 r4_3 => R (.returned (.agg #[.i r4_0, .int .u8 r4_1, .int .u8 r4_2, r4_3.v])) w4
def KE_S1 (E : Env) (w : World) (R : Post) : Prop := W.asRef (Env.get? E 4) fun t4 => W.asRef (Env.get? E 5) fun k5 => S1 t4 k5 w R
theorem KE_S1_ok : KOk Tryz.prog 29 KE_S1 C10 Q1 := by
  intro R E w h
  obtain ⟨t4, hq4, h_1⟩ := W.asRef_elim h
  obtain ⟨k5, hq5, h_2⟩ := W.asRef_elim h_1
  exact fun a ha => WP.at (E := [(4, .pointer (some t4)), (5, .pointer (some k5))]) (sr C10 (K := fun E w => retVC Tryz.prog Tryz.f54 E w (fun v => R (.returned v) w)) (mp h_2) fun _ _ hK => (rt C12 fun a hA => retVC_sound hA hK)) (ha.cons hq4 (ha.cons hq5 ha.nil))
/-- enthymeme/regex.forms$4 -/
noncomputable def C13:=C4.sn
noncomputable def C14:=C9.sn
noncomputable def C15:=C11.sn
theorem ok (r0_0 r0_1 r0_2 : Int) (r0_3 : Sl) (t1 t2 : Addr) (w : World) (R : Post) (h : nwV w (.cells #[.i r0_0, .int .u8 r0_1, .int .u8 r0_2, r0_3.v] ty_regex_Regex) fun w1 => 
  nwV w1 (.cells #[.i 0, .int .u8 0, .int .u8 0, .slice none 0 0] ty_regex_Regex) fun w2 => 
  ∃ t7 : Sl, w2.cell? ((nb w).add 3) = some (t7.v) ∧ 
  (0 : Int) ≤ 0 ∧ 0 < ((t7.n : Nat) : Int) ∧ optP t7.a fun t8_p => ld4_0 w2 (t8_p.add (Int.toNat 0 * 4)) fun t9_0 t9_1 t9_2 t9_3 => nwV w2 (.cells #[.i 0, .int .u8 0, .int .u8 0, .slice none 0 0] ty_regex_Regex) fun w3 => 
  stW4 w3 (nb w2) (.i t9_0) (.int .u8 t9_1) (.int .u8 t9_2) (t9_3.v) fun w7 => ∃ t11 : Int, w7.cell? ((nb w2).add 0) = some (.i t11) ∧ 
  sel (t11 == 0) (S0 t1 (nb w1) w7 R) (∃ t15 : Int, w7.cell? ((nb w2).add 0) = some (.i t15) ∧ 
  sel (t15 == 1) (S0 t1 (nb w1) w7 R) (∃ t20 : Int, w7.cell? ((nb w2).add 0) = some (.i t20) ∧ 
  sel (t20 == 7) (S1 (nb w1) (nb w2) w7 R) (ld4_0 w7 (nb w2) fun t23_0 t23_1 t23_2 t23_3 => ld4_0 w7 t2 fun t24_0 t24_1 t24_2 t24_3 => ca1 n_regex_equal #[.agg #[.i t23_0, .int .u8 t23_1, .int .u8 t23_2, t23_3.v], .agg #[.i t24_0, .int .u8 t24_1, .int .u8 t24_2, t24_3.v]] w7 fun t25 w8 => sel t25 (S1 (nb w1) (nb w2) w8 R) (ld4_0 w8 (nb w) fun t28_0 t28_1 t28_2 t28_3 => stW4 w8 (nb w1) (.i t28_0) (.int .u8 t28_1) (.int .u8 t28_2) (t28_3.v) fun w12 => ld4_0 w12 (nb w1) fun r4_0 r4_1 r4_2 r4_3 => R (.returned (.agg #[.i r4_0, .int .u8 r4_1, .int .u8 r4_2, r4_3.v])) w12))))) : Calls Tryz.prog n_regex_forms_4 #[.agg #[.i r0_0, .int .u8 r0_1, .int .u8 r0_2, r0_3.v], .pointer (some t1), .pointer (some t2)] w R :=
  calls_of_WP' (R := R) (fn := Tryz.f54) (c := C0) (args := [.agg #[.i r0_0, .int .u8 r0_1, .int .u8 r0_2, r0_3.v], .pointer (some t1), .pointer (some t2)]) (by kernel_rfl) (by kernel_rfl) (by kernel_rfl) (sr C0 (show (fun (E : Env) (w : World) => srK Tryz.prog C0 (fun E w => srK Tryz.prog C1 (fun E w => srK Tryz.prog C3 (fun E w => condK (Env.val E (.tmp 17)) (KE_S0 E w R) (srK Tryz.prog C8 (fun E w => condK (Env.val E (.tmp 26)) (KE_S1 E w R) (srK Tryz.prog C11 (fun E w => retVC Tryz.prog Tryz.f54 E w (fun v => R (.returned v) w)) E w)) E w)) E w) E w) E w) (envOf 0 [.agg #[.i r0_0, .int .u8 r0_1, .int .u8 r0_2, r0_3.v], .pointer (some t1), .pointer (some t2)]) w from mp h) fun _ _ hK => (sr C1 hK fun _ _ hK => (sq C2 (sr C3 hK fun _ _ hK => (cn C4 hK (fun hK => (KE_S0_ok R _ _ hK)) (fun hK => (sk C13 fun a hA => nx hA (sq C6 (sr C8 hK fun _ _ hK => (cn C9 hK (fun hK => (KE_S1_ok R _ _ hK)) (fun hK => (sk C14 fun a hA => nx hA (sr C11 hK fun _ _ hK => (rt C15 fun a hA => retVC_sound hA hK))))))))))))))
abbrev S0T (t1 : Addr) (t4 : Nat) (t4_0 t4_1 t4_2 : Int) (t4_3 : Sl) (w : World) (R : Post) : Prop :=
  ld4_0 w t1 fun t18_0 t18_1 t18_2 t18_3 => loc [t4] w fun w4 => R (.returned (.agg #[.i t18_0, .int .u8 t18_1, .int .u8 t18_2, t18_3.v])) w4
theorem S0T_ok {t1 : Addr} {t4 : Nat} {t4_0 t4_1 t4_2 : Int} {t4_3 : Sl} {w : World} {R : Post} (h : S0T t1 t4 t4_0 t4_1 t4_2 t4_3 w R) (H : LC w [(t4, [.i t4_0, .int .u8 t4_1, .int .u8 t4_2, t4_3.v], ty_regex_Regex)]) : S0 t1 (at0 t4) w R := let ⟨t18_0, t18_1, t18_2, t18_3, hc0, hc1, hc2, hc3, h⟩ := h; ⟨t18_0, t18_1, t18_2, t18_3, hc0, hc1, hc2, hc3, LC.stT0 H 0 (Fr.refl _ _) rfl rfl fun w1 H f => LC.stT H 0 1 f rfl rfl fun w2 H f => LC.stT H 0 2 f rfl rfl fun w3 H f => LC.stT H 0 3 f rfl rfl fun w4 (H : LC w4 [(t4, [.i t18_0, .int .u8 t18_1, .int .u8 t18_2, t18_3.v], ty_regex_Regex)]) (f : Fr (· ∈ [t4]) _ w4) => ⟨_, _, _, t18_3, H.ld 0 0, H.ld 0 1, H.ld 0 2, H.ld 0 3, have h := h _ f; h⟩⟩
abbrev S1T (t4 : Nat) (t4_0 t4_1 t4_2 : Int) (t4_3 : Sl) (k5 : Nat) (k5_0 k5_1 k5_2 : Int) (k5_3 : Sl) (w : World) (R : Post) : Prop :=
  loc [t4, k5] w fun w4 => R (.returned (.agg #[.i k5_0, .int .u8 k5_1, .int .u8 k5_2, k5_3.v])) w4
theorem S1T_ok {t4 : Nat} {t4_0 t4_1 t4_2 : Int} {t4_3 : Sl} {k5 : Nat} {k5_0 k5_1 k5_2 : Int} {k5_3 : Sl} {w : World} {R : Post} (h : S1T t4 t4_0 t4_1 t4_2 t4_3 k5 k5_0 k5_1 k5_2 k5_3 w R) (H : LC w [(t4, [.i t4_0, .int .u8 t4_1, .int .u8 t4_2, t4_3.v], ty_regex_Regex), (k5, [.i k5_0, .int .u8 k5_1, .int .u8 k5_2, k5_3.v], ty_regex_Regex)]) : S1 (at0 t4) (at0 k5) w R := ⟨_, _, _, k5_3, H.ld 1 0, H.ld 1 1, H.ld 1 2, H.ld 1 3, LC.stT0 H 0 (Fr.refl _ _) rfl rfl fun w1 H f => LC.stT H 0 1 f rfl rfl fun w2 H f => LC.stT H 0 2 f rfl rfl fun w3 H f => LC.stT H 0 3 f rfl rfl fun w4 (H : LC w4 [(t4, [.i k5_0, .int .u8 k5_1, .int .u8 k5_2, k5_3.v], ty_regex_Regex), (k5, [.i k5_0, .int .u8 k5_1, .int .u8 k5_2, k5_3.v], ty_regex_Regex)]) (f : Fr (· ∈ [t4, k5]) _ w4) => ⟨_, _, _, k5_3, H.ld 0 0, H.ld 0 1, H.ld 0 2, H.ld 0 3, have h := h _ f; h⟩⟩
theorem okT (r0_0 r0_1 r0_2 : Int) (r0_3 : Sl) (t1 t2 : Addr) (w : World) (R : Post) (h : newV [] w fun b3 w1 => 
  newV [b3] w1 fun b4 w2 => 
  (0 : Int) ≤ 0 ∧ 0 < ((r0_3.n : Nat) : Int) ∧ optP r0_3.a fun t8_p => ld4_0 w2 (t8_p.add (Int.toNat 0 * 4)) fun t9_0 t9_1 t9_2 t9_3 => newV [b3, b4] w2 fun b5 w3 => 
  sel (t9_0 == 0) (loc [b3, b4, b5] w3 fun w7 => S0T t1 b4 0 0 0 ⟨none, 0, 0⟩ w7 R) (sel (t9_0 == 1) (loc [b3, b4, b5] w3 fun w7 => S0T t1 b4 0 0 0 ⟨none, 0, 0⟩ w7 R) (sel (t9_0 == 7) (loc [b3, b4, b5] w3 fun w7 => S1T b4 0 0 0 ⟨none, 0, 0⟩ b5 t9_0 t9_1 t9_2 t9_3 w7 R) (loc [b3, b4, b5] w3 fun w7 => ld4_0 w7 t2 fun t24_0 t24_1 t24_2 t24_3 => cf1 [b3, b4, b5] n_regex_equal #[.agg #[.i t9_0, .int .u8 t9_1, .int .u8 t9_2, t9_3.v], .agg #[.i t24_0, .int .u8 t24_1, .int .u8 t24_2, t24_3.v]] w7 fun t25 w8 => sel t25 (S1T b4 0 0 0 ⟨none, 0, 0⟩ b5 t9_0 t9_1 t9_2 t9_3 w8 R) (loc [b3, b4, b5] w8 fun w12 => R (.returned (.agg #[.i r0_0, .int .u8 r0_1, .int .u8 r0_2, r0_3.v])) w12))))) : Calls Tryz.prog n_regex_forms_4 #[.agg #[.i r0_0, .int .u8 r0_1, .int .u8 r0_2, r0_3.v], .pointer (some t1), .pointer (some t2)] w R :=
  ok _ _ _ _ _ _ w R (LC.nwT (LC.nil _) (Fr.refl _ _) h fun w1 H h => LC.nwT H (Fr.refl _ _) h fun w2 H h => ⟨r0_3, H.ld 0 3, ⟨h.1, h.2.1, have h := h.2.2; optP_imp h fun t8_p h => let ⟨t9_0, t9_1, t9_2, t9_3, hc0, hc1, hc2, hc3, h⟩ := h; ⟨t9_0, t9_1, t9_2, t9_3, hc0, hc1, hc2, hc3, LC.nwT H (Fr.refl _ _) h fun w3 (H : LC w3 [(w.heap.size, [.i r0_0, .int .u8 r0_1, .int .u8 r0_2, r0_3.v], ty_regex_Regex), (w1.heap.size, [.i 0, .int .u8 0, .int .u8 0, .slice none 0 0], ty_regex_Regex), (w2.heap.size, [.i 0, .int .u8 0, .int .u8 0, .slice none 0 0], ty_regex_Regex)]) h => LC.stT0 H 2 (Fr.refl _ _) rfl rfl fun w4 H f => LC.stT H 2 1 f rfl rfl fun w5 H f => LC.stT H 2 2 f rfl rfl fun w6 H f => LC.stT H 2 3 f rfl rfl fun w7 (H : LC w7 [(w.heap.size, [.i r0_0, .int .u8 r0_1, .int .u8 r0_2, r0_3.v], ty_regex_Regex), (w1.heap.size, [.i 0, .int .u8 0, .int .u8 0, .slice none 0 0], ty_regex_Regex), (w2.heap.size, [.i t9_0, .int .u8 t9_1, .int .u8 t9_2, t9_3.v], ty_regex_Regex)]) (f : Fr (· ∈ [w.heap.size, w1.heap.size, w2.heap.size]) _ w7) => ⟨_, H.ld 2 0, sel_imp h (fun h => have h := h _ f; S0T_ok h (H.pick [1] (by decide))) (fun h => ⟨_, H.ld 2 0, sel_imp h (fun h => have h := h _ f; S0T_ok h (H.pick [1] (by decide))) (fun h => ⟨_, H.ld 2 0, sel_imp h (fun h => have h := h _ f; S1T_ok h (H.pick [1, 2] (by decide))) (fun h => ⟨_, _, _, t9_3, H.ld 2 0, H.ld 2 1, H.ld 2 2, H.ld 2 3, have h := h _ f; let ⟨t24_0, t24_1, t24_2, t24_3, hc0, hc1, hc2, hc3, h⟩ := h; ⟨t24_0, t24_1, t24_2, t24_3, hc0, hc1, hc2, hc3, LC.callT H h fun r_ w8 H h => let ⟨t25, hr, h⟩ := h; ⟨t25, hr, sel_imp h (fun h => S1T_ok h (H.pick [1, 2] (by decide))) (fun h => ⟨_, _, _, r0_3, H.ld 0 0, H.ld 0 1, H.ld 0 2, H.ld 0 3, LC.stT0 H 1 (Fr.refl _ _) rfl rfl fun w9 H f => LC.stT H 1 1 f rfl rfl fun w10 H f => LC.stT H 1 2 f rfl rfl fun w11 H f => LC.stT H 1 3 f rfl rfl fun w12 (H : LC w12 [(w.heap.size, [.i r0_0, .int .u8 r0_1, .int .u8 r0_2, r0_3.v], ty_regex_Regex), (w1.heap.size, [.i r0_0, .int .u8 r0_1, .int .u8 r0_2, r0_3.v], ty_regex_Regex), (w2.heap.size, [.i t9_0, .int .u8 t9_1, .int .u8 t9_2, t9_3.v], ty_regex_Regex)]) (f : Fr (· ∈ [w.heap.size, w1.heap.size, w2.heap.size]) _ w12) => ⟨_, _, _, r0_3, H.ld 1 0, H.ld 1 1, H.ld 1 2, H.ld 1 3, have h := h _ f; h⟩⟩)⟩⟩⟩)⟩)⟩)⟩⟩⟩⟩)
end regex_forms_4
namespace regex_normal
noncomputable def C0 : Code := (Tryz.f25.body).getD .skip
noncomputable def C1:=C0.sn
noncomputable def C2:=C1.sn
noncomputable def C3:=C2.fs
noncomputable def C4:=C3.sn
noncomputable def C5:=C4.fs
noncomputable def C6:=C5.fs
noncomputable def C7:=C2.sn
abbrev Q0 (R : Post) : ExP := (Exit.then (wpx Tryz.prog (cx 37) C7 (bodyPost Tryz.prog Tryz.f25 R)) (bodyPost Tryz.prog Tryz.f25 R))
abbrev Q1 (R : Post) : ExP := (Exit.inBlock 0 (Q0 R))
/-- the head of the loop, regex.go:167 -/
def L0 (f0 : Option Nat) (r3 t4 n5 : Addr) (t16 : Sl) (t17 t18 : Int) (w : World) (R : Post) : Prop := LP Tryz.prog (cx 37) C6 (Q1 R) [(0, .map f0), (3, .pointer (some r3)), (4, .pointer (some t4)), (5, .pointer (some n5)), (16, t16.v), (17, .i t17), (18, .i t18)] w
def KE_L0 (E : Env) (w : World) (R : Post) : Prop := W.asMap (Env.get? E 0) fun f0 => W.asRef (Env.get? E 3) fun r3 => W.asRef (Env.get? E 4) fun t4 => W.asRef (Env.get? E 5) fun n5 => W.asSlice (Env.get? E 16) fun t16 => W.asInt .i64 (Env.get? E 17) fun t17 => W.asInt .i64 (Env.get? E 18) fun t18 => L0 f0 r3 t4 n5 t16 t17 t18 w R
theorem KE_L0_ok : LOk Tryz.prog 37 KE_L0 C6 Q1 := by
  intro R E w h
  obtain ⟨f0, hq0, h_1⟩ := W.asMap_elim h
  obtain ⟨r3, hq3, h_2⟩ := W.asRef_elim h_1
  obtain ⟨t4, hq4, h_3⟩ := W.asRef_elim h_2
  obtain ⟨n5, hq5, h_4⟩ := W.asRef_elim h_3
  obtain ⟨t16, hq16, h_5⟩ := W.asSlice_elim h_4
  obtain ⟨t17, hq17, h_6⟩ := W.asInt_elim h_5
  obtain ⟨t18, hq18, h_7⟩ := W.asInt_elim h_6
  intro a ha
  exact h_7 a (ha.cons hq0 (ha.cons hq3 (ha.cons hq4 (ha.cons hq5 (ha.cons hq16 (ha.cons hq17 (ha.cons hq18 ha.nil)))))))
noncomputable def C8:=C6.sn
noncomputable def C9:=C8.sn
noncomputable def C10:=C9.fs
noncomputable def C11:=C10.fs
noncomputable def C12:=C11.sn
noncomputable def C13:=C9.sn
noncomputable def C14:=C8.fs
noncomputable def C15:=C14.fs
noncomputable def C16:=C14.sn
noncomputable def C17:=C7.sn
theorem L0_step (f0 : Option Nat) (r3 t4 n5 : Addr) (t16 : Sl) (t17 t18 : Int) (w : World) (R : Post) (h : sel (decide (t18 < t17)) ((0 : Int) ≤ t18 ∧ t18 < ((t16.n : Nat) : Int) ∧ optP t16.a fun t20_p => ld4_0 w (t20_p.add (Int.toNat t18 * 4)) fun t21_0 t21_1 t21_2 t21_3 => nwV w (.cells #[.i 0, .int .u8 0, .int .u8 0, .slice none 0 0] ty_regex_Regex) fun w8 => 
  stW4 w8 (nb w) (.i t21_0) (.int .u8 t21_1) (.int .u8 t21_2) (t21_3.v) fun w12 => drV w12 fun w13 => ∃ t23 : Sl, w13.cell? (n5.add 3) = some (t23.v) ∧ 
  ld4_0 w13 (nb w) fun t25_0 t25_1 t25_2 t25_3 => ca2 n_regex_normal #[.map f0, .agg #[.i t25_0, .int .u8 t25_1, .int .u8 t25_2, t25_3.v]] w13 fun t26_0 t26_1 t26_2 t26_3 w14 => w14.cell? (n5.add 3) = some (t23.v) ∧ nwV w14 (.cells #[.i t26_0, .int .u8 t26_1, .int .u8 t26_2, t26_3.v] ty_regex_Regex) fun w15 => 
  w15.cell? (n5.add 3) = some (t23.v) ∧ ∃ (t28 : Sl) (w16 : World), Sem.run Tryz.prog (Builtin.append_ #[ty_sl_regex_Regex, ty_sl_regex_Regex] ty_sl_regex_Regex #[t23.v, .slice (some (nb w14)) 1 1]) w15 = .ok (t28.v) w16 ∧ stV w16 (n5.add 3) (t28.v) fun w17 => 
  L0 f0 r3 t4 n5 t16 t17 (IntKind.wrap .i64 (t18 + 1)) w17 R) (∃ t33 : Int, w.cell? (r3.add 0) = some (.i t33) ∧ 
  ∃ t34_x1 : Fv, Sem.run Tryz.prog (Instr.lookup ty_map_int_func_regex_Regex_regex_Regex (.map f0) (.i t33) false) w = .ok (t34_x1.v) w ∧ ld4_0 w n5 fun t35_0 t35_1 t35_2 t35_3 => AndT (callable Tryz.prog t34_x1.n) (Calls Tryz.prog t34_x1.n (t34_x1.bs ++ #[.agg #[.i t35_0, .int .u8 t35_1, .int .u8 t35_2, t35_3.v]] ++ t34_x1.cs) w fun r_ w18 => ∃ t36_0 : Int, ∃ t36_1 : Int, ∃ t36_2 : Int, ∃ t36_3 : Sl, r_ = .returned (.agg #[.i t36_0, .int .u8 t36_1, .int .u8 t36_2, t36_3.v]) ∧ 
  stW4 w18 t4 (.i t36_0) (.int .u8 t36_1) (.int .u8 t36_2) (t36_3.v) fun w22 => ld4_0 w22 t4 fun r4_0 r4_1 r4_2 r4_3 => R (.returned (.agg #[.i r4_0, .int .u8 r4_1, .int .u8 r4_2, r4_3.v])) w22))) : L0 f0 r3 t4 n5 t16 t17 t18 w R :=
  LP.step (n := (cx 37)) (c := C6) (E := [(0, .map f0), (3, .pointer (some r3)), (4, .pointer (some t4)), (5, .pointer (some n5)), (16, t16.v), (17, .i t17), (18, .i t18)]) (w := w) (sr C6 (show (fun (E : Env) (w : World) => srK Tryz.prog C6 (fun E w => condK (Env.val E (.tmp 19)) (srK Tryz.prog C11 (fun E w => dgK Tryz.prog C12 [0, 1, 2, 3, 4, 5, 6, 7, 8] (fun E w => rgK Tryz.prog C13 (fun E w => KE_L0 E w R) E w) E w) E w) (srK Tryz.prog C7 (fun E w => retVC Tryz.prog Tryz.f25 E w (fun v => R (.returned v) w)) E w)) E w) [(0, .map f0), (3, .pointer (some r3)), (4, .pointer (some t4)), (5, .pointer (some n5)), (16, t16.v), (17, .i t17), (18, .i t18)] w from mp h) fun _ _ hK => (sq C8 (cn C14 hK (fun hK => (sk C15 fun a hA => nx hA (sq C9 (bk C10 1 (by kernel_rfl) (sr C11 hK fun _ _ hK => (dg C12 (by kernel_rfl) hK fun _ _ a hA hK => nx hA (rg C13 (by kernel_rfl) hK fun _ _ a hA hK => KE_L0_ok R _ _ hK a hA))))))) (fun hK => (xt C16 0 (by kernel_rfl) fun a hA => nx hA (sr C7 hK fun _ _ hK => (rt C17 fun a hA => retVC_sound hA hK)))))))
/-- enthymeme/regex.normal -/
theorem ok (f0 : Option Nat) (r1_0 r1_1 r1_2 : Int) (r1_3 : Sl) (w : World) (R : Post) (h : nwV w (.cells #[.i r1_0, .int .u8 r1_1, .int .u8 r1_2, r1_3.v] ty_regex_Regex) fun w1 => 
  nwV w1 (.cells #[.i 0, .int .u8 0, .int .u8 0, .slice none 0 0] ty_regex_Regex) fun w2 => 
  ∃ t9 : Int, w2.cell? ((nb w).add 0) = some (.i t9) ∧ 
  ∃ t11 : Int, w2.cell? ((nb w).add 1) = some (.int .u8 t11) ∧ 
  ∃ t13 : Int, w2.cell? ((nb w).add 2) = some (.int .u8 t13) ∧ 
  nwV w2 (.cells #[.i 0, .int .u8 0, .int .u8 0, .slice none 0 0] ty_regex_Regex) fun w3 => 
  stW4 w3 (nb w2) (.i t9) (.int .u8 t11) (.int .u8 t13) (.slice none 0 0) fun w7 => ∃ t16 : Sl, w7.cell? ((nb w).add 3) = some (t16.v) ∧ 
  L0 f0 (nb w) (nb w1) (nb w2) t16 ((t16.n : Nat) : Int) 0 w7 R) : Calls Tryz.prog n_regex_normal #[.map f0, .agg #[.i r1_0, .int .u8 r1_1, .int .u8 r1_2, r1_3.v]] w R :=
  calls_of_WP' (R := R) (fn := Tryz.f25) (c := C0) (args := [.map f0, .agg #[.i r1_0, .int .u8 r1_1, .int .u8 r1_2, r1_3.v]]) (by kernel_rfl) (by kernel_rfl) (by kernel_rfl) (sr C0 (show (fun (E : Env) (w : World) => srK Tryz.prog C0 (fun E w => srK Tryz.prog C1 (fun E w => srK Tryz.prog C3 (fun E w => KE_L0 E w R) E w) E w) E w) (envOf 0 [.map f0, .agg #[.i r1_0, .int .u8 r1_1, .int .u8 r1_2, r1_3.v]]) w from mp h) fun _ _ hK => (sr C1 hK fun _ _ hK => (sq C2 (sr C3 hK fun _ _ hK => (bk C4 0 (by kernel_rfl) (lp C5 (by kernel_rfl) (KE_L0_ok R _ _ hK)))))))
end regex_normal
namespace regex_derive
noncomputable def C0 : Code := (Tryz.f74.body).getD .skip
noncomputable def C1:=C0.sn
noncomputable def C2:=C1.sn
noncomputable def C3:=C2.fs
noncomputable def C4:=C3.sn
noncomputable def C5:=C4.fs
noncomputable def C6:=C5.sn
noncomputable def C7:=C6.fs
noncomputable def C8:=C7.sn
noncomputable def C9:=C2.sn
abbrev Q0 (R : Post) : ExP := (Exit.then (wpx Tryz.prog (cx 109) C9 (bodyPost Tryz.prog Tryz.f74 R)) (bodyPost Tryz.prog Tryz.f74 R))
abbrev Q1 (R : Post) : ExP := (Exit.inBlock 0 (Q0 R))
noncomputable def C10:=C8.sn
/-- regex.go:225 -/
abbrev S0 (t6 : Addr) (w : World) (R : Post) : Prop :=
  stW4 w t6 (.i 0) (.int .u8 0) (.int .u8 0) (.slice none 0 0) fun w4 => ld4_0 w4 t6 fun r6_0 r6_1 r6_2 r6_3 => R (.returned (.agg #[.i r6_0, .int .u8 r6_1, .int .u8 r6_2, r6_3.v])) w4
def KE_S0 (E : Env) (w : World) (R : Post) : Prop := W.asRef (Env.get? E 6) fun t6 => S0 t6 w R
theorem KE_S0_ok : KOk Tryz.prog 109 KE_S0 C8 Q1 := by
  intro R E w h
  obtain ⟨t6, hq6, h_1⟩ := W.asRef_elim h
  exact fun a ha => WP.at (E := [(6, .pointer (some t6))]) (sr C8 (K := fun E w => retVC Tryz.prog Tryz.f74 E w (fun v => R (.returned v) w)) (mp h_1) fun _ _ hK => (rt C10 fun a hA => retVC_sound hA hK)) (ha.cons hq6 ha.nil)
noncomputable def C11:=C6.sn
noncomputable def C12:=C11.sn
noncomputable def C13:=C12.fs
noncomputable def C14:=C13.sn
noncomputable def C15:=C14.sn
noncomputable def C16:=C15.fs
noncomputable def C17:=C16.fs
abbrev Q2 (R : Post) : ExP := (Exit.inBlock 1 (Q1 R))
/-- the head of the loop, regex.go:228 -/
def L1 (f0 : Option Nat) (c2 : Int) (r4 t6 d7 : Addr) (t37 : Sl) (t38 t39 : Int) (w : World) (R : Post) : Prop := LP Tryz.prog (cx 109) C17 (Q2 R) [(0, .map f0), (2, .int .u8 c2), (4, .pointer (some r4)), (6, .pointer (some t6)), (7, .pointer (some d7)), (37, t37.v), (38, .i t38), (39, .i t39)] w
def KE_L1 (E : Env) (w : World) (R : Post) : Prop := W.asMap (Env.get? E 0) fun f0 => W.asInt .u8 (Env.get? E 2) fun c2 => W.asRef (Env.get? E 4) fun r4 => W.asRef (Env.get? E 6) fun t6 => W.asRef (Env.get? E 7) fun d7 => W.asSlice (Env.get? E 37) fun t37 => W.asInt .i64 (Env.get? E 38) fun t38 => W.asInt .i64 (Env.get? E 39) fun t39 => L1 f0 c2 r4 t6 d7 t37 t38 t39 w R
theorem KE_L1_ok : LOk Tryz.prog 109 KE_L1 C17 Q2 := by
  intro R E w h
  obtain ⟨f0, hq0, h_1⟩ := W.asMap_elim h
  obtain ⟨c2, hq2, h_2⟩ := W.asInt_elim h_1
  obtain ⟨r4, hq4, h_3⟩ := W.asRef_elim h_2
  obtain ⟨t6, hq6, h_4⟩ := W.asRef_elim h_3
  obtain ⟨d7, hq7, h_5⟩ := W.asRef_elim h_4
  obtain ⟨t37, hq37, h_6⟩ := W.asSlice_elim h_5
  obtain ⟨t38, hq38, h_7⟩ := W.asInt_elim h_6
  obtain ⟨t39, hq39, h_8⟩ := W.asInt_elim h_7
  intro a ha
  exact h_8 a (ha.cons hq0 (ha.cons hq2 (ha.cons hq4 (ha.cons hq6 (ha.cons hq7 (ha.cons hq37 (ha.cons hq38 (ha.cons hq39 ha.nil))))))))
abbrev Q3 (R : Post) : ExP := (bodyPost Tryz.prog Tryz.f74 R)
noncomputable def C18:=C9.sn
/-- regex.go:245 -/
abbrev S2 (f0 : Option Nat) (t6 d7 : Addr) (w : World) (R : Post) : Prop :=
  ∃ t105 : Int, w.cell? (d7.add 0) = some (.i t105) ∧ 
  ∃ t106_x1 : Fv, Sem.run Tryz.prog (Instr.lookup ty_map_int_func_regex_Regex_regex_Regex (.map f0) (.i t105) false) w = .ok (t106_x1.v) w ∧ ld4_0 w d7 fun t107_0 t107_1 t107_2 t107_3 => AndT (callable Tryz.prog t106_x1.n) (Calls Tryz.prog t106_x1.n (t106_x1.bs ++ #[.agg #[.i t107_0, .int .u8 t107_1, .int .u8 t107_2, t107_3.v]] ++ t106_x1.cs) w fun r_ w1 => ∃ t108_0 : Int, ∃ t108_1 : Int, ∃ t108_2 : Int, ∃ t108_3 : Sl, r_ = .returned (.agg #[.i t108_0, .int .u8 t108_1, .int .u8 t108_2, t108_3.v]) ∧ 
  stW4 w1 t6 (.i t108_0) (.int .u8 t108_1) (.int .u8 t108_2) (t108_3.v) fun w5 => ld4_0 w5 t6 fun r6_0 r6_1 r6_2 r6_3 => R (.returned (.agg #[.i r6_0, .int .u8 r6_1, .int .u8 r6_2, r6_3.v])) w5)
def KE_S2 (E : Env) (w : World) (R : Post) : Prop := W.asMap (Env.get? E 0) fun f0 => W.asRef (Env.get? E 6) fun t6 => W.asRef (Env.get? E 7) fun d7 => S2 f0 t6 d7 w R
theorem KE_S2_ok : KOk Tryz.prog 109 KE_S2 C9 Q3 := by
  intro R E w h
  obtain ⟨f0, hq0, h_1⟩ := W.asMap_elim h
  obtain ⟨t6, hq6, h_2⟩ := W.asRef_elim h_1
  obtain ⟨d7, hq7, h_3⟩ := W.asRef_elim h_2
  exact fun a ha => WP.at (E := [(0, .map f0), (6, .pointer (some t6)), (7, .pointer (some d7))]) (sr C9 (K := fun E w => retVC Tryz.prog Tryz.f74 E w (fun v => R (.returned v) w)) (mp h_3) fun _ _ hK => (rt C18 fun a hA => retVC_sound hA hK)) (ha.cons hq0 (ha.cons hq6 (ha.cons hq7 ha.nil)))
noncomputable def C19:=C17.sn
noncomputable def C20:=C19.sn
noncomputable def C21:=C20.fs
noncomputable def C22:=C21.fs
noncomputable def C23:=C22.sn
noncomputable def C24:=C23.sn
noncomputable def C25:=C24.sn
noncomputable def C26:=C20.sn
noncomputable def C27:=C19.fs
noncomputable def C28:=C27.fs
noncomputable def C29:=C25.sn
noncomputable def C30:=C29.fs
noncomputable def C31:=C29.sn
noncomputable def C32:=C27.sn
theorem L1_step (f0 : Option Nat) (c2 : Int) (r4 t6 d7 : Addr) (t37 : Sl) (t38 t39 : Int) (w : World) (R : Post) (h : sel (decide (t39 < t38)) ((0 : Int) ≤ t39 ∧ t39 < ((t37.n : Nat) : Int) ∧ optP t37.a fun t42_p => ld4_0 w (t42_p.add (Int.toNat t39 * 4)) fun t43_0 t43_1 t43_2 t43_3 => nwV w (.cells #[.i 0, .int .u8 0, .int .u8 0, .slice none 0 0] ty_regex_Regex) fun w13 => 
  stW4 w13 (nb w) (.i t43_0) (.int .u8 t43_1) (.int .u8 t43_2) (t43_3.v) fun w17 => drV w17 fun w18 => ld4_0 w18 (nb w) fun t45_0 t45_1 t45_2 t45_3 => ∃ t50 : Sl, w18.cell? (r4.add 3) = some (t50.v) ∧ 
  (0 : Int) ≤ (IntKind.wrap .i64 (t39 + 1)) ∧ (IntKind.wrap .i64 (t39 + 1)) ≤ ((t50.n : Nat) : Int) ∧ ca2 n_regex_derive #[.map f0, .agg #[.i t45_0, .int .u8 t45_1, .int .u8 t45_2, t45_3.v], .int .u8 c2] w18 fun t47_0 t47_1 t47_2 t47_3 w19 => w19.cell? (r4.add 3) = some (t50.v) ∧ nwV w19 (.cells #[.i t47_0, .int .u8 t47_1, .int .u8 t47_2, t47_3.v] ty_regex_Regex) fun w20 => 
  w20.cell? (r4.add 3) = some (t50.v) ∧ ∃ (t54 : Sl) (w21 : World), Sem.run Tryz.prog (Builtin.append_ #[ty_sl_regex_Regex, ty_sl_regex_Regex] ty_sl_regex_Regex #[.slice (some (nb w19)) 1 1, .slice (if t50.c = (Int.toNat (IntKind.wrap .i64 (t39 + 1))) then t50.a else t50.a.map (·.add ((Int.toNat (IntKind.wrap .i64 (t39 + 1))) * 4))) (t50.n - (Int.toNat (IntKind.wrap .i64 (t39 + 1)))) (t50.c - (Int.toNat (IntKind.wrap .i64 (t39 + 1))))]) w20 = .ok (t54.v) w21 ∧ drV w21 fun w22 => ∃ t56 : Sl, w22.cell? (d7.add 3) = some (t56.v) ∧ 
  ∃ t58_x1 : Fv, Sem.run Tryz.prog (Instr.lookup ty_map_int_func_regex_Regex_regex_Regex (.map f0) (.i 3) false) w22 = .ok (t58_x1.v) w22 ∧ AndT (callable Tryz.prog t58_x1.n) (Calls Tryz.prog t58_x1.n (t58_x1.bs ++ #[.agg #[.i 3, .int .u8 0, .int .u8 0, t54.v]] ++ t58_x1.cs) w22 fun r_ w23 => ∃ t61_0 : Int, ∃ t61_1 : Int, ∃ t61_2 : Int, ∃ t61_3 : Sl, r_ = .returned (.agg #[.i t61_0, .int .u8 t61_1, .int .u8 t61_2, t61_3.v]) ∧ 
  w23.cell? (d7.add 3) = some (t56.v) ∧ nwV w23 (.cells #[.i t61_0, .int .u8 t61_1, .int .u8 t61_2, t61_3.v] ty_regex_Regex) fun w24 => 
  w24.cell? (d7.add 3) = some (t56.v) ∧ ∃ (t63 : Sl) (w25 : World), Sem.run Tryz.prog (Builtin.append_ #[ty_sl_regex_Regex, ty_sl_regex_Regex] ty_sl_regex_Regex #[t56.v, .slice (some (nb w23)) 1 1]) w24 = .ok (t63.v) w25 ∧ stV w25 (d7.add 3) (t63.v) fun w26 => 
  ld4_0 w26 (nb w) fun t65_0 t65_1 t65_2 t65_3 => ca1 n_regex_nullable #[.agg #[.i t65_0, .int .u8 t65_1, .int .u8 t65_2, t65_3.v]] w26 fun t66 w27 => sel (!t66) (S2 f0 t6 d7 w27 R) (L1 f0 c2 r4 t6 d7 t37 t38 (IntKind.wrap .i64 (t39 + 1)) w27 R))) (S2 f0 t6 d7 w R)) : L1 f0 c2 r4 t6 d7 t37 t38 t39 w R :=
  LP.step (n := (cx 109)) (c := C17) (E := [(0, .map f0), (2, .int .u8 c2), (4, .pointer (some r4)), (6, .pointer (some t6)), (7, .pointer (some d7)), (37, t37.v), (38, .i t38), (39, .i t39)]) (w := w) (sr C17 (show (fun (E : Env) (w : World) => srK Tryz.prog C17 (fun E w => condK (Env.val E (.tmp 40)) (srK Tryz.prog C22 (fun E w => sdK Tryz.prog C23 [0, 1, 2, 5, 6, 7, 8, 9, 3, 4, 10, 11] (fun E w => sdK Tryz.prog C24 [0, 1, 2, 3, 4, 5, 6, 7, 8, 9, 10] (fun E w => srK Tryz.prog C25 (fun E w => condK (Env.val E (.tmp 67)) (KE_S2 E w R) (rgK Tryz.prog C26 (fun E w => KE_L1 E w R) E w)) E w) E w) E w) E w) (KE_S2 E w R)) E w) [(0, .map f0), (2, .int .u8 c2), (4, .pointer (some r4)), (6, .pointer (some t6)), (7, .pointer (some d7)), (37, t37.v), (38, .i t38), (39, .i t39)] w from mp h) fun _ _ hK => (sq C19 (cn C27 hK (fun hK => (sk C28 fun a hA => nx hA (sq C20 (bk C21 2 (by kernel_rfl) (sr C22 hK fun _ _ hK => (sd C23 (by kernel_rfl) hK fun _ _ hK => (sd C24 (by kernel_rfl) hK fun _ _ hK => (sr C25 hK fun _ _ hK => (cn C29 hK (fun hK => (xt C30 1 (by kernel_rfl) fun a hA => nx hA (KE_S2_ok R _ _ hK))) (fun hK => (sk C31 fun a hA => nx hA (rg C26 (by kernel_rfl) hK fun _ _ a hA hK => KE_L1_ok R _ _ hK a hA)))))))))))) (fun hK => (xt C32 1 (by kernel_rfl) fun a hA => nx hA (KE_S2_ok R _ _ hK))))))
noncomputable def C33:=C12.sn
noncomputable def C34:=C33.sn
noncomputable def C35:=C34.fs
noncomputable def C36:=C35.sn
noncomputable def C37:=C36.fs
noncomputable def C38:=C37.fs
abbrev Q4 (R : Post) : ExP := (Exit.inBlock 3 (Q1 R))
/-- the head of the loop, regex.go:236 -/
def L4 (f0 : Option Nat) (c2 : Int) (t6 d7 : Addr) (t74 : Sl) (t75 t76 : Int) (w : World) (R : Post) : Prop := LP Tryz.prog (cx 109) C38 (Q4 R) [(0, .map f0), (2, .int .u8 c2), (6, .pointer (some t6)), (7, .pointer (some d7)), (74, t74.v), (75, .i t75), (76, .i t76)] w
def KE_L4 (E : Env) (w : World) (R : Post) : Prop := W.asMap (Env.get? E 0) fun f0 => W.asInt .u8 (Env.get? E 2) fun c2 => W.asRef (Env.get? E 6) fun t6 => W.asRef (Env.get? E 7) fun d7 => W.asSlice (Env.get? E 74) fun t74 => W.asInt .i64 (Env.get? E 75) fun t75 => W.asInt .i64 (Env.get? E 76) fun t76 => L4 f0 c2 t6 d7 t74 t75 t76 w R
theorem KE_L4_ok : LOk Tryz.prog 109 KE_L4 C38 Q4 := by
  intro R E w h
  obtain ⟨f0, hq0, h_1⟩ := W.asMap_elim h
  obtain ⟨c2, hq2, h_2⟩ := W.asInt_elim h_1
  obtain ⟨t6, hq6, h_3⟩ := W.asRef_elim h_2
  obtain ⟨d7, hq7, h_4⟩ := W.asRef_elim h_3
  obtain ⟨t74, hq74, h_5⟩ := W.asSlice_elim h_4
  obtain ⟨t75, hq75, h_6⟩ := W.asInt_elim h_5
  obtain ⟨t76, hq76, h_7⟩ := W.asInt_elim h_6
  intro a ha
  exact h_7 a (ha.cons hq0 (ha.cons hq2 (ha.cons hq6 (ha.cons hq7 (ha.cons hq74 (ha.cons hq75 (ha.cons hq76 ha.nil)))))))
noncomputable def C39:=C38.sn
noncomputable def C40:=C39.sn
noncomputable def C41:=C40.fs
noncomputable def C42:=C41.fs
noncomputable def C43:=C42.sn
noncomputable def C44:=C40.sn
noncomputable def C45:=C39.fs
noncomputable def C46:=C45.fs
noncomputable def C47:=C45.sn
theorem L4_step (f0 : Option Nat) (c2 : Int) (t6 d7 : Addr) (t74 : Sl) (t75 t76 : Int) (w : World) (R : Post) (h : sel (decide (t76 < t75)) ((0 : Int) ≤ t76 ∧ t76 < ((t74.n : Nat) : Int) ∧ optP t74.a fun t78_p => ld4_0 w (t78_p.add (Int.toNat t76 * 4)) fun t79_0 t79_1 t79_2 t79_3 => nwV w (.cells #[.i 0, .int .u8 0, .int .u8 0, .slice none 0 0] ty_regex_Regex) fun w1 => 
  stW4 w1 (nb w) (.i t79_0) (.int .u8 t79_1) (.int .u8 t79_2) (t79_3.v) fun w5 => drV w5 fun w6 => ∃ t81 : Sl, w6.cell? (d7.add 3) = some (t81.v) ∧ 
  ld4_0 w6 (nb w) fun t83_0 t83_1 t83_2 t83_3 => ca2 n_regex_derive #[.map f0, .agg #[.i t83_0, .int .u8 t83_1, .int .u8 t83_2, t83_3.v], .int .u8 c2] w6 fun t85_0 t85_1 t85_2 t85_3 w7 => w7.cell? (d7.add 3) = some (t81.v) ∧ nwV w7 (.cells #[.i t85_0, .int .u8 t85_1, .int .u8 t85_2, t85_3.v] ty_regex_Regex) fun w8 => 
  w8.cell? (d7.add 3) = some (t81.v) ∧ ∃ (t87 : Sl) (w9 : World), Sem.run Tryz.prog (Builtin.append_ #[ty_sl_regex_Regex, ty_sl_regex_Regex] ty_sl_regex_Regex #[t81.v, .slice (some (nb w7)) 1 1]) w8 = .ok (t87.v) w9 ∧ stV w9 (d7.add 3) (t87.v) fun w10 => 
  L4 f0 c2 t6 d7 t74 t75 (IntKind.wrap .i64 (t76 + 1)) w10 R) (S2 f0 t6 d7 w R)) : L4 f0 c2 t6 d7 t74 t75 t76 w R :=
  LP.step (n := (cx 109)) (c := C38) (E := [(0, .map f0), (2, .int .u8 c2), (6, .pointer (some t6)), (7, .pointer (some d7)), (74, t74.v), (75, .i t75), (76, .i t76)]) (w := w) (sr C38 (show (fun (E : Env) (w : World) => srK Tryz.prog C38 (fun E w => condK (Env.val E (.tmp 77)) (srK Tryz.prog C42 (fun E w => dgK Tryz.prog C43 [0, 1, 2, 3, 4, 5, 6, 7, 8, 9] (fun E w => rgK Tryz.prog C44 (fun E w => KE_L4 E w R) E w) E w) E w) (KE_S2 E w R)) E w) [(0, .map f0), (2, .int .u8 c2), (6, .pointer (some t6)), (7, .pointer (some d7)), (74, t74.v), (75, .i t75), (76, .i t76)] w from mp h) fun _ _ hK => (sq C39 (cn C45 hK (fun hK => (sk C46 fun a hA => nx hA (sq C40 (bk C41 4 (by kernel_rfl) (sr C42 hK fun _ _ hK => (dg C43 (by kernel_rfl) hK fun _ _ a hA hK => nx hA (rg C44 (by kernel_rfl) hK fun _ _ a hA hK => KE_L4_ok R _ _ hK a hA))))))) (fun hK => (xt C47 3 (by kernel_rfl) fun a hA => nx hA (KE_S2_ok R _ _ hK))))))
/-- regex.go:236 -/
abbrev S3 (f0 : Option Nat) (c2 : Int) (r4 t6 d7 : Addr) (w : World) (R : Post) : Prop :=
  ∃ t74 : Sl, w.cell? (r4.add 3) = some (t74.v) ∧ 
  L4 f0 c2 t6 d7 t74 ((t74.n : Nat) : Int) 0 w R
def KE_S3 (E : Env) (w : World) (R : Post) : Prop := W.asMap (Env.get? E 0) fun f0 => W.asInt .u8 (Env.get? E 2) fun c2 => W.asRef (Env.get? E 4) fun r4 => W.asRef (Env.get? E 6) fun t6 => W.asRef (Env.get? E 7) fun d7 => S3 f0 c2 r4 t6 d7 w R
theorem KE_S3_ok : KOk Tryz.prog 109 KE_S3 C35 Q1 := by
  intro R E w h
  obtain ⟨f0, hq0, h_1⟩ := W.asMap_elim h
  obtain ⟨c2, hq2, h_2⟩ := W.asInt_elim h_1
  obtain ⟨r4, hq4, h_3⟩ := W.asRef_elim h_2
  obtain ⟨t6, hq6, h_4⟩ := W.asRef_elim h_3
  obtain ⟨d7, hq7, h_5⟩ := W.asRef_elim h_4
  exact fun a ha => WP.at (E := [(0, .map f0), (2, .int .u8 c2), (4, .pointer (some r4)), (6, .pointer (some t6)), (7, .pointer (some d7))]) (sr C35 (K := fun E w => KE_L4 E w R) (mp h_5) fun _ _ hK => (bk C36 3 (by kernel_rfl) (lp C37 (by kernel_rfl) (KE_L4_ok R _ _ hK)))) (ha.cons hq0 (ha.cons hq2 (ha.cons hq4 (ha.cons hq6 (ha.cons hq7 ha.nil)))))
noncomputable def C48:=C34.sn
noncomputable def C49:=C48.sn
noncomputable def C50:=C49.fs
noncomputable def C51:=C50.sn
noncomputable def C52:=C49.sn
noncomputable def C53:=C52.sn
/-- regex.go:239 -/
abbrev S5 (f0 : Option Nat) (c2 : Int) (r4 t6 d7 : Addr) (t17 : Int) (w : World) (R : Post) : Prop :=
  sel (t17 == 7) (stV w (d7.add 0) (.i 3) fun w1 => 
  drV w1 fun w2 => ∃ t95 : Sl, w2.cell? (r4.add 3) = some (t95.v) ∧ 
  (0 : Int) ≤ 0 ∧ 0 < ((t95.n : Nat) : Int) ∧ optP t95.a fun t96_p => ld4_0 w2 (t96_p.add (Int.toNat 0 * 4)) fun t97_0 t97_1 t97_2 t97_3 => ld4_0 w2 r4 fun t100_0 t100_1 t100_2 t100_3 => ca2 n_regex_derive #[.map f0, .agg #[.i t97_0, .int .u8 t97_1, .int .u8 t97_2, t97_3.v], .int .u8 c2] w2 fun t99_0 t99_1 t99_2 t99_3 w3 => hdW4 w3 r4 (.i t100_0) (.int .u8 t100_1) (.int .u8 t100_2) (t100_3.v) fun _ => nwV w3 (.cells #[.i t99_0, .int .u8 t99_1, .int .u8 t99_2, t99_3.v, .i t100_0, .int .u8 t100_1, .int .u8 t100_2, t100_3.v] ty_regex_Regex) fun w4 => 
  stV w4 (d7.add 3) (.slice (some (nb w3)) 2 2) fun w5 => 
  S2 f0 t6 d7 w5 R) (stW4 w t6 (.i 0) (.int .u8 0) (.int .u8 0) (.slice none 0 0) fun w9 => ld4_0 w9 t6 fun r6_0 r6_1 r6_2 r6_3 => R (.returned (.agg #[.i r6_0, .int .u8 r6_1, .int .u8 r6_2, r6_3.v])) w9)
def KE_S5 (E : Env) (w : World) (R : Post) : Prop := W.asMap (Env.get? E 0) fun f0 => W.asInt .u8 (Env.get? E 2) fun c2 => W.asRef (Env.get? E 4) fun r4 => W.asRef (Env.get? E 6) fun t6 => W.asRef (Env.get? E 7) fun d7 => W.asInt .i64 (Env.get? E 17) fun t17 => S5 f0 c2 r4 t6 d7 t17 w R
theorem KE_S5_ok : KOk Tryz.prog 109 KE_S5 C48 Q1 := by
  intro R E w h
  obtain ⟨f0, hq0, h_1⟩ := W.asMap_elim h
  obtain ⟨c2, hq2, h_2⟩ := W.asInt_elim h_1
  obtain ⟨r4, hq4, h_3⟩ := W.asRef_elim h_2
  obtain ⟨t6, hq6, h_4⟩ := W.asRef_elim h_3
  obtain ⟨d7, hq7, h_5⟩ := W.asRef_elim h_4
  obtain ⟨t17, hq17, h_6⟩ := W.asInt_elim h_5
  exact fun a ha => WP.at (E := [(0, .map f0), (2, .int .u8 c2), (4, .pointer (some r4)), (6, .pointer (some t6)), (7, .pointer (some d7)), (17, .i t17)]) (sr C48 (K := fun E w => condK (Env.val E (.tmp 90)) (srK Tryz.prog C50 (fun E w => dgK Tryz.prog C51 [0, 1, 2, 3, 4, 5, 7, 6, 8, 9, 10] (fun E w => KE_S2 E w R) E w) E w) (srK Tryz.prog C52 (fun E w => retVC Tryz.prog Tryz.f74 E w (fun v => R (.returned v) w)) E w)) (mp h_6) fun _ _ hK => (cn C49 hK (fun hK => (sr C50 hK fun _ _ hK => (dg C51 (by kernel_rfl) hK fun _ _ a hA hK => nx hA (KE_S2_ok R _ _ hK)))) (fun hK => (sr C52 hK fun _ _ hK => (rt C53 fun a hA => retVC_sound hA hK))))) (ha.cons hq0 (ha.cons hq2 (ha.cons hq4 (ha.cons hq6 (ha.cons hq7 (ha.cons hq17 ha.nil))))))
/-- enthymeme/regex.derive -/
noncomputable def C54:=C7.fs
noncomputable def C55:=C54.sn
noncomputable def C56:=C55.fs
noncomputable def C57:=C33.fs
noncomputable def C58:=C57.sn
noncomputable def C59:=C58.sn
noncomputable def C60:=C59.sn
noncomputable def C61:=C60.sn
noncomputable def C62:=C56.sn
noncomputable def C63:=C55.sn
noncomputable def C64:=C58.fs
noncomputable def C65:=C60.fs
theorem ok (f0 : Option Nat) (r1_0 r1_1 r1_2 : Int) (r1_3 : Sl) (c2 : Int) (w : World) (R : Post) (h : nwV w (.cells #[.i r1_0, .int .u8 r1_1, .int .u8 r1_2, r1_3.v] ty_regex_Regex) fun w1 => 
  nwV w1 (.cells #[.i 0, .int .u8 0, .int .u8 0, .slice none 0 0] ty_regex_Regex) fun w2 => 
  ∃ t14 : Int, w2.cell? ((nb w).add 0) = some (.i t14) ∧ 
  nwV w2 (.cells #[.i 0, .int .u8 0, .int .u8 0, .slice none 0 0] ty_regex_Regex) fun w3 => 
  stW4 w3 (nb w2) (.i t14) (.int .u8 0) (.int .u8 0) (.slice none 0 0) fun w7 => ∃ t17 : Int, w7.cell? ((nb w).add 0) = some (.i t17) ∧ 
  sel (t17 == 2) (∃ t22 : Int, w7.cell? ((nb w).add 1) = some (.int .u8 t22) ∧ 
  sel (decide (t22 ≤ c2)) (∃ t28 : Int, w7.cell? ((nb w).add 2) = some (.int .u8 t28) ∧ 
  sel (decide (c2 ≤ t28)) (stW4 w7 (nb w1) (.i 1) (.int .u8 0) (.int .u8 0) (.slice none 0 0) fun w11 => ld4_0 w11 (nb w1) fun r6_0 r6_1 r6_2 r6_3 => R (.returned (.agg #[.i r6_0, .int .u8 r6_1, .int .u8 r6_2, r6_3.v])) w11) (S0 (nb w1) w7 R)) (S0 (nb w1) w7 R)) (sel (t17 == 3) (stV w7 ((nb w2).add 0) (.i 4) fun w12 => 
  ∃ t37 : Sl, w12.cell? ((nb w).add 3) = some (t37.v) ∧ 
  L1 f0 c2 (nb w) (nb w1) (nb w2) t37 ((t37.n : Nat) : Int) 0 w12 R) (sel (t17 == 4) (sel (t17 == 4) (S3 f0 c2 (nb w) (nb w1) (nb w2) w7 R) (S5 f0 c2 (nb w) (nb w1) (nb w2) t17 w7 R)) (sel (t17 == 5) (sel (t17 == 5) (S3 f0 c2 (nb w) (nb w1) (nb w2) w7 R) (S5 f0 c2 (nb w) (nb w1) (nb w2) t17 w7 R)) (sel (t17 == 6) (S3 f0 c2 (nb w) (nb w1) (nb w2) w7 R) (S5 f0 c2 (nb w) (nb w1) (nb w2) t17 w7 R)))))) : Calls Tryz.prog n_regex_derive #[.map f0, .agg #[.i r1_0, .int .u8 r1_1, .int .u8 r1_2, r1_3.v], .int .u8 c2] w R :=
  calls_of_WP' (R := R) (fn := Tryz.f74) (c := C0) (args := [.map f0, .agg #[.i r1_0, .int .u8 r1_1, .int .u8 r1_2, r1_3.v], .int .u8 c2]) (by kernel_rfl) (by kernel_rfl) (by kernel_rfl) (sr C0 (show (fun (E : Env) (w : World) => srK Tryz.prog C0 (fun E w => srK Tryz.prog C1 (fun E w => srK Tryz.prog C3 (fun E w => srK Tryz.prog C5 (fun E w => condK (Env.val E (.tmp 19)) (srK Tryz.prog C54 (fun E w => condK (Env.val E (.tmp 30)) (srK Tryz.prog C56 (fun E w => retVC Tryz.prog Tryz.f74 E w (fun v => R (.returned v) w)) E w) (KE_S0 E w R)) E w) (srK Tryz.prog C11 (fun E w => condK (Env.val E (.tmp 33)) (srK Tryz.prog C13 (fun E w => srK Tryz.prog C14 (fun E w => KE_L1 E w R) E w) E w) (srK Tryz.prog C57 (fun E w => condK (Env.val E (.tmp 69)) (condK (Env.val E (.tmp 69)) (KE_S3 E w R) (KE_S5 E w R)) (srK Tryz.prog C59 (fun E w => condK (Env.val E (.tmp 69)) (condK (Env.val E (.tmp 69)) (KE_S3 E w R) (KE_S5 E w R)) (rgK Tryz.prog C61 (fun E w => condK (Env.val E (.tmp 69)) (KE_S3 E w R) (KE_S5 E w R)) E w)) E w)) E w)) E w)) E w) E w) E w) E w) (envOf 0 [.map f0, .agg #[.i r1_0, .int .u8 r1_1, .int .u8 r1_2, r1_3.v], .int .u8 c2]) w from mp h) fun _ _ hK => (sr C1 hK fun _ _ hK => (sq C2 (sr C3 hK fun _ _ hK => (bk C4 0 (by kernel_rfl) (sr C5 hK fun _ _ hK => (cn C6 hK (fun hK => (sq C7 (sr C54 hK fun _ _ hK => (cn C55 hK (fun hK => (sr C56 hK fun _ _ hK => (rt C62 fun a hA => retVC_sound hA hK))) (fun hK => (sk C63 fun a hA => nx hA (KE_S0_ok R _ _ hK))))))) (fun hK => (sr C11 hK fun _ _ hK => (cn C12 hK (fun hK => (sr C13 hK fun _ _ hK => (sr C14 hK fun _ _ hK => (bk C15 1 (by kernel_rfl) (lp C16 (by kernel_rfl) (KE_L1_ok R _ _ hK)))))) (fun hK => (sq C33 (sr C57 hK fun _ _ hK => (cn C58 hK (fun hK => (sk C64 fun a hA => nx hA (cn C34 hK (fun hK => (KE_S3_ok R _ _ hK)) (fun hK => (KE_S5_ok R _ _ hK))))) (fun hK => (sr C59 hK fun _ _ hK => (cn C60 hK (fun hK => (sk C65 fun a hA => nx hA (cn C34 hK (fun hK => (KE_S3_ok R _ _ hK)) (fun hK => (KE_S5_ok R _ _ hK))))) (fun hK => (rg C61 (by kernel_rfl) hK fun _ _ a hA hK => nx hA (cn C34 hK (fun hK => (KE_S3_ok R _ _ hK)) (fun hK => (KE_S5_ok R _ _ hK))))))))))))))))))))))
end regex_derive
namespace regex_Derive
noncomputable def C0 : Code := (Tryz.f39.body).getD .skip
/-- enthymeme/regex.Derive -/
noncomputable def C1:=C0.sn
noncomputable def C2:=C1.fs
noncomputable def C3:=C2.sn
noncomputable def C4:=C3.sn
noncomputable def C5:=C4.fs
noncomputable def C6:=C1.sn
noncomputable def C7:=C6.sn
noncomputable def C8:=C5.sn
noncomputable def C9:=C4.sn
noncomputable def C10:=C7.sn
theorem ok (r0_0 r0_1 r0_2 : Int) (r0_3 : Sl) (c1 : Int) (w : World) (R : Post) (h : nwV w (.cells #[.i r0_0, .int .u8 r0_1, .int .u8 r0_2, r0_3.v] ty_regex_Regex) fun w1 => 
  nwV w1 (.cells #[.i 0, .int .u8 0, .int .u8 0, .slice none 0 0] ty_regex_Regex) fun w2 => 
  ld4_0 w2 (nb w) fun t8_0 t8_1 t8_2 t8_3 => ca0 n_regex_Valid #[.agg #[.i t8_0, .int .u8 t8_1, .int .u8 t8_2, t8_3.v]] w2 fun t9 w3 => sel (t9 != 0) (stW4 w3 (nb w1) (.i 0) (.int .u8 0) (.int .u8 0) (.slice none 0 0) fun w7 => ld4_0 w7 (nb w1) fun r4_0 r4_1 r4_2 r4_3 => R (.returned (.tuple #[.agg #[.i r4_0, .int .u8 r4_1, .int .u8 r4_2, r4_3.v], .i t9])) w7) (ca5 n_regex_forms #[] w3 fun t14 w8 => ld4_0 w8 (nb w) fun t17_0 t17_1 t17_2 t17_3 => ca2 n_regex_normal #[.map t14, .agg #[.i t17_0, .int .u8 t17_1, .int .u8 t17_2, t17_3.v]] w8 fun t18_0 t18_1 t18_2 t18_3 w9 => ca2 n_regex_derive #[.map t14, .agg #[.i t18_0, .int .u8 t18_1, .int .u8 t18_2, t18_3.v], .int .u8 c1] w9 fun t20_0 t20_1 t20_2 t20_3 w10 => ca6 n_regex_limited #[.agg #[.i t20_0, .int .u8 t20_1, .int .u8 t20_2, t20_3.v]] w10 fun t21_0_0 t21_0_1 t21_0_2 t21_0_3 t21_1 w11 => stW4 w11 (nb w1) (.i t21_0_0) (.int .u8 t21_0_1) (.int .u8 t21_0_2) (t21_0_3.v) fun w15 => ld4_0 w15 (nb w1) fun r4_0 r4_1 r4_2 r4_3 => R (.returned (.tuple #[.agg #[.i r4_0, .int .u8 r4_1, .int .u8 r4_2, r4_3.v], .i t21_1])) w15)) : Calls Tryz.prog n_regex_Derive #[.agg #[.i r0_0, .int .u8 r0_1, .int .u8 r0_2, r0_3.v], .int .u8 c1] w R :=
  calls_of_WP' (R := R) (fn := Tryz.f39) (c := C0) (args := [.agg #[.i r0_0, .int .u8 r0_1, .int .u8 r0_2, r0_3.v], .int .u8 c1]) (by kernel_rfl) (by kernel_rfl) (by kernel_rfl) (sr C0 (show (fun (E : Env) (w : World) => srK Tryz.prog C0 (fun E w => srK Tryz.prog C2 (fun E w => srK Tryz.prog C3 (fun E w => condK (Env.val E (.tmp 11)) (srK Tryz.prog C5 (fun E w => retVC Tryz.prog Tryz.f39 E w (fun v => R (.returned v) w)) E w) (srK Tryz.prog C6 (fun E w => srK Tryz.prog C7 (fun E w => retVC Tryz.prog Tryz.f39 E w (fun v => R (.returned v) w)) E w) E w)) E w) E w) E w) (envOf 0 [.agg #[.i r0_0, .int .u8 r0_1, .int .u8 r0_2, r0_3.v], .int .u8 c1]) w from mp h) fun _ _ hK => (sq C1 (sr C2 hK fun _ _ hK => (sr C3 hK fun _ _ hK => (cn C4 hK (fun hK => (sr C5 hK fun _ _ hK => (rt C8 fun a hA => retVC_sound hA hK))) (fun hK => (sk C9 fun a hA => nx hA (sr C6 hK fun _ _ hK => (sr C7 hK fun _ _ hK => (rt C10 fun a hA => retVC_sound hA hK))))))))))
theorem okT (r0_0 r0_1 r0_2 : Int) (r0_3 : Sl) (c1 : Int) (w : World) (R : Post) (h : newV [] w fun b2 w1 => 
  newV [b2] w1 fun b4 w2 => 
  cf0 [b2, b4] n_regex_Valid #[.agg #[.i r0_0, .int .u8 r0_1, .int .u8 r0_2, r0_3.v]] w2 fun t9 w3 => sel (t9 != 0) (loc [b2, b4] w3 fun w7 => R (.returned (.tuple #[.agg #[.i 0, .int .u8 0, .int .u8 0, .slice none 0 0], .i t9])) w7) (cf5 [b2, b4] n_regex_forms #[] w3 fun t14 w8 => cf2 [b2, b4] n_regex_normal #[.map t14, .agg #[.i r0_0, .int .u8 r0_1, .int .u8 r0_2, r0_3.v]] w8 fun t18_0 t18_1 t18_2 t18_3 w9 => cf2 [b2, b4] n_regex_derive #[.map t14, .agg #[.i t18_0, .int .u8 t18_1, .int .u8 t18_2, t18_3.v], .int .u8 c1] w9 fun t20_0 t20_1 t20_2 t20_3 w10 => cf6 [b2, b4] n_regex_limited #[.agg #[.i t20_0, .int .u8 t20_1, .int .u8 t20_2, t20_3.v]] w10 fun t21_0_0 t21_0_1 t21_0_2 t21_0_3 t21_1 w11 => loc [b2, b4] w11 fun w15 => R (.returned (.tuple #[.agg #[.i t21_0_0, .int .u8 t21_0_1, .int .u8 t21_0_2, t21_0_3.v], .i t21_1])) w15)) : Calls Tryz.prog n_regex_Derive #[.agg #[.i r0_0, .int .u8 r0_1, .int .u8 r0_2, r0_3.v], .int .u8 c1] w R :=
  ok _ _ _ _ _ w R (LC.nwT (LC.nil _) (Fr.refl _ _) h fun w1 H h => LC.nwT H (Fr.refl _ _) h fun w2 H h => ⟨_, _, _, r0_3, H.ld 0 0, H.ld 0 1, H.ld 0 2, H.ld 0 3, LC.callT H h fun r_ w3 H h => let ⟨t9, hr, h⟩ := h; ⟨t9, hr, sel_imp h (fun h => LC.stT0 H 1 (Fr.refl _ _) rfl rfl fun w4 H f => LC.stT H 1 1 f rfl rfl fun w5 H f => LC.stT H 1 2 f rfl rfl fun w6 H f => LC.stT H 1 3 f rfl rfl fun w7 (H : LC w7 [(w.heap.size, [.i r0_0, .int .u8 r0_1, .int .u8 r0_2, r0_3.v], ty_regex_Regex), (w1.heap.size, [.i 0, .int .u8 0, .int .u8 0, .slice none 0 0], ty_regex_Regex)]) (f : Fr (· ∈ [w.heap.size, w1.heap.size]) _ w7) => ⟨_, _, _, ⟨none, 0, 0⟩, H.ld 1 0, H.ld 1 1, H.ld 1 2, H.ld 1 3, have h := h _ f; h⟩) (fun h => LC.callT H h fun r_ w8 H h => let ⟨t14, hr, h⟩ := h; ⟨t14, hr, ⟨_, _, _, r0_3, H.ld 0 0, H.ld 0 1, H.ld 0 2, H.ld 0 3, LC.callT H h fun r_ w9 H h => let ⟨t18_0, t18_1, t18_2, t18_3, hr, h⟩ := h; ⟨t18_0, t18_1, t18_2, t18_3, hr, LC.callT H h fun r_ w10 H h => let ⟨t20_0, t20_1, t20_2, t20_3, hr, h⟩ := h; ⟨t20_0, t20_1, t20_2, t20_3, hr, LC.callT H h fun r_ w11 H h => let ⟨t21_0_0, t21_0_1, t21_0_2, t21_0_3, t21_1, hr, h⟩ := h; ⟨t21_0_0, t21_0_1, t21_0_2, t21_0_3, t21_1, hr, LC.stT0 H 1 (Fr.refl _ _) rfl rfl fun w12 H f => LC.stT H 1 1 f rfl rfl fun w13 H f => LC.stT H 1 2 f rfl rfl fun w14 H f => LC.stT H 1 3 f rfl rfl fun w15 (H : LC w15 [(w.heap.size, [.i r0_0, .int .u8 r0_1, .int .u8 r0_2, r0_3.v], ty_regex_Regex), (w1.heap.size, [.i t21_0_0, .int .u8 t21_0_1, .int .u8 t21_0_2, t21_0_3.v], ty_regex_Regex)]) (f : Fr (· ∈ [w.heap.size, w1.heap.size]) _ w15) => ⟨_, _, _, t21_0_3, H.ld 1 0, H.ld 1 1, H.ld 1 2, H.ld 1 3, have h := h _ f; h⟩⟩⟩⟩⟩⟩)⟩⟩)
end regex_Derive
end Go.Proofs.YtknlbofiicflgaaGreat

/- Printed by a program of ours (vcgen.py) from the dump: the conditions of the functions, and that they suffice. -/
import Derived.Test.YtknlbofiicflgaaGreatVL
import Derived.Test.YtknlbofiicflgaaGreatVG
import Derived.Test.YtknlbofiicflgaaGreatVM
import Derived.Test.YtknlbofiicflgaaGreatVH
import Derived.Test.YtknlbofiicflgaaGreatVI
import Derived.Test.YtknlbofiicflgaaGreatY
set_option linter.unusedVariables false
set_option maxRecDepth 100000
set_option maxHeartbeats 2000000
namespace Go.Proofs.YtknlbofiicflgaaGreat
open Go Go.W
namespace enthymemelaw04_RegexMatches
noncomputable def C0 : Code := (Tryz.f4.body).getD .skip
noncomputable def C1:=C0.sn
noncomputable def C2:=C1.sn
noncomputable def C3:=C2.sn
noncomputable def C4:=C3.fs
noncomputable def C5:=C4.sn
noncomputable def C6:=C5.fs
noncomputable def C7:=C6.fs
noncomputable def C8:=C3.sn
abbrev Q0 (R : Post) : ExP := (Exit.then (wpx Tryz.prog (cx 138) C8 (bodyPost Tryz.prog Tryz.f4 R)) (bodyPost Tryz.prog Tryz.f4 R))
abbrev Q1 (R : Post) : ExP := (Exit.inBlock 0 (Q0 R))
/-- the head of the loop, law.go:76 -/
def L0 (words3 : Sl) (long4 : Int) (all12 : Sl) (i13 : Int) (w : World) (R : Post) : Prop := LP Tryz.prog (cx 138) C7 (Q1 R) [(3, words3.v), (4, .i long4), (12, all12.v), (13, .i i13)] w
def KE_L0 (E : Env) (w : World) (R : Post) : Prop := W.asSlice (Env.get? E 3) fun words3 => W.asInt .i64 (Env.get? E 4) fun long4 => W.asSlice (Env.get? E 12) fun all12 => W.asInt .i64 (Env.get? E 13) fun i13 => L0 words3 long4 all12 i13 w R
theorem KE_L0_ok : LOk Tryz.prog 138 KE_L0 C7 Q1 := by
  intro R E w h
  obtain ⟨words3, hq3, h_1⟩ := W.asSlice_elim h
  obtain ⟨long4, hq4, h_2⟩ := W.asInt_elim h_1
  obtain ⟨all12, hq12, h_3⟩ := W.asSlice_elim h_2
  obtain ⟨i13, hq13, h_4⟩ := W.asInt_elim h_3
  intro a ha
  exact h_4 a (ha.cons hq3 (ha.cons hq4 (ha.cons hq12 (ha.cons hq13 ha.nil))))
noncomputable def C9:=C7.sn
noncomputable def C10:=C9.fs
noncomputable def C11:=C10.fs
noncomputable def C12:=C11.fs
noncomputable def C13:=C12.sn
noncomputable def C14:=C13.fs
noncomputable def C15:=C14.fs
noncomputable def C16:=C9.sn
abbrev Q2 (R : Post) : ExP := (Exit.then (wpx Tryz.prog (cx 138) C16 (Exit.then (LoopWP Tryz.prog (cx 138) C7 (Q1 R)) (Q1 R))) (Exit.then (LoopWP Tryz.prog (cx 138) C7 (Q1 R)) (Q1 R)))
noncomputable def C17:=C11.sn
abbrev Q3 (R : Post) : ExP := (Exit.then (wpx Tryz.prog (cx 138) C17 (Exit.inBlock 1 (Q2 R))) (Exit.inBlock 1 (Q2 R)))
abbrev Q4 (R : Post) : ExP := (Exit.inBlock 2 (Q3 R))
/-- the head of the loop, law.go:77 -/
def L1 (words3 : Sl) (long4 : Int) (all12 : Sl) (i13 k14 : Int) (w : World) (R : Post) : Prop := LP Tryz.prog (cx 138) C15 (Q4 R) [(3, words3.v), (4, .i long4), (12, all12.v), (13, .i i13), (14, .i k14)] w
def KE_L1 (E : Env) (w : World) (R : Post) : Prop := W.asSlice (Env.get? E 3) fun words3 => W.asInt .i64 (Env.get? E 4) fun long4 => W.asSlice (Env.get? E 12) fun all12 => W.asInt .i64 (Env.get? E 13) fun i13 => W.asInt .i64 (Env.get? E 14) fun k14 => L1 words3 long4 all12 i13 k14 w R
theorem KE_L1_ok : LOk Tryz.prog 138 KE_L1 C15 Q4 := by
  intro R E w h
  obtain ⟨words3, hq3, h_1⟩ := W.asSlice_elim h
  obtain ⟨long4, hq4, h_2⟩ := W.asInt_elim h_1
  obtain ⟨all12, hq12, h_3⟩ := W.asSlice_elim h_2
  obtain ⟨i13, hq13, h_4⟩ := W.asInt_elim h_3
  obtain ⟨k14, hq14, h_5⟩ := W.asInt_elim h_4
  intro a ha
  exact h_5 a (ha.cons hq3 (ha.cons hq4 (ha.cons hq12 (ha.cons hq13 (ha.cons hq14 ha.nil)))))
noncomputable def C18:=C15.sn
noncomputable def C19:=C18.fs
noncomputable def C20:=C19.fs
noncomputable def C21:=C20.sn
noncomputable def C22:=C21.sn
noncomputable def C23:=C22.sn
noncomputable def C24:=C23.fs
noncomputable def C25:=C18.sn
abbrev Q5 (R : Post) : ExP := (Exit.then (wpx Tryz.prog (cx 138) C25 (Exit.then (LoopWP Tryz.prog (cx 138) C15 (Q4 R)) (Q4 R))) (Exit.then (LoopWP Tryz.prog (cx 138) C15 (Q4 R)) (Q4 R)))
abbrev Q6 (R : Post) : ExP := (Exit.inBlock 3 (Q5 R))
noncomputable def C26:=C24.sn
/-- law.go:81 -/
abbrev S2  (w : World) (R : Post) : Prop :=
  R (.returned (.bool false)) w
def KE_S2 (E : Env) (w : World) (R : Post) : Prop := S2  w R
theorem KE_S2_ok : KOk Tryz.prog 138 KE_S2 C24 Q6 := by
  intro R E w h
  exact fun a ha => WP.at (E := []) (sr C24 (K := fun E w => retVC Tryz.prog Tryz.f4 E w (fun v => R (.returned v) w)) (mp h) fun _ _ hK => (rt C26 fun a hA => retVC_sound hA hK)) ha.nil
noncomputable def C27:=C17.sn
noncomputable def C28:=C27.sn
noncomputable def C29:=C28.sn
noncomputable def C30:=C29.fs
abbrev Q7 (R : Post) : ExP := (Exit.inBlock 1 (Q2 R))
noncomputable def C31:=C30.sn
/-- law.go:87 -/
abbrev S4  (w : World) (R : Post) : Prop :=
  R (.returned (.bool false)) w
def KE_S4 (E : Env) (w : World) (R : Post) : Prop := S4  w R
theorem KE_S4_ok : KOk Tryz.prog 138 KE_S4 C30 Q7 := by
  intro R E w h
  exact fun a ha => WP.at (E := []) (sr C30 (K := fun E w => retVC Tryz.prog Tryz.f4 E w (fun v => R (.returned v) w)) (mp h) fun _ _ hK => (rt C31 fun a hA => retVC_sound hA hK)) ha.nil
noncomputable def C32:=C29.sn
/-- law.go:84 -/
abbrev S3 (words3 : Sl) (long4 : Int) (all12 : Sl) (i13 : Int) (w : World) (R : Post) : Prop :=
  (0 : Int) ≤ i13 ∧ i13 < ((all12.n : Nat) : Int) ∧ optP all12.a fun t88_p => ld4_0 w (t88_p.add (Int.toNat i13 * 4)) fun t89_0 t89_1 t89_2 t89_3 => ca2 n_enthymemelaw04_own #[.agg #[.i t89_0, .int .u8 t89_1, .int .u8 t89_2, t89_3.v]] w fun t90_0 t90_1 t90_2 t90_3 w1 => ca12 n_regex_Nullable #[.agg #[.i t90_0, .int .u8 t90_1, .int .u8 t90_2, t90_3.v]] w1 fun t91_0 t91_1 w2 => (0 : Int) ≤ i13 ∧ i13 < ((all12.n : Nat) : Int) ∧ optP all12.a fun t97_p => ld4_0 w2 (t97_p.add (Int.toNat i13 * 4)) fun t98_0 t98_1 t98_2 t98_3 => ca12 n_enthymemeref04_Nullable #[.agg #[.i t98_0, .int .u8 t98_1, .int .u8 t98_2, t98_3.v]] w2 fun t99_0 t99_1 w3 => sel (!(t91_0 == t99_0)) (S4  w3 R) (sel (t91_1 != t99_1) (S4  w3 R) (L0 words3 long4 all12 (IntKind.wrap .i64 (i13 + 1)) w3 R))
def KE_S3 (E : Env) (w : World) (R : Post) : Prop := W.asSlice (Env.get? E 3) fun words3 => W.asInt .i64 (Env.get? E 4) fun long4 => W.asSlice (Env.get? E 12) fun all12 => W.asInt .i64 (Env.get? E 13) fun i13 => S3 words3 long4 all12 i13 w R
theorem KE_S3_ok : KOk Tryz.prog 138 KE_S3 C17 Q7 := by
  intro R E w h
  obtain ⟨words3, hq3, h_1⟩ := W.asSlice_elim h
  obtain ⟨long4, hq4, h_2⟩ := W.asInt_elim h_1
  obtain ⟨all12, hq12, h_3⟩ := W.asSlice_elim h_2
  obtain ⟨i13, hq13, h_4⟩ := W.asInt_elim h_3
  exact fun a ha => WP.at (E := [(3, words3.v), (4, .i long4), (12, all12.v), (13, .i i13)]) (sr C17 (K := fun E w => srK Tryz.prog C27 (fun E w => srK Tryz.prog C28 (fun E w => condK (Env.val E (.tmp 109)) (KE_S4 E w R) (rgK Tryz.prog C16 (fun E w => KE_L0 E w R) E w)) E w) E w) (mp h_4) fun _ _ hK => (sr C27 hK fun _ _ hK => (sr C28 hK fun _ _ hK => (cn C29 hK (fun hK => (KE_S4_ok R _ _ hK)) (fun hK => (sk C32 fun a hA => nx hA (rg C16 (by kernel_rfl) hK fun _ _ a hA hK => KE_L0_ok R _ _ hK a hA))))))) (ha.cons hq3 (ha.cons hq4 (ha.cons hq12 (ha.cons hq13 ha.nil))))
noncomputable def C33:=C15.fs
noncomputable def C34:=C33.sn
noncomputable def C35:=C34.fs
noncomputable def C36:=C23.sn
noncomputable def C37:=C34.sn
theorem L1_step (words3 : Sl) (long4 : Int) (all12 : Sl) (i13 k14 : Int) (w : World) (R : Post) (h : sel (decide (k14 < ((words3.n : Nat) : Int))) (sel (decide (k14 < 8)) (drV w fun w10 => (0 : Int) ≤ i13 ∧ i13 < ((all12.n : Nat) : Int) ∧ optP all12.a fun t53_p => ld4_0 w10 (t53_p.add (Int.toNat i13 * 4)) fun t54_0 t54_1 t54_2 t54_3 => (0 : Int) ≤ k14 ∧ k14 < ((words3.n : Nat) : Int) ∧ optP words3.a fun t58_p => ∃ t59 : Int, w10.cell? (t58_p.add (Int.toNat k14 * 1)) = some (.i t59) ∧ 
  ca2 n_enthymemelaw04_own #[.agg #[.i t54_0, .int .u8 t54_1, .int .u8 t54_2, t54_3.v]] w10 fun t55_0 t55_1 t55_2 t55_3 w11 => w11.cell? (t58_p.add (Int.toNat k14 * 1)) = some (.i t59) ∧ ca13 n_enthymemeref04_Word #[.i t59] w11 fun t60 w12 => ca12 n_regex_Match #[.agg #[.i t55_0, .int .u8 t55_1, .int .u8 t55_2, t55_3.v], .string t60] w12 fun t61_0 t61_1 w13 => drV w13 fun w14 => (0 : Int) ≤ i13 ∧ i13 < ((all12.n : Nat) : Int) ∧ optP all12.a fun t67_p => ld4_0 w14 (t67_p.add (Int.toNat i13 * 4)) fun t68_0 t68_1 t68_2 t68_3 => (0 : Int) ≤ k14 ∧ k14 < ((words3.n : Nat) : Int) ∧ optP words3.a fun t71_p => ∃ t72 : Int, w14.cell? (t71_p.add (Int.toNat k14 * 1)) = some (.i t72) ∧ 
  ca13 n_enthymemeref04_Word #[.i t72] w14 fun t73 w15 => hdW4 w15 (t67_p.add (Int.toNat i13 * 4)) (.i t68_0) (.int .u8 t68_1) (.int .u8 t68_2) (t68_3.v) fun _ => ca12 n_enthymemeref04_Match #[.agg #[.i t68_0, .int .u8 t68_1, .int .u8 t68_2, t68_3.v], .string t73] w15 fun t74_0 t74_1 w16 => sel (!(t61_0 == t74_0)) (S2  w16 R) (sel (t61_1 != t74_1) (S2  w16 R) (L1 words3 long4 all12 i13 (IntKind.wrap .i64 (k14 + 1)) w16 R))) (S3 words3 long4 all12 i13 w R)) (S3 words3 long4 all12 i13 w R)) : L1 words3 long4 all12 i13 k14 w R :=
  LP.step (n := (cx 138)) (c := C15) (E := [(3, words3.v), (4, .i long4), (12, all12.v), (13, .i i13), (14, .i k14)]) (w := w) (sq C15 (sr C33 (show (fun (E : Env) (w : World) => srK Tryz.prog C33 (fun E w => condK (Env.val E (.tmp 47)) (sdK Tryz.prog C20 [0, 1, 2, 3, 5, 6, 7, 8, 4, 9, 10, 11, 12, 13, 14, 15] (fun E w => sdK Tryz.prog C21 [0, 1, 2, 3, 4, 5, 6, 7, 8, 9, 10, 11, 12, 13, 14] (fun E w => srK Tryz.prog C22 (fun E w => condK (Env.val E (.tmp 84)) (KE_S2 E w R) (rgK Tryz.prog C25 (fun E w => KE_L1 E w R) E w)) E w) E w) E w) (KE_S3 E w R)) E w) [(3, words3.v), (4, .i long4), (12, all12.v), (13, .i i13), (14, .i k14)] w from mp h) fun _ _ hK => (cn C34 hK (fun hK => (sk C35 fun a hA => nx hA (sq C18 (bk C19 3 (by kernel_rfl) (sd C20 (by kernel_rfl) hK fun _ _ hK => (sd C21 (by kernel_rfl) hK fun _ _ hK => (sr C22 hK fun _ _ hK => (cn C23 hK (fun hK => (KE_S2_ok R _ _ hK)) (fun hK => (sk C36 fun a hA => nx hA (rg C25 (by kernel_rfl) hK fun _ _ a hA hK => KE_L1_ok R _ _ hK a hA))))))))))) (fun hK => (xt C37 2 (by kernel_rfl) fun a hA => nx hA (KE_S3_ok R _ _ hK))))))
noncomputable def C38:=C8.sn
abbrev Q8 (R : Post) : ExP := (bodyPost Tryz.prog Tryz.f4 R)
noncomputable def C39:=C38.sn
noncomputable def C40:=C39.sn
noncomputable def C41:=C40.sn
/-- law.go:91 -/
abbrev S5 (n23 : Int) (w : World) (R : Post) : Prop :=
  ∃ (t114 : Sl) (w1 : World), Sem.run Tryz.prog (Instr.makeSlice ty_sl_uint8 (.i n23) (.i n23)) w = .ok (t114.v) w1 ∧ nwV w1 (.cells #[.i 2, .int .u8 0, .int .u8 0, .slice none 0 0] ty_regex_Regex) fun w2 => 
  ∃ t120 : ByteArray, Sem.run Tryz.prog (Go.convert ty_sl_uint8 ty_string (t114.v)) w2 = .ok (.string t120) w2 ∧ ca12 n_regex_Match #[.agg #[.i 7, .int .u8 0, .int .u8 0, .slice (some (nb w1)) 1 1], .string t120] w2 fun t121_0 t121_1 w3 => sel (t121_0 == (decide (n23 ≤ 64))) (sel ((t121_1 == 4) == (decide (n23 > 64))) (ca1 n_enthymemelaw04_lives #[] w3 fun t136 w4 => R (.returned (.bool t136)) w4) (R (.returned (.bool false)) w3)) (R (.returned (.bool false)) w3)
def KE_S5 (E : Env) (w : World) (R : Post) : Prop := W.asInt .i64 (Env.get? E 23) fun n23 => S5 n23 w R
theorem KE_S5_ok : KOk Tryz.prog 138 KE_S5 C38 Q8 := by
  intro R E w h
  obtain ⟨n23, hq23, h_1⟩ := W.asInt_elim h
  exact fun a ha => WP.at (E := [(23, .i n23)]) (sr C38 (K := fun E w => srK Tryz.prog C39 (fun E w => srK Tryz.prog C40 (fun E w => retVC Tryz.prog Tryz.f4 E w (fun v => R (.returned v) w)) E w) E w) (mp h_1) fun _ _ hK => (sr C39 hK fun _ _ hK => (sr C40 hK fun _ _ hK => (rt C41 fun a hA => retVC_sound hA hK)))) (ha.cons hq23 ha.nil)
noncomputable def C42:=C7.fs
noncomputable def C43:=C42.sn
noncomputable def C44:=C43.fs
noncomputable def C45:=C43.sn
theorem L0_step (words3 : Sl) (long4 : Int) (all12 : Sl) (i13 : Int) (w : World) (R : Post) (h : sel (decide (i13 < 2)) (L1 words3 long4 all12 i13 0 w R) (ca0 n_enthymemeref01_Around #[.i long4, .i 9] w fun t111 w17 => S5 (IntKind.wrap .i64 (60 + t111)) w17 R)) : L0 words3 long4 all12 i13 w R :=
  LP.step (n := (cx 138)) (c := C7) (E := [(3, words3.v), (4, .i long4), (12, all12.v), (13, .i i13)]) (w := w) (sq C7 (sr C42 (show (fun (E : Env) (w : World) => srK Tryz.prog C42 (fun E w => condK (Env.val E (.tmp 37)) (srK Tryz.prog C12 (fun E w => KE_L1 E w R) E w) (srK Tryz.prog C8 (fun E w => KE_S5 E w R) E w)) E w) [(3, words3.v), (4, .i long4), (12, all12.v), (13, .i i13)] w from mp h) fun _ _ hK => (cn C43 hK (fun hK => (sk C44 fun a hA => nx hA (sq C9 (bk C10 1 (by kernel_rfl) (sq C11 (sr C12 hK fun _ _ hK => (bk C13 2 (by kernel_rfl) (lp C14 (by kernel_rfl) (KE_L1_ok R _ _ hK))))))))) (fun hK => (xt C45 0 (by kernel_rfl) fun a hA => nx hA (sr C8 hK fun _ _ hK => (KE_S5_ok R _ _ hK)))))))
/-- enthymeme/enthymemelaw04.RegexMatches -/
theorem ok (l0 : Sl) (how1 by2 : Int) (words3 : Sl) (long4 : Int) (w : World) (R : Post) (h : ca2 n_enthymemeref04_Made #[l0.v] w fun t28_0 t28_1 t28_2 t28_3 w1 => nwV w1 (.cells #[.i 0, .int .u8 0, .int .u8 0, .slice none 0 0] ty_enthymemeref04_Regex) fun w2 => 
  stW4 w2 (nb w1) (.i t28_0) (.int .u8 t28_1) (.int .u8 t28_2) (t28_3.v) fun w6 => drV w6 fun w7 => ld4_0 w7 (nb w1) fun t29_0 t29_1 t29_2 t29_3 => ld4_0 w7 (nb w1) fun t30_0 t30_1 t30_2 t30_3 => ca2 n_enthymemeref04_Spoilt #[.agg #[.i t30_0, .int .u8 t30_1, .int .u8 t30_2, t30_3.v], .i (Int.tmod how1 5), .i by2] w7 fun t34_0 t34_1 t34_2 t34_3 w8 => hdW4 w8 (nb w1) (.i t29_0) (.int .u8 t29_1) (.int .u8 t29_2) (t29_3.v) fun _ => nwV w8 (.cells #[.i t29_0, .int .u8 t29_1, .int .u8 t29_2, t29_3.v, .i t34_0, .int .u8 t34_1, .int .u8 t34_2, t34_3.v] ty_enthymemeref04_Regex) fun w9 => 
  L0 words3 long4 ⟨some (nb w8), 2, 2⟩ 0 w9 R) : Calls Tryz.prog n_enthymemelaw04_RegexMatches #[l0.v, .i how1, .i by2, words3.v, .i long4] w R :=
  calls_of_WP' (R := R) (fn := Tryz.f4) (c := C0) (args := [l0.v, .i how1, .i by2, words3.v, .i long4]) (by kernel_rfl) (by kernel_rfl) (by kernel_rfl) (sr C0 (show (fun (E : Env) (w : World) => srK Tryz.prog C0 (fun E w => srK Tryz.prog C1 (fun E w => sdK Tryz.prog C2 [0, 1, 2, 3, 4, 5, 6, 7] (fun E w => srK Tryz.prog C4 (fun E w => KE_L0 E w R) E w) E w) E w) E w) (envOf 0 [l0.v, .i how1, .i by2, words3.v, .i long4]) w from mp h) fun _ _ hK => (sr C1 hK fun _ _ hK => (sd C2 (by kernel_rfl) hK fun _ _ hK => (sq C3 (sr C4 hK fun _ _ hK => (bk C5 0 (by kernel_rfl) (lp C6 (by kernel_rfl) (KE_L0_ok R _ _ hK))))))))
def L0T (words3 : Sl) (long4 : Int) (all12 : Sl) (i13 : Int) (w : World) (R : Post) : Prop := LC w [] → L0 words3 long4 all12 i13 w R
def L1T (words3 : Sl) (long4 : Int) (all12 : Sl) (i13 k14 : Int) (w : World) (R : Post) : Prop := LC w [] → L1 words3 long4 all12 i13 k14 w R
abbrev S2T  (w : World) (R : Post) : Prop :=
  R (.returned (.bool false)) w
theorem S2T_ok  {w : World} {R : Post} (h : S2T  w R) (H : LC w []) : S2  w R := h
abbrev S4T  (w : World) (R : Post) : Prop :=
  R (.returned (.bool false)) w
theorem S4T_ok  {w : World} {R : Post} (h : S4T  w R) (H : LC w []) : S4  w R := h
abbrev S3T (words3 : Sl) (long4 : Int) (all12 : Sl) (i13 : Int) (w : World) (R : Post) : Prop :=
  (0 : Int) ≤ i13 ∧ i13 < ((all12.n : Nat) : Int) ∧ optP all12.a fun t88_p => ld4_0 w (t88_p.add (Int.toNat i13 * 4)) fun t89_0 t89_1 t89_2 t89_3 => ca2 n_enthymemelaw04_own #[.agg #[.i t89_0, .int .u8 t89_1, .int .u8 t89_2, t89_3.v]] w fun t90_0 t90_1 t90_2 t90_3 w1 => ca12 n_regex_Nullable #[.agg #[.i t90_0, .int .u8 t90_1, .int .u8 t90_2, t90_3.v]] w1 fun t91_0 t91_1 w2 => (0 : Int) ≤ i13 ∧ i13 < ((all12.n : Nat) : Int) ∧ optP all12.a fun t97_p => ld4_0 w2 (t97_p.add (Int.toNat i13 * 4)) fun t98_0 t98_1 t98_2 t98_3 => ca12 n_enthymemeref04_Nullable #[.agg #[.i t98_0, .int .u8 t98_1, .int .u8 t98_2, t98_3.v]] w2 fun t99_0 t99_1 w3 => sel (!(t91_0 == t99_0)) (S4T  w3 R) (sel (t91_1 != t99_1) (S4T  w3 R) (L0T words3 long4 all12 (IntKind.wrap .i64 (i13 + 1)) w3 R))
theorem S3T_ok {words3 : Sl} {long4 : Int} {all12 : Sl} {i13 : Int} {w : World} {R : Post} (h : S3T words3 long4 all12 i13 w R) (H : LC w []) : S3 words3 long4 all12 i13 w R := ⟨h.1, h.2.1, have h := h.2.2; optP_imp h fun t88_p h => let ⟨t89_0, t89_1, t89_2, t89_3, hc0, hc1, hc2, hc3, h⟩ := h; ⟨t89_0, t89_1, t89_2, t89_3, hc0, hc1, hc2, hc3, Calls.mono h fun r_ w1 h => let ⟨t90_0, t90_1, t90_2, t90_3, hr, h⟩ := h; ⟨t90_0, t90_1, t90_2, t90_3, hr, Calls.mono h fun r_ w2 h => let ⟨t91_0, t91_1, hr, h⟩ := h; ⟨t91_0, t91_1, hr, ⟨h.1, h.2.1, have h := h.2.2; optP_imp h fun t97_p h => let ⟨t98_0, t98_1, t98_2, t98_3, hc0, hc1, hc2, hc3, h⟩ := h; ⟨t98_0, t98_1, t98_2, t98_3, hc0, hc1, hc2, hc3, Calls.mono h fun r_ w3 h => let ⟨t99_0, t99_1, hr, h⟩ := h; ⟨t99_0, t99_1, hr, sel_imp h (fun h => S4T_ok h (LC.nil _)) (fun h => sel_imp h (fun h => S4T_ok h (LC.nil _)) (fun h => h (LC.nil _)))⟩⟩⟩⟩⟩⟩⟩
theorem L1T_step (words3 : Sl) (long4 : Int) (all12 : Sl) (i13 k14 : Int) (w : World) (R : Post) (h : sel (decide (k14 < ((words3.n : Nat) : Int))) (sel (decide (k14 < 8)) (drV w fun w10 => (0 : Int) ≤ i13 ∧ i13 < ((all12.n : Nat) : Int) ∧ optP all12.a fun t53_p => ld4_0 w10 (t53_p.add (Int.toNat i13 * 4)) fun t54_0 t54_1 t54_2 t54_3 => (0 : Int) ≤ k14 ∧ k14 < ((words3.n : Nat) : Int) ∧ optP words3.a fun t58_p => ∃ t59 : Int, w10.cell? (t58_p.add (Int.toNat k14 * 1)) = some (.i t59) ∧ 
  ca2 n_enthymemelaw04_own #[.agg #[.i t54_0, .int .u8 t54_1, .int .u8 t54_2, t54_3.v]] w10 fun t55_0 t55_1 t55_2 t55_3 w11 => w11.cell? (t58_p.add (Int.toNat k14 * 1)) = some (.i t59) ∧ ca13 n_enthymemeref04_Word #[.i t59] w11 fun t60 w12 => ca12 n_regex_Match #[.agg #[.i t55_0, .int .u8 t55_1, .int .u8 t55_2, t55_3.v], .string t60] w12 fun t61_0 t61_1 w13 => drV w13 fun w14 => (0 : Int) ≤ i13 ∧ i13 < ((all12.n : Nat) : Int) ∧ optP all12.a fun t67_p => ld4_0 w14 (t67_p.add (Int.toNat i13 * 4)) fun t68_0 t68_1 t68_2 t68_3 => (0 : Int) ≤ k14 ∧ k14 < ((words3.n : Nat) : Int) ∧ optP words3.a fun t71_p => ∃ t72 : Int, w14.cell? (t71_p.add (Int.toNat k14 * 1)) = some (.i t72) ∧ 
  ca13 n_enthymemeref04_Word #[.i t72] w14 fun t73 w15 => hdW4 w15 (t67_p.add (Int.toNat i13 * 4)) (.i t68_0) (.int .u8 t68_1) (.int .u8 t68_2) (t68_3.v) fun _ => ca12 n_enthymemeref04_Match #[.agg #[.i t68_0, .int .u8 t68_1, .int .u8 t68_2, t68_3.v], .string t73] w15 fun t74_0 t74_1 w16 => sel (!(t61_0 == t74_0)) (S2T  w16 R) (sel (t61_1 != t74_1) (S2T  w16 R) (L1T words3 long4 all12 i13 (IntKind.wrap .i64 (k14 + 1)) w16 R))) (S3T words3 long4 all12 i13 w R)) (S3T words3 long4 all12 i13 w R)) : L1T words3 long4 all12 i13 k14 w R := fun H => L1_step _ _ _ _ _ w R (sel_imp h (fun h => sel_imp h (fun h => ⟨h.1, h.2.1, have h := h.2.2; optP_imp h fun t53_p h => let ⟨t54_0, t54_1, t54_2, t54_3, hc0, hc1, hc2, hc3, h⟩ := h; ⟨t54_0, t54_1, t54_2, t54_3, hc0, hc1, hc2, hc3, ⟨h.1, h.2.1, have h := h.2.2; optP_imp h fun t58_p h => let ⟨t59, hc0, h⟩ := h; ⟨t59, hc0, Calls.mono h fun r_ w11 h => let ⟨t55_0, t55_1, t55_2, t55_3, hr, h⟩ := h; ⟨t55_0, t55_1, t55_2, t55_3, hr, ⟨h.1, have h := h.2; Calls.mono h fun r_ w12 h => let ⟨t60, hr, h⟩ := h; ⟨t60, hr, Calls.mono h fun r_ w13 h => let ⟨t61_0, t61_1, hr, h⟩ := h; ⟨t61_0, t61_1, hr, ⟨h.1, h.2.1, have h := h.2.2; optP_imp h fun t67_p h => let ⟨t68_0, t68_1, t68_2, t68_3, hc0, hc1, hc2, hc3, h⟩ := h; ⟨t68_0, t68_1, t68_2, t68_3, hc0, hc1, hc2, hc3, ⟨h.1, h.2.1, have h := h.2.2; optP_imp h fun t71_p h => let ⟨t72, hc0, h⟩ := h; ⟨t72, hc0, Calls.mono h fun r_ w15 h => let ⟨t73, hr, h⟩ := h; ⟨t73, hr, ⟨h.1, h.2.1, h.2.2.1, h.2.2.2.1, have h := h.2.2.2.2; Calls.mono h fun r_ w16 h => let ⟨t74_0, t74_1, hr, h⟩ := h; ⟨t74_0, t74_1, hr, sel_imp h (fun h => S2T_ok h (LC.nil _)) (fun h => sel_imp h (fun h => S2T_ok h (LC.nil _)) (fun h => h (LC.nil _)))⟩⟩⟩⟩⟩⟩⟩⟩⟩⟩⟩⟩⟩⟩⟩) (fun h => S3T_ok h (LC.nil _))) (fun h => S3T_ok h (LC.nil _)))
abbrev S5T (n23 : Int) (w : World) (R : Post) : Prop :=
  ∃ (t114 : Sl) (w1 : World), Sem.run Tryz.prog (Instr.makeSlice ty_sl_uint8 (.i n23) (.i n23)) w = .ok (t114.v) w1 ∧ nwV w1 (.cells #[.i 2, .int .u8 0, .int .u8 0, .slice none 0 0] ty_regex_Regex) fun w2 => 
  ∃ t120 : ByteArray, Sem.run Tryz.prog (Go.convert ty_sl_uint8 ty_string (t114.v)) w2 = .ok (.string t120) w2 ∧ ca12 n_regex_Match #[.agg #[.i 7, .int .u8 0, .int .u8 0, .slice (some (nb w1)) 1 1], .string t120] w2 fun t121_0 t121_1 w3 => sel (t121_0 == (decide (n23 ≤ 64))) (sel ((t121_1 == 4) == (decide (n23 > 64))) (ca1 n_enthymemelaw04_lives #[] w3 fun t136 w4 => R (.returned (.bool t136)) w4) (R (.returned (.bool false)) w3)) (R (.returned (.bool false)) w3)
theorem S5T_ok {n23 : Int} {w : World} {R : Post} (h : S5T n23 w R) (H : LC w []) : S5 n23 w R := let ⟨t114, w1, he, h⟩ := h; ⟨t114, w1, he, let ⟨t120, he, h⟩ := h; ⟨t120, he, Calls.mono h fun r_ w3 h => let ⟨t121_0, t121_1, hr, h⟩ := h; ⟨t121_0, t121_1, hr, sel_imp h (fun h => sel_imp h (fun h => Calls.mono h fun r_ w4 h => let ⟨t136, hr, h⟩ := h; ⟨t136, hr, h⟩) (fun h => h)) (fun h => h)⟩⟩⟩
theorem L0T_step (words3 : Sl) (long4 : Int) (all12 : Sl) (i13 : Int) (w : World) (R : Post) (h : sel (decide (i13 < 2)) (L1T words3 long4 all12 i13 0 w R) (ca0 n_enthymemeref01_Around #[.i long4, .i 9] w fun t111 w17 => S5T (IntKind.wrap .i64 (60 + t111)) w17 R)) : L0T words3 long4 all12 i13 w R := fun H => L0_step _ _ _ _ w R (sel_imp h (fun h => h (LC.nil _)) (fun h => Calls.mono h fun r_ w17 h => let ⟨t111, hr, h⟩ := h; ⟨t111, hr, S5T_ok h (LC.nil _)⟩))
theorem okT (l0 : Sl) (how1 by2 : Int) (words3 : Sl) (long4 : Int) (w : World) (R : Post) (h : ca2 n_enthymemeref04_Made #[l0.v] w fun t28_0 t28_1 t28_2 t28_3 w1 => newV [] w1 fun b11 w2 => 
  loc [b11] w2 fun w7 => cf2 [b11] n_enthymemeref04_Spoilt #[.agg #[.i t28_0, .int .u8 t28_1, .int .u8 t28_2, t28_3.v], .i (Int.tmod how1 5), .i by2] w7 fun t34_0 t34_1 t34_2 t34_3 w8 => nwV w8 (.cells #[.i t28_0, .int .u8 t28_1, .int .u8 t28_2, t28_3.v, .i t34_0, .int .u8 t34_1, .int .u8 t34_2, t34_3.v] ty_enthymemeref04_Regex) fun w9 => 
  L0T words3 long4 ⟨some (nb w8), 2, 2⟩ 0 w9 R) : Calls Tryz.prog n_enthymemelaw04_RegexMatches #[l0.v, .i how1, .i by2, words3.v, .i long4] w R :=
  ok _ _ _ _ _ w R (Calls.mono h fun r_ w1 h => let ⟨t28_0, t28_1, t28_2, t28_3, hr, h⟩ := h; ⟨t28_0, t28_1, t28_2, t28_3, hr, LC.nwT (LC.nil _) (Fr.refl _ _) h fun w2 H h => LC.stT0 H 0 (Fr.refl _ _) rfl rfl fun w3 H f => LC.stT H 0 1 f rfl rfl fun w4 H f => LC.stT H 0 2 f rfl rfl fun w5 H f => LC.stT H 0 3 f rfl rfl fun w6 (H : LC w6 [(w1.heap.size, [.i t28_0, .int .u8 t28_1, .int .u8 t28_2, t28_3.v], ty_enthymemeref04_Regex)]) (f : Fr (· ∈ [w1.heap.size]) _ w6) => LC.drT H f fun w7 H f => ⟨_, _, _, t28_3, H.ld 0 0, H.ld 0 1, H.ld 0 2, H.ld 0 3, ⟨_, _, _, t28_3, H.ld 0 0, H.ld 0 1, H.ld 0 2, H.ld 0 3, have h := h _ f; LC.callT H h fun r_ w8 H h => let ⟨t34_0, t34_1, t34_2, t34_3, hr, h⟩ := h; ⟨t34_0, t34_1, t34_2, t34_3, hr, ⟨H.ld 0 0, H.ld 0 1, H.ld 0 2, H.ld 0 3, LC.nwN H h fun w9 H h => h (LC.nil _)⟩⟩⟩⟩⟩)
end enthymemelaw04_RegexMatches
end Go.Proofs.YtknlbofiicflgaaGreat

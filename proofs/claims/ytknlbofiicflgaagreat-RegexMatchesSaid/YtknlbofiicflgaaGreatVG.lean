/- Printed by a program of ours (vcgen.py) from the dump: the conditions of the functions, and that they suffice. -/
import Derived.Test.YtknlbofiicflgaaGreatV
import Derived.Test.YtknlbofiicflgaaGreatY
set_option linter.unusedVariables false
set_option maxRecDepth 100000
set_option maxHeartbeats 2000000
namespace Go.Proofs.YtknlbofiicflgaaGreat
open Go Go.W
namespace enthymemeref04_maker_next
noncomputable def C0 : Code := (Tryz.f42.body).getD .skip
/-- (*enthymeme/enthymemeref04.maker).next -/
noncomputable def C1:=C0.sn
noncomputable def C2:=C1.sn
noncomputable def C3:=C2.sn
theorem ok (m0 : Addr) (n1 : Int) (w : World) (R : Post) (h : ∃ t8 : Int, w.cell? (m0.add 1) = some (.i t8) ∧ 
  stV w (m0.add 1) (.i (IntKind.wrap .i64 (t8 + 1))) fun w1 => 
  drV w1 fun w2 => ∃ t15 : Sl, w2.cell? (m0.add 0) = some (t15.v) ∧ 
  ∃ t19 : Int, w2.cell? (m0.add 1) = some (.i t19) ∧ 
  ca0 n_enthymemeref01_Pick #[t15.v, .i (IntKind.wrap .i64 (t19 - 1)), .i n1] w2 fun t22 w3 => R (.returned (.i t22)) w3) : Calls Tryz.prog n_enthymemeref04_maker_next #[.pointer (some m0), .i n1] w R :=
  calls_of_WP' (R := R) (fn := Tryz.f42) (c := C0) (args := [.pointer (some m0), .i n1]) (by kernel_rfl) (by kernel_rfl) (by kernel_rfl) (sr C0 (show (fun (E : Env) (w : World) => srK Tryz.prog C0 (fun E w => srK Tryz.prog C1 (fun E w => sdK Tryz.prog C2 [0, 1, 2, 3, 4, 5, 6, 7, 8, 9, 10, 11] (fun E w => retVC Tryz.prog Tryz.f42 E w (fun v => R (.returned v) w)) E w) E w) E w) (envOf 0 [.pointer (some m0), .i n1]) w from mp h) fun _ _ hK => (sr C1 hK fun _ _ hK => (sd C2 (by kernel_rfl) hK fun _ _ hK => (rt C3 fun a hA => retVC_sound hA hK))))
end enthymemeref04_maker_next
namespace enthymemeref04_maker_regex
noncomputable def C0 : Code := (Tryz.f23.body).getD .skip
noncomputable def C1:=C0.sn
noncomputable def C2:=C1.sn
noncomputable def C3:=C2.sn
noncomputable def C4:=C3.sn
noncomputable def C5:=C4.sn
abbrev Q0 (R : Post) : ExP := (bodyPost Tryz.prog Tryz.f23 R)
noncomputable def C6:=C5.sn
/-- ref.go:615 -/
abbrev S2 (t4 out6 : Addr) (w : World) (R : Post) : Prop :=
  ld4_0 w out6 fun t82_0 t82_1 t82_2 t82_3 => stW4 w t4 (.i t82_0) (.int .u8 t82_1) (.int .u8 t82_2) (t82_3.v) fun w4 => ld4_0 w4 t4 fun r4_0 r4_1 r4_2 r4_3 => R (.returned (.agg #[.i r4_0, .int .u8 r4_1, .int .u8 r4_2, r4_3.v])) w4
def KE_S2 (E : Env) (w : World) (R : Post) : Prop := W.asRef (Env.get? E 4) fun t4 => W.asRef (Env.get? E 6) fun out6 => S2 t4 out6 w R
theorem KE_S2_ok : KOk Tryz.prog 83 KE_S2 C5 Q0 := by
  intro R E w h
  obtain ⟨t4, hq4, h_1⟩ := W.asRef_elim h
  obtain ⟨out6, hq6, h_2⟩ := W.asRef_elim h_1
  exact fun a ha => WP.at (E := [(4, .pointer (some t4)), (6, .pointer (some out6))]) (sr C5 (K := fun E w => retVC Tryz.prog Tryz.f23 E w (fun v => R (.returned v) w)) (mp h_2) fun _ _ hK => (rt C6 fun a hA => retVC_sound hA hK)) (ha.cons hq4 (ha.cons hq6 ha.nil))
noncomputable def C7:=C4.fs
noncomputable def C8:=C7.sn
noncomputable def C9:=C8.fs
noncomputable def C10:=C9.sn
noncomputable def C11:=C10.sn
noncomputable def C12:=C11.sn
noncomputable def C13:=C12.fs
noncomputable def C14:=C13.sn
noncomputable def C15:=C14.sn
noncomputable def C16:=C15.sn
noncomputable def C17:=C16.fs
noncomputable def C18:=C17.fs
abbrev Q1 (R : Post) : ExP := (Exit.then (wpx Tryz.prog (cx 83) C5 (bodyPost Tryz.prog Tryz.f23 R)) (bodyPost Tryz.prog Tryz.f23 R))
abbrev Q2 (R : Post) : ExP := (Exit.inBlock 0 (Q1 R))
abbrev Q3 (R : Post) : ExP := (Exit.inBlock 1 (Q2 R))
/-- the head of the loop, ref.go:609 -/
def L5 (m0 : Addr) (deep1 : Int) (t4 out6 : Addr) (many7 i8 : Int) (w : World) (R : Post) : Prop := LP Tryz.prog (cx 83) C18 (Q3 R) [(0, .pointer (some m0)), (1, .i deep1), (4, .pointer (some t4)), (6, .pointer (some out6)), (7, .i many7), (8, .i i8)] w
def KE_L5 (E : Env) (w : World) (R : Post) : Prop := W.asRef (Env.get? E 0) fun m0 => W.asInt .i64 (Env.get? E 1) fun deep1 => W.asRef (Env.get? E 4) fun t4 => W.asRef (Env.get? E 6) fun out6 => W.asInt .i64 (Env.get? E 7) fun many7 => W.asInt .i64 (Env.get? E 8) fun i8 => L5 m0 deep1 t4 out6 many7 i8 w R
theorem KE_L5_ok : LOk Tryz.prog 83 KE_L5 C18 Q3 := by
  intro R E w h
  obtain ⟨m0, hq0, h_1⟩ := W.asRef_elim h
  obtain ⟨deep1, hq1, h_2⟩ := W.asInt_elim h_1
  obtain ⟨t4, hq4, h_3⟩ := W.asRef_elim h_2
  obtain ⟨out6, hq6, h_4⟩ := W.asRef_elim h_3
  obtain ⟨many7, hq7, h_5⟩ := W.asInt_elim h_4
  obtain ⟨i8, hq8, h_6⟩ := W.asInt_elim h_5
  intro a ha
  exact h_6 a (ha.cons hq0 (ha.cons hq1 (ha.cons hq4 (ha.cons hq6 (ha.cons hq7 (ha.cons hq8 ha.nil))))))
noncomputable def C19:=C18.fs
noncomputable def C20:=C18.sn
noncomputable def C21:=C20.fs
noncomputable def C22:=C21.fs
noncomputable def C23:=C20.sn
noncomputable def C24:=C19.sn
noncomputable def C25:=C24.fs
noncomputable def C26:=C24.sn
theorem L5_step (m0 : Addr) (deep1 : Int) (t4 out6 : Addr) (many7 i8 : Int) (w : World) (R : Post) (h : sel (decide (i8 < many7)) (drV w fun w1 => ∃ t62 : Sl, w1.cell? (out6.add 3) = some (t62.v) ∧ 
  ca2 n_enthymemeref04_maker_regex #[.pointer (some m0), .i (IntKind.wrap .i64 (deep1 - 1))] w1 fun t66_0 t66_1 t66_2 t66_3 w2 => w2.cell? (out6.add 3) = some (t62.v) ∧ nwV w2 (.cells #[.i t66_0, .int .u8 t66_1, .int .u8 t66_2, t66_3.v] ty_enthymemeref04_Regex) fun w3 => 
  w3.cell? (out6.add 3) = some (t62.v) ∧ ∃ (t68 : Sl) (w4 : World), Sem.run Tryz.prog (Builtin.append_ #[ty_sl_enthymemeref04_Regex, ty_sl_enthymemeref04_Regex] ty_sl_enthymemeref04_Regex #[t62.v, .slice (some (nb w2)) 1 1]) w3 = .ok (t68.v) w4 ∧ stV w4 (out6.add 3) (t68.v) fun w5 => 
  L5 m0 deep1 t4 out6 many7 (IntKind.wrap .i64 (i8 + 1)) w5 R) (S2 t4 out6 w R)) : L5 m0 deep1 t4 out6 many7 i8 w R :=
  LP.step (n := (cx 83)) (c := C18) (E := [(0, .pointer (some m0)), (1, .i deep1), (4, .pointer (some t4)), (6, .pointer (some out6)), (7, .i many7), (8, .i i8)]) (w := w) (sq C18 (sr C19 (show (fun (E : Env) (w : World) => srK Tryz.prog C19 (fun E w => condK (Env.val E (.tmp 58)) (dgK Tryz.prog C22 [0, 1, 2, 3, 4, 5, 6, 7, 8, 9] (fun E w => rgK Tryz.prog C23 (fun E w => KE_L5 E w R) E w) E w) (KE_S2 E w R)) E w) [(0, .pointer (some m0)), (1, .i deep1), (4, .pointer (some t4)), (6, .pointer (some out6)), (7, .i many7), (8, .i i8)] w from mp h) fun _ _ hK => (cn C24 hK (fun hK => (sk C25 fun a hA => nx hA (sq C20 (bk C21 2 (by kernel_rfl) (dg C22 (by kernel_rfl) hK fun _ _ a hA hK => nx hA (rg C23 (by kernel_rfl) hK fun _ _ a hA hK => KE_L5_ok R _ _ hK a hA)))))) (fun hK => (xt C26 1 (by kernel_rfl) fun a hA => nx hA (KE_S2_ok R _ _ hK))))))
/-- ref.go:609 -/
abbrev S4 (m0 : Addr) (deep1 : Int) (t4 out6 : Addr) (many7 : Int) (w : World) (R : Post) : Prop :=
  L5 m0 deep1 t4 out6 many7 0 w R
def KE_S4 (E : Env) (w : World) (R : Post) : Prop := W.asRef (Env.get? E 0) fun m0 => W.asInt .i64 (Env.get? E 1) fun deep1 => W.asRef (Env.get? E 4) fun t4 => W.asRef (Env.get? E 6) fun out6 => W.asInt .i64 (Env.get? E 7) fun many7 => S4 m0 deep1 t4 out6 many7 w R
theorem KE_S4_ok : KOk Tryz.prog 83 KE_S4 C15 Q2 := by
  intro R E w h
  obtain ⟨m0, hq0, h_1⟩ := W.asRef_elim h
  obtain ⟨deep1, hq1, h_2⟩ := W.asInt_elim h_1
  obtain ⟨t4, hq4, h_3⟩ := W.asRef_elim h_2
  obtain ⟨out6, hq6, h_4⟩ := W.asRef_elim h_3
  obtain ⟨many7, hq7, h_5⟩ := W.asInt_elim h_4
  exact fun a ha => WP.at (E := [(0, .pointer (some m0)), (1, .i deep1), (4, .pointer (some t4)), (6, .pointer (some out6)), (7, .i many7)]) (sr C15 (K := fun E w => KE_L5 E w R) (mp h_5) fun _ _ hK => (bk C16 1 (by kernel_rfl) (lp C17 (by kernel_rfl) (KE_L5_ok R _ _ hK)))) (ha.cons hq0 (ha.cons hq1 (ha.cons hq4 (ha.cons hq6 (ha.cons hq7 ha.nil)))))
noncomputable def C27:=C14.fs
noncomputable def C28:=C27.sn
noncomputable def C29:=C28.fs
noncomputable def C30:=C28.sn
/-- ref.go:605 -/
abbrev S3 (m0 : Addr) (deep1 : Int) (t4 out6 : Addr) (w : World) (R : Post) : Prop :=
  ca0 n_enthymemeref04_maker_next #[.pointer (some m0), .i 3] w fun t51 w1 => sel (deep1 == 4) (ca0 n_enthymemeref04_maker_next #[.pointer (some m0), .i 4] w1 fun t55 w2 => S4 m0 deep1 t4 out6 t55 w2 R) (S4 m0 deep1 t4 out6 t51 w1 R)
def KE_S3 (E : Env) (w : World) (R : Post) : Prop := W.asRef (Env.get? E 0) fun m0 => W.asInt .i64 (Env.get? E 1) fun deep1 => W.asRef (Env.get? E 4) fun t4 => W.asRef (Env.get? E 6) fun out6 => S3 m0 deep1 t4 out6 w R
theorem KE_S3_ok : KOk Tryz.prog 83 KE_S3 C13 Q2 := by
  intro R E w h
  obtain ⟨m0, hq0, h_1⟩ := W.asRef_elim h
  obtain ⟨deep1, hq1, h_2⟩ := W.asInt_elim h_1
  obtain ⟨t4, hq4, h_3⟩ := W.asRef_elim h_2
  obtain ⟨out6, hq6, h_4⟩ := W.asRef_elim h_3
  exact fun a ha => WP.at (E := [(0, .pointer (some m0)), (1, .i deep1), (4, .pointer (some t4)), (6, .pointer (some out6))]) (sr C13 (K := fun E w => srK Tryz.prog C27 (fun E w => condK (Env.val E (.tmp 53)) (rgK Tryz.prog C29 (fun E w => KE_S4 E w R) E w) (KE_S4 E w R)) E w) (mp h_4) fun _ _ hK => (sq C14 (sr C27 hK fun _ _ hK => (cn C28 hK (fun hK => (rg C29 (by kernel_rfl) hK fun _ _ a hA hK => nx hA (KE_S4_ok R _ _ hK))) (fun hK => (sk C30 fun a hA => nx hA (KE_S4_ok R _ _ hK))))))) (ha.cons hq0 (ha.cons hq1 (ha.cons hq4 (ha.cons hq6 ha.nil))))
noncomputable def C31:=C12.sn
noncomputable def C32:=C31.sn
noncomputable def C33:=C32.fs
/-- ref.go:613 -/
abbrev S7 (m0 : Addr) (deep1 : Int) (t4 out6 : Addr) (w : World) (R : Post) : Prop :=
  drV w fun w1 => ∃ t74 : Sl, w1.cell? (out6.add 3) = some (t74.v) ∧ 
  ca2 n_enthymemeref04_maker_regex #[.pointer (some m0), .i (IntKind.wrap .i64 (deep1 - 1))] w1 fun t78_0 t78_1 t78_2 t78_3 w2 => w2.cell? (out6.add 3) = some (t74.v) ∧ nwV w2 (.cells #[.i t78_0, .int .u8 t78_1, .int .u8 t78_2, t78_3.v] ty_enthymemeref04_Regex) fun w3 => 
  w3.cell? (out6.add 3) = some (t74.v) ∧ ∃ (t80 : Sl) (w4 : World), Sem.run Tryz.prog (Builtin.append_ #[ty_sl_enthymemeref04_Regex, ty_sl_enthymemeref04_Regex] ty_sl_enthymemeref04_Regex #[t74.v, .slice (some (nb w2)) 1 1]) w3 = .ok (t80.v) w4 ∧ stV w4 (out6.add 3) (t80.v) fun w5 => 
  S2 t4 out6 w5 R
def KE_S7 (E : Env) (w : World) (R : Post) : Prop := W.asRef (Env.get? E 0) fun m0 => W.asInt .i64 (Env.get? E 1) fun deep1 => W.asRef (Env.get? E 4) fun t4 => W.asRef (Env.get? E 6) fun out6 => S7 m0 deep1 t4 out6 w R
theorem KE_S7_ok : KOk Tryz.prog 83 KE_S7 C33 Q2 := by
  intro R E w h
  obtain ⟨m0, hq0, h_1⟩ := W.asRef_elim h
  obtain ⟨deep1, hq1, h_2⟩ := W.asInt_elim h_1
  obtain ⟨t4, hq4, h_3⟩ := W.asRef_elim h_2
  obtain ⟨out6, hq6, h_4⟩ := W.asRef_elim h_3
  exact fun a ha => WP.at (E := [(0, .pointer (some m0)), (1, .i deep1), (4, .pointer (some t4)), (6, .pointer (some out6))]) (dg C33 (K := fun E w => KE_S2 E w R) (l := [0, 1, 2, 3, 4, 5, 6, 7, 8, 9]) (by kernel_rfl) (mp h_4) fun _ _ a hA hK => nx hA (KE_S2_ok R _ _ hK)) (ha.cons hq0 (ha.cons hq1 (ha.cons hq4 (ha.cons hq6 ha.nil))))
noncomputable def C34:=C31.fs
abbrev Q4 (R : Post) : ExP := (Exit.then (wpx Tryz.prog (cx 83) C32 (Exit.inBlock 0 (Q1 R))) (Exit.inBlock 0 (Q1 R)))
noncomputable def C35:=C34.sn
noncomputable def C36:=C35.sn
noncomputable def C37:=C35.fs
noncomputable def C38:=C32.sn
/-- ref.go:612 -/
abbrev S6 (m0 : Addr) (deep1 : Int) (t4 out6 : Addr) (t24 : Int) (w : World) (R : Post) : Prop :=
  sel (t24 == 6) (sel (t24 == 6) (S7 m0 deep1 t4 out6 w R) (S2 t4 out6 w R)) (sel (t24 == 7) (S7 m0 deep1 t4 out6 w R) (S2 t4 out6 w R))
def KE_S6 (E : Env) (w : World) (R : Post) : Prop := W.asRef (Env.get? E 0) fun m0 => W.asInt .i64 (Env.get? E 1) fun deep1 => W.asRef (Env.get? E 4) fun t4 => W.asRef (Env.get? E 6) fun out6 => W.asInt .i64 (Env.get? E 24) fun t24 => S6 m0 deep1 t4 out6 t24 w R
theorem KE_S6_ok : KOk Tryz.prog 83 KE_S6 C34 Q4 := by
  intro R E w h
  obtain ⟨m0, hq0, h_1⟩ := W.asRef_elim h
  obtain ⟨deep1, hq1, h_2⟩ := W.asInt_elim h_1
  obtain ⟨t4, hq4, h_3⟩ := W.asRef_elim h_2
  obtain ⟨out6, hq6, h_4⟩ := W.asRef_elim h_3
  obtain ⟨t24, hq24, h_5⟩ := W.asInt_elim h_4
  exact fun a ha => WP.at (E := [(0, .pointer (some m0)), (1, .i deep1), (4, .pointer (some t4)), (6, .pointer (some out6)), (24, .i t24)]) (sr C34 (K := fun E w => condK (Env.val E (.tmp 70)) (condK (Env.val E (.tmp 70)) (KE_S7 E w R) (KE_S2 E w R)) (rgK Tryz.prog C36 (fun E w => condK (Env.val E (.tmp 70)) (KE_S7 E w R) (KE_S2 E w R)) E w)) (mp h_5) fun _ _ hK => (cn C35 hK (fun hK => (sk C37 fun a hA => nx hA (cn C32 hK (fun hK => (KE_S7_ok R _ _ hK)) (fun hK => (sk C38 fun a hA => nx hA (KE_S2_ok R _ _ hK)))))) (fun hK => (rg C36 (by kernel_rfl) hK fun _ _ a hA hK => nx hA (cn C32 hK (fun hK => (KE_S7_ok R _ _ hK)) (fun hK => (sk C38 fun a hA => nx hA (KE_S2_ok R _ _ hK)))))))) (ha.cons hq0 (ha.cons hq1 (ha.cons hq4 (ha.cons hq6 (ha.cons hq24 ha.nil)))))
noncomputable def C39:=C10.fs
noncomputable def C40:=C39.sn
noncomputable def C41:=C40.sn
noncomputable def C42:=C41.sn
noncomputable def C43:=C42.fs
noncomputable def C44:=C11.fs
noncomputable def C45:=C44.sn
noncomputable def C46:=C45.sn
noncomputable def C47:=C46.sn
noncomputable def C48:=C47.sn
noncomputable def C49:=C42.sn
noncomputable def C50:=C45.fs
noncomputable def C51:=C47.fs
/-- ref.go:596 -/
abbrev S1 (m0 : Addr) (deep1 : Int) (t4 : Addr) (kind5 : Int) (w : World) (R : Post) : Prop :=
  nwV w (.cells #[.i 0, .int .u8 0, .int .u8 0, .slice none 0 0] ty_enthymemeref04_Regex) fun w1 => 
  stW4 w1 (nb w) (.i kind5) (.int .u8 0) (.int .u8 0) (.slice none 0 0) fun w5 => sel (kind5 == 2) (nwV w5 (.cells #[.int .u8 97, .int .u8 98, .int .u8 97, .int .u8 98, .int .u8 99, .int .u8 0, .int .u8 39, .int .u8 92, .int .u8 255, .int .u8 32] ty_uint8) fun w6 => 
  ca0 n_enthymemeref04_maker_next #[.pointer (some m0), .i 10] w6 fun t29 w7 => (0 : Int) ≤ t29 ∧ t29 < ((10 : Nat) : Int) ∧ optP (some (nb w5)) fun t30_p => ∃ t31 : Int, w7.cell? (t30_p.add (Int.toNat t29 * 1)) = some (.int .u8 t31) ∧ 
  stV w7 ((nb w).add 1) (.int .u8 t31) fun w8 => 
  ∃ t34 : Int, w8.cell? ((nb w).add 1) = some (.int .u8 t34) ∧ 
  stV w8 ((nb w).add 2) (.int .u8 t34) fun w9 => 
  ca0 n_enthymemeref04_maker_next #[.pointer (some m0), .i 4] w9 fun t37 w10 => sel (t37 == 0) (drV w10 fun w11 => ∃ t40 : Int, w11.cell? ((nb w).add 1) = some (.int .u8 t40) ∧ 
  ca0 n_enthymemeref04_maker_next #[.pointer (some m0), .i 256] w11 fun t42 w12 => w12.cell? ((nb w).add 1) = some (.int .u8 t40) ∧ stV w12 ((nb w).add 2) (.int .u8 (if t40 < IntKind.wrap .u8 t42 then IntKind.wrap .u8 t42 else t40)) fun w13 => 
  S2 t4 (nb w) w13 R) (S2 t4 (nb w) w10 R)) (sel (kind5 == 3) (sel (kind5 == 3) (S3 m0 deep1 t4 (nb w) w5 R) (S6 m0 deep1 t4 (nb w) kind5 w5 R)) (sel (kind5 == 4) (sel (kind5 == 4) (S3 m0 deep1 t4 (nb w) w5 R) (S6 m0 deep1 t4 (nb w) kind5 w5 R)) (sel (kind5 == 5) (S3 m0 deep1 t4 (nb w) w5 R) (S6 m0 deep1 t4 (nb w) kind5 w5 R))))
def KE_S1 (E : Env) (w : World) (R : Post) : Prop := W.asRef (Env.get? E 0) fun m0 => W.asInt .i64 (Env.get? E 1) fun deep1 => W.asRef (Env.get? E 4) fun t4 => W.asInt .i64 (Env.get? E 5) fun kind5 => S1 m0 deep1 t4 kind5 w R
theorem KE_S1_ok : KOk Tryz.prog 83 KE_S1 C3 Q0 := by
  intro R E w h
  obtain ⟨m0, hq0, h_1⟩ := W.asRef_elim h
  obtain ⟨deep1, hq1, h_2⟩ := W.asInt_elim h_1
  obtain ⟨t4, hq4, h_3⟩ := W.asRef_elim h_2
  obtain ⟨kind5, hq5, h_4⟩ := W.asInt_elim h_3
  exact fun a ha => WP.at (E := [(0, .pointer (some m0)), (1, .i deep1), (4, .pointer (some t4)), (5, .i kind5)]) (sr C3 (K := fun E w => srK Tryz.prog C7 (fun E w => srK Tryz.prog C9 (fun E w => condK (Env.val E (.tmp 25)) (srK Tryz.prog C39 (fun E w => srK Tryz.prog C40 (fun E w => srK Tryz.prog C41 (fun E w => condK (Env.val E (.tmp 38)) (dgK Tryz.prog C43 [0, 1, 2, 3, 4, 5, 6, 7] (fun E w => KE_S2 E w R) E w) (KE_S2 E w R)) E w) E w) E w) (srK Tryz.prog C44 (fun E w => condK (Env.val E (.tmp 46)) (condK (Env.val E (.tmp 46)) (KE_S3 E w R) (KE_S6 E w R)) (srK Tryz.prog C46 (fun E w => condK (Env.val E (.tmp 46)) (condK (Env.val E (.tmp 46)) (KE_S3 E w R) (KE_S6 E w R)) (rgK Tryz.prog C48 (fun E w => condK (Env.val E (.tmp 46)) (KE_S3 E w R) (KE_S6 E w R)) E w)) E w)) E w)) E w) E w) (mp h_4) fun _ _ hK => (sq C4 (sr C7 hK fun _ _ hK => (bk C8 0 (by kernel_rfl) (sr C9 hK fun _ _ hK => (cn C10 hK (fun hK => (sr C39 hK fun _ _ hK => (sr C40 hK fun _ _ hK => (sr C41 hK fun _ _ hK => (cn C42 hK (fun hK => (dg C43 (by kernel_rfl) hK fun _ _ a hA hK => nx hA (KE_S2_ok R _ _ hK))) (fun hK => (sk C49 fun a hA => nx hA (KE_S2_ok R _ _ hK)))))))) (fun hK => (sq C11 (sr C44 hK fun _ _ hK => (cn C45 hK (fun hK => (sk C50 fun a hA => nx hA (cn C12 hK (fun hK => (KE_S3_ok R _ _ hK)) (fun hK => (sq C31 (KE_S6_ok R _ _ hK)))))) (fun hK => (sr C46 hK fun _ _ hK => (cn C47 hK (fun hK => (sk C51 fun a hA => nx hA (cn C12 hK (fun hK => (KE_S3_ok R _ _ hK)) (fun hK => (sq C31 (KE_S6_ok R _ _ hK)))))) (fun hK => (rg C48 (by kernel_rfl) hK fun _ _ a hA hK => nx hA (cn C12 hK (fun hK => (KE_S3_ok R _ _ hK)) (fun hK => (sq C31 (KE_S6_ok R _ _ hK))))))))))))))))))) (ha.cons hq0 (ha.cons hq1 (ha.cons hq4 (ha.cons hq5 ha.nil))))
noncomputable def C52:=C2.fs
noncomputable def C53:=C52.sn
noncomputable def C54:=C53.fs
abbrev Q5 (R : Post) : ExP := (Exit.then (wpx Tryz.prog (cx 83) C3 (bodyPost Tryz.prog Tryz.f23 R)) (bodyPost Tryz.prog Tryz.f23 R))
/-- ref.go:594 -/
abbrev S0 (m0 : Addr) (deep1 : Int) (t4 : Addr) (w : World) (R : Post) : Prop :=
  nwV w (.cells #[.i 2, .i 2, .i 2, .i 2, .i 1, .i 0] ty_int) fun w1 => 
  ca0 n_enthymemeref04_maker_next #[.pointer (some m0), .i 6] w1 fun t19 w2 => (0 : Int) ≤ t19 ∧ t19 < ((6 : Nat) : Int) ∧ optP (some (nb w)) fun t20_p => ∃ t21 : Int, w2.cell? (t20_p.add (Int.toNat t19 * 1)) = some (.i t21) ∧ 
  S1 m0 deep1 t4 t21 w2 R
def KE_S0 (E : Env) (w : World) (R : Post) : Prop := W.asRef (Env.get? E 0) fun m0 => W.asInt .i64 (Env.get? E 1) fun deep1 => W.asRef (Env.get? E 4) fun t4 => S0 m0 deep1 t4 w R
theorem KE_S0_ok : KOk Tryz.prog 83 KE_S0 C54 Q5 := by
  intro R E w h
  obtain ⟨m0, hq0, h_1⟩ := W.asRef_elim h
  obtain ⟨deep1, hq1, h_2⟩ := W.asInt_elim h_1
  obtain ⟨t4, hq4, h_3⟩ := W.asRef_elim h_2
  exact fun a ha => WP.at (E := [(0, .pointer (some m0)), (1, .i deep1), (4, .pointer (some t4))]) (rg C54 (K := fun E w => KE_S1 E w R) (by kernel_rfl) (mp h_3) fun _ _ a hA hK => nx hA (KE_S1_ok R _ _ hK)) (ha.cons hq0 (ha.cons hq1 (ha.cons hq4 ha.nil)))
/-- (*enthymeme/enthymemeref04.maker).regex -/
noncomputable def C55:=C53.sn
theorem ok (m0 : Addr) (deep1 : Int) (w : World) (R : Post) (h : nwV w (.cells #[.i 0, .int .u8 0, .int .u8 0, .slice none 0 0] ty_enthymemeref04_Regex) fun w1 => 
  ca0 n_enthymemeref04_maker_next #[.pointer (some m0), .i 14] w1 fun t10 w2 => sel (decide (deep1 < 2)) (S0 m0 deep1 (nb w) w2 R) (sel (decide (t10 > 7)) (S0 m0 deep1 (nb w) w2 R) (S1 m0 deep1 (nb w) t10 w2 R))) : Calls Tryz.prog n_enthymemeref04_maker_regex #[.pointer (some m0), .i deep1] w R :=
  calls_of_WP' (R := R) (fn := Tryz.f23) (c := C0) (args := [.pointer (some m0), .i deep1]) (by kernel_rfl) (by kernel_rfl) (by kernel_rfl) (sr C0 (show (fun (E : Env) (w : World) => srK Tryz.prog C0 (fun E w => srK Tryz.prog C1 (fun E w => srK Tryz.prog C52 (fun E w => condK (Env.val E (.tmp 16)) (KE_S0 E w R) (KE_S1 E w R)) E w) E w) E w) (envOf 0 [.pointer (some m0), .i deep1]) w from mp h) fun _ _ hK => (sr C1 hK fun _ _ hK => (sq C2 (sr C52 hK fun _ _ hK => (cn C53 hK (fun hK => (KE_S0_ok R _ _ hK)) (fun hK => (sk C55 fun a hA => nx hA (KE_S1_ok R _ _ hK))))))))
abbrev S2T (t4 : Nat) (t4_0 t4_1 t4_2 : Int) (t4_3 : Sl) (out6 : Nat) (out6_0 out6_1 out6_2 : Int) (out6_3 : Sl) (w : World) (R : Post) : Prop :=
  loc [t4, out6] w fun w4 => R (.returned (.agg #[.i out6_0, .int .u8 out6_1, .int .u8 out6_2, out6_3.v])) w4
theorem S2T_ok {t4 : Nat} {t4_0 t4_1 t4_2 : Int} {t4_3 : Sl} {out6 : Nat} {out6_0 out6_1 out6_2 : Int} {out6_3 : Sl} {w : World} {R : Post} (h : S2T t4 t4_0 t4_1 t4_2 t4_3 out6 out6_0 out6_1 out6_2 out6_3 w R) (H : LC w [(t4, [.i t4_0, .int .u8 t4_1, .int .u8 t4_2, t4_3.v], ty_enthymemeref04_Regex), (out6, [.i out6_0, .int .u8 out6_1, .int .u8 out6_2, out6_3.v], ty_enthymemeref04_Regex)]) : S2 (at0 t4) (at0 out6) w R := ⟨_, _, _, out6_3, H.ld 1 0, H.ld 1 1, H.ld 1 2, H.ld 1 3, LC.stT0 H 0 (Fr.refl _ _) rfl rfl fun w1 H f => LC.stT H 0 1 f rfl rfl fun w2 H f => LC.stT H 0 2 f rfl rfl fun w3 H f => LC.stT H 0 3 f rfl rfl fun w4 (H : LC w4 [(t4, [.i out6_0, .int .u8 out6_1, .int .u8 out6_2, out6_3.v], ty_enthymemeref04_Regex), (out6, [.i out6_0, .int .u8 out6_1, .int .u8 out6_2, out6_3.v], ty_enthymemeref04_Regex)]) (f : Fr (· ∈ [t4, out6]) _ w4) => ⟨_, _, _, out6_3, H.ld 0 0, H.ld 0 1, H.ld 0 2, H.ld 0 3, have h := h _ f; h⟩⟩
def L5T (m0 : Addr) (deep1 : Int) (t4 : Nat) (t4_0 t4_1 t4_2 : Int) (t4_3 : Sl) (out6 : Nat) (out6_0 out6_1 out6_2 : Int) (out6_3 : Sl) (many7 i8 : Int) (w : World) (R : Post) : Prop := LC w [(t4, [.i t4_0, .int .u8 t4_1, .int .u8 t4_2, t4_3.v], ty_enthymemeref04_Regex), (out6, [.i out6_0, .int .u8 out6_1, .int .u8 out6_2, out6_3.v], ty_enthymemeref04_Regex)] → L5 m0 deep1 (at0 t4) (at0 out6) many7 i8 w R
theorem L5T_step (m0 : Addr) (deep1 : Int) (t4 : Nat) (t4_0 t4_1 t4_2 : Int) (t4_3 : Sl) (out6 : Nat) (out6_0 out6_1 out6_2 : Int) (out6_3 : Sl) (many7 i8 : Int) (w : World) (R : Post) (h : sel (decide (i8 < many7)) (loc [t4, out6] w fun w1 => cf2 [t4, out6] n_enthymemeref04_maker_regex #[.pointer (some m0), .i (IntKind.wrap .i64 (deep1 - 1))] w1 fun t66_0 t66_1 t66_2 t66_3 w2 => nwV w2 (.cells #[.i t66_0, .int .u8 t66_1, .int .u8 t66_2, t66_3.v] ty_enthymemeref04_Regex) fun w3 => 
  ∃ (t68 : Sl) (w4 : World), Sem.run Tryz.prog (Builtin.append_ #[ty_sl_enthymemeref04_Regex, ty_sl_enthymemeref04_Regex] ty_sl_enthymemeref04_Regex #[out6_3.v, .slice (some (nb w2)) 1 1]) w3 = .ok (t68.v) w4 ∧ kept [t4, out6] w3 w4 ∧ loc [t4, out6] w4 fun w5 => L5T m0 deep1 t4 t4_0 t4_1 t4_2 t4_3 out6 out6_0 out6_1 out6_2 t68 many7 (IntKind.wrap .i64 (i8 + 1)) w5 R) (S2T t4 t4_0 t4_1 t4_2 t4_3 out6 out6_0 out6_1 out6_2 out6_3 w R)) : L5T m0 deep1 t4 t4_0 t4_1 t4_2 t4_3 out6 out6_0 out6_1 out6_2 out6_3 many7 i8 w R := fun H => L5_step _ _ _ _ _ _ w R (sel_imp h (fun h => LC.drT H (Fr.refl _ _) fun w1 H f => ⟨out6_3, H.ld 1 3, have h := h _ f; LC.callT H h fun r_ w2 H h => let ⟨t66_0, t66_1, t66_2, t66_3, hr, h⟩ := h; ⟨t66_0, t66_1, t66_2, t66_3, hr, ⟨H.ld 1 3, LC.nwN H h fun w3 H h => ⟨H.ld 1 3, let ⟨t68, w4, he, hk, h⟩ := h; have H := LC.keptT H hk; ⟨t68, w4, he, LC.stT H 1 3 (Fr.refl _ _) rfl rfl fun w5 (H : LC w5 [(t4, [.i t4_0, .int .u8 t4_1, .int .u8 t4_2, t4_3.v], ty_enthymemeref04_Regex), (out6, [.i out6_0, .int .u8 out6_1, .int .u8 out6_2, t68.v], ty_enthymemeref04_Regex)]) (f : Fr (· ∈ [t4, out6]) _ w5) => have h := h _ f; h H⟩⟩⟩⟩⟩) (fun h => S2T_ok h H))
abbrev S4T (m0 : Addr) (deep1 : Int) (t4 : Nat) (t4_0 t4_1 t4_2 : Int) (t4_3 : Sl) (out6 : Nat) (out6_0 out6_1 out6_2 : Int) (out6_3 : Sl) (many7 : Int) (w : World) (R : Post) : Prop :=
  L5T m0 deep1 t4 t4_0 t4_1 t4_2 t4_3 out6 out6_0 out6_1 out6_2 out6_3 many7 0 w R
theorem S4T_ok {m0 : Addr} {deep1 : Int} {t4 : Nat} {t4_0 t4_1 t4_2 : Int} {t4_3 : Sl} {out6 : Nat} {out6_0 out6_1 out6_2 : Int} {out6_3 : Sl} {many7 : Int} {w : World} {R : Post} (h : S4T m0 deep1 t4 t4_0 t4_1 t4_2 t4_3 out6 out6_0 out6_1 out6_2 out6_3 many7 w R) (H : LC w [(t4, [.i t4_0, .int .u8 t4_1, .int .u8 t4_2, t4_3.v], ty_enthymemeref04_Regex), (out6, [.i out6_0, .int .u8 out6_1, .int .u8 out6_2, out6_3.v], ty_enthymemeref04_Regex)]) : S4 m0 deep1 (at0 t4) (at0 out6) many7 w R := h H
abbrev S3T (m0 : Addr) (deep1 : Int) (t4 : Nat) (t4_0 t4_1 t4_2 : Int) (t4_3 : Sl) (out6 : Nat) (out6_0 out6_1 out6_2 : Int) (out6_3 : Sl) (w : World) (R : Post) : Prop :=
  cf0 [t4, out6] n_enthymemeref04_maker_next #[.pointer (some m0), .i 3] w fun t51 w1 => sel (deep1 == 4) (cf0 [t4, out6] n_enthymemeref04_maker_next #[.pointer (some m0), .i 4] w1 fun t55 w2 => S4T m0 deep1 t4 t4_0 t4_1 t4_2 t4_3 out6 out6_0 out6_1 out6_2 out6_3 t55 w2 R) (S4T m0 deep1 t4 t4_0 t4_1 t4_2 t4_3 out6 out6_0 out6_1 out6_2 out6_3 t51 w1 R)
theorem S3T_ok {m0 : Addr} {deep1 : Int} {t4 : Nat} {t4_0 t4_1 t4_2 : Int} {t4_3 : Sl} {out6 : Nat} {out6_0 out6_1 out6_2 : Int} {out6_3 : Sl} {w : World} {R : Post} (h : S3T m0 deep1 t4 t4_0 t4_1 t4_2 t4_3 out6 out6_0 out6_1 out6_2 out6_3 w R) (H : LC w [(t4, [.i t4_0, .int .u8 t4_1, .int .u8 t4_2, t4_3.v], ty_enthymemeref04_Regex), (out6, [.i out6_0, .int .u8 out6_1, .int .u8 out6_2, out6_3.v], ty_enthymemeref04_Regex)]) : S3 m0 deep1 (at0 t4) (at0 out6) w R := LC.callT H h fun r_ w1 H h => let ⟨t51, hr, h⟩ := h; ⟨t51, hr, sel_imp h (fun h => LC.callT H h fun r_ w2 H h => let ⟨t55, hr, h⟩ := h; ⟨t55, hr, S4T_ok h H⟩) (fun h => S4T_ok h H)⟩
abbrev S7T (m0 : Addr) (deep1 : Int) (t4 : Nat) (t4_0 t4_1 t4_2 : Int) (t4_3 : Sl) (out6 : Nat) (out6_0 out6_1 out6_2 : Int) (out6_3 : Sl) (w : World) (R : Post) : Prop :=
  loc [t4, out6] w fun w1 => cf2 [t4, out6] n_enthymemeref04_maker_regex #[.pointer (some m0), .i (IntKind.wrap .i64 (deep1 - 1))] w1 fun t78_0 t78_1 t78_2 t78_3 w2 => nwV w2 (.cells #[.i t78_0, .int .u8 t78_1, .int .u8 t78_2, t78_3.v] ty_enthymemeref04_Regex) fun w3 => 
  ∃ (t80 : Sl) (w4 : World), Sem.run Tryz.prog (Builtin.append_ #[ty_sl_enthymemeref04_Regex, ty_sl_enthymemeref04_Regex] ty_sl_enthymemeref04_Regex #[out6_3.v, .slice (some (nb w2)) 1 1]) w3 = .ok (t80.v) w4 ∧ kept [t4, out6] w3 w4 ∧ loc [t4, out6] w4 fun w5 => S2T t4 t4_0 t4_1 t4_2 t4_3 out6 out6_0 out6_1 out6_2 t80 w5 R
theorem S7T_ok {m0 : Addr} {deep1 : Int} {t4 : Nat} {t4_0 t4_1 t4_2 : Int} {t4_3 : Sl} {out6 : Nat} {out6_0 out6_1 out6_2 : Int} {out6_3 : Sl} {w : World} {R : Post} (h : S7T m0 deep1 t4 t4_0 t4_1 t4_2 t4_3 out6 out6_0 out6_1 out6_2 out6_3 w R) (H : LC w [(t4, [.i t4_0, .int .u8 t4_1, .int .u8 t4_2, t4_3.v], ty_enthymemeref04_Regex), (out6, [.i out6_0, .int .u8 out6_1, .int .u8 out6_2, out6_3.v], ty_enthymemeref04_Regex)]) : S7 m0 deep1 (at0 t4) (at0 out6) w R := LC.drT H (Fr.refl _ _) fun w1 H f => ⟨out6_3, H.ld 1 3, have h := h _ f; LC.callT H h fun r_ w2 H h => let ⟨t78_0, t78_1, t78_2, t78_3, hr, h⟩ := h; ⟨t78_0, t78_1, t78_2, t78_3, hr, ⟨H.ld 1 3, LC.nwN H h fun w3 H h => ⟨H.ld 1 3, let ⟨t80, w4, he, hk, h⟩ := h; have H := LC.keptT H hk; ⟨t80, w4, he, LC.stT H 1 3 (Fr.refl _ _) rfl rfl fun w5 (H : LC w5 [(t4, [.i t4_0, .int .u8 t4_1, .int .u8 t4_2, t4_3.v], ty_enthymemeref04_Regex), (out6, [.i out6_0, .int .u8 out6_1, .int .u8 out6_2, t80.v], ty_enthymemeref04_Regex)]) (f : Fr (· ∈ [t4, out6]) _ w5) => have h := h _ f; S2T_ok h H⟩⟩⟩⟩⟩
abbrev S6T (m0 : Addr) (deep1 : Int) (t4 : Nat) (t4_0 t4_1 t4_2 : Int) (t4_3 : Sl) (out6 : Nat) (out6_0 out6_1 out6_2 : Int) (out6_3 : Sl) (t24 : Int) (w : World) (R : Post) : Prop :=
  sel (t24 == 6) (sel (t24 == 6) (S7T m0 deep1 t4 t4_0 t4_1 t4_2 t4_3 out6 out6_0 out6_1 out6_2 out6_3 w R) (S2T t4 t4_0 t4_1 t4_2 t4_3 out6 out6_0 out6_1 out6_2 out6_3 w R)) (sel (t24 == 7) (S7T m0 deep1 t4 t4_0 t4_1 t4_2 t4_3 out6 out6_0 out6_1 out6_2 out6_3 w R) (S2T t4 t4_0 t4_1 t4_2 t4_3 out6 out6_0 out6_1 out6_2 out6_3 w R))
theorem S6T_ok {m0 : Addr} {deep1 : Int} {t4 : Nat} {t4_0 t4_1 t4_2 : Int} {t4_3 : Sl} {out6 : Nat} {out6_0 out6_1 out6_2 : Int} {out6_3 : Sl} {t24 : Int} {w : World} {R : Post} (h : S6T m0 deep1 t4 t4_0 t4_1 t4_2 t4_3 out6 out6_0 out6_1 out6_2 out6_3 t24 w R) (H : LC w [(t4, [.i t4_0, .int .u8 t4_1, .int .u8 t4_2, t4_3.v], ty_enthymemeref04_Regex), (out6, [.i out6_0, .int .u8 out6_1, .int .u8 out6_2, out6_3.v], ty_enthymemeref04_Regex)]) : S6 m0 deep1 (at0 t4) (at0 out6) t24 w R := sel_imp h (fun h => sel_imp h (fun h => S7T_ok h H) (fun h => S2T_ok h H)) (fun h => sel_imp h (fun h => S7T_ok h H) (fun h => S2T_ok h H))
abbrev S1T (m0 : Addr) (deep1 : Int) (t4 : Nat) (t4_0 t4_1 t4_2 : Int) (t4_3 : Sl) (kind5 : Int) (w : World) (R : Post) : Prop :=
  newV [t4] w fun b6 w1 => 
  sel (kind5 == 2) (loc [t4, b6] w1 fun w5 => nwV w5 (.cells #[.int .u8 97, .int .u8 98, .int .u8 97, .int .u8 98, .int .u8 99, .int .u8 0, .int .u8 39, .int .u8 92, .int .u8 255, .int .u8 32] ty_uint8) fun w6 => 
  cf0 [t4, b6] n_enthymemeref04_maker_next #[.pointer (some m0), .i 10] w6 fun t29 w7 => (0 : Int) ≤ t29 ∧ t29 < ((10 : Nat) : Int) ∧ optP (some (nb w5)) fun t30_p => ∃ t31 : Int, w7.cell? (t30_p.add (Int.toNat t29 * 1)) = some (.int .u8 t31) ∧ 
  loc [t4, b6] w7 fun w9 => cf0 [t4, b6] n_enthymemeref04_maker_next #[.pointer (some m0), .i 4] w9 fun t37 w10 => sel (t37 == 0) (loc [t4, b6] w10 fun w11 => cf0 [t4, b6] n_enthymemeref04_maker_next #[.pointer (some m0), .i 256] w11 fun t42 w12 => loc [t4, b6] w12 fun w13 => S2T t4 t4_0 t4_1 t4_2 t4_3 b6 kind5 t31 (if t31 < IntKind.wrap .u8 t42 then IntKind.wrap .u8 t42 else t31) ⟨none, 0, 0⟩ w13 R) (S2T t4 t4_0 t4_1 t4_2 t4_3 b6 kind5 t31 t31 ⟨none, 0, 0⟩ w10 R)) (sel (kind5 == 3) (sel (kind5 == 3) (loc [t4, b6] w1 fun w5 => S3T m0 deep1 t4 t4_0 t4_1 t4_2 t4_3 b6 kind5 0 0 ⟨none, 0, 0⟩ w5 R) (loc [t4, b6] w1 fun w5 => S6T m0 deep1 t4 t4_0 t4_1 t4_2 t4_3 b6 kind5 0 0 ⟨none, 0, 0⟩ kind5 w5 R)) (sel (kind5 == 4) (sel (kind5 == 4) (loc [t4, b6] w1 fun w5 => S3T m0 deep1 t4 t4_0 t4_1 t4_2 t4_3 b6 kind5 0 0 ⟨none, 0, 0⟩ w5 R) (loc [t4, b6] w1 fun w5 => S6T m0 deep1 t4 t4_0 t4_1 t4_2 t4_3 b6 kind5 0 0 ⟨none, 0, 0⟩ kind5 w5 R)) (sel (kind5 == 5) (loc [t4, b6] w1 fun w5 => S3T m0 deep1 t4 t4_0 t4_1 t4_2 t4_3 b6 kind5 0 0 ⟨none, 0, 0⟩ w5 R) (loc [t4, b6] w1 fun w5 => S6T m0 deep1 t4 t4_0 t4_1 t4_2 t4_3 b6 kind5 0 0 ⟨none, 0, 0⟩ kind5 w5 R))))
theorem S1T_ok {m0 : Addr} {deep1 : Int} {t4 : Nat} {t4_0 t4_1 t4_2 : Int} {t4_3 : Sl} {kind5 : Int} {w : World} {R : Post} (h : S1T m0 deep1 t4 t4_0 t4_1 t4_2 t4_3 kind5 w R) (H : LC w [(t4, [.i t4_0, .int .u8 t4_1, .int .u8 t4_2, t4_3.v], ty_enthymemeref04_Regex)]) : S1 m0 deep1 (at0 t4) kind5 w R := LC.nwT H (Fr.refl _ _) h fun w1 H h => LC.stT0 H 1 (Fr.refl _ _) rfl rfl fun w2 H f => LC.stT H 1 1 f rfl rfl fun w3 H f => LC.stT H 1 2 f rfl rfl fun w4 H f => LC.stT H 1 3 f rfl rfl fun w5 (H : LC w5 [(t4, [.i t4_0, .int .u8 t4_1, .int .u8 t4_2, t4_3.v], ty_enthymemeref04_Regex), (w.heap.size, [.i kind5, .int .u8 0, .int .u8 0, .slice none 0 0], ty_enthymemeref04_Regex)]) (f : Fr (· ∈ [t4, w.heap.size]) _ w5) => sel_imp h (fun h => have h := h _ f; LC.nwN H h fun w6 H h => LC.callT H h fun r_ w7 H h => let ⟨t29, hr, h⟩ := h; ⟨t29, hr, ⟨h.1, h.2.1, have h := h.2.2; optP_imp h fun t30_p h => let ⟨t31, hc0, h⟩ := h; ⟨t31, hc0, LC.stT H 1 1 (Fr.refl _ _) rfl rfl fun w8 (H : LC w8 [(t4, [.i t4_0, .int .u8 t4_1, .int .u8 t4_2, t4_3.v], ty_enthymemeref04_Regex), (w.heap.size, [.i kind5, .int .u8 t31, .int .u8 0, .slice none 0 0], ty_enthymemeref04_Regex)]) (f : Fr (· ∈ [t4, w.heap.size]) _ w8) => ⟨_, H.ld 1 1, LC.stT H 1 2 f rfl rfl fun w9 (H : LC w9 [(t4, [.i t4_0, .int .u8 t4_1, .int .u8 t4_2, t4_3.v], ty_enthymemeref04_Regex), (w.heap.size, [.i kind5, .int .u8 t31, .int .u8 t31, .slice none 0 0], ty_enthymemeref04_Regex)]) (f : Fr (· ∈ [t4, w.heap.size]) _ w9) => have h := h _ f; LC.callT H h fun r_ w10 H h => let ⟨t37, hr, h⟩ := h; ⟨t37, hr, sel_imp h (fun h => LC.drT H (Fr.refl _ _) fun w11 H f => ⟨_, H.ld 1 1, have h := h _ f; LC.callT H h fun r_ w12 H h => let ⟨t42, hr, h⟩ := h; ⟨t42, hr, ⟨H.ld 1 1, LC.stT H 1 2 (Fr.refl _ _) rfl rfl fun w13 (H : LC w13 [(t4, [.i t4_0, .int .u8 t4_1, .int .u8 t4_2, t4_3.v], ty_enthymemeref04_Regex), (w.heap.size, [.i kind5, .int .u8 t31, .int .u8 (if t31 < IntKind.wrap .u8 t42 then IntKind.wrap .u8 t42 else t31), .slice none 0 0], ty_enthymemeref04_Regex)]) (f : Fr (· ∈ [t4, w.heap.size]) _ w13) => have h := h _ f; S2T_ok h H⟩⟩⟩) (fun h => S2T_ok h H)⟩⟩⟩⟩⟩) (fun h => sel_imp h (fun h => sel_imp h (fun h => have h := h _ f; S3T_ok h H) (fun h => have h := h _ f; S6T_ok h H)) (fun h => sel_imp h (fun h => sel_imp h (fun h => have h := h _ f; S3T_ok h H) (fun h => have h := h _ f; S6T_ok h H)) (fun h => sel_imp h (fun h => have h := h _ f; S3T_ok h H) (fun h => have h := h _ f; S6T_ok h H))))
abbrev S0T (m0 : Addr) (deep1 : Int) (t4 : Nat) (t4_0 t4_1 t4_2 : Int) (t4_3 : Sl) (w : World) (R : Post) : Prop :=
  nwV w (.cells #[.i 2, .i 2, .i 2, .i 2, .i 1, .i 0] ty_int) fun w1 => 
  cf0 [t4] n_enthymemeref04_maker_next #[.pointer (some m0), .i 6] w1 fun t19 w2 => (0 : Int) ≤ t19 ∧ t19 < ((6 : Nat) : Int) ∧ optP (some (nb w)) fun t20_p => ∃ t21 : Int, w2.cell? (t20_p.add (Int.toNat t19 * 1)) = some (.i t21) ∧ 
  S1T m0 deep1 t4 t4_0 t4_1 t4_2 t4_3 t21 w2 R
theorem S0T_ok {m0 : Addr} {deep1 : Int} {t4 : Nat} {t4_0 t4_1 t4_2 : Int} {t4_3 : Sl} {w : World} {R : Post} (h : S0T m0 deep1 t4 t4_0 t4_1 t4_2 t4_3 w R) (H : LC w [(t4, [.i t4_0, .int .u8 t4_1, .int .u8 t4_2, t4_3.v], ty_enthymemeref04_Regex)]) : S0 m0 deep1 (at0 t4) w R := LC.nwN H h fun w1 H h => LC.callT H h fun r_ w2 H h => let ⟨t19, hr, h⟩ := h; ⟨t19, hr, ⟨h.1, h.2.1, have h := h.2.2; optP_imp h fun t20_p h => let ⟨t21, hc0, h⟩ := h; ⟨t21, hc0, S1T_ok h H⟩⟩⟩
theorem okT (m0 : Addr) (deep1 : Int) (w : World) (R : Post) (h : newV [] w fun b4 w1 => 
  cf0 [b4] n_enthymemeref04_maker_next #[.pointer (some m0), .i 14] w1 fun t10 w2 => sel (decide (deep1 < 2)) (S0T m0 deep1 b4 0 0 0 ⟨none, 0, 0⟩ w2 R) (sel (decide (t10 > 7)) (S0T m0 deep1 b4 0 0 0 ⟨none, 0, 0⟩ w2 R) (S1T m0 deep1 b4 0 0 0 ⟨none, 0, 0⟩ t10 w2 R))) : Calls Tryz.prog n_enthymemeref04_maker_regex #[.pointer (some m0), .i deep1] w R :=
  ok _ _ w R (LC.nwT (LC.nil _) (Fr.refl _ _) h fun w1 H h => LC.callT H h fun r_ w2 H h => let ⟨t10, hr, h⟩ := h; ⟨t10, hr, sel_imp h (fun h => S0T_ok h H) (fun h => sel_imp h (fun h => S0T_ok h H) (fun h => S1T_ok h H))⟩)
end enthymemeref04_maker_regex
namespace enthymemeref04_Made
noncomputable def C0 : Code := (Tryz.f5.body).getD .skip
/-- enthymeme/enthymemeref04.Made -/
noncomputable def C1:=C0.sn
noncomputable def C2:=C1.sn
noncomputable def C3:=C2.sn
theorem ok (l0 : Sl) (w : World) (R : Post) (h : nwV w (.cells #[.i 0, .int .u8 0, .int .u8 0, .slice none 0 0] ty_enthymemeref04_Regex) fun w1 => 
  nwV w1 (.cells #[l0.v, .i 0] ty_enthymemeref04_maker) fun w2 => 
  ca2 n_enthymemeref04_maker_regex #[.pointer (some (nb w1)), .i 4] w2 fun t8_0 t8_1 t8_2 t8_3 w3 => stW4 w3 (nb w) (.i t8_0) (.int .u8 t8_1) (.int .u8 t8_2) (t8_3.v) fun w7 => ld4_0 w7 (nb w) fun r2_0 r2_1 r2_2 r2_3 => R (.returned (.agg #[.i r2_0, .int .u8 r2_1, .int .u8 r2_2, r2_3.v])) w7) : Calls Tryz.prog n_enthymemeref04_Made #[l0.v] w R :=
  calls_of_WP' (R := R) (fn := Tryz.f5) (c := C0) (args := [l0.v]) (by kernel_rfl) (by kernel_rfl) (by kernel_rfl) (sr C0 (show (fun (E : Env) (w : World) => srK Tryz.prog C0 (fun E w => srK Tryz.prog C1 (fun E w => srK Tryz.prog C2 (fun E w => retVC Tryz.prog Tryz.f5 E w (fun v => R (.returned v) w)) E w) E w) E w) (envOf 0 [l0.v]) w from mp h) fun _ _ hK => (sr C1 hK fun _ _ hK => (sr C2 hK fun _ _ hK => (rt C3 fun a hA => retVC_sound hA hK))))
theorem okT (l0 : Sl) (w : World) (R : Post) (h : newV [] w fun b2 w1 => 
  nwV w1 (.cells #[l0.v, .i 0] ty_enthymemeref04_maker) fun w2 => 
  cf2 [b2] n_enthymemeref04_maker_regex #[.pointer (some (nb w1)), .i 4] w2 fun t8_0 t8_1 t8_2 t8_3 w3 => loc [b2] w3 fun w7 => R (.returned (.agg #[.i t8_0, .int .u8 t8_1, .int .u8 t8_2, t8_3.v])) w7) : Calls Tryz.prog n_enthymemeref04_Made #[l0.v] w R :=
  ok _ w R (LC.nwT (LC.nil _) (Fr.refl _ _) h fun w1 H h => LC.nwN H h fun w2 H h => LC.callT H h fun r_ w3 H h => let ⟨t8_0, t8_1, t8_2, t8_3, hr, h⟩ := h; ⟨t8_0, t8_1, t8_2, t8_3, hr, LC.stT0 H 0 (Fr.refl _ _) rfl rfl fun w4 H f => LC.stT H 0 1 f rfl rfl fun w5 H f => LC.stT H 0 2 f rfl rfl fun w6 H f => LC.stT H 0 3 f rfl rfl fun w7 (H : LC w7 [(w.heap.size, [.i t8_0, .int .u8 t8_1, .int .u8 t8_2, t8_3.v], ty_enthymemeref04_Regex)]) (f : Fr (· ∈ [w.heap.size]) _ w7) => ⟨_, _, _, t8_3, H.ld 0 0, H.ld 0 1, H.ld 0 2, H.ld 0 3, have h := h _ f; h⟩⟩)
end enthymemeref04_Made
namespace enthymemeref04_Spoilt
noncomputable def C0 : Code := (Tryz.f6.body).getD .skip
noncomputable def C1:=C0.sn
noncomputable def C2:=C1.sn
abbrev Q0 (R : Post) : ExP := (bodyPost Tryz.prog Tryz.f6 R)
noncomputable def C3:=C2.sn
/-- ref.go:648 -/
abbrev S0 (r3 t6 : Addr) (w : World) (R : Post) : Prop :=
  ld4_0 w r3 fun t69_0 t69_1 t69_2 t69_3 => stW4 w t6 (.i t69_0) (.int .u8 t69_1) (.int .u8 t69_2) (t69_3.v) fun w4 => ld4_0 w4 t6 fun r6_0 r6_1 r6_2 r6_3 => R (.returned (.agg #[.i r6_0, .int .u8 r6_1, .int .u8 r6_2, r6_3.v])) w4
def KE_S0 (E : Env) (w : World) (R : Post) : Prop := W.asRef (Env.get? E 3) fun r3 => W.asRef (Env.get? E 6) fun t6 => S0 r3 t6 w R
theorem KE_S0_ok : KOk Tryz.prog 70 KE_S0 C2 Q0 := by
  intro R E w h
  obtain ⟨r3, hq3, h_1⟩ := W.asRef_elim h
  obtain ⟨t6, hq6, h_2⟩ := W.asRef_elim h_1
  exact fun a ha => WP.at (E := [(3, .pointer (some r3)), (6, .pointer (some t6))]) (sr C2 (K := fun E w => retVC Tryz.prog Tryz.f6 E w (fun v => R (.returned v) w)) (mp h_2) fun _ _ hK => (rt C3 fun a hA => retVC_sound hA hK)) (ha.cons hq3 (ha.cons hq6 ha.nil))
noncomputable def C4:=C1.fs
noncomputable def C5:=C4.sn
noncomputable def C6:=C5.fs
noncomputable def C7:=C6.sn
noncomputable def C8:=C7.sn
noncomputable def C9:=C8.sn
noncomputable def C10:=C9.sn
noncomputable def C11:=C10.sn
noncomputable def C12:=C11.sn
noncomputable def C13:=C12.sn
noncomputable def C14:=C13.sn
noncomputable def C15:=C14.sn
noncomputable def C16:=C15.sn
noncomputable def C17:=C16.sn
noncomputable def C18:=C17.fs
noncomputable def C19:=C18.sn
noncomputable def C20:=C19.fs
noncomputable def C21:=C20.fs
abbrev Q1 (R : Post) : ExP := (Exit.then (wpx Tryz.prog (cx 70) C2 (bodyPost Tryz.prog Tryz.f6 R)) (bodyPost Tryz.prog Tryz.f6 R))
abbrev Q2 (R : Post) : ExP := (Exit.inBlock 0 (Q1 R))
abbrev Q3 (R : Post) : ExP := (Exit.inBlock 3 (Q2 R))
/-- the head of the loop, ref.go:638 -/
def L1 (by2 : Int) (r3 t6 : Addr) (i7 : Int) (w : World) (R : Post) : Prop := LP Tryz.prog (cx 70) C21 (Q3 R) [(2, .i by2), (3, .pointer (some r3)), (6, .pointer (some t6)), (7, .i i7)] w
def KE_L1 (E : Env) (w : World) (R : Post) : Prop := W.asInt .i64 (Env.get? E 2) fun by2 => W.asRef (Env.get? E 3) fun r3 => W.asRef (Env.get? E 6) fun t6 => W.asInt .i64 (Env.get? E 7) fun i7 => L1 by2 r3 t6 i7 w R
theorem KE_L1_ok : LOk Tryz.prog 70 KE_L1 C21 Q3 := by
  intro R E w h
  obtain ⟨by2, hq2, h_1⟩ := W.asInt_elim h
  obtain ⟨r3, hq3, h_2⟩ := W.asRef_elim h_1
  obtain ⟨t6, hq6, h_3⟩ := W.asRef_elim h_2
  obtain ⟨i7, hq7, h_4⟩ := W.asInt_elim h_3
  intro a ha
  exact h_4 a (ha.cons hq2 (ha.cons hq3 (ha.cons hq6 (ha.cons hq7 ha.nil))))
noncomputable def C22:=C21.fs
noncomputable def C23:=C21.sn
noncomputable def C24:=C23.fs
noncomputable def C25:=C24.fs
noncomputable def C26:=C23.sn
noncomputable def C27:=C22.sn
noncomputable def C28:=C27.fs
noncomputable def C29:=C27.sn
theorem L1_step (by2 : Int) (r3 t6 : Addr) (i7 : Int) (w : World) (R : Post) (h : ca0 n_enthymemeref01_Around #[.i by2, .i 40] w fun t61 w13 => sel (decide (i7 < (IntKind.wrap .i64 (40 + t61)))) (ld4_0 w13 r3 fun t66_0 t66_1 t66_2 t66_3 => nwV w13 (.cells #[.i t66_0, .int .u8 t66_1, .int .u8 t66_2, t66_3.v] ty_enthymemeref04_Regex) fun w14 => 
  stW4 w14 r3 (.i 6) (.int .u8 0) (.int .u8 0) (.slice (some (nb w13)) 1 1) fun w18 => L1 by2 r3 t6 (IntKind.wrap .i64 (i7 + 1)) w18 R) (S0 r3 t6 w13 R)) : L1 by2 r3 t6 i7 w R :=
  LP.step (n := (cx 70)) (c := C21) (E := [(2, .i by2), (3, .pointer (some r3)), (6, .pointer (some t6)), (7, .i i7)]) (w := w) (sq C21 (sr C22 (show (fun (E : Env) (w : World) => srK Tryz.prog C22 (fun E w => condK (Env.val E (.tmp 63)) (rgK Tryz.prog C25 (fun E w => rgK Tryz.prog C26 (fun E w => KE_L1 E w R) E w) E w) (KE_S0 E w R)) E w) [(2, .i by2), (3, .pointer (some r3)), (6, .pointer (some t6)), (7, .i i7)] w from mp h) fun _ _ hK => (cn C27 hK (fun hK => (sk C28 fun a hA => nx hA (sq C23 (bk C24 4 (by kernel_rfl) (rg C25 (by kernel_rfl) hK fun _ _ a hA hK => nx hA (rg C26 (by kernel_rfl) hK fun _ _ a hA hK => KE_L1_ok R _ _ hK a hA)))))) (fun hK => (xt C29 3 (by kernel_rfl) fun a hA => nx hA (KE_S0_ok R _ _ hK))))))
noncomputable def C30:=C17.sn
noncomputable def C31:=C30.sn
noncomputable def C32:=C31.fs
noncomputable def C33:=C32.sn
noncomputable def C34:=C33.fs
noncomputable def C35:=C34.fs
noncomputable def C36:=C31.sn
abbrev Q4 (R : Post) : ExP := (Exit.then (wpx Tryz.prog (cx 70) C36 (Exit.inBlock 0 (Q1 R))) (Exit.inBlock 0 (Q1 R)))
abbrev Q5 (R : Post) : ExP := (Exit.inBlock 1 (Q4 R))
/-- the head of the loop, ref.go:643 -/
def L2 (by2 : Int) (r3 t6 : Addr) (kids8 : Sl) (i9 : Int) (w : World) (R : Post) : Prop := LP Tryz.prog (cx 70) C35 (Q5 R) [(2, .i by2), (3, .pointer (some r3)), (6, .pointer (some t6)), (8, kids8.v), (9, .i i9)] w
def KE_L2 (E : Env) (w : World) (R : Post) : Prop := W.asInt .i64 (Env.get? E 2) fun by2 => W.asRef (Env.get? E 3) fun r3 => W.asRef (Env.get? E 6) fun t6 => W.asSlice (Env.get? E 8) fun kids8 => W.asInt .i64 (Env.get? E 9) fun i9 => L2 by2 r3 t6 kids8 i9 w R
theorem KE_L2_ok : LOk Tryz.prog 70 KE_L2 C35 Q5 := by
  intro R E w h
  obtain ⟨by2, hq2, h_1⟩ := W.asInt_elim h
  obtain ⟨r3, hq3, h_2⟩ := W.asRef_elim h_1
  obtain ⟨t6, hq6, h_3⟩ := W.asRef_elim h_2
  obtain ⟨kids8, hq8, h_4⟩ := W.asSlice_elim h_3
  obtain ⟨i9, hq9, h_5⟩ := W.asInt_elim h_4
  intro a ha
  exact h_5 a (ha.cons hq2 (ha.cons hq3 (ha.cons hq6 (ha.cons hq8 (ha.cons hq9 ha.nil)))))
noncomputable def C37:=C35.fs
noncomputable def C38:=C35.sn
noncomputable def C39:=C38.fs
noncomputable def C40:=C39.fs
noncomputable def C41:=C38.sn
noncomputable def C42:=C37.sn
noncomputable def C43:=C42.fs
noncomputable def C44:=C42.sn
theorem L2_step (by2 : Int) (r3 t6 : Addr) (kids8 : Sl) (i9 : Int) (w : World) (R : Post) (h : ca0 n_enthymemeref01_Around #[.i by2, .i 50] w fun t14 w19 => sel (decide (i9 < (IntKind.wrap .i64 (20 + t14)))) (nwV w19 (.cells #[.i 5, .int .u8 0, .int .u8 0, .slice none 0 0] ty_enthymemeref04_Regex) fun w20 => 
  ∃ (t22 : Sl) (w21 : World), Sem.run Tryz.prog (Builtin.append_ #[ty_sl_enthymemeref04_Regex, ty_sl_enthymemeref04_Regex] ty_sl_enthymemeref04_Regex #[kids8.v, .slice (some (nb w19)) 1 1]) w20 = .ok (t22.v) w21 ∧ L2 by2 r3 t6 t22 (IntKind.wrap .i64 (i9 + 1)) w21 R) (ld4_0 w19 r3 fun t24_0 t24_1 t24_2 t24_3 => nwV w19 (.cells #[.i t24_0, .int .u8 t24_1, .int .u8 t24_2, t24_3.v] ty_enthymemeref04_Regex) fun w22 => 
  ∃ (t26 : Sl) (w23 : World), Sem.run Tryz.prog (Builtin.append_ #[ty_sl_enthymemeref04_Regex, ty_sl_enthymemeref04_Regex] ty_sl_enthymemeref04_Regex #[kids8.v, .slice (some (nb w19)) 1 1]) w22 = .ok (t26.v) w23 ∧ stW4 w23 r3 (.i 3) (.int .u8 0) (.int .u8 0) (t26.v) fun w27 => S0 r3 t6 w27 R)) : L2 by2 r3 t6 kids8 i9 w R :=
  LP.step (n := (cx 70)) (c := C35) (E := [(2, .i by2), (3, .pointer (some r3)), (6, .pointer (some t6)), (8, kids8.v), (9, .i i9)]) (w := w) (sq C35 (sr C37 (show (fun (E : Env) (w : World) => srK Tryz.prog C37 (fun E w => condK (Env.val E (.tmp 16)) (rgK Tryz.prog C40 (fun E w => rgK Tryz.prog C41 (fun E w => KE_L2 E w R) E w) E w) (rgK Tryz.prog C36 (fun E w => KE_S0 E w R) E w)) E w) [(2, .i by2), (3, .pointer (some r3)), (6, .pointer (some t6)), (8, kids8.v), (9, .i i9)] w from mp h) fun _ _ hK => (cn C42 hK (fun hK => (sk C43 fun a hA => nx hA (sq C38 (bk C39 2 (by kernel_rfl) (rg C40 (by kernel_rfl) hK fun _ _ a hA hK => nx hA (rg C41 (by kernel_rfl) hK fun _ _ a hA hK => KE_L2_ok R _ _ hK a hA)))))) (fun hK => (xt C44 1 (by kernel_rfl) fun a hA => nx hA (rg C36 (by kernel_rfl) hK fun _ _ a hA hK => nx hA (KE_S0_ok R _ _ hK)))))))
/-- enthymeme/enthymemeref04.Spoilt -/
noncomputable def C45:=C7.fs
noncomputable def C46:=C9.fs
noncomputable def C47:=C11.fs
noncomputable def C48:=C13.fs
noncomputable def C49:=C15.fs
theorem ok (r0_0 r0_1 r0_2 : Int) (r0_3 : Sl) (how1 by2 : Int) (w : World) (R : Post) (h : nwV w (.cells #[.i r0_0, .int .u8 r0_1, .int .u8 r0_2, r0_3.v] ty_enthymemeref04_Regex) fun w1 => 
  nwV w1 (.cells #[.i 0, .int .u8 0, .int .u8 0, .slice none 0 0] ty_enthymemeref04_Regex) fun w2 => 
  ca0 n_enthymemeref01_Around #[.i how1, .i 7] w2 fun t11 w3 => sel (t11 == 0) (stV w3 ((nb w).add 0) (.i by2) fun w4 => 
  S0 (nb w) (nb w1) w4 R) (sel (t11 == 1) (stV w3 ((nb w).add 1) (.int .u8 (IntKind.wrap .u8 by2)) fun w5 => 
  S0 (nb w) (nb w1) w5 R) (sel (t11 == 2) (stV w3 ((nb w).add 2) (.int .u8 (IntKind.wrap .u8 by2)) fun w6 => 
  S0 (nb w) (nb w1) w6 R) (sel (t11 == 3) (nwV w3 (.cells #[] ty_enthymemeref04_Regex) fun w7 => 
  ∃ t46 : Sl, w7.cell? ((nb w).add 3) = some (t46.v) ∧ 
  ∃ (t47 : Sl) (w8 : World), Sem.run Tryz.prog (Builtin.append_ #[ty_sl_enthymemeref04_Regex, ty_sl_enthymemeref04_Regex] ty_sl_enthymemeref04_Regex #[.slice (some (nb w3)) 0 0, t46.v]) w7 = .ok (t47.v) w8 ∧ nwV w8 (.cells #[.i 2, .int .u8 3, .int .u8 (IntKind.wrap .u8 by2), .slice none 0 0] ty_enthymemeref04_Regex) fun w9 => 
  ∃ (t52 : Sl) (w10 : World), Sem.run Tryz.prog (Builtin.append_ #[ty_sl_enthymemeref04_Regex, ty_sl_enthymemeref04_Regex] ty_sl_enthymemeref04_Regex #[t47.v, .slice (some (nb w8)) 1 1]) w9 = .ok (t52.v) w10 ∧ stV w10 ((nb w).add 3) (t52.v) fun w11 => 
  S0 (nb w) (nb w1) w11 R) (sel (t11 == 4) (stV w3 ((nb w).add 3) (.slice none 0 0) fun w12 => 
  S0 (nb w) (nb w1) w12 R) (sel (t11 == 5) (L1 by2 (nb w) (nb w1) 0 w3 R) (L2 by2 (nb w) (nb w1) ⟨none, 0, 0⟩ 0 w3 R))))))) : Calls Tryz.prog n_enthymemeref04_Spoilt #[.agg #[.i r0_0, .int .u8 r0_1, .int .u8 r0_2, r0_3.v], .i how1, .i by2] w R :=
  calls_of_WP' (R := R) (fn := Tryz.f6) (c := C0) (args := [.agg #[.i r0_0, .int .u8 r0_1, .int .u8 r0_2, r0_3.v], .i how1, .i by2]) (by kernel_rfl) (by kernel_rfl) (by kernel_rfl) (sr C0 (show (fun (E : Env) (w : World) => srK Tryz.prog C0 (fun E w => srK Tryz.prog C4 (fun E w => srK Tryz.prog C6 (fun E w => condK (Env.val E (.tmp 28)) (rgK Tryz.prog C45 (fun E w => KE_S0 E w R) E w) (srK Tryz.prog C8 (fun E w => condK (Env.val E (.tmp 32)) (rgK Tryz.prog C46 (fun E w => KE_S0 E w R) E w) (srK Tryz.prog C10 (fun E w => condK (Env.val E (.tmp 37)) (rgK Tryz.prog C47 (fun E w => KE_S0 E w R) E w) (srK Tryz.prog C12 (fun E w => condK (Env.val E (.tmp 42)) (rgK Tryz.prog C48 (fun E w => KE_S0 E w R) E w) (srK Tryz.prog C14 (fun E w => condK (Env.val E (.tmp 54)) (rgK Tryz.prog C49 (fun E w => KE_S0 E w R) E w) (srK Tryz.prog C16 (fun E w => condK (Env.val E (.tmp 57)) (srK Tryz.prog C18 (fun E w => KE_L1 E w R) E w) (srK Tryz.prog C30 (fun E w => srK Tryz.prog C32 (fun E w => KE_L2 E w R) E w) E w)) E w)) E w)) E w)) E w)) E w)) E w) E w) E w) (envOf 0 [.agg #[.i r0_0, .int .u8 r0_1, .int .u8 r0_2, r0_3.v], .i how1, .i by2]) w from mp h) fun _ _ hK => (sq C1 (sr C4 hK fun _ _ hK => (bk C5 0 (by kernel_rfl) (sr C6 hK fun _ _ hK => (cn C7 hK (fun hK => (rg C45 (by kernel_rfl) hK fun _ _ a hA hK => nx hA (KE_S0_ok R _ _ hK))) (fun hK => (sr C8 hK fun _ _ hK => (cn C9 hK (fun hK => (rg C46 (by kernel_rfl) hK fun _ _ a hA hK => nx hA (KE_S0_ok R _ _ hK))) (fun hK => (sr C10 hK fun _ _ hK => (cn C11 hK (fun hK => (rg C47 (by kernel_rfl) hK fun _ _ a hA hK => nx hA (KE_S0_ok R _ _ hK))) (fun hK => (sr C12 hK fun _ _ hK => (cn C13 hK (fun hK => (rg C48 (by kernel_rfl) hK fun _ _ a hA hK => nx hA (KE_S0_ok R _ _ hK))) (fun hK => (sr C14 hK fun _ _ hK => (cn C15 hK (fun hK => (rg C49 (by kernel_rfl) hK fun _ _ a hA hK => nx hA (KE_S0_ok R _ _ hK))) (fun hK => (sr C16 hK fun _ _ hK => (cn C17 hK (fun hK => (sr C18 hK fun _ _ hK => (bk C19 3 (by kernel_rfl) (lp C20 (by kernel_rfl) (KE_L1_ok R _ _ hK))))) (fun hK => (sr C30 hK fun _ _ hK => (sq C31 (sr C32 hK fun _ _ hK => (bk C33 1 (by kernel_rfl) (lp C34 (by kernel_rfl) (KE_L2_ok R _ _ hK))))))))))))))))))))))))))))
abbrev S0T (r3 : Nat) (r3_0 r3_1 r3_2 : Int) (r3_3 : Sl) (t6 : Nat) (t6_0 t6_1 t6_2 : Int) (t6_3 : Sl) (w : World) (R : Post) : Prop :=
  loc [r3, t6] w fun w4 => R (.returned (.agg #[.i r3_0, .int .u8 r3_1, .int .u8 r3_2, r3_3.v])) w4
theorem S0T_ok {r3 : Nat} {r3_0 r3_1 r3_2 : Int} {r3_3 : Sl} {t6 : Nat} {t6_0 t6_1 t6_2 : Int} {t6_3 : Sl} {w : World} {R : Post} (h : S0T r3 r3_0 r3_1 r3_2 r3_3 t6 t6_0 t6_1 t6_2 t6_3 w R) (H : LC w [(r3, [.i r3_0, .int .u8 r3_1, .int .u8 r3_2, r3_3.v], ty_enthymemeref04_Regex), (t6, [.i t6_0, .int .u8 t6_1, .int .u8 t6_2, t6_3.v], ty_enthymemeref04_Regex)]) : S0 (at0 r3) (at0 t6) w R := ⟨_, _, _, r3_3, H.ld 0 0, H.ld 0 1, H.ld 0 2, H.ld 0 3, LC.stT0 H 1 (Fr.refl _ _) rfl rfl fun w1 H f => LC.stT H 1 1 f rfl rfl fun w2 H f => LC.stT H 1 2 f rfl rfl fun w3 H f => LC.stT H 1 3 f rfl rfl fun w4 (H : LC w4 [(r3, [.i r3_0, .int .u8 r3_1, .int .u8 r3_2, r3_3.v], ty_enthymemeref04_Regex), (t6, [.i r3_0, .int .u8 r3_1, .int .u8 r3_2, r3_3.v], ty_enthymemeref04_Regex)]) (f : Fr (· ∈ [r3, t6]) _ w4) => ⟨_, _, _, r3_3, H.ld 1 0, H.ld 1 1, H.ld 1 2, H.ld 1 3, have h := h _ f; h⟩⟩
def L1T (by2 : Int) (r3 : Nat) (r3_0 r3_1 r3_2 : Int) (r3_3 : Sl) (t6 : Nat) (t6_0 t6_1 t6_2 : Int) (t6_3 : Sl) (i7 : Int) (w : World) (R : Post) : Prop := LC w [(r3, [.i r3_0, .int .u8 r3_1, .int .u8 r3_2, r3_3.v], ty_enthymemeref04_Regex), (t6, [.i t6_0, .int .u8 t6_1, .int .u8 t6_2, t6_3.v], ty_enthymemeref04_Regex)] → L1 by2 (at0 r3) (at0 t6) i7 w R
theorem L1T_step (by2 : Int) (r3 : Nat) (r3_0 r3_1 r3_2 : Int) (r3_3 : Sl) (t6 : Nat) (t6_0 t6_1 t6_2 : Int) (t6_3 : Sl) (i7 : Int) (w : World) (R : Post) (h : cf0 [r3, t6] n_enthymemeref01_Around #[.i by2, .i 40] w fun t61 w13 => sel (decide (i7 < (IntKind.wrap .i64 (40 + t61)))) (nwV w13 (.cells #[.i r3_0, .int .u8 r3_1, .int .u8 r3_2, r3_3.v] ty_enthymemeref04_Regex) fun w14 => 
  loc [r3, t6] w14 fun w18 => L1T by2 r3 6 0 0 ⟨some (nb w13), 1, 1⟩ t6 t6_0 t6_1 t6_2 t6_3 (IntKind.wrap .i64 (i7 + 1)) w18 R) (S0T r3 r3_0 r3_1 r3_2 r3_3 t6 t6_0 t6_1 t6_2 t6_3 w13 R)) : L1T by2 r3 r3_0 r3_1 r3_2 r3_3 t6 t6_0 t6_1 t6_2 t6_3 i7 w R := fun H => L1_step _ _ _ _ w R (LC.callT H h fun r_ w13 H h => let ⟨t61, hr, h⟩ := h; ⟨t61, hr, sel_imp h (fun h => ⟨_, _, _, r3_3, H.ld 0 0, H.ld 0 1, H.ld 0 2, H.ld 0 3, LC.nwN H h fun w14 H h => LC.stT0 H 0 (Fr.refl _ _) rfl rfl fun w15 H f => LC.stT H 0 1 f rfl rfl fun w16 H f => LC.stT H 0 2 f rfl rfl fun w17 H f => LC.stT H 0 3 f rfl rfl fun w18 (H : LC w18 [(r3, [.i 6, .int .u8 0, .int .u8 0, .slice (some (nb w13)) 1 1], ty_enthymemeref04_Regex), (t6, [.i t6_0, .int .u8 t6_1, .int .u8 t6_2, t6_3.v], ty_enthymemeref04_Regex)]) (f : Fr (· ∈ [r3, t6]) _ w18) => have h := h _ f; h H⟩) (fun h => S0T_ok h H)⟩)
def L2T (by2 : Int) (r3 : Nat) (r3_0 r3_1 r3_2 : Int) (r3_3 : Sl) (t6 : Nat) (t6_0 t6_1 t6_2 : Int) (t6_3 kids8 : Sl) (i9 : Int) (w : World) (R : Post) : Prop := LC w [(r3, [.i r3_0, .int .u8 r3_1, .int .u8 r3_2, r3_3.v], ty_enthymemeref04_Regex), (t6, [.i t6_0, .int .u8 t6_1, .int .u8 t6_2, t6_3.v], ty_enthymemeref04_Regex)] → L2 by2 (at0 r3) (at0 t6) kids8 i9 w R
theorem L2T_step (by2 : Int) (r3 : Nat) (r3_0 r3_1 r3_2 : Int) (r3_3 : Sl) (t6 : Nat) (t6_0 t6_1 t6_2 : Int) (t6_3 kids8 : Sl) (i9 : Int) (w : World) (R : Post) (h : cf0 [r3, t6] n_enthymemeref01_Around #[.i by2, .i 50] w fun t14 w19 => sel (decide (i9 < (IntKind.wrap .i64 (20 + t14)))) (nwV w19 (.cells #[.i 5, .int .u8 0, .int .u8 0, .slice none 0 0] ty_enthymemeref04_Regex) fun w20 => 
  ∃ (t22 : Sl) (w21 : World), Sem.run Tryz.prog (Builtin.append_ #[ty_sl_enthymemeref04_Regex, ty_sl_enthymemeref04_Regex] ty_sl_enthymemeref04_Regex #[kids8.v, .slice (some (nb w19)) 1 1]) w20 = .ok (t22.v) w21 ∧ kept [r3, t6] w20 w21 ∧ L2T by2 r3 r3_0 r3_1 r3_2 r3_3 t6 t6_0 t6_1 t6_2 t6_3 t22 (IntKind.wrap .i64 (i9 + 1)) w21 R) (nwV w19 (.cells #[.i r3_0, .int .u8 r3_1, .int .u8 r3_2, r3_3.v] ty_enthymemeref04_Regex) fun w22 => 
  ∃ (t26 : Sl) (w23 : World), Sem.run Tryz.prog (Builtin.append_ #[ty_sl_enthymemeref04_Regex, ty_sl_enthymemeref04_Regex] ty_sl_enthymemeref04_Regex #[kids8.v, .slice (some (nb w19)) 1 1]) w22 = .ok (t26.v) w23 ∧ kept [r3, t6] w22 w23 ∧ loc [r3, t6] w23 fun w27 => S0T r3 3 0 0 t26 t6 t6_0 t6_1 t6_2 t6_3 w27 R)) : L2T by2 r3 r3_0 r3_1 r3_2 r3_3 t6 t6_0 t6_1 t6_2 t6_3 kids8 i9 w R := fun H => L2_step _ _ _ _ _ w R (LC.callT H h fun r_ w19 H h => let ⟨t14, hr, h⟩ := h; ⟨t14, hr, sel_imp h (fun h => LC.nwN H h fun w20 H h => let ⟨t22, w21, he, hk, h⟩ := h; have H := LC.keptT H hk; ⟨t22, w21, he, h H⟩) (fun h => ⟨_, _, _, r3_3, H.ld 0 0, H.ld 0 1, H.ld 0 2, H.ld 0 3, LC.nwN H h fun w22 H h => let ⟨t26, w23, he, hk, h⟩ := h; have H := LC.keptT H hk; ⟨t26, w23, he, LC.stT0 H 0 (Fr.refl _ _) rfl rfl fun w24 H f => LC.stT H 0 1 f rfl rfl fun w25 H f => LC.stT H 0 2 f rfl rfl fun w26 H f => LC.stT H 0 3 f rfl rfl fun w27 (H : LC w27 [(r3, [.i 3, .int .u8 0, .int .u8 0, t26.v], ty_enthymemeref04_Regex), (t6, [.i t6_0, .int .u8 t6_1, .int .u8 t6_2, t6_3.v], ty_enthymemeref04_Regex)]) (f : Fr (· ∈ [r3, t6]) _ w27) => have h := h _ f; S0T_ok h H⟩⟩)⟩)
theorem okT (r0_0 r0_1 r0_2 : Int) (r0_3 : Sl) (how1 by2 : Int) (w : World) (R : Post) (h : newV [] w fun b3 w1 => 
  newV [b3] w1 fun b6 w2 => 
  cf0 [b3, b6] n_enthymemeref01_Around #[.i how1, .i 7] w2 fun t11 w3 => sel (t11 == 0) (loc [b3, b6] w3 fun w4 => S0T b3 by2 r0_1 r0_2 r0_3 b6 0 0 0 ⟨none, 0, 0⟩ w4 R) (sel (t11 == 1) (loc [b3, b6] w3 fun w5 => S0T b3 r0_0 (IntKind.wrap .u8 by2) r0_2 r0_3 b6 0 0 0 ⟨none, 0, 0⟩ w5 R) (sel (t11 == 2) (loc [b3, b6] w3 fun w6 => S0T b3 r0_0 r0_1 (IntKind.wrap .u8 by2) r0_3 b6 0 0 0 ⟨none, 0, 0⟩ w6 R) (sel (t11 == 3) (nwV w3 (.cells #[] ty_enthymemeref04_Regex) fun w7 => 
  ∃ (t47 : Sl) (w8 : World), Sem.run Tryz.prog (Builtin.append_ #[ty_sl_enthymemeref04_Regex, ty_sl_enthymemeref04_Regex] ty_sl_enthymemeref04_Regex #[.slice (some (nb w3)) 0 0, r0_3.v]) w7 = .ok (t47.v) w8 ∧ kept [b3, b6] w7 w8 ∧ nwV w8 (.cells #[.i 2, .int .u8 3, .int .u8 (IntKind.wrap .u8 by2), .slice none 0 0] ty_enthymemeref04_Regex) fun w9 => 
  ∃ (t52 : Sl) (w10 : World), Sem.run Tryz.prog (Builtin.append_ #[ty_sl_enthymemeref04_Regex, ty_sl_enthymemeref04_Regex] ty_sl_enthymemeref04_Regex #[t47.v, .slice (some (nb w8)) 1 1]) w9 = .ok (t52.v) w10 ∧ kept [b3, b6] w9 w10 ∧ loc [b3, b6] w10 fun w11 => S0T b3 r0_0 r0_1 r0_2 t52 b6 0 0 0 ⟨none, 0, 0⟩ w11 R) (sel (t11 == 4) (loc [b3, b6] w3 fun w12 => S0T b3 r0_0 r0_1 r0_2 ⟨none, 0, 0⟩ b6 0 0 0 ⟨none, 0, 0⟩ w12 R) (sel (t11 == 5) (L1T by2 b3 r0_0 r0_1 r0_2 r0_3 b6 0 0 0 ⟨none, 0, 0⟩ 0 w3 R) (L2T by2 b3 r0_0 r0_1 r0_2 r0_3 b6 0 0 0 ⟨none, 0, 0⟩ ⟨none, 0, 0⟩ 0 w3 R))))))) : Calls Tryz.prog n_enthymemeref04_Spoilt #[.agg #[.i r0_0, .int .u8 r0_1, .int .u8 r0_2, r0_3.v], .i how1, .i by2] w R :=
  ok _ _ _ _ _ _ w R (LC.nwT (LC.nil _) (Fr.refl _ _) h fun w1 H h => LC.nwT H (Fr.refl _ _) h fun w2 H h => LC.callT H h fun r_ w3 H h => let ⟨t11, hr, h⟩ := h; ⟨t11, hr, sel_imp h (fun h => LC.stT H 0 0 (Fr.refl _ _) rfl rfl fun w4 (H : LC w4 [(w.heap.size, [.i by2, .int .u8 r0_1, .int .u8 r0_2, r0_3.v], ty_enthymemeref04_Regex), (w1.heap.size, [.i 0, .int .u8 0, .int .u8 0, .slice none 0 0], ty_enthymemeref04_Regex)]) (f : Fr (· ∈ [w.heap.size, w1.heap.size]) _ w4) => have h := h _ f; S0T_ok h H) (fun h => sel_imp h (fun h => LC.stT H 0 1 (Fr.refl _ _) rfl rfl fun w5 (H : LC w5 [(w.heap.size, [.i r0_0, .int .u8 (IntKind.wrap .u8 by2), .int .u8 r0_2, r0_3.v], ty_enthymemeref04_Regex), (w1.heap.size, [.i 0, .int .u8 0, .int .u8 0, .slice none 0 0], ty_enthymemeref04_Regex)]) (f : Fr (· ∈ [w.heap.size, w1.heap.size]) _ w5) => have h := h _ f; S0T_ok h H) (fun h => sel_imp h (fun h => LC.stT H 0 2 (Fr.refl _ _) rfl rfl fun w6 (H : LC w6 [(w.heap.size, [.i r0_0, .int .u8 r0_1, .int .u8 (IntKind.wrap .u8 by2), r0_3.v], ty_enthymemeref04_Regex), (w1.heap.size, [.i 0, .int .u8 0, .int .u8 0, .slice none 0 0], ty_enthymemeref04_Regex)]) (f : Fr (· ∈ [w.heap.size, w1.heap.size]) _ w6) => have h := h _ f; S0T_ok h H) (fun h => sel_imp h (fun h => LC.nwN H h fun w7 H h => ⟨r0_3, H.ld 0 3, let ⟨t47, w8, he, hk, h⟩ := h; have H := LC.keptT H hk; ⟨t47, w8, he, LC.nwN H h fun w9 H h => let ⟨t52, w10, he, hk, h⟩ := h; have H := LC.keptT H hk; ⟨t52, w10, he, LC.stT H 0 3 (Fr.refl _ _) rfl rfl fun w11 (H : LC w11 [(w.heap.size, [.i r0_0, .int .u8 r0_1, .int .u8 r0_2, t52.v], ty_enthymemeref04_Regex), (w1.heap.size, [.i 0, .int .u8 0, .int .u8 0, .slice none 0 0], ty_enthymemeref04_Regex)]) (f : Fr (· ∈ [w.heap.size, w1.heap.size]) _ w11) => have h := h _ f; S0T_ok h H⟩⟩⟩) (fun h => sel_imp h (fun h => LC.stT H 0 3 (Fr.refl _ _) rfl rfl fun w12 (H : LC w12 [(w.heap.size, [.i r0_0, .int .u8 r0_1, .int .u8 r0_2, .slice none 0 0], ty_enthymemeref04_Regex), (w1.heap.size, [.i 0, .int .u8 0, .int .u8 0, .slice none 0 0], ty_enthymemeref04_Regex)]) (f : Fr (· ∈ [w.heap.size, w1.heap.size]) _ w12) => have h := h _ f; S0T_ok h H) (fun h => sel_imp h (fun h => h H) (fun h => h H))))))⟩)
end enthymemeref04_Spoilt
namespace enthymemeref04_Word
noncomputable def C0 : Code := (Tryz.f17.body).getD .skip
noncomputable def C1:=C0.sn
noncomputable def C2:=C1.sn
noncomputable def C3:=C2.sn
noncomputable def C4:=C3.sn
noncomputable def C5:=C4.sn
noncomputable def C6:=C5.fs
noncomputable def C7:=C6.sn
noncomputable def C8:=C7.fs
noncomputable def C9:=C8.fs
noncomputable def C10:=C5.sn
abbrev Q0 (R : Post) : ExP := (Exit.then (wpx Tryz.prog (cx 30) C10 (bodyPost Tryz.prog Tryz.f17 R)) (bodyPost Tryz.prog Tryz.f17 R))
abbrev Q1 (R : Post) : ExP := (Exit.inBlock 0 (Q0 R))
/-- the head of the loop, ref.go:679 -/
def L1 (k3 : Int) (out4 : Sl) (many5 i6 : Int) (w : World) (R : Post) : Prop := LP Tryz.prog (cx 30) C9 (Q1 R) [(3, .i k3), (4, out4.v), (5, .i many5), (6, .i i6)] w
def KE_L1 (E : Env) (w : World) (R : Post) : Prop := W.asInt .i64 (Env.get? E 3) fun k3 => W.asSlice (Env.get? E 4) fun out4 => W.asInt .i64 (Env.get? E 5) fun many5 => W.asInt .i64 (Env.get? E 6) fun i6 => L1 k3 out4 many5 i6 w R
theorem KE_L1_ok : LOk Tryz.prog 30 KE_L1 C9 Q1 := by
  intro R E w h
  obtain ⟨k3, hq3, h_1⟩ := W.asInt_elim h
  obtain ⟨out4, hq4, h_2⟩ := W.asSlice_elim h_1
  obtain ⟨many5, hq5, h_3⟩ := W.asInt_elim h_2
  obtain ⟨i6, hq6, h_4⟩ := W.asInt_elim h_3
  intro a ha
  exact h_4 a (ha.cons hq3 (ha.cons hq4 (ha.cons hq5 (ha.cons hq6 ha.nil))))
noncomputable def C11:=C9.sn
noncomputable def C12:=C11.sn
abbrev Q2 (R : Post) : ExP := (Exit.then (LoopWP Tryz.prog (cx 30) C9 (Q1 R)) (Q1 R))
/-- ref.go:679 -/
abbrev S2 (k3 : Int) (out4 : Sl) (many5 i6 : Int) (w : World) (R : Post) : Prop :=
  L1 k3 out4 many5 (IntKind.wrap .i64 (i6 + 1)) w R
def KE_S2 (E : Env) (w : World) (R : Post) : Prop := W.asInt .i64 (Env.get? E 3) fun k3 => W.asSlice (Env.get? E 4) fun out4 => W.asInt .i64 (Env.get? E 5) fun many5 => W.asInt .i64 (Env.get? E 6) fun i6 => S2 k3 out4 many5 i6 w R
theorem KE_S2_ok : KOk Tryz.prog 30 KE_S2 C12 Q2 := by
  intro R E w h
  obtain ⟨k3, hq3, h_1⟩ := W.asInt_elim h
  obtain ⟨out4, hq4, h_2⟩ := W.asSlice_elim h_1
  obtain ⟨many5, hq5, h_3⟩ := W.asInt_elim h_2
  obtain ⟨i6, hq6, h_4⟩ := W.asInt_elim h_3
  exact fun a ha => WP.at (E := [(3, .i k3), (4, out4.v), (5, .i many5), (6, .i i6)]) (rg C12 (K := fun E w => KE_L1 E w R) (by kernel_rfl) (mp h_4) fun _ _ a hA hK => KE_L1_ok R _ _ hK a hA) (ha.cons hq3 (ha.cons hq4 (ha.cons hq5 (ha.cons hq6 ha.nil))))
noncomputable def C13:=C9.fs
noncomputable def C14:=C11.fs
noncomputable def C15:=C14.fs
noncomputable def C16:=C15.sn
noncomputable def C17:=C13.sn
noncomputable def C18:=C17.fs
noncomputable def C19:=C17.sn
noncomputable def C20:=C10.sn
theorem L1_step (k3 : Int) (out4 : Sl) (many5 i6 : Int) (w : World) (R : Post) (h : sel (decide (i6 < many5)) (nwV w (.cells #[.int .u8 97, .int .u8 98, .int .u8 97, .int .u8 98, .int .u8 99, .int .u8 0, .int .u8 39, .int .u8 255] ty_uint8) fun w1 => 
  (0 : Int) ≤ (Int.tmod k3 8) ∧ (Int.tmod k3 8) < ((8 : Nat) : Int) ∧ optP (some (nb w)) fun t22_p => ∃ t23 : Int, w1.cell? (t22_p.add (Int.toNat (Int.tmod k3 8) * 1)) = some (.int .u8 t23) ∧ 
  nwV w1 (.cells #[.int .u8 t23] ty_uint8) fun w2 => 
  ∃ (t25 : Sl) (w3 : World), Sem.run Tryz.prog (Builtin.append_ #[ty_sl_uint8, ty_sl_uint8] ty_sl_uint8 #[out4.v, .slice (some (nb w1)) 1 1]) w2 = .ok (t25.v) w3 ∧ S2 (IntKind.wrap .i64 (Int.tdiv k3 8)) t25 many5 i6 w3 R) (∃ t29 : ByteArray, Sem.run Tryz.prog (Go.convert ty_sl_uint8 ty_string (out4.v)) w = .ok (.string t29) w ∧ R (.returned (.string t29)) w)) : L1 k3 out4 many5 i6 w R :=
  LP.step (n := (cx 30)) (c := C9) (E := [(3, .i k3), (4, out4.v), (5, .i many5), (6, .i i6)]) (w := w) (sq C9 (sr C13 (show (fun (E : Env) (w : World) => srK Tryz.prog C13 (fun E w => condK (Env.val E (.tmp 15)) (srK Tryz.prog C15 (fun E w => rgK Tryz.prog C16 (fun E w => KE_S2 E w R) E w) E w) (srK Tryz.prog C10 (fun E w => retVC Tryz.prog Tryz.f17 E w (fun v => R (.returned v) w)) E w)) E w) [(3, .i k3), (4, out4.v), (5, .i many5), (6, .i i6)] w from mp h) fun _ _ hK => (cn C17 hK (fun hK => (sk C18 fun a hA => nx hA (sq C11 (bk C14 1 (by kernel_rfl) (sr C15 hK fun _ _ hK => (rg C16 (by kernel_rfl) hK fun _ _ a hA hK => nx hA (KE_S2_ok R _ _ hK))))))) (fun hK => (xt C19 0 (by kernel_rfl) fun a hA => nx hA (sr C10 hK fun _ _ hK => (rt C20 fun a hA => retVC_sound hA hK)))))))
/-- ref.go:679 -/
abbrev S0 (k3 : Int) (out4 : Sl) (many5 : Int) (w : World) (R : Post) : Prop :=
  L1 k3 out4 many5 0 w R
def KE_S0 (E : Env) (w : World) (R : Post) : Prop := W.asInt .i64 (Env.get? E 3) fun k3 => W.asSlice (Env.get? E 4) fun out4 => W.asInt .i64 (Env.get? E 5) fun many5 => S0 k3 out4 many5 w R
theorem KE_S0_ok : KOk Tryz.prog 30 KE_S0 C6 Q0 := by
  intro R E w h
  obtain ⟨k3, hq3, h_1⟩ := W.asInt_elim h
  obtain ⟨out4, hq4, h_2⟩ := W.asSlice_elim h_1
  obtain ⟨many5, hq5, h_3⟩ := W.asInt_elim h_2
  exact fun a ha => WP.at (E := [(3, .i k3), (4, out4.v), (5, .i many5)]) (sr C6 (K := fun E w => KE_L1 E w R) (mp h_3) fun _ _ hK => (bk C7 0 (by kernel_rfl) (lp C8 (by kernel_rfl) (KE_L1_ok R _ _ hK)))) (ha.cons hq3 (ha.cons hq4 (ha.cons hq5 ha.nil)))
/-- enthymeme/enthymemeref04.Word -/
theorem ok (n0 : Int) (w : World) (R : Post) (h : ca0 n_enthymemeref01_Around #[.i n0, .i 16777216] w fun t8 w1 => S0 (IntKind.wrap .i64 (Int.tdiv t8 6)) ⟨none, 0, 0⟩ (Int.tmod t8 6) w1 R) : Calls Tryz.prog n_enthymemeref04_Word #[.i n0] w R :=
  calls_of_WP' (R := R) (fn := Tryz.f17) (c := C0) (args := [.i n0]) (by kernel_rfl) (by kernel_rfl) (by kernel_rfl) (sr C0 (show (fun (E : Env) (w : World) => srK Tryz.prog C0 (fun E w => srK Tryz.prog C1 (fun E w => srK Tryz.prog C2 (fun E w => srK Tryz.prog C3 (fun E w => srK Tryz.prog C4 (fun E w => KE_S0 E w R) E w) E w) E w) E w) E w) (envOf 0 [.i n0]) w from mp h) fun _ _ hK => (sr C1 hK fun _ _ hK => (sr C2 hK fun _ _ hK => (sr C3 hK fun _ _ hK => (sr C4 hK fun _ _ hK => (sq C5 (KE_S0_ok R _ _ hK)))))))
end enthymemeref04_Word
namespace enthymemelaw04_own
noncomputable def C0 : Code := (Tryz.f8.body).getD .skip
noncomputable def C1:=C0.sn
noncomputable def C2:=C1.sn
noncomputable def C3:=C2.fs
noncomputable def C4:=C3.sn
noncomputable def C5:=C4.fs
noncomputable def C6:=C5.fs
noncomputable def C7:=C2.sn
abbrev Q0 (R : Post) : ExP := (Exit.then (wpx Tryz.prog (cx 31) C7 (bodyPost Tryz.prog Tryz.f8 R)) (bodyPost Tryz.prog Tryz.f8 R))
abbrev Q1 (R : Post) : ExP := (Exit.inBlock 0 (Q0 R))
/-- the head of the loop, law.go:14 -/
def L0 (r1 t2 out3 : Addr) (i4 : Int) (w : World) (R : Post) : Prop := LP Tryz.prog (cx 31) C6 (Q1 R) [(1, .pointer (some r1)), (2, .pointer (some t2)), (3, .pointer (some out3)), (4, .i i4)] w
def KE_L0 (E : Env) (w : World) (R : Post) : Prop := W.asRef (Env.get? E 1) fun r1 => W.asRef (Env.get? E 2) fun t2 => W.asRef (Env.get? E 3) fun out3 => W.asInt .i64 (Env.get? E 4) fun i4 => L0 r1 t2 out3 i4 w R
theorem KE_L0_ok : LOk Tryz.prog 31 KE_L0 C6 Q1 := by
  intro R E w h
  obtain ⟨r1, hq1, h_1⟩ := W.asRef_elim h
  obtain ⟨t2, hq2, h_2⟩ := W.asRef_elim h_1
  obtain ⟨out3, hq3, h_3⟩ := W.asRef_elim h_2
  obtain ⟨i4, hq4, h_4⟩ := W.asInt_elim h_3
  intro a ha
  exact h_4 a (ha.cons hq1 (ha.cons hq2 (ha.cons hq3 (ha.cons hq4 ha.nil))))
noncomputable def C8:=C6.fs
noncomputable def C9:=C6.sn
noncomputable def C10:=C9.fs
noncomputable def C11:=C10.fs
noncomputable def C12:=C9.sn
noncomputable def C13:=C8.sn
noncomputable def C14:=C13.fs
noncomputable def C15:=C13.sn
noncomputable def C16:=C7.sn
theorem L0_step (r1 t2 out3 : Addr) (i4 : Int) (w : World) (R : Post) (h : ∃ t14 : Sl, w.cell? (r1.add 3) = some (t14.v) ∧ 
  sel (decide (i4 < ((t14.n : Nat) : Int))) (drV w fun w8 => ∃ t20 : Sl, w8.cell? (out3.add 3) = some (t20.v) ∧ 
  ∃ t22 : Sl, w8.cell? (r1.add 3) = some (t22.v) ∧ 
  (0 : Int) ≤ i4 ∧ i4 < ((t22.n : Nat) : Int) ∧ optP t22.a fun t24_p => ld4_0 w8 (t24_p.add (Int.toNat i4 * 4)) fun t25_0 t25_1 t25_2 t25_3 => ca2 n_enthymemelaw04_own #[.agg #[.i t25_0, .int .u8 t25_1, .int .u8 t25_2, t25_3.v]] w8 fun t26_0 t26_1 t26_2 t26_3 w9 => w9.cell? (out3.add 3) = some (t20.v) ∧ nwV w9 (.cells #[.i t26_0, .int .u8 t26_1, .int .u8 t26_2, t26_3.v] ty_regex_Regex) fun w10 => 
  w10.cell? (out3.add 3) = some (t20.v) ∧ ∃ (t28 : Sl) (w11 : World), Sem.run Tryz.prog (Builtin.append_ #[ty_sl_regex_Regex, ty_sl_regex_Regex] ty_sl_regex_Regex #[t20.v, .slice (some (nb w9)) 1 1]) w10 = .ok (t28.v) w11 ∧ stV w11 (out3.add 3) (t28.v) fun w12 => 
  L0 r1 t2 out3 (IntKind.wrap .i64 (i4 + 1)) w12 R) (ld4_0 w out3 fun t30_0 t30_1 t30_2 t30_3 => stW4 w t2 (.i t30_0) (.int .u8 t30_1) (.int .u8 t30_2) (t30_3.v) fun w16 => ld4_0 w16 t2 fun r2_0 r2_1 r2_2 r2_3 => R (.returned (.agg #[.i r2_0, .int .u8 r2_1, .int .u8 r2_2, r2_3.v])) w16)) : L0 r1 t2 out3 i4 w R :=
  LP.step (n := (cx 31)) (c := C6) (E := [(1, .pointer (some r1)), (2, .pointer (some t2)), (3, .pointer (some out3)), (4, .i i4)]) (w := w) (sq C6 (sr C8 (show (fun (E : Env) (w : World) => srK Tryz.prog C8 (fun E w => condK (Env.val E (.tmp 16)) (dgK Tryz.prog C11 [0, 1, 2, 3, 4, 5, 6, 7, 8, 9, 10, 11] (fun E w => rgK Tryz.prog C12 (fun E w => KE_L0 E w R) E w) E w) (srK Tryz.prog C7 (fun E w => retVC Tryz.prog Tryz.f8 E w (fun v => R (.returned v) w)) E w)) E w) [(1, .pointer (some r1)), (2, .pointer (some t2)), (3, .pointer (some out3)), (4, .i i4)] w from mp h) fun _ _ hK => (cn C13 hK (fun hK => (sk C14 fun a hA => nx hA (sq C9 (bk C10 1 (by kernel_rfl) (dg C11 (by kernel_rfl) hK fun _ _ a hA hK => nx hA (rg C12 (by kernel_rfl) hK fun _ _ a hA hK => KE_L0_ok R _ _ hK a hA)))))) (fun hK => (xt C15 0 (by kernel_rfl) fun a hA => nx hA (sr C7 hK fun _ _ hK => (rt C16 fun a hA => retVC_sound hA hK)))))))
/-- enthymeme/enthymemelaw04.own -/
theorem ok (r0_0 r0_1 r0_2 : Int) (r0_3 : Sl) (w : World) (R : Post) (h : nwV w (.cells #[.i r0_0, .int .u8 r0_1, .int .u8 r0_2, r0_3.v] ty_enthymemeref04_Regex) fun w1 => 
  nwV w1 (.cells #[.i 0, .int .u8 0, .int .u8 0, .slice none 0 0] ty_regex_Regex) fun w2 => 
  ∃ t6 : Int, w2.cell? ((nb w).add 0) = some (.i t6) ∧ 
  ∃ t8 : Int, w2.cell? ((nb w).add 1) = some (.int .u8 t8) ∧ 
  ∃ t10 : Int, w2.cell? ((nb w).add 2) = some (.int .u8 t10) ∧ 
  nwV w2 (.cells #[.i 0, .int .u8 0, .int .u8 0, .slice none 0 0] ty_regex_Regex) fun w3 => 
  stW4 w3 (nb w2) (.i t6) (.int .u8 t8) (.int .u8 t10) (.slice none 0 0) fun w7 => L0 (nb w) (nb w1) (nb w2) 0 w7 R) : Calls Tryz.prog n_enthymemelaw04_own #[.agg #[.i r0_0, .int .u8 r0_1, .int .u8 r0_2, r0_3.v]] w R :=
  calls_of_WP' (R := R) (fn := Tryz.f8) (c := C0) (args := [.agg #[.i r0_0, .int .u8 r0_1, .int .u8 r0_2, r0_3.v]]) (by kernel_rfl) (by kernel_rfl) (by kernel_rfl) (sr C0 (show (fun (E : Env) (w : World) => srK Tryz.prog C0 (fun E w => srK Tryz.prog C1 (fun E w => srK Tryz.prog C3 (fun E w => KE_L0 E w R) E w) E w) E w) (envOf 0 [.agg #[.i r0_0, .int .u8 r0_1, .int .u8 r0_2, r0_3.v]]) w from mp h) fun _ _ hK => (sr C1 hK fun _ _ hK => (sq C2 (sr C3 hK fun _ _ hK => (bk C4 0 (by kernel_rfl) (lp C5 (by kernel_rfl) (KE_L0_ok R _ _ hK)))))))
def L0T (r1 : Nat) (r1_0 r1_1 r1_2 : Int) (r1_3 : Sl) (t2 : Nat) (t2_0 t2_1 t2_2 : Int) (t2_3 : Sl) (out3 : Nat) (out3_0 out3_1 out3_2 : Int) (out3_3 : Sl) (i4 : Int) (w : World) (R : Post) : Prop := LC w [(r1, [.i r1_0, .int .u8 r1_1, .int .u8 r1_2, r1_3.v], ty_enthymemeref04_Regex), (t2, [.i t2_0, .int .u8 t2_1, .int .u8 t2_2, t2_3.v], ty_regex_Regex), (out3, [.i out3_0, .int .u8 out3_1, .int .u8 out3_2, out3_3.v], ty_regex_Regex)] → L0 (at0 r1) (at0 t2) (at0 out3) i4 w R
theorem L0T_step (r1 : Nat) (r1_0 r1_1 r1_2 : Int) (r1_3 : Sl) (t2 : Nat) (t2_0 t2_1 t2_2 : Int) (t2_3 : Sl) (out3 : Nat) (out3_0 out3_1 out3_2 : Int) (out3_3 : Sl) (i4 : Int) (w : World) (R : Post) (h : sel (decide (i4 < ((r1_3.n : Nat) : Int))) ((0 : Int) ≤ i4 ∧ i4 < ((r1_3.n : Nat) : Int) ∧ optP r1_3.a fun t24_p => loc [r1, t2, out3] w fun w8 => ld4_0 w8 (t24_p.add (Int.toNat i4 * 4)) fun t25_0 t25_1 t25_2 t25_3 => cf2 [r1, t2, out3] n_enthymemelaw04_own #[.agg #[.i t25_0, .int .u8 t25_1, .int .u8 t25_2, t25_3.v]] w8 fun t26_0 t26_1 t26_2 t26_3 w9 => nwV w9 (.cells #[.i t26_0, .int .u8 t26_1, .int .u8 t26_2, t26_3.v] ty_regex_Regex) fun w10 => 
  ∃ (t28 : Sl) (w11 : World), Sem.run Tryz.prog (Builtin.append_ #[ty_sl_regex_Regex, ty_sl_regex_Regex] ty_sl_regex_Regex #[out3_3.v, .slice (some (nb w9)) 1 1]) w10 = .ok (t28.v) w11 ∧ kept [r1, t2, out3] w10 w11 ∧ loc [r1, t2, out3] w11 fun w12 => L0T r1 r1_0 r1_1 r1_2 r1_3 t2 t2_0 t2_1 t2_2 t2_3 out3 out3_0 out3_1 out3_2 t28 (IntKind.wrap .i64 (i4 + 1)) w12 R) (loc [r1, t2, out3] w fun w16 => R (.returned (.agg #[.i out3_0, .int .u8 out3_1, .int .u8 out3_2, out3_3.v])) w16)) : L0T r1 r1_0 r1_1 r1_2 r1_3 t2 t2_0 t2_1 t2_2 t2_3 out3 out3_0 out3_1 out3_2 out3_3 i4 w R := fun H => L0_step _ _ _ _ w R (⟨r1_3, H.ld 0 3, sel_imp h (fun h => LC.drT H (Fr.refl _ _) fun w8 H f => ⟨out3_3, H.ld 2 3, ⟨r1_3, H.ld 0 3, ⟨h.1, h.2.1, have h := h.2.2; optP_imp h fun t24_p h => have h := h _ f; let ⟨t25_0, t25_1, t25_2, t25_3, hc0, hc1, hc2, hc3, h⟩ := h; ⟨t25_0, t25_1, t25_2, t25_3, hc0, hc1, hc2, hc3, LC.callT H h fun r_ w9 H h => let ⟨t26_0, t26_1, t26_2, t26_3, hr, h⟩ := h; ⟨t26_0, t26_1, t26_2, t26_3, hr, ⟨H.ld 2 3, LC.nwN H h fun w10 H h => ⟨H.ld 2 3, let ⟨t28, w11, he, hk, h⟩ := h; have H := LC.keptT H hk; ⟨t28, w11, he, LC.stT H 2 3 (Fr.refl _ _) rfl rfl fun w12 (H : LC w12 [(r1, [.i r1_0, .int .u8 r1_1, .int .u8 r1_2, r1_3.v], ty_enthymemeref04_Regex), (t2, [.i t2_0, .int .u8 t2_1, .int .u8 t2_2, t2_3.v], ty_regex_Regex), (out3, [.i out3_0, .int .u8 out3_1, .int .u8 out3_2, t28.v], ty_regex_Regex)]) (f : Fr (· ∈ [r1, t2, out3]) _ w12) => have h := h _ f; h H⟩⟩⟩⟩⟩⟩⟩⟩) (fun h => ⟨_, _, _, out3_3, H.ld 2 0, H.ld 2 1, H.ld 2 2, H.ld 2 3, LC.stT0 H 1 (Fr.refl _ _) rfl rfl fun w13 H f => LC.stT H 1 1 f rfl rfl fun w14 H f => LC.stT H 1 2 f rfl rfl fun w15 H f => LC.stT H 1 3 f rfl rfl fun w16 (H : LC w16 [(r1, [.i r1_0, .int .u8 r1_1, .int .u8 r1_2, r1_3.v], ty_enthymemeref04_Regex), (t2, [.i out3_0, .int .u8 out3_1, .int .u8 out3_2, out3_3.v], ty_regex_Regex), (out3, [.i out3_0, .int .u8 out3_1, .int .u8 out3_2, out3_3.v], ty_regex_Regex)]) (f : Fr (· ∈ [r1, t2, out3]) _ w16) => ⟨_, _, _, out3_3, H.ld 1 0, H.ld 1 1, H.ld 1 2, H.ld 1 3, have h := h _ f; h⟩⟩)⟩)
theorem okT (r0_0 r0_1 r0_2 : Int) (r0_3 : Sl) (w : World) (R : Post) (h : newV [] w fun b1 w1 => 
  newV [b1] w1 fun b2 w2 => 
  newV [b1, b2] w2 fun b3 w3 => 
  loc [b1, b2, b3] w3 fun w7 => L0T b1 r0_0 r0_1 r0_2 r0_3 b2 0 0 0 ⟨none, 0, 0⟩ b3 r0_0 r0_1 r0_2 ⟨none, 0, 0⟩ 0 w7 R) : Calls Tryz.prog n_enthymemelaw04_own #[.agg #[.i r0_0, .int .u8 r0_1, .int .u8 r0_2, r0_3.v]] w R :=
  ok _ _ _ _ w R (LC.nwT (LC.nil _) (Fr.refl _ _) h fun w1 H h => LC.nwT H (Fr.refl _ _) h fun w2 H h => ⟨_, H.ld 0 0, ⟨_, H.ld 0 1, ⟨_, H.ld 0 2, LC.nwT H (Fr.refl _ _) h fun w3 (H : LC w3 [(w.heap.size, [.i r0_0, .int .u8 r0_1, .int .u8 r0_2, r0_3.v], ty_enthymemeref04_Regex), (w1.heap.size, [.i 0, .int .u8 0, .int .u8 0, .slice none 0 0], ty_regex_Regex), (w2.heap.size, [.i 0, .int .u8 0, .int .u8 0, .slice none 0 0], ty_regex_Regex)]) h => LC.stT0 H 2 (Fr.refl _ _) rfl rfl fun w4 H f => LC.stT H 2 1 f rfl rfl fun w5 H f => LC.stT H 2 2 f rfl rfl fun w6 H f => LC.stT H 2 3 f rfl rfl fun w7 (H : LC w7 [(w.heap.size, [.i r0_0, .int .u8 r0_1, .int .u8 r0_2, r0_3.v], ty_enthymemeref04_Regex), (w1.heap.size, [.i 0, .int .u8 0, .int .u8 0, .slice none 0 0], ty_regex_Regex), (w2.heap.size, [.i r0_0, .int .u8 r0_1, .int .u8 r0_2, .slice none 0 0], ty_regex_Regex)]) (f : Fr (· ∈ [w.heap.size, w1.heap.size, w2.heap.size]) _ w7) => have h := h _ f; h H⟩⟩⟩)
end enthymemelaw04_own
end Go.Proofs.YtknlbofiicflgaaGreat

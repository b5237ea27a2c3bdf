/- Printed by a program of ours (vcgen.py) from the dump: the conditions of the functions, and that they suffice. -/
import Derived.Test.YtknlbofiicflgaaVL
import Derived.Test.YtknlbofiicflgaaVG
import Derived.Test.YtknlbofiicflgaaVM
import Derived.Test.YtknlbofiicflgaaY
set_option linter.unusedVariables false
set_option maxRecDepth 100000
set_option maxHeartbeats 2000000
namespace Go.Proofs.Ytknlbofiicflgaa
open Go Go.W
namespace enthymemelaw04_RegexSets
noncomputable def C0 : Code := (Try.f4.body).getD .skip
noncomputable def C1:=C0.sn
noncomputable def C2:=C1.sn
noncomputable def C3:=C2.sn
noncomputable def C4:=C3.sn
noncomputable def C5:=C4.fs
noncomputable def C6:=C5.sn
noncomputable def C7:=C6.fs
noncomputable def C8:=C7.fs
noncomputable def C9:=C4.sn
abbrev Q0 (R : Post) : Exit → Act → World → Prop := (Exit.then (wpx Try.prog (cx 212) C9 (bodyPost Try.prog Try.f4 R)) (bodyPost Try.prog Try.f4 R))
abbrev Q1 (R : Post) : Exit → Act → World → Prop := (Exit.inBlock 0 (Q0 R))
/-- the head of the loop, law.go:126 -/
def L0 (words2 : Sl) (c3 : Int) (a9 b10 : Addr) (s11 : ByteArray) (i12 : Int) (w : World) (R : Post) : Prop := LP Try.prog (cx 212) C8 (Q1 R) [(2, words2.v), (3, .int .u8 c3), (9, .pointer (some a9)), (10, .pointer (some b10)), (11, .string s11), (12, .i i12)] w
def KE_L0 (E : Env) (w : World) (R : Post) : Prop := W.asSlice (Env.get? E 2) fun words2 => W.asInt .u8 (Env.get? E 3) fun c3 => W.asRef (Env.get? E 9) fun a9 => W.asRef (Env.get? E 10) fun b10 => W.asStr (Env.get? E 11) fun s11 => W.asInt .i64 (Env.get? E 12) fun i12 => L0 words2 c3 a9 b10 s11 i12 w R
theorem KE_L0_ok (R : Post) (E : Env) (w : World) (h : KE_L0 E w R) : LP Try.prog (cx 212) C8 (Q1 R) E w := by
  obtain ⟨words2, hq2, h_1⟩ := W.asSlice_elim h
  obtain ⟨c3, hq3, h_2⟩ := W.asInt_elim h_1
  obtain ⟨a9, hq9, h_3⟩ := W.asRef_elim h_2
  obtain ⟨b10, hq10, h_4⟩ := W.asRef_elim h_3
  obtain ⟨s11, hq11, h_5⟩ := W.asStr_elim h_4
  obtain ⟨i12, hq12, h_6⟩ := W.asInt_elim h_5
  intro a ha
  exact h_6 a (ha.cons hq2 (ha.cons hq3 (ha.cons hq9 (ha.cons hq10 (ha.cons hq11 (ha.cons hq12 ha.nil))))))
noncomputable def C10:=C9.sn
noncomputable def C11:=C10.sn
noncomputable def C12:=C11.sn
noncomputable def C13:=C12.sn
noncomputable def C14:=C13.sn
noncomputable def C15:=C14.sn
noncomputable def C16:=C15.sn
noncomputable def C17:=C16.sn
noncomputable def C18:=C17.sn
noncomputable def C19:=C18.sn
noncomputable def C20:=C19.sn
noncomputable def C21:=C20.sn
noncomputable def C22:=C21.sn
noncomputable def C23:=C22.fs
noncomputable def C24:=C23.sn
noncomputable def C25:=C24.fs
noncomputable def C26:=C25.fs
noncomputable def C27:=C22.sn
abbrev Q2 (R : Post) : Exit → Act → World → Prop := (Exit.then (wpx Try.prog (cx 212) C27 (bodyPost Try.prog Try.f4 R)) (bodyPost Try.prog Try.f4 R))
abbrev Q3 (R : Post) : Exit → Act → World → Prop := (Exit.inBlock 2 (Q2 R))
/-- the head of the loop, law.go:142 -/
def L2 (s11 : ByteArray) (x16 y18 or20 and22 not24 is26 more28 : Bool) (k29 : Int) (led30 other32 : Bool) (errors34 : Sl) (q35 : Int) (w : World) (R : Post) : Prop := LP Try.prog (cx 212) C26 (Q3 R) [(11, .string s11), (16, .bool x16), (18, .bool y18), (20, .bool or20), (22, .bool and22), (24, .bool not24), (26, .bool is26), (28, .bool more28), (29, .i k29), (30, .bool led30), (32, .bool other32), (34, errors34.v), (35, .i q35)] w
def KE_L2 (E : Env) (w : World) (R : Post) : Prop := W.asStr (Env.get? E 11) fun s11 => W.asBool' (Env.get? E 16) fun x16 => W.asBool' (Env.get? E 18) fun y18 => W.asBool' (Env.get? E 20) fun or20 => W.asBool' (Env.get? E 22) fun and22 => W.asBool' (Env.get? E 24) fun not24 => W.asBool' (Env.get? E 26) fun is26 => W.asBool' (Env.get? E 28) fun more28 => W.asInt .i64 (Env.get? E 29) fun k29 => W.asBool' (Env.get? E 30) fun led30 => W.asBool' (Env.get? E 32) fun other32 => W.asSlice (Env.get? E 34) fun errors34 => W.asInt .i64 (Env.get? E 35) fun q35 => L2 s11 x16 y18 or20 and22 not24 is26 more28 k29 led30 other32 errors34 q35 w R
theorem KE_L2_ok (R : Post) (E : Env) (w : World) (h : KE_L2 E w R) : LP Try.prog (cx 212) C26 (Q3 R) E w := by
  obtain ⟨s11, hq11, h_1⟩ := W.asStr_elim h
  obtain ⟨x16, hq16, h_2⟩ := W.asBool_elim h_1
  obtain ⟨y18, hq18, h_3⟩ := W.asBool_elim h_2
  obtain ⟨or20, hq20, h_4⟩ := W.asBool_elim h_3
  obtain ⟨and22, hq22, h_5⟩ := W.asBool_elim h_4
  obtain ⟨not24, hq24, h_6⟩ := W.asBool_elim h_5
  obtain ⟨is26, hq26, h_7⟩ := W.asBool_elim h_6
  obtain ⟨more28, hq28, h_8⟩ := W.asBool_elim h_7
  obtain ⟨k29, hq29, h_9⟩ := W.asInt_elim h_8
  obtain ⟨led30, hq30, h_10⟩ := W.asBool_elim h_9
  obtain ⟨other32, hq32, h_11⟩ := W.asBool_elim h_10
  obtain ⟨errors34, hq34, h_12⟩ := W.asSlice_elim h_11
  obtain ⟨q35, hq35, h_13⟩ := W.asInt_elim h_12
  intro a ha
  exact h_13 a (ha.cons hq11 (ha.cons hq16 (ha.cons hq18 (ha.cons hq20 (ha.cons hq22 (ha.cons hq24 (ha.cons hq26 (ha.cons hq28 (ha.cons hq29 (ha.cons hq30 (ha.cons hq32 (ha.cons hq34 (ha.cons hq35 ha.nil)))))))))))))
noncomputable def C28:=C27.sn
abbrev Q4 (R : Post) : Exit → Act → World → Prop := (bodyPost Try.prog Try.f4 R)
noncomputable def C29:=C28.sn
/-- law.go:150 -/
abbrev S3 (s11 : ByteArray) (x16 y18 or20 and22 not24 is26 more28 : Bool) (k29 : Int) (led30 other32 : Bool) (w : World) (R : Post) : Prop :=
  sel x16 (sel (or20 == true) (sel x16 (sel (and22 == y18) (sel (not24 == (!x16)) (sel (led30 == y18) (sel (!other32) (sel (k29 != 0) (Calls Try.prog n_enthymemelaw04_lives #[] w fun r_ w1 => ∃ t210 : Bool, r_ = .returned (.bool t210) ∧ 
  R (.returned (.bool t210)) w1) (sel (s11.toList == (ByteArray.mk #[]).toList) (sel (is26 == true) (Calls Try.prog n_enthymemelaw04_lives #[] w fun r_ w2 => ∃ t210_x1 : Bool, r_ = .returned (.bool t210_x1) ∧ 
  R (.returned (.bool t210_x1)) w2) (R (.returned (.bool false)) w)) (sel (is26 == more28) (Calls Try.prog n_enthymemelaw04_lives #[] w fun r_ w3 => ∃ t210_x2 : Bool, r_ = .returned (.bool t210_x2) ∧ 
  R (.returned (.bool t210_x2)) w3) (R (.returned (.bool false)) w)))) (R (.returned (.bool false)) w)) (R (.returned (.bool false)) w)) (R (.returned (.bool false)) w)) (R (.returned (.bool false)) w)) (sel (and22 == false) (sel (not24 == (!x16)) (sel (led30 == y18) (sel (!other32) (sel (k29 != 0) (Calls Try.prog n_enthymemelaw04_lives #[] w fun r_ w4 => ∃ t210_x3 : Bool, r_ = .returned (.bool t210_x3) ∧ 
  R (.returned (.bool t210_x3)) w4) (sel (s11.toList == (ByteArray.mk #[]).toList) (sel (is26 == true) (Calls Try.prog n_enthymemelaw04_lives #[] w fun r_ w5 => ∃ t210_x4 : Bool, r_ = .returned (.bool t210_x4) ∧ 
  R (.returned (.bool t210_x4)) w5) (R (.returned (.bool false)) w)) (sel (is26 == more28) (Calls Try.prog n_enthymemelaw04_lives #[] w fun r_ w6 => ∃ t210_x5 : Bool, r_ = .returned (.bool t210_x5) ∧ 
  R (.returned (.bool t210_x5)) w6) (R (.returned (.bool false)) w)))) (R (.returned (.bool false)) w)) (R (.returned (.bool false)) w)) (R (.returned (.bool false)) w)) (R (.returned (.bool false)) w))) (R (.returned (.bool false)) w)) (sel (or20 == y18) (sel x16 (sel (and22 == y18) (sel (not24 == (!x16)) (sel (led30 == y18) (sel (!other32) (sel (k29 != 0) (Calls Try.prog n_enthymemelaw04_lives #[] w fun r_ w7 => ∃ t210_x6 : Bool, r_ = .returned (.bool t210_x6) ∧ 
  R (.returned (.bool t210_x6)) w7) (sel (s11.toList == (ByteArray.mk #[]).toList) (sel (is26 == true) (Calls Try.prog n_enthymemelaw04_lives #[] w fun r_ w8 => ∃ t210_x7 : Bool, r_ = .returned (.bool t210_x7) ∧ 
  R (.returned (.bool t210_x7)) w8) (R (.returned (.bool false)) w)) (sel (is26 == more28) (Calls Try.prog n_enthymemelaw04_lives #[] w fun r_ w9 => ∃ t210_x8 : Bool, r_ = .returned (.bool t210_x8) ∧ 
  R (.returned (.bool t210_x8)) w9) (R (.returned (.bool false)) w)))) (R (.returned (.bool false)) w)) (R (.returned (.bool false)) w)) (R (.returned (.bool false)) w)) (R (.returned (.bool false)) w)) (sel (and22 == false) (sel (not24 == (!x16)) (sel (led30 == y18) (sel (!other32) (sel (k29 != 0) (Calls Try.prog n_enthymemelaw04_lives #[] w fun r_ w10 => ∃ t210_x9 : Bool, r_ = .returned (.bool t210_x9) ∧ 
  R (.returned (.bool t210_x9)) w10) (sel (s11.toList == (ByteArray.mk #[]).toList) (sel (is26 == true) (Calls Try.prog n_enthymemelaw04_lives #[] w fun r_ w11 => ∃ t210_x10 : Bool, r_ = .returned (.bool t210_x10) ∧ 
  R (.returned (.bool t210_x10)) w11) (R (.returned (.bool false)) w)) (sel (is26 == more28) (Calls Try.prog n_enthymemelaw04_lives #[] w fun r_ w12 => ∃ t210_x11 : Bool, r_ = .returned (.bool t210_x11) ∧ 
  R (.returned (.bool t210_x11)) w12) (R (.returned (.bool false)) w)))) (R (.returned (.bool false)) w)) (R (.returned (.bool false)) w)) (R (.returned (.bool false)) w)) (R (.returned (.bool false)) w))) (R (.returned (.bool false)) w))
def KE_S3 (E : Env) (w : World) (R : Post) : Prop := W.asStr (Env.get? E 11) fun s11 => W.asBool' (Env.get? E 16) fun x16 => W.asBool' (Env.get? E 18) fun y18 => W.asBool' (Env.get? E 20) fun or20 => W.asBool' (Env.get? E 22) fun and22 => W.asBool' (Env.get? E 24) fun not24 => W.asBool' (Env.get? E 26) fun is26 => W.asBool' (Env.get? E 28) fun more28 => W.asInt .i64 (Env.get? E 29) fun k29 => W.asBool' (Env.get? E 30) fun led30 => W.asBool' (Env.get? E 32) fun other32 => S3 s11 x16 y18 or20 and22 not24 is26 more28 k29 led30 other32 w R
theorem KE_S3_ok (R : Post) (E : Env) (w : World) (h : KE_S3 E w R) : WP Try.prog (cx 212) C28 (Q4 R) E w := by
  obtain ⟨s11, hq11, h_1⟩ := W.asStr_elim h
  obtain ⟨x16, hq16, h_2⟩ := W.asBool_elim h_1
  obtain ⟨y18, hq18, h_3⟩ := W.asBool_elim h_2
  obtain ⟨or20, hq20, h_4⟩ := W.asBool_elim h_3
  obtain ⟨and22, hq22, h_5⟩ := W.asBool_elim h_4
  obtain ⟨not24, hq24, h_6⟩ := W.asBool_elim h_5
  obtain ⟨is26, hq26, h_7⟩ := W.asBool_elim h_6
  obtain ⟨more28, hq28, h_8⟩ := W.asBool_elim h_7
  obtain ⟨k29, hq29, h_9⟩ := W.asInt_elim h_8
  obtain ⟨led30, hq30, h_10⟩ := W.asBool_elim h_9
  obtain ⟨other32, hq32, h_11⟩ := W.asBool_elim h_10
  exact fun a ha => WP.at (E := [(11, .string s11), (16, .bool x16), (18, .bool y18), (20, .bool or20), (22, .bool and22), (24, .bool not24), (26, .bool is26), (28, .bool more28), (29, .i k29), (30, .bool led30), (32, .bool other32)]) (sr C28 (K := fun E w => retVC Try.prog Try.f4 E w (fun v => R (.returned v) w)) (Eq.mp (by kernel_rfl) h_11) fun _ _ hK => (rt C29 fun a hA => retVC_sound hA hK)) (ha.cons hq11 (ha.cons hq16 (ha.cons hq18 (ha.cons hq20 (ha.cons hq22 (ha.cons hq24 (ha.cons hq26 (ha.cons hq28 (ha.cons hq29 (ha.cons hq30 (ha.cons hq32 ha.nil)))))))))))
noncomputable def C30:=C26.fs
noncomputable def C31:=C26.sn
noncomputable def C32:=C31.fs
noncomputable def C33:=C32.fs
noncomputable def C34:=C33.sn
noncomputable def C35:=C34.fs
noncomputable def C36:=C31.sn
noncomputable def C37:=C27.fs
noncomputable def C38:=C37.sn
noncomputable def C39:=C38.fs
noncomputable def C40:=C30.sn
noncomputable def C41:=C40.fs
noncomputable def C42:=C35.sn
noncomputable def C43:=C34.sn
noncomputable def C44:=C40.sn
noncomputable def C45:=C39.sn
noncomputable def C46:=C38.sn
theorem L2_step (s11 : ByteArray) (x16 y18 or20 and22 not24 is26 more28 : Bool) (k29 : Int) (led30 other32 : Bool) (errors34 : Sl) (q35 : Int) (w : World) (R : Post) (h : sel (decide (q35 < ((errors34.n : Nat) : Int))) ((0 : Int) ≤ q35 ∧ q35 < ((errors34.n : Nat) : Int) ∧ optP errors34.a fun t158_p => ∃ t159 : Int, w.cell? (t158_p.add (Int.toNat q35 * 1)) = some (.i t159) ∧ 
  sel (t159 != 0) (R (.returned (.bool false)) w) (L2 s11 x16 y18 or20 and22 not24 is26 more28 k29 led30 other32 errors34 (IntKind.wrap .i64 (q35 + 1)) w R)) (sel (k29 != 0) (sel (k29 != 4) (R (.returned (.bool false)) w) (S3 s11 x16 y18 or20 and22 not24 is26 more28 k29 led30 other32 w R)) (S3 s11 x16 y18 or20 and22 not24 is26 more28 k29 led30 other32 w R))) : L2 s11 x16 y18 or20 and22 not24 is26 more28 k29 led30 other32 errors34 q35 w R :=
  LP.step (n := (cx 212)) (c := C26) (E := [(11, .string s11), (16, .bool x16), (18, .bool y18), (20, .bool or20), (22, .bool and22), (24, .bool not24), (26, .bool is26), (28, .bool more28), (29, .i k29), (30, .bool led30), (32, .bool other32), (34, errors34.v), (35, .i q35)]) (w := w) (sq C26 (sr C30 (show (fun (E : Env) (w : World) => srK Try.prog C30 (fun E w => condK (Env.val E (.tmp 153)) (srK Try.prog C33 (fun E w => condK (Env.val E (.tmp 160)) (srK Try.prog C35 (fun E w => retVC Try.prog Try.f4 E w (fun v => R (.returned v) w)) E w) (rgK Try.prog C36 (fun E w => KE_L2 E w R) E w)) E w) (srK Try.prog C37 (fun E w => condK (Env.val E (.tmp 166)) (srK Try.prog C39 (fun E w => retVC Try.prog Try.f4 E w (fun v => R (.returned v) w)) E w) (KE_S3 E w R)) E w)) E w) [(11, .string s11), (16, .bool x16), (18, .bool y18), (20, .bool or20), (22, .bool and22), (24, .bool not24), (26, .bool is26), (28, .bool more28), (29, .i k29), (30, .bool led30), (32, .bool other32), (34, errors34.v), (35, .i q35)] w from Eq.mp (by kernel_rfl) h) fun _ _ hK => (cn C40 hK (fun hK => (sk C41 fun a hA => nx hA (sq C31 (bk C32 3 (by kernel_rfl) (sr C33 hK fun _ _ hK => (cn C34 hK (fun hK => (sr C35 hK fun _ _ hK => (rt C42 fun a hA => retVC_sound hA hK))) (fun hK => (sk C43 fun a hA => nx hA (rg C36 (by kernel_rfl) hK fun _ _ a hA hK => KE_L2_ok R _ _ hK a hA))))))))) (fun hK => (xt C44 2 (by kernel_rfl) fun a hA => nx hA (sq C27 (sr C37 hK fun _ _ hK => (cn C38 hK (fun hK => (sr C39 hK fun _ _ hK => (rt C45 fun a hA => retVC_sound hA hK))) (fun hK => (sk C46 fun a hA => nx hA (KE_S3_ok R _ _ hK)))))))))))
/-- law.go:129 -/
abbrev S1 (c3 : Int) (a9 b10 : Addr) (s11 : ByteArray) (w : World) (R : Post) : Prop :=
  ∃ t59_0 : Int, ∃ t59_1 : Int, ∃ t59_2 : Int, ∃ t59_3 : Sl, w.cell? (a9.add 0) = some (.i t59_0) ∧ w.cell? (a9.add 1) = some (.int .u8 t59_1) ∧ w.cell? (a9.add 2) = some (.int .u8 t59_2) ∧ w.cell? (a9.add 3) = some (t59_3.v) ∧ 
  nwV w (.cells #[.i t59_0, .int .u8 t59_1, .int .u8 t59_2, t59_3.v] ty_regex_Regex) fun w1 => 
  nwV w1 (.cells #[.i 0, .int .u8 0, .int .u8 0, .slice none 0 0] ty_regex_Regex) fun w2 => 
  stV w2 (nb w1) (.i 7) fun w3 => 
  stV w3 ((nb w1).add 1) (.int .u8 0) fun w4 => 
  stV w4 ((nb w1).add 2) (.int .u8 0) fun w5 => 
  stV w5 ((nb w1).add 3) (.slice (some (nb w)) 1 1) fun w6 => 
  ∃ t65_0 : Int, ∃ t65_1 : Int, ∃ t65_2 : Int, ∃ t65_3 : Sl, w6.cell? (b10.add 0) = some (.i t65_0) ∧ w6.cell? (b10.add 1) = some (.int .u8 t65_1) ∧ w6.cell? (b10.add 2) = some (.int .u8 t65_2) ∧ w6.cell? (b10.add 3) = some (t65_3.v) ∧ 
  nwV w6 (.cells #[.i 2, .int .u8 c3, .int .u8 c3, .slice none 0 0, .i t65_0, .int .u8 t65_1, .int .u8 t65_2, t65_3.v] ty_regex_Regex) fun w7 => 
  nwV w7 (.cells #[.i 0, .int .u8 0, .int .u8 0, .slice none 0 0] ty_regex_Regex) fun w8 => 
  stV w8 (nb w7) (.i 3) fun w9 => 
  stV w9 ((nb w7).add 1) (.int .u8 0) fun w10 => 
  stV w10 ((nb w7).add 2) (.int .u8 0) fun w11 => 
  stV w11 ((nb w7).add 3) (.slice (some (nb w6)) 2 2) fun w12 => 
  ∃ t68_0 : Int, ∃ t68_1 : Int, ∃ t68_2 : Int, ∃ t68_3 : Sl, w12.cell? (a9.add 0) = some (.i t68_0) ∧ w12.cell? (a9.add 1) = some (.int .u8 t68_1) ∧ w12.cell? (a9.add 2) = some (.int .u8 t68_2) ∧ w12.cell? (a9.add 3) = some (t68_3.v) ∧ 
  ∃ t69_0 : Int, ∃ t69_1 : Int, ∃ t69_2 : Int, ∃ t69_3 : Sl, w12.cell? (b10.add 0) = some (.i t69_0) ∧ w12.cell? (b10.add 1) = some (.int .u8 t69_1) ∧ w12.cell? (b10.add 2) = some (.int .u8 t69_2) ∧ w12.cell? (b10.add 3) = some (t69_3.v) ∧ 
  nwV w12 (.cells #[.i t68_0, .int .u8 t68_1, .int .u8 t68_2, t68_3.v, .i t69_0, .int .u8 t69_1, .int .u8 t69_2, t69_3.v] ty_regex_Regex) fun w13 => 
  ∃ t72_0 : Int, ∃ t72_1 : Int, ∃ t72_2 : Int, ∃ t72_3 : Sl, w13.cell? (a9.add 0) = some (.i t72_0) ∧ w13.cell? (a9.add 1) = some (.int .u8 t72_1) ∧ w13.cell? (a9.add 2) = some (.int .u8 t72_2) ∧ w13.cell? (a9.add 3) = some (t72_3.v) ∧ 
  Calls Try.prog n_regex_Match #[.agg #[.i t72_0, .int .u8 t72_1, .int .u8 t72_2, t72_3.v], .string s11] w13 fun r_ w14 => ∃ t74_0 : Bool, ∃ t74_1 : Int, r_ = .returned (.tuple #[.bool t74_0, .i t74_1]) ∧ 
  ∃ t78_0 : Int, ∃ t78_1 : Int, ∃ t78_2 : Int, ∃ t78_3 : Sl, w14.cell? (b10.add 0) = some (.i t78_0) ∧ w14.cell? (b10.add 1) = some (.int .u8 t78_1) ∧ w14.cell? (b10.add 2) = some (.int .u8 t78_2) ∧ w14.cell? (b10.add 3) = some (t78_3.v) ∧ 
  Calls Try.prog n_regex_Match #[.agg #[.i t78_0, .int .u8 t78_1, .int .u8 t78_2, t78_3.v], .string s11] w14 fun r_ w15 => ∃ t80_0 : Bool, ∃ t80_1 : Int, r_ = .returned (.tuple #[.bool t80_0, .i t80_1]) ∧ 
  Calls Try.prog n_regex_Match #[.agg #[.i 4, .int .u8 0, .int .u8 0, .slice (some (nb w12)) 2 2], .string s11] w15 fun r_ w16 => ∃ t87_0 : Bool, ∃ t87_1 : Int, r_ = .returned (.tuple #[.bool t87_0, .i t87_1]) ∧ 
  Calls Try.prog n_regex_Match #[.agg #[.i 5, .int .u8 0, .int .u8 0, .slice (some (nb w12)) 2 2], .string s11] w16 fun r_ w17 => ∃ t94_0 : Bool, ∃ t94_1 : Int, r_ = .returned (.tuple #[.bool t94_0, .i t94_1]) ∧ 
  (0 : Int) ≤ 1 ∧ 1 ≤ ((2 : Nat) : Int) ∧ Calls Try.prog n_regex_Match #[.agg #[.i 6, .int .u8 0, .int .u8 0, .slice (if 2 = 0 then some (nb w12) else (some (nb w12)).map (·.add (0 * 4))) ((Int.toNat 1) - 0) (2 - 0)], .string s11] w17 fun r_ w18 => ∃ t102_0 : Bool, ∃ t102_1 : Int, r_ = .returned (.tuple #[.bool t102_0, .i t102_1]) ∧ 
  ∃ t106_0 : Int, ∃ t106_1 : Int, ∃ t106_2 : Int, ∃ t106_3 : Sl, w18.cell? ((nb w1).add 0) = some (.i t106_0) ∧ w18.cell? ((nb w1).add 1) = some (.int .u8 t106_1) ∧ w18.cell? ((nb w1).add 2) = some (.int .u8 t106_2) ∧ w18.cell? ((nb w1).add 3) = some (t106_3.v) ∧ 
  Calls Try.prog n_regex_Match #[.agg #[.i t106_0, .int .u8 t106_1, .int .u8 t106_2, t106_3.v], .string s11] w18 fun r_ w19 => ∃ t108_0 : Bool, ∃ t108_1 : Int, r_ = .returned (.tuple #[.bool t108_0, .i t108_1]) ∧ 
  ∃ t112_0 : Int, ∃ t112_1 : Int, ∃ t112_2 : Int, ∃ t112_3 : Sl, w19.cell? (a9.add 0) = some (.i t112_0) ∧ w19.cell? (a9.add 1) = some (.int .u8 t112_1) ∧ w19.cell? (a9.add 2) = some (.int .u8 t112_2) ∧ w19.cell? (a9.add 3) = some (t112_3.v) ∧ 
  ∃ t113_0 : Int, ∃ t113_1 : Int, ∃ t113_2 : Int, ∃ t113_3 : Sl, w19.cell? ((nb w1).add 0) = some (.i t113_0) ∧ w19.cell? ((nb w1).add 1) = some (.int .u8 t113_1) ∧ w19.cell? ((nb w1).add 2) = some (.int .u8 t113_2) ∧ w19.cell? ((nb w1).add 3) = some (t113_3.v) ∧ 
  nwV w19 (.cells #[.i t112_0, .int .u8 t112_1, .int .u8 t112_2, t112_3.v, .i t113_0, .int .u8 t113_1, .int .u8 t113_2, t113_3.v] ty_regex_Regex) fun w20 => 
  Calls Try.prog n_regex_Match #[.agg #[.i 3, .int .u8 0, .int .u8 0, .slice (some (nb w19)) 2 2], .string s11] w20 fun r_ w21 => ∃ t117_0 : Bool, ∃ t117_1 : Int, r_ = .returned (.tuple #[.bool t117_0, .i t117_1]) ∧ 
  ∃ t121_0 : Int, ∃ t121_1 : Int, ∃ t121_2 : Int, ∃ t121_3 : Sl, w21.cell? ((nb w7).add 0) = some (.i t121_0) ∧ w21.cell? ((nb w7).add 1) = some (.int .u8 t121_1) ∧ w21.cell? ((nb w7).add 2) = some (.int .u8 t121_2) ∧ w21.cell? ((nb w7).add 3) = some (t121_3.v) ∧ 
  nwV w21 (.cells #[.int .u8 c3] ty_uint8) fun w22 => 
  ∃ t124 : ByteArray, Sem.run Try.prog (Go.convert ty_sl_uint8 ty_string (.slice (some (nb w21)) 1 1)) w22 = .ok (.string t124) w22 ∧ ¬ (((t124.size + s11.size : Nat) : Int) > IntKind.i64.max) ∧ Calls Try.prog n_regex_Match #[.agg #[.i t121_0, .int .u8 t121_1, .int .u8 t121_2, t121_3.v], .string (t124 ++ s11)] w22 fun r_ w23 => ∃ t127_0 : Bool, ∃ t127_1 : Int, r_ = .returned (.tuple #[.bool t127_0, .i t127_1]) ∧ 
  ∃ t131_0 : Int, ∃ t131_1 : Int, ∃ t131_2 : Int, ∃ t131_3 : Sl, w23.cell? ((nb w7).add 0) = some (.i t131_0) ∧ w23.cell? ((nb w7).add 1) = some (.int .u8 t131_1) ∧ w23.cell? ((nb w7).add 2) = some (.int .u8 t131_2) ∧ w23.cell? ((nb w7).add 3) = some (t131_3.v) ∧ 
  nwV w23 (.cells #[.int .u8 (IntKind.wrap .u8 (c3 + 1))] ty_uint8) fun w24 => 
  ∃ t135 : ByteArray, Sem.run Try.prog (Go.convert ty_sl_uint8 ty_string (.slice (some (nb w23)) 1 1)) w24 = .ok (.string t135) w24 ∧ ¬ (((t135.size + s11.size : Nat) : Int) > IntKind.i64.max) ∧ Calls Try.prog n_regex_Match #[.agg #[.i t131_0, .int .u8 t131_1, .int .u8 t131_2, t131_3.v], .string (t135 ++ s11)] w24 fun r_ w25 => ∃ t138_0 : Bool, ∃ t138_1 : Int, r_ = .returned (.tuple #[.bool t138_0, .i t138_1]) ∧ 
  nwV w25 (.cells #[.i t74_1, .i t80_1, .i t87_1, .i t94_1, .i t102_1, .i t108_1, .i t127_1, .i t138_1] ty_api_Errno) fun w26 => 
  L2 s11 t74_0 t80_0 t87_0 t94_0 t102_0 t108_0 t117_0 t117_1 t127_0 t138_0 ⟨some (nb w25), 8, 8⟩ 0 w26 R
def KE_S1 (E : Env) (w : World) (R : Post) : Prop := W.asInt .u8 (Env.get? E 3) fun c3 => W.asRef (Env.get? E 9) fun a9 => W.asRef (Env.get? E 10) fun b10 => W.asStr (Env.get? E 11) fun s11 => S1 c3 a9 b10 s11 w R
theorem KE_S1_ok (R : Post) (E : Env) (w : World) (h : KE_S1 E w R) : WP Try.prog (cx 212) C9 (Q4 R) E w := by
  obtain ⟨c3, hq3, h_1⟩ := W.asInt_elim h
  obtain ⟨a9, hq9, h_2⟩ := W.asRef_elim h_1
  obtain ⟨b10, hq10, h_3⟩ := W.asRef_elim h_2
  obtain ⟨s11, hq11, h_4⟩ := W.asStr_elim h_3
  exact fun a ha => WP.at (E := [(3, .int .u8 c3), (9, .pointer (some a9)), (10, .pointer (some b10)), (11, .string s11)]) (sr C9 (K := fun E w => srK Try.prog C10 (fun E w => srK Try.prog C11 (fun E w => srK Try.prog C12 (fun E w => srK Try.prog C13 (fun E w => srK Try.prog C14 (fun E w => srK Try.prog C15 (fun E w => srK Try.prog C16 (fun E w => srK Try.prog C17 (fun E w => srK Try.prog C18 (fun E w => srK Try.prog C19 (fun E w => srK Try.prog C20 (fun E w => srK Try.prog C21 (fun E w => srK Try.prog C23 (fun E w => KE_L2 E w R) E w) E w) E w) E w) E w) E w) E w) E w) E w) E w) E w) E w) E w) (Eq.mp (by kernel_rfl) h_4) fun _ _ hK => (sr C10 hK fun _ _ hK => (sr C11 hK fun _ _ hK => (sr C12 hK fun _ _ hK => (sr C13 hK fun _ _ hK => (sr C14 hK fun _ _ hK => (sr C15 hK fun _ _ hK => (sr C16 hK fun _ _ hK => (sr C17 hK fun _ _ hK => (sr C18 hK fun _ _ hK => (sr C19 hK fun _ _ hK => (sr C20 hK fun _ _ hK => (sr C21 hK fun _ _ hK => (sq C22 (sr C23 hK fun _ _ hK => (bk C24 2 (by kernel_rfl) (lp C25 (by kernel_rfl) (KE_L2_ok R _ _ hK)))))))))))))))))) (ha.cons hq3 (ha.cons hq9 (ha.cons hq10 (ha.cons hq11 ha.nil))))
noncomputable def C47:=C8.fs
noncomputable def C48:=C8.sn
noncomputable def C49:=C48.fs
noncomputable def C50:=C49.fs
noncomputable def C51:=C48.sn
noncomputable def C52:=C47.sn
noncomputable def C53:=C52.fs
noncomputable def C54:=C52.sn
theorem L0_step (words2 : Sl) (c3 : Int) (a9 b10 : Addr) (s11 : ByteArray) (i12 : Int) (w : World) (R : Post) (h : sel (decide (i12 < ((words2.n : Nat) : Int))) (sel (decide (i12 < 12)) ((0 : Int) ≤ i12 ∧ i12 < ((words2.n : Nat) : Int) ∧ optP words2.a fun t55_p => ∃ t56 : Int, w.cell? (t55_p.add (Int.toNat i12 * 1)) = some (.i t56) ∧ 
  Calls Try.prog n_enthymemeref04_Word #[.i t56] w fun r_ w15 => ∃ t57 : ByteArray, r_ = .returned (.string t57) ∧ 
  ¬ (((s11.size + t57.size : Nat) : Int) > IntKind.i64.max) ∧ L0 words2 c3 a9 b10 (s11 ++ t57) (IntKind.wrap .i64 (i12 + 1)) w15 R) (S1 c3 a9 b10 s11 w R)) (S1 c3 a9 b10 s11 w R)) : L0 words2 c3 a9 b10 s11 i12 w R :=
  LP.step (n := (cx 212)) (c := C8) (E := [(2, words2.v), (3, .int .u8 c3), (9, .pointer (some a9)), (10, .pointer (some b10)), (11, .string s11), (12, .i i12)]) (w := w) (sq C8 (sr C47 (show (fun (E : Env) (w : World) => srK Try.prog C47 (fun E w => condK (Env.val E (.tmp 49)) (rgK Try.prog C50 (fun E w => rgK Try.prog C51 (fun E w => KE_L0 E w R) E w) E w) (KE_S1 E w R)) E w) [(2, words2.v), (3, .int .u8 c3), (9, .pointer (some a9)), (10, .pointer (some b10)), (11, .string s11), (12, .i i12)] w from Eq.mp (by kernel_rfl) h) fun _ _ hK => (cn C52 hK (fun hK => (sk C53 fun a hA => nx hA (sq C48 (bk C49 1 (by kernel_rfl) (rg C50 (by kernel_rfl) hK fun _ _ a hA hK => nx hA (rg C51 (by kernel_rfl) hK fun _ _ a hA hK => KE_L0_ok R _ _ hK a hA)))))) (fun hK => (xt C54 0 (by kernel_rfl) fun a hA => nx hA (KE_S1_ok R _ _ hK))))))
/-- enthymeme/enthymemelaw04.RegexSets -/
theorem ok (l0 m1 words2 : Sl) (c3 : Int) (w : World) (R : Post) (h : Calls Try.prog n_enthymemeref04_Made #[l0.v] w fun r_ w1 => ∃ t37_0 : Int, ∃ t37_1 : Int, ∃ t37_2 : Int, ∃ t37_3 : Sl, r_ = .returned (.agg #[.i t37_0, .int .u8 t37_1, .int .u8 t37_2, t37_3.v]) ∧ 
  Calls Try.prog n_enthymemelaw04_own #[.agg #[.i t37_0, .int .u8 t37_1, .int .u8 t37_2, t37_3.v]] w1 fun r_ w2 => ∃ t38_0 : Int, ∃ t38_1 : Int, ∃ t38_2 : Int, ∃ t38_3 : Sl, r_ = .returned (.agg #[.i t38_0, .int .u8 t38_1, .int .u8 t38_2, t38_3.v]) ∧ 
  nwV w2 (.cells #[.i 0, .int .u8 0, .int .u8 0, .slice none 0 0] ty_regex_Regex) fun w3 => 
  stV w3 (nb w2) (.i t38_0) fun w4 => 
  stV w4 ((nb w2).add 1) (.int .u8 t38_1) fun w5 => 
  stV w5 ((nb w2).add 2) (.int .u8 t38_2) fun w6 => 
  stV w6 ((nb w2).add 3) (t38_3.v) fun w7 => 
  Calls Try.prog n_enthymemeref04_Made #[m1.v] w7 fun r_ w8 => ∃ t40_0 : Int, ∃ t40_1 : Int, ∃ t40_2 : Int, ∃ t40_3 : Sl, r_ = .returned (.agg #[.i t40_0, .int .u8 t40_1, .int .u8 t40_2, t40_3.v]) ∧ 
  Calls Try.prog n_enthymemelaw04_own #[.agg #[.i t40_0, .int .u8 t40_1, .int .u8 t40_2, t40_3.v]] w8 fun r_ w9 => ∃ t41_0 : Int, ∃ t41_1 : Int, ∃ t41_2 : Int, ∃ t41_3 : Sl, r_ = .returned (.agg #[.i t41_0, .int .u8 t41_1, .int .u8 t41_2, t41_3.v]) ∧ 
  nwV w9 (.cells #[.i 0, .int .u8 0, .int .u8 0, .slice none 0 0] ty_regex_Regex) fun w10 => 
  stV w10 (nb w9) (.i t41_0) fun w11 => 
  stV w11 ((nb w9).add 1) (.int .u8 t41_1) fun w12 => 
  stV w12 ((nb w9).add 2) (.int .u8 t41_2) fun w13 => 
  stV w13 ((nb w9).add 3) (t41_3.v) fun w14 => 
  L0 words2 c3 (nb w2) (nb w9) (ByteArray.mk #[]) 0 w14 R) : Calls Try.prog n_enthymemelaw04_RegexSets #[l0.v, m1.v, words2.v, .int .u8 c3] w R :=
  calls_of_WP' (R := R) (fn := Try.f4) (c := C0) (args := [l0.v, m1.v, words2.v, .int .u8 c3]) (by kernel_rfl) (by kernel_rfl) (by kernel_rfl) (sr C0 (show (fun (E : Env) (w : World) => srK Try.prog C0 (fun E w => srK Try.prog C1 (fun E w => srK Try.prog C2 (fun E w => srK Try.prog C3 (fun E w => srK Try.prog C5 (fun E w => KE_L0 E w R) E w) E w) E w) E w) E w) (envOf 0 [l0.v, m1.v, words2.v, .int .u8 c3]) w from Eq.mp (by kernel_rfl) h) fun _ _ hK => (sr C1 hK fun _ _ hK => (sr C2 hK fun _ _ hK => (sr C3 hK fun _ _ hK => (sq C4 (sr C5 hK fun _ _ hK => (bk C6 0 (by kernel_rfl) (lp C7 (by kernel_rfl) (KE_L0_ok R _ _ hK)))))))))
def L0T (words2 : Sl) (c3 : Int) (a9 : Nat) (a9_0 a9_1 a9_2 : Int) (a9_3 : Sl) (b10 : Nat) (b10_0 b10_1 b10_2 : Int) (b10_3 : Sl) (s11 : ByteArray) (i12 : Int) (w : World) (R : Post) : Prop := LC w [(a9, [.i a9_0, .int .u8 a9_1, .int .u8 a9_2, a9_3.v], ty_regex_Regex), (b10, [.i b10_0, .int .u8 b10_1, .int .u8 b10_2, b10_3.v], ty_regex_Regex)] → L0 words2 c3 (at0 a9) (at0 b10) s11 i12 w R
def L2T (s11 : ByteArray) (x16 y18 or20 and22 not24 is26 more28 : Bool) (k29 : Int) (led30 other32 : Bool) (errors34 : Sl) (q35 : Int) (w : World) (R : Post) : Prop := LC w [] → L2 s11 x16 y18 or20 and22 not24 is26 more28 k29 led30 other32 errors34 q35 w R
abbrev S3T (s11 : ByteArray) (x16 y18 or20 and22 not24 is26 more28 : Bool) (k29 : Int) (led30 other32 : Bool) (w : World) (R : Post) : Prop :=
  sel x16 (sel (or20 == true) (sel x16 (sel (and22 == y18) (sel (not24 == (!x16)) (sel (led30 == y18) (sel (!other32) (sel (k29 != 0) (Calls Try.prog n_enthymemelaw04_lives #[] w fun r_ w1 => ∃ t210 : Bool, r_ = .returned (.bool t210) ∧ 
  R (.returned (.bool t210)) w1) (sel (s11.toList == (ByteArray.mk #[]).toList) (sel (is26 == true) (Calls Try.prog n_enthymemelaw04_lives #[] w fun r_ w2 => ∃ t210_x1 : Bool, r_ = .returned (.bool t210_x1) ∧ 
  R (.returned (.bool t210_x1)) w2) (R (.returned (.bool false)) w)) (sel (is26 == more28) (Calls Try.prog n_enthymemelaw04_lives #[] w fun r_ w3 => ∃ t210_x2 : Bool, r_ = .returned (.bool t210_x2) ∧ 
  R (.returned (.bool t210_x2)) w3) (R (.returned (.bool false)) w)))) (R (.returned (.bool false)) w)) (R (.returned (.bool false)) w)) (R (.returned (.bool false)) w)) (R (.returned (.bool false)) w)) (sel (and22 == false) (sel (not24 == (!x16)) (sel (led30 == y18) (sel (!other32) (sel (k29 != 0) (Calls Try.prog n_enthymemelaw04_lives #[] w fun r_ w4 => ∃ t210_x3 : Bool, r_ = .returned (.bool t210_x3) ∧ 
  R (.returned (.bool t210_x3)) w4) (sel (s11.toList == (ByteArray.mk #[]).toList) (sel (is26 == true) (Calls Try.prog n_enthymemelaw04_lives #[] w fun r_ w5 => ∃ t210_x4 : Bool, r_ = .returned (.bool t210_x4) ∧ 
  R (.returned (.bool t210_x4)) w5) (R (.returned (.bool false)) w)) (sel (is26 == more28) (Calls Try.prog n_enthymemelaw04_lives #[] w fun r_ w6 => ∃ t210_x5 : Bool, r_ = .returned (.bool t210_x5) ∧ 
  R (.returned (.bool t210_x5)) w6) (R (.returned (.bool false)) w)))) (R (.returned (.bool false)) w)) (R (.returned (.bool false)) w)) (R (.returned (.bool false)) w)) (R (.returned (.bool false)) w))) (R (.returned (.bool false)) w)) (sel (or20 == y18) (sel x16 (sel (and22 == y18) (sel (not24 == (!x16)) (sel (led30 == y18) (sel (!other32) (sel (k29 != 0) (Calls Try.prog n_enthymemelaw04_lives #[] w fun r_ w7 => ∃ t210_x6 : Bool, r_ = .returned (.bool t210_x6) ∧ 
  R (.returned (.bool t210_x6)) w7) (sel (s11.toList == (ByteArray.mk #[]).toList) (sel (is26 == true) (Calls Try.prog n_enthymemelaw04_lives #[] w fun r_ w8 => ∃ t210_x7 : Bool, r_ = .returned (.bool t210_x7) ∧ 
  R (.returned (.bool t210_x7)) w8) (R (.returned (.bool false)) w)) (sel (is26 == more28) (Calls Try.prog n_enthymemelaw04_lives #[] w fun r_ w9 => ∃ t210_x8 : Bool, r_ = .returned (.bool t210_x8) ∧ 
  R (.returned (.bool t210_x8)) w9) (R (.returned (.bool false)) w)))) (R (.returned (.bool false)) w)) (R (.returned (.bool false)) w)) (R (.returned (.bool false)) w)) (R (.returned (.bool false)) w)) (sel (and22 == false) (sel (not24 == (!x16)) (sel (led30 == y18) (sel (!other32) (sel (k29 != 0) (Calls Try.prog n_enthymemelaw04_lives #[] w fun r_ w10 => ∃ t210_x9 : Bool, r_ = .returned (.bool t210_x9) ∧ 
  R (.returned (.bool t210_x9)) w10) (sel (s11.toList == (ByteArray.mk #[]).toList) (sel (is26 == true) (Calls Try.prog n_enthymemelaw04_lives #[] w fun r_ w11 => ∃ t210_x10 : Bool, r_ = .returned (.bool t210_x10) ∧ 
  R (.returned (.bool t210_x10)) w11) (R (.returned (.bool false)) w)) (sel (is26 == more28) (Calls Try.prog n_enthymemelaw04_lives #[] w fun r_ w12 => ∃ t210_x11 : Bool, r_ = .returned (.bool t210_x11) ∧ 
  R (.returned (.bool t210_x11)) w12) (R (.returned (.bool false)) w)))) (R (.returned (.bool false)) w)) (R (.returned (.bool false)) w)) (R (.returned (.bool false)) w)) (R (.returned (.bool false)) w))) (R (.returned (.bool false)) w))
theorem S3T_ok {s11 : ByteArray} {x16 y18 or20 and22 not24 is26 more28 : Bool} {k29 : Int} {led30 other32 : Bool} {w : World} {R : Post} (h : S3T s11 x16 y18 or20 and22 not24 is26 more28 k29 led30 other32 w R) (H : LC w []) : S3 s11 x16 y18 or20 and22 not24 is26 more28 k29 led30 other32 w R := sel_imp h (fun h => sel_imp h (fun h => sel_imp h (fun h => sel_imp h (fun h => sel_imp h (fun h => sel_imp h (fun h => sel_imp h (fun h => sel_imp h (fun h => Calls.mono h fun r_ w1 h => let ⟨t210, hr, h⟩ := h; ⟨t210, hr, h⟩) (fun h => sel_imp h (fun h => sel_imp h (fun h => Calls.mono h fun r_ w2 h => let ⟨t210_x1, hr, h⟩ := h; ⟨t210_x1, hr, h⟩) (fun h => h)) (fun h => sel_imp h (fun h => Calls.mono h fun r_ w3 h => let ⟨t210_x2, hr, h⟩ := h; ⟨t210_x2, hr, h⟩) (fun h => h)))) (fun h => h)) (fun h => h)) (fun h => h)) (fun h => h)) (fun h => sel_imp h (fun h => sel_imp h (fun h => sel_imp h (fun h => sel_imp h (fun h => sel_imp h (fun h => Calls.mono h fun r_ w4 h => let ⟨t210_x3, hr, h⟩ := h; ⟨t210_x3, hr, h⟩) (fun h => sel_imp h (fun h => sel_imp h (fun h => Calls.mono h fun r_ w5 h => let ⟨t210_x4, hr, h⟩ := h; ⟨t210_x4, hr, h⟩) (fun h => h)) (fun h => sel_imp h (fun h => Calls.mono h fun r_ w6 h => let ⟨t210_x5, hr, h⟩ := h; ⟨t210_x5, hr, h⟩) (fun h => h)))) (fun h => h)) (fun h => h)) (fun h => h)) (fun h => h))) (fun h => h)) (fun h => sel_imp h (fun h => sel_imp h (fun h => sel_imp h (fun h => sel_imp h (fun h => sel_imp h (fun h => sel_imp h (fun h => sel_imp h (fun h => Calls.mono h fun r_ w7 h => let ⟨t210_x6, hr, h⟩ := h; ⟨t210_x6, hr, h⟩) (fun h => sel_imp h (fun h => sel_imp h (fun h => Calls.mono h fun r_ w8 h => let ⟨t210_x7, hr, h⟩ := h; ⟨t210_x7, hr, h⟩) (fun h => h)) (fun h => sel_imp h (fun h => Calls.mono h fun r_ w9 h => let ⟨t210_x8, hr, h⟩ := h; ⟨t210_x8, hr, h⟩) (fun h => h)))) (fun h => h)) (fun h => h)) (fun h => h)) (fun h => h)) (fun h => sel_imp h (fun h => sel_imp h (fun h => sel_imp h (fun h => sel_imp h (fun h => sel_imp h (fun h => Calls.mono h fun r_ w10 h => let ⟨t210_x9, hr, h⟩ := h; ⟨t210_x9, hr, h⟩) (fun h => sel_imp h (fun h => sel_imp h (fun h => Calls.mono h fun r_ w11 h => let ⟨t210_x10, hr, h⟩ := h; ⟨t210_x10, hr, h⟩) (fun h => h)) (fun h => sel_imp h (fun h => Calls.mono h fun r_ w12 h => let ⟨t210_x11, hr, h⟩ := h; ⟨t210_x11, hr, h⟩) (fun h => h)))) (fun h => h)) (fun h => h)) (fun h => h)) (fun h => h))) (fun h => h))
theorem L2T_step (s11 : ByteArray) (x16 y18 or20 and22 not24 is26 more28 : Bool) (k29 : Int) (led30 other32 : Bool) (errors34 : Sl) (q35 : Int) (w : World) (R : Post) (h : sel (decide (q35 < ((errors34.n : Nat) : Int))) ((0 : Int) ≤ q35 ∧ q35 < ((errors34.n : Nat) : Int) ∧ optP errors34.a fun t158_p => ∃ t159 : Int, w.cell? (t158_p.add (Int.toNat q35 * 1)) = some (.i t159) ∧ 
  sel (t159 != 0) (R (.returned (.bool false)) w) (L2T s11 x16 y18 or20 and22 not24 is26 more28 k29 led30 other32 errors34 (IntKind.wrap .i64 (q35 + 1)) w R)) (sel (k29 != 0) (sel (k29 != 4) (R (.returned (.bool false)) w) (S3T s11 x16 y18 or20 and22 not24 is26 more28 k29 led30 other32 w R)) (S3T s11 x16 y18 or20 and22 not24 is26 more28 k29 led30 other32 w R))) : L2T s11 x16 y18 or20 and22 not24 is26 more28 k29 led30 other32 errors34 q35 w R := fun H => L2_step _ _ _ _ _ _ _ _ _ _ _ _ _ w R (sel_imp h (fun h => ⟨h.1, h.2.1, have h := h.2.2; optP_imp h fun t158_p h => let ⟨t159, hc0, h⟩ := h; ⟨t159, hc0, sel_imp h (fun h => h) (fun h => h (LC.nil _))⟩⟩) (fun h => sel_imp h (fun h => sel_imp h (fun h => h) (fun h => S3T_ok h (LC.nil _))) (fun h => S3T_ok h (LC.nil _))))
abbrev S1T (c3 : Int) (a9 : Nat) (a9_0 a9_1 a9_2 : Int) (a9_3 : Sl) (b10 : Nat) (b10_0 b10_1 b10_2 : Int) (b10_3 : Sl) (s11 : ByteArray) (w : World) (R : Post) : Prop :=
  nwV w (.cells #[.i a9_0, .int .u8 a9_1, .int .u8 a9_2, a9_3.v] ty_regex_Regex) fun w1 => 
  newV [a9, b10] w1 fun b13 w2 => 
  loc [a9, b10, b13] w2 fun w6 => nwV w6 (.cells #[.i 2, .int .u8 c3, .int .u8 c3, .slice none 0 0, .i b10_0, .int .u8 b10_1, .int .u8 b10_2, b10_3.v] ty_regex_Regex) fun w7 => 
  newV [a9, b10, b13] w7 fun b14 w8 => 
  loc [a9, b10, b13, b14] w8 fun w12 => nwV w12 (.cells #[.i a9_0, .int .u8 a9_1, .int .u8 a9_2, a9_3.v, .i b10_0, .int .u8 b10_1, .int .u8 b10_2, b10_3.v] ty_regex_Regex) fun w13 => 
  callF [a9, b10, b13, b14] Try.prog n_regex_Match #[.agg #[.i a9_0, .int .u8 a9_1, .int .u8 a9_2, a9_3.v], .string s11] w13 fun r_ w14 => ∃ t74_0 : Bool, ∃ t74_1 : Int, r_ = .returned (.tuple #[.bool t74_0, .i t74_1]) ∧ 
  callF [a9, b10, b13, b14] Try.prog n_regex_Match #[.agg #[.i b10_0, .int .u8 b10_1, .int .u8 b10_2, b10_3.v], .string s11] w14 fun r_ w15 => ∃ t80_0 : Bool, ∃ t80_1 : Int, r_ = .returned (.tuple #[.bool t80_0, .i t80_1]) ∧ 
  callF [a9, b10, b13, b14] Try.prog n_regex_Match #[.agg #[.i 4, .int .u8 0, .int .u8 0, .slice (some (nb w12)) 2 2], .string s11] w15 fun r_ w16 => ∃ t87_0 : Bool, ∃ t87_1 : Int, r_ = .returned (.tuple #[.bool t87_0, .i t87_1]) ∧ 
  callF [a9, b10, b13, b14] Try.prog n_regex_Match #[.agg #[.i 5, .int .u8 0, .int .u8 0, .slice (some (nb w12)) 2 2], .string s11] w16 fun r_ w17 => ∃ t94_0 : Bool, ∃ t94_1 : Int, r_ = .returned (.tuple #[.bool t94_0, .i t94_1]) ∧ 
  (0 : Int) ≤ 1 ∧ 1 ≤ ((2 : Nat) : Int) ∧ callF [a9, b10, b13, b14] Try.prog n_regex_Match #[.agg #[.i 6, .int .u8 0, .int .u8 0, .slice (if 2 = 0 then some (nb w12) else (some (nb w12)).map (·.add (0 * 4))) ((Int.toNat 1) - 0) (2 - 0)], .string s11] w17 fun r_ w18 => ∃ t102_0 : Bool, ∃ t102_1 : Int, r_ = .returned (.tuple #[.bool t102_0, .i t102_1]) ∧ 
  callF [a9, b10, b13, b14] Try.prog n_regex_Match #[.agg #[.i 7, .int .u8 0, .int .u8 0, .slice (some (nb w)) 1 1], .string s11] w18 fun r_ w19 => ∃ t108_0 : Bool, ∃ t108_1 : Int, r_ = .returned (.tuple #[.bool t108_0, .i t108_1]) ∧ 
  nwV w19 (.cells #[.i a9_0, .int .u8 a9_1, .int .u8 a9_2, a9_3.v, .i 7, .int .u8 0, .int .u8 0, .slice (some (nb w)) 1 1] ty_regex_Regex) fun w20 => 
  callF [a9, b10, b13, b14] Try.prog n_regex_Match #[.agg #[.i 3, .int .u8 0, .int .u8 0, .slice (some (nb w19)) 2 2], .string s11] w20 fun r_ w21 => ∃ t117_0 : Bool, ∃ t117_1 : Int, r_ = .returned (.tuple #[.bool t117_0, .i t117_1]) ∧ 
  nwV w21 (.cells #[.int .u8 c3] ty_uint8) fun w22 => 
  ∃ t124 : ByteArray, Sem.run Try.prog (Go.convert ty_sl_uint8 ty_string (.slice (some (nb w21)) 1 1)) w22 = .ok (.string t124) w22 ∧ ¬ (((t124.size + s11.size : Nat) : Int) > IntKind.i64.max) ∧ callF [a9, b10, b13, b14] Try.prog n_regex_Match #[.agg #[.i 3, .int .u8 0, .int .u8 0, .slice (some (nb w6)) 2 2], .string (t124 ++ s11)] w22 fun r_ w23 => ∃ t127_0 : Bool, ∃ t127_1 : Int, r_ = .returned (.tuple #[.bool t127_0, .i t127_1]) ∧ 
  nwV w23 (.cells #[.int .u8 (IntKind.wrap .u8 (c3 + 1))] ty_uint8) fun w24 => 
  ∃ t135 : ByteArray, Sem.run Try.prog (Go.convert ty_sl_uint8 ty_string (.slice (some (nb w23)) 1 1)) w24 = .ok (.string t135) w24 ∧ ¬ (((t135.size + s11.size : Nat) : Int) > IntKind.i64.max) ∧ callF [a9, b10, b13, b14] Try.prog n_regex_Match #[.agg #[.i 3, .int .u8 0, .int .u8 0, .slice (some (nb w6)) 2 2], .string (t135 ++ s11)] w24 fun r_ w25 => ∃ t138_0 : Bool, ∃ t138_1 : Int, r_ = .returned (.tuple #[.bool t138_0, .i t138_1]) ∧ 
  nwV w25 (.cells #[.i t74_1, .i t80_1, .i t87_1, .i t94_1, .i t102_1, .i t108_1, .i t127_1, .i t138_1] ty_api_Errno) fun w26 => 
  L2T s11 t74_0 t80_0 t87_0 t94_0 t102_0 t108_0 t117_0 t117_1 t127_0 t138_0 ⟨some (nb w25), 8, 8⟩ 0 w26 R
theorem S1T_ok {c3 : Int} {a9 : Nat} {a9_0 a9_1 a9_2 : Int} {a9_3 : Sl} {b10 : Nat} {b10_0 b10_1 b10_2 : Int} {b10_3 : Sl} {s11 : ByteArray} {w : World} {R : Post} (h : S1T c3 a9 a9_0 a9_1 a9_2 a9_3 b10 b10_0 b10_1 b10_2 b10_3 s11 w R) (H : LC w [(a9, [.i a9_0, .int .u8 a9_1, .int .u8 a9_2, a9_3.v], ty_regex_Regex), (b10, [.i b10_0, .int .u8 b10_1, .int .u8 b10_2, b10_3.v], ty_regex_Regex)]) : S1 c3 (at0 a9) (at0 b10) s11 w R := ⟨_, _, _, a9_3, H.ld 0 0, H.ld 0 1, H.ld 0 2, H.ld 0 3, LC.nwN H h fun w1 H h => LC.nwT H (Fr.refl _ _) h fun w2 (H : LC w2 [(a9, [.i a9_0, .int .u8 a9_1, .int .u8 a9_2, a9_3.v], ty_regex_Regex), (b10, [.i b10_0, .int .u8 b10_1, .int .u8 b10_2, b10_3.v], ty_regex_Regex), (w1.heap.size, [.i 0, .int .u8 0, .int .u8 0, .slice none 0 0], ty_regex_Regex)]) h => LC.stT0 H 2 (Fr.refl _ _) rfl rfl fun w3 H f => LC.stT H 2 1 f rfl rfl fun w4 H f => LC.stT H 2 2 f rfl rfl fun w5 H f => LC.stT H 2 3 f rfl rfl fun w6 (H : LC w6 [(a9, [.i a9_0, .int .u8 a9_1, .int .u8 a9_2, a9_3.v], ty_regex_Regex), (b10, [.i b10_0, .int .u8 b10_1, .int .u8 b10_2, b10_3.v], ty_regex_Regex), (w1.heap.size, [.i 7, .int .u8 0, .int .u8 0, .slice (some (nb w)) 1 1], ty_regex_Regex)]) (f : Fr (· ∈ [a9, b10, w1.heap.size]) _ w6) => ⟨_, _, _, b10_3, H.ld 1 0, H.ld 1 1, H.ld 1 2, H.ld 1 3, have h := h _ f; LC.nwN H h fun w7 H h => LC.nwT H (Fr.refl _ _) h fun w8 (H : LC w8 [(a9, [.i a9_0, .int .u8 a9_1, .int .u8 a9_2, a9_3.v], ty_regex_Regex), (b10, [.i b10_0, .int .u8 b10_1, .int .u8 b10_2, b10_3.v], ty_regex_Regex), (w1.heap.size, [.i 7, .int .u8 0, .int .u8 0, .slice (some (nb w)) 1 1], ty_regex_Regex), (w7.heap.size, [.i 0, .int .u8 0, .int .u8 0, .slice none 0 0], ty_regex_Regex)]) h => LC.stT0 H 3 (Fr.refl _ _) rfl rfl fun w9 H f => LC.stT H 3 1 f rfl rfl fun w10 H f => LC.stT H 3 2 f rfl rfl fun w11 H f => LC.stT H 3 3 f rfl rfl fun w12 (H : LC w12 [(a9, [.i a9_0, .int .u8 a9_1, .int .u8 a9_2, a9_3.v], ty_regex_Regex), (b10, [.i b10_0, .int .u8 b10_1, .int .u8 b10_2, b10_3.v], ty_regex_Regex), (w1.heap.size, [.i 7, .int .u8 0, .int .u8 0, .slice (some (nb w)) 1 1], ty_regex_Regex), (w7.heap.size, [.i 3, .int .u8 0, .int .u8 0, .slice (some (nb w6)) 2 2], ty_regex_Regex)]) (f : Fr (· ∈ [a9, b10, w1.heap.size, w7.heap.size]) _ w12) => ⟨_, _, _, a9_3, H.ld 0 0, H.ld 0 1, H.ld 0 2, H.ld 0 3, ⟨_, _, _, b10_3, H.ld 1 0, H.ld 1 1, H.ld 1 2, H.ld 1 3, have h := h _ f; LC.nwN H h fun w13 H h => ⟨_, _, _, a9_3, H.ld 0 0, H.ld 0 1, H.ld 0 2, H.ld 0 3, LC.callT H h fun r_ w14 H h => let ⟨t74_0, t74_1, hr, h⟩ := h; ⟨t74_0, t74_1, hr, ⟨_, _, _, b10_3, H.ld 1 0, H.ld 1 1, H.ld 1 2, H.ld 1 3, LC.callT H h fun r_ w15 H h => let ⟨t80_0, t80_1, hr, h⟩ := h; ⟨t80_0, t80_1, hr, LC.callT H h fun r_ w16 H h => let ⟨t87_0, t87_1, hr, h⟩ := h; ⟨t87_0, t87_1, hr, LC.callT H h fun r_ w17 H h => let ⟨t94_0, t94_1, hr, h⟩ := h; ⟨t94_0, t94_1, hr, ⟨h.1, h.2.1, have h := h.2.2; LC.callT H h fun r_ w18 H h => let ⟨t102_0, t102_1, hr, h⟩ := h; ⟨t102_0, t102_1, hr, ⟨_, _, _, ⟨some (nb w), 1, 1⟩, H.ld 2 0, H.ld 2 1, H.ld 2 2, H.ld 2 3, LC.callT H h fun r_ w19 H h => let ⟨t108_0, t108_1, hr, h⟩ := h; ⟨t108_0, t108_1, hr, ⟨_, _, _, a9_3, H.ld 0 0, H.ld 0 1, H.ld 0 2, H.ld 0 3, ⟨_, _, _, ⟨some (nb w), 1, 1⟩, H.ld 2 0, H.ld 2 1, H.ld 2 2, H.ld 2 3, LC.nwN H h fun w20 H h => LC.callT H h fun r_ w21 H h => let ⟨t117_0, t117_1, hr, h⟩ := h; ⟨t117_0, t117_1, hr, ⟨_, _, _, ⟨some (nb w6), 2, 2⟩, H.ld 3 0, H.ld 3 1, H.ld 3 2, H.ld 3 3, LC.nwN H h fun w22 H h => let ⟨t124, he, h⟩ := h; ⟨t124, he, ⟨h.1, have h := h.2; LC.callT H h fun r_ w23 H h => let ⟨t127_0, t127_1, hr, h⟩ := h; ⟨t127_0, t127_1, hr, ⟨_, _, _, ⟨some (nb w6), 2, 2⟩, H.ld 3 0, H.ld 3 1, H.ld 3 2, H.ld 3 3, LC.nwN H h fun w24 H h => let ⟨t135, he, h⟩ := h; ⟨t135, he, ⟨h.1, have h := h.2; LC.callT H h fun r_ w25 H h => let ⟨t138_0, t138_1, hr, h⟩ := h; ⟨t138_0, t138_1, hr, LC.nwN H h fun w26 H h => h (LC.nil _)⟩⟩⟩⟩⟩⟩⟩⟩⟩⟩⟩⟩⟩⟩⟩⟩⟩⟩⟩⟩⟩⟩⟩⟩⟩
theorem L0T_step (words2 : Sl) (c3 : Int) (a9 : Nat) (a9_0 a9_1 a9_2 : Int) (a9_3 : Sl) (b10 : Nat) (b10_0 b10_1 b10_2 : Int) (b10_3 : Sl) (s11 : ByteArray) (i12 : Int) (w : World) (R : Post) (h : sel (decide (i12 < ((words2.n : Nat) : Int))) (sel (decide (i12 < 12)) ((0 : Int) ≤ i12 ∧ i12 < ((words2.n : Nat) : Int) ∧ optP words2.a fun t55_p => ∃ t56 : Int, w.cell? (t55_p.add (Int.toNat i12 * 1)) = some (.i t56) ∧ 
  callF [a9, b10] Try.prog n_enthymemeref04_Word #[.i t56] w fun r_ w15 => ∃ t57 : ByteArray, r_ = .returned (.string t57) ∧ 
  ¬ (((s11.size + t57.size : Nat) : Int) > IntKind.i64.max) ∧ L0T words2 c3 a9 a9_0 a9_1 a9_2 a9_3 b10 b10_0 b10_1 b10_2 b10_3 (s11 ++ t57) (IntKind.wrap .i64 (i12 + 1)) w15 R) (S1T c3 a9 a9_0 a9_1 a9_2 a9_3 b10 b10_0 b10_1 b10_2 b10_3 s11 w R)) (S1T c3 a9 a9_0 a9_1 a9_2 a9_3 b10 b10_0 b10_1 b10_2 b10_3 s11 w R)) : L0T words2 c3 a9 a9_0 a9_1 a9_2 a9_3 b10 b10_0 b10_1 b10_2 b10_3 s11 i12 w R := fun H => L0_step _ _ _ _ _ _ w R (sel_imp h (fun h => sel_imp h (fun h => ⟨h.1, h.2.1, have h := h.2.2; optP_imp h fun t55_p h => let ⟨t56, hc0, h⟩ := h; ⟨t56, hc0, LC.callT H h fun r_ w15 H h => let ⟨t57, hr, h⟩ := h; ⟨t57, hr, ⟨h.1, have h := h.2; h H⟩⟩⟩⟩) (fun h => S1T_ok h H)) (fun h => S1T_ok h H))
theorem okT (l0 m1 words2 : Sl) (c3 : Int) (w : World) (R : Post) (h : Calls Try.prog n_enthymemeref04_Made #[l0.v] w fun r_ w1 => ∃ t37_0 : Int, ∃ t37_1 : Int, ∃ t37_2 : Int, ∃ t37_3 : Sl, r_ = .returned (.agg #[.i t37_0, .int .u8 t37_1, .int .u8 t37_2, t37_3.v]) ∧ 
  Calls Try.prog n_enthymemelaw04_own #[.agg #[.i t37_0, .int .u8 t37_1, .int .u8 t37_2, t37_3.v]] w1 fun r_ w2 => ∃ t38_0 : Int, ∃ t38_1 : Int, ∃ t38_2 : Int, ∃ t38_3 : Sl, r_ = .returned (.agg #[.i t38_0, .int .u8 t38_1, .int .u8 t38_2, t38_3.v]) ∧ 
  newV [] w2 fun b9 w3 => 
  loc [b9] w3 fun w7 => callF [b9] Try.prog n_enthymemeref04_Made #[m1.v] w7 fun r_ w8 => ∃ t40_0 : Int, ∃ t40_1 : Int, ∃ t40_2 : Int, ∃ t40_3 : Sl, r_ = .returned (.agg #[.i t40_0, .int .u8 t40_1, .int .u8 t40_2, t40_3.v]) ∧ 
  callF [b9] Try.prog n_enthymemelaw04_own #[.agg #[.i t40_0, .int .u8 t40_1, .int .u8 t40_2, t40_3.v]] w8 fun r_ w9 => ∃ t41_0 : Int, ∃ t41_1 : Int, ∃ t41_2 : Int, ∃ t41_3 : Sl, r_ = .returned (.agg #[.i t41_0, .int .u8 t41_1, .int .u8 t41_2, t41_3.v]) ∧ 
  newV [b9] w9 fun b10 w10 => 
  loc [b9, b10] w10 fun w14 => L0T words2 c3 b9 t38_0 t38_1 t38_2 t38_3 b10 t41_0 t41_1 t41_2 t41_3 (ByteArray.mk #[]) 0 w14 R) : Calls Try.prog n_enthymemelaw04_RegexSets #[l0.v, m1.v, words2.v, .int .u8 c3] w R :=
  ok _ _ _ _ w R (Calls.mono h fun r_ w1 h => let ⟨t37_0, t37_1, t37_2, t37_3, hr, h⟩ := h; ⟨t37_0, t37_1, t37_2, t37_3, hr, Calls.mono h fun r_ w2 h => let ⟨t38_0, t38_1, t38_2, t38_3, hr, h⟩ := h; ⟨t38_0, t38_1, t38_2, t38_3, hr, LC.nwT (LC.nil _) (Fr.refl _ _) h fun w3 H h => LC.stT0 H 0 (Fr.refl _ _) rfl rfl fun w4 H f => LC.stT H 0 1 f rfl rfl fun w5 H f => LC.stT H 0 2 f rfl rfl fun w6 H f => LC.stT H 0 3 f rfl rfl fun w7 (H : LC w7 [(w2.heap.size, [.i t38_0, .int .u8 t38_1, .int .u8 t38_2, t38_3.v], ty_regex_Regex)]) (f : Fr (· ∈ [w2.heap.size]) _ w7) => have h := h _ f; LC.callT H h fun r_ w8 H h => let ⟨t40_0, t40_1, t40_2, t40_3, hr, h⟩ := h; ⟨t40_0, t40_1, t40_2, t40_3, hr, LC.callT H h fun r_ w9 H h => let ⟨t41_0, t41_1, t41_2, t41_3, hr, h⟩ := h; ⟨t41_0, t41_1, t41_2, t41_3, hr, LC.nwT H (Fr.refl _ _) h fun w10 H h => LC.stT0 H 1 (Fr.refl _ _) rfl rfl fun w11 H f => LC.stT H 1 1 f rfl rfl fun w12 H f => LC.stT H 1 2 f rfl rfl fun w13 H f => LC.stT H 1 3 f rfl rfl fun w14 (H : LC w14 [(w2.heap.size, [.i t38_0, .int .u8 t38_1, .int .u8 t38_2, t38_3.v], ty_regex_Regex), (w9.heap.size, [.i t41_0, .int .u8 t41_1, .int .u8 t41_2, t41_3.v], ty_regex_Regex)]) (f : Fr (· ∈ [w2.heap.size, w9.heap.size]) _ w14) => have h := h _ f; h H⟩⟩⟩⟩)
end enthymemelaw04_RegexSets
end Go.Proofs.Ytknlbofiicflgaa

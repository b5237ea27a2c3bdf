/- Printed by a program of ours (vcgen.py) from the dump: the conditions of the functions, and that they suffice. -/
import Derived.Test.YtjjhfdjpmonlaaaVR
import Derived.Test.YtjjhfdjpmonlaaaVW
import Derived.Test.YtjjhfdjpmonlaaaVX
import Derived.Test.YtjjhfdjpmonlaaaY
set_option linter.unusedVariables false
set_option maxRecDepth 100000
set_option maxHeartbeats 2000000
namespace Go.Proofs.Ytjjhfdjpmonlaaa
open Go Go.W
namespace enthymemelaw06_ValueBytes
noncomputable def C0 : Code := (Try.f8.body).getD .skip
noncomputable def C1:=C0.sn
noncomputable def C2:=C1.sn
noncomputable def C3:=C2.fs
noncomputable def C4:=C3.sn
noncomputable def C5:=C4.fs
noncomputable def C6:=C5.fs
noncomputable def C7:=C2.sn
abbrev Q0 (R : Post) : Exit → Act → World → Prop := (Exit.then (wpx Try.prog (cx 197) C7 (bodyPost Try.prog Try.f8 R)) (bodyPost Try.prog Try.f8 R))
abbrev Q1 (R : Post) : Exit → Act → World → Prop := (Exit.inBlock 0 (Q0 R))
/-- the head of the loop, law.go:127 -/
def L0 (at2 : Int) (raw5 : Sl) (c6 : Int) (all15 : Sl) (i16 : Int) (w : World) (R : Post) : Prop := LP Try.prog (cx 197) C6 (Q1 R) [(2, .i at2), (5, raw5.v), (6, .int .u8 c6), (15, all15.v), (16, .i i16)] w
def KE_L0 (E : Env) (w : World) (R : Post) : Prop := W.asInt .i64 (Env.get? E 2) fun at2 => asSlice (Env.get? E 5) fun raw5 => W.asInt .u8 (Env.get? E 6) fun c6 => asSlice (Env.get? E 15) fun all15 => W.asInt .i64 (Env.get? E 16) fun i16 => L0 at2 raw5 c6 all15 i16 w R
theorem KE_L0_ok (R : Post) (E : Env) (w : World) (h : KE_L0 E w R) : LP Try.prog (cx 197) C6 (Q1 R) E w := by
  obtain ⟨at2, hq2, h_1⟩ := asInt_elim h
  obtain ⟨raw5, hq5, h_2⟩ := asSlice_elim h_1
  obtain ⟨c6, hq6, h_3⟩ := asInt_elim h_2
  obtain ⟨all15, hq15, h_4⟩ := asSlice_elim h_3
  obtain ⟨i16, hq16, h_5⟩ := asInt_elim h_4
  intro a ha
  exact h_5 a (ha.cons hq2 (ha.cons hq5 (ha.cons hq6 (ha.cons hq15 (ha.cons hq16 ha.nil)))))
noncomputable def C8:=C6.sn
noncomputable def C9:=C8.fs
noncomputable def C10:=C9.fs
noncomputable def C11:=C10.sn
noncomputable def C12:=C11.sn
noncomputable def C13:=C12.sn
noncomputable def C14:=C13.sn
noncomputable def C15:=C14.fs
noncomputable def C16:=C15.sn
noncomputable def C17:=C16.fs
noncomputable def C18:=C8.sn
abbrev Q2 (R : Post) : Exit → Act → World → Prop := (Exit.then (wpx Try.prog (cx 197) C18 (Exit.then (LoopWP Try.prog (cx 197) C6 (Q1 R)) (Q1 R))) (Exit.then (LoopWP Try.prog (cx 197) C6 (Q1 R)) (Q1 R)))
noncomputable def C19:=C14.sn
abbrev Q3 (R : Post) : Exit → Act → World → Prop := (Exit.then (wpx Try.prog (cx 197) C19 (Exit.inBlock 1 (Q2 R))) (Exit.inBlock 1 (Q2 R)))
noncomputable def C20:=C17.sn
/-- law.go:133 -/
abbrev S1  (w : World) (R : Post) : Prop :=
  R (.returned (.bool false)) w
def KE_S1 (E : Env) (w : World) (R : Post) : Prop := S1  w R
theorem KE_S1_ok (R : Post) (E : Env) (w : World) (h : KE_S1 E w R) : WP Try.prog (cx 197) C17 (Q3 R) E w := by
  exact fun a ha => WP.at (E := []) (sr C17 (K := fun E w => retVC Try.prog Try.f8 E w (fun v => R (.returned v) w)) (Eq.mp (by kernel_rfl) h) fun _ _ hK => (rt C20 fun a hA => retVC_sound hA hK)) ha.nil
abbrev Q4 (R : Post) : Exit → Act → World → Prop := (Exit.then (LoopWP Try.prog (cx 197) C6 (Q1 R)) (Q1 R))
/-- law.go:127 -/
abbrev S3 (at2 : Int) (raw5 : Sl) (c6 : Int) (all15 : Sl) (i16 : Int) (w : World) (R : Post) : Prop :=
  L0 at2 raw5 c6 all15 (IntKind.wrap .i64 (i16 + 1)) w R
def KE_S3 (E : Env) (w : World) (R : Post) : Prop := W.asInt .i64 (Env.get? E 2) fun at2 => asSlice (Env.get? E 5) fun raw5 => W.asInt .u8 (Env.get? E 6) fun c6 => asSlice (Env.get? E 15) fun all15 => W.asInt .i64 (Env.get? E 16) fun i16 => S3 at2 raw5 c6 all15 i16 w R
theorem KE_S3_ok (R : Post) (E : Env) (w : World) (h : KE_S3 E w R) : WP Try.prog (cx 197) C18 (Q4 R) E w := by
  obtain ⟨at2, hq2, h_1⟩ := asInt_elim h
  obtain ⟨raw5, hq5, h_2⟩ := asSlice_elim h_1
  obtain ⟨c6, hq6, h_3⟩ := asInt_elim h_2
  obtain ⟨all15, hq15, h_4⟩ := asSlice_elim h_3
  obtain ⟨i16, hq16, h_5⟩ := asInt_elim h_4
  exact fun a ha => WP.at (E := [(2, .i at2), (5, raw5.v), (6, .int .u8 c6), (15, all15.v), (16, .i i16)]) (rg C18 (K := fun E w => KE_L0 E w R) (by kernel_rfl) (Eq.mp (by kernel_rfl) h_5) fun _ _ a hA hK => KE_L0_ok R _ _ hK a hA) (ha.cons hq2 (ha.cons hq5 (ha.cons hq6 (ha.cons hq15 (ha.cons hq16 ha.nil)))))
noncomputable def C21:=C19.sn
noncomputable def C22:=C21.sn
noncomputable def C23:=C22.fs
noncomputable def C24:=C23.sn
noncomputable def C25:=C24.fs
noncomputable def C26:=C22.sn
abbrev Q5 (R : Post) : Exit → Act → World → Prop := (Exit.then (wpx Try.prog (cx 197) C26 (Exit.inBlock 1 (Q2 R))) (Exit.inBlock 1 (Q2 R)))
noncomputable def C27:=C25.sn
/-- law.go:140 -/
abbrev S4  (w : World) (R : Post) : Prop :=
  R (.returned (.bool false)) w
def KE_S4 (E : Env) (w : World) (R : Post) : Prop := S4  w R
theorem KE_S4_ok (R : Post) (E : Env) (w : World) (h : KE_S4 E w R) : WP Try.prog (cx 197) C25 (Q5 R) E w := by
  exact fun a ha => WP.at (E := []) (sr C25 (K := fun E w => retVC Try.prog Try.f8 E w (fun v => R (.returned v) w)) (Eq.mp (by kernel_rfl) h) fun _ _ hK => (rt C27 fun a hA => retVC_sound hA hK)) ha.nil
noncomputable def C28:=C26.sn
noncomputable def C29:=C28.sn
noncomputable def C30:=C29.sn
noncomputable def C31:=C30.sn
noncomputable def C32:=C31.fs
noncomputable def C33:=C32.fs
abbrev Q6 (R : Post) : Exit → Act → World → Prop := (Exit.inBlock 1 (Q2 R))
abbrev Q7 (R : Post) : Exit → Act → World → Prop := (Exit.inBlock 2 (Q6 R))
/-- the head of the loop, law.go:145 -/
def L6 (at2 : Int) (raw5 : Sl) (c6 : Int) (all15 : Sl) (i16 : Int) (tries25 : Sl) (k26 : Int) (w : World) (R : Post) : Prop := LP Try.prog (cx 197) C33 (Q7 R) [(2, .i at2), (5, raw5.v), (6, .int .u8 c6), (15, all15.v), (16, .i i16), (25, tries25.v), (26, .i k26)] w
def KE_L6 (E : Env) (w : World) (R : Post) : Prop := W.asInt .i64 (Env.get? E 2) fun at2 => asSlice (Env.get? E 5) fun raw5 => W.asInt .u8 (Env.get? E 6) fun c6 => asSlice (Env.get? E 15) fun all15 => W.asInt .i64 (Env.get? E 16) fun i16 => asSlice (Env.get? E 25) fun tries25 => W.asInt .i64 (Env.get? E 26) fun k26 => L6 at2 raw5 c6 all15 i16 tries25 k26 w R
theorem KE_L6_ok (R : Post) (E : Env) (w : World) (h : KE_L6 E w R) : LP Try.prog (cx 197) C33 (Q7 R) E w := by
  obtain ⟨at2, hq2, h_1⟩ := asInt_elim h
  obtain ⟨raw5, hq5, h_2⟩ := asSlice_elim h_1
  obtain ⟨c6, hq6, h_3⟩ := asInt_elim h_2
  obtain ⟨all15, hq15, h_4⟩ := asSlice_elim h_3
  obtain ⟨i16, hq16, h_5⟩ := asInt_elim h_4
  obtain ⟨tries25, hq25, h_6⟩ := asSlice_elim h_5
  obtain ⟨k26, hq26, h_7⟩ := asInt_elim h_6
  intro a ha
  exact h_7 a (ha.cons hq2 (ha.cons hq5 (ha.cons hq6 (ha.cons hq15 (ha.cons hq16 (ha.cons hq25 (ha.cons hq26 ha.nil)))))))
noncomputable def C34:=C33.sn
noncomputable def C35:=C34.fs
noncomputable def C36:=C35.fs
noncomputable def C37:=C36.sn
noncomputable def C38:=C37.sn
noncomputable def C39:=C38.fs
noncomputable def C40:=C34.sn
abbrev Q8 (R : Post) : Exit → Act → World → Prop := (Exit.then (wpx Try.prog (cx 197) C40 (Exit.then (LoopWP Try.prog (cx 197) C33 (Q7 R)) (Q7 R))) (Exit.then (LoopWP Try.prog (cx 197) C33 (Q7 R)) (Q7 R)))
abbrev Q9 (R : Post) : Exit → Act → World → Prop := (Exit.inBlock 3 (Q8 R))
noncomputable def C41:=C39.sn
/-- law.go:148 -/
abbrev S7  (w : World) (R : Post) : Prop :=
  R (.returned (.bool false)) w
def KE_S7 (E : Env) (w : World) (R : Post) : Prop := S7  w R
theorem KE_S7_ok (R : Post) (E : Env) (w : World) (h : KE_S7 E w R) : WP Try.prog (cx 197) C39 (Q9 R) E w := by
  exact fun a ha => WP.at (E := []) (sr C39 (K := fun E w => retVC Try.prog Try.f8 E w (fun v => R (.returned v) w)) (Eq.mp (by kernel_rfl) h) fun _ _ hK => (rt C41 fun a hA => retVC_sound hA hK)) ha.nil
abbrev Q10 (R : Post) : Exit → Act → World → Prop := (Exit.then (LoopWP Try.prog (cx 197) C33 (Q7 R)) (Q7 R))
/-- law.go:145 -/
abbrev S8 (at2 : Int) (raw5 : Sl) (c6 : Int) (all15 : Sl) (i16 : Int) (tries25 : Sl) (k26 : Int) (w : World) (R : Post) : Prop :=
  L6 at2 raw5 c6 all15 i16 tries25 (IntKind.wrap .i64 (k26 + 1)) w R
def KE_S8 (E : Env) (w : World) (R : Post) : Prop := W.asInt .i64 (Env.get? E 2) fun at2 => asSlice (Env.get? E 5) fun raw5 => W.asInt .u8 (Env.get? E 6) fun c6 => asSlice (Env.get? E 15) fun all15 => W.asInt .i64 (Env.get? E 16) fun i16 => asSlice (Env.get? E 25) fun tries25 => W.asInt .i64 (Env.get? E 26) fun k26 => S8 at2 raw5 c6 all15 i16 tries25 k26 w R
theorem KE_S8_ok (R : Post) (E : Env) (w : World) (h : KE_S8 E w R) : WP Try.prog (cx 197) C40 (Q10 R) E w := by
  obtain ⟨at2, hq2, h_1⟩ := asInt_elim h
  obtain ⟨raw5, hq5, h_2⟩ := asSlice_elim h_1
  obtain ⟨c6, hq6, h_3⟩ := asInt_elim h_2
  obtain ⟨all15, hq15, h_4⟩ := asSlice_elim h_3
  obtain ⟨i16, hq16, h_5⟩ := asInt_elim h_4
  obtain ⟨tries25, hq25, h_6⟩ := asSlice_elim h_5
  obtain ⟨k26, hq26, h_7⟩ := asInt_elim h_6
  exact fun a ha => WP.at (E := [(2, .i at2), (5, raw5.v), (6, .int .u8 c6), (15, all15.v), (16, .i i16), (25, tries25.v), (26, .i k26)]) (rg C40 (K := fun E w => KE_L6 E w R) (by kernel_rfl) (Eq.mp (by kernel_rfl) h_7) fun _ _ a hA hK => KE_L6_ok R _ _ hK a hA) (ha.cons hq2 (ha.cons hq5 (ha.cons hq6 (ha.cons hq15 (ha.cons hq16 (ha.cons hq25 (ha.cons hq26 ha.nil)))))))
noncomputable def C42:=C33.fs
noncomputable def C43:=C42.sn
noncomputable def C44:=C43.fs
noncomputable def C45:=C38.sn
noncomputable def C46:=C43.sn
theorem L6_step (at2 : Int) (raw5 : Sl) (c6 : Int) (all15 : Sl) (i16 : Int) (tries25 : Sl) (k26 : Int) (w : World) (R : Post) (h : sel (decide (k26 < ((tries25.n : Nat) : Int))) ((0 : Int) ≤ k26 ∧ k26 < ((tries25.n : Nat) : Int) ∧ optP tries25.a fun t165_p => ∃ t166 : Sl, w.cell? (t165_p.add (Int.toNat k26 * 1)) = some (t166.v) ∧ 
  Calls Try.prog n_value_Decode #[t166.v] w fun r_ w1 => ∃ t167_0_0 : Int, ∃ t167_0_1 : Int, ∃ t167_0_2 : Int, ∃ t167_0_3 : Int, ∃ t167_0_4 : ByteArray, ∃ t167_0_5 : Sl, ∃ t167_1 : Int, r_ = .returned (.tuple #[.agg #[.i t167_0_0, .i t167_0_1, .i t167_0_2, .u t167_0_3, .string t167_0_4, t167_0_5.v], .i t167_1]) ∧ 
  nwV w1 (.cells #[.i 0, .i 0, .i 0, .u 0, .s0, .slice none 0 0] ty_value_Value) fun w2 => 
  stV w2 (nb w1) (.i t167_0_0) fun w3 => 
  stV w3 ((nb w1).add 1) (.i t167_0_1) fun w4 => 
  stV w4 ((nb w1).add 2) (.i t167_0_2) fun w5 => 
  stV w5 ((nb w1).add 3) (.u t167_0_3) fun w6 => 
  stV w6 ((nb w1).add 4) (.string t167_0_4) fun w7 => 
  stV w7 ((nb w1).add 5) (t167_0_5.v) fun w8 => 
  drV w8 fun w9 => sel (t167_1 != 0) (sel (t167_1 != 2) (S7  w9 R) (sel (t167_1 == 0) (∃ t180_0 : Int, ∃ t180_1 : Int, ∃ t180_2 : Int, ∃ t180_3 : Int, ∃ t180_4 : ByteArray, ∃ t180_5 : Sl, w9.cell? ((nb w1).add 0) = some (.i t180_0) ∧ w9.cell? ((nb w1).add 1) = some (.i t180_1) ∧ w9.cell? ((nb w1).add 2) = some (.i t180_2) ∧ w9.cell? ((nb w1).add 3) = some (.u t180_3) ∧ w9.cell? ((nb w1).add 4) = some (.string t180_4) ∧ w9.cell? ((nb w1).add 5) = some (t180_5.v) ∧ 
  Calls Try.prog n_value_Valid #[.agg #[.i t180_0, .i t180_1, .i t180_2, .u t180_3, .string t180_4, t180_5.v]] w9 fun r_ w10 => ∃ t181 : Int, r_ = .returned (.i t181) ∧ 
  sel (t181 != 0) (S7  w10 R) (∃ t184_0 : Int, ∃ t184_1 : Int, ∃ t184_2 : Int, ∃ t184_3 : Int, ∃ t184_4 : ByteArray, ∃ t184_5 : Sl, w10.cell? ((nb w1).add 0) = some (.i t184_0) ∧ w10.cell? ((nb w1).add 1) = some (.i t184_1) ∧ w10.cell? ((nb w1).add 2) = some (.i t184_2) ∧ w10.cell? ((nb w1).add 3) = some (.u t184_3) ∧ w10.cell? ((nb w1).add 4) = some (.string t184_4) ∧ w10.cell? ((nb w1).add 5) = some (t184_5.v) ∧ 
  (0 : Int) ≤ k26 ∧ k26 < ((tries25.n : Nat) : Int) ∧ optP tries25.a fun t189_p => ∃ t190 : Sl, w10.cell? (t189_p.add (Int.toNat k26 * 1)) = some (t190.v) ∧ 
  Calls Try.prog n_enthymemelaw06_plain #[.agg #[.i t184_0, .i t184_1, .i t184_2, .u t184_3, .string t184_4, t184_5.v]] w10 fun r_ w11 => ∃ t185_0 : Int, ∃ t185_1 : Int, ∃ t185_2 : Int, ∃ t185_3 : Int, ∃ t185_4 : ByteArray, ∃ t185_5 : Sl, r_ = .returned (.agg #[.i t185_0, .i t185_1, .i t185_2, .u t185_3, .string t185_4, t185_5.v]) ∧ 
  w11.cell? (t189_p.add (Int.toNat k26 * 1)) = some (t190.v) ∧ Calls Try.prog n_enthymemeref06_Encode #[.agg #[.i t185_0, .i t185_1, .i t185_2, .u t185_3, .string t185_4, t185_5.v]] w11 fun r_ w12 => ∃ t186 : Sl, r_ = .returned (t186.v) ∧ 
  w12.cell? (t189_p.add (Int.toNat k26 * 1)) = some (t190.v) ∧ Calls Try.prog n_enthymemeref01_SameBytes #[t186.v, t190.v] w12 fun r_ w13 => ∃ t191 : Bool, r_ = .returned (.bool t191) ∧ 
  sel (!t191) (S7  w13 R) (S8 at2 raw5 c6 all15 i16 tries25 k26 w13 R))) (S8 at2 raw5 c6 all15 i16 tries25 k26 w9 R))) (sel (t167_1 == 0) (∃ t180_x1_0 : Int, ∃ t180_x1_1 : Int, ∃ t180_x1_2 : Int, ∃ t180_x1_3 : Int, ∃ t180_x1_4 : ByteArray, ∃ t180_x1_5 : Sl, w9.cell? ((nb w1).add 0) = some (.i t180_x1_0) ∧ w9.cell? ((nb w1).add 1) = some (.i t180_x1_1) ∧ w9.cell? ((nb w1).add 2) = some (.i t180_x1_2) ∧ w9.cell? ((nb w1).add 3) = some (.u t180_x1_3) ∧ w9.cell? ((nb w1).add 4) = some (.string t180_x1_4) ∧ w9.cell? ((nb w1).add 5) = some (t180_x1_5.v) ∧ 
  Calls Try.prog n_value_Valid #[.agg #[.i t180_x1_0, .i t180_x1_1, .i t180_x1_2, .u t180_x1_3, .string t180_x1_4, t180_x1_5.v]] w9 fun r_ w14 => ∃ t181_x1 : Int, r_ = .returned (.i t181_x1) ∧ 
  sel (t181_x1 != 0) (S7  w14 R) (∃ t184_x1_0 : Int, ∃ t184_x1_1 : Int, ∃ t184_x1_2 : Int, ∃ t184_x1_3 : Int, ∃ t184_x1_4 : ByteArray, ∃ t184_x1_5 : Sl, w14.cell? ((nb w1).add 0) = some (.i t184_x1_0) ∧ w14.cell? ((nb w1).add 1) = some (.i t184_x1_1) ∧ w14.cell? ((nb w1).add 2) = some (.i t184_x1_2) ∧ w14.cell? ((nb w1).add 3) = some (.u t184_x1_3) ∧ w14.cell? ((nb w1).add 4) = some (.string t184_x1_4) ∧ w14.cell? ((nb w1).add 5) = some (t184_x1_5.v) ∧ 
  (0 : Int) ≤ k26 ∧ k26 < ((tries25.n : Nat) : Int) ∧ optP tries25.a fun t189_x1_p => ∃ t190_x1 : Sl, w14.cell? (t189_x1_p.add (Int.toNat k26 * 1)) = some (t190_x1.v) ∧ 
  Calls Try.prog n_enthymemelaw06_plain #[.agg #[.i t184_x1_0, .i t184_x1_1, .i t184_x1_2, .u t184_x1_3, .string t184_x1_4, t184_x1_5.v]] w14 fun r_ w15 => ∃ t185_x1_0 : Int, ∃ t185_x1_1 : Int, ∃ t185_x1_2 : Int, ∃ t185_x1_3 : Int, ∃ t185_x1_4 : ByteArray, ∃ t185_x1_5 : Sl, r_ = .returned (.agg #[.i t185_x1_0, .i t185_x1_1, .i t185_x1_2, .u t185_x1_3, .string t185_x1_4, t185_x1_5.v]) ∧ 
  w15.cell? (t189_x1_p.add (Int.toNat k26 * 1)) = some (t190_x1.v) ∧ Calls Try.prog n_enthymemeref06_Encode #[.agg #[.i t185_x1_0, .i t185_x1_1, .i t185_x1_2, .u t185_x1_3, .string t185_x1_4, t185_x1_5.v]] w15 fun r_ w16 => ∃ t186_x1 : Sl, r_ = .returned (t186_x1.v) ∧ 
  w16.cell? (t189_x1_p.add (Int.toNat k26 * 1)) = some (t190_x1.v) ∧ Calls Try.prog n_enthymemeref01_SameBytes #[t186_x1.v, t190_x1.v] w16 fun r_ w17 => ∃ t191_x1 : Bool, r_ = .returned (.bool t191_x1) ∧ 
  sel (!t191_x1) (S7  w17 R) (S8 at2 raw5 c6 all15 i16 tries25 k26 w17 R))) (S8 at2 raw5 c6 all15 i16 tries25 k26 w9 R))) (S3 at2 raw5 c6 all15 i16 w R)) : L6 at2 raw5 c6 all15 i16 tries25 k26 w R :=
  LP.step (n := (cx 197)) (c := C33) (E := [(2, .i at2), (5, raw5.v), (6, .int .u8 c6), (15, all15.v), (16, .i i16), (25, tries25.v), (26, .i k26)]) (w := w) (sq C33 (sr C42 (show (fun (E : Env) (w : World) => srK Try.prog C42 (fun E w => condK (Env.val E (.tmp 159)) (srK Try.prog C36 (fun E w => sdK Try.prog C37 [0, 1, 2, 3, 4, 5, 6, 7, 8, 9, 10, 11, 12, 13, 14, 17, 18, 19, 20, 15, 16, 21, 22, 23, 24, 25] (fun E w => condK (Env.val E (.tmp 195)) (KE_S7 E w R) (KE_S8 E w R)) E w) E w) (KE_S3 E w R)) E w) [(2, .i at2), (5, raw5.v), (6, .int .u8 c6), (15, all15.v), (16, .i i16), (25, tries25.v), (26, .i k26)] w from Eq.mp (by kernel_rfl) h) fun _ _ hK => (cn C43 hK (fun hK => (sk C44 fun a hA => nx hA (sq C34 (bk C35 3 (by kernel_rfl) (sr C36 hK fun _ _ hK => (sd C37 (by kernel_rfl) hK fun _ _ hK => (cn C38 hK (fun hK => (KE_S7_ok R _ _ hK)) (fun hK => (sk C45 fun a hA => nx hA (KE_S8_ok R _ _ hK)))))))))) (fun hK => (xt C46 2 (by kernel_rfl) fun a hA => nx hA (KE_S3_ok R _ _ hK))))))
/-- law.go:145 -/
abbrev S5 (at2 : Int) (raw5 : Sl) (c6 : Int) (all15 : Sl) (i16 : Int) (tries25 : Sl) (w : World) (R : Post) : Prop :=
  L6 at2 raw5 c6 all15 i16 tries25 0 w R
def KE_S5 (E : Env) (w : World) (R : Post) : Prop := W.asInt .i64 (Env.get? E 2) fun at2 => asSlice (Env.get? E 5) fun raw5 => W.asInt .u8 (Env.get? E 6) fun c6 => asSlice (Env.get? E 15) fun all15 => W.asInt .i64 (Env.get? E 16) fun i16 => asSlice (Env.get? E 25) fun tries25 => S5 at2 raw5 c6 all15 i16 tries25 w R
theorem KE_S5_ok (R : Post) (E : Env) (w : World) (h : KE_S5 E w R) : WP Try.prog (cx 197) C30 (Q6 R) E w := by
  obtain ⟨at2, hq2, h_1⟩ := asInt_elim h
  obtain ⟨raw5, hq5, h_2⟩ := asSlice_elim h_1
  obtain ⟨c6, hq6, h_3⟩ := asInt_elim h_2
  obtain ⟨all15, hq15, h_4⟩ := asSlice_elim h_3
  obtain ⟨i16, hq16, h_5⟩ := asInt_elim h_4
  obtain ⟨tries25, hq25, h_6⟩ := asSlice_elim h_5
  exact fun a ha => WP.at (E := [(2, .i at2), (5, raw5.v), (6, .int .u8 c6), (15, all15.v), (16, .i i16), (25, tries25.v)]) (sr C30 (K := fun E w => KE_L6 E w R) (Eq.mp (by kernel_rfl) h_6) fun _ _ hK => (bk C31 2 (by kernel_rfl) (lp C32 (by kernel_rfl) (KE_L6_ok R _ _ hK)))) (ha.cons hq2 (ha.cons hq5 (ha.cons hq6 (ha.cons hq15 (ha.cons hq16 (ha.cons hq25 ha.nil))))))
noncomputable def C47:=C19.fs
abbrev Q11 (R : Post) : Exit → Act → World → Prop := (Exit.then (wpx Try.prog (cx 197) C21 (Exit.inBlock 1 (Q2 R))) (Exit.inBlock 1 (Q2 R)))
noncomputable def C48:=C47.sn
noncomputable def C49:=C48.fs
noncomputable def C50:=C48.sn
noncomputable def C51:=C24.sn
/-- law.go:135 -/
abbrev S2 (at2 : Int) (raw5 : Sl) (c6 : Int) (all15 : Sl) (i16 : Int) (b18 : Sl) (e19 : Int) (w : World) (R : Post) : Prop :=
  sel (e19 != 0) (S3 at2 raw5 c6 all15 i16 w R) (Calls Try.prog n_wire_Read #[b18.v] w fun r_ w1 => ∃ t108 : Option Addr, r_ = .returned (.pointer t108) ∧ 
  drV w1 fun w2 => sel t108.isNone (S4  w2 R) ((0 : Int) ≤ i16 ∧ i16 < ((all15.n : Nat) : Int) ∧ optP all15.a fun t116_p => ∃ t119 : Int, w2.cell? (((t116_p.add (Int.toNat i16 * 6)).add 0).add 0) = some (.i t119) ∧ 
  Calls Try.prog n_wire_Reader_Int #[.pointer t108] w2 fun r_ w3 => ∃ t113 : Int, r_ = .returned (.i t113) ∧ 
  w3.cell? (((t116_p.add (Int.toNat i16 * 6)).add 0).add 0) = some (.i t119) ∧ sel (t113 != t119) (S4  w3 R) (sel (((b18.n : Nat) : Int) == 0) (S4  w3 R) (nwV w3 (.cells #[] ty_uint8) fun w4 => 
  ∃ (t129 : Sl) (w5 : World), Sem.run Try.prog (Builtin.append_ #[ty_sl_uint8, ty_sl_uint8] ty_sl_uint8 #[.slice (some (nb w3)) 0 0, b18.v]) w4 = .ok (t129.v) w5 ∧ Calls Try.prog n_enthymemeref01_Around #[.i at2, .i ((t129.n : Nat) : Int)] w5 fun r_ w6 => ∃ t134 : Int, r_ = .returned (.i t134) ∧ 
  (0 : Int) ≤ t134 ∧ t134 < ((t129.n : Nat) : Int) ∧ optP t129.a fun t136_p => stV w6 (t136_p.add (Int.toNat t134 * 1)) (.int .u8 c6) fun w7 => 
  drV w7 fun w8 => (0 : Int) ≤ (if 40 < ((raw5.n : Nat) : Int) then 40 else ((raw5.n : Nat) : Int)) ∧ (if 40 < ((raw5.n : Nat) : Int) then 40 else ((raw5.n : Nat) : Int)) ≤ ((raw5.c : Nat) : Int) ∧ ((Calls Try.prog n_enthymemeref01_Around #[.i at2, .i ((b18.n : Nat) : Int)] w8 fun r_ w9 => ∃ t147 : Int, r_ = .returned (.i t147) ∧ 
  (0 : Int) ≤ t147 ∧ t147 ≤ ((b18.c : Nat) : Int) ∧ ((nwV w9 (.cells #[] ty_uint8) fun w10 => 
  ((∃ (t151 : Sl) (w11 : World), Sem.run Try.prog (Builtin.append_ #[ty_sl_uint8, ty_sl_uint8] ty_sl_uint8 #[.slice (some (nb w9)) 0 0, b18.v]) w10 = .ok (t151.v) w11 ∧ nwV w11 (.cells #[.int .u8 c6] ty_uint8) fun w12 => 
  ∃ (t154 : Sl) (w13 : World), Sem.run Try.prog (Builtin.append_ #[ty_sl_uint8, ty_sl_uint8] ty_sl_uint8 #[t151.v, .slice (some (nb w11)) 1 1]) w12 = .ok (t154.v) w13 ∧ nwV w13 (.cells #[.slice (if raw5.c = 0 then raw5.a else raw5.a.map (·.add (0 * 1))) ((Int.toNat (if 40 < ((raw5.n : Nat) : Int) then 40 else ((raw5.n : Nat) : Int))) - 0) (raw5.c - 0), t129.v, .slice (if b18.c = 0 then b18.a else b18.a.map (·.add (0 * 1))) ((Int.toNat t147) - 0) (b18.c - 0), t154.v] ty_sl_uint8) fun w14 => 
  S5 at2 raw5 c6 all15 i16 ⟨some (nb w13), 4, 4⟩ w14 R) ∧ (nwV w10 (.cells #[.int .u8 c6] ty_uint8) fun w15 => 
  ∃ (t151_x1 : Sl) (w16 : World), Sem.run Try.prog (Builtin.append_ #[ty_sl_uint8, ty_sl_uint8] ty_sl_uint8 #[.slice (some (nb w9)) 0 0, b18.v]) w15 = .ok (t151_x1.v) w16 ∧ ∃ (t154_x1 : Sl) (w17 : World), Sem.run Try.prog (Builtin.append_ #[ty_sl_uint8, ty_sl_uint8] ty_sl_uint8 #[t151_x1.v, .slice (some (nb w10)) 1 1]) w16 = .ok (t154_x1.v) w17 ∧ nwV w17 (.cells #[.slice (if raw5.c = 0 then raw5.a else raw5.a.map (·.add (0 * 1))) ((Int.toNat (if 40 < ((raw5.n : Nat) : Int) then 40 else ((raw5.n : Nat) : Int))) - 0) (raw5.c - 0), t129.v, .slice (if b18.c = 0 then b18.a else b18.a.map (·.add (0 * 1))) ((Int.toNat t147) - 0) (b18.c - 0), t154_x1.v] ty_sl_uint8) fun w18 => 
  S5 at2 raw5 c6 all15 i16 ⟨some (nb w17), 4, 4⟩ w18 R))) ∧ (nwV w9 (.cells #[.int .u8 c6] ty_uint8) fun w19 => 
  nwV w19 (.cells #[] ty_uint8) fun w20 => 
  ∃ (t151_x2 : Sl) (w21 : World), Sem.run Try.prog (Builtin.append_ #[ty_sl_uint8, ty_sl_uint8] ty_sl_uint8 #[.slice (some (nb w19)) 0 0, b18.v]) w20 = .ok (t151_x2.v) w21 ∧ ∃ (t154_x2 : Sl) (w22 : World), Sem.run Try.prog (Builtin.append_ #[ty_sl_uint8, ty_sl_uint8] ty_sl_uint8 #[t151_x2.v, .slice (some (nb w9)) 1 1]) w21 = .ok (t154_x2.v) w22 ∧ nwV w22 (.cells #[.slice (if raw5.c = 0 then raw5.a else raw5.a.map (·.add (0 * 1))) ((Int.toNat (if 40 < ((raw5.n : Nat) : Int) then 40 else ((raw5.n : Nat) : Int))) - 0) (raw5.c - 0), t129.v, .slice (if b18.c = 0 then b18.a else b18.a.map (·.add (0 * 1))) ((Int.toNat t147) - 0) (b18.c - 0), t154_x2.v] ty_sl_uint8) fun w23 => 
  S5 at2 raw5 c6 all15 i16 ⟨some (nb w22), 4, 4⟩ w23 R))) ∧ ((nwV w8 (.cells #[] ty_uint8) fun w24 => 
  ((Calls Try.prog n_enthymemeref01_Around #[.i at2, .i ((b18.n : Nat) : Int)] w24 fun r_ w25 => ∃ t147_x1 : Int, r_ = .returned (.i t147_x1) ∧ 
  (0 : Int) ≤ t147_x1 ∧ t147_x1 ≤ ((b18.c : Nat) : Int) ∧ ((∃ (t151_x3 : Sl) (w26 : World), Sem.run Try.prog (Builtin.append_ #[ty_sl_uint8, ty_sl_uint8] ty_sl_uint8 #[.slice (some (nb w8)) 0 0, b18.v]) w25 = .ok (t151_x3.v) w26 ∧ nwV w26 (.cells #[.int .u8 c6] ty_uint8) fun w27 => 
  ∃ (t154_x3 : Sl) (w28 : World), Sem.run Try.prog (Builtin.append_ #[ty_sl_uint8, ty_sl_uint8] ty_sl_uint8 #[t151_x3.v, .slice (some (nb w26)) 1 1]) w27 = .ok (t154_x3.v) w28 ∧ nwV w28 (.cells #[.slice (if raw5.c = 0 then raw5.a else raw5.a.map (·.add (0 * 1))) ((Int.toNat (if 40 < ((raw5.n : Nat) : Int) then 40 else ((raw5.n : Nat) : Int))) - 0) (raw5.c - 0), t129.v, .slice (if b18.c = 0 then b18.a else b18.a.map (·.add (0 * 1))) ((Int.toNat t147_x1) - 0) (b18.c - 0), t154_x3.v] ty_sl_uint8) fun w29 => 
  S5 at2 raw5 c6 all15 i16 ⟨some (nb w28), 4, 4⟩ w29 R) ∧ (nwV w25 (.cells #[.int .u8 c6] ty_uint8) fun w30 => 
  ∃ (t151_x4 : Sl) (w31 : World), Sem.run Try.prog (Builtin.append_ #[ty_sl_uint8, ty_sl_uint8] ty_sl_uint8 #[.slice (some (nb w8)) 0 0, b18.v]) w30 = .ok (t151_x4.v) w31 ∧ ∃ (t154_x4 : Sl) (w32 : World), Sem.run Try.prog (Builtin.append_ #[ty_sl_uint8, ty_sl_uint8] ty_sl_uint8 #[t151_x4.v, .slice (some (nb w25)) 1 1]) w31 = .ok (t154_x4.v) w32 ∧ nwV w32 (.cells #[.slice (if raw5.c = 0 then raw5.a else raw5.a.map (·.add (0 * 1))) ((Int.toNat (if 40 < ((raw5.n : Nat) : Int) then 40 else ((raw5.n : Nat) : Int))) - 0) (raw5.c - 0), t129.v, .slice (if b18.c = 0 then b18.a else b18.a.map (·.add (0 * 1))) ((Int.toNat t147_x1) - 0) (b18.c - 0), t154_x4.v] ty_sl_uint8) fun w33 => 
  S5 at2 raw5 c6 all15 i16 ⟨some (nb w32), 4, 4⟩ w33 R))) ∧ (nwV w24 (.cells #[.int .u8 c6] ty_uint8) fun w34 => 
  Calls Try.prog n_enthymemeref01_Around #[.i at2, .i ((b18.n : Nat) : Int)] w34 fun r_ w35 => ∃ t147_x2 : Int, r_ = .returned (.i t147_x2) ∧ 
  (0 : Int) ≤ t147_x2 ∧ t147_x2 ≤ ((b18.c : Nat) : Int) ∧ ∃ (t151_x5 : Sl) (w36 : World), Sem.run Try.prog (Builtin.append_ #[ty_sl_uint8, ty_sl_uint8] ty_sl_uint8 #[.slice (some (nb w8)) 0 0, b18.v]) w35 = .ok (t151_x5.v) w36 ∧ ∃ (t154_x5 : Sl) (w37 : World), Sem.run Try.prog (Builtin.append_ #[ty_sl_uint8, ty_sl_uint8] ty_sl_uint8 #[t151_x5.v, .slice (some (nb w24)) 1 1]) w36 = .ok (t154_x5.v) w37 ∧ nwV w37 (.cells #[.slice (if raw5.c = 0 then raw5.a else raw5.a.map (·.add (0 * 1))) ((Int.toNat (if 40 < ((raw5.n : Nat) : Int) then 40 else ((raw5.n : Nat) : Int))) - 0) (raw5.c - 0), t129.v, .slice (if b18.c = 0 then b18.a else b18.a.map (·.add (0 * 1))) ((Int.toNat t147_x2) - 0) (b18.c - 0), t154_x5.v] ty_sl_uint8) fun w38 => 
  S5 at2 raw5 c6 all15 i16 ⟨some (nb w37), 4, 4⟩ w38 R))) ∧ (nwV w8 (.cells #[.int .u8 c6] ty_uint8) fun w39 => 
  ((Calls Try.prog n_enthymemeref01_Around #[.i at2, .i ((b18.n : Nat) : Int)] w39 fun r_ w40 => ∃ t147_x3 : Int, r_ = .returned (.i t147_x3) ∧ 
  (0 : Int) ≤ t147_x3 ∧ t147_x3 ≤ ((b18.c : Nat) : Int) ∧ nwV w40 (.cells #[] ty_uint8) fun w41 => 
  ∃ (t151_x6 : Sl) (w42 : World), Sem.run Try.prog (Builtin.append_ #[ty_sl_uint8, ty_sl_uint8] ty_sl_uint8 #[.slice (some (nb w40)) 0 0, b18.v]) w41 = .ok (t151_x6.v) w42 ∧ ∃ (t154_x6 : Sl) (w43 : World), Sem.run Try.prog (Builtin.append_ #[ty_sl_uint8, ty_sl_uint8] ty_sl_uint8 #[t151_x6.v, .slice (some (nb w8)) 1 1]) w42 = .ok (t154_x6.v) w43 ∧ nwV w43 (.cells #[.slice (if raw5.c = 0 then raw5.a else raw5.a.map (·.add (0 * 1))) ((Int.toNat (if 40 < ((raw5.n : Nat) : Int) then 40 else ((raw5.n : Nat) : Int))) - 0) (raw5.c - 0), t129.v, .slice (if b18.c = 0 then b18.a else b18.a.map (·.add (0 * 1))) ((Int.toNat t147_x3) - 0) (b18.c - 0), t154_x6.v] ty_sl_uint8) fun w44 => 
  S5 at2 raw5 c6 all15 i16 ⟨some (nb w43), 4, 4⟩ w44 R) ∧ (nwV w39 (.cells #[] ty_uint8) fun w45 => 
  Calls Try.prog n_enthymemeref01_Around #[.i at2, .i ((b18.n : Nat) : Int)] w45 fun r_ w46 => ∃ t147_x4 : Int, r_ = .returned (.i t147_x4) ∧ 
  (0 : Int) ≤ t147_x4 ∧ t147_x4 ≤ ((b18.c : Nat) : Int) ∧ ∃ (t151_x7 : Sl) (w47 : World), Sem.run Try.prog (Builtin.append_ #[ty_sl_uint8, ty_sl_uint8] ty_sl_uint8 #[.slice (some (nb w39)) 0 0, b18.v]) w46 = .ok (t151_x7.v) w47 ∧ ∃ (t154_x7 : Sl) (w48 : World), Sem.run Try.prog (Builtin.append_ #[ty_sl_uint8, ty_sl_uint8] ty_sl_uint8 #[t151_x7.v, .slice (some (nb w8)) 1 1]) w47 = .ok (t154_x7.v) w48 ∧ nwV w48 (.cells #[.slice (if raw5.c = 0 then raw5.a else raw5.a.map (·.add (0 * 1))) ((Int.toNat (if 40 < ((raw5.n : Nat) : Int) then 40 else ((raw5.n : Nat) : Int))) - 0) (raw5.c - 0), t129.v, .slice (if b18.c = 0 then b18.a else b18.a.map (·.add (0 * 1))) ((Int.toNat t147_x4) - 0) (b18.c - 0), t154_x7.v] ty_sl_uint8) fun w49 => 
  S5 at2 raw5 c6 all15 i16 ⟨some (nb w48), 4, 4⟩ w49 R)))))))))
def KE_S2 (E : Env) (w : World) (R : Post) : Prop := W.asInt .i64 (Env.get? E 2) fun at2 => asSlice (Env.get? E 5) fun raw5 => W.asInt .u8 (Env.get? E 6) fun c6 => asSlice (Env.get? E 15) fun all15 => W.asInt .i64 (Env.get? E 16) fun i16 => asSlice (Env.get? E 18) fun b18 => W.asInt .i64 (Env.get? E 19) fun e19 => S2 at2 raw5 c6 all15 i16 b18 e19 w R
theorem KE_S2_ok (R : Post) (E : Env) (w : World) (h : KE_S2 E w R) : WP Try.prog (cx 197) C47 (Q11 R) E w := by
  obtain ⟨at2, hq2, h_1⟩ := asInt_elim h
  obtain ⟨raw5, hq5, h_2⟩ := asSlice_elim h_1
  obtain ⟨c6, hq6, h_3⟩ := asInt_elim h_2
  obtain ⟨all15, hq15, h_4⟩ := asSlice_elim h_3
  obtain ⟨i16, hq16, h_5⟩ := asInt_elim h_4
  obtain ⟨b18, hq18, h_6⟩ := asSlice_elim h_5
  obtain ⟨e19, hq19, h_7⟩ := asInt_elim h_6
  exact fun a ha => WP.at (E := [(2, .i at2), (5, raw5.v), (6, .int .u8 c6), (15, all15.v), (16, .i i16), (18, b18.v), (19, .i e19)]) (sr C47 (K := fun E w => condK (Env.val E (.tmp 106)) (KE_S3 E w R) (srK Try.prog C21 (fun E w => sdK Try.prog C23 [0, 1, 2, 3, 5, 6, 7, 8, 9, 10, 4, 11, 12, 13, 14, 15, 16, 17] (fun E w => condK (Env.val E (.tmp 126)) (KE_S4 E w R) (srK Try.prog C26 (fun E w => srK Try.prog C28 (fun E w => stK Try.prog C29 (.one 0 (.one 1 (.one 2 (.one 3 (.one 4 (.one 5 (.one 6 (.one 7 (.one 8 (.one 9 (.one 13 (.one 15 (.fork (.one 10 (.one 11 (.fork (.one 12 (.fork (.one 14 (.one 16 (.one 17 (.one 18 (.one 19 .nil))))) (.one 16 (.one 14 (.one 17 (.one 18 (.one 19 .nil))))))) (.one 16 (.one 12 (.one 14 (.one 17 (.one 18 (.one 19 .nil))))))))) (.fork (.one 12 (.fork (.one 10 (.one 11 (.fork (.one 14 (.one 16 (.one 17 (.one 18 (.one 19 .nil))))) (.one 16 (.one 14 (.one 17 (.one 18 (.one 19 .nil)))))))) (.one 16 (.one 10 (.one 11 (.one 14 (.one 17 (.one 18 (.one 19 .nil))))))))) (.one 16 (.fork (.one 10 (.one 11 (.one 12 (.one 14 (.one 17 (.one 18 (.one 19 .nil))))))) (.one 12 (.one 10 (.one 11 (.one 14 (.one 17 (.one 18 (.one 19 .nil))))))))))))))))))))))) (fun E w => KE_S5 E w R) E w) E w) E w)) E w) E w)) (Eq.mp (by kernel_rfl) h_7) fun _ _ hK => (cn C48 hK (fun hK => (xt C49 1 (by kernel_rfl) fun a hA => nx hA (KE_S3_ok R _ _ hK))) (fun hK => (sk C50 fun a hA => nx hA (sr C21 hK fun _ _ hK => (sq C22 (sd C23 (by kernel_rfl) hK fun _ _ hK => (cn C24 hK (fun hK => (KE_S4_ok R _ _ hK)) (fun hK => (sk C51 fun a hA => nx hA (sr C26 hK fun _ _ hK => (sr C28 hK fun _ _ hK => (st C29 (by kernel_rfl) hK fun _ _ hK => (KE_S5_ok R _ _ hK)))))))))))))) (ha.cons hq2 (ha.cons hq5 (ha.cons hq6 (ha.cons hq15 (ha.cons hq16 (ha.cons hq18 (ha.cons hq19 ha.nil)))))))
noncomputable def C52:=C6.fs
noncomputable def C53:=C52.sn
noncomputable def C54:=C53.fs
noncomputable def C55:=C16.sn
noncomputable def C56:=C53.sn
noncomputable def C57:=C7.sn
theorem L0_step (at2 : Int) (raw5 : Sl) (c6 : Int) (all15 : Sl) (i16 : Int) (w : World) (R : Post) (h : sel (decide (i16 < ((all15.n : Nat) : Int))) ((0 : Int) ≤ i16 ∧ i16 < ((all15.n : Nat) : Int) ∧ optP all15.a fun t43_p => ∃ t44_0 : Int, ∃ t44_1 : Int, ∃ t44_2 : Int, ∃ t44_3 : Int, ∃ t44_4 : ByteArray, ∃ t44_5 : Sl, w.cell? ((t43_p.add (Int.toNat i16 * 6)).add 0) = some (.i t44_0) ∧ w.cell? ((t43_p.add (Int.toNat i16 * 6)).add 1) = some (.i t44_1) ∧ w.cell? ((t43_p.add (Int.toNat i16 * 6)).add 2) = some (.i t44_2) ∧ w.cell? ((t43_p.add (Int.toNat i16 * 6)).add 3) = some (.u t44_3) ∧ w.cell? ((t43_p.add (Int.toNat i16 * 6)).add 4) = some (.string t44_4) ∧ w.cell? ((t43_p.add (Int.toNat i16 * 6)).add 5) = some (t44_5.v) ∧ 
  Calls Try.prog n_enthymemeref06_Valid #[.agg #[.i t44_0, .i t44_1, .i t44_2, .u t44_3, .string t44_4, t44_5.v]] w fun r_ w2 => ∃ t45 : Int, r_ = .returned (.i t45) ∧ 
  (0 : Int) ≤ i16 ∧ i16 < ((all15.n : Nat) : Int) ∧ optP all15.a fun t49_p => ∃ t50_0 : Int, ∃ t50_1 : Int, ∃ t50_2 : Int, ∃ t50_3 : Int, ∃ t50_4 : ByteArray, ∃ t50_5 : Sl, w2.cell? ((t49_p.add (Int.toNat i16 * 6)).add 0) = some (.i t50_0) ∧ w2.cell? ((t49_p.add (Int.toNat i16 * 6)).add 1) = some (.i t50_1) ∧ w2.cell? ((t49_p.add (Int.toNat i16 * 6)).add 2) = some (.i t50_2) ∧ w2.cell? ((t49_p.add (Int.toNat i16 * 6)).add 3) = some (.u t50_3) ∧ w2.cell? ((t49_p.add (Int.toNat i16 * 6)).add 4) = some (.string t50_4) ∧ w2.cell? ((t49_p.add (Int.toNat i16 * 6)).add 5) = some (t50_5.v) ∧ 
  Calls Try.prog n_enthymemelaw06_own #[.agg #[.i t50_0, .i t50_1, .i t50_2, .u t50_3, .string t50_4, t50_5.v]] w2 fun r_ w3 => ∃ t51_0 : Int, ∃ t51_1 : Int, ∃ t51_2 : Int, ∃ t51_3 : Int, ∃ t51_4 : ByteArray, ∃ t51_5 : Sl, r_ = .returned (.agg #[.i t51_0, .i t51_1, .i t51_2, .u t51_3, .string t51_4, t51_5.v]) ∧ 
  Calls Try.prog n_value_Encode #[.agg #[.i t51_0, .i t51_1, .i t51_2, .u t51_3, .string t51_4, t51_5.v]] w3 fun r_ w4 => ∃ t52_0 : Sl, ∃ t52_1 : Int, r_ = .returned (.tuple #[t52_0.v, .i t52_1]) ∧ 
  (0 : Int) ≤ i16 ∧ i16 < ((all15.n : Nat) : Int) ∧ optP all15.a fun t57_p => ∃ t58_0 : Int, ∃ t58_1 : Int, ∃ t58_2 : Int, ∃ t58_3 : Int, ∃ t58_4 : ByteArray, ∃ t58_5 : Sl, w4.cell? ((t57_p.add (Int.toNat i16 * 6)).add 0) = some (.i t58_0) ∧ w4.cell? ((t57_p.add (Int.toNat i16 * 6)).add 1) = some (.i t58_1) ∧ w4.cell? ((t57_p.add (Int.toNat i16 * 6)).add 2) = some (.i t58_2) ∧ w4.cell? ((t57_p.add (Int.toNat i16 * 6)).add 3) = some (.u t58_3) ∧ w4.cell? ((t57_p.add (Int.toNat i16 * 6)).add 4) = some (.string t58_4) ∧ w4.cell? ((t57_p.add (Int.toNat i16 * 6)).add 5) = some (t58_5.v) ∧ 
  Calls Try.prog n_enthymemeref06_Encode #[.agg #[.i t58_0, .i t58_1, .i t58_2, .u t58_3, .string t58_4, t58_5.v]] w4 fun r_ w5 => ∃ t59 : Sl, r_ = .returned (t59.v) ∧ 
  Calls Try.prog n_value_Decode #[t59.v] w5 fun r_ w6 => ∃ t62_0_0 : Int, ∃ t62_0_1 : Int, ∃ t62_0_2 : Int, ∃ t62_0_3 : Int, ∃ t62_0_4 : ByteArray, ∃ t62_0_5 : Sl, ∃ t62_1 : Int, r_ = .returned (.tuple #[.agg #[.i t62_0_0, .i t62_0_1, .i t62_0_2, .u t62_0_3, .string t62_0_4, t62_0_5.v], .i t62_1]) ∧ 
  nwV w6 (.cells #[.i 0, .i 0, .i 0, .u 0, .s0, .slice none 0 0] ty_value_Value) fun w7 => 
  stV w7 (nb w6) (.i t62_0_0) fun w8 => 
  stV w8 ((nb w6).add 1) (.i t62_0_1) fun w9 => 
  stV w9 ((nb w6).add 2) (.i t62_0_2) fun w10 => 
  stV w10 ((nb w6).add 3) (.u t62_0_3) fun w11 => 
  stV w11 ((nb w6).add 4) (.string t62_0_4) fun w12 => 
  stV w12 ((nb w6).add 5) (t62_0_5.v) fun w13 => 
  drV w13 fun w14 => sel (t52_1 != t45) (S1  w14 R) (sel (t52_1 == 0) (sel (t62_1 != 0) (S1  w14 R) (Calls Try.prog n_enthymemeref01_SameBytes #[t52_0.v, t59.v] w14 fun r_ w15 => ∃ t77 : Bool, r_ = .returned (.bool t77) ∧ 
  sel (!t77) (S1  w15 R) (∃ t81_0 : Int, ∃ t81_1 : Int, ∃ t81_2 : Int, ∃ t81_3 : Int, ∃ t81_4 : ByteArray, ∃ t81_5 : Sl, w15.cell? ((nb w6).add 0) = some (.i t81_0) ∧ w15.cell? ((nb w6).add 1) = some (.i t81_1) ∧ w15.cell? ((nb w6).add 2) = some (.i t81_2) ∧ w15.cell? ((nb w6).add 3) = some (.u t81_3) ∧ w15.cell? ((nb w6).add 4) = some (.string t81_4) ∧ w15.cell? ((nb w6).add 5) = some (t81_5.v) ∧ 
  (0 : Int) ≤ i16 ∧ i16 < ((all15.n : Nat) : Int) ∧ optP all15.a fun t85_p => ∃ t86_0 : Int, ∃ t86_1 : Int, ∃ t86_2 : Int, ∃ t86_3 : Int, ∃ t86_4 : ByteArray, ∃ t86_5 : Sl, w15.cell? ((t85_p.add (Int.toNat i16 * 6)).add 0) = some (.i t86_0) ∧ w15.cell? ((t85_p.add (Int.toNat i16 * 6)).add 1) = some (.i t86_1) ∧ w15.cell? ((t85_p.add (Int.toNat i16 * 6)).add 2) = some (.i t86_2) ∧ w15.cell? ((t85_p.add (Int.toNat i16 * 6)).add 3) = some (.u t86_3) ∧ w15.cell? ((t85_p.add (Int.toNat i16 * 6)).add 4) = some (.string t86_4) ∧ w15.cell? ((t85_p.add (Int.toNat i16 * 6)).add 5) = some (t86_5.v) ∧ 
  Calls Try.prog n_enthymemelaw06_plain #[.agg #[.i t81_0, .i t81_1, .i t81_2, .u t81_3, .string t81_4, t81_5.v]] w15 fun r_ w16 => ∃ t82_0 : Int, ∃ t82_1 : Int, ∃ t82_2 : Int, ∃ t82_3 : Int, ∃ t82_4 : ByteArray, ∃ t82_5 : Sl, r_ = .returned (.agg #[.i t82_0, .i t82_1, .i t82_2, .u t82_3, .string t82_4, t82_5.v]) ∧ 
  w16.cell? ((t85_p.add (Int.toNat i16 * 6)).add 0) = some (.i t86_0) ∧ w16.cell? ((t85_p.add (Int.toNat i16 * 6)).add 1) = some (.i t86_1) ∧ w16.cell? ((t85_p.add (Int.toNat i16 * 6)).add 2) = some (.i t86_2) ∧ w16.cell? ((t85_p.add (Int.toNat i16 * 6)).add 3) = some (.u t86_3) ∧ w16.cell? ((t85_p.add (Int.toNat i16 * 6)).add 4) = some (.string t86_4) ∧ w16.cell? ((t85_p.add (Int.toNat i16 * 6)).add 5) = some (t86_5.v) ∧ Calls Try.prog n_enthymemeref06_Same #[.agg #[.i t82_0, .i t82_1, .i t82_2, .u t82_3, .string t82_4, t82_5.v], .agg #[.i t86_0, .i t86_1, .i t86_2, .u t86_3, .string t86_4, t86_5.v]] w16 fun r_ w17 => ∃ t87 : Bool, r_ = .returned (.bool t87) ∧ 
  sel (!t87) (S1  w17 R) (sel (t52_1 != 0) (sel (t62_1 != 2) (S1  w17 R) (sel (decide (((t52_0.n : Nat) : Int) > 0)) (S1  w17 R) (S2 at2 raw5 c6 all15 i16 t52_0 t52_1 w17 R))) (S2 at2 raw5 c6 all15 i16 t52_0 t52_1 w17 R))))) (sel (t52_1 != 0) (sel (t62_1 != 2) (S1  w14 R) (sel (decide (((t52_0.n : Nat) : Int) > 0)) (S1  w14 R) (S2 at2 raw5 c6 all15 i16 t52_0 t52_1 w14 R))) (S2 at2 raw5 c6 all15 i16 t52_0 t52_1 w14 R)))) (Calls Try.prog n_enthymemelaw06_lives #[] w fun r_ w18 => ∃ t196 : Bool, r_ = .returned (.bool t196) ∧ 
  R (.returned (.bool t196)) w18)) : L0 at2 raw5 c6 all15 i16 w R :=
  LP.step (n := (cx 197)) (c := C6) (E := [(2, .i at2), (5, raw5.v), (6, .int .u8 c6), (15, all15.v), (16, .i i16)]) (w := w) (sq C6 (sr C52 (show (fun (E : Env) (w : World) => srK Try.prog C52 (fun E w => condK (Env.val E (.tmp 38)) (srK Try.prog C10 (fun E w => srK Try.prog C11 (fun E w => srK Try.prog C12 (fun E w => srK Try.prog C13 (fun E w => sdK Try.prog C15 [0, 1, 2, 3, 4, 5, 6, 7, 8, 9, 10, 11, 12, 13, 14, 15, 16, 18, 19, 20, 21, 17, 22, 23, 24, 25, 26, 27, 28, 29, 30, 31, 32, 33, 34, 35, 36, 37, 38, 39] (fun E w => condK (Env.val E (.tmp 104)) (KE_S1 E w R) (KE_S2 E w R)) E w) E w) E w) E w) E w) (srK Try.prog C7 (fun E w => retVC Try.prog Try.f8 E w (fun v => R (.returned v) w)) E w)) E w) [(2, .i at2), (5, raw5.v), (6, .int .u8 c6), (15, all15.v), (16, .i i16)] w from Eq.mp (by kernel_rfl) h) fun _ _ hK => (cn C53 hK (fun hK => (sk C54 fun a hA => nx hA (sq C8 (bk C9 1 (by kernel_rfl) (sr C10 hK fun _ _ hK => (sr C11 hK fun _ _ hK => (sr C12 hK fun _ _ hK => (sr C13 hK fun _ _ hK => (sq C14 (sd C15 (by kernel_rfl) hK fun _ _ hK => (cn C16 hK (fun hK => (KE_S1_ok R _ _ hK)) (fun hK => (sk C55 fun a hA => nx hA (sq C19 (KE_S2_ok R _ _ hK))))))))))))))) (fun hK => (xt C56 0 (by kernel_rfl) fun a hA => nx hA (sr C7 hK fun _ _ hK => (rt C57 fun a hA => retVC_sound hA hK)))))))
/-- enthymeme/enthymemelaw06.ValueBytes -/
theorem ok (n0 : Int) (l1 : Sl) (at2 how3 by4 : Int) (raw5 : Sl) (c6 : Int) (w : World) (R : Post) (h : Calls Try.prog n_enthymemelaw06_some #[.i n0, l1.v, .i at2, .i how3, .i by4] w fun r_ w1 => ∃ t34 : Sl, r_ = .returned (t34.v) ∧ 
  L0 at2 raw5 c6 t34 0 w1 R) : Calls Try.prog n_enthymemelaw06_ValueBytes #[.i n0, l1.v, .i at2, .i how3, .i by4, raw5.v, .int .u8 c6] w R :=
  calls_of_WP' (R := R) (fn := Try.f8) (c := C0) (args := [.i n0, l1.v, .i at2, .i how3, .i by4, raw5.v, .int .u8 c6]) (by kernel_rfl) (by kernel_rfl) (by kernel_rfl) (sr C0 (show (fun (E : Env) (w : World) => srK Try.prog C0 (fun E w => srK Try.prog C1 (fun E w => srK Try.prog C3 (fun E w => KE_L0 E w R) E w) E w) E w) (envOf 0 [.i n0, l1.v, .i at2, .i how3, .i by4, raw5.v, .int .u8 c6]) w from Eq.mp (by kernel_rfl) h) fun _ _ hK => (sr C1 hK fun _ _ hK => (sq C2 (sr C3 hK fun _ _ hK => (bk C4 0 (by kernel_rfl) (lp C5 (by kernel_rfl) (KE_L0_ok R _ _ hK)))))))
def L0T (at2 : Int) (raw5 : Sl) (c6 : Int) (all15 : Sl) (i16 : Int) (w : World) (R : Post) : Prop := LC w [] → L0 at2 raw5 c6 all15 i16 w R
abbrev S1T  (w : World) (R : Post) : Prop :=
  R (.returned (.bool false)) w
theorem S1T_ok  {w : World} {R : Post} (h : S1T  w R) (H : LC w []) : S1  w R := h
abbrev S3T (at2 : Int) (raw5 : Sl) (c6 : Int) (all15 : Sl) (i16 : Int) (w : World) (R : Post) : Prop :=
  L0T at2 raw5 c6 all15 (IntKind.wrap .i64 (i16 + 1)) w R
theorem S3T_ok {at2 : Int} {raw5 : Sl} {c6 : Int} {all15 : Sl} {i16 : Int} {w : World} {R : Post} (h : S3T at2 raw5 c6 all15 i16 w R) (H : LC w []) : S3 at2 raw5 c6 all15 i16 w R := h (LC.nil _)
abbrev S4T  (w : World) (R : Post) : Prop :=
  R (.returned (.bool false)) w
theorem S4T_ok  {w : World} {R : Post} (h : S4T  w R) (H : LC w []) : S4  w R := h
def L6T (at2 : Int) (raw5 : Sl) (c6 : Int) (all15 : Sl) (i16 : Int) (tries25 : Sl) (k26 : Int) (w : World) (R : Post) : Prop := LC w [] → L6 at2 raw5 c6 all15 i16 tries25 k26 w R
abbrev S7T  (w : World) (R : Post) : Prop :=
  R (.returned (.bool false)) w
theorem S7T_ok  {w : World} {R : Post} (h : S7T  w R) (H : LC w []) : S7  w R := h
abbrev S8T (at2 : Int) (raw5 : Sl) (c6 : Int) (all15 : Sl) (i16 : Int) (tries25 : Sl) (k26 : Int) (w : World) (R : Post) : Prop :=
  L6T at2 raw5 c6 all15 i16 tries25 (IntKind.wrap .i64 (k26 + 1)) w R
theorem S8T_ok {at2 : Int} {raw5 : Sl} {c6 : Int} {all15 : Sl} {i16 : Int} {tries25 : Sl} {k26 : Int} {w : World} {R : Post} (h : S8T at2 raw5 c6 all15 i16 tries25 k26 w R) (H : LC w []) : S8 at2 raw5 c6 all15 i16 tries25 k26 w R := h (LC.nil _)
theorem L6T_step (at2 : Int) (raw5 : Sl) (c6 : Int) (all15 : Sl) (i16 : Int) (tries25 : Sl) (k26 : Int) (w : World) (R : Post) (h : sel (decide (k26 < ((tries25.n : Nat) : Int))) ((0 : Int) ≤ k26 ∧ k26 < ((tries25.n : Nat) : Int) ∧ optP tries25.a fun t165_p => ∃ t166 : Sl, w.cell? (t165_p.add (Int.toNat k26 * 1)) = some (t166.v) ∧ 
  Calls Try.prog n_value_Decode #[t166.v] w fun r_ w1 => ∃ t167_0_0 : Int, ∃ t167_0_1 : Int, ∃ t167_0_2 : Int, ∃ t167_0_3 : Int, ∃ t167_0_4 : ByteArray, ∃ t167_0_5 : Sl, ∃ t167_1 : Int, r_ = .returned (.tuple #[.agg #[.i t167_0_0, .i t167_0_1, .i t167_0_2, .u t167_0_3, .string t167_0_4, t167_0_5.v], .i t167_1]) ∧ 
  newV [] w1 fun b27 w2 => 
  sel (t167_1 != 0) (sel (t167_1 != 2) (loc [b27] w2 fun w9 => S7T  w9 R) (sel (t167_1 == 0) (loc [b27] w2 fun w9 => callF [b27] Try.prog n_value_Valid #[.agg #[.i t167_0_0, .i t167_0_1, .i t167_0_2, .u t167_0_3, .string t167_0_4, t167_0_5.v]] w9 fun r_ w10 => ∃ t181 : Int, r_ = .returned (.i t181) ∧ 
  sel (t181 != 0) (S7T  w10 R) ((0 : Int) ≤ k26 ∧ k26 < ((tries25.n : Nat) : Int) ∧ optP tries25.a fun t189_p => ∃ t190 : Sl, w10.cell? (t189_p.add (Int.toNat k26 * 1)) = some (t190.v) ∧ 
  callF [b27] Try.prog n_enthymemelaw06_plain #[.agg #[.i t167_0_0, .i t167_0_1, .i t167_0_2, .u t167_0_3, .string t167_0_4, t167_0_5.v]] w10 fun r_ w11 => ∃ t185_0 : Int, ∃ t185_1 : Int, ∃ t185_2 : Int, ∃ t185_3 : Int, ∃ t185_4 : ByteArray, ∃ t185_5 : Sl, r_ = .returned (.agg #[.i t185_0, .i t185_1, .i t185_2, .u t185_3, .string t185_4, t185_5.v]) ∧ 
  w11.cell? (t189_p.add (Int.toNat k26 * 1)) = some (t190.v) ∧ callF [b27] Try.prog n_enthymemeref06_Encode #[.agg #[.i t185_0, .i t185_1, .i t185_2, .u t185_3, .string t185_4, t185_5.v]] w11 fun r_ w12 => ∃ t186 : Sl, r_ = .returned (t186.v) ∧ 
  w12.cell? (t189_p.add (Int.toNat k26 * 1)) = some (t190.v) ∧ callF [b27] Try.prog n_enthymemeref01_SameBytes #[t186.v, t190.v] w12 fun r_ w13 => ∃ t191 : Bool, r_ = .returned (.bool t191) ∧ 
  sel (!t191) (S7T  w13 R) (S8T at2 raw5 c6 all15 i16 tries25 k26 w13 R))) (loc [b27] w2 fun w9 => S8T at2 raw5 c6 all15 i16 tries25 k26 w9 R))) (sel (t167_1 == 0) (loc [b27] w2 fun w9 => callF [b27] Try.prog n_value_Valid #[.agg #[.i t167_0_0, .i t167_0_1, .i t167_0_2, .u t167_0_3, .string t167_0_4, t167_0_5.v]] w9 fun r_ w14 => ∃ t181_x1 : Int, r_ = .returned (.i t181_x1) ∧ 
  sel (t181_x1 != 0) (S7T  w14 R) ((0 : Int) ≤ k26 ∧ k26 < ((tries25.n : Nat) : Int) ∧ optP tries25.a fun t189_x1_p => ∃ t190_x1 : Sl, w14.cell? (t189_x1_p.add (Int.toNat k26 * 1)) = some (t190_x1.v) ∧ 
  callF [b27] Try.prog n_enthymemelaw06_plain #[.agg #[.i t167_0_0, .i t167_0_1, .i t167_0_2, .u t167_0_3, .string t167_0_4, t167_0_5.v]] w14 fun r_ w15 => ∃ t185_x1_0 : Int, ∃ t185_x1_1 : Int, ∃ t185_x1_2 : Int, ∃ t185_x1_3 : Int, ∃ t185_x1_4 : ByteArray, ∃ t185_x1_5 : Sl, r_ = .returned (.agg #[.i t185_x1_0, .i t185_x1_1, .i t185_x1_2, .u t185_x1_3, .string t185_x1_4, t185_x1_5.v]) ∧ 
  w15.cell? (t189_x1_p.add (Int.toNat k26 * 1)) = some (t190_x1.v) ∧ callF [b27] Try.prog n_enthymemeref06_Encode #[.agg #[.i t185_x1_0, .i t185_x1_1, .i t185_x1_2, .u t185_x1_3, .string t185_x1_4, t185_x1_5.v]] w15 fun r_ w16 => ∃ t186_x1 : Sl, r_ = .returned (t186_x1.v) ∧ 
  w16.cell? (t189_x1_p.add (Int.toNat k26 * 1)) = some (t190_x1.v) ∧ callF [b27] Try.prog n_enthymemeref01_SameBytes #[t186_x1.v, t190_x1.v] w16 fun r_ w17 => ∃ t191_x1 : Bool, r_ = .returned (.bool t191_x1) ∧ 
  sel (!t191_x1) (S7T  w17 R) (S8T at2 raw5 c6 all15 i16 tries25 k26 w17 R))) (loc [b27] w2 fun w9 => S8T at2 raw5 c6 all15 i16 tries25 k26 w9 R))) (S3T at2 raw5 c6 all15 i16 w R)) : L6T at2 raw5 c6 all15 i16 tries25 k26 w R := fun H => L6_step _ _ _ _ _ _ _ w R (sel_imp h (fun h => ⟨h.1, h.2.1, have h := h.2.2; optP_imp h fun t165_p h => let ⟨t166, hc0, h⟩ := h; ⟨t166, hc0, Calls.mono h fun r_ w1 h => let ⟨t167_0_0, t167_0_1, t167_0_2, t167_0_3, t167_0_4, t167_0_5, t167_1, hr, h⟩ := h; ⟨t167_0_0, t167_0_1, t167_0_2, t167_0_3, t167_0_4, t167_0_5, t167_1, hr, LC.nwT (LC.nil _) (Fr.refl _ _) h fun w2 H h => LC.stT0 H 0 (Fr.refl _ _) rfl rfl fun w3 H f => LC.stT H 0 1 f rfl rfl fun w4 H f => LC.stT H 0 2 f rfl rfl fun w5 H f => LC.stT H 0 3 f rfl rfl fun w6 H f => LC.stT H 0 4 f rfl rfl fun w7 H f => LC.stT H 0 5 f rfl rfl fun w8 (H : LC w8 [(w1.heap.size, [.i t167_0_0, .i t167_0_1, .i t167_0_2, .u t167_0_3, .string t167_0_4, t167_0_5.v], ty_value_Value)]) (f : Fr (· ∈ [w1.heap.size]) _ w8) => LC.drT H f fun w9 H f => sel_imp h (fun h => sel_imp h (fun h => have h := h _ f; S7T_ok h (LC.nil _)) (fun h => sel_imp h (fun h => ⟨_, _, _, _, _, t167_0_5, H.ld 0 0, H.ld 0 1, H.ld 0 2, H.ld 0 3, H.ld 0 4, H.ld 0 5, have h := h _ f; LC.callT H h fun r_ w10 H h => let ⟨t181, hr, h⟩ := h; ⟨t181, hr, sel_imp h (fun h => S7T_ok h (LC.nil _)) (fun h => ⟨_, _, _, _, _, t167_0_5, H.ld 0 0, H.ld 0 1, H.ld 0 2, H.ld 0 3, H.ld 0 4, H.ld 0 5, ⟨h.1, h.2.1, have h := h.2.2; optP_imp h fun t189_p h => let ⟨t190, hc0, h⟩ := h; ⟨t190, hc0, LC.callT H h fun r_ w11 H h => let ⟨t185_0, t185_1, t185_2, t185_3, t185_4, t185_5, hr, h⟩ := h; ⟨t185_0, t185_1, t185_2, t185_3, t185_4, t185_5, hr, ⟨h.1, have h := h.2; LC.callT H h fun r_ w12 H h => let ⟨t186, hr, h⟩ := h; ⟨t186, hr, ⟨h.1, have h := h.2; LC.callT H h fun r_ w13 H h => let ⟨t191, hr, h⟩ := h; ⟨t191, hr, sel_imp h (fun h => S7T_ok h (LC.nil _)) (fun h => S8T_ok h (LC.nil _))⟩⟩⟩⟩⟩⟩⟩⟩)⟩⟩) (fun h => have h := h _ f; S8T_ok h (LC.nil _)))) (fun h => sel_imp h (fun h => ⟨_, _, _, _, _, t167_0_5, H.ld 0 0, H.ld 0 1, H.ld 0 2, H.ld 0 3, H.ld 0 4, H.ld 0 5, have h := h _ f; LC.callT H h fun r_ w14 H h => let ⟨t181_x1, hr, h⟩ := h; ⟨t181_x1, hr, sel_imp h (fun h => S7T_ok h (LC.nil _)) (fun h => ⟨_, _, _, _, _, t167_0_5, H.ld 0 0, H.ld 0 1, H.ld 0 2, H.ld 0 3, H.ld 0 4, H.ld 0 5, ⟨h.1, h.2.1, have h := h.2.2; optP_imp h fun t189_x1_p h => let ⟨t190_x1, hc0, h⟩ := h; ⟨t190_x1, hc0, LC.callT H h fun r_ w15 H h => let ⟨t185_x1_0, t185_x1_1, t185_x1_2, t185_x1_3, t185_x1_4, t185_x1_5, hr, h⟩ := h; ⟨t185_x1_0, t185_x1_1, t185_x1_2, t185_x1_3, t185_x1_4, t185_x1_5, hr, ⟨h.1, have h := h.2; LC.callT H h fun r_ w16 H h => let ⟨t186_x1, hr, h⟩ := h; ⟨t186_x1, hr, ⟨h.1, have h := h.2; LC.callT H h fun r_ w17 H h => let ⟨t191_x1, hr, h⟩ := h; ⟨t191_x1, hr, sel_imp h (fun h => S7T_ok h (LC.nil _)) (fun h => S8T_ok h (LC.nil _))⟩⟩⟩⟩⟩⟩⟩⟩)⟩⟩) (fun h => have h := h _ f; S8T_ok h (LC.nil _)))⟩⟩⟩) (fun h => S3T_ok h (LC.nil _)))
abbrev S5T (at2 : Int) (raw5 : Sl) (c6 : Int) (all15 : Sl) (i16 : Int) (tries25 : Sl) (w : World) (R : Post) : Prop :=
  L6T at2 raw5 c6 all15 i16 tries25 0 w R
theorem S5T_ok {at2 : Int} {raw5 : Sl} {c6 : Int} {all15 : Sl} {i16 : Int} {tries25 : Sl} {w : World} {R : Post} (h : S5T at2 raw5 c6 all15 i16 tries25 w R) (H : LC w []) : S5 at2 raw5 c6 all15 i16 tries25 w R := h (LC.nil _)
abbrev S2T (at2 : Int) (raw5 : Sl) (c6 : Int) (all15 : Sl) (i16 : Int) (b18 : Sl) (e19 : Int) (w : World) (R : Post) : Prop :=
  sel (e19 != 0) (S3T at2 raw5 c6 all15 i16 w R) (Calls Try.prog n_wire_Read #[b18.v] w fun r_ w1 => ∃ t108 : Option Addr, r_ = .returned (.pointer t108) ∧ 
  drV w1 fun w2 => sel t108.isNone (S4T  w2 R) ((0 : Int) ≤ i16 ∧ i16 < ((all15.n : Nat) : Int) ∧ optP all15.a fun t116_p => ∃ t119 : Int, w2.cell? (((t116_p.add (Int.toNat i16 * 6)).add 0).add 0) = some (.i t119) ∧ 
  Calls Try.prog n_wire_Reader_Int #[.pointer t108] w2 fun r_ w3 => ∃ t113 : Int, r_ = .returned (.i t113) ∧ 
  w3.cell? (((t116_p.add (Int.toNat i16 * 6)).add 0).add 0) = some (.i t119) ∧ sel (t113 != t119) (S4T  w3 R) (sel (((b18.n : Nat) : Int) == 0) (S4T  w3 R) (nwV w3 (.cells #[] ty_uint8) fun w4 => 
  ∃ (t129 : Sl) (w5 : World), Sem.run Try.prog (Builtin.append_ #[ty_sl_uint8, ty_sl_uint8] ty_sl_uint8 #[.slice (some (nb w3)) 0 0, b18.v]) w4 = .ok (t129.v) w5 ∧ Calls Try.prog n_enthymemeref01_Around #[.i at2, .i ((t129.n : Nat) : Int)] w5 fun r_ w6 => ∃ t134 : Int, r_ = .returned (.i t134) ∧ 
  (0 : Int) ≤ t134 ∧ t134 < ((t129.n : Nat) : Int) ∧ optP t129.a fun t136_p => stV w6 (t136_p.add (Int.toNat t134 * 1)) (.int .u8 c6) fun w7 => 
  drV w7 fun w8 => (0 : Int) ≤ (if 40 < ((raw5.n : Nat) : Int) then 40 else ((raw5.n : Nat) : Int)) ∧ (if 40 < ((raw5.n : Nat) : Int) then 40 else ((raw5.n : Nat) : Int)) ≤ ((raw5.c : Nat) : Int) ∧ ((Calls Try.prog n_enthymemeref01_Around #[.i at2, .i ((b18.n : Nat) : Int)] w8 fun r_ w9 => ∃ t147 : Int, r_ = .returned (.i t147) ∧ 
  (0 : Int) ≤ t147 ∧ t147 ≤ ((b18.c : Nat) : Int) ∧ ((nwV w9 (.cells #[] ty_uint8) fun w10 => 
  ((∃ (t151 : Sl) (w11 : World), Sem.run Try.prog (Builtin.append_ #[ty_sl_uint8, ty_sl_uint8] ty_sl_uint8 #[.slice (some (nb w9)) 0 0, b18.v]) w10 = .ok (t151.v) w11 ∧ nwV w11 (.cells #[.int .u8 c6] ty_uint8) fun w12 => 
  ∃ (t154 : Sl) (w13 : World), Sem.run Try.prog (Builtin.append_ #[ty_sl_uint8, ty_sl_uint8] ty_sl_uint8 #[t151.v, .slice (some (nb w11)) 1 1]) w12 = .ok (t154.v) w13 ∧ nwV w13 (.cells #[.slice (if raw5.c = 0 then raw5.a else raw5.a.map (·.add (0 * 1))) ((Int.toNat (if 40 < ((raw5.n : Nat) : Int) then 40 else ((raw5.n : Nat) : Int))) - 0) (raw5.c - 0), t129.v, .slice (if b18.c = 0 then b18.a else b18.a.map (·.add (0 * 1))) ((Int.toNat t147) - 0) (b18.c - 0), t154.v] ty_sl_uint8) fun w14 => 
  S5T at2 raw5 c6 all15 i16 ⟨some (nb w13), 4, 4⟩ w14 R) ∧ (nwV w10 (.cells #[.int .u8 c6] ty_uint8) fun w15 => 
  ∃ (t151_x1 : Sl) (w16 : World), Sem.run Try.prog (Builtin.append_ #[ty_sl_uint8, ty_sl_uint8] ty_sl_uint8 #[.slice (some (nb w9)) 0 0, b18.v]) w15 = .ok (t151_x1.v) w16 ∧ ∃ (t154_x1 : Sl) (w17 : World), Sem.run Try.prog (Builtin.append_ #[ty_sl_uint8, ty_sl_uint8] ty_sl_uint8 #[t151_x1.v, .slice (some (nb w10)) 1 1]) w16 = .ok (t154_x1.v) w17 ∧ nwV w17 (.cells #[.slice (if raw5.c = 0 then raw5.a else raw5.a.map (·.add (0 * 1))) ((Int.toNat (if 40 < ((raw5.n : Nat) : Int) then 40 else ((raw5.n : Nat) : Int))) - 0) (raw5.c - 0), t129.v, .slice (if b18.c = 0 then b18.a else b18.a.map (·.add (0 * 1))) ((Int.toNat t147) - 0) (b18.c - 0), t154_x1.v] ty_sl_uint8) fun w18 => 
  S5T at2 raw5 c6 all15 i16 ⟨some (nb w17), 4, 4⟩ w18 R))) ∧ (nwV w9 (.cells #[.int .u8 c6] ty_uint8) fun w19 => 
  nwV w19 (.cells #[] ty_uint8) fun w20 => 
  ∃ (t151_x2 : Sl) (w21 : World), Sem.run Try.prog (Builtin.append_ #[ty_sl_uint8, ty_sl_uint8] ty_sl_uint8 #[.slice (some (nb w19)) 0 0, b18.v]) w20 = .ok (t151_x2.v) w21 ∧ ∃ (t154_x2 : Sl) (w22 : World), Sem.run Try.prog (Builtin.append_ #[ty_sl_uint8, ty_sl_uint8] ty_sl_uint8 #[t151_x2.v, .slice (some (nb w9)) 1 1]) w21 = .ok (t154_x2.v) w22 ∧ nwV w22 (.cells #[.slice (if raw5.c = 0 then raw5.a else raw5.a.map (·.add (0 * 1))) ((Int.toNat (if 40 < ((raw5.n : Nat) : Int) then 40 else ((raw5.n : Nat) : Int))) - 0) (raw5.c - 0), t129.v, .slice (if b18.c = 0 then b18.a else b18.a.map (·.add (0 * 1))) ((Int.toNat t147) - 0) (b18.c - 0), t154_x2.v] ty_sl_uint8) fun w23 => 
  S5T at2 raw5 c6 all15 i16 ⟨some (nb w22), 4, 4⟩ w23 R))) ∧ ((nwV w8 (.cells #[] ty_uint8) fun w24 => 
  ((Calls Try.prog n_enthymemeref01_Around #[.i at2, .i ((b18.n : Nat) : Int)] w24 fun r_ w25 => ∃ t147_x1 : Int, r_ = .returned (.i t147_x1) ∧ 
  (0 : Int) ≤ t147_x1 ∧ t147_x1 ≤ ((b18.c : Nat) : Int) ∧ ((∃ (t151_x3 : Sl) (w26 : World), Sem.run Try.prog (Builtin.append_ #[ty_sl_uint8, ty_sl_uint8] ty_sl_uint8 #[.slice (some (nb w8)) 0 0, b18.v]) w25 = .ok (t151_x3.v) w26 ∧ nwV w26 (.cells #[.int .u8 c6] ty_uint8) fun w27 => 
  ∃ (t154_x3 : Sl) (w28 : World), Sem.run Try.prog (Builtin.append_ #[ty_sl_uint8, ty_sl_uint8] ty_sl_uint8 #[t151_x3.v, .slice (some (nb w26)) 1 1]) w27 = .ok (t154_x3.v) w28 ∧ nwV w28 (.cells #[.slice (if raw5.c = 0 then raw5.a else raw5.a.map (·.add (0 * 1))) ((Int.toNat (if 40 < ((raw5.n : Nat) : Int) then 40 else ((raw5.n : Nat) : Int))) - 0) (raw5.c - 0), t129.v, .slice (if b18.c = 0 then b18.a else b18.a.map (·.add (0 * 1))) ((Int.toNat t147_x1) - 0) (b18.c - 0), t154_x3.v] ty_sl_uint8) fun w29 => 
  S5T at2 raw5 c6 all15 i16 ⟨some (nb w28), 4, 4⟩ w29 R) ∧ (nwV w25 (.cells #[.int .u8 c6] ty_uint8) fun w30 => 
  ∃ (t151_x4 : Sl) (w31 : World), Sem.run Try.prog (Builtin.append_ #[ty_sl_uint8, ty_sl_uint8] ty_sl_uint8 #[.slice (some (nb w8)) 0 0, b18.v]) w30 = .ok (t151_x4.v) w31 ∧ ∃ (t154_x4 : Sl) (w32 : World), Sem.run Try.prog (Builtin.append_ #[ty_sl_uint8, ty_sl_uint8] ty_sl_uint8 #[t151_x4.v, .slice (some (nb w25)) 1 1]) w31 = .ok (t154_x4.v) w32 ∧ nwV w32 (.cells #[.slice (if raw5.c = 0 then raw5.a else raw5.a.map (·.add (0 * 1))) ((Int.toNat (if 40 < ((raw5.n : Nat) : Int) then 40 else ((raw5.n : Nat) : Int))) - 0) (raw5.c - 0), t129.v, .slice (if b18.c = 0 then b18.a else b18.a.map (·.add (0 * 1))) ((Int.toNat t147_x1) - 0) (b18.c - 0), t154_x4.v] ty_sl_uint8) fun w33 => 
  S5T at2 raw5 c6 all15 i16 ⟨some (nb w32), 4, 4⟩ w33 R))) ∧ (nwV w24 (.cells #[.int .u8 c6] ty_uint8) fun w34 => 
  Calls Try.prog n_enthymemeref01_Around #[.i at2, .i ((b18.n : Nat) : Int)] w34 fun r_ w35 => ∃ t147_x2 : Int, r_ = .returned (.i t147_x2) ∧ 
  (0 : Int) ≤ t147_x2 ∧ t147_x2 ≤ ((b18.c : Nat) : Int) ∧ ∃ (t151_x5 : Sl) (w36 : World), Sem.run Try.prog (Builtin.append_ #[ty_sl_uint8, ty_sl_uint8] ty_sl_uint8 #[.slice (some (nb w8)) 0 0, b18.v]) w35 = .ok (t151_x5.v) w36 ∧ ∃ (t154_x5 : Sl) (w37 : World), Sem.run Try.prog (Builtin.append_ #[ty_sl_uint8, ty_sl_uint8] ty_sl_uint8 #[t151_x5.v, .slice (some (nb w24)) 1 1]) w36 = .ok (t154_x5.v) w37 ∧ nwV w37 (.cells #[.slice (if raw5.c = 0 then raw5.a else raw5.a.map (·.add (0 * 1))) ((Int.toNat (if 40 < ((raw5.n : Nat) : Int) then 40 else ((raw5.n : Nat) : Int))) - 0) (raw5.c - 0), t129.v, .slice (if b18.c = 0 then b18.a else b18.a.map (·.add (0 * 1))) ((Int.toNat t147_x2) - 0) (b18.c - 0), t154_x5.v] ty_sl_uint8) fun w38 => 
  S5T at2 raw5 c6 all15 i16 ⟨some (nb w37), 4, 4⟩ w38 R))) ∧ (nwV w8 (.cells #[.int .u8 c6] ty_uint8) fun w39 => 
  ((Calls Try.prog n_enthymemeref01_Around #[.i at2, .i ((b18.n : Nat) : Int)] w39 fun r_ w40 => ∃ t147_x3 : Int, r_ = .returned (.i t147_x3) ∧ 
  (0 : Int) ≤ t147_x3 ∧ t147_x3 ≤ ((b18.c : Nat) : Int) ∧ nwV w40 (.cells #[] ty_uint8) fun w41 => 
  ∃ (t151_x6 : Sl) (w42 : World), Sem.run Try.prog (Builtin.append_ #[ty_sl_uint8, ty_sl_uint8] ty_sl_uint8 #[.slice (some (nb w40)) 0 0, b18.v]) w41 = .ok (t151_x6.v) w42 ∧ ∃ (t154_x6 : Sl) (w43 : World), Sem.run Try.prog (Builtin.append_ #[ty_sl_uint8, ty_sl_uint8] ty_sl_uint8 #[t151_x6.v, .slice (some (nb w8)) 1 1]) w42 = .ok (t154_x6.v) w43 ∧ nwV w43 (.cells #[.slice (if raw5.c = 0 then raw5.a else raw5.a.map (·.add (0 * 1))) ((Int.toNat (if 40 < ((raw5.n : Nat) : Int) then 40 else ((raw5.n : Nat) : Int))) - 0) (raw5.c - 0), t129.v, .slice (if b18.c = 0 then b18.a else b18.a.map (·.add (0 * 1))) ((Int.toNat t147_x3) - 0) (b18.c - 0), t154_x6.v] ty_sl_uint8) fun w44 => 
  S5T at2 raw5 c6 all15 i16 ⟨some (nb w43), 4, 4⟩ w44 R) ∧ (nwV w39 (.cells #[] ty_uint8) fun w45 => 
  Calls Try.prog n_enthymemeref01_Around #[.i at2, .i ((b18.n : Nat) : Int)] w45 fun r_ w46 => ∃ t147_x4 : Int, r_ = .returned (.i t147_x4) ∧ 
  (0 : Int) ≤ t147_x4 ∧ t147_x4 ≤ ((b18.c : Nat) : Int) ∧ ∃ (t151_x7 : Sl) (w47 : World), Sem.run Try.prog (Builtin.append_ #[ty_sl_uint8, ty_sl_uint8] ty_sl_uint8 #[.slice (some (nb w39)) 0 0, b18.v]) w46 = .ok (t151_x7.v) w47 ∧ ∃ (t154_x7 : Sl) (w48 : World), Sem.run Try.prog (Builtin.append_ #[ty_sl_uint8, ty_sl_uint8] ty_sl_uint8 #[t151_x7.v, .slice (some (nb w8)) 1 1]) w47 = .ok (t154_x7.v) w48 ∧ nwV w48 (.cells #[.slice (if raw5.c = 0 then raw5.a else raw5.a.map (·.add (0 * 1))) ((Int.toNat (if 40 < ((raw5.n : Nat) : Int) then 40 else ((raw5.n : Nat) : Int))) - 0) (raw5.c - 0), t129.v, .slice (if b18.c = 0 then b18.a else b18.a.map (·.add (0 * 1))) ((Int.toNat t147_x4) - 0) (b18.c - 0), t154_x7.v] ty_sl_uint8) fun w49 => 
  S5T at2 raw5 c6 all15 i16 ⟨some (nb w48), 4, 4⟩ w49 R)))))))))
theorem S2T_ok {at2 : Int} {raw5 : Sl} {c6 : Int} {all15 : Sl} {i16 : Int} {b18 : Sl} {e19 : Int} {w : World} {R : Post} (h : S2T at2 raw5 c6 all15 i16 b18 e19 w R) (H : LC w []) : S2 at2 raw5 c6 all15 i16 b18 e19 w R := sel_imp h (fun h => S3T_ok h (LC.nil _)) (fun h => Calls.mono h fun r_ w1 h => let ⟨t108, hr, h⟩ := h; ⟨t108, hr, sel_imp h (fun h => S4T_ok h (LC.nil _)) (fun h => ⟨h.1, h.2.1, have h := h.2.2; optP_imp h fun t116_p h => let ⟨t119, hc0, h⟩ := h; ⟨t119, hc0, Calls.mono h fun r_ w3 h => let ⟨t113, hr, h⟩ := h; ⟨t113, hr, ⟨h.1, have h := h.2; sel_imp h (fun h => S4T_ok h (LC.nil _)) (fun h => sel_imp h (fun h => S4T_ok h (LC.nil _)) (fun h => let ⟨t129, w5, he, h⟩ := h; ⟨t129, w5, he, Calls.mono h fun r_ w6 h => let ⟨t134, hr, h⟩ := h; ⟨t134, hr, ⟨h.1, h.2.1, have h := h.2.2; optP_imp h fun t136_p h => stV_imp h fun w7 h => ⟨h.1, h.2.1, have h := h.2.2; ⟨have h := h.1; Calls.mono h fun r_ w9 h => let ⟨t147, hr, h⟩ := h; ⟨t147, hr, ⟨h.1, h.2.1, have h := h.2.2; ⟨have h := h.1; ⟨have h := h.1; let ⟨t151, w11, he, h⟩ := h; ⟨t151, w11, he, let ⟨t154, w13, he, h⟩ := h; ⟨t154, w13, he, S5T_ok h (LC.nil _)⟩⟩, have h := h.2; let ⟨t151_x1, w16, he, h⟩ := h; ⟨t151_x1, w16, he, let ⟨t154_x1, w17, he, h⟩ := h; ⟨t154_x1, w17, he, S5T_ok h (LC.nil _)⟩⟩⟩, have h := h.2; let ⟨t151_x2, w21, he, h⟩ := h; ⟨t151_x2, w21, he, let ⟨t154_x2, w22, he, h⟩ := h; ⟨t154_x2, w22, he, S5T_ok h (LC.nil _)⟩⟩⟩⟩⟩, ⟨have h := h.2.1; ⟨have h := h.1; Calls.mono h fun r_ w25 h => let ⟨t147_x1, hr, h⟩ := h; ⟨t147_x1, hr, ⟨h.1, h.2.1, have h := h.2.2; ⟨have h := h.1; let ⟨t151_x3, w26, he, h⟩ := h; ⟨t151_x3, w26, he, let ⟨t154_x3, w28, he, h⟩ := h; ⟨t154_x3, w28, he, S5T_ok h (LC.nil _)⟩⟩, have h := h.2; let ⟨t151_x4, w31, he, h⟩ := h; ⟨t151_x4, w31, he, let ⟨t154_x4, w32, he, h⟩ := h; ⟨t154_x4, w32, he, S5T_ok h (LC.nil _)⟩⟩⟩⟩⟩, have h := h.2; Calls.mono h fun r_ w35 h => let ⟨t147_x2, hr, h⟩ := h; ⟨t147_x2, hr, ⟨h.1, h.2.1, have h := h.2.2; let ⟨t151_x5, w36, he, h⟩ := h; ⟨t151_x5, w36, he, let ⟨t154_x5, w37, he, h⟩ := h; ⟨t154_x5, w37, he, S5T_ok h (LC.nil _)⟩⟩⟩⟩⟩, have h := h.2.2; ⟨have h := h.1; Calls.mono h fun r_ w40 h => let ⟨t147_x3, hr, h⟩ := h; ⟨t147_x3, hr, ⟨h.1, h.2.1, have h := h.2.2; let ⟨t151_x6, w42, he, h⟩ := h; ⟨t151_x6, w42, he, let ⟨t154_x6, w43, he, h⟩ := h; ⟨t154_x6, w43, he, S5T_ok h (LC.nil _)⟩⟩⟩⟩, have h := h.2; Calls.mono h fun r_ w46 h => let ⟨t147_x4, hr, h⟩ := h; ⟨t147_x4, hr, ⟨h.1, h.2.1, have h := h.2.2; let ⟨t151_x7, w47, he, h⟩ := h; ⟨t151_x7, w47, he, let ⟨t154_x7, w48, he, h⟩ := h; ⟨t154_x7, w48, he, S5T_ok h (LC.nil _)⟩⟩⟩⟩⟩⟩⟩⟩⟩⟩⟩))⟩⟩⟩⟩)⟩)
theorem L0T_step (at2 : Int) (raw5 : Sl) (c6 : Int) (all15 : Sl) (i16 : Int) (w : World) (R : Post) (h : sel (decide (i16 < ((all15.n : Nat) : Int))) ((0 : Int) ≤ i16 ∧ i16 < ((all15.n : Nat) : Int) ∧ optP all15.a fun t43_p => ∃ t44_0 : Int, ∃ t44_1 : Int, ∃ t44_2 : Int, ∃ t44_3 : Int, ∃ t44_4 : ByteArray, ∃ t44_5 : Sl, w.cell? ((t43_p.add (Int.toNat i16 * 6)).add 0) = some (.i t44_0) ∧ w.cell? ((t43_p.add (Int.toNat i16 * 6)).add 1) = some (.i t44_1) ∧ w.cell? ((t43_p.add (Int.toNat i16 * 6)).add 2) = some (.i t44_2) ∧ w.cell? ((t43_p.add (Int.toNat i16 * 6)).add 3) = some (.u t44_3) ∧ w.cell? ((t43_p.add (Int.toNat i16 * 6)).add 4) = some (.string t44_4) ∧ w.cell? ((t43_p.add (Int.toNat i16 * 6)).add 5) = some (t44_5.v) ∧ 
  Calls Try.prog n_enthymemeref06_Valid #[.agg #[.i t44_0, .i t44_1, .i t44_2, .u t44_3, .string t44_4, t44_5.v]] w fun r_ w2 => ∃ t45 : Int, r_ = .returned (.i t45) ∧ 
  (0 : Int) ≤ i16 ∧ i16 < ((all15.n : Nat) : Int) ∧ optP all15.a fun t49_p => ∃ t50_0 : Int, ∃ t50_1 : Int, ∃ t50_2 : Int, ∃ t50_3 : Int, ∃ t50_4 : ByteArray, ∃ t50_5 : Sl, w2.cell? ((t49_p.add (Int.toNat i16 * 6)).add 0) = some (.i t50_0) ∧ w2.cell? ((t49_p.add (Int.toNat i16 * 6)).add 1) = some (.i t50_1) ∧ w2.cell? ((t49_p.add (Int.toNat i16 * 6)).add 2) = some (.i t50_2) ∧ w2.cell? ((t49_p.add (Int.toNat i16 * 6)).add 3) = some (.u t50_3) ∧ w2.cell? ((t49_p.add (Int.toNat i16 * 6)).add 4) = some (.string t50_4) ∧ w2.cell? ((t49_p.add (Int.toNat i16 * 6)).add 5) = some (t50_5.v) ∧ 
  Calls Try.prog n_enthymemelaw06_own #[.agg #[.i t50_0, .i t50_1, .i t50_2, .u t50_3, .string t50_4, t50_5.v]] w2 fun r_ w3 => ∃ t51_0 : Int, ∃ t51_1 : Int, ∃ t51_2 : Int, ∃ t51_3 : Int, ∃ t51_4 : ByteArray, ∃ t51_5 : Sl, r_ = .returned (.agg #[.i t51_0, .i t51_1, .i t51_2, .u t51_3, .string t51_4, t51_5.v]) ∧ 
  Calls Try.prog n_value_Encode #[.agg #[.i t51_0, .i t51_1, .i t51_2, .u t51_3, .string t51_4, t51_5.v]] w3 fun r_ w4 => ∃ t52_0 : Sl, ∃ t52_1 : Int, r_ = .returned (.tuple #[t52_0.v, .i t52_1]) ∧ 
  (0 : Int) ≤ i16 ∧ i16 < ((all15.n : Nat) : Int) ∧ optP all15.a fun t57_p => ∃ t58_0 : Int, ∃ t58_1 : Int, ∃ t58_2 : Int, ∃ t58_3 : Int, ∃ t58_4 : ByteArray, ∃ t58_5 : Sl, w4.cell? ((t57_p.add (Int.toNat i16 * 6)).add 0) = some (.i t58_0) ∧ w4.cell? ((t57_p.add (Int.toNat i16 * 6)).add 1) = some (.i t58_1) ∧ w4.cell? ((t57_p.add (Int.toNat i16 * 6)).add 2) = some (.i t58_2) ∧ w4.cell? ((t57_p.add (Int.toNat i16 * 6)).add 3) = some (.u t58_3) ∧ w4.cell? ((t57_p.add (Int.toNat i16 * 6)).add 4) = some (.string t58_4) ∧ w4.cell? ((t57_p.add (Int.toNat i16 * 6)).add 5) = some (t58_5.v) ∧ 
  Calls Try.prog n_enthymemeref06_Encode #[.agg #[.i t58_0, .i t58_1, .i t58_2, .u t58_3, .string t58_4, t58_5.v]] w4 fun r_ w5 => ∃ t59 : Sl, r_ = .returned (t59.v) ∧ 
  Calls Try.prog n_value_Decode #[t59.v] w5 fun r_ w6 => ∃ t62_0_0 : Int, ∃ t62_0_1 : Int, ∃ t62_0_2 : Int, ∃ t62_0_3 : Int, ∃ t62_0_4 : ByteArray, ∃ t62_0_5 : Sl, ∃ t62_1 : Int, r_ = .returned (.tuple #[.agg #[.i t62_0_0, .i t62_0_1, .i t62_0_2, .u t62_0_3, .string t62_0_4, t62_0_5.v], .i t62_1]) ∧ 
  newV [] w6 fun b21 w7 => 
  sel (t52_1 != t45) (loc [b21] w7 fun w14 => S1T  w14 R) (sel (t52_1 == 0) (sel (t62_1 != 0) (loc [b21] w7 fun w14 => S1T  w14 R) (loc [b21] w7 fun w14 => callF [b21] Try.prog n_enthymemeref01_SameBytes #[t52_0.v, t59.v] w14 fun r_ w15 => ∃ t77 : Bool, r_ = .returned (.bool t77) ∧ 
  sel (!t77) (S1T  w15 R) ((0 : Int) ≤ i16 ∧ i16 < ((all15.n : Nat) : Int) ∧ optP all15.a fun t85_p => ∃ t86_0 : Int, ∃ t86_1 : Int, ∃ t86_2 : Int, ∃ t86_3 : Int, ∃ t86_4 : ByteArray, ∃ t86_5 : Sl, w15.cell? ((t85_p.add (Int.toNat i16 * 6)).add 0) = some (.i t86_0) ∧ w15.cell? ((t85_p.add (Int.toNat i16 * 6)).add 1) = some (.i t86_1) ∧ w15.cell? ((t85_p.add (Int.toNat i16 * 6)).add 2) = some (.i t86_2) ∧ w15.cell? ((t85_p.add (Int.toNat i16 * 6)).add 3) = some (.u t86_3) ∧ w15.cell? ((t85_p.add (Int.toNat i16 * 6)).add 4) = some (.string t86_4) ∧ w15.cell? ((t85_p.add (Int.toNat i16 * 6)).add 5) = some (t86_5.v) ∧ 
  callF [b21] Try.prog n_enthymemelaw06_plain #[.agg #[.i t62_0_0, .i t62_0_1, .i t62_0_2, .u t62_0_3, .string t62_0_4, t62_0_5.v]] w15 fun r_ w16 => ∃ t82_0 : Int, ∃ t82_1 : Int, ∃ t82_2 : Int, ∃ t82_3 : Int, ∃ t82_4 : ByteArray, ∃ t82_5 : Sl, r_ = .returned (.agg #[.i t82_0, .i t82_1, .i t82_2, .u t82_3, .string t82_4, t82_5.v]) ∧ 
  w16.cell? ((t85_p.add (Int.toNat i16 * 6)).add 0) = some (.i t86_0) ∧ w16.cell? ((t85_p.add (Int.toNat i16 * 6)).add 1) = some (.i t86_1) ∧ w16.cell? ((t85_p.add (Int.toNat i16 * 6)).add 2) = some (.i t86_2) ∧ w16.cell? ((t85_p.add (Int.toNat i16 * 6)).add 3) = some (.u t86_3) ∧ w16.cell? ((t85_p.add (Int.toNat i16 * 6)).add 4) = some (.string t86_4) ∧ w16.cell? ((t85_p.add (Int.toNat i16 * 6)).add 5) = some (t86_5.v) ∧ callF [b21] Try.prog n_enthymemeref06_Same #[.agg #[.i t82_0, .i t82_1, .i t82_2, .u t82_3, .string t82_4, t82_5.v], .agg #[.i t86_0, .i t86_1, .i t86_2, .u t86_3, .string t86_4, t86_5.v]] w16 fun r_ w17 => ∃ t87 : Bool, r_ = .returned (.bool t87) ∧ 
  sel (!t87) (S1T  w17 R) (sel (t52_1 != 0) (sel (t62_1 != 2) (S1T  w17 R) (sel (decide (((t52_0.n : Nat) : Int) > 0)) (S1T  w17 R) (S2T at2 raw5 c6 all15 i16 t52_0 t52_1 w17 R))) (S2T at2 raw5 c6 all15 i16 t52_0 t52_1 w17 R))))) (sel (t52_1 != 0) (sel (t62_1 != 2) (loc [b21] w7 fun w14 => S1T  w14 R) (sel (decide (((t52_0.n : Nat) : Int) > 0)) (loc [b21] w7 fun w14 => S1T  w14 R) (loc [b21] w7 fun w14 => S2T at2 raw5 c6 all15 i16 t52_0 t52_1 w14 R))) (loc [b21] w7 fun w14 => S2T at2 raw5 c6 all15 i16 t52_0 t52_1 w14 R)))) (Calls Try.prog n_enthymemelaw06_lives #[] w fun r_ w18 => ∃ t196 : Bool, r_ = .returned (.bool t196) ∧ 
  R (.returned (.bool t196)) w18)) : L0T at2 raw5 c6 all15 i16 w R := fun H => L0_step _ _ _ _ _ w R (sel_imp h (fun h => ⟨h.1, h.2.1, have h := h.2.2; optP_imp h fun t43_p h => let ⟨t44_0, t44_1, t44_2, t44_3, t44_4, t44_5, hc0, hc1, hc2, hc3, hc4, hc5, h⟩ := h; ⟨t44_0, t44_1, t44_2, t44_3, t44_4, t44_5, hc0, hc1, hc2, hc3, hc4, hc5, Calls.mono h fun r_ w2 h => let ⟨t45, hr, h⟩ := h; ⟨t45, hr, ⟨h.1, h.2.1, have h := h.2.2; optP_imp h fun t49_p h => let ⟨t50_0, t50_1, t50_2, t50_3, t50_4, t50_5, hc0, hc1, hc2, hc3, hc4, hc5, h⟩ := h; ⟨t50_0, t50_1, t50_2, t50_3, t50_4, t50_5, hc0, hc1, hc2, hc3, hc4, hc5, Calls.mono h fun r_ w3 h => let ⟨t51_0, t51_1, t51_2, t51_3, t51_4, t51_5, hr, h⟩ := h; ⟨t51_0, t51_1, t51_2, t51_3, t51_4, t51_5, hr, Calls.mono h fun r_ w4 h => let ⟨t52_0, t52_1, hr, h⟩ := h; ⟨t52_0, t52_1, hr, ⟨h.1, h.2.1, have h := h.2.2; optP_imp h fun t57_p h => let ⟨t58_0, t58_1, t58_2, t58_3, t58_4, t58_5, hc0, hc1, hc2, hc3, hc4, hc5, h⟩ := h; ⟨t58_0, t58_1, t58_2, t58_3, t58_4, t58_5, hc0, hc1, hc2, hc3, hc4, hc5, Calls.mono h fun r_ w5 h => let ⟨t59, hr, h⟩ := h; ⟨t59, hr, Calls.mono h fun r_ w6 h => let ⟨t62_0_0, t62_0_1, t62_0_2, t62_0_3, t62_0_4, t62_0_5, t62_1, hr, h⟩ := h; ⟨t62_0_0, t62_0_1, t62_0_2, t62_0_3, t62_0_4, t62_0_5, t62_1, hr, LC.nwT (LC.nil _) (Fr.refl _ _) h fun w7 H h => LC.stT0 H 0 (Fr.refl _ _) rfl rfl fun w8 H f => LC.stT H 0 1 f rfl rfl fun w9 H f => LC.stT H 0 2 f rfl rfl fun w10 H f => LC.stT H 0 3 f rfl rfl fun w11 H f => LC.stT H 0 4 f rfl rfl fun w12 H f => LC.stT H 0 5 f rfl rfl fun w13 (H : LC w13 [(w6.heap.size, [.i t62_0_0, .i t62_0_1, .i t62_0_2, .u t62_0_3, .string t62_0_4, t62_0_5.v], ty_value_Value)]) (f : Fr (· ∈ [w6.heap.size]) _ w13) => LC.drT H f fun w14 H f => sel_imp h (fun h => have h := h _ f; S1T_ok h (LC.nil _)) (fun h => sel_imp h (fun h => sel_imp h (fun h => have h := h _ f; S1T_ok h (LC.nil _)) (fun h => have h := h _ f; LC.callT H h fun r_ w15 H h => let ⟨t77, hr, h⟩ := h; ⟨t77, hr, sel_imp h (fun h => S1T_ok h (LC.nil _)) (fun h => ⟨_, _, _, _, _, t62_0_5, H.ld 0 0, H.ld 0 1, H.ld 0 2, H.ld 0 3, H.ld 0 4, H.ld 0 5, ⟨h.1, h.2.1, have h := h.2.2; optP_imp h fun t85_p h => let ⟨t86_0, t86_1, t86_2, t86_3, t86_4, t86_5, hc0, hc1, hc2, hc3, hc4, hc5, h⟩ := h; ⟨t86_0, t86_1, t86_2, t86_3, t86_4, t86_5, hc0, hc1, hc2, hc3, hc4, hc5, LC.callT H h fun r_ w16 H h => let ⟨t82_0, t82_1, t82_2, t82_3, t82_4, t82_5, hr, h⟩ := h; ⟨t82_0, t82_1, t82_2, t82_3, t82_4, t82_5, hr, ⟨h.1, h.2.1, h.2.2.1, h.2.2.2.1, h.2.2.2.2.1, h.2.2.2.2.2.1, have h := h.2.2.2.2.2.2; LC.callT H h fun r_ w17 H h => let ⟨t87, hr, h⟩ := h; ⟨t87, hr, sel_imp h (fun h => S1T_ok h (LC.nil _)) (fun h => sel_imp h (fun h => sel_imp h (fun h => S1T_ok h (LC.nil _)) (fun h => sel_imp h (fun h => S1T_ok h (LC.nil _)) (fun h => S2T_ok h (LC.nil _)))) (fun h => S2T_ok h (LC.nil _)))⟩⟩⟩⟩⟩⟩)⟩)) (fun h => sel_imp h (fun h => sel_imp h (fun h => have h := h _ f; S1T_ok h (LC.nil _)) (fun h => sel_imp h (fun h => have h := h _ f; S1T_ok h (LC.nil _)) (fun h => have h := h _ f; S2T_ok h (LC.nil _)))) (fun h => have h := h _ f; S2T_ok h (LC.nil _))))⟩⟩⟩⟩⟩⟩⟩⟩⟩⟩⟩) (fun h => Calls.mono h fun r_ w18 h => let ⟨t196, hr, h⟩ := h; ⟨t196, hr, h⟩))
theorem okT (n0 : Int) (l1 : Sl) (at2 how3 by4 : Int) (raw5 : Sl) (c6 : Int) (w : World) (R : Post) (h : Calls Try.prog n_enthymemelaw06_some #[.i n0, l1.v, .i at2, .i how3, .i by4] w fun r_ w1 => ∃ t34 : Sl, r_ = .returned (t34.v) ∧ 
  L0T at2 raw5 c6 t34 0 w1 R) : Calls Try.prog n_enthymemelaw06_ValueBytes #[.i n0, l1.v, .i at2, .i how3, .i by4, raw5.v, .int .u8 c6] w R :=
  ok _ _ _ _ _ _ _ w R (Calls.mono h fun r_ w1 h => let ⟨t34, hr, h⟩ := h; ⟨t34, hr, h (LC.nil _)⟩)
end enthymemelaw06_ValueBytes
end Go.Proofs.Ytjjhfdjpmonlaaa

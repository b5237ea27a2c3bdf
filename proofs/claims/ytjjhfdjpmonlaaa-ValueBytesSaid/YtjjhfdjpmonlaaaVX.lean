/- Printed by a program of ours (vcgen.py) from the dump: the conditions of the functions, and that they suffice. -/
import Derived.Test.YtjjhfdjpmonlaaaV
import Derived.Test.YtjjhfdjpmonlaaaY
set_option linter.unusedVariables false
set_option maxRecDepth 100000
set_option maxHeartbeats 2000000
namespace Go.Proofs.Ytjjhfdjpmonlaaa
open Go Go.W
namespace enthymemeref06_Encode
noncomputable def C0 : Code := (Try.f34.body).getD .skip
noncomputable def C1:=C0.sn
noncomputable def C2:=C1.sn
noncomputable def C3:=C2.sn
noncomputable def C4:=C3.fs
noncomputable def C5:=C4.sn
noncomputable def C6:=C5.fs
noncomputable def C7:=C6.fs
noncomputable def C8:=C3.sn
abbrev Q0 (R : Post) : Exit → Act → World → Prop := (Exit.then (wpx Try.prog (cx 81) C8 (bodyPost Try.prog Try.f34 R)) (bodyPost Try.prog Try.f34 R))
abbrev Q1 (R : Post) : Exit → Act → World → Prop := (Exit.inBlock 0 (Q0 R))
/-- the head of the loop, ref.go:259 -/
def L0 (v1 : Addr) (out3 l4 : Sl) (i5 : Int) (w : World) (R : Post) : Prop := LP Try.prog (cx 81) C7 (Q1 R) [(1, .pointer (some v1)), (3, out3.v), (4, l4.v), (5, .i i5)] w
def KE_L0 (E : Env) (w : World) (R : Post) : Prop := asRef (Env.get? E 1) fun v1 => asSlice (Env.get? E 3) fun out3 => asSlice (Env.get? E 4) fun l4 => W.asInt .i64 (Env.get? E 5) fun i5 => L0 v1 out3 l4 i5 w R
theorem KE_L0_ok (R : Post) (E : Env) (w : World) (h : KE_L0 E w R) : LP Try.prog (cx 81) C7 (Q1 R) E w := by
  obtain ⟨v1, hq1, h_1⟩ := asRef_elim h
  obtain ⟨out3, hq3, h_2⟩ := asSlice_elim h_1
  obtain ⟨l4, hq4, h_3⟩ := asSlice_elim h_2
  obtain ⟨i5, hq5, h_4⟩ := asInt_elim h_3
  intro a ha
  exact h_4 a (ha.cons hq1 (ha.cons hq3 (ha.cons hq4 (ha.cons hq5 ha.nil))))
noncomputable def C9:=C8.sn
noncomputable def C10:=C9.sn
noncomputable def C11:=C10.sn
noncomputable def C12:=C11.fs
noncomputable def C13:=C12.sn
noncomputable def C14:=C13.fs
noncomputable def C15:=C14.fs
noncomputable def C16:=C11.sn
abbrev Q2 (R : Post) : Exit → Act → World → Prop := (Exit.then (wpx Try.prog (cx 81) C16 (bodyPost Try.prog Try.f34 R)) (bodyPost Try.prog Try.f34 R))
abbrev Q3 (R : Post) : Exit → Act → World → Prop := (Exit.inBlock 2 (Q2 R))
/-- the head of the loop, ref.go:265 -/
def L1 (v1 : Addr) (out3 : Sl) (i6 : Int) (w : World) (R : Post) : Prop := LP Try.prog (cx 81) C15 (Q3 R) [(1, .pointer (some v1)), (3, out3.v), (6, .i i6)] w
def KE_L1 (E : Env) (w : World) (R : Post) : Prop := asRef (Env.get? E 1) fun v1 => asSlice (Env.get? E 3) fun out3 => W.asInt .i64 (Env.get? E 6) fun i6 => L1 v1 out3 i6 w R
theorem KE_L1_ok (R : Post) (E : Env) (w : World) (h : KE_L1 E w R) : LP Try.prog (cx 81) C15 (Q3 R) E w := by
  obtain ⟨v1, hq1, h_1⟩ := asRef_elim h
  obtain ⟨out3, hq3, h_2⟩ := asSlice_elim h_1
  obtain ⟨i6, hq6, h_3⟩ := asInt_elim h_2
  intro a ha
  exact h_3 a (ha.cons hq1 (ha.cons hq3 (ha.cons hq6 ha.nil)))
noncomputable def C17:=C15.fs
noncomputable def C18:=C15.sn
noncomputable def C19:=C18.fs
noncomputable def C20:=C19.fs
noncomputable def C21:=C20.sn
noncomputable def C22:=C21.sn
noncomputable def C23:=C18.sn
noncomputable def C24:=C17.sn
noncomputable def C25:=C24.fs
noncomputable def C26:=C24.sn
noncomputable def C27:=C16.sn
theorem L1_step (v1 : Addr) (out3 : Sl) (i6 : Int) (w : World) (R : Post) (h : ∃ t47 : Sl, w.cell? (v1.add 5) = some (t47.v) ∧ 
  sel (decide (i6 < ((t47.n : Nat) : Int))) (∃ t54 : Sl, w.cell? (v1.add 5) = some (t54.v) ∧ 
  (0 : Int) ≤ i6 ∧ i6 < ((t54.n : Nat) : Int) ∧ optP t54.a fun t56_p => ∃ t58 : Int, w.cell? ((t56_p.add (Int.toNat i6 * 3)).add 0) = some (.u t58) ∧ 
  Calls Try.prog n_enthymemeref02_Uint #[.u t58] w fun r_ w12 => ∃ t59 : Sl, r_ = .returned (t59.v) ∧ 
  ∃ (t60 : Sl) (w13 : World), Sem.run Try.prog (Builtin.append_ #[ty_sl_uint8, ty_sl_uint8] ty_sl_uint8 #[out3.v, t59.v]) w12 = .ok (t60.v) w13 ∧ ∃ t63 : Sl, w13.cell? (v1.add 5) = some (t63.v) ∧ 
  (0 : Int) ≤ i6 ∧ i6 < ((t63.n : Nat) : Int) ∧ optP t63.a fun t65_p => ∃ t67 : Int, w13.cell? ((t65_p.add (Int.toNat i6 * 3)).add 1) = some (.u t67) ∧ 
  Calls Try.prog n_enthymemeref02_Uint #[.u t67] w13 fun r_ w14 => ∃ t68 : Sl, r_ = .returned (t68.v) ∧ 
  ∃ (t69 : Sl) (w15 : World), Sem.run Try.prog (Builtin.append_ #[ty_sl_uint8, ty_sl_uint8] ty_sl_uint8 #[t60.v, t68.v]) w14 = .ok (t69.v) w15 ∧ ∃ t72 : Sl, w15.cell? (v1.add 5) = some (t72.v) ∧ 
  (0 : Int) ≤ i6 ∧ i6 < ((t72.n : Nat) : Int) ∧ optP t72.a fun t74_p => ∃ t76 : ByteArray, w15.cell? ((t74_p.add (Int.toNat i6 * 3)).add 2) = some (.string t76) ∧ 
  ∃ (t77 : Sl) (w16 : World), Sem.run Try.prog (Go.convert ty_string ty_sl_uint8 (.string t76)) w15 = .ok (t77.v) w16 ∧ Calls Try.prog n_enthymemeref02_Raw #[t77.v] w16 fun r_ w17 => ∃ t78 : Sl, r_ = .returned (t78.v) ∧ 
  ∃ (t79 : Sl) (w18 : World), Sem.run Try.prog (Builtin.append_ #[ty_sl_uint8, ty_sl_uint8] ty_sl_uint8 #[t69.v, t78.v]) w17 = .ok (t79.v) w18 ∧ L1 v1 t79 (IntKind.wrap .i64 (i6 + 1)) w18 R) (R (.returned (out3.v)) w)) : L1 v1 out3 i6 w R :=
  LP.step (n := (cx 81)) (c := C15) (E := [(1, .pointer (some v1)), (3, out3.v), (6, .i i6)]) (w := w) (sq C15 (sr C17 (show (fun (E : Env) (w : World) => srK Try.prog C17 (fun E w => condK (Env.val E (.tmp 49)) (srK Try.prog C20 (fun E w => srK Try.prog C21 (fun E w => rgK Try.prog C22 (fun E w => rgK Try.prog C23 (fun E w => KE_L1 E w R) E w) E w) E w) E w) (srK Try.prog C16 (fun E w => retVC Try.prog Try.f34 E w (fun v => R (.returned v) w)) E w)) E w) [(1, .pointer (some v1)), (3, out3.v), (6, .i i6)] w from Eq.mp (by kernel_rfl) h) fun _ _ hK => (cn C24 hK (fun hK => (sk C25 fun a hA => nx hA (sq C18 (bk C19 3 (by kernel_rfl) (sr C20 hK fun _ _ hK => (sr C21 hK fun _ _ hK => (rg C22 (by kernel_rfl) hK fun _ _ a hA hK => nx hA (rg C23 (by kernel_rfl) hK fun _ _ a hA hK => KE_L1_ok R _ _ hK a hA)))))))) (fun hK => (xt C26 2 (by kernel_rfl) fun a hA => nx hA (sr C16 hK fun _ _ hK => (rt C27 fun a hA => retVC_sound hA hK)))))))
noncomputable def C28:=C7.fs
noncomputable def C29:=C7.sn
noncomputable def C30:=C29.fs
noncomputable def C31:=C30.fs
noncomputable def C32:=C29.sn
noncomputable def C33:=C28.sn
noncomputable def C34:=C33.fs
noncomputable def C35:=C33.sn
theorem L0_step (v1 : Addr) (out3 l4 : Sl) (i5 : Int) (w : World) (R : Post) (h : sel (decide (i5 < 3)) ((0 : Int) ≤ i5 ∧ i5 < ((l4.n : Nat) : Int) ∧ optP l4.a fun t24_p => ∃ t25 : Int, w.cell? (t24_p.add (Int.toNat i5 * 1)) = some (.i t25) ∧ 
  Calls Try.prog n_enthymemeref02_Int #[.i t25] w fun r_ w3 => ∃ t26 : Sl, r_ = .returned (t26.v) ∧ 
  ∃ (t27 : Sl) (w4 : World), Sem.run Try.prog (Builtin.append_ #[ty_sl_uint8, ty_sl_uint8] ty_sl_uint8 #[out3.v, t26.v]) w3 = .ok (t27.v) w4 ∧ L0 v1 t27 l4 (IntKind.wrap .i64 (i5 + 1)) w4 R) (∃ t30 : Int, w.cell? (v1.add 3) = some (.u t30) ∧ 
  Calls Try.prog n_enthymemeref02_Uint #[.u t30] w fun r_ w5 => ∃ t31 : Sl, r_ = .returned (t31.v) ∧ 
  ∃ (t32 : Sl) (w6 : World), Sem.run Try.prog (Builtin.append_ #[ty_sl_uint8, ty_sl_uint8] ty_sl_uint8 #[out3.v, t31.v]) w5 = .ok (t32.v) w6 ∧ ∃ t35 : ByteArray, w6.cell? (v1.add 4) = some (.string t35) ∧ 
  ∃ (t36 : Sl) (w7 : World), Sem.run Try.prog (Go.convert ty_string ty_sl_uint8 (.string t35)) w6 = .ok (t36.v) w7 ∧ Calls Try.prog n_enthymemeref02_Raw #[t36.v] w7 fun r_ w8 => ∃ t37 : Sl, r_ = .returned (t37.v) ∧ 
  ∃ (t38 : Sl) (w9 : World), Sem.run Try.prog (Builtin.append_ #[ty_sl_uint8, ty_sl_uint8] ty_sl_uint8 #[t32.v, t37.v]) w8 = .ok (t38.v) w9 ∧ ∃ t41 : Sl, w9.cell? (v1.add 5) = some (t41.v) ∧ 
  Calls Try.prog n_enthymemeref02_Int #[.i ((t41.n : Nat) : Int)] w9 fun r_ w10 => ∃ t43 : Sl, r_ = .returned (t43.v) ∧ 
  ∃ (t44 : Sl) (w11 : World), Sem.run Try.prog (Builtin.append_ #[ty_sl_uint8, ty_sl_uint8] ty_sl_uint8 #[t38.v, t43.v]) w10 = .ok (t44.v) w11 ∧ L1 v1 t44 0 w11 R)) : L0 v1 out3 l4 i5 w R :=
  LP.step (n := (cx 81)) (c := C7) (E := [(1, .pointer (some v1)), (3, out3.v), (4, l4.v), (5, .i i5)]) (w := w) (sq C7 (sr C28 (show (fun (E : Env) (w : World) => srK Try.prog C28 (fun E w => condK (Env.val E (.tmp 18)) (rgK Try.prog C31 (fun E w => rgK Try.prog C32 (fun E w => KE_L0 E w R) E w) E w) (srK Try.prog C8 (fun E w => srK Try.prog C9 (fun E w => srK Try.prog C10 (fun E w => srK Try.prog C12 (fun E w => KE_L1 E w R) E w) E w) E w) E w)) E w) [(1, .pointer (some v1)), (3, out3.v), (4, l4.v), (5, .i i5)] w from Eq.mp (by kernel_rfl) h) fun _ _ hK => (cn C33 hK (fun hK => (sk C34 fun a hA => nx hA (sq C29 (bk C30 1 (by kernel_rfl) (rg C31 (by kernel_rfl) hK fun _ _ a hA hK => nx hA (rg C32 (by kernel_rfl) hK fun _ _ a hA hK => KE_L0_ok R _ _ hK a hA)))))) (fun hK => (xt C35 0 (by kernel_rfl) fun a hA => nx hA (sr C8 hK fun _ _ hK => (sr C9 hK fun _ _ hK => (sr C10 hK fun _ _ hK => (sq C11 (sr C12 hK fun _ _ hK => (bk C13 2 (by kernel_rfl) (lp C14 (by kernel_rfl) (KE_L1_ok R _ _ hK)))))))))))))
/-- enthymeme/enthymemeref06.Encode -/
theorem ok (v0_0 v0_1 v0_2 v0_3 : Int) (v0_4 : ByteArray) (v0_5 : Sl) (w : World) (R : Post) (h : nwV w (.cells #[.i v0_0, .i v0_1, .i v0_2, .u v0_3, .string v0_4, v0_5.v] ty_enthymemeref06_Value) fun w1 => 
  ∃ t9 : Int, w1.cell? (((nb w).add 0).add 0) = some (.i t9) ∧ 
  ∃ t12 : Int, w1.cell? (((nb w).add 0).add 1) = some (.i t12) ∧ 
  ∃ t15 : Int, w1.cell? (((nb w).add 0).add 2) = some (.i t15) ∧ 
  nwV w1 (.cells #[.i t9, .i t12, .i t15] ty_int) fun w2 => 
  L0 (nb w) ⟨none, 0, 0⟩ ⟨some (nb w1), 3, 3⟩ 0 w2 R) : Calls Try.prog n_enthymemeref06_Encode #[.agg #[.i v0_0, .i v0_1, .i v0_2, .u v0_3, .string v0_4, v0_5.v]] w R :=
  calls_of_WP' (R := R) (fn := Try.f34) (c := C0) (args := [.agg #[.i v0_0, .i v0_1, .i v0_2, .u v0_3, .string v0_4, v0_5.v]]) (by kernel_rfl) (by kernel_rfl) (by kernel_rfl) (sr C0 (show (fun (E : Env) (w : World) => srK Try.prog C0 (fun E w => srK Try.prog C1 (fun E w => srK Try.prog C2 (fun E w => srK Try.prog C4 (fun E w => KE_L0 E w R) E w) E w) E w) E w) (envOf 0 [.agg #[.i v0_0, .i v0_1, .i v0_2, .u v0_3, .string v0_4, v0_5.v]]) w from Eq.mp (by kernel_rfl) h) fun _ _ hK => (sr C1 hK fun _ _ hK => (sr C2 hK fun _ _ hK => (sq C3 (sr C4 hK fun _ _ hK => (bk C5 0 (by kernel_rfl) (lp C6 (by kernel_rfl) (KE_L0_ok R _ _ hK))))))))
def L0T (v1 : Nat) (v1_0 v1_1 v1_2 v1_3 : Int) (v1_4 : ByteArray) (v1_5 out3 l4 : Sl) (i5 : Int) (w : World) (R : Post) : Prop := LC w [(v1, [.i v1_0, .i v1_1, .i v1_2, .u v1_3, .string v1_4, v1_5.v], ty_enthymemeref06_Value)] → L0 (at0 v1) out3 l4 i5 w R
def L1T (v1 : Nat) (v1_0 v1_1 v1_2 v1_3 : Int) (v1_4 : ByteArray) (v1_5 out3 : Sl) (i6 : Int) (w : World) (R : Post) : Prop := LC w [(v1, [.i v1_0, .i v1_1, .i v1_2, .u v1_3, .string v1_4, v1_5.v], ty_enthymemeref06_Value)] → L1 (at0 v1) out3 i6 w R
theorem L1T_step (v1 : Nat) (v1_0 v1_1 v1_2 v1_3 : Int) (v1_4 : ByteArray) (v1_5 out3 : Sl) (i6 : Int) (w : World) (R : Post) (h : sel (decide (i6 < ((v1_5.n : Nat) : Int))) ((0 : Int) ≤ i6 ∧ i6 < ((v1_5.n : Nat) : Int) ∧ optP v1_5.a fun t56_p => ∃ t58 : Int, w.cell? ((t56_p.add (Int.toNat i6 * 3)).add 0) = some (.u t58) ∧ 
  callF [v1] Try.prog n_enthymemeref02_Uint #[.u t58] w fun r_ w12 => ∃ t59 : Sl, r_ = .returned (t59.v) ∧ 
  ∃ (t60 : Sl) (w13 : World), Sem.run Try.prog (Builtin.append_ #[ty_sl_uint8, ty_sl_uint8] ty_sl_uint8 #[out3.v, t59.v]) w12 = .ok (t60.v) w13 ∧ kept [v1] w12 w13 ∧ (0 : Int) ≤ i6 ∧ i6 < ((v1_5.n : Nat) : Int) ∧ optP v1_5.a fun t65_p => ∃ t67 : Int, w13.cell? ((t65_p.add (Int.toNat i6 * 3)).add 1) = some (.u t67) ∧ 
  callF [v1] Try.prog n_enthymemeref02_Uint #[.u t67] w13 fun r_ w14 => ∃ t68 : Sl, r_ = .returned (t68.v) ∧ 
  ∃ (t69 : Sl) (w15 : World), Sem.run Try.prog (Builtin.append_ #[ty_sl_uint8, ty_sl_uint8] ty_sl_uint8 #[t60.v, t68.v]) w14 = .ok (t69.v) w15 ∧ kept [v1] w14 w15 ∧ (0 : Int) ≤ i6 ∧ i6 < ((v1_5.n : Nat) : Int) ∧ optP v1_5.a fun t74_p => ∃ t76 : ByteArray, w15.cell? ((t74_p.add (Int.toNat i6 * 3)).add 2) = some (.string t76) ∧ 
  ∃ (t77 : Sl) (w16 : World), Sem.run Try.prog (Go.convert ty_string ty_sl_uint8 (.string t76)) w15 = .ok (t77.v) w16 ∧ kept [v1] w15 w16 ∧ callF [v1] Try.prog n_enthymemeref02_Raw #[t77.v] w16 fun r_ w17 => ∃ t78 : Sl, r_ = .returned (t78.v) ∧ 
  ∃ (t79 : Sl) (w18 : World), Sem.run Try.prog (Builtin.append_ #[ty_sl_uint8, ty_sl_uint8] ty_sl_uint8 #[t69.v, t78.v]) w17 = .ok (t79.v) w18 ∧ kept [v1] w17 w18 ∧ L1T v1 v1_0 v1_1 v1_2 v1_3 v1_4 v1_5 t79 (IntKind.wrap .i64 (i6 + 1)) w18 R) (R (.returned (out3.v)) w)) : L1T v1 v1_0 v1_1 v1_2 v1_3 v1_4 v1_5 out3 i6 w R := fun H => L1_step _ _ _ w R (⟨v1_5, H.ld 0 5, sel_imp h (fun h => ⟨v1_5, H.ld 0 5, ⟨h.1, h.2.1, have h := h.2.2; optP_imp h fun t56_p h => let ⟨t58, hc0, h⟩ := h; ⟨t58, hc0, LC.callT H h fun r_ w12 H h => let ⟨t59, hr, h⟩ := h; ⟨t59, hr, let ⟨t60, w13, he, hk, h⟩ := h; have H := LC.keptT H hk; ⟨t60, w13, he, ⟨v1_5, H.ld 0 5, ⟨h.1, h.2.1, have h := h.2.2; optP_imp h fun t65_p h => let ⟨t67, hc0, h⟩ := h; ⟨t67, hc0, LC.callT H h fun r_ w14 H h => let ⟨t68, hr, h⟩ := h; ⟨t68, hr, let ⟨t69, w15, he, hk, h⟩ := h; have H := LC.keptT H hk; ⟨t69, w15, he, ⟨v1_5, H.ld 0 5, ⟨h.1, h.2.1, have h := h.2.2; optP_imp h fun t74_p h => let ⟨t76, hc0, h⟩ := h; ⟨t76, hc0, let ⟨t77, w16, he, hk, h⟩ := h; have H := LC.keptT H hk; ⟨t77, w16, he, LC.callT H h fun r_ w17 H h => let ⟨t78, hr, h⟩ := h; ⟨t78, hr, let ⟨t79, w18, he, hk, h⟩ := h; have H := LC.keptT H hk; ⟨t79, w18, he, h H⟩⟩⟩⟩⟩⟩⟩⟩⟩⟩⟩⟩⟩⟩⟩⟩) (fun h => h)⟩)
theorem L0T_step (v1 : Nat) (v1_0 v1_1 v1_2 v1_3 : Int) (v1_4 : ByteArray) (v1_5 out3 l4 : Sl) (i5 : Int) (w : World) (R : Post) (h : sel (decide (i5 < 3)) ((0 : Int) ≤ i5 ∧ i5 < ((l4.n : Nat) : Int) ∧ optP l4.a fun t24_p => ∃ t25 : Int, w.cell? (t24_p.add (Int.toNat i5 * 1)) = some (.i t25) ∧ 
  callF [v1] Try.prog n_enthymemeref02_Int #[.i t25] w fun r_ w3 => ∃ t26 : Sl, r_ = .returned (t26.v) ∧ 
  ∃ (t27 : Sl) (w4 : World), Sem.run Try.prog (Builtin.append_ #[ty_sl_uint8, ty_sl_uint8] ty_sl_uint8 #[out3.v, t26.v]) w3 = .ok (t27.v) w4 ∧ kept [v1] w3 w4 ∧ L0T v1 v1_0 v1_1 v1_2 v1_3 v1_4 v1_5 t27 l4 (IntKind.wrap .i64 (i5 + 1)) w4 R) (callF [v1] Try.prog n_enthymemeref02_Uint #[.u v1_3] w fun r_ w5 => ∃ t31 : Sl, r_ = .returned (t31.v) ∧ 
  ∃ (t32 : Sl) (w6 : World), Sem.run Try.prog (Builtin.append_ #[ty_sl_uint8, ty_sl_uint8] ty_sl_uint8 #[out3.v, t31.v]) w5 = .ok (t32.v) w6 ∧ kept [v1] w5 w6 ∧ ∃ (t36 : Sl) (w7 : World), Sem.run Try.prog (Go.convert ty_string ty_sl_uint8 (.string v1_4)) w6 = .ok (t36.v) w7 ∧ kept [v1] w6 w7 ∧ callF [v1] Try.prog n_enthymemeref02_Raw #[t36.v] w7 fun r_ w8 => ∃ t37 : Sl, r_ = .returned (t37.v) ∧ 
  ∃ (t38 : Sl) (w9 : World), Sem.run Try.prog (Builtin.append_ #[ty_sl_uint8, ty_sl_uint8] ty_sl_uint8 #[t32.v, t37.v]) w8 = .ok (t38.v) w9 ∧ kept [v1] w8 w9 ∧ callF [v1] Try.prog n_enthymemeref02_Int #[.i ((v1_5.n : Nat) : Int)] w9 fun r_ w10 => ∃ t43 : Sl, r_ = .returned (t43.v) ∧ 
  ∃ (t44 : Sl) (w11 : World), Sem.run Try.prog (Builtin.append_ #[ty_sl_uint8, ty_sl_uint8] ty_sl_uint8 #[t38.v, t43.v]) w10 = .ok (t44.v) w11 ∧ kept [v1] w10 w11 ∧ L1T v1 v1_0 v1_1 v1_2 v1_3 v1_4 v1_5 t44 0 w11 R)) : L0T v1 v1_0 v1_1 v1_2 v1_3 v1_4 v1_5 out3 l4 i5 w R := fun H => L0_step _ _ _ _ w R (sel_imp h (fun h => ⟨h.1, h.2.1, have h := h.2.2; optP_imp h fun t24_p h => let ⟨t25, hc0, h⟩ := h; ⟨t25, hc0, LC.callT H h fun r_ w3 H h => let ⟨t26, hr, h⟩ := h; ⟨t26, hr, let ⟨t27, w4, he, hk, h⟩ := h; have H := LC.keptT H hk; ⟨t27, w4, he, h H⟩⟩⟩⟩) (fun h => ⟨_, H.ld 0 3, LC.callT H h fun r_ w5 H h => let ⟨t31, hr, h⟩ := h; ⟨t31, hr, let ⟨t32, w6, he, hk, h⟩ := h; have H := LC.keptT H hk; ⟨t32, w6, he, ⟨_, H.ld 0 4, let ⟨t36, w7, he, hk, h⟩ := h; have H := LC.keptT H hk; ⟨t36, w7, he, LC.callT H h fun r_ w8 H h => let ⟨t37, hr, h⟩ := h; ⟨t37, hr, let ⟨t38, w9, he, hk, h⟩ := h; have H := LC.keptT H hk; ⟨t38, w9, he, ⟨v1_5, H.ld 0 5, LC.callT H h fun r_ w10 H h => let ⟨t43, hr, h⟩ := h; ⟨t43, hr, let ⟨t44, w11, he, hk, h⟩ := h; have H := LC.keptT H hk; ⟨t44, w11, he, h H⟩⟩⟩⟩⟩⟩⟩⟩⟩⟩))
theorem okT (v0_0 v0_1 v0_2 v0_3 : Int) (v0_4 : ByteArray) (v0_5 : Sl) (w : World) (R : Post) (h : newV [] w fun b1 w1 => 
  nwV w1 (.cells #[.i v0_0, .i v0_1, .i v0_2] ty_int) fun w2 => 
  L0T b1 v0_0 v0_1 v0_2 v0_3 v0_4 v0_5 ⟨none, 0, 0⟩ ⟨some (nb w1), 3, 3⟩ 0 w2 R) : Calls Try.prog n_enthymemeref06_Encode #[.agg #[.i v0_0, .i v0_1, .i v0_2, .u v0_3, .string v0_4, v0_5.v]] w R :=
  ok _ _ _ _ _ _ w R (LC.nwT (LC.nil _) (Fr.refl _ _) h fun w1 H h => ⟨_, H.ld 0 0, ⟨_, H.ld 0 1, ⟨_, H.ld 0 2, LC.nwN H h fun w2 H h => h H⟩⟩⟩)
end enthymemeref06_Encode
end Go.Proofs.Ytjjhfdjpmonlaaa

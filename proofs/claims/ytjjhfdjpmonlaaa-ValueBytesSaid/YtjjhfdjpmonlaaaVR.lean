/- Printed by a program of ours (vcgen.py) from the dump: the conditions of the functions, and that they suffice. -/
import Derived.Test.YtjjhfdjpmonlaaaVP
import Derived.Test.YtjjhfdjpmonlaaaVO
import Derived.Test.YtjjhfdjpmonlaaaVG
import Derived.Test.YtjjhfdjpmonlaaaY
set_option linter.unusedVariables false
set_option maxRecDepth 100000
set_option maxHeartbeats 2000000
namespace Go.Proofs.Ytjjhfdjpmonlaaa
open Go Go.W
namespace enthymemelaw06_own
noncomputable def C0 : Code := (Try.f14.body).getD .skip
noncomputable def C1:=C0.sn
noncomputable def C2:=C1.sn
noncomputable def C3:=C2.fs
noncomputable def C4:=C3.sn
noncomputable def C5:=C4.fs
noncomputable def C6:=C5.fs
noncomputable def C7:=C2.sn
abbrev Q0 (R : Post) : Exit → Act → World → Prop := (Exit.then (wpx Try.prog (cx 44) C7 (bodyPost Try.prog Try.f14 R)) (bodyPost Try.prog Try.f14 R))
abbrev Q1 (R : Post) : Exit → Act → World → Prop := (Exit.inBlock 0 (Q0 R))
/-- the head of the loop, law.go:15 -/
def L0 (v1 t2 out3 : Addr) (i4 : Int) (w : World) (R : Post) : Prop := LP Try.prog (cx 44) C6 (Q1 R) [(1, .pointer (some v1)), (2, .pointer (some t2)), (3, .pointer (some out3)), (4, .i i4)] w
def KE_L0 (E : Env) (w : World) (R : Post) : Prop := asRef (Env.get? E 1) fun v1 => asRef (Env.get? E 2) fun t2 => asRef (Env.get? E 3) fun out3 => W.asInt .i64 (Env.get? E 4) fun i4 => L0 v1 t2 out3 i4 w R
theorem KE_L0_ok (R : Post) (E : Env) (w : World) (h : KE_L0 E w R) : LP Try.prog (cx 44) C6 (Q1 R) E w := by
  obtain ⟨v1, hq1, h_1⟩ := asRef_elim h
  obtain ⟨t2, hq2, h_2⟩ := asRef_elim h_1
  obtain ⟨out3, hq3, h_3⟩ := asRef_elim h_2
  obtain ⟨i4, hq4, h_4⟩ := asInt_elim h_3
  intro a ha
  exact h_4 a (ha.cons hq1 (ha.cons hq2 (ha.cons hq3 (ha.cons hq4 ha.nil))))
noncomputable def C8:=C6.fs
noncomputable def C9:=C6.sn
noncomputable def C10:=C9.fs
noncomputable def C11:=C10.fs
noncomputable def C12:=C9.sn
noncomputable def C13:=C8.sn
noncomputable def C14:=C13.fs
noncomputable def C15:=C13.sn
noncomputable def C16:=C7.sn
theorem L0_step (v1 t2 out3 : Addr) (i4 : Int) (w : World) (R : Post) (h : ∃ t14 : Sl, w.cell? (v1.add 5) = some (t14.v) ∧ 
  sel (decide (i4 < ((t14.n : Nat) : Int))) (drV w fun w10 => ∃ t20 : Sl, w10.cell? (out3.add 5) = some (t20.v) ∧ 
  ∃ t22 : Sl, w10.cell? (v1.add 5) = some (t22.v) ∧ 
  (0 : Int) ≤ i4 ∧ i4 < ((t22.n : Nat) : Int) ∧ optP t22.a fun t24_p => ∃ t26 : Int, w10.cell? ((t24_p.add (Int.toNat i4 * 3)).add 0) = some (.u t26) ∧ 
  ∃ t28 : Sl, w10.cell? (v1.add 5) = some (t28.v) ∧ 
  (0 : Int) ≤ i4 ∧ i4 < ((t28.n : Nat) : Int) ∧ optP t28.a fun t30_p => ∃ t32 : Int, w10.cell? ((t30_p.add (Int.toNat i4 * 3)).add 1) = some (.u t32) ∧ 
  ∃ t34 : Sl, w10.cell? (v1.add 5) = some (t34.v) ∧ 
  (0 : Int) ≤ i4 ∧ i4 < ((t34.n : Nat) : Int) ∧ optP t34.a fun t36_p => ∃ t38 : ByteArray, w10.cell? ((t36_p.add (Int.toNat i4 * 3)).add 2) = some (.string t38) ∧ 
  nwV w10 (.cells #[.u t26, .u t32, .string t38] ty_value_Entry) fun w11 => 
  w11.cell? ((t36_p.add (Int.toNat i4 * 3)).add 2) = some (.string t38) ∧ w11.cell? (v1.add 5) = some (t34.v) ∧ w11.cell? ((t30_p.add (Int.toNat i4 * 3)).add 1) = some (.u t32) ∧ w11.cell? (v1.add 5) = some (t28.v) ∧ w11.cell? ((t24_p.add (Int.toNat i4 * 3)).add 0) = some (.u t26) ∧ w11.cell? (v1.add 5) = some (t22.v) ∧ w11.cell? (out3.add 5) = some (t20.v) ∧ ∃ (t41 : Sl) (w12 : World), Sem.run Try.prog (Builtin.append_ #[ty_sl_value_Entry, ty_sl_value_Entry] ty_sl_value_Entry #[t20.v, .slice (some (nb w10)) 1 1]) w11 = .ok (t41.v) w12 ∧ w12.cell? ((t36_p.add (Int.toNat i4 * 3)).add 2) = some (.string t38) ∧ w12.cell? (v1.add 5) = some (t34.v) ∧ w12.cell? ((t30_p.add (Int.toNat i4 * 3)).add 1) = some (.u t32) ∧ w12.cell? (v1.add 5) = some (t28.v) ∧ w12.cell? ((t24_p.add (Int.toNat i4 * 3)).add 0) = some (.u t26) ∧ w12.cell? (v1.add 5) = some (t22.v) ∧ stV w12 (out3.add 5) (t41.v) fun w13 => 
  L0 v1 t2 out3 (IntKind.wrap .i64 (i4 + 1)) w13 R) (∃ t43_0 : Int, ∃ t43_1 : Int, ∃ t43_2 : Int, ∃ t43_3 : Int, ∃ t43_4 : ByteArray, ∃ t43_5 : Sl, w.cell? (out3.add 0) = some (.i t43_0) ∧ w.cell? (out3.add 1) = some (.i t43_1) ∧ w.cell? (out3.add 2) = some (.i t43_2) ∧ w.cell? (out3.add 3) = some (.u t43_3) ∧ w.cell? (out3.add 4) = some (.string t43_4) ∧ w.cell? (out3.add 5) = some (t43_5.v) ∧ 
  stV w t2 (.i t43_0) fun w14 => 
  stV w14 (t2.add 1) (.i t43_1) fun w15 => 
  stV w15 (t2.add 2) (.i t43_2) fun w16 => 
  stV w16 (t2.add 3) (.u t43_3) fun w17 => 
  stV w17 (t2.add 4) (.string t43_4) fun w18 => 
  stV w18 (t2.add 5) (t43_5.v) fun w19 => 
  ∃ r2_0 : Int, ∃ r2_1 : Int, ∃ r2_2 : Int, ∃ r2_3 : Int, ∃ r2_4 : ByteArray, ∃ r2_5 : Sl, w19.cell? (t2.add 0) = some (.i r2_0) ∧ w19.cell? (t2.add 1) = some (.i r2_1) ∧ w19.cell? (t2.add 2) = some (.i r2_2) ∧ w19.cell? (t2.add 3) = some (.u r2_3) ∧ w19.cell? (t2.add 4) = some (.string r2_4) ∧ w19.cell? (t2.add 5) = some (r2_5.v) ∧ 
  R (.returned (.agg #[.i r2_0, .i r2_1, .i r2_2, .u r2_3, .string r2_4, r2_5.v])) w19)) : L0 v1 t2 out3 i4 w R :=
  LP.step (n := (cx 44)) (c := C6) (E := [(1, .pointer (some v1)), (2, .pointer (some t2)), (3, .pointer (some out3)), (4, .i i4)]) (w := w) (sq C6 (sr C8 (show (fun (E : Env) (w : World) => srK Try.prog C8 (fun E w => condK (Env.val E (.tmp 16)) (dgK Try.prog C11 [0, 1, 2, 3, 4, 5, 6, 7, 8, 9, 10, 11, 12, 13, 14, 15, 16, 17, 18, 19, 20, 21, 22, 23, 24] (fun E w => rgK Try.prog C12 (fun E w => KE_L0 E w R) E w) E w) (srK Try.prog C7 (fun E w => retVC Try.prog Try.f14 E w (fun v => R (.returned v) w)) E w)) E w) [(1, .pointer (some v1)), (2, .pointer (some t2)), (3, .pointer (some out3)), (4, .i i4)] w from Eq.mp (by kernel_rfl) h) fun _ _ hK => (cn C13 hK (fun hK => (sk C14 fun a hA => nx hA (sq C9 (bk C10 1 (by kernel_rfl) (dg C11 (by kernel_rfl) hK fun _ _ a hA hK => nx hA (rg C12 (by kernel_rfl) hK fun _ _ a hA hK => KE_L0_ok R _ _ hK a hA)))))) (fun hK => (xt C15 0 (by kernel_rfl) fun a hA => nx hA (sr C7 hK fun _ _ hK => (rt C16 fun a hA => retVC_sound hA hK)))))))
/-- enthymeme/enthymemelaw06.own -/
theorem ok (v0_0 v0_1 v0_2 v0_3 : Int) (v0_4 : ByteArray) (v0_5 : Sl) (w : World) (R : Post) (h : nwV w (.cells #[.i v0_0, .i v0_1, .i v0_2, .u v0_3, .string v0_4, v0_5.v] ty_enthymemeref06_Value) fun w1 => 
  nwV w1 (.cells #[.i 0, .i 0, .i 0, .u 0, .s0, .slice none 0 0] ty_value_Value) fun w2 => 
  ∃ t6_0 : Int, ∃ t6_1 : Int, ∃ t6_2 : Int, w2.cell? (((nb w).add 0).add 0) = some (.i t6_0) ∧ w2.cell? (((nb w).add 0).add 1) = some (.i t6_1) ∧ w2.cell? (((nb w).add 0).add 2) = some (.i t6_2) ∧ 
  ∃ t8 : Int, w2.cell? ((nb w).add 3) = some (.u t8) ∧ 
  ∃ t10 : ByteArray, w2.cell? ((nb w).add 4) = some (.string t10) ∧ 
  nwV w2 (.cells #[.i 0, .i 0, .i 0, .u 0, .s0, .slice none 0 0] ty_value_Value) fun w3 => 
  stV w3 (nb w2) (.i t6_0) fun w4 => 
  stV w4 ((nb w2).add 1) (.i t6_1) fun w5 => 
  stV w5 ((nb w2).add 2) (.i t6_2) fun w6 => 
  stV w6 ((nb w2).add 3) (.u t8) fun w7 => 
  stV w7 ((nb w2).add 4) (.string t10) fun w8 => 
  stV w8 ((nb w2).add 5) (.slice none 0 0) fun w9 => 
  L0 (nb w) (nb w1) (nb w2) 0 w9 R) : Calls Try.prog n_enthymemelaw06_own #[.agg #[.i v0_0, .i v0_1, .i v0_2, .u v0_3, .string v0_4, v0_5.v]] w R :=
  calls_of_WP' (R := R) (fn := Try.f14) (c := C0) (args := [.agg #[.i v0_0, .i v0_1, .i v0_2, .u v0_3, .string v0_4, v0_5.v]]) (by kernel_rfl) (by kernel_rfl) (by kernel_rfl) (sr C0 (show (fun (E : Env) (w : World) => srK Try.prog C0 (fun E w => srK Try.prog C1 (fun E w => srK Try.prog C3 (fun E w => KE_L0 E w R) E w) E w) E w) (envOf 0 [.agg #[.i v0_0, .i v0_1, .i v0_2, .u v0_3, .string v0_4, v0_5.v]]) w from Eq.mp (by kernel_rfl) h) fun _ _ hK => (sr C1 hK fun _ _ hK => (sq C2 (sr C3 hK fun _ _ hK => (bk C4 0 (by kernel_rfl) (lp C5 (by kernel_rfl) (KE_L0_ok R _ _ hK)))))))
def L0T (v1 : Nat) (v1_0 v1_1 v1_2 v1_3 : Int) (v1_4 : ByteArray) (v1_5 : Sl) (t2 : Nat) (t2_0 t2_1 t2_2 t2_3 : Int) (t2_4 : ByteArray) (t2_5 : Sl) (out3 : Nat) (out3_0 out3_1 out3_2 out3_3 : Int) (out3_4 : ByteArray) (out3_5 : Sl) (i4 : Int) (w : World) (R : Post) : Prop := LC w [(v1, [.i v1_0, .i v1_1, .i v1_2, .u v1_3, .string v1_4, v1_5.v], ty_enthymemeref06_Value), (t2, [.i t2_0, .i t2_1, .i t2_2, .u t2_3, .string t2_4, t2_5.v], ty_value_Value), (out3, [.i out3_0, .i out3_1, .i out3_2, .u out3_3, .string out3_4, out3_5.v], ty_value_Value)] → L0 (at0 v1) (at0 t2) (at0 out3) i4 w R
theorem L0T_step (v1 : Nat) (v1_0 v1_1 v1_2 v1_3 : Int) (v1_4 : ByteArray) (v1_5 : Sl) (t2 : Nat) (t2_0 t2_1 t2_2 t2_3 : Int) (t2_4 : ByteArray) (t2_5 : Sl) (out3 : Nat) (out3_0 out3_1 out3_2 out3_3 : Int) (out3_4 : ByteArray) (out3_5 : Sl) (i4 : Int) (w : World) (R : Post) (h : sel (decide (i4 < ((v1_5.n : Nat) : Int))) ((0 : Int) ≤ i4 ∧ i4 < ((v1_5.n : Nat) : Int) ∧ optP v1_5.a fun t24_p => loc [v1, t2, out3] w fun w10 => ∃ t26 : Int, w10.cell? ((t24_p.add (Int.toNat i4 * 3)).add 0) = some (.u t26) ∧ 
  (0 : Int) ≤ i4 ∧ i4 < ((v1_5.n : Nat) : Int) ∧ optP v1_5.a fun t30_p => ∃ t32 : Int, w10.cell? ((t30_p.add (Int.toNat i4 * 3)).add 1) = some (.u t32) ∧ 
  (0 : Int) ≤ i4 ∧ i4 < ((v1_5.n : Nat) : Int) ∧ optP v1_5.a fun t36_p => ∃ t38 : ByteArray, w10.cell? ((t36_p.add (Int.toNat i4 * 3)).add 2) = some (.string t38) ∧ 
  nwV w10 (.cells #[.u t26, .u t32, .string t38] ty_value_Entry) fun w11 => 
  w11.cell? ((t36_p.add (Int.toNat i4 * 3)).add 2) = some (.string t38) ∧ w11.cell? ((t30_p.add (Int.toNat i4 * 3)).add 1) = some (.u t32) ∧ w11.cell? ((t24_p.add (Int.toNat i4 * 3)).add 0) = some (.u t26) ∧ ∃ (t41 : Sl) (w12 : World), Sem.run Try.prog (Builtin.append_ #[ty_sl_value_Entry, ty_sl_value_Entry] ty_sl_value_Entry #[out3_5.v, .slice (some (nb w10)) 1 1]) w11 = .ok (t41.v) w12 ∧ kept [v1, t2, out3] w11 w12 ∧ w12.cell? ((t36_p.add (Int.toNat i4 * 3)).add 2) = some (.string t38) ∧ w12.cell? ((t30_p.add (Int.toNat i4 * 3)).add 1) = some (.u t32) ∧ w12.cell? ((t24_p.add (Int.toNat i4 * 3)).add 0) = some (.u t26) ∧ loc [v1, t2, out3] w12 fun w13 => L0T v1 v1_0 v1_1 v1_2 v1_3 v1_4 v1_5 t2 t2_0 t2_1 t2_2 t2_3 t2_4 t2_5 out3 out3_0 out3_1 out3_2 out3_3 out3_4 t41 (IntKind.wrap .i64 (i4 + 1)) w13 R) (loc [v1, t2, out3] w fun w19 => R (.returned (.agg #[.i out3_0, .i out3_1, .i out3_2, .u out3_3, .string out3_4, out3_5.v])) w19)) : L0T v1 v1_0 v1_1 v1_2 v1_3 v1_4 v1_5 t2 t2_0 t2_1 t2_2 t2_3 t2_4 t2_5 out3 out3_0 out3_1 out3_2 out3_3 out3_4 out3_5 i4 w R := fun H => L0_step _ _ _ _ w R (⟨v1_5, H.ld 0 5, sel_imp h (fun h => LC.drT H (Fr.refl _ _) fun w10 H f => ⟨out3_5, H.ld 2 5, ⟨v1_5, H.ld 0 5, ⟨h.1, h.2.1, have h := h.2.2; optP_imp h fun t24_p h => have h := h _ f; let ⟨t26, hc0, h⟩ := h; ⟨t26, hc0, ⟨v1_5, H.ld 0 5, ⟨h.1, h.2.1, have h := h.2.2; optP_imp h fun t30_p h => let ⟨t32, hc0, h⟩ := h; ⟨t32, hc0, ⟨v1_5, H.ld 0 5, ⟨h.1, h.2.1, have h := h.2.2; optP_imp h fun t36_p h => let ⟨t38, hc0, h⟩ := h; ⟨t38, hc0, LC.nwN H h fun w11 H h => ⟨h.1, H.ld 0 5, h.2.1, H.ld 0 5, h.2.2.1, H.ld 0 5, H.ld 2 5, have h := h.2.2.2; let ⟨t41, w12, he, hk, h⟩ := h; have H := LC.keptT H hk; ⟨t41, w12, he, ⟨h.1, H.ld 0 5, h.2.1, H.ld 0 5, h.2.2.1, H.ld 0 5, have h := h.2.2.2; LC.stT H 2 5 (Fr.refl _ _) rfl rfl fun w13 (H : LC w13 [(v1, [.i v1_0, .i v1_1, .i v1_2, .u v1_3, .string v1_4, v1_5.v], ty_enthymemeref06_Value), (t2, [.i t2_0, .i t2_1, .i t2_2, .u t2_3, .string t2_4, t2_5.v], ty_value_Value), (out3, [.i out3_0, .i out3_1, .i out3_2, .u out3_3, .string out3_4, t41.v], ty_value_Value)]) (f : Fr (· ∈ [v1, t2, out3]) _ w13) => have h := h _ f; h H⟩⟩⟩⟩⟩⟩⟩⟩⟩⟩⟩⟩⟩) (fun h => ⟨_, _, _, _, _, out3_5, H.ld 2 0, H.ld 2 1, H.ld 2 2, H.ld 2 3, H.ld 2 4, H.ld 2 5, LC.stT0 H 1 (Fr.refl _ _) rfl rfl fun w14 H f => LC.stT H 1 1 f rfl rfl fun w15 H f => LC.stT H 1 2 f rfl rfl fun w16 H f => LC.stT H 1 3 f rfl rfl fun w17 H f => LC.stT H 1 4 f rfl rfl fun w18 H f => LC.stT H 1 5 f rfl rfl fun w19 (H : LC w19 [(v1, [.i v1_0, .i v1_1, .i v1_2, .u v1_3, .string v1_4, v1_5.v], ty_enthymemeref06_Value), (t2, [.i out3_0, .i out3_1, .i out3_2, .u out3_3, .string out3_4, out3_5.v], ty_value_Value), (out3, [.i out3_0, .i out3_1, .i out3_2, .u out3_3, .string out3_4, out3_5.v], ty_value_Value)]) (f : Fr (· ∈ [v1, t2, out3]) _ w19) => ⟨_, _, _, _, _, out3_5, H.ld 1 0, H.ld 1 1, H.ld 1 2, H.ld 1 3, H.ld 1 4, H.ld 1 5, have h := h _ f; h⟩⟩)⟩)
theorem okT (v0_0 v0_1 v0_2 v0_3 : Int) (v0_4 : ByteArray) (v0_5 : Sl) (w : World) (R : Post) (h : newV [] w fun b1 w1 => 
  newV [b1] w1 fun b2 w2 => 
  newV [b1, b2] w2 fun b3 w3 => 
  loc [b1, b2, b3] w3 fun w9 => L0T b1 v0_0 v0_1 v0_2 v0_3 v0_4 v0_5 b2 0 0 0 0 (ByteArray.mk #[]) ⟨none, 0, 0⟩ b3 v0_0 v0_1 v0_2 v0_3 v0_4 ⟨none, 0, 0⟩ 0 w9 R) : Calls Try.prog n_enthymemelaw06_own #[.agg #[.i v0_0, .i v0_1, .i v0_2, .u v0_3, .string v0_4, v0_5.v]] w R :=
  ok _ _ _ _ _ _ w R (LC.nwT (LC.nil _) (Fr.refl _ _) h fun w1 H h => LC.nwT H (Fr.refl _ _) h fun w2 H h => ⟨_, _, _, H.ld 0 0, H.ld 0 1, H.ld 0 2, ⟨_, H.ld 0 3, ⟨_, H.ld 0 4, LC.nwT H (Fr.refl _ _) h fun w3 (H : LC w3 [(w.heap.size, [.i v0_0, .i v0_1, .i v0_2, .u v0_3, .string v0_4, v0_5.v], ty_enthymemeref06_Value), (w1.heap.size, [.i 0, .i 0, .i 0, .u 0, .s0, .slice none 0 0], ty_value_Value), (w2.heap.size, [.i 0, .i 0, .i 0, .u 0, .s0, .slice none 0 0], ty_value_Value)]) h => LC.stT0 H 2 (Fr.refl _ _) rfl rfl fun w4 H f => LC.stT H 2 1 f rfl rfl fun w5 H f => LC.stT H 2 2 f rfl rfl fun w6 H f => LC.stT H 2 3 f rfl rfl fun w7 H f => LC.stT H 2 4 f rfl rfl fun w8 H f => LC.stT H 2 5 f rfl rfl fun w9 (H : LC w9 [(w.heap.size, [.i v0_0, .i v0_1, .i v0_2, .u v0_3, .string v0_4, v0_5.v], ty_enthymemeref06_Value), (w1.heap.size, [.i 0, .i 0, .i 0, .u 0, .s0, .slice none 0 0], ty_value_Value), (w2.heap.size, [.i v0_0, .i v0_1, .i v0_2, .u v0_3, .string v0_4, .slice none 0 0], ty_value_Value)]) (f : Fr (· ∈ [w.heap.size, w1.heap.size, w2.heap.size]) _ w9) => have h := h _ f; h H⟩⟩⟩)
end enthymemelaw06_own
namespace enthymemelaw06_plain
noncomputable def C0 : Code := (Try.f17.body).getD .skip
noncomputable def C1:=C0.sn
noncomputable def C2:=C1.sn
noncomputable def C3:=C2.fs
noncomputable def C4:=C3.sn
noncomputable def C5:=C4.fs
noncomputable def C6:=C5.fs
noncomputable def C7:=C2.sn
abbrev Q0 (R : Post) : Exit → Act → World → Prop := (Exit.then (wpx Try.prog (cx 44) C7 (bodyPost Try.prog Try.f17 R)) (bodyPost Try.prog Try.f17 R))
abbrev Q1 (R : Post) : Exit → Act → World → Prop := (Exit.inBlock 0 (Q0 R))
/-- the head of the loop, law.go:24 -/
def L0 (v1 t2 out3 : Addr) (i4 : Int) (w : World) (R : Post) : Prop := LP Try.prog (cx 44) C6 (Q1 R) [(1, .pointer (some v1)), (2, .pointer (some t2)), (3, .pointer (some out3)), (4, .i i4)] w
def KE_L0 (E : Env) (w : World) (R : Post) : Prop := asRef (Env.get? E 1) fun v1 => asRef (Env.get? E 2) fun t2 => asRef (Env.get? E 3) fun out3 => W.asInt .i64 (Env.get? E 4) fun i4 => L0 v1 t2 out3 i4 w R
theorem KE_L0_ok (R : Post) (E : Env) (w : World) (h : KE_L0 E w R) : LP Try.prog (cx 44) C6 (Q1 R) E w := by
  obtain ⟨v1, hq1, h_1⟩ := asRef_elim h
  obtain ⟨t2, hq2, h_2⟩ := asRef_elim h_1
  obtain ⟨out3, hq3, h_3⟩ := asRef_elim h_2
  obtain ⟨i4, hq4, h_4⟩ := asInt_elim h_3
  intro a ha
  exact h_4 a (ha.cons hq1 (ha.cons hq2 (ha.cons hq3 (ha.cons hq4 ha.nil))))
noncomputable def C8:=C6.fs
noncomputable def C9:=C6.sn
noncomputable def C10:=C9.fs
noncomputable def C11:=C10.fs
noncomputable def C12:=C9.sn
noncomputable def C13:=C8.sn
noncomputable def C14:=C13.fs
noncomputable def C15:=C13.sn
noncomputable def C16:=C7.sn
theorem L0_step (v1 t2 out3 : Addr) (i4 : Int) (w : World) (R : Post) (h : ∃ t14 : Sl, w.cell? (v1.add 5) = some (t14.v) ∧ 
  sel (decide (i4 < ((t14.n : Nat) : Int))) (drV w fun w10 => ∃ t20 : Sl, w10.cell? (out3.add 5) = some (t20.v) ∧ 
  ∃ t22 : Sl, w10.cell? (v1.add 5) = some (t22.v) ∧ 
  (0 : Int) ≤ i4 ∧ i4 < ((t22.n : Nat) : Int) ∧ optP t22.a fun t24_p => ∃ t26 : Int, w10.cell? ((t24_p.add (Int.toNat i4 * 3)).add 0) = some (.u t26) ∧ 
  ∃ t28 : Sl, w10.cell? (v1.add 5) = some (t28.v) ∧ 
  (0 : Int) ≤ i4 ∧ i4 < ((t28.n : Nat) : Int) ∧ optP t28.a fun t30_p => ∃ t32 : Int, w10.cell? ((t30_p.add (Int.toNat i4 * 3)).add 1) = some (.u t32) ∧ 
  ∃ t34 : Sl, w10.cell? (v1.add 5) = some (t34.v) ∧ 
  (0 : Int) ≤ i4 ∧ i4 < ((t34.n : Nat) : Int) ∧ optP t34.a fun t36_p => ∃ t38 : ByteArray, w10.cell? ((t36_p.add (Int.toNat i4 * 3)).add 2) = some (.string t38) ∧ 
  nwV w10 (.cells #[.u t26, .u t32, .string t38] ty_enthymemeref06_Entry) fun w11 => 
  w11.cell? ((t36_p.add (Int.toNat i4 * 3)).add 2) = some (.string t38) ∧ w11.cell? (v1.add 5) = some (t34.v) ∧ w11.cell? ((t30_p.add (Int.toNat i4 * 3)).add 1) = some (.u t32) ∧ w11.cell? (v1.add 5) = some (t28.v) ∧ w11.cell? ((t24_p.add (Int.toNat i4 * 3)).add 0) = some (.u t26) ∧ w11.cell? (v1.add 5) = some (t22.v) ∧ w11.cell? (out3.add 5) = some (t20.v) ∧ ∃ (t41 : Sl) (w12 : World), Sem.run Try.prog (Builtin.append_ #[ty_sl_enthymemeref06_Entry, ty_sl_enthymemeref06_Entry] ty_sl_enthymemeref06_Entry #[t20.v, .slice (some (nb w10)) 1 1]) w11 = .ok (t41.v) w12 ∧ w12.cell? ((t36_p.add (Int.toNat i4 * 3)).add 2) = some (.string t38) ∧ w12.cell? (v1.add 5) = some (t34.v) ∧ w12.cell? ((t30_p.add (Int.toNat i4 * 3)).add 1) = some (.u t32) ∧ w12.cell? (v1.add 5) = some (t28.v) ∧ w12.cell? ((t24_p.add (Int.toNat i4 * 3)).add 0) = some (.u t26) ∧ w12.cell? (v1.add 5) = some (t22.v) ∧ stV w12 (out3.add 5) (t41.v) fun w13 => 
  L0 v1 t2 out3 (IntKind.wrap .i64 (i4 + 1)) w13 R) (∃ t43_0 : Int, ∃ t43_1 : Int, ∃ t43_2 : Int, ∃ t43_3 : Int, ∃ t43_4 : ByteArray, ∃ t43_5 : Sl, w.cell? (out3.add 0) = some (.i t43_0) ∧ w.cell? (out3.add 1) = some (.i t43_1) ∧ w.cell? (out3.add 2) = some (.i t43_2) ∧ w.cell? (out3.add 3) = some (.u t43_3) ∧ w.cell? (out3.add 4) = some (.string t43_4) ∧ w.cell? (out3.add 5) = some (t43_5.v) ∧ 
  stV w t2 (.i t43_0) fun w14 => 
  stV w14 (t2.add 1) (.i t43_1) fun w15 => 
  stV w15 (t2.add 2) (.i t43_2) fun w16 => 
  stV w16 (t2.add 3) (.u t43_3) fun w17 => 
  stV w17 (t2.add 4) (.string t43_4) fun w18 => 
  stV w18 (t2.add 5) (t43_5.v) fun w19 => 
  ∃ r2_0 : Int, ∃ r2_1 : Int, ∃ r2_2 : Int, ∃ r2_3 : Int, ∃ r2_4 : ByteArray, ∃ r2_5 : Sl, w19.cell? (t2.add 0) = some (.i r2_0) ∧ w19.cell? (t2.add 1) = some (.i r2_1) ∧ w19.cell? (t2.add 2) = some (.i r2_2) ∧ w19.cell? (t2.add 3) = some (.u r2_3) ∧ w19.cell? (t2.add 4) = some (.string r2_4) ∧ w19.cell? (t2.add 5) = some (r2_5.v) ∧ 
  R (.returned (.agg #[.i r2_0, .i r2_1, .i r2_2, .u r2_3, .string r2_4, r2_5.v])) w19)) : L0 v1 t2 out3 i4 w R :=
  LP.step (n := (cx 44)) (c := C6) (E := [(1, .pointer (some v1)), (2, .pointer (some t2)), (3, .pointer (some out3)), (4, .i i4)]) (w := w) (sq C6 (sr C8 (show (fun (E : Env) (w : World) => srK Try.prog C8 (fun E w => condK (Env.val E (.tmp 16)) (dgK Try.prog C11 [0, 1, 2, 3, 4, 5, 6, 7, 8, 9, 10, 11, 12, 13, 14, 15, 16, 17, 18, 19, 20, 21, 22, 23, 24] (fun E w => rgK Try.prog C12 (fun E w => KE_L0 E w R) E w) E w) (srK Try.prog C7 (fun E w => retVC Try.prog Try.f17 E w (fun v => R (.returned v) w)) E w)) E w) [(1, .pointer (some v1)), (2, .pointer (some t2)), (3, .pointer (some out3)), (4, .i i4)] w from Eq.mp (by kernel_rfl) h) fun _ _ hK => (cn C13 hK (fun hK => (sk C14 fun a hA => nx hA (sq C9 (bk C10 1 (by kernel_rfl) (dg C11 (by kernel_rfl) hK fun _ _ a hA hK => nx hA (rg C12 (by kernel_rfl) hK fun _ _ a hA hK => KE_L0_ok R _ _ hK a hA)))))) (fun hK => (xt C15 0 (by kernel_rfl) fun a hA => nx hA (sr C7 hK fun _ _ hK => (rt C16 fun a hA => retVC_sound hA hK)))))))
/-- enthymeme/enthymemelaw06.plain -/
theorem ok (v0_0 v0_1 v0_2 v0_3 : Int) (v0_4 : ByteArray) (v0_5 : Sl) (w : World) (R : Post) (h : nwV w (.cells #[.i v0_0, .i v0_1, .i v0_2, .u v0_3, .string v0_4, v0_5.v] ty_value_Value) fun w1 => 
  nwV w1 (.cells #[.i 0, .i 0, .i 0, .u 0, .s0, .slice none 0 0] ty_enthymemeref06_Value) fun w2 => 
  ∃ t6_0 : Int, ∃ t6_1 : Int, ∃ t6_2 : Int, w2.cell? (((nb w).add 0).add 0) = some (.i t6_0) ∧ w2.cell? (((nb w).add 0).add 1) = some (.i t6_1) ∧ w2.cell? (((nb w).add 0).add 2) = some (.i t6_2) ∧ 
  ∃ t8 : Int, w2.cell? ((nb w).add 3) = some (.u t8) ∧ 
  ∃ t10 : ByteArray, w2.cell? ((nb w).add 4) = some (.string t10) ∧ 
  nwV w2 (.cells #[.i 0, .i 0, .i 0, .u 0, .s0, .slice none 0 0] ty_enthymemeref06_Value) fun w3 => 
  stV w3 (nb w2) (.i t6_0) fun w4 => 
  stV w4 ((nb w2).add 1) (.i t6_1) fun w5 => 
  stV w5 ((nb w2).add 2) (.i t6_2) fun w6 => 
  stV w6 ((nb w2).add 3) (.u t8) fun w7 => 
  stV w7 ((nb w2).add 4) (.string t10) fun w8 => 
  stV w8 ((nb w2).add 5) (.slice none 0 0) fun w9 => 
  L0 (nb w) (nb w1) (nb w2) 0 w9 R) : Calls Try.prog n_enthymemelaw06_plain #[.agg #[.i v0_0, .i v0_1, .i v0_2, .u v0_3, .string v0_4, v0_5.v]] w R :=
  calls_of_WP' (R := R) (fn := Try.f17) (c := C0) (args := [.agg #[.i v0_0, .i v0_1, .i v0_2, .u v0_3, .string v0_4, v0_5.v]]) (by kernel_rfl) (by kernel_rfl) (by kernel_rfl) (sr C0 (show (fun (E : Env) (w : World) => srK Try.prog C0 (fun E w => srK Try.prog C1 (fun E w => srK Try.prog C3 (fun E w => KE_L0 E w R) E w) E w) E w) (envOf 0 [.agg #[.i v0_0, .i v0_1, .i v0_2, .u v0_3, .string v0_4, v0_5.v]]) w from Eq.mp (by kernel_rfl) h) fun _ _ hK => (sr C1 hK fun _ _ hK => (sq C2 (sr C3 hK fun _ _ hK => (bk C4 0 (by kernel_rfl) (lp C5 (by kernel_rfl) (KE_L0_ok R _ _ hK)))))))
def L0T (v1 : Nat) (v1_0 v1_1 v1_2 v1_3 : Int) (v1_4 : ByteArray) (v1_5 : Sl) (t2 : Nat) (t2_0 t2_1 t2_2 t2_3 : Int) (t2_4 : ByteArray) (t2_5 : Sl) (out3 : Nat) (out3_0 out3_1 out3_2 out3_3 : Int) (out3_4 : ByteArray) (out3_5 : Sl) (i4 : Int) (w : World) (R : Post) : Prop := LC w [(v1, [.i v1_0, .i v1_1, .i v1_2, .u v1_3, .string v1_4, v1_5.v], ty_value_Value), (t2, [.i t2_0, .i t2_1, .i t2_2, .u t2_3, .string t2_4, t2_5.v], ty_enthymemeref06_Value), (out3, [.i out3_0, .i out3_1, .i out3_2, .u out3_3, .string out3_4, out3_5.v], ty_enthymemeref06_Value)] → L0 (at0 v1) (at0 t2) (at0 out3) i4 w R
theorem L0T_step (v1 : Nat) (v1_0 v1_1 v1_2 v1_3 : Int) (v1_4 : ByteArray) (v1_5 : Sl) (t2 : Nat) (t2_0 t2_1 t2_2 t2_3 : Int) (t2_4 : ByteArray) (t2_5 : Sl) (out3 : Nat) (out3_0 out3_1 out3_2 out3_3 : Int) (out3_4 : ByteArray) (out3_5 : Sl) (i4 : Int) (w : World) (R : Post) (h : sel (decide (i4 < ((v1_5.n : Nat) : Int))) ((0 : Int) ≤ i4 ∧ i4 < ((v1_5.n : Nat) : Int) ∧ optP v1_5.a fun t24_p => loc [v1, t2, out3] w fun w10 => ∃ t26 : Int, w10.cell? ((t24_p.add (Int.toNat i4 * 3)).add 0) = some (.u t26) ∧ 
  (0 : Int) ≤ i4 ∧ i4 < ((v1_5.n : Nat) : Int) ∧ optP v1_5.a fun t30_p => ∃ t32 : Int, w10.cell? ((t30_p.add (Int.toNat i4 * 3)).add 1) = some (.u t32) ∧ 
  (0 : Int) ≤ i4 ∧ i4 < ((v1_5.n : Nat) : Int) ∧ optP v1_5.a fun t36_p => ∃ t38 : ByteArray, w10.cell? ((t36_p.add (Int.toNat i4 * 3)).add 2) = some (.string t38) ∧ 
  nwV w10 (.cells #[.u t26, .u t32, .string t38] ty_enthymemeref06_Entry) fun w11 => 
  w11.cell? ((t36_p.add (Int.toNat i4 * 3)).add 2) = some (.string t38) ∧ w11.cell? ((t30_p.add (Int.toNat i4 * 3)).add 1) = some (.u t32) ∧ w11.cell? ((t24_p.add (Int.toNat i4 * 3)).add 0) = some (.u t26) ∧ ∃ (t41 : Sl) (w12 : World), Sem.run Try.prog (Builtin.append_ #[ty_sl_enthymemeref06_Entry, ty_sl_enthymemeref06_Entry] ty_sl_enthymemeref06_Entry #[out3_5.v, .slice (some (nb w10)) 1 1]) w11 = .ok (t41.v) w12 ∧ kept [v1, t2, out3] w11 w12 ∧ w12.cell? ((t36_p.add (Int.toNat i4 * 3)).add 2) = some (.string t38) ∧ w12.cell? ((t30_p.add (Int.toNat i4 * 3)).add 1) = some (.u t32) ∧ w12.cell? ((t24_p.add (Int.toNat i4 * 3)).add 0) = some (.u t26) ∧ loc [v1, t2, out3] w12 fun w13 => L0T v1 v1_0 v1_1 v1_2 v1_3 v1_4 v1_5 t2 t2_0 t2_1 t2_2 t2_3 t2_4 t2_5 out3 out3_0 out3_1 out3_2 out3_3 out3_4 t41 (IntKind.wrap .i64 (i4 + 1)) w13 R) (loc [v1, t2, out3] w fun w19 => R (.returned (.agg #[.i out3_0, .i out3_1, .i out3_2, .u out3_3, .string out3_4, out3_5.v])) w19)) : L0T v1 v1_0 v1_1 v1_2 v1_3 v1_4 v1_5 t2 t2_0 t2_1 t2_2 t2_3 t2_4 t2_5 out3 out3_0 out3_1 out3_2 out3_3 out3_4 out3_5 i4 w R := fun H => L0_step _ _ _ _ w R (⟨v1_5, H.ld 0 5, sel_imp h (fun h => LC.drT H (Fr.refl _ _) fun w10 H f => ⟨out3_5, H.ld 2 5, ⟨v1_5, H.ld 0 5, ⟨h.1, h.2.1, have h := h.2.2; optP_imp h fun t24_p h => have h := h _ f; let ⟨t26, hc0, h⟩ := h; ⟨t26, hc0, ⟨v1_5, H.ld 0 5, ⟨h.1, h.2.1, have h := h.2.2; optP_imp h fun t30_p h => let ⟨t32, hc0, h⟩ := h; ⟨t32, hc0, ⟨v1_5, H.ld 0 5, ⟨h.1, h.2.1, have h := h.2.2; optP_imp h fun t36_p h => let ⟨t38, hc0, h⟩ := h; ⟨t38, hc0, LC.nwN H h fun w11 H h => ⟨h.1, H.ld 0 5, h.2.1, H.ld 0 5, h.2.2.1, H.ld 0 5, H.ld 2 5, have h := h.2.2.2; let ⟨t41, w12, he, hk, h⟩ := h; have H := LC.keptT H hk; ⟨t41, w12, he, ⟨h.1, H.ld 0 5, h.2.1, H.ld 0 5, h.2.2.1, H.ld 0 5, have h := h.2.2.2; LC.stT H 2 5 (Fr.refl _ _) rfl rfl fun w13 (H : LC w13 [(v1, [.i v1_0, .i v1_1, .i v1_2, .u v1_3, .string v1_4, v1_5.v], ty_value_Value), (t2, [.i t2_0, .i t2_1, .i t2_2, .u t2_3, .string t2_4, t2_5.v], ty_enthymemeref06_Value), (out3, [.i out3_0, .i out3_1, .i out3_2, .u out3_3, .string out3_4, t41.v], ty_enthymemeref06_Value)]) (f : Fr (· ∈ [v1, t2, out3]) _ w13) => have h := h _ f; h H⟩⟩⟩⟩⟩⟩⟩⟩⟩⟩⟩⟩⟩) (fun h => ⟨_, _, _, _, _, out3_5, H.ld 2 0, H.ld 2 1, H.ld 2 2, H.ld 2 3, H.ld 2 4, H.ld 2 5, LC.stT0 H 1 (Fr.refl _ _) rfl rfl fun w14 H f => LC.stT H 1 1 f rfl rfl fun w15 H f => LC.stT H 1 2 f rfl rfl fun w16 H f => LC.stT H 1 3 f rfl rfl fun w17 H f => LC.stT H 1 4 f rfl rfl fun w18 H f => LC.stT H 1 5 f rfl rfl fun w19 (H : LC w19 [(v1, [.i v1_0, .i v1_1, .i v1_2, .u v1_3, .string v1_4, v1_5.v], ty_value_Value), (t2, [.i out3_0, .i out3_1, .i out3_2, .u out3_3, .string out3_4, out3_5.v], ty_enthymemeref06_Value), (out3, [.i out3_0, .i out3_1, .i out3_2, .u out3_3, .string out3_4, out3_5.v], ty_enthymemeref06_Value)]) (f : Fr (· ∈ [v1, t2, out3]) _ w19) => ⟨_, _, _, _, _, out3_5, H.ld 1 0, H.ld 1 1, H.ld 1 2, H.ld 1 3, H.ld 1 4, H.ld 1 5, have h := h _ f; h⟩⟩)⟩)
theorem okT (v0_0 v0_1 v0_2 v0_3 : Int) (v0_4 : ByteArray) (v0_5 : Sl) (w : World) (R : Post) (h : newV [] w fun b1 w1 => 
  newV [b1] w1 fun b2 w2 => 
  newV [b1, b2] w2 fun b3 w3 => 
  loc [b1, b2, b3] w3 fun w9 => L0T b1 v0_0 v0_1 v0_2 v0_3 v0_4 v0_5 b2 0 0 0 0 (ByteArray.mk #[]) ⟨none, 0, 0⟩ b3 v0_0 v0_1 v0_2 v0_3 v0_4 ⟨none, 0, 0⟩ 0 w9 R) : Calls Try.prog n_enthymemelaw06_plain #[.agg #[.i v0_0, .i v0_1, .i v0_2, .u v0_3, .string v0_4, v0_5.v]] w R :=
  ok _ _ _ _ _ _ w R (LC.nwT (LC.nil _) (Fr.refl _ _) h fun w1 H h => LC.nwT H (Fr.refl _ _) h fun w2 H h => ⟨_, _, _, H.ld 0 0, H.ld 0 1, H.ld 0 2, ⟨_, H.ld 0 3, ⟨_, H.ld 0 4, LC.nwT H (Fr.refl _ _) h fun w3 (H : LC w3 [(w.heap.size, [.i v0_0, .i v0_1, .i v0_2, .u v0_3, .string v0_4, v0_5.v], ty_value_Value), (w1.heap.size, [.i 0, .i 0, .i 0, .u 0, .s0, .slice none 0 0], ty_enthymemeref06_Value), (w2.heap.size, [.i 0, .i 0, .i 0, .u 0, .s0, .slice none 0 0], ty_enthymemeref06_Value)]) h => LC.stT0 H 2 (Fr.refl _ _) rfl rfl fun w4 H f => LC.stT H 2 1 f rfl rfl fun w5 H f => LC.stT H 2 2 f rfl rfl fun w6 H f => LC.stT H 2 3 f rfl rfl fun w7 H f => LC.stT H 2 4 f rfl rfl fun w8 H f => LC.stT H 2 5 f rfl rfl fun w9 (H : LC w9 [(w.heap.size, [.i v0_0, .i v0_1, .i v0_2, .u v0_3, .string v0_4, v0_5.v], ty_value_Value), (w1.heap.size, [.i 0, .i 0, .i 0, .u 0, .s0, .slice none 0 0], ty_enthymemeref06_Value), (w2.heap.size, [.i v0_0, .i v0_1, .i v0_2, .u v0_3, .string v0_4, .slice none 0 0], ty_enthymemeref06_Value)]) (f : Fr (· ∈ [w.heap.size, w1.heap.size, w2.heap.size]) _ w9) => have h := h _ f; h H⟩⟩⟩)
end enthymemelaw06_plain
namespace enthymemelaw06_lives
noncomputable def C0 : Code := (Try.f19.body).getD .skip
/-- enthymeme/enthymemelaw06.lives -/
noncomputable def C1:=C0.sn
noncomputable def C2:=C1.sn
noncomputable def C3:=C2.sn
noncomputable def C4:=C3.sn
noncomputable def C5:=C4.sn
noncomputable def C6:=C5.sn
noncomputable def C7:=C6.sn
noncomputable def C8:=C7.sn
noncomputable def C9:=C8.sn
noncomputable def C10:=C9.sn
noncomputable def C11:=C10.sn
theorem ok  (w : World) (R : Post) (h : nwV w (.cells #[.i 0, .i 0, .i 0] ty_api_Sort) fun w1 => 
  stV w1 (nb w) (.i 2) fun w2 => 
  stV w2 ((nb w).add 1) (.i 8) fun w3 => 
  stV w3 ((nb w).add 2) (.i 4) fun w4 => 
  ∃ t17_0 : Int, ∃ t17_1 : Int, ∃ t17_2 : Int, w4.cell? ((nb w).add 0) = some (.i t17_0) ∧ w4.cell? ((nb w).add 1) = some (.i t17_1) ∧ w4.cell? ((nb w).add 2) = some (.i t17_2) ∧ 
  Calls Try.prog n_value_Zero #[.agg #[.i t17_0, .i t17_1, .i t17_2]] w4 fun r_ w5 => ∃ t18_0_0 : Int, ∃ t18_0_1 : Int, ∃ t18_0_2 : Int, ∃ t18_0_3 : Int, ∃ t18_0_4 : ByteArray, ∃ t18_0_5 : Sl, ∃ t18_1 : Int, r_ = .returned (.tuple #[.agg #[.i t18_0_0, .i t18_0_1, .i t18_0_2, .u t18_0_3, .string t18_0_4, t18_0_5.v], .i t18_1]) ∧ 
  nwV w5 (.cells #[.i 0, .i 0, .i 0, .u 0, .s0, .slice none 0 0] ty_value_Value) fun w6 => 
  stV w6 (nb w5) (.i t18_0_0) fun w7 => 
  stV w7 ((nb w5).add 1) (.i t18_0_1) fun w8 => 
  stV w8 ((nb w5).add 2) (.i t18_0_2) fun w9 => 
  stV w9 ((nb w5).add 3) (.u t18_0_3) fun w10 => 
  stV w10 ((nb w5).add 4) (.string t18_0_4) fun w11 => 
  stV w11 ((nb w5).add 5) (t18_0_5.v) fun w12 => 
  nwV w12 (.cells #[.i 0, .i 0, .i 0, .u 0, .s0, .slice none 0 0] ty_value_Value) fun w13 => 
  stV w13 (nb w12) (.i 0) fun w14 => 
  stV w14 ((nb w12).add 1) (.i 8) fun w15 => 
  stV w15 ((nb w12).add 2) (.i 0) fun w16 => 
  stV w16 ((nb w12).add 3) (.u 5) fun w17 => 
  stV w17 ((nb w12).add 4) (.s0) fun w18 => 
  stV w18 ((nb w12).add 5) (.slice none 0 0) fun w19 => 
  ∃ t24_0 : Int, ∃ t24_1 : Int, ∃ t24_2 : Int, ∃ t24_3 : Int, ∃ t24_4 : ByteArray, ∃ t24_5 : Sl, w19.cell? ((nb w5).add 0) = some (.i t24_0) ∧ w19.cell? ((nb w5).add 1) = some (.i t24_1) ∧ w19.cell? ((nb w5).add 2) = some (.i t24_2) ∧ w19.cell? ((nb w5).add 3) = some (.u t24_3) ∧ w19.cell? ((nb w5).add 4) = some (.string t24_4) ∧ w19.cell? ((nb w5).add 5) = some (t24_5.v) ∧ 
  ∃ t25_0 : Int, ∃ t25_1 : Int, ∃ t25_2 : Int, ∃ t25_3 : Int, ∃ t25_4 : ByteArray, ∃ t25_5 : Sl, w19.cell? ((nb w12).add 0) = some (.i t25_0) ∧ w19.cell? ((nb w12).add 1) = some (.i t25_1) ∧ w19.cell? ((nb w12).add 2) = some (.i t25_2) ∧ w19.cell? ((nb w12).add 3) = some (.u t25_3) ∧ w19.cell? ((nb w12).add 4) = some (.string t25_4) ∧ w19.cell? ((nb w12).add 5) = some (t25_5.v) ∧ 
  Calls Try.prog n_value_Store #[.agg #[.i t24_0, .i t24_1, .i t24_2, .u t24_3, .string t24_4, t24_5.v], .u 3, .agg #[.i t25_0, .i t25_1, .i t25_2, .u t25_3, .string t25_4, t25_5.v]] w19 fun r_ w20 => ∃ t26_0_0 : Int, ∃ t26_0_1 : Int, ∃ t26_0_2 : Int, ∃ t26_0_3 : Int, ∃ t26_0_4 : ByteArray, ∃ t26_0_5 : Sl, ∃ t26_1 : Int, r_ = .returned (.tuple #[.agg #[.i t26_0_0, .i t26_0_1, .i t26_0_2, .u t26_0_3, .string t26_0_4, t26_0_5.v], .i t26_1]) ∧ 
  nwV w20 (.cells #[.i 0, .i 0, .i 0, .u 0, .s0, .slice none 0 0] ty_value_Value) fun w21 => 
  stV w21 (nb w20) (.i t26_0_0) fun w22 => 
  stV w22 ((nb w20).add 1) (.i t26_0_1) fun w23 => 
  stV w23 ((nb w20).add 2) (.i t26_0_2) fun w24 => 
  stV w24 ((nb w20).add 3) (.u t26_0_3) fun w25 => 
  stV w25 ((nb w20).add 4) (.string t26_0_4) fun w26 => 
  stV w26 ((nb w20).add 5) (t26_0_5.v) fun w27 => 
  ∃ t30_0 : Int, ∃ t30_1 : Int, ∃ t30_2 : Int, ∃ t30_3 : Int, ∃ t30_4 : ByteArray, ∃ t30_5 : Sl, w27.cell? ((nb w20).add 0) = some (.i t30_0) ∧ w27.cell? ((nb w20).add 1) = some (.i t30_1) ∧ w27.cell? ((nb w20).add 2) = some (.i t30_2) ∧ w27.cell? ((nb w20).add 3) = some (.u t30_3) ∧ w27.cell? ((nb w20).add 4) = some (.string t30_4) ∧ w27.cell? ((nb w20).add 5) = some (t30_5.v) ∧ 
  Calls Try.prog n_value_Select #[.agg #[.i t30_0, .i t30_1, .i t30_2, .u t30_3, .string t30_4, t30_5.v], .u 3] w27 fun r_ w28 => ∃ t31_0_0 : Int, ∃ t31_0_1 : Int, ∃ t31_0_2 : Int, ∃ t31_0_3 : Int, ∃ t31_0_4 : ByteArray, ∃ t31_0_5 : Sl, ∃ t31_1 : Int, r_ = .returned (.tuple #[.agg #[.i t31_0_0, .i t31_0_1, .i t31_0_2, .u t31_0_3, .string t31_0_4, t31_0_5.v], .i t31_1]) ∧ 
  nwV w28 (.cells #[.i 0, .i 0, .i 0, .u 0, .s0, .slice none 0 0] ty_value_Value) fun w29 => 
  stV w29 (nb w28) (.i t31_0_0) fun w30 => 
  stV w30 ((nb w28).add 1) (.i t31_0_1) fun w31 => 
  stV w31 ((nb w28).add 2) (.i t31_0_2) fun w32 => 
  stV w32 ((nb w28).add 3) (.u t31_0_3) fun w33 => 
  stV w33 ((nb w28).add 4) (.string t31_0_4) fun w34 => 
  stV w34 ((nb w28).add 5) (t31_0_5.v) fun w35 => 
  ∃ t35_0 : Int, ∃ t35_1 : Int, ∃ t35_2 : Int, ∃ t35_3 : Int, ∃ t35_4 : ByteArray, ∃ t35_5 : Sl, w35.cell? ((nb w20).add 0) = some (.i t35_0) ∧ w35.cell? ((nb w20).add 1) = some (.i t35_1) ∧ w35.cell? ((nb w20).add 2) = some (.i t35_2) ∧ w35.cell? ((nb w20).add 3) = some (.u t35_3) ∧ w35.cell? ((nb w20).add 4) = some (.string t35_4) ∧ w35.cell? ((nb w20).add 5) = some (t35_5.v) ∧ 
  Calls Try.prog n_value_Select #[.agg #[.i t35_0, .i t35_1, .i t35_2, .u t35_3, .string t35_4, t35_5.v], .u 2] w35 fun r_ w36 => ∃ t36_0_0 : Int, ∃ t36_0_1 : Int, ∃ t36_0_2 : Int, ∃ t36_0_3 : Int, ∃ t36_0_4 : ByteArray, ∃ t36_0_5 : Sl, ∃ t36_1 : Int, r_ = .returned (.tuple #[.agg #[.i t36_0_0, .i t36_0_1, .i t36_0_2, .u t36_0_3, .string t36_0_4, t36_0_5.v], .i t36_1]) ∧ 
  nwV w36 (.cells #[.i 0, .i 0, .i 0, .u 0, .s0, .slice none 0 0] ty_value_Value) fun w37 => 
  stV w37 (nb w36) (.i t36_0_0) fun w38 => 
  stV w38 ((nb w36).add 1) (.i t36_0_1) fun w39 => 
  stV w39 ((nb w36).add 2) (.i t36_0_2) fun w40 => 
  stV w40 ((nb w36).add 3) (.u t36_0_3) fun w41 => 
  stV w41 ((nb w36).add 4) (.string t36_0_4) fun w42 => 
  stV w42 ((nb w36).add 5) (t36_0_5.v) fun w43 => 
  ∃ t40_0 : Int, ∃ t40_1 : Int, ∃ t40_2 : Int, ∃ t40_3 : Int, ∃ t40_4 : ByteArray, ∃ t40_5 : Sl, w43.cell? ((nb w5).add 0) = some (.i t40_0) ∧ w43.cell? ((nb w5).add 1) = some (.i t40_1) ∧ w43.cell? ((nb w5).add 2) = some (.i t40_2) ∧ w43.cell? ((nb w5).add 3) = some (.u t40_3) ∧ w43.cell? ((nb w5).add 4) = some (.string t40_4) ∧ w43.cell? ((nb w5).add 5) = some (t40_5.v) ∧ 
  ∃ t41_0 : Int, ∃ t41_1 : Int, ∃ t41_2 : Int, ∃ t41_3 : Int, ∃ t41_4 : ByteArray, ∃ t41_5 : Sl, w43.cell? ((nb w20).add 0) = some (.i t41_0) ∧ w43.cell? ((nb w20).add 1) = some (.i t41_1) ∧ w43.cell? ((nb w20).add 2) = some (.i t41_2) ∧ w43.cell? ((nb w20).add 3) = some (.u t41_3) ∧ w43.cell? ((nb w20).add 4) = some (.string t41_4) ∧ w43.cell? ((nb w20).add 5) = some (t41_5.v) ∧ 
  Calls Try.prog n_value_Diff #[.agg #[.i t40_0, .i t40_1, .i t40_2, .u t40_3, .string t40_4, t40_5.v], .agg #[.i t41_0, .i t41_1, .i t41_2, .u t41_3, .string t41_4, t41_5.v]] w43 fun r_ w44 => ∃ t42_0 : Int, ∃ t42_1 : Int, r_ = .returned (.tuple #[.u t42_0, .i t42_1]) ∧ 
  stV w44 ((nb w12).add 3) (.u 0) fun w45 => 
  ∃ t47_0 : Int, ∃ t47_1 : Int, ∃ t47_2 : Int, ∃ t47_3 : Int, ∃ t47_4 : ByteArray, ∃ t47_5 : Sl, w45.cell? ((nb w20).add 0) = some (.i t47_0) ∧ w45.cell? ((nb w20).add 1) = some (.i t47_1) ∧ w45.cell? ((nb w20).add 2) = some (.i t47_2) ∧ w45.cell? ((nb w20).add 3) = some (.u t47_3) ∧ w45.cell? ((nb w20).add 4) = some (.string t47_4) ∧ w45.cell? ((nb w20).add 5) = some (t47_5.v) ∧ 
  ∃ t48_0 : Int, ∃ t48_1 : Int, ∃ t48_2 : Int, ∃ t48_3 : Int, ∃ t48_4 : ByteArray, ∃ t48_5 : Sl, w45.cell? ((nb w12).add 0) = some (.i t48_0) ∧ w45.cell? ((nb w12).add 1) = some (.i t48_1) ∧ w45.cell? ((nb w12).add 2) = some (.i t48_2) ∧ w45.cell? ((nb w12).add 3) = some (.u t48_3) ∧ w45.cell? ((nb w12).add 4) = some (.string t48_4) ∧ w45.cell? ((nb w12).add 5) = some (t48_5.v) ∧ 
  Calls Try.prog n_value_Store #[.agg #[.i t47_0, .i t47_1, .i t47_2, .u t47_3, .string t47_4, t47_5.v], .u 3, .agg #[.i t48_0, .i t48_1, .i t48_2, .u t48_3, .string t48_4, t48_5.v]] w45 fun r_ w46 => ∃ t49_0_0 : Int, ∃ t49_0_1 : Int, ∃ t49_0_2 : Int, ∃ t49_0_3 : Int, ∃ t49_0_4 : ByteArray, ∃ t49_0_5 : Sl, ∃ t49_1 : Int, r_ = .returned (.tuple #[.agg #[.i t49_0_0, .i t49_0_1, .i t49_0_2, .u t49_0_3, .string t49_0_4, t49_0_5.v], .i t49_1]) ∧ 
  nwV w46 (.cells #[.i 0, .i 0, .i 0, .u 0, .s0, .slice none 0 0] ty_value_Value) fun w47 => 
  stV w47 (nb w46) (.i t49_0_0) fun w48 => 
  stV w48 ((nb w46).add 1) (.i t49_0_1) fun w49 => 
  stV w49 ((nb w46).add 2) (.i t49_0_2) fun w50 => 
  stV w50 ((nb w46).add 3) (.u t49_0_3) fun w51 => 
  stV w51 ((nb w46).add 4) (.string t49_0_4) fun w52 => 
  stV w52 ((nb w46).add 5) (t49_0_5.v) fun w53 => 
  sel (t18_1 == 0) (sel (t26_1 == 0) (sel (t31_1 == 0) (sel (t36_1 == 0) (sel (t42_1 == 0) (sel (t49_1 == 0) (∃ t76 : Sl, w53.cell? ((nb w20).add 5) = some (t76.v) ∧ 
  sel (((t76.n : Nat) : Int) == 1) (∃ t82 : Int, w53.cell? ((nb w28).add 3) = some (.u t82) ∧ 
  sel (t82 == 5) (∃ t87 : Int, w53.cell? ((nb w36).add 3) = some (.u t87) ∧ 
  sel (t87 == 0) (sel (t42_0 == 3) (∃ t95_0 : Int, ∃ t95_1 : Int, ∃ t95_2 : Int, ∃ t95_3 : Int, ∃ t95_4 : ByteArray, ∃ t95_5 : Sl, w53.cell? ((nb w46).add 0) = some (.i t95_0) ∧ w53.cell? ((nb w46).add 1) = some (.i t95_1) ∧ w53.cell? ((nb w46).add 2) = some (.i t95_2) ∧ w53.cell? ((nb w46).add 3) = some (.u t95_3) ∧ w53.cell? ((nb w46).add 4) = some (.string t95_4) ∧ w53.cell? ((nb w46).add 5) = some (t95_5.v) ∧ 
  ∃ t96_0 : Int, ∃ t96_1 : Int, ∃ t96_2 : Int, ∃ t96_3 : Int, ∃ t96_4 : ByteArray, ∃ t96_5 : Sl, w53.cell? ((nb w5).add 0) = some (.i t96_0) ∧ w53.cell? ((nb w5).add 1) = some (.i t96_1) ∧ w53.cell? ((nb w5).add 2) = some (.i t96_2) ∧ w53.cell? ((nb w5).add 3) = some (.u t96_3) ∧ w53.cell? ((nb w5).add 4) = some (.string t96_4) ∧ w53.cell? ((nb w5).add 5) = some (t96_5.v) ∧ 
  Calls Try.prog n_value_Compare #[.agg #[.i t95_0, .i t95_1, .i t95_2, .u t95_3, .string t95_4, t95_5.v], .agg #[.i t96_0, .i t96_1, .i t96_2, .u t96_3, .string t96_4, t96_5.v]] w53 fun r_ w54 => ∃ t97 : Int, r_ = .returned (.i t97) ∧ 
  R (.returned (.bool (t97 == 0))) w54) (R (.returned (.bool false)) w53)) (R (.returned (.bool false)) w53)) (R (.returned (.bool false)) w53)) (R (.returned (.bool false)) w53)) (R (.returned (.bool false)) w53)) (R (.returned (.bool false)) w53)) (R (.returned (.bool false)) w53)) (R (.returned (.bool false)) w53)) (R (.returned (.bool false)) w53)) (R (.returned (.bool false)) w53)) : Calls Try.prog n_enthymemelaw06_lives #[] w R :=
  calls_of_WP' (R := R) (fn := Try.f19) (c := C0) (args := []) (by kernel_rfl) (by kernel_rfl) (by kernel_rfl) (sr C0 (show (fun (E : Env) (w : World) => srK Try.prog C0 (fun E w => srK Try.prog C1 (fun E w => srK Try.prog C2 (fun E w => srK Try.prog C3 (fun E w => srK Try.prog C4 (fun E w => srK Try.prog C5 (fun E w => srK Try.prog C6 (fun E w => srK Try.prog C7 (fun E w => srK Try.prog C8 (fun E w => srK Try.prog C9 (fun E w => srK Try.prog C10 (fun E w => retVC Try.prog Try.f19 E w (fun v => R (.returned v) w)) E w) E w) E w) E w) E w) E w) E w) E w) E w) E w) E w) (envOf 0 []) w from Eq.mp (by kernel_rfl) h) fun _ _ hK => (sr C1 hK fun _ _ hK => (sr C2 hK fun _ _ hK => (sr C3 hK fun _ _ hK => (sr C4 hK fun _ _ hK => (sr C5 hK fun _ _ hK => (sr C6 hK fun _ _ hK => (sr C7 hK fun _ _ hK => (sr C8 hK fun _ _ hK => (sr C9 hK fun _ _ hK => (sr C10 hK fun _ _ hK => (rt C11 fun a hA => retVC_sound hA hK))))))))))))
theorem okT  (w : World) (R : Post) (h : newV [] w fun b1 w1 => 
  loc [b1] w1 fun w4 => callF [b1] Try.prog n_value_Zero #[.agg #[.i 2, .i 8, .i 4]] w4 fun r_ w5 => ∃ t18_0_0 : Int, ∃ t18_0_1 : Int, ∃ t18_0_2 : Int, ∃ t18_0_3 : Int, ∃ t18_0_4 : ByteArray, ∃ t18_0_5 : Sl, ∃ t18_1 : Int, r_ = .returned (.tuple #[.agg #[.i t18_0_0, .i t18_0_1, .i t18_0_2, .u t18_0_3, .string t18_0_4, t18_0_5.v], .i t18_1]) ∧ 
  newV [b1] w5 fun b2 w6 => 
  newV [b1, b2] w6 fun b4 w13 => 
  loc [b1, b2, b4] w13 fun w19 => callF [b1, b2, b4] Try.prog n_value_Store #[.agg #[.i t18_0_0, .i t18_0_1, .i t18_0_2, .u t18_0_3, .string t18_0_4, t18_0_5.v], .u 3, .agg #[.i 0, .i 8, .i 0, .u 5, .s0, .slice none 0 0]] w19 fun r_ w20 => ∃ t26_0_0 : Int, ∃ t26_0_1 : Int, ∃ t26_0_2 : Int, ∃ t26_0_3 : Int, ∃ t26_0_4 : ByteArray, ∃ t26_0_5 : Sl, ∃ t26_1 : Int, r_ = .returned (.tuple #[.agg #[.i t26_0_0, .i t26_0_1, .i t26_0_2, .u t26_0_3, .string t26_0_4, t26_0_5.v], .i t26_1]) ∧ 
  newV [b1, b2, b4] w20 fun b5 w21 => 
  loc [b1, b2, b4, b5] w21 fun w27 => callF [b1, b2, b4, b5] Try.prog n_value_Select #[.agg #[.i t26_0_0, .i t26_0_1, .i t26_0_2, .u t26_0_3, .string t26_0_4, t26_0_5.v], .u 3] w27 fun r_ w28 => ∃ t31_0_0 : Int, ∃ t31_0_1 : Int, ∃ t31_0_2 : Int, ∃ t31_0_3 : Int, ∃ t31_0_4 : ByteArray, ∃ t31_0_5 : Sl, ∃ t31_1 : Int, r_ = .returned (.tuple #[.agg #[.i t31_0_0, .i t31_0_1, .i t31_0_2, .u t31_0_3, .string t31_0_4, t31_0_5.v], .i t31_1]) ∧ 
  newV [b1, b2, b4, b5] w28 fun b7 w29 => 
  loc [b1, b2, b4, b5, b7] w29 fun w35 => callF [b1, b2, b4, b5, b7] Try.prog n_value_Select #[.agg #[.i t26_0_0, .i t26_0_1, .i t26_0_2, .u t26_0_3, .string t26_0_4, t26_0_5.v], .u 2] w35 fun r_ w36 => ∃ t36_0_0 : Int, ∃ t36_0_1 : Int, ∃ t36_0_2 : Int, ∃ t36_0_3 : Int, ∃ t36_0_4 : ByteArray, ∃ t36_0_5 : Sl, ∃ t36_1 : Int, r_ = .returned (.tuple #[.agg #[.i t36_0_0, .i t36_0_1, .i t36_0_2, .u t36_0_3, .string t36_0_4, t36_0_5.v], .i t36_1]) ∧ 
  newV [b1, b2, b4, b5, b7] w36 fun b9 w37 => 
  loc [b1, b2, b4, b5, b7, b9] w37 fun w43 => callF [b1, b2, b4, b5, b7, b9] Try.prog n_value_Diff #[.agg #[.i t18_0_0, .i t18_0_1, .i t18_0_2, .u t18_0_3, .string t18_0_4, t18_0_5.v], .agg #[.i t26_0_0, .i t26_0_1, .i t26_0_2, .u t26_0_3, .string t26_0_4, t26_0_5.v]] w43 fun r_ w44 => ∃ t42_0 : Int, ∃ t42_1 : Int, r_ = .returned (.tuple #[.u t42_0, .i t42_1]) ∧ 
  loc [b1, b2, b4, b5, b7, b9] w44 fun w45 => callF [b1, b2, b4, b5, b7, b9] Try.prog n_value_Store #[.agg #[.i t26_0_0, .i t26_0_1, .i t26_0_2, .u t26_0_3, .string t26_0_4, t26_0_5.v], .u 3, .agg #[.i 0, .i 8, .i 0, .u 0, .s0, .slice none 0 0]] w45 fun r_ w46 => ∃ t49_0_0 : Int, ∃ t49_0_1 : Int, ∃ t49_0_2 : Int, ∃ t49_0_3 : Int, ∃ t49_0_4 : ByteArray, ∃ t49_0_5 : Sl, ∃ t49_1 : Int, r_ = .returned (.tuple #[.agg #[.i t49_0_0, .i t49_0_1, .i t49_0_2, .u t49_0_3, .string t49_0_4, t49_0_5.v], .i t49_1]) ∧ 
  newV [b1, b2, b4, b5, b7, b9] w46 fun b13 w47 => 
  sel (t18_1 == 0) (sel (t26_1 == 0) (sel (t31_1 == 0) (sel (t36_1 == 0) (sel (t42_1 == 0) (sel (t49_1 == 0) (sel (((t26_0_5.n : Nat) : Int) == 1) (sel (t31_0_3 == 5) (sel (t36_0_3 == 0) (sel (t42_0 == 3) (loc [b1, b2, b4, b5, b7, b9, b13] w47 fun w53 => callF [b1, b2, b4, b5, b7, b9, b13] Try.prog n_value_Compare #[.agg #[.i t49_0_0, .i t49_0_1, .i t49_0_2, .u t49_0_3, .string t49_0_4, t49_0_5.v], .agg #[.i t18_0_0, .i t18_0_1, .i t18_0_2, .u t18_0_3, .string t18_0_4, t18_0_5.v]] w53 fun r_ w54 => ∃ t97 : Int, r_ = .returned (.i t97) ∧ 
  R (.returned (.bool (t97 == 0))) w54) (loc [b1, b2, b4, b5, b7, b9, b13] w47 fun w53 => R (.returned (.bool false)) w53)) (loc [b1, b2, b4, b5, b7, b9, b13] w47 fun w53 => R (.returned (.bool false)) w53)) (loc [b1, b2, b4, b5, b7, b9, b13] w47 fun w53 => R (.returned (.bool false)) w53)) (loc [b1, b2, b4, b5, b7, b9, b13] w47 fun w53 => R (.returned (.bool false)) w53)) (loc [b1, b2, b4, b5, b7, b9, b13] w47 fun w53 => R (.returned (.bool false)) w53)) (loc [b1, b2, b4, b5, b7, b9, b13] w47 fun w53 => R (.returned (.bool false)) w53)) (loc [b1, b2, b4, b5, b7, b9, b13] w47 fun w53 => R (.returned (.bool false)) w53)) (loc [b1, b2, b4, b5, b7, b9, b13] w47 fun w53 => R (.returned (.bool false)) w53)) (loc [b1, b2, b4, b5, b7, b9, b13] w47 fun w53 => R (.returned (.bool false)) w53)) (loc [b1, b2, b4, b5, b7, b9, b13] w47 fun w53 => R (.returned (.bool false)) w53)) : Calls Try.prog n_enthymemelaw06_lives #[] w R :=
  ok  w R (LC.nwT (LC.nil _) (Fr.refl _ _) h fun w1 H h => LC.stT0 H 0 (Fr.refl _ _) rfl rfl fun w2 H f => LC.stT H 0 1 f rfl rfl fun w3 H f => LC.stT H 0 2 f rfl rfl fun w4 (H : LC w4 [(w.heap.size, [.i 2, .i 8, .i 4], ty_api_Sort)]) (f : Fr (· ∈ [w.heap.size]) _ w4) => ⟨_, _, _, H.ld 0 0, H.ld 0 1, H.ld 0 2, have h := h _ f; LC.callT H h fun r_ w5 H h => let ⟨t18_0_0, t18_0_1, t18_0_2, t18_0_3, t18_0_4, t18_0_5, t18_1, hr, h⟩ := h; ⟨t18_0_0, t18_0_1, t18_0_2, t18_0_3, t18_0_4, t18_0_5, t18_1, hr, LC.nwT H (Fr.refl _ _) h fun w6 H h => LC.stT0 H 1 (Fr.refl _ _) rfl rfl fun w7 H f => LC.stT H 1 1 f rfl rfl fun w8 H f => LC.stT H 1 2 f rfl rfl fun w9 H f => LC.stT H 1 3 f rfl rfl fun w10 H f => LC.stT H 1 4 f rfl rfl fun w11 H f => LC.stT H 1 5 f rfl rfl fun w12 (H : LC w12 [(w.heap.size, [.i 2, .i 8, .i 4], ty_api_Sort), (w5.heap.size, [.i t18_0_0, .i t18_0_1, .i t18_0_2, .u t18_0_3, .string t18_0_4, t18_0_5.v], ty_value_Value)]) (f : Fr (· ∈ [w.heap.size, w5.heap.size]) _ w12) => LC.nwT H f h fun w13 (H : LC w13 [(w.heap.size, [.i 2, .i 8, .i 4], ty_api_Sort), (w5.heap.size, [.i t18_0_0, .i t18_0_1, .i t18_0_2, .u t18_0_3, .string t18_0_4, t18_0_5.v], ty_value_Value), (w12.heap.size, [.i 0, .i 0, .i 0, .u 0, .s0, .slice none 0 0], ty_value_Value)]) h => LC.stT0 H 2 (Fr.refl _ _) rfl rfl fun w14 H f => LC.stT H 2 1 f rfl rfl fun w15 H f => LC.stT H 2 2 f rfl rfl fun w16 H f => LC.stT H 2 3 f rfl rfl fun w17 H f => LC.stT H 2 4 f rfl rfl fun w18 H f => LC.stT H 2 5 f rfl rfl fun w19 (H : LC w19 [(w.heap.size, [.i 2, .i 8, .i 4], ty_api_Sort), (w5.heap.size, [.i t18_0_0, .i t18_0_1, .i t18_0_2, .u t18_0_3, .string t18_0_4, t18_0_5.v], ty_value_Value), (w12.heap.size, [.i 0, .i 8, .i 0, .u 5, .s0, .slice none 0 0], ty_value_Value)]) (f : Fr (· ∈ [w.heap.size, w5.heap.size, w12.heap.size]) _ w19) => ⟨_, _, _, _, _, t18_0_5, H.ld 1 0, H.ld 1 1, H.ld 1 2, H.ld 1 3, H.ld 1 4, H.ld 1 5, ⟨_, _, _, _, _, ⟨none, 0, 0⟩, H.ld 2 0, H.ld 2 1, H.ld 2 2, H.ld 2 3, H.ld 2 4, H.ld 2 5, have h := h _ f; LC.callT H h fun r_ w20 H h => let ⟨t26_0_0, t26_0_1, t26_0_2, t26_0_3, t26_0_4, t26_0_5, t26_1, hr, h⟩ := h; ⟨t26_0_0, t26_0_1, t26_0_2, t26_0_3, t26_0_4, t26_0_5, t26_1, hr, LC.nwT H (Fr.refl _ _) h fun w21 (H : LC w21 [(w.heap.size, [.i 2, .i 8, .i 4], ty_api_Sort), (w5.heap.size, [.i t18_0_0, .i t18_0_1, .i t18_0_2, .u t18_0_3, .string t18_0_4, t18_0_5.v], ty_value_Value), (w12.heap.size, [.i 0, .i 8, .i 0, .u 5, .s0, .slice none 0 0], ty_value_Value), (w20.heap.size, [.i 0, .i 0, .i 0, .u 0, .s0, .slice none 0 0], ty_value_Value)]) h => LC.stT0 H 3 (Fr.refl _ _) rfl rfl fun w22 H f => LC.stT H 3 1 f rfl rfl fun w23 H f => LC.stT H 3 2 f rfl rfl fun w24 H f => LC.stT H 3 3 f rfl rfl fun w25 H f => LC.stT H 3 4 f rfl rfl fun w26 H f => LC.stT H 3 5 f rfl rfl fun w27 (H : LC w27 [(w.heap.size, [.i 2, .i 8, .i 4], ty_api_Sort), (w5.heap.size, [.i t18_0_0, .i t18_0_1, .i t18_0_2, .u t18_0_3, .string t18_0_4, t18_0_5.v], ty_value_Value), (w12.heap.size, [.i 0, .i 8, .i 0, .u 5, .s0, .slice none 0 0], ty_value_Value), (w20.heap.size, [.i t26_0_0, .i t26_0_1, .i t26_0_2, .u t26_0_3, .string t26_0_4, t26_0_5.v], ty_value_Value)]) (f : Fr (· ∈ [w.heap.size, w5.heap.size, w12.heap.size, w20.heap.size]) _ w27) => ⟨_, _, _, _, _, t26_0_5, H.ld 3 0, H.ld 3 1, H.ld 3 2, H.ld 3 3, H.ld 3 4, H.ld 3 5, have h := h _ f; LC.callT H h fun r_ w28 H h => let ⟨t31_0_0, t31_0_1, t31_0_2, t31_0_3, t31_0_4, t31_0_5, t31_1, hr, h⟩ := h; ⟨t31_0_0, t31_0_1, t31_0_2, t31_0_3, t31_0_4, t31_0_5, t31_1, hr, LC.nwT H (Fr.refl _ _) h fun w29 (H : LC w29 [(w.heap.size, [.i 2, .i 8, .i 4], ty_api_Sort), (w5.heap.size, [.i t18_0_0, .i t18_0_1, .i t18_0_2, .u t18_0_3, .string t18_0_4, t18_0_5.v], ty_value_Value), (w12.heap.size, [.i 0, .i 8, .i 0, .u 5, .s0, .slice none 0 0], ty_value_Value), (w20.heap.size, [.i t26_0_0, .i t26_0_1, .i t26_0_2, .u t26_0_3, .string t26_0_4, t26_0_5.v], ty_value_Value), (w28.heap.size, [.i 0, .i 0, .i 0, .u 0, .s0, .slice none 0 0], ty_value_Value)]) h => LC.stT0 H 4 (Fr.refl _ _) rfl rfl fun w30 H f => LC.stT H 4 1 f rfl rfl fun w31 H f => LC.stT H 4 2 f rfl rfl fun w32 H f => LC.stT H 4 3 f rfl rfl fun w33 H f => LC.stT H 4 4 f rfl rfl fun w34 H f => LC.stT H 4 5 f rfl rfl fun w35 (H : LC w35 [(w.heap.size, [.i 2, .i 8, .i 4], ty_api_Sort), (w5.heap.size, [.i t18_0_0, .i t18_0_1, .i t18_0_2, .u t18_0_3, .string t18_0_4, t18_0_5.v], ty_value_Value), (w12.heap.size, [.i 0, .i 8, .i 0, .u 5, .s0, .slice none 0 0], ty_value_Value), (w20.heap.size, [.i t26_0_0, .i t26_0_1, .i t26_0_2, .u t26_0_3, .string t26_0_4, t26_0_5.v], ty_value_Value), (w28.heap.size, [.i t31_0_0, .i t31_0_1, .i t31_0_2, .u t31_0_3, .string t31_0_4, t31_0_5.v], ty_value_Value)]) (f : Fr (· ∈ [w.heap.size, w5.heap.size, w12.heap.size, w20.heap.size, w28.heap.size]) _ w35) => ⟨_, _, _, _, _, t26_0_5, H.ld 3 0, H.ld 3 1, H.ld 3 2, H.ld 3 3, H.ld 3 4, H.ld 3 5, have h := h _ f; LC.callT H h fun r_ w36 H h => let ⟨t36_0_0, t36_0_1, t36_0_2, t36_0_3, t36_0_4, t36_0_5, t36_1, hr, h⟩ := h; ⟨t36_0_0, t36_0_1, t36_0_2, t36_0_3, t36_0_4, t36_0_5, t36_1, hr, LC.nwT H (Fr.refl _ _) h fun w37 (H : LC w37 [(w.heap.size, [.i 2, .i 8, .i 4], ty_api_Sort), (w5.heap.size, [.i t18_0_0, .i t18_0_1, .i t18_0_2, .u t18_0_3, .string t18_0_4, t18_0_5.v], ty_value_Value), (w12.heap.size, [.i 0, .i 8, .i 0, .u 5, .s0, .slice none 0 0], ty_value_Value), (w20.heap.size, [.i t26_0_0, .i t26_0_1, .i t26_0_2, .u t26_0_3, .string t26_0_4, t26_0_5.v], ty_value_Value), (w28.heap.size, [.i t31_0_0, .i t31_0_1, .i t31_0_2, .u t31_0_3, .string t31_0_4, t31_0_5.v], ty_value_Value), (w36.heap.size, [.i 0, .i 0, .i 0, .u 0, .s0, .slice none 0 0], ty_value_Value)]) h => LC.stT0 H 5 (Fr.refl _ _) rfl rfl fun w38 H f => LC.stT H 5 1 f rfl rfl fun w39 H f => LC.stT H 5 2 f rfl rfl fun w40 H f => LC.stT H 5 3 f rfl rfl fun w41 H f => LC.stT H 5 4 f rfl rfl fun w42 H f => LC.stT H 5 5 f rfl rfl fun w43 (H : LC w43 [(w.heap.size, [.i 2, .i 8, .i 4], ty_api_Sort), (w5.heap.size, [.i t18_0_0, .i t18_0_1, .i t18_0_2, .u t18_0_3, .string t18_0_4, t18_0_5.v], ty_value_Value), (w12.heap.size, [.i 0, .i 8, .i 0, .u 5, .s0, .slice none 0 0], ty_value_Value), (w20.heap.size, [.i t26_0_0, .i t26_0_1, .i t26_0_2, .u t26_0_3, .string t26_0_4, t26_0_5.v], ty_value_Value), (w28.heap.size, [.i t31_0_0, .i t31_0_1, .i t31_0_2, .u t31_0_3, .string t31_0_4, t31_0_5.v], ty_value_Value), (w36.heap.size, [.i t36_0_0, .i t36_0_1, .i t36_0_2, .u t36_0_3, .string t36_0_4, t36_0_5.v], ty_value_Value)]) (f : Fr (· ∈ [w.heap.size, w5.heap.size, w12.heap.size, w20.heap.size, w28.heap.size, w36.heap.size]) _ w43) => ⟨_, _, _, _, _, t18_0_5, H.ld 1 0, H.ld 1 1, H.ld 1 2, H.ld 1 3, H.ld 1 4, H.ld 1 5, ⟨_, _, _, _, _, t26_0_5, H.ld 3 0, H.ld 3 1, H.ld 3 2, H.ld 3 3, H.ld 3 4, H.ld 3 5, have h := h _ f; LC.callT H h fun r_ w44 H h => let ⟨t42_0, t42_1, hr, h⟩ := h; ⟨t42_0, t42_1, hr, LC.stT H 2 3 (Fr.refl _ _) rfl rfl fun w45 (H : LC w45 [(w.heap.size, [.i 2, .i 8, .i 4], ty_api_Sort), (w5.heap.size, [.i t18_0_0, .i t18_0_1, .i t18_0_2, .u t18_0_3, .string t18_0_4, t18_0_5.v], ty_value_Value), (w12.heap.size, [.i 0, .i 8, .i 0, .u 0, .s0, .slice none 0 0], ty_value_Value), (w20.heap.size, [.i t26_0_0, .i t26_0_1, .i t26_0_2, .u t26_0_3, .string t26_0_4, t26_0_5.v], ty_value_Value), (w28.heap.size, [.i t31_0_0, .i t31_0_1, .i t31_0_2, .u t31_0_3, .string t31_0_4, t31_0_5.v], ty_value_Value), (w36.heap.size, [.i t36_0_0, .i t36_0_1, .i t36_0_2, .u t36_0_3, .string t36_0_4, t36_0_5.v], ty_value_Value)]) (f : Fr (· ∈ [w.heap.size, w5.heap.size, w12.heap.size, w20.heap.size, w28.heap.size, w36.heap.size]) _ w45) => ⟨_, _, _, _, _, t26_0_5, H.ld 3 0, H.ld 3 1, H.ld 3 2, H.ld 3 3, H.ld 3 4, H.ld 3 5, ⟨_, _, _, _, _, ⟨none, 0, 0⟩, H.ld 2 0, H.ld 2 1, H.ld 2 2, H.ld 2 3, H.ld 2 4, H.ld 2 5, have h := h _ f; LC.callT H h fun r_ w46 H h => let ⟨t49_0_0, t49_0_1, t49_0_2, t49_0_3, t49_0_4, t49_0_5, t49_1, hr, h⟩ := h; ⟨t49_0_0, t49_0_1, t49_0_2, t49_0_3, t49_0_4, t49_0_5, t49_1, hr, LC.nwT H (Fr.refl _ _) h fun w47 (H : LC w47 [(w.heap.size, [.i 2, .i 8, .i 4], ty_api_Sort), (w5.heap.size, [.i t18_0_0, .i t18_0_1, .i t18_0_2, .u t18_0_3, .string t18_0_4, t18_0_5.v], ty_value_Value), (w12.heap.size, [.i 0, .i 8, .i 0, .u 0, .s0, .slice none 0 0], ty_value_Value), (w20.heap.size, [.i t26_0_0, .i t26_0_1, .i t26_0_2, .u t26_0_3, .string t26_0_4, t26_0_5.v], ty_value_Value), (w28.heap.size, [.i t31_0_0, .i t31_0_1, .i t31_0_2, .u t31_0_3, .string t31_0_4, t31_0_5.v], ty_value_Value), (w36.heap.size, [.i t36_0_0, .i t36_0_1, .i t36_0_2, .u t36_0_3, .string t36_0_4, t36_0_5.v], ty_value_Value), (w46.heap.size, [.i 0, .i 0, .i 0, .u 0, .s0, .slice none 0 0], ty_value_Value)]) h => LC.stT0 H 6 (Fr.refl _ _) rfl rfl fun w48 H f => LC.stT H 6 1 f rfl rfl fun w49 H f => LC.stT H 6 2 f rfl rfl fun w50 H f => LC.stT H 6 3 f rfl rfl fun w51 H f => LC.stT H 6 4 f rfl rfl fun w52 H f => LC.stT H 6 5 f rfl rfl fun w53 (H : LC w53 [(w.heap.size, [.i 2, .i 8, .i 4], ty_api_Sort), (w5.heap.size, [.i t18_0_0, .i t18_0_1, .i t18_0_2, .u t18_0_3, .string t18_0_4, t18_0_5.v], ty_value_Value), (w12.heap.size, [.i 0, .i 8, .i 0, .u 0, .s0, .slice none 0 0], ty_value_Value), (w20.heap.size, [.i t26_0_0, .i t26_0_1, .i t26_0_2, .u t26_0_3, .string t26_0_4, t26_0_5.v], ty_value_Value), (w28.heap.size, [.i t31_0_0, .i t31_0_1, .i t31_0_2, .u t31_0_3, .string t31_0_4, t31_0_5.v], ty_value_Value), (w36.heap.size, [.i t36_0_0, .i t36_0_1, .i t36_0_2, .u t36_0_3, .string t36_0_4, t36_0_5.v], ty_value_Value), (w46.heap.size, [.i t49_0_0, .i t49_0_1, .i t49_0_2, .u t49_0_3, .string t49_0_4, t49_0_5.v], ty_value_Value)]) (f : Fr (· ∈ [w.heap.size, w5.heap.size, w12.heap.size, w20.heap.size, w28.heap.size, w36.heap.size, w46.heap.size]) _ w53) => sel_imp h (fun h => sel_imp h (fun h => sel_imp h (fun h => sel_imp h (fun h => sel_imp h (fun h => sel_imp h (fun h => ⟨t26_0_5, H.ld 3 5, sel_imp h (fun h => ⟨_, H.ld 4 3, sel_imp h (fun h => ⟨_, H.ld 5 3, sel_imp h (fun h => sel_imp h (fun h => ⟨_, _, _, _, _, t49_0_5, H.ld 6 0, H.ld 6 1, H.ld 6 2, H.ld 6 3, H.ld 6 4, H.ld 6 5, ⟨_, _, _, _, _, t18_0_5, H.ld 1 0, H.ld 1 1, H.ld 1 2, H.ld 1 3, H.ld 1 4, H.ld 1 5, have h := h _ f; LC.callT H h fun r_ w54 H h => let ⟨t97, hr, h⟩ := h; ⟨t97, hr, h⟩⟩⟩) (fun h => have h := h _ f; h)) (fun h => have h := h _ f; h)⟩) (fun h => have h := h _ f; h)⟩) (fun h => have h := h _ f; h)⟩) (fun h => have h := h _ f; h)) (fun h => have h := h _ f; h)) (fun h => have h := h _ f; h)) (fun h => have h := h _ f; h)) (fun h => have h := h _ f; h)) (fun h => have h := h _ f; h)⟩⟩⟩⟩⟩⟩⟩⟩⟩⟩⟩⟩⟩⟩⟩)
end enthymemelaw06_lives
namespace enthymemelaw06_some
noncomputable def C0 : Code := (Try.f9.body).getD .skip
/-- enthymeme/enthymemelaw06.some -/
noncomputable def C1:=C0.sn
noncomputable def C2:=C1.sn
noncomputable def C3:=C2.sn
noncomputable def C4:=C3.sn
theorem ok (n0 : Int) (l1 : Sl) (at2 how3 by4 : Int) (w : World) (R : Post) (h : Calls Try.prog n_enthymemeref06_Sort #[.i n0] w fun r_ w1 => ∃ t14_0 : Int, ∃ t14_1 : Int, ∃ t14_2 : Int, r_ = .returned (.agg #[.i t14_0, .i t14_1, .i t14_2]) ∧ 
  Calls Try.prog n_enthymemeref06_Of #[.agg #[.i t14_0, .i t14_1, .i t14_2], l1.v] w1 fun r_ w2 => ∃ t16_0 : Int, ∃ t16_1 : Int, ∃ t16_2 : Int, ∃ t16_3 : Int, ∃ t16_4 : ByteArray, ∃ t16_5 : Sl, r_ = .returned (.agg #[.i t16_0, .i t16_1, .i t16_2, .u t16_3, .string t16_4, t16_5.v]) ∧ 
  nwV w2 (.cells #[.i 0, .i 0, .i 0, .u 0, .s0, .slice none 0 0] ty_enthymemeref06_Value) fun w3 => 
  stV w3 (nb w2) (.i t16_0) fun w4 => 
  stV w4 ((nb w2).add 1) (.i t16_1) fun w5 => 
  stV w5 ((nb w2).add 2) (.i t16_2) fun w6 => 
  stV w6 ((nb w2).add 3) (.u t16_3) fun w7 => 
  stV w7 ((nb w2).add 4) (.string t16_4) fun w8 => 
  stV w8 ((nb w2).add 5) (t16_5.v) fun w9 => 
  ∃ t17_0 : Int, ∃ t17_1 : Int, ∃ t17_2 : Int, ∃ t17_3 : Int, ∃ t17_4 : ByteArray, ∃ t17_5 : Sl, w9.cell? ((nb w2).add 0) = some (.i t17_0) ∧ w9.cell? ((nb w2).add 1) = some (.i t17_1) ∧ w9.cell? ((nb w2).add 2) = some (.i t17_2) ∧ w9.cell? ((nb w2).add 3) = some (.u t17_3) ∧ w9.cell? ((nb w2).add 4) = some (.string t17_4) ∧ w9.cell? ((nb w2).add 5) = some (t17_5.v) ∧ 
  Calls Try.prog n_enthymemeref06_Spoilt #[.agg #[.i t17_0, .i t17_1, .i t17_2, .u t17_3, .string t17_4, t17_5.v], .i at2, .i how3, .i by4] w9 fun r_ w10 => ∃ t21_0 : Int, ∃ t21_1 : Int, ∃ t21_2 : Int, ∃ t21_3 : Int, ∃ t21_4 : ByteArray, ∃ t21_5 : Sl, r_ = .returned (.agg #[.i t21_0, .i t21_1, .i t21_2, .u t21_3, .string t21_4, t21_5.v]) ∧ 
  nwV w10 (.cells #[.i 0, .i 0, .i 0, .u 0, .s0, .slice none 0 0] ty_enthymemeref06_Value) fun w11 => 
  stV w11 (nb w10) (.i t21_0) fun w12 => 
  stV w12 ((nb w10).add 1) (.i t21_1) fun w13 => 
  stV w13 ((nb w10).add 2) (.i t21_2) fun w14 => 
  stV w14 ((nb w10).add 3) (.u t21_3) fun w15 => 
  stV w15 ((nb w10).add 4) (.string t21_4) fun w16 => 
  stV w16 ((nb w10).add 5) (t21_5.v) fun w17 => 
  drV w17 fun w18 => ∃ t22_0 : Int, ∃ t22_1 : Int, ∃ t22_2 : Int, ∃ t22_3 : Int, ∃ t22_4 : ByteArray, ∃ t22_5 : Sl, w18.cell? ((nb w2).add 0) = some (.i t22_0) ∧ w18.cell? ((nb w2).add 1) = some (.i t22_1) ∧ w18.cell? ((nb w2).add 2) = some (.i t22_2) ∧ w18.cell? ((nb w2).add 3) = some (.u t22_3) ∧ w18.cell? ((nb w2).add 4) = some (.string t22_4) ∧ w18.cell? ((nb w2).add 5) = some (t22_5.v) ∧ 
  ∃ t23_0 : Int, ∃ t23_1 : Int, ∃ t23_2 : Int, ∃ t23_3 : Int, ∃ t23_4 : ByteArray, ∃ t23_5 : Sl, w18.cell? ((nb w10).add 0) = some (.i t23_0) ∧ w18.cell? ((nb w10).add 1) = some (.i t23_1) ∧ w18.cell? ((nb w10).add 2) = some (.i t23_2) ∧ w18.cell? ((nb w10).add 3) = some (.u t23_3) ∧ w18.cell? ((nb w10).add 4) = some (.string t23_4) ∧ w18.cell? ((nb w10).add 5) = some (t23_5.v) ∧ 
  ∃ t24_0 : Int, ∃ t24_1 : Int, ∃ t24_2 : Int, ∃ t24_3 : Int, ∃ t24_4 : ByteArray, ∃ t24_5 : Sl, w18.cell? ((nb w10).add 0) = some (.i t24_0) ∧ w18.cell? ((nb w10).add 1) = some (.i t24_1) ∧ w18.cell? ((nb w10).add 2) = some (.i t24_2) ∧ w18.cell? ((nb w10).add 3) = some (.u t24_3) ∧ w18.cell? ((nb w10).add 4) = some (.string t24_4) ∧ w18.cell? ((nb w10).add 5) = some (t24_5.v) ∧ 
  Calls Try.prog n_enthymemeref06_Spoilt #[.agg #[.i t24_0, .i t24_1, .i t24_2, .u t24_3, .string t24_4, t24_5.v], .i how3, .i at2, .i (IntKind.wrap .i64 (Int.tdiv by4 3))] w18 fun r_ w19 => ∃ t29_0 : Int, ∃ t29_1 : Int, ∃ t29_2 : Int, ∃ t29_3 : Int, ∃ t29_4 : ByteArray, ∃ t29_5 : Sl, r_ = .returned (.agg #[.i t29_0, .i t29_1, .i t29_2, .u t29_3, .string t29_4, t29_5.v]) ∧ 
  w19.cell? ((nb w10).add 0) = some (.i t23_0) ∧ w19.cell? ((nb w10).add 1) = some (.i t23_1) ∧ w19.cell? ((nb w10).add 2) = some (.i t23_2) ∧ w19.cell? ((nb w10).add 3) = some (.u t23_3) ∧ w19.cell? ((nb w10).add 4) = some (.string t23_4) ∧ w19.cell? ((nb w10).add 5) = some (t23_5.v) ∧ w19.cell? ((nb w2).add 0) = some (.i t22_0) ∧ w19.cell? ((nb w2).add 1) = some (.i t22_1) ∧ w19.cell? ((nb w2).add 2) = some (.i t22_2) ∧ w19.cell? ((nb w2).add 3) = some (.u t22_3) ∧ w19.cell? ((nb w2).add 4) = some (.string t22_4) ∧ w19.cell? ((nb w2).add 5) = some (t22_5.v) ∧ nwV w19 (.cells #[.i t22_0, .i t22_1, .i t22_2, .u t22_3, .string t22_4, t22_5.v, .i t23_0, .i t23_1, .i t23_2, .u t23_3, .string t23_4, t23_5.v, .i t29_0, .i t29_1, .i t29_2, .u t29_3, .string t29_4, t29_5.v, .i 0, .i 0, .i 0, .u 0, .s0, .slice none 0 0] ty_enthymemeref06_Value) fun w20 => 
  R (.returned (.slice (some (nb w19)) 4 4)) w20) : Calls Try.prog n_enthymemelaw06_some #[.i n0, l1.v, .i at2, .i how3, .i by4] w R :=
  calls_of_WP' (R := R) (fn := Try.f9) (c := C0) (args := [.i n0, l1.v, .i at2, .i how3, .i by4]) (by kernel_rfl) (by kernel_rfl) (by kernel_rfl) (sr C0 (show (fun (E : Env) (w : World) => srK Try.prog C0 (fun E w => srK Try.prog C1 (fun E w => srK Try.prog C2 (fun E w => sdK Try.prog C3 [0, 1, 2, 3, 4, 5, 6, 8, 7, 9, 10] (fun E w => retVC Try.prog Try.f9 E w (fun v => R (.returned v) w)) E w) E w) E w) E w) (envOf 0 [.i n0, l1.v, .i at2, .i how3, .i by4]) w from Eq.mp (by kernel_rfl) h) fun _ _ hK => (sr C1 hK fun _ _ hK => (sr C2 hK fun _ _ hK => (sd C3 (by kernel_rfl) hK fun _ _ hK => (rt C4 fun a hA => retVC_sound hA hK)))))
theorem okT (n0 : Int) (l1 : Sl) (at2 how3 by4 : Int) (w : World) (R : Post) (h : Calls Try.prog n_enthymemeref06_Sort #[.i n0] w fun r_ w1 => ∃ t14_0 : Int, ∃ t14_1 : Int, ∃ t14_2 : Int, r_ = .returned (.agg #[.i t14_0, .i t14_1, .i t14_2]) ∧ 
  Calls Try.prog n_enthymemeref06_Of #[.agg #[.i t14_0, .i t14_1, .i t14_2], l1.v] w1 fun r_ w2 => ∃ t16_0 : Int, ∃ t16_1 : Int, ∃ t16_2 : Int, ∃ t16_3 : Int, ∃ t16_4 : ByteArray, ∃ t16_5 : Sl, r_ = .returned (.agg #[.i t16_0, .i t16_1, .i t16_2, .u t16_3, .string t16_4, t16_5.v]) ∧ 
  newV [] w2 fun b11 w3 => 
  loc [b11] w3 fun w9 => callF [b11] Try.prog n_enthymemeref06_Spoilt #[.agg #[.i t16_0, .i t16_1, .i t16_2, .u t16_3, .string t16_4, t16_5.v], .i at2, .i how3, .i by4] w9 fun r_ w10 => ∃ t21_0 : Int, ∃ t21_1 : Int, ∃ t21_2 : Int, ∃ t21_3 : Int, ∃ t21_4 : ByteArray, ∃ t21_5 : Sl, r_ = .returned (.agg #[.i t21_0, .i t21_1, .i t21_2, .u t21_3, .string t21_4, t21_5.v]) ∧ 
  newV [b11] w10 fun b12 w11 => 
  loc [b11, b12] w11 fun w18 => callF [b11, b12] Try.prog n_enthymemeref06_Spoilt #[.agg #[.i t21_0, .i t21_1, .i t21_2, .u t21_3, .string t21_4, t21_5.v], .i how3, .i at2, .i (IntKind.wrap .i64 (Int.tdiv by4 3))] w18 fun r_ w19 => ∃ t29_0 : Int, ∃ t29_1 : Int, ∃ t29_2 : Int, ∃ t29_3 : Int, ∃ t29_4 : ByteArray, ∃ t29_5 : Sl, r_ = .returned (.agg #[.i t29_0, .i t29_1, .i t29_2, .u t29_3, .string t29_4, t29_5.v]) ∧ 
  nwV w19 (.cells #[.i t16_0, .i t16_1, .i t16_2, .u t16_3, .string t16_4, t16_5.v, .i t21_0, .i t21_1, .i t21_2, .u t21_3, .string t21_4, t21_5.v, .i t29_0, .i t29_1, .i t29_2, .u t29_3, .string t29_4, t29_5.v, .i 0, .i 0, .i 0, .u 0, .s0, .slice none 0 0] ty_enthymemeref06_Value) fun w20 => 
  R (.returned (.slice (some (nb w19)) 4 4)) w20) : Calls Try.prog n_enthymemelaw06_some #[.i n0, l1.v, .i at2, .i how3, .i by4] w R :=
  ok _ _ _ _ _ w R (Calls.mono h fun r_ w1 h => let ⟨t14_0, t14_1, t14_2, hr, h⟩ := h; ⟨t14_0, t14_1, t14_2, hr, Calls.mono h fun r_ w2 h => let ⟨t16_0, t16_1, t16_2, t16_3, t16_4, t16_5, hr, h⟩ := h; ⟨t16_0, t16_1, t16_2, t16_3, t16_4, t16_5, hr, LC.nwT (LC.nil _) (Fr.refl _ _) h fun w3 H h => LC.stT0 H 0 (Fr.refl _ _) rfl rfl fun w4 H f => LC.stT H 0 1 f rfl rfl fun w5 H f => LC.stT H 0 2 f rfl rfl fun w6 H f => LC.stT H 0 3 f rfl rfl fun w7 H f => LC.stT H 0 4 f rfl rfl fun w8 H f => LC.stT H 0 5 f rfl rfl fun w9 (H : LC w9 [(w2.heap.size, [.i t16_0, .i t16_1, .i t16_2, .u t16_3, .string t16_4, t16_5.v], ty_enthymemeref06_Value)]) (f : Fr (· ∈ [w2.heap.size]) _ w9) => ⟨_, _, _, _, _, t16_5, H.ld 0 0, H.ld 0 1, H.ld 0 2, H.ld 0 3, H.ld 0 4, H.ld 0 5, have h := h _ f; LC.callT H h fun r_ w10 H h => let ⟨t21_0, t21_1, t21_2, t21_3, t21_4, t21_5, hr, h⟩ := h; ⟨t21_0, t21_1, t21_2, t21_3, t21_4, t21_5, hr, LC.nwT H (Fr.refl _ _) h fun w11 H h => LC.stT0 H 1 (Fr.refl _ _) rfl rfl fun w12 H f => LC.stT H 1 1 f rfl rfl fun w13 H f => LC.stT H 1 2 f rfl rfl fun w14 H f => LC.stT H 1 3 f rfl rfl fun w15 H f => LC.stT H 1 4 f rfl rfl fun w16 H f => LC.stT H 1 5 f rfl rfl fun w17 (H : LC w17 [(w2.heap.size, [.i t16_0, .i t16_1, .i t16_2, .u t16_3, .string t16_4, t16_5.v], ty_enthymemeref06_Value), (w10.heap.size, [.i t21_0, .i t21_1, .i t21_2, .u t21_3, .string t21_4, t21_5.v], ty_enthymemeref06_Value)]) (f : Fr (· ∈ [w2.heap.size, w10.heap.size]) _ w17) => LC.drT H f fun w18 H f => ⟨_, _, _, _, _, t16_5, H.ld 0 0, H.ld 0 1, H.ld 0 2, H.ld 0 3, H.ld 0 4, H.ld 0 5, ⟨_, _, _, _, _, t21_5, H.ld 1 0, H.ld 1 1, H.ld 1 2, H.ld 1 3, H.ld 1 4, H.ld 1 5, ⟨_, _, _, _, _, t21_5, H.ld 1 0, H.ld 1 1, H.ld 1 2, H.ld 1 3, H.ld 1 4, H.ld 1 5, have h := h _ f; LC.callT H h fun r_ w19 H h => let ⟨t29_0, t29_1, t29_2, t29_3, t29_4, t29_5, hr, h⟩ := h; ⟨t29_0, t29_1, t29_2, t29_3, t29_4, t29_5, hr, ⟨H.ld 1 0, H.ld 1 1, H.ld 1 2, H.ld 1 3, H.ld 1 4, H.ld 1 5, H.ld 0 0, H.ld 0 1, H.ld 0 2, H.ld 0 3, H.ld 0 4, H.ld 0 5, LC.nwN H h fun w20 H h => h⟩⟩⟩⟩⟩⟩⟩⟩⟩)
end enthymemelaw06_some
namespace enthymemelaw06_array
noncomputable def C0 : Code := (Try.f29.body).getD .skip
/-- enthymeme/enthymemelaw06.array -/
noncomputable def C1:=C0.sn
noncomputable def C2:=C1.sn
noncomputable def C3:=C2.sn
noncomputable def C4:=C3.sn
theorem ok (n0 : Int) (l1 : Sl) (w : World) (R : Post) (h : nwV w (.cells #[.i 0, .i 0, .i 0, .u 0, .s0, .slice none 0 0] ty_enthymemeref06_Value) fun w1 => 
  Calls Try.prog n_enthymemeref01_Around #[.i n0, .i 262144] w1 fun r_ w2 => ∃ t7 : Int, r_ = .returned (.i t7) ∧ 
  Calls Try.prog n_enthymemeref01_Around #[.i n0, .i 2] w2 fun r_ w3 => ∃ t11 : Int, r_ = .returned (.i t11) ∧ 
  Calls Try.prog n_enthymemeref06_Sort #[.i (IntKind.wrap .i64 ((IntKind.wrap .i64 ((IntKind.wrap .i64 (4 * t7)) + 2)) + t11))] w3 fun r_ w4 => ∃ t13_0 : Int, ∃ t13_1 : Int, ∃ t13_2 : Int, r_ = .returned (.agg #[.i t13_0, .i t13_1, .i t13_2]) ∧ 
  nwV w4 (.cells #[.i 0, .i 0, .i 0] ty_api_Sort) fun w5 => 
  stV w5 (nb w4) (.i t13_0) fun w6 => 
  stV w6 ((nb w4).add 1) (.i t13_1) fun w7 => 
  stV w7 ((nb w4).add 2) (.i t13_2) fun w8 => 
  Calls Try.prog n_enthymemeref01_Around #[.i n0, .i 3] w8 fun r_ w9 => ∃ t15 : Int, r_ = .returned (.i t15) ∧ 
  stV w9 ((nb w4).add 2) (.i (IntKind.wrap .i64 (1 + t15))) fun w10 => 
  ∃ t18_0 : Int, ∃ t18_1 : Int, ∃ t18_2 : Int, w10.cell? ((nb w4).add 0) = some (.i t18_0) ∧ w10.cell? ((nb w4).add 1) = some (.i t18_1) ∧ w10.cell? ((nb w4).add 2) = some (.i t18_2) ∧ 
  Calls Try.prog n_enthymemeref06_Of #[.agg #[.i t18_0, .i t18_1, .i t18_2], l1.v] w10 fun r_ w11 => ∃ t20_0 : Int, ∃ t20_1 : Int, ∃ t20_2 : Int, ∃ t20_3 : Int, ∃ t20_4 : ByteArray, ∃ t20_5 : Sl, r_ = .returned (.agg #[.i t20_0, .i t20_1, .i t20_2, .u t20_3, .string t20_4, t20_5.v]) ∧ 
  stV w11 (nb w) (.i t20_0) fun w12 => 
  stV w12 ((nb w).add 1) (.i t20_1) fun w13 => 
  stV w13 ((nb w).add 2) (.i t20_2) fun w14 => 
  stV w14 ((nb w).add 3) (.u t20_3) fun w15 => 
  stV w15 ((nb w).add 4) (.string t20_4) fun w16 => 
  stV w16 ((nb w).add 5) (t20_5.v) fun w17 => 
  ∃ r4_0 : Int, ∃ r4_1 : Int, ∃ r4_2 : Int, ∃ r4_3 : Int, ∃ r4_4 : ByteArray, ∃ r4_5 : Sl, w17.cell? ((nb w).add 0) = some (.i r4_0) ∧ w17.cell? ((nb w).add 1) = some (.i r4_1) ∧ w17.cell? ((nb w).add 2) = some (.i r4_2) ∧ w17.cell? ((nb w).add 3) = some (.u r4_3) ∧ w17.cell? ((nb w).add 4) = some (.string r4_4) ∧ w17.cell? ((nb w).add 5) = some (r4_5.v) ∧ 
  R (.returned (.agg #[.i r4_0, .i r4_1, .i r4_2, .u r4_3, .string r4_4, r4_5.v])) w17) : Calls Try.prog n_enthymemelaw06_array #[.i n0, l1.v] w R :=
  calls_of_WP' (R := R) (fn := Try.f29) (c := C0) (args := [.i n0, l1.v]) (by kernel_rfl) (by kernel_rfl) (by kernel_rfl) (sr C0 (show (fun (E : Env) (w : World) => srK Try.prog C0 (fun E w => srK Try.prog C1 (fun E w => srK Try.prog C2 (fun E w => srK Try.prog C3 (fun E w => retVC Try.prog Try.f29 E w (fun v => R (.returned v) w)) E w) E w) E w) E w) (envOf 0 [.i n0, l1.v]) w from Eq.mp (by kernel_rfl) h) fun _ _ hK => (sr C1 hK fun _ _ hK => (sr C2 hK fun _ _ hK => (sr C3 hK fun _ _ hK => (rt C4 fun a hA => retVC_sound hA hK)))))
theorem okT (n0 : Int) (l1 : Sl) (w : World) (R : Post) (h : newV [] w fun b4 w1 => 
  callF [b4] Try.prog n_enthymemeref01_Around #[.i n0, .i 262144] w1 fun r_ w2 => ∃ t7 : Int, r_ = .returned (.i t7) ∧ 
  callF [b4] Try.prog n_enthymemeref01_Around #[.i n0, .i 2] w2 fun r_ w3 => ∃ t11 : Int, r_ = .returned (.i t11) ∧ 
  callF [b4] Try.prog n_enthymemeref06_Sort #[.i (IntKind.wrap .i64 ((IntKind.wrap .i64 ((IntKind.wrap .i64 (4 * t7)) + 2)) + t11))] w3 fun r_ w4 => ∃ t13_0 : Int, ∃ t13_1 : Int, ∃ t13_2 : Int, r_ = .returned (.agg #[.i t13_0, .i t13_1, .i t13_2]) ∧ 
  newV [b4] w4 fun b5 w5 => 
  loc [b4, b5] w5 fun w8 => callF [b4, b5] Try.prog n_enthymemeref01_Around #[.i n0, .i 3] w8 fun r_ w9 => ∃ t15 : Int, r_ = .returned (.i t15) ∧ 
  loc [b4, b5] w9 fun w10 => callF [b4, b5] Try.prog n_enthymemeref06_Of #[.agg #[.i t13_0, .i t13_1, .i (IntKind.wrap .i64 (1 + t15))], l1.v] w10 fun r_ w11 => ∃ t20_0 : Int, ∃ t20_1 : Int, ∃ t20_2 : Int, ∃ t20_3 : Int, ∃ t20_4 : ByteArray, ∃ t20_5 : Sl, r_ = .returned (.agg #[.i t20_0, .i t20_1, .i t20_2, .u t20_3, .string t20_4, t20_5.v]) ∧ 
  loc [b4, b5] w11 fun w17 => R (.returned (.agg #[.i t20_0, .i t20_1, .i t20_2, .u t20_3, .string t20_4, t20_5.v])) w17) : Calls Try.prog n_enthymemelaw06_array #[.i n0, l1.v] w R :=
  ok _ _ w R (LC.nwT (LC.nil _) (Fr.refl _ _) h fun w1 H h => LC.callT H h fun r_ w2 H h => let ⟨t7, hr, h⟩ := h; ⟨t7, hr, LC.callT H h fun r_ w3 H h => let ⟨t11, hr, h⟩ := h; ⟨t11, hr, LC.callT H h fun r_ w4 H h => let ⟨t13_0, t13_1, t13_2, hr, h⟩ := h; ⟨t13_0, t13_1, t13_2, hr, LC.nwT H (Fr.refl _ _) h fun w5 H h => LC.stT0 H 1 (Fr.refl _ _) rfl rfl fun w6 H f => LC.stT H 1 1 f rfl rfl fun w7 H f => LC.stT H 1 2 f rfl rfl fun w8 (H : LC w8 [(w.heap.size, [.i 0, .i 0, .i 0, .u 0, .s0, .slice none 0 0], ty_enthymemeref06_Value), (w4.heap.size, [.i t13_0, .i t13_1, .i t13_2], ty_api_Sort)]) (f : Fr (· ∈ [w.heap.size, w4.heap.size]) _ w8) => have h := h _ f; LC.callT H h fun r_ w9 H h => let ⟨t15, hr, h⟩ := h; ⟨t15, hr, LC.stT H 1 2 (Fr.refl _ _) rfl rfl fun w10 (H : LC w10 [(w.heap.size, [.i 0, .i 0, .i 0, .u 0, .s0, .slice none 0 0], ty_enthymemeref06_Value), (w4.heap.size, [.i t13_0, .i t13_1, .i (IntKind.wrap .i64 (1 + t15))], ty_api_Sort)]) (f : Fr (· ∈ [w.heap.size, w4.heap.size]) _ w10) => ⟨_, _, _, H.ld 1 0, H.ld 1 1, H.ld 1 2, have h := h _ f; LC.callT H h fun r_ w11 H h => let ⟨t20_0, t20_1, t20_2, t20_3, t20_4, t20_5, hr, h⟩ := h; ⟨t20_0, t20_1, t20_2, t20_3, t20_4, t20_5, hr, LC.stT0 H 0 (Fr.refl _ _) rfl rfl fun w12 H f => LC.stT H 0 1 f rfl rfl fun w13 H f => LC.stT H 0 2 f rfl rfl fun w14 H f => LC.stT H 0 3 f rfl rfl fun w15 H f => LC.stT H 0 4 f rfl rfl fun w16 H f => LC.stT H 0 5 f rfl rfl fun w17 (H : LC w17 [(w.heap.size, [.i t20_0, .i t20_1, .i t20_2, .u t20_3, .string t20_4, t20_5.v], ty_enthymemeref06_Value), (w4.heap.size, [.i t13_0, .i t13_1, .i (IntKind.wrap .i64 (1 + t15))], ty_api_Sort)]) (f : Fr (· ∈ [w.heap.size, w4.heap.size]) _ w17) => ⟨_, _, _, _, _, t20_5, H.ld 0 0, H.ld 0 1, H.ld 0 2, H.ld 0 3, H.ld 0 4, H.ld 0 5, have h := h _ f; h⟩⟩⟩⟩⟩⟩⟩)
end enthymemelaw06_array
end Go.Proofs.Ytjjhfdjpmonlaaa

/- Printed by a program of ours (vcgen.py) from the dump: the conditions of the functions, and that they suffice. -/
import Derived.Test.YtjjhfdjpmonlaaaVO
import Derived.Test.YtjjhfdjpmonlaaaY
set_option linter.unusedVariables false
set_option maxRecDepth 100000
set_option maxHeartbeats 2000000
namespace Go.Proofs.Ytjjhfdjpmonlaaa
open Go Go.W
namespace value_Encode
noncomputable def C0 : Code := (Try.f32.body).getD .skip
noncomputable def C1:=C0.sn
noncomputable def C2:=C1.sn
noncomputable def C3:=C2.sn
noncomputable def C4:=C3.sn
noncomputable def C5:=C4.sn
noncomputable def C6:=C5.sn
noncomputable def C7:=C6.sn
noncomputable def C8:=C7.sn
noncomputable def C9:=C8.sn
noncomputable def C10:=C9.fs
noncomputable def C11:=C10.sn
noncomputable def C12:=C11.fs
noncomputable def C13:=C12.fs
noncomputable def C14:=C9.sn
abbrev Q0 (R : Post) : Exit → Act → World → Prop := (Exit.then (wpx Try.prog (cx 53) C14 (bodyPost Try.prog Try.f32 R)) (bodyPost Try.prog Try.f32 R))
abbrev Q1 (R : Post) : Exit → Act → World → Prop := (Exit.inBlock 0 (Q0 R))
/-- the head of the loop, value.go:214 -/
def L0 (wv5 : Addr) (t36 : Sl) (t37 t38 : Int) (w : World) (R : Post) : Prop := LP Try.prog (cx 53) C13 (Q1 R) [(5, .pointer (some wv5)), (36, t36.v), (37, .i t37), (38, .i t38)] w
def KE_L0 (E : Env) (w : World) (R : Post) : Prop := asRef (Env.get? E 5) fun wv5 => asSlice (Env.get? E 36) fun t36 => W.asInt .i64 (Env.get? E 37) fun t37 => W.asInt .i64 (Env.get? E 38) fun t38 => L0 wv5 t36 t37 t38 w R
theorem KE_L0_ok (R : Post) (E : Env) (w : World) (h : KE_L0 E w R) : LP Try.prog (cx 53) C13 (Q1 R) E w := by
  obtain ⟨wv5, hq5, h_1⟩ := asRef_elim h
  obtain ⟨t36, hq36, h_2⟩ := asSlice_elim h_1
  obtain ⟨t37, hq37, h_3⟩ := asInt_elim h_2
  obtain ⟨t38, hq38, h_4⟩ := asInt_elim h_3
  intro a ha
  exact h_4 a (ha.cons hq5 (ha.cons hq36 (ha.cons hq37 (ha.cons hq38 ha.nil))))
noncomputable def C15:=C13.sn
noncomputable def C16:=C15.sn
noncomputable def C17:=C16.fs
noncomputable def C18:=C17.fs
noncomputable def C19:=C18.sn
noncomputable def C20:=C19.sn
noncomputable def C21:=C20.sn
noncomputable def C22:=C16.sn
noncomputable def C23:=C15.fs
noncomputable def C24:=C23.fs
noncomputable def C25:=C23.sn
noncomputable def C26:=C14.sn
theorem L0_step (wv5 : Addr) (t36 : Sl) (t37 t38 : Int) (w : World) (R : Post) (h : sel (decide (t38 < t37)) ((0 : Int) ≤ t38 ∧ t38 < ((t36.n : Nat) : Int) ∧ optP t36.a fun t40_p => ∃ t41_0 : Int, ∃ t41_1 : Int, ∃ t41_2 : ByteArray, w.cell? ((t40_p.add (Int.toNat t38 * 3)).add 0) = some (.u t41_0) ∧ w.cell? ((t40_p.add (Int.toNat t38 * 3)).add 1) = some (.u t41_1) ∧ w.cell? ((t40_p.add (Int.toNat t38 * 3)).add 2) = some (.string t41_2) ∧ 
  nwV w (.cells #[.u 0, .u 0, .s0] ty_value_Entry) fun w10 => 
  stV w10 (nb w) (.u t41_0) fun w11 => 
  stV w11 ((nb w).add 1) (.u t41_1) fun w12 => 
  stV w12 ((nb w).add 2) (.string t41_2) fun w13 => 
  ∃ t43 : Int, w13.cell? ((nb w).add 0) = some (.u t43) ∧ 
  Calls Try.prog n_wire_Writer_Uint #[.pointer (some wv5), .u t43] w13 fun r_ w14 => r_ = .returned (.tuple #[]) ∧ 
  ∃ t46 : Int, w14.cell? ((nb w).add 1) = some (.u t46) ∧ 
  Calls Try.prog n_wire_Writer_Uint #[.pointer (some wv5), .u t46] w14 fun r_ w15 => r_ = .returned (.tuple #[]) ∧ 
  ∃ t49 : ByteArray, w15.cell? ((nb w).add 2) = some (.string t49) ∧ 
  Calls Try.prog n_wire_Writer_Text #[.pointer (some wv5), .string t49] w15 fun r_ w16 => r_ = .returned (.tuple #[]) ∧ 
  L0 wv5 t36 t37 (IntKind.wrap .i64 (t38 + 1)) w16 R) (Calls Try.prog n_wire_Writer_Done #[.pointer (some wv5)] w fun r_ w17 => ∃ t52 : Sl, r_ = .returned (t52.v) ∧ 
  R (.returned (.tuple #[t52.v, .i 0])) w17)) : L0 wv5 t36 t37 t38 w R :=
  LP.step (n := (cx 53)) (c := C13) (E := [(5, .pointer (some wv5)), (36, t36.v), (37, .i t37), (38, .i t38)]) (w := w) (sr C13 (show (fun (E : Env) (w : World) => srK Try.prog C13 (fun E w => condK (Env.val E (.tmp 39)) (srK Try.prog C18 (fun E w => srK Try.prog C19 (fun E w => srK Try.prog C20 (fun E w => rgK Try.prog C21 (fun E w => rgK Try.prog C22 (fun E w => KE_L0 E w R) E w) E w) E w) E w) E w) (srK Try.prog C14 (fun E w => retVC Try.prog Try.f32 E w (fun v => R (.returned v) w)) E w)) E w) [(5, .pointer (some wv5)), (36, t36.v), (37, .i t37), (38, .i t38)] w from Eq.mp (by kernel_rfl) h) fun _ _ hK => (sq C15 (cn C23 hK (fun hK => (sk C24 fun a hA => nx hA (sq C16 (bk C17 1 (by kernel_rfl) (sr C18 hK fun _ _ hK => (sr C19 hK fun _ _ hK => (sr C20 hK fun _ _ hK => (rg C21 (by kernel_rfl) hK fun _ _ a hA hK => nx hA (rg C22 (by kernel_rfl) hK fun _ _ a hA hK => KE_L0_ok R _ _ hK a hA))))))))) (fun hK => (xt C25 0 (by kernel_rfl) fun a hA => nx hA (sr C14 hK fun _ _ hK => (rt C26 fun a hA => retVC_sound hA hK)))))))
/-- enthymeme/value.Encode -/
noncomputable def C27:=C1.fs
noncomputable def C28:=C27.sn
noncomputable def C29:=C28.sn
noncomputable def C30:=C29.fs
noncomputable def C31:=C30.sn
noncomputable def C32:=C29.sn
theorem ok (v0_0 v0_1 v0_2 v0_3 : Int) (v0_4 : ByteArray) (v0_5 : Sl) (w : World) (R : Post) (h : nwV w (.cells #[.i v0_0, .i v0_1, .i v0_2, .u v0_3, .string v0_4, v0_5.v] ty_value_Value) fun w1 => 
  ∃ t8_0 : Int, ∃ t8_1 : Int, ∃ t8_2 : Int, ∃ t8_3 : Int, ∃ t8_4 : ByteArray, ∃ t8_5 : Sl, w1.cell? ((nb w).add 0) = some (.i t8_0) ∧ w1.cell? ((nb w).add 1) = some (.i t8_1) ∧ w1.cell? ((nb w).add 2) = some (.i t8_2) ∧ w1.cell? ((nb w).add 3) = some (.u t8_3) ∧ w1.cell? ((nb w).add 4) = some (.string t8_4) ∧ w1.cell? ((nb w).add 5) = some (t8_5.v) ∧ 
  Calls Try.prog n_value_Valid #[.agg #[.i t8_0, .i t8_1, .i t8_2, .u t8_3, .string t8_4, t8_5.v]] w1 fun r_ w2 => ∃ t9 : Int, r_ = .returned (.i t9) ∧ 
  sel (t9 != 0) (R (.returned (.tuple #[.slice none 0 0, .i t9])) w2) (nwV w2 (.cells #[.slice none 0 0] ty_wire_Writer) fun w3 => 
  ∃ t15 : Int, w3.cell? (((nb w).add 0).add 0) = some (.i t15) ∧ 
  Calls Try.prog n_wire_Writer_Int #[.pointer (some (nb w2)), .i t15] w3 fun r_ w4 => r_ = .returned (.tuple #[]) ∧ 
  ∃ t19 : Int, w4.cell? (((nb w).add 0).add 1) = some (.i t19) ∧ 
  Calls Try.prog n_wire_Writer_Int #[.pointer (some (nb w2)), .i t19] w4 fun r_ w5 => r_ = .returned (.tuple #[]) ∧ 
  ∃ t23 : Int, w5.cell? (((nb w).add 0).add 2) = some (.i t23) ∧ 
  Calls Try.prog n_wire_Writer_Int #[.pointer (some (nb w2)), .i t23] w5 fun r_ w6 => r_ = .returned (.tuple #[]) ∧ 
  ∃ t26 : Int, w6.cell? ((nb w).add 3) = some (.u t26) ∧ 
  Calls Try.prog n_wire_Writer_Uint #[.pointer (some (nb w2)), .u t26] w6 fun r_ w7 => r_ = .returned (.tuple #[]) ∧ 
  ∃ t29 : ByteArray, w7.cell? ((nb w).add 4) = some (.string t29) ∧ 
  Calls Try.prog n_wire_Writer_Text #[.pointer (some (nb w2)), .string t29] w7 fun r_ w8 => r_ = .returned (.tuple #[]) ∧ 
  ∃ t32 : Sl, w8.cell? ((nb w).add 5) = some (t32.v) ∧ 
  Calls Try.prog n_wire_Writer_Int #[.pointer (some (nb w2)), .i ((t32.n : Nat) : Int)] w8 fun r_ w9 => r_ = .returned (.tuple #[]) ∧ 
  ∃ t36 : Sl, w9.cell? ((nb w).add 5) = some (t36.v) ∧ 
  L0 (nb w2) t36 ((t36.n : Nat) : Int) 0 w9 R)) : Calls Try.prog n_value_Encode #[.agg #[.i v0_0, .i v0_1, .i v0_2, .u v0_3, .string v0_4, v0_5.v]] w R :=
  calls_of_WP' (R := R) (fn := Try.f32) (c := C0) (args := [.agg #[.i v0_0, .i v0_1, .i v0_2, .u v0_3, .string v0_4, v0_5.v]]) (by kernel_rfl) (by kernel_rfl) (by kernel_rfl) (sr C0 (show (fun (E : Env) (w : World) => srK Try.prog C0 (fun E w => srK Try.prog C27 (fun E w => srK Try.prog C28 (fun E w => condK (Env.val E (.tmp 11)) (srK Try.prog C30 (fun E w => retVC Try.prog Try.f32 E w (fun v => R (.returned v) w)) E w) (srK Try.prog C2 (fun E w => srK Try.prog C3 (fun E w => srK Try.prog C4 (fun E w => srK Try.prog C5 (fun E w => srK Try.prog C6 (fun E w => srK Try.prog C7 (fun E w => srK Try.prog C8 (fun E w => srK Try.prog C10 (fun E w => KE_L0 E w R) E w) E w) E w) E w) E w) E w) E w) E w)) E w) E w) E w) (envOf 0 [.agg #[.i v0_0, .i v0_1, .i v0_2, .u v0_3, .string v0_4, v0_5.v]]) w from Eq.mp (by kernel_rfl) h) fun _ _ hK => (sq C1 (sr C27 hK fun _ _ hK => (sr C28 hK fun _ _ hK => (cn C29 hK (fun hK => (sr C30 hK fun _ _ hK => (rt C31 fun a hA => retVC_sound hA hK))) (fun hK => (sk C32 fun a hA => nx hA (sr C2 hK fun _ _ hK => (sr C3 hK fun _ _ hK => (sr C4 hK fun _ _ hK => (sr C5 hK fun _ _ hK => (sr C6 hK fun _ _ hK => (sr C7 hK fun _ _ hK => (sr C8 hK fun _ _ hK => (sq C9 (sr C10 hK fun _ _ hK => (bk C11 0 (by kernel_rfl) (lp C12 (by kernel_rfl) (KE_L0_ok R _ _ hK)))))))))))))))))))
def L0T (wv5 : Addr) (t36 : Sl) (t37 t38 : Int) (w : World) (R : Post) : Prop := LC w [] → L0 wv5 t36 t37 t38 w R
theorem L0T_step (wv5 : Addr) (t36 : Sl) (t37 t38 : Int) (w : World) (R : Post) (h : sel (decide (t38 < t37)) ((0 : Int) ≤ t38 ∧ t38 < ((t36.n : Nat) : Int) ∧ optP t36.a fun t40_p => ∃ t41_0 : Int, ∃ t41_1 : Int, ∃ t41_2 : ByteArray, w.cell? ((t40_p.add (Int.toNat t38 * 3)).add 0) = some (.u t41_0) ∧ w.cell? ((t40_p.add (Int.toNat t38 * 3)).add 1) = some (.u t41_1) ∧ w.cell? ((t40_p.add (Int.toNat t38 * 3)).add 2) = some (.string t41_2) ∧ 
  newV [] w fun b7 w10 => 
  loc [b7] w10 fun w13 => callF [b7] Try.prog n_wire_Writer_Uint #[.pointer (some wv5), .u t41_0] w13 fun r_ w14 => r_ = .returned (.tuple #[]) ∧ 
  callF [b7] Try.prog n_wire_Writer_Uint #[.pointer (some wv5), .u t41_1] w14 fun r_ w15 => r_ = .returned (.tuple #[]) ∧ 
  callF [b7] Try.prog n_wire_Writer_Text #[.pointer (some wv5), .string t41_2] w15 fun r_ w16 => r_ = .returned (.tuple #[]) ∧ 
  L0T wv5 t36 t37 (IntKind.wrap .i64 (t38 + 1)) w16 R) (Calls Try.prog n_wire_Writer_Done #[.pointer (some wv5)] w fun r_ w17 => ∃ t52 : Sl, r_ = .returned (t52.v) ∧ 
  R (.returned (.tuple #[t52.v, .i 0])) w17)) : L0T wv5 t36 t37 t38 w R := fun H => L0_step _ _ _ _ w R (sel_imp h (fun h => ⟨h.1, h.2.1, have h := h.2.2; optP_imp h fun t40_p h => let ⟨t41_0, t41_1, t41_2, hc0, hc1, hc2, h⟩ := h; ⟨t41_0, t41_1, t41_2, hc0, hc1, hc2, LC.nwT (LC.nil _) (Fr.refl _ _) h fun w10 H h => LC.stT0 H 0 (Fr.refl _ _) rfl rfl fun w11 H f => LC.stT H 0 1 f rfl rfl fun w12 H f => LC.stT H 0 2 f rfl rfl fun w13 (H : LC w13 [(w.heap.size, [.u t41_0, .u t41_1, .string t41_2], ty_value_Entry)]) (f : Fr (· ∈ [w.heap.size]) _ w13) => ⟨_, H.ld 0 0, have h := h _ f; LC.callT H h fun r_ w14 H h => let ⟨hr, h⟩ := h; ⟨hr, ⟨_, H.ld 0 1, LC.callT H h fun r_ w15 H h => let ⟨hr, h⟩ := h; ⟨hr, ⟨_, H.ld 0 2, LC.callT H h fun r_ w16 H h => let ⟨hr, h⟩ := h; ⟨hr, h (LC.nil _)⟩⟩⟩⟩⟩⟩⟩⟩) (fun h => Calls.mono h fun r_ w17 h => let ⟨t52, hr, h⟩ := h; ⟨t52, hr, h⟩))
theorem okT (v0_0 v0_1 v0_2 v0_3 : Int) (v0_4 : ByteArray) (v0_5 : Sl) (w : World) (R : Post) (h : newV [] w fun b1 w1 => 
  callF [b1] Try.prog n_value_Valid #[.agg #[.i v0_0, .i v0_1, .i v0_2, .u v0_3, .string v0_4, v0_5.v]] w1 fun r_ w2 => ∃ t9 : Int, r_ = .returned (.i t9) ∧ 
  sel (t9 != 0) (R (.returned (.tuple #[.slice none 0 0, .i t9])) w2) (nwV w2 (.cells #[.slice none 0 0] ty_wire_Writer) fun w3 => 
  callF [b1] Try.prog n_wire_Writer_Int #[.pointer (some (nb w2)), .i v0_0] w3 fun r_ w4 => r_ = .returned (.tuple #[]) ∧ 
  callF [b1] Try.prog n_wire_Writer_Int #[.pointer (some (nb w2)), .i v0_1] w4 fun r_ w5 => r_ = .returned (.tuple #[]) ∧ 
  callF [b1] Try.prog n_wire_Writer_Int #[.pointer (some (nb w2)), .i v0_2] w5 fun r_ w6 => r_ = .returned (.tuple #[]) ∧ 
  callF [b1] Try.prog n_wire_Writer_Uint #[.pointer (some (nb w2)), .u v0_3] w6 fun r_ w7 => r_ = .returned (.tuple #[]) ∧ 
  callF [b1] Try.prog n_wire_Writer_Text #[.pointer (some (nb w2)), .string v0_4] w7 fun r_ w8 => r_ = .returned (.tuple #[]) ∧ 
  callF [b1] Try.prog n_wire_Writer_Int #[.pointer (some (nb w2)), .i ((v0_5.n : Nat) : Int)] w8 fun r_ w9 => r_ = .returned (.tuple #[]) ∧ 
  L0T (nb w2) v0_5 ((v0_5.n : Nat) : Int) 0 w9 R)) : Calls Try.prog n_value_Encode #[.agg #[.i v0_0, .i v0_1, .i v0_2, .u v0_3, .string v0_4, v0_5.v]] w R :=
  ok _ _ _ _ _ _ w R (LC.nwT (LC.nil _) (Fr.refl _ _) h fun w1 H h => ⟨_, _, _, _, _, v0_5, H.ld 0 0, H.ld 0 1, H.ld 0 2, H.ld 0 3, H.ld 0 4, H.ld 0 5, LC.callT H h fun r_ w2 H h => let ⟨t9, hr, h⟩ := h; ⟨t9, hr, sel_imp h (fun h => h) (fun h => LC.nwN H h fun w3 H h => ⟨_, H.ld 0 0, LC.callT H h fun r_ w4 H h => let ⟨hr, h⟩ := h; ⟨hr, ⟨_, H.ld 0 1, LC.callT H h fun r_ w5 H h => let ⟨hr, h⟩ := h; ⟨hr, ⟨_, H.ld 0 2, LC.callT H h fun r_ w6 H h => let ⟨hr, h⟩ := h; ⟨hr, ⟨_, H.ld 0 3, LC.callT H h fun r_ w7 H h => let ⟨hr, h⟩ := h; ⟨hr, ⟨_, H.ld 0 4, LC.callT H h fun r_ w8 H h => let ⟨hr, h⟩ := h; ⟨hr, ⟨v0_5, H.ld 0 5, LC.callT H h fun r_ w9 H h => let ⟨hr, h⟩ := h; ⟨hr, ⟨v0_5, H.ld 0 5, h (LC.nil _)⟩⟩⟩⟩⟩⟩⟩⟩⟩⟩⟩⟩⟩)⟩⟩)
end value_Encode
namespace value_Decode
noncomputable def C0 : Code := (Try.f35.body).getD .skip
noncomputable def C1:=C0.sn
noncomputable def C2:=C1.sn
noncomputable def C3:=C2.sn
noncomputable def C4:=C3.sn
noncomputable def C5:=C4.fs
noncomputable def C6:=C5.sn
noncomputable def C7:=C6.fs
noncomputable def C8:=C4.sn
abbrev Q0 (R : Post) : Exit → Act → World → Prop := (Exit.then (wpx Try.prog (cx 58) C8 (bodyPost Try.prog Try.f35 R)) (bodyPost Try.prog Try.f35 R))
noncomputable def C9:=C7.sn
/-- value.go:228 -/
abbrev S0 (t2 : Addr) (w : World) (R : Post) : Prop :=
  stV w t2 (.i 0) fun w1 => 
  stV w1 (t2.add 1) (.i 0) fun w2 => 
  stV w2 (t2.add 2) (.i 0) fun w3 => 
  stV w3 (t2.add 3) (.u 0) fun w4 => 
  stV w4 (t2.add 4) (.s0) fun w5 => 
  stV w5 (t2.add 5) (.slice none 0 0) fun w6 => 
  ∃ r2_0 : Int, ∃ r2_1 : Int, ∃ r2_2 : Int, ∃ r2_3 : Int, ∃ r2_4 : ByteArray, ∃ r2_5 : Sl, w6.cell? (t2.add 0) = some (.i r2_0) ∧ w6.cell? (t2.add 1) = some (.i r2_1) ∧ w6.cell? (t2.add 2) = some (.i r2_2) ∧ w6.cell? (t2.add 3) = some (.u r2_3) ∧ w6.cell? (t2.add 4) = some (.string r2_4) ∧ w6.cell? (t2.add 5) = some (r2_5.v) ∧ 
  R (.returned (.tuple #[.agg #[.i r2_0, .i r2_1, .i r2_2, .u r2_3, .string r2_4, r2_5.v], .i 2])) w6
def KE_S0 (E : Env) (w : World) (R : Post) : Prop := asRef (Env.get? E 2) fun t2 => S0 t2 w R
theorem KE_S0_ok (R : Post) (E : Env) (w : World) (h : KE_S0 E w R) : WP Try.prog (cx 58) C7 (Q0 R) E w := by
  obtain ⟨t2, hq2, h_1⟩ := asRef_elim h
  exact fun a ha => WP.at (E := [(2, .pointer (some t2))]) (sr C7 (K := fun E w => retVC Try.prog Try.f35 E w (fun v => R (.returned v) w)) (Eq.mp (by kernel_rfl) h_1) fun _ _ hK => (rt C9 fun a hA => retVC_sound hA hK)) (ha.cons hq2 ha.nil)
noncomputable def C10:=C8.fs
noncomputable def C11:=C10.sn
noncomputable def C12:=C11.fs
noncomputable def C13:=C12.fs
noncomputable def C14:=C8.sn
abbrev Q1 (R : Post) : Exit → Act → World → Prop := (Exit.then (wpx Try.prog (cx 58) C14 (bodyPost Try.prog Try.f35 R)) (bodyPost Try.prog Try.f35 R))
abbrev Q2 (R : Post) : Exit → Act → World → Prop := (Exit.inBlock 0 (Q1 R))
/-- the head of the loop, value.go:230 -/
def L1 (t2 : Addr) (r4 : Option Addr) (v5 : Addr) (t32 t33 : Int) (w : World) (R : Post) : Prop := LP Try.prog (cx 58) C13 (Q2 R) [(2, .pointer (some t2)), (4, .pointer r4), (5, .pointer (some v5)), (32, .i t32), (33, .i t33)] w
def KE_L1 (E : Env) (w : World) (R : Post) : Prop := asRef (Env.get? E 2) fun t2 => asPtr (Env.get? E 4) fun r4 => asRef (Env.get? E 5) fun v5 => W.asInt .i64 (Env.get? E 32) fun t32 => W.asInt .i64 (Env.get? E 33) fun t33 => L1 t2 r4 v5 t32 t33 w R
theorem KE_L1_ok (R : Post) (E : Env) (w : World) (h : KE_L1 E w R) : LP Try.prog (cx 58) C13 (Q2 R) E w := by
  obtain ⟨t2, hq2, h_1⟩ := asRef_elim h
  obtain ⟨r4, hq4, h_2⟩ := asPtr_elim h_1
  obtain ⟨v5, hq5, h_3⟩ := asRef_elim h_2
  obtain ⟨t32, hq32, h_4⟩ := asInt_elim h_3
  obtain ⟨t33, hq33, h_5⟩ := asInt_elim h_4
  intro a ha
  exact h_5 a (ha.cons hq2 (ha.cons hq4 (ha.cons hq5 (ha.cons hq32 (ha.cons hq33 ha.nil)))))
noncomputable def C15:=C14.fs
noncomputable def C16:=C15.sn
noncomputable def C17:=C16.fs
noncomputable def C18:=C14.sn
abbrev Q3 (R : Post) : Exit → Act → World → Prop := (Exit.then (wpx Try.prog (cx 58) C18 (bodyPost Try.prog Try.f35 R)) (bodyPost Try.prog Try.f35 R))
noncomputable def C19:=C17.sn
/-- value.go:234 -/
abbrev S2 (t2 : Addr) (w : World) (R : Post) : Prop :=
  stV w t2 (.i 0) fun w1 => 
  stV w1 (t2.add 1) (.i 0) fun w2 => 
  stV w2 (t2.add 2) (.i 0) fun w3 => 
  stV w3 (t2.add 3) (.u 0) fun w4 => 
  stV w4 (t2.add 4) (.s0) fun w5 => 
  stV w5 (t2.add 5) (.slice none 0 0) fun w6 => 
  ∃ r2_0 : Int, ∃ r2_1 : Int, ∃ r2_2 : Int, ∃ r2_3 : Int, ∃ r2_4 : ByteArray, ∃ r2_5 : Sl, w6.cell? (t2.add 0) = some (.i r2_0) ∧ w6.cell? (t2.add 1) = some (.i r2_1) ∧ w6.cell? (t2.add 2) = some (.i r2_2) ∧ w6.cell? (t2.add 3) = some (.u r2_3) ∧ w6.cell? (t2.add 4) = some (.string r2_4) ∧ w6.cell? (t2.add 5) = some (r2_5.v) ∧ 
  R (.returned (.tuple #[.agg #[.i r2_0, .i r2_1, .i r2_2, .u r2_3, .string r2_4, r2_5.v], .i 2])) w6
def KE_S2 (E : Env) (w : World) (R : Post) : Prop := asRef (Env.get? E 2) fun t2 => S2 t2 w R
theorem KE_S2_ok (R : Post) (E : Env) (w : World) (h : KE_S2 E w R) : WP Try.prog (cx 58) C17 (Q3 R) E w := by
  obtain ⟨t2, hq2, h_1⟩ := asRef_elim h
  exact fun a ha => WP.at (E := [(2, .pointer (some t2))]) (sr C17 (K := fun E w => retVC Try.prog Try.f35 E w (fun v => R (.returned v) w)) (Eq.mp (by kernel_rfl) h_1) fun _ _ hK => (rt C19 fun a hA => retVC_sound hA hK)) (ha.cons hq2 ha.nil)
noncomputable def C20:=C13.sn
noncomputable def C21:=C20.sn
noncomputable def C22:=C21.fs
noncomputable def C23:=C22.fs
noncomputable def C24:=C21.sn
noncomputable def C25:=C20.fs
noncomputable def C26:=C25.fs
noncomputable def C27:=C25.sn
noncomputable def C28:=C16.sn
noncomputable def C29:=C18.sn
theorem L1_step (t2 : Addr) (r4 : Option Addr) (v5 : Addr) (t32 t33 : Int) (w : World) (R : Post) (h : sel (decide (t33 < t32)) (drV w fun w16 => ∃ t36 : Sl, w16.cell? (v5.add 5) = some (t36.v) ∧ 
  Calls Try.prog n_wire_Reader_Uint #[.pointer r4] w16 fun r_ w17 => ∃ t38 : Int, r_ = .returned (.u t38) ∧ 
  w17.cell? (v5.add 5) = some (t36.v) ∧ Calls Try.prog n_wire_Reader_Uint #[.pointer r4] w17 fun r_ w18 => ∃ t40 : Int, r_ = .returned (.u t40) ∧ 
  w18.cell? (v5.add 5) = some (t36.v) ∧ Calls Try.prog n_wire_Reader_Text #[.pointer r4] w18 fun r_ w19 => ∃ t42 : ByteArray, r_ = .returned (.string t42) ∧ 
  w19.cell? (v5.add 5) = some (t36.v) ∧ nwV w19 (.cells #[.u t38, .u t40, .string t42] ty_value_Entry) fun w20 => 
  w20.cell? (v5.add 5) = some (t36.v) ∧ ∃ (t45 : Sl) (w21 : World), Sem.run Try.prog (Builtin.append_ #[ty_sl_value_Entry, ty_sl_value_Entry] ty_sl_value_Entry #[t36.v, .slice (some (nb w19)) 1 1]) w20 = .ok (t45.v) w21 ∧ stV w21 (v5.add 5) (t45.v) fun w22 => 
  L1 t2 r4 v5 t32 (IntKind.wrap .i64 (t33 + 1)) w22 R) (Calls Try.prog n_wire_Reader_End #[.pointer r4] w fun r_ w23 => ∃ t49 : Int, r_ = .returned (.i t49) ∧ 
  sel (t49 != 0) (S2 t2 w23 R) (∃ t52_0 : Int, ∃ t52_1 : Int, ∃ t52_2 : Int, ∃ t52_3 : Int, ∃ t52_4 : ByteArray, ∃ t52_5 : Sl, w23.cell? (v5.add 0) = some (.i t52_0) ∧ w23.cell? (v5.add 1) = some (.i t52_1) ∧ w23.cell? (v5.add 2) = some (.i t52_2) ∧ w23.cell? (v5.add 3) = some (.u t52_3) ∧ w23.cell? (v5.add 4) = some (.string t52_4) ∧ w23.cell? (v5.add 5) = some (t52_5.v) ∧ 
  Calls Try.prog n_value_Valid #[.agg #[.i t52_0, .i t52_1, .i t52_2, .u t52_3, .string t52_4, t52_5.v]] w23 fun r_ w24 => ∃ t53 : Int, r_ = .returned (.i t53) ∧ 
  sel (t53 != 0) (S2 t2 w24 R) (∃ t57_0 : Int, ∃ t57_1 : Int, ∃ t57_2 : Int, ∃ t57_3 : Int, ∃ t57_4 : ByteArray, ∃ t57_5 : Sl, w24.cell? (v5.add 0) = some (.i t57_0) ∧ w24.cell? (v5.add 1) = some (.i t57_1) ∧ w24.cell? (v5.add 2) = some (.i t57_2) ∧ w24.cell? (v5.add 3) = some (.u t57_3) ∧ w24.cell? (v5.add 4) = some (.string t57_4) ∧ w24.cell? (v5.add 5) = some (t57_5.v) ∧ 
  stV w24 t2 (.i t57_0) fun w25 => 
  stV w25 (t2.add 1) (.i t57_1) fun w26 => 
  stV w26 (t2.add 2) (.i t57_2) fun w27 => 
  stV w27 (t2.add 3) (.u t57_3) fun w28 => 
  stV w28 (t2.add 4) (.string t57_4) fun w29 => 
  stV w29 (t2.add 5) (t57_5.v) fun w30 => 
  ∃ r2_0 : Int, ∃ r2_1 : Int, ∃ r2_2 : Int, ∃ r2_3 : Int, ∃ r2_4 : ByteArray, ∃ r2_5 : Sl, w30.cell? (t2.add 0) = some (.i r2_0) ∧ w30.cell? (t2.add 1) = some (.i r2_1) ∧ w30.cell? (t2.add 2) = some (.i r2_2) ∧ w30.cell? (t2.add 3) = some (.u r2_3) ∧ w30.cell? (t2.add 4) = some (.string r2_4) ∧ w30.cell? (t2.add 5) = some (r2_5.v) ∧ 
  R (.returned (.tuple #[.agg #[.i r2_0, .i r2_1, .i r2_2, .u r2_3, .string r2_4, r2_5.v], .i 0])) w30)))) : L1 t2 r4 v5 t32 t33 w R :=
  LP.step (n := (cx 58)) (c := C13) (E := [(2, .pointer (some t2)), (4, .pointer r4), (5, .pointer (some v5)), (32, .i t32), (33, .i t33)]) (w := w) (sr C13 (show (fun (E : Env) (w : World) => srK Try.prog C13 (fun E w => condK (Env.val E (.tmp 34)) (dgK Try.prog C23 [0, 1, 2, 4, 6, 3, 5, 7, 8, 9, 10, 11, 12] (fun E w => rgK Try.prog C24 (fun E w => KE_L1 E w R) E w) E w) (srK Try.prog C15 (fun E w => condK (Env.val E (.tmp 55)) (KE_S2 E w R) (srK Try.prog C18 (fun E w => retVC Try.prog Try.f35 E w (fun v => R (.returned v) w)) E w)) E w)) E w) [(2, .pointer (some t2)), (4, .pointer r4), (5, .pointer (some v5)), (32, .i t32), (33, .i t33)] w from Eq.mp (by kernel_rfl) h) fun _ _ hK => (sq C20 (cn C25 hK (fun hK => (sk C26 fun a hA => nx hA (sq C21 (bk C22 1 (by kernel_rfl) (dg C23 (by kernel_rfl) hK fun _ _ a hA hK => nx hA (rg C24 (by kernel_rfl) hK fun _ _ a hA hK => KE_L1_ok R _ _ hK a hA)))))) (fun hK => (xt C27 0 (by kernel_rfl) fun a hA => nx hA (sq C14 (sr C15 hK fun _ _ hK => (cn C16 hK (fun hK => (KE_S2_ok R _ _ hK)) (fun hK => (sk C28 fun a hA => nx hA (sr C18 hK fun _ _ hK => (rt C29 fun a hA => retVC_sound hA hK))))))))))))
/-- enthymeme/value.Decode -/
noncomputable def C30:=C6.sn
theorem ok (b0 : Sl) (w : World) (R : Post) (h : nwV w (.cells #[.i 0, .i 0, .i 0, .u 0, .s0, .slice none 0 0] ty_value_Value) fun w1 => 
  Calls Try.prog n_wire_Read #[b0.v] w1 fun r_ w2 => ∃ t8 : Option Addr, r_ = .returned (.pointer t8) ∧ 
  Calls Try.prog n_wire_Reader_Int #[.pointer t8] w2 fun r_ w3 => ∃ t10 : Int, r_ = .returned (.i t10) ∧ 
  Calls Try.prog n_wire_Reader_Int #[.pointer t8] w3 fun r_ w4 => ∃ t12 : Int, r_ = .returned (.i t12) ∧ 
  Calls Try.prog n_wire_Reader_Int #[.pointer t8] w4 fun r_ w5 => ∃ t14 : Int, r_ = .returned (.i t14) ∧ 
  Calls Try.prog n_wire_Reader_Uint #[.pointer t8] w5 fun r_ w6 => ∃ t17 : Int, r_ = .returned (.u t17) ∧ 
  Calls Try.prog n_wire_Reader_Text #[.pointer t8] w6 fun r_ w7 => ∃ t19 : ByteArray, r_ = .returned (.string t19) ∧ 
  nwV w7 (.cells #[.i 0, .i 0, .i 0, .u 0, .s0, .slice none 0 0] ty_value_Value) fun w8 => 
  stV w8 (nb w7) (.i t10) fun w9 => 
  stV w9 ((nb w7).add 1) (.i t12) fun w10 => 
  stV w10 ((nb w7).add 2) (.i t14) fun w11 => 
  stV w11 ((nb w7).add 3) (.u t17) fun w12 => 
  stV w12 ((nb w7).add 4) (.string t19) fun w13 => 
  stV w13 ((nb w7).add 5) (.slice none 0 0) fun w14 => 
  Calls Try.prog n_wire_Reader_Int #[.pointer t8] w14 fun r_ w15 => ∃ t22 : Int, r_ = .returned (.i t22) ∧ 
  sel (decide (t22 < 0)) (S0 (nb w) w15 R) (sel (decide (t22 > ((b0.n : Nat) : Int))) (S0 (nb w) w15 R) (L1 (nb w) t8 (nb w7) t22 0 w15 R))) : Calls Try.prog n_value_Decode #[b0.v] w R :=
  calls_of_WP' (R := R) (fn := Try.f35) (c := C0) (args := [b0.v]) (by kernel_rfl) (by kernel_rfl) (by kernel_rfl) (sr C0 (show (fun (E : Env) (w : World) => srK Try.prog C0 (fun E w => srK Try.prog C1 (fun E w => srK Try.prog C2 (fun E w => srK Try.prog C3 (fun E w => srK Try.prog C5 (fun E w => condK (Env.val E (.tmp 30)) (KE_S0 E w R) (srK Try.prog C10 (fun E w => KE_L1 E w R) E w)) E w) E w) E w) E w) E w) (envOf 0 [b0.v]) w from Eq.mp (by kernel_rfl) h) fun _ _ hK => (sr C1 hK fun _ _ hK => (sr C2 hK fun _ _ hK => (sr C3 hK fun _ _ hK => (sq C4 (sr C5 hK fun _ _ hK => (cn C6 hK (fun hK => (KE_S0_ok R _ _ hK)) (fun hK => (sk C30 fun a hA => nx hA (sq C8 (sr C10 hK fun _ _ hK => (bk C11 0 (by kernel_rfl) (lp C12 (by kernel_rfl) (KE_L1_ok R _ _ hK))))))))))))))
abbrev S0T (t2 : Nat) (t2_0 t2_1 t2_2 t2_3 : Int) (t2_4 : ByteArray) (t2_5 : Sl) (w : World) (R : Post) : Prop :=
  loc [t2] w fun w6 => R (.returned (.tuple #[.agg #[.i 0, .i 0, .i 0, .u 0, .s0, .slice none 0 0], .i 2])) w6
theorem S0T_ok {t2 : Nat} {t2_0 t2_1 t2_2 t2_3 : Int} {t2_4 : ByteArray} {t2_5 : Sl} {w : World} {R : Post} (h : S0T t2 t2_0 t2_1 t2_2 t2_3 t2_4 t2_5 w R) (H : LC w [(t2, [.i t2_0, .i t2_1, .i t2_2, .u t2_3, .string t2_4, t2_5.v], ty_value_Value)]) : S0 (at0 t2) w R := LC.stT0 H 0 (Fr.refl _ _) rfl rfl fun w1 H f => LC.stT H 0 1 f rfl rfl fun w2 H f => LC.stT H 0 2 f rfl rfl fun w3 H f => LC.stT H 0 3 f rfl rfl fun w4 H f => LC.stT H 0 4 f rfl rfl fun w5 H f => LC.stT H 0 5 f rfl rfl fun w6 (H : LC w6 [(t2, [.i 0, .i 0, .i 0, .u 0, .s0, .slice none 0 0], ty_value_Value)]) (f : Fr (· ∈ [t2]) _ w6) => ⟨_, _, _, _, _, ⟨none, 0, 0⟩, H.ld 0 0, H.ld 0 1, H.ld 0 2, H.ld 0 3, H.ld 0 4, H.ld 0 5, have h := h _ f; h⟩
def L1T (t2 : Nat) (t2_0 t2_1 t2_2 t2_3 : Int) (t2_4 : ByteArray) (t2_5 : Sl) (r4 : Option Addr) (v5 : Nat) (v5_0 v5_1 v5_2 v5_3 : Int) (v5_4 : ByteArray) (v5_5 : Sl) (t32 t33 : Int) (w : World) (R : Post) : Prop := LC w [(t2, [.i t2_0, .i t2_1, .i t2_2, .u t2_3, .string t2_4, t2_5.v], ty_value_Value), (v5, [.i v5_0, .i v5_1, .i v5_2, .u v5_3, .string v5_4, v5_5.v], ty_value_Value)] → L1 (at0 t2) r4 (at0 v5) t32 t33 w R
abbrev S2T (t2 : Nat) (t2_0 t2_1 t2_2 t2_3 : Int) (t2_4 : ByteArray) (t2_5 : Sl) (w : World) (R : Post) : Prop :=
  loc [t2] w fun w6 => R (.returned (.tuple #[.agg #[.i 0, .i 0, .i 0, .u 0, .s0, .slice none 0 0], .i 2])) w6
theorem S2T_ok {t2 : Nat} {t2_0 t2_1 t2_2 t2_3 : Int} {t2_4 : ByteArray} {t2_5 : Sl} {w : World} {R : Post} (h : S2T t2 t2_0 t2_1 t2_2 t2_3 t2_4 t2_5 w R) (H : LC w [(t2, [.i t2_0, .i t2_1, .i t2_2, .u t2_3, .string t2_4, t2_5.v], ty_value_Value)]) : S2 (at0 t2) w R := LC.stT0 H 0 (Fr.refl _ _) rfl rfl fun w1 H f => LC.stT H 0 1 f rfl rfl fun w2 H f => LC.stT H 0 2 f rfl rfl fun w3 H f => LC.stT H 0 3 f rfl rfl fun w4 H f => LC.stT H 0 4 f rfl rfl fun w5 H f => LC.stT H 0 5 f rfl rfl fun w6 (H : LC w6 [(t2, [.i 0, .i 0, .i 0, .u 0, .s0, .slice none 0 0], ty_value_Value)]) (f : Fr (· ∈ [t2]) _ w6) => ⟨_, _, _, _, _, ⟨none, 0, 0⟩, H.ld 0 0, H.ld 0 1, H.ld 0 2, H.ld 0 3, H.ld 0 4, H.ld 0 5, have h := h _ f; h⟩
theorem L1T_step (t2 : Nat) (t2_0 t2_1 t2_2 t2_3 : Int) (t2_4 : ByteArray) (t2_5 : Sl) (r4 : Option Addr) (v5 : Nat) (v5_0 v5_1 v5_2 v5_3 : Int) (v5_4 : ByteArray) (v5_5 : Sl) (t32 t33 : Int) (w : World) (R : Post) (h : sel (decide (t33 < t32)) (loc [t2, v5] w fun w16 => callF [t2, v5] Try.prog n_wire_Reader_Uint #[.pointer r4] w16 fun r_ w17 => ∃ t38 : Int, r_ = .returned (.u t38) ∧ 
  callF [t2, v5] Try.prog n_wire_Reader_Uint #[.pointer r4] w17 fun r_ w18 => ∃ t40 : Int, r_ = .returned (.u t40) ∧ 
  callF [t2, v5] Try.prog n_wire_Reader_Text #[.pointer r4] w18 fun r_ w19 => ∃ t42 : ByteArray, r_ = .returned (.string t42) ∧ 
  nwV w19 (.cells #[.u t38, .u t40, .string t42] ty_value_Entry) fun w20 => 
  ∃ (t45 : Sl) (w21 : World), Sem.run Try.prog (Builtin.append_ #[ty_sl_value_Entry, ty_sl_value_Entry] ty_sl_value_Entry #[v5_5.v, .slice (some (nb w19)) 1 1]) w20 = .ok (t45.v) w21 ∧ kept [t2, v5] w20 w21 ∧ loc [t2, v5] w21 fun w22 => L1T t2 t2_0 t2_1 t2_2 t2_3 t2_4 t2_5 r4 v5 v5_0 v5_1 v5_2 v5_3 v5_4 t45 t32 (IntKind.wrap .i64 (t33 + 1)) w22 R) (callF [t2, v5] Try.prog n_wire_Reader_End #[.pointer r4] w fun r_ w23 => ∃ t49 : Int, r_ = .returned (.i t49) ∧ 
  sel (t49 != 0) (S2T t2 t2_0 t2_1 t2_2 t2_3 t2_4 t2_5 w23 R) (callF [t2, v5] Try.prog n_value_Valid #[.agg #[.i v5_0, .i v5_1, .i v5_2, .u v5_3, .string v5_4, v5_5.v]] w23 fun r_ w24 => ∃ t53 : Int, r_ = .returned (.i t53) ∧ 
  sel (t53 != 0) (S2T t2 t2_0 t2_1 t2_2 t2_3 t2_4 t2_5 w24 R) (loc [t2, v5] w24 fun w30 => R (.returned (.tuple #[.agg #[.i v5_0, .i v5_1, .i v5_2, .u v5_3, .string v5_4, v5_5.v], .i 0])) w30)))) : L1T t2 t2_0 t2_1 t2_2 t2_3 t2_4 t2_5 r4 v5 v5_0 v5_1 v5_2 v5_3 v5_4 v5_5 t32 t33 w R := fun H => L1_step _ _ _ _ _ w R (sel_imp h (fun h => LC.drT H (Fr.refl _ _) fun w16 H f => ⟨v5_5, H.ld 1 5, have h := h _ f; LC.callT H h fun r_ w17 H h => let ⟨t38, hr, h⟩ := h; ⟨t38, hr, ⟨H.ld 1 5, LC.callT H h fun r_ w18 H h => let ⟨t40, hr, h⟩ := h; ⟨t40, hr, ⟨H.ld 1 5, LC.callT H h fun r_ w19 H h => let ⟨t42, hr, h⟩ := h; ⟨t42, hr, ⟨H.ld 1 5, LC.nwN H h fun w20 H h => ⟨H.ld 1 5, let ⟨t45, w21, he, hk, h⟩ := h; have H := LC.keptT H hk; ⟨t45, w21, he, LC.stT H 1 5 (Fr.refl _ _) rfl rfl fun w22 (H : LC w22 [(t2, [.i t2_0, .i t2_1, .i t2_2, .u t2_3, .string t2_4, t2_5.v], ty_value_Value), (v5, [.i v5_0, .i v5_1, .i v5_2, .u v5_3, .string v5_4, t45.v], ty_value_Value)]) (f : Fr (· ∈ [t2, v5]) _ w22) => have h := h _ f; h H⟩⟩⟩⟩⟩⟩⟩⟩⟩) (fun h => LC.callT H h fun r_ w23 H h => let ⟨t49, hr, h⟩ := h; ⟨t49, hr, sel_imp h (fun h => S2T_ok h (H.pick [0] (by decide))) (fun h => ⟨_, _, _, _, _, v5_5, H.ld 1 0, H.ld 1 1, H.ld 1 2, H.ld 1 3, H.ld 1 4, H.ld 1 5, LC.callT H h fun r_ w24 H h => let ⟨t53, hr, h⟩ := h; ⟨t53, hr, sel_imp h (fun h => S2T_ok h (H.pick [0] (by decide))) (fun h => ⟨_, _, _, _, _, v5_5, H.ld 1 0, H.ld 1 1, H.ld 1 2, H.ld 1 3, H.ld 1 4, H.ld 1 5, LC.stT0 H 0 (Fr.refl _ _) rfl rfl fun w25 H f => LC.stT H 0 1 f rfl rfl fun w26 H f => LC.stT H 0 2 f rfl rfl fun w27 H f => LC.stT H 0 3 f rfl rfl fun w28 H f => LC.stT H 0 4 f rfl rfl fun w29 H f => LC.stT H 0 5 f rfl rfl fun w30 (H : LC w30 [(t2, [.i v5_0, .i v5_1, .i v5_2, .u v5_3, .string v5_4, v5_5.v], ty_value_Value), (v5, [.i v5_0, .i v5_1, .i v5_2, .u v5_3, .string v5_4, v5_5.v], ty_value_Value)]) (f : Fr (· ∈ [t2, v5]) _ w30) => ⟨_, _, _, _, _, v5_5, H.ld 0 0, H.ld 0 1, H.ld 0 2, H.ld 0 3, H.ld 0 4, H.ld 0 5, have h := h _ f; h⟩⟩)⟩⟩)⟩))
theorem okT (b0 : Sl) (w : World) (R : Post) (h : newV [] w fun b2 w1 => 
  callF [b2] Try.prog n_wire_Read #[b0.v] w1 fun r_ w2 => ∃ t8 : Option Addr, r_ = .returned (.pointer t8) ∧ 
  callF [b2] Try.prog n_wire_Reader_Int #[.pointer t8] w2 fun r_ w3 => ∃ t10 : Int, r_ = .returned (.i t10) ∧ 
  callF [b2] Try.prog n_wire_Reader_Int #[.pointer t8] w3 fun r_ w4 => ∃ t12 : Int, r_ = .returned (.i t12) ∧ 
  callF [b2] Try.prog n_wire_Reader_Int #[.pointer t8] w4 fun r_ w5 => ∃ t14 : Int, r_ = .returned (.i t14) ∧ 
  callF [b2] Try.prog n_wire_Reader_Uint #[.pointer t8] w5 fun r_ w6 => ∃ t17 : Int, r_ = .returned (.u t17) ∧ 
  callF [b2] Try.prog n_wire_Reader_Text #[.pointer t8] w6 fun r_ w7 => ∃ t19 : ByteArray, r_ = .returned (.string t19) ∧ 
  newV [b2] w7 fun b5 w8 => 
  loc [b2, b5] w8 fun w14 => callF [b2, b5] Try.prog n_wire_Reader_Int #[.pointer t8] w14 fun r_ w15 => ∃ t22 : Int, r_ = .returned (.i t22) ∧ 
  sel (decide (t22 < 0)) (S0T b2 0 0 0 0 (ByteArray.mk #[]) ⟨none, 0, 0⟩ w15 R) (sel (decide (t22 > ((b0.n : Nat) : Int))) (S0T b2 0 0 0 0 (ByteArray.mk #[]) ⟨none, 0, 0⟩ w15 R) (L1T b2 0 0 0 0 (ByteArray.mk #[]) ⟨none, 0, 0⟩ t8 b5 t10 t12 t14 t17 t19 ⟨none, 0, 0⟩ t22 0 w15 R))) : Calls Try.prog n_value_Decode #[b0.v] w R :=
  ok _ w R (LC.nwT (LC.nil _) (Fr.refl _ _) h fun w1 H h => LC.callT H h fun r_ w2 H h => let ⟨t8, hr, h⟩ := h; ⟨t8, hr, LC.callT H h fun r_ w3 H h => let ⟨t10, hr, h⟩ := h; ⟨t10, hr, LC.callT H h fun r_ w4 H h => let ⟨t12, hr, h⟩ := h; ⟨t12, hr, LC.callT H h fun r_ w5 H h => let ⟨t14, hr, h⟩ := h; ⟨t14, hr, LC.callT H h fun r_ w6 H h => let ⟨t17, hr, h⟩ := h; ⟨t17, hr, LC.callT H h fun r_ w7 H h => let ⟨t19, hr, h⟩ := h; ⟨t19, hr, LC.nwT H (Fr.refl _ _) h fun w8 H h => LC.stT0 H 1 (Fr.refl _ _) rfl rfl fun w9 H f => LC.stT H 1 1 f rfl rfl fun w10 H f => LC.stT H 1 2 f rfl rfl fun w11 H f => LC.stT H 1 3 f rfl rfl fun w12 H f => LC.stT H 1 4 f rfl rfl fun w13 H f => LC.stT H 1 5 f rfl rfl fun w14 (H : LC w14 [(w.heap.size, [.i 0, .i 0, .i 0, .u 0, .s0, .slice none 0 0], ty_value_Value), (w7.heap.size, [.i t10, .i t12, .i t14, .u t17, .string t19, .slice none 0 0], ty_value_Value)]) (f : Fr (· ∈ [w.heap.size, w7.heap.size]) _ w14) => have h := h _ f; LC.callT H h fun r_ w15 H h => let ⟨t22, hr, h⟩ := h; ⟨t22, hr, sel_imp h (fun h => S0T_ok h (H.pick [0] (by decide))) (fun h => sel_imp h (fun h => S0T_ok h (H.pick [0] (by decide))) (fun h => h H))⟩⟩⟩⟩⟩⟩⟩)
end value_Decode
end Go.Proofs.Ytjjhfdjpmonlaaa

/- Printed by a program of ours (vcgen.py) from the dump: the conditions of the functions, and that they suffice. -/
import Derived.Test.YtknlbofiicflgaaGreatVH
set_option linter.unusedVariables false
set_option maxRecDepth 100000
set_option maxHeartbeats 2000000
namespace Go.Proofs.YtknlbofiicflgaaGreat
open Go Go.W
namespace enthymemeref04_Everything
noncomputable abbrev X : Fx := ⟨Tryz.prog, Tryz.f81, [], [0]⟩
theorem okT  (w : World) (R : Post) (h : newV [] w fun b0 w1 => 
  nwV w1 (.cells #[.i 0, .int .u8 0, .int .u8 0, .slice none 0 0] ty_enthymemeref04_Regex) fun w2 => 
  loc [b0] w2 fun w6 => R (.returned (.agg #[.i 6, .int .u8 0, .int .u8 0, .slice (some (nb w1)) 1 1])) w6) : Calls Tryz.prog n_enthymemeref04_Everything #[] w R := callsX X [] h
end enthymemeref04_Everything
namespace enthymemeref04_put
noncomputable def C0 : Code := (Tryz.f82.body).getD .skip
noncomputable def C1:=C0.sn
noncomputable def C2:=C1.sn
noncomputable def C3:=C2.fs
noncomputable def C4:=C3.fs
noncomputable def C5:=C4.fs
noncomputable def C6:=C2.sn
abbrev Q0 (R : Post) : ExP := (Exit.then (wpx Tryz.prog (cx 49) C6 (bodyPost Tryz.prog Tryz.f82 R)) (bodyPost Tryz.prog Tryz.f82 R))
abbrev Q1 (R : Post) : ExP := (Exit.inBlock 0 (Q0 R))
/-- the head of the loop, ref.go:90 -/
def L0 (l0 : Sl) (r3 : Addr) (k5 : Int) (w : World) (R : Post) : Prop := LP Tryz.prog (cx 49) C5 (Q1 R) [(0, l0.v), (3, .pointer (some r3)), (5, .i k5)] w
def KE_L0 (E : Env) (w : World) (R : Post) : Prop := W.asSlice (Env.get? E 0) fun l0 => W.asRef (Env.get? E 3) fun r3 => W.asInt .i64 (Env.get? E 5) fun k5 => L0 l0 r3 k5 w R
theorem KE_L0_ok : LOk Tryz.prog 49 KE_L0 C5 Q1 := by
  intro R E w h
  obtain ⟨l0, hq0, h_1⟩ := W.asSlice_elim h
  obtain ⟨r3, hq3, h_2⟩ := W.asRef_elim h_1
  obtain ⟨k5, hq5, h_3⟩ := W.asInt_elim h_2
  intro a ha
  exact h_3 a (ha.cons hq0 (ha.cons hq3 (ha.cons hq5 ha.nil)))
noncomputable def C7:=C6.sn
noncomputable def C8:=C7.sn
noncomputable def C9:=C8.sn
abbrev Q2 (R : Post) : ExP := (bodyPost Tryz.prog Tryz.f82 R)
noncomputable def C10:=C9.sn
/-- ref.go:98 -/
abbrev S3 (l0 : Sl) (k5 : Int) (out6 : Sl) (w : World) (R : Post) : Prop :=
  (0 : Int) ≤ k5 ∧ k5 ≤ ((l0.n : Nat) : Int) ∧ ∃ (t48 : Sl) (w1 : World), Sem.run Tryz.prog (Builtin.append_ #[ty_sl_enthymemeref04_Regex, ty_sl_enthymemeref04_Regex] ty_sl_enthymemeref04_Regex #[out6.v, .slice (if l0.c = (Int.toNat k5) then l0.a else l0.a.map (·.add ((Int.toNat k5) * 4))) (l0.n - (Int.toNat k5)) (l0.c - (Int.toNat k5))]) w = .ok (t48.v) w1 ∧ R (.returned (t48.v)) w1
def KE_S3 (E : Env) (w : World) (R : Post) : Prop := W.asSlice (Env.get? E 0) fun l0 => W.asInt .i64 (Env.get? E 5) fun k5 => W.asSlice (Env.get? E 6) fun out6 => S3 l0 k5 out6 w R
theorem KE_S3_ok : KOk Tryz.prog 49 KE_S3 C9 Q2 := by
  intro R E w h
  obtain ⟨l0, hq0, h_1⟩ := W.asSlice_elim h
  obtain ⟨k5, hq5, h_2⟩ := W.asInt_elim h_1
  obtain ⟨out6, hq6, h_3⟩ := W.asSlice_elim h_2
  exact fun a ha => WP.at (E := [(0, l0.v), (5, .i k5), (6, out6.v)]) (sr C9 (K := fun E w => retVC Tryz.prog Tryz.f82 E w (fun v => R (.returned v) w)) (mp h_3) fun _ _ hK => (rt C10 fun a hA => retVC_sound hA hK)) (ha.cons hq0 (ha.cons hq5 (ha.cons hq6 ha.nil)))
/-- ref.go:96 -/
abbrev S2 (l0 : Sl) (r3 : Addr) (k5 : Int) (w : World) (R : Post) : Prop :=
  drV w fun w1 => (0 : Int) ≤ k5 ∧ k5 ≤ ((l0.c : Nat) : Int) ∧ ld4_0 w1 r3 fun t41_0 t41_1 t41_2 t41_3 => ((∃ (t40 : Sl) (w2 : World), Sem.run Tryz.prog (Builtin.append_ #[ty_sl_enthymemeref04_Regex, ty_sl_enthymemeref04_Regex] ty_sl_enthymemeref04_Regex #[.slice none 0 0, .slice (if l0.c = 0 then l0.a else l0.a.map (·.add (0 * 4))) ((Int.toNat k5) - 0) (l0.c - 0)]) w1 = .ok (t40.v) w2 ∧ hdW4 w2 r3 (.i t41_0) (.int .u8 t41_1) (.int .u8 t41_2) (t41_3.v) fun _ => nwV w2 (.cells #[.i t41_0, .int .u8 t41_1, .int .u8 t41_2, t41_3.v] ty_enthymemeref04_Regex) fun w3 => 
  ∃ (t43 : Sl) (w4 : World), Sem.run Tryz.prog (Builtin.append_ #[ty_sl_enthymemeref04_Regex, ty_sl_enthymemeref04_Regex] ty_sl_enthymemeref04_Regex #[t40.v, .slice (some (nb w2)) 1 1]) w3 = .ok (t43.v) w4 ∧ S3 l0 k5 t43 w4 R) ∧ (nwV w1 (.cells #[.i t41_0, .int .u8 t41_1, .int .u8 t41_2, t41_3.v] ty_enthymemeref04_Regex) fun w5 => 
  ∃ (t40_x1 : Sl) (w6 : World), Sem.run Tryz.prog (Builtin.append_ #[ty_sl_enthymemeref04_Regex, ty_sl_enthymemeref04_Regex] ty_sl_enthymemeref04_Regex #[.slice none 0 0, .slice (if l0.c = 0 then l0.a else l0.a.map (·.add (0 * 4))) ((Int.toNat k5) - 0) (l0.c - 0)]) w5 = .ok (t40_x1.v) w6 ∧ ∃ (t43_x1 : Sl) (w7 : World), Sem.run Tryz.prog (Builtin.append_ #[ty_sl_enthymemeref04_Regex, ty_sl_enthymemeref04_Regex] ty_sl_enthymemeref04_Regex #[t40_x1.v, .slice (some (nb w1)) 1 1]) w6 = .ok (t43_x1.v) w7 ∧ S3 l0 k5 t43_x1 w7 R))
def KE_S2 (E : Env) (w : World) (R : Post) : Prop := W.asSlice (Env.get? E 0) fun l0 => W.asRef (Env.get? E 3) fun r3 => W.asInt .i64 (Env.get? E 5) fun k5 => S2 l0 r3 k5 w R
theorem KE_S2_ok : KOk Tryz.prog 49 KE_S2 C7 Q2 := by
  intro R E w h
  obtain ⟨l0, hq0, h_1⟩ := W.asSlice_elim h
  obtain ⟨r3, hq3, h_2⟩ := W.asRef_elim h_1
  obtain ⟨k5, hq5, h_3⟩ := W.asInt_elim h_2
  exact fun a ha => WP.at (E := [(0, l0.v), (3, .pointer (some r3)), (5, .i k5)]) (sr C7 (K := fun E w => stK Tryz.prog C8 (.one 0 (.one 1 (.one 2 (.one 3 (.one 5 (.fork (.one 4 (.one 6 (.one 7 (.one 8 .nil)))) (.one 6 (.one 4 (.one 7 (.one 8 .nil)))))))))) (fun E w => KE_S3 E w R) E w) (mp h_3) fun _ _ hK => (st C8 (by kernel_rfl) hK fun _ _ hK => (KE_S3_ok R _ _ hK))) (ha.cons hq0 (ha.cons hq3 (ha.cons hq5 ha.nil)))
noncomputable def C11:=C6.fs
abbrev Q3 (R : Post) : ExP := (Exit.then (wpx Tryz.prog (cx 49) C7 (bodyPost Tryz.prog Tryz.f82 R)) (bodyPost Tryz.prog Tryz.f82 R))
noncomputable def C12:=C11.sn
noncomputable def C13:=C12.fs
noncomputable def C14:=C13.sn
noncomputable def C15:=C12.sn
/-- ref.go:93 -/
abbrev S1 (l0 : Sl) (r3 : Addr) (k5 : Int) (w : World) (R : Post) : Prop :=
  drV w fun w1 => sel (decide (k5 < ((l0.n : Nat) : Int))) ((0 : Int) ≤ k5 ∧ k5 < ((l0.n : Nat) : Int) ∧ optP l0.a fun t29_p => ld4_0 w1 (t29_p.add (Int.toNat k5 * 4)) fun t30_0 t30_1 t30_2 t30_3 => ld4_0 w1 r3 fun t31_0 t31_1 t31_2 t31_3 => ca0 n_enthymemeref04_Compare #[.agg #[.i t30_0, .int .u8 t30_1, .int .u8 t30_2, t30_3.v], .agg #[.i t31_0, .int .u8 t31_1, .int .u8 t31_2, t31_3.v]] w1 fun t32 w2 => sel (t32 == 0) (R (.returned (l0.v)) w2) (S2 l0 r3 k5 w2 R)) (S2 l0 r3 k5 w1 R)
def KE_S1 (E : Env) (w : World) (R : Post) : Prop := W.asSlice (Env.get? E 0) fun l0 => W.asRef (Env.get? E 3) fun r3 => W.asInt .i64 (Env.get? E 5) fun k5 => S1 l0 r3 k5 w R
theorem KE_S1_ok : KOk Tryz.prog 49 KE_S1 C11 Q3 := by
  intro R E w h
  obtain ⟨l0, hq0, h_1⟩ := W.asSlice_elim h
  obtain ⟨r3, hq3, h_2⟩ := W.asRef_elim h_1
  obtain ⟨k5, hq5, h_3⟩ := W.asInt_elim h_2
  exact fun a ha => WP.at (E := [(0, l0.v), (3, .pointer (some r3)), (5, .i k5)]) (sd C11 (K := fun E w => condK (Env.val E (.tmp 34)) (srK Tryz.prog C13 (fun E w => retVC Tryz.prog Tryz.f82 E w (fun v => R (.returned v) w)) E w) (KE_S2 E w R)) (l := [0, 1, 2, 3, 4, 5, 6, 7, 8, 9, 10, 11, 12]) (by kernel_rfl) (mp h_3) fun _ _ hK => (cn C12 hK (fun hK => (sr C13 hK fun _ _ hK => (rt C14 fun a hA => retVC_sound hA hK))) (fun hK => (sk C15 fun a hA => nx hA (KE_S2_ok R _ _ hK))))) (ha.cons hq0 (ha.cons hq3 (ha.cons hq5 ha.nil)))
noncomputable def C16:=C5.fs
noncomputable def C17:=C5.sn
noncomputable def C18:=C17.fs
noncomputable def C19:=C16.sn
noncomputable def C20:=C19.fs
noncomputable def C21:=C19.sn
theorem L0_step (l0 : Sl) (r3 : Addr) (k5 : Int) (w : World) (R : Post) (h : drV w fun w2 => sel (decide (k5 < ((l0.n : Nat) : Int))) ((0 : Int) ≤ k5 ∧ k5 < ((l0.n : Nat) : Int) ∧ optP l0.a fun t14_p => ld4_0 w2 (t14_p.add (Int.toNat k5 * 4)) fun t15_0 t15_1 t15_2 t15_3 => ld4_0 w2 r3 fun t16_0 t16_1 t16_2 t16_3 => ca0 n_enthymemeref04_Compare #[.agg #[.i t15_0, .int .u8 t15_1, .int .u8 t15_2, t15_3.v], .agg #[.i t16_0, .int .u8 t16_1, .int .u8 t16_2, t16_3.v]] w2 fun t17 w3 => sel (decide (t17 < 0)) (L0 l0 r3 (IntKind.wrap .i64 (k5 + 1)) w3 R) (S1 l0 r3 k5 w3 R)) (S1 l0 r3 k5 w2 R)) : L0 l0 r3 k5 w R :=
  LP.step (n := (cx 49)) (c := C5) (E := [(0, l0.v), (3, .pointer (some r3)), (5, .i k5)]) (w := w) (sq C5 (sd C16 (by kernel_rfl) (show (fun (E : Env) (w : World) => sdK Tryz.prog C16 [0, 1, 2, 3, 4, 5, 6, 7, 8, 9, 10, 11, 12] (fun E w => condK (Env.val E (.tmp 19)) (rgK Tryz.prog C18 (fun E w => KE_L0 E w R) E w) (KE_S1 E w R)) E w) [(0, l0.v), (3, .pointer (some r3)), (5, .i k5)] w from mp h) fun _ _ hK => (cn C19 hK (fun hK => (sk C20 fun a hA => nx hA (bk C17 1 (by kernel_rfl) (rg C18 (by kernel_rfl) hK fun _ _ a hA hK => KE_L0_ok R _ _ hK a hA)))) (fun hK => (xt C21 0 (by kernel_rfl) fun a hA => nx hA (sq C6 (KE_S1_ok R _ _ hK)))))))
/-- enthymeme/enthymemeref04.put -/
theorem ok (l0 : Sl) (r1_0 r1_1 r1_2 : Int) (r1_3 : Sl) (w : World) (R : Post) (h : nwV w (.cells #[.i r1_0, .int .u8 r1_1, .int .u8 r1_2, r1_3.v] ty_enthymemeref04_Regex) fun w1 => 
  L0 l0 (nb w) 0 w1 R) : Calls Tryz.prog n_enthymemeref04_put #[l0.v, .agg #[.i r1_0, .int .u8 r1_1, .int .u8 r1_2, r1_3.v]] w R :=
  calls_of_WP' (R := R) (fn := Tryz.f82) (c := C0) (args := [l0.v, .agg #[.i r1_0, .int .u8 r1_1, .int .u8 r1_2, r1_3.v]]) (by kernel_rfl) (by kernel_rfl) (by kernel_rfl) (sr C0 (show (fun (E : Env) (w : World) => srK Tryz.prog C0 (fun E w => srK Tryz.prog C1 (fun E w => KE_L0 E w R) E w) E w) (envOf 0 [l0.v, .agg #[.i r1_0, .int .u8 r1_1, .int .u8 r1_2, r1_3.v]]) w from mp h) fun _ _ hK => (sr C1 hK fun _ _ hK => (sq C2 (bk C3 0 (by kernel_rfl) (lp C4 (by kernel_rfl) (KE_L0_ok R _ _ hK))))))
def L0T (l0 : Sl) (r3 : Nat) (r3_0 r3_1 r3_2 : Int) (r3_3 : Sl) (k5 : Int) (w : World) (R : Post) : Prop := LC w [(r3, [.i r3_0, .int .u8 r3_1, .int .u8 r3_2, r3_3.v], ty_enthymemeref04_Regex)] → L0 l0 (at0 r3) k5 w R
abbrev S3T (l0 : Sl) (k5 : Int) (out6 : Sl) (w : World) (R : Post) : Prop :=
  (0 : Int) ≤ k5 ∧ k5 ≤ ((l0.n : Nat) : Int) ∧ ∃ (t48 : Sl) (w1 : World), Sem.run Tryz.prog (Builtin.append_ #[ty_sl_enthymemeref04_Regex, ty_sl_enthymemeref04_Regex] ty_sl_enthymemeref04_Regex #[out6.v, .slice (if l0.c = (Int.toNat k5) then l0.a else l0.a.map (·.add ((Int.toNat k5) * 4))) (l0.n - (Int.toNat k5)) (l0.c - (Int.toNat k5))]) w = .ok (t48.v) w1 ∧ R (.returned (t48.v)) w1
theorem S3T_ok {l0 : Sl} {k5 : Int} {out6 : Sl} {w : World} {R : Post} (h : S3T l0 k5 out6 w R) (H : LC w []) : S3 l0 k5 out6 w R := ⟨h.1, h.2.1, have h := h.2.2; let ⟨t48, w1, he, h⟩ := h; ⟨t48, w1, he, h⟩⟩
abbrev S2T (l0 : Sl) (r3 : Nat) (r3_0 r3_1 r3_2 : Int) (r3_3 : Sl) (k5 : Int) (w : World) (R : Post) : Prop :=
  (0 : Int) ≤ k5 ∧ k5 ≤ ((l0.c : Nat) : Int) ∧ ((loc [r3] w fun w1 => ∃ (t40 : Sl) (w2 : World), Sem.run Tryz.prog (Builtin.append_ #[ty_sl_enthymemeref04_Regex, ty_sl_enthymemeref04_Regex] ty_sl_enthymemeref04_Regex #[.slice none 0 0, .slice (if l0.c = 0 then l0.a else l0.a.map (·.add (0 * 4))) ((Int.toNat k5) - 0) (l0.c - 0)]) w1 = .ok (t40.v) w2 ∧ kept [r3] w1 w2 ∧ nwV w2 (.cells #[.i r3_0, .int .u8 r3_1, .int .u8 r3_2, r3_3.v] ty_enthymemeref04_Regex) fun w3 => 
  ∃ (t43 : Sl) (w4 : World), Sem.run Tryz.prog (Builtin.append_ #[ty_sl_enthymemeref04_Regex, ty_sl_enthymemeref04_Regex] ty_sl_enthymemeref04_Regex #[t40.v, .slice (some (nb w2)) 1 1]) w3 = .ok (t43.v) w4 ∧ kept [r3] w3 w4 ∧ S3T l0 k5 t43 w4 R) ∧ (loc [r3] w fun w1 => nwV w1 (.cells #[.i r3_0, .int .u8 r3_1, .int .u8 r3_2, r3_3.v] ty_enthymemeref04_Regex) fun w5 => 
  ∃ (t40_x1 : Sl) (w6 : World), Sem.run Tryz.prog (Builtin.append_ #[ty_sl_enthymemeref04_Regex, ty_sl_enthymemeref04_Regex] ty_sl_enthymemeref04_Regex #[.slice none 0 0, .slice (if l0.c = 0 then l0.a else l0.a.map (·.add (0 * 4))) ((Int.toNat k5) - 0) (l0.c - 0)]) w5 = .ok (t40_x1.v) w6 ∧ kept [r3] w5 w6 ∧ ∃ (t43_x1 : Sl) (w7 : World), Sem.run Tryz.prog (Builtin.append_ #[ty_sl_enthymemeref04_Regex, ty_sl_enthymemeref04_Regex] ty_sl_enthymemeref04_Regex #[t40_x1.v, .slice (some (nb w1)) 1 1]) w6 = .ok (t43_x1.v) w7 ∧ kept [r3] w6 w7 ∧ S3T l0 k5 t43_x1 w7 R))
theorem S2T_ok {l0 : Sl} {r3 : Nat} {r3_0 r3_1 r3_2 : Int} {r3_3 : Sl} {k5 : Int} {w : World} {R : Post} (h : S2T l0 r3 r3_0 r3_1 r3_2 r3_3 k5 w R) (H : LC w [(r3, [.i r3_0, .int .u8 r3_1, .int .u8 r3_2, r3_3.v], ty_enthymemeref04_Regex)]) : S2 l0 (at0 r3) k5 w R := LC.drT H (Fr.refl _ _) fun w1 H f => ⟨h.1, h.2.1, have h := h.2.2; ⟨_, _, _, r3_3, H.ld 0 0, H.ld 0 1, H.ld 0 2, H.ld 0 3, ⟨have h := h.1; have h := h _ f; let ⟨t40, w2, he, hk, h⟩ := h; have H := LC.keptT H hk; ⟨t40, w2, he, ⟨H.ld 0 0, H.ld 0 1, H.ld 0 2, H.ld 0 3, LC.nwN H h fun w3 H h => let ⟨t43, w4, he, hk, h⟩ := h; have H := LC.keptT H hk; ⟨t43, w4, he, S3T_ok h (LC.nil _)⟩⟩⟩, have h := h.2; have h := h _ f; LC.nwN H h fun w5 H h => let ⟨t40_x1, w6, he, hk, h⟩ := h; have H := LC.keptT H hk; ⟨t40_x1, w6, he, let ⟨t43_x1, w7, he, hk, h⟩ := h; have H := LC.keptT H hk; ⟨t43_x1, w7, he, S3T_ok h (LC.nil _)⟩⟩⟩⟩⟩
abbrev S1T (l0 : Sl) (r3 : Nat) (r3_0 r3_1 r3_2 : Int) (r3_3 : Sl) (k5 : Int) (w : World) (R : Post) : Prop :=
  sel (decide (k5 < ((l0.n : Nat) : Int))) ((0 : Int) ≤ k5 ∧ k5 < ((l0.n : Nat) : Int) ∧ optP l0.a fun t29_p => loc [r3] w fun w1 => ld4_0 w1 (t29_p.add (Int.toNat k5 * 4)) fun t30_0 t30_1 t30_2 t30_3 => cf0 [r3] n_enthymemeref04_Compare #[.agg #[.i t30_0, .int .u8 t30_1, .int .u8 t30_2, t30_3.v], .agg #[.i r3_0, .int .u8 r3_1, .int .u8 r3_2, r3_3.v]] w1 fun t32 w2 => sel (t32 == 0) (R (.returned (l0.v)) w2) (S2T l0 r3 r3_0 r3_1 r3_2 r3_3 k5 w2 R)) (loc [r3] w fun w1 => S2T l0 r3 r3_0 r3_1 r3_2 r3_3 k5 w1 R)
theorem S1T_ok {l0 : Sl} {r3 : Nat} {r3_0 r3_1 r3_2 : Int} {r3_3 : Sl} {k5 : Int} {w : World} {R : Post} (h : S1T l0 r3 r3_0 r3_1 r3_2 r3_3 k5 w R) (H : LC w [(r3, [.i r3_0, .int .u8 r3_1, .int .u8 r3_2, r3_3.v], ty_enthymemeref04_Regex)]) : S1 l0 (at0 r3) k5 w R := LC.drT H (Fr.refl _ _) fun w1 H f => sel_imp h (fun h => ⟨h.1, h.2.1, have h := h.2.2; optP_imp h fun t29_p h => have h := h _ f; let ⟨t30_0, t30_1, t30_2, t30_3, hc0, hc1, hc2, hc3, h⟩ := h; ⟨t30_0, t30_1, t30_2, t30_3, hc0, hc1, hc2, hc3, ⟨_, _, _, r3_3, H.ld 0 0, H.ld 0 1, H.ld 0 2, H.ld 0 3, LC.callT H h fun r_ w2 H h => let ⟨t32, hr, h⟩ := h; ⟨t32, hr, sel_imp h (fun h => h) (fun h => S2T_ok h H)⟩⟩⟩⟩) (fun h => have h := h _ f; S2T_ok h H)
theorem L0T_step (l0 : Sl) (r3 : Nat) (r3_0 r3_1 r3_2 : Int) (r3_3 : Sl) (k5 : Int) (w : World) (R : Post) (h : sel (decide (k5 < ((l0.n : Nat) : Int))) ((0 : Int) ≤ k5 ∧ k5 < ((l0.n : Nat) : Int) ∧ optP l0.a fun t14_p => loc [r3] w fun w2 => ld4_0 w2 (t14_p.add (Int.toNat k5 * 4)) fun t15_0 t15_1 t15_2 t15_3 => cf0 [r3] n_enthymemeref04_Compare #[.agg #[.i t15_0, .int .u8 t15_1, .int .u8 t15_2, t15_3.v], .agg #[.i r3_0, .int .u8 r3_1, .int .u8 r3_2, r3_3.v]] w2 fun t17 w3 => sel (decide (t17 < 0)) (L0T l0 r3 r3_0 r3_1 r3_2 r3_3 (IntKind.wrap .i64 (k5 + 1)) w3 R) (S1T l0 r3 r3_0 r3_1 r3_2 r3_3 k5 w3 R)) (loc [r3] w fun w2 => S1T l0 r3 r3_0 r3_1 r3_2 r3_3 k5 w2 R)) : L0T l0 r3 r3_0 r3_1 r3_2 r3_3 k5 w R := fun H => L0_step _ _ _ w R (LC.drT H (Fr.refl _ _) fun w2 H f => sel_imp h (fun h => ⟨h.1, h.2.1, have h := h.2.2; optP_imp h fun t14_p h => have h := h _ f; let ⟨t15_0, t15_1, t15_2, t15_3, hc0, hc1, hc2, hc3, h⟩ := h; ⟨t15_0, t15_1, t15_2, t15_3, hc0, hc1, hc2, hc3, ⟨_, _, _, r3_3, H.ld 0 0, H.ld 0 1, H.ld 0 2, H.ld 0 3, LC.callT H h fun r_ w3 H h => let ⟨t17, hr, h⟩ := h; ⟨t17, hr, sel_imp h (fun h => h H) (fun h => S1T_ok h H)⟩⟩⟩⟩) (fun h => have h := h _ f; S1T_ok h H))
theorem okT (l0 : Sl) (r1_0 r1_1 r1_2 : Int) (r1_3 : Sl) (w : World) (R : Post) (h : newV [] w fun b3 w1 => 
  L0T l0 b3 r1_0 r1_1 r1_2 r1_3 0 w1 R) : Calls Tryz.prog n_enthymemeref04_put #[l0.v, .agg #[.i r1_0, .int .u8 r1_1, .int .u8 r1_2, r1_3.v]] w R :=
  ok _ _ _ _ _ w R (LC.nwT (LC.nil _) (Fr.refl _ _) h fun w1 H h => h H)
end enthymemeref04_put
namespace enthymemeref04_normal
noncomputable abbrev X : Fx := ⟨Tryz.prog, Tryz.f55, [(9,[0,1,2,3,4,5,6,7,8,9,10,11,12]), (25,[0,1,2,3,4,5,6]), (27,[0,1,2,3,4,5,6])], [4, 5, 8, 9]⟩
abbrev P0 : Ps := [(1, .v [.s]), (4, .l [.I, .Y, .Y, .s] ty_enthymemeref04_Regex)]
abbrev S0T (kids1 : Sl) (t4 : Nat) (t4_0 t4_1 t4_2 : Int) (t4_3 : Sl) (w : World) (R : Post) : Prop :=
  (0 : Int) ≤ 0 ∧ 0 < ((kids1.n : Nat) : Int) ∧ optP kids1.a fun t50_p => ld4_0 w (t50_p.add (Int.toNat 0 * 4)) fun t51_0 t51_1 t51_2 t51_3 => loc [t4] w fun w4 => R (.returned (.agg #[.i t51_0, .int .u8 t51_1, .int .u8 t51_2, t51_3.v])) w4
noncomputable def eS0 := entS X [] (pth [0, 1, 1, 1, 1, 1, 1, 1, 3]) P0 S0T
abbrev P1 : Ps := [(0, .v [.I]), (1, .v [.s]), (4, .l [.I, .Y, .Y, .s] ty_enthymemeref04_Regex), (5, .l [.I, .Y, .Y, .s] ty_enthymemeref04_Regex), (6, .v [.s]), (7, .v [.I])]
def L1T (kind0 : Int) (kids1 : Sl) (t4 : Nat) (t4_0 t4_1 t4_2 : Int) (t4_3 : Sl) (all5 : Nat) (all5_0 all5_1 all5_2 : Int) (all5_3 flat6 : Sl) (i7 : Int) (w : World) (R : Post) : Prop := mkCur P1 0 (X.Sem (pth [0, 1, 1, 1, 5])) kind0 kids1 t4 t4_0 t4_1 t4_2 t4_3 all5 all5_0 all5_1 all5_2 all5_3 flat6 i7 w R
noncomputable def eL1 := entL X (pth [0, 1, 1, 1, 5]) P1 L1T
abbrev S2T (kind0 : Int) (kids1 : Sl) (t4 : Nat) (t4_0 t4_1 t4_2 : Int) (t4_3 : Sl) (all5 : Nat) (all5_0 all5_1 all5_2 : Int) (all5_3 flat6 : Sl) (i7 : Int) (w : World) (R : Post) : Prop :=
  L1T kind0 kids1 t4 t4_0 t4_1 t4_2 t4_3 all5 all5_0 all5_1 all5_2 all5_3 flat6 (IntKind.wrap .i64 (i7 + 1)) w R
noncomputable def eS2 := entS X [eL1, eS0] (pth [2, 2, 1, 1, 5]) P1 S2T
abbrev P2 : Ps := [(0, .v [.I]), (4, .l [.I, .Y, .Y, .s] ty_enthymemeref04_Regex), (6, .v [.s]), (8, .l [.I, .Y, .Y, .s] ty_enthymemeref04_Regex), (9, .l [.I, .Y, .Y, .s] ty_enthymemeref04_Regex), (10, .v [.s]), (11, .v [.I])]
def L3T (kind0 : Int) (t4 : Nat) (t4_0 t4_1 t4_2 : Int) (t4_3 flat6 : Sl) (neutral8 : Nat) (neutral8_0 neutral8_1 neutral8_2 : Int) (neutral8_3 : Sl) (decides9 : Nat) (decides9_0 decides9_1 decides9_2 : Int) (decides9_3 out10 : Sl) (i11 : Int) (w : World) (R : Post) : Prop := mkCur P2 0 (X.Sem (pth [0, 1, 1, 1, 9])) kind0 t4 t4_0 t4_1 t4_2 t4_3 flat6 neutral8 neutral8_0 neutral8_1 neutral8_2 neutral8_3 decides9 decides9_0 decides9_1 decides9_2 decides9_3 out10 i11 w R
noncomputable def eL3 := entL X (pth [0, 1, 1, 1, 9]) P2 L3T
abbrev S4T (kind0 : Int) (t4 : Nat) (t4_0 t4_1 t4_2 : Int) (t4_3 flat6 : Sl) (neutral8 : Nat) (neutral8_0 neutral8_1 neutral8_2 : Int) (neutral8_3 : Sl) (decides9 : Nat) (decides9_0 decides9_1 decides9_2 : Int) (decides9_3 out10 : Sl) (i11 : Int) (w : World) (R : Post) : Prop :=
  L3T kind0 t4 t4_0 t4_1 t4_2 t4_3 flat6 neutral8 neutral8_0 neutral8_1 neutral8_2 neutral8_3 decides9 decides9_0 decides9_1 decides9_2 decides9_3 out10 (IntKind.wrap .i64 (i11 + 1)) w R
noncomputable def eS4 := entS X [eL3, eS2, eL1, eS0] (pth [2, 2, 1, 1, 9]) P2 S4T
theorem L3T_step : ∀ (kind0 : Int) (t4 : Nat) (t4_0 t4_1 t4_2 : Int) (t4_3 flat6 : Sl) (neutral8 : Nat) (neutral8_0 neutral8_1 neutral8_2 : Int) (neutral8_3 : Sl) (decides9 : Nat) (decides9_0 decides9_1 decides9_2 : Int) (decides9_3 out10 : Sl) (i11 : Int) (w : World) (R : Post) (h : sel (decide (i11 < ((flat6.n : Nat) : Int))) ((0 : Int) ≤ i11 ∧ i11 < ((flat6.n : Nat) : Int) ∧ optP flat6.a fun t105_p => loc [t4, neutral8, decides9] w fun w41 => ld4_0 w41 (t105_p.add (Int.toNat i11 * 4)) fun t106_0 t106_1 t106_2 t106_3 => cf0 [t4, neutral8, decides9] n_enthymemeref04_Compare #[.agg #[.i t106_0, .int .u8 t106_1, .int .u8 t106_2, t106_3.v], .agg #[.i decides9_0, .int .u8 decides9_1, .int .u8 decides9_2, decides9_3.v]] w41 fun t108 w42 => sel (t108 == 0) (loc [t4, neutral8, decides9] w42 fun w46 => R (.returned (.agg #[.i decides9_0, .int .u8 decides9_1, .int .u8 decides9_2, decides9_3.v])) w46) ((0 : Int) ≤ i11 ∧ i11 < ((flat6.n : Nat) : Int) ∧ optP flat6.a fun t113_p => loc [t4, neutral8, decides9] w42 fun w47 => ld4_0 w47 (t113_p.add (Int.toNat i11 * 4)) fun t114_0 t114_1 t114_2 t114_3 => cf0 [t4, neutral8, decides9] n_enthymemeref04_Compare #[.agg #[.i t114_0, .int .u8 t114_1, .int .u8 t114_2, t114_3.v], .agg #[.i neutral8_0, .int .u8 neutral8_1, .int .u8 neutral8_2, neutral8_3.v]] w47 fun t116 w48 => sel (t116 == 0) (S4T kind0 t4 t4_0 t4_1 t4_2 t4_3 flat6 neutral8 neutral8_0 neutral8_1 neutral8_2 neutral8_3 decides9 decides9_0 decides9_1 decides9_2 decides9_3 out10 i11 w48 R) (sel (kind0 == 3) ((0 : Int) ≤ i11 ∧ i11 < ((flat6.n : Nat) : Int) ∧ optP flat6.a fun t123_p => ld4_0 w48 (t123_p.add (Int.toNat i11 * 4)) fun t124_0 t124_1 t124_2 t124_3 => nwV w48 (.cells #[.i t124_0, .int .u8 t124_1, .int .u8 t124_2, t124_3.v] ty_enthymemeref04_Regex) fun w49 => 
  ∃ (t126 : Sl) (w50 : World), Sem.run Tryz.prog (Builtin.append_ #[ty_sl_enthymemeref04_Regex, ty_sl_enthymemeref04_Regex] ty_sl_enthymemeref04_Regex #[out10.v, .slice (some (nb w48)) 1 1]) w49 = .ok (t126.v) w50 ∧ kept [t4, neutral8, decides9] w49 w50 ∧ S4T kind0 t4 t4_0 t4_1 t4_2 t4_3 flat6 neutral8 neutral8_0 neutral8_1 neutral8_2 neutral8_3 decides9 decides9_0 decides9_1 decides9_2 decides9_3 t126 i11 w50 R) ((0 : Int) ≤ i11 ∧ i11 < ((flat6.n : Nat) : Int) ∧ optP flat6.a fun t130_p => ld4_0 w48 (t130_p.add (Int.toNat i11 * 4)) fun t131_0 t131_1 t131_2 t131_3 => cf3 [t4, neutral8, decides9] n_enthymemeref04_put #[out10.v, .agg #[.i t131_0, .int .u8 t131_1, .int .u8 t131_2, t131_3.v]] w48 fun t132 w51 => S4T kind0 t4 t4_0 t4_1 t4_2 t4_3 flat6 neutral8 neutral8_0 neutral8_1 neutral8_2 neutral8_3 decides9 decides9_0 decides9_1 decides9_2 decides9_3 t132 i11 w51 R)))) (sel (((out10.n : Nat) : Int) == 0) (loc [t4, neutral8, decides9] w fun w55 => R (.returned (.agg #[.i neutral8_0, .int .u8 neutral8_1, .int .u8 neutral8_2, neutral8_3.v])) w55) (sel (((out10.n : Nat) : Int) == 1) ((0 : Int) ≤ 0 ∧ 0 < ((out10.n : Nat) : Int) ∧ optP out10.a fun t141_p => ld4_0 w (t141_p.add (Int.toNat 0 * 4)) fun t142_0 t142_1 t142_2 t142_3 => loc [t4, neutral8, decides9] w fun w59 => R (.returned (.agg #[.i t142_0, .int .u8 t142_1, .int .u8 t142_2, t142_3.v])) w59) (loc [t4, neutral8, decides9] w fun w63 => R (.returned (.agg #[.i kind0, .int .u8 0, .int .u8 0, out10.v])) w63)))), L3T kind0 t4 t4_0 t4_1 t4_2 t4_3 flat6 neutral8 neutral8_0 neutral8_1 neutral8_2 neutral8_3 decides9 decides9_0 decides9_1 decides9_2 decides9_3 out10 i11 w R := mp (stepL (X := X) [eS4, eL3, eS2, eL1, eS0] (pth [0, 1, 1, 1, 9]) P2)
theorem L1T_step : ∀ (kind0 : Int) (kids1 : Sl) (t4 : Nat) (t4_0 t4_1 t4_2 : Int) (t4_3 : Sl) (all5 : Nat) (all5_0 all5_1 all5_2 : Int) (all5_3 flat6 : Sl) (i7 : Int) (w : World) (R : Post) (h : sel (decide (i7 < ((kids1.n : Nat) : Int))) ((0 : Int) ≤ i7 ∧ i7 < ((kids1.n : Nat) : Int) ∧ optP kids1.a fun t62_p => ∃ t64 : Int, w.cell? ((t62_p.add (Int.toNat i7 * 4)).add 0) = some (.i t64) ∧ 
  sel (t64 == kind0) ((0 : Int) ≤ i7 ∧ i7 < ((kids1.n : Nat) : Int) ∧ optP kids1.a fun t70_p => ∃ t72 : Sl, w.cell? ((t70_p.add (Int.toNat i7 * 4)).add 3) = some (t72.v) ∧ 
  ∃ (t73 : Sl) (w26 : World), Sem.run Tryz.prog (Builtin.append_ #[ty_sl_enthymemeref04_Regex, ty_sl_enthymemeref04_Regex] ty_sl_enthymemeref04_Regex #[flat6.v, t72.v]) w = .ok (t73.v) w26 ∧ kept [t4, all5] w w26 ∧ S2T kind0 kids1 t4 t4_0 t4_1 t4_2 t4_3 all5 all5_0 all5_1 all5_2 all5_3 t73 i7 w26 R) ((0 : Int) ≤ i7 ∧ i7 < ((kids1.n : Nat) : Int) ∧ optP kids1.a fun t77_p => ld4_0 w (t77_p.add (Int.toNat i7 * 4)) fun t78_0 t78_1 t78_2 t78_3 => nwV w (.cells #[.i t78_0, .int .u8 t78_1, .int .u8 t78_2, t78_3.v] ty_enthymemeref04_Regex) fun w27 => 
  ∃ (t80 : Sl) (w28 : World), Sem.run Tryz.prog (Builtin.append_ #[ty_sl_enthymemeref04_Regex, ty_sl_enthymemeref04_Regex] ty_sl_enthymemeref04_Regex #[flat6.v, .slice (some (nb w)) 1 1]) w27 = .ok (t80.v) w28 ∧ kept [t4, all5] w27 w28 ∧ S2T kind0 kids1 t4 t4_0 t4_1 t4_2 t4_3 all5 all5_0 all5_1 all5_2 all5_3 t80 i7 w28 R)) (nwV w (.cells #[.i 1, .int .u8 0, .int .u8 0, .slice none 0 0, .i 0, .int .u8 0, .int .u8 0, .slice none 0 0, .i all5_0, .int .u8 all5_1, .int .u8 all5_2, all5_3.v] ty_enthymemeref04_Regex) fun w29 => 
  (0 : Int) ≤ (IntKind.wrap .i64 (kind0 - 3)) ∧ (IntKind.wrap .i64 (kind0 - 3)) < ((3 : Nat) : Int) ∧ optP (some (nb w)) fun t87_p => ld4_0 w29 (t87_p.add (Int.toNat (IntKind.wrap .i64 (kind0 - 3)) * 4)) fun t88_0 t88_1 t88_2 t88_3 => newV [t4, all5] w29 fun b8 w30 => 
  loc [t4, all5, b8] w30 fun w34 => nwV w34 (.cells #[.i 0, .int .u8 0, .int .u8 0, .slice none 0 0, .i all5_0, .int .u8 all5_1, .int .u8 all5_2, all5_3.v, .i 0, .int .u8 0, .int .u8 0, .slice none 0 0] ty_enthymemeref04_Regex) fun w35 => 
  (0 : Int) ≤ (IntKind.wrap .i64 (kind0 - 3)) ∧ (IntKind.wrap .i64 (kind0 - 3)) < ((3 : Nat) : Int) ∧ optP (some (nb w34)) fun t95_p => ld4_0 w35 (t95_p.add (Int.toNat (IntKind.wrap .i64 (kind0 - 3)) * 4)) fun t96_0 t96_1 t96_2 t96_3 => newV [t4, all5, b8] w35 fun b9 w36 => 
  loc [t4, all5, b8, b9] w36 fun w40 => L3T kind0 t4 t4_0 t4_1 t4_2 t4_3 flat6 b8 t88_0 t88_1 t88_2 t88_3 b9 t96_0 t96_1 t96_2 t96_3 ⟨none, 0, 0⟩ 0 w40 R)), L1T kind0 kids1 t4 t4_0 t4_1 t4_2 t4_3 all5 all5_0 all5_1 all5_2 all5_3 flat6 i7 w R := mp (stepL (X := X) [eS4, eL3, eS2, eL1, eS0] (pth [0, 1, 1, 1, 5]) P1)
theorem okT (kind0 : Int) (kids1 : Sl) (w : World) (R : Post) (h : newV [] w fun b4 w1 => 
  cf2 [b4] n_enthymemeref04_Everything #[] w1 fun t12_0 t12_1 t12_2 t12_3 w2 => newV [b4] w2 fun b5 w3 => 
  sel (kind0 == 6) ((0 : Int) ≤ 0 ∧ 0 < ((kids1.n : Nat) : Int) ∧ optP kids1.a fun t16_p => loc [b4, b5] w3 fun w7 => ∃ t18 : Int, w7.cell? ((t16_p.add (Int.toNat 0 * 4)).add 0) = some (.i t18) ∧ 
  sel (t18 == 6) ((0 : Int) ≤ 0 ∧ 0 < ((kids1.n : Nat) : Int) ∧ optP kids1.a fun t21_p => ∃ t23 : Sl, w7.cell? ((t21_p.add (Int.toNat 0 * 4)).add 3) = some (t23.v) ∧ 
  (0 : Int) ≤ 0 ∧ 0 < ((t23.n : Nat) : Int) ∧ optP t23.a fun t24_p => ld4_0 w7 (t24_p.add (Int.toNat 0 * 4)) fun t25_0 t25_1 t25_2 t25_3 => loc [b4, b5] w7 fun w11 => R (.returned (.agg #[.i t25_0, .int .u8 t25_1, .int .u8 t25_2, t25_3.v])) w11) (loc [b4, b5] w7 fun w15 => R (.returned (.agg #[.i 6, .int .u8 0, .int .u8 0, kids1.v])) w15)) (sel (kind0 == 7) ((0 : Int) ≤ 0 ∧ 0 < ((kids1.n : Nat) : Int) ∧ optP kids1.a fun t31_p => loc [b4, b5] w3 fun w7 => ∃ t33 : Int, w7.cell? ((t31_p.add (Int.toNat 0 * 4)).add 0) = some (.i t33) ∧ 
  sel (decide (t33 < 2)) (loc [b4, b5] w7 fun w19 => R (.returned (.agg #[.i 1, .int .u8 0, .int .u8 0, .slice none 0 0])) w19) ((0 : Int) ≤ 0 ∧ 0 < ((kids1.n : Nat) : Int) ∧ optP kids1.a fun t37_p => loc [b4, b5] w7 fun w20 => ∃ t39 : Int, w20.cell? ((t37_p.add (Int.toNat 0 * 4)).add 0) = some (.i t39) ∧ 
  sel (t39 == 7) (S0T kids1 b4 0 0 0 ⟨none, 0, 0⟩ w20 R) ((0 : Int) ≤ 0 ∧ 0 < ((kids1.n : Nat) : Int) ∧ optP kids1.a fun t43_p => ld4_0 w20 (t43_p.add (Int.toNat 0 * 4)) fun t44_0 t44_1 t44_2 t44_3 => cf0 [b4, b5] n_enthymemeref04_Compare #[.agg #[.i t44_0, .int .u8 t44_1, .int .u8 t44_2, t44_3.v], .agg #[.i t12_0, .int .u8 t12_1, .int .u8 t12_2, t12_3.v]] w20 fun t46 w21 => sel (t46 == 0) (S0T kids1 b4 0 0 0 ⟨none, 0, 0⟩ w21 R) (loc [b4, b5] w21 fun w25 => R (.returned (.agg #[.i 7, .int .u8 0, .int .u8 0, kids1.v])) w25)))) (loc [b4, b5] w3 fun w7 => L1T kind0 kids1 b4 0 0 0 ⟨none, 0, 0⟩ b5 t12_0 t12_1 t12_2 t12_3 ⟨none, 0, 0⟩ 0 w7 R))) : Calls Tryz.prog n_enthymemeref04_normal #[.i kind0, kids1.v] w R := callsX X [eS4, eL3, eS2, eL1, eS0] h
end enthymemeref04_normal
namespace enthymemeref04_simple
noncomputable abbrev X : Fx := ⟨Tryz.prog, Tryz.f28, [], [1, 2]⟩
abbrev P0 : Ps := [(1, .l [.I, .Y, .Y, .s] ty_enthymemeref04_Regex), (2, .l [.I, .Y, .Y, .s] ty_enthymemeref04_Regex), (3, .v [.s]), (4, .v [.I])]
def L0T (r1 : Nat) (r1_0 r1_1 r1_2 : Int) (r1_3 : Sl) (t2 : Nat) (t2_0 t2_1 t2_2 : Int) (t2_3 kids3 : Sl) (i4 : Int) (w : World) (R : Post) : Prop := mkCur P0 0 (X.Sem (pth [0, 1, 1, 1, 3])) r1 r1_0 r1_1 r1_2 r1_3 t2 t2_0 t2_1 t2_2 t2_3 kids3 i4 w R
noncomputable def eL0 := entL X (pth [0, 1, 1, 1, 3]) P0 L0T
theorem L0T_step : ∀ (r1 : Nat) (r1_0 r1_1 r1_2 : Int) (r1_3 : Sl) (t2 : Nat) (t2_0 t2_1 t2_2 : Int) (t2_3 kids3 : Sl) (i4 : Int) (w : World) (R : Post) (h : sel (decide (i4 < ((r1_3.n : Nat) : Int))) ((0 : Int) ≤ i4 ∧ i4 < ((r1_3.n : Nat) : Int) ∧ optP r1_3.a fun t20_p => ld4_0 w (t20_p.add (Int.toNat i4 * 4)) fun t21_0 t21_1 t21_2 t21_3 => cf2 [r1, t2] n_enthymemeref04_simple #[.agg #[.i t21_0, .int .u8 t21_1, .int .u8 t21_2, t21_3.v]] w fun t22_0 t22_1 t22_2 t22_3 w7 => nwV w7 (.cells #[.i t22_0, .int .u8 t22_1, .int .u8 t22_2, t22_3.v] ty_enthymemeref04_Regex) fun w8 => 
  ∃ (t24 : Sl) (w9 : World), Sem.run Tryz.prog (Builtin.append_ #[ty_sl_enthymemeref04_Regex, ty_sl_enthymemeref04_Regex] ty_sl_enthymemeref04_Regex #[kids3.v, .slice (some (nb w7)) 1 1]) w8 = .ok (t24.v) w9 ∧ kept [r1, t2] w8 w9 ∧ L0T r1 r1_0 r1_1 r1_2 r1_3 t2 t2_0 t2_1 t2_2 t2_3 t24 (IntKind.wrap .i64 (i4 + 1)) w9 R) (cf2 [r1, t2] n_enthymemeref04_normal #[.i r1_0, kids3.v] w fun t28_0 t28_1 t28_2 t28_3 w10 => loc [r1, t2] w10 fun w14 => R (.returned (.agg #[.i t28_0, .int .u8 t28_1, .int .u8 t28_2, t28_3.v])) w14)), L0T r1 r1_0 r1_1 r1_2 r1_3 t2 t2_0 t2_1 t2_2 t2_3 kids3 i4 w R := mp (stepL (X := X) [eL0] (pth [0, 1, 1, 1, 3]) P0)
theorem okT (r0_0 r0_1 r0_2 : Int) (r0_3 : Sl) (w : World) (R : Post) (h : newV [] w fun b1 w1 => 
  newV [b1] w1 fun b2 w2 => 
  sel (decide (r0_0 < 3)) (loc [b1, b2] w2 fun w6 => R (.returned (.agg #[.i r0_0, .int .u8 r0_1, .int .u8 r0_2, r0_3.v])) w6) (L0T b1 r0_0 r0_1 r0_2 r0_3 b2 0 0 0 ⟨none, 0, 0⟩ ⟨none, 0, 0⟩ 0 w2 R)) : Calls Tryz.prog n_enthymemeref04_simple #[.agg #[.i r0_0, .int .u8 r0_1, .int .u8 r0_2, r0_3.v]] w R := callsX X [eL0] h
end enthymemeref04_simple
namespace enthymemeref04_few
noncomputable abbrev X : Fx := ⟨Tryz.prog, Tryz.f27, [], [1, 2]⟩
theorem okT (r0_0 r0_1 r0_2 : Int) (r0_3 : Sl) (w : World) (R : Post) (h : newV [] w fun b1 w1 => 
  newV [b1] w1 fun b2 w2 => 
  cf0 [b1, b2] n_enthymemeref04_Nodes #[.agg #[.i r0_0, .int .u8 r0_1, .int .u8 r0_2, r0_3.v]] w2 fun t5 w3 => sel (decide (t5 > 64)) (loc [b1, b2] w3 fun w7 => R (.returned (.tuple #[.agg #[.i 0, .int .u8 0, .int .u8 0, .slice none 0 0], .i 4])) w7) (loc [b1, b2] w3 fun w11 => R (.returned (.tuple #[.agg #[.i r0_0, .int .u8 r0_1, .int .u8 r0_2, r0_3.v], .i 0])) w11)) : Calls Tryz.prog n_enthymemeref04_few #[.agg #[.i r0_0, .int .u8 r0_1, .int .u8 r0_2, r0_3.v]] w R := callsX X [] h
end enthymemeref04_few
namespace enthymemeref04_Normal
noncomputable abbrev X : Fx := ⟨Tryz.prog, Tryz.f9, [], [1, 2]⟩
theorem okT (r0_0 r0_1 r0_2 : Int) (r0_3 : Sl) (w : World) (R : Post) (h : newV [] w fun b1 w1 => 
  newV [b1] w1 fun b2 w2 => 
  cf0 [b1, b2] n_enthymemeref04_Valid #[.agg #[.i r0_0, .int .u8 r0_1, .int .u8 r0_2, r0_3.v]] w2 fun t6 w3 => sel (t6 != 0) (loc [b1, b2] w3 fun w7 => R (.returned (.tuple #[.agg #[.i 0, .int .u8 0, .int .u8 0, .slice none 0 0], .i t6])) w7) (cf2 [b1, b2] n_enthymemeref04_simple #[.agg #[.i r0_0, .int .u8 r0_1, .int .u8 r0_2, r0_3.v]] w3 fun t12_0 t12_1 t12_2 t12_3 w8 => cf6 [b1, b2] n_enthymemeref04_few #[.agg #[.i t12_0, .int .u8 t12_1, .int .u8 t12_2, t12_3.v]] w8 fun t13_0_0 t13_0_1 t13_0_2 t13_0_3 t13_1 w9 => loc [b1, b2] w9 fun w13 => R (.returned (.tuple #[.agg #[.i t13_0_0, .int .u8 t13_0_1, .int .u8 t13_0_2, t13_0_3.v], .i t13_1])) w13)) : Calls Tryz.prog n_enthymemeref04_Normal #[.agg #[.i r0_0, .int .u8 r0_1, .int .u8 r0_2, r0_3.v]] w R := callsX X [] h
end enthymemeref04_Normal
end Go.Proofs.YtknlbofiicflgaaGreat

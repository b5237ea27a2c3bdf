/- Printed by a program of ours (vcgen.py) from the dump: the conditions of the functions, and that they suffice. -/
import Derived.Test.YtjjhfdjpmonlaaaVQ
import Derived.Test.YtjjhfdjpmonlaaaY
set_option linter.unusedVariables false
set_option maxRecDepth 100000
set_option maxHeartbeats 2000000
namespace Go.Proofs.Ytjjhfdjpmonlaaa
open Go Go.W
namespace enthymemeref06_Sort
noncomputable def C0 : Code := (Try.f38.body).getD .skip
noncomputable def C1:=C0.sn
noncomputable def C2:=C1.sn
noncomputable def C3:=C2.sn
noncomputable def C4:=C3.sn
noncomputable def C5:=C4.sn
abbrev Q0 (R : Post) : Exit → Act → World → Prop := (bodyPost Try.prog Try.f38 R)
noncomputable def C6:=C5.sn
/-- ref.go:283 -/
abbrev S2 (t2 out4 : Addr) (w : World) (R : Post) : Prop :=
  ∃ t40_0 : Int, ∃ t40_1 : Int, ∃ t40_2 : Int, w.cell? (out4.add 0) = some (.i t40_0) ∧ w.cell? (out4.add 1) = some (.i t40_1) ∧ w.cell? (out4.add 2) = some (.i t40_2) ∧ 
  stV w t2 (.i t40_0) fun w1 => 
  stV w1 (t2.add 1) (.i t40_1) fun w2 => 
  stV w2 (t2.add 2) (.i t40_2) fun w3 => 
  ∃ r2_0 : Int, ∃ r2_1 : Int, ∃ r2_2 : Int, w3.cell? (t2.add 0) = some (.i r2_0) ∧ w3.cell? (t2.add 1) = some (.i r2_1) ∧ w3.cell? (t2.add 2) = some (.i r2_2) ∧ 
  R (.returned (.agg #[.i r2_0, .i r2_1, .i r2_2])) w3
def KE_S2 (E : Env) (w : World) (R : Post) : Prop := asRef (Env.get? E 2) fun t2 => asRef (Env.get? E 4) fun out4 => S2 t2 out4 w R
theorem KE_S2_ok (R : Post) (E : Env) (w : World) (h : KE_S2 E w R) : WP Try.prog (cx 41) C5 (Q0 R) E w := by
  obtain ⟨t2, hq2, h_1⟩ := asRef_elim h
  obtain ⟨out4, hq4, h_2⟩ := asRef_elim h_1
  exact fun a ha => WP.at (E := [(2, .pointer (some t2)), (4, .pointer (some out4))]) (sr C5 (K := fun E w => retVC Try.prog Try.f38 E w (fun v => R (.returned v) w)) (Eq.mp (by kernel_rfl) h_2) fun _ _ hK => (rt C6 fun a hA => retVC_sound hA hK)) (ha.cons hq2 (ha.cons hq4 ha.nil))
noncomputable def C7:=C4.fs
noncomputable def C8:=C7.sn
noncomputable def C9:=C8.fs
abbrev Q1 (R : Post) : Exit → Act → World → Prop := (Exit.then (wpx Try.prog (cx 41) C5 (bodyPost Try.prog Try.f38 R)) (bodyPost Try.prog Try.f38 R))
/-- ref.go:281 -/
abbrev S1 (t2 out4 : Addr) (w : World) (R : Post) : Prop :=
  stV w (out4.add 1) (.i 0) fun w1 => 
  S2 t2 out4 w1 R
def KE_S1 (E : Env) (w : World) (R : Post) : Prop := asRef (Env.get? E 2) fun t2 => asRef (Env.get? E 4) fun out4 => S1 t2 out4 w R
theorem KE_S1_ok (R : Post) (E : Env) (w : World) (h : KE_S1 E w R) : WP Try.prog (cx 41) C9 (Q1 R) E w := by
  obtain ⟨t2, hq2, h_1⟩ := asRef_elim h
  obtain ⟨out4, hq4, h_2⟩ := asRef_elim h_1
  exact fun a ha => WP.at (E := [(2, .pointer (some t2)), (4, .pointer (some out4))]) (rg C9 (K := fun E w => KE_S2 E w R) (by kernel_rfl) (Eq.mp (by kernel_rfl) h_2) fun _ _ a hA hK => nx hA (KE_S2_ok R _ _ hK)) (ha.cons hq2 (ha.cons hq4 ha.nil))
noncomputable def C10:=C8.sn
/-- ref.go:280 -/
abbrev S0 (t2 : Addr) (k3 : Int) (out4 : Addr) (w : World) (R : Post) : Prop :=
  sel ((Int.tmod (IntKind.wrap .i64 (Int.tdiv k3 120)) 9) == 0) (∃ t31 : Int, w.cell? (out4.add 0) = some (.i t31) ∧ 
  sel (t31 == 1) (S1 t2 out4 w R) (∃ t35 : Int, w.cell? (out4.add 0) = some (.i t35) ∧ 
  sel (t35 == 3) (S1 t2 out4 w R) (S2 t2 out4 w R))) (S2 t2 out4 w R)
def KE_S0 (E : Env) (w : World) (R : Post) : Prop := asRef (Env.get? E 2) fun t2 => W.asInt .i64 (Env.get? E 3) fun k3 => asRef (Env.get? E 4) fun out4 => S0 t2 k3 out4 w R
theorem KE_S0_ok (R : Post) (E : Env) (w : World) (h : KE_S0 E w R) : WP Try.prog (cx 41) C7 (Q1 R) E w := by
  obtain ⟨t2, hq2, h_1⟩ := asRef_elim h
  obtain ⟨k3, hq3, h_2⟩ := asInt_elim h_1
  obtain ⟨out4, hq4, h_3⟩ := asRef_elim h_2
  exact fun a ha => WP.at (E := [(2, .pointer (some t2)), (3, .i k3), (4, .pointer (some out4))]) (sr C7 (K := fun E w => condK (Env.val E (.tmp 38)) (KE_S1 E w R) (KE_S2 E w R)) (Eq.mp (by kernel_rfl) h_3) fun _ _ hK => (cn C8 hK (fun hK => (KE_S1_ok R _ _ hK)) (fun hK => (sk C10 fun a hA => nx hA (KE_S2_ok R _ _ hK))))) (ha.cons hq2 (ha.cons hq3 (ha.cons hq4 ha.nil)))
/-- enthymeme/enthymemeref06.Sort -/
noncomputable def C11:=C3.fs
noncomputable def C12:=C11.sn
noncomputable def C13:=C12.fs
noncomputable def C14:=C12.sn
theorem ok (n0 : Int) (w : World) (R : Post) (h : nwV w (.cells #[.i 0, .i 0, .i 0] ty_api_Sort) fun w1 => 
  Calls Try.prog n_enthymemeref01_Around #[.i n0, .i 1048576] w1 fun r_ w2 => ∃ t6 : Int, r_ = .returned (.i t6) ∧ 
  nwV w2 (.cells #[.i 1, .i 2, .i 3, .i 4, .i 8, .i 64] ty_int) fun w3 => 
  (0 : Int) ≤ (Int.tmod (IntKind.wrap .i64 (Int.tdiv t6 4)) 6) ∧ (Int.tmod (IntKind.wrap .i64 (Int.tdiv t6 4)) 6) < ((6 : Nat) : Int) ∧ optP (some (nb w2)) fun t13_p => ∃ t14 : Int, w3.cell? (t13_p.add (Int.toNat (Int.tmod (IntKind.wrap .i64 (Int.tdiv t6 4)) 6) * 1)) = some (.i t14) ∧ 
  nwV w3 (.cells #[.i 0, .i 0, .i 0] ty_api_Sort) fun w4 => 
  stV w4 (nb w3) (.i (Int.tmod t6 4)) fun w5 => 
  stV w5 ((nb w3).add 1) (.i t14) fun w6 => 
  stV w6 ((nb w3).add 2) (.i 0) fun w7 => 
  ∃ t16_0 : Int, ∃ t16_1 : Int, ∃ t16_2 : Int, w7.cell? ((nb w3).add 0) = some (.i t16_0) ∧ w7.cell? ((nb w3).add 1) = some (.i t16_1) ∧ w7.cell? ((nb w3).add 2) = some (.i t16_2) ∧ 
  Calls Try.prog n_enthymemeref06_Array #[.agg #[.i t16_0, .i t16_1, .i t16_2]] w7 fun r_ w8 => ∃ t17 : Bool, r_ = .returned (.bool t17) ∧ 
  sel t17 (nwV w8 (.cells #[.i 1, .i 2, .i 2, .i 3, .i 16] ty_int) fun w9 => 
  (0 : Int) ≤ (Int.tmod (IntKind.wrap .i64 (Int.tdiv t6 24)) 5) ∧ (Int.tmod (IntKind.wrap .i64 (Int.tdiv t6 24)) 5) < ((5 : Nat) : Int) ∧ optP (some (nb w8)) fun t22_p => ∃ t23 : Int, w9.cell? (t22_p.add (Int.toNat (Int.tmod (IntKind.wrap .i64 (Int.tdiv t6 24)) 5) * 1)) = some (.i t23) ∧ 
  stV w9 ((nb w3).add 2) (.i t23) fun w10 => 
  S0 (nb w) t6 (nb w3) w10 R) (S0 (nb w) t6 (nb w3) w8 R)) : Calls Try.prog n_enthymemeref06_Sort #[.i n0] w R :=
  calls_of_WP' (R := R) (fn := Try.f38) (c := C0) (args := [.i n0]) (by kernel_rfl) (by kernel_rfl) (by kernel_rfl) (sr C0 (show (fun (E : Env) (w : World) => srK Try.prog C0 (fun E w => srK Try.prog C1 (fun E w => srK Try.prog C2 (fun E w => srK Try.prog C11 (fun E w => condK (Env.val E (.tmp 17)) (rgK Try.prog C13 (fun E w => KE_S0 E w R) E w) (KE_S0 E w R)) E w) E w) E w) E w) (envOf 0 [.i n0]) w from Eq.mp (by kernel_rfl) h) fun _ _ hK => (sr C1 hK fun _ _ hK => (sr C2 hK fun _ _ hK => (sq C3 (sr C11 hK fun _ _ hK => (cn C12 hK (fun hK => (rg C13 (by kernel_rfl) hK fun _ _ a hA hK => nx hA (sq C4 (KE_S0_ok R _ _ hK)))) (fun hK => (sk C14 fun a hA => nx hA (sq C4 (KE_S0_ok R _ _ hK))))))))))
abbrev S2T (t2 : Nat) (t2_0 t2_1 t2_2 : Int) (out4 : Nat) (out4_0 out4_1 out4_2 : Int) (w : World) (R : Post) : Prop :=
  loc [t2, out4] w fun w3 => R (.returned (.agg #[.i out4_0, .i out4_1, .i out4_2])) w3
theorem S2T_ok {t2 : Nat} {t2_0 t2_1 t2_2 : Int} {out4 : Nat} {out4_0 out4_1 out4_2 : Int} {w : World} {R : Post} (h : S2T t2 t2_0 t2_1 t2_2 out4 out4_0 out4_1 out4_2 w R) (H : LC w [(t2, [.i t2_0, .i t2_1, .i t2_2], ty_api_Sort), (out4, [.i out4_0, .i out4_1, .i out4_2], ty_api_Sort)]) : S2 (at0 t2) (at0 out4) w R := ⟨_, _, _, H.ld 1 0, H.ld 1 1, H.ld 1 2, LC.stT0 H 0 (Fr.refl _ _) rfl rfl fun w1 H f => LC.stT H 0 1 f rfl rfl fun w2 H f => LC.stT H 0 2 f rfl rfl fun w3 (H : LC w3 [(t2, [.i out4_0, .i out4_1, .i out4_2], ty_api_Sort), (out4, [.i out4_0, .i out4_1, .i out4_2], ty_api_Sort)]) (f : Fr (· ∈ [t2, out4]) _ w3) => ⟨_, _, _, H.ld 0 0, H.ld 0 1, H.ld 0 2, have h := h _ f; h⟩⟩
abbrev S1T (t2 : Nat) (t2_0 t2_1 t2_2 : Int) (out4 : Nat) (out4_0 out4_1 out4_2 : Int) (w : World) (R : Post) : Prop :=
  loc [t2, out4] w fun w1 => S2T t2 t2_0 t2_1 t2_2 out4 out4_0 0 out4_2 w1 R
theorem S1T_ok {t2 : Nat} {t2_0 t2_1 t2_2 : Int} {out4 : Nat} {out4_0 out4_1 out4_2 : Int} {w : World} {R : Post} (h : S1T t2 t2_0 t2_1 t2_2 out4 out4_0 out4_1 out4_2 w R) (H : LC w [(t2, [.i t2_0, .i t2_1, .i t2_2], ty_api_Sort), (out4, [.i out4_0, .i out4_1, .i out4_2], ty_api_Sort)]) : S1 (at0 t2) (at0 out4) w R := LC.stT H 1 1 (Fr.refl _ _) rfl rfl fun w1 (H : LC w1 [(t2, [.i t2_0, .i t2_1, .i t2_2], ty_api_Sort), (out4, [.i out4_0, .i 0, .i out4_2], ty_api_Sort)]) (f : Fr (· ∈ [t2, out4]) _ w1) => have h := h _ f; S2T_ok h H
abbrev S0T (t2 : Nat) (t2_0 t2_1 t2_2 k3 : Int) (out4 : Nat) (out4_0 out4_1 out4_2 : Int) (w : World) (R : Post) : Prop :=
  sel ((Int.tmod (IntKind.wrap .i64 (Int.tdiv k3 120)) 9) == 0) (sel (out4_0 == 1) (S1T t2 t2_0 t2_1 t2_2 out4 out4_0 out4_1 out4_2 w R) (sel (out4_0 == 3) (S1T t2 t2_0 t2_1 t2_2 out4 out4_0 out4_1 out4_2 w R) (S2T t2 t2_0 t2_1 t2_2 out4 out4_0 out4_1 out4_2 w R))) (S2T t2 t2_0 t2_1 t2_2 out4 out4_0 out4_1 out4_2 w R)
theorem S0T_ok {t2 : Nat} {t2_0 t2_1 t2_2 k3 : Int} {out4 : Nat} {out4_0 out4_1 out4_2 : Int} {w : World} {R : Post} (h : S0T t2 t2_0 t2_1 t2_2 k3 out4 out4_0 out4_1 out4_2 w R) (H : LC w [(t2, [.i t2_0, .i t2_1, .i t2_2], ty_api_Sort), (out4, [.i out4_0, .i out4_1, .i out4_2], ty_api_Sort)]) : S0 (at0 t2) k3 (at0 out4) w R := sel_imp h (fun h => ⟨_, H.ld 1 0, sel_imp h (fun h => S1T_ok h H) (fun h => ⟨_, H.ld 1 0, sel_imp h (fun h => S1T_ok h H) (fun h => S2T_ok h H)⟩)⟩) (fun h => S2T_ok h H)
theorem okT (n0 : Int) (w : World) (R : Post) (h : newV [] w fun b2 w1 => 
  callF [b2] Try.prog n_enthymemeref01_Around #[.i n0, .i 1048576] w1 fun r_ w2 => ∃ t6 : Int, r_ = .returned (.i t6) ∧ 
  nwV w2 (.cells #[.i 1, .i 2, .i 3, .i 4, .i 8, .i 64] ty_int) fun w3 => 
  (0 : Int) ≤ (Int.tmod (IntKind.wrap .i64 (Int.tdiv t6 4)) 6) ∧ (Int.tmod (IntKind.wrap .i64 (Int.tdiv t6 4)) 6) < ((6 : Nat) : Int) ∧ optP (some (nb w2)) fun t13_p => ∃ t14 : Int, w3.cell? (t13_p.add (Int.toNat (Int.tmod (IntKind.wrap .i64 (Int.tdiv t6 4)) 6) * 1)) = some (.i t14) ∧ 
  newV [b2] w3 fun b4 w4 => 
  loc [b2, b4] w4 fun w7 => callF [b2, b4] Try.prog n_enthymemeref06_Array #[.agg #[.i (Int.tmod t6 4), .i t14, .i 0]] w7 fun r_ w8 => ∃ t17 : Bool, r_ = .returned (.bool t17) ∧ 
  sel t17 (nwV w8 (.cells #[.i 1, .i 2, .i 2, .i 3, .i 16] ty_int) fun w9 => 
  (0 : Int) ≤ (Int.tmod (IntKind.wrap .i64 (Int.tdiv t6 24)) 5) ∧ (Int.tmod (IntKind.wrap .i64 (Int.tdiv t6 24)) 5) < ((5 : Nat) : Int) ∧ optP (some (nb w8)) fun t22_p => ∃ t23 : Int, w9.cell? (t22_p.add (Int.toNat (Int.tmod (IntKind.wrap .i64 (Int.tdiv t6 24)) 5) * 1)) = some (.i t23) ∧ 
  loc [b2, b4] w9 fun w10 => S0T b2 0 0 0 t6 b4 (Int.tmod t6 4) t14 t23 w10 R) (S0T b2 0 0 0 t6 b4 (Int.tmod t6 4) t14 0 w8 R)) : Calls Try.prog n_enthymemeref06_Sort #[.i n0] w R :=
  ok _ w R (LC.nwT (LC.nil _) (Fr.refl _ _) h fun w1 H h => LC.callT H h fun r_ w2 H h => let ⟨t6, hr, h⟩ := h; ⟨t6, hr, LC.nwN H h fun w3 H h => ⟨h.1, h.2.1, have h := h.2.2; optP_imp h fun t13_p h => let ⟨t14, hc0, h⟩ := h; ⟨t14, hc0, LC.nwT H (Fr.refl _ _) h fun w4 H h => LC.stT0 H 1 (Fr.refl _ _) rfl rfl fun w5 H f => LC.stT H 1 1 f rfl rfl fun w6 H f => LC.stT H 1 2 f rfl rfl fun w7 (H : LC w7 [(w.heap.size, [.i 0, .i 0, .i 0], ty_api_Sort), (w3.heap.size, [.i (Int.tmod t6 4), .i t14, .i 0], ty_api_Sort)]) (f : Fr (· ∈ [w.heap.size, w3.heap.size]) _ w7) => ⟨_, _, _, H.ld 1 0, H.ld 1 1, H.ld 1 2, have h := h _ f; LC.callT H h fun r_ w8 H h => let ⟨t17, hr, h⟩ := h; ⟨t17, hr, sel_imp h (fun h => LC.nwN H h fun w9 H h => ⟨h.1, h.2.1, have h := h.2.2; optP_imp h fun t22_p h => let ⟨t23, hc0, h⟩ := h; ⟨t23, hc0, LC.stT H 1 2 (Fr.refl _ _) rfl rfl fun w10 (H : LC w10 [(w.heap.size, [.i 0, .i 0, .i 0], ty_api_Sort), (w3.heap.size, [.i (Int.tmod t6 4), .i t14, .i t23], ty_api_Sort)]) (f : Fr (· ∈ [w.heap.size, w3.heap.size]) _ w10) => have h := h _ f; S0T_ok h H⟩⟩) (fun h => S0T_ok h H)⟩⟩⟩⟩⟩)
end enthymemeref06_Sort
namespace enthymemeref06_Bits
noncomputable def C0 : Code := (Try.f45.body).getD .skip
noncomputable def C1:=C0.sn
noncomputable def C2:=C1.sn
noncomputable def C3:=C2.sn
noncomputable def C4:=C3.sn
abbrev Q0 (R : Post) : Exit → Act → World → Prop := (bodyPost Try.prog Try.f45 R)
noncomputable def C5:=C4.sn
/-- ref.go:295 -/
abbrev S1 (k5 : Int) (w : World) (R : Post) : Prop :=
  R (.returned (.u k5)) w
def KE_S1 (E : Env) (w : World) (R : Post) : Prop := W.asInt .u64 (Env.get? E 5) fun k5 => S1 k5 w R
theorem KE_S1_ok (R : Post) (E : Env) (w : World) (h : KE_S1 E w R) : WP Try.prog (cx 24) C4 (Q0 R) E w := by
  obtain ⟨k5, hq5, h_1⟩ := asInt_elim h
  exact fun a ha => WP.at (E := [(5, .u k5)]) (sr C4 (K := fun E w => retVC Try.prog Try.f45 E w (fun v => R (.returned v) w)) (Eq.mp (by kernel_rfl) h_1) fun _ _ hK => (rt C5 fun a hA => retVC_sound hA hK)) (ha.cons hq5 ha.nil)
noncomputable def C6:=C3.fs
abbrev Q1 (R : Post) : Exit → Act → World → Prop := (Exit.then (wpx Try.prog (cx 24) C4 (bodyPost Try.prog Try.f45 R)) (bodyPost Try.prog Try.f45 R))
noncomputable def C7:=C6.sn
noncomputable def C8:=C7.fs
noncomputable def C9:=C7.sn
/-- ref.go:292 -/
abbrev S0 (bits1 k5 : Int) (w : World) (R : Post) : Prop :=
  sel (decide (bits1 < 64)) (¬ (IntKind.wrap .u64 bits1) < 0 ∧ (IntKind.wrap .u64 (1 * 2 ^ (min (Int.toNat (IntKind.wrap .u64 bits1)) (IntKind.bits .u64)))) ≠ 0 ∧ S1 (Int.tmod k5 (IntKind.wrap .u64 (1 * 2 ^ (min (Int.toNat (IntKind.wrap .u64 bits1)) (IntKind.bits .u64))))) w R) (S1 k5 w R)
def KE_S0 (E : Env) (w : World) (R : Post) : Prop := W.asInt .i64 (Env.get? E 1) fun bits1 => W.asInt .u64 (Env.get? E 5) fun k5 => S0 bits1 k5 w R
theorem KE_S0_ok (R : Post) (E : Env) (w : World) (h : KE_S0 E w R) : WP Try.prog (cx 24) C6 (Q1 R) E w := by
  obtain ⟨bits1, hq1, h_1⟩ := asInt_elim h
  obtain ⟨k5, hq5, h_2⟩ := asInt_elim h_1
  exact fun a ha => WP.at (E := [(1, .i bits1), (5, .u k5)]) (sr C6 (K := fun E w => condK (Env.val E (.tmp 17)) (rgK Try.prog C8 (fun E w => KE_S1 E w R) E w) (KE_S1 E w R)) (Eq.mp (by kernel_rfl) h_2) fun _ _ hK => (cn C7 hK (fun hK => (rg C8 (by kernel_rfl) hK fun _ _ a hA hK => nx hA (KE_S1_ok R _ _ hK))) (fun hK => (sk C9 fun a hA => nx hA (KE_S1_ok R _ _ hK))))) (ha.cons hq1 (ha.cons hq5 ha.nil))
/-- enthymeme/enthymemeref06.Bits -/
noncomputable def C10:=C2.fs
noncomputable def C11:=C10.sn
noncomputable def C12:=C11.fs
noncomputable def C13:=C11.sn
theorem ok (n0 bits1 : Int) (w : World) (R : Post) (h : Calls Try.prog n_enthymemeref01_Around #[.i n0, .i 1073741824] w fun r_ w1 => ∃ t7 : Int, r_ = .returned (.i t7) ∧ 
  sel ((Int.tmod (IntKind.wrap .u64 t7) 5) == 0) (S0 bits1 (IntKind.wrap .u64 (18446744073709551615 - (Int.tmod (IntKind.wrap .u64 (Int.tdiv (IntKind.wrap .u64 t7) 5)) 3))) w1 R) (S0 bits1 (IntKind.wrap .u64 t7) w1 R)) : Calls Try.prog n_enthymemeref06_Bits #[.i n0, .i bits1] w R :=
  calls_of_WP' (R := R) (fn := Try.f45) (c := C0) (args := [.i n0, .i bits1]) (by kernel_rfl) (by kernel_rfl) (by kernel_rfl) (sr C0 (show (fun (E : Env) (w : World) => srK Try.prog C0 (fun E w => srK Try.prog C1 (fun E w => srK Try.prog C10 (fun E w => condK (Env.val E (.tmp 11)) (rgK Try.prog C12 (fun E w => KE_S0 E w R) E w) (KE_S0 E w R)) E w) E w) E w) (envOf 0 [.i n0, .i bits1]) w from Eq.mp (by kernel_rfl) h) fun _ _ hK => (sr C1 hK fun _ _ hK => (sq C2 (sr C10 hK fun _ _ hK => (cn C11 hK (fun hK => (rg C12 (by kernel_rfl) hK fun _ _ a hA hK => nx hA (sq C3 (KE_S0_ok R _ _ hK)))) (fun hK => (sk C13 fun a hA => nx hA (sq C3 (KE_S0_ok R _ _ hK)))))))))
end enthymemeref06_Bits
namespace enthymemeref06_Short
noncomputable def C0 : Code := (Try.f47.body).getD .skip
noncomputable def C1:=C0.sn
noncomputable def C2:=C1.sn
noncomputable def C3:=C2.sn
noncomputable def C4:=C3.fs
noncomputable def C5:=C4.sn
noncomputable def C6:=C5.fs
noncomputable def C7:=C6.fs
noncomputable def C8:=C3.sn
abbrev Q0 (R : Post) : Exit → Act → World → Prop := (Exit.then (wpx Try.prog (cx 33) C8 (bodyPost Try.prog Try.f47 R)) (bodyPost Try.prog Try.f47 R))
abbrev Q1 (R : Post) : Exit → Act → World → Prop := (Exit.inBlock 0 (Q0 R))
/-- the head of the loop, ref.go:302 -/
def L0 (most1 k5 : Int) (out6 : ByteArray) (i7 : Int) (w : World) (R : Post) : Prop := LP Try.prog (cx 33) C7 (Q1 R) [(1, .i most1), (5, .i k5), (6, .string out6), (7, .i i7)] w
def KE_L0 (E : Env) (w : World) (R : Post) : Prop := W.asInt .i64 (Env.get? E 1) fun most1 => W.asInt .i64 (Env.get? E 5) fun k5 => asStr (Env.get? E 6) fun out6 => W.asInt .i64 (Env.get? E 7) fun i7 => L0 most1 k5 out6 i7 w R
theorem KE_L0_ok (R : Post) (E : Env) (w : World) (h : KE_L0 E w R) : LP Try.prog (cx 33) C7 (Q1 R) E w := by
  obtain ⟨most1, hq1, h_1⟩ := asInt_elim h
  obtain ⟨k5, hq5, h_2⟩ := asInt_elim h_1
  obtain ⟨out6, hq6, h_3⟩ := asStr_elim h_2
  obtain ⟨i7, hq7, h_4⟩ := asInt_elim h_3
  intro a ha
  exact h_4 a (ha.cons hq1 (ha.cons hq5 (ha.cons hq6 (ha.cons hq7 ha.nil))))
noncomputable def C9:=C7.sn
noncomputable def C10:=C9.sn
abbrev Q2 (R : Post) : Exit → Act → World → Prop := (Exit.then (LoopWP Try.prog (cx 33) C7 (Q1 R)) (Q1 R))
/-- ref.go:302 -/
abbrev S2 (most1 k5 : Int) (out6 : ByteArray) (i7 : Int) (w : World) (R : Post) : Prop :=
  L0 most1 k5 out6 (IntKind.wrap .i64 (i7 + 1)) w R
def KE_S2 (E : Env) (w : World) (R : Post) : Prop := W.asInt .i64 (Env.get? E 1) fun most1 => W.asInt .i64 (Env.get? E 5) fun k5 => asStr (Env.get? E 6) fun out6 => W.asInt .i64 (Env.get? E 7) fun i7 => S2 most1 k5 out6 i7 w R
theorem KE_S2_ok (R : Post) (E : Env) (w : World) (h : KE_S2 E w R) : WP Try.prog (cx 33) C10 (Q2 R) E w := by
  obtain ⟨most1, hq1, h_1⟩ := asInt_elim h
  obtain ⟨k5, hq5, h_2⟩ := asInt_elim h_1
  obtain ⟨out6, hq6, h_3⟩ := asStr_elim h_2
  obtain ⟨i7, hq7, h_4⟩ := asInt_elim h_3
  exact fun a ha => WP.at (E := [(1, .i most1), (5, .i k5), (6, .string out6), (7, .i i7)]) (rg C10 (K := fun E w => KE_L0 E w R) (by kernel_rfl) (Eq.mp (by kernel_rfl) h_4) fun _ _ a hA hK => KE_L0_ok R _ _ hK a hA) (ha.cons hq1 (ha.cons hq5 (ha.cons hq6 (ha.cons hq7 ha.nil))))
noncomputable def C11:=C9.fs
noncomputable def C12:=C11.fs
noncomputable def C13:=C12.sn
abbrev Q3 (R : Post) : Exit → Act → World → Prop := (Exit.then (wpx Try.prog (cx 33) C10 (Exit.then (LoopWP Try.prog (cx 33) C7 (Q1 R)) (Q1 R))) (Exit.then (LoopWP Try.prog (cx 33) C7 (Q1 R)) (Q1 R)))
abbrev Q4 (R : Post) : Exit → Act → World → Prop := (Exit.inBlock 1 (Q3 R))
/-- ref.go:304 -/
abbrev S1 (most1 k5 : Int) (out6 : ByteArray) (i7 : Int) (w : World) (R : Post) : Prop :=
  S2 most1 (IntKind.wrap .i64 (Int.tdiv k5 5)) out6 i7 w R
def KE_S1 (E : Env) (w : World) (R : Post) : Prop := W.asInt .i64 (Env.get? E 1) fun most1 => W.asInt .i64 (Env.get? E 5) fun k5 => asStr (Env.get? E 6) fun out6 => W.asInt .i64 (Env.get? E 7) fun i7 => S1 most1 k5 out6 i7 w R
theorem KE_S1_ok (R : Post) (E : Env) (w : World) (h : KE_S1 E w R) : WP Try.prog (cx 33) C13 (Q4 R) E w := by
  obtain ⟨most1, hq1, h_1⟩ := asInt_elim h
  obtain ⟨k5, hq5, h_2⟩ := asInt_elim h_1
  obtain ⟨out6, hq6, h_3⟩ := asStr_elim h_2
  obtain ⟨i7, hq7, h_4⟩ := asInt_elim h_3
  exact fun a ha => WP.at (E := [(1, .i most1), (5, .i k5), (6, .string out6), (7, .i i7)]) (rg C13 (K := fun E w => KE_S2 E w R) (by kernel_rfl) (Eq.mp (by kernel_rfl) h_4) fun _ _ a hA hK => nx hA (KE_S2_ok R _ _ hK)) (ha.cons hq1 (ha.cons hq5 (ha.cons hq6 (ha.cons hq7 ha.nil))))
abbrev Q5 (R : Post) : Exit → Act → World → Prop := (bodyPost Try.prog Try.f47 R)
noncomputable def C14:=C8.sn
/-- ref.go:306 -/
abbrev S3 (out6 : ByteArray) (w : World) (R : Post) : Prop :=
  R (.returned (.string out6)) w
def KE_S3 (E : Env) (w : World) (R : Post) : Prop := asStr (Env.get? E 6) fun out6 => S3 out6 w R
theorem KE_S3_ok (R : Post) (E : Env) (w : World) (h : KE_S3 E w R) : WP Try.prog (cx 33) C8 (Q5 R) E w := by
  obtain ⟨out6, hq6, h_1⟩ := asStr_elim h
  exact fun a ha => WP.at (E := [(6, .string out6)]) (sr C8 (K := fun E w => retVC Try.prog Try.f47 E w (fun v => R (.returned v) w)) (Eq.mp (by kernel_rfl) h_1) fun _ _ hK => (rt C14 fun a hA => retVC_sound hA hK)) (ha.cons hq6 ha.nil)
noncomputable def C15:=C7.fs
noncomputable def C16:=C15.sn
noncomputable def C17:=C16.fs
noncomputable def C18:=C16.sn
theorem L0_step (most1 k5 : Int) (out6 : ByteArray) (i7 : Int) (w : World) (R : Post) (h : sel (decide (i7 < (Int.tmod k5 4))) (sel (decide (i7 < most1)) (nwV w (.cells #[.string (ByteArray.mk #[97]), .string (ByteArray.mk #[98]), .string (ByteArray.mk #[97, 98]), .string (ByteArray.mk #[0]), .string (ByteArray.mk #[255])] ty_string) fun w2 => 
  (0 : Int) ≤ (Int.tmod (IntKind.wrap .i64 (Int.tdiv k5 4)) 5) ∧ (Int.tmod (IntKind.wrap .i64 (Int.tdiv k5 4)) 5) < ((5 : Nat) : Int) ∧ optP (some (nb w)) fun t26_p => ∃ t27 : ByteArray, w2.cell? (t26_p.add (Int.toNat (Int.tmod (IntKind.wrap .i64 (Int.tdiv k5 4)) 5) * 1)) = some (.string t27) ∧ 
  (0 : Int) ≤ 1 ∧ 1 ≤ ((t27.size : Nat) : Int) ∧ ¬ (((out6.size + (t27.extract 0 (Int.toNat 1)).size : Nat) : Int) > IntKind.i64.max) ∧ S1 most1 k5 (out6 ++ (t27.extract 0 (Int.toNat 1))) i7 w2 R) (S3 out6 w R)) (S3 out6 w R)) : L0 most1 k5 out6 i7 w R :=
  LP.step (n := (cx 33)) (c := C7) (E := [(1, .i most1), (5, .i k5), (6, .string out6), (7, .i i7)]) (w := w) (sq C7 (sr C15 (show (fun (E : Env) (w : World) => srK Try.prog C15 (fun E w => condK (Env.val E (.tmp 18)) (srK Try.prog C12 (fun E w => KE_S1 E w R) E w) (KE_S3 E w R)) E w) [(1, .i most1), (5, .i k5), (6, .string out6), (7, .i i7)] w from Eq.mp (by kernel_rfl) h) fun _ _ hK => (cn C16 hK (fun hK => (sk C17 fun a hA => nx hA (sq C9 (bk C11 1 (by kernel_rfl) (sr C12 hK fun _ _ hK => (KE_S1_ok R _ _ hK)))))) (fun hK => (xt C18 0 (by kernel_rfl) fun a hA => nx hA (KE_S3_ok R _ _ hK))))))
/-- enthymeme/enthymemeref06.Short -/
theorem ok (n0 most1 : Int) (w : World) (R : Post) (h : Calls Try.prog n_enthymemeref01_Around #[.i n0, .i 1073741824] w fun r_ w1 => ∃ t9 : Int, r_ = .returned (.i t9) ∧ 
  L0 most1 t9 (ByteArray.mk #[]) 0 w1 R) : Calls Try.prog n_enthymemeref06_Short #[.i n0, .i most1] w R :=
  calls_of_WP' (R := R) (fn := Try.f47) (c := C0) (args := [.i n0, .i most1]) (by kernel_rfl) (by kernel_rfl) (by kernel_rfl) (sr C0 (show (fun (E : Env) (w : World) => srK Try.prog C0 (fun E w => srK Try.prog C1 (fun E w => srK Try.prog C2 (fun E w => srK Try.prog C4 (fun E w => KE_L0 E w R) E w) E w) E w) E w) (envOf 0 [.i n0, .i most1]) w from Eq.mp (by kernel_rfl) h) fun _ _ hK => (sr C1 hK fun _ _ hK => (sr C2 hK fun _ _ hK => (sq C3 (sr C4 hK fun _ _ hK => (bk C5 0 (by kernel_rfl) (lp C6 (by kernel_rfl) (KE_L0_ok R _ _ hK))))))))
end enthymemeref06_Short
namespace enthymemeref06_Of
noncomputable def C0 : Code := (Try.f21.body).getD .skip
noncomputable def C1:=C0.sn
noncomputable def C2:=C1.sn
noncomputable def C3:=C2.sn
abbrev Q0 (R : Post) : Exit → Act → World → Prop := (bodyPost Try.prog Try.f21 R)
noncomputable def C4:=C3.sn
/-- ref.go:328 -/
abbrev S0 (t4 out5 : Addr) (w : World) (R : Post) : Prop :=
  ∃ t64_0 : Int, ∃ t64_1 : Int, ∃ t64_2 : Int, ∃ t64_3 : Int, ∃ t64_4 : ByteArray, ∃ t64_5 : Sl, w.cell? (out5.add 0) = some (.i t64_0) ∧ w.cell? (out5.add 1) = some (.i t64_1) ∧ w.cell? (out5.add 2) = some (.i t64_2) ∧ w.cell? (out5.add 3) = some (.u t64_3) ∧ w.cell? (out5.add 4) = some (.string t64_4) ∧ w.cell? (out5.add 5) = some (t64_5.v) ∧ 
  stV w t4 (.i t64_0) fun w1 => 
  stV w1 (t4.add 1) (.i t64_1) fun w2 => 
  stV w2 (t4.add 2) (.i t64_2) fun w3 => 
  stV w3 (t4.add 3) (.u t64_3) fun w4 => 
  stV w4 (t4.add 4) (.string t64_4) fun w5 => 
  stV w5 (t4.add 5) (t64_5.v) fun w6 => 
  ∃ r4_0 : Int, ∃ r4_1 : Int, ∃ r4_2 : Int, ∃ r4_3 : Int, ∃ r4_4 : ByteArray, ∃ r4_5 : Sl, w6.cell? (t4.add 0) = some (.i r4_0) ∧ w6.cell? (t4.add 1) = some (.i r4_1) ∧ w6.cell? (t4.add 2) = some (.i r4_2) ∧ w6.cell? (t4.add 3) = some (.u r4_3) ∧ w6.cell? (t4.add 4) = some (.string r4_4) ∧ w6.cell? (t4.add 5) = some (r4_5.v) ∧ 
  R (.returned (.agg #[.i r4_0, .i r4_1, .i r4_2, .u r4_3, .string r4_4, r4_5.v])) w6
def KE_S0 (E : Env) (w : World) (R : Post) : Prop := asRef (Env.get? E 4) fun t4 => asRef (Env.get? E 5) fun out5 => S0 t4 out5 w R
theorem KE_S0_ok (R : Post) (E : Env) (w : World) (h : KE_S0 E w R) : WP Try.prog (cx 65) C3 (Q0 R) E w := by
  obtain ⟨t4, hq4, h_1⟩ := asRef_elim h
  obtain ⟨out5, hq5, h_2⟩ := asRef_elim h_1
  exact fun a ha => WP.at (E := [(4, .pointer (some t4)), (5, .pointer (some out5))]) (sr C3 (K := fun E w => retVC Try.prog Try.f21 E w (fun v => R (.returned v) w)) (Eq.mp (by kernel_rfl) h_2) fun _ _ hK => (rt C4 fun a hA => retVC_sound hA hK)) (ha.cons hq4 (ha.cons hq5 ha.nil))
noncomputable def C5:=C2.fs
noncomputable def C6:=C5.sn
noncomputable def C7:=C6.fs
noncomputable def C8:=C7.sn
noncomputable def C9:=C8.sn
noncomputable def C10:=C9.sn
noncomputable def C11:=C10.sn
noncomputable def C12:=C11.sn
noncomputable def C13:=C12.fs
noncomputable def C14:=C13.fs
abbrev Q1 (R : Post) : Exit → Act → World → Prop := (Exit.then (wpx Try.prog (cx 65) C3 (bodyPost Try.prog Try.f21 R)) (bodyPost Try.prog Try.f21 R))
abbrev Q2 (R : Post) : Exit → Act → World → Prop := (Exit.inBlock 0 (Q1 R))
abbrev Q3 (R : Post) : Exit → Act → World → Prop := (Exit.inBlock 1 (Q2 R))
/-- the head of the loop, ref.go:318 -/
def L1 (l1 : Sl) (s2 t4 out5 : Addr) (i6 : Int) (w : World) (R : Post) : Prop := LP Try.prog (cx 65) C14 (Q3 R) [(1, l1.v), (2, .pointer (some s2)), (4, .pointer (some t4)), (5, .pointer (some out5)), (6, .i i6)] w
def KE_L1 (E : Env) (w : World) (R : Post) : Prop := asSlice (Env.get? E 1) fun l1 => asRef (Env.get? E 2) fun s2 => asRef (Env.get? E 4) fun t4 => asRef (Env.get? E 5) fun out5 => W.asInt .i64 (Env.get? E 6) fun i6 => L1 l1 s2 t4 out5 i6 w R
theorem KE_L1_ok (R : Post) (E : Env) (w : World) (h : KE_L1 E w R) : LP Try.prog (cx 65) C14 (Q3 R) E w := by
  obtain ⟨l1, hq1, h_1⟩ := asSlice_elim h
  obtain ⟨s2, hq2, h_2⟩ := asRef_elim h_1
  obtain ⟨t4, hq4, h_3⟩ := asRef_elim h_2
  obtain ⟨out5, hq5, h_4⟩ := asRef_elim h_3
  obtain ⟨i6, hq6, h_5⟩ := asInt_elim h_4
  intro a ha
  exact h_5 a (ha.cons hq1 (ha.cons hq2 (ha.cons hq4 (ha.cons hq5 (ha.cons hq6 ha.nil)))))
noncomputable def C15:=C14.sn
noncomputable def C16:=C15.sn
abbrev Q4 (R : Post) : Exit → Act → World → Prop := (Exit.then (LoopWP Try.prog (cx 65) C14 (Q3 R)) (Q3 R))
/-- ref.go:318 -/
abbrev S2 (l1 : Sl) (s2 t4 out5 : Addr) (i6 : Int) (w : World) (R : Post) : Prop :=
  L1 l1 s2 t4 out5 (IntKind.wrap .i64 (i6 + 1)) w R
def KE_S2 (E : Env) (w : World) (R : Post) : Prop := asSlice (Env.get? E 1) fun l1 => asRef (Env.get? E 2) fun s2 => asRef (Env.get? E 4) fun t4 => asRef (Env.get? E 5) fun out5 => W.asInt .i64 (Env.get? E 6) fun i6 => S2 l1 s2 t4 out5 i6 w R
theorem KE_S2_ok (R : Post) (E : Env) (w : World) (h : KE_S2 E w R) : WP Try.prog (cx 65) C16 (Q4 R) E w := by
  obtain ⟨l1, hq1, h_1⟩ := asSlice_elim h
  obtain ⟨s2, hq2, h_2⟩ := asRef_elim h_1
  obtain ⟨t4, hq4, h_3⟩ := asRef_elim h_2
  obtain ⟨out5, hq5, h_4⟩ := asRef_elim h_3
  obtain ⟨i6, hq6, h_5⟩ := asInt_elim h_4
  exact fun a ha => WP.at (E := [(1, l1.v), (2, .pointer (some s2)), (4, .pointer (some t4)), (5, .pointer (some out5)), (6, .i i6)]) (rg C16 (K := fun E w => KE_L1 E w R) (by kernel_rfl) (Eq.mp (by kernel_rfl) h_5) fun _ _ a hA hK => KE_L1_ok R _ _ hK a hA) (ha.cons hq1 (ha.cons hq2 (ha.cons hq4 (ha.cons hq5 (ha.cons hq6 ha.nil)))))
noncomputable def C17:=C14.fs
noncomputable def C18:=C15.fs
noncomputable def C19:=C18.fs
noncomputable def C20:=C19.sn
noncomputable def C21:=C20.sn
noncomputable def C22:=C21.sn
noncomputable def C23:=C22.fs
noncomputable def C24:=C22.sn
noncomputable def C25:=C17.sn
noncomputable def C26:=C25.fs
noncomputable def C27:=C25.sn
theorem L1_step (l1 : Sl) (s2 t4 out5 : Addr) (i6 : Int) (w : World) (R : Post) (h : sel (decide (i6 < ((l1.n : Nat) : Int))) (sel (decide (i6 < 5)) (Calls Try.prog n_enthymemeref01_Pick #[l1.v, .i i6, .i 1073741824] w fun r_ w18 => ∃ t25 : Int, r_ = .returned (.i t25) ∧ 
  ∃ t29 : Int, w18.cell? (s2.add 2) = some (.i t29) ∧ 
  Calls Try.prog n_enthymemeref06_Bits #[.i (IntKind.wrap .i64 (Int.tdiv t25 7)), .i t29] w18 fun r_ w19 => ∃ t30 : Int, r_ = .returned (.u t30) ∧ 
  ∃ t32 : Int, w19.cell? (s2.add 0) = some (.i t32) ∧ 
  sel (t32 == 2) (drV w19 fun w20 => ∃ t34_0 : Int, ∃ t34_1 : Int, ∃ t34_2 : Int, ∃ t34_3 : Int, ∃ t34_4 : ByteArray, ∃ t34_5 : Sl, w20.cell? (out5.add 0) = some (.i t34_0) ∧ w20.cell? (out5.add 1) = some (.i t34_1) ∧ w20.cell? (out5.add 2) = some (.i t34_2) ∧ w20.cell? (out5.add 3) = some (.u t34_3) ∧ w20.cell? (out5.add 4) = some (.string t34_4) ∧ w20.cell? (out5.add 5) = some (t34_5.v) ∧ 
  ∃ t38 : Int, w20.cell? (s2.add 1) = some (.i t38) ∧ 
  Calls Try.prog n_enthymemeref06_Bits #[.i t25, .i t38] w20 fun r_ w21 => ∃ t39 : Int, r_ = .returned (.u t39) ∧ 
  w21.cell? (out5.add 0) = some (.i t34_0) ∧ w21.cell? (out5.add 1) = some (.i t34_1) ∧ w21.cell? (out5.add 2) = some (.i t34_2) ∧ w21.cell? (out5.add 3) = some (.u t34_3) ∧ w21.cell? (out5.add 4) = some (.string t34_4) ∧ w21.cell? (out5.add 5) = some (t34_5.v) ∧ Calls Try.prog n_enthymemeref06_Put #[.agg #[.i t34_0, .i t34_1, .i t34_2, .u t34_3, .string t34_4, t34_5.v], .u t30, .u t39, .s0] w21 fun r_ w22 => ∃ t40_0 : Int, ∃ t40_1 : Int, ∃ t40_2 : Int, ∃ t40_3 : Int, ∃ t40_4 : ByteArray, ∃ t40_5 : Sl, r_ = .returned (.agg #[.i t40_0, .i t40_1, .i t40_2, .u t40_3, .string t40_4, t40_5.v]) ∧ 
  stV w22 out5 (.i t40_0) fun w23 => 
  stV w23 (out5.add 1) (.i t40_1) fun w24 => 
  stV w24 (out5.add 2) (.i t40_2) fun w25 => 
  stV w25 (out5.add 3) (.u t40_3) fun w26 => 
  stV w26 (out5.add 4) (.string t40_4) fun w27 => 
  stV w27 (out5.add 5) (t40_5.v) fun w28 => 
  S2 l1 s2 t4 out5 i6 w28 R) (drV w19 fun w29 => ∃ t41_0 : Int, ∃ t41_1 : Int, ∃ t41_2 : Int, ∃ t41_3 : Int, ∃ t41_4 : ByteArray, ∃ t41_5 : Sl, w29.cell? (out5.add 0) = some (.i t41_0) ∧ w29.cell? (out5.add 1) = some (.i t41_1) ∧ w29.cell? (out5.add 2) = some (.i t41_2) ∧ w29.cell? (out5.add 3) = some (.u t41_3) ∧ w29.cell? (out5.add 4) = some (.string t41_4) ∧ w29.cell? (out5.add 5) = some (t41_5.v) ∧ 
  ∃ t45 : Int, w29.cell? (s2.add 1) = some (.i t45) ∧ 
  Calls Try.prog n_enthymemeref06_Short #[.i t25, .i t45] w29 fun r_ w30 => ∃ t46 : ByteArray, r_ = .returned (.string t46) ∧ 
  w30.cell? (out5.add 0) = some (.i t41_0) ∧ w30.cell? (out5.add 1) = some (.i t41_1) ∧ w30.cell? (out5.add 2) = some (.i t41_2) ∧ w30.cell? (out5.add 3) = some (.u t41_3) ∧ w30.cell? (out5.add 4) = some (.string t41_4) ∧ w30.cell? (out5.add 5) = some (t41_5.v) ∧ Calls Try.prog n_enthymemeref06_Put #[.agg #[.i t41_0, .i t41_1, .i t41_2, .u t41_3, .string t41_4, t41_5.v], .u t30, .u 0, .string t46] w30 fun r_ w31 => ∃ t47_0 : Int, ∃ t47_1 : Int, ∃ t47_2 : Int, ∃ t47_3 : Int, ∃ t47_4 : ByteArray, ∃ t47_5 : Sl, r_ = .returned (.agg #[.i t47_0, .i t47_1, .i t47_2, .u t47_3, .string t47_4, t47_5.v]) ∧ 
  stV w31 out5 (.i t47_0) fun w32 => 
  stV w32 (out5.add 1) (.i t47_1) fun w33 => 
  stV w33 (out5.add 2) (.i t47_2) fun w34 => 
  stV w34 (out5.add 3) (.u t47_3) fun w35 => 
  stV w35 (out5.add 4) (.string t47_4) fun w36 => 
  stV w36 (out5.add 5) (t47_5.v) fun w37 => 
  S2 l1 s2 t4 out5 i6 w37 R)) (S0 t4 out5 w R)) (S0 t4 out5 w R)) : L1 l1 s2 t4 out5 i6 w R :=
  LP.step (n := (cx 65)) (c := C14) (E := [(1, l1.v), (2, .pointer (some s2)), (4, .pointer (some t4)), (5, .pointer (some out5)), (6, .i i6)]) (w := w) (sq C14 (sr C17 (show (fun (E : Env) (w : World) => srK Try.prog C17 (fun E w => condK (Env.val E (.tmp 20)) (srK Try.prog C19 (fun E w => srK Try.prog C20 (fun E w => srK Try.prog C21 (fun E w => condK (Env.val E (.tmp 33)) (dgK Try.prog C23 [0, 1, 2, 3, 4, 5, 6, 7] (fun E w => KE_S2 E w R) E w) (dgK Try.prog C24 [0, 1, 2, 3, 4, 5, 6, 7] (fun E w => KE_S2 E w R) E w)) E w) E w) E w) (KE_S0 E w R)) E w) [(1, l1.v), (2, .pointer (some s2)), (4, .pointer (some t4)), (5, .pointer (some out5)), (6, .i i6)] w from Eq.mp (by kernel_rfl) h) fun _ _ hK => (cn C25 hK (fun hK => (sk C26 fun a hA => nx hA (sq C15 (bk C18 2 (by kernel_rfl) (sr C19 hK fun _ _ hK => (sr C20 hK fun _ _ hK => (sr C21 hK fun _ _ hK => (cn C22 hK (fun hK => (dg C23 (by kernel_rfl) hK fun _ _ a hA hK => nx hA (KE_S2_ok R _ _ hK))) (fun hK => (dg C24 (by kernel_rfl) hK fun _ _ a hA hK => nx hA (KE_S2_ok R _ _ hK))))))))))) (fun hK => (xt C27 1 (by kernel_rfl) fun a hA => nx hA (KE_S0_ok R _ _ hK))))))
/-- enthymeme/enthymemeref06.Of -/
noncomputable def C28:=C8.fs
noncomputable def C29:=C10.fs
theorem ok (s0_0 s0_1 s0_2 : Int) (l1 : Sl) (w : World) (R : Post) (h : nwV w (.cells #[.i s0_0, .i s0_1, .i s0_2] ty_api_Sort) fun w1 => 
  nwV w1 (.cells #[.i 0, .i 0, .i 0, .u 0, .s0, .slice none 0 0] ty_enthymemeref06_Value) fun w2 => 
  ∃ t9_0 : Int, ∃ t9_1 : Int, ∃ t9_2 : Int, w2.cell? ((nb w).add 0) = some (.i t9_0) ∧ w2.cell? ((nb w).add 1) = some (.i t9_1) ∧ w2.cell? ((nb w).add 2) = some (.i t9_2) ∧ 
  nwV w2 (.cells #[.i 0, .i 0, .i 0, .u 0, .s0, .slice none 0 0] ty_enthymemeref06_Value) fun w3 => 
  stV w3 (nb w2) (.i t9_0) fun w4 => 
  stV w4 ((nb w2).add 1) (.i t9_1) fun w5 => 
  stV w5 ((nb w2).add 2) (.i t9_2) fun w6 => 
  stV w6 ((nb w2).add 3) (.u 0) fun w7 => 
  stV w7 ((nb w2).add 4) (.s0) fun w8 => 
  stV w8 ((nb w2).add 5) (.slice none 0 0) fun w9 => 
  ∃ t12 : Int, w9.cell? ((nb w).add 0) = some (.i t12) ∧ 
  sel (t12 == 0) (drV w9 fun w10 => ∃ t53 : Int, w10.cell? ((nb w).add 1) = some (.i t53) ∧ 
  Calls Try.prog n_enthymemeref01_Pick #[l1.v, .i 0, .i 1073741824] w10 fun r_ w11 => ∃ t51 : Int, r_ = .returned (.i t51) ∧ 
  w11.cell? ((nb w).add 1) = some (.i t53) ∧ Calls Try.prog n_enthymemeref06_Bits #[.i t51, .i t53] w11 fun r_ w12 => ∃ t54 : Int, r_ = .returned (.u t54) ∧ 
  stV w12 ((nb w2).add 3) (.u t54) fun w13 => 
  S0 (nb w1) (nb w2) w13 R) (sel (t12 == 1) (drV w9 fun w14 => ∃ t61 : Int, w14.cell? ((nb w).add 1) = some (.i t61) ∧ 
  Calls Try.prog n_enthymemeref01_Pick #[l1.v, .i 0, .i 1073741824] w14 fun r_ w15 => ∃ t59 : Int, r_ = .returned (.i t59) ∧ 
  w15.cell? ((nb w).add 1) = some (.i t61) ∧ Calls Try.prog n_enthymemeref06_Short #[.i t59, .i t61] w15 fun r_ w16 => ∃ t62 : ByteArray, r_ = .returned (.string t62) ∧ 
  stV w16 ((nb w2).add 4) (.string t62) fun w17 => 
  S0 (nb w1) (nb w2) w17 R) (L1 l1 (nb w) (nb w1) (nb w2) 0 w9 R))) : Calls Try.prog n_enthymemeref06_Of #[.agg #[.i s0_0, .i s0_1, .i s0_2], l1.v] w R :=
  calls_of_WP' (R := R) (fn := Try.f21) (c := C0) (args := [.agg #[.i s0_0, .i s0_1, .i s0_2], l1.v]) (by kernel_rfl) (by kernel_rfl) (by kernel_rfl) (sr C0 (show (fun (E : Env) (w : World) => srK Try.prog C0 (fun E w => srK Try.prog C1 (fun E w => srK Try.prog C5 (fun E w => srK Try.prog C7 (fun E w => condK (Env.val E (.tmp 48)) (dgK Try.prog C28 [0, 2, 3, 1, 4, 5, 6] (fun E w => KE_S0 E w R) E w) (srK Try.prog C9 (fun E w => condK (Env.val E (.tmp 56)) (dgK Try.prog C29 [0, 2, 3, 1, 4, 5, 6] (fun E w => KE_S0 E w R) E w) (srK Try.prog C11 (fun E w => KE_L1 E w R) E w)) E w)) E w) E w) E w) E w) (envOf 0 [.agg #[.i s0_0, .i s0_1, .i s0_2], l1.v]) w from Eq.mp (by kernel_rfl) h) fun _ _ hK => (sr C1 hK fun _ _ hK => (sq C2 (sr C5 hK fun _ _ hK => (bk C6 0 (by kernel_rfl) (sr C7 hK fun _ _ hK => (cn C8 hK (fun hK => (dg C28 (by kernel_rfl) hK fun _ _ a hA hK => nx hA (KE_S0_ok R _ _ hK))) (fun hK => (sr C9 hK fun _ _ hK => (cn C10 hK (fun hK => (dg C29 (by kernel_rfl) hK fun _ _ a hA hK => nx hA (KE_S0_ok R _ _ hK))) (fun hK => (sr C11 hK fun _ _ hK => (bk C12 1 (by kernel_rfl) (lp C13 (by kernel_rfl) (KE_L1_ok R _ _ hK)))))))))))))))
abbrev S0T (t4 : Nat) (t4_0 t4_1 t4_2 t4_3 : Int) (t4_4 : ByteArray) (t4_5 : Sl) (out5 : Nat) (out5_0 out5_1 out5_2 out5_3 : Int) (out5_4 : ByteArray) (out5_5 : Sl) (w : World) (R : Post) : Prop :=
  loc [t4, out5] w fun w6 => R (.returned (.agg #[.i out5_0, .i out5_1, .i out5_2, .u out5_3, .string out5_4, out5_5.v])) w6
theorem S0T_ok {t4 : Nat} {t4_0 t4_1 t4_2 t4_3 : Int} {t4_4 : ByteArray} {t4_5 : Sl} {out5 : Nat} {out5_0 out5_1 out5_2 out5_3 : Int} {out5_4 : ByteArray} {out5_5 : Sl} {w : World} {R : Post} (h : S0T t4 t4_0 t4_1 t4_2 t4_3 t4_4 t4_5 out5 out5_0 out5_1 out5_2 out5_3 out5_4 out5_5 w R) (H : LC w [(t4, [.i t4_0, .i t4_1, .i t4_2, .u t4_3, .string t4_4, t4_5.v], ty_enthymemeref06_Value), (out5, [.i out5_0, .i out5_1, .i out5_2, .u out5_3, .string out5_4, out5_5.v], ty_enthymemeref06_Value)]) : S0 (at0 t4) (at0 out5) w R := ⟨_, _, _, _, _, out5_5, H.ld 1 0, H.ld 1 1, H.ld 1 2, H.ld 1 3, H.ld 1 4, H.ld 1 5, LC.stT0 H 0 (Fr.refl _ _) rfl rfl fun w1 H f => LC.stT H 0 1 f rfl rfl fun w2 H f => LC.stT H 0 2 f rfl rfl fun w3 H f => LC.stT H 0 3 f rfl rfl fun w4 H f => LC.stT H 0 4 f rfl rfl fun w5 H f => LC.stT H 0 5 f rfl rfl fun w6 (H : LC w6 [(t4, [.i out5_0, .i out5_1, .i out5_2, .u out5_3, .string out5_4, out5_5.v], ty_enthymemeref06_Value), (out5, [.i out5_0, .i out5_1, .i out5_2, .u out5_3, .string out5_4, out5_5.v], ty_enthymemeref06_Value)]) (f : Fr (· ∈ [t4, out5]) _ w6) => ⟨_, _, _, _, _, out5_5, H.ld 0 0, H.ld 0 1, H.ld 0 2, H.ld 0 3, H.ld 0 4, H.ld 0 5, have h := h _ f; h⟩⟩
def L1T (l1 : Sl) (s2 : Nat) (s2_0 s2_1 s2_2 : Int) (t4 : Nat) (t4_0 t4_1 t4_2 t4_3 : Int) (t4_4 : ByteArray) (t4_5 : Sl) (out5 : Nat) (out5_0 out5_1 out5_2 out5_3 : Int) (out5_4 : ByteArray) (out5_5 : Sl) (i6 : Int) (w : World) (R : Post) : Prop := LC w [(s2, [.i s2_0, .i s2_1, .i s2_2], ty_api_Sort), (t4, [.i t4_0, .i t4_1, .i t4_2, .u t4_3, .string t4_4, t4_5.v], ty_enthymemeref06_Value), (out5, [.i out5_0, .i out5_1, .i out5_2, .u out5_3, .string out5_4, out5_5.v], ty_enthymemeref06_Value)] → L1 l1 (at0 s2) (at0 t4) (at0 out5) i6 w R
abbrev S2T (l1 : Sl) (s2 : Nat) (s2_0 s2_1 s2_2 : Int) (t4 : Nat) (t4_0 t4_1 t4_2 t4_3 : Int) (t4_4 : ByteArray) (t4_5 : Sl) (out5 : Nat) (out5_0 out5_1 out5_2 out5_3 : Int) (out5_4 : ByteArray) (out5_5 : Sl) (i6 : Int) (w : World) (R : Post) : Prop :=
  L1T l1 s2 s2_0 s2_1 s2_2 t4 t4_0 t4_1 t4_2 t4_3 t4_4 t4_5 out5 out5_0 out5_1 out5_2 out5_3 out5_4 out5_5 (IntKind.wrap .i64 (i6 + 1)) w R
theorem S2T_ok {l1 : Sl} {s2 : Nat} {s2_0 s2_1 s2_2 : Int} {t4 : Nat} {t4_0 t4_1 t4_2 t4_3 : Int} {t4_4 : ByteArray} {t4_5 : Sl} {out5 : Nat} {out5_0 out5_1 out5_2 out5_3 : Int} {out5_4 : ByteArray} {out5_5 : Sl} {i6 : Int} {w : World} {R : Post} (h : S2T l1 s2 s2_0 s2_1 s2_2 t4 t4_0 t4_1 t4_2 t4_3 t4_4 t4_5 out5 out5_0 out5_1 out5_2 out5_3 out5_4 out5_5 i6 w R) (H : LC w [(s2, [.i s2_0, .i s2_1, .i s2_2], ty_api_Sort), (t4, [.i t4_0, .i t4_1, .i t4_2, .u t4_3, .string t4_4, t4_5.v], ty_enthymemeref06_Value), (out5, [.i out5_0, .i out5_1, .i out5_2, .u out5_3, .string out5_4, out5_5.v], ty_enthymemeref06_Value)]) : S2 l1 (at0 s2) (at0 t4) (at0 out5) i6 w R := h H
theorem L1T_step (l1 : Sl) (s2 : Nat) (s2_0 s2_1 s2_2 : Int) (t4 : Nat) (t4_0 t4_1 t4_2 t4_3 : Int) (t4_4 : ByteArray) (t4_5 : Sl) (out5 : Nat) (out5_0 out5_1 out5_2 out5_3 : Int) (out5_4 : ByteArray) (out5_5 : Sl) (i6 : Int) (w : World) (R : Post) (h : sel (decide (i6 < ((l1.n : Nat) : Int))) (sel (decide (i6 < 5)) (callF [s2, t4, out5] Try.prog n_enthymemeref01_Pick #[l1.v, .i i6, .i 1073741824] w fun r_ w18 => ∃ t25 : Int, r_ = .returned (.i t25) ∧ 
  callF [s2, t4, out5] Try.prog n_enthymemeref06_Bits #[.i (IntKind.wrap .i64 (Int.tdiv t25 7)), .i s2_2] w18 fun r_ w19 => ∃ t30 : Int, r_ = .returned (.u t30) ∧ 
  sel (s2_0 == 2) (loc [s2, t4, out5] w19 fun w20 => callF [s2, t4, out5] Try.prog n_enthymemeref06_Bits #[.i t25, .i s2_1] w20 fun r_ w21 => ∃ t39 : Int, r_ = .returned (.u t39) ∧ 
  callF [s2, t4, out5] Try.prog n_enthymemeref06_Put #[.agg #[.i out5_0, .i out5_1, .i out5_2, .u out5_3, .string out5_4, out5_5.v], .u t30, .u t39, .s0] w21 fun r_ w22 => ∃ t40_0 : Int, ∃ t40_1 : Int, ∃ t40_2 : Int, ∃ t40_3 : Int, ∃ t40_4 : ByteArray, ∃ t40_5 : Sl, r_ = .returned (.agg #[.i t40_0, .i t40_1, .i t40_2, .u t40_3, .string t40_4, t40_5.v]) ∧ 
  loc [s2, t4, out5] w22 fun w28 => S2T l1 s2 s2_0 s2_1 s2_2 t4 t4_0 t4_1 t4_2 t4_3 t4_4 t4_5 out5 t40_0 t40_1 t40_2 t40_3 t40_4 t40_5 i6 w28 R) (loc [s2, t4, out5] w19 fun w29 => callF [s2, t4, out5] Try.prog n_enthymemeref06_Short #[.i t25, .i s2_1] w29 fun r_ w30 => ∃ t46 : ByteArray, r_ = .returned (.string t46) ∧ 
  callF [s2, t4, out5] Try.prog n_enthymemeref06_Put #[.agg #[.i out5_0, .i out5_1, .i out5_2, .u out5_3, .string out5_4, out5_5.v], .u t30, .u 0, .string t46] w30 fun r_ w31 => ∃ t47_0 : Int, ∃ t47_1 : Int, ∃ t47_2 : Int, ∃ t47_3 : Int, ∃ t47_4 : ByteArray, ∃ t47_5 : Sl, r_ = .returned (.agg #[.i t47_0, .i t47_1, .i t47_2, .u t47_3, .string t47_4, t47_5.v]) ∧ 
  loc [s2, t4, out5] w31 fun w37 => S2T l1 s2 s2_0 s2_1 s2_2 t4 t4_0 t4_1 t4_2 t4_3 t4_4 t4_5 out5 t47_0 t47_1 t47_2 t47_3 t47_4 t47_5 i6 w37 R)) (S0T t4 t4_0 t4_1 t4_2 t4_3 t4_4 t4_5 out5 out5_0 out5_1 out5_2 out5_3 out5_4 out5_5 w R)) (S0T t4 t4_0 t4_1 t4_2 t4_3 t4_4 t4_5 out5 out5_0 out5_1 out5_2 out5_3 out5_4 out5_5 w R)) : L1T l1 s2 s2_0 s2_1 s2_2 t4 t4_0 t4_1 t4_2 t4_3 t4_4 t4_5 out5 out5_0 out5_1 out5_2 out5_3 out5_4 out5_5 i6 w R := fun H => L1_step _ _ _ _ _ w R (sel_imp h (fun h => sel_imp h (fun h => LC.callT H h fun r_ w18 H h => let ⟨t25, hr, h⟩ := h; ⟨t25, hr, ⟨_, H.ld 0 2, LC.callT H h fun r_ w19 H h => let ⟨t30, hr, h⟩ := h; ⟨t30, hr, ⟨_, H.ld 0 0, sel_imp h (fun h => LC.drT H (Fr.refl _ _) fun w20 H f => ⟨_, _, _, _, _, out5_5, H.ld 2 0, H.ld 2 1, H.ld 2 2, H.ld 2 3, H.ld 2 4, H.ld 2 5, ⟨_, H.ld 0 1, have h := h _ f; LC.callT H h fun r_ w21 H h => let ⟨t39, hr, h⟩ := h; ⟨t39, hr, ⟨H.ld 2 0, H.ld 2 1, H.ld 2 2, H.ld 2 3, H.ld 2 4, H.ld 2 5, LC.callT H h fun r_ w22 H h => let ⟨t40_0, t40_1, t40_2, t40_3, t40_4, t40_5, hr, h⟩ := h; ⟨t40_0, t40_1, t40_2, t40_3, t40_4, t40_5, hr, LC.stT0 H 2 (Fr.refl _ _) rfl rfl fun w23 H f => LC.stT H 2 1 f rfl rfl fun w24 H f => LC.stT H 2 2 f rfl rfl fun w25 H f => LC.stT H 2 3 f rfl rfl fun w26 H f => LC.stT H 2 4 f rfl rfl fun w27 H f => LC.stT H 2 5 f rfl rfl fun w28 (H : LC w28 [(s2, [.i s2_0, .i s2_1, .i s2_2], ty_api_Sort), (t4, [.i t4_0, .i t4_1, .i t4_2, .u t4_3, .string t4_4, t4_5.v], ty_enthymemeref06_Value), (out5, [.i t40_0, .i t40_1, .i t40_2, .u t40_3, .string t40_4, t40_5.v], ty_enthymemeref06_Value)]) (f : Fr (· ∈ [s2, t4, out5]) _ w28) => have h := h _ f; S2T_ok h H⟩⟩⟩⟩⟩) (fun h => LC.drT H (Fr.refl _ _) fun w29 H f => ⟨_, _, _, _, _, out5_5, H.ld 2 0, H.ld 2 1, H.ld 2 2, H.ld 2 3, H.ld 2 4, H.ld 2 5, ⟨_, H.ld 0 1, have h := h _ f; LC.callT H h fun r_ w30 H h => let ⟨t46, hr, h⟩ := h; ⟨t46, hr, ⟨H.ld 2 0, H.ld 2 1, H.ld 2 2, H.ld 2 3, H.ld 2 4, H.ld 2 5, LC.callT H h fun r_ w31 H h => let ⟨t47_0, t47_1, t47_2, t47_3, t47_4, t47_5, hr, h⟩ := h; ⟨t47_0, t47_1, t47_2, t47_3, t47_4, t47_5, hr, LC.stT0 H 2 (Fr.refl _ _) rfl rfl fun w32 H f => LC.stT H 2 1 f rfl rfl fun w33 H f => LC.stT H 2 2 f rfl rfl fun w34 H f => LC.stT H 2 3 f rfl rfl fun w35 H f => LC.stT H 2 4 f rfl rfl fun w36 H f => LC.stT H 2 5 f rfl rfl fun w37 (H : LC w37 [(s2, [.i s2_0, .i s2_1, .i s2_2], ty_api_Sort), (t4, [.i t4_0, .i t4_1, .i t4_2, .u t4_3, .string t4_4, t4_5.v], ty_enthymemeref06_Value), (out5, [.i t47_0, .i t47_1, .i t47_2, .u t47_3, .string t47_4, t47_5.v], ty_enthymemeref06_Value)]) (f : Fr (· ∈ [s2, t4, out5]) _ w37) => have h := h _ f; S2T_ok h H⟩⟩⟩⟩⟩)⟩⟩⟩⟩) (fun h => S0T_ok h (H.pick [1, 2] (by decide)))) (fun h => S0T_ok h (H.pick [1, 2] (by decide))))
theorem okT (s0_0 s0_1 s0_2 : Int) (l1 : Sl) (w : World) (R : Post) (h : newV [] w fun b2 w1 => 
  newV [b2] w1 fun b4 w2 => 
  newV [b2, b4] w2 fun b5 w3 => 
  sel (s0_0 == 0) (loc [b2, b4, b5] w3 fun w10 => callF [b2, b4, b5] Try.prog n_enthymemeref01_Pick #[l1.v, .i 0, .i 1073741824] w10 fun r_ w11 => ∃ t51 : Int, r_ = .returned (.i t51) ∧ 
  callF [b2, b4, b5] Try.prog n_enthymemeref06_Bits #[.i t51, .i s0_1] w11 fun r_ w12 => ∃ t54 : Int, r_ = .returned (.u t54) ∧ 
  loc [b2, b4, b5] w12 fun w13 => S0T b4 0 0 0 0 (ByteArray.mk #[]) ⟨none, 0, 0⟩ b5 s0_0 s0_1 s0_2 t54 (ByteArray.mk #[]) ⟨none, 0, 0⟩ w13 R) (sel (s0_0 == 1) (loc [b2, b4, b5] w3 fun w14 => callF [b2, b4, b5] Try.prog n_enthymemeref01_Pick #[l1.v, .i 0, .i 1073741824] w14 fun r_ w15 => ∃ t59 : Int, r_ = .returned (.i t59) ∧ 
  callF [b2, b4, b5] Try.prog n_enthymemeref06_Short #[.i t59, .i s0_1] w15 fun r_ w16 => ∃ t62 : ByteArray, r_ = .returned (.string t62) ∧ 
  loc [b2, b4, b5] w16 fun w17 => S0T b4 0 0 0 0 (ByteArray.mk #[]) ⟨none, 0, 0⟩ b5 s0_0 s0_1 s0_2 0 t62 ⟨none, 0, 0⟩ w17 R) (loc [b2, b4, b5] w3 fun w9 => L1T l1 b2 s0_0 s0_1 s0_2 b4 0 0 0 0 (ByteArray.mk #[]) ⟨none, 0, 0⟩ b5 s0_0 s0_1 s0_2 0 (ByteArray.mk #[]) ⟨none, 0, 0⟩ 0 w9 R))) : Calls Try.prog n_enthymemeref06_Of #[.agg #[.i s0_0, .i s0_1, .i s0_2], l1.v] w R :=
  ok _ _ _ _ w R (LC.nwT (LC.nil _) (Fr.refl _ _) h fun w1 H h => LC.nwT H (Fr.refl _ _) h fun w2 H h => ⟨_, _, _, H.ld 0 0, H.ld 0 1, H.ld 0 2, LC.nwT H (Fr.refl _ _) h fun w3 (H : LC w3 [(w.heap.size, [.i s0_0, .i s0_1, .i s0_2], ty_api_Sort), (w1.heap.size, [.i 0, .i 0, .i 0, .u 0, .s0, .slice none 0 0], ty_enthymemeref06_Value), (w2.heap.size, [.i 0, .i 0, .i 0, .u 0, .s0, .slice none 0 0], ty_enthymemeref06_Value)]) h => LC.stT0 H 2 (Fr.refl _ _) rfl rfl fun w4 H f => LC.stT H 2 1 f rfl rfl fun w5 H f => LC.stT H 2 2 f rfl rfl fun w6 H f => LC.stT H 2 3 f rfl rfl fun w7 H f => LC.stT H 2 4 f rfl rfl fun w8 H f => LC.stT H 2 5 f rfl rfl fun w9 (H : LC w9 [(w.heap.size, [.i s0_0, .i s0_1, .i s0_2], ty_api_Sort), (w1.heap.size, [.i 0, .i 0, .i 0, .u 0, .s0, .slice none 0 0], ty_enthymemeref06_Value), (w2.heap.size, [.i s0_0, .i s0_1, .i s0_2, .u 0, .s0, .slice none 0 0], ty_enthymemeref06_Value)]) (f : Fr (· ∈ [w.heap.size, w1.heap.size, w2.heap.size]) _ w9) => ⟨_, H.ld 0 0, sel_imp h (fun h => LC.drT H f fun w10 H f => ⟨_, H.ld 0 1, have h := h _ f; LC.callT H h fun r_ w11 H h => let ⟨t51, hr, h⟩ := h; ⟨t51, hr, ⟨H.ld 0 1, LC.callT H h fun r_ w12 H h => let ⟨t54, hr, h⟩ := h; ⟨t54, hr, LC.stT H 2 3 (Fr.refl _ _) rfl rfl fun w13 (H : LC w13 [(w.heap.size, [.i s0_0, .i s0_1, .i s0_2], ty_api_Sort), (w1.heap.size, [.i 0, .i 0, .i 0, .u 0, .s0, .slice none 0 0], ty_enthymemeref06_Value), (w2.heap.size, [.i s0_0, .i s0_1, .i s0_2, .u t54, .s0, .slice none 0 0], ty_enthymemeref06_Value)]) (f : Fr (· ∈ [w.heap.size, w1.heap.size, w2.heap.size]) _ w13) => have h := h _ f; S0T_ok h (H.pick [1, 2] (by decide))⟩⟩⟩⟩) (fun h => sel_imp h (fun h => LC.drT H f fun w14 H f => ⟨_, H.ld 0 1, have h := h _ f; LC.callT H h fun r_ w15 H h => let ⟨t59, hr, h⟩ := h; ⟨t59, hr, ⟨H.ld 0 1, LC.callT H h fun r_ w16 H h => let ⟨t62, hr, h⟩ := h; ⟨t62, hr, LC.stT H 2 4 (Fr.refl _ _) rfl rfl fun w17 (H : LC w17 [(w.heap.size, [.i s0_0, .i s0_1, .i s0_2], ty_api_Sort), (w1.heap.size, [.i 0, .i 0, .i 0, .u 0, .s0, .slice none 0 0], ty_enthymemeref06_Value), (w2.heap.size, [.i s0_0, .i s0_1, .i s0_2, .u 0, .string t62, .slice none 0 0], ty_enthymemeref06_Value)]) (f : Fr (· ∈ [w.heap.size, w1.heap.size, w2.heap.size]) _ w17) => have h := h _ f; S0T_ok h (H.pick [1, 2] (by decide))⟩⟩⟩⟩) (fun h => have h := h _ f; h H))⟩⟩)
end enthymemeref06_Of
namespace enthymemeref06_Spoilt
noncomputable def C0 : Code := (Try.f39.body).getD .skip
noncomputable def C1:=C0.sn
noncomputable def C2:=C1.sn
noncomputable def C3:=C2.sn
noncomputable def C4:=C3.sn
noncomputable def C5:=C4.sn
abbrev Q0 (R : Post) : Exit → Act → World → Prop := (bodyPost Try.prog Try.f39 R)
noncomputable def C6:=C5.sn
/-- ref.go:360 -/
abbrev S0 (v4 t8 : Addr) (w : World) (R : Post) : Prop :=
  ∃ t106_0 : Int, ∃ t106_1 : Int, ∃ t106_2 : Int, ∃ t106_3 : Int, ∃ t106_4 : ByteArray, ∃ t106_5 : Sl, w.cell? (v4.add 0) = some (.i t106_0) ∧ w.cell? (v4.add 1) = some (.i t106_1) ∧ w.cell? (v4.add 2) = some (.i t106_2) ∧ w.cell? (v4.add 3) = some (.u t106_3) ∧ w.cell? (v4.add 4) = some (.string t106_4) ∧ w.cell? (v4.add 5) = some (t106_5.v) ∧ 
  stV w t8 (.i t106_0) fun w1 => 
  stV w1 (t8.add 1) (.i t106_1) fun w2 => 
  stV w2 (t8.add 2) (.i t106_2) fun w3 => 
  stV w3 (t8.add 3) (.u t106_3) fun w4 => 
  stV w4 (t8.add 4) (.string t106_4) fun w5 => 
  stV w5 (t8.add 5) (t106_5.v) fun w6 => 
  ∃ r8_0 : Int, ∃ r8_1 : Int, ∃ r8_2 : Int, ∃ r8_3 : Int, ∃ r8_4 : ByteArray, ∃ r8_5 : Sl, w6.cell? (t8.add 0) = some (.i r8_0) ∧ w6.cell? (t8.add 1) = some (.i r8_1) ∧ w6.cell? (t8.add 2) = some (.i r8_2) ∧ w6.cell? (t8.add 3) = some (.u r8_3) ∧ w6.cell? (t8.add 4) = some (.string r8_4) ∧ w6.cell? (t8.add 5) = some (r8_5.v) ∧ 
  R (.returned (.agg #[.i r8_0, .i r8_1, .i r8_2, .u r8_3, .string r8_4, r8_5.v])) w6
def KE_S0 (E : Env) (w : World) (R : Post) : Prop := asRef (Env.get? E 4) fun v4 => asRef (Env.get? E 8) fun t8 => S0 v4 t8 w R
theorem KE_S0_ok (R : Post) (E : Env) (w : World) (h : KE_S0 E w R) : WP Try.prog (cx 107) C5 (Q0 R) E w := by
  obtain ⟨v4, hq4, h_1⟩ := asRef_elim h
  obtain ⟨t8, hq8, h_2⟩ := asRef_elim h_1
  exact fun a ha => WP.at (E := [(4, .pointer (some v4)), (8, .pointer (some t8))]) (sr C5 (K := fun E w => retVC Try.prog Try.f39 E w (fun v => R (.returned v) w)) (Eq.mp (by kernel_rfl) h_2) fun _ _ hK => (rt C6 fun a hA => retVC_sound hA hK)) (ha.cons hq4 (ha.cons hq8 ha.nil))
/-- enthymeme/enthymemeref06.Spoilt -/
noncomputable def C7:=C4.fs
noncomputable def C8:=C7.sn
noncomputable def C9:=C8.fs
noncomputable def C10:=C9.sn
noncomputable def C11:=C10.fs
noncomputable def C12:=C10.sn
noncomputable def C13:=C12.sn
noncomputable def C14:=C13.fs
noncomputable def C15:=C13.sn
noncomputable def C16:=C15.sn
noncomputable def C17:=C16.fs
noncomputable def C18:=C16.sn
noncomputable def C19:=C18.sn
noncomputable def C20:=C19.fs
noncomputable def C21:=C19.sn
noncomputable def C22:=C21.sn
noncomputable def C23:=C22.fs
noncomputable def C24:=C22.sn
noncomputable def C25:=C24.sn
noncomputable def C26:=C25.fs
noncomputable def C27:=C25.sn
noncomputable def C28:=C27.sn
noncomputable def C29:=C28.fs
noncomputable def C30:=C28.sn
noncomputable def C31:=C30.sn
noncomputable def C32:=C31.fs
noncomputable def C33:=C32.sn
noncomputable def C34:=C33.fs
noncomputable def C35:=C31.sn
noncomputable def C36:=C35.sn
noncomputable def C37:=C36.fs
noncomputable def C38:=C33.sn
noncomputable def C39:=C36.sn
theorem ok (v0_0 v0_1 v0_2 v0_3 : Int) (v0_4 : ByteArray) (v0_5 : Sl) (at1 how2 by3 : Int) (w : World) (R : Post) (h : nwV w (.cells #[.i v0_0, .i v0_1, .i v0_2, .u v0_3, .string v0_4, v0_5.v] ty_enthymemeref06_Value) fun w1 => 
  nwV w1 (.cells #[.i 0, .i 0, .i 0, .u 0, .s0, .slice none 0 0] ty_enthymemeref06_Value) fun w2 => 
  nwV w2 (.cells #[] ty_enthymemeref06_Entry) fun w3 => 
  ∃ t13 : Sl, w3.cell? ((nb w).add 5) = some (t13.v) ∧ 
  ∃ (t14 : Sl) (w4 : World), Sem.run Try.prog (Builtin.append_ #[ty_sl_enthymemeref06_Entry, ty_sl_enthymemeref06_Entry] ty_sl_enthymemeref06_Entry #[.slice (some (nb w2)) 0 0, t13.v]) w3 = .ok (t14.v) w4 ∧ stV w4 ((nb w).add 5) (t14.v) fun w5 => 
  nwV w5 (.cells #[.i by3, .i (-1), .i 0, .i 1, .i 16, .i 17, .i 64, .i 65] ty_int) fun w6 => 
  Calls Try.prog n_enthymemeref01_Around #[.i at1, .i 8] w6 fun r_ w7 => ∃ t19 : Int, r_ = .returned (.i t19) ∧ 
  (0 : Int) ≤ t19 ∧ t19 < ((8 : Nat) : Int) ∧ optP (some (nb w5)) fun t20_p => ∃ t21 : Int, w7.cell? (t20_p.add (Int.toNat t19 * 1)) = some (.i t21) ∧ 
  ∃ t24 : Sl, w7.cell? ((nb w).add 5) = some (t24.v) ∧ 
  Calls Try.prog n_enthymemeref01_Around #[.i at1, .i (if 1 < ((t24.n : Nat) : Int) then ((t24.n : Nat) : Int) else 1)] w7 fun r_ w8 => ∃ t27 : Int, r_ = .returned (.i t27) ∧ 
  Calls Try.prog n_enthymemeref01_Around #[.i how2, .i 9] w8 fun r_ w9 => ∃ t29 : Int, r_ = .returned (.i t29) ∧ 
  sel (t29 == 0) (stV w9 (((nb w).add 0).add 0) (.i t21) fun w10 => 
  S0 (nb w) (nb w1) w10 R) (sel (t29 == 1) (stV w9 (((nb w).add 0).add 1) (.i t21) fun w11 => 
  S0 (nb w) (nb w1) w11 R) (sel (t29 == 2) (stV w9 (((nb w).add 0).add 2) (.i t21) fun w12 => 
  S0 (nb w) (nb w1) w12 R) (sel (t29 == 3) (∃ t62 : Int, w9.cell? ((nb w).add 3) = some (.u t62) ∧ 
  stV w9 ((nb w).add 3) (.u (IntKind.wrap .u64 (t62 + (IntKind.wrap .u64 t21)))) fun w13 => 
  S0 (nb w) (nb w1) w13 R) (sel (t29 == 4) (∃ t70 : ByteArray, w9.cell? ((nb w).add 4) = some (.string t70) ∧ 
  ¬ (((t70.size + (ByteArray.mk #[120]).size : Nat) : Int) > IntKind.i64.max) ∧ stV w9 ((nb w).add 4) (.string (t70 ++ (ByteArray.mk #[120]))) fun w14 => 
  S0 (nb w) (nb w1) w14 R) (sel (t29 == 5) (∃ t76 : Sl, w9.cell? ((nb w).add 5) = some (t76.v) ∧ 
  nwV w9 (.cells #[.u (IntKind.wrap .u64 t21), .u 1, .s0] ty_enthymemeref06_Entry) fun w15 => 
  ∃ (t81 : Sl) (w16 : World), Sem.run Try.prog (Builtin.append_ #[ty_sl_enthymemeref06_Entry, ty_sl_enthymemeref06_Entry] ty_sl_enthymemeref06_Entry #[t76.v, .slice (some (nb w9)) 1 1]) w15 = .ok (t81.v) w16 ∧ stV w16 ((nb w).add 5) (t81.v) fun w17 => 
  S0 (nb w) (nb w1) w17 R) (sel (t29 == 6) (∃ t86 : Sl, w9.cell? ((nb w).add 5) = some (t86.v) ∧ 
  nwV w9 (.cells #[.u (IntKind.wrap .u64 t21), .u 0, .string (ByteArray.mk #[121])] ty_enthymemeref06_Entry) fun w18 => 
  ∃ (t91 : Sl) (w19 : World), Sem.run Try.prog (Builtin.append_ #[ty_sl_enthymemeref06_Entry, ty_sl_enthymemeref06_Entry] ty_sl_enthymemeref06_Entry #[t86.v, .slice (some (nb w9)) 1 1]) w18 = .ok (t91.v) w19 ∧ stV w19 ((nb w).add 5) (t91.v) fun w20 => 
  S0 (nb w) (nb w1) w20 R) (sel (t29 == 7) (∃ t96 : Sl, w9.cell? ((nb w).add 5) = some (t96.v) ∧ 
  sel (decide (((t96.n : Nat) : Int) > 0)) (∃ t100 : Sl, w9.cell? ((nb w).add 5) = some (t100.v) ∧ 
  (0 : Int) ≤ t27 ∧ t27 < ((t100.n : Nat) : Int) ∧ optP t100.a fun t104_p => stV w9 ((t104_p.add (Int.toNat t27 * 3)).add 1) (.u (IntKind.wrap .u64 t21)) fun w21 => 
  S0 (nb w) (nb w1) w21 R) (S0 (nb w) (nb w1) w9 R)) (∃ t31 : Sl, w9.cell? ((nb w).add 5) = some (t31.v) ∧ 
  sel (decide (((t31.n : Nat) : Int) > 0)) (drV w9 fun w22 => ∃ t35 : Sl, w22.cell? ((nb w).add 5) = some (t35.v) ∧ 
  ((nwV w22 (.cells #[.s0, .string (ByteArray.mk #[122]), .string (ByteArray.mk #[122, 122])] ty_string) fun w23 => 
  w23.cell? ((nb w).add 5) = some (t35.v) ∧ Calls Try.prog n_enthymemeref01_Around #[.i by3, .i 3] w23 fun r_ w24 => ∃ t39 : Int, r_ = .returned (.i t39) ∧ 
  w24.cell? ((nb w).add 5) = some (t35.v) ∧ (0 : Int) ≤ t39 ∧ t39 < ((3 : Nat) : Int) ∧ optP (some (nb w22)) fun t40_p => ∃ t41 : ByteArray, w24.cell? (t40_p.add (Int.toNat t39 * 1)) = some (.string t41) ∧ 
  (0 : Int) ≤ t27 ∧ t27 < ((t35.n : Nat) : Int) ∧ optP t35.a fun t42_p => stV w24 ((t42_p.add (Int.toNat t27 * 3)).add 2) (.string t41) fun w25 => 
  S0 (nb w) (nb w1) w25 R) ∧ (Calls Try.prog n_enthymemeref01_Around #[.i by3, .i 3] w22 fun r_ w26 => ∃ t39_x1 : Int, r_ = .returned (.i t39_x1) ∧ 
  w26.cell? ((nb w).add 5) = some (t35.v) ∧ nwV w26 (.cells #[.s0, .string (ByteArray.mk #[122]), .string (ByteArray.mk #[122, 122])] ty_string) fun w27 => 
  w27.cell? ((nb w).add 5) = some (t35.v) ∧ (0 : Int) ≤ t39_x1 ∧ t39_x1 < ((3 : Nat) : Int) ∧ optP (some (nb w26)) fun t40_x1_p => ∃ t41_x1 : ByteArray, w27.cell? (t40_x1_p.add (Int.toNat t39_x1 * 1)) = some (.string t41_x1) ∧ 
  (0 : Int) ≤ t27 ∧ t27 < ((t35.n : Nat) : Int) ∧ optP t35.a fun t42_x1_p => stV w27 ((t42_x1_p.add (Int.toNat t27 * 3)).add 2) (.string t41_x1) fun w28 => 
  S0 (nb w) (nb w1) w28 R))) (S0 (nb w) (nb w1) w9 R)))))))))) : Calls Try.prog n_enthymemeref06_Spoilt #[.agg #[.i v0_0, .i v0_1, .i v0_2, .u v0_3, .string v0_4, v0_5.v], .i at1, .i how2, .i by3] w R :=
  calls_of_WP' (R := R) (fn := Try.f39) (c := C0) (args := [.agg #[.i v0_0, .i v0_1, .i v0_2, .u v0_3, .string v0_4, v0_5.v], .i at1, .i how2, .i by3]) (by kernel_rfl) (by kernel_rfl) (by kernel_rfl) (sr C0 (show (fun (E : Env) (w : World) => srK Try.prog C0 (fun E w => srK Try.prog C1 (fun E w => srK Try.prog C2 (fun E w => srK Try.prog C3 (fun E w => srK Try.prog C7 (fun E w => srK Try.prog C9 (fun E w => condK (Env.val E (.tmp 44)) (rgK Try.prog C11 (fun E w => KE_S0 E w R) E w) (srK Try.prog C12 (fun E w => condK (Env.val E (.tmp 49)) (rgK Try.prog C14 (fun E w => KE_S0 E w R) E w) (srK Try.prog C15 (fun E w => condK (Env.val E (.tmp 54)) (rgK Try.prog C17 (fun E w => KE_S0 E w R) E w) (srK Try.prog C18 (fun E w => condK (Env.val E (.tmp 59)) (rgK Try.prog C20 (fun E w => KE_S0 E w R) E w) (srK Try.prog C21 (fun E w => condK (Env.val E (.tmp 67)) (rgK Try.prog C23 (fun E w => KE_S0 E w R) E w) (srK Try.prog C24 (fun E w => condK (Env.val E (.tmp 73)) (rgK Try.prog C26 (fun E w => KE_S0 E w R) E w) (srK Try.prog C27 (fun E w => condK (Env.val E (.tmp 83)) (rgK Try.prog C29 (fun E w => KE_S0 E w R) E w) (srK Try.prog C30 (fun E w => condK (Env.val E (.tmp 93)) (srK Try.prog C32 (fun E w => condK (Env.val E (.tmp 98)) (rgK Try.prog C34 (fun E w => KE_S0 E w R) E w) (KE_S0 E w R)) E w) (srK Try.prog C35 (fun E w => condK (Env.val E (.tmp 33)) (tgK Try.prog C37 (.one 0 (.one 1 (.one 2 (.one 4 (.fork (.one 3 (.one 5 (.one 6 (.one 7 (.one 8 (.one 9 (.one 10 .nil))))))) (.one 5 (.one 3 (.one 6 (.one 7 (.one 8 (.one 9 (.one 10 .nil)))))))))))) (fun E w => KE_S0 E w R) E w) (KE_S0 E w R)) E w)) E w)) E w)) E w)) E w)) E w)) E w)) E w)) E w) E w) E w) E w) E w) E w) (envOf 0 [.agg #[.i v0_0, .i v0_1, .i v0_2, .u v0_3, .string v0_4, v0_5.v], .i at1, .i how2, .i by3]) w from Eq.mp (by kernel_rfl) h) fun _ _ hK => (sr C1 hK fun _ _ hK => (sr C2 hK fun _ _ hK => (sr C3 hK fun _ _ hK => (sq C4 (sr C7 hK fun _ _ hK => (bk C8 0 (by kernel_rfl) (sr C9 hK fun _ _ hK => (cn C10 hK (fun hK => (rg C11 (by kernel_rfl) hK fun _ _ a hA hK => nx hA (KE_S0_ok R _ _ hK))) (fun hK => (sr C12 hK fun _ _ hK => (cn C13 hK (fun hK => (rg C14 (by kernel_rfl) hK fun _ _ a hA hK => nx hA (KE_S0_ok R _ _ hK))) (fun hK => (sr C15 hK fun _ _ hK => (cn C16 hK (fun hK => (rg C17 (by kernel_rfl) hK fun _ _ a hA hK => nx hA (KE_S0_ok R _ _ hK))) (fun hK => (sr C18 hK fun _ _ hK => (cn C19 hK (fun hK => (rg C20 (by kernel_rfl) hK fun _ _ a hA hK => nx hA (KE_S0_ok R _ _ hK))) (fun hK => (sr C21 hK fun _ _ hK => (cn C22 hK (fun hK => (rg C23 (by kernel_rfl) hK fun _ _ a hA hK => nx hA (KE_S0_ok R _ _ hK))) (fun hK => (sr C24 hK fun _ _ hK => (cn C25 hK (fun hK => (rg C26 (by kernel_rfl) hK fun _ _ a hA hK => nx hA (KE_S0_ok R _ _ hK))) (fun hK => (sr C27 hK fun _ _ hK => (cn C28 hK (fun hK => (rg C29 (by kernel_rfl) hK fun _ _ a hA hK => nx hA (KE_S0_ok R _ _ hK))) (fun hK => (sr C30 hK fun _ _ hK => (cn C31 hK (fun hK => (sr C32 hK fun _ _ hK => (cn C33 hK (fun hK => (rg C34 (by kernel_rfl) hK fun _ _ a hA hK => nx hA (KE_S0_ok R _ _ hK))) (fun hK => (sk C38 fun a hA => nx hA (KE_S0_ok R _ _ hK)))))) (fun hK => (sr C35 hK fun _ _ hK => (cn C36 hK (fun hK => (tg C37 (by kernel_rfl) hK fun _ _ a hA hK => nx hA (KE_S0_ok R _ _ hK))) (fun hK => (sk C39 fun a hA => nx hA (KE_S0_ok R _ _ hK))))))))))))))))))))))))))))))))))))
abbrev S0T (v4 : Nat) (v4_0 v4_1 v4_2 v4_3 : Int) (v4_4 : ByteArray) (v4_5 : Sl) (t8 : Nat) (t8_0 t8_1 t8_2 t8_3 : Int) (t8_4 : ByteArray) (t8_5 : Sl) (w : World) (R : Post) : Prop :=
  loc [v4, t8] w fun w6 => R (.returned (.agg #[.i v4_0, .i v4_1, .i v4_2, .u v4_3, .string v4_4, v4_5.v])) w6
theorem S0T_ok {v4 : Nat} {v4_0 v4_1 v4_2 v4_3 : Int} {v4_4 : ByteArray} {v4_5 : Sl} {t8 : Nat} {t8_0 t8_1 t8_2 t8_3 : Int} {t8_4 : ByteArray} {t8_5 : Sl} {w : World} {R : Post} (h : S0T v4 v4_0 v4_1 v4_2 v4_3 v4_4 v4_5 t8 t8_0 t8_1 t8_2 t8_3 t8_4 t8_5 w R) (H : LC w [(v4, [.i v4_0, .i v4_1, .i v4_2, .u v4_3, .string v4_4, v4_5.v], ty_enthymemeref06_Value), (t8, [.i t8_0, .i t8_1, .i t8_2, .u t8_3, .string t8_4, t8_5.v], ty_enthymemeref06_Value)]) : S0 (at0 v4) (at0 t8) w R := ⟨_, _, _, _, _, v4_5, H.ld 0 0, H.ld 0 1, H.ld 0 2, H.ld 0 3, H.ld 0 4, H.ld 0 5, LC.stT0 H 1 (Fr.refl _ _) rfl rfl fun w1 H f => LC.stT H 1 1 f rfl rfl fun w2 H f => LC.stT H 1 2 f rfl rfl fun w3 H f => LC.stT H 1 3 f rfl rfl fun w4 H f => LC.stT H 1 4 f rfl rfl fun w5 H f => LC.stT H 1 5 f rfl rfl fun w6 (H : LC w6 [(v4, [.i v4_0, .i v4_1, .i v4_2, .u v4_3, .string v4_4, v4_5.v], ty_enthymemeref06_Value), (t8, [.i v4_0, .i v4_1, .i v4_2, .u v4_3, .string v4_4, v4_5.v], ty_enthymemeref06_Value)]) (f : Fr (· ∈ [v4, t8]) _ w6) => ⟨_, _, _, _, _, v4_5, H.ld 1 0, H.ld 1 1, H.ld 1 2, H.ld 1 3, H.ld 1 4, H.ld 1 5, have h := h _ f; h⟩⟩
theorem okT (v0_0 v0_1 v0_2 v0_3 : Int) (v0_4 : ByteArray) (v0_5 : Sl) (at1 how2 by3 : Int) (w : World) (R : Post) (h : newV [] w fun b4 w1 => 
  newV [b4] w1 fun b8 w2 => 
  nwV w2 (.cells #[] ty_enthymemeref06_Entry) fun w3 => 
  ∃ (t14 : Sl) (w4 : World), Sem.run Try.prog (Builtin.append_ #[ty_sl_enthymemeref06_Entry, ty_sl_enthymemeref06_Entry] ty_sl_enthymemeref06_Entry #[.slice (some (nb w2)) 0 0, v0_5.v]) w3 = .ok (t14.v) w4 ∧ kept [b4, b8] w3 w4 ∧ loc [b4, b8] w4 fun w5 => nwV w5 (.cells #[.i by3, .i (-1), .i 0, .i 1, .i 16, .i 17, .i 64, .i 65] ty_int) fun w6 => 
  callF [b4, b8] Try.prog n_enthymemeref01_Around #[.i at1, .i 8] w6 fun r_ w7 => ∃ t19 : Int, r_ = .returned (.i t19) ∧ 
  (0 : Int) ≤ t19 ∧ t19 < ((8 : Nat) : Int) ∧ optP (some (nb w5)) fun t20_p => ∃ t21 : Int, w7.cell? (t20_p.add (Int.toNat t19 * 1)) = some (.i t21) ∧ 
  callF [b4, b8] Try.prog n_enthymemeref01_Around #[.i at1, .i (if 1 < ((t14.n : Nat) : Int) then ((t14.n : Nat) : Int) else 1)] w7 fun r_ w8 => ∃ t27 : Int, r_ = .returned (.i t27) ∧ 
  callF [b4, b8] Try.prog n_enthymemeref01_Around #[.i how2, .i 9] w8 fun r_ w9 => ∃ t29 : Int, r_ = .returned (.i t29) ∧ 
  sel (t29 == 0) (loc [b4, b8] w9 fun w10 => S0T b4 t21 v0_1 v0_2 v0_3 v0_4 t14 b8 0 0 0 0 (ByteArray.mk #[]) ⟨none, 0, 0⟩ w10 R) (sel (t29 == 1) (loc [b4, b8] w9 fun w11 => S0T b4 v0_0 t21 v0_2 v0_3 v0_4 t14 b8 0 0 0 0 (ByteArray.mk #[]) ⟨none, 0, 0⟩ w11 R) (sel (t29 == 2) (loc [b4, b8] w9 fun w12 => S0T b4 v0_0 v0_1 t21 v0_3 v0_4 t14 b8 0 0 0 0 (ByteArray.mk #[]) ⟨none, 0, 0⟩ w12 R) (sel (t29 == 3) (loc [b4, b8] w9 fun w13 => S0T b4 v0_0 v0_1 v0_2 (IntKind.wrap .u64 (v0_3 + (IntKind.wrap .u64 t21))) v0_4 t14 b8 0 0 0 0 (ByteArray.mk #[]) ⟨none, 0, 0⟩ w13 R) (sel (t29 == 4) (¬ (((v0_4.size + (ByteArray.mk #[120]).size : Nat) : Int) > IntKind.i64.max) ∧ loc [b4, b8] w9 fun w14 => S0T b4 v0_0 v0_1 v0_2 v0_3 (v0_4 ++ (ByteArray.mk #[120])) t14 b8 0 0 0 0 (ByteArray.mk #[]) ⟨none, 0, 0⟩ w14 R) (sel (t29 == 5) (nwV w9 (.cells #[.u (IntKind.wrap .u64 t21), .u 1, .s0] ty_enthymemeref06_Entry) fun w15 => 
  ∃ (t81 : Sl) (w16 : World), Sem.run Try.prog (Builtin.append_ #[ty_sl_enthymemeref06_Entry, ty_sl_enthymemeref06_Entry] ty_sl_enthymemeref06_Entry #[t14.v, .slice (some (nb w9)) 1 1]) w15 = .ok (t81.v) w16 ∧ kept [b4, b8] w15 w16 ∧ loc [b4, b8] w16 fun w17 => S0T b4 v0_0 v0_1 v0_2 v0_3 v0_4 t81 b8 0 0 0 0 (ByteArray.mk #[]) ⟨none, 0, 0⟩ w17 R) (sel (t29 == 6) (nwV w9 (.cells #[.u (IntKind.wrap .u64 t21), .u 0, .string (ByteArray.mk #[121])] ty_enthymemeref06_Entry) fun w18 => 
  ∃ (t91 : Sl) (w19 : World), Sem.run Try.prog (Builtin.append_ #[ty_sl_enthymemeref06_Entry, ty_sl_enthymemeref06_Entry] ty_sl_enthymemeref06_Entry #[t14.v, .slice (some (nb w9)) 1 1]) w18 = .ok (t91.v) w19 ∧ kept [b4, b8] w18 w19 ∧ loc [b4, b8] w19 fun w20 => S0T b4 v0_0 v0_1 v0_2 v0_3 v0_4 t91 b8 0 0 0 0 (ByteArray.mk #[]) ⟨none, 0, 0⟩ w20 R) (sel (t29 == 7) (sel (decide (((t14.n : Nat) : Int) > 0)) ((0 : Int) ≤ t27 ∧ t27 < ((t14.n : Nat) : Int) ∧ optP t14.a fun t104_p => stV w9 ((t104_p.add (Int.toNat t27 * 3)).add 1) (.u (IntKind.wrap .u64 t21)) fun w21 => kept [b4, b8] w9 w21 ∧ 
  S0T b4 v0_0 v0_1 v0_2 v0_3 v0_4 t14 b8 0 0 0 0 (ByteArray.mk #[]) ⟨none, 0, 0⟩ w21 R) (S0T b4 v0_0 v0_1 v0_2 v0_3 v0_4 t14 b8 0 0 0 0 (ByteArray.mk #[]) ⟨none, 0, 0⟩ w9 R)) (sel (decide (((t14.n : Nat) : Int) > 0)) (((loc [b4, b8] w9 fun w22 => nwV w22 (.cells #[.s0, .string (ByteArray.mk #[122]), .string (ByteArray.mk #[122, 122])] ty_string) fun w23 => 
  callF [b4, b8] Try.prog n_enthymemeref01_Around #[.i by3, .i 3] w23 fun r_ w24 => ∃ t39 : Int, r_ = .returned (.i t39) ∧ 
  (0 : Int) ≤ t39 ∧ t39 < ((3 : Nat) : Int) ∧ optP (some (nb w22)) fun t40_p => ∃ t41 : ByteArray, w24.cell? (t40_p.add (Int.toNat t39 * 1)) = some (.string t41) ∧ 
  (0 : Int) ≤ t27 ∧ t27 < ((t14.n : Nat) : Int) ∧ optP t14.a fun t42_p => stV w24 ((t42_p.add (Int.toNat t27 * 3)).add 2) (.string t41) fun w25 => kept [b4, b8] w24 w25 ∧ 
  S0T b4 v0_0 v0_1 v0_2 v0_3 v0_4 t14 b8 0 0 0 0 (ByteArray.mk #[]) ⟨none, 0, 0⟩ w25 R) ∧ (loc [b4, b8] w9 fun w22 => callF [b4, b8] Try.prog n_enthymemeref01_Around #[.i by3, .i 3] w22 fun r_ w26 => ∃ t39_x1 : Int, r_ = .returned (.i t39_x1) ∧ 
  nwV w26 (.cells #[.s0, .string (ByteArray.mk #[122]), .string (ByteArray.mk #[122, 122])] ty_string) fun w27 => 
  (0 : Int) ≤ t39_x1 ∧ t39_x1 < ((3 : Nat) : Int) ∧ optP (some (nb w26)) fun t40_x1_p => ∃ t41_x1 : ByteArray, w27.cell? (t40_x1_p.add (Int.toNat t39_x1 * 1)) = some (.string t41_x1) ∧ 
  (0 : Int) ≤ t27 ∧ t27 < ((t14.n : Nat) : Int) ∧ optP t14.a fun t42_x1_p => stV w27 ((t42_x1_p.add (Int.toNat t27 * 3)).add 2) (.string t41_x1) fun w28 => kept [b4, b8] w27 w28 ∧ 
  S0T b4 v0_0 v0_1 v0_2 v0_3 v0_4 t14 b8 0 0 0 0 (ByteArray.mk #[]) ⟨none, 0, 0⟩ w28 R))) (S0T b4 v0_0 v0_1 v0_2 v0_3 v0_4 t14 b8 0 0 0 0 (ByteArray.mk #[]) ⟨none, 0, 0⟩ w9 R)))))))))) : Calls Try.prog n_enthymemeref06_Spoilt #[.agg #[.i v0_0, .i v0_1, .i v0_2, .u v0_3, .string v0_4, v0_5.v], .i at1, .i how2, .i by3] w R :=
  ok _ _ _ _ _ _ _ _ _ w R (LC.nwT (LC.nil _) (Fr.refl _ _) h fun w1 H h => LC.nwT H (Fr.refl _ _) h fun w2 H h => LC.nwN H h fun w3 H h => ⟨v0_5, H.ld 0 5, let ⟨t14, w4, he, hk, h⟩ := h; have H := LC.keptT H hk; ⟨t14, w4, he, LC.stT H 0 5 (Fr.refl _ _) rfl rfl fun w5 (H : LC w5 [(w.heap.size, [.i v0_0, .i v0_1, .i v0_2, .u v0_3, .string v0_4, t14.v], ty_enthymemeref06_Value), (w1.heap.size, [.i 0, .i 0, .i 0, .u 0, .s0, .slice none 0 0], ty_enthymemeref06_Value)]) (f : Fr (· ∈ [w.heap.size, w1.heap.size]) _ w5) => have h := h _ f; LC.nwN H h fun w6 H h => LC.callT H h fun r_ w7 H h => let ⟨t19, hr, h⟩ := h; ⟨t19, hr, ⟨h.1, h.2.1, have h := h.2.2; optP_imp h fun t20_p h => let ⟨t21, hc0, h⟩ := h; ⟨t21, hc0, ⟨t14, H.ld 0 5, LC.callT H h fun r_ w8 H h => let ⟨t27, hr, h⟩ := h; ⟨t27, hr, LC.callT H h fun r_ w9 H h => let ⟨t29, hr, h⟩ := h; ⟨t29, hr, sel_imp h (fun h => LC.stT H 0 0 (Fr.refl _ _) rfl rfl fun w10 (H : LC w10 [(w.heap.size, [.i t21, .i v0_1, .i v0_2, .u v0_3, .string v0_4, t14.v], ty_enthymemeref06_Value), (w1.heap.size, [.i 0, .i 0, .i 0, .u 0, .s0, .slice none 0 0], ty_enthymemeref06_Value)]) (f : Fr (· ∈ [w.heap.size, w1.heap.size]) _ w10) => have h := h _ f; S0T_ok h H) (fun h => sel_imp h (fun h => LC.stT H 0 1 (Fr.refl _ _) rfl rfl fun w11 (H : LC w11 [(w.heap.size, [.i v0_0, .i t21, .i v0_2, .u v0_3, .string v0_4, t14.v], ty_enthymemeref06_Value), (w1.heap.size, [.i 0, .i 0, .i 0, .u 0, .s0, .slice none 0 0], ty_enthymemeref06_Value)]) (f : Fr (· ∈ [w.heap.size, w1.heap.size]) _ w11) => have h := h _ f; S0T_ok h H) (fun h => sel_imp h (fun h => LC.stT H 0 2 (Fr.refl _ _) rfl rfl fun w12 (H : LC w12 [(w.heap.size, [.i v0_0, .i v0_1, .i t21, .u v0_3, .string v0_4, t14.v], ty_enthymemeref06_Value), (w1.heap.size, [.i 0, .i 0, .i 0, .u 0, .s0, .slice none 0 0], ty_enthymemeref06_Value)]) (f : Fr (· ∈ [w.heap.size, w1.heap.size]) _ w12) => have h := h _ f; S0T_ok h H) (fun h => sel_imp h (fun h => ⟨_, H.ld 0 3, LC.stT H 0 3 (Fr.refl _ _) rfl rfl fun w13 (H : LC w13 [(w.heap.size, [.i v0_0, .i v0_1, .i v0_2, .u (IntKind.wrap .u64 (v0_3 + (IntKind.wrap .u64 t21))), .string v0_4, t14.v], ty_enthymemeref06_Value), (w1.heap.size, [.i 0, .i 0, .i 0, .u 0, .s0, .slice none 0 0], ty_enthymemeref06_Value)]) (f : Fr (· ∈ [w.heap.size, w1.heap.size]) _ w13) => have h := h _ f; S0T_ok h H⟩) (fun h => sel_imp h (fun h => ⟨_, H.ld 0 4, ⟨h.1, have h := h.2; LC.stT H 0 4 (Fr.refl _ _) rfl rfl fun w14 (H : LC w14 [(w.heap.size, [.i v0_0, .i v0_1, .i v0_2, .u v0_3, .string (v0_4 ++ (ByteArray.mk #[120])), t14.v], ty_enthymemeref06_Value), (w1.heap.size, [.i 0, .i 0, .i 0, .u 0, .s0, .slice none 0 0], ty_enthymemeref06_Value)]) (f : Fr (· ∈ [w.heap.size, w1.heap.size]) _ w14) => have h := h _ f; S0T_ok h H⟩⟩) (fun h => sel_imp h (fun h => ⟨t14, H.ld 0 5, LC.nwN H h fun w15 H h => let ⟨t81, w16, he, hk, h⟩ := h; have H := LC.keptT H hk; ⟨t81, w16, he, LC.stT H 0 5 (Fr.refl _ _) rfl rfl fun w17 (H : LC w17 [(w.heap.size, [.i v0_0, .i v0_1, .i v0_2, .u v0_3, .string v0_4, t81.v], ty_enthymemeref06_Value), (w1.heap.size, [.i 0, .i 0, .i 0, .u 0, .s0, .slice none 0 0], ty_enthymemeref06_Value)]) (f : Fr (· ∈ [w.heap.size, w1.heap.size]) _ w17) => have h := h _ f; S0T_ok h H⟩⟩) (fun h => sel_imp h (fun h => ⟨t14, H.ld 0 5, LC.nwN H h fun w18 H h => let ⟨t91, w19, he, hk, h⟩ := h; have H := LC.keptT H hk; ⟨t91, w19, he, LC.stT H 0 5 (Fr.refl _ _) rfl rfl fun w20 (H : LC w20 [(w.heap.size, [.i v0_0, .i v0_1, .i v0_2, .u v0_3, .string v0_4, t91.v], ty_enthymemeref06_Value), (w1.heap.size, [.i 0, .i 0, .i 0, .u 0, .s0, .slice none 0 0], ty_enthymemeref06_Value)]) (f : Fr (· ∈ [w.heap.size, w1.heap.size]) _ w20) => have h := h _ f; S0T_ok h H⟩⟩) (fun h => sel_imp h (fun h => ⟨t14, H.ld 0 5, sel_imp h (fun h => ⟨t14, H.ld 0 5, ⟨h.1, h.2.1, have h := h.2.2; optP_imp h fun t104_p h => stV_imp h fun w21 h => have H := LC.keptT H h.1; have h := h.2; S0T_ok h H⟩⟩) (fun h => S0T_ok h H)⟩) (fun h => ⟨t14, H.ld 0 5, sel_imp h (fun h => LC.drT H (Fr.refl _ _) fun w22 H f => ⟨t14, H.ld 0 5, ⟨have h := h.1; have h := h _ f; LC.nwN H h fun w23 H h => ⟨H.ld 0 5, LC.callT H h fun r_ w24 H h => let ⟨t39, hr, h⟩ := h; ⟨t39, hr, ⟨H.ld 0 5, ⟨h.1, h.2.1, have h := h.2.2; optP_imp h fun t40_p h => let ⟨t41, hc0, h⟩ := h; ⟨t41, hc0, ⟨h.1, h.2.1, have h := h.2.2; optP_imp h fun t42_p h => stV_imp h fun w25 h => have H := LC.keptT H h.1; have h := h.2; S0T_ok h H⟩⟩⟩⟩⟩⟩, have h := h.2; have h := h _ f; LC.callT H h fun r_ w26 H h => let ⟨t39_x1, hr, h⟩ := h; ⟨t39_x1, hr, ⟨H.ld 0 5, LC.nwN H h fun w27 H h => ⟨H.ld 0 5, ⟨h.1, h.2.1, have h := h.2.2; optP_imp h fun t40_x1_p h => let ⟨t41_x1, hc0, h⟩ := h; ⟨t41_x1, hc0, ⟨h.1, h.2.1, have h := h.2.2; optP_imp h fun t42_x1_p h => stV_imp h fun w28 h => have H := LC.keptT H h.1; have h := h.2; S0T_ok h H⟩⟩⟩⟩⟩⟩⟩⟩) (fun h => S0T_ok h H)⟩))))))))⟩⟩⟩⟩⟩⟩⟩⟩)
end enthymemeref06_Spoilt
end Go.Proofs.Ytjjhfdjpmonlaaa

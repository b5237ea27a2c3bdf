/- Printed by a program of ours (vcgen.py) from the dump: the conditions of the functions, and that they suffice. -/
import Derived.Test.YtjjhfdjpmonlaaaVQ
import Derived.Test.YtjjhfdjpmonlaaaY
set_option linter.unusedVariables false
set_option maxRecDepth 100000
set_option maxHeartbeats 2000000
namespace Go.Proofs.Ytjjhfdjpmonlaaa
open Go
namespace enthymemeref06_Sort
noncomputable def C0 : Code := (Try.f38.body).getD .skip
noncomputable def C1 := W.Code.snd C0
noncomputable def C2 := W.Code.snd C1
noncomputable def C3 := W.Code.snd C2
noncomputable def C4 := W.Code.snd C3
noncomputable def C5 := W.Code.snd C4
abbrev Q0 (R : W.Post) : Exit → Act → World → Prop := (bodyPost Try.prog Try.f38 R)
noncomputable def C6 := W.Code.snd C5
/-- ref.go:283 -/
abbrev S2 (t2 out4 : Addr) (w : World) (R : W.Post) : Prop :=
  ∃ t40_0 : Int, ∃ t40_1 : Int, ∃ t40_2 : Int, w.cell? (out4.add 0) = some (.int .i64 t40_0) ∧ w.cell? (out4.add 1) = some (.int .i64 t40_1) ∧ w.cell? (out4.add 2) = some (.int .i64 t40_2) ∧ 
  W.stV w t2 (.int .i64 t40_0) fun w1 => 
  W.stV w1 (t2.add 1) (.int .i64 t40_1) fun w2 => 
  W.stV w2 (t2.add 2) (.int .i64 t40_2) fun w3 => 
  ∃ r2_0 : Int, ∃ r2_1 : Int, ∃ r2_2 : Int, w3.cell? (t2.add 0) = some (.int .i64 r2_0) ∧ w3.cell? (t2.add 1) = some (.int .i64 r2_1) ∧ w3.cell? (t2.add 2) = some (.int .i64 r2_2) ∧ 
  R (.returned (.agg #[.int .i64 r2_0, .int .i64 r2_1, .int .i64 r2_2])) w3
def KE_S2 (E : W.Env) (w : World) (R : W.Post) : Prop := W.asRef (W.Env.get? E 2) fun t2 => W.asRef (W.Env.get? E 4) fun out4 => S2 t2 out4 w R
theorem KE_S2_ok (R : W.Post) (E : W.Env) (w : World) (h : KE_S2 E w R) : W.WP Try.prog (W.cx 41) C5 (Q0 R) E w := by
  obtain ⟨t2, hq2, h_1⟩ := W.asRef_elim h
  obtain ⟨out4, hq4, h_2⟩ := W.asRef_elim h_1
  exact fun a ha => W.WP.at (E := [(2, .pointer (some t2)), (4, .pointer (some out4))]) (W.sr C5 (K := fun E w => W.retVC Try.prog Try.f38 E w (fun v => R (.returned v) w)) (by kernel_rfl) (Eq.mp (by kernel_rfl) h_2) fun _ _ hK => (W.rt C6 (by kernel_rfl) fun a hA => W.retVC_sound hA hK)) (ha.cons hq2 (ha.cons hq4 ha.nil))
noncomputable def C7 := W.Code.fst C4
noncomputable def C8 := W.Code.snd C7
noncomputable def C9 := W.Code.fst C8
abbrev Q1 (R : W.Post) : Exit → Act → World → Prop := (Exit.then (W.wpx Try.prog (W.cx 41) C5 (bodyPost Try.prog Try.f38 R)) (bodyPost Try.prog Try.f38 R))
/-- ref.go:281 -/
abbrev S1 (t2 out4 : Addr) (w : World) (R : W.Post) : Prop :=
  W.stV w (out4.add 1) (.int .i64 0) fun w1 => 
  S2 t2 out4 w1 R
def KE_S1 (E : W.Env) (w : World) (R : W.Post) : Prop := W.asRef (W.Env.get? E 2) fun t2 => W.asRef (W.Env.get? E 4) fun out4 => S1 t2 out4 w R
theorem KE_S1_ok (R : W.Post) (E : W.Env) (w : World) (h : KE_S1 E w R) : W.WP Try.prog (W.cx 41) C9 (Q1 R) E w := by
  obtain ⟨t2, hq2, h_1⟩ := W.asRef_elim h
  obtain ⟨out4, hq4, h_2⟩ := W.asRef_elim h_1
  exact fun a ha => W.WP.at (E := [(2, .pointer (some t2)), (4, .pointer (some out4))]) (W.rg C9 (K := fun E w => KE_S2 E w R) (by kernel_rfl) (Eq.mp (by kernel_rfl) h_2) fun _ _ a hA hK => W.nx hA (KE_S2_ok R _ _ hK)) (ha.cons hq2 (ha.cons hq4 ha.nil))
noncomputable def C10 := W.Code.snd C8
/-- ref.go:280 -/
abbrev S0 (t2 : Addr) (k3 : Int) (out4 : Addr) (w : World) (R : W.Post) : Prop :=
  W.sel ((Int.tmod (IntKind.wrap .i64 (Int.tdiv k3 120)) 9) == 0) (∃ t31 : Int, w.cell? (out4.add 0) = some (.int .i64 t31) ∧ 
  W.sel (t31 == 1) (S1 t2 out4 w R) (∃ t35 : Int, w.cell? (out4.add 0) = some (.int .i64 t35) ∧ 
  W.sel (t35 == 3) (S1 t2 out4 w R) (S2 t2 out4 w R))) (S2 t2 out4 w R)
def KE_S0 (E : W.Env) (w : World) (R : W.Post) : Prop := W.asRef (W.Env.get? E 2) fun t2 => W.asInt .i64 (W.Env.get? E 3) fun k3 => W.asRef (W.Env.get? E 4) fun out4 => S0 t2 k3 out4 w R
theorem KE_S0_ok (R : W.Post) (E : W.Env) (w : World) (h : KE_S0 E w R) : W.WP Try.prog (W.cx 41) C7 (Q1 R) E w := by
  obtain ⟨t2, hq2, h_1⟩ := W.asRef_elim h
  obtain ⟨k3, hq3, h_2⟩ := W.asInt_elim h_1
  obtain ⟨out4, hq4, h_3⟩ := W.asRef_elim h_2
  exact fun a ha => W.WP.at (E := [(2, .pointer (some t2)), (3, .int .i64 k3), (4, .pointer (some out4))]) (W.sr C7 (K := fun E w => W.condK (W.Env.val E (.tmp 38)) (KE_S1 E w R) (KE_S2 E w R)) (by kernel_rfl) (Eq.mp (by kernel_rfl) h_3) fun _ _ hK => (W.cn C8 (by kernel_rfl) hK (fun hK => (KE_S1_ok R _ _ hK)) (fun hK => (W.sk C10 (by kernel_rfl) fun a hA => W.nx hA (KE_S2_ok R _ _ hK))))) (ha.cons hq2 (ha.cons hq3 (ha.cons hq4 ha.nil)))
/-- enthymeme/enthymemeref06.Sort -/
noncomputable def C11 := W.Code.fst C3
noncomputable def C12 := W.Code.snd C11
noncomputable def C13 := W.Code.fst C12
noncomputable def C14 := W.Code.snd C12
theorem ok (n0 : Int) (w : World) (R : W.Post) (h : W.nwV w (.cells #[.int .i64 0, .int .i64 0, .int .i64 0] ty_api_Sort) fun w1 => 
  Calls Try.prog n_enthymemeref01_Around #[.int .i64 n0, .int .i64 1048576] w1 fun r_ w2 => ∃ t6 : Int, r_ = .returned (.int .i64 t6) ∧ 
  W.nwV w2 (.cells #[.int .i64 1, .int .i64 2, .int .i64 3, .int .i64 4, .int .i64 8, .int .i64 64] ty_int) fun w3 => 
  (0 : Int) ≤ (Int.tmod (IntKind.wrap .i64 (Int.tdiv t6 4)) 6) ∧ (Int.tmod (IntKind.wrap .i64 (Int.tdiv t6 4)) 6) < ((6 : Nat) : Int) ∧ W.optP (some (Addr.mk w2.heap.size 0 none)) fun t13_p => ∃ t14 : Int, w3.cell? (t13_p.add (Int.toNat (Int.tmod (IntKind.wrap .i64 (Int.tdiv t6 4)) 6) * 1)) = some (.int .i64 t14) ∧ 
  W.nwV w3 (.cells #[.int .i64 0, .int .i64 0, .int .i64 0] ty_api_Sort) fun w4 => 
  W.stV w4 (Addr.mk w3.heap.size 0 none) (.int .i64 (Int.tmod t6 4)) fun w5 => 
  W.stV w5 ((Addr.mk w3.heap.size 0 none).add 1) (.int .i64 t14) fun w6 => 
  W.stV w6 ((Addr.mk w3.heap.size 0 none).add 2) (.int .i64 0) fun w7 => 
  ∃ t16_0 : Int, ∃ t16_1 : Int, ∃ t16_2 : Int, w7.cell? ((Addr.mk w3.heap.size 0 none).add 0) = some (.int .i64 t16_0) ∧ w7.cell? ((Addr.mk w3.heap.size 0 none).add 1) = some (.int .i64 t16_1) ∧ w7.cell? ((Addr.mk w3.heap.size 0 none).add 2) = some (.int .i64 t16_2) ∧ 
  Calls Try.prog n_enthymemeref06_Array #[.agg #[.int .i64 t16_0, .int .i64 t16_1, .int .i64 t16_2]] w7 fun r_ w8 => ∃ t17 : Bool, r_ = .returned (.bool t17) ∧ 
  W.sel t17 (W.nwV w8 (.cells #[.int .i64 1, .int .i64 2, .int .i64 2, .int .i64 3, .int .i64 16] ty_int) fun w9 => 
  (0 : Int) ≤ (Int.tmod (IntKind.wrap .i64 (Int.tdiv t6 24)) 5) ∧ (Int.tmod (IntKind.wrap .i64 (Int.tdiv t6 24)) 5) < ((5 : Nat) : Int) ∧ W.optP (some (Addr.mk w8.heap.size 0 none)) fun t22_p => ∃ t23 : Int, w9.cell? (t22_p.add (Int.toNat (Int.tmod (IntKind.wrap .i64 (Int.tdiv t6 24)) 5) * 1)) = some (.int .i64 t23) ∧ 
  W.stV w9 ((Addr.mk w3.heap.size 0 none).add 2) (.int .i64 t23) fun w10 => 
  S0 (Addr.mk w.heap.size 0 none) t6 (Addr.mk w3.heap.size 0 none) w10 R) (S0 (Addr.mk w.heap.size 0 none) t6 (Addr.mk w3.heap.size 0 none) w8 R)) : Calls Try.prog n_enthymemeref06_Sort #[.int .i64 n0] w R :=
  W.calls_of_WP' (R := R) (fn := Try.f38) (c := C0) (args := [.int .i64 n0]) (by kernel_rfl) (by kernel_rfl) (by kernel_rfl) (W.sr C0 (by kernel_rfl) (show (fun (E : W.Env) (w : World) => W.srK Try.prog C0 (fun E w => W.srK Try.prog C1 (fun E w => W.srK Try.prog C2 (fun E w => W.srK Try.prog C11 (fun E w => W.condK (W.Env.val E (.tmp 17)) (W.rgK Try.prog C13 (fun E w => KE_S0 E w R) E w) (KE_S0 E w R)) E w) E w) E w) E w) (W.envOf 0 [.int .i64 n0]) w from Eq.mp (by kernel_rfl) h) fun _ _ hK => (W.sr C1 (by kernel_rfl) hK fun _ _ hK => (W.sr C2 (by kernel_rfl) hK fun _ _ hK => (W.sq C3 (by kernel_rfl) (W.sr C11 (by kernel_rfl) hK fun _ _ hK => (W.cn C12 (by kernel_rfl) hK (fun hK => (W.rg C13 (by kernel_rfl) hK fun _ _ a hA hK => W.nx hA (W.sq C4 (by kernel_rfl) (KE_S0_ok R _ _ hK)))) (fun hK => (W.sk C14 (by kernel_rfl) fun a hA => W.nx hA (W.sq C4 (by kernel_rfl) (KE_S0_ok R _ _ hK))))))))))
abbrev S2T (t2 : Nat) (t2_0 t2_1 t2_2 : Int) (out4 : Nat) (out4_0 out4_1 out4_2 : Int) (w : World) (R : W.Post) : Prop :=
  W.loc [t2, out4] w fun w3 => R (.returned (.agg #[.int .i64 out4_0, .int .i64 out4_1, .int .i64 out4_2])) w3
theorem S2T_ok {t2 : Nat} {t2_0 t2_1 t2_2 : Int} {out4 : Nat} {out4_0 out4_1 out4_2 : Int} {w : World} {R : W.Post} (h : S2T t2 t2_0 t2_1 t2_2 out4 out4_0 out4_1 out4_2 w R) (H : W.LC w [(t2, [.int .i64 t2_0, .int .i64 t2_1, .int .i64 t2_2], ty_api_Sort), (out4, [.int .i64 out4_0, .int .i64 out4_1, .int .i64 out4_2], ty_api_Sort)]) : S2 (W.at0 t2) (W.at0 out4) w R := ⟨_, _, _, H.ld 1 0, H.ld 1 1, H.ld 1 2, W.LC.stT0 H 0 (W.Fr.refl _ _) rfl rfl fun w1 H f => W.LC.stT H 0 1 f rfl rfl fun w2 H f => W.LC.stT H 0 2 f rfl rfl fun w3 (H : W.LC w3 [(t2, [.int .i64 out4_0, .int .i64 out4_1, .int .i64 out4_2], ty_api_Sort), (out4, [.int .i64 out4_0, .int .i64 out4_1, .int .i64 out4_2], ty_api_Sort)]) (f : W.Fr (· ∈ [t2, out4]) _ w3) => ⟨_, _, _, H.ld 0 0, H.ld 0 1, H.ld 0 2, have h := h _ f; h⟩⟩
abbrev S1T (t2 : Nat) (t2_0 t2_1 t2_2 : Int) (out4 : Nat) (out4_0 out4_1 out4_2 : Int) (w : World) (R : W.Post) : Prop :=
  W.loc [t2, out4] w fun w1 => S2T t2 t2_0 t2_1 t2_2 out4 out4_0 0 out4_2 w1 R
theorem S1T_ok {t2 : Nat} {t2_0 t2_1 t2_2 : Int} {out4 : Nat} {out4_0 out4_1 out4_2 : Int} {w : World} {R : W.Post} (h : S1T t2 t2_0 t2_1 t2_2 out4 out4_0 out4_1 out4_2 w R) (H : W.LC w [(t2, [.int .i64 t2_0, .int .i64 t2_1, .int .i64 t2_2], ty_api_Sort), (out4, [.int .i64 out4_0, .int .i64 out4_1, .int .i64 out4_2], ty_api_Sort)]) : S1 (W.at0 t2) (W.at0 out4) w R := W.LC.stT H 1 1 (W.Fr.refl _ _) rfl rfl fun w1 (H : W.LC w1 [(t2, [.int .i64 t2_0, .int .i64 t2_1, .int .i64 t2_2], ty_api_Sort), (out4, [.int .i64 out4_0, .int .i64 0, .int .i64 out4_2], ty_api_Sort)]) (f : W.Fr (· ∈ [t2, out4]) _ w1) => have h := h _ f; S2T_ok h H
abbrev S0T (t2 : Nat) (t2_0 t2_1 t2_2 k3 : Int) (out4 : Nat) (out4_0 out4_1 out4_2 : Int) (w : World) (R : W.Post) : Prop :=
  W.sel ((Int.tmod (IntKind.wrap .i64 (Int.tdiv k3 120)) 9) == 0) (W.sel (out4_0 == 1) (S1T t2 t2_0 t2_1 t2_2 out4 out4_0 out4_1 out4_2 w R) (W.sel (out4_0 == 3) (S1T t2 t2_0 t2_1 t2_2 out4 out4_0 out4_1 out4_2 w R) (S2T t2 t2_0 t2_1 t2_2 out4 out4_0 out4_1 out4_2 w R))) (S2T t2 t2_0 t2_1 t2_2 out4 out4_0 out4_1 out4_2 w R)
theorem S0T_ok {t2 : Nat} {t2_0 t2_1 t2_2 k3 : Int} {out4 : Nat} {out4_0 out4_1 out4_2 : Int} {w : World} {R : W.Post} (h : S0T t2 t2_0 t2_1 t2_2 k3 out4 out4_0 out4_1 out4_2 w R) (H : W.LC w [(t2, [.int .i64 t2_0, .int .i64 t2_1, .int .i64 t2_2], ty_api_Sort), (out4, [.int .i64 out4_0, .int .i64 out4_1, .int .i64 out4_2], ty_api_Sort)]) : S0 (W.at0 t2) k3 (W.at0 out4) w R := W.sel_imp h (fun h => ⟨_, H.ld 1 0, W.sel_imp h (fun h => S1T_ok h H) (fun h => ⟨_, H.ld 1 0, W.sel_imp h (fun h => S1T_ok h H) (fun h => S2T_ok h H)⟩)⟩) (fun h => S2T_ok h H)
theorem okT (n0 : Int) (w : World) (R : W.Post) (h : W.newV [] w fun b2 w1 => 
  W.callF [b2] Try.prog n_enthymemeref01_Around #[.int .i64 n0, .int .i64 1048576] w1 fun r_ w2 => ∃ t6 : Int, r_ = .returned (.int .i64 t6) ∧ 
  W.nwV w2 (.cells #[.int .i64 1, .int .i64 2, .int .i64 3, .int .i64 4, .int .i64 8, .int .i64 64] ty_int) fun w3 => 
  (0 : Int) ≤ (Int.tmod (IntKind.wrap .i64 (Int.tdiv t6 4)) 6) ∧ (Int.tmod (IntKind.wrap .i64 (Int.tdiv t6 4)) 6) < ((6 : Nat) : Int) ∧ W.optP (some (Addr.mk w2.heap.size 0 none)) fun t13_p => ∃ t14 : Int, w3.cell? (t13_p.add (Int.toNat (Int.tmod (IntKind.wrap .i64 (Int.tdiv t6 4)) 6) * 1)) = some (.int .i64 t14) ∧ 
  W.newV [b2] w3 fun b4 w4 => 
  W.loc [b2, b4] w4 fun w7 => W.callF [b2, b4] Try.prog n_enthymemeref06_Array #[.agg #[.int .i64 (Int.tmod t6 4), .int .i64 t14, .int .i64 0]] w7 fun r_ w8 => ∃ t17 : Bool, r_ = .returned (.bool t17) ∧ 
  W.sel t17 (W.nwV w8 (.cells #[.int .i64 1, .int .i64 2, .int .i64 2, .int .i64 3, .int .i64 16] ty_int) fun w9 => 
  (0 : Int) ≤ (Int.tmod (IntKind.wrap .i64 (Int.tdiv t6 24)) 5) ∧ (Int.tmod (IntKind.wrap .i64 (Int.tdiv t6 24)) 5) < ((5 : Nat) : Int) ∧ W.optP (some (Addr.mk w8.heap.size 0 none)) fun t22_p => ∃ t23 : Int, w9.cell? (t22_p.add (Int.toNat (Int.tmod (IntKind.wrap .i64 (Int.tdiv t6 24)) 5) * 1)) = some (.int .i64 t23) ∧ 
  W.loc [b2, b4] w9 fun w10 => S0T b2 0 0 0 t6 b4 (Int.tmod t6 4) t14 t23 w10 R) (S0T b2 0 0 0 t6 b4 (Int.tmod t6 4) t14 0 w8 R)) : Calls Try.prog n_enthymemeref06_Sort #[.int .i64 n0] w R :=
  ok _ w R (W.LC.nwT (W.LC.nil _) (W.Fr.refl _ _) h fun w1 H h => W.LC.callT H h fun r_ w2 H h => let ⟨t6, hr, h⟩ := h; ⟨t6, hr, W.LC.nwN H h fun w3 H h => ⟨h.1, h.2.1, have h := h.2.2; W.optP_imp h fun t13_p h => let ⟨t14, hc0, h⟩ := h; ⟨t14, hc0, W.LC.nwT H (W.Fr.refl _ _) h fun w4 H h => W.LC.stT0 H 1 (W.Fr.refl _ _) rfl rfl fun w5 H f => W.LC.stT H 1 1 f rfl rfl fun w6 H f => W.LC.stT H 1 2 f rfl rfl fun w7 (H : W.LC w7 [(w.heap.size, [.int .i64 0, .int .i64 0, .int .i64 0], ty_api_Sort), (w3.heap.size, [.int .i64 (Int.tmod t6 4), .int .i64 t14, .int .i64 0], ty_api_Sort)]) (f : W.Fr (· ∈ [w.heap.size, w3.heap.size]) _ w7) => ⟨_, _, _, H.ld 1 0, H.ld 1 1, H.ld 1 2, have h := h _ f; W.LC.callT H h fun r_ w8 H h => let ⟨t17, hr, h⟩ := h; ⟨t17, hr, W.sel_imp h (fun h => W.LC.nwN H h fun w9 H h => ⟨h.1, h.2.1, have h := h.2.2; W.optP_imp h fun t22_p h => let ⟨t23, hc0, h⟩ := h; ⟨t23, hc0, W.LC.stT H 1 2 (W.Fr.refl _ _) rfl rfl fun w10 (H : W.LC w10 [(w.heap.size, [.int .i64 0, .int .i64 0, .int .i64 0], ty_api_Sort), (w3.heap.size, [.int .i64 (Int.tmod t6 4), .int .i64 t14, .int .i64 t23], ty_api_Sort)]) (f : W.Fr (· ∈ [w.heap.size, w3.heap.size]) _ w10) => have h := h _ f; S0T_ok h H⟩⟩) (fun h => S0T_ok h H)⟩⟩⟩⟩⟩)
end enthymemeref06_Sort
namespace enthymemeref06_Bits
noncomputable def C0 : Code := (Try.f45.body).getD .skip
noncomputable def C1 := W.Code.snd C0
noncomputable def C2 := W.Code.snd C1
noncomputable def C3 := W.Code.snd C2
noncomputable def C4 := W.Code.snd C3
abbrev Q0 (R : W.Post) : Exit → Act → World → Prop := (bodyPost Try.prog Try.f45 R)
noncomputable def C5 := W.Code.snd C4
/-- ref.go:295 -/
abbrev S1 (k5 : Int) (w : World) (R : W.Post) : Prop :=
  R (.returned (.int .u64 k5)) w
def KE_S1 (E : W.Env) (w : World) (R : W.Post) : Prop := W.asInt .u64 (W.Env.get? E 5) fun k5 => S1 k5 w R
theorem KE_S1_ok (R : W.Post) (E : W.Env) (w : World) (h : KE_S1 E w R) : W.WP Try.prog (W.cx 24) C4 (Q0 R) E w := by
  obtain ⟨k5, hq5, h_1⟩ := W.asInt_elim h
  exact fun a ha => W.WP.at (E := [(5, .int .u64 k5)]) (W.sr C4 (K := fun E w => W.retVC Try.prog Try.f45 E w (fun v => R (.returned v) w)) (by kernel_rfl) (Eq.mp (by kernel_rfl) h_1) fun _ _ hK => (W.rt C5 (by kernel_rfl) fun a hA => W.retVC_sound hA hK)) (ha.cons hq5 ha.nil)
noncomputable def C6 := W.Code.fst C3
abbrev Q1 (R : W.Post) : Exit → Act → World → Prop := (Exit.then (W.wpx Try.prog (W.cx 24) C4 (bodyPost Try.prog Try.f45 R)) (bodyPost Try.prog Try.f45 R))
noncomputable def C7 := W.Code.snd C6
noncomputable def C8 := W.Code.fst C7
noncomputable def C9 := W.Code.snd C7
/-- ref.go:292 -/
abbrev S0 (bits1 k5 : Int) (w : World) (R : W.Post) : Prop :=
  W.sel (decide (bits1 < 64)) (¬ (IntKind.wrap .u64 bits1) < 0 ∧ (IntKind.wrap .u64 (1 * 2 ^ (min (Int.toNat (IntKind.wrap .u64 bits1)) (IntKind.bits .u64)))) ≠ 0 ∧ S1 (Int.tmod k5 (IntKind.wrap .u64 (1 * 2 ^ (min (Int.toNat (IntKind.wrap .u64 bits1)) (IntKind.bits .u64))))) w R) (S1 k5 w R)
def KE_S0 (E : W.Env) (w : World) (R : W.Post) : Prop := W.asInt .i64 (W.Env.get? E 1) fun bits1 => W.asInt .u64 (W.Env.get? E 5) fun k5 => S0 bits1 k5 w R
theorem KE_S0_ok (R : W.Post) (E : W.Env) (w : World) (h : KE_S0 E w R) : W.WP Try.prog (W.cx 24) C6 (Q1 R) E w := by
  obtain ⟨bits1, hq1, h_1⟩ := W.asInt_elim h
  obtain ⟨k5, hq5, h_2⟩ := W.asInt_elim h_1
  exact fun a ha => W.WP.at (E := [(1, .int .i64 bits1), (5, .int .u64 k5)]) (W.sr C6 (K := fun E w => W.condK (W.Env.val E (.tmp 17)) (W.rgK Try.prog C8 (fun E w => KE_S1 E w R) E w) (KE_S1 E w R)) (by kernel_rfl) (Eq.mp (by kernel_rfl) h_2) fun _ _ hK => (W.cn C7 (by kernel_rfl) hK (fun hK => (W.rg C8 (by kernel_rfl) hK fun _ _ a hA hK => W.nx hA (KE_S1_ok R _ _ hK))) (fun hK => (W.sk C9 (by kernel_rfl) fun a hA => W.nx hA (KE_S1_ok R _ _ hK))))) (ha.cons hq1 (ha.cons hq5 ha.nil))
/-- enthymeme/enthymemeref06.Bits -/
noncomputable def C10 := W.Code.fst C2
noncomputable def C11 := W.Code.snd C10
noncomputable def C12 := W.Code.fst C11
noncomputable def C13 := W.Code.snd C11
theorem ok (n0 bits1 : Int) (w : World) (R : W.Post) (h : Calls Try.prog n_enthymemeref01_Around #[.int .i64 n0, .int .i64 1073741824] w fun r_ w1 => ∃ t7 : Int, r_ = .returned (.int .i64 t7) ∧ 
  W.sel ((Int.tmod (IntKind.wrap .u64 t7) 5) == 0) (S0 bits1 (IntKind.wrap .u64 (18446744073709551615 - (Int.tmod (IntKind.wrap .u64 (Int.tdiv (IntKind.wrap .u64 t7) 5)) 3))) w1 R) (S0 bits1 (IntKind.wrap .u64 t7) w1 R)) : Calls Try.prog n_enthymemeref06_Bits #[.int .i64 n0, .int .i64 bits1] w R :=
  W.calls_of_WP' (R := R) (fn := Try.f45) (c := C0) (args := [.int .i64 n0, .int .i64 bits1]) (by kernel_rfl) (by kernel_rfl) (by kernel_rfl) (W.sr C0 (by kernel_rfl) (show (fun (E : W.Env) (w : World) => W.srK Try.prog C0 (fun E w => W.srK Try.prog C1 (fun E w => W.srK Try.prog C10 (fun E w => W.condK (W.Env.val E (.tmp 11)) (W.rgK Try.prog C12 (fun E w => KE_S0 E w R) E w) (KE_S0 E w R)) E w) E w) E w) (W.envOf 0 [.int .i64 n0, .int .i64 bits1]) w from Eq.mp (by kernel_rfl) h) fun _ _ hK => (W.sr C1 (by kernel_rfl) hK fun _ _ hK => (W.sq C2 (by kernel_rfl) (W.sr C10 (by kernel_rfl) hK fun _ _ hK => (W.cn C11 (by kernel_rfl) hK (fun hK => (W.rg C12 (by kernel_rfl) hK fun _ _ a hA hK => W.nx hA (W.sq C3 (by kernel_rfl) (KE_S0_ok R _ _ hK)))) (fun hK => (W.sk C13 (by kernel_rfl) fun a hA => W.nx hA (W.sq C3 (by kernel_rfl) (KE_S0_ok R _ _ hK)))))))))
end enthymemeref06_Bits
namespace enthymemeref06_Short
noncomputable def C0 : Code := (Try.f47.body).getD .skip
noncomputable def C1 := W.Code.snd C0
noncomputable def C2 := W.Code.snd C1
noncomputable def C3 := W.Code.snd C2
noncomputable def C4 := W.Code.fst C3
noncomputable def C5 := W.Code.snd C4
noncomputable def C6 := W.Code.fst C5
noncomputable def C7 := W.Code.fst C6
noncomputable def C8 := W.Code.snd C3
abbrev Q0 (R : W.Post) : Exit → Act → World → Prop := (Exit.then (W.wpx Try.prog (W.cx 33) C8 (bodyPost Try.prog Try.f47 R)) (bodyPost Try.prog Try.f47 R))
abbrev Q1 (R : W.Post) : Exit → Act → World → Prop := (Exit.inBlock 0 (Q0 R))
/-- the head of the loop, ref.go:302 -/
def L0 (most1 k5 : Int) (out6 : ByteArray) (i7 : Int) (w : World) (R : W.Post) : Prop := W.LP Try.prog (W.cx 33) C7 (Q1 R) [(1, .int .i64 most1), (5, .int .i64 k5), (6, .string out6), (7, .int .i64 i7)] w
def KE_L0 (E : W.Env) (w : World) (R : W.Post) : Prop := W.asInt .i64 (W.Env.get? E 1) fun most1 => W.asInt .i64 (W.Env.get? E 5) fun k5 => W.asStr (W.Env.get? E 6) fun out6 => W.asInt .i64 (W.Env.get? E 7) fun i7 => L0 most1 k5 out6 i7 w R
theorem KE_L0_ok (R : W.Post) (E : W.Env) (w : World) (h : KE_L0 E w R) : W.LP Try.prog (W.cx 33) C7 (Q1 R) E w := by
  obtain ⟨most1, hq1, h_1⟩ := W.asInt_elim h
  obtain ⟨k5, hq5, h_2⟩ := W.asInt_elim h_1
  obtain ⟨out6, hq6, h_3⟩ := W.asStr_elim h_2
  obtain ⟨i7, hq7, h_4⟩ := W.asInt_elim h_3
  intro a ha
  exact h_4 a (ha.cons hq1 (ha.cons hq5 (ha.cons hq6 (ha.cons hq7 ha.nil))))
noncomputable def C9 := W.Code.snd C7
noncomputable def C10 := W.Code.snd C9
abbrev Q2 (R : W.Post) : Exit → Act → World → Prop := (Exit.then (W.LoopWP Try.prog (W.cx 33) C7 (Q1 R)) (Q1 R))
/-- ref.go:302 -/
abbrev S2 (most1 k5 : Int) (out6 : ByteArray) (i7 : Int) (w : World) (R : W.Post) : Prop :=
  L0 most1 k5 out6 (IntKind.wrap .i64 (i7 + 1)) w R
def KE_S2 (E : W.Env) (w : World) (R : W.Post) : Prop := W.asInt .i64 (W.Env.get? E 1) fun most1 => W.asInt .i64 (W.Env.get? E 5) fun k5 => W.asStr (W.Env.get? E 6) fun out6 => W.asInt .i64 (W.Env.get? E 7) fun i7 => S2 most1 k5 out6 i7 w R
theorem KE_S2_ok (R : W.Post) (E : W.Env) (w : World) (h : KE_S2 E w R) : W.WP Try.prog (W.cx 33) C10 (Q2 R) E w := by
  obtain ⟨most1, hq1, h_1⟩ := W.asInt_elim h
  obtain ⟨k5, hq5, h_2⟩ := W.asInt_elim h_1
  obtain ⟨out6, hq6, h_3⟩ := W.asStr_elim h_2
  obtain ⟨i7, hq7, h_4⟩ := W.asInt_elim h_3
  exact fun a ha => W.WP.at (E := [(1, .int .i64 most1), (5, .int .i64 k5), (6, .string out6), (7, .int .i64 i7)]) (W.rg C10 (K := fun E w => KE_L0 E w R) (by kernel_rfl) (Eq.mp (by kernel_rfl) h_4) fun _ _ a hA hK => KE_L0_ok R _ _ hK a hA) (ha.cons hq1 (ha.cons hq5 (ha.cons hq6 (ha.cons hq7 ha.nil))))
noncomputable def C11 := W.Code.fst C9
noncomputable def C12 := W.Code.fst C11
noncomputable def C13 := W.Code.snd C12
abbrev Q3 (R : W.Post) : Exit → Act → World → Prop := (Exit.then (W.wpx Try.prog (W.cx 33) C10 (Exit.then (W.LoopWP Try.prog (W.cx 33) C7 (Q1 R)) (Q1 R))) (Exit.then (W.LoopWP Try.prog (W.cx 33) C7 (Q1 R)) (Q1 R)))
abbrev Q4 (R : W.Post) : Exit → Act → World → Prop := (Exit.inBlock 1 (Q3 R))
/-- ref.go:304 -/
abbrev S1 (most1 k5 : Int) (out6 : ByteArray) (i7 : Int) (w : World) (R : W.Post) : Prop :=
  S2 most1 (IntKind.wrap .i64 (Int.tdiv k5 5)) out6 i7 w R
def KE_S1 (E : W.Env) (w : World) (R : W.Post) : Prop := W.asInt .i64 (W.Env.get? E 1) fun most1 => W.asInt .i64 (W.Env.get? E 5) fun k5 => W.asStr (W.Env.get? E 6) fun out6 => W.asInt .i64 (W.Env.get? E 7) fun i7 => S1 most1 k5 out6 i7 w R
theorem KE_S1_ok (R : W.Post) (E : W.Env) (w : World) (h : KE_S1 E w R) : W.WP Try.prog (W.cx 33) C13 (Q4 R) E w := by
  obtain ⟨most1, hq1, h_1⟩ := W.asInt_elim h
  obtain ⟨k5, hq5, h_2⟩ := W.asInt_elim h_1
  obtain ⟨out6, hq6, h_3⟩ := W.asStr_elim h_2
  obtain ⟨i7, hq7, h_4⟩ := W.asInt_elim h_3
  exact fun a ha => W.WP.at (E := [(1, .int .i64 most1), (5, .int .i64 k5), (6, .string out6), (7, .int .i64 i7)]) (W.rg C13 (K := fun E w => KE_S2 E w R) (by kernel_rfl) (Eq.mp (by kernel_rfl) h_4) fun _ _ a hA hK => W.nx hA (KE_S2_ok R _ _ hK)) (ha.cons hq1 (ha.cons hq5 (ha.cons hq6 (ha.cons hq7 ha.nil))))
abbrev Q5 (R : W.Post) : Exit → Act → World → Prop := (bodyPost Try.prog Try.f47 R)
noncomputable def C14 := W.Code.snd C8
/-- ref.go:306 -/
abbrev S3 (out6 : ByteArray) (w : World) (R : W.Post) : Prop :=
  R (.returned (.string out6)) w
def KE_S3 (E : W.Env) (w : World) (R : W.Post) : Prop := W.asStr (W.Env.get? E 6) fun out6 => S3 out6 w R
theorem KE_S3_ok (R : W.Post) (E : W.Env) (w : World) (h : KE_S3 E w R) : W.WP Try.prog (W.cx 33) C8 (Q5 R) E w := by
  obtain ⟨out6, hq6, h_1⟩ := W.asStr_elim h
  exact fun a ha => W.WP.at (E := [(6, .string out6)]) (W.sr C8 (K := fun E w => W.retVC Try.prog Try.f47 E w (fun v => R (.returned v) w)) (by kernel_rfl) (Eq.mp (by kernel_rfl) h_1) fun _ _ hK => (W.rt C14 (by kernel_rfl) fun a hA => W.retVC_sound hA hK)) (ha.cons hq6 ha.nil)
noncomputable def C15 := W.Code.fst C7
noncomputable def C16 := W.Code.snd C15
noncomputable def C17 := W.Code.fst C16
noncomputable def C18 := W.Code.snd C16
theorem L0_step (most1 k5 : Int) (out6 : ByteArray) (i7 : Int) (w : World) (R : W.Post) (h : W.sel (decide (i7 < (Int.tmod k5 4))) (W.sel (decide (i7 < most1)) (W.nwV w (.cells #[.string (ByteArray.mk #[97]), .string (ByteArray.mk #[98]), .string (ByteArray.mk #[97, 98]), .string (ByteArray.mk #[0]), .string (ByteArray.mk #[255])] ty_string) fun w2 => 
  (0 : Int) ≤ (Int.tmod (IntKind.wrap .i64 (Int.tdiv k5 4)) 5) ∧ (Int.tmod (IntKind.wrap .i64 (Int.tdiv k5 4)) 5) < ((5 : Nat) : Int) ∧ W.optP (some (Addr.mk w.heap.size 0 none)) fun t26_p => ∃ t27 : ByteArray, w2.cell? (t26_p.add (Int.toNat (Int.tmod (IntKind.wrap .i64 (Int.tdiv k5 4)) 5) * 1)) = some (.string t27) ∧ 
  (0 : Int) ≤ 1 ∧ 1 ≤ ((t27.size : Nat) : Int) ∧ ¬ (((out6.size + (t27.extract 0 (Int.toNat 1)).size : Nat) : Int) > IntKind.i64.max) ∧ S1 most1 k5 (out6 ++ (t27.extract 0 (Int.toNat 1))) i7 w2 R) (S3 out6 w R)) (S3 out6 w R)) : L0 most1 k5 out6 i7 w R :=
  W.LP.step (n := (W.cx 33)) (c := C7) (E := [(1, .int .i64 most1), (5, .int .i64 k5), (6, .string out6), (7, .int .i64 i7)]) (w := w) (W.sq C7 (by kernel_rfl) (W.sr C15 (by kernel_rfl) (show (fun (E : W.Env) (w : World) => W.srK Try.prog C15 (fun E w => W.condK (W.Env.val E (.tmp 18)) (W.srK Try.prog C12 (fun E w => KE_S1 E w R) E w) (KE_S3 E w R)) E w) [(1, .int .i64 most1), (5, .int .i64 k5), (6, .string out6), (7, .int .i64 i7)] w from Eq.mp (by kernel_rfl) h) fun _ _ hK => (W.cn C16 (by kernel_rfl) hK (fun hK => (W.sk C17 (by kernel_rfl) fun a hA => W.nx hA (W.sq C9 (by kernel_rfl) (W.bk C11 1 (by kernel_rfl) (W.sr C12 (by kernel_rfl) hK fun _ _ hK => (KE_S1_ok R _ _ hK)))))) (fun hK => (W.xt C18 0 (by kernel_rfl) fun a hA => W.nx hA (KE_S3_ok R _ _ hK))))))
/-- enthymeme/enthymemeref06.Short -/
theorem ok (n0 most1 : Int) (w : World) (R : W.Post) (h : Calls Try.prog n_enthymemeref01_Around #[.int .i64 n0, .int .i64 1073741824] w fun r_ w1 => ∃ t9 : Int, r_ = .returned (.int .i64 t9) ∧ 
  L0 most1 t9 (ByteArray.mk #[]) 0 w1 R) : Calls Try.prog n_enthymemeref06_Short #[.int .i64 n0, .int .i64 most1] w R :=
  W.calls_of_WP' (R := R) (fn := Try.f47) (c := C0) (args := [.int .i64 n0, .int .i64 most1]) (by kernel_rfl) (by kernel_rfl) (by kernel_rfl) (W.sr C0 (by kernel_rfl) (show (fun (E : W.Env) (w : World) => W.srK Try.prog C0 (fun E w => W.srK Try.prog C1 (fun E w => W.srK Try.prog C2 (fun E w => W.srK Try.prog C4 (fun E w => KE_L0 E w R) E w) E w) E w) E w) (W.envOf 0 [.int .i64 n0, .int .i64 most1]) w from Eq.mp (by kernel_rfl) h) fun _ _ hK => (W.sr C1 (by kernel_rfl) hK fun _ _ hK => (W.sr C2 (by kernel_rfl) hK fun _ _ hK => (W.sq C3 (by kernel_rfl) (W.sr C4 (by kernel_rfl) hK fun _ _ hK => (W.bk C5 0 (by kernel_rfl) (W.lp C6 (by kernel_rfl) (KE_L0_ok R _ _ hK))))))))
end enthymemeref06_Short
namespace enthymemeref06_Of
noncomputable def C0 : Code := (Try.f21.body).getD .skip
noncomputable def C1 := W.Code.snd C0
noncomputable def C2 := W.Code.snd C1
noncomputable def C3 := W.Code.snd C2
abbrev Q0 (R : W.Post) : Exit → Act → World → Prop := (bodyPost Try.prog Try.f21 R)
noncomputable def C4 := W.Code.snd C3
/-- ref.go:328 -/
abbrev S0 (t4 out5 : Addr) (w : World) (R : W.Post) : Prop :=
  ∃ t64_0 : Int, ∃ t64_1 : Int, ∃ t64_2 : Int, ∃ t64_3 : Int, ∃ t64_4 : ByteArray, ∃ t64_5 : W.Sl, w.cell? (out5.add 0) = some (.int .i64 t64_0) ∧ w.cell? (out5.add 1) = some (.int .i64 t64_1) ∧ w.cell? (out5.add 2) = some (.int .i64 t64_2) ∧ w.cell? (out5.add 3) = some (.int .u64 t64_3) ∧ w.cell? (out5.add 4) = some (.string t64_4) ∧ w.cell? (out5.add 5) = some (t64_5.v) ∧ 
  W.stV w t4 (.int .i64 t64_0) fun w1 => 
  W.stV w1 (t4.add 1) (.int .i64 t64_1) fun w2 => 
  W.stV w2 (t4.add 2) (.int .i64 t64_2) fun w3 => 
  W.stV w3 (t4.add 3) (.int .u64 t64_3) fun w4 => 
  W.stV w4 (t4.add 4) (.string t64_4) fun w5 => 
  W.stV w5 (t4.add 5) (t64_5.v) fun w6 => 
  ∃ r4_0 : Int, ∃ r4_1 : Int, ∃ r4_2 : Int, ∃ r4_3 : Int, ∃ r4_4 : ByteArray, ∃ r4_5 : W.Sl, w6.cell? (t4.add 0) = some (.int .i64 r4_0) ∧ w6.cell? (t4.add 1) = some (.int .i64 r4_1) ∧ w6.cell? (t4.add 2) = some (.int .i64 r4_2) ∧ w6.cell? (t4.add 3) = some (.int .u64 r4_3) ∧ w6.cell? (t4.add 4) = some (.string r4_4) ∧ w6.cell? (t4.add 5) = some (r4_5.v) ∧ 
  R (.returned (.agg #[.int .i64 r4_0, .int .i64 r4_1, .int .i64 r4_2, .int .u64 r4_3, .string r4_4, r4_5.v])) w6
def KE_S0 (E : W.Env) (w : World) (R : W.Post) : Prop := W.asRef (W.Env.get? E 4) fun t4 => W.asRef (W.Env.get? E 5) fun out5 => S0 t4 out5 w R
theorem KE_S0_ok (R : W.Post) (E : W.Env) (w : World) (h : KE_S0 E w R) : W.WP Try.prog (W.cx 65) C3 (Q0 R) E w := by
  obtain ⟨t4, hq4, h_1⟩ := W.asRef_elim h
  obtain ⟨out5, hq5, h_2⟩ := W.asRef_elim h_1
  exact fun a ha => W.WP.at (E := [(4, .pointer (some t4)), (5, .pointer (some out5))]) (W.sr C3 (K := fun E w => W.retVC Try.prog Try.f21 E w (fun v => R (.returned v) w)) (by kernel_rfl) (Eq.mp (by kernel_rfl) h_2) fun _ _ hK => (W.rt C4 (by kernel_rfl) fun a hA => W.retVC_sound hA hK)) (ha.cons hq4 (ha.cons hq5 ha.nil))
noncomputable def C5 := W.Code.fst C2
noncomputable def C6 := W.Code.snd C5
noncomputable def C7 := W.Code.fst C6
noncomputable def C8 := W.Code.snd C7
noncomputable def C9 := W.Code.snd C8
noncomputable def C10 := W.Code.snd C9
noncomputable def C11 := W.Code.snd C10
noncomputable def C12 := W.Code.snd C11
noncomputable def C13 := W.Code.fst C12
noncomputable def C14 := W.Code.fst C13
abbrev Q1 (R : W.Post) : Exit → Act → World → Prop := (Exit.then (W.wpx Try.prog (W.cx 65) C3 (bodyPost Try.prog Try.f21 R)) (bodyPost Try.prog Try.f21 R))
abbrev Q2 (R : W.Post) : Exit → Act → World → Prop := (Exit.inBlock 0 (Q1 R))
abbrev Q3 (R : W.Post) : Exit → Act → World → Prop := (Exit.inBlock 1 (Q2 R))
/-- the head of the loop, ref.go:318 -/
def L1 (l1 : W.Sl) (s2 t4 out5 : Addr) (i6 : Int) (w : World) (R : W.Post) : Prop := W.LP Try.prog (W.cx 65) C14 (Q3 R) [(1, l1.v), (2, .pointer (some s2)), (4, .pointer (some t4)), (5, .pointer (some out5)), (6, .int .i64 i6)] w
def KE_L1 (E : W.Env) (w : World) (R : W.Post) : Prop := W.asSlice (W.Env.get? E 1) fun l1 => W.asRef (W.Env.get? E 2) fun s2 => W.asRef (W.Env.get? E 4) fun t4 => W.asRef (W.Env.get? E 5) fun out5 => W.asInt .i64 (W.Env.get? E 6) fun i6 => L1 l1 s2 t4 out5 i6 w R
theorem KE_L1_ok (R : W.Post) (E : W.Env) (w : World) (h : KE_L1 E w R) : W.LP Try.prog (W.cx 65) C14 (Q3 R) E w := by
  obtain ⟨l1, hq1, h_1⟩ := W.asSlice_elim h
  obtain ⟨s2, hq2, h_2⟩ := W.asRef_elim h_1
  obtain ⟨t4, hq4, h_3⟩ := W.asRef_elim h_2
  obtain ⟨out5, hq5, h_4⟩ := W.asRef_elim h_3
  obtain ⟨i6, hq6, h_5⟩ := W.asInt_elim h_4
  intro a ha
  exact h_5 a (ha.cons hq1 (ha.cons hq2 (ha.cons hq4 (ha.cons hq5 (ha.cons hq6 ha.nil)))))
noncomputable def C15 := W.Code.snd C14
noncomputable def C16 := W.Code.snd C15
abbrev Q4 (R : W.Post) : Exit → Act → World → Prop := (Exit.then (W.LoopWP Try.prog (W.cx 65) C14 (Q3 R)) (Q3 R))
/-- ref.go:318 -/
abbrev S2 (l1 : W.Sl) (s2 t4 out5 : Addr) (i6 : Int) (w : World) (R : W.Post) : Prop :=
  L1 l1 s2 t4 out5 (IntKind.wrap .i64 (i6 + 1)) w R
def KE_S2 (E : W.Env) (w : World) (R : W.Post) : Prop := W.asSlice (W.Env.get? E 1) fun l1 => W.asRef (W.Env.get? E 2) fun s2 => W.asRef (W.Env.get? E 4) fun t4 => W.asRef (W.Env.get? E 5) fun out5 => W.asInt .i64 (W.Env.get? E 6) fun i6 => S2 l1 s2 t4 out5 i6 w R
theorem KE_S2_ok (R : W.Post) (E : W.Env) (w : World) (h : KE_S2 E w R) : W.WP Try.prog (W.cx 65) C16 (Q4 R) E w := by
  obtain ⟨l1, hq1, h_1⟩ := W.asSlice_elim h
  obtain ⟨s2, hq2, h_2⟩ := W.asRef_elim h_1
  obtain ⟨t4, hq4, h_3⟩ := W.asRef_elim h_2
  obtain ⟨out5, hq5, h_4⟩ := W.asRef_elim h_3
  obtain ⟨i6, hq6, h_5⟩ := W.asInt_elim h_4
  exact fun a ha => W.WP.at (E := [(1, l1.v), (2, .pointer (some s2)), (4, .pointer (some t4)), (5, .pointer (some out5)), (6, .int .i64 i6)]) (W.rg C16 (K := fun E w => KE_L1 E w R) (by kernel_rfl) (Eq.mp (by kernel_rfl) h_5) fun _ _ a hA hK => KE_L1_ok R _ _ hK a hA) (ha.cons hq1 (ha.cons hq2 (ha.cons hq4 (ha.cons hq5 (ha.cons hq6 ha.nil)))))
noncomputable def C17 := W.Code.fst C14
noncomputable def C18 := W.Code.fst C15
noncomputable def C19 := W.Code.fst C18
noncomputable def C20 := W.Code.snd C19
noncomputable def C21 := W.Code.snd C20
noncomputable def C22 := W.Code.snd C21
noncomputable def C23 := W.Code.fst C22
noncomputable def C24 := W.Code.snd C22
noncomputable def C25 := W.Code.snd C17
noncomputable def C26 := W.Code.fst C25
noncomputable def C27 := W.Code.snd C25
theorem L1_step (l1 : W.Sl) (s2 t4 out5 : Addr) (i6 : Int) (w : World) (R : W.Post) (h : W.sel (decide (i6 < ((l1.n : Nat) : Int))) (W.sel (decide (i6 < 5)) (Calls Try.prog n_enthymemeref01_Pick #[l1.v, .int .i64 i6, .int .i64 1073741824] w fun r_ w18 => ∃ t25 : Int, r_ = .returned (.int .i64 t25) ∧ 
  ∃ t29 : Int, w18.cell? (s2.add 2) = some (.int .i64 t29) ∧ 
  Calls Try.prog n_enthymemeref06_Bits #[.int .i64 (IntKind.wrap .i64 (Int.tdiv t25 7)), .int .i64 t29] w18 fun r_ w19 => ∃ t30 : Int, r_ = .returned (.int .u64 t30) ∧ 
  ∃ t32 : Int, w19.cell? (s2.add 0) = some (.int .i64 t32) ∧ 
  W.sel (t32 == 2) (W.drV w19 fun w20 => ∃ t34_0 : Int, ∃ t34_1 : Int, ∃ t34_2 : Int, ∃ t34_3 : Int, ∃ t34_4 : ByteArray, ∃ t34_5 : W.Sl, w20.cell? (out5.add 0) = some (.int .i64 t34_0) ∧ w20.cell? (out5.add 1) = some (.int .i64 t34_1) ∧ w20.cell? (out5.add 2) = some (.int .i64 t34_2) ∧ w20.cell? (out5.add 3) = some (.int .u64 t34_3) ∧ w20.cell? (out5.add 4) = some (.string t34_4) ∧ w20.cell? (out5.add 5) = some (t34_5.v) ∧ 
  ∃ t38 : Int, w20.cell? (s2.add 1) = some (.int .i64 t38) ∧ 
  Calls Try.prog n_enthymemeref06_Bits #[.int .i64 t25, .int .i64 t38] w20 fun r_ w21 => ∃ t39 : Int, r_ = .returned (.int .u64 t39) ∧ 
  w21.cell? (out5.add 0) = some (.int .i64 t34_0) ∧ w21.cell? (out5.add 1) = some (.int .i64 t34_1) ∧ w21.cell? (out5.add 2) = some (.int .i64 t34_2) ∧ w21.cell? (out5.add 3) = some (.int .u64 t34_3) ∧ w21.cell? (out5.add 4) = some (.string t34_4) ∧ w21.cell? (out5.add 5) = some (t34_5.v) ∧ Calls Try.prog n_enthymemeref06_Put #[.agg #[.int .i64 t34_0, .int .i64 t34_1, .int .i64 t34_2, .int .u64 t34_3, .string t34_4, t34_5.v], .int .u64 t30, .int .u64 t39, .string (ByteArray.mk #[])] w21 fun r_ w22 => ∃ t40_0 : Int, ∃ t40_1 : Int, ∃ t40_2 : Int, ∃ t40_3 : Int, ∃ t40_4 : ByteArray, ∃ t40_5 : W.Sl, r_ = .returned (.agg #[.int .i64 t40_0, .int .i64 t40_1, .int .i64 t40_2, .int .u64 t40_3, .string t40_4, t40_5.v]) ∧ 
  W.stV w22 out5 (.int .i64 t40_0) fun w23 => 
  W.stV w23 (out5.add 1) (.int .i64 t40_1) fun w24 => 
  W.stV w24 (out5.add 2) (.int .i64 t40_2) fun w25 => 
  W.stV w25 (out5.add 3) (.int .u64 t40_3) fun w26 => 
  W.stV w26 (out5.add 4) (.string t40_4) fun w27 => 
  W.stV w27 (out5.add 5) (t40_5.v) fun w28 => 
  S2 l1 s2 t4 out5 i6 w28 R) (W.drV w19 fun w29 => ∃ t41_0 : Int, ∃ t41_1 : Int, ∃ t41_2 : Int, ∃ t41_3 : Int, ∃ t41_4 : ByteArray, ∃ t41_5 : W.Sl, w29.cell? (out5.add 0) = some (.int .i64 t41_0) ∧ w29.cell? (out5.add 1) = some (.int .i64 t41_1) ∧ w29.cell? (out5.add 2) = some (.int .i64 t41_2) ∧ w29.cell? (out5.add 3) = some (.int .u64 t41_3) ∧ w29.cell? (out5.add 4) = some (.string t41_4) ∧ w29.cell? (out5.add 5) = some (t41_5.v) ∧ 
  ∃ t45 : Int, w29.cell? (s2.add 1) = some (.int .i64 t45) ∧ 
  Calls Try.prog n_enthymemeref06_Short #[.int .i64 t25, .int .i64 t45] w29 fun r_ w30 => ∃ t46 : ByteArray, r_ = .returned (.string t46) ∧ 
  w30.cell? (out5.add 0) = some (.int .i64 t41_0) ∧ w30.cell? (out5.add 1) = some (.int .i64 t41_1) ∧ w30.cell? (out5.add 2) = some (.int .i64 t41_2) ∧ w30.cell? (out5.add 3) = some (.int .u64 t41_3) ∧ w30.cell? (out5.add 4) = some (.string t41_4) ∧ w30.cell? (out5.add 5) = some (t41_5.v) ∧ Calls Try.prog n_enthymemeref06_Put #[.agg #[.int .i64 t41_0, .int .i64 t41_1, .int .i64 t41_2, .int .u64 t41_3, .string t41_4, t41_5.v], .int .u64 t30, .int .u64 0, .string t46] w30 fun r_ w31 => ∃ t47_0 : Int, ∃ t47_1 : Int, ∃ t47_2 : Int, ∃ t47_3 : Int, ∃ t47_4 : ByteArray, ∃ t47_5 : W.Sl, r_ = .returned (.agg #[.int .i64 t47_0, .int .i64 t47_1, .int .i64 t47_2, .int .u64 t47_3, .string t47_4, t47_5.v]) ∧ 
  W.stV w31 out5 (.int .i64 t47_0) fun w32 => 
  W.stV w32 (out5.add 1) (.int .i64 t47_1) fun w33 => 
  W.stV w33 (out5.add 2) (.int .i64 t47_2) fun w34 => 
  W.stV w34 (out5.add 3) (.int .u64 t47_3) fun w35 => 
  W.stV w35 (out5.add 4) (.string t47_4) fun w36 => 
  W.stV w36 (out5.add 5) (t47_5.v) fun w37 => 
  S2 l1 s2 t4 out5 i6 w37 R)) (S0 t4 out5 w R)) (S0 t4 out5 w R)) : L1 l1 s2 t4 out5 i6 w R :=
  W.LP.step (n := (W.cx 65)) (c := C14) (E := [(1, l1.v), (2, .pointer (some s2)), (4, .pointer (some t4)), (5, .pointer (some out5)), (6, .int .i64 i6)]) (w := w) (W.sq C14 (by kernel_rfl) (W.sr C17 (by kernel_rfl) (show (fun (E : W.Env) (w : World) => W.srK Try.prog C17 (fun E w => W.condK (W.Env.val E (.tmp 20)) (W.srK Try.prog C19 (fun E w => W.srK Try.prog C20 (fun E w => W.srK Try.prog C21 (fun E w => W.condK (W.Env.val E (.tmp 33)) (W.dgK Try.prog C23 [0, 1, 2, 3, 4, 5, 6, 7] (fun E w => KE_S2 E w R) E w) (W.dgK Try.prog C24 [0, 1, 2, 3, 4, 5, 6, 7] (fun E w => KE_S2 E w R) E w)) E w) E w) E w) (KE_S0 E w R)) E w) [(1, l1.v), (2, .pointer (some s2)), (4, .pointer (some t4)), (5, .pointer (some out5)), (6, .int .i64 i6)] w from Eq.mp (by kernel_rfl) h) fun _ _ hK => (W.cn C25 (by kernel_rfl) hK (fun hK => (W.sk C26 (by kernel_rfl) fun a hA => W.nx hA (W.sq C15 (by kernel_rfl) (W.bk C18 2 (by kernel_rfl) (W.sr C19 (by kernel_rfl) hK fun _ _ hK => (W.sr C20 (by kernel_rfl) hK fun _ _ hK => (W.sr C21 (by kernel_rfl) hK fun _ _ hK => (W.cn C22 (by kernel_rfl) hK (fun hK => (W.dg C23 (by kernel_rfl) hK fun _ _ a hA hK => W.nx hA (KE_S2_ok R _ _ hK))) (fun hK => (W.dg C24 (by kernel_rfl) hK fun _ _ a hA hK => W.nx hA (KE_S2_ok R _ _ hK))))))))))) (fun hK => (W.xt C27 1 (by kernel_rfl) fun a hA => W.nx hA (KE_S0_ok R _ _ hK))))))
/-- enthymeme/enthymemeref06.Of -/
noncomputable def C28 := W.Code.fst C8
noncomputable def C29 := W.Code.fst C10
theorem ok (s0_0 s0_1 s0_2 : Int) (l1 : W.Sl) (w : World) (R : W.Post) (h : W.nwV w (.cells #[.int .i64 s0_0, .int .i64 s0_1, .int .i64 s0_2] ty_api_Sort) fun w1 => 
  W.nwV w1 (.cells #[.int .i64 0, .int .i64 0, .int .i64 0, .int .u64 0, .string (ByteArray.mk #[]), .slice none 0 0] ty_enthymemeref06_Value) fun w2 => 
  ∃ t9_0 : Int, ∃ t9_1 : Int, ∃ t9_2 : Int, w2.cell? ((Addr.mk w.heap.size 0 none).add 0) = some (.int .i64 t9_0) ∧ w2.cell? ((Addr.mk w.heap.size 0 none).add 1) = some (.int .i64 t9_1) ∧ w2.cell? ((Addr.mk w.heap.size 0 none).add 2) = some (.int .i64 t9_2) ∧ 
  W.nwV w2 (.cells #[.int .i64 0, .int .i64 0, .int .i64 0, .int .u64 0, .string (ByteArray.mk #[]), .slice none 0 0] ty_enthymemeref06_Value) fun w3 => 
  W.stV w3 (Addr.mk w2.heap.size 0 none) (.int .i64 t9_0) fun w4 => 
  W.stV w4 ((Addr.mk w2.heap.size 0 none).add 1) (.int .i64 t9_1) fun w5 => 
  W.stV w5 ((Addr.mk w2.heap.size 0 none).add 2) (.int .i64 t9_2) fun w6 => 
  W.stV w6 ((Addr.mk w2.heap.size 0 none).add 3) (.int .u64 0) fun w7 => 
  W.stV w7 ((Addr.mk w2.heap.size 0 none).add 4) (.string (ByteArray.mk #[])) fun w8 => 
  W.stV w8 ((Addr.mk w2.heap.size 0 none).add 5) (.slice none 0 0) fun w9 => 
  ∃ t12 : Int, w9.cell? ((Addr.mk w.heap.size 0 none).add 0) = some (.int .i64 t12) ∧ 
  W.sel (t12 == 0) (W.drV w9 fun w10 => ∃ t53 : Int, w10.cell? ((Addr.mk w.heap.size 0 none).add 1) = some (.int .i64 t53) ∧ 
  Calls Try.prog n_enthymemeref01_Pick #[l1.v, .int .i64 0, .int .i64 1073741824] w10 fun r_ w11 => ∃ t51 : Int, r_ = .returned (.int .i64 t51) ∧ 
  w11.cell? ((Addr.mk w.heap.size 0 none).add 1) = some (.int .i64 t53) ∧ Calls Try.prog n_enthymemeref06_Bits #[.int .i64 t51, .int .i64 t53] w11 fun r_ w12 => ∃ t54 : Int, r_ = .returned (.int .u64 t54) ∧ 
  W.stV w12 ((Addr.mk w2.heap.size 0 none).add 3) (.int .u64 t54) fun w13 => 
  S0 (Addr.mk w1.heap.size 0 none) (Addr.mk w2.heap.size 0 none) w13 R) (W.sel (t12 == 1) (W.drV w9 fun w14 => ∃ t61 : Int, w14.cell? ((Addr.mk w.heap.size 0 none).add 1) = some (.int .i64 t61) ∧ 
  Calls Try.prog n_enthymemeref01_Pick #[l1.v, .int .i64 0, .int .i64 1073741824] w14 fun r_ w15 => ∃ t59 : Int, r_ = .returned (.int .i64 t59) ∧ 
  w15.cell? ((Addr.mk w.heap.size 0 none).add 1) = some (.int .i64 t61) ∧ Calls Try.prog n_enthymemeref06_Short #[.int .i64 t59, .int .i64 t61] w15 fun r_ w16 => ∃ t62 : ByteArray, r_ = .returned (.string t62) ∧ 
  W.stV w16 ((Addr.mk w2.heap.size 0 none).add 4) (.string t62) fun w17 => 
  S0 (Addr.mk w1.heap.size 0 none) (Addr.mk w2.heap.size 0 none) w17 R) (L1 l1 (Addr.mk w.heap.size 0 none) (Addr.mk w1.heap.size 0 none) (Addr.mk w2.heap.size 0 none) 0 w9 R))) : Calls Try.prog n_enthymemeref06_Of #[.agg #[.int .i64 s0_0, .int .i64 s0_1, .int .i64 s0_2], l1.v] w R :=
  W.calls_of_WP' (R := R) (fn := Try.f21) (c := C0) (args := [.agg #[.int .i64 s0_0, .int .i64 s0_1, .int .i64 s0_2], l1.v]) (by kernel_rfl) (by kernel_rfl) (by kernel_rfl) (W.sr C0 (by kernel_rfl) (show (fun (E : W.Env) (w : World) => W.srK Try.prog C0 (fun E w => W.srK Try.prog C1 (fun E w => W.srK Try.prog C5 (fun E w => W.srK Try.prog C7 (fun E w => W.condK (W.Env.val E (.tmp 48)) (W.dgK Try.prog C28 [0, 2, 3, 1, 4, 5, 6] (fun E w => KE_S0 E w R) E w) (W.srK Try.prog C9 (fun E w => W.condK (W.Env.val E (.tmp 56)) (W.dgK Try.prog C29 [0, 2, 3, 1, 4, 5, 6] (fun E w => KE_S0 E w R) E w) (W.srK Try.prog C11 (fun E w => KE_L1 E w R) E w)) E w)) E w) E w) E w) E w) (W.envOf 0 [.agg #[.int .i64 s0_0, .int .i64 s0_1, .int .i64 s0_2], l1.v]) w from Eq.mp (by kernel_rfl) h) fun _ _ hK => (W.sr C1 (by kernel_rfl) hK fun _ _ hK => (W.sq C2 (by kernel_rfl) (W.sr C5 (by kernel_rfl) hK fun _ _ hK => (W.bk C6 0 (by kernel_rfl) (W.sr C7 (by kernel_rfl) hK fun _ _ hK => (W.cn C8 (by kernel_rfl) hK (fun hK => (W.dg C28 (by kernel_rfl) hK fun _ _ a hA hK => W.nx hA (KE_S0_ok R _ _ hK))) (fun hK => (W.sr C9 (by kernel_rfl) hK fun _ _ hK => (W.cn C10 (by kernel_rfl) hK (fun hK => (W.dg C29 (by kernel_rfl) hK fun _ _ a hA hK => W.nx hA (KE_S0_ok R _ _ hK))) (fun hK => (W.sr C11 (by kernel_rfl) hK fun _ _ hK => (W.bk C12 1 (by kernel_rfl) (W.lp C13 (by kernel_rfl) (KE_L1_ok R _ _ hK)))))))))))))))
abbrev S0T (t4 : Nat) (t4_0 t4_1 t4_2 t4_3 : Int) (t4_4 : ByteArray) (t4_5 : W.Sl) (out5 : Nat) (out5_0 out5_1 out5_2 out5_3 : Int) (out5_4 : ByteArray) (out5_5 : W.Sl) (w : World) (R : W.Post) : Prop :=
  W.loc [t4, out5] w fun w6 => R (.returned (.agg #[.int .i64 out5_0, .int .i64 out5_1, .int .i64 out5_2, .int .u64 out5_3, .string out5_4, out5_5.v])) w6
theorem S0T_ok {t4 : Nat} {t4_0 t4_1 t4_2 t4_3 : Int} {t4_4 : ByteArray} {t4_5 : W.Sl} {out5 : Nat} {out5_0 out5_1 out5_2 out5_3 : Int} {out5_4 : ByteArray} {out5_5 : W.Sl} {w : World} {R : W.Post} (h : S0T t4 t4_0 t4_1 t4_2 t4_3 t4_4 t4_5 out5 out5_0 out5_1 out5_2 out5_3 out5_4 out5_5 w R) (H : W.LC w [(t4, [.int .i64 t4_0, .int .i64 t4_1, .int .i64 t4_2, .int .u64 t4_3, .string t4_4, t4_5.v], ty_enthymemeref06_Value), (out5, [.int .i64 out5_0, .int .i64 out5_1, .int .i64 out5_2, .int .u64 out5_3, .string out5_4, out5_5.v], ty_enthymemeref06_Value)]) : S0 (W.at0 t4) (W.at0 out5) w R := ⟨_, _, _, _, _, out5_5, H.ld 1 0, H.ld 1 1, H.ld 1 2, H.ld 1 3, H.ld 1 4, H.ld 1 5, W.LC.stT0 H 0 (W.Fr.refl _ _) rfl rfl fun w1 H f => W.LC.stT H 0 1 f rfl rfl fun w2 H f => W.LC.stT H 0 2 f rfl rfl fun w3 H f => W.LC.stT H 0 3 f rfl rfl fun w4 H f => W.LC.stT H 0 4 f rfl rfl fun w5 H f => W.LC.stT H 0 5 f rfl rfl fun w6 (H : W.LC w6 [(t4, [.int .i64 out5_0, .int .i64 out5_1, .int .i64 out5_2, .int .u64 out5_3, .string out5_4, out5_5.v], ty_enthymemeref06_Value), (out5, [.int .i64 out5_0, .int .i64 out5_1, .int .i64 out5_2, .int .u64 out5_3, .string out5_4, out5_5.v], ty_enthymemeref06_Value)]) (f : W.Fr (· ∈ [t4, out5]) _ w6) => ⟨_, _, _, _, _, out5_5, H.ld 0 0, H.ld 0 1, H.ld 0 2, H.ld 0 3, H.ld 0 4, H.ld 0 5, have h := h _ f; h⟩⟩
def L1T (l1 : W.Sl) (s2 : Nat) (s2_0 s2_1 s2_2 : Int) (t4 : Nat) (t4_0 t4_1 t4_2 t4_3 : Int) (t4_4 : ByteArray) (t4_5 : W.Sl) (out5 : Nat) (out5_0 out5_1 out5_2 out5_3 : Int) (out5_4 : ByteArray) (out5_5 : W.Sl) (i6 : Int) (w : World) (R : W.Post) : Prop := W.LC w [(s2, [.int .i64 s2_0, .int .i64 s2_1, .int .i64 s2_2], ty_api_Sort), (t4, [.int .i64 t4_0, .int .i64 t4_1, .int .i64 t4_2, .int .u64 t4_3, .string t4_4, t4_5.v], ty_enthymemeref06_Value), (out5, [.int .i64 out5_0, .int .i64 out5_1, .int .i64 out5_2, .int .u64 out5_3, .string out5_4, out5_5.v], ty_enthymemeref06_Value)] → L1 l1 (W.at0 s2) (W.at0 t4) (W.at0 out5) i6 w R
abbrev S2T (l1 : W.Sl) (s2 : Nat) (s2_0 s2_1 s2_2 : Int) (t4 : Nat) (t4_0 t4_1 t4_2 t4_3 : Int) (t4_4 : ByteArray) (t4_5 : W.Sl) (out5 : Nat) (out5_0 out5_1 out5_2 out5_3 : Int) (out5_4 : ByteArray) (out5_5 : W.Sl) (i6 : Int) (w : World) (R : W.Post) : Prop :=
  L1T l1 s2 s2_0 s2_1 s2_2 t4 t4_0 t4_1 t4_2 t4_3 t4_4 t4_5 out5 out5_0 out5_1 out5_2 out5_3 out5_4 out5_5 (IntKind.wrap .i64 (i6 + 1)) w R
theorem S2T_ok {l1 : W.Sl} {s2 : Nat} {s2_0 s2_1 s2_2 : Int} {t4 : Nat} {t4_0 t4_1 t4_2 t4_3 : Int} {t4_4 : ByteArray} {t4_5 : W.Sl} {out5 : Nat} {out5_0 out5_1 out5_2 out5_3 : Int} {out5_4 : ByteArray} {out5_5 : W.Sl} {i6 : Int} {w : World} {R : W.Post} (h : S2T l1 s2 s2_0 s2_1 s2_2 t4 t4_0 t4_1 t4_2 t4_3 t4_4 t4_5 out5 out5_0 out5_1 out5_2 out5_3 out5_4 out5_5 i6 w R) (H : W.LC w [(s2, [.int .i64 s2_0, .int .i64 s2_1, .int .i64 s2_2], ty_api_Sort), (t4, [.int .i64 t4_0, .int .i64 t4_1, .int .i64 t4_2, .int .u64 t4_3, .string t4_4, t4_5.v], ty_enthymemeref06_Value), (out5, [.int .i64 out5_0, .int .i64 out5_1, .int .i64 out5_2, .int .u64 out5_3, .string out5_4, out5_5.v], ty_enthymemeref06_Value)]) : S2 l1 (W.at0 s2) (W.at0 t4) (W.at0 out5) i6 w R := h H
theorem L1T_step (l1 : W.Sl) (s2 : Nat) (s2_0 s2_1 s2_2 : Int) (t4 : Nat) (t4_0 t4_1 t4_2 t4_3 : Int) (t4_4 : ByteArray) (t4_5 : W.Sl) (out5 : Nat) (out5_0 out5_1 out5_2 out5_3 : Int) (out5_4 : ByteArray) (out5_5 : W.Sl) (i6 : Int) (w : World) (R : W.Post) (h : W.sel (decide (i6 < ((l1.n : Nat) : Int))) (W.sel (decide (i6 < 5)) (W.callF [s2, t4, out5] Try.prog n_enthymemeref01_Pick #[l1.v, .int .i64 i6, .int .i64 1073741824] w fun r_ w18 => ∃ t25 : Int, r_ = .returned (.int .i64 t25) ∧ 
  W.callF [s2, t4, out5] Try.prog n_enthymemeref06_Bits #[.int .i64 (IntKind.wrap .i64 (Int.tdiv t25 7)), .int .i64 s2_2] w18 fun r_ w19 => ∃ t30 : Int, r_ = .returned (.int .u64 t30) ∧ 
  W.sel (s2_0 == 2) (W.loc [s2, t4, out5] w19 fun w20 => W.callF [s2, t4, out5] Try.prog n_enthymemeref06_Bits #[.int .i64 t25, .int .i64 s2_1] w20 fun r_ w21 => ∃ t39 : Int, r_ = .returned (.int .u64 t39) ∧ 
  W.callF [s2, t4, out5] Try.prog n_enthymemeref06_Put #[.agg #[.int .i64 out5_0, .int .i64 out5_1, .int .i64 out5_2, .int .u64 out5_3, .string out5_4, out5_5.v], .int .u64 t30, .int .u64 t39, .string (ByteArray.mk #[])] w21 fun r_ w22 => ∃ t40_0 : Int, ∃ t40_1 : Int, ∃ t40_2 : Int, ∃ t40_3 : Int, ∃ t40_4 : ByteArray, ∃ t40_5 : W.Sl, r_ = .returned (.agg #[.int .i64 t40_0, .int .i64 t40_1, .int .i64 t40_2, .int .u64 t40_3, .string t40_4, t40_5.v]) ∧ 
  W.loc [s2, t4, out5] w22 fun w28 => S2T l1 s2 s2_0 s2_1 s2_2 t4 t4_0 t4_1 t4_2 t4_3 t4_4 t4_5 out5 t40_0 t40_1 t40_2 t40_3 t40_4 t40_5 i6 w28 R) (W.loc [s2, t4, out5] w19 fun w29 => W.callF [s2, t4, out5] Try.prog n_enthymemeref06_Short #[.int .i64 t25, .int .i64 s2_1] w29 fun r_ w30 => ∃ t46 : ByteArray, r_ = .returned (.string t46) ∧ 
  W.callF [s2, t4, out5] Try.prog n_enthymemeref06_Put #[.agg #[.int .i64 out5_0, .int .i64 out5_1, .int .i64 out5_2, .int .u64 out5_3, .string out5_4, out5_5.v], .int .u64 t30, .int .u64 0, .string t46] w30 fun r_ w31 => ∃ t47_0 : Int, ∃ t47_1 : Int, ∃ t47_2 : Int, ∃ t47_3 : Int, ∃ t47_4 : ByteArray, ∃ t47_5 : W.Sl, r_ = .returned (.agg #[.int .i64 t47_0, .int .i64 t47_1, .int .i64 t47_2, .int .u64 t47_3, .string t47_4, t47_5.v]) ∧ 
  W.loc [s2, t4, out5] w31 fun w37 => S2T l1 s2 s2_0 s2_1 s2_2 t4 t4_0 t4_1 t4_2 t4_3 t4_4 t4_5 out5 t47_0 t47_1 t47_2 t47_3 t47_4 t47_5 i6 w37 R)) (S0T t4 t4_0 t4_1 t4_2 t4_3 t4_4 t4_5 out5 out5_0 out5_1 out5_2 out5_3 out5_4 out5_5 w R)) (S0T t4 t4_0 t4_1 t4_2 t4_3 t4_4 t4_5 out5 out5_0 out5_1 out5_2 out5_3 out5_4 out5_5 w R)) : L1T l1 s2 s2_0 s2_1 s2_2 t4 t4_0 t4_1 t4_2 t4_3 t4_4 t4_5 out5 out5_0 out5_1 out5_2 out5_3 out5_4 out5_5 i6 w R := fun H => L1_step _ _ _ _ _ w R (W.sel_imp h (fun h => W.sel_imp h (fun h => W.LC.callT H h fun r_ w18 H h => let ⟨t25, hr, h⟩ := h; ⟨t25, hr, ⟨_, H.ld 0 2, W.LC.callT H h fun r_ w19 H h => let ⟨t30, hr, h⟩ := h; ⟨t30, hr, ⟨_, H.ld 0 0, W.sel_imp h (fun h => W.LC.drT H (W.Fr.refl _ _) fun w20 H f => ⟨_, _, _, _, _, out5_5, H.ld 2 0, H.ld 2 1, H.ld 2 2, H.ld 2 3, H.ld 2 4, H.ld 2 5, ⟨_, H.ld 0 1, have h := h _ f; W.LC.callT H h fun r_ w21 H h => let ⟨t39, hr, h⟩ := h; ⟨t39, hr, ⟨H.ld 2 0, H.ld 2 1, H.ld 2 2, H.ld 2 3, H.ld 2 4, H.ld 2 5, W.LC.callT H h fun r_ w22 H h => let ⟨t40_0, t40_1, t40_2, t40_3, t40_4, t40_5, hr, h⟩ := h; ⟨t40_0, t40_1, t40_2, t40_3, t40_4, t40_5, hr, W.LC.stT0 H 2 (W.Fr.refl _ _) rfl rfl fun w23 H f => W.LC.stT H 2 1 f rfl rfl fun w24 H f => W.LC.stT H 2 2 f rfl rfl fun w25 H f => W.LC.stT H 2 3 f rfl rfl fun w26 H f => W.LC.stT H 2 4 f rfl rfl fun w27 H f => W.LC.stT H 2 5 f rfl rfl fun w28 (H : W.LC w28 [(s2, [.int .i64 s2_0, .int .i64 s2_1, .int .i64 s2_2], ty_api_Sort), (t4, [.int .i64 t4_0, .int .i64 t4_1, .int .i64 t4_2, .int .u64 t4_3, .string t4_4, t4_5.v], ty_enthymemeref06_Value), (out5, [.int .i64 t40_0, .int .i64 t40_1, .int .i64 t40_2, .int .u64 t40_3, .string t40_4, t40_5.v], ty_enthymemeref06_Value)]) (f : W.Fr (· ∈ [s2, t4, out5]) _ w28) => have h := h _ f; S2T_ok h H⟩⟩⟩⟩⟩) (fun h => W.LC.drT H (W.Fr.refl _ _) fun w29 H f => ⟨_, _, _, _, _, out5_5, H.ld 2 0, H.ld 2 1, H.ld 2 2, H.ld 2 3, H.ld 2 4, H.ld 2 5, ⟨_, H.ld 0 1, have h := h _ f; W.LC.callT H h fun r_ w30 H h => let ⟨t46, hr, h⟩ := h; ⟨t46, hr, ⟨H.ld 2 0, H.ld 2 1, H.ld 2 2, H.ld 2 3, H.ld 2 4, H.ld 2 5, W.LC.callT H h fun r_ w31 H h => let ⟨t47_0, t47_1, t47_2, t47_3, t47_4, t47_5, hr, h⟩ := h; ⟨t47_0, t47_1, t47_2, t47_3, t47_4, t47_5, hr, W.LC.stT0 H 2 (W.Fr.refl _ _) rfl rfl fun w32 H f => W.LC.stT H 2 1 f rfl rfl fun w33 H f => W.LC.stT H 2 2 f rfl rfl fun w34 H f => W.LC.stT H 2 3 f rfl rfl fun w35 H f => W.LC.stT H 2 4 f rfl rfl fun w36 H f => W.LC.stT H 2 5 f rfl rfl fun w37 (H : W.LC w37 [(s2, [.int .i64 s2_0, .int .i64 s2_1, .int .i64 s2_2], ty_api_Sort), (t4, [.int .i64 t4_0, .int .i64 t4_1, .int .i64 t4_2, .int .u64 t4_3, .string t4_4, t4_5.v], ty_enthymemeref06_Value), (out5, [.int .i64 t47_0, .int .i64 t47_1, .int .i64 t47_2, .int .u64 t47_3, .string t47_4, t47_5.v], ty_enthymemeref06_Value)]) (f : W.Fr (· ∈ [s2, t4, out5]) _ w37) => have h := h _ f; S2T_ok h H⟩⟩⟩⟩⟩)⟩⟩⟩⟩) (fun h => S0T_ok h (H.pick [1, 2] (by decide)))) (fun h => S0T_ok h (H.pick [1, 2] (by decide))))
theorem okT (s0_0 s0_1 s0_2 : Int) (l1 : W.Sl) (w : World) (R : W.Post) (h : W.newV [] w fun b2 w1 => 
  W.newV [b2] w1 fun b4 w2 => 
  W.newV [b2, b4] w2 fun b5 w3 => 
  W.sel (s0_0 == 0) (W.loc [b2, b4, b5] w3 fun w10 => W.callF [b2, b4, b5] Try.prog n_enthymemeref01_Pick #[l1.v, .int .i64 0, .int .i64 1073741824] w10 fun r_ w11 => ∃ t51 : Int, r_ = .returned (.int .i64 t51) ∧ 
  W.callF [b2, b4, b5] Try.prog n_enthymemeref06_Bits #[.int .i64 t51, .int .i64 s0_1] w11 fun r_ w12 => ∃ t54 : Int, r_ = .returned (.int .u64 t54) ∧ 
  W.loc [b2, b4, b5] w12 fun w13 => S0T b4 0 0 0 0 (ByteArray.mk #[]) ⟨none, 0, 0⟩ b5 s0_0 s0_1 s0_2 t54 (ByteArray.mk #[]) ⟨none, 0, 0⟩ w13 R) (W.sel (s0_0 == 1) (W.loc [b2, b4, b5] w3 fun w14 => W.callF [b2, b4, b5] Try.prog n_enthymemeref01_Pick #[l1.v, .int .i64 0, .int .i64 1073741824] w14 fun r_ w15 => ∃ t59 : Int, r_ = .returned (.int .i64 t59) ∧ 
  W.callF [b2, b4, b5] Try.prog n_enthymemeref06_Short #[.int .i64 t59, .int .i64 s0_1] w15 fun r_ w16 => ∃ t62 : ByteArray, r_ = .returned (.string t62) ∧ 
  W.loc [b2, b4, b5] w16 fun w17 => S0T b4 0 0 0 0 (ByteArray.mk #[]) ⟨none, 0, 0⟩ b5 s0_0 s0_1 s0_2 0 t62 ⟨none, 0, 0⟩ w17 R) (W.loc [b2, b4, b5] w3 fun w9 => L1T l1 b2 s0_0 s0_1 s0_2 b4 0 0 0 0 (ByteArray.mk #[]) ⟨none, 0, 0⟩ b5 s0_0 s0_1 s0_2 0 (ByteArray.mk #[]) ⟨none, 0, 0⟩ 0 w9 R))) : Calls Try.prog n_enthymemeref06_Of #[.agg #[.int .i64 s0_0, .int .i64 s0_1, .int .i64 s0_2], l1.v] w R :=
  ok _ _ _ _ w R (W.LC.nwT (W.LC.nil _) (W.Fr.refl _ _) h fun w1 H h => W.LC.nwT H (W.Fr.refl _ _) h fun w2 H h => ⟨_, _, _, H.ld 0 0, H.ld 0 1, H.ld 0 2, W.LC.nwT H (W.Fr.refl _ _) h fun w3 (H : W.LC w3 [(w.heap.size, [.int .i64 s0_0, .int .i64 s0_1, .int .i64 s0_2], ty_api_Sort), (w1.heap.size, [.int .i64 0, .int .i64 0, .int .i64 0, .int .u64 0, .string (ByteArray.mk #[]), .slice none 0 0], ty_enthymemeref06_Value), (w2.heap.size, [.int .i64 0, .int .i64 0, .int .i64 0, .int .u64 0, .string (ByteArray.mk #[]), .slice none 0 0], ty_enthymemeref06_Value)]) h => W.LC.stT0 H 2 (W.Fr.refl _ _) rfl rfl fun w4 H f => W.LC.stT H 2 1 f rfl rfl fun w5 H f => W.LC.stT H 2 2 f rfl rfl fun w6 H f => W.LC.stT H 2 3 f rfl rfl fun w7 H f => W.LC.stT H 2 4 f rfl rfl fun w8 H f => W.LC.stT H 2 5 f rfl rfl fun w9 (H : W.LC w9 [(w.heap.size, [.int .i64 s0_0, .int .i64 s0_1, .int .i64 s0_2], ty_api_Sort), (w1.heap.size, [.int .i64 0, .int .i64 0, .int .i64 0, .int .u64 0, .string (ByteArray.mk #[]), .slice none 0 0], ty_enthymemeref06_Value), (w2.heap.size, [.int .i64 s0_0, .int .i64 s0_1, .int .i64 s0_2, .int .u64 0, .string (ByteArray.mk #[]), .slice none 0 0], ty_enthymemeref06_Value)]) (f : W.Fr (· ∈ [w.heap.size, w1.heap.size, w2.heap.size]) _ w9) => ⟨_, H.ld 0 0, W.sel_imp h (fun h => W.LC.drT H f fun w10 H f => ⟨_, H.ld 0 1, have h := h _ f; W.LC.callT H h fun r_ w11 H h => let ⟨t51, hr, h⟩ := h; ⟨t51, hr, ⟨H.ld 0 1, W.LC.callT H h fun r_ w12 H h => let ⟨t54, hr, h⟩ := h; ⟨t54, hr, W.LC.stT H 2 3 (W.Fr.refl _ _) rfl rfl fun w13 (H : W.LC w13 [(w.heap.size, [.int .i64 s0_0, .int .i64 s0_1, .int .i64 s0_2], ty_api_Sort), (w1.heap.size, [.int .i64 0, .int .i64 0, .int .i64 0, .int .u64 0, .string (ByteArray.mk #[]), .slice none 0 0], ty_enthymemeref06_Value), (w2.heap.size, [.int .i64 s0_0, .int .i64 s0_1, .int .i64 s0_2, .int .u64 t54, .string (ByteArray.mk #[]), .slice none 0 0], ty_enthymemeref06_Value)]) (f : W.Fr (· ∈ [w.heap.size, w1.heap.size, w2.heap.size]) _ w13) => have h := h _ f; S0T_ok h (H.pick [1, 2] (by decide))⟩⟩⟩⟩) (fun h => W.sel_imp h (fun h => W.LC.drT H f fun w14 H f => ⟨_, H.ld 0 1, have h := h _ f; W.LC.callT H h fun r_ w15 H h => let ⟨t59, hr, h⟩ := h; ⟨t59, hr, ⟨H.ld 0 1, W.LC.callT H h fun r_ w16 H h => let ⟨t62, hr, h⟩ := h; ⟨t62, hr, W.LC.stT H 2 4 (W.Fr.refl _ _) rfl rfl fun w17 (H : W.LC w17 [(w.heap.size, [.int .i64 s0_0, .int .i64 s0_1, .int .i64 s0_2], ty_api_Sort), (w1.heap.size, [.int .i64 0, .int .i64 0, .int .i64 0, .int .u64 0, .string (ByteArray.mk #[]), .slice none 0 0], ty_enthymemeref06_Value), (w2.heap.size, [.int .i64 s0_0, .int .i64 s0_1, .int .i64 s0_2, .int .u64 0, .string t62, .slice none 0 0], ty_enthymemeref06_Value)]) (f : W.Fr (· ∈ [w.heap.size, w1.heap.size, w2.heap.size]) _ w17) => have h := h _ f; S0T_ok h (H.pick [1, 2] (by decide))⟩⟩⟩⟩) (fun h => have h := h _ f; h H))⟩⟩)
end enthymemeref06_Of
namespace enthymemeref06_Spoilt
noncomputable def C0 : Code := (Try.f39.body).getD .skip
noncomputable def C1 := W.Code.snd C0
noncomputable def C2 := W.Code.snd C1
noncomputable def C3 := W.Code.snd C2
noncomputable def C4 := W.Code.snd C3
noncomputable def C5 := W.Code.snd C4
abbrev Q0 (R : W.Post) : Exit → Act → World → Prop := (bodyPost Try.prog Try.f39 R)
noncomputable def C6 := W.Code.snd C5
/-- ref.go:360 -/
abbrev S0 (v4 t8 : Addr) (w : World) (R : W.Post) : Prop :=
  ∃ t106_0 : Int, ∃ t106_1 : Int, ∃ t106_2 : Int, ∃ t106_3 : Int, ∃ t106_4 : ByteArray, ∃ t106_5 : W.Sl, w.cell? (v4.add 0) = some (.int .i64 t106_0) ∧ w.cell? (v4.add 1) = some (.int .i64 t106_1) ∧ w.cell? (v4.add 2) = some (.int .i64 t106_2) ∧ w.cell? (v4.add 3) = some (.int .u64 t106_3) ∧ w.cell? (v4.add 4) = some (.string t106_4) ∧ w.cell? (v4.add 5) = some (t106_5.v) ∧ 
  W.stV w t8 (.int .i64 t106_0) fun w1 => 
  W.stV w1 (t8.add 1) (.int .i64 t106_1) fun w2 => 
  W.stV w2 (t8.add 2) (.int .i64 t106_2) fun w3 => 
  W.stV w3 (t8.add 3) (.int .u64 t106_3) fun w4 => 
  W.stV w4 (t8.add 4) (.string t106_4) fun w5 => 
  W.stV w5 (t8.add 5) (t106_5.v) fun w6 => 
  ∃ r8_0 : Int, ∃ r8_1 : Int, ∃ r8_2 : Int, ∃ r8_3 : Int, ∃ r8_4 : ByteArray, ∃ r8_5 : W.Sl, w6.cell? (t8.add 0) = some (.int .i64 r8_0) ∧ w6.cell? (t8.add 1) = some (.int .i64 r8_1) ∧ w6.cell? (t8.add 2) = some (.int .i64 r8_2) ∧ w6.cell? (t8.add 3) = some (.int .u64 r8_3) ∧ w6.cell? (t8.add 4) = some (.string r8_4) ∧ w6.cell? (t8.add 5) = some (r8_5.v) ∧ 
  R (.returned (.agg #[.int .i64 r8_0, .int .i64 r8_1, .int .i64 r8_2, .int .u64 r8_3, .string r8_4, r8_5.v])) w6
def KE_S0 (E : W.Env) (w : World) (R : W.Post) : Prop := W.asRef (W.Env.get? E 4) fun v4 => W.asRef (W.Env.get? E 8) fun t8 => S0 v4 t8 w R
theorem KE_S0_ok (R : W.Post) (E : W.Env) (w : World) (h : KE_S0 E w R) : W.WP Try.prog (W.cx 107) C5 (Q0 R) E w := by
  obtain ⟨v4, hq4, h_1⟩ := W.asRef_elim h
  obtain ⟨t8, hq8, h_2⟩ := W.asRef_elim h_1
  exact fun a ha => W.WP.at (E := [(4, .pointer (some v4)), (8, .pointer (some t8))]) (W.sr C5 (K := fun E w => W.retVC Try.prog Try.f39 E w (fun v => R (.returned v) w)) (by kernel_rfl) (Eq.mp (by kernel_rfl) h_2) fun _ _ hK => (W.rt C6 (by kernel_rfl) fun a hA => W.retVC_sound hA hK)) (ha.cons hq4 (ha.cons hq8 ha.nil))
/-- enthymeme/enthymemeref06.Spoilt -/
noncomputable def C7 := W.Code.fst C4
noncomputable def C8 := W.Code.snd C7
noncomputable def C9 := W.Code.fst C8
noncomputable def C10 := W.Code.snd C9
noncomputable def C11 := W.Code.fst C10
noncomputable def C12 := W.Code.snd C10
noncomputable def C13 := W.Code.snd C12
noncomputable def C14 := W.Code.fst C13
noncomputable def C15 := W.Code.snd C13
noncomputable def C16 := W.Code.snd C15
noncomputable def C17 := W.Code.fst C16
noncomputable def C18 := W.Code.snd C16
noncomputable def C19 := W.Code.snd C18
noncomputable def C20 := W.Code.fst C19
noncomputable def C21 := W.Code.snd C19
noncomputable def C22 := W.Code.snd C21
noncomputable def C23 := W.Code.fst C22
noncomputable def C24 := W.Code.snd C22
noncomputable def C25 := W.Code.snd C24
noncomputable def C26 := W.Code.fst C25
noncomputable def C27 := W.Code.snd C25
noncomputable def C28 := W.Code.snd C27
noncomputable def C29 := W.Code.fst C28
noncomputable def C30 := W.Code.snd C28
noncomputable def C31 := W.Code.snd C30
noncomputable def C32 := W.Code.fst C31
noncomputable def C33 := W.Code.snd C32
noncomputable def C34 := W.Code.fst C33
noncomputable def C35 := W.Code.snd C31
noncomputable def C36 := W.Code.snd C35
noncomputable def C37 := W.Code.fst C36
noncomputable def C38 := W.Code.snd C33
noncomputable def C39 := W.Code.snd C36
theorem ok (v0_0 v0_1 v0_2 v0_3 : Int) (v0_4 : ByteArray) (v0_5 : W.Sl) (at1 how2 by3 : Int) (w : World) (R : W.Post) (h : W.nwV w (.cells #[.int .i64 v0_0, .int .i64 v0_1, .int .i64 v0_2, .int .u64 v0_3, .string v0_4, v0_5.v] ty_enthymemeref06_Value) fun w1 => 
  W.nwV w1 (.cells #[.int .i64 0, .int .i64 0, .int .i64 0, .int .u64 0, .string (ByteArray.mk #[]), .slice none 0 0] ty_enthymemeref06_Value) fun w2 => 
  W.nwV w2 (.cells #[] ty_enthymemeref06_Entry) fun w3 => 
  ∃ t13 : W.Sl, w3.cell? ((Addr.mk w.heap.size 0 none).add 5) = some (t13.v) ∧ 
  ∃ (t14 : W.Sl) (w4 : World), Sem.run Try.prog (Builtin.append_ #[ty_sl_enthymemeref06_Entry, ty_sl_enthymemeref06_Entry] ty_sl_enthymemeref06_Entry #[.slice (some (Addr.mk w2.heap.size 0 none)) 0 0, t13.v]) w3 = .ok (t14.v) w4 ∧ W.stV w4 ((Addr.mk w.heap.size 0 none).add 5) (t14.v) fun w5 => 
  W.nwV w5 (.cells #[.int .i64 by3, .int .i64 (-1), .int .i64 0, .int .i64 1, .int .i64 16, .int .i64 17, .int .i64 64, .int .i64 65] ty_int) fun w6 => 
  Calls Try.prog n_enthymemeref01_Around #[.int .i64 at1, .int .i64 8] w6 fun r_ w7 => ∃ t19 : Int, r_ = .returned (.int .i64 t19) ∧ 
  (0 : Int) ≤ t19 ∧ t19 < ((8 : Nat) : Int) ∧ W.optP (some (Addr.mk w5.heap.size 0 none)) fun t20_p => ∃ t21 : Int, w7.cell? (t20_p.add (Int.toNat t19 * 1)) = some (.int .i64 t21) ∧ 
  ∃ t24 : W.Sl, w7.cell? ((Addr.mk w.heap.size 0 none).add 5) = some (t24.v) ∧ 
  Calls Try.prog n_enthymemeref01_Around #[.int .i64 at1, .int .i64 (if 1 < ((t24.n : Nat) : Int) then ((t24.n : Nat) : Int) else 1)] w7 fun r_ w8 => ∃ t27 : Int, r_ = .returned (.int .i64 t27) ∧ 
  Calls Try.prog n_enthymemeref01_Around #[.int .i64 how2, .int .i64 9] w8 fun r_ w9 => ∃ t29 : Int, r_ = .returned (.int .i64 t29) ∧ 
  W.sel (t29 == 0) (W.stV w9 (((Addr.mk w.heap.size 0 none).add 0).add 0) (.int .i64 t21) fun w10 => 
  S0 (Addr.mk w.heap.size 0 none) (Addr.mk w1.heap.size 0 none) w10 R) (W.sel (t29 == 1) (W.stV w9 (((Addr.mk w.heap.size 0 none).add 0).add 1) (.int .i64 t21) fun w11 => 
  S0 (Addr.mk w.heap.size 0 none) (Addr.mk w1.heap.size 0 none) w11 R) (W.sel (t29 == 2) (W.stV w9 (((Addr.mk w.heap.size 0 none).add 0).add 2) (.int .i64 t21) fun w12 => 
  S0 (Addr.mk w.heap.size 0 none) (Addr.mk w1.heap.size 0 none) w12 R) (W.sel (t29 == 3) (∃ t62 : Int, w9.cell? ((Addr.mk w.heap.size 0 none).add 3) = some (.int .u64 t62) ∧ 
  W.stV w9 ((Addr.mk w.heap.size 0 none).add 3) (.int .u64 (IntKind.wrap .u64 (t62 + (IntKind.wrap .u64 t21)))) fun w13 => 
  S0 (Addr.mk w.heap.size 0 none) (Addr.mk w1.heap.size 0 none) w13 R) (W.sel (t29 == 4) (∃ t70 : ByteArray, w9.cell? ((Addr.mk w.heap.size 0 none).add 4) = some (.string t70) ∧ 
  ¬ (((t70.size + (ByteArray.mk #[120]).size : Nat) : Int) > IntKind.i64.max) ∧ W.stV w9 ((Addr.mk w.heap.size 0 none).add 4) (.string (t70 ++ (ByteArray.mk #[120]))) fun w14 => 
  S0 (Addr.mk w.heap.size 0 none) (Addr.mk w1.heap.size 0 none) w14 R) (W.sel (t29 == 5) (∃ t76 : W.Sl, w9.cell? ((Addr.mk w.heap.size 0 none).add 5) = some (t76.v) ∧ 
  W.nwV w9 (.cells #[.int .u64 (IntKind.wrap .u64 t21), .int .u64 1, .string (ByteArray.mk #[])] ty_enthymemeref06_Entry) fun w15 => 
  ∃ (t81 : W.Sl) (w16 : World), Sem.run Try.prog (Builtin.append_ #[ty_sl_enthymemeref06_Entry, ty_sl_enthymemeref06_Entry] ty_sl_enthymemeref06_Entry #[t76.v, .slice (some (Addr.mk w9.heap.size 0 none)) 1 1]) w15 = .ok (t81.v) w16 ∧ W.stV w16 ((Addr.mk w.heap.size 0 none).add 5) (t81.v) fun w17 => 
  S0 (Addr.mk w.heap.size 0 none) (Addr.mk w1.heap.size 0 none) w17 R) (W.sel (t29 == 6) (∃ t86 : W.Sl, w9.cell? ((Addr.mk w.heap.size 0 none).add 5) = some (t86.v) ∧ 
  W.nwV w9 (.cells #[.int .u64 (IntKind.wrap .u64 t21), .int .u64 0, .string (ByteArray.mk #[121])] ty_enthymemeref06_Entry) fun w18 => 
  ∃ (t91 : W.Sl) (w19 : World), Sem.run Try.prog (Builtin.append_ #[ty_sl_enthymemeref06_Entry, ty_sl_enthymemeref06_Entry] ty_sl_enthymemeref06_Entry #[t86.v, .slice (some (Addr.mk w9.heap.size 0 none)) 1 1]) w18 = .ok (t91.v) w19 ∧ W.stV w19 ((Addr.mk w.heap.size 0 none).add 5) (t91.v) fun w20 => 
  S0 (Addr.mk w.heap.size 0 none) (Addr.mk w1.heap.size 0 none) w20 R) (W.sel (t29 == 7) (∃ t96 : W.Sl, w9.cell? ((Addr.mk w.heap.size 0 none).add 5) = some (t96.v) ∧ 
  W.sel (decide (((t96.n : Nat) : Int) > 0)) (∃ t100 : W.Sl, w9.cell? ((Addr.mk w.heap.size 0 none).add 5) = some (t100.v) ∧ 
  (0 : Int) ≤ t27 ∧ t27 < ((t100.n : Nat) : Int) ∧ W.optP t100.a fun t104_p => W.stV w9 ((t104_p.add (Int.toNat t27 * 3)).add 1) (.int .u64 (IntKind.wrap .u64 t21)) fun w21 => 
  S0 (Addr.mk w.heap.size 0 none) (Addr.mk w1.heap.size 0 none) w21 R) (S0 (Addr.mk w.heap.size 0 none) (Addr.mk w1.heap.size 0 none) w9 R)) (∃ t31 : W.Sl, w9.cell? ((Addr.mk w.heap.size 0 none).add 5) = some (t31.v) ∧ 
  W.sel (decide (((t31.n : Nat) : Int) > 0)) (W.drV w9 fun w22 => ∃ t35 : W.Sl, w22.cell? ((Addr.mk w.heap.size 0 none).add 5) = some (t35.v) ∧ 
  ((W.nwV w22 (.cells #[.string (ByteArray.mk #[]), .string (ByteArray.mk #[122]), .string (ByteArray.mk #[122, 122])] ty_string) fun w23 => 
  w23.cell? ((Addr.mk w.heap.size 0 none).add 5) = some (t35.v) ∧ Calls Try.prog n_enthymemeref01_Around #[.int .i64 by3, .int .i64 3] w23 fun r_ w24 => ∃ t39 : Int, r_ = .returned (.int .i64 t39) ∧ 
  w24.cell? ((Addr.mk w.heap.size 0 none).add 5) = some (t35.v) ∧ (0 : Int) ≤ t39 ∧ t39 < ((3 : Nat) : Int) ∧ W.optP (some (Addr.mk w22.heap.size 0 none)) fun t40_p => ∃ t41 : ByteArray, w24.cell? (t40_p.add (Int.toNat t39 * 1)) = some (.string t41) ∧ 
  (0 : Int) ≤ t27 ∧ t27 < ((t35.n : Nat) : Int) ∧ W.optP t35.a fun t42_p => W.stV w24 ((t42_p.add (Int.toNat t27 * 3)).add 2) (.string t41) fun w25 => 
  S0 (Addr.mk w.heap.size 0 none) (Addr.mk w1.heap.size 0 none) w25 R) ∧ (Calls Try.prog n_enthymemeref01_Around #[.int .i64 by3, .int .i64 3] w22 fun r_ w26 => ∃ t39_x1 : Int, r_ = .returned (.int .i64 t39_x1) ∧ 
  w26.cell? ((Addr.mk w.heap.size 0 none).add 5) = some (t35.v) ∧ W.nwV w26 (.cells #[.string (ByteArray.mk #[]), .string (ByteArray.mk #[122]), .string (ByteArray.mk #[122, 122])] ty_string) fun w27 => 
  w27.cell? ((Addr.mk w.heap.size 0 none).add 5) = some (t35.v) ∧ (0 : Int) ≤ t39_x1 ∧ t39_x1 < ((3 : Nat) : Int) ∧ W.optP (some (Addr.mk w26.heap.size 0 none)) fun t40_x1_p => ∃ t41_x1 : ByteArray, w27.cell? (t40_x1_p.add (Int.toNat t39_x1 * 1)) = some (.string t41_x1) ∧ 
  (0 : Int) ≤ t27 ∧ t27 < ((t35.n : Nat) : Int) ∧ W.optP t35.a fun t42_x1_p => W.stV w27 ((t42_x1_p.add (Int.toNat t27 * 3)).add 2) (.string t41_x1) fun w28 => 
  S0 (Addr.mk w.heap.size 0 none) (Addr.mk w1.heap.size 0 none) w28 R))) (S0 (Addr.mk w.heap.size 0 none) (Addr.mk w1.heap.size 0 none) w9 R)))))))))) : Calls Try.prog n_enthymemeref06_Spoilt #[.agg #[.int .i64 v0_0, .int .i64 v0_1, .int .i64 v0_2, .int .u64 v0_3, .string v0_4, v0_5.v], .int .i64 at1, .int .i64 how2, .int .i64 by3] w R :=
  W.calls_of_WP' (R := R) (fn := Try.f39) (c := C0) (args := [.agg #[.int .i64 v0_0, .int .i64 v0_1, .int .i64 v0_2, .int .u64 v0_3, .string v0_4, v0_5.v], .int .i64 at1, .int .i64 how2, .int .i64 by3]) (by kernel_rfl) (by kernel_rfl) (by kernel_rfl) (W.sr C0 (by kernel_rfl) (show (fun (E : W.Env) (w : World) => W.srK Try.prog C0 (fun E w => W.srK Try.prog C1 (fun E w => W.srK Try.prog C2 (fun E w => W.srK Try.prog C3 (fun E w => W.srK Try.prog C7 (fun E w => W.srK Try.prog C9 (fun E w => W.condK (W.Env.val E (.tmp 44)) (W.rgK Try.prog C11 (fun E w => KE_S0 E w R) E w) (W.srK Try.prog C12 (fun E w => W.condK (W.Env.val E (.tmp 49)) (W.rgK Try.prog C14 (fun E w => KE_S0 E w R) E w) (W.srK Try.prog C15 (fun E w => W.condK (W.Env.val E (.tmp 54)) (W.rgK Try.prog C17 (fun E w => KE_S0 E w R) E w) (W.srK Try.prog C18 (fun E w => W.condK (W.Env.val E (.tmp 59)) (W.rgK Try.prog C20 (fun E w => KE_S0 E w R) E w) (W.srK Try.prog C21 (fun E w => W.condK (W.Env.val E (.tmp 67)) (W.rgK Try.prog C23 (fun E w => KE_S0 E w R) E w) (W.srK Try.prog C24 (fun E w => W.condK (W.Env.val E (.tmp 73)) (W.rgK Try.prog C26 (fun E w => KE_S0 E w R) E w) (W.srK Try.prog C27 (fun E w => W.condK (W.Env.val E (.tmp 83)) (W.rgK Try.prog C29 (fun E w => KE_S0 E w R) E w) (W.srK Try.prog C30 (fun E w => W.condK (W.Env.val E (.tmp 93)) (W.srK Try.prog C32 (fun E w => W.condK (W.Env.val E (.tmp 98)) (W.rgK Try.prog C34 (fun E w => KE_S0 E w R) E w) (KE_S0 E w R)) E w) (W.srK Try.prog C35 (fun E w => W.condK (W.Env.val E (.tmp 33)) (W.tgK Try.prog C37 (.one 0 (.one 1 (.one 2 (.one 4 (.fork (.one 3 (.one 5 (.one 6 (.one 7 (.one 8 (.one 9 (.one 10 .nil))))))) (.one 5 (.one 3 (.one 6 (.one 7 (.one 8 (.one 9 (.one 10 .nil)))))))))))) (fun E w => KE_S0 E w R) E w) (KE_S0 E w R)) E w)) E w)) E w)) E w)) E w)) E w)) E w)) E w)) E w) E w) E w) E w) E w) E w) (W.envOf 0 [.agg #[.int .i64 v0_0, .int .i64 v0_1, .int .i64 v0_2, .int .u64 v0_3, .string v0_4, v0_5.v], .int .i64 at1, .int .i64 how2, .int .i64 by3]) w from Eq.mp (by kernel_rfl) h) fun _ _ hK => (W.sr C1 (by kernel_rfl) hK fun _ _ hK => (W.sr C2 (by kernel_rfl) hK fun _ _ hK => (W.sr C3 (by kernel_rfl) hK fun _ _ hK => (W.sq C4 (by kernel_rfl) (W.sr C7 (by kernel_rfl) hK fun _ _ hK => (W.bk C8 0 (by kernel_rfl) (W.sr C9 (by kernel_rfl) hK fun _ _ hK => (W.cn C10 (by kernel_rfl) hK (fun hK => (W.rg C11 (by kernel_rfl) hK fun _ _ a hA hK => W.nx hA (KE_S0_ok R _ _ hK))) (fun hK => (W.sr C12 (by kernel_rfl) hK fun _ _ hK => (W.cn C13 (by kernel_rfl) hK (fun hK => (W.rg C14 (by kernel_rfl) hK fun _ _ a hA hK => W.nx hA (KE_S0_ok R _ _ hK))) (fun hK => (W.sr C15 (by kernel_rfl) hK fun _ _ hK => (W.cn C16 (by kernel_rfl) hK (fun hK => (W.rg C17 (by kernel_rfl) hK fun _ _ a hA hK => W.nx hA (KE_S0_ok R _ _ hK))) (fun hK => (W.sr C18 (by kernel_rfl) hK fun _ _ hK => (W.cn C19 (by kernel_rfl) hK (fun hK => (W.rg C20 (by kernel_rfl) hK fun _ _ a hA hK => W.nx hA (KE_S0_ok R _ _ hK))) (fun hK => (W.sr C21 (by kernel_rfl) hK fun _ _ hK => (W.cn C22 (by kernel_rfl) hK (fun hK => (W.rg C23 (by kernel_rfl) hK fun _ _ a hA hK => W.nx hA (KE_S0_ok R _ _ hK))) (fun hK => (W.sr C24 (by kernel_rfl) hK fun _ _ hK => (W.cn C25 (by kernel_rfl) hK (fun hK => (W.rg C26 (by kernel_rfl) hK fun _ _ a hA hK => W.nx hA (KE_S0_ok R _ _ hK))) (fun hK => (W.sr C27 (by kernel_rfl) hK fun _ _ hK => (W.cn C28 (by kernel_rfl) hK (fun hK => (W.rg C29 (by kernel_rfl) hK fun _ _ a hA hK => W.nx hA (KE_S0_ok R _ _ hK))) (fun hK => (W.sr C30 (by kernel_rfl) hK fun _ _ hK => (W.cn C31 (by kernel_rfl) hK (fun hK => (W.sr C32 (by kernel_rfl) hK fun _ _ hK => (W.cn C33 (by kernel_rfl) hK (fun hK => (W.rg C34 (by kernel_rfl) hK fun _ _ a hA hK => W.nx hA (KE_S0_ok R _ _ hK))) (fun hK => (W.sk C38 (by kernel_rfl) fun a hA => W.nx hA (KE_S0_ok R _ _ hK)))))) (fun hK => (W.sr C35 (by kernel_rfl) hK fun _ _ hK => (W.cn C36 (by kernel_rfl) hK (fun hK => (W.tg C37 (by kernel_rfl) hK fun _ _ a hA hK => W.nx hA (KE_S0_ok R _ _ hK))) (fun hK => (W.sk C39 (by kernel_rfl) fun a hA => W.nx hA (KE_S0_ok R _ _ hK))))))))))))))))))))))))))))))))))))
abbrev S0T (v4 : Nat) (v4_0 v4_1 v4_2 v4_3 : Int) (v4_4 : ByteArray) (v4_5 : W.Sl) (t8 : Nat) (t8_0 t8_1 t8_2 t8_3 : Int) (t8_4 : ByteArray) (t8_5 : W.Sl) (w : World) (R : W.Post) : Prop :=
  W.loc [v4, t8] w fun w6 => R (.returned (.agg #[.int .i64 v4_0, .int .i64 v4_1, .int .i64 v4_2, .int .u64 v4_3, .string v4_4, v4_5.v])) w6
theorem S0T_ok {v4 : Nat} {v4_0 v4_1 v4_2 v4_3 : Int} {v4_4 : ByteArray} {v4_5 : W.Sl} {t8 : Nat} {t8_0 t8_1 t8_2 t8_3 : Int} {t8_4 : ByteArray} {t8_5 : W.Sl} {w : World} {R : W.Post} (h : S0T v4 v4_0 v4_1 v4_2 v4_3 v4_4 v4_5 t8 t8_0 t8_1 t8_2 t8_3 t8_4 t8_5 w R) (H : W.LC w [(v4, [.int .i64 v4_0, .int .i64 v4_1, .int .i64 v4_2, .int .u64 v4_3, .string v4_4, v4_5.v], ty_enthymemeref06_Value), (t8, [.int .i64 t8_0, .int .i64 t8_1, .int .i64 t8_2, .int .u64 t8_3, .string t8_4, t8_5.v], ty_enthymemeref06_Value)]) : S0 (W.at0 v4) (W.at0 t8) w R := ⟨_, _, _, _, _, v4_5, H.ld 0 0, H.ld 0 1, H.ld 0 2, H.ld 0 3, H.ld 0 4, H.ld 0 5, W.LC.stT0 H 1 (W.Fr.refl _ _) rfl rfl fun w1 H f => W.LC.stT H 1 1 f rfl rfl fun w2 H f => W.LC.stT H 1 2 f rfl rfl fun w3 H f => W.LC.stT H 1 3 f rfl rfl fun w4 H f => W.LC.stT H 1 4 f rfl rfl fun w5 H f => W.LC.stT H 1 5 f rfl rfl fun w6 (H : W.LC w6 [(v4, [.int .i64 v4_0, .int .i64 v4_1, .int .i64 v4_2, .int .u64 v4_3, .string v4_4, v4_5.v], ty_enthymemeref06_Value), (t8, [.int .i64 v4_0, .int .i64 v4_1, .int .i64 v4_2, .int .u64 v4_3, .string v4_4, v4_5.v], ty_enthymemeref06_Value)]) (f : W.Fr (· ∈ [v4, t8]) _ w6) => ⟨_, _, _, _, _, v4_5, H.ld 1 0, H.ld 1 1, H.ld 1 2, H.ld 1 3, H.ld 1 4, H.ld 1 5, have h := h _ f; h⟩⟩
theorem okT (v0_0 v0_1 v0_2 v0_3 : Int) (v0_4 : ByteArray) (v0_5 : W.Sl) (at1 how2 by3 : Int) (w : World) (R : W.Post) (h : W.newV [] w fun b4 w1 => 
  W.newV [b4] w1 fun b8 w2 => 
  W.nwV w2 (.cells #[] ty_enthymemeref06_Entry) fun w3 => 
  ∃ (t14 : W.Sl) (w4 : World), Sem.run Try.prog (Builtin.append_ #[ty_sl_enthymemeref06_Entry, ty_sl_enthymemeref06_Entry] ty_sl_enthymemeref06_Entry #[.slice (some (Addr.mk w2.heap.size 0 none)) 0 0, v0_5.v]) w3 = .ok (t14.v) w4 ∧ W.kept [b4, b8] w3 w4 ∧ W.loc [b4, b8] w4 fun w5 => W.nwV w5 (.cells #[.int .i64 by3, .int .i64 (-1), .int .i64 0, .int .i64 1, .int .i64 16, .int .i64 17, .int .i64 64, .int .i64 65] ty_int) fun w6 => 
  W.callF [b4, b8] Try.prog n_enthymemeref01_Around #[.int .i64 at1, .int .i64 8] w6 fun r_ w7 => ∃ t19 : Int, r_ = .returned (.int .i64 t19) ∧ 
  (0 : Int) ≤ t19 ∧ t19 < ((8 : Nat) : Int) ∧ W.optP (some (Addr.mk w5.heap.size 0 none)) fun t20_p => ∃ t21 : Int, w7.cell? (t20_p.add (Int.toNat t19 * 1)) = some (.int .i64 t21) ∧ 
  W.callF [b4, b8] Try.prog n_enthymemeref01_Around #[.int .i64 at1, .int .i64 (if 1 < ((t14.n : Nat) : Int) then ((t14.n : Nat) : Int) else 1)] w7 fun r_ w8 => ∃ t27 : Int, r_ = .returned (.int .i64 t27) ∧ 
  W.callF [b4, b8] Try.prog n_enthymemeref01_Around #[.int .i64 how2, .int .i64 9] w8 fun r_ w9 => ∃ t29 : Int, r_ = .returned (.int .i64 t29) ∧ 
  W.sel (t29 == 0) (W.loc [b4, b8] w9 fun w10 => S0T b4 t21 v0_1 v0_2 v0_3 v0_4 t14 b8 0 0 0 0 (ByteArray.mk #[]) ⟨none, 0, 0⟩ w10 R) (W.sel (t29 == 1) (W.loc [b4, b8] w9 fun w11 => S0T b4 v0_0 t21 v0_2 v0_3 v0_4 t14 b8 0 0 0 0 (ByteArray.mk #[]) ⟨none, 0, 0⟩ w11 R) (W.sel (t29 == 2) (W.loc [b4, b8] w9 fun w12 => S0T b4 v0_0 v0_1 t21 v0_3 v0_4 t14 b8 0 0 0 0 (ByteArray.mk #[]) ⟨none, 0, 0⟩ w12 R) (W.sel (t29 == 3) (W.loc [b4, b8] w9 fun w13 => S0T b4 v0_0 v0_1 v0_2 (IntKind.wrap .u64 (v0_3 + (IntKind.wrap .u64 t21))) v0_4 t14 b8 0 0 0 0 (ByteArray.mk #[]) ⟨none, 0, 0⟩ w13 R) (W.sel (t29 == 4) (¬ (((v0_4.size + (ByteArray.mk #[120]).size : Nat) : Int) > IntKind.i64.max) ∧ W.loc [b4, b8] w9 fun w14 => S0T b4 v0_0 v0_1 v0_2 v0_3 (v0_4 ++ (ByteArray.mk #[120])) t14 b8 0 0 0 0 (ByteArray.mk #[]) ⟨none, 0, 0⟩ w14 R) (W.sel (t29 == 5) (W.nwV w9 (.cells #[.int .u64 (IntKind.wrap .u64 t21), .int .u64 1, .string (ByteArray.mk #[])] ty_enthymemeref06_Entry) fun w15 => 
  ∃ (t81 : W.Sl) (w16 : World), Sem.run Try.prog (Builtin.append_ #[ty_sl_enthymemeref06_Entry, ty_sl_enthymemeref06_Entry] ty_sl_enthymemeref06_Entry #[t14.v, .slice (some (Addr.mk w9.heap.size 0 none)) 1 1]) w15 = .ok (t81.v) w16 ∧ W.kept [b4, b8] w15 w16 ∧ W.loc [b4, b8] w16 fun w17 => S0T b4 v0_0 v0_1 v0_2 v0_3 v0_4 t81 b8 0 0 0 0 (ByteArray.mk #[]) ⟨none, 0, 0⟩ w17 R) (W.sel (t29 == 6) (W.nwV w9 (.cells #[.int .u64 (IntKind.wrap .u64 t21), .int .u64 0, .string (ByteArray.mk #[121])] ty_enthymemeref06_Entry) fun w18 => 
  ∃ (t91 : W.Sl) (w19 : World), Sem.run Try.prog (Builtin.append_ #[ty_sl_enthymemeref06_Entry, ty_sl_enthymemeref06_Entry] ty_sl_enthymemeref06_Entry #[t14.v, .slice (some (Addr.mk w9.heap.size 0 none)) 1 1]) w18 = .ok (t91.v) w19 ∧ W.kept [b4, b8] w18 w19 ∧ W.loc [b4, b8] w19 fun w20 => S0T b4 v0_0 v0_1 v0_2 v0_3 v0_4 t91 b8 0 0 0 0 (ByteArray.mk #[]) ⟨none, 0, 0⟩ w20 R) (W.sel (t29 == 7) (W.sel (decide (((t14.n : Nat) : Int) > 0)) ((0 : Int) ≤ t27 ∧ t27 < ((t14.n : Nat) : Int) ∧ W.optP t14.a fun t104_p => W.stV w9 ((t104_p.add (Int.toNat t27 * 3)).add 1) (.int .u64 (IntKind.wrap .u64 t21)) fun w21 => W.kept [b4, b8] w9 w21 ∧ 
  S0T b4 v0_0 v0_1 v0_2 v0_3 v0_4 t14 b8 0 0 0 0 (ByteArray.mk #[]) ⟨none, 0, 0⟩ w21 R) (S0T b4 v0_0 v0_1 v0_2 v0_3 v0_4 t14 b8 0 0 0 0 (ByteArray.mk #[]) ⟨none, 0, 0⟩ w9 R)) (W.sel (decide (((t14.n : Nat) : Int) > 0)) (((W.loc [b4, b8] w9 fun w22 => W.nwV w22 (.cells #[.string (ByteArray.mk #[]), .string (ByteArray.mk #[122]), .string (ByteArray.mk #[122, 122])] ty_string) fun w23 => 
  W.callF [b4, b8] Try.prog n_enthymemeref01_Around #[.int .i64 by3, .int .i64 3] w23 fun r_ w24 => ∃ t39 : Int, r_ = .returned (.int .i64 t39) ∧ 
  (0 : Int) ≤ t39 ∧ t39 < ((3 : Nat) : Int) ∧ W.optP (some (Addr.mk w22.heap.size 0 none)) fun t40_p => ∃ t41 : ByteArray, w24.cell? (t40_p.add (Int.toNat t39 * 1)) = some (.string t41) ∧ 
  (0 : Int) ≤ t27 ∧ t27 < ((t14.n : Nat) : Int) ∧ W.optP t14.a fun t42_p => W.stV w24 ((t42_p.add (Int.toNat t27 * 3)).add 2) (.string t41) fun w25 => W.kept [b4, b8] w24 w25 ∧ 
  S0T b4 v0_0 v0_1 v0_2 v0_3 v0_4 t14 b8 0 0 0 0 (ByteArray.mk #[]) ⟨none, 0, 0⟩ w25 R) ∧ (W.loc [b4, b8] w9 fun w22 => W.callF [b4, b8] Try.prog n_enthymemeref01_Around #[.int .i64 by3, .int .i64 3] w22 fun r_ w26 => ∃ t39_x1 : Int, r_ = .returned (.int .i64 t39_x1) ∧ 
  W.nwV w26 (.cells #[.string (ByteArray.mk #[]), .string (ByteArray.mk #[122]), .string (ByteArray.mk #[122, 122])] ty_string) fun w27 => 
  (0 : Int) ≤ t39_x1 ∧ t39_x1 < ((3 : Nat) : Int) ∧ W.optP (some (Addr.mk w26.heap.size 0 none)) fun t40_x1_p => ∃ t41_x1 : ByteArray, w27.cell? (t40_x1_p.add (Int.toNat t39_x1 * 1)) = some (.string t41_x1) ∧ 
  (0 : Int) ≤ t27 ∧ t27 < ((t14.n : Nat) : Int) ∧ W.optP t14.a fun t42_x1_p => W.stV w27 ((t42_x1_p.add (Int.toNat t27 * 3)).add 2) (.string t41_x1) fun w28 => W.kept [b4, b8] w27 w28 ∧ 
  S0T b4 v0_0 v0_1 v0_2 v0_3 v0_4 t14 b8 0 0 0 0 (ByteArray.mk #[]) ⟨none, 0, 0⟩ w28 R))) (S0T b4 v0_0 v0_1 v0_2 v0_3 v0_4 t14 b8 0 0 0 0 (ByteArray.mk #[]) ⟨none, 0, 0⟩ w9 R)))))))))) : Calls Try.prog n_enthymemeref06_Spoilt #[.agg #[.int .i64 v0_0, .int .i64 v0_1, .int .i64 v0_2, .int .u64 v0_3, .string v0_4, v0_5.v], .int .i64 at1, .int .i64 how2, .int .i64 by3] w R :=
  ok _ _ _ _ _ _ _ _ _ w R (W.LC.nwT (W.LC.nil _) (W.Fr.refl _ _) h fun w1 H h => W.LC.nwT H (W.Fr.refl _ _) h fun w2 H h => W.LC.nwN H h fun w3 H h => ⟨v0_5, H.ld 0 5, let ⟨t14, w4, he, hk, h⟩ := h; have H := W.LC.keptT H hk; ⟨t14, w4, he, W.LC.stT H 0 5 (W.Fr.refl _ _) rfl rfl fun w5 (H : W.LC w5 [(w.heap.size, [.int .i64 v0_0, .int .i64 v0_1, .int .i64 v0_2, .int .u64 v0_3, .string v0_4, t14.v], ty_enthymemeref06_Value), (w1.heap.size, [.int .i64 0, .int .i64 0, .int .i64 0, .int .u64 0, .string (ByteArray.mk #[]), .slice none 0 0], ty_enthymemeref06_Value)]) (f : W.Fr (· ∈ [w.heap.size, w1.heap.size]) _ w5) => have h := h _ f; W.LC.nwN H h fun w6 H h => W.LC.callT H h fun r_ w7 H h => let ⟨t19, hr, h⟩ := h; ⟨t19, hr, ⟨h.1, h.2.1, have h := h.2.2; W.optP_imp h fun t20_p h => let ⟨t21, hc0, h⟩ := h; ⟨t21, hc0, ⟨t14, H.ld 0 5, W.LC.callT H h fun r_ w8 H h => let ⟨t27, hr, h⟩ := h; ⟨t27, hr, W.LC.callT H h fun r_ w9 H h => let ⟨t29, hr, h⟩ := h; ⟨t29, hr, W.sel_imp h (fun h => W.LC.stT H 0 0 (W.Fr.refl _ _) rfl rfl fun w10 (H : W.LC w10 [(w.heap.size, [.int .i64 t21, .int .i64 v0_1, .int .i64 v0_2, .int .u64 v0_3, .string v0_4, t14.v], ty_enthymemeref06_Value), (w1.heap.size, [.int .i64 0, .int .i64 0, .int .i64 0, .int .u64 0, .string (ByteArray.mk #[]), .slice none 0 0], ty_enthymemeref06_Value)]) (f : W.Fr (· ∈ [w.heap.size, w1.heap.size]) _ w10) => have h := h _ f; S0T_ok h H) (fun h => W.sel_imp h (fun h => W.LC.stT H 0 1 (W.Fr.refl _ _) rfl rfl fun w11 (H : W.LC w11 [(w.heap.size, [.int .i64 v0_0, .int .i64 t21, .int .i64 v0_2, .int .u64 v0_3, .string v0_4, t14.v], ty_enthymemeref06_Value), (w1.heap.size, [.int .i64 0, .int .i64 0, .int .i64 0, .int .u64 0, .string (ByteArray.mk #[]), .slice none 0 0], ty_enthymemeref06_Value)]) (f : W.Fr (· ∈ [w.heap.size, w1.heap.size]) _ w11) => have h := h _ f; S0T_ok h H) (fun h => W.sel_imp h (fun h => W.LC.stT H 0 2 (W.Fr.refl _ _) rfl rfl fun w12 (H : W.LC w12 [(w.heap.size, [.int .i64 v0_0, .int .i64 v0_1, .int .i64 t21, .int .u64 v0_3, .string v0_4, t14.v], ty_enthymemeref06_Value), (w1.heap.size, [.int .i64 0, .int .i64 0, .int .i64 0, .int .u64 0, .string (ByteArray.mk #[]), .slice none 0 0], ty_enthymemeref06_Value)]) (f : W.Fr (· ∈ [w.heap.size, w1.heap.size]) _ w12) => have h := h _ f; S0T_ok h H) (fun h => W.sel_imp h (fun h => ⟨_, H.ld 0 3, W.LC.stT H 0 3 (W.Fr.refl _ _) rfl rfl fun w13 (H : W.LC w13 [(w.heap.size, [.int .i64 v0_0, .int .i64 v0_1, .int .i64 v0_2, .int .u64 (IntKind.wrap .u64 (v0_3 + (IntKind.wrap .u64 t21))), .string v0_4, t14.v], ty_enthymemeref06_Value), (w1.heap.size, [.int .i64 0, .int .i64 0, .int .i64 0, .int .u64 0, .string (ByteArray.mk #[]), .slice none 0 0], ty_enthymemeref06_Value)]) (f : W.Fr (· ∈ [w.heap.size, w1.heap.size]) _ w13) => have h := h _ f; S0T_ok h H⟩) (fun h => W.sel_imp h (fun h => ⟨_, H.ld 0 4, ⟨h.1, have h := h.2; W.LC.stT H 0 4 (W.Fr.refl _ _) rfl rfl fun w14 (H : W.LC w14 [(w.heap.size, [.int .i64 v0_0, .int .i64 v0_1, .int .i64 v0_2, .int .u64 v0_3, .string (v0_4 ++ (ByteArray.mk #[120])), t14.v], ty_enthymemeref06_Value), (w1.heap.size, [.int .i64 0, .int .i64 0, .int .i64 0, .int .u64 0, .string (ByteArray.mk #[]), .slice none 0 0], ty_enthymemeref06_Value)]) (f : W.Fr (· ∈ [w.heap.size, w1.heap.size]) _ w14) => have h := h _ f; S0T_ok h H⟩⟩) (fun h => W.sel_imp h (fun h => ⟨t14, H.ld 0 5, W.LC.nwN H h fun w15 H h => let ⟨t81, w16, he, hk, h⟩ := h; have H := W.LC.keptT H hk; ⟨t81, w16, he, W.LC.stT H 0 5 (W.Fr.refl _ _) rfl rfl fun w17 (H : W.LC w17 [(w.heap.size, [.int .i64 v0_0, .int .i64 v0_1, .int .i64 v0_2, .int .u64 v0_3, .string v0_4, t81.v], ty_enthymemeref06_Value), (w1.heap.size, [.int .i64 0, .int .i64 0, .int .i64 0, .int .u64 0, .string (ByteArray.mk #[]), .slice none 0 0], ty_enthymemeref06_Value)]) (f : W.Fr (· ∈ [w.heap.size, w1.heap.size]) _ w17) => have h := h _ f; S0T_ok h H⟩⟩) (fun h => W.sel_imp h (fun h => ⟨t14, H.ld 0 5, W.LC.nwN H h fun w18 H h => let ⟨t91, w19, he, hk, h⟩ := h; have H := W.LC.keptT H hk; ⟨t91, w19, he, W.LC.stT H 0 5 (W.Fr.refl _ _) rfl rfl fun w20 (H : W.LC w20 [(w.heap.size, [.int .i64 v0_0, .int .i64 v0_1, .int .i64 v0_2, .int .u64 v0_3, .string v0_4, t91.v], ty_enthymemeref06_Value), (w1.heap.size, [.int .i64 0, .int .i64 0, .int .i64 0, .int .u64 0, .string (ByteArray.mk #[]), .slice none 0 0], ty_enthymemeref06_Value)]) (f : W.Fr (· ∈ [w.heap.size, w1.heap.size]) _ w20) => have h := h _ f; S0T_ok h H⟩⟩) (fun h => W.sel_imp h (fun h => ⟨t14, H.ld 0 5, W.sel_imp h (fun h => ⟨t14, H.ld 0 5, ⟨h.1, h.2.1, have h := h.2.2; W.optP_imp h fun t104_p h => W.stV_imp h fun w21 h => have H := W.LC.keptT H h.1; have h := h.2; S0T_ok h H⟩⟩) (fun h => S0T_ok h H)⟩) (fun h => ⟨t14, H.ld 0 5, W.sel_imp h (fun h => W.LC.drT H (W.Fr.refl _ _) fun w22 H f => ⟨t14, H.ld 0 5, ⟨have h := h.1; have h := h _ f; W.LC.nwN H h fun w23 H h => ⟨H.ld 0 5, W.LC.callT H h fun r_ w24 H h => let ⟨t39, hr, h⟩ := h; ⟨t39, hr, ⟨H.ld 0 5, ⟨h.1, h.2.1, have h := h.2.2; W.optP_imp h fun t40_p h => let ⟨t41, hc0, h⟩ := h; ⟨t41, hc0, ⟨h.1, h.2.1, have h := h.2.2; W.optP_imp h fun t42_p h => W.stV_imp h fun w25 h => have H := W.LC.keptT H h.1; have h := h.2; S0T_ok h H⟩⟩⟩⟩⟩⟩, have h := h.2; have h := h _ f; W.LC.callT H h fun r_ w26 H h => let ⟨t39_x1, hr, h⟩ := h; ⟨t39_x1, hr, ⟨H.ld 0 5, W.LC.nwN H h fun w27 H h => ⟨H.ld 0 5, ⟨h.1, h.2.1, have h := h.2.2; W.optP_imp h fun t40_x1_p h => let ⟨t41_x1, hc0, h⟩ := h; ⟨t41_x1, hc0, ⟨h.1, h.2.1, have h := h.2.2; W.optP_imp h fun t42_x1_p h => W.stV_imp h fun w28 h => have H := W.LC.keptT H h.1; have h := h.2; S0T_ok h H⟩⟩⟩⟩⟩⟩⟩⟩) (fun h => S0T_ok h H)⟩))))))))⟩⟩⟩⟩⟩⟩⟩⟩)
end enthymemeref06_Spoilt
end Go.Proofs.Ytjjhfdjpmonlaaa

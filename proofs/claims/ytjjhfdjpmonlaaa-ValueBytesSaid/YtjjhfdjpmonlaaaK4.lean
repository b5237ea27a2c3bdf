/- Values of the reference that are valid; from one package to the other: the contracts. -/
import Derived.Test.YtjjhfdjpmonlaaaK3
import Derived.Test.YtjjhfdjpmonlaaaVR
namespace Go.Proofs.Ytjjhfdjpmonlaaa
open Go Go.W

theorem el_ve : ElemOk Try.prog ty_sl_value_Entry ty_value_Entry (.agg #[.int .u64 0, .int .u64 0, .string (ByteArray.mk #[])]) 3 32 := ⟨by kernel_rfl, by kernel_rfl, rfl, by decide, by decide⟩
theorem el_re : ElemOk Try.prog ty_sl_enthymemeref06_Entry ty_enthymemeref06_Entry (.agg #[.int .u64 0, .int .u64 0, .string (ByteArray.mk #[])]) 3 32 := ⟨by kernel_rfl, by kernel_rfl, rfl, by decide, by decide⟩
theorem entsC_snoc (m : List Ent) (e : Ent) : entsC (m ++ [e]) = entsC m ++ entC e := by simp [entsC]
theorem ents_own {w : World} {e : TypeId} {sl : Sl} {m : List Ent} (h : OwnRow w e 3 sl (entsC m)) : sl.n = m.length := ents_n h.rdn
theorem entC_one (m : List Ent) : ∀ u ∈ entsC m, u.oneCell' = true := fun u hu => by
  obtain ⟨e, _, h⟩ := List.mem_flatMap.1 hu
  simp only [entC, List.mem_cons, List.not_mem_nil, or_false] at h
  rcases h with rfl | rfl | rfl <;> rfl
/-- a value that is returned, whose entries are new -/
def RetV (T : TypeId) (w : World) (v : Val) : Post := fun r w' => ∃ sl : Sl, r = .returned (vagg v sl) ∧ OwnRow w' T 3 sl (entsC v.m) ∧ ∀ b ∈ blkL sl, w.heap.size ≤ b
theorem cells_again {w1 : World} {sl : Sl} {m : List Ent} {i : Nat} {e : Ent} {p : Addr} (h : RdN 3 w1 sl (entsC m)) (hi : m[i]? = some e) (hp : sl.a = some p) :
    w1.cell? ((p.add (i * 3)).add 0) = some (.int .u64 (e.i : Int)) ∧ w1.cell? ((p.add (i * 3)).add 1) = some (.int .u64 (e.u : Int)) ∧ w1.cell? ((p.add (i * 3)).add 2) = some (.string (ba e.s)) := by
  have hk := ent_at h hi (K := fun q => ∃ q', sl.a = some q' ∧ w1.cell? ((q'.add (i * 3)).add 0) = some (.int .u64 (e.i : Int)) ∧ w1.cell? ((q'.add (i * 3)).add 1) = some (.int .u64 (e.u : Int)) ∧ w1.cell? ((q'.add (i * 3)).add 2) = some (.string (ba e.s))) (fun q hq d0 d1 d2 => ⟨q, hq, d0, d1, d2⟩)
  rw [hp] at hk
  obtain ⟨q, hq, d⟩ := hk
  cases hq
  exact d
theorem l_own (v : Val) (sl : Sl) (w : World) (h : RdN 3 w sl (entsC v.m)) (hm : v.m.length ≤ 1000000) : Calls Try.prog n_enthymemelaw06_own #[vagg v sl] w fun r w' => RetV ty_value_Entry w v r w' ∧ Fr0 w w' := by
  have nn := ents_n h
  have loop : ∀ (l acc : List Ent) (out : Sl) (b1 b2 b3 : Nat) (w1 : World), acc ++ l = v.m → LH F0 w w1 [.g b1, .g b2, .g b3, .row ty_value_Entry 3 out (entsC acc)] [EntsD sl v.m] →
      enthymemelaw06_own.L0T b1 v.t.k v.t.n v.t.x (v.u : Int) (ba v.s) sl b2 0 0 0 0 (ByteArray.mk #[]) ⟨none, 0, 0⟩ b3 v.t.k v.t.n v.t.x (v.u : Int) (ba v.s) out ((acc.length : Nat) : Int) w1 fun r w' => RetV ty_value_Entry w v r w' ∧ Fr0 w w' := by
    intro l
    induction l with
    | nil =>
      intro acc out b1 b2 b3 w1 he H
      rw [List.append_nil] at he
      refine enthymemelaw06_own.L0T_step _ _ _ _ _ _ _ _ _ _ _ _ _ _ _ _ _ _ _ _ _ _ _ _ (sel_false (decide_eq_false (by rw [nn, he]; omega)) (H.locg fun w2 H2 => ⟨⟨out, rfl, ?_, fun b hb => ?_⟩, H2.fr⟩))
      · rw [← he]; exact H2.get 3
      · exact (H2.new _ (List.mem_of_getElem? (i := 3) rfl) b hb).resolve_right id
    | cons e l ih =>
      intro acc out b1 b2 b3 w1 he H
      have hlt : acc.length < v.m.length := by rw [← he]; simp
      have hi : v.m[acc.length]? = some e := by rw [← he]; simp
      have hon := ents_own (H.get 3)
      refine enthymemelaw06_own.L0T_step _ _ _ _ _ _ _ _ _ _ _ _ _ _ _ _ _ _ _ _ _ _ _ _ (sel_true (decide_eq_true (by omega)) ⟨by omega, by omega, ?_⟩)
      rw [Int.toNat_natCast]
      refine ent_at (H.getD 0) hi fun p hp _ _ _ => H.locg fun w2 H2 => ?_
      obtain ⟨c0, c1, c2⟩ := cells_again (H2.getD 0) hi hp
      refine ⟨_, c0, by omega, by omega, ?_⟩
      rw [hp]
      refine ⟨_, c1, by omega, by omega, ?_⟩
      refine ⟨_, c2, ?_⟩
      have H3 : LH F0 w (w2.alloc (.cells #[.int .u64 (e.i : Int), .int .u64 (e.u : Int), .string (ba e.s)] ty_value_Entry)) _ _ := H2.fr0 (Fr.alloc _ _ _)
      obtain ⟨g0, g1, g2⟩ := cells_again (H3.getD 0) hi hp
      refine ⟨g2, g1, g0, ?_⟩
      obtain ⟨sl', w4, hr, H4, hk⟩ := H3.apk 3 el_ve (ty := ty_sl_value_Entry) (src := ⟨some (at0 w2.heap.size), 1, 1⟩) (news := entC e) (K := fun s' w' => LH F0 w w' [.g b1, .g b2, .g b3, .row ty_value_Entry 3 s' (entsC acc ++ entC e)] [EntsD sl v.m] ∧ ∀ b, En.g b ∈ [En.g b1, .g b2, .g b3, .row ty_value_Entry 3 out (entsC acc)] → w'.heap[b]? = (w2.alloc (.cells #[.int .u64 (e.i : Int), .int .u64 (e.u : Int), .string (ba e.s)] ty_value_Entry)).heap[b]?) rfl ((Row.made w2 ty_value_Entry 1 1 (entC e)).crow) rfl (by simp [entC, Value.oneCell']) (by show (out.n + 1) * 32 ≤ _; omega) (fun s' w' h _ _ hk => ⟨h, hk⟩)
      obtain ⟨e0, e1, e2⟩ := cells_again (H4.getD 0) hi hp
      refine ⟨sl', w4, hr, fun b hb => hk b ?_, e2, e1, e0, H4.locg fun w5 H5 => ?_⟩
      · simp only [List.mem_cons, List.not_mem_nil, or_false] at hb ⊢
        rcases hb with rfl | rfl | rfl
        · exact .inl rfl
        · exact .inr (.inl rfl)
        · exact .inr (.inr (.inl rfl))
      · rw [i64_next _ (by omega)]
        have := ih (acc ++ [e]) sl' b1 b2 b3 w5 (by rw [← he]; simp) (by rw [entsC_snoc]; exact H5)
        rw [List.length_append] at this
        exact this
  refine enthymemelaw06_own.okT _ _ _ _ _ _ w _ ((lh0 [EntsD sl v.m] (by simp only [List.mem_cons, List.not_mem_nil, or_false]; rintro e rfl; exact h)).newg fun b1 w1 H1 => H1.newg fun b2 w2 H2 => H2.newg fun b3 w3 H3 => H3.locg fun w4 H4 => ?_)
  exact loop v.m [] ⟨none, 0, 0⟩ b1 b2 b3 w4 rfl (H4.nilrow _ _)
theorem l_plain (v : Val) (sl : Sl) (w : World) (h : RdN 3 w sl (entsC v.m)) (hm : v.m.length ≤ 1000000) : Calls Try.prog n_enthymemelaw06_plain #[vagg v sl] w fun r w' => RetV ty_enthymemeref06_Entry w v r w' ∧ Fr0 w w' := by
  have nn := ents_n h
  have loop : ∀ (l acc : List Ent) (out : Sl) (b1 b2 b3 : Nat) (w1 : World), acc ++ l = v.m → LH F0 w w1 [.g b1, .g b2, .g b3, .row ty_enthymemeref06_Entry 3 out (entsC acc)] [EntsD sl v.m] →
      enthymemelaw06_plain.L0T b1 v.t.k v.t.n v.t.x (v.u : Int) (ba v.s) sl b2 0 0 0 0 (ByteArray.mk #[]) ⟨none, 0, 0⟩ b3 v.t.k v.t.n v.t.x (v.u : Int) (ba v.s) out ((acc.length : Nat) : Int) w1 fun r w' => RetV ty_enthymemeref06_Entry w v r w' ∧ Fr0 w w' := by
    intro l
    induction l with
    | nil =>
      intro acc out b1 b2 b3 w1 he H
      rw [List.append_nil] at he
      refine enthymemelaw06_plain.L0T_step _ _ _ _ _ _ _ _ _ _ _ _ _ _ _ _ _ _ _ _ _ _ _ _ (sel_false (decide_eq_false (by rw [nn, he]; omega)) (H.locg fun w2 H2 => ⟨⟨out, rfl, ?_, fun b hb => ?_⟩, H2.fr⟩))
      · rw [← he]; exact H2.get 3
      · exact (H2.new _ (List.mem_of_getElem? (i := 3) rfl) b hb).resolve_right id
    | cons e l ih =>
      intro acc out b1 b2 b3 w1 he H
      have hlt : acc.length < v.m.length := by rw [← he]; simp
      have hi : v.m[acc.length]? = some e := by rw [← he]; simp
      have hon := ents_own (H.get 3)
      refine enthymemelaw06_plain.L0T_step _ _ _ _ _ _ _ _ _ _ _ _ _ _ _ _ _ _ _ _ _ _ _ _ (sel_true (decide_eq_true (by omega)) ⟨by omega, by omega, ?_⟩)
      rw [Int.toNat_natCast]
      refine ent_at (H.getD 0) hi fun p hp _ _ _ => H.locg fun w2 H2 => ?_
      obtain ⟨c0, c1, c2⟩ := cells_again (H2.getD 0) hi hp
      refine ⟨_, c0, by omega, by omega, ?_⟩
      rw [hp]
      refine ⟨_, c1, by omega, by omega, ?_⟩
      refine ⟨_, c2, ?_⟩
      have H3 : LH F0 w (w2.alloc (.cells #[.int .u64 (e.i : Int), .int .u64 (e.u : Int), .string (ba e.s)] ty_enthymemeref06_Entry)) _ _ := H2.fr0 (Fr.alloc _ _ _)
      obtain ⟨g0, g1, g2⟩ := cells_again (H3.getD 0) hi hp
      refine ⟨g2, g1, g0, ?_⟩
      obtain ⟨sl', w4, hr, H4, hk⟩ := H3.apk 3 el_re (ty := ty_sl_enthymemeref06_Entry) (src := ⟨some (at0 w2.heap.size), 1, 1⟩) (news := entC e) (K := fun s' w' => LH F0 w w' [.g b1, .g b2, .g b3, .row ty_enthymemeref06_Entry 3 s' (entsC acc ++ entC e)] [EntsD sl v.m] ∧ ∀ b, En.g b ∈ [En.g b1, .g b2, .g b3, .row ty_enthymemeref06_Entry 3 out (entsC acc)] → w'.heap[b]? = (w2.alloc (.cells #[.int .u64 (e.i : Int), .int .u64 (e.u : Int), .string (ba e.s)] ty_enthymemeref06_Entry)).heap[b]?) rfl ((Row.made w2 ty_enthymemeref06_Entry 1 1 (entC e)).crow) rfl (by simp [entC, Value.oneCell']) (by show (out.n + 1) * 32 ≤ _; omega) (fun s' w' h _ _ hk => ⟨h, hk⟩)
      obtain ⟨e0, e1, e2⟩ := cells_again (H4.getD 0) hi hp
      refine ⟨sl', w4, hr, fun b hb => hk b ?_, e2, e1, e0, H4.locg fun w5 H5 => ?_⟩
      · simp only [List.mem_cons, List.not_mem_nil, or_false] at hb ⊢
        rcases hb with rfl | rfl | rfl
        · exact .inl rfl
        · exact .inr (.inl rfl)
        · exact .inr (.inr (.inl rfl))
      · rw [i64_next _ (by omega)]
        have := ih (acc ++ [e]) sl' b1 b2 b3 w5 (by rw [← he]; simp) (by rw [entsC_snoc]; exact H5)
        rw [List.length_append] at this
        exact this
  refine enthymemelaw06_plain.okT _ _ _ _ _ _ w _ ((lh0 [EntsD sl v.m] (by simp only [List.mem_cons, List.not_mem_nil, or_false]; rintro e rfl; exact h)).newg fun b1 w1 H1 => H1.newg fun b2 w2 H2 => H2.newg fun b3 w3 H3 => H3.locg fun w4 H4 => ?_)
  exact loop v.m [] ⟨none, 0, 0⟩ b1 b2 b3 w4 rfl (H4.nilrow _ _)
/-! #### Valid of the reference -/
theorem r_Valid (v : Val) (sl : Sl) (w : World) (h : RdN 3 w sl (entsC v.m)) (hm : v.m.length ≤ 1000000) : Calls Try.prog n_enthymemeref06_Valid #[vagg v sl] w fun r w' => r = .returned (.int .i64 (validV v)) ∧ Fr0 w w' := by
  have nn := ents_n h
  have sz : (ba v.s).size = v.s.length := rfl
  refine enthymemeref06_Valid.okT _ _ _ _ _ _ w _ ((lh0 [EntsD sl v.m] (by simp only [List.mem_cons, List.not_mem_nil, or_false]; rintro e rfl; exact h)).newg fun b1 w1 H1 => H1.callg (r_ValidSort v.t w1) ?_)
  rintro _ w2 rfl H2
  refine ⟨_, rfl, sel_ne (fun hs => ⟨?_, H2.fr⟩) (fun hs => ?_)⟩
  · have hv : ¬ validS v.t = true := fun hh => hs (by unfold sortE; rw [if_pos hh])
    unfold validV; rw [if_neg hv]
  have hv : validS v.t = true := by
    by_cases hh : validS v.t = true
    · exact hh
    · unfold sortE at hs; rw [if_neg hh] at hs; omega
  have vs := vs_of hv
  have no : ∀ {w3 : World}, validB v = false → Fr0 w w3 → (Ending.returned (Value.int .i64 1) = .returned (.int .i64 (validV v)) ∧ Fr0 w w3) := fun hb f => ⟨by unfold validV; rw [if_pos hv, if_neg (by simp [hb])], f⟩
  have yes : ∀ {w3 : World}, validB v = true → Fr0 w w3 → (Ending.returned (Value.int .i64 0) = .returned (.int .i64 (validV v)) ∧ Fr0 w w3) := fun hb f => ⟨by unfold validV; rw [if_pos hv, if_pos hb], f⟩
  have em : (decide (((sl.n : Nat) : Int) > 0)) = !v.m.isEmpty := by
    rw [nn]
    cases v.m <;> simp
  have es : (decide ((((ba v.s).size : Nat) : Int) > 0)) = !v.s.isEmpty := by
    rw [sz]
    cases v.s <;> simp
  have eu : (decide (((v.u : Nat) : Int) > 0)) = !(v.u == 0) := by
    by_cases hu : v.u = 0
    · simp [hu]
    · rw [decide_eq_true (by omega)]; simp [hu]
  -- the entries
  have loop : ∀ (d i : Nat) (b1 b3 : Nat) (w1 : World), v.t.k ≠ 0 → v.t.k ≠ 1 → v.u = 0 → v.s = [] → i + d = v.m.length → okM v.t (pre v.m i) (v.m.drop i) = okM v.t none v.m → LH F0 w w1 [.g b1, .g b3] [EntsD sl v.m] →
      enthymemeref06_Valid.L5T b1 v.t.k v.t.n v.t.x (v.u : Int) (ba v.s) sl b3 v.t.k v.t.n v.t.x (i : Int) w1 fun r w' => r = .returned (.int .i64 (validV v)) ∧ Fr0 w w' := by
    intro d i b1 b3 w1 hk0 hk1 hu hs' 
    have vb : validB v = okM v.t none v.m := by unfold validB; rw [if_neg hk0, if_neg hk1, hu, hs']; rfl
    induction d generalizing i w1 with
    | zero =>
      intro hi he H
      rw [List.drop_of_length_le (by omega)] at he
      refine enthymemeref06_Valid.L5T_step _ _ _ _ _ _ _ _ _ _ _ _ _ _ (sel_false (decide_eq_false (by omega)) (yes ?_ H.fr))
      rw [vb, ← he]
      cases pre v.m i <;> rfl
    | succ d ih =>
      intro hi he H
      have hg : v.m[i]? = some (v.m[i]'(by omega)) := List.getElem?_eq_getElem (by omega)
      generalize v.m[i]'(by omega) = e at hg
      rw [okM_step v.t v.m i e hg] at he
      have bad : ∀ {w2 : World}, (follows (pre v.m i) e && okE v.t e) = false → Fr0 w w2 → (Ending.returned (Value.int .i64 1) = .returned (.int .i64 (validV v)) ∧ Fr0 w w2) := fun hf f => no (by rw [vb, ← he, hf]; rfl) f
      have next : ∀ {w2 : World} {b5 : Nat}, (follows (pre v.m i) e && okE v.t e) = true → LH F0 w w2 [.g b1, .g b3, .g b5] [EntsD sl v.m] → enthymemeref06_Valid.S9T b1 v.t.k v.t.n v.t.x (v.u : Int) (ba v.s) sl b3 v.t.k v.t.n v.t.x (i : Int) w2 fun r w' => r = .returned (.int .i64 (validV v)) ∧ Fr0 w w' := by
        intro w2 b5 hf H2
        show enthymemeref06_Valid.L5T _ _ _ _ _ _ _ _ _ _ _ (IntKind.wrap .i64 ((i : Int) + 1)) _ _
        rw [i64_next _ (by omega)]
        rw [hf, Bool.true_and] at he
        exact ih (i + 1) w2 (by omega) he (H2.take 2)
      have sz' : (ba e.s).size = e.s.length := rfl
      have s7 : ∀ {w2 : World} {b5 : Nat}, follows (pre v.m i) e = true → bel e.i v.t.x = true → LH F0 w w2 [.g b1, .g b3, .g b5] [EntsD sl v.m] → enthymemeref06_Valid.S7T b1 v.t.k v.t.n v.t.x (v.u : Int) (ba v.s) sl b3 v.t.k v.t.n v.t.x (i : Int) b5 (e.i : Int) (e.u : Int) (ba e.s) w2 fun r w' => r = .returned (.int .i64 (validV v)) ∧ Fr0 w w' := by
        intro w2 b5 hfo hbe H7
        have e0 : ((e.u : Int) == 0) = (e.u == 0) := by rw [Bool.eq_iff_iff, beq_iff_eq, beq_iff_eq]; omega
        have e1 : (decide ((e.u : Int) > 0)) = !(e.u == 0) := by
          by_cases hu : e.u = 0
          · simp [hu]
          · rw [decide_eq_true (by omega)]; simp [hu]
        have e2 : (decide ((((ba e.s).size : Nat) : Int) > 0)) = !e.s.isEmpty := by
          rw [sz']
          cases e.s <;> simp
        have e3 : ((((ba e.s).size : Nat) : Int) == 0) = e.s.isEmpty := by
          rw [sz', Bool.eq_iff_iff, beq_iff_eq, List.isEmpty_iff, ← List.length_eq_zero_iff]
          omega
        unfold enthymemeref06_Valid.S7T
        rw [e0, e1, e2, e3, sz']
        refine sel_eq (fun hk => sel_intro (fun hu0 => bad ?_ H7.fr) (fun hu0 => H7.callg (r_fits e.u v.t.n vs.n0 vs.n1 w2) ?_)) (fun hk => sel_eq (fun hk3 => ?_) (fun hk3 => ?_))
        · by_cases hem : e.s.isEmpty = true
          · unfold okE; rw [hu0, hem]; simp
          · unfold okE; simp [hk, hem]
        · rintro _ w3 rfl H3
          refine ⟨_, rfl, sel_not (fun hf => bad ?_ H3.fr) (fun hf => sel_not (fun hem => bad ?_ H3.fr) (fun hem => sel_false (by simp [hk]) (next ?_ H3)))⟩
          · unfold okE; simp [hk, hf]
          · unfold okE; simp [hk, hem]
          · unfold okE
            rw [hfo, hbe, hf, hem, hu0, hk]; rfl
        · refine sel_not (fun hu0 => bad ?_ H7.fr) (fun hu0 => sel_intro (fun hem => bad ?_ H7.fr) (fun hem => sel_dec (fun hl => bad ?_ H7.fr) (fun hl => next ?_ H7)))
          · unfold okE; rw [hk3, hu0]; simp
          · unfold okE; rw [hu0, hem]; simp
          · unfold okE
            have : decide ((e.s.length : Int) ≤ v.t.n) = false := decide_eq_false (by omega)
            rw [hk3, this]; simp
          · unfold okE
            have : decide ((e.s.length : Int) ≤ v.t.n) = true := decide_eq_true (by omega)
            rw [hfo, hbe, hu0, hem, hk3, this]; rfl
        · exfalso
          have := vs.k
          omega
      refine enthymemeref06_Valid.L5T_step _ _ _ _ _ _ _ _ _ _ _ _ _ _ (sel_true (decide_eq_true (by omega)) ⟨by omega, by omega, ?_⟩)
      rw [Int.toNat_natCast]
      refine ent_at (H.getD 0) hg fun p _ c0 c1 c2 => ⟨_, _, _, c0, c1, c2, H.newg fun b5 w2 H2 => H2.locg fun w6 H6 => H6.callg (r_fits e.i v.t.x vs.x0 vs.x1 w6) ?_⟩
      rintro _ w7 rfl H7
      refine ⟨_, rfl, sel_not (fun hb => bad (by unfold okE; simp [hb]) H7.fr) (fun hb => sel_dec (fun hi0 => ?_) (fun hi0 => s7 ?_ hb H7))⟩
      · obtain ⟨j, rfl⟩ : ∃ j, i = j + 1 := ⟨i - 1, by omega⟩
        have ej : IntKind.wrap .i64 (((j + 1 : Nat) : Int) - 1) = ((j : Nat) : Int) := by rw [IntWalk.i64_in _ (by omega)]; omega
        rw [ej]
        have hg' : v.m[j]? = some (v.m[j]'(by omega)) := List.getElem?_eq_getElem (by omega)
        generalize v.m[j]'(by omega) = e' at hg'
        have hp := pre_succ v.m j e' hg'
        refine ⟨by omega, by omega, ?_⟩
        rw [Int.toNat_natCast]
        refine ent_at (H7.getD 0) hg' fun p' hp' d0 _ _ => ⟨_, d0, sel_dec (fun hle => bad ?_ H7.fr) (fun hle => s7 ?_ hb H7)⟩
        · unfold follows; rw [hp]
          have : ¬ e'.i < e.i := by omega
          simp [this]
        · unfold follows; rw [hp]; exact decide_eq_true (by omega)
      · have : i = 0 := by omega
        subst this
        rfl
  have s3 : ∀ {w3 : World} {b3 : Nat}, (v.t.k = 0 ∨ v.t.k = 1 → validB v = true) → LH F0 w w3 [.g b1, .g b3] [EntsD sl v.m] → enthymemeref06_Valid.S3T b1 v.t.k v.t.n v.t.x (v.u : Int) (ba v.s) sl b3 v.t.k v.t.n v.t.x w3 fun r w' => r = .returned (.int .i64 (validV v)) ∧ Fr0 w w' := by
    intro w3 b3 hsm H3
    refine H3.callg (r_Array v.t w3) ?_
    rintro _ w4 rfl H4
    refine ⟨_, rfl, sel_not (fun ha => yes (hsm ?_) H4.fr) (fun ha => ?_)⟩
    · unfold arrS at ha
      simp at ha
      have := vs.k
      omega
    · unfold arrS at ha
      simp at ha
      have hk0 : v.t.k ≠ 0 := by omega
      have hk1 : v.t.k ≠ 1 := by omega
      rw [eu, es]
      refine sel_not (fun hu => no ?_ H4.fr) (fun hu => sel_not (fun hs => no ?_ H4.fr) (fun hs => ?_))
      · unfold validB; rw [if_neg hk0, if_neg hk1, hu]; rfl
      · unfold validB; rw [if_neg hk0, if_neg hk1, hs]; simp
      · exact loop v.m.length 0 b1 b3 w4 hk0 hk1 (by simpa using hu) (by simpa using hs) (by omega) rfl H4
  have s1 : ∀ {w3 : World} {b3 : Nat}, (v.t.k = 0 → validB v = true) → LH F0 w w3 [.g b1, .g b3] [EntsD sl v.m] → enthymemeref06_Valid.S1T b1 v.t.k v.t.n v.t.x (v.u : Int) (ba v.s) sl b3 v.t.k v.t.n v.t.x w3 fun r w' => r = .returned (.int .i64 (validV v)) ∧ Fr0 w w' := by
    intro w3 b3 h0 H3
    refine sel_eq (fun hk => ?_) (fun hk => s3 (fun hh => hh.elim h0 (fun h1 => absurd h1 hk)) H3)
    rw [eu, em, sz]
    refine sel_not (fun hu => no ?_ H3.fr) (fun hu => sel_dec (fun hl => no ?_ H3.fr) (fun hl => sel_not (fun hme => no ?_ H3.fr) (fun hme => s3 (fun _ => ?_) H3)))
    · unfold validB; rw [if_neg (by omega), if_pos hk, hu]; simp
    · unfold validB; rw [if_neg (by omega), if_pos hk, decide_eq_false (by omega)]; rfl
    · unfold validB; rw [if_neg (by omega), if_pos hk, hme]; simp
    · unfold validB; rw [if_neg (by omega), if_pos hk, hme, hu, decide_eq_true (by omega)]; rfl
  refine H2.newg fun b3 w3 H3 => sel_eq (fun hk => H3.locg fun w4 H4 => H4.callg (r_fits v.u v.t.n vs.n0 vs.n1 w4) ?_) (fun hk => H3.locg fun w4 H4 => s1 (fun h => absurd h hk) H4)
  rintro _ w5 rfl H5
  rw [es, em]
  refine ⟨_, rfl, sel_not (fun hf => no ?_ H5.fr) (fun hf => sel_not (fun hs => no ?_ H5.fr) (fun hs => sel_not (fun hme => no ?_ H5.fr) (fun hme => s1 (fun _ => ?_) H5)))⟩
  · unfold validB; rw [if_pos hk, hf]; rfl
  · unfold validB; rw [if_pos hk, hs]; simp
  · unfold validB; rw [if_pos hk, hme]; simp
  · unfold validB; rw [if_pos hk, hme, hs, hf]; rfl
end Go.Proofs.Ytjjhfdjpmonlaaa

/- The reference's Select, Store and Diff: the contracts. -/
import Derived.Test.YtjjhfdjpmonlaaaK9
import Derived.Test.YtjjhfdjpmonlaaaP2
namespace Go.Proofs.Ytjjhfdjpmonlaaa
open Go Go.W

theorem r_Element (s : Srt) (w : World) : Calls Try.prog n_enthymemeref06_Element #[srtV s] w fun r w' => r = .returned (srtV (elemS s)) ∧ Fr0 w w' := by
  refine enthymemeref06_Element.okT _ _ _ w _ ((lh0 [] (by simp)).newg fun b1 w1 H1 => H1.newg fun b2 w2 H2 => sel_eq (fun h => H2.locg fun w3 H3 => ⟨?_, H3.fr⟩) (fun h => H2.locg fun w3 H3 => ⟨?_, H3.fr⟩))
  · unfold elemS; simp [h]
  · unfold elemS; simp [h]
/-- the last of the entries with an index -/
def atM (x : Nat) : List Ent → Nat × List UInt8 → Nat × List UInt8
  | [], o => o
  | e :: l, o => atM x l (if e.i = x then (e.u, e.s) else o)
theorem atM_drop (x : Nat) (m : List Ent) (i : Nat) (e : Ent) (o : Nat × List UInt8) (h : m[i]? = some e) : atM x (m.drop i) o = atM x (m.drop (i + 1)) (if e.i = x then (e.u, e.s) else o) := by
  obtain ⟨hi, rfl⟩ := List.getElem?_eq_some_iff.1 h
  rw [List.drop_eq_getElem_cons hi]
  rfl
theorem atM_other (x : Nat) : ∀ (m : List Ent) (o : Nat × List UInt8), (∀ e ∈ m, e.i ≠ x) → atM x m o = o
  | [], o, _ => rfl
  | e :: l, o, h => by
    unfold atM
    rw [if_neg (h e (by simp))]
    exact atM_other x l o fun e' he' => h e' (by simp [he'])
theorem atM_sel (x : Nat) : ∀ (m : List Ent), Sorted m → atM x m (0, []) = selM m x
  | [], _ => rfl
  | e :: l, hs => by
    unfold atM selM
    by_cases h : e.i = x
    · have hb : (e.i == x) = true := by simpa using h
      rw [if_pos h, List.find?_cons, hb]
      refine atM_other x l _ fun e' he' => ?_
      obtain ⟨j, hj⟩ := List.mem_iff_getElem?.1 he'
      have := hs 0 (j + 1) e e' (by omega) rfl (by simpa using hj)
      omega
    · have hb : (e.i == x) = false := by simpa using h
      rw [if_neg h, List.find?_cons, hb]
      exact atM_sel x l hs.tail
theorem r_At (a : Val) (sl : Sl) (x : Nat) (w : World) (h : RdN 3 w sl (entsC a.m)) (hm : a.m.length ≤ 1000000) : Calls Try.prog n_enthymemeref06_At #[vagg a sl, .int .u64 (x : Int)] w fun r w' => r = .returned (vagg ⟨elemS a.t, (atM x a.m (0, [])).1, (atM x a.m (0, [])).2, []⟩ ⟨none, 0, 0⟩) ∧ Fr0 w w' := by
  have nn := ents_n h
  have loop : ∀ (d i : Nat) (o : Nat × List UInt8) (b2 b4 b5 : Nat) (w1 : World), i + d = a.m.length → atM x (a.m.drop i) o = atM x a.m (0, []) → LH F0 w w1 [.g b2, .g b4, .g b5] [EntsD sl a.m] →
      enthymemeref06_At.L0T (x : Int) b2 a.t.k a.t.n a.t.x (a.u : Int) (ba a.s) sl b4 0 0 0 0 (ByteArray.mk #[]) ⟨none, 0, 0⟩ b5 (elemS a.t).k (elemS a.t).n (elemS a.t).x (o.1 : Int) (ba o.2) ⟨none, 0, 0⟩ (i : Int) w1 fun r w' => r = .returned (vagg ⟨elemS a.t, (atM x a.m (0, [])).1, (atM x a.m (0, [])).2, []⟩ ⟨none, 0, 0⟩) ∧ Fr0 w w' := by
    intro d
    induction d with
    | zero =>
      intro i o b2 b4 b5 w1 hi he H
      rw [List.drop_of_length_le (by omega)] at he
      refine enthymemeref06_At.L0T_step _ _ _ _ _ _ _ _ _ _ _ _ _ _ _ _ _ _ _ _ _ _ _ _ _ (sel_false (decide_eq_false (by omega)) (H.locg fun w2 H2 => ⟨?_, H2.fr⟩))
      rw [← he]; rfl
    | succ d ih =>
      intro i o b2 b4 b5 w1 hi he H
      have hg : a.m[i]? = some (a.m[i]'(by omega)) := List.getElem?_eq_getElem (by omega)
      generalize a.m[i]'(by omega) = e at hg
      rw [atM_drop x a.m i e o hg] at he
      refine enthymemeref06_At.L0T_step _ _ _ _ _ _ _ _ _ _ _ _ _ _ _ _ _ _ _ _ _ _ _ _ _ (sel_true (decide_eq_true (by omega)) ⟨by omega, by omega, ?_⟩)
      rw [Int.toNat_natCast]
      refine ent_at (H.getD 0) hg fun p hp c0 c1 c2 => ⟨_, c0, sel_eq (fun hx => ⟨by omega, by omega, ?_⟩) (fun hx => ?_)⟩
      · rw [hp]
        refine ⟨_, c1, by omega, by omega, ?_⟩
        refine H.locg fun w2 H2 => ⟨_, (cells_again (H2.getD 0) hg hp).2.2, H2.locg fun w3 H3 => ?_⟩
        show enthymemeref06_At.L0T _ _ _ _ _ _ _ _ _ _ _ _ _ _ _ _ _ _ _ _ _ _ (IntKind.wrap .i64 ((i : Int) + 1)) _ _
        rw [i64_next _ (by omega)]
        rw [if_pos (by omega)] at he
        exact ih (i + 1) (e.u, e.s) b2 b4 b5 w3 (by omega) he H3
      · show enthymemeref06_At.L0T _ _ _ _ _ _ _ _ _ _ _ _ _ _ _ _ _ _ _ _ _ _ (IntKind.wrap .i64 ((i : Int) + 1)) _ _
        rw [i64_next _ (by omega)]
        rw [if_neg (by omega)] at he
        exact ih (i + 1) o b2 b4 b5 w1 (by omega) he H
  refine enthymemeref06_At.okT _ _ _ _ _ _ _ w _ ((lh0 [EntsD sl a.m] (by simp only [List.mem_cons, List.not_mem_nil, or_false]; rintro e rfl; exact h)).newg fun b2 w1 H1 => H1.newg fun b4 w2 H2 => H2.callg (r_Element a.t w2) ?_)
  rintro _ w3 rfl H3
  exact ⟨_, _, _, rfl, H3.newg fun b5 w4 H4 => H4.locg fun w5 H5 => loop a.m.length 0 (0, []) b2 b4 b5 w5 (by omega) rfl H5⟩
theorem r_Select (a : Val) (sl : Sl) (x : Nat) (w : World) (h : RdN 3 w sl (entsC a.m)) (hm : a.m.length ≤ 1000000) : Calls Try.prog n_enthymemeref06_Select #[vagg a sl, .int .u64 (x : Int)] w fun r w' => r = .returned (.tuple #[vagg (selV a x) ⟨none, 0, 0⟩, .int .i64 (selE a x)]) ∧ Fr0 w w' := by
  have err : ∀ (c : Int) {w1 : World}, c ≠ 0 → selE a x = c → Fr0 w w1 → (Ending.returned (.tuple #[.agg #[.int .i64 0, .int .i64 0, .int .i64 0, .int .u64 0, .string (ByteArray.mk #[]), .slice none 0 0], .int .i64 c]) = .returned (.tuple #[vagg (selV a x) ⟨none, 0, 0⟩, .int .i64 (selE a x)]) ∧ Fr0 w w1) := fun c w1 hc he f => ⟨by unfold selV; rw [he, if_pos hc]; rfl, f⟩
  refine enthymemeref06_Select.okT _ _ _ _ _ _ _ w _ ((lh0 [EntsD sl a.m] (by simp only [List.mem_cons, List.not_mem_nil, or_false]; rintro e rfl; exact h)).newg fun b2 w1 H1 => H1.newg fun b4 w2 H2 => H2.callg (r_Valid a sl w2 (H2.getD 0) hm) ?_)
  rintro _ w3 rfl H3
  refine ⟨_, rfl, sel_ne (fun hv => H3.locg fun w4 H4 => err _ hv (by unfold selE; rw [if_pos hv]) H4.fr) (fun hv => H3.callg (r_Array a.t w3) ?_)⟩
  rintro _ w4 rfl H4
  refine ⟨_, rfl, sel_not (fun ha => H4.locg fun w5 H5 => err 9 (by omega) (by unfold selE; rw [if_neg (by simpa using hv), ha]; rfl) H5.fr) (fun ha => ?_)⟩
  have vs := vs_of (valid_of hv)
  refine H4.callg (r_fits x a.t.x vs.x0 vs.x1 w4) ?_
  rintro _ w5 rfl H5
  refine ⟨_, rfl, sel_not (fun hb => H5.locg fun w6 H6 => err 5 (by omega) (by unfold selE; rw [if_neg (by simpa using hv), ha, hb]; rfl) H6.fr) (fun hb => ?_)⟩
  have h0 : selE a x = 0 := by unfold selE; rw [if_neg (by simpa using hv), ha, hb]; rfl
  refine H5.callg (r_At a sl x w5 (H5.getD 0) hm) ?_
  rintro _ w6 rfl H6
  refine ⟨_, _, _, _, _, ⟨none, 0, 0⟩, rfl, H6.locg fun w7 H7 => ⟨?_, H7.fr⟩⟩
  unfold selV
  rw [h0, if_neg (by simp), atM_sel x a.m (sorted_of hv ha)]
theorem r_Store (a v : Val) (sa sv : Sl) (x : Nat) (w : World) (ha : RdN 3 w sa (entsC a.m)) (hv : RdN 3 w sv (entsC v.m)) (hm : a.m.length ≤ 1000000) (hmv : v.m.length ≤ 1000000) : Calls Try.prog n_enthymemeref06_Store #[vagg a sa, .int .u64 (x : Int), vagg v sv] w fun r w' => Ret2 ty_enthymemeref06_Entry w (stoV a x v) (stoE a x v) r w' ∧ Fr0 w w' := by
  have err : ∀ (c : Int) {w1 : World}, c ≠ 0 → stoE a x v = c → Fr0 w w1 → (Ret2 ty_enthymemeref06_Entry w (stoV a x v) (stoE a x v) (Ending.returned (.tuple #[.agg #[.int .i64 0, .int .i64 0, .int .i64 0, .int .u64 0, .string (ByteArray.mk #[]), .slice none 0 0], .int .i64 c])) w1 ∧ Fr0 w w1) := fun c w1 hc he f => by
    refine ⟨⟨⟨none, 0, 0⟩, ?_, ?_, by simp [blkL]⟩, f⟩
    · unfold stoV; rw [he, if_pos hc]; rfl
    · unfold stoV; rw [he, if_pos hc]; exact OwnRow.nil _ _ _
  refine enthymemeref06_Store.okT _ _ _ _ _ _ _ _ _ _ _ _ _ w _ ((lh0 [EntsD sa a.m, EntsD sv v.m] (by simp only [List.mem_cons, List.not_mem_nil, or_false]; rintro e (rfl | rfl); exact ha; exact hv)).newg fun b3 w1 H1 => H1.newg fun b5 w2 H2 => H2.newg fun b6 w3 H3 => H3.callg (r_Valid a sa w3 (H3.getD 0) hm) ?_)
  rintro _ w4 rfl H4
  refine ⟨_, rfl, sel_ne (fun h1 => H4.locg fun w5 H5 => err _ h1 (by unfold stoE; rw [if_pos h1]) H5.fr) (fun h1 => H4.callg (r_Valid v sv w4 (H4.getD 1) hmv) ?_)⟩
  rintro _ w5 rfl H5
  refine ⟨_, rfl, sel_ne (fun h2 => H5.locg fun w6 H6 => err _ h2 (by unfold stoE; rw [if_neg (by simpa using h1), if_pos h2]) H6.fr) (fun h2 => H5.callg (r_Array a.t w5) ?_)⟩
  rintro _ w6 rfl H6
  have vs := vs_of (valid_of h1)
  have vv := vs_of (valid_of h2)
  have nofit : ∀ {w7 : World} {L : List En}, fitS a.t v.t = false → LH F0 w w7 ([.g b3, .g b5, .g b6] ++ L) [EntsD sa a.m, EntsD sv v.m] → enthymemeref06_Store.S0T b6 0 0 0 0 (ByteArray.mk #[]) ⟨none, 0, 0⟩ w7 fun r w' => Ret2 ty_enthymemeref06_Entry w (stoV a x v) (stoE a x v) r w' ∧ Fr0 w w' := fun hf H7 => H7.locg fun w8 H8 => err 9 (by omega) (by unfold stoE; rw [if_neg (by simpa using h1), if_neg (by simpa using h2), hf]; rfl) H8.fr
  have s1 : ∀ {w7 : World} {L : List En}, fitS a.t v.t = true → LH F0 w w7 ([.g b3, .g b5, .g b6] ++ L) [EntsD sa a.m, EntsD sv v.m] → enthymemeref06_Store.S1T (x : Int) b3 a.t.k a.t.n a.t.x (a.u : Int) (ba a.s) sa b5 v.t.k v.t.n v.t.x (v.u : Int) (ba v.s) sv b6 0 0 0 0 (ByteArray.mk #[]) ⟨none, 0, 0⟩ w7 fun r w' => Ret2 ty_enthymemeref06_Entry w (stoV a x v) (stoE a x v) r w' ∧ Fr0 w w' := by
    intro w7 L hf H7
    refine H7.callg (r_fits x a.t.x vs.x0 vs.x1 w7) ?_
    rintro _ w8 rfl H8
    refine ⟨_, rfl, sel_not (fun hb => H8.locg fun w9 H9 => err 5 (by omega) (by unfold stoE; rw [if_neg (by simpa using h1), if_neg (by simpa using h2), hf, hb]; rfl) H9.fr) (fun hb => ?_)⟩
    have h0 : stoE a x v = 0 := by unfold stoE; rw [if_neg (by simpa using h1), if_neg (by simpa using h2), hf, hb]; rfl
    have hval : stoV a x v = ⟨a.t, 0, [], putM ⟨x, v.u, v.s⟩ a.m⟩ := by unfold stoV; rw [h0, if_neg (by simp)]
    rw [h0, hval]
    refine H8.callr (r_Put a sa ⟨x, v.u, v.s⟩ w8 (H8.getD 0) hm) ?_
    rintro _ w9 ⟨s', rfl, ho, hfr⟩ _ F9
    have H9 := F9.own (.row ty_enthymemeref06_Entry 3 s' _) ho hfr
    refine ⟨_, _, _, _, _, _, rfl, H9.locg fun w10 H10 => ⟨⟨s', rfl, ?_, fun b hb' => ?_⟩, H10.fr⟩⟩
    · exact H10.own _ (List.mem_append_right _ List.mem_cons_self)
    · exact (H10.new _ (List.mem_append_right _ List.mem_cons_self) b hb').resolve_right id
  refine ⟨_, rfl, sel_not (fun harr => H6.locg fun w7 H7 => err 9 (by omega) ?_ H7.fr) (fun harr => ?_)⟩
  · have hf : fitS a.t v.t = false := by
      unfold arrS at harr
      unfold fitS
      simp at harr
      rw [Bool.eq_false_iff]
      simp only [ne_eq, Bool.or_eq_true, Bool.and_eq_true, beq_iff_eq, decide_eq_true_eq]
      omega
    unfold stoE; rw [if_neg (by simpa using h1), if_neg (by simpa using h2), hf]; rfl
  · unfold arrS at harr
    simp at harr
    refine sel_eq (fun g1 => H6.locg fun w7 H7 => H7.callg (r_Element a.t w7) ?_) (fun g1 => sel_eq (fun g3 => ?_) (fun g3 => absurd harr (by omega)))
    · rintro _ w8 rfl H8
      have he : ((v.t.k == (elemS a.t).k) && ((v.t.n == (elemS a.t).n) && ((v.t.x == (elemS a.t).x) && true))) = fitS a.t v.t := by
        have vx : v.t.k = 0 → v.t.x = 0 := fun hk => by
          have := valid_of h2
          unfold validS at this
          simp only [Bool.or_eq_true, Bool.and_eq_true, decide_eq_true_eq, beq_iff_eq] at this
          omega
        have ee : elemS a.t = ⟨0, a.t.n, 0⟩ := by unfold elemS; simp [g1]
        rw [ee]
        unfold fitS
        rw [g1]
        by_cases hk : v.t.k = 0
        · have hx := vx hk
          simp [hk, hx]
        · have hb : (v.t.k == 0) = false := by simpa using hk
          simp [hb]
      refine ⟨_, _, _, rfl, ?_⟩
      rw [he]
      exact sel_not (fun hf => nofit (L := []) hf H8) (fun hf => sel_false (by rw [g1]; rfl) (s1 (L := []) hf H8))
    · have fs : fitS a.t v.t = (v.t.k == 1 && decide (v.t.n ≤ a.t.n)) := by
        unfold fitS
        rw [g3]
        simp
      refine sel_ne (fun g4 => H6.locg fun w7 H7 => nofit (L := []) ?_ H7) (fun g4 => sel_dec (fun g5 => H6.locg fun w7 H7 => nofit (L := []) ?_ H7) (fun g5 => H6.locg fun w7 H7 => s1 (L := []) ?_ H7))
      · rw [fs]; have : (v.t.k == 1) = false := by simpa using g4
        rw [this]; rfl
      · rw [fs, decide_eq_false (by omega)]; simp
      · rw [fs, g4, decide_eq_true (by omega)]; rfl
/-! #### Diff of the reference -/
theorem cmpS_zero : ∀ (a b : List UInt8), cmpS a b = 0 ↔ a = b
  | [], [] => by simp [cmpS]
  | [], b :: m => by simp [cmpS]
  | a :: l, [] => by simp [cmpS]
  | a :: l, b :: m => by
    have ih := cmpS_zero l m
    unfold cmpS
    by_cases h : cmpI a.toNat b.toNat = 0
    · rw [if_neg (by simpa using h), ih]
      have : a = b := UInt8.toNat_inj.1 (by have := (cmpI_zero _ _).1 h; omega)
      subst this
      simp
    · rw [if_pos h]
      have : a ≠ b := fun e => by subst e; exact h ((cmpI_zero _ _).2 rfl)
      simp [h, this]
theorem cmp_elem (s : Srt) (p q : Nat × List UInt8) : cmpV ⟨s, p.1, p.2, []⟩ ⟨s, q.1, q.2, []⟩ = 0 ↔ p = q := by
  have z : ∀ x : Int, cmpI x x = 0 := fun x => (cmpI_zero x x).2 rfl
  unfold cmpV headC
  simp only [z, orI, cmpM, ne_eq, not_true_eq_false, if_false]
  by_cases h1 : cmpI (p.1 : Int) (q.1 : Int) = 0
  · have e1 : p.1 = q.1 := by have := (cmpI_zero _ _).1 h1; omega
    by_cases h2 : cmpS p.2 q.2 = 0
    · have e2 := (cmpS_zero _ _).1 h2
      have zs : cmpS q.2 q.2 = 0 := (cmpS_zero _ _).2 rfl
      simp [Prod.ext_iff, e1, e2, z, zs]
    · have e2 : p.2 ≠ q.2 := fun e => h2 ((cmpS_zero _ _).2 e)
      simp [h2, Prod.ext_iff, e1, e2, z]
  · have e1 : p.1 ≠ q.1 := fun e => h1 ((cmpI_zero _ _).2 (by omega))
    simp [h1, Prod.ext_iff, e1]
theorem r_Least (a b : Val) (sa sb : Sl) (w : World) (ha : RdN 3 w sa (entsC a.m)) (hb : RdN 3 w sb (entsC b.m)) (hm : a.m.length ≤ 1000000) (hmb : b.m.length ≤ 1000000) (A : Arr a) (B : Arr b) (ht : elemS a.t = elemS b.t) (hsm : ∀ e ∈ a.m, e.s.length ≤ 100000) : Calls Try.prog n_enthymemeref06_Least #[vagg a sa, vagg b sb] w fun r w' => r = .returned (.int .u64 (diffM a.m b.m : Int)) ∧ Fr0 w w' := by
  have na := ents_n ha
  have nb := ents_n hb
  obtain ⟨D, hD⟩ : ∃ D : Nat → Bool, D = fun n => !(cmpV ⟨elemS a.t, (atM n a.m (0, [])).1, (atM n a.m (0, [])).2, []⟩ ⟨elemS b.t, (atM n b.m (0, [])).1, (atM n b.m (0, [])).2, []⟩ == 0) := ⟨_, rfl⟩
  have hDs : ∀ n, D n = true ↔ selM a.m n ≠ selM b.m n := by
    intro n
    rw [hD]
    simp only [Bool.not_eq_true', beq_eq_false_iff_ne, ne_eq]
    rw [ht, cmp_elem, atM_sel n a.m A.so, atM_sel n b.m B.so]
  have hfin := leastF_diff A.so B.so A.nz B.nz 1048576 (fun e he => by
    rcases he with he | he
    · have := A.ix e he; omega
    · have := B.ix e he; omega) D hDs
  generalize hall : a.m.map (·.i) ++ b.m.map (·.i) = all at hfin
  have smA : ∀ n, (atM n a.m (0, [])).2.length ≤ 100000 := by
    have gen : ∀ (m : List Ent) (o : Nat × List UInt8) (n : Nat), (∀ e ∈ m, e.s.length ≤ 100000) → o.2.length ≤ 100000 → (atM n m o).2.length ≤ 100000 := by
      intro m
      induction m with
      | nil => intro o n _ ho; exact ho
      | cons e l ih =>
        intro o n hm ho
        unfold atM
        refine ih _ n (fun e' he' => hm e' (by simp [he'])) ?_
        split
        · exact hm e (by simp)
        · exact ho
    exact fun n => gen a.m (0, []) n hsm (by simp)
  -- the list k and the place i in it
  have lists : ∀ {w1 : World} {bl : Nat} {L : List En}, LH F0 w w1 ([.g bl] ++ L) [EntsD sa a.m, EntsD sb b.m] → True := fun _ => trivial
  have inner : ∀ (k : Nat) (sl : Sl) (m : List Ent) (pre : List Nat) (bL b2 b3 : Nat), (k = 0 ∧ sl = sa ∧ m = a.m ∨ k = 1 ∧ sl = sb ∧ m = b.m) →
      (∀ (best : Nat) (w1 : World), best < 18446744073709551616 → leastF D (all.drop (pre.length + m.length)) best = leastF D all 1048576 → LH F0 w w1 [.g b2, .g b3, .c bL [sa.v, sb.v] ty_sl_enthymemeref06_Entry] [EntsD sa a.m, EntsD sb b.m] → enthymemeref06_Least.L0T b2 a.t.k a.t.n a.t.x (a.u : Int) (ba a.s) sa b3 b.t.k b.t.n b.t.x (b.u : Int) (ba b.s) sb (best : Int) ⟨some (at0 bL), 2, 2⟩ ((k + 1 : Nat) : Int) w1 fun r w' => r = .returned (.int .u64 (diffM a.m b.m : Int)) ∧ Fr0 w w') →
      (∀ j e, m[j]? = some e → all[pre.length + j]? = some e.i) →
      ∀ (d i : Nat) (best : Nat) (w1 : World), i + d = m.length → best < 18446744073709551616 → leastF D (all.drop (pre.length + i)) best = leastF D all 1048576 → LH F0 w w1 [.g b2, .g b3, .c bL [sa.v, sb.v] ty_sl_enthymemeref06_Entry] [EntsD sa a.m, EntsD sb b.m] →
      enthymemeref06_Least.L1T b2 a.t.k a.t.n a.t.x (a.u : Int) (ba a.s) sa b3 b.t.k b.t.n b.t.x (b.u : Int) (ba b.s) sb (best : Int) ⟨some (at0 bL), 2, 2⟩ (k : Int) (i : Int) w1 fun r w' => r = .returned (.int .u64 (diffM a.m b.m : Int)) ∧ Fr0 w w' := by
    intro k sl m pre bL b2 b3 hk hnext hget d
    have hcell : ∀ {w1 : World}, LH F0 w w1 [.g b2, .g b3, .c bL [sa.v, sb.v] ty_sl_enthymemeref06_Entry] [EntsD sa a.m, EntsD sb b.m] → w1.cell? ((at0 bL).add (Int.toNat (k : Int) * 1)) = some sl.v := fun H => by
      rw [Int.toNat_natCast, Nat.mul_one]
      rcases hk with ⟨rfl, rfl, _⟩ | ⟨rfl, rfl, _⟩
      · exact H.ld 2 0
      · exact H.ld 2 1
    have hk2 : k < 2 := by omega
    have hml : m.length ≤ 1000000 := by rcases hk with ⟨_, _, rfl⟩ | ⟨_, _, rfl⟩ <;> assumption
    have hrd : ∀ {w1 : World}, LH F0 w w1 [.g b2, .g b3, .c bL [sa.v, sb.v] ty_sl_enthymemeref06_Entry] [EntsD sa a.m, EntsD sb b.m] → RdN 3 w1 sl (entsC m) := fun H => by
      rcases hk with ⟨_, rfl, rfl⟩ | ⟨_, rfl, rfl⟩
      · exact H.getD 0
      · exact H.getD 1
    induction d with
    | zero =>
      intro i best w1 hi hb1 he H
      have nn := ents_n (hrd H)
      refine enthymemeref06_Least.L1T_step _ _ _ _ _ _ _ _ _ _ _ _ _ _ _ _ _ _ _ _ ⟨by omega, by show _ < ((2 : Nat) : Int); omega, sl, hcell H, sel_false (decide_eq_false (by omega)) ?_⟩
      rw [i64_next _ (by omega)]
      exact hnext best w1 hb1 (by rw [show i = m.length by omega] at he; exact he) H
    | succ d ih =>
      intro i best w1 hi hb1 he H
      have nn := ents_n (hrd H)
      have hg : m[i]? = some (m[i]'(by omega)) := List.getElem?_eq_getElem (by omega)
      generalize m[i]'(by omega) = e at hg
      have ha' := hget i e hg
      have hei : e.i < 65536 := by
        have := List.mem_of_getElem? hg
        rcases hk with ⟨_, _, rfl⟩ | ⟨_, _, rfl⟩
        · exact A.ix e this
        · exact B.ix e this
      obtain ⟨hal, hae⟩ := List.getElem?_eq_some_iff.1 ha'
      rw [List.drop_eq_getElem_cons hal, hae] at he
      have he2 : leastF D (all.drop (pre.length + (i + 1))) (if e.i < best && D e.i then e.i else best) = leastF D all 1048576 := he
      have next : ∀ {w2 : World} {L : List En} (q : Nat), (if e.i < best && D e.i then e.i else best) = q → LH F0 w w2 ([.g b2, .g b3, .c bL [sa.v, sb.v] ty_sl_enthymemeref06_Entry] ++ L) [EntsD sa a.m, EntsD sb b.m] → enthymemeref06_Least.S2T b2 a.t.k a.t.n a.t.x (a.u : Int) (ba a.s) sa b3 b.t.k b.t.n b.t.x (b.u : Int) (ba b.s) sb (q : Int) ⟨some (at0 bL), 2, 2⟩ (k : Int) (i : Int) w2 fun r w' => r = .returned (.int .u64 (diffM a.m b.m : Int)) ∧ Fr0 w w' := by
        intro w2 L q hq H2
        show enthymemeref06_Least.L1T _ _ _ _ _ _ _ _ _ _ _ _ _ _ _ _ _ (IntKind.wrap .i64 ((i : Int) + 1)) _ _
        rw [i64_next _ (by omega)]
        rw [hq] at he2
        refine ih (i + 1) q w2 (by omega) ?_ he2 (H2.take 3)
        rw [← hq]; split <;> omega
      refine enthymemeref06_Least.L1T_step _ _ _ _ _ _ _ _ _ _ _ _ _ _ _ _ _ _ _ _ ⟨by omega, by show _ < ((2 : Nat) : Int); omega, sl, hcell H, sel_true (decide_eq_true (by omega)) ⟨by omega, by show _ < ((2 : Nat) : Int); omega, sl, hcell H, by omega, by omega, ?_⟩⟩
      rw [Int.toNat_natCast]
      refine ent_at (hrd H) hg fun p _ c0 _ _ => ⟨_, c0, sel_dec (fun hlt => H.locg fun w4 H4 => H4.callg (r_At a sa e.i w4 (H4.getD 0) hm) ?_) (fun hlt => H.locg fun w4 H4 => next (L := []) best ?_ H4)⟩
      · rintro _ w5 rfl H5
        refine ⟨_, _, _, _, _, ⟨none, 0, 0⟩, rfl, H5.callg (r_At b sb e.i w5 (H5.getD 1) hmb) ?_⟩
        rintro _ w6 rfl H6
        refine ⟨_, _, _, _, _, ⟨none, 0, 0⟩, rfl, H6.callg (r_Same (sa := ⟨none, 0, 0⟩) (sb := ⟨none, 0, 0⟩) ⟨elemS a.t, (atM e.i a.m (0, [])).1, (atM e.i a.m (0, [])).2, []⟩ ⟨elemS b.t, (atM e.i b.m (0, [])).1, (atM e.i b.m (0, [])).2, []⟩ (RdN.nil 3 _) (RdN.nil 3 _) ⟨smA e.i, by simp, by simp⟩) ?_⟩
        rintro _ w7 rfl H7
        have hDe : D e.i = !(cmpV ⟨elemS a.t, (atM e.i a.m (0, [])).1, (atM e.i a.m (0, [])).2, []⟩ ⟨elemS b.t, (atM e.i b.m (0, [])).1, (atM e.i b.m (0, [])).2, []⟩ == 0) := by rw [hD]
        refine ⟨_, rfl, sel_intro (fun hd => next (L := []) e.i ?_ H7) (fun hd => next (L := []) best ?_ H7)⟩
        · rw [hDe, hd, decide_eq_true (show e.i < best by omega)]; rfl
        · rw [hDe, hd]; simp
      · rw [decide_eq_false (show ¬ e.i < best by omega)]; simp
  refine enthymemeref06_Least.okT _ _ _ _ _ _ _ _ _ _ _ _ w _ ((lh0 [EntsD sa a.m, EntsD sb b.m] (by simp only [List.mem_cons, List.not_mem_nil, or_false]; rintro e (rfl | rfl); exact ha; exact hb)).newg fun b2 w1 H1 => H1.newg fun b3 w2 H2 => H2.nw fun w3 _ H3 => ?_)
  have hlen : all.length = a.m.length + b.m.length := by rw [← hall]; simp
  have last : ∀ (best : Nat) (w1 : World), best < 18446744073709551616 → best = leastF D all 1048576 → LH F0 w w1 [.g b2, .g b3, .c w2.heap.size [sa.v, sb.v] ty_sl_enthymemeref06_Entry] [EntsD sa a.m, EntsD sb b.m] → enthymemeref06_Least.L0T b2 a.t.k a.t.n a.t.x (a.u : Int) (ba a.s) sa b3 b.t.k b.t.n b.t.x (b.u : Int) (ba b.s) sb (best : Int) ⟨some (at0 w2.heap.size), 2, 2⟩ ((2 : Nat) : Int) w1 fun r w' => r = .returned (.int .u64 (diffM a.m b.m : Int)) ∧ Fr0 w w' := by
    intro best w1 _ hbe H
    refine enthymemeref06_Least.L0T_step _ _ _ _ _ _ _ _ _ _ _ _ _ _ _ _ _ _ _ (sel_false (decide_eq_false (by omega)) (sel_eq (fun h => ⟨?_, H.fr⟩) (fun h => ⟨?_, H.fr⟩)))
    · rw [← hfin, ← hbe, if_pos (by omega)]; rfl
    · rw [← hfin, ← hbe, if_neg (by omega)]
  refine enthymemeref06_Least.L0T_step _ _ _ _ _ _ _ _ _ _ _ _ _ _ _ _ _ _ _ (sel_true (by decide) ?_)
  refine inner 0 sa a.m [] w2.heap.size b2 b3 (.inl ⟨rfl, rfl, rfl⟩) (fun best w4 hb4 he4 H4 => ?_) (fun j e hj => ?_) a.m.length 0 1048576 w3 (by omega) (by omega) rfl H3
  · refine enthymemeref06_Least.L0T_step _ _ _ _ _ _ _ _ _ _ _ _ _ _ _ _ _ _ _ (sel_true (by decide) ?_)
    refine inner 1 sb b.m (a.m.map (·.i)) w2.heap.size b2 b3 (.inr ⟨rfl, rfl, rfl⟩) (fun best w5 hb5 he5 H5 => last best w5 hb5 ?_ H5) (fun j e hj => ?_) b.m.length 0 best w4 (by omega) hb4 ?_ H4
    · rw [List.drop_of_length_le (by rw [hlen]; simp)] at he5
      exact he5
    · rw [← hall, List.getElem?_append_right (by simp)]
      simp [hj]
    · simp only [List.length_nil, Nat.zero_add] at he4
      simp only [List.length_map, Nat.add_zero]
      exact he4
  · rw [← hall]
    have : j < a.m.length := (List.getElem?_eq_some_iff.1 hj).1
    simp only [List.length_nil, Nat.zero_add]
    rw [List.getElem?_append_left (by simpa using this)]
    simp [hj]
theorem r_Diff (a b : Val) (sa sb : Sl) (w : World) (ha : RdN 3 w sa (entsC a.m)) (hb : RdN 3 w sb (entsC b.m)) (hm : a.m.length ≤ 1000000) (hmb : b.m.length ≤ 1000000) (hsm : ∀ e ∈ a.m, e.s.length ≤ 100000) : Calls Try.prog n_enthymemeref06_Diff #[vagg a sa, vagg b sb] w fun r w' => r = .returned (.tuple #[.int .u64 (difV a b : Int), .int .i64 (difE a b)]) ∧ Fr0 w w' := by
  have err : ∀ (c : Int) {w1 : World}, c ≠ 0 → difE a b = c → Fr0 w w1 → (Ending.returned (.tuple #[.int .u64 0, .int .i64 c]) = .returned (.tuple #[.int .u64 (difV a b : Int), .int .i64 (difE a b)]) ∧ Fr0 w w1) := fun c w1 hc he f => ⟨by unfold difV; rw [he, if_pos hc]; rfl, f⟩
  refine enthymemeref06_Diff.okT _ _ _ _ _ _ _ _ _ _ _ _ w _ ((lh0 [EntsD sa a.m, EntsD sb b.m] (by simp only [List.mem_cons, List.not_mem_nil, or_false]; rintro e (rfl | rfl); exact ha; exact hb)).newg fun b2 w1 H1 => H1.newg fun b3 w2 H2 => H2.callg (r_Valid a sa w2 (H2.getD 0) hm) ?_)
  rintro _ w3 rfl H3
  refine ⟨_, rfl, sel_ne (fun h1 => err _ h1 (by unfold difE; rw [if_pos h1]) H3.fr) (fun h1 => H3.callg (r_Valid b sb w3 (H3.getD 1) hmb) ?_)⟩
  rintro _ w4 rfl H4
  refine ⟨_, rfl, sel_ne (fun h2 => err _ h2 (by unfold difE; rw [if_neg (by simpa using h1), if_pos h2]) H4.fr) (fun h2 => H4.callg (r_Array a.t w4) ?_)⟩
  rintro _ w5 rfl H5
  have hst : ((a.t.k == b.t.k) && ((a.t.n == b.t.n) && ((a.t.x == b.t.x) && true))) = sameT a.t b.t := by unfold sameT; rw [Bool.and_true]
  rw [hst]
  refine ⟨_, rfl, sel_not (fun h3 => err 9 (by omega) (by unfold difE; rw [if_neg (by simpa using h1), if_neg (by simpa using h2), h3]; rfl) H5.fr) (fun h3 => sel_not (fun h4 => err 9 (by omega) (by unfold difE; rw [if_neg (by simpa using h1), if_neg (by simpa using h2), h3, h4]; rfl) H5.fr) (fun h4 => ?_))⟩
  have h0 : difE a b = 0 := by unfold difE; rw [if_neg (by simpa using h1), if_neg (by simpa using h2), h3, h4]; rfl
  have hd : difV a b = diffM a.m b.m := by unfold difV; rw [h0, if_neg (by simp)]
  rw [h0, hd]
  have hte : a.t = b.t := by
    unfold sameT at h4
    simp only [Bool.and_eq_true, beq_iff_eq] at h4
    obtain ⟨⟨k, n, x⟩, _, _, _⟩ := a
    obtain ⟨⟨k', n', x'⟩, _, _, _⟩ := b
    simp only at h4
    simp only [Srt.mk.injEq]
    exact h4
  refine H5.callg (r_Least a b sa sb w5 (H5.getD 0) (H5.getD 1) hm hmb (arr_of h1 h3) (arr_of h2 (by rw [← hte]; exact h3)) (by rw [hte]) hsm) ?_
  rintro _ w6 rfl H6
  exact ⟨_, rfl, rfl, H6.fr⟩
end Go.Proofs.Ytjjhfdjpmonlaaa

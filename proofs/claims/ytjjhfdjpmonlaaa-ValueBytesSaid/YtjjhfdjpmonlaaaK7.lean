/- Package value: Select, Store and Diff: the contracts. -/
import Derived.Test.YtjjhfdjpmonlaaaK6
namespace Go.Proofs.Ytjjhfdjpmonlaaa
open Go Go.W

/-- the indices grow -/
def Sorted (m : List Ent) : Prop := ∀ (i j : Nat) (a b : Ent), i < j → m[i]? = some a → m[j]? = some b → a.i < b.i
theorem okM_sorted (s : Srt) : ∀ (l : List Ent) (p : Option Nat), okM s p l = true → Sorted l ∧ ∀ e ∈ l, follows p e = true
  | [], p, _ => ⟨fun i j a b _ h => by simp at h, by simp⟩
  | e :: l, p, h => by
    rw [okM_cons] at h
    simp only [Bool.and_eq_true] at h
    obtain ⟨h1, h2⟩ := okM_sorted s l (some e.i) h.2
    refine ⟨fun i j a b hij ha hb => ?_, fun x hx => ?_⟩
    · cases j with
      | zero => omega
      | succ j =>
        have hb' : l[j]? = some b := by simpa using hb
        cases i with
        | zero =>
          simp at ha; subst ha
          exact of_decide_eq_true (h2 b (List.mem_of_getElem? hb'))
        | succ i => exact h1 i j a b (by omega) (by simpa using ha) hb'
    · rcases List.mem_cons.1 hx with rfl | hx
      · exact h.1.1
      · have := of_decide_eq_true (h2 x hx)
        cases p with
        | none => rfl
        | some i =>
          have : i < e.i := of_decide_eq_true h.1.1
          exact decide_eq_true (by omega)
theorem sorted_of {v : Val} (h : validV v = 0) (ha : arrS v.t = true) : Sorted v.m := by
  unfold validV at h
  split at h
  · split at h
    · rename_i hs hb
      unfold validB at hb
      unfold arrS at ha
      simp at ha
      rw [if_neg (by omega), if_neg (by omega)] at hb
      simp only [Bool.and_eq_true] at hb
      exact (okM_sorted _ _ _ hb.2).1
    · omega
  · omega
/-- where an index is, or would be -/
structure Split (m : List Ent) (x k : Nat) : Prop where
  le : k ≤ m.length
  lt : ∀ (j : Nat) (e : Ent), j < k → m[j]? = some e → e.i < x
  ge : ∀ (j : Nat) (e : Ent), k ≤ j → m[j]? = some e → x ≤ e.i
def hit (m : List Ent) (x k : Nat) : Bool := match m[k]? with | some e => e.i == x | none => false
theorem put_split (e : Ent) : ∀ (m : List Ent) (k : Nat), Split m e.i k → putM e m = m.take k ++ (if nzE e then [e] else []) ++ (if hit m e.i k then m.drop (k + 1) else m.drop k)
  | [], k, h => by
    have := h.le
    simp at this; subst this
    unfold putM hit
    simp
  | a :: l, 0, h => by
    have h0 := h.ge 0 a (Nat.le_refl _) rfl
    unfold putM hit
    rw [if_neg (by omega)]
    simp only [List.take_zero, List.nil_append, List.getElem?_cons_zero, beq_iff_eq, List.drop_zero, List.drop_succ_cons, Nat.zero_add]
  | a :: l, k + 1, h => by
    have h0 := h.lt 0 a (by omega) rfl
    have ih := put_split e l k ⟨by have := h.le; simp at this; omega, fun j x hj hx => h.lt (j + 1) x (by omega) (by simpa using hx), fun j x hj hx => h.ge (j + 1) x (by omega) (by simpa using hx)⟩
    unfold putM
    have hh : hit (a :: l) e.i (k + 1) = hit l e.i k := by unfold hit; rw [List.getElem?_cons_succ]
    rw [if_pos h0, ih, hh]
    simp
theorem cmpI_lt (a b : Int) : cmpI a b < 0 ↔ a < b := by
  unfold cmpI
  split
  · simp; assumption
  · split <;> omega
theorem cmpI_zero (a b : Int) : cmpI a b = 0 ↔ a = b := by
  unfold cmpI
  split
  · omega
  · split <;> omega
theorem c_place1 (e : Ent) (x : Nat) (w : World) : Calls Try.prog n_value_place_1 #[.agg #[.int .u64 (e.i : Int), .int .u64 (e.u : Int), .string (ba e.s)], .int .u64 (x : Int)] w fun r w' => r = .returned (.int .i64 (cmpI e.i x)) ∧ Fr0 w w' := by
  refine value_place_1.okT _ _ _ _ w _ ((lh0 [] (by simp)).newg fun b1 w1 H1 => H1.callg (c_u64 _ _ w1) ?_)
  rintro _ w2 rfl H2
  exact ⟨_, rfl, rfl, H2.fr⟩
theorem c_place (m : List Ent) (sl : Sl) (x : Nat) (w : World) (h : RdN 3 w sl (entsC m)) (hs : Sorted m) (hm : m.length ≤ 1000000) : Calls Try.prog n_value_place #[sl.v, .int .u64 (x : Int)] w fun r w' => (∃ k : Nat, r = .returned (.tuple #[.int .i64 (k : Int), .bool (hit m x k)]) ∧ Split m x k) ∧ Fr0 w w' := by
  have nn := ents_n h
  have loop : ∀ (d i j : Nat) (w1 : World), j - i ≤ d → i ≤ j → j ≤ m.length → (∀ (k : Nat) (e : Ent), k < i → m[k]? = some e → e.i < x) → (∀ (k : Nat) (e : Ent), j ≤ k → m[k]? = some e → x ≤ e.i) → LH F0 w w1 [] [EntsD sl m] →
      slices_BinarySearchFunc_sl_value_Entry_value_Entry_uint64.L0 sl (x : Int) ((sl.n : Nat) : Int) (i : Int) (j : Int) w1 fun r w' => (∃ k : Nat, r = .returned (.tuple #[.int .i64 (k : Int), .bool (hit m x k)]) ∧ Split m x k) ∧ Fr0 w w' := by
    intro d
    induction d with
    | zero =>
      intro i j w1 hd hij hj h1 h2 H
      have : i = j := by omega
      subst this
      have sp : Split m x i := ⟨hj, h1, h2⟩
      refine slices_BinarySearchFunc_sl_value_Entry_value_Entry_uint64.L0_step _ _ _ _ _ _ _ (sel_false (decide_eq_false (by omega)) (sel_dec (fun hlt => ⟨by omega, by omega, ?_⟩) (fun hlt => ⟨⟨i, ?_, sp⟩, H.fr⟩)))
      · have hg : m[i]? = some (m[i]'(by omega)) := List.getElem?_eq_getElem (by omega)
        generalize m[i]'(by omega) = e at hg
        rw [Int.toNat_natCast]
        refine ent_at (H.getD 0) hg fun p _ c0 c1 c2 => ⟨_, _, _, c0, c1, c2, H.call (c_place1 e x w1) ?_⟩
        rintro _ w2 rfl H2
        refine ⟨_, rfl, ⟨i, ?_, sp⟩, H2.fr⟩
        have : (cmpI (e.i : Int) (x : Int) == 0) = hit m x i := by
          unfold hit
          rw [hg]
          simp only
          rw [Bool.eq_iff_iff, beq_iff_eq, beq_iff_eq, cmpI_zero]
          omega
        rw [this]
      · have : hit m x i = false := by unfold hit; rw [List.getElem?_eq_none (by omega)]
        rw [this]
    | succ d ih =>
      intro i j w1 hd hij hj h1 h2 H
      by_cases hlt : i < j
      · have eh : IntKind.wrap .i64 (Int.fdiv (IntKind.wrap .u64 (IntKind.wrap .i64 ((i : Int) + (j : Int)))) (2 ^ 1)) = (((i + j) / 2 : Nat) : Int) := by
          rw [IntWalk.i64_in ((i : Int) + (j : Int)) (by omega), IntWalk.u64_in _ (by omega), show ((i : Int) + (j : Int)) = ((i + j : Nat) : Int) from by omega, show ((2 : Int) ^ 1) = ((2 : Nat) : Int) from rfl, fdiv_nat _ _ (by omega)]
          exact IntWalk.i64_in _ (by omega)
        refine slices_BinarySearchFunc_sl_value_Entry_value_Entry_uint64.L0_step _ _ _ _ _ _ _ (sel_true (decide_eq_true (by omega)) ?_)
        rw [eh]
        have hh1 : i ≤ (i + j) / 2 := by omega
        have hh2 : (i + j) / 2 < j := by omega
        generalize (i + j) / 2 = q at hh1 hh2
        have hg : m[q]? = some (m[q]'(by omega)) := List.getElem?_eq_getElem (by omega)
        generalize m[q]'(by omega) = e at hg
        refine ⟨by omega, by omega, ?_⟩
        rw [Int.toNat_natCast]
        refine ent_at (H.getD 0) hg fun p _ c0 c1 c2 => ⟨_, _, _, c0, c1, c2, H.call (c_place1 e x w1) ?_⟩
        rintro _ w2 rfl H2
        refine ⟨_, rfl, sel_dec (fun hc => ?_) (fun hc => ?_)⟩
        · rw [cmpI_lt] at hc
          rw [i64_next _ (by omega)]
          refine ih (q + 1) j w2 (by omega) (by omega) hj (fun k e' hk he' => ?_) h2 H2
          rcases Nat.lt_or_ge k q with hkq | hkq
          · have := hs k q e' e hkq he' hg; omega
          · have : k = q := by omega
            subst this
            rw [hg] at he'; cases he'; omega
        · rw [cmpI_lt] at hc
          refine ih i q w2 (by omega) hh1 (by omega) h1 (fun k e' hk he' => ?_) H2
          rcases Nat.lt_or_ge q k with hkq | hkq
          · have := hs q k e e' hkq hg he'; omega
          · have : k = q := by omega
            subst this
            rw [hg] at he'; cases he'; omega
      · have : i = j := by omega
        subst this
        exact ih i i w1 (by omega) (by omega) hj h1 h2 H
  have := loop m.length 0 m.length w (by omega) (by omega) (Nat.le_refl _) (by omega) (fun k e hk he => by rw [List.getElem?_eq_none hk] at he; cases he) (lh0 [EntsD sl m] (by simp only [List.mem_cons, List.not_mem_nil, or_false]; rintro e rfl; exact h))
  rw [← nn] at this
  refine value_place.ok _ _ w _ ((slices_BinarySearchFunc_sl_value_Entry_value_Entry_uint64.ok _ _ w _ this).mono ?_)
  rintro _ w1 ⟨⟨k, rfl, sp⟩, f⟩
  exact ⟨_, _, rfl, ⟨k, rfl, sp⟩, f⟩
/-! #### Select -/
def selM (m : List Ent) (x : Nat) : Nat × List UInt8 := match m.find? (fun e => e.i == x) with | some e => (e.u, e.s) | none => (0, [])
theorem Sorted.tail {a : Ent} {l : List Ent} (h : Sorted (a :: l)) : Sorted l := fun i j x y hij hx hy => h (i + 1) (j + 1) x y (by omega) (by simpa using hx) (by simpa using hy)
theorem sel_split : ∀ (m : List Ent) (x k : Nat), Sorted m → Split m x k → selM m x = match (if hit m x k then m[k]? else none) with | some e => (e.u, e.s) | none => (0, [])
  | [], x, k, _, h => by
    have := h.le
    simp at this; subst this
    unfold selM hit
    simp
  | a :: l, x, 0, hs, h => by
    have h0 := h.ge 0 a (Nat.le_refl _) rfl
    unfold selM hit
    simp only [List.getElem?_cons_zero, List.find?_cons]
    by_cases hx : a.i = x
    · have : (a.i == x) = true := by simpa using hx
      rw [this]; rfl
    · have : (a.i == x) = false := by simpa using hx
      rw [this]
      simp only [Bool.false_eq_true, if_false]
      have hn : l.find? (fun e => e.i == x) = none := by
        rw [List.find?_eq_none]
        intro e he
        obtain ⟨j, hj⟩ := List.mem_iff_getElem?.1 he
        have := hs 0 (j + 1) a e (by omega) rfl (by simpa using hj)
        simp; omega
      rw [hn]
  | a :: l, x, k + 1, hs, h => by
    have h0 := h.lt 0 a (by omega) rfl
    have ih := sel_split l x k hs.tail ⟨by have := h.le; simp at this; omega, fun j y hj hy => h.lt (j + 1) y (by omega) (by simpa using hy), fun j y hj hy => h.ge (j + 1) y (by omega) (by simpa using hy)⟩
    have hh : hit (a :: l) x (k + 1) = hit l x k := by unfold hit; rw [List.getElem?_cons_succ]
    have h1 : (a.i == x) = false := by simp; omega
    rw [hh, List.getElem?_cons_succ]
    unfold selM at ih ⊢
    rw [List.find?_cons, h1]
    exact ih
def elemS (s : Srt) : Srt := ⟨if s.k = 2 then 0 else 1, s.n, 0⟩
def selE (a : Val) (x : Nat) : Int := if validV a ≠ 0 then validV a else if !arrS a.t then 9 else if !bel x a.t.x then 5 else 0
def selV (a : Val) (x : Nat) : Val := if selE a x ≠ 0 then noVal else ⟨elemS a.t, (selM a.m x).1, (selM a.m x).2, []⟩
theorem valid_of {v : Val} (h : validV v = 0) : validS v.t = true := by
  by_cases hh : validS v.t = true
  · exact hh
  · unfold validV at h; rw [if_neg hh] at h; omega
theorem c_Select (a : Val) (sl : Sl) (x : Nat) (w : World) (h : RdN 3 w sl (entsC a.m)) (hm : a.m.length ≤ 1000000) : Calls Try.prog n_value_Select #[vagg a sl, .int .u64 (x : Int)] w fun r w' => r = .returned (.tuple #[vagg (selV a x) ⟨none, 0, 0⟩, .int .i64 (selE a x)]) ∧ Fr0 w w' := by
  have err : ∀ (c : Int) {w1 : World}, c ≠ 0 → selE a x = c → Fr0 w w1 → (Ending.returned (.tuple #[.agg #[.int .i64 0, .int .i64 0, .int .i64 0, .int .u64 0, .string (ByteArray.mk #[]), .slice none 0 0], .int .i64 c]) = .returned (.tuple #[vagg (selV a x) ⟨none, 0, 0⟩, .int .i64 (selE a x)]) ∧ Fr0 w w1) := fun c w1 hc he f => ⟨by unfold selV; rw [he, if_pos hc]; rfl, f⟩
  refine value_Select.okT _ _ _ _ _ _ _ w _ ((lh0 [EntsD sl a.m] (by simp only [List.mem_cons, List.not_mem_nil, or_false]; rintro e rfl; exact h)).newg fun b2 w1 H1 => H1.newg fun b4 w2 H2 => H2.callg (c_Valid a sl w2 (H2.getD 0) hm) ?_)
  rintro _ w3 rfl H3
  refine ⟨_, rfl, sel_ne (fun hv => H3.locg fun w4 H4 => err _ hv (by unfold selE; rw [if_pos hv]) H4.fr) (fun hv => H3.callg (c_isArray a.t w3) ?_)⟩
  rintro _ w4 rfl H4
  refine ⟨_, rfl, sel_not (fun ha => H4.locg fun w5 H5 => err 9 (by omega) (by unfold selE; rw [if_neg (by simpa using hv), ha]; rfl) H5.fr) (fun ha => ?_)⟩
  have vs := vs_of (valid_of hv)
  refine H4.callg (c_below x a.t.x vs.x0 vs.x1 w4) ?_
  rintro _ w5 rfl H5
  refine ⟨_, rfl, sel_not (fun hb => H5.locg fun w6 H6 => err 5 (by omega) (by unfold selE; rw [if_neg (by simpa using hv), ha, hb]; rfl) H6.fr) (fun hb => ?_)⟩
  have h0 : selE a x = 0 := by unfold selE; rw [if_neg (by simpa using hv), ha, hb]; rfl
  have hs := sorted_of hv ha
  -- the element
  have s0 : ∀ {w6 : World} {b7 : Nat} {k : Int}, k = (elemS a.t).k → LH F0 w w6 [.g b2, .g b4, .g b7] [EntsD sl a.m] → value_Select.S0T (x : Int) b2 a.t.k a.t.n a.t.x (a.u : Int) (ba a.s) sl b4 0 0 0 0 (ByteArray.mk #[]) ⟨none, 0, 0⟩ b7 k a.t.n 0 0 (ByteArray.mk #[]) ⟨none, 0, 0⟩ w6 fun r w' => r = .returned (.tuple #[vagg (selV a x) ⟨none, 0, 0⟩, .int .i64 (selE a x)]) ∧ Fr0 w w' := by
    intro w6 b7 k hk H6
    refine H6.callg (c_place a.m sl x w6 (H6.getD 0) hs hm) ?_
    rintro _ w7 ⟨q, rfl, sp⟩ H7
    have hsel := sel_split a.m x q hs sp
    have nn := ents_n (H7.getD 0)
    refine ⟨_, _, rfl, sel_intro (fun hq => ?_) (fun hq => H7.locg fun w8 H8 => ⟨?_, H8.fr⟩)⟩
    · obtain ⟨e, he⟩ : ∃ e, a.m[q]? = some e := by
        unfold hit at hq
        cases hh : a.m[q]? with
        | none => rw [hh] at hq; cases hq
        | some e => exact ⟨e, rfl⟩
      have hql : q < a.m.length := (List.getElem?_eq_some_iff.1 he).1
      rw [hq, if_pos rfl, he] at hsel
      refine ⟨by omega, by omega, ?_⟩
      rw [Int.toNat_natCast]
      refine ent_at (H7.getD 0) he fun p hp _ _ _ => H7.locg fun w8 H8 => ?_
      obtain ⟨c0, c1, c2⟩ := cells_again (H8.getD 0) he hp
      refine ⟨_, c1, by omega, by omega, ?_⟩
      rw [hp]
      refine ⟨_, c2, H8.locg fun w9 H9 => ⟨(cells_again (H9.getD 0) he hp).2.2, H9.locg fun w10 H10 => H10.locg fun w11 H11 => ⟨?_, H11.fr⟩⟩⟩
      unfold selV
      rw [h0, if_neg (by simp), hsel, hk]
      rfl
    · rw [hq] at hsel
      simp only [Bool.false_eq_true, if_false] at hsel
      unfold selV
      rw [h0, if_neg (by simp), hsel, hk]
      rfl
  refine H5.newg fun b7 w6 H6 => sel_eq (fun hk => H6.locg fun w7 H7 => s0 ?_ H7) (fun hk => H6.locg fun w7 H7 => s0 ?_ H7)
  · unfold elemS; simp [hk]
  · unfold elemS
    unfold arrS at ha
    simp at ha
    have : a.t.k = 2 := by omega
    simp [this]
/-! #### Store -/
theorem c_clone (m : List Ent) (sl : Sl) (w : World) (h : RdN 3 w sl (entsC m)) (hm : m.length ≤ 1000000) : Calls Try.prog n_slices_Clone_sl_value_Entry_value_Entry #[sl.v] w fun r w' => (∃ s' : Sl, r = .returned s'.v ∧ OwnRow w' ty_value_Entry 3 s' (entsC m) ∧ ∀ b ∈ blkL s', w.heap.size ≤ b) ∧ Fr0 w w' := by
  have nn := ents_n h
  refine slices_Clone_sl_value_Entry_value_Entry.ok _ w _ (sel_intro (fun hn => ⟨⟨⟨none, 0, 0⟩, rfl, ?_, by simp [blkL]⟩, Fr.refl _ _⟩) (fun hn => ?_))
  · have : sl.a = none := by simpa using hn
    have := (h.2.2.1 this).1
    have : m = [] := List.length_eq_zero_iff.1 (by omega)
    subst this
    exact OwnRow.nil _ _ _
  · refine (lh0 [EntsD sl m] (by simp only [List.mem_cons, List.not_mem_nil, or_false]; rintro e rfl; exact h)).nwrow (e := ty_value_Entry) (sz := 3) (n := 0) (cs := []) rfl (by decide) fun w1 H1 => ?_
    have hD : RdN 3 w1 sl (entsC m) := H1.getD 0
    refine H1.ap 0 el_ve (s := ⟨some (at0 w.heap.size), 0, 0⟩) (src := sl) (news := entsC m) rfl hD.2.2 hD.1 (entC_one _) (by show (0 + sl.n) * 32 ≤ _; omega) fun s' w2 H2 _ _ => ⟨⟨s', rfl, H2.get 0, fun b hb => ?_⟩, H2.fr⟩
    exact (H2.new _ (List.mem_of_getElem? (i := 0) rfl) b hb).resolve_right id
def fitS (a v : Srt) : Bool := (a.k == 2 && v.k == 0 && v.n == a.n) || (a.k == 3 && v.k == 1 && decide (v.n ≤ a.n))
def stoE (a : Val) (x : Nat) (v : Val) : Int := if validV a ≠ 0 then validV a else if validV v ≠ 0 then validV v else if !fitS a.t v.t then 9 else if !bel x a.t.x then 5 else 0
def stoV (a : Val) (x : Nat) (v : Val) : Val := if stoE a x v ≠ 0 then noVal else ⟨a.t, 0, [], putM ⟨x, v.u, v.s⟩ a.m⟩
def Ret2 (T : TypeId) (w : World) (v : Val) (c : Int) : Post := fun r w' => ∃ sl : Sl, r = .returned (.tuple #[vagg v sl, .int .i64 c]) ∧ OwnRow w' T 3 sl (entsC v.m) ∧ ∀ b ∈ blkL sl, w.heap.size ≤ b
theorem sub0_ents {w : World} {sl : Sl} {m : List Ent} (h : RdN 3 w sl (entsC m)) (k : Nat) (hk : k ≤ m.length) : RdN 3 w (subN 3 sl 0 k) (entsC (m.take k)) := by
  have hn := ents_n h
  have := h.sub 0 k (Nat.zero_le _) (by omega)
  rwa [take_ents, Nat.zero_mul, List.drop_zero] at this
theorem c_Store (a v : Val) (sa sv : Sl) (x : Nat) (w : World) (ha : RdN 3 w sa (entsC a.m)) (hv : RdN 3 w sv (entsC v.m)) (hm : a.m.length ≤ 1000000) (hmv : v.m.length ≤ 1000000) : Calls Try.prog n_value_Store #[vagg a sa, .int .u64 (x : Int), vagg v sv] w fun r w' => Ret2 ty_value_Entry w (stoV a x v) (stoE a x v) r w' ∧ Fr0 w w' := by
  have err : ∀ (c : Int) {w1 : World}, c ≠ 0 → stoE a x v = c → Fr0 w w1 → (Ret2 ty_value_Entry w (stoV a x v) (stoE a x v) (Ending.returned (.tuple #[.agg #[.int .i64 0, .int .i64 0, .int .i64 0, .int .u64 0, .string (ByteArray.mk #[]), .slice none 0 0], .int .i64 c])) w1 ∧ Fr0 w w1) := fun c w1 hc he f => by
    refine ⟨⟨⟨none, 0, 0⟩, ?_, ?_, by simp [blkL]⟩, f⟩
    · unfold stoV; rw [he, if_pos hc]; rfl
    · unfold stoV; rw [he, if_pos hc]; exact OwnRow.nil _ _ _
  refine value_Store.okT _ _ _ _ _ _ _ _ _ _ _ _ _ w _ ((lh0 [EntsD sa a.m, EntsD sv v.m] (by simp only [List.mem_cons, List.not_mem_nil, or_false]; rintro e (rfl | rfl); exact ha; exact hv)).newg fun b3 w1 H1 => H1.newg fun b5 w2 H2 => H2.newg fun b6 w3 H3 => H3.callg (c_Valid a sa w3 (H3.getD 0) hm) ?_)
  rintro _ w4 rfl H4
  refine ⟨_, rfl, sel_ne (fun h1 => H4.locg fun w5 H5 => err _ h1 (by unfold stoE; rw [if_pos h1]) H5.fr) (fun h1 => H4.callg (c_Valid v sv w4 (H4.getD 1) hmv) ?_)⟩
  rintro _ w5 rfl H5
  refine ⟨_, rfl, sel_ne (fun h2 => H5.locg fun w6 H6 => err _ h2 (by unfold stoE; rw [if_neg (by simpa using h1), if_pos h2]) H6.fr) (fun h2 => ?_)⟩
  have vs := vs_of (valid_of h1)
  have sz : (ba v.s).size = v.s.length := rfl
  -- the sorts fit
  have s0 : fitS a.t v.t = true → value_Store.S0T (x : Int) b3 a.t.k a.t.n a.t.x (a.u : Int) (ba a.s) sa b5 v.t.k v.t.n v.t.x (v.u : Int) (ba v.s) sv b6 0 0 0 0 (ByteArray.mk #[]) ⟨none, 0, 0⟩ w5 fun r w' => Ret2 ty_value_Entry w (stoV a x v) (stoE a x v) r w' ∧ Fr0 w w' := by
    intro hf
    have harr : arrS a.t = true := by
      unfold fitS at hf
      unfold arrS
      simp only [Bool.or_eq_true, Bool.and_eq_true, beq_iff_eq] at hf ⊢
      omega
    have hs := sorted_of h1 harr
    refine H5.callg (c_below x a.t.x vs.x0 vs.x1 w5) ?_
    rintro _ w6 rfl H6
    refine ⟨_, rfl, sel_not (fun hb => H6.locg fun w7 H7 => err 5 (by omega) (by unfold stoE; rw [if_neg (by simpa using h1), if_neg (by simpa using h2), hf, hb]; rfl) H7.fr) (fun hb => ?_)⟩
    have h0 : stoE a x v = 0 := by unfold stoE; rw [if_neg (by simpa using h1), if_neg (by simpa using h2), hf, hb]; rfl
    have hval : stoV a x v = ⟨a.t, 0, [], putM ⟨x, v.u, v.s⟩ a.m⟩ := by unfold stoV; rw [h0, if_neg (by simp)]
    rw [h0, hval]
    refine H6.callg (c_place a.m sa x w6 (H6.getD 0) hs hm) ?_
    rintro _ w7 ⟨k, rfl, sp⟩ H7
    have hput := put_split ⟨x, v.u, v.s⟩ a.m k sp
    have nn := ents_n (H7.getD 0)
    have hD7 : RdN 3 w7 sa (entsC a.m) := H7.getD 0
    have hcap := hD7.2.1
    have hkl := sp.le
    refine ⟨_, _, rfl, by omega, by omega, ?_⟩
    simp only [Int.toNat_natCast]
    refine H7.callr (c_clone (a.m.take k) (subN 3 sa 0 k) w7 (sub0_ents (H7.getD 0) k hkl) (by rw [List.length_take]; omega)) ?_
    rintro _ w8 ⟨s', rfl, ho, hfresh⟩ _ F8
    have H8 := F8.own (.row ty_value_Entry 3 s' _) ho hfresh
    -- the end
    have s2 : ∀ (acc : List Ent) (q : Nat) (out : Sl) {w9 : World} {L : List En}, acc ++ a.m.drop q = putM ⟨x, v.u, v.s⟩ a.m → q ≤ a.m.length → acc.length ≤ 1000001 → LH F0 w w9 ([.g b3, .g b5, .g b6, .row ty_value_Entry 3 out (entsC acc)] ++ L) [EntsD sa a.m, EntsD sv v.m] → value_Store.S2T b3 a.t.k a.t.n a.t.x (a.u : Int) (ba a.s) sa b6 0 0 0 0 (ByteArray.mk #[]) ⟨none, 0, 0⟩ (q : Int) out w9 fun r w' => Ret2 ty_value_Entry w ⟨a.t, 0, [], putM ⟨x, v.u, v.s⟩ a.m⟩ 0 r w' ∧ Fr0 w w' := by
      intro acc q out w9 L he hq hacc H
      have hon := ents_own (H.get 3)
      refine ⟨by omega, by omega, H.locg fun w10 H10 => ?_⟩
      simp only [Int.toNat_natCast]
      refine H10.apT 3 el_ve (src := subN 3 sa q sa.n) (news := entsC (a.m.drop q)) rfl (sub_ents (H10.getD 0) q hq) (entC_one _) (by show (out.n + (sa.n - q)) * 32 ≤ _; omega) (fun s'' w11 H11 => H11.locg (fun w12 H12 => ⟨⟨s'', rfl, ?_, fun b hb => ?_⟩, H12.fr⟩))
      · have := H12.get 3
        show OwnRow w12 ty_value_Entry 3 s'' (entsC (putM ⟨x, v.u, v.s⟩ a.m))
        rw [← he]
        unfold entsC at this ⊢
        rw [List.flatMap_append]
        exact this
      · exact (H12.new _ (List.mem_of_getElem? (i := 3) rfl) b hb).resolve_right id
    have s1 : ∀ (out : Sl) {w9 : World} {L : List En}, LH F0 w w9 ([.g b3, .g b5, .g b6, .row ty_value_Entry 3 out (entsC (a.m.take k ++ (if nzE ⟨x, v.u, v.s⟩ then [⟨x, v.u, v.s⟩] else [])))] ++ L) [EntsD sa a.m, EntsD sv v.m] → value_Store.S1T b3 a.t.k a.t.n a.t.x (a.u : Int) (ba a.s) sa b6 0 0 0 0 (ByteArray.mk #[]) ⟨none, 0, 0⟩ (k : Int) (hit a.m x k) out w9 fun r w' => Ret2 ty_value_Entry w ⟨a.t, 0, [], putM ⟨x, v.u, v.s⟩ a.m⟩ 0 r w' ∧ Fr0 w w' := by
      intro out w9 L H
      have hal : (a.m.take k ++ (if nzE ⟨x, v.u, v.s⟩ then [Ent.mk x v.u v.s] else [])).length ≤ 1000001 := by
        rw [List.length_append, List.length_take]
        have : (if nzE ⟨x, v.u, v.s⟩ then [Ent.mk x v.u v.s] else []).length ≤ 1 := by split <;> simp
        omega
      refine sel_intro (fun hh => ?_) (fun hh => ?_)
      · have hlt : k < a.m.length := by
          unfold hit at hh
          cases hg : a.m[k]? with
          | none => rw [hg] at hh; cases hh
          | some e => exact (List.getElem?_eq_some_iff.1 hg).1
        rw [i64_next _ (by omega)]
        exact s2 _ (k + 1) out (by rw [hput]; simp only [hh, if_true]) (by omega) hal H
      · exact s2 _ k out (by rw [hput]; simp only [hh, Bool.false_eq_true, if_false]) hkl hal H
    refine ⟨_, rfl, H8.newg fun b13 w10 H10 => ?_⟩
    have hnz : (!(((x : Int) == (x : Int)) && (((v.u : Int) == 0) && (((ba v.s).toList == (ByteArray.mk #[]).toList) && true)))) = nzE ⟨x, v.u, v.s⟩ := by
      rw [tl_ba, tl_nil, emp_iff]
      have e0 : ((v.u : Int) == 0) = (v.u == 0) := by rw [Bool.eq_iff_iff, beq_iff_eq, beq_iff_eq]; omega
      rw [e0]
      unfold nzE
      simp
    have hon := ents_own (H10.get 3)
    rw [List.length_take] at hon
    refine sel_intro (fun hz => H10.locg fun w13 H13 => ?_) (fun hz => H10.locg fun w13 H13 => s1 s' (L := [.g b13]) ?_)
    · rw [hnz] at hz
      refine H13.ap1T 3 el_ve rfl (fun s'' w15 H15 => s1 s'' (L := [.g b13]) ?_) (by omega)
      rw [hz, if_pos rfl, entsC_snoc]
      exact H15
    · rw [hnz] at hz
      rw [hz, if_neg (by simp), List.append_nil]
      exact H13
  have s4 : fitS a.t v.t = false → value_Store.S4T b6 0 0 0 0 (ByteArray.mk #[]) ⟨none, 0, 0⟩ w5 fun r w' => Ret2 ty_value_Entry w (stoV a x v) (stoE a x v) r w' ∧ Fr0 w w' := fun hf => H5.locg fun w6 H6 => err 9 (by omega) (by unfold stoE; rw [if_neg (by simpa using h1), if_neg (by simpa using h2), hf]; rfl) H6.fr
  have s3 : ¬ (a.t.k = 2 ∧ v.t.k = 0 ∧ v.t.n = a.t.n) → value_Store.S3T (x : Int) b3 a.t.k a.t.n a.t.x (a.u : Int) (ba a.s) sa b5 v.t.k v.t.n v.t.x (v.u : Int) (ba v.s) sv b6 0 0 0 0 (ByteArray.mk #[]) ⟨none, 0, 0⟩ w5 fun r w' => Ret2 ty_value_Entry w (stoV a x v) (stoE a x v) r w' ∧ Fr0 w w' := by
    intro hne
    have fs : fitS a.t v.t = (a.t.k == 3 && v.t.k == 1 && decide (v.t.n ≤ a.t.n)) := by
      unfold fitS
      have : (a.t.k == 2 && v.t.k == 0 && v.t.n == a.t.n) = false := by
        rw [Bool.eq_false_iff]
        simp only [ne_eq, Bool.and_eq_true, beq_iff_eq]
        omega
      rw [this, Bool.false_or]
    refine sel_eq (fun g1 => sel_eq (fun g2 => sel_dec (fun g3 => s0 ?_) (fun g3 => s4 ?_)) (fun g2 => s4 ?_)) (fun g1 => s4 ?_)
    · rw [fs, g1, g2, decide_eq_true g3]; rfl
    · rw [fs, decide_eq_false g3]; simp
    · rw [fs, Bool.eq_false_iff]; simp only [ne_eq, Bool.and_eq_true, beq_iff_eq]; omega
    · rw [fs, Bool.eq_false_iff]; simp only [ne_eq, Bool.and_eq_true, beq_iff_eq]; omega
  refine sel_eq (fun g1 => sel_eq (fun g2 => sel_eq (fun g3 => s0 ?_) (fun g3 => s3 (by omega))) (fun g2 => s3 (by omega))) (fun g1 => s3 (by omega))
  unfold fitS
  rw [g1, g2, g3]
  simp
/-! #### Diff -/
def eqE (a b : Ent) : Bool := a.i == b.i && (a.u == b.u && a.s == b.s)
def diffM : List Ent → List Ent → Nat
  | [], [] => 0
  | [], b :: _ => b.i
  | a :: _, [] => a.i
  | a :: l, b :: m => if eqE a b then diffM l m else min a.i b.i
def sameT (s t : Srt) : Bool := s.k == t.k && (s.n == t.n && s.x == t.x)
def difE (a b : Val) : Int := if validV a ≠ 0 then validV a else if validV b ≠ 0 then validV b else if !arrS a.t then 9 else if !sameT a.t b.t then 9 else 0
def difV (a b : Val) : Nat := if difE a b ≠ 0 then 0 else diffM a.m b.m
theorem diffM_step (a b : List Ent) (i : Nat) (x y : Ent) (hx : a[i]? = some x) (hy : b[i]? = some y) : diffM (a.drop i) (b.drop i) = if eqE x y then diffM (a.drop (i + 1)) (b.drop (i + 1)) else min x.i y.i := by
  obtain ⟨h1, rfl⟩ := List.getElem?_eq_some_iff.1 hx
  obtain ⟨h2, rfl⟩ := List.getElem?_eq_some_iff.1 hy
  rw [List.drop_eq_getElem_cons h1, List.drop_eq_getElem_cons h2]
  rfl
theorem c_Diff (a b : Val) (sa sb : Sl) (w : World) (ha : RdN 3 w sa (entsC a.m)) (hb : RdN 3 w sb (entsC b.m)) (hm : a.m.length ≤ 1000000) (hmb : b.m.length ≤ 1000000) : Calls Try.prog n_value_Diff #[vagg a sa, vagg b sb] w fun r w' => r = .returned (.tuple #[.int .u64 (difV a b : Int), .int .i64 (difE a b)]) ∧ Fr0 w w' := by
  have na := ents_n ha
  have nb := ents_n hb
  have err : ∀ (c : Int) {w1 : World}, c ≠ 0 → difE a b = c → Fr0 w w1 → (Ending.returned (.tuple #[.int .u64 0, .int .i64 c]) = .returned (.tuple #[.int .u64 (difV a b : Int), .int .i64 (difE a b)]) ∧ Fr0 w w1) := fun c w1 hc he f => ⟨by unfold difV; rw [he, if_pos hc]; rfl, f⟩
  refine value_Diff.okT _ _ _ _ _ _ _ _ _ _ _ _ w _ ((lh0 [EntsD sa a.m, EntsD sb b.m] (by simp only [List.mem_cons, List.not_mem_nil, or_false]; rintro e (rfl | rfl); exact ha; exact hb)).newg fun b2 w1 H1 => H1.newg fun b3 w2 H2 => H2.callg (c_Valid a sa w2 (H2.getD 0) hm) ?_)
  rintro _ w3 rfl H3
  refine ⟨_, rfl, sel_ne (fun h1 => err _ h1 (by unfold difE; rw [if_pos h1]) H3.fr) (fun h1 => H3.callg (c_Valid b sb w3 (H3.getD 1) hmb) ?_)⟩
  rintro _ w4 rfl H4
  refine ⟨_, rfl, sel_ne (fun h2 => err _ h2 (by unfold difE; rw [if_neg (by simpa using h1), if_pos h2]) H4.fr) (fun h2 => H4.callg (c_isArray a.t w4) ?_)⟩
  rintro _ w5 rfl H5
  have hst : ((a.t.k == b.t.k) && ((a.t.n == b.t.n) && ((a.t.x == b.t.x) && true))) = sameT a.t b.t := by unfold sameT; rw [Bool.and_true]
  rw [hst]
  refine ⟨_, rfl, sel_not (fun h3 => err 9 (by omega) (by unfold difE; rw [if_neg (by simpa using h1), if_neg (by simpa using h2), h3]; rfl) H5.fr) (fun h3 => sel_not (fun h4 => err 9 (by omega) (by unfold difE; rw [if_neg (by simpa using h1), if_neg (by simpa using h2), h3, h4]; rfl) H5.fr) (fun h4 => ?_))⟩
  have h0 : difE a b = 0 := by unfold difE; rw [if_neg (by simpa using h1), if_neg (by simpa using h2), h3, h4]; rfl
  have hd : difV a b = diffM a.m b.m := by unfold difV; rw [h0, if_neg (by simp)]
  rw [h0, hd]
  have loop : ∀ (d i : Nat) (w1 : World), i + d = max a.m.length b.m.length → diffM (a.m.drop i) (b.m.drop i) = diffM a.m b.m → LH F0 w w1 [.g b2, .g b3] [EntsD sa a.m, EntsD sb b.m] →
      value_Diff.L1T b2 a.t.k a.t.n a.t.x (a.u : Int) (ba a.s) sa b3 b.t.k b.t.n b.t.x (b.u : Int) (ba b.s) sb (i : Int) w1 fun r w' => r = .returned (.tuple #[.int .u64 (diffM a.m b.m : Int), .int .i64 0]) ∧ Fr0 w w' := by
    intro d
    induction d with
    | zero =>
      intro i w1 hi he H
      refine value_Diff.L1T_step _ _ _ _ _ _ _ _ _ _ _ _ _ _ _ _ _ (sel_false (decide_eq_false (by omega)) (sel_false (decide_eq_false (by omega)) ⟨?_, H.fr⟩))
      rw [List.drop_of_length_le (by omega), List.drop_of_length_le (by omega)] at he
      rw [← he]; rfl
    | succ d ih =>
      intro i w1 hi he H
      have body : value_Diff.S2T b2 a.t.k a.t.n a.t.x (a.u : Int) (ba a.s) sa b3 b.t.k b.t.n b.t.x (b.u : Int) (ba b.s) sb (i : Int) w1 fun r w' => r = .returned (.tuple #[.int .u64 (diffM a.m b.m : Int), .int .i64 0]) ∧ Fr0 w w' := by
        unfold value_Diff.S2T
        simp only [Int.toNat_natCast]
        refine sel_dec (fun g1 => ?_) (fun g1 => sel_dec (fun g2 => ?_) (fun g2 => ?_))
        · have hg : b.m[i]? = some (b.m[i]'(by omega)) := List.getElem?_eq_getElem (by omega)
          rw [List.drop_of_length_le (by omega), List.drop_eq_getElem_cons (by omega)] at he
          generalize b.m[i]'(by omega) = y at hg he
          refine ⟨by omega, by omega, ent_at (H.getD 1) hg fun p _ c0 _ _ => ⟨_, c0, ?_, H.fr⟩⟩
          rw [← he]; rfl
        · have hg : a.m[i]? = some (a.m[i]'(by omega)) := List.getElem?_eq_getElem (by omega)
          have hbl : (b.m.drop i) = [] := List.drop_of_length_le (by omega)
          rw [hbl, List.drop_eq_getElem_cons (by omega)] at he
          generalize a.m[i]'(by omega) = y at hg he
          refine ⟨by omega, by omega, ent_at (H.getD 0) hg fun p _ c0 _ _ => ⟨_, c0, ?_, H.fr⟩⟩
          rw [← he]; rfl
        · have hga : a.m[i]? = some (a.m[i]'(by omega)) := List.getElem?_eq_getElem (by omega)
          have hgb : b.m[i]? = some (b.m[i]'(by omega)) := List.getElem?_eq_getElem (by omega)
          generalize a.m[i]'(by omega) = x at hga
          generalize b.m[i]'(by omega) = y at hgb
          rw [diffM_step a.m b.m i x y hga hgb] at he
          refine ⟨by omega, by omega, ent_at (H.getD 0) hga fun p hp _ _ _ => H.locg fun w6 H6 => ?_⟩
          obtain ⟨c0, c1, c2⟩ := cells_again (H6.getD 0) hga hp
          refine ⟨_, _, _, c0, c1, c2, by omega, by omega, ent_at (H6.getD 1) hgb fun q hq d0 d1 d2 => ⟨_, _, _, d0, d1, d2, ?_⟩⟩
          have heq : (((x.i : Int) == (y.i : Int)) && (((x.u : Int) == (y.u : Int)) && (((ba x.s).toList == (ba y.s).toList) && true))) = eqE x y := by
            rw [tl_ba, tl_ba, Bool.and_true]
            unfold eqE
            have e1 : ((x.i : Int) == (y.i : Int)) = (x.i == y.i) := by rw [Bool.eq_iff_iff, beq_iff_eq, beq_iff_eq]; omega
            have e2 : ((x.u : Int) == (y.u : Int)) = (x.u == y.u) := by rw [Bool.eq_iff_iff, beq_iff_eq, beq_iff_eq]; omega
            rw [e1, e2]
          rw [heq]
          refine sel_not (fun hne => ⟨by omega, by omega, ?_⟩) (fun hee => ?_)
          · rw [hp]
            refine H6.locg fun w7 H7 => ⟨_, (cells_again (H7.getD 0) hga hp).1, by omega, by omega, ?_⟩
            rw [hq]
            refine ⟨_, (cells_again (H7.getD 1) hgb hq).1, ?_, H7.fr⟩
            rw [hne, if_neg (by simp)] at he
            rw [← he]
            have : (if (y.i : Int) < (x.i : Int) then (y.i : Int) else (x.i : Int)) = ((min x.i y.i : Nat) : Int) := by
              split <;> omega
            rw [this]
          · rw [hee, if_pos rfl] at he
            rw [i64_next _ (by omega)]
            exact ih (i + 1) w6 (by omega) he H6
      exact value_Diff.L1T_step _ _ _ _ _ _ _ _ _ _ _ _ _ _ _ _ _ (sel_dec (fun _ => body) (fun _ => sel_dec (fun _ => body) (fun _ => by omega)))
  exact loop (max a.m.length b.m.length) 0 w5 (by omega) rfl H5
end Go.Proofs.Ytjjhfdjpmonlaaa

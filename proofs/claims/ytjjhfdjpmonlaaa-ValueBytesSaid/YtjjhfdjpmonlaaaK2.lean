/- Sorts and values that are valid: the contracts. -/
import Derived.Test.YtjjhfdjpmonlaaaK1
import Derived.Test.YtjjhfdjpmonlaaaVO
namespace Go.Proofs.Ytjjhfdjpmonlaaa
open Go Go.W

structure Sm (v : Val) : Prop where
  s : v.s.length ≤ 100000
  m : v.m.length ≤ 100000
  e : ∀ e ∈ v.m, e.s.length ≤ 100000
theorem r_Compare {w : World} (a b : Val) {sa sb : Sl} (ha : RdN 3 w sa (entsC a.m)) (hb : RdN 3 w sb (entsC b.m)) (hs : Sm a) : Calls Try.prog n_enthymemeref06_Compare #[vagg a sa, vagg b sb] w fun r w' => r = .returned (.int .i64 (cmpV a b)) ∧ Fr0 w w' := by
  have na := ents_n ha
  have nb := ents_n hb
  have hm := hs.m
  have loop : ∀ (d i : Nat) (c : Int) (b2 b3 : Nat) (w1 : World), i + d = a.m.length → i ≤ b.m.length → (if c ≠ 0 then c else cmpM (a.m.drop i) (b.m.drop i)) = cmpV a b → LH F0 w w1 [.g b2, .g b3] [EntsD sa a.m, EntsD sb b.m] →
      enthymemeref06_Compare.L0T b2 a.t.k a.t.n a.t.x (a.u : Int) (ba a.s) sa b3 b.t.k b.t.n b.t.x (b.u : Int) (ba b.s) sb c (i : Int) w1 fun r w' => r = .returned (.int .i64 (cmpV a b)) ∧ Fr0 w w' := by
    intro d
    have fin : ∀ (i : Nat) (c : Int) (b2 b3 : Nat) (w1 : World), i ≤ a.m.length → i ≤ b.m.length → (c ≠ 0 ∨ ¬ (i < a.m.length ∧ i < b.m.length)) → (if c ≠ 0 then c else cmpM (a.m.drop i) (b.m.drop i)) = cmpV a b → LH F0 w w1 [.g b2, .g b3] [EntsD sa a.m, EntsD sb b.m] →
        enthymemeref06_Compare.S1T b2 a.t.k a.t.n a.t.x (a.u : Int) (ba a.s) sa b3 b.t.k b.t.n b.t.x (b.u : Int) (ba b.s) sb c w1 fun r w' => r = .returned (.int .i64 (cmpV a b)) ∧ Fr0 w w' := by
      intro i c b2 b3 w1 h1 h2 h3 he H
      refine sel_ne (fun h => ⟨?_, H.fr⟩) (fun h => H.callg (r_ints _ _ w1) ?_)
      · rw [if_pos h] at he; rw [he]
      · rintro _ w2 rfl H2
        refine ⟨_, rfl, ?_, H2.fr⟩
        rw [if_neg (by simpa using h)] at he
        rw [na, nb, ← cmpM_end a.m b.m i (h3.resolve_left (by simpa using h)) h1 h2, he]
    induction d with
    | zero =>
      intro i c b2 b3 w1 hi hib he H
      exact enthymemeref06_Compare.L0T_step _ _ _ _ _ _ _ _ _ _ _ _ _ _ _ _ _ _ (sel_false (decide_eq_false (by omega)) (fin i c b2 b3 w1 (by omega) hib (.inr (by omega)) he H))
    | succ d ih =>
      intro i c b2 b3 w1 hi hib he H
      refine enthymemeref06_Compare.L0T_step _ _ _ _ _ _ _ _ _ _ _ _ _ _ _ _ _ _ (sel_true (decide_eq_true (by omega)) (sel_dec (fun hlt => sel_eq (fun hc => ?_) (fun hc => fin i c b2 b3 w1 (by omega) hib (.inl hc) he H)) (fun hlt => fin i c b2 b3 w1 (by omega) hib (.inr (by omega)) he H)))
      subst hc
      rw [if_neg (by simp)] at he
      have hga : a.m[i]? = some (a.m[i]'(by omega)) := List.getElem?_eq_getElem (by omega)
      have hgb : b.m[i]? = some (b.m[i]'(by omega)) := List.getElem?_eq_getElem (by omega)
      rw [cmpM_step a.m b.m i (by omega) (by omega)] at he
      have hx := hs.e _ (List.mem_of_getElem? hga)
      generalize a.m[i]'(by omega) = x at hga he hx
      generalize b.m[i]'(by omega) = y at hgb he
      refine ⟨by omega, by omega, ?_⟩
      rw [Int.toNat_natCast]
      refine ent_at (H.getD 0) hga fun p _ c0 c1 c2 => ⟨_, _, _, c0, c1, c2, H.newg fun b7 w11 H11 => ⟨by omega, by omega, ?_⟩⟩
      refine ent_at ((H11.fr0 (Fr.refl _ _)).getD 1) hgb fun p hp _ _ _ => H11.locg fun w14 H14 => ?_
      have hk := ent_at (H14.getD 1) hgb (K := fun q => ∃ q', sb.a = some q' ∧ w14.cell? ((q'.add (i * 3)).add 0) = some (.int .u64 (y.i : Int)) ∧ w14.cell? ((q'.add (i * 3)).add 1) = some (.int .u64 (y.u : Int)) ∧ w14.cell? ((q'.add (i * 3)).add 2) = some (.string (ba y.s))) (fun q hq d0 d1 d2 => ⟨q, hq, d0, d1, d2⟩)
      rw [hp] at hk
      obtain ⟨q, hq, d0, d1, d2⟩ := hk
      cases hq
      refine ⟨_, _, _, d0, d1, d2, H14.newg fun b8 w15 H15 => H15.locg fun w19 H19 => H19.callg (r_number _ _ w19) ?_⟩
      rintro _ w20 rfl H20
      refine ⟨_, rfl, H20.callg (r_number _ _ w20) ?_⟩
      rintro _ w21 rfl H21
      refine ⟨_, rfl, H21.callg (r_texts _ _ (by omega) w21) ?_⟩
      rintro _ w22 rfl H22
      refine ⟨_, rfl, LH.first H22 (l := [_, _, _]) rfl (by simp) fun w24 H24 => ⟨_, rfl, ?_⟩⟩
      rw [i64_next _ (by omega)]
      exact ih (i + 1) _ b2 b3 w24 (by omega) (by omega) he (H24.take 2)
  refine enthymemeref06_Compare.okT _ _ _ _ _ _ _ _ _ _ _ _ w _ ((lh0 [EntsD sa a.m, EntsD sb b.m] (by simp only [List.mem_cons, List.not_mem_nil, or_false]; rintro e (rfl | rfl); exact ha; exact hb)).newg fun b1 w1 H1 => H1.newg fun b2 w2 H2 => H2.locg fun w3 H3 => H3.callg (r_ints _ _ w3) ?_)
  rintro _ w4 rfl H4
  refine ⟨_, rfl, H4.callg (r_ints _ _ w4) ?_⟩
  rintro _ w5 rfl H5
  refine ⟨_, rfl, H5.callg (r_ints _ _ w5) ?_⟩
  rintro _ w6 rfl H6
  refine ⟨_, rfl, H6.callg (r_number _ _ w6) ?_⟩
  rintro _ w7 rfl H7
  refine ⟨_, rfl, H7.callg (r_texts _ _ (by have := hs.s; omega) w7) ?_⟩
  rintro _ w8 rfl H8
  exact ⟨_, rfl, LH.first H8 (l := [_, _, _, _, _]) rfl (by simp) fun w9 H9 => ⟨_, rfl, loop a.m.length 0 _ b1 b2 w9 (by omega) (Nat.zero_le _) rfl H9⟩⟩
theorem r_Same {w : World} (a b : Val) {sa sb : Sl} (ha : RdN 3 w sa (entsC a.m)) (hb : RdN 3 w sb (entsC b.m)) (hs : Sm a) : Calls Try.prog n_enthymemeref06_Same #[vagg a sa, vagg b sb] w fun r w' => r = .returned (.bool (cmpV a b == 0)) ∧ Fr0 w w' := by
  refine enthymemeref06_Same.okT _ _ _ _ _ _ _ _ _ _ _ _ w _ ((lh0 [EntsD sa a.m, EntsD sb b.m] (by simp only [List.mem_cons, List.not_mem_nil, or_false]; rintro e (rfl | rfl); exact ha; exact hb)).newg fun b1 w1 H1 => H1.newg fun b2 w2 H2 => H2.callg (r_Compare a b (H2.getD 0) (H2.getD 1) hs) ?_)
  rintro _ w3 rfl H3
  exact ⟨_, rfl, rfl, H3.fr⟩
/-! #### Sorts -/
theorem c_ValidSort (s : Srt) (w : World) : Calls Try.prog n_value_ValidSort #[srtV s] w fun r w' => r = .returned (.int .i64 (sortE s)) ∧ Fr0 w w' := by
  refine value_ValidSort.okT _ _ _ w _ ((lh0 [] (by simp)).newg fun b1 w1 H1 => ?_)
  have good : validS s = true → (Ending.returned (Value.int .i64 0) = .returned (.int .i64 (sortE s)) ∧ Fr0 w w1) := fun h => ⟨by unfold sortE; rw [if_pos h], H1.fr⟩
  have bad : validS s = false → (Ending.returned (Value.int .i64 9) = .returned (.int .i64 (sortE s)) ∧ Fr0 w w1) := fun h => ⟨by unfold sortE; rw [if_neg (by simp [h])], H1.fr⟩
  have plain : ∀ least : Int, (∀ h1 : least ≤ s.n, s.n ≤ 64 → s.x = 0 → validS s = true) → (¬ (least ≤ s.n ∧ s.n ≤ 64 ∧ s.x = 0) → validS s = false) → value_ValidSort.S0T b1 s.k s.n s.x least 64 false w1 fun r w' => r = .returned (.int .i64 (sortE s)) ∧ Fr0 w w' := by
    intro least h1 h2
    exact sel_dec (fun h => bad (h2 (by omega))) (fun h => sel_dec (fun h' => bad (h2 (by omega))) (fun h' => sel_false rfl (sel_true rfl (sel_ne (fun h3 => bad (h2 (fun hh => h3 hh.2.2))) (fun h3 => good (h1 (by omega) (by omega) h3))))))
  have array : ∀ least : Int, (∀ h1 : least ≤ s.n, s.n ≤ 64 → 1 ≤ s.x → s.x ≤ 16 → validS s = true) → (¬ (least ≤ s.n ∧ s.n ≤ 64 ∧ 1 ≤ s.x ∧ s.x ≤ 16) → validS s = false) → value_ValidSort.S0T b1 s.k s.n s.x least 64 true w1 fun r w' => r = .returned (.int .i64 (sortE s)) ∧ Fr0 w w' := by
    intro least h1 h2
    exact sel_dec (fun h => bad (h2 (by omega))) (fun h => sel_dec (fun h' => bad (h2 (by omega))) (fun h' => sel_true rfl (sel_dec (fun h3 => bad (h2 (by omega))) (fun h3 => sel_dec (fun h4 => bad (h2 (by omega))) (fun h4 => sel_false rfl (good (h1 (by omega) (by omega) (by omega) (by omega))))))))
  refine sel_eq (fun h0 => plain 1 (fun h1 h2 h3 => ?_) (fun h => ?_)) (fun h0 => sel_eq (fun h1' => plain 0 (fun h1 h2 h3 => ?_) (fun h => ?_)) (fun h1' => sel_eq (fun h2' => array 1 (fun h1 h2 h3 h4 => ?_) (fun h => ?_)) (fun h2' => sel_eq (fun h3' => array 0 (fun h1 h2 h3 h4 => ?_) (fun h => ?_)) (fun h3' => bad ?_))))
  · unfold validS; simp [h0, h1, h2, h3]
  · unfold validS; rw [h0]; simp; omega
  · unfold validS; simp [h1', h1, h2, h3]
  · unfold validS; rw [h1']; simp; omega
  · unfold validS; simp [h2', h1, h2, h3, h4]
  · unfold validS; rw [h2']; simp; omega
  · unfold validS; simp [h3', h1, h2, h3, h4]
  · unfold validS; rw [h3']; simp; omega
  · unfold validS; simp [h0, h1', h2', h3']
theorem r_within (n lo hi : Int) (w : World) : Calls Try.prog n_enthymemeref06_within #[.int .i64 n, .int .i64 lo, .int .i64 hi] w fun r w' => r = .returned (.bool (decide (lo ≤ n ∧ n ≤ hi))) ∧ Fr0 w w' := by
  refine enthymemeref06_within.ok _ _ _ w _ (sel_dec (fun h => ⟨?_, Fr.refl _ _⟩) (fun h => ⟨?_, Fr.refl _ _⟩))
  · have : (lo ≤ n ∧ n ≤ hi) ↔ n ≤ hi := ⟨fun h => h.2, fun h' => ⟨h, h'⟩⟩
    simp only [this]
  · rw [decide_eq_false (by omega)]
theorem r_ValidSort (s : Srt) (w : World) : Calls Try.prog n_enthymemeref06_ValidSort #[srtV s] w fun r w' => r = .returned (.int .i64 (sortE s)) ∧ Fr0 w w' := by
  refine enthymemeref06_ValidSort.okT _ _ _ w _ ((lh0 [] (by simp)).newg fun b1 w1 H1 => ?_)
  have fin : ∀ {w2 : World} {L : List En} (b : Bool), b = validS s → LH F0 w w2 L [] → enthymemeref06_ValidSort.S0T b w2 fun r w' => r = .returned (.int .i64 (sortE s)) ∧ Fr0 w w' := by
    rintro w2 L b rfl H
    refine sel_not (fun h => ⟨?_, H.fr⟩) (fun h => ⟨?_, H.fr⟩)
    · unfold sortE; rw [if_neg (by simp [h])]
    · unfold sortE; rw [if_pos h]
  have plain : ∀ lo : Int, (validS s = (decide (lo ≤ s.n ∧ s.n ≤ 64) && (s.x == 0))) → callF [b1] Try.prog n_enthymemeref06_within #[.int .i64 s.n, .int .i64 lo, .int .i64 64] w1 fun r_ w2 => ∃ t10 : Bool, r_ = .returned (.bool t10) ∧ sel t10 (enthymemeref06_ValidSort.S0T (s.x == 0) w2 fun r w' => r = .returned (.int .i64 (sortE s)) ∧ Fr0 w w') (enthymemeref06_ValidSort.S0T false w2 fun r w' => r = .returned (.int .i64 (sortE s)) ∧ Fr0 w w') := by
    intro lo hv
    refine H1.callg (r_within _ _ _ w1) ?_
    rintro _ w2 rfl H2
    refine ⟨_, rfl, sel_intro (fun h => fin _ ?_ H2) (fun h => fin _ ?_ H2)⟩
    · rw [hv, h]; rfl
    · rw [hv, h]; rfl
  have array : ∀ lo : Int, (validS s = (decide (lo ≤ s.n ∧ s.n ≤ 64) && decide (1 ≤ s.x ∧ s.x ≤ 16))) → callF [b1] Try.prog n_enthymemeref06_within #[.int .i64 s.n, .int .i64 lo, .int .i64 64] w1 fun r_ w2 => ∃ t10 : Bool, r_ = .returned (.bool t10) ∧ sel t10 (callF [b1] Try.prog n_enthymemeref06_within #[.int .i64 s.x, .int .i64 1, .int .i64 16] w2 fun r_ w5 => ∃ t34 : Bool, r_ = .returned (.bool t34) ∧ enthymemeref06_ValidSort.S0T t34 w5 fun r w' => r = .returned (.int .i64 (sortE s)) ∧ Fr0 w w') (enthymemeref06_ValidSort.S0T false w2 fun r w' => r = .returned (.int .i64 (sortE s)) ∧ Fr0 w w') := by
    intro lo hv
    refine H1.callg (r_within _ _ _ w1) ?_
    rintro _ w2 rfl H2
    refine ⟨_, rfl, sel_intro (fun h => H2.callg (r_within _ _ _ w2) ?_) (fun h => fin _ ?_ H2)⟩
    · rintro _ w3 rfl H3
      exact ⟨_, rfl, fin _ (by rw [hv, h]; rfl) H3⟩
    · rw [hv, h]; rfl
  refine sel_eq (fun h0 => plain 1 ?_) (fun h0 => sel_eq (fun h1' => plain 0 ?_) (fun h1' => sel_eq (fun h2' => array 1 ?_) (fun h2' => sel_eq (fun h3' => array 0 ?_) (fun h3' => fin _ ?_ H1))))
  · unfold validS; simp [h0]
  · unfold validS; simp [h1']
  · unfold validS; simp [h2', Bool.and_assoc]
  · unfold validS; simp [h3', Bool.and_assoc]
  · unfold validS; simp [h0, h1', h2', h3']
theorem pow_word (n : Int) (h0 : 0 ≤ n) (h1 : n < 64) : IntKind.wrap .u64 (1 * 2 ^ (min (Int.toNat n) (IntKind.bits .u64))) = ((2 ^ n.toNat : Nat) : Int) := by
  have e : min (Int.toNat n) (IntKind.bits .u64) = n.toNat := by show min n.toNat 64 = _; omega
  have hp : (2 : Nat) ^ n.toNat ≤ 2 ^ 63 := Nat.pow_le_pow_right (by omega) (by omega)
  rw [e, Int.one_mul, show ((2 : Int) ^ n.toNat) = ((2 ^ n.toNat : Nat) : Int) from by rw [Int.natCast_pow]; rfl]
  generalize (2 : Nat) ^ n.toNat = m at hp
  exact IntWalk.u64_in _ (by omega)
theorem c_below (u : Nat) (n : Int) (h0 : 0 ≤ n) (h1 : n ≤ 64) (w : World) : Calls Try.prog n_value_below #[.int .u64 (u : Int), .int .i64 n] w fun r w' => r = .returned (.bool (bel u n)) ∧ Fr0 w w' := by
  refine value_below.ok _ _ w _ (sel_eq (fun h => ⟨?_, Fr.refl _ _⟩) (fun h => ⟨by omega, ?_, Fr.refl _ _⟩))
  · unfold bel; simp [h]
  · rw [pow_word n h0 (by omega)]
    unfold bel
    have e1 : (n == 64) = false := by simpa using h
    rw [e1, Bool.false_or]
    rw [show decide ((u : Int) < ((2 ^ n.toNat : Nat) : Int)) = decide (u < 2 ^ n.toNat) from decide_eq_decide.2 Int.ofNat_lt]
theorem r_fits (u : Nat) (n : Int) (h0 : 0 ≤ n) (h1 : n ≤ 64) (w : World) : Calls Try.prog n_enthymemeref06_fits #[.int .u64 (u : Int), .int .i64 n] w fun r w' => r = .returned (.bool (bel u n)) ∧ Fr0 w w' := by
  refine enthymemeref06_fits.ok _ _ w _ (sel_dec (fun h => ⟨?_, Fr.refl _ _⟩) (fun h => ?_))
  · have : n = 64 := by omega
    unfold bel; simp [this]
  · rw [IntWalk.u64_in n (by omega)]
    refine ⟨by omega, ?_, Fr.refl _ _⟩
    rw [pow_word n h0 (by omega)]
    unfold bel
    have e1 : (n == 64) = false := by simp; omega
    rw [e1, Bool.false_or]
    rw [show decide ((u : Int) < ((2 ^ n.toNat : Nat) : Int)) = decide (u < 2 ^ n.toNat) from decide_eq_decide.2 Int.ofNat_lt]
theorem c_isArray (s : Srt) (w : World) : Calls Try.prog n_value_isArray #[srtV s] w fun r w' => r = .returned (.bool (arrS s)) ∧ Fr0 w w' := by
  refine value_isArray.okT _ _ _ w _ ((lh0 [] (by simp)).newg fun b1 w1 H1 => sel_eq (fun h => ⟨?_, H1.fr⟩) (fun h => ⟨?_, H1.fr⟩))
  · unfold arrS; simp [h]
  · unfold arrS
    have : (s.k == 2) = false := by simpa using h
    rw [this, Bool.false_or]
theorem r_Array (s : Srt) (w : World) : Calls Try.prog n_enthymemeref06_Array #[srtV s] w fun r w' => r = .returned (.bool (arrS s)) ∧ Fr0 w w' := by
  refine enthymemeref06_Array.okT _ _ _ w _ ((lh0 [] (by simp)).newg fun b1 w1 H1 => sel_eq (fun h => ⟨?_, H1.fr⟩) (fun h => ⟨?_, H1.fr⟩))
  · unfold arrS; simp [h]
  · unfold arrS
    have : (s.k == 2) = false := by simpa using h
    rw [this, Bool.false_or]
end Go.Proofs.Ytjjhfdjpmonlaaa

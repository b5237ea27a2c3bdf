/- Package regex: countdown, proper, Valid, clone, limited: the contracts. -/
import Derived.Test.YtknlbofiicflgaaGreatR1
import Derived.Test.YtknlbofiicflgaaGreatVD
namespace Go.Proofs.YtknlbofiicflgaaGreat
open Go Go.W

theorem lhT {w : World} {t : Rt} (h : t.P w) : LH F0 w w [] [.tree t] := lh0 _ (by
  intro e he
  simp only [List.mem_cons, List.not_mem_nil, or_false] at he
  subst he
  exact h)
/-- a tree that is returned, all new -/
def RetT (w : World) (x : Rx) (r : Ending) (w' : World) : Prop := ∃ t : Rt, r = .returned t.v ∧ t.rx = x ∧ t.P w' ∧ ∀ b ∈ t.fp, w.heap.size ≤ b
section
variable {M : Nat → Prop} {w0 w : World} {L D : List En} {bs : List Nat}
/-- one tree more in a list -/
theorem _root_.Go.W.LH.snocT (H : LH M w0 w L D) (i j : Nat) {ts : List Rt} {t : Rt} (hi : D[i]? = some (.trees ts) := by rfl) (hj : D[j]? = some (.tree t) := by rfl) : LH M w0 w L (D ++ [.trees (ts ++ [t])]) := by
  refine H.addD _ (Fr.refl _ _) (Rt.ps_of fun t' ht => ?_) fun b hb => .inr (.inr ?_)
  · rcases List.mem_append.1 ht with ht | ht
    · exact Rt.Ps.mem (H.getD i hi) ht
    · simp at ht; subst ht; exact H.getD j hj
  · obtain ⟨t', ht, hb'⟩ := Rt.fps_iff.1 (mem_nub.1 hb)
    rcases List.mem_append.1 ht with ht | ht
    · exact ⟨_, List.mem_of_getElem? hi, mem_nub.2 (Rt.fps_iff.2 ⟨t', ht, hb'⟩)⟩
    · simp at ht
      rw [ht] at hb'
      exact ⟨_, List.mem_of_getElem? hj, mem_nub.2 hb'⟩
theorem rdn_own {e : TypeId} {s : Sl} {vs : List Value} {b : Nat} (h : b ∈ (En.rdn 4 s vs).fp) : b ∈ (En.row e 4 s vs).fp := by
  have : b ∈ (if vs = [] then [] else blkL s) := h
  split at this
  · cases this
  · exact this
/-- a row of one's own becomes a tree's -/
theorem _root_.Go.W.LH.rowT (H : LH M w0 w L D) (i j : Nat) {e : TypeId} {s : Sl} {ts : List Rt} (k : Int) (lo hi : UInt8) (hi' : L[i]? = some (.row e 4 s (ts.flatMap Rt.c)) := by rfl) (hj : D[j]? = some (.trees ts) := by rfl) : LH M w0 w (L.eraseIdx i) (D ++ [Rt.row s ts] ++ [.tree (.mk k lo hi s ts)]) := by
  have H1 := H.freeze i (Rt.row s ts) hi' (OwnRow.rdn (H.get i hi')) fun b hb => rdn_own hb
  refine H1.addD _ (Fr.refl _ _) ?_ fun b hb => .inr (.inr ?_)
  · show Rt.P w _
    unfold Rt.P
    exact ⟨OwnRow.rdn (H.get i hi'), H.getD j hj⟩
  · have hb' := mem_nub.1 hb
    unfold Rt.fp at hb'
    rcases List.mem_append.1 hb' with hb' | hb'
    · exact ⟨_, List.mem_append_right _ (by simp), hb'⟩
    · exact ⟨_, List.mem_append_left _ (List.mem_of_getElem? hj), mem_nub.2 hb'⟩
end
theorem c_one (l : List Rt) : ∀ u ∈ l.flatMap Rt.c, u.oneCell' = true := fun u hu => by
  obtain ⟨e, _, h⟩ := List.mem_flatMap.1 hu
  simp only [Rt.c, List.mem_cons, List.not_mem_nil, or_false] at h
  rcases h with rfl | rfl | rfl | rfl <;> rfl
theorem el_rx : ElemOk Tryz.prog ty_sl_regex_Regex ty_regex_Regex (.agg #[.int .i64 0, .int .u8 0, .int .u8 0, .slice none 0 0]) 4 40 := ⟨by kernel_rfl, by kernel_rfl, rfl, by decide, by decide⟩
theorem cs_snoc (l : List Rt) (t : Rt) : (l ++ [t]).flatMap Rt.c = l.flatMap Rt.c ++ t.c := by simp
theorem rxs_app (l m : List Rt) : Rt.rxs (l ++ m) = Rt.rxs l ++ Rt.rxs m := by simp [Rt.rxs_map]
theorem szs_app : ∀ (l m : List Rt), Rt.szs (l ++ m) = Rt.szs l + Rt.szs m
  | [], m => by simp [Rt.szs]
  | t :: l, m => by
    show t.sz + Rt.szs (l ++ m) = t.sz + Rt.szs l + Rt.szs m
    rw [szs_app l m]
    omega
theorem szs_take_le (l : List Rt) (i : Nat) : Rt.szs (l.take i) ≤ Rt.szs l := by
  have := szs_app (l.take i) (l.drop i)
  rw [List.take_append_drop] at this
  omega
/-! #### countdown, tooLarge -/
abbrev CdOk (n : Nat) : Prop := ∀ (t : Rt) (x : Nat) (w : World), t.sz ≤ n → x ≤ 1000000 → t.P w → Calls Tryz.prog n_regex_countdown #[t.v, .int .i64 (x : Int)] w fun r w' => r = .returned (.int .i64 (max ((x : Int) - t.sz) (-1))) ∧ Fr0 w w'
theorem c_countdownN : ∀ n : Nat, n ≤ 1000000 → CdOk n
  | 0, _ => fun t x w h _ _ => absurd h (by have := Rt.sz_pos t; omega)
  | n + 1, hn => fun t x w h hx pt => by
    have ih := c_countdownN n (by omega)
    have hs := Rt.sz_parts t
    have hl := Rt.szs_len t.l
    have loop : ∀ (d i : Nat) (y : Int) (b2 : Nat) (w1 : World), i + d = t.l.length → -1 ≤ y → y ≤ 1000000 → max (y - Rt.szs (t.l.drop i)) (-1) = max ((x : Int) - t.sz) (-1) → LH F0 w w1 [.g b2] [.tree t] →
        regex_countdown.L1T y b2 t.k t.lo.toNat t.hi.toNat t.s (i : Int) w1 fun r w' => r = .returned (.int .i64 (max ((x : Int) - t.sz) (-1))) ∧ Fr0 w w' := by
      intro d
      induction d with
      | zero =>
        intro i y b2 w1 hi hy hy1 he H
        have nr := Rt.rows_n (show t.P w1 from H.getD 0).parts.1
        rw [List.drop_of_length_le (by omega)] at he
        refine regex_countdown.L1T_step _ _ _ _ _ _ _ _ _ (sel_false (decide_eq_false (by omega)) ⟨?_, H.fr⟩)
        rw [← he]
        congr 2
        simp only [Rt.szs]
        omega
      | succ d ihd =>
        intro i y b2 w1 hi hy hy1 he H
        have nr := Rt.rows_n (show t.P w1 from H.getD 0).parts.1
        have hg : t.l[i]? = some (t.l[i]'(by omega)) := List.getElem?_eq_getElem (by omega)
        rw [List.drop_eq_getElem_cons (by omega)] at he
        generalize t.l[i]'(by omega) = a at hg he
        have sza := Rt.szs_mem (List.mem_of_getElem? hg)
        unfold Rt.szs at he
        refine regex_countdown.L1T_step _ _ _ _ _ _ _ _ _ (sel_true (decide_eq_true (by omega)) (sel_dec (fun hy0 => ⟨by omega, by omega, ?_⟩) (fun hy0 => ⟨?_, H.fr⟩)))
        · have pt1 : t.P w1 := H.getD 0
          refine Rt.at' pt1.parts.1 hg fun p hp c => ⟨_, _, _, _, c.c0, c.c1, c.c2, c.c3, ?_⟩
          have hy0' : 0 ≤ y := hy0
          obtain ⟨m, rfl⟩ := Int.eq_ofNat_of_zero_le hy0'
          refine H.callg (ih a m w1 (by omega) (by omega) (pt1.parts.2.get hg)) ?_
          rintro _ w2 rfl H2
          refine ⟨_, rfl, ?_⟩
          rw [i64_next _ (by omega)]
          refine ihd (i + 1) _ b2 w2 (by omega) (by omega) (by omega) ?_ H2
          rw [← he]
          omega
        · have hy0' : ¬ 0 ≤ y := hy0
          rw [← he]
          have : y = -1 := by omega
          subst this
          congr 2
          omega
    have e : IntKind.wrap .i64 ((x : Int) - 1) = (x : Int) - 1 := IntWalk.i64_in _ (by omega)
    refine regex_countdown.okT _ _ _ _ _ w _ ((lhT pt).newg fun b2 w1 H1 => ?_)
    rw [e]
    refine loop t.l.length 0 _ b2 w1 (by omega) (by omega) (by omega) ?_ H1
    rw [List.drop_zero, hs]
    omega
theorem c_tooLarge (t : Rt) (w : World) (h : t.sz ≤ 1000000) (pt : t.P w) : Calls Tryz.prog n_regex_tooLarge #[t.v] w fun r w' => r = .returned (.bool (decide (64 < t.sz))) ∧ Fr0 w w' := by
  refine regex_tooLarge.okT _ _ _ _ w _ ((lhT pt).newg fun b1 w1 H1 => H1.callg (c_countdownN 1000000 (Nat.le_refl _) t 64 w1 h (by omega) (H1.getD 0)) ?_)
  rintro _ w2 rfl H2
  refine ⟨_, rfl, ?_, H2.fr⟩
  congr 2
  exact decide_eq_decide.2 (by omega)
/-! #### proper, Valid -/
mutual
def goodR : Rx → Bool
  | .mk k lo hi l => !(k != 2 && (lo != 0 || hi != 0)) && (if k = 0 ∨ k = 1 then l.isEmpty else if k = 2 then l.isEmpty && decide (lo.toNat ≤ hi.toNat) else if k = 3 ∨ k = 4 ∨ k = 5 then goodL l else if k = 6 ∨ k = 7 then l.length == 1 && goodL l else false)
def goodL : List Rx → Bool
  | [] => true
  | t :: l => goodR t && goodL l
end
abbrev PrOk (n : Nat) : Prop := ∀ (t : Rt) (w : World), t.sz ≤ n → t.P w → Calls Tryz.prog n_regex_proper #[t.v] w fun r w' => r = .returned (.bool (goodR t.rx)) ∧ Fr0 w w'
theorem emp_len (l : List Rt) : (Rt.rxs l).isEmpty = (((l.length : Nat) : Int) == 0) := by
  rw [Rt.rxs_map]
  cases l with
  | nil => rfl
  | cons a l =>
    simp
    omega
theorem c_properN : ∀ n : Nat, n ≤ 1000000 → PrOk n
  | 0, _ => fun t w h _ => absurd h (by have := Rt.sz_pos t; omega)
  | n + 1, hn => fun t w h pt => by
    have ih := c_properN n (by omega)
    have hs := Rt.sz_parts t
    have hl := Rt.szs_len t.l
    have nr := Rt.rows_n pt.parts.1
    have loop : ∀ (b : Bool), goodR t.rx = (b && goodL (Rt.rxs t.l)) → b = true → ∀ (d i : Nat) (w1 : World), i + d = t.l.length → goodL (Rt.rxs (t.l.drop i)) = goodL (Rt.rxs t.l) → LH F0 w w1 [] [.tree t] →
        regex_proper.L5T t.s ((t.s.n : Nat) : Int) (i : Int) w1 fun r w' => r = .returned (.bool (goodR t.rx)) ∧ Fr0 w w' := by
      intro b hb hbt d
      subst hbt
      rw [Bool.true_and] at hb
      induction d with
      | zero =>
        intro i w1 hi he H
        rw [List.drop_of_length_le (by omega)] at he
        refine regex_proper.L5T_step _ _ _ _ _ (sel_false (decide_eq_false (by omega)) ⟨?_, H.fr⟩)
        rw [hb, ← he]; rfl
      | succ d ihd =>
        intro i w1 hi he H
        have hg : t.l[i]? = some (t.l[i]'(by omega)) := List.getElem?_eq_getElem (by omega)
        rw [List.drop_eq_getElem_cons (by omega)] at he
        generalize t.l[i]'(by omega) = a at hg he
        have sza := Rt.szs_mem (List.mem_of_getElem? hg)
        have he' : (goodR a.rx && goodL (Rt.rxs (t.l.drop (i + 1)))) = goodL (Rt.rxs t.l) := he
        have pt1 : t.P w1 := H.getD 0
        refine regex_proper.L5T_step _ _ _ _ _ (sel_true (decide_eq_true (by omega)) ⟨by omega, by omega, ?_⟩)
        refine Rt.at' pt1.parts.1 hg fun p hp c => ⟨_, _, _, _, c.c0, c.c1, c.c2, c.c3, H.newg fun b4 w2 H2 => H2.locg fun w3 H3 => H3.callg (ih a w3 (by omega) ((show t.P w3 from H3.getD 0).parts.2.get hg)) ?_⟩
        rintro _ w4 rfl H4
        refine ⟨_, rfl, sel_not (fun hf => ⟨?_, H4.fr⟩) (fun ht => ?_)⟩
        · rw [hb, ← he', hf]; rfl
        · rw [i64_next _ (by omega)]
          rw [ht, Bool.true_and] at he'
          exact ihd (i + 1) w4 (by omega) he' (H4.take 0)
    have er := Rt.rx_parts t
    have nz : ∀ x : UInt8, (((x.toNat : Nat) : Int) != 0) = (x != 0) := fun x => by
      by_cases hx : x = 0
      · subst hx; rfl
      · have h1 : (x != 0) = true := by simpa using hx
        rw [h1]
        have : x.toNat ≠ 0 := fun h0 => hx (UInt8.toNat_inj.1 (by simpa using h0))
        simp
        omega
    refine regex_proper.okT _ _ _ _ w _ ((lhT pt).newg fun b1 w1 H1 => ?_)
    have out : ∀ b : Bool, goodR t.rx = b → (Ending.returned (.bool b) = .returned (.bool (goodR t.rx)) ∧ Fr0 w w1) := fun b hb => ⟨by rw [hb], H1.fr⟩
    have s4 : goodR t.rx = goodL (Rt.rxs t.l) → regex_proper.S4T b1 t.k t.lo.toNat t.hi.toNat t.s w1 fun r w' => r = .returned (.bool (goodR t.rx)) ∧ Fr0 w w' := fun hb => loop true (by rw [hb]; rfl) rfl t.l.length 0 w1 (by omega) (by simp) (H1.take 0)
    -- behind the test of Lo and Hi
    have s1 : (t.k != 2 && (t.lo != 0 || t.hi != 0)) = false → regex_proper.S1T b1 t.k t.lo.toNat t.hi.toNat t.s w1 fun r w' => r = .returned (.bool (goodR t.rx)) ∧ Fr0 w w' := by
      intro h0
      have eg : goodR t.rx = (if t.k = 0 ∨ t.k = 1 then (Rt.rxs t.l).isEmpty else if t.k = 2 then (Rt.rxs t.l).isEmpty && decide (t.lo.toNat ≤ t.hi.toNat) else if t.k = 3 ∨ t.k = 4 ∨ t.k = 5 then goodL (Rt.rxs t.l) else if t.k = 6 ∨ t.k = 7 then (Rt.rxs t.l).length == 1 && goodL (Rt.rxs t.l) else false) := by
        rw [er]
        unfold goodR
        rw [h0]; rfl
      have s2 : t.k = 0 ∨ t.k = 1 → regex_proper.S2T b1 t.k t.lo.toNat t.hi.toNat t.s w1 fun r w' => r = .returned (.bool (goodR t.rx)) ∧ Fr0 w w' := fun hk => out _ (by rw [eg, if_pos hk, emp_len, nr])
      have s7 : t.k = 6 ∨ t.k = 7 → regex_proper.S7T b1 t.k t.lo.toNat t.hi.toNat t.s w1 fun r w' => r = .returned (.bool (goodR t.rx)) ∧ Fr0 w w' := fun hk => by
        have e7 : goodR t.rx = ((Rt.rxs t.l).length == 1 && goodL (Rt.rxs t.l)) := by rw [eg, if_neg (by omega), if_neg (by omega), if_neg (by omega), if_pos hk]
        have el : (Rt.rxs t.l).length = t.s.n := by rw [Rt.rxs_map]; simp [nr]
        refine sel_ne (fun h1 => out false ?_) (fun h1 => s4 ?_)
        · rw [e7, el]
          have : (t.s.n == 1) = false := by simp; omega
          rw [this]; rfl
        · rw [e7, el]
          have : (t.s.n == 1) = true := by simp; omega
          rw [this]; rfl
      have s6 : t.k ≠ 0 → t.k ≠ 1 → t.k ≠ 2 → t.k ≠ 3 → t.k ≠ 4 → t.k ≠ 5 → regex_proper.S6T b1 t.k t.lo.toNat t.hi.toNat t.s t.k w1 fun r w' => r = .returned (.bool (goodR t.rx)) ∧ Fr0 w w' := fun k0 k1 k2 k3 k4 k5 =>
        sel_eq (fun hk => sel_true (by simp [hk]) (s7 (.inl hk))) (fun k6 => sel_eq (fun hk => s7 (.inr hk)) (fun k7 => out false (by rw [eg, if_neg (by omega), if_neg (by omega), if_neg (by omega), if_neg (by omega)])))
      have e4 : t.k = 3 ∨ t.k = 4 ∨ t.k = 5 → goodR t.rx = goodL (Rt.rxs t.l) := fun hk => by rw [eg, if_neg (by omega), if_neg (by omega), if_pos hk]
      have s3 : t.k ≠ 0 → t.k ≠ 1 → regex_proper.S3T b1 t.k t.lo.toNat t.hi.toNat t.s t.k w1 fun r w' => r = .returned (.bool (goodR t.rx)) ∧ Fr0 w w' := fun k0 k1 =>
        sel_eq (fun hk => by
          have e2 : goodR t.rx = ((Rt.rxs t.l).isEmpty && decide (t.lo.toNat ≤ t.hi.toNat)) := by rw [eg, if_neg (by omega), if_pos hk]
          refine sel_intro (fun hn => out _ ?_) (fun hn => out false ?_)
          · rw [e2, emp_len, ← nr, hn, Bool.true_and]
            exact decide_eq_decide.2 (by omega)
          · rw [e2, emp_len, ← nr, hn]; rfl)
        (fun k2 => sel_eq (fun hk => sel_true (by simp [hk]) (s4 (e4 (.inl hk)))) (fun k3 => sel_eq (fun hk => sel_true (by simp [hk]) (s4 (e4 (.inr (.inl hk))))) (fun k4 => sel_eq (fun hk => s4 (e4 (.inr (.inr hk)))) (fun k5 => s6 k0 k1 k2 k3 k4 k5))))
      exact sel_eq (fun hk => sel_true (by simp [hk]) (s2 (.inl hk))) (fun k0 => sel_eq (fun hk => s2 (.inr hk)) (fun k1 => s3 k0 k1))
    have bad : (t.k != 2 && (t.lo != 0 || t.hi != 0)) = true → goodR t.rx = false := fun hb => by
      rw [er]
      unfold goodR
      rw [hb]; rfl
    refine sel_intro (fun h2 => sel_intro (fun hlo => out false (bad ?_)) (fun hlo => sel_intro (fun hhi => out false (bad ?_)) (fun hhi => s1 ?_))) (fun h2 => s1 ?_)
    · rw [h2, ← nz, hlo]; rfl
    · rw [h2, ← nz t.hi, hhi]; simp
    · rw [← nz, ← nz, hlo, hhi]; simp
    · rw [h2]; rfl
def validR (x : Rx) : Int := if 64 < x.sz then 4 else if goodR x then 0 else 1
theorem c_Valid (t : Rt) (w : World) (h : t.sz ≤ 1000000) (pt : t.P w) : Calls Tryz.prog n_regex_Valid #[t.v] w fun r w' => r = .returned (.int .i64 (validR t.rx)) ∧ Fr0 w w' := by
  refine regex_Valid.okT _ _ _ _ w _ ((lhT pt).newg fun b1 w1 H1 => H1.callg (c_tooLarge t w1 h (H1.getD 0)) ?_)
  rintro _ w2 rfl H2
  refine ⟨_, rfl, sel_dec (fun hl => ⟨?_, H2.fr⟩) (fun hl => H2.callg (c_properN 1000000 (Nat.le_refl _) t w2 h (H2.getD 0)) ?_)⟩
  · unfold validR; rw [Rt.rx_sz, if_pos hl]
  rintro _ w3 rfl H3
  refine ⟨_, rfl, sel_not (fun hg => ⟨?_, H3.fr⟩) (fun hg => ⟨?_, H3.fr⟩)⟩
  · unfold validR; rw [Rt.rx_sz, if_neg hl, hg]; rfl
  · unfold validR; rw [Rt.rx_sz, if_neg hl, hg]; rfl
/-! #### clone, limited -/
abbrev ClOk (n : Nat) : Prop := ∀ (t : Rt) (w : World), t.sz ≤ n → t.P w → Calls Tryz.prog n_regex_clone #[t.v] w fun r w' => RetT w t.rx r w' ∧ Fr0 w w'
theorem c_cloneN : ∀ n : Nat, n ≤ 1000000 → ClOk n
  | 0, _ => fun t w h _ => absurd h (by have := Rt.sz_pos t; omega)
  | n + 1, hn => fun t w h pt => by
    have ih := c_cloneN n (by omega)
    have hs := Rt.sz_parts t
    have hl := Rt.szs_len t.l
    have nr := Rt.rows_n pt.parts.1
    have loop : ∀ (d i : Nat) (ks : List Rt) (sl : Sl) (b1 b2 : Nat) (w1 : World), i + d = t.l.length → ks.length = i → Rt.rxs ks = Rt.rxs (t.l.take i) → (∀ b ∈ Rt.fps ks, w.heap.size ≤ b) → LH F0 w w1 [.g b1, .g b2, .row ty_regex_Regex 4 sl (ks.flatMap Rt.c)] [.tree t, .trees ks] →
        regex_clone.L0T b1 t.k t.lo.toNat t.hi.toNat t.s b2 0 0 0 ⟨none, 0, 0⟩ sl t.s ((t.s.n : Nat) : Int) (i : Int) w1 fun r w' => RetT w t.rx r w' ∧ Fr0 w w' := by
      intro d
      induction d with
      | zero =>
        intro i ks sl b1 b2 w1 hi hk he hf H
        refine regex_clone.L0T_step _ _ _ _ _ _ _ _ _ _ _ _ _ _ _ _ (sel_false (decide_eq_false (by omega)) (H.locg fun w2 H2 => ⟨⟨.mk t.k t.lo t.hi sl ks, rfl, ?_, ?_, fun b hb => ?_⟩, H2.fr⟩))
        · rw [Rt.rx_parts t]
          unfold Rt.rx
          rw [he, List.take_of_length_le (by omega)]
        · unfold Rt.P
          exact ⟨OwnRow.rdn (H2.get 2), H2.getD 1⟩
        · unfold Rt.fp at hb
          rcases List.mem_append.1 hb with hb | hb
          · exact (H2.new _ (List.mem_of_getElem? (i := 2) rfl) b (rdn_own hb)).resolve_right id
          · exact hf b hb
      | succ d ihd =>
        intro i ks sl b1 b2 w1 hi hk he hf H
        have hg : t.l[i]? = some (t.l[i]'(by omega)) := List.getElem?_eq_getElem (by omega)
        generalize t.l[i]'(by omega) = a at hg
        have sza := Rt.szs_mem (List.mem_of_getElem? hg)
        have pt1 : t.P w1 := H.getD 0
        refine regex_clone.L0T_step _ _ _ _ _ _ _ _ _ _ _ _ _ _ _ _ (sel_true (decide_eq_true (by omega)) ⟨by omega, by omega, ?_⟩)
        refine Rt.at' pt1.parts.1 hg fun p hp c => ⟨_, _, _, _, c.c0, c.c1, c.c2, c.c3, H.newg fun b5 w2 H2 => H2.locg fun w3 H3 => H3.callr (ih a w3 (by omega) ((show t.P w3 from H3.getD 0).parts.2.get hg)) ?_⟩
        rintro _ w4 ⟨u, rfl, hu, pu, fu⟩ _ F4
        have H4 := F4.rd (.tree u) pu fun b hb => fu b (mem_nub.1 hb)
        have hn' := Rt.rows_n (H4.get 2 : OwnRow _ _ _ _ _).rdn
        refine ⟨_, _, _, _, rfl, H4.ap1T 2 el_rx rfl (fun s' w5 H5 => ?_) (by omega)⟩
        have H6 := (H5.snocT 1 2).take 3
        rw [i64_next _ (by omega)]
        refine ihd (i + 1) (ks ++ [u]) s' b1 b2 w5 (by omega) (by simp [hk]) ?_ ?_ ?_
        · rw [rxs_app, he, List.take_add_one, hg, rxs_app]
          simp [Rt.rxs, hu]
        · intro b hb
          obtain ⟨t', ht, hb'⟩ := Rt.fps_iff.1 hb
          rcases List.mem_append.1 ht with ht | ht
          · exact hf b (Rt.fps_iff.2 ⟨t', ht, hb'⟩)
          · simp at ht
            rw [ht] at hb'
            exact Nat.le_trans H3.fr.size (fu b hb')
        · rw [cs_snoc]
          exact H6.forget _ (by simp)
    refine regex_clone.okT _ _ _ _ w _ ((lhT pt).newg fun b1 w1 H1 => H1.newg fun b2 w2 H2 => ?_)
    have H3 := H2.nilrow ty_regex_Regex 4
    have H4 := H3.addD (.trees []) (Fr.refl _ _) (by show Rt.Ps w2 []; unfold Rt.Ps; trivial) (fun b hb => by
      have := mem_nub.1 hb
      unfold Rt.fps at this
      cases this)
    exact loop t.l.length 0 [] ⟨none, 0, 0⟩ b1 b2 w2 (by omega) rfl rfl (fun b hb => by unfold Rt.fps at hb; cases hb) H4
theorem c_clone (t : Rt) (w : World) (h : t.sz ≤ 1000000) (pt : t.P w) : Calls Tryz.prog n_regex_clone #[t.v] w fun r w' => RetT w t.rx r w' ∧ Fr0 w w' := c_cloneN 1000000 (Nat.le_refl _) t w h pt
def noR : Rx := .mk 0 0 0 []
def limE (x : Rx) : Int := if 64 < x.sz then 4 else 0
def limR (x : Rx) : Rx := if 64 < x.sz then noR else x
def RetT2 (w : World) (x : Rx) (c : Int) (r : Ending) (w' : World) : Prop := ∃ t : Rt, r = .returned (.tuple #[t.v, .int .i64 c]) ∧ t.rx = x ∧ t.P w' ∧ ∀ b ∈ t.fp, w.heap.size ≤ b
theorem no_tree (w : World) : (Rt.mk 0 0 0 ⟨none, 0, 0⟩ []).P w := by
  unfold Rt.P Rt.Ps
  exact ⟨RdN.nil 4 w, trivial⟩
theorem no_fp {b : Nat} (h : b ∈ (Rt.mk 0 0 0 ⟨none, 0, 0⟩ []).fp) : False := by
  unfold Rt.fp Rt.fps at h
  simp [En.rdn] at h
theorem c_limited (t : Rt) (w : World) (h : t.sz ≤ 1000000) (pt : t.P w) : Calls Tryz.prog n_regex_limited #[t.v] w fun r w' => RetT2 w (limR t.rx) (limE t.rx) r w' ∧ Fr0 w w' := by
  refine regex_limited.okT _ _ _ _ w _ ((lhT pt).newg fun b1 w1 H1 => H1.newg fun b2 w2 H2 => H2.callg (c_tooLarge t w2 h (H2.getD 0)) ?_)
  rintro _ w3 rfl H3
  refine ⟨_, rfl, sel_dec (fun hl => H3.locg fun w4 H4 => ⟨⟨.mk 0 0 0 ⟨none, 0, 0⟩ [], ?_, ?_, no_tree _, fun b hb => (no_fp hb).elim⟩, H4.fr⟩) (fun hl => H3.callr (c_clone t w3 h (H3.getD 0)) ?_)⟩
  · unfold limE; rw [Rt.rx_sz, if_pos hl]; rfl
  · unfold limR; rw [Rt.rx_sz, if_pos hl]; rfl
  rintro _ w4 ⟨u, rfl, hu, pu, fu⟩ _ F4
  have H4 := F4.rd (.tree u) pu fun b hb => fu b (mem_nub.1 hb)
  refine ⟨_, _, _, _, rfl, H4.locg fun w5 H5 => ⟨⟨u, ?_, ?_, H5.getD 1, fun b hb => Nat.le_trans H3.fr.size (fu b hb)⟩, H5.fr⟩⟩
  · unfold limE; rw [Rt.rx_sz, if_neg hl]
  · unfold limR; rw [Rt.rx_sz, if_neg hl, hu]
end Go.Proofs.YtknlbofiicflgaaGreat

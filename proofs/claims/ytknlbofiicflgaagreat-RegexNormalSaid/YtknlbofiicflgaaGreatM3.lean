/- Package regex: spans, Match: the contracts. -/
import Derived.Test.YtknlbofiicflgaaGreatM1
import Derived.Test.YtknlbofiicflgaaGreatR13
namespace Go.Proofs.YtknlbofiicflgaaGreat
open Go Go.W

theorem starQ_congr {a b : Nat → Nat → Bool} {n : Nat} (h : ∀ i j, i ≤ j → j ≤ n → a i j = b i j) : ∀ (f i j : Nat), i ≤ j → j ≤ n → starQ a f i j = starQ b f i j
  | 0, i, j, _, _ => rfl
  | f + 1, i, j, hij, hj => by
    unfold starQ
    congr 1
    exact anyM_congr _ _ fun m h1 h2 => by rw [h i m (by omega) (by omega), starQ_congr h f m j (by omega) hj]
theorem starS_congr {a b : Nat → Nat → Bool} {n : Nat} (h : ∀ i j, i ≤ j → j ≤ n → a i j = b i j) {i j : Nat} (hij : i ≤ j) (hj : j ≤ n) : starS a i j = starS b i j := starQ_congr h _ i j hij hj
theorem meetQ_congr {a b a' b' : Nat → Nat → Bool} {n : Nat} (h : ∀ i j, i ≤ j → j ≤ n → a i j = a' i j) (h' : ∀ i j, i ≤ j → j ≤ n → b i j = b' i j) {i j : Nat} (hij : i ≤ j) (hj : j ≤ n) : meetQ a b i j = meetQ a' b' i j :=
  anyM_congr _ _ fun m h1 h2 => by rw [h i m (by omega) (by omega), h' m j (by omega) hj]
mutual
def spanQ (u : List UInt8) : Rx → Nat → Nat → Bool
  | .mk k lo hi l => if k = 0 then (fun _ _ => false) else if k = 1 then epsQ else if k = 2 then rngQ lo hi u else if k = 3 then catQ u epsQ l else if k = 4 ∨ k = 5 then altQ u (k == 5) (fun _ _ => k == 5) l else if k = 6 then (fun i j => !(hdQ u l i j)) else starS (hdQ u l)
def catQ (u : List UInt8) (t : Nat → Nat → Bool) : List Rx → Nat → Nat → Bool
  | [] => t
  | a :: l => catQ u (meetQ t (spanQ u a)) l
def altQ (u : List UInt8) (all : Bool) (t : Nat → Nat → Bool) : List Rx → Nat → Nat → Bool
  | [] => t
  | a :: l => altQ u all (bothQ all t (spanQ u a)) l
def hdQ (u : List UInt8) : List Rx → Nat → Nat → Bool
  | [] => fun _ _ => false
  | a :: _ => spanQ u a
end
theorem catQ_congr (u : List UInt8) {n : Nat} : ∀ (l : List Rx) {a b : Nat → Nat → Bool}, (∀ i j, i ≤ j → j ≤ n → a i j = b i j) → ∀ i j, i ≤ j → j ≤ n → catQ u a l i j = catQ u b l i j
  | [], a, b, h, i, j, hij, hj => h i j hij hj
  | x :: l, a, b, h, i, j, hij, hj => catQ_congr u l (a := meetQ a (spanQ u x)) (b := meetQ b (spanQ u x)) (fun _ _ h1 h2 => meetQ_congr h (fun _ _ _ _ => rfl) h1 h2) i j hij hj
theorem altQ_congr (u : List UInt8) (all : Bool) {n : Nat} : ∀ (l : List Rx) {a b : Nat → Nat → Bool}, (∀ i j, i ≤ j → j ≤ n → a i j = b i j) → ∀ i j, i ≤ j → j ≤ n → altQ u all a l i j = altQ u all b l i j
  | [], a, b, h, i, j, hij, hj => h i j hij hj
  | x :: l, a, b, h, i, j, hij, hj => altQ_congr u all l (a := bothQ all a (spanQ u x)) (b := bothQ all b (spanQ u x)) (fun i j h1 h2 => by unfold bothQ; rw [h i j h1 h2]) i j hij hj
theorem RetTab.to {w w' : World} {n : Nat} {p q : Nat → Nat → Bool} {r : Ending} (h : RetTab w n p r w') (e : ∀ i j, i ≤ j → j ≤ n → p i j = q i j) : RetTab w n q r w' := by
  obtain ⟨t, rs, G, h1, h2, h3, h4⟩ := h
  exact ⟨t, rs, G, h1, h2, h3, fun i j hi hj => by rw [h4 i j hi hj, e i j hi hj]⟩
theorem RetTab.from {w0 w w' : World} {n : Nat} {p : Nat → Nat → Bool} {r : Ending} (h : RetTab w n p r w') (hw : w0.heap.size ≤ w.heap.size) : RetTab w0 n p r w' := by
  obtain ⟨t, rs, G, h1, h2, h3, h4⟩ := h
  exact ⟨t, rs, G, h1, h2, fun b hb => Nat.le_trans hw (h3 b hb), h4⟩
theorem eps_beq (i j : Nat) : ((i : Int) == (j : Int)) = epsQ i j := by
  rw [Bool.eq_iff_iff]
  simp [epsQ]
  omega
section
variable {w : World}
theorem q_false (i j : Nat) : Calls Tryz.prog n_regex_spans_1 #[.i (i : Int), .i (j : Int)] w fun r w' => r = .returned (.bool false) ∧ Fr0 w w' := regex_spans_1.ok _ _ w _ ⟨rfl, Fr.refl _ _⟩
theorem q_eps (i j : Nat) : Calls Tryz.prog n_regex_spans_2 #[.i (i : Int), .i (j : Int)] w fun r w' => r = .returned (.bool (epsQ i j)) ∧ Fr0 w w' := regex_spans_2.ok _ _ w _ ⟨by rw [eps_beq], Fr.refl _ _⟩
theorem q_eps4 (i j : Nat) : Calls Tryz.prog n_regex_spans_4 #[.i (i : Int), .i (j : Int)] w fun r w' => r = .returned (.bool (epsQ i j)) ∧ Fr0 w w' := regex_spans_4.ok _ _ w _ ⟨by rw [eps_beq], Fr.refl _ _⟩
theorem q_rng {x : Rt} {br bs n : Nat} {s : ByteArray} (hs : s.size = n) (hn : n ≤ 1000) (H : LH F0 w w [] [.c br x.c ty_regex_Regex, .c bs [.string s] ty_string]) {i j : Nat} (hij : i ≤ j) (hj : j ≤ n) :
    Calls Tryz.prog n_regex_spans_3 #[.i (i : Int), .i (j : Int), .pointer (some (at0 br)), .pointer (some (at0 bs))] w fun r w' => r = .returned (.bool (rngQ x.lo x.hi (bl s) i j)) ∧ Fr0 w w' := by
  refine regex_spans_3.ok _ _ _ _ w _ (H.dr fun w1 H1 => ?_)
  have e : ((j : Int) == IntKind.wrap .i64 ((i : Int) + 1)) = (j == i + 1) := by
    rw [i64_next _ (by omega), Bool.eq_iff_iff]
    simp
    omega
  refine sel_intro (fun h => ?_) (fun h => ⟨?_, H1.fr⟩)
  · rw [e] at h
    have hji : j = i + 1 := by simpa using h
    have hlt : i < (bl s).length := by rw [bl_len]; omega
    have hg : s[i]? = some ((bl s)[i]) := by rw [bl_get rfl, List.getElem?_eq_getElem hlt]
    have er : rngQ x.lo x.hi (bl s) i j = (decide (x.lo.toNat ≤ ((bl s)[i]).toNat) && decide (((bl s)[i]).toNat ≤ x.hi.toNat)) := by
      unfold rngQ
      rw [h, Bool.true_and, List.getElem?_eq_getElem hlt]
    refine ⟨_, H1.ldD 0 1, s, H1.ldD0 1, by omega, (bl s)[i], hg, sel_dec (fun h1 => ⟨s, H1.ldD0 1, by omega, (bl s)[i], hg, _, H1.ldD 0 2, ?_, H1.fr⟩) (fun h1 => ⟨?_, H1.fr⟩)⟩
    · rw [er, decide_eq_true (show x.lo.toNat ≤ ((bl s)[i]).toNat by omega), Bool.true_and]
      congr 2
      exact decide_eq_decide.2 (by omega)
    · rw [er, decide_eq_false (show ¬ x.lo.toNat ≤ ((bl s)[i]).toNat by omega)]; rfl
  · rw [e] at h
    unfold rngQ
    rw [h]; rfl
theorem q_cat {a b : Sl} {ra rb : List Sl} {n ba bb : Nat} {A B : List (List Bool)} (hn : n ≤ 1000) (H : LH F0 w w [] [.c ba [a.v] ty_sl_sl_bool, .c bb [b.v] ty_sl_sl_bool, .tab a ra n (n + 1) A, .tab b rb n (n + 1) B]) {i j : Nat} (hij : i ≤ j) (hj : j ≤ n) :
    Calls Tryz.prog n_regex_spans_5 #[.i (i : Int), .i (j : Int), .pointer (some (at0 ba)), .pointer (some (at0 bb))] w fun r w' => r = .returned (.bool (meetQ (gAt A) (gAt B) i j)) ∧ Fr0 w w' := by
  refine regex_spans_5.ok _ _ _ _ w _ ⟨a, H.ldD0 0, b, H.ldD0 1, (c_meet w (H.getD 2) (H.getD 3) hn i j hij hj).mono ?_⟩
  rintro _ w1 ⟨rfl, f⟩
  exact ⟨_, rfl, rfl, f⟩
theorem q_all {ba : Nat} {all : Bool} (H : LH F0 w w [] [.c ba [.bool all] ty_bool]) {i j : Nat} : Calls Tryz.prog n_regex_spans_6 #[.i (i : Int), .i (j : Int), .pointer (some (at0 ba))] w fun r w' => r = .returned (.bool all) ∧ Fr0 w w' :=
  regex_spans_6.ok _ _ _ w _ ⟨all, H.ldD0 0, rfl, Fr.refl _ _⟩
theorem q_both {a b : Sl} {ra rb : List Sl} {n bl' ba bb : Nat} {all : Bool} {A B : List (List Bool)} (hn : n ≤ 1000) (H : LH F0 w w [] [.c bl' [.bool all] ty_bool, .c ba [a.v] ty_sl_sl_bool, .c bb [b.v] ty_sl_sl_bool, .tab a ra n (n + 1) A, .tab b rb n (n + 1) B]) {i j : Nat} (hij : i ≤ j) (hj : j ≤ n) :
    Calls Tryz.prog n_regex_spans_7 #[.i (i : Int), .i (j : Int), .pointer (some (at0 bl')), .pointer (some (at0 ba)), .pointer (some (at0 bb))] w fun r w' => r = .returned (.bool (bothQ all (gAt A) (gAt B) i j)) ∧ Fr0 w w' := by
  have hA : TbO w a ra n (n + 1) A := H.getD 3
  have hB : TbO w b rb n (n + 1) B := H.getD 4
  have e : ∀ x : Bool, bothQ all (gAt A) (gAt B) i j = x → (Ending.returned (.bool x) = .returned (.bool (bothQ all (gAt A) (gAt B) i j)) ∧ Fr0 w w) := fun x h => ⟨by rw [h], Fr.refl _ _⟩
  have or' : all = false → ∃ t28 : Bool, w.cell? (at0 bl') = some (.bool t28) ∧ sel (!t28) (∃ t31 : Sl, w.cell? (at0 ba) = some (t31.v) ∧
      (0 : Int) ≤ (i : Int) ∧ (i : Int) < ((t31.n : Nat) : Int) ∧ optP t31.a fun t33_p => ∃ t34 : Sl, w.cell? (t33_p.add (Int.toNat (i : Int) * 1)) = some (t34.v) ∧
      (0 : Int) ≤ (j : Int) ∧ (j : Int) < ((t34.n : Nat) : Int) ∧ optP t34.a fun t36_p => ∃ t37 : Bool, w.cell? (t36_p.add (Int.toNat (j : Int) * 1)) = some (.bool t37) ∧
      sel t37 ((fun (r : Ending) (w' : World) => r = .returned (.bool (bothQ all (gAt A) (gAt B) i j)) ∧ Fr0 w w') (.returned (.bool true)) w) (∃ t39 : Sl, w.cell? (at0 bb) = some (t39.v) ∧
      (0 : Int) ≤ (i : Int) ∧ (i : Int) < ((t39.n : Nat) : Int) ∧ optP t39.a fun t41_p => ∃ t42 : Sl, w.cell? (t41_p.add (Int.toNat (i : Int) * 1)) = some (t42.v) ∧
      (0 : Int) ≤ (j : Int) ∧ (j : Int) < ((t42.n : Nat) : Int) ∧ optP t42.a fun t44_p => ∃ t45 : Bool, w.cell? (t44_p.add (Int.toNat (j : Int) * 1)) = some (.bool t45) ∧
      (fun (r : Ending) (w' : World) => r = .returned (.bool (bothQ all (gAt A) (gAt B) i j)) ∧ Fr0 w w') (.returned (.bool t45)) w)) ((fun (r : Ending) (w' : World) => r = .returned (.bool (bothQ all (gAt A) (gAt B) i j)) ∧ Fr0 w w') (.returned (.bool false)) w) := fun h0 =>
    ⟨all, H.ldD0 0, sel_true (by rw [h0]; rfl) ⟨a, H.ldD0 1, tab_get hA (by omega) (by omega) hj rfl rfl (sel_intro (fun h1 => e true (by unfold bothQ; rw [h0, h1]; simp)) (fun h1 => ⟨b, H.ldD0 2, tab_get hB (by omega) (by omega) hj rfl rfl (e _ (by unfold bothQ; rw [h0, h1]; simp))⟩))⟩⟩
  have no : all = true → ∀ (x y : Prop), bothQ all (gAt A) (gAt B) i j = false → (∃ t28 : Bool, w.cell? (at0 bl') = some (.bool t28) ∧ sel (!t28) x ((fun (r : Ending) (w' : World) => r = .returned (.bool (bothQ all (gAt A) (gAt B) i j)) ∧ Fr0 w w') (.returned (.bool false)) w)) := fun h0 x y hb =>
    ⟨all, H.ldD0 0, sel_false (by rw [h0]; rfl) (e false hb)⟩
  refine regex_spans_7.ok _ _ _ _ _ w _ ⟨all, H.ldD0 0, sel_intro (fun h0 => ⟨a, H.ldD0 1, tab_get hA (by omega) (by omega) hj rfl rfl (sel_intro (fun h1 => ⟨b, H.ldD0 2, tab_get hB (by omega) (by omega) hj rfl rfl (sel_intro (fun h2 => e true (by unfold bothQ; rw [h0, h1, h2]; simp)) (fun h2 => no h0 _ True (by unfold bothQ; rw [h0, h1, h2]; simp)))⟩) (fun h1 => no h0 _ True (by unfold bothQ; rw [h0, h1]; simp)))⟩) (fun h0 => or' h0)⟩
theorem q_not {a : Sl} {ra : List Sl} {n ba : Nat} {A : List (List Bool)} (H : LH F0 w w [] [.c ba [a.v] ty_sl_sl_bool, .tab a ra n (n + 1) A]) {i j : Nat} (hij : i ≤ j) (hj : j ≤ n) :
    Calls Tryz.prog n_regex_spans_8 #[.i (i : Int), .i (j : Int), .pointer (some (at0 ba))] w fun r w' => r = .returned (.bool (!(gAt A i j))) ∧ Fr0 w w' :=
  regex_spans_8.ok _ _ _ w _ ⟨a, H.ldD0 0, tab_get (H.getD 1 : TbO _ _ _ _ _ _) (by omega) (by omega) hj rfl rfl ⟨rfl, Fr.refl _ _⟩⟩
end
theorem goodL_mem : ∀ {l : List Rx} {a : Rx}, goodL l = true → a ∈ l → goodR a = true
  | b :: l, a, h, ha => by
    have h' : (goodR b && goodL l) = true := h
    rw [Bool.and_eq_true] at h'
    rcases List.mem_cons.1 ha with rfl | ha
    · exact h'.1
    · exact goodL_mem h'.2 ha
theorem good_kids {x : Rt} (h : goodR x.rx = true) : (∀ a ∈ x.l, goodR a.rx = true) ∧ (x.k = 6 ∨ x.k = 7 → x.l.length = 1) ∧ 0 ≤ x.k ∧ x.k ≤ 7 := by
  rw [Rt.rx_parts] at h
  unfold goodR at h
  rw [Bool.and_eq_true] at h
  obtain ⟨_, h⟩ := h
  have out : goodL (Rt.rxs x.l) = true → ∀ a ∈ x.l, goodR a.rx = true := fun hg a ha => goodL_mem hg (by rw [Rt.rxs_map]; exact List.mem_map.2 ⟨a, ha, rfl⟩)
  have nil : (Rt.rxs x.l).isEmpty = true → ∀ a ∈ x.l, goodR a.rx = true := fun hg a ha => by
    rw [Rt.rxs_map] at hg
    simp at hg
    rw [hg] at ha
    cases ha
  by_cases k0 : x.k = 0 ∨ x.k = 1
  · rw [if_pos k0] at h
    exact ⟨nil h, by omega, by omega, by omega⟩
  rw [if_neg k0] at h
  by_cases k2 : x.k = 2
  · rw [if_pos k2, Bool.and_eq_true] at h
    exact ⟨nil h.1, by omega, by omega, by omega⟩
  rw [if_neg k2] at h
  by_cases k3 : x.k = 3 ∨ x.k = 4 ∨ x.k = 5
  · rw [if_pos k3] at h
    exact ⟨out h, by omega, by omega, by omega⟩
  rw [if_neg k3] at h
  by_cases k6 : x.k = 6 ∨ x.k = 7
  · rw [if_pos k6, Bool.and_eq_true] at h
    refine ⟨out h.2, fun _ => ?_, by omega, by omega⟩
    have := h.1
    rw [Rt.rxs_map, List.length_map] at this
    simpa using this
  · rw [if_neg k6] at h; cases h
abbrev SpOk (s : ByteArray) (m : Nat) : Prop := ∀ (x : Rt) (w : World), x.sz ≤ m → goodR x.rx = true → x.P w → Calls Tryz.prog n_regex_spans #[x.v, .string s] w fun r w' => RetTab w s.size (spanQ (bl s) x.rx) r w' ∧ Fr0 w w'
theorem c_spansN (s : ByteArray) (hs : s.size ≤ 1000) : ∀ m : Nat, m ≤ 1000000 → SpOk s m
  | 0, _ => fun x w h _ _ => absurd h (by have := Rt.sz_pos x; omega)
  | m + 1, hm => fun x w h hg px => by
    have ih := c_spansN s hs m (by omega)
    have hsz := Rt.sz_parts x
    have hl := Rt.szs_len x.l
    have nr := Rt.rows_n px.parts.1
    obtain ⟨gk, g1, gk0, gk7⟩ := good_kids hg
    have kid : ∀ a ∈ x.l, a.sz ≤ m ∧ goodR a.rx = true := fun a ha => ⟨by have := Rt.szs_mem ha; omega, gk a ha⟩
    have es : spanQ (bl s) x.rx = if x.k = 0 then (fun _ _ => false) else if x.k = 1 then epsQ else if x.k = 2 then rngQ x.lo x.hi (bl s) else if x.k = 3 then catQ (bl s) epsQ (Rt.rxs x.l) else if x.k = 4 ∨ x.k = 5 then altQ (bl s) (x.k == 5) (fun _ _ => x.k == 5) (Rt.rxs x.l) else if x.k = 6 then (fun i j => !(hdQ (bl s) (Rt.rxs x.l) i j)) else starS (hdQ (bl s) (Rt.rxs x.l)) := by
      rw [Rt.rx_parts]
      unfold spanQ
      rfl
    let R : Post := fun r w' => RetTab w s.size (spanQ (bl s) x.rx) r w' ∧ Fr0 w w'
    have drops : ∀ (i : Nat) (a : Rt), x.l[i]? = some a → Rt.rxs (x.l.drop i) = a.rx :: Rt.rxs (x.l.drop (i + 1)) := fun i a hg => by
      have hlt := (List.getElem?_eq_some_iff.1 hg).1
      rw [List.drop_eq_getElem_cons hlt, (List.getElem?_eq_some_iff.1 hg).2]
      rfl
    -- the parts of Cat
    have loop0 : x.k = 3 → ∀ (d i : Nat) (t : Sl) (rs : List Sl) (G : List (List Bool)) (br bs : Nat) (w1 : World), i + d = x.l.length → (∀ a b, a ≤ b → b ≤ s.size → catQ (bl s) (gAt G) (Rt.rxs (x.l.drop i)) a b = spanQ (bl s) x.rx a b) → (∀ b ∈ (En.tab t rs s.size (s.size + 1) G).fp, w.heap.size ≤ b) →
        LH F0 w w1 [.c br x.c ty_regex_Regex, .c bs [.string s] ty_string] [.tree x, .tab t rs s.size (s.size + 1) G] → regex_spans.L0 (at0 bs) t x.s ((x.s.n : Nat) : Int) (i : Int) w1 R := by
      intro hk d
      induction d with
      | zero =>
        intro i t rs G br bs w1 hi he hf H
        refine regex_spans.L0_step _ _ _ _ _ _ _ (sel_false (decide_eq_false (by omega)) ⟨⟨t, rs, G, rfl, H.getD 1, hf, fun a b h1 h2 => ?_⟩, H.fr⟩)
        have := he a b h1 h2
        rw [List.drop_of_length_le (by omega)] at this
        exact this
      | succ d ihd =>
        intro i t rs G br bs w1 hi he hf H
        have hg : x.l[i]? = some (x.l[i]'(by omega)) := List.getElem?_eq_getElem (by omega)
        generalize x.l[i]'(by omega) = a at hg
        have ma := List.mem_of_getElem? hg
        refine regex_spans.L0_step _ _ _ _ _ _ _ (sel_true (decide_eq_true (by omega)) (part_el (show x.P w1 from H.getD 0) rfl hg (H.nw fun w7 _ H7 => H7.st4 2 rfl fun w11 H11 => ⟨a.k, a.lo.toNat, a.hi.toNat, a.s, H11.ld 2 0, H11.ld 2 1, H11.ld 2 2, H11.ld 2 3, s, H11.ld0 1, ?_⟩)))
        refine H11.callq (ih a w11 (kid a ma).1 (kid a ma).2 ((show x.P w11 from H11.getD 0).parts.2.mem ma)) ?_
        rintro _ w12 ⟨u, rb, B, rfl, hB, fB, eB⟩ _ F12
        have H12 := F12.rd (.tab u rb s.size (s.size + 1) B) hB fB
        refine ⟨u, rfl, H12.nw fun w13 _ H13 => H13.nw fun w14 _ H14 => H14.st0 3 rfl fun w15 H15 => H15.st0 4 rfl fun w16 H16 => ⟨s, H16.ld0 1, ?_⟩⟩
        refine H16.callq (c_table s s.size rfl hs ⟨n_regex_spans_5, #[], #[.pointer (some (at0 w12.heap.size)), .pointer (some (at0 w13.heap.size))]⟩ (meetQ (gAt G) (gAt B)) [.c w12.heap.size [t.v] ty_sl_sl_bool, .c w13.heap.size [u.v] ty_sl_sl_bool, .tab t rs s.size (s.size + 1) G, .tab u rb s.size (s.size + 1) B] w16 (by
          intro e he
          simp only [List.mem_cons, List.not_mem_nil, or_false] at he
          rcases he with rfl | rfl | rfl | rfl
          · exact H16.get 3
          · exact H16.get 4
          · exact H16.getD 1
          · exact H16.getD 2) (by kernel_rfl) (fun w' i j hij hj H' => q_cat hs (lh0 _ H'.rd) hij hj)) ?_
        rintro _ w17 ⟨v, rv, V, rfl, hV, fV, eV⟩ _ F17
        have H17 := ((F17.rd (.tab v rv s.size (s.size + 1) V) hV fV).take 2).forget [.tree x, .tab v rv s.size (s.size + 1) V] (by simp)
        refine ⟨v, rfl, ?_⟩
        rw [i64_next _ (by omega)]
        refine ihd (i + 1) v rv V br bs w17 (by omega) (fun p q h1 h2 => ?_) (fun b hb => Nat.le_trans H16.fr.size (fV b hb)) H17
        rw [← he p q h1 h2, drops i a hg]
        refine catQ_congr (bl s) _ (fun i' j' h3 h4 => ?_) p q h1 h2
        rw [eV i' j' h3 h4]
        exact meetQ_congr (fun _ _ _ _ => rfl) eB h3 h4
    -- the parts of Alt and All
    have loop2 : (x.k = 4 ∨ x.k = 5) → ∀ (d i : Nat) (t : Sl) (rs : List Sl) (G : List (List Bool)) (br bs ba : Nat) (w1 : World), i + d = x.l.length → (∀ a b, a ≤ b → b ≤ s.size → altQ (bl s) (x.k == 5) (gAt G) (Rt.rxs (x.l.drop i)) a b = spanQ (bl s) x.rx a b) → (∀ b ∈ (En.tab t rs s.size (s.size + 1) G).fp, w.heap.size ≤ b) →
        LH F0 w w1 [.c br x.c ty_regex_Regex, .c bs [.string s] ty_string, .c ba [.bool (x.k == 5)] ty_bool] [.tree x, .tab t rs s.size (s.size + 1) G] → regex_spans.L2 (at0 bs) (at0 ba) t x.s ((x.s.n : Nat) : Int) (i : Int) w1 R := by
      intro hk d
      induction d with
      | zero =>
        intro i t rs G br bs ba w1 hi he hf H
        refine regex_spans.L2_step _ _ _ _ _ _ _ _ (sel_false (decide_eq_false (by omega)) ⟨⟨t, rs, G, rfl, H.getD 1, hf, fun a b h1 h2 => ?_⟩, H.fr⟩)
        have := he a b h1 h2
        rw [List.drop_of_length_le (by omega)] at this
        exact this
      | succ d ihd =>
        intro i t rs G br bs ba w1 hi he hf H
        have hg : x.l[i]? = some (x.l[i]'(by omega)) := List.getElem?_eq_getElem (by omega)
        generalize x.l[i]'(by omega) = a at hg
        have ma := List.mem_of_getElem? hg
        refine regex_spans.L2_step _ _ _ _ _ _ _ _ (sel_true (decide_eq_true (by omega)) (part_el (show x.P w1 from H.getD 0) rfl hg (H.nw fun w7 _ H7 => H7.st4 3 rfl fun w11 H11 => ⟨a.k, a.lo.toNat, a.hi.toNat, a.s, H11.ld 3 0, H11.ld 3 1, H11.ld 3 2, H11.ld 3 3, s, H11.ld0 1, ?_⟩)))
        refine H11.callq (ih a w11 (kid a ma).1 (kid a ma).2 ((show x.P w11 from H11.getD 0).parts.2.mem ma)) ?_
        rintro _ w12 ⟨u, rb, B, rfl, hB, fB, eB⟩ _ F12
        have H12 := F12.rd (.tab u rb s.size (s.size + 1) B) hB fB
        refine ⟨u, rfl, H12.nw fun w13 _ H13 => H13.nw fun w14 _ H14 => H14.st0 4 rfl fun w15 H15 => H15.st0 5 rfl fun w16 H16 => ⟨s, H16.ld0 1, ?_⟩⟩
        refine H16.callq (c_table s s.size rfl hs ⟨n_regex_spans_7, #[], #[.pointer (some (at0 ba)), .pointer (some (at0 w12.heap.size)), .pointer (some (at0 w13.heap.size))]⟩ (bothQ (x.k == 5) (gAt G) (gAt B)) [.c ba [.bool (x.k == 5)] ty_bool, .c w12.heap.size [t.v] ty_sl_sl_bool, .c w13.heap.size [u.v] ty_sl_sl_bool, .tab t rs s.size (s.size + 1) G, .tab u rb s.size (s.size + 1) B] w16 (by
          intro e he
          simp only [List.mem_cons, List.not_mem_nil, or_false] at he
          rcases he with rfl | rfl | rfl | rfl | rfl
          · exact H16.get 2
          · exact H16.get 4
          · exact H16.get 5
          · exact H16.getD 1
          · exact H16.getD 2) (by kernel_rfl) (fun w' i j hij hj H' => q_both hs (lh0 _ H'.rd) hij hj)) ?_
        rintro _ w17 ⟨v, rv, V, rfl, hV, fV, eV⟩ _ F17
        have H17 := ((F17.rd (.tab v rv s.size (s.size + 1) V) hV fV).take 3).forget [.tree x, .tab v rv s.size (s.size + 1) V] (by simp)
        refine ⟨v, rfl, ?_⟩
        rw [i64_next _ (by omega)]
        refine ihd (i + 1) v rv V br bs ba w17 (by omega) (fun p q h1 h2 => ?_) (fun b hb => Nat.le_trans H16.fr.size (fV b hb)) H17
        rw [← he p q h1 h2, drops i a hg]
        refine altQ_congr (bl s) _ _ (fun i' j' h3 h4 => ?_) p q h1 h2
        rw [eV i' j' h3 h4]
        unfold bothQ
        rw [eB i' j' h3 h4]
    have H0 : LH F0 w w [] [.tree x] := lhT px
    refine regex_spans.ok _ _ _ _ _ w _ (H0.nw fun w1 _ H1 => H1.nw fun w2 _ H2 => ⟨x.k, H2.ld 0 0, ?_⟩)
    have up : ∀ {r : Ending} {w' : World} {p : Nat → Nat → Bool}, (∀ i j, i ≤ j → j ≤ s.size → p i j = spanQ (bl s) x.rx i j) → RetTab w2 s.size p r w' → Fr0 w2 w' → R r w' := fun he hr f => ⟨(hr.to he).from H2.fr.size, H2.fr.tr0 f⟩
    have s1 : (x.k = 4 ∨ x.k = 5) → regex_spans.S1 (at0 w.heap.size) (at0 w1.heap.size) w2 R := fun hk => by
      refine ⟨x.k, H2.ld 0 0, H2.nw fun w3 _ H3 => H3.st0 2 rfl fun w4 H4 => ⟨s, H4.ld0 1, ?_⟩⟩
      refine H4.callq (c_table s s.size rfl hs ⟨n_regex_spans_6, #[], #[.pointer (some (at0 w2.heap.size))]⟩ (fun _ _ => x.k == 5) [.c w2.heap.size [.bool (x.k == 5)] ty_bool] w4 (by
        intro e he
        simp only [List.mem_cons, List.not_mem_nil, or_false] at he
        subst he
        exact H4.get 2) (by kernel_rfl) (fun w' i j _ _ H' => q_all (lh0 _ H'.rd))) ?_
      rintro _ w5 ⟨v, rv, V, rfl, hV, fV, eV⟩ _ F5
      have H5 := F5.rd (.tab v rv s.size (s.size + 1) V) hV fV
      refine ⟨v, rfl, x.s, H5.ld 0 3, loop2 hk x.l.length 0 v rv V _ _ _ w5 (by omega) (fun a b h1 h2 => ?_) (fun b hb => Nat.le_trans H4.fr.size (fV b hb)) H5⟩
      rw [es, if_neg (by omega), if_neg (by omega), if_neg (by omega), if_neg (by omega), if_pos hk, List.drop_zero]
      exact altQ_congr (bl s) _ _ eV a b h1 h2
    have s3 : x.k = 6 ∨ x.k = 7 → regex_spans.S3 (at0 w.heap.size) (at0 w1.heap.size) x.k w2 R := fun hk => by
      obtain ⟨a, ha⟩ := List.length_eq_one_iff.1 (g1 hk)
      have hga : x.l[0]? = some a := by rw [ha]; rfl
      have ma : a ∈ x.l := List.mem_of_getElem? hga
      have ehd : hdQ (bl s) (Rt.rxs x.l) = spanQ (bl s) a.rx := by rw [ha]; rfl
      refine sel_eq (fun k6 => H2.dr fun w3 H3 => ⟨x.s, H3.ld 0 3, ?_⟩) (fun k6 => H2.dr fun w3 H3 => ⟨x.s, H3.ld 0 3, ?_⟩)
      · have e6 : ∀ (A : List (List Bool)), (∀ i j, i ≤ j → j ≤ s.size → gAt A i j = spanQ (bl s) a.rx i j) → ∀ i j, i ≤ j → j ≤ s.size → (!(gAt A i j)) = spanQ (bl s) x.rx i j := fun A hA i j h1 h2 => by
          rw [es, if_neg (by omega), if_neg (by omega), if_neg (by omega), if_neg (by omega), if_neg (by omega), if_pos k6, ehd, hA i j h1 h2]
        have s4 : ∀ (u : Sl) (rb : List Sl) (B : List (List Bool)) (bb bs : Nat) (w7 : World) (L D : List En), (∀ i j, i ≤ j → j ≤ s.size → gAt B i j = spanQ (bl s) a.rx i j) → LH F0 w w7 L D → En.c bs [.string s] ty_string ∈ L → En.c bb [u.v] ty_sl_sl_bool ∈ L → En.tab u rb s.size (s.size + 1) B ∈ D → regex_spans.S4 (at0 bs) (at0 bb) w7 R := by
          intro u rb B bb bs w7 L D hB H7 m1 m2 m3
          obtain ⟨i1, hi1⟩ := List.mem_iff_getElem?.1 m1
          refine ⟨s, H7.ld0 i1 hi1, H7.callq (c_table s s.size rfl hs ⟨n_regex_spans_8, #[], #[.pointer (some (at0 bb))]⟩ (fun i j => !(gAt B i j)) [.c bb [u.v] ty_sl_sl_bool, .tab u rb s.size (s.size + 1) B] w7 (by
            intro e he
            simp only [List.mem_cons, List.not_mem_nil, or_false] at he
            rcases he with rfl | rfl
            · exact H7.own _ m2
            · exact H7.rd _ m3) (by kernel_rfl) (fun w' i j hij hj H' => q_not (lh0 _ H'.rd) hij hj)) ?_⟩
          rintro _ w8 ⟨v, rv, V, rfl, hV, fV, eV⟩ H8 _
          exact ⟨v, rfl, ⟨v, rv, V, rfl, hV, fun b hb => Nat.le_trans H7.fr.size (fV b hb), fun i j h1 h2 => (eV i j h1 h2).trans (e6 B hB i j h1 h2)⟩, H8.fr⟩
        have px3 : x.P w3 := H3.getD 0
        have hn : 0 < x.s.n := by rw [nr, ha]; simp
        refine ⟨by omega, by omega, Rt.at' px3.parts.1 hga fun p hp c => ⟨_, _, _, a.s, c.c0, c.c1, c.c2, c.c3, s, H3.ld0 1, ?_, ?_⟩⟩
        · refine H3.callq (ih a w3 (kid a ma).1 (kid a ma).2 (px3.parts.2.mem ma)) ?_
          rintro _ w4 ⟨u, rb, B, rfl, hB, fB, eB⟩ _ F4
          have H4 := F4.rd (.tab u rb s.size (s.size + 1) B) hB fB
          exact ⟨u, rfl, H4.nw fun w5 _ H5 => H5.st0 2 rfl fun w6 H6 => s4 u rb B _ _ w6 _ _ eB H6 (List.mem_of_getElem? (i := 1) rfl) (List.mem_of_getElem? (i := 2) rfl) (List.mem_of_getElem? (i := 1) rfl)⟩
        · refine H3.nw fun w5 _ H5 => ?_
          have px5 : x.P w5 := H5.getD 0
          have c5 := Rt.again px5.parts.1 hga hp
          refine ⟨H5.ld0 1, c5.c0, c5.c1, c5.c2, c5.c3, H5.ld 0 3, ?_⟩
          refine H5.callq (ih a w5 (kid a ma).1 (kid a ma).2 (px5.parts.2.mem ma)) ?_
          rintro _ w6 ⟨u, rb, B, rfl, hB, fB, eB⟩ _ F6
          have H6 := F6.rd (.tab u rb s.size (s.size + 1) B) hB fB
          exact ⟨u, rfl, H6.st0 2 rfl fun w7 H7 => s4 u rb B _ _ w7 _ _ eB H7 (List.mem_of_getElem? (i := 1) rfl) (List.mem_of_getElem? (i := 2) rfl) (List.mem_of_getElem? (i := 1) rfl)⟩
      · refine part_el (show x.P w3 from H3.getD 0) rfl hga ⟨s, H3.ld0 1, s, H3.ld0 1, ?_⟩
        refine H3.callq (ih a w3 (kid a ma).1 (kid a ma).2 ((show x.P w3 from H3.getD 0).parts.2.mem ma)) ?_
        rintro _ w4 ⟨u, rb, B, rfl, hB, fB, eB⟩ _ F4
        have H4 := F4.rd (.tab u rb s.size (s.size + 1) B) hB fB
        refine ⟨u, rfl, H4.ld0 1, H4.callq (c_repeated s rfl hs w4 (H4.getD 1)) ?_⟩
        rintro _ w5 ⟨v, rv, V, rfl, hV, fV, eV⟩ H5 _
        refine ⟨v, rfl, ⟨v, rv, V, rfl, hV, fun b hb => Nat.le_trans H4.fr.size (fV b hb), fun i j h1 h2 => ?_⟩, H5.fr⟩
        rw [eV i j h1 h2, es, if_neg (by omega), if_neg (by omega), if_neg (by omega), if_neg (by omega), if_neg (by omega), if_neg k6, ehd]
        exact starS_congr eB h1 h2
    refine sel_eq (fun k0 => ⟨s, H2.ld0 1, ?_⟩) (fun k0 => sel_eq (fun k1 => ⟨s, H2.ld0 1, ?_⟩) (fun k1 => sel_eq (fun k2 => ⟨s, H2.ld0 1, ?_⟩) (fun k2 => sel_eq (fun k3 => ⟨s, H2.ld0 1, ?_⟩) (fun k3 => sel_eq (fun k4 => sel_true (by simp [k4]) (s1 (.inl k4))) (fun k4 => sel_eq (fun k5 => s1 (.inr k5)) (fun k5 => s3 (by omega)))))))
    · refine (c_table s s.size rfl hs ⟨n_regex_spans_1, #[], #[]⟩ (fun _ _ => false) [] w2 (by simp) (by kernel_rfl) (fun w' i j _ _ _ => q_false i j)).mono ?_
      rintro _ w3 ⟨hr, f⟩
      obtain ⟨v, rv, V, rfl, rest⟩ := id hr
      exact ⟨v, rfl, up (fun i j _ _ => by rw [es, if_pos k0]) hr f⟩
    · refine (c_table s s.size rfl hs ⟨n_regex_spans_2, #[], #[]⟩ epsQ [] w2 (by simp) (by kernel_rfl) (fun w' i j _ _ _ => q_eps i j)).mono ?_
      rintro _ w3 ⟨hr, f⟩
      obtain ⟨v, rv, V, rfl, rest⟩ := id hr
      exact ⟨v, rfl, up (fun i j _ _ => by rw [es, if_neg k0, if_pos k1]) hr f⟩
    · refine (c_table s s.size rfl hs ⟨n_regex_spans_3, #[], #[.pointer (some (at0 w.heap.size)), .pointer (some (at0 w1.heap.size))]⟩ (rngQ x.lo x.hi (bl s)) [.c w.heap.size x.c ty_regex_Regex, .c w1.heap.size [.string s] ty_string] w2 H2.own (by kernel_rfl) (fun w' i j hij hj H' => q_rng rfl hs (lh0 _ H'.rd) hij hj)).mono ?_
      rintro _ w3 ⟨hr, f⟩
      obtain ⟨v, rv, V, rfl, rest⟩ := id hr
      exact ⟨v, rfl, up (fun i j _ _ => by rw [es, if_neg k0, if_neg k1, if_pos k2]) hr f⟩
    · refine H2.callq (c_table s s.size rfl hs ⟨n_regex_spans_4, #[], #[]⟩ epsQ [] w2 (by simp) (by kernel_rfl) (fun w' i j _ _ _ => q_eps4 i j)) ?_
      rintro _ w3 ⟨v, rv, V, rfl, hV, fV, eV⟩ _ F3
      have H3 := F3.rd (.tab v rv s.size (s.size + 1) V) hV fV
      refine ⟨v, rfl, x.s, H3.ld 0 3, loop0 k3 x.l.length 0 v rv V _ _ w3 (by omega) (fun a b h1 h2 => ?_) (fun b hb => Nat.le_trans H2.fr.size (fV b hb)) H3⟩
      rw [es, if_neg k0, if_neg k1, if_neg k2, if_pos k3, List.drop_zero]
      exact catQ_congr (bl s) _ eV a b h1 h2
theorem c_spans (s : ByteArray) (hs : s.size ≤ 1000) (x : Rt) (w : World) (h : x.sz ≤ 1000000) (hg : goodR x.rx = true) (px : x.P w) : Calls Tryz.prog n_regex_spans #[x.v, .string s] w fun r w' => RetTab w s.size (spanQ (bl s) x.rx) r w' ∧ Fr0 w w' :=
  c_spansN s hs 1000000 (Nat.le_refl _) x w h hg px
/-- Match, of a valid expression -/
theorem c_Match (s : ByteArray) (x : Rt) (w : World) (h : x.sz ≤ 64) (hg : goodR x.rx = true) (hs : s.size ≤ 64) (px : x.P w) : Calls Tryz.prog n_regex_Match #[x.v, .string s] w fun r w' => r = .returned (.tuple #[.bool (spanQ (bl s) x.rx 0 s.size), .int .i64 0]) ∧ Fr0 w w' := by
  have hv : validR x.rx = 0 := by
    unfold validR
    rw [Rt.rx_sz, if_neg (by omega), if_pos hg]
  refine regex_Match.okT _ _ _ _ _ w _ ((lhT px).newg fun b1 w1 H1 => H1.callg (c_Valid x w1 (by omega) (H1.getD 0)) ?_)
  rintro _ w2 rfl H2
  refine ⟨_, rfl, sel_ne (fun hne => absurd hv hne) (fun _ => sel_dec (fun hb => by omega) (fun _ => ?_))⟩
  refine H2.callr (c_spans s (by omega) x w2 (by omega) hg (H2.getD 0)) ?_
  rintro _ w3 ⟨v, rv, V, rfl, hV, fV, eV⟩ H3 _
  refine ⟨v, rfl, tab_get hV (i := 0) (j := s.size) (by omega) (by omega) (Nat.le_refl _) rfl rfl ⟨?_, H3.fr⟩⟩
  rw [eV 0 s.size (by omega) (Nat.le_refl _)]
end Go.Proofs.YtknlbofiicflgaaGreat

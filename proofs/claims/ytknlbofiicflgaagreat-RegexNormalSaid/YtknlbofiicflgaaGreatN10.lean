/- Package regex: normal, nullable: the contracts. -/
import Derived.Test.YtknlbofiicflgaaGreatN9
namespace Go.Proofs.YtknlbofiicflgaaGreat
open Go Go.W

section
variable {M : Nat → Prop} {w0 w : World} {L D : List En}
/-- appending one element, and something shown of the world between -/
theorem _root_.Go.W.LH.ap1A (H : LH M w0 w L D) (i : Nat) {P : Program} {t ty e : TypeId} {z : Value} {sz bytes : Nat} (el : ElemOk P t e z sz bytes) {T : TypeId} {s : Sl} {xs : List Value} {news : Array Value} {A : World → Prop} {K : Sl → World → Prop}
    (hi : L[i]? = some (.row e sz s xs)) (hA : ∀ w', LH M w0 w' L D → A w') (hK : ∀ s' w', LH M w0 w' (L.set i (.row e sz s' (xs ++ news.toList))) D → K s' w') (hb : (s.n + 1) * bytes ≤ 140737488355328) (hl : news.size = sz := by rfl) (h1 : ∀ u ∈ news.toList, u.oneCell' = true := by simp [Value.oneCell']) :
    nwV w (.cells news T) fun w1 => A w1 ∧ ∃ s' w', (Builtin.append_ #[t, t] ty #[s.v, .slice (some (Addr.mk w.heap.size 0 none)) 1 1]).run P w1 = .ok s'.v w' ∧ K s' w' :=
  ⟨hA _ (H.fr0 (Fr.alloc _ _ _)), H.ap1 i el hi (fun s' w' h _ _ => hK s' w' h) hb hl h1⟩
end
mutual
def normX : Rx → Rx | .mk k lo hi l => formX (.mk k lo hi (normXs l))
def normXs : List Rx → List Rx
  | [] => []
  | a :: l => normX a :: normXs l
end
def fewOk (N : Nat) : Rx → Bool | .mk k _ _ l => decide (k = 4 ∨ k = 5 → pcX k l ≤ N)
def okForm (N : Nat) (y : Rx) : Bool := formOk y && decide (y.sz ≤ 1000000) && fewOk N y
mutual
/-- all forms that are asked for are of at most N parts -/
def fitN (N : Nat) : Rx → Bool | .mk k lo hi l => fitNs N l && okForm N (.mk k lo hi (normXs l))
def fitNs (N : Nat) : List Rx → Bool
  | [] => true
  | a :: l => fitN N a && fitNs N l
end
theorem fitNs_mem {N : Nat} : ∀ {l : List Rx} {a : Rx}, fitNs N l = true → a ∈ l → fitN N a = true
  | b :: l, a, h, ha => by
    unfold fitNs at h
    rw [Bool.and_eq_true] at h
    rcases List.mem_cons.1 ha with rfl | ha
    · exact h.1
    · exact fitNs_mem h.2 ha
theorem normXs_map : ∀ l : List Rx, normXs l = l.map normX
  | [] => rfl
  | a :: l => by unfold normXs; rw [normXs_map l]; rfl
theorem no_trees {M : Nat → Prop} {w0 w : World} {L D : List En} (H : LH M w0 w L D) : LH M w0 w L (D ++ [.trees []]) :=
  H.addD (.trees []) (Fr.refl _ _) (by show Rt.Ps w []; unfold Rt.Ps; trivial) (fun b hb => by
    have := mem_nub.1 hb
    unfold Rt.fps at this
    cases this)
theorem fps_snoc {acc : List Rt} {t : Rt} {Q : Nat → Prop} (h : ∀ b ∈ Rt.fps acc, Q b) (ht : ∀ b ∈ t.fp, Q b) : ∀ b ∈ Rt.fps (acc ++ [t]), Q b := by
  intro b hb
  obtain ⟨u, hu, hb'⟩ := Rt.fps_iff.1 hb
  rcases List.mem_append.1 hu with hu | hu
  · exact h b (Rt.fps_iff.2 ⟨u, hu, hb'⟩)
  · simp at hu
    rw [hu] at hb'
    exact ht b hb'
abbrev NmOk (N : Nat) (F : Fm) (n : Nat) : Prop := ∀ (x : Rt) (w : World), x.sz ≤ n → fitN N x.rx = true → (En.fm F).P w → x.P w → Calls Tryz.prog n_regex_normal #[.map (some F.m), x.v] w fun r w' => RetF (x.fp ++ (En.fm F).fp) w (normX x.rx) r w' ∧ Fr0 w w'
theorem c_normalN {N : Nat} (hS : SortOk N) (hN : N + 1 ≤ 1000000) {F : Fm} (hF : F.Ok) : ∀ n : Nat, n ≤ 1000000 → NmOk N F n
  | 0, _ => fun x w h _ _ _ => absurd h (by have := Rt.sz_pos x; omega)
  | n + 1, hn => fun x w h hfit pF px => by
    have ih := c_normalN hS hN hF n (by omega)
    have hs := Rt.sz_parts x
    have hl := Rt.szs_len x.l
    have nr := Rt.rows_n px.parts.1
    have hfit' : fitNs N (Rt.rxs x.l) = true ∧ okForm N (.mk x.k x.lo x.hi (normXs (Rt.rxs x.l))) = true := by
      rw [Rt.rx_parts] at hfit
      unfold fitN at hfit
      rwa [Bool.and_eq_true] at hfit
    have hk8 : 0 ≤ x.k ∧ x.k < 8 := by
      have := hfit'.2
      unfold okForm formOk at this
      simp only [Bool.and_eq_true, decide_eq_true_eq] at this
      exact this.1.1.1
    have loop : ∀ (d i : Nat) (acc : List Rt) (sl : Sl) (br bt bn : Nat) (w1 : World), i + d = x.l.length → Rt.rxs acc = normXs (Rt.rxs (x.l.take i)) → (∀ b ∈ Rt.fps acc, w.heap.size ≤ b ∨ b ∈ x.fp ++ (En.fm F).fp) →
        LH F0 w w1 [.c br x.c ty_regex_Regex, .c bt [.int .i64 0, .int .u8 0, .int .u8 0, .slice none 0 0] ty_regex_Regex, .c bn [.int .i64 x.k, .int .u8 (x.lo.toNat : Int), .int .u8 (x.hi.toNat : Int), sl.v] ty_regex_Regex, .row ty_regex_Regex 4 sl (acc.flatMap Rt.c)] [.tree x, .fm F, .trees acc] →
        regex_normal.L0 (some F.m) (at0 br) (at0 bt) (at0 bn) x.s ((x.s.n : Nat) : Int) (i : Int) w1 fun r w' => RetF (x.fp ++ (En.fm F).fp) w (normX x.rx) r w' ∧ Fr0 w w' := by
      intro d
      induction d with
      | zero =>
        intro i acc sl br bt bn w1 hi he hf H
        rw [List.take_of_length_le (by omega)] at he
        obtain ⟨f, f1, f2, f3⟩ := c_entry hS (by omega) hF (H.getD 1) x.k hk8.1 hk8.2
        have hnew : ∀ b ∈ (Rt.row sl acc).fp, w.heap.size ≤ b := fun b hb => (H.new _ (List.mem_of_getElem? (i := 3) rfl) b (rdn_own hb)).resolve_right id
        have H' : LH F0 w w1 [.c br x.c ty_regex_Regex, .c bt [.int .i64 0, .int .u8 0, .int .u8 0, .slice none 0 0] ty_regex_Regex, .c bn [.int .i64 x.k, .int .u8 (x.lo.toNat : Int), .int .u8 (x.hi.toNat : Int), sl.v] ty_regex_Regex] [.tree x, .fm F, .trees acc, Rt.row sl acc, .tree (.mk x.k x.lo x.hi sl acc)] := H.rowT 3 2 x.k x.lo x.hi
        have px' : (Rt.mk x.k x.lo x.hi sl acc).P w1 := H'.getD 4
        have erx : (Rt.mk x.k x.lo x.hi sl acc).rx = .mk x.k x.lo x.hi (normXs (Rt.rxs x.l)) := by
          unfold Rt.rx
          rw [he]
        have hok := hfit'.2
        unfold okForm at hok
        simp only [Bool.and_eq_true, decide_eq_true_eq] at hok
        have hsz : (Rt.mk x.k x.lo x.hi sl acc).sz ≤ 1000000 := by
          have h1 := Rt.rx_sz (Rt.mk x.k x.lo x.hi sl acc)
          rw [erx] at h1
          rw [← h1]; exact hok.1.2
        have hfew : x.k = 4 ∨ x.k = 5 → pcX x.k (Rt.rxs acc) ≤ N := fun hk => by rw [he]; exact of_decide_eq_true hok.2 hk
        have enx : normX x.rx = formX (Rt.mk x.k x.lo x.hi sl acc).rx := by
          rw [erx, Rt.rx_parts]
          unfold normX
          rfl
        refine regex_normal.L0_step _ _ _ _ _ _ _ _ _ (sel_false (decide_eq_false (by omega)) ⟨x.k, H.ld 0 0, f, f1, _, _, _, sl, H.ld 2 0, H.ld 2 1, H.ld 2 2, H.ld 2 3, ?_⟩)
        rw [f2]
        refine (show AndT true _ from ?_)
        refine (f3 (.mk x.k x.lo x.hi sl acc) w1 (H.getD 1) px' rfl hfew hsz (by rw [erx]; exact hok.1.1)).mono ?_
        rintro _ w2 ⟨⟨t, rfl, ht, pt, ft⟩, f4⟩
        have H3 := H'.addD (.tree t) f4 pt (fun b hb => by
          rcases ft b (mem_nub.1 hb) with hb | hb
          · exact .inl hb
          · rcases List.mem_append.1 hb with hb | hb
            · exact .inr (.inr ⟨_, List.mem_of_getElem? (i := 4) rfl, mem_nub.2 hb⟩)
            · exact .inr (.inr ⟨_, List.mem_of_getElem? (i := 1) rfl, hb⟩))
        refine ⟨_, _, _, t.s, rfl, H3.st4 1 rfl fun w3 H4 => ⟨_, _, _, t.s, H4.ld 1 0, H4.ld 1 1, H4.ld 1 2, H4.ld 1 3, ⟨t, rfl, by rw [enx]; exact ht, H4.getD 5, fun b hb => ?_⟩, H4.fr⟩⟩
        rcases ft b hb with hb | hb
        · exact .inl (Nat.le_trans H.fr.size hb)
        · rcases List.mem_append.1 hb with hb | hb
          · unfold Rt.fp at hb
            rcases List.mem_append.1 hb with hb | hb
            · exact .inl (hnew b hb)
            · exact hf b hb
          · exact .inr (List.mem_append_right _ hb)
      | succ d ihd =>
        intro i acc sl br bt bn w1 hi he hf H
        have hg : x.l[i]? = some (x.l[i]'(by omega)) := List.getElem?_eq_getElem (by omega)
        generalize x.l[i]'(by omega) = a at hg
        have ma := List.mem_of_getElem? hg
        have sza := Rt.szs_mem ma
        have fa : fitN N a.rx = true := fitNs_mem hfit'.1 (by rw [Rt.rxs_map]; exact List.mem_map.2 ⟨a, ma, rfl⟩)
        have ffp : ∀ b ∈ a.fp, b ∈ x.fp := fun b hb => Rt.fp_parts.2 (.inr (Rt.fps_iff.2 ⟨a, ma, hb⟩))
        refine regex_normal.L0_step _ _ _ _ _ _ _ _ _ (sel_true (decide_eq_true (by omega)) (part_el (show x.P w1 from H.getD 0) rfl hg (H.nw fun w8 _ H8 => H8.st4 4 rfl fun w12 H12 => H12.dr fun w13 H13 => ⟨sl, H13.ld 2 3, a.k, a.lo.toNat, a.hi.toNat, a.s, H13.ld 4 0, H13.ld 4 1, H13.ld 4 2, H13.ld 4 3, ?_⟩)))
        refine (ih a w13 (by omega) fa (H13.getD 1) ((show x.P w13 from H13.getD 0).parts.2.mem ma)).mono ?_
        rintro _ w14 ⟨⟨t, rfl, ht, pt, ft⟩, f4⟩
        have H14 := H13.addD (.tree t) f4 pt (fun b hb => by
          rcases ft b (mem_nub.1 hb) with hb | hb
          · exact .inl hb
          · rcases List.mem_append.1 hb with hb | hb
            · exact .inr (.inr ⟨_, List.mem_of_getElem? (i := 0) rfl, mem_nub.2 (ffp b hb)⟩)
            · exact .inr (.inr ⟨_, List.mem_of_getElem? (i := 1) rfl, hb⟩))
        have lacc : acc.length = i := by
          have h1 := congrArg List.length he
          rw [Rt.rxs_map, normXs_map, Rt.rxs_map] at h1
          simp only [List.length_map, List.length_take] at h1
          omega
        have nrow := Rt.rows_n (H14.get 3 : OwnRow _ _ _ _ _).rdn
        refine ⟨_, _, _, t.s, rfl, H14.ld 2 3, H14.ap1A 3 el_rx (xs := acc.flatMap Rt.c) rfl (fun w' H' => H'.ld 2 3) (fun s' w16 H16 => H16.st 2 3 rfl fun w17 H17 => ?_) (by omega)⟩
        rw [i64_next _ (by omega)]
        have H18 := (H17.snocT 2 3).take 4
        refine ihd (i + 1) (acc ++ [t]) s' br bt bn w17 (by omega) ?_ (fps_snoc hf fun b hb => ?_) ?_
        · rw [rxs_app, he, List.take_add_one, hg, Option.toList_some, rxs_app, normXs_map, normXs_map, List.map_append]
          show _ ++ [t.rx] = _
          rw [ht]; rfl
        · rcases ft b hb with hb | hb
          · exact .inl (Nat.le_trans H13.fr.size hb)
          · rcases List.mem_append.1 hb with hb | hb
            · exact .inr (List.mem_append_left _ (ffp b hb))
            · exact .inr (List.mem_append_right _ hb)
        · rw [cs_snoc]
          exact H18.forget _ (by simp)
    refine regex_normal.ok _ _ _ _ _ w _ ((lh0 [.tree x, .fm F] (by
      intro e he
      simp only [List.mem_cons, List.not_mem_nil, or_false] at he
      rcases he with rfl | rfl
      · exact px
      · exact pF)).nw fun w1 _ H1 => H1.nw fun w2 _ H2 => ⟨x.k, H2.ld 0 0, x.lo.toNat, H2.ld 0 1, x.hi.toNat, H2.ld 0 2, H2.nw fun w3 _ H3 => H3.st4 2 rfl fun w7 H7 => ⟨x.s, H7.ld 0 3, ?_⟩⟩)
    exact loop x.l.length 0 [] ⟨none, 0, 0⟩ _ _ _ w7 (by omega) rfl (fun b hb => by unfold Rt.fps at hb; cases hb) (no_trees (H7.nilrow ty_regex_Regex 4))
theorem c_normal {N : Nat} (hS : SortOk N) (hN : N + 1 ≤ 1000000) {F : Fm} (hF : F.Ok) (x : Rt) (w : World) (h : x.sz ≤ 1000000) (hfit : fitN N x.rx = true) (pF : (En.fm F).P w) (px : x.P w) : Calls Tryz.prog n_regex_normal #[.map (some F.m), x.v] w fun r w' => RetF (x.fp ++ (En.fm F).fp) w (normX x.rx) r w' ∧ Fr0 w w' :=
  c_normalN hS hN hF 1000000 (Nat.le_refl _) x w h hfit pF px
/-! #### nullable -/
mutual
def nullX : Rx → Bool | .mk k _ _ l => if k = 1 ∨ k = 7 then true else if k = 3 ∨ k = 5 then nullAll l else if k = 4 then nullAny l else if k = 6 then !(nullHd l) else false
def nullAll : List Rx → Bool
  | [] => true
  | a :: l => nullX a && nullAll l
def nullAny : List Rx → Bool
  | [] => false
  | a :: l => nullX a || nullAny l
def nullHd : List Rx → Bool
  | [] => false
  | a :: _ => nullX a
end
theorem nullAny_any : ∀ l : List Rx, nullAny l = l.any nullX
  | [] => rfl
  | a :: l => by unfold nullAny; rw [nullAny_any l]; rfl
mutual
/-- a Not has a part -/
def notOk : Rx → Bool | .mk k _ _ l => !(k == 6 && l.isEmpty) && notOks l
def notOks : List Rx → Bool
  | [] => true
  | a :: l => notOk a && notOks l
end
theorem notOks_mem : ∀ {l : List Rx} {a : Rx}, notOks l = true → a ∈ l → notOk a = true
  | b :: l, a, h, ha => by
    unfold notOks at h
    rw [Bool.and_eq_true] at h
    rcases List.mem_cons.1 ha with rfl | ha
    · exact h.1
    · exact notOks_mem h.2 ha
abbrev NlOk (n : Nat) : Prop := ∀ (x : Rt) (w : World), x.sz ≤ n → notOk x.rx = true → x.P w → Calls Tryz.prog n_regex_nullable #[x.v] w fun r w' => r = .returned (.bool (nullX x.rx)) ∧ Fr0 w w'
theorem c_nullableN : ∀ n : Nat, n ≤ 1000000 → NlOk n
  | 0, _ => fun x w h _ _ => absurd h (by have := Rt.sz_pos x; omega)
  | n + 1, hn => fun x w h hok px => by
    have ih := c_nullableN n (by omega)
    have hs := Rt.sz_parts x
    have hl := Rt.szs_len x.l
    have nr := Rt.rows_n px.parts.1
    have hok' : (x.k == 6 && (Rt.rxs x.l).isEmpty) = false ∧ notOks (Rt.rxs x.l) = true := by
      rw [Rt.rx_parts] at hok
      unfold notOk at hok
      rw [Bool.and_eq_true, Bool.not_eq_true'] at hok
      exact hok
    have hkid : ∀ a ∈ x.l, a.sz ≤ n ∧ notOk a.rx = true := fun a ha => ⟨by have := Rt.szs_mem ha; omega, notOks_mem hok'.2 (by rw [Rt.rxs_map]; exact List.mem_map.2 ⟨a, ha, rfl⟩)⟩
    have en : nullX x.rx = if x.k = 1 ∨ x.k = 7 then true else if x.k = 3 ∨ x.k = 5 then nullAll (Rt.rxs x.l) else if x.k = 4 then nullAny (Rt.rxs x.l) else if x.k = 6 then !(nullHd (Rt.rxs x.l)) else false := by
      rw [Rt.rx_parts]
      unfold nullX
      rfl
    -- all parts
    have loop : nullX x.rx = nullAll (Rt.rxs x.l) → ∀ (d i : Nat) (w1 : World), i + d = x.l.length → nullAll (Rt.rxs (x.l.drop i)) = nullAll (Rt.rxs x.l) → LH F0 w w1 [] [.tree x] → regex_nullable.L3T x.s ((x.s.n : Nat) : Int) (i : Int) w1 fun r w' => r = .returned (.bool (nullX x.rx)) ∧ Fr0 w w' := by
      intro hx d
      induction d with
      | zero =>
        intro i w1 hi he H
        rw [List.drop_of_length_le (by omega)] at he
        refine regex_nullable.L3T_step _ _ _ _ _ (sel_false (decide_eq_false (by omega)) ⟨?_, H.fr⟩)
        rw [hx, ← he]; rfl
      | succ d ihd =>
        intro i w1 hi he H
        have hg : x.l[i]? = some (x.l[i]'(by omega)) := List.getElem?_eq_getElem (by omega)
        rw [List.drop_eq_getElem_cons (by omega)] at he
        generalize x.l[i]'(by omega) = a at hg he
        have ma := List.mem_of_getElem? hg
        have he' : (nullX a.rx && nullAll (Rt.rxs (x.l.drop (i + 1)))) = nullAll (Rt.rxs x.l) := he
        refine regex_nullable.L3T_step _ _ _ _ _ (sel_true (decide_eq_true (by omega)) (part_el (show x.P w1 from H.getD 0) rfl hg (H.newg fun b4 w2 H2 => H2.locg fun w3 H3 => ?_)))
        refine H3.callg (ih a w3 (hkid a ma).1 (hkid a ma).2 ((show x.P w3 from H3.getD 0).parts.2.mem ma)) ?_
        rintro _ w4 rfl H4
        refine ⟨_, rfl, sel_not (fun hf => ⟨?_, H4.fr⟩) (fun ht => ?_)⟩
        · rw [hx, ← he', hf]; rfl
        · rw [i64_next _ (by omega)]
          rw [ht, Bool.true_and] at he'
          exact ihd (i + 1) w4 (by omega) he' (H4.take 0)
    refine regex_nullable.okT _ _ _ _ w _ ((lhT px).newg fun b1 w1 H1 => ?_)
    have s2 : x.k = 3 ∨ x.k = 5 → regex_nullable.S2T b1 x.k x.lo.toNat x.hi.toNat x.s w1 fun r w' => r = .returned (.bool (nullX x.rx)) ∧ Fr0 w w' := fun hk =>
      loop (by rw [en, if_neg (by omega), if_pos hk]) x.l.length 0 w1 (by omega) (by simp) (H1.take 0)
    have s4 : x.k ≠ 1 → x.k ≠ 7 → x.k ≠ 3 → x.k ≠ 5 → regex_nullable.S4T b1 x.k x.lo.toNat x.hi.toNat x.s x.k w1 fun r w' => r = .returned (.bool (nullX x.rx)) ∧ Fr0 w w' := by
      intro k1 k7 k3 k5
      refine sel_eq (fun k4 => ?_) (fun k4 => sel_eq (fun k6 => ?_) (fun k6 => ⟨?_, H1.fr⟩))
      · refine H1.callg (c_ContainsFunc x.s x.l ⟨n_regex_nullable, #[], #[]⟩ (fun t => nullX t.rx) [.trees x.l] w1 (by omega) (show x.P w1 from H1.getD 0).parts.1 (by
          intro e he
          simp only [List.mem_cons, List.not_mem_nil, or_false] at he
          subst he
          exact (show x.P w1 from H1.getD 0).parts.2) (by kernel_rfl) (fun w' t ht H' => ih t w' (hkid t ht).1 (hkid t ht).2 ((show Rt.Ps w' x.l from H'.getD 1).mem ht))) ?_
        rintro _ w2 rfl H2
        refine ⟨_, rfl, ?_, H2.fr⟩
        rw [en, if_neg (by omega), if_neg (by omega), if_pos k4, nullAny_any, Rt.rxs_map, List.any_map]
        rfl
      · cases hxl : x.l with
        | nil =>
          have := hok'.1
          rw [hxl, k6] at this
          simp [Rt.rxs] at this
        | cons c l' =>
          have hg : x.l[0]? = some c := by rw [hxl]; rfl
          have mc : c ∈ x.l := List.mem_of_getElem? hg
          refine part_el (show x.P w1 from H1.getD 0) rfl hg ?_
          refine H1.callg (ih c w1 (hkid c mc).1 (hkid c mc).2 ((show x.P w1 from H1.getD 0).parts.2.mem mc)) ?_
          rintro _ w2 rfl H2
          refine ⟨_, rfl, ?_, H2.fr⟩
          rw [en, if_neg (by omega), if_neg (by omega), if_neg (by omega), if_pos k6, hxl]
          show _ = Ending.returned (.bool (!(nullHd (c.rx :: Rt.rxs l'))))
          unfold nullHd
          rfl
      · rw [en, if_neg (by omega), if_neg (by omega), if_neg (by omega), if_neg (by omega)]
    have s1 : x.k ≠ 1 → x.k ≠ 7 → regex_nullable.S1T b1 x.k x.lo.toNat x.hi.toNat x.s x.k w1 fun r w' => r = .returned (.bool (nullX x.rx)) ∧ Fr0 w w' := fun k1 k7 =>
      sel_eq (fun k3 => sel_true (by simp [k3]) (s2 (.inl k3))) (fun k3 => sel_eq (fun k5 => s2 (.inr k5)) (fun k5 => s4 k1 k7 k3 k5))
    have yes : x.k = 1 ∨ x.k = 7 → regex_nullable.S0T w1 fun r w' => r = .returned (.bool (nullX x.rx)) ∧ Fr0 w w' := fun hk => ⟨by rw [en, if_pos hk], H1.fr⟩
    exact sel_eq (fun k1 => sel_true (by simp [k1]) (yes (.inl k1))) (fun k1 => sel_eq (fun k7 => yes (.inr k7)) (fun k7 => s1 k1 k7))
theorem c_nullable (x : Rt) (w : World) (h : x.sz ≤ 1000000) (hok : notOk x.rx = true) (px : x.P w) : Calls Tryz.prog n_regex_nullable #[x.v] w fun r w' => r = .returned (.bool (nullX x.rx)) ∧ Fr0 w w' := c_nullableN 1000000 (Nat.le_refl _) x w h hok px
end Go.Proofs.YtknlbofiicflgaaGreat

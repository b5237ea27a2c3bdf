/- Package regex: derive, Derive: the contracts. -/
import Derived.Test.YtknlbofiicflgaaGreatN10
namespace Go.Proofs.YtknlbofiicflgaaGreat
open Go Go.W

section
variable {M : Nat → Prop} {w0 w : World} {L D : List En} {bs : List Nat}
/-- a call that returns a tree, of which parts may be old -/
theorem _root_.Go.W.LH.callt (H : LH M w0 w L D) {P : Program} {g : FuncId} {args : Array Value} {K : Post} {old : List Nat} {x : Rx} (hc : Calls P g args w fun r w' => RetF old w x r w' ∧ Fr0 w w') (hold : ∀ b ∈ old, ∃ g ∈ D, b ∈ g.fp)
    (hk : ∀ (t : Rt) (w' : World), t.rx = x → LH M w0 w' L (D ++ [.tree t]) → (∀ b ∈ t.fp, w.heap.size ≤ b ∨ b ∈ old) → K (.returned t.v) w') : callF bs P g args w K :=
  callF0 (hc.mono fun r w' ⟨⟨t, h1, h2, h3, h4⟩, f⟩ => ⟨f, by
    subst h1
    exact hk t w' h2 (H.addD (.tree t) f h3 fun b hb => (h4 b (mem_nub.1 hb)).imp id fun h => .inr (hold b h)) h4⟩)
end
mutual
def derX (c : UInt8) : Rx → Rx
  | .mk k lo hi l => if k = 2 then (if lo.toNat ≤ c.toNat ∧ c.toNat ≤ hi.toNat then emptyX else noR) else if k = 3 then formX (.mk 4 0 0 (derCat c l)) else if k = 4 ∨ k = 5 ∨ k = 6 then formX (.mk k 0 0 (derXs c l)) else if k = 7 then formX (.mk 3 0 0 [derHd c l, .mk k lo hi l]) else noR
def derXs (c : UInt8) : List Rx → List Rx
  | [] => []
  | a :: l => derX c a :: derXs c l
def derHd (c : UInt8) : List Rx → Rx
  | [] => noR
  | a :: _ => derX c a
def derCat (c : UInt8) : List Rx → List Rx
  | [] => []
  | a :: l => formX (.mk 3 0 0 (derX c a :: l)) :: (if nullX a then derCat c l else [])
end
mutual
/-- all forms that are asked for are of at most N parts -/
def fitD (N : Nat) (c : UInt8) : Rx → Bool
  | .mk k lo hi l => if k = 2 then true else if k = 3 then fitCat N c l && okForm N (.mk 4 0 0 (derCat c l)) else if k = 4 ∨ k = 5 ∨ k = 6 then fitDs N c l && okForm N (.mk k 0 0 (derXs c l)) else if k = 7 then !l.isEmpty && fitHd N c l && okForm N (.mk 3 0 0 [derHd c l, .mk k lo hi l]) else true
def fitDs (N : Nat) (c : UInt8) : List Rx → Bool
  | [] => true
  | a :: l => fitD N c a && fitDs N c l
def fitHd (N : Nat) (c : UInt8) : List Rx → Bool
  | [] => true
  | a :: _ => fitD N c a
def fitCat (N : Nat) (c : UInt8) : List Rx → Bool
  | [] => true
  | a :: l => fitD N c a && okForm N (.mk 3 0 0 (derX c a :: l)) && notOk a && (!(nullX a) || fitCat N c l)
end
theorem fitDs_mem {N : Nat} {c : UInt8} : ∀ {l : List Rx} {a : Rx}, fitDs N c l = true → a ∈ l → fitD N c a = true
  | b :: l, a, h, ha => by
    unfold fitDs at h
    rw [Bool.and_eq_true] at h
    rcases List.mem_cons.1 ha with rfl | ha
    · exact h.1
    · exact fitDs_mem h.2 ha
theorem derXs_map (c : UInt8) : ∀ l : List Rx, derXs c l = l.map (derX c)
  | [] => rfl
  | a :: l => by unfold derXs; rw [derXs_map c l]; rfl
/-- what is allowed to be handed out -/
abbrev oldD (F : Fm) (x : Rt) : List Nat := x.fp ++ (En.fm F).fp
section
variable {w w1 : World} {F : Fm} {x : Rt}
/-- a form, of a list of parts in a row of one's own -/
theorem c_last {N : Nat} (hS : SortOk N) (hN : N + 1 ≤ 1000000) (hF : F.Ok) (k : Int) (y : Rx) (sl : Sl) (acc : List Rt) (br bt bd : Nat) (vt : List Value) (ht4 : ∃ a0 a1 a2 a3, vt = [a0, a1, a2, a3]) (hk : 0 ≤ k ∧ k < 8) (hok : okForm N (.mk k 0 0 (Rt.rxs acc)) = true) (hy : formX (.mk k 0 0 (Rt.rxs acc)) = y) (hf : ∀ b ∈ Rt.fps acc, w.heap.size ≤ b ∨ b ∈ oldD F x)
    (H : LH F0 w w1 [.c br x.c ty_regex_Regex, .c bt vt ty_regex_Regex, .c bd [.int .i64 k, .int .u8 0, .int .u8 0, sl.v] ty_regex_Regex, .row ty_regex_Regex 4 sl (acc.flatMap Rt.c)] [.tree x, .fm F, .trees acc]) :
    regex_derive.S2 (some F.m) (at0 bt) (at0 bd) w1 fun r w' => RetF (oldD F x) w y r w' ∧ Fr0 w w' := by
  obtain ⟨f, f1, f2, f3⟩ := c_entry hS (by omega) hF (H.getD 1) k hk.1 hk.2
  have hnew : ∀ b ∈ (Rt.row sl acc).fp, w.heap.size ≤ b := fun b hb => (H.new _ (List.mem_of_getElem? (i := 3) rfl) b (rdn_own hb)).resolve_right id
  have H' : LH F0 w w1 [.c br x.c ty_regex_Regex, .c bt vt ty_regex_Regex, .c bd [.int .i64 k, .int .u8 0, .int .u8 0, sl.v] ty_regex_Regex] [.tree x, .fm F, .trees acc, Rt.row sl acc, .tree (.mk k 0 0 sl acc)] := H.rowT 3 2 k 0 0
  have px' : (Rt.mk k 0 0 sl acc).P w1 := H'.getD 4
  have erx : (Rt.mk k 0 0 sl acc).rx = .mk k 0 0 (Rt.rxs acc) := rfl
  unfold okForm at hok
  simp only [Bool.and_eq_true, decide_eq_true_eq] at hok
  have hsz : (Rt.mk k 0 0 sl acc).sz ≤ 1000000 := by
    have h1 := Rt.rx_sz (Rt.mk k 0 0 sl acc)
    rw [erx] at h1
    rw [← h1]; exact hok.1.2
  obtain ⟨a0, a1, a2, a3, rfl⟩ := ht4
  refine ⟨k, H.ld 2 0, f, f1, k, 0, 0, sl, H.ld 2 0, H.ld 2 1, H.ld 2 2, H.ld 2 3, ?_⟩
  rw [f2]
  refine (show AndT true _ from ?_)
  refine (f3 (.mk k 0 0 sl acc) w1 (H.getD 1) px' rfl (of_decide_eq_true hok.2) hsz hok.1.1).mono ?_
  rintro _ w2 ⟨⟨t, rfl, ht, pt, ft⟩, f4⟩
  have H3 := H'.addD (.tree t) f4 pt (fun b hb => by
    rcases ft b (mem_nub.1 hb) with hb | hb
    · exact .inl hb
    · rcases List.mem_append.1 hb with hb | hb
      · exact .inr (.inr ⟨_, List.mem_of_getElem? (i := 4) rfl, mem_nub.2 hb⟩)
      · exact .inr (.inr ⟨_, List.mem_of_getElem? (i := 1) rfl, hb⟩))
  refine ⟨_, _, _, t.s, rfl, H3.st4 1 rfl fun w3 H4 => ⟨_, _, _, t.s, H4.ld 1 0, H4.ld 1 1, H4.ld 1 2, H4.ld 1 3, ⟨t, rfl, by rw [ht, erx, hy], H4.getD 5, fun b hb => ?_⟩, H4.fr⟩⟩
  rcases ft b hb with hb | hb
  · exact .inl (Nat.le_trans H.fr.size hb)
  · rcases List.mem_append.1 hb with hb | hb
    · unfold Rt.fp at hb
      rcases List.mem_append.1 hb with hb | hb
      · exact .inl (hnew b hb)
      · exact hf b hb
    · exact .inr (List.mem_append_right _ hb)
/-- nothing, or the empty string -/
theorem c_leaf (u : Rt) (y : Rx) (hu : u.rx = y) (hl : u.s = ⟨none, 0, 0⟩) (hP : ∀ w, u.P w) (hfp : ∀ b, ¬ b ∈ u.fp) (L : List En) (D : List En) (bt : Nat) (a0 a1 a2 a3 : Value) (hi : L[1]? = some (.c bt [a0, a1, a2, a3] ty_regex_Regex)) (H : LH F0 w w1 L D) :
    stV w1 (at0 bt) (.i u.k) fun w1 => stV w1 ((at0 bt).add 1) (.int .u8 (u.lo.toNat : Int)) fun w2 => stV w2 ((at0 bt).add 2) (.int .u8 (u.hi.toNat : Int)) fun w3 => stV w3 ((at0 bt).add 3) (.slice none 0 0) fun w4 =>
      ∃ r6_0 : Int, ∃ r6_1 : Int, ∃ r6_2 : Int, ∃ r6_3 : Sl, w4.cell? ((at0 bt).add 0) = some (.i r6_0) ∧ w4.cell? ((at0 bt).add 1) = some (.int .u8 r6_1) ∧ w4.cell? ((at0 bt).add 2) = some (.int .u8 r6_2) ∧ w4.cell? ((at0 bt).add 3) = some (r6_3.v) ∧
      (fun (r : Ending) (w' : World) => RetF (oldD F x) w y r w' ∧ Fr0 w w') (.returned (.agg #[.i r6_0, .int .u8 r6_1, .int .u8 r6_2, r6_3.v])) w4 := by
  have hlt := (List.getElem?_eq_some_iff.1 hi).1
  refine H.st4 1 hi fun w3 H4 => ?_
  have hget : (L.set 1 (.c bt [.i u.k, .int .u8 (u.lo.toNat : Int), .int .u8 (u.hi.toNat : Int), .slice none 0 0] ty_regex_Regex))[1]? = some (.c bt [.i u.k, .int .u8 (u.lo.toNat : Int), .int .u8 (u.hi.toNat : Int), .slice none 0 0] ty_regex_Regex) := by rw [List.getElem?_set_self hlt]
  exact ⟨_, _, _, ⟨none, 0, 0⟩, H4.ld 1 0 hget, H4.ld 1 1 hget, H4.ld 1 2 hget, H4.ld 1 3 hget, ⟨u, by rw [← hl], hu, hP _, fun b hb => (hfp b hb).elim⟩, H4.fr⟩
end
abbrev DvOk (N : Nat) (F : Fm) (c : UInt8) (n : Nat) : Prop := ∀ (x : Rt) (w : World), x.sz ≤ n → fitD N c x.rx = true → (En.fm F).P w → x.P w → Calls Tryz.prog n_regex_derive #[.map (some F.m), x.v, .int .u8 (c.toNat : Int)] w fun r w' => RetF (oldD F x) w (derX c x.rx) r w' ∧ Fr0 w w'
theorem c_deriveN {N : Nat} (hS : SortOk N) (hN : N + 1 ≤ 1000000) {F : Fm} (hF : F.Ok) (c : UInt8) : ∀ n : Nat, n ≤ 1000000 → DvOk N F c n
  | 0, _ => fun x w h _ _ _ => absurd h (by have := Rt.sz_pos x; omega)
  | n + 1, hn => fun x w h hfit pF px => by
    have ih := c_deriveN hS hN hF c n (by omega)
    have hs := Rt.sz_parts x
    have hl := Rt.szs_len x.l
    have nr := Rt.rows_n px.parts.1
    have ed : derX c x.rx = if x.k = 2 then (if x.lo.toNat ≤ c.toNat ∧ c.toNat ≤ x.hi.toNat then emptyX else noR) else if x.k = 3 then formX (.mk 4 0 0 (derCat c (Rt.rxs x.l))) else if x.k = 4 ∨ x.k = 5 ∨ x.k = 6 then formX (.mk x.k 0 0 (derXs c (Rt.rxs x.l))) else if x.k = 7 then formX (.mk 3 0 0 [derHd c (Rt.rxs x.l), .mk x.k x.lo x.hi (Rt.rxs x.l)]) else noR := by
      rw [Rt.rx_parts]
      unfold derX
      rfl
    have ef : fitD N c x.rx = if x.k = 2 then true else if x.k = 3 then fitCat N c (Rt.rxs x.l) && okForm N (.mk 4 0 0 (derCat c (Rt.rxs x.l))) else if x.k = 4 ∨ x.k = 5 ∨ x.k = 6 then fitDs N c (Rt.rxs x.l) && okForm N (.mk x.k 0 0 (derXs c (Rt.rxs x.l))) else if x.k = 7 then !(Rt.rxs x.l).isEmpty && fitHd N c (Rt.rxs x.l) && okForm N (.mk 3 0 0 [derHd c (Rt.rxs x.l), .mk x.k x.lo x.hi (Rt.rxs x.l)]) else true := by
      rw [Rt.rx_parts]
      unfold fitD
      rfl
    rw [ef] at hfit
    let R : Post := fun r w' => RetF (oldD F x) w (derX c x.rx) r w' ∧ Fr0 w w'
    have z4 : ∃ a0 a1 a2 a3, [Value.int .i64 0, .int .u8 0, .int .u8 0, .slice none 0 0] = [a0, a1, a2, a3] := ⟨_, _, _, _, rfl⟩
    have ffp : ∀ a ∈ x.l, ∀ b ∈ a.fp, b ∈ x.fp := fun a ma b hb => Rt.fp_parts.2 (.inr (Rt.fps_iff.2 ⟨a, ma, hb⟩))
    have old : ∀ (w' : World) (a t : Rt), a ∈ x.l → w.heap.size ≤ w'.heap.size → (∀ b ∈ t.fp, w'.heap.size ≤ b ∨ b ∈ oldD F a) → ∀ b ∈ t.fp, w.heap.size ≤ b ∨ b ∈ oldD F x := fun w' a t ma hw ft b hb => by
      rcases ft b hb with hb | hb
      · exact .inl (Nat.le_trans hw hb)
      · rcases List.mem_append.1 hb with hb | hb
        · exact .inr (List.mem_append_left _ (ffp a ma b hb))
        · exact .inr (List.mem_append_right _ hb)
    -- the parts of Alt, All and Not
    have loop4 : (x.k = 4 ∨ x.k = 5 ∨ x.k = 6) → ∀ (d i : Nat) (acc : List Rt) (sl : Sl) (br bt bd : Nat) (w1 : World), i + d = x.l.length → Rt.rxs acc = derXs c (Rt.rxs (x.l.take i)) → (∀ b ∈ Rt.fps acc, w.heap.size ≤ b ∨ b ∈ oldD F x) →
        LH F0 w w1 [.c br x.c ty_regex_Regex, .c bt [.int .i64 0, .int .u8 0, .int .u8 0, .slice none 0 0] ty_regex_Regex, .c bd [.int .i64 x.k, .int .u8 0, .int .u8 0, sl.v] ty_regex_Regex, .row ty_regex_Regex 4 sl (acc.flatMap Rt.c)] [.tree x, .fm F, .trees acc] →
        regex_derive.L4 (some F.m) (c.toNat : Int) (at0 bt) (at0 bd) x.s ((x.s.n : Nat) : Int) (i : Int) w1 R := by
      intro hk d
      rw [if_neg (by omega), if_neg (by omega), if_pos hk, Bool.and_eq_true] at hfit
      rw [if_neg (by omega), if_neg (by omega), if_pos hk] at ed
      induction d with
      | zero =>
        intro i acc sl br bt bd w1 hi he hf H
        rw [List.take_of_length_le (by omega)] at he
        exact regex_derive.L4_step _ _ _ _ _ _ _ _ _ (sel_false (decide_eq_false (by omega)) (c_last hS hN hF x.k (derX c x.rx) sl acc br bt bd _ z4 (by omega) (by rw [he]; exact hfit.2) (by rw [he, ed]) hf H))
      | succ d ihd =>
        intro i acc sl br bt bd w1 hi he hf H
        have hg : x.l[i]? = some (x.l[i]'(by omega)) := List.getElem?_eq_getElem (by omega)
        generalize x.l[i]'(by omega) = a at hg
        have ma := List.mem_of_getElem? hg
        have sza := Rt.szs_mem ma
        have fa : fitD N c a.rx = true := fitDs_mem hfit.1 (by rw [Rt.rxs_map]; exact List.mem_map.2 ⟨a, ma, rfl⟩)
        refine regex_derive.L4_step _ _ _ _ _ _ _ _ _ (sel_true (decide_eq_true (by omega)) (part_el (show x.P w1 from H.getD 0) rfl hg (H.nw fun w8 _ H8 => H8.st4 4 rfl fun w12 H12 => H12.dr fun w13 H13 => ⟨sl, H13.ld 2 3, a.k, a.lo.toNat, a.hi.toNat, a.s, H13.ld 4 0, H13.ld 4 1, H13.ld 4 2, H13.ld 4 3, ?_⟩)))
        refine (ih a w13 (by omega) fa (H13.getD 1) ((show x.P w13 from H13.getD 0).parts.2.mem ma)).mono ?_
        rintro _ w14 ⟨⟨t, rfl, ht, pt, ft⟩, f4⟩
        have H14 := H13.addD (.tree t) f4 pt (fun b hb => by
          rcases ft b (mem_nub.1 hb) with hb | hb
          · exact .inl hb
          · rcases List.mem_append.1 hb with hb | hb
            · exact .inr (.inr ⟨_, List.mem_of_getElem? (i := 0) rfl, mem_nub.2 (ffp a ma b hb)⟩)
            · exact .inr (.inr ⟨_, List.mem_of_getElem? (i := 1) rfl, hb⟩))
        have lacc : acc.length = i := by
          have h1 := congrArg List.length he
          rw [Rt.rxs_map, derXs_map, Rt.rxs_map] at h1
          simp only [List.length_map, List.length_take] at h1
          omega
        have nrow := Rt.rows_n (H14.get 3 : OwnRow _ _ _ _ _).rdn
        refine ⟨_, _, _, t.s, rfl, H14.ld 2 3, H14.ap1A 3 el_rx (xs := acc.flatMap Rt.c) rfl (fun w' H' => H'.ld 2 3) (fun s' w16 H16 => H16.st 2 3 rfl fun w17 H17 => ?_) (by omega)⟩
        rw [i64_next _ (by omega)]
        have H18 := (H17.snocT 2 3).take 4
        refine ihd (i + 1) (acc ++ [t]) s' br bt bd w17 (by omega) ?_ (fps_snoc hf (old _ a t ma H13.fr.size ft)) ?_
        · rw [rxs_app, he, List.take_add_one, hg, Option.toList_some, rxs_app, derXs_map, derXs_map, List.map_append]
          show _ ++ [t.rx] = _
          rw [ht]; rfl
        · rw [cs_snoc]
          exact H18.forget _ (by simp)
    -- the parts of Cat
    have loop1 : x.k = 3 → ∀ (d i : Nat) (acc : List Rt) (sl : Sl) (br bt bd : Nat) (w1 : World), i + d = x.l.length → Rt.rxs acc ++ derCat c (Rt.rxs (x.l.drop i)) = derCat c (Rt.rxs x.l) → fitCat N c (Rt.rxs (x.l.drop i)) = true → acc.length ≤ i → (∀ b ∈ Rt.fps acc, w.heap.size ≤ b ∨ b ∈ oldD F x) →
        LH F0 w w1 [.c br x.c ty_regex_Regex, .c bt [.int .i64 0, .int .u8 0, .int .u8 0, .slice none 0 0] ty_regex_Regex, .c bd [.int .i64 4, .int .u8 0, .int .u8 0, sl.v] ty_regex_Regex, .row ty_regex_Regex 4 sl (acc.flatMap Rt.c)] [.tree x, .fm F, .trees acc] →
        regex_derive.L1 (some F.m) (c.toNat : Int) (at0 br) (at0 bt) (at0 bd) x.s ((x.s.n : Nat) : Int) (i : Int) w1 R := by
      intro hk d
      rw [if_neg (by omega), if_pos hk, Bool.and_eq_true] at hfit
      rw [if_neg (by omega), if_pos hk] at ed
      have fin : ∀ (acc : List Rt) (sl : Sl) (br bt bd : Nat) (w1 : World), Rt.rxs acc = derCat c (Rt.rxs x.l) → (∀ b ∈ Rt.fps acc, w.heap.size ≤ b ∨ b ∈ oldD F x) →
          LH F0 w w1 [.c br x.c ty_regex_Regex, .c bt [.int .i64 0, .int .u8 0, .int .u8 0, .slice none 0 0] ty_regex_Regex, .c bd [.int .i64 4, .int .u8 0, .int .u8 0, sl.v] ty_regex_Regex, .row ty_regex_Regex 4 sl (acc.flatMap Rt.c)] [.tree x, .fm F, .trees acc] → regex_derive.S2 (some F.m) (at0 bt) (at0 bd) w1 R :=
        fun acc sl br bt bd w1 he hf H => c_last hS hN hF 4 (derX c x.rx) sl acc br bt bd _ z4 (by omega) (by rw [he]; exact hfit.2) (by rw [he, ed]) hf H
      induction d with
      | zero =>
        intro i acc sl br bt bd w1 hi he hft hai hf H
        rw [List.drop_of_length_le (by omega)] at he
        refine regex_derive.L1_step _ _ _ _ _ _ _ _ _ _ (sel_false (decide_eq_false (by omega)) (fin acc sl br bt bd w1 ?_ hf H))
        rw [← he]
        show _ = _ ++ derCat c []
        unfold derCat
        rw [List.append_nil]
      | succ d ihd =>
        intro i acc sl br bt bd w1 hi he hft hai hf H
        have hg : x.l[i]? = some (x.l[i]'(by omega)) := List.getElem?_eq_getElem (by omega)
        rw [List.drop_eq_getElem_cons (by omega)] at he hft
        generalize x.l[i]'(by omega) = a at hg he hft
        have ma := List.mem_of_getElem? hg
        have sza := Rt.szs_mem ma
        have e1 : Rt.rxs (a :: x.l.drop (i + 1)) = a.rx :: Rt.rxs (x.l.drop (i + 1)) := rfl
        have e2 : derCat c (a.rx :: Rt.rxs (x.l.drop (i + 1))) = formX (.mk 3 0 0 (derX c a.rx :: Rt.rxs (x.l.drop (i + 1)))) :: (if nullX a.rx then derCat c (Rt.rxs (x.l.drop (i + 1))) else []) := rfl
        have e3 : fitCat N c (a.rx :: Rt.rxs (x.l.drop (i + 1))) = (fitD N c a.rx && okForm N (.mk 3 0 0 (derX c a.rx :: Rt.rxs (x.l.drop (i + 1)))) && notOk a.rx && (!(nullX a.rx) || fitCat N c (Rt.rxs (x.l.drop (i + 1))))) := rfl
        rw [e1] at he hft
        rw [e2] at he
        rw [e3] at hft
        simp only [Bool.and_eq_true] at hft
        obtain ⟨⟨⟨fa, fok⟩, fnot⟩, fnext⟩ := hft
        have ei : IntKind.wrap .i64 ((i : Int) + 1) = ((i + 1 : Nat) : Int) := i64_next _ (by omega)
        refine regex_derive.L1_step _ _ _ _ _ _ _ _ _ _ (sel_true (decide_eq_true (by omega)) (part_el (show x.P w1 from H.getD 0) rfl hg (H.nw fun w8 _ H8 => H8.st4 4 rfl fun w12 H12 => H12.dr fun w13 H13 => ⟨a.k, a.lo.toNat, a.hi.toNat, a.s, H13.ld 4 0, H13.ld 4 1, H13.ld 4 2, H13.ld 4 3, x.s, H13.ld 0 3, ?_⟩)))
        rw [ei]
        refine ⟨by omega, by omega, ?_⟩
        refine (ih a w13 (by omega) fa (H13.getD 1) ((show x.P w13 from H13.getD 0).parts.2.mem ma)).mono ?_
        rintro _ w14 ⟨⟨t, rfl, ht, pt, ft⟩, f4⟩
        have H14 := H13.addD (.tree t) f4 pt (fun b hb => by
          rcases ft b (mem_nub.1 hb) with hb | hb
          · exact .inl hb
          · rcases List.mem_append.1 hb with hb | hb
            · exact .inr (.inr ⟨_, List.mem_of_getElem? (i := 0) rfl, mem_nub.2 (ffp a ma b hb)⟩)
            · exact .inr (.inr ⟨_, List.mem_of_getElem? (i := 1) rfl, hb⟩))
        refine ⟨_, _, _, t.s, rfl, H14.ld 0 3, H14.nwrow (n := 1) (sz := 4) (cs := t.c) rfl (by decide) fun w15 H15 => ⟨H15.ld 0 3, ?_⟩⟩
        -- the part, and what follows it
        have hsub := ((show x.P w15 from H15.getD 0).parts.1).sub (i + 1) x.s.n (by omega) (Nat.le_refl _)
        rw [List.take_of_length_le (by rw [Rt.cs_len]; omega), drop_flat _ _ (by omega)] at hsub
        refine H15.ap 5 el_rx (s := ⟨some (at0 w14.heap.size), 1, 1⟩) (src := subN 4 x.s (i + 1) x.s.n) (xs := t.c) (news := (x.l.drop (i + 1)).flatMap Rt.c) rfl hsub.2.2 hsub.1 (c_one _) (by show (1 + (x.s.n - (i + 1))) * 40 ≤ _; omega) (fun s2 w16 H16 _ _ => H16.dr fun w17 H17 => ?_)
        have ers : t.c ++ (x.l.drop (i + 1)).flatMap Rt.c = (t :: x.l.drop (i + 1)).flatMap Rt.c := rfl
        have H17' : LH F0 w w17 [.c br x.c ty_regex_Regex, .c bt [.int .i64 0, .int .u8 0, .int .u8 0, .slice none 0 0] ty_regex_Regex, .c bd [.int .i64 4, .int .u8 0, .int .u8 0, sl.v] ty_regex_Regex, .row ty_regex_Regex 4 sl (acc.flatMap Rt.c), .c w1.heap.size a.c ty_regex_Regex, .row ty_regex_Regex 4 s2 ((t :: x.l.drop (i + 1)).flatMap Rt.c)] [.tree x, .fm F, .trees acc, .tree t] := by
          rw [← ers]; exact H17
        -- as a tree
        have H18 := H17'.addD (.trees (t :: x.l.drop (i + 1))) (Fr.refl _ _) (Rt.ps_of fun u hu => by
          rcases List.mem_cons.1 hu with rfl | hu
          · exact H17'.getD 3
          · exact (show x.P w17 from H17'.getD 0).parts.2.mem (List.mem_of_mem_drop hu)) (fun b hb => by
          obtain ⟨u, hu, hb'⟩ := Rt.fps_iff.1 (mem_nub.1 hb)
          rcases List.mem_cons.1 hu with rfl | hu
          · exact .inr (.inr ⟨_, List.mem_of_getElem? (i := 3) rfl, mem_nub.2 hb'⟩)
          · exact .inr (.inr ⟨_, List.mem_of_getElem? (i := 0) rfl, mem_nub.2 (ffp u (List.mem_of_mem_drop hu) b hb')⟩))
        have hnew : ∀ b ∈ (Rt.row s2 (t :: x.l.drop (i + 1))).fp, w.heap.size ≤ b := fun b hb => (H18.new _ (List.mem_of_getElem? (i := 5) rfl) b (rdn_own hb)).resolve_right id
        have H19 : LH F0 w w17 [.c br x.c ty_regex_Regex, .c bt [.int .i64 0, .int .u8 0, .int .u8 0, .slice none 0 0] ty_regex_Regex, .c bd [.int .i64 4, .int .u8 0, .int .u8 0, sl.v] ty_regex_Regex, .row ty_regex_Regex 4 sl (acc.flatMap Rt.c), .c w1.heap.size a.c ty_regex_Regex] [.tree x, .fm F, .trees acc, .tree t, .trees (t :: x.l.drop (i + 1)), Rt.row s2 (t :: x.l.drop (i + 1)), .tree (.mk 3 0 0 s2 (t :: x.l.drop (i + 1)))] := H18.rowT 5 4 3 0 0
        obtain ⟨f, f1, f2, f3⟩ := c_entry hS (by omega) hF (H19.getD 1) 3 (by omega) (by omega)
        have erx : (Rt.mk 3 0 0 s2 (t :: x.l.drop (i + 1))).rx = .mk 3 0 0 (derX c a.rx :: Rt.rxs (x.l.drop (i + 1))) := by
          show Rx.mk 3 0 0 (t.rx :: Rt.rxs (x.l.drop (i + 1))) = _
          rw [ht]
        unfold okForm at fok
        simp only [Bool.and_eq_true, decide_eq_true_eq] at fok
        have hsz : (Rt.mk 3 0 0 s2 (t :: x.l.drop (i + 1))).sz ≤ 1000000 := by
          have h1 := Rt.rx_sz (Rt.mk 3 0 0 s2 (t :: x.l.drop (i + 1)))
          rw [erx] at h1
          rw [← h1]; exact fok.1.2
        refine ⟨sl, H19.ld 2 3, f, f1, ?_⟩
        rw [f2]
        refine (show AndT true _ from ?_)
        refine (f3 (.mk 3 0 0 s2 (t :: x.l.drop (i + 1))) w17 (H19.getD 1) (H19.getD 6) rfl (fun hk => absurd (show (3 : Int) = 4 ∨ (3 : Int) = 5 from hk) (by decide)) hsz (by rw [erx]; exact fok.1.1)).mono ?_
        rintro _ w18 ⟨⟨u, rfl, hu, pu, fu⟩, f5⟩
        have H20 := H19.addD (.tree u) f5 pu (fun b hb => by
          rcases fu b (mem_nub.1 hb) with hb | hb
          · exact .inl hb
          · rcases List.mem_append.1 hb with hb | hb
            · exact .inr (.inr ⟨_, List.mem_of_getElem? (i := 6) rfl, mem_nub.2 hb⟩)
            · exact .inr (.inr ⟨_, List.mem_of_getElem? (i := 1) rfl, hb⟩))
        have nrow := Rt.rows_n (H20.get 3 : OwnRow _ _ _ _ _).rdn
        refine ⟨_, _, _, u.s, rfl, H20.ld 2 3, H20.ap1A 3 el_rx (xs := acc.flatMap Rt.c) rfl (fun w' H' => H'.ld 2 3) (fun s' w19 H21 => H21.st 2 3 rfl fun w20 H22 => ⟨a.k, a.lo.toNat, a.hi.toNat, a.s, H22.ld 4 0, H22.ld 4 1, H22.ld 4 2, H22.ld 4 3, ?_⟩) (by omega)⟩
        refine (c_nullable a w20 (by omega) fnot ((show x.P w20 from H22.getD 0).parts.2.mem ma)).mono ?_
        rintro _ w21 ⟨rfl, f6⟩
        have H23 := ((H22.fr0 f6).snocT 2 7).take 4
        have hfu : ∀ b ∈ u.fp, w.heap.size ≤ b ∨ b ∈ oldD F x := fun b hb => by
          rcases fu b hb with hb | hb
          · exact .inl (Nat.le_trans H17.fr.size hb)
          · rcases List.mem_append.1 hb with hb | hb
            · unfold Rt.fp at hb
              rcases List.mem_append.1 hb with hb | hb
              · exact .inl (hnew b hb)
              · obtain ⟨v, hv, hb'⟩ := Rt.fps_iff.1 hb
                rcases List.mem_cons.1 hv with rfl | hv
                · exact old _ a v ma H13.fr.size ft b hb'
                · exact .inr (List.mem_append_left _ (ffp v (List.mem_of_mem_drop hv) b hb'))
            · exact .inr (List.mem_append_right _ hb)
        have H24 : LH F0 w w21 [.c br x.c ty_regex_Regex, .c bt [.int .i64 0, .int .u8 0, .int .u8 0, .slice none 0 0] ty_regex_Regex, .c bd [.int .i64 4, .int .u8 0, .int .u8 0, s'.v] ty_regex_Regex, .row ty_regex_Regex 4 s' ((acc ++ [u]).flatMap Rt.c)] [.tree x, .fm F, .trees (acc ++ [u])] := by
          rw [cs_snoc]
          exact H23.forget _ (by simp)
        have eu : Rt.rxs (acc ++ [u]) = Rt.rxs acc ++ [formX (.mk 3 0 0 (derX c a.rx :: Rt.rxs (x.l.drop (i + 1))))] := by
          rw [rxs_app]
          show _ ++ [u.rx] = _
          rw [hu, erx]
        refine ⟨_, rfl, sel_not (fun hn0 => fin (acc ++ [u]) s' br bt bd w21 ?_ (fps_snoc hf hfu) H24) (fun hn1 => ?_)⟩
        · rw [eu, ← he, hn0]; rfl
        · rw [hn1] at he fnext
          refine ihd (i + 1) (acc ++ [u]) s' br bt bd w21 (by omega) ?_ (by simpa using fnext) (by simp; omega) (fps_snoc hf hfu) H24
          rw [eu, ← he, List.append_assoc]
          rfl
    refine regex_derive.ok _ _ _ _ _ _ w _ ((lh0 [.tree x, .fm F] (by
      intro e he
      simp only [List.mem_cons, List.not_mem_nil, or_false] at he
      rcases he with rfl | rfl
      · exact px
      · exact pF)).nw fun w1 _ H1 => H1.nw fun w2 _ H2 => ⟨x.k, H2.ld 0 0, H2.nw fun w3 _ H3 => H3.st4 2 rfl fun w7 H7 => ⟨x.k, H7.ld 0 0, ?_⟩⟩)
    have HA := no_trees (H7.nilrow ty_regex_Regex 4)
    have sNo : derX c x.rx = noR → regex_derive.S0 (at0 w1.heap.size) w7 R := fun he => c_leaf noT _ (by rw [he]; rfl) rfl (fun w => no_P w) (fun b hb => no_fp' hb) _ _ _ _ _ _ _ rfl HA
    have sEm : derX c x.rx = emptyX → _ := fun he => c_leaf (w := w) (w1 := w7) (F := F) (x := x) emptyT (derX c x.rx) (by rw [he]; rfl) rfl (fun w => empty_P w) (fun b hb => empty_fp hb) _ _ w1.heap.size _ _ _ _ rfl HA
    have s3 : (x.k = 4 ∨ x.k = 5 ∨ x.k = 6) → regex_derive.S3 (some F.m) (c.toNat : Int) (at0 w.heap.size) (at0 w1.heap.size) (at0 w2.heap.size) w7 R := fun hk =>
      ⟨x.s, HA.ld 0 3, loop4 hk x.l.length 0 [] ⟨none, 0, 0⟩ _ _ _ w7 (by omega) rfl (fun b hb => by unfold Rt.fps at hb; cases hb) HA⟩
    have s5 : x.k ≠ 2 → x.k ≠ 3 → ¬ (x.k = 4 ∨ x.k = 5 ∨ x.k = 6) → regex_derive.S5 (some F.m) (c.toNat : Int) (at0 w.heap.size) (at0 w1.heap.size) (at0 w2.heap.size) x.k w7 R := by
      intro k2 k3 k456
      rw [if_neg k2, if_neg k3, if_neg k456] at ed
      rw [if_neg k2, if_neg k3, if_neg k456] at hfit
      refine sel_eq (fun k7 => ?_) (fun k7 => ?_)
      · rw [if_pos k7] at ed
        rw [if_pos k7] at hfit
        simp only [Bool.and_eq_true] at hfit
        cases hxl : x.l with
        | nil =>
          have := hfit.1.1
          rw [hxl] at this
          simp [Rt.rxs] at this
        | cons a l' =>
          have hg : x.l[0]? = some a := by rw [hxl]; rfl
          have ma : a ∈ x.l := List.mem_of_getElem? hg
          have sza := Rt.szs_mem ma
          have fa : fitD N c a.rx = true := by
            have := hfit.1.2
            rw [hxl] at this
            exact this
          have ehd : derHd c (Rt.rxs x.l) = derX c a.rx := by rw [hxl]; rfl
          refine H7.st 2 0 rfl fun w8 H8 => H8.dr fun w9 H9 => ⟨x.s, H9.ld 0 3, part_el (show x.P w9 from H9.getD 0) rfl hg ⟨x.k, x.lo.toNat, x.hi.toNat, x.s, H9.ld 0 0, H9.ld 0 1, H9.ld 0 2, H9.ld 0 3, ?_⟩⟩
          refine (ih a w9 (by omega) fa (H9.getD 1) ((show x.P w9 from H9.getD 0).parts.2.mem ma)).mono ?_
          rintro _ w10 ⟨⟨t, rfl, ht, pt, ft⟩, f4⟩
          have H10 := H9.addD (.tree t) f4 pt (fun b hb => by
            rcases ft b (mem_nub.1 hb) with hb | hb
            · exact .inl hb
            · rcases List.mem_append.1 hb with hb | hb
              · exact .inr (.inr ⟨_, List.mem_of_getElem? (i := 0) rfl, mem_nub.2 (ffp a ma b hb)⟩)
              · exact .inr (.inr ⟨_, List.mem_of_getElem? (i := 1) rfl, hb⟩))
          refine ⟨_, _, _, t.s, rfl, H10.ld 0 0, H10.ld 0 1, H10.ld 0 2, H10.ld 0 3, H10.nwrow (n := 2) (sz := 4) (cs := [t, x].flatMap Rt.c) rfl (by decide) fun w11 H11 => H11.st 2 3 rfl fun w12 H12 => ?_⟩
          have H13 := H12.addD (.trees [t, x]) (Fr.refl _ _) (Rt.ps_of fun u hu => by
            simp only [List.mem_cons, List.not_mem_nil, or_false] at hu
            rcases hu with rfl | rfl
            · exact H12.getD 2
            · exact H12.getD 0) (fun b hb => by
            obtain ⟨u, hu, hb'⟩ := Rt.fps_iff.1 (mem_nub.1 hb)
            simp only [List.mem_cons, List.not_mem_nil, or_false] at hu
            rcases hu with rfl | rfl
            · exact .inr (.inr ⟨_, List.mem_of_getElem? (i := 2) rfl, mem_nub.2 hb'⟩)
            · exact .inr (.inr ⟨_, List.mem_of_getElem? (i := 0) rfl, mem_nub.2 hb'⟩))
          have erx : Rt.rxs [t, x] = [derHd c (Rt.rxs x.l), .mk x.k x.lo x.hi (Rt.rxs x.l)] := by
            show [t.rx, x.rx] = _
            rw [ht, ehd, ← Rt.rx_parts]
          refine c_last hS hN hF 3 (derX c x.rx) ⟨some (at0 w10.heap.size), 2, 2⟩ [t, x] w.heap.size w1.heap.size w2.heap.size _ z4 (by omega) (by rw [erx]; exact hfit.2) (by rw [erx, ed]) (fun b hb => ?_) (H13.forget [.tree x, .fm F, .trees [t, x]] (by simp))
          obtain ⟨u, hu, hb'⟩ := Rt.fps_iff.1 hb
          simp only [List.mem_cons, List.not_mem_nil, or_false] at hu
          rcases hu with rfl | rfl
          · exact old _ a u ma H9.fr.size ft b hb'
          · exact .inr (List.mem_append_left _ hb')
      · rw [if_neg k7] at ed
        exact c_leaf noT _ (by rw [ed]; rfl) rfl (fun w => no_P w) (fun b hb => no_fp' hb) _ _ _ _ _ _ _ rfl HA
    refine sel_eq (fun k2 => ?_) (fun k2 => sel_eq (fun k3 => ?_) (fun k3 => sel_eq (fun k4 => sel_true (by simp [k4]) (s3 (.inl k4))) (fun k4 => sel_eq (fun k5 => sel_true (by simp [k5]) (s3 (.inr (.inl k5)))) (fun k5 => sel_eq (fun k6 => s3 (.inr (.inr k6))) (fun k6 => s5 k2 k3 (by omega))))))
    · rw [if_pos k2] at ed
      refine ⟨x.lo.toNat, H7.ld 0 1, sel_dec (fun h1 => ⟨x.hi.toNat, H7.ld 0 2, sel_dec (fun h2 => ?_) (fun h2 => sNo ?_)⟩) (fun h1 => sNo ?_)⟩
      · rw [if_pos ⟨by omega, by omega⟩] at ed
        exact sEm ed
      · rw [if_neg (by omega)] at ed
        exact ed
      · rw [if_neg (by omega)] at ed
        exact ed
    · refine HA.st 2 0 rfl fun w12 H12 => ⟨x.s, H12.ld 0 3, loop1 k3 x.l.length 0 [] ⟨none, 0, 0⟩ _ _ _ w12 (by omega) rfl ?_ (Nat.le_refl _) (fun b hb => by unfold Rt.fps at hb; cases hb) H12⟩
      rw [if_neg k2, if_pos k3, Bool.and_eq_true] at hfit
      exact hfit.1
theorem c_derive {N : Nat} (hS : SortOk N) (hN : N + 1 ≤ 1000000) {F : Fm} (hF : F.Ok) (c : UInt8) (x : Rt) (w : World) (h : x.sz ≤ 1000000) (hfit : fitD N c x.rx = true) (pF : (En.fm F).P w) (px : x.P w) : Calls Tryz.prog n_regex_derive #[.map (some F.m), x.v, .int .u8 (c.toNat : Int)] w fun r w' => RetF (oldD F x) w (derX c x.rx) r w' ∧ Fr0 w w' :=
  c_deriveN hS hN hF c 1000000 (Nat.le_refl _) x w h hfit pF px
/-- Derive, of a valid expression -/
theorem c_Derive {N : Nat} (hS : SortOk N) (hN : N + 1 ≤ 1000000) (c : UInt8) (x : Rt) (w : World) (h : x.sz ≤ 1000000) (px : x.P w) (hv : validR x.rx = 0) (h1 : fitN N x.rx = true) (h2 : fitD N c (normX x.rx) = true) (h3 : (normX x.rx).sz ≤ 1000000) (h4 : (derX c (normX x.rx)).sz ≤ 1000000) :
    Calls Tryz.prog n_regex_Derive #[x.v, .int .u8 (c.toNat : Int)] w fun r w' => RetT2 w (limR (derX c (normX x.rx))) (limE (derX c (normX x.rx))) r w' ∧ Fr0 w w' := by
  refine regex_Derive.okT _ _ _ _ _ w _ ((lhT px).newg fun b2 w1 H1 => H1.newg fun b4 w2 H2 => H2.callg (c_Valid x w2 h (H2.getD 0)) ?_)
  rintro _ w3 rfl H3
  refine ⟨_, rfl, sel_ne (fun hne => absurd hv hne) (fun _ => H3.callr (c_forms w3) ?_)⟩
  rintro _ w4 ⟨F, rfl, hF, pF, nF⟩ H4 F4
  have H5 := F4.rd (.fm F) pF nF
  refine ⟨_, rfl, H5.callt (c_normal hS hN hF x w4 h h1 (H5.getD 1) (H5.getD 0)) (fun b hb => ?_) fun t w5 ht H6 _ => ?_⟩
  · rcases List.mem_append.1 hb with hb | hb
    · exact ⟨_, List.mem_of_getElem? (i := 0) rfl, mem_nub.2 hb⟩
    · exact ⟨_, List.mem_of_getElem? (i := 1) rfl, hb⟩
  have szt : t.sz ≤ 1000000 := by rw [← Rt.rx_sz, ht]; exact h3
  refine ⟨_, _, _, t.s, rfl, H6.callt (c_derive hS hN hF c t w5 szt (by rw [ht]; exact h2) (H6.getD 1) (H6.getD 2)) (fun b hb => ?_) fun u w6 hu H7 _ => ?_⟩
  · rcases List.mem_append.1 hb with hb | hb
    · exact ⟨_, List.mem_of_getElem? (i := 2) rfl, mem_nub.2 hb⟩
    · exact ⟨_, List.mem_of_getElem? (i := 1) rfl, hb⟩
  rw [ht] at hu
  have szu : u.sz ≤ 1000000 := by rw [← Rt.rx_sz, hu]; exact h4
  refine ⟨_, _, _, u.s, rfl, H7.callr (c_limited u w6 szu (H7.getD 3)) ?_⟩
  rintro _ w7 ⟨v, rfl, hv', pv, fv⟩ H8 F8
  rw [hu] at hv' ⊢
  have H9 := F8.rd (.tree v) pv fun b hb => fv b (mem_nub.1 hb)
  exact ⟨_, _, _, v.s, _, rfl, H9.locg fun w8 H10 => ⟨⟨v, rfl, hv', H10.getD 4, fun b hb => Nat.le_trans H7.fr.size (fv b hb)⟩, H10.fr⟩⟩
end Go.Proofs.YtknlbofiicflgaaGreat

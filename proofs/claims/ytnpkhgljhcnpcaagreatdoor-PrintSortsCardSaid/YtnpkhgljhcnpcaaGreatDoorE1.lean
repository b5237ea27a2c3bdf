/- Needs and Vars, plain. No program in sight. Needs and Vars of the package and of the reference: the contracts. Package term: Needs: the contract. Package term: the small functions of sorts: the contracts. Package term: sortOfVar, sortOfLeaf, sortOfBits, sortOfArrays, sortOfStrings: the contracts. Package term: sortOfVar, sortOfLeaf, sortOfStrings: the contracts. Package term: sortOf, SortOf: the contracts. Package slices over numbers: Equal, Clone; package term: sameNode, search, Add: the contracts. Package term: Add: the contract. -/
import Derived.Test.YtnpkhgljhcnpcaaGreatDoorTP
import Derived.Test.YtnpkhgljhcnpcaaGreatDoorVB
import Derived.Test.YtnpkhgljhcnpcaaGreatDoorT1
import Derived.Laws.CopyRow
set_option linter.unusedVariables false
namespace Go.Proofs.YtnpkhgljhcnpcaaGreatDoor
open Go Go.W

def KidsLt (g : List Nx) : Prop := ∀ (i : Nat) (d : Nx), g[i]? = some d → ∀ k ∈ d.kids, 0 ≤ k ∧ k < (i : Int)
end Go.Proofs.YtnpkhgljhcnpcaaGreatDoor
set_option maxRecDepth 100000
namespace Go.Proofs.YtnpkhgljhcnpcaaGreatDoor
open Go Go.W

end Go.Proofs.YtnpkhgljhcnpcaaGreatDoor
set_option maxRecDepth 100000
namespace Go.Proofs.YtnpkhgljhcnpcaaGreatDoor
open Go Go.W

theorem el_bool : ElemOk Tryz.prog ty_sl_bool ty_bool (.bool false) 1 1 := ⟨by kernel_rfl, by kernel_rfl, rfl, by decide, by decide⟩
section
variable {M : Nat → Prop} {w0 w : World} {L D : List En} {bs : List Nat}
theorem _root_.Go.W.LH.st1 (H : LH M w0 w L D) (i j : Nat) {e : TypeId} {sz : Nat} {s : Sl} {xs : List Value} {v : Value} {p : Addr} {K : World → Prop} (hi : L[i]? = some (.row e sz s xs)) (hp : s.a = some p) (hj : j < xs.length)
    (hK : ∀ w', LH M w0 w' (L.set i (.row e sz s (xs.set j v))) D → K w') (hbs : ∀ b ∈ bs, En.g b ∈ L := by simp) : stV w (p.add j) v fun w1 => kept bs w w1 ∧ K w1 := by
  obtain ⟨q, hq, hqb, x1, x2, x3, x4⟩ := own_set (H.get i hi) j hj v
  rw [hp] at hq
  cases hq
  refine ⟨x1, x2, fun b hb => ?_, hK _ (H.upd i (.row e sz s (xs.set j v)) hi x4 x3 (fun b hb => .inl hb))⟩
  exact x4.keep b (H.own _ (hbs b hb)) fun hm => H.ghost_ne hi (hbs b hb) hm
end
theorem optP_mk {p : Addr} {K : Addr → Prop} (h : K p) : W.optP (some p) K := h
/-- a row of truth values -/
abbrev boolR (s : Sl) (l : List Bool) : En := .row ty_bool 1 s (l.map Value.bool)
end Go.Proofs.YtnpkhgljhcnpcaaGreatDoor
set_option maxRecDepth 100000
set_option maxHeartbeats 1000000
namespace Go.Proofs.YtnpkhgljhcnpcaaGreatDoor
open Go Go.W

/-- a node at an address -/
def NdAt (w : World) (p : Addr) (d : Nd) : Prop := ∀ i v, (Nd.c d)[i]? = some v → w.cell? (p.add i) = some v
theorem NdAt.st {w w' : World} {p : Addr} {d : Nd} (h : NdAt w p d) (hk : p.block < w.heap.size → w'.heap[p.block]? = w.heap[p.block]?) : NdAt w' p d := fun i v hi => by
  have hc := h i v hi
  have hl := cell_lt hc
  rw [add_block] at hl
  unfold World.cell? at hc ⊢
  rw [add_block] at hc ⊢
  rw [hk hl]; exact hc
theorem NdAt.lt {w : World} {p : Addr} {d : Nd} (h : NdAt w p d) : p.block < w.heap.size := by
  have := cell_lt (h 0 _ rfl)
  rwa [add_block] at this
def _root_.Go.W.En.nda (p : Addr) (d : Nd) : En := ⟨[p.block], fun w => NdAt w p d, fun w w' h hp => hp.st (h p.block (by simp)), fun w hp b hb => by simp at hb; subst hb; exact NdAt.lt hp, by simp⟩
theorem nda_ob {w : World} {b : Nat} {d : Nd} {T : TypeId} (h : w.heap[b]? = some (.cells (Nd.c d).toArray T (0, 0))) : NdAt w (at0 b) d := fun i v hi => cellAt (p := at0 b) h rfl (by simpa using hi)
section
variable {w : World} {p : Addr} {d : Nd} (h : NdAt w p d)
include h
theorem NdAt.c0 : w.cell? (p.add 0) = some (.i d.x.op) := h 0 _ rfl
theorem NdAt.c1 : w.cell? (p.add 1) = some d.ks.v := h 1 _ rfl
theorem NdAt.c2 : w.cell? (p.add 2) = some (.i d.x.n) := h 2 _ rfl
theorem NdAt.c3 : w.cell? (p.add 3) = some (.i d.x.m) := h 3 _ rfl
theorem NdAt.c4 : w.cell? (p.add 4) = some (.u d.x.u) := h 4 _ rfl
theorem NdAt.c5 : w.cell? (p.add 5) = some (.string d.x.tx) := h 5 _ rfl
theorem NdAt.s0 : w.cell? ((p.add 6).add 0) = some (.i d.x.st.k) := by rw [add_add]; exact h 6 _ rfl
theorem NdAt.s1 : w.cell? ((p.add 6).add 1) = some (.i d.x.st.n) := by rw [add_add]; exact h 7 _ rfl
theorem NdAt.s2 : w.cell? ((p.add 6).add 2) = some (.i d.x.st.x) := by rw [add_add]; exact h 8 _ rfl
end
theorem t_bv (n : Int) (w : World) : Calls Tryz.prog n_term_bv #[.i n] w fun r w' => r = .returned (srtV (bvS n)) ∧ Fr0 w w' :=
  term_bv.okT _ w _ ((lh0 [] (by simp)).newg fun b w1 H1 => H1.locg fun w2 H2 => ⟨rfl, H2.fr⟩)
theorem t_str (n : Int) (w : World) : Calls Tryz.prog n_term_str #[.i n] w fun r w' => r = .returned (srtV (strS n)) ∧ Fr0 w w' :=
  term_str.okT _ w _ ((lh0 [] (by simp)).newg fun b w1 H1 => H1.locg fun w2 H2 => ⟨rfl, H2.fr⟩)
theorem t_isBV (s : Srt) (w : World) : Calls Tryz.prog n_term_isBV #[srtV s] w fun r w' => r = .returned (.bool (s.k == 0)) ∧ Fr0 w w' :=
  term_isBV.okT _ _ _ w _ ((lh0 [] (by simp)).newg fun b w1 H1 => ⟨rfl, H1.fr⟩)
theorem t_isStr (s : Srt) (w : World) : Calls Tryz.prog n_term_isStr #[srtV s] w fun r w' => r = .returned (.bool (s.k == 1)) ∧ Fr0 w w' :=
  term_isStr.okT _ _ _ w _ ((lh0 [] (by simp)).newg fun b w1 H1 => ⟨rfl, H1.fr⟩)
theorem t_isArray (s : Srt) (w : World) : Calls Tryz.prog n_term_isArray #[srtV s] w fun r w' => r = .returned (.bool (arrS s)) ∧ Fr0 w w' :=
  term_isArray.okT _ _ _ w _ ((lh0 [] (by simp)).newg fun b w1 H1 => sel_eq (fun h => ⟨by unfold arrS; rw [h]; rfl, H1.fr⟩) (fun h => ⟨by unfold arrS; rw [beq_eq_false_iff_ne.2 h]; rfl, H1.fr⟩))
theorem t_alike (x y : Srt) (w : World) : Calls Tryz.prog n_term_alike #[srtV x, srtV y] w fun r w' => r = .returned (.bool (decide (x = y) || (x.k == 1 && y.k == 1))) ∧ Fr0 w w' := by
  refine term_alike.okT _ _ _ _ _ _ w _ ((lh0 [] (by simp)).newg fun b w1 H1 => H1.newg fun b2 w2 H2 => sel_srt (a := x) (b := y) (fun he => ⟨by rw [decide_eq_true he]; rfl, H2.fr⟩) (fun he => H2.callg (t_isStr x w2) ?_))
  rintro _ w3 rfl H3
  rw [decide_eq_false he, Bool.false_or]
  refine ⟨_, rfl, sel_eq (fun hk => H3.callg (t_isStr y w3) ?_) (fun hk => ⟨by rw [beq_eq_false_iff_ne.2 hk]; rfl, H3.fr⟩)⟩
  rintro _ w4 rfl H4
  exact ⟨_, rfl, by rw [hk]; rfl, H4.fr⟩
def resE (sorts ranges : Bool) : Int := if sorts = true then (if ranges = true then 0 else 5) else 9
theorem t_result (s : Srt) (sorts ranges : Bool) (w : World) : Calls Tryz.prog n_term_result #[srtV s, .bool sorts, .bool ranges] w fun r w' => r = sortR (s, resE sorts ranges) ∧ Fr0 w w' := by
  refine term_result.okT _ _ _ _ _ w _ ((lh0 [] (by simp)).newg fun b w1 H1 => H1.newg fun b2 w2 H2 => sel_not (fun h => H2.locg fun w3 H3 => ⟨by rw [h]; rfl, H3.fr⟩) (fun h => sel_not (fun h2 => H2.locg fun w3 H3 => ⟨by rw [h, h2]; rfl, H3.fr⟩) (fun h2 => H2.locg fun w3 H3 => ⟨by rw [h, h2]; rfl, H3.fr⟩)))
theorem t_ValidSort (s : Srt) (w : World) : Calls Tryz.prog n_value_ValidSort #[srtV s] w fun r w' => r = .returned (.int .i64 (sortE s)) ∧ Fr0 w w' := by
  refine value_ValidSort.okT _ _ _ w _ ((lh0 [] (by simp)).newg fun b1 w1 H1 => ?_)
  have good : validS s = true → (Ending.returned (Value.int .i64 0) = .returned (.int .i64 (sortE s)) ∧ Fr0 w w1) := fun h => ⟨by unfold sortE; rw [if_pos h], H1.fr⟩
  have bad : validS s = false → (Ending.returned (Value.int .i64 9) = .returned (.int .i64 (sortE s)) ∧ Fr0 w w1) := fun h => ⟨by unfold sortE; rw [if_neg (by simp [h])], H1.fr⟩
  have plain : ∀ least : Int, (∀ h1 : least ≤ s.n, s.n ≤ 64 → s.x = 0 → validS s = true) → (¬ (least ≤ s.n ∧ s.n ≤ 64 ∧ s.x = 0) → validS s = false) → value_ValidSort.S0T b1 s.k s.n s.x least 64 false w1 fun r w' => r = .returned (.int .i64 (sortE s)) ∧ Fr0 w w' := by
    intro least h1 h2
    exact sel_dec (fun h => bad (h2 (by omega))) (fun h => sel_dec (fun h' => bad (h2 (by omega))) (fun h' => sel_false rfl (sel_true rfl (sel_ne (fun h3 => bad (h2 (fun hh => h3 hh.2.2))) (fun h3 => good (h1 (by omega) (by omega) h3))))))
  have array : ∀ least : Int, (∀ h1 : least ≤ s.n, s.n ≤ 64 → 1 ≤ s.x → s.x ≤ 16 → validS s = true) → (¬ (least ≤ s.n ∧ s.n ≤ 64 ∧ 1 ≤ s.x ∧ s.x ≤ 16) → validS s = false) → value_ValidSort.S0T b1 s.k s.n s.x least 64 true w1 fun r w' => r = .returned (.int .i64 (sortE s)) ∧ Fr0 w w' := by
    intro least h1 h2
    exact sel_dec (fun h => bad (h2 (by omega))) (fun h => sel_dec (fun h' => bad (h2 (by omega))) (fun h' => sel_true rfl (sel_dec (fun h3 => bad (h2 (by omega))) (fun h3 => sel_dec (fun h4 => bad (h2 (by omega))) (fun h4 => sel_false rfl (good (h1 (by omega) (by omega) (by omega) (by omega))))))))
  refine sel_eq (fun h0 => plain 1 (fun h1 h2 h3 => ?_) (fun h => ?_)) (fun h0 => sel_eq (fun h1' => plain 0 (fun h1 h2 h3 => ?_) (fun h => ?_)) (fun h1' => sel_eq (fun h2' => array 1 (fun h1 h2 h3 h4 => ?_) (fun h => ?_)) (fun h2' => sel_eq (fun h3' => array 0 (fun h1 h2 h3 h4 => ?_) (fun h => ?_)) (fun h3' => bad ?_))))
  · unfold validS; simp [h0, h1, h2, h3]
  · unfold validS; rw [h0]; simp; omega
  · unfold validS; simp [h1', h1, h2, h3]
  · unfold validS; rw [h1']; simp; omega
  · unfold validS; simp [h2', h1, h2, h3, h4]
  · unfold validS; rw [h2']; simp; omega
  · unfold validS; simp [h3', h1, h2, h3, h4]
  · unfold validS; rw [h3']; simp; omega
  · unfold validS; simp [h0, h1', h2', h3']
theorem str_at {s : ByteArray} {i : Nat} (h : i < s.size) : s[i]? = some (gQ (bl s) i) := by
  have h2 : i < (bl s).length := h
  have e : gQ (bl s) i = (bl s)[i] := by unfold gQ; rw [List.getD_eq_getElem?_getD, List.getElem?_eq_getElem h2]; rfl
  rw [e, getElem?_pos s i h]
  rfl
theorem t_isName (s : ByteArray) (w : World) : Calls Tryz.prog n_term_isName #[.string s] w fun r w' => r = .returned (.bool (nameB (bl s))) ∧ Fr0 w w' := by
  have hl : (bl s).length = s.size := bl_len s
  have nameB_cons : ∀ (c : UInt8) (m : List UInt8), nameB (c :: m) = (decide (m.length ≤ 15) && letQ c && m.all namQ) := fun _ _ => rfl
  cases hs : bl s with
  | nil =>
    have h0 : s.size = 0 := by rw [← hl, hs]; rfl
    exact term_isName.ok s w _ (sel_true (decide_eq_true (by omega)) ⟨rfl, Fr.refl _ _⟩)
  | cons c m =>
    have hm : s.size = m.length + 1 := by rw [← hl, hs]; rfl
    have g0 : gQ (bl s) 0 = c := by rw [hs]; rfl
    refine term_isName.ok s w _ (sel_false (decide_eq_false (by omega)) (sel_dec (fun h => ⟨?_, Fr.refl _ _⟩) (fun h => ?_)))
    · rw [nameB_cons, decide_eq_false (by omega)]; rfl
    have e0 : nameB (c :: m) = (letQ c && m.all namQ) := by rw [nameB_cons, decide_eq_true (by omega : m.length ≤ 15), Bool.true_and]
    rw [e0]
    have loop : ∀ (d i : Nat), i + d = s.size → (letQ c && m.all namQ) = (if i = 0 then (letQ c && m.all namQ) else ((bl s).drop i).all namQ) → term_isName.L1 s (i : Int) w fun r w' => r = .returned (.bool (letQ c && m.all namQ)) ∧ Fr0 w w' := by
      intro d
      induction d with
      | zero =>
        intro i hi he
        rw [List.drop_of_length_le (by omega), if_neg (by omega)] at he
        exact term_isName.L1_step _ _ _ _ (sel_false (decide_eq_false (by omega)) ⟨by rw [he]; rfl, Fr.refl _ _⟩)
      | succ d ih =>
        intro i hi he
        have hg := str_at (show i < s.size by omega)
        have hx : (bl s).drop i = gQ (bl s) i :: (bl s).drop (i + 1) := by
          rw [List.drop_eq_getElem_cons (by omega : i < (bl s).length)]
          unfold gQ; rw [List.getD_eq_getElem?_getD, List.getElem?_eq_getElem (by omega : i < (bl s).length)]; rfl
        have go : (if i = 0 then letQ (gQ (bl s) i) else namQ (gQ (bl s) i)) = true → term_isName.S5 s (i : Int) w fun r w' => r = .returned (.bool (letQ c && m.all namQ)) ∧ Fr0 w w' := fun h => by
          show term_isName.L1 s (IntKind.wrap .i64 ((i : Int) + 1)) w _
          rw [i64_next _ (by omega)]
          refine ih (i + 1) (by omega) ?_
          rw [if_neg (by omega)]
          by_cases h0 : i = 0
          · subst h0
            rw [if_pos rfl, g0] at h
            rw [h, Bool.true_and]
            rw [hs]; rfl
          · rw [if_neg h0] at h he
            rw [he, hx, List.all_cons, h, Bool.true_and]
        have stop : (if i = 0 then letQ (gQ (bl s) i) else namQ (gQ (bl s) i)) = false → term_isName.S4 w fun r w' => r = .returned (.bool (letQ c && m.all namQ)) ∧ Fr0 w w' := fun h => by
          refine ⟨?_, Fr.refl _ _⟩
          by_cases h0 : i = 0
          · subst h0
            rw [if_pos rfl, g0] at h
            rw [h, Bool.false_and]
          · rw [if_neg h0] at h he
            rw [he, hx, List.all_cons, h, Bool.false_and]
        generalize gQ (bl s) i = x at hg go stop
        have S3 : ∀ l : Bool, l = letQ x → term_isName.S3 s (i : Int) ((x.toNat : Nat) : Int) l w fun r w' => r = .returned (.bool (letQ c && m.all namQ)) ∧ Fr0 w w' := by
          intro l hl
          refine sel_not (fun hf => ?_) (fun ht => go ?_)
          · rw [hf] at hl
            refine sel_eq (fun h0 => stop ?_) (fun h0 => ?_)
            · rw [if_pos (by omega), ← hl]
            have hn0 : i ≠ 0 := by omega
            rw [if_neg hn0] at go stop
            have nq : namQ x = ((decide (48 ≤ x.toNat) && decide (x.toNat ≤ 57)) || x == 45) := by unfold namQ; rw [← hl, Bool.false_or]
            refine sel_ne (fun h45 => sel_dec (fun h1 => stop ?_) (fun h1 => sel_dec (fun h2 => stop ?_) (fun h2 => go ?_))) (fun h45 => go ?_)
            · rw [nq, decide_eq_false (show ¬ 48 ≤ x.toNat by omega)]
              have : (x == 45) = false := beq_eq_false_iff_ne.2 fun e => h45 (by subst e; rfl)
              rw [this]; rfl
            · rw [nq, decide_eq_false (show ¬ x.toNat ≤ 57 by omega), Bool.and_false]
              have : (x == 45) = false := beq_eq_false_iff_ne.2 fun e => h45 (by subst e; rfl)
              rw [this]; rfl
            · rw [nq, decide_eq_true (show 48 ≤ x.toNat by omega), decide_eq_true (show x.toNat ≤ 57 by omega)]; rfl
            · have : x = 45 := UInt8.toNat_inj.1 (by have : ((45 : UInt8).toNat : Int) = 45 := rfl; omega)
              rw [nq, this]; rfl
          · rw [ht] at hl
            split
            · exact hl.symm
            · unfold namQ; rw [← hl]; rfl
        have ht : ((i : Int)).toNat = i := Int.toNat_natCast i
        refine term_isName.L1_step _ _ _ _ (sel_true (decide_eq_true (by omega)) ⟨by omega, x, by rw [ht]; exact hg, sel_dec (fun h1 => S3 _ ?_) (fun h1 => S3 _ ?_)⟩)
        · unfold letQ
          rw [decide_eq_true (show 97 ≤ x.toNat by omega), Bool.true_and]
          exact decide_eq_decide.2 (by omega)
        · unfold letQ
          rw [decide_eq_false (show ¬ 97 ≤ x.toNat by omega), Bool.false_and]
    exact loop s.size 0 (by omega) (by rw [if_pos rfl])
theorem emp_tx' (t : ByteArray) : (t.toList == (ByteArray.mk #[]).toList) = decide (t = ba []) := tx_eq _ _
theorem t_fieldsFit {w : World} {p : Addr} {d : Nd} (h : NdAt w p d) : Calls Tryz.prog n_term_fieldsFit #[.pointer (some p)] w fun r w' => r = .returned (.bool (okF d.x)) ∧ Fr0 w w' := by
  have S1 : ∀ a b c e : Bool, term_fieldsFit.S1 p a b c e w fun r w' => r = .returned (.bool ((a || d.x.n == 0) && (b || d.x.m == 0) && (c || d.x.u == 0) && (e || decide (d.x.tx = ba [])))) ∧ Fr0 w w' := by
    intro a b c e
    cases a <;> cases b <;> cases c <;> cases e
    all_goals repeat (first | refine sel_false rfl ?_ | refine sel_true rfl ?_ | refine ⟨_, h.c2, sel_eq (fun h2 => ?_) (fun h2 => ⟨by rw [beq_eq_false_iff_ne.2 h2]; simp, Fr.refl _ _⟩)⟩ | refine ⟨_, h.c3, sel_eq (fun h3 => ?_) (fun h3 => ⟨by rw [beq_eq_false_iff_ne.2 h3]; simp, Fr.refl _ _⟩)⟩ | refine ⟨_, h.c4, sel_eq (fun h4 => ?_) (fun h4 => ⟨by rw [beq_eq_false_iff_ne.2 h4]; simp, Fr.refl _ _⟩)⟩ | refine ⟨_, h.c5, ?_, Fr.refl _ _⟩)
    all_goals first | exact ⟨by simp [*], Fr.refl _ _⟩ | (rw [emp_tx']; simp [*])
  have fin : ∀ a b c e : Bool, a = hasN d.x.op → b = (d.x.op == 21) → c = (d.x.op == 1) → e = hasT d.x.op → term_fieldsFit.S1 p a b c e w fun r w' => r = .returned (.bool (okF d.x)) ∧ Fr0 w w' := by
    rintro a b c e rfl rfl rfl rfl
    exact S1 _ _ _ _
  have e0 : ∀ k : Int, d.x.op ≠ k → (d.x.op == k) = false := fun k hk => beq_eq_false_iff_ne.2 hk
  have S2 : ∀ e : Bool, e = hasT d.x.op → term_fieldsFit.S2 p false false false e d.x.op w fun r w' => r = .returned (.bool (okF d.x)) ∧ Fr0 w w' := by
    intro e he
    refine sel_eq (fun h1 => fin _ _ _ _ ?_ ?_ ?_ he) (fun h1 => sel_eq (fun h2 => fin _ _ _ _ ?_ ?_ ?_ he) (fun h2 => sel_eq (fun h3 => sel_true (beq_iff_eq.2 h3) (fin _ _ _ _ ?_ ?_ ?_ he)) (fun h3 => sel_eq (fun h4 => sel_true (beq_iff_eq.2 h4) (fin _ _ _ _ ?_ ?_ ?_ he)) (fun h4 => sel_eq (fun h5 => fin _ _ _ _ ?_ ?_ ?_ he) (fun h5 => fin _ _ _ _ ?_ ?_ ?_ he)))))
    all_goals first | (rw [‹d.x.op = _›]; rfl) | (simp [hasN, *])
  refine term_fieldsFit.ok p w _ ⟨_, h.c0, sel_eq (fun h0 => sel_true (beq_iff_eq.2 h0) (fin _ _ _ _ ?_ ?_ ?_ ?_)) (fun h0 => sel_eq (fun h2 => sel_true (beq_iff_eq.2 h2) (fin _ _ _ _ ?_ ?_ ?_ ?_)) (fun h2 => sel_eq (fun h3 => fin _ _ _ _ ?_ ?_ ?_ ?_) (fun h3 => S2 _ ?_)))⟩
  all_goals first | (rw [‹d.x.op = _›]; rfl) | (unfold hasT; simp [*])
end Go.Proofs.YtnpkhgljhcnpcaaGreatDoor
set_option maxRecDepth 100000
set_option maxHeartbeats 1000000
namespace Go.Proofs.YtnpkhgljhcnpcaaGreatDoor
open Go Go.W

/-- what is returned: the sort counts where there is no error -/
def ErrR (s : Srt) (e : Int) (r : Ending) : Prop := ∃ (t : Srt) (e' : Int), r = sortR (t, e') ∧ e' = e ∧ (e = 0 → t = s)
theorem lhP {w : World} {p : Addr} {d : Nd} (h : NdAt w p d) : LH F0 w w [] [.nda p d] := lh0 _ (by
  intro e he
  simp only [List.mem_cons, List.not_mem_nil, or_false] at he
  subst he
  exact h)
def errX (n : Nx) (x y z : Srt) : Int := if fitX n.op x y z = false then 9 else if rngX n x y z = false then 5 else if n.op = 33 ∧ canX n.tx = false then 2 else 0
theorem res_err {n : Nx} {x y z t : Srt} {sorts ranges : Bool} (h33 : n.op ≠ 33) (h1 : sorts = fitX n.op x y z) (h2 : sorts = true → ranges = rngX n x y z) (h3 : sorts = true → ranges = true → t = resX n x y z) : ErrR (resX n x y z) (errX n x y z) (sortR (t, resE sorts ranges)) := by
  refine ⟨t, _, rfl, ?_, fun h => ?_⟩
  · unfold resE errX
    rw [← h1]
    cases sorts with
    | false => rfl
    | true =>
      rw [← h2 rfl]
      cases ranges with
      | false => rfl
      | true => simp [h33]
  · unfold errX at h
    rw [← h1] at h
    cases sorts with
    | false => simp at h
    | true =>
      rw [← h2 rfl] at h
      cases ranges with
      | false => simp at h
      | true => exact h3 rfl rfl
section
variable {M : Nat → Prop} {w0 w : World} {L D : List En} {bs bs' : List Nat}
/-- the call of result, and what is returned -/
theorem t_fin (H : LH F0 w0 w L D) {n : Nx} {x y z : Srt} (t : Srt) (sorts ranges : Bool) (h33 : n.op ≠ 33) (h1 : sorts = fitX n.op x y z) (h2 : sorts = true → ranges = rngX n x y z) (h3 : sorts = true → ranges = true → t = resX n x y z) (hbs : ∀ b ∈ bs, En.g b ∈ L := by simp) :
    callF bs' Tryz.prog n_term_result #[srtV t, .bool sorts, .bool ranges] w fun r w5 => ∃ a b c e : Int, r = .returned (.tuple #[.agg #[.i a, .i b, .i c], .i e]) ∧ loc bs w5 fun w6 => ErrR (resX n x y z) (errX n x y z) (.returned (.tuple #[.agg #[.i a, .i b, .i c], .i e])) ∧ Fr0 w0 w6 := by
  refine H.callg (t_result t sorts ranges w) ?_
  rintro _ w1 rfl H1
  exact ⟨_, _, _, _, rfl, H1.locg (fun w2 H2 => ⟨res_err h33 h1 h2 h3, H2.fr⟩) hbs⟩
end
/-- a sort that is in bounds -/
def Bnd (s : Srt) : Prop := 0 ≤ s.n ∧ s.n ≤ 64
theorem valid_bnd {s : Srt} (h : validS s = true) : Bnd s := ⟨(valid_n h).1, (valid_n h).2.1⟩
theorem no_bnd : Bnd noS := ⟨by decide, by decide⟩
theorem t_bits {w : World} {p : Addr} {d : Nd} {x y z : Srt} (h : NdAt w p d) (h4 : 4 ≤ d.x.op) (h23 : d.x.op ≤ 23) (hx : Bnd x) (hy : Bnd y) (hn : I64 d.x.n) (hm : I64 d.x.m) :
    Calls Tryz.prog n_term_sortOfBits #[.pointer (some p), srtV x, srtV y, srtV z] w fun r w' => ErrR (resX d.x x y z) (errX d.x x y z) r ∧ Fr0 w w' := by
  refine term_sortOfBits.okT _ _ _ _ _ _ _ _ _ _ w _ ((lhP h).newg fun b5 w1 H1 => H1.newg fun b6 w2 H2 => H2.newg fun b7 w3 H3 => H3.newg fun b8 w4 H4 => ?_)
  obtain ⟨⟨op, kids, n, m, u, tx, st⟩, ksl⟩ := d
  have C : ∀ {w5 : World} {L : List En}, LH F0 w w5 L [.nda p ⟨⟨op, kids, n, m, u, tx, st⟩, ksl⟩] → NdAt w5 p ⟨⟨op, kids, n, m, u, tx, st⟩, ksl⟩ := fun H => H.getD 0
  simp only at h4 h23 hn hm
  refine ⟨op, (C H4).c0, ?_⟩
  obtain ⟨hx1, hx2⟩ := hx
  obtain ⟨hy1, hy2⟩ := hy
  obtain ⟨hn1, hn2⟩ := hn
  obtain ⟨hm1, hm2⟩ := hm
  have two : ∀ (c : Bool), c = true → c = true := fun _ h => h
  rcases op_all (by omega) (by omega : op ≤ 34) with rfl | rfl | rfl | rfl | rfl | rfl | rfl | rfl | rfl | rfl | rfl | rfl | rfl | rfl | rfl | rfl | rfl | rfl | rfl | rfl | rfl | rfl | rfl | rfl | rfl | rfl | rfl | rfl | rfl | rfl | rfl | rfl | rfl | rfl | rfl
  iterate 4 omega
  rotate_left 20
  iterate 11 omega
  all_goals repeat (first | refine sel_false rfl ?_ | refine sel_true rfl ?_)
  -- Not, Neg
  iterate 2
    · refine H4.locg fun w5 H5 => H5.callg (t_isBV x w5) ?_
      rintro _ w6 rfl H6
      exact ⟨_, rfl, t_fin H6 x _ true (by simp) rfl (fun _ => rfl) (fun _ _ => rfl)⟩
  -- And .. Ashr
  iterate 10
    · refine H4.locg fun w5 H5 => H5.callg (t_isBV x w5) ?_
      rintro _ w6 rfl H6
      refine ⟨_, rfl, sel_eq (fun hk => ?_) (fun hk => ?_)⟩
      · refine t_fin H6 x _ true (by simp) ?_ (fun _ => rfl) (fun _ _ => rfl)
        rw [srt_eq]
        show _ = (x.k == 0 && decide (x = y))
        rw [hk]; rfl
      · refine t_fin H6 x _ true (by simp) ?_ (fun _ => rfl) (fun _ _ => rfl)
        show _ = (x.k == 0 && decide (x = y))
        rw [beq_eq_false_iff_ne.2 hk]; rfl
  -- Ult, Slt
  iterate 2
    · refine H4.locg fun w5 H5 => H5.callg (t_bv 1 w5) ?_
      rintro _ w6 rfl H6
      refine ⟨_, _, _, rfl, H6.callg (t_isBV x w6) ?_⟩
      rintro _ w7 rfl H7
      refine ⟨_, rfl, sel_eq (fun hk => ?_) (fun hk => ?_)⟩
      · refine t_fin H7 (bvS 1) _ true (by simp) ?_ (fun _ => rfl) (fun _ _ => rfl)
        rw [srt_eq]
        show _ = (x.k == 0 && decide (x = y))
        rw [hk]; rfl
      · refine t_fin H7 (bvS 1) _ true (by simp) ?_ (fun _ => rfl) (fun _ _ => rfl)
        show _ = (x.k == 0 && decide (x = y))
        rw [beq_eq_false_iff_ne.2 hk]; rfl
  -- Eq
  · refine H4.locg fun w5 H5 => H5.callg (t_bv 1 w5) ?_
    rintro _ w6 rfl H6
    refine ⟨_, _, _, rfl, H6.callg (t_alike x y w6) ?_⟩
    rintro _ w7 rfl H7
    exact ⟨_, rfl, t_fin H7 (bvS 1) _ true (by simp) rfl (fun _ => rfl) (fun _ _ => rfl)⟩
  -- Ite
  · refine H4.newg fun b10 w5 H5 => H5.locg fun w6 H6 => H6.callg (t_isStr y w6) ?_
    rintro _ w7 rfl H7
    have S4 : ∀ (t : Srt) (w8 : World), ((decide (y = z) || (y.k == 1 && z.k == 1)) = true → t = if y.k = 1 then strS (if y.n < z.n then z.n else y.n) else y) → LH F0 w w8 [.g b5, .g b6, .g b7, .g b8, .g b10] [.nda p ⟨⟨19, kids, n, m, u, tx, st⟩, ksl⟩] → term_sortOfBits.S4T b5 x.k x.n x.x b6 y.k y.n y.x b7 z.k z.n z.x b8 0 0 0 b10 t.k t.n t.x w8 fun r w' => ErrR (resX ⟨19, kids, n, m, u, tx, st⟩ x y z) (errX ⟨19, kids, n, m, u, tx, st⟩ x y z) r ∧ Fr0 w w' := by
      intro t w8 ht H8
      refine H8.locg fun w9 H9 => H9.callg (t_bv 1 w9) ?_
      rintro _ w10 rfl H10
      have fe : fitX 19 x y z = (decide (x = bvS 1) && (decide (y = z) || (y.k == 1 && z.k == 1))) := rfl
      refine ⟨_, _, _, rfl, sel_srt (a := x) (b := bvS 1) (fun he => H10.callg (t_alike y z w10) ?_) (fun he => ?_)⟩
      · rintro _ w11 rfl H11
        refine ⟨_, rfl, t_fin H11 t _ true (by simp) ?_ (fun _ => rfl) (fun h _ => ht h)⟩
        show _ = fitX 19 x y z
        rw [fe, decide_eq_true he]; rfl
      · refine t_fin H10 t _ true (by simp) ?_ (fun _ => rfl) (fun h _ => by cases h)
        show _ = fitX 19 x y z
        rw [fe, decide_eq_false he]; rfl
    have yes : ∀ t : Srt, y.k = 1 → z.k = 1 → t = strS (if y.n < z.n then z.n else y.n) → ((decide (y = z) || (y.k == 1 && z.k == 1)) = true → t = if y.k = 1 then strS (if y.n < z.n then z.n else y.n) else y) := fun t h1 _ h3 _ => by rw [if_pos h1, h3]
    refine ⟨_, rfl, sel_eq (fun hk => H7.callg (t_isStr z w7) ?_) (fun hk => S4 y w7 (fun _ => by rw [if_neg hk]) H7)⟩
    rintro _ w8 rfl H8
    refine ⟨_, rfl, sel_eq (fun hk2 => H8.callg (t_str _ w8) ?_) (fun hk2 => S4 y w8 (fun hf => ?_) H8)⟩
    · rintro _ w9 rfl H9
      exact ⟨_, _, _, rfl, H9.locg fun w10 H10 => S4 (strS (if y.n < z.n then z.n else y.n)) w10 (yes _ hk hk2 rfl) H10⟩
    · rw [beq_eq_false_iff_ne.2 hk2, Bool.and_false, Bool.or_false] at hf
      have := of_decide_eq_true hf
      exact absurd (by rw [← this]; exact hk) hk2
  -- Concat
  · have e1 : IntKind.wrap .i64 (x.n + y.n) = x.n + y.n := IntWalk.i64_in _ (by omega)
    have fe : fitX 20 x y z = (x.k == 0 && y.k == 0) := rfl
    refine H4.locg fun w5 H5 => ?_
    rw [e1]
    refine H5.callg (t_bv _ w5) ?_
    rintro _ w6 rfl H6
    refine ⟨_, _, _, rfl, H6.callg (t_isBV x w6) ?_⟩
    rintro _ w7 rfl H7
    refine ⟨_, rfl, sel_eq (fun hk => H7.callg (t_isBV y w7) ?_) (fun hk => ?_)⟩
    · rintro _ w8 rfl H8
      refine ⟨_, rfl, t_fin H8 (bvS (x.n + y.n)) _ _ (by simp) ?_ (fun _ => rfl) (fun _ _ => rfl)⟩
      show _ = fitX 20 x y z
      rw [fe, hk]; rfl
    · refine t_fin H7 (bvS (x.n + y.n)) _ _ (by simp) ?_ (fun h => by cases h) (fun h _ => by cases h)
      show _ = fitX 20 x y z
      rw [fe, beq_eq_false_iff_ne.2 hk]; rfl
  -- Extract
  · have hr : rngX ⟨21, kids, n, m, u, tx, st⟩ x y z = (decide (0 ≤ m) && decide (m ≤ n) && decide (n < x.n)) := rfl
    refine H4.locg fun w5 H5 => ⟨_, (C H5).c2, _, (C H5).c3, _, (C H5).c3, H5.callg (t_bv _ w5) ?_⟩
    rintro _ w6 rfl H6
    refine ⟨_, _, _, rfl, (C H6).c3, H6.callg (t_isBV x w6) ?_⟩
    rintro _ w7 rfl H7
    refine ⟨_, rfl, (C H7).c3, sel_dec (fun g1 => ⟨_, (C H7).c3, _, (C H7).c2, sel_dec (fun g2 => ⟨_, (C H7).c2, t_fin H7 (bvS _) _ _ (by simp) rfl (fun _ => ?_) (fun _ g3 => ?_)⟩) (fun g2 => t_fin H7 (bvS _) _ _ (by simp) rfl (fun _ => ?_) (fun _ h => by cases h))⟩) (fun g1 => t_fin H7 (bvS _) _ _ (by simp) rfl (fun _ => ?_) (fun _ h => by cases h))⟩
    · rw [hr, decide_eq_true (show 0 ≤ m from g1), decide_eq_true (show m ≤ n from g2)]; rfl
    · have g1 : 0 ≤ m := g1
      have g2 : m ≤ n := g2
      have g3 : n < x.n := of_decide_eq_true g3
      show bvS (IntKind.wrap .i64 (IntKind.wrap .i64 (n - m) + 1)) = bvS (n - m + 1)
      rw [IntWalk.i64_in (n - m) (by omega), IntWalk.i64_in _ (by omega)]
    · rw [hr, decide_eq_false (show ¬ m ≤ n from g2), Bool.and_false]; rfl
    · rw [hr, decide_eq_false (show ¬ 0 ≤ m from g1)]; rfl
  -- Zext, Sext
  iterate 2
    · have e64 : IntKind.wrap .i64 (64 - x.n) = 64 - x.n := IntWalk.i64_in _ (by omega)
      refine H4.locg fun w5 H5 => ⟨_, (C H5).c2, _, (C H5).c2, H5.callg (t_bv _ w5) ?_⟩
      rintro _ w6 rfl H6
      refine ⟨_, _, _, rfl, (C H6).c2, H6.callg (t_isBV x w6) ?_⟩
      rintro _ w7 rfl H7
      refine ⟨_, rfl, (C H7).c2, sel_dec (fun g1 => ⟨_, (C H7).c2, t_fin H7 (bvS _) _ _ (by simp) rfl (fun _ => ?_) (fun _ g3 => ?_)⟩) (fun g1 => t_fin H7 (bvS _) _ _ (by simp) rfl (fun _ => ?_) (fun _ h => by cases h))⟩
      · show _ = (decide (1 ≤ n) && decide (n ≤ 64 - x.n))
        rw [e64, decide_eq_true (show 1 ≤ n from g1)]; rfl
      · have g1 : 1 ≤ n := g1
        rw [e64] at g3
        have g3 : n ≤ 64 - x.n := of_decide_eq_true g3
        show bvS (IntKind.wrap .i64 (x.n + n)) = bvS (x.n + n)
        rw [IntWalk.i64_in _ (by omega)]
      · show _ = (decide (1 ≤ n) && decide (n ≤ 64 - x.n))
        rw [decide_eq_false (show ¬ 1 ≤ n from g1)]; rfl
theorem store_fit {x y z : Srt} (ha : arrS x = true) : fitX 25 x y z = (decide (y = bvS x.x) && (if x.k = 3 then z.k == 1 && decide (z.n ≤ x.n) else decide (z = elemS x))) := by
  show (arrS x && decide (y = bvS x.x) && (decide (z = elemS x) || (x.k == 3 && z.k == 1 && decide (z.n ≤ x.n)))) = _
  rw [ha, Bool.true_and]
  congr 1
  by_cases h3 : x.k = 3
  · rw [if_pos h3, h3]
    have he : elemS x = strS x.n := by unfold elemS; rw [if_neg (by omega)]
    rw [he]
    by_cases hz : z = strS x.n
    · subst hz
      simp [strS]
    · rw [decide_eq_false hz]; rfl
  · rw [if_neg h3, beq_eq_false_iff_ne.2 h3]
    simp
theorem t_arrays {w : World} {p : Addr} {d : Nd} {x y z : Srt} (h : NdAt w p d) (h4 : 24 ≤ d.x.op) (h26 : d.x.op ≤ 26) :
    Calls Tryz.prog n_term_sortOfArrays #[.pointer (some p), srtV x, srtV y, srtV z] w fun r w' => ErrR (resX d.x x y z) (errX d.x x y z) r ∧ Fr0 w w' := by
  refine term_sortOfArrays.okT _ _ _ _ _ _ _ _ _ _ w _ ((lhP h).newg fun b5 w1 H1 => H1.newg fun b6 w2 H2 => H2.newg fun b7 w3 H3 => H3.newg fun b8 w4 H4 => ?_)
  have C : ∀ {w5 : World} {L : List En}, LH F0 w w5 L [.nda p d] → NdAt w5 p d := fun H => H.getD 0
  refine ⟨_, (C H4).c0, sel_eq (fun ho => H4.locg fun w5 H5 => H5.callg (t_bv x.x w5) ?_) (fun ho => H4.callg (t_bv x.n w4) ?_)⟩
  · rintro _ w6 rfl H6
    refine ⟨_, _, _, rfl, H6.callg (t_isArray x w6) ?_⟩
    rintro _ w7 rfl H7
    have fe : fitX d.x.op x y z = (arrS x && decide (x = y)) := by rw [ho]; rfl
    have fr : rngX d.x x y z = true := by unfold rngX; rw [ho]; rfl
    have fs : resX d.x x y z = bvS x.x := by unfold resX; rw [ho]; rfl
    refine ⟨_, rfl, sel_intro (fun hk => ?_) (fun hk => ?_)⟩
    · refine t_fin H7 (bvS x.x) _ true (by omega) ?_ (fun _ => fr.symm) (fun _ _ => fs.symm)
      rw [fe, srt_eq, hk]; rfl
    · refine t_fin H7 (bvS x.x) _ true (by omega) ?_ (fun _ => fr.symm) (fun _ _ => fs.symm)
      rw [fe, hk]; rfl
  rintro _ w6 rfl H6
  have fr : rngX d.x x y z = true := by unfold rngX; rw [if_neg (by omega), if_neg (by omega), if_neg (by omega), if_neg (by omega), if_neg (by omega)]
  have S1 : ∀ (t : Srt) (b10 : Nat) (f : Bool) (w7 : World), f = (arrS x && decide (y = bvS x.x)) → (arrS x = true → t = elemS x) → LH F0 w w7 [.g b5, .g b6, .g b7, .g b8, .g b10] [.nda p d] → term_sortOfArrays.S1T p b5 x.k x.n x.x b7 z.k z.n z.x b8 0 0 0 b10 t.k t.n t.x f w7 fun r w' => ErrR (resX d.x x y z) (errX d.x x y z) r ∧ Fr0 w w' := by
    intro t b10 f w7 hf ht H7
    refine ⟨_, (C H7).c0, sel_eq (fun h24 => ?_) (fun h24 => ?_)⟩
    · refine t_fin H7 t f true (by omega) ?_ (fun _ => fr.symm) (fun hh _ => ?_)
      · rw [hf, h24]; rfl
      · rw [hf] at hh
        simp only [Bool.and_eq_true] at hh
        rw [ht hh.1]
        unfold resX; rw [h24]; rfl
    have h25 : d.x.op = 25 := by omega
    have fs : resX d.x x y z = x := by unfold resX; rw [h25]; rfl
    have ff : f = false → fitX d.x.op x y z = false := fun h => by
      rw [h25]
      show (arrS x && decide (y = bvS x.x) && (decide (z = elemS x) || (x.k == 3 && z.k == 1 && decide (z.n ≤ x.n)))) = _
      rw [← hf, h]; rfl
    have ft : f = true → arrS x = true ∧ fitX d.x.op x y z = (if x.k = 3 then z.k == 1 && decide (z.n ≤ x.n) else decide (z = elemS x)) := fun h => by
      rw [h] at hf
      have hf := hf.symm
      simp only [Bool.and_eq_true] at hf
      refine ⟨hf.1, ?_⟩
      rw [h25, store_fit hf.1, hf.2, Bool.true_and]
    refine sel_eq (fun hk => sel_intro (fun hft => H7.locg fun w8 H8 => H8.callg (t_isStr z w8) ?_) (fun hff => H7.locg fun w8 H8 => t_fin H8 x _ true (by omega) (ff hff).symm (fun _ => fr.symm) (fun _ _ => fs.symm))) (fun hk => sel_intro (fun hft => H7.locg fun w8 H8 => t_fin H8 x _ true (by omega) ?_ (fun _ => fr.symm) (fun _ _ => fs.symm)) (fun hff => H7.locg fun w8 H8 => t_fin H8 x _ true (by omega) (ff hff).symm (fun _ => fr.symm) (fun _ _ => fs.symm)))
    · rintro _ w9 rfl H9
      have := (ft hft).2
      rw [if_pos hk] at this
      refine ⟨_, rfl, sel_eq (fun hz => t_fin H9 x _ true (by omega) ?_ (fun _ => fr.symm) (fun _ _ => fs.symm)) (fun hz => t_fin H9 x _ true (by omega) ?_ (fun _ => fr.symm) (fun _ _ => fs.symm))⟩
      · rw [this, hz]; rfl
      · rw [this, beq_eq_false_iff_ne.2 hz]; rfl
    · have h2 := ft hft
      rw [if_neg hk] at h2
      rw [h2.2, srt_eq, ht h2.1]
  have S0 : ∀ (t : Srt) (b10 : Nat) (w7 : World), (arrS x = true → t = elemS x) → LH F0 w w7 [.g b5, .g b6, .g b7, .g b8, .g b10] [.nda p d] → term_sortOfArrays.S0T p b5 x.k x.n x.x b6 y.k y.n y.x b7 z.k z.n z.x b8 0 0 0 b10 t.k t.n t.x w7 fun r w' => ErrR (resX d.x x y z) (errX d.x x y z) r ∧ Fr0 w w' := by
    intro t b10 w7 ht H7
    refine H7.locg fun w8 H8 => H8.callg (t_isArray x w8) ?_
    rintro _ w9 rfl H9
    refine ⟨_, rfl, sel_intro (fun hk => H9.callg (t_bv x.x w9) ?_) (fun hk => S1 t b10 false w9 (by rw [hk]; rfl) ht H9)⟩
    rintro _ w10 rfl H10
    exact ⟨_, _, _, rfl, S1 t b10 _ w10 (by rw [hk]; exact srt_eq y (bvS x.x)) ht H10⟩
  refine ⟨_, _, _, rfl, H6.newg fun b10 w7 H7 => sel_eq (fun hk => H7.locg fun w8 H8 => H8.callg (t_str x.n w8) ?_) (fun hk => H7.locg fun w8 H8 => S0 (bvS x.n) b10 w8 (fun ha => ?_) H8)⟩
  · rintro _ w9 rfl H9
    exact ⟨_, _, _, rfl, H9.locg fun w10 H10 => S0 (strS x.n) b10 w10 (fun _ => by unfold elemS; rw [if_neg (by omega)]) H10⟩
  · unfold arrS at ha
    simp only [Bool.or_eq_true, beq_iff_eq] at ha
    unfold elemS
    rw [if_pos (by omega)]
end Go.Proofs.YtnpkhgljhcnpcaaGreatDoor
set_option maxRecDepth 100000
set_option maxHeartbeats 1000000
namespace Go.Proofs.YtnpkhgljhcnpcaaGreatDoor
open Go Go.W

/-- isNormal says what is said of a text -/
def NormOk (t : ByteArray) : Prop := ∀ w, Calls Tryz.prog n_term_isNormal #[.string t] w fun r w' => r = .returned (.bool (canX t)) ∧ Fr0 w w'
theorem t_strings {w : World} {p : Addr} {d : Nd} {x y z : Srt} (h : NdAt w p d) (h27 : 27 ≤ d.x.op) (h34 : d.x.op ≤ 34) (hx : Bnd x) (hy : Bnd y) (hz : Bnd z) (hN : d.x.op = 33 → NormOk d.x.tx) :
    Calls Tryz.prog n_term_sortOfStrings #[.pointer (some p), srtV x, srtV y, srtV z] w fun r w' => ErrR (resX d.x x y z) (errX d.x x y z) r ∧ Fr0 w w' := by
  refine term_sortOfStrings.okT _ _ _ _ _ _ _ _ _ _ w _ ((lhP h).newg fun b5 w1 H1 => H1.newg fun b6 w2 H2 => H2.newg fun b7 w3 H3 => H3.newg fun b8 w4 H4 => ?_)
  obtain ⟨⟨op, kids, n, m, u, tx, st⟩, ksl⟩ := d
  have C : ∀ {w5 : World} {L : List En}, LH F0 w w5 L [.nda p ⟨⟨op, kids, n, m, u, tx, st⟩, ksl⟩] → NdAt w5 p ⟨⟨op, kids, n, m, u, tx, st⟩, ksl⟩ := fun H => H.getD 0
  simp only at h27 h34 hN
  refine ⟨op, (C H4).c0, ?_⟩
  obtain ⟨hx1, hx2⟩ := hx
  obtain ⟨hy1, hy2⟩ := hy
  obtain ⟨hz1, hz2⟩ := hz
  have hops : op = 27 ∨ op = 28 ∨ op = 29 ∨ op = 30 ∨ op = 31 ∨ op = 32 ∨ op = 33 ∨ op = 34 := by omega
  rcases hops with rfl | rfl | rfl | rfl | rfl | rfl | rfl | rfl
  all_goals repeat (first | refine sel_false rfl ?_ | refine sel_true rfl ?_)
  -- Len
  · refine H4.locg fun w5 H5 => H5.callg (t_bv 7 w5) ?_
    rintro _ w6 rfl H6
    refine ⟨_, _, _, rfl, H6.callg (t_isStr x w6) ?_⟩
    rintro _ w7 rfl H7
    exact ⟨_, rfl, t_fin H7 (bvS 7) _ true (by simp) rfl (fun _ => rfl) (fun _ _ => rfl)⟩
  -- Byte
  · have hr : rngX ⟨28, kids, n, m, u, tx, st⟩ x y z = (decide (0 ≤ n) && decide (n ≤ 63)) := rfl
    refine H4.locg fun w5 H5 => ⟨_, (C H5).c2, H5.callg (t_bv 8 w5) ?_⟩
    rintro _ w6 rfl H6
    refine ⟨_, _, _, rfl, (C H6).c2, H6.callg (t_isStr x w6) ?_⟩
    rintro _ w7 rfl H7
    refine ⟨_, rfl, (C H7).c2, sel_dec (fun g1 => ⟨_, (C H7).c2, t_fin H7 (bvS 8) _ _ (by simp) rfl (fun _ => ?_) (fun _ _ => rfl)⟩) (fun g1 => t_fin H7 (bvS 8) _ _ (by simp) rfl (fun _ => ?_) (fun _ h => by cases h))⟩
    · rw [hr, decide_eq_true (show 0 ≤ n from g1), Bool.true_and]
      exact decide_eq_decide.2 (by show n < 64 ↔ n ≤ 63; omega)
    · rw [hr, decide_eq_false (show ¬ 0 ≤ n from g1)]; rfl
  -- Cat
  · have e1 : IntKind.wrap .i64 (x.n + y.n) = x.n + y.n := IntWalk.i64_in _ (by omega)
    have fe : fitX 29 x y z = (x.k == 1 && y.k == 1) := rfl
    refine H4.locg fun w5 H5 => ?_
    rw [e1]
    refine H5.callg (t_str _ w5) ?_
    rintro _ w6 rfl H6
    refine ⟨_, _, _, rfl, H6.callg (t_isStr x w6) ?_⟩
    rintro _ w7 rfl H7
    refine ⟨_, rfl, sel_eq (fun hk => H7.callg (t_isStr y w7) ?_) (fun hk => ?_)⟩
    · rintro _ w8 rfl H8
      refine ⟨_, rfl, t_fin H8 (strS (x.n + y.n)) _ _ (by simp) ?_ (fun _ => rfl) (fun _ _ => rfl)⟩
      show _ = fitX 29 x y z
      rw [fe, hk]; rfl
    · refine t_fin H7 (strS (x.n + y.n)) _ _ (by simp) ?_ (fun h => by cases h) (fun h _ => by cases h)
      show _ = fitX 29 x y z
      rw [fe, beq_eq_false_iff_ne.2 hk]; rfl
  -- Sub
  · have fe : fitX 30 x y z = (x.k == 1 && decide (y = bvS 7) && decide (z = bvS 7)) := rfl
    refine H4.locg fun w5 H5 => H5.callg (t_isStr x w5) ?_
    rintro _ w6 rfl H6
    refine ⟨_, rfl, sel_eq (fun hk => H6.callg (t_bv 7 w6) ?_) (fun hk => t_fin H6 x _ true (by simp) ?_ (fun _ => rfl) (fun _ _ => rfl))⟩
    · rintro _ w7 rfl H7
      refine ⟨_, _, _, rfl, sel_srt (a := y) (b := bvS 7) (fun he => H7.callg (t_bv 7 w7) ?_) (fun he => t_fin H7 x _ true (by simp) ?_ (fun _ => rfl) (fun _ _ => rfl))⟩
      · rintro _ w8 rfl H8
        refine ⟨_, _, _, rfl, t_fin H8 x _ true (by simp) ?_ (fun _ => rfl) (fun _ _ => rfl)⟩
        show _ = fitX 30 x y z
        rw [fe, hk, decide_eq_true he]
        exact srt_eq z (bvS 7)
      · show _ = fitX 30 x y z
        rw [fe, decide_eq_false he, Bool.and_false]; rfl
    · show _ = fitX 30 x y z
      rw [fe, beq_eq_false_iff_ne.2 hk]; rfl
  -- Find
  · have fe : fitX 31 x y z = (x.k == 1 && y.k == 1) := rfl
    refine H4.locg fun w5 H5 => H5.callg (t_bv 7 w5) ?_
    rintro _ w6 rfl H6
    refine ⟨_, _, _, rfl, H6.callg (t_isStr x w6) ?_⟩
    rintro _ w7 rfl H7
    refine ⟨_, rfl, sel_eq (fun hk => H7.callg (t_isStr y w7) ?_) (fun hk => ?_)⟩
    · rintro _ w8 rfl H8
      refine ⟨_, rfl, t_fin H8 (bvS 7) _ true (by simp) ?_ (fun _ => rfl) (fun _ _ => rfl)⟩
      show _ = fitX 31 x y z
      rw [fe, hk]; rfl
    · refine t_fin H7 (bvS 7) _ true (by simp) ?_ (fun _ => rfl) (fun _ _ => rfl)
      show _ = fitX 31 x y z
      rw [fe, beq_eq_false_iff_ne.2 hk]; rfl
  -- Replace
  · have e1 : IntKind.wrap .i64 (x.n + z.n) = x.n + z.n := IntWalk.i64_in _ (by omega)
    have fe : fitX 32 x y z = (x.k == 1 && y.k == 1 && z.k == 1) := rfl
    refine H4.locg fun w5 H5 => ?_
    rw [e1]
    refine H5.callg (t_str _ w5) ?_
    rintro _ w6 rfl H6
    refine ⟨_, _, _, rfl, H6.callg (t_isStr x w6) ?_⟩
    rintro _ w7 rfl H7
    have no : ∀ {w8 : World} {L : List En} {bs bs' : List Nat}, LH F0 w w8 L [.nda p ⟨⟨32, kids, n, m, u, tx, st⟩, ksl⟩] → (∀ b ∈ bs, En.g b ∈ L) → fitX 32 x y z = false → callF bs' Tryz.prog n_term_result #[srtV (strS (x.n + z.n)), .bool false, .bool (decide (x.n + z.n ≤ 64))] w8 fun r w5 => ∃ a b c e : Int, r = .returned (.tuple #[.agg #[.i a, .i b, .i c], .i e]) ∧ loc bs w5 fun w6 => ErrR (resX ⟨32, kids, n, m, u, tx, st⟩ x y z) (errX ⟨32, kids, n, m, u, tx, st⟩ x y z) (.returned (.tuple #[.agg #[.i a, .i b, .i c], .i e])) ∧ Fr0 w w6 := fun H8 hb hf => t_fin H8 _ _ _ (by simp) hf.symm (fun h => by cases h) (fun h _ => by cases h) hb
    refine ⟨_, rfl, sel_eq (fun hk => H7.callg (t_isStr y w7) ?_) (fun hk => no H7 (by simp) ?_)⟩
    · rintro _ w8 rfl H8
      refine ⟨_, rfl, sel_eq (fun hk2 => H8.callg (t_isStr z w8) ?_) (fun hk2 => no H8 (by simp) ?_)⟩
      · rintro _ w9 rfl H9
        refine ⟨_, rfl, t_fin H9 (strS (x.n + z.n)) _ _ (by simp) ?_ (fun _ => rfl) (fun _ _ => rfl)⟩
        show _ = fitX 32 x y z
        rw [fe, hk, hk2]; rfl
      · rw [fe, beq_eq_false_iff_ne.2 hk2, Bool.and_false]; rfl
    · rw [fe, beq_eq_false_iff_ne.2 hk]; rfl
  -- In
  · have fe : fitX 33 x y z = (x.k == 1) := rfl
    have fr : rngX ⟨33, kids, n, m, u, tx, st⟩ x y z = true := rfl
    refine H4.callg (t_isStr x w4) ?_
    rintro _ w5 rfl H5
    refine ⟨_, rfl, sel_not (fun hk => H5.locg fun w6 H6 => ⟨⟨x, 9, rfl, ?_, fun h => ?_⟩, H6.fr⟩) (fun hk => ⟨tx, (C H5).c5, H5.callg (hN rfl w5) ?_⟩)⟩
    · unfold errX
      rw [show fitX (33 : Int) x y z = false from hk]; rfl
    · unfold errX at h
      rw [show fitX (33 : Int) x y z = false from hk] at h
      cases h
    · rintro _ w6 rfl H6
      have he : errX ⟨33, kids, n, m, u, tx, st⟩ x y z = if canX tx = false then 2 else 0 := by
        unfold errX
        rw [show fitX (33 : Int) x y z = true from hk, fr]
        simp
      refine ⟨_, rfl, sel_not (fun hc => H6.locg fun w7 H7 => ⟨⟨x, 2, rfl, ?_, fun h => ?_⟩, H7.fr⟩) (fun hc => H6.callg (t_bv 1 w6) ?_)⟩
      · rw [he, if_pos hc]
      · rw [he, if_pos hc] at h
        cases h
      · rintro _ w7 rfl H7
        exact ⟨_, _, _, rfl, H7.locg fun w8 H8 => ⟨⟨bvS 1, 0, rfl, by rw [he, if_neg (by rw [hc]; simp)], fun _ => rfl⟩, H8.fr⟩⟩
  -- Char
  · refine H4.locg fun w5 H5 => H5.callg (t_str 1 w5) ?_
    rintro _ w6 rfl H6
    refine ⟨_, _, _, rfl, H6.callg (t_bv 8 w6) ?_⟩
    rintro _ w7 rfl H7
    exact ⟨_, _, _, rfl, t_fin H7 (strS 1) _ true (by simp) (srt_eq x (bvS 8)) (fun _ => rfl) (fun _ _ => rfl)⟩
theorem fdiv_big (u n : Int) (h0 : 0 ≤ u) (h1 : 0 ≤ n) (h2 : n < 64) : ((Int.fdiv u (2 ^ (min (Int.toNat n) (IntKind.bits .u64)))) != 0) = decide (2 ^ n.toNat ≤ u) := by
  have e : min (Int.toNat n) (IntKind.bits .u64) = n.toNat := by show min n.toNat 64 = _; omega
  rw [e]
  have hp : (0 : Int) < 2 ^ n.toNat := Int.pow_pos (by decide)
  generalize (2 : Int) ^ n.toNat = q at hp
  have hd := Int.fdiv_eq_ediv_of_nonneg u (by omega : 0 ≤ q)
  rw [hd]
  by_cases hq : q ≤ u
  · rw [decide_eq_true hq]
    have : 1 ≤ u / q := by rw [Int.le_ediv_iff_mul_le hp]; omega
    simp only [bne_iff_ne, ne_eq]
    omega
  · rw [decide_eq_false hq]
    rw [Int.ediv_eq_zero_of_lt h0 (by omega)]
    rfl
/-- the error of a leaf, the sort -/
theorem t_leaf {w : World} {p : Addr} {d : Nd} (g : List Nx) (h : NdAt w p d) (h1 : 1 ≤ d.x.op) (h3 : d.x.op ≤ 3) (hu : 0 ≤ d.x.u) :
    Calls Tryz.prog n_term_sortOfLeaf #[.pointer (some p)] w fun r w' => ErrR (leafX g d.x).1 (leafX g d.x).2 r ∧ Fr0 w w' := by
  refine term_sortOfLeaf.okT _ w _ ((lhP h).newg fun b2 w1 H1 => ?_)
  have C : ∀ {w5 : World} {L : List En}, LH F0 w w5 L [.nda p d] → NdAt w5 p d := fun H => H.getD 0
  have er : ∀ (t : Srt) (e : Int) (w5 : World), e ≠ 0 → (leafX g d.x) = (noS, e) → LH F0 w w5 [.g b2] [.nda p d] → loc [b2] w5 fun w6 => ErrR (leafX g d.x).1 (leafX g d.x).2 (.returned (.tuple #[.agg #[.i t.k, .i t.n, .i t.x], .i e])) ∧ Fr0 w w6 := fun t e w5 h0 he H5 => H5.locg fun w6 H6 => ⟨⟨t, e, rfl, by rw [he], fun h => by rw [he] at h; exact absurd h h0⟩, H6.fr⟩
  have ok : ∀ (t : Srt) (w5 : World), (leafX g d.x) = (t, 0) → LH F0 w w5 [.g b2] [.nda p d] → loc [b2] w5 fun w6 => ErrR (leafX g d.x).1 (leafX g d.x).2 (.returned (.tuple #[.agg #[.i t.k, .i t.n, .i t.x], .i 0])) ∧ Fr0 w w6 := fun t w5 he H5 => H5.locg fun w6 H6 => ⟨⟨t, 0, rfl, by rw [he], fun _ => by rw [he]⟩, H6.fr⟩
  refine ⟨_, (C H1).c0, sel_eq (fun h2 => ?_) (fun h2 => ?_)⟩
  · refine ⟨_, (C H1).c5, sel_dec (fun hs => ⟨_, _, _, (C H1).s0, (C H1).s1, (C H1).s2, er d.x.st 5 w1 (by decide) ?_ H1⟩) (fun hs => ⟨_, (C H1).c5, H1.callg (t_str _ w1) ?_⟩)⟩
    · unfold leafX; rw [if_pos h2, if_pos (by omega)]
    · rintro _ w2 rfl H2
      refine ⟨_, _, _, rfl, ok (strS d.x.tx.size) w2 ?_ H2⟩
      unfold leafX; rw [if_pos h2, if_neg (by omega)]
  have l1 : leafX g d.x = if validS d.x.st = false then (noS, 9) else
      if d.x.op = 1 ∧ d.x.st.k ≠ 0 ∨ d.x.op = 3 ∧ arrS d.x.st = false then (noS, 9) else
      if d.x.op = 1 ∧ big d.x.u d.x.st.n = true then (noS, 5) else (d.x.st, 0) := by
    unfold leafX; rw [if_neg h2, if_neg (fun h => by omega)]
    have : ¬ (d.x.op = 0 ∧ twice g d.x = true) := fun h => by omega
    simp only [this, if_false]
  refine ⟨_, _, _, (C H1).s0, (C H1).s1, (C H1).s2, H1.callg (t_ValidSort d.x.st w1) ?_⟩
  rintro _ w2 rfl H2
  refine ⟨_, rfl, sel_srtE (fun hv => ⟨_, _, _, (C H2).s0, (C H2).s1, (C H2).s2, ?_⟩) (fun hv => ?_)⟩
  · have : sortE d.x.st = 9 := by unfold sortE; rw [hv]; rfl
    rw [this]
    exact er d.x.st 9 w2 (by decide) (by rw [l1, if_pos hv]) H2
  rw [if_neg (by rw [hv]; simp)] at l1
  refine ⟨_, (C H2).c0, sel_eq (fun h3 => ⟨_, _, _, (C H2).s0, (C H2).s1, (C H2).s2, H2.callg (t_isArray d.x.st w2) ?_⟩) (fun h3' => ?_)⟩
  · rintro _ w3 rfl H3
    refine ⟨_, rfl, sel_not (fun ha => ⟨_, _, _, (C H3).s0, (C H3).s1, (C H3).s2, er d.x.st 9 w3 (by decide) ?_ H3⟩) (fun ha => ⟨_, _, _, (C H3).s0, (C H3).s1, (C H3).s2, ok d.x.st w3 ?_ H3⟩)⟩
    · rw [l1, if_pos (.inr ⟨h3, ha⟩)]
    · rw [l1, if_neg (by rintro (h | h); omega; rw [ha] at h; cases h.2), if_neg (by rintro ⟨h, _⟩; omega)]
  have h1 : d.x.op = 1 := by omega
  refine ⟨_, (C H2).s0, sel_ne (fun hk => ⟨_, _, _, (C H2).s0, (C H2).s1, (C H2).s2, er d.x.st 9 w2 (by decide) ?_ H2⟩) (fun hk => H2.locg fun w3 H3 => ?_)⟩
  · rw [l1, if_pos (.inl ⟨h1, hk⟩)]
  rw [if_neg (by rintro (h | h); exact h.2 hk; omega)] at l1
  obtain ⟨v1, v2, _⟩ := valid_bv hv hk
  have S0 : leafX g d.x = (d.x.st, 0) → term_sortOfLeaf.S0T p b2 0 0 0 w3 fun r w' => ErrR (leafX g d.x).1 (leafX g d.x).2 r ∧ Fr0 w w' := fun he => ⟨_, _, _, (C H3).s0, (C H3).s1, (C H3).s2, ok d.x.st w3 he H3⟩
  refine ⟨_, (C H3).s1, sel_dec (fun h64 => ⟨_, (C H3).c4, _, (C H3).s1, by omega, ?_⟩) (fun h64 => S0 ?_)⟩
  · rw [fdiv_big _ _ hu (by omega) h64]
    refine sel_dec (fun hb => ⟨_, _, _, (C H3).s0, (C H3).s1, (C H3).s2, er d.x.st 5 w3 (by decide) ?_ H3⟩) (fun hb => S0 ?_)
    · rw [l1, if_pos ⟨h1, by unfold big; rw [decide_eq_true h64, decide_eq_true hb]; rfl⟩]
    · rw [l1, if_neg]
      rintro ⟨_, hh⟩
      unfold big at hh
      rw [decide_eq_false hb, Bool.and_false] at hh
      cases hh
  · rw [l1, if_neg]
    rintro ⟨_, hh⟩
    unfold big at hh
    rw [decide_eq_false h64] at hh
    cases hh
/-- what a look-up of a name returns -/
def lookR (g : List Nx) (t : ByteArray) : Ending := match varS g t with
  | some s => .returned (.tuple #[srtV s, .bool true])
  | none => .returned (.tuple #[srtV noS, .bool false])
theorem t_var {w : World} {p : Addr} {d : Nd} {D : List En} (g : List Nx) (lk : Fv) (H : LH F0 w w [] (.nda p d :: D)) (hc : callable Tryz.prog lk.n = true) (hl : ∀ w' : World, (∀ e ∈ D, e.P w') → Calls Tryz.prog lk.n (lk.bs ++ #[.string d.x.tx] ++ lk.cs) w' fun r w'' => r = lookR g d.x.tx ∧ Fr0 w' w'') (h0 : d.x.op = 0) :
    Calls Tryz.prog n_term_sortOfVar #[.pointer (some p), lk.v] w fun r w' => ErrR (leafX g d.x).1 (leafX g d.x).2 r ∧ Fr0 w w' := by
  have C : ∀ {w5 : World} {L : List En}, LH F0 w w5 L (.nda p d :: D) → NdAt w5 p d := fun H => H.getD 0
  have l1 : leafX g d.x = if nameB (bl d.x.tx) = false then (noS, 6) else if validS d.x.st = false then (noS, 9) else if twice g d.x = true then (noS, 8) else (d.x.st, 0) := by
    unfold leafX
    rw [if_neg (by omega)]
    simp [h0]
  have fin : ∀ (e : Int) (w5 : World) (L : List En) (i : Nat) (b : Nat) (c0 c1 c2 : Value), LH F0 w w5 L (.nda p d :: D) → L[i]? = some (.c b [c0, c1, c2] ty_api_Sort) → leafX g d.x = (if e = 0 then d.x.st else noS, e) → stW3 w5 (at0 b) (.i d.x.st.k) (.i d.x.st.n) (.i d.x.st.x) fun w6 => ld3_2 w6 (at0 b) fun a0 a1 a2 => ErrR (leafX g d.x).1 (leafX g d.x).2 (.returned (.tuple #[.agg #[.i a0, .i a1, .i a2], .i e])) ∧ Fr0 w w6 := by
    intro e w5 L i b c0 c1 c2 H5 hi he
    refine H5.st3 i hi fun w6 H6 => ?_
    have hi6 : (L.set i (.c b [Value.i d.x.st.k, .i d.x.st.n, .i d.x.st.x] ty_api_Sort))[i]? = some (.c b [Value.i d.x.st.k, .i d.x.st.n, .i d.x.st.x] ty_api_Sort) := by
      rw [List.getElem?_set_self (List.getElem?_eq_some_iff.1 hi).1]
    refine ⟨_, _, _, H6.ld i 0 hi6, H6.ld i 1 hi6, H6.ld i 2 hi6, ⟨d.x.st, e, rfl, by rw [he], fun h => ?_⟩, H6.fr⟩
    rw [he] at h ⊢
    rw [if_pos h]
  refine term_sortOfVar.ok p lk w _ (H.nw fun w1 _ H1 => ⟨_, (C H1).c5, H1.call (t_isName d.x.tx w1) ?_⟩)
  rintro _ w2 rfl H2
  refine ⟨_, rfl, sel_not (fun hn => ⟨_, _, _, (C H2).s0, (C H2).s1, (C H2).s2, fin 6 w2 _ 0 _ _ _ _ H2 rfl (by rw [l1, if_pos hn]; rfl)⟩) (fun hn => ⟨_, _, _, (C H2).s0, (C H2).s1, (C H2).s2, H2.call (t_ValidSort d.x.st w2) ?_⟩)⟩
  rw [if_neg (by rw [hn]; simp)] at l1
  rintro _ w3 rfl H3
  refine ⟨_, rfl, sel_srtE (fun hv => ⟨_, _, _, (C H3).s0, (C H3).s1, (C H3).s2, ?_⟩) (fun hv => ⟨_, (C H3).c5, ?_⟩)⟩
  · have : sortE d.x.st = 9 := by unfold sortE; rw [hv]; rfl
    rw [this]
    exact fin 9 w3 _ 0 _ _ _ _ H3 rfl (by rw [l1, if_pos hv]; rfl)
  rw [if_neg (by rw [hv]; simp)] at l1
  rw [hc]
  refine (show AndT true _ from ?_)
  refine H3.call (hl w3 (fun e he => H3.rd e (List.mem_cons_of_mem _ he))) ?_
  rintro _ w4 rfl H4
  have S0 : ∀ (w5 : World) (L : List En) (c0 c1 c2 : Value), LH F0 w w5 L (.nda p d :: D) → L[0]? = some (.c w.heap.size [c0, c1, c2] ty_api_Sort) → twice g d.x = false → term_sortOfVar.S0 p (at0 w.heap.size) w5 fun r w' => ErrR (leafX g d.x).1 (leafX g d.x).2 r ∧ Fr0 w w' := fun w5 L c0 c1 c2 H5 hi ht => ⟨_, _, _, (C H5).s0, (C H5).s1, (C H5).s2, fin 0 w5 L 0 _ c0 c1 c2 H5 hi (by rw [l1, if_neg (by rw [ht]; simp)]; rfl)⟩
  unfold twice at l1 S0
  unfold lookR
  cases hs : varS g d.x.tx with
  | none =>
    rw [hs] at l1 S0
    refine ⟨noS.k, noS.n, noS.x, false, rfl, H4.nw fun w5 _ H5 => H5.st3 1 rfl fun w8 H8 => H8.dr fun w9 H9 => sel_false rfl ?_⟩
    exact S0 w9 _ _ _ _ H9 rfl rfl
  | some t =>
    rw [hs] at l1 S0
    refine ⟨t.k, t.n, t.x, true, rfl, H4.nw fun w5 _ H5 => H5.st3 1 rfl fun w8 H8 => H8.dr fun w9 H9 => sel_true rfl ⟨_, _, _, H9.ld 1 0, H9.ld 1 1, H9.ld 1 2, _, _, _, (C H9).s0, (C H9).s1, (C H9).s2, sel_srtN (a := t) (b := d.x.st) (fun hne => ⟨_, _, _, (C H9).s0, (C H9).s1, (C H9).s2, fin 8 w9 _ 0 _ _ _ _ H9 rfl ?_⟩) (fun heq => S0 w9 _ _ _ _ H9 rfl ?_)⟩⟩
    · rw [l1, if_pos (by simp [hne])]; rfl
    · simp [heq]
end Go.Proofs.YtnpkhgljhcnpcaaGreatDoor
set_option maxRecDepth 100000
set_option maxHeartbeats 1000000
namespace Go.Proofs.YtnpkhgljhcnpcaaGreatDoor
open Go Go.W

/-- the table of the numbers of kids, as it lies in memory -/
def kcL : List Int := [0, 0, 0, 0, 1, 1, 2, 2, 2, 2, 2, 2, 2, 2, 2, 2, 2, 2, 2, 3, 2, 1, 1, 1, 2, 3, 2, 1, 1, 2, 3, 2, 3, 1, 1]
abbrev kcE : En := .rd ⟨some (at0 0), 35, 35⟩ (kcL.map intV)
theorem kc_at {op : Int} (h0 : 0 ≤ op) (h1 : op ≤ 34) : kcL[op.toNat]? = some (kidsN op) := by
  rcases op_all h0 h1 with rfl | rfl | rfl | rfl | rfl | rfl | rfl | rfl | rfl | rfl | rfl | rfl | rfl | rfl | rfl | rfl | rfl | rfl | rfl | rfl | rfl | rfl | rfl | rfl | rfl | rfl | rfl | rfl | rfl | rfl | rfl | rfl | rfl | rfl | rfl <;> rfl
section
variable {M : Nat → Prop} {w0 w : World} {L D : List En} {bs : List Nat}
theorem _root_.Go.W.LH.stc (H : LH M w0 w L D) (i a c : Nat) {b : Nat} {vs : List Value} {T : TypeId} {v : Value} {K : World → Prop} (hi : L[i]? = some (.c b vs T)) (hK : ∀ w', LH M w0 w' (L.set i (.c b (vs.set (a + c) v) T)) D → K w') (hj : a + c < vs.length := by simp [srtC]) (hbs : ∀ b ∈ bs, En.g b ∈ L := by simp) :
    stV w (((at0 b).add a).add c) v fun w1 => kept bs w w1 ∧ K w1 := by
  rw [add_add]
  obtain ⟨x1, x2, x3, x4⟩ := set_c (H.ob i hi) (a + c) (by simpa using hj) v
  obtain ⟨_, _, h3⟩ := H.set (v := v) i (a + c) hi hj
  refine ⟨x1, x2, fun b' hb' => ?_, hK _ h3⟩
  refine x4.keep b' (H.own _ (hbs b' hb')) fun e => ?_
  have := ghost_off H hi (c_off w b vs T) (hbs b' hb')
  exact this (by rw [e]; exact c_fp.2 rfl)
theorem _root_.Go.W.LH.stc0 (H : LH M w0 w L D) (i a : Nat) {b : Nat} {vs : List Value} {T : TypeId} {v : Value} {K : World → Prop} (hi : L[i]? = some (.c b vs T)) (hK : ∀ w', LH M w0 w' (L.set i (.c b (vs.set a v) T)) D → K w') (hj : a < vs.length := by simp [srtC]) (hbs : ∀ b ∈ bs, En.g b ∈ L := by simp) :
    stV w ((at0 b).add a) v fun w1 => kept bs w w1 ∧ K w1 := by
  have := H.stc (v := v) (K := K) i a 0 hi hK hj hbs
  rwa [add0] at this
end
theorem srtX_err {g : List Nx} {n : Nx} (h : (kidsN n.op == (n.kids.length : Int) && n.kids.all (kidIn g) && okF n) = true) (h4 : ¬ n.op ≤ 3) : srtX g n = if errX n (kst g n 0) (kst g n 1) (kst g n 2) ≠ 0 then (noS, errX n (kst g n 0) (kst g n 1) (kst g n 2)) else (resX n (kst g n 0) (kst g n 1) (kst g n 2), 0) := by
  unfold srtX errX
  rw [h, if_neg (by simp), if_neg h4]
  generalize fitX n.op (kst g n 0) (kst g n 1) (kst g n 2) = a
  generalize rngX n (kst g n 0) (kst g n 1) (kst g n 2) = b
  cases a
  · rfl
  · cases b
    · rfl
    · by_cases hc : n.op = 33 ∧ canX n.tx = false
      · simp [hc]
      · simp [hc]
theorem leaf_err {g : List Nx} {n : Nx} (h : (leafX g n).2 ≠ 0) : leafX g n = (noS, (leafX g n).2) := by
  unfold leafX at h ⊢
  split
  · split
    · rfl
    · rename_i h2 h64
      rw [if_pos h2, if_neg h64] at h
      exact absurd rfl h
  · rename_i h2
    rw [if_neg h2] at h
    split
    · rfl
    · rename_i h3
      rw [if_neg h3] at h
      split
      · rfl
      · rename_i h4
        rw [if_neg h4] at h
        split
        · rfl
        · rename_i h5
          rw [if_neg h5] at h
          split
          · rfl
          · rename_i h6
            rw [if_neg h6] at h
            split
            · rfl
            · rename_i h7
              rw [if_neg h7] at h
              exact absurd rfl h
/-- what the package asks of a node -/
structure TOk (d : Nx) : Prop where
  kl : d.kids.length ≤ 1000000000
  n : I64 d.n
  m : I64 d.m
  u : 0 ≤ d.u
  tx : d.op = 33 → NormOk d.tx
/-- the cells of three sorts -/
abbrev cs3 (a b c : Srt) : List Value := srtC a ++ srtC b ++ srtC c
def upK (g : List Nx) (n : Nx) (i j : Nat) : Srt := if j < i then kst g n j else noS
theorem kst_none {g : List Nx} {n : Nx} {j : Nat} (h : n.kids.length ≤ j) : kst g n j = noS := by
  unfold kst
  rw [List.getElem?_eq_none h]
theorem kst_get {l : List Nd} {n : Nx} {i : Nat} {k : Int} {e : Nd} (hk : n.kids[i]? = some k) (he : l[k.toNat]? = some e) : kst (xs l) n i = e.x.st := by
  unfold kst
  rw [hk]
  dsimp only
  rw [xs_get he]
theorem kst_bnd {g : List Nx} {n : Nx} (hv : ∀ d ∈ g, validS d.st = true) (j : Nat) : Bnd (kst g n j) := by
  unfold kst
  split
  · split
    · rename_i hd
      exact valid_bnd (hv _ (List.mem_of_getElem? hd))
    · exact no_bnd
  · exact no_bnd
theorem t_sortOf {w : World} {s : Sl} {l : List Nd} {d : Nd} {D : List En} (lk : Fv) (H : LH F0 w w [] (.gr s l :: kidE d :: kcE :: D)) (hc : callable Tryz.prog lk.n = true)
    (hl : ∀ w' : World, (∀ e ∈ D, e.P w') → Calls Tryz.prog lk.n (lk.bs ++ #[.string d.x.tx] ++ lk.cs) w' fun r w'' => r = lookR (xs l) d.x.tx ∧ Fr0 w' w'') (ho : TOk d.x) (hll : l.length ≤ 1000000000) (hv : ∀ e ∈ xs l, validS e.st = true) :
    Calls Tryz.prog n_term_sortOf #[s.v, d.v, lk.v] w fun r w' => r = sortR (srtX (xs l) d.x) ∧ Fr0 w w' := by
  have hn := gr_n (gr_P.1 (H.getD 0))
  have hxl : (xs l).length = l.length := by simp [xs]
  have hkn : d.ks.n = d.x.kids.length := Nums.len (H.getD 1)
  have hkl := ho.kl
  refine term_sortOf.okT s _ _ _ _ _ _ _ _ _ lk w _ (H.nw fun w1 _ H1 => H1.newg fun b6 w2 H2 => H2.locg fun w3 H3 => ?_)
  have N : ∀ {w5 : World} {L : List En}, LH F0 w w5 (.c w.heap.size d.c ty_api_Node :: L) (.gr s l :: kidE d :: kcE :: D) → NdAt w5 (at0 w.heap.size) d := fun H => nda_ob (H.ob 0)
  have H3 : LH F0 w w3 [.c w.heap.size d.c ty_api_Node, .g b6] (.gr s l :: kidE d :: kcE :: D) := H3
  have fail : (kidsN d.x.op == (d.x.kids.length : Int) && d.x.kids.all (kidIn (xs l)) && okF d.x) = false → ∀ {w5 : World} {L : List En} {bs : List Nat}, LH F0 w w5 L (.gr s l :: kidE d :: kcE :: D) → (∀ b ∈ bs, En.g b ∈ L) → loc bs w5 fun w6 => (fun r w' => r = sortR (srtX (xs l) d.x) ∧ Fr0 w w') (.returned (.tuple #[.agg #[.i 0, .i 0, .i 0], .i 1])) w6 := fun hf _ _ _ H5 hb => H5.locg (fun w6 H6 => ⟨by unfold srtX; rw [if_pos hf]; rfl, H6.fr⟩) hb
  have kN : ∀ op : Int, op < 0 ∨ 34 < op → kidsN op = -1 := fun op h => by unfold kidsN; rw [if_pos h]
  refine ⟨_, (N H3).c0, sel_dec (fun h0 => fail ?_ H3 (by simp)) (fun h0 => ⟨_, (N H3).c0, sel_dec (fun h35 => fail ?_ H3 (by simp)) (fun h35 => ⟨_, (N H3).c1, _, (N H3).c0, by omega, by show d.x.op < 35; omega, kidsN d.x.op, ?_, sel_ne (fun hne => fail ?_ H3 (by simp)) (fun heq => ?_)⟩)⟩)⟩
  · rw [kN _ (.inl h0), beq_eq_false_iff_ne.2 (by omega)]; rfl
  · rw [kN _ (.inr (by omega)), beq_eq_false_iff_ne.2 (by omega)]; rfl
  · have hk : Nums w3 ⟨some (at0 0), 35, 35⟩ kcL := H3.getD 2
    exact (show W.optP (some (at0 0)) fun p => w3.cell? (p.add (Int.toNat d.x.op * 1)) = some (.int .i64 (kidsN d.x.op)) from hk.cell (kc_at (by omega) (by omega)) rfl fun p _ hc => hc)
  · rw [beq_eq_false_iff_ne.2 (by omega)]; rfl
  have hkc : (kidsN d.x.op == (d.x.kids.length : Int)) = true := by rw [beq_iff_eq]; omega
  have hk3 : d.x.kids.length ≤ 3 := by
    have : kidsN d.x.op ≤ 3 := by unfold kidsN; repeat' split <;> omega
    omega
  -- the loop over the kids
  refine H3.nw fun w4 _ H4 => ⟨_, (N H4).c1, ?_⟩
  have loop : ∀ (m i : Nat) (w5 : World), i + m = d.x.kids.length → d.x.kids.all (kidIn (xs l)) = (d.x.kids.drop i).all (kidIn (xs l)) → LH F0 w w5 [.c w.heap.size d.c ty_api_Node, .g b6, .c w3.heap.size (cs3 (upK (xs l) d.x i 0) (upK (xs l) d.x i 1) (upK (xs l) d.x i 2)) ty_3_api_Sort] (.gr s l :: kidE d :: kcE :: D) →
      term_sortOf.L1T s lk (at0 w.heap.size) b6 0 0 0 (at0 w3.heap.size) ((d.ks.n : Nat) : Int) (i : Int) w5 fun r w' => r = sortR (srtX (xs l) d.x) ∧ Fr0 w w' := by
    intro m
    induction m with
    | zero =>
      intro i w5 hi hall H5
      rw [List.drop_of_length_le (by omega)] at hall
      have e0 : ∀ j, upK (xs l) d.x i j = kst (xs l) d.x j := fun j => by
        unfold upK
        split
        · rfl
        · exact (kst_none (by omega)).symm
      rw [e0, e0, e0] at H5
      refine term_sortOf.L1T_step _ _ _ _ _ _ _ _ _ _ _ _ (sel_false (decide_eq_false (by omega)) (H5.callg (t_fieldsFit (N H5)) ?_))
      rintro _ w6 rfl H6
      refine ⟨_, rfl, sel_not (fun hf => fail (by rw [hf, Bool.and_false]) H6 (by simp)) (fun hf => H6.newg fun b11 w7 H7 => ?_)⟩
      have hgood : (kidsN d.x.op == (d.x.kids.length : Int) && d.x.kids.all (kidIn (xs l)) && okF d.x) = true := by rw [hkc, hall, hf]; rfl
      have H7 : LH F0 w w7 [.c w.heap.size d.c ty_api_Node, .g b6, .c w3.heap.size (cs3 (kst (xs l) d.x 0) (kst (xs l) d.x 1) (kst (xs l) d.x 2)) ty_3_api_Sort, .g b11] (.gr s l :: kidE d :: kcE :: D) := H7
      have fin : ∀ (T : Srt) (E : Int) (t : Srt) (e : Int) (w8 : World), srtX (xs l) d.x = (if E ≠ 0 then (noS, E) else (T, 0)) → e = E → (E = 0 → t = T) → LH F0 w w8 [.c w.heap.size d.c ty_api_Node, .g b6, .c w3.heap.size (cs3 (kst (xs l) d.x 0) (kst (xs l) d.x 1) (kst (xs l) d.x 2)) ty_3_api_Sort, .g b11] (.gr s l :: kidE d :: kcE :: D) →
          loc [b6, b11] w8 fun w9 => term_sortOf.S3T b6 0 0 0 b11 t.k t.n t.x e w9 fun r w' => r = sortR (srtX (xs l) d.x) ∧ Fr0 w w' := by
        intro T E t e w8 hs he ht H8
        subst he
        refine H8.locg fun w9 H9 => sel_ne (fun hne => H9.locg fun w10 H10 => ⟨by rw [hs, if_pos hne]; rfl, H10.fr⟩) (fun h0 => H9.locg fun w10 H10 => ⟨?_, H10.fr⟩)
        rw [hs, if_neg (by omega), ht h0]
      have leafs : d.x.op ≤ 3 → srtX (xs l) d.x = (if (leafX (xs l) d.x).2 ≠ 0 then (noS, (leafX (xs l) d.x).2) else ((leafX (xs l) d.x).1, 0)) := fun h3 => by
        unfold srtX
        rw [hgood, if_neg (by simp), if_pos h3]
        split
        · rename_i hne; exact leaf_err hne
        · rename_i heq
          rw [Decidable.not_not] at heq
          rw [← heq]
      have kidsB := fun j => kst_bnd (n := d.x) hv j
      refine ⟨_, (N H7).c0, sel_eq (fun ho0 => ?_) (fun ho0 => ⟨_, (N H7).c0, sel_dec (fun ho3 => ?_) (fun ho3 => ⟨_, (N H7).c0, sel_dec (fun ho23 => ?_) (fun ho23 => ⟨_, (N H7).c0, sel_dec (fun ho26 => ?_) (fun ho26 => ?_)⟩)⟩)⟩)⟩
      · have Hv : LH F0 w7 w7 [] (.nda (at0 w.heap.size) d :: D) := lh0 _ (by
          intro e he
          rcases List.mem_cons.1 he with rfl | he
          · exact N H7
          · exact H7.rd e (List.mem_cons_of_mem _ (List.mem_cons_of_mem _ (List.mem_cons_of_mem _ he))))
        refine H7.callg (t_var (xs l) lk Hv hc hl ho0) ?_
        rintro _ w8 ⟨t, e, rfl, he, ht⟩ H8
        exact ⟨_, _, _, _, rfl, fin _ _ t e w8 (leafs (by omega)) he ht H8⟩
      · refine H7.callg (t_leaf (xs l) (N H7) (by omega) ho3 ho.u) ?_
        rintro _ w8 ⟨t, e, rfl, he, ht⟩ H8
        exact ⟨_, _, _, _, rfl, fin _ _ t e w8 (leafs ho3) he ht H8⟩
      all_goals
        have rest := srtX_err hgood (by omega)
        have ld : ∀ (a c : Nat) (v : Value), (cs3 (kst (xs l) d.x 0) (kst (xs l) d.x 1) (kst (xs l) d.x 2))[a + c]? = some v → w7.cell? (((at0 w3.heap.size).add a).add c) = some v := fun a c v hv => by rw [add_add]; exact H7.ld 2 (a + c) rfl hv
        refine ⟨by omega, by decide, (kst (xs l) d.x 0).k, (kst (xs l) d.x 0).n, (kst (xs l) d.x 0).x, ld 0 0 _ rfl, ld 0 1 _ rfl, ld 0 2 _ rfl, by omega, by decide, (kst (xs l) d.x 1).k, (kst (xs l) d.x 1).n, (kst (xs l) d.x 1).x, ld 3 0 _ rfl, ld 3 1 _ rfl, ld 3 2 _ rfl, by omega, by decide, (kst (xs l) d.x 2).k, (kst (xs l) d.x 2).n, (kst (xs l) d.x 2).x, ld 6 0 _ rfl, ld 6 1 _ rfl, ld 6 2 _ rfl, ?_⟩
      · refine H7.callg (t_bits (N H7) (by omega) ho23 (kidsB 0) (kidsB 1) ho.n ho.m) ?_
        rintro _ w8 ⟨t, e, rfl, he, ht⟩ H8
        exact ⟨_, _, _, _, rfl, fin _ _ t e w8 rest he ht H8⟩
      · refine H7.callg (t_arrays (N H7) (by omega) ho26) ?_
        rintro _ w8 ⟨t, e, rfl, he, ht⟩ H8
        exact ⟨_, _, _, _, rfl, fin _ _ t e w8 rest he ht H8⟩
      · refine H7.callg (t_strings (N H7) (by omega) (by omega) (kidsB 0) (kidsB 1) (kidsB 2) ho.tx) ?_
        rintro _ w8 ⟨t, e, rfl, he, ht⟩ H8
        exact ⟨_, _, _, _, rfl, fin _ _ t e w8 rest he ht H8⟩
    | succ m ih =>
      intro i w5 hi hall H5
      have hg : d.x.kids[i]? = some (d.x.kids[i]'(by omega)) := List.getElem?_eq_getElem (by omega)
      rw [List.drop_eq_getElem_cons (by omega : i < d.x.kids.length), List.all_cons] at hall
      generalize d.x.kids[i]'(by omega) = x at hg hall
      have bad : kidIn (xs l) x = false → term_sortOf.S2T b6 0 0 0 w5 fun r w' => r = sortR (srtX (xs l) d.x) ∧ Fr0 w w' := fun hx => fail (by rw [hall, hx]; simp) H5 (by simp)
      refine term_sortOf.L1T_step _ _ _ _ _ _ _ _ _ _ _ _ (sel_true (decide_eq_true (by omega)) ⟨_, (N H5).c1, by omega, by omega, (show Nums w5 d.ks d.x.kids from H5.getD 1).cell hg (by omega) fun p hp hcc => ⟨x, hcc, sel_dec (fun h1 => bad ?_) (fun h1 => sel_dec (fun h2 => bad ?_) (fun h2 => ?_))⟩⟩)
      · unfold kidIn; rw [decide_eq_false (by omega)]; rfl
      · unfold kidIn; rw [decide_eq_false (show ¬ x < ((xs l).length : Int) by rw [hxl]; omega)]; simp
      have hge : l[x.toNat]? = some (l[x.toNat]'(by omega)) := List.getElem?_eq_getElem (by omega)
      generalize l[x.toNat]'(by omega) = e at hge
      have hks := kst_get hg hge
      refine gr_at (gr_P.1 (H5.getD 0)) (i := x.toNat) (by omega) hge fun q hq c => ⟨_, _, _, c.s0, c.s1, c.s2, by omega, by show (i : Int) < 3; omega, ?_⟩
      have hall2 : d.x.kids.all (kidIn (xs l)) = (d.x.kids.drop (i + 1)).all (kidIn (xs l)) := by
        rw [hall]
        unfold kidIn
        rw [decide_eq_true (show 0 ≤ x by omega), decide_eq_true (show x < ((xs l).length : Int) by rw [hxl]; omega)]
        rfl
      have stp : ∀ w6, LH F0 w w6 [.c w.heap.size d.c ty_api_Node, .g b6, .c w3.heap.size (cs3 (upK (xs l) d.x (i + 1) 0) (upK (xs l) d.x (i + 1) 1) (upK (xs l) d.x (i + 1) 2)) ty_3_api_Sort] (.gr s l :: kidE d :: kcE :: D) → term_sortOf.L1T s lk (at0 w.heap.size) b6 0 0 0 (at0 w3.heap.size) ((d.ks.n : Nat) : Int) (IntKind.wrap .i64 ((i : Int) + 1)) w6 fun r w' => r = sortR (srtX (xs l) d.x) ∧ Fr0 w w' := fun w6 H6 => by
        rw [i64_next _ (by omega)]
        exact ih (i + 1) w6 (by omega) hall2 H6
      have hi3 : i = 0 ∨ i = 1 ∨ i = 2 := by omega
      have up : ∀ j, upK (xs l) d.x (i + 1) j = if j = i then e.x.st else upK (xs l) d.x i j := fun j => by
        unfold upK
        by_cases hj : j = i
        · rw [if_pos hj, if_pos (by omega), hj, hks]
        · rw [if_neg hj]
          by_cases hj2 : j < i
          · rw [if_pos hj2, if_pos (by omega)]
          · rw [if_neg hj2, if_neg (by omega)]
      rw [up 0, up 1, up 2] at stp
      rcases hi3 with rfl | rfl | rfl
      · exact H5.stc0 2 0 rfl fun w6 H6 => H6.stc 2 0 1 rfl fun w7 H7 => H7.stc 2 0 2 rfl fun w8 H8 => stp w8 H8
      · exact H5.stc0 2 3 rfl fun w6 H6 => H6.stc 2 3 1 rfl fun w7 H7 => H7.stc 2 3 2 rfl fun w8 H8 => stp w8 H8
      · exact H5.stc0 2 6 rfl fun w6 H6 => H6.stc 2 6 1 rfl fun w7 H7 => H7.stc 2 6 2 rfl fun w8 H8 => stp w8 H8
  exact loop d.x.kids.length 0 w4 (by omega) (by simp) H4
/-! #### SortOf -/
end Go.Proofs.YtnpkhgljhcnpcaaGreatDoor
set_option maxRecDepth 100000
set_option maxHeartbeats 1000000
namespace Go.Proofs.YtnpkhgljhcnpcaaGreatDoor
open Go Go.W

/-! #### copy -/
/-! #### Equal, Clone -/
end Go.Proofs.YtnpkhgljhcnpcaaGreatDoor
set_option maxRecDepth 100000
set_option maxHeartbeats 1000000
namespace Go.Proofs.YtnpkhgljhcnpcaaGreatDoor
open Go Go.W

end Go.Proofs.YtnpkhgljhcnpcaaGreatDoor

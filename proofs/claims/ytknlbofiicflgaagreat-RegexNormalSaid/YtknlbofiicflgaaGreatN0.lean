/- Rows of trees of one's own: writing an element, cutting the end off. Package regex: the small closures of flat and forms: the contracts. Package slices over expressions: IndexFunc, ContainsFunc: the contracts. Package slices over expressions: DeleteFunc; package regex: flat: the contracts. Package regex: flat: the contract. -/
import Derived.Test.YtknlbofiicflgaaGreatR2
import Derived.Test.YtknlbofiicflgaaGreatVN
namespace Go.Proofs.YtknlbofiicflgaaGreat
open Go Go.W

theorem setRow_eq {w : World} {g : Nat} {cur : Array Value} {t : TypeId} (hg : w.heap[g]? = some (.cells cur t (0, 0))) (vs : Array Value) : w.setRow g vs = w.putObj g (.cells vs t (0, 0)) := by
  unfold World.setRow World.putObj
  congr 1
  apply Array.ext_getElem?
  intro i
  rw [Array.getElem?_modify, Array.getElem?_setIfInBounds]
  by_cases hi : g = i
  · subst hi
    have := lt_of_heap hg
    simp [this, (Array.getElem?_eq_some_iff.1 hg).2]
  · simp [hi]
theorem addz (g k : Nat) : (⟨g, 0, none⟩ : Addr).add k = ⟨g, k, none⟩ := by
  unfold Addr.add
  split <;> simp_all
/-- clear(s[l:]) and s[:l], of a row of one's own -/
theorem cut_own {P : Program} {t ty e : TypeId} {z : Value} {sz bytes : Nat} (el : ElemOk P t e z sz bytes) (h1 : ∀ u ∈ z.cells.toList, u.oneCell' = true) (hzs : z.cells.size = sz) {w : World} {s : Sl} {vs : List Value} (h : OwnRow w e sz s vs) (l : Nat) (hl : l ≤ s.n) :
    ∃ w', (Builtin.clear_ #[t] ty #[.slice (if s.c = l then s.a else s.a.map (·.add (l * sz))) (s.n - l) (s.c - l)]).run P w = .ok (.tuple #[]) w' ∧
      OwnRow w' e sz ⟨if s.c = 0 then s.a else s.a.map (·.add (0 * sz)), l - 0, s.c - 0⟩ (vs.take (l * sz)) ∧ Fr (· ∈ blkL s) w w' := by
  have hlen := h.len
  obtain ⟨sa, sn, sc⟩ := s
  simp only at hl hlen
  have hsa : ∀ q : Option Addr, (if sc = 0 then q else q.map (·.add (0 * sz))) = q := fun q => by
    split
    · rfl
    · cases q with
      | none => rfl
      | some p => rw [Nat.zero_mul, Option.map_some, add0]
  rw [hsa, Nat.sub_zero, Nat.sub_zero]
  -- what becomes of a row whose cells before l are the same
  have cutd : ∀ (w' : World) (g : Nat) (cur' : Array Value), sa = some ⟨g, 0, none⟩ → sn ≤ sc → sc ≤ maxLen → w'.heap[g]? = some (.cells cur' e (0, 0)) → cur'.size = sc * sz → cur'.toList.take (l * sz) = vs.take (l * sz) → OwnRow w' e sz ⟨sa, l, sc⟩ (vs.take (l * sz)) := by
    intro w' g cur' ha hns hc hg hsz ht
    subst ha
    have e1 : l * sz ≤ sn * sz := Nat.mul_le_mul_right _ hl
    refine ⟨by rw [List.length_take, hlen, Nat.min_eq_left e1], .inr ⟨g, sc, cur', rfl, Nat.zero_le _, hg, by show l ≤ sc; omega, hc, hsz, ht⟩⟩
  rcases h.cases with ⟨hs, rfl⟩ | ⟨g, cur, ha, hg, h1', h2, h3, h4⟩
  · cases hs
    have : l = 0 := by omega
    subst this
    refine ⟨w, ?_, ?_, Fr.refl _ _⟩
    · simp [Builtin.clear_, run_underlying el.ht]
    · simpa using OwnRow.nil w e sz
  · simp only at ha h1' h2 h3 h4
    subst ha
    have e1 : l * sz ≤ sn * sz := Nat.mul_le_mul_right _ hl
    have e2 : sn * sz ≤ sc * sz := Nat.mul_le_mul_right _ h1'
    have ht0 : cur.toList.take (l * sz) = vs.take (l * sz) := by rw [← h4, List.take_take, Nat.min_eq_left e1]
    by_cases hn : sn - l = 0
    · refine ⟨w, ?_, cutd w g cur rfl h1' h2 hg h3 ht0, Fr.refl _ _⟩
      rw [hn]
      by_cases hcl : sc = l
      · simp [Builtin.clear_, run_underlying el.ht, hcl]
      · simp [Builtin.clear_, run_underlying el.ht, hcl]
    · have hcl : sc ≠ l := by omega
      obtain ⟨inf, hi, hz, hsz, hby⟩ := info_parts el.hi
      have hzv : (zeroValue e).run P w = .ok z w := by simp [zeroValue, typeInfo, hi, hz]
      have hlz : (Builtin.zeroCells z.cells (sn - l)).toList.length = (sn - l) * sz := by simp [Builtin.zeroCells, hzs]
      have hone : ∀ v ∈ (Builtin.zeroCells z.cells (sn - l)).toList, v.oneCell' = true := by
        intro v hv
        unfold Builtin.zeroCells at hv
        rw [Array.toList_map, List.mem_map] at hv
        obtain ⟨j, hj, rfl⟩ := hv
        by_cases h0 : 0 < z.cells.size
        · have hlt : j % z.cells.size < z.cells.size := Nat.mod_lt _ h0
          rw [getElem!_pos z.cells _ hlt]
          exact h1 _ (by simp)
        · have h00 : z.cells.size = 0 := by omega
          simp [h00] at hj
      have hle : (sn - l) * sz = sn * sz - l * sz := Nat.sub_mul _ _ _
      have hfit : l * sz + 0 + (Builtin.zeroCells z.cells (sn - l)).toList.length ≤ cur.size := by
        rw [hlz, h3]
        omega
      have hrun := run_storeCells_at (P := P) g (l * sz) e (Builtin.zeroCells z.cells (sn - l)).toList 0 cur w hg hfit hone
      refine ⟨_, ?_, cutd _ g (cur.toList.take (l * sz + 0) ++ (Builtin.zeroCells z.cells (sn - l)).toList ++ cur.toList.drop (l * sz + 0 + (Builtin.zeroCells z.cells (sn - l)).toList.length)).toArray rfl h1' h2 (setRow_heap w g cur _ e _ hg) ?_ ?_, ?_⟩
      · obtain ⟨m, hm⟩ : ∃ m, sn - l = m + 1 := ⟨sn - l - 1, by omega⟩
        have hadd : (⟨g, 0, none⟩ : Addr).add (l * sz) = ⟨g, l * sz, none⟩ := addz g (l * sz)
        rw [hm] at hrun ⊢
        simp [Builtin.clear_, run_underlying el.ht, hcl, hadd, hzv, hrun]
      · simp only [List.size_toArray, List.length_append, List.length_take, List.length_drop, hlz, Array.length_toList, h3]
        generalize (sn - l) * sz = x at *
        generalize sn * sz = y at *
        generalize sc * sz = u at *
        generalize l * sz = v at *
        omega
      · simp only [List.append_assoc, Nat.add_zero]
        rw [List.take_append_of_le_length (by
          rw [List.length_take, Array.length_toList, h3]
          exact Nat.le_min.2 ⟨Nat.le_refl _, Nat.le_trans e1 e2⟩), List.take_take, Nat.min_self]
        exact ht0
      · rw [setRow_eq hg]
        exact (Fr.put w g _).mono fun x _ e => by simp [blkL, e]
theorem z_one : ∀ u ∈ (Value.agg #[.int .i64 0, .int .u8 0, .int .u8 0, .slice none 0 0]).cells.toList, u.oneCell' = true := by
  intro u hu
  simp only [Value.cells, List.mem_cons, List.not_mem_nil, or_false] at hu
  rcases hu with rfl | rfl | rfl | rfl <;> rfl
/-! #### Writing an element -/
theorem flat_setT {l : List Rt} {k : Nat} {t : Rt} (hk : k < l.length) : ((((l.flatMap Rt.c).set (k * 4 + 0) (.int .i64 t.k)).set (k * 4 + 1) (.int .u8 (t.lo.toNat : Int))).set (k * 4 + 2) (.int .u8 (t.hi.toNat : Int))).set (k * 4 + 3) t.s.v = (l.set k t).flatMap Rt.c := by
  induction l generalizing k with
  | nil => simp at hk
  | cons a l ih =>
    cases k with
    | zero => simp [Rt.c]
    | succ k =>
      have hk' : k < l.length := by simpa using hk
      have e : ∀ j, (k + 1) * 4 + j = (k * 4 + j) + 4 := fun j => by omega
      rw [e 0, e 1, e 2, e 3, List.flatMap_cons, List.set_cons_succ, List.flatMap_cons, ← ih hk']
      simp [Rt.c]
section
variable {M : Nat → Prop} {w0 w : World} {L D : List En} {bs : List Nat}
theorem _root_.Go.W.LH.strT (H : LH M w0 w L D) (i k : Nat) {s : Sl} {ts : List Rt} {t : Rt} {p : Addr} {K : World → Prop} (hi : L[i]? = some (.row ty_regex_Regex 4 s (ts.flatMap Rt.c))) (hp : s.a = some p) (hk : k < ts.length)
    (hK : ∀ w', LH M w0 w' (L.set i (.row ty_regex_Regex 4 s ((ts.set k t).flatMap Rt.c))) D → K w') (hbs : ∀ b ∈ bs, En.g b ∈ L := by simp) :
    stV w (p.add (k * 4)) (.int .i64 t.k) fun w1 => kept bs w w1 ∧ stV w1 ((p.add (k * 4)).add 1) (.int .u8 (t.lo.toNat : Int)) fun w2 => kept bs w1 w2 ∧ stV w2 ((p.add (k * 4)).add 2) (.int .u8 (t.hi.toNat : Int)) fun w3 => kept bs w2 w3 ∧ stV w3 ((p.add (k * 4)).add 3) t.s.v fun w4 => kept bs w3 w4 ∧ K w4 := by
  have hlen : (ts.flatMap Rt.c).length = ts.length * 4 := Rt.cs_len ts
  have hil := (List.getElem?_eq_some_iff.1 hi).1
  have keepB : ∀ {e : En} {b : Nat}, (∀ (w1 : World) (b' : Nat), ¬ e.P ({ w1 with heap := Array.replicate (b' + 1) (.map #[] 0) } : World)) → En.g b ∈ L → En.g b ∈ L.set i e := by
    intro e b hne hb
    obtain ⟨j, hj⟩ := List.mem_iff_getElem?.1 hb
    by_cases hij : i = j
    · subst hij
      rw [hi] at hj
      exfalso
      have e1 : En.row ty_regex_Regex 4 s (ts.flatMap Rt.c) = En.g b := Option.some.inj hj
      have hb0 : (En.g b).P ({ w with heap := Array.replicate (b + 1) (.map #[] 0) }) := by show b < _; simp
      rw [← e1] at hb0
      by_cases hs : blkL s = []
      · have : s.a = none := by unfold blkL at hs; split at hs <;> simp_all
        rw [hp] at this; cases this
      · obtain ⟨x, hx⟩ := List.exists_mem_of_ne_nil _ hs
        obtain ⟨cs, f, hc⟩ := (OwnRow.row (show OwnRow ({ w with heap := Array.replicate (b + 1) (.map #[] 0) }) ty_regex_Regex 4 s _ from hb0)).typ x hx
        rw [Array.getElem?_replicate] at hc
        split at hc <;> cases hc
    · refine List.mem_of_getElem? (i := j) ?_
      rw [List.getElem?_set_ne hij]
      exact hj
  have hno : ∀ (vs : List Value) (w1 : World) (b' : Nat), ¬ (En.row ty_regex_Regex 4 s vs).P ({ w1 with heap := Array.replicate (b' + 1) (.map #[] 0) } : World) := by
    intro vs w1 b' h0
    have hx : p.block ∈ blkL s := by simp [blkL, hp]
    obtain ⟨cs, f, hc⟩ := (OwnRow.row (show OwnRow ({ w1 with heap := Array.replicate (b' + 1) (.map #[] 0) }) ty_regex_Regex 4 s vs from h0)).typ _ hx
    rw [Array.getElem?_replicate] at hc
    split at hc <;> cases hc
  have g1 := H.strow (bs := bs) i (k * 4) 0 (v := .int .i64 t.k) (p := p) (K := fun w1 => stV w1 ((p.add (k * 4)).add 1) (.int .u8 (t.lo.toNat : Int)) fun w2 => kept bs w1 w2 ∧ stV w2 ((p.add (k * 4)).add 2) (.int .u8 (t.hi.toNat : Int)) fun w3 => kept bs w2 w3 ∧ stV w3 ((p.add (k * 4)).add 3) t.s.v fun w4 => kept bs w3 w4 ∧ K w4) hi hp (by rw [hlen]; omega) (fun w1 H1 => ?_) hbs
  · rw [add0] at g1
    exact g1
  refine H1.strow (bs := bs) i (k * 4) 1 (by rw [List.getElem?_set_self hil]) hp (by rw [List.length_set, hlen]; omega) (fun w2 H2 => ?_) (fun b hb => keepB (hno _) (hbs b hb))
  rw [List.set_set] at H2
  refine H2.strow (bs := bs) i (k * 4) 2 (by rw [List.getElem?_set_self hil]) hp (by simp only [List.length_set, hlen]; omega) (fun w3 H3 => ?_) (fun b hb => keepB (hno _) (hbs b hb))
  rw [List.set_set] at H3
  refine H3.strow (bs := bs) i (k * 4) 3 (by rw [List.getElem?_set_self hil]) hp (by simp only [List.length_set, hlen]; omega) (fun w4 H4 => ?_) (fun b hb => keepB (hno _) (hbs b hb))
  rw [List.set_set, flat_setT hk] at H4
  exact hK w4 H4
/-- the same where no variable is to be kept -/
theorem _root_.Go.W.LH.strN (H : LH M w0 w L D) (i k : Nat) {s : Sl} {ts : List Rt} {t : Rt} {p : Addr} {K : World → Prop} (hi : L[i]? = some (.row ty_regex_Regex 4 s (ts.flatMap Rt.c))) (hp : s.a = some p) (hk : k < ts.length)
    (hK : ∀ w', LH M w0 w' (L.set i (.row ty_regex_Regex 4 s ((ts.set k t).flatMap Rt.c))) D → K w') :
    stV w (p.add (k * 4)) (.int .i64 t.k) fun w1 => stV w1 ((p.add (k * 4)).add 1) (.int .u8 (t.lo.toNat : Int)) fun w2 => stV w2 ((p.add (k * 4)).add 2) (.int .u8 (t.hi.toNat : Int)) fun w3 => stV w3 ((p.add (k * 4)).add 3) t.s.v K := by
  have h := H.strT (bs := []) (K := K) i k hi hp hk hK (by simp)
  exact ⟨h.1, h.2.1, h.2.2.2.1, h.2.2.2.2.1, h.2.2.2.2.2.2.1, h.2.2.2.2.2.2.2.1, h.2.2.2.2.2.2.2.2.2.1, h.2.2.2.2.2.2.2.2.2.2.1, h.2.2.2.2.2.2.2.2.2.2.2.2⟩
end
/-- an element of a row of one's own -/
theorem own_at {w : World} {s : Sl} {l : List Rt} (h : OwnRow w ty_regex_Regex 4 s (l.flatMap Rt.c)) {i : Nat} {t : Rt} (hi : l[i]? = some t) {K : Addr → Prop} (hk : ∀ p, s.a = some p → Rt.Cells w p i t → K p) : optP s.a K := Rt.at' h.rdn hi hk
section
variable {M : Nat → Prop} {w0 w : World} {L D : List En}
/-- a load of an element, as it is printed -/
theorem _root_.Go.W.LH.el (H : LH M w0 w L D) (i k : Nat) {s : Sl} {ts : List Rt} {t : Rt} {X : Int} {K : Int → Int → Int → Sl → Prop} (hX : X = (k : Int)) (hg : ts[k]? = some t) (h : K t.k t.lo.toNat t.hi.toNat t.s) (hi : L[i]? = some (.row ty_regex_Regex 4 s (ts.flatMap Rt.c)) := by rfl) :
    (0 : Int) ≤ X ∧ X < ((s.n : Nat) : Int) ∧ optP s.a fun p => ∃ a b c : Int, ∃ d : Sl, w.cell? ((p.add (Int.toNat X * 4)).add 0) = some (.i a) ∧ w.cell? ((p.add (Int.toNat X * 4)).add 1) = some (.int .u8 b) ∧ w.cell? ((p.add (Int.toNat X * 4)).add 2) = some (.int .u8 c) ∧ w.cell? ((p.add (Int.toNat X * 4)).add 3) = some d.v ∧ K a b c d := by
  subst hX
  have ho : OwnRow w ty_regex_Regex 4 s (ts.flatMap Rt.c) := H.get i hi
  have hn := Rt.rows_n ho.rdn
  have hk := (List.getElem?_eq_some_iff.1 hg).1
  exact ⟨by omega, by omega, own_at ho hg fun p hp c => ⟨_, _, _, _, c.c0, c.c1, c.c2, c.c3, h⟩⟩
/-- a store of an element, as it is printed -/
theorem _root_.Go.W.LH.elSt (H : LH M w0 w L D) (i k : Nat) {s : Sl} {ts : List Rt} {t : Rt} {X : Int} {K : World → Prop} (hX : X = (k : Int)) (hk : k < ts.length) (hK : ∀ w', LH M w0 w' (L.set i (.row ty_regex_Regex 4 s ((ts.set k t).flatMap Rt.c))) D → K w') (hi : L[i]? = some (.row ty_regex_Regex 4 s (ts.flatMap Rt.c)) := by rfl) :
    (0 : Int) ≤ X ∧ X < ((s.n : Nat) : Int) ∧ optP s.a fun p => stV w (p.add (Int.toNat X * 4)) (.i t.k) fun w1 => stV w1 ((p.add (Int.toNat X * 4)).add 1) (.int .u8 (t.lo.toNat : Int)) fun w2 => stV w2 ((p.add (Int.toNat X * 4)).add 2) (.int .u8 (t.hi.toNat : Int)) fun w3 => stV w3 ((p.add (Int.toNat X * 4)).add 3) t.s.v K := by
  subst hX
  have ho : OwnRow w ty_regex_Regex 4 s (ts.flatMap Rt.c) := H.get i hi
  have hn := Rt.rows_n ho.rdn
  have hg : ts[k]? = some ts[k] := List.getElem?_eq_getElem hk
  exact ⟨by omega, by omega, own_at ho hg fun p hp c => H.strN i k hi hp hk hK⟩
end
theorem i64_prev {j : Nat} (h1 : 1 ≤ j) (h2 : j ≤ 1000000000) : IntKind.wrap .i64 ((j : Int) - 1) = ((j - 1 : Nat) : Int) := by
  rw [IntWalk.i64_in _ (by omega)]
  omega
end Go.Proofs.YtknlbofiicflgaaGreat
namespace Go.Proofs.YtknlbofiicflgaaGreat
open Go Go.W

/-- a tree in a variable that a closure holds -/
abbrev enU (b : Nat) (u : Rt) : En := .c b u.c ty_regex_Regex
theorem lhU {w : World} {k u : Rt} {b : Nat} (pk : k.P w) (pu : u.P w) (hb : w.heap[b]? = some (.cells u.c.toArray ty_regex_Regex (0, 0))) : LH F0 w w [] [.tree k, .tree u, enU b u] := lh0 _ (by
  intro e he
  simp only [List.mem_cons, List.not_mem_nil, or_false] at he
  rcases he with rfl | rfl | rfl
  · exact pk
  · exact pu
  · exact hb)
theorem c_flat1 (k u : Rt) (b : Nat) (w : World) (h : k.sz ≤ 1000000) (pk : k.P w) (pu : u.P w) (hb : w.heap[b]? = some (.cells u.c.toArray ty_regex_Regex (0, 0))) : Calls Tryz.prog n_regex_flat_1 #[k.v, .pointer (some (at0 b))] w fun r w' => r = .returned (.bool (cmpR k.rx u.rx == 0)) ∧ Fr0 w w' := by
  refine regex_flat_1.okT _ _ _ _ _ w _ ((lhU pk pu hb).newg fun b2 w1 H1 => ⟨_, _, _, u.s, H1.ldD 2 0, H1.ldD 2 1, H1.ldD 2 2, H1.ldD 2 3, H1.callg (c_equal k u w1 h (H1.getD 0) (H1.getD 1)) ?_⟩)
  rintro _ w2 rfl H2
  exact ⟨_, rfl, rfl, H2.fr⟩
theorem c_forms211 (k u : Rt) (b : Nat) (w : World) (h : k.sz ≤ 1000000) (pk : k.P w) (pu : u.P w) (hb : w.heap[b]? = some (.cells u.c.toArray ty_regex_Regex (0, 0))) : Calls Tryz.prog n_regex_forms_2_1_1 #[k.v, .pointer (some (at0 b))] w fun r w' => r = .returned (.bool (cmpR k.rx u.rx == 0)) ∧ Fr0 w w' := by
  refine regex_forms_2_1_1.okT _ _ _ _ _ w _ ((lhU pk pu hb).newg fun b2 w1 H1 => ⟨_, _, _, u.s, H1.ldD 2 0, H1.ldD 2 1, H1.ldD 2 2, H1.ldD 2 3, H1.callg (c_equal k u w1 h (H1.getD 0) (H1.getD 1)) ?_⟩)
  rintro _ w2 rfl H2
  exact ⟨_, rfl, rfl, H2.fr⟩
theorem c_forms1 (k : Rt) (w : World) (pk : k.P w) : Calls Tryz.prog n_regex_forms_1 #[k.v] w fun r w' => r = .returned k.v ∧ Fr0 w w' := by
  refine regex_forms_1.okT _ _ _ _ w _ ((lhT pk).newg fun b1 w1 H1 => H1.newg fun b2 w2 H2 => H2.locg fun w3 H3 => ⟨rfl, H3.fr⟩)
end Go.Proofs.YtknlbofiicflgaaGreat
namespace Go.Proofs.YtknlbofiicflgaaGreat
open Go Go.W

/-- the first place where q holds, or -1 -/
def idxI (q : Rt → Bool) : List Rt → Nat → Int
  | [], _ => -1
  | a :: l, i => if q a then (i : Int) else idxI q l (i + 1)
theorem idxI_any (q : Rt → Bool) : ∀ (l : List Rt) (i : Nat), decide (idxI q l i ≥ 0) = l.any q
  | [], i => rfl
  | a :: l, i => by
    unfold idxI
    rw [List.any_cons]
    cases hq : q a with
    | true => simp
    | false => simpa using idxI_any q l (i + 1)
theorem c_IndexFunc (s : Sl) (l : List Rt) (f : Fv) (q : Rt → Bool) (D : List En) (w : World) (hl : l.length ≤ 1000000) (hr : RdN 4 w s (l.flatMap Rt.c)) (hD : ∀ e ∈ D, e.P w) (hc : callable Tryz.prog f.n = true)
    (hf : ∀ w' t, t ∈ l → LH F0 w w' [] (Rt.row s l :: D) → Calls Tryz.prog f.n (f.bs ++ #[t.v] ++ f.cs) w' fun r w'' => r = .returned (.bool (q t)) ∧ Fr0 w' w'') :
    Calls Tryz.prog n_slices_IndexFunc_sl_regex_Regex_regex_Regex #[s.v, f.v] w fun r w' => r = .returned (.int .i64 (idxI q l 0)) ∧ Fr0 w w' := by
  have nr := Rt.rows_n hr
  have loop : ∀ (d i : Nat) (w1 : World), i + d = l.length → idxI q (l.drop i) i = idxI q l 0 → LH F0 w w1 [] (Rt.row s l :: D) → slices_IndexFunc_sl_regex_Regex_regex_Regex.L0 s f ((s.n : Nat) : Int) (i : Int) w1 fun r w' => r = .returned (.int .i64 (idxI q l 0)) ∧ Fr0 w w' := by
    intro d
    induction d with
    | zero =>
      intro i w1 hi he H
      rw [List.drop_of_length_le (by omega)] at he
      exact slices_IndexFunc_sl_regex_Regex_regex_Regex.L0_step _ _ _ _ _ _ (sel_false (decide_eq_false (by omega)) ⟨by rw [← he]; rfl, H.fr⟩)
    | succ d ihd =>
      intro i w1 hi he H
      have hg : l[i]? = some (l[i]'(by omega)) := List.getElem?_eq_getElem (by omega)
      rw [List.drop_eq_getElem_cons (by omega : i < l.length)] at he
      generalize l[i]'(by omega) = x at hg he
      refine slices_IndexFunc_sl_regex_Regex_regex_Regex.L0_step _ _ _ _ _ _ (sel_true (decide_eq_true (by omega)) ⟨by omega, by omega, Rt.at' (H.getD 0) hg fun p hp c => ⟨x.k, x.lo.toNat, x.hi.toNat, x.s, c.c0, c.c1, c.c2, c.c3, ?_⟩⟩)
      rw [hc]
      refine (show AndT true _ from ?_)
      refine H.call (hf w1 x (List.mem_of_getElem? hg) H) ?_
      rintro _ w2 rfl H2
      have he : (if q x then (i : Int) else idxI q (l.drop (i + 1)) (i + 1)) = idxI q l 0 := he
      refine ⟨_, rfl, sel_intro (fun hq => ⟨?_, H2.fr⟩) (fun hq => ?_)⟩
      · rw [if_pos hq] at he
        rw [he]
      · rw [if_neg (by rw [hq]; simp)] at he
        rw [i64_next _ (by omega)]
        exact ihd (i + 1) w2 (by omega) he H2
  refine slices_IndexFunc_sl_regex_Regex_regex_Regex.ok _ _ w _ (loop l.length 0 w (by omega) (by simp) (lh0 _ (fun e he => ?_)))
  rcases List.mem_cons.1 he with rfl | he
  · exact hr
  · exact hD e he
theorem c_ContainsFunc (s : Sl) (l : List Rt) (f : Fv) (q : Rt → Bool) (D : List En) (w : World) (hl : l.length ≤ 1000000) (hr : RdN 4 w s (l.flatMap Rt.c)) (hD : ∀ e ∈ D, e.P w) (hc : callable Tryz.prog f.n = true)
    (hf : ∀ w' t, t ∈ l → LH F0 w w' [] (Rt.row s l :: D) → Calls Tryz.prog f.n (f.bs ++ #[t.v] ++ f.cs) w' fun r w'' => r = .returned (.bool (q t)) ∧ Fr0 w' w'') :
    Calls Tryz.prog n_slices_ContainsFunc_sl_regex_Regex_regex_Regex #[s.v, f.v] w fun r w' => r = .returned (.bool (l.any q)) ∧ Fr0 w w' := by
  refine slices_ContainsFunc_sl_regex_Regex_regex_Regex.ok _ _ w _ ((c_IndexFunc s l f q D w hl hr hD hc hf).mono ?_)
  rintro _ w1 ⟨rfl, f1⟩
  refine ⟨_, rfl, ?_, f1⟩
  rw [idxI_any]
end Go.Proofs.YtknlbofiicflgaaGreat
namespace Go.Proofs.YtknlbofiicflgaaGreat
open Go Go.W

theorem idxI_spec (q : Rt → Bool) : ∀ (l : List Rt) (k : Nat), (idxI q l k = -1 ∧ ∀ t ∈ l, q t = false) ∨ ∃ m a, l[m]? = some a ∧ q a = true ∧ idxI q l k = ((k + m : Nat) : Int) ∧ ∀ t ∈ l.take m, q t = false
  | [], k => .inl ⟨rfl, by simp⟩
  | a :: l, k => by
    unfold idxI
    cases hq : q a with
    | true => exact .inr ⟨0, a, rfl, hq, by simp, by simp⟩
    | false =>
      rcases idxI_spec q l (k + 1) with ⟨h1, h2⟩ | ⟨m, x, h1, h2, h3, h4⟩
      · exact .inl ⟨by simpa using h1, by simpa [hq] using h2⟩
      · refine .inr ⟨m + 1, x, by simpa using h1, h2, ?_, ?_⟩
        · simp only [h3, Bool.false_eq_true, if_false]
          omega
        · simp only [List.take_succ_cons, List.mem_cons, forall_eq_or_imp]
          exact ⟨hq, h4⟩
section
variable {M : Nat → Prop} {w0 w : World} {L D : List En} {bs : List Nat}
/-- a call that changes a row of one's own -/
theorem _root_.Go.W.LH.callw (H : LH M w0 w L D) (i : Nat) {P : Program} {g : FuncId} {args : Array Value} {A K : Post} {e : TypeId} {sz : Nat} {s : Sl} {xs : List Value} (hi : L[i]? = some (.row e sz s xs))
    (hc : Calls P g args w fun r w' => A r w' ∧ Fr (· ∈ blkL s) w w') (hk : ∀ r w', A r w' → (∀ e' : En, e'.P w' → (∀ b ∈ e'.fp, b ∈ blkL s ∨ w.heap.size ≤ b) → LH M w0 w' (L.set i e') D) → K r w') (hbs : ∀ b ∈ bs, En.g b ∈ L := by simp) : callF bs P g args w K :=
  ⟨(· ∈ blkL s), fun b hb => H.ghost_ne hi (hbs b hb), hc.mono fun r w' ⟨ha, f⟩ => ⟨f, hk r w' ha fun e' he hf => H.upd i e' hi f he hf⟩⟩
/-- what is to be read does not lie in a row of one's own -/
theorem _root_.Go.W.LH.off (H : LH M w0 w L D) (i j : Nat) {e : TypeId} {sz : Nat} {s : Sl} {xs : List Value} {d : En} (hi : L[i]? = some (.row e sz s xs) := by rfl) (hj : D[j]? = some d := by rfl) : ∀ x ∈ blkL s, x ∉ d.fp := fun x hx hd =>
  H.dj d (List.mem_of_getElem? hj) x hd _ (List.mem_of_getElem? hi) hx
end
/-- a row, returned, that lies where another one lay, or is new -/
def RowR (s : Sl) (l : List Rt) (r : Ending) (w w' : World) : Prop := ∃ s' : Sl, r = .returned s'.v ∧ OwnRow w' ty_regex_Regex 4 s' (l.flatMap Rt.c) ∧ ∀ x ∈ blkL s', x ∈ blkL s
theorem lhR {w : World} {s : Sl} {l : List Rt} (D : List En) (ho : OwnRow w ty_regex_Regex 4 s (l.flatMap Rt.c)) (h : ∀ e ∈ D, e.P w ∧ ∀ x ∈ blkL s, x ∉ e.fp) : LH (· ∈ blkL s) w w [.row ty_regex_Regex 4 s (l.flatMap Rt.c)] D :=
  LH.start' _ _ (by
    intro e he
    simp only [List.mem_cons, List.not_mem_nil, or_false] at he
    subst he
    exact ⟨ho, fun b hb => hb⟩) (by
    simp only [List.flatMap_cons, List.flatMap_nil, List.append_nil]
    exact (En.row ty_regex_Regex 4 s (l.flatMap Rt.c)).nd) (fun e he => ⟨(h e he).1, fun b hb e' he' => by
    simp only [List.mem_cons, List.not_mem_nil, or_false] at he'
    subst he'
    exact fun hx => (h e he).2 b hx hb⟩)
theorem take_set_snoc {α : Type} {l : List α} {i : Nat} {a : α} (h : i < l.length) : (l.set i a).take (i + 1) = l.take i ++ [a] := by
  rw [List.take_add_one, List.getElem?_set_self h, List.take_set_of_le (Nat.le_refl _)]
  rfl
theorem c_DeleteFunc (s : Sl) (l : List Rt) (u : Rt) (b : Nat) (w : World) (hl : Rt.szs l ≤ 1000000) (ho : OwnRow w ty_regex_Regex 4 s (l.flatMap Rt.c)) (pl : Rt.Ps w l) (pu : u.P w) (hb : w.heap[b]? = some (.cells u.c.toArray ty_regex_Regex (0, 0)))
    (hd : ∀ x ∈ blkL s, x ∉ Rt.fps l ∧ x ∉ u.fp ∧ x ≠ b) :
    Calls Tryz.prog n_slices_DeleteFunc_sl_regex_Regex_regex_Regex #[s.v, .func (.func n_regex_flat_1) #[] #[.pointer (some (at0 b))]] w fun r w' => RowR s (l.filter fun t => !(cmpR t.rx u.rx == 0)) r w w' ∧ Fr (· ∈ blkL s) w w' := by
  have nr := Rt.rows_n ho.rdn
  have ll := Rt.szs_len l
  have kt : ∀ t ∈ l, t.sz ≤ 1000000 := fun t ht => Nat.le_trans (Rt.szs_mem ht) hl
  have H : LH (· ∈ blkL s) w w [.row ty_regex_Regex 4 s (l.flatMap Rt.c)] [.trees l, .tree u, enU b u] := lhR _ ho (by
    intro e he
    simp only [List.mem_cons, List.not_mem_nil, or_false] at he
    rcases he with rfl | rfl | rfl
    · exact ⟨pl, fun x hx hm => (hd x hx).1 (mem_nub.1 hm)⟩
    · exact ⟨pu, fun x hx hm => (hd x hx).2.1 (mem_nub.1 hm)⟩
    · exact ⟨hb, fun x hx hm => (hd x hx).2.2 (by simpa [enU, En.c, En.ob] using hm)⟩)
  have loop : ∀ (d i j : Nat) (cur : List Rt) (w1 : World), j + d = l.length → i < j → cur.length = l.length → cur.drop j = l.drop j → cur.take i = (l.take j).filter (fun t => !(cmpR t.rx u.rx == 0)) → LH (· ∈ blkL s) w w1 [.row ty_regex_Regex 4 s (cur.flatMap Rt.c)] [.trees l, .tree u, enU b u] →
      slices_DeleteFunc_sl_regex_Regex_regex_Regex.L0T s (at0 b) (i : Int) (j : Int) w1 fun r w' => RowR s (l.filter fun t => !(cmpR t.rx u.rx == 0)) r w w' ∧ Fr (· ∈ blkL s) w w' := by
    intro d
    induction d with
    | zero =>
      intro i j cur w1 hj hij hc hdr htk H1
      refine slices_DeleteFunc_sl_regex_Regex_regex_Regex.L0T_step _ _ _ _ _ _ (sel_false (decide_eq_false (by omega)) ⟨by omega, by omega, ?_⟩)
      have hcap := (H1.get 0 : OwnRow _ _ _ _ _).cap
      obtain ⟨w2, h1, h2, h3⟩ := cut_own (ty := ty_) el_rx z_one rfl (H1.get 0) i (by omega)
      refine ⟨w2, h1, by omega, by omega, ⟨⟨if s.c = 0 then s.a else s.a.map (·.add (0 * 4)), i - 0, s.c - 0⟩, rfl, ?_, fun x hx => ?_⟩, H1.fr.trans h3 fun x _ h => h⟩
      · have e : (cur.flatMap Rt.c).take (i * 4) = (l.filter fun t => !(cmpR t.rx u.rx == 0)).flatMap Rt.c := by
          have e1 : (cur.flatMap Rt.c).take (i * 4) = (cur.take i).flatMap Rt.c := by
            have := Rt.cs_len (cur.take i)
            conv => lhs; rw [← List.take_append_drop i cur, List.flatMap_append]
            rw [List.take_append_of_le_length (by rw [this, List.length_take]; omega), List.take_of_length_le (by rw [this, List.length_take]; omega)]
          rw [e1, htk, List.take_of_length_le (by omega)]
        rw [← e]
        exact h2
      · simp only [blkL] at hx ⊢
        split at hx
        · rename_i p hp
          split at hp
          · rw [hp]; exact hx
          · cases hsa : s.a with
            | none => rw [hsa] at hp; cases hp
            | some q =>
              rw [hsa] at hp
              simp only [Option.map_some, Option.some.injEq] at hp
              subst hp
              rw [add_block] at hx
              exact hx
        · cases hx
    | succ d ihd =>
      intro i j cur w1 hj hij hc hdr htk H1
      have hg : l[j]? = some (l[j]'(by omega)) := List.getElem?_eq_getElem (by omega)
      generalize hxe : l[j]'(by omega) = a at hg
      have hgc : cur[j]? = some a := by
        have : (cur.drop j)[0]? = (l.drop j)[0]? := by rw [hdr]
        simpa [List.getElem?_drop, hg] using this
      have ha := List.mem_of_getElem? hg
      have hnext : l.take (j + 1) = l.take j ++ [a] := by rw [List.take_add_one, hg]; rfl
      refine slices_DeleteFunc_sl_regex_Regex_regex_Regex.L0T_step _ _ _ _ _ _ (sel_true (decide_eq_true (by omega)) ⟨by omega, by omega, own_at (H1.get 0) hgc fun p hp c => ⟨a.k, a.lo.toNat, a.hi.toNat, a.s, c.c0, c.c1, c.c2, c.c3, ?_⟩⟩)
      refine H1.newg (fun b7 w2 H2 => H2.locg fun w3 H3 => ?_)
      refine H3.callg (c_flat1 a u b w3 (kt a ha) ((show Rt.Ps w3 l from H3.getD 0).mem ha) (H3.getD 1) (H3.getD 2)) ?_
      rintro _ w4 rfl H4
      refine ⟨_, rfl, sel_not (fun hf => ⟨by omega, by omega, ?_⟩) (fun ht => ?_)⟩
      · rw [hp]
        refine (show optP (some p) _ from ?_)
        refine H4.strT 0 i (t := a) (ts := cur) rfl hp (by omega) (fun w5 H5 => ?_)
        show slices_DeleteFunc_sl_regex_Regex_regex_Regex.L0T _ _ _ _ _ _
        rw [i64_next _ (by omega), i64_next _ (by omega)]
        refine ihd (i + 1) (j + 1) (cur.set i a) w5 (by omega) (by omega) (by simpa using hc) ?_ ?_ (H5.take 1)
        · rw [List.drop_set_of_lt (by omega), ← List.drop_drop, hdr, List.drop_drop]
        · rw [take_set_snoc (by omega), htk, hnext, List.filter_append]
          simp [hf]
      · show slices_DeleteFunc_sl_regex_Regex_regex_Regex.L0T _ _ _ _ _ _
        rw [i64_next _ (by omega)]
        refine ihd i (j + 1) cur w4 (by omega) (by omega) hc ?_ ?_ (H4.take 1)
        · rw [← List.drop_drop, hdr, List.drop_drop]
        · rw [htk, hnext, List.filter_append]
          simp [ht]
  refine slices_DeleteFunc_sl_regex_Regex_regex_Regex.okT _ _ w _ ?_
  have hI := c_IndexFunc s l ⟨n_regex_flat_1, #[], #[.pointer (some (at0 b))]⟩ (fun t => cmpR t.rx u.rx == 0) [.trees l, .tree u, enU b u] w (by omega) ho.rdn (H.rd) (by kernel_rfl) (fun w' t ht H' => c_flat1 t u b w' (kt t ht) ((show Rt.Ps w' l from H'.getD 1).mem ht) (H'.getD 2) (H'.getD 3))
  refine H.call hI ?_
  rintro _ w1 rfl H1
  rcases idxI_spec (fun t => cmpR t.rx u.rx == 0) l 0 with ⟨h1, h2⟩ | ⟨m, a, h1, h2, h3, h4⟩
  · refine ⟨_, rfl, sel_true (by rw [h1]; rfl) ⟨⟨s, rfl, ?_, fun x hx => hx⟩, H1.fr⟩⟩
    rw [List.filter_eq_self.2 (fun t ht => by rw [h2 t ht]; rfl)]
    exact H1.get 0
  · have hm : m < l.length := (List.getElem?_eq_some_iff.1 h1).1
    refine ⟨_, rfl, sel_false (by rw [h3]; exact beq_eq_false_iff_ne.2 (by omega)) ?_⟩
    rw [h3, Nat.zero_add, i64_next _ (by omega)]
    refine loop (l.length - (m + 1)) m (m + 1) l w1 (by omega) (by omega) rfl rfl ?_ H1
    rw [List.take_add_one, h1, List.filter_append, List.filter_eq_self.2 (fun t ht => by rw [h4 t ht]; rfl)]
    simp only [Option.toList_some, List.filter_cons, h2]
    simp
end Go.Proofs.YtknlbofiicflgaaGreat
namespace Go.Proofs.YtknlbofiicflgaaGreat
open Go Go.W

/-- the parts of a part, where it is of the same kind -/
def openT (x k : Rt) : List Rt := if k.k = x.k then k.l else [k]
def keepU (u : Rt) (t : Rt) : Bool := !(cmpR t.rx u.rx == 0)
def flatT (x u : Rt) : List Rt := (x.l.flatMap (openT x)).filter (keepU u)
/-- a list of parts, or of parts of parts, of a tree -/
structure Sub (x : Rt) (l : List Rt) : Prop where
  P : ∀ w : World, x.P w → ∀ t ∈ l, t.P w
  fp : ∀ t ∈ l, ∀ b ∈ t.fp, b ∈ x.fp
theorem Sub.part {x : Rt} {t : Rt} (h : t ∈ x.l) : Sub x [t] := ⟨fun w px t' ht => by
    simp at ht; subst ht; exact px.parts.2.mem h, fun t' ht b hb => by
    simp at ht; subst ht; exact Rt.fp_parts.2 (.inr (Rt.fps_iff.2 ⟨_, h, hb⟩))⟩
theorem Sub.open {x k : Rt} (h : k ∈ x.l) : Sub x (openT x k) := by
  unfold openT
  split
  · exact ⟨fun w px t ht => ((px.parts.2.mem h).parts.2).mem ht, fun t ht b hb => Rt.fp_parts.2 (.inr (Rt.fps_iff.2 ⟨k, h, Rt.fp_parts.2 (.inr (Rt.fps_iff.2 ⟨t, ht, hb⟩))⟩))⟩
  · exact .part h
theorem Sub.flat {x : Rt} {l : List Rt} (h : ∀ k ∈ l, k ∈ x.l) : Sub x (l.flatMap (openT x)) := ⟨fun w px t ht => by
    obtain ⟨k, hk, ht⟩ := List.mem_flatMap.1 ht
    exact (Sub.open (h k hk)).P w px t ht, fun t ht => by
    obtain ⟨k, hk, ht⟩ := List.mem_flatMap.1 ht
    exact (Sub.open (h k hk)).fp t ht⟩
theorem Sub.sub {x : Rt} {l m : List Rt} (h : Sub x l) (hs : ∀ t ∈ m, t ∈ l) : Sub x m := ⟨fun w px t ht => h.P w px t (hs t ht), fun t ht => h.fp t (hs t ht)⟩
theorem Sub.Ps {x : Rt} {l : List Rt} (h : Sub x l) {w : World} (px : x.P w) : Rt.Ps w l := Rt.ps_of (h.P w px)
theorem Sub.fps {x : Rt} {l : List Rt} (h : Sub x l) {b : Nat} (hb : b ∈ Rt.fps l) : b ∈ x.fp := by
  obtain ⟨t, ht, hb⟩ := Rt.fps_iff.1 hb
  exact h.fp t ht b hb
theorem Sub.flatT (x u : Rt) : Sub x (flatT x u) := (Sub.flat (fun _ h => h)).sub fun _ h => (List.mem_filter.1 h).1
theorem szs_open (x : Rt) : ∀ l : List Rt, Rt.szs (l.flatMap (openT x)) ≤ Rt.szs l
  | [] => Nat.le_refl _
  | k :: l => by
    have h1 : Rt.szs (openT x k) ≤ k.sz := by
      unfold openT
      split
      · rw [Rt.sz_parts k]; omega
      · simp [Rt.szs]
    rw [List.flatMap_cons, szs_app]
    have := szs_open x l
    show _ ≤ k.sz + Rt.szs l
    omega
theorem szs_filter (q : Rt → Bool) : ∀ l : List Rt, Rt.szs (l.filter q) ≤ Rt.szs l
  | [] => Nat.le_refl _
  | k :: l => by
    have := szs_filter q l
    rw [List.filter_cons]
    split
    · unfold Rt.szs; omega
    · show _ ≤ k.sz + Rt.szs l; omega
theorem szs_flatT (x u : Rt) : Rt.szs (flatT x u) + 1 ≤ x.sz := by
  have h1 := szs_filter (keepU u) (x.l.flatMap (openT x))
  have h2 := szs_open x x.l
  rw [Rt.sz_parts x]
  unfold flatT
  omega
/-- a row that is returned, all new -/
def RowN (w : World) (l : List Rt) (r : Ending) (w' : World) : Prop := ∃ s' : Sl, r = .returned s'.v ∧ OwnRow w' ty_regex_Regex 4 s' (l.flatMap Rt.c) ∧ ∀ x ∈ blkL s', w.heap.size ≤ x
theorem c_flat (x u : Rt) (w : World) (h : x.sz ≤ 1000000) (px : x.P w) (pu : u.P w) : Calls Tryz.prog n_regex_flat #[x.v, u.v] w fun r w' => RowN w (flatT x u) r w' ∧ Fr0 w w' := by
  have hs := Rt.sz_parts x
  have hl := Rt.szs_len x.l
  have nr := Rt.rows_n px.parts.1
  have loop : ∀ (d i : Nat) (acc : List Rt) (sl : Sl) (b2 bu : Nat) (w1 : World), i + d = x.l.length → acc = (x.l.take i).flatMap (openT x) → LH F0 w w1 [.g b2, .c bu u.c ty_regex_Regex, .row ty_regex_Regex 4 sl (acc.flatMap Rt.c)] [.tree x, .tree u] →
      regex_flat.L0T b2 x.k x.lo.toNat x.hi.toNat x.s (at0 bu) sl x.s ((x.s.n : Nat) : Int) (i : Int) w1 fun r w' => RowN w (flatT x u) r w' ∧ Fr0 w w' := by
    intro d
    induction d with
    | zero =>
      intro i acc sl b2 bu w1 hi ha H
      have hacc : Sub x acc := by rw [ha]; exact Sub.flat fun k hk => List.mem_of_mem_take hk
      have hsz : Rt.szs acc ≤ Rt.szs x.l := by
        rw [ha, List.take_of_length_le (by omega)]
        exact szs_open x x.l
      refine regex_flat.L0T_step _ _ _ _ _ _ _ _ _ _ _ _ (sel_false (decide_eq_false (by omega)) ?_)
      refine H.callw 2 rfl (c_DeleteFunc sl acc u bu w1 (by omega) (H.get 2) (hacc.Ps (H.getD 0)) (H.getD 1) (H.ob 1) (fun y hy => ⟨fun hm => H.off 2 0 rfl rfl y hy (mem_nub.2 (hacc.fps hm)), fun hm => H.off 2 1 rfl rfl y hy (mem_nub.2 hm), fun hm => ?_⟩)) ?_
      · exact disj_of H.nd (i := 2) rfl (j := 1) rfl (by omega) y hy (by simp [En.c, En.ob, hm])
      rintro _ w2 ⟨s', rfl, ho, hb⟩ hH
      have H2 := hH (.row ty_regex_Regex 4 s' ((acc.filter (keepU u)).flatMap Rt.c)) ho fun b hb' => .inl (hb b hb')
      refine ⟨s', rfl, ⟨s', rfl, ?_, fun b hb' => (H2.new _ (List.mem_of_getElem? (i := 2) rfl) b hb').resolve_right id⟩, H2.fr⟩
      rw [ha, List.take_of_length_le (by omega)] at ho
      exact ho
    | succ d ihd =>
      intro i acc sl b2 bu w1 hi ha H
      have hg : x.l[i]? = some (x.l[i]'(by omega)) := List.getElem?_eq_getElem (by omega)
      generalize x.l[i]'(by omega) = a at hg
      have hm := List.mem_of_getElem? hg
      have pt1 : x.P w1 := H.getD 0
      have sza := Rt.szs_mem hm
      have hsz : Rt.szs acc ≤ Rt.szs x.l := by
        have h1 := szs_open x (x.l.take i)
        have h2 := szs_take_le x.l i
        rw [ha]; omega
      have hnx : acc ++ openT x a = (x.l.take (i + 1)).flatMap (openT x) := by rw [List.take_add_one, hg, List.flatMap_append, ha]; simp
      have nrow := Rt.rows_n (H.get 2 : OwnRow _ _ _ _ _).rdn
      have hla := Rt.szs_len acc
      have tail : ∀ (s' : Sl) (w' : World), LH F0 w w' [.g b2, .c bu u.c ty_regex_Regex, .row ty_regex_Regex 4 s' ((acc ++ openT x a).flatMap Rt.c)] [.tree x, .tree u] → regex_flat.S1T b2 x.k x.lo.toNat x.hi.toNat x.s (at0 bu) s' x.s ((x.s.n : Nat) : Int) (i : Int) w' fun r w' => RowN w (flatT x u) r w' ∧ Fr0 w w' := by
        intro s' w' H'
        show regex_flat.L0T _ _ _ _ _ _ _ _ _ _ _ _
        rw [i64_next _ (by omega)]
        exact ihd (i + 1) _ s' b2 bu w' (by omega) hnx H'
      refine regex_flat.L0T_step _ _ _ _ _ _ _ _ _ _ _ _ (sel_true (decide_eq_true (by omega)) ⟨by omega, by omega, Rt.at' pt1.parts.1 hg fun p hp c => ⟨_, _, _, _, c.c0, c.c1, c.c2, c.c3, ?_⟩⟩)
      refine H.newg fun b7 w2 H2 => sel_eq (fun hk => H2.locg fun w3 H3 => ?_) (fun hk => H2.locg fun w3 H3 => ?_)
      · have pa : a.P w3 := (show x.P w3 from H3.getD 0).parts.2.mem hm
        have na := Rt.rows_n pa.parts.1
        have hla := Rt.szs_len a.l
        have hsa := Rt.sz_parts a
        refine H3.apT 2 el_rx (xs := acc.flatMap Rt.c) (src := a.s) (news := a.l.flatMap Rt.c) rfl pa.parts.1 (c_one _) (by omega) (fun s' w4 H4 => ?_)
        refine tail s' w4 ?_
        have e : openT x a = a.l := if_pos hk
        rw [e, List.flatMap_append]
        exact H4.take 3
      · refine H3.ap1T 2 el_rx (xs := acc.flatMap Rt.c) rfl (fun s' w4 H4 => ?_) (by omega)
        refine tail s' w4 ?_
        have e : openT x a = [a] := if_neg hk
        rw [e, cs_snoc]
        exact H4.take 3
  refine regex_flat.okT _ _ _ _ _ _ _ _ w _ ((lh0 [.tree x, .tree u] (by
    intro e he
    simp only [List.mem_cons, List.not_mem_nil, or_false] at he
    rcases he with rfl | rfl
    · exact px
    · exact pu)).newg fun b2 w1 H1 => H1.nw fun w2 _ H2 => ?_)
  exact loop x.l.length 0 [] ⟨none, 0, 0⟩ b2 w1.heap.size w2 (by omega) rfl (H2.nilrow ty_regex_Regex 4)
end Go.Proofs.YtknlbofiicflgaaGreat

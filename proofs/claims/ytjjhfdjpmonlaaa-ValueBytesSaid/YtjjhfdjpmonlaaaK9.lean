/- Lists of values, and the law's examples: the contracts. -/
import Derived.Test.YtjjhfdjpmonlaaaK8
namespace Go.Proofs.Ytjjhfdjpmonlaaa
open Go Go.W

def valC (p : Val × Sl) : List Value := [.int .i64 p.1.t.k, .int .i64 p.1.t.n, .int .i64 p.1.t.x, .int .u64 (p.1.u : Int), .string (ba p.1.s), p.2.v]
def valsC (l : List (Val × Sl)) : List Value := l.flatMap valC
theorem valsC_len (l : List (Val × Sl)) : (valsC l).length = l.length * 6 := flat_length valC 6 (fun _ => rfl) l
theorem vals_n {w : World} {row : Sl} {l : List (Val × Sl)} (h : RdN 6 w row (valsC l)) : row.n = l.length := by
  have := h.1
  rw [valsC_len] at this
  omega
/-- values in a row, with their entries -/
abbrev ValsE (row : Sl) (l : List (Val × Sl)) : En := .all (.rdn 6 row (valsC l) :: l.map fun p => EntsD p.2 p.1.m)
structure VCells (w : World) (p : Addr) (i : Nat) (v : Val) (sl : Sl) : Prop where
  c0 : w.cell? ((p.add (i * 6)).add 0) = some (.int .i64 v.t.k)
  c1 : w.cell? ((p.add (i * 6)).add 1) = some (.int .i64 v.t.n)
  c2 : w.cell? ((p.add (i * 6)).add 2) = some (.int .i64 v.t.x)
  c3 : w.cell? ((p.add (i * 6)).add 3) = some (.int .u64 (v.u : Int))
  c4 : w.cell? ((p.add (i * 6)).add 4) = some (.string (ba v.s))
  c5 : w.cell? ((p.add (i * 6)).add 5) = some sl.v
theorem val_at {w : World} {row : Sl} {l : List (Val × Sl)} (h : (ValsE row l).P w) {i : Nat} {v : Val} {sl : Sl} (hi : l[i]? = some (v, sl)) {K : Addr → Prop} (hk : ∀ p, row.a = some p → VCells w p i v sl → K p) : optP row.a K :=
  CRow.elem (f := valC) (sz := 6) (fun _ => rfl) (by omega) (show RdN 6 w row (valsC l) from h _ List.mem_cons_self).2.2 hi fun p hp hc => hk p hp ⟨hc 0 _ rfl, hc 1 _ rfl, hc 2 _ rfl, hc 3 _ rfl, hc 4 _ rfl, hc 5 _ rfl⟩
theorem vcells {w : World} {row : Sl} {l : List (Val × Sl)} (h : (ValsE row l).P w) {i : Nat} {v : Val} {sl : Sl} (hi : l[i]? = some (v, sl)) {p : Addr} (hp : row.a = some p) : VCells w p i v sl := by
  have hk := val_at h hi (K := fun q => ∃ q', row.a = some q' ∧ VCells w q' i v sl) (fun q hq hc => ⟨q, hq, hc⟩)
  rw [hp] at hk
  obtain ⟨q, hq, d⟩ := hk
  cases hq
  exact d
theorem val_ents {w : World} {row : Sl} {l : List (Val × Sl)} (h : (ValsE row l).P w) {i : Nat} {v : Val} {sl : Sl} (hi : l[i]? = some (v, sl)) : RdN 3 w sl (entsC v.m) :=
  h (EntsD sl v.m) (List.mem_cons_of_mem _ (List.mem_map.2 ⟨(v, sl), List.mem_of_getElem? hi, rfl⟩))
theorem vals_row {w : World} {row : Sl} {l : List (Val × Sl)} (h : (ValsE row l).P w) : row.n = l.length := vals_n (show RdN 6 w row (valsC l) from h _ List.mem_cons_self)
/-- four values: one of a valid sort, two changed ones, and nothing -/
structure Four (s : Srt) (l : List (Val × Sl)) : Prop where
  len : l.length = 4
  ro : ∀ p ∈ l, Ro 8 p.1
  ok : validS s = true
  fst : ∃ p, l[0]? = some p ∧ Made s p.1
def RetL (w : World) (l : List (Val × Sl)) : Post := fun r w' => ∃ row : Sl, r = .returned row.v ∧ (ValsE row l).P w' ∧ ∀ b ∈ (ValsE row l).fp, w.heap.size ≤ b
theorem noVal_ro (c : Nat) : Ro c noVal := ⟨by constructor <;> decide, by constructor <;> decide, by constructor <;> decide, by decide, Nat.zero_le _, Nat.zero_le _, fun e he => by cases he⟩
abbrev EntsA (l : List (Val × Sl)) : En := .all (l.map fun p => EntsD p.2 p.1.m)
/-- a list of values that is returned: the row is one's own -/
def RetO (w : World) (l : List (Val × Sl)) (r : Ending) (w' : World) : Prop := ∃ row : Sl, r = .returned row.v ∧ OwnRow w' ty_enthymemeref06_Value 6 row (valsC l) ∧ (EntsA l).P w' ∧ (∀ b ∈ blkL row, w.heap.size ≤ b ∧ b ∉ (EntsA l).fp) ∧ ∀ b ∈ (EntsA l).fp, w.heap.size ≤ b
theorem valsE_of {w : World} {row : Sl} {l : List (Val × Sl)} (h : RdN 6 w row (valsC l)) (he : (EntsA l).P w) : (ValsE row l).P w := fun e hm => by
  rcases List.mem_cons.1 hm with rfl | hm
  · exact h
  · exact he e hm
theorem entsA_app {w : World} {l m : List (Val × Sl)} (h : (EntsA l).P w) (h' : (EntsA m).P w) : (EntsA (l ++ m)).P w := fun e hm => by
  rw [List.map_append] at hm
  rcases List.mem_append.1 hm with hm | hm
  · exact h e hm
  · exact h' e hm
theorem RetO.retL {w w' : World} {l : List (Val × Sl)} {r : Ending} (h : RetO w l r w') : RetL w l r w' := by
  obtain ⟨row, h1, h2, h3, h4, h5⟩ := h
  refine ⟨row, h1, valsE_of h2.rdn h3, fun b hb => ?_⟩
  obtain ⟨e, he, hbe⟩ := List.mem_flatMap.1 (mem_nub.1 hb)
  rcases List.mem_cons.1 he with rfl | he
  · exact rdn_fp (fun b hb => (h4 b hb).1) b hbe
  · exact h5 b (mem_nub.2 (List.mem_flatMap.2 ⟨e, he, hbe⟩))
theorem r_someO (n : Int) (hn : I64 n) (l : Sl) (xs : List Int) (at' how by' : Int) (h1 : I64 at') (h2 : I64 how) (h3 : I64 by') (w : World) (h : Nums w l xs) (hx : ∀ x ∈ xs, I64 x) : Calls Try.prog n_enthymemelaw06_some #[.int .i64 n, l.v, .int .i64 at', .int .i64 how, .int .i64 by'] w fun r w' => (∃ s vs, Four s vs ∧ RetO w vs r w') ∧ Fr0 w w' := by
  refine enthymemelaw06_some.okT _ _ _ _ _ w _ ((lh0 [] (by simp)).call (r_Sort n hn w) ?_)
  rintro _ w1 ⟨s, rfl, hs⟩ H1
  refine ⟨_, _, _, rfl, H1.callq (r_Of s hs l xs w1 (h.fr0 H1.fr) hx) ?_⟩
  rintro _ w2 ⟨v, hv, sv, rfl, ov, nv⟩ H2' F2
  have H2 := F2.own (.row ty_enthymemeref06_Entry 3 sv (entsC v.m)) ov nv
  have rv := hv.ro hs
  refine ⟨_, _, _, _, _, _, rfl, H2.newg fun b11 w3 H3 => H3.locg fun w9 H9 => H9.callr (r_Spoilt 5 (by omega) v rv sv at' how by' h1 h2 h3 w9 (OwnRow.rdn (H9.get 0))) ?_⟩
  rintro _ w10 ⟨x, rx, sx, rfl, ox, nx⟩ _ F10
  have H10 := F10.own (.row ty_enthymemeref06_Entry 3 sx (entsC x.m)) ox nx
  have ed : IntKind.wrap .i64 (Int.tdiv by' 3) = Int.tdiv by' 3 := by
    refine IntWalk.i64_in _ ?_
    have : (Int.tdiv by' 3).natAbs = by'.natAbs / 3 := Int.natAbs_tdiv by' 3
    omega
  have hd : I64 (Int.tdiv by' 3) := by
    have : (Int.tdiv by' 3).natAbs = by'.natAbs / 3 := Int.natAbs_tdiv by' 3
    constructor <;> omega
  refine ⟨_, _, _, _, _, _, rfl, H10.newg fun b12 w11 H11 => H11.locg fun w18 H18 => ?_⟩
  rw [ed]
  refine H18.callr (r_Spoilt 6 (by omega) x rx sx how at' _ h2 h1 hd w18 (OwnRow.rdn (H18.get 2))) ?_
  rintro _ w19 ⟨y, ry, sy, rfl, oy, ny⟩ _ F19
  have H19 := F19.own (.row ty_enthymemeref06_Entry 3 sy (entsC y.m)) oy ny
  refine ⟨_, _, _, _, _, _, rfl, ?_⟩
  refine H19.nwrow (e := ty_enthymemeref06_Value) (sz := 6) (n := 4) (cs := valsC [(v, sv), (x, sx), (y, sy), (noVal, ⟨none, 0, 0⟩)]) rfl (by decide) fun w20 H20 => ?_
  refine ⟨⟨s, [(v, sv), (x, sx), (y, sy), (noVal, ⟨none, 0, 0⟩)], ⟨rfl, ?_, hs, _, rfl, hv⟩, ⟨some (at0 w19.heap.size), 4, 4⟩, rfl, H20.get 5, ?_, ?_, ?_⟩, H20.fr⟩
  · intro p hp
    simp only [List.mem_cons, List.not_mem_nil, or_false] at hp
    rcases hp with rfl | rfl | rfl | rfl
    · exact rv.mono (by omega)
    · exact rx.mono (by omega)
    · exact ry.mono (by omega)
    · exact noVal_ro 8
  · intro e he
    simp only [List.map_cons, List.map_nil, List.mem_cons, List.not_mem_nil, or_false] at he
    rcases he with rfl | rfl | rfl | rfl
    · exact OwnRow.rdn (H20.get 0)
    · exact OwnRow.rdn (H20.get 2)
    · exact OwnRow.rdn (H20.get 4)
    · exact RdN.nil 3 _
  · intro b hb
    simp [blkL] at hb
    subst hb
    refine ⟨H19.fr.size, fun hm => ?_⟩
    obtain ⟨e, he, hbe⟩ := List.mem_flatMap.1 (mem_nub.1 hm)
    simp only [List.map_cons, List.map_nil, List.mem_cons, List.not_mem_nil, or_false] at he
    have lt : w19.heap.size < w19.heap.size := by
      rcases he with rfl | rfl | rfl | rfl
      · exact (EntsD sv v.m).lt w19 (OwnRow.rdn (H19.get 0)) _ hbe
      · exact (EntsD sx x.m).lt w19 (OwnRow.rdn (H19.get 2)) _ hbe
      · exact (EntsD sy y.m).lt w19 (OwnRow.rdn (H19.get 4)) _ hbe
      · exact absurd hbe (by simp [En.rdn, entsC, noVal])
    omega
  · intro b hb
    obtain ⟨e, he, hbe⟩ := List.mem_flatMap.1 (mem_nub.1 hb)
    have big : ∀ {i : Nat} {sl : Sl} {m : List Ent}, ([En.row ty_enthymemeref06_Entry 3 sv (entsC v.m), .g b11, .row ty_enthymemeref06_Entry 3 sx (entsC x.m), .g b12, .row ty_enthymemeref06_Entry 3 sy (entsC y.m)] : List En)[i]? = some (.row ty_enthymemeref06_Entry 3 sl (entsC m)) → ∀ b ∈ (EntsD sl m).fp, w.heap.size ≤ b := fun hi => rdn_fp fun b hb => (H19.new _ (List.mem_of_getElem? hi) b hb).resolve_right id
    simp only [List.map_cons, List.map_nil, List.mem_cons, List.not_mem_nil, or_false] at he
    rcases he with rfl | rfl | rfl | rfl
    · exact big (i := 0) rfl b hbe
    · exact big (i := 2) rfl b hbe
    · exact big (i := 4) rfl b hbe
    · exact absurd hbe (by simp [En.rdn, entsC, noVal])
theorem r_some (n : Int) (hn : I64 n) (l : Sl) (xs : List Int) (at' how by' : Int) (h1 : I64 at') (h2 : I64 how) (h3 : I64 by') (w : World) (h : Nums w l xs) (hx : ∀ x ∈ xs, I64 x) : Calls Try.prog n_enthymemelaw06_some #[.int .i64 n, l.v, .int .i64 at', .int .i64 how, .int .i64 by'] w fun r w' => (∃ s vs, Four s vs ∧ RetL w vs r w') ∧ Fr0 w w' :=
  (r_someO n hn l xs at' how by' h1 h2 h3 w h hx).mono fun r w' ⟨⟨s, vs, four, hr⟩, f⟩ => ⟨⟨s, vs, four, hr.retL⟩, f⟩
/-! #### The examples -/
theorem l_lives (w : World) : Calls Try.prog n_enthymemelaw06_lives #[] w fun r w' => r = .returned (.bool true) ∧ Fr0 w w' := by
  refine enthymemelaw06_lives.okT w _ ((lh0 [] (by simp)).newg fun b1 w1 H1 => H1.locg fun w4 H4 => H4.callg (c_Zero ⟨2, 8, 4⟩ w4) ?_)
  rintro _ w5 rfl H5
  have eZ : (if validS ⟨2, 8, 4⟩ then (⟨⟨2, 8, 4⟩, 0, [], []⟩ : Val) else noVal) = ⟨⟨2, 8, 4⟩, 0, [], []⟩ := rfl
  rw [eZ]
  have z0 : ∀ w' : World, RdN 3 w' ⟨none, 0, 0⟩ (entsC []) := fun w' => RdN.nil 3 w'
  refine ⟨_, _, _, _, _, ⟨none, 0, 0⟩, _, rfl, H5.newg fun b2 w6 H6 => H6.newg fun b4 w13 H13 => H13.locg fun w19 H19 => H19.callr (c_Store ⟨⟨2, 8, 4⟩, 0, [], []⟩ ⟨⟨0, 8, 0⟩, 5, [], []⟩ ⟨none, 0, 0⟩ ⟨none, 0, 0⟩ 3 w19 (z0 _) (z0 _) (by simp) (by simp)) ?_⟩
  have s1 : stoV ⟨⟨2, 8, 4⟩, 0, [], []⟩ 3 ⟨⟨0, 8, 0⟩, 5, [], []⟩ = ⟨⟨2, 8, 4⟩, 0, [], [⟨3, 5, []⟩]⟩ := rfl
  have s2 : stoE ⟨⟨2, 8, 4⟩, 0, [], []⟩ 3 ⟨⟨0, 8, 0⟩, 5, [], []⟩ = 0 := rfl
  rw [s1, s2]
  rintro _ w20 ⟨sa, rfl, oa, na⟩ _ F20
  have H20 := F20.rd (EntsD sa [⟨3, 5, []⟩]) oa.rdn (rdn_fp na)
  have nA := ents_own oa
  refine ⟨_, _, _, _, _, _, _, rfl, H20.newg fun b5 w21 H21 => H21.locg fun w27 H27 => H27.callg (c_Select ⟨⟨2, 8, 4⟩, 0, [], [⟨3, 5, []⟩]⟩ sa 3 w27 (H27.getD 0) (by simp)) ?_⟩
  rintro _ w28 rfl H28
  refine ⟨_, _, _, _, _, ⟨none, 0, 0⟩, _, rfl, H28.newg fun b7 w29 H29 => H29.locg fun w35 H35 => H35.callg (c_Select ⟨⟨2, 8, 4⟩, 0, [], [⟨3, 5, []⟩]⟩ sa 2 w35 (H35.getD 0) (by simp)) ?_⟩
  rintro _ w36 rfl H36
  refine ⟨_, _, _, _, _, ⟨none, 0, 0⟩, _, rfl, H36.newg fun b9 w37 H37 => H37.locg fun w43 H43 => H43.callg (c_Diff ⟨⟨2, 8, 4⟩, 0, [], []⟩ ⟨⟨2, 8, 4⟩, 0, [], [⟨3, 5, []⟩]⟩ ⟨none, 0, 0⟩ sa w43 (z0 _) (H43.getD 0) (by simp) (by simp)) ?_⟩
  rintro _ w44 rfl H44
  refine ⟨_, _, rfl, H44.locg fun w45 H45 => H45.callr (c_Store ⟨⟨2, 8, 4⟩, 0, [], [⟨3, 5, []⟩]⟩ ⟨⟨0, 8, 0⟩, 0, [], []⟩ sa ⟨none, 0, 0⟩ 3 w45 (H45.getD 0) (z0 _) (by simp) (by simp)) ?_⟩
  have s3 : stoV ⟨⟨2, 8, 4⟩, 0, [], [⟨3, 5, []⟩]⟩ 3 ⟨⟨0, 8, 0⟩, 0, [], []⟩ = ⟨⟨2, 8, 4⟩, 0, [], []⟩ := rfl
  have s4 : stoE ⟨⟨2, 8, 4⟩, 0, [], [⟨3, 5, []⟩]⟩ 3 ⟨⟨0, 8, 0⟩, 0, [], []⟩ = 0 := rfl
  rw [s3, s4]
  rintro _ w46 ⟨sb, rfl, ob, nb⟩ _ F46
  have H46 := F46.rd (EntsD sb []) ob.rdn (rdn_fp nb)
  refine ⟨_, _, _, _, _, _, _, rfl, H46.newg fun b13 w47 H47 => sel_true rfl (sel_true rfl (sel_true rfl (sel_true rfl (sel_true rfl (sel_true rfl (sel_true (by rw [nA]; rfl) (sel_true rfl (sel_true rfl (sel_true rfl (H47.locg fun w53 H53 => H53.callg (c_Compare ⟨⟨2, 8, 4⟩, 0, [], []⟩ ⟨⟨2, 8, 4⟩, 0, [], []⟩ (H53.getD 1) (z0 _) (by simp)) ?_))))))))))⟩
  rintro _ w54 rfl H54
  exact ⟨_, rfl, rfl, H54.fr⟩
end Go.Proofs.Ytjjhfdjpmonlaaa

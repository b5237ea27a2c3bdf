/- Package enthymemelaw07: lives: the contract. TermNeeds: the walk through the law. -/
import Derived.Test.YtcifihepfadgfaaGreatDoorE1
import Derived.Test.YtcifihepfadgfaaGreatDoorVB
import Derived.Test.YtcifihepfadgfaaGreatDoorTM
import Derived.Lib.LaidTab
import Derived.LaidByTextLater
import Derived.Test.YtcifihepfadgfaaGreatDoorRows
set_option linter.unusedVariables false
set_option maxRecDepth 100000
set_option maxHeartbeats 1000000
namespace Go.Proofs.YtcifihepfadgfaaGreatDoor
open Go Go.W

def liX : Nx := ⟨0, [], 0, 0, 0, ba [120], ⟨0, 8, 0⟩⟩
def liN : Nx := ⟨4, [0], 0, 0, 0, ba [], noS⟩
def liM : Nx := ⟨4, [0], 0, 0, 0, ba [], ⟨0, 8, 0⟩⟩
def liC : Nx := ⟨20, [0, 1], 0, 0, 0, ba [], noS⟩
def liE : Nx := ⟨21, [0], 8, 0, 0, ba [], noS⟩
theorem li1 : addX [] liX = ([liX], 0, 0) := by kernel_rfl
theorem li2 : addX [liX] liN = ([liX, liM], 1, 0) := by kernel_rfl
theorem li3 : addX [liX, liM] liN = ([liX, liM], 1, 0) := by kernel_rfl
theorem li4 : srtX [liX, liM] liC = (⟨0, 16, 0⟩, 0) := by kernel_rfl
theorem li5 : srtX [liX, liM] liE = (noS, 5) := by kernel_rfl
theorem tok_of {d : Nx} (h1 : d.kids.length ≤ 2) (h2 : 0 ≤ d.n ∧ d.n ≤ 8) (h3 : d.m = 0) (h4 : d.u = 0) (h5 : d.op ≠ 33) : TOk d := ⟨by omega, ⟨by omega, by omega⟩, ⟨by omega, by omega⟩, by omega, fun h => absurd h h5⟩
theorem tX : TOk liX := tok_of (by decide) (by decide) rfl rfl (by decide)
theorem tN : TOk liN := tok_of (by decide) (by decide) rfl rfl (by decide)
theorem tC : TOk liC := tok_of (by decide) (by decide) rfl rfl (by decide)
theorem tE : TOk liE := tok_of (by decide) (by decide) rfl rfl (by decide)
theorem gr_small {g : List Nx} (h : ∀ d ∈ g, validS d.st = true ∧ d.kids.length ≤ 1) {l : List Nd} (hl : xs l = g) : (∀ e ∈ xs l, validS e.st = true) ∧ ∀ e ∈ l, e.x.kids.length ≤ 1000000000 := by
  subst hl
  exact ⟨fun e he => (h e he).1, fun e he => by have := (h e.x (List.mem_map.2 ⟨e, he, rfl⟩)).2; omega⟩
theorem xs_len {g : List Nx} {l : List Nd} (h : xs l = g) : l.length = g.length := by
  rw [← h]; simp [xs]
theorem c_lives (w : World) (hk : kcE.P w) : Calls Tryz.prog n_enthymemelaw07_lives #[] w fun r w' => r = .returned (.bool true) ∧ Fr0 w w' := by
  have H : LH F0 w w [] [kcE] := lh0 _ (by
    intro e he
    simp only [List.mem_cons, List.not_mem_nil, or_false] at he
    subst he
    exact hk)
  have G0 : ∀ w : World, GP w ⟨none, 0, 0⟩ [] := fun w => ⟨RdN.nil 9 w, by simp⟩
  have s1 : ∀ d ∈ ([liX] : List Nx), validS d.st = true ∧ d.kids.length ≤ 1 := by decide
  have s2 : ∀ d ∈ ([liX, liM] : List Nx), validS d.st = true ∧ d.kids.length ≤ 1 := by decide
  have q1 := t_Add (d := ⟨liX, ⟨none, 0, 0⟩⟩) (G0 w) (Rd.nil w) hk tX (by decide) (by simp [xs]) (by simp)
  refine enthymemelaw07_lives.okT w _ (q1.mono ?_)
  rintro _ w1 ⟨⟨g1, rfl, ⟨l1, x1, G1, F1⟩⟩, f1⟩
  rw [show xs [] = ([] : List Nx) from rfl, li1] at x1 ⊢
  have n1 := xs_len x1
  have H1 := H.addD (.gr g1 l1) f1 (gr_P.2 G1) (fun b hb => .inl ((F1 b hb).resolve_left fun h => by
    rcases gr_fp.1 h with h | ⟨d, hd, _⟩
    · cases h
    · cases hd))
  refine ⟨_, _, _, rfl, H1.newg fun b1 w2 H2 => H2.locg fun w3 H3 => H3.nw fun w4 _ H4 => ?_⟩
  have k0 : Nums w4 ⟨some (at0 w3.heap.size), 1, 1⟩ [0] := blk_nums (T := ty_int) (H4.ob 1) rfl
  have q2 := t_Add (d := ⟨liN, ⟨some (at0 w3.heap.size), 1, 1⟩⟩) (gr_P.1 (H4.getD 1)) k0 (H4.getD 0) tN (by rw [n1]; decide) (gr_small s1 x1).1 (gr_small s1 x1).2
  refine callF0 (q2.mono ?_)
  rintro _ w5 ⟨⟨g2, rfl, ⟨l2, x2, G2, F2⟩⟩, f5⟩
  rw [x1, li2] at x2 ⊢
  have n2 := xs_len x2
  have H5 := H4.addD (.gr g2 l2) f5 (gr_P.2 G2) (fun b hb => (F2 b hb).elim (fun h => .inr (.inr ⟨_, List.mem_of_getElem? (i := 1) rfl, h⟩)) .inl)
  refine ⟨f5, _, _, _, rfl, H5.newg fun b4 w6 H6 => H6.locg fun w7 H7 => H7.nw fun w8 _ H8 => ?_⟩
  have k1 : Nums w8 ⟨some (at0 w7.heap.size), 1, 1⟩ [0] := blk_nums (T := ty_int) (H8.ob 3) rfl
  have q3 := t_Add (d := ⟨liN, ⟨some (at0 w7.heap.size), 1, 1⟩⟩) (gr_P.1 (H8.getD 2)) k1 (H8.getD 0) tN (by rw [n2]; decide) (gr_small s2 x2).1 (gr_small s2 x2).2
  refine callF0 (q3.mono ?_)
  rintro _ w9 ⟨⟨g3, rfl, ⟨l3, x3, G3, F3⟩⟩, f9⟩
  rw [x2, li3] at x3 ⊢
  have n3 := xs_len x3
  have H9 := H8.addD (.gr g3 l3) f9 (gr_P.2 G3) (fun b hb => (F3 b hb).elim (fun h => .inr (.inr ⟨_, List.mem_of_getElem? (i := 2) rfl, h⟩)) .inl)
  have hn3 := gr_n G3
  refine ⟨f9, _, _, _, rfl, H9.newg fun b7 w10 H10 => sel_false rfl (sel_false rfl (sel_false rfl (sel_false rfl (sel_false rfl (sel_ne (fun hne => absurd (by rw [hn3, n3]; rfl) hne) (fun _ => H10.locg fun w11 H11 => H11.nw fun w12 _ H12 => ?_))))))⟩
  have k2 : Nums w12 ⟨some (at0 w11.heap.size), 2, 2⟩ [0, 1] := blk_nums (T := ty_int) (H12.ob 5) rfl
  have q4 := t_SortOf (d := ⟨liC, ⟨some (at0 w11.heap.size), 2, 2⟩⟩) (gr_P.1 (H12.getD 3)) k2 (H12.getD 0) tC (by rw [n3]; decide) (gr_small s2 x3).1
  refine H12.callg q4 ?_
  rintro _ w13 rfl H13
  rw [x3, li4]
  refine ⟨_, _, _, _, rfl, H13.newg fun b10 w14 H14 => H14.locg fun w17 H17 => H17.nw fun w18 _ H18 => ?_⟩
  have k3 : Nums w18 ⟨some (at0 w17.heap.size), 1, 1⟩ [0] := blk_nums (T := ty_int) (H18.ob 7) rfl
  have q5 := t_SortOf (d := ⟨liE, ⟨some (at0 w17.heap.size), 1, 1⟩⟩) (gr_P.1 (H18.getD 3)) k3 (H18.getD 0) tE (by rw [n3]; decide) (gr_small s2 x3).1
  refine H18.callg q5 ?_
  rintro _ w19 rfl H19
  rw [x3, li5]
  exact ⟨_, _, _, _, rfl, H19.newg fun b12 w20 H20 => sel_true rfl (sel_true rfl (H20.locg fun w23 H23 => ⟨rfl, H23.fr⟩))⟩
end Go.Proofs.YtcifihepfadgfaaGreatDoor
set_option maxRecDepth 100000
set_option maxHeartbeats 1000000
namespace Go.Proofs.YtcifihepfadgfaaGreatDoor
open Go Go.W

/-- the table, out of the row's condition -/
theorem kc_of {W : World} (h : laidMetH Tryz.prog [("enthymeme/term.kidCounts", Rows.laid_enthymeme_term_kidCounts)] W) : kcE.P W := by
  rw [MakeChecks.laidMetH_plain _ _ _ (by kernel_rfl)] at h
  have ht := Go.Lib.tabIs_of_head (k := .i64) (zs := kcL) (g := 0) (t := ty_35_int) (e := ty_int) (n := 35) (by kernel_rfl) (by kernel_rfl) (by kernel_rfl) (by kernel_rfl) (by kernel_rfl) (by kernel_rfl) h
  refine rd_in rfl (Nat.le_refl _) (fun h => by cases h) (fun i v hi => ⟨at0 0, rfl, ?_⟩)
  have hl : i < kcL.length := by
    have := (List.getElem?_eq_some_iff.1 hi).1
    simpa using this
  have hc := ht.cell (g := 0) (by kernel_rfl) i hl
  rw [List.getElem?_map, List.getElem?_eq_getElem hl] at hi
  rw [List.getD, List.getElem?_eq_getElem hl] at hc
  simp only [Option.map_some, Option.some.injEq] at hi
  rw [← hi]
  rw [show (at0 0).add i = ⟨0, i, none⟩ from addz 0 i]
  exact hc
section
variable {w : World} {l : List Nd} {s : Sl} {other : Int}
theorem needs_rest (hmd : MdG (xs l)) (hll : l.length ≤ 100) (hot : I64 other) (rts : List Int) (hrt : ∀ r ∈ rts, 0 ≤ r ∧ r < (l.length : Int)) (hrl : rts.length ≤ 4) (x10 : Nat) (rs : Sl) (w1 : World) (H : LH F0 w w1 [.g x10, numR rs rts] [.gr s l, kcE]) :
    enthymemelaw07_TermNeeds.S1T other s x10 s rs w1 fun r w' => r = .returned (.bool true) ∧ Fr0 w w' := by
  have hkl := hmd.kl
  have hklt := hmd.vg.klt
  have hML : l.length ≤ MaxL := by unfold MaxL; omega
  have hsn := gr_n (gr_P.1 (H.getD 0))
  have hxl : (xs l).length = l.length := by simp [xs]
  have allIn : rts.all (kidIn (xs l)) = true := by
    rw [List.all_eq_true]
    intro r hr
    have := hrt r hr
    unfold kidIn
    rw [decide_eq_true this.1, decide_eq_true (show r < ((xs l).length : Int) by rw [hxl]; exact this.2)]
    rfl
  refine callF0 ((c_Needs (gr_P.1 (H.getD 0)) (num_own (H.get 1)) hML (by unfold MaxL; omega) hkl hklt).mono ?_)
  rintro _ w2 ⟨⟨sa, ea, rfl, hR⟩, f2⟩
  rw [if_pos allIn] at hR
  obtain ⟨rfl, oa, na⟩ := hR
  have H2 := H.pushg f2 oa na
  refine ⟨f2, sa, 0, rfl, H2.nwrow (n := 3) (sz := 1) (cs := [(-1 : Int), ((s.n : Nat) : Int), other].map intV) rfl (by decide) fun w3 H3 => ?_⟩
  have H3 : LH F0 w w3 [.g x10, numR rs rts, numR sa (needsX (xs l) rts), numR ⟨some (at0 w2.heap.size), 3, 3⟩ [-1, (l.length : Int), other]] [.gr s l, kcE] := by rw [← hsn]; exact H3
  have hrn := num_len (H.get 1)
  generalize (⟨some (at0 w2.heap.size), 3, 3⟩ : Sl) = ls at H3
  have loop : ∀ (m i : Nat) (w4 : World), i + m = 3 → LH F0 w w4 [.g x10, numR rs rts, numR sa (needsX (xs l) rts), numR ls [-1, (l.length : Int), other]] [.gr s l, kcE] → enthymemelaw07_TermNeeds.L2T s x10 s rs sa 0 ls (i : Int) w4 fun r w' => r = .returned (.bool true) ∧ Fr0 w w' := by
    intro m
    induction m with
    | zero =>
      intro i w4 hi H4
      refine enthymemelaw07_TermNeeds.L2T_step _ _ _ _ _ _ _ _ _ _ (sel_false (decide_eq_false (by omega)) (sel_true rfl ?_))
      refine H4.callr (c_rNeeds (gr_P.1 (H4.getD 0)) (num_own (H4.get 1)) hML (by unfold MaxL; omega) hkl) ?_
      rintro _ w5 ⟨sb, rfl, ob, nb⟩ _ F5
      have H5 := F5.rd (.rd sb ((needsX (xs l) rts).map intV)) (num_own ob) (rd_fp nb)
      have hlen : (needsX (xs l) rts).length ≤ 1000000000000 := by
        have := num_len (H4.get 2)
        have hup : upTo (xs l) rts l.length 0 (needsX (xs l) rts) := by
          have main : ∀ (i : Nat) (out : List Int), i ≤ l.length → upTo (xs l) rts l.length i out → upTo (xs l) rts l.length 0 (downX (xs l) rts i out) := by
            intro i
            induction i with
            | zero => intro out _ h; exact h
            | succ i ih => intro out hi h; exact ih _ (by omega) (upTo_step hklt h (by omega))
          have h0 : upTo (xs l) rts l.length l.length [] := by
            unfold upTo
            rw [List.drop_of_length_le (by simp)]
            rfl
          have := main l.length [] (Nat.le_refl _) h0
          unfold needsX
          rw [hxl]
          exact this
        unfold upTo at hup
        have h1 := congrArg List.length hup
        rw [List.length_map, List.drop_zero] at h1
        have h2 := List.length_filter_le (inOut (xs l) rts (needsX (xs l) rts)) (List.range l.length)
        rw [List.length_range] at h2
        omega
      refine ⟨_, rfl, H5.callg (same_ints (num_own (H5.get 2)) (H5.getD 2) hlen) ?_⟩
      rintro _ w6 rfl H6
      rw [decide_eq_true rfl]
      refine ⟨_, rfl, sel_true rfl (H6.callr (c_Vars (gr_P.1 (H6.getD 0)) hML) ?_)⟩
      rintro _ w7 ⟨s7, rfl, o7, n7⟩ _ F7
      have H7 := F7.rd (.rd s7 ((varsX (xs l)).map intV)) (num_own o7) (rd_fp n7)
      refine ⟨_, rfl, H7.callr (c_rVars (gr_P.1 (H7.getD 0)) hML) ?_⟩
      rintro _ w8 ⟨s8, rfl, o8, n8⟩ _ F8
      have H8 := F8.rd (.rd s8 ((varsX (xs l)).map intV)) (num_own o8) (rd_fp n8)
      have hvl : (varsX (xs l)).length ≤ 1000000000000 := by
        rw [varsX_eq, List.length_map]
        have := List.length_filter_le (vIs (xs l)) (List.range (xs l).length)
        rw [List.length_range] at this
        omega
      refine ⟨_, rfl, H8.callg (same_ints (H8.getD 3) (H8.getD 4) hvl) ?_⟩
      rintro _ w9 rfl H9
      rw [decide_eq_true rfl]
      refine ⟨_, rfl, sel_true rfl (H9.callg (c_lives w9 (H9.getD 1)) ?_)⟩
      rintro _ w10 rfl H10
      exact ⟨_, rfl, rfl, H10.fr⟩
    | succ m ih =>
      intro i w4 hi H4
      have hgl : ([-1, (l.length : Int), other] : List Int)[i]? = some (([-1, (l.length : Int), other] : List Int)[i]'(by show i < 3; omega)) := List.getElem?_eq_getElem _
      have hxr : I64 (([-1, (l.length : Int), other] : List Int)[i]'(by show i < 3; omega)) := by
        have := List.mem_of_getElem? hgl
        simp only [List.mem_cons, List.not_mem_nil, or_false] at this
        rcases this with h | h | h <;> rw [h]
        · exact ⟨by omega, by omega⟩
        · exact ⟨by omega, by omega⟩
        · exact hot
      generalize ([-1, (l.length : Int), other] : List Int)[i]'(by show i < 3; omega) = x at hgl hxr
      have hln := num_len (H4.get 3)
      have hln : ls.n = 3 := hln
      have hrn4 := num_len (H4.get 1)
      -- after the call
      have S3 : ∀ (b : Sl) (f : Int) (w5 : World) (L : List En), LH F0 w w5 ([.g x10, numR rs rts, numR sa (needsX (xs l) rts), numR ls [-1, (l.length : Int), other]] ++ L) [.gr s l, kcE] → (if kidIn (xs l) x = true then f = 0 else f = 7 ∧ b = ⟨none, 0, 0⟩) → enthymemelaw07_TermNeeds.S3T s x10 s rs sa 0 ls (i : Int) b f w5 fun r w' => r = .returned (.bool true) ∧ Fr0 w w' := by
        intro b f w5 L H5 hf
        have H5 : LH F0 w w5 [.g x10, numR rs rts, numR sa (needsX (xs l) rts), numR ls [-1, (l.length : Int), other]] [.gr s l, kcE] := H5.take 4
        have S6 : enthymemelaw07_TermNeeds.S6T s x10 s rs sa 0 ls (i : Int) w5 fun r w' => r = .returned (.bool true) ∧ Fr0 w w' := by
          show enthymemelaw07_TermNeeds.L2T s x10 s rs sa 0 ls (IntKind.wrap .i64 ((i : Int) + 1)) w5 _
          rw [i64_next _ (by omega)]
          exact ih (i + 1) w5 (by omega) H5
        have S4 : ∀ out : Bool, out = !kidIn (xs l) x → enthymemelaw07_TermNeeds.S4T s x10 s rs sa 0 ls (i : Int) b f out w5 fun r w' => r = .returned (.bool true) ∧ Fr0 w w' := by
          rintro out rfl
          cases hx : kidIn (xs l) x with
          | true =>
            rw [hx, if_pos rfl] at hf
            subst hf
            exact sel_false rfl (sel_false rfl S6)
          | false =>
            rw [hx, if_neg (by simp)] at hf
            obtain ⟨rfl, rfl⟩ := hf
            exact sel_false rfl (sel_true rfl (sel_false rfl S6))
        refine ⟨by omega, by omega, (num_own (H5.get 3)).cell hgl (by omega) fun p hp hc => ⟨x, hc, sel_dec (fun h0 => S4 true ?_) (fun h0 => ⟨by omega, by omega, (num_own (H5.get 3)).cell hgl (by omega) fun p hp hc => ⟨x, hc, S4 _ ?_⟩⟩)⟩⟩
        · unfold kidIn; rw [decide_eq_false (by omega)]; rfl
        · unfold kidIn
          rw [decide_eq_true (show 0 ≤ x by omega), Bool.true_and, hxl, ← decide_not]
          exact decide_eq_decide.2 (by omega)
      have call : ∀ (t : Sl) (w5 : World) (L : List En), LH F0 w w5 ([.g x10, numR rs rts, numR sa (needsX (xs l) rts), numR ls [-1, (l.length : Int), other]] ++ L) [.gr s l, kcE] → Nums w5 t (rts ++ [x]) → callF [x10] Tryz.prog n_term_Needs #[.agg #[s.v], t.v] w5 fun r_ w6 => ∃ (b : Sl) (f : Int), r_ = .returned (.tuple #[b.v, .i f]) ∧ enthymemelaw07_TermNeeds.S3T s x10 s rs sa 0 ls (i : Int) b f w6 fun r w' => r = .returned (.bool true) ∧ Fr0 w w' := by
        intro t w5 L H5 ht
        refine callF0 ((c_Needs (gr_P.1 (H5.getD 0)) ht hML (by simp; unfold MaxL; omega) hkl hklt).mono ?_)
        rintro _ w6 ⟨⟨b, f, rfl, hR⟩, f6⟩
        refine ⟨f6, b, f, rfl, S3 b f w6 L (H5.fr0 f6) ?_⟩
        rw [List.all_append, allIn, Bool.true_and] at hR
        simp only [List.all_cons, List.all_nil, Bool.and_true] at hR
        split
        · rename_i hx
          rw [if_pos hx] at hR
          exact hR.1
        · rename_i hx
          rw [if_neg hx] at hR
          exact hR
      have cell : ∀ {w5 : World} {L : List En} {p : Addr}, LH F0 w w5 ([.g x10, numR rs rts, numR sa (needsX (xs l) rts), numR ls [-1, (l.length : Int), other]] ++ L) [.gr s l, kcE] → ls.a = some p → w5.cell? (p.add (Int.toNat (i : Int) * 1)) = some (.i x) := by
        intro w5 L p H5 hp
        have := (num_own (H5.get 3)).cell hgl (j := Int.toNat (i : Int) * 1) (by omega) (K := fun q => ∃ q', ls.a = some q' ∧ w5.cell? (q'.add (Int.toNat (i : Int) * 1)) = some (.int .i64 x)) (fun q hq hc => ⟨q, hq, hc⟩)
        rw [hp] at this
        obtain ⟨q, hq, hc⟩ := this
        cases hq
        exact hc
      have rr : ∀ {w5 : World} {L : List En}, LH F0 w w5 ([.g x10, numR rs rts, numR sa (needsX (xs l) rts), numR ls [-1, (l.length : Int), other]] ++ L) [.gr s l, kcE] → RdN 1 w5 rs (rts.map intV) := fun H5 => (H5.get 1 : OwnRow _ _ _ _ _).rdn
      refine enthymemelaw07_TermNeeds.L2T_step _ _ _ _ _ _ _ _ _ _ (sel_true (decide_eq_true (by omega)) ⟨by omega, by omega, (num_own (H4.get 3)).cell hgl (j := Int.toNat (i : Int) * 1) (by omega) fun p hp _ => H4.locg fun w5 H5 => ⟨x, cell (L := []) H5 hp, ?_, ?_⟩⟩)
      · refine H5.nwrow (n := 0) (sz := 1) (cs := []) rfl (by decide) fun w6 H6 => ⟨cell (L := [_]) H6 hp, ?_, ?_⟩
        · refine H6.apT 4 el_ints (s := ⟨some (at0 w5.heap.size), 0, 0⟩) (src := rs) rfl (rr (L := [_]) H6) (intV_one _) (by simp only; omega) (fun s1 w7 H7 => ?_)
          have H7 : LH F0 w w7 [.g x10, numR rs rts, numR sa (needsX (xs l) rts), numR ls [-1, (l.length : Int), other], numR s1 rts] [.gr s l, kcE] := H7
          have hs1 := num_len (H7.get 4)
          refine ⟨cell (L := [numR s1 rts]) H7 hp, H7.ap1T 4 el_ints rfl (fun s2 w8 H8 => ?_) (by omega)⟩
          have H8 : LH F0 w w8 [.g x10, numR rs rts, numR sa (needsX (xs l) rts), numR ls [-1, (l.length : Int), other], numR s2 (rts ++ [x])] [.gr s l, kcE] := by
            rw [show numR s2 (rts ++ [x]) = .row ty_int 1 s2 (rts.map intV ++ [intV x]) by rw [numR, List.map_append]; rfl]; exact H8
          exact call s2 w8 [numR s2 (rts ++ [x])] H8 (num_own (H8.get 4))
        · refine H6.nw fun w7 _ H7 => ?_
          refine H7.apT 4 el_ints (s := ⟨some (at0 w5.heap.size), 0, 0⟩) (src := rs) rfl (rr (L := [_, _]) H7) (intV_one _) (by simp only; omega) (fun s1 w8 H8 => ?_)
          have hs1 : s1.n = rts.length := num_len (show OwnRow w8 ty_int 1 s1 (rts.map intV) from H8.get 4)
          have hsrc : RdN 1 w8 ⟨some (at0 w6.heap.size), 1, 1⟩ ([x].map intV) := blk_rdn (T := ty_int) (H8.ob 5) rfl
          refine H8.apT 4 el_ints (src := ⟨some (at0 w6.heap.size), 1, 1⟩) rfl hsrc (intV_one _) (by simp only; omega) (fun s2 w9 H9 => ?_)
          have ho : OwnRow w9 ty_int 1 s2 (rts.map intV ++ [x].map intV) := H9.get 4
          rw [← List.map_append] at ho
          exact call s2 w9 _ H9 (num_own ho)
      · refine H5.nw fun w6 _ H6 => H6.nwrow (n := 0) (sz := 1) (cs := []) rfl (by decide) fun w7 H7 => ?_
        refine H7.apT 5 el_ints (s := ⟨some (at0 w6.heap.size), 0, 0⟩) (src := rs) rfl (rr (L := [_, _]) H7) (intV_one _) (by simp only; omega) (fun s1 w8 H8 => ?_)
        have hs1 : s1.n = rts.length := num_len (show OwnRow w8 ty_int 1 s1 (rts.map intV) from H8.get 5)
        have hsrc : RdN 1 w8 ⟨some (at0 w5.heap.size), 1, 1⟩ ([x].map intV) := blk_rdn (T := ty_int) (H8.ob 4) rfl
        refine H8.apT 5 el_ints (src := ⟨some (at0 w5.heap.size), 1, 1⟩) rfl hsrc (intV_one _) (by simp only; omega) (fun s2 w9 H9 => ?_)
        have ho : OwnRow w9 ty_int 1 s2 (rts.map intV ++ [x].map intV) := H9.get 5
        rw [← List.map_append] at ho
        exact call s2 w9 _ H9 (num_own ho)
  exact loop 3 0 w3 (by omega) H3
end
theorem termNeeds_walk (W : World) (hL : laidMetH Tryz.prog [("enthymeme/term.kidCounts", Rows.laid_enthymeme_term_kidCounts)] W) (ls : Sl) (kind : Int) (rs : Sl) (other : Int) (w0 : ArgNums W ls) (w1 : I64 kind) (w2 : ArgNums W rs) (w3 : I64 other) :
    Calls Tryz.prog n_enthymemelaw07_TermNeeds #[ls.v, .i kind, rs.v, .i other] W fun r w' => r = .returned (.bool true) ∧ Fr0 W w' := by
  obtain ⟨ns, hns, hnl, hnr⟩ := w0
  obtain ⟨qs, hqs, hql, hqr⟩ := w2
  have hk := kc_of hL
  have H : LH F0 W W [] [.rd ls (ns.map intV), .rd rs (qs.map intV), kcE] := lh0 _ (by
    intro e he
    simp only [List.mem_cons, List.not_mem_nil, or_false] at he
    rcases he with rfl | rfl | rfl
    · exact hns
    · exact hqs
    · exact hk)
  refine enthymemelaw07_TermNeeds.okT ls kind rs other W _ (H.call (n_around kind 3 W (by omega) w1) ?_)
  rintro _ v1 rfl H1
  refine ⟨_, rfl, H1.callq (c_Made (H1.getD 0) hnr hnl (aroundI kind 3) 15 (by omega)) ?_⟩
  rintro _ v2 ⟨s, l, rfl, hmd, hl1, hl2, G, F⟩ _ F2
  have H2 := F2.rd (.gr s l) (gr_P.2 G) F
  have hsn := gr_n G
  have hqn := Nums.len hqs
  refine ⟨s, rfl, H2.newg fun b10 v3 H3 => H3.locg fun v4 H4 => ?_⟩
  have loop : ∀ (m i : Nat) (sl : Sl) (rts : List Int) (v5 : World), i + m = min qs.length 4 → rts.length = i → (∀ r ∈ rts, 0 ≤ r ∧ r < (l.length : Int)) → LH F0 W v5 [.g b10, numR sl rts] [.rd ls (ns.map intV), .rd rs (qs.map intV), kcE, .gr s l] →
      enthymemelaw07_TermNeeds.L0T rs other s b10 s sl (i : Int) v5 fun r w' => r = .returned (.bool true) ∧ Fr0 W w' := by
    intro m
    induction m with
    | zero =>
      intro i sl rts v5 hi hlen hr H5
      have fin := needs_rest (s := s) hmd (by omega) w3 rts hr (by omega) b10 sl v5 (H5.forget [.gr s l, kcE] (by simp))
      exact enthymemelaw07_TermNeeds.L0T_step _ _ _ _ _ _ _ _ _ (sel_dec (fun h1 => sel_false (decide_eq_false (by omega)) fin) (fun _ => fin))
    | succ m ih =>
      intro i sl rts v5 hi hlen hr H5
      have hg : qs[i]? = some (qs[i]'(by omega)) := List.getElem?_eq_getElem (by omega)
      have hqi := hqr _ (List.mem_of_getElem? hg)
      generalize qs[i]'(by omega) = x at hg hqi
      have hsl := num_len (H5.get 1)
      refine enthymemelaw07_TermNeeds.L0T_step _ _ _ _ _ _ _ _ _ (sel_true (decide_eq_true (by omega)) (sel_true (decide_eq_true (by omega)) ⟨by omega, by omega, (show Nums v5 rs qs from H5.getD 1).cell hg (by omega) fun p hp hc => ⟨x, hc, H5.callg (n_around x _ v5 (by omega) hqi) ?_⟩⟩))
      have hra := aroundI_range x ((s.n : Nat) : Int) (by omega)
      generalize aroundI x ((s.n : Nat) : Int) = z at hra
      rintro _ v6 rfl H6
      refine ⟨_, rfl, H6.ap1T 1 el_ints rfl (fun s' v7 H7 => ?_) (by omega)⟩
      rw [i64_next _ (by omega)]
      refine ih (i + 1) s' (rts ++ [z]) v7 (by omega) (by simp [hlen]) (fun r hr' => ?_) (by rw [numR, List.map_append]; exact H7)
      rcases List.mem_append.1 hr' with h | h
      · exact hr r h
      · simp only [List.mem_cons, List.not_mem_nil, or_false] at h
        subst h
        omega
  exact loop (min qs.length 4) 0 ⟨none, 0, 0⟩ [] v4 (by omega) rfl (by simp) (H4.nilrow ty_int 1)
end Go.Proofs.YtcifihepfadgfaaGreatDoor

/- The law's example: lives answers true. -/
import Derived.Test.YtknlbofiicflgaaGreatN11
import Derived.Test.YtknlbofiicflgaaGreatN6
import Derived.Test.YtknlbofiicflgaaGreatR14
import Derived.Test.YtknlbofiicflgaaGreatVL
namespace Go.Proofs.YtknlbofiicflgaaGreat
open Go Go.W

def exB : Rx := .mk 4 0 0 [.mk 3 0 0 [lit 97, lit 98], .mk 6 0 0 [.mk 5 0 0 [lit 97, .mk 2 97 122 []]]]
def exC : Rx := .mk 3 0 0 [.mk 7 0 0 [lit 97], lit 98]
/-- a text that is an expression -/
theorem parse_ok {s : ByteArray} {l : List UInt8} {y : Rx} {w w' : World} {r : Ending} (h : ParseR w s r w') (hl : bl s = l) (hs : s.size ≤ 4096) (ht : ∃ S, txt l = .inr S ∧ exprX S.tp = y) (hy : y.sz ≤ 64) : ∃ t : Rt, r = .returned (.tuple #[t.v, .int .i64 0, .int .i64 0]) ∧ t.rx = y ∧ t.P w' ∧ ∀ b ∈ t.fp, w.heap.size ≤ b := by
  obtain ⟨f, h | ⟨_, res, hr, h⟩⟩ := h
  · omega
  have he := txt_of hr
  rw [hl] at he
  obtain ⟨S, h1, h2⟩ := ht
  rw [h1] at he
  rcases h with ⟨a, rfl, _⟩ | ⟨S', rfl, h⟩
  · cases he
  have e : erS S' = S := by
    have : Sum.inr (erS S') = (Sum.inr S : Int ⊕ SX) := he
    exact Sum.inr.inj this
  have e2 : exprX S'.tp = y := by rw [← h2, ← e, expr_er]
  rw [e2] at h
  rcases h with ⟨h, _⟩ | ⟨_, h⟩
  · omega
  · exact h
theorem parse_bad {s : ByteArray} {l : List UInt8} {w w' : World} {r : Ending} (h : ParseR w s r w') (hl : bl s = l) (hs : s.size ≤ 4096) (ht : ∃ a, txt l = .inl a) : ∃ a : Int, r = .returned (.tuple #[.agg #[.int .i64 0, .int .u8 0, .int .u8 0, .slice none 0 0], .int .i64 a, .int .i64 2]) := by
  obtain ⟨f, h | ⟨_, res, hr, h⟩⟩ := h
  · omega
  have he := txt_of hr
  rw [hl] at he
  obtain ⟨S, h1⟩ := ht
  rw [h1] at he
  rcases h with ⟨a, rfl, h⟩ | ⟨S', rfl, h⟩
  · exact ⟨a, h⟩
  · cases he
theorem c_lives (w : World) : Calls Tryz.prog n_enthymemelaw04_lives #[] w fun r w' => r = .returned (.bool true) ∧ Fr0 w w' := by
  refine enthymemelaw04_lives.okT w _ ((c_Parse _ w).mono ?_)
  rintro r1 w1 h1
  have H1 := (lh0 (w := w) [] (by simp)).fr0 h1.1
  obtain ⟨a1, rfl⟩ := parse_bad h1 (l := tA) (by kernel_rfl) (by decide) txt_A
  refine ⟨0, 0, 0, ⟨none, 0, 0⟩, a1, 2, rfl, H1.newg fun b1 w2 H2 => H2.locg fun w6 H6 => ?_⟩
  refine H6.callr ((c_Parse _ w6).mono fun r w' h => ⟨h, h.1⟩) ?_
  rintro r2 w7 h2 H7 F7
  obtain ⟨tB', rfl, eB, pB, nB⟩ := parse_ok h2 (l := tB) (y := exB) (by kernel_rfl) (by decide) txt_B (by decide)
  have H8 := F7.rd (.tree tB') pB fun b hb => nB b (mem_nub.1 hb)
  refine ⟨_, _, _, tB'.s, 0, 0, rfl, H8.newg fun b4 w8 H9 => H9.locg fun w12 H12 => ?_⟩
  refine H12.callr ((c_Parse _ w12).mono fun r w' h => ⟨h, h.1⟩) ?_
  rintro r3 w13 h3 H13 F13
  obtain ⟨tC', rfl, eC, pC, nC⟩ := parse_ok h3 (l := tC) (y := exC) (by kernel_rfl) (by decide) txt_C (by decide)
  have H14 := F13.rd (.tree tC') pC fun b hb => nC b (mem_nub.1 hb)
  have szC : tC'.sz ≤ 1000000 := by rw [← Rt.rx_sz, eC]; decide
  refine ⟨_, _, _, tC'.s, 0, 0, rfl, H14.newg fun b7 w14 H15 => H15.locg fun w18 H18 => ?_⟩
  have hD : ∀ (c : UInt8) (w' : World), tC'.P w' → fitD 13 c (normX exC) = true → (derX c (normX exC)).sz ≤ 64 → Calls Tryz.prog n_regex_Derive #[tC'.v, .int .u8 (c.toNat : Int)] w' fun r w'' => RetT2 w' (limR (derX c (normX exC))) (limE (derX c (normX exC))) r w'' ∧ Fr0 w' w'' := fun c w' hp hf hz => by
    have := c_Derive sort13 (by decide) c tC' w' szC hp (by rw [eC]; kernel_rfl) (by rw [eC]; kernel_rfl) (by rw [eC]; exact hf) (by rw [eC]; decide) (by rw [eC]; omega)
    rw [eC] at this
    exact this
  refine H18.callr (hD 97 w18 (H18.getD 1) (by kernel_rfl) (by decide)) ?_
  rintro _ w19 ⟨ta, rfl, ea, pa, na⟩ H19 F19
  have H20 := F19.rd (.tree ta) pa fun b hb => na b (mem_nub.1 hb)
  refine ⟨_, _, _, ta.s, _, rfl, H20.newg fun b10 w20 H21 => H21.locg fun w24 H24 => ?_⟩
  refine H24.callr (hD 98 w24 (H24.getD 1) (by kernel_rfl) (by decide)) ?_
  rintro _ w25 ⟨tb, rfl, eb, pb, nb⟩ H25 F25
  have H26 := F25.rd (.tree tb) pb fun b hb => nb b (mem_nub.1 hb)
  have sza : ta.sz ≤ 1000000 := by rw [← Rt.rx_sz, ea]; decide
  have szb : tb.sz ≤ 1000000 := by rw [← Rt.rx_sz, eb]; decide
  have nB2 : tB'.s.n = 2 := by
    have h1 := Rt.rows_n (show tB'.P _ from H26.getD 0).parts.1
    have h2 : tB'.l.length = 2 := by
      have := congrArg List.length (congrArg Rx.l eB)
      rw [rx_l, List.length_map] at this
      exact this
    omega
  refine ⟨_, _, _, tb.s, _, rfl, H26.newg fun b12 w26 H27 => sel_true rfl (sel_true rfl (sel_true rfl (sel_true (by kernel_rfl) (sel_true (by kernel_rfl) (sel_true (by rw [nB2]; rfl) (H27.locg fun w30 H30 => ?_))))))⟩
  refine H30.callg (c_Compare ta tC' w30 sza (H30.getD 2) (H30.getD 1)) ?_
  rintro _ w31 rfl H31
  rw [ea, eC]
  refine ⟨_, rfl, sel_true (by kernel_rfl) ?_⟩
  refine H31.callg (c_Compare tb emptyT w31 szb (H31.getD 3) (empty_P w31)) ?_
  rintro _ w32 rfl H32
  refine ⟨_, rfl, ?_, H32.fr⟩
  rw [eb]
  congr 2
end Go.Proofs.YtknlbofiicflgaaGreat

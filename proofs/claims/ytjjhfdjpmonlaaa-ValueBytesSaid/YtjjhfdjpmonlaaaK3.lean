/- Values that are valid: the contracts. -/
import Derived.Test.YtjjhfdjpmonlaaaK2
namespace Go.Proofs.Ytjjhfdjpmonlaaa
open Go Go.W

/-- the index before a place -/
def pre (m : List Ent) (i : Nat) : Option Nat := if i = 0 then none else (m[i - 1]?).map (·.i)
theorem pre_succ (m : List Ent) (i : Nat) (e : Ent) (h : m[i]? = some e) : pre m (i + 1) = some e.i := by
  unfold pre
  rw [if_neg (by omega), Nat.add_sub_cancel, h]
  rfl
def follows (p : Option Nat) (e : Ent) : Bool := match p with | none => true | some i => decide (i < e.i)
theorem okM_step (s : Srt) (m : List Ent) (i : Nat) (e : Ent) (h : m[i]? = some e) : okM s (pre m i) (m.drop i) = (follows (pre m i) e && okE s e && okM s (pre m (i + 1)) (m.drop (i + 1))) := by
  obtain ⟨hi, rfl⟩ := List.getElem?_eq_some_iff.1 h
  rw [pre_succ m i _ h, List.drop_eq_getElem_cons hi]
  rfl
theorem emp_iff (l : List UInt8) : (l == []) = l.isEmpty := by cases l <;> rfl
structure VS (s : Srt) : Prop where
  n0 : 0 ≤ s.n
  n1 : s.n ≤ 64
  x0 : 0 ≤ s.x
  x1 : s.x ≤ 64
  k : s.k = 0 ∨ s.k = 1 ∨ s.k = 2 ∨ s.k = 3
theorem vs_of {s : Srt} (h : validS s = true) : VS s := by
  unfold validS at h
  simp only [Bool.or_eq_true, Bool.and_eq_true, decide_eq_true_eq, beq_iff_eq] at h
  rcases h with ((h | h) | h) | h
  · exact ⟨by omega, by omega, by omega, by omega, by omega⟩
  · exact ⟨by omega, by omega, by omega, by omega, by omega⟩
  · exact ⟨by omega, by omega, by omega, by omega, by omega⟩
  · exact ⟨by omega, by omega, by omega, by omega, by omega⟩
theorem c_validMap (s : Srt) (m : List Ent) (sl : Sl) (w : World) (hv : VS s) (h : RdN 3 w sl (entsC m)) (hm : m.length ≤ 1000000) : Calls Try.prog n_value_validMap #[srtV s, sl.v] w fun r w' => r = .returned (.bool (okM s none m)) ∧ Fr0 w w' := by
  have nn := ents_n h
  have loop : ∀ (d i : Nat) (b : Nat) (w1 : World), i + d = m.length → okM s (pre m i) (m.drop i) = okM s none m → LH F0 w w1 [.g b] [EntsD sl m] →
      value_validMap.L0T sl b s.k s.n s.x sl ((sl.n : Nat) : Int) (i : Int) w1 fun r w' => r = .returned (.bool (okM s none m)) ∧ Fr0 w w' := by
    intro d
    induction d with
    | zero =>
      intro i b w1 hi he H
      rw [List.drop_of_length_le (by omega)] at he
      refine value_validMap.L0T_step _ _ _ _ _ _ _ _ _ _ (sel_false (decide_eq_false (by omega)) ⟨?_, H.fr⟩)
      rw [← he]
      cases pre m i <;> rfl
    | succ d ih =>
      intro i b w1 hi he H
      have hg : m[i]? = some (m[i]'(by omega)) := List.getElem?_eq_getElem (by omega)
      generalize m[i]'(by omega) = e at hg
      rw [okM_step s m i e hg] at he
      -- the ways out
      have no : ∀ {w2 : World}, (follows (pre m i) e && okE s e) = false → Fr0 w w2 → (Ending.returned (Value.bool false) = .returned (.bool (okM s none m)) ∧ Fr0 w w2) := fun hf f => ⟨by rw [← he, hf]; rfl, f⟩
      have next : ∀ {w2 : World} {L : List En}, (follows (pre m i) e && okE s e) = true → LH F0 w w2 (.g b :: L) [EntsD sl m] → value_validMap.S6T sl b s.k s.n s.x sl ((sl.n : Nat) : Int) (i : Int) w2 fun r w' => r = .returned (.bool (okM s none m)) ∧ Fr0 w w' := by
        intro w2 L hf H2
        show value_validMap.L0T _ _ _ _ _ _ _ (IntKind.wrap .i64 ((i : Int) + 1)) _ _
        rw [i64_next _ (by omega)]
        rw [hf, Bool.true_and] at he
        exact ih (i + 1) b w2 (by omega) he (H2.take 1)
      have se : (e.s == ([] : List UInt8)) = e.s.isEmpty := emp_iff _
      -- behind the first test
      have tail : ∀ {w3 : World} {b6 : Nat}, follows (pre m i) e = true → LH F0 w w3 [.g b, .g b6] [EntsD sl m] →
          sel (!(bel e.i s.x)) (value_validMap.S1T w3 fun r w' => r = .returned (.bool (okM s none m)) ∧ Fr0 w w') (sel (((e.i : Int) == (e.i : Int)) && (((e.u : Int) == 0) && (((ba e.s).toList == (ByteArray.mk #[]).toList) && true))) (value_validMap.S1T w3 fun r w' => r = .returned (.bool (okM s none m)) ∧ Fr0 w w') (value_validMap.S2T sl b s.k s.n s.x b6 (e.i : Int) (e.u : Int) (ba e.s) sl ((sl.n : Nat) : Int) (i : Int) w3 fun r w' => r = .returned (.bool (okM s none m)) ∧ Fr0 w w')) := by
        intro w3 b6 hfo H3
        refine sel_not (fun hb => no (by unfold okE; simp [hb]) H3.fr) (fun hb => sel_intro (fun h0 => no ?_ H3.fr) (fun h0 => ?_))
        · rw [tl_ba, tl_nil, se] at h0
          simp only [beq_self_eq_true, Bool.true_and, Bool.and_true, Bool.and_eq_true, beq_iff_eq] at h0
          unfold okE
          have : e.u = 0 := by omega
          simp [this, h0.2]
        · rw [tl_ba, tl_nil, se] at h0
          have h0' : (e.u == 0 && e.s.isEmpty) = false := by
            simp only [beq_self_eq_true, Bool.true_and, Bool.and_true] at h0
            rw [← h0]
            congr 1
            rw [Bool.eq_iff_iff, beq_iff_eq, beq_iff_eq]
            omega
          -- the element of an array of strings
          have s4 : ∀ {w4 : World}, (s.k != 2 || (bel e.u s.n && e.s.isEmpty)) = true → LH F0 w w4 [.g b, .g b6] [EntsD sl m] → value_validMap.S4T sl b s.k s.n s.x b6 (e.i : Int) (e.u : Int) (ba e.s) sl ((sl.n : Nat) : Int) (i : Int) w4 fun r w' => r = .returned (.bool (okM s none m)) ∧ Fr0 w w' := by
            intro w4 h2 H4
            have sz : (ba e.s).size = e.s.length := rfl
            refine sel_eq (fun hk => sel_ne (fun hu => no ?_ H4.fr) (fun hu => sel_dec (fun hl => no ?_ H4.fr) (fun hl => next ?_ H4))) (fun hk => next ?_ H4)
            · unfold okE
              have : (e.u == 0) = false := by simp; omega
              simp [hk, this]
            · unfold okE
              rw [sz] at hl
              have : ¬ ((e.s.length : Int) ≤ s.n) := by omega
              simp [hk, this]
            · rw [sz] at hl
              unfold okE
              have h1 : (e.u == 0) = true := by simp; omega
              have h3 : decide ((e.s.length : Int) ≤ s.n) = true := decide_eq_true (by omega)
              rw [hfo, hb, h0', h2, h1, h3]
              simp
            · unfold okE
              have : (s.k != 3) = true := by simpa using hk
              rw [hfo, hb, h0', h2, this]
              simp
          refine sel_eq (fun hk => H3.callg (c_below e.u s.n hv.n0 hv.n1 w3) ?_) (fun hk => s4 (by have : (s.k != 2) = true := by simpa using hk
                                                                                                   rw [this]; rfl) H3)
          rintro _ w4 rfl H4
          refine ⟨_, rfl, sel_not (fun hb2 => no ?_ H4.fr) (fun hb2 => sel_not (fun hs => no ?_ H4.fr) (fun hs => s4 ?_ H4))⟩
          · unfold okE; simp [hk, hb2]
          · rw [tl_ba, tl_nil, se] at hs
            unfold okE; simp [hk, hs]
          · rw [tl_ba, tl_nil, se] at hs
            rw [hb2, hs]; simp
      refine value_validMap.L0T_step _ _ _ _ _ _ _ _ _ _ (sel_true (decide_eq_true (by omega)) ⟨by omega, by omega, ?_⟩)
      rw [Int.toNat_natCast]
      refine ent_at (H.getD 0) hg fun p _ c0 c1 c2 => ⟨_, _, _, c0, c1, c2, H.newg fun b6 w2 H2 => sel_dec (fun hi0 => ?_) (fun hi0 => H2.locg fun w6 H6 => H6.callg (c_below e.i s.x hv.x0 hv.x1 w6) ?_)⟩
      · obtain ⟨j, rfl⟩ : ∃ j, i = j + 1 := ⟨i - 1, by omega⟩
        have ej : IntKind.wrap .i64 (((j + 1 : Nat) : Int) - 1) = ((j : Nat) : Int) := by rw [IntWalk.i64_in _ (by omega)]; omega
        rw [ej]
        have hg' : m[j]? = some (m[j]'(by omega)) := List.getElem?_eq_getElem (by omega)
        generalize m[j]'(by omega) = e' at hg'
        have hp := pre_succ m j e' hg'
        refine ⟨by omega, by omega, ?_⟩
        rw [Int.toNat_natCast]
        refine ent_at (H2.getD 0) hg' fun p' hp' _ _ _ => H2.locg fun w6 H6 => ?_
        have again : ∀ {w7 : World} {L : List En}, LH F0 w w7 L [EntsD sl m] → w7.cell? ((p'.add (j * 3)).add 0) = some (.int .u64 (e'.i : Int)) := fun H7 => by
          have hk := ent_at (H7.getD 0) hg' (K := fun q => ∃ q', sl.a = some q' ∧ _ = _) (fun q hq d0 _ _ => ⟨q, hq, d0⟩)
          rw [hp'] at hk
          obtain ⟨q, hq, d0⟩ := hk
          cases hq
          exact d0
        refine ⟨_, again H6, sel_dec (fun hle => no ?_ H6.fr) (fun hle => ?_)⟩
        · unfold follows; rw [hp]
          have : ¬ e'.i < e.i := by omega
          simp [this]
        · have hfo : follows (pre m (j + 1)) e = true := by unfold follows; rw [hp]; exact decide_eq_true (by omega)
          refine H6.callg (c_below e.i s.x hv.x0 hv.x1 w6) ?_
          rintro _ w7 rfl H7
          exact ⟨_, rfl, again H7, tail hfo H7⟩
      · rintro _ w7 rfl H7
        have : i = 0 := by omega
        subst this
        exact ⟨_, rfl, tail rfl H7⟩
  refine value_validMap.okT _ _ _ _ w _ ((lh0 [EntsD sl m] (by simp only [List.mem_cons, List.not_mem_nil, or_false]; rintro e rfl; exact h)).newg fun b1 w1 H1 => loop m.length 0 b1 w1 (by omega) rfl H1)
theorem c_Valid (v : Val) (sl : Sl) (w : World) (h : RdN 3 w sl (entsC v.m)) (hm : v.m.length ≤ 1000000) : Calls Try.prog n_value_Valid #[vagg v sl] w fun r w' => r = .returned (.int .i64 (validV v)) ∧ Fr0 w w' := by
  have nn := ents_n h
  have sz : (ba v.s).size = v.s.length := rfl
  refine value_Valid.okT _ _ _ _ _ _ w _ ((lh0 [EntsD sl v.m] (by simp only [List.mem_cons, List.not_mem_nil, or_false]; rintro e rfl; exact h)).newg fun b1 w1 H1 => H1.callg (c_ValidSort v.t w1) ?_)
  rintro _ w2 rfl H2
  refine ⟨_, rfl, sel_ne (fun hs => ⟨?_, H2.fr⟩) (fun hs => ?_)⟩
  · have hv : ¬ validS v.t = true := fun hh => hs (by unfold sortE; rw [if_pos hh])
    unfold validV sortE; rw [if_neg hv, if_neg hv]
  have hv : validS v.t = true := by
    by_cases hh : validS v.t = true
    · exact hh
    · unfold sortE at hs; rw [if_neg hh] at hs; omega
  have vs := vs_of hv
  have fin : ∀ {w3 : World} {L : List En} (b : Bool), b = validB v → LH F0 w w3 L [EntsD sl v.m] → value_Valid.S0T b w3 fun r w' => r = .returned (.int .i64 (validV v)) ∧ Fr0 w w' := by
    rintro w3 L b rfl H
    refine sel_not (fun h => ⟨?_, H.fr⟩) (fun h => ⟨?_, H.fr⟩)
    · unfold validV; rw [if_pos hv, if_neg (by simp [h])]
    · unfold validV; rw [if_pos hv, if_pos h]
  have em : (((sl.n : Nat) : Int) == 0) = v.m.isEmpty := by
    rw [nn, Bool.eq_iff_iff, beq_iff_eq, List.isEmpty_iff, ← List.length_eq_zero_iff]
    omega
  have es : ((ba v.s).toList == (ByteArray.mk #[]).toList) = v.s.isEmpty := by rw [tl_ba, tl_nil, emp_iff]
  have eu : (((v.u : Nat) : Int) == 0) = (v.u == 0) := by rw [Bool.eq_iff_iff, beq_iff_eq, beq_iff_eq]; omega
  rw [em, es, eu]
  refine sel_eq (fun hk => H2.callg (c_below v.u v.t.n vs.n0 vs.n1 w2) ?_) (fun hk => sel_eq (fun hk1 => ?_) (fun hk1 => ?_))
  · rintro _ w3 rfl H3
    refine ⟨_, rfl, sel_intro (fun hb => sel_intro (fun hs => fin _ ?_ H3) (fun hs => fin _ ?_ H3)) (fun hb => fin _ ?_ H3)⟩
    · unfold validB; rw [if_pos hk, hb, hs]; rfl
    · unfold validB; rw [if_pos hk, hb, hs]; rfl
    · unfold validB; rw [if_pos hk, hb]; rfl
  · rw [sz]
    refine sel_intro (fun hb => sel_intro (fun hs => fin _ ?_ H2) (fun hs => fin _ ?_ H2)) (fun hb => fin _ ?_ H2)
    · unfold validB; rw [if_neg hk, if_pos hk1, hb, hs]; rfl
    · unfold validB; rw [if_neg hk, if_pos hk1, hb, hs]; rfl
    · unfold validB; rw [if_neg hk, if_pos hk1, hb]; rfl
  · refine sel_intro (fun hb => sel_intro (fun hs => H2.callg (c_validMap v.t v.m sl w2 vs (H2.getD 0) hm) ?_) (fun hs => fin _ ?_ H2)) (fun hb => fin _ ?_ H2)
    · rintro _ w3 rfl H3
      refine ⟨_, rfl, fin _ ?_ H3⟩
      unfold validB; rw [if_neg hk, if_neg hk1, hb, hs]; rfl
    · unfold validB; rw [if_neg hk, if_neg hk1, hb, hs]; rfl
    · unfold validB; rw [if_neg hk, if_neg hk1, hb]; rfl
theorem zero_val (s : Srt) : vagg ⟨s, 0, [], []⟩ ⟨none, 0, 0⟩ = .agg #[.int .i64 s.k, .int .i64 s.n, .int .i64 s.x, .int .u64 0, .string (ByteArray.mk #[]), .slice none 0 0] := rfl
/-- the value that is returned with an error -/
def noVal : Val := ⟨⟨0, 0, 0⟩, 0, [], []⟩
theorem c_Zero (s : Srt) (w : World) : Calls Try.prog n_value_Zero #[srtV s] w fun r w' => r = .returned (.tuple #[vagg (if validS s then ⟨s, 0, [], []⟩ else noVal) ⟨none, 0, 0⟩, .int .i64 (sortE s)]) ∧ Fr0 w w' := by
  refine value_Zero.okT _ _ _ w _ ((lh0 [] (by simp)).newg fun b1 w1 H1 => H1.newg fun b2 w2 H2 => H2.callg (c_ValidSort s w2) ?_)
  rintro _ w3 rfl H3
  refine ⟨_, rfl, sel_ne (fun hs => H3.locg fun w4 H4 => ⟨?_, H4.fr⟩) (fun hs => H3.locg fun w4 H4 => ⟨?_, H4.fr⟩)⟩
  · have hv : ¬ validS s = true := fun hh => hs (by unfold sortE; rw [if_pos hh])
    rw [if_neg hv]; rfl
  · have hv : validS s = true := by
      by_cases hh : validS s = true
      · exact hh
      · unfold sortE at hs; rw [if_neg hh] at hs; omega
    rw [if_pos hv, hs]; rfl
theorem r_Zero (s : Srt) (w : World) : Calls Try.prog n_enthymemeref06_Zero #[srtV s] w fun r w' => r = .returned (vagg ⟨s, 0, [], []⟩ ⟨none, 0, 0⟩) ∧ Fr0 w w' := by
  refine enthymemeref06_Zero.okT _ _ _ w _ ((lh0 [] (by simp)).newg fun b1 w1 H1 => H1.newg fun b2 w2 H2 => H2.locg fun w3 H3 => ⟨rfl, H3.fr⟩)
end Go.Proofs.Ytjjhfdjpmonlaaa

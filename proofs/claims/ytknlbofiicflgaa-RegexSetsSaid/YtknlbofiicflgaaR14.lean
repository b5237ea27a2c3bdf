/- Package regex: tokenAt: the contract. -/
import Derived.Test.YtknlbofiicflgaaR13
namespace Go.Proofs.Ytknlbofiicflgaa
open Go Go.W

def sing : List UInt8 := [40, 41, 44, 124, 38, 33, 42]
/-- a token, and how many bytes it takes -/
def tokX (l : List UInt8) (i : Nat) : Tk × Nat :=
  if 0 ≤ Go.Lib.indexByte sing (l.getD i 0) then (⟨l.getD i 0, 0, 0, [], i⟩, 1)
  else if smallB (l.getD i 0) = true then (⟨119, 0, 0, (l.drop i).takeWhile smallB, i⟩, ((l.drop i).takeWhile smallB).length)
  else if l.getD i 0 = 91 then
    match byteX l (i + 1) with
    | none => (⟨63, 0, 0, [], i⟩, 1)
    | some (lo, m) =>
      if i + 1 + m < l.length ∧ l.getD (i + 1 + m) 0 = 45 then
        match byteX l (i + 1 + m + 1) with
        | none => (⟨63, 0, 0, [], i⟩, 1)
        | some (hi, m2) => if i + 1 + m + (1 + m2) < l.length ∧ l.getD (i + 1 + m + (1 + m2)) 0 = 93 ∧ lo.toNat ≤ hi.toNat then (⟨114, lo, hi, [], i⟩, 1 + m + (1 + m2) + 1) else (⟨63, 0, 0, [], i⟩, 1)
      else (⟨63, 0, 0, [], i⟩, 1)
  else match byteX l i with
    | some (b, n) => (⟨114, b, b, [], i⟩, n)
    | none => (⟨63, 0, 0, [], i⟩, 1)
def tokV (x : Tk × Nat) : Value := .tuple #[x.1.v, .int .i64 (x.2 : Int)]
theorem byteX_len {l : List UInt8} {i : Nat} {b : UInt8} {n : Nat} (h : byteX l i = some (b, n)) : (n = 3 ∨ n = 4) ∧ i + n ≤ l.length := by
  unfold byteX at h
  split at h
  · cases h; rename_i hc; omega
  · split at h
    · cases h; rename_i hc; omega
    · cases h
theorem takeWhile_all : ∀ (l : List UInt8) (m : Nat) (p : UInt8 → Bool), m ≤ l.length → (∀ k < m, p (l.getD k 0) = true) → (m < l.length → p (l.getD m 0) = false) → (l.takeWhile p) = l.take m
  | [], m, p, hm, _, _ => by simp
  | c :: l, 0, p, hm, _, hs => by
    have : p c = false := hs (by simp)
    simp [this]
  | c :: l, m + 1, p, hm, ha, hs => by
    have hc : p c = true := ha 0 (by omega)
    rw [List.takeWhile_cons, if_pos hc, List.take_succ_cons, takeWhile_all l m p (by simpa using hm) (fun k hk => by simpa using ha (k + 1) (by omega)) (fun h => by simpa using hs (by simpa using h))]
theorem getD_drop (l : List UInt8) (i k : Nat) : (l.drop i).getD k 0 = l.getD (i + k) 0 := by
  rw [List.getD_eq_getElem?_getD, List.getD_eq_getElem?_getD, List.getElem?_drop]
theorem c_tokenAt (s : ByteArray) (hs : s.size ≤ 900000) (i : Nat) (hi : i < s.size) (w : World) : Calls Try.prog n_regex_tokenAt #[.string s, .int .i64 (i : Int)] w fun r w' => r = .returned (tokV (tokX (bl s) i)) ∧ Fr0 w w' := by
  have hl : (bl s).length = s.size := bl_len s
  refine regex_tokenAt.okT _ _ w _ ((lh0 [] (fun _ h => by cases h)).newg (bs := []) (fun b4 w1 H1 => ⟨by omega, _, s_at (i := i) hi, ?_⟩) (by simp))
  have H1 : LH F0 w w1 [.g b4] [] := H1
  have bad : ∀ w', LH F0 w w' [.g b4] [] → tokX (bl s) i = (⟨63, 0, 0, [], i⟩, 1) → ∀ (a0 a1 a2 : Int) (a3 : ByteArray) (a4 : Int), regex_tokenAt.S4T (i : Int) b4 a0 a1 a2 a3 a4 w' fun r w' => r = .returned (tokV (tokX (bl s) i)) ∧ Fr0 w w' := fun w' H' he _ _ _ _ _ => H'.locg (bs := [b4]) (fun w3 H3 => ⟨by rw [he]; rfl, H3.fr⟩) (by simp)
  refine H1.callg (s_indexByte _ _ _) ?_
  rintro _ w2 rfl H2
  refine ⟨_, rfl, ?_⟩
  show sel (decide (Go.Lib.indexByte sing _ ≥ 0)) _ _
  refine sel_dec (fun h0 => H2.locg (bs := [b4]) (fun w3 H3 => ⟨?_, H3.fr⟩) (by simp)) (fun h0 => H2.callg (c_small _ _) ?_)
  · unfold tokX
    rw [if_pos h0]
    rfl
  rintro _ w3 rfl H3
  refine ⟨_, rfl, sel_intro (fun hsm => ?_) (fun hsm => u8_sel (n := 91) (by omega) (fun h91 : (bl s).getD i 0 = 91 => ?_) (fun h91 : (bl s).getD i 0 ≠ 91 => ?_))⟩
  · -- a word
    have loop : ∀ (n j : Nat) (w' : World), s.size - j < n → i ≤ j → j ≤ s.size → (∀ k, i ≤ k → k < j → smallB ((bl s).getD k 0) = true) → LH F0 w w' [.g b4] [] → ∀ (a0 a1 a2 : Int) (a3 : ByteArray) (a4 : Int), regex_tokenAt.L1T s (i : Int) b4 a0 a1 a2 a3 a4 (j : Int) w' fun r w' => r = .returned (tokV (tokX (bl s) i)) ∧ Fr0 w w' := by
      intro n
      induction n with
      | zero => intro j w' h; omega
      | succ n ih =>
        intro j w' hn hij hj hall H a0 a1 a2 a3 a4
        have done : (j < s.size → smallB ((bl s).getD j 0) = false) → ∀ w', LH F0 w w' [.g b4] [] → regex_tokenAt.S2T s (i : Int) b4 a0 a1 a2 a3 a4 (j : Int) w' fun r w' => r = .returned (tokV (tokX (bl s) i)) ∧ Fr0 w w' := fun hst w' H' => by
          refine ⟨by omega, by omega, by omega, by omega, H'.locg (bs := [b4]) (fun w5 H5 => ⟨?_, H5.fr⟩) (by simp)⟩
          have etw : ((bl s).drop i).takeWhile smallB = ((bl s).drop i).take (j - i) := by
            refine takeWhile_all _ _ _ (by rw [List.length_drop]; omega) (fun k hk => ?_) (fun h => ?_)
            · rw [getD_drop]; exact hall _ (by omega) (by omega)
            · rw [getD_drop, show i + (j - i) = j by omega]
              refine hst ?_
              rw [List.length_drop] at h
              omega
          have elen : (((bl s).drop i).take (j - i)).length = j - i := by rw [List.length_take, List.length_drop]; omega
          have eext : s.extract (Int.toNat (i : Int)) (Int.toNat (j : Int)) = ba (((bl s).drop i).take (j - i)) := by
            have : bl (s.extract i j) = ((bl s).drop i).take (j - i) := by
              unfold bl
              rw [ByteArray.data_extract, Array.toList_extract, List.extract_eq_take_drop]
            rw [Int.toNat_natCast, Int.toNat_natCast, ← this, ba_bl]
          have ew : IntKind.wrap .i64 ((j : Int) - (i : Int)) = ((j - i : Nat) : Int) := by rw [IntWalk.i64_in _ (by omega)]; omega
          rw [eext, ew]
          unfold tokX
          rw [if_neg h0, if_pos hsm, etw, elen]
          rfl
        refine regex_tokenAt.L1T_step _ _ _ _ _ _ _ _ _ _ _ (sel_dec (fun h => ⟨by omega, _, s_at (i := j) (by omega), H.callg (c_small _ _) ?_⟩) (fun h => done (fun h' => by omega) w' H))
        rintro _ w5 rfl H5
        refine ⟨_, rfl, sel_intro (fun hb => ?_) (fun hb => done (fun _ => hb) w5 H5)⟩
        rw [show IntKind.wrap .i64 ((j : Int) + 1) = ((j + 1 : Nat) : Int) by rw [IntWalk.i64_in _ (by omega)]; omega]
        refine ih (j + 1) w5 (by omega) (by omega) (by omega) (fun k h1 h2 => ?_) H5 _ _ _ _ _
        by_cases hk : k = j
        · subst hk; exact hb
        · exact hall k h1 (by omega)
    exact loop (s.size + 1) i w3 (by omega) (Nat.le_refl _) (by omega) (fun k h1 h2 => by omega) H3 _ _ _ _ _
  · have hnsm : ¬ smallB ((bl s).getD i 0) = true := by rw [hsm]; simp
    rw [show IntKind.wrap .i64 ((i : Int) + 1) = ((i + 1 : Nat) : Int) by rw [IntWalk.i64_in _ (by omega)]; omega]
    refine H3.callg (c_byteAt s (i + 1) (by omega) _) ?_
    rintro _ w4 rfl H4
    cases hb : byteX (bl s) (i + 1) with
    | none =>
      refine ⟨0, 0, false, rfl, sel_true rfl (bad w4 H4 ?_ _ _ _ _ _)⟩
      unfold tokX
      rw [if_neg h0, if_neg hnsm, if_pos h91, hb]
    | some q =>
      obtain ⟨lo, m⟩ := q
      obtain ⟨hm, hml⟩ := byteX_len hb
      refine ⟨lo.toNat, m, true, rfl, ?_⟩
      rw [show IntKind.wrap .i64 (((i + 1 : Nat) : Int) + (m : Int)) = ((i + 1 + m : Nat) : Int) by rw [IntWalk.i64_in _ (by omega)]; omega]
      have no1 : ¬ (i + 1 + m < (bl s).length ∧ (bl s).getD (i + 1 + m) 0 = 45) → tokX (bl s) i = (⟨63, 0, 0, [], i⟩, 1) := fun h => by
        unfold tokX
        rw [if_neg h0, if_neg hnsm, if_pos h91, hb]
        exact if_neg h
      refine sel_false rfl (sel_dec (fun h => bad w4 H4 (no1 (fun h' => by omega)) _ _ _ _ _) (fun h => ⟨by omega, _, s_at (i := i + 1 + m) (by omega), ?_⟩))
      refine sel_intro (fun hne => bad w4 H4 (no1 (fun h' => ?_)) _ _ _ _ _) (fun heq => ?_)
      · rw [h'.2] at hne; exact absurd hne (by decide)
      have h45 : (bl s).getD (i + 1 + m) 0 = 45 := by
        have e : (((bl s).getD (i + 1 + m) 0).toNat : Int) = 45 := by simpa using heq
        have : ((bl s).getD (i + 1 + m) 0).toNat = (45 : UInt8).toNat := by show _ = 45; omega
        exact UInt8.toNat_inj.1 this
      rw [show IntKind.wrap .i64 (((i + 1 + m : Nat) : Int) + 1) = ((i + 1 + m + 1 : Nat) : Int) by rw [IntWalk.i64_in _ (by omega)]; omega]
      refine H4.callg (c_byteAt s (i + 1 + m + 1) (by omega) _) ?_
      rintro _ w5 rfl H5
      cases hb2 : byteX (bl s) (i + 1 + m + 1) with
      | none =>
        refine ⟨0, 0, false, rfl, sel_true rfl (bad w5 H5 ?_ _ _ _ _ _)⟩
        unfold tokX
        rw [if_neg h0, if_neg hnsm, if_pos h91, hb]
        refine (if_pos ⟨by omega, h45⟩).trans ?_
        rw [hb2]
      | some q =>
        obtain ⟨hi2, m2⟩ := q
        obtain ⟨hm2, hml2⟩ := byteX_len hb2
        refine ⟨hi2.toNat, m2, true, rfl, ?_⟩
        rw [show IntKind.wrap .i64 (((i + 1 + m : Nat) : Int) + IntKind.wrap .i64 (1 + (m2 : Int))) = ((i + 1 + m + (1 + m2) : Nat) : Int) by rw [IntWalk.i64_in (1 + (m2 : Int)) (by omega), IntWalk.i64_in _ (by omega)]; omega]
        have e2 : tokX (bl s) i = if i + 1 + m + (1 + m2) < (bl s).length ∧ (bl s).getD (i + 1 + m + (1 + m2)) 0 = 93 ∧ lo.toNat ≤ hi2.toNat then (⟨114, lo, hi2, [], i⟩, 1 + m + (1 + m2) + 1) else (⟨63, 0, 0, [], i⟩, 1) := by
          unfold tokX
          rw [if_neg h0, if_neg hnsm, if_pos h91, hb]
          refine (if_pos ⟨by omega, h45⟩).trans ?_
          rw [hb2]
        refine sel_false rfl (sel_dec (fun h => bad w5 H5 (e2.trans (if_neg fun h' => by omega)) _ _ _ _ _) (fun h => ⟨by omega, _, s_at (i := i + 1 + m + (1 + m2)) (by omega), ?_⟩))
        refine sel_intro (fun hne => bad w5 H5 (e2.trans (if_neg fun h' => ?_)) _ _ _ _ _) (fun heq2 => ?_)
        · rw [h'.2.1] at hne; exact absurd hne (by decide)
        have h93 : (bl s).getD (i + 1 + m + (1 + m2)) 0 = 93 := by
          have e : (((bl s).getD (i + 1 + m + (1 + m2)) 0).toNat : Int) = 93 := by simpa using heq2
          have : ((bl s).getD (i + 1 + m + (1 + m2)) 0).toNat = (93 : UInt8).toNat := by show _ = 93; omega
          exact UInt8.toNat_inj.1 this
        refine sel_dec (fun hlh => bad w5 H5 (e2.trans (if_neg fun h' => by omega)) _ _ _ _ _) (fun hlh => H5.locg (bs := [b4]) (fun w6 H6 => ⟨?_, H6.fr⟩) (by simp))
        rw [e2, if_pos ⟨by omega, h93, by omega⟩]
        rw [show IntKind.wrap .i64 (IntKind.wrap .i64 (((i + 1 + m + (1 + m2) : Nat) : Int) + 1) - (i : Int)) = ((1 + m + (1 + m2) + 1 : Nat) : Int) by rw [IntWalk.i64_in (((i + 1 + m + (1 + m2) : Nat) : Int) + 1) (by omega), IntWalk.i64_in _ (by omega)]; omega]
        rfl
  · have hnsm : ¬ smallB ((bl s).getD i 0) = true := by rw [hsm]; simp
    refine H3.callg (c_byteAt s i (by omega) _) ?_
    rintro _ w4 rfl H4
    cases hb : byteX (bl s) i with
    | none =>
      refine ⟨0, 0, false, rfl, sel_false rfl (bad w4 H4 ?_ _ _ _ _ _)⟩
      unfold tokX
      rw [if_neg h0, if_neg hnsm, if_neg h91, hb]
    | some q =>
      obtain ⟨b, n⟩ := q
      refine ⟨b.toNat, n, true, rfl, sel_true rfl (H4.locg (bs := [b4]) (fun w5 H5 => ⟨?_, H5.fr⟩) (by simp))⟩
      unfold tokX
      rw [if_neg h0, if_neg hnsm, if_neg h91, hb]
      rfl
end Go.Proofs.Ytknlbofiicflgaa

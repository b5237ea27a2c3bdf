/- Package regex: tokenAt: the contract. Package regex: what reading keeps; no program in sight. Package regex: the loop over the tokens: what it does. Package regex: how large what is read can be; no program in sight. Package regex: Parse: the contract. Package regex: what the texts of the examples are; no program in sight. -/
import Derived.Test.YtknlbofiicflgaaGreatR13
namespace Go.Proofs.YtknlbofiicflgaaGreat
open Go Go.W

def sing : List UInt8 := [40, 41, 44, 124, 38, 33, 42]
/-- a token, and how many bytes it takes -/
def tokX (l : List UInt8) (i : Nat) : Tk × Nat :=
  if 0 ≤ Go.Lib.indexByte sing (l.getD i 0) then (⟨l.getD i 0, 0, 0, [], i⟩, 1)
  else if smallB (l.getD i 0) = true then (⟨119, 0, 0, (l.drop i).takeWhile smallB, i⟩, ((l.drop i).takeWhile smallB).length)
  else if l.getD i 0 = 91 then
    match byteX l (i + 1) with
    | none => (⟨63, 0, 0, [], i⟩, 1)
    | some (lo, m) =>
      if i + 1 + m < l.length ∧ l.getD (i + 1 + m) 0 = 45 then
        match byteX l (i + 1 + m + 1) with
        | none => (⟨63, 0, 0, [], i⟩, 1)
        | some (hi, m2) => if i + 1 + m + (1 + m2) < l.length ∧ l.getD (i + 1 + m + (1 + m2)) 0 = 93 ∧ lo.toNat ≤ hi.toNat then (⟨114, lo, hi, [], i⟩, 1 + m + (1 + m2) + 1) else (⟨63, 0, 0, [], i⟩, 1)
      else (⟨63, 0, 0, [], i⟩, 1)
  else match byteX l i with
    | some (b, n) => (⟨114, b, b, [], i⟩, n)
    | none => (⟨63, 0, 0, [], i⟩, 1)
def tokV (x : Tk × Nat) : Value := .tuple #[x.1.v, .int .i64 (x.2 : Int)]
theorem byteX_len {l : List UInt8} {i : Nat} {b : UInt8} {n : Nat} (h : byteX l i = some (b, n)) : (n = 3 ∨ n = 4) ∧ i + n ≤ l.length := by
  unfold byteX at h
  split at h
  · cases h; rename_i hc; omega
  · split at h
    · cases h; rename_i hc; omega
    · cases h
theorem takeWhile_all : ∀ (l : List UInt8) (m : Nat) (p : UInt8 → Bool), m ≤ l.length → (∀ k < m, p (l.getD k 0) = true) → (m < l.length → p (l.getD m 0) = false) → (l.takeWhile p) = l.take m
  | [], m, p, hm, _, _ => by simp
  | c :: l, 0, p, hm, _, hs => by
    have : p c = false := hs (by simp)
    simp [this]
  | c :: l, m + 1, p, hm, ha, hs => by
    have hc : p c = true := ha 0 (by omega)
    rw [List.takeWhile_cons, if_pos hc, List.take_succ_cons, takeWhile_all l m p (by simpa using hm) (fun k hk => by simpa using ha (k + 1) (by omega)) (fun h => by simpa using hs (by simpa using h))]
theorem getD_drop (l : List UInt8) (i k : Nat) : (l.drop i).getD k 0 = l.getD (i + k) 0 := by
  rw [List.getD_eq_getElem?_getD, List.getD_eq_getElem?_getD, List.getElem?_drop]
theorem c_tokenAt (s : ByteArray) (hs : s.size ≤ 900000) (i : Nat) (hi : i < s.size) (w : World) : Calls Tryz.prog n_regex_tokenAt #[.string s, .int .i64 (i : Int)] w fun r w' => r = .returned (tokV (tokX (bl s) i)) ∧ Fr0 w w' := by
  have hl : (bl s).length = s.size := bl_len s
  refine regex_tokenAt.okT _ _ w _ ((lh0 [] (fun _ h => by cases h)).newg (bs := []) (fun b4 w1 H1 => ⟨by omega, _, s_at (i := i) hi, ?_⟩) (by simp))
  have H1 : LH F0 w w1 [.g b4] [] := H1
  have bad : ∀ w', LH F0 w w' [.g b4] [] → tokX (bl s) i = (⟨63, 0, 0, [], i⟩, 1) → ∀ (a0 a1 a2 : Int) (a3 : ByteArray) (a4 : Int), regex_tokenAt.S4T (i : Int) b4 a0 a1 a2 a3 a4 w' fun r w' => r = .returned (tokV (tokX (bl s) i)) ∧ Fr0 w w' := fun w' H' he _ _ _ _ _ => H'.locg (bs := [b4]) (fun w3 H3 => ⟨by rw [he]; rfl, H3.fr⟩) (by simp)
  refine H1.callg (s_indexByte _ _ _) ?_
  rintro _ w2 rfl H2
  refine ⟨_, rfl, ?_⟩
  show sel (decide (Go.Lib.indexByte sing _ ≥ 0)) _ _
  refine sel_dec (fun h0 => H2.locg (bs := [b4]) (fun w3 H3 => ⟨?_, H3.fr⟩) (by simp)) (fun h0 => H2.callg (c_small _ _) ?_)
  · unfold tokX
    rw [if_pos h0]
    rfl
  rintro _ w3 rfl H3
  refine ⟨_, rfl, sel_intro (fun hsm => ?_) (fun hsm => u8_sel (n := 91) (by omega) (fun h91 : (bl s).getD i 0 = 91 => ?_) (fun h91 : (bl s).getD i 0 ≠ 91 => ?_))⟩
  · -- a word
    have loop : ∀ (n j : Nat) (w' : World), s.size - j < n → i ≤ j → j ≤ s.size → (∀ k, i ≤ k → k < j → smallB ((bl s).getD k 0) = true) → LH F0 w w' [.g b4] [] → ∀ (a0 a1 a2 : Int) (a3 : ByteArray) (a4 : Int), regex_tokenAt.L1T s (i : Int) b4 a0 a1 a2 a3 a4 (j : Int) w' fun r w' => r = .returned (tokV (tokX (bl s) i)) ∧ Fr0 w w' := by
      intro n
      induction n with
      | zero => intro j w' h; omega
      | succ n ih =>
        intro j w' hn hij hj hall H a0 a1 a2 a3 a4
        have done : (j < s.size → smallB ((bl s).getD j 0) = false) → ∀ w', LH F0 w w' [.g b4] [] → regex_tokenAt.S2T s (i : Int) b4 a0 a1 a2 a3 a4 (j : Int) w' fun r w' => r = .returned (tokV (tokX (bl s) i)) ∧ Fr0 w w' := fun hst w' H' => by
          refine ⟨by omega, by omega, by omega, by omega, H'.locg (bs := [b4]) (fun w5 H5 => ⟨?_, H5.fr⟩) (by simp)⟩
          have etw : ((bl s).drop i).takeWhile smallB = ((bl s).drop i).take (j - i) := by
            refine takeWhile_all _ _ _ (by rw [List.length_drop]; omega) (fun k hk => ?_) (fun h => ?_)
            · rw [getD_drop]; exact hall _ (by omega) (by omega)
            · rw [getD_drop, show i + (j - i) = j by omega]
              refine hst ?_
              rw [List.length_drop] at h
              omega
          have elen : (((bl s).drop i).take (j - i)).length = j - i := by rw [List.length_take, List.length_drop]; omega
          have eext : s.extract (Int.toNat (i : Int)) (Int.toNat (j : Int)) = ba (((bl s).drop i).take (j - i)) := by
            have : bl (s.extract i j) = ((bl s).drop i).take (j - i) := by
              unfold bl
              rw [ByteArray.data_extract, Array.toList_extract, List.extract_eq_take_drop]
            rw [Int.toNat_natCast, Int.toNat_natCast, ← this, ba_bl]
          have ew : IntKind.wrap .i64 ((j : Int) - (i : Int)) = ((j - i : Nat) : Int) := by rw [IntWalk.i64_in _ (by omega)]; omega
          rw [eext, ew]
          unfold tokX
          rw [if_neg h0, if_pos hsm, etw, elen]
          rfl
        refine regex_tokenAt.L1T_step _ _ _ _ _ _ _ _ _ _ _ (sel_dec (fun h => ⟨by omega, _, s_at (i := j) (by omega), H.callg (c_small _ _) ?_⟩) (fun h => done (fun h' => by omega) w' H))
        rintro _ w5 rfl H5
        refine ⟨_, rfl, sel_intro (fun hb => ?_) (fun hb => done (fun _ => hb) w5 H5)⟩
        rw [show IntKind.wrap .i64 ((j : Int) + 1) = ((j + 1 : Nat) : Int) by rw [IntWalk.i64_in _ (by omega)]; omega]
        refine ih (j + 1) w5 (by omega) (by omega) (by omega) (fun k h1 h2 => ?_) H5 _ _ _ _ _
        by_cases hk : k = j
        · subst hk; exact hb
        · exact hall k h1 (by omega)
    exact loop (s.size + 1) i w3 (by omega) (Nat.le_refl _) (by omega) (fun k h1 h2 => by omega) H3 _ _ _ _ _
  · have hnsm : ¬ smallB ((bl s).getD i 0) = true := by rw [hsm]; simp
    rw [show IntKind.wrap .i64 ((i : Int) + 1) = ((i + 1 : Nat) : Int) by rw [IntWalk.i64_in _ (by omega)]; omega]
    refine H3.callg (c_byteAt s (i + 1) (by omega) _) ?_
    rintro _ w4 rfl H4
    cases hb : byteX (bl s) (i + 1) with
    | none =>
      refine ⟨0, 0, false, rfl, sel_true rfl (bad w4 H4 ?_ _ _ _ _ _)⟩
      unfold tokX
      rw [if_neg h0, if_neg hnsm, if_pos h91, hb]
    | some q =>
      obtain ⟨lo, m⟩ := q
      obtain ⟨hm, hml⟩ := byteX_len hb
      refine ⟨lo.toNat, m, true, rfl, ?_⟩
      try dsimp only
      rw [show IntKind.wrap .i64 (((i + 1 : Nat) : Int) + (m : Int)) = ((i + 1 + m : Nat) : Int) by rw [IntWalk.i64_in _ (by omega)]; omega]
      have no1 : ¬ (i + 1 + m < (bl s).length ∧ (bl s).getD (i + 1 + m) 0 = 45) → tokX (bl s) i = (⟨63, 0, 0, [], i⟩, 1) := fun h => by
        unfold tokX
        rw [if_neg h0, if_neg hnsm, if_pos h91, hb]
        exact if_neg h
      refine sel_false rfl (sel_dec (fun h => bad w4 H4 (no1 (fun h' => by omega)) _ _ _ _ _) (fun h => ⟨by omega, _, s_at (i := i + 1 + m) (by omega), ?_⟩))
      refine sel_intro (fun hne => bad w4 H4 (no1 (fun h' => ?_)) _ _ _ _ _) (fun heq => ?_)
      · rw [h'.2] at hne; exact absurd hne (by decide)
      have h45 : (bl s).getD (i + 1 + m) 0 = 45 := by
        have e : (((bl s).getD (i + 1 + m) 0).toNat : Int) = 45 := by simpa using heq
        have : ((bl s).getD (i + 1 + m) 0).toNat = (45 : UInt8).toNat := by show _ = 45; omega
        exact UInt8.toNat_inj.1 this
      rw [show IntKind.wrap .i64 (((i + 1 + m : Nat) : Int) + 1) = ((i + 1 + m + 1 : Nat) : Int) by rw [IntWalk.i64_in _ (by omega)]; omega]
      refine H4.callg (c_byteAt s (i + 1 + m + 1) (by omega) _) ?_
      rintro _ w5 rfl H5
      cases hb2 : byteX (bl s) (i + 1 + m + 1) with
      | none =>
        refine ⟨0, 0, false, rfl, sel_true rfl (bad w5 H5 ?_ _ _ _ _ _)⟩
        unfold tokX
        rw [if_neg h0, if_neg hnsm, if_pos h91, hb]
        refine (if_pos ⟨by omega, h45⟩).trans ?_
        rw [hb2]
      | some q =>
        obtain ⟨hi2, m2⟩ := q
        obtain ⟨hm2, hml2⟩ := byteX_len hb2
        refine ⟨hi2.toNat, m2, true, rfl, ?_⟩
        try dsimp only
        rw [show IntKind.wrap .i64 (((i + 1 + m : Nat) : Int) + IntKind.wrap .i64 (1 + (m2 : Int))) = ((i + 1 + m + (1 + m2) : Nat) : Int) by rw [IntWalk.i64_in (1 + (m2 : Int)) (by omega), IntWalk.i64_in _ (by omega)]; omega]
        have e2 : tokX (bl s) i = if i + 1 + m + (1 + m2) < (bl s).length ∧ (bl s).getD (i + 1 + m + (1 + m2)) 0 = 93 ∧ lo.toNat ≤ hi2.toNat then (⟨114, lo, hi2, [], i⟩, 1 + m + (1 + m2) + 1) else (⟨63, 0, 0, [], i⟩, 1) := by
          unfold tokX
          rw [if_neg h0, if_neg hnsm, if_pos h91, hb]
          refine (if_pos ⟨by omega, h45⟩).trans ?_
          rw [hb2]
        refine sel_false rfl (sel_dec (fun h => bad w5 H5 (e2.trans (if_neg fun h' => by omega)) _ _ _ _ _) (fun h => ⟨by omega, _, s_at (i := i + 1 + m + (1 + m2)) (by omega), ?_⟩))
        refine sel_intro (fun hne => bad w5 H5 (e2.trans (if_neg fun h' => ?_)) _ _ _ _ _) (fun heq2 => ?_)
        · rw [h'.2.1] at hne; exact absurd hne (by decide)
        have h93 : (bl s).getD (i + 1 + m + (1 + m2)) 0 = 93 := by
          have e : (((bl s).getD (i + 1 + m + (1 + m2)) 0).toNat : Int) = 93 := by simpa using heq2
          have : ((bl s).getD (i + 1 + m + (1 + m2)) 0).toNat = (93 : UInt8).toNat := by show _ = 93; omega
          exact UInt8.toNat_inj.1 this
        refine sel_dec (fun hlh => bad w5 H5 (e2.trans (if_neg fun h' => by omega)) _ _ _ _ _) (fun hlh => H5.locg (bs := [b4]) (fun w6 H6 => ⟨?_, H6.fr⟩) (by simp))
        rw [e2, if_pos ⟨by omega, h93, by omega⟩]
        rw [show IntKind.wrap .i64 (IntKind.wrap .i64 (((i + 1 + m + (1 + m2) : Nat) : Int) + 1) - (i : Int)) = ((1 + m + (1 + m2) + 1 : Nat) : Int) by rw [IntWalk.i64_in (((i + 1 + m + (1 + m2) : Nat) : Int) + 1) (by omega), IntWalk.i64_in _ (by omega)]; omega]
        rfl
  · have hnsm : ¬ smallB ((bl s).getD i 0) = true := by rw [hsm]; simp
    refine H3.callg (c_byteAt s i (by omega) _) ?_
    rintro _ w4 rfl H4
    cases hb : byteX (bl s) i with
    | none =>
      refine ⟨0, 0, false, rfl, sel_false rfl (bad w4 H4 ?_ _ _ _ _ _)⟩
      unfold tokX
      rw [if_neg h0, if_neg hnsm, if_neg h91, hb]
    | some q =>
      obtain ⟨b, n⟩ := q
      refine ⟨b.toNat, n, true, rfl, sel_true rfl (H4.locg (bs := [b4]) (fun w5 H5 => ⟨?_, H5.fr⟩) (by simp))⟩
      unfold tokX
      rw [if_neg h0, if_neg hnsm, if_neg h91, hb]
      rfl
end Go.Proofs.YtknlbofiicflgaaGreat
namespace Go.Proofs.YtknlbofiicflgaaGreat
open Go Go.W

structure Inv (S : SX) (m : Nat) : Prop where
  lo : S.lo.length ≤ m
  sl : ∀ f ∈ S.lo, Small f m
  tp : Small S.tp m
  s1 : S.st = 1 → 0 ≤ S.tp.k ∧ S.lo ≠ []
  s2 : S.st = 2 → 0 ≤ S.wd
theorem Small.mono {f : FX} {m n : Nat} (h : Small f m) (hm : m ≤ n) : Small f n := ⟨Nat.le_trans h.n' hm, Nat.le_trans h.ar hm, Nat.le_trans h.al hm, Nat.le_trans h.an hm, Nat.le_trans h.ca hm⟩
theorem small_new (k : Int) (m : Nat) : Small (newFX k) m := ⟨Nat.zero_le _, Nat.zero_le _, Nat.zero_le _, Nat.zero_le _, Nat.zero_le _⟩
theorem small_atom {f : FX} {m : Nat} (h : Small f m) (x : Rx) : Small (atomX f x) m := ⟨h.n', h.ar, h.al, h.an, h.ca⟩
theorem item_inv {t : Tk} {S S' : SX} {m : Nat} (h1 : S.lo.length ≤ m) (h2 : ∀ f ∈ S.lo, Small f (m + 1)) (h3 : Small S.tp (m + 1)) (h4 : S.tp.n ≤ m) (h : itemX t S = some S') : Inv S' (m + 1) := by
  have sn : ∀ f ∈ S.lo ++ [S.tp], Small f (m + 1) := fun f hf => by
    rcases List.mem_append.1 hf with hf | hf
    · exact h2 f hf
    · simp at hf; subst hf; exact h3
  unfold itemX at h
  split at h
  · cases h
    exact ⟨by show S.lo.length ≤ _; omega, h2, ⟨by show S.tp.n + 1 ≤ _; omega, h3.ar, h3.al, h3.an, h3.ca⟩, fun e => (by simp at e), fun e => (by simp at e)⟩
  · split at h
    · cases h
      exact ⟨by simp; omega, sn, small_new _ _, fun e => (by simp at e), fun e => (by simp at e)⟩
    · split at h
      · cases h
        exact ⟨by show S.lo.length ≤ _; omega, h2, small_atom h3 _, fun e => (by simp at e), fun e => (by simp at e)⟩
      · split at h
        · split at h
          · cases h
            exact ⟨by show S.lo.length ≤ _; omega, h2, small_atom h3 _, fun e => (by simp at e), fun e => (by simp at e)⟩
          · split at h
            · cases h
              exact ⟨by show S.lo.length ≤ _; omega, h2, small_atom h3 _, fun e => (by simp at e), fun e => (by simp at e)⟩
            · split at h
              · cases h
                exact ⟨by show S.lo.length ≤ _; omega, h2, h3, fun e => (by simp at e), fun _ => by show (0 : Int) ≤ 4; decide⟩
              · split at h
                · cases h
                  exact ⟨by show S.lo.length ≤ _; omega, h2, h3, fun e => (by simp at e), fun _ => by show (0 : Int) ≤ 5; decide⟩
                · split at h
                  · cases h
                    exact ⟨by show S.lo.length ≤ _; omega, h2, h3, fun e => (by simp at e), fun _ => by show (0 : Int) ≤ 3; decide⟩
                  · cases h
        · cases h
theorem close_inv {S S' : SX} {l : List Rx} {m : Nat} (hS : Inv S m) (h : closeX S l = some S') : Inv S' (m + 1) := by
  unfold closeX at h
  rcases nil_snoc S.lo with e | ⟨a, g, e⟩
  · rw [e] at h; simp at h
  · rw [e] at h
    simp at h
    subst h
    have hl := hS.lo
    rw [e] at hl
    simp at hl
    exact ⟨by show a.length ≤ _; omega, fun f hf => (hS.sl f (by rw [e]; simp [hf])).mono (by omega), small_atom ((hS.sl g (by rw [e]; simp)).mono (by omega)) _, fun e => (by simp at e), fun e => (by simp at e)⟩
theorem feed_inv {s' : Sl} {t : Tk} {S S' : SX} {m : Nat} (hS : Inv S m) (h : feedX s' t S = some S') : Inv S' (m + 1) := by
  have hlo := hS.lo
  have hsl : ∀ f ∈ S.lo, Small f (m + 1) := fun f hf => (hS.sl f hf).mono (by omega)
  have htp : Small S.tp (m + 1) := hS.tp.mono (by omega)
  have hn := hS.tp.n'
  unfold feedX at h
  split at h
  · rename_i h2
    split at h
    · cases h
      refine ⟨by simp; omega, fun f hf => ?_, small_new _ _, fun _ => ⟨hS.s2 h2, by simp⟩, fun e => (by simp at e)⟩
      rcases List.mem_append.1 hf with hf | hf
      · exact hsl f hf
      · simp at hf; subst hf; exact htp
    · cases h
  · rename_i h2
    split at h
    · split at h
      · exact close_inv hS h
      · exact item_inv hlo hsl htp hn h
    · rename_i h1
      split at h
      · exact item_inv hlo hsl htp hn h
      · split at h
        · cases h
          exact ⟨by show S.lo.length ≤ _; omega, hsl, small_atom htp _, fun e => absurd e h1, fun e => absurd e h2⟩
        · split at h
          · cases h
            refine ⟨by show S.lo.length ≤ _; omega, hsl, ⟨Nat.zero_le _, htp.ar, htp.al, ?_, Nat.zero_le _⟩, fun e => (by simp at e), fun e => (by simp at e)⟩
            have := hS.tp.an
            show (S.tp.an ++ [_]).length ≤ _
            simp; omega
          · split at h
            · cases h
              refine ⟨by show S.lo.length ≤ _; omega, hsl, ⟨Nat.zero_le _, htp.ar, ?_, Nat.zero_le _, Nat.zero_le _⟩, fun e => (by simp at e), fun e => (by simp at e)⟩
              have := hS.tp.al
              show (S.tp.al ++ [_]).length ≤ _
              simp; omega
            · split at h
              · split at h
                · cases h
                · cases h
                  refine ⟨by show S.lo.length ≤ _; omega, hsl, ⟨Nat.zero_le _, ?_, Nat.zero_le _, Nat.zero_le _, Nat.zero_le _⟩, fun e => (by simp at e), fun e => (by simp at e)⟩
                  have := hS.tp.ar
                  show (S.tp.ar.2 ++ [_]).length ≤ _
                  simp; omega
              · split at h
                · split at h
                  · cases h
                  · exact close_inv hS h
                · split at h
                  · split at h
                    · cases h
                      exact ⟨by omega, hsl, htp, hS.s1, hS.s2⟩
                    · cases h
                  · refine item_inv (S := ⟨S.lo, endItemX S.tp, S.st, S.wd⟩) hlo hsl ⟨Nat.zero_le _, htp.ar, htp.al, htp.an, ?_⟩ (Nat.zero_le _) h
                    have := hS.tp.ca
                    show (S.tp.ca ++ [_]).length ≤ _
                    simp; omega
/-- a byte that begins no token -/
theorem feed_bad {s' : Sl} {t : Tk} {S : SX} (h : t.k = 63) : feedX s' t S = none := by
  have it : ∀ S, itemX t S = none := fun S => by
    unfold itemX
    rw [h]
    rfl
  unfold feedX
  rw [it, it, h]
  split
  · rfl
  · split
    · rfl
    · split
      · rfl
      · rfl
/-- the tokens of a text, from a place on -/
def toksX (l : List UInt8) : Nat → Nat → List Tk
  | 0, _ => []
  | n + 1, i => if i < l.length then (if l.getD i 0 = 32 then toksX l n (i + 1) else (tokX l i).1 :: toksX l n (i + (tokX l i).2)) else [⟨36, 0, 0, [], l.length⟩]
/-- reading tokens: a state, or the place of an error -/
def RunR : List Tk → SX → Int ⊕ SX → Prop
  | [], S, r => r = .inr S
  | t :: ts, S, r => ∃ s', (feedX s' t S = none ∧ r = .inl t.a) ∨ ∃ S', feedX s' t S = some S' ∧ RunR ts S' r
theorem tokX_pos {l : List UInt8} {i : Nat} (hi : i < l.length) : 1 ≤ (tokX l i).2 ∧ i + (tokX l i).2 ≤ l.length := by
  unfold tokX
  split
  · simp; omega
  · split
    · rename_i h
      have e1 : (l.drop i) = l.getD i 0 :: l.drop (i + 1) := by
        rw [List.drop_eq_getElem_cons hi, List.getD_eq_getElem?_getD, List.getElem?_eq_getElem hi]
        rfl
      have h1 : 1 ≤ ((l.drop i).takeWhile smallB).length := by rw [e1, List.takeWhile_cons, if_pos h]; simp
      have h2 : ((l.drop i).takeWhile smallB).length ≤ (l.drop i).length := (List.takeWhile_prefix (p := smallB) (l := l.drop i)).length_le
      rw [List.length_drop] at h2
      simp only
      omega
    · split
      · split
        · simp; omega
        · split
          · split
            · simp; omega
            · split
              · rename_i h; simp only; omega
              · simp; omega
          · simp; omega
      · split
        · rename_i hb
          have := byteX_len hb
          simp only
          omega
        · simp; omega
end Go.Proofs.YtknlbofiicflgaaGreat
namespace Go.Proofs.YtknlbofiicflgaaGreat
open Go Go.W

abbrev tkC (t : Tk) : List Value := [.int .u8 (t.k.toNat : Int), .int .u8 (t.lo.toNat : Int), .int .u8 (t.hi.toNat : Int), .string (ba t.s), .int .i64 t.a]
/-- nothing -/
def enNil : En := ⟨[], fun _ => True, fun _ _ _ h => h, fun _ _ b hb => by simp at hb, by simp⟩
abbrev GP (t2 t3 t4 D l_ bs : Nat) (s : ByteArray) (v3 v4 : Value) (o : Obj) : List En := [.c t2 [.int .i64 0, .int .u8 0, .int .u8 0, .slice none 0 0] ty_regex_Regex, .c t3 [v3] ty_int, .c t4 [v4] ty_api_Errno, .ob D (.deferred (some [])), .ob l_ o, .c bs [.string s] ty_string]
def PS (w0 w : World) (rb : Nat) (G : List En) (S : SX) : Prop := ∃ (sl : Sl) (fs : List FM) (f : FM) (ts : List Rt) (p : Addr), fs.map FM.x = S.lo ∧ f.x = S.tp ∧ (∀ g ∈ fs ++ [f], ∀ t ∈ g.ts, t ∈ ts) ∧ sl.a = some p ∧ (∀ b ∈ Rt.fps ts, w0.heap.size ≤ b) ∧ SF F0 w0 w rb sl S.st S.wd fs f G ts
def PE (w0 w : World) (rb : Nat) (G : List En) : Prop := ∃ (sl : Sl) (fs : List FM) (f : FM) (ts : List Rt) (st wd : Int), SF F0 w0 w rb sl st wd fs f G ts
section
variable {s : ByteArray} {w0 : World} {rb t2 t3 t4 D l_ bs : Nat} {o_ : LoopState → Option Code → Obj}
abbrev HYP (s : ByteArray) (rb t2 t3 t4 l_ bs : Nat) (o_ : LoopState → Option Code → Obj) : Prop :=
  ∀ (x17_0 x17_1 x17_2 : Int) (x17_3 : ByteArray) (x17_4 : Int) (w_ : World) (K_ : Bool → World → Prop), w_.heap[l_]? = some (o_ .ready none) → regex_Parse.B_S0 l_ o_ s (at0 t2) (at0 t3) (at0 t4) (at0 rb) (at0 bs) x17_0 x17_1 x17_2 x17_3 x17_4 w_ (fun r_ w1 => ∃ b_ : Bool, r_ = .returned (.bool b_) ∧ K_ b_ w1) → W.yieldB Tryz.prog l_ #[.agg #[.int .u8 x17_0, .int .u8 x17_1, .int .u8 x17_2, .string x17_3, .int .i64 x17_4]] w_ K_
theorem p_round (hY : HYP s rb t2 t3 t4 l_ bs o_) {S : SX} {m : Nat} (hI : Inv S m) (hm : m ≤ 900000) (t : Tk) {e : En} {w : World} (H : PS w0 w rb (GP t2 t3 t4 D l_ bs s (.int .i64 0) (.int .i64 0) (o_ .ready none) ++ [e]) S) {K : Bool → World → Prop}
    (hbad : ∀ w' s', feedX s' t S = none → PE w0 w' rb (GP t2 t3 t4 D l_ bs s (.int .i64 t.a) (.int .i64 2) (o_ .done (some .ret)) ++ [e]) → K false w')
    (hok : ∀ w' s' S', feedX s' t S = some S' → PS w0 w' rb (GP t2 t3 t4 D l_ bs s (.int .i64 0) (.int .i64 0) (o_ .ready none) ++ [e]) S' → K true w') : W.yieldB Tryz.prog l_ #[t.v] w K := by
  obtain ⟨lo, tp, st, wd⟩ := S
  obtain ⟨sl, fs, f, ts, p, hlo, htp, h3, h4, hb, H⟩ := H
  have hlo : fs.map FM.x = lo := hlo
  have htp : f.x = tp := htp
  subst hlo htp
  refine hY _ _ _ _ _ w K (H.ob 7) ?_
  refine H.nw fun w1 _ H1 => H1.st5 10 rfl fun w2 H2 => H2.pu 7 rfl fun w3 H3 => ⟨_, _, _, _, _, H3.ld 10 0, H3.ld 10 1, H3.ld 10 2, H3.ld 10 3, H3.ld 10 4, ?_⟩
  have H3' : SF F0 w0 w3 rb sl st wd fs f (GP t2 t3 t4 D l_ bs s (.int .i64 0) (.int .i64 0) (o_ .busy none) ++ [e, .c w.heap.size (tkC t) ty_regex_token]) ts := H3
  refine H3'.csS0 h3 h4 (fun own1 s1 => c_feed s1 (Nat.le_trans hI.lo (by omega)) (hI.tp.mono (by omega)) hI.s1 t) ?_
  rintro r w4 sl4 fs4 f4 p4 st4 wd4 ts4 t4' h34 h44 b4 ⟨s', hsay⟩ H4
  rcases hsay with ⟨hn, rfl⟩ | ⟨hs, rfl⟩
  · refine ⟨false, rfl, sel_true rfl ?_⟩
    refine H4.dr fun w5 H5 => ⟨t.a, H5.ld 10 4, H5.st4 3 rfl fun w6 H6 => ⟨H6.ld 10 4, H6.st0 4 rfl fun w7 H7 => H7.st0 5 rfl fun w8 H8 => H8.pu 7 rfl fun w9 H9 => ⟨false, rfl, hbad w9 s' hn ⟨sl4, fs4, f4, ts4, st4, wd4, ?_⟩⟩⟩⟩
    exact H9.take 10
  · refine ⟨true, rfl, sel_false rfl (H4.pu 7 rfl fun w5 H5 => ⟨true, rfl, hok w5 s' _ hs ⟨sl4, fs4, f4, ts4, p4, rfl, rfl, h34, h44, fun b hb' => ?_, H5.take 10⟩⟩)⟩
    rcases b4 b hb' with h | h | h
    · exact hb b h
    · exact h
    · exact h.elim
def PEnd (w0 : World) (rb t2 t3 t4 D l_ bs : Nat) (s : ByteArray) (o_ : LoopState → Option Code → Obj) (w' : World) : Int ⊕ SX → Prop
  | .inl a => PE w0 w' rb (GP t2 t3 t4 D l_ bs s (.int .i64 a) (.int .i64 2) (o_ .done (some .ret)))
  | .inr S => PS w0 w' rb (GP t2 t3 t4 D l_ bs s (.int .i64 0) (.int .i64 0) (o_ .ready none)) S
theorem p_loop (hs : s.size ≤ 4096) (hY : HYP s rb t2 t3 t4 l_ bs o_) (R : Post) : ∀ (n i m : Nat) (S : SX) (w : World), s.size - i < n → i ≤ s.size → Inv S m → m + n ≤ 900000 →
    PS w0 w rb (GP t2 t3 t4 D l_ bs s (.int .i64 0) (.int .i64 0) (o_ .ready none)) S →
    (∀ w' res, RunR (toksX (bl s) n i) S res → PEnd w0 rb t2 t3 t4 D l_ bs s o_ w' res → R (.returned (.tuple #[])) w') → regex_tokens_1.L0 l_ (at0 bs) (i : Int) w R := by
  intro n
  induction n with
  | zero => intro i m S w h; omega
  | succ n ih =>
    intro i m S w hn hi hI hm hP hR
    have hl : (bl s).length = s.size := bl_len s
    have hP0 := hP
    obtain ⟨sl, fs, f, ts, p, hlo, htp, h3, h4, hb, H⟩ := hP0
    refine regex_tokens_1.L0_step _ _ _ _ _ ⟨s, H.ld0 8, sel_dec (fun h => ⟨s, H.ld0 8, by omega, _, s_at (i := i) (by omega), u8_sel (n := 32) (by omega) (fun hc : (bl s).getD i 0 = 32 => ?_) (fun hc : (bl s).getD i 0 ≠ 32 => ⟨s, H.ld0 8, H.call (c_tokenAt s (by omega) i (by omega) w) ?_⟩)⟩) (fun h => ⟨s, H.ld0 8, ?_⟩)⟩
    · rw [show IntKind.wrap .i64 ((i : Int) + 1) = ((i + 1 : Nat) : Int) by rw [IntWalk.i64_in _ (by omega)]; omega]
      refine ih (i + 1) m S w (by omega) (by omega) hI (by omega) hP (fun w' res hr he => hR w' res ?_ he)
      unfold toksX
      rw [if_pos (by omega), if_pos hc]
      exact hr
    · rintro _ w1 rfl H1
      have hpos := tokX_pos (l := bl s) (i := i) (by omega)
      have et : toksX (bl s) (n + 1) i = (tokX (bl s) i).1 :: toksX (bl s) n (i + (tokX (bl s) i).2) := by
        rw [toksX, if_pos (by omega), if_neg hc]
      rw [et] at hR
      refine ⟨_, _, _, _, _, _, rfl, H1.nw fun w2 _ H2 => H2.st5 9 rfl fun w7 H7 => ⟨_, _, _, _, _, H7.ld 9 0, H7.ld 9 1, H7.ld 9 2, H7.ld 9 3, H7.ld 9 4, ?_⟩⟩
      have H7' : SF F0 w0 w7 rb sl S.st S.wd fs f (GP t2 t3 t4 D l_ bs s (.int .i64 0) (.int .i64 0) (o_ .ready none) ++ [.c w1.heap.size (tkC (tokX (bl s) i).1) ty_regex_token]) ts := H7
      refine p_round hY hI (by omega) (tokX (bl s) i).1 (e := .c w1.heap.size (tkC (tokX (bl s) i).1) ty_regex_token) ⟨sl, fs, f, ts, p, hlo, htp, h3, h4, hb, H7'⟩ (fun w8 s' hno hE => sel_true rfl (hR w8 (.inl (tokX (bl s) i).1.a) ⟨s', .inl ⟨hno, rfl⟩⟩ ?_)) (fun w8 s' S' hyes hE => sel_false rfl ?_)
      · obtain ⟨sl8, fs8, f8, ts8, st8, wd8, H8⟩ := hE
        exact ⟨sl8, fs8, f8, ts8, st8, wd8, H8.take 9⟩
      · obtain ⟨sl8, fs8, f8, ts8, p8, hlo8, htp8, h38, h48, hb8, H8⟩ := hE
        refine ⟨_, H8.ld 9 0, u8_sel (n := 63) (by omega) (fun hk : (tokX (bl s) i).1.k = 63 => ?_) (fun hk => ?_)⟩
        · rw [feed_bad hk] at hyes; cases hyes
        · rw [show IntKind.wrap .i64 ((i : Int) + ((tokX (bl s) i).2 : Int)) = ((i + (tokX (bl s) i).2 : Nat) : Int) by rw [IntWalk.i64_in _ (by omega)]; omega]
          refine ih (i + (tokX (bl s) i).2) (m + 1) S' w8 (by omega) (by omega) (feed_inv hI hyes) (by omega) ⟨sl8, fs8, f8, ts8, p8, hlo8, htp8, h38, h48, hb8, H8.take 9⟩ (fun w' res hr he => hR w' res ⟨s', .inr ⟨S', hyes, hr⟩⟩ he)
    · have et : toksX (bl s) (n + 1) i = [⟨36, 0, 0, [], (bl s).length⟩] := by
        rw [toksX, if_neg (by omega)]
      rw [et, hl] at hR
      have H1 := H.push enNil (Fr.refl _ _) trivial (fun b hb => by cases hb)
      refine p_round hY hI (by omega) ⟨36, 0, 0, [], (s.size : Int)⟩ (e := enNil) ⟨sl, fs, f, ts, p, hlo, htp, h3, h4, hb, H1⟩ (fun w8 s' hno hE => hR w8 (.inl (s.size : Int)) ⟨s', .inl ⟨hno, rfl⟩⟩ ?_) (fun w8 s' S' hyes hE => hR w8 (.inr S') ⟨s', .inr ⟨S', hyes, rfl⟩⟩ ?_)
      · obtain ⟨sl8, fs8, f8, ts8, st8, wd8, H8⟩ := hE
        exact ⟨sl8, fs8, f8, ts8, st8, wd8, H8.take 9⟩
      · obtain ⟨sl8, fs8, f8, ts8, p8, hlo8, htp8, h38, h48, hb8, H8⟩ := hE
        exact ⟨sl8, fs8, f8, ts8, p8, hlo8, htp8, h38, h48, hb8, H8.take 9⟩
end
end Go.Proofs.YtknlbofiicflgaaGreat
namespace Go.Proofs.YtknlbofiicflgaaGreat
open Go Go.W

theorem rsz_app : ∀ (a b : List Rx), Rx.szs (a ++ b) = Rx.szs a + Rx.szs b
  | [], b => by simp [Rx.szs]
  | x :: a, b => by
    have := rsz_app a b
    show x.sz + Rx.szs (a ++ b) = (x.sz + Rx.szs a) + Rx.szs b
    omega
theorem szs_one (x : Rx) : Rx.szs [x] = x.sz := by simp [Rx.szs]
theorem one_sz (k : Int) (l : List Rx) : (oneX k l).sz ≤ 1 + Rx.szs l := by
  unfold oneX
  split
  · rw [szs_one]; omega
  · unfold Rx.sz; omega
theorem not_sz : ∀ (n : Nat) (r : Rx), (notN n r).sz = n + r.sz
  | 0, r => by unfold notN; omega
  | n + 1, r => by
    unfold notN
    rw [not_sz n]
    unfold Rx.sz
    rw [szs_one]
    cases r
    simp only [Rx.sz]
    omega
def fz (f : FX) : Nat := Rx.szs f.ar.2 + Rx.szs f.al + Rx.szs f.an + Rx.szs f.ca + f.n
def lz : List FX → Nat
  | [] => 0
  | f :: l => fz f + lz l
theorem lz_app : ∀ (a b : List FX), lz (a ++ b) = lz a + lz b
  | [], b => by simp [lz]
  | x :: a, b => by
    have := lz_app a b
    show fz x + lz (a ++ b) = (fz x + lz a) + lz b
    omega
def pz (S : SX) : Nat := lz S.lo + fz S.tp + (if S.st = 0 ∨ S.st = 1 ∨ S.st = 2 then 0 else S.tp.la.sz)
theorem pz_le (S : SX) : pz S ≤ lz S.lo + fz S.tp + S.tp.la.sz := by unfold pz; split <;> omega
theorem pz_ge (S : SX) : lz S.lo + fz S.tp ≤ pz S := by unfold pz; omega
theorem pz_no {S : SX} (h : S.st = 0 ∨ S.st = 1 ∨ S.st = 2) : pz S = lz S.lo + fz S.tp := by unfold pz; rw [if_pos h]; omega
theorem pz_la {S : SX} (h : ¬ (S.st = 0 ∨ S.st = 1 ∨ S.st = 2)) : pz S = lz S.lo + fz S.tp + S.tp.la.sz := by unfold pz; rw [if_neg h]
theorem item_fz (f : FX) : fz (endItemX f) = fz f + f.la.sz := by
  unfold fz endItemX
  simp only [rsz_app, szs_one, not_sz]
  omega
theorem seq_fz (f : FX) : fz (endSeqX f) ≤ fz f + f.la.sz + 1 := by
  have h := one_sz 3 (f.ca ++ [notN f.n f.la])
  simp only [rsz_app, szs_one, not_sz] at h
  show Rx.szs f.ar.2 + Rx.szs f.al + Rx.szs (f.an ++ [oneX 3 (f.ca ++ [notN f.n f.la])]) + Rx.szs [] + 0 ≤ _
  unfold fz
  simp only [rsz_app, szs_one, Rx.szs]
  omega
theorem conj_fz (f : FX) : Rx.szs f.ar.2 + Rx.szs (endConjX f).al ≤ fz f + f.la.sz + 2 := by
  have h := one_sz 5 (endSeqX f).an
  have h2 := seq_fz f
  have e : fz (endSeqX f) = Rx.szs f.ar.2 + Rx.szs f.al + Rx.szs (endSeqX f).an + 0 + 0 := rfl
  show Rx.szs f.ar.2 + Rx.szs (f.al ++ [oneX 5 (endSeqX f).an]) ≤ _
  simp only [rsz_app, szs_one]
  omega
theorem conj_fz' (f : FX) : fz (endConjX f) ≤ fz f + f.la.sz + 2 := by
  have := conj_fz f
  show Rx.szs f.ar.2 + Rx.szs (endConjX f).al + Rx.szs [] + Rx.szs [] + 0 ≤ _
  simp only [Rx.szs]
  omega
theorem expr_sz (f : FX) : Rx.szs f.ar.2 + (exprX f).sz ≤ fz f + f.la.sz + 3 := by
  have h := one_sz 4 (endConjX f).al
  have := conj_fz f
  show _ + (oneX 4 (endConjX f).al).sz ≤ _
  omega
theorem item_sz {t : Tk} {S S' : SX} (h : itemX t S = some S') : pz S' ≤ lz S.lo + fz S.tp + 1 := by
  have leaf : ∀ (k : Int) (a b : UInt8), (Rx.mk k a b []).sz = 1 := fun k a b => by unfold Rx.sz; simp [Rx.szs]
  unfold itemX at h
  split at h
  · cases h
    rw [pz_no (.inl rfl)]
    show lz S.lo + (Rx.szs S.tp.ar.2 + Rx.szs S.tp.al + Rx.szs S.tp.an + Rx.szs S.tp.ca + (S.tp.n + 1)) ≤ _
    unfold fz; omega
  · split at h
    · cases h
      rw [pz_no (.inl rfl)]
      show lz (S.lo ++ [S.tp]) + fz (newFX (-1)) ≤ _
      rw [lz_app]
      have : fz (newFX (-1)) = 0 := rfl
      simp only [lz]; omega
    · have la : ∀ (k : Int) (a b : UInt8), pz ⟨S.lo, atomX S.tp (.mk k a b []), 3, S.wd⟩ ≤ lz S.lo + fz S.tp + 1 := fun k a b => by
        refine Nat.le_trans (pz_le _) ?_
        show lz S.lo + fz S.tp + (Rx.mk k a b []).sz ≤ _
        rw [leaf]; exact Nat.le_refl _
      split at h
      · cases h
        exact la _ _ _
      · split at h
        · split at h
          · cases h; exact la _ _ _
          · split at h
            · cases h; exact la _ _ _
            · split at h
              · cases h; rw [pz_no (.inr (.inr rfl))]; show lz S.lo + fz S.tp ≤ _; omega
              · split at h
                · cases h; rw [pz_no (.inr (.inr rfl))]; show lz S.lo + fz S.tp ≤ _; omega
                · split at h
                  · cases h; rw [pz_no (.inr (.inr rfl))]; show lz S.lo + fz S.tp ≤ _; omega
                  · cases h
        · cases h
theorem close_sz {S S' : SX} {l : List Rx} (h : closeX S l = some S') : pz S' ≤ lz S.lo + Rx.szs l + 1 := by
  unfold closeX at h
  rcases nil_snoc S.lo with e | ⟨a, g, e⟩
  · rw [e] at h; simp at h
  · rw [e] at h ⊢
    simp at h
    subst h
    refine Nat.le_trans (pz_le _) ?_
    show lz a + fz g + (clR S.tp.k l).sz ≤ _
    rw [lz_app]
    have : (clR S.tp.k l).sz ≤ Rx.szs l + 1 := by
      unfold clR
      split
      · cases l with
        | nil => exact (by show noR.sz ≤ _; unfold noR Rx.sz; simp [Rx.szs])
        | cons x l => show x.sz ≤ _; unfold Rx.szs; omega
      · unfold Rx.sz; omega
    simp only [lz]; omega
theorem feed_sz {s' : Sl} {t : Tk} {S S' : SX} (h : feedX s' t S = some S') : pz S' ≤ pz S + 4 := by
  have hge := pz_ge S
  unfold feedX at h
  split at h
  · split at h
    · cases h
      rw [pz_no (.inr (.inl rfl))]
      show lz (S.lo ++ [S.tp]) + fz (newFX S.wd) ≤ _
      rw [lz_app]
      have : fz (newFX S.wd) = 0 := rfl
      simp only [lz]; omega
    · cases h
  · rename_i h2
    split at h
    · split at h
      · have := close_sz h; simp only [Rx.szs] at this; omega
      · have := item_sz h; omega
    · rename_i h1
      split at h
      · have := item_sz h; omega
      · rename_i h0
        have hla := pz_la (S := S) (by rintro (e | e | e) <;> contradiction)
        split at h
        · cases h
          refine Nat.le_trans (pz_le _) ?_
          show lz S.lo + fz S.tp + (Rx.mk 7 0 0 [S.tp.la]).sz ≤ _
          have : (Rx.mk 7 0 0 [S.tp.la]).sz = 1 + S.tp.la.sz := by show 1 + Rx.szs [S.tp.la] = _; rw [szs_one]
          omega
        · split at h
          · cases h
            rw [pz_no (.inl rfl)]
            show lz S.lo + fz (endSeqX S.tp) ≤ _
            have := seq_fz S.tp; omega
          · split at h
            · cases h
              rw [pz_no (.inl rfl)]
              show lz S.lo + fz (endConjX S.tp) ≤ _
              have := conj_fz' S.tp; omega
            · split at h
              · split at h
                · cases h
                · cases h
                  rw [pz_no (.inl rfl)]
                  show lz S.lo + (Rx.szs (S.tp.ar.2 ++ [exprX S.tp]) + Rx.szs [] + Rx.szs [] + Rx.szs [] + 0) ≤ _
                  have := expr_sz S.tp
                  simp only [rsz_app, szs_one, Rx.szs]; omega
              · split at h
                · split at h
                  · cases h
                  · have h5 := close_sz h
                    have := expr_sz S.tp
                    simp only [rsz_app, szs_one] at h5; omega
                · split at h
                  · split at h
                    · cases h; omega
                    · cases h
                  · have h5 := item_sz h
                    have := item_fz S.tp
                    have e : lz (SX.mk S.lo (endItemX S.tp) S.st S.wd).lo + fz (SX.mk S.lo (endItemX S.tp) S.st S.wd).tp = lz S.lo + fz (endItemX S.tp) := rfl
                    omega
theorem feed_end {s' : Sl} {a : Int} {S S' : SX} (h : feedX s' ⟨36, 0, 0, [], a⟩ S = some S') : S' = S ∧ ¬ (S.st = 0 ∨ S.st = 1 ∨ S.st = 2) := by
  have it : ∀ S, itemX ⟨36, 0, 0, [], a⟩ S = none := fun S => rfl
  unfold feedX at h
  rw [it] at h
  split at h
  · cases h
  · split at h
    · cases h
    · split at h
      · cases h
      · refine ⟨?_, by rintro (e | e | e) <;> contradiction⟩
        have h' : (if S.lo = [] then some S else none) = some S' := h
        split at h'
        · cases h'; rfl
        · cases h'
theorem run_sz (l : List UInt8) : ∀ (n i : Nat) (S S' : SX), l.length - i < n → RunR (toksX l n i) S (.inr S') → (exprX S'.tp).sz ≤ pz S + 4 * n + 4
  | 0, i, S, S', h, _ => by omega
  | n + 1, i, S, S', h, hr => by
    unfold toksX at hr
    split at hr
    · split at hr
      · have := run_sz l n (i + 1) S S' (by omega) hr
        omega
      · rename_i hi _
        have hp := tokX_pos hi
        obtain ⟨s', ⟨_, hx⟩ | ⟨S1, h1, h2⟩⟩ := hr
        · cases hx
        · have := run_sz l n (i + (tokX l i).2) S1 S' (by omega) h2
          have := feed_sz h1
          omega
    · obtain ⟨s', ⟨_, hx⟩ | ⟨S1, h1, h2⟩⟩ := hr
      · cases hx
      · have e : S' = S1 := by have : Sum.inr S' = (Sum.inr S1 : Int ⊕ SX) := h2; cases this; rfl
        obtain ⟨e1, e2⟩ := feed_end h1
        subst e e1
        have := pz_la e2
        have := expr_sz S'.tp
        omega
end Go.Proofs.YtknlbofiicflgaaGreat
namespace Go.Proofs.YtknlbofiicflgaaGreat
open Go Go.W

theorem lh_pick {M : Nat → Prop} {w0 w : World} {L D : List En} (H : LH M w0 w L D) (is js : List Nat) (hp : is.Perm js) (hL : js.map (fun k => L.getD k enNil) = L) : LH M w0 w (is.map fun k => L.getD k enNil) D := by
  have h : (is.map fun k => L.getD k enNil).Perm L := by
    have := hp.map (fun k => L.getD k enNil)
    rwa [hL] at this
  exact ⟨H.fr, fun e he => H.own e (h.mem_iff.1 he), H.rd, fun e he => H.new e (h.mem_iff.1 he), ((h.flatMap_right _).nodup_iff).2 H.nd, fun e he b hb e' he' => H.dj e he b hb e' (h.mem_iff.1 he')⟩
theorem rangeEnd_n {w2 : World} {l : Nat} {o : LoopState → Option Code → Obj} {N : World → Prop} {X : Nat → World → Prop} {T : World → Prop} (h : puV w2 l (o .ready none) (o .exhausted none) N) : RangeEnd w2 l o N X T := .inl h
theorem rangeEnd_t {w2 : World} {l : Nat} {o : LoopState → Option Code → Obj} {N : World → Prop} {X : Nat → World → Prop} {T : World → Prop} (h : puV w2 l (o .done (some .ret)) (o .exhausted (some .ret)) T) : RangeEnd w2 l o N X T := .inr (.inr h)
theorem leaf0 {b : Nat} (h : b ∈ Rt.fps [.mk 0 0 0 ⟨none, 0, 0⟩ []]) : False := by
  have := leaf_fps (ts := []) (k := 0) (lo := 0) (hi := 0) (b := b) h
  unfold Rt.fps at this
  cases this
def sx0 : SX := ⟨[], newFX (-1), 0, 0⟩
theorem inv0 : Inv sx0 0 := by
  refine ⟨Nat.le_refl _, fun f hf => ?_, small_new _ _, fun e => ?_, fun e => ?_⟩
  · cases hf
  · have : (0 : Int) = 1 := e
    omega
  · have : (0 : Int) = 2 := e
    omega
theorem run_inv (l : List UInt8) : ∀ (n i m : Nat) (S S' : SX), Inv S m → RunR (toksX l n i) S (.inr S') → Inv S' (m + n)
  | 0, i, m, S, S', hI, hr => by
    have e : (Sum.inr S' : Int ⊕ SX) = .inr S := hr
    cases e
    exact hI
  | n + 1, i, m, S, S', hI, hr => by
    have up : ∀ {S : SX} {a b : Nat}, Inv S a → a ≤ b → Inv S b := fun h hab => ⟨Nat.le_trans h.lo hab, fun f hf => (h.sl f hf).mono hab, h.tp.mono hab, h.s1, h.s2⟩
    unfold toksX at hr
    split at hr
    · split at hr
      · exact up (run_inv l n _ m S S' hI hr) (by omega)
      · obtain ⟨s', ⟨_, hx⟩ | ⟨S1, h1, h2⟩⟩ := hr
        · cases hx
        · exact up (run_inv l n _ (m + 1) S1 S' (feed_inv hI h1) h2) (by omega)
    · obtain ⟨s', ⟨_, hx⟩ | ⟨S1, h1, h2⟩⟩ := hr
      · cases hx
      · have e : (Sum.inr S' : Int ⊕ SX) = .inr S1 := h2
        cases e
        exact up (feed_inv hI h1) (by omega)
/-- what Parse answers -/
def ParseR (w : World) (s : ByteArray) : Post := fun r w' => Fr0 w w' ∧
  ((4096 < s.size ∧ r = .returned (.tuple #[.agg #[.int .i64 0, .int .u8 0, .int .u8 0, .slice none 0 0], .int .i64 4096, .int .i64 4])) ∨
   (s.size ≤ 4096 ∧ ∃ res, RunR (toksX (bl s) (s.size + 1) 0) sx0 res ∧ ((∃ a, res = .inl a ∧ r = .returned (.tuple #[.agg #[.int .i64 0, .int .u8 0, .int .u8 0, .slice none 0 0], .int .i64 a, .int .i64 2])) ∨
     ∃ S', res = .inr S' ∧ ((64 < (exprX S'.tp).sz ∧ r = .returned (.tuple #[.agg #[.int .i64 0, .int .u8 0, .int .u8 0, .slice none 0 0], .int .i64 (s.size : Int), .int .i64 4])) ∨
       ((exprX S'.tp).sz ≤ 64 ∧ ∃ t : Rt, r = .returned (.tuple #[t.v, .int .i64 0, .int .i64 0]) ∧ t.rx = exprX S'.tp ∧ t.P w' ∧ ∀ b ∈ t.fp, w.heap.size ≤ b)))))
theorem c_Parse (s : ByteArray) (w : World) : Calls Tryz.prog n_regex_Parse #[.string s] w (ParseR w s) := by
  refine regex_Parse.ok _ w _ ((lh0 [] (fun _ h => by cases h)).nw fun w1 _ H1 => H1.nw fun w2 _ H2 => H2.nw fun w3 _ H3 => sel_dec (fun h => ?_) (fun h => ?_))
  · refine H3.st4 0 rfl fun w4 H4 => H4.st0 1 rfl fun w5 H5 => H5.st0 2 rfl fun w6 H6 => ⟨_, _, _, ⟨none, 0, 0⟩, H6.ld 0 0, H6.ld 0 1, H6.ld 0 2, H6.ld 0 3, _, H6.ld0 1, _, H6.ld0 2, H6.fr, .inl ⟨by omega, rfl⟩⟩
  have hs : s.size ≤ 4096 := by omega
  have hl : (bl s).length = s.size := bl_len s
  refine H3.nwrow (e := ty_regex_frame) (sz := 10) (n := 1) (cs := (newFM (-1)).c) rfl (by decide) fun w10 H10 => H10.nw fun w11 _ H11 => ?_
  refine H11.st0 4 rfl fun w12 H12 => H12.st 4 1 rfl fun w13 H13 => H13.st 4 2 rfl fun w14 H14 => ?_
  refine regex_tokens.ok _ w14 _ (H14.nw fun w15 _ H15 => ⟨_, rfl, ?_⟩)
  show ∀ o_ : LoopState → Option Code → Obj, _
  intro o_ hY
  have e1 : (w15.alloc (.deferred (some []))).heap.size = w15.heap.size + 1 := size_alloc _ _
  have HG := (H15.alloc (.deferred (some []))).alloc (o_ .ready none)
  rw [e1] at HG
  have hP : (En.rows (([] ++ [newFM (-1)] : List FM).flatMap FM.rows)).P ((w15.alloc (.deferred (some []))).alloc (o_ .ready none)) := by
    refine ⟨fun q hq => ?_, by decide⟩
    have hq : q ∈ [((⟨none, 0, 0⟩, []) : RowV), (⟨none, 0, 0⟩, []), (⟨none, 0, 0⟩, []), (⟨none, 0, 0⟩, [])] := hq
    simp only [List.mem_cons, List.not_mem_nil, or_false, or_self] at hq
    subst hq
    exact OwnRow.nil _ _ _
  have Ha := (HG.push (.rows (([] ++ [newFM (-1)] : List FM).flatMap FM.rows)) (Fr.refl _ _) hP (fun b hb => by
    have hb := mem_nub.1 hb
    have hb : b ∈ ([] : List Nat) := hb
    cases hb)).addD (.trees [.mk 0 0 0 ⟨none, 0, 0⟩ []]) (Fr.refl _ _) (Rt.ps_of fun t ht => by
      simp at ht; subst ht
      show Rt.P _ _
      unfold Rt.P Rt.Ps
      exact ⟨RdN.nil 4 _, trivial⟩) (fun b hb => by
        exact (leaf0 (mem_nub.1 hb)).elim)
  have Hb := lh_pick Ha [4, 3, 8, 0, 1, 2, 6, 7, 5] [0, 1, 2, 3, 4, 5, 6, 7, 8] (by decide) rfl
  have HS : SF F0 w ((w15.alloc (.deferred (some []))).alloc (o_ .ready none)) w10.heap.size ⟨some (at0 w3.heap.size), 1, 1⟩ 0 0 [] (newFM (-1)) (GP w.heap.size w1.heap.size w2.heap.size w15.heap.size (w15.heap.size + 1) w14.heap.size s (.int .i64 0) (.int .i64 0) (o_ .ready none)) [.mk 0 0 0 ⟨none, 0, 0⟩ []] := Hb
  refine regex_tokens_1.ok _ _ _ _ (p_loop (w0 := w) (rb := w10.heap.size) (t2 := w.heap.size) (t3 := w1.heap.size) (t4 := w2.heap.size) (D := w15.heap.size) (l_ := w15.heap.size + 1) (bs := w14.heap.size) hs hY _ (s.size + 1) 0 0 sx0 _ (by omega) (by omega) inv0 (by omega)
    ⟨_, [], newFM (-1), _, _, rfl, rfl, fun g hg t ht => ?_, rfl, fun b hb => ?_, HS⟩ (fun w' res hr he => ⟨⟨_, rfl⟩, ?_⟩))
  · simp at hg; subst hg
    simpa [FM.ts, newFM] using ht
  · exact (leaf0 hb).elim
  cases res with
  | inl a =>
    obtain ⟨sl, fs, f, ts, st, wd, H⟩ := he
    refine rangeEnd_t (H.pu 7 rfl fun w11 H11 => H11.pu 6 rfl fun w15 H15 => ⟨_, _, _, ⟨none, 0, 0⟩, H15.ld 3 0, H15.ld 3 1, H15.ld 3 2, H15.ld 3 3, _, H15.ld0 4, _, H15.ld0 5, H15.fr, .inr ⟨hs, _, hr, .inl ⟨a, rfl, rfl⟩⟩⟩)
  | inr S' =>
    obtain ⟨sl, fs, f, ts, p, hlo, htp, h3, h4, hb, H⟩ := he
    have hI := run_inv _ _ _ _ _ _ inv0 hr
    have hsz := run_sz _ _ _ _ _ (by omega) hr
    rw [show pz sx0 = 0 from rfl] at hsz
    have hfl : fs.length ≤ 1000000 := by
      have := hI.lo
      rw [← hlo] at this
      simp at this
      omega
    refine rangeEnd_n (H.pu 7 rfl fun w5 H5 => ?_)
    have H5' : SF F0 w w5 w10.heap.size sl S'.st S'.wd fs f (GP w.heap.size w1.heap.size w2.heap.size w15.heap.size (w15.heap.size + 1) w14.heap.size s (.int .i64 0) (.int .i64 0) (o_ .exhausted none)) ts := H5
    refine H5'.call (c_top H5' h4 hfl) ?_
    rintro _ w6 rfl H6
    have H6' : SF F0 w w6 w10.heap.size sl S'.st S'.wd fs f (GP w.heap.size w1.heap.size w2.heap.size w15.heap.size (w15.heap.size + 1) w14.heap.size s (.int .i64 0) (.int .i64 0) (o_ .exhausted none)) ts := H6
    refine ⟨_, rfl, H6'.csS0 h3 h4 (fun own1 s1 => c_endExpr s1 (by rw [htp]; exact hI.tp.mono (by omega))) ?_⟩
    rintro r w7 sl3 fs3 f3 p3 st3 wd3 ts3 t3 h33 h43 b3' ⟨hf0, he1, he2, rfl, rfl, u, hu, rfl, hx⟩ H7
    rw [htp] at hx
    have husz : u.sz = (exprX S'.tp).sz := by rw [← hx, Rt.rx_sz]
    refine ⟨_, _, _, u.s, rfl, H7.nw fun w8 _ H8 => H8.st4 9 rfl fun w9 H9 => ⟨_, _, _, u.s, H9.ld 9 0, H9.ld 9 1, H9.ld 9 2, H9.ld 9 3, H9.call (c_tooLarge u w9 (by omega) ((show Rt.Ps w9 ts3 from H9.getD 0).mem hu)) ?_⟩⟩
    rintro _ w12 rfl H12
    refine ⟨_, rfl, sel_dec (fun hbig => ?_) (fun hsm => ?_)⟩
    · refine H12.st4 3 rfl fun w13 H13 => H13.st0 4 rfl fun w14 H14 => H14.st0 5 rfl fun w16 H16 => H16.pu 6 rfl fun w17 H17 => ⟨_, _, _, ⟨none, 0, 0⟩, H17.ld 3 0, H17.ld 3 1, H17.ld 3 2, H17.ld 3 3, _, H17.ld0 4, _, H17.ld0 5, H17.fr, .inr ⟨hs, _, hr, .inr ⟨S', rfl, .inl ⟨by omega, rfl⟩⟩⟩⟩
    · refine ⟨_, _, _, u.s, H12.ld 9 0, H12.ld 9 1, H12.ld 9 2, H12.ld 9 3, H12.st4 3 rfl fun w13 H13 => H13.st0 4 rfl fun w14 H14 => H14.st0 5 rfl fun w16 H16 => H16.pu 6 rfl fun w17 H17 => ⟨_, _, _, u.s, H17.ld 3 0, H17.ld 3 1, H17.ld 3 2, H17.ld 3 3, _, H17.ld0 4, _, H17.ld0 5, H17.fr, .inr ⟨hs, _, hr, .inr ⟨S', rfl, .inr ⟨by omega, u, rfl, hx, (show Rt.Ps w17 ts3 from H17.getD 0).mem hu, fun b hbu => ?_⟩⟩⟩⟩⟩
      rcases b3' b (Rt.fps_iff.2 ⟨u, hu, hbu⟩) with h | h | h
      · exact hb b h
      · exact h
      · exact h.elim
end Go.Proofs.YtknlbofiicflgaaGreat
namespace Go.Proofs.YtknlbofiicflgaaGreat
open Go Go.W

def zSl : Sl := ⟨none, 0, 0⟩
def er (f : FX) : FX := ⟨f.k, (zSl, f.ar.2), f.al, f.an, f.ca, f.n, f.la⟩
def erS (S : SX) : SX := ⟨S.lo.map er, er S.tp, S.st, S.wd⟩
theorem item_er (t : Tk) (S : SX) : (itemX t S).map erS = itemX t (erS S) := by
  have e1 : er (newFX (-1)) = newFX (-1) := rfl
  have e2 : (S.lo ++ [S.tp]).map er = S.lo.map er ++ [er S.tp] := by simp
  unfold itemX
  split
  · rfl
  · split
    · simp only [Option.map_some, erS, e1, e2]
    · split
      · rfl
      · split
        · split
          · rfl
          · split
            · rfl
            · split
              · rfl
              · split
                · rfl
                · split <;> rfl
        · rfl
theorem close_er (S : SX) (l : List Rx) : (closeX S l).map erS = closeX (erS S) l := by
  unfold closeX
  rcases nil_snoc S.lo with e | ⟨a, g, e⟩
  · simp [e, erS]
  · have e' : (erS S).lo = a.map er ++ [er g] := by simp [erS, e]
    rw [e, e']
    simp [erS]
    rfl
theorem feed_er (s' : Sl) (t : Tk) (S : SX) : (feedX s' t S).map erS = feedX zSl t (erS S) := by
  have e2 : (S.lo ++ [S.tp]).map er = S.lo.map er ++ [er S.tp] := by simp
  have c1 : (erS S).st = S.st := rfl
  have c2 : (erS S).tp.k = S.tp.k := rfl
  unfold feedX
  rw [c1, c2]
  by_cases h2 : S.st = 2
  · rw [if_pos h2, if_pos h2]
    split
    · show some (erS ⟨S.lo ++ [S.tp], newFX S.wd, 1, S.wd⟩) = some ⟨S.lo.map er ++ [er S.tp], newFX S.wd, 1, S.wd⟩
      rw [← e2]; rfl
    · rfl
  rw [if_neg h2, if_neg h2]
  split
  · split
    · exact close_er S []
    · exact item_er t S
  · split
    · exact item_er t S
    · split
      · rfl
      · split
        · rfl
        · split
          · rfl
          · split
            · split <;> rfl
            · split
              · by_cases e : S.lo = []
                · rw [if_pos e, if_pos (show (erS S).lo = [] by simp [erS, e])]; rfl
                · rw [if_neg e, if_neg (show ¬ (erS S).lo = [] by simp [erS, e])]; exact close_er S _
              · split
                · by_cases e : S.lo = []
                  · rw [if_pos e, if_pos (show (erS S).lo = [] by simp [erS, e])]; rfl
                  · rw [if_neg e, if_neg (show ¬ (erS S).lo = [] by simp [erS, e])]; rfl
                · exact item_er t ⟨S.lo, endItemX S.tp, S.st, S.wd⟩
def runE : List Tk → SX → Int ⊕ SX
  | [], S => .inr S
  | t :: ts, S => match feedX zSl t S with
    | none => .inl t.a
    | some S' => runE ts S'
def erR : Int ⊕ SX → Int ⊕ SX
  | .inl a => .inl a
  | .inr S => .inr (erS S)
theorem run_er : ∀ (ts : List Tk) (S : SX) (r : Int ⊕ SX), RunR ts S r → erR r = runE ts (erS S)
  | [], S, r, h => by
    have h : r = .inr S := h
    subst h; rfl
  | t :: ts, S, r, h => by
    obtain ⟨s', ⟨h1, h2⟩ | ⟨S1, h1, h2⟩⟩ := h
    · subst h2
      have := feed_er s' t S
      rw [h1] at this
      unfold runE
      rw [← this]
      rfl
    · have := feed_er s' t S
      rw [h1] at this
      unfold runE
      rw [← this]
      exact run_er ts S1 r h2
/-- what a text is, without slices -/
def txt (l : List UInt8) : Int ⊕ SX := runE (toksX l (l.length + 1) 0) sx0
theorem txt_of {s : ByteArray} {r : Int ⊕ SX} (h : RunR (toksX (bl s) (s.size + 1) 0) sx0 r) : erR r = txt (bl s) := by
  have := run_er _ _ _ h
  rw [this]
  unfold txt
  rw [bl_len]
  rfl
theorem expr_er (S : SX) : exprX (erS S).tp = exprX S.tp := rfl
def tA : List UInt8 := [39, 97, 39, 39, 98, 39, 124, 33, 40, 39, 97, 39, 38, 91, 97, 45, 122, 93, 41]
def tB : List UInt8 := [39, 97, 39, 39, 98, 39, 124, 33, 40, 39, 97, 39, 38, 91, 39, 97, 39, 45, 39, 122, 39, 93, 41]
def tC : List UInt8 := [39, 97, 39, 42, 39, 98, 39]
def lit (c : UInt8) : Rx := .mk 2 c c []
theorem txt_A : ∃ a, txt tA = .inl a := ⟨_, rfl⟩
theorem txt_B : ∃ S, txt tB = .inr S ∧ exprX S.tp = .mk 4 0 0 [.mk 3 0 0 [lit 97, lit 98], .mk 6 0 0 [.mk 5 0 0 [lit 97, .mk 2 97 122 []]]] := ⟨_, rfl, rfl⟩
theorem txt_C : ∃ S, txt tC = .inr S ∧ exprX S.tp = .mk 3 0 0 [.mk 7 0 0 [lit 97], lit 98] := ⟨_, rfl, rfl⟩
end Go.Proofs.YtknlbofiicflgaaGreat

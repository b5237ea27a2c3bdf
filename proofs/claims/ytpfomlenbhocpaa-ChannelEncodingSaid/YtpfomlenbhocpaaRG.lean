/- The reference of chapter 2: the contracts of its reader. -/
import Derived.Test.YtpfomlenbhocpaaWB
import Derived.Test.YtpfomlenbhocpaaVD
import Derived.Test.YtpfomlenbhocpaaVE
namespace Go.Proofs.Ytpfomlenbhocpaa
open Go Go.W

/-- the reference's reader: its bytes lie in the blocks D -/
def RfRep (w : World) (rb : Nat) (st : RS) (D : List Nat) : Prop :=
  ∃ s : Sl, (∀ x ∈ blkL s, x ∈ D) ∧ rb ∉ D ∧ w.heap[rb]? = some (.cells #[s.v, .int .i64 st.err] ty_enthymemeref02_Reader (0, 0)) ∧ Bytes w s st.bs ∧ st.bs.length ≤ 1000000
theorem RfRep.fr {M : Nat → Prop} {w w' : World} {rb : Nat} {st : RS} {D : List Nat} (h : RfRep w rb st D) (hf : Fr M w w') (h1 : ¬ M rb) (hn : ∀ b ∈ D, ¬ M b) : RfRep w' rb st D := by
  obtain ⟨s, a1, a2, a3, a4, a5⟩ := h
  exact ⟨s, a1, a2, hf.at a3 h1, a4.fr hf fun b hb => hn b (a1 b hb), a5⟩
theorem RfRep.fr0 {w w' : World} {rb : Nat} {st : RS} {D : List Nat} (h : RfRep w rb st D) (hf : Fr0 w w') : RfRep w' rb st D := h.fr hf (fun h => h) fun _ _ h => h
theorem RfRep.lt {w : World} {rb : Nat} {st : RS} {D : List Nat} (h : RfRep w rb st D) : rb < w.heap.size := by obtain ⟨s, _, _, a3, _⟩ := h; exact lt_of_heap a3
theorem RfRep.small {w : World} {rb : Nat} {st : RS} {D : List Nat} (h : RfRep w rb st D) : st.bs.length ≤ 1000000 := by obtain ⟨s, _, _, _, _, a5⟩ := h; exact a5
def RfPost (w : World) (rb : Nat) (D : List Nat) (v : Value) (st : RS) : Post := fun r w' => r = .returned v ∧ RfRep w' rb st D ∧ Fr (· = rb) w w'
theorem rf_c0 {w : World} {rb : Nat} {s : Sl} {y : Value} (h : w.heap[rb]? = some (.cells #[s.v, y] ty_enthymemeref02_Reader (0, 0))) : w.cell? ((at0 rb).add 0) = some s.v := cellAt (p := at0 rb) h rfl rfl
theorem rf_c1 {w : World} {rb : Nat} {s : Sl} {y : Value} (h : w.heap[rb]? = some (.cells #[s.v, y] ty_enthymemeref02_Reader (0, 0))) : w.cell? ((at0 rb).add 1) = some y := cellAt (p := at0 rb) h rfl rfl
theorem rf_e {w : World} {rb : Nat} {st : RS} {D : List Nat} (h : RfRep w rb st D) : w.cell? ((at0 rb).add 1) = some (.int .i64 st.err) := by obtain ⟨s, _, _, a3, _⟩ := h; exact rf_c1 a3
/-- the error is set -/
theorem rf_err {w : World} {rb : Nat} {st : RS} {D : List Nat} (h : RfRep w rb st D) (e : Int) :
    (w.cell? ((at0 rb).add 1)).isSome = true ∧ w.frozen? ((at0 rb).add 1) = false ∧ RfRep (w.setCell ((at0 rb).add 1) (.int .i64 e)) rb ⟨st.bs, e⟩ D ∧ Fr (· = rb) w (w.setCell ((at0 rb).add 1) (.int .i64 e)) := by
  obtain ⟨s, a1, a2, a3, a4, a5⟩ := h
  obtain ⟨p1, p2, p3, p4⟩ := set_c a3 1 (by simp) (.int .i64 e)
  exact ⟨p1, p2, ⟨s, a1, a2, p3, a4.fr p4 fun b hb e => a2 (e ▸ a1 b hb), a5⟩, p4⟩
/-- the first k bytes are left behind -/
theorem rf_at {w : World} {rb : Nat} {s : Sl} {bs : List UInt8} {err : Int} {D : List Nat} (a1 : ∀ x ∈ blkL s, x ∈ D) (a2 : rb ∉ D) (a3 : w.heap[rb]? = some (.cells #[s.v, .int .i64 err] ty_enthymemeref02_Reader (0, 0))) (a4 : Bytes w s bs) (a5 : bs.length ≤ 1000000) (k : Nat) (hk : k ≤ bs.length) :
    (w.cell? ((at0 rb).add 0)).isSome = true ∧ w.frozen? ((at0 rb).add 0) = false ∧ RfRep (w.setCell ((at0 rb).add 0) (.slice (if s.c = k then s.a else s.a.map (·.add (k * 1))) (s.n - k) (s.c - k))) rb ⟨bs.drop k, err⟩ D ∧ Fr (· = rb) w (w.setCell ((at0 rb).add 0) (.slice (if s.c = k then s.a else s.a.map (·.add (k * 1))) (s.n - k) (s.c - k))) := by
  obtain ⟨p1, p2, p3, p4⟩ := set_c a3 0 (by simp) (sub s k s.n).v
  have hn := Bytes.len a4
  have hs := Bytes.sub a4 k s.n (by omega) (by omega)
  rw [List.take_of_length_le (by omega)] at hs
  exact ⟨p1, p2, ⟨sub s k s.n, by rw [sub_blk]; exact a1, a2, p3, hs.fr p4 fun b hb e => a2 (e ▸ a1 b (by rw [sub_blk] at hb; exact hb)), by simp; omega⟩, p4⟩

theorem word_add (acc k c : Nat) (hk : k ≤ 9) (ha : acc < 128 ^ k) (hc : c < 256) (h9 : k = 9 → c ≤ 1) :
    IntKind.wrap .u64 ((acc : Int) + (IntKind.wrap .u64 ((IntKind.wrap .u64 (Int.tmod (c : Int) 128)) * ((128 ^ k : Nat) : Int)))) = ((acc + 128 ^ k * (c % 128) : Nat) : Int) := by
  have hp : (128 : Nat) ^ k ≤ 128 ^ 9 := Nat.pow_le_pow_right (by omega) hk
  have e1 : Int.tmod (c : Int) 128 = ((c % 128 : Nat) : Int) := rfl
  have hp0 : 0 < (128 : Nat) ^ k := Nat.pow_pos (by omega)
  have hb : 128 ^ k * (c % 128) ≤ 18446744073709551616 - 128 ^ k := by
    by_cases h : k = 9
    · subst h
      have := h9 rfl
      have : c % 128 ≤ 1 := by omega
      have : 128 ^ 9 * (c % 128) ≤ 128 ^ 9 * 1 := Nat.mul_le_mul_left _ this
      have : acc < 128 ^ 9 := ha
      omega
    · have h1 : (128 : Nat) ^ k ≤ 128 ^ 8 := Nat.pow_le_pow_right (by omega) (by omega)
      have : 128 ^ k * (c % 128) ≤ 128 ^ 8 * 127 := Nat.mul_le_mul h1 (by omega)
      omega
  rw [e1, u64_nat _ (by omega), ← Int.natCast_mul, Nat.mul_comm (c % 128), u64_nat _ (by omega), ← Int.natCast_add, u64_nat _ (by omega)]
set_option maxRecDepth 100000 in
theorem f_uint_loop {rb : Nat} (R : Post) (bs : List UInt8) (s : Sl) (D : List Nat) (a1 : ∀ x ∈ blkL s, x ∈ D) (a2 : rb ∉ D) (a5 : bs.length ≤ 1000000) (w : World) (a3 : w.heap[rb]? = some (.cells #[s.v, .int .i64 0] ty_enthymemeref02_Reader (0, 0))) (a4 : Bytes w s bs) :
    ∀ (d k acc : Nat) (unit : Int), k + d = 9 → acc < 128 ^ k → unit = ((128 ^ k : Nat) : Int) → k ≤ bs.length →
      (match decU k (bs.drop k) with
        | .more => ∀ w', RfRep w' rb ⟨bs, 3⟩ D → Fr (· = rb) w w' → R (.returned (.int .u64 0)) w'
        | .form => ∀ w', RfRep w' rb ⟨bs, 2⟩ D → Fr (· = rb) w w' → R (.returned (.int .u64 0)) w'
        | .ok n r => ∀ w', RfRep w' rb ⟨r, 0⟩ D → Fr (· = rb) w w' → R (.returned (.int .u64 ((acc + 128 ^ k * n : Nat) : Int))) w') →
      enthymemeref02_Reader_Uint.L4 (at0 rb) (acc : Int) unit (k : Int) w R := by
  have hn : s.n = bs.length := Bytes.len a4
  have rep : RfRep w rb ⟨bs, 0⟩ D := ⟨s, a1, a2, a3, a4, a5⟩
  intro d
  induction d using Nat.strongRecOn with
  | _ d ih =>
    intro k acc unit hk ha hu hkl hR
    subst hu
    refine enthymemeref02_Reader_Uint.L4_step _ _ _ _ _ _ ⟨_, rf_c1 a3, sel_true rfl ⟨_, rf_c0 a3, ?_⟩⟩
    refine sel_intro (fun h => ?_) (fun h => ?_)
    · have he : bs.drop k = [] := List.drop_of_length_le (by have := of_decide_eq_true h; omega)
      rw [he] at hR
      simp only [decU] at hR
      obtain ⟨p1, p2, p3, p4⟩ := rf_err rep 3
      exact ⟨p1, p2, hR _ p3 p4⟩
    · have hlt : k < bs.length := by have := of_decide_eq_false h; omega
      have hg : bs[k]? = some bs[k] := List.getElem?_eq_getElem hlt
      rw [List.drop_eq_getElem_cons hlt] at hR
      generalize bs[k] = c at hg hR
      have hc := c.toNat_lt
      refine ⟨_, rf_c0 a3, by omega, by omega, Bytes.cell a4 hg (by rw [Int.toNat_natCast]) fun q _ hq => ⟨_, hq, ?_⟩⟩
      have form : badAt k c = true → enthymemeref02_Reader_Uint.S11 (at0 rb) w R := fun hb => by
        simp only [decU, hb, if_true] at hR
        obtain ⟨p1, p2, p3, p4⟩ := rf_err rep 2
        exact ⟨p1, p2, hR _ p3 p4⟩
      have good : badAt k c = false → enthymemeref02_Reader_Uint.S12 (at0 rb) (acc : Int) ((128 ^ k : Nat) : Int) (k : Int) (c.toNat : Int) w R := fun hb => by
        have hb2 := hb
        unfold badAt at hb2
        simp at hb2
        have e2 := word_add acc k c.toNat (by omega) ha (by omega) (fun h9 => by have := hb2.1 h9; omega)
        unfold enthymemeref02_Reader_Uint.S12
        rw [e2]
        obtain ⟨v, hv⟩ : ∃ v, v = acc + 128 ^ k * (c.toNat % 128) := ⟨_, rfl⟩
        rw [← hv]
        refine sel_intro (fun h => ?_) (fun h => ?_)
        · have h128 : c.toNat < 128 := by have := of_decide_eq_true h; omega
          simp only [decU, hb, h128, if_true] at hR
          obtain ⟨p1, p2, p3, p4⟩ := rf_at a1 a2 a3 a4 a5 (k + 1) (by omega)
          refine ⟨s, rf_c0 a3, ?_⟩
          rw [i64_next k (by omega), Int.toNat_natCast]
          refine ⟨by omega, by omega, p1, p2, ?_⟩
          have := hR _ p3 p4
          rw [Nat.mod_eq_of_lt h128] at hv
          rw [hv]
          exact this
        · have h128 : ¬ c.toNat < 128 := by have := of_decide_eq_false h; omega
          have hk9 : k ≠ 9 := fun h9 => by have := hb2.1 h9; omega
          show enthymemeref02_Reader_Uint.L4 (at0 rb) (v : Int) (IntKind.wrap .u64 (((128 ^ k : Nat) : Int) * 128)) (IntKind.wrap .i64 ((k : Int) + 1)) w R
          rw [i64_next k (by omega)]
          refine ih (d - 1) (by omega) (k + 1) v _ (by omega) ?_ ?_ (by omega) ?_
          · rw [Nat.pow_succ, hv]
            have : 128 ^ k * (c.toNat % 128) ≤ 128 ^ k * 127 := Nat.mul_le_mul_left _ (by omega)
            omega
          · have hp : (128 : Nat) ^ k ≤ 128 ^ 8 := Nat.pow_le_pow_right (by omega) (by omega)
            rw [show ((128 ^ k : Nat) : Int) * 128 = ((128 ^ k * 128 : Nat) : Int) from by rw [Int.natCast_mul]; rfl, u64_nat _ (by omega), Nat.pow_succ]
          · simp only [decU, hb, h128, if_false] at hR
            cases hd : decU (k + 1) (bs.drop (k + 1)) with
            | more => rw [hd] at hR; exact hR
            | form => rw [hd] at hR; exact hR
            | ok n r =>
              rw [hd] at hR
              intro w' a b
              have := hR w' a b
              have e : acc + 128 ^ k * (c.toNat % 128) + 128 ^ (k + 1) * n = acc + 128 ^ k * (c.toNat % 128 + 128 * n) := by
                rw [Nat.pow_succ, Nat.mul_add, Nat.mul_assoc]; omega
              rw [hv, e]; exact this
      have bad9 : 1 < c.toNat → k = 9 → badAt k c = true := fun hx hy => by unfold badAt; rw [decide_eq_true hx]; simp [hy]
      have bad0 : c.toNat = 0 → 0 < k → badAt k c = true := fun h h' => by unfold badAt; rw [h, decide_eq_true h']; simp
      have ok0 : (k = 9 → ¬ 1 < c.toNat) → (0 < k → c.toNat ≠ 0) → badAt k c = false := fun h h' => by
        cases hb : badAt k c with
        | false => rfl
        | true =>
          unfold badAt at hb
          rw [Bool.or_eq_true, Bool.and_eq_true, Bool.and_eq_true] at hb
          rcases hb with ⟨h3, h4⟩ | ⟨h3, h4⟩
          · exact absurd (of_decide_eq_true h4) (h (eq_of_beq h3))
          · exact absurd (eq_of_beq h4) (h' (of_decide_eq_true h3))
      refine sel_intro (fun h9 => ?_) (fun h9 => ?_)
      · have h9' : k = 9 := by have := eq_of_beq h9; omega
        refine sel_intro (fun h => form (bad9 (by have := of_decide_eq_true h; omega) h9')) (fun h => ?_)
        have hn1 := of_decide_eq_false h
        refine sel_true (decide_eq_true (by omega)) (sel_intro (fun h0 => form (bad0 (by have := eq_of_beq h0; omega) (by omega))) (fun h0 => good (ok0 (fun _ => by omega) (fun _ e => by rw [e] at h0; simp at h0))))
      · have h9' : k ≠ 9 := fun e => by rw [e] at h9; simp at h9
        refine sel_intro (fun h => sel_intro (fun h0 => form (bad0 (by have := eq_of_beq h0; omega) (by have := of_decide_eq_true h; omega))) (fun h0 => good (ok0 (fun e => absurd e h9') (fun _ e => by rw [e] at h0; simp at h0)))) (fun h => good (ok0 (fun e => absurd e h9') (fun hk0 => by have := of_decide_eq_false h; omega)))
theorem f_uint {w : World} {rb : Nat} {st : RS} {D : List Nat} (h : RfRep w rb st D) :
    Calls Try.prog n_enthymemeref02_Reader_Uint #[.pointer (some (at0 rb))] w (RfPost w rb D (.int .u64 ((rdU st).1 : Int)) (rdU st).2) := by
  have hrep := h
  obtain ⟨s, a1, a2, a3, a4, a5⟩ := h
  refine enthymemeref02_Reader_Uint.ok _ w _ ?_
  by_cases he : st.err ≠ 0
  · unfold rdU
    rw [if_pos he]
    exact enthymemeref02_Reader_Uint.L4_step _ _ _ _ _ _ ⟨_, rf_c1 a3, sel_false (by simpa using he) ⟨rfl, hrep, Fr.refl _ _⟩⟩
  · have he' : st.err = 0 := by simpa using he
    refine f_uint_loop _ st.bs s D a1 a2 a5 w (by rw [he'] at a3; exact a3) a4 9 0 0 1 rfl (by simp) rfl (by omega) ?_
    unfold rdU
    rw [if_neg he, List.drop_zero]
    cases hd : decU 0 st.bs with
    | more => exact fun w' a b => ⟨rfl, a, b⟩
    | form => exact fun w' a b => ⟨rfl, a, b⟩
    | ok n r =>
      intro w' a b
      refine ⟨?_, a, b⟩
      simp
theorem f_back (u : Nat) (h : u < 18446744073709551616) (w : World) : Calls Try.prog n_enthymemeref02_Back #[.int .u64 (u : Int)] w fun r w' => r = .returned (.int .i64 (unzz u)) ∧ w = w' := by
  refine enthymemeref02_Back.ok _ w _ (sel_intro (fun hh => ?_) (fun hh => ?_))
  · have e : u % 2 = 1 := by
      have := eq_of_beq hh
      rw [IntWalk.rem_in _ _ (by omega)] at this
      omega
    refine ⟨?_, rfl⟩
    unfold unzz
    rw [if_neg (by omega), IntWalk.u64_quo _ _ (by omega), show ((u : Int) / 2) = ((u / 2 : Nat) : Int) from rfl, IntWalk.i64_in ((u / 2 : Nat) : Int) (by omega), IntWalk.i64_in (0 - ((u / 2 : Nat) : Int)) (by omega), IntWalk.i64_in _ (by omega)]
    congr 2
    omega
  · have e : u % 2 = 0 := by
      have : ¬ Int.tmod (u : Int) 2 = 1 := by simpa using hh
      rw [IntWalk.rem_in _ _ (by omega)] at this
      omega
    refine ⟨?_, rfl⟩
    unfold unzz
    rw [if_pos e, IntWalk.u64_quo _ _ (by omega), show ((u : Int) / 2) = ((u / 2 : Nat) : Int) from rfl, IntWalk.i64_in _ (by omega)]
theorem f_int {w : World} {rb : Nat} {st : RS} {D : List Nat} (h : RfRep w rb st D) :
    Calls Try.prog n_enthymemeref02_Reader_Int #[.pointer (some (at0 rb))] w (RfPost w rb D (.int .i64 (rdI st).1) (rdI st).2) := by
  refine enthymemeref02_Reader_Int.ok _ w _ ((f_uint h).mono ?_)
  rintro r w1 ⟨rfl, h1⟩
  refine ⟨_, rfl, (f_back _ (rdU_lt st) w1).mono ?_⟩
  rintro r w2 ⟨rfl, rfl⟩
  exact ⟨_, rfl, rfl, h1⟩
theorem f_end {w : World} {rb : Nat} {st : RS} {D : List Nat} (h : RfRep w rb st D) :
    Calls Try.prog n_enthymemeref02_Reader_End #[.pointer (some (at0 rb))] w fun r w' => r = .returned (.int .i64 (rdEnd st)) ∧ w = w' := by
  obtain ⟨s, a1, a2, a3, a4, a5⟩ := h
  have hn : s.n = st.bs.length := Bytes.len a4
  refine enthymemeref02_Reader_End.ok _ w _ ⟨_, rf_c1 a3, ?_⟩
  unfold rdEnd
  refine sel_intro (fun he => ?_) (fun he => ?_)
  · have he' : st.err = 0 := by simpa using he
    rw [if_neg (by simp [he'])]
    refine ⟨_, rf_c0 a3, sel_intro (fun hl => ?_) (fun hl => ?_)⟩
    · have := of_decide_eq_true hl
      rw [if_pos (by omega)]; exact ⟨rfl, rfl⟩
    · have := of_decide_eq_false hl
      rw [if_neg (by omega)]; exact ⟨_, rf_c1 a3, by rw [he'], rfl⟩
  · have he' : st.err ≠ 0 := by simpa using he
    rw [if_pos he']
    exact ⟨_, rf_c1 a3, rfl, rfl⟩
theorem f_length {w : World} {rb : Nat} {st : RS} {D : List Nat} (h : RfRep w rb st D) :
    Calls Try.prog n_enthymemeref02_Reader_length #[.pointer (some (at0 rb))] w (RfPost w rb D (.int .i64 ((rdLen st).1 : Int)) (rdLen st).2) := by
  refine enthymemeref02_Reader_length.ok _ w _ ((f_uint h).mono ?_)
  rintro r w1 ⟨rfl, h1, f1⟩
  refine ⟨_, rfl, _, rf_e h1, ?_⟩
  unfold rdLen
  generalize hq : rdU st = q at *
  obtain ⟨n, st1⟩ := q
  have hsm := h1.small
  simp only at *
  refine sel_intro (fun he => ?_) (fun he => ?_)
  · have he' : st1.err = 0 := by simpa using he
    simp only [if_neg (show ¬ st1.err ≠ 0 by simp [he'])]
    obtain ⟨s, a1, a2, a3, a4, a5⟩ := id h1
    have hn : s.n = st1.bs.length := Bytes.len a4
    refine ⟨_, rf_c0 a3, ?_⟩
    rw [hn, u64_nat _ (by omega)]
    refine sel_intro (fun hl => ?_) (fun hl => ?_)
    · have hl' := of_decide_eq_true hl
      simp only [if_pos (show st1.bs.length < n by omega)]
      obtain ⟨p1, p2, p3, p4⟩ := rf_err h1 3
      exact ⟨p1, p2, _, rf_e p3, sel_true (by simp) ⟨rfl, p3, f1.trans p4 fun _ _ h => h⟩⟩
    · have hl' := of_decide_eq_false hl
      simp only [if_neg (show ¬ st1.bs.length < n by omega)]
      refine ⟨_, rf_e h1, sel_false (by simp [he']) ⟨?_, h1, f1⟩⟩
      rw [IntWalk.i64_in _ (by omega)]
  · have he' : st1.err ≠ 0 := by simpa using he
    simp only [if_pos he']
    exact ⟨_, rf_e h1, sel_true (by simpa using he') ⟨rfl, h1, f1⟩⟩
theorem f_raw {w : World} {rb : Nat} {st : RS} {D : List Nat} (h : RfRep w rb st D) :
    Calls Try.prog n_enthymemeref02_Reader_Raw #[.pointer (some (at0 rb))] w fun r w' => ∃ t : Sl, r = .returned t.v ∧ Bytes w' t (rdRaw st).1 ∧ (∀ x ∈ blkL t, x ∈ D) ∧ RfRep w' rb (rdRaw st).2 D ∧ Fr (· = rb) w w' := by
  refine enthymemeref02_Reader_Raw.ok _ w _ ((f_length h).mono ?_)
  rintro r w1 ⟨rfl, h1, f1⟩
  refine ⟨_, rfl, _, rf_e h1, ?_⟩
  unfold rdRaw
  have hle := rdLen_back (st := st)
  generalize hq : rdLen st = q at *
  obtain ⟨n, st1⟩ := q
  simp only at *
  refine sel_intro (fun he => ?_) (fun he => ?_)
  · have he' : st1.err ≠ 0 := by simpa using he
    simp only [if_pos he']
    exact ⟨⟨none, 0, 0⟩, rfl, Rd.nil _, by simp [blkL], h1, f1⟩
  · have he' : st1.err = 0 := by simpa using he
    simp only [if_neg (show ¬ st1.err ≠ 0 by simp [he'])]
    have hnl := (hle he').2.2
    obtain ⟨s, a1, a2, a3, a4, a5⟩ := h1
    have hn : s.n = st1.bs.length := Bytes.len a4
    have hc := a4.2.1
    obtain ⟨p1, p2, p3, p4⟩ := rf_at a1 a2 a3 a4 a5 n hnl
    have hs := Bytes.sub a4 0 n (by omega) hnl
    rw [List.drop_zero] at hs
    rw [he'] at p3
    refine ⟨s, rf_c0 a3, by omega, by omega, s, rf_c0 a3, ?_⟩
    rw [Int.toNat_natCast]
    refine ⟨by omega, by omega, p1, p2, sub s 0 n, rfl, hs.fr p4 fun b hb e => a2 (e ▸ a1 b (by rw [sub_blk] at hb; exact hb)), by rw [sub_blk]; exact a1, p3, f1.trans p4 fun _ _ h => h⟩
end Go.Proofs.Ytpfomlenbhocpaa

/- Package wire: what a Reader holds, and the contracts of its methods. -/
import Derived.Test.YtjjhfdjpmonlaaaWR
namespace Go.Proofs.Ytjjhfdjpmonlaaa
open Go Go.W

/-- a reader: its bytes, its place, its error; fp: its blocks -/
def RdRep (w : World) (rb : Nat) (st : RS) (fp : List Nat) : Prop :=
  ∃ (s : Sl) (all : List UInt8) (k : Nat), fp = rb :: blkL s ∧ w.heap[rb]? = some (.cells #[s.v, .int .i64 (k : Int), .int .i64 st.err] ty_wire_Reader (0, 0)) ∧ BytesO w s all ∧ k ≤ all.length ∧ all.drop k = st.bs ∧ all.length ≤ 1000000000000
theorem RdRep.lt {w : World} {rb : Nat} {st : RS} {fp : List Nat} (h : RdRep w rb st fp) : ∀ b ∈ fp, b < w.heap.size := by
  obtain ⟨s, all, k, rfl, h1, h2, _⟩ := h
  intro b hb
  rcases List.mem_cons.1 hb with rfl | hb
  · exact lt_of_heap h1
  · exact h2.lt b hb
theorem RdRep.fr {M : Nat → Prop} {w w' : World} {rb : Nat} {st : RS} {fp : List Nat} (h : RdRep w rb st fp) (hf : Fr M w w') (hn : ∀ b ∈ fp, ¬ M b) : RdRep w' rb st fp := by
  obtain ⟨s, all, k, rfl, h1, h2, h3⟩ := h
  exact ⟨s, all, k, rfl, hf.at h1 (hn _ (by simp)), h2.fr hf fun b hb => hn b (by simp [hb]), h3⟩
theorem RdRep.fr0 {w w' : World} {rb : Nat} {st : RS} {fp : List Nat} (h : RdRep w rb st fp) (hf : Fr0 w w') : RdRep w' rb st fp := h.fr hf fun _ _ h => h
theorem RdRep.mem {w : World} {rb : Nat} {st : RS} {fp : List Nat} (h : RdRep w rb st fp) : rb ∈ fp := by obtain ⟨s, all, k, rfl, _⟩ := h; simp
theorem RdRep.small {w : World} {rb : Nat} {st : RS} {fp : List Nat} (h : RdRep w rb st fp) : st.bs.length ≤ 1000000000000 := by
  obtain ⟨s, all, k, rfl, _, _, _, h4, h5⟩ := h
  rw [← h4]; simp; omega
/-- after a method with a plain result -/
def RdPost (w : World) (rb : Nat) (fp : List Nat) (v : Value) (st : RS) : Post := fun r w' => r = .returned v ∧ RdRep w' rb st fp ∧ Fr (· = rb) w w'

/-- a store of the error or of the place -/
theorem rd_err {w : World} {rb : Nat} {s : Sl} {k : Nat} {e : Int} {all : List UInt8} (h1 : w.heap[rb]? = some (.cells #[s.v, .int .i64 (k : Int), .int .i64 e] ty_wire_Reader (0, 0))) (h2 : BytesO w s all) (h3 : k ≤ all.length) (h5 : all.length ≤ 1000000000000) (e' : Int) :
    (w.cell? ((at0 rb).add 2)).isSome = true ∧ w.frozen? ((at0 rb).add 2) = false ∧ RdRep (w.setCell ((at0 rb).add 2) (.int .i64 e')) rb ⟨all.drop k, e'⟩ (rb :: blkL s) ∧ Fr (· = rb) w (w.setCell ((at0 rb).add 2) (.int .i64 e')) := by
  have hne : rb ∉ blkL s := ow_ne h2 h1 (by decide)
  have f : Fr (· = rb) w (w.setCell ((at0 rb).add 2) (.int .i64 e')) := Fr.set _ _ _ rfl
  exact ⟨by rw [cellAt (p := at0 rb) h1 rfl rfl]; rfl, frozenAt (p := at0 rb) h1, ⟨s, all, k, rfl, setAt (p := at0 rb) (i := 2) h1 rfl, h2.fr f fun b hb e => hne (e ▸ hb), h3, rfl, h5⟩, f⟩
theorem rd_at {w : World} {rb : Nat} {s : Sl} {k : Nat} {e : Int} {all : List UInt8} (h1 : w.heap[rb]? = some (.cells #[s.v, .int .i64 (k : Int), .int .i64 e] ty_wire_Reader (0, 0))) (h2 : BytesO w s all) (h5 : all.length ≤ 1000000000000) (k' : Nat) (h3 : k' ≤ all.length) (x : Int) (hx : x = k') :
    (w.cell? ((at0 rb).add 1)).isSome = true ∧ w.frozen? ((at0 rb).add 1) = false ∧ RdRep (w.setCell ((at0 rb).add 1) (.int .i64 x)) rb ⟨all.drop k', e⟩ (rb :: blkL s) ∧ Fr (· = rb) w (w.setCell ((at0 rb).add 1) (.int .i64 x)) := by
  subst hx
  have hne : rb ∉ blkL s := ow_ne h2 h1 (by decide)
  have f : Fr (· = rb) w (w.setCell ((at0 rb).add 1) (.int .i64 (k' : Int))) := Fr.set _ _ _ rfl
  exact ⟨by rw [cellAt (p := at0 rb) h1 rfl rfl]; rfl, frozenAt (p := at0 rb) h1, ⟨s, all, k', rfl, setAt (p := at0 rb) (i := 1) h1 rfl, h2.fr f fun b hb e => hne (e ▸ hb), h3, rfl, h5⟩, f⟩
theorem rd_c0 {w : World} {rb : Nat} {s : Sl} {x y : Value} (h : w.heap[rb]? = some (.cells #[s.v, x, y] ty_wire_Reader (0, 0))) : w.cell? ((at0 rb).add 0) = some s.v := cellAt (p := at0 rb) h rfl rfl
theorem rd_c1 {w : World} {rb : Nat} {s : Sl} {x y : Value} (h : w.heap[rb]? = some (.cells #[s.v, x, y] ty_wire_Reader (0, 0))) : w.cell? ((at0 rb).add 1) = some x := cellAt (p := at0 rb) h rfl rfl
theorem rd_c2 {w : World} {rb : Nat} {s : Sl} {x y : Value} (h : w.heap[rb]? = some (.cells #[s.v, x, y] ty_wire_Reader (0, 0))) : w.cell? ((at0 rb).add 2) = some y := cellAt (p := at0 rb) h rfl rfl

/-! ### Uint -/
theorem word_or (acc k c : Nat) (hk : k ≤ 9) (ha : acc < 128 ^ k) (hc : c < 128) (h9 : k = 9 → c ≤ 1) :
    ¬ (IntKind.wrap .i64 (7 * (k : Int))) < 0 ∧ W.bOr .u64 (acc : Int) (IntKind.wrap .u64 ((IntKind.wrap .u64 ((c : Nat) : Int)) * 2 ^ (min (Int.toNat (IntKind.wrap .i64 (7 * (k : Int)))) (IntKind.bits .u64)))) = ((acc + 128 ^ k * c : Nat) : Int) := by
  have e1 : IntKind.wrap .i64 (7 * (k : Int)) = ((7 * k : Nat) : Int) := by rw [IntWalk.i64_in _ (by omega)]; omega
  rw [e1]
  refine ⟨by omega, ?_⟩
  have e2 : min (Int.toNat ((7 * k : Nat) : Int)) (IntKind.bits .u64) = 7 * k := by
    rw [Int.toNat_natCast]
    show min (7 * k) 64 = 7 * k
    omega
  rw [e2, u64_nat c (by omega)]
  have e3 : (c : Int) * 2 ^ (7 * k) = ((c * 2 ^ (7 * k) : Nat) : Int) := by
    rw [Int.natCast_mul, Int.natCast_pow]; rfl
  have hp : (2 : Nat) ^ (7 * k) = 128 ^ k := by rw [Nat.pow_mul]
  have hb : c * 2 ^ (7 * k) < 18446744073709551616 := by
    by_cases h : k = 9
    · subst h
      have := h9 rfl
      have : c * 2 ^ (7 * 9) ≤ 1 * 2 ^ (7 * 9) := Nat.mul_le_mul_right _ this
      omega
    · have h1 : (2 : Nat) ^ (7 * k) ≤ 2 ^ 56 := Nat.pow_le_pow_right (by omega) (by omega)
      have : c * 2 ^ (7 * k) ≤ 127 * 2 ^ 56 := Nat.mul_le_mul (by omega) h1
      omega
  have ha2 : acc < 18446744073709551616 := by
    have h1 : (128 : Nat) ^ k ≤ 128 ^ 9 := Nat.pow_le_pow_right (by omega) (by omega)
    omega
  rw [e3, u64_nat _ hb, bOr_nat _ _ ha2 hb, or_add acc c (7 * k) (by rw [hp]; exact ha), hp, Nat.mul_comm c]
set_option maxRecDepth 100000 in
theorem r_uint_loop {rb : Nat} (R : Post) (all : List UInt8) (p : Nat) (hp : p ≤ all.length) (hall : all.length ≤ 1000000000000) (s : Sl) :
    ∀ (d k acc : Nat) (w : World), k + d = 9 → acc < 128 ^ k → p + k ≤ all.length → w.heap[rb]? = some (.cells #[s.v, .int .i64 (p : Int), .int .i64 0] ty_wire_Reader (0, 0)) → BytesO w s all →
      (match decU k ((all.drop p).drop k) with
        | .more => ∀ w', RdRep w' rb ⟨all.drop p, 3⟩ (rb :: blkL s) → Fr (· = rb) w w' → R (.returned (.int .u64 0)) w'
        | .form => ∀ w', RdRep w' rb ⟨all.drop p, 2⟩ (rb :: blkL s) → Fr (· = rb) w w' → R (.returned (.int .u64 0)) w'
        | .ok n r => ∀ w', RdRep w' rb ⟨r, 0⟩ (rb :: blkL s) → Fr (· = rb) w w' → R (.returned (.int .u64 ((acc + 128 ^ k * n : Nat) : Int))) w') →
      wire_Reader_Uint.L5 (at0 rb) (acc : Int) (k : Int) w R := by
  intro d
  induction d using Nat.strongRecOn with
  | _ d ih =>
    intro k acc w hk ha hpk h1 h2 hR
    refine wire_Reader_Uint.L5_step _ _ _ _ _ ?_
    have hn : s.n = all.length := by simpa using h2.1
    have ew : IntKind.wrap .i64 ((p : Int) + (k : Int)) = ((p + k : Nat) : Int) := by rw [IntWalk.i64_in _ (by omega)]; omega
    have fd : Fr0 w w.drew := Fr.drew _ w
    have fdd : Fr0 w w.drew.drew := fd.tr0 (Fr.drew _ _)
    have h1d := fd.at h1 id
    have h1dd := fdd.at h1 id
    refine ⟨_, rd_c1 h1d, _, rd_c0 h1d, ?_⟩
    rw [ew, hn]
    rw [List.drop_drop] at hR
    refine sel_intro (fun h => ?_) (fun h => ?_)
    · have he : all.drop (p + k) = [] := List.drop_of_length_le (by simp at h; omega)
      rw [he] at hR
      simp only [decU] at hR
      obtain ⟨a1, a2, a3, a4⟩ := rd_err h1d (h2.fr0 fd) hp hall 3
      exact ⟨a1, a2, hR _ a3 ((fd.of0).trans a4 fun _ _ h => h)⟩
    · have hlt : p + k < all.length := by simp at h; omega
      have hg : all[p + k]? = some all[p + k] := List.getElem?_eq_getElem hlt
      rw [List.drop_eq_getElem_cons hlt] at hR
      generalize all[p + k] = c at hg hR
      have hc := c.toNat_lt
      have hfr : ∀ w', Fr (· = rb) w.drew.drew w' → Fr (· = rb) w w' := fun w' f => fdd.of0.trans f fun _ _ h => h
      refine ⟨_, rd_c0 h1dd, _, rd_c1 h1dd, ?_⟩
      rw [ew]
      refine ⟨by omega, by rw [hn]; omega, Bytes.cell (h2.fr0 fdd).rd hg (by rw [Int.toNat_natCast]) fun q _ hq => ⟨_, hq, ?_⟩⟩
      have form : badAt k c = true → wire_Reader_Uint.S11 (at0 rb) w.drew.drew R := fun hb => by
        simp only [decU, hb, if_true] at hR
        obtain ⟨a1, a2, a3, a4⟩ := rd_err h1dd (h2.fr0 fdd) hp hall 2
        exact ⟨a1, a2, hR _ a3 (hfr _ a4)⟩
      have good : badAt k c = false → wire_Reader_Uint.S13 (at0 rb) (acc : Int) (k : Int) (c.toNat : Int) w.drew.drew R := fun hb => by
        have hb2 := hb
        unfold badAt at hb2
        simp at hb2
        obtain ⟨e1, e2⟩ := word_or acc k (c.toNat % 128) (by omega) ha (by omega) (fun h9 => by have := hb2.1 h9; omega)
        unfold wire_Reader_Uint.S13
        rw [bAnd_u8_127 c]
        refine And.intro e1 ?_
        rw [e2]
        obtain ⟨v, hv⟩ : ∃ v, v = acc + 128 ^ k * (c.toNat % 128) := ⟨_, rfl⟩
        rw [← hv]
        refine sel_intro (fun h => ?_) (fun h => ?_)
        · have h128 : c.toNat < 128 := by simp at h; omega
          simp only [decU, hb, h128, if_true] at hR
          obtain ⟨a1, a2, a3, a4⟩ := rd_at h1dd (h2.fr0 fdd) hall (p + k + 1) (by omega) (IntKind.wrap .i64 ((p : Int) + (IntKind.wrap .i64 ((k : Int) + 1)))) (by rw [IntWalk.i64_in ((k : Int) + 1) (by omega), IntWalk.i64_in _ (by omega)]; omega)
          refine ⟨_, rd_c1 h1dd, a1, a2, ?_⟩
          have := hR _ a3 (hfr _ a4)
          rw [Nat.mod_eq_of_lt h128] at hv
          rw [hv]
          exact this
        · have h128 : ¬ c.toNat < 128 := by simp at h; omega
          show wire_Reader_Uint.L5 (at0 rb) _ (IntKind.wrap .i64 ((k : Int) + 1)) w.drew.drew R
          rw [i64_next k (by omega)]
          have hk9 : k ≠ 9 := fun h9 => by have := hb2.1 h9; omega
          refine ih (d - 1) (by omega) (k + 1) _ w.drew.drew (by omega) ?_ (by omega) h1dd (h2.fr0 fdd) ?_
          · rw [Nat.pow_succ, hv]
            have : 128 ^ k * (c.toNat % 128) ≤ 128 ^ k * 127 := Nat.mul_le_mul_left _ (by omega)
            omega
          · rw [List.drop_drop, ← Nat.add_assoc]
            simp only [decU, hb, h128, if_false] at hR
            cases hd : decU (k + 1) (all.drop (p + k + 1)) with
            | more => rw [hd] at hR; exact fun w' a b => hR w' a (hfr _ b)
            | form => rw [hd] at hR; exact fun w' a b => hR w' a (hfr _ b)
            | ok n r =>
              rw [hd] at hR
              intro w' a b
              have := hR w' a (hfr _ b)
              have e : acc + 128 ^ k * (c.toNat % 128) + 128 ^ (k + 1) * n = acc + 128 ^ k * (c.toNat % 128 + 128 * n) := by
                rw [Nat.pow_succ, Nat.mul_add, Nat.mul_assoc]; omega
              rw [hv, e]; exact this
      have bad9 : 1 < c.toNat → k = 9 → badAt k c = true := fun hx hy => by unfold badAt; rw [decide_eq_true hx]; simp [hy]
      have bad0 : c.toNat = 0 → 0 < k → badAt k c = true := fun h h' => by unfold badAt; rw [h, decide_eq_true h']; simp
      have ok0 : (k = 9 → ¬ 1 < c.toNat) → (0 < k → c.toNat ≠ 0) → badAt k c = false := fun h h' => by
        cases hb : badAt k c with
        | false => rfl
        | true =>
          unfold badAt at hb
          rw [Bool.or_eq_true, Bool.and_eq_true, Bool.and_eq_true] at hb
          rcases hb with ⟨h3, h4⟩ | ⟨h3, h4⟩
          · exact absurd (of_decide_eq_true h4) (h (eq_of_beq h3))
          · exact absurd (eq_of_beq h4) (h' (of_decide_eq_true h3))
      refine sel_intro (fun h9 => ?_) (fun h9 => ?_)
      · have h9' : k = 9 := by have := eq_of_beq h9; omega
        refine sel_intro (fun h => form (bad9 (by have := of_decide_eq_true h; omega) h9')) (fun h => ?_)
        have hn1 := of_decide_eq_false h
        refine sel_true (decide_eq_true (by omega)) (sel_intro (fun h0 => form (bad0 (by have := eq_of_beq h0; omega) (by omega))) (fun h0 => good (ok0 (fun _ => by omega) (fun _ e => by rw [e] at h0; simp at h0))))
      · have h9' : k ≠ 9 := fun e => by rw [e] at h9; simp at h9
        refine sel_intro (fun h => sel_intro (fun h0 => form (bad0 (by have := eq_of_beq h0; omega) (by have := of_decide_eq_true h; omega))) (fun h0 => good (ok0 (fun e => absurd e h9') (fun _ e => by rw [e] at h0; simp at h0)))) (fun h => good (ok0 (fun e => absurd e h9') (fun hk0 => by have := of_decide_eq_false h; omega)))
theorem r_uint {w : World} {rb : Nat} {st : RS} {fp : List Nat} (h : RdRep w rb st fp) :
    Calls Try.prog n_wire_Reader_Uint #[.pointer (some (at0 rb))] w (RdPost w rb fp (.int .u64 ((rdU st).1 : Int)) (rdU st).2) := by
  have hrep := h
  obtain ⟨s, all, k, rfl, h1, h2, h3, h4, h5⟩ := h
  refine wire_Reader_Uint.ok _ w _ ?_
  refine ⟨_, rd_c2 h1, sel_intro (fun he => ?_) (fun he => ?_)⟩
  · have he' : st.err ≠ 0 := by simpa using he
    unfold rdU
    rw [if_pos he']
    exact ⟨rfl, hrep, Fr.refl _ _⟩
  · have he' : st.err = 0 := by simpa using he
    refine r_uint_loop _ all k h3 h5 s 9 0 0 w rfl (by simp) (by omega) (by rw [he'] at h1; exact h1) h2 ?_
    unfold rdU
    rw [if_neg (by simp [he']), List.drop_zero, h4]
    cases hd : decU 0 st.bs with
    | more => exact fun w' a b => ⟨rfl, a, b⟩
    | form => exact fun w' a b => ⟨rfl, a, b⟩
    | ok n r =>
      intro w' a b
      refine ⟨?_, a, b⟩
      simp
end Go.Proofs.Ytjjhfdjpmonlaaa

/- enthymemelaw02.WireHash returns true for every input and writes nothing that was there before. -/
import Derived.Test.YtjmnpdacalbpkaaWM
import Derived.Test.YtjmnpdacalbpkaaHL
import Derived.Test.YtjmnpdacalbpkaaVL
namespace Go.Proofs.Ytjmnpdacalbpkaa
open Go Go.W
namespace Has
theorem short_any (t : ByteArray) (m : Nat) (w : World) : Calls Try.prog n_enthymemeref01_Short #[.string t, .int .i64 (m : Int)] w fun r w' => ∃ u : ByteArray, r = .returned (.string u) ∧ u.size ≤ m ∧ w = w' := by
  refine enthymemeref01_Short.ok _ _ w _ (sel_intro (fun h => ?_) (fun h => ?_))
  · have := of_decide_eq_true h
    refine ⟨by omega, by omega, _, rfl, ?_, rfl⟩
    rw [Int.toNat_natCast, ByteArray.size_extract]
    omega
  · have := of_decide_eq_false h
    exact ⟨_, rfl, by omega, rfl⟩
theorem len8 : ∀ (d n : Nat), n < 128 ^ (d + 1) → (encU n).length ≤ d + 1
  | 0, n, h => by rw [encU_small (by simpa using h)]; simp
  | d + 1, n, h => by
    by_cases hn : n < 128
    · rw [encU_small hn]; simp
    · rw [encU_large hn]
      have := len8 d (n / 128) (by rw [Nat.pow_succ] at h; omega)
      simp; omega
theorem encU_inj {m n : Nat} (hm : m < 18446744073709551616) (hn : n < 18446744073709551616) (h : encU m = encU n) : m = n := by
  have h1 := rdU_enc m hm []
  have h2 := rdU_enc n hn []
  rw [h] at h1
  rw [h1] at h2
  exact (Prod.mk.inj h2).1
theorem walk (a b shift : Int) (label : ByteArray) (w : World) (ha : U64 a) (hb : U64 b) (hs : I64 shift) (_ : label.size ≤ maxLen) :
    Calls Try.prog n_enthymemelaw02_WireHash #[.int .u64 a, .int .u64 b, .int .i64 shift, .string label] w fun r w' => r = .returned (.bool true) ∧ Fr0 w w' := by
  refine enthymemelaw02_WireHash.ok _ _ _ _ w _ ((around_any shift 56 w (by omega) hs).mono ?_)
  rintro r w1 ⟨rfl, rfl⟩
  have hr := aroundI_range shift 56 (by omega)
  generalize aroundI shift 56 = k0 at hr
  obtain ⟨k, rfl⟩ := Int.eq_ofNat_of_zero_le hr.1
  obtain ⟨x, rfl⟩ := Int.eq_ofNat_of_zero_le ha.1
  obtain ⟨y, rfl⟩ := Int.eq_ofNat_of_zero_le hb.1
  refine ⟨_, rfl, ?_⟩
  have ek : IntKind.wrap .u64 (IntKind.wrap .i64 (8 + (k : Int))) = ((8 + k : Nat) : Int) := by rw [IntWalk.i64_in _ (by omega), IntWalk.u64_in _ (by omega)]; omega
  rw [ek]
  refine ⟨by omega, by omega, ?_⟩
  have sh : ∀ z : Nat, z ≤ 18446744073709551615 → ∃ m : Nat, Int.fdiv (z : Int) (2 ^ (min (Int.toNat ((8 + k : Nat) : Int)) (IntKind.bits .u64))) = (m : Int) ∧ m < 72057594037927936 := fun z hz => by
    rw [Int.toNat_natCast, show min (8 + k) (IntKind.bits .u64) = 8 + k from by show min (8 + k) 64 = 8 + k; omega, show ((2 : Int) ^ (8 + k)) = ((2 ^ (8 + k) : Nat) : Int) from by rw [Int.natCast_pow]; rfl, fdiv_nat z _ (Nat.pow_pos (by omega))]
    refine ⟨_, rfl, ?_⟩
    have h1 : (2 : Nat) ^ 8 ≤ 2 ^ (8 + k) := Nat.pow_le_pow_right (by omega) (by omega)
    have h2 : z / 2 ^ (8 + k) ≤ z / 2 ^ 8 := Nat.div_le_div_left h1 (by omega)
    omega
  obtain ⟨m, em, hm⟩ := sh x (by have := ha.2; omega)
  obtain ⟨n, en, hn⟩ := sh y (by have := hb.2; omega)
  rw [em, en]
  have lm := len8 7 m (by simpa using hm)
  have ln := len8 7 n (by simpa using hn)
  unfold enthymemelaw02_WireHash.S4
  intro w1
  have f1 : Fr0 w w1 := Fr.alloc _ _ _
  have n1 : ∀ z ∈ [w.heap.size], w.heap.size ≤ z := by simp
  refine (w_uint (WrRep.new w) m (by omega) (by simp)).mono ?_
  rintro r w2 ⟨rfl, own2, r2, g2, o2⟩
  have f2 := fr_own f1 n1 g2
  have n2 := new_own f1 n1 o2
  refine ⟨rfl, ?_⟩
  unfold enthymemelaw02_WireHash.S6
  intro w3
  have a3 : Fr0 w2 w3 := Fr.alloc _ _ _
  have f3 : Fr0 w w3 := f2.tr0 a3
  have d3 : ∀ z ∈ [w2.heap.size], w2.heap.size ≤ z := by simp
  have m3 : ∀ z ∈ [w2.heap.size], w.heap.size ≤ z := by have := f2.size; simp; omega
  refine (w_uint (WrRep.new w2) n (by omega) (by simp)).mono ?_
  rintro r w4 ⟨rfl, own4, r4, g4, o4⟩
  have f4 := fr_own f3 m3 g4
  have lt2 := r2.lt
  have q4 := (r2.fr0 a3).fr g4 fun z hz hm => by have := d3 z hm; have := lt2 z hz; omega
  rw [List.nil_append] at q4 r4
  refine ⟨rfl, (w_done q4 (by omega)).mono ?_⟩
  rintro r w5 ⟨p, rfl, p5, f5, _⟩
  refine ⟨p, rfl, (w_done (r4.fr0 f5) (by omega)).mono ?_⟩
  rintro r w6 ⟨q, rfl, q6, f6, _⟩
  have p6 := p5.fr0 f6
  have F6 : Fr0 w w6 := f4.tr0 (f5.tr0 f6)
  have hpn := Bytes.len p6.rd
  have hqn := Bytes.len q6.rd
  refine ⟨q, rfl, (short_any label 20 w6).mono ?_⟩
  rintro r w7 ⟨t, rfl, ht, rfl⟩
  refine ⟨t, rfl, ?_⟩
  have far : (encU m).length ≠ (encU n).length → enthymemelaw02_WireHash.S12 (m : Int) (n : Int) p w6 fun r w' => r = .returned (.bool true) ∧ Fr0 w w' := fun hne => by
    have hmn : m ≠ n := fun e => hne (by rw [e])
    refine sel_true (decide_eq_true (by omega)) (sel_true (by simp; omega) ((lives_any w6).mono ?_))
    rintro r w7 ⟨rfl, f7⟩
    exact ⟨_, rfl, rfl, F6.tr0 f7⟩
  refine sel_intro (fun h => far ?_) (fun h => sel_false (decide_eq_false (by omega)) ?_)
  · have : ¬ ((p.n : Nat) : Int) = ((q.n : Nat) : Int) := by simpa using h
    omega
  · have hl : (encU m).length = (encU n).length := by
      have : ((p.n : Nat) : Int) = ((q.n : Nat) : Int) := by simpa using h
      omega
    refine (h_bytes t p6.rd p6.lt (by omega) (by omega)).mono ?_
    rintro r w7 ⟨rfl, f7⟩
    have q7 := q6.fr0 f7
    refine ⟨_, rfl, (h_bytes t q7.rd q7.lt (by omega) (by omega)).mono ?_⟩
    rintro r w8 ⟨rfl, f8⟩
    refine ⟨_, rfl, sel_true ?_ ((lives_any w8).mono ?_)⟩
    · by_cases e : m = n
      · subst e; simp
      · have hne : bytesH (bl t) (encU m) ≠ bytesH (bl t) (encU n) := fun he => e (encU_inj (by omega) (by omega) (bytesH_short (encU_ne m) hl (by omega) he))
        have e1 : (((bytesH (bl t) (encU m) : Nat) : Int) == ((bytesH (bl t) (encU n) : Nat) : Int)) = false := by simp; omega
        have e2 : ((m : Int) == (n : Int)) = false := by simp; omega
        rw [e1, e2]; rfl
    · rintro r w9 ⟨rfl, f9⟩
      exact ⟨_, rfl, rfl, F6.tr0 (f7.tr0 (f8.tr0 f9))⟩
end Has
end Go.Proofs.Ytjmnpdacalbpkaa

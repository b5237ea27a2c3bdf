/- Package wire in plain words: varints, and what a reader does. No program in sight. -/
import Derived.Test.YtjjhfdjpmonlaaaH
namespace Go.Proofs.Ytjjhfdjpmonlaaa
open Go Go.W

/-! ### Varints -/
def encU (n : Nat) : List UInt8 := if n < 128 then [UInt8.ofNat n] else UInt8.ofNat (n % 128 + 128) :: encU (n / 128)
termination_by n
decreasing_by omega
theorem encU_small {n : Nat} (h : n < 128) : encU n = [UInt8.ofNat n] := by rw [encU, if_pos h]
theorem encU_large {n : Nat} (h : ¬ n < 128) : encU n = UInt8.ofNat (n % 128 + 128) :: encU (n / 128) := by rw [encU, if_neg h]
theorem encU_ne (n : Nat) : encU n ≠ [] := by
  by_cases h : n < 128
  · rw [encU_small h]; simp
  · rw [encU_large h]; simp
theorem encU_len : ∀ (d n : Nat), n < 2 * 128 ^ d → (encU n).length ≤ d + 1
  | 0, n, h => by rw [encU_small (by omega)]; simp
  | d + 1, n, h => by
    by_cases hn : n < 128
    · rw [encU_small hn]; simp
    · rw [encU_large hn]
      have := encU_len d (n / 128) (by rw [Nat.pow_succ] at h; omega)
      simp; omega

inductive RU where
  | more
  | form
  | ok (n : Nat) (rest : List UInt8)
def badAt (k : Nat) (c : UInt8) : Bool := (k == 9 && decide (1 < c.toNat)) || (decide (0 < k) && c.toNat == 0)
def decU : Nat → List UInt8 → RU
  | _, [] => .more
  | k, c :: l => if badAt k c then .form else if c.toNat < 128 then .ok c.toNat l else
    match decU (k + 1) l with
    | .ok n r => .ok (c.toNat % 128 + 128 * n) r
    | .more => .more
    | .form => .form

theorem decU_encU : ∀ (d k n : Nat) (r : List UInt8), k + d = 9 → n < 2 * 128 ^ d → (0 < k → 0 < n) → decU k (encU n ++ r) = .ok n r
  | d, k, n, r, hk, hn, hp => by
    by_cases h : n < 128
    · rw [encU_small h]
      have hb : badAt k (UInt8.ofNat n) = false := by
        have e : (UInt8.ofNat n).toNat = n := by simp; omega
        unfold badAt
        rw [e]
        simp
        refine ⟨fun h9 => ?_, fun hk0 => by have := hp hk0; omega⟩
        subst h9
        have : d = 0 := by omega
        subst this
        simp at hn; omega
      have e : (UInt8.ofNat n).toNat = n := by simp; omega
      simp [decU, hb, e, h]
    · rw [encU_large h]
      have e : (UInt8.ofNat (n % 128 + 128)).toNat = n % 128 + 128 := by simp; omega
      match d with
      | 0 => simp at hn; omega
      | d + 1 =>
        have hb : badAt k (UInt8.ofNat (n % 128 + 128)) = false := by
          unfold badAt
          rw [e]
          simp; omega
        have ih := decU_encU d (k + 1) (n / 128) r (by omega) (by rw [Nat.pow_succ] at hn; omega) (by omega)
        simp only [List.cons_append, decU, hb, e, ih]
        rw [if_neg (by simp), if_neg (by omega)]
        congr 1
        omega
theorem decU_back : ∀ (d k : Nat) (bs : List UInt8) (n : Nat) (r : List UInt8), k + d = 9 → decU k bs = .ok n r → bs = encU n ++ r ∧ n < 2 * 128 ^ d ∧ (0 < k → 0 < n)
  | _, _, [], _, _, _, h => by simp [decU] at h
  | d, k, c :: l, n, r, hk, h => by
    have hc := c.toNat_lt
    simp only [decU] at h
    cases hb : badAt k c with
    | true => rw [hb] at h; simp at h
    | false =>
      rw [hb] at h
      simp at h
      have hb2 := hb
      unfold badAt at hb2
      simp at hb2
      by_cases h1 : c.toNat < 128
      · rw [if_pos h1] at h
        injection h with h2 h3
        subst h2 h3
        refine ⟨by rw [encU_small h1]; simp, ?_, fun hk0 => by have := hb2.2 hk0; omega⟩
        match d with
        | 0 => have := hb2.1 (by omega); simp; omega
        | d + 1 => rw [Nat.pow_succ]; have := Nat.pow_pos (n := d) (show 0 < 128 by omega); omega
      · rw [if_neg h1] at h
        match d with
        | 0 => have := hb2.1 (by omega); omega
        | d + 1 =>
          cases hd : decU (k + 1) l with
          | more => rw [hd] at h; cases h
          | form => rw [hd] at h; cases h
          | ok n' r' =>
            rw [hd] at h
            injection h with h2 h3
            obtain ⟨e1, e2, e3⟩ := decU_back d (k + 1) l n' r' (by omega) hd
            have e4 := e3 (by omega)
            subst h3
            refine ⟨?_, by rw [Nat.pow_succ]; omega, fun _ => by omega⟩
            rw [encU_large (by omega)]
            have e5 : n % 128 + 128 = c.toNat := by omega
            have e6 : n / 128 = n' := by omega
            rw [e5, e6, e1]
            simp
theorem decU_cut : ∀ (d k n : Nat) (p q : List UInt8), k + d = 9 → n < 2 * 128 ^ d → (0 < k → 0 < n) → encU n = p ++ q → q ≠ [] → decU k p = .more
  | d, k, n, [], q, hk, hn, hp, he, hq => by simp [decU]
  | d, k, n, c :: p, q, hk, hn, hp, he, hq => by
    by_cases h : n < 128
    · rw [encU_small h] at he
      have := congrArg List.length he
      simp at this
      exact absurd this.2 hq
    · rw [encU_large h] at he
      injection he with h1 h2
      subst h1
      have e : (UInt8.ofNat (n % 128 + 128)).toNat = n % 128 + 128 := by simp; omega
      match d with
      | 0 => simp at hn; omega
      | d + 1 =>
        have hb : badAt k (UInt8.ofNat (n % 128 + 128)) = false := by
          unfold badAt
          rw [e]
          simp; omega
        have ih := decU_cut d (k + 1) (n / 128) p q (by omega) (by rw [Nat.pow_succ] at hn; omega) (by omega) h2 hq
        simp only [decU, hb, e, ih]
        rw [if_neg (by simp), if_neg (by omega)]

/-! ### What a reader does -/
structure RS where
  bs : List UInt8
  err : Int
def rdU (s : RS) : Nat × RS :=
  if s.err ≠ 0 then (0, s) else
  match decU 0 s.bs with
  | .more => (0, ⟨s.bs, 3⟩)
  | .form => (0, ⟨s.bs, 2⟩)
  | .ok n r => (n, ⟨r, 0⟩)
def zz (n : Int) : Nat := if 0 ≤ n then (2 * n).toNat else (-(2 * n) - 1).toNat
def unzz (u : Nat) : Int := if u % 2 = 0 then (u / 2 : Nat) else -((u / 2 : Nat) : Int) - 1
theorem unzz_zz (n : Int) : unzz (zz n) = n := by
  unfold unzz zz
  split <;> split <;> omega
theorem zz_unzz (u : Nat) : zz (unzz u) = u := by
  unfold unzz zz
  split <;> split <;> omega
theorem zz_lt (n : Int) (h1 : -9223372036854775808 ≤ n) (h2 : n ≤ 9223372036854775807) : zz n < 18446744073709551616 := by
  unfold zz; split <;> omega
theorem unzz_range (u : Nat) (h : u < 18446744073709551616) : -9223372036854775808 ≤ unzz u ∧ unzz u ≤ 9223372036854775807 := by
  unfold unzz; split <;> omega
def rdI (s : RS) : Int × RS := (unzz (rdU s).1, (rdU s).2)
def rdB (s : RS) : Bool × RS :=
  if s.err ≠ 0 then (false, s) else
  match s.bs with
  | [] => (false, ⟨[], 3⟩)
  | c :: l => if 1 < c.toNat then (false, ⟨c :: l, 2⟩) else (c.toNat == 1, ⟨l, 0⟩)
/-- the length of a list, and the state after it -/
def rdLen (s : RS) : Nat × RS :=
  let (n, s') := rdU s
  if s'.err ≠ 0 then (0, s') else if s'.bs.length < n then (0, ⟨s'.bs, 3⟩) else (n, s')
def rdRaw (s : RS) : List UInt8 × RS :=
  let (n, s') := rdLen s
  if s'.err ≠ 0 then ([], s') else (s'.bs.take n, ⟨s'.bs.drop n, 0⟩)
def rdMany : Nat → RS → List Int × RS
  | 0, s => ([], s)
  | n + 1, s =>
    let (x, s') := rdI s
    if s'.err ≠ 0 then ([], s') else
    let (l, s'') := rdMany n s'
    if s''.err ≠ 0 then ([], s'') else (x :: l, s'')
def rdInts (s : RS) : List Int × RS :=
  let (n, s') := rdLen s
  if s'.err ≠ 0 then ([], s') else rdMany n s'
def rdEnd (s : RS) : Int := if s.err ≠ 0 then s.err else if 0 < s.bs.length then 2 else 0
end Go.Proofs.Ytjjhfdjpmonlaaa

/- Package hash in plain words: a change of one number is seen. -/
import Derived.Test.YtpfomlenbhocpaaHS
namespace Go.Proofs.Ytpfomlenbhocpaa
open Go Go.W

theorem xor_cancel {a b c : Nat} (h : a ^^^ c = b ^^^ c) : a = b := by
  have := congrArg (· ^^^ c) h
  simpa [Nat.xor_assoc] using this
theorem fold_inj {m m' : Nat} (hm : m < 18446744073709551616) (hm' : m' < 18446744073709551616) (h : m ^^^ (m / 4294967296) = m' ^^^ (m' / 4294967296)) : m = m' := by
  have hh : ∀ x : Nat, x < 18446744073709551616 → (x ^^^ (x / 4294967296)) / 4294967296 = x / 4294967296 := fun x hx => by
    have e : ∀ y : Nat, y / 4294967296 = y >>> 32 := fun y => by rw [Nat.shiftRight_eq_div_pow]
    rw [e, e, Nat.shiftRight_xor_distrib, ← Nat.shiftRight_add, Nat.shiftRight_eq_div_pow x (32 + 32), Nat.div_eq_of_lt (by simpa using hx), Nat.xor_zero]
  have e1 := hh m hm
  have e2 := hh m' hm'
  rw [h] at e1
  rw [e1] at e2
  rw [← e2] at h
  rw [e2] at h
  exact xor_cancel (by rw [e2] at *; exact h)
theorem mul_inj {a b : Nat} (ha : a < 18446744073709551616) (hb : b < 18446744073709551616) (h : (a * 11400714819323198485) % 18446744073709551616 = (b * 11400714819323198485) % 18446744073709551616) : a = b := by
  have key : ∀ x : Nat, x < 18446744073709551616 → ((x * 11400714819323198485) % 18446744073709551616 * 17428512612931826493) % 18446744073709551616 = x := fun x hx => by
    rw [Nat.mod_mul_mod, Nat.mul_assoc, show 11400714819323198485 * 17428512612931826493 = 18446744073709551616 * (11400714819323198485 * 17428512612931826493 / 18446744073709551616) + 1 from by decide, Nat.mul_add, Nat.mul_one, ← Nat.mul_assoc, Nat.mul_comm x, Nat.mul_assoc, Nat.mul_add_mod]
    exact Nat.mod_eq_of_lt hx
  rw [← key a ha, ← key b hb, h]
theorem mixN_inj {s x s' x' : Nat} (hs : s < 18446744073709551616) (hx : x < 18446744073709551616) (hs' : s' < 18446744073709551616) (hx' : x' < 18446744073709551616) (h : mixN s x = mixN s' x') : s ^^^ x = s' ^^^ x' := by
  unfold mixN at h
  have h1 := fold_inj (Nat.mod_lt _ (by omega)) (Nat.mod_lt _ (by omega)) h
  have b1 : s ^^^ x < 2 ^ 64 := Nat.xor_lt_two_pow hs hx
  have b2 : s' ^^^ x' < 2 ^ 64 := Nat.xor_lt_two_pow hs' hx'
  exact mul_inj (by simpa using b1) (by simpa using b2) h1
theorem mixN_left {s s' x : Nat} (hs : s < 18446744073709551616) (hs' : s' < 18446744073709551616) (hx : x < 18446744073709551616) (h : mixN s x = mixN s' x) : s = s' := xor_cancel (mixN_inj hs hx hs' hx h)
theorem mixN_right {s x x' : Nat} (hs : s < 18446744073709551616) (hx : x < 18446744073709551616) (hx' : x' < 18446744073709551616) (h : mixN s x = mixN s x') : x = x' := by
  have := mixN_inj hs hx hs hx' h
  rw [Nat.xor_comm s, Nat.xor_comm s] at this
  exact xor_cancel this
theorem u64_i64 (x : Nat) (h : x < 18446744073709551616) : u64I (i64N x) = x := by
  unfold u64I i64N
  rw [IntKind.wrap_i64]
  omega
theorem fold_inj_state (l : List Nat) : ∀ s s', (∀ x ∈ l, x < 18446744073709551616) → s < 18446744073709551616 → s' < 18446744073709551616 → l.foldl mixN s = l.foldl mixN s' → s = s' := by
  induction l with
  | nil => exact fun s s' _ _ _ h => h
  | cons x l ih =>
    intro s s' hl hs hs' h
    have := ih _ _ (fun y hy => hl y (by simp [hy])) (mixN_lt _ _) (mixN_lt _ _) h
    exact mixN_left hs hs' (hl x (by simp)) this
/-- one number is changed -/
theorem fold_change {pre post : List Nat} {s x x' : Nat} (hp : ∀ y ∈ pre, y < 18446744073709551616) (hq : ∀ y ∈ post, y < 18446744073709551616) (hs : s < 18446744073709551616) (hx : x < 18446744073709551616) (hx' : x' < 18446744073709551616)
    (h : (pre ++ x :: post).foldl mixN s = (pre ++ x' :: post).foldl mixN s) : x = x' := by
  rw [List.foldl_append, List.foldl_append, List.foldl_cons, List.foldl_cons] at h
  have := fold_inj_state post _ _ hq (mixN_lt _ _) (mixN_lt _ _) h
  exact mixN_right (fold_lt _ _ hs) hx hx' this
theorem sumH_change {label : List UInt8} {pre post : List Int} {x x' : Int} (h : sumH label (pre ++ x :: post) = sumH label (pre ++ x' :: post)) : u64I x = u64I x' := by
  unfold sumH at h
  rw [show (pre ++ x :: post).length = (pre ++ x' :: post).length by simp] at h
  have h1 := mixN_left (fold_lt _ _ (mixN_lt _ _)) (fold_lt _ _ (mixN_lt _ _)) (by omega) h
  rw [List.map_append, List.map_append, List.map_cons, List.map_cons] at h1
  refine fold_change (fun y hy => ?_) (fun y hy => ?_) (mixN_lt _ _) (u64I_lt _) (u64I_lt _) h1
  · obtain ⟨z, _, rfl⟩ := List.mem_map.1 hy; exact u64I_lt z
  · obtain ⟨z, _, rfl⟩ := List.mem_map.1 hy; exact u64I_lt z
theorem le8_inj : ∀ {a b : List UInt8}, a.length = b.length → le8 a = le8 b → a = b
  | [], [], _, _ => rfl
  | [], _ :: _, h, _ => by simp at h
  | _ :: _, [], h, _ => by simp at h
  | c :: a, d :: b, h, he => by
    simp only [le8] at he
    have h1 := c.toNat_lt
    have h2 := d.toNat_lt
    have e1 : c.toNat = d.toNat := by omega
    have e2 : le8 a = le8 b := by omega
    rw [UInt8.toNat_inj.1 e1, le8_inj (by simpa using h) e2]
theorem words_one {b : List UInt8} (h0 : b ≠ []) (h8 : b.length ≤ 8) : words b = [le8 b] := by
  rw [words_cons h0, List.take_of_length_le h8, List.drop_of_length_le h8, words_nil]
theorem le8_word {b : List UInt8} (h8 : b.length ≤ 8) : le8 b < 18446744073709551616 := by
  have h1 := le8_lt b
  have h3 : (256 : Nat) ^ b.length ≤ 256 ^ 8 := Nat.pow_le_pow_right (by omega) h8
  omega
/-- two short byte slices of one length -/
theorem bytesH_short {label p q : List UInt8} (hp : p ≠ []) (hl : p.length = q.length) (h8 : p.length ≤ 8) (h : bytesH label p = bytesH label q) : p = q := by
  have hq : q ≠ [] := fun e => by subst e; simp at hl; exact hp hl
  unfold bytesH at h
  rw [words_one hp h8, words_one hq (by omega), ← hl] at h
  have := sumH_change (pre := []) (post := [(p.length : Int)]) (x := i64N (le8 p)) (x' := i64N (le8 q)) h
  rw [u64_i64 _ (le8_word h8), u64_i64 _ (le8_word (by omega))] at this
  exact le8_inj hl this

/-- one byte is changed -/
theorem words_change : ∀ (n : Nat) (p : List UInt8) (k : Nat) (c d : UInt8), p.length ≤ n → p[k]? = some d → d ≠ c → ∃ (pre post : List Nat) (x x' : Nat), words p = pre ++ x :: post ∧ words (p.set k c) = pre ++ x' :: post ∧ x ≠ x' ∧ x < 18446744073709551616 ∧ x' < 18446744073709551616
  | 0, p, k, c, d, hn, hk, hd => by
    have : p = [] := List.eq_nil_of_length_eq_zero (by omega)
    subst this; simp at hk
  | n + 1, p, k, c, d, hn, hk, hd => by
    have hlt : k < p.length := (List.getElem?_eq_some_iff.1 hk).1
    have h0 : p ≠ [] := fun e => by subst e; simp at hlt
    have h1 : p.set k c ≠ [] := fun e => by have := congrArg List.length e; rw [List.length_set] at this; simp at this; exact h0 this
    rw [words_cons h0, words_cons h1]
    by_cases h8 : k < 8
    · have e1 : (p.set k c).drop 8 = p.drop 8 := by rw [List.drop_set_of_lt h8]
      have e2 : (p.set k c).take 8 = (p.take 8).set k c := by rw [List.take_set]
      refine ⟨[], words (p.drop 8), le8 (p.take 8), le8 ((p.set k c).take 8), rfl, by rw [e1]; rfl, fun he => ?_, le8_word (by rw [List.length_take]; omega), le8_word (by rw [List.length_take]; omega)⟩
      rw [e2] at he
      have := le8_inj (by rw [List.length_set]) he
      have hk8 : (p.take 8)[k]? = some d := by rw [List.getElem?_take, if_pos h8]; exact hk
      rw [this, List.getElem?_set, if_pos rfl, if_pos (by rw [List.length_take]; omega)] at hk8
      exact hd (Option.some.inj hk8).symm
    · have e1 : (p.set k c).take 8 = p.take 8 := by rw [List.take_set_of_le (by omega)]
      have e2 : (p.set k c).drop 8 = (p.drop 8).set (k - 8) c := by rw [List.drop_set, if_neg (by omega)]
      have hp : 0 < p.length := by omega
      obtain ⟨pre, post, x, x', g1, g2, g3, g4, g5⟩ := words_change n (p.drop 8) (k - 8) c d (by rw [List.length_drop]; omega) (by rw [List.getElem?_drop, show 8 + (k - 8) = k by omega]; exact hk) hd
      exact ⟨le8 (p.take 8) :: pre, post, x, x', by rw [g1]; rfl, by rw [e1, e2, g2]; rfl, g3, g4, g5⟩
theorem bytesH_change {label p : List UInt8} {k : Nat} {c d : UInt8} (hk : p[k]? = some d) (hd : d ≠ c) : bytesH label p ≠ bytesH label (p.set k c) := fun h => by
  obtain ⟨pre, post, x, x', g1, g2, g3, g4, g5⟩ := words_change p.length p k c d (Nat.le_refl _) hk hd
  unfold bytesH at h
  rw [g1, g2, List.length_set, List.map_append, List.map_append, List.map_cons, List.map_cons, List.append_assoc, List.append_assoc, List.cons_append, List.cons_append] at h
  have := sumH_change h
  rw [u64_i64 _ g4, u64_i64 _ g5] at this
  exact g3 this
end Go.Proofs.Ytpfomlenbhocpaa

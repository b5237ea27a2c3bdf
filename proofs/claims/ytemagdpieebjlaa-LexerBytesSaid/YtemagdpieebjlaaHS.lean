/- Package hash: what it computes, and the contracts of mix, Sum and Bytes. -/
import Derived.Test.YtemagdpieebjlaaBF
import Derived.Test.YtemagdpieebjlaaVK
namespace Go.Proofs.Ytemagdpieebjlaa
open Go Go.W

/-! ### In plain words -/
def le8 : List UInt8 → Nat
  | [] => 0
  | c :: l => c.toNat + 256 * le8 l
theorem le8_lt : ∀ (l : List UInt8), le8 l < 256 ^ l.length
  | [] => by simp [le8]
  | c :: l => by
    have h1 := le8_lt l
    have h2 := c.toNat_lt
    rw [le8, List.length_cons, Nat.pow_succ]
    omega
theorem le8_snoc : ∀ (l : List UInt8) (c : UInt8), le8 (l ++ [c]) = le8 l + c.toNat * 256 ^ l.length
  | [], c => by simp [le8]
  | d :: l, c => by
    rw [List.cons_append, le8, le8_snoc l c, le8, List.length_cons, Nat.pow_succ]
    rw [Nat.mul_add, ← Nat.mul_assoc, Nat.mul_comm 256 c.toNat, Nat.mul_assoc, Nat.mul_comm 256 (256 ^ l.length)]
    omega
def words (bs : List UInt8) : List Nat := if bs = [] then [] else le8 (bs.take 8) :: words (bs.drop 8)
termination_by bs.length
decreasing_by
  rename_i h
  have : 0 < bs.length := List.length_pos_iff.2 h
  simp; omega
theorem words_nil : words [] = [] := by rw [words]; simp
theorem words_cons {bs : List UInt8} (h : bs ≠ []) : words bs = le8 (bs.take 8) :: words (bs.drop 8) := by rw [words, if_neg h]
theorem words_len (bs : List UInt8) : (words bs).length ≤ bs.length := by
  induction hn : bs.length using Nat.strongRecOn generalizing bs with
  | _ n ih =>
    by_cases h : bs = []
    · subst h; rw [words_nil]; simp
    · rw [words_cons h]
      have hp : 0 < bs.length := List.length_pos_iff.2 h
      have := ih (bs.drop 8).length (by simp; omega) (bs.drop 8) rfl
      simp at this ⊢
      omega
def mixN (s x : Nat) : Nat := let m := ((s ^^^ x) * 11400714819323198485) % 18446744073709551616; m ^^^ (m / 4294967296)
theorem mixN_lt (s x : Nat) : mixN s x < 18446744073709551616 := by
  unfold mixN
  have h1 : ((s ^^^ x) * 11400714819323198485) % 18446744073709551616 < 2 ^ 64 := Nat.mod_lt _ (by omega)
  exact Nat.xor_lt_two_pow h1 (Nat.lt_of_le_of_lt (Nat.div_le_self _ _) h1)
def u64I (n : Int) : Nat := (n % 18446744073709551616).toNat
def sumH (label : List UInt8) (l : List Int) : Nat :=
  mixN ((l.map u64I).foldl mixN (mixN (mixN ((words label).foldl mixN 0) label.length) l.length)) 0
def i64N (u : Nat) : Int := IntKind.wrap .i64 (u : Int)
def bytesH (label b : List UInt8) : Nat := sumH label ((words b).map i64N ++ [(b.length : Int)])

/-! ### mix -/
theorem h_mix (s x : Nat) (hs : s < 18446744073709551616) (hx : x < 18446744073709551616) (w : World) : Calls Try.prog n_hash_mix #[.int .u64 (s : Int), .int .u64 (x : Int)] w fun r w' => r = .returned (.int .u64 (mixN s x : Int)) ∧ w = w' := by
  refine hash_mix.ok _ _ w _ ?_
  unfold hash_mix.S0 hash_mix.S1 hash_mix.S2
  have hxx : s ^^^ x < 2 ^ 64 := Nat.xor_lt_two_pow hs hx
  rw [bXor_nat s x hs hx]
  have e : IntKind.wrap .u64 (((s ^^^ x : Nat) : Int) * 11400714819323198485) = ((((s ^^^ x) * 11400714819323198485) % 18446744073709551616 : Nat) : Int) := by
    rw [IntKind.wrap_u64]; omega
  rw [e, show ((2 : Int) ^ 32) = ((4294967296 : Nat) : Int) from rfl, fdiv_nat _ _ (by omega), bXor_nat _ _ (by omega) (by omega)]
  exact ⟨rfl, rfl⟩

/-! ### The words, one after the other -/
theorem word_or8 (acc k c : Nat) (hk : k < 8) (ha : acc < 256 ^ k) (hc : c < 256) :
    ¬ (IntKind.wrap .i64 (8 * (k : Int))) < 0 ∧ W.bOr .u64 (acc : Int) (IntKind.wrap .u64 ((IntKind.wrap .u64 ((c : Nat) : Int)) * 2 ^ (min (Int.toNat (IntKind.wrap .i64 (8 * (k : Int)))) (IntKind.bits .u64)))) = ((acc + c * 256 ^ k : Nat) : Int) := by
  have e1 : IntKind.wrap .i64 (8 * (k : Int)) = ((8 * k : Nat) : Int) := by rw [IntWalk.i64_in _ (by omega)]; omega
  rw [e1]
  refine ⟨by omega, ?_⟩
  have e2 : min (Int.toNat ((8 * k : Nat) : Int)) (IntKind.bits .u64) = 8 * k := by
    rw [Int.toNat_natCast]
    show min (8 * k) 64 = 8 * k
    omega
  rw [e2, u64_nat c (by omega)]
  have e3 : (c : Int) * 2 ^ (8 * k) = ((c * 2 ^ (8 * k) : Nat) : Int) := by rw [Int.natCast_mul, Int.natCast_pow]; rfl
  have hp : (2 : Nat) ^ (8 * k) = 256 ^ k := by rw [Nat.pow_mul]
  have h7 : (256 : Nat) ^ k ≤ 256 ^ 7 := Nat.pow_le_pow_right (by omega) (by omega)
  have hb : c * 2 ^ (8 * k) < 18446744073709551616 := by
    rw [hp]
    have : c * 256 ^ k ≤ 255 * 256 ^ 7 := Nat.mul_le_mul (by omega) h7
    omega
  rw [e3, u64_nat _ hb, bOr_nat _ _ (by omega) hb, or_add acc c (8 * k) (by rw [hp]; exact ha), hp]
/-- what an iterator is good for: J before, J after each word -/
theorem words_it {tb l : Nat} {s : Sl} {bs : List UInt8} (hbl : bs.length ≤ 1000000000000) (J : List Nat → World → Prop) (hJ : ∀ pre W, J pre W → W.cell? (at0 tb) = some s.v ∧ Bytes W s bs)
    (hY : ∀ (pre : List Nat) (x : Nat) (W : World), J pre W → x < 18446744073709551616 → pre.length < bs.length → yieldB Try.prog l #[.int .u64 (x : Int)] W fun b W' => b = true ∧ J (pre ++ [x]) W') (w : World) (h0 : J [] w) :
    Calls Try.prog n_hash_wordsOf_1 #[.func (.yield l) #[] #[], .pointer (some (at0 tb))] w fun r w' => r = .returned (.tuple #[]) ∧ J (words bs) w' := by
  refine hash_wordsOf_1.ok _ _ w _ ?_
  have inner : ∀ (i : Nat) (pre : List Nat) (W : World), i < bs.length → J pre W → ∀ (d k : Nat), k + d = 8 → ∀ acc : Nat, acc = le8 ((bs.drop i).take k) → ∀ R : Post,
      (hash_wordsOf_1.S9 l (at0 tb) (i : Int) ((le8 ((bs.drop i).take 8) : Nat) : Int) W R) → hash_wordsOf_1.L5 l (at0 tb) (i : Int) (acc : Int) (k : Int) W R := by
    intro i pre W hi hj d
    obtain ⟨hc, hb⟩ := hJ pre W hj
    have hn := Bytes.len hb
    induction d with
    | zero =>
      intro k hk acc hacc R hR
      obtain rfl : k = 8 := by omega
      subst hacc
      exact hash_wordsOf_1.L5_step _ _ _ _ _ _ _ (sel_false rfl hR)
    | succ d ih =>
      intro k hk acc hacc R hR
      have ew : IntKind.wrap .i64 ((i : Int) + (k : Int)) = ((i + k : Nat) : Int) := by rw [IntWalk.i64_in _ (by omega)]; omega
      refine hash_wordsOf_1.L5_step _ _ _ _ _ _ _ (sel_true (decide_eq_true (by omega)) ⟨s, hc, ?_⟩)
      rw [ew, hn]
      refine sel_intro (fun h => ?_) (fun h => ?_)
      · have hlt : i + k < bs.length := by have := of_decide_eq_true h; omega
        have hg : bs[i + k]? = some bs[i + k] := List.getElem?_eq_getElem hlt
        have htake : (bs.drop i).take (k + 1) = (bs.drop i).take k ++ [bs[i + k]] := by
          rw [List.take_add_one, List.getElem?_drop, hg]; rfl
        generalize bs[i + k] = c at hg htake
        refine ⟨s, hc, ?_⟩
        rw [ew]
        refine ⟨by omega, by omega, Bytes.cell hb hg (by rw [Int.toNat_natCast]) fun p _ hp => ⟨_, hp, ?_⟩⟩
        have hlen : ((bs.drop i).take k).length = k := by rw [List.length_take, List.length_drop]; omega
        have hac : acc < 256 ^ k := by rw [hacc]; have := le8_lt ((bs.drop i).take k); rwa [hlen] at this
        obtain ⟨e1, e2⟩ := word_or8 acc k c.toNat (by omega) hac c.toNat_lt
        refine And.intro e1 ?_
        rw [e2]
        show hash_wordsOf_1.L5 l (at0 tb) (i : Int) ((acc + c.toNat * 256 ^ k : Nat) : Int) (IntKind.wrap .i64 ((k : Int) + 1)) W R
        rw [i64_next k (by omega)]
        refine ih (k + 1) (by omega) _ ?_ R hR
        rw [htake, le8_snoc, hlen, hacc]
      · have hge : bs.length ≤ i + k := by have := of_decide_eq_false h; omega
        have e : (bs.drop i).take k = (bs.drop i).take 8 := by
          rw [List.take_of_length_le (by rw [List.length_drop]; omega), List.take_of_length_le (by rw [List.length_drop]; omega)]
        rw [hacc, e]
        exact hR
  have outer : ∀ (d i : Nat), bs.length ≤ i + d → i ≤ bs.length + 7 → ∀ (pre : List Nat) (W : World), pre.length ≤ i → pre ++ words (bs.drop i) = words bs → J pre W →
      hash_wordsOf_1.L1 l (at0 tb) (i : Int) W fun r w' => r = .returned (.tuple #[]) ∧ J (words bs) w' := by
    intro d
    induction d using Nat.strongRecOn with
    | _ d ih =>
      intro i hd hi pre W hpl he hj
      obtain ⟨hc, hb⟩ := hJ pre W hj
      have hn := Bytes.len hb
      refine hash_wordsOf_1.L1_step _ _ _ _ _ ⟨s, hc, sel_intro (fun h => ?_) (fun h => ?_)⟩
      · have hlt : i < bs.length := by have := of_decide_eq_true h; omega
        have hne : bs.drop i ≠ [] := fun e => by have := congrArg List.length e; rw [List.length_drop, List.length_nil] at this; omega
        refine inner i pre W hlt hj 8 0 rfl 0 (by simp [le8]) _ ?_
        have hl8 : le8 ((bs.drop i).take 8) < 18446744073709551616 := by
          have h1 := le8_lt ((bs.drop i).take 8)
          have h2 : ((bs.drop i).take 8).length ≤ 8 := by rw [List.length_take]; omega
          have h3 : (256 : Nat) ^ ((bs.drop i).take 8).length ≤ 256 ^ 8 := Nat.pow_le_pow_right (by omega) h2
          omega
        refine yieldB_mono (hY pre _ W hj hl8 (by omega)) ?_
        rintro b W' ⟨rfl, hj'⟩
        refine sel_false rfl ?_
        show hash_wordsOf_1.L1 l (at0 tb) (IntKind.wrap .i64 ((i : Int) + 8)) W' _
        rw [show IntKind.wrap .i64 ((i : Int) + 8) = ((i + 8 : Nat) : Int) from by rw [IntWalk.i64_in _ (by omega)]; omega]
        refine ih (d - 8) (by omega) (i + 8) (by omega) (by omega) _ W' (by simp; omega) ?_ hj'
        rw [words_cons hne, List.drop_drop] at he
        rw [List.append_assoc]
        exact he
      · have hge : bs.length ≤ i := by have := of_decide_eq_false h; omega
        rw [List.drop_of_length_le hge, words_nil, List.append_nil] at he
        rw [he] at hj
        exact ⟨rfl, hj⟩
  exact outer bs.length 0 (by omega) (by omega) [] w (by simp) (by simp) h0

/-! ### Sum -/
theorem one_cell {w : World} {b : Nat} {v : Value} {T : TypeId} (h : w.heap[b]? = some (.cells #[v] T (0, 0))) : w.cell? (at0 b) = some v := by
  have := cellAt (p := at0 b) (i := 0) (v := v) h rfl rfl
  rwa [add0] at this
theorem one_set {w : World} {b : Nat} {v : Value} {T : TypeId} (h : w.heap[b]? = some (.cells #[v] T (0, 0))) (u : Value) :
    (w.cell? (at0 b)).isSome = true ∧ w.frozen? (at0 b) = false ∧ (w.setCell (at0 b) u).heap[b]? = some (.cells #[u] T (0, 0)) ∧ Fr (· = b) w (w.setCell (at0 b) u) := by
  have := set_c h 0 (by simp) u
  rwa [add0] at this
theorem u64I_lt (n : Int) : u64I n < 18446744073709551616 := by unfold u64I; omega
theorem fold_lt (l : List Nat) : ∀ s, s < 18446744073709551616 → l.foldl mixN s < 18446744073709551616 := by
  induction l with
  | nil => exact fun s h => h
  | cons x l ih => exact fun s _ => ih _ (mixN_lt s x)
theorem words_of {w : World} {s : Sl} : Calls Try.prog n_hash_wordsOf #[s.v] w fun r w' => r = .returned (.func (.func n_hash_wordsOf_1) #[] #[.pointer (some (at0 w.heap.size))]) ∧ w.alloc (.cells #[s.v] ty_sl_uint8) = w' := by
  refine hash_wordsOf.ok _ w _ ?_
  exact ⟨rfl, rfl⟩
/-- one step of Sum on its own variable -/
theorem sum_mix {w : World} {sb v x : Nat} (h : w.heap[sb]? = some (.cells #[.int .u64 (v : Int)] ty_uint64 (0, 0))) (hv : v < 18446744073709551616) (hx : x < 18446744073709551616) (K : World → Prop)
    (hK : ∀ w', w'.heap[sb]? = some (.cells #[.int .u64 ((mixN v x : Nat) : Int)] ty_uint64 (0, 0)) → Fr (· = sb) w w' → K w') :
    ∃ t : Int, w.cell? (at0 sb) = some (.int .u64 t) ∧ Calls Try.prog n_hash_mix #[.int .u64 t, .int .u64 (x : Int)] w fun r_ w1 => ∃ t15 : Int, r_ = .returned (.int .u64 t15) ∧ (w1.cell? (at0 sb)).isSome = true ∧ w1.frozen? (at0 sb) = false ∧ K (w1.setCell (at0 sb) (.int .u64 t15)) := by
  refine ⟨v, one_cell h, (h_mix v x hv hx w).mono ?_⟩
  rintro r w1 ⟨rfl, rfl⟩
  obtain ⟨a1, a2, a3, a4⟩ := one_set h (.int .u64 ((mixN v x : Nat) : Int))
  exact ⟨_, rfl, a1, a2, hK _ a3 a4⟩
theorem sum_l9 {w0 : World} {D sb : Nat} {s : Sl} {l : List Int} (hl : l.length ≤ 1000000000000) (hs : Nums w0 s l) (hD : w0.heap[D]? = some (.deferred (some []))) (hDs : D ≠ sb) (hn : ∀ x ∈ blkL s, x ≠ sb) (R : Post) :
    ∀ (d i : Nat), i + d = l.length → ∀ (w : World) (v : Nat), v < 18446744073709551616 → Fr (· = sb) w0 w → w.heap[sb]? = some (.cells #[.int .u64 (v : Int)] ty_uint64 (0, 0)) →
      (∀ w', Fr (fun x => x = sb ∨ x = D) w0 w' → R (.returned (.int .u64 ((mixN (((l.drop i).map u64I).foldl mixN v) 0 : Nat) : Int))) w') → hash_Sum.L9 D (at0 sb) s (l.length : Int) (i : Int) w R := by
  have hsn := Nums.len hs
  intro d
  induction d with
  | zero =>
    intro i hi w v hv F h hR
    refine hash_Sum.L9_step _ _ _ _ _ _ _ (sel_false (decide_eq_false (by omega)) ?_)
    refine ⟨v, one_cell h, (h_mix v 0 hv (by omega) w).mono ?_⟩
    rintro r w1 ⟨rfl, rfl⟩
    have hD' := F.at hD hDs
    have := hR _ ((F.mono fun x _ e => .inl e).trans (Fr.put w D (.deferred none)) fun x _ e => .inr e)
    rw [List.drop_of_length_le (by omega)] at this
    exact ⟨_, rfl, hD', this⟩
  | succ d ih =>
    intro i hi w v hv F h hR
    have hlt : i < l.length := by omega
    have hg : l[i]? = some l[i] := List.getElem?_eq_getElem hlt
    have hd : (l.drop i).map u64I = u64I l[i] :: (l.drop (i + 1)).map u64I := by rw [List.drop_eq_getElem_cons hlt]; rfl
    rw [hd] at hR
    generalize l[i] = x at hg hR
    refine hash_Sum.L9_step _ _ _ _ _ _ _ (sel_true (decide_eq_true (by omega)) ⟨by omega, by omega, Nums.cell (hs.fr F hn) hg (by rw [Int.toNat_natCast]) fun p _ hp => ⟨_, hp, ?_⟩⟩)
    unfold hash_Sum.S12
    rw [show IntKind.wrap .u64 x = ((u64I x : Nat) : Int) from by rw [IntKind.wrap_u64]; unfold u64I; omega]
    refine sum_mix h hv (u64I_lt x) (fun w' => hash_Sum.S13 D (at0 sb) s (l.length : Int) (i : Int) w' _) fun w' h' f' => ?_
    show hash_Sum.L9 D (at0 sb) s (l.length : Int) (IntKind.wrap .i64 ((i : Int) + 1)) w' _
    rw [i64_next i (by omega)]
    exact ih (i + 1) (by omega) w' _ (mixN_lt _ _) (F.trans f' fun _ _ e => e) h' hR
theorem h_sum {w : World} {s : Sl} {l : List Int} (label : ByteArray) (hs : Nums w s l) (hlt : ∀ x ∈ blkL s, x < w.heap.size) (hl : l.length ≤ 1000000000000) (hla : label.size ≤ 1000000000000) :
    Calls Try.prog n_hash_Sum #[.string label, s.v] w fun r w' => r = .returned (.int .u64 ((sumH (bl label) l : Nat) : Int)) ∧ Fr0 w w' := by
  refine hash_Sum.ok _ _ w _ ?_
  unfold hash_Sum.S0 hash_Sum.S1
  intro w1
  have f1 : Fr0 w w1 := Fr.alloc _ _ _
  have s1 : w1.heap.size = w.heap.size + 1 := size_alloc _ _
  have c1 : w1.heap[w.heap.size]? = some (.cells #[.int .u64 0] ty_uint64 (0, 0)) := heap_new _ _
  obtain ⟨a1, a2, c2, f2⟩ := one_set c1 (.int .u64 0)
  refine ⟨a1, a2, ?_⟩
  generalize w1.setCell (at0 w.heap.size) (.int .u64 0) = w2 at c2 f2
  have F2 : Fr0 w w2 := f1.trn f2 fun x e => by omega
  have s2 := f2.size
  obtain ⟨t, w3, g1, t3, f3, n3⟩ := str_bytes w2 label
  have s3 := f3.size
  refine ⟨t, w3, g1, words_of.mono ?_⟩
  rintro r w4 ⟨rfl, rfl⟩
  have f4 : Fr0 w3 (w3.alloc (.cells #[t.v] ty_sl_uint8)) := Fr.alloc _ _ _
  have s4 : (w3.alloc (.cells #[t.v] ty_sl_uint8)).heap.size = w3.heap.size + 1 := size_alloc _ _
  have c4 : (w3.alloc (.cells #[t.v] ty_sl_uint8)).heap[w3.heap.size]? = some (.cells #[t.v] ty_sl_uint8 (0, 0)) := heap_new _ _
  generalize w3.alloc (.cells #[t.v] ty_sl_uint8) = w4 at f4 s4 c4
  refine ⟨_, rfl, ?_⟩
  show hash_Sum.S3 label s (at0 w.heap.size) (at0 w3.heap.size) w4 _
  intro o hyield
  have f5 : Fr0 w4 (w4.alloc (.deferred (some []))) := Fr.alloc _ _ _
  have s5 : (w4.alloc (.deferred (some []))).heap.size = w4.heap.size + 1 := size_alloc _ _
  have d5 : (w4.alloc (.deferred (some []))).heap[w4.heap.size]? = some (.deferred (some [])) := heap_new _ _
  generalize w4.alloc (.deferred (some [])) = w5 at f5 s5 d5
  have f6 : Fr0 w5 (w5.alloc (o .ready none)) := Fr.alloc _ _ _
  have s6 : (w5.alloc (o .ready none)).heap.size = w5.heap.size + 1 := size_alloc _ _
  have r6 : (w5.alloc (o .ready none)).heap[w4.heap.size + 1]? = some (o .ready none) := by rw [← s5]; exact heap_new _ _
  generalize w5.alloc (o .ready none) = w6 at f6 s6 r6
  have F36 : Fr0 w3 w6 := f4.tr0 (f5.tr0 f6)
  have c6 : w6.heap[w.heap.size]? = some (.cells #[.int .u64 0] ty_uint64 (0, 0)) := F36.at (f3.at c2 id) id
  have t6 : Bytes w6 t (bl label) := t3.fr0 F36
  have b6 := (f5.tr0 f6).at c4 id
  have d6 := f6.at d5 id
  refine (words_it (tb := w3.heap.size) (s := t) (bs := bl label) (by rw [bl_len]; exact hla)
    (fun pre W => Fr (fun x => x = w.heap.size ∨ x = w4.heap.size + 1) w6 W ∧ W.heap[w.heap.size]? = some (.cells #[.int .u64 ((pre.foldl mixN 0 : Nat) : Int)] ty_uint64 (0, 0)) ∧ W.heap[w4.heap.size + 1]? = some (o .ready none))
    (fun pre W ⟨F, _, _⟩ => ⟨one_cell (F.at b6 (by omega)), t6.fr F fun x hx => by have := n3 x hx; omega⟩)
    (fun pre x W ⟨F, hc, hr⟩ hx hpl => ?_) w6 ⟨Fr.refl _ _, c6, r6⟩).mono ?_
  · refine hyield _ W _ hr ?_
    refine ⟨hr, ?_⟩
    have hb := put_at hr (o .busy none)
    have fb := Fr.put W (w4.heap.size + 1) (o .busy none)
    refine sum_mix (fb.at hc (by omega)) (fold_lt pre 0 (by omega)) hx (fun w' => w'.heap[w4.heap.size + 1]? = some (o .busy none) ∧ ∃ b_ : Bool, Ending.returned (.bool true) = .returned (.bool b_) ∧ b_ = true ∧ Fr (fun x => x = w.heap.size ∨ x = w4.heap.size + 1) w6 (w'.putObj (w4.heap.size + 1) (o .ready none)) ∧ (w'.putObj (w4.heap.size + 1) (o .ready none)).heap[w.heap.size]? = some (.cells #[.int .u64 (((pre ++ [x]).foldl mixN 0 : Nat) : Int)] ty_uint64 (0, 0)) ∧ (w'.putObj (w4.heap.size + 1) (o .ready none)).heap[w4.heap.size + 1]? = some (o .ready none)) fun w' hc' f' => ?_
    have hl' := f'.at hb (by omega)
    refine ⟨hl', true, rfl, rfl, ?_, ?_, put_at hl' _⟩
    · exact ((F.trans fb fun y _ e => .inr e).trans f' fun y _ e => .inl e).trans (Fr.put _ _ _) fun y _ e => .inr e
    · rw [List.foldl_append, List.foldl_cons, List.foldl_nil]
      exact (Fr.put w' (w4.heap.size + 1) _).at hc' (by omega)
  · rintro r w7 ⟨rfl, F7, c7, r7⟩
    refine ⟨⟨_, rfl⟩, .inl ⟨r7, ?_⟩⟩
    have f8 := Fr.put w7 (w4.heap.size + 1) (o .exhausted none)
    generalize w7.putObj (w4.heap.size + 1) (o .exhausted none) = w8 at f8
    have c8 := f8.at c7 (by omega)
    have d8 := f8.at (F7.at d6 (by omega)) (by omega)
    have F8 : Fr0 w w8 := by
      have F6 : Fr0 w w6 := F2.tr0 (f3.tr0 F36)
      exact (F6.trn F7 fun x hx => by omega).trn f8 fun x e => by omega
    unfold hash_Sum.S6
    rw [u64_nat _ (by omega)]
    refine sum_mix c8 (fold_lt _ 0 (by omega)) (by omega) (fun w' => hash_Sum.S7 w4.heap.size s (at0 w.heap.size) w' _) fun w9 c9 f9 => ?_
    have hsn := Nums.len hs
    unfold hash_Sum.S7
    rw [hsn, u64_nat _ (by omega)]
    refine sum_mix c9 (mixN_lt _ _) (by omega) (fun w' => hash_Sum.S8 w4.heap.size s (at0 w.heap.size) w' _) fun w10 c10 f10 => ?_
    have F10 : Fr0 w w10 := (F8.trn f9 fun x e => by omega).trn f10 fun x e => by omega
    have d10 := f10.at (f9.at d8 (by omega)) (by omega)
    unfold hash_Sum.S8
    rw [hsn]
    refine sum_l9 (D := w4.heap.size) (sb := w.heap.size) hl (hs.fr0 F10) d10 (by omega) (fun x hx e => by have := hlt x hx; omega) _ l.length 0 (by omega) w10 _ (mixN_lt _ _) (Fr.refl _ _) c10 fun w' f' => ⟨?_, F10.trn f' fun x hx => by omega⟩
    unfold sumH
    rw [List.drop_zero, bl_len]

/-! ### Bytes -/
theorem h_bytes {w : World} {s : Sl} {bs : List UInt8} (label : ByteArray) (hs : Bytes w s bs) (hlt : ∀ x ∈ blkL s, x < w.heap.size) (hl : bs.length ≤ 100000000000) (hla : label.size ≤ 1000000000000) :
    Calls Try.prog n_hash_Bytes #[.string label, s.v] w fun r w' => r = .returned (.int .u64 ((bytesH (bl label) bs : Nat) : Int)) ∧ Fr0 w w' := by
  have hn := Bytes.len hs
  refine hash_Bytes.ok _ _ w _ ?_
  unfold hash_Bytes.S0 hash_Bytes.S1
  have ec : IntKind.wrap .i64 ((IntKind.wrap .i64 (Int.tdiv ((s.n : Nat) : Int) 8)) + 2) = ((bs.length / 8 + 2 : Nat) : Int) := by
    rw [hn, IntWalk.i64_quo _ _ (by omega), IntWalk.i64_in _ (by omega)]
    omega
  rw [ec]
  obtain ⟨w1, g1, o1, f1⟩ := make_own el_ints w .i64 .i64 (bs.length / 8 + 2) (by omega)
  refine ⟨⟨some ⟨w.heap.size, 0, none⟩, 0, bs.length / 8 + 2⟩, w1, g1, ?_⟩
  intro w2
  have f2 : Fr0 w1 w2 := Fr.alloc _ _ _
  have s2 : w2.heap.size = w1.heap.size + 1 := size_alloc _ _
  have c2 : w2.heap[w1.heap.size]? = some (.cells #[.slice none 0 0] ty_sl_int (0, 0)) := heap_new _ _
  obtain ⟨a1, a2, c3, f3⟩ := one_set c2 (.slice (some ⟨w.heap.size, 0, none⟩) 0 (bs.length / 8 + 2))
  refine ⟨a1, a2, ?_⟩
  show hash_Bytes.S2 label s (at0 w1.heap.size) (w2.setCell (at0 w1.heap.size) (.slice (some ⟨w.heap.size, 0, none⟩) 0 (bs.length / 8 + 2))) _
  generalize w2.setCell (at0 w1.heap.size) (.slice (some ⟨w.heap.size, 0, none⟩) 0 (bs.length / 8 + 2)) = w3 at c3 f3
  have s1 := f1.size
  have s3 := f3.size
  have o3 : NumsO w3 ⟨some ⟨w.heap.size, 0, none⟩, 0, bs.length / 8 + 2⟩ [] := (o1.fr0 f2).fr f3 fun x hx e => by have := o1.lt x hx; omega
  have F3 : Fr0 w w3 := (f1.tr0 f2).trn f3 fun x e => by omega
  refine words_of.mono ?_
  rintro r w4 ⟨rfl, rfl⟩
  have f4 : Fr0 w3 (w3.alloc (.cells #[s.v] ty_sl_uint8)) := Fr.alloc _ _ _
  have s4 : (w3.alloc (.cells #[s.v] ty_sl_uint8)).heap.size = w3.heap.size + 1 := size_alloc _ _
  have c4 : (w3.alloc (.cells #[s.v] ty_sl_uint8)).heap[w3.heap.size]? = some (.cells #[s.v] ty_sl_uint8 (0, 0)) := heap_new _ _
  generalize w3.alloc (.cells #[s.v] ty_sl_uint8) = w4 at f4 s4 c4
  refine ⟨_, rfl, ?_⟩
  show hash_Bytes.S3 label s (at0 w1.heap.size) (at0 w3.heap.size) w4 _
  intro o hyield
  have f5 : Fr0 w4 (w4.alloc (.deferred (some []))) := Fr.alloc _ _ _
  have s5 : (w4.alloc (.deferred (some []))).heap.size = w4.heap.size + 1 := size_alloc _ _
  have d5 : (w4.alloc (.deferred (some []))).heap[w4.heap.size]? = some (.deferred (some [])) := heap_new _ _
  generalize w4.alloc (.deferred (some [])) = w5 at f5 s5 d5
  have f6 : Fr0 w5 (w5.alloc (o .ready none)) := Fr.alloc _ _ _
  have s6 : (w5.alloc (o .ready none)).heap.size = w5.heap.size + 1 := size_alloc _ _
  have r6 : (w5.alloc (o .ready none)).heap[w4.heap.size + 1]? = some (o .ready none) := by rw [← s5]; exact heap_new _ _
  generalize w5.alloc (o .ready none) = w6 at f6 s6 r6
  have F36 : Fr0 w3 w6 := f4.tr0 (f5.tr0 f6)
  have F6 : Fr0 w w6 := F3.tr0 F36
  have b6 := (f5.tr0 f6).at c4 id
  have d6 := f6.at d5 id
  have bs6 := hs.fr0 F6
  obtain ⟨l, hld⟩ : ∃ l, l = w4.heap.size + 1 := ⟨_, rfl⟩
  obtain ⟨vb, hvb⟩ : ∃ vb, vb = w1.heap.size := ⟨_, rfl⟩
  rw [← hld] at hyield r6 ⊢
  rw [← hvb] at hyield ⊢
  obtain ⟨J, hJ⟩ : ∃ J : List Nat → World → Prop, J = fun pre W => ∃ t : Sl, W.heap[vb]? = some (.cells #[t.v] ty_sl_int (0, 0)) ∧ NumsO W t (pre.map i64N) ∧ (∀ x ∈ blkL t, (w.heap.size ≤ x ∧ x < w1.heap.size) ∨ w6.heap.size ≤ x) ∧ pre.length ≤ bs.length ∧ Fr (fun x => x = vb ∨ x = l ∨ (w.heap.size ≤ x ∧ x < w1.heap.size)) w6 W ∧ W.heap[l]? = some (o .ready none) := ⟨_, rfl⟩
  have J0 : J [] w6 := by
    rw [hJ]
    refine ⟨_, F36.at (hvb ▸ c3) id, o3.fr0 F36, fun x hx => .inl ?_, by simp, Fr.refl _ _, r6⟩
    simp [blkL] at hx
    have := o1.lt x (by simp [blkL, hx])
    omega
  have jb : ∀ {W : World}, Fr (fun x => x = vb ∨ x = l ∨ (w.heap.size ≤ x ∧ x < w1.heap.size)) w6 W → W.cell? (at0 w3.heap.size) = some s.v ∧ Bytes W s bs := fun F => ⟨one_cell (F.at b6 (by omega)), bs6.fr F fun x hx => by have := hlt x hx; omega⟩
  refine (words_it (tb := w3.heap.size) (s := s) (bs := bs) (by omega) J (fun pre W h => by rw [hJ] at h; obtain ⟨_, _, _, _, _, F, _⟩ := h; exact jb F) (fun pre x W h hx hpl => ?_) w6 J0).mono ?_
  · rw [hJ] at h
    obtain ⟨t, h1, h2, h3, h4, F, h5⟩ := h
    refine hyield _ W _ h5 ⟨h5, ?_⟩
    have hb := put_at h5 (o .busy none)
    have fb := Fr.put W l (o .busy none)
    have hF := F.size
    have vlt : vb < w6.heap.size := by omega
    have tne : ∀ y ∈ blkL t, y ≠ l ∧ y ≠ vb := fun y hy => by have := h3 y hy; omega
    show hash_Bytes.S5 l o (at0 vb) (x : Int) (W.putObj l (o .busy none)) _
    generalize W.putObj l (o .busy none) = W1 at hb fb
    have fbs := fb.size
    have v1 := fb.at h1 (by omega)
    have o1' := h2.fr fb fun y hy e => (tne y hy).1 e
    refine ⟨t, one_cell v1, ?_⟩
    intro W2
    have f7 : Fr0 W1 W2 := Fr.alloc _ _ _
    obtain ⟨t', W3, q1, q2, q3, q4, _⟩ := append_nums (ty := ty_sl_int) (src := ⟨some ⟨W1.heap.size, 0, none⟩, 1, 1⟩) (o1'.fr0 f7) (one_num W1 (i64N x)) (by simp; omega)
    have v3 := q3.at (f7.at v1 id) fun hm => (tne vb hm).2 rfl
    obtain ⟨a1, a2, c8, f8⟩ := one_set v3 t'.v
    have l3 := f8.at (q3.at (f7.at hb id) fun hm => (tne l hm).1 rfl) (by omega)
    refine ⟨t', W3, q1, a1, a2, l3, true, rfl, rfl, ?_⟩
    rw [hJ]
    have f9 := Fr.put (W3.setCell (at0 vb) t'.v) l (o .ready none)
    have fs7 : W1.heap.size ≤ W2.heap.size := f7.size
    have t'ne : ∀ y ∈ blkL t', ((w.heap.size ≤ y ∧ y < w1.heap.size) ∨ w6.heap.size ≤ y) := fun y hy => by
      rcases q4 y hy with h | h
      · exact h3 y h
      · right; omega
    refine ⟨t', f9.at c8 (by omega), ?_, t'ne, by simp; omega, ?_, put_at l3 _⟩
    · rw [List.map_append]
      exact (q2.fr f8 fun y hy e => by have := t'ne y hy; omega).fr f9 fun y hy e => by have := t'ne y hy; omega
    · refine ((((F.trans fb fun y _ e => .inr (.inl e)).tr0 f7).trans q3 fun y hy hm => ?_).trans f8 fun y _ e => .inl e).trans f9 fun y _ e => .inr (.inl e)
      have := h3 y hm; omega
  · rintro r w7 ⟨rfl, h7⟩
    rw [hJ] at h7
    obtain ⟨t, h1, h2, h3, h4, F, h5⟩ := h7
    refine ⟨⟨_, rfl⟩, .inl ⟨h5, ?_⟩⟩
    have f8 := Fr.put w7 l (o .exhausted none)
    generalize w7.putObj l (o .exhausted none) = w8 at f8
    have hF := F.size
    have hs8 := f8.size
    have tne : ∀ y ∈ blkL t, y ≠ l ∧ y ≠ vb ∧ y ≠ w4.heap.size := fun y hy => by have := h3 y hy; omega
    have v8 := f8.at h1 (by omega)
    have o8 := h2.fr f8 fun y hy e => (tne y hy).1 e
    have d8 := f8.at (F.at d6 (by omega)) (by omega)
    have F8 : Fr0 w w8 := (F6.trn F fun x hx => by omega).trn f8 fun x e => by omega
    refine ⟨t, one_cell v8, ?_⟩
    intro w9
    have f9 : Fr0 w8 w9 := Fr.alloc _ _ _
    have hwl := words_len bs
    obtain ⟨t', w10, q1, q2, q3, q4, _⟩ := append_nums (ty := ty_sl_int) (src := ⟨some ⟨w8.heap.size, 0, none⟩, 1, 1⟩) (o8.fr0 f9) (one_num w8 ((s.n : Nat) : Int)) (by simp; omega)
    have d10 := q3.at (f9.at d8 id) fun hm => (tne _ hm).2.2 rfl
    have F10 : Fr0 w w10 := (F8.tr0 f9).trn q3 fun x hx => by have := h3 x hx; omega
    refine ⟨t', w10, q1, (h_sum label q2.rd q2.lt (by simp; omega) hla).mono ?_⟩
    rintro r w11 ⟨rfl, f11⟩
    have d11 := f11.at d10 id
    refine ⟨_, rfl, d11, ?_, (F10.tr0 f11).trn (Fr.put _ _ _) fun x e => by omega⟩
    unfold bytesH
    rw [hn]
end Go.Proofs.Ytemagdpieebjlaa

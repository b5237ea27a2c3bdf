/- The reference of package hash: contracts of mix, Words, Sum and Bytes. -/
import Derived.Test.YtpfomlenbhocpaaHS
import Derived.Test.YtpfomlenbhocpaaVM
namespace Go.Proofs.Ytpfomlenbhocpaa
open Go Go.W

def u64V (n : Nat) : Value := .int .u64 (n : Int)
abbrev WordsO (w : World) (s : Sl) (l : List Nat) : Prop := Ow w ty_uint64 s (l.map u64V)
abbrev WordsR (w : World) (s : Sl) (l : List Nat) : Prop := Rd w s (l.map u64V)
theorem el_words : ElemOk Try.prog ty_sl_uint64 ty_uint64 (.int .u64 0) 1 8 := ⟨by kernel_rfl, by kernel_rfl, rfl, by decide, by decide⟩
theorem u64V_one (l : List Nat) : ∀ u ∈ l.map u64V, u.oneCell' = true := by
  intro u hu
  obtain ⟨n, _, rfl⟩ := List.mem_map.1 hu
  rfl
theorem WordsR.cell {w : World} {s : Sl} {l : List Nat} (h : WordsR w s l) {i j : Nat} {b : Nat} (hi : l[i]? = some b) (hj : j = i * 1) {K : Addr → Prop} (hk : ∀ p, s.a = some p → w.cell? (p.add j) = some (.int .u64 (b : Int)) → K p) : W.optP s.a K :=
  Rd.get h (i := i) (v := u64V b) (by simp [hi]) hj hk
theorem m_mix (s x : Nat) (hs : s < 18446744073709551616) (hx : x < 18446744073709551616) (w : World) : Calls Try.prog n_enthymemeref01_mix #[.int .u64 (s : Int), .int .u64 (x : Int)] w fun r w' => r = .returned (.int .u64 (mixN s x : Int)) ∧ w = w' := by
  refine enthymemeref01_mix.ok _ _ w _ ?_
  unfold enthymemeref01_mix.S0 enthymemeref01_mix.S1 enthymemeref01_mix.S2
  have hxx : s ^^^ x < 2 ^ 64 := Nat.xor_lt_two_pow hs hx
  rw [bXor_nat s x hs hx]
  have e : IntKind.wrap .u64 (((s ^^^ x : Nat) : Int) * 11400714819323198485) = ((((s ^^^ x) * 11400714819323198485) % 18446744073709551616 : Nat) : Int) := by
    rw [IntKind.wrap_u64]; omega
  have hm : ((s ^^^ x) * 11400714819323198485) % 18446744073709551616 < 18446744073709551616 := Nat.mod_lt _ (by omega)
  rw [e]
  unfold mixN
  generalize ((s ^^^ x) * 11400714819323198485) % 18446744073709551616 = m at hm
  have e2 : IntKind.wrap .u64 (Int.tdiv (m : Int) 4294967296) = ((m / 4294967296 : Nat) : Int) := by rw [IntWalk.u64_quo _ _ (by omega)]; omega
  rw [e2, bXor_nat _ _ (by omega) (by omega)]
  exact ⟨rfl, rfl⟩
theorem le8_cons_drop {bs : List UInt8} {i k : Nat} {c : UInt8} (hk : bs[k]? = some c) (m : Nat) (hm : 0 < m) : le8 ((bs.drop k).take m) = c.toNat + 256 * le8 ((bs.drop (k + 1)).take (m - 1)) := by
  obtain ⟨hlt, rfl⟩ := List.getElem?_eq_some_iff.1 hk
  obtain ⟨m', rfl⟩ : ∃ m', m = m' + 1 := ⟨m - 1, by omega⟩
  rw [List.drop_eq_getElem_cons hlt, List.take_succ_cons, le8]
  rfl
def NewWords (w : World) (l : List Nat) : Post := fun r w' => ∃ s : Sl, r = .returned s.v ∧ WordsO w' s l ∧ Fr0 w w' ∧ ∀ b ∈ blkL s, w.heap.size ≤ b
theorem words_lt (bs : List UInt8) : ∀ x ∈ words bs, x < 18446744073709551616 := by
  induction hn : bs.length using Nat.strongRecOn generalizing bs with
  | _ n ih =>
    intro x hx
    by_cases h : bs = []
    · subst h; rw [words_nil] at hx; cases hx
    · rw [words_cons h] at hx
      have hp : 0 < bs.length := List.length_pos_iff.2 h
      rcases List.mem_cons.1 hx with rfl | hx
      · have h1 := le8_lt (bs.take 8)
        have h2 : (bs.take 8).length ≤ 8 := by rw [List.length_take]; omega
        have h3 : (256 : Nat) ^ (bs.take 8).length ≤ 256 ^ 8 := Nat.pow_le_pow_right (by omega) h2
        omega
      · exact ih (bs.drop 8).length (by simp; omega) (bs.drop 8) rfl x hx
theorem m_words {w0 : World} {s : Sl} {bs : List UInt8} (hb : Bytes w0 s bs) (hl : bs.length ≤ 1000000000000) : Calls Try.prog n_enthymemeref01_Words #[s.v] w0 (NewWords w0 (words bs)) := by
  have hn := Bytes.len hb
  refine enthymemeref01_Words.ok _ w0 _ ?_
  have inner : ∀ (i e : Nat) (w : World) (out : Sl) (R : Post), i < bs.length → e = min (i + 8) bs.length → Fr0 w0 w → (enthymemeref01_Words.S11 s out (i : Int) ((le8 ((bs.drop i).take 8) : Nat) : Int) w R) →
      ∀ (d : Nat), i + d ≤ e → enthymemeref01_Words.L7 s out (i : Int) ((le8 ((bs.drop (i + d)).take (e - (i + d))) : Nat) : Int) ((i : Int) + (d : Int) - 1) w R := by
    intro i e w out R hi he F hR d
    have hlast : (bs.drop i).take (e - i) = (bs.drop i).take 8 := by
      by_cases h8 : i + 8 ≤ bs.length
      · rw [show e - i = 8 by omega]
      · rw [List.take_of_length_le (by rw [List.length_drop]; omega), List.take_of_length_le (by rw [List.length_drop]; omega)]
    induction d with
    | zero =>
      intro _
      refine enthymemeref01_Words.L7_step _ _ _ _ _ _ _ (sel_false (decide_eq_false (by omega)) ?_)
      rw [Nat.add_zero, hlast]
      exact hR
    | succ d ih =>
      intro hd
      have hlt : i + d < bs.length := by omega
      have hg : bs[i + d]? = some bs[i + d] := List.getElem?_eq_getElem hlt
      generalize bs[i + d] = c at hg
      have ek : (i : Int) + ((d + 1 : Nat) : Int) - 1 = ((i + d : Nat) : Int) := by omega
      rw [ek]
      refine enthymemeref01_Words.L7_step _ _ _ _ _ _ _ (sel_true (decide_eq_true (by omega)) ⟨by omega, by omega, Bytes.cell (hb.fr0 F) hg (by rw [Int.toNat_natCast]) fun p _ hp => ⟨_, hp, ?_⟩⟩)
      have e1 := le8_cons_drop (i := i) hg (e - (i + d)) (by omega)
      rw [show i + d + 1 = i + (d + 1) by omega, show e - (i + d) - 1 = e - (i + (d + 1)) by omega] at e1
      have hb1 := le8_lt ((bs.drop (i + d)).take (e - (i + d)))
      have hb2 : ((bs.drop (i + d)).take (e - (i + d))).length ≤ 8 := by rw [List.length_take]; omega
      have hb3 : (256 : Nat) ^ ((bs.drop (i + d)).take (e - (i + d))).length ≤ 256 ^ 8 := Nat.pow_le_pow_right (by omega) hb2
      have hc := c.toNat_lt
      have ev : IntKind.wrap .u64 ((IntKind.wrap .u64 (256 * ((le8 ((bs.drop (i + (d + 1))).take (e - (i + (d + 1)))) : Nat) : Int))) + (IntKind.wrap .u64 (c.toNat : Int))) = ((le8 ((bs.drop (i + d)).take (e - (i + d))) : Nat) : Int) := by
        rw [e1]
        rw [e1] at hb1
        generalize le8 ((bs.drop (i + (d + 1))).take (e - (i + (d + 1)))) = X at hb1
        have a1 : IntKind.wrap .u64 (256 * (X : Int)) = 256 * (X : Int) := IntWalk.u64_in _ (by omega)
        have a2 : IntKind.wrap .u64 (c.toNat : Int) = (c.toNat : Int) := IntWalk.u64_in _ (by omega)
        rw [a1, a2, IntWalk.u64_in _ (by omega)]
        omega
      rw [ev]
      show enthymemeref01_Words.L7 s out (i : Int) _ (IntKind.wrap .i64 (((i + d : Nat) : Int) - 1)) w R
      rw [show IntKind.wrap .i64 (((i + d : Nat) : Int) - 1) = (i : Int) + (d : Int) - 1 from by rw [IntWalk.i64_in _ (by omega)]; omega]
      exact ih (by omega)
  have outer : ∀ (m i : Nat), bs.length ≤ i + m → i ≤ bs.length + 7 → ∀ (pre : List Nat) (w : World) (out : Sl), pre.length ≤ i → pre ++ words (bs.drop i) = words bs → Fr0 w0 w → WordsO w out pre → (∀ x ∈ blkL out, w0.heap.size ≤ x) →
      enthymemeref01_Words.L3 s out (i : Int) w (NewWords w0 (words bs)) := by
    intro m
    induction m using Nat.strongRecOn with
    | _ m ih =>
      intro i hd hi pre w out hpl he F ho hx
      refine enthymemeref01_Words.L3_step _ _ _ _ _ (sel_intro (fun h => ?_) (fun h => ?_))
      · have hlt : i < bs.length := by have := of_decide_eq_true h; omega
        have hne : bs.drop i ≠ [] := fun e => by have := congrArg List.length e; rw [List.length_drop, List.length_nil] at this; omega
        obtain ⟨e, hee⟩ : ∃ e, e = min (i + 8) bs.length := ⟨_, rfl⟩
        have e1 : IntKind.wrap .i64 ((i : Int) + 8) = ((i + 8 : Nat) : Int) := by rw [IntWalk.i64_in _ (by omega)]; omega
        have e2 : IntKind.wrap .i64 ((if ((s.n : Nat) : Int) < IntKind.wrap .i64 ((i : Int) + 8) then ((s.n : Nat) : Int) else IntKind.wrap .i64 ((i : Int) + 8)) - 1) = (i : Int) + ((e - i : Nat) : Int) - 1 := by
          rw [e1, hn]
          split
          · rw [IntWalk.i64_in _ (by omega)]; omega
          · rw [IntWalk.i64_in _ (by omega)]; omega
        show enthymemeref01_Words.L7 s out (i : Int) 0 _ w _
        rw [e2]
        have e3 : (0 : Int) = ((le8 ((bs.drop (i + (e - i))).take (e - (i + (e - i)))) : Nat) : Int) := by
          rw [show e - (i + (e - i)) = 0 by omega, List.take_zero]; rfl
        rw [e3]
        refine inner i e w out _ hlt hee F ?_ (e - i) (by omega)
        unfold enthymemeref01_Words.S11
        intro w1
        have f1 : Fr0 w w1 := Fr.alloc _ _ _
        obtain ⟨t, w2, g1, g2, g3, g4, _⟩ := append_ow (ty := ty_sl_uint64) (src := ⟨some ⟨w.heap.size, 0, none⟩, 1, 1⟩) el_words (ho.fr0 f1) (one_rd w ty_uint64 [u64V (le8 ((bs.drop i).take 8))] (by simp)) (u64V_one [_]) (by simp; omega)
        have F1 := F.tr0 f1
        refine ⟨t, w2, g1, ?_⟩
        show enthymemeref01_Words.L3 s t (IntKind.wrap .i64 ((i : Int) + 8)) w2 _
        rw [e1]
        refine ih (m - 8) (by omega) (i + 8) (by omega) (by omega) (pre ++ [le8 ((bs.drop i).take 8)]) w2 t (by simp; omega) ?_ (F1.trn g3 hx) (by show Ow _ _ _ ((pre ++ [_]).map u64V); rw [List.map_append]; exact g2) fun x hxx => ?_
        · rw [words_cons hne, List.drop_drop] at he
          rw [List.append_assoc]
          exact he
        · rcases g4 x hxx with h | h
          · exact hx x h
          · have := F1.size; omega
      · have hge : bs.length ≤ i := by have := of_decide_eq_false h; omega
        rw [List.drop_of_length_le hge, words_nil, List.append_nil] at he
        rw [he] at ho
        exact ⟨out, rfl, ho, F, hx⟩
  exact outer bs.length 0 (by omega) (by omega) [] w0 ⟨none, 0, 0⟩ (by simp) (by simp) (Fr.refl _ _) (Ow.nil _ _) (by simp [blkL])
theorem m_sum {w : World} {s : Sl} {l : List Int} (label : ByteArray) (hs : Nums w s l) (hl : l.length ≤ 1000000000000) (hla : label.size ≤ 1000000000000) :
    Calls Try.prog n_enthymemeref01_Sum #[.string label, s.v] w fun r w' => r = .returned (.int .u64 ((sumH (bl label) l : Nat) : Int)) ∧ Fr0 w w' := by
  have hsn := Nums.len hs
  refine enthymemeref01_Sum.ok _ _ w _ ?_
  obtain ⟨t, w1, g1, t1, f1, n1⟩ := str_bytes w label
  refine ⟨t, w1, g1, (m_words t1 (by rw [bl_len]; omega)).mono ?_⟩
  rintro r w2 ⟨ws, rfl, o2, f2, n2⟩
  have F2 := f1.tr0 f2
  refine ⟨ws, rfl, ?_⟩
  have hwn : ws.n = (words (bl label)).length := by simpa using o2.1
  have hwl := words_len (bl label)
  rw [bl_len] at hwl
  have hs2 := hs.fr0 F2
  have last : ∀ (d i v : Nat), i + d = l.length → v < 18446744073709551616 → enthymemeref01_Sum.L11 s (v : Int) (i : Int) w2 fun r w' => r = .returned (.int .u64 ((mixN (((l.drop i).map u64I).foldl mixN v) 0 : Nat) : Int)) ∧ Fr0 w w' := by
    intro d
    induction d with
    | zero =>
      intro i v hi hv
      refine enthymemeref01_Sum.L11_step _ _ _ _ _ (sel_false (decide_eq_false (by omega)) ((m_mix v 0 hv (by omega) w2).mono ?_))
      rintro r w3 ⟨rfl, rfl⟩
      rw [List.drop_of_length_le (by omega)]
      exact ⟨_, rfl, rfl, F2⟩
    | succ d ih =>
      intro i v hi hv
      have hlt : i < l.length := by omega
      have hg : l[i]? = some l[i] := List.getElem?_eq_getElem hlt
      have hd : (l.drop i).map u64I = u64I l[i] :: (l.drop (i + 1)).map u64I := by rw [List.drop_eq_getElem_cons hlt]; rfl
      rw [hd]
      generalize l[i] = x at hg
      refine enthymemeref01_Sum.L11_step _ _ _ _ _ (sel_true (decide_eq_true (by omega)) ⟨by omega, by omega, Nums.cell hs2 hg (by rw [Int.toNat_natCast]) fun p _ hp => ⟨_, hp, ?_⟩⟩)
      rw [show IntKind.wrap .u64 x = ((u64I x : Nat) : Int) from by rw [IntKind.wrap_u64]; unfold u64I; omega]
      refine (m_mix v (u64I x) hv (u64I_lt x) w2).mono ?_
      rintro r w3 ⟨rfl, rfl⟩
      refine ⟨_, rfl, ?_⟩
      show enthymemeref01_Sum.L11 s _ (IntKind.wrap .i64 ((i : Int) + 1)) w2 _
      rw [i64_next i (by omega)]
      exact ih (i + 1) _ (by omega) (mixN_lt _ _)
  have first : ∀ (d i v : Nat), i + d = (words (bl label)).length → v < 18446744073709551616 → ((words (bl label)).drop i).foldl mixN v = (words (bl label)).foldl mixN 0 →
      enthymemeref01_Sum.L4 label s (v : Int) ws (i : Int) w2 fun r w' => r = .returned (.int .u64 ((sumH (bl label) l : Nat) : Int)) ∧ Fr0 w w' := by
    intro d
    induction d with
    | zero =>
      intro i v hi hv he
      rw [List.drop_of_length_le (by omega)] at he
      simp only [List.foldl_nil] at he
      refine enthymemeref01_Sum.L4_step _ _ _ _ _ _ _ (sel_false (decide_eq_false (by omega)) ?_)
      unfold enthymemeref01_Sum.S8
      rw [u64_nat _ (by omega)]
      refine (m_mix v label.size hv (by omega) w2).mono ?_
      rintro r w3 ⟨rfl, rfl⟩
      refine ⟨_, rfl, ?_⟩
      unfold enthymemeref01_Sum.S9
      rw [hsn, u64_nat _ (by omega)]
      refine (m_mix _ l.length (mixN_lt _ _) (by omega) w2).mono ?_
      rintro r w3 ⟨rfl, rfl⟩
      refine ⟨_, rfl, ?_⟩
      have := last l.length 0 _ (by omega) (mixN_lt (mixN v label.size) l.length)
      rw [List.drop_zero] at this
      unfold sumH
      rw [bl_len, ← he]
      exact this
    | succ d ih =>
      intro i v hi hv he
      have hlt : i < (words (bl label)).length := by omega
      have hg : (words (bl label))[i]? = some (words (bl label))[i] := List.getElem?_eq_getElem hlt
      rw [List.drop_eq_getElem_cons hlt, List.foldl_cons] at he
      have hx := words_lt (bl label) _ (List.getElem_mem hlt)
      generalize (words (bl label))[i] = x at hg he hx
      refine enthymemeref01_Sum.L4_step _ _ _ _ _ _ _ (sel_true (decide_eq_true (by omega)) ⟨by omega, by omega, WordsR.cell o2.rd hg (by rw [Int.toNat_natCast]) fun p _ hp => ⟨_, hp, (m_mix v x hv hx w2).mono ?_⟩⟩)
      rintro r w3 ⟨rfl, rfl⟩
      refine ⟨_, rfl, ?_⟩
      show enthymemeref01_Sum.L4 label s _ ws (IntKind.wrap .i64 ((i : Int) + 1)) w2 _
      rw [i64_next i (by omega)]
      exact ih (i + 1) _ (by omega) (mixN_lt _ _) he
  exact first (words (bl label)).length 0 0 (by omega) (by omega) (by rw [List.drop_zero])
theorem m_bytes {w : World} {s : Sl} {bs : List UInt8} (label : ByteArray) (hs : Bytes w s bs) (hl : bs.length ≤ 100000000000) (hla : label.size ≤ 1000000000000) :
    Calls Try.prog n_enthymemeref01_Bytes #[.string label, s.v] w fun r w' => r = .returned (.int .u64 ((bytesH (bl label) bs : Nat) : Int)) ∧ Fr0 w w' := by
  have hn := Bytes.len hs
  refine enthymemeref01_Bytes.ok _ _ w _ ((m_words hs (by omega)).mono ?_)
  rintro r w1 ⟨ws, rfl, o1, f1, n1⟩
  refine ⟨ws, rfl, ?_⟩
  have hwn : ws.n = (words bs).length := by simpa using o1.1
  have hwl := words_len bs
  have lt1 := o1.lt
  have loop : ∀ (d i : Nat), i + d = (words bs).length → ∀ (w2 : World) (t : Sl), Fr0 w1 w2 → NumsO w2 t (((words bs).take i).map i64N) → (∀ x ∈ blkL t, w1.heap.size ≤ x) →
      enthymemeref01_Bytes.L4 label s ws t (i : Int) w2 fun r w' => r = .returned (.int .u64 ((bytesH (bl label) bs : Nat) : Int)) ∧ Fr0 w w' := by
    intro d
    induction d with
    | zero =>
      intro i hi w2 t F ho hx
      rw [List.take_of_length_le (by omega)] at ho
      refine enthymemeref01_Bytes.L4_step _ _ _ _ _ _ _ (sel_false (decide_eq_false (by omega)) ?_)
      unfold enthymemeref01_Bytes.S8
      intro w3
      have f3 : Fr0 w2 w3 := Fr.alloc _ _ _
      obtain ⟨t', w4, q1, q2, q3, q4, _⟩ := append_nums (ty := ty_sl_int) (src := ⟨some ⟨w2.heap.size, 0, none⟩, 1, 1⟩) (ho.fr0 f3) (one_num w2 ((s.n : Nat) : Int)) (by simp; omega)
      have F4 : Fr0 w w4 := f1.tr0 ((F.tr0 f3).trn q3 hx)
      refine ⟨t', w4, q1, (m_sum label q2.rd (by simp; omega) hla).mono ?_⟩
      rintro r w5 ⟨rfl, f5⟩
      refine ⟨_, rfl, ?_, F4.tr0 f5⟩
      unfold bytesH
      rw [hn]
    | succ d ih =>
      intro i hi w2 t F ho hx
      have hlt : i < (words bs).length := by omega
      have hg : (words bs)[i]? = some (words bs)[i] := List.getElem?_eq_getElem hlt
      have ht : (words bs).take (i + 1) = (words bs).take i ++ [(words bs)[i]] := by rw [List.take_add_one, hg]; rfl
      generalize (words bs)[i] = x at hg ht
      refine enthymemeref01_Bytes.L4_step _ _ _ _ _ _ _ (sel_true (decide_eq_true (by omega)) ⟨by omega, by omega, WordsR.cell (o1.rd.fr0 F) hg (by rw [Int.toNat_natCast]) fun p _ hp => ⟨_, hp, ?_⟩⟩)
      intro w3
      have f3 : Fr0 w2 w3 := Fr.alloc _ _ _
      obtain ⟨t', w4, q1, q2, q3, q4, _⟩ := append_nums (ty := ty_sl_int) (src := ⟨some ⟨w2.heap.size, 0, none⟩, 1, 1⟩) (ho.fr0 f3) (one_num w2 (i64N x)) (by simp; omega)
      refine ⟨t', w4, q1, ?_⟩
      show enthymemeref01_Bytes.L4 label s ws t' (IntKind.wrap .i64 ((i : Int) + 1)) w4 _
      rw [i64_next i (by omega)]
      refine ih (i + 1) (by omega) w4 t' ((F.tr0 f3).trn q3 hx) ?_ fun y hy => ?_
      · rw [ht, List.map_append]; exact q2
      · rcases q4 y hy with h | h
        · exact hx y h
        · have := (F.tr0 f3).size; omega
  exact loop (words bs).length 0 (by omega) w1 ⟨none, 0, 0⟩ (Fr.refl _ _) (Ow.nil _ _) (by simp [blkL])
end Go.Proofs.Ytpfomlenbhocpaa

/- The law's helpers and the reference's generators: the contracts. -/
import Derived.Test.YtemagdpieebjlaaM4
import Derived.Test.YtemagdpieebjlaaVR
namespace Go.Proofs.Ytemagdpieebjlaa
open Go Go.W

theorem toksC_get : ∀ {L : List Tok} {i : Nat} {t : Tok}, L[i]? = some t → (toksC L)[i * 3 + 0]? = some (.int .i64 t.kind) ∧ (toksC L)[i * 3 + 1]? = some (.string (ba t.text)) ∧ (toksC L)[i * 3 + 2]? = some (.int .i64 (t.at' : Int))
  | [], i, t, h => by simp at h
  | a :: L, 0, t, h => by
    simp at h; subst h
    exact ⟨rfl, rfl, rfl⟩
  | a :: L, i + 1, t, h => by
    have := toksC_get (L := L) (i := i) (t := t) (by simpa using h)
    have e : toksC (a :: L) = .int .i64 a.kind :: .string (ba a.text) :: .int .i64 (a.at' : Int) :: toksC L := rfl
    rw [e, show (i + 1) * 3 = i * 3 + 3 from by omega]
    exact this
theorem tok_at {w : World} {e : TypeId} {sl : Sl} {L : List Tok} (h : OwnRow w e 3 sl (toksC L)) {i : Nat} {t : Tok} (hi : L[i]? = some t) {K : Addr → Prop}
    (hk : ∀ p, sl.a = some p → w.cell? ((p.add (i * 3)).add 0) = some (.int .i64 t.kind) → w.cell? ((p.add (i * 3)).add 1) = some (.string (ba t.text)) → w.cell? ((p.add (i * 3)).add 2) = some (.int .i64 (t.at' : Int)) → K p) : optP sl.a K := by
  obtain ⟨g0, g1, g2⟩ := toksC_get hi
  have hc := h.row.crow
  obtain ⟨p, ha, c0⟩ := hc.2 _ _ g0
  obtain ⟨p1, ha1, c1⟩ := hc.2 _ _ g1
  obtain ⟨p2, ha2, c2⟩ := hc.2 _ _ g2
  rw [ha] at ha1 ha2
  cases ha1; cases ha2
  rw [ha]
  exact hk p ha (by rw [add_add]; exact c0) (by rw [add_add]; exact c1) (by rw [add_add]; exact c2)
theorem toks_n {w : World} {e : TypeId} {sl : Sl} {L : List Tok} (h : OwnRow w e 3 sl (toksC L)) : sl.n = L.length := by
  have := OwnRow.len h
  rw [toksC_len] at this
  omega
theorem l_plain (a : Sl) (L : List Tok) (w : World) (h : OwnRow w ty_lexer_Token 3 a (toksC L)) (hL : L.length ≤ 1000000) : Calls Try.prog n_enthymemelaw09_plain #[a.v] w fun r w' => ∃ sl : Sl, r = .returned sl.v ∧ OwnRow w' ty_enthymemeref09_Token 3 sl (toksC L) ∧ Fr0 w w' ∧ ∀ b ∈ blkL sl, w.heap.size ≤ b := by
  refine enthymemelaw09_plain.ok _ w _ ?_
  have hn := toks_n h
  have loop : ∀ (l acc : List Tok) (out : Sl) (w1 : World), acc ++ l = L → LH F0 w w1 [.row ty_enthymemeref09_Token 3 out (toksC acc)] [.row ty_lexer_Token 3 a (toksC L)] → enthymemelaw09_plain.L3 a out ((acc.length : Nat) : Int) w1 fun r w' => ∃ sl : Sl, r = .returned sl.v ∧ OwnRow w' ty_enthymemeref09_Token 3 sl (toksC L) ∧ Fr0 w w' ∧ ∀ b ∈ blkL sl, w.heap.size ≤ b := by
    intro l
    induction l with
    | nil =>
      intro acc out w1 he H
      rw [List.append_nil] at he
      subst he
      exact enthymemelaw09_plain.L3_step _ _ _ _ _ (sel_false (decide_eq_false (by omega)) ⟨out, rfl, H.get 0, H.fr, fun b hb => (H.new _ (List.mem_of_getElem? (i := 0) rfl) b hb).resolve_right id⟩)
    | cons t l ih =>
      intro acc out w1 he H
      have hlt : acc.length < L.length := by rw [← he]; simp
      have hi : L[acc.length]? = some t := by rw [← he]; simp
      have hon := toks_n (H.get 0)
      refine enthymemelaw09_plain.L3_step _ _ _ _ _ (sel_true (decide_eq_true (by omega)) (H.dr fun w2 H2 => ⟨by omega, by omega, ?_⟩))
      rw [Int.toNat_natCast]
      refine tok_at (H2.getD 0) hi fun p ha c0 c1 c2 => ⟨_, c0, by omega, by omega, ?_⟩
      rw [ha]
      refine ⟨_, c1, by omega, by omega, ?_⟩
      refine ⟨_, c2, ?_⟩
      show nwV w2 _ _
      have back : ∀ {w3 : World} {L' : List En}, LH F0 w w3 L' [.row ty_lexer_Token 3 a (toksC L)] → w3.cell? ((p.add (acc.length * 3)).add 2) = some (.int .i64 (t.at' : Int)) ∧ w3.cell? ((p.add (acc.length * 3)).add 1) = some (.string (ba t.text)) ∧ w3.cell? ((p.add (acc.length * 3)).add 0) = some (.int .i64 t.kind) := fun H3 => by
        have := tok_at (H3.getD 0) hi (K := fun q => w2 = w2 → _) (fun q hq d0 d1 d2 => fun _ => (show _ from ⟨q, hq, d0, d1, d2⟩ : ∃ q, a.a = some q ∧ _ ∧ _ ∧ _))
        rw [ha] at this
        obtain ⟨q, hq, d0, d1, d2⟩ := this rfl
        cases hq
        exact ⟨d2, d1, d0⟩
      have H3 : LH F0 w (w2.alloc (.cells #[.int .i64 t.kind, .string (ba t.text), .int .i64 (t.at' : Int)] ty_enthymemeref09_Token)) _ _ := H2.fr0 (Fr.alloc _ _ _)
      obtain ⟨b2, b1, b0⟩ := back H3
      refine ⟨b2, b1, b0, ?_⟩
      obtain ⟨sl', w4, hr, H4, hn4, _⟩ := H3.ap 0 el_rtoks (ty := ty_sl_enthymemeref09_Token) (src := ⟨some (at0 w2.heap.size), 1, 1⟩) (news := tokC t) (K := fun s' w' => LH F0 w w' [.row ty_enthymemeref09_Token 3 s' (toksC acc ++ tokC t)] [.row ty_lexer_Token 3 a (toksC L)] ∧ True ∧ True) rfl ((Row.made w2 ty_enthymemeref09_Token 1 1 (tokC t)).crow) rfl (by simp [tokC, Value.oneCell']) (by show (out.n + 1) * 32 ≤ _; omega) (fun s' w' h _ _ => ⟨h, trivial, trivial⟩)
      obtain ⟨e2, e1, e0⟩ := back H4
      refine ⟨sl', w4, hr, e2, e1, e0, ?_⟩
      show enthymemelaw09_plain.L3 _ _ (IntKind.wrap .i64 (((acc.length : Nat) : Int) + 1)) _ _
      rw [i64_next _ (by omega)]
      have := ih (acc ++ [t]) sl' w4 (by rw [← he]; simp) (by rw [toksC_snoc]; exact H4)
      rw [List.length_append] at this
      exact this
  exact loop L [] ⟨none, 0, 0⟩ w rfl ((LH.start (M := F0) [.row ty_lexer_Token 3 a (toksC L)] (by simp; exact h)).nilrow _ _)
theorem r_Same (a b : Sl) (ea eb : TypeId) (L : List Tok) (w : World) (ha : OwnRow w ea 3 a (toksC L)) (hb : OwnRow w eb 3 b (toksC L)) (hL : L.length ≤ 1000000) : Calls Try.prog n_enthymemeref09_Same #[a.v, b.v] w fun r w' => r = .returned (.bool true) ∧ Fr0 w w' := by
  have na := toks_n ha
  have nb := toks_n hb
  refine enthymemeref09_Same.ok _ _ w _ (sel_ne (fun h => absurd (by omega) h) (fun _ => ?_))
  have loop : ∀ (d k : Nat) (w1 : World), k + d = L.length → LH F0 w w1 [] [.row ea 3 a (toksC L), .row eb 3 b (toksC L)] → enthymemeref09_Same.L4 a b (k : Int) w1 fun r w' => r = .returned (.bool true) ∧ Fr0 w w' := by
    intro d
    induction d with
    | zero =>
      intro k w1 hk H
      exact enthymemeref09_Same.L4_step _ _ _ _ _ (sel_false (decide_eq_false (by omega)) ⟨rfl, H.fr⟩)
    | succ d ih =>
      intro k w1 hk H
      have hi : L[k]? = some (L[k]'(by omega)) := List.getElem?_eq_getElem (by omega)
      generalize L[k]'(by omega) = t at hi
      refine enthymemeref09_Same.L4_step _ _ _ _ _ (sel_true (decide_eq_true (by omega)) (H.dr fun w2 H2 => ⟨by omega, by omega, ?_⟩))
      rw [Int.toNat_natCast]
      refine tok_at (H2.getD 0) hi fun p _ c0 c1 c2 => ⟨_, _, _, c0, c1, c2, by omega, by omega, ?_⟩
      refine tok_at (H2.getD 1) hi fun q _ d0 d1 d2 => ⟨_, _, _, d0, d1, d2, ?_⟩
      refine sel_false (by simp) ?_
      show enthymemeref09_Same.L4 _ _ (IntKind.wrap .i64 ((k : Int) + 1)) _ _
      rw [i64_next _ (by omega)]
      exact ih (k + 1) w2 (by omega) H2
  refine loop L.length 0 w (by omega) (LH.start _ ?_)
  simp only [List.mem_cons, List.not_mem_nil, or_false]
  rintro e (rfl | rfl)
  · exact ha
  · exact hb
theorem r_Short (s : ByteArray) (m : Nat) (w : World) : Calls Try.prog n_enthymemeref01_Short #[.string s, .int .i64 (m : Int)] w fun r w' => (∃ t : ByteArray, r = .returned (.string t) ∧ t.size ≤ m ∧ t = s.extract 0 m) ∧ w = w' := by
  refine enthymemeref01_Short.ok _ _ w _ (sel_dec (fun h => ⟨by omega, by omega, ⟨_, rfl, ?_, by rw [Int.toNat_natCast]⟩, rfl⟩) (fun h => ⟨⟨_, rfl, by omega, ?_⟩, rfl⟩))
  · rw [Int.toNat_natCast, ← bl_len, bl_extract]; simp; exact Nat.min_le_left _ _
  · have : bl (s.extract 0 m) = bl s := by rw [bl_extract, List.drop_zero, List.take_of_length_le (by rw [bl_len]; omega)]
    exact (congrArg ba this).symm
theorem str_at (ts : List ByteArray) (h : ∀ t ∈ ts, t.size ≤ 17) (j : Nat) (hj : j < ts.length) : ∃ t : ByteArray, (ts.map Value.string)[j]? = some (.string t) ∧ t.size ≤ 17 :=
  ⟨ts[j], by rw [List.getElem?_map, List.getElem?_eq_getElem hj]; rfl, h _ (List.getElem_mem hj)⟩
theorem r_piece (n : Int) (hn : I64 n) (w : World) : Calls Try.prog n_enthymemeref09_piece #[.int .i64 n] w fun r w' => (∃ t : ByteArray, r = .returned (.string t) ∧ t.size ≤ 18) ∧ Fr0 w w' := by
  refine enthymemeref09_piece.ok _ w _ ((around_any n 1048576 w (by omega) hn).mono ?_)
  rintro r w0 ⟨rfl, rfl⟩
  have hr := aroundI_range n 1048576 (by omega)
  refine ⟨_, rfl, ?_⟩
  obtain ⟨k, hk⟩ := Int.eq_ofNat_of_zero_le hr.1
  rw [hk] at hr ⊢
  have e5 : IntKind.wrap .i64 (Int.tdiv (k : Int) 5) = ((k / 5 : Nat) : Int) := by
    rw [show Int.tdiv (k : Int) 5 = ((k / 5 : Nat) : Int) from rfl]; exact IntWalk.i64_in _ (by omega)
  have idx : ∀ m : Nat, Int.tmod (IntKind.wrap .i64 (Int.tdiv (k : Int) 5)) (m : Int) = ((k / 5 % m : Nat) : Int) := fun m => by rw [e5]; rfl
  have pick : ∀ {L : List En} {w1 : World} {b : Nat} {T : TypeId} (ts : List ByteArray) (m i : Nat), LH F0 w w1 L [] → L[i]? = some (.c b (ts.map Value.string) T) → ts.length = m → 0 < m → (∀ t ∈ ts, t.size ≤ 17) → ∃ t : ByteArray, t.size ≤ 17 ∧
      ((m : Nat) : Int) ≠ 0 ∧ (0 : Int) ≤ Int.tmod (IntKind.wrap .i64 (Int.tdiv (k : Int) 5)) (m : Int) ∧ Int.tmod (IntKind.wrap .i64 (Int.tdiv (k : Int) 5)) (m : Int) < (m : Int) ∧ w1.cell? ((at0 b).add (Int.toNat (Int.tmod (IntKind.wrap .i64 (Int.tdiv (k : Int) 5)) (m : Int)) * 1)) = some (.string t) := by
    intro L w1 b T ts m i H hi hm h0 hs
    have hlt := Nat.mod_lt (k / 5) h0
    obtain ⟨t, ht, hsz⟩ := str_at ts hs (k / 5 % m) (by omega)
    refine ⟨t, hsz, by omega, by rw [idx]; omega, by rw [idx]; omega, ?_⟩
    rw [idx, Int.toNat_natCast, Nat.mul_one]
    exact H.ld i _ hi ht
  refine (LH.start (M := F0) [] (by simp)).nw fun w1 _ H1 => sel_dec (fun h => ?_) (fun h => ?_)
  · obtain ⟨t, ht, h1, h2, h3, h4⟩ := pick (b := w.heap.size) (T := ty_string) [ByteArray.mk #[40], ByteArray.mk #[41], ByteArray.mk #[110, 111, 116], ByteArray.mk #[120, 45, 49], ByteArray.mk #[98, 118, 97, 100, 100], ByteArray.mk #[97], ByteArray.mk #[97, 98, 99, 100, 101, 102, 103, 104, 105, 106, 107, 108, 109, 110, 111, 112], ByteArray.mk #[48], ByteArray.mk #[53], ByteArray.mk #[52, 48, 57, 54], ByteArray.mk #[49, 48, 57, 57, 53, 49, 49, 54, 50, 55, 55, 55, 54], ByteArray.mk #[35, 98, 48, 49], ByteArray.mk #[35, 120, 102, 102], ByteArray.mk #[35, 98, 49]] 14 0 H1 rfl rfl (by omega) (by decide)
    refine ⟨h1, h2, h3, t, h4, ?_, ⟨_, rfl, ?_⟩, H1.fr⟩
    · rw [show (ByteArray.mk #[32]).size = 1 from rfl]
      show ¬ _ > (9223372036854775807 : Int)
      omega
    · rw [← bl_len, bl_app, List.length_append, bl_len]
      show _ + 1 ≤ 18
      omega
  · refine H1.nwx fun w2 _ H2 hb => ?_
    obtain ⟨q3, hq3, hrd⟩ : ∃ q3 : List UInt8, q3.length = 3 ∧ Rd w2 ⟨some (at0 w1.heap.size), 3, 3⟩ (q3.map byteV) := by
      have e : ∀ z : Int, IntKind.wrap .u8 z = (((UInt8.ofNat (z % 256).toNat).toNat : Nat) : Int) := fun z => by
        rw [IntKind.wrap_u8, UInt8.toNat_ofNat']; omega
      rw [e, e (IntKind.wrap .i64 (Int.tdiv _ 7))] at hb
      exact ⟨[UInt8.ofNat _, 97, UInt8.ofNat _], rfl, rd_block (vs := List.map byteV _) hb rfl⟩
    have hs3 : (ba q3).size = 3 := by rw [← bl_len]; exact hq3
    refine ⟨ba q3, bytes_str (s := ⟨some (at0 w1.heap.size), 3, 3⟩) hrd, (r_Quote (ba q3) (by omega) w2).mono ?_⟩
    rintro r w3 ⟨rfl, f3⟩
    refine ⟨_, rfl, (r_Quote _ (by decide) w3).mono ?_⟩
    rintro r w4 ⟨rfl, f4⟩
    have qs : ∀ l : List UInt8, l.length ≤ 3 → (ba (quoteB l)).size ≤ 17 := fun l hl => by
      rw [← bl_len, bl_ba]
      have := (esc_len l).2
      unfold quoteB
      simp only [List.length_append, List.length_cons, List.length_nil]
      omega
    refine ⟨_, rfl, ((H2.fr0 f3).fr0 f4).nw fun w5 _ H5 => sel_eq (fun h3 => ?_) (fun h3 => ?_)⟩
    · obtain ⟨t, ht, h1, h2, h3, h4⟩ := pick (b := w4.heap.size) (T := ty_string) [ByteArray.mk #[32], ByteArray.mk #[10], ByteArray.mk #[59, 32, 99, 32, 40, 10], ba (quoteB (bl (ba q3))), ba (quoteB (bl (ByteArray.mk #[97, 98]))), ByteArray.mk #[40], ByteArray.mk #[41], ByteArray.mk #[9], ByteArray.mk #[13]] 9 1 H5 rfl rfl (by omega) (by
        intro t ht
        simp only [List.mem_cons, List.not_mem_nil, or_false] at ht
        rcases ht with rfl | rfl | rfl | rfl | rfl | rfl | rfl | rfl | rfl
        · decide
        · decide
        · decide
        · exact qs _ (by rw [bl_ba]; omega)
        · exact qs _ (by decide)
        all_goals decide)
      exact ⟨h1, h2, h3, t, h4, ⟨_, rfl, by omega⟩, H5.fr⟩
    · refine H5.nw fun w6 _ H6 => sel_eq (fun h3 => ?_) (fun h3 => ⟨⟨_, rfl, by decide⟩, H6.fr⟩)
      obtain ⟨t, ht, h1, h2, h3, h4⟩ := pick (b := w5.heap.size) (T := ty_string) [ByteArray.mk #[48, 49], ByteArray.mk #[35, 98], ByteArray.mk #[35, 98, 50], ByteArray.mk #[35, 120, 49, 103], ByteArray.mk #[53, 97], ByteArray.mk #[65], ByteArray.mk #[97, 98, 99, 100, 101, 102, 103, 104, 105, 106, 107, 108, 109, 110, 111, 112, 113], ByteArray.mk #[49, 50, 51, 52, 53, 54, 55, 56, 57, 48, 49, 50, 51, 52], ByteArray.mk #[34], ByteArray.mk #[34, 92], ByteArray.mk #[34, 92, 120, 49], ByteArray.mk #[34, 92, 113, 34], ByteArray.mk #[45], ByteArray.mk #[35], ByteArray.mk #[97, 35, 98], ByteArray.mk #[59], ByteArray.mk #[34, 97, 34, 98], ByteArray.mk #[97, 34, 98, 34], ByteArray.mk #[120, 40], ByteArray.mk #[95]] 20 2 H6 rfl rfl (by omega) (by decide)
      exact ⟨h1, h2, h3, t, h4, ⟨_, rfl, by omega⟩, H6.fr⟩
end Go.Proofs.Ytemagdpieebjlaa

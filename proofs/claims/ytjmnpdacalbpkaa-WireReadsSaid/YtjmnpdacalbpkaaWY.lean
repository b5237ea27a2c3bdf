/- The reference of chapter 2: the contracts of its encoders. -/
import Derived.Test.YtjmnpdacalbpkaaRou
import Derived.Test.YtjmnpdacalbpkaaVD
namespace Go.Proofs.Ytjmnpdacalbpkaa
open Go Go.W

theorem grow_bytes {w0 w : World} {s src : Sl} {xs ys : List UInt8} (F : Fr0 w0 w) (ho : BytesO w s xs) (hn : ∀ x ∈ blkL s, w0.heap.size ≤ x) (hr : Bytes w src ys) (hb : xs.length + ys.length ≤ 100000000000000) :
    ∃ s' w', (Builtin.append_ #[ty_sl_uint8, ty_sl_uint8] ty_sl_uint8 #[s.v, src.v]).run Try.prog w = .ok s'.v w' ∧ BytesO w' s' (xs ++ ys) ∧ Fr0 w0 w' ∧ (∀ x ∈ blkL s', w0.heap.size ≤ x) := by
  obtain ⟨s', w', g1, g2, g3, g4, _⟩ := append_bytes (ty := ty_sl_uint8) ho hr (by omega)
  exact ⟨s', w', g1, g2, fr_own F hn g3, new_own F hn g4⟩
theorem grow_byte {w0 w : World} {s : Sl} {xs : List UInt8} (F : Fr0 w0 w) (ho : BytesO w s xs) (hn : ∀ x ∈ blkL s, w0.heap.size ≤ x) (c : UInt8) (hb : xs.length ≤ 10000000000000) :
    ∃ s' w', (Builtin.append_ #[ty_sl_uint8, ty_sl_uint8] ty_sl_uint8 #[s.v, .slice (some (Addr.mk w.heap.size 0 none)) 1 1]).run Try.prog (w.alloc (.cells #[.int .u8 (c.toNat : Int)] ty_uint8)) = .ok s'.v w' ∧ BytesO w' s' (xs ++ [c]) ∧ Fr0 w0 w' ∧ (∀ x ∈ blkL s', w0.heap.size ≤ x) := by
  have f1 : Fr0 w (w.alloc (.cells #[.int .u8 (c.toNat : Int)] ty_uint8)) := Fr.alloc _ _ _
  exact grow_bytes (src := ⟨some ⟨w.heap.size, 0, none⟩, 1, 1⟩) (F.tr0 f1) (ho.fr0 f1) hn (one_byte w c) (by simp; omega)
theorem e_uint_loop {w0 : World} : ∀ (n : Nat) (w : World) (out : Sl) (bs : List UInt8), n < 18446744073709551616 → bs.length + (encU n).length ≤ 100 → Fr0 w0 w → BytesO w out bs → (∀ x ∈ blkL out, w0.heap.size ≤ x) →
    enthymemeref02_Uint.L2 (n : Int) out w (NewBytes w0 (bs ++ encU n)) := by
  intro n
  induction n using Nat.strongRecOn with
  | _ n ih =>
    intro w out bs hn hl F ho hx
    refine enthymemeref02_Uint.L2_step _ _ _ _ (sel_intro (fun h => ?_) (fun h => ?_))
    · have hn' : ¬ n < 128 := by have := of_decide_eq_true h; omega
      rw [encU_large hn'] at hl ⊢
      have e : IntKind.wrap .u8 (IntKind.wrap .u64 (128 + (Int.tmod (n : Int) 128))) = ((UInt8.ofNat (n % 128 + 128)).toNat : Int) := by
        rw [IntWalk.rem_in _ _ (by omega), IntWalk.u64_in _ (by omega), IntWalk.u8_in _ (by omega)]
        simp
        omega
      unfold enthymemeref02_Uint.S4
      rw [e]
      obtain ⟨s', w', g1, g2, g3, g4⟩ := grow_byte F ho hx (UInt8.ofNat (n % 128 + 128)) (by simp at hl; omega)
      refine ⟨s', w', g1, ?_⟩
      show enthymemeref02_Uint.L2 (IntKind.wrap .u64 (Int.tdiv (n : Int) 128)) s' w' _
      rw [IntWalk.u64_quo _ _ (by omega), show ((n : Int) / 128) = ((n / 128 : Nat) : Int) from rfl, show bs ++ UInt8.ofNat (n % 128 + 128) :: encU (n / 128) = (bs ++ [UInt8.ofNat (n % 128 + 128)]) ++ encU (n / 128) by simp]
      exact ih (n / 128) (by omega) w' s' _ (by omega) (by simp at hl ⊢; omega) g3 g2 g4
    · have hn' : n < 128 := by have := of_decide_eq_false h; omega
      rw [encU_small hn'] at hl ⊢
      unfold enthymemeref02_Uint.S6
      rw [show IntKind.wrap .u8 (n : Int) = ((UInt8.ofNat n).toNat : Int) from by rw [u8_nat]; simp]
      obtain ⟨s', w', g1, g2, g3, g4⟩ := grow_byte F ho hx (UInt8.ofNat n) (by simp at hl; omega)
      exact ⟨s', w', g1, s', rfl, g2, g3, g4⟩
theorem e_uint (n : Nat) (hn : n < 18446744073709551616) (w : World) : Calls Try.prog n_enthymemeref02_Uint #[.int .u64 (n : Int)] w (NewBytes w (encU n)) := by
  have := encU_len10 n hn
  exact enthymemeref02_Uint.ok _ w _ (e_uint_loop n w ⟨none, 0, 0⟩ [] hn (by simp; omega) (Fr.refl _ _) (Ow.nil _ _) (by simp [blkL]))
theorem e_zigzag (n : Int) (hn : I64 n) (w : World) : Calls Try.prog n_enthymemeref02_Zigzag #[.int .i64 n] w fun r w' => r = .returned (.int .u64 (zz n : Int)) ∧ w = w' := by
  obtain ⟨h1, h2⟩ := hn
  refine enthymemeref02_Zigzag.ok _ w _ (sel_intro (fun h => ?_) (fun h => ?_))
  · have h' := of_decide_eq_true h
    refine ⟨?_, rfl⟩
    rw [IntWalk.i64_in (n + 1) (by omega), IntWalk.i64_in _ (by omega), IntWalk.u64_in (0 - (n + 1)) (by omega), IntWalk.u64_in (2 * (0 - (n + 1))) (by omega), IntWalk.u64_in _ (by omega)]
    congr 2
    unfold zz
    rw [if_neg (by omega)]
    omega
  · have h' := of_decide_eq_false h
    refine ⟨?_, rfl⟩
    rw [IntWalk.u64_in n (by omega), IntWalk.u64_in _ (by omega)]
    congr 2
    unfold zz
    rw [if_pos (by omega)]
    omega
theorem e_int (n : Int) (hn : I64 n) (w : World) : Calls Try.prog n_enthymemeref02_Int #[.int .i64 n] w (NewBytes w (encI n)) := by
  refine enthymemeref02_Int.ok _ w _ ((e_zigzag n hn w).mono ?_)
  rintro r w1 ⟨rfl, rfl⟩
  refine ⟨_, rfl, (e_uint (zz n) (zz_lt n hn.1 hn.2) w).mono ?_⟩
  rintro r w1 ⟨s, rfl, h⟩
  exact ⟨s, rfl, s, rfl, h⟩
theorem e_bool (b : Bool) (w : World) : Calls Try.prog n_enthymemeref02_Bool #[.bool b] w (NewBytes w (encB b)) := by
  refine enthymemeref02_Bool.ok _ w _ (sel_intro (fun h => ?_) (fun h => ?_))
  · subst h
    exact ⟨⟨some ⟨w.heap.size, 0, none⟩, 1, 1⟩, rfl, Ow.made w ty_uint8 [byteV 1] 1 rfl (by omega), Fr.alloc _ _ _, by simp [blkL]⟩
  · subst h
    exact ⟨⟨some ⟨w.heap.size, 0, none⟩, 1, 1⟩, rfl, Ow.made w ty_uint8 [byteV 0] 1 rfl (by omega), Fr.alloc _ _ _, by simp [blkL]⟩
theorem e_raw {w : World} {s : Sl} {b : List UInt8} (hb : Bytes w s b) (hl : b.length ≤ 1000000000) : Calls Try.prog n_enthymemeref02_Raw #[s.v] w (NewBytes w (encR b)) := by
  refine enthymemeref02_Raw.ok _ w _ ?_
  unfold enthymemeref02_Raw.S0 enthymemeref02_Raw.S1
  rw [Bytes.len hb, u64_nat _ (by omega)]
  refine (e_uint b.length (by omega) w).mono ?_
  rintro r w1 ⟨t, rfl, t1, f1, n1⟩
  have := encU_len10 b.length (by omega)
  obtain ⟨s', w2, g1, g2, g3, g4⟩ := grow_bytes f1 t1 n1 (hb.fr0 f1) (by omega)
  exact ⟨t, rfl, s', w2, g1, s', rfl, g2, g3, g4⟩
theorem e_ints_loop {w0 : World} {s : Sl} {l : List Int} (hs : Nums w0 s l) (hi : ∀ x ∈ l, I64 x) (hl : l.length ≤ 1000000000) : ∀ (d i : Nat), i + d = l.length → ∀ (w : World) (out : Sl) (bs : List UInt8), bs.length ≤ 10 + 10 * i → Fr0 w0 w → BytesO w out bs → (∀ x ∈ blkL out, w0.heap.size ≤ x) →
    enthymemeref02_Ints.L3 s out (i : Int) w (NewBytes w0 (bs ++ (l.drop i).flatMap encI)) := by
  have hn := Nums.len hs
  intro d
  induction d with
  | zero =>
    intro i hd w out bs hb F ho hx
    refine enthymemeref02_Ints.L3_step _ _ _ _ _ (sel_false (decide_eq_false (by omega)) ?_)
    rw [List.drop_of_length_le (by omega)]
    exact ⟨out, rfl, by simpa using ho, F, hx⟩
  | succ d ih =>
    intro i hd w out bs hb F ho hx
    have hlt : i < l.length := by omega
    have hg : l[i]? = some l[i] := List.getElem?_eq_getElem hlt
    have hxi := hi _ (List.getElem_mem hlt)
    refine enthymemeref02_Ints.L3_step _ _ _ _ _ (sel_true (decide_eq_true (by omega)) ⟨by omega, by omega, Nums.cell (hs.fr0 F) hg (by rw [Int.toNat_natCast]) fun p _ hp => ⟨_, hp, (e_int _ hxi w).mono ?_⟩⟩)
    rintro r w1 ⟨t, rfl, t1, f1, n1⟩
    have := encI_len _ hxi
    obtain ⟨s', w2, g1, g2, g3, g4⟩ := grow_bytes (F.tr0 f1) (ho.fr0 f1) hx t1.rd (by omega)
    refine ⟨t, rfl, s', w2, g1, ?_⟩
    show enthymemeref02_Ints.L3 s s' (IntKind.wrap .i64 ((i : Int) + 1)) w2 _
    rw [i64_next i (by omega), List.drop_eq_getElem_cons hlt, List.flatMap_cons, ← List.append_assoc]
    exact ih (i + 1) (by omega) w2 s' _ (by simp; omega) g3 g2 g4
theorem e_ints {w : World} {s : Sl} {l : List Int} (hs : Nums w s l) (hi : ∀ x ∈ l, I64 x) (hl : l.length ≤ 1000000000) : Calls Try.prog n_enthymemeref02_Ints #[s.v] w (NewBytes w (encL l)) := by
  refine enthymemeref02_Ints.ok _ w _ ?_
  unfold enthymemeref02_Ints.S0 enthymemeref02_Ints.S1
  rw [Nums.len hs, u64_nat _ (by omega)]
  refine (e_uint l.length (by omega) w).mono ?_
  rintro r w1 ⟨t, rfl, t1, f1, n1⟩
  have h10 := encU_len10 l.length (by omega)
  refine ⟨t, rfl, ?_⟩
  have := e_ints_loop hs hi hl l.length 0 (by omega) w1 t _ (by omega) f1 t1 n1
  rw [List.drop_zero] at this
  exact this
theorem e_encode_loop {w0 : World} {A : Nat → Prop} {s : Sl} {vs : List V} (hv : RdVals A w0 s vs) (ok : ∀ v ∈ vs, v.Ok) (hl : vs.length ≤ 1000) : ∀ (d i : Nat), i + d = vs.length → ∀ (w : World) (out : Sl) (bs : List UInt8), bs.length ≤ 11000 * i → Fr0 w0 w → BytesO w out bs → (∀ x ∈ blkL out, w0.heap.size ≤ x) →
    enthymemeref02_Encode.L3 s out (i : Int) w (NewBytes w0 (bs ++ (vs.drop i).flatMap encV)) := by
  have hn := hv.len
  intro d
  induction d with
  | zero =>
    intro i hd w out bs hb F ho hx
    refine enthymemeref02_Encode.L3_step _ _ _ _ _ (sel_false (decide_eq_false (by omega)) ?_)
    rw [List.drop_of_length_le (by omega)]
    exact ⟨out, rfl, by simpa using ho, F, hx⟩
  | succ d ih =>
    intro i hd w out bs hb F ho hx
    have hlt : i < vs.length := by omega
    have hg : vs[i]? = some vs[i] := List.getElem?_eq_getElem hlt
    have vok := ok _ (List.getElem_mem hlt)
    have hdrop : (vs.drop i).flatMap encV = encV vs[i] ++ (vs.drop (i + 1)).flatMap encV := by rw [List.drop_eq_getElem_cons hlt, List.flatMap_cons]
    rw [hdrop]
    generalize vs[i] = v at hg vok
    obtain ⟨p, c, hp, hc, hxx⟩ := hv.elem3 hg
    have xc := hxx _ _ F (fun _ _ h => h)
    have vl := encV_len v vok
    have hb' := vok.b
    have hl' := vok.l
    have fin : ∀ (enc : List UInt8) (r : Ending) (w1 : World), enc = encV v → NewBytes w enc r w1 → ∃ t : Sl, r = .returned t.v ∧ ∃ (t33 : W.Sl) (w2 : World), Sem.run Try.prog (Builtin.append_ #[ty_sl_uint8, ty_sl_uint8] ty_sl_uint8 #[out.v, t.v]) w1 = .ok (t33.v) w2 ∧ enthymemeref02_Encode.S8 s t33 (i : Int) w2 (NewBytes w0 (bs ++ (encV v ++ (vs.drop (i + 1)).flatMap encV))) := by
      rintro enc r w1 rfl ⟨t, rfl, t1, f1, n1⟩
      obtain ⟨s', w2, g1, g2, g3, g4⟩ := grow_bytes (F.tr0 f1) (ho.fr0 f1) hx t1.rd (by omega)
      refine ⟨t, rfl, s', w2, g1, ?_⟩
      show enthymemeref02_Encode.L3 s s' (IntKind.wrap .i64 ((i : Int) + 1)) w2 _
      rw [i64_next i (by omega), ← List.append_assoc]
      exact ih (i + 1) (by omega) w2 s' _ (by simp; omega) g3 g2 g4
    have raw : v.kind = 3 ∨ v.kind = 4 → enthymemeref02_Encode.S14 s out (i : Int) w (NewBytes w0 (bs ++ (encV v ++ (vs.drop (i + 1)).flatMap encV))) := fun hk =>
      ⟨by omega, by omega, optP_mk hp ⟨_, xc 3 _ rfl, (e_raw (hc.b.fr0 F) (by omega)).mono fun r w1 h => fin _ r w1 (by unfold encV; rw [if_neg (by omega), if_neg (by omega), if_neg (by omega), if_pos hk]) h⟩⟩
    refine enthymemeref02_Encode.L3_step _ _ _ _ _ (sel_true (decide_eq_true (by omega)) ⟨by omega, by omega, optP_mk hp ⟨_, xc 0 _ rfl, ?_⟩⟩)
    rw [hc.k]
    refine sel_intro (fun h => ?_) (fun h => ?_)
    · have hk : v.kind = 0 := by simpa using h
      refine ⟨by omega, by omega, optP_mk hp ⟨_, xc 1 _ rfl, ?_⟩⟩
      rw [hc.u]
      exact (e_uint v.u vok.u w).mono fun r w1 h => fin _ r w1 (by unfold encV; rw [if_pos hk]) h
    have k0 : ¬ v.kind = 0 := by simpa using h
    refine sel_intro (fun h => ?_) (fun h => ?_)
    · have hk : v.kind = 1 := by simpa using h
      refine ⟨by omega, by omega, optP_mk hp ⟨_, xc 2 _ rfl, ?_⟩⟩
      rw [hc.n]
      exact (e_int v.n vok.n w).mono fun r w1 h => fin _ r w1 (by unfold encV; rw [if_neg k0, if_pos hk]) h
    have k1 : ¬ v.kind = 1 := by simpa using h
    refine sel_intro (fun h => ?_) (fun h => ?_)
    · have hk : v.kind = 2 := by simpa using h
      refine ⟨by omega, by omega, optP_mk hp ⟨_, xc 2 _ rfl, ?_⟩⟩
      rw [hc.n]
      exact (e_bool _ w).mono fun r w1 h => fin _ r w1 (by unfold encV; rw [if_neg k0, if_neg k1, if_pos hk]) h
    have k2 : ¬ v.kind = 2 := by simpa using h
    refine sel_intro (fun h => sel_true h (raw (.inl (by simpa using h)))) (fun h => ?_)
    have k3 : ¬ v.kind = 3 := by simpa using h
    refine sel_intro (fun h => raw (.inr (by simpa using h))) (fun h => ?_)
    have k4 : ¬ v.kind = 4 := by simpa using h
    exact ⟨by omega, by omega, optP_mk hp ⟨_, xc 4 _ rfl, (e_ints (hc.l.fr0 F) vok.i (by omega)).mono fun r w1 h => fin _ r w1 (by unfold encV; rw [if_neg k0, if_neg k1, if_neg k2, if_neg (by omega)]) h⟩⟩
theorem e_encode {A : Nat → Prop} {w : World} {s : Sl} {vs : List V} (hv : RdVals A w s vs) (ok : ∀ v ∈ vs, v.Ok) (hl : vs.length ≤ 1000) : Calls Try.prog n_enthymemeref02_Encode #[s.v] w (NewBytes w (vs.flatMap encV)) := by
  have := e_encode_loop hv ok hl vs.length 0 (by omega) w ⟨none, 0, 0⟩ [] (by simp) (Fr.refl _ _) (Ow.nil _ _) (by simp [blkL])
  rw [List.drop_zero, List.nil_append] at this
  exact enthymemeref02_Encode.ok _ w _ this
end Go.Proofs.Ytjmnpdacalbpkaa

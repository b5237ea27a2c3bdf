/- The reference of package channel: the contracts of Valid, core, Whole, Encode, Decode, Same; plain. -/
import Derived.Test.YtpfomlenbhocpaaCE
import Derived.Test.YtpfomlenbhocpaaHR
import Derived.Test.YtpfomlenbhocpaaWE
import Derived.Test.YtpfomlenbhocpaaRG
import Derived.Test.YtpfomlenbhocpaaVR
namespace Go.Proofs.Ytpfomlenbhocpaa
open Go Go.W

theorem p_valid (q a : Int) {s : Sl} {b : List UInt8} {w : World} (hbn : s.n = b.length) :
    Calls Try.prog n_enthymemeref38_Valid #[.agg #[.int .i64 q, .int .i64 a, s.v]] w fun r w' => r = .returned (.bool (validB q a b)) ∧ Fr0 w w' := by
  refine enthymemeref38_Valid.ok q a s w _ ?_
  unfold enthymemeref38_Valid.S0 enthymemeref38_Valid.S1
  intro w1
  have f1 : Fr0 w w1 := Fr.alloc _ _ _
  have c1 : w1.heap[(Addr.mk w.heap.size 0 none).block]? = _ := heap_new w _
  refine ⟨q, cellAt (i := 0) c1 rfl rfl, sel_intro (fun h1 => ⟨a, cellAt (i := 1) c1 rfl rfl, sel_intro (fun h2 => ⟨s, cellAt (i := 2) c1 rfl rfl, sel_intro (fun h3 => ⟨q, cellAt (i := 0) c1 rfl rfl, sel_intro (fun h4 => ?_) (fun h4 => ⟨s, cellAt (i := 2) c1 rfl rfl, ?_⟩)⟩) (fun h3 => ?_)⟩) (fun h2 => ?_)⟩) (fun h1 => ?_)⟩
  all_goals
    refine ⟨?_, f1⟩
    congr 2
    rw [hbn] at *
    unfold validB
    generalize b.length = L at *
    rw [Bool.eq_iff_iff]
    simp at *
    omega
theorem p_core (q a : Int) (hq : I64 q) (ha : I64 a) {s : Sl} {b : List UInt8} {w : World} (hb : Bytes w s b) (hl : b.length ≤ 100000) :
    Calls Try.prog n_enthymemeref38_core #[.agg #[.int .i64 q, .int .i64 a, s.v]] w (NewBytes w (coreB q a b)) := by
  refine enthymemeref38_core.ok _ _ _ w _ ?_
  unfold enthymemeref38_core.S0
  intro w1
  have f1 : Fr0 w w1 := Fr.alloc _ _ _
  have c1 : w1.heap[w.heap.size]? = some (.cells #[.int .i64 q, .int .i64 a, s.v] ty_enthymemeref38_Packet (0, 0)) := heap_new w _
  clear_value w1
  have lq := encI_len q hq
  have la := encI_len a ha
  refine ⟨q, (get3 c1).1, (e_int q hq w1).mono ?_⟩
  rintro r w2 ⟨t2, rfl, o2, f2, n2⟩
  have hs1 := f1.size
  have hs2 : w1.heap.size ≤ w2.heap.size := f2.size
  have F2 := f1.tr0 f2
  refine ⟨t2, rfl, a, (get3 (f2.at c1 id)).2.1, (e_int a ha w2).mono ?_⟩
  rintro r w3 ⟨t3, rfl, o3, f3, n3⟩
  obtain ⟨t4, w4, g1, g2, g3, g4⟩ := grow_bytes (F2.tr0 f3) (o2.fr0 f3) (fun x hx => by have := n2 x hx; omega) o3.rd (by omega)
  have c4 : w4.heap[w.heap.size]? = some (.cells #[.int .i64 q, .int .i64 a, s.v] ty_enthymemeref38_Packet (0, 0)) := by
    obtain ⟨t4', w4', h1, h2, h3, h4, _⟩ := append_bytes (ty := ty_sl_uint8) (o2.fr0 f3) o3.rd (by omega)
    have e := g1.symm.trans h1
    injection e with _ e
    subst e
    have lt1 := lt_of_heap c1
    exact h3.at ((f2.tr0 f3).at c1 id) fun hm => by have := n2 _ hm; omega
  refine ⟨t3, rfl, t4, w4, g1, s, (get3 c4).2.2, (e_raw (hb.fr0 g3) (by omega)).mono ?_⟩
  rintro r w5 ⟨t5, rfl, o5, f5, n5⟩
  have l10 := encU_len10 b.length (by omega)
  obtain ⟨t6, w6, k1, k2, k3, k4⟩ := grow_bytes (g3.tr0 f5) (g2.fr0 f5) g4 o5.rd (by unfold encR; simp; omega)
  exact ⟨t5, rfl, t6, w6, k1, t6, rfl, k2, k3, k4⟩
theorem p_whole {s : Sl} {c : List UInt8} {w : World} (hb : Bytes w s c) (hl : c.length ≤ 1000000) : Calls Try.prog n_enthymemeref38_Whole #[s.v] w (NewBytes w (wholeB c)) := by
  refine enthymemeref38_Whole.ok _ w _ ((e_raw hb (by omega)).mono ?_)
  rintro r w1 ⟨t, rfl, o1, f1, n1⟩
  refine ⟨t, rfl, (m_bytes _ (hb.fr0 f1) (by omega) (by decide)).mono ?_⟩
  rintro r w2 ⟨rfl, f2⟩
  refine ⟨_, rfl, (e_uint _ (bytesH_lt _ _) w2).mono ?_⟩
  rintro r w3 ⟨t3, rfl, o3, f3, n3⟩
  have l10 := encU_len10 c.length (by omega)
  have h10 := encU_len10 _ (bytesH_lt (bl (ByteArray.mk #[112, 97, 114, 99, 101, 108])) c)
  obtain ⟨t4, w4, g1, g2, g3, g4⟩ := grow_bytes (f1.tr0 (f2.tr0 f3)) (o1.fr0 (f2.tr0 f3)) n1 o3.rd (by unfold encR; simp only [List.length_append]; omega)
  exact ⟨t3, rfl, t4, w4, g1, t4, rfl, g2, g3, g4⟩
theorem coreB_len (q a : Int) (hq : I64 q) (ha : I64 a) {b : List UInt8} (hl : b.length ≤ 65536) : (coreB q a b).length ≤ 70000 := by
  have h1 := encI_len q hq
  have h2 := encI_len a ha
  have h3 := encU_len10 b.length (by omega)
  unfold coreB encR
  simp
  omega
theorem p_encode (q a : Int) (hq : I64 q) (ha : I64 a) {s : Sl} {b : List UInt8} {w : World} (hb : Bytes w s b) :
    Calls Try.prog n_enthymemeref38_Encode #[.agg #[.int .i64 q, .int .i64 a, s.v]] w fun r w' => ∃ t : Sl, r = .returned (.tuple #[t.v, .int .i64 (encP q a b).2]) ∧ BytesO w' t (encP q a b).1 ∧ Fr0 w w' ∧ ∀ x ∈ blkL t, w.heap.size ≤ x := by
  refine enthymemeref38_Encode.ok _ _ _ w _ ?_
  unfold enthymemeref38_Encode.S0
  intro w1
  have f1 : Fr0 w w1 := Fr.alloc _ _ _
  have c1 : w1.heap[w.heap.size]? = some (.cells #[.int .i64 q, .int .i64 a, s.v] ty_enthymemeref38_Packet (0, 0)) := heap_new w _
  clear_value w1
  obtain ⟨g0, g1, g2⟩ := get3 c1
  refine ⟨q, a, s, g0, g1, g2, (p_valid q a (Bytes.len hb)).mono ?_⟩
  rintro r w2 ⟨rfl, f2⟩
  have F2 : Fr0 w w2 := f1.tr0 f2
  refine ⟨_, rfl, sel_intro (fun hv => ?_) (fun hv => ?_)⟩
  · have hv' : validB q a b = false := by simpa using hv
    unfold encP
    rw [hv']
    exact ⟨⟨none, 0, 0⟩, rfl, Ow.nil _ _, F2, by simp [blkL]⟩
  have hv' : validB q a b = true := by simpa using hv
  have hbl : b.length ≤ 65536 := by
    unfold validB at hv'
    simp at hv'
    exact hv'.2.2.1
  unfold encP
  rw [hv']
  obtain ⟨g0, g1, g2⟩ := get3 (f2.at c1 id)
  refine ⟨q, a, s, g0, g1, g2, (p_core q a hq ha (hb.fr0 F2) (by omega)).mono ?_⟩
  rintro r w3 ⟨t3, rfl, o3, f3, n3⟩
  refine ⟨t3, rfl, (p_whole o3.rd (by have := coreB_len q a hq ha hbl; omega)).mono ?_⟩
  rintro r w4 ⟨t4, rfl, o4, f4, n4⟩
  have hs2 := F2.size
  have hs3 : w2.heap.size ≤ w3.heap.size := f3.size
  exact ⟨t4, rfl, t4, rfl, o4, F2.tr0 (f3.tr0 f4), fun x hx => by have := n4 x hx; omega⟩

/-! ### Decode -/
def DecPostR (w : World) (s : Sl) (p : Pkt) : Post := fun r w' => ∃ t : Sl, r = .returned (.tuple #[.agg #[.int .i64 p.q, .int .i64 p.a, t.v], .int .i64 p.e]) ∧ Bytes w' t p.b ∧ Fr0 w w' ∧ ∀ x ∈ blkL t, x ∈ blkL s
theorem dec_retR {w0 w : World} {s : Sl} {tb : Nat} {a0 a1 a2 : Value} (p : Pkt) {t : Sl} (h : w.heap[tb]? = some (.cells #[a0, a1, a2] ty_enthymemeref38_Packet (0, 0))) (hb : Bytes w t p.b) (hn : ∀ x ∈ blkL t, x ∈ blkL s) (hs : ∀ x ∈ blkL s, x ≠ tb) (F : Fr0 w0 w) (htb : w0.heap.size ≤ tb) :
    (w.cell? (at0 tb)).isSome = true ∧ w.frozen? (at0 tb) = false ∧ let w1 := w.setCell (at0 tb) (.int .i64 p.q)
    (w1.cell? ((at0 tb).add 1)).isSome = true ∧ w1.frozen? ((at0 tb).add 1) = false ∧ let w2 := w1.setCell ((at0 tb).add 1) (.int .i64 p.a)
    (w2.cell? ((at0 tb).add 2)).isSome = true ∧ w2.frozen? ((at0 tb).add 2) = false ∧ let w3 := w2.setCell ((at0 tb).add 2) t.v
    ∃ r2_0 : Int, ∃ r2_1 : Int, ∃ r2_2 : W.Sl, w3.cell? ((at0 tb).add 0) = some (.int .i64 r2_0) ∧ w3.cell? ((at0 tb).add 1) = some (.int .i64 r2_1) ∧ w3.cell? ((at0 tb).add 2) = some (r2_2.v) ∧
      DecPostR w0 s p (.returned (.tuple #[.agg #[.int .i64 r2_0, .int .i64 r2_1, r2_2.v], .int .i64 p.e])) w3 := by
  refine set3 h (.int .i64 p.q) (.int .i64 p.a) t.v (fun w3 => ∃ r2_0 : Int, ∃ r2_1 : Int, ∃ r2_2 : W.Sl, w3.cell? ((at0 tb).add 0) = some (.int .i64 r2_0) ∧ w3.cell? ((at0 tb).add 1) = some (.int .i64 r2_1) ∧ w3.cell? ((at0 tb).add 2) = some (r2_2.v) ∧
      DecPostR w0 s p (.returned (.tuple #[.agg #[.int .i64 r2_0, .int .i64 r2_1, r2_2.v], .int .i64 p.e])) w3) fun w' h' f' => ?_
  obtain ⟨g0, g1, g2⟩ := get3 h'
  exact ⟨_, _, t, g0, g1, g2, t, rfl, hb.fr f' fun x hx e => hs x (hn x hx) e, F.trn f' fun x e => e ▸ htb, hn⟩
theorem rf_new (w : World) {s : Sl} {bs : List UInt8} (hb : Bytes w s bs) (hlt : ∀ x ∈ blkL s, x < w.heap.size) {D : List Nat} (hD : ∀ x ∈ blkL s, x ∈ D) (hDl : ∀ x ∈ D, x < w.heap.size) (hl : bs.length ≤ 1000000) :
    RfRep (w.alloc (.cells #[s.v, .int .i64 0] ty_enthymemeref02_Reader)) w.heap.size ⟨bs, 0⟩ D :=
  ⟨s, hD, fun h => by have := hDl _ h; omega, heap_new _ _, hb.fr0 (Fr.alloc _ _ _), hl⟩
theorem p_decode {s : Sl} {bs : List UInt8} {w : World} (hb : Bytes w s bs) (hlt : ∀ x ∈ blkL s, x < w.heap.size) (hl : bs.length ≤ 1000000) :
    Calls Try.prog n_enthymemeref38_Decode #[s.v] w (DecPostR w s (decP bs)) := by
  refine enthymemeref38_Decode.ok _ w _ ?_
  unfold enthymemeref38_Decode.S0
  intro w1
  have f1 : Fr0 w w1 := Fr.alloc _ _ _
  have s1 : w1.heap.size = w.heap.size + 1 := size_alloc _ _
  have c1 : w1.heap[w.heap.size]? = some (.cells #[.int .i64 0, .int .i64 0, (⟨none, 0, 0⟩ : Sl).v] ty_enthymemeref38_Packet (0, 0)) := heap_new w _
  clear_value w1
  have hne : ∀ x ∈ blkL s, x ≠ w.heap.size := fun x hx e => by have := hlt x hx; omega
  have bad : ∀ (e : Int) (W : World), Fr0 w W → W.heap[w.heap.size]? = some (.cells #[.int .i64 0, .int .i64 0, (⟨none, 0, 0⟩ : Sl).v] ty_enthymemeref38_Packet (0, 0)) → _ := fun e W F c => dec_retR (w0 := w) (w := W) (s := s) (tb := w.heap.size) ⟨0, 0, [], e⟩ (t := ⟨none, 0, 0⟩) c (Rd.nil W) (by simp [blkL]) hne F (Nat.le_refl _)
  unfold enthymemeref38_Decode.S1
  intro w2
  have f2 : Fr0 w1 w2 := Fr.alloc _ _ _
  have s2 : w2.heap.size = w1.heap.size + 1 := size_alloc _ _
  have r2 : RfRep w2 w1.heap.size ⟨bs, 0⟩ (blkL s) := rf_new w1 (hb.fr0 f1) (fun x hx => by have := hlt x hx; omega) (fun x hx => hx) (fun x hx => by have := hlt x hx; omega) hl
  clear_value w2
  refine (f_raw r2).mono ?_
  rintro r w3 ⟨core, rfl, o3, d3, r3, f3⟩
  have hs3 : w2.heap.size ≤ w3.heap.size := f3.size
  refine ⟨core, rfl, (f_uint r3).mono ?_⟩
  rintro r w4 ⟨rfl, r4, f4⟩
  have hs4 : w3.heap.size ≤ w4.heap.size := f4.size
  have o4 := o3.fr f4 fun x hx e => by have := hlt x (d3 x hx); omega
  refine ⟨_, rfl, (f_end r4).mono ?_⟩
  rintro r w5 ⟨rfl, rfl⟩
  have F5 : Fr0 w w4 := ((f1.tr0 f2).trn f3 fun x e => by omega).trn f4 fun x e => by omega
  have c5 := f4.at (f3.at (f2.at c1 id) (by omega)) (by omega)
  refine ⟨_, rfl, ?_⟩
  unfold decP
  simp only []
  refine sel_intro (fun he => ?_) (fun he => ?_)
  · have he' : rdEnd (rdU (rdRaw ⟨bs, 0⟩).2).2 ≠ 0 := by simpa using he
    rw [if_pos he']
    exact bad 2 w4 F5 c5
  have he' : ¬ rdEnd (rdU (rdRaw ⟨bs, 0⟩).2).2 ≠ 0 := by simpa using he
  rw [if_neg he']
  have lcore : (rdRaw ⟨bs, 0⟩).1.length ≤ bs.length := rdRaw_len ⟨bs, 0⟩
  generalize hc : (rdRaw ⟨bs, 0⟩).1 = cb at *
  generalize (rdU (rdRaw ⟨bs, 0⟩).2).1 = sum at *
  refine (m_bytes _ o4 (by omega) (by decide)).mono ?_
  rintro r w6 ⟨rfl, f6⟩
  have F6 := F5.tr0 f6
  have c6 := f6.at c5 id
  have o6 := o4.fr0 f6
  have hs6 : w4.heap.size ≤ w6.heap.size := f6.size
  refine ⟨_, rfl, ?_⟩
  rw [show bl (ByteArray.mk #[112, 97, 114, 99, 101, 108]) = parcel from rfl]
  refine sel_intro (fun hh => ?_) (fun hh => ?_)
  · have hh' : sum ≠ bytesH parcel cb := by
      intro e; rw [e] at hh; simp at hh
    rw [if_pos hh']
    exact bad 21 w6 F6 c6
  have hh' : ¬ sum ≠ bytesH parcel cb := by
    intro e
    have : ((sum : Nat) : Int) = ((bytesH parcel cb : Nat) : Int) := by simpa using hh
    omega
  rw [if_neg hh']
  unfold decC
  simp only []
  unfold enthymemeref38_Decode.S8
  intro w7
  have f7 : Fr0 w6 w7 := Fr.alloc _ _ _
  have s7 : w7.heap.size = w6.heap.size + 1 := size_alloc _ _
  have r7 : RfRep w7 w6.heap.size ⟨cb, 0⟩ (blkL s) := rf_new w6 o6 (fun x hx => by have := hlt x (d3 x hx); omega) d3 (fun x hx => by have := hlt x hx; omega) (by omega)
  have c7 := f7.at c6 id
  clear_value w7
  refine (f_int r7).mono ?_
  rintro r w8 ⟨rfl, r8, f8⟩
  have hs8 : w7.heap.size ≤ w8.heap.size := f8.size
  have c8 := f8.at c7 (by omega)
  have F8 : Fr0 w w8 := (F6.tr0 f7).trn f8 fun x e => by have := F6.size; omega
  refine ⟨_, rfl, ?_⟩
  intro w9
  have f9 : Fr0 w8 w9 := Fr.alloc _ _ _
  have s9 : w9.heap.size = w8.heap.size + 1 := size_alloc _ _
  have k9 : w9.heap[w8.heap.size]? = some (.cells #[.int .i64 0, .int .i64 0, (⟨none, 0, 0⟩ : Sl).v] ty_enthymemeref38_Packet (0, 0)) := heap_new w8 _
  clear_value w9
  refine set3 k9 (.int .i64 (rdI ⟨cb, 0⟩).1) (.int .i64 0) (⟨none, 0, 0⟩ : Sl).v (fun w' => enthymemeref38_Decode.S10 (at0 w.heap.size) (at0 w6.heap.size) (at0 w8.heap.size) w' _) fun w10 k10 f10 => ?_
  have hs10 : w9.heap.size ≤ w10.heap.size := f10.size
  have F10 : Fr0 w w10 := (F8.tr0 f9).trn f10 fun x e => by have := F8.size; omega
  have c10 := f10.at (f9.at c8 id) (by omega)
  have r10 := (r8.fr0 f9).fr f10 (by omega) fun x hx e => by have := hlt x hx; omega
  refine (f_int r10).mono ?_
  rintro r w11 ⟨rfl, r11, f11⟩
  have hs11 : w10.heap.size ≤ w11.heap.size := f11.size
  have k11 := f11.at k10 (by omega)
  have c11 := f11.at c10 (by omega)
  refine ⟨_, rfl, ?_⟩
  obtain ⟨z1, z2, z3, z4⟩ := set_c k11 1 (by simp) (.int .i64 (rdI (rdI ⟨cb, 0⟩).2).1)
  refine ⟨z1, z2, ?_⟩
  have k12 : (w11.setCell ((at0 w8.heap.size).add 1) (.int .i64 (rdI (rdI ⟨cb, 0⟩).2).1)).heap[w8.heap.size]? = some (.cells #[.int .i64 (rdI ⟨cb, 0⟩).1, .int .i64 (rdI (rdI ⟨cb, 0⟩).2).1, (⟨none, 0, 0⟩ : Sl).v] ty_enthymemeref38_Packet (0, 0)) := by simpa using z3
  show enthymemeref38_Decode.S11 (at0 w.heap.size) (at0 w6.heap.size) (at0 w8.heap.size) (w11.setCell ((at0 w8.heap.size).add 1) (.int .i64 (rdI (rdI ⟨cb, 0⟩).2).1)) _
  generalize w11.setCell ((at0 w8.heap.size).add 1) (.int .i64 (rdI (rdI ⟨cb, 0⟩).2).1) = w12 at k12 z4
  have hs12 : w11.heap.size ≤ w12.heap.size := z4.size
  have c12 := z4.at c11 (by omega)
  have r12 := r11.fr z4 (by omega) fun x hx e => by have := hlt x hx; omega
  have F12 : Fr0 w w12 := (F10.trn f11 fun x e => by have := F6.size; omega).trn z4 fun x e => by have := F8.size; omega
  refine (f_raw r12).mono ?_
  rintro r w13 ⟨t, rfl, o13, d13, r13, f13⟩
  have hs13 : w12.heap.size ≤ w13.heap.size := f13.size
  have k13 := f13.at k12 (by omega)
  have c13 := f13.at c12 (by omega)
  refine ⟨t, rfl, ?_⟩
  obtain ⟨y1, y2, y3, y4⟩ := set_c k13 2 (by simp) t.v
  refine ⟨y1, y2, ?_⟩
  have k14 : (w13.setCell ((at0 w8.heap.size).add 2) t.v).heap[w8.heap.size]? = some (.cells #[.int .i64 (rdI ⟨cb, 0⟩).1, .int .i64 (rdI (rdI ⟨cb, 0⟩).2).1, t.v] ty_enthymemeref38_Packet (0, 0)) := by simpa using y3
  show enthymemeref38_Decode.S12 (at0 w.heap.size) (at0 w6.heap.size) (at0 w8.heap.size) (w13.setCell ((at0 w8.heap.size).add 2) t.v) _
  generalize w13.setCell ((at0 w8.heap.size).add 2) t.v = w14 at k14 y4
  have hs14 : w13.heap.size ≤ w14.heap.size := y4.size
  have c14 := y4.at c13 (by omega)
  have r14 := r13.fr y4 (by omega) fun x hx e => by have := hlt x hx; omega
  have o14 := o13.fr y4 fun x hx e => by have := hlt x (d13 x hx); omega
  have F14 : Fr0 w w14 := (F12.trn f13 fun x e => by have := F6.size; omega).trn y4 fun x e => by have := F8.size; omega
  generalize (rdI ⟨cb, 0⟩).1 = q at *
  generalize (rdI (rdI ⟨cb, 0⟩).2).1 = a at *
  generalize (rdRaw (rdI (rdI ⟨cb, 0⟩).2).2).1 = b at *
  generalize (rdRaw (rdI (rdI ⟨cb, 0⟩).2).2).2 = st at *
  obtain ⟨g0, g1, g2⟩ := get3 k14
  refine ⟨q, a, t, g0, g1, g2, (p_valid q a (Bytes.len o14)).mono ?_⟩
  rintro r w15 ⟨rfl, f15⟩
  have F15 := F14.tr0 f15
  have c15 := f15.at c14 id
  have k15 := f15.at k14 id
  have o15 := o14.fr0 f15
  refine ⟨_, rfl, (f_end (r14.fr0 f15)).mono ?_⟩
  rintro r w16 ⟨rfl, rfl⟩
  refine ⟨_, rfl, sel_intro (fun hz => ?_) (fun hz => ?_)⟩
  · have hz' : rdEnd st ≠ 0 := by simpa using hz
    rw [if_pos hz']
    exact bad 2 w15 F15 c15
  have hz' : ¬ rdEnd st ≠ 0 := by simpa using hz
  rw [if_neg hz']
  refine sel_intro (fun hv => ?_) (fun hv => ?_)
  · have hv' : validB q a b = false := by simpa using hv
    rw [hv']
    exact bad 2 w15 F15 c15
  have hv' : validB q a b = true := by simpa using hv
  rw [hv']
  obtain ⟨g0, g1, g2⟩ := get3 k15
  refine ⟨q, a, t, g0, g1, g2, ?_⟩
  exact dec_retR (w0 := w) (w := w15) (s := s) (tb := w.heap.size) ⟨q, a, b, 0⟩ (t := t) c15 o15 d13 hne F15 (Nat.le_refl _)

/-! ### Same, plain -/
theorem p_same {w : World} (q a q' a' : Int) {s t : Sl} {b c : List UInt8} (hb : Bytes w s b) (hc : Bytes w t c) (hl : b.length ≤ 1000000000000) :
    Calls Try.prog n_enthymemeref38_Same #[.agg #[.int .i64 q, .int .i64 a, s.v], .agg #[.int .i64 q', .int .i64 a', t.v]] w fun r w' => r = .returned (.bool (decide (q = q' ∧ a = a' ∧ b = c))) ∧ Fr0 w w' := by
  refine enthymemeref38_Same.ok _ _ _ _ _ _ w _ ?_
  unfold enthymemeref38_Same.S0
  intro w1 w2
  have f1 : Fr0 w w1 := Fr.alloc _ _ _
  have f2 : Fr0 w1 w2 := Fr.alloc _ _ _
  have c1 : w1.heap[w.heap.size]? = some (.cells #[.int .i64 q, .int .i64 a, s.v] ty_enthymemeref38_Packet (0, 0)) := heap_new w _
  have c2 : w2.heap[w1.heap.size]? = some (.cells #[.int .i64 q', .int .i64 a', t.v] ty_enthymemeref38_Packet (0, 0)) := heap_new w1 _
  have c3 := f2.at c1 id
  have F2 := f1.tr0 f2
  clear_value w1 w2
  obtain ⟨g0, g1, g2⟩ := get3 c3
  obtain ⟨k0, k1, k2⟩ := get3 c2
  refine ⟨q, g0, q', k0, sel_intro (fun h1 => ⟨a, g1, a', k1, sel_intro (fun h2 => ⟨s, g2, t, k2, (same_bytes (hb.fr0 F2) (hc.fr0 F2) hl).mono ?_⟩) (fun h2 => ?_)⟩) (fun h1 => ?_)⟩
  · rintro r w3 ⟨rfl, f3⟩
    have h1' : q = q' := by simpa using h1
    have h2' : a = a' := by simpa using h2
    refine ⟨_, rfl, ?_, F2.tr0 f3⟩
    congr 3
    simp [h1', h2']
  · have h2' : ¬ a = a' := by simpa using h2
    refine ⟨?_, F2⟩
    congr 2
    simp [h2']
  · have h1' : ¬ q = q' := by simpa using h1
    refine ⟨?_, F2⟩
    congr 2
    simp [h1']
theorem p_plain {w : World} (q a : Int) (s : Sl) : Calls Try.prog n_enthymemelaw38_plain #[.agg #[.int .i64 q, .int .i64 a, s.v]] w fun r w' => r = .returned (.agg #[.int .i64 q, .int .i64 a, s.v]) ∧ Fr0 w w' := by
  refine enthymemelaw38_plain.ok _ _ _ w _ ?_
  unfold enthymemelaw38_plain.S0
  intro w1 w2
  have f1 : Fr0 w w1 := Fr.alloc _ _ _
  have f2 : Fr0 w1 w2 := Fr.alloc _ _ _
  have c1 : w1.heap[w.heap.size]? = some (.cells #[.int .i64 q, .int .i64 a, s.v] ty_channel_Packet (0, 0)) := heap_new w _
  have c2 : w2.heap[w1.heap.size]? = some (.cells #[.int .i64 0, .int .i64 0, (⟨none, 0, 0⟩ : Sl).v] ty_enthymemeref38_Packet (0, 0)) := heap_new w1 _
  have c3 := f2.at c1 id
  have F2 := f1.tr0 f2
  clear_value w1 w2
  obtain ⟨g0, g1, g2⟩ := get3 c3
  refine ⟨q, g0, a, g1, s, g2, set3 c2 (.int .i64 q) (.int .i64 a) s.v (fun w3 => ∃ r2_0 : Int, ∃ r2_1 : Int, ∃ r2_2 : W.Sl, w3.cell? ((at0 w1.heap.size).add 0) = some (.int .i64 r2_0) ∧ w3.cell? ((at0 w1.heap.size).add 1) = some (.int .i64 r2_1) ∧ w3.cell? ((at0 w1.heap.size).add 2) = some (r2_2.v) ∧ (Ending.returned (.agg #[.int .i64 r2_0, .int .i64 r2_1, r2_2.v]) = .returned (.agg #[.int .i64 q, .int .i64 a, s.v]) ∧ Fr0 w w3)) fun w' h' f' => ?_⟩
  obtain ⟨k0, k1, k2⟩ := get3 h'
  exact ⟨q, a, s, k0, k1, k2, rfl, F2.trn f' fun x e => by have := f1.size; omega⟩
end Go.Proofs.Ytpfomlenbhocpaa

/- enthymemelaw38.ChannelEncoding returns true for every input and writes nothing that was there before. -/
import Derived.Test.YtpfomlenbhocpaaCF
import Derived.Test.YtpfomlenbhocpaaC4
import Derived.Test.YtpfomlenbhocpaaVB
namespace Go.Proofs.Ytpfomlenbhocpaa
open Go Go.W
namespace Enc
abbrev Fin (w0 : World) : Post := fun r w' => r = .returned (.bool true) ∧ Fr0 w0 w'
structure Good (w : World) (ab : Nat) (ss : List (Sl × List UInt8)) : Prop where
  arr : w.heap[ab]? = some (.cells (ss.map fun p => p.1.v).toArray ty_sl_uint8 (0, 0))
  five : ss.length = 5
  all : ∀ p ∈ ss, Bytes w p.1 p.2 ∧ (∀ x ∈ blkL p.1, x < w.heap.size) ∧ p.2.length ≤ 1000000
theorem Good.fr0 {w w' : World} {ab : Nat} {ss : List (Sl × List UInt8)} (h : Good w ab ss) (f : Fr0 w w') : Good w' ab ss :=
  ⟨f.at h.arr id, h.five, fun p hp => ⟨(h.all p hp).1.fr0 f, fun x hx => Nat.lt_of_lt_of_le ((h.all p hp).2.1 x hx) f.size, (h.all p hp).2.2⟩⟩
theorem decP_len (bs : List UInt8) : (decP bs).b.length ≤ bs.length := by
  unfold decP
  simp only []
  split
  · simp
  · split
    · simp
    · have h1 := rdRaw_len ⟨bs, 0⟩
      simp only at h1
      generalize (rdRaw ⟨bs, 0⟩).1 = c at h1
      unfold decC
      simp only []
      split
      · simp
      · split
        · have h2 := rdRaw_len (rdI (rdI ⟨c, 0⟩).2).2
          have h3 := rdU_small (st := (rdI ⟨c, 0⟩).2) (Nat.le_refl _)
          have h4 := rdU_small (st := ⟨c, 0⟩) (Nat.le_refl _)
          have e3 : (rdI (rdI ⟨c, 0⟩).2).2.bs.length ≤ (rdI ⟨c, 0⟩).2.bs.length := h3
          have e4 : (rdI ⟨c, 0⟩).2.bs.length ≤ c.length := h4
          simp only
          omega
        · simp
theorem loop {w0 : World} {ab : Nat} {ss : List (Sl × List UInt8)} : ∀ (d i : Nat), i + d = 5 → ∀ w : World, Fr0 w0 w → Good w ab ss → enthymemelaw38_ChannelEncoding.L15 ⟨some (at0 ab), 5, 5⟩ (i : Int) w (Fin w0) := by
  intro d
  induction d with
  | zero =>
    intro i hi w F h
    refine enthymemelaw38_ChannelEncoding.L15_step _ _ _ _ (sel_false (decide_eq_false (by omega)) ((Ch.lives_any w).mono ?_))
    rintro r w1 ⟨rfl, f1⟩
    exact ⟨_, rfl, rfl, F.tr0 f1⟩
  | succ d ih =>
    intro i hi w F h
    have hlt : i < ss.length := by rw [h.five]; omega
    obtain ⟨hb, hbl, hl⟩ := h.all _ (List.getElem_mem hlt)
    have hcell : ∀ {W : World}, Good W ab ss → W.cell? ((at0 ab).add (Int.toNat (i : Int) * 1)) = some (ss[i].1.v) := fun hW => by
      rw [Int.toNat_natCast, Nat.mul_one]
      exact cellAt (p := at0 ab) hW.arr rfl (by simp [hlt])
    generalize ss[i] = p at hb hbl hl hcell
    refine enthymemelaw38_ChannelEncoding.L15_step _ _ _ _ (sel_true (decide_eq_true (by omega)) ?_)
    refine ⟨by omega, by show (i : Int) < ((5 : Nat) : Int); omega, p.1, hcell h, (c_decode hb (by omega)).mono ?_⟩
    rintro r w1 ⟨t, rfl, t1, f1, n1⟩
    have hdl := decP_len p.2
    refine ⟨_, _, t, _, rfl, ?_⟩
    intro w2
    have f2 : Fr0 w1 w2 := Fr.alloc _ _ _
    have s2 : w2.heap.size = w1.heap.size + 1 := size_alloc _ _
    have c2 : w2.heap[w1.heap.size]? = some (.cells #[.int .i64 0, .int .i64 0, (⟨none, 0, 0⟩ : Sl).v] ty_channel_Packet (0, 0)) := heap_new w1 _
    clear_value w2
    have hs1 : w.heap.size ≤ w1.heap.size := f1.size
    have F2 : Fr0 w w2 := f1.tr0 f2
    have h2 := h.fr0 F2
    have arlt := lt_of_heap h.arr
    refine set3 c2 (.int .i64 (decP p.2).q) (.int .i64 (decP p.2).a) t.v (fun w' => enthymemelaw38_ChannelEncoding.S18 ⟨some (at0 ab), 5, 5⟩ (i : Int) (at0 w1.heap.size) (decP p.2).e w' _) fun w3 c3 f3 => ?_
    have F3 : Fr0 w w3 := F2.trn f3 fun x e => by omega
    have hs3 : w2.heap.size ≤ w3.heap.size := f3.size
    have h3 := h.fr0 F3
    have t3 : Bytes w3 t (decP p.2).b := (t1.fr0 f2).fr f3 fun x hx e => by have := (n1 x hx).2; omega
    obtain ⟨hb3, hbl3, _⟩ : Bytes w3 p.1 p.2 ∧ (∀ x ∈ blkL p.1, x < w3.heap.size) ∧ True := ⟨hb.fr0 F3, fun x hx => by have := hbl x hx; omega, trivial⟩
    refine ⟨by omega, by show (i : Int) < ((5 : Nat) : Int); omega, p.1, hcell h3, (p_decode hb3 hbl3 hl).mono ?_⟩
    rintro r w4 ⟨u, rfl, u4, f4, n4⟩
    have hs4 : w3.heap.size ≤ w4.heap.size := f4.size
    refine ⟨_, _, u, _, rfl, ?_⟩
    intro w5
    have f5 : Fr0 w4 w5 := Fr.alloc _ _ _
    have s5 : w5.heap.size = w4.heap.size + 1 := size_alloc _ _
    have c5 : w5.heap[w4.heap.size]? = some (.cells #[.int .i64 0, .int .i64 0, (⟨none, 0, 0⟩ : Sl).v] ty_enthymemeref38_Packet (0, 0)) := heap_new w4 _
    clear_value w5
    have F5 : Fr0 w3 w5 := f4.tr0 f5
    refine set3 c5 (.int .i64 (decP p.2).q) (.int .i64 (decP p.2).a) u.v (fun w' => enthymemelaw38_ChannelEncoding.S19 ⟨some (at0 ab), 5, 5⟩ (i : Int) (at0 w1.heap.size) (decP p.2).e (at0 w4.heap.size) (decP p.2).e w' _) fun w6 c6 f6 => ?_
    have hs6 : w5.heap.size ≤ w6.heap.size := f6.size
    have F6 : Fr0 w3 w6 := F5.trn f6 fun x e => by omega
    have k6 := F6.at c3 id
    have t6 := t3.fr0 F6
    have u6 : Bytes w6 u (decP p.2).b := (u4.fr0 f5).fr f6 fun x hx e => by have := hbl3 x (n4 x hx); omega
    have fd : Fr0 w6 w6.drew := Fr.drew _ _
    refine sel_false (by simp) ?_
    obtain ⟨g0, g1, g2⟩ := get3 (fd.at k6 id)
    obtain ⟨y0, y1, y2⟩ := get3 (fd.at c6 id)
    refine ⟨_, _, t, g0, g1, g2, _, _, u, y0, y1, y2, (p_plain _ _ t).mono ?_⟩
    rintro r w7 ⟨rfl, f7⟩
    obtain ⟨y0, y1, y2⟩ := get3 (f7.at (fd.at c6 id) id)
    refine ⟨_, _, t, rfl, y0, y1, y2, (p_same _ _ _ _ ((t6.fr0 fd).fr0 f7) ((u6.fr0 fd).fr0 f7) (by omega)).mono ?_⟩
    rintro r w8 ⟨rfl, f8⟩
    refine ⟨_, rfl, sel_false (by simp) ?_⟩
    have F8 : Fr0 w w8 := F3.tr0 (F6.tr0 (fd.tr0 (f7.tr0 f8)))
    show enthymemelaw38_ChannelEncoding.L15 ⟨some (at0 ab), 5, 5⟩ (IntKind.wrap .i64 ((i : Int) + 1)) w8 _
    rw [i64_next i (by omega)]
    exact ih (i + 1) (by omega) w8 (F.tr0 F8) (h.fr0 F8)
theorem tail {w0 W : World} (F : Fr0 w0 W) {gb : Nat} {g1 g2 : Int} {s x raw : Sl} {bb xb rl : List UInt8} (hg : W.heap[gb]? = some (.cells #[.int .i64 g1, .int .i64 g2, s.v] ty_enthymemeref38_Packet (0, 0)))
    (hg1 : 1 ≤ g1 ∧ g1 ≤ 300) (hg2 : 0 ≤ g2 ∧ g2 ≤ 300) (o : BytesO W s bb) (hbb : bb.length ≤ 40) (ox : BytesO W x xb) (hxb : xb.length ≤ 100000) (hraw : Bytes w0 raw rl) (at' c : Int) (ha : I64 at') (hc : 0 ≤ c ∧ c ≤ 255) :
    enthymemelaw38_ChannelEncoding.S7 at' c raw x (at0 gb) W (Fin w0) := by
  obtain ⟨k0, k1, k2⟩ := get3 hg
  refine ⟨g1, g2, s, k0, k1, k2, (p_encode g1 g2 (by omega) (by omega) o.rd).mono ?_⟩
  rintro r w1 ⟨wh, rfl, o1, f1, n1⟩
  have hv : validB g1 g2 bb = true := by unfold validB; simp; omega
  have ep : encP g1 g2 bb = (wholeB (coreB g1 g2 bb), 0) := by unfold encP; rw [hv]; rfl
  have lc := coreB_len g1 g2 (by omega) (by omega) (b := bb) (by omega)
  rw [ep] at o1 ⊢
  simp only [] at o1
  generalize coreB g1 g2 bb = cc at o1 lc
  have hlw : (wholeB cc).length = (encU cc.length).length + cc.length + (encU (bytesH parcel cc)).length := by unfold wholeB encR; simp; omega
  have hp1 := encU_pos (bytesH parcel cc)
  have h10 := encU_len10 (bytesH parcel cc) (bytesH_lt _ _)
  have hc10 := encU_len10 cc.length (by omega)
  generalize wholeB cc = ww at o1 hlw
  have hwn : wh.n = ww.length := Bytes.len o1.rd
  have F1 := F.tr0 f1
  have x1 := ox.fr0 f1
  refine ⟨wh, _, rfl, sel_false (by simp; omega) ((few_any o1.rd wh.n (by omega)).mono ?_)⟩
  rintro r w2 ⟨tu, rfl, o2, f2, n2⟩
  rw [hwn, List.take_length] at o2
  have htn : tu.n = ww.length := Bytes.len o2.rd
  refine ⟨tu, rfl, ?_⟩
  unfold enthymemelaw38_ChannelEncoding.S11
  rw [hwn]
  refine (around_any at' _ w2 (by omega) ha).mono ?_
  rintro r w3 ⟨rfl, rfl⟩
  have rk := aroundI_range at' (ww.length : Int) (by omega)
  generalize aroundI at' (ww.length : Int) = j at rk
  obtain ⟨k, rfl⟩ := Int.eq_ofNat_of_zero_le rk.1
  have hk : k < ww.length := by omega
  refine ⟨_, rfl, by omega, by omega, ?_⟩
  obtain ⟨d, hd⟩ : ∃ d : UInt8, c = (d.toNat : Int) := ⟨UInt8.ofNat c.toNat, by rw [UInt8.toNat_ofNat', Nat.mod_eq_of_lt (by omega)]; omega⟩
  subst hd
  obtain ⟨p, hp, _, t1, t2, t3, t4⟩ := ow_set o2 k (by simpa using hk) (byteV d)
  rw [hp, Int.toNat_natCast, Nat.mul_one]
  refine ⟨t1, t2, ?_⟩
  have em : (ww.map byteV).set k (byteV d) = (ww.set k d).map byteV := by rw [List.map_set]
  rw [em] at t3
  have hs1 : W.heap.size ≤ w1.heap.size := f1.size
  have hs2 : w1.heap.size ≤ w2.heap.size := f2.size
  have F3 : Fr0 w0 (w2.setCell (p.add k) (byteV d)) := (F1.tr0 f2).trn t4 fun z hz => by have := n2 z hz; have := F1.size; omega
  have x3 := (x1.fr0 f2).fr t4 fun z hz hm => by have := n2 z hm; have := x1.lt z hz; omega
  have o3 := (o1.fr0 f2).fr t4 fun z hz hm => by have := n2 z hm; have := o1.lt z hz; omega
  show enthymemelaw38_ChannelEncoding.S12 raw x wh tu (w2.setCell (p.add k) (byteV d)) _
  generalize w2.setCell (p.add k) (byteV d) = w3 at t3 F3 x3 o3
  refine (few_any (hraw.fr0 F3) 40 (by omega)).mono ?_
  rintro r w4 ⟨fe, rfl, o4, f4, n4⟩
  have lf : (rl.take 40).length ≤ 40 := by rw [List.length_take]; omega
  generalize rl.take 40 = ff at o4 lf
  refine ⟨fe, rfl, (p_whole o4.rd (by omega)).mono ?_⟩
  rintro r w5 ⟨wf, rfl, o5, f5, n5⟩
  refine ⟨wf, rfl, ?_⟩
  have lwf : (wholeB ff).length ≤ 1000 := by
    have h1 := encU_len10 (bytesH parcel ff) (bytesH_lt _ _)
    have h2 := encU_len10 ff.length (by omega)
    unfold wholeB encR
    simp only [List.length_append]
    omega
  intro w6
  have f6 : Fr0 w5 w6 := Fr.alloc _ _ _
  have c6 : w6.heap[w5.heap.size]? = some (.cells #[wh.v, x.v, tu.v, fe.v, wf.v] ty_sl_uint8 (0, 0)) := heap_new w5 _
  clear_value w6
  have F56 := f5.tr0 f6
  have F46 := f4.tr0 F56
  have o3' := o3.fr0 F46
  have x3' := x3.fr0 F46
  have t3' := t3.fr0 F46
  have o4' := o4.fr0 F56
  have o5' := o5.fr0 f6
  refine loop (ss := [(wh, ww), (x, xb), (tu, ww.set k d), (fe, ff), (wf, wholeB ff)]) 5 0 rfl w6 (F3.tr0 F46) ⟨c6, rfl, ?_⟩
  intro p hp
  simp only [List.mem_cons, List.not_mem_nil, or_false] at hp
  rcases hp with rfl | rfl | rfl | rfl | rfl
  · exact ⟨o3'.rd, o3'.lt, by simp only; omega⟩
  · exact ⟨x3'.rd, x3'.lt, by simp only; omega⟩
  · exact ⟨t3'.rd, t3'.lt, by simp only [List.length_set]; omega⟩
  · exact ⟨o4'.rd, o4'.lt, by simp only; omega⟩
  · exact ⟨o5'.rd, o5'.lt, by simp only; omega⟩
theorem walk (q a : Int) (ps : Sl) (at' c : Int) (raw : Sl) (w : World) (hq : I64 q) (hA : I64 a) (hp : ArgBytes w ps) (ha : I64 at') (hc : 0 ≤ c ∧ c ≤ 255) (hr : ArgBytes w raw) :
    Calls Try.prog n_enthymemelaw38_ChannelEncoding #[.agg #[.int .i64 q, .int .i64 a, ps.v], .int .i64 at', .int .u8 c, raw.v] w (Fin w) := by
  obtain ⟨pl, hpl, _⟩ := hp
  obtain ⟨rl, hrl, _⟩ := hr
  refine enthymemelaw38_ChannelEncoding.ok _ _ _ _ _ _ w _ ?_
  unfold enthymemelaw38_ChannelEncoding.S0
  intro w1
  have f1 : Fr0 w w1 := Fr.alloc _ _ _
  have s1 : w1.heap.size = w.heap.size + 1 := size_alloc _ _
  have c1 : w1.heap[w.heap.size]? = some (.cells #[.int .i64 q, .int .i64 a, ps.v] ty_channel_Packet (0, 0)) := heap_new w _
  clear_value w1
  refine ⟨ps, (get3 c1).2.2, (few_any (hpl.fr0 f1) 40 (by omega)).mono ?_⟩
  rintro r w2 ⟨s, rfl, o2, f2, n2⟩
  have lb : (pl.take 40).length ≤ 40 := by rw [List.length_take]; omega
  generalize pl.take 40 = bb at o2 lb
  have hs2 : w1.heap.size ≤ w2.heap.size := f2.size
  refine ⟨s, rfl, ?_⟩
  obtain ⟨z1, z2, z3, z4⟩ := set_c (f2.at c1 id) 2 (by simp) s.v
  refine ⟨z1, z2, ?_⟩
  have c3 : (w2.setCell ((at0 w.heap.size).add 2) s.v).heap[w.heap.size]? = some (.cells #[.int .i64 q, .int .i64 a, s.v] ty_channel_Packet (0, 0)) := by simpa using z3
  show enthymemelaw38_ChannelEncoding.S2 at' c raw (at0 w.heap.size) (w2.setCell ((at0 w.heap.size).add 2) s.v) _
  have F3 : Fr0 w (w2.setCell ((at0 w.heap.size).add 2) s.v) := (f1.tr0 f2).trn z4 fun x e => by omega
  have o3 := o2.fr z4 fun x hx e => by have := n2 x hx; omega
  generalize w2.setCell ((at0 w.heap.size).add 2) s.v = w3 at c3 F3 o3
  obtain ⟨g0, g1, g2⟩ := get3 c3
  refine ⟨q, a, s, g0, g1, g2, (c_encode q a hq hA o3.rd o3.lt).mono ?_⟩
  rintro r w4 ⟨x, rfl, o4, f4, n4⟩
  have c4 := f4.at c3 id
  obtain ⟨g0, g1, g2⟩ := get3 c4
  refine ⟨x, _, rfl, q, a, s, g0, g1, g2, (p_plain q a s).mono ?_⟩
  rintro r w5 ⟨rfl, f5⟩
  have s5 := o3.fr0 (f4.tr0 f5)
  refine ⟨_, _, s, rfl, (p_encode q a hq hA s5.rd).mono ?_⟩
  rintro r w6 ⟨y, rfl, o6, f6, n6⟩
  refine ⟨y, _, rfl, sel_false (by simp) ?_⟩
  have x6 := o4.fr0 (f5.tr0 f6)
  have lx : (encP q a bb).1.length ≤ 100000 := by
    unfold encP
    split
    · have lc := coreB_len q a hq hA (b := bb) (by omega)
      have h1 := encU_len10 (bytesH parcel (coreB q a bb)) (bytesH_lt _ _)
      have h2 := encU_len10 (coreB q a bb).length (by omega)
      unfold wholeB encR
      simp only [List.length_append]
      omega
    · simp
  refine (same_bytes x6.rd o6.rd (by omega)).mono ?_
  rintro r w7 ⟨rfl, f7⟩
  refine ⟨_, rfl, sel_false (by simp) ?_⟩
  have F37 := f4.tr0 (f5.tr0 (f6.tr0 f7))
  have F7 := F3.tr0 F37
  have c7 := F37.at c3 id
  have s7 := o3.fr0 F37
  have x7 := x6.fr0 f7
  have fd : Fr0 w7 w7.drew := Fr.drew _ _
  have F8 := F7.tr0 fd
  have c8 := fd.at c7 id
  have s8 := s7.fr0 fd
  have x8 := x7.fr0 fd
  unfold enthymemelaw38_ChannelEncoding.S6
  generalize w7.drew = v at F8 c8 s8 x8
  obtain ⟨g0, g1, g2⟩ := get3 c8
  refine ⟨q, g0, a, g1, s, g2, ?_⟩
  have rq := aroundI_range q 300 (by omega)
  have ra := aroundI_range a 300 (by omega)
  have aq : ∀ W, Calls Try.prog n_enthymemeref01_Around #[.int .i64 q, .int .i64 300] W fun r w' => r = .returned (.int .i64 (aroundI q 300)) ∧ W = w' := fun W => around_any q 300 W (by omega) hq
  have aa : ∀ W, Calls Try.prog n_enthymemeref01_Around #[.int .i64 a, .int .i64 300] W fun r w' => r = .returned (.int .i64 (aroundI a 300)) ∧ W = w' := fun W => around_any a 300 W (by omega) hA
  generalize aroundI q 300 = q' at rq aq
  generalize aroundI a 300 = a' at ra aa
  have eq1 : IntKind.wrap .i64 (1 + q') = 1 + q' := IntWalk.i64_in _ (by omega)
  -- the new variable, and then the rest
  have f9 : Fr0 v (v.alloc (.cells #[.int .i64 0, .int .i64 0, (⟨none, 0, 0⟩ : Sl).v] ty_enthymemeref38_Packet)) := Fr.alloc _ _ _
  have s9 : (v.alloc (.cells #[.int .i64 0, .int .i64 0, (⟨none, 0, 0⟩ : Sl).v] ty_enthymemeref38_Packet)).heap.size = v.heap.size + 1 := size_alloc _ _
  have c9 : (v.alloc (.cells #[.int .i64 0, .int .i64 0, (⟨none, 0, 0⟩ : Sl).v] ty_enthymemeref38_Packet)).heap[v.heap.size]? = some (.cells #[.int .i64 0, .int .i64 0, (⟨none, 0, 0⟩ : Sl).v] ty_enthymemeref38_Packet (0, 0)) := heap_new v _
  have lts := s8.lt
  have ltx := x8.lt
  have vF := F8.size
  have rest := set3 c9 (.int .i64 (IntKind.wrap .i64 (1 + q'))) (.int .i64 a') s.v (fun w' => enthymemelaw38_ChannelEncoding.S7 at' c raw x (at0 v.heap.size) w' (Fin w)) fun w10 c10 f10 => by
    rw [eq1] at c10
    exact tail ((F8.tr0 f9).trn f10 fun z e => by omega) c10 (by omega) (by omega) ((s8.fr0 f9).fr f10 fun z hz e => by have := lts z hz; omega) lb ((x8.fr0 f9).fr f10 fun z hz e => by have := ltx z hz; omega) lx hrl at' c ha hc
  obtain ⟨h0, h1, h2⟩ := get3 (f9.at c8 id)
  refine ⟨(aq v).mono ?_, h2, h1, h0, (aq _).mono ?_⟩
  · rintro r w' ⟨rfl, rfl⟩
    refine ⟨_, rfl, g2, g1, (aa v).mono ?_, h2, h1, (aa _).mono ?_⟩
    · rintro r w' ⟨rfl, rfl⟩
      exact ⟨_, rfl, g2, h2, rest⟩
    · rintro r w' ⟨rfl, rfl⟩
      exact ⟨_, rfl, h2, rest⟩
  · rintro r w' ⟨rfl, rfl⟩
    refine ⟨_, rfl, h2, h1, (aa _).mono ?_⟩
    rintro r w' ⟨rfl, rfl⟩
    exact ⟨_, rfl, h2, rest⟩
end Enc
end Go.Proofs.Ytpfomlenbhocpaa

/- Chapter 2's values in memory: lists of one's own, and the contract of the generator. -/
import Derived.Test.YtjmnpdacalbpkaaWW
namespace Go.Proofs.Ytjmnpdacalbpkaa
open Go Go.W

theorem el_vals : ElemOk Try.prog ty_sl_enthymemeref02_Val ty_enthymemeref02_Val (.agg #[.int .i64 0, .int .u64 0, .int .i64 0, .slice none 0 0, .slice none 0 0]) 5 72 := ⟨by kernel_rfl, by kernel_rfl, rfl, by decide, by decide⟩
theorem vcells_one (cs : List VC) : ∀ u ∈ cs.flatMap vcells, u.oneCell' = true := by
  intro u hu
  obtain ⟨c, _, hc⟩ := List.mem_flatMap.1 hu
  simp [vcells] at hc
  rcases hc with rfl | rfl | rfl | rfl | rfl <;> rfl
/-- a list of values of one's own, all of it in blocks from lo to hi -/
def OwnVals (lo hi : Nat) (w : World) (s : Sl) (vs : List V) : Prop :=
  ∃ cs : List VC, s.n = cs.length ∧ OwnRow w ty_enthymemeref02_Val 5 s (cs.flatMap vcells) ∧ All2 (VIs (fun x => lo ≤ x ∧ x < hi ∧ x ∉ blkL s) w) cs vs ∧ ∀ x ∈ blkL s, lo ≤ x ∧ x < hi
theorem OwnVals.nil (lo hi : Nat) (w : World) : OwnVals lo hi w ⟨none, 0, 0⟩ [] := ⟨[], rfl, OwnRow.nil _ _ _, trivial, by simp [blkL]⟩
theorem OwnVals.len {lo hi : Nat} {w : World} {s : Sl} {vs : List V} (h : OwnVals lo hi w s vs) : s.n = vs.length := by
  obtain ⟨cs, h1, _, h3, _⟩ := h
  rw [h1, h3.length]
theorem OwnVals.rd {lo hi : Nat} {w : World} {s : Sl} {vs : List V} (h : OwnVals lo hi w s vs) : RdVals (fun x => lo ≤ x ∧ x < hi) w s vs := by
  obtain ⟨cs, h1, h2, h3, h4⟩ := h
  exact ⟨cs, h1, h2.cap, h2.row.crow, h3.mono fun _ _ _ _ h => h.mono fun x hx => ⟨hx.1, hx.2.1⟩, fun x hx => h4 x hx⟩
theorem OwnVals.fr {M : Nat → Prop} {lo hi : Nat} {w w' : World} {s : Sl} {vs : List V} (h : OwnVals lo hi w s vs) (f : Fr M w w') (hn : ∀ x, lo ≤ x → x < hi → ¬ M x) : OwnVals lo hi w' s vs := by
  obtain ⟨cs, h1, h2, h3, h4⟩ := h
  exact ⟨cs, h1, h2.fr f fun x hx => hn x (h4 x hx).1 (h4 x hx).2, h3.mono fun _ _ _ _ h => h.fr f fun x hx => hn x hx.1 hx.2.1, h4⟩
theorem OwnVals.fr0 {lo hi : Nat} {w w' : World} {s : Sl} {vs : List V} (h : OwnVals lo hi w s vs) (f : Fr0 w w') : OwnVals lo hi w' s vs := h.fr f fun _ _ _ h => h
theorem OwnVals.up {lo hi hi' : Nat} {w : World} {s : Sl} {vs : List V} (h : OwnVals lo hi w s vs) (hh : hi ≤ hi') : OwnVals lo hi' w s vs := by
  obtain ⟨cs, h1, h2, h3, h4⟩ := h
  exact ⟨cs, h1, h2, h3.mono fun _ _ _ _ h => h.mono fun x hx => ⟨hx.1, by omega, hx.2.2⟩, fun x hx => by have := h4 x hx; omega⟩
theorem append_vals {ty : TypeId} {lo hi : Nat} {w : World} {s src : Sl} {vs vs' : List V} {cs' : List VC} (h : OwnVals lo hi w s vs) (hhi : hi ≤ w.heap.size) (hr : CRow w src (cs'.flatMap vcells)) (hn : src.n = cs'.length) (hv : All2 (VIs (fun x => lo ≤ x ∧ x < w.heap.size ∧ x ∉ blkL s) w) cs' vs') (hb : vs.length + vs'.length ≤ 1000000) (hlo : lo ≤ w.heap.size) :
    ∃ s' w', (Builtin.append_ #[ty_sl_enthymemeref02_Val, ty_sl_enthymemeref02_Val] ty #[s.v, src.v]).run Try.prog w = .ok s'.v w' ∧ OwnVals lo w'.heap.size w' s' (vs ++ vs') ∧ Fr (fun b => b ∈ blkL s) w w' ∧ (∀ b ∈ blkL s', b ∈ blkL s ∨ w.heap.size ≤ b) := by
  have hl := h.len
  obtain ⟨cs, h1, h2, h3, h4⟩ := h
  have e1 := h3.length
  have e2 := hv.length
  obtain ⟨s', w', g1, g2, g3, g4, g5, _⟩ := append_ownC (ty := ty) el_vals h2 hr (by rw [flat_length vcells 5 (fun _ => rfl), hn]) (vcells_one cs') (by rw [h1, hn]; omega)
  have hs := g4.size
  have h3' := h3.mono fun _ _ _ _ h => h.mono (A' := fun x => lo ≤ x ∧ x < w.heap.size ∧ x ∉ blkL s) fun x hx => ⟨hx.1, by omega, hx.2.2⟩
  refine ⟨s', w', g1, ⟨cs ++ cs', by rw [g3, h1, hn]; simp, by rw [List.flatMap_append]; exact g2, ?_, ?_⟩, g4, g5⟩
  · refine (h3'.append hv).mono fun _ _ _ _ h => (h.fr g4 fun x hx hm => hx.2.2 hm).mono fun x hx => ⟨hx.1, by omega, fun hm => ?_⟩
    rcases g5 x hm with h | h
    · exact hx.2.2 h
    · omega
  · intro x hx
    have := g2.lt x hx
    rcases g5 x hx with h | h
    · have := h4 x h; omega
    · omega
/-- what the generator makes -/
structure V.Gen (v : V) : Prop where
  k0 : 0 ≤ v.kind
  k5 : v.kind ≤ 5
  ok : v.Ok
  norm : v = ⟨v.kind, if v.kind = 0 then v.u else 0, if v.kind = 1 ∨ v.kind = 2 then v.n else 0, if v.kind = 3 ∨ v.kind = 4 then v.b else [], if v.kind = 5 then v.l else []⟩
  two : v.kind = 2 → v.n = 0 ∨ v.n = 1
  bl : v.b.length ≤ 9
  ll : v.l.length ≤ 4
theorem num_at {w : World} {s : Sl} {l : List Int} (h : Nums w s l) {p : Addr} (hp : s.a = some p) {i : Nat} {x : Int} (hi : l[i]? = some x) : w.cell? (p.add (Int.toNat (i : Int) * 1)) = some (.int .i64 x) := by
  obtain ⟨q, hq, hc⟩ := h.2.2.2 i (intV x) (by simp [hi])
  rw [hp] at hq
  cases hq
  rw [Int.toNat_natCast, Nat.mul_one]; exact hc
theorem vals_s11 {w0 w : World} {ls out : Sl} {i vb hi : Nat} {vs : List V} {v : V} {c : VC} (F : Fr0 w0 w) (ho : OwnVals w0.heap.size hi w out vs) (hhi : hi ≤ w.heap.size) (hi8 : i < 8) (hvl : vs.length ≤ 8)
    (hv : w.heap[vb]? = some (.cells #[.int .i64 c.k, .int .u64 c.u, .int .i64 c.n, c.b.v, c.l.v] ty_enthymemeref02_Val (0, 0))) (hc : VIs (fun x => hi ≤ x ∧ x < w.heap.size) w c v) (hlo : w0.heap.size ≤ hi) (R : Post)
    (hR : ∀ s' w', Fr0 w0 w' → OwnVals w0.heap.size w'.heap.size w' s' (vs ++ [v]) → enthymemeref02_Vals.L3 ls s' ((i + 1 : Nat) : Int) w' R) : enthymemeref02_Vals.S11 ls out (i : Int) (at0 vb) w R := by
  refine ⟨_, _, _, _, _, cellAt (p := at0 vb) hv rfl rfl, cellAt (p := at0 vb) hv rfl rfl, cellAt (p := at0 vb) hv rfl rfl, cellAt (p := at0 vb) hv rfl rfl, cellAt (p := at0 vb) hv rfl rfl, ?_⟩
  intro w1
  have f1 : Fr0 w w1 := Fr.alloc _ _ _
  have hs1 : w1.heap.size = w.heap.size + 1 := size_alloc _ _
  have hr : CRow w1 ⟨some ⟨w.heap.size, 0, none⟩, 1, 1⟩ ([c].flatMap vcells) := (Row.made w ty_enthymemeref02_Val 1 1 (vcells c)).crow
  have hF := F.size
  have h4 : ∀ x ∈ blkL out, w0.heap.size ≤ x ∧ x < hi := by obtain ⟨_, _, _, _, h4⟩ := ho; exact h4
  obtain ⟨s', w2, g1, g2, g3, g4⟩ := append_vals (ty := ty_sl_enthymemeref02_Val) (ho.fr0 f1) (by omega) hr rfl (vs' := [v]) ⟨(hc.fr0 f1).mono fun x hx => ⟨by omega, by omega, fun hm => by have := h4 x hm; omega⟩, trivial⟩ (by simp; omega) (by omega)
  refine ⟨s', w2, g1, ?_⟩
  show enthymemeref02_Vals.L3 ls s' (IntKind.wrap .i64 ((i : Int) + 1)) w2 R
  rw [i64_next i (by omega)]
  exact hR s' w2 ((F.tr0 f1).trn g3 fun x hx => (h4 x hx).1) g2
theorem shr_i64 (x : Int) (h : I64 x) (d : Nat) (hd : d < 64) : I64 (Int.fdiv x (2 ^ (min d (IntKind.bits .i64)))) := by
  have e : min d (IntKind.bits .i64) = d := by show min d 64 = d; omega
  rw [e, show ((2 : Int) ^ d) = ((2 ^ d : Nat) : Int) from by rw [Int.natCast_pow]; rfl]
  have hp : (0 : Int) < ((2 ^ d : Nat) : Int) := by have := Nat.pow_pos (n := d) (show 0 < 2 by omega); omega
  rw [Int.fdiv_eq_ediv_of_nonneg _ (by omega)]
  obtain ⟨h1, h2⟩ := h
  refine ⟨?_, ?_⟩
  · exact Int.le_trans (by
      have := Int.le_ediv_of_mul_le (a := -9223372036854775808) (b := -9223372036854775808) hp (by
        have : (-9223372036854775808 : Int) * ((2 ^ d : Nat) : Int) ≤ -9223372036854775808 * 1 := Int.mul_le_mul_of_nonpos_left (by omega) (by omega)
        omega)
      exact this) (Int.ediv_le_ediv hp h1)
  · by_cases hx : 0 ≤ x
    · exact Int.le_trans (Int.ediv_le_self _ hx) h2
    · have := Int.ediv_neg_of_neg_of_pos (by omega : x < 0) hp
      omega

theorem vals_l19 {w0 : World} {ls out : Sl} {l : List Int} {i vb n : Nat} {x : Int} {vs : List V} (hls : Nums w0 ls l) (hx : l[i]? = some x) (hxi : I64 x) (hi : i < 8) (hvl : vs.length ≤ 8) (hn : n < 63) (R : Post) (k : Int) (hk : k = 3 ∨ k = 4)
    (hR : ∀ s' w' v, V.Gen v → Fr0 w0 w' → OwnVals w0.heap.size w'.heap.size w' s' (vs ++ [v]) → enthymemeref02_Vals.L3 ls s' ((i + 1 : Nat) : Int) w' R) (hvb : w0.heap.size ≤ vb) :
    ∀ (d j : Nat), j + d = n % 10 → ∀ (w : World) (sb : Sl) (bs : List UInt8), bs.length = j → Fr0 w0 w → OwnVals w0.heap.size vb w out vs →
      w.heap[vb]? = some (.cells #[.int .i64 k, .int .u64 0, .int .i64 0, sb.v, .slice none 0 0] ty_enthymemeref02_Val (0, 0)) → BytesO w sb bs → (∀ y ∈ blkL sb, vb < y) →
      enthymemeref02_Vals.L19 ls out (i : Int) (n : Int) (at0 vb) (j : Int) w R := by
  have hin : i < ls.n := by rw [Nums.len hls]; exact (List.getElem?_eq_some_iff.1 hx).1
  intro d
  induction d with
  | zero =>
    intro j hj w sb bs hbl F ho hv hb hsb
    have hvlt := lt_of_heap hv
    refine enthymemeref02_Vals.L19_step _ _ _ _ _ _ _ _ (sel_false (decide_eq_false (by rw [IntWalk.rem_in _ _ (by omega)]; omega)) ?_)
    refine vals_s11 (c := ⟨k, 0, 0, sb, ⟨none, 0, 0⟩⟩) (v := ⟨k, 0, 0, bs, []⟩) F ho (by omega) hi hvl hv ⟨rfl, rfl, rfl, hb.rd, Rd.nil _, fun y hy => ⟨Nat.le_of_lt (hsb y hy), hb.lt y hy⟩, by simp [blkL]⟩ hvb R fun s' w' F' ho' => hR s' w' _ ?_ F' ho'
    refine ⟨by simp only; omega, by simp only; omega, ⟨by simp, by simp only; omega, by simp only; omega, by simp, by simp⟩, ?_, by simp only; omega, by simp only; omega, by simp⟩
    simp only [V.mk.injEq, true_and]
    refine ⟨by simp, by simp, by rw [if_pos hk], by simp⟩
  | succ d ih =>
    intro j hj w sb bs hbl F ho hv hb hsb
    refine enthymemeref02_Vals.L19_step _ _ _ _ _ _ _ _ (sel_true (decide_eq_true (by rw [IntWalk.rem_in _ _ (by omega)]; omega)) ?_)
    have fd : Fr0 w w.drew := Fr.drew _ _
    have Fd := F.tr0 fd
    have vd := fd.at hv id
    refine ⟨sb, cellAt (p := at0 vb) vd rfl rfl, by omega, by omega, Nums.cell (hls.fr0 Fd) hx (by rw [Int.toNat_natCast]) fun p hp hc => ⟨x, hc, ?_⟩⟩
    rw [u64_nat j (by omega)]
    refine ⟨by omega, ?_⟩
    obtain ⟨q, hq⟩ : ∃ q : UInt8, IntKind.wrap .u8 (Int.fdiv x (2 ^ (min (Int.toNat (j : Int)) (IntKind.bits .i64)))) = (q.toNat : Int) := by
      generalize Int.fdiv x (2 ^ (min (Int.toNat (j : Int)) (IntKind.bits .i64))) = y
      refine ⟨UInt8.ofNat (y % 256).toNat, ?_⟩
      rw [IntKind.wrap_u8]
      simp
      omega
    rw [hq]
    intro w1
    have f1 : Fr0 w.drew w1 := Fr.alloc _ _ _
    have F1 := Fd.tr0 f1
    have v1 := f1.at vd id
    have fa : Fr0 w w1 := fd.tr0 f1
    refine ⟨num_at (hls.fr0 F1) hp hx, cellAt (p := at0 vb) v1 rfl rfl, ?_⟩
    obtain ⟨sb', w2, g1, g2, g3, g4, _⟩ := append_bytes (ty := ty_sl_uint8) (hb.fr0 fa) (one_byte w.drew q) (by simp; omega)
    have hne : vb ∉ blkL sb := ow_ne hb hv (by decide)
    have v2 := g3.at v1 hne
    have F2 : Fr0 w0 w2 := F1.trn g3 fun y hy => by have := hsb y hy; omega
    obtain ⟨a1, a2, a3, a4⟩ := set_c v2 3 (by simp) sb'.v
    refine ⟨sb', w2, g1, num_at (hls.fr0 F2) hp hx, a1, a2, ?_⟩
    show enthymemeref02_Vals.L19 ls out (i : Int) (n : Int) (at0 vb) (IntKind.wrap .i64 ((j : Int) + 1)) _ R
    rw [i64_next j (by omega)]
    have hs1 : w.heap.size ≤ w1.heap.size := fa.size
    have hvlt := lt_of_heap hv
    have g4' : ∀ y ∈ blkL sb', vb < y := fun y hy => by
      rcases g4 y hy with h | h
      · exact hsb y h
      · omega
    exact ih (j + 1) (by omega) _ sb' _ (by simp; omega) (fr_at F2 hvb a4) (((ho.fr0 fa).fr g3 fun y h1 h2 hm => by have := hsb y hm; omega).fr a4 fun y h1 h2 e => by omega) a3 (g2.fr a4 fun y hy e => by have := g4' y hy; omega) g4'
theorem vals_l24 {w0 : World} {ls out : Sl} {l : List Int} {i vb n : Nat} {x : Int} {vs : List V} (hls : Nums w0 ls l) (hx : l[i]? = some x) (hxi : I64 x) (hi : i < 8) (hvl : vs.length ≤ 8) (hn : n < 63) (R : Post) (k : Int) (hk : k = 5)
    (hR : ∀ s' w' v, V.Gen v → Fr0 w0 w' → OwnVals w0.heap.size w'.heap.size w' s' (vs ++ [v]) → enthymemeref02_Vals.L3 ls s' ((i + 1 : Nat) : Int) w' R) (hvb : w0.heap.size ≤ vb) :
    ∀ (d j : Nat), j + d = n % 5 → ∀ (w : World) (sb : Sl) (bs : List Int), bs.length = j → (∀ y ∈ bs, I64 y) → Fr0 w0 w → OwnVals w0.heap.size vb w out vs →
      w.heap[vb]? = some (.cells #[.int .i64 k, .int .u64 0, .int .i64 0, .slice none 0 0, sb.v] ty_enthymemeref02_Val (0, 0)) → NumsO w sb bs → (∀ y ∈ blkL sb, vb < y) →
      enthymemeref02_Vals.L24 ls out (i : Int) (n : Int) (at0 vb) (j : Int) w R := by
  have hin : i < ls.n := by rw [Nums.len hls]; exact (List.getElem?_eq_some_iff.1 hx).1
  intro d
  induction d with
  | zero =>
    intro j hj w sb bs hbl hbi F ho hv hb hsb
    have hvlt := lt_of_heap hv
    refine enthymemeref02_Vals.L24_step _ _ _ _ _ _ _ _ (sel_false (decide_eq_false (by rw [IntWalk.rem_in _ _ (by omega)]; omega)) ?_)
    refine vals_s11 (c := ⟨k, 0, 0, ⟨none, 0, 0⟩, sb⟩) (v := ⟨k, 0, 0, [], bs⟩) F ho (by omega) hi hvl hv ⟨rfl, rfl, rfl, Rd.nil _, hb.rd, by simp [blkL], fun y hy => ⟨Nat.le_of_lt (hsb y hy), hb.lt y hy⟩⟩ hvb R fun s' w' F' ho' => hR s' w' _ ?_ F' ho'
    refine ⟨by simp only; omega, by simp only; omega, ⟨by simp, by simp only; omega, by simp, by simp only; omega, hbi⟩, ?_, by simp only; omega, by simp, by simp only; omega⟩
    simp only [V.mk.injEq, true_and]
    refine ⟨by simp, by simp, by simp, by rw [if_pos hk]⟩
  | succ d ih =>
    intro j hj w sb bs hbl hbi F ho hv hb hsb
    refine enthymemeref02_Vals.L24_step _ _ _ _ _ _ _ _ (sel_true (decide_eq_true (by rw [IntWalk.rem_in _ _ (by omega)]; omega)) ?_)
    have fd : Fr0 w w.drew := Fr.drew _ _
    have Fd := F.tr0 fd
    have vd := fd.at hv id
    refine ⟨sb, cellAt (p := at0 vb) vd rfl rfl, by omega, by omega, Nums.cell (hls.fr0 Fd) hx (by rw [Int.toNat_natCast]) fun p hp hc => ⟨x, hc, ?_⟩⟩
    rw [show IntKind.wrap .i64 (13 * (j : Int)) = ((13 * j : Nat) : Int) from by rw [IntWalk.i64_in _ (by omega)]; omega, u64_nat (13 * j) (by omega)]
    refine ⟨by omega, ?_⟩
    obtain ⟨q, hq⟩ : ∃ q : Int, q = Int.fdiv x (2 ^ (min (Int.toNat ((13 * j : Nat) : Int)) (IntKind.bits .i64))) := ⟨_, rfl⟩
    have hqi : I64 q := by rw [hq, Int.toNat_natCast]; exact shr_i64 x hxi (13 * j) (by omega)
    rw [← hq]
    intro w1
    have f1 : Fr0 w.drew w1 := Fr.alloc _ _ _
    have F1 := Fd.tr0 f1
    have v1 := f1.at vd id
    have fa : Fr0 w w1 := fd.tr0 f1
    refine ⟨num_at (hls.fr0 F1) hp hx, cellAt (p := at0 vb) v1 rfl rfl, ?_⟩
    obtain ⟨sb', w2, g1, g2, g3, g4, _⟩ := append_nums (ty := ty_sl_int) (hb.fr0 fa) (one_num w.drew q) (by simp; omega)
    have hne : vb ∉ blkL sb := ow_ne hb hv (by decide)
    have v2 := g3.at v1 hne
    have F2 : Fr0 w0 w2 := F1.trn g3 fun y hy => by have := hsb y hy; omega
    obtain ⟨a1, a2, a3, a4⟩ := set_c v2 4 (by simp) sb'.v
    refine ⟨sb', w2, g1, num_at (hls.fr0 F2) hp hx, a1, a2, ?_⟩
    show enthymemeref02_Vals.L24 ls out (i : Int) (n : Int) (at0 vb) (IntKind.wrap .i64 ((j : Int) + 1)) _ R
    rw [i64_next j (by omega)]
    have hs1 : w.heap.size ≤ w1.heap.size := fa.size
    have hvlt := lt_of_heap hv
    have g4' : ∀ y ∈ blkL sb', vb < y := fun y hy => by
      rcases g4 y hy with h | h
      · exact hsb y h
      · omega
    exact ih (j + 1) (by omega) _ sb' _ (by simp; omega) (fun y hy => by rcases List.mem_append.1 hy with h | h; exact hbi y h; rw [List.mem_singleton.1 h]; exact hqi) (fr_at F2 hvb a4) (((ho.fr0 fa).fr g3 fun y h1 h2 hm => by have := hsb y hm; omega).fr a4 fun y h1 h2 e => by omega) a3 (g2.fr a4 fun y hy e => by have := g4' y hy; omega) g4'

theorem vals_loop {w0 : World} {ls : Sl} {l : List Int} (hls : Nums w0 ls l) (hli : ∀ x ∈ l, I64 x) (R : Post)
    (hR : ∀ s w vs, vs.length ≤ 8 → (∀ v ∈ vs, V.Gen v) → Fr0 w0 w → OwnVals w0.heap.size w.heap.size w s vs → R (.returned s.v) w) :
    ∀ (d i : Nat), i + d = 8 → ∀ (w : World) (out : Sl) (vs : List V), vs.length = i → (∀ v ∈ vs, V.Gen v) → Fr0 w0 w → OwnVals w0.heap.size w.heap.size w out vs → enthymemeref02_Vals.L3 ls out (i : Int) w R := by
  have hn := Nums.len hls
  intro d
  induction d with
  | zero =>
    intro i hi w out vs hl hg F ho
    refine enthymemeref02_Vals.L3_step _ _ _ _ _ (sel_intro (fun h => sel_false (decide_eq_false (by omega)) (hR out w vs (by omega) hg F ho)) (fun h => hR out w vs (by omega) hg F ho))
  | succ d ih =>
    intro i hi w out vs hl hg F ho
    refine enthymemeref02_Vals.L3_step _ _ _ _ _ (sel_intro (fun h => sel_true (decide_eq_true (by omega)) ?_) (fun h => hR out w vs (by omega) hg F ho))
    have hlt : i < l.length := by have := of_decide_eq_true h; omega
    have hx : l[i]? = some l[i] := List.getElem?_eq_getElem hlt
    have hxi := hli _ (List.getElem_mem hlt)
    generalize l[i] = x at hx hxi
    refine ⟨by omega, by omega, Nums.cell (hls.fr0 F) hx (by rw [Int.toNat_natCast]) fun p hp hc => ⟨x, hc, (around_any x 6 w (by omega) hxi).mono ?_⟩⟩
    rintro r w1 ⟨rfl, rfl⟩
    have hk := aroundI_range x 6 (by omega)
    generalize aroundI x 6 = k at hk
    have hdi : I64 (IntKind.wrap .i64 (Int.tdiv x 6)) := by
      rw [IntWalk.i64_quo' _ _ (by omega)]
      have h1 := Int.tdiv_le_tdiv (c := 6) (by omega) hxi.2
      have h2 := Int.tdiv_le_tdiv (c := 6) (by omega) hxi.1
      have e1 : Int.tdiv 9223372036854775807 6 = 1537228672809129301 := by decide
      have e2 : Int.tdiv (-9223372036854775808) 6 = -1537228672809129301 := by decide
      omega
    refine ⟨_, rfl, by omega, by omega, Nums.cell (hls.fr0 F) hx (by rw [Int.toNat_natCast]) fun p2 hp2 hc2 => ⟨x, hc2, (around_any _ 63 w (by omega) hdi).mono ?_⟩⟩
    rintro r w1 ⟨rfl, rfl⟩
    have hr := aroundI_range (IntKind.wrap .i64 (Int.tdiv x 6)) 63 (by omega)
    generalize aroundI (IntKind.wrap .i64 (Int.tdiv x 6)) 63 = n0 at hr
    obtain ⟨n, rfl⟩ := Int.eq_ofNat_of_zero_le hr.1
    refine ⟨_, rfl, ?_⟩
    unfold enthymemeref02_Vals.S7
    intro w2
    have f2 : Fr0 w w2 := Fr.alloc _ _ _
    have hs2 : w2.heap.size = w.heap.size + 1 := size_alloc _ _
    have d2 : w2.heap[w.heap.size]? = some (.cells #[.int .i64 0, .int .u64 0, .int .i64 0, .slice none 0 0, .slice none 0 0] ty_enthymemeref02_Val (0, 0)) := heap_new _ _
    refine init5 d2 _ _ _ _ _ (fun w6 => enthymemeref02_Vals.S8 ls out (i : Int) k (n : Int) (at0 w.heap.size) w6 R) fun w6 d6 g6 => ?_
    have hs6 : w2.heap.size ≤ w6.heap.size := g6.size
    have hF := F.size
    have F6 : Fr0 w0 w6 := (F.tr0 f2).trn g6 fun y e => by omega
    have o6 : OwnVals w0.heap.size w.heap.size w6 out vs := (ho.fr0 f2).fr g6 fun y h1 h2 e => by omega
    have next : ∀ s' w' v, V.Gen v → Fr0 w0 w' → OwnVals w0.heap.size w'.heap.size w' s' (vs ++ [v]) → enthymemeref02_Vals.L3 ls s' ((i + 1 : Nat) : Int) w' R := fun s' w' v hv F' ho' =>
      ih (i + 1) (by omega) w' s' _ (by simp; omega) (fun u hu => by rcases List.mem_append.1 hu with h | h; exact hg u h; rw [List.mem_singleton.1 h]; exact hv) F' ho'
    have nb : ∀ {y : Nat}, y ∈ blkL (⟨none, 0, 0⟩ : Sl) → False := fun h => by simp [blkL] at h
    refine sel_intro (fun h0 => ?_) (fun h0 => ?_)
    · have hk0 : k = 0 := by simpa using h0
      refine ⟨by omega, by omega, Nums.cell (hls.fr0 F6) hx (by rw [Int.toNat_natCast]) fun p3 hp3 hc3 => ⟨x, hc3, ?_⟩⟩
      rw [u64_nat n (by omega)]
      refine ⟨by omega, ?_⟩
      obtain ⟨u, hu, hul⟩ : ∃ u : Nat, Int.fdiv (IntKind.wrap .u64 x) (2 ^ (min (Int.toNat (n : Int)) (IntKind.bits .u64))) = (u : Int) ∧ u < 18446744073709551616 := by
        obtain ⟨m, hm⟩ : ∃ m : Nat, IntKind.wrap .u64 x = (m : Int) ∧ m < 18446744073709551616 := ⟨(x % 18446744073709551616).toNat, by rw [IntKind.wrap_u64]; omega, by omega⟩
        rw [hm.1, Int.toNat_natCast, show min n (IntKind.bits .u64) = n from by show min n 64 = n; omega, show ((2 : Int) ^ n) = ((2 ^ n : Nat) : Int) from by rw [Int.natCast_pow]; rfl, fdiv_nat m _ (Nat.pow_pos (by omega))]
        exact ⟨_, rfl, Nat.lt_of_le_of_lt (Nat.div_le_self _ _) hm.2⟩
      rw [hu]
      obtain ⟨a1, a2, a3, a4⟩ := set_c d6 1 (by simp) (.int .u64 (u : Int))
      have hs7 := a4.size
      refine ⟨a1, a2, vals_s11 (c := ⟨k, u, 0, ⟨none, 0, 0⟩, ⟨none, 0, 0⟩⟩) (v := ⟨k, u, 0, [], []⟩) (fr_at F6 (by omega) a4) (o6.fr a4 fun y h1 h2 e => by omega) (by omega) (by omega) (by omega) a3 ⟨rfl, rfl, rfl, Rd.nil _, Rd.nil _, fun y hy => (nb hy).elim, fun y hy => (nb hy).elim⟩ (by omega) R fun s' w' F' ho' => next s' w' _ ?_ F' ho'⟩
      exact ⟨by simp only; omega, by simp only; omega, ⟨hul, by simp only; omega, by simp, by simp, by simp⟩, by simp [hk0], by simp only; omega, by simp, by simp⟩
    have hk0 : ¬ k = 0 := by simpa using h0
    refine sel_intro (fun h0 => ?_) (fun h0 => ?_)
    · have hk1 : k = 1 := by simpa using h0
      refine ⟨by omega, by omega, Nums.cell (hls.fr0 F6) hx (by rw [Int.toNat_natCast]) fun p3 hp3 hc3 => ⟨x, hc3, ?_⟩⟩
      rw [u64_nat n (by omega)]
      refine ⟨by omega, ?_⟩
      obtain ⟨q, hq⟩ : ∃ q : Int, q = Int.fdiv x (2 ^ (min (Int.toNat (n : Int)) (IntKind.bits .i64))) := ⟨_, rfl⟩
      have hqi : I64 q := by rw [hq, Int.toNat_natCast]; exact shr_i64 x hxi n (by omega)
      rw [← hq]
      obtain ⟨a1, a2, a3, a4⟩ := set_c d6 2 (by simp) (.int .i64 q)
      have hs7 := a4.size
      refine ⟨a1, a2, vals_s11 (c := ⟨k, 0, q, ⟨none, 0, 0⟩, ⟨none, 0, 0⟩⟩) (v := ⟨k, 0, q, [], []⟩) (fr_at F6 (by omega) a4) (o6.fr a4 fun y h1 h2 e => by omega) (by omega) (by omega) (by omega) a3 ⟨rfl, rfl, rfl, Rd.nil _, Rd.nil _, fun y hy => (nb hy).elim, fun y hy => (nb hy).elim⟩ (by omega) R fun s' w' F' ho' => next s' w' _ ?_ F' ho'⟩
      exact ⟨by simp only; omega, by simp only; omega, ⟨by simp, hqi, by simp, by simp, by simp⟩, by simp [hk1], by simp [hk1], by simp, by simp⟩
    have hk1 : ¬ k = 1 := by simpa using h0
    refine sel_intro (fun h0 => ?_) (fun h0 => ?_)
    · have hk2 : k = 2 := by simpa using h0
      have hq : Int.tmod (n : Int) 2 = ((n % 2 : Nat) : Int) := rfl
      obtain ⟨a1, a2, a3, a4⟩ := set_c d6 2 (by simp) (.int .i64 (Int.tmod (n : Int) 2))
      have hs7 := a4.size
      refine ⟨a1, a2, vals_s11 (c := ⟨k, 0, Int.tmod (n : Int) 2, ⟨none, 0, 0⟩, ⟨none, 0, 0⟩⟩) (v := ⟨k, 0, Int.tmod (n : Int) 2, [], []⟩) (fr_at F6 (by omega) a4) (o6.fr a4 fun y h1 h2 e => by omega) (by omega) (by omega) (by omega) a3 ⟨rfl, rfl, rfl, Rd.nil _, Rd.nil _, fun y hy => (nb hy).elim, fun y hy => (nb hy).elim⟩ (by omega) R fun s' w' F' ho' => next s' w' _ ?_ F' ho'⟩
      rw [hq]
      exact ⟨by simp only; omega, by simp only; omega, ⟨by simp, by simp only; omega, by simp, by simp, by simp⟩, by simp [hk2], by simp only; omega, by simp, by simp⟩
    have hk2 : ¬ k = 2 := by simpa using h0
    have l19 : k = 3 ∨ k = 4 → enthymemeref02_Vals.S18 ls out (i : Int) (n : Int) (at0 w.heap.size) w6 R := fun hk => vals_l19 hls hx hxi (by omega) (by omega) (by omega) R k hk next (by omega) (n % 10) 0 (by omega) w6 ⟨none, 0, 0⟩ [] rfl F6 o6 d6 (Ow.nil _ _) (fun y hy => (nb hy).elim)
    refine sel_intro (fun h0 => sel_true h0 (l19 (.inl (by simpa using h0)))) (fun h0 => ?_)
    have hk3 : ¬ k = 3 := by simpa using h0
    refine sel_intro (fun h0 => l19 (.inr (by simpa using h0))) (fun h0 => ?_)
    have hk4 : ¬ k = 4 := by simpa using h0
    exact vals_l24 hls hx hxi (by omega) (by omega) (by omega) R k (by omega) next (by omega) (n % 5) 0 (by omega) w6 ⟨none, 0, 0⟩ [] rfl (by simp) F6 o6 d6 (Ow.nil _ _) (fun y hy => (nb hy).elim)
theorem r_vals {w : World} {ls : Sl} {l : List Int} (hls : Nums w ls l) (hli : ∀ x ∈ l, I64 x) :
    Calls Try.prog n_enthymemeref02_Vals #[ls.v] w fun r w' => ∃ s vs, r = .returned s.v ∧ vs.length ≤ 8 ∧ (∀ v ∈ vs, V.Gen v) ∧ Fr0 w w' ∧ OwnVals w.heap.size w'.heap.size w' s vs :=
  enthymemeref02_Vals.ok _ w _ (vals_loop hls hli _ (fun s w' vs h1 h2 h3 h4 => ⟨s, vs, rfl, h1, h2, h3, h4⟩) 8 0 rfl w ⟨none, 0, 0⟩ [] rfl (by simp) (Fr.refl _ _) (OwnVals.nil _ _ _))
end Go.Proofs.Ytjmnpdacalbpkaa

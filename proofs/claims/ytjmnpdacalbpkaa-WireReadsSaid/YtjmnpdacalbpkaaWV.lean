/- Chapter 2's values in memory: the contracts of write, read, encode and Same. -/
import Derived.Test.YtjmnpdacalbpkaaWM
import Derived.Test.YtjmnpdacalbpkaaVC
namespace Go.Proofs.Ytjmnpdacalbpkaa
open Go Go.W

structure V where
  kind : Int
  u : Nat
  n : Int
  b : List UInt8
  l : List Int
deriving DecidableEq
structure VC where
  k : Int
  u : Int
  n : Int
  b : Sl
  l : Sl
abbrev vcells (c : VC) : List Value := [.int .i64 c.k, .int .u64 c.u, .int .i64 c.n, c.b.v, c.l.v]
abbrev VC.agg (c : VC) : Value := .agg #[.int .i64 c.k, .int .u64 c.u, .int .i64 c.n, c.b.v, c.l.v]
structure VIs (A : Nat → Prop) (w : World) (c : VC) (v : V) : Prop where
  k : c.k = v.kind
  u : c.u = v.u
  n : c.n = v.n
  b : Bytes w c.b v.b
  l : Nums w c.l v.l
  ab : ∀ x ∈ blkL c.b, A x
  al : ∀ x ∈ blkL c.l, A x
theorem VIs.fr {A M : Nat → Prop} {w w' : World} {c : VC} {v : V} (h : VIs A w c v) (f : Fr M w w') (hn : ∀ x, A x → ¬ M x) : VIs A w' c v :=
  ⟨h.k, h.u, h.n, h.b.fr f fun x hx => hn x (h.ab x hx), h.l.fr f fun x hx => hn x (h.al x hx), h.ab, h.al⟩
theorem VIs.fr0 {A : Nat → Prop} {w w' : World} {c : VC} {v : V} (h : VIs A w c v) (f : Fr0 w w') : VIs A w' c v := h.fr f fun _ _ h => h
theorem VIs.mono {A A' : Nat → Prop} {w : World} {c : VC} {v : V} (h : VIs A w c v) (ha : ∀ x, A x → A' x) : VIs A' w c v := ⟨h.k, h.u, h.n, h.b, h.l, fun x hx => ha x (h.ab x hx), fun x hx => ha x (h.al x hx)⟩
structure V.Ok (v : V) : Prop where
  u : v.u < 18446744073709551616
  n : I64 v.n
  b : v.b.length ≤ 1000
  l : v.l.length ≤ 1000
  i : ∀ x ∈ v.l, I64 x
def encV (v : V) : List UInt8 := if v.kind = 0 then encU v.u else if v.kind = 1 then encI v.n else if v.kind = 2 then encB (v.n == 1) else if v.kind = 3 ∨ v.kind = 4 then encR v.b else encL v.l
theorem encV_len (v : V) (h : v.Ok) : (encV v).length ≤ 11000 := by
  have h1 := encU_len10 v.u h.u
  have h2 := encI_len v.n h.n
  have hb := h.b
  have hl := h.l
  have h3 := encU_len10 v.b.length (by omega)
  have h4 := encU_len10 v.l.length (by omega)
  have h5 := flat_len v.l h.i
  unfold encV
  split
  · omega
  · split
    · omega
    · split
      · unfold encB; split <;> simp
      · split
        · simp [encR]; omega
        · simp only [encL, List.length_append]; omega
theorem WrAt.pre {w w1 w' : World} {wb : Nat} {own : List Nat} {bs : List UInt8} (f : Fr0 w w1) (h : WrAt w1 wb own bs w') : WrAt w wb own bs w' := by
  obtain ⟨own', r, g, o⟩ := h
  exact ⟨own', r, f.of0.trans g fun _ _ h => h, fun x hx => (o x hx).imp id fun h => Nat.le_trans f.size h⟩

theorem l_write {A : Nat → Prop} {w : World} {wb : Nat} {bs : List UInt8} {own : List Nat} (hr : WrRep w wb bs own) {c : VC} {v : V} (hv : VIs A w c v) (ok : v.Ok) (ha : ∀ x, A x → x ∉ own ∧ x < w.heap.size) (hl : bs.length ≤ 1000000000) :
    Calls Try.prog n_enthymemelaw02_write #[.pointer (some (at0 wb)), c.agg] w (WrPost w wb own (bs ++ encV v)) := by
  refine enthymemelaw02_write.ok _ _ _ _ _ _ w _ ?_
  unfold enthymemelaw02_write.S0
  intro w1
  have f1 : Fr0 w w1 := Fr.alloc _ _ _
  have c1 : w1.heap[w.heap.size]? = some (.cells #[.int .i64 c.k, .int .u64 c.u, .int .i64 c.n, c.b.v, c.l.v] ty_enthymemeref02_Val (0, 0)) := heap_new _ _
  have r1 := hr.fr0 f1
  have v1 := hv.fr0 f1
  have okb := ok.b
  have okl := ok.l
  refine ⟨_, cellAt (p := at0 w.heap.size) c1 rfl rfl, ?_⟩
  rw [hv.k]
  unfold encV
  refine sel_intro (fun h => ?_) (fun h => ?_)
  · rw [if_pos (by simpa using h)]
    refine ⟨_, cellAt (p := at0 w.heap.size) c1 rfl rfl, ?_⟩
    rw [hv.u]
    refine (w_uint r1 v.u ok.u (by omega)).mono ?_
    rintro r w2 ⟨rfl, h2⟩
    exact ⟨rfl, rfl, h2.pre f1⟩
  rw [if_neg (by simpa using h)]
  refine sel_intro (fun h => ?_) (fun h => ?_)
  · rw [if_pos (by simpa using h)]
    refine ⟨_, cellAt (p := at0 w.heap.size) c1 rfl rfl, ?_⟩
    rw [hv.n]
    refine (w_int r1 v.n ok.n (by omega)).mono ?_
    rintro r w2 ⟨rfl, h2⟩
    exact ⟨rfl, rfl, h2.pre f1⟩
  rw [if_neg (by simpa using h)]
  refine sel_intro (fun h => ?_) (fun h => ?_)
  · rw [if_pos (by simpa using h)]
    refine ⟨_, cellAt (p := at0 w.heap.size) c1 rfl rfl, ?_⟩
    rw [hv.n]
    refine (w_bool r1 _ (by omega)).mono ?_
    rintro r w2 ⟨rfl, h2⟩
    exact ⟨rfl, rfl, h2.pre f1⟩
  rw [if_neg (by simpa using h)]
  refine sel_intro (fun h => ?_) (fun h => ?_)
  · rw [if_pos (.inl (by simpa using h))]
    refine ⟨_, cellAt (p := at0 w.heap.size) c1 rfl rfl, _, bytes_str v1.b, ?_⟩
    refine (w_text r1 _ (by rw [ba_size]; omega)).mono ?_
    rintro r w2 ⟨rfl, h2⟩
    exact ⟨rfl, rfl, h2.pre f1⟩
  refine sel_intro (fun h' => ?_) (fun h' => ?_)
  · rw [if_pos (.inr (by simpa using h'))]
    refine ⟨_, cellAt (p := at0 w.heap.size) c1 rfl rfl, (w_raw r1 v1.b (fun x hx => (ha x (hv.ab x hx)).1) (by omega)).mono ?_⟩
    rintro r w2 ⟨rfl, h2⟩
    exact ⟨rfl, rfl, h2.pre f1⟩
  · rw [if_neg (by simp at h h'; omega)]
    refine ⟨_, cellAt (p := at0 w.heap.size) c1 rfl rfl, (w_ints r1 v1.l (fun x hx => (ha x (hv.al x hx)).1) (fun x hx => Nat.lt_of_lt_of_le (ha x (hv.al x hx)).2 f1.size) ok.i (by omega)).mono ?_⟩
    rintro r w2 ⟨rfl, h2⟩
    exact ⟨rfl, rfl, h2.pre f1⟩

/-! ### Lists of values -/
def RdVals (A : Nat → Prop) (w : World) (s : Sl) (vs : List V) : Prop := ∃ cs : List VC, s.n = cs.length ∧ s.n ≤ s.c ∧ CRow w s (cs.flatMap vcells) ∧ All2 (VIs A w) cs vs ∧ ∀ x ∈ blkL s, A x
theorem RdVals.fr {A M : Nat → Prop} {w w' : World} {s : Sl} {vs : List V} (h : RdVals A w s vs) (f : Fr M w w') (hn : ∀ x, A x → ¬ M x) : RdVals A w' s vs := by
  obtain ⟨cs, h1, h2, h3, h4, h5⟩ := h
  exact ⟨cs, h1, h2, h3.fr f fun x hx => hn x (h5 x hx), h4.mono fun _ _ _ _ h => h.fr f hn, h5⟩
theorem RdVals.fr0 {A : Nat → Prop} {w w' : World} {s : Sl} {vs : List V} (h : RdVals A w s vs) (f : Fr0 w w') : RdVals A w' s vs := h.fr f fun _ _ h => h
theorem RdVals.len {A : Nat → Prop} {w : World} {s : Sl} {vs : List V} (h : RdVals A w s vs) : s.n = vs.length := by
  obtain ⟨cs, h1, _, _, h4, _⟩ := h
  rw [h1, h4.length]
theorem RdVals.elem {A : Nat → Prop} {w : World} {s : Sl} {vs : List V} (h : RdVals A w s vs) {i : Nat} {v : V} (hi : vs[i]? = some v) {K : Addr → Prop}
    (hk : ∀ p c, VIs A w c v → (∀ j x, (vcells c)[j]? = some x → w.cell? ((p.add (Int.toNat (i : Int) * 5)).add j) = some x) → K p) : W.optP s.a K := by
  obtain ⟨cs, h1, _, h3, h4, _⟩ := h
  obtain ⟨c, hc, hv⟩ := h4.get' hi
  refine h3.elem (sz := 5) (fun _ => rfl) (by omega) hc fun p hp hx => hk p c hv ?_
  rw [Int.toNat_natCast]
  exact hx
theorem l_encode_loop {A : Nat → Prop} {s : Sl} {vs : List V} (ok : ∀ v ∈ vs, v.Ok) (hl : vs.length ≤ 1000) {wb : Nat} (w0 : World) (R : Post) :
    ∀ (d i : Nat), i + d = vs.length → ∀ (w : World) (bs : List UInt8) (own : List Nat), Fr0 w0 w → (∀ x ∈ own, w0.heap.size ≤ x) → WrRep w wb bs own → RdVals A w s vs → (∀ x, A x → x < w0.heap.size) → bs.length ≤ 11000 * i →
      (∀ w' own', Fr0 w0 w' → WrRep w' wb (bs ++ (vs.drop i).flatMap encV) own' → enthymemelaw02_encode.S7 (at0 wb) w' R) → enthymemelaw02_encode.L3 s (at0 wb) (i : Int) w R := by
  intro d
  induction d with
  | zero =>
    intro i hi w bs own F ho hr hv ha hb hR
    refine enthymemelaw02_encode.L3_step _ _ _ _ _ (sel_false (decide_eq_false (by rw [hv.len]; omega)) (hR w own F ?_))
    rw [List.drop_of_length_le (by omega)]
    simpa using hr
  | succ d ih =>
    intro i hi w bs own F ho hr hv ha hb hR
    have hg : vs[i]? = some vs[i] := List.getElem?_eq_getElem (by omega)
    have hm : vs[i] ∈ vs := List.getElem_mem _
    refine enthymemelaw02_encode.L3_step _ _ _ _ _ (sel_true (decide_eq_true (by rw [hv.len]; omega)) ⟨by omega, by rw [hv.len]; omega, hv.elem hg fun p c hc hx => ⟨_, _, _, _, _, hx 0 _ rfl, hx 1 _ rfl, hx 2 _ rfl, hx 3 _ rfl, hx 4 _ rfl, ?_⟩⟩)
    refine (l_write hr hc (ok _ hm) (fun x hx => ⟨fun h => by have := ho x h; have := ha x hx; omega, Nat.lt_of_lt_of_le (ha x hx) F.size⟩) (by omega)).mono ?_
    rintro r w1 ⟨rfl, own1, r1, f1, o1⟩
    refine ⟨rfl, ?_⟩
    show enthymemelaw02_encode.L3 s (at0 wb) (IntKind.wrap .i64 ((i : Int) + 1)) w1 R
    rw [i64_next i (by omega)]
    have l10 := encV_len _ (ok _ hm)
    refine ih (i + 1) (by omega) w1 _ own1 (fr_own F ho f1) (new_own F ho o1) r1 (hv.fr f1 fun x hx hm => by have := ho x hm; have := ha x hx; omega) ha (by simp; omega) fun w2 own2 F2 r2 => hR w2 own2 F2 ?_
    rw [List.drop_eq_getElem_cons (by omega), List.flatMap_cons, ← List.append_assoc]
    exact r2
theorem flatV_len : ∀ (vs : List V), (∀ v ∈ vs, v.Ok) → (vs.flatMap encV).length ≤ 11000 * vs.length
  | [], _ => by simp
  | v :: vs, h => by
    have h1 := encV_len v (h v (by simp))
    have h2 := flatV_len vs fun y hy => h y (by simp [hy])
    simp at h2 ⊢
    omega
theorem l_encode {A : Nat → Prop} {w : World} {s : Sl} {vs : List V} (hv : RdVals A w s vs) (ok : ∀ v ∈ vs, v.Ok) (hl : vs.length ≤ 1000) (ha : ∀ x, A x → x < w.heap.size) :
    Calls Try.prog n_enthymemelaw02_encode #[s.v] w (NewBytes w (vs.flatMap encV)) := by
  refine enthymemelaw02_encode.ok _ w _ ?_
  unfold enthymemelaw02_encode.S0 enthymemelaw02_encode.S1
  intro w1
  have f1 : Fr0 w w1 := Fr.alloc _ _ _
  have hf := flatV_len vs ok
  refine l_encode_loop ok hl w _ vs.length 0 (by omega) w1 [] _ f1 (by simp) (WrRep.new w) (hv.fr0 f1) ha (by simp) fun w2 own2 F2 r2 => ?_
  rw [List.nil_append, List.drop_zero] at r2
  refine (w_done r2 (by omega)).mono ?_
  rintro r w3 ⟨t, rfl, t3, f3, n3⟩
  exact ⟨t, rfl, t, rfl, t3, F2.tr0 f3, fun x hx => Nat.le_trans F2.size (n3 x hx)⟩

/-! ### Same -/
theorem l_same {A B : Nat → Prop} {w : World} {c d : VC} {a b : V} (ha : VIs A w c a) (hb : VIs B w d b) (h1 : a.b.length ≤ 1000000) (h2 : a.l.length ≤ 1000000) :
    Calls Try.prog n_enthymemeref02_Same #[c.agg, d.agg] w fun r w' => r = .returned (.bool (decide (a = b))) ∧ Fr0 w w' := by
  refine enthymemeref02_Same.ok _ _ _ _ _ _ _ _ _ _ w _ ?_
  unfold enthymemeref02_Same.S0
  intro w1 w2
  have f1 : Fr0 w w1 := Fr.alloc _ _ _
  have f2 : Fr0 w1 w2 := Fr.alloc _ _ _
  have c1 : w1.heap[w.heap.size]? = some (.cells #[.int .i64 c.k, .int .u64 c.u, .int .i64 c.n, c.b.v, c.l.v] ty_enthymemeref02_Val (0, 0)) := heap_new _ _
  have d2 : w2.heap[w1.heap.size]? = some (.cells #[.int .i64 d.k, .int .u64 d.u, .int .i64 d.n, d.b.v, d.l.v] ty_enthymemeref02_Val (0, 0)) := heap_new _ _
  have F2 : Fr0 w w2 := f1.tr0 f2
  have c2 := f2.at c1 id
  refine ⟨_, cellAt (p := at0 w.heap.size) c2 rfl rfl, _, cellAt (p := at0 w1.heap.size) d2 rfl rfl, (same_bytes (ha.b.fr0 F2) (hb.b.fr0 F2) (by omega)).mono ?_⟩
  rintro r w3 ⟨rfl, f3⟩
  have c3 := f3.at c2 id
  have d3 := f3.at d2 id
  have F3 := F2.tr0 f3
  refine ⟨_, rfl, _, cellAt (p := at0 w.heap.size) c3 rfl rfl, _, cellAt (p := at0 w1.heap.size) d3 rfl rfl, (same_ints (ha.l.fr0 F3) (hb.l.fr0 F3) (by omega)).mono ?_⟩
  rintro r w4 ⟨rfl, f4⟩
  have c4 := f4.at c3 id
  have d4 := f4.at d3 id
  have F4 := F3.tr0 f4
  have e : decide (a = b) = (decide (a.kind = b.kind) && (decide (a.u = b.u) && (decide (a.n = b.n) && (decide (a.b = b.b) && decide (a.l = b.l))))) := by
    obtain ⟨a1, a2, a3, a4, a5⟩ := a
    obtain ⟨b1, b2, b3, b4, b5⟩ := b
    simp only [V.mk.injEq]
    simp only [Bool.decide_and]
  rw [e]
  have t1 : ∀ x y : Int, (x == y) = decide (x = y) := fun x y => by by_cases h : x = y <;> simp [h]
  have t2 : ((a.u : Int) == (b.u : Int)) = decide (a.u = b.u) := by rw [t1]; congr 1; simp; omega
  refine ⟨_, rfl, _, cellAt (p := at0 w.heap.size) c4 rfl rfl, _, cellAt (p := at0 w1.heap.size) d4 rfl rfl, ?_⟩
  rw [ha.k, hb.k, t1]
  cases decide (a.kind = b.kind) with
  | false => exact sel_false rfl ⟨rfl, F4⟩
  | true =>
    refine sel_true rfl ⟨_, cellAt (p := at0 w.heap.size) c4 rfl rfl, _, cellAt (p := at0 w1.heap.size) d4 rfl rfl, ?_⟩
    rw [ha.u, hb.u, t2]
    cases decide (a.u = b.u) with
    | false => exact sel_false rfl ⟨rfl, F4⟩
    | true =>
      refine sel_true rfl ⟨_, cellAt (p := at0 w.heap.size) c4 rfl rfl, _, cellAt (p := at0 w1.heap.size) d4 rfl rfl, ?_⟩
      rw [ha.n, hb.n, t1]
      cases decide (a.n = b.n) with
      | false => exact sel_false rfl ⟨rfl, F4⟩
      | true =>
        refine sel_true rfl ?_
        cases decide (a.b = b.b) with
        | false => exact sel_false rfl ⟨rfl, F4⟩
        | true => exact sel_true rfl ⟨rfl, F4⟩
end Go.Proofs.Ytjmnpdacalbpkaa

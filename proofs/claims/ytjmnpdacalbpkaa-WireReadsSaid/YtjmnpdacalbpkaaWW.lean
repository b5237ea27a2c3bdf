/- Chapter 2's values in memory: the contract of read. -/
import Derived.Test.YtjmnpdacalbpkaaWV
namespace Go.Proofs.Ytjmnpdacalbpkaa
open Go Go.W

def rdV (st : RS) (kind : Int) : V × RS :=
  if kind = 0 then (⟨kind, (rdU st).1, 0, [], []⟩, (rdU st).2)
  else if kind = 1 then (⟨kind, 0, (rdI st).1, [], []⟩, (rdI st).2)
  else if kind = 2 then (⟨kind, 0, if (rdB st).1 then 1 else 0, [], []⟩, (rdB st).2)
  else if kind = 3 ∨ kind = 4 then (⟨kind, 0, 0, (rdRaw st).1, []⟩, (rdRaw st).2)
  else (⟨kind, 0, 0, [], (rdInts st).1⟩, (rdInts st).2)
/-- a struct of five cells is written whole -/
theorem init5 {w : World} {b : Nat} {T : TypeId} {a0 a1 a2 a3 a4 : Value} (h : w.heap[b]? = some (.cells #[a0, a1, a2, a3, a4] T (0, 0))) (x0 x1 x2 x3 x4 : Value) (K : World → Prop) (hK : ∀ w', w'.heap[b]? = some (.cells #[x0, x1, x2, x3, x4] T (0, 0)) → Fr (· = b) w w' → K w') :
    (w.cell? (at0 b)).isSome = true ∧ w.frozen? (at0 b) = false ∧ ((w.setCell (at0 b) x0).cell? ((at0 b).add 1)).isSome = true ∧ (w.setCell (at0 b) x0).frozen? ((at0 b).add 1) = false ∧
    (((w.setCell (at0 b) x0).setCell ((at0 b).add 1) x1).cell? ((at0 b).add 2)).isSome = true ∧ ((w.setCell (at0 b) x0).setCell ((at0 b).add 1) x1).frozen? ((at0 b).add 2) = false ∧
    ((((w.setCell (at0 b) x0).setCell ((at0 b).add 1) x1).setCell ((at0 b).add 2) x2).cell? ((at0 b).add 3)).isSome = true ∧ (((w.setCell (at0 b) x0).setCell ((at0 b).add 1) x1).setCell ((at0 b).add 2) x2).frozen? ((at0 b).add 3) = false ∧
    (((((w.setCell (at0 b) x0).setCell ((at0 b).add 1) x1).setCell ((at0 b).add 2) x2).setCell ((at0 b).add 3) x3).cell? ((at0 b).add 4)).isSome = true ∧ ((((w.setCell (at0 b) x0).setCell ((at0 b).add 1) x1).setCell ((at0 b).add 2) x2).setCell ((at0 b).add 3) x3).frozen? ((at0 b).add 4) = false ∧
    K (((((w.setCell (at0 b) x0).setCell ((at0 b).add 1) x1).setCell ((at0 b).add 2) x2).setCell ((at0 b).add 3) x3).setCell ((at0 b).add 4) x4) := by
  have e0 : (at0 b).add 0 = at0 b := add0 _
  obtain ⟨p1, p2, p3, p4⟩ := set_c h 0 (by simp) x0
  rw [e0] at p1 p2 p3 p4
  obtain ⟨q1, q2, q3, q4⟩ := set_c p3 1 (by simp) x1
  obtain ⟨r1, r2, r3, r4⟩ := set_c q3 2 (by simp) x2
  obtain ⟨s1, s2, s3, s4⟩ := set_c r3 3 (by simp) x3
  obtain ⟨t1, t2, t3, t4⟩ := set_c s3 4 (by simp) x4
  exact ⟨p1, p2, q1, q2, r1, r2, s1, s2, t1, t2, hK _ t3 ((((p4.trans q4 fun _ _ h => h).trans r4 fun _ _ h => h).trans s4 fun _ _ h => h).trans t4 fun _ _ h => h)⟩
theorem read_s5 {w : World} {tb vb : Nat} {c : VC} {a0 a1 a2 a3 a4 : Value} (ht : w.heap[tb]? = some (.cells #[a0, a1, a2, a3, a4] ty_enthymemeref02_Val (0, 0))) (hv : w.heap[vb]? = some (.cells #[.int .i64 c.k, .int .u64 c.u, .int .i64 c.n, c.b.v, c.l.v] ty_enthymemeref02_Val (0, 0))) (R : Post)
    (hR : ∀ w', Fr (· = tb) w w' → R (.returned c.agg) w') : enthymemelaw02_read.S5 (at0 tb) (at0 vb) w R := by
  refine ⟨_, _, _, _, _, cellAt (p := at0 vb) hv rfl rfl, cellAt (p := at0 vb) hv rfl rfl, cellAt (p := at0 vb) hv rfl rfl, cellAt (p := at0 vb) hv rfl rfl, cellAt (p := at0 vb) hv rfl rfl, ?_⟩
  refine init5 ht _ _ _ _ _ (fun w5 => ∃ r4_0 : Int, ∃ r4_1 : Int, ∃ r4_2 : Int, ∃ r4_3 : W.Sl, ∃ r4_4 : W.Sl, w5.cell? ((at0 tb).add 0) = some (.int .i64 r4_0) ∧ w5.cell? ((at0 tb).add 1) = some (.int .u64 r4_1) ∧ w5.cell? ((at0 tb).add 2) = some (.int .i64 r4_2) ∧ w5.cell? ((at0 tb).add 3) = some (r4_3.v) ∧ w5.cell? ((at0 tb).add 4) = some (r4_4.v) ∧ 
  R (.returned (.agg #[.int .i64 r4_0, .int .u64 r4_1, .int .i64 r4_2, r4_3.v, r4_4.v])) w5) fun w' t3 f => ?_
  exact ⟨_, _, _, _, _, cellAt (p := at0 tb) t3 rfl rfl, cellAt (p := at0 tb) t3 rfl rfl, cellAt (p := at0 tb) t3 rfl rfl, cellAt (p := at0 tb) t3 rfl rfl, cellAt (p := at0 tb) t3 rfl rfl, hR _ f⟩
/-- what read returns -/
def ReadPost (w : World) (rb : Nat) (fp : List Nat) (v : V) (st : RS) : Post := fun r w' => ∃ c, r = .returned (VC.agg c) ∧ VIs (fun x => w.heap.size ≤ x ∧ x < w'.heap.size) w' c v ∧ RdRep w' rb st fp ∧ Fr (· = rb) w w'
theorem read_fin {w w7 : World} {rb tb vb : Nat} {fp : List Nat} {st : RS} {v : V} {c : VC} {a0 a1 a2 a3 a4 : Value} (htb : tb = w.heap.size) (hvb : vb = w.heap.size + 1) (F : Fr (· = rb) w w7) (hs : w.heap.size + 2 ≤ w7.heap.size)
    (ht : w7.heap[tb]? = some (.cells #[a0, a1, a2, a3, a4] ty_enthymemeref02_Val (0, 0))) (hv : w7.heap[vb]? = some (.cells #[.int .i64 c.k, .int .u64 c.u, .int .i64 c.n, c.b.v, c.l.v] ty_enthymemeref02_Val (0, 0)))
    (hi : VIs (fun x => w.heap.size + 2 ≤ x ∧ x < w7.heap.size) w7 c v) (hr : RdRep w7 rb st fp) (hfp : ∀ x ∈ fp, x < w.heap.size) : enthymemelaw02_read.S5 (at0 tb) (at0 vb) w7 (ReadPost w rb fp v st) := by
  refine read_s5 ht hv _ fun w' f => ⟨c, rfl, ?_, hr.fr f fun x hx e => by have := hfp x hx; omega, F.trans f fun x hx e => by omega⟩
  have := f.size
  exact (hi.fr f fun x hx e => by omega).mono fun x hx => by omega
theorem l_read {w : World} {rb : Nat} {st : RS} {fp : List Nat} (h : RdRep w rb st fp) (kind : Int) :
    Calls Try.prog n_enthymemelaw02_read #[.pointer (some (at0 rb)), .int .i64 kind] w (ReadPost w rb fp (rdV st kind).1 (rdV st kind).2) := by
  refine enthymemelaw02_read.ok _ _ w _ ?_
  unfold enthymemelaw02_read.S0
  intro w1
  unfold enthymemelaw02_read.S1
  intro w2
  have f1 : Fr0 w w1 := Fr.alloc _ _ _
  have f2 : Fr0 w1 w2 := Fr.alloc _ _ _
  have hs1 : w1.heap.size = w.heap.size + 1 := size_alloc _ _
  have hs2 : w2.heap.size = w1.heap.size + 1 := size_alloc _ _
  have c1 : w1.heap[w.heap.size]? = some (.cells #[.int .i64 0, .int .u64 0, .int .i64 0, .slice none 0 0, .slice none 0 0] ty_enthymemeref02_Val (0, 0)) := heap_new _ _
  have c2 := f2.at c1 id
  have d2 : w2.heap[w1.heap.size]? = some (.cells #[.int .i64 0, .int .u64 0, .int .i64 0, .slice none 0 0, .slice none 0 0] ty_enthymemeref02_Val (0, 0)) := heap_new _ _
  have hlt := h.lt
  refine init5 d2 _ _ _ _ _ (fun w6 => enthymemelaw02_read.S2 (at0 rb) kind (at0 w.heap.size) (at0 w1.heap.size) w6 _) fun w6 d6 g6 => ?_
  have hs6 : w2.heap.size ≤ w6.heap.size := g6.size
  have c6 := g6.at c2 (by omega)
  have F6 : Fr0 w w6 := (f1.tr0 f2).trn g6 fun x e => by omega
  have h6 := h.fr0 F6
  have hrb := hlt rb h.mem
  have nb : ∀ {x : Nat}, x ∈ blkL (⟨none, 0, 0⟩ : Sl) → False := fun h => by simp [blkL] at h
  unfold rdV
  refine sel_intro (fun hk => ?_) (fun hk => ?_)
  · have hk' : kind = 0 := by simpa using hk
    rw [if_pos hk']
    refine (r_uint h6).mono ?_
    rintro r w7 ⟨rfl, h7, f7⟩
    have hs7 := f7.size
    have c7 := f7.at c6 (by omega)
    have d7 := f7.at d6 (by omega)
    obtain ⟨a1, a2, a3, a4⟩ := set_c d7 1 (by simp) (.int .u64 ((rdU st).1 : Int))
    have hs8 := a4.size
    refine ⟨_, rfl, a1, a2, read_fin (c := ⟨kind, (rdU st).1, 0, ⟨none, 0, 0⟩, ⟨none, 0, 0⟩⟩) rfl hs1 ((F6.of0.trans f7 fun _ _ h => h).trans a4 fun x hx e => by omega) (by omega) (a4.at c7 (by omega)) a3 ⟨rfl, rfl, rfl, Rd.nil _, Rd.nil _, fun x hx => (nb hx).elim, fun x hx => (nb hx).elim⟩ (h7.fr a4 fun x hx e => by have := hlt x hx; omega) hlt⟩
  have hk0 : ¬ kind = 0 := by simpa using hk
  rw [if_neg hk0]
  refine sel_intro (fun hk => ?_) (fun hk => ?_)
  · have hk' : kind = 1 := by simpa using hk
    rw [if_pos hk']
    refine (r_int h6).mono ?_
    rintro r w7 ⟨rfl, h7, f7⟩
    have hs7 := f7.size
    have c7 := f7.at c6 (by omega)
    have d7 := f7.at d6 (by omega)
    obtain ⟨a1, a2, a3, a4⟩ := set_c d7 2 (by simp) (.int .i64 (rdI st).1)
    have hs8 := a4.size
    refine ⟨_, rfl, a1, a2, read_fin (c := ⟨kind, 0, (rdI st).1, ⟨none, 0, 0⟩, ⟨none, 0, 0⟩⟩) rfl hs1 ((F6.of0.trans f7 fun _ _ h => h).trans a4 fun x hx e => by omega) (by omega) (a4.at c7 (by omega)) a3 ⟨rfl, rfl, rfl, Rd.nil _, Rd.nil _, fun x hx => (nb hx).elim, fun x hx => (nb hx).elim⟩ (h7.fr a4 fun x hx e => by have := hlt x hx; omega) hlt⟩
  have hk1 : ¬ kind = 1 := by simpa using hk
  rw [if_neg hk1]
  refine sel_intro (fun hk => ?_) (fun hk => ?_)
  · have hk' : kind = 2 := by simpa using hk
    rw [if_pos hk']
    refine (r_bool h6).mono ?_
    rintro r w7 ⟨rfl, h7, f7⟩
    have hs7 := f7.size
    have c7 := f7.at c6 (by omega)
    have d7 := f7.at d6 (by omega)
    refine ⟨_, rfl, sel_intro (fun hb => ?_) (fun hb => ?_)⟩
    · rw [hb]
      obtain ⟨a1, a2, a3, a4⟩ := set_c d7 2 (by simp) (.int .i64 1)
      have hs8 := a4.size
      refine ⟨a1, a2, read_fin (c := ⟨kind, 0, 1, ⟨none, 0, 0⟩, ⟨none, 0, 0⟩⟩) rfl hs1 ((F6.of0.trans f7 fun _ _ h => h).trans a4 fun x hx e => by omega) (by omega) (a4.at c7 (by omega)) a3 ⟨rfl, rfl, rfl, Rd.nil _, Rd.nil _, fun x hx => (nb hx).elim, fun x hx => (nb hx).elim⟩ (h7.fr a4 fun x hx e => by have := hlt x hx; omega) hlt⟩
    · rw [hb]
      exact read_fin (c := ⟨kind, 0, 0, ⟨none, 0, 0⟩, ⟨none, 0, 0⟩⟩) rfl hs1 (F6.of0.trans f7 fun _ _ h => h) (by omega) c7 d7 ⟨rfl, rfl, rfl, Rd.nil _, Rd.nil _, fun x hx => (nb hx).elim, fun x hx => (nb hx).elim⟩ h7 hlt
  have hk2 : ¬ kind = 2 := by simpa using hk
  rw [if_neg hk2]
  refine sel_intro (fun hk => ?_) (fun hk => ?_)
  · have hk' : kind = 3 := by simpa using hk
    rw [if_pos (.inl hk')]
    refine (r_text h6).mono ?_
    rintro r w7 ⟨rfl, h7, f7⟩
    have hs7 := f7.size
    obtain ⟨t, w8, g1, g2, g3, g4⟩ := str_bytes w7 (ba (rdRaw st).1)
    have hs8 := g3.size
    have c8 := g3.at (f7.at c6 (by omega)) id
    have d8 := g3.at (f7.at d6 (by omega)) id
    obtain ⟨a1, a2, a3, a4⟩ := set_c d8 3 (by simp) t.v
    have hs9 := a4.size
    refine ⟨_, rfl, t, w8, g1, a1, a2, read_fin (c := ⟨kind, 0, 0, t, ⟨none, 0, 0⟩⟩) rfl hs1 (((F6.of0.trans f7 fun _ _ h => h).tr0 g3).trans a4 fun x hx e => by omega) (by omega) (a4.at c8 (by omega)) a3 ⟨rfl, rfl, rfl, g2.fr a4 fun x hx e => by have := g4 x hx; omega, Rd.nil _, fun x hx => by have := g4 x hx; omega, fun x hx => (nb hx).elim⟩ ((h7.fr0 g3).fr a4 fun x hx e => by have := hlt x hx; omega) hlt⟩
  have hk3 : ¬ kind = 3 := by simpa using hk
  refine sel_intro (fun hk => ?_) (fun hk => ?_)
  · have hk' : kind = 4 := by simpa using hk
    rw [if_pos (.inr hk')]
    refine (r_raw h6).mono ?_
    rintro r w7 ⟨t, rfl, t7, h7, f7, n7⟩
    have hs7 := f7.size
    have c7 := f7.at c6 (by omega)
    have d7 := f7.at d6 (by omega)
    obtain ⟨a1, a2, a3, a4⟩ := set_c d7 3 (by simp) t.v
    have hs8 := a4.size
    refine ⟨t, rfl, a1, a2, read_fin (c := ⟨kind, 0, 0, t, ⟨none, 0, 0⟩⟩) rfl hs1 ((F6.of0.trans f7 fun _ _ h => h).trans a4 fun x hx e => by omega) (by omega) (a4.at c7 (by omega)) a3 ⟨rfl, rfl, rfl, t7.rd.fr a4 fun x hx e => by have := n7 x hx; omega, Rd.nil _, fun x hx => by have := n7 x hx; have := t7.lt x hx; omega, fun x hx => (nb hx).elim⟩ (h7.fr a4 fun x hx e => by have := hlt x hx; omega) hlt⟩
  · have hk4 : ¬ kind = 4 := by simpa using hk
    rw [if_neg (by omega)]
    refine (r_ints h6).mono ?_
    rintro r w7 ⟨t, rfl, t7, h7, f7, n7⟩
    have hs7 := f7.size
    have c7 := f7.at c6 (by omega)
    have d7 := f7.at d6 (by omega)
    obtain ⟨a1, a2, a3, a4⟩ := set_c d7 4 (by simp) t.v
    have hs8 := a4.size
    refine ⟨t, rfl, a1, a2, read_fin (c := ⟨kind, 0, 0, ⟨none, 0, 0⟩, t⟩) rfl hs1 ((F6.of0.trans f7 fun _ _ h => h).trans a4 fun x hx e => by omega) (by omega) (a4.at c7 (by omega)) a3 ⟨rfl, rfl, rfl, Rd.nil _, t7.rd.fr a4 fun x hx e => by have := n7 x hx; omega, fun x hx => (nb hx).elim, fun x hx => by have := n7 x hx; have := t7.lt x hx; omega⟩ (h7.fr a4 fun x hx e => by have := hlt x hx; omega) hlt⟩
end Go.Proofs.Ytjmnpdacalbpkaa

/- The reference of chapter 2: the contract of its Read. -/
import Derived.Test.YtjmnpdacalbpkaaRG
namespace Go.Proofs.Ytjmnpdacalbpkaa
open Go Go.W

theorem fread_s5 {w : World} {tb vb : Nat} {c : VC} {a0 a1 a2 a3 a4 : Value} (ht : w.heap[tb]? = some (.cells #[a0, a1, a2, a3, a4] ty_enthymemeref02_Val (0, 0))) (hv : w.heap[vb]? = some (.cells #[.int .i64 c.k, .int .u64 c.u, .int .i64 c.n, c.b.v, c.l.v] ty_enthymemeref02_Val (0, 0))) (R : Post)
    (hR : ∀ w', Fr (· = tb) w w' → R (.returned c.agg) w') : enthymemeref02_Reader_Read.S5 (at0 tb) (at0 vb) w R := by
  refine ⟨_, _, _, _, _, cellAt (p := at0 vb) hv rfl rfl, cellAt (p := at0 vb) hv rfl rfl, cellAt (p := at0 vb) hv rfl rfl, cellAt (p := at0 vb) hv rfl rfl, cellAt (p := at0 vb) hv rfl rfl, ?_⟩
  refine init5 ht _ _ _ _ _ (fun w5 => ∃ r4_0 : Int, ∃ r4_1 : Int, ∃ r4_2 : Int, ∃ r4_3 : W.Sl, ∃ r4_4 : W.Sl, w5.cell? ((at0 tb).add 0) = some (.int .i64 r4_0) ∧ w5.cell? ((at0 tb).add 1) = some (.int .u64 r4_1) ∧ w5.cell? ((at0 tb).add 2) = some (.int .i64 r4_2) ∧ w5.cell? ((at0 tb).add 3) = some (r4_3.v) ∧ w5.cell? ((at0 tb).add 4) = some (r4_4.v) ∧ 
  R (.returned (.agg #[.int .i64 r4_0, .int .u64 r4_1, .int .i64 r4_2, r4_3.v, r4_4.v])) w5) fun w' t3 f => ?_
  exact ⟨_, _, _, _, _, cellAt (p := at0 tb) t3 rfl rfl, cellAt (p := at0 tb) t3 rfl rfl, cellAt (p := at0 tb) t3 rfl rfl, cellAt (p := at0 tb) t3 rfl rfl, cellAt (p := at0 tb) t3 rfl rfl, hR _ f⟩
def FReadPost (w : World) (rb : Nat) (D : List Nat) (v : V) (st : RS) : Post := fun r w' => ∃ c, r = .returned (VC.agg c) ∧ VIs (fun x => x ∈ D ∨ (w.heap.size ≤ x ∧ x < w'.heap.size)) w' c v ∧ RfRep w' rb st D ∧ Fr (· = rb) w w'
theorem fread_fin {w w7 : World} {rb tb vb : Nat} {D : List Nat} {st : RS} {v : V} {c : VC} {a0 a1 a2 a3 a4 : Value} (htb : tb = w.heap.size) (hvb : vb = w.heap.size + 1) (F : Fr (· = rb) w w7) (hs : w.heap.size + 2 ≤ w7.heap.size)
    (ht : w7.heap[tb]? = some (.cells #[a0, a1, a2, a3, a4] ty_enthymemeref02_Val (0, 0))) (hv : w7.heap[vb]? = some (.cells #[.int .i64 c.k, .int .u64 c.u, .int .i64 c.n, c.b.v, c.l.v] ty_enthymemeref02_Val (0, 0)))
    (hi : VIs (fun x => x ∈ D ∨ (w.heap.size + 2 ≤ x ∧ x < w7.heap.size)) w7 c v) (hr : RfRep w7 rb st D) (hrb : rb < w.heap.size) (hD : ∀ x ∈ D, x < w.heap.size) : enthymemeref02_Reader_Read.S5 (at0 tb) (at0 vb) w7 (FReadPost w rb D v st) := by
  refine fread_s5 ht hv _ fun w' f => ⟨c, rfl, ?_, hr.fr f (fun e => by omega) fun x hx e => by have := hD x hx; omega, F.trans f fun x hx e => by omega⟩
  have := f.size
  refine (hi.fr f fun x hx e => ?_).mono fun x hx => ?_
  · rcases hx with h | h
    · have := hD x h; omega
    · omega
  · rcases hx with h | h
    · exact .inl h
    · exact .inr ⟨by omega, by omega⟩
theorem f_read {w : World} {rb : Nat} {st : RS} {D : List Nat} (h : RfRep w rb st D) (hD : ∀ x ∈ D, x < w.heap.size) (kind : Int) :
    Calls Try.prog n_enthymemeref02_Reader_Read #[.pointer (some (at0 rb)), .int .i64 kind] w (FReadPost w rb D (rdV st kind).1 (rdV st kind).2) := by
  have hrb := h.lt
  have hnD : rb ∉ D := by obtain ⟨_, _, a2, _⟩ := h; exact a2
  refine enthymemeref02_Reader_Read.ok _ _ w _ ?_
  unfold enthymemeref02_Reader_Read.S0
  intro w1
  unfold enthymemeref02_Reader_Read.S1
  intro w2
  have f1 : Fr0 w w1 := Fr.alloc _ _ _
  have f2 : Fr0 w1 w2 := Fr.alloc _ _ _
  have hs1 : w1.heap.size = w.heap.size + 1 := size_alloc _ _
  have hs2 : w2.heap.size = w1.heap.size + 1 := size_alloc _ _
  have c1 : w1.heap[w.heap.size]? = some (.cells #[.int .i64 0, .int .u64 0, .int .i64 0, .slice none 0 0, .slice none 0 0] ty_enthymemeref02_Val (0, 0)) := heap_new _ _
  have c2 := f2.at c1 id
  have d2 : w2.heap[w1.heap.size]? = some (.cells #[.int .i64 0, .int .u64 0, .int .i64 0, .slice none 0 0, .slice none 0 0] ty_enthymemeref02_Val (0, 0)) := heap_new _ _
  refine init5 d2 _ _ _ _ _ (fun w6 => enthymemeref02_Reader_Read.S2 (at0 rb) kind (at0 w.heap.size) (at0 w1.heap.size) w6 _) fun w6 d6 g6 => ?_
  have hs6 : w2.heap.size ≤ w6.heap.size := g6.size
  have c6 := g6.at c2 (by omega)
  have F6 : Fr0 w w6 := (f1.tr0 f2).trn g6 fun x e => by omega
  have h6 := h.fr0 F6
  have nb : ∀ {x : Nat}, x ∈ blkL (⟨none, 0, 0⟩ : Sl) → False := fun h => by simp [blkL] at h
  have nf : ∀ {w7 w8 : World} {st' : RS}, RfRep w7 rb st' D → Fr (· = w1.heap.size) w7 w8 → RfRep w8 rb st' D := fun hr f => hr.fr f (fun e => by omega) fun x hx e => by have := hD x hx; omega
  unfold rdV
  refine sel_intro (fun hk => ?_) (fun hk => ?_)
  · have hk' : kind = 0 := by simpa using hk
    rw [if_pos hk']
    refine (f_uint h6).mono ?_
    rintro r w7 ⟨rfl, h7, f7⟩
    have hs7 := f7.size
    have c7 := f7.at c6 (by omega)
    have d7 := f7.at d6 (by omega)
    obtain ⟨a1, a2, a3, a4⟩ := set_c d7 1 (by simp) (.int .u64 ((rdU st).1 : Int))
    have hs8 := a4.size
    refine ⟨_, rfl, a1, a2, fread_fin (c := ⟨kind, (rdU st).1, 0, ⟨none, 0, 0⟩, ⟨none, 0, 0⟩⟩) rfl hs1 ((F6.of0.trans f7 fun _ _ h => h).trans a4 fun x hx e => by omega) (by omega) (a4.at c7 (by omega)) a3 ⟨rfl, rfl, rfl, Rd.nil _, Rd.nil _, fun x hx => (nb hx).elim, fun x hx => (nb hx).elim⟩ (nf h7 a4) hrb hD⟩
  have hk0 : ¬ kind = 0 := by simpa using hk
  rw [if_neg hk0]
  refine sel_intro (fun hk => ?_) (fun hk => ?_)
  · have hk' : kind = 1 := by simpa using hk
    rw [if_pos hk']
    refine (f_int h6).mono ?_
    rintro r w7 ⟨rfl, h7, f7⟩
    have hs7 := f7.size
    have c7 := f7.at c6 (by omega)
    have d7 := f7.at d6 (by omega)
    obtain ⟨a1, a2, a3, a4⟩ := set_c d7 2 (by simp) (.int .i64 (rdI st).1)
    have hs8 := a4.size
    refine ⟨_, rfl, a1, a2, fread_fin (c := ⟨kind, 0, (rdI st).1, ⟨none, 0, 0⟩, ⟨none, 0, 0⟩⟩) rfl hs1 ((F6.of0.trans f7 fun _ _ h => h).trans a4 fun x hx e => by omega) (by omega) (a4.at c7 (by omega)) a3 ⟨rfl, rfl, rfl, Rd.nil _, Rd.nil _, fun x hx => (nb hx).elim, fun x hx => (nb hx).elim⟩ (nf h7 a4) hrb hD⟩
  have hk1 : ¬ kind = 1 := by simpa using hk
  rw [if_neg hk1]
  refine sel_intro (fun hk => ?_) (fun hk => ?_)
  · have hk' : kind = 2 := by simpa using hk
    rw [if_pos hk']
    refine (f_bool h6).mono ?_
    rintro r w7 ⟨rfl, h7, f7⟩
    have hs7 := f7.size
    have c7 := f7.at c6 (by omega)
    have d7 := f7.at d6 (by omega)
    refine ⟨_, rfl, sel_intro (fun hb => ?_) (fun hb => ?_)⟩
    · rw [hb]
      obtain ⟨a1, a2, a3, a4⟩ := set_c d7 2 (by simp) (.int .i64 1)
      have hs8 := a4.size
      refine ⟨a1, a2, fread_fin (c := ⟨kind, 0, 1, ⟨none, 0, 0⟩, ⟨none, 0, 0⟩⟩) rfl hs1 ((F6.of0.trans f7 fun _ _ h => h).trans a4 fun x hx e => by omega) (by omega) (a4.at c7 (by omega)) a3 ⟨rfl, rfl, rfl, Rd.nil _, Rd.nil _, fun x hx => (nb hx).elim, fun x hx => (nb hx).elim⟩ (nf h7 a4) hrb hD⟩
    · rw [hb]
      exact fread_fin (c := ⟨kind, 0, 0, ⟨none, 0, 0⟩, ⟨none, 0, 0⟩⟩) rfl hs1 (F6.of0.trans f7 fun _ _ h => h) (by omega) c7 d7 ⟨rfl, rfl, rfl, Rd.nil _, Rd.nil _, fun x hx => (nb hx).elim, fun x hx => (nb hx).elim⟩ h7 hrb hD
  have hk2 : ¬ kind = 2 := by simpa using hk
  rw [if_neg hk2]
  have raw : kind = 3 ∨ kind = 4 → enthymemeref02_Reader_Read.S13 (at0 rb) (at0 w.heap.size) (at0 w1.heap.size) w6 (FReadPost w rb D ⟨kind, 0, 0, (rdRaw st).1, []⟩ (rdRaw st).2) := fun hk => by
    refine (f_raw h6).mono ?_
    rintro r w7 ⟨t, rfl, t7, n7, h7, f7⟩
    have hs7 := f7.size
    have c7 := f7.at c6 (by omega)
    have d7 := f7.at d6 (by omega)
    obtain ⟨a1, a2, a3, a4⟩ := set_c d7 3 (by simp) t.v
    have hs8 := a4.size
    exact ⟨t, rfl, a1, a2, fread_fin (c := ⟨kind, 0, 0, t, ⟨none, 0, 0⟩⟩) rfl hs1 ((F6.of0.trans f7 fun _ _ h => h).trans a4 fun x hx e => by omega) (by omega) (a4.at c7 (by omega)) a3 ⟨rfl, rfl, rfl, t7.fr a4 fun x hx e => by have := hD x (n7 x hx); omega, Rd.nil _, fun x hx => .inl (n7 x hx), fun x hx => (nb hx).elim⟩ (nf h7 a4) hrb hD⟩
  refine sel_intro (fun hk => sel_true hk ?_) (fun hk => ?_)
  · rw [if_pos (.inl (by simpa using hk))]
    exact raw (.inl (by simpa using hk))
  have hk3 : ¬ kind = 3 := by simpa using hk
  refine sel_intro (fun hk => ?_) (fun hk => ?_)
  · rw [if_pos (.inr (by simpa using hk))]
    exact raw (.inr (by simpa using hk))
  · have hk4 : ¬ kind = 4 := by simpa using hk
    rw [if_neg (by omega)]
    refine (f_ints h6 fun x hx => by have := hD x hx; omega).mono ?_
    rintro r w7 ⟨t, rfl, t7, h7, f7, n7⟩
    have hs7 := f7.size
    have c7 := f7.at c6 (by omega)
    have d7 := f7.at d6 (by omega)
    obtain ⟨a1, a2, a3, a4⟩ := set_c d7 4 (by simp) t.v
    have hs8 := a4.size
    refine ⟨t, rfl, a1, a2, fread_fin (c := ⟨kind, 0, 0, ⟨none, 0, 0⟩, t⟩) rfl hs1 ((F6.of0.trans f7 fun _ _ h => h).trans a4 fun x hx e => by omega) (by omega) (a4.at c7 (by omega)) a3 ⟨rfl, rfl, rfl, Rd.nil _, t7.rd.fr a4 fun x hx e => by have := n7 x hx; omega, fun x hx => (nb hx).elim, fun x hx => .inr (by have := n7 x hx; have := t7.lt x hx; omega)⟩ (nf h7 a4) hrb hD⟩
end Go.Proofs.Ytjmnpdacalbpkaa

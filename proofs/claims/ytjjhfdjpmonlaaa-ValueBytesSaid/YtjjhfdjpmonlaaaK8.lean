/- Values with parts changed, lists of values: the contracts. -/
import Derived.Test.YtjjhfdjpmonlaaaK7
import Derived.Test.YtjjhfdjpmonlaaaX
namespace Go.Proofs.Ytjjhfdjpmonlaaa
open Go Go.W

/-- values of any kind, but small -/
structure Ro (c : Nat) (v : Val) : Prop where
  k : I64 v.t.k
  n : I64 v.t.n
  x : I64 v.t.x
  u : v.u < 18446744073709551616
  s : v.s.length ≤ c
  m : v.m.length ≤ c
  e : ∀ e ∈ v.m, e.i < 18446744073709551616 ∧ e.u < 18446744073709551616 ∧ e.s.length ≤ c
theorem Ro.mono {c d : Nat} {v : Val} (h : Ro c v) (hcd : c ≤ d) : Ro d v := ⟨h.k, h.n, h.x, h.u, Nat.le_trans h.s hcd, Nat.le_trans h.m hcd, fun e he => ⟨(h.e e he).1, (h.e e he).2.1, Nat.le_trans (h.e e he).2.2 hcd⟩⟩
theorem Ro.sm {c : Nat} {v : Val} (h : Ro c v) (hc : c ≤ 100000) : Sm v := ⟨Nat.le_trans h.s hc, Nat.le_trans h.m hc, fun e he => Nat.le_trans (h.e e he).2.2 hc⟩
theorem Made.ro {s : Srt} {v : Val} (hs : validS s = true) (h : Made s v) : Ro 5 v := by
  have vs := vs_of hs
  have ht := h.t
  exact ⟨by rw [ht]; have := vs.k; constructor <;> omega, by rw [ht]; have := vs.n0; have := vs.n1; constructor <;> omega, by rw [ht]; have := vs.x0; have := vs.x1; constructor <;> omega, h.u, Nat.le_trans h.s3 (by omega), h.m5, fun e he => ⟨(h.ei e he).1, (h.ei e he).2, Nat.le_trans (h.e3 e he) (by omega)⟩⟩
theorem wrap_u (z : Int) : ∃ u : Nat, IntKind.wrap .u64 z = (u : Int) ∧ u < 18446744073709551616 := by
  refine ⟨(z % 18446744073709551616).toNat, ?_, by omega⟩
  have : IntKind.wrap .u64 z = z % 18446744073709551616 := IntKind.wrap_u64 z
  rw [this]; omega
theorem ents_set1 (m : List Ent) (k u : Nat) (e : Ent) (h : m[k]? = some e) : (entsC m).set (k * 3 + 1) (.int .u64 (u : Int)) = entsC (m.set k ⟨e.i, u, e.s⟩) := by
  induction m generalizing k with
  | nil => simp at h
  | cons a m ih =>
    cases k with
    | zero => simp at h; subst h; rfl
    | succ k =>
      have e1 : entsC (a :: m) = entC a ++ entsC m := rfl
      rw [e1, show (k + 1) * 3 + 1 = (entC a).length + (k * 3 + 1) from by show _ = 3 + _; omega, List.set_append_right _ _ (by omega), Nat.add_sub_cancel_left, ih k (by simpa using h)]
      rfl
theorem ents_set2 (m : List Ent) (k : Nat) (s : List UInt8) (e : Ent) (h : m[k]? = some e) : (entsC m).set (k * 3 + 2) (.string (ba s)) = entsC (m.set k ⟨e.i, e.u, s⟩) := by
  induction m generalizing k with
  | nil => simp at h
  | cons a m ih =>
    cases k with
    | zero => simp at h; subst h; rfl
    | succ k =>
      have e1 : entsC (a :: m) = entC a ++ entsC m := rfl
      rw [e1, show (k + 1) * 3 + 2 = (entC a).length + (k * 3 + 2) from by show _ = 3 + _; omega, List.set_append_right _ _ (by omega), Nat.add_sub_cancel_left, ih k (by simpa using h)]
      rfl
theorem num_at {M : Nat → Prop} {w0 w : World} {L D : List En} (H : LH M w0 w L D) (i : Nat) {b : Nat} {T : TypeId} (l : List Int) (k : Nat) (hi : L[i]? = some (.c b (l.map intV) T)) (hk : k < l.length) : ∃ n, n ∈ l ∧ w.cell? ((at0 b).add (Int.toNat (k : Int) * 1)) = some (.int .i64 n) := by
  refine ⟨l[k], List.getElem_mem _, ?_⟩
  rw [Int.toNat_natCast, Nat.mul_one]
  exact H.ld i k hi (by rw [List.getElem?_map, List.getElem?_eq_getElem hk]; rfl)
theorem str_at {M : Nat → Prop} {w0 w : World} {L D : List En} (H : LH M w0 w L D) (i : Nat) {b : Nat} {T : TypeId} (l : List (List UInt8)) (k : Nat) (hi : L[i]? = some (.c b (l.map fun s => .string (ba s)) T)) (hk : k < l.length) : ∃ s, s ∈ l ∧ w.cell? ((at0 b).add (Int.toNat (k : Int) * 1)) = some (.string (ba s)) := by
  refine ⟨l[k], List.getElem_mem _, ?_⟩
  rw [Int.toNat_natCast, Nat.mul_one]
  exact H.ld i k hi (by rw [List.getElem?_map, List.getElem?_eq_getElem hk]; rfl)
theorem r_Spoilt (c : Nat) (hc : c ≤ 1000) (v : Val) (hv : Ro c v) (sl : Sl) (at' how by' : Int) (h1 : I64 at') (h2 : I64 how) (h3 : I64 by') (w : World) (h : RdN 3 w sl (entsC v.m)) : Calls Try.prog n_enthymemeref06_Spoilt #[vagg v sl, .int .i64 at', .int .i64 how, .int .i64 by'] w fun r w' => (∃ v', Ro (c + 1) v' ∧ RetV ty_enthymemeref06_Entry w v' r w') ∧ Fr0 w w' := by
  have hml := hv.m
  have nn := ents_n h
  refine enthymemeref06_Spoilt.okT _ _ _ _ _ _ _ _ _ w _ ((lh0 [EntsD sl v.m] (by simp only [List.mem_cons, List.not_mem_nil, or_false]; rintro e rfl; exact h)).newg fun b4 w1 H1 => H1.newg fun b8 w2 H2 => H2.nwrow (e := ty_enthymemeref06_Entry) (sz := 3) (n := 0) (cs := []) rfl (by decide) fun w3 H3 => ?_)
  refine H3.apT 2 el_re (s := ⟨some (at0 w2.heap.size), 0, 0⟩) (src := sl) (news := entsC v.m) rfl (H3.getD 0) (entC_one _) (by show (0 + sl.n) * 32 ≤ _; omega) fun row w4 H4 => H4.locg fun w5 H5 => H5.nw fun w6 _ H6 => H6.callg (around0 at' 8 w6 (by omega) h1) ?_
  rintro _ w7 ⟨k, rfl, hk⟩ H7
  obtain ⟨n, hn, hcell⟩ := num_at H7 3 [by', -1, 0, 1, 16, 17, 64, 65] k rfl (by simp; omega)
  have hnI : I64 n := by
    simp only [List.mem_cons, List.not_mem_nil, or_false] at hn
    rcases hn with rfl | rfl | rfl | rfl | rfl | rfl | rfl | rfl
    · exact h3
    all_goals (constructor <;> omega)
  have G : ∀ {w8 : World} {L : List En} (m : List Ent) (row : Sl), LH F0 w w8 ([.g b4, .g b8, .row ty_enthymemeref06_Entry 3 row (entsC m)] ++ L) [EntsD sl v.m] → LH F0 w w8 [.g b4, .g b8, .row ty_enthymemeref06_Entry 3 row (entsC m)] [EntsD sl v.m] := fun m row H => H.take 3
  have H7' : LH F0 w w7 [.g b4, .g b8, .row ty_enthymemeref06_Entry 3 row (entsC v.m)] [EntsD sl v.m] := H7.take 3
  have hrow := ents_own (H7'.get 2)
  -- the end
  have fin : ∀ {w8 : World} (v' : Val) (row : Sl), Ro (c + 1) v' → LH F0 w w8 [.g b4, .g b8, .row ty_enthymemeref06_Entry 3 row (entsC v'.m)] [EntsD sl v.m] → enthymemeref06_Spoilt.S0T b4 v'.t.k v'.t.n v'.t.x (v'.u : Int) (ba v'.s) row b8 0 0 0 0 (ByteArray.mk #[]) ⟨none, 0, 0⟩ w8 fun r w' => (∃ v', Ro (c + 1) v' ∧ RetV ty_enthymemeref06_Entry w v' r w') ∧ Fr0 w w' :=
    fun v' row hr H => H.locg fun w9 H9 => ⟨⟨v', hr, row, rfl, H9.get 2, fun b hb => (H9.new _ (List.mem_of_getElem? (i := 2) rfl) b hb).resolve_right id⟩, H9.fr⟩
  have hr := hv.mono (Nat.le_succ c)
  obtain ⟨q, hq, hq1⟩ : ∃ q : Nat, (if 1 < ((row.n : Nat) : Int) then ((row.n : Nat) : Int) else 1) = (q : Int) ∧ 1 ≤ q ∧ (0 < v.m.length → q = v.m.length) := by
    split
    · exact ⟨row.n, rfl, by omega, by omega⟩
    · exact ⟨1, rfl, by omega, by omega⟩
  refine ⟨_, rfl, by omega, by omega, n, hcell, ?_⟩
  rw [hq]
  refine H7'.callg (around0 at' q w7 (by omega) h1) ?_
  rintro _ w8 ⟨i, rfl, hi⟩ H8
  refine ⟨_, rfl, H8.callg (around0 how 9 w8 (by omega) h2) ?_⟩
  rintro _ w9 ⟨o, rfl, ho⟩ H9
  obtain ⟨un, hun, hunl⟩ := wrap_u n
  refine ⟨_, rfl, ?_⟩
  rw [hun]
  have snoc : ∀ e : Ent, e.i < 18446744073709551616 → e.u < 18446744073709551616 → e.s.length ≤ c + 1 → Ro (c + 1) ⟨v.t, v.u, v.s, v.m ++ [e]⟩ := fun e e1 e2 e3 => ⟨hr.k, hr.n, hr.x, hr.u, hr.s, by simp; omega, fun x hx => by
    rcases List.mem_append.1 hx with hx | hx
    · exact hr.e x hx
    · simp at hx; subst hx; exact ⟨e1, e2, e3⟩⟩
  have setm : ∀ e : Ent, e.i < 18446744073709551616 → e.u < 18446744073709551616 → e.s.length ≤ c + 1 → Ro (c + 1) ⟨v.t, v.u, v.s, v.m.set i e⟩ := fun e e1 e2 e3 => ⟨hr.k, hr.n, hr.x, hr.u, hr.s, by simp; omega, fun x hx => by
    rcases List.mem_or_eq_of_mem_set hx with hx | rfl
    · exact hr.e x hx
    · exact ⟨e1, e2, e3⟩⟩
  refine sel_eq (fun _ => H9.locg fun w10 H10 => fin ⟨⟨n, v.t.n, v.t.x⟩, v.u, v.s, v.m⟩ row ⟨hnI, hr.n, hr.x, hr.u, hr.s, hr.m, hr.e⟩ H10) (fun _ => ?_)
  refine sel_eq (fun _ => H9.locg fun w10 H10 => fin ⟨⟨v.t.k, n, v.t.x⟩, v.u, v.s, v.m⟩ row ⟨hr.k, hnI, hr.x, hr.u, hr.s, hr.m, hr.e⟩ H10) (fun _ => ?_)
  refine sel_eq (fun _ => H9.locg fun w10 H10 => fin ⟨⟨v.t.k, v.t.n, n⟩, v.u, v.s, v.m⟩ row ⟨hr.k, hr.n, hnI, hr.u, hr.s, hr.m, hr.e⟩ H10) (fun _ => ?_)
  refine sel_eq (fun _ => H9.locg fun w10 H10 => ?_) (fun _ => ?_)
  · obtain ⟨u2, hu2, hu2l⟩ := wrap_u ((v.u : Int) + (un : Int))
    rw [hu2]
    exact fin ⟨v.t, u2, v.s, v.m⟩ row ⟨hr.k, hr.n, hr.x, hu2l, hr.s, hr.m, hr.e⟩ H10
  refine sel_eq (fun _ => ⟨?_, H9.locg fun w10 H10 => ?_⟩) (fun _ => ?_)
  · have : (ba v.s).size = v.s.length := rfl
    have := hv.s
    show ¬ (((_ + 1 : Nat) : Int) > (9223372036854775807 : Int))
    omega
  · have e1 : ba v.s ++ ByteArray.mk #[120] = ba (v.s ++ [120]) := by
      have : bl (ba v.s ++ ByteArray.mk #[120]) = v.s ++ [120] := by rw [ba_app]; rfl
      rw [← this, ba_bl]
    rw [e1]
    exact fin ⟨v.t, v.u, v.s ++ [120], v.m⟩ row ⟨hr.k, hr.n, hr.x, hr.u, by have := hv.s; simp; omega, hr.m, hr.e⟩ H10
  refine sel_eq (fun _ => H9.ap1T 2 el_re rfl (fun s' w11 H11 => H11.locg fun w12 H12 => fin ⟨v.t, v.u, v.s, v.m ++ [⟨un, 1, []⟩]⟩ s' (snoc _ hunl (by simp) (by simp)) (by rw [entsC_snoc]; exact H12)) (by omega)) (fun _ => ?_)
  refine sel_eq (fun _ => H9.ap1T 2 el_re rfl (fun s' w11 H11 => H11.locg fun w12 H12 => fin ⟨v.t, v.u, v.s, v.m ++ [⟨un, 0, [121]⟩]⟩ s' (snoc _ hunl (by simp) (by simp)) (by rw [entsC_snoc]; exact H12)) (by omega)) (fun _ => ?_)
  have same : ∀ {w10 : World}, LH F0 w w10 [.g b4, .g b8, .row ty_enthymemeref06_Entry 3 row (entsC v.m)] [EntsD sl v.m] → enthymemeref06_Spoilt.S0T b4 v.t.k v.t.n v.t.x (v.u : Int) (ba v.s) row b8 0 0 0 0 (ByteArray.mk #[]) ⟨none, 0, 0⟩ w10 fun r w' => (∃ v', Ro (c + 1) v' ∧ RetV ty_enthymemeref06_Entry w v' r w') ∧ Fr0 w w' := fun H => fin v row hr H
  have pos : (0 : Int) < ((row.n : Nat) : Int) → ∃ e, v.m[i]? = some e ∧ i < v.m.length := fun hp => by
    have : i < v.m.length := by have := hq1.2 (by omega); omega
    exact ⟨v.m[i], List.getElem?_eq_getElem this, this⟩
  refine sel_eq (fun _ => sel_dec (fun hp => ?_) (fun _ => same H9)) (fun _ => sel_dec (fun hp => ?_) (fun _ => same H9))
  · obtain ⟨e, he, hil⟩ := pos hp
    have hm := hr.e e (List.mem_of_getElem? he)
    refine ⟨by omega, by omega, ent_at (OwnRow.rdn (H9.get 2)) he fun p hp' _ _ _ => ?_⟩
    rw [Int.toNat_natCast]
    refine H9.strow 2 (i * 3) 1 rfl hp' (by rw [entsC_len]; omega) fun w10 H10 => fin ⟨v.t, v.u, v.s, v.m.set i ⟨e.i, un, e.s⟩⟩ row (setm _ hm.1 hunl hm.2.2) ?_
    rw [← ents_set1 v.m i un e he]
    exact H10
  · obtain ⟨e, he, hil⟩ := pos hp
    have hm := hr.e e (List.mem_of_getElem? he)
    have three : ∀ s ∈ ([[], [122], [122, 122]] : List (List UInt8)), s.length ≤ c + 1 + 1 := by
      intro s hs
      simp only [List.mem_cons, List.not_mem_nil, or_false] at hs
      rcases hs with rfl | rfl | rfl <;> simp
    have last : ∀ (s : List UInt8) {w10 : World} {L : List En}, s ∈ ([[], [122], [122, 122]] : List (List UInt8)) → LH F0 w w10 ([.g b4, .g b8, .row ty_enthymemeref06_Entry 3 row (entsC v.m)] ++ L) [EntsD sl v.m] → (0 : Int) ≤ (i : Int) ∧ (i : Int) < ((row.n : Nat) : Int) ∧ optP row.a fun p => stV w10 ((p.add (Int.toNat (i : Int) * 3)).add 2) (.string (ba s)) fun w11 => kept [b4, b8] w10 w11 ∧ enthymemeref06_Spoilt.S0T b4 v.t.k v.t.n v.t.x (v.u : Int) (ba v.s) row b8 0 0 0 0 (ByteArray.mk #[]) ⟨none, 0, 0⟩ w11 fun r w' => (∃ v', Ro (c + 1) v' ∧ RetV ty_enthymemeref06_Entry w v' r w') ∧ Fr0 w w' := by
      intro s w10 L hs H10
      have H10' := G v.m row H10
      refine ⟨by omega, by omega, ent_at (OwnRow.rdn (H10'.get 2)) he fun p hp' _ _ _ => ?_⟩
      rw [Int.toNat_natCast]
      refine H10'.strow 2 (i * 3) 2 rfl hp' (by rw [entsC_len]; omega) fun w11 H11 => fin ⟨v.t, v.u, v.s, v.m.set i ⟨e.i, e.u, s⟩⟩ row (setm _ hm.1 hm.2.1 ?_) ?_
      · simp only [List.mem_cons, List.not_mem_nil, or_false] at hs
        rcases hs with rfl | rfl | rfl
        · simp
        · simp
        · have := hv.m; simp only [List.length_cons, List.length_nil]; omega
      · rw [← ents_set2 v.m i s e he]
        exact H11
    refine ⟨H9.locg fun w22 H22 => H22.nw fun w23 _ H23 => H23.callg (around0 by' 3 w23 (by omega) h3) ?_, H9.locg fun w22 H22 => H22.callg (around0 by' 3 w22 (by omega) h3) ?_⟩
    · rintro _ w24 ⟨j, rfl, hj⟩ H24
      obtain ⟨s, hs, hcl⟩ := str_at H24 3 [[], [122], [122, 122]] j rfl (by simp; omega)
      exact ⟨_, rfl, by omega, by omega, _, hcl, last s hs H24⟩
    · rintro _ w24 ⟨j, rfl, hj⟩ H24
      refine ⟨_, rfl, H24.nw fun w27 _ H27 => ?_⟩
      obtain ⟨s, hs, hcl⟩ := str_at H27 3 [[], [122], [122, 122]] j rfl (by simp; omega)
      exact ⟨by omega, by omega, _, hcl, last s hs H27⟩
end Go.Proofs.Ytjjhfdjpmonlaaa

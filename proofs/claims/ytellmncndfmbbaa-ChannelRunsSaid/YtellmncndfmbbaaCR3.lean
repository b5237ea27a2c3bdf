/- plain, of, Same, same, SameLists. -/
import Derived.Test.YtellmncndfmbbaaCR2
namespace Go.Proofs.Ytellmncndfmbbaa
open Go Go.W
namespace Run
/-- three cells are written one by one -/
theorem fill3 {w0 : World} {n : Nat} {T : TypeId} {q a : Int} {s : Sl} {R : Post} {w : World} (F : Fr0 w0 w) (hn : w0.heap.size ≤ n) (h : w.heap[n]? = some (.cells #[.int .i64 0, .int .i64 0, .slice none 0 0] T (0, 0)))
    (k : ∀ w', Fr0 w0 w' → w'.heap[n]? = some (.cells #[.int .i64 q, .int .i64 a, s.v] T (0, 0)) → R (.returned (.agg #[.int .i64 q, .int .i64 a, s.v])) w') :
    (w.cell? (at0 n)).isSome = true ∧ w.frozen? (at0 n) = false ∧ (let w1 := w.setCell (at0 n) (.int .i64 q)
    (w1.cell? ((at0 n).add 1)).isSome = true ∧ w1.frozen? ((at0 n).add 1) = false ∧ (let w2 := w1.setCell ((at0 n).add 1) (.int .i64 a)
    (w2.cell? ((at0 n).add 2)).isSome = true ∧ w2.frozen? ((at0 n).add 2) = false ∧ (let w3 := w2.setCell ((at0 n).add 2) (s.v)
    ∃ r2_0 : Int, ∃ r2_1 : Int, ∃ r2_2 : W.Sl, w3.cell? ((at0 n).add 0) = some (.int .i64 r2_0) ∧ w3.cell? ((at0 n).add 1) = some (.int .i64 r2_1) ∧ w3.cell? ((at0 n).add 2) = some (r2_2.v) ∧ R (.returned (.agg #[.int .i64 r2_0, .int .i64 r2_1, r2_2.v])) w3))) := by
  refine ⟨by rw [show at0 n = (at0 n).add 0 from rfl, cellAt (p := at0 n) (i := 0) h rfl rfl]; rfl, frozenAt (p := at0 n) (i := 0) h, ?_⟩
  intro w1
  have c1 : w1.heap[n]? = some (.cells #[.int .i64 q, .int .i64 0, .slice none 0 0] T (0, 0)) := setAt (p := at0 n) (i := 0) (v := .int .i64 q) h rfl
  refine ⟨by rw [cellAt (p := at0 n) c1 rfl rfl]; rfl, frozenAt (p := at0 n) c1, ?_⟩
  intro w2
  have c2 : w2.heap[n]? = some (.cells #[.int .i64 q, .int .i64 a, .slice none 0 0] T (0, 0)) := setAt (p := at0 n) (i := 1) (v := .int .i64 a) c1 rfl
  refine ⟨by rw [cellAt (p := at0 n) c2 rfl rfl]; rfl, frozenAt (p := at0 n) c2, ?_⟩
  intro w3
  have c3 : w3.heap[n]? = some (.cells #[.int .i64 q, .int .i64 a, s.v] T (0, 0)) := setAt (p := at0 n) (i := 2) (v := s.v) c2 rfl
  have f1 : Fr (· = n) w w1 := Fr.set _ _ _ rfl
  have f2 : Fr (· = n) w1 w2 := Fr.set _ _ _ rfl
  have f3 : Fr (· = n) w2 w3 := Fr.set _ _ _ rfl
  exact ⟨q, a, s, cellAt (p := at0 n) (i := 0) c3 rfl rfl, cellAt (p := at0 n) c3 rfl rfl, cellAt (p := at0 n) c3 rfl rfl, k w3 (((F.trans f1 fun x hx e => by omega).trans f2 fun x hx e => by omega).trans f3 fun x hx e => by omega) c3⟩

theorem plain_any (q a : Int) (s : Sl) (w : World) : Calls Try.prog n_enthymemelaw38_plain #[.agg #[.int .i64 q, .int .i64 a, s.v]] w fun r w' => r = .returned (.agg #[.int .i64 q, .int .i64 a, s.v]) ∧ Fr0 w w' := by
  refine enthymemelaw38_plain.ok q a s w _ ?_
  unfold enthymemelaw38_plain.S0 enthymemelaw38_plain.S1
  intro w1 w2
  have f1 : Fr0 w w1 := Fr.alloc _ _ _
  have f2 : Fr0 w1 w2 := Fr.alloc _ _ _
  have c2 : w2.heap[w.heap.size]? = _ := f2.at (heap_new w _) id
  refine ⟨q, cellAt (p := at0 w.heap.size) (i := 0) c2 rfl rfl, a, cellAt (p := at0 w.heap.size) (i := 1) c2 rfl rfl, s, cellAt (p := at0 w.heap.size) (i := 2) c2 rfl rfl, ?_⟩
  exact fill3 (q := q) (a := a) (s := s) (R := fun r w' => r = .returned (.agg #[.int .i64 q, .int .i64 a, s.v]) ∧ Fr0 w w') (f1.trans f2 fun _ _ h => h) f1.size (heap_new w1 _) fun w' F _ => ⟨rfl, F⟩
theorem of_any (q a : Int) (s : Sl) (w : World) : Calls Try.prog n_enthymemelaw38_of #[.agg #[.int .i64 q, .int .i64 a, s.v]] w fun r w' => r = .returned (.agg #[.int .i64 q, .int .i64 a, s.v]) ∧ Fr0 w w' := by
  refine enthymemelaw38_of.ok q a s w _ ?_
  unfold enthymemelaw38_of.S0 enthymemelaw38_of.S1
  intro w1 w2
  have f1 : Fr0 w w1 := Fr.alloc _ _ _
  have f2 : Fr0 w1 w2 := Fr.alloc _ _ _
  have c2 : w2.heap[w.heap.size]? = _ := f2.at (heap_new w _) id
  refine ⟨q, cellAt (p := at0 w.heap.size) (i := 0) c2 rfl rfl, a, cellAt (p := at0 w.heap.size) (i := 1) c2 rfl rfl, s, cellAt (p := at0 w.heap.size) (i := 2) c2 rfl rfl, ?_⟩
  exact fill3 (q := q) (a := a) (s := s) (R := fun r w' => r = .returned (.agg #[.int .i64 q, .int .i64 a, s.v]) ∧ Fr0 w w') (f1.trans f2 fun _ _ h => h) f1.size (heap_new w1 _) fun w' F _ => ⟨rfl, F⟩
theorem same_any (q a : Int) (s t : Sl) (b : Msg) (w : World) (hb : Bytes w s b) (hc : Bytes w t b) (hl : b.length ≤ 1000000) : Calls Try.prog n_enthymemeref38_Same #[.agg #[.int .i64 q, .int .i64 a, s.v], .agg #[.int .i64 q, .int .i64 a, t.v]] w fun r w' => r = .returned (.bool true) ∧ Fr0 w w' := by
  refine enthymemeref38_Same.ok q a s q a t w _ ?_
  unfold enthymemeref38_Same.S0 enthymemeref38_Same.S1
  intro w1 w2
  have f1 : Fr0 w w1 := Fr.alloc _ _ _
  have f2 : Fr0 w1 w2 := Fr.alloc _ _ _
  have F2 := f1.trans f2 fun _ _ h => h
  have c1 : w2.heap[w.heap.size]? = _ := f2.at (heap_new w _) id
  have c2 : w2.heap[w1.heap.size]? = _ := heap_new w1 _
  refine ⟨q, cellAt (p := at0 w.heap.size) (i := 0) c1 rfl rfl, q, cellAt (p := at0 w1.heap.size) (i := 0) c2 rfl rfl, sel_true (by simp) ⟨a, cellAt (p := at0 w.heap.size) (i := 1) c1 rfl rfl, a, cellAt (p := at0 w1.heap.size) (i := 1) c2 rfl rfl, sel_true (by simp) ⟨s, cellAt (p := at0 w.heap.size) (i := 2) c1 rfl rfl, t, cellAt (p := at0 w1.heap.size) (i := 2) c2 rfl rfl, (same_bytes (hb.fr0 F2) (hc.fr0 F2) hl).mono ?_⟩⟩⟩
  rintro r w3 ⟨rfl, f3⟩
  exact ⟨_, rfl, by simp, F2.trans f3 fun _ _ h => h⟩
theorem sames_any {w : World} {s t : Sl} {l : List Pk} (hs : Pkts w s l) (ht : RPkts w t l) (hl : l.length ≤ 1000000) (hb : ∀ p ∈ l, p.b.length ≤ 1000000) : Calls Try.prog n_enthymemelaw38_same #[s.v, t.v] w fun r w' => r = .returned (.bool true) ∧ Fr0 w w' := by
  have hsn := hs.len
  have htn := ht.len
  refine enthymemelaw38_same.ok s t w _ ?_
  unfold enthymemelaw38_same.S0 enthymemelaw38_same.S1
  refine sel_false (by rw [hsn, htn]; simp) ?_
  unfold enthymemelaw38_same.S3
  have main : ∀ (n i : Nat), i + n = l.length → ∀ w', Fr0 w w' → enthymemelaw38_same.L4 s t (i : Int) w' fun r w' => r = .returned (.bool true) ∧ Fr0 w w' := by
    intro n
    induction n with
    | zero =>
      intro i hi w' F
      refine enthymemelaw38_same.L4_step _ _ _ _ _ ?_
      unfold enthymemelaw38_same.S5 enthymemelaw38_same.S9
      exact sel_false (by rw [hsn]; simp; omega) ⟨rfl, F⟩
    | succ n ih =>
      intro i hi w' F
      have fd : Fr0 w w'.drew := F.trans (Fr.drew _ _) fun _ _ h => h
      have hli : l[i]? = some l[i] := List.getElem?_eq_getElem (by omega)
      have hsd : Pkts w'.drew s l := hs.fr fd (fun _ h => h.elim) fun _ h => h.elim
      have htd : RPkts w'.drew t l := ht.fr fd (fun _ _ h => h) fun _ h => h.elim
      refine enthymemelaw38_same.L4_step _ _ _ _ _ ?_
      unfold enthymemelaw38_same.S5 enthymemelaw38_same.S6
      refine sel_true (by rw [hsn]; simp; omega) ⟨by omega, by rw [hsn]; omega, hsd.at hli (by simp) fun pa sb hb1 g0 g1 g2 => ⟨_, _, sb, g0, g1, g2, by omega, by rw [htn]; omega, htd.at hli (by simp) fun pa' sb' hpa hb2 k0 k1 k2 => ⟨_, _, sb', k0, k1, k2, (plain_any _ _ _ _).mono ?_⟩⟩⟩
      rintro r w1 ⟨rfl, f1⟩
      refine ⟨_, _, sb, rfl, Fr.cell0 f1 k0, Fr.cell0 f1 k1, Fr.cell0 f1 k2, (same_any _ _ _ _ _ _ (hb1.fr0 f1) (hb2.fr0 f1) (hb _ (List.mem_of_getElem? hli))).mono ?_⟩
      rintro r w2 ⟨rfl, f2⟩
      refine ⟨_, rfl, sel_false rfl ?_⟩
      unfold enthymemelaw38_same.S8
      rw [show IntKind.wrap .i64 ((i : Int) + 1) = ((i + 1 : Nat) : Int) from by rw [IntWalk.i64_in _ (by omega)]; omega]
      exact ih (i + 1) (by omega) w2 ((fd.trans f1 fun _ _ h => h).trans f2 fun _ _ h => h)
  exact main l.length 0 (by omega) w (Fr.refl _ _)
theorem samel_any {w : World} {s t : Sl} {l : List Msg} (hs : Msgs w s l) (ht : Msgs w t l) (hl : l.length ≤ 1000000) (hb : ∀ m ∈ l, m.length ≤ 1000000) : Calls Try.prog n_enthymemeref38_SameLists #[s.v, t.v] w fun r w' => r = .returned (.bool true) ∧ Fr0 w w' := by
  have hsn := hs.len
  have htn := ht.len
  refine enthymemeref38_SameLists.ok s t w _ ?_
  unfold enthymemeref38_SameLists.S0 enthymemeref38_SameLists.S1
  refine sel_false (by rw [hsn, htn]; simp) ?_
  unfold enthymemeref38_SameLists.S3
  have main : ∀ (n i : Nat), i + n = l.length → ∀ w', Fr0 w w' → enthymemeref38_SameLists.L4 s t (i : Int) w' fun r w' => r = .returned (.bool true) ∧ Fr0 w w' := by
    intro n
    induction n with
    | zero =>
      intro i hi w' F
      refine enthymemeref38_SameLists.L4_step _ _ _ _ _ ?_
      unfold enthymemeref38_SameLists.S5 enthymemeref38_SameLists.S9
      exact sel_false (by rw [hsn]; simp; omega) ⟨rfl, F⟩
    | succ n ih =>
      intro i hi w' F
      have fd : Fr0 w w'.drew := F.trans (Fr.drew _ _) fun _ _ h => h
      have hli : l[i]? = some l[i] := List.getElem?_eq_getElem (by omega)
      have hsd : Msgs w'.drew s l := hs.fr fd (fun _ _ h => h) fun _ h => h.elim
      have htd : Msgs w'.drew t l := ht.fr fd (fun _ _ h => h) fun _ h => h.elim
      refine enthymemeref38_SameLists.L4_step _ _ _ _ _ ?_
      unfold enthymemeref38_SameLists.S5 enthymemeref38_SameLists.S6
      refine sel_true (by rw [hsn]; simp; omega) ⟨by omega, by rw [hsn]; omega, hsd.at hli (by simp) fun pa sb hb1 hc1 => ⟨sb, hc1, by omega, by rw [htn]; omega, htd.at hli (by simp) fun pa' sb' hb2 hc2 => ⟨sb', hc2, (same_bytes hb1 hb2 (hb _ (List.mem_of_getElem? hli))).mono ?_⟩⟩⟩
      rintro r w1 ⟨rfl, f1⟩
      refine ⟨_, rfl, sel_false (by simp) ?_⟩
      unfold enthymemeref38_SameLists.S8
      rw [show IntKind.wrap .i64 ((i : Int) + 1) = ((i + 1 : Nat) : Int) from by rw [IntWalk.i64_in _ (by omega)]; omega]
      exact ih (i + 1) (by omega) w1 (fd.trans f1 fun _ _ h => h)
  exact main l.length 0 (by omega) w (Fr.refl _ _)
end Run
end Go.Proofs.Ytellmncndfmbbaa

/- More about bytes: a string's bytes with one of them set, and zero bytes. -/
import Derived.Test.YtemagdpieebjlaaM6
namespace Go.Proofs.Ytemagdpieebjlaa
open Go Go.W

theorem toks_len : ∀ (n i : Nat) (l : List UInt8) (L : List Tok), l.length < n → toks n i l = .ok L → L.length ≤ l.length + 1
  | 0, i, l, L, h, _ => by omega
  | n + 1, i, l, L, h, he => by
    unfold toks at he
    simp only [] at he
    have hsk := skipN_le false l
    cases hn : next1 (l.drop (skipN false l)) with
    | fin => rw [hn] at he; cases he; simp
    | bad a e => rw [hn] at he; cases he
    | tok k t u =>
      rw [hn] at he
      simp only [] at he
      obtain ⟨_, hu1, hu2, _⟩ := next1_tok hn
      rw [List.length_drop] at hu2
      cases hq : toks n (i + skipN false l + u) ((l.drop (skipN false l)).drop u) with
      | bad a e => rw [hq] at he; cases he
      | ok L' =>
        rw [hq] at he
        cases he
        have := toks_len n _ _ L' (by simp; omega) hq
        simp at this ⊢
        omega
theorem tokens_len {l : List UInt8} {L : List Tok} (h : tokens l = .ok L) : L.length ≤ 65537 := by
  unfold tokens at h
  split at h
  · cases h
  · have := toks_len _ _ _ _ (Nat.lt_succ_self _) h
    omega
theorem zeros (w : World) (n : Nat) (hn : n ≤ 1000000) : ∃ w', (Instr.makeSlice ty_sl_uint8 (.int .i64 (n : Int)) (.int .i64 (n : Int))).run Try.prog w = .ok (Sl.v ⟨some (at0 w.heap.size), n, n⟩) w' ∧ Fr0 w w' ∧ (Go.convert ty_sl_uint8 ty_string (Sl.v ⟨some (at0 w.heap.size), n, n⟩)).run Try.prog w' = .ok (.string (ba (List.replicate n 0))) w' := by
  obtain ⟨w', h1, h2, h3⟩ := make_full el_bytes w n (by omega)
  rw [madeCells_one _ _ rfl] at h2
  refine ⟨w', h1, h3, ?_⟩
  have : Bytes w' ⟨some (at0 w.heap.size), n, n⟩ (List.replicate n 0) := by
    have := OwnRow.rd1 h2
    unfold Bytes
    rw [List.map_replicate]
    exact this
  exact bytes_str this
theorem str_set (w : World) (t : ByteArray) : ∃ s' w', (Go.convert ty_string ty_sl_uint8 (.string t)).run Try.prog w = .ok s'.v w' ∧ Fr0 w w' ∧ Bytes w' s' (bl t) ∧ s'.n = t.size ∧ ∀ (m : Nat) (c : UInt8), m < t.size → ∃ p, s'.a = some p ∧ (w'.cell? (p.add m)).isSome = true ∧ w'.frozen? (p.add m) = false ∧ Bytes (w'.setCell (p.add m) (byteV c)) s' ((bl t).set m c) ∧ Fr0 w (w'.setCell (p.add m) (byteV c)) := by
  have hrow : ∀ (i : Nat) (v : Value), ((bl t).map byteV)[i]? = some v → (bytesRow t (grownCap w t.size 0 ty_uint8))[i]? = some v := fun i v hi => by
    rw [bytesRow, Array.getElem?_append]
    have hlt : i < t.data.size := by
      have := (List.getElem?_eq_some_iff.1 hi).1
      simpa [bl] using this
    rw [if_pos (by simpa using hlt)]
    simpa [bl, byteV] using hi
  have hsz : t.size ≤ (bytesRow t (grownCap w t.size 0 ty_uint8)).size := by
    unfold bytesRow
    rw [Array.size_append, Array.size_map]
    exact Nat.le_add_right _ _
  have hf : Fr0 w (w.drew.alloc (.cells (bytesRow t (grownCap w t.size 0 ty_uint8)) ty_uint8 ((bytesRow t (grownCap w t.size 0 ty_uint8)).size, (bytesRow t (grownCap w t.size 0 ty_uint8)).size + 1))) := (Fr.drew _ w).tr0 (Fr.alloc _ _ _)
  have hnew := heap_new w.drew (.cells (bytesRow t (grownCap w t.size 0 ty_uint8)) ty_uint8 ((bytesRow t (grownCap w t.size 0 ty_uint8)).size, (bytesRow t (grownCap w t.size 0 ty_uint8)).size + 1))
  refine ⟨⟨some ⟨w.heap.size, 0, none⟩, t.size, grownCap w t.size 0 ty_uint8⟩, _, run_bytes_of_string (P := Try.prog) w ty_string ty_sl_uint8 ty_uint8 t str_und el_bytes.ht u8_und, hf, ?_, rfl, ?_⟩
  · refine rd_in (by simp [bl_len]) (grownCap_ge w t.size 0 _) (fun h => by cases h) fun i v hi => ⟨_, rfl, ?_⟩
    exact cellAt (p := at0 w.heap.size) hnew rfl (by rw [show (at0 w.heap.size).off + i = i from Nat.zero_add _]; exact hrow i v hi)
  · intro m c hm
    generalize (bytesRow t (grownCap w t.size 0 ty_uint8)) = row at *
    generalize hw1 : w.drew.alloc (.cells row ty_uint8 (row.size, row.size + 1)) = w1 at *
    have hnew' : w1.heap[(at0 w.heap.size).block]? = some (.cells row ty_uint8 (row.size, row.size + 1)) := hnew
    have ho : ((at0 w.heap.size).add m).off = m := by
      unfold Addr.add; split <;> simp_all
    have hset := setAt (p := at0 w.heap.size) (i := m) (v := byteV c) hnew' rfl
    refine ⟨at0 w.heap.size, rfl, ?_, ?_, ?_, ?_⟩
    · rw [cellAt (p := at0 w.heap.size) (v := row[m]'(by omega)) hnew' rfl (by simp)]; rfl
    · unfold World.frozen?
      rw [add_block, hnew']
      simp only [ho]
      simp; omega
    · refine rd_in (by simp [bl_len]) (grownCap_ge w t.size 0 _) (fun h => by cases h) fun i v hi => ⟨_, rfl, ?_⟩
      refine cellAt (p := at0 w.heap.size) hset rfl ?_
      rw [show (at0 w.heap.size).off + i = i from Nat.zero_add _, show (at0 w.heap.size).off + m = m from Nat.zero_add _, Array.getElem?_setIfInBounds]
      rw [List.map_set, List.getElem?_set] at hi
      split
      · rename_i e
        rw [if_pos e] at hi
        subst e
        rw [if_pos (by omega)]
        split at hi
        · exact hi
        · cases hi
      · rename_i e
        rw [if_neg e] at hi
        exact hrow i v hi
    · have hs := Fr.set (M := (· = w.heap.size)) w1 ((at0 w.heap.size).add m) (byteV c) (add_block _ _)
      exact hf.trans hs fun x hx hxm => by omega
end Go.Proofs.Ytemagdpieebjlaa

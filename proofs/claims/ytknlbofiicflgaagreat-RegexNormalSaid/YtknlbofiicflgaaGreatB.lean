/- Bytes, numbers, strings and rows: what many packages share. -/
import Derived.Test.YtknlbofiicflgaaGreatV
import Derived.Test.YtknlbofiicflgaaGreatH
import Derived.Lib.AppendStr
import Derived.Laws.IdiomStrings
import Derived.IntWalk
namespace Go.Proofs.YtknlbofiicflgaaGreat
open Go Go.W Go.RowKit Go.Lib

theorem el_bytes : ElemOk Tryz.prog ty_sl_uint8 ty_uint8 (.int .u8 0) 1 1 := ⟨by kernel_rfl, by kernel_rfl, rfl, by decide, by decide⟩
theorem el_ints : ElemOk Tryz.prog ty_sl_int ty_int (.int .i64 0) 1 8 := ⟨by kernel_rfl, by kernel_rfl, rfl, by decide, by decide⟩
abbrev Bytes (w : World) (s : Sl) (bs : List UInt8) : Prop := Rd w s (bs.map byteV)
abbrev BytesO (w : World) (s : Sl) (bs : List UInt8) : Prop := Ow w ty_uint8 s (bs.map byteV)
abbrev Nums (w : World) (s : Sl) (l : List Int) : Prop := Rd w s (l.map intV)
abbrev NumsO (w : World) (s : Sl) (l : List Int) : Prop := Ow w ty_int s (l.map intV)
theorem Bytes.len {w : World} {s : Sl} {bs : List UInt8} (h : Bytes w s bs) : s.n = bs.length := by simpa using h.1
theorem Nums.len {w : World} {s : Sl} {bs : List Int} (h : Nums w s bs) : s.n = bs.length := by simpa using h.1
theorem Bytes.cell {w : World} {s : Sl} {bs : List UInt8} (h : Bytes w s bs) {i j : Nat} {b : UInt8} (hi : bs[i]? = some b) (hj : j = i * 1) {K : Addr → Prop} (hk : ∀ p, s.a = some p → w.cell? (p.add j) = some (.int .u8 (b.toNat : Int)) → K p) : W.optP s.a K :=
  Rd.get h (i := i) (v := byteV b) (by simp [hi]) hj hk
theorem Nums.cell {w : World} {s : Sl} {l : List Int} (h : Nums w s l) {i j : Nat} {b : Int} (hi : l[i]? = some b) (hj : j = i * 1) {K : Addr → Prop} (hk : ∀ p, s.a = some p → w.cell? (p.add j) = some (.int .i64 b) → K p) : W.optP s.a K :=
  Rd.get h (i := i) (v := intV b) (by simp [hi]) hj hk
theorem Bytes.sub {w : World} {s : Sl} {bs : List UInt8} (h : Bytes w s bs) (l hi : Nat) (hl : l ≤ hi) (hh : hi ≤ bs.length) : Bytes w (sub s l hi) ((bs.take hi).drop l) := by
  have := Rd.sub h l hi hl (by simpa using hh)
  rwa [← List.map_take, ← List.map_drop] at this
theorem Nums.sub {w : World} {s : Sl} {bs : List Int} (h : Nums w s bs) (l hi : Nat) (hl : l ≤ hi) (hh : hi ≤ bs.length) : Nums w (sub s l hi) ((bs.take hi).drop l) := by
  have := Rd.sub h l hi hl (by simpa using hh)
  rwa [← List.map_take, ← List.map_drop] at this
theorem append_bytes {ty : TypeId} {w : World} {s src : Sl} {xs ys : List UInt8} (ho : BytesO w s xs) (hr : Bytes w src ys) (hb : xs.length + ys.length ≤ 140737488355328) :
    ∃ s' w', (Builtin.append_ #[ty_sl_uint8, ty_sl_uint8] ty #[s.v, src.v]).run Tryz.prog w = .ok s'.v w' ∧ BytesO w' s' (xs ++ ys) ∧ Fr (fun b => b ∈ blkL s) w w' ∧ (∀ b ∈ blkL s', b ∈ blkL s ∨ w.heap.size ≤ b) ∧ (s'.a = none → s.a = none ∧ ys = []) := by
  obtain ⟨s', w', g1, g2, g3, g4, g5⟩ := append_ow (ty := ty) el_bytes ho hr (byteV_one _) (by simpa using hb)
  exact ⟨s', w', g1, by unfold BytesO; rw [List.map_append]; exact g2, g3, g4, fun h => ⟨(g5 h).1, by simpa using (g5 h).2⟩⟩
theorem append_nums {ty : TypeId} {w : World} {s src : Sl} {xs ys : List Int} (ho : NumsO w s xs) (hr : Nums w src ys) (hb : xs.length + ys.length ≤ 10000000000000) :
    ∃ s' w', (Builtin.append_ #[ty_sl_int, ty_sl_int] ty #[s.v, src.v]).run Tryz.prog w = .ok s'.v w' ∧ NumsO w' s' (xs ++ ys) ∧ Fr (fun b => b ∈ blkL s) w w' ∧ (∀ b ∈ blkL s', b ∈ blkL s ∨ w.heap.size ≤ b) ∧ (s'.a = none → s.a = none ∧ ys = []) := by
  obtain ⟨s', w', g1, g2, g3, g4, g5⟩ := append_ow (ty := ty) el_ints ho hr (intV_one _) (by simp; omega)
  exact ⟨s', w', g1, by unfold NumsO; rw [List.map_append]; exact g2, g3, g4, fun h => ⟨(g5 h).1, by simpa using (g5 h).2⟩⟩
theorem one_rd (w : World) (T : TypeId) (cs : List Value) (h : cs.length ≤ 1000000) : Rd (w.alloc (.cells cs.toArray T)) ⟨some ⟨w.heap.size, 0, none⟩, cs.length, cs.length⟩ cs := (Ow.made w T cs _ rfl h).rd
theorem one_byte (w : World) (b : UInt8) : Bytes (w.alloc (.cells #[.int .u8 (b.toNat : Int)] ty_uint8)) ⟨some ⟨w.heap.size, 0, none⟩, 1, 1⟩ [b] := one_rd w ty_uint8 [byteV b] (by simp)
theorem one_num (w : World) (b : Int) : Nums (w.alloc (.cells #[.int .i64 b] ty_int)) ⟨some ⟨w.heap.size, 0, none⟩, 1, 1⟩ [b] := one_rd w ty_int [intV b] (by simp)

/-! ### Strings -/
def bl (s : ByteArray) : List UInt8 := s.data.toList
def ba (l : List UInt8) : ByteArray := ⟨l.toArray⟩
theorem bl_ba (l : List UInt8) : bl (ba l) = l := rfl
theorem ba_bl (s : ByteArray) : ba (bl s) = s := rfl
theorem bl_len (s : ByteArray) : (bl s).length = s.size := rfl
theorem ba_size (l : List UInt8) : (ba l).size = l.length := by simp [ba, ByteArray.size]
theorem strCells_bl (s : ByteArray) : strCells s = (bl s).map byteV := by
  simp [strCells, bl, byteV]
theorem str_und : Tryz.prog.underlying ty_string = some .string := by kernel_rfl
theorem u8_und : Tryz.prog.underlying ty_uint8 = some (.int .u8) := by kernel_rfl
theorem append_str {ty : TypeId} {w : World} {s : Sl} {xs : List UInt8} (ho : BytesO w s xs) (t : ByteArray) (hb : xs.length + t.size ≤ 140737488355328) :
    ∃ s' w', (Builtin.append_ #[ty_sl_uint8, ty_string] ty #[s.v, .string t]).run Tryz.prog w = .ok s'.v w' ∧ BytesO w' s' (xs ++ bl t) ∧ Fr (fun b => b ∈ blkL s) w w' ∧ (∀ b ∈ blkL s', b ∈ blkL s ∨ w.heap.size ≤ b) := by
  obtain ⟨i, hi, hz, hsz, hby⟩ := info_parts el_bytes.hi
  have hn : s.n = xs.length := by simpa using ho.1
  have main : ∀ base, base ≤ w.heap.size → w.ownsRow base ty_uint8 1 s.v s.n (xs.map byteV) → ∃ v' w', (Builtin.append_ #[ty_sl_uint8, ty_string] ty #[s.v, .string t]).run Tryz.prog w = .ok v' w' ∧ w'.ownsRow base ty_uint8 1 v' (s.n + t.size) (xs.map byteV ++ strCells t) ∧ w.grownBy w' s.v.ownBlock ∧ (v' = .slice none 0 0 ↔ s.v = .slice none 0 0 ∧ t.size = 0) :=
    fun base hb0 h0 => run_append_own_string (P := Tryz.prog) w base ty_sl_uint8 ty_string ty ty_uint8 i el_bytes.ht str_und hi hz hsz hby s.v s.n (xs.map byteV) h0 t (by unfold maxLen; omega) (by omega) hb0
  obtain ⟨v', w', hrun, hown, hgr, hnil⟩ := main 0 (Nat.zero_le _) ho.2
  have hv : ∃ s' : Sl, v' = s'.v ∧ s'.n = s.n + t.size := by
    rcases hown.2 with ⟨h1, h2⟩ | ⟨g, cap, cur, h1, _⟩
    · exact ⟨⟨none, 0, 0⟩, h1, by show 0 = _; omega⟩
    · exact ⟨⟨_, _, _⟩, h1, rfl⟩
  obtain ⟨s', rfl, hn'⟩ := hv
  have hfr : Fr (fun b => b ∈ blkL s) w w' := by
    refine Fr.grown hgr fun g hg => ?_
    rw [ownBlock_v] at hg
    cases hsa : s.a with
    | none => simp [hsa] at hg
    | some p => simp [hsa] at hg; simp [blkL, hsa, hg]
  refine ⟨s', w', hrun, ⟨?_, ?_⟩, hfr, ?_⟩
  · rw [hn', hn]; simp [bl_len]
  · have h2 := hown
    rw [strCells_bl, ← List.map_append] at h2
    unfold OwnRow; rw [hn']; exact h2
  · intro g hg
    rcases ho.2.cases with ⟨rfl, hx⟩ | ⟨g0, cur, hga, hgg, hnc, hcm, hcsz, htk⟩
    · obtain ⟨v2, w2, hrun2, hown2, _, _⟩ := main w.heap.size (Nat.le_refl _) (by rw [hx]; exact World.ownsRow_nil w _ _ _)
      have e1 : (Result.ok s'.v w' : Result Value) = .ok v2 w2 := hrun.symm.trans hrun2
      have e2 := (Result.ok.inj e1).1
      subst e2
      rcases hown2.2 with ⟨h1, _⟩ | ⟨g2, cap2, cur2, h1, h2, _⟩
      · have : s'.a = none := (Value.slice.inj h1).1
        simp [blkL, this] at hg
      · have : s'.a = some ⟨g2, 0, none⟩ := (Value.slice.inj h1).1
        simp [blkL, this] at hg
        exact .inr (hg ▸ h2)
    · obtain ⟨sa0, sn0, sc0⟩ := s
      simp only at hga hnc hcsz htk hn
      subst hga
      by_cases hroom : sn0 + t.size ≤ sc0
      · have hr2 := run_append_room_string (P := Tryz.prog) w ty_sl_uint8 ty_string ty ty_uint8 i el_bytes.ht str_und hi hsz g0 sn0 sc0 cur hgg t hroom (by omega)
        have e1 := hrun.symm.trans hr2
        have : s'.a = some ⟨g0, 0, none⟩ := (Value.slice.inj (Result.ok.inj e1).1).1
        simp [blkL, this] at hg ⊢
        exact .inl hg
      · have holds : ∀ j u, (xs.map byteV)[j]? = some u → w.cell? ((⟨g0, 0, none⟩ : Addr).add j) = some u := World.ownsRow.cells (g := g0) ho.2 rfl
        have hr2 := run_append_grow_string (P := Tryz.prog) w ty_sl_uint8 ty_string ty ty_uint8 i (.int .u8 0) el_bytes.ht str_und hi hz ⟨g0, 0, none⟩ sn0 sc0 (xs.map byteV) (by rw [hsz]; simp; omega) holds t (by omega) (by omega) (growslice_fits (by omega) (by rw [hby]; omega))
        have e1 := hrun.symm.trans hr2
        have : s'.a = some ⟨w.heap.size, 0, none⟩ := (Value.slice.inj (Result.ok.inj e1).1).1
        simp [blkL, this] at hg
        exact .inr (by omega)
/-- string(b) -/
theorem bytes_str {w : World} {s : Sl} {bs : List UInt8} (h : Bytes w s bs) : (Go.convert ty_sl_uint8 ty_string s.v).run Tryz.prog w = .ok (.string (ba bs)) w := by
  obtain ⟨a, n, c⟩ := s
  have hn := Bytes.len h
  simp only at hn
  subst hn
  cases a with
  | none =>
    obtain ⟨e1, e2⟩ := h.2.2.1 rfl
    simp only at e1 e2
    obtain rfl : bs = [] := List.eq_nil_of_length_eq_zero e1
    rw [run_convert_bytes_string (P := Tryz.prog) w ty_sl_uint8 ty_string ty_uint8 _ _ _ el_bytes.ht u8_und str_und]
    rfl
  | some p =>
    refine run_convert_bytes_back (P := Tryz.prog) w ty_sl_uint8 ty_string ty_uint8 p c bs el_bytes.ht u8_und str_und fun j hj => ?_
    obtain ⟨q, hq, hc⟩ := h.2.2.2 j (byteV bs[j]) (by simp [List.getElem?_eq_getElem hj])
    cases hq; exact hc
/-- []byte(s) -/
theorem str_bytes (w : World) (t : ByteArray) : ∃ s' w', (Go.convert ty_string ty_sl_uint8 (.string t)).run Tryz.prog w = .ok s'.v w' ∧ Bytes w' s' (bl t) ∧ Fr0 w w' ∧ (∀ b ∈ blkL s', w.heap.size ≤ b ∧ b < w'.heap.size) := by
  refine ⟨⟨some ⟨w.heap.size, 0, none⟩, t.size, grownCap w t.size 0 ty_uint8⟩, _, run_bytes_of_string (P := Tryz.prog) w ty_string ty_sl_uint8 ty_uint8 t str_und el_bytes.ht u8_und, ⟨?_, ?_, ?_⟩, ?_, ?_⟩
  · simp [bl_len]
  · exact grownCap_ge w t.size 0 _
  · refine Row.crow (T := ty_uint8) (.inr ⟨w.heap.size, 0, _, _, rfl, heap_new w.drew _, fun i v hi => ?_⟩)
    rw [Nat.zero_add, bytesRow, Array.getElem?_append]
    have hlt : i < t.data.size := by
      have := (List.getElem?_eq_some_iff.1 hi).1
      simpa [bl] using this
    rw [if_pos (by simpa using hlt)]
    simpa [bl, byteV] using hi
  · exact (Fr.drew _ w).tr0 (Fr.alloc _ _ _)
  · intro b hb
    simp [blkL] at hb
    have : (w.drew.alloc (.cells (bytesRow t (grownCap w t.size 0 ty_uint8)) ty_uint8 ((bytesRow t (grownCap w t.size 0 ty_uint8)).size, (bytesRow t (grownCap w t.size 0 ty_uint8)).size + 1))).heap.size = w.heap.size + 1 := size_alloc _ _
    omega

theorem make_own {t e : TypeId} {z : Value} {bytes : Nat} (el : ElemOk Tryz.prog t e z 1 bytes) (w : World) (kl kc : IntKind) (n : Nat) (hb : n * bytes ≤ 140737488355328) :
    ∃ w', (Instr.makeSlice t (.int kl 0) (.int kc (n : Int))).run Tryz.prog w = .ok (.slice (some ⟨w.heap.size, 0, none⟩) 0 n) w' ∧ Ow w' e ⟨some ⟨w.heap.size, 0, none⟩, 0, n⟩ [] ∧ Fr0 w w' := by
  obtain ⟨i, hi, hz, hsz, hby⟩ := info_parts el.hi
  have hcl : n ≤ 140737488355328 := by
    have := Nat.le_mul_of_pos_right n el.hb
    omega
  obtain ⟨w', h1, h2, h3⟩ := run_make_own (P := Tryz.prog) w 0 t e i z 1 el.ht hi hz hsz kl kc n (by rw [hby, Nat.mul_comm]; omega) (by unfold maxLen; omega) (Nat.zero_le _)
  exact ⟨w', h1, ⟨rfl, h2⟩, Fr.grown h3 fun _ h => by cases h⟩

/-! ### What came in -/
theorem rd_in {w : World} {s : Sl} {vs : List Value} (hn : s.n = vs.length) (hc : s.n ≤ s.c) (h0 : s.a = none → s.c = 0) (h : ∀ i v, vs[i]? = some v → ∃ p, s.a = some p ∧ w.cell? (p.add i) = some v) : Rd w s vs :=
  ⟨hn, hc, fun ha => ⟨by have := h0 ha; omega, h0 ha⟩, h⟩
/-- a slice of numbers that came in -/
def ArgNums (w : World) (s : Sl) : Prop := ∃ l : List Int, Nums w s l ∧ l.length ≤ 9223372036854775807 ∧ ∀ x ∈ l, -9223372036854775808 ≤ x ∧ x ≤ 9223372036854775807
def ArgBytes (w : World) (s : Sl) : Prop := ∃ l : List UInt8, Bytes w s l ∧ l.length ≤ 9223372036854775807
theorem arg_nums_nil (w : World) : ArgNums w ⟨none, 0, 0⟩ := ⟨[], Rd.nil w, by simp, by simp⟩
theorem arg_bytes_nil (w : World) : ArgBytes w ⟨none, 0, 0⟩ := ⟨[], Rd.nil w, by simp⟩
theorem arg_nums (w : World) (x : Addr) (len cap : Nat) (zs : List Int) (hz : len ≤ zs.length) (hl : len ≤ cap) (hm : cap ≤ maxLen) (hc : ∀ i, i < zs.length → w.cell? (x.add i) = some (.int .i64 (zs.getD i 0))) (hw : ∀ n ∈ zs, IntKind.min .i64 ≤ n ∧ n ≤ IntKind.max .i64) : ArgNums w ⟨some x, len, cap⟩ := by
  refine ⟨zs.take len, rd_in (by simp; omega) hl (fun h => by cases h) (fun i v hi => ?_), ?_, fun n hn => hw n (List.mem_of_mem_take hn)⟩
  · rw [List.getElem?_map, List.getElem?_take] at hi
    split at hi
    · have hlt : i < zs.length := by omega
      refine ⟨x, rfl, ?_⟩
      rw [hc i hlt, List.getD_eq_getElem?_getD]
      rw [List.getElem?_eq_getElem hlt] at hi ⊢
      simpa [intV] using hi
    · simp at hi
  · have : len ≤ maxLen := by omega
    unfold maxLen at this
    simp; omega
theorem arg_bytes (w : World) (x : Addr) (len cap : Nat) (zs : List Int) (hz : len ≤ zs.length) (hl : len ≤ cap) (hm : cap ≤ maxLen) (hc : ∀ i, i < zs.length → w.cell? (x.add i) = some (.int .u8 (zs.getD i 0))) (hw : ∀ n ∈ zs, IntKind.min .u8 ≤ n ∧ n ≤ IntKind.max .u8) : ArgBytes w ⟨some x, len, cap⟩ := by
  refine ⟨(zs.take len).map (fun n => UInt8.ofNat n.toNat), rd_in (by simp; omega) hl (fun h => by cases h) (fun i v hi => ?_), ?_⟩
  · rw [List.getElem?_map, List.getElem?_map, List.getElem?_take] at hi
    split at hi
    · have hlt : i < zs.length := by omega
      refine ⟨x, rfl, ?_⟩
      rw [hc i hlt, List.getD_eq_getElem?_getD]
      rw [List.getElem?_eq_getElem hlt] at hi ⊢
      have h := hw zs[i] (List.getElem_mem hlt)
      have h0 : 0 ≤ zs[i] := h.1
      have h1 : zs[i] ≤ 255 := h.2
      simp only [Option.map_some, Option.some.injEq] at hi
      rw [← hi]
      simp [byteV]
      omega
    · simp at hi
  · have : len ≤ maxLen := by omega
    unfold maxLen at this
    simp; omega
/-- a row that was just made, and nothing else written -/
def NewBytes (w : World) (bs : List UInt8) : Post := fun r w' => ∃ s : Sl, r = .returned s.v ∧ BytesO w' s bs ∧ Fr0 w w' ∧ ∀ b ∈ blkL s, w.heap.size ≤ b
end Go.Proofs.YtknlbofiicflgaaGreat

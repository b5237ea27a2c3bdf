/- strings.Builder: what it holds, and the contracts of its methods. Small numbers and sorts as texts, on both sides. The printer: what it holds; measure. newPrinter: the region that makes the rows in any order. newPrinter: the words of the operations, the loop, the contract. write and Term: the contracts. bits.Text: the contract. Package term: the table of the numbers of kids, out of the row's condition. Law PrintSorts: lives and the walk. -/
import Derived.Test.YtnpkhgljhcnpcaaGreatDoorBK
import Derived.Test.YtnpkhgljhcnpcaaGreatDoorVB
import Derived.Lib.Builder
import Derived.Lib.MakeNoZero
import Derived.Lib.UnsafeStr
import Derived.Laws.Externs
import Derived.Laws.IdiomCopy
import Derived.Test.YtnpkhgljhcnpcaaGreatDoorTP
import Derived.Test.YtnpkhgljhcnpcaaGreatDoorE1
import Derived.Test.YtnpkhgljhcnpcaaGreatDoorR1
import Derived.Test.YtnpkhgljhcnpcaaGreatDoorB
import Derived.Lib.LaidTab
import Derived.LaidByTextLater
import Derived.Test.YtnpkhgljhcnpcaaGreatDoorRows
set_option linter.unusedVariables false
set_option maxRecDepth 100000
set_option maxHeartbeats 1000000
namespace Go.Proofs.YtnpkhgljhcnpcaaGreatDoor
open Go Go.W

/-! ### What a builder holds -/
def BdRep (w : World) (b : Nat) (bs : List UInt8) (own : List Nat) : Prop :=
  ∃ (u : Option Addr) (s : Sl), (u = none ∨ u = some (at0 b)) ∧ own = b :: blkL s ∧ w.heap[b]? = some (.cells #[.pointer u, s.v] ty_strings_Builder (0, 0)) ∧ BytesO w s bs
theorem BdRep.lt {w : World} {b : Nat} {bs : List UInt8} {own : List Nat} (h : BdRep w b bs own) : ∀ x ∈ own, x < w.heap.size := by
  obtain ⟨u, s, _, rfl, h1, h2⟩ := h
  intro x hx
  rcases List.mem_cons.1 hx with rfl | hx
  · exact lt_of_heap h1
  · exact h2.2.lt x hx
theorem BdRep.st {w w' : World} {b : Nat} {bs : List UInt8} {own : List Nat} (h : BdRep w b bs own) (k : ∀ x ∈ own, x < w.heap.size → w'.heap[x]? = w.heap[x]?) : BdRep w' b bs own := by
  have hlt := h.lt
  obtain ⟨u, s, hu, rfl, h1, h2⟩ := h
  exact ⟨u, s, hu, rfl, (k b (by simp) (hlt b (by simp))).trans h1, h2.1, h2.2.keep fun x hx _ => k x (by simp [hx]) (hlt x (by simp [hx]))⟩
def _root_.Go.W.En.bd (b : Nat) (own : List Nat) (bs : List UInt8) : En := ⟨nub own, fun w => BdRep w b bs own, fun w w' h hp => hp.st fun b hb => h b (mem_nub.2 hb), fun w hp b hb => hp.lt b (mem_nub.1 hb), nub_nodup _⟩
theorem bd_off (w : World) (bb : Nat) (own : List Nat) (l : List UInt8) (b : Nat) : ¬ (En.bd bb own l).P ({ w with heap := Array.replicate (b + 1) (.map #[] 0) }) := by
  rintro ⟨u, s, _, _, h, _⟩
  exact c_off w bb _ ty_strings_Builder b h
/-- after a method -/
def BdAt (w : World) (b : Nat) (own : List Nat) (bs : List UInt8) (w' : World) : Prop := ∃ own', BdRep w' b bs own' ∧ Fr (· ∈ own) w w' ∧ ∀ x ∈ own', x ∈ own ∨ w.heap.size ≤ x
theorem BdAt.refl {w : World} {b : Nat} {own : List Nat} {bs : List UInt8} (h : BdRep w b bs own) : BdAt w b own bs w := ⟨own, h, Fr.refl _ _, fun _ h => .inl h⟩
theorem BdAt.then {w w' w'' : World} {b : Nat} {own own' : List Nat} {bs : List UInt8} (h1 : Fr (· ∈ own) w w') (h2 : ∀ x ∈ own', x ∈ own ∨ w.heap.size ≤ x) (h : BdAt w' b own' bs w'') : BdAt w b own bs w'' := by
  obtain ⟨own'', r, f, o⟩ := h
  refine ⟨own'', r, h1.trans f fun x hx hm => ?_, fun x hx => ?_⟩
  · rcases h2 x hm with h | h
    · exact h
    · omega
  · rcases o x hx with h | h
    · exact h2 x h
    · exact .inr (Nat.le_trans h1.size h)
section
variable {M : Nat → Prop} {w0 w : World} {L D : List En} {bs : List Nat}
theorem _root_.Go.W.LH.bdG (H : LH M w0 w L D) (i : Nat) {bb : Nat} {own : List Nat} {l l' : List UInt8} {w' : World} (hi : L[i]? = some (.bd bb own l)) (h : BdAt w bb own l' w') : ∃ own', LH M w0 w' (L.set i (.bd bb own' l')) D ∧ BdRep w' bb l' own' := by
  obtain ⟨own', r, f, o⟩ := h
  exact ⟨own', H.upd i (.bd bb own' l') hi (f.mono fun x _ hx => mem_nub.2 hx) r (fun b hb => (o b (mem_nub.1 hb)).imp mem_nub.2 id), r⟩
/-- a method where nobody watches -/
theorem _root_.Go.W.LH.bdC (H : LH M w0 w L D) (i : Nat) {bb : Nat} {own : List Nat} {l l' : List UInt8} {P : Program} {g : FuncId} {args : Array Value} {A : Ending → Prop} {K : Post} (hi : L[i]? = some (.bd bb own l)) (hc : Calls P g args w fun r w' => A r ∧ BdAt w bb own l' w')
    (hk : ∀ r w' own', A r → LH M w0 w' (L.set i (.bd bb own' l')) D → K r w') : Calls P g args w K :=
  hc.mono fun r w' ⟨ha, h⟩ => by
    obtain ⟨own', H', _⟩ := H.bdG i hi h
    exact hk r w' own' ha H'
theorem _root_.Go.W.LH.bdF (H : LH M w0 w L D) (i : Nat) {bb : Nat} {own : List Nat} {l l' : List UInt8} {P : Program} {g : FuncId} {args : Array Value} {A : Ending → Prop} {K : Post} (hi : L[i]? = some (.bd bb own l)) (hc : Calls P g args w fun r w' => A r ∧ BdAt w bb own l' w')
    (hk : ∀ r w' own', A r → LH M w0 w' (L.set i (.bd bb own' l')) D → K r w') (hbs : ∀ b ∈ bs, En.g b ∈ L := by simp) : callF bs P g args w K :=
  ⟨(· ∈ own), fun b hb hm => ghost_off H hi (bd_off w bb own l) (hbs b hb) (mem_nub.2 hm), hc.mono fun r w' ⟨ha, h⟩ => by
    obtain ⟨_, _, f, _⟩ := id h
    obtain ⟨own', H', _⟩ := H.bdG i hi h
    exact ⟨f, hk r w' own' ha H'⟩⟩
end
/-! ### copyCheck -/
theorem bd_info : (∃ j, Tryz.prog.info? ty_strings_Builder = some j ∧ j.size = 2) ∧ liesAt Tryz.prog Tryz.prog.depth ty_strings_Builder (2 / Tryz.prog.cellsOf ty_strings_Builder) 0 ty_strings_Builder 1 = true ∧ Tryz.prog.underlying ty_p_strings_Builder = some (.pointer ty_strings_Builder) ∧ Tryz.prog.underlying ty_unsafe_Pointer = some .unsafePointer := by
  refine ⟨?_, by kernel_rfl, by kernel_rfl, by kernel_rfl⟩
  have h : (Tryz.prog.info? ty_strings_Builder).map (·.size) = some 2 := by kernel_rfl
  obtain ⟨j, h1, h2⟩ := Option.map_eq_some_iff.1 h
  exact ⟨j, h1, h2⟩
theorem bd_check {w : World} {b : Nat} {u : Option Addr} {s : Sl} (hu : u = none ∨ u = some (at0 b)) (hc : w.heap[b]? = some (.cells #[.pointer u, s.v] ty_strings_Builder (0, 0))) :
    Calls Tryz.prog n_strings_Builder_copyCheck #[.pointer (some (at0 b))] w fun r w' => r = .returned (.tuple #[]) ∧ w'.heap[b]? = some (.cells #[.pointer (some (at0 b)), s.v] ty_strings_Builder (0, 0)) ∧ Fr (· = b) w w' := by
  obtain ⟨⟨j, hj, hz⟩, hlie, hp, hun⟩ := bd_info
  have c0 : w.cell? ((at0 b).add 0) = some (.pointer u) := cellAt (p := at0 b) hc rfl rfl
  have hsh : w.shape? (at0 b).block = some (ty_strings_Builder, 2) := by
    show w.shape? b = _
    simp [World.shape?, hc]
  refine strings_Builder_copyCheck.ok _ w _ ⟨u, c0, ?_⟩
  rcases hu with rfl | rfl
  · refine sel_true rfl ⟨some (at0 b), Lib.run_to_unsafe w (at0 b) hp hun hj (by rw [hz]; decide) hsh (Nat.zero_lt_succ 1), some (at0 b), w, ?_, some (at0 b), Lib.run_from_unsafe w (at0 b) hun hp hj hsh hlie, ?_⟩
    · rw [run_callFunc_extern (fn := (Tryz.prog.funcs[n_internal_abi_NoEscape]?).getD default) (by kernel_rfl) (by kernel_rfl) (by kernel_rfl) (by kernel_rfl) (e := Extern.AbiNoEscape.same) (by kernel_rfl), Lib.run_noEscape]
      rfl
    · refine ⟨by rw [c0]; rfl, frozenAt (p := at0 b) hc, rfl, ?_, Fr.set _ _ _ rfl⟩
      exact setAt (p := at0 b) (i := 0) (v := .pointer (some (at0 b))) hc rfl
  · refine sel_false rfl ⟨some (at0 b), c0, false, ?_, sel_false rfl ⟨rfl, hc, Fr.refl _ _⟩⟩
    exact Lib.run_neq_ptr_same w (at0 b) hp hj
/-! ### The writing methods -/
/-- the store behind an append -/
theorem bd_store {w w1 w2 : World} {b : Nat} {s s' : Sl} {l l' : List UInt8} (hc : w.heap[b]? = some (.cells #[.pointer (some (at0 b)), s.v] ty_strings_Builder (0, 0))) (h0 : BytesO w s l) (f1 : Fr0 w w1) (ho : BytesO w2 s' l') (f2 : Fr (· ∈ blkL s) w1 w2) (hbl : ∀ b ∈ blkL s', b ∈ blkL s ∨ w1.heap.size ≤ b) :
    (w2.cell? ((at0 b).add 1)).isSome = true ∧ w2.frozen? ((at0 b).add 1) = false ∧ BdAt w b (b :: blkL s) l' (w2.setCell ((at0 b).add 1) s'.v) := by
  have hne : b ∉ blkL s := ow_ne h0 hc (by decide)
  have c2 := f2.at (f1.at hc id) hne
  have c3 : (w2.setCell ((at0 b).add 1) s'.v).heap[b]? = some (.cells #[.pointer (some (at0 b)), s'.v] ty_strings_Builder (0, 0)) := setAt (p := at0 b) (i := 1) (v := s'.v) c2 rfl
  have f3 : Fr (· = b) w2 (w2.setCell ((at0 b).add 1) s'.v) := Fr.set _ _ _ rfl
  have hne' : b ∉ blkL s' := ow_ne ho c2 (by decide)
  refine ⟨by rw [cellAt (p := at0 b) c2 rfl rfl]; rfl, frozenAt (p := at0 b) c2, b :: blkL s', ⟨_, s', .inr rfl, rfl, c3, ho.fr f3 fun x hx e => hne' (e ▸ hx)⟩, ?_, ?_⟩
  · exact ((f1.of0 (M := (· ∈ b :: blkL s))).trans f2 fun x _ hx => by simp [hx]).trans f3 fun x _ hx => by simp [hx]
  · intro x hx
    rcases List.mem_cons.1 hx with rfl | hx
    · exact .inl (by simp)
    · rcases hbl x hx with h | h
      · exact .inl (by simp [h])
      · exact .inr (Nat.le_trans f1.size h)
theorem bd_open {w : World} {b : Nat} {l : List UInt8} {own : List Nat} (h : BdRep w b l own) {K : Post} (hk : ∀ (s : Sl) w', own = b :: blkL s → w'.heap[b]? = some (.cells #[.pointer (some (at0 b)), s.v] ty_strings_Builder (0, 0)) → BytesO w' s l → Fr (· ∈ own) w w' → K (.returned (.tuple #[])) w') :
    Calls Tryz.prog n_strings_Builder_copyCheck #[.pointer (some (at0 b))] w K := by
  obtain ⟨u, s, hu, rfl, h1, h2⟩ := h
  refine (bd_check hu h1).mono ?_
  rintro _ w1 ⟨rfl, c, f⟩
  have hne : b ∉ blkL s := ow_ne h2 h1 (by decide)
  exact hk s w1 rfl c (h2.fr f fun x hx e => hne (e ▸ hx)) (f.mono fun x _ e => by simp [e])
theorem bd_cell {w : World} {b : Nat} {s : Sl} (hc : w.heap[b]? = some (.cells #[.pointer (some (at0 b)), s.v] ty_strings_Builder (0, 0))) : w.cell? ((at0 b).add 1) = some s.v := cellAt (p := at0 b) hc rfl rfl
theorem bd_byte {w : World} {b : Nat} {l : List UInt8} {own : List Nat} (h : BdRep w b l own) (c : UInt8) (hl : l.length ≤ 10000000000000) :
    Calls Tryz.prog n_strings_Builder_WriteByte #[.pointer (some (at0 b)), .int .u8 (c.toNat : Int)] w fun r w' => r = .returned .nilIface ∧ BdAt w b own (l ++ [c]) w' := by
  refine strings_Builder_WriteByte.ok _ _ w _ (bd_open h fun s w1 ho c1 b1 f => ?_)
  subst ho
  have f1 : Fr0 w1 (w1.alloc (.cells #[.int .u8 (c.toNat : Int)] ty_uint8)) := Fr.alloc _ _ _
  obtain ⟨s', w2, g1, g2, g3, g4, g5⟩ := append_bytes (ty := ty_sl_uint8) (b1.fr0 f1) (one_byte w1 c) (by simp; omega)
  obtain ⟨a1, a2, a3⟩ := bd_store c1 b1 f1 g2 g3 g4
  exact ⟨rfl, s, bd_cell c1, s', w2, g1, a1, a2, rfl, a3.then f fun x hx => .inl hx⟩
theorem bd_str {w : World} {b : Nat} {l : List UInt8} {own : List Nat} (h : BdRep w b l own) (t : ByteArray) (hl : l.length + t.size ≤ 10000000000000) :
    Calls Tryz.prog n_strings_Builder_WriteString #[.pointer (some (at0 b)), .string t] w fun r w' => r = .returned (.tuple #[.i (t.size : Int), .nilIface]) ∧ BdAt w b own (l ++ bl t) w' := by
  refine strings_Builder_WriteString.ok _ _ w _ (bd_open h fun s w1 ho c1 b1 f => ?_)
  subst ho
  obtain ⟨s', w2, g1, g2, g3, g4⟩ := append_str (ty := ty_sl_uint8) b1 t (by omega)
  obtain ⟨a1, a2, a3⟩ := bd_store c1 b1 (Fr.refl _ w1) g2 g3 g4
  exact ⟨rfl, s, bd_cell c1, s', w2, g1, a1, a2, rfl, a3.then f fun x hx => .inl hx⟩
/-! ### Grow of a new one, String -/
theorem bd_grow {w : World} {b : Nat} (hc : w.heap[b]? = some (.cells #[.pointer (some (at0 b)), .slice none 0 0] ty_strings_Builder (0, 0))) {n : Nat} (hn : n ≤ 100000) :
    Calls Tryz.prog n_strings_Builder_grow #[.pointer (some (at0 b)), .i (n : Int)] w fun r w' => r = .returned (.tuple #[]) ∧ BdAt w b [b] [] w' := by
  have hun : Tryz.prog.underlying ty_sl_uint8 = some (.slice ty_uint8) := by kernel_rfl
  have hb := lt_of_heap hc
  refine strings_Builder_grow.ok _ _ w _ ?_
  obtain ⟨cs, hrun, hle, hmax⟩ := Lib.run_makeNoZero (P := Tryz.prog) w.drew #[ty_int] ty_sl_uint8 ty_uint8 hun n (by omega)
  have e : IntKind.wrap .i64 ((IntKind.wrap .i64 (2 * ((0 : Nat) : Int))) + (n : Int)) = (n : Int) := by
    rw [IntWalk.i64_in (2 * ((0 : Nat) : Int)) (by omega), IntWalk.i64_in _ (by omega)]
    omega
  have c1 : w.drew.cell? ((at0 b).add 1) = some (.slice none 0 0) := cellAt (p := at0 b) (show w.drew.heap[b]? = _ from hc) rfl rfl
  have f1 : Fr0 w (w.drew.drew.drew.alloc (.cells cs ty_uint8)) := (((Fr.drew _ w).tr0 (Fr.drew _ _)).tr0 (Fr.drew _ _)).tr0 (Fr.alloc _ _ _)
  have c2 := f1.at hc id
  refine ⟨⟨none, 0, 0⟩, c1, ⟨none, 0, 0⟩, c1, ⟨some ⟨w.drew.heap.size, 0, none⟩, n, cs.size⟩, w.drew.drew.drew.alloc (.cells cs ty_uint8), ?_, cellAt (p := at0 b) c2 rfl rfl, by simp, by simp, ?_⟩
  · rw [e, run_callFunc_extern (fn := (Tryz.prog.funcs[n_internal_bytealg_MakeNoZero]?).getD default) (by kernel_rfl) (by kernel_rfl) (by kernel_rfl) (by kernel_rfl) (e := Extern.BytealgMakeNoZero.makeNoZero #[ty_int] #[ty_sl_uint8]) (by kernel_rfl), hrun]
    rfl
  · have hs0 : (if cs.size = 0 then some (⟨w.drew.heap.size, 0, none⟩ : Addr) else (some (⟨w.drew.heap.size, 0, none⟩ : Addr)).map (·.add (0 * 1))) = some ⟨w.drew.heap.size, 0, none⟩ := by
      split <;> rfl
    show strings_Builder_grow.S0 _ ⟨(if cs.size = 0 then some (⟨w.drew.heap.size, 0, none⟩ : Addr) else (some (⟨w.drew.heap.size, 0, none⟩ : Addr)).map (·.add (0 * 1))), 0, cs.size⟩ _ _
    rw [hs0]
    refine ⟨⟨none, 0, 0⟩, cellAt (p := at0 b) c2 rfl rfl, 0, _, run_copy_none _ _ _ _ ty_uint8 _ _ _ _ _ _ hun (by kernel_rfl) rfl, by rw [cellAt (p := at0 b) c2 rfl rfl]; rfl, frozenAt (p := at0 b) c2, rfl, ?_⟩
    have hnew : (w.drew.drew.drew.alloc (.cells cs ty_uint8)).heap[w.heap.size]? = some (.cells cs ty_uint8 (0, 0)) := heap_new w.drew.drew.drew _
    have f3 : Fr (· = b) (w.drew.drew.drew.alloc (.cells cs ty_uint8)) ((w.drew.drew.drew.alloc (.cells cs ty_uint8)).setCell ((at0 b).add 1) (.slice (some ⟨w.drew.heap.size, 0, none⟩) 0 cs.size)) := Fr.set _ _ _ rfl
    refine ⟨[b, w.heap.size], ⟨_, ⟨some ⟨w.drew.heap.size, 0, none⟩, 0, cs.size⟩, .inr rfl, rfl, setAt (p := at0 b) (i := 1) c2 rfl, rfl, ?_⟩, (f1.of0 (M := (· ∈ [b]))).trans f3 fun x _ hx => by simp [hx], fun x hx => ?_⟩
    · refine ⟨rfl, .inr ⟨w.heap.size, cs.size, cs, rfl, Nat.zero_le _, f3.at hnew (fun e => by omega), Nat.zero_le _, hmax (by unfold maxLen; omega), by simp, by simp⟩⟩
    · simp at hx
      rcases hx with rfl | rfl
      · exact .inl (by simp)
      · exact .inr (Nat.le_refl _)
theorem bd_Grow {w : World} {b : Nat} (hc : w.heap[b]? = some (.cells #[.pointer none, .slice none 0 0] ty_strings_Builder (0, 0))) {n : Nat} (hn : n ≤ 100000) :
    Calls Tryz.prog n_strings_Builder_Grow #[.pointer (some (at0 b)), .i (n : Int)] w fun r w' => r = .returned (.tuple #[]) ∧ BdAt w b [b] [] w' := by
  refine strings_Builder_Grow.ok _ _ w _ ((bd_check (s := ⟨none, 0, 0⟩) (.inl rfl) hc).mono ?_)
  rintro _ w1 ⟨rfl, c1, f1⟩
  have f1' : Fr (· ∈ [b]) w w1.drew := (f1.tr0 (Fr.drew _ _)).mono fun x _ e => by simp [e]
  have hd : w1.drew.heap[b]? = some (.cells #[.pointer (some (at0 b)), .slice none 0 0] ty_strings_Builder (0, 0)) := c1
  have cc : w1.drew.cell? ((at0 b).add 1) = some (.slice none 0 0) := cellAt (p := at0 b) hd rfl rfl
  refine ⟨rfl, sel_false (decide_eq_false (by omega)) ⟨⟨none, 0, 0⟩, cc, ⟨none, 0, 0⟩, cc, sel_dec (fun _ => (bd_grow hd hn).mono ?_) (fun _ => ⟨rfl, BdAt.then (own' := [b]) f1' (fun x hx => .inl hx) (BdAt.refl ⟨_, ⟨none, 0, 0⟩, .inr rfl, rfl, hd, Ow.nil _ _⟩)⟩)⟩⟩
  rintro _ w2 ⟨rfl, h⟩
  exact ⟨rfl, rfl, h.then f1' fun x hx => .inl hx⟩
theorem bd_String {w : World} {b : Nat} {l : List UInt8} {own : List Nat} (h : BdRep w b l own) (h0 : l ≠ []) :
    Calls Tryz.prog n_strings_Builder_String #[.pointer (some (at0 b))] w fun r w' => r = .returned (.string ⟨l.toArray⟩) ∧ Fr (· ∈ own) w w' := by
  obtain ⟨u, s, hu, rfl, h1, h2⟩ := h
  have hl : l.length ≠ 0 := by simpa using h0
  have hn := h2.1
  simp only [List.length_map] at hn
  rcases h2.2.cases with ⟨rfl, he⟩ | ⟨g, cur, ha, hg, hc1, hc2, hc3, hc4⟩
  · simp at he
    exact absurd he h0
  have cc : w.drew.cell? ((at0 b).add 1) = some s.v := cellAt (p := at0 b) (show w.drew.heap[b]? = _ from h1) rfl rfl
  refine strings_Builder_String.ok _ w _ ⟨s, cc, s, cc, some ⟨g, 0, none⟩, w.drew, ?_, cc, ⟨l.toArray⟩, w.drew.freeze ⟨g, 0, none⟩ l.length, ?_, rfl, ?_⟩
  · show (Builtin.unsafeSliceData_ _ _ #[.slice s.a s.n s.c]).run _ _ = _
    rw [ha]
    exact Lib.run_unsafeSliceData_row _ _ _ _ _ _ (by omega)
  · rw [hn]
    refine Lib.run_unsafeString_row w.drew _ _ _ ty_uint8 (by kernel_rfl) (by kernel_rfl) g cur.size ?_ l h0 (by omega) (by unfold maxLen at hc2; omega) ?_
    · have hg' : w.drew.heap[g]? = some (.cells cur ty_uint8 (0, 0)) := hg
      simp [World.shape?, hg']
    · intro j x hx
      have hj : cur[j]? = some (.int .u8 (x.toNat : Int)) := by
        have : (cur.toList.take (s.n * 1))[j]? = some (byteV x) := by rw [hc4, List.getElem?_map, hx]; rfl
        rw [List.getElem?_take] at this
        split at this
        · show cur[j]? = some (byteV x)
          simpa using this
        · cases this
      exact cellAt (p := at0 g) (show w.drew.heap[g]? = _ from hg) rfl (show cur[0 + j]? = _ by rw [Nat.zero_add]; exact hj)
  · refine ((Fr.drew _ w).trans (M' := (· ∈ b :: blkL s)) ?_ fun _ _ h => h)
    have hgm : g ∈ blkL s := by unfold blkL; rw [ha]; simp
    unfold World.freeze
    split
    · exact Fr.refl _ _
    · exact ⟨rfl, rfl, rfl, by simp, fun k hk hm => by
        simp only [Array.getElem?_modify]
        rw [if_neg (fun e => hm (by simp [← e, hgm]))]⟩
end Go.Proofs.YtnpkhgljhcnpcaaGreatDoor
set_option maxRecDepth 100000
set_option maxHeartbeats 1000000
namespace Go.Proofs.YtnpkhgljhcnpcaaGreatDoor
open Go Go.W

/-- a number below 100 -/
def dec2 (n : Nat) : ByteArray := if n < 10 then ⟨#[UInt8.ofNat (48 + n)]⟩ else ⟨#[UInt8.ofNat (48 + n / 10), UInt8.ofNat (48 + n % 10)]⟩
abbrev dgB : ByteArray := ⟨#[48, 49, 50, 51, 52, 53, 54, 55, 56, 57]⟩
def dg1 (d : Nat) : ByteArray := dgB.extract d (d + 1)
theorem dg1_one : ∀ n < 10, dg1 n ++ ByteArray.mk #[] = dec2 n := by decide
theorem dg1_two : ∀ n < 100, 10 ≤ n → dg1 (n / 10) ++ (dg1 (n % 10) ++ ByteArray.mk #[]) = dec2 n := by decide
theorem dec2_size (n : Nat) : (dec2 n).size ≤ 2 := by
  unfold dec2
  split
  · show 1 ≤ 2
    omega
  · exact Nat.le_refl 2
theorem size_app (a b : ByteArray) : (a ++ b).size = a.size + b.size := ByteArray.size_append
theorem dg1_size : ∀ n < 10, (dg1 n).size = 1 := by decide
section
variable {w : World} {R : Post}
theorem dec_round (k : Nat) (h0 : 0 < k) (h1 : k < 100) (n : Int) (s : ByteArray) (hs : s.size ≤ 10) (h : enthymemeref01_Decimal.L1 n dgB (dg1 (k % 10) ++ s) ((k / 10 : Nat) : Int) w R) : enthymemeref01_Decimal.L1 n dgB s (k : Int) w R := by
  have hm : Int.tmod (k : Int) 10 = ((k % 10 : Nat) : Int) := rfl
  have hd : Int.tdiv (k : Int) 10 = ((k / 10 : Nat) : Int) := rfl
  have hk : k % 10 < 10 := Nat.mod_lt _ (by omega)
  have hz := dg1_size _ hk
  refine enthymemeref01_Decimal.L1_step _ _ _ _ _ _ (sel_true (by simp; omega) (sel_false (by rw [hm]; exact decide_eq_false (by omega)) ?_))
  rw [hm]
  have e1 : IntKind.wrap .i64 (((k % 10 : Nat) : Int) + 1) = ((k % 10 + 1 : Nat) : Int) := i64_next _ (by omega)
  have e2 : dgB.extract (Int.toNat ((k % 10 : Nat) : Int)) (Int.toNat ((k % 10 + 1 : Nat) : Int)) = dg1 (k % 10) := rfl
  unfold enthymemeref01_Decimal.S2
  unfold enthymemeref01_Decimal.S3
  rw [e1, e2, hd, IntWalk.i64_in _ (by omega)]
  refine ⟨by omega, ?_, by omega, by rw [Int.toNat_natCast]; omega, ?_, h⟩
  · show ((k % 10 + 1 : Nat) : Int) ≤ ((10 : Nat) : Int)
    omega
  · rw [hz, IntKind.max_i64]
    omega
end
theorem c_dec {w : World} {n : Int} (h0 : 0 ≤ n) (h1 : n < 100) : Calls Tryz.prog n_enthymemeref01_Decimal #[.i n] w fun r w' => r = .returned (.string (dec2 n.toNat)) ∧ Fr0 w w' := by
  obtain ⟨m, rfl⟩ := Int.eq_ofNat_of_zero_le h0
  rw [Int.toNat_natCast]
  have fin : ∀ s : ByteArray, s = dec2 m → enthymemeref01_Decimal.L1 (m : Int) dgB s ((0 : Nat) : Int) w fun r w' => r = .returned (.string (dec2 m)) ∧ Fr0 w w' := fun s hs =>
    enthymemeref01_Decimal.L1_step _ _ _ _ _ _ (sel_false rfl (sel_false (decide_eq_false (by omega)) ⟨by rw [hs], Fr.refl _ _⟩))
  refine enthymemeref01_Decimal.ok _ w _ (sel_eq (fun h => ⟨by rw [show m = 0 by omega]; rfl, Fr.refl _ _⟩) (fun h => ?_))
  refine dec_round m (by omega) (by omega) _ _ (by decide) ?_
  rcases Nat.lt_or_ge m 10 with hm | hm
  · rw [show m / 10 = 0 by omega, show m % 10 = m by omega]
    exact fin _ (dg1_one _ hm)
  · have hz := dg1_size (m % 10) (Nat.mod_lt _ (by omega))
    refine dec_round (m / 10) (by omega) (by omega) _ _ (by rw [size_app, hz]; decide) ?_
    rw [show m / 10 / 10 = 0 by omega, show m / 10 % 10 = m / 10 by omega]
    exact fin _ (dg1_two _ (by omega) hm)
abbrev smB : ByteArray := ⟨#[48, 48, 48, 49, 48, 50, 48, 51, 48, 52, 48, 53, 48, 54, 48, 55, 48, 56, 48, 57, 49, 48, 49, 49, 49, 50, 49, 51, 49, 52, 49, 53, 49, 54, 49, 55, 49, 56, 49, 57, 50, 48, 50, 49, 50, 50, 50, 51, 50, 52, 50, 53, 50, 54, 50, 55, 50, 56, 50, 57, 51, 48, 51, 49, 51, 50, 51, 51, 51, 52, 51, 53, 51, 54, 51, 55, 51, 56, 51, 57, 52, 48, 52, 49, 52, 50, 52, 51, 52, 52, 52, 53, 52, 54, 52, 55, 52, 56, 52, 57, 53, 48, 53, 49, 53, 50, 53, 51, 53, 52, 53, 53, 53, 54, 53, 55, 53, 56, 53, 57, 54, 48, 54, 49, 54, 50, 54, 51, 54, 52, 54, 53, 54, 54, 54, 55, 54, 56, 54, 57, 55, 48, 55, 49, 55, 50, 55, 51, 55, 52, 55, 53, 55, 54, 55, 55, 55, 56, 55, 57, 56, 48, 56, 49, 56, 50, 56, 51, 56, 52, 56, 53, 56, 54, 56, 55, 56, 56, 56, 57, 57, 48, 57, 49, 57, 50, 57, 51, 57, 52, 57, 53, 57, 54, 57, 55, 57, 56, 57, 57]⟩
abbrev diB : ByteArray := ⟨#[48, 49, 50, 51, 52, 53, 54, 55, 56, 57, 97, 98, 99, 100, 101, 102, 103, 104, 105, 106, 107, 108, 109, 110, 111, 112, 113, 114, 115, 116, 117, 118, 119, 120, 121, 122]⟩
theorem small1 : ∀ n < 10, diB.extract n (n + 1) = dec2 n := by decide
theorem small2 : ∀ n < 100, 10 ≤ n → smB.extract (n * 2) (n * 2 + 2) = dec2 n := by decide
/-- strconv.Itoa of a small number -/
theorem s_Itoa {w : World} {n : Int} (h0 : 0 ≤ n) (h1 : n < 100) : Calls Tryz.prog n_strconv_Itoa #[.i n] w fun r w' => r = .returned (.string (dec2 n.toNat)) ∧ Fr0 w w' := by
  obtain ⟨m, rfl⟩ := Int.eq_ofNat_of_zero_le h0
  rw [Int.toNat_natCast]
  have small : Calls Tryz.prog n_internal_strconv_small #[.i (m : Int)] w fun r w' => r = .returned (.string (dec2 m)) ∧ w' = w := by
    refine internal_strconv_small.ok _ w _ (sel_dec (fun h => ?_) (fun h => ?_))
    · rw [i64_next _ (by omega)]
      refine ⟨by omega, ?_, by omega, by rw [Int.toNat_natCast]; omega, by rw [Int.toNat_natCast, Int.toNat_natCast, small1 m (by omega)], rfl⟩
      show ((m + 1 : Nat) : Int) ≤ ((36 : Nat) : Int)
      omega
    · have e1 : IntKind.wrap .i64 ((m : Int) * 2) = ((m * 2 : Nat) : Int) := by rw [IntWalk.i64_in _ (by omega)]; omega
      have e2 : IntKind.wrap .i64 (((m * 2 : Nat) : Int) + 2) = ((m * 2 + 2 : Nat) : Int) := by rw [IntWalk.i64_in _ (by omega)]; omega
      rw [e1, e2]
      refine ⟨by omega, ?_, by omega, by rw [Int.toNat_natCast]; omega, by rw [Int.toNat_natCast, Int.toNat_natCast, small2 m (by omega) (by omega)], rfl⟩
      show ((m * 2 + 2 : Nat) : Int) ≤ ((200 : Nat) : Int)
      omega
  refine strconv_Itoa.ok _ w _ ((internal_strconv_Itoa.ok _ w (fun r w' => r = .returned (.string (dec2 m)) ∧ w' = w) ((internal_strconv_FormatInt.ok _ _ w (fun r w' => r = .returned (.string (dec2 m)) ∧ w' = w) (sel_true rfl (sel_true (decide_eq_true (by omega)) (sel_true (decide_eq_true (by omega)) (small.mono ?_))))).mono ?_)).mono ?_)
  · rintro _ _ ⟨rfl, rfl⟩
    exact ⟨_, rfl, rfl, rfl⟩
  · rintro _ _ ⟨rfl, rfl⟩
    exact ⟨_, rfl, rfl, rfl⟩
  · rintro _ _ ⟨rfl, rfl⟩
    exact ⟨_, rfl, rfl, Fr.refl _ _⟩
/-- the text of a sort -/
def srtB (s : Srt) : ByteArray :=
  if s.k = 0 then (ByteArray.mk #[40, 98, 118, 32] ++ dec2 s.n.toNat) ++ ByteArray.mk #[41]
  else if s.k = 1 then (ByteArray.mk #[40, 115, 116, 114, 32] ++ dec2 s.n.toNat) ++ ByteArray.mk #[41]
  else (((ByteArray.mk #[40, 97, 114, if s.k = 2 then 114 else 115, 32] ++ dec2 s.x.toNat) ++ ByteArray.mk #[32]) ++ dec2 s.n.toNat) ++ ByteArray.mk #[41]
/-- what a valid sort has -/
theorem valid_fit {s : Srt} (h : validS s = true) : 0 ≤ s.k ∧ s.k ≤ 3 ∧ 0 ≤ s.n ∧ s.n < 100 ∧ 0 ≤ s.x ∧ s.x < 100 := by
  unfold validS at h
  simp at h
  omega
theorem no_max {a b : ByteArray} (h : a.size + b.size ≤ 1000000) : ¬ (((a.size + b.size : Nat) : Int) > IntKind.i64.max) := by
  show ¬ _ > (9223372036854775807 : Int)
  omega
theorem z_1 (a : UInt8) : (ByteArray.mk #[a]).size = 1 := rfl
theorem z_2 (a b : UInt8) : (ByteArray.mk #[a, b]).size = 2 := rfl
theorem z_3 (a b c : UInt8) : (ByteArray.mk #[a, b, c]).size = 3 := rfl
theorem z_4 (a b c d : UInt8) : (ByteArray.mk #[a, b, c, d]).size = 4 := rfl
theorem z_5 (a b c d e : UInt8) : (ByteArray.mk #[a, b, c, d, e]).size = 5 := rfl
theorem p_sortText {w : World} {s : Srt} (h : validS s = true) : Calls Tryz.prog n_print_sortText #[srtV s] w fun r w' => r = .returned (.string (srtB s)) ∧ Fr0 w w' := by
  obtain ⟨h1, h2, h3, h4, h5, h6⟩ := valid_fit h
  have z1 := dec2_size s.n.toNat
  have z2 := dec2_size s.x.toNat
  refine print_sortText.okT _ _ _ w _ ((lh0 [] (by simp)).newg fun b1 w1 H1 => H1.locg fun w2 H2 => H2.callg (s_Itoa h3 h4) ?_)
  rintro _ w3 rfl H3
  refine ⟨_, rfl, H3.callg (s_Itoa h5 h6) ?_⟩
  rintro _ w4 rfl H4
  refine ⟨_, rfl, sel_eq (fun h => ?_) (fun h0 => sel_eq (fun h => ?_) (fun h1 => sel_eq (fun h => ?_) (fun h2 => ?_)))⟩
  all_goals first
    | refine ⟨no_max ?_, no_max ?_, ?_, H4.fr⟩
    | refine ⟨no_max ?_, no_max ?_, no_max ?_, no_max ?_, ?_, H4.fr⟩
  all_goals first
    | (simp only [size_app, z_1, z_2, z_3, z_4, z_5]; omega)
    | (unfold srtB; simp [*])
theorem c_sort {w : World} {s : Srt} (h : validS s = true) : Calls Tryz.prog n_enthymemeref10_Sort #[srtV s] w fun r w' => r = .returned (.string (srtB s)) ∧ Fr0 w w' := by
  obtain ⟨h1, h2, h3, h4, h5, h6⟩ := valid_fit h
  have z1 := dec2_size s.n.toNat
  have z2 := dec2_size s.x.toNat
  refine enthymemeref10_Sort.okT _ _ _ w _ ((lh0 [] (by simp)).newg fun b1 w1 H1 => H1.nw fun w2 hs H2 => ?_)
  have last : ∀ {w3 : World} {o : ByteArray}, o.size ≤ 10 → (o ++ dec2 s.n.toNat) ++ ByteArray.mk #[41] = srtB s → LH F0 w w3 ([.g b1] ++ [.c w1.heap.size [.string (ByteArray.mk #[98, 118]), .string (ByteArray.mk #[115, 116, 114]), .string (ByteArray.mk #[97, 114, 114]), .string (ByteArray.mk #[97, 114, 115])] ty_string]) [] →
      enthymemeref10_Sort.S1T b1 s.k s.n s.x o w3 fun r w' => r = .returned (.string (srtB s)) ∧ Fr0 w w' := by
    intro w3 o ho he H3
    refine H3.callg (c_dec h3 h4) ?_
    rintro _ w4 rfl H4
    refine ⟨_, rfl, no_max ?_, no_max ?_, by rw [he], H4.fr⟩
    · omega
    · simp only [size_app, z_1, z_2, z_3, z_4, z_5]
      omega
  have hk : s.k = 0 ∨ s.k = 1 ∨ s.k = 2 ∨ s.k = 3 := by omega
  have main : ∀ (k : Nat) (t : ByteArray), s.k = (k : Int) → [ByteArray.mk #[98, 118], ByteArray.mk #[115, 116, 114], ByteArray.mk #[97, 114, 114], ByteArray.mk #[97, 114, 115]][k]? = some t → t.size ≤ 3 →
      (1 < s.k → (((((ByteArray.mk #[40] ++ t) ++ ByteArray.mk #[32]) ++ dec2 s.x.toNat) ++ ByteArray.mk #[32]) ++ dec2 s.n.toNat) ++ ByteArray.mk #[41] = srtB s) →
      (¬ 1 < s.k → (((ByteArray.mk #[40] ++ t) ++ ByteArray.mk #[32]) ++ dec2 s.n.toNat) ++ ByteArray.mk #[41] = srtB s) →
      (0 : Int) ≤ s.k ∧ s.k < ((4 : Nat) : Int) ∧ optP (some (nb w1)) fun p => ∃ t10 : ByteArray, w2.cell? (p.add (Int.toNat s.k * 1)) = some (.string t10) ∧ ¬ ((((ByteArray.mk #[40]).size + t10.size : Nat) : Int) > IntKind.i64.max) ∧ ¬ (((((ByteArray.mk #[40]) ++ t10).size + (ByteArray.mk #[32]).size : Nat) : Int) > IntKind.i64.max) ∧ enthymemeref10_Sort.S0T b1 s.k s.n s.x (((ByteArray.mk #[40]) ++ t10) ++ (ByteArray.mk #[32])) w2 fun r w' => r = .returned (.string (srtB s)) ∧ Fr0 w w' := by
    intro k t hk ht hz e1 e2
    have hl : k < 4 := (List.getElem?_eq_some_iff.1 ht).1
    refine ⟨by omega, by omega, t, ?_, no_max ?_, no_max ?_, ?_⟩
    · rw [hk, Int.toNat_natCast, Nat.mul_one]
      refine H2.ld 1 k rfl ?_
      rcases k with _ | _ | _ | _ | k
      all_goals first
        | (simp at ht; subst ht; rfl)
        | omega
    · simp only [z_1, z_2, z_3, z_4, z_5]
      omega
    · simp only [size_app, z_1, z_2, z_3, z_4, z_5]
      omega
    · refine sel_dec (fun h => ?_) (fun h => ?_)
      · refine H2.callg (c_dec h5 h6) ?_
        rintro _ w4 rfl H4
        refine ⟨_, rfl, no_max ?_, no_max ?_, last ?_ (e1 h) H4⟩
        all_goals (simp only [size_app, z_1, z_2, z_3, z_4, z_5]; omega)
      · refine last ?_ (e2 h) H2
        simp only [size_app, z_1, z_2, z_3, z_4, z_5]
        omega
  have a0 : (ByteArray.mk #[40] ++ ByteArray.mk #[98, 118]) ++ ByteArray.mk #[32] = ByteArray.mk #[40, 98, 118, 32] := by decide
  have a1 : (ByteArray.mk #[40] ++ ByteArray.mk #[115, 116, 114]) ++ ByteArray.mk #[32] = ByteArray.mk #[40, 115, 116, 114, 32] := by decide
  have a2 : (ByteArray.mk #[40] ++ ByteArray.mk #[97, 114, 114]) ++ ByteArray.mk #[32] = ByteArray.mk #[40, 97, 114, 114, 32] := by decide
  have a3 : (ByteArray.mk #[40] ++ ByteArray.mk #[97, 114, 115]) ++ ByteArray.mk #[32] = ByteArray.mk #[40, 97, 114, 115, 32] := by decide
  rcases hk with h | h | h | h
  · exact main 0 _ h rfl (by decide) (fun h' => by omega) (fun _ => by rw [a0]; unfold srtB; simp [h])
  · exact main 1 _ h rfl (by decide) (fun h' => by omega) (fun _ => by rw [a1]; unfold srtB; simp [h])
  · exact main 2 _ h rfl (by decide) (fun _ => by rw [a2]; unfold srtB; simp [h]) (fun h' => by omega)
  · exact main 3 _ h rfl (by decide) (fun _ => by rw [a3]; unfold srtB; simp [h]) (fun h' => by omega)
/-- what Sort returns on both sides -/
def srtOut (s : Srt) : Value := .tuple #[.string (if validS s then srtB s else ByteArray.mk #[]), .i (sortE s)]
theorem p_Sort (s : Srt) (w : World) : Calls Tryz.prog n_print_Sort #[srtV s] w fun r w' => r = .returned (srtOut s) ∧ Fr0 w w' := by
  refine print_Sort.okT _ _ _ w _ ((lh0 [] (by simp)).newg fun b1 w1 H1 => H1.callg (t_ValidSort s _) ?_)
  rintro _ w2 rfl H2
  refine ⟨_, rfl, ?_⟩
  cases hv : validS s with
  | false => exact sel_true (by unfold sortE; rw [hv]; rfl) ⟨by unfold srtOut; rw [hv]; rfl, H2.fr⟩
  | true =>
    refine sel_false (by unfold sortE; rw [hv]; rfl) (H2.callg (p_sortText hv) ?_)
    rintro _ w3 rfl H3
    exact ⟨_, rfl, by unfold srtOut sortE; rw [hv]; rfl, H3.fr⟩
theorem c_Sort (s : Srt) (w : World) : Calls Tryz.prog n_enthymemeref11_Sort #[srtV s] w fun r w' => r = .returned (srtOut s) ∧ Fr0 w w' := by
  refine enthymemeref11_Sort.okT _ _ _ w _ ((lh0 [] (by simp)).newg fun b1 w1 H1 => H1.callg (r_ValidSort s _) ?_)
  rintro _ w2 rfl H2
  refine ⟨_, rfl, ?_⟩
  cases hv : validS s with
  | false => exact sel_true (by unfold sortE; rw [hv]; rfl) ⟨by unfold srtOut; rw [hv]; rfl, H2.fr⟩
  | true =>
    refine sel_false (by unfold sortE; rw [hv]; rfl) (H2.callg (c_sort hv) ?_)
    rintro _ w3 rfl H3
    exact ⟨_, rfl, by unfold srtOut sortE; rw [hv]; rfl, H3.fr⟩
end Go.Proofs.YtnpkhgljhcnpcaaGreatDoor
set_option maxRecDepth 100000
set_option maxHeartbeats 1000000
namespace Go.Proofs.YtnpkhgljhcnpcaaGreatDoor
open Go Go.W

/-! ### Plain: lengths and depths -/
def atN (l : List Nat) (k : Int) : Nat := l.getD k.toNat 0
def sumK (l : List Nat) (kids : List Int) : Nat := (kids.map (atN l)).sum
def maxK (l : List Nat) (kids : List Int) : Nat := (kids.map (atN l)).foldl max 0
def capN (n : Nat) : Nat := min n 65537
def len1 (h : ByteArray) (kids : List Int) (ls : List Nat) : Nat := capN (h.size + kids.length + sumK ls kids + if kids = [] then 0 else 1)
def dep1 (op : Int) (kids : List Int) (ds : List Nat) : Nat := if op = 3 then 1 else if kids = [] then 0 else maxK ds kids + 1
theorem sumK_snoc (l : List Nat) (a : List Int) (k : Int) : sumK l (a ++ [k]) = sumK l a + atN l k := by unfold sumK; simp
theorem maxK_snoc (l : List Nat) (a : List Int) (k : Int) : maxK l (a ++ [k]) = max (maxK l a) (atN l k) := by unfold maxK; simp
theorem cap_cap (a b : Nat) : capN (capN a + b) = capN (a + b) := by unfold capN; omega
theorem cap_int (n : Nat) : (if (65537 : Int) < (n : Int) then 65537 else (n : Int)) = ((capN n : Nat) : Int) := by
  unfold capN
  split <;> omega
theorem cap_le (n : Nat) : capN n ≤ 65537 := Nat.min_le_right _ _
theorem atN_get {l : List Nat} {k : Int} {i n : Nat} (hk : k = (i : Int)) (h : l[i]? = some n) : atN l k = n := by
  subst hk
  unfold atN
  rw [Int.toNat_natCast, List.getD_eq_getElem?_getD, h]
  rfl
theorem atN_le {l : List Nat} {m : Nat} (h : ∀ x ∈ l, x ≤ m) (k : Int) : atN l k ≤ m := by
  unfold atN
  rw [List.getD_eq_getElem?_getD]
  cases hg : l[k.toNat]? with
  | none => exact Nat.zero_le _
  | some x => exact h x (List.mem_of_getElem? hg)
theorem maxK_le {l : List Nat} {m : Nat} (h : ∀ x ∈ l, x ≤ m) (kids : List Int) : maxK l kids ≤ m := by
  unfold maxK
  have : ∀ (ks : List Int) (a : Nat), a ≤ m → (ks.map (atN l)).foldl max a ≤ m := by
    intro ks
    induction ks with
    | nil => intro a ha; exact ha
    | cons k ks ih => intro a ha; exact ih _ (Nat.max_le.2 ⟨ha, atN_le h k⟩)
  exact this kids 0 (Nat.zero_le _)
/-! ### What a printer holds -/
abbrev natV (n : Nat) : Value := .int .i64 (n : Int)
abbrev PrL (b : Nat) (g sh sl sd : Sl) (m : Option Nat) (sr : Sl) (hs : List ByteArray) (ls ds : List Nat) : List En :=
  [.c b [g.v, sh.v, sl.v, sd.v, .map m, sr.v] ty_print_printer, .row ty_string 1 sh (hs.map Value.string), .row ty_int 1 sl (ls.map natV), .row ty_int 1 sd (ds.map natV)]
def PrRep (w : World) (b : Nat) (g : Sl) (hs : List ByteArray) (ls ds : List Nat) (own : List Nat) : Prop := ∃ (sh sl sd : Sl) (m : Option Nat) (sr : Sl), own = (PrL b g sh sl sd m sr hs ls ds).flatMap (·.fp) ∧ own.Nodup ∧ ∀ e ∈ PrL b g sh sl sd m sr hs ls ds, e.P w
def PrAt (w : World) (b : Nat) (g : Sl) (own : List Nat) (hs : List ByteArray) (ls ds : List Nat) (w' : World) : Prop := ∃ own', PrRep w' b g hs ls ds own' ∧ Fr (· ∈ own) w w' ∧ ∀ x ∈ own', x ∈ own ∨ w.heap.size ≤ x
theorem PrRep.open {w : World} {b : Nat} {g : Sl} {hs : List ByteArray} {ls ds : List Nat} {own : List Nat} (h : PrRep w b g hs ls ds own) (D : List En) (hD : ∀ e ∈ D, e.P w ∧ ∀ b ∈ e.fp, b ∉ own) :
    ∃ (sh sl sd : Sl) (m : Option Nat) (sr : Sl), LH (· ∈ own) w w (PrL b g sh sl sd m sr hs ls ds) D := by
  obtain ⟨sh, sl, sd, m, sr, ho, hn, hP⟩ := h
  have hin : ∀ e ∈ PrL b g sh sl sd m sr hs ls ds, ∀ x ∈ e.fp, x ∈ own := fun e he b hb => by rw [ho]; exact List.mem_flatMap.2 ⟨e, he, hb⟩
  exact ⟨sh, sl, sd, m, sr, LH.start' _ _ (fun e he => ⟨hP e he, hin e he⟩) (ho ▸ hn) (fun e he => ⟨(hD e he).1, fun b hb e' he' hm => (hD e he).2 b hb (hin e' he' b hm)⟩)⟩
theorem PrRep.close {w w' : World} {b : Nat} {g : Sl} {hs : List ByteArray} {ls ds : List Nat} {own : List Nat} {sh sl sd : Sl} {m : Option Nat} {sr : Sl} {D : List En} (H : LH (· ∈ own) w w' (PrL b g sh sl sd m sr hs ls ds) D) : PrAt w b g own hs ls ds w' :=
  ⟨_, ⟨sh, sl, sd, m, sr, rfl, H.nd, H.own⟩, H.fr, fun x hx => by
    obtain ⟨e, he, hb⟩ := List.mem_flatMap.1 hx
    exact (H.new e he x hb).symm⟩
/-- a row of one cell an element -/
theorem row_at {w : World} {e : TypeId} {s : Sl} {vs : List Value} (h : OwnRow w e 1 s vs) {X : Int} {i : Nat} (hX : X = (i : Int)) {v : Value} (hi : vs[i]? = some v) {K : Addr → Prop} (hk : ∀ p, s.a = some p → w.cell? (p.add (Int.toNat X * 1)) = some v → K p) :
    (0 : Int) ≤ X ∧ X < ((s.n : Nat) : Int) ∧ optP s.a K := by
  have hn := h.len
  have hl := (List.getElem?_eq_some_iff.1 hi).1
  subst hX
  exact ⟨by omega, by omega, Rd.get h.rd1 (i := i) (v := v) hi (by simp) hk⟩
/-! ### measure -/
section
variable {M : Nat → Prop} {w0 w : World} {L D : List En} {bs : List Nat}
/-- a part is counted -/
theorem m_count {w : World} {c : Nat} {vs : List Value} (hc : w.heap[c]? = some (.cells vs.toArray ty_4_int (0, 0))) {k a n : Nat} (hk : k < 4) (hv : vs[k]? = some (natV a)) (ha : a ≤ 100000) (hn : n ≤ 1000000) :
    Calls Tryz.prog n_print_printer_measure_1 #[.i (k : Int), .i (n : Int), .pointer (some (at0 c))] w fun r w' => r = .returned (.tuple #[]) ∧ w'.heap[c]? = some (.cells (vs.set k (natV (capN (a + n)))).toArray ty_4_int (0, 0)) ∧ Fr (· = c) w w' := by
  have hx : w.cell? ((at0 c).add (Int.toNat (k : Int) * 1)) = some (natV a) := by
    rw [Int.toNat_natCast, Nat.mul_one]
    exact cellAt (p := at0 c) hc rfl (by simpa using hv)
  have e : IntKind.wrap .i64 ((a : Int) + (n : Int)) = ((a + n : Nat) : Int) := by rw [IntWalk.i64_in _ (by omega)]; omega
  obtain ⟨x1, x2, x3, x4⟩ := set_c hc k (by simpa using (List.getElem?_eq_some_iff.1 hv).1) (natV (capN (a + n)))
  refine print_printer_measure_1.ok _ _ _ w _ ⟨by omega, by omega, a, hx, print_capped.ok _ w _ ⟨_, rfl, by omega, by omega, ?_⟩⟩
  rw [e, cap_int, Int.toNat_natCast, Nat.mul_one]
  exact ⟨x1, x2, rfl, by simpa using x3, x4.mono fun x _ hx => by simpa [En.ob] using hx⟩
theorem _root_.Go.W.LH.cnt (H : LH M w0 w L D) (i : Nat) {c : Nat} {vs : List Value} (hi : L[i]? = some (.c c vs ty_4_int)) {k a n : Nat} (hk : k < 4) (hv : vs[k]? = some (natV a)) (ha : a ≤ 100000) (hn : n ≤ 1000000) {K : Post}
    (hK : ∀ w', LH M w0 w' (L.set i (.c c (vs.set k (natV (capN (a + n)))) ty_4_int)) D → K (.returned (.tuple #[])) w') : Calls Tryz.prog n_print_printer_measure_1 #[.i (k : Int), .i (n : Int), .pointer (some (at0 c))] w K :=
  (m_count (H.ob i hi) hk hv ha hn).mono fun r w' ⟨hr, h, f⟩ => by
    subst hr
    exact hK w' (H.upd i _ hi (f.mono fun x _ e => by simp [En.ob, e]) h fun b hb => .inl hb)
theorem _root_.Go.W.LH.cntF (H : LH M w0 w L D) (i : Nat) {c : Nat} {vs : List Value} (hi : L[i]? = some (.c c vs ty_4_int)) {k a n : Nat} (hk : k < 4) (hv : vs[k]? = some (natV a)) (ha : a ≤ 100000) (hn : n ≤ 1000000) {K : Post}
    (hK : ∀ w', LH M w0 w' (L.set i (.c c (vs.set k (natV (capN (a + n)))) ty_4_int)) D → K (.returned (.tuple #[])) w') (hbs : ∀ b ∈ bs, En.g b ∈ L := by simp) : callF bs Tryz.prog n_print_printer_measure_1 #[.i (k : Int), .i (n : Int), .pointer (some (at0 c))] w K :=
  ⟨(· = c), fun b hb hm => ghost_off H hi (c_off w c vs ty_4_int) (hbs b hb) (by simp [En.ob, hm]), (m_count (H.ob i hi) hk hv ha hn).mono fun r w' ⟨hr, h, f⟩ => by
    subst hr
    exact ⟨f, hK w' (H.upd i _ hi (f.mono fun x _ e => by simp [En.ob, e]) h fun b hb => .inl hb)⟩⟩
end
theorem st_plain {w : World} {p : Addr} {v : Value} {K : World → Prop} (h : stV w p v fun w1 => kept [] w w1 ∧ K w1) : stV w p v K := ⟨h.1, h.2.1, h.2.2.2⟩
section
variable {w w2 : World} {own : List Nat} {b c i : Nat} {g sh sl sd sr : Sl} {m : Option Nat} {hs : List ByteArray} {ls ds : List Nat} {D : List En}
/-- a number is stored in a row of the printer -/
theorem m_storeK {M : Nat → Prop} {w0 : World} {L : List En} {bs : List Nat} (H : LH M w0 w2 L D) (j : Nat) {s : Sl} {l : List Nat} (hj : L[j]? = some (.row ty_int 1 s (l.map natV))) (hi : i < l.length) {n : Nat} {K : World → Prop}
    (hK : ∀ w', LH M w0 w' (L.set j (.row ty_int 1 s ((l.set i n).map natV))) D → K w') (hbs : ∀ b ∈ bs, En.g b ∈ L := by simp) : (0 : Int) ≤ (i : Int) ∧ (i : Int) < ((s.n : Nat) : Int) ∧ optP s.a fun p => stV w2 (p.add (Int.toNat (i : Int) * 1)) (natV n) fun w' => kept bs w2 w' ∧ K w' := by
  refine row_at (H.get j hj) rfl (v := natV l[i]) (by simp [hi]) fun p hp hc => ?_
  rw [Int.toNat_natCast, Nat.mul_one]
  refine H.st1 j i hj hp (by simpa using hi) (fun w' H' => hK w' ?_) hbs
  rw [List.map_set]
  exact H'
theorem m_store {M : Nat → Prop} {w0 : World} {L : List En} (H : LH M w0 w2 L D) (j : Nat) {s : Sl} {l : List Nat} (hj : L[j]? = some (.row ty_int 1 s (l.map natV))) (hi : i < l.length) {n : Nat} {K : World → Prop}
    (hK : ∀ w', LH M w0 w' (L.set j (.row ty_int 1 s ((l.set i n).map natV))) D → K w') : (0 : Int) ≤ (i : Int) ∧ (i : Int) < ((s.n : Nat) : Int) ∧ optP s.a fun p => stV w2 (p.add (Int.toNat (i : Int) * 1)) (natV n) K := by
  obtain ⟨h1, h2, h3⟩ := m_storeK (bs := []) H j hj hi hK (by simp)
  exact ⟨h1, h2, by
    cases hs : s.a with
    | none => rw [hs] at h3; exact h3
    | some p => rw [hs] at h3; exact st_plain h3⟩
theorem m_fin {b5 a0 a1 a2 a3 : Nat} (H : LH (· ∈ own) w w2 (PrL b g sh sl sd m sr hs ls ds ++ [.g b5] ++ [.c c [natV a0, natV a1, natV a2, natV a3] ty_4_int]) D) (hi : i < ls.length) (h0 : a0 ≤ 65537) (h1 : a1 ≤ 65537) (h2 : a2 ≤ 65537) (h3 : a3 ≤ 65537) :
    print_printer_measure.S0T (at0 b) (i : Int) (at0 c) w2 fun r w' => r = .returned (.tuple #[]) ∧ PrAt w b g own hs (ls.set i (capN (a0 + a1 + a2 + a3))) ds w' := by
  have e : ∀ x y : Nat, x ≤ 65537 → y ≤ 65537 → IntKind.wrap .i64 ((x : Int) + (y : Int)) = ((x + y : Nat) : Int) := fun x y hx hy => by rw [IntWalk.i64_in _ (by omega)]; omega
  have n : ∀ k : Nat, k < 10 → IntKind.wrap .i64 ((k : Int) + 1) = ((k + 1 : Nat) : Int) := fun k hk => i64_next k (by omega)
  have step : ∀ (k s a : Nat) (K : Post), k < 4 → s ≤ 65537 → a ≤ 65537 → (#[natV a0, natV a1, natV a2, natV a3] : Array Value)[k]? = some (natV a) →
      print_printer_measure.L1T (at0 b) (i : Int) ((capN (s + a) : Nat) : Int) a0 a1 a2 a3 ((k + 1 : Nat) : Int) w2 K → print_printer_measure.L1T (at0 b) (i : Int) (s : Int) a0 a1 a2 a3 (k : Int) w2 K := by
    intro k s a K hk hs ha hg hn
    refine print_printer_measure.L1T_step _ _ _ _ _ _ _ _ _ _ (sel_true (decide_eq_true (by omega)) ⟨by omega, by omega, a, by rw [Int.toNat_natCast]; exact hg, print_capped.ok _ _ _ ⟨_, rfl, ?_⟩⟩)
    rw [e s a hs ha, cap_int, n k (by omega)]
    exact hn
  have hc := fun x => cap_le x
  refine ⟨a0, a1, a2, a3, H.ld 5 0, H.ld 5 1, H.ld 5 2, H.ld 5 3, ?_⟩
  refine step 0 0 a0 _ (by omega) (by omega) h0 rfl (step 1 _ a1 _ (by omega) (hc _) h1 rfl (step 2 _ a2 _ (by omega) (hc _) h2 rfl (step 3 _ a3 _ (by omega) (hc _) h3 rfl ?_)))
  have hz : capN (capN (capN (capN (0 + a0) + a1) + a2) + a3) = capN (a0 + a1 + a2 + a3) := by
    rw [cap_cap, cap_cap, show 0 + a0 = a0 by omega]
    unfold capN
    omega
  rw [hz]
  refine print_printer_measure.L1T_step _ _ _ _ _ _ _ _ _ _ (sel_false (decide_eq_false (by omega)) ⟨sl, H.ld 0 2, m_store H 2 rfl hi fun w3 H3 => ⟨rfl, ?_⟩⟩)
  exact PrRep.close (H3.take 4)
theorem m_loop {b5 h : Nat} {d : Nd} (hh : h ≤ 65537) (hi : i < ls.length) (hdi : i < ds.length) (hk : ∀ k ∈ d.x.kids, 0 ≤ k ∧ k < (ls.length : Int)) (hdl : ds.length = ls.length) (hkl : d.x.kids.length ≤ 1000) (hls : ∀ x ∈ ls, x ≤ 65537) (hds : ∀ x ∈ ds, x ≤ 1000000) :
    ∀ (r pre : List Int) (w2 : World), d.x.kids = pre ++ r → LH (· ∈ own) w w2 (PrL b g sh sl sd m sr hs ls ds ++ [.g b5] ++ [.c c [natV h, natV (capN pre.length), natV (capN (sumK ls pre)), natV 0] ty_4_int]) [kidE d] →
      print_printer_measure.L2T (at0 b) (i : Int) (at0 c) (at0 c) ((maxK ds pre : Nat) : Int) d.ks ((d.ks.n : Nat) : Int) ((pre.length : Nat) : Int) w2 fun r w' => r = .returned (.tuple #[]) ∧ PrAt w b g own hs (ls.set i (capN (h + capN d.x.kids.length + capN (sumK ls d.x.kids) + 1))) (ds.set i (maxK ds d.x.kids + 1)) w' := by
  intro r
  induction r with
  | nil =>
    intro pre w2 hp H
    rw [List.append_nil] at hp
    subst hp
    have hn : d.ks.n = d.x.kids.length := by have h0 : (kidE d).P w2 := H.getD 0; simpa using h0.1
    have hm := maxK_le hds d.x.kids
    refine print_printer_measure.L2T_step _ _ _ _ _ _ _ _ _ _ (sel_false (decide_eq_false (by omega)) (H.cnt (k := 3) (a := 0) (n := 1) 5 rfl (by omega) rfl (by omega) (by omega) fun w3 H3 => ⟨rfl, sd, H3.ld 0 3, ?_⟩))
    have e : IntKind.wrap .i64 (((maxK ds d.x.kids : Nat) : Int) + 1) = ((maxK ds d.x.kids + 1 : Nat) : Int) := i64_next _ (by omega)
    rw [e]
    refine m_store H3 3 rfl hdi fun w4 H4 => ?_
    have c1 := cap_le d.x.kids.length
    have c2 := cap_le (sumK ls d.x.kids)
    exact m_fin (a3 := capN (0 + 1)) H4 hi hh c1 c2 (by decide)
  | cons k r ih =>
    intro pre w2 hp H
    have hn : d.ks.n = d.x.kids.length := by have h0 : (kidE d).P w2 := H.getD 0; simpa using h0.1
    have hg : d.x.kids[pre.length]? = some k := by rw [hp]; simp
    have hpl : pre.length < d.x.kids.length := (List.getElem?_eq_some_iff.1 hg).1
    obtain ⟨k0, k1⟩ := hk k (List.mem_of_getElem? hg)
    obtain ⟨j, rfl⟩ := Int.eq_ofNat_of_zero_le k0
    have hj1 : ls[j]? = some (atN ls (j : Int)) := by
      have h := List.getElem?_eq_getElem (l := ls) (i := j) (by omega)
      rw [atN_get rfl h]; exact h
    have hj2 : ds[j]? = some (atN ds (j : Int)) := by
      have h := List.getElem?_eq_getElem (l := ds) (i := j) (by omega)
      rw [atN_get rfl h]; exact h
    have b1 := atN_le hls (j : Int)
    have b2 := atN_le hds (j : Int)
    have c1 := cap_le pre.length
    have c2 := cap_le (sumK ls pre)
    refine print_printer_measure.L2T_step _ _ _ _ _ _ _ _ _ _ (sel_true (decide_eq_true (by omega)) ⟨by omega, by omega, Nums.cell (H.getD 0) hg (by simp) fun p hp' hc => ⟨_, hc, H.cnt (k := 1) (n := 1) 5 rfl (by omega) rfl (by omega) (by omega) fun w3 H3 => ⟨rfl, sl, H3.ld 0 2, row_at (H3.get 2) rfl (v := natV (atN ls (j : Int))) (by simp [hj1]) fun p2 _ hc2 => ⟨_, hc2, H3.cnt (k := 2) 5 rfl (by omega) rfl (by omega) (by omega) fun w4 H4 => ⟨rfl, sd, H4.ld 0 3, row_at (H4.get 3) rfl (v := natV (atN ds (j : Int))) (by simp [hj2]) fun p3 _ hc3 => ⟨_, hc3, ?_⟩⟩⟩⟩⟩⟩)
    have em : (if ((maxK ds pre : Nat) : Int) < ((atN ds (j : Int) : Nat) : Int) then ((atN ds (j : Int) : Nat) : Int) else ((maxK ds pre : Nat) : Int)) = ((maxK ds (pre ++ [(j : Int)]) : Nat) : Int) := by
      rw [maxK_snoc]
      split <;> omega
    rw [em]
    show print_printer_measure.L2T _ _ _ _ _ _ _ (IntKind.wrap .i64 (((pre.length : Nat) : Int) + 1)) _ _
    rw [i64_next _ (by omega)]
    have := ih (pre ++ [(j : Int)]) w4 (by rw [hp]; simp) (by
      rw [sumK_snoc, List.length_append, ← cap_cap (sumK ls pre), ← cap_cap pre.length]
      exact H4)
    rw [List.length_append] at this
    exact this
theorem c_measure {t : ByteArray} {d : Nd} (h : PrRep w b g hs ls ds own) (hd : d.P w) (hoff : ∀ x ∈ (kidE d).fp, x ∉ own) (hk : ∀ k ∈ d.x.kids, 0 ≤ k ∧ k < (ls.length : Int)) (hi : hs[i]? = some t) (hl : ls.length = hs.length) (hdl : ds.length = hs.length) (hd0 : ds[i]? = some 0)
    (h3 : d.x.op = 3 → d.x.kids = []) (ht : t.size ≤ 1000000) (hkl : d.x.kids.length ≤ 1000) (hls : ∀ x ∈ ls, x ≤ 65537) (hds : ∀ x ∈ ds, x ≤ 1000000) :
    Calls Tryz.prog n_print_printer_measure #[.pointer (some (at0 b)), .i (i : Int), d.v] w fun r w' => r = .returned (.tuple #[]) ∧ PrAt w b g own hs (ls.set i (len1 t d.x.kids ls)) (ds.set i (dep1 d.x.op d.x.kids ds)) w' := by
  have hil : i < hs.length := (List.getElem?_eq_some_iff.1 hi).1
  have hn : d.ks.n = d.x.kids.length := by simpa using hd.1
  obtain ⟨sh, sl, sd, m, sr, H⟩ := h.open [kidE d] (by
    intro e he
    simp only [List.mem_cons, List.not_mem_nil, or_false] at he
    subst he
    exact ⟨hd, hoff⟩)
  refine print_printer_measure.okT _ _ _ _ _ _ _ _ _ _ _ w _ (H.newg fun b5 w1 H1 => H1.nw fun w2 hs2 H2 => ⟨sh, H2.ld 0 1, row_at (H2.get 1) rfl (v := .string t) (by simp [hi]) fun p hp hc => ⟨t, hc, H2.cntF (k := 0) (a := 0) (n := t.size) 5 rfl (by omega) rfl (by omega) ht fun w3 H3 => ⟨rfl, ?_⟩⟩⟩)
  have H3 : LH (· ∈ own) w w3 (PrL b g sh sl sd m sr hs ls ds ++ [.g b5] ++ [.c w1.heap.size [natV (capN t.size), natV 0, natV 0, natV 0] ty_4_int]) [kidE d] := by
    have e : 0 + t.size = t.size := by omega
    rw [e] at H3
    exact H3
  have hcs := cap_le t.size
  have same : ds.set i 0 = ds := by
    have e0 : ds[i]'(by omega) = 0 := by
      have := List.getElem?_eq_getElem (l := ds) (i := i) (by omega)
      rw [this] at hd0
      simpa using hd0
    conv => lhs; rw [← e0]
    exact List.set_getElem_self _
  show sel (d.x.op == 3) _ _
  refine sel_eq (fun h => ?_) (fun h => sel_dec (fun hp => ?_) (fun hp => ?_))
  · have hk0 := h3 h
    refine ⟨sd, H3.ld 0 3, m_storeK H3 3 rfl (n := 1) (by omega) fun w4 H4 => ?_⟩
    have := m_fin (i := i) (ds := ds.set i 1) H4 (by omega) hcs (by omega) (by omega) (by omega)
    rw [show capN (capN t.size + 0 + 0 + 0) = len1 t d.x.kids ls by unfold len1 sumK; rw [hk0]; unfold capN; simp] at this
    rw [show dep1 d.x.op d.x.kids ds = 1 by unfold dep1; rw [if_pos h]]
    exact this
  · have hk0 : d.x.kids ≠ [] := fun e => by rw [e] at hn; simp at hn; omega
    have := m_loop (h := capN t.size) hcs (i := i) (by omega) (by omega) hk (by omega) hkl hls hds d.x.kids [] w3 rfl H3
    rw [show capN (capN t.size + capN d.x.kids.length + capN (sumK ls d.x.kids) + 1) = len1 t d.x.kids ls by unfold len1; rw [if_neg hk0]; unfold capN; omega] at this
    rw [show dep1 d.x.op d.x.kids ds = maxK ds d.x.kids + 1 by unfold dep1; rw [if_neg h, if_neg hk0]]
    exact this
  · have hk0 : d.x.kids = [] := List.eq_nil_of_length_eq_zero (by omega)
    have := m_fin (i := i) H3 (by omega) hcs (by omega) (by omega) (by omega)
    rw [show capN (capN t.size + 0 + 0 + 0) = len1 t d.x.kids ls by unfold len1 sumK; rw [hk0]; unfold capN; simp] at this
    rw [show dep1 d.x.op d.x.kids ds = 0 by unfold dep1; rw [if_neg h, if_pos hk0], same]
    exact this
end
end Go.Proofs.YtnpkhgljhcnpcaaGreatDoor
set_option maxRecDepth 100000
set_option maxHeartbeats 1000000
namespace Go.Proofs.YtnpkhgljhcnpcaaGreatDoor
open Go Go.W

theorem el_str : ElemOk Tryz.prog ty_sl_string ty_string (.string (ByteArray.mk #[])) 1 16 := ⟨by kernel_rfl, by kernel_rfl, rfl, by decide, by decide⟩
def nwTab : List (Op × Option Nat × TypeId × List Nat) := [
  (.load ty_term_Graph (.tmp 1), some 11, ty_term_Graph, []),
  (.move (.tmp 3), some 12, ty_int, []),
  (.makeSlice ty_sl_string (.tmp 12) (.tmp 12), some 13, ty_sl_string, [1, 1]),
  (.move (.tmp 3), some 14, ty_int, []),
  (.makeSlice ty_sl_int (.tmp 14) (.tmp 14), some 15, ty_sl_int, [3, 3]),
  (.move (.tmp 3), some 16, ty_int, []),
  (.makeSlice ty_sl_int (.tmp 16) (.tmp 16), some 17, ty_sl_int, [5, 5]),
  (.makeMap ty_map_string_bool none, some 18, ty_map_string_bool, []),
  (.move (.tmp 3), some 19, ty_int, []),
  (.makeSlice ty_sl_bool (.tmp 19) (.tmp 19), some 20, ty_sl_bool, [8, 8]),
  (.build ty_print_printer #[(0, .tmp 11), (1, .tmp 13), (2, .tmp 15), (3, .tmp 17), (4, .tmp 18), (5, .tmp 20)], some 21, ty_print_printer, [0, 2, 4, 6, 7, 9]),
  (.box ty_print_printer (.tmp 21), some 22, ty_p_print_printer, [10]),
  (.assign (.tmp 22), some 4, ty_p_print_printer, [11, 0, 1, 2, 3, 4, 5, 6, 7, 8, 9, 10, 11])]
section
variable {P : Program} {K : Env → World → Prop} {E : Env} {w : World}
theorem st_make {o : Oper} {T : TypeId} {t : Nat} {n : Int} (ho : o.op = .makeSlice T (.tmp t) (.tmp t)) (ht : E.get? t = some (.i n)) {s : Sl} {w' : World} (hr : (Instr.makeSlice T (.i n) (.i n)).run P w = .ok s.v w') (h : K (E.put o.dst s.v) w') : stepI P o E w K := by
  obtain ⟨dst, op, ty, pos, after, guard⟩ := o
  simp only at ho
  subst ho
  show (match E.val (.tmp t), E.val (.tmp t) with | some l, some c => doVC P (Instr.makeSlice T l c) (.slice none 0 0) w (fun v w' => K (E.put dst v) w') | _, _ => False)
  rw [show E.val (.tmp t) = some (.i n) from ht]
  exact ⟨s, w', hr, h⟩
theorem st_box {o : Oper} {T : TypeId} {t : Nat} {cs : Array Value} (ho : o.op = .box T (.tmp t)) (ht : E.get? t = some (.agg cs)) (h : K (E.put o.dst (.pointer (some (at0 w.heap.size)))) (w.alloc (.cells cs T))) : stepI P o E w K := by
  obtain ⟨dst, op, ty, pos, after, guard⟩ := o
  simp only at ho
  subst ho
  have hv : E.val (.tmp t) = some (.agg cs) := ht
  have hc : E.covers ⟨dst, .box T (.tmp t), ty, pos, after, guard⟩ = true := by simp [Env.covers, Op.operands, hv]
  have ev : E.ev (.tmp t) = .agg cs := by simp [Env.ev, hv]
  have he : evalVC P ⟨dst, .box T (.tmp t), ty, pos, after, guard⟩ E w (fun v w' => K (E.put dst v) w') := by
    unfold evalVC
    rw [hc]
    show (match (execOp E.ev ⟨dst, .box T (.tmp t), ty, pos, after, guard⟩).run P w with | .ok (.value v) w' => K (E.put dst v) w' | .ok .skip w' => K (E.put dst undef) w' | _ => False)
    have : (execOp E.ev ⟨dst, .box T (.tmp t), ty, pos, after, guard⟩).run P w = .ok (.value (.pointer (some (at0 w.heap.size)))) (w.alloc (.cells cs T)) := by
      show (do pure (Next.value (← Instr.box T (E.ev (.tmp t)))) : Sem _).run P w = _
      rw [ev]
      rfl
    rw [this]
    exact h
  unfold stepI
  simp only [calm, cond_false]
  unfold effVC
  exact he
end
theorem st_bld {K : Env → World → Prop} {E : Env} {w : World} {o : Oper} (ho : o.op = .build ty_print_printer #[(0, .tmp 11), (1, .tmp 13), (2, .tmp 15), (3, .tmp 17), (4, .tmp 18), (5, .tmp 20)]) {g a b c d : Sl} {m : Option Nat}
    (h0 : E.get? 11 = some (.agg #[g.v])) (h1 : E.get? 13 = some a.v) (h2 : E.get? 15 = some b.v) (h3 : E.get? 17 = some c.v) (h4 : E.get? 18 = some (.map m)) (h5 : E.get? 20 = some d.v) (h : K (E.put o.dst (.agg #[g.v, a.v, b.v, c.v, .map m, d.v])) w) : stepI Tryz.prog o E w K := by
  obtain ⟨dst, op, ty, pos, after, guard⟩ := o
  simp only at ho
  subst ho
  show pureVC Tryz.prog _ E (fun v _ => K (E.put dst v) w)
  unfold pureVC
  have hc : E.covers ⟨dst, .build ty_print_printer #[(0, .tmp 11), (1, .tmp 13), (2, .tmp 15), (3, .tmp 17), (4, .tmp 18), (5, .tmp 20)], ty, pos, after, guard⟩ = true := by simp [Env.covers, Op.operands, Env.val, h0, h1, h2, h3, h4, h5]
  rw [hc]
  have e : ∀ {t : Nat} {v : Value}, E.get? t = some v → E.ev (.tmp t) = v := fun h => by simp [Env.ev, Env.val, h]
  have hr : pureRun Tryz.prog (execOp E.ev ⟨dst, .build ty_print_printer #[(0, .tmp 11), (1, .tmp 13), (2, .tmp 15), (3, .tmp 17), (4, .tmp 18), (5, .tmp 20)], ty, pos, after, guard⟩) = some (Next.value (.agg #[g.v, a.v, b.v, c.v, .map m, d.v])) := by
    show pureRun Tryz.prog (do pure (Next.value (← Instr.build ty_print_printer (#[(0, .tmp 11), (1, .tmp 13), (2, .tmp 15), (3, .tmp 17), (4, .tmp 18), (5, .tmp 20)].map fun (i, x) => (i, E.ev x))))) = _
    simp only [List.map_toArray, List.map_cons, List.map_nil, e h0, e h1, e h2, e h3, e h4, e h5]
    kernel_rfl
  rw [hr]
  exact h
/-! ### The invariant -/
def asl (n : Nat) (f : Nat → Nat) (i : Nat) : Sl := ⟨some (at0 (f i)), n, n⟩
def nEnt (n : Nat) (f : Nat → Nat) (i : Nat) : En :=
  if i = 2 then .row ty_string 1 (asl n f i) ((List.replicate n (ByteArray.mk #[])).map Value.string) else if i = 4 ∨ i = 6 then .row ty_int 1 (asl n f i) ((List.replicate n 0).map natV)
  else if i = 7 then .ob (f i) (.map #[] 0) else boolR (asl n f i) (List.replicate n false)
def nVal (n : Nat) (f : Nat → Nat) (i : Nat) : Value := if i = 7 then .map (some (f i)) else (asl n f i).v
def nDst (i : Nat) : Nat := if i = 2 then 13 else if i = 4 then 15 else if i = 6 then 17 else if i = 7 then 18 else 20
abbrev nAll : List Nat := [2, 4, 6, 7, 9]
abbrev nCell (g : Sl) (n : Nat) (f : Nat → Nat) : List Value := [g.v, (asl n f 2).v, (asl n f 4).v, (asl n f 6).v, .map (some (f 7)), (asl n f 9).v]
def nT (b1 : Nat) (g : Sl) (n : Nat) : List (Nat × Nat × Value) := [(0, 1, ptr b1), (0, 3, natV n), (1, 11, .agg #[g.v]), (2, 12, natV n), (4, 14, natV n), (6, 16, natV n), (9, 19, natV n)]
theorem nDst_in {j : Nat} (h : j ∈ nAll) : nDst j ∈ [13, 15, 17, 18, 20] := by
  simp at h
  rcases h with rfl | rfl | rfl | rfl | rfl <;> simp [nDst]
theorem nDst_inj {i j : Nat} (hi : i ∈ nAll) (hj : j ∈ nAll) (h : nDst i = nDst j) : i = j := by
  simp at hi hj
  rcases hi with rfl | rfl | rfl | rfl | rfl <;> rcases hj with rfl | rfl | rfl | rfl | rfl <;> first | rfl | (simp [nDst] at h)
structure NJ (w0 : World) (b1 : Nat) (g : Sl) (n : Nat) (D : List En) (L : Nat → Bool) (E : Env) (w : World) : Prop where
  st : Held0 (nT b1 g n) L E
  hp : ∃ (f : Nat → Nat) (od : List Nat) (X : List En), od.Nodup ∧ (∀ i, i ∈ od ↔ i ∈ nAll ∧ L i = true) ∧ (∀ i ∈ od, E.get? (nDst i) = some (nVal n f i)) ∧ LH F0 w0 w (.c b1 [g.v] ty_term_Graph :: (od.map (nEnt n f) ++ X)) D ∧
    (L 10 = true → (∀ i ∈ nAll, L i = true) ∧ E.get? 21 = some (.agg (nCell g n f).toArray)) ∧
    (L 11 = true → L 10 = true ∧ ∃ b, X = [.c b (nCell g n f) ty_print_printer] ∧ E.get? 22 = some (ptr b) ∧ (L 12 = true → E.get? 4 = some (ptr b))) ∧ (L 12 = true → L 11 = true) ∧ (L 11 = false → X = [])
section
variable {w0 w : World} {b1 n : Nat} {g : Sl} {D : List En} {L : Nat → Bool} {E : Env}
/-- an operation that fills a temporary in which nothing else lies -/
theorem NJ.stat (h : NJ w0 b1 g n D L E w) {i d : Nat} {v : Value} (hf1 : ∀ q ∈ nT b1 g n, q.1 = i + 1 → q = (i + 1, d, v)) (hf2 : ∀ q ∈ nT b1 g n, q.2.1 = d → q.1 = i + 1) (hi : i = 0 ∨ i = 1 ∨ i = 3 ∨ i = 5 ∨ i = 8) (hd : d = 11 ∨ d = 12 ∨ d = 14 ∨ d = 16 ∨ d = 19) : NJ w0 b1 g n D (setB L i) (E.put (some d) v) w := by
  obtain ⟨f, od, X, h1, h2, h3, h4, h5, h6, h7, h8⟩ := h.hp
  have nb : ∀ j : Nat, j ∈ [2, 4, 6, 7, 9, 10, 11, 12] → setB L i j = L j := fun j hj => setB_ne (by simp at hj; omega)
  have np : ∀ t : Nat, t ∈ [13, 15, 17, 18, 20, 21, 22, 4] → (E.put (some d) v).get? t = E.get? t := fun t ht => get_put_ne (by simp at ht; omega)
  refine ⟨h.st.fill hf1 hf2, f, od, X, h1, fun j => ?_, fun j hj => ?_, h4, fun h => ?_, fun h => ?_, fun h => ?_, fun h => ?_⟩
  · rw [h2]
    constructor
    · rintro ⟨a, b⟩
      exact ⟨a, by rw [nb j (by simp at a ⊢; omega)]; exact b⟩
    · rintro ⟨a, b⟩
      exact ⟨a, by rw [nb j (by simp at a ⊢; omega)] at b; exact b⟩
  · have hm := ((h2 j).1 hj).1
    rw [np _ (by have := nDst_in hm; simp at this ⊢; omega)]
    exact h3 j hj
  · rw [nb 10 (by simp)] at h
    rw [np 21 (by simp)]
    exact ⟨fun j hj => by rw [nb j (by simp at hj ⊢; omega)]; exact (h5 h).1 j hj, (h5 h).2⟩
  · rw [nb 11 (by simp)] at h
    rw [nb 10 (by simp), nb 12 (by simp), np 22 (by simp), np 4 (by simp)]
    exact h6 h
  · rw [nb 12 (by simp)] at h
    rw [nb 11 (by simp)]
    exact h7 h
  · rw [nb 11 (by simp)] at h
    exact h8 h
/-- a row, or the map, is made -/
theorem NJ.alloc (h : NJ w0 b1 g n D L E w) {i : Nat} (hi : i ∈ nAll) (hL : L i = false) {w' : World} (hw : Fr0 w w') (hP : ∀ f, f i = w.heap.size → (nEnt n f i).P w' ∧ ∀ b ∈ (nEnt n f i).fp, w.heap.size ≤ b) {v : Value} (hv : ∀ f, f i = w.heap.size → v = nVal n f i) {d : Nat} (hd : d = nDst i) :
    NJ w0 b1 g n D (setB L i) (E.put (some d) v) w' := by
  subst hd
  obtain ⟨f, od, X, h1, h2, h3, h4, h5, h6, h7, h8⟩ := h.hp
  have hno : i ∉ od := fun hm => by rw [((h2 i).1 hm).2] at hL; cases hL
  have hin : i = 2 ∨ i = 4 ∨ i = 6 ∨ i = 7 ∨ i = 9 := by simpa using hi
  have hdn := nDst_in hi
  have nb : ∀ j : Nat, j ≠ i → setB L i j = L j := fun j hj => setB_ne hj
  have np : ∀ t : Nat, t ≠ nDst i → (E.put (some (nDst i)) v).get? t = E.get? t := fun t ht => get_put_ne fun e => ht e.symm
  have ff : ∀ j, j ≠ i → (fun j => if j = i then w.heap.size else f j) j = f j := fun j hj => if_neg hj
  have fi : (fun j => if j = i then w.heap.size else f j) i = w.heap.size := if_pos rfl
  have enE : ∀ j, j ≠ i → nEnt n (fun j => if j = i then w.heap.size else f j) j = nEnt n f j := fun j hj => by unfold nEnt asl; rw [ff j hj]
  have enV : ∀ j, j ≠ i → nVal n (fun j => if j = i then w.heap.size else f j) j = nVal n f j := fun j hj => by unfold nVal asl; rw [ff j hj]
  have hn10 : L 10 = false := by
    cases h10 : L 10 with
    | false => rfl
    | true => rw [(h5 h10).1 i hi] at hL; cases hL
  have hn11 : L 11 = false := by
    cases h11 : L 11 with
    | false => rfl
    | true => rw [(h6 h11).1] at hn10; cases hn10
  have hX := h8 hn11
  subst hX
  refine ⟨h.st.pass (fun q hq => ?_) (fun q hq => ?_), fun j => if j = i then w.heap.size else f j, od ++ [i], [], ?_, fun j => ?_, fun j hj => ?_, ?_, fun h => ?_, fun h => ?_, fun h => ?_, fun _ => rfl⟩
  · simp only [nT, List.mem_cons, List.not_mem_nil, or_false] at hq
    rcases hq with rfl | rfl | rfl | rfl | rfl | rfl | rfl <;> simp only <;> omega
  · simp at hdn
    simp only [nT, List.mem_cons, List.not_mem_nil, or_false] at hq
    rcases hq with rfl | rfl | rfl | rfl | rfl | rfl | rfl <;> simp only [ne_eq, Option.some.injEq] <;> omega
  · rw [List.nodup_append]
    exact ⟨h1, by simp, fun a ha b hb => by simp at hb; subst hb; exact fun e => hno (e ▸ ha)⟩
  · rw [List.mem_append, List.mem_singleton]
    constructor
    · rintro (hj | rfl)
      · obtain ⟨a, b⟩ := (h2 j).1 hj
        refine ⟨a, ?_⟩
        rw [nb j (fun e => hno (e ▸ hj)), b]
      · exact ⟨hi, setB_eq⟩
    · rintro ⟨a, b⟩
      by_cases hji : j = i
      · exact .inr hji
      · rw [nb j hji] at b
        exact .inl ((h2 j).2 ⟨a, b⟩)
  · rcases List.mem_append.1 hj with hj | hj
    · have hji : j ≠ i := fun e => hno (e ▸ hj)
      rw [np _ (fun e => hji (nDst_inj ((h2 j).1 hj).1 hi e)), enV j hji]
      exact h3 j hj
    · simp at hj
      subst hj
      rw [get_put, hv (fun k => if k = j then w.heap.size else f k) fi]
  · obtain ⟨p1, p2⟩ := hP (fun j => if j = i then w.heap.size else f j) fi
    have hm : (od ++ [i]).map (nEnt n (fun j => if j = i then w.heap.size else f j)) = od.map (nEnt n f) ++ [nEnt n (fun j => if j = i then w.heap.size else f j) i] := by
      rw [List.map_append, List.map_singleton]
      congr 1
      exact List.map_congr_left fun j hj => enE j fun e => hno (e ▸ hj)
    rw [hm, List.append_nil]
    rw [List.append_nil] at h4
    exact h4.push _ hw p1 p2
  · rw [nb 10 (by omega)] at h
    rw [hn10] at h; cases h
  · rw [nb 11 (by omega)] at h
    rw [hn11] at h; cases h
  · rw [nb 12 (by omega)] at h
    rw [nb 11 (by omega)]
    exact h7 h
theorem NJ.held (h : NJ w0 b1 g n D L E w) {i d : Nat} {v : Value} (hi : i = 10 ∨ i = 11 ∨ i = 12) (hd : d = 21 ∨ d = 22 ∨ d = 4) : Held0 (nT b1 g n) (setB L i) (E.put (some d) v) := by
  refine h.st.pass (fun q hq => ?_) (fun q hq => ?_)
  · simp only [nT, List.mem_cons, List.not_mem_nil, or_false] at hq
    rcases hq with rfl | rfl | rfl | rfl | rfl | rfl | rfl <;> simp only <;> omega
  · simp only [nT, List.mem_cons, List.not_mem_nil, or_false] at hq
    rcases hq with rfl | rfl | rfl | rfl | rfl | rfl | rfl <;> simp only [ne_eq, Option.some.injEq] <;> omega
theorem NJ.keep {od : List Nat} {f : Nat → Nat} (h2 : ∀ i, i ∈ od ↔ i ∈ nAll ∧ L i = true) (h3 : ∀ i ∈ od, E.get? (nDst i) = some (nVal n f i)) {i d : Nat} {v : Value} (hi : i = 10 ∨ i = 11 ∨ i = 12) (hd : d = 21 ∨ d = 22 ∨ d = 4) :
    (∀ j, j ∈ od ↔ j ∈ nAll ∧ setB L i j = true) ∧ (∀ j ∈ od, (E.put (some d) v).get? (nDst j) = some (nVal n f j)) ∧ ∀ j ∈ nAll, setB L i j = L j := by
  have nb : ∀ j ∈ nAll, setB L i j = L j := fun j hj => setB_ne (by simp at hj; omega)
  refine ⟨fun j => ?_, fun j hj => ?_, nb⟩
  · rw [h2]
    exact ⟨fun h => ⟨h.1, by rw [nb j h.1]; exact h.2⟩, fun h => ⟨h.1, by rw [← nb j h.1]; exact h.2⟩⟩
  · have := nDst_in ((h2 j).1 hj).1
    rw [get_put_ne (by simp at this; omega)]
    exact h3 j hj
/-- the struct is built -/
theorem NJ.bld (h : NJ w0 b1 g n D L E w) (hL : ∀ i ∈ nAll, L i = true) (h10 : L 10 = false) : ∃ f, E.get? 13 = some (asl n f 2).v ∧ E.get? 15 = some (asl n f 4).v ∧ E.get? 17 = some (asl n f 6).v ∧ E.get? 18 = some (.map (some (f 7))) ∧ E.get? 20 = some (asl n f 9).v ∧
    NJ w0 b1 g n D (setB L 10) (E.put (some 21) (.agg (nCell g n f).toArray)) w := by
  obtain ⟨f, od, X, h1, h2, h3, h4, h5, h6, h7, h8⟩ := h.hp
  have k : ∀ i, i ∈ nAll → E.get? (nDst i) = some (nVal n f i) := fun i hi => h3 i ((h2 i).2 ⟨hi, hL i hi⟩)
  obtain ⟨a1, a2, a3⟩ := NJ.keep (v := .agg (nCell g n f).toArray) h2 h3 (i := 10) (d := 21) (.inl rfl) (.inl rfl)
  have n11 : L 11 = false := by
    cases h11 : L 11 with
    | false => rfl
    | true => rw [(h6 h11).1] at h10; cases h10
  refine ⟨f, k 2 (by simp), k 4 (by simp), k 6 (by simp), k 7 (by simp), k 9 (by simp), h.held (.inl rfl) (.inl rfl), f, od, X, h1, a1, a2, h4, fun _ => ⟨fun j hj => by rw [a3 j hj]; exact hL j hj, get_put⟩, fun h => ?_, fun h => ?_, fun h => ?_⟩
  · rw [setB_ne (by omega), n11] at h; cases h
  · rw [setB_ne (by omega)] at h ⊢
    exact h7 h
  · rw [setB_ne (by omega)] at h
    exact h8 h
/-- it is put into memory -/
theorem NJ.box (h : NJ w0 b1 g n D L E w) (h10 : L 10 = true) (h11 : L 11 = false) : ∃ cs : Array Value, E.get? 21 = some (.agg cs) ∧ NJ w0 b1 g n D (setB L 11) (E.put (some 22) (ptr w.heap.size)) (w.alloc (.cells cs ty_print_printer)) := by
  obtain ⟨f, od, X, h1, h2, h3, h4, h5, h6, h7, h8⟩ := h.hp
  obtain ⟨a1, a2, a3⟩ := NJ.keep (v := ptr w.heap.size) h2 h3 (i := 11) (d := 22) (.inr (.inl rfl)) (.inr (.inl rfl))
  obtain ⟨b1', b2⟩ := h5 h10
  have hX := h8 h11
  subst hX
  refine ⟨_, b2, h.held (.inr (.inl rfl)) (.inr (.inl rfl)), f, od, [.c w.heap.size (nCell g n f) ty_print_printer], h1, a1, a2, ?_, fun _ => ⟨fun j hj => by rw [a3 j hj]; exact b1' j hj, by rw [get_put_ne (by omega)]; exact b2⟩, fun _ => ⟨by rw [setB_ne (by omega)]; exact h10, _, rfl, get_put, fun h => ?_⟩, fun h => ?_, fun h => ?_⟩
  · rw [List.append_nil] at h4
    exact h4.alloc _
  · rw [setB_ne (by omega)] at h
    rw [h7 h] at h11; cases h11
  · exact setB_eq
  · rw [setB_eq] at h; cases h
theorem NJ.asg (h : NJ w0 b1 g n D L E w) (h11 : L 11 = true) : ∃ b, E.get? 22 = some (ptr b) ∧ NJ w0 b1 g n D (setB L 12) (E.put (some 4) (ptr b)) w := by
  obtain ⟨f, od, X, h1, h2, h3, h4, h5, h6, h7, h8⟩ := h.hp
  obtain ⟨h10, b, hX, b2, _⟩ := h6 h11
  obtain ⟨a1, a2, a3⟩ := NJ.keep (v := ptr b) h2 h3 (i := 12) (d := 4) (.inr (.inr rfl)) (.inr (.inr rfl))
  refine ⟨b, b2, h.held (.inr (.inr rfl)) (.inr (.inr rfl)), f, od, X, h1, a1, a2, h4, fun h => ?_, fun _ => ⟨by rw [setB_ne (by omega)]; exact h10, b, hX, by rw [get_put_ne (by omega)]; exact b2, fun _ => get_put⟩, fun _ => by rw [setB_ne (by omega)]; exact h11, fun h => ?_⟩
  · rw [setB_ne (by omega)] at h
    exact ⟨fun j hj => by rw [a3 j hj]; exact (h5 h).1 j hj, by rw [get_put_ne (by omega)]; exact (h5 h).2⟩
  · rw [setB_ne (by omega)] at h
    exact h8 h
/-- when all is done -/
theorem NJ.fin (h : NJ w0 b1 g n D L E w) (hL : ∀ i, i < 13 → L i = true) : ∃ (f : Nat → Nat) (b : Nat), E.get? 1 = some (ptr b1) ∧ E.get? 4 = some (ptr b) ∧ LH F0 w0 w (.c b1 [g.v] ty_term_Graph :: (nAll.map (nEnt n f) ++ [.c b (nCell g n f) ty_print_printer])) D := by
  obtain ⟨f, od, X, h1, h2, h3, h4, h5, h6, h7, h8⟩ := h.hp
  obtain ⟨_, b, hX, _, b3⟩ := h6 (hL 11 (by omega))
  subst hX
  have hp : od.Perm nAll := (List.perm_ext_iff_of_nodup h1 (by decide)).2 fun i => by
    rw [h2]
    exact ⟨fun h => h.1, fun h => ⟨h, hL i (by simp at h; omega)⟩⟩
  exact ⟨f, b, h.st.get (T := nT b1 g n) (i := 0) (by simp [nT]) rfl, b3 (hL 12 (by omega)), LH_perm h4 (((hp.map (nEnt n f)).append_right _).cons _)⟩
end
/-! ### The region -/
section
variable {w0 : World} {b1 n : Nat} {g : Sl} {D : List En}
theorem nw_static {i d : Nat} {v : Value} (hi : i = 1 ∧ d = 12 ∨ i = 3 ∧ d = 14 ∨ i = 5 ∧ d = 16 ∨ i = 8 ∧ d = 19) (hv : v = natV n) : (∀ q ∈ nT b1 g n, q.1 = i + 1 → q = (i + 1, d, v)) ∧ ∀ q ∈ nT b1 g n, q.2.1 = d → q.1 = i + 1 := by
  subst hv
  rcases hi with ⟨rfl, rfl⟩ | ⟨rfl, rfl⟩ | ⟨rfl, rfl⟩ | ⟨rfl, rfl⟩ <;> exact ⟨by simp [nT], by simp [nT]⟩
theorem nw_move {i d : Nat} {deps : List Nat} (hi : i = 1 ∧ d = 12 ∨ i = 3 ∧ d = 14 ∨ i = 5 ∧ d = 16 ∨ i = 8 ∧ d = 19) (T : TypeId) : RowI Tryz.prog (NJ w0 b1 g n D) i (.move (.tmp 3), some d, T, deps) := by
  intro L E w o e1 e2 e3 e4 e5 hJ
  obtain ⟨s1, s2⟩ := nw_static (b1 := b1) (g := g) (n := n) (v := natV n) hi rfl
  refine st_mv (.inl e1) (hJ.st.get (i := 0) (d := 3) (v := natV n) (by simp [nT]) rfl) ?_
  rw [e2]
  exact hJ.stat s1 s2 (by omega) (by omega)
theorem nw_slice {i d t : Nat} {deps : List Nat} {T e : TypeId} {z : Value} {bytes : Nat} (el : ElemOk Tryz.prog T e z 1 bytes) (hz : z.cells = #[z]) (hb : n * bytes ≤ 140737488355328) (hi : i = 2 ∧ t = 12 ∨ i = 4 ∧ t = 14 ∨ i = 6 ∧ t = 16 ∨ i = 9 ∧ t = 19) (hd : d = nDst i) (hj : ∃ j ∈ deps, (j + 1, t, natV n) ∈ nT b1 g n)
    (he : ∀ f, nEnt n f i = .row e 1 (asl n f i) (List.replicate n z)) : RowI Tryz.prog (NJ w0 b1 g n D) i (.makeSlice T (.tmp t) (.tmp t), some d, T, deps) := by
  intro L E w o e1 e2 e3 e4 e5 hJ
  obtain ⟨j, hj1, hj2⟩ := hj
  obtain ⟨w', r1, r2, r3⟩ := make_full el w n hb
  rw [madeCells_one _ _ hz] at r2
  refine st_make e1 (hJ.st.get hj2 (e5 j hj1)) (s := ⟨some (at0 w.heap.size), n, n⟩) r1 ?_
  rw [e2]
  refine hJ.alloc (by simp; omega) e4 r3 (fun f hf => ?_) (fun f hf => ?_) hd
  · rw [he]
    unfold asl
    rw [hf]
    exact ⟨r2, fun b hb => by
      have hb : b ∈ [w.heap.size] := hb
      simp at hb
      omega⟩
  · unfold nVal asl
    rw [if_neg (by omega), hf]
theorem nw_region {c : Code} (ht : (Code.ops c).toList.map rowOf = nwTab) {K : Env → World → Prop} {E : Env} {w : World} (hn : n ≤ 1000000) (h1 : E.get? 1 = some (ptr b1)) (h3 : E.get? 3 = some (natV n)) (H : LH F0 w0 w [.c b1 [g.v] ty_term_Graph] D)
    (hK : ∀ f b E' w', E'.get? 1 = some (ptr b1) → E'.get? 4 = some (ptr b) → LH F0 w0 w' (.c b1 [g.v] ty_term_Graph :: (nAll.map (nEnt n f) ++ [.c b (nCell g n f) ty_print_printer])) D → K E' w') : igK Tryz.prog c K E w := by
  refine ig_tab nwTab ht (NJ w0 b1 g n D) ⟨fun q hq he => ?_, ⟨fun _ => 0, [], [], ?_⟩⟩ ?_ (fun L E' w' hL hJ => ?_)
  · simp only [nT, List.mem_cons, List.not_mem_nil, or_false] at hq
    rcases hq with rfl | rfl | rfl | rfl | rfl | rfl | rfl <;> first | exact h1 | exact h3 | (simp at he)
  · exact ⟨List.nodup_nil, fun i => by simp, fun i hi => (by simp at hi), H.drew, fun h => Bool.noConfusion h, fun h => Bool.noConfusion h, fun h => Bool.noConfusion h, fun _ => rfl⟩
  · refine ⟨?_, nw_move (.inl ⟨rfl, rfl⟩) _, nw_slice el_str rfl (by omega) (.inl ⟨rfl, rfl⟩) rfl ⟨1, by simp, by simp [nT]⟩ (fun f => by unfold nEnt; rw [if_pos rfl, List.map_replicate]), nw_move (.inr (.inl ⟨rfl, rfl⟩)) _, nw_slice el_ints rfl (by omega) (.inr (.inl ⟨rfl, rfl⟩)) rfl ⟨3, by simp, by simp [nT]⟩ (fun f => by unfold nEnt; rw [if_neg (by omega), if_pos (by omega), List.map_replicate]; rfl),
      nw_move (.inr (.inr (.inl ⟨rfl, rfl⟩))) _, nw_slice el_ints rfl (by omega) (.inr (.inr (.inl ⟨rfl, rfl⟩))) rfl ⟨5, by simp, by simp [nT]⟩ (fun f => by unfold nEnt; rw [if_neg (by omega), if_pos (by omega), List.map_replicate]; rfl), ?_, nw_move (.inr (.inr (.inr ⟨rfl, rfl⟩))) _, nw_slice el_bool rfl (by omega) (.inr (.inr (.inr ⟨rfl, rfl⟩))) rfl ⟨8, by simp, by simp [nT]⟩ (fun f => by unfold nEnt; rw [if_neg (by omega), if_neg (by omega), if_neg (by omega)]; show En.row ty_bool 1 _ ((List.replicate n false).map Value.bool) = _; rw [List.map_replicate]), ?_, ?_, ?_, trivial⟩
    · intro L E w o e1 e2 e3 e4 e5 hJ
      have hc : w.cell? ((at0 b1).add 0) = some g.v := by
        obtain ⟨f, od, X, _, _, _, h4, _⟩ := hJ.hp
        exact h4.ld 0 0
      refine st_ld (p := at0 b1) e1 (hJ.st.get (i := 0) (d := 1) (v := ptr b1) (by simp [nT]) rfl) (mp (show ∃ s : Sl, w.cell? ((at0 b1).add 0) = some s.v ∧ NJ w0 b1 g n D (setB L 0) (E.put o.dst (.agg #[s.v])) w from ⟨g, hc, ?_⟩))
      rw [e2]
      exact hJ.stat (by simp [nT]) (by simp [nT]) (by omega) (by omega)
    · intro L E w o e1 e2 e3 e4 e5 hJ
      refine st_map e1 ?_
      rw [e2]
      refine hJ.alloc (by simp) e4 (Fr.alloc _ _ _) (fun f hf => ?_) (fun f hf => ?_) rfl
      · unfold nEnt
        rw [if_neg (by omega), if_neg (by omega), if_pos rfl, hf]
        exact ⟨heap_new w _, fun b hb => by simp [En.ob] at hb; omega⟩
      · unfold nVal
        rw [if_pos rfl, hf]
    · intro L E w o e1 e2 e3 e4 e5 hJ
      obtain ⟨f, k1, k2, k3, k4, k5, hJ'⟩ := hJ.bld (fun i hi => e5 i (by simp at hi ⊢; omega)) e4
      refine st_bld e1 (hJ.st.get (i := 1) (d := 11) (v := .agg #[g.v]) (by simp [nT]) (e5 0 (by simp))) k1 k2 k3 k4 k5 ?_
      rw [e2]
      exact hJ'
    · intro L E w o e1 e2 e3 e4 e5 hJ
      obtain ⟨cs, k1, hJ'⟩ := hJ.box (e5 10 (by simp)) e4
      refine st_box e1 k1 ?_
      rw [e2]
      exact hJ'
    · intro L E w o e1 e2 e3 e4 e5 hJ
      obtain ⟨b, k1, hJ'⟩ := hJ.asg (e5 11 (by simp))
      refine st_mv (.inr e1) k1 ?_
      rw [e2]
      exact hJ'
  · obtain ⟨f, b, k1, k2, H'⟩ := hJ.fin hL
    exact hK f b E' w' k1 k2 H'
end
end Go.Proofs.YtnpkhgljhcnpcaaGreatDoor
set_option maxRecDepth 100000
set_option maxHeartbeats 1000000
namespace Go.Proofs.YtnpkhgljhcnpcaaGreatDoor
open Go Go.W

/-! ### The printer as one thing of one's own -/
theorem PrRep.lt {w : World} {b : Nat} {g : Sl} {hs : List ByteArray} {ls ds : List Nat} {own : List Nat} (h : PrRep w b g hs ls ds own) : ∀ x ∈ own, x < w.heap.size := by
  obtain ⟨sh, sl, sd, m, sr, ho, hn, hP⟩ := h
  intro x hx
  rw [ho] at hx
  obtain ⟨e, he, hx⟩ := List.mem_flatMap.1 hx
  exact e.lt w (hP e he) x hx
theorem PrRep.st {w w' : World} {b : Nat} {g : Sl} {hs : List ByteArray} {ls ds : List Nat} {own : List Nat} (h : PrRep w b g hs ls ds own) (k : ∀ x ∈ own, x < w.heap.size → w'.heap[x]? = w.heap[x]?) : PrRep w' b g hs ls ds own := by
  obtain ⟨sh, sl, sd, m, sr, ho, hn, hP⟩ := h
  exact ⟨sh, sl, sd, m, sr, ho, hn, fun e he => e.st w w' (fun b hb hl => k b (by rw [ho]; exact List.mem_flatMap.2 ⟨e, he, hb⟩) hl) (hP e he)⟩
def _root_.Go.W.En.pr (b : Nat) (own : List Nat) (g : Sl) (hs : List ByteArray) (ls ds : List Nat) : En := ⟨nub own, fun w => PrRep w b g hs ls ds own, fun w w' h hp => hp.st fun b hb => h b (mem_nub.2 hb), fun w hp b hb => hp.lt b (mem_nub.1 hb), nub_nodup _⟩
section
variable {M : Nat → Prop} {w0 w : World} {L D A B : List En}
theorem _root_.Go.W.LH.group (H : LH M w0 w (A ++ B) D) (e : En) (hP : e.P w) (hfp : ∀ x ∈ e.fp, x ∈ B.flatMap (·.fp)) : LH M w0 w (A ++ [e]) D := by
  have hnd := H.nd
  rw [List.flatMap_append, List.nodup_append] at hnd
  refine ⟨H.fr, fun x hx => ?_, H.rd, fun x hx y hy => ?_, ?_, fun d hd x hx e' he' hm => ?_⟩
  · rcases List.mem_append.1 hx with hx | hx
    · exact H.own x (List.mem_append_left _ hx)
    · rw [List.mem_singleton.1 hx]; exact hP
  · rcases List.mem_append.1 hx with hx | hx
    · exact H.new x (List.mem_append_left _ hx) y hy
    · rw [List.mem_singleton.1 hx] at hy
      obtain ⟨e', he', hy'⟩ := List.mem_flatMap.1 (hfp y hy)
      exact H.new e' (List.mem_append_right _ he') y hy'
  · rw [List.flatMap_append, List.nodup_append]
    refine ⟨hnd.1, by simpa using e.nd, fun a ha b hb => hnd.2.2 a ha b (hfp b (by simpa using hb))⟩
  · rcases List.mem_append.1 he' with he' | he'
    · exact H.dj d hd x hx e' (List.mem_append_left _ he') hm
    · rw [List.mem_singleton.1 he'] at hm
      obtain ⟨e'', he'', hm'⟩ := List.mem_flatMap.1 (hfp x hm)
      exact H.dj d hd x hx e'' (List.mem_append_right _ he'') hm'
theorem pr_make {b1 b n : Nat} {g : Sl} {f : Nat → Nat} (H : LH M w0 w (.c b1 [g.v] ty_term_Graph :: (nAll.map (nEnt n f) ++ [.c b (nCell g n f) ty_print_printer])) D) :
    ∃ own, LH M w0 w [.c b1 [g.v] ty_term_Graph, .pr b own g (List.replicate n (ByteArray.mk #[])) (List.replicate n 0) (List.replicate n 0)] D := by
  have H1 : LH M w0 w ([.c b1 [g.v] ty_term_Graph] ++ ([.c b (nCell g n f) ty_print_printer] ++ nAll.map (nEnt n f))) D := LH_perm H (List.perm_append_comm.cons _)
  have H2 : LH M w0 w ([.c b1 [g.v] ty_term_Graph] ++ PrL b g (asl n f 2) (asl n f 4) (asl n f 6) (some (f 7)) (asl n f 9) (List.replicate n (ByteArray.mk #[])) (List.replicate n 0) (List.replicate n 0)) D := H1.take 5
  have hnd := H2.nd
  rw [List.flatMap_append, List.nodup_append] at hnd
  exact ⟨_, H2.group (.pr b _ g _ _ _) ⟨_, _, _, _, _, rfl, hnd.2.1, fun e he => H2.own e (List.mem_append_right _ he)⟩ fun x hx => mem_nub.1 hx⟩
/-- a method of the printer -/
theorem _root_.Go.W.LH.prC (H : LH M w0 w L D) (i : Nat) {b : Nat} {own : List Nat} {g : Sl} {hs hs' : List ByteArray} {ls ds ls' ds' : List Nat} {P : Program} {f : FuncId} {args : Array Value} {A : Ending → Prop} {K : Post} (hi : L[i]? = some (.pr b own g hs ls ds)) (hc : Calls P f args w fun r w' => A r ∧ PrAt w b g own hs' ls' ds' w')
    (hk : ∀ r w' own', A r → LH M w0 w' (L.set i (.pr b own' g hs' ls' ds')) D → K r w') : Calls P f args w K :=
  hc.mono fun r w' ⟨ha, own', hr, hf, ho⟩ => hk r w' own' ha (H.upd i (.pr b own' g hs' ls' ds') hi (hf.mono fun x _ hx => mem_nub.2 hx) hr fun b hb => (ho b (mem_nub.1 hb)).imp mem_nub.2 id)
end
/-- the head of a node is stored -/
theorem pr_head {w : World} {b : Nat} {g : Sl} {hs : List ByteArray} {ls ds : List Nat} {own : List Nat} (h : PrRep w b g hs ls ds own) {i : Nat} (hi : i < hs.length) :
    ∃ (sh : Sl) (q : Addr), sh.a = some q ∧ (i : Int) < ((sh.n : Nat) : Int) ∧ w.cell? ((at0 b).add 1) = some sh.v ∧ ∀ w1, Fr0 w w1 → w1.cell? ((at0 b).add 1) = some sh.v ∧ ∀ (t : ByteArray) (K : World → Prop), (∀ w2, PrAt w1 b g own (hs.set i t) ls ds w2 → K w2) → stV w1 (q.add i) (.string t) K := by
  obtain ⟨sh, sl, sd, m, sr, ho, hn, hP⟩ := h
  have hc : (En.c b [g.v, sh.v, sl.v, sd.v, .map m, sr.v] ty_print_printer).P w := hP _ (List.mem_of_getElem? (i := 0) rfl)
  have hr : OwnRow w ty_string 1 sh (hs.map Value.string) := hP _ (List.mem_of_getElem? (i := 1) rfl)
  obtain ⟨_, r2, r3⟩ := row_at hr rfl (v := .string hs[i]) (i := i) (by simp [hi]) (K := fun q => sh.a = some q) (fun p hp _ => hp)
  obtain ⟨q, hq, _⟩ := optP_elim r3
  refine ⟨sh, q, hq, r2, cellAt (p := at0 b) hc rfl rfl, fun w1 f => ?_⟩
  have hP1 : ∀ e ∈ PrL b g sh sl sd m sr hs ls ds, e.P w1 := fun e he => e.st w w1 (fun b _ hl => f.keep b hl id) (hP e he)
  have hc1 : (En.c b [g.v, sh.v, sl.v, sd.v, .map m, sr.v] ty_print_printer).P w1 := hP1 _ (List.mem_of_getElem? (i := 0) rfl)
  refine ⟨cellAt (p := at0 b) hc1 rfl rfl, fun t K hK => ?_⟩
  have H : LH (· ∈ own) w1 w1 (PrL b g sh sl sd m sr hs ls ds) [] := LH.start' _ _ (fun e he => ⟨hP1 e he, fun x hx => by rw [ho]; exact List.mem_flatMap.2 ⟨e, he, hx⟩⟩) (ho ▸ hn) (by simp)
  refine st_plain (H.st1 (bs := []) 1 i rfl hq (by simpa using hi) (fun w2 H2 => hK w2 ?_) (by simp))
  rw [← List.map_set] at H2
  exact PrRep.close H2
/-! ### The words of the operations -/
def wordL : List (Int × List UInt8) := [(4, [110, 111, 116]), (5, [110, 101, 103]), (6, [97, 110, 100]), (7, [111, 114]), (8, [120, 111, 114]), (9, [97, 100, 100]), (10, [109, 117, 108]), (11, [117, 100, 105, 118]), (12, [117, 114, 101, 109]), (13, [115, 104, 108]), (14, [108, 115, 104, 114]), (15, [97, 115, 104, 114]), (16, [117, 108, 116]), (17, [115, 108, 116]), (18, [101, 113]), (19, [105, 116, 101]), (20, [99, 111, 110, 99, 97, 116]), (21, [101, 120, 116, 114, 97, 99, 116]), (22, [122, 101, 120, 116]), (23, [115, 101, 120, 116]), (24, [115, 101, 108, 101, 99, 116]), (25, [115, 116, 111, 114, 101]), (26, [100, 105, 102, 102]), (27, [108, 101, 110]), (28, [98, 121, 116, 101]), (29, [99, 97, 116]), (30, [115, 117, 98]), (31, [102, 105, 110, 100]), (32, [114, 101, 112, 108, 97, 99, 101]), (33, [105, 110]), (34, [99, 104, 97, 114])]
def wordsM : List (Int × Value) := wordL.map fun p => (p.1, .string ⟨p.2.toArray⟩)
theorem mo_words : MapOk Tryz.prog ty_map_int_string ty_int ty_string .i64 (.string (ByteArray.mk #[])) := ⟨by kernel_rfl, by kernel_rfl, by kernel_rfl⟩
theorem w_put {w0 w : World} {m : Nat} {es : Array MapEntry} {clock : Nat} {ms : List (Int × Value)} (H : LH F0 w0 w [.ob m (.map es clock)] []) (hm : MapIs .i64 es ms) {k : Int} {v : Value} (hno : mget ms k = none) {K : World → Prop}
    (hK : ∀ w' es' c', LH F0 w0 w' [.ob m (.map es' c')] [] → MapIs .i64 es' (ms ++ [(k, v)]) → K w') : ∃ w', Sem.run Tryz.prog (Instr.mapUpdate ty_map_int_string (.map (some m)) (.i k) v) w = .ok () w' ∧ K w' := by
  obtain ⟨w', es', r1, r2, r3, r4, r5⟩ := mapUpdate_new mo_words (H.ob 0) hm k v hno
  exact ⟨w', r1, hK w' es' _ (H.upd 0 (.ob m (.map es' (clock + 1))) rfl (r4.mono fun x _ e => by simp [En.ob, e]) r2 fun b hb => .inl hb) r3⟩
theorem nw_ob {M : Nat → Prop} {w0 w : World} {L D : List En} (H : LH M w0 w L D) {o : Obj} {K : World → Prop} (hK : ∀ w', LH M w0 w' (L ++ [.ob w.heap.size o]) D → K w') : nwV w o K := hK _ (H.alloc o)
theorem c_words (w : World) : Calls Tryz.prog n_print_operationWords #[] w fun r w' => (∃ m es c, r = .returned (.map (some m)) ∧ w.heap.size ≤ m ∧ w'.heap[m]? = some (.map es c) ∧ MapIs .i64 es wordsM) ∧ Fr0 w w' := by
  refine print_operationWords.ok w _ (nw_ob (lh0 [] (by simp)) fun w1 H => ?_)
  have hm : MapIs .i64 #[] [] := rfl
  iterate 31 (refine w_put H hm ?_ ?_; rfl; clear H hm; intro w1 es c H hm)
  exact ⟨⟨_, es, c, rfl, Nat.le_refl _, H.ob 0, hm⟩, H.fr⟩
/-! ### Plain: the rows of a graph -/
theorem snoc_ind {α : Type} {p : List α → Prop} (h0 : p []) (h1 : ∀ l a, p l → p (l ++ [a])) (l : List α) : p l := by
  have : ∀ r : List α, p r.reverse := fun r => by
    induction r with
    | nil => exact h0
    | cons a r ih => rw [List.reverse_cons]; exact h1 _ _ ih
  simpa using this l.reverse
section
variable (hd : Nx → ByteArray)
def lnsX (g : List Nx) : List Nat := g.foldl (fun ls n => ls ++ [len1 (hd n) n.kids ls]) []
def dpsX (g : List Nx) : List Nat := g.foldl (fun ds n => ds ++ [dep1 n.op n.kids ds]) []
theorem lns_snoc (g : List Nx) (n : Nx) : lnsX hd (g ++ [n]) = lnsX hd g ++ [len1 (hd n) n.kids (lnsX hd g)] := by unfold lnsX; rw [List.foldl_append]; rfl
theorem dps_snoc (g : List Nx) (n : Nx) : dpsX (g ++ [n]) = dpsX g ++ [dep1 n.op n.kids (dpsX g)] := by unfold dpsX; rw [List.foldl_append]; rfl
theorem lns_ok : ∀ g : List Nx, (lnsX hd g).length = g.length ∧ ∀ x ∈ lnsX hd g, x ≤ 65537 := by
  refine snoc_ind ⟨rfl, by simp [lnsX]⟩ fun g n ih => ?_
  rw [lns_snoc]
  refine ⟨by simp [ih.1], fun x hx => ?_⟩
  rcases List.mem_append.1 hx with hx | hx
  · exact ih.2 x hx
  · rw [List.mem_singleton.1 hx]; exact cap_le _
theorem dps_ok : ∀ g : List Nx, (dpsX g).length = g.length ∧ ∀ x ∈ dpsX g, x ≤ g.length := by
  refine snoc_ind ⟨rfl, by simp [dpsX]⟩ fun g n ih => ?_
  rw [dps_snoc]
  refine ⟨by simp [ih.1], fun x hx => ?_⟩
  rw [List.length_append, List.length_singleton]
  rcases List.mem_append.1 hx with hx | hx
  · have := ih.2 x hx; omega
  · rw [List.mem_singleton.1 hx]
    have := maxK_le ih.2 n.kids
    unfold dep1
    split
    · omega
    · split <;> omega
end
theorem atN_app {A B : List Nat} {k : Int} (h : 0 ≤ k ∧ k < (A.length : Int)) : atN (A ++ B) k = atN A k := by
  unfold atN
  rw [List.getD_eq_getElem?_getD, List.getD_eq_getElem?_getD, List.getElem?_append_left (by omega)]
theorem rows_app {A B : List Nat} {kids : List Int} (h : ∀ k ∈ kids, 0 ≤ k ∧ k < (A.length : Int)) : sumK (A ++ B) kids = sumK A kids ∧ maxK (A ++ B) kids = maxK A kids := by
  unfold sumK maxK
  rw [List.map_congr_left fun k hk => atN_app (h k hk)]
  exact ⟨rfl, rfl⟩
theorem set_rep {α : Type} {A : List α} {z x : α} {i m : Nat} (h : A.length = i) : (A ++ List.replicate (m + 1) z).set i x = (A ++ [x]) ++ List.replicate m z := by
  subst h
  rw [List.replicate_succ, List.set_append_right _ _ (Nat.le_refl _), Nat.sub_self]
  simp
section
variable {M : Nat → Prop} {w0 w : World} {L D : List En}
theorem _root_.Go.W.LH.st9 (H : LH M w0 w L D) (i : Nat) {b : Nat} {a0 a1 a2 a3 a4 a5 a6 a7 a8 : Value} {T : TypeId} {v0 v1 v2 v3 v4 v5 v6 v7 v8 : Value} {K : World → Prop} (hi : L[i]? = some (.c b [a0, a1, a2, a3, a4, a5, a6, a7, a8] T)) (hK : ∀ w', LH M w0 w' (L.set i (.c b [v0, v1, v2, v3, v4, v5, v6, v7, v8] T)) D → K w') :
    stW9 w (at0 b) v0 v1 v2 v3 v4 v5 v6 v7 v8 K := by
  have hl := (List.getElem?_eq_some_iff.1 hi).1
  exact H.st0 i hi (fun w1 H1 => H1.st (vs := [v0, a1, a2, a3, a4, a5, a6, a7, a8]) (T := T) i 1 (by simp [hl]) (fun w2 H2 => H2.st (vs := [v0, v1, a2, a3, a4, a5, a6, a7, a8]) (T := T) i 2 (by simp [hl]) (fun w3 H3 => H3.st (vs := [v0, v1, v2, a3, a4, a5, a6, a7, a8]) (T := T) i 3 (by simp [hl]) (fun w4 H4 => H4.st (vs := [v0, v1, v2, v3, a4, a5, a6, a7, a8]) (T := T) i 4 (by simp [hl]) (fun w5 H5 => H5.st (vs := [v0, v1, v2, v3, v4, a5, a6, a7, a8]) (T := T) i 5 (by simp [hl]) (fun w6 H6 => H6.st (vs := [v0, v1, v2, v3, v4, v5, a6, a7, a8]) (T := T) i 6 (by simp [hl]) (fun w7 H7 => H7.st (vs := [v0, v1, v2, v3, v4, v5, v6, a7, a8]) (T := T) i 7 (by simp [hl]) (fun w8 H8 => H8.st (vs := [v0, v1, v2, v3, v4, v5, v6, v7, a8]) (T := T) i 8 (by simp [hl]) (fun w9 H9 => hK w9 (by simpa using H9))))))))))
end
/-! ### The contract -/
/-- the head of a node is as a plain function says -/
def HdOk (hd : Nx → ByteArray) (d : Nd) : Prop := ∀ (w : World) (m : Nat) (es : Array MapEntry) (c : Nat), w.heap[m]? = some (.map es c) → MapIs .i64 es wordsM → Calls Tryz.prog n_print_nodeHead #[d.v, .map (some m)] w fun r w' => r = .returned (.string (hd d.x)) ∧ Fr0 w w'
/-- what is asked of a graph that is printed -/
structure PtOk (hd : Nx → ByteArray) (l : List Nd) : Prop where
  hdo : ∀ d ∈ l, HdOk hd d
  kids : ∀ (i : Nat) (d : Nd), l[i]? = some d → ∀ k ∈ d.x.kids, 0 ≤ k ∧ k < (i : Int)
  zero : ∀ d ∈ l, d.x.op = 3 → d.x.kids = []
  few : ∀ d ∈ l, d.x.kids.length ≤ 1000
  size : ∀ d ∈ l, (hd d.x).size ≤ 100000
  len : l.length ≤ 10000
theorem c_new {w : World} {s : Sl} {l : List Nd} {hd : Nx → ByteArray} (h : GP w s l) (ho : PtOk hd l) :
    Calls Tryz.prog n_print_newPrinter #[.agg #[s.v]] w fun r w' => (∃ b own, r = .returned (ptr b) ∧ PrRep w' b s ((xs l).map hd) (lnsX hd (xs l)) (dpsX (xs l)) own ∧ ∀ x ∈ own, w.heap.size ≤ x) ∧ Fr0 w w' := by
  have hn := gr_n h
  have hlen := ho.len
  have H : LH F0 w w [] [.gr s l] := lh0 _ (by
    intro e he
    simp only [List.mem_cons, List.not_mem_nil, or_false] at he
    subst he
    exact gr_P.2 h)
  have loop : ∀ (m i b1 b mp c : Nat) (es : Array MapEntry) (own : List Nat) (w1 : World), i + m = l.length → MapIs .i64 es wordsM →
      LH F0 w w1 [.c b1 [s.v] ty_term_Graph, .pr b own s ((xs (l.take i)).map hd ++ List.replicate m (ByteArray.mk #[])) (lnsX hd (xs (l.take i)) ++ List.replicate m 0) (dpsX (xs (l.take i)) ++ List.replicate m 0), .ob mp (.map es c)] [.gr s l] →
      print_newPrinter.L1 (some (at0 b)) (some mp) s ((s.n : Nat) : Int) (i : Int) w1 fun r w' => (∃ b own, r = .returned (ptr b) ∧ PrRep w' b s ((xs l).map hd) (lnsX hd (xs l)) (dpsX (xs l)) own ∧ ∀ x ∈ own, w.heap.size ≤ x) ∧ Fr0 w w' := by
    intro m
    induction m with
    | zero =>
      intro i b1 b mp c es own w1 hi hm H1
      refine print_newPrinter.L1_step _ _ _ _ _ _ _ (sel_false (decide_eq_false (by omega)) ⟨⟨b, own, rfl, ?_, fun x hx => (H1.new _ (List.mem_of_getElem? (i := 1) rfl) x (mem_nub.2 hx)).resolve_right id⟩, H1.fr⟩)
      have := H1.get 1
      rw [List.take_of_length_le (by omega), List.replicate_zero, List.replicate_zero, List.append_nil, List.append_nil, List.append_nil] at this
      exact this
    | succ m ih =>
      intro i b1 b mp c es own w1 hi hm H1
      have ga : l[i]? = some (l[i]'(by omega)) := List.getElem?_eq_getElem (by omega)
      generalize l[i]'(by omega) = d at ga
      have hdm := List.mem_of_getElem? ga
      have hlt : (xs (l.take i)).length = i := by simp [xs]; omega
      have l1 := lns_ok hd (xs (l.take i))
      have l2 := dps_ok (xs (l.take i))
      have et : xs (l.take (i + 1)) = xs (l.take i) ++ [d.x] := by rw [List.take_add_one, ga]; simp [xs]
      refine print_newPrinter.L1_step _ _ _ _ _ _ _ (sel_true (decide_eq_true (by omega)) (gr_at (gr_P.1 (H1.getD 0)) rfl ga fun p hp c' => ⟨d.x.op, d.ks, d.x.n, d.x.m, d.x.u, d.x.tx, d.x.st.k, d.x.st.n, d.x.st.x, c'.c0, c'.c1, c'.c2, c'.c3, c'.c4, c'.c5, c'.c6, c'.c7, c'.c8, H1.nw fun w2 hs2 H2 => H2.st9 3 rfl fun w3 H3 => H3.dr fun w4 H4 => ?_⟩))
      obtain ⟨sh, q, hq, r2, hc, hst⟩ := pr_head (H4.get 1) (i := i) (by rw [List.length_append, List.length_map, hlt, List.length_replicate]; omega)
      refine ⟨sh, hc, d.x.op, d.ks, d.x.n, d.x.m, d.x.u, d.x.tx, d.x.st.k, d.x.st.n, d.x.st.x, H4.ld 3 0, H4.ld 3 1, H4.ld 3 2, H4.ld 3 3, H4.ld 3 4, H4.ld 3 5, H4.ld 3 6, H4.ld 3 7, H4.ld 3 8, (ho.hdo d hdm w4 mp es c (H4.ob 2) hm).mono ?_⟩
      rintro _ w5 ⟨rfl, f5⟩
      have H5 := H4.fr0 f5
      obtain ⟨hc5, hst⟩ := hst w5 f5
      refine ⟨_, rfl, hc5, by omega, r2, ?_⟩
      rw [hq]
      refine optP_mk ?_
      rw [Int.toNat_natCast, Nat.mul_one]
      refine hst _ _ fun w6 hw6 => ?_
      obtain ⟨own6, hr6, hf6, ho6⟩ := hw6
      have H6 := H5.upd 1 (.pr b own6 s _ _ _) rfl (hf6.mono fun x _ hx => mem_nub.2 hx) hr6 fun b hb => (ho6 b (mem_nub.1 hb)).imp mem_nub.2 id
      rw [set_rep (by rw [List.length_map, hlt])] at H6
      have hkids : (kidE d).P w6 := (gr_P.1 (H6.getD 0)).2 d hdm
      have hoff : ∀ x ∈ (kidE d).fp, x ∉ own6 := fun x hx hm => H6.dj (.gr s l) (by simp) x (gr_fp.2 (.inr ⟨d, hdm, hx⟩)) (.pr b own6 s _ _ _) (List.mem_of_getElem? (i := 1) rfl) (mem_nub.2 hm)
      have hk := ho.kids i d ga
      refine ⟨d.x.op, d.ks, d.x.n, d.x.m, d.x.u, d.x.tx, d.x.st.k, d.x.st.n, d.x.st.x, H6.ld 3 0, H6.ld 3 1, H6.ld 3 2, H6.ld 3 3, H6.ld 3 4, H6.ld 3 5, H6.ld 3 6, H6.ld 3 7, H6.ld 3 8, H6.prC 1 rfl (c_measure (i := i) (t := hd d.x) (H6.get 1) hkids hoff (fun k hk' => ⟨(hk k hk').1, by have := (hk k hk').2; simp only [List.length_append, List.length_map, List.length_replicate, List.length_singleton, l1.1, l2.1, hlt]; omega⟩) ?_ ?_ ?_ ?_ (ho.zero d hdm) (by have := ho.size d hdm; omega) (ho.few d hdm) ?_ ?_) ?_⟩
      · rw [List.append_assoc, List.getElem?_append_right (by rw [List.length_map, hlt]; exact Nat.le_refl _), List.length_map, hlt, Nat.sub_self]
        rfl
      · simp only [List.length_append, List.length_map, List.length_replicate, List.length_singleton, l1.1, l2.1, hlt]; omega
      · simp only [List.length_append, List.length_map, List.length_replicate, List.length_singleton, l1.1, l2.1, hlt]; omega
      · rw [List.getElem?_append_right (by rw [l2.1, hlt]; exact Nat.le_refl _), l2.1, hlt, Nat.sub_self]
        rfl
      · intro x hx
        rcases List.mem_append.1 hx with hx | hx
        · exact l1.2 x hx
        · rw [(List.mem_replicate.1 hx).2]; omega
      · intro x hx
        rcases List.mem_append.1 hx with hx | hx
        · have := l2.2 x hx
          omega
        · rw [(List.mem_replicate.1 hx).2]; omega
      rintro _ w7 own7 rfl H7
      refine ⟨rfl, ?_⟩
      rw [i64_next _ (by omega)]
      refine ih (i + 1) b1 b mp c es own7 w7 (by omega) hm ?_
      have k1 : ∀ k ∈ d.x.kids, 0 ≤ k ∧ k < ((lnsX hd (xs (l.take i))).length : Int) := fun k hk' => by rw [l1.1, hlt]; exact hk k hk'
      have k2 : ∀ k ∈ d.x.kids, 0 ≤ k ∧ k < ((dpsX (xs (l.take i))).length : Int) := fun k hk' => by rw [l2.1, hlt]; exact hk k hk'
      rw [et, lns_snoc, dps_snoc, List.map_append]
      rw [set_rep (by rw [l1.1, hlt]), set_rep (by rw [l2.1, hlt])] at H7
      unfold len1 dep1 at H7 ⊢
      rw [(rows_app k1).1, (rows_app k2).2] at H7
      exact H7.take 3
  refine print_newPrinter.ok _ w _ (H.nw fun w1 hs1 H1 => ⟨s, H1.ld 0 0, ?_⟩)
  refine nw_region (w0 := w) (b1 := w.heap.size) (n := l.length) (g := s) (D := [.gr s l]) (by kernel_rfl) (by omega) rfl (by rw [hn]; rfl) H1 fun f b E' w2 e1 e4 H2 => ?_
  obtain ⟨own, H3⟩ := pr_make H2
  show W.asRef (Env.get? E' 1) fun g1 => W.asPtr (Env.get? E' 4) fun p4 => print_newPrinter.S0 g1 p4 w2 _
  rw [e1, e4]
  refine (c_words w2).mono ?_
  rintro _ w3 ⟨⟨mp, es, c, rfl, hmp, hob, hm⟩, f3⟩
  have H4 := H3.push (.ob mp (.map es c)) f3 hob fun b hb => by simp [En.ob] at hb; omega
  exact ⟨_, rfl, s, H4.ld 0 0, loop l.length 0 _ b mp c es own w3 (by omega) hm H4⟩
end Go.Proofs.YtnpkhgljhcnpcaaGreatDoor
set_option maxRecDepth 100000
set_option maxHeartbeats 1000000
namespace Go.Proofs.YtnpkhgljhcnpcaaGreatDoor
open Go Go.W

/-! ### Plain: the texts -/
section
variable (hd : Nx → ByteArray)
def kidB (ts : List (List UInt8)) (k : Int) : List UInt8 := 32 :: ts.getD k.toNat []
def tx1 (ts : List (List UInt8)) (n : Nx) : List UInt8 := bl (hd n) ++ n.kids.flatMap (kidB ts) ++ if n.kids = [] then [] else [41]
def txsX (g : List Nx) : List (List UInt8) := g.foldl (fun ts n => ts ++ [tx1 hd ts n]) []
theorem txs_snoc (g : List Nx) (n : Nx) : txsX hd (g ++ [n]) = txsX hd g ++ [tx1 hd (txsX hd g) n] := by unfold txsX; rw [List.foldl_append]; rfl
theorem txs_len (g : List Nx) : (txsX hd g).length = g.length := by
  induction g using snoc_ind with
  | h0 => rfl
  | h1 g n ih => rw [txs_snoc]; simp [ih]
theorem txs_app (g r : List Nx) : ∃ t, txsX hd (g ++ r) = txsX hd g ++ t := by
  induction r using snoc_ind with
  | h0 => exact ⟨[], by simp⟩
  | h1 r n ih =>
    obtain ⟨t, ht⟩ := ih
    exact ⟨t ++ [tx1 hd (txsX hd (g ++ r)) n], by rw [← List.append_assoc, txs_snoc, ht, List.append_assoc]⟩
theorem kidB_app {ts t : List (List UInt8)} {k : Int} (h : 0 ≤ k ∧ k < (ts.length : Int)) : kidB (ts ++ t) k = kidB ts k := by
  unfold kidB
  rw [List.getD_eq_getElem?_getD, List.getD_eq_getElem?_getD, List.getElem?_append_left (by omega)]
theorem flat_congr {α β : Type} {f g : α → List β} : ∀ {l : List α}, (∀ a ∈ l, f a = g a) → l.flatMap f = l.flatMap g
  | [], _ => rfl
  | a :: l, h => by rw [List.flatMap_cons, List.flatMap_cons, h a (by simp), flat_congr fun b hb => h b (by simp [hb])]
theorem tx1_app {ts t : List (List UInt8)} {n : Nx} (h : ∀ k ∈ n.kids, 0 ≤ k ∧ k < (ts.length : Int)) : tx1 hd (ts ++ t) n = tx1 hd ts n := by
  unfold tx1
  rw [flat_congr fun k hk => kidB_app (h k hk)]
/-- the text of a node, by those of all nodes -/
theorem txs_get {g : List Nx} (hg : KidsLt g) {i : Nat} {n : Nx} (hi : g[i]? = some n) : (txsX hd g)[i]? = some (tx1 hd (txsX hd g) n) := by
  have hl := (List.getElem?_eq_some_iff.1 hi).1
  have e : g = g.take i ++ [n] ++ g.drop (i + 1) := by
    have := List.take_append_drop (i + 1) g
    rw [List.take_add_one, hi] at this
    exact this.symm
  have hti : (txsX hd (g.take i)).length = i := by rw [txs_len]; simp; omega
  obtain ⟨t, ht⟩ := txs_app hd (g.take i ++ [n]) (g.drop (i + 1))
  rw [← e, txs_snoc] at ht
  rw [ht, List.append_assoc, tx1_app hd (fun k hk => by rw [hti]; exact hg i n hi k hk), List.getElem?_append_right (by omega), hti, Nat.sub_self]
  rfl
end
/-! ### write -/
theorem pr_cells {w : World} {b : Nat} {g : Sl} {hs : List ByteArray} {ls ds : List Nat} {own : List Nat} (h : PrRep w b g hs ls ds own) :
    ∃ sh sl sd : Sl, w.cell? ((at0 b).add 0) = some g.v ∧ w.cell? ((at0 b).add 1) = some sh.v ∧ w.cell? ((at0 b).add 2) = some sl.v ∧ w.cell? ((at0 b).add 3) = some sd.v ∧ OwnRow w ty_string 1 sh (hs.map Value.string) ∧ OwnRow w ty_int 1 sl (ls.map natV) ∧ OwnRow w ty_int 1 sd (ds.map natV) := by
  obtain ⟨sh, sl, sd, m, sr, ho, hn, hP⟩ := h
  have hc : (En.c b [g.v, sh.v, sl.v, sd.v, .map m, sr.v] ty_print_printer).P w := hP _ (List.mem_of_getElem? (i := 0) rfl)
  exact ⟨sh, sl, sd, cellAt (p := at0 b) hc rfl rfl, cellAt (p := at0 b) hc rfl rfl, cellAt (p := at0 b) hc rfl rfl, cellAt (p := at0 b) hc rfl rfl, hP _ (List.mem_of_getElem? (i := 1) rfl), hP _ (List.mem_of_getElem? (i := 2) rfl), hP _ (List.mem_of_getElem? (i := 3) rfl)⟩
section
variable {hd : Nx → ByteArray} {s : Sl} {l : List Nd} {b : Nat} {ow : List Nat} {ls ds : List Nat}
theorem c_write (hk : ∀ (i : Nat) (d : Nd), l[i]? = some d → ∀ k ∈ d.x.kids, 0 ≤ k ∧ k < (i : Int)) (hf : ∀ d ∈ l, d.x.kids.length ≤ 1000) (i : Nat) : ∀ (t : List UInt8) (w : World) (bb : Nat) (own : List Nat) (bs : List UInt8), (txsX hd (xs l))[i]? = some t → BdRep w bb bs own →
    (∀ e ∈ [En.gr s l, .pr b ow s ((xs l).map hd) ls ds], e.P w ∧ ∀ x ∈ e.fp, x ∉ own) → bs.length + t.length ≤ 10000000 →
    Calls Tryz.prog n_print_printer_write #[.pointer (some (at0 b)), .pointer (some (at0 bb)), .i (i : Int)] w fun r w' => r = .returned (.tuple #[]) ∧ BdAt w bb own (bs ++ t) w' := by
  induction i using Nat.strongRecOn with
  | _ i ih =>
  intro t w bb own bs ht hr hD hbl
  have hl : i < l.length := by have := (List.getElem?_eq_some_iff.1 ht).1; rw [txs_len] at this; simpa [xs] using this
  have ga : l[i]? = some (l[i]'hl) := List.getElem?_eq_getElem hl
  generalize l[i]'hl = d at ga
  have hdm := List.mem_of_getElem? ga
  have gx := xs_get ga
  have hklt : KidsLt (xs l) := by
    intro j n hj k hk'
    have hj' : (l.map Nd.x)[j]? = some n := hj
    rw [List.getElem?_map] at hj'
    obtain ⟨e, he, rfl⟩ := Option.map_eq_some_iff.1 hj'
    exact hk j e he k hk'
  rw [txs_get hd hklt gx] at ht
  have ht := Option.some.inj ht
  have H : LH (· ∈ own) w w [.bd bb own bs] [.gr s l, .pr b ow s ((xs l).map hd) ls ds] := LH.start' _ _ (by
    intro e he
    rw [List.mem_singleton.1 he]
    exact ⟨hr, fun x hx => mem_nub.1 hx⟩) (by simpa using (En.bd bb own bs).nd) (fun e he => ⟨(hD e he).1, fun x hx e' he' hm => by
      rw [List.mem_singleton.1 he'] at hm
      exact (hD e he).2 x hx (mem_nub.1 hm)⟩)
  obtain ⟨sh, sl, sd, c0, c1, c2, c3, r1, r2, r3⟩ := pr_cells (H.getD 1)
  have hb1 : (bl (hd d.x)).length + (d.x.kids.flatMap (kidB (txsX hd (xs l)))).length ≤ t.length := by
    rw [← ht]
    unfold tx1
    simp only [List.length_append]
    omega
  have hsz : (hd d.x).size = (bl (hd d.x)).length := rfl
  refine print_printer_write.ok _ _ _ w _ ⟨sh, c1, row_at r1 rfl (v := .string (hd d.x)) (by rw [List.map_map, List.getElem?_map, gx]; rfl) fun p hp hc => ⟨_, hc, H.bdC 0 rfl (bd_str (H.get 0) (hd d.x) (by omega)) ?_⟩⟩
  rintro _ w1 own1 rfl H1
  obtain ⟨sh1, sl1, sd1, d0, d1, d2, d3, q1, q2, q3⟩ := pr_cells (H1.getD 1)
  refine ⟨_, _, rfl, s, by rw [add_add]; exact d0, gr_at (gr_P.1 (H1.getD 0)) rfl ga fun p hp c' => ⟨d.ks, c'.c1, ?_⟩⟩
  have hkn : d.ks.n = d.x.kids.length := by have h0 : (kidE d).P w1 := (gr_P.1 (H1.getD 0)).2 d hdm; simpa using h0.1
  have hfd := hf d hdm
  have loop : ∀ (r pre : List Int) (w1 : World) (own1 : List Nat), d.x.kids = pre ++ r → LH (· ∈ own) w w1 [.bd bb own1 (bs ++ bl (hd d.x) ++ pre.flatMap (kidB (txsX hd (xs l))))] [.gr s l, .pr b ow s ((xs l).map hd) ls ds] →
      print_printer_write.L0 (at0 b) (at0 bb) d.ks d.ks ((d.ks.n : Nat) : Int) ((pre.length : Nat) : Int) w1 fun r w' => r = .returned (.tuple #[]) ∧ BdAt w bb own (bs ++ t) w' := by
    intro r
    induction r with
    | nil =>
      intro pre w1 own1 hp H1
      rw [List.append_nil] at hp
      subst hp
      have fin : ∀ {w2 : World} {own2 : List Nat}, LH (· ∈ own) w w2 [.bd bb own2 (bs ++ t)] [.gr s l, .pr b ow s ((xs l).map hd) ls ds] → BdAt w bb own (bs ++ t) w2 := fun H2 => ⟨_, H2.get 0, H2.fr, fun x hx => (H2.new _ (List.mem_of_getElem? (i := 0) rfl) x (mem_nub.2 hx)).symm⟩
      refine print_printer_write.L0_step _ _ _ _ _ _ _ _ (sel_false (decide_eq_false (by omega)) (sel_dec (fun h => ?_) (fun h => ?_)))
      · have hk0 : d.x.kids ≠ [] := fun e => by rw [e] at hkn; simp at hkn; omega
        have et : t = bl (hd d.x) ++ d.x.kids.flatMap (kidB (txsX hd (xs l))) ++ [41] := by rw [← ht]; unfold tx1; rw [if_neg hk0]
        refine H1.bdC 0 rfl (bd_byte (H1.get 0) 41 ?_) ?_
        · simp only [List.length_append] at hb1 ⊢
          omega
        rintro _ w2 own2 rfl H2
        refine ⟨_, rfl, rfl, fin (own2 := own2) ?_⟩
        rw [et]
        simpa [List.append_assoc] using H2
      · have hk0 : d.x.kids = [] := List.eq_nil_of_length_eq_zero (by omega)
        have et : t = bl (hd d.x) ++ d.x.kids.flatMap (kidB (txsX hd (xs l))) := by rw [← ht]; unfold tx1; rw [if_pos hk0, List.append_nil]
        refine ⟨rfl, fin (own2 := own1) ?_⟩
        rw [et, ← List.append_assoc]
        exact H1
    | cons k r ihr =>
      intro pre w1 own1 hp H1
      have hg : d.x.kids[pre.length]? = some k := by rw [hp]; simp
      have hpl : pre.length < d.x.kids.length := (List.getElem?_eq_some_iff.1 hg).1
      obtain ⟨k0, k1⟩ := hk i d ga k (List.mem_of_getElem? hg)
      obtain ⟨j, rfl⟩ := Int.eq_ofNat_of_zero_le k0
      have hji : j < i := by omega
      have hjt : (txsX hd (xs l))[j]? = some ((txsX hd (xs l)).getD j []) := by
        rw [List.getD_eq_getElem?_getD, List.getElem?_eq_getElem (by rw [txs_len]; simp [xs]; omega)]
        rfl
      have ek : kidB (txsX hd (xs l)) (j : Int) = 32 :: (txsX hd (xs l)).getD j [] := by unfold kidB; rw [Int.toNat_natCast]
      have hsum : (pre.flatMap (kidB (txsX hd (xs l)))).length + (kidB (txsX hd (xs l)) (j : Int)).length ≤ (d.x.kids.flatMap (kidB (txsX hd (xs l)))).length := by
        rw [hp, List.flatMap_append, List.flatMap_cons]
        simp only [List.length_append]
        omega
      rw [ek] at hsum
      simp only [List.length_cons] at hsum
      have hkd : (kidE d).P w1 := (gr_P.1 (H1.getD 0)).2 d hdm
      refine print_printer_write.L0_step _ _ _ _ _ _ _ _ (sel_true (decide_eq_true (by omega)) ⟨by omega, by omega, Nums.cell hkd hg (by simp) fun p hp' hc => ⟨_, hc, H1.bdC 0 rfl (bd_byte (H1.get 0) 32 (by simp only [List.length_append]; omega)) ?_⟩⟩)
      rintro _ w2 own2 rfl H2
      refine ⟨_, rfl, H2.bdC 0 rfl (ih j hji _ w2 bb own2 _ hjt (H2.get 0) (fun e he => ⟨H2.rd e he, fun x hx hm => H2.dj e he x hx _ (List.mem_of_getElem? (i := 0) rfl) (mem_nub.2 hm)⟩) (by simp only [List.length_append, List.length_cons, List.length_nil]; omega)) ?_⟩
      rintro _ w3 own3 rfl H3
      refine ⟨rfl, ?_⟩
      rw [i64_next _ (by omega)]
      have := ihr (pre ++ [(j : Int)]) w3 own3 (by rw [hp]; simp) (by
        rw [List.flatMap_append, List.flatMap_cons, List.flatMap_nil, List.append_nil, ek]
        simpa [List.append_assoc] using H3)
      rw [List.length_append] at this
      exact this
  exact loop d.x.kids [] w1 own1 rfl (by simpa using H1)
end
/-! ### Lengths are those of the texts -/
theorem cap_sum : ∀ (l : List Nat) (a : Nat), capN (a + (l.map capN).sum) = capN (a + l.sum)
  | [], _ => rfl
  | x :: l, a => by
    rw [List.map_cons, List.sum_cons, List.sum_cons, ← Nat.add_assoc, cap_sum l, ← Nat.add_assoc]
    unfold capN
    omega
theorem kidB_len (ts : List (List UInt8)) : ∀ kids : List Int, (kids.flatMap (kidB ts)).length = kids.length + (kids.map fun k => (ts.getD k.toNat []).length).sum
  | [] => rfl
  | k :: kids => by
    rw [List.flatMap_cons, List.length_append, kidB_len ts kids, List.map_cons, List.sum_cons]
    unfold kidB
    simp only [List.length_cons]
    omega
theorem lns_txs (hd : Nx → ByteArray) (g : List Nx) : lnsX hd g = (txsX hd g).map fun t => capN t.length := by
  induction g using snoc_ind with
  | h0 => rfl
  | h1 g n ih =>
    rw [lns_snoc, txs_snoc, List.map_append, ih]
    congr 1
    simp only [List.map_cons, List.map_nil, List.cons.injEq, and_true]
    have ea : (n.kids.map (atN ((txsX hd g).map fun t => capN t.length))).sum = ((n.kids.map fun k => ((txsX hd g).getD k.toNat []).length).map capN).sum := by
      rw [List.map_map]
      congr 1
      refine List.map_congr_left fun k _ => ?_
      unfold atN
      rw [List.getD_eq_getElem?_getD, List.getElem?_map, Function.comp, List.getD_eq_getElem?_getD]
      cases (txsX hd g)[k.toNat]? <;> rfl
    unfold len1 sumK tx1
    rw [ea]
    have e1 : (bl (hd n) ++ n.kids.flatMap (kidB (txsX hd g)) ++ if n.kids = [] then [] else [41]).length = ((hd n).size + n.kids.length + if n.kids = [] then 0 else 1) + (n.kids.map fun k => ((txsX hd g).getD k.toNat []).length).sum := by
      rw [List.length_append, List.length_append, kidB_len]
      have : (bl (hd n)).length = (hd n).size := rfl
      rw [this]
      split <;> simp <;> omega
    rw [e1, ← cap_sum]
    congr 1
    omega
/-! ### Term -/
section
variable {hd : Nx → ByteArray} {s : Sl} {l : List Nd}
def trmV (n : Nat) (t : List UInt8) : Value := if 64 < n ∨ 65536 < t.length then .tuple #[.s0, .i 4] else .tuple #[.string ⟨t.toArray⟩, .i 0]
theorem c_Term {w : World} (h : GP w s l) (hk : kcE.P w) (hT : l.length ≤ 4096 → ∀ d ∈ l, TOk d.x ∧ WdN d.x) (hv : vldX (xs l) = 0) (ho : PtOk hd l) (hpos : ∀ d ∈ l, 0 < (hd d.x).size) {i : Nat} {t : List UInt8} {n : Nat} (ht : (txsX hd (xs l))[i]? = some t) (hn : (dpsX (xs l))[i]? = some n) :
    Calls Tryz.prog n_print_Term #[.agg #[s.v], .i (i : Int)] w fun r w' => r = .returned (trmV n t) ∧ Fr0 w w' := by
  have hsn := gr_n h
  have hl : i < l.length := by have := (List.getElem?_eq_some_iff.1 ht).1; rw [txs_len] at this; simpa [xs] using this
  have hlen := ho.len
  have ga : l[i]? = some (l[i]'hl) := List.getElem?_eq_getElem hl
  generalize l[i]'hl = d at ga
  have hdm := List.mem_of_getElem? ga
  have hklt : KidsLt (xs l) := by
    intro j n hj k hk'
    have hj' : (l.map Nd.x)[j]? = some n := hj
    rw [List.getElem?_map] at hj'
    obtain ⟨e, he, rfl⟩ := Option.map_eq_some_iff.1 hj'
    exact ho.kids j e he k hk'
  have ht0 : t ≠ [] := fun e => by
    have h1 := txs_get hd hklt (xs_get ga)
    rw [ht] at h1
    have h1 := Option.some.inj h1
    have h2 := hpos d hdm
    have h3 : (bl (hd d.x)).length = (hd d.x).size := rfl
    rw [e] at h1
    have := congrArg List.length h1
    unfold tx1 at this
    simp only [List.length_append, List.length_nil] at this
    omega
  have hln : (lnsX hd (xs l))[i]? = some (capN t.length) := by rw [lns_txs, List.getElem?_map, ht]; rfl
  have hdn : n ≤ 10000 := by
    have := (dps_ok (xs l)).2 n (List.mem_of_getElem? hn)
    simp [xs] at this
    omega
  have H : LH F0 w w [] [.gr s l, kcE] := lh0 _ (by
    intro e he
    simp only [List.mem_cons, List.not_mem_nil, or_false] at he
    rcases he with rfl | rfl
    · exact gr_P.2 h
    · exact hk)
  refine print_Term.okT s _ w _ (H.newg fun b2 w1 H1 => H1.callg (t_Valid (gr_P.1 (H1.getD 0)) (H1.getD 1) hT) ?_)
  rintro _ w2 rfl H2
  rw [hv]
  refine ⟨_, rfl, sel_false rfl (sel_false (decide_eq_false (by omega)) (sel_false (decide_eq_false (by omega)) (H2.callr (c_new (gr_P.1 (H2.getD 0)) ho) ?_)))⟩
  rintro _ w3 ⟨b, own, rfl, hr, hnew⟩ H3 fr
  have H3 : LH F0 w w3 [.g b2] [.gr s l, kcE, .pr b own s ((xs l).map hd) (lnsX hd (xs l)) (dpsX (xs l))] := fr.rd (.pr b own s ((xs l).map hd) (lnsX hd (xs l)) (dpsX (xs l))) hr fun x hx => hnew x (mem_nub.1 hx)
  obtain ⟨sh, sl, sd, c0, c1, c2, c3, r1, r2, r3⟩ := pr_cells (H3.getD 2)
  refine ⟨_, rfl, optP_mk ⟨sd, c3, row_at r3 rfl (v := natV n) (by rw [List.getElem?_map, hn]; rfl) fun p hp hc => ⟨_, hc, sel_dec (fun h64 => ?_) (fun h64 => optP_mk ⟨sl, c2, row_at r2 rfl (v := natV (capN t.length)) (by rw [List.getElem?_map, hln]; rfl) fun p hp hc => ⟨_, hc, sel_dec (fun hbig => ?_) (fun hbig => ?_)⟩⟩)⟩⟩⟩
  · exact ⟨by unfold trmV; rw [if_pos (.inl (by omega))], H3.fr⟩
  · exact ⟨by unfold trmV; rw [if_pos (.inr (by unfold capN at hbig; omega))], H3.fr⟩
  have htl : t.length ≤ 65536 := by unfold capN at hbig; omega
  have hcap : capN t.length = t.length := by unfold capN; omega
  refine H3.nw fun w4 hs4 H4 => ?_
  obtain ⟨sh4, sl4, sd4, e0, e1, e2, e3, q1, q2, q3⟩ := pr_cells (H4.getD 2)
  refine optP_mk ⟨sl4, e2, row_at q2 rfl (v := natV (capN t.length)) (by rw [List.getElem?_map, hln]; rfl) fun p hp hc => ⟨_, hc, ?_⟩⟩
  have hraw := H4.ob 1
  have H4' : LH F0 w w4 ([.g b2] ++ [.bd w3.heap.size [w3.heap.size] []]) [.gr s l, kcE, .pr b own s ((xs l).map hd) (lnsX hd (xs l)) (dpsX (xs l))] := H4.group (.bd w3.heap.size [w3.heap.size] []) ⟨none, ⟨none, 0, 0⟩, .inl rfl, rfl, hraw, Ow.nil _ _⟩ (fun x hx => by simpa [En.ob] using mem_nub.1 hx)
  rw [hcap]
  refine H4'.bdF 1 rfl (bd_Grow hraw (n := t.length) (by omega)) ?_
  rintro _ w5 own5 rfl H5
  have hdis : ∀ {w : World} {o : List Nat} {bs : List UInt8} {w' : World}, LH F0 w w' ([.g b2, .bd w3.heap.size o bs]) [.gr s l, kcE, .pr b own s ((xs l).map hd) (lnsX hd (xs l)) (dpsX (xs l))] → ∀ e ∈ [En.gr s l, .pr b own s ((xs l).map hd) (lnsX hd (xs l)) (dpsX (xs l))], e.P w' ∧ ∀ x ∈ e.fp, x ∉ o := by
    intro w o bs w' H e he
    have hm : e ∈ [En.gr s l, kcE, .pr b own s ((xs l).map hd) (lnsX hd (xs l)) (dpsX (xs l))] := by
      simp only [List.mem_cons, List.not_mem_nil, or_false] at he ⊢
      rcases he with he | he
      · exact .inl he
      · exact .inr (.inr he)
    exact ⟨H.rd e hm, fun x hx hx' => H.dj e hm x hx (.bd w3.heap.size o bs) (by simp) (mem_nub.2 hx')⟩
  refine ⟨rfl, H5.bdF 1 rfl (c_write (hd := hd) ho.kids ho.few i t w5 _ own5 [] ht (H5.get 1) (hdis H5) (by simp; omega)) ?_⟩
  rintro _ w6 own6 rfl H6
  rw [List.nil_append] at H6
  refine ⟨rfl, (· ∈ own6), fun x hx hm => ghost_off H6 (i := 1) rfl (bd_off w6 _ own6 t) (b := x) (by simp at hx; subst hx; simp) (mem_nub.2 hm), (bd_String (H6.get 1) ht0).mono ?_⟩
  rintro _ w7 ⟨rfl, f7⟩
  refine ⟨f7, _, rfl, by unfold trmV; rw [if_neg (by omega)], H6.fr.trans f7 fun x hx hm => ?_⟩
  have := H6.new (.bd w3.heap.size own6 t) (List.mem_of_getElem? (i := 1) rfl) x (mem_nub.2 hm)
  rcases this with h | h
  · omega
  · exact h
end
end Go.Proofs.YtnpkhgljhcnpcaaGreatDoor
set_option maxRecDepth 100000
set_option maxHeartbeats 1000000
namespace Go.Proofs.YtnpkhgljhcnpcaaGreatDoor
open Go Go.W

abbrev hxB : ByteArray := ⟨#[48, 49, 50, 51, 52, 53, 54, 55, 56, 57, 97, 98, 99, 100, 101, 102]⟩
def hx1 (n : Nat) : UInt8 := UInt8.ofNat (if n < 10 then 48 + n else 87 + n)
theorem hx_get : ∀ n < 16, hxB[n]? = some (hx1 n) := by decide
def szN (w : Nat) : Nat := if w % 4 = 0 then 4 else 1
def digN (u w i : Nat) : UInt8 := hx1 (u / 2 ^ ((w / szN w - 1 - i) * szN w) % 2 ^ szN w)
/-- the text of a number -/
def numB (u w : Nat) : List UInt8 := [35, if w % 4 = 0 then 120 else 98] ++ (List.range (w / szN w)).map (digN u w)
theorem mask_eq : ∀ w ≤ 64, 18446744073709551615 / 2 ^ (64 - w) = 2 ^ w - 1 := by decide
theorem c_mask {w : World} {n : Nat} (h : n ≤ 64) : Calls Tryz.prog n_bits_mask #[.i (n : Int)] w fun r w' => r = .returned (.u ((2 ^ n - 1 : Nat) : Int)) ∧ w' = w := by
  have e : IntKind.wrap .i64 (64 - (n : Int)) = ((64 - n : Nat) : Int) := by rw [IntWalk.i64_in _ (by omega)]; omega
  refine bits_mask.ok _ w _ ?_
  rw [e]
  have e2 : min (Int.toNat ((64 - n : Nat) : Int)) (IntKind.bits .u64) = 64 - n := by
    rw [Int.toNat_natCast]
    show min (64 - n) 64 = _
    omega
  have e3 : Int.fdiv 18446744073709551615 (2 ^ (64 - n)) = ((2 ^ n - 1 : Nat) : Int) := by
    have := fdiv_nat 18446744073709551615 (2 ^ (64 - n)) (Nat.two_pow_pos _)
    rw [mask_eq n h, Int.natCast_pow] at this
    exact this
  rw [e2, e3]
  exact ⟨by omega, rfl, rfl⟩
theorem c_bitsText {w0 : World} {u w : Nat} (h1 : 1 ≤ w) (h2 : w ≤ 64) (hu : u < 2 ^ w) : Calls Tryz.prog n_bits_Text #[.u (u : Int), .i (w : Int)] w0 fun r w' => r = .returned (.tuple #[.string (ba (numB u w)), .i 0]) ∧ Fr0 w0 w' := by
  have hz : szN w = 4 ∧ w % 4 = 0 ∨ szN w = 1 ∧ w % 4 ≠ 0 := by unfold szN; split <;> simp [*]
  have hu64 : u < 18446744073709551616 := Nat.lt_of_lt_of_le hu (Nat.pow_le_pow_right (n := 2) (by omega) h2)
  have valid : Calls Tryz.prog n_bits_Valid #[.u (u : Int), .i (w : Int)] w0 fun r w' => r = .returned (.i 0) ∧ w' = w0 := by
    refine bits_Valid.ok _ _ w0 _ (sel_false (decide_eq_false (by omega)) (sel_false (decide_eq_false (by omega)) ((c_mask h2).mono ?_)))
    rintro _ _ ⟨rfl, rfl⟩
    refine ⟨_, rfl, sel_false (decide_eq_false ?_) ⟨rfl, rfl⟩⟩
    have := Nat.two_pow_pos w
    omega
  have loop : ∀ (m i : Nat) (b : Sl) (w1 : World), i + m = w / szN w → LH F0 w0 w1 [.row ty_uint8 1 b (([35, if w % 4 = 0 then 120 else 98] ++ (List.range i).map (digN u w)).map byteV)] [] →
      bits_Text.L2 (u : Int) ((szN w : Nat) : Int) ((w / szN w : Nat) : Int) b ((w / szN w : Nat) : Int) (i : Int) w1 fun r w' => r = .returned (.tuple #[.string (ba (numB u w)), .i 0]) ∧ Fr0 w0 w' := by
    intro m
    induction m with
    | zero =>
      intro i b w1 hi H
      have hr : OwnRow w1 ty_uint8 1 b (([35, if w % 4 = 0 then 120 else 98] ++ (List.range i).map (digN u w)).map byteV) := H.get 0
      refine bits_Text.L2_step _ _ _ _ _ _ _ _ (sel_false (decide_eq_false (by omega)) ⟨_, bytes_str hr.ow1.rd, ?_, H.fr⟩)
      unfold numB
      rw [show i = w / szN w by omega]
    | succ m ih =>
      intro i b w1 hi H
      have hwz : w / szN w ≤ 64 := Nat.le_trans (Nat.div_le_self _ _) h2
      have hmul : (w / szN w) * szN w ≤ w := Nat.div_mul_le_self _ _
      have hs : (w / szN w - 1 - i) * szN w < 64 := by
        have : (w / szN w - 1 - i) * szN w + szN w ≤ (w / szN w) * szN w := by
          rw [← Nat.succ_mul]
          exact Nat.mul_le_mul_right _ (by omega)
        rcases hz with hz | hz <;> omega
      have e1 : IntKind.wrap .i64 (((w / szN w : Nat) : Int) - 1) = ((w / szN w - 1 : Nat) : Int) := by rw [IntWalk.i64_in _ (by omega)]; omega
      have e2 : IntKind.wrap .i64 (((w / szN w - 1 : Nat) : Int) - (i : Int)) = ((w / szN w - 1 - i : Nat) : Int) := by rw [IntWalk.i64_in _ (by omega)]; omega
      have e3 : IntKind.wrap .i64 (((w / szN w - 1 - i : Nat) : Int) * ((szN w : Nat) : Int)) = (((w / szN w - 1 - i) * szN w : Nat) : Int) := by
        rw [← Int.natCast_mul, IntWalk.i64_in _ (by omega)]
      have e4 : min (Int.toNat (((w / szN w - 1 - i) * szN w : Nat) : Int)) (IntKind.bits .u64) = (w / szN w - 1 - i) * szN w := by
        rw [Int.toNat_natCast]
        show min _ 64 = _
        omega
      have e5 : Int.fdiv (u : Int) (2 ^ ((w / szN w - 1 - i) * szN w)) = ((u / 2 ^ ((w / szN w - 1 - i) * szN w) : Nat) : Int) := by
        have := fdiv_nat u (2 ^ ((w / szN w - 1 - i) * szN w)) (Nat.two_pow_pos _)
        rw [Int.natCast_pow] at this
        exact this
      have hq : u / 2 ^ ((w / szN w - 1 - i) * szN w) < 18446744073709551616 := Nat.lt_of_le_of_lt (Nat.div_le_self _ _) hu64
      have hz4 : szN w ≤ 64 := by rcases hz with hz | hz <;> omega
      have hp16 : 2 ^ szN w ≤ 16 := by rcases hz with ⟨hz, _⟩ | ⟨hz, _⟩ <;> rw [hz] <;> decide
      have hp0 := Nat.two_pow_pos (szN w)
      have e6 : bAnd .u64 ((u / 2 ^ ((w / szN w - 1 - i) * szN w) : Nat) : Int) ((2 ^ szN w - 1 : Nat) : Int) = ((u / 2 ^ ((w / szN w - 1 - i) * szN w) % 2 ^ szN w : Nat) : Int) := by
        rw [bAnd_nat _ _ hq (by omega), Nat.and_two_pow_sub_one_eq_mod]
      have hlt : u / 2 ^ ((w / szN w - 1 - i) * szN w) % 2 ^ szN w < 16 := Nat.lt_of_lt_of_le (Nat.mod_lt _ hp0) hp16
      refine bits_Text.L2_step _ _ _ _ _ _ _ _ (sel_true (decide_eq_true (by omega)) (H.dr fun w2 H2 => ?_))
      rw [e1, e2, e3, e4, e5]
      refine ⟨by omega, (c_mask hz4).mono ?_⟩
      rintro _ _ ⟨rfl, rfl⟩
      refine ⟨_, rfl, ?_⟩
      dsimp only
      rw [e6]
      refine ⟨by omega, digN u w i, by rw [Int.toNat_natCast]; exact hx_get _ hlt, ?_⟩
      have hbn : b.n = i + 2 := by
        have h0 : OwnRow _ ty_uint8 1 b (([35, if w % 4 = 0 then 120 else 98] ++ (List.range i).map (digN u w)).map byteV) := H2.get 0
        have := h0.len
        simp at this
        omega
      refine H2.ap1 0 el_bytes rfl (fun s' w3 H3 _ _ => ?_) (by omega)
      rw [i64_next _ (by omega)]
      refine ih (i + 1) s' w3 (by omega) ?_
      have er : (List.range (i + 1)).map (digN u w) = (List.range i).map (digN u w) ++ [digN u w i] := by rw [List.range_succ, List.map_append]; rfl
      rw [er, ← List.append_assoc, List.map_append]
      exact H3
  have start : ∀ (mk : UInt8), (mk = if w % 4 = 0 then 120 else 98) → bits_Text.S0 (u : Int) (w : Int) (mk.toNat : Int) ((szN w : Nat) : Int) w0 fun r w' => r = .returned (.tuple #[.string (ba (numB u w)), .i 0]) ∧ Fr0 w0 w' := by
    intro mk hmk
    have hz1 : szN w ≠ 0 := by rcases hz with hz | hz <;> omega
    have ed : Int.tdiv (w : Int) ((szN w : Nat) : Int) = ((w / szN w : Nat) : Int) := rfl
    have hwz : w / szN w ≤ 64 := Nat.le_trans (Nat.div_le_self _ _) h2
    have hq0 := Int.natCast_nonneg (w / szN w)
    refine ⟨by omega, ?_⟩
    rw [ed, IntWalk.i64_in _ (by omega)]
    have e2 : IntKind.wrap .i64 (((w / szN w : Nat) : Int) + 2) = ((w / szN w + 2 : Nat) : Int) := by rw [IntWalk.i64_in _ (by omega)]; omega
    unfold bits_Text.S1
    rw [e2]
    obtain ⟨w1, r1, r2, r3⟩ := make_own el_bytes w0 .i64 .i64 (w / szN w + 2) (by omega)
    have H0 : LH F0 w0 w0 [] [] := lh0 _ (by simp)
    have H1 : LH F0 w0 w1 [.row ty_uint8 1 ⟨some ⟨w0.heap.size, 0, none⟩, 0, w / szN w + 2⟩ ([] : List Value)] [] := H0.pushg r3 r2.2 (by intro b hb; simp [blkL] at hb; omega)
    refine ⟨⟨some ⟨w0.heap.size, 0, none⟩, 0, w / szN w + 2⟩, w1, r1, H1.nwx fun w2 hs2 H2 hb2 => ?_⟩
    refine H2.ap 0 el_bytes rfl (src := ⟨some (at0 w1.heap.size), 2, 2⟩) (news := [byteV 35, byteV mk]) (blk_rdn (sz := 1) (n := 2) hb2 rfl).2.2 rfl (by intro u hu; simp at hu; rcases hu with rfl | rfl <;> rfl) (by show (0 + 2) * 1 ≤ _; omega) fun s' w3 H3 _ _ => ?_
    refine loop (w / szN w) 0 s' w3 (by omega) ?_
    rw [← hmk]
    exact H3
  refine bits_Text.ok _ _ w0 _ (valid.mono ?_)
  rintro _ _ ⟨rfl, rfl⟩
  have hm : Int.tmod (w : Int) 4 = ((w % 4 : Nat) : Int) := rfl
  refine ⟨_, rfl, sel_false rfl (sel_eq (fun h => ?_) (fun h => ?_))⟩
  · rw [hm] at h
    have h0 : w % 4 = 0 := by omega
    have := start 120 (by rw [if_pos h0])
    rw [show szN w = 4 by unfold szN; rw [if_pos h0]] at this
    exact this
  · rw [hm] at h
    have h0 : ¬ w % 4 = 0 := by omega
    have := start 98 (by rw [if_neg h0])
    rw [show szN w = 1 by unfold szN; rw [if_neg h0]] at this
    exact this
end Go.Proofs.YtnpkhgljhcnpcaaGreatDoor
set_option maxRecDepth 100000
set_option maxHeartbeats 1000000
namespace Go.Proofs.YtnpkhgljhcnpcaaGreatDoor
open Go Go.W

/-- the table, out of the row's condition -/
theorem kc_of {W : World} (h : laidMetH Tryz.prog [("enthymeme/term.kidCounts", Rows.laid_enthymeme_term_kidCounts)] W) : kcE.P W := by
  rw [MakeChecks.laidMetH_plain _ _ _ (by kernel_rfl)] at h
  have ht := Go.Lib.tabIs_of_head (k := .i64) (zs := kcL) (g := 0) (t := ty_35_int) (e := ty_int) (n := 35) (by kernel_rfl) (by kernel_rfl) (by kernel_rfl) (by kernel_rfl) (by kernel_rfl) (by kernel_rfl) h
  refine rd_in rfl (Nat.le_refl _) (fun h => by cases h) (fun i v hi => ⟨at0 0, rfl, ?_⟩)
  have hl : i < kcL.length := by
    have := (List.getElem?_eq_some_iff.1 hi).1
    simpa using this
  have hc := ht.cell (g := 0) (by kernel_rfl) i hl
  rw [List.getElem?_map, List.getElem?_eq_getElem hl] at hi
  rw [List.getD, List.getElem?_eq_getElem hl] at hc
  simp only [Option.map_some, Option.some.injEq] at hi
  rw [← hi]
  rw [show (at0 0).add i = ⟨0, i, none⟩ from addz 0 i]
  exact hc
end Go.Proofs.YtnpkhgljhcnpcaaGreatDoor
set_option maxRecDepth 100000
set_option maxHeartbeats 1000000
namespace Go.Proofs.YtnpkhgljhcnpcaaGreatDoor
open Go Go.W

theorem laid_tail {P : Program} {a : String × DataW Unit} {r : List (String × DataW Unit)} {W : World} (h : laidMet P (a :: r) W) : laidMet P r W := by
  obtain ⟨n, d⟩ := a
  obtain ⟨ps, ⟨g, t, cs, fuel, p, q, _, _, _, _, hr, rfl⟩, hn, hc⟩ := h
  exact ⟨q, hr, (List.nodup_append.1 hn).2.1, fun b off hm => hc b off (by simp [hm])⟩
theorem kc_of4 {W : World} (h : laidMetH Tryz.prog [("math/bits.deBruijn32tab", Rows.laid_math_bits_deBruijn32tab), ("math/bits.deBruijn64tab", Rows.laid_math_bits_deBruijn64tab), ("internal/strconv.uint64pow10", Rows.laid_internal_strconv_uint64pow10), ("enthymeme/term.kidCounts", Rows.laid_enthymeme_term_kidCounts)] W) : kcE.P W := by
  rw [MakeChecks.laidMetH_plain _ _ _ (by kernel_rfl)] at h
  have h := laid_tail (laid_tail (laid_tail h))
  rw [← MakeChecks.laidMetH_plain _ _ _ (by kernel_rfl)] at h
  exact kc_of h
/-! ### Heads of the three kinds that lives has -/
theorem lookup_int0 {P : Program} {T kt et : TypeId} {kd : IntKind} {z : Value} (mo : MapOk P T kt et kd z) {w : World} {mb : Nat} {es : Array MapEntry} {clock : Nat} {ms : List (Int × Value)}
    (hm : w.heap[mb]? = some (.map es clock)) (hms : MapIs kd es ms) (k : Int) :
    (Instr.lookup T (.map (some mb)) (.int kd k) false).run P w = .ok ((mget ms k).getD z) w := by
  have hf := findNow_int (k := k) (i := 0) hms
  have hg : (getObj mb).run P w = .ok (.map es clock) w := by simp [getObj, Sem.run, hm]
  have hg2 := mget_idx (ms := ms) (k := k) (i := 0)
  unfold Instr.lookup Instr.findKey
  simp only [Sem.run_bind, run_underlying mo.hT, Result.andThen_ok, hg, Sem.run_pure, checkKey_int mo.hk, run_underlying mo.hk, hf]
  cases hr : ((ms.findIdx? fun p => p.1 == k).bind fun j => (ms[j]?).map fun p => (0 + j, p.2)) with
  | none => rw [hr] at hg2; simp [← hg2, zeroValue_run mo.hz]
  | some q => rw [hr] at hg2; simp [← hg2]
def hdL (n : Nx) : ByteArray := if n.op = 0 then n.tx else if n.op = 1 then ba (numB n.u.toNat n.st.n.toNat) else ByteArray.mk #[40] ++ ByteArray.mk #[97, 110, 100]
theorem hd_var {d : Nd} (h : d.x.op = 0) : HdOk hdL d := by
  intro w m es c hm hms
  refine print_nodeHead.okT _ _ _ _ _ _ _ _ _ _ w _ ((lh0 [] (by simp)).newg fun b1 w1 H1 => sel_true (by rw [h]; rfl) ⟨?_, H1.fr⟩)
  unfold hdL
  rw [if_pos h]
theorem hd_num {d : Nd} {u n : Nat} (h : d.x.op = 1) (hu : d.x.u = (u : Int)) (hn : d.x.st.n = (n : Int)) (h1 : 1 ≤ n) (h2 : n ≤ 64) (h3 : u < 2 ^ n) : HdOk hdL d := by
  intro w m es c hm hms
  refine print_nodeHead.okT _ _ _ _ _ _ _ _ _ _ w _ ((lh0 [] (by simp)).newg fun b1 w1 H1 => sel_false (by rw [h]; rfl) (sel_true (by rw [h]; rfl) ?_))
  rw [hu, hn]
  refine H1.callg (c_bitsText h1 h2 h3) ?_
  rintro _ w2 rfl H2
  refine ⟨_, _, rfl, ?_, H2.fr⟩
  unfold hdL
  rw [if_neg (by omega), if_pos h, hu, hn, Int.toNat_natCast, Int.toNat_natCast]
theorem hd_and {d : Nd} (h : d.x.op = 6) : HdOk hdL d := by
  intro w m es c hm hms
  refine print_nodeHead.okT _ _ _ _ _ _ _ _ _ _ w _ ((lh0 [.ob m (.map es c)] (by
    intro e he
    rw [List.mem_singleton.1 he]
    exact hm)).newg fun b1 w1 H1 => sel_false (by rw [h]; rfl) (sel_false (by rw [h]; rfl) (sel_false (by rw [h]; rfl) (sel_false (by rw [h]; rfl) ?_))))
  have hl := lookup_int0 (P := Tryz.prog) mo_words (show w1.heap[m]? = some (.map es c) from H1.getD 0) hms d.x.op
  rw [h] at hl ⊢
  refine ⟨ByteArray.mk #[97, 110, 100], hl, by decide, ?_⟩
  refine sel_false rfl (sel_false rfl (sel_false rfl (sel_false rfl (sel_false rfl ⟨?_, H1.fr⟩))))
  unfold hdL
  rw [if_neg (by omega), if_neg (by omega)]
/-! ### lives -/
def plX : Nx := ⟨0, [], 0, 0, 0, ba [120], ⟨0, 4, 0⟩⟩
def plN : Nx := ⟨1, [], 0, 0, 5, ba [], ⟨0, 4, 0⟩⟩
def plA : Nx := ⟨6, [0, 1], 0, 0, 0, ba [], ⟨0, 4, 0⟩⟩
abbrev plG (b : Nat) : List Nd := [⟨plX, ⟨none, 0, 0⟩⟩, ⟨plN, ⟨none, 0, 0⟩⟩, ⟨plA, ⟨some (at0 b), 2, 2⟩⟩]
theorem pl_valid : vldX [plX, plN, plA] = 0 := by kernel_rfl
theorem pl_text : (txsX hdL [plX, plN, plA])[2]? = some [40, 97, 110, 100, 32, 120, 32, 35, 120, 53, 41] := by decide
theorem pl_dep : (dpsX [plX, plN, plA])[2]? = some 1 := by decide
theorem pl_plain : ∀ n ∈ [plX, plN, plA], (n.op = 3 → n.kids = []) ∧ n.kids.length ≤ 1000 ∧ (hdL n).size ≤ 100000 ∧ 0 < (hdL n).size := by decide
theorem pl_in {b : Nat} {d : Nd} (h : d ∈ plG b) : d.x ∈ [plX, plN, plA] := List.mem_map.2 ⟨d, h, rfl⟩
theorem pl_ok (b : Nat) : PtOk hdL (plG b) := by
  refine ⟨fun d hd => ?_, fun i d hd => ?_, fun d hd => (pl_plain _ (pl_in hd)).1, fun d hd => (pl_plain _ (pl_in hd)).2.1, fun d hd => (pl_plain _ (pl_in hd)).2.2.1, by simp⟩
  · simp only [List.mem_cons, List.not_mem_nil, or_false] at hd
    rcases hd with rfl | rfl | rfl
    · exact hd_var rfl
    · exact hd_num (u := 5) (n := 4) rfl rfl rfl (by decide) (by decide) (by decide)
    · exact hd_and rfl
  · rcases i with _ | _ | _ | i
    · simp at hd; subst hd; intro k hk; cases hk
    · simp at hd; subst hd; intro k hk; cases hk
    · simp at hd; subst hd
      intro k hk
      have hk : k ∈ [(0 : Int), 1] := hk
      simp at hk
      omega
    · simp at hd
theorem pl_tok : ∀ d ∈ [plX, plN, plA], TOk d ∧ WdN d := by
  intro d hd
  simp only [List.mem_cons, List.not_mem_nil, or_false] at hd
  rcases hd with rfl | rfl | rfl
  all_goals
    refine ⟨⟨by decide, by decide, by decide, by decide, fun h => absurd h (by decide)⟩, ?_⟩
    constructor
    all_goals first
      | decide
      | (intro k hk; revert k; decide)
theorem c_lives11 (w : World) (hk : kcE.P w) : Calls Tryz.prog n_enthymemelaw11_lives #[] w fun r w' => r = .returned (.bool true) ∧ Fr0 w w' := by
  have H : LH F0 w w [] [kcE] := lh0 _ (by
    intro e he
    simp only [List.mem_cons, List.not_mem_nil, or_false] at he
    subst he
    exact hk)
  refine enthymemelaw11_lives.okT w _ (H.newg fun b1 w1 H1 => H1.locg fun w2 H2 => H2.nw fun w3 hs3 H3 => H3.nw fun w4 hs4 H4 => H4.newg fun b2 w5 H5 => H5.locg fun w6 H6 => ?_)
  have G : GP w6 ⟨some (at0 w3.heap.size), 3, 3⟩ (plG w2.heap.size) := ⟨blk_rdn (H6.ob 2) rfl, fun d hd => by
    simp only [List.mem_cons, List.not_mem_nil, or_false] at hd
    rcases hd with rfl | rfl | rfl
    · exact Rd.nil w6
    · exact Rd.nil w6
    · exact blk_nums (T := ty_int) (H6.ob 1) rfl⟩
  refine H6.callg (c_Term (hd := hdL) (i := 2) G (H6.getD 0) (fun _ d hd => pl_tok d.x (List.mem_map.2 ⟨d, hd, rfl⟩)) pl_valid (pl_ok _) (fun d hd => (pl_plain _ (pl_in hd)).2.2.2) pl_text pl_dep) ?_
  · rintro _ w7 rfl H7
    exact ⟨_, _, rfl, sel_true rfl ⟨by simp, H7.fr⟩⟩
/-! ### The walk -/
theorem ints_at {w : World} {b n : Nat} {l : List Int} {T : TypeId} (h : w.heap[b]? = some (.cells (l.map intV).toArray T (0, 0))) {X : Int} {j : Nat} (hX : X = (j : Int)) (hn : n = l.length) (hj : j < l.length) {K : Addr → Prop}
    (hk : ∀ p, (∃ v : Int, l[j]? = some v ∧ w.cell? (p.add (Int.toNat X * 1)) = some (.i v)) → p = at0 b → K p) : (0 : Int) ≤ X ∧ X < ((n : Nat) : Int) ∧ optP (some (at0 b)) K := by
  subst hX
  refine ⟨by omega, by omega, optP_mk (hk _ ⟨l[j], List.getElem?_eq_getElem hj, ?_⟩ rfl)⟩
  rw [Int.toNat_natCast, Nat.mul_one]
  exact cellAt (p := at0 b) h rfl (by simp [hj]; rfl)
theorem printSorts_walk (W : World) (hL : laidMetH Tryz.prog [("math/bits.deBruijn32tab", Rows.laid_math_bits_deBruijn32tab), ("math/bits.deBruijn64tab", Rows.laid_math_bits_deBruijn64tab), ("internal/strconv.uint64pow10", Rows.laid_internal_strconv_uint64pow10), ("enthymeme/term.kidCounts", Rows.laid_enthymeme_term_kidCounts)] W) (kind n index : Int) (w0 : I64 kind) (w1 : I64 n) (w2 : I64 index) :
    Calls Tryz.prog n_enthymemelaw11_PrintSorts #[.i kind, .i n, .i index] W fun r w' => r = .returned (.bool true) ∧ Fr0 W w' := by
  have hk := kc_of4 hL
  have H : LH F0 W W [] [kcE] := lh0 _ (by
    intro e he
    rw [List.mem_singleton.1 he]
    exact hk)
  refine enthymemelaw11_PrintSorts.okT kind n index W _ (H.nw fun v1 hs1 H1 => H1.call (n_around n 66 v1 (by omega) w1) ?_)
  rintro _ v2 rfl H2
  refine ⟨_, rfl, H2.nw fun v3 hs3 H3 => H3.call (n_around index 18 v3 (by omega) w2) ?_⟩
  rintro _ v4 rfl H4
  refine ⟨_, rfl, H4.nw fun v5 hs5 H5 => ?_⟩
  have loop : ∀ (m i : Nat) (w : World), i + m = 210 → LH F0 W w ([.c W.heap.size ([0, 1, 2, 3, 4, -1, kind].map intV) ty_int] ++ [.c v2.heap.size ([aroundI n 66, n, 0, 1, 64, 65].map intV) ty_int] ++ [.c v4.heap.size ([0, aroundI index 18, index, 16, 17].map intV) ty_int]) [kcE] →
      enthymemelaw11_PrintSorts.L0T ⟨some (nb W), 7, 7⟩ ⟨some (nb v2), 6, 6⟩ ⟨some (nb v4), 5, 5⟩ (i : Int) w fun r w' => r = .returned (.bool true) ∧ Fr0 W w' := by
    intro m
    induction m with
    | zero =>
      intro i w hi H
      refine enthymemelaw11_PrintSorts.L0T_step _ _ _ _ _ _ (sel_false (decide_eq_false (by omega)) (H.call (c_lives11 w (H.getD 0)) ?_))
      rintro _ w' rfl H'
      exact ⟨_, rfl, rfl, H'.fr⟩
    | succ m ih =>
      intro i w hi H
      have e1 : Int.tmod (i : Int) 7 = ((i % 7 : Nat) : Int) := rfl
      have e2 : Int.tdiv (i : Int) 7 = ((i / 7 : Nat) : Int) := rfl
      have e3 : Int.tmod ((i / 7 : Nat) : Int) 6 = ((i / 7 % 6 : Nat) : Int) := rfl
      have e4 : Int.tdiv (i : Int) 42 = ((i / 42 : Nat) : Int) := rfl
      refine enthymemelaw11_PrintSorts.L0T_step _ _ _ _ _ _ (sel_true (decide_eq_true (by omega)) (H.dr fun w6 H6 => ?_))
      rw [e1, e2, e4, IntWalk.i64_in ((i / 7 : Nat) : Int) (by omega), IntWalk.i64_in ((i / 42 : Nat) : Int) (by omega), e3]
      refine ints_at (H6.ob 0) (l := [0, 1, 2, 3, 4, -1, kind]) (j := i % 7) rfl rfl (show i % 7 < 7 by omega) fun p1 h1 hp1 => ?_
      obtain ⟨a1, g1, c1⟩ := h1
      refine ⟨a1, c1, ints_at (H6.ob 1) (l := [aroundI n 66, n, 0, 1, 64, 65]) (j := i / 7 % 6) rfl rfl (show i / 7 % 6 < 6 by omega) fun p2 h2 hp2 => ?_⟩
      obtain ⟨a2, g2, c2⟩ := h2
      refine ⟨a2, c2, ints_at (H6.ob 2) (l := [0, aroundI index 18, index, 16, 17]) rfl rfl (show i / 42 < 5 by omega) fun p3 h3 hp3 => ?_⟩
      obtain ⟨a3, g3, c3⟩ := h3
      subst hp1 hp2 hp3
      refine ⟨a3, c3, H6.newg fun b7 w7 H7 => ⟨?_, ?_, ?_, H7.locg fun w8 H8 => H8.callg (p_Sort ⟨a1, a2, a3⟩ w8) ?_⟩⟩
      · rw [Int.toNat_natCast, Nat.mul_one]
        exact H7.ld 2 _ rfl (by rw [List.getElem?_map, g3]; rfl)
      · rw [Int.toNat_natCast, Nat.mul_one]
        exact H7.ld 1 _ rfl (by rw [List.getElem?_map, g2]; rfl)
      · rw [Int.toNat_natCast, Nat.mul_one]
        exact H7.ld 0 _ rfl (by rw [List.getElem?_map, g1]; rfl)
      rintro _ w9 rfl H9
      refine ⟨_, _, rfl, H9.callg (c_Sort ⟨a1, a2, a3⟩ w9) ?_⟩
      rintro _ w10 rfl H10
      refine ⟨_, _, rfl, sel_false (by simp) (sel_ne (fun h => absurd rfl h) (fun _ => ?_))⟩
      rw [i64_next _ (by omega)]
      exact ih (i + 1) w10 (by omega) (H10.take 3)
  exact loop 210 0 v5 rfl H5
end Go.Proofs.YtnpkhgljhcnpcaaGreatDoor

/-
  Memory, for proofs over the printed conditions: frames, rows, appends, maps with integer keys. No program in sight.
-/
import Derived.Test.YtknlbofiicflgaaGreatW
import Derived.Below
import Derived.OwnWalk
import Derived.IntWalk
import Derived.Laws.AppendOwnNone
namespace Go.W
open Go.RowKit

/-! ### Frames -/
structure Fr (M : Nat → Prop) (w w' : World) : Prop where
  os : w'.os = w.os
  tape : w'.tape = w.tape
  output : w'.output = w.output
  size : w.heap.size ≤ w'.heap.size
  keep : ∀ b, b < w.heap.size → ¬ M b → w'.heap[b]? = w.heap[b]?

theorem Fr.refl (M : Nat → Prop) (w : World) : Fr M w w := ⟨rfl, rfl, rfl, Nat.le_refl _, fun _ _ _ => rfl⟩
theorem Fr.trans {M M' : Nat → Prop} {a b c : World} (h : Fr M a b) (k : Fr M' b c) (hm : ∀ x, x < a.heap.size → M' x → M x) : Fr M a c :=
  ⟨k.os.trans h.os, k.tape.trans h.tape, k.output.trans h.output, Nat.le_trans h.size k.size,
    fun x hx hn => (k.keep x (Nat.lt_of_lt_of_le hx h.size) (fun e => hn (hm x hx e))).trans (h.keep x hx hn)⟩
theorem Fr.mono {M M' : Nat → Prop} {a b : World} (h : Fr M a b) (hm : ∀ x, x < a.heap.size → M x → M' x) : Fr M' a b :=
  ⟨h.os, h.tape, h.output, h.size, fun x hx hn => h.keep x hx (fun e => hn (hm x hx e))⟩
theorem Fr.drew (M : Nat → Prop) (w : World) : Fr M w w.drew := ⟨rfl, rfl, rfl, Nat.le_refl _, fun _ _ _ => rfl⟩
theorem Fr.alloc (M : Nat → Prop) (w : World) (o : Obj) : Fr M w (w.alloc o) := ⟨rfl, rfl, rfl, by simp, fun k hk _ => _root_.Go.heap_alloc_old w o k hk⟩
theorem Fr.set {M : Nat → Prop} (w : World) (p : Addr) (v : Value) (h : M p.block) : Fr M w (w.setCell p v) :=
  ⟨rfl, rfl, rfl, by simp [World.setCell], fun k _ hn => Below.heap_setCell w p v k (fun e => hn (e ▸ h))⟩
theorem Fr.grown {M : Nat → Prop} {w w' : World} {r : Option Nat} (h : w.grownBy w' r) (hm : ∀ b, r = some b → M b) : Fr M w w' :=
  ⟨h.os, h.tape, h.output, h.size, fun b hb hn => h.block b hb (fun e => hn (hm b e.symm))⟩
theorem Fr.setObj {M : Nat → Prop} (w : World) (r : Nat) (o : Obj) (h : M r) : Fr M w { w with heap := w.heap.setIfInBounds r o } :=
  ⟨rfl, rfl, rfl, by simp, fun k _ hn => by
    have : r ≠ k := fun e => hn (e ▸ h)
    simp [Array.getElem?_setIfInBounds_ne this]⟩
theorem Fr.below {w w' : World} (h : Fr (fun _ => False) w w') : Below w.heap.size w w' := ⟨h.os, h.tape, h.output, h.size, fun k hk => h.keep k hk (fun e => e)⟩
theorem Fr.at {M : Nat → Prop} {w w' : World} (h : Fr M w w') {b : Nat} {o : Obj} (hb : w.heap[b]? = some o) (hn : ¬ M b) : w'.heap[b]? = some o :=
  (h.keep b (Array.getElem?_eq_some_iff.1 hb).1 hn).trans hb
theorem lt_of_heap {w : World} {b : Nat} {o : Obj} (hb : w.heap[b]? = some o) : b < w.heap.size := (Array.getElem?_eq_some_iff.1 hb).1
theorem heap_new (w : World) (o : Obj) : (w.alloc o).heap[w.heap.size]? = some o := _root_.Go.heap_alloc_new w o
theorem heap_old {w : World} {b : Nat} {x : Obj} (o : Obj) (hb : w.heap[b]? = some x) : (w.alloc o).heap[b]? = some x := (_root_.Go.heap_alloc_old w o b (lt_of_heap hb)).trans hb
theorem size_alloc (w : World) (o : Obj) : (w.alloc o).heap.size = w.heap.size + 1 := by simp

/-! ### Cells of a block -/
theorem cellAt {w : World} {p : Addr} {cs : Array Value} {T : TypeId} {f : Nat × Nat} {i : Nat} {v : Value} (h : w.heap[p.block]? = some (.cells cs T f)) (hs : p.spot = none) (hi : cs[p.off + i]? = some v) :
    w.cell? (p.add i) = some v := by
  unfold Addr.add
  split
  · rename_i h0
    subst h0
    simp [World.cell?, h, hs]
    simpa using hi
  · simp [World.cell?, h, hi]
theorem frozenAt {w : World} {p : Addr} {cs : Array Value} {T : TypeId} {i : Nat} (h : w.heap[p.block]? = some (.cells cs T (0, 0))) : w.frozen? (p.add i) = false := by
  unfold Addr.add
  split <;> simp [World.frozen?, h]
theorem setAt {w : World} {p : Addr} {cs : Array Value} {T : TypeId} {f : Nat × Nat} {i : Nat} {v : Value} (h : w.heap[p.block]? = some (.cells cs T f)) (hs : p.spot = none) :
    (w.setCell (p.add i) v).heap[p.block]? = some (.cells (cs.setIfInBounds (p.off + i) v) T f) := by
  have hb : (p.add i).block = p.block := by unfold Addr.add; split <;> rfl
  have hsp : (p.add i).spot = none := by unfold Addr.add; split <;> simp [hs]
  have ho : (p.add i).off = p.off + i := by unfold Addr.add; split <;> simp_all
  simp [World.setCell, hb, h, hsp, ho, Array.getElem?_modify]
theorem add_block (p : Addr) (i : Nat) : (p.add i).block = p.block := by unfold Addr.add; split <;> rfl

/-! ### Rows -/
def blkL (s : Sl) : List Nat := match s.a with | some p => [p.block] | none => []
/-- the cells of a slice, from its first on -/
def Row (w : World) (T : TypeId) (s : Sl) (vs : List Value) : Prop :=
  (s.a = none ∧ s.n = 0 ∧ s.c = 0 ∧ vs = []) ∨ ∃ b o cs f, s.a = some ⟨b, o, none⟩ ∧ w.heap[b]? = some (.cells cs T f) ∧ ∀ i v, vs[i]? = some v → cs[o + i]? = some v
theorem Row.nil (w : World) (T : TypeId) : Row w T ⟨none, 0, 0⟩ [] := .inl ⟨rfl, rfl, rfl, rfl⟩
theorem Row.keep {w w' : World} {T : TypeId} {s : Sl} {vs : List Value} (h : Row w T s vs) (hk : ∀ b ∈ blkL s, b < w.heap.size → w'.heap[b]? = w.heap[b]?) : Row w' T s vs := by
  rcases h with h | ⟨b, o, cs, f, ha, hb, hc⟩
  · exact .inl h
  · exact .inr ⟨b, o, cs, f, ha, (hk b (by simp [blkL, ha]) (lt_of_heap hb)).trans hb, hc⟩
theorem Row.fr {M : Nat → Prop} {w w' : World} {T : TypeId} {s : Sl} {vs : List Value} (h : Row w T s vs) (hf : Fr M w w') (hn : ∀ b ∈ blkL s, ¬ M b) : Row w' T s vs :=
  h.keep fun b hb hl => hf.keep b hl (hn b hb)
theorem Row.lt {w : World} {T : TypeId} {s : Sl} {vs : List Value} (h : Row w T s vs) : ∀ b ∈ blkL s, b < w.heap.size := by
  rcases h with ⟨ha, _⟩ | ⟨b, o, cs, f, ha, hb, hc⟩
  · simp [blkL, ha]
  · simp [blkL, ha]; exact lt_of_heap hb
/-- the address of an element -/
theorem Row.cell {w : World} {T : TypeId} {s : Sl} {vs : List Value} {i : Nat} {v : Value} (h : Row w T s vs) (hi : vs[i]? = some v) : ∃ p, s.a = some p ∧ w.cell? (p.add i) = some v := by
  rcases h with ⟨_, _, _, rfl⟩ | ⟨b, o, cs, f, ha, hb, hc⟩
  · cases hi
  · exact ⟨_, ha, cellAt (p := ⟨b, o, none⟩) hb rfl (hc i v hi)⟩
theorem Row.optP {w : World} {T : TypeId} {s : Sl} {vs : List Value} {i : Nat} {v : Value} {K : Addr → Prop} (h : Row w T s vs) (hi : vs[i]? = some v) (hk : ∀ p, s.a = some p → (∀ (j : Nat) (u : Value), vs[j]? = some u → w.cell? (p.add j) = some u) → K p) : W.optP s.a K := by
  rcases h with ⟨_, _, _, rfl⟩ | ⟨b, o, cs, f, ha, hb, hc⟩
  · cases hi
  · rw [ha]
    exact hk _ ha fun j u hj => cellAt (p := ⟨b, o, none⟩) hb rfl (hc j u hj)
/-- a row that may be appended to -/
def OwnRow (w : World) (e : TypeId) (sz : Nat) (s : Sl) (xs : List Value) : Prop := w.ownsRow 0 e sz s.v s.n xs
theorem OwnRow.nil (w : World) (e : TypeId) (sz : Nat) : OwnRow w e sz ⟨none, 0, 0⟩ [] := World.ownsRow_nil w 0 e sz
theorem OwnRow.len {w : World} {e : TypeId} {sz : Nat} {s : Sl} {xs : List Value} (h : OwnRow w e sz s xs) : xs.length = s.n * sz := h.1
theorem OwnRow.cases {w : World} {e : TypeId} {sz : Nat} {s : Sl} {xs : List Value} (h : OwnRow w e sz s xs) :
    (s = ⟨none, 0, 0⟩ ∧ xs = []) ∨ ∃ g cur, s.a = some ⟨g, 0, none⟩ ∧ w.heap[g]? = some (.cells cur e (0, 0)) ∧ s.n ≤ s.c ∧ s.c ≤ maxLen ∧ cur.size = s.c * sz ∧ cur.toList.take (s.n * sz) = xs := by
  obtain ⟨a, n, c⟩ := s
  obtain ⟨hl, h⟩ := h
  rcases h with ⟨h1, h2⟩ | ⟨g, cap, cur, h1, _, h2, h3, h4, h5, h6⟩
  · cases h1
    exact .inl ⟨rfl, List.eq_nil_of_length_eq_zero (by simpa using hl)⟩
  · cases h1
    exact .inr ⟨g, cur, rfl, h2, h3, h4, h5, h6⟩
theorem OwnRow.row {w : World} {e : TypeId} {sz : Nat} {s : Sl} {xs : List Value} (h : OwnRow w e sz s xs) : Row w e s xs := by
  rcases h.cases with ⟨rfl, rfl⟩ | ⟨g, cur, ha, hg, _, _, _, ht⟩
  · exact .inl ⟨rfl, rfl, rfl, rfl⟩
  · refine .inr ⟨g, 0, cur, (0, 0), ha, hg, fun i v hi => ?_⟩
    rw [← ht, List.getElem?_take] at hi
    split at hi
    · simpa using hi
    · cases hi
theorem OwnRow.keep {w w' : World} {e : TypeId} {sz : Nat} {s : Sl} {xs : List Value} (h : OwnRow w e sz s xs) (hk : ∀ b ∈ blkL s, b < w.heap.size → w'.heap[b]? = w.heap[b]?) : OwnRow w' e sz s xs := by
  obtain ⟨hl, h⟩ := h
  refine ⟨hl, ?_⟩
  rcases h with h | ⟨g, cap, cur, h1, h2, h3, r⟩
  · exact .inl h
  · have ha : s.a = some ⟨g, 0, none⟩ := (Value.slice.inj h1).1
    exact .inr ⟨g, cap, cur, h1, h2, (hk g (by simp [blkL, ha]) (lt_of_heap h3)).trans h3, r⟩
theorem OwnRow.fr {M : Nat → Prop} {w w' : World} {e : TypeId} {sz : Nat} {s : Sl} {xs : List Value} (h : OwnRow w e sz s xs) (hf : Fr M w w') (hn : ∀ b ∈ blkL s, ¬ M b) : OwnRow w' e sz s xs :=
  h.keep fun b hb hl => hf.keep b hl (hn b hb)
theorem OwnRow.lt {w : World} {e : TypeId} {sz : Nat} {s : Sl} {xs : List Value} (h : OwnRow w e sz s xs) : ∀ b ∈ blkL s, b < w.heap.size := h.row.lt
/-- a literal that was just made -/
theorem OwnRow.made (w : World) (e : TypeId) (sz n : Nat) (cs : List Value) (hc : cs.length = n * sz) (hn : n ≤ maxLen) : OwnRow (w.alloc (.cells cs.toArray e)) e sz ⟨some ⟨w.heap.size, 0, none⟩, n, n⟩ cs :=
  ⟨hc, .inr ⟨w.heap.size, n, cs.toArray, rfl, Nat.zero_le _, heap_new w _, Nat.le_refl _, hn, by simpa using hc, by rw [← hc]; simp⟩⟩
theorem Row.made (w : World) (e : TypeId) (n c : Nat) (cs : List Value) : Row (w.alloc (.cells cs.toArray e)) e ⟨some ⟨w.heap.size, 0, none⟩, n, c⟩ cs :=
  .inr ⟨w.heap.size, 0, cs.toArray, (0, 0), rfl, heap_new w _, fun i v hi => by simpa using hi⟩

/-! ### append -/
theorem ownBlock_v (s : Sl) : s.v.ownBlock = s.a.map (·.block) := by
  obtain ⟨a, n, c⟩ := s
  cases a <;> rfl
structure ElemOk (P : Program) (t e : TypeId) (z : Value) (sz bytes : Nat) : Prop where
  ht : P.underlying t = some (.slice e)
  hi : (P.info? e).map (fun i => (i.zero, i.size, i.bytes)) = some (some z, sz, bytes)
  hz : z.cells.size = sz
  hs : 0 < sz
  hb : 0 < bytes

theorem append_own {P : Program} {t ty e : TypeId} {z : Value} {sz bytes : Nat} (el : ElemOk P t e z sz bytes) {w : World} {s src : Sl} {xs news : List Value}
    {T : TypeId} (ho : OwnRow w e sz s xs) (hr : Row w T src news) (hl : news.length = src.n * sz) (h1 : ∀ u ∈ news, u.oneCell' = true) (hb : (s.n + src.n) * bytes ≤ 140737488355328) :
    ∃ s' w', (Builtin.append_ #[t, t] ty #[s.v, src.v]).run P w = .ok s'.v w' ∧ OwnRow w' e sz s' (xs ++ news) ∧ s'.n = s.n + src.n ∧ Fr (fun b => b ∈ blkL s) w w' ∧
      (∀ b ∈ blkL s', b ∈ blkL s ∨ w.heap.size ≤ b) ∧ (s'.a = none → s.a = none ∧ src.n = 0) := by
  obtain ⟨i, hi, hz, hsz, hby⟩ := info_parts el.hi
  have hbl : s.n + src.n ≤ 140737488355328 := by
    have := Nat.le_mul_of_pos_right (s.n + src.n) el.hb
    omega
  rcases hr with ⟨ha, hn, hc, rfl⟩ | ⟨b, o, cs, f, ha, hbk, hcs⟩
  · -- nothing to append
    obtain ⟨sa, sn, sc⟩ := src
    simp only at ha hn hc
    subst ha hn hc
    have := run_append_owned_none (P := P) (w := w) 0 t ty e i sz el.ht hi s.v s.n xs ho
    refine ⟨s, w, this, by simpa using ho, by simp, Fr.refl _ _, fun b hb => .inl hb, fun h => ⟨h, rfl⟩⟩
  · obtain ⟨sa, sn, sc⟩ := src
    simp only at ha hl hb hbl
    subst ha
    have hnews : ∀ j u, news[j]? = some u → w.cell? ((⟨b, o, none⟩ : Addr).add j) = some u := fun j u hj => cellAt (p := ⟨b, o, none⟩) hbk rfl (hcs j u hj)
    obtain ⟨v', w', hrun, hown, hgr, hnil⟩ := run_append_own (P := P) w 0 t ty e i z sz bytes el.ht hi hz hsz hby el.hz el.hs s.v s.n xs ho ⟨b, o, none⟩ sn sc news hl hnews h1 (by unfold maxLen; omega) hb (Nat.zero_le _)
    have hv : ∃ s' : Sl, v' = s'.v ∧ s'.n = s.n + sn ∧ (s'.a = none → v' = .slice none 0 0) := by
      rcases hown.2 with ⟨h1, h2⟩ | ⟨g, cap, cur, h1, _⟩
      · exact ⟨⟨none, 0, 0⟩, h1, by show 0 = _; omega, fun _ => h1⟩
      · exact ⟨⟨_, _, _⟩, h1, rfl, fun h => by cases h⟩
    obtain ⟨s', rfl, hn', hnn⟩ := hv
    refine ⟨s', w', hrun, ?_, hn', ?_, ?_, ?_⟩
    · unfold OwnRow; rw [hn']; exact hown
    · refine Fr.grown hgr fun g hg => ?_
      rw [ownBlock_v] at hg
      cases hsa : s.a with
      | none => simp [hsa] at hg
      | some p => simp [hsa] at hg; simp [blkL, hsa, hg]
    · -- where the new row lies
      intro g hg
      rcases ho.cases with ⟨rfl, rfl⟩ | ⟨g0, cur, hga, hgg, hnc, hcm, hcsz, htk⟩
      · -- from nil: a new block
        obtain ⟨v2, w2, hrun2, hown2, _, _⟩ := run_append_own (P := P) w w.heap.size t ty e i z sz bytes el.ht hi hz hsz hby el.hz el.hs (.slice none 0 0) 0 [] (World.ownsRow_nil w _ e sz) ⟨b, o, none⟩ sn sc news hl hnews h1 (by unfold maxLen; omega) (by simpa using hb) (Nat.le_refl _)
        have e1 : (Result.ok s'.v w' : Result Value) = .ok v2 w2 := hrun.symm.trans hrun2
        have e2 := (Result.ok.inj e1).1
        subst e2
        rcases hown2.2 with ⟨h1, _⟩ | ⟨g2, cap2, cur2, h1, h2, _⟩
        · have : s'.a = none := (Value.slice.inj h1).1
          simp [blkL, this] at hg
        · have : s'.a = some ⟨g2, 0, none⟩ := (Value.slice.inj h1).1
          simp [blkL, this] at hg
          exact .inr (hg ▸ h2)
      · obtain ⟨sa0, sn0, sc0⟩ := s
        simp only at hga hnc hcsz htk hb hbl
        subst hga
        by_cases hroom : sn0 + sn ≤ sc0
        · subst hsz
          have hfit : sn0 * i.size + news.length ≤ cur.size := by rw [hl, hcsz, ← Nat.add_mul]; exact Nat.mul_le_mul_right _ hroom
          have hr2 := run_append_room (P := P) w t ty e i el.ht hi g0 sn0 sc0 cur hgg ⟨b, o, none⟩ sn sc news hl hnews h1 hroom hfit
          have e1 := hrun.symm.trans hr2
          have : s'.a = some ⟨g0, 0, none⟩ := (Value.slice.inj (Result.ok.inj e1).1).1
          simp [blkL, this] at hg ⊢
          exact .inl hg
        · subst hsz
          have holds : ∀ j u, xs[j]? = some u → w.cell? ((⟨g0, 0, none⟩ : Addr).add j) = some u := World.ownsRow.cells (g := g0) ho rfl
          have hr2 := run_append_grow (P := P) w t ty e i z el.ht hi hz ⟨g0, 0, none⟩ sn0 sc0 xs ho.len holds ⟨b, o, none⟩ sn sc news hl hnews (by omega) (by omega) (growslice_fits (by omega) (by rw [hby]; exact hb))
          have e1 := hrun.symm.trans hr2
          have : s'.a = some ⟨w.heap.size, 0, none⟩ := (Value.slice.inj (Result.ok.inj e1).1).1
          simp [blkL, this] at hg
          exact .inr (by omega)
    · intro h
      have := hnil.1 (hnn h)
      refine ⟨?_, this.2⟩
      exact (Value.slice.inj this.1).1
/-- the type of a row's block -/
theorem Row.typ {w : World} {T : TypeId} {s : Sl} {vs : List Value} (h : Row w T s vs) : ∀ b ∈ blkL s, ∃ cs f, w.heap[b]? = some (.cells cs T f) := by
  rcases h with ⟨ha, _⟩ | ⟨b, o, cs, f, ha, hb, hc⟩
  · simp [blkL, ha]
  · intro b' hb'
    have hbb : b' = b := by simpa [blkL, ha] using hb'
    subst hbb
    exact ⟨cs, f, hb⟩
/-- one element, which the text has just boxed -/
theorem Row.one (w : World) (e : TypeId) (cs : List Value) : Row (w.alloc (.cells cs.toArray e)) e ⟨some ⟨w.heap.size, 0, none⟩, 1, 1⟩ cs := Row.made w e 1 1 cs

/-! ### Two lists side by side -/
def All2 {α β : Type} (R : α → β → Prop) : List α → List β → Prop
  | [], [] => True
  | a :: l, b :: m => R a b ∧ All2 R l m
  | _, _ => False
theorem All2.length {α β : Type} {R : α → β → Prop} : ∀ {l : List α} {m : List β}, All2 R l m → l.length = m.length
  | [], [], _ => rfl
  | _ :: _, _ :: _, h => by simp [All2.length h.2]
  | [], _ :: _, h => h.elim
  | _ :: _, [], h => h.elim
theorem All2.mono {α β : Type} {R R' : α → β → Prop} : ∀ {l : List α} {m : List β}, All2 R l m → (∀ a ∈ l, ∀ b ∈ m, R a b → R' a b) → All2 R' l m
  | [], [], _, _ => trivial
  | _ :: _, _ :: _, h, k => ⟨k _ List.mem_cons_self _ List.mem_cons_self h.1, All2.mono h.2 fun a ha b hb => k a (List.mem_cons_of_mem _ ha) b (List.mem_cons_of_mem _ hb)⟩
  | [], _ :: _, h, _ => h.elim
  | _ :: _, [], h, _ => h.elim
theorem All2.append {α β : Type} {R : α → β → Prop} : ∀ {l : List α} {m : List β} {l' : List α} {m' : List β}, All2 R l m → All2 R l' m' → All2 R (l ++ l') (m ++ m')
  | [], [], _, _, _, h' => h'
  | _ :: _, _ :: _, _, _, h, h' => ⟨h.1, All2.append h.2 h'⟩
  | [], _ :: _, _, _, h, _ => h.elim
  | _ :: _, [], _, _, h, _ => h.elim
theorem All2.drop {α β : Type} {R : α → β → Prop} : ∀ (k : Nat) {l : List α} {m : List β}, All2 R l m → All2 R (l.drop k) (m.drop k)
  | 0, _, _, h => h
  | _ + 1, [], [], _ => trivial
  | k + 1, _ :: _, _ :: _, h => All2.drop k h.2
  | _ + 1, [], _ :: _, h => h.elim
  | _ + 1, _ :: _, [], h => h.elim
theorem All2.get {α β : Type} {R : α → β → Prop} : ∀ {l : List α} {m : List β} {i : Nat} {a : α}, All2 R l m → l[i]? = some a → ∃ b, m[i]? = some b ∧ R a b
  | _ :: _, b :: _, 0, _, h, e => by simp at e; subst e; exact ⟨b, by simp, h.1⟩
  | _ :: _, _ :: _, i + 1, a, h, e => by simpa using All2.get h.2 (i := i) (a := a) (by simpa using e)
  | [], _, _, _, _, e => by simp at e
  | _ :: _, [], _, _, h, _ => h.elim
theorem All2.get' {α β : Type} {R : α → β → Prop} : ∀ {l : List α} {m : List β} {i : Nat} {b : β}, All2 R l m → m[i]? = some b → ∃ a, l[i]? = some a ∧ R a b
  | a :: _, _ :: _, 0, _, h, e => by simp at e; subst e; exact ⟨a, by simp, h.1⟩
  | _ :: _, _ :: _, i + 1, b, h, e => by simpa using All2.get' h.2 (i := i) (b := b) (by simpa using e)
  | _, [], _, _, _, e => by simp at e
  | [], _ :: _, _, _, h, _ => h.elim

/-! ### Maps with integer keys -/
def MapIs (kd : IntKind) (es : Array MapEntry) (ms : List (Int × Value)) : Prop := es.toList.map (fun e => (e.key, e.val)) = ms.map fun p => (Value.int kd p.1, p.2)
def mget (ms : List (Int × Value)) (k : Int) : Option Value := (ms.find? fun p => p.1 == k).map (·.2)

theorem findNow_int {kd : IntKind} {k : Int} : ∀ {es : List MapEntry} {ms : List (Int × Value)} {i : Nat}, es.map (fun e => (e.key, e.val)) = ms.map (fun p => (Value.int kd p.1, p.2)) →
    Instr.findNow (.int kd) (.int kd k) es i = some ((ms.findIdx? fun p => p.1 == k).bind fun j => (ms[j]?).map fun p => (i + j, p.2))
  | [], [], i, _ => rfl
  | [], _ :: _, _, h => by simp at h
  | _ :: _, [], _, h => by simp at h
  | e :: es, p :: ms, i, h => by
    simp only [List.map_cons, List.cons.injEq, Prod.mk.injEq] at h
    obtain ⟨⟨h1, h2⟩, h3⟩ := h
    have ih := findNow_int (kd := kd) (k := k) (i := i + 1) h3
    unfold Instr.findNow
    simp only [h1, Instr.sameNow, if_true]
    by_cases hk : p.1 = k
    · have e1 : (k == p.1) = true := by simp [hk]
      have e2 : (p.1 == k) = true := by simp [hk]
      simp [e1, List.findIdx?_cons, e2, h2]
    · have e1 : (k == p.1) = false := by simp; exact fun h => hk h.symm
      have e2 : (p.1 == k) = false := by simpa using hk
      simp only [e1, ih, List.findIdx?_cons, e2, Bool.false_eq_true, if_false]
      congr 1
      cases hf : ms.findIdx? (fun p => p.1 == k) with
      | none => simp
      | some j => simp [Nat.add_assoc, Nat.add_comm 1 j]

theorem mget_idx {ms : List (Int × Value)} {k : Int} {i : Nat} : (((ms.findIdx? fun p => p.1 == k).bind fun j => (ms[j]?).map fun p => (i + j, p.2)).map (·.2)) = mget ms k := by
  unfold mget
  induction ms generalizing i with
  | nil => rfl
  | cons p ms ih =>
    by_cases hk : p.1 = k
    · have e2 : (p.1 == k) = true := by simp [hk]
      simp [List.findIdx?_cons, e2]
    · have e2 : (p.1 == k) = false := by simpa using hk
      simp only [List.findIdx?_cons, e2, Bool.false_eq_true, if_false, List.find?_cons]
      rw [← ih (i := i + 1)]
      cases hf : ms.findIdx? (fun p => p.1 == k) with
      | none => simp
      | some j => simp [Function.comp_def]

structure MapOk (P : Program) (T kt et : TypeId) (kd : IntKind) (z : Value) : Prop where
  hT : P.underlying T = some (.map kt et)
  hk : P.underlying kt = some (.int kd)
  hz : (P.info? et).map (·.zero) = some (some z)

theorem checkKey_int {P : Program} {kt : TypeId} {kd : IntKind} (hk : P.underlying kt = some (.int kd)) (b : Bool) (k : Int) (w : World) : (Instr.checkKey b 10000 kt (.int kd k)).run P w = .ok () w := by
  unfold Instr.checkKey
  simp [run_underlying hk]

theorem zeroValue_run {P : Program} {et : TypeId} {z : Value} (hz : (P.info? et).map (·.zero) = some (some z)) (w : World) : (zeroValue et).run P w = .ok z w := by
  obtain ⟨i, hi, hzz⟩ := Option.map_eq_some_iff.1 hz
  simp [zeroValue, typeInfo, hi, hzz]

theorem lookup_int {P : Program} {T kt et : TypeId} {kd : IntKind} {z : Value} (mo : MapOk P T kt et kd z) {w : World} {mb : Nat} {es : Array MapEntry} {clock : Nat} {ms : List (Int × Value)}
    (hm : w.heap[mb]? = some (.map es clock)) (hms : MapIs kd es ms) (k : Int) :
    (Instr.lookup T (.map (some mb)) (.int kd k) true).run P w = .ok (.tuple #[(mget ms k).getD z, .bool (mget ms k).isSome]) w := by
  have hf := findNow_int (k := k) (i := 0) hms
  have hg : (getObj mb).run P w = .ok (.map es clock) w := by simp [getObj, Sem.run, hm]
  have hg2 := mget_idx (ms := ms) (k := k) (i := 0)
  unfold Instr.lookup Instr.findKey
  simp only [Sem.run_bind, run_underlying mo.hT, Result.andThen_ok, hg, Sem.run_pure, checkKey_int mo.hk, run_underlying mo.hk, hf]
  cases hr : ((ms.findIdx? fun p => p.1 == k).bind fun j => (ms[j]?).map fun p => (0 + j, p.2)) with
  | none => rw [hr] at hg2; simp [← hg2, zeroValue_run mo.hz]
  | some q => rw [hr] at hg2; simp [← hg2]

theorem mapUpdate_new {P : Program} {T kt et : TypeId} {kd : IntKind} {z : Value} (mo : MapOk P T kt et kd z) {w : World} {mb : Nat} {es : Array MapEntry} {clock : Nat} {ms : List (Int × Value)}
    (hm : w.heap[mb]? = some (.map es clock)) (hms : MapIs kd es ms) (k : Int) (v : Value) (hno : mget ms k = none) :
    ∃ w' es', (Instr.mapUpdate T (.map (some mb)) (.int kd k) v).run P w = .ok () w' ∧ w'.heap[mb]? = some (.map es' (clock + 1)) ∧ MapIs kd es' (ms ++ [(k, v)]) ∧ Fr (fun b => b = mb) w w' ∧ w'.heap.size = w.heap.size := by
  have hf := findNow_int (k := k) (i := 0) hms
  have hg : (getObj mb).run P w = .ok (.map es clock) w := by simp [getObj, Sem.run, hm]
  have hg2 := mget_idx (ms := ms) (k := k) (i := 0)
  have hlt := lt_of_heap hm
  have hr : ((ms.findIdx? fun p => p.1 == k).bind fun j => (ms[j]?).map fun p => (0 + j, p.2)) = none := by
    rw [hno] at hg2; simpa using hg2
  refine ⟨{ w with heap := w.heap.setIfInBounds mb (.map (es.push { key := .int kd k, val := v, born := clock }) (clock + 1)) }, es.push { key := .int kd k, val := v, born := clock }, ?_, by simp [hlt], ?_, Fr.setObj w mb _ rfl, by simp⟩
  · unfold Instr.mapUpdate Instr.findKey
    simp only [Sem.run_bind, run_underlying mo.hT, Result.andThen_ok, hg, checkKey_int mo.hk, run_underlying mo.hk, hf, hr]
    simp [setObj, Sem.run, hm]
  · unfold MapIs at hms ⊢
    simp [hms]

theorem findIdx_eraseP {ms : List (Int × Value)} {k : Int} : ms.eraseP (fun p => p.1 == k) = match ms.findIdx? (fun p => p.1 == k) with | some j => ms.eraseIdx j | none => ms := by
  induction ms with
  | nil => rfl
  | cons p ms ih =>
    by_cases hk : p.1 = k
    · have e2 : (p.1 == k) = true := by simp [hk]
      simp [List.findIdx?_cons, e2]
    · have e2 : (p.1 == k) = false := by simpa using hk
      simp only [List.findIdx?_cons, e2, Bool.false_eq_true, if_false, List.eraseP_cons, ih]
      cases hf : ms.findIdx? (fun p => p.1 == k) with
      | none => simp
      | some j => simp

theorem map_eraseIdx' {α β : Type} (f : α → β) : ∀ (l : List α) (j : Nat), (l.eraseIdx j).map f = (l.map f).eraseIdx j
  | [], _ => by simp
  | _ :: _, 0 => by simp
  | _ :: l, j + 1 => by simp [map_eraseIdx' f l j]

theorem delete_int {P : Program} {T kt et ty t2 : TypeId} {kd : IntKind} {z : Value} (mo : MapOk P T kt et kd z) {w : World} {mb : Nat} {es : Array MapEntry} {clock : Nat} {ms : List (Int × Value)}
    (hm : w.heap[mb]? = some (.map es clock)) (hms : MapIs kd es ms) (k : Int) :
    ∃ w' es', (Builtin.delete_ #[T, t2] ty #[.map (some mb), .int kd k]).run P w = .ok undef w' ∧ w'.heap[mb]? = some (.map es' clock) ∧ MapIs kd es' (ms.eraseP fun p => p.1 == k) ∧ Fr (fun b => b = mb) w w' ∧ w'.heap.size = w.heap.size := by
  have hf := findNow_int (k := k) (i := 0) hms
  have hg : (getObj mb).run P w = .ok (.map es clock) w := by simp [getObj, Sem.run, hm]
  have hlt := lt_of_heap hm
  have hlen : es.size = ms.length := by
    have := congrArg List.length hms
    simpa using this
  cases hi : ms.findIdx? (fun p => p.1 == k) with
  | none =>
    refine ⟨{ w with heap := w.heap.setIfInBounds mb (.map es clock) }, es, ?_, by simp [hlt], ?_, Fr.setObj w mb _ rfl, by simp⟩
    · unfold Builtin.delete_ Instr.findKey
      simp [run_underlying mo.hT, hg, checkKey_int mo.hk, run_underlying mo.hk, hf, hi, setObj, Sem.run, hm]
      rfl
    · rw [findIdx_eraseP, hi]; exact hms
  | some j =>
    have hj : j < ms.length := (List.findIdx?_eq_some_iff_findIdx_eq.1 hi).1
    refine ⟨{ w with heap := w.heap.setIfInBounds mb (.map (es.eraseIdxIfInBounds j) clock) }, es.eraseIdxIfInBounds j, ?_, by simp [hlt], ?_, Fr.setObj w mb _ rfl, by simp⟩
    · unfold Builtin.delete_ Instr.findKey
      simp [run_underlying mo.hT, hg, checkKey_int mo.hk, run_underlying mo.hk, hf, hi, hj, setObj, Sem.run, hm]
      rfl
    · rw [findIdx_eraseP, hi]
      unfold MapIs at hms ⊢
      rw [Array.toList_eraseIdxIfInBounds]
      simp only
      rw [map_eraseIdx', hms, ← map_eraseIdx']

/-! ### make -/
theorem make_full {P : Program} {t e : TypeId} {z : Value} {sz bytes : Nat} (el : ElemOk P t e z sz bytes) (w : World) (n : Nat) (hb : n * bytes ≤ 140737488355328) :
    ∃ w', (Instr.makeSlice t (.int .i64 (n : Int)) (.int .i64 (n : Int))).run P w = .ok (.slice (some ⟨w.heap.size, 0, none⟩) n n) w' ∧ OwnRow w' e sz ⟨some ⟨w.heap.size, 0, none⟩, n, n⟩ (madeCells z.cells (n * sz)).toList ∧ Fr (fun _ => False) w w' := by
  obtain ⟨i, hi, hz, hsz, hby⟩ := info_parts el.hi
  have hcl : n ≤ 140737488355328 := by
    have := Nat.le_mul_of_pos_right n el.hb
    omega
  obtain ⟨w', h1, h2, h3⟩ := run_make_full (P := P) w 0 t e i z sz el.ht hi hz hsz .i64 .i64 n (by rw [hby, Nat.mul_comm]; omega) (by unfold maxLen; omega) (Nat.zero_le _)
  exact ⟨w', h1, h2, Fr.grown h3 fun _ h => by cases h⟩
theorem madeCells_one (z : Value) (n : Nat) (hz : z.cells = #[z]) : (madeCells z.cells (n * 1)).toList = List.replicate n z := by
  rw [hz]
  apply List.ext_getElem?
  intro i
  by_cases h : i < n
  · simp [madeCells, h, Nat.mod_one]
  · simp [madeCells, h]
abbrev Fr0 (w w' : World) : Prop := Fr (fun _ => False) w w'
abbrev at0 (b : Nat) : Addr := ⟨b, 0, none⟩
def byteV (b : UInt8) : Value := .int .u8 (b.toNat : Int)
def intV (n : Int) : Value := .int .i64 n
theorem byteV_one (bs : List UInt8) : ∀ u ∈ bs.map byteV, u.oneCell' = true := by
  intro u hu; obtain ⟨b, _, rfl⟩ := List.mem_map.1 hu; rfl
theorem intV_one (l : List Int) : ∀ u ∈ l.map intV, u.oneCell' = true := by
  intro u hu; obtain ⟨b, _, rfl⟩ := List.mem_map.1 hu; rfl

/-! ### Frames -/
theorem Fr.tr0 {M : Nat → Prop} {a b c : World} (h : Fr M a b) (k : Fr0 b c) : Fr M a c := h.trans k fun _ _ h => h.elim
theorem Fr.of0 {M : Nat → Prop} {a b : World} (h : Fr0 a b) : Fr M a b := h.mono fun _ _ h => h.elim
/-- only new blocks were written -/
theorem Fr.new {M : Nat → Prop} {a b : World} (h : Fr M a b) (hn : ∀ x, x < a.heap.size → ¬ M x) : Fr0 a b := h.mono fun x hx hm => hn x hx hm
theorem Fr.trn {M : Nat → Prop} {a b c : World} (h : Fr0 a b) (k : Fr M b c) (hn : ∀ x, M x → a.heap.size ≤ x) : Fr0 a c := h.trans k fun x hx hm => by have := hn x hm; omega
theorem cell_lt {w : World} {p : Addr} {v : Value} (hc : w.cell? p = some v) : p.block < w.heap.size := by
  unfold World.cell? at hc
  cases e : w.heap[p.block]? with
  | none => rw [e] at hc; simp at hc
  | some o => exact (Array.getElem?_eq_some_iff.1 e).1
theorem cell_fr {M : Nat → Prop} {w w' : World} (h : Fr M w w') {p : Addr} {v : Value} (hc : w.cell? p = some v) (hn : ¬ M p.block) : w'.cell? p = some v := by
  have := h.keep p.block (cell_lt hc) hn
  unfold World.cell? at hc ⊢
  rw [this]; exact hc
theorem add_add (p : Addr) (i j : Nat) : (p.add i).add j = p.add (i + j) := by
  unfold Addr.add
  by_cases h1 : i = 0 <;> by_cases h2 : j = 0 <;> simp [h1, h2, Nat.add_assoc]
theorem add0 (p : Addr) : p.add 0 = p := by simp [Addr.add]

/-! ### Rows that are read -/
def CRow (w : World) (s : Sl) (vs : List Value) : Prop := (s.a = none → s.n = 0 ∧ s.c = 0) ∧ ∀ i v, vs[i]? = some v → ∃ p, s.a = some p ∧ w.cell? (p.add i) = some v
theorem CRow.nil (w : World) : CRow w ⟨none, 0, 0⟩ [] := ⟨fun _ => ⟨rfl, rfl⟩, fun i v h => by simp at h⟩
theorem Row.crow {w : World} {T : TypeId} {s : Sl} {vs : List Value} (h : Row w T s vs) : CRow w s vs := by
  refine ⟨fun ha => ?_, fun i v hi => h.cell hi⟩
  rcases h with ⟨_, h1, h2, _⟩ | ⟨b, o, cs, f, hb, _⟩
  · exact ⟨h1, h2⟩
  · rw [ha] at hb; cases hb
theorem CRow.fr {M : Nat → Prop} {w w' : World} {s : Sl} {vs : List Value} (h : CRow w s vs) (hf : Fr M w w') (hn : ∀ b ∈ blkL s, ¬ M b) : CRow w' s vs :=
  ⟨h.1, fun i v hi => by
    obtain ⟨p, hp, hc⟩ := h.2 i v hi
    exact ⟨p, hp, cell_fr hf hc (by rw [add_block]; exact hn _ (by simp [blkL, hp]))⟩⟩
theorem CRow.get {w : World} {s : Sl} {vs : List Value} (h : CRow w s vs) {i j : Nat} {v : Value} (hi : vs[i]? = some v) (hj : j = i * 1) {K : Addr → Prop} (hk : ∀ p, s.a = some p → w.cell? (p.add j) = some v → K p) : W.optP s.a K := by
  obtain ⟨p, hp, hc⟩ := h.2 i v hi
  rw [hp]
  rw [Nat.mul_one] at hj; subst hj
  exact hk p hp hc
/-- a part of a row -/
def sub (s : Sl) (l h : Nat) : Sl := ⟨if s.c = l then s.a else s.a.map (·.add (l * 1)), h - l, s.c - l⟩
theorem sub_blk (s : Sl) (l h : Nat) : blkL (sub s l h) = blkL s := by
  unfold blkL sub
  cases s.a with
  | none => simp
  | some p =>
    simp only [Option.map_some]
    split
    · rename_i q he
      split at he
      · cases he; rfl
      · cases he; rw [add_block]
    · rename_i he
      split at he <;> cases he
theorem CRow.sub {w : World} {s : Sl} {vs : List Value} (h : CRow w s vs) (l hi : Nat) (h1 : vs.length ≤ s.n) (h2 : s.n ≤ s.c) (hl : l ≤ hi) (hh : hi ≤ s.c) : CRow w (sub s l hi) ((vs.take hi).drop l) := by
  refine ⟨fun ha => ?_, fun i v hv => ?_⟩
  · have : s.a = none := by
      unfold W.sub at ha
      simp only at ha
      split at ha
      · exact ha
      · simpa using ha
    obtain ⟨e1, e2⟩ := h.1 this
    unfold W.sub
    simp only
    omega
  · rw [List.getElem?_drop, List.getElem?_take] at hv
    split at hv
    · rename_i hlt
      obtain ⟨p, hp, hc⟩ := h.2 _ _ hv
      have hlen := (List.getElem?_eq_some_iff.1 hv).1
      unfold W.sub
      simp only [hp]
      rw [if_neg (by omega)]
      exact ⟨_, rfl, by rw [add_add, Nat.mul_one]; exact hc⟩
    · cases hv

theorem append_ownC {P : Program} {t ty e : TypeId} {z : Value} {sz bytes : Nat} (el : ElemOk P t e z sz bytes) {w : World} {s src : Sl} {xs news : List Value}
    (ho : OwnRow w e sz s xs) (hr : CRow w src news) (hl : news.length = src.n * sz) (h1 : ∀ u ∈ news, u.oneCell' = true) (hb : (s.n + src.n) * bytes ≤ 140737488355328) :
    ∃ s' w', (Builtin.append_ #[t, t] ty #[s.v, src.v]).run P w = .ok s'.v w' ∧ OwnRow w' e sz s' (xs ++ news) ∧ s'.n = s.n + src.n ∧ Fr (fun b => b ∈ blkL s) w w' ∧
      (∀ b ∈ blkL s', b ∈ blkL s ∨ w.heap.size ≤ b) ∧ (s'.a = none → s.a = none ∧ src.n = 0) := by
  obtain ⟨i, hi, hz, hsz, hby⟩ := info_parts el.hi
  have hbl : s.n + src.n ≤ 140737488355328 := by
    have := Nat.le_mul_of_pos_right (s.n + src.n) el.hb
    omega
  obtain ⟨sa, sn, sc⟩ := src
  cases sa with
  | none =>
    obtain ⟨e1, e2⟩ := hr.1 rfl
    simp only at e1 e2
    subst e1 e2
    have hnil : news = [] := List.eq_nil_of_length_eq_zero (by simpa using hl)
    subst hnil
    have := run_append_owned_none (P := P) (w := w) 0 t ty e i sz el.ht hi s.v s.n xs ho
    exact ⟨s, w, this, by simpa using ho, by simp, Fr.refl _ _, fun b hb => .inl hb, fun h => ⟨h, rfl⟩⟩
  | some q =>
    simp only at hl hb hbl
    have hnews : ∀ j u, news[j]? = some u → w.cell? (q.add j) = some u := fun j u hj => by
      obtain ⟨p, hp, hc⟩ := hr.2 j u hj
      cases hp; exact hc
    obtain ⟨v', w', hrun, hown, hgr, hnil⟩ := run_append_own (P := P) w 0 t ty e i z sz bytes el.ht hi hz hsz hby el.hz el.hs s.v s.n xs ho q sn sc news hl hnews h1 (by unfold maxLen; omega) hb (Nat.zero_le _)
    have hv : ∃ s' : Sl, v' = s'.v ∧ s'.n = s.n + sn ∧ (s'.a = none → v' = .slice none 0 0) := by
      rcases hown.2 with ⟨h1, h2⟩ | ⟨g, cap, cur, h1, _⟩
      · exact ⟨⟨none, 0, 0⟩, h1, by show 0 = _; omega, fun _ => h1⟩
      · exact ⟨⟨_, _, _⟩, h1, rfl, fun h => by cases h⟩
    obtain ⟨s', rfl, hn', hnn⟩ := hv
    refine ⟨s', w', hrun, ?_, hn', ?_, ?_, ?_⟩
    · unfold OwnRow; rw [hn']; exact hown
    · refine Fr.grown hgr fun g hg => ?_
      rw [ownBlock_v] at hg
      cases hsa : s.a with
      | none => simp [hsa] at hg
      | some p => simp [hsa] at hg; simp [blkL, hsa, hg]
    · intro g hg
      rcases ho.cases with ⟨rfl, rfl⟩ | ⟨g0, cur, hga, hgg, hnc, hcm, hcsz, htk⟩
      · obtain ⟨v2, w2, hrun2, hown2, _, _⟩ := run_append_own (P := P) w w.heap.size t ty e i z sz bytes el.ht hi hz hsz hby el.hz el.hs (.slice none 0 0) 0 [] (World.ownsRow_nil w _ e sz) q sn sc news hl hnews h1 (by unfold maxLen; omega) (by simpa using hb) (Nat.le_refl _)
        have e1 : (Result.ok s'.v w' : Result Value) = .ok v2 w2 := hrun.symm.trans hrun2
        have e2 := (Result.ok.inj e1).1
        subst e2
        rcases hown2.2 with ⟨h1, _⟩ | ⟨g2, cap2, cur2, h1, h2, _⟩
        · have : s'.a = none := (Value.slice.inj h1).1
          simp [blkL, this] at hg
        · have : s'.a = some ⟨g2, 0, none⟩ := (Value.slice.inj h1).1
          simp [blkL, this] at hg
          exact .inr (hg ▸ h2)
      · obtain ⟨sa0, sn0, sc0⟩ := s
        simp only at hga hnc hcsz htk hb hbl
        subst hga
        by_cases hroom : sn0 + sn ≤ sc0
        · subst hsz
          have hfit : sn0 * i.size + news.length ≤ cur.size := by rw [hl, hcsz, ← Nat.add_mul]; exact Nat.mul_le_mul_right _ hroom
          have hr2 := run_append_room (P := P) w t ty e i el.ht hi g0 sn0 sc0 cur hgg q sn sc news hl hnews h1 hroom hfit
          have e1 := hrun.symm.trans hr2
          have : s'.a = some ⟨g0, 0, none⟩ := (Value.slice.inj (Result.ok.inj e1).1).1
          simp [blkL, this] at hg ⊢
          exact .inl hg
        · subst hsz
          have holds : ∀ j u, xs[j]? = some u → w.cell? ((⟨g0, 0, none⟩ : Addr).add j) = some u := World.ownsRow.cells (g := g0) ho rfl
          have hr2 := run_append_grow (P := P) w t ty e i z el.ht hi hz ⟨g0, 0, none⟩ sn0 sc0 xs ho.len holds q sn sc news hl hnews (by omega) (by omega) (growslice_fits (by omega) (by rw [hby]; exact hb))
          have e1 := hrun.symm.trans hr2
          have : s'.a = some ⟨w.heap.size, 0, none⟩ := (Value.slice.inj (Result.ok.inj e1).1).1
          simp [blkL, this] at hg
          exact .inr (by omega)
    · intro h
      have := hnil.1 (hnn h)
      refine ⟨?_, this.2⟩
      exact (Value.slice.inj this.1).1
theorem OwnRow.cap {w : World} {e : TypeId} {sz : Nat} {s : Sl} {xs : List Value} (h : OwnRow w e sz s xs) : s.n ≤ s.c := by
  rcases h.cases with ⟨rfl, _⟩ | ⟨g, cur, _, _, h, _⟩
  · exact Nat.le_refl _
  · exact h

/-! ### Rows of bytes and numbers -/
/-- values somewhere, to read -/
def Rd (w : World) (s : Sl) (vs : List Value) : Prop := s.n = vs.length ∧ s.n ≤ s.c ∧ CRow w s vs
/-- values in a row of one's own -/
def Ow (w : World) (e : TypeId) (s : Sl) (vs : List Value) : Prop := s.n = vs.length ∧ OwnRow w e 1 s vs
theorem Ow.rd {w : World} {e : TypeId} {s : Sl} {vs : List Value} (h : Ow w e s vs) : Rd w s vs := ⟨h.1, h.2.cap, h.2.row.crow⟩
theorem Rd.fr {M : Nat → Prop} {w w' : World} {s : Sl} {vs : List Value} (h : Rd w s vs) (hf : Fr M w w') (hn : ∀ b ∈ blkL s, ¬ M b) : Rd w' s vs := ⟨h.1, h.2.1, h.2.2.fr hf hn⟩
theorem Ow.fr {M : Nat → Prop} {w w' : World} {e : TypeId} {s : Sl} {vs : List Value} (h : Ow w e s vs) (hf : Fr M w w') (hn : ∀ b ∈ blkL s, ¬ M b) : Ow w' e s vs := ⟨h.1, h.2.fr hf hn⟩
theorem Rd.fr0 {w w' : World} {s : Sl} {vs : List Value} (h : Rd w s vs) (hf : Fr0 w w') : Rd w' s vs := h.fr hf fun _ _ h => h
theorem Ow.fr0 {w w' : World} {e : TypeId} {s : Sl} {vs : List Value} (h : Ow w e s vs) (hf : Fr0 w w') : Ow w' e s vs := h.fr hf fun _ _ h => h
theorem Rd.nil (w : World) : Rd w ⟨none, 0, 0⟩ [] := ⟨rfl, Nat.le_refl _, CRow.nil w⟩
theorem Ow.nil (w : World) (e : TypeId) : Ow w e ⟨none, 0, 0⟩ [] := ⟨rfl, OwnRow.nil w _ _⟩
theorem Ow.lt {w : World} {e : TypeId} {s : Sl} {vs : List Value} (h : Ow w e s vs) : ∀ b ∈ blkL s, b < w.heap.size := h.2.lt
theorem Ow.made (w : World) (e : TypeId) (cs : List Value) (n : Nat) (hn : n = cs.length) (hl : n ≤ 1000000) : Ow (w.alloc (.cells cs.toArray e)) e ⟨some ⟨w.heap.size, 0, none⟩, n, n⟩ cs :=
  ⟨hn, OwnRow.made w e 1 n cs (by omega) (by unfold maxLen; omega)⟩
theorem Rd.get {w : World} {s : Sl} {vs : List Value} (h : Rd w s vs) {i j : Nat} {v : Value} (hi : vs[i]? = some v) (hj : j = i * 1) {K : Addr → Prop} (hk : ∀ p, s.a = some p → w.cell? (p.add j) = some v → K p) : W.optP s.a K := h.2.2.get hi hj hk
theorem Rd.sub {w : World} {s : Sl} {vs : List Value} (h : Rd w s vs) (l hi : Nat) (hl : l ≤ hi) (hh : hi ≤ vs.length) : Rd w (sub s l hi) ((vs.take hi).drop l) := by
  have h1 := h.1
  have h2 := h.2.1
  refine ⟨?_, ?_, h.2.2.sub l hi (by omega) h.2.1 hl (by omega)⟩
  · unfold W.sub; simp; omega
  · unfold W.sub; simp; omega
theorem append_ow {t ty e : TypeId} {z : Value} {bytes : Nat} {P : Program} (el : ElemOk P t e z 1 bytes) {w : World} {s src : Sl} {xs ys : List Value} (ho : Ow w e s xs) (hr : Rd w src ys) (h1 : ∀ u ∈ ys, u.oneCell' = true) (hb : (xs.length + ys.length) * bytes ≤ 140737488355328) :
    ∃ s' w', (Builtin.append_ #[t, t] ty #[s.v, src.v]).run P w = .ok s'.v w' ∧ Ow w' e s' (xs ++ ys) ∧ Fr (fun b => b ∈ blkL s) w w' ∧ (∀ b ∈ blkL s', b ∈ blkL s ∨ w.heap.size ≤ b) ∧ (s'.a = none → s.a = none ∧ ys = []) := by
  obtain ⟨s', w', g1, g2, g3, g4, g5, g6⟩ := append_ownC (ty := ty) el ho.2 hr.2.2 (by rw [hr.1]; omega) h1 (by rw [ho.1, hr.1]; exact hb)
  refine ⟨s', w', g1, ⟨?_, g2⟩, g4, g5, fun h => ⟨(g6 h).1, ?_⟩⟩
  · rw [g3, ho.1, hr.1]; simp
  · have := (g6 h).2
    rw [hr.1] at this
    exact List.eq_nil_of_length_eq_zero this

/-! ### Writing into a row of one's own -/
theorem ow_set {w : World} {e : TypeId} {s : Sl} {vs : List Value} (h : Ow w e s vs) (i : Nat) (hi : i < vs.length) (v : Value) :
    ∃ p, s.a = some p ∧ p.block ∈ blkL s ∧ (w.cell? (p.add i)).isSome = true ∧ w.frozen? (p.add i) = false ∧ Ow (w.setCell (p.add i) v) e s (vs.set i v) ∧ Fr (· ∈ blkL s) w (w.setCell (p.add i) v) := by
  have hn := h.1
  rcases h.2.cases with ⟨rfl, rfl⟩ | ⟨g, cur, ha, hg, h1, h2, h3, h4⟩
  · simp at hi
  · have hsz : i < cur.size := by omega
    have hb : g ∈ blkL s := by simp [blkL, ha]
    refine ⟨⟨g, 0, none⟩, ha, hb, ?_, frozenAt (p := ⟨g, 0, none⟩) hg, ⟨by simpa using hn, ?_⟩, Fr.set _ _ _ (by rw [add_block]; exact hb)⟩
    · rw [cellAt (p := ⟨g, 0, none⟩) (v := cur[i]) hg rfl (by simp [hsz])]; rfl
    · refine ⟨by simpa using h.2.1, .inr ⟨g, s.c, cur.setIfInBounds i v, ?_, Nat.zero_le _, ?_, h1, h2, by simpa using h3, ?_⟩⟩
      · obtain ⟨a, n, c⟩ := s
        simp only at ha
        subst ha; rfl
      · have := setAt (p := ⟨g, 0, none⟩) (i := i) (v := v) hg rfl
        simpa using this
      · rw [Array.toList_setIfInBounds, List.take_set, h4]
theorem fill_loop {e : TypeId} {s : Sl} {vs : List Value} {w : World} (h : Ow w e s vs) (hl : s.n ≤ 1000000000000) (c : Value) (L : Int → World → Prop)
    (step : ∀ (i : Int) (w' : World), i < ((s.n : Nat) : Int) → (0 ≤ i ∧ i < ((s.n : Nat) : Int) ∧ W.optP s.a fun p => (w'.cell? (p.add (Int.toNat i * 1))).isSome = true ∧ w'.frozen? (p.add (Int.toNat i * 1)) = false ∧ L (IntKind.wrap .i64 (i + 1)) (w'.setCell (p.add (Int.toNat i * 1)) c)) → L i w')
    (fin : ∀ w', Fr (· ∈ blkL s) w w' → L ((s.n : Nat) : Int) w') : L 0 w := by
  have hn := h.1
  have main : ∀ (d i : Nat), i + d = s.n → ∀ (w' : World) (us : List Value), us.length = s.n → Fr (· ∈ blkL s) w w' → Ow w' e s us → L (i : Int) w' := by
    intro d
    induction d with
    | zero =>
      intro i hi w' us hu F ho
      obtain rfl : i = s.n := by omega
      exact fin w' F
    | succ d ih =>
      intro i hi w' us hu F ho
      obtain ⟨p, hp, _, a1, a2, a3, a4⟩ := ow_set ho i (by omega) c
      refine step i w' (by omega) ⟨by omega, by omega, ?_⟩
      rw [hp]
      show (w'.cell? (p.add (Int.toNat (i : Int) * 1))).isSome = true ∧ w'.frozen? (p.add (Int.toNat (i : Int) * 1)) = false ∧ L (IntKind.wrap .i64 ((i : Int) + 1)) (w'.setCell (p.add (Int.toNat (i : Int) * 1)) c)
      rw [Int.toNat_natCast, Nat.mul_one, show IntKind.wrap .i64 ((i : Int) + 1) = ((i + 1 : Nat) : Int) from by rw [IntWalk.i64_in _ (by omega)]; omega]
      exact ⟨a1, a2, ih (i + 1) (by omega) _ _ (by simpa using hu) (F.trans a4 fun _ _ h => h) a3⟩
  exact main s.n 0 (by omega) w vs hn.symm (Fr.refl _ _) h

/-! ### Rows of structs -/
theorem flat_get {α : Type} (f : α → List Value) (sz : Nat) (hf : ∀ a, (f a).length = sz) : ∀ (cs : List α) (i j : Nat) (a : α), cs[i]? = some a → j < sz → (cs.flatMap f)[i * sz + j]? = (f a)[j]?
  | [], i, j, a, h, _ => by simp at h
  | c :: cs, 0, j, a, h, hj => by
    simp at h
    subst h
    rw [List.flatMap_cons, Nat.zero_mul, Nat.zero_add, List.getElem?_append_left (by rw [hf]; exact hj)]
  | c :: cs, i + 1, j, a, h, hj => by
    rw [List.flatMap_cons, List.getElem?_append_right (by rw [hf, Nat.succ_mul]; omega), hf, show (i + 1) * sz + j - sz = i * sz + j by rw [Nat.succ_mul]; omega]
    exact flat_get f sz hf cs i j a (by simpa using h) hj
theorem flat_length {α : Type} (f : α → List Value) (sz : Nat) (hf : ∀ a, (f a).length = sz) (cs : List α) : (cs.flatMap f).length = cs.length * sz := by
  induction cs with
  | nil => simp
  | cons c cs ih => rw [List.flatMap_cons, List.length_append, ih, hf, List.length_cons, Nat.succ_mul]; omega
theorem CRow.elem {α : Type} {f : α → List Value} {sz : Nat} (hf : ∀ a, (f a).length = sz) (hs : 0 < sz) {w : World} {s : Sl} {cs : List α} (h : CRow w s (cs.flatMap f)) {i : Nat} {a : α} (hi : cs[i]? = some a) {K : Addr → Prop}
    (hk : ∀ p, s.a = some p → (∀ j v, (f a)[j]? = some v → w.cell? ((p.add (i * sz)).add j) = some v) → K p) : W.optP s.a K := by
  obtain ⟨v0, hv0⟩ : ∃ v, (f a)[0]? = some v := ⟨_, List.getElem?_eq_getElem (by rw [hf]; exact hs)⟩
  obtain ⟨p, hp, _⟩ := h.2 (i * sz + 0) v0 (by rw [flat_get f sz hf cs i 0 a hi hs]; exact hv0)
  rw [hp]
  refine hk p hp fun j v hv => ?_
  have hj : j < sz := by have := (List.getElem?_eq_some_iff.1 hv).1; rwa [hf] at this
  obtain ⟨q, hq, hc⟩ := h.2 (i * sz + j) v (by rw [flat_get f sz hf cs i j a hi hj]; exact hv)
  rw [hp] at hq
  cases hq
  rw [add_add]; exact hc
/-- a struct in a block of its own: one cell is written -/
theorem set_c {w : World} {b : Nat} {cs : Array Value} {T : TypeId} (h : w.heap[b]? = some (.cells cs T (0, 0))) (i : Nat) (hi : i < cs.size) (v : Value) :
    (w.cell? ((at0 b).add i)).isSome = true ∧ w.frozen? ((at0 b).add i) = false ∧ (w.setCell ((at0 b).add i) v).heap[b]? = some (.cells (cs.setIfInBounds i v) T (0, 0)) ∧ Fr (· = b) w (w.setCell ((at0 b).add i) v) := by
  refine ⟨?_, frozenAt (p := at0 b) h, ?_, Fr.set _ _ _ (add_block _ _)⟩
  · rw [cellAt (p := at0 b) (v := cs[i]) h rfl (by simp [hi])]; rfl
  · have := setAt (p := at0 b) (i := i) (v := v) h rfl
    simpa using this

/-! ### Objects that are no cells -/
theorem Fr.put (w : World) (l : Nat) (o : Obj) : Fr (· = l) w (w.putObj l o) := ⟨rfl, rfl, rfl, by simp [World.putObj], fun k _ hn => by
  have : l ≠ k := fun e => hn e.symm
  simp [World.putObj, Array.getElem?_setIfInBounds_ne this]⟩
theorem put_at {w : World} {l : Nat} {x : Obj} (h : w.heap[l]? = some x) (o : Obj) : (w.putObj l o).heap[l]? = some o := by
  have := lt_of_heap h
  simp [World.putObj, this]
theorem put_size (w : World) (l : Nat) (o : Obj) : (w.putObj l o).heap.size = w.heap.size := by simp [World.putObj]

/-! ### Whole numbers as bits -/
theorem bAnd_nat (x y : Nat) (hx : x < 18446744073709551616) (hy : y < 18446744073709551616) : bAnd .u64 (x : Int) (y : Int) = ((x &&& y : Nat) : Int) := by
  unfold bAnd
  have h1 : (BitVec.ofInt (IntKind.bits .u64) (x : Int) &&& BitVec.ofInt (IntKind.bits .u64) (y : Int)).toNat = x &&& y := by
    show (BitVec.ofInt 64 (x : Int) &&& BitVec.ofInt 64 (y : Int)).toNat = _
    rw [BitVec.toNat_and, BitVec.ofInt_natCast, BitVec.ofInt_natCast, BitVec.toNat_ofNat, BitVec.toNat_ofNat, Nat.mod_eq_of_lt hx, Nat.mod_eq_of_lt hy]
  rw [h1]
  have : x &&& y ≤ x := Nat.and_le_left
  exact IntWalk.u64_in _ (by omega)
theorem bOr_nat (x y : Nat) (hx : x < 18446744073709551616) (hy : y < 18446744073709551616) : bOr .u64 (x : Int) (y : Int) = ((x ||| y : Nat) : Int) := by
  unfold bOr
  have h1 : (BitVec.ofInt (IntKind.bits .u64) (x : Int) ||| BitVec.ofInt (IntKind.bits .u64) (y : Int)).toNat = x ||| y := by
    show (BitVec.ofInt 64 (x : Int) ||| BitVec.ofInt 64 (y : Int)).toNat = _
    rw [BitVec.toNat_or, BitVec.ofInt_natCast, BitVec.ofInt_natCast, BitVec.toNat_ofNat, BitVec.toNat_ofNat, Nat.mod_eq_of_lt hx, Nat.mod_eq_of_lt hy]
  rw [h1]
  have : x ||| y < 2 ^ 64 := Nat.or_lt_two_pow hx hy
  exact IntWalk.u64_in _ (by omega)
theorem bXor_nat (x y : Nat) (hx : x < 18446744073709551616) (hy : y < 18446744073709551616) : bXor .u64 (x : Int) (y : Int) = ((x ^^^ y : Nat) : Int) := by
  unfold bXor
  have h1 : (BitVec.ofInt (IntKind.bits .u64) (x : Int) ^^^ BitVec.ofInt (IntKind.bits .u64) (y : Int)).toNat = x ^^^ y := by
    show (BitVec.ofInt 64 (x : Int) ^^^ BitVec.ofInt 64 (y : Int)).toNat = _
    rw [BitVec.toNat_xor, BitVec.ofInt_natCast, BitVec.ofInt_natCast, BitVec.toNat_ofNat, BitVec.toNat_ofNat, Nat.mod_eq_of_lt hx, Nat.mod_eq_of_lt hy]
  rw [h1]
  have : x ^^^ y < 2 ^ 64 := Nat.xor_lt_two_pow hx hy
  exact IntWalk.u64_in _ (by omega)
theorem xor_ones (x : Nat) (hx : x < 18446744073709551616) : x ^^^ 18446744073709551615 = 18446744073709551615 - x := by
  have h1 := BitVec.toNat_not (x := BitVec.ofNat 64 x)
  have h2 : (~~~ (BitVec.ofNat 64 x)) = BitVec.ofNat 64 x ^^^ BitVec.allOnes 64 := (BitVec.xor_allOnes).symm
  rw [h2, BitVec.toNat_xor, BitVec.toNat_ofNat, Nat.mod_eq_of_lt hx, BitVec.toNat_allOnes] at h1
  omega
/-- bits that do not meet add up -/
theorem or_add (n a i : Nat) (h : n < 2 ^ i) : n ||| (a * 2 ^ i) = n + a * 2 ^ i := by
  rw [Nat.mul_comm a, Nat.or_comm, ← Nat.two_pow_add_eq_or_of_lt h, Nat.add_comm]
theorem ofInt_i64 (x : Int) : BitVec.toInt (BitVec.ofInt 64 x) = IntKind.wrap .i64 x := by
  rw [BitVec.toInt_ofInt, IntKind.wrap_i64, show ((2 ^ 64 : Nat)) = 18446744073709551616 from rfl]
  simp only [Int.bmod]
  split <;> omega
theorem wrap_toNat (b : BitVec 64) : IntKind.wrap .i64 (b.toNat : Int) = b.toInt := by
  rw [IntKind.wrap_i64, BitVec.toInt_eq_toNat_bmod, show ((2 ^ 64 : Nat)) = 18446744073709551616 from rfl]
  have := b.isLt
  simp only [Int.bmod]
  split <;> omega
theorem bXor_i64_zero (x : Int) (h : -9223372036854775808 ≤ x ∧ x ≤ 9223372036854775807) : bXor .i64 x 0 = x := by
  unfold bXor
  show IntKind.wrap .i64 ((BitVec.ofInt 64 x ^^^ BitVec.ofInt 64 0).toNat : Int) = x
  rw [show BitVec.ofInt 64 0 = 0#64 from rfl, BitVec.xor_zero, wrap_toNat, ofInt_i64, IntWalk.i64_in _ h]
theorem bXor_i64_ones (x : Int) (h : -9223372036854775808 ≤ x ∧ x ≤ 9223372036854775807) : bXor .i64 x (-1) = -x - 1 := by
  unfold bXor
  show IntKind.wrap .i64 ((BitVec.ofInt 64 x ^^^ BitVec.ofInt 64 (-1)).toNat : Int) = _
  rw [show BitVec.ofInt 64 (-1) = BitVec.allOnes 64 from rfl, BitVec.xor_allOnes, wrap_toNat, BitVec.toInt_not, BitVec.toNat_ofInt, show ((2 ^ 64 : Nat)) = 18446744073709551616 from rfl]
  simp only [Int.bmod]
  split <;> omega
theorem bAnd_u8_127 (c : UInt8) : bAnd .u8 (c.toNat : Int) 127 = ((c.toNat % 128 : Nat) : Int) := by
  have h : ∀ x : Fin 256, bAnd .u8 (x.val : Int) 127 = ((x.val % 128 : Nat) : Int) := by decide +kernel
  exact h ⟨c.toNat, c.toNat_lt⟩
theorem bOr_u8_128 (n : Nat) (h : n < 256) : bOr .u8 (n : Int) 128 = ((n % 128 + 128 : Nat) : Int) := by
  have h' : ∀ x : Fin 256, bOr .u8 (x.val : Int) 128 = ((x.val % 128 + 128 : Nat) : Int) := by decide +kernel
  exact h' ⟨n, h⟩
theorem u8_nat (n : Nat) : IntKind.wrap .u8 (n : Int) = ((n % 256 : Nat) : Int) := by rw [IntKind.wrap_u8]; omega
theorem u64_nat (n : Nat) (h : n < 18446744073709551616) : IntKind.wrap .u64 (n : Int) = (n : Int) := IntWalk.u64_in _ (by omega)
theorem fdiv_nat (n m : Nat) (h : 0 < m) : Int.fdiv (n : Int) (m : Int) = ((n / m : Nat) : Int) := by
  rw [Int.fdiv_eq_ediv_of_nonneg _ (by omega)]; rfl
theorem i64_next (i : Nat) (h : i < 9223372036854775807) : IntKind.wrap .i64 ((i : Int) + 1) = ((i + 1 : Nat) : Int) := by rw [IntWalk.i64_in _ (by omega)]; omega
end Go.W

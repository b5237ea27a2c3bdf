/- Trees in memory: expressions with the rows of their parts. No program in sight. -/
import Derived.Test.YtknlbofiicflgaaGreatX
import Derived.Test.YtknlbofiicflgaaGreatBF
namespace Go.Proofs.YtknlbofiicflgaaGreat
open Go Go.W

theorem lh0 {w : World} (D : List En) (h : ∀ e ∈ D, e.P w) : LH F0 w w [] D := LH.start D h
/-- an expression -/
inductive Rx where
  | mk (k : Int) (lo hi : UInt8) (l : List Rx)
/-- an expression, with the slices of its parts -/
inductive Rt where
  | mk (k : Int) (lo hi : UInt8) (s : Sl) (l : List Rt)
namespace Rt
def k : Rt → Int | .mk k _ _ _ _ => k
def lo : Rt → UInt8 | .mk _ lo _ _ _ => lo
def hi : Rt → UInt8 | .mk _ _ hi _ _ => hi
def s : Rt → Sl | .mk _ _ _ s _ => s
def l : Rt → List Rt | .mk _ _ _ _ l => l
mutual
def rx : Rt → Rx | .mk k lo hi _ l => .mk k lo hi (rxs l)
def rxs : List Rt → List Rx
  | [] => []
  | t :: l => t.rx :: rxs l
end
mutual
def sz : Rt → Nat | .mk _ _ _ _ l => 1 + szs l
def szs : List Rt → Nat
  | [] => 0
  | t :: l => t.sz + szs l
end
/-- the cells of a node -/
def c (t : Rt) : List Value := [.int .i64 t.k, .int .u8 (t.lo.toNat : Int), .int .u8 (t.hi.toNat : Int), t.s.v]
/-- a node as an argument -/
abbrev v (t : Rt) : Value := .agg #[.int .i64 t.k, .int .u8 (t.lo.toNat : Int), .int .u8 (t.hi.toNat : Int), t.s.v]
/-- the row of the parts -/
abbrev row (s : Sl) (l : List Rt) : En := .rdn 4 s (l.flatMap c)
mutual
/-- the rows of all parts are there -/
def P (w : World) : Rt → Prop | .mk _ _ _ s l => RdN 4 w s (l.flatMap c) ∧ Ps w l
def Ps (w : World) : List Rt → Prop
  | [] => True
  | t :: l => P w t ∧ Ps w l
end
mutual
def fp : Rt → List Nat | .mk _ _ _ s l => (row s l).fp ++ fps l
def fps : List Rt → List Nat
  | [] => []
  | t :: l => fp t ++ fps l
end
theorem c_len (t : Rt) : (c t).length = 4 := rfl
theorem cs_len (l : List Rt) : (l.flatMap c).length = l.length * 4 := flat_length c 4 c_len l
theorem rows_n {w : World} {s : Sl} {l : List Rt} (h : RdN 4 w s (l.flatMap c)) : s.n = l.length := by
  have := h.1
  rw [cs_len] at this
  omega
theorem rxs_map : ∀ l : List Rt, rxs l = l.map rx
  | [] => rfl
  | t :: l => by unfold rxs; rw [rxs_map l]; rfl
mutual
theorem keep {w w' : World} : ∀ (t : Rt), (∀ b ∈ t.fp, b < w.heap.size → w'.heap[b]? = w.heap[b]?) → P w t → P w' t
  | .mk k lo hi s l, h, hp => by
    unfold fp at h
    unfold P at hp ⊢
    exact ⟨(row s l).st w w' (fun b hb => h b (List.mem_append_left _ hb)) hp.1, keeps l (fun b hb => h b (List.mem_append_right _ hb)) hp.2⟩
theorem keeps {w w' : World} : ∀ (l : List Rt), (∀ b ∈ fps l, b < w.heap.size → w'.heap[b]? = w.heap[b]?) → Ps w l → Ps w' l
  | [], _, _ => by unfold Ps; trivial
  | t :: l, h, hp => by
    unfold fps at h
    unfold Ps at hp ⊢
    exact ⟨keep t (fun b hb => h b (List.mem_append_left _ hb)) hp.1, keeps l (fun b hb => h b (List.mem_append_right _ hb)) hp.2⟩
end
mutual
theorem lt {w : World} : ∀ (t : Rt), P w t → ∀ b ∈ t.fp, b < w.heap.size
  | .mk k lo hi s l, hp, b, hb => by
    unfold fp at hb
    unfold P at hp
    rcases List.mem_append.1 hb with hb | hb
    · exact (row s l).lt w hp.1 b hb
    · exact lts l hp.2 b hb
theorem lts {w : World} : ∀ (l : List Rt), Ps w l → ∀ b ∈ fps l, b < w.heap.size
  | [], _, b, hb => by unfold fps at hb; cases hb
  | t :: l, hp, b, hb => by
    unfold fps at hb
    unfold Ps at hp
    rcases List.mem_append.1 hb with hb | hb
    · exact lt t hp.1 b hb
    · exact lts l hp.2 b hb
end
theorem P.fr0 {w w' : World} {t : Rt} (h : P w t) (f : Fr0 w w') : P w' t := keep t (fun b _ hl => f.keep b hl id) h
theorem Ps.fr0 {w w' : World} {l : List Rt} (h : Ps w l) (f : Fr0 w w') : Ps w' l := keeps l (fun b _ hl => f.keep b hl id) h
theorem Ps.get {w : World} : ∀ {l : List Rt}, Ps w l → ∀ {i : Nat} {t : Rt}, l[i]? = some t → P w t
  | [], _, i, t, h => by simp at h
  | a :: l, hp, 0, t, h => by
    unfold Ps at hp
    simp at h; subst h; exact hp.1
  | a :: l, hp, i + 1, t, h => by
    unfold Ps at hp
    exact Ps.get hp.2 (by simpa using h)
theorem Ps.mem {w : World} {l : List Rt} (h : Ps w l) {t : Rt} (ht : t ∈ l) : P w t := by
  obtain ⟨i, hi⟩ := List.mem_iff_getElem?.1 ht
  exact h.get hi
theorem ps_of {w : World} : ∀ {l : List Rt}, (∀ t ∈ l, P w t) → Ps w l
  | [], _ => by unfold Ps; trivial
  | t :: l, h => by
    unfold Ps
    exact ⟨h t (by simp), ps_of fun t' ht => h t' (by simp [ht])⟩
theorem fps_iff : ∀ {l : List Rt} {b : Nat}, b ∈ fps l ↔ ∃ t ∈ l, b ∈ t.fp
  | [], b => by unfold fps; simp
  | t :: l, b => by
    unfold fps
    rw [List.mem_append, fps_iff]
    simp
theorem szs_mem : ∀ {l : List Rt} {t : Rt}, t ∈ l → t.sz ≤ szs l
  | a :: l, t, h => by
    unfold szs
    rcases List.mem_cons.1 h with rfl | h
    · omega
    · have := szs_mem h; omega
theorem sz_pos (t : Rt) : 1 ≤ t.sz := by cases t; unfold sz; omega
theorem szs_len : ∀ l : List Rt, l.length ≤ szs l
  | [] => by simp
  | t :: l => by
    have := szs_len l
    have := sz_pos t
    unfold szs
    simp only [List.length_cons]
    omega
/-- the parts of a tree -/
theorem P.parts {w : World} {t : Rt} (h : P w t) : RdN 4 w t.s (t.l.flatMap c) ∧ Ps w t.l := by cases t; unfold P at h; exact h
theorem fp_parts {t : Rt} {b : Nat} : b ∈ t.fp ↔ b ∈ (row t.s t.l).fp ∨ b ∈ fps t.l := by cases t; unfold fp; exact List.mem_append
theorem sz_parts (t : Rt) : t.sz = 1 + szs t.l := by cases t; rfl
theorem rx_parts (t : Rt) : t.rx = .mk t.k t.lo t.hi (rxs t.l) := by cases t; rfl
structure Cells (w : World) (p : Addr) (i : Nat) (t : Rt) : Prop where
  c0 : w.cell? ((p.add (i * 4)).add 0) = some (.int .i64 t.k)
  c1 : w.cell? ((p.add (i * 4)).add 1) = some (.int .u8 (t.lo.toNat : Int))
  c2 : w.cell? ((p.add (i * 4)).add 2) = some (.int .u8 (t.hi.toNat : Int))
  c3 : w.cell? ((p.add (i * 4)).add 3) = some t.s.v
theorem at' {w : World} {s : Sl} {l : List Rt} (h : RdN 4 w s (l.flatMap c)) {i : Nat} {t : Rt} (hi : l[i]? = some t) {K : Addr → Prop} (hk : ∀ p, s.a = some p → Cells w p i t → K p) : optP s.a K :=
  CRow.elem (f := c) (sz := 4) c_len (by omega) h.2.2 hi fun p hp hc => hk p hp ⟨hc 0 _ rfl, hc 1 _ rfl, hc 2 _ rfl, hc 3 _ rfl⟩
theorem again {w : World} {s : Sl} {l : List Rt} (h : RdN 4 w s (l.flatMap c)) {i : Nat} {t : Rt} (hi : l[i]? = some t) {p : Addr} (hp : s.a = some p) : Cells w p i t := by
  have hk := at' h hi (K := fun q => ∃ q', s.a = some q' ∧ Cells w q' i t) (fun q hq hc => ⟨q, hq, hc⟩)
  rw [hp] at hk
  obtain ⟨q, hq, d⟩ := hk
  cases hq
  exact d
end Rt
/-- a tree to read -/
def _root_.Go.W.En.tree (t : Rt) : En := ⟨nub t.fp, fun w => t.P w, fun w w' h hp => Rt.keep t (fun b hb => h b (mem_nub.2 hb)) hp, fun w hp b hb => Rt.lt t hp b (mem_nub.1 hb), nub_nodup _⟩
def _root_.Go.W.En.trees (l : List Rt) : En := ⟨nub (Rt.fps l), fun w => Rt.Ps w l, fun w w' h hp => Rt.keeps l (fun b hb => h b (mem_nub.2 hb)) hp, fun w hp b hb => Rt.lts l hp b (mem_nub.1 hb), nub_nodup _⟩
namespace Rx
def k : Rx → Int | .mk k _ _ _ => k
def lo : Rx → UInt8 | .mk _ lo _ _ => lo
def hi : Rx → UInt8 | .mk _ _ hi _ => hi
def l : Rx → List Rx | .mk _ _ _ l => l
mutual
def sz : Rx → Nat | .mk _ _ _ l => 1 + szs l
def szs : List Rx → Nat
  | [] => 0
  | t :: l => t.sz + szs l
end
end Rx
mutual
theorem Rt.rx_sz : ∀ t : Rt, t.rx.sz = t.sz
  | .mk k lo hi s l => by unfold Rt.rx Rx.sz Rt.sz; rw [Rt.rxs_sz l]
theorem Rt.rxs_sz : ∀ l : List Rt, Rx.szs (Rt.rxs l) = Rt.szs l
  | [] => rfl
  | t :: l => by unfold Rt.rxs Rx.szs Rt.szs; rw [Rt.rx_sz t, Rt.rxs_sz l]
end
end Go.Proofs.YtknlbofiicflgaaGreat

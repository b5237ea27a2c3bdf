/- Package term in plain words: sorts, nodes, graphs. No program in sight. Nodes and graphs of package term, as they lie in memory. Package enthymemeref07: the small functions of sorts: the contracts. Package enthymemeref07: has, fields, leaf: the contracts. Package enthymemeref07: leaf: the contract. Graphs in order, plain: sorts are valid, names and kids. No program in sight. Package enthymemeref07: fit, result, SortOf: the contracts. Package enthymemeref07: result, SortOf: the contracts. Package enthymemeref07: SortOf: the contract. Package enthymemeref07: Same, Index, Add: the contracts. Package enthymemeref07: start, Like, wanted, within, size: the contracts. Package enthymemeref07: Like, wanted, node: the contracts. -/
import Derived.Test.YtnpkhgljhcnpcaaGreatDoorG1
import Derived.Test.YtnpkhgljhcnpcaaGreatDoorW
import Derived.Test.YtnpkhgljhcnpcaaGreatDoorVB
import Derived.Test.YtnpkhgljhcnpcaaGreatDoorT1
import Derived.Test.YtnpkhgljhcnpcaaGreatDoorB
set_option linter.unusedVariables false
namespace Go.Proofs.YtnpkhgljhcnpcaaGreatDoor
open Go Go.W

structure Srt where
  k : Int
  n : Int
  x : Int
deriving DecidableEq
structure Nx where
  op : Int
  kids : List Int
  n : Int
  m : Int
  u : Int
  tx : ByteArray
  st : Srt
deriving DecidableEq
def noS : Srt := ⟨0, 0, 0⟩
def bvS (n : Int) : Srt := ⟨0, n, 0⟩
def strS (n : Int) : Srt := ⟨1, n, 0⟩
def validS (s : Srt) : Bool := (s.k == 0 && decide (1 ≤ s.n) && decide (s.n ≤ 64) && s.x == 0) || (s.k == 1 && decide (0 ≤ s.n) && decide (s.n ≤ 64) && s.x == 0) || (s.k == 2 && decide (1 ≤ s.n) && decide (s.n ≤ 64) && decide (1 ≤ s.x) && decide (s.x ≤ 16)) || (s.k == 3 && decide (0 ≤ s.n) && decide (s.n ≤ 64) && decide (1 ≤ s.x) && decide (s.x ≤ 16))
def sortE (s : Srt) : Int := if validS s then 0 else 9
def arrS (s : Srt) : Bool := s.k == 2 || s.k == 3
/-- the number of kids of an operation, or -1 -/
def kidsN (op : Int) : Int := if op < 0 ∨ 34 < op then -1 else if op ≤ 3 then 0 else if op = 4 ∨ op = 5 ∨ op = 21 ∨ op = 22 ∨ op = 23 ∨ op = 27 ∨ op = 28 ∨ op = 33 ∨ op = 34 then 1 else if op = 19 ∨ op = 25 ∨ op = 30 ∨ op = 32 then 3 else 2
def hasN (op : Int) : Bool := op == 21 || op == 22 || op == 23 || op == 28
def hasT (op : Int) : Bool := op == 0 || op == 2 || op == 33
/-- fields that an operation does not have are 0 or empty -/
def okF (n : Nx) : Bool := (hasN n.op || n.n == 0) && (n.op == 21 || n.m == 0) && (n.op == 1 || n.u == 0) && (hasT n.op || decide (n.tx = ba []))
def kidIn (g : List Nx) (k : Int) : Bool := decide (0 ≤ k) && decide (k < (g.length : Int))
def letQ (c : UInt8) : Bool := decide (97 ≤ c.toNat) && decide (c.toNat ≤ 122)
def namQ (c : UInt8) : Bool := letQ c || (decide (48 ≤ c.toNat) && decide (c.toNat ≤ 57)) || c == 45
def nameB (l : List UInt8) : Bool := match l with
  | [] => false
  | c :: m => decide (m.length ≤ 15) && letQ c && m.all namQ
/-- the sort of the first variable with a name -/
def varS : List Nx → ByteArray → Option Srt
  | [], _ => none
  | d :: g, t => if d.op = 0 ∧ d.tx = t then some d.st else varS g t
def twice (g : List Nx) (n : Nx) : Bool := match varS g n.tx with
  | some s => !decide (s = n.st)
  | none => false
def big (u : Int) (n : Int) : Bool := decide (n < 64) && decide (2 ^ n.toNat ≤ u)
def leafX (g : List Nx) (n : Nx) : Srt × Int :=
  if n.op = 2 then (if 64 < n.tx.size then (noS, 5) else (strS n.tx.size, 0)) else
  if n.op = 0 ∧ nameB (bl n.tx) = false then (noS, 6) else
  if validS n.st = false then (noS, 9) else
  if n.op = 1 ∧ n.st.k ≠ 0 ∨ n.op = 3 ∧ arrS n.st = false then (noS, 9) else
  if n.op = 1 ∧ big n.u n.st.n = true then (noS, 5) else
  if n.op = 0 ∧ twice g n = true then (noS, 8) else (n.st, 0)
def elemS (s : Srt) : Srt := if s.k = 2 then bvS s.n else strS s.n
def fitX (op : Int) (x y z : Srt) : Bool :=
  if op = 4 ∨ op = 5 ∨ op = 21 ∨ op = 22 ∨ op = 23 then x.k == 0 else
  if op = 18 then decide (x = y) || (x.k == 1 && y.k == 1) else
  if op = 19 then decide (x = bvS 1) && (decide (y = z) || (y.k == 1 && z.k == 1)) else
  if op = 20 then x.k == 0 && y.k == 0 else
  if op = 24 then arrS x && decide (y = bvS x.x) else
  if op = 25 then arrS x && decide (y = bvS x.x) && (decide (z = elemS x) || (x.k == 3 && z.k == 1 && decide (z.n ≤ x.n))) else
  if op = 26 then arrS x && decide (x = y) else
  if op = 27 ∨ op = 28 ∨ op = 33 then x.k == 1 else
  if op = 29 ∨ op = 31 then x.k == 1 && y.k == 1 else
  if op = 30 then x.k == 1 && decide (y = bvS 7) && decide (z = bvS 7) else
  if op = 32 then x.k == 1 && y.k == 1 && z.k == 1 else
  if op = 34 then decide (x = bvS 8) else x.k == 0 && decide (x = y)
def resX (n : Nx) (x y z : Srt) : Srt :=
  if n.op = 16 ∨ n.op = 17 ∨ n.op = 18 ∨ n.op = 33 then bvS 1 else
  if n.op = 19 then (if y.k = 1 then strS (if y.n < z.n then z.n else y.n) else y) else
  if n.op = 20 then bvS (x.n + y.n) else
  if n.op = 21 then bvS (n.n - n.m + 1) else
  if n.op = 22 ∨ n.op = 23 then bvS (x.n + n.n) else
  if n.op = 24 then elemS x else
  if n.op = 26 then bvS x.x else
  if n.op = 27 ∨ n.op = 31 then bvS 7 else
  if n.op = 28 then bvS 8 else
  if n.op = 29 then strS (x.n + y.n) else
  if n.op = 32 then strS (x.n + z.n) else
  if n.op = 34 then strS 1 else x
def rngX (n : Nx) (x y z : Srt) : Bool :=
  if n.op = 20 ∨ n.op = 29 then decide (x.n + y.n ≤ 64) else
  if n.op = 21 then decide (0 ≤ n.m) && decide (n.m ≤ n.n) && decide (n.n < x.n) else
  if n.op = 22 ∨ n.op = 23 then decide (1 ≤ n.n) && decide (n.n ≤ 64 - x.n) else
  if n.op = 28 then decide (0 ≤ n.n) && decide (n.n ≤ 63) else
  if n.op = 32 then decide (x.n + z.n ≤ 64) else true
/-- the sort of a kid -/
def kst (g : List Nx) (n : Nx) (i : Nat) : Srt := match n.kids[i]? with
  | some k => match g[k.toNat]? with
    | some d => d.st
    | none => noS
  | none => noS
def canX (t : ByteArray) : Bool := canQ (bl t) == some true
/-- the sort of a node over a graph, or an error -/
def srtX (g : List Nx) (n : Nx) : Srt × Int :=
  if (kidsN n.op == (n.kids.length : Int) && n.kids.all (kidIn g) && okF n) = false then (noS, 1) else
  if n.op ≤ 3 then leafX g n else
  if fitX n.op (kst g n 0) (kst g n 1) (kst g n 2) = false then (noS, 9) else
  if rngX n (kst g n 0) (kst g n 1) (kst g n 2) = false then (noS, 5) else
  if n.op = 33 ∧ canX n.tx = false then (noS, 2) else (resX n (kst g n 0) (kst g n 1) (kst g n 2), 0)
def idxX (n : Nx) : List Nx → Nat → Option Nat
  | [], _ => none
  | d :: g, i => if d = n then some i else idxX n g (i + 1)
/-- a graph in order: each node has its sort over those before, and is none of them -/
inductive Vg : List Nx → Prop
  | nil : Vg []
  | snoc {g : List Nx} {n : Nx} : Vg g → srtX g n = (n.st, 0) → n ∉ g → Vg (g ++ [n])
end Go.Proofs.YtnpkhgljhcnpcaaGreatDoor
namespace Go.Proofs.YtnpkhgljhcnpcaaGreatDoor
open Go Go.W

/-- a node, with the slice of its kids -/
structure Nd where
  x : Nx
  ks : Sl
abbrev srtV (s : Srt) : Value := .agg #[.i s.k, .i s.n, .i s.x]
namespace Nd
def c (d : Nd) : List Value := [.i d.x.op, d.ks.v, .i d.x.n, .i d.x.m, .u d.x.u, .string d.x.tx, .i d.x.st.k, .i d.x.st.n, .i d.x.st.x]
abbrev v (d : Nd) : Value := .agg #[.i d.x.op, d.ks.v, .i d.x.n, .i d.x.m, .u d.x.u, .string d.x.tx, .i d.x.st.k, .i d.x.st.n, .i d.x.st.x]
theorem c_len (d : Nd) : (c d).length = 9 := rfl
theorem cs_len (l : List Nd) : (l.flatMap c).length = l.length * 9 := flat_length c 9 c_len l
abbrev P (w : World) (d : Nd) : Prop := Nums w d.ks d.x.kids
structure Cells (w : World) (p : Addr) (i : Nat) (d : Nd) : Prop where
  c0 : w.cell? ((p.add (i * 9)).add 0) = some (.i d.x.op)
  c1 : w.cell? ((p.add (i * 9)).add 1) = some d.ks.v
  c2 : w.cell? ((p.add (i * 9)).add 2) = some (.i d.x.n)
  c3 : w.cell? ((p.add (i * 9)).add 3) = some (.i d.x.m)
  c4 : w.cell? ((p.add (i * 9)).add 4) = some (.u d.x.u)
  c5 : w.cell? ((p.add (i * 9)).add 5) = some (.string d.x.tx)
  c6 : w.cell? ((p.add (i * 9)).add 6) = some (.i d.x.st.k)
  c7 : w.cell? ((p.add (i * 9)).add 7) = some (.i d.x.st.n)
  c8 : w.cell? ((p.add (i * 9)).add 8) = some (.i d.x.st.x)
theorem rows_n {w : World} {s : Sl} {l : List Nd} (h : RdN 9 w s (l.flatMap c)) : s.n = l.length := by
  have := h.1
  rw [cs_len] at this
  omega
theorem at' {w : World} {s : Sl} {l : List Nd} (h : RdN 9 w s (l.flatMap c)) {i : Nat} {d : Nd} (hi : l[i]? = some d) {K : Addr → Prop} (hk : ∀ p, s.a = some p → Cells w p i d → K p) : optP s.a K :=
  CRow.elem (f := c) (sz := 9) c_len (by omega) h.2.2 hi fun p hp hc => hk p hp ⟨hc 0 _ rfl, hc 1 _ rfl, hc 2 _ rfl, hc 3 _ rfl, hc 4 _ rfl, hc 5 _ rfl, hc 6 _ rfl, hc 7 _ rfl, hc 8 _ rfl⟩
end Nd
/-- the nodes of a graph, without the slices -/
abbrev xs (l : List Nd) : List Nx := l.map Nd.x
/-- a graph to read -/
def GP (w : World) (s : Sl) (l : List Nd) : Prop := RdN 9 w s (l.flatMap Nd.c) ∧ ∀ d ∈ l, d.P w
abbrev kidE (d : Nd) : En := .rd d.ks (d.x.kids.map intV)
def _root_.Go.W.En.gr (s : Sl) (l : List Nd) : En := .all (.rdn 9 s (l.flatMap Nd.c) :: l.map kidE)
theorem gr_P {w : World} {s : Sl} {l : List Nd} : (En.gr s l).P w ↔ GP w s l := by
  constructor
  · exact fun h => ⟨h (.rdn 9 s (l.flatMap Nd.c)) (by simp), fun d hd => h (kidE d) (List.mem_cons_of_mem _ (List.mem_map.2 ⟨d, hd, rfl⟩))⟩
  · intro h e he
    rcases List.mem_cons.1 he with rfl | he
    · exact h.1
    · obtain ⟨d, hd, rfl⟩ := List.mem_map.1 he
      exact h.2 d hd
theorem gr_fp {s : Sl} {l : List Nd} {b : Nat} : b ∈ (En.gr s l).fp ↔ b ∈ (En.rdn 9 s (l.flatMap Nd.c)).fp ∨ ∃ d ∈ l, b ∈ (kidE d).fp := by
  unfold En.gr En.all
  rw [mem_nub, List.mem_flatMap]
  constructor
  · rintro ⟨e, he, hb⟩
    rcases List.mem_cons.1 he with rfl | he
    · exact .inl hb
    · obtain ⟨d, hd, rfl⟩ := List.mem_map.1 he
      exact .inr ⟨d, hd, hb⟩
  · rintro (hb | ⟨d, hd, hb⟩)
    · exact ⟨_, List.mem_cons_self .., hb⟩
    · exact ⟨_, List.mem_cons_of_mem _ (List.mem_map.2 ⟨d, hd, rfl⟩), hb⟩
theorem gr_n {w : World} {s : Sl} {l : List Nd} (h : GP w s l) : s.n = l.length := Nd.rows_n h.1
/-- a load of a whole node, as it is printed -/
theorem gr_at {w : World} {s : Sl} {l : List Nd} (h : GP w s l) {i : Nat} {d : Nd} {X : Int} (hX : X = (i : Int)) (hi : l[i]? = some d) {K : Addr → Prop} (hk : ∀ p, s.a = some p → Nd.Cells w p (Int.toNat X) d → K p) : (0 : Int) ≤ X ∧ X < ((s.n : Nat) : Int) ∧ optP s.a K := by
  have hn := gr_n h
  have hl := (List.getElem?_eq_some_iff.1 hi).1
  subst hX
  exact ⟨by omega, by omega, Nd.at' h.1 hi hk⟩
theorem xs_get {l : List Nd} {i : Nat} {d : Nd} (h : l[i]? = some d) : (xs l)[i]? = some d.x := by simp [xs, h]
namespace Nd
theorem Cells.s0 {w : World} {p : Addr} {i : Nat} {d : Nd} (h : Cells w p i d) : w.cell? (((p.add (i * 9)).add 6).add 0) = some (.i d.x.st.k) := by rw [add_add]; exact h.c6
theorem Cells.s1 {w : World} {p : Addr} {i : Nat} {d : Nd} (h : Cells w p i d) : w.cell? (((p.add (i * 9)).add 6).add 1) = some (.i d.x.st.n) := by rw [add_add]; exact h.c7
theorem Cells.s2 {w : World} {p : Addr} {i : Nat} {d : Nd} (h : Cells w p i d) : w.cell? (((p.add (i * 9)).add 6).add 2) = some (.i d.x.st.x) := by rw [add_add]; exact h.c8
end Nd
/-! #### Rows of sorts -/
def srtC (s : Srt) : List Value := [.i s.k, .i s.n, .i s.x]
theorem srt_eq (a b : Srt) : ((a.k == b.k) && ((a.n == b.n) && ((a.x == b.x) && true))) = decide (a = b) := by
  cases a; cases b
  simp only [Srt.mk.injEq, Bool.and_true, Bool.decide_and]
  rfl
/-- strings as they are compared -/
theorem tx_eq (a b : ByteArray) : (a.toList == b.toList) = decide (a = b) := by
  rw [ByteArray.toList_eq, ByteArray.toList_eq]
  have h : (a.data.toList = b.data.toList) ↔ a = b := ⟨fun h => ByteArray.ext (Array.toList_inj.1 h), fun h => by rw [h]⟩
  rw [← decide_eq_decide.2 h]
  cases hd : decide (a.data.toList = b.data.toList) with
  | true => rw [of_decide_eq_true hd]; simp
  | false => exact beq_eq_false_iff_ne.2 (of_decide_eq_false hd)
section
variable {A B : Prop}
theorem sel_srt {a b : Srt} (h1 : a = b → A) (h2 : a ≠ b → B) : sel ((a.k == b.k) && ((a.n == b.n) && ((a.x == b.x) && true))) A B := by
  rw [srt_eq]; exact sel_dec h1 h2
theorem sel_srtN {a b : Srt} (h1 : a ≠ b → A) (h2 : a = b → B) : sel (!((a.k == b.k) && ((a.n == b.n) && ((a.x == b.x) && true)))) A B := by
  rw [srt_eq]; exact sel_not (fun h => h1 (of_decide_eq_false h)) (fun h => h2 (of_decide_eq_true h))
theorem sel_srtE {s : Srt} (h1 : validS s = false → A) (h2 : validS s = true → B) : sel (sortE s != 0) A B := by
  unfold sortE
  cases h : validS s with
  | true => exact sel_false rfl (h2 h)
  | false => exact sel_true rfl (h1 h)
end
end Go.Proofs.YtnpkhgljhcnpcaaGreatDoor
set_option maxRecDepth 100000
namespace Go.Proofs.YtnpkhgljhcnpcaaGreatDoor
open Go Go.W

/-- all operations, one by one -/
theorem op_all {op : Int} (h1 : 0 ≤ op) (h2 : op ≤ 34) : op = 0 ∨ op = 1 ∨ op = 2 ∨ op = 3 ∨ op = 4 ∨ op = 5 ∨ op = 6 ∨ op = 7 ∨ op = 8 ∨ op = 9 ∨ op = 10 ∨ op = 11 ∨ op = 12 ∨ op = 13 ∨ op = 14 ∨ op = 15 ∨ op = 16 ∨ op = 17 ∨ op = 18 ∨ op = 19 ∨ op = 20 ∨ op = 21 ∨ op = 22 ∨ op = 23 ∨ op = 24 ∨ op = 25 ∨ op = 26 ∨ op = 27 ∨ op = 28 ∨ op = 29 ∨ op = 30 ∨ op = 31 ∨ op = 32 ∨ op = 33 ∨ op = 34 := by omega
theorem nameB_cons (c : UInt8) (m : List UInt8) : nameB (c :: m) = (decide (m.length ≤ 15) && letQ c && m.all namQ) := rfl
theorem r_within (n lo hi : Int) (w : World) : Calls Tryz.prog n_enthymemeref06_within #[.int .i64 n, .int .i64 lo, .int .i64 hi] w fun r w' => r = .returned (.bool (decide (lo ≤ n ∧ n ≤ hi))) ∧ Fr0 w w' := by
  refine enthymemeref06_within.ok _ _ _ w _ (sel_dec (fun h => ⟨?_, Fr.refl _ _⟩) (fun h => ⟨?_, Fr.refl _ _⟩))
  · have : (lo ≤ n ∧ n ≤ hi) ↔ n ≤ hi := ⟨fun h => h.2, fun h' => ⟨h, h'⟩⟩
    simp only [this]
  · rw [decide_eq_false (by omega)]
theorem r_ValidSort (s : Srt) (w : World) : Calls Tryz.prog n_enthymemeref06_ValidSort #[srtV s] w fun r w' => r = .returned (.int .i64 (sortE s)) ∧ Fr0 w w' := by
  refine enthymemeref06_ValidSort.okT _ _ _ w _ ((lh0 [] (by simp)).newg fun b1 w1 H1 => ?_)
  have fin : ∀ {w2 : World} {L : List En} (b : Bool), b = validS s → LH F0 w w2 L [] → enthymemeref06_ValidSort.S0T b w2 fun r w' => r = .returned (.int .i64 (sortE s)) ∧ Fr0 w w' := by
    rintro w2 L b rfl H
    refine sel_not (fun h => ⟨?_, H.fr⟩) (fun h => ⟨?_, H.fr⟩)
    · unfold sortE; rw [if_neg (by simp [h])]
    · unfold sortE; rw [if_pos h]
  have plain : ∀ lo : Int, (validS s = (decide (lo ≤ s.n ∧ s.n ≤ 64) && (s.x == 0))) → callF [b1] Tryz.prog n_enthymemeref06_within #[.int .i64 s.n, .int .i64 lo, .int .i64 64] w1 fun r_ w2 => ∃ t10 : Bool, r_ = .returned (.bool t10) ∧ sel t10 (enthymemeref06_ValidSort.S0T (s.x == 0) w2 fun r w' => r = .returned (.int .i64 (sortE s)) ∧ Fr0 w w') (enthymemeref06_ValidSort.S0T false w2 fun r w' => r = .returned (.int .i64 (sortE s)) ∧ Fr0 w w') := by
    intro lo hv
    refine H1.callg (r_within _ _ _ w1) ?_
    rintro _ w2 rfl H2
    refine ⟨_, rfl, sel_intro (fun h => fin _ ?_ H2) (fun h => fin _ ?_ H2)⟩
    · rw [hv, h]; rfl
    · rw [hv, h]; rfl
  have array : ∀ lo : Int, (validS s = (decide (lo ≤ s.n ∧ s.n ≤ 64) && decide (1 ≤ s.x ∧ s.x ≤ 16))) → callF [b1] Tryz.prog n_enthymemeref06_within #[.int .i64 s.n, .int .i64 lo, .int .i64 64] w1 fun r_ w2 => ∃ t10 : Bool, r_ = .returned (.bool t10) ∧ sel t10 (callF [b1] Tryz.prog n_enthymemeref06_within #[.int .i64 s.x, .int .i64 1, .int .i64 16] w2 fun r_ w5 => ∃ t34 : Bool, r_ = .returned (.bool t34) ∧ enthymemeref06_ValidSort.S0T t34 w5 fun r w' => r = .returned (.int .i64 (sortE s)) ∧ Fr0 w w') (enthymemeref06_ValidSort.S0T false w2 fun r w' => r = .returned (.int .i64 (sortE s)) ∧ Fr0 w w') := by
    intro lo hv
    refine H1.callg (r_within _ _ _ w1) ?_
    rintro _ w2 rfl H2
    refine ⟨_, rfl, sel_intro (fun h => H2.callg (r_within _ _ _ w2) ?_) (fun h => fin _ ?_ H2)⟩
    · rintro _ w3 rfl H3
      exact ⟨_, rfl, fin _ (by rw [hv, h]; rfl) H3⟩
    · rw [hv, h]; rfl
  refine sel_eq (fun h0 => plain 1 ?_) (fun h0 => sel_eq (fun h1' => plain 0 ?_) (fun h1' => sel_eq (fun h2' => array 1 ?_) (fun h2' => sel_eq (fun h3' => array 0 ?_) (fun h3' => fin _ ?_ H1))))
  · unfold validS; simp [h0]
  · unfold validS; simp [h1']
  · unfold validS; simp [h2', Bool.and_assoc]
  · unfold validS; simp [h3', Bool.and_assoc]
  · unfold validS; simp [h0, h1', h2', h3']
end Go.Proofs.YtnpkhgljhcnpcaaGreatDoor
set_option maxRecDepth 100000
namespace Go.Proofs.YtnpkhgljhcnpcaaGreatDoor
open Go Go.W

theorem blk_nums {w : World} {b n : Nat} {l : List Int} {T : TypeId} (h : w.heap[b]? = some (.cells (l.map intV).toArray T (0, 0))) (hn : n = l.length) : Nums w ⟨some (at0 b), n, n⟩ l :=
  blk_rd h (by simpa using hn)
end Go.Proofs.YtnpkhgljhcnpcaaGreatDoor
set_option maxRecDepth 100000
namespace Go.Proofs.YtnpkhgljhcnpcaaGreatDoor
open Go Go.W

def VarsOk (g : List Nx) : Prop := ∀ d ∈ g, d.op = 0 → ∀ e ∈ g, e.op = 0 → d.tx = e.tx → d.st = e.st
def twin (n d : Nx) : Bool := decide (d.op = 0 ∧ d.tx = n.tx ∧ d.st ≠ n.st)
theorem varS_mem {t : ByteArray} {s : Srt} : ∀ {g : List Nx}, varS g t = some s → ∃ d ∈ g, d.op = 0 ∧ d.tx = t ∧ d.st = s
  | d :: g, h => by
    unfold varS at h
    split at h
    · rename_i hc
      exact ⟨d, by simp, hc.1, hc.2, Option.some.inj h⟩
    · obtain ⟨e, he, h⟩ := varS_mem h
      exact ⟨e, List.mem_cons_of_mem _ he, h⟩
theorem varS_none {t : ByteArray} : ∀ {g : List Nx}, varS g t = none → ∀ d ∈ g, d.op = 0 → d.tx ≠ t
  | a :: g, h, d, hd, h0, ht => by
    unfold varS at h
    split at h
    · cases h
    · rename_i hc
      rcases List.mem_cons.1 hd with rfl | hd
      · exact hc ⟨h0, ht⟩
      · exact varS_none h d hd h0 ht
theorem twice_any {g : List Nx} (hv : VarsOk g) (n : Nx) : twice g n = g.any (twin n) := by
  unfold twice
  cases h : varS g n.tx with
  | none =>
    symm
    rw [List.any_eq_false]
    intro d hd ht
    have ht := of_decide_eq_true ht
    exact varS_none h d hd ht.1 ht.2.1
  | some s =>
    obtain ⟨d, hd, h0, h1, h2⟩ := varS_mem h
    by_cases hs : s = n.st
    · simp only [hs, decide_true, Bool.not_true]
      symm
      rw [List.any_eq_false]
      intro e he ht
      have ht := of_decide_eq_true ht
      exact ht.2.2 ((hv e he ht.1 d hd h0 (ht.2.1.trans h1.symm)).trans (h2.trans hs))
    · simp only [hs, decide_false, Bool.not_false]
      symm
      rw [List.any_eq_true]
      exact ⟨d, hd, decide_eq_true ⟨h0, h1, fun e => hs (h2.symm.trans e)⟩⟩
/-- what a function returns that gives a sort and an error -/
abbrev sortR (x : Srt × Int) : Ending := .returned (.tuple #[srtV x.1, .i x.2])
theorem valid_bv {s : Srt} (h : validS s = true) (hk : s.k = 0) : 1 ≤ s.n ∧ s.n ≤ 64 ∧ s.x = 0 := by
  unfold validS at h
  simp [hk] at h
  omega
theorem valid_n {s : Srt} (h : validS s = true) : 0 ≤ s.n ∧ s.n ≤ 64 ∧ 0 ≤ s.x ∧ s.x ≤ 16 ∧ 0 ≤ s.k ∧ s.k ≤ 3 := by
  unfold validS at h
  simp at h
  omega
end Go.Proofs.YtnpkhgljhcnpcaaGreatDoor
set_option maxRecDepth 100000
namespace Go.Proofs.YtnpkhgljhcnpcaaGreatDoor
open Go Go.W

theorem valid_of {s : Srt} (h : (s.k = 0 ∧ 1 ≤ s.n ∧ s.n ≤ 64 ∧ s.x = 0) ∨ (s.k = 1 ∧ 0 ≤ s.n ∧ s.n ≤ 64 ∧ s.x = 0) ∨ (s.k = 2 ∧ 1 ≤ s.n ∧ s.n ≤ 64 ∧ 1 ≤ s.x ∧ s.x ≤ 16) ∨ (s.k = 3 ∧ 0 ≤ s.n ∧ s.n ≤ 64 ∧ 1 ≤ s.x ∧ s.x ≤ 16)) : validS s = true := by
  unfold validS
  rcases h with ⟨h1, h2, h3, h4⟩ | ⟨h1, h2, h3, h4⟩ | ⟨h1, h2, h3, h4, h5⟩ | ⟨h1, h2, h3, h4, h5⟩ <;> simp [h1, h2, h3, h4] <;> simp [h5]
theorem valid_iff {s : Srt} : validS s = true ↔ (s.k = 0 ∧ 1 ≤ s.n ∧ s.n ≤ 64 ∧ s.x = 0) ∨ (s.k = 1 ∧ 0 ≤ s.n ∧ s.n ≤ 64 ∧ s.x = 0) ∨ (s.k = 2 ∧ 1 ≤ s.n ∧ s.n ≤ 64 ∧ 1 ≤ s.x ∧ s.x ≤ 16) ∨ (s.k = 3 ∧ 0 ≤ s.n ∧ s.n ≤ 64 ∧ 1 ≤ s.x ∧ s.x ≤ 16) := by
  refine ⟨fun h => ?_, valid_of⟩
  unfold validS at h
  simp only [Bool.or_eq_true, Bool.and_eq_true, beq_iff_eq, decide_eq_true_eq] at h
  omega
/-- what a sort that is computed tells of the node -/
structure SrtOk (g : List Nx) (n : Nx) : Prop where
  kl : kidsN n.op = (n.kids.length : Int)
  ki : ∀ k ∈ n.kids, 0 ≤ k ∧ k < (g.length : Int)
  ok : okF n = true
theorem srt_ok {g : List Nx} {n : Nx} (h : (srtX g n).2 = 0) : SrtOk g n := by
  unfold srtX at h
  split at h
  · cases h
  · rename_i hc
    simp only [Bool.and_eq_false_iff, not_or, Bool.not_eq_false, beq_iff_eq] at hc
    refine ⟨hc.1.1, fun k hk => ?_, hc.2⟩
    have := List.all_eq_true.1 hc.1.2 k hk
    unfold kidIn at this
    simpa using this
theorem kst_ok {g : List Nx} {n : Nx} (hv : ∀ d ∈ g, validS d.st = true) (hk : ∀ k ∈ n.kids, 0 ≤ k ∧ k < (g.length : Int)) {i : Nat} (hi : i < n.kids.length) : validS (kst g n i) = true := by
  have h1 := hk _ (List.getElem_mem hi)
  unfold kst
  rw [List.getElem?_eq_getElem hi]
  dsimp only
  have h2 : (n.kids[i]).toNat < g.length := by omega
  rw [List.getElem?_eq_getElem h2]
  exact hv _ (List.getElem_mem h2)
theorem elem_valid {x : Srt} (h : validS x = true) (ha : arrS x = true) : validS (elemS x) = true := by
  rw [valid_iff] at h
  unfold arrS at ha
  simp only [Bool.or_eq_true, beq_iff_eq] at ha
  unfold elemS
  refine valid_of ?_
  split
  · show (0 = 0 ∧ 1 ≤ x.n ∧ x.n ≤ 64 ∧ 0 = 0) ∨ _
    left; omega
  · right; left
    show (1 : Int) = 1 ∧ 0 ≤ x.n ∧ x.n ≤ 64 ∧ (0 : Int) = 0
    omega
theorem bv_valid {n : Int} (h1 : 1 ≤ n) (h2 : n ≤ 64) : validS (bvS n) = true := valid_of (.inl ⟨rfl, h1, h2, rfl⟩)
theorem str_valid {n : Int} (h1 : 0 ≤ n) (h2 : n ≤ 64) : validS (strS n) = true := valid_of (.inr (.inl ⟨rfl, h1, h2, rfl⟩))
theorem srt_valid {g : List Nx} {n : Nx} (hv : ∀ d ∈ g, validS d.st = true) (h : (srtX g n).2 = 0) : validS (srtX g n).1 = true := by
  have ho := srt_ok h
  have hk : ∀ i : Nat, (i : Int) < kidsN n.op → validS (kst g n i) = true := fun i hi => kst_ok hv ho.ki (by have := ho.kl; omega)
  unfold srtX at h ⊢
  split at h
  · cases h
  rename_i hc
  rw [if_neg hc]
  split at h
  · rename_i h3
    rw [if_pos h3]
    unfold leafX at h ⊢
    split at h
    · rename_i h2
      rw [if_pos h2]
      split at h
      · cases h
      · rename_i h64
        rw [if_neg h64]
        exact str_valid (by omega) (by omega)
    · rename_i h2
      rw [if_neg h2]
      split at h
      · cases h
      rename_i h0
      rw [if_neg h0]
      split at h
      · cases h
      rename_i h1
      rw [if_neg h1]
      split at h
      · cases h
      rename_i h4
      rw [if_neg h4]
      split at h
      · cases h
      rename_i h5
      rw [if_neg h5]
      split at h
      · cases h
      rename_i h6
      rw [if_neg h6]
      simpa using h1
  rename_i h3
  rw [if_neg h3]
  split at h
  · cases h
  rename_i hf
  rw [if_neg hf]
  split at h
  · cases h
  rename_i hr
  rw [if_neg hr]
  split at h
  · cases h
  rename_i hc2
  rw [if_neg hc2]
  simp only [Bool.not_eq_false] at hf hr
  have h34 : n.op ≤ 34 := by
    rcases Int.lt_or_le 34 n.op with h | h
    · have := ho.kl
      unfold kidsN at this
      rw [if_pos (.inr h)] at this
      omega
    · exact h
  generalize hx : kst g n 0 = x at *
  generalize hy : kst g n 1 = y at *
  generalize hz : kst g n 2 = z at *
  have vx : validS x = true := by rw [← hx]; exact hk 0 (by unfold kidsN; repeat' split <;> omega)
  have hy2 : 2 ≤ kidsN n.op → validS y = true := fun h => by rw [← hy]; exact hk 1 (by omega)
  have hz2 : kidsN n.op = 3 → validS z = true := fun h => by rw [← hz]; exact hk 2 (by omega)
  obtain ⟨op, kids, nn, m, u, tx, st⟩ := n
  simp only at *
  clear hx hy hz hk ho hc hc2
  rcases op_all (by omega) h34 with rfl | rfl | rfl | rfl | rfl | rfl | rfl | rfl | rfl | rfl | rfl | rfl | rfl | rfl | rfl | rfl | rfl | rfl | rfl | rfl | rfl | rfl | rfl | rfl | rfl | rfl | rfl | rfl | rfl | rfl | rfl | rfl | rfl | rfl | rfl
  iterate 4 omega
  all_goals first | (have hy2 := hy2 (by decide)) | skip
  all_goals first | (have hz2 := hz2 (by decide)) | skip
  -- Not .. Ashr
  iterate 12 exact vx
  -- Ult, Slt, Eq
  iterate 3 exact bv_valid (by omega) (by omega)
  -- Ite
  · show validS (if y.k = 1 then strS (if y.n < z.n then z.n else y.n) else y) = true
    split
    · rename_i hk
      have hf : (decide (x = bvS 1) && (decide (y = z) || (y.k == 1 && z.k == 1))) = true := hf
      have h1 := valid_n hy2
      have h2 := valid_n hz2
      exact str_valid (by split <;> omega) (by split <;> omega)
    · exact hy2
  -- Concat
  · have hf : (x.k == 0 && y.k == 0) = true := hf
    have hr : decide (x.n + y.n ≤ 64) = true := hr
    simp only [Bool.and_eq_true, beq_iff_eq] at hf
    have h1 := valid_bv vx hf.1
    have h2 := valid_bv hy2 hf.2
    exact bv_valid (by omega) (of_decide_eq_true hr)
  -- Extract
  · have hf : (x.k == 0) = true := hf
    have hr : (decide (0 ≤ m) && decide (m ≤ nn) && decide (nn < x.n)) = true := hr
    simp only [Bool.and_eq_true, decide_eq_true_eq] at hr
    have h1 := valid_bv vx (eq_of_beq hf)
    show validS (bvS (nn - m + 1)) = true
    exact bv_valid (by omega) (by omega)
  -- Zext, Sext
  iterate 2
    · have hf : (x.k == 0) = true := hf
      have hr : (decide (1 ≤ nn) && decide (nn ≤ 64 - x.n)) = true := hr
      simp only [Bool.and_eq_true, decide_eq_true_eq] at hr
      have h1 := valid_bv vx (eq_of_beq hf)
      show validS (bvS (x.n + nn)) = true
      exact bv_valid (by omega) (by omega)
  -- Select
  · have hf : (arrS x && decide (y = bvS x.x)) = true := hf
    simp only [Bool.and_eq_true] at hf
    exact elem_valid vx hf.1
  -- Store
  · exact vx
  -- Diff
  · have hf : (arrS x && decide (x = y)) = true := hf
    simp only [Bool.and_eq_true] at hf
    have h1 := hf.1
    unfold arrS at h1
    simp only [Bool.or_eq_true, beq_iff_eq] at h1
    rw [valid_iff] at vx
    exact bv_valid (by omega) (by omega)
  -- Len
  · exact bv_valid (by omega) (by omega)
  -- Byte
  · exact bv_valid (by omega) (by omega)
  -- Cat
  · have hr : decide (x.n + y.n ≤ 64) = true := hr
    have h1 := valid_n vx
    have h2 := valid_n hy2
    exact str_valid (by omega) (of_decide_eq_true hr)
  -- Sub
  · exact vx
  -- Find
  · exact bv_valid (by omega) (by omega)
  -- Replace
  · have hr : decide (x.n + z.n ≤ 64) = true := hr
    have h1 := valid_n vx
    have h2 := valid_n hz2
    exact str_valid (by omega) (of_decide_eq_true hr)
  -- In
  · exact bv_valid (by omega) (by omega)
  -- Char
  · exact str_valid (by omega) (by omega)
/-! #### Graphs in order -/
theorem Vg.val {g : List Nx} (h : Vg g) : ∀ d ∈ g, validS d.st = true := by
  induction h with
  | nil => simp
  | snoc hg hs hn ih =>
    intro d hd
    rcases List.mem_append.1 hd with hd | hd
    · exact ih d hd
    · simp only [List.mem_cons, List.not_mem_nil, or_false] at hd
      subst hd
      have := srt_valid ih (by rw [hs])
      rwa [hs] at this
/-- a node that is a variable is known by its name and its sort -/
theorem var_eq {g g' : List Nx} {a b : Nx} (ha : SrtOk g a) (hb : SrtOk g' b) (h0 : a.op = 0) (h0' : b.op = 0) (ht : a.tx = b.tx) (hs : a.st = b.st) : a = b := by
  have k0 : ∀ {g : List Nx} {a : Nx}, SrtOk g a → a.op = 0 → a.kids = [] ∧ a.n = 0 ∧ a.m = 0 ∧ a.u = 0 := by
    intro g a ha h0
    have h1 := ha.kl
    have h2 := ha.ok
    rw [h0] at h1
    unfold okF at h2
    rw [h0] at h2
    refine ⟨List.eq_nil_of_length_eq_zero (by have : kidsN 0 = 0 := rfl; omega), ?_⟩
    have : hasN 0 = false := rfl
    rw [this] at h2
    simp at h2
    exact ⟨h2.1.1.1, h2.1.1.2, h2.1.2⟩
  obtain ⟨a1, a2, a3, a4⟩ := k0 ha h0
  obtain ⟨b1, b2, b3, b4⟩ := k0 hb h0'
  cases a; cases b
  simp only at *
  subst h0 h0' ht hs a1 a2 a3 a4 b1 b2 b3 b4
  rfl
theorem Vg.ok {g : List Nx} (h : Vg g) : ∀ i d, g[i]? = some d → srtX (g.take i) d = (d.st, 0) := by
  induction h with
  | nil => intro i d hd; simp at hd
  | @snoc g n hg hs hn ih =>
    intro i d hd
    rcases Nat.lt_or_ge i g.length with hi | hi
    · rw [List.getElem?_append_left hi] at hd
      rw [List.take_append_of_le_length (by omega)]
      exact ih i d hd
    · rw [List.getElem?_append_right hi] at hd
      have : i - g.length = 0 := by
        have := (List.getElem?_eq_some_iff.1 hd).1
        simp at this
        omega
      rw [this] at hd
      simp at hd
      subst hd
      rw [show i = g.length by omega, List.take_left]
      exact hs
theorem Vg.sok {g : List Nx} (h : Vg g) : ∀ i d, g[i]? = some d → SrtOk (g.take i) d := fun i d hd => srt_ok (by rw [h.ok i d hd])
theorem Vg.kids {g : List Nx} (h : Vg g) {i : Nat} {d : Nx} (hd : g[i]? = some d) : ∀ k ∈ d.kids, 0 ≤ k ∧ k < (i : Int) := fun k hk => by
  have h1 := (h.sok i d hd).ki k hk
  have h2 := (List.getElem?_eq_some_iff.1 hd).1
  rw [List.length_take] at h1
  omega
theorem Vg.vars {g : List Nx} (h : Vg g) : VarsOk g := by
  induction h with
  | nil => intro d hd; cases hd
  | @snoc g n hg hs hn ih =>
    have one : ∀ d ∈ g, d.op = 0 → n.op = 0 → d.tx = n.tx → d.st = n.st := by
      intro d hd h0 h0' ht
      have hso : SrtOk g n := srt_ok (by rw [hs])
      unfold srtX at hs
      split at hs
      · simp at hs
      rw [if_pos (by omega : n.op ≤ 3)] at hs
      unfold leafX at hs
      rw [if_neg (by omega)] at hs
      split at hs
      · simp at hs
      split at hs
      · simp at hs
      split at hs
      · simp at hs
      split at hs
      · simp at hs
      split at hs
      · simp at hs
      rename_i h1
      simp only [h0', true_and, Bool.not_eq_true] at h1
      rw [twice_any ih, List.any_eq_false] at h1
      rcases decEq d.st n.st with h | h
      · exact absurd (decide_eq_true ⟨h0, ht, h⟩) (h1 d hd)
      · exact h
    intro d hd h0 e he h0' ht
    have hd := List.mem_append.1 hd
    have he := List.mem_append.1 he
    simp only [List.mem_cons, List.not_mem_nil, or_false] at hd he
    rcases hd with hd | hd
    · rcases he with he | he
      · exact ih d hd h0 e he h0' ht
      · rw [he] at ht h0' ⊢
        exact one d hd h0 h0' ht
    · rw [hd] at ht h0 ⊢
      rcases he with he | he
      · exact (one e he h0' h0 ht.symm).symm
      · rw [he]
theorem idx_none {n : Nx} : ∀ {g : List Nx} {i : Nat}, idxX n g i = none → n ∉ g
  | [], i, _ => by simp
  | d :: g, i, h => by
    unfold idxX at h
    split at h
    · cases h
    · rename_i hd
      simp only [List.mem_cons, not_or]
      exact ⟨fun e => hd e.symm, idx_none h⟩
theorem idx_some {n : Nx} : ∀ {g : List Nx} {i k : Nat}, idxX n g i = some k → i ≤ k ∧ g[k - i]? = some n
  | d :: g, i, k, h => by
    unfold idxX at h
    split at h
    · rename_i hd
      cases h
      simp [hd]
    · have := idx_some h
      refine ⟨by omega, ?_⟩
      rw [show k - i = (k - (i + 1)) + 1 by omega]
      simpa using this.2
end Go.Proofs.YtnpkhgljhcnpcaaGreatDoor
set_option maxRecDepth 100000
set_option maxHeartbeats 1000000
namespace Go.Proofs.YtnpkhgljhcnpcaaGreatDoor
open Go Go.W

end Go.Proofs.YtnpkhgljhcnpcaaGreatDoor
set_option maxRecDepth 100000
set_option maxHeartbeats 1000000
namespace Go.Proofs.YtnpkhgljhcnpcaaGreatDoor
open Go Go.W

end Go.Proofs.YtnpkhgljhcnpcaaGreatDoor
set_option maxRecDepth 100000
set_option maxHeartbeats 1000000
namespace Go.Proofs.YtnpkhgljhcnpcaaGreatDoor
open Go Go.W

end Go.Proofs.YtnpkhgljhcnpcaaGreatDoor
set_option maxRecDepth 100000
set_option maxHeartbeats 1000000
namespace Go.Proofs.YtnpkhgljhcnpcaaGreatDoor
open Go Go.W

theorem el_node : ElemOk Tryz.prog ty_sl_api_Node ty_api_Node (.agg #[.int .i64 0, .slice none 0 0, .int .i64 0, .int .i64 0, .int .u64 0, .string (ByteArray.mk #[]), .int .i64 0, .int .i64 0, .int .i64 0]) 9 96 := ⟨by kernel_rfl, by kernel_rfl, rfl, by decide, by decide⟩
theorem nd_one {l : List Nd} : ∀ u ∈ l.flatMap Nd.c, u.oneCell' = true := by
  intro u hu
  obtain ⟨d, _, hu⟩ := List.mem_flatMap.1 hu
  simp only [Nd.c, List.mem_cons, List.not_mem_nil, or_false] at hu
  rcases hu with rfl | rfl | rfl | rfl | rfl | rfl | rfl | rfl | rfl <;> rfl
theorem blk_rdn {w : World} {b n sz : Nat} {cs : List Value} {T : TypeId} (h : w.heap[b]? = some (.cells cs.toArray T (0, 0))) (hn : cs.length = n * sz) : RdN sz w ⟨some (at0 b), n, n⟩ cs :=
  ⟨hn, Nat.le_refl _, ⟨fun h => (by cases h), fun i v hi => ⟨at0 b, rfl, cellAt (p := at0 b) h rfl (by simpa using hi)⟩⟩⟩
/-- a graph that is returned: what it reads lies in what was there, or is new -/
structure GR (w : World) (B : Nat → Prop) (g : List Nx) (s : Sl) (w' : World) : Prop where
  ex : ∃ l' : List Nd, xs l' = g ∧ GP w' s l' ∧ ∀ b ∈ (En.gr s l').fp, B b ∨ w.heap.size ≤ b
theorem GR.nil (w : World) (B : Nat → Prop) (w' : World) : GR w B [] ⟨none, 0, 0⟩ w' := ⟨⟨[], rfl, ⟨RdN.nil 9 w', by simp⟩, fun b hb => by
  rcases gr_fp.1 hb with h | ⟨d, hd, _⟩
  · cases h
  · cases hd⟩⟩
end Go.Proofs.YtnpkhgljhcnpcaaGreatDoor
set_option maxRecDepth 100000
set_option maxHeartbeats 1000000
namespace Go.Proofs.YtnpkhgljhcnpcaaGreatDoor
open Go Go.W

theorem n_around (n m : Int) (w : World) (hm : 1 ≤ m) (h : I64 n) : Calls Tryz.prog n_enthymemeref01_Around #[.i n, .i m] w fun r w' => r = .returned (.i (aroundI n m)) ∧ Fr0 w w' := (around_any n m w hm h).mono fun r w' h => ⟨h.1, h.2 ▸ Fr.refl _ _⟩
/-! #### The graph that generated ones begin with -/
end Go.Proofs.YtnpkhgljhcnpcaaGreatDoor
set_option maxRecDepth 100000
set_option maxHeartbeats 1000000
namespace Go.Proofs.YtnpkhgljhcnpcaaGreatDoor
open Go Go.W

end Go.Proofs.YtnpkhgljhcnpcaaGreatDoor

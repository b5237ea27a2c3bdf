/- Package value in plain words. No program in sight. -/
import Derived.Test.YtjjhfdjpmonlaaaY
import Derived.Test.YtjjhfdjpmonlaaaBF
namespace Go.Proofs.Ytjjhfdjpmonlaaa
open Go Go.W

/-- nothing -/
def En.nil : En := ⟨[], fun _ => True, fun _ _ _ h => h, fun _ _ b hb => by simp at hb, by simp⟩
structure Srt where
  k : Int
  n : Int
  x : Int
structure Ent where
  i : Nat
  u : Nat
  s : List UInt8
structure Val where
  t : Srt
  u : Nat
  s : List UInt8
  m : List Ent
def cmpI (a b : Int) : Int := if a < b then -1 else if b < a then 1 else 0
def cmpS : List UInt8 → List UInt8 → Int
  | [], [] => 0
  | [], _ :: _ => -1
  | _ :: _, [] => 1
  | a :: l, b :: m => if cmpI a.toNat b.toNat ≠ 0 then cmpI a.toNat b.toNat else cmpS l m
def orI : List Int → Int
  | [] => 0
  | c :: l => if c ≠ 0 then c else orI l
def cmpE (a b : Ent) : Int := orI [cmpI a.i b.i, cmpI a.u b.u, cmpS a.s b.s]
def cmpM : List Ent → List Ent → Int
  | [], [] => 0
  | [], _ :: _ => -1
  | _ :: _, [] => 1
  | a :: l, b :: m => if cmpE a b ≠ 0 then cmpE a b else cmpM l m
def headC (a b : Val) : Int := orI [cmpI a.t.k b.t.k, cmpI a.t.n b.t.n, cmpI a.t.x b.t.x, cmpI a.u b.u, cmpS a.s b.s]
def cmpV (a b : Val) : Int := if headC a b ≠ 0 then headC a b else cmpM a.m b.m
def validS (s : Srt) : Bool := (s.k == 0 && decide (1 ≤ s.n) && decide (s.n ≤ 64) && s.x == 0) || (s.k == 1 && decide (0 ≤ s.n) && decide (s.n ≤ 64) && s.x == 0) || (s.k == 2 && decide (1 ≤ s.n) && decide (s.n ≤ 64) && decide (1 ≤ s.x) && decide (s.x ≤ 16)) || (s.k == 3 && decide (0 ≤ s.n) && decide (s.n ≤ 64) && decide (1 ≤ s.x) && decide (s.x ≤ 16))
def sortE (s : Srt) : Int := if validS s then 0 else 9
/-- less than 2^n -/
def bel (u : Nat) (n : Int) : Bool := n == 64 || decide (u < 2 ^ n.toNat)
def okE (s : Srt) (e : Ent) : Bool := bel e.i s.x && !(e.u == 0 && e.s.isEmpty) && (s.k != 2 || (bel e.u s.n && e.s.isEmpty)) && (s.k != 3 || (e.u == 0 && decide ((e.s.length : Int) ≤ s.n)))
/-- the entries from a place on, and the index before -/
def okM (s : Srt) : Option Nat → List Ent → Bool
  | _, [] => true
  | p, e :: l => (match p with | none => true | some i => decide (i < e.i)) && okE s e && okM s (some e.i) l
def arrS (s : Srt) : Bool := s.k == 2 || s.k == 3
def validB (v : Val) : Bool :=
  if v.t.k = 0 then bel v.u v.t.n && v.s.isEmpty && v.m.isEmpty
  else if v.t.k = 1 then decide ((v.s.length : Int) ≤ v.t.n) && v.u == 0 && v.m.isEmpty
  else v.u == 0 && v.s.isEmpty && okM v.t none v.m
def validV (v : Val) : Int := if validS v.t then (if validB v then 0 else 1) else 9
def entC (e : Ent) : List Value := [.int .u64 (e.i : Int), .int .u64 (e.u : Int), .string (ba e.s)]
def entsC (m : List Ent) : List Value := m.flatMap entC
theorem entsC_len (m : List Ent) : (entsC m).length = m.length * 3 := flat_length entC 3 (fun _ => rfl) m
theorem ents_n {w : World} {sl : Sl} {m : List Ent} (h : RdN 3 w sl (entsC m)) : sl.n = m.length := by
  have := h.1
  rw [entsC_len] at this
  omega
theorem ent_at {w : World} {sl : Sl} {m : List Ent} (h : RdN 3 w sl (entsC m)) {i : Nat} {e : Ent} (hi : m[i]? = some e) {K : Addr → Prop}
    (hk : ∀ p, sl.a = some p → w.cell? ((p.add (i * 3)).add 0) = some (.int .u64 (e.i : Int)) → w.cell? ((p.add (i * 3)).add 1) = some (.int .u64 (e.u : Int)) → w.cell? ((p.add (i * 3)).add 2) = some (.string (ba e.s)) → K p) : optP sl.a K :=
  CRow.elem (f := entC) (sz := 3) (fun _ => rfl) (by omega) h.2.2 hi fun p hp hc => hk p hp (hc 0 _ rfl) (hc 1 _ rfl) (hc 2 _ rfl)
/-- a value as an argument -/
abbrev srtV (s : Srt) : Value := .agg #[.int .i64 s.k, .int .i64 s.n, .int .i64 s.x]
abbrev vagg (v : Val) (sl : Sl) : Value := .agg #[.int .i64 v.t.k, .int .i64 v.t.n, .int .i64 v.t.x, .int .u64 (v.u : Int), .string (ba v.s), sl.v]
abbrev EntsD (sl : Sl) (m : List Ent) : En := .rdn 3 sl (entsC m)
theorem bl_get {s : ByteArray} {l : List UInt8} (h : bl s = l) (i : Nat) : s[i]? = l[i]? := by
  subst h
  by_cases hi : i < s.size
  · rw [getElem?_pos s i hi, List.getElem?_eq_getElem (by rw [bl_len]; exact hi)]; rfl
  · rw [getElem?_neg s i hi, List.getElem?_eq_none (by rw [bl_len]; omega)]
theorem bl_extract (s : ByteArray) (i j : Nat) : bl (s.extract i j) = ((bl s).take j).drop i := by
  unfold bl
  rw [ByteArray.data_extract, Array.toList_extract, List.extract_eq_drop_take']
theorem tl_ba (s : List UInt8) : (ba s).toList = s := by rw [ByteArray.toList_eq]; rfl
theorem tl_nil : (ByteArray.mk #[]).toList = [] := by rw [ByteArray.toList_eq]
end Go.Proofs.Ytjjhfdjpmonlaaa

/- Package enthymemeref04: Nodes, good, Valid: the contracts. Printed by a program of ours (vcgen.py) from the dump: the conditions of the functions, and that they suffice. The reference's normal form: Everything, put, normal, simple, few, Normal: the contracts. The normal form, plain: it is in normal form and its own one, it has at most twice as many nodes, and matches the same strings; sorting and leaving out is the same as putting in one after the other. Printed by a program of ours (vcgen.py) from the dump: the conditions of the functions, and that they suffice. Normal of the package and of the reference; package enthymemelaw04: plain, same: the contracts. The reference's texts of expressions, plain: tokens, reading, writing. No program in sight. Package term in plain words: sorts, nodes, graphs. No program in sight. Nodes and graphs of package term, as they lie in memory. Printed by a program of ours (vcgen.py) from the dump: the conditions of the functions, and that they suffice. Printed by a program of ours (vcgen.py) from the dump: the conditions of the functions, and that they suffice. Printed by a program of ours (vcgen.py) from the dump: the conditions of the functions, and that they suffice. Printed by a program of ours (vcgen.py) from the dump: the conditions of the functions, and that they suffice. Package enthymemeref07: the small functions of sorts: the contracts. Calls that change one block of one's own and may return new things. No program in sight. Package enthymemeref04: digit, plain, number, byteAt, rangeAt, Tokens: the contracts. Package enthymemeref04: the reader's see, take, need, begins; group: the contracts. Package enthymemeref04: the reader's expr, conj, seq, item, atom, kids: the contracts. Printed by a program of ours (mkT3.py). Package enthymemeref04: the reader's item, atom, kids, all of them; Parse: the contracts. Package enthymemeref04: the reader's atom; all of them; Parse: the contracts. Package enthymemeref04: Parse: the contract. Package enthymemeref04: Byte, binds, low, Write: the contracts. Package enthymemeref07: has, fields, leaf: the contracts. Package enthymemeref07: leaf: the contract. Graphs in order, plain: sorts are valid, names and kids. No program in sight. Package term: the small functions of sorts: the contracts. -/
import Derived.Test.YtibaobaobnpdaaaGreatDoorVC
import Derived.Test.YtibaobaobnpdaaaGreatDoorU
set_option linter.unusedVariables false
namespace Go.Proofs.YtibaobaobnpdaaaGreatDoor
open Go Go.W

end Go.Proofs.YtibaobaobnpdaaaGreatDoor
set_option linter.unusedVariables false
set_option maxRecDepth 100000
set_option maxHeartbeats 2000000
namespace Go.Proofs.YtibaobaobnpdaaaGreatDoor
open Go Go.W
end Go.Proofs.YtibaobaobnpdaaaGreatDoor
namespace Go.Proofs.YtibaobaobnpdaaaGreatDoor
open Go Go.W

/-! #### put -/
/-! #### normal -/
end Go.Proofs.YtibaobaobnpdaaaGreatDoor
namespace Go.Proofs.YtibaobaobnpdaaaGreatDoor
open Go Go.W

/-! #### In normal form -/
/-! #### More about measures -/
end Go.Proofs.YtibaobaobnpdaaaGreatDoor
set_option linter.unusedVariables false
set_option maxRecDepth 100000
set_option maxHeartbeats 2000000
namespace Go.Proofs.YtibaobaobnpdaaaGreatDoor
open Go Go.W
end Go.Proofs.YtibaobaobnpdaaaGreatDoor
namespace Go.Proofs.YtibaobaobnpdaaaGreatDoor
open Go Go.W

/-! #### simple -/
/-! #### Normal -/
def nmR (x : Rx) : Rx := if validR x = 0 then limR (normX x) else noR
def nmE (x : Rx) : Int := if validR x = 0 then limE (normX x) else validR x
end Go.Proofs.YtibaobaobnpdaaaGreatDoor
namespace Go.Proofs.YtibaobaobnpdaaaGreatDoor
open Go Go.W

abbrev BL := List UInt8
def gQ (s : BL) (i : Nat) : UInt8 := s.getD i 0
def plQ (c : UInt8) : Bool := decide (32 ≤ c.toNat) && decide (c.toNat ≤ 126) && !(c == 39) && !(c == 92)
def loQ (c : UInt8) : Bool := decide (97 ≤ c.toNat) && decide (c.toNat ≤ 122)
/-- the digit of a number below 16, and back -/
def digQ (n : Nat) : UInt8 := UInt8.ofNat (if n < 10 then 48 + n else 87 + n)
def numQ (c : UInt8) : Int := if 48 ≤ c.toNat ∧ c.toNat ≤ 57 then (c.toNat : Int) - 48 else if 97 ≤ c.toNat ∧ c.toNat ≤ 102 then (c.toNat : Int) - 87 else -1
/-! #### Tokens -/
def byteAtQ (s : BL) (at_ : Nat) : UInt8 × Nat :=
  if (decide (at_ + 3 ≤ s.length) && gQ s at_ == 39 && gQ s (at_ + 2) == 39 && plQ (gQ s (at_ + 1))) = true then (gQ s (at_ + 1), 3)
  else if (decide (at_ + 4 ≤ s.length) && gQ s at_ == 92 && gQ s (at_ + 1) == 120 && decide (0 ≤ numQ (gQ s (at_ + 2))) && decide (0 ≤ numQ (gQ s (at_ + 3)))) = true then (UInt8.ofNat ((16 * numQ (gQ s (at_ + 2)) + numQ (gQ s (at_ + 3))).toNat), 4)
  else (0, 0)
/-- a token: its text, its place, the kind and the bounds of its range -/
structure TokQ where
  tx : BL
  at_ : Nat
  k : Nat
  lo : UInt8
  hi : UInt8
structure RgQ where
  k : Nat
  lo : UInt8
  hi : UInt8
  n : Nat
def noRg : RgQ := ⟨0, 0, 0, 0⟩
def rangeAtQ (s : BL) (i : Nat) : RgQ :=
  let a := byteAtQ s i
  if 0 < a.2 then ⟨2, a.1, a.1, a.2⟩ else if gQ s i ≠ 91 then noRg else
  let b := byteAtQ s (i + 1)
  let dash := i + 1 + b.2
  if b.2 = 0 ∨ s.length ≤ dash ∨ gQ s dash ≠ 45 then noRg else
  let c := byteAtQ s (dash + 1)
  let fin := dash + 1 + c.2
  if c.2 = 0 ∨ s.length ≤ fin ∨ gQ s fin ≠ 93 ∨ c.1.toNat < b.1.toNat then noRg else ⟨2, b.1, c.1, fin + 1 - i⟩
/-- how far small letters go, from n on -/
def runQ (s : BL) (i : Nat) : Nat → Nat → Nat
  | 0, n => n
  | f + 1, n => if (loQ (gQ s i) && decide (i + n < s.length) && loQ (gQ s (i + n))) = true then runQ s i f (n + 1) else n
def tokQ (s : BL) : Nat → Nat → List TokQ
  | 0, _ => [⟨[], s.length, 0, 0, 0⟩]
  | f + 1, i => if s.length ≤ i then [⟨[], s.length, 0, 0, 0⟩] else if gQ s i = 32 then tokQ s f (i + 1) else
    let r := rangeAtQ s i
    let n := if r.n = 0 then runQ s i s.length 1 else r.n
    ⟨(s.take (i + n)).drop i, i, r.k, r.lo, r.hi⟩ :: tokQ s f (i + n)
def toksQ (s : BL) : List TokQ := tokQ s (s.length + 1) 0
/-! #### Reading -/
abbrev StQ := Nat × Bool
section
variable (l : List TokQ)
def tokAt (i : Nat) : TokQ := l.getD i ⟨[], 0, 0, 0, 0⟩
def seeQ (st : StQ) : BL := bif st.2 then [32] else (tokAt l st.1).tx
def takeQ (s : BL) (st : StQ) : Bool × StQ := bif seeQ l st == s then (true, bif s.isEmpty then st else (st.1 + 1, st.2)) else (false, st)
def needQ (s : BL) (st : StQ) : StQ := match takeQ l s st with
  | (true, st) => st
  | (false, st) => (st.1, true)
def beginsQ (st : StQ) : Bool := !st.2 && !(seeQ l st == []) && !(seeQ l st == [41]) && !(seeQ l st == [44]) && !(seeQ l st == [124]) && !(seeQ l st == [38])
def groupQ (k : Int) : List Rx → Rx
  | [a] => a
  | m => .mk k 0 0 m
def wordQ : Nat → BL
  | 0 => [110, 111, 110, 101]
  | 1 => [101, 109, 112, 116, 121]
  | 3 => [99, 97, 116]
  | 4 => [97, 108, 116]
  | 5 => [97, 108, 108]
  | _ => []
/-- the word at the token -/
def whichQ (st : StQ) : Nat → Nat → Option Nat
  | 0, _ => none
  | f + 1, k => bif Nat.beq k 2 || !(seeQ l st == wordQ k) then whichQ st f (k + 1) else some k
mutual
def exprQ : Nat → StQ → Option (Rx × StQ)
  | 0, _ => none
  | f + 1, st => match conjQ f st with
    | some (a, st) => altsQ f [a] st
    | none => none
def altsQ : Nat → List Rx → StQ → Option (Rx × StQ)
  | 0, _, _ => none
  | f + 1, acc, st => match takeQ l [124] st with
    | (true, st) => match conjQ f st with
      | some (a, st) => altsQ f (acc ++ [a]) st
      | none => none
    | (false, st) => some (groupQ 4 acc, st)
def conjQ : Nat → StQ → Option (Rx × StQ)
  | 0, _ => none
  | f + 1, st => match seqQ f st with
    | some (a, st) => andsQ f [a] st
    | none => none
def andsQ : Nat → List Rx → StQ → Option (Rx × StQ)
  | 0, _, _ => none
  | f + 1, acc, st => match takeQ l [38] st with
    | (true, st) => match seqQ f st with
      | some (a, st) => andsQ f (acc ++ [a]) st
      | none => none
    | (false, st) => some (groupQ 5 acc, st)
def seqQ : Nat → StQ → Option (Rx × StQ)
  | 0, _ => none
  | f + 1, st => match itemQ f st with
    | some (a, st) => itemsQ f [a] st
    | none => none
def itemsQ : Nat → List Rx → StQ → Option (Rx × StQ)
  | 0, _, _ => none
  | f + 1, acc, st => bif beginsQ l st then match itemQ f st with
      | some (a, st) => itemsQ f (acc ++ [a]) st
      | none => none
    else some (groupQ 3 acc, st)
def itemQ : Nat → StQ → Option (Rx × StQ)
  | 0, _ => none
  | f + 1, st => match takeQ l [33] st with
    | (true, st) => match itemQ f st with
      | some (a, st) => some (.mk 6 0 0 [a], st)
      | none => none
    | (false, st) => match atomQ f st with
      | some (a, st) => starsQ f a st
      | none => none
def starsQ : Nat → Rx → StQ → Option (Rx × StQ)
  | 0, _, _ => none
  | f + 1, a, st => match takeQ l [42] st with
    | (true, st) => starsQ f (.mk 7 0 0 [a]) st
    | (false, st) => some (a, st)
def atomQ : Nat → StQ → Option (Rx × StQ)
  | 0, _ => none
  | f + 1, st => bif !st.2 && Nat.beq (tokAt l st.1).k 2 then some (.mk 2 (tokAt l st.1).lo (tokAt l st.1).hi [], (st.1 + 1, st.2)) else match whichQ l st 6 0 with
    | some k => bif Nat.ble k 2 then some (.mk k 0 0 [], (st.1 + 1, st.2)) else match kidsQ f (st.1 + 1, st.2) with
      | some (m, st) => some (.mk k 0 0 m, st)
      | none => none
    | none => let st := needQ l [40] st
      bif st.2 then some (noR, st) else match exprQ f st with
      | some (a, st) => some (a, needQ l [41] st)
      | none => none
def kidsQ : Nat → StQ → Option (List Rx × StQ)
  | 0, _ => none
  | f + 1, st => match takeQ l [41] (needQ l [40] st) with
    | (nn, st) => bif st.2 || nn then some ([], st) else match exprQ f st with
      | some (a, st) => moreQ f [a] st
      | none => none
def moreQ : Nat → List Rx → StQ → Option (List Rx × StQ)
  | 0, _, _ => none
  | f + 1, acc, st => match takeQ l [44] st with
    | (true, st) => match exprQ f st with
      | some (a, st) => moreQ f (acc ++ [a]) st
      | none => none
    | (false, st) => some (acc, needQ l [41] st)
end
end
/-- what is read of a text: the expression, the place of an error, the error -/
def parseQ (s : BL) : Option (Rx × Nat × Int) :=
  if 4096 < s.length then some (noR, 4096, 4) else
  let l := toksQ s
  match exprQ l 1000 (0, false) with
  | some (r, st) => let st := needQ l [] st
    if st.2 = true then some (noR, (tokAt l st.1).at_, 2) else if 1000000 < r.sz then none else if 64 < r.sz then some (noR, s.length, 4) else some (r, 0, 0)
  | none => none
/-! #### Writing -/
def byteTx (c : UInt8) : BL := if plQ c = true then [39, c, 39] else [92, 120, digQ (c.toNat / 16), digQ (c.toNat % 16)]
def bindsQ : Rx → Nat
  | .mk k _ _ l => if k = 6 then 3 else if k < 3 ∨ k = 7 ∨ l.length < 2 then 4 else if k = 3 then 2 else if k = 4 then 0 else 1
def parenQ (lv : Nat) (a : Rx) (t : BL) : BL := if bindsQ a < lv then 40 :: (t ++ [41]) else t
def nameQ (k : Int) : BL := if k = 3 then [99, 97, 116, 40] else if k = 4 then [97, 108, 116, 40] else [97, 108, 108, 40]
def signQ (k : Int) : BL := if k = 3 then [] else if k = 4 then [124] else [38]
def lastQ (t : BL) : UInt8 := t.getLastD 0
def joinTx (k : Int) : BL → List BL → BL
  | out, [] => out
  | out, t :: ts => joinTx k ((if k = 3 ∧ loQ (lastQ out) = true ∧ loQ (gQ t 0) = true then out ++ [32] else out) ++ signQ k ++ t) ts
def hdTx : List BL → BL
  | [] => []
  | t :: _ => t
def jnTx (k : Int) : List BL → BL
  | [] => []
  | t :: ts => joinTx k t ts
mutual
/-- the text of an expression, without parentheses around it -/
def wrQ : Rx → BL
  | .mk k lo hi l => if k = 0 then [110, 111, 110, 101] else if k = 1 then [101, 109, 112, 116, 121] else
    if k = 2 then (if lo = hi then byteTx lo else 91 :: (byteTx lo ++ 45 :: (byteTx hi ++ [93]))) else
    if k = 6 then 33 :: hdTx (wrsQ 3 l) else if k = 7 then hdTx (wrsQ 4 l) ++ [42] else
    if l.length < 2 then nameQ k ++ (hdTx (wrsQ 0 l) ++ [41]) else
    jnTx k (wrsQ (bindsQ (.mk k lo hi l) + 1) l)
def wrsQ (lv : Nat) : List Rx → List BL
  | [] => []
  | a :: l => parenQ lv a (wrQ a) :: wrsQ lv l
end
mutual
/-- an expression that can be written -/
def okW : Rx → Bool
  | .mk k _ _ l => decide (0 ≤ k) && decide (k ≤ 7) && (decide (k < 6) || decide (l.length = 1)) && okWs l
def okWs : List Rx → Bool
  | [] => true
  | a :: l => okW a && okWs l
end
/-- is a text that of an expression in normal form? -/
def canQ (s : BL) : Option Bool := match parseQ s with
  | some (r, _, e) => if e = 0 then (if nmE r = 0 then (if okW (nmR r) = true ∧ (nmR r).sz ≤ 1000 then some (parenQ 0 (nmR r) (wrQ (nmR r)) == s) else none) else some false) else some false
  | none => none
end Go.Proofs.YtibaobaobnpdaaaGreatDoor
namespace Go.Proofs.YtibaobaobnpdaaaGreatDoor
open Go Go.W

structure Srt where
  k : Int
  n : Int
  x : Int
deriving DecidableEq
structure Nx where
  op : Int
  kids : List Int
  n : Int
  m : Int
  u : Int
  tx : ByteArray
  st : Srt
deriving DecidableEq
def noS : Srt := ⟨0, 0, 0⟩
def bvS (n : Int) : Srt := ⟨0, n, 0⟩
def strS (n : Int) : Srt := ⟨1, n, 0⟩
def validS (s : Srt) : Bool := (s.k == 0 && decide (1 ≤ s.n) && decide (s.n ≤ 64) && s.x == 0) || (s.k == 1 && decide (0 ≤ s.n) && decide (s.n ≤ 64) && s.x == 0) || (s.k == 2 && decide (1 ≤ s.n) && decide (s.n ≤ 64) && decide (1 ≤ s.x) && decide (s.x ≤ 16)) || (s.k == 3 && decide (0 ≤ s.n) && decide (s.n ≤ 64) && decide (1 ≤ s.x) && decide (s.x ≤ 16))
def sortE (s : Srt) : Int := if validS s then 0 else 9
def arrS (s : Srt) : Bool := s.k == 2 || s.k == 3
/-- the number of kids of an operation, or -1 -/
def kidsN (op : Int) : Int := if op < 0 ∨ 34 < op then -1 else if op ≤ 3 then 0 else if op = 4 ∨ op = 5 ∨ op = 21 ∨ op = 22 ∨ op = 23 ∨ op = 27 ∨ op = 28 ∨ op = 33 ∨ op = 34 then 1 else if op = 19 ∨ op = 25 ∨ op = 30 ∨ op = 32 then 3 else 2
def hasN (op : Int) : Bool := op == 21 || op == 22 || op == 23 || op == 28
def hasT (op : Int) : Bool := op == 0 || op == 2 || op == 33
/-- fields that an operation does not have are 0 or empty -/
def okF (n : Nx) : Bool := (hasN n.op || n.n == 0) && (n.op == 21 || n.m == 0) && (n.op == 1 || n.u == 0) && (hasT n.op || decide (n.tx = ba []))
def kidIn (g : List Nx) (k : Int) : Bool := decide (0 ≤ k) && decide (k < (g.length : Int))
def letQ (c : UInt8) : Bool := decide (97 ≤ c.toNat) && decide (c.toNat ≤ 122)
def namQ (c : UInt8) : Bool := letQ c || (decide (48 ≤ c.toNat) && decide (c.toNat ≤ 57)) || c == 45
def nameB (l : List UInt8) : Bool := match l with
  | [] => false
  | c :: m => decide (m.length ≤ 15) && letQ c && m.all namQ
/-- the sort of the first variable with a name -/
def varS : List Nx → ByteArray → Option Srt
  | [], _ => none
  | d :: g, t => if d.op = 0 ∧ d.tx = t then some d.st else varS g t
def twice (g : List Nx) (n : Nx) : Bool := match varS g n.tx with
  | some s => !decide (s = n.st)
  | none => false
def big (u : Int) (n : Int) : Bool := decide (n < 64) && decide (2 ^ n.toNat ≤ u)
def leafX (g : List Nx) (n : Nx) : Srt × Int :=
  if n.op = 2 then (if 64 < n.tx.size then (noS, 5) else (strS n.tx.size, 0)) else
  if n.op = 0 ∧ nameB (bl n.tx) = false then (noS, 6) else
  if validS n.st = false then (noS, 9) else
  if n.op = 1 ∧ n.st.k ≠ 0 ∨ n.op = 3 ∧ arrS n.st = false then (noS, 9) else
  if n.op = 1 ∧ big n.u n.st.n = true then (noS, 5) else
  if n.op = 0 ∧ twice g n = true then (noS, 8) else (n.st, 0)
def elemS (s : Srt) : Srt := if s.k = 2 then bvS s.n else strS s.n
def fitX (op : Int) (x y z : Srt) : Bool :=
  if op = 4 ∨ op = 5 ∨ op = 21 ∨ op = 22 ∨ op = 23 then x.k == 0 else
  if op = 18 then decide (x = y) || (x.k == 1 && y.k == 1) else
  if op = 19 then decide (x = bvS 1) && (decide (y = z) || (y.k == 1 && z.k == 1)) else
  if op = 20 then x.k == 0 && y.k == 0 else
  if op = 24 then arrS x && decide (y = bvS x.x) else
  if op = 25 then arrS x && decide (y = bvS x.x) && (decide (z = elemS x) || (x.k == 3 && z.k == 1 && decide (z.n ≤ x.n))) else
  if op = 26 then arrS x && decide (x = y) else
  if op = 27 ∨ op = 28 ∨ op = 33 then x.k == 1 else
  if op = 29 ∨ op = 31 then x.k == 1 && y.k == 1 else
  if op = 30 then x.k == 1 && decide (y = bvS 7) && decide (z = bvS 7) else
  if op = 32 then x.k == 1 && y.k == 1 && z.k == 1 else
  if op = 34 then decide (x = bvS 8) else x.k == 0 && decide (x = y)
def resX (n : Nx) (x y z : Srt) : Srt :=
  if n.op = 16 ∨ n.op = 17 ∨ n.op = 18 ∨ n.op = 33 then bvS 1 else
  if n.op = 19 then (if y.k = 1 then strS (if y.n < z.n then z.n else y.n) else y) else
  if n.op = 20 then bvS (x.n + y.n) else
  if n.op = 21 then bvS (n.n - n.m + 1) else
  if n.op = 22 ∨ n.op = 23 then bvS (x.n + n.n) else
  if n.op = 24 then elemS x else
  if n.op = 26 then bvS x.x else
  if n.op = 27 ∨ n.op = 31 then bvS 7 else
  if n.op = 28 then bvS 8 else
  if n.op = 29 then strS (x.n + y.n) else
  if n.op = 32 then strS (x.n + z.n) else
  if n.op = 34 then strS 1 else x
def rngX (n : Nx) (x y z : Srt) : Bool :=
  if n.op = 20 ∨ n.op = 29 then decide (x.n + y.n ≤ 64) else
  if n.op = 21 then decide (0 ≤ n.m) && decide (n.m ≤ n.n) && decide (n.n < x.n) else
  if n.op = 22 ∨ n.op = 23 then decide (1 ≤ n.n) && decide (n.n ≤ 64 - x.n) else
  if n.op = 28 then decide (0 ≤ n.n) && decide (n.n ≤ 63) else
  if n.op = 32 then decide (x.n + z.n ≤ 64) else true
/-- the sort of a kid -/
def kst (g : List Nx) (n : Nx) (i : Nat) : Srt := match n.kids[i]? with
  | some k => match g[k.toNat]? with
    | some d => d.st
    | none => noS
  | none => noS
def canX (t : ByteArray) : Bool := canQ (bl t) == some true
/-- the sort of a node over a graph, or an error -/
def srtX (g : List Nx) (n : Nx) : Srt × Int :=
  if (kidsN n.op == (n.kids.length : Int) && n.kids.all (kidIn g) && okF n) = false then (noS, 1) else
  if n.op ≤ 3 then leafX g n else
  if fitX n.op (kst g n 0) (kst g n 1) (kst g n 2) = false then (noS, 9) else
  if rngX n (kst g n 0) (kst g n 1) (kst g n 2) = false then (noS, 5) else
  if n.op = 33 ∧ canX n.tx = false then (noS, 2) else (resX n (kst g n 0) (kst g n 1) (kst g n 2), 0)
/-- a node with its sort -/
def withS (n : Nx) (s : Srt) : Nx := { n with st := s }
def idxX (n : Nx) : List Nx → Nat → Option Nat
  | [], _ => none
  | d :: g, i => if d = n then some i else idxX n g (i + 1)
/-- a graph in order: each node has its sort over those before, and is none of them -/
inductive Vg : List Nx → Prop
  | nil : Vg []
  | snoc {g : List Nx} {n : Nx} : Vg g → srtX g n = (n.st, 0) → n ∉ g → Vg (g ++ [n])
end Go.Proofs.YtibaobaobnpdaaaGreatDoor
namespace Go.Proofs.YtibaobaobnpdaaaGreatDoor
open Go Go.W

/-- a node, with the slice of its kids -/
structure Nd where
  x : Nx
  ks : Sl
abbrev srtV (s : Srt) : Value := .agg #[.i s.k, .i s.n, .i s.x]
namespace Nd
def c (d : Nd) : List Value := [.i d.x.op, d.ks.v, .i d.x.n, .i d.x.m, .u d.x.u, .string d.x.tx, .i d.x.st.k, .i d.x.st.n, .i d.x.st.x]
abbrev v (d : Nd) : Value := .agg #[.i d.x.op, d.ks.v, .i d.x.n, .i d.x.m, .u d.x.u, .string d.x.tx, .i d.x.st.k, .i d.x.st.n, .i d.x.st.x]
theorem c_len (d : Nd) : (c d).length = 9 := rfl
theorem cs_len (l : List Nd) : (l.flatMap c).length = l.length * 9 := flat_length c 9 c_len l
abbrev P (w : World) (d : Nd) : Prop := Nums w d.ks d.x.kids
structure Cells (w : World) (p : Addr) (i : Nat) (d : Nd) : Prop where
  c0 : w.cell? ((p.add (i * 9)).add 0) = some (.i d.x.op)
  c1 : w.cell? ((p.add (i * 9)).add 1) = some d.ks.v
  c2 : w.cell? ((p.add (i * 9)).add 2) = some (.i d.x.n)
  c3 : w.cell? ((p.add (i * 9)).add 3) = some (.i d.x.m)
  c4 : w.cell? ((p.add (i * 9)).add 4) = some (.u d.x.u)
  c5 : w.cell? ((p.add (i * 9)).add 5) = some (.string d.x.tx)
  c6 : w.cell? ((p.add (i * 9)).add 6) = some (.i d.x.st.k)
  c7 : w.cell? ((p.add (i * 9)).add 7) = some (.i d.x.st.n)
  c8 : w.cell? ((p.add (i * 9)).add 8) = some (.i d.x.st.x)
theorem rows_n {w : World} {s : Sl} {l : List Nd} (h : RdN 9 w s (l.flatMap c)) : s.n = l.length := by
  have := h.1
  rw [cs_len] at this
  omega
theorem at' {w : World} {s : Sl} {l : List Nd} (h : RdN 9 w s (l.flatMap c)) {i : Nat} {d : Nd} (hi : l[i]? = some d) {K : Addr → Prop} (hk : ∀ p, s.a = some p → Cells w p i d → K p) : optP s.a K :=
  CRow.elem (f := c) (sz := 9) c_len (by omega) h.2.2 hi fun p hp hc => hk p hp ⟨hc 0 _ rfl, hc 1 _ rfl, hc 2 _ rfl, hc 3 _ rfl, hc 4 _ rfl, hc 5 _ rfl, hc 6 _ rfl, hc 7 _ rfl, hc 8 _ rfl⟩
end Nd
/-- the nodes of a graph, without the slices -/
abbrev xs (l : List Nd) : List Nx := l.map Nd.x
/-- a graph to read -/
def GP (w : World) (s : Sl) (l : List Nd) : Prop := RdN 9 w s (l.flatMap Nd.c) ∧ ∀ d ∈ l, d.P w
abbrev kidE (d : Nd) : En := .rd d.ks (d.x.kids.map intV)
def _root_.Go.W.En.gr (s : Sl) (l : List Nd) : En := .all (.rdn 9 s (l.flatMap Nd.c) :: l.map kidE)
theorem gr_P {w : World} {s : Sl} {l : List Nd} : (En.gr s l).P w ↔ GP w s l := by
  constructor
  · exact fun h => ⟨h (.rdn 9 s (l.flatMap Nd.c)) (by simp), fun d hd => h (kidE d) (List.mem_cons_of_mem _ (List.mem_map.2 ⟨d, hd, rfl⟩))⟩
  · intro h e he
    rcases List.mem_cons.1 he with rfl | he
    · exact h.1
    · obtain ⟨d, hd, rfl⟩ := List.mem_map.1 he
      exact h.2 d hd
theorem gr_fp {s : Sl} {l : List Nd} {b : Nat} : b ∈ (En.gr s l).fp ↔ b ∈ (En.rdn 9 s (l.flatMap Nd.c)).fp ∨ ∃ d ∈ l, b ∈ (kidE d).fp := by
  unfold En.gr En.all
  rw [mem_nub, List.mem_flatMap]
  constructor
  · rintro ⟨e, he, hb⟩
    rcases List.mem_cons.1 he with rfl | he
    · exact .inl hb
    · obtain ⟨d, hd, rfl⟩ := List.mem_map.1 he
      exact .inr ⟨d, hd, hb⟩
  · rintro (hb | ⟨d, hd, hb⟩)
    · exact ⟨_, List.mem_cons_self .., hb⟩
    · exact ⟨_, List.mem_cons_of_mem _ (List.mem_map.2 ⟨d, hd, rfl⟩), hb⟩
theorem gr_n {w : World} {s : Sl} {l : List Nd} (h : GP w s l) : s.n = l.length := Nd.rows_n h.1
/-- a load of a whole node, as it is printed -/
theorem gr_at {w : World} {s : Sl} {l : List Nd} (h : GP w s l) {i : Nat} {d : Nd} {X : Int} (hX : X = (i : Int)) (hi : l[i]? = some d) {K : Addr → Prop} (hk : ∀ p, s.a = some p → Nd.Cells w p (Int.toNat X) d → K p) : (0 : Int) ≤ X ∧ X < ((s.n : Nat) : Int) ∧ optP s.a K := by
  have hn := gr_n h
  have hl := (List.getElem?_eq_some_iff.1 hi).1
  subst hX
  exact ⟨by omega, by omega, Nd.at' h.1 hi hk⟩
theorem xs_get {l : List Nd} {i : Nat} {d : Nd} (h : l[i]? = some d) : (xs l)[i]? = some d.x := by simp [xs, h]
namespace Nd
theorem Cells.s0 {w : World} {p : Addr} {i : Nat} {d : Nd} (h : Cells w p i d) : w.cell? (((p.add (i * 9)).add 6).add 0) = some (.i d.x.st.k) := by rw [add_add]; exact h.c6
theorem Cells.s1 {w : World} {p : Addr} {i : Nat} {d : Nd} (h : Cells w p i d) : w.cell? (((p.add (i * 9)).add 6).add 1) = some (.i d.x.st.n) := by rw [add_add]; exact h.c7
theorem Cells.s2 {w : World} {p : Addr} {i : Nat} {d : Nd} (h : Cells w p i d) : w.cell? (((p.add (i * 9)).add 6).add 2) = some (.i d.x.st.x) := by rw [add_add]; exact h.c8
end Nd
/-! #### Rows of sorts -/
def srtC (s : Srt) : List Value := [.i s.k, .i s.n, .i s.x]
theorem srt_eq (a b : Srt) : ((a.k == b.k) && ((a.n == b.n) && ((a.x == b.x) && true))) = decide (a = b) := by
  cases a; cases b
  simp only [Srt.mk.injEq, Bool.and_true, Bool.decide_and]
  rfl
/-- strings as they are compared -/
theorem tx_eq (a b : ByteArray) : (a.toList == b.toList) = decide (a = b) := by
  rw [ByteArray.toList_eq, ByteArray.toList_eq]
  have h : (a.data.toList = b.data.toList) ↔ a = b := ⟨fun h => ByteArray.ext (Array.toList_inj.1 h), fun h => by rw [h]⟩
  rw [← decide_eq_decide.2 h]
  cases hd : decide (a.data.toList = b.data.toList) with
  | true => rw [of_decide_eq_true hd]; simp
  | false => exact beq_eq_false_iff_ne.2 (of_decide_eq_false hd)
section
variable {A B : Prop}
theorem sel_tx {a b : ByteArray} (h1 : a = b → A) (h2 : a ≠ b → B) : sel (a.toList == b.toList) A B := by
  rw [tx_eq]; exact sel_dec h1 h2
theorem sel_srt {a b : Srt} (h1 : a = b → A) (h2 : a ≠ b → B) : sel ((a.k == b.k) && ((a.n == b.n) && ((a.x == b.x) && true))) A B := by
  rw [srt_eq]; exact sel_dec h1 h2
theorem sel_srtN {a b : Srt} (h1 : a ≠ b → A) (h2 : a = b → B) : sel (!((a.k == b.k) && ((a.n == b.n) && ((a.x == b.x) && true)))) A B := by
  rw [srt_eq]; exact sel_not (fun h => h1 (of_decide_eq_false h)) (fun h => h2 (of_decide_eq_true h))
theorem sel_srtE {s : Srt} (h1 : validS s = false → A) (h2 : validS s = true → B) : sel (sortE s != 0) A B := by
  unfold sortE
  cases h : validS s with
  | true => exact sel_false rfl (h2 h)
  | false => exact sel_true rfl (h1 h)
end
end Go.Proofs.YtibaobaobnpdaaaGreatDoor
set_option linter.unusedVariables false
set_option maxRecDepth 100000
set_option maxHeartbeats 2000000
namespace Go.Proofs.YtibaobaobnpdaaaGreatDoor
open Go Go.W
end Go.Proofs.YtibaobaobnpdaaaGreatDoor
set_option linter.unusedVariables false
set_option maxRecDepth 100000
set_option maxHeartbeats 2000000
namespace Go.Proofs.YtibaobaobnpdaaaGreatDoor
open Go Go.W
end Go.Proofs.YtibaobaobnpdaaaGreatDoor
set_option linter.unusedVariables false
set_option maxRecDepth 100000
set_option maxHeartbeats 2000000
namespace Go.Proofs.YtibaobaobnpdaaaGreatDoor
open Go Go.W
end Go.Proofs.YtibaobaobnpdaaaGreatDoor
set_option linter.unusedVariables false
set_option maxRecDepth 100000
set_option maxHeartbeats 2000000
namespace Go.Proofs.YtibaobaobnpdaaaGreatDoor
open Go Go.W
end Go.Proofs.YtibaobaobnpdaaaGreatDoor
set_option maxRecDepth 100000
namespace Go.Proofs.YtibaobaobnpdaaaGreatDoor
open Go Go.W

/-- all operations, one by one -/
theorem op_all {op : Int} (h1 : 0 ≤ op) (h2 : op ≤ 34) : op = 0 ∨ op = 1 ∨ op = 2 ∨ op = 3 ∨ op = 4 ∨ op = 5 ∨ op = 6 ∨ op = 7 ∨ op = 8 ∨ op = 9 ∨ op = 10 ∨ op = 11 ∨ op = 12 ∨ op = 13 ∨ op = 14 ∨ op = 15 ∨ op = 16 ∨ op = 17 ∨ op = 18 ∨ op = 19 ∨ op = 20 ∨ op = 21 ∨ op = 22 ∨ op = 23 ∨ op = 24 ∨ op = 25 ∨ op = 26 ∨ op = 27 ∨ op = 28 ∨ op = 29 ∨ op = 30 ∨ op = 31 ∨ op = 32 ∨ op = 33 ∨ op = 34 := by omega
theorem nameB_cons (c : UInt8) (m : List UInt8) : nameB (c :: m) = (decide (m.length ≤ 15) && letQ c && m.all namQ) := rfl
end Go.Proofs.YtibaobaobnpdaaaGreatDoor
namespace Go.Proofs.YtibaobaobnpdaaaGreatDoor
open Go Go.W

section
variable {M : Nat → Prop} {w0 w : World} {L D : List En} {bs : List Nat}
theorem c_off (w : World) (pb : Nat) (vs : List Value) (ty : TypeId) (b : Nat) : ¬ (En.c pb vs ty).P ({ w with heap := Array.replicate (b + 1) (.map #[] 0) }) := by
  intro h
  have h : ({ w with heap := Array.replicate (b + 1) (.map #[] 0) } : World).heap[pb]? = some (.cells vs.toArray ty (0, 0)) := h
  simp [Array.getElem?_replicate] at h
theorem c_fp {pb : Nat} {vs : List Value} {ty : TypeId} {b : Nat} : b ∈ (En.c pb vs ty).fp ↔ b = pb := by simp [En.c, En.ob]
end
end Go.Proofs.YtibaobaobnpdaaaGreatDoor
namespace Go.Proofs.YtibaobaobnpdaaaGreatDoor
open Go Go.W

/-! #### byteAt -/
/-! #### rangeAt -/
/-! #### Tokens -/
def TokQ.c (t : TokQ) : List Value := [.string (ba t.tx), .i (t.at_ : Int), .i (t.k : Int), .int .u8 (t.lo.toNat : Int), .int .u8 (t.hi.toNat : Int), .slice none 0 0]
end Go.Proofs.YtibaobaobnpdaaaGreatDoor
namespace Go.Proofs.YtibaobaobnpdaaaGreatDoor
open Go Go.W

end Go.Proofs.YtibaobaobnpdaaaGreatDoor
namespace Go.Proofs.YtibaobaobnpdaaaGreatDoor
open Go Go.W

theorem _root_.Go.W.LH.cons1 {M : Nat → Prop} {w0 w : World} {L D : List En} (H : LH M w0 w L D) (j : Nat) {t : Rt} (hj : D[j]? = some (.tree t) := by rfl) : LH M w0 w L (D ++ [.trees [t]]) := by
  refine H.addD _ (Fr.refl _ _) (Rt.ps_of fun t' ht => ?_) fun b hb => .inr (.inr ?_)
  · simp at ht; subst ht; exact H.getD j hj
  · obtain ⟨t', ht, hb'⟩ := Rt.fps_iff.1 (mem_nub.1 hb)
    simp at ht
    rw [ht] at hb'
    exact ⟨_, List.mem_of_getElem? hj, mem_nub.2 hb'⟩
end Go.Proofs.YtibaobaobnpdaaaGreatDoor
namespace Go.Proofs.YtibaobaobnpdaaaGreatDoor
open Go Go.W

theorem _root_.Go.W.LH.stq {M : Nat → Prop} {w0 w : World} {L D : List En} {bs : List Nat} (H : LH M w0 w L D) (i j : Nat) {b : Nat} {vs : List Value} {T : TypeId} {v : Value} {K : World → Prop} (hi : L[i]? = some (.c b vs T)) (hK : ∀ w', LH M w0 w' (L.set i (.c b (vs.set j v) T)) D → K w') (hj : j < vs.length := by simp) (hbs : ∀ b ∈ bs, En.g b ∈ L := by simp) : stV w ((at0 b).add j) v fun w1 => kept bs w w1 ∧ K w1 := by
  obtain ⟨x1, x2, x3⟩ := H.set (v := v) i j hi hj
  obtain ⟨_, _, _, x4⟩ := set_c (H.ob i hi) j (by simpa using hj) v
  refine ⟨x1, x2, fun b' hb => ?_, hK _ x3⟩
  refine x4.keep b' (H.own _ (hbs b' hb)) fun hm => ghost_off H hi (c_off w b vs T) (hbs b' hb) ?_
  rw [hm]; exact c_fp.2 rfl
/-- one tree becomes the part of another one -/
theorem _root_.Go.W.LH.one {M : Nat → Prop} {w0 w : World} {L D : List En} (H : LH M w0 w L D) (i j : Nat) {e : TypeId} {sl : Sl} {u : Rt} (k : Int) (lo hi : UInt8) (hi' : L[i]? = some (.row e 4 sl u.c) := by rfl) (hj : D[j]? = some (.tree u) := by rfl) : LH M w0 w (L.eraseIdx i) (D ++ [.tree (.mk k lo hi sl [u])]) := by
  have H1 := H.cons1 j hj
  have e : [u].flatMap Rt.c = u.c := by simp
  have H2 := H1.rowT i D.length k lo hi (s := sl) (ts := [u]) (by rw [e]; exact hi') (by simp)
  exact H2.forget _ (fun d hd => by
    simp only [List.mem_append, List.mem_cons, List.not_mem_nil, or_false] at hd ⊢
    rcases hd with hd | hd
    · exact .inl (.inl (.inl hd))
    · exact .inr hd)
section
variable {s : Sl} {l : List TokQ} {n : Nat}
/-! #### kids -/
end
end Go.Proofs.YtibaobaobnpdaaaGreatDoor
namespace Go.Proofs.YtibaobaobnpdaaaGreatDoor
open Go Go.W

end Go.Proofs.YtibaobaobnpdaaaGreatDoor
namespace Go.Proofs.YtibaobaobnpdaaaGreatDoor
open Go Go.W

end Go.Proofs.YtibaobaobnpdaaaGreatDoor
namespace Go.Proofs.YtibaobaobnpdaaaGreatDoor
open Go Go.W

theorem ba_app (a b : BL) : ba a ++ ba b = ba (a ++ b) := by
  apply ByteArray.ext
  rw [ByteArray.data_append]
  simp [ba]
theorem blk_rd {w : World} {b n : Nat} {cs : List Value} {T : TypeId} (h : w.heap[b]? = some (.cells cs.toArray T (0, 0))) (hn : n = cs.length) : Rd w ⟨some (at0 b), n, n⟩ cs :=
  rd_in (s := ⟨some (at0 b), n, n⟩) hn (Nat.le_refl _) (fun h => by cases h) fun i v hi => ⟨at0 b, rfl, cellAt (p := at0 b) h rfl (by simpa using hi)⟩
end Go.Proofs.YtibaobaobnpdaaaGreatDoor
set_option maxRecDepth 100000
namespace Go.Proofs.YtibaobaobnpdaaaGreatDoor
open Go Go.W

theorem blk_nums {w : World} {b n : Nat} {l : List Int} {T : TypeId} (h : w.heap[b]? = some (.cells (l.map intV).toArray T (0, 0))) (hn : n = l.length) : Nums w ⟨some (at0 b), n, n⟩ l :=
  blk_rd h (by simpa using hn)
/-- numbers that a slice can hold -/
def MaxL : Nat := 1000000000
end Go.Proofs.YtibaobaobnpdaaaGreatDoor
set_option maxRecDepth 100000
namespace Go.Proofs.YtibaobaobnpdaaaGreatDoor
open Go Go.W

def VarsOk (g : List Nx) : Prop := ∀ d ∈ g, d.op = 0 → ∀ e ∈ g, e.op = 0 → d.tx = e.tx → d.st = e.st
theorem VarsOk.tail {d : Nx} {g : List Nx} (h : VarsOk (d :: g)) : VarsOk g := fun a ha h1 b hb h2 => h a (List.mem_cons_of_mem _ ha) h1 b (List.mem_cons_of_mem _ hb) h2
def twin (n d : Nx) : Bool := decide (d.op = 0 ∧ d.tx = n.tx ∧ d.st ≠ n.st)
theorem varS_mem {t : ByteArray} {s : Srt} : ∀ {g : List Nx}, varS g t = some s → ∃ d ∈ g, d.op = 0 ∧ d.tx = t ∧ d.st = s
  | d :: g, h => by
    unfold varS at h
    split at h
    · rename_i hc
      exact ⟨d, by simp, hc.1, hc.2, Option.some.inj h⟩
    · obtain ⟨e, he, h⟩ := varS_mem h
      exact ⟨e, List.mem_cons_of_mem _ he, h⟩
theorem varS_none {t : ByteArray} : ∀ {g : List Nx}, varS g t = none → ∀ d ∈ g, d.op = 0 → d.tx ≠ t
  | a :: g, h, d, hd, h0, ht => by
    unfold varS at h
    split at h
    · cases h
    · rename_i hc
      rcases List.mem_cons.1 hd with rfl | hd
      · exact hc ⟨h0, ht⟩
      · exact varS_none h d hd h0 ht
theorem twice_any {g : List Nx} (hv : VarsOk g) (n : Nx) : twice g n = g.any (twin n) := by
  unfold twice
  cases h : varS g n.tx with
  | none =>
    symm
    rw [List.any_eq_false]
    intro d hd ht
    have ht := of_decide_eq_true ht
    exact varS_none h d hd ht.1 ht.2.1
  | some s =>
    obtain ⟨d, hd, h0, h1, h2⟩ := varS_mem h
    by_cases hs : s = n.st
    · simp only [hs, decide_true, Bool.not_true]
      symm
      rw [List.any_eq_false]
      intro e he ht
      have ht := of_decide_eq_true ht
      exact ht.2.2 ((hv e he ht.1 d hd h0 (ht.2.1.trans h1.symm)).trans (h2.trans hs))
    · simp only [hs, decide_false, Bool.not_false]
      symm
      rw [List.any_eq_true]
      exact ⟨d, hd, decide_eq_true ⟨h0, h1, fun e => hs (h2.symm.trans e)⟩⟩
/-- what a function returns that gives a sort and an error -/
abbrev sortR (x : Srt × Int) : Ending := .returned (.tuple #[srtV x.1, .i x.2])
theorem valid_bv {s : Srt} (h : validS s = true) (hk : s.k = 0) : 1 ≤ s.n ∧ s.n ≤ 64 ∧ s.x = 0 := by
  unfold validS at h
  simp [hk] at h
  omega
theorem valid_n {s : Srt} (h : validS s = true) : 0 ≤ s.n ∧ s.n ≤ 64 ∧ 0 ≤ s.x ∧ s.x ≤ 16 ∧ 0 ≤ s.k ∧ s.k ≤ 3 := by
  unfold validS at h
  simp at h
  omega
end Go.Proofs.YtibaobaobnpdaaaGreatDoor
set_option maxRecDepth 100000
namespace Go.Proofs.YtibaobaobnpdaaaGreatDoor
open Go Go.W

theorem valid_of {s : Srt} (h : (s.k = 0 ∧ 1 ≤ s.n ∧ s.n ≤ 64 ∧ s.x = 0) ∨ (s.k = 1 ∧ 0 ≤ s.n ∧ s.n ≤ 64 ∧ s.x = 0) ∨ (s.k = 2 ∧ 1 ≤ s.n ∧ s.n ≤ 64 ∧ 1 ≤ s.x ∧ s.x ≤ 16) ∨ (s.k = 3 ∧ 0 ≤ s.n ∧ s.n ≤ 64 ∧ 1 ≤ s.x ∧ s.x ≤ 16)) : validS s = true := by
  unfold validS
  rcases h with ⟨h1, h2, h3, h4⟩ | ⟨h1, h2, h3, h4⟩ | ⟨h1, h2, h3, h4, h5⟩ | ⟨h1, h2, h3, h4, h5⟩ <;> simp [h1, h2, h3, h4] <;> simp [h5]
theorem valid_iff {s : Srt} : validS s = true ↔ (s.k = 0 ∧ 1 ≤ s.n ∧ s.n ≤ 64 ∧ s.x = 0) ∨ (s.k = 1 ∧ 0 ≤ s.n ∧ s.n ≤ 64 ∧ s.x = 0) ∨ (s.k = 2 ∧ 1 ≤ s.n ∧ s.n ≤ 64 ∧ 1 ≤ s.x ∧ s.x ≤ 16) ∨ (s.k = 3 ∧ 0 ≤ s.n ∧ s.n ≤ 64 ∧ 1 ≤ s.x ∧ s.x ≤ 16) := by
  refine ⟨fun h => ?_, valid_of⟩
  unfold validS at h
  simp only [Bool.or_eq_true, Bool.and_eq_true, beq_iff_eq, decide_eq_true_eq] at h
  omega
/-- what a sort that is computed tells of the node -/
structure SrtOk (g : List Nx) (n : Nx) : Prop where
  kl : kidsN n.op = (n.kids.length : Int)
  ki : ∀ k ∈ n.kids, 0 ≤ k ∧ k < (g.length : Int)
  ok : okF n = true
theorem srt_ok {g : List Nx} {n : Nx} (h : (srtX g n).2 = 0) : SrtOk g n := by
  unfold srtX at h
  split at h
  · cases h
  · rename_i hc
    simp only [Bool.and_eq_false_iff, not_or, Bool.not_eq_false, beq_iff_eq] at hc
    refine ⟨hc.1.1, fun k hk => ?_, hc.2⟩
    have := List.all_eq_true.1 hc.1.2 k hk
    unfold kidIn at this
    simpa using this
theorem kst_ok {g : List Nx} {n : Nx} (hv : ∀ d ∈ g, validS d.st = true) (hk : ∀ k ∈ n.kids, 0 ≤ k ∧ k < (g.length : Int)) {i : Nat} (hi : i < n.kids.length) : validS (kst g n i) = true := by
  have h1 := hk _ (List.getElem_mem hi)
  unfold kst
  rw [List.getElem?_eq_getElem hi]
  dsimp only
  have h2 : (n.kids[i]).toNat < g.length := by omega
  rw [List.getElem?_eq_getElem h2]
  exact hv _ (List.getElem_mem h2)
theorem elem_valid {x : Srt} (h : validS x = true) (ha : arrS x = true) : validS (elemS x) = true := by
  rw [valid_iff] at h
  unfold arrS at ha
  simp only [Bool.or_eq_true, beq_iff_eq] at ha
  unfold elemS
  refine valid_of ?_
  split
  · show (0 = 0 ∧ 1 ≤ x.n ∧ x.n ≤ 64 ∧ 0 = 0) ∨ _
    left; omega
  · right; left
    show (1 : Int) = 1 ∧ 0 ≤ x.n ∧ x.n ≤ 64 ∧ (0 : Int) = 0
    omega
theorem bv_valid {n : Int} (h1 : 1 ≤ n) (h2 : n ≤ 64) : validS (bvS n) = true := valid_of (.inl ⟨rfl, h1, h2, rfl⟩)
theorem str_valid {n : Int} (h1 : 0 ≤ n) (h2 : n ≤ 64) : validS (strS n) = true := valid_of (.inr (.inl ⟨rfl, h1, h2, rfl⟩))
theorem srt_valid {g : List Nx} {n : Nx} (hv : ∀ d ∈ g, validS d.st = true) (h : (srtX g n).2 = 0) : validS (srtX g n).1 = true := by
  have ho := srt_ok h
  have hk : ∀ i : Nat, (i : Int) < kidsN n.op → validS (kst g n i) = true := fun i hi => kst_ok hv ho.ki (by have := ho.kl; omega)
  unfold srtX at h ⊢
  split at h
  · cases h
  rename_i hc
  rw [if_neg hc]
  split at h
  · rename_i h3
    rw [if_pos h3]
    unfold leafX at h ⊢
    split at h
    · rename_i h2
      rw [if_pos h2]
      split at h
      · cases h
      · rename_i h64
        rw [if_neg h64]
        exact str_valid (by omega) (by omega)
    · rename_i h2
      rw [if_neg h2]
      split at h
      · cases h
      rename_i h0
      rw [if_neg h0]
      split at h
      · cases h
      rename_i h1
      rw [if_neg h1]
      split at h
      · cases h
      rename_i h4
      rw [if_neg h4]
      split at h
      · cases h
      rename_i h5
      rw [if_neg h5]
      split at h
      · cases h
      rename_i h6
      rw [if_neg h6]
      simpa using h1
  rename_i h3
  rw [if_neg h3]
  split at h
  · cases h
  rename_i hf
  rw [if_neg hf]
  split at h
  · cases h
  rename_i hr
  rw [if_neg hr]
  split at h
  · cases h
  rename_i hc2
  rw [if_neg hc2]
  simp only [Bool.not_eq_false] at hf hr
  have h34 : n.op ≤ 34 := by
    rcases Int.lt_or_le 34 n.op with h | h
    · have := ho.kl
      unfold kidsN at this
      rw [if_pos (.inr h)] at this
      omega
    · exact h
  generalize hx : kst g n 0 = x at *
  generalize hy : kst g n 1 = y at *
  generalize hz : kst g n 2 = z at *
  have vx : validS x = true := by rw [← hx]; exact hk 0 (by unfold kidsN; repeat' split <;> omega)
  have hy2 : 2 ≤ kidsN n.op → validS y = true := fun h => by rw [← hy]; exact hk 1 (by omega)
  have hz2 : kidsN n.op = 3 → validS z = true := fun h => by rw [← hz]; exact hk 2 (by omega)
  obtain ⟨op, kids, nn, m, u, tx, st⟩ := n
  simp only at *
  clear hx hy hz hk ho hc hc2
  rcases op_all (by omega) h34 with rfl | rfl | rfl | rfl | rfl | rfl | rfl | rfl | rfl | rfl | rfl | rfl | rfl | rfl | rfl | rfl | rfl | rfl | rfl | rfl | rfl | rfl | rfl | rfl | rfl | rfl | rfl | rfl | rfl | rfl | rfl | rfl | rfl | rfl | rfl
  iterate 4 omega
  all_goals first | (have hy2 := hy2 (by decide)) | skip
  all_goals first | (have hz2 := hz2 (by decide)) | skip
  -- Not .. Ashr
  iterate 12 exact vx
  -- Ult, Slt, Eq
  iterate 3 exact bv_valid (by omega) (by omega)
  -- Ite
  · show validS (if y.k = 1 then strS (if y.n < z.n then z.n else y.n) else y) = true
    split
    · rename_i hk
      have hf : (decide (x = bvS 1) && (decide (y = z) || (y.k == 1 && z.k == 1))) = true := hf
      have h1 := valid_n hy2
      have h2 := valid_n hz2
      exact str_valid (by split <;> omega) (by split <;> omega)
    · exact hy2
  -- Concat
  · have hf : (x.k == 0 && y.k == 0) = true := hf
    have hr : decide (x.n + y.n ≤ 64) = true := hr
    simp only [Bool.and_eq_true, beq_iff_eq] at hf
    have h1 := valid_bv vx hf.1
    have h2 := valid_bv hy2 hf.2
    exact bv_valid (by omega) (of_decide_eq_true hr)
  -- Extract
  · have hf : (x.k == 0) = true := hf
    have hr : (decide (0 ≤ m) && decide (m ≤ nn) && decide (nn < x.n)) = true := hr
    simp only [Bool.and_eq_true, decide_eq_true_eq] at hr
    have h1 := valid_bv vx (eq_of_beq hf)
    show validS (bvS (nn - m + 1)) = true
    exact bv_valid (by omega) (by omega)
  -- Zext, Sext
  iterate 2
    · have hf : (x.k == 0) = true := hf
      have hr : (decide (1 ≤ nn) && decide (nn ≤ 64 - x.n)) = true := hr
      simp only [Bool.and_eq_true, decide_eq_true_eq] at hr
      have h1 := valid_bv vx (eq_of_beq hf)
      show validS (bvS (x.n + nn)) = true
      exact bv_valid (by omega) (by omega)
  -- Select
  · have hf : (arrS x && decide (y = bvS x.x)) = true := hf
    simp only [Bool.and_eq_true] at hf
    exact elem_valid vx hf.1
  -- Store
  · exact vx
  -- Diff
  · have hf : (arrS x && decide (x = y)) = true := hf
    simp only [Bool.and_eq_true] at hf
    have h1 := hf.1
    unfold arrS at h1
    simp only [Bool.or_eq_true, beq_iff_eq] at h1
    rw [valid_iff] at vx
    exact bv_valid (by omega) (by omega)
  -- Len
  · exact bv_valid (by omega) (by omega)
  -- Byte
  · exact bv_valid (by omega) (by omega)
  -- Cat
  · have hr : decide (x.n + y.n ≤ 64) = true := hr
    have h1 := valid_n vx
    have h2 := valid_n hy2
    exact str_valid (by omega) (of_decide_eq_true hr)
  -- Sub
  · exact vx
  -- Find
  · exact bv_valid (by omega) (by omega)
  -- Replace
  · have hr : decide (x.n + z.n ≤ 64) = true := hr
    have h1 := valid_n vx
    have h2 := valid_n hz2
    exact str_valid (by omega) (of_decide_eq_true hr)
  -- In
  · exact bv_valid (by omega) (by omega)
  -- Char
  · exact str_valid (by omega) (by omega)
/-! #### Graphs in order -/
theorem Vg.val {g : List Nx} (h : Vg g) : ∀ d ∈ g, validS d.st = true := by
  induction h with
  | nil => simp
  | snoc hg hs hn ih =>
    intro d hd
    rcases List.mem_append.1 hd with hd | hd
    · exact ih d hd
    · simp only [List.mem_cons, List.not_mem_nil, or_false] at hd
      subst hd
      have := srt_valid ih (by rw [hs])
      rwa [hs] at this
/-- a node that is a variable is known by its name and its sort -/
theorem var_eq {g g' : List Nx} {a b : Nx} (ha : SrtOk g a) (hb : SrtOk g' b) (h0 : a.op = 0) (h0' : b.op = 0) (ht : a.tx = b.tx) (hs : a.st = b.st) : a = b := by
  have k0 : ∀ {g : List Nx} {a : Nx}, SrtOk g a → a.op = 0 → a.kids = [] ∧ a.n = 0 ∧ a.m = 0 ∧ a.u = 0 := by
    intro g a ha h0
    have h1 := ha.kl
    have h2 := ha.ok
    rw [h0] at h1
    unfold okF at h2
    rw [h0] at h2
    refine ⟨List.eq_nil_of_length_eq_zero (by have : kidsN 0 = 0 := rfl; omega), ?_⟩
    have : hasN 0 = false := rfl
    rw [this] at h2
    simp at h2
    exact ⟨h2.1.1.1, h2.1.1.2, h2.1.2⟩
  obtain ⟨a1, a2, a3, a4⟩ := k0 ha h0
  obtain ⟨b1, b2, b3, b4⟩ := k0 hb h0'
  cases a; cases b
  simp only at *
  subst h0 h0' ht hs a1 a2 a3 a4 b1 b2 b3 b4
  rfl
theorem Vg.ok {g : List Nx} (h : Vg g) : ∀ i d, g[i]? = some d → srtX (g.take i) d = (d.st, 0) := by
  induction h with
  | nil => intro i d hd; simp at hd
  | @snoc g n hg hs hn ih =>
    intro i d hd
    rcases Nat.lt_or_ge i g.length with hi | hi
    · rw [List.getElem?_append_left hi] at hd
      rw [List.take_append_of_le_length (by omega)]
      exact ih i d hd
    · rw [List.getElem?_append_right hi] at hd
      have : i - g.length = 0 := by
        have := (List.getElem?_eq_some_iff.1 hd).1
        simp at this
        omega
      rw [this] at hd
      simp at hd
      subst hd
      rw [show i = g.length by omega, List.take_left]
      exact hs
theorem Vg.sok {g : List Nx} (h : Vg g) : ∀ i d, g[i]? = some d → SrtOk (g.take i) d := fun i d hd => srt_ok (by rw [h.ok i d hd])
theorem Vg.kids {g : List Nx} (h : Vg g) {i : Nat} {d : Nx} (hd : g[i]? = some d) : ∀ k ∈ d.kids, 0 ≤ k ∧ k < (i : Int) := fun k hk => by
  have h1 := (h.sok i d hd).ki k hk
  have h2 := (List.getElem?_eq_some_iff.1 hd).1
  rw [List.length_take] at h1
  omega
theorem Vg.vars {g : List Nx} (h : Vg g) : VarsOk g := by
  induction h with
  | nil => intro d hd; cases hd
  | @snoc g n hg hs hn ih =>
    have one : ∀ d ∈ g, d.op = 0 → n.op = 0 → d.tx = n.tx → d.st = n.st := by
      intro d hd h0 h0' ht
      have hso : SrtOk g n := srt_ok (by rw [hs])
      unfold srtX at hs
      split at hs
      · simp at hs
      rw [if_pos (by omega : n.op ≤ 3)] at hs
      unfold leafX at hs
      rw [if_neg (by omega)] at hs
      split at hs
      · simp at hs
      split at hs
      · simp at hs
      split at hs
      · simp at hs
      split at hs
      · simp at hs
      split at hs
      · simp at hs
      rename_i h1
      simp only [h0', true_and, Bool.not_eq_true] at h1
      rw [twice_any ih, List.any_eq_false] at h1
      rcases decEq d.st n.st with h | h
      · exact absurd (decide_eq_true ⟨h0, ht, h⟩) (h1 d hd)
      · exact h
    intro d hd h0 e he h0' ht
    have hd := List.mem_append.1 hd
    have he := List.mem_append.1 he
    simp only [List.mem_cons, List.not_mem_nil, or_false] at hd he
    rcases hd with hd | hd
    · rcases he with he | he
      · exact ih d hd h0 e he h0' ht
      · rw [he] at ht h0' ⊢
        exact one d hd h0 h0' ht
    · rw [hd] at ht h0 ⊢
      rcases he with he | he
      · exact (one e he h0' h0 ht.symm).symm
      · rw [he]
theorem idx_none {n : Nx} : ∀ {g : List Nx} {i : Nat}, idxX n g i = none → n ∉ g
  | [], i, _ => by simp
  | d :: g, i, h => by
    unfold idxX at h
    split at h
    · cases h
    · rename_i hd
      simp only [List.mem_cons, not_or]
      exact ⟨fun e => hd e.symm, idx_none h⟩
theorem idx_some {n : Nx} : ∀ {g : List Nx} {i k : Nat}, idxX n g i = some k → i ≤ k ∧ g[k - i]? = some n
  | d :: g, i, k, h => by
    unfold idxX at h
    split at h
    · rename_i hd
      cases h
      simp [hd]
    · have := idx_some h
      refine ⟨by omega, ?_⟩
      rw [show k - i = (k - (i + 1)) + 1 by omega]
      simpa using this.2
end Go.Proofs.YtibaobaobnpdaaaGreatDoor
set_option maxRecDepth 100000
set_option maxHeartbeats 1000000
namespace Go.Proofs.YtibaobaobnpdaaaGreatDoor
open Go Go.W

/-- a node at an address -/
def NdAt (w : World) (p : Addr) (d : Nd) : Prop := ∀ i v, (Nd.c d)[i]? = some v → w.cell? (p.add i) = some v
theorem NdAt.st {w w' : World} {p : Addr} {d : Nd} (h : NdAt w p d) (hk : p.block < w.heap.size → w'.heap[p.block]? = w.heap[p.block]?) : NdAt w' p d := fun i v hi => by
  have hc := h i v hi
  have hl := cell_lt hc
  rw [add_block] at hl
  unfold World.cell? at hc ⊢
  rw [add_block] at hc ⊢
  rw [hk hl]; exact hc
theorem NdAt.lt {w : World} {p : Addr} {d : Nd} (h : NdAt w p d) : p.block < w.heap.size := by
  have := cell_lt (h 0 _ rfl)
  rwa [add_block] at this
def _root_.Go.W.En.nda (p : Addr) (d : Nd) : En := ⟨[p.block], fun w => NdAt w p d, fun w w' h hp => hp.st (h p.block (by simp)), fun w hp b hb => by simp at hb; subst hb; exact NdAt.lt hp, by simp⟩
theorem nda_ob {w : World} {b : Nat} {d : Nd} {T : TypeId} (h : w.heap[b]? = some (.cells (Nd.c d).toArray T (0, 0))) : NdAt w (at0 b) d := fun i v hi => cellAt (p := at0 b) h rfl (by simpa using hi)
section
variable {w : World} {p : Addr} {d : Nd} (h : NdAt w p d)
include h
theorem NdAt.c0 : w.cell? (p.add 0) = some (.i d.x.op) := h 0 _ rfl
theorem NdAt.c1 : w.cell? (p.add 1) = some d.ks.v := h 1 _ rfl
theorem NdAt.c2 : w.cell? (p.add 2) = some (.i d.x.n) := h 2 _ rfl
theorem NdAt.c3 : w.cell? (p.add 3) = some (.i d.x.m) := h 3 _ rfl
theorem NdAt.c4 : w.cell? (p.add 4) = some (.u d.x.u) := h 4 _ rfl
theorem NdAt.c5 : w.cell? (p.add 5) = some (.string d.x.tx) := h 5 _ rfl
theorem NdAt.s0 : w.cell? ((p.add 6).add 0) = some (.i d.x.st.k) := by rw [add_add]; exact h 6 _ rfl
theorem NdAt.s1 : w.cell? ((p.add 6).add 1) = some (.i d.x.st.n) := by rw [add_add]; exact h 7 _ rfl
theorem NdAt.s2 : w.cell? ((p.add 6).add 2) = some (.i d.x.st.x) := by rw [add_add]; exact h 8 _ rfl
end
theorem t_bv (n : Int) (w : World) : Calls Tryz.prog n_term_bv #[.i n] w fun r w' => r = .returned (srtV (bvS n)) ∧ Fr0 w w' :=
  term_bv.okT _ w _ ((lh0 [] (by simp)).newg fun b w1 H1 => H1.locg fun w2 H2 => ⟨rfl, H2.fr⟩)
theorem t_str (n : Int) (w : World) : Calls Tryz.prog n_term_str #[.i n] w fun r w' => r = .returned (srtV (strS n)) ∧ Fr0 w w' :=
  term_str.okT _ w _ ((lh0 [] (by simp)).newg fun b w1 H1 => H1.locg fun w2 H2 => ⟨rfl, H2.fr⟩)
theorem t_isBV (s : Srt) (w : World) : Calls Tryz.prog n_term_isBV #[srtV s] w fun r w' => r = .returned (.bool (s.k == 0)) ∧ Fr0 w w' :=
  term_isBV.okT _ _ _ w _ ((lh0 [] (by simp)).newg fun b w1 H1 => ⟨rfl, H1.fr⟩)
theorem t_isStr (s : Srt) (w : World) : Calls Tryz.prog n_term_isStr #[srtV s] w fun r w' => r = .returned (.bool (s.k == 1)) ∧ Fr0 w w' :=
  term_isStr.okT _ _ _ w _ ((lh0 [] (by simp)).newg fun b w1 H1 => ⟨rfl, H1.fr⟩)
theorem t_isArray (s : Srt) (w : World) : Calls Tryz.prog n_term_isArray #[srtV s] w fun r w' => r = .returned (.bool (arrS s)) ∧ Fr0 w w' :=
  term_isArray.okT _ _ _ w _ ((lh0 [] (by simp)).newg fun b w1 H1 => sel_eq (fun h => ⟨by unfold arrS; rw [h]; rfl, H1.fr⟩) (fun h => ⟨by unfold arrS; rw [beq_eq_false_iff_ne.2 h]; rfl, H1.fr⟩))
theorem t_alike (x y : Srt) (w : World) : Calls Tryz.prog n_term_alike #[srtV x, srtV y] w fun r w' => r = .returned (.bool (decide (x = y) || (x.k == 1 && y.k == 1))) ∧ Fr0 w w' := by
  refine term_alike.okT _ _ _ _ _ _ w _ ((lh0 [] (by simp)).newg fun b w1 H1 => H1.newg fun b2 w2 H2 => sel_srt (a := x) (b := y) (fun he => ⟨by rw [decide_eq_true he]; rfl, H2.fr⟩) (fun he => H2.callg (t_isStr x w2) ?_))
  rintro _ w3 rfl H3
  rw [decide_eq_false he, Bool.false_or]
  refine ⟨_, rfl, sel_eq (fun hk => H3.callg (t_isStr y w3) ?_) (fun hk => ⟨by rw [beq_eq_false_iff_ne.2 hk]; rfl, H3.fr⟩)⟩
  rintro _ w4 rfl H4
  exact ⟨_, rfl, by rw [hk]; rfl, H4.fr⟩
def resE (sorts ranges : Bool) : Int := if sorts = true then (if ranges = true then 0 else 5) else 9
theorem t_result (s : Srt) (sorts ranges : Bool) (w : World) : Calls Tryz.prog n_term_result #[srtV s, .bool sorts, .bool ranges] w fun r w' => r = sortR (s, resE sorts ranges) ∧ Fr0 w w' := by
  refine term_result.okT _ _ _ _ _ w _ ((lh0 [] (by simp)).newg fun b w1 H1 => H1.newg fun b2 w2 H2 => sel_not (fun h => H2.locg fun w3 H3 => ⟨by rw [h]; rfl, H3.fr⟩) (fun h => sel_not (fun h2 => H2.locg fun w3 H3 => ⟨by rw [h, h2]; rfl, H3.fr⟩) (fun h2 => H2.locg fun w3 H3 => ⟨by rw [h, h2]; rfl, H3.fr⟩)))
theorem t_ValidSort (s : Srt) (w : World) : Calls Tryz.prog n_value_ValidSort #[srtV s] w fun r w' => r = .returned (.int .i64 (sortE s)) ∧ Fr0 w w' := by
  refine value_ValidSort.okT _ _ _ w _ ((lh0 [] (by simp)).newg fun b1 w1 H1 => ?_)
  have good : validS s = true → (Ending.returned (Value.int .i64 0) = .returned (.int .i64 (sortE s)) ∧ Fr0 w w1) := fun h => ⟨by unfold sortE; rw [if_pos h], H1.fr⟩
  have bad : validS s = false → (Ending.returned (Value.int .i64 9) = .returned (.int .i64 (sortE s)) ∧ Fr0 w w1) := fun h => ⟨by unfold sortE; rw [if_neg (by simp [h])], H1.fr⟩
  have plain : ∀ least : Int, (∀ h1 : least ≤ s.n, s.n ≤ 64 → s.x = 0 → validS s = true) → (¬ (least ≤ s.n ∧ s.n ≤ 64 ∧ s.x = 0) → validS s = false) → value_ValidSort.S0T b1 s.k s.n s.x least 64 false w1 fun r w' => r = .returned (.int .i64 (sortE s)) ∧ Fr0 w w' := by
    intro least h1 h2
    exact sel_dec (fun h => bad (h2 (by omega))) (fun h => sel_dec (fun h' => bad (h2 (by omega))) (fun h' => sel_false rfl (sel_true rfl (sel_ne (fun h3 => bad (h2 (fun hh => h3 hh.2.2))) (fun h3 => good (h1 (by omega) (by omega) h3))))))
  have array : ∀ least : Int, (∀ h1 : least ≤ s.n, s.n ≤ 64 → 1 ≤ s.x → s.x ≤ 16 → validS s = true) → (¬ (least ≤ s.n ∧ s.n ≤ 64 ∧ 1 ≤ s.x ∧ s.x ≤ 16) → validS s = false) → value_ValidSort.S0T b1 s.k s.n s.x least 64 true w1 fun r w' => r = .returned (.int .i64 (sortE s)) ∧ Fr0 w w' := by
    intro least h1 h2
    exact sel_dec (fun h => bad (h2 (by omega))) (fun h => sel_dec (fun h' => bad (h2 (by omega))) (fun h' => sel_true rfl (sel_dec (fun h3 => bad (h2 (by omega))) (fun h3 => sel_dec (fun h4 => bad (h2 (by omega))) (fun h4 => sel_false rfl (good (h1 (by omega) (by omega) (by omega) (by omega))))))))
  refine sel_eq (fun h0 => plain 1 (fun h1 h2 h3 => ?_) (fun h => ?_)) (fun h0 => sel_eq (fun h1' => plain 0 (fun h1 h2 h3 => ?_) (fun h => ?_)) (fun h1' => sel_eq (fun h2' => array 1 (fun h1 h2 h3 h4 => ?_) (fun h => ?_)) (fun h2' => sel_eq (fun h3' => array 0 (fun h1 h2 h3 h4 => ?_) (fun h => ?_)) (fun h3' => bad ?_))))
  · unfold validS; simp [h0, h1, h2, h3]
  · unfold validS; rw [h0]; simp; omega
  · unfold validS; simp [h1', h1, h2, h3]
  · unfold validS; rw [h1']; simp; omega
  · unfold validS; simp [h2', h1, h2, h3, h4]
  · unfold validS; rw [h2']; simp; omega
  · unfold validS; simp [h3', h1, h2, h3, h4]
  · unfold validS; rw [h3']; simp; omega
  · unfold validS; simp [h0, h1', h2', h3']
theorem str_at {s : ByteArray} {i : Nat} (h : i < s.size) : s[i]? = some (gQ (bl s) i) := by
  have h2 : i < (bl s).length := h
  have e : gQ (bl s) i = (bl s)[i] := by unfold gQ; rw [List.getD_eq_getElem?_getD, List.getElem?_eq_getElem h2]; rfl
  rw [e, getElem?_pos s i h]
  rfl
theorem t_isName (s : ByteArray) (w : World) : Calls Tryz.prog n_term_isName #[.string s] w fun r w' => r = .returned (.bool (nameB (bl s))) ∧ Fr0 w w' := by
  have hl : (bl s).length = s.size := bl_len s
  have nameB_cons : ∀ (c : UInt8) (m : List UInt8), nameB (c :: m) = (decide (m.length ≤ 15) && letQ c && m.all namQ) := fun _ _ => rfl
  cases hs : bl s with
  | nil =>
    have h0 : s.size = 0 := by rw [← hl, hs]; rfl
    exact term_isName.ok s w _ (sel_true (decide_eq_true (by omega)) ⟨rfl, Fr.refl _ _⟩)
  | cons c m =>
    have hm : s.size = m.length + 1 := by rw [← hl, hs]; rfl
    have g0 : gQ (bl s) 0 = c := by rw [hs]; rfl
    refine term_isName.ok s w _ (sel_false (decide_eq_false (by omega)) (sel_dec (fun h => ⟨?_, Fr.refl _ _⟩) (fun h => ?_)))
    · rw [nameB_cons, decide_eq_false (by omega)]; rfl
    have e0 : nameB (c :: m) = (letQ c && m.all namQ) := by rw [nameB_cons, decide_eq_true (by omega : m.length ≤ 15), Bool.true_and]
    rw [e0]
    have loop : ∀ (d i : Nat), i + d = s.size → (letQ c && m.all namQ) = (if i = 0 then (letQ c && m.all namQ) else ((bl s).drop i).all namQ) → term_isName.L1 s (i : Int) w fun r w' => r = .returned (.bool (letQ c && m.all namQ)) ∧ Fr0 w w' := by
      intro d
      induction d with
      | zero =>
        intro i hi he
        rw [List.drop_of_length_le (by omega), if_neg (by omega)] at he
        exact term_isName.L1_step _ _ _ _ (sel_false (decide_eq_false (by omega)) ⟨by rw [he]; rfl, Fr.refl _ _⟩)
      | succ d ih =>
        intro i hi he
        have hg := str_at (show i < s.size by omega)
        have hx : (bl s).drop i = gQ (bl s) i :: (bl s).drop (i + 1) := by
          rw [List.drop_eq_getElem_cons (by omega : i < (bl s).length)]
          unfold gQ; rw [List.getD_eq_getElem?_getD, List.getElem?_eq_getElem (by omega : i < (bl s).length)]; rfl
        have go : (if i = 0 then letQ (gQ (bl s) i) else namQ (gQ (bl s) i)) = true → term_isName.S5 s (i : Int) w fun r w' => r = .returned (.bool (letQ c && m.all namQ)) ∧ Fr0 w w' := fun h => by
          show term_isName.L1 s (IntKind.wrap .i64 ((i : Int) + 1)) w _
          rw [i64_next _ (by omega)]
          refine ih (i + 1) (by omega) ?_
          rw [if_neg (by omega)]
          by_cases h0 : i = 0
          · subst h0
            rw [if_pos rfl, g0] at h
            rw [h, Bool.true_and]
            rw [hs]; rfl
          · rw [if_neg h0] at h he
            rw [he, hx, List.all_cons, h, Bool.true_and]
        have stop : (if i = 0 then letQ (gQ (bl s) i) else namQ (gQ (bl s) i)) = false → term_isName.S4 w fun r w' => r = .returned (.bool (letQ c && m.all namQ)) ∧ Fr0 w w' := fun h => by
          refine ⟨?_, Fr.refl _ _⟩
          by_cases h0 : i = 0
          · subst h0
            rw [if_pos rfl, g0] at h
            rw [h, Bool.false_and]
          · rw [if_neg h0] at h he
            rw [he, hx, List.all_cons, h, Bool.false_and]
        generalize gQ (bl s) i = x at hg go stop
        have S3 : ∀ l : Bool, l = letQ x → term_isName.S3 s (i : Int) ((x.toNat : Nat) : Int) l w fun r w' => r = .returned (.bool (letQ c && m.all namQ)) ∧ Fr0 w w' := by
          intro l hl
          refine sel_not (fun hf => ?_) (fun ht => go ?_)
          · rw [hf] at hl
            refine sel_eq (fun h0 => stop ?_) (fun h0 => ?_)
            · rw [if_pos (by omega), ← hl]
            have hn0 : i ≠ 0 := by omega
            rw [if_neg hn0] at go stop
            have nq : namQ x = ((decide (48 ≤ x.toNat) && decide (x.toNat ≤ 57)) || x == 45) := by unfold namQ; rw [← hl, Bool.false_or]
            refine sel_ne (fun h45 => sel_dec (fun h1 => stop ?_) (fun h1 => sel_dec (fun h2 => stop ?_) (fun h2 => go ?_))) (fun h45 => go ?_)
            · rw [nq, decide_eq_false (show ¬ 48 ≤ x.toNat by omega)]
              have : (x == 45) = false := beq_eq_false_iff_ne.2 fun e => h45 (by subst e; rfl)
              rw [this]; rfl
            · rw [nq, decide_eq_false (show ¬ x.toNat ≤ 57 by omega), Bool.and_false]
              have : (x == 45) = false := beq_eq_false_iff_ne.2 fun e => h45 (by subst e; rfl)
              rw [this]; rfl
            · rw [nq, decide_eq_true (show 48 ≤ x.toNat by omega), decide_eq_true (show x.toNat ≤ 57 by omega)]; rfl
            · have : x = 45 := UInt8.toNat_inj.1 (by have : ((45 : UInt8).toNat : Int) = 45 := rfl; omega)
              rw [nq, this]; rfl
          · rw [ht] at hl
            split
            · exact hl.symm
            · unfold namQ; rw [← hl]; rfl
        have ht : ((i : Int)).toNat = i := Int.toNat_natCast i
        refine term_isName.L1_step _ _ _ _ (sel_true (decide_eq_true (by omega)) ⟨by omega, x, by rw [ht]; exact hg, sel_dec (fun h1 => S3 _ ?_) (fun h1 => S3 _ ?_)⟩)
        · unfold letQ
          rw [decide_eq_true (show 97 ≤ x.toNat by omega), Bool.true_and]
          exact decide_eq_decide.2 (by omega)
        · unfold letQ
          rw [decide_eq_false (show ¬ 97 ≤ x.toNat by omega), Bool.false_and]
    exact loop s.size 0 (by omega) (by rw [if_pos rfl])
theorem emp_tx' (t : ByteArray) : (t.toList == (ByteArray.mk #[]).toList) = decide (t = ba []) := tx_eq _ _
theorem t_fieldsFit {w : World} {p : Addr} {d : Nd} (h : NdAt w p d) : Calls Tryz.prog n_term_fieldsFit #[.pointer (some p)] w fun r w' => r = .returned (.bool (okF d.x)) ∧ Fr0 w w' := by
  have S1 : ∀ a b c e : Bool, term_fieldsFit.S1 p a b c e w fun r w' => r = .returned (.bool ((a || d.x.n == 0) && (b || d.x.m == 0) && (c || d.x.u == 0) && (e || decide (d.x.tx = ba [])))) ∧ Fr0 w w' := by
    intro a b c e
    cases a <;> cases b <;> cases c <;> cases e
    all_goals repeat (first | refine sel_false rfl ?_ | refine sel_true rfl ?_ | refine ⟨_, h.c2, sel_eq (fun h2 => ?_) (fun h2 => ⟨by rw [beq_eq_false_iff_ne.2 h2]; simp, Fr.refl _ _⟩)⟩ | refine ⟨_, h.c3, sel_eq (fun h3 => ?_) (fun h3 => ⟨by rw [beq_eq_false_iff_ne.2 h3]; simp, Fr.refl _ _⟩)⟩ | refine ⟨_, h.c4, sel_eq (fun h4 => ?_) (fun h4 => ⟨by rw [beq_eq_false_iff_ne.2 h4]; simp, Fr.refl _ _⟩)⟩ | refine ⟨_, h.c5, ?_, Fr.refl _ _⟩)
    all_goals first | exact ⟨by simp [*], Fr.refl _ _⟩ | (rw [emp_tx']; simp [*])
  have fin : ∀ a b c e : Bool, a = hasN d.x.op → b = (d.x.op == 21) → c = (d.x.op == 1) → e = hasT d.x.op → term_fieldsFit.S1 p a b c e w fun r w' => r = .returned (.bool (okF d.x)) ∧ Fr0 w w' := by
    rintro a b c e rfl rfl rfl rfl
    exact S1 _ _ _ _
  have e0 : ∀ k : Int, d.x.op ≠ k → (d.x.op == k) = false := fun k hk => beq_eq_false_iff_ne.2 hk
  have S2 : ∀ e : Bool, e = hasT d.x.op → term_fieldsFit.S2 p false false false e d.x.op w fun r w' => r = .returned (.bool (okF d.x)) ∧ Fr0 w w' := by
    intro e he
    refine sel_eq (fun h1 => fin _ _ _ _ ?_ ?_ ?_ he) (fun h1 => sel_eq (fun h2 => fin _ _ _ _ ?_ ?_ ?_ he) (fun h2 => sel_eq (fun h3 => sel_true (beq_iff_eq.2 h3) (fin _ _ _ _ ?_ ?_ ?_ he)) (fun h3 => sel_eq (fun h4 => sel_true (beq_iff_eq.2 h4) (fin _ _ _ _ ?_ ?_ ?_ he)) (fun h4 => sel_eq (fun h5 => fin _ _ _ _ ?_ ?_ ?_ he) (fun h5 => fin _ _ _ _ ?_ ?_ ?_ he)))))
    all_goals first | (rw [‹d.x.op = _›]; rfl) | (simp [hasN, *])
  refine term_fieldsFit.ok p w _ ⟨_, h.c0, sel_eq (fun h0 => sel_true (beq_iff_eq.2 h0) (fin _ _ _ _ ?_ ?_ ?_ ?_)) (fun h0 => sel_eq (fun h2 => sel_true (beq_iff_eq.2 h2) (fin _ _ _ _ ?_ ?_ ?_ ?_)) (fun h2 => sel_eq (fun h3 => fin _ _ _ _ ?_ ?_ ?_ ?_) (fun h3 => S2 _ ?_)))⟩
  all_goals first | (rw [‹d.x.op = _›]; rfl) | (unfold hasT; simp [*])
end Go.Proofs.YtibaobaobnpdaaaGreatDoor

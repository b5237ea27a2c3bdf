/- Package enthymemelaw04: own, a tree of the reference as one of the package. Package enthymemeref04: Compare: the contract. Package enthymemeref04: Nodes, good, Valid: the contracts. The reference's normal form: Everything, put, normal, simple, few, Normal: the contracts. The normal form, plain: it is in normal form and its own one, it has at most twice as many nodes, and matches the same strings; sorting and leaving out is the same as putting in one after the other. Normal of the package and of the reference; package enthymemelaw04: plain, same: the contracts. The reference's texts of expressions, plain: tokens, reading, writing. No program in sight. -/
import Derived.Test.YtnpkhgljhcnpcaaGreatDoorR1
import Derived.Test.YtnpkhgljhcnpcaaGreatDoorV
set_option linter.unusedVariables false
namespace Go.Proofs.YtnpkhgljhcnpcaaGreatDoor
open Go Go.W

end Go.Proofs.YtnpkhgljhcnpcaaGreatDoor
namespace Go.Proofs.YtnpkhgljhcnpcaaGreatDoor
open Go Go.W

end Go.Proofs.YtnpkhgljhcnpcaaGreatDoor
namespace Go.Proofs.YtnpkhgljhcnpcaaGreatDoor
open Go Go.W

/-! #### put -/
abbrev lstT (s : Sl) (l : List Rt) : Rt := .mk 0 0 0 s l
/-! #### normal -/
end Go.Proofs.YtnpkhgljhcnpcaaGreatDoor
namespace Go.Proofs.YtnpkhgljhcnpcaaGreatDoor
open Go Go.W

/-! #### In normal form -/
/-! #### More about measures -/
end Go.Proofs.YtnpkhgljhcnpcaaGreatDoor
namespace Go.Proofs.YtnpkhgljhcnpcaaGreatDoor
open Go Go.W

/-! #### simple -/
/-! #### Normal -/
def nmR (x : Rx) : Rx := if validR x = 0 then limR (normX x) else noR
def nmE (x : Rx) : Int := if validR x = 0 then limE (normX x) else validR x
end Go.Proofs.YtnpkhgljhcnpcaaGreatDoor
namespace Go.Proofs.YtnpkhgljhcnpcaaGreatDoor
open Go Go.W

abbrev BL := List UInt8
def gQ (s : BL) (i : Nat) : UInt8 := s.getD i 0
def plQ (c : UInt8) : Bool := decide (32 ≤ c.toNat) && decide (c.toNat ≤ 126) && !(c == 39) && !(c == 92)
def loQ (c : UInt8) : Bool := decide (97 ≤ c.toNat) && decide (c.toNat ≤ 122)
/-- the digit of a number below 16, and back -/
def digQ (n : Nat) : UInt8 := UInt8.ofNat (if n < 10 then 48 + n else 87 + n)
def numQ (c : UInt8) : Int := if 48 ≤ c.toNat ∧ c.toNat ≤ 57 then (c.toNat : Int) - 48 else if 97 ≤ c.toNat ∧ c.toNat ≤ 102 then (c.toNat : Int) - 87 else -1
/-! #### Tokens -/
def byteAtQ (s : BL) (at_ : Nat) : UInt8 × Nat :=
  if (decide (at_ + 3 ≤ s.length) && gQ s at_ == 39 && gQ s (at_ + 2) == 39 && plQ (gQ s (at_ + 1))) = true then (gQ s (at_ + 1), 3)
  else if (decide (at_ + 4 ≤ s.length) && gQ s at_ == 92 && gQ s (at_ + 1) == 120 && decide (0 ≤ numQ (gQ s (at_ + 2))) && decide (0 ≤ numQ (gQ s (at_ + 3)))) = true then (UInt8.ofNat ((16 * numQ (gQ s (at_ + 2)) + numQ (gQ s (at_ + 3))).toNat), 4)
  else (0, 0)
/-- a token: its text, its place, the kind and the bounds of its range -/
structure TokQ where
  tx : BL
  at_ : Nat
  k : Nat
  lo : UInt8
  hi : UInt8
structure RgQ where
  k : Nat
  lo : UInt8
  hi : UInt8
  n : Nat
def noRg : RgQ := ⟨0, 0, 0, 0⟩
def rangeAtQ (s : BL) (i : Nat) : RgQ :=
  let a := byteAtQ s i
  if 0 < a.2 then ⟨2, a.1, a.1, a.2⟩ else if gQ s i ≠ 91 then noRg else
  let b := byteAtQ s (i + 1)
  let dash := i + 1 + b.2
  if b.2 = 0 ∨ s.length ≤ dash ∨ gQ s dash ≠ 45 then noRg else
  let c := byteAtQ s (dash + 1)
  let fin := dash + 1 + c.2
  if c.2 = 0 ∨ s.length ≤ fin ∨ gQ s fin ≠ 93 ∨ c.1.toNat < b.1.toNat then noRg else ⟨2, b.1, c.1, fin + 1 - i⟩
/-- how far small letters go, from n on -/
def runQ (s : BL) (i : Nat) : Nat → Nat → Nat
  | 0, n => n
  | f + 1, n => if (loQ (gQ s i) && decide (i + n < s.length) && loQ (gQ s (i + n))) = true then runQ s i f (n + 1) else n
def tokQ (s : BL) : Nat → Nat → List TokQ
  | 0, _ => [⟨[], s.length, 0, 0, 0⟩]
  | f + 1, i => if s.length ≤ i then [⟨[], s.length, 0, 0, 0⟩] else if gQ s i = 32 then tokQ s f (i + 1) else
    let r := rangeAtQ s i
    let n := if r.n = 0 then runQ s i s.length 1 else r.n
    ⟨(s.take (i + n)).drop i, i, r.k, r.lo, r.hi⟩ :: tokQ s f (i + n)
def toksQ (s : BL) : List TokQ := tokQ s (s.length + 1) 0
/-! #### Reading -/
abbrev StQ := Nat × Bool
section
variable (l : List TokQ)
def tokAt (i : Nat) : TokQ := l.getD i ⟨[], 0, 0, 0, 0⟩
def seeQ (st : StQ) : BL := bif st.2 then [32] else (tokAt l st.1).tx
def takeQ (s : BL) (st : StQ) : Bool × StQ := bif seeQ l st == s then (true, bif s.isEmpty then st else (st.1 + 1, st.2)) else (false, st)
def needQ (s : BL) (st : StQ) : StQ := match takeQ l s st with
  | (true, st) => st
  | (false, st) => (st.1, true)
def beginsQ (st : StQ) : Bool := !st.2 && !(seeQ l st == []) && !(seeQ l st == [41]) && !(seeQ l st == [44]) && !(seeQ l st == [124]) && !(seeQ l st == [38])
def groupQ (k : Int) : List Rx → Rx
  | [a] => a
  | m => .mk k 0 0 m
def wordQ : Nat → BL
  | 0 => [110, 111, 110, 101]
  | 1 => [101, 109, 112, 116, 121]
  | 3 => [99, 97, 116]
  | 4 => [97, 108, 116]
  | 5 => [97, 108, 108]
  | _ => []
/-- the word at the token -/
def whichQ (st : StQ) : Nat → Nat → Option Nat
  | 0, _ => none
  | f + 1, k => bif Nat.beq k 2 || !(seeQ l st == wordQ k) then whichQ st f (k + 1) else some k
mutual
def exprQ : Nat → StQ → Option (Rx × StQ)
  | 0, _ => none
  | f + 1, st => match conjQ f st with
    | some (a, st) => altsQ f [a] st
    | none => none
def altsQ : Nat → List Rx → StQ → Option (Rx × StQ)
  | 0, _, _ => none
  | f + 1, acc, st => match takeQ l [124] st with
    | (true, st) => match conjQ f st with
      | some (a, st) => altsQ f (acc ++ [a]) st
      | none => none
    | (false, st) => some (groupQ 4 acc, st)
def conjQ : Nat → StQ → Option (Rx × StQ)
  | 0, _ => none
  | f + 1, st => match seqQ f st with
    | some (a, st) => andsQ f [a] st
    | none => none
def andsQ : Nat → List Rx → StQ → Option (Rx × StQ)
  | 0, _, _ => none
  | f + 1, acc, st => match takeQ l [38] st with
    | (true, st) => match seqQ f st with
      | some (a, st) => andsQ f (acc ++ [a]) st
      | none => none
    | (false, st) => some (groupQ 5 acc, st)
def seqQ : Nat → StQ → Option (Rx × StQ)
  | 0, _ => none
  | f + 1, st => match itemQ f st with
    | some (a, st) => itemsQ f [a] st
    | none => none
def itemsQ : Nat → List Rx → StQ → Option (Rx × StQ)
  | 0, _, _ => none
  | f + 1, acc, st => bif beginsQ l st then match itemQ f st with
      | some (a, st) => itemsQ f (acc ++ [a]) st
      | none => none
    else some (groupQ 3 acc, st)
def itemQ : Nat → StQ → Option (Rx × StQ)
  | 0, _ => none
  | f + 1, st => match takeQ l [33] st with
    | (true, st) => match itemQ f st with
      | some (a, st) => some (.mk 6 0 0 [a], st)
      | none => none
    | (false, st) => match atomQ f st with
      | some (a, st) => starsQ f a st
      | none => none
def starsQ : Nat → Rx → StQ → Option (Rx × StQ)
  | 0, _, _ => none
  | f + 1, a, st => match takeQ l [42] st with
    | (true, st) => starsQ f (.mk 7 0 0 [a]) st
    | (false, st) => some (a, st)
def atomQ : Nat → StQ → Option (Rx × StQ)
  | 0, _ => none
  | f + 1, st => bif !st.2 && Nat.beq (tokAt l st.1).k 2 then some (.mk 2 (tokAt l st.1).lo (tokAt l st.1).hi [], (st.1 + 1, st.2)) else match whichQ l st 6 0 with
    | some k => bif Nat.ble k 2 then some (.mk k 0 0 [], (st.1 + 1, st.2)) else match kidsQ f (st.1 + 1, st.2) with
      | some (m, st) => some (.mk k 0 0 m, st)
      | none => none
    | none => let st := needQ l [40] st
      bif st.2 then some (noR, st) else match exprQ f st with
      | some (a, st) => some (a, needQ l [41] st)
      | none => none
def kidsQ : Nat → StQ → Option (List Rx × StQ)
  | 0, _ => none
  | f + 1, st => match takeQ l [41] (needQ l [40] st) with
    | (nn, st) => bif st.2 || nn then some ([], st) else match exprQ f st with
      | some (a, st) => moreQ f [a] st
      | none => none
def moreQ : Nat → List Rx → StQ → Option (List Rx × StQ)
  | 0, _, _ => none
  | f + 1, acc, st => match takeQ l [44] st with
    | (true, st) => match exprQ f st with
      | some (a, st) => moreQ f (acc ++ [a]) st
      | none => none
    | (false, st) => some (acc, needQ l [41] st)
end
end
/-- what is read of a text: the expression, the place of an error, the error -/
def parseQ (s : BL) : Option (Rx × Nat × Int) :=
  if 4096 < s.length then some (noR, 4096, 4) else
  let l := toksQ s
  match exprQ l 1000 (0, false) with
  | some (r, st) => let st := needQ l [] st
    if st.2 = true then some (noR, (tokAt l st.1).at_, 2) else if 1000000 < r.sz then none else if 64 < r.sz then some (noR, s.length, 4) else some (r, 0, 0)
  | none => none
/-! #### Writing -/
def byteTx (c : UInt8) : BL := if plQ c = true then [39, c, 39] else [92, 120, digQ (c.toNat / 16), digQ (c.toNat % 16)]
def bindsQ : Rx → Nat
  | .mk k _ _ l => if k = 6 then 3 else if k < 3 ∨ k = 7 ∨ l.length < 2 then 4 else if k = 3 then 2 else if k = 4 then 0 else 1
def parenQ (lv : Nat) (a : Rx) (t : BL) : BL := if bindsQ a < lv then 40 :: (t ++ [41]) else t
def nameQ (k : Int) : BL := if k = 3 then [99, 97, 116, 40] else if k = 4 then [97, 108, 116, 40] else [97, 108, 108, 40]
def signQ (k : Int) : BL := if k = 3 then [] else if k = 4 then [124] else [38]
def lastQ (t : BL) : UInt8 := t.getLastD 0
def joinTx (k : Int) : BL → List BL → BL
  | out, [] => out
  | out, t :: ts => joinTx k ((if k = 3 ∧ loQ (lastQ out) = true ∧ loQ (gQ t 0) = true then out ++ [32] else out) ++ signQ k ++ t) ts
def hdTx : List BL → BL
  | [] => []
  | t :: _ => t
def jnTx (k : Int) : List BL → BL
  | [] => []
  | t :: ts => joinTx k t ts
mutual
/-- the text of an expression, without parentheses around it -/
def wrQ : Rx → BL
  | .mk k lo hi l => if k = 0 then [110, 111, 110, 101] else if k = 1 then [101, 109, 112, 116, 121] else
    if k = 2 then (if lo = hi then byteTx lo else 91 :: (byteTx lo ++ 45 :: (byteTx hi ++ [93]))) else
    if k = 6 then 33 :: hdTx (wrsQ 3 l) else if k = 7 then hdTx (wrsQ 4 l) ++ [42] else
    if l.length < 2 then nameQ k ++ (hdTx (wrsQ 0 l) ++ [41]) else
    jnTx k (wrsQ (bindsQ (.mk k lo hi l) + 1) l)
def wrsQ (lv : Nat) : List Rx → List BL
  | [] => []
  | a :: l => parenQ lv a (wrQ a) :: wrsQ lv l
end
mutual
/-- an expression that can be written -/
def okW : Rx → Bool
  | .mk k _ _ l => decide (0 ≤ k) && decide (k ≤ 7) && (decide (k < 6) || decide (l.length = 1)) && okWs l
def okWs : List Rx → Bool
  | [] => true
  | a :: l => okW a && okWs l
end
/-- is a text that of an expression in normal form? -/
def canQ (s : BL) : Option Bool := match parseQ s with
  | some (r, _, e) => if e = 0 then (if nmE r = 0 then (if okW (nmR r) = true ∧ (nmR r).sz ≤ 1000 then some (parenQ 0 (nmR r) (wrQ (nmR r)) == s) else none) else some false) else some false
  | none => none
end Go.Proofs.YtnpkhgljhcnpcaaGreatDoor

/- Package lexer in plain words. No program in sight. -/
import Derived.Test.YtemagdpieebjlaaH
namespace Go.Proofs.Ytemagdpieebjlaa
open Go Go.W

def smallB (c : UInt8) : Bool := decide (97 ≤ c.toNat) && decide (c.toNat ≤ 122)
def digB (base : Nat) (c : UInt8) : Bool :=
  if base = 2 then (c.toNat == 48 || c.toNat == 49)
  else if base = 16 then (decide (48 ≤ c.toNat) && decide (c.toNat ≤ 57)) || (decide (97 ≤ c.toNat) && decide (c.toNat ≤ 102))
  else decide (48 ≤ c.toNat) && decide (c.toNat ≤ 57)
def wordB (c : UInt8) : Bool := smallB c || digB 10 c || c.toNat == 45 || c.toNat == 35
def startB (c : UInt8) : Bool := smallB c || digB 10 c || c.toNat == 35
def spaceB (c : UInt8) : Bool := c.toNat == 9 || c.toNat == 10 || c.toNat == 13 || c.toNat == 32
def followB (c : UInt8) : Bool := spaceB c || c.toNat == 59 || c.toNat == 40 || c.toNat == 41 || c.toNat == 34
/-- how many bytes of spaces and comments are in front; the flag: within a comment -/
def skipN : Bool → List UInt8 → Nat
  | _, [] => 0
  | false, c :: l => if spaceB c then 1 + skipN false l else if c.toNat = 59 then 1 + skipN true l else 0
  | true, c :: l => if c.toNat = 10 then 1 + skipN false l else 1 + skipN true l
def hexV (c : UInt8) : Nat := if c.toNat ≤ 57 then c.toNat - 48 else c.toNat - 87
/-- what a string in quotation marks is, behind the first mark: its bytes and how many were read, or place and error -/
inductive QR where
  | ok (text : List UInt8) (used : Nat)
  | bad (at' : Nat) (e : Int)
def QR.push (c : UInt8) (k : Nat) : QR → QR
  | .ok t u => .ok (c :: t) (k + u)
  | .bad a e => .bad (k + a) e
def qu : List UInt8 → QR
  | [] => .bad 0 3
  | c :: l =>
    if c.toNat = 34 then .ok [] 1
    else if c.toNat ≠ 92 then (if c.toNat < 32 ∨ 126 < c.toNat then .bad 0 2 else (qu l).push c 1)
    else match l with
      | [] => .bad 1 3
      | d :: l2 =>
        if d.toNat = 34 ∨ d.toNat = 92 then (qu l2).push d 2
        else if d.toNat ≠ 120 then .bad 0 2
        else match l2 with
          | [] => .bad 2 3
          | x :: l3 => if digB 16 x then (match l3 with
              | [] => .bad 3 3
              | y :: l4 => if digB 16 y then (qu l4).push (UInt8.ofNat (16 * hexV x + hexV y)) 4 else .bad 0 2)
            else .bad 0 2
/-- behind the # -/
def examH (l : List UInt8) : Int × Int := match l with
  | b :: d :: r =>
    if b.toNat = 98 then (if (d :: r).all (digB 2) then (if 64 < (d :: r).length then (0, 4) else (3, 0)) else (0, 2))
    else if b.toNat = 120 then (if (d :: r).all (digB 16) then (if 16 < (d :: r).length then (0, 4) else (3, 0)) else (0, 2))
    else (0, 2)
  | _ => (0, 2)
/-- the kind of a word, or the error -/
def exam (t : List UInt8) : Int × Int :=
  match t with
  | [] => (0, 2)
  | c :: l =>
    if smallB c then (if t.any (fun x => x.toNat == 35) then (0, 2) else if 16 < t.length then (0, 6) else (2, 0))
    else if c.toNat ≠ 35 then (if !(t.all (digB 10)) || (c.toNat == 48 && decide (1 < t.length)) then (0, 2) else if 13 < t.length then (0, 4) else (4, 0))
    else examH l
inductive NT where
  | fin
  | tok (kind : Int) (text : List UInt8) (used : Nat)
  | bad (at' : Nat) (e : Int)
/-- one token; spaces were skipped -/
def next1 : List UInt8 → NT
  | [] => .fin
  | c :: l =>
    if c.toNat = 40 then .tok 0 [] 1
    else if c.toNat = 41 then .tok 1 [] 1
    else if c.toNat = 34 then (match qu l with | .ok t u => .tok 5 t (1 + u) | .bad a e => .bad (1 + a) e)
    else if startB c then
      (let t := (c :: l).takeWhile wordB
       match exam t with
       | (k, e) => if e ≠ 0 then .bad 0 e else match (c :: l).drop t.length with
         | [] => .tok k t t.length
         | x :: _ => if followB x then .tok k t t.length else .bad t.length 2)
    else .bad 0 2
structure Tok where
  kind : Int
  text : List UInt8
  at' : Nat
inductive TR where
  | ok (l : List Tok)
  | bad (at' : Nat) (e : Int)
def TR.push (t : Tok) : TR → TR
  | .ok l => .ok (t :: l)
  | .bad a e => .bad a e
def toks : Nat → Nat → List UInt8 → TR
  | 0, i, _ => .ok [⟨6, [], i⟩]
  | n + 1, i, l =>
    let k := skipN false l
    match next1 (l.drop k) with
    | .fin => .ok [⟨6, [], i + k⟩]
    | .bad a e => .bad (i + k + a) e
    | .tok kind t u => (toks n (i + k + u) ((l.drop k).drop u)).push ⟨kind, t, i + k⟩
theorem skipN_le : ∀ (b : Bool) (l : List UInt8), skipN b l ≤ l.length
  | b, [] => by cases b <;> simp [skipN]
  | false, c :: l => by
    have h1 := skipN_le false l
    have h2 := skipN_le true l
    simp only [skipN, List.length_cons]
    split
    · omega
    · split <;> omega
  | true, c :: l => by
    have h1 := skipN_le false l
    have h2 := skipN_le true l
    simp only [skipN, List.length_cons]
    split <;> omega
/-- one item within quotation marks -/
inductive IR where
  | ok (c : UInt8) (used : Nat)
  | bad (at' : Nat) (e : Int)
def item1 : List UInt8 → IR
  | [] => .bad 0 3
  | c :: l =>
    if c.toNat ≠ 92 then (if c.toNat < 32 ∨ 126 < c.toNat then .bad 0 2 else .ok c 1)
    else match l with
      | [] => .bad 1 3
      | d :: l2 =>
        if d.toNat = 34 ∨ d.toNat = 92 then .ok d 2
        else if d.toNat ≠ 120 then .bad 0 2
        else match l2 with
          | [] => .bad 2 3
          | x :: l3 => if digB 16 x then (match l3 with
              | [] => .bad 3 3
              | y :: _ => if digB 16 y then .ok (UInt8.ofNat (16 * hexV x + hexV y)) 4 else .bad 0 2)
            else .bad 0 2
theorem qu_item (c : UInt8) (l : List UInt8) (h : c.toNat ≠ 34) : qu (c :: l) = match item1 (c :: l) with | .ok d u => (qu ((c :: l).drop u)).push d u | .bad a e => .bad a e := by
  conv => lhs; unfold qu
  unfold item1
  rw [if_neg h]
  by_cases h92 : c.toNat ≠ 92
  · simp only [if_pos h92]
    split
    · rfl
    · rfl
  · simp only [if_neg h92]
    cases l with
    | nil => rfl
    | cons d l2 =>
      simp only []
      split
      · rfl
      · split
        · rfl
        · cases l2 with
          | nil => rfl
          | cons x l3 =>
            simp only []
            split
            · cases l3 with
              | nil => rfl
              | cons y l4 =>
                simp only []
                split <;> rfl
            · rfl
end Go.Proofs.Ytemagdpieebjlaa

/- Printed by a program of ours (vcgen.py) from the dump: the conditions of the functions, and that they suffice. Package regex: Compare, equal: the contracts. Printed by a program of ours (vcgen.py) from the dump: the conditions of the functions, and that they suffice. Package regex: countdown, proper, Valid, clone, limited: the contracts. Printed by a program of ours (vcgen.py) from the dump: the conditions of the functions, and that they suffice. Rows of trees of one's own: writing an element, cutting the end off. Package regex: the small closures of flat and forms: the contracts. Package slices over expressions: IndexFunc, ContainsFunc: the contracts. Package slices over expressions: DeleteFunc; package regex: flat: the contracts. Package regex: flat: the contract. The order of expressions; no program in sight. Expressions, plain: the order is one of equals; sorting, leaving out equal ones, and putting in one after the other. No program in sight. Printed by a program of ours (vcgen.py) from the dump: the conditions of the functions, and that they suffice. Package slices over expressions: insertionSortCmpFunc, CompactFunc; what is asked of SortFunc: the contracts. Package slices over expressions: CompactFunc: the contract. The normal form, plain; package regex: the closures of forms that join, and those of Not and Star: the contracts. Package regex: the forms of Not and Star; the functions by their kinds: the contracts. Printed by a program of ours (vcgen.py) from the dump: the conditions of the functions, and that they suffice. Package regex: forms: the contract. Package regex: normal, nullable: the contracts. Printed by a program of ours (vcgen.py) from the dump: the conditions of the functions, and that they suffice. Package enthymemelaw04: own, a tree of the reference as one of the package. Package enthymemeref04: Compare: the contract. Printed by a program of ours (vcgen.py) from the dump: the conditions of the functions, and that they suffice. -/
import Derived.Test.YtibaobaobnpdaaaGreatDoorU
set_option linter.unusedVariables false
set_option linter.unusedVariables false
set_option maxRecDepth 100000
set_option maxHeartbeats 2000000
namespace Go.Proofs.YtibaobaobnpdaaaGreatDoor
open Go Go.W
end Go.Proofs.YtibaobaobnpdaaaGreatDoor
namespace Go.Proofs.YtibaobaobnpdaaaGreatDoor
open Go Go.W

def cmpI (a b : Int) : Int := if a < b then -1 else if b < a then 1 else 0
def orI : List Int → Int
  | [] => 0
  | c :: l => if c ≠ 0 then c else orI l
mutual
def cmpR : Rx → Rx → Int
  | .mk k lo hi l, b => if orI [cmpI k b.k, cmpI lo.toNat b.lo.toNat, cmpI hi.toNat b.hi.toNat] ≠ 0 then orI [cmpI k b.k, cmpI lo.toNat b.lo.toNat, cmpI hi.toNat b.hi.toNat] else cmpL l b.l
def cmpL : List Rx → List Rx → Int
  | [], [] => 0
  | [], _ :: _ => -1
  | _ :: _, [] => 1
  | a :: l, b :: m => if cmpR a b ≠ 0 then cmpR a b else cmpL l m
end
end Go.Proofs.YtibaobaobnpdaaaGreatDoor
set_option linter.unusedVariables false
set_option maxRecDepth 100000
set_option maxHeartbeats 2000000
namespace Go.Proofs.YtibaobaobnpdaaaGreatDoor
open Go Go.W
end Go.Proofs.YtibaobaobnpdaaaGreatDoor
namespace Go.Proofs.YtibaobaobnpdaaaGreatDoor
open Go Go.W

section
variable {M : Nat → Prop} {w0 w : World} {L D : List En} {bs : List Nat}
theorem rdn_own {e : TypeId} {s : Sl} {vs : List Value} {b : Nat} (h : b ∈ (En.rdn 4 s vs).fp) : b ∈ (En.row e 4 s vs).fp := by
  have : b ∈ (if vs = [] then [] else blkL s) := h
  split at this
  · cases this
  · exact this
/-- a row of one's own becomes a tree's -/
theorem _root_.Go.W.LH.rowT (H : LH M w0 w L D) (i j : Nat) {e : TypeId} {s : Sl} {ts : List Rt} (k : Int) (lo hi : UInt8) (hi' : L[i]? = some (.row e 4 s (ts.flatMap Rt.c)) := by rfl) (hj : D[j]? = some (.trees ts) := by rfl) : LH M w0 w (L.eraseIdx i) (D ++ [Rt.row s ts] ++ [.tree (.mk k lo hi s ts)]) := by
  have H1 := H.freeze i (Rt.row s ts) hi' (OwnRow.rdn (H.get i hi')) fun b hb => rdn_own hb
  refine H1.addD _ (Fr.refl _ _) ?_ fun b hb => .inr (.inr ?_)
  · show Rt.P w _
    unfold Rt.P
    exact ⟨OwnRow.rdn (H.get i hi'), H.getD j hj⟩
  · have hb' := mem_nub.1 hb
    unfold Rt.fp at hb'
    rcases List.mem_append.1 hb' with hb' | hb'
    · exact ⟨_, List.mem_append_right _ (by simp), hb'⟩
    · exact ⟨_, List.mem_append_left _ (List.mem_of_getElem? hj), mem_nub.2 hb'⟩
end
/-! #### countdown, tooLarge -/
/-! #### proper, Valid -/
mutual
def goodR : Rx → Bool
  | .mk k lo hi l => !(k != 2 && (lo != 0 || hi != 0)) && (if k = 0 ∨ k = 1 then l.isEmpty else if k = 2 then l.isEmpty && decide (lo.toNat ≤ hi.toNat) else if k = 3 ∨ k = 4 ∨ k = 5 then goodL l else if k = 6 ∨ k = 7 then l.length == 1 && goodL l else false)
def goodL : List Rx → Bool
  | [] => true
  | t :: l => goodR t && goodL l
end
def validR (x : Rx) : Int := if 64 < x.sz then 4 else if goodR x then 0 else 1
/-! #### clone, limited -/
def noR : Rx := .mk 0 0 0 []
def limE (x : Rx) : Int := if 64 < x.sz then 4 else 0
def limR (x : Rx) : Rx := if 64 < x.sz then noR else x
end Go.Proofs.YtibaobaobnpdaaaGreatDoor
set_option linter.unusedVariables false
set_option maxRecDepth 100000
set_option maxHeartbeats 2000000
namespace Go.Proofs.YtibaobaobnpdaaaGreatDoor
open Go Go.W
namespace regex_forms_2
noncomputable abbrev X : Fx := ⟨Tryz.prog, Tryz.f172, [], []⟩
theorem ok (unit0_0 unit0_1 unit0_2 : Int) (unit0_3 : Sl) (zero1_0 zero1_1 zero1_2 : Int) (zero1_3 : Sl) (w : World) (R : Post) (h : nwV w (.cells #[.i unit0_0, .int .u8 unit0_1, .int .u8 unit0_2, unit0_3.v] ty_regex_Regex) fun w1 => 
  nwV w1 (.cells #[.i zero1_0, .int .u8 zero1_1, .int .u8 zero1_2, zero1_3.v] ty_regex_Regex) fun w2 => 
  R (.returned (.func (.func n_regex_forms_2_1) #[] #[.pointer (some (nb w)), .pointer (some (nb w1))])) w2) : Calls Tryz.prog n_regex_forms_2 #[.agg #[.i unit0_0, .int .u8 unit0_1, .int .u8 unit0_2, unit0_3.v], .agg #[.i zero1_0, .int .u8 zero1_1, .int .u8 zero1_2, zero1_3.v]] w R := callsX X [] h
end regex_forms_2
end Go.Proofs.YtibaobaobnpdaaaGreatDoor
namespace Go.Proofs.YtibaobaobnpdaaaGreatDoor
open Go Go.W

theorem addz (g k : Nat) : (⟨g, 0, none⟩ : Addr).add k = ⟨g, k, none⟩ := by
  unfold Addr.add
  split <;> simp_all
/-! #### Writing an element -/
end Go.Proofs.YtibaobaobnpdaaaGreatDoor
namespace Go.Proofs.YtibaobaobnpdaaaGreatDoor
open Go Go.W

/-- a tree in a variable that a closure holds -/
abbrev enU (b : Nat) (u : Rt) : En := .c b u.c ty_regex_Regex
end Go.Proofs.YtibaobaobnpdaaaGreatDoor
namespace Go.Proofs.YtibaobaobnpdaaaGreatDoor
open Go Go.W

end Go.Proofs.YtibaobaobnpdaaaGreatDoor
namespace Go.Proofs.YtibaobaobnpdaaaGreatDoor
open Go Go.W

section
variable {M : Nat → Prop} {w0 w : World} {L D : List En} {bs : List Nat}
/-- what is to be read does not lie in a row of one's own -/
theorem _root_.Go.W.LH.off (H : LH M w0 w L D) (i j : Nat) {e : TypeId} {sz : Nat} {s : Sl} {xs : List Value} {d : En} (hi : L[i]? = some (.row e sz s xs) := by rfl) (hj : D[j]? = some d := by rfl) : ∀ x ∈ blkL s, x ∉ d.fp := fun x hx hd =>
  H.dj d (List.mem_of_getElem? hj) x hd _ (List.mem_of_getElem? hi) hx
end
end Go.Proofs.YtibaobaobnpdaaaGreatDoor
namespace Go.Proofs.YtibaobaobnpdaaaGreatDoor
open Go Go.W

/-- the parts of a part, where it is of the same kind -/
def openT (x k : Rt) : List Rt := if k.k = x.k then k.l else [k]
/-- a list of parts, or of parts of parts, of a tree -/
structure Sub (x : Rt) (l : List Rt) : Prop where
  P : ∀ w : World, x.P w → ∀ t ∈ l, t.P w
  fp : ∀ t ∈ l, ∀ b ∈ t.fp, b ∈ x.fp
theorem Sub.part {x : Rt} {t : Rt} (h : t ∈ x.l) : Sub x [t] := ⟨fun w px t' ht => by
    simp at ht; subst ht; exact px.parts.2.mem h, fun t' ht b hb => by
    simp at ht; subst ht; exact Rt.fp_parts.2 (.inr (Rt.fps_iff.2 ⟨_, h, hb⟩))⟩
theorem Sub.open {x k : Rt} (h : k ∈ x.l) : Sub x (openT x k) := by
  unfold openT
  split
  · exact ⟨fun w px t ht => ((px.parts.2.mem h).parts.2).mem ht, fun t ht b hb => Rt.fp_parts.2 (.inr (Rt.fps_iff.2 ⟨k, h, Rt.fp_parts.2 (.inr (Rt.fps_iff.2 ⟨t, ht, hb⟩))⟩))⟩
  · exact .part h
theorem Sub.sub {x : Rt} {l m : List Rt} (h : Sub x l) (hs : ∀ t ∈ m, t ∈ l) : Sub x m := ⟨fun w px t ht => h.P w px t (hs t ht), fun t ht => h.fp t (hs t ht)⟩
theorem Sub.Ps {x : Rt} {l : List Rt} (h : Sub x l) {w : World} (px : x.P w) : Rt.Ps w l := Rt.ps_of (h.P w px)
theorem Sub.fps {x : Rt} {l : List Rt} (h : Sub x l) {b : Nat} (hb : b ∈ Rt.fps l) : b ∈ x.fp := by
  obtain ⟨t, ht, hb⟩ := Rt.fps_iff.1 hb
  exact h.fp t ht b hb
end Go.Proofs.YtibaobaobnpdaaaGreatDoor
namespace Go.Proofs.YtibaobaobnpdaaaGreatDoor
open Go Go.W

theorem cmpI_neg (a b : Int) : cmpI b a = -cmpI a b := by
  have s : ∀ a b : Int, (cmpI a b = -1 ∧ a < b) ∨ (cmpI a b = 1 ∧ b < a) ∨ (cmpI a b = 0 ∧ a = b) := fun a b => by
    unfold cmpI
    split
    · exact .inl ⟨rfl, by omega⟩
    · split
      · exact .inr (.inl ⟨rfl, by omega⟩)
      · exact .inr (.inr ⟨rfl, by omega⟩)
  rcases s a b with h1 | h1 | h1 <;> rcases s b a with h2 | h2 | h2 <;> omega
theorem orI_neg (c d : Int) (l m : List Int) (h : d = -c) (hl : orI m = -orI l) : orI (d :: m) = -orI (c :: l) := by
  show (if d ≠ 0 then d else orI m) = -(if c ≠ 0 then c else orI l)
  split
  · rw [if_pos (by omega)]; exact h
  · rw [if_neg (by omega)]; exact hl
theorem orI_one (c : Int) : orI [c] = c := by
  show (if c ≠ 0 then c else 0) = c
  split <;> omega
theorem cmpR_eq (k : Int) (lo hi : UInt8) (l : List Rx) (b : Rx) : cmpR (.mk k lo hi l) b = orI [cmpI k b.k, cmpI lo.toNat b.lo.toNat, cmpI hi.toNat b.hi.toNat, cmpL l b.l] := by
  unfold cmpR
  generalize cmpI k b.k = c0
  generalize cmpI lo.toNat b.lo.toNat = c1
  generalize cmpI hi.toNat b.hi.toNat = c2
  generalize cmpL l b.l = c3
  simp only [orI]
  by_cases h0 : c0 = 0
  · by_cases h1 : c1 = 0
    · by_cases h2 : c2 = 0
      · by_cases h3 : c3 = 0 <;> simp [h0, h1, h2, h3]
      · simp [h0, h1, h2]
    · simp [h0, h1]
  · simp [h0]
mutual
theorem cmpR_neg : ∀ a b : Rx, cmpR b a = -cmpR a b
  | .mk k lo hi l, .mk k' lo' hi' l' => by
    rw [cmpR_eq, cmpR_eq]
    exact orI_neg _ _ _ _ (cmpI_neg _ _) (orI_neg _ _ _ _ (cmpI_neg _ _) (orI_neg _ _ _ _ (cmpI_neg _ _) (by rw [orI_one, orI_one]; exact cmpL_neg l l')))
theorem cmpL_neg : ∀ a b : List Rx, cmpL b a = -cmpL a b
  | [], [] => by unfold cmpL; rfl
  | [], _ :: _ => by unfold cmpL; rfl
  | _ :: _, [] => by unfold cmpL; rfl
  | x :: l, y :: m => by
    have h1 := cmpR_neg x y
    have h2 := cmpL_neg l m
    show (if cmpR y x ≠ 0 then cmpR y x else cmpL m l) = -(if cmpR x y ≠ 0 then cmpR x y else cmpL l m)
    split
    · rw [if_pos (by omega)]; exact h1
    · rw [if_neg (by omega)]; exact h2
end
end Go.Proofs.YtibaobaobnpdaaaGreatDoor
namespace Go.Proofs.YtibaobaobnpdaaaGreatDoor
open Go Go.W

def insX (x : Rx) : List Rx → List Rx
  | [] => [x]
  | y :: p => if cmpR x y < 0 then y :: insX x p else x :: y :: p
def sortX (l : List Rx) : List Rx := (l.foldl (fun p x => insX x p) []).reverse
def compGoX (p : Rx) : List Rx → List Rx
  | [] => []
  | x :: l => if cmpR x p == 0 then compGoX x l else x :: compGoX x l
def compX : List Rx → List Rx
  | [] => []
  | a :: l => a :: compGoX a l
/-! #### The order -/
theorem cmp_self (a : Rx) : cmpR a a = 0 := by have := cmpR_neg a a; omega
abbrev Inc (l : List Rx) : Prop := l.Pairwise fun a b => cmpR a b < 0
theorem Inc.nodup {l : List Rx} (h : Inc l) : l.Nodup := List.nodup_iff_pairwise_ne.2 (h.imp fun {a b} hab e => by subst e; rw [cmp_self] at hab; omega)
/-! #### Sorting -/
/-! #### Putting in one after the other -/
/-! #### Measures -/
/-- a measure, added up -/
def ms (μ : Rx → Nat) : List Rx → Nat
  | [] => 0
  | a :: l => μ a + ms μ l
/-! #### Few parts -/
end Go.Proofs.YtibaobaobnpdaaaGreatDoor
set_option linter.unusedVariables false
set_option maxRecDepth 100000
set_option maxHeartbeats 2000000
namespace Go.Proofs.YtibaobaobnpdaaaGreatDoor
open Go Go.W
end Go.Proofs.YtibaobaobnpdaaaGreatDoor
namespace Go.Proofs.YtibaobaobnpdaaaGreatDoor
open Go Go.W

/-! #### The plain sort -/
/-! #### insertionSort -/
/-! #### SortFunc -/
end Go.Proofs.YtibaobaobnpdaaaGreatDoor
namespace Go.Proofs.YtibaobaobnpdaaaGreatDoor
open Go Go.W

end Go.Proofs.YtibaobaobnpdaaaGreatDoor
namespace Go.Proofs.YtibaobaobnpdaaaGreatDoor
open Go Go.W

/-! #### Plain -/
def flatX (k : Int) (l : List Rx) (u : Rx) : List Rx := (l.flatMap fun c => if c.k = k then c.l else [c]).filter fun t => !(cmpR t u == 0)
/-- what is left of the parts, by their number -/
def fewX (k : Int) (u : Rx) : List Rx → Rx
  | [] => u
  | [a] => a
  | l => .mk k 0 0 l
def joinX (k : Int) (l : List Rx) (u z : Rx) : Rx := if (flatX k l u).any (fun t => cmpR t z == 0) then z else fewX k u (if k = 3 then flatX k l u else compX (sortX (flatX k l u)))
def emptyX : Rx := .mk 1 0 0 []
def everyX : Rx := .mk 6 0 0 [noR]
def starX (lo hi : UInt8) (l : List Rx) : Rx := match l with
  | [] => noR
  | c :: l' => if c.k = 0 ∨ c.k = 1 then emptyX else if c.k = 7 ∨ cmpR c everyX = 0 then c else .mk 7 lo hi (c :: l')
def notX (lo hi : UInt8) (l : List Rx) : Rx := match l with
  | [] => noR
  | c :: l' => if c.k = 6 then (match c.l with | [] => noR | d :: _ => d) else .mk 6 lo hi (c :: l')
def formX : Rx → Rx
  | .mk k lo hi l => if k = 3 then joinX 3 l emptyX noR else if k = 4 then joinX 4 l noR everyX else if k = 5 then joinX 5 l everyX noR else if k = 6 then notX lo hi l else if k = 7 then starX lo hi l else .mk k lo hi l
/-- a tree that is returned: new, or a part of what was there -/
def RetF (old : List Nat) (w : World) (x : Rx) (r : Ending) (w' : World) : Prop := ∃ t : Rt, r = .returned t.v ∧ t.rx = x ∧ t.P w' ∧ ∀ b ∈ t.fp, w.heap.size ≤ b ∨ b ∈ old
/-! #### The closures -/
end Go.Proofs.YtibaobaobnpdaaaGreatDoor
namespace Go.Proofs.YtibaobaobnpdaaaGreatDoor
open Go Go.W

/-! #### The functions, by their kinds -/
/-- what forms returns -/
structure Fm where
  m : Nat
  es : Array MapEntry
  clock : Nat
  ms : List (Int × Value)
  cs : List (Nat × Rt)
  s : Sl
def noT : Rt := .mk 0 0 0 ⟨none, 0, 0⟩ []
def emptyT : Rt := .mk 1 0 0 ⟨none, 0, 0⟩ []
def Fm.ev (F : Fm) : Rt := .mk 6 0 0 F.s [noT]
def joinF (a b : Nat) : Value := .func (.func n_regex_forms_2_1) #[] #[.pointer (some (at0 a)), .pointer (some (at0 b))]
def selfF : Value := .func (.func n_regex_forms_1) #[] #[]
/-- an entry is right -/
def GoodE (cs : List (Nat × Rt)) (ev : Rt) (k : Int) (v : Value) : Prop :=
  ((k = 0 ∨ k = 1 ∨ k = 2) ∧ v = selfF) ∨ (∃ u z a b, ((k = 3 ∧ u = emptyT ∧ z = noT) ∨ (k = 4 ∧ u = noT ∧ z = ev) ∨ (k = 5 ∧ u = ev ∧ z = noT)) ∧ v = joinF a b ∧ (a, u) ∈ cs ∧ (b, z) ∈ cs) ∨
  (k = 6 ∧ v = .func (.func n_regex_forms_3) #[] #[]) ∨ ∃ a b, k = 7 ∧ v = .func (.func n_regex_forms_4) #[] #[.pointer (some (at0 a)), .pointer (some (at0 b))] ∧ (a, emptyT) ∈ cs ∧ (b, ev) ∈ cs
section
variable {F : Fm} {w : World}
theorem RetF.sub {old old' : List Nat} {x : Rx} {r : Ending} {w' : World} (h : RetF old w x r w') (hs : ∀ b ∈ old, b ∈ old') : RetF old' w x r w' := by
  obtain ⟨t, h1, h2, h3, h4⟩ := h
  exact ⟨t, h1, h2, h3, fun b hb => (h4 b hb).imp id (hs b)⟩
end
end Go.Proofs.YtibaobaobnpdaaaGreatDoor
set_option linter.unusedVariables false
set_option maxRecDepth 100000
set_option maxHeartbeats 2000000
namespace Go.Proofs.YtibaobaobnpdaaaGreatDoor
open Go Go.W
namespace regex_forms
noncomputable def C0 : Code := (Tryz.f154.body).getD .skip
noncomputable def C1:=C0.sn
noncomputable def C2:=C1.sn
noncomputable def C3:=C2.sn
noncomputable def C4:=C3.sn
noncomputable def C5:=C4.sn
/-- enthymeme/regex.forms -/
noncomputable def C6:=C5.sn
end regex_forms
end Go.Proofs.YtibaobaobnpdaaaGreatDoor
namespace Go.Proofs.YtibaobaobnpdaaaGreatDoor
open Go Go.W
set_option maxRecDepth 100000

theorem LH_perm {M : Nat → Prop} {w0 w : World} {L L' D : List En} (H : LH M w0 w L D) (h : L.Perm L') : LH M w0 w L' D :=
  ⟨H.fr, fun e he => H.own e (h.mem_iff.2 he), H.rd, fun e he => H.new e (h.mem_iff.2 he), (h.flatMap_right (·.fp)).nodup_iff.1 H.nd, fun e he b hb e' he' => H.dj e he b hb e' (h.mem_iff.2 he')⟩
theorem setB_ne {L : Nat → Bool} {i j : Nat} (h : j ≠ i) : setB L i j = L j := by
  have : Nat.beq j i = false := by rw [← Bool.not_eq_true, Nat.beq_eq]; exact h
  simp [setB, this]
theorem setB_eq {L : Nat → Bool} {i : Nat} : setB L i i = true := by simp [setB]
abbrev ptr (b : Nat) : Value := .pointer (some (at0 b))
abbrev twoF : Value := .func (.func n_regex_forms_2) #[] #[]
abbrev starF (a b : Nat) : Value := .func (.func n_regex_forms_4) #[] #[ptr a, ptr b]
abbrev evT (s : Sl) : Rt := .mk 6 0 0 s [noT]
def fmT (b1 b2 b4 : Nat) (ev : Rt) : List (Nat × Nat × Value) := [(0, 1, ptr b1), (0, 2, ptr b2), (0, 3, ptr b4), (0, 4, selfF), (0, 5, twoF), (2, 12, selfF), (4, 13, selfF), (6, 14, selfF), (8, 15, twoF), (9, 16, emptyT.v), (10, 17, noT.v), (13, 19, twoF), (14, 20, noT.v), (15, 21, ev.v), (18, 23, twoF), (19, 24, ev.v), (20, 25, noT.v), (24, 27, starF b2 b4)]
def insT : List (Nat × Int) := [(2, 0), (4, 1), (6, 2), (11, 3), (16, 4), (21, 5), (22, 6), (24, 7)]
def joinT3 (ev : Rt) : List (Nat × Nat × Rt × Rt) := [(10, 18, emptyT, noT), (15, 22, noT, ev), (20, 26, ev, noT)]
def Joined (ev : Rt) (cs : List (Nat × Rt)) (L : Nat → Bool) (E : Env) : Prop := ∀ q ∈ joinT3 ev, L q.1 = true → ∃ a b, E.get? q.2.1 = some (joinF a b) ∧ (a, q.2.2.1) ∈ cs ∧ (b, q.2.2.2) ∈ cs
def MapSt (ev : Rt) (cs : List (Nat × Rt)) (L : Nat → Bool) (E : Env) (mp : List En) : Prop := (L 0 = false ∧ mp = [] ∧ (∀ q ∈ insT, L q.1 = false) ∧ L 25 = false ∧ L 26 = false) ∨
  (L 0 = true ∧ ∃ (m : Nat) (es : Array MapEntry) (clock : Nat) (ms : List (Int × Value)), mp = [.ob m (.map es clock)] ∧ E.get? 11 = some (.map (some m)) ∧ MapIs .i64 es ms ∧ (∀ k v, mget ms k = some v → GoodE cs ev k v) ∧ (∀ q ∈ insT, (mget ms q.2).isSome = L q.1) ∧
    (L 25 = true → E.get? 28 = some (.map (some m))) ∧ (L 26 = true → E.get? 0 = some (.map (some m))))
abbrev fmBase (b1 b2 b4 : Nat) (s : Sl) : List En := [enU b1 noT, enU b2 emptyT, .row ty_regex_Regex 4 s noT.c, enU b4 (evT s)]
structure FJ (w0 : World) (b1 b2 b4 : Nat) (s : Sl) (L : Nat → Bool) (E : Env) (w : World) : Prop where
  st : Held0 (fmT b1 b2 b4 (evT s)) L E
  hp : ∃ (mp X : List En) (cs : List (Nat × Rt)), LH F0 w0 w (mp ++ (fmBase b1 b2 b4 s ++ X)) [] ∧ (∀ p ∈ cs, enU p.1 p.2 ∈ fmBase b1 b2 b4 s ++ X) ∧ (b2, emptyT) ∈ cs ∧ (b4, evT s) ∈ cs ∧ Joined (evT s) cs L E ∧ MapSt (evT s) cs L E mp
theorem GoodE.mono {cs cs' : List (Nat × Rt)} {ev : Rt} {k : Int} {v : Value} (h : GoodE cs ev k v) (hs : ∀ p ∈ cs, p ∈ cs') : GoodE cs' ev k v := by
  rcases h with h | ⟨u, z, a, b, h1, h2, h3, h4⟩ | h | ⟨a, b, h1, h2, h3, h4⟩
  · exact .inl h
  · exact .inr (.inl ⟨u, z, a, b, h1, h2, hs _ h3, hs _ h4⟩)
  · exact .inr (.inr (.inl h))
  · exact .inr (.inr (.inr ⟨a, b, h1, h2, hs _ h3, hs _ h4⟩))
section
variable {w0 w : World} {b1 b2 b4 : Nat} {s : Sl} {L : Nat → Bool} {E : Env}
theorem MapSt.keep {ev : Rt} {cs cs' : List (Nat × Rt)} {mp : List En} (h : MapSt ev cs L E mp) (hs : ∀ p ∈ cs, p ∈ cs') (i d : Nat) (v : Value) (hi : ∀ j ∈ [0, 25, 26, 2, 4, 6, 11, 16, 21, 22, 24], j ≠ i) (hd : ∀ t ∈ [11, 28, 0], d ≠ t) : MapSt ev cs' (setB L i) (E.put (some d) v) mp := by
  have hn : ∀ q ∈ insT, setB L i q.1 = L q.1 := fun q hq => setB_ne (hi _ (by simp only [insT, List.mem_cons, List.not_mem_nil, or_false] at hq; rcases hq with rfl | rfl | rfl | rfl | rfl | rfl | rfl | rfl <;> simp))
  have n0 : setB L i 0 = L 0 := setB_ne (hi 0 (by simp))
  have n25 : setB L i 25 = L 25 := setB_ne (hi 25 (by simp))
  have n26 : setB L i 26 = L 26 := setB_ne (hi 26 (by simp))
  rcases h with ⟨h0, h1, h2, h3, h4⟩ | ⟨h0, m, es, clock, ms, h1, h2, h3, h4, h5, h6, h7⟩
  · exact .inl ⟨by rw [n0, h0], h1, fun q hq => by rw [hn q hq, h2 q hq], by rw [n25, h3], by rw [n26, h4]⟩
  · refine .inr ⟨by rw [n0, h0], m, es, clock, ms, h1, ?_, h3, fun k v hk => (h4 k v hk).mono hs, fun q hq => by rw [hn q hq, h5 q hq], fun h => ?_, fun h => ?_⟩
    · rw [get_put_ne (hd 11 (by simp)), h2]
    · rw [get_put_ne (hd 28 (by simp)), h6 (n25 ▸ h)]
    · rw [get_put_ne (hd 0 (by simp)), h7 (n26 ▸ h)]
theorem FJ.stat (h : FJ w0 b1 b2 b4 s L E w) (i d : Nat) (v : Value) (h1 : ∀ q ∈ fmT b1 b2 b4 (evT s), q.1 = i + 1 → q = (i + 1, d, v)) (h2 : ∀ q ∈ fmT b1 b2 b4 (evT s), q.2.1 = d → q.1 = i + 1)
    (hi : ∀ j ∈ [0, 25, 26, 2, 4, 6, 11, 16, 21, 22, 24], j ≠ i) (hi' : ∀ j ∈ [10, 15, 20], j ≠ i) (hd : ∀ t ∈ [11, 28, 0], d ≠ t) (hd' : ∀ t ∈ [18, 22, 26], d ≠ t) : FJ w0 b1 b2 b4 s (setB L i) (E.put (some d) v) w := by
  obtain ⟨mp, X, cs, H, hc, hm, hv, hj, hms⟩ := h.hp
  refine ⟨h.st.fill h1 h2, mp, X, cs, H, hc, hm, hv, fun q hq hL => ?_, hms.keep (fun _ h => h) i d v hi hd⟩
  have e : setB L i q.1 = L q.1 ∧ d ≠ q.2.1 := by
    simp only [joinT3, List.mem_cons, List.not_mem_nil, or_false] at hq
    rcases hq with rfl | rfl | rfl
    · exact ⟨setB_ne (hi' 10 (by simp)), hd' 18 (by simp)⟩
    · exact ⟨setB_ne (hi' 15 (by simp)), hd' 22 (by simp)⟩
    · exact ⟨setB_ne (hi' 20 (by simp)), hd' 26 (by simp)⟩
  rw [get_put_ne e.2]
  exact hj q hq (e.1 ▸ hL)
theorem FJ.call (h : FJ w0 b1 b2 b4 s L E w) (i d : Nat) (u z : Rt) (hq0 : (i, d, u, z) ∈ joinT3 (evT s)) : Calls Tryz.prog n_regex_forms_2 #[u.v, z.v] w fun e w' => ∃ v, e = .returned v ∧ FJ w0 b1 b2 b4 s (setB L i) (E.put (some d) v) w' := by
  obtain ⟨mp, X, cs, H, hc, hm, hev, hj, hms⟩ := h.hp
  have hid : (i = 10 ∧ d = 18) ∨ (i = 15 ∧ d = 22) ∨ (i = 20 ∧ d = 26) := by
    simp only [joinT3, List.mem_cons, List.not_mem_nil, or_false, Prod.mk.injEq] at hq0
    omega
  refine regex_forms_2.ok _ _ _ _ _ _ _ _ w _ (H.nw fun w1 hs1 H1 => H1.nw fun w2 hs2 H2 => ⟨joinF w.heap.size w1.heap.size, rfl, h.st.pass ?_ ?_, mp, X ++ [enU w.heap.size u, enU w1.heap.size z], (w.heap.size, u) :: (w1.heap.size, z) :: cs, ?_, ?_, by simp [hm], by simp [hev], fun q hq hL => ?_, hms.keep (fun p hp => by simp [hp]) i d _ ?_ ?_⟩)
  · intro q hq
    simp only [fmT, List.mem_cons, List.not_mem_nil, or_false] at hq
    rcases hq with rfl | rfl | rfl | rfl | rfl | rfl | rfl | rfl | rfl | rfl | rfl | rfl | rfl | rfl | rfl | rfl | rfl | rfl <;> simp only <;> omega
  · intro q hq he
    have he : d = q.2.1 := Option.some.inj he
    simp only [fmT, List.mem_cons, List.not_mem_nil, or_false] at hq
    rcases hq with rfl | rfl | rfl | rfl | rfl | rfl | rfl | rfl | rfl | rfl | rfl | rfl | rfl | rfl | rfl | rfl | rfl | rfl <;> simp only at he <;> omega
  · have e : mp ++ (fmBase b1 b2 b4 s ++ (X ++ [enU w.heap.size u, enU w1.heap.size z])) = mp ++ (fmBase b1 b2 b4 s ++ X) ++ [enU w.heap.size u] ++ [enU w1.heap.size z] := by simp
    rw [e]
    exact H2
  · intro p hp
    rcases List.mem_cons.1 hp with rfl | hp
    · simp
    rcases List.mem_cons.1 hp with rfl | hp
    · simp
    rw [← List.append_assoc]
    exact List.mem_append_left _ (hc p hp)
  · by_cases hqi : q.1 = i
    · have : q = (i, d, u, z) := by
        simp only [joinT3, List.mem_cons, List.not_mem_nil, or_false, Prod.mk.injEq] at hq0
        simp only [joinT3, List.mem_cons, List.not_mem_nil, or_false] at hq
        rcases hq with rfl | rfl | rfl <;> simp only at hqi <;> rcases hq0 with ⟨rfl, rfl, rfl, rfl⟩ | ⟨rfl, rfl, rfl, rfl⟩ | ⟨rfl, rfl, rfl, rfl⟩ <;> first | rfl | (exact absurd hqi (by decide))
      subst this
      exact ⟨_, _, get_put, by simp, by simp⟩
    · have hne : d ≠ q.2.1 := by
        simp only [joinT3, List.mem_cons, List.not_mem_nil, or_false] at hq
        rcases hq with rfl | rfl | rfl <;> simp only at hqi ⊢ <;> omega
      obtain ⟨a, b, h1, h2, h3⟩ := hj q hq (by rwa [setB_ne hqi] at hL)
      exact ⟨a, b, by rw [get_put_ne hne, h1], by simp [h2], by simp [h3]⟩
  · intro j hj'
    simp only [List.mem_cons, List.not_mem_nil, or_false] at hj'
    omega
  · intro j hj'
    simp only [List.mem_cons, List.not_mem_nil, or_false] at hj'
    omega
/-- a load of one of the three trees -/
theorem FJ.ld (h : FJ w0 b1 b2 b4 s L E w) {u : Rt} {b : Nat} (hu : enU b u ∈ fmBase b1 b2 b4 s) {K : Value → Prop} (hk : K u.v) : ldVC Tryz.prog ty_regex_Regex (at0 b) w fun v _ => K v := by
  obtain ⟨mp, X, cs, H, _⟩ := h.hp
  have hb : w.heap[b]? = some (.cells u.c.toArray ty_regex_Regex (0, 0)) := H.own (enU b u) (List.mem_append_right _ (List.mem_append_left _ hu))
  have c0 := cellAt (p := at0 b) (i := 0) (v := .int .i64 u.k) hb rfl rfl
  have c1 := cellAt (p := at0 b) (i := 1) (v := .int .u8 (u.lo.toNat : Int)) hb rfl rfl
  have c2 := cellAt (p := at0 b) (i := 2) (v := .int .u8 (u.hi.toNat : Int)) hb rfl rfl
  have c3 := cellAt (p := at0 b) (i := 3) (v := u.s.v) hb rfl rfl
  have e : (ldVC Tryz.prog ty_regex_Regex (at0 b) w fun v _ => K v) = (∃ n0 : Int, ∃ n1 : Int, ∃ n2 : Int, ∃ n3 : Sl, w.cell? ((at0 b).add 0) = some (.int .i64 n0) ∧ w.cell? ((at0 b).add 1) = some (.int .u8 n1) ∧ w.cell? ((at0 b).add 2) = some (.int .u8 n2) ∧ w.cell? ((at0 b).add 3) = some n3.v ∧ K (.agg #[.int .i64 n0, .int .u8 n1, .int .u8 n2, n3.v])) := by kernel_rfl
  rw [e]
  exact ⟨_, _, _, u.s, c0, c1, c2, c3, hk⟩
end
end Go.Proofs.YtibaobaobnpdaaaGreatDoor
namespace Go.Proofs.YtibaobaobnpdaaaGreatDoor
open Go Go.W

mutual
def normX : Rx → Rx | .mk k lo hi l => formX (.mk k lo hi (normXs l))
def normXs : List Rx → List Rx
  | [] => []
  | a :: l => normX a :: normXs l
end
/-! #### nullable -/
end Go.Proofs.YtibaobaobnpdaaaGreatDoor
set_option linter.unusedVariables false
set_option maxRecDepth 100000
set_option maxHeartbeats 2000000
namespace Go.Proofs.YtibaobaobnpdaaaGreatDoor
open Go Go.W
end Go.Proofs.YtibaobaobnpdaaaGreatDoor
namespace Go.Proofs.YtibaobaobnpdaaaGreatDoor
open Go Go.W

end Go.Proofs.YtibaobaobnpdaaaGreatDoor
set_option linter.unusedVariables false
set_option maxRecDepth 100000
set_option maxHeartbeats 2000000
namespace Go.Proofs.YtibaobaobnpdaaaGreatDoor
open Go Go.W
end Go.Proofs.YtibaobaobnpdaaaGreatDoor

/- Conditions of whole functions, computed and proved sound once. No program in sight. Printed by a program of ours (vcgen.py) from the dump: the conditions of the functions, and that they suffice. Bytes, numbers, strings and rows: what many packages share. Contracts of functions that many packages share. Package wire in plain words: varints, and what a reader does. No program in sight. Encodings of numbers, texts and lists. No program in sight. Printed by a program of ours (vcgen.py) from the dump: the conditions of the functions, and that they suffice. Printed by a program of ours (vcgen.py) from the dump: the conditions of the functions, and that they suffice. Package wire: what a Writer holds, and the contracts of its methods. More about things of one's own. No program in sight. Trees in memory: expressions with the rows of their parts. No program in sight. -/
import Derived.Test.YtibaobaobnpdaaaGreatDoorW
import Derived.KernelRfl
import Derived.Test.YtibaobaobnpdaaaGreatDoorProg
import Derived.Lib.AppendStr
import Derived.Laws.IdiomStrings
import Derived.IntWalk
set_option linter.unusedVariables false
set_option linter.unusedVariables false
namespace Go.W

/-! ### Conditions of whole codes, the variables that nobody else sees left out -/
abbrev Lv := List (Nat × List Value × TypeId)
/-- slots that hold the address of a variable: slot, variable, cell -/
abbrev Sv := List (Nat × Option (Nat × Nat))
def Sv.get? : Sv → Nat → Option (Nat × Nat)
  | [], _ => none
  | (k, v) :: S, t => bif Nat.beq k t then v else Sv.get? S t
def Sv.at (S : Sv) : Operand → Option (Nat × Nat)
  | .tmp t => S.get? t
  | _ => none
def Sv.put (S : Sv) (d : Option Nat) (o : Option (Nat × Nat)) : Sv := match d with
  | some d => (d, o) :: S
  | none => S
/-- what is known at a point: temporaries, the variables, the world but for the variables (d: they may have changed since) -/
structure TS where
  E : Env
  S : Sv
  L : Lv
  w : World
  d : Bool
/-- what is held: the operation, the variable that it is about, the fact -/
abbrev HT := List (Nat × Option Nat × (World → Prop))
def syn (s : TS) (K : TS → Prop) : Prop := match s.d with
  | true => loc (bsOf s.L) s.w fun w => K ⟨s.E, s.S, s.L, w, false⟩
  | false => K s
def shp : Value → Value → Bool
  | .int k _, .int k' _ => k == k'
  | .bool _, .bool _ => true
  | .string _, .string _ => true
  | .slice _ _ _, .slice _ _ _ => true
  | .pointer _, .pointer _ => true
  | .map _, .map _ => true
  | .int .., _ | .bool _, _ | .string _, _ | .slice .., _ | .pointer _, _ | .map _, _ => false
  | _, _ => true
def shps : List Value → List Value → Bool
  | [], [] => true
  | z :: zs, v :: vs => shp z v && shps zs vs
  | _, _ => false
/-- a load of a variable, from a cell on -/
def ldT (P : Program) (T : TypeId) (cs : List Value) (j : Nat) (K : Value → Prop) : Prop :=
  AndT (aggOk P T) <| match zeroOf P T with
  | .agg zs => AndT (shps zs.toList ((cs.drop j).take zs.size)) (K (.agg ((cs.drop j).take zs.size).toArray))
  | .nilFunc => False
  | z => match cs[j]? with
    | some v => AndT (shp z v) (K v)
    | none => False
def fieldOff (P : Program) (T : TypeId) (f : Nat) : Option Nat := match P.underlying T with
  | some (.struct fs) => match fs[f]? with
    | some f => match P.info? f.type with
      | some i => bif Nat.beq i.size 0 then none else some f.offset
      | none => none
    | none => none
  | _ => none
/-- calm operations that read memory -/
def worldly0 (P : Program) (o : Oper) : Bool := match o.op with
  | .load .. | .lookup .. => true
  | .convert s d _ => match P.underlying s, P.underlying d with
    | some (.slice _), some .string => true
    | some (.pointer _), some .unsafePointer => true
    | some .unsafePointer, some (.pointer _) => true
    | _, _ => false
  | .binOp .neq T _ y _ => bif isConst y then false else match P.underlying T with
    | some (.pointer _) => true
    | _ => false
  | .call { callee := .builtin .len, args, argTypes } => match args.toList, argTypes.toList with
    | [_], [T] => match P.underlying T with
      | some (.map _ _) => true
      | _ => false
    | _, _ => false
  | _ => false
def worldly (P : Program) (o : Oper) : Bool := ifcOp P o || worldly0 P o
def genT (P : Program) (o : Oper) (s : TS) (K : Value → Option (Nat × Nat) → List (Option Nat × (World → Prop)) → TS → Prop) : Prop :=
  bif worldly P o then syn s fun s => calmVC P o s.E s.w fun v Ss => K v none (Ss.map fun S => (none, S)) s else calmVC P o s.E s.w fun v Ss => K v none (Ss.map fun S => (none, S)) s
def calmT (P : Program) (o : Oper) (s : TS) (K : Value → Option (Nat × Nat) → List (Option Nat × (World → Prop)) → TS → Prop) : Prop :=
  match o.op with
  | .load T x => match s.S.at x with
    | some (i, j) => match s.L[i]? with
      | some X => ldT P T X.2.1 j fun v => K v none [(some i, fun w => (loadVar T ((at0 X.1).add j)).run P w = .ok v w)] s
      | none => False
    | none => genT P o s K
  | .move x | .assign x | .nilCheck x => match s.S.at x with
    | some q => K ((s.E.val x).getD undef) (some q) [] s
    | none => genT P o s K
  | .fieldAddr T x f => match s.S.at x with
    | some (i, j) => match fieldOff P T f, s.L[i]? with
      | some k, some X => K (.pointer (some ((at0 X.1).add (j + k)))) (some (i, j + k)) [] s
      | _, _ => False
    | none => genT P o s K
  | _ => genT P o s K
def keptT (L : Lv) (w w' : World) (p : Prop) : Prop := match L with
  | [] => p
  | L => kept (bsOf L) w w' ∧ p
def setMany : List Value → Nat → List Value → List Value
  | cs, _, [] => cs
  | cs, j, v :: vs => setMany (cs.set j v) (j + 1) vs
def isLoc (lv : List Nat) (d : Option Nat) : Bool := match d with
  | some d => lv.any (Nat.beq d)
  | none => false
/-- a store elsewhere leaves the variables alone, cell by cell -/
def stKs (bs : List Nat) (p : Addr) : List Value → Nat → World → (World → Prop) → Prop
  | [], _, w, K => K w
  | v :: vs, i, w, K => stV w (p.add i) v fun w1 => kept bs w w1 ∧ stKs bs p vs (i + 1) w1 K
def newT (s : TS) (cs : List Value) (T : TypeId) (K : Value → Option (Nat × Nat) → Option Nat → TS → Prop) : Prop :=
  newV (bsOf s.L) s.w fun b w' => K (.pointer (some (at0 b))) (some (s.L.length, 0)) none ⟨s.E, s.S, s.L ++ [(b, cs, T)], w', false⟩
/-- a call that leaves the variables alone -/
def callT (P : Program) (f : FuncId) (args : Array Value) (z : Value) (s : TS) (K : Value → World → Prop) : Prop := match s.L with
  | [] => callVC P f args z s.w K
  | L => callF (bsOf L) P f args s.w fun e w' => exAny z fun v => e = .returned v ∧ K v w'
def effT (P : Program) (lv : List Nat) (draw : Bool) (o : Oper) (s : TS) (K : Value → Option (Nat × Nat) → Option Nat → TS → Prop) : Prop :=
  match o.op with
  | .store T x y => match s.S.at x with
    | some (i, j) => match s.L[i]?, s.E.val y with
      | some X, some v => AndT (v.cells.size == (match P.info? T with | some i => i.size | none => 0) && v.cells.toList.all oneCell && (P.info? T).isSome && Nat.ble (j + v.cells.size) X.2.1.length) (K undef none (some i) ⟨s.E, s.S, s.L.set i (X.1, setMany X.2.1 j v.cells.toList, X.2.2), s.w, true⟩)
      | _, _ => False
    | none => syn s fun s => match s.L with
      | [] => effVC P o s.E s.w fun v w' => K v none none ⟨s.E, s.S, s.L, w', false⟩
      | L => match s.E.val x, s.E.val y with
        | some (.pointer (some p)), some v => AndT (v.cells.size == (match P.info? T with | some i => i.size | none => 0) && v.cells.toList.all oneCell && (P.info? T).isSome) (stKs (bsOf L) p v.cells.toList 0 s.w fun w' => K undef none none ⟨s.E, s.S, s.L, w', false⟩)
        | _, _ => False
  | .alloc T => bif isLoc lv o.dst then AndT ((P.info? T).bind (·.zero)).isSome (newT s (zeroOf P T).cells.toList T K) else syn s fun s => effVC P o s.E s.w fun v w' => K v none none ⟨s.E, s.S, s.L, w', false⟩
  | .box T x => bif isLoc lv o.dst then (match s.E.val x with
      | some v => newT s v.cells.toList T K
      | none => False) else syn s fun s => effVC P o s.E s.w fun v w' => K v none none ⟨s.E, s.S, s.L, w', false⟩
  | .buildSlice .. | .makeMap .. => syn s fun s => effVC P o s.E s.w fun v w' => K v none none ⟨s.E, s.S, s.L, w', false⟩
  | .call { callee := .value (.func f), args, .. } => syn s fun s => AndT (s.E.covers o) (bif callable P f then callT P f (args.map s.E.ev) (zeroOf P o.type) s fun v w' => K v none none ⟨s.E, s.S, s.L, w', false⟩
      else extVC P f (args.map s.E.ev) (zeroOf P o.type) s.w fun v w' => keptT s.L s.w w' (K v none none ⟨s.E, s.S, s.L, w', false⟩))
  | .call { callee := .value (.tmp t), args, .. } => syn s fun s => AndT (s.E.covers o) (match s.E.get? t with
      | some (.func (.func f) first captured) => AndT (callable P f) (callT P f (first ++ args.map s.E.ev ++ captured) (zeroOf P o.type) s fun v w' => K v none none ⟨s.E, s.S, s.L, w', false⟩)
      | _ => False)
  | _ => syn s fun s => (bif draw then effVC else effVCy) P o s.E s.w fun v w' => keptT s.L s.w w' (K v none none ⟨s.E, s.S, s.L, w', false⟩)
def heldT (ops : Array Oper) (j : Nat) (w : World) : HT → List Prop
  | [] => []
  | (i, f, S) :: H => bif ordT ops i j || f.isSome then heldT ops j w H else S w :: heldT ops j w H
def dropT (ops : Array Oper) (j : Nat) : HT → HT
  | [] => []
  | (i, f, S) :: H => bif ordT ops i j then dropT ops j H else (i, f, S) :: dropT ops j H
/-- what is held of others is said again -/
def reHeld (ops : Array Oper) (j : Nat) (s : TS) (H : HT) (K : TS → Prop) : Prop :=
  bif H.any (fun p => !(ordT ops p.1 j) && p.2.1.isNone) then syn s fun s => andL (heldT ops j s.w H) (K s) else K s
def stepT (P : Program) (lv : List Nat) (ops : Array Oper) (draw : Bool) (i : Nat) (o : Oper) (s : TS) (H : HT) (K : TS → HT → Prop) : Prop :=
  bif calm P o then calmT P o s fun v q Ss s => K ⟨s.E.put o.dst v, s.S.put o.dst q, s.L, s.w, s.d⟩ (bif draw then Ss.map (fun S => (i, S)) ++ H else H)
  else effT P lv draw o s fun v q m s => AndT (!((dropT ops i H).any fun p => m.isSome && p.2.1 == m)) (reHeld ops i s H fun s => K ⟨s.E.put o.dst v, s.S.put o.dst q, s.L, s.w, s.d⟩ (dropT ops i H))
def guardT (P : Program) (lv : List Nat) (ops : Array Oper) (draw : Bool) (i : Nat) (o : Oper) (d : Nat) (want t : Bool) (s : TS) (H : HT) (K : TS → HT → Prop) : Prop :=
  bif (t == want) then stepT P lv ops draw i o ⟨(d, .bool t) :: s.E, s.S, s.L, s.w, s.d⟩ H K else K ⟨Env.put ((d, .bool t) :: s.E) o.dst undef, s.S.put o.dst none, s.L, s.w, s.d⟩ (bif calm P o then H else dropT ops i H)
def runT (P : Program) (lv : List Nat) (ops : Array Oper) (draw : Bool) (K : TS → Prop) : List Nat → TS → HT → Prop
  | [], s, _ => K s
  | i :: l, s, H =>
    match ops[i]? with
    | none => False
    | some o => match o.guard with
      | none => stepT P lv ops draw i o s H fun s' H' => runT P lv ops draw K l s' H'
      | some (j, want) => match gslot ops j with
        | none => False
        | some d => match s.E.get? d with
          | some (.bool t) => sel t (guardT P lv ops draw i o d want true s H fun s' H' => runT P lv ops draw K l s' H') (guardT P lv ops draw i o d want false s H fun s' H' => runT P lv ops draw K l s' H')
          | some (.tuple _) => runT P lv ops draw K l ⟨Env.put s.E o.dst undef, s.S.put o.dst none, s.L, s.w, s.d⟩ (bif calm P o then H else dropT ops i H)
          | _ => False
/-- one of the operations of a drawn region -/
def headT (P : Program) (lv : List Nat) (ops : Array Oper) (i : Nat) (s : TS) (H : HT) (Kn : TS → HT → Prop) : Prop :=
  match ops[i]? with
  | none => False
  | some o => match o.guard with
    | none => stepT P lv ops true i o s H Kn
    | some (j, want) => match gslot ops j with
      | none => False
      | some d => match s.E.get? d with
        | some (.bool t) => sel t (guardT P lv ops true i o d want true s H Kn) (guardT P lv ops true i o d want false s H Kn)
        | some (.tuple _) => Kn ⟨Env.put s.E o.dst undef, s.S.put o.dst none, s.L, s.w, s.d⟩ (bif calm P o then H else dropT ops i H)
        | _ => False
/-- a tree of the orders -/
def trT (P : Program) (lv : List Nat) (ops : Array Oper) (K : TS → Prop) : Tr → TS → HT → Prop
  | .nil, s, _ => K s
  | .one i t, s, H => headT P lv ops i s H fun s' H' => trT P lv ops K t s' H'
  | .fork a b, s, H => trT P lv ops K a s H ∧ trT P lv ops K b s H
/-- these first -/
def Tr.sq : List Nat → Tr → Tr
  | [], t => t
  | i :: l, t => .one i (Tr.sq l t)
/-- an order is drawn -/
def drT (s : TS) (K : TS → Prop) : Prop := match s.L, s.d with
  | [], false => K ⟨s.E, s.S, s.L, s.w.drew, false⟩
  | _, _ => K ⟨s.E, s.S, s.L, s.w, true⟩

/-! ### Soundness of the engine, operation by operation -/
section
variable {P : Program}
structure Inv (s : TS) (w : World) : Prop where
  lc : LC w s.L
  rel : if s.d = true then Fr (· ∈ bsOf s.L) s.w w else w = s.w
  sl : ∀ t i j, s.S.get? t = some (i, j) → ∃ X, s.L[i]? = some X ∧ s.E.get? t = some (.pointer (some ((at0 X.1).add j)))
theorem Inv.syn {s : TS} {w : World} {K : TS → Prop} (I : Inv s w) (h : W.syn s K) : Inv ⟨s.E, s.S, s.L, w, false⟩ w ∧ K ⟨s.E, s.S, s.L, w, false⟩ := by
  refine ⟨⟨I.lc, by simp, I.sl⟩, ?_⟩
  unfold W.syn at h
  have hr := I.rel
  cases hd : s.d with
  | true =>
    rw [hd] at h hr
    exact h w (by simpa using hr)
  | false =>
    rw [hd] at h hr
    have : w = s.w := by simpa using hr
    obtain ⟨E, S, L, w0, d⟩ := s
    simp only at hd this
    subst hd this
    exact h
theorem Inv.fr {s : TS} {w : World} (I : Inv s w) : Fr (· ∈ bsOf s.L) s.w w := by
  have hr := I.rel
  cases hd : s.d with
  | true => rw [hd] at hr; simpa using hr
  | false =>
    rw [hd] at hr
    have : w = s.w := by simpa using hr
    subst this
    exact Fr.refl _ _
theorem Inv.at {s : TS} {w : World} (I : Inv s w) {x : Operand} {i j : Nat} (h : s.S.at x = some (i, j)) : ∃ X, s.L[i]? = some X ∧ s.E.val x = some (.pointer (some ((at0 X.1).add j))) ∧ w.heap[X.1]? = some (.cells X.2.1.toArray X.2.2 (0, 0)) := by
  cases x with
  | tmp t =>
    obtain ⟨X, h1, h2⟩ := I.sl t i j h
    exact ⟨X, h1, h2, I.lc.own i X h1⟩
  | _ => cases h
theorem shps_len : ∀ {zs vs : List Value}, shps zs vs = true → vs.length = zs.length
  | [], [], _ => rfl
  | z :: zs, v :: vs, h => by
    unfold shps at h
    rw [Bool.and_eq_true] at h
    simp [shps_len h.2]
theorem ldT_sound {T : TypeId} {cs : List Value} {j b : Nat} {ty : TypeId} {K : Value → Prop} (h : ldT P T cs j K) :
    ∃ v, K v ∧ ∀ w : World, w.heap[b]? = some (.cells cs.toArray ty (0, 0)) → (loadVar T ((at0 b).add j)).run P w = .ok v w := by
  obtain ⟨ho, h⟩ := AndT_elim h
  unfold aggOk at ho
  have one : ∀ (v : Value), cs[j]? = some v → (aggT P T == some false) = true → ∀ w : World, w.heap[b]? = some (.cells cs.toArray ty (0, 0)) → (loadVar T ((at0 b).add j)).run P w = .ok v w := fun v hv ha w hw =>
    run_loadVar_one (by simpa using ha) (cellAt (p := at0 b) hw rfl (by simpa using hv))
  cases hz : zeroOf P T with
  | agg zs =>
    rw [hz] at h ho
    simp only at h ho
    obtain ⟨hs, hk⟩ := AndT_elim h
    rw [Bool.and_eq_true] at ho
    obtain ⟨ha, hi⟩ := ho
    cases hin : P.info? T with
    | none => rw [hin] at hi; simp at hi
    | some i =>
      rw [hin] at hi
      simp at hi ha
      refine ⟨_, hk, fun w hw => run_loadVar_agg ha hin (by rw [hi, shps_len hs]; simp) fun k v hkv => ?_⟩
      rw [add_add]
      refine cellAt (p := at0 b) hw rfl ?_
      rw [List.getElem?_take] at hkv
      split at hkv
      · simpa using hkv
      · cases hkv
  | nilFunc => rw [hz] at h; exact h.elim
  | _ =>
    rw [hz] at h ho
    simp only at h
    split at h
    · rename_i v hv
      exact ⟨v, (AndT_elim h).2, one v hv ho⟩
    · exact h.elim
theorem calmVC_same {o : Oper} {E : Env} {w w' : World} {K : Value → List (World → Prop) → Prop} (h : worldly P o = false) (hc : calmVC P o E w K) : calmVC P o E w' K := by
  unfold worldly at h
  rw [Bool.or_eq_false_iff] at h
  obtain ⟨h0, h⟩ := h
  unfold calmVC at hc ⊢
  rw [h0] at hc ⊢
  simp only [cond_false] at hc ⊢
  unfold calmVC0 at hc ⊢
  unfold worldly0 at h
  split at hc <;> first | exact hc | skip
  all_goals rename_i hop
  all_goals rw [hop] at h
  · cases h
  · rename_i y _ hno
    cases y with
    | const c => exact (hno c rfl).elim
    | _ =>
      simp only [isConst, cond_false] at h
      split
      · rename_i hu _ _
        simp only [hu] at h
        cases h
      · split at hc
        · rename_i hu _ _
          simp only [hu] at h
          cases h
        · exact hc
  · cases h
  · split <;> first
      | (rename_i hs hd _; simp only [hs, hd] at h; cases h; done)
      | (split at hc <;> first
          | (rename_i hs hd _; simp only [hs, hd] at h; cases h; done)
          | exact hc)
  · split
    · rename_i ha ht
      simp only [ha, ht] at h hc
      split
      · rename_i hu _
        simp only [hu] at h
        cases h
      · split at hc
        · rename_i hu _
          simp only [hu] at h
          cases h
        · exact hc
    · rename_i hno
      split at hc
      · rename_i ha ht
        exact (hno _ _ ha ht).elim
      · exact hc
/-- what a calm operation is good for, the variables left out -/
def CalmS (P : Program) (o : Oper) (a : Act) (s : TS) (w : World) (v : Value) (q : Option (Nat × Nat)) (Ss : List (Option Nat × (World → Prop))) (s' : TS) : Prop :=
  Inv s' w ∧ s'.E = s.E ∧ s'.S = s.S ∧ s'.L = s.L ∧ Calm P o a.eval w v (Ss.map (·.2)) ∧
  (∀ p ∈ Ss, ∀ i, p.1 = some i → ∃ X, s.L[i]? = some X ∧ ∀ w' : World, w'.heap[X.1]? = some (.cells X.2.1.toArray X.2.2 (0, 0)) → p.2 w') ∧
  (∀ i j, q = some (i, j) → ∃ X, s.L[i]? = some X ∧ v = .pointer (some ((at0 X.1).add j)))
section
variable {o : Oper} {n : Cx} {a : Act} {s : TS} {w : World} {K : Value → Option (Nat × Nat) → List (Option Nat × (World → Prop)) → TS → Prop}
theorem genT_sound (hs : ∀ cs b, o.op ≠ .select cs b) (ha : Ag n a s.E) (I : Inv s w) (h : genT P o s K) : ∃ v q Ss s', K v q Ss s' ∧ CalmS P o a s w v q Ss s' := by
  have fin : ∀ (s' : TS), s'.E = s.E → s'.S = s.S → s'.L = s.L → Inv s' w → calmVC P o s.E w (fun v Ss => K v none (Ss.map fun S => (none, S)) s') → ∃ v q Ss s', K v q Ss s' ∧ CalmS P o a s w v q Ss s' := fun s' e1 e2 e3 I' hc => by
    obtain ⟨v, Ss, hv, hcalm⟩ := calmVC_sound hs ha hc
    refine ⟨v, none, _, s', hv, I', e1, e2, e3, ?_, fun p hp i hi => ?_, fun i j hq => by cases hq⟩
    · rw [List.map_map]
      have : ((fun x : Option Nat × (World → Prop) => x.2) ∘ fun S => ((none : Option Nat), S)) = id := rfl
      rw [this, List.map_id]
      exact hcalm
    · obtain ⟨S, _, rfl⟩ := List.mem_map.1 hp
      cases hi
  unfold genT at h
  cases hw : worldly P o with
  | true =>
    rw [hw, cond_true] at h
    obtain ⟨I', h'⟩ := I.syn h
    exact fin ⟨s.E, s.S, s.L, w, false⟩ rfl rfl rfl I' h'
  | false =>
    rw [hw, cond_false] at h
    exact fin s rfl rfl rfl I (calmVC_same hw h)
theorem calmT_sound (hs : ∀ cs b, o.op ≠ .select cs b) (ha : Ag n a s.E) (I : Inv s w) (h : calmT P o s K) : ∃ v q Ss s', K v q Ss s' ∧ CalmS P o a s w v q Ss s' := by
  have gen := fun h => genT_sound (P := P) (K := K) hs ha I h
  have same : ∀ (x : Operand) (q : Nat × Nat), s.S.at x = some q → (∀ w, (execOp a.eval o).run P w = .ok (.value (a.eval x)) w ∨ ∀ p, a.eval x ≠ .pointer (some p)) → K ((s.E.val x).getD undef) (some q) [] s → ∃ v q Ss s', K v q Ss s' ∧ CalmS P o a s w v q Ss s' := fun x q hx hr hk => by
    obtain ⟨X, h1, h2, _⟩ := I.at (i := q.1) (j := q.2) hx
    have he := ha.val h2
    refine ⟨_, _, _, s, hk, I, rfl, rfl, rfl, ⟨fun S hS => (by cases hS), fun w' _ => ?_⟩, fun p hp => (by cases hp), fun i j hq => ?_⟩
    · rcases hr w' with hr | hr
      · rw [hr, h2, he]; rfl
      · exact (hr _ he).elim
    · cases hq
      exact ⟨X, h1, by rw [h2]; rfl⟩
  unfold calmT at h
  split at h
  · rename_i T x hop
    split at h
    · rename_i i j hx
      obtain ⟨X, h1, h2, h3⟩ := I.at hx
      rw [h1] at h
      obtain ⟨v, hk, hv⟩ := ldT_sound (b := X.1) (ty := X.2.2) h
      refine ⟨v, _, _, s, hk, I, rfl, rfl, rfl, ⟨fun S hS => ?_, fun w' hw' => ?_⟩, fun p hp i' hi' => ?_, fun i j hq => by cases hq⟩
      · simp only [List.map_cons, List.map_nil, List.mem_cons, List.not_mem_nil, or_false] at hS
        subst hS
        exact hv w h3
      · have : (loadVar T ((at0 X.1).add j)).run P w' = .ok v w' := hw' (fun w => (loadVar T ((at0 X.1).add j)).run P w = .ok v w) (by simp)
        simp [execOp, hop, Instr.loadAt, ha.val h2, Instr.sureAddr, this]
      · simp only [List.mem_cons, List.not_mem_nil, or_false] at hp
        subst hp
        cases hi'
        exact ⟨X, h1, hv⟩
    · exact gen h
  · rename_i x hop
    split at h
    · rename_i q hx
      exact same x q hx (fun w => .inl (by simp [execOp, hop])) h
    · exact gen h
  · rename_i x hop
    split at h
    · rename_i q hx
      exact same x q hx (fun w => .inl (by simp [execOp, hop])) h
    · exact gen h
  · rename_i x hop
    split at h
    · rename_i q hx
      refine same x q hx (fun w => ?_) h
      obtain ⟨X, _, h2, _⟩ := I.at (i := q.1) (j := q.2) hx
      exact .inl (by simp [execOp, hop, ha.val h2])
    · exact gen h
  · rename_i T x f hop
    split at h
    · rename_i i j hx
      obtain ⟨X, h1, h2, h3⟩ := I.at hx
      split at h
      · rename_i k X' hk hX'
        rw [h1] at hX'
        cases hX'
        refine ⟨_, _, _, s, h, I, rfl, rfl, rfl, ⟨fun S hS => (by cases hS), fun w' _ => ?_⟩, fun p hp => (by cases hp), fun i' j' hq => ?_⟩
        · unfold fieldOff at hk
          split at hk
          · rename_i fs hu
            split at hk
            · rename_i fd hf
              split at hk
              · rename_i inf hin
                cases hz : Nat.beq inf.size 0 with
                | true => rw [hz] at hk; cases hk
                | false =>
                  rw [hz] at hk
                  cases hk
                  have hne : inf.size ≠ 0 := fun e => by rw [e] at hz; cases hz
                  simp [execOp, hop, ha.val h2, Instr.fieldAt, run_underlying hu, hf, Instr.sureAddr, fieldPlace, sizeOf, typeInfo, hin, hne, add_add]
              · cases hk
            · cases hk
          · cases hk
        · cases hq
          exact ⟨X, h1, rfl⟩
      · exact h.elim
    · exact gen h
  · exact gen h
end
/-- what an operation that acts is good for, the variables left out -/
def EffS (s : TS) (K : Value → Option (Nat × Nat) → Option Nat → TS → Prop) (v : Value) (w' : World) : Prop :=
  ∃ q m s', K v q m s' ∧ Inv s' w' ∧ s'.E = s.E ∧ s'.S = s.S ∧ (∀ i X, s.L[i]? = some X → m ≠ some i → s'.L[i]? = some X) ∧
    (∀ i j, q = some (i, j) → ∃ X, s'.L[i]? = some X ∧ v = .pointer (some ((at0 X.1).add j)))
theorem run_allocOp {o : Oper} {ρ : Operand → Value} {T : TypeId} {z : Value} (hop : o.op = .alloc T) (hz : (P.info? T).bind (·.zero) = some z) (w : World) :
    (execOp ρ o).run P w = .ok (.value (.pointer (some (at0 w.heap.size)))) (w.alloc (.cells z.cells T)) := by
  cases hi : P.info? T with
  | none => rw [hi] at hz; cases hz
  | some i =>
    rw [hi] at hz
    have hz' : i.zero = some z := hz
    simp [execOp, hop, Instr.alloc, zeroValue, typeInfo, hi, hz', newVar, newRow]
theorem run_boxOp {o : Oper} {ρ : Operand → Value} {T : TypeId} {x : Operand} (hop : o.op = .box T x) (w : World) :
    (execOp ρ o).run P w = .ok (.value (.pointer (some (at0 w.heap.size)))) (w.alloc (.cells (ρ x).cells T)) := by
  simp [execOp, hop, Instr.box, newVar, newRow]
theorem keptT_elim {L : Lv} {w w' : World} {p : Prop} (h : keptT L w w' p) (H : LC w L) : LC w' L ∧ p := by
  cases L with
  | nil => exact ⟨LC.nil _, h⟩
  | cons x L => exact ⟨H.keptT h.1, h.2⟩
section
variable {o : Oper} {n : Cx} {a : Act} {s : TS} {w : World} {K : Value → Option (Nat × Nat) → Option Nat → TS → Prop}
theorem callF_acts {f : FuncId} {args : Array Value} {K : Value → World → Prop} (hrun : (execOp a.eval o).run P w = .ok (.enter f args) w) (h : Calls P f args w fun e w' => ∃ v, e = .returned v ∧ K v w') : Acts P o a w K := by
  intro Q
  unfold Oper.wp
  rw [hrun]
  simp only [Oper.upon]
  refine Calls.mono h fun e w' he => ?_
  obtain ⟨v, rfl, hk⟩ := he
  exact ⟨v, rfl, hk⟩
theorem callT_acts {f : FuncId} {args : Array Value} {z : Value} {K : Value → World → Prop} (hrun : (execOp a.eval o).run P w = .ok (.enter f args) w) (H : LC w s.L) (hw : s.w = w) (h : callT P f args z s K) : Acts P o a w fun v w' => LC w' s.L ∧ K v w' := by
  unfold callT at h
  split at h
  · rename_i hL
    rw [hw] at h
    refine callF_acts hrun (Calls.mono h fun e w' he => ?_)
    obtain ⟨v, rfl, hk⟩ := exAny_elim he
    exact ⟨v, rfl, by rw [hL]; exact LC.nil _, hk⟩
  · rw [hw] at h
    obtain ⟨M, hm, hc⟩ := h
    refine callF_acts hrun (Calls.mono hc fun e w' he => ?_)
    obtain ⟨f', hx⟩ := he
    obtain ⟨v, rfl, hk⟩ := exAny_elim hx
    exact ⟨v, rfl, H.fr f' hm, hk⟩
theorem new_acts {cs : Array Value} {T : TypeId} (hrun : (execOp a.eval o).run P w = .ok (.value (.pointer (some (at0 w.heap.size)))) (w.alloc (.cells cs T))) (I : Inv s w) (h : newT s cs.toList T K) : Acts P o a w (EffS s K) := by
  intro Q
  unfold Oper.wp
  rw [hrun]
  simp only [Oper.upon]
  refine ⟨_, rfl, _, _, _, h w.heap.size (w.alloc (.cells cs T)) I.fr.size (size_alloc _ _) (I.fr.tr0 (Fr.alloc _ _ _)), ⟨I.lc.push cs T, by simp, fun t i j hq => ?_⟩, rfl, rfl, fun i X hX _ => ?_, fun i j hq => ?_⟩
  · obtain ⟨X, h1, h2⟩ := I.sl t i j hq
    exact ⟨X, by rw [List.getElem?_append_left (List.getElem?_eq_some_iff.1 h1).1]; exact h1, h2⟩
  · rw [List.getElem?_append_left (List.getElem?_eq_some_iff.1 hX).1]; exact hX
  · cases hq
    exact ⟨(w.heap.size, cs.toList, T), by simp, by rw [add0]⟩
theorem stLoc {i j b : Nat} {T : TypeId} {wT : World} {K : World → Prop} : ∀ (vs : List Value) (k : Nat) (w : World) (L : Lv) (cs : List Value), LC w L → L[i]? = some (b, cs, T) → j + k + vs.length ≤ cs.length → Fr (· ∈ bsOf L) wT w →
    (∀ w', LC w' (L.set i (b, setMany cs (j + k) vs, T)) → Fr (· ∈ bsOf L) wT w' → K w') → stVC ((at0 b).add j) vs k w K
  | [], k, w, L, cs, H, hi, hl, f, hk => by
    refine hk w ?_ f
    have : L.set i (b, cs, T) = L := by
      apply List.ext_getElem?
      intro m
      rw [List.getElem?_set]
      split
      · rename_i e
        subst e
        split
        · exact hi.symm
        · rename_i h; exact absurd (List.getElem?_eq_some_iff.1 hi).1 h
      · rfl
    rw [show setMany cs (j + k) [] = cs from rfl, this]
    exact H
  | v :: vs, k, w, L, cs, H, hi, hl, f, hk => by
    simp only [List.length_cons] at hl
    obtain ⟨x1, x2, x3, x4⟩ := H.set (v := v) i (j + k) hi (by omega) f
    unfold stVC
    rw [add_add]
    refine ⟨x1, x2, stLoc (i := i) (T := T) vs (k + 1) _ _ (cs.set (j + k) v) x3 ?_ (by rw [List.length_set]; omega) x4 fun w' h1 h2 => ?_⟩
    · rw [List.getElem?_set_self (List.getElem?_eq_some_iff.1 hi).1]
    · rw [List.set_set] at h1
      rw [bs_set L i hi] at h2
      exact hk w' h1 h2
theorem stKs_sound {L : Lv} {p : Addr} {K K' : World → Prop} (hk : ∀ w', LC w' L → K w' → K' w') : ∀ (vs : List Value) (i : Nat) (w : World), LC w L → stKs (bsOf L) p vs i w K → stVC p vs i w K'
  | [], _, w, H, h => hk w H h
  | v :: vs, i, w, H, h => by
    obtain ⟨h1, h2, h3, h4⟩ := h
    exact ⟨h1, h2, stKs_sound hk vs (i + 1) _ (H.keptT h3) h4⟩
theorem AndT_intro {b : Bool} {p : Prop} (h1 : b = true) (h2 : p) : AndT b p := by subst h1; exact h2
theorem effVC_store {E : Env} {T : TypeId} {x y : Operand} {p : Addr} {v : Value} {K : Value → World → Prop} (hop : o.op = .store T x y) (hx : E.val x = some (.pointer (some p))) (hy : E.val y = some v)
    (hc : (v.cells.size == (match P.info? T with | some i => i.size | none => 0) && v.cells.toList.all oneCell && (P.info? T).isSome) = true) (h : stVC p v.cells.toList 0 w fun w' => K undef w') : effVC P o E w K := by
  unfold effVC
  rw [hop]
  simp only [hx, hy]
  exact AndT_intro hc h
/-- new objects leave the old ones alone -/
theorem run_newOp {ρ : Operand → Value} {nx : Next} {w' : World} (hop : (∃ T, o.op = .alloc T) ∨ (∃ T x, o.op = .box T x) ∨ (∃ T l p, o.op = .buildSlice T l p) ∨ (∃ T r, o.op = .makeMap T r)) (h : (execOp ρ o).run P w = .ok nx w') : Fr0 w w' := by
  rcases hop with ⟨T, hop⟩ | ⟨T, x, hop⟩ | ⟨T, l, p, hop⟩ | ⟨T, r, hop⟩
  · cases hz : (P.info? T).bind (·.zero) with
    | some z =>
      rw [run_allocOp hop hz] at h
      cases h
      exact Fr.alloc _ _ _
    | none =>
      exfalso
      cases hi : P.info? T with
      | none => simp [execOp, hop, Instr.alloc, zeroValue, typeInfo, hi] at h
      | some i =>
        rw [hi] at hz
        have hz' : i.zero = none := hz
        simp [execOp, hop, Instr.alloc, zeroValue, typeInfo, hi, hz'] at h
  · rw [run_boxOp hop] at h
    cases h
    exact Fr.alloc _ _ _
  · cases hu : P.underlying T with
    | none => simp [execOp, hop, Instr.buildSlice, underlying, hu] at h
    | some u =>
      cases u <;> first | (simp [execOp, hop, Instr.buildSlice, run_underlying hu] at h; done) | skip
      rename_i e
      cases hi : P.info? e with
      | none => simp [execOp, hop, Instr.buildSlice, run_underlying hu, sizeOf, typeInfo, hi] at h
      | some i =>
        by_cases hbig : l * i.size > 2 ^ 24
        · simp [execOp, hop, Instr.buildSlice, run_underlying hu, sizeOf, typeInfo, hi, hbig] at h
        by_cases h0 : l * i.size = 0
        · simp [execOp, hop, Instr.buildSlice, run_underlying hu, sizeOf, typeInfo, hi, h0] at h
          split at h
          · simp [newRow] at h
            obtain ⟨_, rfl⟩ := h
            exact Fr.alloc _ _ _
          · simp at h
        · simp [execOp, hop, Instr.buildSlice, run_underlying hu, sizeOf, typeInfo, hi, hbig, h0] at h
          cases hz : i.zero with
          | none => simp [zeroValue, typeInfo, hi, hz] at h
          | some z =>
            simp [zeroValue, typeInfo, hi, hz] at h
            split at h
            · simp [newRow] at h
              obtain ⟨_, rfl⟩ := h
              exact Fr.alloc _ _ _
            · simp at h
  · cases r with
    | none =>
      simp [execOp, hop, Instr.makeMap] at h
      obtain ⟨_, rfl⟩ := h
      exact Fr.alloc _ _ _
    | some r =>
      cases hu : P.underlying T with
      | none => simp [execOp, hop, Instr.makeMap, underlying, hu] at h
      | some u =>
        cases u <;> first | (simp [execOp, hop, Instr.makeMap, run_underlying hu] at h; done) | skip
        cases hr : ρ r with
        | int k z =>
          simp [execOp, hop, Instr.makeMap, run_underlying hu, hr, Go.asInt, Go.asIntOf] at h
          obtain ⟨_, rfl⟩ := h
          exact Fr.alloc _ _ _
        | pointer q => cases q <;> simp [execOp, hop, Instr.makeMap, run_underlying hu, hr, Go.asInt, Go.asIntOf] at h
        | _ => simp [execOp, hop, Instr.makeMap, run_underlying hu, hr, Go.asInt, Go.asIntOf] at h
theorem new_eval {K : Value → World → Prop} (hs : ∀ cs b, o.op ≠ .select cs b) (ha : Ag n a s.E) (hop : (∃ T, o.op = .alloc T) ∨ (∃ T x, o.op = .box T x) ∨ (∃ T l p, o.op = .buildSlice T l p) ∨ (∃ T r, o.op = .makeMap T r)) (h : effVC P o s.E w K) : Acts P o a w fun v w' => Fr0 w w' ∧ K v w' := by
  have h' : evalVC P o s.E w K := by
    unfold effVC at h
    rcases hop with ⟨T, hop⟩ | ⟨T, x, hop⟩ | ⟨T, l, p, hop⟩ | ⟨T, r, hop⟩ <;> rw [hop] at h <;> exact h
  obtain ⟨hc, h'⟩ := AndT_elim h'
  intro Q
  unfold Oper.wp
  rw [ha.execOp hs hc]
  generalize hr : (execOp s.E.ev o).run P w = r at h'
  split at h'
  · simp only [Oper.upon]; exact ⟨_, rfl, run_newOp hop hr, h'⟩
  · simp only [Oper.upon]; exact ⟨_, rfl, run_newOp hop hr, h'⟩
  · exact h'.elim
theorem effT_sound {draw : Bool} {lv : List Nat} (A : (Value → World → Prop) → Prop) (h0 : ∀ K, Acts P o a w K → A K) (h1 : ∀ K, (bif draw then effVC else effVCy) P o s.E w K → A K) (hm : ∀ K K', (∀ v w', K v w' → K' v w') → A K → A K')
    (hs : ∀ cs b, o.op ≠ .select cs b) (ha : Ag n a s.E) (I : Inv s w) (h : effT P lv draw o s K) : A (EffS s K) := by
  have back : ∀ v w', LC w' s.L → K v none none ⟨s.E, s.S, s.L, w', false⟩ → EffS s K v w' := fun v w' H hk => ⟨none, none, _, hk, ⟨H, by simp, I.sl⟩, rfl, rfl, fun i X h _ => h, fun i j hq => by cases hq⟩
  have back2 : ∀ v w', keptT s.L w w' (K v none none ⟨s.E, s.S, s.L, w', false⟩) → EffS s K v w' := fun v w' hk => by
    obtain ⟨H, hk⟩ := keptT_elim hk I.lc
    exact back v w' H hk
  have news : ((∃ T, o.op = .alloc T) ∨ (∃ T x, o.op = .box T x) ∨ (∃ T l p, o.op = .buildSlice T l p) ∨ (∃ T r, o.op = .makeMap T r)) → syn s (fun s => effVC P o s.E s.w fun v w' => K v none none ⟨s.E, s.S, s.L, w', false⟩) → A (EffS s K) := fun hop h => by
    obtain ⟨_, h'⟩ := I.syn h
    exact hm _ _ (fun v w' ⟨f, hk⟩ => back v w' (I.lc.fr (M := fun _ => False) f (fun _ _ h => h)) hk) (h0 _ (new_eval hs ha hop h'))
  unfold effT at h
  split at h
  · rename_i T x y hop
    split at h
    · rename_i i j hx
      obtain ⟨X, g1, g2, _⟩ := I.at hx
      split at h
      · rename_i X' v hX' hv
        rw [g1] at hX'
        cases hX'
        obtain ⟨hc, hk⟩ := AndT_elim h
        rw [Bool.and_eq_true] at hc
        obtain ⟨hc, hb⟩ := hc
        have hb := Nat.le_of_ble_eq_true hb
        refine h0 _ (effVC_sound hs ha (effVC_store hop g2 hv hc ?_))
        refine stLoc (i := i) (T := X.2.2) _ 0 w s.L X.2.1 I.lc g1 (by simpa using hb) I.fr fun w' q1 q2 => ?_
        refine ⟨none, some i, _, hk, ⟨q1, ?_, fun t i' j' ht => ?_⟩, rfl, rfl, fun i' Y hY hne => ?_, fun i j hq => by cases hq⟩
        · simp only [if_true]
          rw [bs_set s.L i g1]
          exact q2
        · obtain ⟨Y, y1, y2⟩ := I.sl t i' j' ht
          by_cases e : i = i'
          · subst e
            rw [g1] at y1
            cases y1
            exact ⟨_, List.getElem?_set_self (List.getElem?_eq_some_iff.1 g1).1, y2⟩
          · exact ⟨Y, by rw [List.getElem?_set_ne e]; exact y1, y2⟩
        · have e : i ≠ i' := fun e => hne (by rw [e])
          show (s.L.set i _)[i']? = _
          rw [List.getElem?_set_ne e]; exact hY
      · exact h.elim
    · obtain ⟨_, h'⟩ := I.syn h
      simp only at h'
      split at h'
      · rename_i hL
        exact hm _ _ (fun v w' hk => back v w' (hL ▸ LC.nil _) hk) (h0 _ (effVC_sound hs ha h'))
      · split at h'
        · rename_i p v hx hy
          obtain ⟨hc, hk⟩ := AndT_elim h'
          exact hm _ _ (fun v w' hk => hk) (h0 _ (effVC_sound hs ha (effVC_store hop hx hy hc (stKs_sound (K' := EffS s K undef) (fun w' H hk => back _ w' H hk) _ _ _ I.lc hk))))
        · exact h'.elim
  · rename_i T hop
    cases hl : isLoc lv o.dst with
    | true =>
      rw [hl, cond_true] at h
      obtain ⟨hz, h⟩ := AndT_elim h
      obtain ⟨z, hz⟩ := Option.isSome_iff_exists.1 hz
      have : zeroOf P T = z := by unfold zeroOf; rw [hz]; rfl
      rw [this] at h
      exact h0 _ (new_acts (run_allocOp hop hz w) I h)
    | false =>
      rw [hl, cond_false] at h
      exact news (.inl ⟨T, hop⟩) h
  · rename_i T x hop
    cases hl : isLoc lv o.dst with
    | true =>
      rw [hl, cond_true] at h
      split at h
      · rename_i v hv
        have := run_boxOp (P := P) (ρ := a.eval) hop w
        rw [ha.val hv] at this
        exact h0 _ (new_acts this I h)
      · exact h.elim
    | false =>
      rw [hl, cond_false] at h
      exact news (.inr (.inl ⟨T, x, hop⟩)) h
  · rename_i T l p hop
    exact news (.inr (.inr (.inl ⟨T, l, p, hop⟩))) h
  · rename_i T r hop
    exact news (.inr (.inr (.inr ⟨T, r, hop⟩))) h
  · rename_i f args tys hop
    obtain ⟨I', h⟩ := I.syn h
    obtain ⟨hc, h⟩ := AndT_elim h
    have hargs : args.map a.eval = args.map s.E.ev := ha.args fun x hx => List.all_eq_true.1 hc x (by rw [hop]; simp [Op.operands, Call.operands, hx])
    cases hca : callable P f with
    | true =>
      rw [hca, cond_true] at h
      exact hm _ _ (fun v w' ⟨H, hk⟩ => back v w' H hk) (h0 _ (callT_acts (s := ⟨s.E, s.S, s.L, w, false⟩) (by simp [execOp, hop, resolve, Act.eval, Deferred.ofValue, invoke, hargs, callable_spec hca]) I.lc rfl h))
    | false =>
      rw [hca, cond_false] at h
      unfold extVC at h
      obtain ⟨v, w', hr, hk⟩ := exAny_elim h
      refine hm _ _ back2 (h0 _ fun Q => ?_)
      unfold Oper.wp
      have : (execOp a.eval o).run P w = .ok (.value v) w' := by simp [execOp, hop, resolve, Act.eval, Deferred.ofValue, invoke, hargs, hr]
      rw [this]
      simp only [Oper.upon]
      exact ⟨_, rfl, hk⟩
  · rename_i t args tys hop
    obtain ⟨I', h⟩ := I.syn h
    obtain ⟨hc, h⟩ := AndT_elim h
    have hargs : args.map a.eval = args.map s.E.ev := ha.args fun x hx => List.all_eq_true.1 hc x (by rw [hop]; simp [Op.operands, Call.operands, hx])
    split at h
    · rename_i f first captured hf
      obtain ⟨hca, h⟩ := AndT_elim h
      have hft : a.eval (.tmp t) = .func (.func f) first captured := ha.val (x := .tmp t) hf
      exact hm _ _ (fun v w' ⟨H, hk⟩ => back v w' H hk) (h0 _ (callT_acts (s := ⟨s.E, s.S, s.L, w, false⟩) (by simp [execOp, hop, resolve, hft, Deferred.ofValue, invoke, hargs, callable_spec hca]) I.lc rfl h))
    · exact h.elim
  · obtain ⟨_, h'⟩ := I.syn h
    exact hm _ _ back2 (h1 _ h')
end
def HI (s : TS) (H : HT) (w : World) : Prop := ∀ p ∈ H, p.2.2 w ∧ ∀ i, p.2.1 = some i → ∃ X, s.L[i]? = some X ∧ ∀ w' : World, w'.heap[X.1]? = some (.cells X.2.1.toArray X.2.2 (0, 0)) → p.2.2 w'
def hsOf (H : HT) : Held := H.map fun p => (p.1, p.2.2)
theorem hsOf_drop {ops : Array Oper} {j : Nat} : ∀ H : HT, dropH ops j (hsOf H) = hsOf (dropT ops j H)
  | [] => rfl
  | (i, f, S) :: H => by
    show dropH ops j ((i, S) :: hsOf H) = hsOf (dropT ops j ((i, f, S) :: H))
    unfold dropH dropT
    cases ordT ops i j
    · simp only [cond_false]
      rw [hsOf_drop H]; rfl
    · simp only [cond_true]
      exact hsOf_drop H
theorem mem_dropT {ops : Array Oper} {j : Nat} : ∀ {H : HT} {p}, p ∈ dropT ops j H → p ∈ H ∧ ordT ops p.1 j = false
  | (i, f, S) :: H, p, h => by
    unfold dropT at h
    cases ho : ordT ops i j with
    | true =>
      rw [ho, cond_true] at h
      exact ⟨List.mem_cons_of_mem _ (mem_dropT h).1, (mem_dropT h).2⟩
    | false =>
      rw [ho, cond_false] at h
      rcases List.mem_cons.1 h with rfl | h
      · exact ⟨List.mem_cons_self, ho⟩
      · exact ⟨List.mem_cons_of_mem _ (mem_dropT h).1, (mem_dropT h).2⟩
theorem heldT_of {ops : Array Oper} {j : Nat} {w : World} : ∀ {H : HT} {p}, p ∈ H → ordT ops p.1 j = false → p.2.1 = none → p.2.2 w ∈ heldT ops j w H
  | (i, f, S) :: H, p, h, ho, hf => by
    unfold heldT
    rcases List.mem_cons.1 h with rfl | h
    · simp only at ho hf
      rw [ho, hf]
      exact List.mem_cons_self
    · have := heldT_of (w := w) h ho hf
      cases (ordT ops i j || f.isSome)
      · exact List.mem_cons_of_mem _ this
      · exact this
theorem Inv.put {s : TS} {w : World} (I : Inv s w) (d : Option Nat) {v : Value} {q : Option (Nat × Nat)} (hq : ∀ i j, q = some (i, j) → ∃ X, s.L[i]? = some X ∧ v = .pointer (some ((at0 X.1).add j))) : Inv ⟨s.E.put d v, s.S.put d q, s.L, s.w, s.d⟩ w := by
  refine ⟨I.lc, I.rel, fun t i j ht => ?_⟩
  cases d with
  | none => exact I.sl t i j ht
  | some d =>
    simp only [Sv.put, Sv.get?] at ht
    simp only [Env.put, Env.get?]
    cases hb : Nat.beq d t with
    | true =>
      rw [hb, cond_true] at ht
      obtain ⟨X, h1, h2⟩ := hq i j ht
      exact ⟨X, h1, by simp [h2]⟩
    | false =>
      rw [hb, cond_false] at ht
      obtain ⟨X, h1, h2⟩ := I.sl t i j ht
      exact ⟨X, h1, by simpa using h2⟩
/-- what is held after an operation that acts -/
theorem reHeld_sound {ops : Array Oper} {j : Nat} {s s1 : TS} {w w' : World} {m : Option Nat} {H : HT} {K : TS → Prop} (hH : HI s H w) (I : Inv s1 w') (hL : ∀ i X, s.L[i]? = some X → m ≠ some i → s1.L[i]? = some X)
    (hc : (!((dropT ops j H).any fun p => m.isSome && p.2.1 == m)) = true) (h : reHeld ops j s1 H K) :
    ∃ s2, K s2 ∧ Inv s2 w' ∧ s2.E = s1.E ∧ s2.S = s1.S ∧ s2.L = s1.L ∧ HI s2 (dropT ops j H) w' := by
  have loc' : ∀ p ∈ dropT ops j H, ∀ i, p.2.1 = some i → ∃ X, s1.L[i]? = some X ∧ ∀ w' : World, w'.heap[X.1]? = some (.cells X.2.1.toArray X.2.2 (0, 0)) → p.2.2 w' := fun p hp i hi => by
    obtain ⟨X, h1, h2⟩ := (hH p (mem_dropT hp).1).2 i hi
    refine ⟨X, hL i X h1 fun e => ?_, h2⟩
    simp only [Bool.not_eq_true', List.any_eq_false] at hc
    exact hc p hp (by rw [e, hi]; simp)
  have own : ∀ p ∈ dropT ops j H, ∀ i, p.2.1 = some i → p.2.2 w' := fun p hp i hi => by
    obtain ⟨X, h1, h2⟩ := loc' p hp i hi
    exact h2 w' (I.lc.own i X h1)
  unfold reHeld at h
  cases ha : H.any (fun p => !(ordT ops p.1 j) && p.2.1.isNone) with
  | true =>
    rw [ha, cond_true] at h
    obtain ⟨I', h'⟩ := I.syn h
    obtain ⟨q1, q2⟩ := andL_elim h'
    refine ⟨_, q2, I', rfl, rfl, rfl, fun p hp => ⟨?_, loc' p hp⟩⟩
    cases hf : p.2.1 with
    | none => exact q1 _ (heldT_of (mem_dropT hp).1 (mem_dropT hp).2 hf)
    | some i => exact own p hp i hf
  | false =>
    rw [ha, cond_false] at h
    refine ⟨s1, h, I, rfl, rfl, rfl, fun p hp => ⟨?_, loc' p hp⟩⟩
    cases hf : p.2.1 with
    | none =>
      exfalso
      rw [List.any_eq_false] at ha
      exact ha p (mem_dropT hp).1 (by rw [(mem_dropT hp).2, hf]; rfl)
    | some i => exact own p hp i hf
section
variable {ops : Array Oper} {n : Cx} {lv : List Nat}
theorem stepT_eff {o : Oper} {a : Act} {s : TS} {w : World} {H : HT} {K : TS → HT → Prop} {draw : Bool} {i : Nat} (A : (Value → World → Prop) → Prop) (h0 : ∀ K, Acts P o a w K → A K) (h1 : ∀ K, (bif draw then effVC else effVCy) P o s.E w K → A K) (hm : ∀ K K', (∀ v w', K v w' → K' v w') → A K → A K')
    (hs : ∀ cs b, o.op ≠ .select cs b) (ha : Ag n a s.E) (I : Inv s w) (hH : HI s H w) (hc : calm P o = false) (h : stepT P lv ops draw i o s H K) :
    A fun v w' => ∃ s', K s' (dropT ops i H) ∧ Inv s' w' ∧ HI s' (dropT ops i H) w' ∧ s'.E = s.E.put o.dst v := by
  unfold stepT at h
  rw [hc, cond_false] at h
  refine hm _ _ (fun v w' he => ?_) (effT_sound A h0 h1 hm hs ha I h)
  obtain ⟨q, m, s1, hk, I1, e1, e2, hL, hq⟩ := he
  obtain ⟨hb, hr⟩ := AndT_elim hk
  obtain ⟨s2, k2, I2, f1, f2, f3, H2⟩ := reHeld_sound hH I1 hL hb hr
  refine ⟨_, k2, I2.put o.dst fun i j h => ?_, H2, by rw [f1, e1]⟩
  rw [f3]
  exact hq i j h
theorem stepT_calm {o : Oper} {a : Act} {s : TS} {w : World} {H : HT} {K : TS → HT → Prop} {draw : Bool} {i : Nat} (hs : ∀ cs b, o.op ≠ .select cs b) (ha : Ag n a s.E) (I : Inv s w) (hH : HI s H w) (hc : calm P o = true) (h : stepT P lv ops draw i o s H K) :
    ∃ v Ss s' H', K s' H' ∧ Inv s' w ∧ HI s' H' w ∧ s'.E = s.E.put o.dst v ∧ Calm P o a.eval w v Ss ∧ hsOf H' = (bif draw then Ss.map (fun S => (i, S)) ++ hsOf H else hsOf H) := by
  unfold stepT at h
  rw [hc, cond_true] at h
  obtain ⟨v, q, Ss, s', hk, I', e1, e2, e3, hcalm, hl, hq⟩ := calmT_sound hs ha I h
  refine ⟨v, Ss.map (·.2), _, _, hk, I'.put o.dst fun i j h => ?_, fun p hp => ?_, by rw [e1], hcalm, ?_⟩
  · rw [e3]; exact hq i j h
  · have old : p ∈ H → p.2.2 w ∧ ∀ i, p.2.1 = some i → ∃ X, s'.L[i]? = some X ∧ ∀ w' : World, w'.heap[X.1]? = some (.cells X.2.1.toArray X.2.2 (0, 0)) → p.2.2 w' := fun hp => by
      rw [e3]; exact hH p hp
    cases draw with
    | false => exact old hp
    | true =>
      rcases List.mem_append.1 hp with hp | hp
      · obtain ⟨S, hS, rfl⟩ := List.mem_map.1 hp
        refine ⟨hcalm.1 _ (List.mem_map.2 ⟨S, hS, rfl⟩), fun i' hi' => ?_⟩
        simp only
        rw [e3]
        exact hl S hS i' hi'
      · exact old hp
  · cases draw with
    | false => rfl
    | true => simp [hsOf]
theorem guardT_of {i d : Nat} {o : Oper} {want t : Bool} {s : TS} {H : HT} {K : TS → HT → Prop} {draw : Bool} (h : sel t (guardT P lv ops draw i o d want true s H K) (guardT P lv ops draw i o d want false s H K)) : guardT P lv ops draw i o d want t s H K := by
  cases t
  · exact h
  · exact h
theorem Inv.same {s : TS} {w : World} (I : Inv s w) {d : Nat} {v : Value} (hd : s.E.get? d = some v) : Inv ⟨(d, v) :: s.E, s.S, s.L, s.w, s.d⟩ w := by
  refine ⟨I.lc, I.rel, fun t i j ht => ?_⟩
  obtain ⟨X, h1, h2⟩ := I.sl t i j ht
  refine ⟨X, h1, ?_⟩
  simp only [Env.get?]
  by_cases e : d = t
  · subst e
    rw [hd] at h2
    cases h2
    simp
  · have hb : Nat.beq d t = false := by rw [← Bool.not_eq_true, Nat.beq_eq]; exact e
    rw [hb, cond_false]
    exact h2
theorem Inv.skip {s : TS} {w : World} (I : Inv s w) (d : Option Nat) : Inv ⟨s.E.put d undef, s.S.put d none, s.L, s.w, s.d⟩ w := I.put d fun i j h => by cases h
theorem HI.skip {s s' : TS} {w : World} {H : HT} (h : HI s H w) (e : s'.L = s.L) : HI s' H w := fun p hp => by rw [e]; exact h p hp
theorem HI.drop {s : TS} {w : World} {H : HT} {j : Nat} (h : HI s H w) : HI s (dropT ops j H) w := fun p hp => h p (mem_dropT hp).1
theorem HI.held {s : TS} {w : World} {H : HT} (h : HI s H w) : ∀ p ∈ hsOf H, p.2 w := fun p hp => by
  obtain ⟨q, hq, rfl⟩ := List.mem_map.1 hp
  exact (h q hq).1
theorem runT_text {K : TS → Prop} {Q : Exit → Act → World → Prop} (hn : opsOk n ops = true) : ∀ (l : List Nat) (s : TS) (w : World) (a : Act), Ag n a s.E → Inv s w → runT P lv ops false K l s [] → (∀ s' w' a', Ag n a' s'.E → Inv s' w' → K s' → Q .normal a' w') → wpOpsIn (FW n) 0 P ops Q l a w
  | [], s, w, a, ha, I, h, hk => hk s w a ha I h
  | i :: l, s, w, a, ha, I, h, hk => by
    have hsel := Region.noSelect_spec (ops := ops) (by unfold opsOk at hn; rw [Bool.and_eq_true] at hn; exact hn.1)
    unfold runT at h
    cases ho : ops[i]? with
    | none => rw [ho] at h; exact h.elim
    | some o =>
      rw [ho] at h
      simp only at h
      have step : ∀ (s : TS), Ag n a s.E → Inv s w → Region.wanted o (yielded ops a.tmps) = true → stepT P lv ops false i o s [] (fun s' H' => runT P lv ops false K l s' H') → wpOpsIn (FW n) 0 P ops Q (i :: l) a w := fun s ha I hw h => by
        rw [wpOpsIn_cons]
        cases hc : calm P o with
        | true =>
          obtain ⟨v, Ss, s', H', k1, I', _, e1, hcalm, hH'⟩ := stepT_calm (fun cs b => hsel i o cs b ho) ha I (fun p hp => by cases hp) hc h
          have : H' = [] := by cases H' with | nil => rfl | cons x l => cases hH'
          subst this
          refine wpOpIn_eff (Kv := fun v' w' => v' = v ∧ w' = w) ho hw ?_ ?_
          · refine Acts.in (opsOk_defer hn ho) fun Q' => ?_
            unfold Oper.wp
            rw [hcalm.2 w hcalm.1]
            exact ⟨v, rfl, rfl, rfl⟩
          · rintro v' w' ⟨rfl, rfl⟩
            exact runT_text hn l s' _ _ (by rw [e1]; exact ha.put _ (opsOk_dst hn ho)) I' k1 hk
        | false =>
          refine wpOpIn_eff ho hw (stepT_eff (draw := false) (s := s) (ActsIn P n o a w) (fun K hK => hK.in (opsOk_defer hn ho)) (fun K hK => effVCy_sound (fun cs b => hsel i o cs b ho) (opsOk_defer hn ho) ha hK) (fun K K' hKK hA Q' => Oper.wpIn_mono (fun a' w' ⟨v, e, hv⟩ => ⟨v, e, hKK v w' hv⟩) (hA Q')) (fun cs b => hsel i o cs b ho) ha I (fun p hp => by cases hp) hc h) fun v w' ⟨s', k1, I', _, e1⟩ => ?_
          exact runT_text hn l s' w' _ (by rw [e1]; exact ha.put v (opsOk_dst hn ho)) I' k1 hk
      have skip : ∀ (s : TS), Ag n a s.E → Inv s w → Region.wanted o (yielded ops a.tmps) = false → runT P lv ops false K l ⟨s.E.put o.dst undef, s.S.put o.dst none, s.L, s.w, s.d⟩ [] → wpOpsIn (FW n) 0 P ops Q (i :: l) a w := fun s ha I hw h => by
        rw [wpOpsIn_cons]
        unfold wpOpIn
        simp only [ho, hw]
        exact ⟨fun _ _ => trivial, runT_text hn l _ w _ (ha.put undef (opsOk_dst hn ho)) (I.skip o.dst) h hk⟩
      have hH0 : (bif calm P o then ([] : HT) else dropT ops i []) = [] := by cases calm P o <;> rfl
      cases hg : o.guard with
      | none =>
        rw [hg] at h
        exact step s ha I (by simp [Region.wanted, hg]) h
      | some jw =>
        obtain ⟨j, want⟩ := jw
        rw [hg] at h
        simp only at h
        cases hd : gslot ops j with
        | none => rw [hd] at h; exact h.elim
        | some d =>
          rw [hd] at h
          simp only at h
          split at h
          · rename_i t ht
            have hy := yielded_of ha hd ht
            have hg' := guardT_of h
            unfold guardT at hg'
            cases hb : (t == want) with
            | true =>
              rw [hb, cond_true] at hg'
              exact step _ (ha.same ht) (I.same ht) (by simp [Region.wanted, hg, hy]; simpa using hb) hg'
            | false =>
              rw [hb, cond_false, hH0] at hg'
              exact skip _ (ha.same ht) (I.same ht) (by simp [Region.wanted, hg, hy]; simpa using hb) hg'
          · rename_i vs ht
            rw [hH0] at h
            exact skip s ha I (by simp [Region.wanted, hg, yielded_tuple ha hd ht]) h
          · exact h.elim
/-- the post of a region -/
def RegT (n : Cx) (K : TS → Prop) : Exit → Act → World → Prop
  | .normal, a, w => ∃ s, Ag n a s.E ∧ Inv s w ∧ K s
  | _, _, _ => False
/-- what is known of an operation that is skipped -/
theorem hsOf_skip {o : Oper} {i : Nat} {H : HT} : (bif calm P o then hsOf H else dropH ops i (hsOf H)) = hsOf (bif calm P o then H else dropT ops i H) := by
  cases calm P o
  · exact hsOf_drop H
  · rfl
theorem HI.skipD {o : Oper} {i : Nat} {s s' : TS} {w : World} {H : HT} (h : HI s H w) (e : s'.L = s.L) : HI s' (bif calm P o then H else dropT ops i H) w := by
  cases calm P o
  · exact h.drop.skip e
  · exact h.skip e
theorem headT_any (hn : opsOk n ops = true) {K : TS → Prop} {i : Nat} {o : Oper} {s : TS} {w : World} {H : HT} {a : Act} {Kn : TS → HT → Prop} {listed : Array Bool} {fuel : Nat} (ho : ops[i]? = some o)
    (hok : (bif calm P o then Region.free .any ops listed i && (Region.ready .any ops listed).contains i else Region.ready .any ops listed == [i]) = true) (ha : Ag n a s.E) (I : Inv s w) (hH : HI s H w) (h : headT P lv ops i s H Kn)
    (next : ∀ a' s' w' H', Ag n a' s'.E → Inv s' w' → HI s' H' w' → Kn s' H' → wpAnyHs P ops (RegT n K) fuel (hsOf H') (listed.setIfInBounds i true) a' w') : wpAnyHs P ops (RegT n K) (fuel + 1) (hsOf H) listed a w := by
  have hsel := Region.noSelect_spec (ops := ops) (by unfold opsOk at hn; rw [Bool.and_eq_true] at hn; exact hn.1)
  have hQ : ∀ c a w, RegT n K (.panic c) a w = False := fun _ _ _ => rfl
  have step : ∀ (s : TS), Ag n a s.E → Inv s w → HI s H w → Region.wanted o (yielded ops a.tmps) = true → stepT P lv ops true i o s H Kn → wpAnyHs P ops (RegT n K) (fuel + 1) (hsOf H) listed a w := fun s ha I hH hwant h => by
    cases hc : calm P o with
    | true =>
      rw [hc, cond_true, Bool.and_eq_true] at hok
      obtain ⟨v, Ss, s', H', k1, I', HI', e1, hcalm, hH'⟩ := stepT_calm (fun cs b => hsel i o cs b ho) ha I hH hc h
      refine wpAnyHs_first (v := v) (Ss := Ss) ho hsel (by simp [hQ]) fuel (hsOf H) listed a w (Region.free_spec ho hok.1) (by simpa using hok.2) (.inl ⟨hwant, fun w' hw' => hcalm.2 w' hw'⟩) hcalm.1 hH.held ?_
      rw [cond_true] at hH'
      rw [← hH']
      exact next _ s' w H' (by rw [e1]; exact ha.put v (opsOk_dst hn ho)) I' HI' k1
    | false =>
      rw [hc, cond_false] at hok
      have hr : Region.ready .any ops listed = [i] := by simpa using hok
      refine fun _ => ⟨fun h0 => (by rw [hr] at h0; cases h0), fun j hj => ?_⟩
      rw [hr] at hj
      obtain rfl := List.mem_singleton.1 hj
      refine wpOp_eff ho hwant (stepT_eff (draw := true) (s := s) (Acts P o a w) (fun K hK => hK) (fun K hK => effVC_sound (fun cs b => hsel j o cs b ho) ha hK) (fun K K' hKK hA Q' => Oper.wp_mono (fun a' w' ⟨v, e, hv⟩ => ⟨v, e, hKK v w' hv⟩) (hA Q')) (fun cs b => hsel j o cs b ho) ha I hH hc h) fun v w' ⟨s', k1, I', HI', e1⟩ => ?_
      rw [hsOf_drop]
      exact ⟨HI'.held, next _ s' w' _ (by rw [e1]; exact ha.put v (opsOk_dst hn ho)) I' HI' k1⟩
  have skip : ∀ (s : TS), Ag n a s.E → Inv s w → HI s H w → Region.wanted o (yielded ops a.tmps) = false → Kn ⟨s.E.put o.dst undef, s.S.put o.dst none, s.L, s.w, s.d⟩ (bif calm P o then H else dropT ops i H) → wpAnyHs P ops (RegT n K) (fuel + 1) (hsOf H) listed a w := fun s ha I hH hw h => by
    refine skip_sound_draw hn ho hok hQ hH.held hw ?_
    rw [hsOf_skip]
    exact next _ _ w _ (ha.put undef (opsOk_dst hn ho)) (I.skip o.dst) (hH.skipD rfl) h
  unfold headT at h
  rw [ho] at h
  simp only at h
  cases hg : o.guard with
  | none =>
    rw [hg] at h
    exact step s ha I hH (by simp [Region.wanted, hg]) h
  | some jw =>
    obtain ⟨j, want⟩ := jw
    rw [hg] at h
    simp only at h
    cases hd : gslot ops j with
    | none => rw [hd] at h; exact h.elim
    | some d =>
      rw [hd] at h
      simp only at h
      split at h
      · rename_i t ht
        have hy := yielded_of ha hd ht
        have hg' := guardT_of h
        unfold guardT at hg'
        cases hb : (t == want) with
        | true =>
          rw [hb, cond_true] at hg'
          exact step _ (ha.same ht) (I.same ht) (hH.skip rfl) (by simp [Region.wanted, hg, hy]; simpa using hb) hg'
        | false =>
          rw [hb, cond_false] at hg'
          exact skip _ (ha.same ht) (I.same ht) (hH.skip rfl) (by simp [Region.wanted, hg, hy]; simpa using hb) hg'
      · rename_i vs ht
        exact skip s ha I hH (by simp [Region.wanted, hg, yielded_tuple ha hd ht]) h
      · exact h.elim
theorem headT_op (hn : opsOk n ops = true) {K : TS → Prop} {i : Nat} {o : Oper} {s : TS} {w : World} {H : HT} {a : Act} {Kn : TS → HT → Prop} {listed : Array Bool} {fuel : Nat} (ho : ops[i]? = some o)
    (hc : calm P o = false) (ha : Ag n a s.E) (I : Inv s w) (hH : HI s H w) (h : headT P lv ops i s H Kn)
    (next : ∀ a' s' w' H', Ag n a' s'.E → Inv s' w' → HI s' H' w' → Kn s' H' → wpAnyHs P ops (RegT n K) fuel (hsOf H') (listed.setIfInBounds i true) a' w') :
    wpOp P ops (RegT n K) i (fun a' w' => (∀ p ∈ dropH ops i (hsOf H), p.2 w') ∧ wpAnyHs P ops (RegT n K) fuel (dropH ops i (hsOf H)) (listed.setIfInBounds i true) a' w') a w := by
  have hsel := Region.noSelect_spec (ops := ops) (by unfold opsOk at hn; rw [Bool.and_eq_true] at hn; exact hn.1)
  have step : ∀ (s : TS), Ag n a s.E → Inv s w → HI s H w → Region.wanted o (yielded ops a.tmps) = true → stepT P lv ops true i o s H Kn → wpOp P ops (RegT n K) i (fun a' w' => (∀ p ∈ dropH ops i (hsOf H), p.2 w') ∧ wpAnyHs P ops (RegT n K) fuel (dropH ops i (hsOf H)) (listed.setIfInBounds i true) a' w') a w := fun s ha I hH hwant h => by
    refine wpOp_eff ho hwant (stepT_eff (draw := true) (s := s) (Acts P o a w) (fun K hK => hK) (fun K hK => effVC_sound (fun cs b => hsel i o cs b ho) ha hK) (fun K K' hKK hA Q' => Oper.wp_mono (fun a' w' ⟨v, e, hv⟩ => ⟨v, e, hKK v w' hv⟩) (hA Q')) (fun cs b => hsel i o cs b ho) ha I hH hc h) fun v w' ⟨s', k1, I', HI', e1⟩ => ?_
    rw [hsOf_drop]
    exact ⟨HI'.held, next _ s' w' _ (by rw [e1]; exact ha.put v (opsOk_dst hn ho)) I' HI' k1⟩
  have skip : ∀ (s : TS), Ag n a s.E → Inv s w → HI s H w → Region.wanted o (yielded ops a.tmps) = false → Kn ⟨s.E.put o.dst undef, s.S.put o.dst none, s.L, s.w, s.d⟩ (bif calm P o then H else dropT ops i H) → wpOp P ops (RegT n K) i (fun a' w' => (∀ p ∈ dropH ops i (hsOf H), p.2 w') ∧ wpAnyHs P ops (RegT n K) fuel (dropH ops i (hsOf H)) (listed.setIfInBounds i true) a' w') a w := fun s ha I hH hw h => by
    refine skip_op ho hH.held hw ?_
    rw [hc, cond_false] at h
    rw [hsOf_drop]
    exact next _ _ w _ (ha.put undef (opsOk_dst hn ho)) (I.skip o.dst) (hH.drop.skip rfl) h
  unfold headT at h
  rw [ho] at h
  simp only at h
  cases hg : o.guard with
  | none =>
    rw [hg] at h
    exact step s ha I hH (by simp [Region.wanted, hg]) h
  | some jw =>
    obtain ⟨j, want⟩ := jw
    rw [hg] at h
    simp only at h
    cases hd : gslot ops j with
    | none => rw [hd] at h; exact h.elim
    | some d =>
      rw [hd] at h
      simp only at h
      split at h
      · rename_i t ht
        have hy := yielded_of ha hd ht
        have hg' := guardT_of h
        unfold guardT at hg'
        cases hb : (t == want) with
        | true =>
          rw [hb, cond_true] at hg'
          exact step _ (ha.same ht) (I.same ht) (hH.skip rfl) (by simp [Region.wanted, hg, hy]; simpa using hb) hg'
        | false =>
          rw [hb, cond_false] at hg'
          exact skip _ (ha.same ht) (I.same ht) (hH.skip rfl) (by simp [Region.wanted, hg, hy]; simpa using hb) hg'
      · rename_i vs ht
        exact skip s ha I hH (by simp [Region.wanted, hg, yielded_tuple ha hd ht]) h
      · exact h.elim
theorem trT_sound (hn : opsOk n ops = true) {K : TS → Prop} : ∀ (t : Tr) (alt : Bool) (listed : Array Bool) (s : TS) (w : World) (H : HT) (a : Act) (m : Nat), okTree P ops t alt listed = true → Ag n a s.E → Inv s w → HI s H w → trT P lv ops K t s H →
    (alt = false → t.len = m → wpAnyHs P ops (RegT n K) m (hsOf H) listed a w) ∧
    (alt = true → t.len = m + 1 → ∀ i ∈ t.heads, wpOp P ops (RegT n K) i (fun a' w' => (∀ p ∈ dropH ops i (hsOf H), p.2 w') ∧ wpAnyHs P ops (RegT n K) m (dropH ops i (hsOf H)) (listed.setIfInBounds i true) a' w') a w)
  | .nil, alt, listed, s, w, H, a, m, hok, ha, I, hH, h => by
    unfold okTree at hok
    rw [Bool.and_eq_true] at hok
    refine ⟨fun _ hm => ?_, fun e => ?_⟩
    · subst hm
      exact fun _ => ⟨by simpa using hok.2, s, ha, I, h⟩
    · subst e; simp at hok
  | .one i t, alt, listed, s, w, H, a, m, hok, ha, I, hH, h => by
    unfold okTree at hok
    rw [Bool.and_eq_true] at hok
    obtain ⟨hok, hrest⟩ := hok
    cases ho : ops[i]? with
    | none => rw [ho] at hok; cases hok
    | some o =>
      rw [ho] at hok
      simp only at hok
      unfold trT at h
      refine ⟨fun e hm => ?_, fun e hm j hj => ?_⟩
      · subst e hm
        exact headT_any hn ho hok ha I hH h fun a' s' w' H' hA hI hHH hR => (trT_sound hn t false _ s' w' H' a' _ hrest hA hI hHH hR).1 rfl rfl
      · subst e
        rw [cond_true] at hok
        obtain rfl := List.mem_singleton.1 hj
        have hm' : t.len = m := by simpa [Tr.len] using hm
        exact headT_op hn ho (by simpa using hok) ha I hH h fun a' s' w' H' hA hI hHH hR => (trT_sound hn t false _ s' w' H' a' _ hrest hA hI hHH hR).1 rfl hm'
  | .fork x y, alt, listed, s, w, H, a, m, hok, ha, I, hH, h => by
    unfold okTree at hok
    simp only [Bool.and_eq_true] at hok
    obtain ⟨hr, hl, hx, hy⟩ := hok
    rw [Nat.beq_eq] at hl
    unfold trT at h
    have both : ∀ k, x.len = k + 1 → ∀ i ∈ (Tr.fork x y).heads, wpOp P ops (RegT n K) i (fun a' w' => (∀ p ∈ dropH ops i (hsOf H), p.2 w') ∧ wpAnyHs P ops (RegT n K) k (dropH ops i (hsOf H)) (listed.setIfInBounds i true) a' w') a w := fun k hk i hi => by
      rcases List.mem_append.1 hi with hi | hi
      · exact (trT_sound hn x true listed s w H a k hx ha I hH h.1).2 rfl hk i hi
      · exact (trT_sound hn y true listed s w H a k hy ha I hH h.2).2 rfl (hl ▸ hk) i hi
    refine ⟨fun e hm => ?_, fun _ hm => both m hm⟩
    subst e
    obtain ⟨k, hk⟩ := tree_len x listed hx
    have hm' : m = k + 1 := by rw [← hm, ← hk]; rfl
    subst hm'
    have hr' : Region.ready .any ops listed = (Tr.fork x y).heads := by simpa using hr
    have hne : (Tr.fork x y).heads ≠ [] := by have := tree_heads x listed hx; simp [Tr.heads, this]
    exact fun _ => ⟨fun h0 => absurd (hr' ▸ h0) hne, fun i hi => both k hk i (hr' ▸ hi)⟩
theorem reg_text {c : Code} {a : Act} {s : TS} {w : World} {K : TS → Prop} (hc : regT n c = true) (ha : Ag n a s.E) (I : Inv s w) (h : runT P lv (Code.ops c) false K (List.range (Code.ops c).size) s []) : wpx P n c (RegT n K) a w := by
  unfold regT at hc
  split at hc
  · rename_i id ops d
    rw [Bool.and_eq_true] at hc
    obtain ⟨h1, h2⟩ := hc
    have h3 : d = false := by simpa using h1
    subst h3
    exact wpIn_region (runT_text h2 _ s w a ha I h fun s' w' a' h1 h2 h3 => ⟨s', h1, h2, h3⟩)
  · cases hc
theorem Inv.dr {s : TS} {w : World} {K : TS → Prop} (I : Inv s w) (h : drT s K) : ∃ s', K s' ∧ Inv s' w.drew ∧ s'.E = s.E := by
  have lc : LC w.drew s.L := I.lc.fr (M := fun _ => False) (Fr.drew _ _) (fun _ _ h => h)
  unfold drT at h
  split at h
  · rename_i hL hd
    have hr := I.rel
    rw [hd] at hr
    have : w = s.w := by simpa using hr
    exact ⟨_, h, ⟨lc, by simp [this], I.sl⟩, rfl⟩
  · exact ⟨_, h, ⟨lc, by simpa using I.fr.tr0 (Fr.drew _ _), I.sl⟩, rfl⟩
theorem reg_draw {c : Code} {a : Act} {s : TS} {w : World} {K : TS → Prop} {t : Tr} (hc : regTr P n c t = true) (ha : Ag n a s.E) (I : Inv s w) (h : drT s fun s => trT P lv (Code.ops c) K t s []) : wpx P n c (RegT n K) a w := by
  unfold regTr at hc
  split at hc
  · rename_i id ops d
    simp only [Bool.and_eq_true] at hc
    obtain ⟨rfl, hm, hn, hl, h5⟩ := hc
    rw [Nat.beq_eq] at h5
    obtain ⟨s', hk, I', e⟩ := I.dr h
    have h1 := (trT_sound hn t false _ s' w.drew [] a _ hl (by rw [e]; exact ha) I' (fun p hp => (by cases hp)) hk).1 rfl h5
    have h2 := wpAny_of_helds _ [] _ _ _ (Down.zero _ _) h1
    refine wpIn_region_draw fun t => ?_
    refine wpOps_in hn (fun ⟨_, _, h⟩ => h) _ _ _ ?_
    simp only [Region.schedule, hm, Bool.true_or, if_true]
    exact wpAny_sound ops.size t _ a _ h2
  · cases hc
end
end

/-! ### Whole codes -/
abbrev KT := Exit → TS → Prop
/-- orders of regions; the points with a condition of their own; the slots of variables -/
structure Tab where
  ord : Nat → Option Tr
  pt : List Bool → Option (TS → Prop)
  lv : List Nat
def ptT (tb : Tab) (q : List Bool) (f : TS → Prop) (s : TS) : Prop := match tb.pt q with
  | some F => syn s F
  | none => f s
def seqK (tb : Tab) (q : List Bool) (f : TS → Prop) (K : KT) : KT := fun e s => match e with
  | .normal => ptT tb q f s
  | e => K e s
def blkK (id : Nat) (K : KT) : KT := fun e s => match e with
  | .exit id' => if id' = id then K .normal s else K (.exit id') s
  | e => K e s
def cvc (P : Program) (n : Cx) (tb : Tab) : Code → List Bool → KT → TS → Prop
  | .skip, _, K, s => K .normal s
  | .region id ops true, _, K, s => match tb.ord id with
    | some t => AndT (regTr P n (.region id ops true) t) (drT s fun s => trT P tb.lv ops (K .normal) t s [])
    | none => False
  | .region id ops false, _, K, s => AndT (regT n (.region id ops false)) (runT P tb.lv ops false (K .normal) (List.range ops.size) s [])
  | .seq a b, q, K, s => cvc P n tb a (false :: q) (seqK tb (true :: q) (cvc P n tb b (true :: q) K) K) s
  | .cond o a b, q, K, s => condK (s.E.val o) (ptT tb (false :: q) (cvc P n tb a (false :: q) K) s) (ptT tb (true :: q) (cvc P n tb b (true :: q) K) s)
  | .block id a, q, K, s => cvc P n tb a (false :: q) (blkK id K) s
  | .loop _, q, _, s => ptT tb q (fun _ => False) s
  | .exit id, _, K, s => K (.exit id) s
  | .ret, _, K, s => K .ret s
  | _, _, _, _ => False
section
variable {P : Program} {n : Cx} {tb : Tab}
/-- the code at a path, and what is asked of its end -/
def posC (P : Program) (n : Cx) (c0 : Code) (Q0 : Exit → Act → World → Prop) : List Bool → Code × (Exit → Act → World → Prop)
  | [] => (c0, Q0)
  | b :: q => match posC P n c0 Q0 q, b with
    | (.seq x y, Q), false => (x, Exit.then (wpx P n y Q) Q)
    | (.seq _ y, Q), true => (y, Q)
    | (.cond _ x _, Q), false => (x, Q)
    | (.cond _ _ y, Q), true => (y, Q)
    | (.block id x, Q), _ => (x, Exit.inBlock id Q)
    | (.loop x, Q), _ => (x, Exit.then (LoopWP P n x Q) Q)
    | (_, Q), _ => (.skip, Q)
/-- what a point means -/
def AtC (P : Program) (n : Cx) (p : Code × (Exit → Act → World → Prop)) (a : Act) (w : World) : Prop := match p with
  | (.loop x, Q) => LoopWP P n x Q a w
  | (c, Q) => wpx P n c Q a w
theorem AtC.wp {c : Code} {Q : Exit → Act → World → Prop} {a : Act} {w : World} (h : AtC P n (c, Q) a w) : wpx P n c Q a w := by
  unfold AtC at h
  split at h
  · rename_i x Q' e
    cases e
    exact wp_of_loopWP h
  · rename_i c' Q' _ e
    cases e
    exact h
def KQ (n : Cx) (K : KT) (Q : Exit → Act → World → Prop) : Prop := ∀ e s w a, Ag n a s.E → Inv s w → K e s → Q e a w
def TabOk (P : Program) (n : Cx) (tb : Tab) (c0 : Code) (Q0 : Exit → Act → World → Prop) : Prop := ∀ q F, tb.pt q = some F → ∀ s w a, Ag n a s.E → Inv s w → F s → AtC P n (posC P n c0 Q0 q) a w
variable {c0 : Code} {Q0 : Exit → Act → World → Prop}
theorem ptT_sound (hT : TabOk P n tb c0 Q0) {q : List Bool} {c : Code} {Q : Exit → Act → World → Prop} (hp : posC P n c0 Q0 q = (c, Q)) {f : TS → Prop} {s : TS} {w : World} {a : Act} (ha : Ag n a s.E) (I : Inv s w) (hf : f s → wpx P n c Q a w) (h : ptT tb q f s) : wpx P n c Q a w := by
  unfold ptT at h
  split at h
  · rename_i F hF
    obtain ⟨I', h'⟩ := I.syn h
    have := hT q F hF ⟨s.E, s.S, s.L, w, false⟩ w a ha I' h'
    rw [hp] at this
    exact this.wp
  · exact hf h
theorem region_sound {c : Code} {K : TS → Prop} {Q : Exit → Act → World → Prop} {a : Act} {w : World} (h : wpx P n c (RegT n K) a w) (hk : ∀ s w a, Ag n a s.E → Inv s w → K s → Q .normal a w) : wpx P n c Q a w :=
  wpIn_mono h fun e a' w' he => by
    cases e with
    | normal => obtain ⟨s', hA, hI, hK⟩ := he; exact hk s' w' a' hA hI hK
    | _ => exact he.elim
theorem cvc_sound (hT : TabOk P n tb c0 Q0) : ∀ (c : Code) (q : List Bool) (K : KT) (Q : Exit → Act → World → Prop) (s : TS) (w : World) (a : Act), posC P n c0 Q0 q = (c, Q) → KQ n K Q → Ag n a s.E → Inv s w → cvc P n tb c q K s → wpx P n c Q a w
  | .skip, q, K, Q, s, w, a, hp, hK, ha, I, h => wpIn_skip (hK _ _ _ _ ha I h)
  | .region id ops true, q, K, Q, s, w, a, hp, hK, ha, I, h => by
    unfold cvc at h
    split at h
    · obtain ⟨h1, h2⟩ := AndT_elim h
      exact region_sound (reg_draw (c := .region id ops true) h1 ha I h2) fun s w a h1 h2 h3 => hK _ _ _ _ h1 h2 h3
    · exact h.elim
  | .region id ops false, q, K, Q, s, w, a, hp, hK, ha, I, h => by
    unfold cvc at h
    obtain ⟨h1, h2⟩ := AndT_elim h
    exact region_sound (reg_text (c := .region id ops false) h1 ha I h2) fun s w a h1 h2 h3 => hK _ _ _ _ h1 h2 h3
  | .seq x y, q, K, Q, s, w, a, hp, hK, ha, I, h => by
    unfold cvc at h
    have p1 : posC P n c0 Q0 (false :: q) = (x, Exit.then (wpx P n y Q) Q) := by unfold posC; rw [hp]
    have p2 : posC P n c0 Q0 (true :: q) = (y, Q) := by unfold posC; rw [hp]
    refine wpIn_seq (cvc_sound hT x (false :: q) _ _ s w a p1 (fun e s' w' a' ha' I' hk => ?_) ha I h)
    cases e with
    | normal => exact ptT_sound hT p2 ha' I' (fun h' => cvc_sound hT y (true :: q) K Q s' w' a' p2 hK ha' I' h') hk
    | _ => exact hK _ _ _ _ ha' I' hk
  | .cond o x y, q, K, Q, s, w, a, hp, hK, ha, I, h => by
    unfold cvc at h
    have p1 : posC P n c0 Q0 (false :: q) = (x, Q) := by unfold posC; rw [hp]
    have p2 : posC P n c0 Q0 (true :: q) = (y, Q) := by unfold posC; rw [hp]
    unfold condK at h
    split at h
    · rename_i t ht
      refine wpIn_cond_split (ha.val ht) (fun e => ?_) (fun e => ?_)
      · subst e
        exact ptT_sound hT p1 ha I (fun h' => cvc_sound hT x (false :: q) K Q s w a p1 hK ha I h') h
      · subst e
        exact ptT_sound hT p2 ha I (fun h' => cvc_sound hT y (true :: q) K Q s w a p2 hK ha I h') h
    · exact h.elim
  | .block id x, q, K, Q, s, w, a, hp, hK, ha, I, h => by
    unfold cvc at h
    have p1 : posC P n c0 Q0 (false :: q) = (x, Exit.inBlock id Q) := by unfold posC; rw [hp]
    refine wpIn_block (cvc_sound hT x (false :: q) _ _ s w a p1 (fun e s' w' a' ha' I' hk => ?_) ha I h)
    cases e with
    | exit id' =>
      simp only [blkK] at hk
      simp only [Exit.inBlock]
      split at hk
      · rename_i e; rw [if_pos e]; exact hK _ _ _ _ ha' I' hk
      · rename_i e; rw [if_neg e]; exact hK _ _ _ _ ha' I' hk
    | _ => exact hK _ _ _ _ ha' I' hk
  | .loop x, q, K, Q, s, w, a, hp, hK, ha, I, h => by
    unfold cvc at h
    exact ptT_sound hT hp ha I (fun h' => h'.elim) h
  | .exit id, q, K, Q, s, w, a, hp, hK, ha, I, h => wpIn_exit (hK _ _ _ _ ha I h)
  | .ret, q, K, Q, s, w, a, hp, hK, ha, I, h => wpIn_ret (hK _ _ _ _ ha I h)
  | .rangeFunc .., _, _, _, _, _, _, _, _, _, _, h => h.elim
  | .scope _, _, _, _, _, _, _, _, _, _, _, h => h.elim
  | .label _, _, _, _, _, _, _, _, _, _, _, h => h.elim
  | .goto _, _, _, _, _, _, _, _, _, _, _, h => h.elim
  | .refuse _, _, _, _, _, _, _, _, _, _, _, h => h.elim
def loopK (tb : Tab) (q : List Bool) (K : KT) : KT := fun e s => match e with
  | .normal => ptT tb q (fun _ => False) s
  | e => K e s
/-- the code at a path, and what follows it -/
def kat (P : Program) (n : Cx) (tb : Tab) (c0 : Code) (K0 : KT) : List Bool → Code × KT
  | [] => (c0, K0)
  | b :: q => match kat P n tb c0 K0 q, b with
    | (.seq x y, K), false => (x, seqK tb (true :: q) (cvc P n tb y (true :: q) K) K)
    | (.seq _ y, K), true => (y, K)
    | (.cond _ x _, K), false => (x, K)
    | (.cond _ _ y, K), true => (y, K)
    | (.block id x, K), _ => (x, blkK id K)
    | (.loop x, K), _ => (x, loopK tb q K)
    | (_, K), _ => (.skip, K)
theorem kat_sound (hT : TabOk P n tb c0 Q0) {K0 : KT} (h0 : KQ n K0 Q0) : ∀ q : List Bool, (kat P n tb c0 K0 q).1 = (posC P n c0 Q0 q).1 ∧ KQ n (kat P n tb c0 K0 q).2 (posC P n c0 Q0 q).2
  | [] => ⟨rfl, h0⟩
  | b :: q => by
    obtain ⟨h1, h2⟩ := kat_sound hT h0 q
    unfold kat posC
    generalize hp : posC P n c0 Q0 q = p at h1 h2
    generalize kat P n tb c0 K0 q = k at h1 h2
    obtain ⟨c, Q⟩ := p
    obtain ⟨c', K⟩ := k
    simp only at h1 h2
    subst h1
    cases c' with
    | seq x y =>
      cases b with
      | false =>
        refine ⟨rfl, fun e s w a ha I hk => ?_⟩
        cases e with
        | normal =>
          have p2 : posC P n c0 Q0 (true :: q) = (y, Q) := by unfold posC; rw [hp]
          exact ptT_sound hT p2 ha I (fun h' => cvc_sound hT y (true :: q) K Q s w a p2 h2 ha I h') hk
        | _ => exact h2 _ _ _ _ ha I hk
      | true => exact ⟨rfl, h2⟩
    | cond o x y => cases b <;> exact ⟨rfl, h2⟩
    | block id x =>
      cases b <;> (
        refine ⟨rfl, fun e s w a ha I hk => ?_⟩
        cases e with
        | exit id' =>
          simp only [blkK] at hk
          simp only [Exit.inBlock]
          split at hk
          · rename_i e; rw [if_pos e]; exact h2 _ _ _ _ ha I hk
          · rename_i e; rw [if_neg e]; exact h2 _ _ _ _ ha I hk
        | _ => exact h2 _ _ _ _ ha I hk)
    | loop x =>
      cases b <;> (
        refine ⟨rfl, fun e s w a ha I hk => ?_⟩
        cases e with
        | normal =>
          simp only [loopK, ptT] at hk
          split at hk
          · rename_i F hF
            obtain ⟨I', h'⟩ := I.syn hk
            have := hT q F hF ⟨s.E, s.S, s.L, w, false⟩ w a ha I' h'
            rw [hp] at this
            exact this
          · exact hk.elim
        | _ => exact h2 _ _ _ _ ha I hk)
    | _ => cases b <;> exact ⟨rfl, h2⟩
/-- what a point asks for -/
def condAt (P : Program) (n : Cx) (tb : Tab) (c0 : Code) (K0 : KT) (q : List Bool) (s : TS) : Prop := match kat P n tb c0 K0 q with
  | (.loop x, K) => cvc P n tb x (false :: q) (loopK tb q K) s
  | (c, K) => cvc P n tb c q K s
theorem condAt_sound (hT : TabOk P n tb c0 Q0) {K0 : KT} (h0 : KQ n K0 Q0) {q : List Bool} {s : TS} {w : World} {a : Act} (ha : Ag n a s.E) (I : Inv s w) (h : condAt P n tb c0 K0 q s) : AtC P n (posC P n c0 Q0 q) a w := by
  obtain ⟨h1, h2⟩ := kat_sound hT h0 q
  have h3 := kat_sound hT h0 (false :: q)
  unfold condAt at h
  generalize hp : posC P n c0 Q0 q = p at h1 h2
  generalize hk : kat P n tb c0 K0 q = k at h h1 h2
  obtain ⟨c, Q⟩ := p
  obtain ⟨c', K⟩ := k
  simp only at h1 h2
  subst h1
  cases c' with
  | loop x =>
    have p1 : posC P n c0 Q0 (false :: q) = (x, Exit.then (LoopWP P n x Q) Q) := by unfold posC; rw [hp]
    have k1 : kat P n tb c0 K0 (false :: q) = (x, loopK tb q K) := by unfold kat; rw [hk]
    rw [p1, k1] at h3
    exact loopWP_step (cvc_sound hT x (false :: q) _ _ s w a p1 h3.2 ha I h)
  | _ => exact cvc_sound hT _ q K Q s w a hp h2 ha I h
end

/-! ### Functions -/
section
variable {P : Program}
/-- what a body returns -/
def retT (P : Program) (s : TS) : List ResultVar → (List Value → Prop) → Prop
  | [], K => K []
  | .tmp t :: l, K => match s.E.get? t with
    | some v => retT P s l fun vs => K (v :: vs)
    | none => False
  | .cell x T :: l, K => match s.S.get? x with
    | some (i, j) => match s.L[i]? with
      | some X => ldT P T X.2.1 j fun v => retT P s l fun vs => K (v :: vs)
      | none => False
    | none => match s.E.get? x with
      | some (.pointer (some p)) => ldVC P T p s.w fun v _ => retT P s l fun vs => K (v :: vs)
      | _ => False
def retK (P : Program) (fn : Func) (R : Post) : KT := fun e s => match e with
  | .normal | .ret => syn s fun s => retT P s fn.results.toList fun vs => R (.returned (packR vs)) s.w
  | _ => False
theorem retT_sound {n : Cx} {a : Act} {s : TS} {w : World} (ha : Ag n a s.E) (I : Inv s w) (hw : s.w = w) : ∀ {l : List ResultVar} {K : List Value → Prop}, retT P s l K →
    ∃ vs, (l.mapM (resOf a.tmps)).run P w = .ok vs w ∧ K vs
  | [], K, h => ⟨[], by simp, h⟩
  | .tmp t :: l, K, h => by
    unfold retT at h
    split at h
    · rename_i v hv
      obtain ⟨vs, hr, hk⟩ := retT_sound ha I hw h
      refine ⟨v :: vs, ?_, hk⟩
      have hg := ha.get t v hv
      simp [List.mapM_cons, resOf, hr, hg]
    · exact h.elim
  | .cell x T :: l, K, h => by
    have fin : ∀ (p : Addr) (v : Value), s.E.get? x = some (.pointer (some p)) → (loadVar T p).run P w = .ok v w → (retT P s l fun vs => K (v :: vs)) → ∃ vs, ((ResultVar.cell x T :: l).mapM (resOf a.tmps)).run P w = .ok vs w ∧ K vs := fun p v hp hv h => by
      obtain ⟨vs, hr, hk⟩ := retT_sound ha I hw h
      refine ⟨v :: vs, ?_, hk⟩
      have hg := ha.get x _ hp
      simp [List.mapM_cons, resOf, hr, hg, asAddr, hv]
    unfold retT at h
    split at h
    · rename_i i j hx
      obtain ⟨X, h1, h2⟩ := I.sl x i j hx
      rw [h1] at h
      obtain ⟨v, hk, hv⟩ := ldT_sound (b := X.1) (ty := X.2.2) h
      exact fin _ v h2 (hv w (I.lc.own i X h1)) hk
    · split at h
      · rename_i p hp
        rw [hw] at h
        obtain ⟨v, S, h, hs1, hs2⟩ := ldVC_sound h
        exact fin p v hp (hs2 w hs1) h
      · exact h.elim
theorem retK_sound {m : Nat} {fn : Func} {R : Post} : KQ (cx m) (retK P fn R) (bodyPost P fn R) := by
  intro e s w a ha I h
  have go : (syn s fun s => retT P s fn.results.toList fun vs => R (.returned (packR vs)) s.w) → a.defers = [] ∧ ∃ v, (results fn a.tmps).run P w = .ok v w ∧ R (.returned v) w := fun h => by
    obtain ⟨I', h'⟩ := I.syn h
    obtain ⟨vs, hr, hk⟩ := retT_sound (s := ⟨s.E, s.S, s.L, w, false⟩) ha I' rfl h'
    refine ⟨ha.defers, _, ?_, hk⟩
    rw [results_eq, ← Array.toArray_toList (xs := fn.results), List.mapM_toArray]
    simp only [Sem.run_bind, Sem.run_map, hr, Result.andThen_ok, Sem.run_pure]
    congr 1
    cases vs with
    | nil => rfl
    | cons v vs => cases vs <;> rfl
  unfold retK at h
  cases e with
  | normal => exact go h
  | ret => exact go h
  | _ => exact h.elim
/-- a function -/
theorem calls_of_cvc {f : FuncId} {fn : Func} {c : Code} {args : List Value} {w : World} {R : Post} {tb : Tab} (hf : P.funcs[f]? = some fn) (hb : fn.body = some c) (hsz : Nat.ble args.length fn.ntmps = true)
    (hT : TabOk P (cx fn.ntmps) tb c (bodyPost P fn R)) (h : cvc P (cx fn.ntmps) tb c [] (retK P fn R) ⟨envOf 0 args, [], [], w, false⟩) : Calls P f args.toArray w R :=
  calls_of_WP' hf hb hsz fun a ha => cvc_sound hT c [] _ _ _ w a rfl retK_sound ha ⟨LC.nil _, by simp, fun t i j h => by cases h⟩ h
end

/-! ### Points of the table, from the shapes of what is live -/
inductive Sh
  | i (k : IntKind) | b | st | s | p | r | m | v | f
def Sh.T : Sh → Type
  | .i _ => Int
  | .b => Bool
  | .st => ByteArray
  | .s => Sl
  | .p => Option Addr
  | .r => Addr
  | .m => Option Nat
  | .v => Value
  | .f => Fv
def Sh.val : (h : Sh) → h.T → Value
  | .i k, x => .int k x
  | .b, x => .bool x
  | .st, x => .string x
  | .s, x => Sl.v x
  | .p, x => .pointer x
  | .r, x => .pointer (some x)
  | .m, x => .map x
  | .v, x => x
  | .f, x => Fv.v x
/-- reads a value as a shape says -/
def Sh.rd (h : Sh) (v : Value) (K : h.T → Prop) : Prop := match h, v, K with
  | .i k, .int k' x, K => AndT (k' == k) (K x)
  | .b, .bool x, K => K x
  | .st, .string x, K => K x
  | .s, .slice a n c, K => K ⟨a, n, c⟩
  | .p, .pointer x, K => K x
  | .r, .pointer (some x), K => K x
  | .m, .map x, K => K x
  | .v, x, K => K x
  | .f, .func (.func n) bs cs, K => K ⟨n, bs, cs⟩
  | _, _, _ => False
theorem Sh.rd_elim {h : Sh} {v : Value} {K : h.T → Prop} (hr : h.rd v K) : ∃ x, v = h.val x ∧ K x := by
  unfold Sh.rd at hr
  split at hr <;> first | exact hr.elim | skip
  · obtain ⟨h1, h2⟩ := AndT_elim hr
    have := eq_of_beq h1
    subst this
    exact ⟨_, rfl, h2⟩
  all_goals exact ⟨_, rfl, hr⟩
/-- a value, in the order in which it is read: a part, or so many parts put together -/
inductive Tk
  | o (h : Sh) | a (k : Nat) | t (k : Nat) | g (n j k : Nat)
abbrev Tk.I : Tk := .o (.i .i64)
abbrev Tk.U : Tk := .o (.i .u64)
abbrev Tk.Y : Tk := .o (.i .u8)
abbrev Tk.i (k : IntKind) : Tk := .o (.i k)
abbrev Tk.b : Tk := .o .b
abbrev Tk.st : Tk := .o .st
abbrev Tk.s : Tk := .o .s
abbrev Tk.p : Tk := .o .p
abbrev Tk.r : Tk := .o .r
abbrev Tk.m : Tk := .o .m
abbrev Tk.v : Tk := .o .v
abbrev Tk.f : Tk := .o .f
def Curs : List Tk → Type → Type
  | [], X => X
  | .o h :: l, X => h.T → Curs l X
  | .a _ :: l, X => Curs l X
  | .t _ :: l, X => Curs l X
  | .g _ _ _ :: l, X => Curs l X
/-- what is live in a slot: a value, or the address of a variable with these cells -/
inductive Sp
  | v (l : List Tk)
  | l (l : List Tk) (T : TypeId)
def Cur : List (Nat × Sp) → Type
  | [] => World → Post → Prop
  | (_, .v ts) :: l => Curs ts (Cur l)
  | (_, .l ts _) :: l => Nat → Curs ts (Cur l)
/-- reads several values -/
def rds : (ts : List Tk) → (X : Type) → List Value → Curs ts X → (X → Prop) → Prop
  | [], _, [], F, K => K F
  | .o h :: ts, X, v :: vs, F, K => h.rd v fun x => rds ts X vs (F x) K
  | .a k :: ts, X, .agg a :: vs, F, K => AndT (Nat.beq a.toList.length k) (rds ts X (a.toList ++ vs) F K)
  | .t k :: ts, X, .tuple a :: vs, F, K => AndT (Nat.beq a.toList.length k) (rds ts X (a.toList ++ vs) F K)
  | .g n j k :: ts, X, .func (.func m) bs cs :: vs, F, K => AndT (Nat.beq n m && Nat.beq bs.toList.length j && Nat.beq cs.toList.length k) (rds ts X (bs.toList ++ (cs.toList ++ vs)) F K)
  | _, _, _, _, _ => False
def mks : (ts : List Tk) → (X : Type) → (List Value → X) → Curs ts X
  | [], _, K => K []
  | .o h :: ts, X, K => fun x => mks ts X fun vs => K (h.val x :: vs)
  | .a k :: ts, X, K => mks ts X fun vs => K (.agg (vs.take k).toArray :: vs.drop k)
  | .t k :: ts, X, K => mks ts X fun vs => K (.tuple (vs.take k).toArray :: vs.drop k)
  | .g n j k :: ts, X, K => mks ts X fun vs => K (.func (.func n) (vs.take j).toArray ((vs.drop j).take k).toArray :: (vs.drop j).drop k)
theorem rds_mks : ∀ {ts : List Tk} {X : Type} {vs : List Value} {K : List Value → X} {K2 : X → Prop}, rds ts X vs (mks ts X K) K2 → K2 (K vs) := by
  intro ts
  induction ts with
  | nil =>
    intro X vs K K2 hr
    cases vs with
    | nil => exact hr
    | cons _ _ => exact hr.elim
  | cons t ts ih =>
    intro X vs K K2 hr
    cases t with
    | o h =>
      cases vs with
      | nil => exact hr.elim
      | cons v vs =>
        obtain ⟨x, rfl, h'⟩ := Sh.rd_elim hr
        exact ih (K := fun vs => K (h.val x :: vs)) h'
    | a k =>
      cases vs with
      | nil => exact hr.elim
      | cons v vs =>
        cases v with
        | agg a =>
          obtain ⟨h1, h2⟩ := AndT_elim (show AndT (Nat.beq a.toList.length k) (rds ts X (a.toList ++ vs) _ K2) from hr)
          rw [Nat.beq_eq] at h1
          have := ih (K := fun vs => K (.agg (vs.take k).toArray :: vs.drop k)) h2
          rw [List.take_left' h1, List.drop_left' h1] at this
          exact this
        | _ => exact hr.elim
    | t k =>
      cases vs with
      | nil => exact hr.elim
      | cons v vs =>
        cases v with
        | tuple a =>
          obtain ⟨h1, h2⟩ := AndT_elim (show AndT (Nat.beq a.toList.length k) (rds ts X (a.toList ++ vs) _ K2) from hr)
          rw [Nat.beq_eq] at h1
          have := ih (K := fun vs => K (.tuple (vs.take k).toArray :: vs.drop k)) h2
          rw [List.take_left' h1, List.drop_left' h1] at this
          exact this
        | _ => exact hr.elim
    | g n j k =>
      cases vs with
      | nil => exact hr.elim
      | cons v vs =>
        cases v with
        | func fr bs cs =>
          cases fr with
          | func m =>
            obtain ⟨h1, h2⟩ := AndT_elim (show AndT (Nat.beq n m && Nat.beq bs.toList.length j && Nat.beq cs.toList.length k) (rds ts X (bs.toList ++ (cs.toList ++ vs)) _ K2) from hr)
            rw [Bool.and_eq_true, Bool.and_eq_true, Nat.beq_eq, Nat.beq_eq, Nat.beq_eq] at h1
            obtain ⟨⟨h3, h4⟩, h5⟩ := h1
            have := ih (K := fun vs => K (.func (.func n) (vs.take j).toArray ((vs.drop j).take k).toArray :: (vs.drop j).drop k)) h2
            rw [List.take_left' h4, List.drop_left' h4, List.take_left' h5, List.drop_left' h5, h3] at this
            exact this
          | _ => exact hr.elim
        | _ => exact hr.elim
/-- the condition of a point, from what it says of the environment and the variables -/
def mkCur : (l : List (Nat × Sp)) → Nat → (Env → Sv → Lv → World → Post → Prop) → Cur l
  | [], _, K => K [] [] []
  | (t, .v ts) :: l, n, K => mks ts (Cur l) fun vs => mkCur l n fun E S L => K ((t, vs.headD undef) :: E) S L
  | (t, .l ts T) :: l, n, K => fun b => mks ts (Cur l) fun vs => mkCur l (n + 1) fun E S L => K ((t, .pointer (some (at0 b))) :: E) ((t, some (n, 0)) :: S) ((b, vs, T) :: L)
/-- a point's condition where it is reached -/
def rdCur : (l : List (Nat × Sp)) → Cur l → TS → List Nat → World → Post → Prop
  | [], F, _, _, w, R => F w R
  | (t, .v ts) :: l, F, s, is, w, R => match s.E.get? t with
    | some v => rds ts (Cur l) [v] F fun G => rdCur l G s is w R
    | none => False
  | (t, .l ts T) :: l, F, s, is, w, R => match s.S.get? t with
    | some (i, 0) => match s.L[i]? with
      | some X => AndT (Nat.beq X.2.2 T && !is.any (Nat.beq i)) (rds ts (Cur l) X.2.1 (F X.1) fun G => rdCur l G s (i :: is) w R)
      | none => False
    | _ => False
theorem get_cons {E E' : Env} {t : Nat} {v : Value} (ht : E'.get? t = some v) (h : ∀ t v, E.get? t = some v → E'.get? t = some v) : ∀ t' v', Env.get? ((t, v) :: E) t' = some v' → E'.get? t' = some v' := fun t' v' hv => by
  simp only [Env.get?] at hv
  cases hb : Nat.beq t t' with
  | true =>
    rw [hb, cond_true] at hv
    rw [Nat.beq_eq] at hb
    subst hb
    cases hv
    exact ht
  | false =>
    rw [hb, cond_false] at hv
    exact h t' v' hv
/-- what is read of a state -/
structure RdS (s : TS) (n : Nat) (is js : List Nat) (E : Env) (S : Sv) : Prop where
  sub : ∀ t v, E.get? t = some v → s.E.get? t = some v
  nd : js.Nodup
  dj : ∀ j ∈ js, j ∉ is
  lt : ∀ j ∈ js, ∃ X, s.L[j]? = some X
  sl : ∀ t i k, S.get? t = some (i, k) → n ≤ i ∧ ∃ j, js[i - n]? = some j ∧ s.S.get? t = some (j, k) ∧ ∃ v, E.get? t = some v
theorem rdCur_mk {s : TS} {w : World} (I : Inv s w) {R : Post} : ∀ {l : List (Nat × Sp)} {n : Nat} {K : Env → Sv → Lv → World → Post → Prop} {is : List Nat}, rdCur l (mkCur l n K) s is w R →
    ∃ E S js, RdS s n is js E S ∧ K E S (js.filterMap fun j => (s.L[j]? : Option (Nat × List Value × TypeId))) w R := by
  intro l
  induction l with
  | nil =>
    intro n K is h
    exact ⟨[], [], [], ⟨fun t v h => by (simp [Env.get?] at h), .nil, fun _ h => by (cases h), fun _ h => by (cases h), fun t i k h => by (cases h)⟩, h⟩
  | cons p l ih =>
    intro n K is h
    obtain ⟨t, sp⟩ := p
    cases sp with
    | v ts =>
      unfold rdCur at h
      split at h
      · rename_i v hv
        have h' := rds_mks (K := fun vs => mkCur l n fun E S L => K ((t, vs.headD undef) :: E) S L) h
        obtain ⟨E, S, js, hr, hk⟩ := ih h'
        refine ⟨(t, v) :: E, S, js, ⟨get_cons hv hr.sub, hr.nd, hr.dj, hr.lt, fun t' i k hs => ?_⟩, hk⟩
        obtain ⟨h1, j, h2, h3, v', h4⟩ := hr.sl t' i k hs
        refine ⟨h1, j, h2, h3, ?_⟩
        simp only [Env.get?]
        cases Nat.beq t t' with
        | true => exact ⟨_, rfl⟩
        | false => exact ⟨_, h4⟩
      · exact h.elim
    | l ts T =>
      unfold rdCur at h
      split at h
      · rename_i i hi
        split at h
        · rename_i X hX
          obtain ⟨h1, h2⟩ := AndT_elim h
          rw [Bool.and_eq_true, Nat.beq_eq, Bool.not_eq_true', List.any_eq_false] at h1
          have h' := rds_mks (K := fun vs => mkCur l (n + 1) fun E S L => K ((t, .pointer (some (at0 X.1))) :: E) ((t, some (n, 0)) :: S) ((X.1, vs, T) :: L)) h2
          obtain ⟨E, S, js, hr, hk⟩ := ih h'
          obtain ⟨X', hX', hp⟩ := I.sl t i 0 hi
          rw [hX] at hX'
          cases hX'
          refine ⟨(t, .pointer (some (at0 X.1))) :: E, (t, some (n, 0)) :: S, i :: js, ⟨get_cons ?_ hr.sub, List.nodup_cons.2 ⟨fun hm => hr.dj i hm (by simp), hr.nd⟩, fun j hj => ?_, fun j hj => ?_, fun t' i' k hs => ?_⟩, ?_⟩
          · rw [hp, add0]
          · rcases List.mem_cons.1 hj with rfl | hj
            · intro hm
              have := h1.2 j hm
              simp at this
            · exact fun hm => hr.dj j hj (List.mem_cons_of_mem _ hm)
          · rcases List.mem_cons.1 hj with rfl | hj
            · exact ⟨X, hX⟩
            · exact hr.lt j hj
          · simp only [Sv.get?] at hs
            cases hb : Nat.beq t t' with
            | true =>
              rw [hb, cond_true] at hs
              rw [Nat.beq_eq] at hb
              subst hb
              cases hs
              refine ⟨Nat.le_refl _, i, by simp, hi, .pointer (some (at0 X.1)), ?_⟩
              simp [Env.get?]
            | false =>
              rw [hb, cond_false] at hs
              obtain ⟨g1, j, g2, g3, v', g4⟩ := hr.sl t' i' k hs
              refine ⟨by omega, j, ?_, g3, v', ?_⟩
              · have : i' - n = (i' - (n + 1)) + 1 := by omega
                rw [this, List.getElem?_cons_succ]
                exact g2
              · simp only [Env.get?, hb, cond_false]
                exact g4
          · have e : (X.1, X.2.1, T) = X := by rw [← h1.1]
            rw [List.filterMap_cons_some hX]
            simp only [e] at hk
            exact hk
        · exact h.elim
      · exact h.elim
theorem RdS.inv {s : TS} {w : World} (I : Inv s w) {js : List Nat} {E : Env} {S : Sv} (h : RdS s 0 [] js E S) : Inv ⟨E, S, js.filterMap fun j => (s.L[j]? : Option (Nat × List Value × TypeId)), w, false⟩ w := by
  refine ⟨I.lc.pick js h.nd, by simp, fun t i k hs => ?_⟩
  obtain ⟨-, j, h2, h3, v, h4⟩ := h.sl t i k hs
  obtain ⟨X, hX, hp⟩ := I.sl t j k h3
  have := h.sub t v h4
  rw [hp] at this
  cases this
  refine ⟨X, ?_, h4⟩
  have all : ∀ (js : List Nat) (i : Nat), (∀ j ∈ js, ∃ X, s.L[j]? = some X) → js[i]? = some j → (js.filterMap fun j => (s.L[j]? : Option (Nat × List Value × TypeId)))[i]? = some X := by
    intro js
    induction js with
    | nil => intro i _ hi; simp at hi
    | cons a js ih =>
      intro i hl hi
      obtain ⟨Y, hY⟩ := hl a (by simp)
      rw [List.filterMap_cons_some hY]
      cases i with
      | zero => simp at hi; subst hi; rw [hX] at hY; cases hY; rfl
      | succ i => simpa using ih i (fun j hj => hl j (List.mem_cons_of_mem _ hj)) (by simpa using hi)
  exact all js i h.lt (by simpa using h2)
/-- goes from one condition of a point to another -/
def Imps : (ts : List Tk) → (X : Type) → (X → X → Prop) → Curs ts X → Curs ts X → Prop
  | [], _, r, F, G => r F G
  | .o h :: ts, X, r, F, G => ∀ x : h.T, Imps ts X r (F x) (G x)
  | .a _ :: ts, X, r, F, G => Imps ts X r F G
  | .t _ :: ts, X, r, F, G => Imps ts X r F G
  | .g _ _ _ :: ts, X, r, F, G => Imps ts X r F G
def Imp : (l : List (Nat × Sp)) → Cur l → Cur l → Prop
  | [], F, G => ∀ (w : World) (R : Post), F w R → G w R
  | (_, .v ts) :: l, F, G => Imps ts (Cur l) (Imp l) F G
  | (_, .l ts _) :: l, F, G => ∀ b : Nat, Imps ts (Cur l) (Imp l) (F b) (G b)
theorem imps_mk : ∀ {ts : List Tk} {X : Type} {r : X → X → Prop} {K1 K2 : List Value → X}, (∀ vs, r (K1 vs) (K2 vs)) → Imps ts X r (mks ts X K1) (mks ts X K2) := by
  intro ts
  induction ts with
  | nil => intro X r K1 K2 h; exact h []
  | cons t ts ih =>
    intro X r K1 K2 h
    cases t with
    | o hh => intro x; exact ih fun vs => h _
    | a k => exact ih fun vs => h _
    | t k => exact ih fun vs => h _
    | g n j k => exact ih fun vs => h _
theorem imp_mk : ∀ {l : List (Nat × Sp)} {n : Nat} {K1 K2 : Env → Sv → Lv → World → Post → Prop}, (∀ E S L w R, K1 E S L w R → K2 E S L w R) → Imp l (mkCur l n K1) (mkCur l n K2) := by
  intro l
  induction l with
  | nil => intro n K1 K2 h w R; exact h _ _ _ w R
  | cons p l ih =>
    intro n K1 K2 h
    obtain ⟨t, sp⟩ := p
    cases sp with
    | v ts => exact imps_mk fun vs => ih fun E S L w R => h _ _ _ w R
    | l ts T => intro b; exact imps_mk fun vs => ih fun E S L w R => h _ _ _ w R

/-! ### A function with its points -/
structure Fx where
  P : Program
  fn : Func
  ord : List (Nat × Tr)
  lv : List Nat
def Fx.c (X : Fx) : Code := X.fn.body.getD .skip
def Fx.n (X : Fx) : Cx := cx X.fn.ntmps
def lkO : List (Nat × Tr) → Nat → Option Tr
  | [], _ => none
  | (i, l) :: o, j => bif Nat.beq i j then some l else lkO o j
def Fx.at (X : Fx) (q : List Bool) (R : Post) (a : Act) (w : World) : Prop := AtC X.P X.n (posC X.P X.n X.c (bodyPost X.P X.fn R) q) a w
/-- what a loop's head means -/
def Fx.Sem (X : Fx) (q : List Bool) (E : Env) (S : Sv) (L : Lv) (w : World) (R : Post) : Prop := ∀ a, Ag X.n a E → Inv ⟨E, S, L, w, false⟩ w → X.at q R a w
structure Ent (X : Fx) where
  q : List Bool
  sp : List (Nat × Sp)
  F : Cur sp
  ok : ∀ (R : Post) (s : TS) (w : World) (a : Act), Ag X.n a s.E → Inv s w → rdCur sp F s [] w R → X.at q R a w
def beqQ : List Bool → List Bool → Bool
  | [], [] => true
  | a :: l, b :: m => (match a, b with | true, true => true | false, false => true | _, _ => false) && beqQ l m
  | _, _ => false
theorem beqQ_eq : ∀ {l m : List Bool}, beqQ l m = true → l = m
  | [], [], _ => rfl
  | a :: l, b :: m, h => by
    unfold beqQ at h
    rw [Bool.and_eq_true] at h
    rw [beqQ_eq h.2]
    cases a <;> cases b <;> simp_all
  | [], _ :: _, h => by cases h
  | _ :: _, [], h => by cases h
def lkE {X : Fx} (R : Post) : List (Ent X) → List Bool → Option (TS → Prop)
  | [], _ => none
  | e :: es, q => bif beqQ e.q q then some fun s => match s.d with
    | true => False
    | false => rdCur e.sp e.F s [] s.w R else lkE R es q
def Fx.tab (X : Fx) (es : List (Ent X)) (R : Post) : Tab := ⟨lkO X.ord, lkE R es, X.lv⟩
theorem Fx.tabOk {X : Fx} {es : List (Ent X)} {R : Post} : TabOk X.P X.n (X.tab es R) X.c (bodyPost X.P X.fn R) := by
  intro q F hF s w a ha I h
  have hF' : lkE R es q = some F := hF
  clear hF
  induction es with
  | nil => cases hF'
  | cons e es ih =>
    unfold lkE at hF'
    cases hb : beqQ e.q q with
    | true =>
      rw [hb, cond_true] at hF'
      cases hF'
      have := beqQ_eq hb
      subst this
      cases hd : s.d with
      | true => rw [hd] at h; exact h.elim
      | false =>
        rw [hd] at h
        have hr := I.rel
        rw [hd] at hr
        have hw : w = s.w := by simpa using hr
        rw [← hw] at h
        exact e.ok R s w a ha I h
    | false =>
      rw [hb, cond_false] at hF'
      exact ih hF'
def Fx.Cnd (X : Fx) (es : List (Ent X)) (q : List Bool) (E : Env) (S : Sv) (L : Lv) (w : World) (R : Post) : Prop := condAt X.P X.n (X.tab es R) X.c (retK X.P X.fn R) q ⟨E, S, L, w, false⟩
theorem Fx.cnd_sem {X : Fx} {es : List (Ent X)} {q : List Bool} {E : Env} {S : Sv} {L : Lv} {w : World} {R : Post} (h : X.Cnd es q E S L w R) : X.Sem q E S L w R := fun a ha I => condAt_sound (s := ⟨E, S, L, w, false⟩) (Fx.tabOk (es := es)) retK_sound ha I h
theorem ent_ok {X : Fx} {q : List Bool} {sp : List (Nat × Sp)} {K : Env → Sv → Lv → World → Post → Prop} (hk : ∀ E S L w R, K E S L w R → X.Sem q E S L w R) (R : Post) (s : TS) (w : World) (a : Act) (ha : Ag X.n a s.E) (I : Inv s w) (h : rdCur sp (mkCur sp 0 K) s [] w R) : X.at q R a w := by
  obtain ⟨E, S, js, hr, hK⟩ := rdCur_mk I h
  exact hk _ _ _ _ _ hK a ⟨ha.defers, ha.size, fun t v hv => ha.get t v (hr.sub t v hv)⟩ (hr.inv I)
/-- the head of a loop, with a name -/
def entL (X : Fx) (q : List Bool) (sp : List (Nat × Sp)) (F : Cur sp) (e : F = mkCur sp 0 (X.Sem q) := by kernel_rfl) : Ent X := ⟨q, sp, F, fun R s w a ha I h => by
  subst e; exact ent_ok (fun _ _ _ _ _ h => h) R s w a ha I h⟩
/-- a join, with a name -/
def entS (X : Fx) (es : List (Ent X)) (q : List Bool) (sp : List (Nat × Sp)) (F : Cur sp) (e : F = mkCur sp 0 (X.Cnd es q) := by kernel_rfl) : Ent X := ⟨q, sp, F, fun R s w a ha I h => by
  subst e; exact ent_ok (fun _ _ _ _ _ h => Fx.cnd_sem h) R s w a ha I h⟩
theorem stepL {X : Fx} (es : List (Ent X)) (q : List Bool) (sp : List (Nat × Sp)) : Imp sp (mkCur sp 0 (X.Cnd es q)) (mkCur sp 0 (X.Sem q)) := imp_mk fun _ _ _ _ _ h => Fx.cnd_sem h
theorem callsX (X : Fx) (es : List (Ent X)) {f : FuncId} {args : List Value} {w : World} {R : Post} {T : Prop} (h : T) (hf : X.P.funcs[f]? = some X.fn := by kernel_rfl) (hb : X.fn.body = some X.c := by kernel_rfl) (hsz : Nat.ble args.length X.fn.ntmps = true := by kernel_rfl)
    (e : T = cvc X.P X.n (X.tab es R) X.c [] (retK X.P X.fn R) ⟨envOf 0 args, [], [], w, false⟩ := by kernel_rfl) : Calls X.P f args.toArray w R :=
  calls_of_cvc hf hb hsz Fx.tabOk (e ▸ h)
/-- a path by counts: true, false, true .. -/
def pthB : Bool → List Nat → List Bool
  | _, [] => []
  | b, n :: l => List.replicate n b ++ pthB (!b) l
abbrev pth (l : List Nat) : List Bool := pthB true l
abbrev Ps := List (Nat × Sp)
/-- one order, as a tree -/
abbrev ls (l : List Nat) : Tr := Tr.sq l .nil
end Go.W
set_option linter.unusedVariables false
set_option maxRecDepth 100000
set_option maxHeartbeats 2000000
namespace Go.Proofs.YtibaobaobnpdaaaGreatDoor
open Go Go.W
theorem mp {a b : Prop} (h : a) (e : a = b := by kernel_rfl) : b := e ▸ h
abbrev ExP := Exit → Act → World → Prop
abbrev KOk (P : Program) (n : Nat) (K : Env → World → Post → Prop) (c : Code) (Q : Post → ExP) : Prop := ∀ (R : Post) (E : Env) (w : World), K E w R → WP P (cx n) c (Q R) E w
abbrev LOk (P : Program) (n : Nat) (K : Env → World → Post → Prop) (c : Code) (Q : Post → ExP) : Prop := ∀ (R : Post) (E : Env) (w : World), K E w R → LP P (cx n) c (Q R) E w
abbrev ld3_2 (w : World) (p : Addr) (K : Int → Int → Int → Prop) : Prop := ∃ a0 : Int, ∃ a1 : Int, ∃ a2 : Int, w.cell? (p.add 0) = some (.i a0) ∧ w.cell? (p.add 1) = some (.i a1) ∧ w.cell? (p.add 2) = some (.i a2) ∧ K a0 a1 a2
abbrev ld9_3 (w : World) (p : Addr) (K : Int → Sl → Int → Int → Int → ByteArray → Int → Int → Int → Prop) : Prop := ∃ a0 : Int, ∃ a1 : Sl, ∃ a2 : Int, ∃ a3 : Int, ∃ a4 : Int, ∃ a5 : ByteArray, ∃ a6 : Int, ∃ a7 : Int, ∃ a8 : Int, w.cell? (p.add 0) = some (.i a0) ∧ w.cell? (p.add 1) = some (a1.v) ∧ w.cell? (p.add 2) = some (.i a2) ∧ w.cell? (p.add 3) = some (.i a3) ∧ w.cell? (p.add 4) = some (.u a4) ∧ w.cell? (p.add 5) = some (.string a5) ∧ w.cell? (p.add 6) = some (.i a6) ∧ w.cell? (p.add 7) = some (.i a7) ∧ w.cell? (p.add 8) = some (.i a8) ∧ K a0 a1 a2 a3 a4 a5 a6 a7 a8
abbrev ld4_4 (w : World) (p : Addr) (K : Int → Int → Int → Int → Prop) : Prop := ∃ a0 : Int, ∃ a1 : Int, ∃ a2 : Int, ∃ a3 : Int, w.cell? (p.add 0) = some (.i a0) ∧ w.cell? (p.add 1) = some (.i a1) ∧ w.cell? (p.add 2) = some (.i a2) ∧ w.cell? (p.add 3) = some (.i a3) ∧ K a0 a1 a2 a3
abbrev ld7_5 (w : World) (p : Addr) (K : Int → ByteArray → Int → Int → Int → Int → Int → Prop) : Prop := ∃ a0 : Int, ∃ a1 : ByteArray, ∃ a2 : Int, ∃ a3 : Int, ∃ a4 : Int, ∃ a5 : Int, ∃ a6 : Int, w.cell? (p.add 0) = some (.i a0) ∧ w.cell? (p.add 1) = some (.string a1) ∧ w.cell? (p.add 2) = some (.i a2) ∧ w.cell? (p.add 3) = some (.i a3) ∧ w.cell? (p.add 4) = some (.i a4) ∧ w.cell? (p.add 5) = some (.i a5) ∧ w.cell? (p.add 6) = some (.i a6) ∧ K a0 a1 a2 a3 a4 a5 a6
abbrev ld3_6 (w : World) (p : Addr) (K : Int → ByteArray → Int → Prop) : Prop := ∃ a0 : Int, ∃ a1 : ByteArray, ∃ a2 : Int, w.cell? (p.add 0) = some (.i a0) ∧ w.cell? (p.add 1) = some (.string a1) ∧ w.cell? (p.add 2) = some (.i a2) ∧ K a0 a1 a2
abbrev ca0 (f : FuncId) (xs : Array Value) (w : World) (K : Bool → World → Prop) : Prop := Calls Tryz.prog f xs w fun r_ w1 => ∃ a0 : Bool, r_ = .returned (.bool a0) ∧ K a0 w1
abbrev cf0 (bs : List Nat) (f : FuncId) (xs : Array Value) (w : World) (K : Bool → World → Prop) : Prop := callF bs Tryz.prog f xs w fun r_ w1 => ∃ a0 : Bool, r_ = .returned (.bool a0) ∧ K a0 w1
abbrev ca1 (f : FuncId) (xs : Array Value) (w : World) (K : Int → World → Prop) : Prop := Calls Tryz.prog f xs w fun r_ w1 => ∃ a0 : Int, r_ = .returned (.i a0) ∧ K a0 w1
abbrev cf1 (bs : List Nat) (f : FuncId) (xs : Array Value) (w : World) (K : Int → World → Prop) : Prop := callF bs Tryz.prog f xs w fun r_ w1 => ∃ a0 : Int, r_ = .returned (.i a0) ∧ K a0 w1
abbrev ca3 (f : FuncId) (xs : Array Value) (w : World) (K : Sl → World → Prop) : Prop := Calls Tryz.prog f xs w fun r_ w1 => ∃ a0 : Sl, r_ = .returned (a0.v) ∧ K a0 w1
abbrev cf3 (bs : List Nat) (f : FuncId) (xs : Array Value) (w : World) (K : Sl → World → Prop) : Prop := callF bs Tryz.prog f xs w fun r_ w1 => ∃ a0 : Sl, r_ = .returned (a0.v) ∧ K a0 w1
abbrev ca4 (f : FuncId) (xs : Array Value) (w : World) (K : World → Prop) : Prop := Calls Tryz.prog f xs w fun r_ w1 => r_ = .returned (.tuple #[]) ∧ K w1
abbrev cf4 (bs : List Nat) (f : FuncId) (xs : Array Value) (w : World) (K : World → Prop) : Prop := callF bs Tryz.prog f xs w fun r_ w1 => r_ = .returned (.tuple #[]) ∧ K w1
abbrev cf5 (bs : List Nat) (f : FuncId) (xs : Array Value) (w : World) (K : Int → Int → World → Prop) : Prop := callF bs Tryz.prog f xs w fun r_ w1 => ∃ a0 : Int, ∃ a1 : Int, r_ = .returned (.tuple #[.i a0, .i a1]) ∧ K a0 a1 w1
abbrev cf6 (bs : List Nat) (f : FuncId) (xs : Array Value) (w : World) (K : Int → Bool → World → Prop) : Prop := callF bs Tryz.prog f xs w fun r_ w1 => ∃ a0 : Int, ∃ a1 : Bool, r_ = .returned (.tuple #[.i a0, .bool a1]) ∧ K a0 a1 w1
abbrev cf9 (bs : List Nat) (f : FuncId) (xs : Array Value) (w : World) (K : (Option Addr) → World → Prop) : Prop := callF bs Tryz.prog f xs w fun r_ w1 => ∃ a0 : Option Addr, r_ = .returned (.pointer a0) ∧ K a0 w1
abbrev ca10 (f : FuncId) (xs : Array Value) (w : World) (K : Value → World → Prop) : Prop := Calls Tryz.prog f xs w fun r_ w1 => ∃ a0 : Value, r_ = .returned (a0) ∧ K a0 w1
abbrev ca11 (f : FuncId) (xs : Array Value) (w : World) (K : (Option Nat) → World → Prop) : Prop := Calls Tryz.prog f xs w fun r_ w1 => ∃ a0 : Option Nat, r_ = .returned (.map a0) ∧ K a0 w1
abbrev cf11 (bs : List Nat) (f : FuncId) (xs : Array Value) (w : World) (K : (Option Nat) → World → Prop) : Prop := callF bs Tryz.prog f xs w fun r_ w1 => ∃ a0 : Option Nat, r_ = .returned (.map a0) ∧ K a0 w1
abbrev cf12 (bs : List Nat) (f : FuncId) (xs : Array Value) (w : World) (K : Int → Int → Int → Sl → Int → World → Prop) : Prop := callF bs Tryz.prog f xs w fun r_ w1 => ∃ a0 : Int, ∃ a1 : Int, ∃ a2 : Int, ∃ a3 : Sl, ∃ a4 : Int, r_ = .returned (.tuple #[.agg #[.i a0, .int .u8 a1, .int .u8 a2, a3.v], .i a4]) ∧ K a0 a1 a2 a3 a4 w1
abbrev cf13 (bs : List Nat) (f : FuncId) (xs : Array Value) (w : World) (K : Int → Int → Int → World → Prop) : Prop := callF bs Tryz.prog f xs w fun r_ w1 => ∃ a0 : Int, ∃ a1 : Int, ∃ a2 : Int, r_ = .returned (.agg #[.i a0, .i a1, .i a2]) ∧ K a0 a1 a2 w1
abbrev cf14 (bs : List Nat) (f : FuncId) (xs : Array Value) (w : World) (K : Int → Int → Int → Int → World → Prop) : Prop := callF bs Tryz.prog f xs w fun r_ w1 => ∃ a0 : Int, ∃ a1 : Int, ∃ a2 : Int, ∃ a3 : Int, r_ = .returned (.tuple #[.agg #[.i a0, .i a1, .i a2], .i a3]) ∧ K a0 a1 a2 a3 w1
abbrev cf15 (bs : List Nat) (f : FuncId) (xs : Array Value) (w : World) (K : ByteArray → Int → World → Prop) : Prop := callF bs Tryz.prog f xs w fun r_ w1 => ∃ a0 : ByteArray, ∃ a1 : Int, r_ = .returned (.tuple #[.string a0, .i a1]) ∧ K a0 a1 w1
abbrev ca16 (f : FuncId) (xs : Array Value) (w : World) (K : ByteArray → World → Prop) : Prop := Calls Tryz.prog f xs w fun r_ w1 => ∃ a0 : ByteArray, r_ = .returned (.string a0) ∧ K a0 w1
abbrev cf16 (bs : List Nat) (f : FuncId) (xs : Array Value) (w : World) (K : ByteArray → World → Prop) : Prop := callF bs Tryz.prog f xs w fun r_ w1 => ∃ a0 : ByteArray, r_ = .returned (.string a0) ∧ K a0 w1
abbrev ca18 (f : FuncId) (xs : Array Value) (w : World) (K : Int → World → Prop) : Prop := Calls Tryz.prog f xs w fun r_ w1 => ∃ a0 : Int, r_ = .returned (.u a0) ∧ K a0 w1
abbrev ca19 (f : FuncId) (xs : Array Value) (w : World) (K : Int → Value → World → Prop) : Prop := Calls Tryz.prog f xs w fun r_ w1 => ∃ a0 : Int, ∃ a1 : Value, r_ = .returned (.tuple #[.i a0, a1]) ∧ K a0 a1 w1
abbrev cf19 (bs : List Nat) (f : FuncId) (xs : Array Value) (w : World) (K : Int → Value → World → Prop) : Prop := callF bs Tryz.prog f xs w fun r_ w1 => ∃ a0 : Int, ∃ a1 : Value, r_ = .returned (.tuple #[.i a0, a1]) ∧ K a0 a1 w1
abbrev ca20 (f : FuncId) (xs : Array Value) (w : World) (K : Sl → Int → World → Prop) : Prop := Calls Tryz.prog f xs w fun r_ w1 => ∃ a0 : Sl, ∃ a1 : Int, r_ = .returned (.tuple #[a0.v, .i a1]) ∧ K a0 a1 w1
abbrev ca21 (f : FuncId) (xs : Array Value) (w : World) (K : Int → ByteArray → Int → World → Prop) : Prop := Calls Tryz.prog f xs w fun r_ w1 => ∃ a0 : Int, ∃ a1 : ByteArray, ∃ a2 : Int, r_ = .returned (.agg #[.i a0, .string a1, .i a2]) ∧ K a0 a1 a2 w1
abbrev cf21 (bs : List Nat) (f : FuncId) (xs : Array Value) (w : World) (K : Int → ByteArray → Int → World → Prop) : Prop := callF bs Tryz.prog f xs w fun r_ w1 => ∃ a0 : Int, ∃ a1 : ByteArray, ∃ a2 : Int, r_ = .returned (.agg #[.i a0, .string a1, .i a2]) ∧ K a0 a1 a2 w1
abbrev cf22 (bs : List Nat) (f : FuncId) (xs : Array Value) (w : World) (K : Sl → Int → Int → Bool → World → Prop) : Prop := callF bs Tryz.prog f xs w fun r_ w1 => ∃ a0 : Sl, ∃ a1 : Int, ∃ a2 : Int, ∃ a3 : Bool, r_ = .returned (.tuple #[.agg #[a0.v, .i a1, .i a2], .bool a3]) ∧ K a0 a1 a2 a3 w1
abbrev cf23 (bs : List Nat) (f : FuncId) (xs : Array Value) (w : World) (K : Sl → Int → Int → World → Prop) : Prop := callF bs Tryz.prog f xs w fun r_ w1 => ∃ a0 : Sl, ∃ a1 : Int, ∃ a2 : Int, r_ = .returned (.tuple #[.agg #[a0.v], .i a1, .i a2]) ∧ K a0 a1 a2 w1
abbrev cf24 (bs : List Nat) (f : FuncId) (xs : Array Value) (w : World) (K : Int → Sl → Int → Int → Int → ByteArray → Int → Int → Int → World → Prop) : Prop := callF bs Tryz.prog f xs w fun r_ w1 => ∃ a0 : Int, ∃ a1 : Sl, ∃ a2 : Int, ∃ a3 : Int, ∃ a4 : Int, ∃ a5 : ByteArray, ∃ a6 : Int, ∃ a7 : Int, ∃ a8 : Int, r_ = .returned (.agg #[.i a0, a1.v, .i a2, .i a3, .u a4, .string a5, .i a6, .i a7, .i a8]) ∧ K a0 a1 a2 a3 a4 a5 a6 a7 a8 w1
abbrev cf25 (bs : List Nat) (f : FuncId) (xs : Array Value) (w : World) (K : Sl → Int → Int → World → Prop) : Prop := callF bs Tryz.prog f xs w fun r_ w1 => ∃ a0 : Sl, ∃ a1 : Int, ∃ a2 : Int, r_ = .returned (.tuple #[a0.v, .i a1, .i a2]) ∧ K a0 a1 a2 w1
abbrev cf26 (bs : List Nat) (f : FuncId) (xs : Array Value) (w : World) (K : Sl → World → Prop) : Prop := callF bs Tryz.prog f xs w fun r_ w1 => ∃ a0 : Sl, r_ = .returned (.agg #[a0.v]) ∧ K a0 w1
abbrev cf27 (bs : List Nat) (f : FuncId) (xs : Array Value) (w : World) (K : Sl → Int → Int → Int → World → Prop) : Prop := callF bs Tryz.prog f xs w fun r_ w1 => ∃ a0 : Sl, ∃ a1 : Int, ∃ a2 : Int, ∃ a3 : Int, r_ = .returned (.tuple #[.agg #[a0.v], .i a1, .i a2, .i a3]) ∧ K a0 a1 a2 a3 w1
abbrev hdW3 (w : World) (p : Addr) (v0 v1 v2 : Value) (K : Unit → Prop) : Prop := w.cell? (p.add 0) = some v0 ∧ w.cell? (p.add 1) = some v1 ∧ w.cell? (p.add 2) = some v2 ∧ K ()
abbrev hdW9 (w : World) (p : Addr) (v0 v1 v2 v3 v4 v5 v6 v7 v8 : Value) (K : Unit → Prop) : Prop := w.cell? (p.add 0) = some v0 ∧ w.cell? (p.add 1) = some v1 ∧ w.cell? (p.add 2) = some v2 ∧ w.cell? (p.add 3) = some v3 ∧ w.cell? (p.add 4) = some v4 ∧ w.cell? (p.add 5) = some v5 ∧ w.cell? (p.add 6) = some v6 ∧ w.cell? (p.add 7) = some v7 ∧ w.cell? (p.add 8) = some v8 ∧ K ()
abbrev stW3 (w : World) (p : Addr) (v0 v1 v2 : Value) (K : World → Prop) : Prop := stV w p v0 fun w => stV w (p.add 1) v1 fun w => stV w (p.add 2) v2 fun w => K w
abbrev stW9 (w : World) (p : Addr) (v0 v1 v2 v3 v4 v5 v6 v7 v8 : Value) (K : World → Prop) : Prop := stV w p v0 fun w => stV w (p.add 1) v1 fun w => stV w (p.add 2) v2 fun w => stV w (p.add 3) v3 fun w => stV w (p.add 4) v4 fun w => stV w (p.add 5) v5 fun w => stV w (p.add 6) v6 fun w => stV w (p.add 7) v7 fun w => stV w (p.add 8) v8 fun w => K w
abbrev ty_ : Nat := 0
abbrev ty_func : Nat := 1
abbrev ty_int : Nat := 3
abbrev ty_bool : Nat := 4
abbrev ty_uint8 : Nat := 5
abbrev ty_string : Nat := 9
abbrev ty_api_Sort : Nat := 23
abbrev ty_sl_int : Nat := 24
abbrev ty_api_Node : Nat := 27
abbrev ty_sl_api_Node : Nat := 28
abbrev ty_api_Errno : Nat := 30
abbrev ty_term_Graph : Nat := 34
abbrev ty_parse_Command : Nat := 38
abbrev ty_parse_Script : Nat := 41
abbrev ty_p_print_printer : Nat := 47
abbrev ty_sl_string : Nat := 49
abbrev ty_map_string_bool : Nat := 50
abbrev ty_sl_bool : Nat := 51
abbrev ty_print_printer : Nat := 53
abbrev ty_p_strings_Builder : Nat := 54
abbrev ty_sl_uint8 : Nat := 55
abbrev ty_strings_Builder : Nat := 57
abbrev ty_sl_lexer_Token : Nat := 69
abbrev ty_p_parse_reader : Nat := 72
abbrev ty_lexer_Token : Nat := 78
abbrev ty_map_string_parse_operation : Nat := 80
abbrev ty_map_string_int : Nat := 81
abbrev ty_parse_reader : Nat := 84
abbrev ty_p_term_builder : Nat := 85
abbrev ty_map_int_string : Nat := 92
abbrev ty_p_uint8 : Nat := 97
abbrev ty_func_lexer_Token_lexer_fault : Nat := 105
abbrev ty_lexer_fault : Nat := 108
abbrev ty_parse_fault : Nat := 112
abbrev ty_map_string_api_Sort : Nat := 119
abbrev ty_term_builder : Nat := 121
abbrev ty_4_int : Nat := 129
abbrev ty_unsafe_Pointer : Nat := 131
abbrev ty_parse_operation : Nat := 145
abbrev ty_parse_macro : Nat := 148
abbrev ty_35_int : Nat := 158
abbrev ty_3_api_Sort : Nat := 159
abbrev ty_wire_Writer : Nat := 165
abbrev ty_regex_Regex : Nat := 209
abbrev n_enthymemelaw11_PrintLimits : Nat := 3
abbrev n_enthymemeref01_Around : Nat := 4
abbrev n_print_Term : Nat := 5
abbrev n_enthymemelaw11_graph : Nat := 6
abbrev n_print_Script : Nat := 7
abbrev n_parse_Term : Nat := 8
abbrev n_enthymemelaw11_lives : Nat := 9
abbrev n_term_Valid : Nat := 10
abbrev n_print_newPrinter : Nat := 11
abbrev n_strings_Builder_Grow : Nat := 12
abbrev n_print_printer_write : Nat := 13
abbrev n_strings_Builder_String : Nat := 14
abbrev n_print_printer_proper : Nat := 15
abbrev n_print_capped : Nat := 16
abbrev n_print_printer_lineLength : Nat := 17
abbrev n_strings_Builder_WriteString : Nat := 18
abbrev n_print_lineHead : Nat := 19
abbrev n_lexer_Tokens : Nat := 20
abbrev n_parse_newReader : Nat := 21
abbrev n_parse_reader_run : Nat := 22
abbrev n_parse_Term_1 : Nat := 23
abbrev n_parse_reader_term : Nat := 24
abbrev n_parse_reader_need : Nat := 25
abbrev n_term_newBuilder : Nat := 26
abbrev n_term_builder_sortOf : Nat := 27
abbrev n_term_builder_find : Nat := 28
abbrev n_term_builder_put : Nat := 29
abbrev n_print_operationWords : Nat := 30
abbrev n_print_nodeHead : Nat := 31
abbrev n_print_printer_measure : Nat := 32
abbrev n_strings_Builder_copyCheck : Nat := 33
abbrev n_strings_Builder_grow : Nat := 34
abbrev n_strings_Builder_WriteByte : Nat := 35
abbrev n_print_isName : Nat := 36
abbrev n_print_printer_properDeclare : Nat := 37
abbrev n_print_printer_properTerm : Nat := 38
abbrev n_print_sortText : Nat := 39
abbrev n_strconv_Itoa : Nat := 40
abbrev n_lexer_each : Nat := 41
abbrev n_lexer_reader : Nat := 42
abbrev n_parse_operations : Nat := 43
abbrev n_term_Vars : Nat := 44
abbrev n_parse_reader_run_1 : Nat := 45
abbrev n_parse_reader_next : Nat := 46
abbrev n_parse_reader_unexpected : Nat := 47
abbrev n_parse_reader_fail : Nat := 48
abbrev n_parse_reader_name : Nat := 49
abbrev n_parse_reader_number : Nat := 50
abbrev n_parse_reader_add : Nat := 51
abbrev n_parse_reader_compound : Nat := 52
abbrev n_term_sortOf : Nat := 53
abbrev n_term_builder_sortOf_1 : Nat := 54
abbrev n_term_keyOf : Nat := 55
abbrev n_bits_Text : Nat := 56
abbrev n_lexer_Quote : Nat := 57
abbrev n_print_printer_measure_1 : Nat := 58
abbrev n_internal_abi_NoEscape : Nat := 59
abbrev n_internal_bytealg_MakeNoZero : Nat := 60
abbrev n_term_Needs : Nat := 61
abbrev n_internal_strconv_Itoa : Nat := 62
abbrev n_lexer_each_1 : Nat := 63
abbrev n_lexer_reader_1 : Nat := 64
abbrev n_strings_IndexByte : Nat := 65
abbrev n_lexer_reader_2 : Nat := 66
abbrev n_lexer_quoted : Nat := 67
abbrev n_lexer_small_byte : Nat := 68
abbrev n_lexer_digit_byte : Nat := 69
abbrev n_lexer_examine : Nat := 70
abbrev n_parse_reader_macro : Nat := 71
abbrev n_parse_reader_body : Nat := 72
abbrev n_term_Add : Nat := 74
abbrev n_parse_reader_isOperation : Nat := 75
abbrev n_parse_reader_node : Nat := 76
abbrev n_parse_reader_call : Nat := 77
abbrev n_term_fieldsFit : Nat := 78
abbrev n_term_sortOfVar : Nat := 79
abbrev n_term_sortOfLeaf : Nat := 80
abbrev n_term_sortOfBits : Nat := 81
abbrev n_term_sortOfArrays : Nat := 82
abbrev n_term_sortOfStrings : Nat := 83
abbrev n_term_write : Nat := 84
abbrev n_wire_Writer_Done : Nat := 85
abbrev n_bits_Valid : Nat := 86
abbrev n_bits_mask : Nat := 87
abbrev n_lexer_bare : Nat := 88
abbrev n_internal_strconv_FormatInt : Nat := 89
abbrev n_internal_stringslite_IndexByte : Nat := 90
abbrev n_lexer_item : Nat := 91
abbrev n_lexer_allDigits : Nat := 92
abbrev n_term_SortOf : Nat := 95
abbrev n_term_search : Nat := 96
abbrev n_slices_Clone_sl_int_int : Nat := 97
abbrev n_parse_reader_integer : Nat := 98
abbrev n_parse_reader_sort : Nat := 99
abbrev n_parse_reader_regex : Nat := 100
abbrev n_term_isName : Nat := 101
abbrev n_value_ValidSort : Nat := 102
abbrev n_term_str : Nat := 103
abbrev n_term_isArray : Nat := 104
abbrev n_term_result : Nat := 105
abbrev n_term_isBV : Nat := 106
abbrev n_term_bv : Nat := 107
abbrev n_term_alike : Nat := 108
abbrev n_term_isStr : Nat := 109
abbrev n_term_isNormal : Nat := 110
abbrev n_wire_Writer_Int : Nat := 111
abbrev n_wire_Writer_Ints : Nat := 112
abbrev n_wire_Writer_Uint : Nat := 113
abbrev n_wire_Writer_Text : Nat := 114
abbrev n_slices_Clone_sl_byte_byte : Nat := 115
abbrev n_internal_strconv_small : Nat := 116
abbrev n_internal_bytealg_IndexByteString : Nat := 120
abbrev n_strings_IndexFunc : Nat := 121
abbrev n_lexer_allDigits_1 : Nat := 122
abbrev n_lexer_digit_rune : Nat := 123
abbrev n_term_SortOf_1 : Nat := 130
abbrev n_term_sameNode : Nat := 131
abbrev n_strings_indexFunc : Nat := 141
abbrev n_slices_Equal_sl_int_int : Nat := 144
abbrev n_regex_forms_1 : Nat := 171
abbrev n_regex_forms_2 : Nat := 172
abbrev n_regex_forms_2_1 : Nat := 173
abbrev n_regex_forms_3 : Nat := 181
abbrev n_regex_forms_4 : Nat := 182
namespace enthymemeref01_Around
noncomputable abbrev X : Fx := ⟨Tryz.prog, Tryz.f4, [], []⟩
abbrev P0 : Ps := [(0, .v [.I]), (1, .v [.I])]
abbrev S0 (n0 most1 : Int) (w : World) (R : Post) : Prop :=
  most1 ≠ 0 ∧ R (.returned (.i (Int.tmod n0 most1))) w
noncomputable def eS0 := entS X [] (pth [2]) P0 S0
theorem ok (n0 most1 : Int) (w : World) (R : Post) (h : sel (decide (n0 < 0)) (S0 (IntKind.wrap .i64 (0 - (IntKind.wrap .i64 (n0 + 1)))) most1 w R) (S0 n0 most1 w R)) : Calls Tryz.prog n_enthymemeref01_Around #[.i n0, .i most1] w R := callsX X [eS0] h
end enthymemeref01_Around
end Go.Proofs.YtibaobaobnpdaaaGreatDoor
namespace Go.Proofs.YtibaobaobnpdaaaGreatDoor
open Go Go.W Go.RowKit Go.Lib

theorem el_bytes : ElemOk Tryz.prog ty_sl_uint8 ty_uint8 (.int .u8 0) 1 1 := ⟨by kernel_rfl, by kernel_rfl, rfl, by decide, by decide⟩
theorem el_ints : ElemOk Tryz.prog ty_sl_int ty_int (.int .i64 0) 1 8 := ⟨by kernel_rfl, by kernel_rfl, rfl, by decide, by decide⟩
abbrev Bytes (w : World) (s : Sl) (bs : List UInt8) : Prop := Rd w s (bs.map byteV)
abbrev BytesO (w : World) (s : Sl) (bs : List UInt8) : Prop := Ow w ty_uint8 s (bs.map byteV)
abbrev Nums (w : World) (s : Sl) (l : List Int) : Prop := Rd w s (l.map intV)
theorem Bytes.len {w : World} {s : Sl} {bs : List UInt8} (h : Bytes w s bs) : s.n = bs.length := by simpa using h.1
theorem Nums.len {w : World} {s : Sl} {bs : List Int} (h : Nums w s bs) : s.n = bs.length := by simpa using h.1
theorem Bytes.cell {w : World} {s : Sl} {bs : List UInt8} (h : Bytes w s bs) {i j : Nat} {b : UInt8} (hi : bs[i]? = some b) (hj : j = i * 1) {K : Addr → Prop} (hk : ∀ p, s.a = some p → w.cell? (p.add j) = some (.int .u8 (b.toNat : Int)) → K p) : W.optP s.a K :=
  Rd.get h (i := i) (v := byteV b) (by simp [hi]) hj hk
theorem Nums.cell {w : World} {s : Sl} {l : List Int} (h : Nums w s l) {i j : Nat} {b : Int} (hi : l[i]? = some b) (hj : j = i * 1) {K : Addr → Prop} (hk : ∀ p, s.a = some p → w.cell? (p.add j) = some (.int .i64 b) → K p) : W.optP s.a K :=
  Rd.get h (i := i) (v := intV b) (by simp [hi]) hj hk
theorem Bytes.sub {w : World} {s : Sl} {bs : List UInt8} (h : Bytes w s bs) (l hi : Nat) (hl : l ≤ hi) (hh : hi ≤ bs.length) : Bytes w (sub s l hi) ((bs.take hi).drop l) := by
  have := Rd.sub h l hi hl (by simpa using hh)
  rwa [← List.map_take, ← List.map_drop] at this
theorem Nums.sub {w : World} {s : Sl} {bs : List Int} (h : Nums w s bs) (l hi : Nat) (hl : l ≤ hi) (hh : hi ≤ bs.length) : Nums w (sub s l hi) ((bs.take hi).drop l) := by
  have := Rd.sub h l hi hl (by simpa using hh)
  rwa [← List.map_take, ← List.map_drop] at this
theorem append_bytes {ty : TypeId} {w : World} {s src : Sl} {xs ys : List UInt8} (ho : BytesO w s xs) (hr : Bytes w src ys) (hb : xs.length + ys.length ≤ 140737488355328) :
    ∃ s' w', (Builtin.append_ #[ty_sl_uint8, ty_sl_uint8] ty #[s.v, src.v]).run Tryz.prog w = .ok s'.v w' ∧ BytesO w' s' (xs ++ ys) ∧ Fr (fun b => b ∈ blkL s) w w' ∧ (∀ b ∈ blkL s', b ∈ blkL s ∨ w.heap.size ≤ b) ∧ (s'.a = none → s.a = none ∧ ys = []) := by
  obtain ⟨s', w', g1, g2, g3, g4, g5⟩ := append_ow (ty := ty) el_bytes ho hr (byteV_one _) (by simpa using hb)
  exact ⟨s', w', g1, by unfold BytesO; rw [List.map_append]; exact g2, g3, g4, fun h => ⟨(g5 h).1, by simpa using (g5 h).2⟩⟩
theorem one_rd (w : World) (T : TypeId) (cs : List Value) (h : cs.length ≤ 1000000) : Rd (w.alloc (.cells cs.toArray T)) ⟨some ⟨w.heap.size, 0, none⟩, cs.length, cs.length⟩ cs := (Ow.made w T cs _ rfl h).rd
theorem one_byte (w : World) (b : UInt8) : Bytes (w.alloc (.cells #[.int .u8 (b.toNat : Int)] ty_uint8)) ⟨some ⟨w.heap.size, 0, none⟩, 1, 1⟩ [b] := one_rd w ty_uint8 [byteV b] (by simp)
/-! ### Strings -/
def bl (s : ByteArray) : List UInt8 := s.data.toList
def ba (l : List UInt8) : ByteArray := ⟨l.toArray⟩
theorem bl_ba (l : List UInt8) : bl (ba l) = l := rfl
theorem ba_bl (s : ByteArray) : ba (bl s) = s := rfl
theorem bl_len (s : ByteArray) : (bl s).length = s.size := rfl
theorem ba_size (l : List UInt8) : (ba l).size = l.length := by simp [ba, ByteArray.size]
theorem strCells_bl (s : ByteArray) : strCells s = (bl s).map byteV := by
  simp [strCells, bl, byteV]
theorem str_und : Tryz.prog.underlying ty_string = some .string := by kernel_rfl
theorem u8_und : Tryz.prog.underlying ty_uint8 = some (.int .u8) := by kernel_rfl
theorem append_str {ty : TypeId} {w : World} {s : Sl} {xs : List UInt8} (ho : BytesO w s xs) (t : ByteArray) (hb : xs.length + t.size ≤ 140737488355328) :
    ∃ s' w', (Builtin.append_ #[ty_sl_uint8, ty_string] ty #[s.v, .string t]).run Tryz.prog w = .ok s'.v w' ∧ BytesO w' s' (xs ++ bl t) ∧ Fr (fun b => b ∈ blkL s) w w' ∧ (∀ b ∈ blkL s', b ∈ blkL s ∨ w.heap.size ≤ b) := by
  obtain ⟨i, hi, hz, hsz, hby⟩ := info_parts el_bytes.hi
  have hn : s.n = xs.length := by simpa using ho.1
  have main : ∀ base, base ≤ w.heap.size → w.ownsRow base ty_uint8 1 s.v s.n (xs.map byteV) → ∃ v' w', (Builtin.append_ #[ty_sl_uint8, ty_string] ty #[s.v, .string t]).run Tryz.prog w = .ok v' w' ∧ w'.ownsRow base ty_uint8 1 v' (s.n + t.size) (xs.map byteV ++ strCells t) ∧ w.grownBy w' s.v.ownBlock ∧ (v' = .slice none 0 0 ↔ s.v = .slice none 0 0 ∧ t.size = 0) :=
    fun base hb0 h0 => run_append_own_string (P := Tryz.prog) w base ty_sl_uint8 ty_string ty ty_uint8 i el_bytes.ht str_und hi hz hsz hby s.v s.n (xs.map byteV) h0 t (by unfold maxLen; omega) (by omega) hb0
  obtain ⟨v', w', hrun, hown, hgr, hnil⟩ := main 0 (Nat.zero_le _) ho.2
  have hv : ∃ s' : Sl, v' = s'.v ∧ s'.n = s.n + t.size := by
    rcases hown.2 with ⟨h1, h2⟩ | ⟨g, cap, cur, h1, _⟩
    · exact ⟨⟨none, 0, 0⟩, h1, by show 0 = _; omega⟩
    · exact ⟨⟨_, _, _⟩, h1, rfl⟩
  obtain ⟨s', rfl, hn'⟩ := hv
  have hfr : Fr (fun b => b ∈ blkL s) w w' := by
    refine Fr.grown hgr fun g hg => ?_
    rw [ownBlock_v] at hg
    cases hsa : s.a with
    | none => simp [hsa] at hg
    | some p => simp [hsa] at hg; simp [blkL, hsa, hg]
  refine ⟨s', w', hrun, ⟨?_, ?_⟩, hfr, ?_⟩
  · rw [hn', hn]; simp [bl_len]
  · have h2 := hown
    rw [strCells_bl, ← List.map_append] at h2
    unfold OwnRow; rw [hn']; exact h2
  · intro g hg
    rcases ho.2.cases with ⟨rfl, hx⟩ | ⟨g0, cur, hga, hgg, hnc, hcm, hcsz, htk⟩
    · obtain ⟨v2, w2, hrun2, hown2, _, _⟩ := main w.heap.size (Nat.le_refl _) (by rw [hx]; exact World.ownsRow_nil w _ _ _)
      have e1 : (Result.ok s'.v w' : Result Value) = .ok v2 w2 := hrun.symm.trans hrun2
      have e2 := (Result.ok.inj e1).1
      subst e2
      rcases hown2.2 with ⟨h1, _⟩ | ⟨g2, cap2, cur2, h1, h2, _⟩
      · have : s'.a = none := (Value.slice.inj h1).1
        simp [blkL, this] at hg
      · have : s'.a = some ⟨g2, 0, none⟩ := (Value.slice.inj h1).1
        simp [blkL, this] at hg
        exact .inr (hg ▸ h2)
    · obtain ⟨sa0, sn0, sc0⟩ := s
      simp only at hga hnc hcsz htk hn
      subst hga
      by_cases hroom : sn0 + t.size ≤ sc0
      · have hr2 := run_append_room_string (P := Tryz.prog) w ty_sl_uint8 ty_string ty ty_uint8 i el_bytes.ht str_und hi hsz g0 sn0 sc0 cur hgg t hroom (by omega)
        have e1 := hrun.symm.trans hr2
        have : s'.a = some ⟨g0, 0, none⟩ := (Value.slice.inj (Result.ok.inj e1).1).1
        simp [blkL, this] at hg ⊢
        exact .inl hg
      · have holds : ∀ j u, (xs.map byteV)[j]? = some u → w.cell? ((⟨g0, 0, none⟩ : Addr).add j) = some u := World.ownsRow.cells (g := g0) ho.2 rfl
        have hr2 := run_append_grow_string (P := Tryz.prog) w ty_sl_uint8 ty_string ty ty_uint8 i (.int .u8 0) el_bytes.ht str_und hi hz ⟨g0, 0, none⟩ sn0 sc0 (xs.map byteV) (by rw [hsz]; simp; omega) holds t (by omega) (by omega) (growslice_fits (by omega) (by rw [hby]; omega))
        have e1 := hrun.symm.trans hr2
        have : s'.a = some ⟨w.heap.size, 0, none⟩ := (Value.slice.inj (Result.ok.inj e1).1).1
        simp [blkL, this] at hg
        exact .inr (by omega)
/-- string(b) -/
theorem bytes_str {w : World} {s : Sl} {bs : List UInt8} (h : Bytes w s bs) : (Go.convert ty_sl_uint8 ty_string s.v).run Tryz.prog w = .ok (.string (ba bs)) w := by
  obtain ⟨a, n, c⟩ := s
  have hn := Bytes.len h
  simp only at hn
  subst hn
  cases a with
  | none =>
    obtain ⟨e1, e2⟩ := h.2.2.1 rfl
    simp only at e1 e2
    obtain rfl : bs = [] := List.eq_nil_of_length_eq_zero e1
    rw [run_convert_bytes_string (P := Tryz.prog) w ty_sl_uint8 ty_string ty_uint8 _ _ _ el_bytes.ht u8_und str_und]
    rfl
  | some p =>
    refine run_convert_bytes_back (P := Tryz.prog) w ty_sl_uint8 ty_string ty_uint8 p c bs el_bytes.ht u8_und str_und fun j hj => ?_
    obtain ⟨q, hq, hc⟩ := h.2.2.2 j (byteV bs[j]) (by simp [List.getElem?_eq_getElem hj])
    cases hq; exact hc
theorem make_own {t e : TypeId} {z : Value} {bytes : Nat} (el : ElemOk Tryz.prog t e z 1 bytes) (w : World) (kl kc : IntKind) (n : Nat) (hb : n * bytes ≤ 140737488355328) :
    ∃ w', (Instr.makeSlice t (.int kl 0) (.int kc (n : Int))).run Tryz.prog w = .ok (.slice (some ⟨w.heap.size, 0, none⟩) 0 n) w' ∧ Ow w' e ⟨some ⟨w.heap.size, 0, none⟩, 0, n⟩ [] ∧ Fr0 w w' := by
  obtain ⟨i, hi, hz, hsz, hby⟩ := info_parts el.hi
  have hcl : n ≤ 140737488355328 := by
    have := Nat.le_mul_of_pos_right n el.hb
    omega
  obtain ⟨w', h1, h2, h3⟩ := run_make_own (P := Tryz.prog) w 0 t e i z 1 el.ht hi hz hsz kl kc n (by rw [hby, Nat.mul_comm]; omega) (by unfold maxLen; omega) (Nat.zero_le _)
  exact ⟨w', h1, ⟨rfl, h2⟩, Fr.grown h3 fun _ h => by cases h⟩

/-! ### What came in -/
theorem rd_in {w : World} {s : Sl} {vs : List Value} (hn : s.n = vs.length) (hc : s.n ≤ s.c) (h0 : s.a = none → s.c = 0) (h : ∀ i v, vs[i]? = some v → ∃ p, s.a = some p ∧ w.cell? (p.add i) = some v) : Rd w s vs :=
  ⟨hn, hc, fun ha => ⟨by have := h0 ha; omega, h0 ha⟩, h⟩
/-- a row that was just made, and nothing else written -/
def NewBytes (w : World) (bs : List UInt8) : Post := fun r w' => ∃ s : Sl, r = .returned s.v ∧ BytesO w' s bs ∧ Fr0 w w' ∧ ∀ b ∈ blkL s, w.heap.size ≤ b
end Go.Proofs.YtibaobaobnpdaaaGreatDoor
namespace Go.Proofs.YtibaobaobnpdaaaGreatDoor
open Go Go.W
def aroundI (n m : Int) : Int := if n < 0 then Int.tmod (0 - (n + 1)) m else Int.tmod n m
theorem aroundI_range (n m : Int) (hm : 1 ≤ m) : 0 ≤ aroundI n m ∧ aroundI n m < m := by
  unfold aroundI
  split
  · exact ⟨Int.tmod_nonneg _ (by omega), Int.tmod_lt_of_pos _ (by omega)⟩
  · exact ⟨Int.tmod_nonneg _ (by omega), Int.tmod_lt_of_pos _ (by omega)⟩
abbrev I64 (n : Int) : Prop := -9223372036854775808 ≤ n ∧ n ≤ 9223372036854775807
theorem around_any (n m : Int) (w : World) (hm : 1 ≤ m) (h : I64 n) :
    Calls Tryz.prog n_enthymemeref01_Around #[.int .i64 n, .int .i64 m] w fun r w' => r = .returned (.int .i64 (aroundI n m)) ∧ w = w' := by
  obtain ⟨h1, h2⟩ := h
  refine enthymemeref01_Around.ok n m w _ ?_
  refine sel_intro (fun h => ?_) (fun h => ?_)
  · have h' : n < 0 := by simpa using h
    refine ⟨by omega, ?_, rfl⟩
    rw [show IntKind.wrap .i64 (n + 1) = n + 1 from IntWalk.i64_in _ (by omega), show IntKind.wrap .i64 (0 - (n + 1)) = 0 - (n + 1) from IntWalk.i64_in _ (by omega)]
    unfold aroundI; rw [if_pos h']
  · have h' : ¬ n < 0 := by simpa using h
    refine ⟨by omega, ?_, rfl⟩
    unfold aroundI; rw [if_neg h']

end Go.Proofs.YtibaobaobnpdaaaGreatDoor
namespace Go.Proofs.YtibaobaobnpdaaaGreatDoor
open Go Go.W

/-! ### Varints -/
def encU (n : Nat) : List UInt8 := if n < 128 then [UInt8.ofNat n] else UInt8.ofNat (n % 128 + 128) :: encU (n / 128)
termination_by n
decreasing_by omega
theorem encU_small {n : Nat} (h : n < 128) : encU n = [UInt8.ofNat n] := by rw [encU, if_pos h]
theorem encU_large {n : Nat} (h : ¬ n < 128) : encU n = UInt8.ofNat (n % 128 + 128) :: encU (n / 128) := by rw [encU, if_neg h]
theorem encU_len : ∀ (d n : Nat), n < 2 * 128 ^ d → (encU n).length ≤ d + 1
  | 0, n, h => by rw [encU_small (by omega)]; simp
  | d + 1, n, h => by
    by_cases hn : n < 128
    · rw [encU_small hn]; simp
    · rw [encU_large hn]
      have := encU_len d (n / 128) (by rw [Nat.pow_succ] at h; omega)
      simp; omega

/-! ### What a reader does -/
def zz (n : Int) : Nat := if 0 ≤ n then (2 * n).toNat else (-(2 * n) - 1).toNat
theorem zz_lt (n : Int) (h1 : -9223372036854775808 ≤ n) (h2 : n ≤ 9223372036854775807) : zz n < 18446744073709551616 := by
  unfold zz; split <;> omega
end Go.Proofs.YtibaobaobnpdaaaGreatDoor
namespace Go.Proofs.YtibaobaobnpdaaaGreatDoor
open Go Go.W

def encI (n : Int) : List UInt8 := encU (zz n)
def encR (b : List UInt8) : List UInt8 := encU b.length ++ b
def encL (l : List Int) : List UInt8 := encU l.length ++ l.flatMap encI
theorem encU_len10 (n : Nat) (h : n < 18446744073709551616) : (encU n).length ≤ 10 := encU_len 9 n (by simpa using h)
theorem encI_len (n : Int) (h : I64 n) : (encI n).length ≤ 10 := encU_len10 _ (zz_lt n h.1 h.2)
end Go.Proofs.YtibaobaobnpdaaaGreatDoor
set_option linter.unusedVariables false
set_option maxRecDepth 100000
set_option maxHeartbeats 2000000
namespace Go.Proofs.YtibaobaobnpdaaaGreatDoor
open Go Go.W
namespace value_ValidSort
noncomputable abbrev X : Fx := ⟨Tryz.prog, Tryz.f102, [], [1]⟩
abbrev P0 : Ps := []
abbrev S1T  (w : World) (R : Post) : Prop :=
  R (.returned (.i 9)) w
noncomputable def eS1 := entS X [] (pth [0, 1, 1, 1, 3]) P0 S1T
abbrev S2T  (w : World) (R : Post) : Prop :=
  R (.returned (.i 9)) w
noncomputable def eS2 := entS X [eS1] (pth [0, 1, 1, 1, 4]) P0 S2T
abbrev S3T  (w : World) (R : Post) : Prop :=
  R (.returned (.i 0)) w
noncomputable def eS3 := entS X [eS2, eS1] (pth [5]) P0 S3T
abbrev P1 : Ps := [(1, .l [.I, .I, .I] ty_api_Sort), (3, .v [.I]), (4, .v [.I]), (5, .v [.b])]
abbrev S0T (s1 : Nat) (s1_0 s1_1 s1_2 least3 most4 : Int) (index5 : Bool) (w : World) (R : Post) : Prop :=
  sel (decide (s1_1 < least3)) (S1T  w R) (sel (decide (s1_1 > most4)) (S1T  w R) (sel index5 (sel (decide (s1_2 < 1)) (S2T  w R) (sel (decide (s1_2 > 16)) (S2T  w R) (sel (!index5) (sel (s1_2 != 0) (S2T  w R) (S3T  w R)) (S3T  w R)))) (sel (!index5) (sel (s1_2 != 0) (S2T  w R) (S3T  w R)) (S3T  w R))))
noncomputable def eS0 := entS X [eS3, eS2, eS1] (pth [3]) P1 S0T
theorem okT (s0_0 s0_1 s0_2 : Int) (w : World) (R : Post) (h : newV [] w fun b1 w1 => 
  sel (s0_0 == 0) (S0T b1 s0_0 s0_1 s0_2 1 64 false w1 R) (sel (s0_0 == 1) (S0T b1 s0_0 s0_1 s0_2 0 64 false w1 R) (sel (s0_0 == 2) (S0T b1 s0_0 s0_1 s0_2 1 64 true w1 R) (sel (s0_0 == 3) (S0T b1 s0_0 s0_1 s0_2 0 64 true w1 R) (R (.returned (.i 9)) w1))))) : Calls Tryz.prog n_value_ValidSort #[.agg #[.i s0_0, .i s0_1, .i s0_2]] w R := callsX X [eS0, eS3, eS2, eS1] h
end value_ValidSort
namespace term_isName
noncomputable abbrev X : Fx := ⟨Tryz.prog, Tryz.f101, [], []⟩
abbrev P0 : Ps := []
abbrev S0  (w : World) (R : Post) : Prop :=
  R (.returned (.bool false)) w
noncomputable def eS0 := entS X [] (pth [0, 1, 1, 1, 1]) P0 S0
abbrev P1 : Ps := [(0, .v [.st]), (3, .v [.I])]
def L1 (s0 : ByteArray) (i3 : Int) (w : World) (R : Post) : Prop := mkCur P1 0 (X.Sem (pth [0, 1, 1, 1, 2])) s0 i3 w R
noncomputable def eL1 := entL X (pth [0, 1, 1, 1, 2]) P1 L1
abbrev S4  (w : World) (R : Post) : Prop :=
  R (.returned (.bool false)) w
noncomputable def eS4 := entS X [eL1, eS0] (pth [0, 1, 3, 2, 1, 2, 1, 1, 2]) P0 S4
abbrev S5 (s0 : ByteArray) (i3 : Int) (w : World) (R : Post) : Prop :=
  L1 s0 (IntKind.wrap .i64 (i3 + 1)) w R
noncomputable def eS5 := entS X [eS4, eL1, eS0] (pth [2, 2, 1, 1, 2]) P1 S5
abbrev P2 : Ps := [(0, .v [.st]), (3, .v [.I]), (4, .v [.Y]), (5, .v [.b])]
abbrev S3 (s0 : ByteArray) (i3 c4 : Int) (letter5 : Bool) (w : World) (R : Post) : Prop :=
  sel (!letter5) (sel (i3 == 0) (S4  w R) (sel (c4 != 45) (sel (decide (c4 < 48)) (S4  w R) (sel (decide (c4 > 57)) (S4  w R) (S5 s0 i3 w R))) (S5 s0 i3 w R))) (S5 s0 i3 w R)
noncomputable def eS3 := entS X [eS5, eS4, eL1, eS0] (pth [2, 2, 1, 2, 1, 1, 2]) P2 S3
abbrev P3 : Ps := [(0, .v [.st]), (3, .v [.I]), (4, .v [.Y])]
abbrev S2 (s0 : ByteArray) (i3 c4 : Int) (w : World) (R : Post) : Prop :=
  sel (decide (c4 ≥ 97)) (S3 s0 i3 c4 (decide (c4 ≤ 122)) w R) (S3 s0 i3 c4 false w R)
noncomputable def eS2 := entS X [eS3, eS5, eS4, eL1, eS0] (pth [1, 2, 1, 2, 1, 1, 2]) P3 S2
theorem L1_step : ∀ (s0 : ByteArray) (i3 : Int) (w : World) (R : Post) (h : sel (decide (i3 < ((s0.size : Nat) : Int))) ((0 : Int) ≤ i3 ∧ ∃ t22_b : UInt8, s0[Int.toNat i3]? = some t22_b ∧ S2 s0 i3 ((t22_b.toNat : Nat) : Int) w R) (R (.returned (.bool true)) w)), L1 s0 i3 w R := mp (stepL (X := X) [eS2, eS3, eS5, eS4, eL1, eS0] (pth [0, 1, 1, 1, 2]) P1)
theorem ok (s0 : ByteArray) (w : World) (R : Post) (h : sel (decide (((s0.size : Nat) : Int) < 1)) (S0  w R) (sel (decide (((s0.size : Nat) : Int) > 16)) (S0  w R) (L1 s0 0 w R))) : Calls Tryz.prog n_term_isName #[.string s0] w R := callsX X [eS2, eS3, eS5, eS4, eL1, eS0] h
end term_isName
namespace term_fieldsFit
noncomputable abbrev X : Fx := ⟨Tryz.prog, Tryz.f78, [], []⟩
abbrev P0 : Ps := [(0, .v [.r]), (3, .v [.b]), (4, .v [.b]), (5, .v [.b]), (6, .v [.b])]
abbrev S1 (n0 : Addr) (hasN3 hasM4 hasU5 hasText6 : Bool) (w : World) (R : Post) : Prop :=
  sel hasN3 (sel hasM4 (sel hasU5 (sel hasText6 (R (.returned (.bool true)) w) (∃ t57 : ByteArray, w.cell? (n0.add 5) = some (.string t57) ∧ 
  R (.returned (.bool (t57.toList == (ByteArray.mk #[]).toList))) w)) (∃ t47 : Int, w.cell? (n0.add 4) = some (.u t47) ∧ 
  sel (t47 == 0) (sel hasText6 (R (.returned (.bool true)) w) (∃ t57_x1 : ByteArray, w.cell? (n0.add 5) = some (.string t57_x1) ∧ 
  R (.returned (.bool (t57_x1.toList == (ByteArray.mk #[]).toList))) w)) (R (.returned (.bool false)) w))) (∃ t37 : Int, w.cell? (n0.add 3) = some (.i t37) ∧ 
  sel (t37 == 0) (sel hasU5 (sel hasText6 (R (.returned (.bool true)) w) (∃ t57_x2 : ByteArray, w.cell? (n0.add 5) = some (.string t57_x2) ∧ 
  R (.returned (.bool (t57_x2.toList == (ByteArray.mk #[]).toList))) w)) (∃ t47_x1 : Int, w.cell? (n0.add 4) = some (.u t47_x1) ∧ 
  sel (t47_x1 == 0) (sel hasText6 (R (.returned (.bool true)) w) (∃ t57_x3 : ByteArray, w.cell? (n0.add 5) = some (.string t57_x3) ∧ 
  R (.returned (.bool (t57_x3.toList == (ByteArray.mk #[]).toList))) w)) (R (.returned (.bool false)) w))) (R (.returned (.bool false)) w))) (∃ t28 : Int, w.cell? (n0.add 2) = some (.i t28) ∧ 
  sel (t28 == 0) (sel hasM4 (sel hasU5 (sel hasText6 (R (.returned (.bool true)) w) (∃ t57_x4 : ByteArray, w.cell? (n0.add 5) = some (.string t57_x4) ∧ 
  R (.returned (.bool (t57_x4.toList == (ByteArray.mk #[]).toList))) w)) (∃ t47_x2 : Int, w.cell? (n0.add 4) = some (.u t47_x2) ∧ 
  sel (t47_x2 == 0) (sel hasText6 (R (.returned (.bool true)) w) (∃ t57_x5 : ByteArray, w.cell? (n0.add 5) = some (.string t57_x5) ∧ 
  R (.returned (.bool (t57_x5.toList == (ByteArray.mk #[]).toList))) w)) (R (.returned (.bool false)) w))) (∃ t37_x1 : Int, w.cell? (n0.add 3) = some (.i t37_x1) ∧ 
  sel (t37_x1 == 0) (sel hasU5 (sel hasText6 (R (.returned (.bool true)) w) (∃ t57_x6 : ByteArray, w.cell? (n0.add 5) = some (.string t57_x6) ∧ 
  R (.returned (.bool (t57_x6.toList == (ByteArray.mk #[]).toList))) w)) (∃ t47_x3 : Int, w.cell? (n0.add 4) = some (.u t47_x3) ∧ 
  sel (t47_x3 == 0) (sel hasText6 (R (.returned (.bool true)) w) (∃ t57_x7 : ByteArray, w.cell? (n0.add 5) = some (.string t57_x7) ∧ 
  R (.returned (.bool (t57_x7.toList == (ByteArray.mk #[]).toList))) w)) (R (.returned (.bool false)) w))) (R (.returned (.bool false)) w))) (R (.returned (.bool false)) w))
noncomputable def eS1 := entS X [] (pth [3]) P0 S1
abbrev P1 : Ps := [(0, .v [.r]), (3, .v [.b]), (4, .v [.b]), (5, .v [.b])]
abbrev S0 (n0 : Addr) (hasN3 hasM4 hasU5 : Bool) (w : World) (R : Post) : Prop :=
  S1 n0 hasN3 hasM4 hasU5 true w R
noncomputable def eS0 := entS X [eS1] (pth [0, 1, 1, 1, 1, 1, 2]) P1 S0
abbrev P2 : Ps := [(0, .v [.r]), (4, .v [.b]), (5, .v [.b]), (6, .v [.b])]
abbrev S3 (n0 : Addr) (hasM4 hasU5 hasText6 : Bool) (w : World) (R : Post) : Prop :=
  S1 n0 true hasM4 hasU5 hasText6 w R
noncomputable def eS3 := entS X [eS0, eS1] (pth [0, 1, 7, 1, 1, 1, 2]) P2 S3
abbrev P3 : Ps := [(0, .v [.r]), (3, .v [.b]), (4, .v [.b]), (5, .v [.b]), (6, .v [.b]), (10, .v [.I])]
abbrev S2 (n0 : Addr) (hasN3 hasM4 hasU5 hasText6 : Bool) (t10 : Int) (w : World) (R : Post) : Prop :=
  sel (t10 == 1) (S1 n0 hasN3 hasM4 true hasText6 w R) (sel (t10 == 21) (S1 n0 true true hasU5 hasText6 w R) (sel (t10 == 22) (sel (t10 == 22) (S3 n0 hasM4 hasU5 hasText6 w R) (S1 n0 hasN3 hasM4 hasU5 hasText6 w R)) (sel (t10 == 23) (sel (t10 == 23) (S3 n0 hasM4 hasU5 hasText6 w R) (S1 n0 hasN3 hasM4 hasU5 hasText6 w R)) (sel (t10 == 28) (S3 n0 hasM4 hasU5 hasText6 w R) (S1 n0 hasN3 hasM4 hasU5 hasText6 w R)))))
noncomputable def eS2 := entS X [eS3, eS0, eS1] (pth [2, 1, 1, 1, 2]) P3 S2
theorem ok (n0 : Addr) (w : World) (R : Post) (h : ∃ t10 : Int, w.cell? (n0.add 0) = some (.i t10) ∧ 
  sel (t10 == 0) (sel (t10 == 0) (S0 n0 false false false w R) (S2 n0 false false false false t10 w R)) (sel (t10 == 2) (sel (t10 == 2) (S0 n0 false false false w R) (S2 n0 false false false false t10 w R)) (sel (t10 == 33) (S0 n0 false false false w R) (S2 n0 false false false false t10 w R)))) : Calls Tryz.prog n_term_fieldsFit #[.pointer (some n0)] w R := callsX X [eS2, eS3, eS0, eS1] h
end term_fieldsFit
namespace term_bv
noncomputable abbrev X : Fx := ⟨Tryz.prog, Tryz.f107, [], [2]⟩
theorem okT (wv0 : Int) (w : World) (R : Post) (h : newV [] w fun b2 w1 => 
  loc [b2] w1 fun w4 => R (.returned (.agg #[.i 0, .i wv0, .i 0])) w4) : Calls Tryz.prog n_term_bv #[.i wv0] w R := callsX X [] h
end term_bv
namespace term_str
noncomputable abbrev X : Fx := ⟨Tryz.prog, Tryz.f103, [], [2]⟩
theorem okT (n0 : Int) (w : World) (R : Post) (h : newV [] w fun b2 w1 => 
  loc [b2] w1 fun w4 => R (.returned (.agg #[.i 1, .i n0, .i 0])) w4) : Calls Tryz.prog n_term_str #[.i n0] w R := callsX X [] h
end term_str
namespace term_isBV
noncomputable abbrev X : Fx := ⟨Tryz.prog, Tryz.f106, [], [1]⟩
theorem okT (s0_0 s0_1 s0_2 : Int) (w : World) (R : Post) (h : newV [] w fun b1 w1 => 
  R (.returned (.bool (s0_0 == 0))) w1) : Calls Tryz.prog n_term_isBV #[.agg #[.i s0_0, .i s0_1, .i s0_2]] w R := callsX X [] h
end term_isBV
namespace term_isStr
noncomputable abbrev X : Fx := ⟨Tryz.prog, Tryz.f109, [], [1]⟩
theorem okT (s0_0 s0_1 s0_2 : Int) (w : World) (R : Post) (h : newV [] w fun b1 w1 => 
  R (.returned (.bool (s0_0 == 1))) w1) : Calls Tryz.prog n_term_isStr #[.agg #[.i s0_0, .i s0_1, .i s0_2]] w R := callsX X [] h
end term_isStr
namespace term_isArray
noncomputable abbrev X : Fx := ⟨Tryz.prog, Tryz.f104, [], [1]⟩
theorem okT (s0_0 s0_1 s0_2 : Int) (w : World) (R : Post) (h : newV [] w fun b1 w1 => 
  sel (s0_0 == 2) (R (.returned (.bool true)) w1) (R (.returned (.bool (s0_0 == 3))) w1)) : Calls Tryz.prog n_term_isArray #[.agg #[.i s0_0, .i s0_1, .i s0_2]] w R := callsX X [] h
end term_isArray
namespace term_alike
noncomputable abbrev X : Fx := ⟨Tryz.prog, Tryz.f108, [], [2, 3]⟩
theorem okT (x0_0 x0_1 x0_2 y1_0 y1_1 y1_2 : Int) (w : World) (R : Post) (h : newV [] w fun b2 w1 => 
  newV [b2] w1 fun b3 w2 => 
  sel ((x0_0 == y1_0) && ((x0_1 == y1_1) && ((x0_2 == y1_2) && true))) (R (.returned (.bool true)) w2) (cf0 [b2, b3] n_term_isStr #[.agg #[.i x0_0, .i x0_1, .i x0_2]] w2 fun t10 w3 => sel t10 (cf0 [b2, b3] n_term_isStr #[.agg #[.i y1_0, .i y1_1, .i y1_2]] w3 fun t13 w4 => R (.returned (.bool t13)) w4) (R (.returned (.bool false)) w3))) : Calls Tryz.prog n_term_alike #[.agg #[.i x0_0, .i x0_1, .i x0_2], .agg #[.i y1_0, .i y1_1, .i y1_2]] w R := callsX X [] h
end term_alike
namespace term_result
noncomputable abbrev X : Fx := ⟨Tryz.prog, Tryz.f105, [], [3, 6]⟩
theorem okT (s0_0 s0_1 s0_2 : Int) (sorts1 ranges2 : Bool) (w : World) (R : Post) (h : newV [] w fun b3 w1 => 
  newV [b3] w1 fun b6 w2 => 
  sel (!sorts1) (loc [b3, b6] w2 fun w5 => R (.returned (.tuple #[.agg #[.i s0_0, .i s0_1, .i s0_2], .i 9])) w5) (sel (!ranges2) (loc [b3, b6] w2 fun w8 => R (.returned (.tuple #[.agg #[.i s0_0, .i s0_1, .i s0_2], .i 5])) w8) (loc [b3, b6] w2 fun w11 => R (.returned (.tuple #[.agg #[.i s0_0, .i s0_1, .i s0_2], .i 0])) w11))) : Calls Tryz.prog n_term_result #[.agg #[.i s0_0, .i s0_1, .i s0_2], .bool sorts1, .bool ranges2] w R := callsX X [] h
end term_result
namespace term_sortOfVar
noncomputable abbrev X : Fx := ⟨Tryz.prog, Tryz.f79, [(7,ls [0,1,2,3,4,5,6,7,8])], []⟩
abbrev P0 : Ps := [(0, .v [.r]), (4, .v [.r])]
abbrev S0 (n0 t4 : Addr) (w : World) (R : Post) : Prop :=
  ld3_2 w (n0.add 6) fun t56_0 t56_1 t56_2 => stW3 w t4 (.i t56_0) (.i t56_1) (.i t56_2) fun w3 => ld3_2 w3 t4 fun r4_0 r4_1 r4_2 => R (.returned (.tuple #[.agg #[.i r4_0, .i r4_1, .i r4_2], .i 0])) w3
noncomputable def eS0 := entS X [] (pth [4]) P0 S0
theorem ok (n0 : Addr) (lookup1 : Fv) (w : World) (R : Post) (h : nwV w (.cells #[.i 0, .i 0, .i 0] ty_api_Sort) fun w1 => 
  ∃ t12 : ByteArray, w1.cell? (n0.add 5) = some (.string t12) ∧ 
  ca0 n_term_isName #[.string t12] w1 fun t13 w2 => sel (!t13) (ld3_2 w2 (n0.add 6) fun t18_0 t18_1 t18_2 => stW3 w2 (nb w) (.i t18_0) (.i t18_1) (.i t18_2) fun w5 => ld3_2 w5 (nb w) fun r4_0 r4_1 r4_2 => R (.returned (.tuple #[.agg #[.i r4_0, .i r4_1, .i r4_2], .i 6])) w5) (ld3_2 w2 (n0.add 6) fun t22_0 t22_1 t22_2 => ca1 n_value_ValidSort #[.agg #[.i t22_0, .i t22_1, .i t22_2]] w2 fun t23 w6 => sel (t23 != 0) (ld3_2 w6 (n0.add 6) fun t29_0 t29_1 t29_2 => stW3 w6 (nb w) (.i t29_0) (.i t29_1) (.i t29_2) fun w9 => ld3_2 w9 (nb w) fun r4_0 r4_1 r4_2 => R (.returned (.tuple #[.agg #[.i r4_0, .i r4_1, .i r4_2], .i t23])) w9) (∃ t36 : ByteArray, w6.cell? (n0.add 5) = some (.string t36) ∧ 
  AndT (callable Tryz.prog lookup1.n) (Calls Tryz.prog lookup1.n (lookup1.bs ++ #[.string t36] ++ lookup1.cs) w6 fun r_ w10 => ∃ t37_0_0 : Int, ∃ t37_0_1 : Int, ∃ t37_0_2 : Int, ∃ t37_1 : Bool, r_ = .returned (.tuple #[.agg #[.i t37_0_0, .i t37_0_1, .i t37_0_2], .bool t37_1]) ∧ 
  nwV w10 (.cells #[.i 0, .i 0, .i 0] ty_api_Sort) fun w11 => 
  stW3 w11 (nb w10) (.i t37_0_0) (.i t37_0_1) (.i t37_0_2) fun w14 => drV w14 fun w15 => sel t37_1 (ld3_2 w15 (nb w10) fun t42_0 t42_1 t42_2 => ld3_2 w15 (n0.add 6) fun t46_0 t46_1 t46_2 => sel (!((t42_0 == t46_0) && ((t42_1 == t46_1) && ((t42_2 == t46_2) && true)))) (ld3_2 w15 (n0.add 6) fun t52_0 t52_1 t52_2 => stW3 w15 (nb w) (.i t52_0) (.i t52_1) (.i t52_2) fun w18 => ld3_2 w18 (nb w) fun r4_0 r4_1 r4_2 => R (.returned (.tuple #[.agg #[.i r4_0, .i r4_1, .i r4_2], .i 8])) w18) (S0 n0 (nb w) w15 R)) (S0 n0 (nb w) w15 R))))) : Calls Tryz.prog n_term_sortOfVar #[.pointer (some n0), lookup1.v] w R := callsX X [eS0] h
end term_sortOfVar
namespace term_sortOfLeaf
noncomputable abbrev X : Fx := ⟨Tryz.prog, Tryz.f80, [(14,ls [0,1,2,3,4,5,6,7,8,9,10,11,12,13,14,15,16,17,18])], [2]⟩
abbrev P0 : Ps := [(0, .v [.r]), (2, .l [.I, .I, .I] ty_api_Sort)]
abbrev S0T (n0 : Addr) (t2 : Nat) (t2_0 t2_1 t2_2 : Int) (w : World) (R : Post) : Prop :=
  ld3_2 w (n0.add 6) fun t93_0 t93_1 t93_2 => loc [t2] w fun w3 => R (.returned (.tuple #[.agg #[.i t93_0, .i t93_1, .i t93_2], .i 0])) w3
noncomputable def eS0 := entS X [] (pth [6]) P0 S0T
theorem okT (n0 : Addr) (w : World) (R : Post) (h : newV [] w fun b2 w1 => 
  ∃ t8 : Int, w1.cell? (n0.add 0) = some (.i t8) ∧ 
  sel (t8 == 2) (∃ t13 : ByteArray, w1.cell? (n0.add 5) = some (.string t13) ∧ 
  sel (decide (((t13.size : Nat) : Int) > 64)) (ld3_2 w1 (n0.add 6) fun t19_0 t19_1 t19_2 => loc [b2] w1 fun w4 => R (.returned (.tuple #[.agg #[.i t19_0, .i t19_1, .i t19_2], .i 5])) w4) (∃ t23 : ByteArray, w1.cell? (n0.add 5) = some (.string t23) ∧ 
  cf13 [b2] n_term_str #[.i ((t23.size : Nat) : Int)] w1 fun t25_0 t25_1 t25_2 w5 => loc [b2] w5 fun w8 => R (.returned (.tuple #[.agg #[.i t25_0, .i t25_1, .i t25_2], .i 0])) w8)) (ld3_2 w1 (n0.add 6) fun t29_0 t29_1 t29_2 => cf1 [b2] n_value_ValidSort #[.agg #[.i t29_0, .i t29_1, .i t29_2]] w1 fun t30 w9 => sel (t30 != 0) (ld3_2 w9 (n0.add 6) fun t36_0 t36_1 t36_2 => loc [b2] w9 fun w12 => R (.returned (.tuple #[.agg #[.i t36_0, .i t36_1, .i t36_2], .i t30])) w12) (∃ t41 : Int, w9.cell? (n0.add 0) = some (.i t41) ∧ 
  sel (t41 == 3) (ld3_2 w9 (n0.add 6) fun t46_0 t46_1 t46_2 => cf0 [b2] n_term_isArray #[.agg #[.i t46_0, .i t46_1, .i t46_2]] w9 fun t47 w13 => sel (!t47) (ld3_2 w13 (n0.add 6) fun t52_0 t52_1 t52_2 => loc [b2] w13 fun w16 => R (.returned (.tuple #[.agg #[.i t52_0, .i t52_1, .i t52_2], .i 9])) w16) (ld3_2 w13 (n0.add 6) fun t56_0 t56_1 t56_2 => loc [b2] w13 fun w19 => R (.returned (.tuple #[.agg #[.i t56_0, .i t56_1, .i t56_2], .i 0])) w19)) (∃ t61 : Int, w9.cell? ((n0.add 6).add 0) = some (.i t61) ∧ 
  sel (t61 != 0) (ld3_2 w9 (n0.add 6) fun t66_0 t66_1 t66_2 => loc [b2] w9 fun w22 => R (.returned (.tuple #[.agg #[.i t66_0, .i t66_1, .i t66_2], .i 9])) w22) (loc [b2] w9 fun w23 => ∃ t71 : Int, w23.cell? ((n0.add 6).add 1) = some (.i t71) ∧ 
  sel (decide (t71 < 64)) (∃ t77 : Int, w23.cell? (n0.add 4) = some (.u t77) ∧ 
  ∃ t82 : Int, w23.cell? ((n0.add 6).add 1) = some (.i t82) ∧ 
  ¬ t82 < 0 ∧ sel ((Int.fdiv t77 (2 ^ (min (Int.toNat t82) (IntKind.bits .u64)))) != 0) (ld3_2 w23 (n0.add 6) fun t89_0 t89_1 t89_2 => loc [b2] w23 fun w26 => R (.returned (.tuple #[.agg #[.i t89_0, .i t89_1, .i t89_2], .i 5])) w26) (S0T n0 b2 0 0 0 w23 R)) (S0T n0 b2 0 0 0 w23 R)))))) : Calls Tryz.prog n_term_sortOfLeaf #[.pointer (some n0)] w R := callsX X [eS0] h
end term_sortOfLeaf
namespace term_sortOfBits
noncomputable abbrev X : Fx := ⟨Tryz.prog, Tryz.f81, [(4,ls [0,1,2,3,4,5,6,7]), (7,ls [1,0,2,3,4,5,6,7,8,9,10,11,12]), (9,ls [1,2,0,3,4,5,6,7,8]), (14,ls [0,1,2,3,4,5,6,7,8,9,10,11,12,13]), (16,ls [0,1,2,3,4,6,12,13,14,15,16,17,5,7,8,9,10,11,18,19,20,21,22]), (18,ls [0,1,2,3,4,5,6,7,8,9,11,13,14,15,16,17,10,12,18,19,20,21,22,23,24,25,26,27,28,29,30,31,32,33,34,35,36,37,38,39,40,41,42]), (21,ls [0,1,2,3,4,5,6,8,10,11,12,13,14,7,9,15,16,17,18,19,20,21,22,23,24,25,26,27,28,29]), (22,ls [0,1,2,3,4,5,6,7,8,9,10,11,12])], [5, 6, 7, 8, 10]⟩
abbrev P0 : Ps := [(5, .l [.I, .I, .I] ty_api_Sort), (8, .l [.I, .I, .I] ty_api_Sort)]
abbrev S0T (x5 : Nat) (x5_0 x5_1 x5_2 : Int) (t8 : Nat) (t8_0 t8_1 t8_2 : Int) (w : World) (R : Post) : Prop :=
  loc [x5, t8] w fun w1 => cf0 [x5, t8] n_term_isBV #[.agg #[.i x5_0, .i x5_1, .i x5_2]] w1 fun t20 w2 => cf14 [x5, t8] n_term_result #[.agg #[.i x5_0, .i x5_1, .i x5_2], .bool t20, .bool true] w2 fun t21_0_0 t21_0_1 t21_0_2 t21_1 w3 => loc [x5, t8] w3 fun w6 => R (.returned (.tuple #[.agg #[.i t21_0_0, .i t21_0_1, .i t21_0_2], .i t21_1])) w6
noncomputable def eS0 := entS X [] (pth [0, 1, 1, 1, 1, 1, 1]) P0 S0T
abbrev P1 : Ps := [(5, .l [.I, .I, .I] ty_api_Sort), (6, .l [.I, .I, .I] ty_api_Sort), (8, .l [.I, .I, .I] ty_api_Sort)]
abbrev S2T (x5 : Nat) (x5_0 x5_1 x5_2 : Int) (y6 : Nat) (y6_0 y6_1 y6_2 : Int) (t8 : Nat) (t8_0 t8_1 t8_2 : Int) (w : World) (R : Post) : Prop :=
  loc [x5, y6, t8] w fun w1 => cf13 [x5, y6, t8] n_term_bv #[.i 1] w1 fun t27_0 t27_1 t27_2 w2 => cf0 [x5, y6, t8] n_term_isBV #[.agg #[.i x5_0, .i x5_1, .i x5_2]] w2 fun t29 w3 => sel t29 (cf14 [x5, y6, t8] n_term_result #[.agg #[.i t27_0, .i t27_1, .i t27_2], .bool ((x5_0 == y6_0) && ((x5_1 == y6_1) && ((x5_2 == y6_2) && true))), .bool true] w3 fun t35_0_0 t35_0_1 t35_0_2 t35_1 w4 => loc [x5, y6, t8] w4 fun w7 => R (.returned (.tuple #[.agg #[.i t35_0_0, .i t35_0_1, .i t35_0_2], .i t35_1])) w7) (cf14 [x5, y6, t8] n_term_result #[.agg #[.i t27_0, .i t27_1, .i t27_2], .bool false, .bool true] w3 fun t35_x1_0_0 t35_x1_0_1 t35_x1_0_2 t35_x1_1 w8 => loc [x5, y6, t8] w8 fun w11 => R (.returned (.tuple #[.agg #[.i t35_x1_0_0, .i t35_x1_0_1, .i t35_x1_0_2], .i t35_x1_1])) w11)
noncomputable def eS2 := entS X [eS0] (pth [0, 1, 3, 1, 1, 1, 1]) P1 S2T
abbrev P2 : Ps := [(5, .l [.I, .I, .I] ty_api_Sort), (6, .l [.I, .I, .I] ty_api_Sort), (7, .l [.I, .I, .I] ty_api_Sort), (8, .l [.I, .I, .I] ty_api_Sort), (10, .l [.I, .I, .I] ty_api_Sort)]
abbrev S4T (x5 : Nat) (x5_0 x5_1 x5_2 : Int) (y6 : Nat) (y6_0 y6_1 y6_2 : Int) (z7 : Nat) (z7_0 z7_1 z7_2 : Int) (t8 : Nat) (t8_0 t8_1 t8_2 : Int) (s10 : Nat) (s10_0 s10_1 s10_2 : Int) (w : World) (R : Post) : Prop :=
  loc [x5, y6, z7, t8, s10] w fun w1 => cf13 [x5, y6, z7, t8, s10] n_term_bv #[.i 1] w1 fun t64_0 t64_1 t64_2 w2 => sel ((x5_0 == t64_0) && ((x5_1 == t64_1) && ((x5_2 == t64_2) && true))) (cf0 [x5, y6, z7, t8, s10] n_term_alike #[.agg #[.i y6_0, .i y6_1, .i y6_2], .agg #[.i z7_0, .i z7_1, .i z7_2]] w2 fun t69 w3 => cf14 [x5, y6, z7, t8, s10] n_term_result #[.agg #[.i s10_0, .i s10_1, .i s10_2], .bool t69, .bool true] w3 fun t71_0_0 t71_0_1 t71_0_2 t71_1 w4 => loc [x5, y6, z7, t8, s10] w4 fun w7 => R (.returned (.tuple #[.agg #[.i t71_0_0, .i t71_0_1, .i t71_0_2], .i t71_1])) w7) (cf14 [x5, y6, z7, t8, s10] n_term_result #[.agg #[.i s10_0, .i s10_1, .i s10_2], .bool false, .bool true] w2 fun t71_x1_0_0 t71_x1_0_1 t71_x1_0_2 t71_x1_1 w8 => loc [x5, y6, z7, t8, s10] w8 fun w11 => R (.returned (.tuple #[.agg #[.i t71_x1_0_0, .i t71_x1_0_1, .i t71_x1_0_2], .i t71_x1_1])) w11)
noncomputable def eS4 := entS X [eS2, eS0] (pth [2, 1, 7, 1, 1, 1, 1]) P2 S4T
abbrev P3 : Ps := [(0, .v [.r]), (5, .l [.I, .I, .I] ty_api_Sort), (8, .l [.I, .I, .I] ty_api_Sort)]
abbrev S5T (n0 : Addr) (x5 : Nat) (x5_0 x5_1 x5_2 : Int) (t8 : Nat) (t8_0 t8_1 t8_2 : Int) (w : World) (R : Post) : Prop :=
  loc [x5, t8] w fun w1 => ∃ t148 : Int, w1.cell? (n0.add 2) = some (.i t148) ∧ 
  ∃ t156 : Int, w1.cell? (n0.add 2) = some (.i t156) ∧ 
  cf13 [x5, t8] n_term_bv #[.i (IntKind.wrap .i64 (x5_1 + t148))] w1 fun t150_0 t150_1 t150_2 w2 => w2.cell? (n0.add 2) = some (.i t156) ∧ cf0 [x5, t8] n_term_isBV #[.agg #[.i x5_0, .i x5_1, .i x5_2]] w2 fun t152 w3 => w3.cell? (n0.add 2) = some (.i t156) ∧ sel (decide (1 ≤ t156)) (∃ t162 : Int, w3.cell? (n0.add 2) = some (.i t162) ∧ 
  cf14 [x5, t8] n_term_result #[.agg #[.i t150_0, .i t150_1, .i t150_2], .bool t152, .bool (decide (t162 ≤ (IntKind.wrap .i64 (64 - x5_1))))] w3 fun t168_0_0 t168_0_1 t168_0_2 t168_1 w4 => loc [x5, t8] w4 fun w7 => R (.returned (.tuple #[.agg #[.i t168_0_0, .i t168_0_1, .i t168_0_2], .i t168_1])) w7) (cf14 [x5, t8] n_term_result #[.agg #[.i t150_0, .i t150_1, .i t150_2], .bool t152, .bool false] w3 fun t168_x1_0_0 t168_x1_0_1 t168_x1_0_2 t168_x1_1 w8 => loc [x5, t8] w8 fun w11 => R (.returned (.tuple #[.agg #[.i t168_x1_0_0, .i t168_x1_0_1, .i t168_x1_0_2], .i t168_x1_1])) w11)
noncomputable def eS5 := entS X [eS4, eS2, eS0] (pth [0, 1, 13, 1, 1, 1, 1]) P3 S5T
abbrev S6T (x5 : Nat) (x5_0 x5_1 x5_2 : Int) (y6 : Nat) (y6_0 y6_1 y6_2 : Int) (t8 : Nat) (t8_0 t8_1 t8_2 : Int) (w : World) (R : Post) : Prop :=
  loc [x5, y6, t8] w fun w1 => cf0 [x5, y6, t8] n_term_isBV #[.agg #[.i x5_0, .i x5_1, .i x5_2]] w1 fun t173 w2 => sel t173 (cf14 [x5, y6, t8] n_term_result #[.agg #[.i x5_0, .i x5_1, .i x5_2], .bool ((x5_0 == y6_0) && ((x5_1 == y6_1) && ((x5_2 == y6_2) && true))), .bool true] w2 fun t179_0_0 t179_0_1 t179_0_2 t179_1 w3 => loc [x5, y6, t8] w3 fun w6 => R (.returned (.tuple #[.agg #[.i t179_0_0, .i t179_0_1, .i t179_0_2], .i t179_1])) w6) (cf14 [x5, y6, t8] n_term_result #[.agg #[.i x5_0, .i x5_1, .i x5_2], .bool false, .bool true] w2 fun t179_x1_0_0 t179_x1_0_1 t179_x1_0_2 t179_x1_1 w7 => loc [x5, y6, t8] w7 fun w10 => R (.returned (.tuple #[.agg #[.i t179_x1_0_0, .i t179_x1_0_1, .i t179_x1_0_2], .i t179_x1_1])) w10)
noncomputable def eS6 := entS X [eS5, eS4, eS2, eS0] (pth [2]) P1 S6T
abbrev P4 : Ps := [(0, .v [.r]), (5, .l [.I, .I, .I] ty_api_Sort), (6, .l [.I, .I, .I] ty_api_Sort), (7, .l [.I, .I, .I] ty_api_Sort), (8, .l [.I, .I, .I] ty_api_Sort), (14, .v [.I])]
abbrev S3T (n0 : Addr) (x5 : Nat) (x5_0 x5_1 x5_2 : Int) (y6 : Nat) (y6_0 y6_1 y6_2 : Int) (z7 : Nat) (z7_0 z7_1 z7_2 : Int) (t8 : Nat) (t8_0 t8_1 t8_2 t14 : Int) (w : World) (R : Post) : Prop :=
  sel (t14 == 18) (loc [x5, y6, z7, t8] w fun w1 => cf13 [x5, y6, z7, t8] n_term_bv #[.i 1] w1 fun t40_0 t40_1 t40_2 w2 => cf0 [x5, y6, z7, t8] n_term_alike #[.agg #[.i x5_0, .i x5_1, .i x5_2], .agg #[.i y6_0, .i y6_1, .i y6_2]] w2 fun t43 w3 => cf14 [x5, y6, z7, t8] n_term_result #[.agg #[.i t40_0, .i t40_1, .i t40_2], .bool t43, .bool true] w3 fun t44_0_0 t44_0_1 t44_0_2 t44_1 w4 => loc [x5, y6, z7, t8] w4 fun w7 => R (.returned (.tuple #[.agg #[.i t44_0_0, .i t44_0_1, .i t44_0_2], .i t44_1])) w7) (sel (t14 == 19) (newV [x5, y6, z7, t8] w fun b10 w8 => 
  loc [x5, y6, z7, t8, b10] w8 fun w11 => cf0 [x5, y6, z7, t8, b10] n_term_isStr #[.agg #[.i y6_0, .i y6_1, .i y6_2]] w11 fun t51 w12 => sel t51 (cf0 [x5, y6, z7, t8, b10] n_term_isStr #[.agg #[.i z7_0, .i z7_1, .i z7_2]] w12 fun t54 w13 => sel t54 (cf13 [x5, y6, z7, t8, b10] n_term_str #[.i (if y6_1 < z7_1 then z7_1 else y6_1)] w13 fun t61_0 t61_1 t61_2 w14 => loc [x5, y6, z7, t8, b10] w14 fun w17 => S4T x5 x5_0 x5_1 x5_2 y6 y6_0 y6_1 y6_2 z7 z7_0 z7_1 z7_2 t8 t8_0 t8_1 t8_2 b10 t61_0 t61_1 t61_2 w17 R) (S4T x5 x5_0 x5_1 x5_2 y6 y6_0 y6_1 y6_2 z7 z7_0 z7_1 z7_2 t8 t8_0 t8_1 t8_2 b10 y6_0 y6_1 y6_2 w13 R)) (S4T x5 x5_0 x5_1 x5_2 y6 y6_0 y6_1 y6_2 z7 z7_0 z7_1 z7_2 t8 t8_0 t8_1 t8_2 b10 y6_0 y6_1 y6_2 w12 R)) (sel (t14 == 20) (loc [x5, y6, z7, t8] w fun w18 => cf13 [x5, y6, z7, t8] n_term_bv #[.i (IntKind.wrap .i64 (x5_1 + y6_1))] w18 fun t81_0 t81_1 t81_2 w19 => cf0 [x5, y6, z7, t8] n_term_isBV #[.agg #[.i x5_0, .i x5_1, .i x5_2]] w19 fun t83 w20 => sel t83 (cf0 [x5, y6, z7, t8] n_term_isBV #[.agg #[.i y6_0, .i y6_1, .i y6_2]] w20 fun t86 w21 => cf14 [x5, y6, z7, t8] n_term_result #[.agg #[.i t81_0, .i t81_1, .i t81_2], .bool t86, .bool (decide ((IntKind.wrap .i64 (x5_1 + y6_1)) ≤ 64))] w21 fun t94_0_0 t94_0_1 t94_0_2 t94_1 w22 => loc [x5, y6, z7, t8] w22 fun w25 => R (.returned (.tuple #[.agg #[.i t94_0_0, .i t94_0_1, .i t94_0_2], .i t94_1])) w25) (cf14 [x5, y6, z7, t8] n_term_result #[.agg #[.i t81_0, .i t81_1, .i t81_2], .bool false, .bool (decide ((IntKind.wrap .i64 (x5_1 + y6_1)) ≤ 64))] w20 fun t94_x1_0_0 t94_x1_0_1 t94_x1_0_2 t94_x1_1 w26 => loc [x5, y6, z7, t8] w26 fun w29 => R (.returned (.tuple #[.agg #[.i t94_x1_0_0, .i t94_x1_0_1, .i t94_x1_0_2], .i t94_x1_1])) w29)) (sel (t14 == 21) (loc [x5, y6, z7, t8] w fun w30 => ∃ t102 : Int, w30.cell? (n0.add 2) = some (.i t102) ∧ 
  ∃ t106 : Int, w30.cell? (n0.add 3) = some (.i t106) ∧ 
  ∃ t115 : Int, w30.cell? (n0.add 3) = some (.i t115) ∧ 
  cf13 [x5, y6, z7, t8] n_term_bv #[.i (IntKind.wrap .i64 ((IntKind.wrap .i64 (t102 - t106)) + 1))] w30 fun t109_0 t109_1 t109_2 w31 => w31.cell? (n0.add 3) = some (.i t115) ∧ cf0 [x5, y6, z7, t8] n_term_isBV #[.agg #[.i x5_0, .i x5_1, .i x5_2]] w31 fun t111 w32 => w32.cell? (n0.add 3) = some (.i t115) ∧ sel (decide (0 ≤ t115)) (∃ t121 : Int, w32.cell? (n0.add 3) = some (.i t121) ∧ 
  ∃ t125 : Int, w32.cell? (n0.add 2) = some (.i t125) ∧ 
  sel (decide (t121 ≤ t125)) (∃ t132 : Int, w32.cell? (n0.add 2) = some (.i t132) ∧ 
  cf14 [x5, y6, z7, t8] n_term_result #[.agg #[.i t109_0, .i t109_1, .i t109_2], .bool t111, .bool (decide (t132 < x5_1))] w32 fun t137_0_0 t137_0_1 t137_0_2 t137_1 w33 => loc [x5, y6, z7, t8] w33 fun w36 => R (.returned (.tuple #[.agg #[.i t137_0_0, .i t137_0_1, .i t137_0_2], .i t137_1])) w36) (cf14 [x5, y6, z7, t8] n_term_result #[.agg #[.i t109_0, .i t109_1, .i t109_2], .bool t111, .bool false] w32 fun t137_x1_0_0 t137_x1_0_1 t137_x1_0_2 t137_x1_1 w37 => loc [x5, y6, z7, t8] w37 fun w40 => R (.returned (.tuple #[.agg #[.i t137_x1_0_0, .i t137_x1_0_1, .i t137_x1_0_2], .i t137_x1_1])) w40)) (cf14 [x5, y6, z7, t8] n_term_result #[.agg #[.i t109_0, .i t109_1, .i t109_2], .bool t111, .bool false] w32 fun t137_x2_0_0 t137_x2_0_1 t137_x2_0_2 t137_x2_1 w41 => loc [x5, y6, z7, t8] w41 fun w44 => R (.returned (.tuple #[.agg #[.i t137_x2_0_0, .i t137_x2_0_1, .i t137_x2_0_2], .i t137_x2_1])) w44)) (sel (t14 == 22) (sel (t14 == 22) (S5T n0 x5 x5_0 x5_1 x5_2 t8 t8_0 t8_1 t8_2 w R) (S6T x5 x5_0 x5_1 x5_2 y6 y6_0 y6_1 y6_2 t8 t8_0 t8_1 t8_2 w R)) (sel (t14 == 23) (S5T n0 x5 x5_0 x5_1 x5_2 t8 t8_0 t8_1 t8_2 w R) (S6T x5 x5_0 x5_1 x5_2 y6 y6_0 y6_1 y6_2 t8 t8_0 t8_1 t8_2 w R))))))
noncomputable def eS3 := entS X [eS6, eS5, eS4, eS2, eS0] (pth [4, 1, 1, 1, 1]) P4 S3T
abbrev S1T (n0 : Addr) (x5 : Nat) (x5_0 x5_1 x5_2 : Int) (y6 : Nat) (y6_0 y6_1 y6_2 : Int) (z7 : Nat) (z7_0 z7_1 z7_2 : Int) (t8 : Nat) (t8_0 t8_1 t8_2 t14 : Int) (w : World) (R : Post) : Prop :=
  sel (t14 == 16) (sel (t14 == 16) (S2T x5 x5_0 x5_1 x5_2 y6 y6_0 y6_1 y6_2 t8 t8_0 t8_1 t8_2 w R) (S3T n0 x5 x5_0 x5_1 x5_2 y6 y6_0 y6_1 y6_2 z7 z7_0 z7_1 z7_2 t8 t8_0 t8_1 t8_2 t14 w R)) (sel (t14 == 17) (S2T x5 x5_0 x5_1 x5_2 y6 y6_0 y6_1 y6_2 t8 t8_0 t8_1 t8_2 w R) (S3T n0 x5 x5_0 x5_1 x5_2 y6 y6_0 y6_1 y6_2 z7 z7_0 z7_1 z7_2 t8 t8_0 t8_1 t8_2 t14 w R))
noncomputable def eS1 := entS X [eS3, eS6, eS5, eS4, eS2, eS0] (pth [2, 1, 1, 1, 1]) P4 S1T
theorem okT (n0 : Addr) (x1_0 x1_1 x1_2 y2_0 y2_1 y2_2 z3_0 z3_1 z3_2 : Int) (w : World) (R : Post) (h : newV [] w fun b5 w1 => 
  newV [b5] w1 fun b6 w2 => 
  newV [b5, b6] w2 fun b7 w3 => 
  newV [b5, b6, b7] w3 fun b8 w4 => 
  ∃ t14 : Int, w4.cell? (n0.add 0) = some (.i t14) ∧ 
  sel (t14 == 4) (sel (t14 == 4) (S0T b5 x1_0 x1_1 x1_2 b8 0 0 0 w4 R) (S1T n0 b5 x1_0 x1_1 x1_2 b6 y2_0 y2_1 y2_2 b7 z3_0 z3_1 z3_2 b8 0 0 0 t14 w4 R)) (sel (t14 == 5) (S0T b5 x1_0 x1_1 x1_2 b8 0 0 0 w4 R) (S1T n0 b5 x1_0 x1_1 x1_2 b6 y2_0 y2_1 y2_2 b7 z3_0 z3_1 z3_2 b8 0 0 0 t14 w4 R))) : Calls Tryz.prog n_term_sortOfBits #[.pointer (some n0), .agg #[.i x1_0, .i x1_1, .i x1_2], .agg #[.i y2_0, .i y2_1, .i y2_2], .agg #[.i z3_0, .i z3_1, .i z3_2]] w R := callsX X [eS1, eS3, eS6, eS5, eS4, eS2, eS0] h
end term_sortOfBits
namespace term_sortOfArrays
noncomputable abbrev X : Fx := ⟨Tryz.prog, Tryz.f82, [(2,ls [0,1,3,2,4,5,6,7,8,9,10,11,12,13,14]), (6,ls [0,1,2,3,4,5,6,7,8,9]), (10,ls [0,1,2,3,4,5,6,7,8,9,10,11,12,13,14,15,16,17]), (11,ls [0,1,2,3,4,5,6,7,8,9,10,11])], [5, 6, 7, 8, 10]⟩
abbrev P0 : Ps := [(0, .v [.r]), (5, .l [.I, .I, .I] ty_api_Sort), (7, .l [.I, .I, .I] ty_api_Sort), (8, .l [.I, .I, .I] ty_api_Sort), (10, .l [.I, .I, .I] ty_api_Sort), (11, .v [.b])]
abbrev S1T (n0 : Addr) (x5 : Nat) (x5_0 x5_1 x5_2 : Int) (z7 : Nat) (z7_0 z7_1 z7_2 : Int) (t8 : Nat) (t8_0 t8_1 t8_2 : Int) (element10 : Nat) (element10_0 element10_1 element10_2 : Int) (fits11 : Bool) (w : World) (R : Post) : Prop :=
  ∃ t51 : Int, w.cell? (n0.add 0) = some (.i t51) ∧ 
  sel (t51 == 24) (cf14 [x5, z7, t8, element10] n_term_result #[.agg #[.i element10_0, .i element10_1, .i element10_2], .bool fits11, .bool true] w fun t55_0_0 t55_0_1 t55_0_2 t55_1 w1 => loc [x5, z7, t8, element10] w1 fun w4 => R (.returned (.tuple #[.agg #[.i t55_0_0, .i t55_0_1, .i t55_0_2], .i t55_1])) w4) (sel (x5_0 == 3) (sel fits11 (loc [x5, z7, t8, element10] w fun w5 => cf0 [x5, z7, t8, element10] n_term_isStr #[.agg #[.i z7_0, .i z7_1, .i z7_2]] w5 fun t65 w6 => sel t65 (cf14 [x5, z7, t8, element10] n_term_result #[.agg #[.i x5_0, .i x5_1, .i x5_2], .bool (decide (z7_1 ≤ x5_1)), .bool true] w6 fun t74_0_0 t74_0_1 t74_0_2 t74_1 w7 => loc [x5, z7, t8, element10] w7 fun w10 => R (.returned (.tuple #[.agg #[.i t74_0_0, .i t74_0_1, .i t74_0_2], .i t74_1])) w10) (cf14 [x5, z7, t8, element10] n_term_result #[.agg #[.i x5_0, .i x5_1, .i x5_2], .bool false, .bool true] w6 fun t74_x1_0_0 t74_x1_0_1 t74_x1_0_2 t74_x1_1 w11 => loc [x5, z7, t8, element10] w11 fun w14 => R (.returned (.tuple #[.agg #[.i t74_x1_0_0, .i t74_x1_0_1, .i t74_x1_0_2], .i t74_x1_1])) w14)) (loc [x5, z7, t8, element10] w fun w5 => cf14 [x5, z7, t8, element10] n_term_result #[.agg #[.i x5_0, .i x5_1, .i x5_2], .bool false, .bool true] w5 fun t74_x2_0_0 t74_x2_0_1 t74_x2_0_2 t74_x2_1 w15 => loc [x5, z7, t8, element10] w15 fun w18 => R (.returned (.tuple #[.agg #[.i t74_x2_0_0, .i t74_x2_0_1, .i t74_x2_0_2], .i t74_x2_1])) w18)) (sel fits11 (loc [x5, z7, t8, element10] w fun w19 => cf14 [x5, z7, t8, element10] n_term_result #[.agg #[.i x5_0, .i x5_1, .i x5_2], .bool ((z7_0 == element10_0) && ((z7_1 == element10_1) && ((z7_2 == element10_2) && true))), .bool true] w19 fun t84_0_0 t84_0_1 t84_0_2 t84_1 w20 => loc [x5, z7, t8, element10] w20 fun w23 => R (.returned (.tuple #[.agg #[.i t84_0_0, .i t84_0_1, .i t84_0_2], .i t84_1])) w23) (loc [x5, z7, t8, element10] w fun w19 => cf14 [x5, z7, t8, element10] n_term_result #[.agg #[.i x5_0, .i x5_1, .i x5_2], .bool false, .bool true] w19 fun t84_x1_0_0 t84_x1_0_1 t84_x1_0_2 t84_x1_1 w24 => loc [x5, z7, t8, element10] w24 fun w27 => R (.returned (.tuple #[.agg #[.i t84_x1_0_0, .i t84_x1_0_1, .i t84_x1_0_2], .i t84_x1_1])) w27)))
noncomputable def eS1 := entS X [] (pth [5]) P0 S1T
abbrev P1 : Ps := [(0, .v [.r]), (5, .l [.I, .I, .I] ty_api_Sort), (6, .l [.I, .I, .I] ty_api_Sort), (7, .l [.I, .I, .I] ty_api_Sort), (8, .l [.I, .I, .I] ty_api_Sort), (10, .l [.I, .I, .I] ty_api_Sort)]
abbrev S0T (n0 : Addr) (x5 : Nat) (x5_0 x5_1 x5_2 : Int) (y6 : Nat) (y6_0 y6_1 y6_2 : Int) (z7 : Nat) (z7_0 z7_1 z7_2 : Int) (t8 : Nat) (t8_0 t8_1 t8_2 : Int) (element10 : Nat) (element10_0 element10_1 element10_2 : Int) (w : World) (R : Post) : Prop :=
  loc [x5, y6, z7, t8, element10] w fun w1 => cf0 [x5, y6, z7, t8, element10] n_term_isArray #[.agg #[.i x5_0, .i x5_1, .i x5_2]] w1 fun t40 w2 => sel t40 (cf13 [x5, y6, z7, t8, element10] n_term_bv #[.i x5_2] w2 fun t45_0 t45_1 t45_2 w3 => S1T n0 x5 x5_0 x5_1 x5_2 z7 z7_0 z7_1 z7_2 t8 t8_0 t8_1 t8_2 element10 element10_0 element10_1 element10_2 ((y6_0 == t45_0) && ((y6_1 == t45_1) && ((y6_2 == t45_2) && true))) w3 R) (S1T n0 x5 x5_0 x5_1 x5_2 z7 z7_0 z7_1 z7_2 t8 t8_0 t8_1 t8_2 element10 element10_0 element10_1 element10_2 false w2 R)
noncomputable def eS0 := entS X [eS1] (pth [4]) P1 S0T
theorem okT (n0 : Addr) (x1_0 x1_1 x1_2 y2_0 y2_1 y2_2 z3_0 z3_1 z3_2 : Int) (w : World) (R : Post) (h : newV [] w fun b5 w1 => 
  newV [b5] w1 fun b6 w2 => 
  newV [b5, b6] w2 fun b7 w3 => 
  newV [b5, b6, b7] w3 fun b8 w4 => 
  ∃ t15 : Int, w4.cell? (n0.add 0) = some (.i t15) ∧ 
  sel (t15 == 26) (loc [b5, b6, b7, b8] w4 fun w5 => cf13 [b5, b6, b7, b8] n_term_bv #[.i x1_2] w5 fun t19_0 t19_1 t19_2 w6 => cf0 [b5, b6, b7, b8] n_term_isArray #[.agg #[.i x1_0, .i x1_1, .i x1_2]] w6 fun t21 w7 => sel t21 (cf14 [b5, b6, b7, b8] n_term_result #[.agg #[.i t19_0, .i t19_1, .i t19_2], .bool ((x1_0 == y2_0) && ((x1_1 == y2_1) && ((x1_2 == y2_2) && true))), .bool true] w7 fun t27_0_0 t27_0_1 t27_0_2 t27_1 w8 => loc [b5, b6, b7, b8] w8 fun w11 => R (.returned (.tuple #[.agg #[.i t27_0_0, .i t27_0_1, .i t27_0_2], .i t27_1])) w11) (cf14 [b5, b6, b7, b8] n_term_result #[.agg #[.i t19_0, .i t19_1, .i t19_2], .bool false, .bool true] w7 fun t27_x1_0_0 t27_x1_0_1 t27_x1_0_2 t27_x1_1 w12 => loc [b5, b6, b7, b8] w12 fun w15 => R (.returned (.tuple #[.agg #[.i t27_x1_0_0, .i t27_x1_0_1, .i t27_x1_0_2], .i t27_x1_1])) w15)) (cf13 [b5, b6, b7, b8] n_term_bv #[.i x1_1] w4 fun t32_0 t32_1 t32_2 w16 => newV [b5, b6, b7, b8] w16 fun b10 w17 => 
  sel (x1_0 == 3) (loc [b5, b6, b7, b8, b10] w17 fun w20 => cf13 [b5, b6, b7, b8, b10] n_term_str #[.i x1_1] w20 fun t38_0 t38_1 t38_2 w21 => loc [b5, b6, b7, b8, b10] w21 fun w24 => S0T n0 b5 x1_0 x1_1 x1_2 b6 y2_0 y2_1 y2_2 b7 z3_0 z3_1 z3_2 b8 0 0 0 b10 t38_0 t38_1 t38_2 w24 R) (loc [b5, b6, b7, b8, b10] w17 fun w20 => S0T n0 b5 x1_0 x1_1 x1_2 b6 y2_0 y2_1 y2_2 b7 z3_0 z3_1 z3_2 b8 0 0 0 b10 t32_0 t32_1 t32_2 w20 R))) : Calls Tryz.prog n_term_sortOfArrays #[.pointer (some n0), .agg #[.i x1_0, .i x1_1, .i x1_2], .agg #[.i y2_0, .i y2_1, .i y2_2], .agg #[.i z3_0, .i z3_1, .i z3_2]] w R := callsX X [eS0, eS1] h
end term_sortOfArrays
namespace term_sortOfStrings
noncomputable abbrev X : Fx := ⟨Tryz.prog, Tryz.f83, [(3,ls [1,0,2,3,4,5,6,7]), (5,ls [1,3,4,5,6,7,0,2,8,9,10,11,12,13,14,15,16,17,18,19]), (7,ls [0,1,2,3,4,6,12,13,14,15,16,17,5,7,8,9,10,11,18,19,20,21,22]), (9,ls [0,1,2,3,4,5,6,7,8,9,10,11,12,13,14,15,16,17]), (11,ls [1,0,2,3,4,5,6,7,8,9,10,11]), (13,ls [0,1,2,3,4,6,16,17,18,19,20,21,5,7,8,9,10,11,12,13,14,15,22,23,24,25,26]), (15,ls [1,0,2,3,4,5,6,7,8])], [5, 6, 7, 8]⟩
theorem okT (n0 : Addr) (x1_0 x1_1 x1_2 y2_0 y2_1 y2_2 z3_0 z3_1 z3_2 : Int) (w : World) (R : Post) (h : newV [] w fun b5 w1 => 
  newV [b5] w1 fun b6 w2 => 
  newV [b5, b6] w2 fun b7 w3 => 
  newV [b5, b6, b7] w3 fun b8 w4 => 
  ∃ t13 : Int, w4.cell? (n0.add 0) = some (.i t13) ∧ 
  sel (t13 == 27) (loc [b5, b6, b7, b8] w4 fun w5 => cf13 [b5, b6, b7, b8] n_term_bv #[.i 7] w5 fun t16_0 t16_1 t16_2 w6 => cf0 [b5, b6, b7, b8] n_term_isStr #[.agg #[.i x1_0, .i x1_1, .i x1_2]] w6 fun t18 w7 => cf14 [b5, b6, b7, b8] n_term_result #[.agg #[.i t16_0, .i t16_1, .i t16_2], .bool t18, .bool true] w7 fun t19_0_0 t19_0_1 t19_0_2 t19_1 w8 => loc [b5, b6, b7, b8] w8 fun w11 => R (.returned (.tuple #[.agg #[.i t19_0_0, .i t19_0_1, .i t19_0_2], .i t19_1])) w11) (sel (t13 == 28) (loc [b5, b6, b7, b8] w4 fun w12 => ∃ t30 : Int, w12.cell? (n0.add 2) = some (.i t30) ∧ 
  cf13 [b5, b6, b7, b8] n_term_bv #[.i 8] w12 fun t24_0 t24_1 t24_2 w13 => w13.cell? (n0.add 2) = some (.i t30) ∧ cf0 [b5, b6, b7, b8] n_term_isStr #[.agg #[.i x1_0, .i x1_1, .i x1_2]] w13 fun t26 w14 => w14.cell? (n0.add 2) = some (.i t30) ∧ sel (decide (0 ≤ t30)) (∃ t36 : Int, w14.cell? (n0.add 2) = some (.i t36) ∧ 
  cf14 [b5, b6, b7, b8] n_term_result #[.agg #[.i t24_0, .i t24_1, .i t24_2], .bool t26, .bool (decide (t36 < 64))] w14 fun t39_0_0 t39_0_1 t39_0_2 t39_1 w15 => loc [b5, b6, b7, b8] w15 fun w18 => R (.returned (.tuple #[.agg #[.i t39_0_0, .i t39_0_1, .i t39_0_2], .i t39_1])) w18) (cf14 [b5, b6, b7, b8] n_term_result #[.agg #[.i t24_0, .i t24_1, .i t24_2], .bool t26, .bool false] w14 fun t39_x1_0_0 t39_x1_0_1 t39_x1_0_2 t39_x1_1 w19 => loc [b5, b6, b7, b8] w19 fun w22 => R (.returned (.tuple #[.agg #[.i t39_x1_0_0, .i t39_x1_0_1, .i t39_x1_0_2], .i t39_x1_1])) w22)) (sel (t13 == 29) (loc [b5, b6, b7, b8] w4 fun w23 => cf13 [b5, b6, b7, b8] n_term_str #[.i (IntKind.wrap .i64 (x1_1 + y2_1))] w23 fun t49_0 t49_1 t49_2 w24 => cf0 [b5, b6, b7, b8] n_term_isStr #[.agg #[.i x1_0, .i x1_1, .i x1_2]] w24 fun t51 w25 => sel t51 (cf0 [b5, b6, b7, b8] n_term_isStr #[.agg #[.i y2_0, .i y2_1, .i y2_2]] w25 fun t54 w26 => cf14 [b5, b6, b7, b8] n_term_result #[.agg #[.i t49_0, .i t49_1, .i t49_2], .bool t54, .bool (decide ((IntKind.wrap .i64 (x1_1 + y2_1)) ≤ 64))] w26 fun t62_0_0 t62_0_1 t62_0_2 t62_1 w27 => loc [b5, b6, b7, b8] w27 fun w30 => R (.returned (.tuple #[.agg #[.i t62_0_0, .i t62_0_1, .i t62_0_2], .i t62_1])) w30) (cf14 [b5, b6, b7, b8] n_term_result #[.agg #[.i t49_0, .i t49_1, .i t49_2], .bool false, .bool (decide ((IntKind.wrap .i64 (x1_1 + y2_1)) ≤ 64))] w25 fun t62_x1_0_0 t62_x1_0_1 t62_x1_0_2 t62_x1_1 w31 => loc [b5, b6, b7, b8] w31 fun w34 => R (.returned (.tuple #[.agg #[.i t62_x1_0_0, .i t62_x1_0_1, .i t62_x1_0_2], .i t62_x1_1])) w34)) (sel (t13 == 30) (loc [b5, b6, b7, b8] w4 fun w35 => cf0 [b5, b6, b7, b8] n_term_isStr #[.agg #[.i x1_0, .i x1_1, .i x1_2]] w35 fun t69 w36 => sel t69 (cf13 [b5, b6, b7, b8] n_term_bv #[.i 7] w36 fun t72_0 t72_1 t72_2 w37 => sel ((y2_0 == t72_0) && ((y2_1 == t72_1) && ((y2_2 == t72_2) && true))) (cf13 [b5, b6, b7, b8] n_term_bv #[.i 7] w37 fun t77_0 t77_1 t77_2 w38 => cf14 [b5, b6, b7, b8] n_term_result #[.agg #[.i x1_0, .i x1_1, .i x1_2], .bool ((z3_0 == t77_0) && ((z3_1 == t77_1) && ((z3_2 == t77_2) && true))), .bool true] w38 fun t80_0_0 t80_0_1 t80_0_2 t80_1 w39 => loc [b5, b6, b7, b8] w39 fun w42 => R (.returned (.tuple #[.agg #[.i t80_0_0, .i t80_0_1, .i t80_0_2], .i t80_1])) w42) (cf14 [b5, b6, b7, b8] n_term_result #[.agg #[.i x1_0, .i x1_1, .i x1_2], .bool false, .bool true] w37 fun t80_x1_0_0 t80_x1_0_1 t80_x1_0_2 t80_x1_1 w43 => loc [b5, b6, b7, b8] w43 fun w46 => R (.returned (.tuple #[.agg #[.i t80_x1_0_0, .i t80_x1_0_1, .i t80_x1_0_2], .i t80_x1_1])) w46)) (cf14 [b5, b6, b7, b8] n_term_result #[.agg #[.i x1_0, .i x1_1, .i x1_2], .bool false, .bool true] w36 fun t80_x2_0_0 t80_x2_0_1 t80_x2_0_2 t80_x2_1 w47 => loc [b5, b6, b7, b8] w47 fun w50 => R (.returned (.tuple #[.agg #[.i t80_x2_0_0, .i t80_x2_0_1, .i t80_x2_0_2], .i t80_x2_1])) w50)) (sel (t13 == 31) (loc [b5, b6, b7, b8] w4 fun w51 => cf13 [b5, b6, b7, b8] n_term_bv #[.i 7] w51 fun t85_0 t85_1 t85_2 w52 => cf0 [b5, b6, b7, b8] n_term_isStr #[.agg #[.i x1_0, .i x1_1, .i x1_2]] w52 fun t87 w53 => sel t87 (cf0 [b5, b6, b7, b8] n_term_isStr #[.agg #[.i y2_0, .i y2_1, .i y2_2]] w53 fun t90 w54 => cf14 [b5, b6, b7, b8] n_term_result #[.agg #[.i t85_0, .i t85_1, .i t85_2], .bool t90, .bool true] w54 fun t92_0_0 t92_0_1 t92_0_2 t92_1 w55 => loc [b5, b6, b7, b8] w55 fun w58 => R (.returned (.tuple #[.agg #[.i t92_0_0, .i t92_0_1, .i t92_0_2], .i t92_1])) w58) (cf14 [b5, b6, b7, b8] n_term_result #[.agg #[.i t85_0, .i t85_1, .i t85_2], .bool false, .bool true] w53 fun t92_x1_0_0 t92_x1_0_1 t92_x1_0_2 t92_x1_1 w59 => loc [b5, b6, b7, b8] w59 fun w62 => R (.returned (.tuple #[.agg #[.i t92_x1_0_0, .i t92_x1_0_1, .i t92_x1_0_2], .i t92_x1_1])) w62)) (sel (t13 == 32) (loc [b5, b6, b7, b8] w4 fun w63 => cf13 [b5, b6, b7, b8] n_term_str #[.i (IntKind.wrap .i64 (x1_1 + z3_1))] w63 fun t102_0 t102_1 t102_2 w64 => cf0 [b5, b6, b7, b8] n_term_isStr #[.agg #[.i x1_0, .i x1_1, .i x1_2]] w64 fun t104 w65 => sel t104 (cf0 [b5, b6, b7, b8] n_term_isStr #[.agg #[.i y2_0, .i y2_1, .i y2_2]] w65 fun t107 w66 => sel t107 (cf0 [b5, b6, b7, b8] n_term_isStr #[.agg #[.i z3_0, .i z3_1, .i z3_2]] w66 fun t111 w67 => cf14 [b5, b6, b7, b8] n_term_result #[.agg #[.i t102_0, .i t102_1, .i t102_2], .bool t111, .bool (decide ((IntKind.wrap .i64 (x1_1 + z3_1)) ≤ 64))] w67 fun t119_0_0 t119_0_1 t119_0_2 t119_1 w68 => loc [b5, b6, b7, b8] w68 fun w71 => R (.returned (.tuple #[.agg #[.i t119_0_0, .i t119_0_1, .i t119_0_2], .i t119_1])) w71) (cf14 [b5, b6, b7, b8] n_term_result #[.agg #[.i t102_0, .i t102_1, .i t102_2], .bool false, .bool (decide ((IntKind.wrap .i64 (x1_1 + z3_1)) ≤ 64))] w66 fun t119_x1_0_0 t119_x1_0_1 t119_x1_0_2 t119_x1_1 w72 => loc [b5, b6, b7, b8] w72 fun w75 => R (.returned (.tuple #[.agg #[.i t119_x1_0_0, .i t119_x1_0_1, .i t119_x1_0_2], .i t119_x1_1])) w75)) (cf14 [b5, b6, b7, b8] n_term_result #[.agg #[.i t102_0, .i t102_1, .i t102_2], .bool false, .bool (decide ((IntKind.wrap .i64 (x1_1 + z3_1)) ≤ 64))] w65 fun t119_x2_0_0 t119_x2_0_1 t119_x2_0_2 t119_x2_1 w76 => loc [b5, b6, b7, b8] w76 fun w79 => R (.returned (.tuple #[.agg #[.i t119_x2_0_0, .i t119_x2_0_1, .i t119_x2_0_2], .i t119_x2_1])) w79)) (sel (t13 == 34) (loc [b5, b6, b7, b8] w4 fun w80 => cf13 [b5, b6, b7, b8] n_term_str #[.i 1] w80 fun t124_0 t124_1 t124_2 w81 => cf13 [b5, b6, b7, b8] n_term_bv #[.i 8] w81 fun t126_0 t126_1 t126_2 w82 => cf14 [b5, b6, b7, b8] n_term_result #[.agg #[.i t124_0, .i t124_1, .i t124_2], .bool ((x1_0 == t126_0) && ((x1_1 == t126_1) && ((x1_2 == t126_2) && true))), .bool true] w82 fun t128_0_0 t128_0_1 t128_0_2 t128_1 w83 => loc [b5, b6, b7, b8] w83 fun w86 => R (.returned (.tuple #[.agg #[.i t128_0_0, .i t128_0_1, .i t128_0_2], .i t128_1])) w86) (cf0 [b5, b6, b7, b8] n_term_isStr #[.agg #[.i x1_0, .i x1_1, .i x1_2]] w4 fun t132 w87 => sel (!t132) (loc [b5, b6, b7, b8] w87 fun w90 => R (.returned (.tuple #[.agg #[.i x1_0, .i x1_1, .i x1_2], .i 9])) w90) (∃ t138 : ByteArray, w87.cell? (n0.add 5) = some (.string t138) ∧ 
  cf0 [b5, b6, b7, b8] n_term_isNormal #[.string t138] w87 fun t139 w91 => sel (!t139) (loc [b5, b6, b7, b8] w91 fun w94 => R (.returned (.tuple #[.agg #[.i x1_0, .i x1_1, .i x1_2], .i 2])) w94) (cf13 [b5, b6, b7, b8] n_term_bv #[.i 1] w91 fun t142_0 t142_1 t142_2 w95 => loc [b5, b6, b7, b8] w95 fun w98 => R (.returned (.tuple #[.agg #[.i t142_0, .i t142_1, .i t142_2], .i 0])) w98)))))))))) : Calls Tryz.prog n_term_sortOfStrings #[.pointer (some n0), .agg #[.i x1_0, .i x1_1, .i x1_2], .agg #[.i y2_0, .i y2_1, .i y2_2], .agg #[.i z3_0, .i z3_1, .i z3_2]] w R := callsX X [] h
end term_sortOfStrings
namespace term_sortOf
noncomputable abbrev X : Fx := ⟨Tryz.prog, Tryz.f53, [(1,ls [0,1,2,3,4,5,6,7,8,9,10,11,12,13,14,15,16,17])], [6, 11]⟩
abbrev P0 : Ps := [(6, .l [.I, .I, .I] ty_api_Sort)]
abbrev S0T (t6 : Nat) (t6_0 t6_1 t6_2 : Int) (w : World) (R : Post) : Prop :=
  loc [t6] w fun w3 => R (.returned (.tuple #[.agg #[.i 0, .i 0, .i 0], .i 1])) w3
noncomputable def eS0 := entS X [] (pth [0, 1, 1, 1, 1]) P0 S0T
abbrev P1 : Ps := [(0, .v [.s]), (2, .v [.f]), (4, .v [.r]), (6, .l [.I, .I, .I] ty_api_Sort), (8, .v [.r]), (34, .v [.I]), (35, .v [.I])]
def L1T (nodes0 : Sl) (lookup2 : Fv) (n4 : Addr) (t6 : Nat) (t6_0 t6_1 t6_2 : Int) (kids8 : Addr) (t34 t35 : Int) (w : World) (R : Post) : Prop := mkCur P1 0 (X.Sem (pth [0, 1, 1, 1, 3])) nodes0 lookup2 n4 t6 t6_0 t6_1 t6_2 kids8 t34 t35 w R
noncomputable def eL1 := entL X (pth [0, 1, 1, 1, 3]) P1 L1T
abbrev S2T (t6 : Nat) (t6_0 t6_1 t6_2 : Int) (w : World) (R : Post) : Prop :=
  loc [t6] w fun w3 => R (.returned (.tuple #[.agg #[.i 0, .i 0, .i 0], .i 1])) w3
noncomputable def eS2 := entS X [eL1, eS0] (pth [0, 1, 1, 1, 2, 2, 2, 2, 1, 1, 3]) P0 S2T
abbrev P2 : Ps := [(6, .l [.I, .I, .I] ty_api_Sort), (11, .l [.I, .I, .I] ty_api_Sort), (12, .v [.I])]
abbrev S3T (t6 : Nat) (t6_0 t6_1 t6_2 : Int) (s11 : Nat) (s11_0 s11_1 s11_2 e12 : Int) (w : World) (R : Post) : Prop :=
  sel (e12 != 0) (loc [t6, s11] w fun w3 => R (.returned (.tuple #[.agg #[.i 0, .i 0, .i 0], .i e12])) w3) (loc [t6, s11] w fun w6 => R (.returned (.tuple #[.agg #[.i s11_0, .i s11_1, .i s11_2], .i 0])) w6)
noncomputable def eS3 := entS X [eS2, eL1, eS0] (pth [8]) P2 S3T
theorem L1T_step : ∀ (nodes0 : Sl) (lookup2 : Fv) (n4 : Addr) (t6 : Nat) (t6_0 t6_1 t6_2 : Int) (kids8 : Addr) (t34 t35 : Int) (w : World) (R : Post) (h : sel (decide (t35 < t34)) (∃ t39 : Sl, w.cell? (n4.add 1) = some (t39.v) ∧ 
  (0 : Int) ≤ t35 ∧ t35 < ((t39.n : Nat) : Int) ∧ optP t39.a fun t41_p => ∃ t42 : Int, w.cell? (t41_p.add (Int.toNat t35 * 1)) = some (.i t42) ∧ 
  sel (decide (t42 < 0)) (S2T t6 t6_0 t6_1 t6_2 w R) (sel (decide (t42 ≥ ((nodes0.n : Nat) : Int))) (S2T t6 t6_0 t6_1 t6_2 w R) ((0 : Int) ≤ t42 ∧ t42 < ((nodes0.n : Nat) : Int) ∧ optP nodes0.a fun t55_p => ld3_2 w ((t55_p.add (Int.toNat t42 * 9)).add 6) fun t57_0 t57_1 t57_2 => (0 : Int) ≤ t35 ∧ t35 < ((3 : Nat) : Int) ∧ stV w (kids8.add (Int.toNat t35 * 3)) (.i t57_0) fun w5 => kept [t6] w w5 ∧ 
  stV w5 ((kids8.add (Int.toNat t35 * 3)).add 1) (.i t57_1) fun w6 => kept [t6] w5 w6 ∧ 
  stV w6 ((kids8.add (Int.toNat t35 * 3)).add 2) (.i t57_2) fun w7 => kept [t6] w6 w7 ∧ 
  L1T nodes0 lookup2 n4 t6 t6_0 t6_1 t6_2 kids8 t34 (IntKind.wrap .i64 (t35 + 1)) w7 R))) (cf0 [t6] n_term_fieldsFit #[.pointer (some n4)] w fun t60 w8 => sel (!t60) (loc [t6] w8 fun w11 => R (.returned (.tuple #[.agg #[.i 0, .i 0, .i 0], .i 1])) w11) (newV [t6] w8 fun b11 w12 => 
  ∃ t75 : Int, w12.cell? (n4.add 0) = some (.i t75) ∧ 
  sel (t75 == 0) (cf14 [t6, b11] n_term_sortOfVar #[.pointer (some n4), lookup2.v] w12 fun t79_0_0 t79_0_1 t79_0_2 t79_1 w13 => loc [t6, b11] w13 fun w16 => S3T t6 t6_0 t6_1 t6_2 b11 t79_0_0 t79_0_1 t79_0_2 t79_1 w16 R) (∃ t84 : Int, w12.cell? (n4.add 0) = some (.i t84) ∧ 
  sel (decide (t84 ≤ 3)) (cf14 [t6, b11] n_term_sortOfLeaf #[.pointer (some n4)] w12 fun t87_0_0 t87_0_1 t87_0_2 t87_1 w17 => loc [t6, b11] w17 fun w20 => S3T t6 t6_0 t6_1 t6_2 b11 t87_0_0 t87_0_1 t87_0_2 t87_1 w20 R) (∃ t92 : Int, w12.cell? (n4.add 0) = some (.i t92) ∧ 
  sel (decide (t92 ≤ 23)) ((0 : Int) ≤ 0 ∧ 0 < ((3 : Nat) : Int) ∧ ld3_2 w12 (kids8.add (Int.toNat 0 * 3)) fun t96_0 t96_1 t96_2 => (0 : Int) ≤ 1 ∧ 1 < ((3 : Nat) : Int) ∧ ld3_2 w12 (kids8.add (Int.toNat 1 * 3)) fun t98_0 t98_1 t98_2 => (0 : Int) ≤ 2 ∧ 2 < ((3 : Nat) : Int) ∧ ld3_2 w12 (kids8.add (Int.toNat 2 * 3)) fun t100_0 t100_1 t100_2 => cf14 [t6, b11] n_term_sortOfBits #[.pointer (some n4), .agg #[.i t96_0, .i t96_1, .i t96_2], .agg #[.i t98_0, .i t98_1, .i t98_2], .agg #[.i t100_0, .i t100_1, .i t100_2]] w12 fun t101_0_0 t101_0_1 t101_0_2 t101_1 w21 => loc [t6, b11] w21 fun w24 => S3T t6 t6_0 t6_1 t6_2 b11 t101_0_0 t101_0_1 t101_0_2 t101_1 w24 R) (∃ t106 : Int, w12.cell? (n4.add 0) = some (.i t106) ∧ 
  sel (decide (t106 ≤ 26)) ((0 : Int) ≤ 0 ∧ 0 < ((3 : Nat) : Int) ∧ ld3_2 w12 (kids8.add (Int.toNat 0 * 3)) fun t110_0 t110_1 t110_2 => (0 : Int) ≤ 1 ∧ 1 < ((3 : Nat) : Int) ∧ ld3_2 w12 (kids8.add (Int.toNat 1 * 3)) fun t112_0 t112_1 t112_2 => (0 : Int) ≤ 2 ∧ 2 < ((3 : Nat) : Int) ∧ ld3_2 w12 (kids8.add (Int.toNat 2 * 3)) fun t114_0 t114_1 t114_2 => cf14 [t6, b11] n_term_sortOfArrays #[.pointer (some n4), .agg #[.i t110_0, .i t110_1, .i t110_2], .agg #[.i t112_0, .i t112_1, .i t112_2], .agg #[.i t114_0, .i t114_1, .i t114_2]] w12 fun t115_0_0 t115_0_1 t115_0_2 t115_1 w25 => loc [t6, b11] w25 fun w28 => S3T t6 t6_0 t6_1 t6_2 b11 t115_0_0 t115_0_1 t115_0_2 t115_1 w28 R) ((0 : Int) ≤ 0 ∧ 0 < ((3 : Nat) : Int) ∧ ld3_2 w12 (kids8.add (Int.toNat 0 * 3)) fun t65_0 t65_1 t65_2 => (0 : Int) ≤ 1 ∧ 1 < ((3 : Nat) : Int) ∧ ld3_2 w12 (kids8.add (Int.toNat 1 * 3)) fun t67_0 t67_1 t67_2 => (0 : Int) ≤ 2 ∧ 2 < ((3 : Nat) : Int) ∧ ld3_2 w12 (kids8.add (Int.toNat 2 * 3)) fun t69_0 t69_1 t69_2 => cf14 [t6, b11] n_term_sortOfStrings #[.pointer (some n4), .agg #[.i t65_0, .i t65_1, .i t65_2], .agg #[.i t67_0, .i t67_1, .i t67_2], .agg #[.i t69_0, .i t69_1, .i t69_2]] w12 fun t70_0_0 t70_0_1 t70_0_2 t70_1 w29 => loc [t6, b11] w29 fun w32 => S3T t6 t6_0 t6_1 t6_2 b11 t70_0_0 t70_0_1 t70_0_2 t70_1 w32 R))))))), L1T nodes0 lookup2 n4 t6 t6_0 t6_1 t6_2 kids8 t34 t35 w R := mp (stepL (X := X) [eS3, eS2, eL1, eS0] (pth [0, 1, 1, 1, 3]) P1)
theorem okT (nodes0 : Sl) (n1_0 : Int) (n1_1 : Sl) (n1_2 n1_3 n1_4 : Int) (n1_5 : ByteArray) (n1_6 n1_7 n1_8 : Int) (lookup2 : Fv) (w : World) (R : Post) (h : nwV w (.cells #[.i n1_0, n1_1.v, .i n1_2, .i n1_3, .u n1_4, .string n1_5, .i n1_6, .i n1_7, .i n1_8] ty_api_Node) fun w1 => 
  newV [] w1 fun b6 w2 => 
  loc [b6] w2 fun w3 => ∃ t14 : Int, w3.cell? ((nb w).add 0) = some (.i t14) ∧ 
  sel (decide (t14 < 0)) (S0T b6 0 0 0 w3 R) (∃ t18 : Int, w3.cell? ((nb w).add 0) = some (.i t18) ∧ 
  sel (decide (t18 ≥ 35)) (S0T b6 0 0 0 w3 R) (∃ t23 : Sl, w3.cell? ((nb w).add 1) = some (t23.v) ∧ 
  ∃ t26 : Int, w3.cell? ((nb w).add 0) = some (.i t26) ∧ 
  (0 : Int) ≤ t26 ∧ t26 < ((35 : Nat) : Int) ∧ ∃ t28 : Int, w3.cell? ((Addr.mk 0 0 none).add (Int.toNat t26 * 1)) = some (.i t28) ∧ 
  sel (((t23.n : Nat) : Int) != t28) (S0T b6 0 0 0 w3 R) (nwV w3 (.cells #[.i 0, .i 0, .i 0, .i 0, .i 0, .i 0, .i 0, .i 0, .i 0] ty_3_api_Sort) fun w4 => 
  ∃ t33 : Sl, w4.cell? ((nb w).add 1) = some (t33.v) ∧ 
  L1T nodes0 lookup2 (nb w) b6 0 0 0 (nb w3) ((t33.n : Nat) : Int) 0 w4 R)))) : Calls Tryz.prog n_term_sortOf #[nodes0.v, .agg #[.i n1_0, n1_1.v, .i n1_2, .i n1_3, .u n1_4, .string n1_5, .i n1_6, .i n1_7, .i n1_8], lookup2.v] w R := callsX X [eS3, eS2, eL1, eS0] h
end term_sortOf
namespace term_SortOf_1
noncomputable abbrev X : Fx := ⟨Tryz.prog, Tryz.f130, [], [3]⟩
abbrev P0 : Ps := [(0, .v [.st]), (1, .v [.r]), (3, .l [.I, .I, .I] ty_api_Sort), (8, .v [.I]), (9, .v [.I])]
def L0T (name0 : ByteArray) (t1 : Addr) (t3 : Nat) (t3_0 t3_1 t3_2 t8 t9 : Int) (w : World) (R : Post) : Prop := mkCur P0 0 (X.Sem (pth [0, 1, 1, 1, 1])) name0 t1 t3 t3_0 t3_1 t3_2 t8 t9 w R
noncomputable def eL0 := entL X (pth [0, 1, 1, 1, 1]) P0 L0T
abbrev S1T (name0 : ByteArray) (t1 : Addr) (t3 : Nat) (t3_0 t3_1 t3_2 t8 t9 : Int) (w : World) (R : Post) : Prop :=
  L0T name0 t1 t3 t3_0 t3_1 t3_2 t8 (IntKind.wrap .i64 (t9 + 1)) w R
noncomputable def eS1 := entS X [eL0] (pth [3, 2, 1, 1, 1]) P0 S1T
theorem L0T_step : ∀ (name0 : ByteArray) (t1 : Addr) (t3 : Nat) (t3_0 t3_1 t3_2 t8 t9 : Int) (w : World) (R : Post) (h : sel (decide (t9 < t8)) (∃ t13 : Sl, w.cell? (t1.add 0) = some (t13.v) ∧ 
  (0 : Int) ≤ t9 ∧ t9 < ((t13.n : Nat) : Int) ∧ optP t13.a fun t15_p => ∃ t17 : Int, w.cell? ((t15_p.add (Int.toNat t9 * 9)).add 0) = some (.i t17) ∧ 
  sel (t17 == 0) (∃ t21 : Sl, w.cell? (t1.add 0) = some (t21.v) ∧ 
  (0 : Int) ≤ t9 ∧ t9 < ((t21.n : Nat) : Int) ∧ optP t21.a fun t23_p => ∃ t25 : ByteArray, w.cell? ((t23_p.add (Int.toNat t9 * 9)).add 5) = some (.string t25) ∧ 
  sel (t25.toList == name0.toList) (∃ t30 : Sl, w.cell? (t1.add 0) = some (t30.v) ∧ 
  (0 : Int) ≤ t9 ∧ t9 < ((t30.n : Nat) : Int) ∧ optP t30.a fun t32_p => ld3_2 w ((t32_p.add (Int.toNat t9 * 9)).add 6) fun t34_0 t34_1 t34_2 => loc [t3] w fun w4 => R (.returned (.tuple #[.agg #[.i t34_0, .i t34_1, .i t34_2], .bool true])) w4) (S1T name0 t1 t3 t3_0 t3_1 t3_2 t8 t9 w R)) (S1T name0 t1 t3 t3_0 t3_1 t3_2 t8 t9 w R)) (loc [t3] w fun w7 => R (.returned (.tuple #[.agg #[.i 0, .i 0, .i 0], .bool false])) w7)), L0T name0 t1 t3 t3_0 t3_1 t3_2 t8 t9 w R := mp (stepL (X := X) [eS1, eL0] (pth [0, 1, 1, 1, 1]) P0)
theorem okT (name0 : ByteArray) (t1 : Addr) (w : World) (R : Post) (h : newV [] w fun b3 w1 => 
  ∃ t7 : Sl, w1.cell? (t1.add 0) = some (t7.v) ∧ 
  L0T name0 t1 b3 0 0 0 ((t7.n : Nat) : Int) 0 w1 R) : Calls Tryz.prog n_term_SortOf_1 #[.string name0, .pointer (some t1)] w R := callsX X [eS1, eL0] h
end term_SortOf_1
namespace term_SortOf
noncomputable abbrev X : Fx := ⟨Tryz.prog, Tryz.f95, [], [3, 4]⟩
theorem okT (g0_0 : Sl) (n1_0 : Int) (n1_1 : Sl) (n1_2 n1_3 n1_4 : Int) (n1_5 : ByteArray) (n1_6 n1_7 n1_8 : Int) (w : World) (R : Post) (h : nwV w (.cells #[g0_0.v] ty_term_Graph) fun w1 => 
  newV [] w1 fun b3 w2 => 
  newV [b3] w2 fun b4 w3 => 
  ∃ t7 : Sl, w3.cell? ((nb w).add 0) = some (t7.v) ∧ 
  cf14 [b3, b4] n_term_sortOf #[t7.v, .agg #[.i n1_0, n1_1.v, .i n1_2, .i n1_3, .u n1_4, .string n1_5, .i n1_6, .i n1_7, .i n1_8], .func (.func n_term_SortOf_1) #[] #[.pointer (some (nb w))]] w3 fun t10_0_0 t10_0_1 t10_0_2 t10_1 w4 => loc [b3, b4] w4 fun w7 => R (.returned (.tuple #[.agg #[.i t10_0_0, .i t10_0_1, .i t10_0_2], .i t10_1])) w7) : Calls Tryz.prog n_term_SortOf #[.agg #[g0_0.v], .agg #[.i n1_0, n1_1.v, .i n1_2, .i n1_3, .u n1_4, .string n1_5, .i n1_6, .i n1_7, .i n1_8]] w R := callsX X [] h
end term_SortOf
namespace slices_Equal_sl_int_int
noncomputable abbrev X : Fx := ⟨Tryz.prog, Tryz.f144, [(6,ls [0,1,2,3,4,5,6,7,8])], []⟩
abbrev P0 : Ps := [(0, .v [.s]), (1, .v [.s]), (12, .v [.I]), (13, .v [.I])]
def L0 (s10 s21 : Sl) (t12 t13 : Int) (w : World) (R : Post) : Prop := mkCur P0 0 (X.Sem (pth [0, 1, 1, 1, 2])) s10 s21 t12 t13 w R
noncomputable def eL0 := entL X (pth [0, 1, 1, 1, 2]) P0 L0
theorem L0_step : ∀ (s10 s21 : Sl) (t12 t13 : Int) (w : World) (R : Post) (h : sel (decide (t13 < t12)) (drV w fun w1 => (0 : Int) ≤ t13 ∧ t13 < ((s10.n : Nat) : Int) ∧ optP s10.a fun t18_p => ∃ t19 : Int, w1.cell? (t18_p.add (Int.toNat t13 * 1)) = some (.i t19) ∧ 
  (0 : Int) ≤ t13 ∧ t13 < ((s21.n : Nat) : Int) ∧ optP s21.a fun t22_p => ∃ t23 : Int, w1.cell? (t22_p.add (Int.toNat t13 * 1)) = some (.i t23) ∧ 
  sel (t19 != t23) (R (.returned (.bool false)) w1) (L0 s10 s21 t12 (IntKind.wrap .i64 (t13 + 1)) w1 R)) (R (.returned (.bool true)) w)), L0 s10 s21 t12 t13 w R := mp (stepL (X := X) [eL0] (pth [0, 1, 1, 1, 2]) P0)
theorem ok (s10 s21 : Sl) (w : World) (R : Post) (h : sel (((s10.n : Nat) : Int) != ((s21.n : Nat) : Int)) (R (.returned (.bool false)) w) (L0 s10 s21 ((s10.n : Nat) : Int) 0 w R)) : Calls Tryz.prog n_slices_Equal_sl_int_int #[s10.v, s21.v] w R := callsX X [eL0] h
end slices_Equal_sl_int_int
namespace term_sameNode
noncomputable abbrev X : Fx := ⟨Tryz.prog, Tryz.f131, [(1,ls [0,1,2,3,4,5,6,7,8,9,10,11,12,13,14,15,16,17,18,19,20,21,22,23,24,25,26,27,28,29,30,31,32,33,34,35,36,37,38,39,40,41,42,43,44,45,46,47,48,49,50,51,52,53,54,55,56,57,58,59,60,61,62,63,64,65,66,67,68,69,70,71,72,73,74,75])], []⟩
theorem ok (a0 b1 : Addr) (w : World) (R : Post) (h : drV w fun w1 => ∃ t8 : Int, w1.cell? (a0.add 0) = some (.i t8) ∧ 
  ∃ t12 : Int, w1.cell? (b1.add 0) = some (.i t12) ∧ 
  sel (t8 == t12) (∃ t18 : Int, w1.cell? (a0.add 2) = some (.i t18) ∧ 
  ∃ t22 : Int, w1.cell? (b1.add 2) = some (.i t22) ∧ 
  sel (t18 == t22) (∃ t29 : Int, w1.cell? (a0.add 3) = some (.i t29) ∧ 
  ∃ t33 : Int, w1.cell? (b1.add 3) = some (.i t33) ∧ 
  sel (t29 == t33) (∃ t40 : Int, w1.cell? (a0.add 4) = some (.u t40) ∧ 
  ∃ t44 : Int, w1.cell? (b1.add 4) = some (.u t44) ∧ 
  sel (t40 == t44) (ld3_2 w1 (a0.add 6) fun t51_0 t51_1 t51_2 => ld3_2 w1 (b1.add 6) fun t55_0 t55_1 t55_2 => sel ((t51_0 == t55_0) && ((t51_1 == t55_1) && ((t51_2 == t55_2) && true))) (∃ t62 : Sl, w1.cell? (a0.add 1) = some (t62.v) ∧ 
  ∃ t66 : Sl, w1.cell? (b1.add 1) = some (t66.v) ∧ 
  ca0 n_slices_Equal_sl_int_int #[t62.v, t66.v] w1 fun t67 w2 => w2.cell? (b1.add 3) = some (.i t33) ∧ w2.cell? (a0.add 3) = some (.i t29) ∧ w2.cell? (b1.add 2) = some (.i t22) ∧ w2.cell? (a0.add 2) = some (.i t18) ∧ w2.cell? (b1.add 0) = some (.i t12) ∧ w2.cell? (a0.add 0) = some (.i t8) ∧ sel t67 (∃ t73 : ByteArray, w2.cell? (a0.add 5) = some (.string t73) ∧ 
  ∃ t77 : ByteArray, w2.cell? (b1.add 5) = some (.string t77) ∧ 
  R (.returned (.bool (t73.toList == t77.toList))) w2) (R (.returned (.bool false)) w2)) (R (.returned (.bool false)) w1)) (R (.returned (.bool false)) w1)) (R (.returned (.bool false)) w1)) (R (.returned (.bool false)) w1)) (R (.returned (.bool false)) w1)) : Calls Tryz.prog n_term_sameNode #[.pointer (some a0), .pointer (some b1)] w R := callsX X [] h
end term_sameNode
namespace term_search
noncomputable abbrev X : Fx := ⟨Tryz.prog, Tryz.f96, [], [2]⟩
abbrev P0 : Ps := [(1, .v [.r]), (2, .l [.s] ty_term_Graph), (8, .v [.I]), (9, .v [.I])]
def L0T (n1 : Addr) (g2 : Nat) (g2_0 : Sl) (t8 t9 : Int) (w : World) (R : Post) : Prop := mkCur P0 0 (X.Sem (pth [0, 1, 1, 1, 1])) n1 g2 g2_0 t8 t9 w R
noncomputable def eL0 := entL X (pth [0, 1, 1, 1, 1]) P0 L0T
theorem L0T_step : ∀ (n1 : Addr) (g2 : Nat) (g2_0 : Sl) (t8 t9 : Int) (w : World) (R : Post) (h : sel (decide (t9 < t8)) ((0 : Int) ≤ t9 ∧ t9 < ((g2_0.n : Nat) : Int) ∧ optP g2_0.a fun t15_p => cf0 [g2] n_term_sameNode #[.pointer (some (t15_p.add (Int.toNat t9 * 9))), .pointer (some n1)] w fun t17 w2 => sel t17 (R (.returned (.i t9)) w2) (L0T n1 g2 g2_0 t8 (IntKind.wrap .i64 (t9 + 1)) w2 R)) (R (.returned (.i (-1))) w)), L0T n1 g2 g2_0 t8 t9 w R := mp (stepL (X := X) [eL0] (pth [0, 1, 1, 1, 1]) P0)
theorem okT (g0_0 : Sl) (n1 : Addr) (w : World) (R : Post) (h : newV [] w fun b2 w1 => 
  L0T n1 b2 g0_0 ((g0_0.n : Nat) : Int) 0 w1 R) : Calls Tryz.prog n_term_search #[.agg #[g0_0.v], .pointer (some n1)] w R := callsX X [eL0] h
end term_search
namespace slices_Clone_sl_int_int
noncomputable abbrev X : Fx := ⟨Tryz.prog, Tryz.f97, [], []⟩
theorem ok (s0 : Sl) (w : World) (R : Post) (h : sel s0.a.isNone (R (.returned (.slice none 0 0)) w) (nwV w (.cells #[] ty_int) fun w1 => 
  ∃ (t7 : Sl) (w2 : World), Sem.run Tryz.prog (Builtin.append_ #[ty_sl_int, ty_sl_int] ty_sl_int #[.slice (some (nb w)) 0 0, s0.v]) w1 = .ok (t7.v) w2 ∧ R (.returned (t7.v)) w2)) : Calls Tryz.prog n_slices_Clone_sl_int_int #[s0.v] w R := callsX X [] h
end slices_Clone_sl_int_int
namespace term_Add
noncomputable abbrev X : Fx := ⟨Tryz.prog, Tryz.f74, [(14,ls [0,1,2,3,4,5,6,7])], [2, 4, 7]⟩
theorem okT (g0_0 : Sl) (n1_0 : Int) (n1_1 : Sl) (n1_2 n1_3 n1_4 : Int) (n1_5 : ByteArray) (n1_6 n1_7 n1_8 : Int) (w : World) (R : Post) (h : newV [] w fun b2 w1 => 
  nwV w1 (.cells #[.i n1_0, n1_1.v, .i n1_2, .i n1_3, .u n1_4, .string n1_5, .i n1_6, .i n1_7, .i n1_8] ty_api_Node) fun w2 => 
  newV [b2] w2 fun b4 w3 => 
  ld9_3 w3 (nb w1) fun t13_0 t13_1 t13_2 t13_3 t13_4 t13_5 t13_6 t13_7 t13_8 => cf14 [b2, b4] n_term_SortOf #[.agg #[g0_0.v], .agg #[.i t13_0, t13_1.v, .i t13_2, .i t13_3, .u t13_4, .string t13_5, .i t13_6, .i t13_7, .i t13_8]] w3 fun t14_0_0 t14_0_1 t14_0_2 t14_1 w4 => newV [b2, b4] w4 fun b7 w5 => 
  sel (t14_1 != 0) (loc [b2, b4, b7] w5 fun w9 => R (.returned (.tuple #[.agg #[.slice none 0 0], .i 0, .i t14_1])) w9) (loc [b2, b4, b7] w5 fun w8 => stV w8 ((nb w1).add 6) (.i t14_0_0) fun w10 => kept [b2, b4, b7] w8 w10 ∧ 
  stV w10 (((nb w1).add 6).add 1) (.i t14_0_1) fun w11 => kept [b2, b4, b7] w10 w11 ∧ 
  stV w11 (((nb w1).add 6).add 2) (.i t14_0_2) fun w12 => kept [b2, b4, b7] w11 w12 ∧ 
  cf1 [b2, b4, b7] n_term_search #[.agg #[g0_0.v], .pointer (some (nb w1))] w12 fun t24 w13 => sel (decide (t24 ≥ 0)) (loc [b2, b4, b7] w13 fun w14 => R (.returned (.tuple #[.agg #[g0_0.v], .i t24, .i 0])) w14) (sel (decide (((g0_0.n : Nat) : Int) ≥ 4096)) (loc [b2, b4, b7] w13 fun w15 => R (.returned (.tuple #[.agg #[.slice none 0 0], .i 0, .i 4])) w15) (∃ t35 : Sl, w13.cell? ((nb w1).add 1) = some (t35.v) ∧ 
  cf3 [b2, b4, b7] n_slices_Clone_sl_int_int #[t35.v] w13 fun t36 w16 => stV w16 ((nb w1).add 1) (t36.v) fun w17 => kept [b2, b4, b7] w16 w17 ∧ 
  ∃ (t42 : Sl) (w18 : World), Sem.run Tryz.prog (Instr.makeSlice ty_sl_api_Node (.i (IntKind.wrap .i64 (((g0_0.n : Nat) : Int) + 1))) (.i (IntKind.wrap .i64 (((g0_0.n : Nat) : Int) + 1)))) w17 = .ok (t42.v) w18 ∧ kept [b2, b4, b7] w17 w18 ∧ ∃ (t46 : Int) (w19 : World), Sem.run Tryz.prog (Builtin.copy_ #[ty_sl_api_Node, ty_sl_api_Node] ty_int #[t42.v, g0_0.v]) w18 = .ok (.i t46) w19 ∧ kept [b2, b4, b7] w18 w19 ∧ ld9_3 w19 (nb w1) fun t51_0 t51_1 t51_2 t51_3 t51_4 t51_5 t51_6 t51_7 t51_8 => (0 : Int) ≤ ((g0_0.n : Nat) : Int) ∧ ((g0_0.n : Nat) : Int) < ((t42.n : Nat) : Int) ∧ optP t42.a fun t52_p => stV w19 (t52_p.add (Int.toNat ((g0_0.n : Nat) : Int) * 9)) (.i t51_0) fun w20 => kept [b2, b4, b7] w19 w20 ∧ 
  stV w20 ((t52_p.add (Int.toNat ((g0_0.n : Nat) : Int) * 9)).add 1) (t51_1.v) fun w21 => kept [b2, b4, b7] w20 w21 ∧ 
  stV w21 ((t52_p.add (Int.toNat ((g0_0.n : Nat) : Int) * 9)).add 2) (.i t51_2) fun w22 => kept [b2, b4, b7] w21 w22 ∧ 
  stV w22 ((t52_p.add (Int.toNat ((g0_0.n : Nat) : Int) * 9)).add 3) (.i t51_3) fun w23 => kept [b2, b4, b7] w22 w23 ∧ 
  stV w23 ((t52_p.add (Int.toNat ((g0_0.n : Nat) : Int) * 9)).add 4) (.u t51_4) fun w24 => kept [b2, b4, b7] w23 w24 ∧ 
  stV w24 ((t52_p.add (Int.toNat ((g0_0.n : Nat) : Int) * 9)).add 5) (.string t51_5) fun w25 => kept [b2, b4, b7] w24 w25 ∧ 
  stV w25 ((t52_p.add (Int.toNat ((g0_0.n : Nat) : Int) * 9)).add 6) (.i t51_6) fun w26 => kept [b2, b4, b7] w25 w26 ∧ 
  stV w26 ((t52_p.add (Int.toNat ((g0_0.n : Nat) : Int) * 9)).add 7) (.i t51_7) fun w27 => kept [b2, b4, b7] w26 w27 ∧ 
  stV w27 ((t52_p.add (Int.toNat ((g0_0.n : Nat) : Int) * 9)).add 8) (.i t51_8) fun w28 => kept [b2, b4, b7] w27 w28 ∧ 
  loc [b2, b4, b7] w28 fun w30 => R (.returned (.tuple #[.agg #[t42.v], .i ((g0_0.n : Nat) : Int), .i 0])) w30)))) : Calls Tryz.prog n_term_Add #[.agg #[g0_0.v], .agg #[.i n1_0, n1_1.v, .i n1_2, .i n1_3, .u n1_4, .string n1_5, .i n1_6, .i n1_7, .i n1_8]] w R := callsX X [] h
end term_Add
namespace term_Needs
noncomputable abbrev X : Fx := ⟨Tryz.prog, Tryz.f61, [], [2]⟩
abbrev P0 : Ps := [(2, .l [.s] ty_term_Graph), (6, .v [.s]), (19, .v [.s]), (20, .v [.I]), (21, .v [.I])]
def L0T (g2 : Nat) (g2_0 marked6 t19 : Sl) (t20 t21 : Int) (w : World) (R : Post) : Prop := mkCur P0 0 (X.Sem (pth [0, 1, 1, 1, 2])) g2 g2_0 marked6 t19 t20 t21 w R
noncomputable def eL0 := entL X (pth [0, 1, 1, 1, 2]) P0 L0T
abbrev P1 : Ps := []
abbrev S1T  (w : World) (R : Post) : Prop :=
  R (.returned (.tuple #[.slice none 0 0, .i 7])) w
noncomputable def eS1 := entS X [eL0] (pth [0, 1, 1, 1, 1, 2, 2, 2, 1, 1, 2]) P1 S1T
abbrev P2 : Ps := [(2, .l [.s] ty_term_Graph), (6, .v [.s]), (9, .v [.I])]
def L2T (g2 : Nat) (g2_0 marked6 : Sl) (i9 : Int) (w : World) (R : Post) : Prop := mkCur P2 0 (X.Sem (pth [0, 1, 1, 1, 3])) g2 g2_0 marked6 i9 w R
noncomputable def eL2 := entL X (pth [0, 1, 1, 1, 3]) P2 L2T
abbrev S3T (g2 : Nat) (g2_0 marked6 : Sl) (i9 : Int) (w : World) (R : Post) : Prop :=
  L2T g2 g2_0 marked6 (IntKind.wrap .i64 (i9 - 1)) w R
noncomputable def eS3 := entS X [eL2, eS1, eL0] (pth [2, 2, 1, 1, 3]) P2 S3T
abbrev P3 : Ps := [(2, .l [.s] ty_term_Graph), (6, .v [.s]), (9, .v [.I]), (56, .v [.s]), (57, .v [.I]), (58, .v [.I])]
def L4T (g2 : Nat) (g2_0 marked6 : Sl) (i9 : Int) (t56 : Sl) (t57 t58 : Int) (w : World) (R : Post) : Prop := mkCur P3 0 (X.Sem (pth [0, 1, 2, 2, 1, 2, 1, 1, 3])) g2 g2_0 marked6 i9 t56 t57 t58 w R
noncomputable def eL4 := entL X (pth [0, 1, 2, 2, 1, 2, 1, 1, 3]) P3 L4T
theorem L4T_step : ∀ (g2 : Nat) (g2_0 marked6 : Sl) (i9 : Int) (t56 : Sl) (t57 t58 : Int) (w : World) (R : Post) (h : sel (decide (t58 < t57)) ((0 : Int) ≤ t58 ∧ t58 < ((t56.n : Nat) : Int) ∧ optP t56.a fun t60_p => ∃ t61 : Int, w.cell? (t60_p.add (Int.toNat t58 * 1)) = some (.i t61) ∧ 
  (0 : Int) ≤ t61 ∧ t61 < ((marked6.n : Nat) : Int) ∧ optP marked6.a fun t64_p => stV w (t64_p.add (Int.toNat t61 * 1)) (.bool true) fun w4 => kept [g2] w w4 ∧ 
  L4T g2 g2_0 marked6 i9 t56 t57 (IntKind.wrap .i64 (t58 + 1)) w4 R) (S3T g2 g2_0 marked6 i9 w R)), L4T g2 g2_0 marked6 i9 t56 t57 t58 w R := mp (stepL (X := X) [eL4, eS3, eL2, eS1, eL0] (pth [0, 1, 2, 2, 1, 2, 1, 1, 3]) P3)
abbrev P4 : Ps := [(12, .v [.s]), (66, .v [.s]), (67, .v [.I]), (68, .v [.I])]
def L5T (l12 t66 : Sl) (t67 t68 : Int) (w : World) (R : Post) : Prop := mkCur P4 0 (X.Sem (pth [0, 1, 1, 1, 5])) l12 t66 t67 t68 w R
noncomputable def eL5 := entL X (pth [0, 1, 1, 1, 5]) P4 L5T
abbrev S6T (l12 t66 : Sl) (t67 t68 : Int) (w : World) (R : Post) : Prop :=
  L5T l12 t66 t67 (IntKind.wrap .i64 (t68 + 1)) w R
noncomputable def eS6 := entS X [eL5, eL4, eS3, eL2, eS1, eL0] (pth [3, 2, 1, 1, 5]) P4 S6T
theorem L5T_step : ∀ (l12 t66 : Sl) (t67 t68 : Int) (w : World) (R : Post) (h : sel (decide (t68 < t67)) ((0 : Int) ≤ t68 ∧ t68 < ((t66.n : Nat) : Int) ∧ optP t66.a fun t71_p => ∃ t72 : Bool, w.cell? (t71_p.add (Int.toNat t68 * 1)) = some (.bool t72) ∧ 
  sel t72 (nwV w (.cells #[.i t68] ty_int) fun w5 => 
  ∃ (t77 : Sl) (w6 : World), Sem.run Tryz.prog (Builtin.append_ #[ty_sl_int, ty_sl_int] ty_sl_int #[l12.v, .slice (some (nb w)) 1 1]) w5 = .ok (t77.v) w6 ∧ S6T t77 t66 t67 t68 w6 R) (S6T l12 t66 t67 t68 w R)) (R (.returned (.tuple #[l12.v, .i 0])) w)), L5T l12 t66 t67 t68 w R := mp (stepL (X := X) [eS6, eL5, eL4, eS3, eL2, eS1, eL0] (pth [0, 1, 1, 1, 5]) P4)
theorem L2T_step : ∀ (g2 : Nat) (g2_0 marked6 : Sl) (i9 : Int) (w : World) (R : Post) (h : sel (decide (i9 ≥ 0)) ((0 : Int) ≤ i9 ∧ i9 < ((marked6.n : Nat) : Int) ∧ optP marked6.a fun t48_p => ∃ t49 : Bool, w.cell? (t48_p.add (Int.toNat i9 * 1)) = some (.bool t49) ∧ 
  sel (!t49) (S3T g2 g2_0 marked6 i9 w R) ((0 : Int) ≤ i9 ∧ i9 < ((g2_0.n : Nat) : Int) ∧ optP g2_0.a fun t54_p => ∃ t56 : Sl, w.cell? ((t54_p.add (Int.toNat i9 * 9)).add 1) = some (t56.v) ∧ 
  L4T g2 g2_0 marked6 i9 t56 ((t56.n : Nat) : Int) 0 w R)) (L5T ⟨none, 0, 0⟩ marked6 ((marked6.n : Nat) : Int) 0 w R)), L2T g2 g2_0 marked6 i9 w R := mp (stepL (X := X) [eS6, eL5, eL4, eS3, eL2, eS1, eL0] (pth [0, 1, 1, 1, 3]) P2)
theorem L0T_step : ∀ (g2 : Nat) (g2_0 marked6 t19 : Sl) (t20 t21 : Int) (w : World) (R : Post) (h : sel (decide (t21 < t20)) ((0 : Int) ≤ t21 ∧ t21 < ((t19.n : Nat) : Int) ∧ optP t19.a fun t23_p => ∃ t24 : Int, w.cell? (t23_p.add (Int.toNat t21 * 1)) = some (.i t24) ∧ 
  sel (decide (t24 < 0)) (S1T  w R) (sel (decide (t24 ≥ ((g2_0.n : Nat) : Int))) (S1T  w R) ((0 : Int) ≤ t24 ∧ t24 < ((marked6.n : Nat) : Int) ∧ optP marked6.a fun t36_p => stV w (t36_p.add (Int.toNat t24 * 1)) (.bool true) fun w3 => kept [g2] w w3 ∧ 
  L0T g2 g2_0 marked6 t19 t20 (IntKind.wrap .i64 (t21 + 1)) w3 R))) (L2T g2 g2_0 marked6 (IntKind.wrap .i64 (((g2_0.n : Nat) : Int) - 1)) w R)), L0T g2 g2_0 marked6 t19 t20 t21 w R := mp (stepL (X := X) [eS6, eL5, eL4, eS3, eL2, eS1, eL0] (pth [0, 1, 1, 1, 2]) P0)
theorem okT (g0_0 roots1 : Sl) (w : World) (R : Post) (h : newV [] w fun b2 w1 => 
  ∃ (t18 : Sl) (w2 : World), Sem.run Tryz.prog (Instr.makeSlice ty_sl_bool (.i ((g0_0.n : Nat) : Int)) (.i ((g0_0.n : Nat) : Int))) w1 = .ok (t18.v) w2 ∧ kept [b2] w1 w2 ∧ L0T b2 g0_0 t18 roots1 ((roots1.n : Nat) : Int) 0 w2 R) : Calls Tryz.prog n_term_Needs #[.agg #[g0_0.v], roots1.v] w R := callsX X [eS6, eL5, eL4, eS3, eL2, eS1, eL0] h
end term_Needs
namespace term_Vars
noncomputable abbrev X : Fx := ⟨Tryz.prog, Tryz.f44, [], [1]⟩
abbrev P0 : Ps := [(1, .l [.s] ty_term_Graph), (3, .v [.s]), (7, .v [.I]), (8, .v [.I])]
def L0T (g1 : Nat) (g1_0 l3 : Sl) (t7 t8 : Int) (w : World) (R : Post) : Prop := mkCur P0 0 (X.Sem (pth [0, 1, 1, 1, 2])) g1 g1_0 l3 t7 t8 w R
noncomputable def eL0 := entL X (pth [0, 1, 1, 1, 2]) P0 L0T
abbrev S1T (g1 : Nat) (g1_0 l3 : Sl) (t7 t8 : Int) (w : World) (R : Post) : Prop :=
  L0T g1 g1_0 l3 t7 (IntKind.wrap .i64 (t8 + 1)) w R
noncomputable def eS1 := entS X [eL0] (pth [3, 2, 1, 1, 2]) P0 S1T
theorem L0T_step : ∀ (g1 : Nat) (g1_0 l3 : Sl) (t7 t8 : Int) (w : World) (R : Post) (h : sel (decide (t8 < t7)) ((0 : Int) ≤ t8 ∧ t8 < ((g1_0.n : Nat) : Int) ∧ optP g1_0.a fun t14_p => ∃ t16 : Int, w.cell? ((t14_p.add (Int.toNat t8 * 9)).add 0) = some (.i t16) ∧ 
  sel (t16 == 0) (nwV w (.cells #[.i t8] ty_int) fun w2 => 
  ∃ (t21 : Sl) (w3 : World), Sem.run Tryz.prog (Builtin.append_ #[ty_sl_int, ty_sl_int] ty_sl_int #[l3.v, .slice (some (nb w)) 1 1]) w2 = .ok (t21.v) w3 ∧ kept [g1] w2 w3 ∧ S1T g1 g1_0 t21 t7 t8 w3 R) (S1T g1 g1_0 l3 t7 t8 w R)) (R (.returned (l3.v)) w)), L0T g1 g1_0 l3 t7 t8 w R := mp (stepL (X := X) [eS1, eL0] (pth [0, 1, 1, 1, 2]) P0)
theorem okT (g0_0 : Sl) (w : World) (R : Post) (h : newV [] w fun b1 w1 => 
  L0T b1 g0_0 ⟨none, 0, 0⟩ ((g0_0.n : Nat) : Int) 0 w1 R) : Calls Tryz.prog n_term_Vars #[.agg #[g0_0.v]] w R := callsX X [eS1, eL0] h
end term_Vars
end Go.Proofs.YtibaobaobnpdaaaGreatDoor
set_option linter.unusedVariables false
set_option maxRecDepth 100000
set_option maxHeartbeats 2000000
namespace Go.Proofs.YtibaobaobnpdaaaGreatDoor
open Go Go.W
namespace slices_Clone_sl_byte_byte
noncomputable abbrev X : Fx := ⟨Tryz.prog, Tryz.f115, [], []⟩
theorem ok (s0 : Sl) (w : World) (R : Post) (h : sel s0.a.isNone (R (.returned (.slice none 0 0)) w) (nwV w (.cells #[] ty_uint8) fun w1 => 
  ∃ (t7 : Sl) (w2 : World), Sem.run Tryz.prog (Builtin.append_ #[ty_sl_uint8, ty_sl_uint8] ty_sl_uint8 #[.slice (some (nb w)) 0 0, s0.v]) w1 = .ok (t7.v) w2 ∧ R (.returned (t7.v)) w2)) : Calls Tryz.prog n_slices_Clone_sl_byte_byte #[s0.v] w R := callsX X [] h
end slices_Clone_sl_byte_byte
namespace wire_Writer_Uint
noncomputable abbrev X : Fx := ⟨Tryz.prog, Tryz.f113, [], []⟩
abbrev P0 : Ps := [(0, .v [.r]), (1, .v [.U])]
def L0 (wv0 : Addr) (n1 : Int) (w : World) (R : Post) : Prop := mkCur P0 0 (X.Sem (pth [0, 2])) wv0 n1 w R
noncomputable def eL0 := entL X (pth [0, 2]) P0 L0
theorem L0_step : ∀ (wv0 : Addr) (n1 : Int) (w : World) (R : Post) (h : sel (decide (n1 ≥ 128)) (∃ t10 : Sl, w.cell? (wv0.add 0) = some (t10.v) ∧ 
  nwV w (.cells #[.int .u8 (bOr .u8 (IntKind.wrap .u8 n1) 128)] ty_uint8) fun w1 => 
  ∃ (t15 : Sl) (w2 : World), Sem.run Tryz.prog (Builtin.append_ #[ty_sl_uint8, ty_sl_uint8] ty_sl_uint8 #[t10.v, .slice (some (nb w)) 1 1]) w1 = .ok (t15.v) w2 ∧ stV w2 (wv0.add 0) (t15.v) fun w3 => 
  L0 wv0 (Int.fdiv n1 (2 ^ (7))) w3 R) (∃ t24 : Sl, w.cell? (wv0.add 0) = some (t24.v) ∧ 
  nwV w (.cells #[.int .u8 (IntKind.wrap .u8 n1)] ty_uint8) fun w4 => 
  ∃ (t28 : Sl) (w5 : World), Sem.run Tryz.prog (Builtin.append_ #[ty_sl_uint8, ty_sl_uint8] ty_sl_uint8 #[t24.v, .slice (some (nb w)) 1 1]) w4 = .ok (t28.v) w5 ∧ stV w5 (wv0.add 0) (t28.v) fun w6 => 
  R (.returned (.tuple #[])) w6)), L0 wv0 n1 w R := mp (stepL (X := X) [eL0] (pth [0, 2]) P0)
theorem ok (wv0 : Addr) (n1 : Int) (w : World) (R : Post) (h : L0 wv0 n1 w R) : Calls Tryz.prog n_wire_Writer_Uint #[.pointer (some wv0), .u n1] w R := callsX X [eL0] h
end wire_Writer_Uint
namespace wire_Writer_Int
noncomputable abbrev X : Fx := ⟨Tryz.prog, Tryz.f111, [], []⟩
theorem ok (wv0 : Addr) (n1 : Int) (w : World) (R : Post) (h : ca4 n_wire_Writer_Uint #[.pointer (some wv0), .u (bXor .u64 (IntKind.wrap .u64 ((IntKind.wrap .u64 n1) * 2 ^ (1))) (IntKind.wrap .u64 (Int.fdiv n1 (2 ^ (63)))))] w fun w1 => R (.returned (.tuple #[])) w1) : Calls Tryz.prog n_wire_Writer_Int #[.pointer (some wv0), .i n1] w R := callsX X [] h
end wire_Writer_Int
namespace wire_Writer_Ints
noncomputable abbrev X : Fx := ⟨Tryz.prog, Tryz.f112, [], []⟩
abbrev P0 : Ps := [(0, .v [.r]), (11, .v [.s]), (12, .v [.I]), (13, .v [.I])]
def L0 (wv0 : Addr) (t11 : Sl) (t12 t13 : Int) (w : World) (R : Post) : Prop := mkCur P0 0 (X.Sem (pth [0, 1, 2])) wv0 t11 t12 t13 w R
noncomputable def eL0 := entL X (pth [0, 1, 2]) P0 L0
theorem L0_step : ∀ (wv0 : Addr) (t11 : Sl) (t12 t13 : Int) (w : World) (R : Post) (h : sel (decide (t13 < t12)) ((0 : Int) ≤ t13 ∧ t13 < ((t11.n : Nat) : Int) ∧ optP t11.a fun t15_p => ∃ t16 : Int, w.cell? (t15_p.add (Int.toNat t13 * 1)) = some (.i t16) ∧ 
  ca4 n_wire_Writer_Int #[.pointer (some wv0), .i t16] w fun w2 => L0 wv0 t11 t12 (IntKind.wrap .i64 (t13 + 1)) w2 R) (R (.returned (.tuple #[])) w)), L0 wv0 t11 t12 t13 w R := mp (stepL (X := X) [eL0] (pth [0, 1, 2]) P0)
theorem ok (wv0 : Addr) (l1 : Sl) (w : World) (R : Post) (h : ca4 n_wire_Writer_Uint #[.pointer (some wv0), .u (IntKind.wrap .u64 ((l1.n : Nat) : Int))] w fun w1 => L0 wv0 l1 ((l1.n : Nat) : Int) 0 w1 R) : Calls Tryz.prog n_wire_Writer_Ints #[.pointer (some wv0), l1.v] w R := callsX X [eL0] h
end wire_Writer_Ints
namespace wire_Writer_Text
noncomputable abbrev X : Fx := ⟨Tryz.prog, Tryz.f114, [], []⟩
theorem ok (wv0 : Addr) (s1 : ByteArray) (w : World) (R : Post) (h : ca4 n_wire_Writer_Uint #[.pointer (some wv0), .u (IntKind.wrap .u64 ((s1.size : Nat) : Int))] w fun w1 => ∃ t13 : Sl, w1.cell? (wv0.add 0) = some (t13.v) ∧ 
  ∃ (t15 : Sl) (w2 : World), Sem.run Tryz.prog (Builtin.append_ #[ty_sl_uint8, ty_string] ty_sl_uint8 #[t13.v, .string s1]) w1 = .ok (t15.v) w2 ∧ stV w2 (wv0.add 0) (t15.v) fun w3 => 
  R (.returned (.tuple #[])) w3) : Calls Tryz.prog n_wire_Writer_Text #[.pointer (some wv0), .string s1] w R := callsX X [] h
end wire_Writer_Text
namespace wire_Writer_Done
noncomputable abbrev X : Fx := ⟨Tryz.prog, Tryz.f85, [], []⟩
theorem ok (wv0 : Addr) (w : World) (R : Post) (h : ∃ t6 : Sl, w.cell? (wv0.add 0) = some (t6.v) ∧ 
  ca3 n_slices_Clone_sl_byte_byte #[t6.v] w fun t7 w1 => R (.returned (t7.v)) w1) : Calls Tryz.prog n_wire_Writer_Done #[.pointer (some wv0)] w R := callsX X [] h
end wire_Writer_Done
namespace term_write
noncomputable abbrev X : Fx := ⟨Tryz.prog, Tryz.f84, [], []⟩
theorem ok (wv0 n1 : Addr) (w : World) (R : Post) (h : ∃ t8 : Int, w.cell? (n1.add 0) = some (.i t8) ∧ 
  ca4 n_wire_Writer_Int #[.pointer (some wv0), .i t8] w fun w1 => ∃ t14 : Sl, w1.cell? (n1.add 1) = some (t14.v) ∧ 
  ca4 n_wire_Writer_Ints #[.pointer (some wv0), t14.v] w1 fun w2 => ∃ t20 : Int, w2.cell? (n1.add 2) = some (.i t20) ∧ 
  ca4 n_wire_Writer_Int #[.pointer (some wv0), .i t20] w2 fun w3 => ∃ t26 : Int, w3.cell? (n1.add 3) = some (.i t26) ∧ 
  ca4 n_wire_Writer_Int #[.pointer (some wv0), .i t26] w3 fun w4 => ∃ t32 : Int, w4.cell? (n1.add 4) = some (.u t32) ∧ 
  ca4 n_wire_Writer_Uint #[.pointer (some wv0), .u t32] w4 fun w5 => ∃ t38 : ByteArray, w5.cell? (n1.add 5) = some (.string t38) ∧ 
  ca4 n_wire_Writer_Text #[.pointer (some wv0), .string t38] w5 fun w6 => ∃ t45 : Int, w6.cell? ((n1.add 6).add 0) = some (.i t45) ∧ 
  ca4 n_wire_Writer_Int #[.pointer (some wv0), .i t45] w6 fun w7 => ∃ t52 : Int, w7.cell? ((n1.add 6).add 1) = some (.i t52) ∧ 
  ca4 n_wire_Writer_Int #[.pointer (some wv0), .i t52] w7 fun w8 => ∃ t59 : Int, w8.cell? ((n1.add 6).add 2) = some (.i t59) ∧ 
  ca4 n_wire_Writer_Int #[.pointer (some wv0), .i t59] w8 fun w9 => R (.returned (.tuple #[])) w9) : Calls Tryz.prog n_term_write #[.pointer (some wv0), .pointer (some n1)] w R := callsX X [] h
end term_write
namespace term_keyOf
noncomputable abbrev X : Fx := ⟨Tryz.prog, Tryz.f55, [], []⟩
theorem ok (n0 : Addr) (w : World) (R : Post) (h : nwV w (.cells #[.slice none 0 0] ty_wire_Writer) fun w1 => 
  ca4 n_term_write #[.pointer (some (nb w)), .pointer (some n0)] w1 fun w2 => ca3 n_wire_Writer_Done #[.pointer (some (nb w))] w2 fun t6 w3 => ∃ t7 : ByteArray, Sem.run Tryz.prog (Go.convert ty_sl_uint8 ty_string (t6.v)) w3 = .ok (.string t7) w3 ∧ R (.returned (.string t7)) w3) : Calls Tryz.prog n_term_keyOf #[.pointer (some n0)] w R := callsX X [] h
end term_keyOf
namespace term_builder_sortOf_1
noncomputable abbrev X : Fx := ⟨Tryz.prog, Tryz.f54, [], [3, 5]⟩
theorem okT (name0 : ByteArray) (t1 : Addr) (w : World) (R : Post) (h : newV [] w fun b3 w1 => 
  ∃ t8 : Option Addr, w1.cell? t1 = some (.pointer t8) ∧ 
  optP t8 fun t9_p => ∃ t11 : Option Nat, w1.cell? (t9_p.add 2) = some (.map t11) ∧ 
  ∃ t13_0_0 : Int, ∃ t13_0_1 : Int, ∃ t13_0_2 : Int, ∃ t13_1 : Bool, Sem.run Tryz.prog (Instr.lookup ty_map_string_api_Sort (.map t11) (.string name0) true) w1 = .ok (.tuple #[.agg #[.i t13_0_0, .i t13_0_1, .i t13_0_2], .bool t13_1]) w1 ∧ newV [b3] w1 fun b5 w2 => 
  loc [b3, b5] w2 fun w8 => R (.returned (.tuple #[.agg #[.i t13_0_0, .i t13_0_1, .i t13_0_2], .bool t13_1])) w8) : Calls Tryz.prog n_term_builder_sortOf_1 #[.string name0, .pointer (some t1)] w R := callsX X [] h
end term_builder_sortOf_1
namespace term_builder_sortOf
noncomputable abbrev X : Fx := ⟨Tryz.prog, Tryz.f27, [(1,ls [0,1,2,3,4,5,6,7,8,9,10])], [3, 4]⟩
theorem okT (b0 : Addr) (n1_0 : Int) (n1_1 : Sl) (n1_2 n1_3 n1_4 : Int) (n1_5 : ByteArray) (n1_6 n1_7 n1_8 : Int) (w : World) (R : Post) (h : nwV w (.cells #[.pointer (some b0)] ty_p_term_builder) fun w1 => 
  newV [] w1 fun b3 w2 => 
  newV [b3] w2 fun b4 w3 => 
  loc [b3, b4] w3 fun w4 => ∃ t6 : Option Addr, w4.cell? (nb w) = some (.pointer t6) ∧ 
  optP t6 fun t7_p => ∃ t9 : Sl, w4.cell? (t7_p.add 0) = some (t9.v) ∧ 
  cf14 [b3, b4] n_term_sortOf #[t9.v, .agg #[.i n1_0, n1_1.v, .i n1_2, .i n1_3, .u n1_4, .string n1_5, .i n1_6, .i n1_7, .i n1_8], .func (.func n_term_builder_sortOf_1) #[] #[.pointer (some (nb w))]] w4 fun t12_0_0 t12_0_1 t12_0_2 t12_1 w5 => loc [b3, b4] w5 fun w8 => R (.returned (.tuple #[.agg #[.i t12_0_0, .i t12_0_1, .i t12_0_2], .i t12_1])) w8) : Calls Tryz.prog n_term_builder_sortOf #[.pointer (some b0), .agg #[.i n1_0, n1_1.v, .i n1_2, .i n1_3, .u n1_4, .string n1_5, .i n1_6, .i n1_7, .i n1_8]] w R := callsX X [] h
end term_builder_sortOf
namespace term_builder_find
noncomputable abbrev X : Fx := ⟨Tryz.prog, Tryz.f28, [(1,ls [0,1,2,3,4,5,6,7,8,9,10])], []⟩
theorem ok (b0 : Addr) (n1_0 : Int) (n1_1 : Sl) (n1_2 n1_3 n1_4 : Int) (n1_5 : ByteArray) (n1_6 n1_7 n1_8 : Int) (w : World) (R : Post) (h : nwV w (.cells #[.i n1_0, n1_1.v, .i n1_2, .i n1_3, .u n1_4, .string n1_5, .i n1_6, .i n1_7, .i n1_8] ty_api_Node) fun w1 => 
  drV w1 fun w2 => ∃ t12 : Option Nat, w2.cell? (b0.add 1) = some (.map t12) ∧ 
  ca16 n_term_keyOf #[.pointer (some (nb w))] w2 fun t13 w3 => w3.cell? (b0.add 1) = some (.map t12) ∧ ∃ t14_0 : Int, ∃ t14_1 : Bool, Sem.run Tryz.prog (Instr.lookup ty_map_string_int (.map t12) (.string t13) true) w3 = .ok (.tuple #[.i t14_0, .bool t14_1]) w3 ∧ R (.returned (.tuple #[.i t14_0, .bool t14_1])) w3) : Calls Tryz.prog n_term_builder_find #[.pointer (some b0), .agg #[.i n1_0, n1_1.v, .i n1_2, .i n1_3, .u n1_4, .string n1_5, .i n1_6, .i n1_7, .i n1_8]] w R := callsX X [] h
end term_builder_find
namespace term_builder_put
noncomputable abbrev X : Fx := ⟨Tryz.prog, Tryz.f29, [(1,ls [0,1,2,3,5,6,7,8,9,4,10]), (3,ls [0,1,2,3,4,5,6,7,8]), (4,ls [0,1,2,3,4,5,6,7,8,9,10])], []⟩
abbrev P0 : Ps := [(0, .v [.r]), (3, .v [.r])]
abbrev S0 (b0 n3 : Addr) (w : World) (R : Post) : Prop :=
  drV w fun w1 => ∃ t30 : Sl, w1.cell? (b0.add 0) = some (t30.v) ∧ 
  ld9_3 w1 n3 fun t31_0 t31_1 t31_2 t31_3 t31_4 t31_5 t31_6 t31_7 t31_8 => nwV w1 (.cells #[.i t31_0, t31_1.v, .i t31_2, .i t31_3, .u t31_4, .string t31_5, .i t31_6, .i t31_7, .i t31_8] ty_api_Node) fun w2 => 
  w2.cell? (b0.add 0) = some (t30.v) ∧ ∃ (t33 : Sl) (w3 : World), Sem.run Tryz.prog (Builtin.append_ #[ty_sl_api_Node, ty_sl_api_Node] ty_sl_api_Node #[t30.v, .slice (some (nb w1)) 1 1]) w2 = .ok (t33.v) w3 ∧ stV w3 (b0.add 0) (t33.v) fun w4 => 
  ∃ t39 : Sl, w4.cell? (b0.add 0) = some (t39.v) ∧ 
  R (.returned (.i (IntKind.wrap .i64 (((t39.n : Nat) : Int) - 1)))) w4
noncomputable def eS0 := entS X [] (pth [3]) P0 S0
theorem ok (b0 : Addr) (n1_0 : Int) (n1_1 : Sl) (n1_2 n1_3 n1_4 : Int) (n1_5 : ByteArray) (n1_6 n1_7 n1_8 : Int) (w : World) (R : Post) (h : nwV w (.cells #[.i n1_0, n1_1.v, .i n1_2, .i n1_3, .u n1_4, .string n1_5, .i n1_6, .i n1_7, .i n1_8] ty_api_Node) fun w1 => 
  drV w1 fun w2 => ∃ t8 : Option Nat, w2.cell? (b0.add 1) = some (.map t8) ∧ 
  ∃ t13 : Sl, w2.cell? (b0.add 0) = some (t13.v) ∧ 
  ca16 n_term_keyOf #[.pointer (some (nb w))] w2 fun t9 w3 => w3.cell? (b0.add 0) = some (t13.v) ∧ w3.cell? (b0.add 1) = some (.map t8) ∧ ∃ (w4 : World), Sem.run Tryz.prog (Instr.mapUpdate ty_map_string_int (.map t8) (.string t9) (.i ((t13.n : Nat) : Int))) w3 = .ok () w4 ∧ ∃ t16 : Int, w4.cell? ((nb w).add 0) = some (.i t16) ∧ 
  sel (t16 == 0) (drV w4 fun w5 => ∃ t21 : Option Nat, w5.cell? (b0.add 2) = some (.map t21) ∧ 
  ∃ t23 : ByteArray, w5.cell? ((nb w).add 5) = some (.string t23) ∧ 
  ld3_2 w5 ((nb w).add 6) fun t25_0 t25_1 t25_2 => ∃ (w6 : World), Sem.run Tryz.prog (Instr.mapUpdate ty_map_string_api_Sort (.map t21) (.string t23) (.agg #[.i t25_0, .i t25_1, .i t25_2])) w5 = .ok () w6 ∧ S0 b0 (nb w) w6 R) (S0 b0 (nb w) w4 R)) : Calls Tryz.prog n_term_builder_put #[.pointer (some b0), .agg #[.i n1_0, n1_1.v, .i n1_2, .i n1_3, .u n1_4, .string n1_5, .i n1_6, .i n1_7, .i n1_8]] w R := callsX X [eS0] h
end term_builder_put
namespace term_newBuilder
noncomputable abbrev X : Fx := ⟨Tryz.prog, Tryz.f26, [], [1, 5]⟩
abbrev P0 : Ps := [(3, .v [.r]), (11, .v [.s]), (12, .v [.I]), (13, .v [.I])]
def L0T (b3 : Addr) (t11 : Sl) (t12 t13 : Int) (w : World) (R : Post) : Prop := mkCur P0 0 (X.Sem (pth [0, 1, 1, 1, 2])) b3 t11 t12 t13 w R
noncomputable def eL0 := entL X (pth [0, 1, 1, 1, 2]) P0 L0T
theorem L0T_step : ∀ (b3 : Addr) (t11 : Sl) (t12 t13 : Int) (w : World) (R : Post) (h : sel (decide (t13 < t12)) ((0 : Int) ≤ t13 ∧ t13 < ((t11.n : Nat) : Int) ∧ optP t11.a fun t15_p => ld9_3 w (t15_p.add (Int.toNat t13 * 9)) fun t16_0 t16_1 t16_2 t16_3 t16_4 t16_5 t16_6 t16_7 t16_8 => newV [] w fun b5 w5 => 
  loc [b5] w5 fun w14 => cf1 [b5] n_term_builder_put #[.pointer (some b3), .agg #[.i t16_0, t16_1.v, .i t16_2, .i t16_3, .u t16_4, .string t16_5, .i t16_6, .i t16_7, .i t16_8]] w14 fun t19 w15 => L0T b3 t11 t12 (IntKind.wrap .i64 (t13 + 1)) w15 R) (R (.returned (.pointer (some b3))) w)), L0T b3 t11 t12 t13 w R := mp (stepL (X := X) [eL0] (pth [0, 1, 1, 1, 2]) P0)
theorem okT (g0_0 : Sl) (w : World) (R : Post) (h : newV [] w fun b1 w1 => 
  nwV w1 (.map #[] 0) fun w2 => 
  nwV w2 (.map #[] 0) fun w3 => 
  nwV w3 (.cells #[.slice none 0 0, .map (some w1.heap.size), .map (some w2.heap.size)] ty_term_builder) fun w4 => 
  L0T (nb w3) g0_0 ((g0_0.n : Nat) : Int) 0 w4 R) : Calls Tryz.prog n_term_newBuilder #[.agg #[g0_0.v]] w R := callsX X [eL0] h
end term_newBuilder
namespace term_Valid
noncomputable abbrev X : Fx := ⟨Tryz.prog, Tryz.f10, [], [1, 5, 6]⟩
abbrev P0 : Ps := [(3, .v [.p]), (17, .v [.s]), (18, .v [.I]), (19, .v [.I])]
def L0T (b3 : Option Addr) (t17 : Sl) (t18 t19 : Int) (w : World) (R : Post) : Prop := mkCur P0 0 (X.Sem (pth [0, 1, 1, 1, 3])) b3 t17 t18 t19 w R
noncomputable def eL0 := entL X (pth [0, 1, 1, 1, 3]) P0 L0T
theorem L0T_step : ∀ (b3 : Option Addr) (t17 : Sl) (t18 t19 : Int) (w : World) (R : Post) (h : sel (decide (t19 < t18)) ((0 : Int) ≤ t19 ∧ t19 < ((t17.n : Nat) : Int) ∧ optP t17.a fun t21_p => ld9_3 w (t21_p.add (Int.toNat t19 * 9)) fun t22_0 t22_1 t22_2 t22_3 t22_4 t22_5 t22_6 t22_7 t22_8 => newV [] w fun b5 w3 => 
  loc [b5] w3 fun w12 => cf14 [b5] n_term_builder_sortOf #[.pointer b3, .agg #[.i t22_0, t22_1.v, .i t22_2, .i t22_3, .u t22_4, .string t22_5, .i t22_6, .i t22_7, .i t22_8]] w12 fun t26_0_0 t26_0_1 t26_0_2 t26_1 w13 => newV [b5] w13 fun b6 w14 => 
  sel (t26_1 != 0) (loc [b5, b6] w14 fun w17 => R (.returned (.i t26_1)) w17) (sel (!((t26_0_0 == t22_6) && ((t26_0_1 == t22_7) && ((t26_0_2 == t22_8) && true)))) (loc [b5, b6] w14 fun w17 => R (.returned (.i 9)) w17) (loc [b5, b6] w14 fun w17 => cf6 [b5, b6] n_term_builder_find #[.pointer b3, .agg #[.i t22_0, t22_1.v, .i t22_2, .i t22_3, .u t22_4, .string t22_5, .i t22_6, .i t22_7, .i t22_8]] w17 fun t39_0 t39_1 w18 => sel t39_1 (R (.returned (.i 8)) w18) (cf1 [b5, b6] n_term_builder_put #[.pointer b3, .agg #[.i t22_0, t22_1.v, .i t22_2, .i t22_3, .u t22_4, .string t22_5, .i t22_6, .i t22_7, .i t22_8]] w18 fun t45 w19 => L0T b3 t17 t18 (IntKind.wrap .i64 (t19 + 1)) w19 R)))) (R (.returned (.i 0)) w)), L0T b3 t17 t18 t19 w R := mp (stepL (X := X) [eL0] (pth [0, 1, 1, 1, 3]) P0)
theorem okT (g0_0 : Sl) (w : World) (R : Post) (h : newV [] w fun b1 w1 => 
  sel (decide (((g0_0.n : Nat) : Int) > 4096)) (R (.returned (.i 4)) w1) (cf9 [b1] n_term_newBuilder #[.agg #[.slice none 0 0]] w1 fun t15 w2 => L0T t15 g0_0 ((g0_0.n : Nat) : Int) 0 w2 R)) : Calls Tryz.prog n_term_Valid #[.agg #[g0_0.v]] w R := callsX X [eL0] h
end term_Valid
end Go.Proofs.YtibaobaobnpdaaaGreatDoor
namespace Go.Proofs.YtibaobaobnpdaaaGreatDoor
open Go Go.W

/-! ### What a writer holds -/
def WrRep (w : World) (wb : Nat) (bs : List UInt8) (own : List Nat) : Prop :=
  ∃ s : Sl, own = wb :: blkL s ∧ w.heap[wb]? = some (.cells #[s.v] ty_wire_Writer (0, 0)) ∧ BytesO w s bs
theorem ow_ne {w : World} {e T : TypeId} {s : Sl} {vs : List Value} (h : Ow w e s vs) {b : Nat} {cs : Array Value} {f : Nat × Nat} (hb : w.heap[b]? = some (.cells cs T f)) (hT : e ≠ T) : b ∉ blkL s := fun hm => by
  obtain ⟨cs', f', hc⟩ := h.2.row.typ b hm
  rw [hc] at hb
  injection hb with hb
  injection hb with _ ht _
  exact hT ht
theorem WrRep.lt {w : World} {wb : Nat} {bs : List UInt8} {own : List Nat} (h : WrRep w wb bs own) : ∀ b ∈ own, b < w.heap.size := by
  obtain ⟨s, rfl, h1, h2⟩ := h
  intro b hb
  rcases List.mem_cons.1 hb with rfl | hb
  · exact lt_of_heap h1
  · exact h2.lt b hb
theorem WrRep.fr {M : Nat → Prop} {w w' : World} {wb : Nat} {bs : List UInt8} {own : List Nat} (h : WrRep w wb bs own) (hf : Fr M w w') (hn : ∀ b ∈ own, ¬ M b) : WrRep w' wb bs own := by
  obtain ⟨s, rfl, h1, h2⟩ := h
  exact ⟨s, rfl, hf.at h1 (hn _ (by simp)), h2.fr hf fun b hb => hn b (by simp [hb])⟩
theorem WrRep.fr0 {w w' : World} {wb : Nat} {bs : List UInt8} {own : List Nat} (h : WrRep w wb bs own) (hf : Fr0 w w') : WrRep w' wb bs own := h.fr hf fun _ _ h => h
theorem WrRep.new (w : World) : WrRep (w.alloc (.cells #[.slice none 0 0] ty_wire_Writer)) w.heap.size [] [w.heap.size] := ⟨⟨none, 0, 0⟩, rfl, heap_new w _, Ow.nil _ _⟩

/-- after a method -/
def WrAt (w : World) (wb : Nat) (own : List Nat) (bs : List UInt8) (w' : World) : Prop := ∃ own', WrRep w' wb bs own' ∧ Fr (· ∈ own) w w' ∧ ∀ x ∈ own', x ∈ own ∨ w.heap.size ≤ x
def WrPost (w : World) (wb : Nat) (own : List Nat) (bs : List UInt8) : Post := fun r w' => r = .returned (.tuple #[]) ∧ WrAt w wb own bs w'
theorem WrAt.refl {w : World} {wb : Nat} {own : List Nat} {bs : List UInt8} (h : WrRep w wb bs own) : WrAt w wb own bs w := ⟨own, h, Fr.refl _ _, fun _ h => .inl h⟩
theorem WrAt.then {w w' w'' : World} {wb : Nat} {own own' : List Nat} {bs' : List UInt8} (h1 : Fr (· ∈ own) w w') (h2 : ∀ x ∈ own', x ∈ own ∨ w.heap.size ≤ x) (h : WrAt w' wb own' bs' w'') : WrAt w wb own bs' w'' := by
  obtain ⟨own'', r, f, o⟩ := h
  refine ⟨own'', r, h1.trans f fun x hx hm => ?_, fun x hx => ?_⟩
  · rcases h2 x hm with h | h
    · exact h
    · omega
  · rcases o x hx with h | h
    · exact h2 x h
    · exact .inr (Nat.le_trans h1.size h)
/-- the store behind an append -/
theorem wr_store {w w1 w2 : World} {wb : Nat} {s s' : Sl} {bs bs' : List UInt8} (hc : w.heap[wb]? = some (.cells #[s.v] ty_wire_Writer (0, 0))) (h0 : BytesO w s bs) (f1 : Fr0 w w1) (ho : BytesO w2 s' bs') (f2 : Fr (· ∈ blkL s) w1 w2) (hbl : ∀ b ∈ blkL s', b ∈ blkL s ∨ w1.heap.size ≤ b) :
    (w2.cell? ((at0 wb).add 0)).isSome = true ∧ w2.frozen? ((at0 wb).add 0) = false ∧ WrAt w wb (wb :: blkL s) bs' (w2.setCell ((at0 wb).add 0) s'.v) := by
  have hne : wb ∉ blkL s := ow_ne h0 hc (by decide)
  have c2 := f2.at (f1.at hc id) hne
  have c3 : (w2.setCell ((at0 wb).add 0) s'.v).heap[wb]? = _ := setAt (p := at0 wb) (i := 0) (v := s'.v) c2 rfl
  have f3 : Fr (· = wb) w2 (w2.setCell ((at0 wb).add 0) s'.v) := Fr.set _ _ _ rfl
  have hne' : wb ∉ blkL s' := ow_ne ho c2 (by decide)
  refine ⟨by rw [cellAt (p := at0 wb) c2 rfl rfl]; rfl, frozenAt (p := at0 wb) c2, wb :: blkL s', ⟨s', rfl, c3, ho.fr f3 fun b hb e => hne' (e ▸ hb)⟩, ?_, ?_⟩
  · exact ((f1.of0 (M := (· ∈ wb :: blkL s))).trans f2 fun x _ hx => by simp [hx]).trans f3 fun x _ hx => by simp [hx]
  · intro x hx
    rcases List.mem_cons.1 hx with rfl | hx
    · exact .inl (by simp)
    · rcases hbl x hx with h | h
      · exact .inl (by simp [h])
      · exact .inr (Nat.le_trans f1.size h)
theorem wr_cell {w : World} {wb : Nat} {s : Sl} (hc : w.heap[wb]? = some (.cells #[s.v] ty_wire_Writer (0, 0))) : w.cell? ((at0 wb).add 0) = some s.v := cellAt (p := at0 wb) hc rfl rfl

/-! ### Uint, Int -/
theorem w_uint_step {w : World} {wb : Nat} {s : Sl} {bs : List UInt8} (hc : w.heap[wb]? = some (.cells #[s.v] ty_wire_Writer (0, 0))) (h0 : BytesO w s bs) (hl : bs.length < 100000000000000) (c : UInt8) (K : World → Prop) (hK : ∀ w', WrAt w wb (wb :: blkL s) (bs ++ [c]) w' → K w') :
    ∃ (t15 : W.Sl) (w2 : World), Sem.run Tryz.prog (Builtin.append_ #[ty_sl_uint8, ty_sl_uint8] ty_sl_uint8 #[s.v, .slice (some (Addr.mk w.heap.size 0 none)) 1 1]) (w.alloc (.cells #[.int .u8 (c.toNat : Int)] ty_uint8)) = .ok (t15.v) w2 ∧ (w2.cell? ((at0 wb).add 0)).isSome = true ∧ w2.frozen? ((at0 wb).add 0) = false ∧ K (w2.setCell ((at0 wb).add 0) (t15.v)) := by
  have f1 : Fr0 w (w.alloc (.cells #[.int .u8 (c.toNat : Int)] ty_uint8)) := Fr.alloc _ _ _
  obtain ⟨s', w2, g1, g2, g3, g4, g5⟩ := append_bytes (ty := ty_sl_uint8) (h0.fr0 f1) (one_byte w c) (by simp; omega)
  obtain ⟨a1, a2, a3⟩ := wr_store hc h0 f1 g2 g3 g4
  exact ⟨s', w2, g1, a1, a2, hK _ a3⟩
theorem w_uint_loop {wb : Nat} (R : Post) : ∀ (n : Nat) (w : World) (bs : List UInt8) (own : List Nat), n < 18446744073709551616 → bs.length + (encU n).length ≤ 100000000000000 → WrRep w wb bs own → (∀ w', WrAt w wb own (bs ++ encU n) w' → R (.returned (.tuple #[])) w') →
    wire_Writer_Uint.L0 (at0 wb) (n : Int) w R := by
  intro n
  induction n using Nat.strongRecOn with
  | _ n ih =>
    intro w bs own hn hl hr hR
    obtain ⟨s, rfl, h1, h2⟩ := hr
    refine wire_Writer_Uint.L0_step _ _ _ _ ?_
    refine sel_intro (fun h => ?_) (fun h => ?_)
    · have hn' : ¬ n < 128 := by simp at h; omega
      rw [encU_large hn'] at hl
      have e : IntKind.wrap .u8 (n : Int) = _ := u8_nat n
      refine ⟨s, wr_cell h1, ?_⟩
      rw [e, bOr_u8_128 _ (by omega)]
      have e2 : ((n % 256 % 128 + 128 : Nat) : Int) = ((UInt8.ofNat (n % 128 + 128)).toNat : Int) := by simp; omega
      rw [e2]
      refine w_uint_step h1 h2 (by simp at hl; omega) (UInt8.ofNat (n % 128 + 128)) (fun w' => wire_Writer_Uint.L0 (at0 wb) (Int.fdiv (n : Int) (2 ^ 7)) w' R) fun w' hw => ?_
      show wire_Writer_Uint.L0 (at0 wb) (Int.fdiv (n : Int) (2 ^ 7)) w' R
      rw [show ((2 : Int) ^ 7) = ((128 : Nat) : Int) from rfl, fdiv_nat n 128 (by omega)]
      obtain ⟨own', r', f', o'⟩ := hw
      refine ih (n / 128) (by omega) w' _ own' (by omega) (by simp at hl ⊢; omega) r' fun w'' hw'' => hR w'' ?_
      rw [encU_large hn', show bs ++ UInt8.ofNat (n % 128 + 128) :: encU (n / 128) = (bs ++ [UInt8.ofNat (n % 128 + 128)]) ++ encU (n / 128) by simp]
      exact hw''.then f' o'
    · have hn' : n < 128 := by simp at h; omega
      rw [encU_small hn'] at hl
      have e : IntKind.wrap .u8 (n : Int) = ((UInt8.ofNat n).toNat : Int) := by rw [u8_nat]; simp
      refine ⟨s, wr_cell h1, ?_⟩
      rw [e]
      refine w_uint_step h1 h2 (by simp at hl; omega) (UInt8.ofNat n) (fun w' => R (.returned (.tuple #[])) w') fun w' hw => hR w' ?_
      rw [encU_small hn']; exact hw
theorem w_uint {w : World} {wb : Nat} {bs : List UInt8} {own : List Nat} (hr : WrRep w wb bs own) (n : Nat) (hn : n < 18446744073709551616) (hl : bs.length ≤ 10000000000000) :
    Calls Tryz.prog n_wire_Writer_Uint #[.pointer (some (at0 wb)), .int .u64 (n : Int)] w (WrPost w wb own (bs ++ encU n)) :=
  wire_Writer_Uint.ok _ _ w _ (w_uint_loop _ n w bs own hn (by have := encU_len10 n hn; omega) hr fun w' h => ⟨rfl, h⟩)

theorem zz_word (n : Int) (h : I64 n) : W.bXor .u64 (IntKind.wrap .u64 ((IntKind.wrap .u64 n) * 2 ^ 1)) (IntKind.wrap .u64 (Int.fdiv n (2 ^ 63))) = (zz n : Int) := by
  obtain ⟨h1, h2⟩ := h
  have e63 : ((2 : Int) ^ 63) = 9223372036854775808 := rfl
  rw [e63, Int.fdiv_eq_ediv_of_nonneg _ (by omega), IntKind.wrap_u64, IntKind.wrap_u64, IntKind.wrap_u64]
  by_cases h0 : 0 ≤ n
  · have e1 : (n / 9223372036854775808) % 18446744073709551616 = ((0 : Nat) : Int) := by omega
    have e2 : (n % 18446744073709551616 * 2 ^ 1) % 18446744073709551616 = ((2 * n).toNat : Int) := by omega
    rw [e1, e2, bXor_nat _ _ (by omega) (by omega), Nat.xor_zero]
    unfold zz; rw [if_pos h0]
  · have e1 : (n / 9223372036854775808) % 18446744073709551616 = ((18446744073709551615 : Nat) : Int) := by omega
    have e2 : (n % 18446744073709551616 * 2 ^ 1) % 18446744073709551616 = ((18446744073709551616 + 2 * n).toNat : Int) := by omega
    rw [e1, e2, bXor_nat _ _ (by omega) (by omega), xor_ones _ (by omega)]
    unfold zz; rw [if_neg h0]
    omega
theorem w_int {w : World} {wb : Nat} {bs : List UInt8} {own : List Nat} (hr : WrRep w wb bs own) (n : Int) (hn : I64 n) (hl : bs.length ≤ 10000000000000) :
    Calls Tryz.prog n_wire_Writer_Int #[.pointer (some (at0 wb)), .int .i64 n] w (WrPost w wb own (bs ++ encI n)) := by
  refine wire_Writer_Int.ok _ _ w _ ?_
  rw [zz_word n hn]
  refine (w_uint hr (zz n) (zz_lt n hn.1 hn.2) hl).mono ?_
  rintro r w1 ⟨rfl, h⟩
  exact ⟨rfl, rfl, h⟩

/-! ### Bool, Text, Raw, Ints, Done -/
theorem w_text {w : World} {wb : Nat} {bs : List UInt8} {own : List Nat} (hr : WrRep w wb bs own) (t : ByteArray) (hl : bs.length + t.size ≤ 10000000000000) :
    Calls Tryz.prog n_wire_Writer_Text #[.pointer (some (at0 wb)), .string t] w (WrPost w wb own (bs ++ encR (bl t))) := by
  refine wire_Writer_Text.ok _ _ w _ ?_
  rw [u64_nat _ (by omega)]
  refine (w_uint hr t.size (by omega) (by omega)).mono ?_
  rintro r w1 ⟨rfl, own1, r1, f1, o1⟩
  have l10 := encU_len10 t.size (by omega)
  obtain ⟨s1, rfl, c1, b1⟩ := r1
  obtain ⟨s', w2, g1, g2, g3, g4⟩ := append_str (ty := ty_sl_uint8) b1 t (by simp; omega)
  obtain ⟨a1, a2, a3⟩ := wr_store c1 b1 (Fr.refl _ w1) g2 g3 g4
  rw [List.append_assoc] at a3
  exact ⟨rfl, s1, wr_cell c1, s', w2, g1, a1, a2, rfl, a3.then f1 o1⟩
theorem flat_len : ∀ (l : List Int), (∀ x ∈ l, I64 x) → (l.flatMap encI).length ≤ 10 * l.length
  | [], _ => by simp
  | x :: l, h => by
    have h1 := encI_len x (h x (by simp))
    have h2 := flat_len l fun y hy => h y (by simp [hy])
    simp at h2 ⊢
    omega
theorem w_ints_loop {wb : Nat} {s : Sl} {l : List Int} (R : Post) (hi : ∀ x ∈ l, I64 x) (hl : l.length ≤ 100000000000) : ∀ (d i : Nat), i + d = l.length → ∀ (w : World) (bs : List UInt8) (own : List Nat), WrRep w wb bs own → Nums w s l → (∀ x ∈ blkL s, x ∉ own) → (∀ x ∈ blkL s, x < w.heap.size) → bs.length + 10 * d ≤ 10000000000000 →
    (∀ w', WrAt w wb own (bs ++ (l.drop i).flatMap encI) w' → R (.returned (.tuple #[])) w') → wire_Writer_Ints.L0 (at0 wb) s (l.length : Int) (i : Int) w R := by
  intro d
  induction d with
  | zero =>
    intro i hd w bs own hr hs hx hlt hb hR
    refine wire_Writer_Ints.L0_step _ _ _ _ _ _ ?_
    refine sel_false (by simp; omega) (hR w ?_)
    rw [List.drop_of_length_le (by omega)]
    simpa using WrAt.refl hr
  | succ d ih =>
    intro i hd w bs own hr hs hx hlt hb hR
    have hg : l[i]? = some l[i] := List.getElem?_eq_getElem (by omega)
    have hm : l[i] ∈ l := List.getElem_mem _
    refine wire_Writer_Ints.L0_step _ _ _ _ _ _ ?_
    refine sel_true (by simp; omega) ⟨by omega, by rw [Nums.len hs]; omega, Nums.cell hs hg (by simp) fun p _ hp => ⟨_, hp, (w_int hr _ (hi _ hm) (by omega)).mono ?_⟩⟩
    rintro r w1 ⟨rfl, own1, r1, f1, o1⟩
    refine ⟨rfl, ?_⟩
    show wire_Writer_Ints.L0 (at0 wb) s (l.length : Int) (IntKind.wrap .i64 ((i : Int) + 1)) w1 R
    rw [i64_next i (by omega)]
    have l10 := encI_len _ (hi _ hm)
    refine ih (i + 1) (by omega) w1 _ own1 r1 (hs.fr f1 hx) (fun x hx' hm' => ?_) (fun x hx' => Nat.lt_of_lt_of_le (hlt x hx') f1.size) (by simp; omega) fun w2 h2 => hR w2 ?_
    · rcases o1 x hm' with h | h
      · exact hx x hx' h
      · have := hlt x hx'; omega
    · rw [List.drop_eq_getElem_cons (by omega), List.flatMap_cons, ← List.append_assoc]
      exact h2.then f1 o1
theorem w_ints {w : World} {wb : Nat} {bs : List UInt8} {own : List Nat} (hr : WrRep w wb bs own) {s : Sl} {l : List Int} (hb : Nums w s l) (hd : ∀ x ∈ blkL s, x ∉ own) (hlt : ∀ x ∈ blkL s, x < w.heap.size) (hi : ∀ x ∈ l, I64 x) (hl : bs.length + 10 * l.length ≤ 1000000000000) :
    Calls Tryz.prog n_wire_Writer_Ints #[.pointer (some (at0 wb)), s.v] w (WrPost w wb own (bs ++ encL l)) := by
  refine wire_Writer_Ints.ok _ _ w _ ?_
  rw [Nums.len hb, u64_nat _ (by omega)]
  refine (w_uint hr l.length (by omega) (by omega)).mono ?_
  rintro r w1 ⟨rfl, own1, r1, f1, o1⟩
  have l10 := encU_len10 l.length (by omega)
  refine ⟨rfl, ?_⟩
  dsimp only
  refine w_ints_loop _ hi (by omega) l.length 0 (by omega) w1 _ own1 r1 (hb.fr f1 hd) (fun x hx' hm' => ?_) (fun x hx' => Nat.lt_of_lt_of_le (hlt x hx') f1.size) (by simp; omega) fun w2 h2 => ⟨rfl, ?_⟩
  · rcases o1 x hm' with h | h
    · exact hd x hx' h
    · have := hlt x hx'; omega
  · rw [List.drop_zero, List.append_assoc] at h2
    exact h2.then f1 o1
theorem clone_bytes (s : Sl) (bs : List UInt8) (w : World) (hb : Bytes w s bs) (hl : bs.length ≤ 140737488355328) : Calls Tryz.prog n_slices_Clone_sl_byte_byte #[s.v] w (fun r w' => ∃ s : Sl, r = .returned s.v ∧ BytesO w' s bs ∧ Fr0 w w' ∧ ∀ b ∈ blkL s, w.heap.size ≤ b) := by
  refine slices_Clone_sl_byte_byte.ok s w _ ?_
  refine sel_intro (fun h => ?_) (fun h => ?_)
  · have hn : bs = [] := by
      have := (hb.2.2.1 (by simpa using h)).1
      exact List.eq_nil_of_length_eq_zero (by rw [← Bytes.len hb, this])
    subst hn
    exact ⟨⟨none, 0, 0⟩, rfl, Ow.nil w _, Fr.refl _ _, by simp [blkL]⟩
  · show (fun w1 : World => ∃ (t7 : Sl) (w2 : World), Sem.run Tryz.prog (Builtin.append_ #[ty_sl_uint8, ty_sl_uint8] ty_sl_uint8 #[.slice (some (nb w)) 0 0, s.v]) w1 = .ok (t7.v) w2 ∧ (∃ s : Sl, Ending.returned t7.v = .returned s.v ∧ BytesO w2 s bs ∧ Fr0 w w2 ∧ ∀ b ∈ blkL s, w.heap.size ≤ b)) (w.alloc (.cells #[] ty_uint8))
    generalize hw1 : w.alloc (.cells #[] ty_uint8) = w1
    subst hw1
    let w1 := w.alloc (.cells #[] ty_uint8)
    have ho : BytesO w1 ⟨some ⟨w.heap.size, 0, none⟩, 0, 0⟩ [] := Ow.made w ty_uint8 [] 0 rfl (by omega)
    have hb1 : Bytes w1 s bs := hb.fr0 (Fr.alloc _ _ _)
    obtain ⟨s', w2, hrun, hown, hfr, hbl, _⟩ := append_bytes (ty := ty_sl_uint8) ho hb1 (by simp; omega)
    refine ⟨s', w2, hrun, s', rfl, by simpa using hown, ?_, ?_⟩
    · refine (Fr.alloc (fun _ => False) w _).trans hfr fun x hx hm => ?_
      simp [blkL] at hm
      omega
    · intro b hb'
      rcases hbl b hb' with h | h
      · simp [blkL] at h; omega
      · have : w1.heap.size = w.heap.size + 1 := size_alloc _ _
        omega
theorem w_done {w : World} {wb : Nat} {bs : List UInt8} {own : List Nat} (hr : WrRep w wb bs own) (hl : bs.length ≤ 100000000000000) :
    Calls Tryz.prog n_wire_Writer_Done #[.pointer (some (at0 wb))] w (NewBytes w bs) := by
  obtain ⟨s, rfl, h1, h2⟩ := hr
  refine wire_Writer_Done.ok _ w _ ⟨s, wr_cell h1, (clone_bytes s bs w h2.rd (by omega)).mono ?_⟩
  rintro r w1 ⟨s', rfl, h⟩
  exact ⟨s', rfl, s', rfl, h⟩
end Go.Proofs.YtibaobaobnpdaaaGreatDoor
namespace Go.W

/-! ### Writing into a row of structs of one's own -/
theorem own_set {w : World} {e : TypeId} {sz : Nat} {s : Sl} {vs : List Value} (h : OwnRow w e sz s vs) (i : Nat) (hi : i < vs.length) (v : Value) :
    ∃ p, s.a = some p ∧ p.block ∈ blkL s ∧ (w.cell? (p.add i)).isSome = true ∧ w.frozen? (p.add i) = false ∧ OwnRow (w.setCell (p.add i) v) e sz s (vs.set i v) ∧ Fr (· ∈ blkL s) w (w.setCell (p.add i) v) := by
  have hl := h.len
  rcases h.cases with ⟨rfl, rfl⟩ | ⟨g, cur, ha, hg, h1, h2, h3, h4⟩
  · simp at hi
  · have hle : s.n * sz ≤ s.c * sz := Nat.mul_le_mul_right _ h1
    have hsz : i < cur.size := by omega
    have hb : g ∈ blkL s := by simp [blkL, ha]
    refine ⟨⟨g, 0, none⟩, ha, hb, ?_, frozenAt (p := ⟨g, 0, none⟩) hg, ?_, Fr.set _ _ _ (by rw [add_block]; exact hb)⟩
    · rw [cellAt (p := ⟨g, 0, none⟩) (v := cur[i]) hg rfl (by simp [hsz])]; rfl
    · refine ⟨by simpa using h.1, .inr ⟨g, s.c, cur.setIfInBounds i v, ?_, Nat.zero_le _, ?_, h1, h2, by simpa using h3, ?_⟩⟩
      · obtain ⟨a, n, c⟩ := s
        simp only at ha
        subst ha; rfl
      · have := setAt (p := ⟨g, 0, none⟩) (i := i) (v := v) hg rfl
        simpa using this
      · rw [Array.toList_setIfInBounds, List.take_set, h4]
section
variable {M : Nat → Prop} {w0 w : World} {L D : List En} {bs : List Nat}
theorem LH.ghost_ne (H : LH M w0 w L D) {i : Nat} {e : TypeId} {sz : Nat} {s : Sl} {xs : List Value} (hi : L[i]? = some (.row e sz s xs)) {b : Nat} (hb : En.g b ∈ L) : b ∉ blkL s := fun hm => by
  obtain ⟨j, hj⟩ := List.mem_iff_getElem?.1 hb
  by_cases hij : i = j
  · subst hij
    rw [hi] at hj
    have e1 : En.row e sz s xs = En.g b := Option.some.inj hj
    have e2 : (En.row e sz s xs).P = (En.g b).P := by rw [e1]
    have hb0 : (En.g b).P ({ w with heap := Array.replicate (b + 1) (.map #[] 0) }) := by show b < _; simp
    rw [← e2] at hb0
    obtain ⟨cs, f, hc⟩ := (OwnRow.row (show OwnRow ({ w with heap := Array.replicate (b + 1) (.map #[] 0) }) e sz s xs from hb0)).typ b hm
    simp at hc
  · exact disj_of H.nd hi hj hij b hm (by simp [En.g])
end
/-- something new of one's own, and something new to read -/
theorem LH.push2 {M : Nat → Prop} {w0 w w' : World} {L D : List En} (H : LH M w0 w L D) (e d : En) (f : Fr0 w w') (he : e.P w') (hd : d.P w') (hn : ∀ b ∈ e.fp, w.heap.size ≤ b ∧ b ∉ d.fp) (hn' : ∀ b ∈ d.fp, w.heap.size ≤ b) : LH M w0 w' (L ++ [e]) (D ++ [d]) := by
  have H1 := H.push e f he fun b hb => (hn b hb).1
  refine ⟨H1.fr, H1.own, fun g hg => ?_, H1.new, H1.nd, fun g hg b hb g' hg' hb' => ?_⟩
  · rcases List.mem_append.1 hg with hg | hg
    · exact H1.rd g hg
    · simp at hg; subst hg; exact hd
  · rcases List.mem_append.1 hg with hg | hg
    · exact H1.dj g hg b hb g' hg' hb'
    · simp at hg; subst hg
      rcases List.mem_append.1 hg' with hg' | hg'
      · have := g'.lt w (H.own g' hg') b hb'
        have := hn' b hb
        omega
      · simp at hg'; subst hg'
        exact (hn b hb').2 hb
/-- some of the things of one's own -/
def sieve : List Bool → List En → List En
  | true :: m, a :: l => a :: sieve m l
  | false :: m, _ :: l => sieve m l
  | _, _ => []
theorem sieve_sub : ∀ (m : List Bool) (l : List En), (sieve m l).Sublist l
  | [], l => by unfold sieve; exact List.nil_sublist _
  | true :: m, [] => by unfold sieve; exact List.nil_sublist _
  | false :: m, [] => by unfold sieve; exact List.nil_sublist _
  | true :: m, a :: l => by unfold sieve; exact (sieve_sub m l).cons_cons a
  | false :: m, a :: l => by unfold sieve; exact (sieve_sub m l).cons a
theorem sub_flat {α β : Type} {f : α → List β} {l m : List α} (h : l.Sublist m) : (l.flatMap f).Sublist (m.flatMap f) := by
  induction h with
  | slnil => exact List.Sublist.refl _
  | cons a _ ih => rw [List.flatMap_cons]; exact ih.trans (List.sublist_append_right _ _)
  | cons_cons a _ ih => rw [List.flatMap_cons, List.flatMap_cons]; exact (List.Sublist.refl _).append ih
theorem LH.sieve {M : Nat → Prop} {w0 w : World} {L D : List En} (H : LH M w0 w L D) (m : List Bool) : LH M w0 w (sieve m L) D :=
  ⟨H.fr, fun e he => H.own e ((sieve_sub m L).subset he), H.rd, fun e he => H.new e ((sieve_sub m L).subset he), (sub_flat (sieve_sub m L)).nodup H.nd, fun e he b hb e' he' => H.dj e he b hb e' ((sieve_sub m L).subset he')⟩
/-- a thing that is more than a place -/
theorem ghost_off {M : Nat → Prop} {w0 w : World} {L D : List En} (H : LH M w0 w L D) {i : Nat} {e : En} (hi : L[i]? = some e) (hno : ∀ (b : Nat), ¬ e.P ({ w with heap := Array.replicate (b + 1) (.map #[] 0) })) {b : Nat} (hb : En.g b ∈ L) : b ∉ e.fp := by
  obtain ⟨j, hj⟩ := List.mem_iff_getElem?.1 hb
  by_cases hij : i = j
  · subst hij
    rw [hi] at hj
    have e1 : e = En.g b := Option.some.inj hj
    exfalso
    refine hno b ?_
    rw [e1]
    show b < _
    simp
  · intro hm
    exact disj_of H.nd hi hj hij b hm (by simp [En.g])
section
variable {M : Nat → Prop} {w0 w : World} {L D : List En} {bs : List Nat}
theorem LH.st1 (H : LH M w0 w L D) (i j : Nat) {e : TypeId} {sz : Nat} {s : Sl} {xs : List Value} {v : Value} {p : Addr} {K : World → Prop} (hi : L[i]? = some (.row e sz s xs)) (hp : s.a = some p) (hj : j < xs.length)
    (hK : ∀ w', LH M w0 w' (L.set i (.row e sz s (xs.set j v))) D → K w') (hbs : ∀ b ∈ bs, En.g b ∈ L := by simp) : stV w (p.add j) v fun w1 => kept bs w w1 ∧ K w1 := by
  obtain ⟨q, hq, hqb, x1, x2, x3, x4⟩ := own_set (H.get i hi) j hj v
  rw [hp] at hq
  cases hq
  refine ⟨x1, x2, fun b hb => ?_, hK _ (H.upd i (.row e sz s (xs.set j v)) hi x4 x3 (fun b hb => .inl hb))⟩
  exact x4.keep b (H.own _ (hbs b hb)) fun hm => H.ghost_ne hi (hbs b hb) hm
end
theorem optP_mk {p : Addr} {K : Addr → Prop} (h : K p) : optP (some p) K := h
/-- a row of one cell an element -/
theorem row_at {w : World} {e : TypeId} {s : Sl} {vs : List Value} (h : OwnRow w e 1 s vs) {X : Int} {i : Nat} (hX : X = (i : Int)) {v : Value} (hi : vs[i]? = some v) {K : Addr → Prop} (hk : ∀ p, s.a = some p → w.cell? (p.add (Int.toNat X * 1)) = some v → K p) :
    (0 : Int) ≤ X ∧ X < ((s.n : Nat) : Int) ∧ optP s.a K := by
  have hn := h.len
  have hl := (List.getElem?_eq_some_iff.1 hi).1
  subst hX
  exact ⟨by omega, by omega, Rd.get h.rd1 (i := i) (v := v) hi (by simp) hk⟩
theorem st_plain {w : World} {p : Addr} {v : Value} {K : World → Prop} (h : stV w p v fun w1 => kept [] w w1 ∧ K w1) : stV w p v K := ⟨h.1, h.2.1, h.2.2.2⟩
end Go.W
namespace Go.Proofs.YtibaobaobnpdaaaGreatDoor
open Go Go.W

theorem lh0 {w : World} (D : List En) (h : ∀ e ∈ D, e.P w) : LH F0 w w [] D := LH.start D h
/-- an expression -/
inductive Rx where
  | mk (k : Int) (lo hi : UInt8) (l : List Rx)
/-- an expression, with the slices of its parts -/
inductive Rt where
  | mk (k : Int) (lo hi : UInt8) (s : Sl) (l : List Rt)
namespace Rt
def k : Rt → Int | .mk k _ _ _ _ => k
def lo : Rt → UInt8 | .mk _ lo _ _ _ => lo
def hi : Rt → UInt8 | .mk _ _ hi _ _ => hi
def s : Rt → Sl | .mk _ _ _ s _ => s
def l : Rt → List Rt | .mk _ _ _ _ l => l
mutual
def rx : Rt → Rx | .mk k lo hi _ l => .mk k lo hi (rxs l)
def rxs : List Rt → List Rx
  | [] => []
  | t :: l => t.rx :: rxs l
end
mutual
def sz : Rt → Nat | .mk _ _ _ _ l => 1 + szs l
def szs : List Rt → Nat
  | [] => 0
  | t :: l => t.sz + szs l
end
/-- the cells of a node -/
def c (t : Rt) : List Value := [.int .i64 t.k, .int .u8 (t.lo.toNat : Int), .int .u8 (t.hi.toNat : Int), t.s.v]
/-- a node as an argument -/
abbrev v (t : Rt) : Value := .agg #[.int .i64 t.k, .int .u8 (t.lo.toNat : Int), .int .u8 (t.hi.toNat : Int), t.s.v]
/-- the row of the parts -/
abbrev row (s : Sl) (l : List Rt) : En := .rdn 4 s (l.flatMap c)
mutual
/-- the rows of all parts are there -/
def P (w : World) : Rt → Prop | .mk _ _ _ s l => RdN 4 w s (l.flatMap c) ∧ Ps w l
def Ps (w : World) : List Rt → Prop
  | [] => True
  | t :: l => P w t ∧ Ps w l
end
mutual
def fp : Rt → List Nat | .mk _ _ _ s l => (row s l).fp ++ fps l
def fps : List Rt → List Nat
  | [] => []
  | t :: l => fp t ++ fps l
end
theorem c_len (t : Rt) : (c t).length = 4 := rfl
theorem cs_len (l : List Rt) : (l.flatMap c).length = l.length * 4 := flat_length c 4 c_len l
theorem rows_n {w : World} {s : Sl} {l : List Rt} (h : RdN 4 w s (l.flatMap c)) : s.n = l.length := by
  have := h.1
  rw [cs_len] at this
  omega
mutual
theorem keep {w w' : World} : ∀ (t : Rt), (∀ b ∈ t.fp, b < w.heap.size → w'.heap[b]? = w.heap[b]?) → P w t → P w' t
  | .mk k lo hi s l, h, hp => by
    unfold fp at h
    unfold P at hp ⊢
    exact ⟨(row s l).st w w' (fun b hb => h b (List.mem_append_left _ hb)) hp.1, keeps l (fun b hb => h b (List.mem_append_right _ hb)) hp.2⟩
theorem keeps {w w' : World} : ∀ (l : List Rt), (∀ b ∈ fps l, b < w.heap.size → w'.heap[b]? = w.heap[b]?) → Ps w l → Ps w' l
  | [], _, _ => by unfold Ps; trivial
  | t :: l, h, hp => by
    unfold fps at h
    unfold Ps at hp ⊢
    exact ⟨keep t (fun b hb => h b (List.mem_append_left _ hb)) hp.1, keeps l (fun b hb => h b (List.mem_append_right _ hb)) hp.2⟩
end
mutual
theorem lt {w : World} : ∀ (t : Rt), P w t → ∀ b ∈ t.fp, b < w.heap.size
  | .mk k lo hi s l, hp, b, hb => by
    unfold fp at hb
    unfold P at hp
    rcases List.mem_append.1 hb with hb | hb
    · exact (row s l).lt w hp.1 b hb
    · exact lts l hp.2 b hb
theorem lts {w : World} : ∀ (l : List Rt), Ps w l → ∀ b ∈ fps l, b < w.heap.size
  | [], _, b, hb => by unfold fps at hb; cases hb
  | t :: l, hp, b, hb => by
    unfold fps at hb
    unfold Ps at hp
    rcases List.mem_append.1 hb with hb | hb
    · exact lt t hp.1 b hb
    · exact lts l hp.2 b hb
end
theorem P.fr0 {w w' : World} {t : Rt} (h : P w t) (f : Fr0 w w') : P w' t := keep t (fun b _ hl => f.keep b hl id) h
theorem Ps.fr0 {w w' : World} {l : List Rt} (h : Ps w l) (f : Fr0 w w') : Ps w' l := keeps l (fun b _ hl => f.keep b hl id) h
theorem Ps.get {w : World} : ∀ {l : List Rt}, Ps w l → ∀ {i : Nat} {t : Rt}, l[i]? = some t → P w t
  | [], _, i, t, h => by simp at h
  | a :: l, hp, 0, t, h => by
    unfold Ps at hp
    simp at h; subst h; exact hp.1
  | a :: l, hp, i + 1, t, h => by
    unfold Ps at hp
    exact Ps.get hp.2 (by simpa using h)
theorem Ps.mem {w : World} {l : List Rt} (h : Ps w l) {t : Rt} (ht : t ∈ l) : P w t := by
  obtain ⟨i, hi⟩ := List.mem_iff_getElem?.1 ht
  exact h.get hi
theorem ps_of {w : World} : ∀ {l : List Rt}, (∀ t ∈ l, P w t) → Ps w l
  | [], _ => by unfold Ps; trivial
  | t :: l, h => by
    unfold Ps
    exact ⟨h t (by simp), ps_of fun t' ht => h t' (by simp [ht])⟩
theorem fps_iff : ∀ {l : List Rt} {b : Nat}, b ∈ fps l ↔ ∃ t ∈ l, b ∈ t.fp
  | [], b => by unfold fps; simp
  | t :: l, b => by
    unfold fps
    rw [List.mem_append, fps_iff]
    simp
/-- the parts of a tree -/
theorem P.parts {w : World} {t : Rt} (h : P w t) : RdN 4 w t.s (t.l.flatMap c) ∧ Ps w t.l := by cases t; unfold P at h; exact h
theorem fp_parts {t : Rt} {b : Nat} : b ∈ t.fp ↔ b ∈ (row t.s t.l).fp ∨ b ∈ fps t.l := by cases t; unfold fp; exact List.mem_append
structure Cells (w : World) (p : Addr) (i : Nat) (t : Rt) : Prop where
  c0 : w.cell? ((p.add (i * 4)).add 0) = some (.int .i64 t.k)
  c1 : w.cell? ((p.add (i * 4)).add 1) = some (.int .u8 (t.lo.toNat : Int))
  c2 : w.cell? ((p.add (i * 4)).add 2) = some (.int .u8 (t.hi.toNat : Int))
  c3 : w.cell? ((p.add (i * 4)).add 3) = some t.s.v
theorem at' {w : World} {s : Sl} {l : List Rt} (h : RdN 4 w s (l.flatMap c)) {i : Nat} {t : Rt} (hi : l[i]? = some t) {K : Addr → Prop} (hk : ∀ p, s.a = some p → Cells w p i t → K p) : optP s.a K :=
  CRow.elem (f := c) (sz := 4) c_len (by omega) h.2.2 hi fun p hp hc => hk p hp ⟨hc 0 _ rfl, hc 1 _ rfl, hc 2 _ rfl, hc 3 _ rfl⟩
end Rt
/-- a tree to read -/
def _root_.Go.W.En.tree (t : Rt) : En := ⟨nub t.fp, fun w => t.P w, fun w w' h hp => Rt.keep t (fun b hb => h b (mem_nub.2 hb)) hp, fun w hp b hb => Rt.lt t hp b (mem_nub.1 hb), nub_nodup _⟩
def _root_.Go.W.En.trees (l : List Rt) : En := ⟨nub (Rt.fps l), fun w => Rt.Ps w l, fun w w' h hp => Rt.keeps l (fun b hb => h b (mem_nub.2 hb)) hp, fun w hp b hb => Rt.lts l hp b (mem_nub.1 hb), nub_nodup _⟩
namespace Rx
def k : Rx → Int | .mk k _ _ _ => k
def lo : Rx → UInt8 | .mk _ lo _ _ => lo
def hi : Rx → UInt8 | .mk _ _ hi _ => hi
def l : Rx → List Rx | .mk _ _ _ l => l
mutual
def sz : Rx → Nat | .mk _ _ _ l => 1 + szs l
def szs : List Rx → Nat
  | [] => 0
  | t :: l => t.sz + szs l
end
end Rx
end Go.Proofs.YtibaobaobnpdaaaGreatDoor

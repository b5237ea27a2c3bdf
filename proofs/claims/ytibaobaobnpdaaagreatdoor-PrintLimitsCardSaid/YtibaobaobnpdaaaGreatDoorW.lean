/- A small layer of our own over the kit's wp: environments in place of frames, typed verification conditions of regions, and the rule for a region that draws its order. No program in sight. Memory, for proofs over the printed conditions: frames, rows, appends, maps with integer keys. No program in sight. Things of one's own and things to read: a small logic for the printed conditions. No program in sight. Regions whose effects have no order among them: a rule with an invariant. No program in sight. Variables that nobody else sees: what a function does, without them. No program in sight. -/
import Derived.OrdersHeld
import Derived.OrdersIn
import Derived.RangeFuncLeaves
import Derived.RangeFuncRecord
import Derived.RangeFuncSeq
import Derived.WalkKit
import Derived.Laws.AppendOwn
import Derived.Laws.StructEq
import Derived.KernelRfl
import Derived.Below
import Derived.OwnWalk
import Derived.IntWalk
import Derived.Laws.AppendOwnNone
set_option linter.unusedVariables false
namespace Go.W

/-! ### Environments -/
abbrev Env := List (Nat × Value)

def Env.get? : Env → Nat → Option Value
  | [], _ => none
  | (k, v) :: E, t => bif Nat.beq k t then some v else Env.get? E t

def Env.val (E : Env) : Operand → Option Value
  | .tmp t => E.get? t
  | .const v => some v
  | .global g => some (.pointer (some ⟨g, 0, none⟩))
  | .func f => some (.func (.func f) #[] #[])

def Env.ev (E : Env) (x : Operand) : Value := (E.val x).getD undef

def Env.put (E : Env) (d : Option Nat) (v : Value) : Env :=
  match d with
  | some d => (d, v) :: E
  | none => E

def Env.covers (E : Env) (o : Oper) : Bool := o.op.operands.toList.all fun x => (E.val x).isSome

/-- where a code runs: how many temporaries, which deferred calls are noted, in which round of a loop over a function -/
structure Cx where
  n : Nat
  ds : List Deferred
  ro : Option Nat
instance : CoeHead Cx Nat := ⟨Cx.n⟩
abbrev cx (n : Nat) : Cx := ⟨n, [], none⟩
abbrev FW (n : Cx) : Fence := { Fence.wide with round := n.ro }
structure Ag (n : Cx) (a : Act) (E : Env) : Prop where
  defers : a.defers = n.ds
  size : a.tmps.size = n.n
  get : ∀ t v, E.get? t = some v → a.tmps[t]? = some v

theorem Ag.val {n : Cx} {a : Act} {E : Env} (h : Ag n a E) {x : Operand} {v : Value} (hx : E.val x = some v) : a.eval x = v := by
  cases x with
  | tmp t => have := h.get t v hx; simp [Act.eval, this]
  | const u => simpa [Env.val, Act.eval] using hx
  | global g => simpa [Env.val, Act.eval] using hx
  | func f => simpa [Env.val, Act.eval] using hx

theorem Ag.ev {n : Cx} {a : Act} {E : Env} (h : Ag n a E) {x : Operand} (hx : (E.val x).isSome = true) : a.eval x = E.ev x := by
  obtain ⟨v, hv⟩ := Option.isSome_iff_exists.1 hx
  rw [h.val hv, Env.ev, hv]; rfl

theorem Ag.put {n : Cx} {a : Act} {E : Env} (h : Ag n a E) {d : Option Nat} (v : Value) (hd : ∀ t, d = some t → t < n.n) : Ag n (a.put d v) (E.put d v) := by
  cases d with
  | none => exact h
  | some t =>
    refine ⟨h.defers, by simp [Act.put, h.size], ?_⟩
    intro s u hs
    have ht : t < a.tmps.size := by rw [h.size]; exact hd t rfl
    simp only [Env.put, Env.get?] at hs
    by_cases e : t = s
    · subst e
      simp at hs
      simp [Act.put, ht, hs]
    · have : Nat.beq t s = false := by rw [← Bool.not_eq_true, Nat.beq_eq]; exact e
      simp only [this, cond_false] at hs
      simpa [Act.put, Array.getElem?_setIfInBounds_ne e] using h.get s u hs

/-- forgetting -/
theorem Ag.nil {n : Cx} {a : Act} {E : Env} (h : Ag n a E) : Ag n a [] := ⟨h.defers, h.size, fun _ _ h => by simp [Env.get?] at h⟩
theorem Ag.cons {n : Cx} {a : Act} {E F : Env} (h : Ag n a E) {t : Nat} {v : Value} (ht : E.get? t = some v) (hF : Ag n a F) : Ag n a ((t, v) :: F) := by
  refine ⟨h.defers, h.size, ?_⟩
  intro s u hs
  simp only [Env.get?] at hs
  by_cases e : t = s
  · subst e; simp at hs; subst hs; exact h.get _ _ ht
  · have : Nat.beq t s = false := by rw [← Bool.not_eq_true, Nat.beq_eq]; exact e
    simp only [this, cond_false] at hs
    exact hF.get s u hs

theorem Ag.execOp {n : Cx} {a : Act} {E : Env} (h : Ag n a E) {o : Oper} (hs : ∀ cs b, o.op ≠ .select cs b) (hc : E.covers o = true) : execOp a.eval o = execOp E.ev o :=
  execOp_congr o hs fun x hx => h.ev (by
    have := List.all_eq_true.1 hc x (by simpa using hx)
    exact this)

/-! ### Shapes -/
/-- a slice's three parts -/
structure Sl where
  a : Option Addr
  n : Nat
  c : Nat
abbrev Sl.v (s : Sl) : Value := .slice s.a s.n s.c
abbrev Post := Ending → World → Prop
/-- a function value that is no method of an interface and not nil -/
structure Fv where
  n : Nat
  bs : Array Value
  cs : Array Value
abbrev Fv.v (f : Fv) : Value := .func (.func f.n) f.bs f.cs

def exCell (z : Value) (K : Value → Prop) : Prop :=
  match z with
  | .int k _ => ∃ n : Int, K (.int k n)
  | .bool _ => ∃ b : Bool, K (.bool b)
  | .string _ => ∃ s : ByteArray, K (.string s)
  | .slice _ _ _ => ∃ s : Sl, K s.v
  | .pointer _ => ∃ a : Option Addr, K (.pointer a)
  | .map _ => ∃ r : Option Nat, K (.map r)
  | _ => ∃ v : Value, K v
def exCells : List Value → (List Value → Prop) → Prop
  | [], K => K []
  | z :: zs, K => exCell z fun v => exCells zs fun vs => K (v :: vs)
def exFlat (z : Value) (K : Value → Prop) : Prop :=
  match z with
  | .agg cs => exCells cs.toList fun vs => K (.agg vs.toArray)
  | z => exCell z K
def exFlats : List Value → (List Value → Prop) → Prop
  | [], K => K []
  | z :: zs, K => exFlat z fun v => exFlats zs fun vs => K (v :: vs)
def exAny (z : Value) (K : Value → Prop) : Prop :=
  match z with
  | .tuple zs => exFlats zs.toList fun vs => K (.tuple vs.toArray)
  | z => exFlat z K

theorem exCell_elim {z : Value} {K : Value → Prop} (h : exCell z K) : ∃ v, K v := by
  unfold exCell at h
  split at h
  · obtain ⟨n, h⟩ := h; exact ⟨_, h⟩
  · obtain ⟨n, h⟩ := h; exact ⟨_, h⟩
  · obtain ⟨n, h⟩ := h; exact ⟨_, h⟩
  · obtain ⟨n, h⟩ := h; exact ⟨_, h⟩
  · obtain ⟨n, h⟩ := h; exact ⟨_, h⟩
  · obtain ⟨n, h⟩ := h; exact ⟨_, h⟩
  · exact h
theorem exCells_elim : ∀ {zs : List Value} {K : List Value → Prop}, exCells zs K → ∃ vs, vs.length = zs.length ∧ K vs
  | [], _, h => ⟨[], rfl, h⟩
  | _ :: _, _, h => by
    obtain ⟨v, h⟩ := exCell_elim h
    obtain ⟨vs, hl, h⟩ := exCells_elim h
    exact ⟨v :: vs, by simp [hl], h⟩
theorem exFlat_elim {z : Value} {K : Value → Prop} (h : exFlat z K) : ∃ v, K v := by
  unfold exFlat at h
  split at h
  · obtain ⟨vs, _, h⟩ := exCells_elim h; exact ⟨_, h⟩
  · exact exCell_elim h
theorem exFlats_elim : ∀ {zs : List Value} {K : List Value → Prop}, exFlats zs K → ∃ vs, K vs
  | [], _, h => ⟨[], h⟩
  | _ :: _, _, h => by
    obtain ⟨v, h⟩ := exFlat_elim h
    obtain ⟨vs, h⟩ := exFlats_elim h
    exact ⟨v :: vs, h⟩
theorem exAny_elim {z : Value} {K : Value → Prop} (h : exAny z K) : ∃ v, K v := by
  unfold exAny at h
  split at h
  · obtain ⟨vs, h⟩ := exFlats_elim h; exact ⟨_, h⟩
  · exact exFlat_elim h

def AndT (b : Bool) (p : Prop) : Prop := match b with | true => p | false => False
theorem AndT_elim {b : Bool} {p : Prop} (h : AndT b p) : b = true ∧ p := by
  cases b
  · exact h.elim
  · exact ⟨rfl, h⟩
def sel (t : Bool) (A B : Prop) : Prop := match t with | true => A | false => B
theorem sel_intro {t : Bool} {A B : Prop} (h1 : t = true → A) (h2 : t = false → B) : sel t A B := by
  cases t
  · exact h2 rfl
  · exact h1 rfl
theorem sel_true {t : Bool} {A B : Prop} (ht : t = true) (h : A) : sel t A B := by subst ht; exact h
theorem sel_false {t : Bool} {A B : Prop} (ht : t = false) (h : B) : sel t A B := by subst ht; exact h
def optP (q : Option Addr) (K : Addr → Prop) : Prop := match q with | some p => K p | none => False
theorem optP_elim {q : Option Addr} {K : Addr → Prop} (h : optP q K) : ∃ p, q = some p ∧ K p := by
  cases q with
  | none => exact h.elim
  | some p => exact ⟨p, rfl, h⟩
def andL : List Prop → Prop → Prop
  | [], p => p
  | q :: l, p => q ∧ andL l p
theorem andL_elim : ∀ {l : List Prop} {p : Prop}, andL l p → (∀ q ∈ l, q) ∧ p
  | [], _, h => ⟨fun _ h => (by cases h), h⟩
  | _ :: _, _, h => ⟨fun q hq => by
      rcases List.mem_cons.1 hq with rfl | hq
      · exact h.1
      · exact (andL_elim h.2).1 q hq, (andL_elim h.2).2⟩

/-! ### What needs no memory -/
def pureRun {α : Type} (P : Program) : Sem α → Option α
  | .pure a => some a
  | .program k => pureRun P (k P)
  | _ => none
theorem pureRun_sound {α : Type} {P : Program} : ∀ {s : Sem α} {a : α}, pureRun P s = some a → ∀ w, s.run P w = .ok a w
  | .pure _, _, h, w => by simp [pureRun] at h; subst h; rfl
  | .program k, _, h, w => by simp only [pureRun] at h; exact pureRun_sound h w
  | .load .., _, h, _ | .store .., _, h, _ | .new .., _, h, _ | .shape .., _, h, _ | .freeze .., _, h, _ | .frozen .., _, h, _ | .getObj .., _, h, _ | .setObj .., _, h, _
  | .choose .., _, h, _ | .sys .., _, h, _ | .mark .., _, h, _ | .halt .., _, h, _ => by simp [pureRun] at h

def zeroOf (P : Program) (t : TypeId) : Value := ((P.info? t).bind (·.zero)).getD undef

/-! ### One operation -/
/-- operations that leave the world alone -/
def calm (P : Program) (o : Oper) : Bool :=
  match o.op with
  | .convert s d _ => match P.underlying s, P.underlying d with
    | some (.slice _), some (.slice _) => false
    | some .string, some (.slice _) => false
    | _, _ => true
  | .move _ | .assign _ | .pick .. | .build .. | .load .. | .nilCheck _ | .binOp .. | .unOp .. | .makeInterface .. | .makeFunc .. | .slice .. | .fieldAddr .. | .field .. | .indexAddr .. | .index ..
  | .lookup .. | .typeAssert .. | .extract .. => true
  | .call { callee := .builtin b, .. } => match b with | .len | .cap | .min | .max => true | _ => false
  | _ => false

def bndVC (x : Option Value) (y dflt : Nat) (K : Nat → Prop) : Prop :=
  match x with
  | none => K dflt
  | some (.int _ i) => 0 ≤ i ∧ i ≤ (y : Int) ∧ K i.toNat
  | _ => False

/-- what a cell holds -/
def aggT (P : Program) (T : TypeId) : Option Bool :=
  match P.underlying T with
  | some (.struct _) | some (.array _ _) => some true
  | some _ => some false
  | none => none
def aggOk (P : Program) (T : TypeId) : Bool :=
  match zeroOf P T with
  | .agg cs => aggT P T == some true && (match P.info? T with | some i => i.size == cs.size | none => false)
  | _ => aggT P T == some false
def ldVC (P : Program) (T : TypeId) (p : Addr) (w : World) (K : Value → List (World → Prop) → Prop) : Prop :=
  AndT (aggOk P T) <| match zeroOf P T with
  | .agg cs => exCells cs.toList fun vs => andL (vs.zipIdx.map fun (v, i) => w.cell? (p.add i) = some v) (K (.agg vs.toArray) (vs.zipIdx.map fun (v, i) => fun w' => w'.cell? (p.add i) = some v))
  | .nilFunc => ∃ f : Fv, w.cell? p = some f.v ∧ K f.v [fun w' => w'.cell? p = some f.v]
  | .nilIface => (∃ (t : TypeId) (x : Value), w.cell? p = some (.iface t x) ∧ K (.iface t x) [fun w' => w'.cell? p = some (.iface t x)]) ∨ (w.cell? p = some .nilIface ∧ K .nilIface [fun w' => w'.cell? p = some .nilIface])
  | z => exCell z fun v => w.cell? p = some v ∧ K v [fun w' => w'.cell? p = some v]

def pureVC (P : Program) (o : Oper) (E : Env) (K : Value → List (World → Prop) → Prop) : Prop :=
  AndT (E.covers o) (match pureRun P (execOp E.ev o) with | some (.value v) => K v [] | _ => False)

/-- what is read where a function is expected is one -/
def exRd (z : Value) (K : Value → Prop) : Prop :=
  match z with
  | .nilFunc => ∃ f : Fv, K f.v
  | z => exAny z K
theorem exRd_elim {z : Value} {K : Value → Prop} (h : exRd z K) : ∃ v, K v := by
  unfold exRd at h
  split at h
  · obtain ⟨f, h⟩ := h; exact ⟨_, h⟩
  · exact exAny_elim h
/-- a reading of memory, as the model says it -/
def readVC (P : Program) (s : Sem Value) (z : Value) (w : World) (K : Value → List (World → Prop) → Prop) : Prop :=
  exRd z fun v => s.run P w = .ok v w ∧ K v [fun w' => s.run P w' = .ok v w']

def elemSize (P : Program) (T : TypeId) : Option Nat :=
  match P.underlying T with
  | some (.slice e) => (P.info? e).map (·.size)
  | _ => none

/-- length and size of an element -/
def arrSize (P : Program) (T : TypeId) : Option (Nat × Nat) :=
  match P.underlying T with
  | some (.array n e) => (P.info? e).map fun i => (n, i.size)
  | _ => none
theorem arrSize_spec {P : Program} {T : TypeId} {n sz : Nat} (h : arrSize P T = some (n, sz)) : ∃ e inf, P.underlying T = some (.array n e) ∧ P.info? e = some inf ∧ sz = inf.size := by
  unfold arrSize at h
  split at h
  · rename_i m e hu
    obtain ⟨inf, hi, he⟩ := Option.map_eq_some_iff.1 h
    cases he
    exact ⟨e, inf, hu, hi, rfl⟩
  · cases h

def isConst : Operand → Bool
  | .const _ => true
  | _ => false

def nilOk (P : Program) (T : TypeId) (c : Value) : Bool :=
  match P.underlying T, c with
  | some (.slice _), .slice none _ _ => true
  | some (.pointer _), .pointer none => true
  | some (.map _ _), .map none => true
  | _, _ => false
def nilEq : Option Value → Value → Option Bool
  | some (.slice a _ _), .slice none _ _ => some a.isNone
  | some (.pointer a), .pointer none => some a.isNone
  | some (.map r), .map none => some r.isNone
  | _, _ => none

/-- two structs of numbers, strings and bools -/
def eqFs (P : Program) (xs ys : Array Value) : List Field → Option Bool
  | [] => some true
  | f :: fs => bif f.name == "_" then none else match P.underlying f.type, xs[f.offset]?, ys[f.offset]?, eqFs P xs ys fs with
    | some (.int _), some (.int k a), some (.int k' b), some r => bif decide (k = k') then some ((a == b) && r) else none
    | some .string, some (.string a), some (.string b), some r => some ((a.toList == b.toList) && r)
    | some .bool, some (.bool a), some (.bool b), some r => some ((a == b) && r)
    | _, _, _, _ => none
def aggEq (P : Program) (T : TypeId) (xs ys : Array Value) : Option Bool := match P.underlying T with
  | some (.struct fs) => bif (!P.stoodInHeld T && !P.eqGuardType P.depth T) then eqFs P xs ys fs.toList else none
  | _ => none
def eqVC (P : Program) (o : Oper) (E : Env) (T : TypeId) (x y : Operand) (neg : Bool) (K : Value → List (World → Prop) → Prop) : Prop := match E.val x, E.val y with
  | some (.agg xs), some (.agg ys) => match aggEq P T xs ys with
    | some b => K (.bool (bif neg then !b else b)) []
    | none => False
  | _, _ => pureVC P o E K

/-- a string of one cell -/
def oneStr (P : Program) (e : TypeId) : Bool := match P.underlying e, P.info? e with
  | some .string, some i => i.size == 1
  | _, _ => false
/-- an int of one cell -/
def oneInt (P : Program) (e : TypeId) : Bool := match P.underlying e, P.info? e with
  | some (.int _), some i => i.size == 1
  | _, _ => false
def calmVC0 (P : Program) (o : Oper) (E : Env) (w : World) (K : Value → List (World → Prop) → Prop) : Prop :=
  match o.op with
  | .load T x => match E.val x with
    | some (.pointer (some p)) => ldVC P T p w K
    | _ => False
  | .nilCheck x => match E.val x with
    | some (.pointer q) => optP q fun p => K (.pointer (some p)) []
    | _ => pureVC P o E K
  | .indexAddr T x ix => match E.val x, E.val ix with
    | some (.slice a n _), some (.int _ i) => match elemSize P T with
      | some sz => 0 ≤ i ∧ i < (n : Int) ∧ optP a fun p => K (.pointer (some (p.add (i.toNat * sz)))) []
      | none => False
    | some (.pointer (some p)), some (.int _ i) => match arrSize P T with
      | some (n, sz) => 0 ≤ i ∧ i < (n : Int) ∧ K (.pointer (some (p.add (i.toNat * sz)))) []
      | none => False
    | _, _ => pureVC P o E K
  | .index T x ix => match P.underlying T, E.val x, E.val ix with
    | some .string, some (.string s), some (.int _ i) => 0 ≤ i ∧ ∃ b : UInt8, s[i.toNat]? = some b ∧ K (.int .u8 b.toNat) []
    | some (.array n e), some (.agg cs), some (.int _ i) => bif oneStr P e then 0 ≤ i ∧ i < ((n : Nat) : Int) ∧ ∃ a : ByteArray, cs[i.toNat]? = some (.string a) ∧ K (.string a) [] else AndT (oneInt P e) (0 ≤ i ∧ i < ((n : Nat) : Int) ∧ ∃ a : Int, cs[i.toNat]? = some (.int .i64 a) ∧ K (.int .i64 a) [])
    | _, _, _ => pureVC P o E K
  | .slice T x lo hi mx => AndT (E.covers o) (match P.underlying T, E.val x with
    | some (.slice _), some (.slice a n c) => match elemSize P T with
      | some sz => bndVC (mx.map E.ev) c c fun m => bndVC (hi.map E.ev) m n fun h => AndT (mx.isNone || hi.isSome) (bndVC (lo.map E.ev) h 0 fun l =>
          K (.slice (if m = l then a else a.map (·.add (l * sz))) (h - l) (m - l)) [])
      | none => False
    | some .string, some (.string s) => AndT mx.isNone (bndVC (hi.map E.ev) s.size s.size fun h => bndVC (lo.map E.ev) h 0 fun l => K (.string (s.extract l h)) [])
    | some (.array n e), some (.pointer (some p)) => match P.info? e with
      | some inf => bndVC (mx.map E.ev) n n fun m => bndVC (hi.map E.ev) m n fun h => AndT (mx.isNone || hi.isSome) (bndVC (lo.map E.ev) h 0 fun l =>
          K (.slice (some (if m = l then p else p.add (l * inf.size))) (h - l) (m - l)) [])
      | none => False
    | _, _ => False)
  | .binOp .quo _ x y _ => bif isConst y then pureVC P o E K else match E.val x, E.val y with
    | some (.int k a), some (.int k' b) => AndT (k == k') (b ≠ 0 ∧ K (.int k (k.wrap (a.tdiv b))) [])
    | _, _ => False
  | .binOp .rem _ x y _ => bif isConst y then pureVC P o E K else match E.val x, E.val y with
    | some (.int k a), some (.int k' b) => AndT (k == k') (b ≠ 0 ∧ K (.int k (a.tmod b)) [])
    | _, _ => False
  | .binOp .eql T x (.const c) _ => bif nilOk P T c then (match nilEq (E.val x) c with
    | some b => K (.bool b) []
    | none => False) else eqVC P o E T x (.const c) false K
  | .binOp .neq T x (.const c) _ => bif nilOk P T c then (match nilEq (E.val x) c with
    | some b => K (.bool !b) []
    | none => False) else eqVC P o E T x (.const c) true K
  | .binOp .eql T x y _ => eqVC P o E T x y false K
  | .binOp .neq T x y _ => match P.underlying T, E.val x, E.val y with
    | some (.pointer _), some (.pointer p), some (.pointer q) => readVC P (binOp .neq T (.pointer p) (.pointer q)) (.bool true) w K
    | _, _, _ => eqVC P o E T x y true K
  | .binOp .add _ x y _ => match E.val x, E.val y with
    | some (.string s), some (.string t) => ¬ (((s.size + t.size : Nat) : Int) > IntKind.i64.max) ∧ K (.string (s ++ t)) []
    | _, _ => pureVC P o E K
  | .binOp .shl _ x y _ => bif isConst y then pureVC P o E K else match E.val x, E.val y with
    | some (.int k a), some (.int _ b) => ¬ b < 0 ∧ K (.int k (k.wrap (a * 2 ^ (min b.toNat k.bits)))) []
    | _, _ => False
  | .binOp .shr _ x y _ => bif isConst y then pureVC P o E K else match E.val x, E.val y with
    | some (.int k a), some (.int _ b) => ¬ b < 0 ∧ K (.int k (a.fdiv (2 ^ (min b.toNat k.bits)))) []
    | _, _ => False
  | .lookup T x ix ok => match E.val x, E.val ix with
    | some m, some k => readVC P (Instr.lookup T m k ok) (zeroOf P o.type) w K
    | _, _ => False
  | .convert s d x => match P.underlying s, P.underlying d, E.val x with
    | some (.slice _), some .string, some v => readVC P (convert s d v) (.string (ByteArray.mk #[])) w K
    | some (.pointer _), some .unsafePointer, some v => readVC P (convert s d v) (.pointer none) w K
    | some .unsafePointer, some (.pointer _), some v => readVC P (convert s d v) (.pointer none) w K
    | _, _, _ => pureVC P o E K
  | .call { callee := .builtin .len, args, argTypes } => match args.toList, argTypes.toList with
    | [x], [T] => match P.underlying T, E.val x with
      | some (.map _ _), some m => readVC P (Builtin.len_ #[T] o.type #[m]) (.int .i64 0) w K
      | _, _ => pureVC P o E K
    | _, _ => pureVC P o E K
  | _ => pureVC P o E K

/-- two values of an interface type are compared -/
def ifcS (op : BinOp) (T : TypeId) (x y : Operand) (a b : Value) : Sem Value := do eqGuard op T x y a b; binOp op T a b
def ifcOp (P : Program) (o : Oper) : Bool := match o.op with
  | .binOp .eql T _ _ _ | .binOp .neq T _ _ _ => match P.underlying T with
    | some (.interface _) => true
    | _ => false
  | _ => false
def ifcVC (P : Program) (o : Oper) (E : Env) (w : World) (K : Value → List (World → Prop) → Prop) : Prop := match o.op with
  | .binOp op T x y _ => match E.val x, E.val y with
    | some a, some b => readVC P (ifcS op T x y a b) (.bool true) w K
    | _, _ => False
  | _ => False
def calmVC (P : Program) (o : Oper) (E : Env) (w : World) (K : Value → List (World → Prop) → Prop) : Prop := bif ifcOp P o then ifcVC P o E w K else calmVC0 P o E w K

def stVC (p : Addr) : List Value → Nat → World → (World → Prop) → Prop
  | [], _, w, K => K w
  | v :: vs, i, w, K => (w.cell? (p.add i)).isSome = true ∧ w.frozen? (p.add i) = false ∧ stVC p vs (i + 1) (w.setCell (p.add i) v) K

/-- an operation that the run itself decides -/
def evalVC (P : Program) (o : Oper) (E : Env) (w : World) (K : Value → World → Prop) : Prop :=
  AndT (E.covers o) (match (execOp E.ev o).run P w with
    | .ok (.value v) w' => K v w'
    | .ok .skip w' => K undef w'
    | _ => False)
def doVC (P : Program) (s : Sem Value) (z : Value) (w : World) (K : Value → World → Prop) : Prop :=
  exAny z fun v => ∃ w', s.run P w = .ok v w' ∧ K v w'
def doUnitVC (P : Program) (s : Sem Unit) (w : World) (K : Value → World → Prop) : Prop :=
  ∃ w', s.run P w = .ok () w' ∧ K undef w'
def callable (P : Program) (f : FuncId) : Bool := match P.funcs[f]? with | some fn => fn.body.isSome && !(fn.name == "runtime.NumGoroutine") | none => false
/-- a function that has no body: an entry of the model's -/
def extVC (P : Program) (f : FuncId) (args : Array Value) (z : Value) (w : World) (K : Value → World → Prop) : Prop :=
  exAny z fun v => ∃ w', (callFunc f args).run P w = .ok (.value v) w' ∧ K v w'
def callVC (P : Program) (f : FuncId) (args : Array Value) (z : Value) (w : World) (K : Value → World → Prop) : Prop :=
  Calls P f args w fun e w' => exAny z fun v => e = .returned v ∧ K v w'

def oneCell : Value → Bool
  | .agg _ => false
  | .tuple _ => false
  | _ => true

def effVC (P : Program) (o : Oper) (E : Env) (w : World) (K : Value → World → Prop) : Prop :=
  match o.op with
  | .store T x y => match E.val x, E.val y with
    | some (.pointer (some p)), some v => AndT (v.cells.size == (match P.info? T with | some i => i.size | none => 0) && v.cells.toList.all oneCell && (P.info? T).isSome) (stVC p v.cells.toList 0 w fun w' => K undef w')
    | _, _ => False
  | .mapUpdate T m k v | .insert T m k v => match E.val m, E.val k, E.val v with
    | some m, some k, some v => doUnitVC P (Instr.mapUpdate T m k v) w K
    | _, _, _ => False
  | .call { callee := .builtin b, args, argTypes } => AndT (E.covers o) (match b with
    | .append => doVC P (Builtin.append_ argTypes o.type (args.map E.ev)) (.slice none 0 0) w K
    | .copy => doVC P (Builtin.copy_ argTypes o.type (args.map E.ev)) (.int .i64 0) w K
    | .unsafeSliceData => doVC P (Builtin.unsafeSliceData_ argTypes o.type (args.map E.ev)) (.pointer none) w K
    | .unsafeString => doVC P (Builtin.unsafeString_ argTypes o.type (args.map E.ev)) (.string (ByteArray.mk #[])) w K
    | .delete => ∃ w', (Builtin.delete_ argTypes o.type (args.map E.ev)).run P w = .ok undef w' ∧ K undef w'
    | .clear => ∃ w', (Builtin.clear_ argTypes o.type (args.map E.ev)).run P w = .ok (.tuple #[]) w' ∧ K (.tuple #[]) w'
    | _ => False)
  | .call { callee := .value (.func f), args, .. } => AndT (E.covers o) (bif callable P f then callVC P f (args.map E.ev) (zeroOf P o.type) w K else extVC P f (args.map E.ev) (zeroOf P o.type) w K)
  | .call { callee := .value (.tmp t), args, .. } => AndT (E.covers o) (match E.get? t with
    | some (.func (.func f) first captured) => AndT (callable P f) (callVC P f (first ++ args.map E.ev ++ captured) (zeroOf P o.type) w K)
    | _ => False)
  | .makeSlice T l c => match E.val l, E.val c with
    | some l, some c => doVC P (Instr.makeSlice T l c) (.slice none 0 0) w K
    | _, _ => False
  | .range T x => match E.val x with
    | some x => ∃ v w', (Instr.range T x).run P w = .ok v w' ∧ K v w'
    | _ => False
  | .next it s => match E.val it with
    | some it => (∃ w', (Instr.next it s o.type).run P w = .ok (.tuple #[.bool false]) w' ∧ K (.tuple #[.bool false]) w') ∨
        (match s with
         | true => ∃ (i c : Int) (w' : World), (Instr.next it s o.type).run P w = .ok (.tuple #[.bool true, .int .i64 i, .int .i32 c]) w' ∧ K (.tuple #[.bool true, .int .i64 i, .int .i32 c]) w'
         | false => ∃ (x y : Value) (w' : World), (Instr.next it s o.type).run P w = .ok (.tuple #[.bool true, x, y]) w' ∧ K (.tuple #[.bool true, x, y]) w')
    | _ => False
  | .entry it => match E.val it with
    | some it => ∃ (x y : Value) (w' : World), (Instr.entry it).run P w = .ok (.tuple #[x, y]) w' ∧ K (.tuple #[x, y]) w'
    | _ => False
  | .convert s d x => match E.val x with
    | some v => doVC P (convert s d v) (.slice none 0 0) w K
    | _ => False
  | _ => evalVC P o E w K

def yieldVC (P : Program) (l : Nat) (args : Array Value) (w : World) (K : Value → World → Prop) : Prop :=
  YieldAt Fence.wide 0 P l args w fun e w' => ∃ b : Bool, e = .returned (.bool b) ∧ K (.bool b) w'
/-- with calls of a loop's yield -/
def effVCy (P : Program) (o : Oper) (E : Env) (w : World) (K : Value → World → Prop) : Prop :=
  match o.op with
  | .call { callee := .value (.tmp t), args, .. } => match E.get? t with
    | some (.func (.yield l) fs cs) => AndT (E.covers o && (Nat.beq fs.size 0 && Nat.beq cs.size 0)) (yieldVC P l (args.map E.ev) w K)
    | _ => effVC P o E w K
  | _ => effVC P o E w K

/-- the printed forms of writing, of new blocks, of other objects and of a drawn order -/
abbrev stV (w : World) (p : Addr) (v : Value) (K : World → Prop) : Prop := (w.cell? p).isSome = true ∧ w.frozen? p = false ∧ K (w.setCell p v)
abbrev nwV (w : World) (o : Obj) (K : World → Prop) : Prop := K (w.alloc o)
abbrev puV (w : World) (l : Nat) (a b : Obj) (K : World → Prop) : Prop := w.heap[l]? = some a ∧ K (w.putObj l b)
abbrev drV (w : World) (K : World → Prop) : Prop := K w.drew


/-! ### Soundness, operation by operation -/
theorem isAgg_run {P : Program} {T : TypeId} {b : Bool} (h : aggT P T = some b) (w : World) : (isAgg T).run P w = .ok b w := by
  unfold aggT at h
  unfold isAgg
  cases hu : P.underlying T with
  | none => rw [hu] at h; cases h
  | some d => rw [hu] at h; cases d <;> simp [run_underlying hu] at h ⊢ <;> first | exact h | simp [← h]

theorem run_loadVar_one {P : Program} {T : TypeId} {p : Addr} {v : Value} {w : World} (ha : aggT P T = some false) (hc : w.cell? p = some v) : (loadVar T p).run P w = .ok v w := by
  simp [loadVar, isAgg_run ha, hc]

theorem run_loadVar_agg {P : Program} {T : TypeId} {p : Addr} {vs : List Value} {i : TypeInfo} {w : World} (ha : aggT P T = some true) (hi : P.info? T = some i) (hs : i.size = vs.length)
    (hc : ∀ j v, vs[j]? = some v → w.cell? (p.add j) = some v) : (loadVar T p).run P w = .ok (.agg vs.toArray) w := by
  have := run_loadCells_list (P := P) w p vs hc
  simp [loadVar, isAgg_run ha, sizeOf, typeInfo, hi, hs, this]

/-- what a calm operation is good for -/
def Calm (P : Program) (o : Oper) (ρ : Operand → Value) (w : World) (v : Value) (hs : List (World → Prop)) : Prop :=
  (∀ S ∈ hs, S w) ∧ ∀ w', (∀ S ∈ hs, S w') → (execOp ρ o).run P w' = .ok (.value v) w'

theorem pureVC_sound {P : Program} {o : Oper} {E : Env} {w : World} {n : Cx} {a : Act} {K : Value → List (World → Prop) → Prop} (hs : ∀ cs b, o.op ≠ .select cs b)
    (ha : Ag n a E) (h : pureVC P o E K) : ∃ v S, K v S ∧ Calm P o a.eval w v S := by
  obtain ⟨hc, h⟩ := AndT_elim h
  split at h
  · rename_i v hv
    refine ⟨v, [], h, fun S hS => (by cases hS), fun w' _ => ?_⟩
    rw [ha.execOp hs hc]
    exact pureRun_sound hv w'
  · exact h.elim

theorem readVC_sound {P : Program} {s : Sem Value} {z : Value} {w : World} {K : Value → List (World → Prop) → Prop} {o : Oper} {ρ : Operand → Value} (ho : execOp ρ o = (do pure (.value (← s))))
    (h : readVC P s z w K) : ∃ v S, K v S ∧ Calm P o ρ w v S := by
  obtain ⟨v, hv, hk⟩ := exRd_elim h
  refine ⟨v, _, hk, fun S hS => ?_, fun w' hw' => ?_⟩
  · simp at hS; subst hS; exact hv
  · have hr : s.run P w' = .ok v w' := hw' _ (List.mem_singleton.2 rfl)
    rw [ho]; simp [hr]

theorem bndVC_sound {P : Program} {x : Option Value} {y d : Nat} {K : Nat → Prop} (h : bndVC x y d K) : ∃ l, K l ∧ ((x = none ∧ l = d) ∨ ∃ v, x = some v ∧ ∀ code w, (Instr.sliceBound v y code).run P w = .ok l w) := by
  unfold bndVC at h
  split at h
  · exact ⟨d, h, .inl ⟨rfl, rfl⟩⟩
  · rename_i k i
    obtain ⟨h0, h1, h2⟩ := h
    refine ⟨_, h2, .inr ⟨_, rfl, fun code w => ?_⟩⟩
    simp [Instr.sliceBound, asIntOf, h0, h1]
  · exact h.elim

theorem sliceBounds_run {P : Program} {isS : Bool} {n c m h l : Nat} {L H M : Option Value} {w : World}
    (hm : (M = none ∧ m = c) ∨ ∃ v, M = some v ∧ ∀ code w, (Instr.sliceBound v c code).run P w = .ok m w)
    (hh : (H = none ∧ h = n) ∨ ∃ v, H = some v ∧ ∀ code w, (Instr.sliceBound v m code).run P w = .ok h w)
    (hl : (L = none ∧ l = 0) ∨ ∃ v, L = some v ∧ ∀ code w, (Instr.sliceBound v h code).run P w = .ok l w)
    (hmh : M ≠ none → H = none → False) : (Instr.sliceBounds isS n c L H M).run P w = .ok (l, h, m) w := by
  unfold Instr.sliceBounds
  rcases hm with ⟨rfl, rfl⟩ | ⟨v1, rfl, r1⟩ <;> rcases hh with ⟨rfl, rfl⟩ | ⟨v2, rfl, r2⟩ <;> rcases hl with ⟨rfl, rfl⟩ | ⟨v3, rfl, r3⟩ <;> first | (simp [*]; done) | (exact (hmh (fun h => by cases h) rfl).elim)

theorem ldVC_sound {P : Program} {T : TypeId} {p : Addr} {w : World} {K : Value → List (World → Prop) → Prop} (h : ldVC P T p w K) :
    ∃ v S, K v S ∧ (∀ s ∈ S, s w) ∧ ∀ w', (∀ s ∈ S, s w') → (loadVar T p).run P w' = .ok v w' := by
  obtain ⟨ho, h⟩ := AndT_elim h
  unfold aggOk at ho
  cases hz : zeroOf P T with
  | agg cs =>
    rw [hz] at h ho
    simp only at h ho
    obtain ⟨vs, hl, h⟩ := exCells_elim h
    obtain ⟨hc, hk⟩ := andL_elim h
    rw [Bool.and_eq_true] at ho
    obtain ⟨ha, hi⟩ := ho
    cases hin : P.info? T with
    | none => rw [hin] at hi; simp at hi
    | some i =>
      rw [hin] at hi
      simp at hi ha
      refine ⟨_, _, hk, ?_, fun w' hw' => ?_⟩
      · intro s hs
        obtain ⟨⟨v, j⟩, hm, rfl⟩ := List.mem_map.1 hs
        exact hc _ (List.mem_map.2 ⟨(v, j), hm, rfl⟩)
      · refine run_loadVar_agg ha hin (by rw [hi, hl]; simp) (fun j v hj => ?_)
        have := hw' _ (List.mem_map.2 ⟨(v, j), List.mem_zipIdx_iff_getElem?.2 hj, rfl⟩)
        exact this
  | nilIface =>
    rw [hz] at h ho
    simp at ho
    rcases h with ⟨t, x, hc, hk⟩ | ⟨hc, hk⟩
    · refine ⟨_, _, hk, fun s hs => ?_, fun w' hw' => ?_⟩
      · simp at hs; subst hs; exact hc
      · exact run_loadVar_one ho (hw' _ (List.mem_singleton.2 rfl))
    · refine ⟨_, _, hk, fun s hs => ?_, fun w' hw' => ?_⟩
      · simp at hs; subst hs; exact hc
      · exact run_loadVar_one ho (hw' _ (List.mem_singleton.2 rfl))
  | nilFunc =>
    rw [hz] at h ho
    obtain ⟨f, hc, hk⟩ := h
    simp at ho
    refine ⟨f.v, _, hk, fun s hs => ?_, fun w' hw' => ?_⟩
    · simp at hs; subst hs; exact hc
    · exact run_loadVar_one ho (hw' _ (List.mem_singleton.2 rfl))
  | _ =>
    rw [hz] at h ho
    try simp only at h
    try simp only at ho
    obtain ⟨v, hc, hk⟩ := exCell_elim h
    simp at ho
    refine ⟨v, _, hk, fun s hs => ?_, fun w' hw' => ?_⟩
    · simp at hs; subst hs; exact hc
    · exact run_loadVar_one ho (hw' _ (List.mem_singleton.2 rfl))

theorem elemSize_spec {P : Program} {T : TypeId} {sz : Nat} (h : elemSize P T = some sz) : ∃ e i, P.underlying T = some (.slice e) ∧ P.info? e = some i ∧ i.size = sz := by
  unfold elemSize at h
  split at h
  · rename_i e he
    cases hi : P.info? e with
    | none => rw [hi] at h; cases h
    | some i => rw [hi] at h; simp at h; exact ⟨e, i, he, hi, h⟩
  · cases h

theorem nilEq_cases {v c : Value} {b : Bool} (h : nilEq (some v) c = some b) : (∃ a n m n' m', v = .slice a n m ∧ c = .slice none n' m' ∧ b = a.isNone) ∨ (∃ a, v = .pointer a ∧ c = .pointer none ∧ b = a.isNone) ∨ (∃ r, v = .map r ∧ c = .map none ∧ b = r.isNone) := by
  unfold nilEq at h
  split at h
  · rename_i a n m n' m' hv
    cases hv; cases h
    exact .inl ⟨_, _, _, _, _, rfl, rfl, rfl⟩
  · rename_i a hv
    cases hv; cases h
    exact .inr (.inl ⟨_, rfl, rfl, rfl⟩)
  · rename_i a hv
    cases hv; cases h
    exact .inr (.inr ⟨_, rfl, rfl, rfl⟩)
  · cases h
theorem nilEq_equal {P : Program} {T : TypeId} {c v : Value} {b : Bool} (hn : nilOk P T c = true) (hb : nilEq (some v) c = some b) (w : World) : (Op.equal T v c).run P w = .ok b w := by
  unfold Op.equal Op.maxDepth Op.equalIn
  cases hu : P.underlying T with
  | none => simp [nilOk, hu] at hn
  | some d =>
    simp only [Sem.run_bind, run_underlying hu, Result.andThen_ok]
    unfold nilOk at hn
    rw [hu] at hn
    rcases nilEq_cases hb with ⟨a, n, m, n', m', rfl, rfl, rfl⟩ | ⟨a, rfl, rfl, rfl⟩ | ⟨a, rfl, rfl, rfl⟩ <;> cases d <;> first | (cases hn; done) | (cases a <;> rfl)
theorem nilEq_run {P : Program} {T : TypeId} {c v : Value} {b : Bool} (hn : nilOk P T c = true) (hb : nilEq (some v) c = some b) (w : World) : (binOp .eql T v c).run P w = .ok (.bool b) w := by
  have := nilEq_equal hn hb w
  rcases nilEq_cases hb with ⟨a, n, m, n', m', rfl, rfl, rfl⟩ | ⟨a, rfl, rfl, rfl⟩ | ⟨a, rfl, rfl, rfl⟩ <;> simp [binOp, this]
theorem nilEq_run' {P : Program} {T : TypeId} {c v : Value} {b : Bool} (hn : nilOk P T c = true) (hb : nilEq (some v) c = some b) (w : World) : (binOp .neq T v c).run P w = .ok (.bool !b) w := by
  have := nilEq_equal hn hb w
  rcases nilEq_cases hb with ⟨a, n, m, n', m', rfl, rfl, rfl⟩ | ⟨a, rfl, rfl, rfl⟩ | ⟨a, rfl, rfl, rfl⟩ <;> simp [binOp, this]
theorem nilEq_guard {P : Program} {op : BinOp} {T : TypeId} {c v : Value} {b : Bool} {p q : Operand} (hb : nilEq (some v) c = some b) (w : World) : (eqGuard op T p q v c).run P w = .ok () w := by
  rcases nilEq_cases hb with ⟨a, n, m, n', m', rfl, rfl, rfl⟩ | ⟨a, rfl, rfl, rfl⟩ | ⟨a, rfl, rfl, rfl⟩ <;> cases op <;> rfl

set_option maxHeartbeats 1000000 in
theorem run_part_one {P : Program} {t : TypeId} {u : TypeDesc} (h : P.underlying t = some u) (hu : (match u with | .struct _ | .array _ _ => true | _ => false) = false) {xs : Array Value} {off : Nat} {v : Value} (hx : xs[off]? = some v) (w : World) : (part t xs off).run P w = .ok v w := by
  unfold part isAgg
  cases u <;> first | (simp at hu; done) | simp [run_underlying h, hx]
theorem eqFs_sound {P : Program} {xs ys : Array Value} (d : Nat) (w : World) : ∀ (fs : List Field) (b : Bool), eqFs P xs ys fs = some b → (Op.eqFields (d + 1) xs ys fs).run P w = .ok b w
  | [], b, h => by
    simp [eqFs] at h
    subst h
    rfl
  | f :: fs, b, h => by
    unfold eqFs at h
    cases hn : (f.name == "_") with
    | true => rw [hn] at h; cases h
    | false =>
      rw [hn] at h
      simp only [cond_false] at h
      have hn' : f.name ≠ "_" := by simpa using hn
      unfold Op.eqFields
      rw [if_pos hn']
      split at h
      · rename_i k0 k a k' b' r hu hx hy hr
        cases hk : decide (k = k') with
        | false => rw [hk] at h; cases h
        | true =>
          rw [hk] at h
          have hk' := of_decide_eq_true hk
          subst hk'
          simp only [cond_true, Option.some.injEq] at h
          subst h
          have ih := eqFs_sound d w fs r hr
          simp only [Sem.run_bind, run_part_one hu rfl hx w, run_part_one hu rfl hy w, Result.andThen_ok, run_equalIn_int w d f.type k k0 a b' hu]
          cases hab : (a == b') <;> simp [ih]
      · rename_i a b' r hu hx hy hr
        simp only [Option.some.injEq] at h
        subst h
        have ih := eqFs_sound d w fs r hr
        simp only [Sem.run_bind, run_part_one hu rfl hx w, run_part_one hu rfl hy w, Result.andThen_ok, run_equalIn_string w d f.type a b' hu]
        cases hab : (a.toList == b'.toList) <;> simp [ih]
      · rename_i a b' r hu hx hy hr
        simp only [Option.some.injEq] at h
        subst h
        have ih := eqFs_sound d w fs r hr
        simp only [Sem.run_bind, run_part_one hu rfl hx w, run_part_one hu rfl hy w, Result.andThen_ok, run_equalIn_bool w d f.type a b' hu]
        cases hab : (a == b') <;> simp [ih]
      · cases h
theorem aggEq_sound {P : Program} {T : TypeId} {xs ys : Array Value} {b : Bool} (h : aggEq P T xs ys = some b) (w : World) : P.eqGuardType P.depth T = false ∧ (Op.equalIn 10000 T (.agg xs) (.agg ys)).run P w = .ok b w := by
  unfold aggEq at h
  split at h
  · rename_i fs hu
    cases hg : (!P.stoodInHeld T && !P.eqGuardType P.depth T) with
    | false => rw [hg] at h; cases h
    | true =>
      rw [hg] at h
      simp only [cond_true] at h
      rw [Bool.and_eq_true] at hg
      have h1 : P.stoodInHeld T = false := by simpa using hg.1
      have h2 : P.eqGuardType P.depth T = false := by simpa using hg.2
      have hf : P.fieldsOf T = fs := by unfold Program.fieldsOf; rw [hu]
      refine ⟨h2, ?_⟩
      rw [run_equalIn_struct w 9999 T xs ys (by rw [hf]; exact hu) h1, hf]
      exact eqFs_sound 9998 w _ _ h
  · cases h
theorem eqVC_sound {P : Program} {o : Oper} {E : Env} {w : World} {n : Cx} {a : Act} {K : Value → List (World → Prop) → Prop} {op : BinOp} {T U : TypeId} {x y : Operand} {neg : Bool} (hs : ∀ cs b, o.op ≠ .select cs b)
    (ha : Ag n a E) (hop : o.op = .binOp op T x y U) (hb : (op = .eql ∧ neg = false) ∨ (op = .neq ∧ neg = true)) (h : eqVC P o E T x y neg K) : ∃ v S, K v S ∧ Calm P o a.eval w v S := by
  unfold eqVC at h
  split at h
  · rename_i xs ys hx hy
    split at h
    · rename_i b he
      refine ⟨_, _, h, fun S hS => (by cases hS), fun w' _ => ?_⟩
      obtain ⟨h1, h2⟩ := aggEq_sound he w'
      have e1 : execOp a.eval o = (do pure (.value (← (do eqGuard op T x y (.agg xs) (.agg ys); binOp op T (.agg xs) (.agg ys))))) := by
        simp only [execOp, hop, ha.val hx, ha.val hy]
      rw [e1]
      rcases hb with ⟨rfl, rfl⟩ | ⟨rfl, rfl⟩
      · simp only [Sem.run_bind, run_eqGuard_agg w' _ T x y xs ys h1, Result.andThen_ok, run_eql_struct, h2]
        rfl
      · simp only [Sem.run_bind, run_eqGuard_agg w' _ T x y xs ys h1, Result.andThen_ok, run_neq_struct, h2]
        rfl
    · exact h.elim
  · exact pureVC_sound hs ha h
theorem calmVC0_sound {P : Program} {o : Oper} {E : Env} {w : World} {n : Cx} {a : Act} {K : Value → List (World → Prop) → Prop} (hs : ∀ cs b, o.op ≠ .select cs b)
    (ha : Ag n a E) (h : calmVC0 P o E w K) : ∃ v S, K v S ∧ Calm P o a.eval w v S := by
  have pure' : pureVC P o E K → ∃ v S, K v S ∧ Calm P o a.eval w v S := pureVC_sound hs ha
  unfold calmVC0 at h
  split at h
  · -- load
    rename_i T x hop
    split at h
    · rename_i p hx
      obtain ⟨v, S, hk, h1, h2⟩ := ldVC_sound h
      refine ⟨v, S, hk, h1, fun w' hw' => ?_⟩
      simp [execOp, hop, Instr.loadAt, ha.val hx, Instr.sureAddr, h2 w' hw']
    · exact h.elim
  · -- nilCheck
    rename_i x hop
    split at h
    · rename_i q hx
      obtain ⟨p, rfl, hk⟩ := optP_elim h
      refine ⟨_, _, hk, fun S hS => (by cases hS), fun w' _ => ?_⟩
      simp [execOp, hop, ha.val hx]
    · exact pure' h
  · -- indexAddr
    rename_i T x ix hop
    split at h
    · rename_i b n c k i hx hi
      split at h
      · rename_i sz hsz
        obtain ⟨h0, h1, h⟩ := h
        obtain ⟨p, rfl, hk⟩ := optP_elim h
        obtain ⟨e, inf, hu, hin, rfl⟩ := elemSize_spec hsz
        refine ⟨_, _, hk, fun S hS => (by cases hS), fun w' _ => ?_⟩
        simp [execOp, hop, ha.val hx, ha.val hi, Instr.indexAt, asIntOf, run_underlying hu, h0, h1, sizeOf, typeInfo, hin]
      · exact h.elim
    · rename_i p k i hx hi
      split at h
      · rename_i n sz hsz
        obtain ⟨h0, h1, hk⟩ := h
        obtain ⟨e, inf, hu, hin, rfl⟩ := arrSize_spec hsz
        refine ⟨_, _, hk, fun S hS => (by cases hS), fun w' _ => ?_⟩
        simp [execOp, hop, ha.val hx, ha.val hi, Instr.indexAt, Instr.sureAddr, asIntOf, run_underlying hu, h0, h1, sizeOf, typeInfo, hin]
      · exact h.elim
    · exact pure' h
  · -- index
    rename_i T x ix hop
    split at h
    · rename_i s k i hu hx hi
      obtain ⟨h0, b, hb, hk⟩ := h
      refine ⟨_, _, hk, fun S hS => (by cases hS), fun w' _ => ?_⟩
      simp [execOp, hop, ha.val hx, ha.val hi, Instr.index, asIntOf, run_underlying hu, h0, hb]
    · rename_i n e cs k i hu hx hi
      cases hz : oneStr P e with
      | true =>
        rw [hz] at h
        obtain ⟨h0, hn, b, hb, hk⟩ := h
        unfold oneStr at hz
        split at hz
        · rename_i inf hue hin
          have h1 : inf.size = 1 := by simpa using hz
          refine ⟨_, _, hk, fun S hS => (by cases hS), fun w' _ => ?_⟩
          simp [execOp, hop, ha.val hx, ha.val hi, Instr.index, asIntOf, run_underlying hu, h0, hn, sizeOf, typeInfo, hin, h1, part, isAgg, run_underlying hue, hb]
        · cases hz
      | false =>
      rw [hz] at h
      obtain ⟨h1, h0, hn, b, hb, hk⟩ := AndT_elim h
      unfold oneInt at h1
      split at h1
      · rename_i y inf hue hin
        have h1 : inf.size = 1 := by simpa using h1
        refine ⟨_, _, hk, fun S hS => (by cases hS), fun w' _ => ?_⟩
        simp [execOp, hop, ha.val hx, ha.val hi, Instr.index, asIntOf, run_underlying hu, h0, hn, sizeOf, typeInfo, hin, h1, part, isAgg, run_underlying hue, hb]
      · cases h1
    · exact pure' h
  · -- slice
    rename_i T x lo hi mx hop
    obtain ⟨hcov, h⟩ := AndT_elim h
    have hcov' : ∀ y ∈ o.op.operands, (E.val y).isSome = true := fun y hy => List.all_eq_true.1 hcov y (by simpa using hy)
    have hlo : lo.map a.eval = lo.map E.ev := by
      cases lo with
      | none => rfl
      | some y => simp only [Option.map_some]; rw [ha.ev (hcov' y (by rw [hop]; simp [Op.operands]))]
    have hhi : hi.map a.eval = hi.map E.ev := by
      cases hi with
      | none => rfl
      | some y => simp only [Option.map_some]; rw [ha.ev (hcov' y (by rw [hop]; simp [Op.operands]))]
    have hmx : mx.map a.eval = mx.map E.ev := by
      cases mx with
      | none => rfl
      | some y => simp only [Option.map_some]; rw [ha.ev (hcov' y (by rw [hop]; simp [Op.operands]))]
    split at h
    · rename_i e b n c hu hx
      split at h
      · rename_i sz hsz
        obtain ⟨m, h, hm⟩ := bndVC_sound (P := P) h
        obtain ⟨hh, h, hhm⟩ := bndVC_sound (P := P) h
        obtain ⟨hmh, h⟩ := AndT_elim h
        obtain ⟨l, hk, hl⟩ := bndVC_sound (P := P) h
        obtain ⟨e', inf, hu', hin, rfl⟩ := elemSize_spec hsz
        rw [hu'] at hu
        cases hu
        refine ⟨_, _, hk, fun S hS => (by cases hS), fun w' _ => ?_⟩
        have hsl : (Instr.sliceBounds true n c (lo.map E.ev) (hi.map E.ev) (mx.map E.ev)).run P w' = .ok (l, hh, m) w' := by
          refine sliceBounds_run hm hhm hl ?_
          intro h1 h2
          cases mx <;> cases hi <;> simp_all
        simp only [execOp, hop, ha.val hx, hlo, hhi, hmx]
        simp [Instr.sliceAt, run_underlying hu', Instr.slice, hsl, sizeOf, typeInfo, hin]
      · exact h.elim
    · rename_i s hu hx
      obtain ⟨hmn, h'⟩ := AndT_elim h
      clear h
      have hmn' : mx = none := by simpa using hmn
      subst hmn'
      obtain ⟨hh, h, hhm⟩ := bndVC_sound (P := P) h'
      obtain ⟨l, hk, hl⟩ := bndVC_sound (P := P) h
      refine ⟨_, _, hk, fun S hS => (by cases hS), fun w' _ => ?_⟩
      have hsl : (Instr.sliceBounds false s.size s.size (lo.map E.ev) (hi.map E.ev) none).run P w' = .ok (l, hh, s.size) w' := by
        exact sliceBounds_run (.inl ⟨rfl, rfl⟩) hhm hl (fun h1 _ => absurd rfl h1)
      simp only [execOp, hop, ha.val hx, hlo, hhi]
      simp [Instr.sliceAt, run_underlying hu, Instr.slice, hsl]
    · rename_i n e p hu hx
      split at h
      · rename_i inf hin
        obtain ⟨m, h, hm⟩ := bndVC_sound (P := P) h
        obtain ⟨hh, h, hhm⟩ := bndVC_sound (P := P) h
        obtain ⟨hmh, h⟩ := AndT_elim h
        obtain ⟨l, hk, hl⟩ := bndVC_sound (P := P) h
        refine ⟨_, _, hk, fun S hS => (by cases hS), fun w' _ => ?_⟩
        have hsl : (Instr.sliceBounds false n n (lo.map E.ev) (hi.map E.ev) (mx.map E.ev)).run P w' = .ok (l, hh, m) w' := by
          refine sliceBounds_run hm hhm hl ?_
          intro h1 h2
          cases mx <;> cases hi <;> simp_all
        simp only [execOp, hop, ha.val hx, hlo, hhi, hmx]
        simp [Instr.sliceAt, Instr.sureAddr, run_underlying hu, hsl, sizeOf, typeInfo, hin]
      · exact h.elim
    · exact h.elim
  · -- quo
    rename_i T x y U hop
    cases hc : isConst y with
    | true => rw [hc] at h; exact pure' h
    | false =>
      rw [hc] at h
      simp only [cond_false] at h
      split at h
      · rename_i k i k' j hx hy
        obtain ⟨hkk, hj, hk⟩ := AndT_elim h
        have hkk' : k = k' := by simpa using hkk
        subst hkk'
        refine ⟨_, _, hk, fun S hS => (by cases hS), fun w' _ => ?_⟩
        simp [execOp, hop, ha.val hx, ha.val hy, eqGuard, binOp, Op.intDiv, hj]
      · exact h.elim
  · -- rem
    rename_i T x y U hop
    cases hc : isConst y with
    | true => rw [hc] at h; exact pure' h
    | false =>
      rw [hc] at h
      simp only [cond_false] at h
      split at h
      · rename_i k i k' j hx hy
        obtain ⟨hkk, hj, hk⟩ := AndT_elim h
        have hkk' : k = k' := by simpa using hkk
        subst hkk'
        refine ⟨_, _, hk, fun S hS => (by cases hS), fun w' _ => ?_⟩
        simp [execOp, hop, ha.val hx, ha.val hy, eqGuard, binOp, Op.intDiv, hj]
      · exact h.elim
  · -- eql
    rename_i T x c U hop
    cases hn : nilOk P T c with
    | false => rw [hn] at h; exact eqVC_sound hs ha hop (.inl ⟨rfl, rfl⟩) h
    | true =>
      rw [hn] at h
      simp only [cond_true] at h
      split at h
      · rename_i b hb
        refine ⟨_, _, h, fun S hS => (by cases hS), fun w' _ => ?_⟩
        cases hx : E.val x with
        | none => rw [hx] at hb; simp [nilEq] at hb
        | some v =>
          rw [hx] at hb
          have e1 : execOp a.eval o = (do pure (.value (← (do eqGuard .eql T x (.const c) v c; binOp .eql T v c)))) := by
            simp only [execOp, hop, ha.val hx]; rfl
          rw [e1]
          simp [nilEq_guard hb w', nilEq_run hn hb w']
      · exact h.elim
  · -- neq
    rename_i T x c U hop
    cases hn : nilOk P T c with
    | false => rw [hn] at h; exact eqVC_sound hs ha hop (.inr ⟨rfl, rfl⟩) h
    | true =>
      rw [hn] at h
      simp only [cond_true] at h
      split at h
      · rename_i b hb
        refine ⟨_, _, h, fun S hS => (by cases hS), fun w' _ => ?_⟩
        cases hx : E.val x with
        | none => rw [hx] at hb; simp [nilEq] at hb
        | some v =>
          rw [hx] at hb
          have e1 : execOp a.eval o = (do pure (.value (← (do eqGuard .neq T x (.const c) v c; binOp .neq T v c)))) := by
            simp only [execOp, hop, ha.val hx]; rfl
          rw [e1]
          simp [nilEq_guard hb w', nilEq_run' hn hb w']
      · exact h.elim
  · -- eql, of two that were computed
    rename_i T x y U _ hop
    exact eqVC_sound hs ha hop (.inl ⟨rfl, rfl⟩) h
  · rename_i T x y U _ hop
    split at h
    · rename_i p q hu hx hy
      refine readVC_sound ?_ h
      simp only [execOp, hop, ha.val hx, ha.val hy]
      rfl
    · exact eqVC_sound hs ha hop (.inr ⟨rfl, rfl⟩) h
  · -- add
    rename_i T x y U hop
    split at h
    · rename_i s t hx hy
      obtain ⟨h0, hk⟩ := h
      refine ⟨_, _, hk, fun S hS => (by cases hS), fun w' _ => ?_⟩
      have e1 : execOp a.eval o = (do pure (.value (← (do eqGuard .add T x y (.string s) (.string t); binOp .add T (.string s) (.string t))))) := by
        simp only [execOp, hop, ha.val hx, ha.val hy]
      rw [e1]
      simp only [eqGuard, binOp, Op.stringOp, h0]
      rfl
    · exact pure' h
  · -- shl
    rename_i T x y U hop
    cases hc : isConst y with
    | true => rw [hc] at h; exact pure' h
    | false =>
      rw [hc] at h
      simp only [cond_false] at h
      split at h
      · rename_i k i k' j hx hy
        obtain ⟨hj, hk⟩ := h
        refine ⟨_, _, hk, fun S hS => (by cases hS), fun w' _ => ?_⟩
        simp [execOp, hop, ha.val hx, ha.val hy, eqGuard, binOp, Op.shift, hj]
      · exact h.elim
  · -- shr
    rename_i T x y U hop
    cases hc : isConst y with
    | true => rw [hc] at h; exact pure' h
    | false =>
      rw [hc] at h
      simp only [cond_false] at h
      split at h
      · rename_i k i k' j hx hy
        obtain ⟨hj, hk⟩ := h
        refine ⟨_, _, hk, fun S hS => (by cases hS), fun w' _ => ?_⟩
        simp [execOp, hop, ha.val hx, ha.val hy, eqGuard, binOp, Op.shift, hj]
      · exact h.elim
  · -- lookup
    rename_i T x ix ok hop
    split at h
    · rename_i m k hx hi
      exact readVC_sound (by simp [execOp, hop, ha.val hx, ha.val hi]) h
    · exact h.elim
  · -- convert
    rename_i s d x hop
    split at h
    · rename_i e v hsu hdu hx
      exact readVC_sound (by simp [execOp, hop, ha.val hx]) h
    · rename_i e v hsu hdu hx
      exact readVC_sound (by simp [execOp, hop, ha.val hx]) h
    · rename_i e v hsu hdu hx
      exact readVC_sound (by simp [execOp, hop, ha.val hx]) h
    · exact pure' h
  · -- len
    rename_i args tys hop
    split at h
    · rename_i x T hx hT
      split at h
      · rename_i kt et m hu hm
        refine readVC_sound ?_ h
        have e1 : args = #[x] := by rw [← Array.toArray_toList (xs := args), hx]
        have e2 : tys = #[T] := by rw [← Array.toArray_toList (xs := tys), hT]
        simp [execOp, hop, e1, e2, resolve, invoke, builtin, ha.val hm]
      · exact pure' h
    · exact pure' h
  · exact pure' h
theorem calmVC_sound {P : Program} {o : Oper} {E : Env} {w : World} {n : Cx} {a : Act} {K : Value → List (World → Prop) → Prop} (hs : ∀ cs b, o.op ≠ .select cs b)
    (ha : Ag n a E) (h : calmVC P o E w K) : ∃ v S, K v S ∧ Calm P o a.eval w v S := by
  unfold calmVC at h
  cases hi : ifcOp P o with
  | false => rw [hi] at h; exact calmVC0_sound hs ha h
  | true =>
    rw [hi] at h
    simp only [cond_true] at h
    unfold ifcVC at h
    split at h
    · rename_i op T x y U hop
      split at h
      · rename_i u v hx hy
        refine readVC_sound ?_ h
        simp only [execOp, hop, ha.val hx, ha.val hy]
        rfl
      · exact h.elim
    · exact h.elim


theorem stVC_sound {P : Program} {p : Addr} : ∀ {vs : List Value} {i : Nat} {w : World} {K : World → Prop}, vs.all oneCell = true → stVC p vs i w K →
    ∃ w', (storeCells p vs i).run P w = .ok () w' ∧ K w'
  | [], i, w, K, _, h => ⟨w, by simp [storeCells], h⟩
  | v :: vs, i, w, K, h1, h => by
    obtain ⟨hc, hf, h⟩ := h
    rw [List.all_cons, Bool.and_eq_true] at h1
    obtain ⟨w', hr, hk⟩ := stVC_sound (P := P) h1.2 h
    refine ⟨w', ?_, hk⟩
    obtain ⟨u, hu⟩ := Option.isSome_iff_exists.1 hc
    have hst : (store (p.add i) v).run P w = .ok () (w.setCell (p.add i) v) := by
      have h0 := h1.1
      cases v <;> first | (simp [oneCell] at h0; done) | simp [store, Sem.run, hu, hf]
    simp [storeCells, hst, hr]

theorem callable_spec {P : Program} {f : FuncId} (h : callable P f = true) (args : Array Value) (w : World) : (callFunc f args).run P w = .ok (.enter f args) w := by
  unfold callable at h
  cases hf : P.funcs[f]? with
  | none => rw [hf] at h; cases h
  | some fn =>
    rw [hf] at h
    simp at h
    obtain ⟨h1, h2⟩ := h
    have h3 : fn.body ≠ none := by intro hb; rw [hb] at h1; cases h1
    simp [callFunc, hf, h2, h3]

theorem Ag.args {n : Cx} {a : Act} {E : Env} (h : Ag n a E) {args : Array Operand} (hc : ∀ x ∈ args, (E.val x).isSome = true) : args.map a.eval = args.map E.ev :=
  Array.map_congr_left fun x hx => h.ev (hc x hx)

/-- what an operation that acts is good for -/
def Acts (P : Program) (o : Oper) (a : Act) (w : World) (K : Value → World → Prop) : Prop :=
  ∀ Q : Exit → Act → World → Prop, o.wp P a w (fun a' w' => ∃ v, a' = a.put o.dst v ∧ K v w') Q

theorem callVC_sound {P : Program} {f : FuncId} {args : Array Value} {z : Value} {w : World} {K : Value → World → Prop} {o : Oper} {a : Act}
    (hrun : (execOp a.eval o).run P w = .ok (.enter f args) w) (h : callVC P f args z w K) : Acts P o a w K := by
  intro Q
  unfold Oper.wp
  rw [hrun]
  simp only [Oper.upon]
  refine Calls.mono h fun e w' he => ?_
  obtain ⟨v, rfl, hk⟩ := exAny_elim he
  exact ⟨v, rfl, hk⟩

theorem doVC_sound {P : Program} {s : Sem Value} {z : Value} {w : World} {K : Value → World → Prop} {o : Oper} {a : Act}
    (hrun : execOp a.eval o = (do pure (.value (← s)))) (h : doVC P s z w K) : Acts P o a w K := by
  intro Q
  obtain ⟨v, w', hr, hk⟩ := exAny_elim h
  unfold Oper.wp
  rw [hrun]
  simp only [Sem.run_bind, hr, Result.andThen_ok, Sem.run_pure, Oper.upon]
  exact ⟨v, rfl, hk⟩

set_option maxHeartbeats 1000000 in
theorem effVC_sound {P : Program} {o : Oper} {E : Env} {w : World} {n : Cx} {a : Act} {K : Value → World → Prop} (hs : ∀ cs b, o.op ≠ .select cs b)
    (ha : Ag n a E) (h : effVC P o E w K) : Acts P o a w K := by
  unfold effVC at h
  split at h
  · -- store
    rename_i T x y hop
    split at h
    · rename_i p v hx hy
      obtain ⟨hb, h⟩ := AndT_elim h
      rw [Bool.and_eq_true, Bool.and_eq_true] at hb
      obtain ⟨⟨hb1, hb2⟩, hb3⟩ := hb
      obtain ⟨i, hi⟩ := Option.isSome_iff_exists.1 hb3
      rw [hi] at hb1
      have hb1' : v.cells.size = i.size := by simpa using hb1
      obtain ⟨w', hr, hk⟩ := stVC_sound (P := P) hb2 h
      intro Q
      unfold Oper.wp
      have : (execOp a.eval o).run P w = .ok .skip w' := by
        simp [execOp, hop, Instr.storeAt, ha.val hx, ha.val hy, Instr.sureAddr, storeVar, sizeOf, typeInfo, hi, hb1', hr]
      rw [this]
      simp only [Oper.upon]
      exact ⟨_, rfl, hk⟩
    · exact h.elim
  · -- mapUpdate
    rename_i T m k v hop
    split at h
    · rename_i mv kv vv hm hk hv
      obtain ⟨w', hr, hK⟩ := h
      intro Q
      unfold Oper.wp
      have : (execOp a.eval o).run P w = .ok .skip w' := by simp [execOp, hop, ha.val hm, ha.val hk, ha.val hv, hr]
      rw [this]
      simp only [Oper.upon]
      exact ⟨_, rfl, hK⟩
    · exact h.elim
  · -- insert
    rename_i T m k v hop
    split at h
    · rename_i mv kv vv hm hk hv
      obtain ⟨w', hr, hK⟩ := h
      intro Q
      unfold Oper.wp
      have : (execOp a.eval o).run P w = .ok .skip w' := by simp [execOp, hop, ha.val hm, ha.val hk, ha.val hv, hr]
      rw [this]
      simp only [Oper.upon]
      exact ⟨_, rfl, hK⟩
    · exact h.elim
  · -- builtin
    rename_i b args tys hop
    obtain ⟨hc, h⟩ := AndT_elim h
    have hargs : args.map a.eval = args.map E.ev := ha.args fun x hx => List.all_eq_true.1 hc x (by rw [hop]; simp [Op.operands, Call.operands, hx])
    split at h
    · exact doVC_sound (by simp [execOp, hop, resolve, invoke, builtin, hargs]) h
    · exact doVC_sound (by simp [execOp, hop, resolve, invoke, builtin, hargs]) h
    · exact doVC_sound (by simp [execOp, hop, resolve, invoke, builtin, hargs]) h
    · exact doVC_sound (by simp [execOp, hop, resolve, invoke, builtin, hargs]) h
    · obtain ⟨w', hr, hk⟩ := h
      intro Q
      unfold Oper.wp
      have : (execOp a.eval o).run P w = .ok (.value undef) w' := by simp [execOp, hop, resolve, invoke, builtin, hargs, hr]
      rw [this]
      simp only [Oper.upon]
      exact ⟨_, rfl, hk⟩
    · obtain ⟨w', hr, hk⟩ := h
      intro Q
      unfold Oper.wp
      have : (execOp a.eval o).run P w = .ok (.value (.tuple #[])) w' := by simp [execOp, hop, resolve, invoke, builtin, hargs, hr]
      rw [this]
      simp only [Oper.upon]
      exact ⟨_, rfl, hk⟩
    · exact h.elim
  · -- call of a function
    rename_i f args tys hop
    obtain ⟨hc, h⟩ := AndT_elim h
    have hargs : args.map a.eval = args.map E.ev := ha.args fun x hx => List.all_eq_true.1 hc x (by rw [hop]; simp [Op.operands, Call.operands, hx])
    cases hca : callable P f with
    | true =>
      rw [hca] at h
      refine callVC_sound ?_ h
      simp [execOp, hop, resolve, Act.eval, Deferred.ofValue, invoke, hargs, callable_spec hca]
    | false =>
      rw [hca, cond_false] at h
      unfold extVC at h
      obtain ⟨v, w', hr, hk⟩ := exAny_elim h
      intro Q
      unfold Oper.wp
      have : (execOp a.eval o).run P w = .ok (.value v) w' := by simp [execOp, hop, resolve, Act.eval, Deferred.ofValue, invoke, hargs, hr]
      rw [this]
      simp only [Oper.upon]
      exact ⟨_, rfl, hk⟩
  · -- call of a function value
    rename_i t args tys hop
    obtain ⟨hc, h⟩ := AndT_elim h
    have hargs : args.map a.eval = args.map E.ev := ha.args fun x hx => List.all_eq_true.1 hc x (by rw [hop]; simp [Op.operands, Call.operands, hx])
    split at h
    · rename_i f first captured hf
      obtain ⟨hca, h⟩ := AndT_elim h
      have hft : a.eval (.tmp t) = .func (.func f) first captured := ha.val (x := .tmp t) hf
      refine callVC_sound ?_ h
      simp [execOp, hop, resolve, hft, Deferred.ofValue, invoke, hargs, callable_spec hca]
    · exact h.elim
  · -- makeSlice
    rename_i T l c hop
    split at h
    · rename_i lv cv hl hc
      exact doVC_sound (by simp [execOp, hop, ha.val hl, ha.val hc]) h
    · exact h.elim
  · -- range
    rename_i T x hop
    split at h
    · rename_i xv hx
      obtain ⟨v, w', hr, hk⟩ := h
      intro Q
      unfold Oper.wp
      have : (execOp a.eval o).run P w = .ok (.value v) w' := by simp [execOp, hop, ha.val hx, hr]
      rw [this]
      simp only [Oper.upon]
      exact ⟨_, rfl, hk⟩
    · exact h.elim
  · -- next
    rename_i it s hop
    split at h
    · rename_i iv hi
      have fin : ∀ (v : Value) (w' : World), (Instr.next iv s o.type).run P w = .ok v w' → K v w' → Acts P o a w K := fun v w' hr hk Q => by
        unfold Oper.wp
        have : (execOp a.eval o).run P w = .ok (.value v) w' := by simp [execOp, hop, ha.val hi, hr]
        rw [this]
        simp only [Oper.upon]
        exact ⟨_, rfl, hk⟩
      rcases h with ⟨w', hr, hk⟩ | h
      · exact fin _ _ hr hk
      · split at h
        · obtain ⟨i, c, w', hr, hk⟩ := h; exact fin _ _ hr hk
        · obtain ⟨i, c, w', hr, hk⟩ := h; exact fin _ _ hr hk
    · exact h.elim
  · -- entry
    rename_i it hop
    split at h
    · rename_i iv hi
      obtain ⟨x, y, w', hr, hk⟩ := h
      intro Q
      unfold Oper.wp
      have : (execOp a.eval o).run P w = .ok (.value (.tuple #[x, y])) w' := by simp [execOp, hop, ha.val hi, hr]
      rw [this]
      simp only [Oper.upon]
      exact ⟨_, rfl, hk⟩
    · exact h.elim
  · -- convert
    rename_i s d x hop
    split at h
    · rename_i v hx
      exact doVC_sound (by simp [execOp, hop, ha.val hx]) h
    · exact h.elim
  · -- by the run
    obtain ⟨hc, h⟩ := AndT_elim h
    intro Q
    unfold Oper.wp
    rw [ha.execOp hs hc]
    generalize (execOp E.ev o).run P w = r at h
    split at h
    · simp only [Oper.upon]; exact ⟨_, rfl, h⟩
    · simp only [Oper.upon]; exact ⟨_, rfl, h⟩
    · exact h.elim

/-! ### The same within a loop over a function -/
def ActsIn (P : Program) (n : Cx) (o : Oper) (a : Act) (w : World) (K : Value → World → Prop) : Prop :=
  ∀ Q : Exit → Act → World → Prop, o.wpIn (FW n) 0 P a w (fun a' w' => ∃ v, a' = a.put o.dst v ∧ K v w') Q
theorem callsIn_FW {n : Cx} {P : Program} {f : FuncId} {args : Array Value} {w : World} {R : Ending → World → Prop} (h : Calls P f args w R) : CallsIn (FW n) 0 P f args w R := by
  have h1 : CallsIn Fence.wide 0 P f args w R := callsIn_wide.2 h
  obtain ⟨n, ds, ro⟩ := n
  cases ro with
  | none => exact h1
  | some l => exact h1
theorem rowsIn_FW {n : Cx} {P : Program} {row : String} {args : Array Value} {w : World} {R : Value → World → Prop} (h : Rows P row args w R) : RowsIn (FW n) 0 P row args w R := by
  intro c cs _
  obtain ⟨v, w', hr, hs⟩ := h c cs
  refine ⟨v, w', hr, ?_⟩
  have := stepsIn_wide.2 hs
  obtain ⟨n, ds, ro⟩ := n
  cases ro with
  | none => exact this
  | some l => exact this
theorem roundIn_FW {n : Cx} {P : Program} {l : Nat} {f : FuncId} {tmps : Array Value} {assign body : Code} {w : World} {R : Ending → World → Prop} (h : RoundIn Fence.wide 0 P l f tmps assign body w R) : RoundIn (FW n) 0 P l f tmps assign body w R := by
  obtain ⟨n, ds, ro⟩ := n
  cases ro with
  | none => exact h
  | some l => exact h
theorem wp_in {P : Program} {n : Cx} {o : Oper} {a : Act} {w : World} {K : Act → World → Prop} {Q : Exit → Act → World → Prop} (hd : ∀ c, o.op ≠ .defer c) (h : o.wp P a w K Q) : o.wpIn (FW n) 0 P a w K Q := by
  refine ⟨fun _ _ => trivial, ?_⟩
  rw [Oper.semAt_eq _ _ _ hd]
  unfold Oper.wp at h
  generalize (execOp a.eval o).run P w = r at *
  cases r with
  | ok nx w' =>
    cases nx <;> simp only [Oper.upon, Oper.uponIn] at h ⊢
    case value => exact h
    case skip => exact h
    case defer => exact h
    case enter f args => exact ⟨fun h => (by cases h), callsIn_FW h⟩
    case row row args => exact ⟨fun h => (by cases h), rowsIn_FW h⟩
  | halt x w' =>
    cases x <;> simp only [Oper.upon, Oper.uponIn] at h ⊢
    exact h
theorem Acts.in {P : Program} {n : Cx} {o : Oper} {a : Act} {w : World} {K : Value → World → Prop} (hd : ∀ c, o.op ≠ .defer c) (h : Acts P o a w K) : ActsIn P n o a w K := fun Q => wp_in hd (h Q)
theorem effVCy_sound {P : Program} {o : Oper} {E : Env} {w : World} {n : Cx} {a : Act} {K : Value → World → Prop} (hs : ∀ cs b, o.op ≠ .select cs b) (hd : ∀ c, o.op ≠ .defer c)
    (ha : Ag n a E) (h : effVCy P o E w K) : ActsIn P n o a w K := by
  unfold effVCy at h
  split at h
  · rename_i t args tys hop
    split at h
    · rename_i l fs cs hf
      obtain ⟨hb, hyv⟩ := AndT_elim h
      clear h
      simp only [Bool.and_eq_true, Nat.beq_eq] at hb
      obtain ⟨hc, h1, h2⟩ := hb
      have e1 : fs = #[] := Array.eq_empty_of_size_eq_zero h1
      have e2 : cs = #[] := Array.eq_empty_of_size_eq_zero h2
      subst e1 e2
      have hargs : args.map a.eval = args.map E.ev := ha.args fun x hx => List.all_eq_true.1 hc x (by rw [hop]; simp [Op.operands, Call.operands, hx])
      have hft : a.eval (.tmp t) = .func (.yield l) #[] #[] := ha.val (x := .tmp t) hf
      intro Q
      obtain ⟨fn, tmps, assign, body, hy, hR⟩ := hyv
      refine ⟨fun _ _ => trivial, ?_⟩
      rw [Oper.semAt_eq _ _ _ hd]
      have : (execOp a.eval o).run P w = .ok (.round l fn tmps assign body) w := by
        simp [execOp, hop, resolve, hft, Deferred.ofValue, invoke, hargs, hy]
      rw [this, Oper.uponIn_round]
      refine ⟨fun h => (by cases h), roundIn_FW (hR.mono ?_)⟩
      rintro e w' ⟨b, rfl, hk⟩
      exact ⟨_, rfl, hk⟩
    · exact (effVC_sound hs ha h).in hd
  · exact (effVC_sound hs ha h).in hd

/-! ### A region -/
def ordD (ops : Array Oper) (i j : Nat) : Bool := match ops[j]? with | some o => o.after.toList.any fun e => Nat.beq e.on i && Region.binds .any e | none => false
/-- ordered, in a few steps -/
def ordN (ops : Array Oper) : Nat → Nat → Nat → Bool
  | 0, i, j => ordD ops i j
  | f + 1, i, j => bif ordD ops i j then true else match ops[j]? with | some o => o.after.toList.any fun e => bif Region.binds .any e then ordN ops f i e.on else false | none => false
def ordT (ops : Array Oper) (i j : Nat) : Bool := ordN ops 4 i j
/-- what is done before is done -/
def Down (ops : Array Oper) (listed : Array Bool) : Prop := ∀ (k : Nat) (o : Oper), ops[k]? = some o → listed.getD k false = true → ∀ e ∈ o.after, Region.binds .any e = true → listed.getD e.on false = true
theorem Down.zero (ops : Array Oper) (n : Nat) : Down ops (Array.replicate n false) := fun k o _ hk => by
  exfalso
  by_cases h : k < n
  · simp [h] at hk
  · simp [h] at hk
theorem Down.set {ops : Array Oper} {listed : Array Bool} (hd : Down ops listed) {i : Nat} (hi : i ∈ Region.ready .any ops listed) : Down ops (listed.setIfInBounds i true) := fun k o ho hk e he hb => by
  obtain ⟨_, oi, hoi, hall⟩ := mem_ready.1 hi
  by_cases hki : i = k
  · subst hki
    rw [hoi] at ho
    cases ho
    exact getD_set_true (hall e he hb)
  · rw [getD_set_ne false hki] at hk
    exact getD_set_true (hd k o ho hk e he hb)
theorem ordD_listed {ops : Array Oper} {listed : Array Bool} {i j : Nat} (hall : ∀ o, ops[j]? = some o → ∀ e ∈ o.after, Region.binds .any e = true → listed.getD e.on false = true) (h : ordD ops i j = true) : listed.getD i false = true := by
  unfold ordD at h
  cases ho : ops[j]? with
  | none => rw [ho] at h; cases h
  | some o =>
    rw [ho] at h
    obtain ⟨e, he, heb⟩ := List.any_eq_true.1 h
    rw [Bool.and_eq_true] at heb
    have hei : e.on = i := by have := heb.1; rwa [Nat.beq_eq] at this
    have := hall o ho e (by simpa using he) heb.2
    rwa [hei] at this
theorem ordN_listed {ops : Array Oper} {listed : Array Bool} (hd : Down ops listed) {i : Nat} : ∀ (f j : Nat), (∀ o, ops[j]? = some o → ∀ e ∈ o.after, Region.binds .any e = true → listed.getD e.on false = true) → ordN ops f i j = true → listed.getD i false = true
  | 0, j, hall, h => ordD_listed hall h
  | f + 1, j, hall, h => by
    unfold ordN at h
    cases hdi : ordD ops i j with
    | true => exact ordD_listed hall hdi
    | false =>
      rw [hdi] at h
      cases ho : ops[j]? with
      | none => rw [ho] at h; cases h
      | some o =>
        rw [ho] at h
        obtain ⟨e, he, heb⟩ := List.any_eq_true.1 h
        cases hb : Region.binds .any e with
        | false => rw [hb] at heb; cases heb
        | true =>
          rw [hb] at heb
          have hl := hall o ho e (by simpa using he) hb
          exact ordN_listed hd f e.on (fun o' ho' e' he' hb' => hd e.on o' ho' hl e' he' hb') heb
abbrev Held := List (Nat × (World → Prop))
def heldBy (ops : Array Oper) (j : Nat) (w : World) : Held → List Prop
  | [] => []
  | (i, S) :: H => bif ordT ops i j then heldBy ops j w H else S w :: heldBy ops j w H
def dropH (ops : Array Oper) (j : Nat) : Held → Held
  | [] => []
  | (i, S) :: H => bif ordT ops i j then dropH ops j H else (i, S) :: dropH ops j H

theorem heldBy_of {ops : Array Oper} {j : Nat} {w : World} : ∀ {H : Held} {p : Nat × (World → Prop)}, p ∈ H → ordT ops p.1 j = false → p.2 w ∈ heldBy ops j w H
  | (i, S) :: H, p, h, ho => by
    unfold heldBy
    rcases List.mem_cons.1 h with rfl | h
    · simp only at ho; rw [ho]; exact List.mem_cons_self
    · have := heldBy_of (H := H) (w := w) h ho
      cases ordT ops i j
      · exact List.mem_cons_of_mem _ this
      · exact this
theorem mem_dropH {ops : Array Oper} {j : Nat} : ∀ {H : Held} {p : Nat × (World → Prop)}, p ∈ dropH ops j H ↔ p ∈ H ∧ ordT ops p.1 j = false
  | [], p => by simp [dropH]
  | (i, S) :: H, p => by
    unfold dropH
    cases ho : ordT ops i j with
    | true =>
      simp only [cond_true]
      rw [mem_dropH]
      constructor
      · rintro ⟨h1, h2⟩; exact ⟨List.mem_cons_of_mem _ h1, h2⟩
      · rintro ⟨h1, h2⟩
        rcases List.mem_cons.1 h1 with rfl | h1
        · simp only at h2; rw [ho] at h2; cases h2
        · exact ⟨h1, h2⟩
    | false =>
      simp only [cond_false, List.mem_cons]
      rw [mem_dropH]
      constructor
      · rintro (rfl | ⟨h1, h2⟩)
        · exact ⟨.inl rfl, ho⟩
        · exact ⟨.inr h1, h2⟩
      · rintro ⟨rfl | h1, h2⟩
        · exact .inl rfl
        · exact .inr ⟨h1, h2⟩

section
variable {P : Program} {ops : Array Oper} {Q : Exit → Act → World → Prop}

def wpAnyHs (P : Program) (ops : Array Oper) (Q : Exit → Act → World → Prop) : Nat → Held → Array Bool → Act → World → Prop
  | 0, _, listed, a, w => Down ops listed → Region.ready .any ops listed = [] ∧ Q .normal a w
  | fuel + 1, H, listed, a, w => Down ops listed →
    (Region.ready .any ops listed = [] → Q .normal a w) ∧
    ∀ i ∈ Region.ready .any ops listed, wpOp P ops Q i (fun a' w' => (∀ p ∈ dropH ops i H, p.2 w') ∧ wpAnyHs P ops Q fuel (dropH ops i H) (listed.setIfInBounds i true) a' w') a w

theorem wpAny_of_helds : ∀ (fuel : Nat) (H : Held) (listed : Array Bool) (a : Act) (w : World), Down ops listed → wpAnyHs P ops Q fuel H listed a w → wpAny P .any ops Q fuel listed a w
  | 0, _, _, _, _, hd, h => h hd
  | fuel + 1, _, _, _, _, hd, h => ⟨(h hd).1, fun i hi => wpOp_mono (fun a' w' h' => wpAny_of_helds fuel _ _ a' w' (hd.set hi) h'.2) ((h hd).2 i hi)⟩

theorem wpAnyHs_mono : ∀ (fuel : Nat) (H H' : Held) (listed : Array Bool) (a : Act) (w : World), (∀ p ∈ H', p ∈ H) → wpAnyHs P ops Q fuel H listed a w → wpAnyHs P ops Q fuel H' listed a w
  | 0, _, _, _, _, _, _, h => h
  | fuel + 1, H, H', listed, a, w, hs, h => fun hd => ⟨(h hd).1, fun i hi => wpOp_mono (fun a' w' h' => by
      have hsub : ∀ p ∈ dropH ops i H', p ∈ dropH ops i H := fun p hp => mem_dropH.2 ⟨hs p (mem_dropH.1 hp).1, (mem_dropH.1 hp).2⟩
      exact ⟨fun p hp => h'.1 p (hsub p hp), wpAnyHs_mono fuel _ _ _ a' w' hsub h'.2⟩) ((h hd).2 i hi)⟩

theorem not_ordT {i j : Nat} {listed : Array Bool} (hd : Down ops listed) (hi : listed.getD i true = false) (hj : j ∈ Region.ready .any ops listed) : ordT ops i j = false := by
  obtain ⟨_, oj, hoj, hall⟩ := mem_ready.1 hj
  cases ho : ordT ops i j with
  | false => rfl
  | true =>
    have this := ordN_listed hd 4 j (fun o ho' e he hb => by rw [hoj] at ho'; cases ho'; exact hall e he hb) ho
    rcases Nat.lt_or_ge i listed.size with h' | h'
    · simp [h'] at hi this; rw [hi] at this; cases this
    · simp [Array.getElem?_eq_none h'] at this

theorem wpAnyHs_first {i : Nat} {oi : Oper} {v : Value} {Ss : List (World → Prop)} (hi : ops[i]? = some oi) (hsel : ∀ (j : Nat) (o : Oper) cs b, ops[j]? = some o → o.op ≠ .select cs b)
    (hQ : ∀ c a w, Q (.panic c) (a.put oi.dst v) w → Q (.panic c) a w) :
    ∀ (fuel : Nat) (H : Held) (listed : Array Bool) (a : Act) (w : World),
      (∀ j oj, ops[j]? = some oj → j ≠ i → listed.getD j true = false → (∀ e ∈ oj.after, Region.binds .any e = true → e.on ≠ i) → oi.apart ops oj = true) →
      i ∈ Region.ready .any ops listed → YieldsIf P ops (fun w => ∀ S ∈ Ss, S w) oi v a → (∀ S ∈ Ss, S w) → (∀ p ∈ H, p.2 w) →
      wpAnyHs P ops Q fuel (Ss.map (fun S => (i, S)) ++ H) (listed.setIfInBounds i true) (a.put oi.dst v) w → wpAnyHs P ops Q (fuel + 1) H listed a w := by
  intro fuel
  induction fuel with
  | zero =>
    intro H listed a w _ hr hy hS hH G hd
    refine ⟨fun h => (by rw [h] at hr; cases hr), fun j hj => ?_⟩
    by_cases hji : j = i
    · subst hji
      exact hy.wpOp hi hS ⟨fun p hp => hH p (mem_dropH.1 hp).1, G⟩
    · have := ready_mono hj hji
      rw [(G (hd.set hr)).1] at this
      cases this
  | succ fuel ih =>
    intro H listed a w hfree hr hy hS hH G hd
    refine ⟨fun h => (by rw [h] at hr; cases hr), fun j hj => ?_⟩
    by_cases hji : j = i
    · subst hji
      refine hy.wpOp hi hS ⟨fun p hp => hH p (mem_dropH.1 hp).1, ?_⟩
      exact wpAnyHs_mono _ _ _ _ _ _ (fun p hp => List.mem_append_right _ (mem_dropH.1 hp).1) G
    · have h1 := (G (hd.set hr)).2 j (ready_mono hj hji)
      obtain ⟨hjun, oj, hoj, hall⟩ := mem_ready.1 hj
      have h0 := (mem_ready.1 hr).1
      have hnot : ∀ e ∈ oj.after, Region.binds .any e = true → e.on ≠ i := fun e he hb heq => by
        have h1 := hall e he hb
        rw [heq] at h1
        rcases Nat.lt_or_ge i listed.size with h' | h'
        · simp [h'] at h0 h1; rw [h0] at h1; cases h1
        · simp [Array.getElem?_eq_none h'] at h1
      have hord : ordT ops i j = false := not_ordT hd h0 hj
      have h2 := wpOp_putIf hoj (hfree j oj hoj hji hjun hnot) (fun cs b => hsel i oi cs b hi) (fun cs b => hsel j oj cs b hoj) hQ hy h1
      have hfree' : ∀ k ok, ops[k]? = some ok → k ≠ i → (listed.setIfInBounds j true).getD k true = false →
          (∀ e ∈ ok.after, Region.binds .any e = true → e.on ≠ i) → oi.apart ops ok = true := fun k ok hk hki hun hno => by
        refine hfree k ok hk hki ?_ hno
        by_cases hjk : j = k
        · subst hjk; exact hjun
        · rw [getD_set_ne true hjk] at hun; exact hun
      refine wpOp_mono (fun a' w' h3 => ?_) h2
      obtain ⟨hy', hheld, hrest⟩ := h3
      have hH' : ∀ p ∈ dropH ops j H, p.2 w' := fun p hp => hheld p (mem_dropH.2 ⟨List.mem_append_right _ (mem_dropH.1 hp).1, (mem_dropH.1 hp).2⟩)
      have hS' : ∀ S ∈ Ss, S w' := fun S hSm => hheld (i, S) (mem_dropH.2 ⟨List.mem_append_left _ (List.mem_map.2 ⟨S, hSm, rfl⟩), hord⟩)
      refine ⟨hH', ih (dropH ops j H) (listed.setIfInBounds j true) a' w' hfree' (ready_mono hr (Ne.symm hji)) hy' hS' hH' ?_⟩
      rw [Array.setIfInBounds_comm _ _ hji]
      refine wpAnyHs_mono _ _ _ _ _ _ (fun p hp => ?_) hrest
      rcases List.mem_append.1 hp with hp | hp
      · obtain ⟨S, hSm, rfl⟩ := List.mem_map.1 hp
        exact mem_dropH.2 ⟨List.mem_append_left _ hp, hord⟩
      · exact mem_dropH.2 ⟨List.mem_append_right _ (mem_dropH.1 hp).1, (mem_dropH.1 hp).2⟩
end

/-! ### The condition of a region -/
def gslot (ops : Array Oper) (j : Nat) : Option Nat := (ops[j]?).bind (·.dst)
def stepVC (P : Program) (ops : Array Oper) (draw : Bool) (i : Nat) (o : Oper) (E : Env) (w : World) (H : Held) (K : Env → World → Held → Prop) : Prop :=
  bif calm P o then calmVC P o E w fun v Ss => K (E.put o.dst v) w (bif draw then Ss.map (fun S => (i, S)) ++ H else H)
  else (bif draw then effVC else effVCy) P o E w fun v w' => andL (heldBy ops i w' H) (K (E.put o.dst v) w' (dropH ops i H))
def guardVC (P : Program) (ops : Array Oper) (draw : Bool) (i : Nat) (o : Oper) (d : Nat) (want t : Bool) (E : Env) (w : World) (H : Held) (K : Env → World → Held → Prop) : Prop :=
  bif (t == want) then stepVC P ops draw i o ((d, .bool t) :: E) w H K else K (Env.put ((d, .bool t) :: E) o.dst undef) w (bif calm P o then H else dropH ops i H)
def runVC (P : Program) (ops : Array Oper) (draw : Bool) (K : Env → World → Prop) : List Nat → Env → World → Held → Prop
  | [], E, w, _ => K E w
  | i :: l, E, w, H =>
    match ops[i]? with
    | none => False
    | some o => match o.guard with
      | none => stepVC P ops draw i o E w H fun E' w' H' => runVC P ops draw K l E' w' H'
      | some (j, want) => match gslot ops j with
        | none => False
        | some d => match E.get? d with
          | some (.bool t) => sel t (guardVC P ops draw i o d want true E w H fun E' w' H' => runVC P ops draw K l E' w' H') (guardVC P ops draw i o d want false E w H fun E' w' H' => runVC P ops draw K l E' w' H')
          | some (.tuple _) => runVC P ops draw K l (Env.put E o.dst undef) w (bif calm P o then H else dropH ops i H)
          | _ => False

def okOrder (P : Program) (ops : Array Oper) : List Nat → Array Bool → Bool
  | [], listed => (Region.ready .any ops listed).isEmpty
  | i :: l, listed => (match ops[i]? with
      | some o => bif calm P o then Region.free .any ops listed i && (Region.ready .any ops listed).contains i else Region.ready .any ops listed == [i]
      | none => false) && okOrder P ops l (listed.setIfInBounds i true)
def noDefer (o : Oper) : Bool := match o.op with | .defer _ => false | _ => true
def opsOk (n : Nat) (ops : Array Oper) : Bool := Region.noSelect ops && ops.toList.all fun o => noDefer o && match o.dst with | some d => Nat.blt d n | none => true

theorem opsOk_dst {n : Nat} {ops : Array Oper} (h : opsOk n ops = true) {i : Nat} {o : Oper} (ho : ops[i]? = some o) : ∀ t, o.dst = some t → t < n := by
  intro t ht
  unfold opsOk at h
  rw [Bool.and_eq_true] at h
  have := List.all_eq_true.1 h.2 o (by simpa using Array.mem_of_getElem? ho)
  rw [ht, Bool.and_eq_true] at this
  simpa using this.2
theorem opsOk_defer {n : Nat} {ops : Array Oper} (h : opsOk n ops = true) {i : Nat} {o : Oper} (ho : ops[i]? = some o) : ∀ c, o.op ≠ .defer c := by
  intro c hc
  unfold opsOk at h
  rw [Bool.and_eq_true] at h
  have := List.all_eq_true.1 h.2 o (by simpa using Array.mem_of_getElem? ho)
  rw [Bool.and_eq_true] at this
  have := this.1
  unfold noDefer at this
  rw [hc] at this
  cases this

/-- the post of a region -/
def RegPost (n : Cx) (K : Env → World → Prop) : Exit → Act → World → Prop
  | .normal, a, w => ∃ E, Ag n a E ∧ K E w
  | _, _, _ => False

theorem yielded_of {n : Cx} {a : Act} {E : Env} (ha : Ag n a E) {ops : Array Oper} {j d : Nat} {t : Bool} (hd : gslot ops j = some d) (ht : E.get? d = some (.bool t)) : yielded ops a.tmps j = some t := by
  unfold yielded
  unfold gslot at hd
  rw [hd]
  simp [ha.get _ _ ht]

theorem yielded_tuple {n : Cx} {a : Act} {E : Env} (ha : Ag n a E) {ops : Array Oper} {j d : Nat} {vs : Array Value} (hd : gslot ops j = some d) (ht : E.get? d = some (.tuple vs)) : yielded ops a.tmps j = none := by
  unfold yielded
  unfold gslot at hd
  rw [hd]
  simp [ha.get _ _ ht]

theorem Ag.same {n : Cx} {a : Act} {E : Env} (ha : Ag n a E) {d : Nat} {v : Value} (hd : E.get? d = some v) : Ag n a ((d, v) :: E) := ha.cons hd ha

section
variable {P : Program} {ops : Array Oper} {n : Cx} {K : Env → World → Prop}

/-- one step, whichever way it is wanted -/
theorem wpOp_eff {i : Nat} {o : Oper} {a : Act} {w : World} {Kv : Value → World → Prop} {K' : Act → World → Prop} {Q : Exit → Act → World → Prop} (ho : ops[i]? = some o)
    (hw : Region.wanted o (yielded ops a.tmps) = true) (h : Acts P o a w Kv) (hk : ∀ v w', Kv v w' → K' (a.put o.dst v) w') : wpOp P ops Q i K' a w := by
  unfold wpOp
  simp only [ho, hw, if_true]
  exact .inl (Oper.wp_mono (fun a' w' => by rintro ⟨v, rfl, hv⟩; exact hk v w' hv) (h Q))

theorem step_sound_draw {i : Nat} {o : Oper} {a : Act} {E : Env} {w : World} {H : Held} {Kh : Env → World → Held → Prop} {listed : Array Bool} {fuel : Nat} {Q : Exit → Act → World → Prop}
    (hn : opsOk n ops = true) (ho : ops[i]? = some o) (hok : (bif calm P o then Region.free .any ops listed i && (Region.ready .any ops listed).contains i else Region.ready .any ops listed == [i]) = true)
    (hQ : ∀ c a w, Q (.panic c) a w = False) (ha : Ag n a E) (hH : ∀ p ∈ H, p.2 w) (hwant : Region.wanted o (yielded ops a.tmps) = true)
    (h : stepVC P ops true i o E w H Kh)
    (next : ∀ a' E' w' H', Ag n a' E' → (∀ p ∈ H', p.2 w') → Kh E' w' H' → wpAnyHs P ops Q fuel H' (listed.setIfInBounds i true) a' w') : wpAnyHs P ops Q (fuel + 1) H listed a w := by
  have hsel := Region.noSelect_spec (ops := ops) (by unfold opsOk at hn; rw [Bool.and_eq_true] at hn; exact hn.1)
  unfold stepVC at h
  cases hc : calm P o with
  | true =>
    rw [hc] at h hok
    simp only [cond_true] at h hok
    rw [Bool.and_eq_true] at hok
    obtain ⟨v, Ss, hk, hs1, hs2⟩ := calmVC_sound (fun cs b => hsel i o cs b ho) ha h
    refine wpAnyHs_first (v := v) (Ss := Ss) ho hsel (by simp [hQ]) fuel H listed a w (Region.free_spec ho hok.1) (by simpa using hok.2) (.inl ⟨hwant, fun w' hw' => hs2 w' hw'⟩) hs1 hH ?_
    refine next _ _ _ _ (ha.put v (opsOk_dst hn ho)) ?_ hk
    intro p hp
    rcases List.mem_append.1 hp with hp | hp
    · obtain ⟨S, hSm, rfl⟩ := List.mem_map.1 hp; exact hs1 S hSm
    · exact hH p hp
  | false =>
    rw [hc] at h hok
    simp only [cond_false, cond_true] at h hok
    have hr : Region.ready .any ops listed = [i] := by simpa using hok
    refine fun _ => ⟨fun h0 => (by rw [hr] at h0; cases h0), fun j hj => ?_⟩
    rw [hr] at hj
    obtain rfl := List.mem_singleton.1 hj
    refine wpOp_eff ho hwant (effVC_sound (fun cs b => hsel j o cs b ho) ha h) fun v w' hv => ?_
    obtain ⟨h1, h2⟩ := andL_elim hv
    have hH' : ∀ p ∈ dropH ops j H, p.2 w' := fun p hp => h1 _ (heldBy_of (mem_dropH.1 hp).1 (mem_dropH.1 hp).2)
    exact ⟨hH', next _ _ _ _ (ha.put v (opsOk_dst hn ho)) hH' h2⟩

theorem skip_sound_draw {i : Nat} {o : Oper} {a : Act} {w : World} {H : Held} {listed : Array Bool} {fuel : Nat} {Q : Exit → Act → World → Prop}
    (hn : opsOk n ops = true) (ho : ops[i]? = some o) (hok : (bif calm P o then Region.free .any ops listed i && (Region.ready .any ops listed).contains i else Region.ready .any ops listed == [i]) = true)
    (hQ : ∀ c a w, Q (.panic c) a w = False) (hH : ∀ p ∈ H, p.2 w) (hwant : Region.wanted o (yielded ops a.tmps) = false)
    (next : wpAnyHs P ops Q fuel (bif calm P o then H else dropH ops i H) (listed.setIfInBounds i true) (a.put o.dst undef) w) : wpAnyHs P ops Q (fuel + 1) H listed a w := by
  have hsel := Region.noSelect_spec (ops := ops) (by unfold opsOk at hn; rw [Bool.and_eq_true] at hn; exact hn.1)
  cases hc : calm P o with
  | true =>
    rw [hc] at hok next
    simp only [cond_true] at hok next
    rw [Bool.and_eq_true] at hok
    exact wpAnyHs_first (v := undef) (Ss := []) ho hsel (by simp [hQ]) fuel H listed a w (Region.free_spec ho hok.1) (by simpa using hok.2) (.inr ⟨hwant, rfl⟩) (fun S hS => (by cases hS)) hH (by simpa using next)
  | false =>
    rw [hc] at hok next
    simp only [cond_false] at hok next
    have hr : Region.ready .any ops listed = [i] := by simpa using hok
    refine fun _ => ⟨fun h0 => (by rw [hr] at h0; cases h0), fun j hj => ?_⟩
    rw [hr] at hj
    obtain rfl := List.mem_singleton.1 hj
    unfold wpOp
    simp only [ho, hwant]
    exact ⟨fun p hp => hH p (mem_dropH.1 hp).1, next⟩

theorem run_sound_draw (hn : opsOk n ops = true) : ∀ (l : List Nat) (listed : Array Bool) (E : Env) (w : World) (H : Held) (a : Act), okOrder P ops l listed = true → Ag n a E → (∀ p ∈ H, p.2 w) →
    runVC P ops true K l E w H → wpAnyHs P ops (RegPost n K) l.length H listed a w
  | [], listed, E, w, H, a, hok, ha, _, h => fun _ => ⟨by simpa [okOrder] using hok, E, ha, h⟩
  | i :: l, listed, E, w, H, a, hok, ha, hH, h => by
    unfold okOrder at hok
    rw [Bool.and_eq_true] at hok
    obtain ⟨hok, hrest⟩ := hok
    unfold runVC at h
    cases ho : ops[i]? with
    | none => rw [ho] at h; exact h.elim
    | some o =>
      rw [ho] at h hok
      simp only at h hok
      have next : ∀ a' E' w' H', Ag n a' E' → (∀ p ∈ H', p.2 w') → runVC P ops true K l E' w' H' → wpAnyHs P ops (RegPost n K) l.length H' (listed.setIfInBounds i true) a' w' :=
        fun a' E' w' H' hA hHH hR => run_sound_draw hn l _ E' w' H' a' hrest hA hHH hR
      cases hg : o.guard with
      | none =>
        rw [hg] at h
        simp only at h
        exact step_sound_draw hn ho hok (fun _ _ _ => rfl) ha hH (by simp [Region.wanted, hg]) h next
      | some jw =>
        obtain ⟨j, want⟩ := jw
        rw [hg] at h
        simp only at h
        cases hd : gslot ops j with
        | none => rw [hd] at h; exact h.elim
        | some d =>
          rw [hd] at h
          simp only at h
          split at h
          · rename_i t ht
            have hy := yielded_of ha hd ht
            have hg' : guardVC P ops true i o d want t E w H fun E' w' H' => runVC P ops true K l E' w' H' := by
              cases t
              · exact h
              · exact h
            unfold guardVC at hg'
            cases hb : (t == want) with
            | true =>
              rw [hb] at hg'
              exact step_sound_draw hn ho hok (fun _ _ _ => rfl) (ha.same ht) hH (by simp [Region.wanted, hg, hy]; simpa using hb) hg' next
            | false =>
              rw [hb] at hg'
              simp only [cond_false] at hg'
              refine skip_sound_draw hn ho hok (fun _ _ _ => rfl) hH (by simp [Region.wanted, hg, hy]; simpa using hb) ?_
              refine next _ _ _ _ ((ha.same ht).put undef (opsOk_dst hn ho)) ?_ hg'
              intro p hp
              cases hcc : calm P o
              · rw [hcc] at hp; exact hH p (mem_dropH.1 hp).1
              · rw [hcc] at hp; exact hH p hp
          · rename_i vs ht
            have hy := yielded_tuple ha hd ht
            refine skip_sound_draw hn ho hok (fun _ _ _ => rfl) hH (by simp [Region.wanted, hg, hy]) ?_
            refine next _ _ _ _ (ha.put undef (opsOk_dst hn ho)) ?_ h
            intro p hp
            cases hcc : calm P o
            · rw [hcc] at hp; exact hH p (mem_dropH.1 hp).1
            · rw [hcc] at hp; exact hH p hp
          · exact h.elim

theorem wpOpIn_eff {i : Nat} {o : Oper} {a : Act} {w : World} {Kv : Value → World → Prop} {K' : Act → World → Prop} {Q : Exit → Act → World → Prop} (ho : ops[i]? = some o)
    (hw : Region.wanted o (yielded ops a.tmps) = true) (h : ActsIn P n o a w Kv) (hk : ∀ v w', Kv v w' → K' (a.put o.dst v) w') : wpOpIn (FW n) 0 P ops Q i K' a w := by
  unfold wpOpIn
  simp only [ho, hw, if_true]
  exact Oper.wpIn_mono (fun a' w' => by rintro ⟨v, rfl, hv⟩; exact hk v w' hv) (h Q)
theorem step_sound_text {i : Nat} {o : Oper} {a : Act} {E : Env} {w : World} {Kh : Env → World → Held → Prop} {rest : List Nat} {Q : Exit → Act → World → Prop}
    (hn : opsOk n ops = true) (ho : ops[i]? = some o) (ha : Ag n a E) (hwant : Region.wanted o (yielded ops a.tmps) = true) (h : stepVC P ops false i o E w [] Kh)
    (next : ∀ a' E' w', Ag n a' E' → Kh E' w' [] → wpOpsIn (FW n) 0 P ops Q rest a' w') : wpOpsIn (FW n) 0 P ops Q (i :: rest) a w := by
  have hsel := Region.noSelect_spec (ops := ops) (by unfold opsOk at hn; rw [Bool.and_eq_true] at hn; exact hn.1)
  rw [wpOpsIn_cons]
  unfold stepVC at h
  cases hc : calm P o with
  | true =>
    rw [hc] at h
    simp only [cond_true, cond_false] at h
    obtain ⟨v, Ss, hk, hs1, hs2⟩ := calmVC_sound (fun cs b => hsel i o cs b ho) ha h
    refine wpOpIn_eff (Kv := fun v' w' => v' = v ∧ w' = w) ho hwant ?_ ?_
    · refine Acts.in (opsOk_defer hn ho) fun Q' => ?_
      unfold Oper.wp
      rw [hs2 w hs1]
      exact ⟨v, rfl, rfl, rfl⟩
    · rintro v' w' ⟨rfl, rfl⟩
      exact next _ _ _ (ha.put _ (opsOk_dst hn ho)) hk
  | false =>
    rw [hc] at h
    simp only [cond_false, heldBy, andL, dropH] at h
    exact wpOpIn_eff ho hwant (effVCy_sound (fun cs b => hsel i o cs b ho) (opsOk_defer hn ho) ha h) fun v w' hv => next _ _ _ (ha.put v (opsOk_dst hn ho)) hv

theorem run_sound_text (hn : opsOk n ops = true) : ∀ (l : List Nat) (E : Env) (w : World) (a : Act), Ag n a E → runVC P ops false K l E w [] → wpOpsIn (FW n) 0 P ops (RegPost n K) l a w
  | [], E, w, a, ha, h => ⟨E, ha, h⟩
  | i :: l, E, w, a, ha, h => by
    unfold runVC at h
    cases ho : ops[i]? with
    | none => rw [ho] at h; exact h.elim
    | some o =>
      rw [ho] at h
      simp only at h
      have next : ∀ a' E' w', Ag n a' E' → runVC P ops false K l E' w' [] → wpOpsIn (FW n) 0 P ops (RegPost n K) l a' w' := fun a' E' w' hA hR => run_sound_text hn l E' w' a' hA hR
      cases hg : o.guard with
      | none =>
        rw [hg] at h
        simp only at h
        exact step_sound_text (Kh := fun E' w' H' => runVC P ops false K l E' w' H') hn ho ha (by simp [Region.wanted, hg]) h next
      | some jw =>
        obtain ⟨j, want⟩ := jw
        rw [hg] at h
        simp only at h
        cases hd : gslot ops j with
        | none => rw [hd] at h; exact h.elim
        | some d =>
          rw [hd] at h
          simp only at h
          split at h
          · rename_i t ht
            have hy := yielded_of ha hd ht
            have hg' : guardVC P ops false i o d want t E w [] fun E' w' H' => runVC P ops false K l E' w' H' := by
              cases t
              · exact h
              · exact h
            unfold guardVC at hg'
            cases hb : (t == want) with
            | true =>
              rw [hb] at hg'
              exact step_sound_text (Kh := fun E' w' H' => runVC P ops false K l E' w' H') hn ho (ha.same ht) (by simp [Region.wanted, hg, hy]; simpa using hb) hg' next
            | false =>
              rw [hb] at hg'
              simp only [cond_false] at hg'
              have hH0 : (bif calm P o then ([] : Held) else dropH ops i []) = [] := by cases calm P o <;> rfl
              rw [hH0] at hg'
              rw [wpOpsIn_cons]
              unfold wpOpIn
              have hw : Region.wanted o (yielded ops a.tmps) = false := by simp [Region.wanted, hg, hy]; simpa using hb
              simp only [ho, hw]
              exact ⟨fun _ _ => trivial, next _ _ _ ((ha.same ht).put undef (opsOk_dst hn ho)) hg'⟩
          · rename_i vs ht
            have hy := yielded_tuple ha hd ht
            have hH0 : (bif calm P o then ([] : Held) else dropH ops i []) = [] := by cases calm P o <;> rfl
            rw [hH0] at h
            rw [wpOpsIn_cons]
            unfold wpOpIn
            have hw : Region.wanted o (yielded ops a.tmps) = false := by simp [Region.wanted, hg, hy]
            simp only [ho, hw]
            exact ⟨fun _ _ => trivial, next _ _ _ (ha.put undef (opsOk_dst hn ho)) h⟩
          · exact h.elim

/-- **A region.** -/
theorem wp_region_text {c : Code} {id : Nat} {a : Act} {E : Env} {w : World} (hc : c = .region id ops false) (hn : opsOk n ops = true) (ha : Ag n a E)
    (h : runVC P ops false K (List.range ops.size) E w []) : c.wpIn (FW n) 0 P (RegPost n K) a w := by
  subst hc
  exact wpIn_region (run_sound_text hn _ E w a ha h)
theorem wpOps_in (hn : opsOk n ops = true) {Q : Exit → Act → World → Prop} (hQ : ¬ LetsOut Q) : ∀ (l : List Nat) (a : Act) (w : World), wpOps P ops Q l a w → wpOpsIn (FW n) 0 P ops Q l a w
  | [], a, w, h => h
  | i :: l, a, w, h => by
    rw [wpOps_cons] at h
    rw [wpOpsIn_cons]
    unfold wpOp at h
    unfold wpOpIn
    cases ho : ops[i]? with
    | none => rw [ho] at h; exact wpOps_in hn hQ l a w h
    | some o =>
      rw [ho] at h
      simp only at h ⊢
      split
      · rename_i hw
        rw [if_pos hw] at h
        rcases h with h | h
        · exact Oper.wpIn_mono (fun a' w' h' => wpOps_in hn hQ l a' w' h') (wp_in (opsOk_defer hn ho) h)
        · exact absurd h.2 hQ
      · rename_i hw
        rw [if_neg hw] at h
        exact ⟨fun _ _ => trivial, wpOps_in hn hQ l _ w h⟩
theorem wp_region_order {c : Code} {id : Nat} {a : Act} {E : Env} {w : World} {l : List Nat} (hm : P.follows .mixedOrders = true) (hc : c = .region id ops true) (hn : opsOk n ops = true)
    (hl : okOrder P ops l (Array.replicate ops.size false) = true) (hsz : l.length = ops.size) (ha : Ag n a E) (h : runVC P ops true K l E w.drew []) : c.wpIn (FW n) 0 P (RegPost n K) a w := by
  subst hc
  have h1 := run_sound_draw hn l _ E _ [] a hl ha (fun p hp => (by cases hp)) h
  rw [hsz] at h1
  have h2 := wpAny_of_helds _ [] _ _ _ (Down.zero _ _) h1
  refine wpIn_region_draw fun t => ?_
  refine wpOps_in hn (fun ⟨_, _, h⟩ => h) _ _ _ ?_
  simp only [Region.schedule, hm, Bool.true_or, if_true]
  exact wpAny_sound ops.size t _ a _ h2
end

/-! ### Code -/
section
variable {P : Program} {n : Cx}

def Code.isRegion : Code → Bool → Bool
  | .region _ _ d, b => d == b
  | _, _ => false
def Code.ops : Code → Array Oper
  | .region _ ops _ => ops
  | _ => #[]
def Code.fst : Code → Code
  | .seq a _ => a
  | .cond _ a _ => a
  | .block _ a => a
  | .loop a => a
  | .scope a => a
  | c => c
def Code.snd : Code → Code
  | .seq _ b => b
  | .cond _ _ b => b
  | c => c
def Code.asn : Code → Code
  | .rangeFunc _ _ a _ => a
  | c => c
def Code.bdy : Code → Code
  | .rangeFunc _ _ _ b => b
  | c => c
/-- a code at an environment -/
abbrev wpx (P : Program) (n : Cx) (c : Code) (Q : Exit → Act → World → Prop) (a : Act) (w : World) : Prop := c.wpIn (FW n) 0 P Q a w
def WP (P : Program) (n : Cx) (c : Code) (Q : Exit → Act → World → Prop) (E : Env) (w : World) : Prop := ∀ a, Ag n a E → wpx P n c Q a w

theorem WP.region {c : Code} {Q : Exit → Act → World → Prop} {E : Env} {w : World} {ops : Array Oper} {id : Nat} (K : Env → World → Prop) (hc : c = .region id ops false) (hn : opsOk n ops = true)
    (h : runVC P ops false K (List.range ops.size) E w []) (hk : ∀ E' w' a', Ag n a' E' → K E' w' → Q .normal a' w') : WP P n c Q E w := fun a ha =>
  wpIn_mono (wp_region_text hc hn ha h) fun e a' w' he => by
    cases e with
    | normal => obtain ⟨E', hA, hK⟩ := he; exact hk E' w' a' hA hK
    | _ => exact he.elim
theorem WP.regionD {c : Code} {Q : Exit → Act → World → Prop} {E : Env} {w : World} {ops : Array Oper} {id : Nat} {l : List Nat} (K : Env → World → Prop) (hm : P.follows .mixedOrders = true) (hc : c = .region id ops true) (hn : opsOk n ops = true)
    (hl : okOrder P ops l (Array.replicate ops.size false) = true) (hsz : l.length = ops.size)
    (h : runVC P ops true K l E w.drew []) (hk : ∀ E' w' a', Ag n a' E' → K E' w' → Q .normal a' w') : WP P n c Q E w := fun a ha =>
  wpIn_mono (wp_region_order hm hc hn hl hsz ha h) fun e a' w' he => by
    cases e with
    | normal => obtain ⟨E', hA, hK⟩ := he; exact hk E' w' a' hA hK
    | _ => exact he.elim
/-- what the kernel is asked of a region, at once -/
def regT (n : Nat) (c : Code) : Bool := match c with | .region _ ops d => !d && opsOk n ops | _ => false
def regD (P : Program) (n : Nat) (c : Code) (l : List Nat) : Bool := match c with
  | .region _ ops d => d && (P.follows .mixedOrders && (opsOk n ops && (okOrder P ops l (Array.replicate ops.size false) && Nat.beq l.length ops.size)))
  | _ => false
theorem WP.reg {c : Code} {Q : Exit → Act → World → Prop} {E : Env} {w : World} (K : Env → World → Prop) (hc : regT n c = true)
    (h : runVC P (Code.ops c) false K (List.range (Code.ops c).size) E w []) (hk : ∀ E' w' a', Ag n a' E' → K E' w' → Q .normal a' w') : WP P n c Q E w := by
  unfold regT at hc
  split at hc
  · rename_i id ops d
    rw [Bool.and_eq_true] at hc
    obtain ⟨h1, h2⟩ := hc
    have h3 : d = false := by simpa using h1
    subst h3
    exact WP.region K rfl h2 h hk
  · cases hc
theorem WP.draw {c : Code} {Q : Exit → Act → World → Prop} {E : Env} {w : World} (l : List Nat) (K : Env → World → Prop) (hc : regD P n c l = true)
    (h : runVC P (Code.ops c) true K l E w.drew []) (hk : ∀ E' w' a', Ag n a' E' → K E' w' → Q .normal a' w') : WP P n c Q E w := by
  unfold regD at hc
  split at hc
  · rename_i id ops d
    simp only [Bool.and_eq_true] at hc
    obtain ⟨rfl, h2, h3, h4, h5⟩ := hc
    rw [Nat.beq_eq] at h5
    exact WP.regionD K h2 rfl h3 h4 h5 h hk
  · cases hc
theorem WP.at {c : Code} {Q : Exit → Act → World → Prop} {E : Env} {w : World} {a : Act} (h : WP P n c Q E w) (ha : Ag n a E) : wpx P n c Q a w := h a ha
theorem WP.seq {c x y : Code} {Q : Exit → Act → World → Prop} {E : Env} {w : World} (hc : c = .seq x y) (h : WP P n x (Exit.then (wpx P n y Q) Q) E w) : WP P n c Q E w := fun a ha => by
  subst hc; exact wpIn_seq (h a ha)
theorem WP.cond {c x y : Code} {o : Operand} {Q : Exit → Act → World → Prop} {E : Env} {w : World} {t : Bool} (hc : c = .cond o x y) (ho : E.val o = some (.bool t)) (h : sel t (WP P n x Q E w) (WP P n y Q E w)) : WP P n c Q E w := fun a ha => by
  subst hc
  refine wpIn_cond_split (ha.val ho) (fun ht => ?_) (fun ht => ?_)
  · subst ht; exact h a ha
  · subst ht; exact h a ha
def condK (v : Option Value) (A B : Prop) : Prop := match v with | some (.bool t) => sel t A B | _ => False
theorem WP.condK {c x y : Code} {o : Operand} {Q : Exit → Act → World → Prop} {E : Env} {w : World} {A B : Prop} (hc : c = .cond o x y) (h1 : A → WP P n x Q E w) (h2 : B → WP P n y Q E w) (h : condK (E.val o) A B) : WP P n c Q E w := by
  unfold W.condK at h
  split at h
  · rename_i t ht
    refine WP.cond hc ht ?_
    cases t
    · exact h2 h
    · exact h1 h
  · exact h.elim
theorem WP.block {c x : Code} {id : Nat} {Q : Exit → Act → World → Prop} {E : Env} {w : World} (hc : c = .block id x) (h : WP P n x (Exit.inBlock id Q) E w) : WP P n c Q E w := fun a ha => by
  subst hc; exact wpIn_block (h a ha)
theorem WP.skip {c : Code} {Q : Exit → Act → World → Prop} {E : Env} {w : World} (hc : c = .skip) (h : ∀ a, Ag n a E → Q .normal a w) : WP P n c Q E w := fun a ha => by
  subst hc; exact wpIn_skip (h a ha)
theorem WP.exit {c : Code} {id : Nat} {Q : Exit → Act → World → Prop} {E : Env} {w : World} (hc : c = .exit id) (h : ∀ a, Ag n a E → Q (.exit id) a w) : WP P n c Q E w := fun a ha => by
  subst hc; exact wpIn_exit (h a ha)
theorem WP.ret {c : Code} {Q : Exit → Act → World → Prop} {E : Env} {w : World} (hc : c = .ret) (h : ∀ a, Ag n a E → Q .ret a w) : WP P n c Q E w := fun a ha => by
  subst hc; exact wpIn_ret (h a ha)

/-- a loop from the head of a round on -/
def LoopWP (P : Program) (n : Cx) (c : Code) (Q : Exit → Act → World → Prop) (a : Act) (w : World) : Prop :=
  ∀ (b : Frame) (k : List Item) (cs : List Frame), b.roundOf = n.ro → ∃ e a' w', Q e a' w' ∧ ArrivesIn (Machine.fenced P (FW n)) P (lone (b.atR a (.code c :: .inLoop c :: k)) cs w) b k cs e a' w'
theorem room_FW (n : Cx) (m : Nat) : (FW n).room m := room_wide m
theorem wp_of_loopWP {c : Code} {Q : Exit → Act → World → Prop} {a : Act} {w : World} (h : LoopWP P n c Q a w) : wpx P n (Code.loop c) Q a w := fun b k cs hro hb hr => by
  obtain ⟨e, a', w', hq, harr⟩ := h b k cs hro
  exact ⟨e, a', w', hq, .of_steps (.one (fenced_calm hb hr rfl) stepR_loop) harr⟩
theorem loopWP_step {c : Code} {Q : Exit → Act → World → Prop} {a : Act} {w : World} (h : wpx P n c (Exit.then (LoopWP P n c Q) Q) a w) : LoopWP P n c Q a w := by
  intro b k cs hro
  have hb : (FW n).fn b.fn := trivial
  have hr : (FW n).room (cs.length + 1 + 0) := room_FW n _
  obtain ⟨e, a₁, w₁, hq, harr⟩ := h b (.inLoop c :: k) cs hro hb hr
  cases e with
  | normal =>
    obtain ⟨e₂, a₂, w₂, hq₂, harr₂⟩ := hq b k cs hro
    exact ⟨e₂, a₂, w₂, hq₂, .of_steps (StepsIn.trans harr (.one (fenced_calm hb hr rfl) stepR_inLoop)) harr₂⟩
  | exit id => exact ⟨_, a₁, w₁, hq, .pass (x := .inLoop c) rfl (fun _ _ => .inl (by simp)) harr⟩
  | goto l => exact ⟨_, a₁, w₁, hq, .pass (x := .inLoop c) rfl (fun _ _ => .inl (by simp)) harr⟩
  | ret => exact ⟨_, a₁, w₁, hq, .pass (x := .inLoop c) rfl (fun _ _ => .inl (by simp)) harr⟩
  | panic ch => exact ⟨_, a₁, w₁, hq, .pass (x := .inLoop c) rfl (fun _ _ => .inl (by simp)) harr⟩
  | outgrown => exact ⟨_, a₁, w₁, hq, .pass (x := .inLoop c) rfl (fun _ _ => .inl (by simp)) harr⟩
/-- the loop at an environment -/
def LP (P : Program) (n : Cx) (c : Code) (Q : Exit → Act → World → Prop) (E : Env) (w : World) : Prop := ∀ a, Ag n a E → LoopWP P n c Q a w
theorem WP.loop {c x : Code} {Q : Exit → Act → World → Prop} {E : Env} {w : World} (hc : c = .loop x) (h : LP P n x Q E w) : WP P n c Q E w := fun a ha => by
  subst hc; exact wp_of_loopWP (h a ha)
theorem LP.step {c : Code} {Q : Exit → Act → World → Prop} {E : Env} {w : World} (h : WP P n c (Exit.then (LoopWP P n c Q) Q) E w) : LP P n c Q E w := fun a ha => loopWP_step (h a ha)

/-! ### The end of a body -/
def packR : List Value → Value
  | [v] => v
  | vs => .tuple vs.toArray
def retGo (P : Program) (E : Env) (w : World) : List ResultVar → (List Value → Prop) → Prop
  | [], K => K []
  | .tmp t :: l, K => match E.get? t with
    | some v => retGo P E w l fun vs => K (v :: vs)
    | none => False
  | .cell x T :: l, K => match E.get? x with
    | some (.pointer (some p)) => ldVC P T p w fun v _ => retGo P E w l fun vs => K (v :: vs)
    | _ => False
/-- what a body returns -/
def retVC (P : Program) (fn : Func) (E : Env) (w : World) (K : Value → Prop) : Prop := retGo P E w fn.results.toList fun vs => K (packR vs)

def resOf (tmps : Array Value) : ResultVar → Sem Value
  | .tmp t => pure (tmps.getD t undef)
  | .cell a t => do loadVar t (← asAddr (tmps.getD a undef))
theorem results_eq (fn : Func) (tmps : Array Value) : results fn tmps = (do let vs ← fn.results.mapM (resOf tmps); pure (if h : vs.size = 1 then vs[0] else .tuple vs)) := by
  unfold results
  congr 1

theorem retGo_sound {a : Act} {E : Env} (ha : Ag n a E) (w : World) : ∀ {l : List ResultVar} {K : List Value → Prop}, retGo P E w l K →
    ∃ vs, (l.mapM (resOf a.tmps)).run P w = .ok vs w ∧ K vs
  | [], K, h => ⟨[], by simp, h⟩
  | .tmp t :: l, K, h => by
    unfold retGo at h
    split at h
    · rename_i v hv
      obtain ⟨vs, hr, hk⟩ := retGo_sound ha w h
      refine ⟨v :: vs, ?_, hk⟩
      have hg := ha.get t v hv
      simp [List.mapM_cons, resOf, hr, hg]
    · exact h.elim
  | .cell x T :: l, K, h => by
    unfold retGo at h
    split at h
    · rename_i p hp
      obtain ⟨v, S, h, hs1, hs2⟩ := ldVC_sound h
      obtain ⟨vs, hr, hk⟩ := retGo_sound ha w h
      refine ⟨v :: vs, ?_, hk⟩
      have hg := ha.get x _ hp
      simp [List.mapM_cons, resOf, hr, hg, asAddr, hs2 w hs1]
    · exact h.elim

theorem retVC_run {fn : Func} {a : Act} {E : Env} {w : World} {R : Ending → World → Prop} (ha : Ag n a E) (h : retVC P fn E w fun v => R (.returned v) w) :
    ∃ v, (results fn a.tmps).run P w = .ok v w ∧ R (.returned v) w := by
  obtain ⟨vs, hr, hk⟩ := retGo_sound ha w h
  refine ⟨_, ?_, hk⟩
  rw [results_eq, ← Array.toArray_toList (xs := fn.results), List.mapM_toArray]
  simp only [Sem.run_bind, Sem.run_map, hr, Result.andThen_ok, Sem.run_pure]
  congr 1
  cases vs with
  | nil => rfl
  | cons v vs => cases vs <;> rfl

theorem retVC_sound {m : Nat} {fn : Func} {a : Act} {E : Env} {w : World} {R : Ending → World → Prop} (ha : Ag (cx m) a E) (h : retVC P fn E w fun v => R (.returned v) w) :
    a.defers = [] ∧ ∃ v, (results fn a.tmps).run P w = .ok v w ∧ R (.returned v) w := ⟨ha.defers, retVC_run ha h⟩

/-- a function -/
theorem calls_of_WP {f : FuncId} {fn : Func} {c : Code} {args : Array Value} {w : World} {R : Ending → World → Prop} {E : Env} (hf : P.funcs[f]? = some fn) (hb : fn.body = some c) (hsz : args.size ≤ fn.ntmps)
    (hE : ∀ t v, E.get? t = some v → args[t]? = some v) (h : WP P (cx fn.ntmps) c (bodyPost P fn R) E w) : Calls P f args w R := by
  refine calls_of_wp hf hb (wpIn_wide.1 (h _ ⟨rfl, by simp; omega, ?_⟩))
  intro t v ht
  have := hE t v ht
  have hlt : t < args.size := by
    rcases Nat.lt_or_ge t args.size with h' | h'
    · exact h'
    · rw [Array.getElem?_eq_none h'] at this; cases this
  rw [Array.getElem?_append_left hlt]
  exact this

def envOf : Nat → List Value → Env
  | _, [] => []
  | i, v :: l => (i, v) :: envOf (i + 1) l
theorem envOf_get : ∀ (l : List Value) (i t : Nat) (v : Value), (envOf i l).get? t = some v → i ≤ t ∧ l[t - i]? = some v
  | [], _, _, _, h => by simp [envOf, Env.get?] at h
  | u :: l, i, t, v, h => by
    simp only [envOf, Env.get?] at h
    by_cases e : i = t
    · subst e; simp at h; subst h; simp
    · have hb : Nat.beq i t = false := by rw [← Bool.not_eq_true, Nat.beq_eq]; exact e
      simp only [hb, cond_false] at h
      obtain ⟨h1, h2⟩ := envOf_get l (i + 1) t v h
      refine ⟨by omega, ?_⟩
      rw [show t - i = (t - (i + 1)) + 1 by omega]
      simpa using h2
theorem calls_of_WP' {f : FuncId} {fn : Func} {c : Code} {args : List Value} {w : World} {R : Ending → World → Prop} (hf : P.funcs[f]? = some fn) (hb : fn.body = some c) (hsz : Nat.ble args.length fn.ntmps = true)
    (h : WP P (cx fn.ntmps) c (bodyPost P fn R) (envOf 0 args) w) : Calls P f args.toArray w R :=
  calls_of_WP hf hb (by simpa using Nat.le_of_ble_eq_true hsz) (fun t v ht => by
    have := (envOf_get args 0 t v ht).2
    simpa using this) h
/-! ### Reading an environment -/
def asInt (k : IntKind) (v : Option Value) (K : Int → Prop) : Prop := match v with | some (.int k' n) => AndT (k' == k) (K n) | _ => False
theorem asInt_elim {k : IntKind} {v : Option Value} {K : Int → Prop} (h : asInt k v K) : ∃ n, v = some (.int k n) ∧ K n := by
  unfold asInt at h
  split at h
  · obtain ⟨h1, h2⟩ := AndT_elim h
    have h3 := eq_of_beq h1
    subst h3
    exact ⟨_, rfl, h2⟩
  · exact h.elim
def asBool' (v : Option Value) (K : Bool → Prop) : Prop := match v with | some (.bool b) => K b | _ => False
theorem asBool_elim {v : Option Value} {K : Bool → Prop} (h : asBool' v K) : ∃ b, v = some (.bool b) ∧ K b := by
  unfold asBool' at h
  split at h
  · exact ⟨_, rfl, h⟩
  · exact h.elim
def asStr (v : Option Value) (K : ByteArray → Prop) : Prop := match v with | some (.string b) => K b | _ => False
theorem asStr_elim {v : Option Value} {K : ByteArray → Prop} (h : asStr v K) : ∃ b, v = some (.string b) ∧ K b := by
  unfold asStr at h
  split at h
  · exact ⟨_, rfl, h⟩
  · exact h.elim
def asSlice (v : Option Value) (K : Sl → Prop) : Prop := match v with | some (.slice a n c) => K ⟨a, n, c⟩ | _ => False
theorem asSlice_elim {v : Option Value} {K : Sl → Prop} (h : asSlice v K) : ∃ s : Sl, v = some s.v ∧ K s := by
  unfold asSlice at h
  split at h
  · exact ⟨⟨_, _, _⟩, rfl, h⟩
  · exact h.elim
def asFn (v : Option Value) (K : Fv → Prop) : Prop := match v with | some (.func (.func n) bs cs) => K ⟨n, bs, cs⟩ | _ => False
theorem asFn_elim {v : Option Value} {K : Fv → Prop} (h : asFn v K) : ∃ f : Fv, v = some f.v ∧ K f := by
  unfold asFn at h
  split at h
  · exact ⟨_, rfl, h⟩
  · exact h.elim
def asPtr (v : Option Value) (K : Option Addr → Prop) : Prop := match v with | some (.pointer a) => K a | _ => False
theorem asPtr_elim {v : Option Value} {K : Option Addr → Prop} (h : asPtr v K) : ∃ a, v = some (.pointer a) ∧ K a := by
  unfold asPtr at h
  split at h
  · exact ⟨_, rfl, h⟩
  · exact h.elim
def asRef (v : Option Value) (K : Addr → Prop) : Prop := match v with | some (.pointer (some a)) => K a | _ => False
theorem asRef_elim {v : Option Value} {K : Addr → Prop} (h : asRef v K) : ∃ a, v = some (.pointer (some a)) ∧ K a := by
  unfold asRef at h
  split at h
  · exact ⟨_, rfl, h⟩
  · exact h.elim
def asMap (v : Option Value) (K : Option Nat → Prop) : Prop := match v with | some (.map a) => K a | _ => False
theorem asMap_elim {v : Option Value} {K : Option Nat → Prop} (h : asMap v K) : ∃ a, v = some (.map a) ∧ K a := by
  unfold asMap at h
  split at h
  · exact ⟨_, rfl, h⟩
  · exact h.elim
def asVal (v : Option Value) (K : Value → Prop) : Prop := match v with | some x => K x | _ => False
theorem asVal_elim {v : Option Value} {K : Value → Prop} (h : asVal v K) : ∃ a, v = some a ∧ K a := by
  unfold asVal at h
  split at h
  · exact ⟨_, rfl, h⟩
  · exact h.elim
def asAgg (v : Option Value) (K : List Value → Prop) : Prop := match v with | some (.agg cs) => K cs.toList | _ => False
theorem asAgg_elim {v : Option Value} {K : List Value → Prop} (h : asAgg v K) : ∃ cs : List Value, v = some (.agg cs.toArray) ∧ K cs := by
  unfold asAgg at h
  split at h
  · exact ⟨_, rfl, h⟩
  · exact h.elim
def asFunc (f : FuncId) (v : Option Value) (K : List Value → List Value → Prop) : Prop := match v with | some (.func (.func g) fs cs) => AndT (Nat.beq g f) (K fs.toList cs.toList) | _ => False
theorem asFunc_elim {f : FuncId} {v : Option Value} {K : List Value → List Value → Prop} (h : asFunc f v K) : ∃ fs cs : List Value, v = some (.func (.func f) fs.toArray cs.toArray) ∧ K fs cs := by
  unfold asFunc at h
  split at h
  · obtain ⟨h1, h2⟩ := AndT_elim h
    rw [Nat.beq_eq] at h1
    subst h1
    exact ⟨_, _, rfl, h2⟩
  · exact h.elim
def asTuple (v : Option Value) (K : List Value → Prop) : Prop := match v with | some (.tuple cs) => K cs.toList | _ => False
theorem asTuple_elim {v : Option Value} {K : List Value → Prop} (h : asTuple v K) : ∃ cs : List Value, v = some (.tuple cs.toArray) ∧ K cs := by
  unfold asTuple at h
  split at h
  · exact ⟨_, rfl, h⟩
  · exact h.elim
def asCons (l : List Value) (K : Value → List Value → Prop) : Prop := match l with | v :: r => K v r | [] => False
theorem asCons_elim {l : List Value} {K : Value → List Value → Prop} (h : asCons l K) : ∃ v r, l = v :: r ∧ K v r := by
  cases l with
  | nil => exact h.elim
  | cons v r => exact ⟨v, r, rfl, h⟩
def asNil (l : List Value) (K : Prop) : Prop := match l with | [] => K | _ => False
theorem asNil_elim {l : List Value} {K : Prop} (h : asNil l K) : l = [] ∧ K := by
  cases l with
  | nil => exact ⟨rfl, h⟩
  | cons v r => exact h.elim
end
/-! ### Words that the printed conditions use -/
def bAnd (k : IntKind) (x y : Int) : Int := k.wrap ((BitVec.ofInt k.bits x &&& BitVec.ofInt k.bits y).toNat : Int)
def bOr (k : IntKind) (x y : Int) : Int := k.wrap ((BitVec.ofInt k.bits x ||| BitVec.ofInt k.bits y).toNat : Int)
def bXor (k : IntKind) (x y : Int) : Int := k.wrap ((BitVec.ofInt k.bits x ^^^ BitVec.ofInt k.bits y).toNat : Int)
/-! ### Regions whose effects have no order among them: a tree of the orders -/
inductive Tr where
  | nil
  | one (i : Nat) (t : Tr)
  | fork (a b : Tr)
def Tr.heads : Tr → List Nat
  | .nil => []
  | .one i _ => [i]
  | .fork a b => a.heads ++ b.heads
def Tr.len : Tr → Nat
  | .nil => 0
  | .one _ t => t.len + 1
  | .fork a _ => a.len
def headVC (P : Program) (ops : Array Oper) (i : Nat) (E : Env) (w : World) (H : Held) (Kn : Env → World → Held → Prop) : Prop :=
  match ops[i]? with
  | none => False
  | some o => match o.guard with
    | none => stepVC P ops true i o E w H Kn
    | some (j, want) => match gslot ops j with
      | none => False
      | some d => match E.get? d with
        | some (.bool t) => sel t (guardVC P ops true i o d want true E w H Kn) (guardVC P ops true i o d want false E w H Kn)
        | some (.tuple _) => Kn (Env.put E o.dst undef) w (bif calm P o then H else dropH ops i H)
        | _ => False
def treeVC (P : Program) (ops : Array Oper) (K : Env → World → Prop) : Tr → Env → World → Held → Prop
  | .nil, E, w, _ => K E w
  | .one i t, E, w, H => headVC P ops i E w H fun E' w' H' => treeVC P ops K t E' w' H'
  | .fork a b, E, w, H => treeVC P ops K a E w H ∧ treeVC P ops K b E w H
def okTree (P : Program) (ops : Array Oper) : Tr → Bool → Array Bool → Bool
  | .nil, alt, listed => !alt && (Region.ready .any ops listed).isEmpty
  | .one i t, alt, listed => (match ops[i]? with
      | some o => bif alt then !calm P o else bif calm P o then Region.free .any ops listed i && (Region.ready .any ops listed).contains i else Region.ready .any ops listed == [i]
      | none => false) && okTree P ops t false (listed.setIfInBounds i true)
  | .fork a b, alt, listed => (alt || Region.ready .any ops listed == (Tr.fork a b).heads) && (Nat.beq a.len b.len && (okTree P ops a true listed && okTree P ops b true listed))

section
variable {P : Program} {ops : Array Oper} {n : Cx} {K : Env → World → Prop}
theorem step_op {i : Nat} {o : Oper} {a : Act} {E : Env} {w : World} {H : Held} {Kh : Env → World → Held → Prop} {listed : Array Bool} {fuel : Nat} {Q : Exit → Act → World → Prop}
    (hn : opsOk n ops = true) (ho : ops[i]? = some o) (hc : calm P o = false) (ha : Ag n a E) (hwant : Region.wanted o (yielded ops a.tmps) = true)
    (h : stepVC P ops true i o E w H Kh)
    (next : ∀ a' E' w' H', Ag n a' E' → (∀ p ∈ H', p.2 w') → Kh E' w' H' → wpAnyHs P ops Q fuel H' (listed.setIfInBounds i true) a' w') :
    wpOp P ops Q i (fun a' w' => (∀ p ∈ dropH ops i H, p.2 w') ∧ wpAnyHs P ops Q fuel (dropH ops i H) (listed.setIfInBounds i true) a' w') a w := by
  have hsel := Region.noSelect_spec (ops := ops) (by unfold opsOk at hn; rw [Bool.and_eq_true] at hn; exact hn.1)
  unfold stepVC at h
  rw [hc] at h
  simp only [cond_false, cond_true] at h
  refine wpOp_eff ho hwant (effVC_sound (fun cs b => hsel i o cs b ho) ha h) fun v w' hv => ?_
  obtain ⟨h1, h2⟩ := andL_elim hv
  have hH' : ∀ p ∈ dropH ops i H, p.2 w' := fun p hp => h1 _ (heldBy_of (mem_dropH.1 hp).1 (mem_dropH.1 hp).2)
  exact ⟨hH', next _ _ _ _ (ha.put v (opsOk_dst hn ho)) hH' h2⟩
theorem skip_op {i : Nat} {o : Oper} {a : Act} {w : World} {H : Held} {listed : Array Bool} {fuel : Nat} {Q : Exit → Act → World → Prop}
    (ho : ops[i]? = some o) (hH : ∀ p ∈ H, p.2 w) (hwant : Region.wanted o (yielded ops a.tmps) = false)
    (next : wpAnyHs P ops Q fuel (dropH ops i H) (listed.setIfInBounds i true) (a.put o.dst undef) w) :
    wpOp P ops Q i (fun a' w' => (∀ p ∈ dropH ops i H, p.2 w') ∧ wpAnyHs P ops Q fuel (dropH ops i H) (listed.setIfInBounds i true) a' w') a w := by
  unfold wpOp
  simp only [ho, hwant]
  exact ⟨fun p hp => hH p (mem_dropH.1 hp).1, next⟩

/-- the head of a path, by itself -/
theorem head_any (hn : opsOk n ops = true) {i : Nat} {o : Oper} {E : Env} {w : World} {H : Held} {a : Act} {Kn : Env → World → Held → Prop} {listed : Array Bool} {fuel : Nat} (ho : ops[i]? = some o)
    (hok : (bif calm P o then Region.free .any ops listed i && (Region.ready .any ops listed).contains i else Region.ready .any ops listed == [i]) = true) (ha : Ag n a E) (hH : ∀ p ∈ H, p.2 w) (h : headVC P ops i E w H Kn)
    (next : ∀ a' E' w' H', Ag n a' E' → (∀ p ∈ H', p.2 w') → Kn E' w' H' → wpAnyHs P ops (RegPost n K) fuel H' (listed.setIfInBounds i true) a' w') : wpAnyHs P ops (RegPost n K) (fuel + 1) H listed a w := by
  unfold headVC at h
  rw [ho] at h
  simp only at h
  cases hg : o.guard with
  | none =>
    rw [hg] at h
    simp only at h
    exact step_sound_draw hn ho hok (fun _ _ _ => rfl) ha hH (by simp [Region.wanted, hg]) h next
  | some jw =>
    obtain ⟨j, want⟩ := jw
    rw [hg] at h
    simp only at h
    cases hd : gslot ops j with
    | none => rw [hd] at h; exact h.elim
    | some d =>
      rw [hd] at h
      simp only at h
      split at h
      · rename_i t ht
        have hy := yielded_of ha hd ht
        have hg' : guardVC P ops true i o d want t E w H Kn := by
          cases t
          · exact h
          · exact h
        unfold guardVC at hg'
        cases hb : (t == want) with
        | true =>
          rw [hb] at hg'
          exact step_sound_draw hn ho hok (fun _ _ _ => rfl) (ha.same ht) hH (by simp [Region.wanted, hg, hy]; simpa using hb) hg' next
        | false =>
          rw [hb] at hg'
          simp only [cond_false] at hg'
          refine skip_sound_draw hn ho hok (fun _ _ _ => rfl) hH (by simp [Region.wanted, hg, hy]; simpa using hb) ?_
          refine next _ _ _ _ ((ha.same ht).put undef (opsOk_dst hn ho)) ?_ hg'
          intro p hp
          cases hcc : calm P o
          · rw [hcc] at hp; exact hH p (mem_dropH.1 hp).1
          · rw [hcc] at hp; exact hH p hp
      · rename_i vs ht
        have hy := yielded_tuple ha hd ht
        refine skip_sound_draw hn ho hok (fun _ _ _ => rfl) hH (by simp [Region.wanted, hg, hy]) ?_
        refine next _ _ _ _ (ha.put undef (opsOk_dst hn ho)) ?_ h
        intro p hp
        cases hcc : calm P o
        · rw [hcc] at hp; exact hH p (mem_dropH.1 hp).1
        · rw [hcc] at hp; exact hH p hp
      · exact h.elim
/-- the head of a path, one of several -/
theorem head_op (hn : opsOk n ops = true) {i : Nat} {o : Oper} {E : Env} {w : World} {H : Held} {a : Act} {Kn : Env → World → Held → Prop} {listed : Array Bool} {fuel : Nat} (ho : ops[i]? = some o)
    (hc : calm P o = false) (ha : Ag n a E) (hH : ∀ p ∈ H, p.2 w) (h : headVC P ops i E w H Kn)
    (next : ∀ a' E' w' H', Ag n a' E' → (∀ p ∈ H', p.2 w') → Kn E' w' H' → wpAnyHs P ops (RegPost n K) fuel H' (listed.setIfInBounds i true) a' w') :
    wpOp P ops (RegPost n K) i (fun a' w' => (∀ p ∈ dropH ops i H, p.2 w') ∧ wpAnyHs P ops (RegPost n K) fuel (dropH ops i H) (listed.setIfInBounds i true) a' w') a w := by
  unfold headVC at h
  rw [ho] at h
  simp only at h
  have hHd : ∀ p ∈ dropH ops i H, p.2 w := fun p hp => hH p (mem_dropH.1 hp).1
  cases hg : o.guard with
  | none =>
    rw [hg] at h
    simp only at h
    exact step_op hn ho hc ha (by simp [Region.wanted, hg]) h next
  | some jw =>
    obtain ⟨j, want⟩ := jw
    rw [hg] at h
    simp only at h
    cases hd : gslot ops j with
    | none => rw [hd] at h; exact h.elim
    | some d =>
      rw [hd] at h
      simp only at h
      split at h
      · rename_i t ht
        have hy := yielded_of ha hd ht
        have hg' : guardVC P ops true i o d want t E w H Kn := by
          cases t
          · exact h
          · exact h
        unfold guardVC at hg'
        cases hb : (t == want) with
        | true =>
          rw [hb] at hg'
          exact step_op hn ho hc (ha.same ht) (by simp [Region.wanted, hg, hy]; simpa using hb) hg' next
        | false =>
          rw [hb, hc] at hg'
          simp only [cond_false] at hg'
          exact skip_op ho hH (by simp [Region.wanted, hg, hy]; simpa using hb) (next _ _ _ _ ((ha.same ht).put undef (opsOk_dst hn ho)) hHd hg')
      · rename_i vs ht
        have hy := yielded_tuple ha hd ht
        rw [hc] at h
        simp only [cond_false] at h
        exact skip_op ho hH (by simp [Region.wanted, hg, hy]) (next _ _ _ _ (ha.put undef (opsOk_dst hn ho)) hHd h)
      · exact h.elim
theorem tree_len : ∀ (t : Tr) (listed : Array Bool), okTree P ops t true listed = true → ∃ m, t.len = m + 1
  | .nil, listed, h => by simp [okTree] at h
  | .one i t, listed, _ => ⟨t.len, rfl⟩
  | .fork a b, listed, h => by
    unfold okTree at h
    simp only [Bool.and_eq_true] at h
    exact tree_len a listed h.2.2.1
theorem tree_heads : ∀ (t : Tr) (listed : Array Bool), okTree P ops t true listed = true → t.heads ≠ []
  | .nil, listed, h => by simp [okTree] at h
  | .one i t, listed, _ => by simp [Tr.heads]
  | .fork a b, listed, h => by
    unfold okTree at h
    simp only [Bool.and_eq_true] at h
    have := tree_heads a listed h.2.2.1
    simp [Tr.heads, this]
theorem tree_sound (hn : opsOk n ops = true) : ∀ (t : Tr) (alt : Bool) (listed : Array Bool) (E : Env) (w : World) (H : Held) (a : Act) (m : Nat), okTree P ops t alt listed = true → Ag n a E → (∀ p ∈ H, p.2 w) → treeVC P ops K t E w H →
    (alt = false → t.len = m → wpAnyHs P ops (RegPost n K) m H listed a w) ∧
    (alt = true → t.len = m + 1 → ∀ i ∈ t.heads, wpOp P ops (RegPost n K) i (fun a' w' => (∀ p ∈ dropH ops i H, p.2 w') ∧ wpAnyHs P ops (RegPost n K) m (dropH ops i H) (listed.setIfInBounds i true) a' w') a w)
  | .nil, alt, listed, E, w, H, a, m, hok, ha, hH, h => by
    unfold okTree at hok
    rw [Bool.and_eq_true] at hok
    refine ⟨fun _ hm => ?_, fun e => ?_⟩
    · subst hm
      exact fun _ => ⟨by simpa using hok.2, E, ha, h⟩
    · subst e; simp at hok
  | .one i t, alt, listed, E, w, H, a, m, hok, ha, hH, h => by
    unfold okTree at hok
    rw [Bool.and_eq_true] at hok
    obtain ⟨hok, hrest⟩ := hok
    cases ho : ops[i]? with
    | none => rw [ho] at hok; cases hok
    | some o =>
      rw [ho] at hok
      simp only at hok
      unfold treeVC at h
      refine ⟨fun e hm => ?_, fun e hm j hj => ?_⟩
      · subst e hm
        exact head_any hn ho hok ha hH h fun a' E' w' H' hA hHH hR => (tree_sound hn t false _ E' w' H' a' _ hrest hA hHH hR).1 rfl rfl
      · subst e
        rw [cond_true] at hok
        obtain rfl := List.mem_singleton.1 hj
        have hm' : t.len = m := by simpa [Tr.len] using hm
        exact head_op hn ho (by simpa using hok) ha hH h fun a' E' w' H' hA hHH hR => (tree_sound hn t false _ E' w' H' a' _ hrest hA hHH hR).1 rfl hm'
  | .fork x y, alt, listed, E, w, H, a, m, hok, ha, hH, h => by
    unfold okTree at hok
    simp only [Bool.and_eq_true] at hok
    obtain ⟨hr, hl, hx, hy⟩ := hok
    rw [Nat.beq_eq] at hl
    unfold treeVC at h
    have both : ∀ k, x.len = k + 1 → ∀ i ∈ (Tr.fork x y).heads, wpOp P ops (RegPost n K) i (fun a' w' => (∀ p ∈ dropH ops i H, p.2 w') ∧ wpAnyHs P ops (RegPost n K) k (dropH ops i H) (listed.setIfInBounds i true) a' w') a w := fun k hk i hi => by
      rcases List.mem_append.1 hi with hi | hi
      · exact (tree_sound hn x true listed E w H a k hx ha hH h.1).2 rfl hk i hi
      · exact (tree_sound hn y true listed E w H a k hy ha hH h.2).2 rfl (hl ▸ hk) i hi
    refine ⟨fun e hm => ?_, fun _ hm => both m hm⟩
    subst e
    obtain ⟨k, hk⟩ := tree_len x listed hx
    have hm' : m = k + 1 := by rw [← hm, ← hk]; rfl
    subst hm'
    have hr' : Region.ready .any ops listed = (Tr.fork x y).heads := by simpa using hr
    have hne : (Tr.fork x y).heads ≠ [] := by have := tree_heads x listed hx; simp [Tr.heads, this]
    exact fun _ => ⟨fun h0 => absurd (hr' ▸ h0) hne, fun i hi => both k hk i (hr' ▸ hi)⟩
theorem wp_region_tree {c : Code} {id : Nat} {a : Act} {E : Env} {w : World} {t : Tr} (hm : P.follows .mixedOrders = true) (hc : c = .region id ops true) (hn : opsOk n ops = true)
    (hl : okTree P ops t false (Array.replicate ops.size false) = true) (hsz : t.len = ops.size) (ha : Ag n a E) (h : treeVC P ops K t E w.drew []) : c.wpIn (FW n) 0 P (RegPost n K) a w := by
  subst hc
  have h1 := (tree_sound hn t false _ E _ [] a _ hl ha (fun p hp => (by cases hp)) h).1 rfl hsz
  have h2 := wpAny_of_helds _ [] _ _ _ (Down.zero _ _) h1
  refine wpIn_region_draw fun t => ?_
  refine wpOps_in hn (fun ⟨_, _, h⟩ => h) _ _ _ ?_
  simp only [Region.schedule, hm, Bool.true_or, if_true]
  exact wpAny_sound ops.size t _ a _ h2
def regTr (P : Program) (n : Nat) (c : Code) (t : Tr) : Bool := match c with
  | .region _ ops d => d && (P.follows .mixedOrders && (opsOk n ops && (okTree P ops t false (Array.replicate ops.size false) && Nat.beq t.len ops.size)))
  | _ => false
theorem WP.tree {c : Code} {Q : Exit → Act → World → Prop} {E : Env} {w : World} (t : Tr) (K : Env → World → Prop) (hc : regTr P n c t = true)
    (h : treeVC P (Code.ops c) K t E w.drew []) (hk : ∀ E' w' a', Ag n a' E' → K E' w' → Q .normal a' w') : WP P n c Q E w := by
  unfold regTr at hc
  split at hc
  · rename_i id ops d
    simp only [Bool.and_eq_true] at hc
    obtain ⟨rfl, h2, h3, h4, h5⟩ := hc
    rw [Nat.beq_eq] at h5
    exact fun a ha => wpIn_mono (wp_region_tree h2 rfl h3 h4 h5 ha h) fun e a' w' he => by
      cases e with
      | normal => obtain ⟨E', hA, hK⟩ := he; exact hk E' w' a' hA hK
      | _ => exact he.elim
  · cases hc
end

/-! ### Loops over functions -/
section
variable {P : Program}
/-- the record of a loop -/
def lo (r : Loop) (st : LoopState) (pe : Option Code) : Obj := .loop { r with state := st, pending := pe }
structure RecOf (r : Loop) (m : Nat) (ps : Array Tmp) (assign body : Code) (E : Env) : Prop where
  ps : r.params = ps
  assign : r.assign = assign
  body : r.body = body
  size : r.tmps.size = m
  get : ∀ t v, E.get? t = some v → r.tmps[t]? = some v
def putL : Env → List Nat → List Value → Env
  | E, p :: ps, v :: vs => putL ((p, v) :: E) ps vs
  | E, _, _ => E
theorem putL_ag {m l : Nat} : ∀ (ps : List Nat) (vs : List Value) (E : Env) (tmps : Array Value), tmps.size = m → (∀ p ∈ ps, p < m) → (∀ t v, E.get? t = some v → tmps[t]? = some v) →
    Ag ⟨m, [], some l⟩ { tmps := (ps.zip vs).foldl (fun t (p, v) => t.setIfInBounds p v) tmps, defers := [] } (putL E ps vs)
  | [], vs, E, tmps, hs, _, hE => ⟨rfl, by simpa using hs, by cases vs <;> simpa [putL] using hE⟩
  | p :: ps, [], E, tmps, hs, _, hE => ⟨rfl, by simpa using hs, by simpa [putL] using hE⟩
  | p :: ps, v :: vs, E, tmps, hs, hp, hE => by
    simp only [List.zip_cons_cons, List.foldl_cons, putL]
    refine putL_ag ps vs _ _ (by simpa using hs) (fun q hq => hp q (by simp [hq])) ?_
    have := (Ag.put (n := ⟨m, [], some l⟩) (a := { tmps := tmps, defers := [] }) (E := E) ⟨rfl, hs, hE⟩ (d := some p) v (fun t ht => by cases ht; exact hp p (by simp))).get
    simpa [Env.put, Act.put] using this
def yieldB (P : Program) (l : Nat) (args : Array Value) (w : World) (K : Bool → World → Prop) : Prop :=
  YieldAt Fence.wide 0 P l args w fun e w' => ∃ b : Bool, e = .returned (.bool b) ∧ K b w'
/-- between the assignment to the loop's variables and its body -/
def QAssign (P : Program) (m l : Nat) (r : Loop) (body : Code) (Q : Exit → Act → World → Prop) : Exit → Act → World → Prop :=
  Exit.then (fun a₁ w₁ => w₁.heap[l]? = some (lo r .ready none) ∧ wpx P ⟨m, [], some l⟩ body Q a₁ (w₁.putObj l (lo r .busy none))) (fun _ _ _ => False)
/-- a round -/
theorem yield_of {m l : Nat} {r : Loop} {ps : Array Tmp} {assign body : Code} {E : Env} {args : List Value} {w : World} {R : Ending → World → Prop} {K : Bool → World → Prop} (hr : RecOf r m ps assign body E) (hl : w.heap[l]? = some (lo r .ready none))
    (hsz : args.length = ps.size) (hlt : ps.toList.all (fun p => Nat.blt p m) = true) (hK : ∀ e w', R e w' → ∃ b : Bool, e = .returned (.bool b) ∧ K b w')
    (h : WP P ⟨m, [], some l⟩ assign (QAssign P m l r body (roundPost P l R)) (putL E ps.toList args) w) : yieldB P l args.toArray w K := by
  have hrun := run_yield (P := P) (w := w) (args := args.toArray) hl (by simp [hr.ps, hsz])
  refine ⟨_, _, _, _, hrun, RoundIn.mono (roundIn_of_wpIn (R := R) trivial ?_) hK⟩
  simp only [lo, hr.ps, hr.assign, hr.body]
  have hag : Ag ⟨m, [], some l⟩ { tmps := (ps.zip args.toArray).foldl (fun t (p, v) => t.setIfInBounds p v) r.tmps, defers := [] } (putL E ps.toList args) := by
    have := putL_ag (m := m) (l := l) ps.toList args E r.tmps hr.size (fun p hp => by simpa using List.all_eq_true.1 hlt p hp) hr.get
    rw [← Array.foldl_toList]
    simpa using this
  refine wpIn_mono (h _ hag) fun e a' w' he => ?_
  cases e with
  | normal =>
    obtain ⟨h1, h2⟩ := he
    exact ⟨_, run_beginRound h1 rfl, h2⟩
  | _ => exact he.elim
theorem round_end {l : Nat} {r : Loop} {a : Act} {w : World} {R : Ending → World → Prop} (hl : w.heap[l]? = some (lo r .busy none)) (h : R (.returned (.bool true)) (w.putObj l (lo r .ready none))) : roundPost P l R .normal a w :=
  ⟨_, _, run_endRound none hl, h⟩
theorem round_ret {l : Nat} {r : Loop} {a : Act} {w : World} {R : Ending → World → Prop} (hl : w.heap[l]? = some (lo r .busy none)) (h : R (.returned (.bool false)) (w.putObj l (lo r .done (some .ret)))) : roundPost P l R .ret a w :=
  ⟨_, _, run_endRound (some .ret) hl, h⟩
abbrev marked (m D : Nat) : Cx := ⟨m, [{ target := .collected D, args := #[] }], none⟩
/-- what follows a loop, by the way in which it was left -/
def RangeEnd (w2 : World) (l : Nat) (o : LoopState → Option Code → Obj) (N : World → Prop) (X : Nat → World → Prop) (T : World → Prop) : Prop :=
  (w2.heap[l]? = some (o .ready none) ∧ N (w2.putObj l (o .exhausted none))) ∨
  (∃ id, w2.heap[l]? = some (o .done (some (.exit id))) ∧ X id (w2.putObj l (o .exhausted (some (.exit id))))) ∨
  (w2.heap[l]? = some (o .done (some .ret)) ∧ T (w2.putObj l (o .exhausted (some .ret))))
theorem WP.range {m : Nat} {c : Code} {g : Operand} {ps : Array Tmp} {assign body : Code} {gf : Nat} {lb : Array Value} {Q : Exit → Act → World → Prop} {E : Env} {w : World} (N : World → Prop) (X : Nat → World → Prop) (T : World → Prop)
    (hc : c = .rangeFunc g ps assign body) (hg : E.val g = some (.func (.func gf) #[] lb)) (hca : callable P gf = true)
    (hN : ∀ w', N w' → ∀ a, Ag (marked m w.heap.size) a E → Q .normal a w') (hX : ∀ id w', X id w' → ∀ a, Ag (marked m w.heap.size) a E → Q (.exit id) a w') (hT : ∀ w', T w' → ∀ a, Ag (marked m w.heap.size) a E → Q .ret a w')
    (h : ∀ r : Loop, RecOf r m ps assign body E → Calls P gf (#[.func (.yield (w.heap.size + 1)) #[] #[]] ++ lb) ((w.alloc (.deferred (some []))).alloc (lo r .ready none)) fun e w2 => (∃ v, e = .returned v) ∧ RangeEnd w2 (w.heap.size + 1) (lo r) N X T) :
    WP P (cx m) c Q E w := by
  subst hc
  intro a ha
  have hag : Ag (marked m w.heap.size) { a with defers := [{ target := .collected w.heap.size, args := #[] }] ++ a.defers } E := ⟨by show _ ++ a.defers = _; rw [ha.defers]; rfl, ha.size, ha.get⟩
  have hgv : a.eval g = .func (.func gf) #[] lb := ha.val hg
  refine wpIn_rangeFunc (F := FW (cx m)) (n := 0) fun fn _ => ?_
  obtain ⟨r, hr⟩ : ∃ r : Loop, r = { state := .ready, pending := none, fn, tmps := a.tmps, params := ps, assign, body, defers := w.heap.size } := ⟨_, rfl⟩
  have hrec : RecOf r m ps assign body E := by subst hr; exact ⟨rfl, rfl, rfl, ha.size, ha.get⟩
  have hcall := h r hrec
  have e1 : (Instr.enterLoop fn a.tmps ps assign body none).run P w = .ok (w.heap.size + 1, [{ target := .collected w.heap.size, args := #[] }]) ((w.alloc (.deferred (some []))).alloc (lo r .ready none)) := by
    rw [run_enterLoop_outer]; subst hr; rfl
  generalize hW1 : (w.alloc (.deferred (some []))).alloc (lo r .ready none) = W1 at *
  have e2 : (resolve a.eval (rangeCall g (w.heap.size + 1)) 0).run P W1 = .ok { target := .fn (.func gf) lb, args := #[.func (.yield (w.heap.size + 1)) #[] #[]] } W1 := by
    simp only [resolve, hgv]
    simp [go_sem]
  have e3 : (invoke (.fn (.func gf) lb) #[.func (.yield (w.heap.size + 1)) #[] #[]]).run P W1 = .ok (.enter gf (#[.func (.yield (w.heap.size + 1)) #[] #[]] ++ lb)) W1 := by
    simp [invoke, go_sem, callable_spec hca]
  have e4 : CallsIn (FW (cx m)) 0 P gf (#[.func (.yield (w.heap.size + 1)) #[] #[]] ++ lb) W1 (rangePost (FW (cx m)) 0 P (w.heap.size + 1) Q { a with defers := [{ target := .collected w.heap.size, args := #[] }] ++ a.defers }) := by
    refine callsIn_FW (n := cx m) (hcall.mono ?_)
    rintro e w2 ⟨⟨v, rfl⟩, hend⟩
    rcases hend with ⟨h1, h2⟩ | ⟨id, h1, h2⟩ | ⟨h1, h2⟩
    · exact ⟨_, _, run_endLoop (r := { r with state := .ready, pending := none }) h1 (by simp), hN _ h2 _ hag⟩
    · exact ⟨_, _, run_endLoop (r := { r with state := .done, pending := some (.exit id) }) h1 (by simp), wpIn_exit (hX id _ h2 _ hag)⟩
    · exact ⟨_, _, run_endLoop (r := { r with state := .done, pending := some .ret }) h1 (by simp), wpIn_ret (hT _ h2 _ hag)⟩
  exact ⟨_, _, _, _, _, _, _, _, e1, e2, fun _ _ => trivial, e3, fun h => (by cases h), e4⟩
/-- the end of a function with such a loop -/
def retVCm (P : Program) (fn : Func) (E : Env) (w : World) (D : Nat) (R : Post) : Prop :=
  w.heap[D]? = some (.deferred (some [])) ∧ retVC P fn E (w.putObj D (.deferred none)) fun v => R (.returned v) (w.putObj D (.deferred none))
theorem leaves_nil {fn : Func} {tmps : Array Value} {R : Ending → World → Prop} {w : World} {v : Value} (h : (results fn tmps).run P w = .ok v w) (hr : R (.returned v) w) : LeavesInM Fence.wide 0 P fn tmps R [] .returning w := by
  show LeavesIn _ _ _ _ _ _ _ _ _
  simp only [LeavesIn]
  exact ⟨v, h, hr⟩
theorem retM_sound {m : Nat} {fn : Func} {a : Act} {E : Env} {w : World} {R : Post} (ha : Ag (cx m) a E) (h : retVC P fn E w fun v => R (.returned v) w) : LeavesInM Fence.wide 0 P fn a.tmps R a.defers .returning w := by
  obtain ⟨v, h1, h2⟩ := retVC_run ha h
  rw [ha.defers]
  exact leaves_nil h1 h2
theorem retVCm_sound {m D : Nat} {fn : Func} {a : Act} {E : Env} {w : World} {R : Post} (ha : Ag (marked m D) a E) (h : retVCm P fn E w D R) : LeavesInM Fence.wide 0 P fn a.tmps R a.defers .returning w := by
  obtain ⟨h0, h⟩ := h
  obtain ⟨v, h1, h2⟩ := retVC_run (n := marked m D) ha h
  rw [ha.defers]
  exact ⟨by simp, .inl ⟨D, _, rfl, run_takeDeferred h0, leaves_nil h1 h2⟩⟩
theorem calls_of_WPM {f : FuncId} {fn : Func} {c : Code} {args : List Value} {w : World} {R : Ending → World → Prop} (hf : P.funcs[f]? = some fn) (hb : fn.body = some c) (hsz : Nat.ble args.length fn.ntmps = true)
    (h : WP P (cx fn.ntmps) c (bodyPostM Fence.wide 0 P fn R) (envOf 0 args) w) : Calls P f args.toArray w R := by
  have hs := Nat.le_of_ble_eq_true hsz
  refine callsIn_wide.1 (callsIn_of_wp_marks (n := 0) hf hb trivial (h _ ⟨rfl, by simp; omega, ?_⟩))
  intro t v ht
  have := (envOf_get args 0 t v ht).2
  have hlt : t < args.length := (List.getElem?_eq_some_iff.1 this).1
  rw [Array.getElem?_append_left (by simpa using hlt)]
  simpa using this
def asYield (v : Option Value) (K : Nat → Prop) : Prop := match v with | some (.func (.yield l) fs cs) => AndT (Nat.beq fs.size 0 && Nat.beq cs.size 0) (K l) | _ => False
theorem asYield_elim {v : Option Value} {K : Nat → Prop} (h : asYield v K) : ∃ l, v = some (.func (.yield l) #[] #[]) ∧ K l := by
  unfold asYield at h
  split at h
  · rename_i l fs cs
    obtain ⟨hb, hk⟩ := AndT_elim h
    simp only [Bool.and_eq_true, Nat.beq_eq] at hb
    have e1 : fs = #[] := Array.eq_empty_of_size_eq_zero hb.1
    have e2 : cs = #[] := Array.eq_empty_of_size_eq_zero hb.2
    subst e1 e2
    exact ⟨l, rfl, hk⟩
  · exact h.elim
end

/-! ### Short names -/
abbrev _root_.Go.Code.sn (c : Code) : Code := Code.snd c
abbrev _root_.Go.Code.fs (c : Code) : Code := Code.fst c
abbrev _root_.Go.Value.i (x : Int) : Value := .int .i64 x
abbrev _root_.Go.Value.u (x : Int) : Value := .int .u64 x
abbrev _root_.Go.Value.s0 : Value := .string (ByteArray.mk #[])
abbrev nb (w : World) : Addr := ⟨w.heap.size, 0, none⟩
/-! ### Statements within one another -/
section
variable {P : Program} {n : Cx} {Q : Exit → Act → World → Prop} {E : Env} {w : World} {K : Env → World → Prop}
def rgK (P : Program) (c : Code) (K : Env → World → Prop) (E : Env) (w : World) : Prop := runVC P (Code.ops c) false K (List.range (Code.ops c).size) E w []
def dgK (P : Program) (c : Code) (l : List Nat) (K : Env → World → Prop) (E : Env) (w : World) : Prop := runVC P (Code.ops c) true K l E w.drew []
def tgK (P : Program) (c : Code) (t : Tr) (K : Env → World → Prop) (E : Env) (w : World) : Prop := treeVC P (Code.ops c) K t E w.drew []
abbrev srK (P : Program) (c : Code) (K : Env → World → Prop) (E : Env) (w : World) : Prop := rgK P (Code.fst c) K E w
abbrev sdK (P : Program) (c : Code) (l : List Nat) (K : Env → World → Prop) (E : Env) (w : World) : Prop := dgK P (Code.fst c) l K E w
abbrev stK (P : Program) (c : Code) (t : Tr) (K : Env → World → Prop) (E : Env) (w : World) : Prop := tgK P (Code.fst c) t K E w
def isSeq : Code → Bool
  | .seq _ _ => true
  | _ => false
theorem seq_of {c : Code} (h : isSeq c = true) : c = .seq (Code.fst c) (Code.snd c) := by cases c <;> first | rfl | cases h
theorem and_of {a b : Bool} (h : (a && b) = true) : a = true ∧ b = true := by simpa using h
theorem rg (c : Code) (hc : regT n c = true) (h : rgK P c K E w) (hk : ∀ E' w' a', Ag n a' E' → K E' w' → Q .normal a' w') : WP P n c Q E w := WP.reg K hc h hk
theorem sr (c : Code) (h : srK P c K E w) (hk : ∀ E' w', K E' w' → WP P n (Code.snd c) Q E' w') (hc : (isSeq c && regT n (Code.fst c)) = true := by kernel_rfl) : WP P n c Q E w :=
  WP.seq (seq_of (and_of hc).1) (WP.reg K (and_of hc).2 h fun E' w' a' hA hK => hk E' w' hK a' hA)
theorem sd (c : Code) {l : List Nat} (hc : (isSeq c && regD P n (Code.fst c) l) = true) (h : sdK P c l K E w) (hk : ∀ E' w', K E' w' → WP P n (Code.snd c) Q E' w') : WP P n c Q E w :=
  WP.seq (seq_of (and_of hc).1) (WP.draw l K (and_of hc).2 h fun E' w' a' hA hK => hk E' w' hK a' hA)
theorem st (c : Code) {t : Tr} (hc : (isSeq c && regTr P n (Code.fst c) t) = true) (h : stK P c t K E w) (hk : ∀ E' w', K E' w' → WP P n (Code.snd c) Q E' w') : WP P n c Q E w :=
  WP.seq (seq_of (and_of hc).1) (WP.tree t K (and_of hc).2 h fun E' w' a' hA hK => hk E' w' hK a' hA)
theorem sq (c : Code) (h : WP P n (Code.fst c) (Exit.then (wpx P n (Code.snd c) Q) Q) E w) (hc : isSeq c = true := by kernel_rfl) : WP P n c Q E w := WP.seq (seq_of hc) h
theorem bk (c : Code) (id : Nat) (hc : c = .block id (Code.fst c)) (h : WP P n (Code.fst c) (Exit.inBlock id Q) E w) : WP P n c Q E w := WP.block hc h
theorem cn (c : Code) {o : Operand} {A B : Prop} (h : condK (E.val o) A B) (h1 : A → WP P n (Code.fst c) Q E w) (h2 : B → WP P n (Code.snd c) Q E w) (hc : c = .cond o (Code.fst c) (Code.snd c) := by kernel_rfl) : WP P n c Q E w := WP.condK hc h1 h2 h
theorem sk (c : Code) (h : ∀ a, Ag n a E → Q .normal a w) (hc : c = .skip := by kernel_rfl) : WP P n c Q E w := WP.skip hc h
theorem xt (c : Code) (id : Nat) (hc : c = .exit id) (h : ∀ a, Ag n a E → Q (.exit id) a w) : WP P n c Q E w := WP.exit hc h
theorem rt (c : Code) (h : ∀ a, Ag n a E → Q .ret a w) (hc : c = .ret := by kernel_rfl) : WP P n c Q E w := WP.ret hc h
theorem lp (c : Code) (hc : c = .loop (Code.fst c)) (h : LP P n (Code.fst c) Q E w) : WP P n c Q E w := WP.loop hc h
theorem nx {c : Code} {a : Act} (ha : Ag n a E) (h : WP P n c Q E w) : Exit.then (wpx P n c Q) Q .normal a w := h a ha
end
end Go.W
namespace Go.W
open Go.RowKit

/-! ### Frames -/
structure Fr (M : Nat → Prop) (w w' : World) : Prop where
  os : w'.os = w.os
  tape : w'.tape = w.tape
  output : w'.output = w.output
  size : w.heap.size ≤ w'.heap.size
  keep : ∀ b, b < w.heap.size → ¬ M b → w'.heap[b]? = w.heap[b]?

theorem Fr.refl (M : Nat → Prop) (w : World) : Fr M w w := ⟨rfl, rfl, rfl, Nat.le_refl _, fun _ _ _ => rfl⟩
theorem Fr.trans {M M' : Nat → Prop} {a b c : World} (h : Fr M a b) (k : Fr M' b c) (hm : ∀ x, x < a.heap.size → M' x → M x) : Fr M a c :=
  ⟨k.os.trans h.os, k.tape.trans h.tape, k.output.trans h.output, Nat.le_trans h.size k.size,
    fun x hx hn => (k.keep x (Nat.lt_of_lt_of_le hx h.size) (fun e => hn (hm x hx e))).trans (h.keep x hx hn)⟩
theorem Fr.mono {M M' : Nat → Prop} {a b : World} (h : Fr M a b) (hm : ∀ x, x < a.heap.size → M x → M' x) : Fr M' a b :=
  ⟨h.os, h.tape, h.output, h.size, fun x hx hn => h.keep x hx (fun e => hn (hm x hx e))⟩
theorem Fr.drew (M : Nat → Prop) (w : World) : Fr M w w.drew := ⟨rfl, rfl, rfl, Nat.le_refl _, fun _ _ _ => rfl⟩
theorem Fr.alloc (M : Nat → Prop) (w : World) (o : Obj) : Fr M w (w.alloc o) := ⟨rfl, rfl, rfl, by simp, fun k hk _ => _root_.Go.heap_alloc_old w o k hk⟩
theorem Fr.set {M : Nat → Prop} (w : World) (p : Addr) (v : Value) (h : M p.block) : Fr M w (w.setCell p v) :=
  ⟨rfl, rfl, rfl, by simp [World.setCell], fun k _ hn => Below.heap_setCell w p v k (fun e => hn (e ▸ h))⟩
theorem Fr.grown {M : Nat → Prop} {w w' : World} {r : Option Nat} (h : w.grownBy w' r) (hm : ∀ b, r = some b → M b) : Fr M w w' :=
  ⟨h.os, h.tape, h.output, h.size, fun b hb hn => h.block b hb (fun e => hn (hm b e.symm))⟩
theorem Fr.setObj {M : Nat → Prop} (w : World) (r : Nat) (o : Obj) (h : M r) : Fr M w { w with heap := w.heap.setIfInBounds r o } :=
  ⟨rfl, rfl, rfl, by simp, fun k _ hn => by
    have : r ≠ k := fun e => hn (e ▸ h)
    simp [Array.getElem?_setIfInBounds_ne this]⟩
theorem Fr.below {w w' : World} (h : Fr (fun _ => False) w w') : Below w.heap.size w w' := ⟨h.os, h.tape, h.output, h.size, fun k hk => h.keep k hk (fun e => e)⟩
theorem Fr.at {M : Nat → Prop} {w w' : World} (h : Fr M w w') {b : Nat} {o : Obj} (hb : w.heap[b]? = some o) (hn : ¬ M b) : w'.heap[b]? = some o :=
  (h.keep b (Array.getElem?_eq_some_iff.1 hb).1 hn).trans hb
theorem lt_of_heap {w : World} {b : Nat} {o : Obj} (hb : w.heap[b]? = some o) : b < w.heap.size := (Array.getElem?_eq_some_iff.1 hb).1
theorem heap_new (w : World) (o : Obj) : (w.alloc o).heap[w.heap.size]? = some o := _root_.Go.heap_alloc_new w o
theorem size_alloc (w : World) (o : Obj) : (w.alloc o).heap.size = w.heap.size + 1 := by simp

/-! ### Cells of a block -/
theorem cellAt {w : World} {p : Addr} {cs : Array Value} {T : TypeId} {f : Nat × Nat} {i : Nat} {v : Value} (h : w.heap[p.block]? = some (.cells cs T f)) (hs : p.spot = none) (hi : cs[p.off + i]? = some v) :
    w.cell? (p.add i) = some v := by
  unfold Addr.add
  split
  · rename_i h0
    subst h0
    simp [World.cell?, h, hs]
    simpa using hi
  · simp [World.cell?, h, hi]
theorem frozenAt {w : World} {p : Addr} {cs : Array Value} {T : TypeId} {i : Nat} (h : w.heap[p.block]? = some (.cells cs T (0, 0))) : w.frozen? (p.add i) = false := by
  unfold Addr.add
  split <;> simp [World.frozen?, h]
theorem setAt {w : World} {p : Addr} {cs : Array Value} {T : TypeId} {f : Nat × Nat} {i : Nat} {v : Value} (h : w.heap[p.block]? = some (.cells cs T f)) (hs : p.spot = none) :
    (w.setCell (p.add i) v).heap[p.block]? = some (.cells (cs.setIfInBounds (p.off + i) v) T f) := by
  have hb : (p.add i).block = p.block := by unfold Addr.add; split <;> rfl
  have hsp : (p.add i).spot = none := by unfold Addr.add; split <;> simp [hs]
  have ho : (p.add i).off = p.off + i := by unfold Addr.add; split <;> simp_all
  simp [World.setCell, hb, h, hsp, ho, Array.getElem?_modify]
theorem add_block (p : Addr) (i : Nat) : (p.add i).block = p.block := by unfold Addr.add; split <;> rfl

/-! ### Rows -/
def blkL (s : Sl) : List Nat := match s.a with | some p => [p.block] | none => []
/-- the cells of a slice, from its first on -/
def Row (w : World) (T : TypeId) (s : Sl) (vs : List Value) : Prop :=
  (s.a = none ∧ s.n = 0 ∧ s.c = 0 ∧ vs = []) ∨ ∃ b o cs f, s.a = some ⟨b, o, none⟩ ∧ w.heap[b]? = some (.cells cs T f) ∧ ∀ i v, vs[i]? = some v → cs[o + i]? = some v
theorem Row.nil (w : World) (T : TypeId) : Row w T ⟨none, 0, 0⟩ [] := .inl ⟨rfl, rfl, rfl, rfl⟩
theorem Row.keep {w w' : World} {T : TypeId} {s : Sl} {vs : List Value} (h : Row w T s vs) (hk : ∀ b ∈ blkL s, b < w.heap.size → w'.heap[b]? = w.heap[b]?) : Row w' T s vs := by
  rcases h with h | ⟨b, o, cs, f, ha, hb, hc⟩
  · exact .inl h
  · exact .inr ⟨b, o, cs, f, ha, (hk b (by simp [blkL, ha]) (lt_of_heap hb)).trans hb, hc⟩
theorem Row.fr {M : Nat → Prop} {w w' : World} {T : TypeId} {s : Sl} {vs : List Value} (h : Row w T s vs) (hf : Fr M w w') (hn : ∀ b ∈ blkL s, ¬ M b) : Row w' T s vs :=
  h.keep fun b hb hl => hf.keep b hl (hn b hb)
theorem Row.lt {w : World} {T : TypeId} {s : Sl} {vs : List Value} (h : Row w T s vs) : ∀ b ∈ blkL s, b < w.heap.size := by
  rcases h with ⟨ha, _⟩ | ⟨b, o, cs, f, ha, hb, hc⟩
  · simp [blkL, ha]
  · simp [blkL, ha]; exact lt_of_heap hb
/-- the address of an element -/
theorem Row.cell {w : World} {T : TypeId} {s : Sl} {vs : List Value} {i : Nat} {v : Value} (h : Row w T s vs) (hi : vs[i]? = some v) : ∃ p, s.a = some p ∧ w.cell? (p.add i) = some v := by
  rcases h with ⟨_, _, _, rfl⟩ | ⟨b, o, cs, f, ha, hb, hc⟩
  · cases hi
  · exact ⟨_, ha, cellAt (p := ⟨b, o, none⟩) hb rfl (hc i v hi)⟩
theorem Row.optP {w : World} {T : TypeId} {s : Sl} {vs : List Value} {i : Nat} {v : Value} {K : Addr → Prop} (h : Row w T s vs) (hi : vs[i]? = some v) (hk : ∀ p, s.a = some p → (∀ (j : Nat) (u : Value), vs[j]? = some u → w.cell? (p.add j) = some u) → K p) : W.optP s.a K := by
  rcases h with ⟨_, _, _, rfl⟩ | ⟨b, o, cs, f, ha, hb, hc⟩
  · cases hi
  · rw [ha]
    exact hk _ ha fun j u hj => cellAt (p := ⟨b, o, none⟩) hb rfl (hc j u hj)
/-- a row that may be appended to -/
def OwnRow (w : World) (e : TypeId) (sz : Nat) (s : Sl) (xs : List Value) : Prop := w.ownsRow 0 e sz s.v s.n xs
theorem OwnRow.nil (w : World) (e : TypeId) (sz : Nat) : OwnRow w e sz ⟨none, 0, 0⟩ [] := World.ownsRow_nil w 0 e sz
theorem OwnRow.len {w : World} {e : TypeId} {sz : Nat} {s : Sl} {xs : List Value} (h : OwnRow w e sz s xs) : xs.length = s.n * sz := h.1
theorem OwnRow.cases {w : World} {e : TypeId} {sz : Nat} {s : Sl} {xs : List Value} (h : OwnRow w e sz s xs) :
    (s = ⟨none, 0, 0⟩ ∧ xs = []) ∨ ∃ g cur, s.a = some ⟨g, 0, none⟩ ∧ w.heap[g]? = some (.cells cur e (0, 0)) ∧ s.n ≤ s.c ∧ s.c ≤ maxLen ∧ cur.size = s.c * sz ∧ cur.toList.take (s.n * sz) = xs := by
  obtain ⟨a, n, c⟩ := s
  obtain ⟨hl, h⟩ := h
  rcases h with ⟨h1, h2⟩ | ⟨g, cap, cur, h1, _, h2, h3, h4, h5, h6⟩
  · cases h1
    exact .inl ⟨rfl, List.eq_nil_of_length_eq_zero (by simpa using hl)⟩
  · cases h1
    exact .inr ⟨g, cur, rfl, h2, h3, h4, h5, h6⟩
theorem OwnRow.row {w : World} {e : TypeId} {sz : Nat} {s : Sl} {xs : List Value} (h : OwnRow w e sz s xs) : Row w e s xs := by
  rcases h.cases with ⟨rfl, rfl⟩ | ⟨g, cur, ha, hg, _, _, _, ht⟩
  · exact .inl ⟨rfl, rfl, rfl, rfl⟩
  · refine .inr ⟨g, 0, cur, (0, 0), ha, hg, fun i v hi => ?_⟩
    rw [← ht, List.getElem?_take] at hi
    split at hi
    · simpa using hi
    · cases hi
theorem OwnRow.keep {w w' : World} {e : TypeId} {sz : Nat} {s : Sl} {xs : List Value} (h : OwnRow w e sz s xs) (hk : ∀ b ∈ blkL s, b < w.heap.size → w'.heap[b]? = w.heap[b]?) : OwnRow w' e sz s xs := by
  obtain ⟨hl, h⟩ := h
  refine ⟨hl, ?_⟩
  rcases h with h | ⟨g, cap, cur, h1, h2, h3, r⟩
  · exact .inl h
  · have ha : s.a = some ⟨g, 0, none⟩ := (Value.slice.inj h1).1
    exact .inr ⟨g, cap, cur, h1, h2, (hk g (by simp [blkL, ha]) (lt_of_heap h3)).trans h3, r⟩
theorem OwnRow.fr {M : Nat → Prop} {w w' : World} {e : TypeId} {sz : Nat} {s : Sl} {xs : List Value} (h : OwnRow w e sz s xs) (hf : Fr M w w') (hn : ∀ b ∈ blkL s, ¬ M b) : OwnRow w' e sz s xs :=
  h.keep fun b hb hl => hf.keep b hl (hn b hb)
theorem OwnRow.lt {w : World} {e : TypeId} {sz : Nat} {s : Sl} {xs : List Value} (h : OwnRow w e sz s xs) : ∀ b ∈ blkL s, b < w.heap.size := h.row.lt
/-- a literal that was just made -/
theorem OwnRow.made (w : World) (e : TypeId) (sz n : Nat) (cs : List Value) (hc : cs.length = n * sz) (hn : n ≤ maxLen) : OwnRow (w.alloc (.cells cs.toArray e)) e sz ⟨some ⟨w.heap.size, 0, none⟩, n, n⟩ cs :=
  ⟨hc, .inr ⟨w.heap.size, n, cs.toArray, rfl, Nat.zero_le _, heap_new w _, Nat.le_refl _, hn, by simpa using hc, by rw [← hc]; simp⟩⟩
theorem Row.made (w : World) (e : TypeId) (n c : Nat) (cs : List Value) : Row (w.alloc (.cells cs.toArray e)) e ⟨some ⟨w.heap.size, 0, none⟩, n, c⟩ cs :=
  .inr ⟨w.heap.size, 0, cs.toArray, (0, 0), rfl, heap_new w _, fun i v hi => by simpa using hi⟩

/-! ### append -/
theorem ownBlock_v (s : Sl) : s.v.ownBlock = s.a.map (·.block) := by
  obtain ⟨a, n, c⟩ := s
  cases a <;> rfl
structure ElemOk (P : Program) (t e : TypeId) (z : Value) (sz bytes : Nat) : Prop where
  ht : P.underlying t = some (.slice e)
  hi : (P.info? e).map (fun i => (i.zero, i.size, i.bytes)) = some (some z, sz, bytes)
  hz : z.cells.size = sz
  hs : 0 < sz
  hb : 0 < bytes

theorem append_own {P : Program} {t ty e : TypeId} {z : Value} {sz bytes : Nat} (el : ElemOk P t e z sz bytes) {w : World} {s src : Sl} {xs news : List Value}
    {T : TypeId} (ho : OwnRow w e sz s xs) (hr : Row w T src news) (hl : news.length = src.n * sz) (h1 : ∀ u ∈ news, u.oneCell' = true) (hb : (s.n + src.n) * bytes ≤ 140737488355328) :
    ∃ s' w', (Builtin.append_ #[t, t] ty #[s.v, src.v]).run P w = .ok s'.v w' ∧ OwnRow w' e sz s' (xs ++ news) ∧ s'.n = s.n + src.n ∧ Fr (fun b => b ∈ blkL s) w w' ∧
      (∀ b ∈ blkL s', b ∈ blkL s ∨ w.heap.size ≤ b) ∧ (s'.a = none → s.a = none ∧ src.n = 0) := by
  obtain ⟨i, hi, hz, hsz, hby⟩ := info_parts el.hi
  have hbl : s.n + src.n ≤ 140737488355328 := by
    have := Nat.le_mul_of_pos_right (s.n + src.n) el.hb
    omega
  rcases hr with ⟨ha, hn, hc, rfl⟩ | ⟨b, o, cs, f, ha, hbk, hcs⟩
  · -- nothing to append
    obtain ⟨sa, sn, sc⟩ := src
    simp only at ha hn hc
    subst ha hn hc
    have := run_append_owned_none (P := P) (w := w) 0 t ty e i sz el.ht hi s.v s.n xs ho
    refine ⟨s, w, this, by simpa using ho, by simp, Fr.refl _ _, fun b hb => .inl hb, fun h => ⟨h, rfl⟩⟩
  · obtain ⟨sa, sn, sc⟩ := src
    simp only at ha hl hb hbl
    subst ha
    have hnews : ∀ j u, news[j]? = some u → w.cell? ((⟨b, o, none⟩ : Addr).add j) = some u := fun j u hj => cellAt (p := ⟨b, o, none⟩) hbk rfl (hcs j u hj)
    obtain ⟨v', w', hrun, hown, hgr, hnil⟩ := run_append_own (P := P) w 0 t ty e i z sz bytes el.ht hi hz hsz hby el.hz el.hs s.v s.n xs ho ⟨b, o, none⟩ sn sc news hl hnews h1 (by unfold maxLen; omega) hb (Nat.zero_le _)
    have hv : ∃ s' : Sl, v' = s'.v ∧ s'.n = s.n + sn ∧ (s'.a = none → v' = .slice none 0 0) := by
      rcases hown.2 with ⟨h1, h2⟩ | ⟨g, cap, cur, h1, _⟩
      · exact ⟨⟨none, 0, 0⟩, h1, by show 0 = _; omega, fun _ => h1⟩
      · exact ⟨⟨_, _, _⟩, h1, rfl, fun h => by cases h⟩
    obtain ⟨s', rfl, hn', hnn⟩ := hv
    refine ⟨s', w', hrun, ?_, hn', ?_, ?_, ?_⟩
    · unfold OwnRow; rw [hn']; exact hown
    · refine Fr.grown hgr fun g hg => ?_
      rw [ownBlock_v] at hg
      cases hsa : s.a with
      | none => simp [hsa] at hg
      | some p => simp [hsa] at hg; simp [blkL, hsa, hg]
    · -- where the new row lies
      intro g hg
      rcases ho.cases with ⟨rfl, rfl⟩ | ⟨g0, cur, hga, hgg, hnc, hcm, hcsz, htk⟩
      · -- from nil: a new block
        obtain ⟨v2, w2, hrun2, hown2, _, _⟩ := run_append_own (P := P) w w.heap.size t ty e i z sz bytes el.ht hi hz hsz hby el.hz el.hs (.slice none 0 0) 0 [] (World.ownsRow_nil w _ e sz) ⟨b, o, none⟩ sn sc news hl hnews h1 (by unfold maxLen; omega) (by simpa using hb) (Nat.le_refl _)
        have e1 : (Result.ok s'.v w' : Result Value) = .ok v2 w2 := hrun.symm.trans hrun2
        have e2 := (Result.ok.inj e1).1
        subst e2
        rcases hown2.2 with ⟨h1, _⟩ | ⟨g2, cap2, cur2, h1, h2, _⟩
        · have : s'.a = none := (Value.slice.inj h1).1
          simp [blkL, this] at hg
        · have : s'.a = some ⟨g2, 0, none⟩ := (Value.slice.inj h1).1
          simp [blkL, this] at hg
          exact .inr (hg ▸ h2)
      · obtain ⟨sa0, sn0, sc0⟩ := s
        simp only at hga hnc hcsz htk hb hbl
        subst hga
        by_cases hroom : sn0 + sn ≤ sc0
        · subst hsz
          have hfit : sn0 * i.size + news.length ≤ cur.size := by rw [hl, hcsz, ← Nat.add_mul]; exact Nat.mul_le_mul_right _ hroom
          have hr2 := run_append_room (P := P) w t ty e i el.ht hi g0 sn0 sc0 cur hgg ⟨b, o, none⟩ sn sc news hl hnews h1 hroom hfit
          have e1 := hrun.symm.trans hr2
          have : s'.a = some ⟨g0, 0, none⟩ := (Value.slice.inj (Result.ok.inj e1).1).1
          simp [blkL, this] at hg ⊢
          exact .inl hg
        · subst hsz
          have holds : ∀ j u, xs[j]? = some u → w.cell? ((⟨g0, 0, none⟩ : Addr).add j) = some u := World.ownsRow.cells (g := g0) ho rfl
          have hr2 := run_append_grow (P := P) w t ty e i z el.ht hi hz ⟨g0, 0, none⟩ sn0 sc0 xs ho.len holds ⟨b, o, none⟩ sn sc news hl hnews (by omega) (by omega) (growslice_fits (by omega) (by rw [hby]; exact hb))
          have e1 := hrun.symm.trans hr2
          have : s'.a = some ⟨w.heap.size, 0, none⟩ := (Value.slice.inj (Result.ok.inj e1).1).1
          simp [blkL, this] at hg
          exact .inr (by omega)
    · intro h
      have := hnil.1 (hnn h)
      refine ⟨?_, this.2⟩
      exact (Value.slice.inj this.1).1
/-- the type of a row's block -/
theorem Row.typ {w : World} {T : TypeId} {s : Sl} {vs : List Value} (h : Row w T s vs) : ∀ b ∈ blkL s, ∃ cs f, w.heap[b]? = some (.cells cs T f) := by
  rcases h with ⟨ha, _⟩ | ⟨b, o, cs, f, ha, hb, hc⟩
  · simp [blkL, ha]
  · intro b' hb'
    have hbb : b' = b := by simpa [blkL, ha] using hb'
    subst hbb
    exact ⟨cs, f, hb⟩
/-- one element, which the text has just boxed -/
theorem Row.one (w : World) (e : TypeId) (cs : List Value) : Row (w.alloc (.cells cs.toArray e)) e ⟨some ⟨w.heap.size, 0, none⟩, 1, 1⟩ cs := Row.made w e 1 1 cs

/-! ### Two lists side by side -/
def All2 {α β : Type} (R : α → β → Prop) : List α → List β → Prop
  | [], [] => True
  | a :: l, b :: m => R a b ∧ All2 R l m
  | _, _ => False
theorem All2.length {α β : Type} {R : α → β → Prop} : ∀ {l : List α} {m : List β}, All2 R l m → l.length = m.length
  | [], [], _ => rfl
  | _ :: _, _ :: _, h => by simp [All2.length h.2]
  | [], _ :: _, h => h.elim
  | _ :: _, [], h => h.elim
theorem All2.mono {α β : Type} {R R' : α → β → Prop} : ∀ {l : List α} {m : List β}, All2 R l m → (∀ a ∈ l, ∀ b ∈ m, R a b → R' a b) → All2 R' l m
  | [], [], _, _ => trivial
  | _ :: _, _ :: _, h, k => ⟨k _ List.mem_cons_self _ List.mem_cons_self h.1, All2.mono h.2 fun a ha b hb => k a (List.mem_cons_of_mem _ ha) b (List.mem_cons_of_mem _ hb)⟩
  | [], _ :: _, h, _ => h.elim
  | _ :: _, [], h, _ => h.elim
theorem All2.append {α β : Type} {R : α → β → Prop} : ∀ {l : List α} {m : List β} {l' : List α} {m' : List β}, All2 R l m → All2 R l' m' → All2 R (l ++ l') (m ++ m')
  | [], [], _, _, _, h' => h'
  | _ :: _, _ :: _, _, _, h, h' => ⟨h.1, All2.append h.2 h'⟩
  | [], _ :: _, _, _, h, _ => h.elim
  | _ :: _, [], _, _, h, _ => h.elim
theorem All2.drop {α β : Type} {R : α → β → Prop} : ∀ (k : Nat) {l : List α} {m : List β}, All2 R l m → All2 R (l.drop k) (m.drop k)
  | 0, _, _, h => h
  | _ + 1, [], [], _ => trivial
  | k + 1, _ :: _, _ :: _, h => All2.drop k h.2
  | _ + 1, [], _ :: _, h => h.elim
  | _ + 1, _ :: _, [], h => h.elim
theorem All2.get {α β : Type} {R : α → β → Prop} : ∀ {l : List α} {m : List β} {i : Nat} {a : α}, All2 R l m → l[i]? = some a → ∃ b, m[i]? = some b ∧ R a b
  | _ :: _, b :: _, 0, _, h, e => by simp at e; subst e; exact ⟨b, by simp, h.1⟩
  | _ :: _, _ :: _, i + 1, a, h, e => by simpa using All2.get h.2 (i := i) (a := a) (by simpa using e)
  | [], _, _, _, _, e => by simp at e
  | _ :: _, [], _, _, h, _ => h.elim
/-! ### Maps with integer keys -/
def MapIs (kd : IntKind) (es : Array MapEntry) (ms : List (Int × Value)) : Prop := es.toList.map (fun e => (e.key, e.val)) = ms.map fun p => (Value.int kd p.1, p.2)
def mget (ms : List (Int × Value)) (k : Int) : Option Value := (ms.find? fun p => p.1 == k).map (·.2)

theorem findNow_int {kd : IntKind} {k : Int} : ∀ {es : List MapEntry} {ms : List (Int × Value)} {i : Nat}, es.map (fun e => (e.key, e.val)) = ms.map (fun p => (Value.int kd p.1, p.2)) →
    Instr.findNow (.int kd) (.int kd k) es i = some ((ms.findIdx? fun p => p.1 == k).bind fun j => (ms[j]?).map fun p => (i + j, p.2))
  | [], [], i, _ => rfl
  | [], _ :: _, _, h => by simp at h
  | _ :: _, [], _, h => by simp at h
  | e :: es, p :: ms, i, h => by
    simp only [List.map_cons, List.cons.injEq, Prod.mk.injEq] at h
    obtain ⟨⟨h1, h2⟩, h3⟩ := h
    have ih := findNow_int (kd := kd) (k := k) (i := i + 1) h3
    unfold Instr.findNow
    simp only [h1, Instr.sameNow, if_true]
    by_cases hk : p.1 = k
    · have e1 : (k == p.1) = true := by simp [hk]
      have e2 : (p.1 == k) = true := by simp [hk]
      simp [e1, List.findIdx?_cons, e2, h2]
    · have e1 : (k == p.1) = false := by simp; exact fun h => hk h.symm
      have e2 : (p.1 == k) = false := by simpa using hk
      simp only [e1, ih, List.findIdx?_cons, e2, Bool.false_eq_true, if_false]
      congr 1
      cases hf : ms.findIdx? (fun p => p.1 == k) with
      | none => simp
      | some j => simp [Nat.add_assoc, Nat.add_comm 1 j]

theorem mget_idx {ms : List (Int × Value)} {k : Int} {i : Nat} : (((ms.findIdx? fun p => p.1 == k).bind fun j => (ms[j]?).map fun p => (i + j, p.2)).map (·.2)) = mget ms k := by
  unfold mget
  induction ms generalizing i with
  | nil => rfl
  | cons p ms ih =>
    by_cases hk : p.1 = k
    · have e2 : (p.1 == k) = true := by simp [hk]
      simp [List.findIdx?_cons, e2]
    · have e2 : (p.1 == k) = false := by simpa using hk
      simp only [List.findIdx?_cons, e2, Bool.false_eq_true, if_false, List.find?_cons]
      rw [← ih (i := i + 1)]
      cases hf : ms.findIdx? (fun p => p.1 == k) with
      | none => simp
      | some j => simp [Function.comp_def]

structure MapOk (P : Program) (T kt et : TypeId) (kd : IntKind) (z : Value) : Prop where
  hT : P.underlying T = some (.map kt et)
  hk : P.underlying kt = some (.int kd)
  hz : (P.info? et).map (·.zero) = some (some z)

theorem checkKey_int {P : Program} {kt : TypeId} {kd : IntKind} (hk : P.underlying kt = some (.int kd)) (b : Bool) (k : Int) (w : World) : (Instr.checkKey b 10000 kt (.int kd k)).run P w = .ok () w := by
  unfold Instr.checkKey
  simp [run_underlying hk]

theorem zeroValue_run {P : Program} {et : TypeId} {z : Value} (hz : (P.info? et).map (·.zero) = some (some z)) (w : World) : (zeroValue et).run P w = .ok z w := by
  obtain ⟨i, hi, hzz⟩ := Option.map_eq_some_iff.1 hz
  simp [zeroValue, typeInfo, hi, hzz]

theorem mapUpdate_new {P : Program} {T kt et : TypeId} {kd : IntKind} {z : Value} (mo : MapOk P T kt et kd z) {w : World} {mb : Nat} {es : Array MapEntry} {clock : Nat} {ms : List (Int × Value)}
    (hm : w.heap[mb]? = some (.map es clock)) (hms : MapIs kd es ms) (k : Int) (v : Value) (hno : mget ms k = none) :
    ∃ w' es', (Instr.mapUpdate T (.map (some mb)) (.int kd k) v).run P w = .ok () w' ∧ w'.heap[mb]? = some (.map es' (clock + 1)) ∧ MapIs kd es' (ms ++ [(k, v)]) ∧ Fr (fun b => b = mb) w w' ∧ w'.heap.size = w.heap.size := by
  have hf := findNow_int (k := k) (i := 0) hms
  have hg : (getObj mb).run P w = .ok (.map es clock) w := by simp [getObj, Sem.run, hm]
  have hg2 := mget_idx (ms := ms) (k := k) (i := 0)
  have hlt := lt_of_heap hm
  have hr : ((ms.findIdx? fun p => p.1 == k).bind fun j => (ms[j]?).map fun p => (0 + j, p.2)) = none := by
    rw [hno] at hg2; simpa using hg2
  refine ⟨{ w with heap := w.heap.setIfInBounds mb (.map (es.push { key := .int kd k, val := v, born := clock }) (clock + 1)) }, es.push { key := .int kd k, val := v, born := clock }, ?_, by simp [hlt], ?_, Fr.setObj w mb _ rfl, by simp⟩
  · unfold Instr.mapUpdate Instr.findKey
    simp only [Sem.run_bind, run_underlying mo.hT, Result.andThen_ok, hg, checkKey_int mo.hk, run_underlying mo.hk, hf, hr]
    simp [setObj, Sem.run, hm]
  · unfold MapIs at hms ⊢
    simp [hms]

/-! ### make -/
theorem make_full {P : Program} {t e : TypeId} {z : Value} {sz bytes : Nat} (el : ElemOk P t e z sz bytes) (w : World) (n : Nat) (hb : n * bytes ≤ 140737488355328) :
    ∃ w', (Instr.makeSlice t (.int .i64 (n : Int)) (.int .i64 (n : Int))).run P w = .ok (.slice (some ⟨w.heap.size, 0, none⟩) n n) w' ∧ OwnRow w' e sz ⟨some ⟨w.heap.size, 0, none⟩, n, n⟩ (madeCells z.cells (n * sz)).toList ∧ Fr (fun _ => False) w w' := by
  obtain ⟨i, hi, hz, hsz, hby⟩ := info_parts el.hi
  have hcl : n ≤ 140737488355328 := by
    have := Nat.le_mul_of_pos_right n el.hb
    omega
  obtain ⟨w', h1, h2, h3⟩ := run_make_full (P := P) w 0 t e i z sz el.ht hi hz hsz .i64 .i64 n (by rw [hby, Nat.mul_comm]; omega) (by unfold maxLen; omega) (Nat.zero_le _)
  exact ⟨w', h1, h2, Fr.grown h3 fun _ h => by cases h⟩
theorem madeCells_one (z : Value) (n : Nat) (hz : z.cells = #[z]) : (madeCells z.cells (n * 1)).toList = List.replicate n z := by
  rw [hz]
  apply List.ext_getElem?
  intro i
  by_cases h : i < n
  · simp [madeCells, h, Nat.mod_one]
  · simp [madeCells, h]
abbrev Fr0 (w w' : World) : Prop := Fr (fun _ => False) w w'
abbrev at0 (b : Nat) : Addr := ⟨b, 0, none⟩
def byteV (b : UInt8) : Value := .int .u8 (b.toNat : Int)
def intV (n : Int) : Value := .int .i64 n
theorem byteV_one (bs : List UInt8) : ∀ u ∈ bs.map byteV, u.oneCell' = true := by
  intro u hu; obtain ⟨b, _, rfl⟩ := List.mem_map.1 hu; rfl
theorem intV_one (l : List Int) : ∀ u ∈ l.map intV, u.oneCell' = true := by
  intro u hu; obtain ⟨b, _, rfl⟩ := List.mem_map.1 hu; rfl

/-! ### Frames -/
theorem Fr.tr0 {M : Nat → Prop} {a b c : World} (h : Fr M a b) (k : Fr0 b c) : Fr M a c := h.trans k fun _ _ h => h.elim
theorem Fr.of0 {M : Nat → Prop} {a b : World} (h : Fr0 a b) : Fr M a b := h.mono fun _ _ h => h.elim
/-- only new blocks were written -/
theorem Fr.new {M : Nat → Prop} {a b : World} (h : Fr M a b) (hn : ∀ x, x < a.heap.size → ¬ M x) : Fr0 a b := h.mono fun x hx hm => hn x hx hm
theorem Fr.trn {M : Nat → Prop} {a b c : World} (h : Fr0 a b) (k : Fr M b c) (hn : ∀ x, M x → a.heap.size ≤ x) : Fr0 a c := h.trans k fun x hx hm => by have := hn x hm; omega
theorem cell_lt {w : World} {p : Addr} {v : Value} (hc : w.cell? p = some v) : p.block < w.heap.size := by
  unfold World.cell? at hc
  cases e : w.heap[p.block]? with
  | none => rw [e] at hc; simp at hc
  | some o => exact (Array.getElem?_eq_some_iff.1 e).1
theorem cell_fr {M : Nat → Prop} {w w' : World} (h : Fr M w w') {p : Addr} {v : Value} (hc : w.cell? p = some v) (hn : ¬ M p.block) : w'.cell? p = some v := by
  have := h.keep p.block (cell_lt hc) hn
  unfold World.cell? at hc ⊢
  rw [this]; exact hc
theorem add_add (p : Addr) (i j : Nat) : (p.add i).add j = p.add (i + j) := by
  unfold Addr.add
  by_cases h1 : i = 0 <;> by_cases h2 : j = 0 <;> simp [h1, h2, Nat.add_assoc]
theorem add0 (p : Addr) : p.add 0 = p := by simp [Addr.add]

/-! ### Rows that are read -/
def CRow (w : World) (s : Sl) (vs : List Value) : Prop := (s.a = none → s.n = 0 ∧ s.c = 0) ∧ ∀ i v, vs[i]? = some v → ∃ p, s.a = some p ∧ w.cell? (p.add i) = some v
theorem CRow.nil (w : World) : CRow w ⟨none, 0, 0⟩ [] := ⟨fun _ => ⟨rfl, rfl⟩, fun i v h => by simp at h⟩
theorem Row.crow {w : World} {T : TypeId} {s : Sl} {vs : List Value} (h : Row w T s vs) : CRow w s vs := by
  refine ⟨fun ha => ?_, fun i v hi => h.cell hi⟩
  rcases h with ⟨_, h1, h2, _⟩ | ⟨b, o, cs, f, hb, _⟩
  · exact ⟨h1, h2⟩
  · rw [ha] at hb; cases hb
theorem CRow.fr {M : Nat → Prop} {w w' : World} {s : Sl} {vs : List Value} (h : CRow w s vs) (hf : Fr M w w') (hn : ∀ b ∈ blkL s, ¬ M b) : CRow w' s vs :=
  ⟨h.1, fun i v hi => by
    obtain ⟨p, hp, hc⟩ := h.2 i v hi
    exact ⟨p, hp, cell_fr hf hc (by rw [add_block]; exact hn _ (by simp [blkL, hp]))⟩⟩
theorem CRow.get {w : World} {s : Sl} {vs : List Value} (h : CRow w s vs) {i j : Nat} {v : Value} (hi : vs[i]? = some v) (hj : j = i * 1) {K : Addr → Prop} (hk : ∀ p, s.a = some p → w.cell? (p.add j) = some v → K p) : W.optP s.a K := by
  obtain ⟨p, hp, hc⟩ := h.2 i v hi
  rw [hp]
  rw [Nat.mul_one] at hj; subst hj
  exact hk p hp hc
/-- a part of a row -/
def sub (s : Sl) (l h : Nat) : Sl := ⟨if s.c = l then s.a else s.a.map (·.add (l * 1)), h - l, s.c - l⟩
theorem CRow.sub {w : World} {s : Sl} {vs : List Value} (h : CRow w s vs) (l hi : Nat) (h1 : vs.length ≤ s.n) (h2 : s.n ≤ s.c) (hl : l ≤ hi) (hh : hi ≤ s.c) : CRow w (sub s l hi) ((vs.take hi).drop l) := by
  refine ⟨fun ha => ?_, fun i v hv => ?_⟩
  · have : s.a = none := by
      unfold W.sub at ha
      simp only at ha
      split at ha
      · exact ha
      · simpa using ha
    obtain ⟨e1, e2⟩ := h.1 this
    unfold W.sub
    simp only
    omega
  · rw [List.getElem?_drop, List.getElem?_take] at hv
    split at hv
    · rename_i hlt
      obtain ⟨p, hp, hc⟩ := h.2 _ _ hv
      have hlen := (List.getElem?_eq_some_iff.1 hv).1
      unfold W.sub
      simp only [hp]
      rw [if_neg (by omega)]
      exact ⟨_, rfl, by rw [add_add, Nat.mul_one]; exact hc⟩
    · cases hv

theorem append_ownC {P : Program} {t ty e : TypeId} {z : Value} {sz bytes : Nat} (el : ElemOk P t e z sz bytes) {w : World} {s src : Sl} {xs news : List Value}
    (ho : OwnRow w e sz s xs) (hr : CRow w src news) (hl : news.length = src.n * sz) (h1 : ∀ u ∈ news, u.oneCell' = true) (hb : (s.n + src.n) * bytes ≤ 140737488355328) :
    ∃ s' w', (Builtin.append_ #[t, t] ty #[s.v, src.v]).run P w = .ok s'.v w' ∧ OwnRow w' e sz s' (xs ++ news) ∧ s'.n = s.n + src.n ∧ Fr (fun b => b ∈ blkL s) w w' ∧
      (∀ b ∈ blkL s', b ∈ blkL s ∨ w.heap.size ≤ b) ∧ (s'.a = none → s.a = none ∧ src.n = 0) := by
  obtain ⟨i, hi, hz, hsz, hby⟩ := info_parts el.hi
  have hbl : s.n + src.n ≤ 140737488355328 := by
    have := Nat.le_mul_of_pos_right (s.n + src.n) el.hb
    omega
  obtain ⟨sa, sn, sc⟩ := src
  cases sa with
  | none =>
    obtain ⟨e1, e2⟩ := hr.1 rfl
    simp only at e1 e2
    subst e1 e2
    have hnil : news = [] := List.eq_nil_of_length_eq_zero (by simpa using hl)
    subst hnil
    have := run_append_owned_none (P := P) (w := w) 0 t ty e i sz el.ht hi s.v s.n xs ho
    exact ⟨s, w, this, by simpa using ho, by simp, Fr.refl _ _, fun b hb => .inl hb, fun h => ⟨h, rfl⟩⟩
  | some q =>
    simp only at hl hb hbl
    have hnews : ∀ j u, news[j]? = some u → w.cell? (q.add j) = some u := fun j u hj => by
      obtain ⟨p, hp, hc⟩ := hr.2 j u hj
      cases hp; exact hc
    obtain ⟨v', w', hrun, hown, hgr, hnil⟩ := run_append_own (P := P) w 0 t ty e i z sz bytes el.ht hi hz hsz hby el.hz el.hs s.v s.n xs ho q sn sc news hl hnews h1 (by unfold maxLen; omega) hb (Nat.zero_le _)
    have hv : ∃ s' : Sl, v' = s'.v ∧ s'.n = s.n + sn ∧ (s'.a = none → v' = .slice none 0 0) := by
      rcases hown.2 with ⟨h1, h2⟩ | ⟨g, cap, cur, h1, _⟩
      · exact ⟨⟨none, 0, 0⟩, h1, by show 0 = _; omega, fun _ => h1⟩
      · exact ⟨⟨_, _, _⟩, h1, rfl, fun h => by cases h⟩
    obtain ⟨s', rfl, hn', hnn⟩ := hv
    refine ⟨s', w', hrun, ?_, hn', ?_, ?_, ?_⟩
    · unfold OwnRow; rw [hn']; exact hown
    · refine Fr.grown hgr fun g hg => ?_
      rw [ownBlock_v] at hg
      cases hsa : s.a with
      | none => simp [hsa] at hg
      | some p => simp [hsa] at hg; simp [blkL, hsa, hg]
    · intro g hg
      rcases ho.cases with ⟨rfl, rfl⟩ | ⟨g0, cur, hga, hgg, hnc, hcm, hcsz, htk⟩
      · obtain ⟨v2, w2, hrun2, hown2, _, _⟩ := run_append_own (P := P) w w.heap.size t ty e i z sz bytes el.ht hi hz hsz hby el.hz el.hs (.slice none 0 0) 0 [] (World.ownsRow_nil w _ e sz) q sn sc news hl hnews h1 (by unfold maxLen; omega) (by simpa using hb) (Nat.le_refl _)
        have e1 : (Result.ok s'.v w' : Result Value) = .ok v2 w2 := hrun.symm.trans hrun2
        have e2 := (Result.ok.inj e1).1
        subst e2
        rcases hown2.2 with ⟨h1, _⟩ | ⟨g2, cap2, cur2, h1, h2, _⟩
        · have : s'.a = none := (Value.slice.inj h1).1
          simp [blkL, this] at hg
        · have : s'.a = some ⟨g2, 0, none⟩ := (Value.slice.inj h1).1
          simp [blkL, this] at hg
          exact .inr (hg ▸ h2)
      · obtain ⟨sa0, sn0, sc0⟩ := s
        simp only at hga hnc hcsz htk hb hbl
        subst hga
        by_cases hroom : sn0 + sn ≤ sc0
        · subst hsz
          have hfit : sn0 * i.size + news.length ≤ cur.size := by rw [hl, hcsz, ← Nat.add_mul]; exact Nat.mul_le_mul_right _ hroom
          have hr2 := run_append_room (P := P) w t ty e i el.ht hi g0 sn0 sc0 cur hgg q sn sc news hl hnews h1 hroom hfit
          have e1 := hrun.symm.trans hr2
          have : s'.a = some ⟨g0, 0, none⟩ := (Value.slice.inj (Result.ok.inj e1).1).1
          simp [blkL, this] at hg ⊢
          exact .inl hg
        · subst hsz
          have holds : ∀ j u, xs[j]? = some u → w.cell? ((⟨g0, 0, none⟩ : Addr).add j) = some u := World.ownsRow.cells (g := g0) ho rfl
          have hr2 := run_append_grow (P := P) w t ty e i z el.ht hi hz ⟨g0, 0, none⟩ sn0 sc0 xs ho.len holds q sn sc news hl hnews (by omega) (by omega) (growslice_fits (by omega) (by rw [hby]; exact hb))
          have e1 := hrun.symm.trans hr2
          have : s'.a = some ⟨w.heap.size, 0, none⟩ := (Value.slice.inj (Result.ok.inj e1).1).1
          simp [blkL, this] at hg
          exact .inr (by omega)
    · intro h
      have := hnil.1 (hnn h)
      refine ⟨?_, this.2⟩
      exact (Value.slice.inj this.1).1
theorem OwnRow.cap {w : World} {e : TypeId} {sz : Nat} {s : Sl} {xs : List Value} (h : OwnRow w e sz s xs) : s.n ≤ s.c := by
  rcases h.cases with ⟨rfl, _⟩ | ⟨g, cur, _, _, h, _⟩
  · exact Nat.le_refl _
  · exact h

/-! ### Rows of bytes and numbers -/
/-- values somewhere, to read -/
def Rd (w : World) (s : Sl) (vs : List Value) : Prop := s.n = vs.length ∧ s.n ≤ s.c ∧ CRow w s vs
/-- values in a row of one's own -/
def Ow (w : World) (e : TypeId) (s : Sl) (vs : List Value) : Prop := s.n = vs.length ∧ OwnRow w e 1 s vs
theorem Ow.rd {w : World} {e : TypeId} {s : Sl} {vs : List Value} (h : Ow w e s vs) : Rd w s vs := ⟨h.1, h.2.cap, h.2.row.crow⟩
theorem Rd.fr {M : Nat → Prop} {w w' : World} {s : Sl} {vs : List Value} (h : Rd w s vs) (hf : Fr M w w') (hn : ∀ b ∈ blkL s, ¬ M b) : Rd w' s vs := ⟨h.1, h.2.1, h.2.2.fr hf hn⟩
theorem Ow.fr {M : Nat → Prop} {w w' : World} {e : TypeId} {s : Sl} {vs : List Value} (h : Ow w e s vs) (hf : Fr M w w') (hn : ∀ b ∈ blkL s, ¬ M b) : Ow w' e s vs := ⟨h.1, h.2.fr hf hn⟩
theorem Rd.fr0 {w w' : World} {s : Sl} {vs : List Value} (h : Rd w s vs) (hf : Fr0 w w') : Rd w' s vs := h.fr hf fun _ _ h => h
theorem Ow.fr0 {w w' : World} {e : TypeId} {s : Sl} {vs : List Value} (h : Ow w e s vs) (hf : Fr0 w w') : Ow w' e s vs := h.fr hf fun _ _ h => h
theorem Rd.nil (w : World) : Rd w ⟨none, 0, 0⟩ [] := ⟨rfl, Nat.le_refl _, CRow.nil w⟩
theorem Ow.nil (w : World) (e : TypeId) : Ow w e ⟨none, 0, 0⟩ [] := ⟨rfl, OwnRow.nil w _ _⟩
theorem Ow.lt {w : World} {e : TypeId} {s : Sl} {vs : List Value} (h : Ow w e s vs) : ∀ b ∈ blkL s, b < w.heap.size := h.2.lt
theorem Ow.made (w : World) (e : TypeId) (cs : List Value) (n : Nat) (hn : n = cs.length) (hl : n ≤ 1000000) : Ow (w.alloc (.cells cs.toArray e)) e ⟨some ⟨w.heap.size, 0, none⟩, n, n⟩ cs :=
  ⟨hn, OwnRow.made w e 1 n cs (by omega) (by unfold maxLen; omega)⟩
theorem Rd.get {w : World} {s : Sl} {vs : List Value} (h : Rd w s vs) {i j : Nat} {v : Value} (hi : vs[i]? = some v) (hj : j = i * 1) {K : Addr → Prop} (hk : ∀ p, s.a = some p → w.cell? (p.add j) = some v → K p) : W.optP s.a K := h.2.2.get hi hj hk
theorem Rd.sub {w : World} {s : Sl} {vs : List Value} (h : Rd w s vs) (l hi : Nat) (hl : l ≤ hi) (hh : hi ≤ vs.length) : Rd w (sub s l hi) ((vs.take hi).drop l) := by
  have h1 := h.1
  have h2 := h.2.1
  refine ⟨?_, ?_, h.2.2.sub l hi (by omega) h.2.1 hl (by omega)⟩
  · unfold W.sub; simp; omega
  · unfold W.sub; simp; omega
theorem append_ow {t ty e : TypeId} {z : Value} {bytes : Nat} {P : Program} (el : ElemOk P t e z 1 bytes) {w : World} {s src : Sl} {xs ys : List Value} (ho : Ow w e s xs) (hr : Rd w src ys) (h1 : ∀ u ∈ ys, u.oneCell' = true) (hb : (xs.length + ys.length) * bytes ≤ 140737488355328) :
    ∃ s' w', (Builtin.append_ #[t, t] ty #[s.v, src.v]).run P w = .ok s'.v w' ∧ Ow w' e s' (xs ++ ys) ∧ Fr (fun b => b ∈ blkL s) w w' ∧ (∀ b ∈ blkL s', b ∈ blkL s ∨ w.heap.size ≤ b) ∧ (s'.a = none → s.a = none ∧ ys = []) := by
  obtain ⟨s', w', g1, g2, g3, g4, g5, g6⟩ := append_ownC (ty := ty) el ho.2 hr.2.2 (by rw [hr.1]; omega) h1 (by rw [ho.1, hr.1]; exact hb)
  refine ⟨s', w', g1, ⟨?_, g2⟩, g4, g5, fun h => ⟨(g6 h).1, ?_⟩⟩
  · rw [g3, ho.1, hr.1]; simp
  · have := (g6 h).2
    rw [hr.1] at this
    exact List.eq_nil_of_length_eq_zero this

/-! ### Writing into a row of one's own -/
/-! ### Rows of structs -/
theorem flat_get {α : Type} (f : α → List Value) (sz : Nat) (hf : ∀ a, (f a).length = sz) : ∀ (cs : List α) (i j : Nat) (a : α), cs[i]? = some a → j < sz → (cs.flatMap f)[i * sz + j]? = (f a)[j]?
  | [], i, j, a, h, _ => by simp at h
  | c :: cs, 0, j, a, h, hj => by
    simp at h
    subst h
    rw [List.flatMap_cons, Nat.zero_mul, Nat.zero_add, List.getElem?_append_left (by rw [hf]; exact hj)]
  | c :: cs, i + 1, j, a, h, hj => by
    rw [List.flatMap_cons, List.getElem?_append_right (by rw [hf, Nat.succ_mul]; omega), hf, show (i + 1) * sz + j - sz = i * sz + j by rw [Nat.succ_mul]; omega]
    exact flat_get f sz hf cs i j a (by simpa using h) hj
theorem flat_length {α : Type} (f : α → List Value) (sz : Nat) (hf : ∀ a, (f a).length = sz) (cs : List α) : (cs.flatMap f).length = cs.length * sz := by
  induction cs with
  | nil => simp
  | cons c cs ih => rw [List.flatMap_cons, List.length_append, ih, hf, List.length_cons, Nat.succ_mul]; omega
theorem CRow.elem {α : Type} {f : α → List Value} {sz : Nat} (hf : ∀ a, (f a).length = sz) (hs : 0 < sz) {w : World} {s : Sl} {cs : List α} (h : CRow w s (cs.flatMap f)) {i : Nat} {a : α} (hi : cs[i]? = some a) {K : Addr → Prop}
    (hk : ∀ p, s.a = some p → (∀ j v, (f a)[j]? = some v → w.cell? ((p.add (i * sz)).add j) = some v) → K p) : W.optP s.a K := by
  obtain ⟨v0, hv0⟩ : ∃ v, (f a)[0]? = some v := ⟨_, List.getElem?_eq_getElem (by rw [hf]; exact hs)⟩
  obtain ⟨p, hp, _⟩ := h.2 (i * sz + 0) v0 (by rw [flat_get f sz hf cs i 0 a hi hs]; exact hv0)
  rw [hp]
  refine hk p hp fun j v hv => ?_
  have hj : j < sz := by have := (List.getElem?_eq_some_iff.1 hv).1; rwa [hf] at this
  obtain ⟨q, hq, hc⟩ := h.2 (i * sz + j) v (by rw [flat_get f sz hf cs i j a hi hj]; exact hv)
  rw [hp] at hq
  cases hq
  rw [add_add]; exact hc
/-- a struct in a block of its own: one cell is written -/
theorem set_c {w : World} {b : Nat} {cs : Array Value} {T : TypeId} (h : w.heap[b]? = some (.cells cs T (0, 0))) (i : Nat) (hi : i < cs.size) (v : Value) :
    (w.cell? ((at0 b).add i)).isSome = true ∧ w.frozen? ((at0 b).add i) = false ∧ (w.setCell ((at0 b).add i) v).heap[b]? = some (.cells (cs.setIfInBounds i v) T (0, 0)) ∧ Fr (· = b) w (w.setCell ((at0 b).add i) v) := by
  refine ⟨?_, frozenAt (p := at0 b) h, ?_, Fr.set _ _ _ (add_block _ _)⟩
  · rw [cellAt (p := at0 b) (v := cs[i]) h rfl (by simp [hi])]; rfl
  · have := setAt (p := at0 b) (i := i) (v := v) h rfl
    simpa using this

/-! ### Objects that are no cells -/
theorem Fr.put (w : World) (l : Nat) (o : Obj) : Fr (· = l) w (w.putObj l o) := ⟨rfl, rfl, rfl, by simp [World.putObj], fun k _ hn => by
  have : l ≠ k := fun e => hn e.symm
  simp [World.putObj, Array.getElem?_setIfInBounds_ne this]⟩
theorem put_at {w : World} {l : Nat} {x : Obj} (h : w.heap[l]? = some x) (o : Obj) : (w.putObj l o).heap[l]? = some o := by
  have := lt_of_heap h
  simp [World.putObj, this]
/-! ### Whole numbers as bits -/
theorem bAnd_nat (x y : Nat) (hx : x < 18446744073709551616) (hy : y < 18446744073709551616) : bAnd .u64 (x : Int) (y : Int) = ((x &&& y : Nat) : Int) := by
  unfold bAnd
  have h1 : (BitVec.ofInt (IntKind.bits .u64) (x : Int) &&& BitVec.ofInt (IntKind.bits .u64) (y : Int)).toNat = x &&& y := by
    show (BitVec.ofInt 64 (x : Int) &&& BitVec.ofInt 64 (y : Int)).toNat = _
    rw [BitVec.toNat_and, BitVec.ofInt_natCast, BitVec.ofInt_natCast, BitVec.toNat_ofNat, BitVec.toNat_ofNat, Nat.mod_eq_of_lt hx, Nat.mod_eq_of_lt hy]
  rw [h1]
  have : x &&& y ≤ x := Nat.and_le_left
  exact IntWalk.u64_in _ (by omega)
theorem bXor_nat (x y : Nat) (hx : x < 18446744073709551616) (hy : y < 18446744073709551616) : bXor .u64 (x : Int) (y : Int) = ((x ^^^ y : Nat) : Int) := by
  unfold bXor
  have h1 : (BitVec.ofInt (IntKind.bits .u64) (x : Int) ^^^ BitVec.ofInt (IntKind.bits .u64) (y : Int)).toNat = x ^^^ y := by
    show (BitVec.ofInt 64 (x : Int) ^^^ BitVec.ofInt 64 (y : Int)).toNat = _
    rw [BitVec.toNat_xor, BitVec.ofInt_natCast, BitVec.ofInt_natCast, BitVec.toNat_ofNat, BitVec.toNat_ofNat, Nat.mod_eq_of_lt hx, Nat.mod_eq_of_lt hy]
  rw [h1]
  have : x ^^^ y < 2 ^ 64 := Nat.xor_lt_two_pow hx hy
  exact IntWalk.u64_in _ (by omega)
theorem xor_ones (x : Nat) (hx : x < 18446744073709551616) : x ^^^ 18446744073709551615 = 18446744073709551615 - x := by
  have h1 := BitVec.toNat_not (x := BitVec.ofNat 64 x)
  have h2 : (~~~ (BitVec.ofNat 64 x)) = BitVec.ofNat 64 x ^^^ BitVec.allOnes 64 := (BitVec.xor_allOnes).symm
  rw [h2, BitVec.toNat_xor, BitVec.toNat_ofNat, Nat.mod_eq_of_lt hx, BitVec.toNat_allOnes] at h1
  omega
theorem bOr_u8_128 (n : Nat) (h : n < 256) : bOr .u8 (n : Int) 128 = ((n % 128 + 128 : Nat) : Int) := by
  have h' : ∀ x : Fin 256, bOr .u8 (x.val : Int) 128 = ((x.val % 128 + 128 : Nat) : Int) := by decide +kernel
  exact h' ⟨n, h⟩
theorem u8_nat (n : Nat) : IntKind.wrap .u8 (n : Int) = ((n % 256 : Nat) : Int) := by rw [IntKind.wrap_u8]; omega
theorem u64_nat (n : Nat) (h : n < 18446744073709551616) : IntKind.wrap .u64 (n : Int) = (n : Int) := IntWalk.u64_in _ (by omega)
theorem fdiv_nat (n m : Nat) (h : 0 < m) : Int.fdiv (n : Int) (m : Int) = ((n / m : Nat) : Int) := by
  rw [Int.fdiv_eq_ediv_of_nonneg _ (by omega)]; rfl
theorem i64_next (i : Nat) (h : i < 9223372036854775807) : IntKind.wrap .i64 ((i : Int) + 1) = ((i + 1 : Nat) : Int) := by rw [IntWalk.i64_in _ (by omega)]; omega
end Go.W
namespace Go.W

/-! ### Things that a code has for itself (L), and things that stay as they are (D) -/
structure En where
  fp : List Nat
  P : World → Prop
  st : ∀ w w', (∀ b ∈ fp, b < w.heap.size → w'.heap[b]? = w.heap[b]?) → P w → P w'
  lt : ∀ w, P w → ∀ b ∈ fp, b < w.heap.size
  nd : fp.Nodup
/-- an object -/
def En.ob (b : Nat) (o : Obj) : En := ⟨[b], fun w => w.heap[b]? = some o, fun w w' h hp => (h b (by simp) (lt_of_heap hp)).trans hp, fun w hp x hx => by simp at hx; subst hx; exact lt_of_heap hp, by simp⟩
/-- cells -/
abbrev En.c (b : Nat) (vs : List Value) (T : TypeId) : En := .ob b (.cells vs.toArray T (0, 0))
/-- a row of one's own, to which can be appended -/
def En.row (e : TypeId) (sz : Nat) (s : Sl) (vs : List Value) : En := ⟨blkL s, fun w => OwnRow w e sz s vs, fun _ _ h hp => hp.keep h, fun _ hp => hp.lt, by unfold blkL; split <;> simp⟩
/-- a row to read -/
def En.rd (s : Sl) (vs : List Value) : En := ⟨if vs = [] then [] else blkL s, fun w => Rd w s vs, fun w w' h hp => by
    refine ⟨hp.1, hp.2.1, hp.2.2.1, fun i v hi => ?_⟩
    obtain ⟨p, ha, hc⟩ := hp.2.2.2 i v hi
    have hne : vs ≠ [] := fun e => by subst e; simp at hi
    rw [if_neg hne] at h
    have := h p.block (by simp [blkL, ha]) (by have := cell_lt hc; rwa [add_block] at this)
    refine ⟨p, ha, ?_⟩
    unfold World.cell? at hc ⊢
    rw [add_block] at hc ⊢
    rw [this]; exact hc, fun w hp b hb => by
    split at hb
    · cases hb
    · rename_i hne
      have h0 : 0 < vs.length := List.length_pos_iff.2 hne
      obtain ⟨p, ha, hc⟩ := hp.2.2.2 0 vs[0] (List.getElem?_eq_getElem h0)
      simp [blkL, ha] at hb
      subst hb
      have := cell_lt hc
      rwa [add_block] at this, by split <;> (try simp); unfold blkL; split <;> simp⟩
structure LH (M : Nat → Prop) (w0 w : World) (L D : List En) : Prop where
  fr : Fr M w0 w
  own : ∀ e ∈ L, e.P w
  rd : ∀ e ∈ D, e.P w
  new : ∀ e ∈ L, ∀ b ∈ e.fp, w0.heap.size ≤ b ∨ M b
  nd : (L.flatMap (·.fp)).Nodup
  dj : ∀ e ∈ D, ∀ b ∈ e.fp, ∀ e' ∈ L, b ∉ e'.fp
theorem LH.start {M : Nat → Prop} {w : World} (D : List En) (h : ∀ e ∈ D, e.P w) : LH M w w [] D := ⟨Fr.refl _ _, by simp, h, by simp, by simp, by simp⟩
theorem LH.start' {M : Nat → Prop} {w : World} (L D : List En) (hl : ∀ e ∈ L, e.P w ∧ ∀ b ∈ e.fp, M b) (hn : (L.flatMap (·.fp)).Nodup) (h : ∀ e ∈ D, e.P w ∧ ∀ b ∈ e.fp, ∀ e' ∈ L, b ∉ e'.fp) : LH M w w L D :=
  ⟨Fr.refl _ _, fun e he => (hl e he).1, fun e he => (h e he).1, fun e he b hb => .inr ((hl e he).2 b hb), hn, fun e he => (h e he).2⟩
theorem LH.fr0 {M : Nat → Prop} {w0 w w' : World} {L D : List En} (H : LH M w0 w L D) (f : Fr0 w w') : LH M w0 w' L D :=
  ⟨H.fr.tr0 f, fun e he => e.st w w' (fun b _ hl => f.keep b hl id) (H.own e he), fun e he => e.st w w' (fun b _ hl => f.keep b hl id) (H.rd e he), H.new, H.nd, H.dj⟩
theorem LH.drew {M : Nat → Prop} {w0 w : World} {L D : List En} (H : LH M w0 w L D) : LH M w0 w.drew L D := H.fr0 (Fr.drew _ _)
theorem nodup_set {α : Type} {f : α → List Nat} : ∀ {L : List α} {i : Nat} {e e' : α}, L[i]? = some e → (L.flatMap f).Nodup → (f e').Nodup → (∀ x ∈ f e', x ∈ f e ∨ x ∉ L.flatMap f) → ((L.set i e').flatMap f).Nodup
  | [], i, e, e', h, _, _, _ => by simp at h
  | a :: L, 0, e, e', h, hn, h', hs => by
    simp at h; subst h
    simp only [List.set_cons_zero, List.flatMap_cons, List.nodup_append] at hn ⊢
    refine ⟨h', hn.2.1, fun x hx y hy => ?_⟩
    rintro rfl
    rcases hs x hx with h | h
    · exact hn.2.2 x h x hy rfl
    · exact h (by simp only [List.flatMap_cons, List.mem_append]; exact .inr hy)
  | a :: L, i + 1, e, e', h, hn, h', hs => by
    simp only [List.getElem?_cons_succ] at h
    simp only [List.set_cons_succ, List.flatMap_cons, List.nodup_append] at hn ⊢
    refine ⟨hn.1, nodup_set h hn.2.1 h' (fun x hx => (hs x hx).imp id fun h hm => h (by simp only [List.flatMap_cons, List.mem_append]; exact .inr hm)), fun x hx y hy => ?_⟩
    rintro rfl
    obtain ⟨g, hg, hxg⟩ := List.mem_flatMap.1 hy
    rcases List.mem_or_eq_of_mem_set hg with hg | rfl
    · exact hn.2.2 x hx x (List.mem_flatMap.2 ⟨g, hg, hxg⟩) rfl
    · rcases hs x hxg with h1 | h1
      · exact hn.2.2 x hx x (List.mem_flatMap.2 ⟨e, List.mem_of_getElem? h, h1⟩) rfl
      · exact h1 (by simp only [List.flatMap_cons, List.mem_append]; exact .inl hx)
theorem LH.own_lt {M : Nat → Prop} {w0 w : World} {L D : List En} (H : LH M w0 w L D) : ∀ b ∈ L.flatMap (·.fp), b < w.heap.size := fun b hb => by
  obtain ⟨e, he, hb⟩ := List.mem_flatMap.1 hb
  exact e.lt w (H.own e he) b hb
theorem disj_of {L : List En} (hn : (L.flatMap (·.fp)).Nodup) : ∀ {i : Nat} {e : En}, L[i]? = some e → ∀ {j : Nat} {g : En}, L[j]? = some g → i ≠ j → ∀ b ∈ e.fp, b ∉ g.fp := by
  induction L with
  | nil => intro i e h; simp at h
  | cons a L ih =>
    simp only [List.flatMap_cons, List.nodup_append] at hn
    intro i e hi j g hj hne b hb hb'
    cases i with
    | zero =>
      simp at hi; subst hi
      cases j with
      | zero => exact hne rfl
      | succ j => exact hn.2.2 b hb b (List.mem_flatMap.2 ⟨g, List.mem_of_getElem? (by simpa using hj), hb'⟩) rfl
    | succ i =>
      cases j with
      | zero =>
        simp at hj; subst hj
        exact hn.2.2 b hb' b (List.mem_flatMap.2 ⟨e, List.mem_of_getElem? (by simpa using hi), hb⟩) rfl
      | succ j => exact ih hn.2.1 (by simpa using hi) (by simpa using hj) (by omega) b hb hb'
/-- one thing becomes another one -/
theorem LH.upd {M : Nat → Prop} {w0 w w' : World} {L D : List En} (H : LH M w0 w L D) {e : En} (i : Nat) (e' : En) (hi : L[i]? = some e) (f : Fr (· ∈ e.fp) w w') (hP : e'.P w') (hfp : ∀ b ∈ e'.fp, b ∈ e.fp ∨ w.heap.size ≤ b) : LH M w0 w' (L.set i e') D := by
  have hm := List.mem_of_getElem? hi
  have hfr : Fr M w0 w' := H.fr.trans f fun x hx hm' => (H.new e hm x hm').resolve_left (by omega)
  refine ⟨hfr, fun g hg => ?_, fun g hg => ?_, fun g hg b hb => ?_, nodup_set hi H.nd e'.nd fun x hx => ?_, fun g hg b hb g' hg' hb' => ?_⟩
  · obtain ⟨j, hj⟩ := List.mem_iff_getElem?.1 hg
    rw [List.getElem?_set] at hj
    split at hj
    · split at hj
      · cases hj; exact hP
      · cases hj
    · rename_i hne
      refine g.st w w' (fun b hb hl => f.keep b hl fun hbe => disj_of H.nd hi hj hne b hbe hb) (H.own g (List.mem_of_getElem? hj))
  · exact g.st w w' (fun b hb hl => f.keep b hl fun hbe => H.dj g hg b hb e hm hbe) (H.rd g hg)
  · rcases List.mem_or_eq_of_mem_set hg with hg | rfl
    · exact H.new g hg b hb
    · rcases hfp b hb with h | h
      · exact H.new e hm b h
      · exact .inl (Nat.le_trans H.fr.size h)
  · rcases hfp x hx with h | h
    · exact .inl h
    · exact .inr fun hx' => by have := H.own_lt x hx'; omega
  · rcases List.mem_or_eq_of_mem_set hg' with hg' | rfl
    · exact H.dj g hg b hb g' hg' hb'
    · rcases hfp b hb' with h | h
      · exact H.dj g hg b hb e hm h
      · have := g.lt w (H.rd g hg) b hb; omega
/-- a new thing -/
theorem LH.push {M : Nat → Prop} {w0 w w' : World} {L D : List En} (H : LH M w0 w L D) (e : En) (f : Fr0 w w') (hP : e.P w') (hfp : ∀ b ∈ e.fp, w.heap.size ≤ b) : LH M w0 w' (L ++ [e]) D := by
  have H' := H.fr0 f
  refine ⟨H'.fr, fun g hg => ?_, H'.rd, fun g hg b hb => ?_, ?_, fun g hg b hb g' hg' hb' => ?_⟩
  · rcases List.mem_append.1 hg with hg | hg
    · exact H'.own g hg
    · simp at hg; subst hg; exact hP
  · rcases List.mem_append.1 hg with hg | hg
    · exact H.new g hg b hb
    · simp at hg; subst hg; exact .inl (Nat.le_trans H.fr.size (hfp b hb))
  · rw [List.flatMap_append, List.nodup_append]
    refine ⟨H.nd, by simpa using e.nd, fun x hx y hy => ?_⟩
    rintro rfl
    have h1 := H.own_lt x hx
    have h2 := hfp x (by simpa using hy)
    omega
  · rcases List.mem_append.1 hg' with hg' | hg'
    · exact H.dj g hg b hb g' hg' hb'
    · simp at hg'; subst hg'
      have h1 := g.lt w (H.rd g hg) b hb
      have h2 := hfp b hb'
      omega
theorem LH.alloc {M : Nat → Prop} {w0 w : World} {L D : List En} (H : LH M w0 w L D) (o : Obj) : LH M w0 (w.alloc o) (L ++ [.ob w.heap.size o]) D :=
  H.push _ (Fr.alloc _ _ _) (heap_new w o) (fun b hb => by simp [En.ob] at hb; omega)
/-- something more to read -/
theorem LH.addD {M : Nat → Prop} {w0 w w' : World} {L D : List En} (H : LH M w0 w L D) (e : En) (f : Fr0 w w') (hP : e.P w') (hd : ∀ b ∈ e.fp, w.heap.size ≤ b ∨ (b < w0.heap.size ∧ ¬ M b) ∨ ∃ g ∈ D, b ∈ g.fp) : LH M w0 w' L (D ++ [e]) := by
  have H' := H.fr0 f
  refine ⟨H'.fr, H'.own, fun g hg => ?_, H'.new, H'.nd, fun g hg b hb g' hg' hb' => ?_⟩
  · rcases List.mem_append.1 hg with hg | hg
    · exact H'.rd g hg
    · simp at hg; subst hg; exact hP
  · rcases List.mem_append.1 hg with hg | hg
    · exact H.dj g hg b hb g' hg' hb'
    · simp at hg; subst hg
      rcases hd b hb with h | ⟨h, hm⟩ | ⟨q, hq, hbq⟩
      · have := g'.lt w (H.own g' hg') b hb'; omega
      · exact (H.new g' hg' b hb').elim (fun h' => by omega) hm
      · exact H.dj q hq b hbq g' hg' hb'
theorem LH.forget {M : Nat → Prop} {w0 w : World} {L D : List En} (H : LH M w0 w L D) (D' : List En) (h : ∀ e ∈ D', e ∈ D) : LH M w0 w L D' := ⟨H.fr, H.own, fun e he => H.rd e (h e he), H.new, H.nd, fun e he => H.dj e (h e he)⟩
theorem mem_eraseIdx' {α : Type} {a : α} : ∀ {l : List α} {i : Nat}, a ∈ l.eraseIdx i → a ∈ l
  | [], _, h => by simp at h
  | b :: l, 0, h => by simp at h; simp [h]
  | b :: l, i + 1, h => by
    simp at h
    rcases h with h | h
    · simp [h]
    · exact List.mem_cons_of_mem _ (mem_eraseIdx' h)
theorem nodup_erase {α : Type} {f : α → List Nat} : ∀ {L : List α} {i : Nat}, (L.flatMap f).Nodup → ((L.eraseIdx i).flatMap f).Nodup
  | [], i, h => by simp
  | a :: L, 0, h => by simp only [List.flatMap_cons, List.nodup_append] at h; exact h.2.1
  | a :: L, i + 1, h => by
    simp only [List.eraseIdx_cons_succ, List.flatMap_cons, List.nodup_append] at h ⊢
    refine ⟨h.1, nodup_erase h.2.1, fun x hx y hy => h.2.2 x hx y ?_⟩
    obtain ⟨g, hg, hxg⟩ := List.mem_flatMap.1 hy
    exact List.mem_flatMap.2 ⟨g, mem_eraseIdx' hg, hxg⟩
/-- one's own thing is given up, to be read only -/
theorem erase_ne {α : Type} {f : α → List Nat} : ∀ {L : List α} {i : Nat} {e : α}, L[i]? = some e → (L.flatMap f).Nodup → ∀ b ∈ f e, ∀ g ∈ L.eraseIdx i, b ∉ f g
  | [], i, e, h, _ => by simp at h
  | a :: L, 0, e, h, hn => by
    simp at h; subst h
    simp only [List.flatMap_cons, List.nodup_append] at hn
    intro b hb g hg hb'
    exact hn.2.2 b hb b (List.mem_flatMap.2 ⟨g, by simpa using hg, hb'⟩) rfl
  | a :: L, i + 1, e, h, hn => by
    simp only [List.flatMap_cons, List.nodup_append] at hn
    intro b hb g hg hb'
    simp only [List.getElem?_cons_succ] at h
    simp only [List.eraseIdx_cons_succ, List.mem_cons] at hg
    rcases hg with rfl | hg
    · exact hn.2.2 b hb' b (List.mem_flatMap.2 ⟨e, List.mem_of_getElem? h, hb⟩) rfl
    · exact erase_ne h hn.2.1 b hb g hg hb'
theorem LH.freeze {M : Nat → Prop} {w0 w : World} {L D : List En} (H : LH M w0 w L D) {e : En} (i : Nat) (e' : En) (hi : L[i]? = some e) (hP : e'.P w) (hfp : ∀ b ∈ e'.fp, b ∈ e.fp) : LH M w0 w (L.eraseIdx i) (D ++ [e']) := by
  refine ⟨H.fr, fun g hg => H.own g (mem_eraseIdx' hg), fun g hg => ?_, fun g hg => H.new g (mem_eraseIdx' hg), nodup_erase H.nd, fun g hg b hb g' hg' => ?_⟩
  · rcases List.mem_append.1 hg with hg | hg
    · exact H.rd g hg
    · simp at hg; subst hg; exact hP
  · rcases List.mem_append.1 hg with hg | hg
    · exact H.dj g hg b hb g' (mem_eraseIdx' hg')
    · simp at hg; subst hg
      exact erase_ne hi H.nd b (hfp b hb) g' hg'
theorem LH.get {M : Nat → Prop} {w0 w : World} {L D : List En} (H : LH M w0 w L D) (i : Nat) {e : En} (hi : L[i]? = some e := by rfl) : e.P w := H.own e (List.mem_of_getElem? hi)
theorem LH.getD {M : Nat → Prop} {w0 w : World} {L D : List En} (H : LH M w0 w L D) (i : Nat) {e : En} (hi : D[i]? = some e := by rfl) : e.P w := H.rd e (List.mem_of_getElem? hi)

/-! #### Steps of a code -/
section
variable {M : Nat → Prop} {w0 w : World} {L D : List En}
theorem LH.ob (H : LH M w0 w L D) (i : Nat) {b : Nat} {o : Obj} (hi : L[i]? = some (.ob b o) := by rfl) : w.heap[b]? = some o := H.own _ (List.mem_of_getElem? hi)
theorem LH.ld (H : LH M w0 w L D) (i j : Nat) {b : Nat} {vs : List Value} {T : TypeId} {v : Value} (hi : L[i]? = some (.c b vs T) := by rfl) (hj : vs[j]? = some v := by rfl) : w.cell? ((at0 b).add j) = some v :=
  cellAt (p := at0 b) (H.ob i hi) rfl (by simpa using hj)
theorem LH.ld0 (H : LH M w0 w L D) (i : Nat) {b : Nat} {vs : List Value} {T : TypeId} {v : Value} (hi : L[i]? = some (.c b vs T) := by rfl) (hj : vs[0]? = some v := by rfl) : w.cell? (at0 b) = some v := by
  have := H.ld i 0 hi hj
  rwa [add0] at this
theorem LH.set (H : LH M w0 w L D) (i j : Nat) {b : Nat} {vs : List Value} {T : TypeId} {v : Value} (hi : L[i]? = some (.c b vs T)) (hj : j < vs.length) :
    (w.cell? ((at0 b).add j)).isSome = true ∧ w.frozen? ((at0 b).add j) = false ∧ LH M w0 (w.setCell ((at0 b).add j) v) (L.set i (.c b (vs.set j v) T)) D := by
  obtain ⟨x1, x2, x3, x4⟩ := set_c (H.ob i hi) j (by simpa using hj) v
  exact ⟨x1, x2, H.upd i (.c b (vs.set j v) T) hi (x4.mono fun x _ e => by simp [En.ob, e]) (by show _ = _; rw [x3]; simp) (fun b hb => .inl hb)⟩
theorem LH.st (H : LH M w0 w L D) (i j : Nat) {b : Nat} {vs : List Value} {T : TypeId} {v : Value} {K : World → Prop} (hi : L[i]? = some (.c b vs T)) (hK : ∀ w', LH M w0 w' (L.set i (.c b (vs.set j v) T)) D → K w') (hj : j < vs.length := by simp) : stV w ((at0 b).add j) v K := by
  obtain ⟨x1, x2, x3⟩ := H.set (v := v) i j hi hj
  exact ⟨x1, x2, hK _ x3⟩
theorem LH.st0 (H : LH M w0 w L D) (i : Nat) {b : Nat} {vs : List Value} {T : TypeId} {v : Value} {K : World → Prop} (hi : L[i]? = some (.c b vs T)) (hK : ∀ w', LH M w0 w' (L.set i (.c b (vs.set 0 v) T)) D → K w') (hj : 0 < vs.length := by simp) : stV w (at0 b) v K := by
  have := H.st (v := v) (K := K) i 0 hi hK hj
  rwa [add0] at this
theorem LH.st2 (H : LH M w0 w L D) (i : Nat) {b : Nat} {a0 a1 : Value} {T : TypeId} {v0 v1 : Value} {K : World → Prop} (hi : L[i]? = some (.c b [a0, a1] T)) (hK : ∀ w', LH M w0 w' (L.set i (.c b [v0, v1] T)) D → K w') : stV w (at0 b) v0 fun w1 => stV w1 ((at0 b).add 1) v1 K := by
  have hl := (List.getElem?_eq_some_iff.1 hi).1
  exact H.st0 i hi (fun w1 H1 => H1.st (vs := [v0, a1]) (T := T) i 1 (by simp [hl]) (fun w2 H2 => hK w2 (by simpa using H2)))
theorem LH.st3 (H : LH M w0 w L D) (i : Nat) {b : Nat} {a0 a1 a2 : Value} {T : TypeId} {v0 v1 v2 : Value} {K : World → Prop} (hi : L[i]? = some (.c b [a0, a1, a2] T)) (hK : ∀ w', LH M w0 w' (L.set i (.c b [v0, v1, v2] T)) D → K w') : stV w (at0 b) v0 fun w1 => stV w1 ((at0 b).add 1) v1 fun w2 => stV w2 ((at0 b).add 2) v2 K := by
  have hl := (List.getElem?_eq_some_iff.1 hi).1
  exact H.st0 i hi (fun w1 H1 => H1.st (vs := [v0, a1, a2]) (T := T) i 1 (by simp [hl]) (fun w2 H2 => H2.st (vs := [v0, v1, a2]) (T := T) i 2 (by simp [hl]) (fun w3 H3 => hK w3 (by simpa using H3))))
theorem LH.nw (H : LH M w0 w L D) {cs : Array Value} {T : TypeId} {K : World → Prop} (hK : ∀ w', w'.heap.size = w.heap.size + 1 → LH M w0 w' (L ++ [.c w.heap.size cs.toList T]) D → K w') : nwV w (.cells cs T) K := hK _ (size_alloc _ _) (H.alloc _)
/-- a block that is read only at once -/
theorem LH.nwx (H : LH M w0 w L D) {o : Obj} {K : World → Prop} (hK : ∀ w', w'.heap.size = w.heap.size + 1 → LH M w0 w' L D → w'.heap[w.heap.size]? = some o → K w') : nwV w o K := hK _ (size_alloc _ _) (H.fr0 (Fr.alloc _ _ _)) (heap_new w o)
theorem LH.dr (H : LH M w0 w L D) {K : World → Prop} (hK : ∀ w', LH M w0 w' L D → K w') : drV w K := hK _ H.drew
theorem LH.pu (H : LH M w0 w L D) (i : Nat) {b : Nat} {o o' : Obj} {K : World → Prop} (hi : L[i]? = some (.ob b o)) (hK : ∀ w', LH M w0 w' (L.set i (.ob b o')) D → K w') : puV w b o o' K :=
  ⟨H.ob i hi, hK _ (H.upd i (.ob b o') hi ((Fr.put w b o').mono fun x _ e => by simp [En.ob, e]) (put_at (H.ob i hi) o') (fun b hb => .inl hb))⟩
/-- appending to a row of one's own -/
theorem LH.ap (H : LH M w0 w L D) (i : Nat) {P : Program} {t ty e : TypeId} {z : Value} {sz bytes : Nat} (el : ElemOk P t e z sz bytes) {s src : Sl} {xs news : List Value} {K : Sl → World → Prop}
    (hi : L[i]? = some (.row e sz s xs)) (hr : CRow w src news) (hl : news.length = src.n * sz) (h1 : ∀ u ∈ news, u.oneCell' = true) (hb : (s.n + src.n) * bytes ≤ 140737488355328)
    (hK : ∀ s' w', LH M w0 w' (L.set i (.row e sz s' (xs ++ news))) D → s'.n = s.n + src.n → (s'.a = none → s.a = none ∧ src.n = 0) → K s' w') :
    ∃ s' w', (Builtin.append_ #[t, t] ty #[s.v, src.v]).run P w = .ok s'.v w' ∧ K s' w' := by
  obtain ⟨s', w', g1, g2, g3, g4, g5, g6⟩ := append_ownC (ty := ty) el (H.get i hi) hr hl h1 hb
  exact ⟨s', w', g1, hK s' w' (H.upd i (.row e sz s' (xs ++ news)) hi g4 g2 g5) g3 g6⟩
/-- appending one element, which was just boxed -/
theorem LH.ap1 (H : LH M w0 w L D) (i : Nat) {P : Program} {t ty e : TypeId} {z : Value} {sz bytes : Nat} (el : ElemOk P t e z sz bytes) {T : TypeId} {s : Sl} {xs : List Value} {news : Array Value} {K : Sl → World → Prop}
    (hi : L[i]? = some (.row e sz s xs)) (hK : ∀ s' w', LH M w0 w' (L.set i (.row e sz s' (xs ++ news.toList))) D → s'.n = s.n + 1 → s'.a ≠ none → K s' w') (hb : (s.n + 1) * bytes ≤ 140737488355328) (hl : news.size = sz := by rfl) (h1 : ∀ u ∈ news.toList, u.oneCell' = true := by simp [Value.oneCell']) :
    nwV w (.cells news T) fun w1 => ∃ s' w', (Builtin.append_ #[t, t] ty #[s.v, .slice (some (Addr.mk w.heap.size 0 none)) 1 1]).run P w1 = .ok s'.v w' ∧ K s' w' := by
  have H1 : LH M w0 (w.alloc (.cells news T)) L D := H.fr0 (Fr.alloc _ _ _)
  refine H1.ap i el (src := ⟨some (at0 w.heap.size), 1, 1⟩) (ty := ty) (K := K) (news := news.toList) hi ((Row.made w T 1 1 news.toList).crow) (by simpa using hl) h1 hb (fun s' w' h hn hnone => hK s' w' h hn fun h0 => by have := (hnone h0).2; simp at this)
/-- a row of one's own, from nothing -/
theorem LH.nilrow (H : LH M w0 w L D) (e : TypeId) (sz : Nat) : LH M w0 w (L ++ [.row e sz ⟨none, 0, 0⟩ []]) D := H.push _ (Fr.refl _ _) (OwnRow.nil w e sz) (fun b hb => by simp [En.row, blkL] at hb)
end
theorem OwnRow.ow1 {w : World} {e : TypeId} {s : Sl} {vs : List Value} (h : OwnRow w e 1 s vs) : Ow w e s vs := ⟨by have := h.len; omega, h⟩
theorem OwnRow.rd1 {w : World} {e : TypeId} {s : Sl} {vs : List Value} (h : OwnRow w e 1 s vs) : Rd w s vs := h.ow1.rd
abbrev F0 : Nat → Prop := fun _ => False
theorem LH.take {M : Nat → Prop} {w0 w : World} {L D : List En} (H : LH M w0 w L D) (n : Nat) : LH M w0 w (L.take n) D :=
  ⟨H.fr, fun e he => H.own e (List.mem_of_mem_take he), H.rd, fun e he => H.new e (List.mem_of_mem_take he), by
    have := H.nd
    rw [← List.take_append_drop n L, List.flatMap_append, List.nodup_append] at this
    exact this.1, fun e he b hb e' he' => H.dj e he b hb e' (List.mem_of_mem_take he')⟩
theorem sel_eq {a b : Int} {A B : Prop} (h1 : a = b → A) (h2 : a ≠ b → B) : sel (a == b) A B := sel_intro (fun h => h1 (by simpa using h)) (fun h => h2 (by simpa using h))
theorem sel_ne {a b : Int} {A B : Prop} (h1 : a ≠ b → A) (h2 : a = b → B) : sel (a != b) A B := sel_intro (fun h => h1 (by simpa using h)) (fun h => h2 (by simpa using h))
theorem sel_dec {p : Prop} [Decidable p] {A B : Prop} (h1 : p → A) (h2 : ¬ p → B) : sel (decide p) A B := sel_intro (fun h => h1 (of_decide_eq_true h)) (fun h => h2 (of_decide_eq_false h))
theorem sel_not {b : Bool} {A B : Prop} (h1 : b = false → A) (h2 : b = true → B) : sel (!b) A B := sel_intro (fun h => h1 (by simpa using h)) (fun h => h2 (by simpa using h))
theorem LH.ldD {M : Nat → Prop} {w0 w : World} {L D : List En} (H : LH M w0 w L D) (i j : Nat) {b : Nat} {vs : List Value} {T : TypeId} {v : Value} (hi : D[i]? = some (.c b vs T) := by rfl) (hj : vs[j]? = some v := by rfl) : w.cell? ((at0 b).add j) = some v :=
  cellAt (p := at0 b) (show w.heap[b]? = _ from H.rd _ (List.mem_of_getElem? hi)) rfl (by simpa using hj)
theorem LH.ldD0 {M : Nat → Prop} {w0 w : World} {L D : List En} (H : LH M w0 w L D) (i : Nat) {b : Nat} {vs : List Value} {T : TypeId} {v : Value} (hi : D[i]? = some (.c b vs T) := by rfl) (hj : vs[0]? = some v := by rfl) : w.cell? (at0 b) = some v := by
  have := H.ldD i 0 hi hj
  rwa [add0] at this
/-- a call that changes one block -/
theorem LH.callc {M : Nat → Prop} {w0 w w' : World} {L D : List En} (H : LH M w0 w L D) (i : Nat) {b : Nat} {vs vs' : List Value} {T : TypeId} (f : Fr (· = b) w w') (h : w'.heap[b]? = some (.cells vs'.toArray T (0, 0))) (hi : L[i]? = some (.c b vs T) := by rfl) : LH M w0 w' (L.set i (.c b vs' T)) D :=
  H.upd i (.c b vs' T) hi (f.mono fun x _ e => by simp [En.ob, e]) h (fun b hb => .inl hb)
theorem LH.nwrow {M : Nat → Prop} {w0 w : World} {L D : List En} (H : LH M w0 w L D) {e : TypeId} {sz n : Nat} {cs : List Value} (hc : cs.length = n * sz) (hn : n ≤ maxLen) {K : World → Prop} (hK : ∀ w', LH M w0 w' (L ++ [.row e sz ⟨some (at0 w.heap.size), n, n⟩ cs]) D → K w') : nwV w (.cells cs.toArray e) K :=
  hK _ (H.push _ (Fr.alloc _ _ _) (OwnRow.made w e sz n cs hc hn) (fun b hb => by simp [En.row, blkL] at hb; omega))
end Go.W
namespace Go.W

/-! ### Regions whose effects have no order among them: an invariant over what was done -/
/-- one operation, by itself -/
def stepI (P : Program) (o : Oper) (E : Env) (w : World) (K : Env → World → Prop) : Prop :=
  bif calm P o then calmVC P o E w fun v _ => K (E.put o.dst v) w else effVC P o E w fun v w' => K (E.put o.dst v) w'
def backOk (ops : Array Oper) : Bool := (List.range ops.size).all fun i => match ops[i]? with
  | some o => o.guard.isNone && o.after.toList.all fun e => !(Region.binds .any e) || Nat.blt e.on i
  | none => true
abbrev setB (L : Nat → Bool) (i : Nat) : Nat → Bool := fun j => Nat.beq j i || L j
section
variable {P : Program} {ops : Array Oper} {n : Cx} {K : Env → World → Prop}
theorem backOk_spec (h : backOk ops = true) {i : Nat} {o : Oper} (ho : ops[i]? = some o) : o.guard = none ∧ ∀ e ∈ o.after, Region.binds .any e = true → e.on < i := by
  unfold backOk at h
  have hi : i < ops.size := (Array.getElem?_eq_some_iff.1 ho).1
  have := List.all_eq_true.1 h i (List.mem_range.2 hi)
  rw [ho] at this
  simp only [Bool.and_eq_true] at this
  refine ⟨by simpa using this.1, fun e he hb => ?_⟩
  have := List.all_eq_true.1 this.2 e (by simpa using he)
  rw [hb] at this
  simpa using this
theorem stepI_op {i : Nat} {o : Oper} {a : Act} {E : Env} {w : World} {Kh : Env → World → Prop} {K' : Act → World → Prop} {Q : Exit → Act → World → Prop}
    (hn : opsOk n ops = true) (ho : ops[i]? = some o) (hg : o.guard = none) (ha : Ag n a E) (h : stepI P o E w Kh) (next : ∀ a' E' w', Ag n a' E' → Kh E' w' → K' a' w') : wpOp P ops Q i K' a w := by
  have hsel := Region.noSelect_spec (ops := ops) (by unfold opsOk at hn; rw [Bool.and_eq_true] at hn; exact hn.1)
  have hw : Region.wanted o (yielded ops a.tmps) = true := by simp [Region.wanted, hg]
  unfold stepI at h
  cases hc : calm P o with
  | true =>
    rw [hc] at h
    simp only [cond_true] at h
    obtain ⟨v, Ss, hk, hs1, hs2⟩ := calmVC_sound (fun cs b => hsel i o cs b ho) ha h
    unfold wpOp
    simp only [ho, hw, if_true]
    refine .inl ?_
    unfold Oper.wp
    rw [hs2 w hs1]
    exact next _ _ _ (ha.put v (opsOk_dst hn ho)) hk
  | false =>
    rw [hc] at h
    simp only [cond_false] at h
    exact wpOp_eff ho hw (effVC_sound (fun cs b => hsel i o cs b ho) ha h) fun v w' hv => next _ _ _ (ha.put v (opsOk_dst hn ho)) hv
theorem wpAny_inv (hn : opsOk n ops = true) (hb : backOk ops = true) (J : (Nat → Bool) → Env → World → Prop)
    (step : ∀ L E w i o, ops[i]? = some o → L i = false → (∀ e ∈ o.after, Region.binds .any e = true → L e.on = true) → J L E w → stepI P o E w fun E' w' => J (setB L i) E' w')
    (fin : ∀ L E w, (∀ i, i < ops.size → L i = true) → J L E w → K E w) :
    ∀ (fuel : Nat) (listed : Array Bool) (a : Act) (E : Env) (w : World), listed.size = ops.size → Ag n a E → J (fun j => listed.getD j false) E w → ((List.range ops.size).filter fun j => !listed.getD j false).length ≤ fuel →
      wpAny P .any ops (RegPost n K) fuel listed a w := by
  have done : ∀ (listed : Array Bool) (a : Act) (E : Env) (w : World), listed.size = ops.size → Ag n a E → J (fun j => listed.getD j false) E w → Region.ready .any ops listed = [] → RegPost n K .normal a w := by
    intro listed a E w hs ha hJ hr
    refine ⟨E, ha, fin _ E w (fun i => ?_) hJ⟩
    induction i using Nat.strongRecOn with
    | _ i ih =>
      intro hi
      cases hl : listed.getD i false with
      | true => rfl
      | false =>
        exfalso
        have ho : ops[i]? = some ops[i] := Array.getElem?_eq_getElem hi
        have hm : i ∈ Region.ready .any ops listed := mem_ready.2 ⟨by
          have hlt : i < listed.size := by omega
          simp [hlt] at hl ⊢
          exact hl, _, ho, fun e he hbi => ih e.on ((backOk_spec hb ho).2 e he hbi) (Nat.lt_trans ((backOk_spec hb ho).2 e he hbi) hi)⟩
        rw [hr] at hm
        cases hm
  intro fuel
  induction fuel with
  | zero =>
    intro listed a E w hs ha hJ hf
    have hall : ∀ i, i < ops.size → listed.getD i false = true := fun i hi => by
      cases hl : listed.getD i false with
      | true => rfl
      | false =>
        have : i ∈ (List.range ops.size).filter fun j => !listed.getD j false := List.mem_filter.2 ⟨List.mem_range.2 hi, by rw [hl]; rfl⟩
        rw [List.length_eq_zero_iff.1 (Nat.le_zero.1 hf)] at this
        cases this
    refine ⟨?_, E, ha, fin _ E w hall hJ⟩
    cases hr : Region.ready .any ops listed with
    | nil => rfl
    | cons i l =>
      have hm : i ∈ Region.ready .any ops listed := by rw [hr]; simp
      obtain ⟨h0, o, ho, _⟩ := mem_ready.1 hm
      have hi := (Array.getElem?_eq_some_iff.1 ho).1
      have h1 := hall i hi
      have hlt : i < listed.size := by omega
      simp [hlt] at h0 h1
      rw [h0] at h1
      cases h1
  | succ fuel ih =>
    intro listed a E w hs ha hJ hf
    refine ⟨done listed a E w hs ha hJ, fun i hi => ?_⟩
    obtain ⟨h0, o, ho, hall⟩ := mem_ready.1 hi
    have hlt : i < ops.size := (Array.getElem?_eq_some_iff.1 ho).1
    have hli : i < listed.size := by omega
    have h0' : listed.getD i false = false := by simp [hli] at h0 ⊢; exact h0
    refine stepI_op hn ho (backOk_spec hb ho).1 ha (step _ E w i o ho h0' hall hJ) fun a' E' w' ha' hJ' => ?_
    have he : (setB (fun j => listed.getD j false) i) = fun j => (listed.setIfInBounds i true).getD j false := by
      funext j
      by_cases hj : i = j
      · subst hj
        simp [setB, hli]
      · have : Nat.beq j i = false := by rw [← Bool.not_eq_true, Nat.beq_eq]; exact fun h => hj h.symm
        rw [getD_set_ne false hj]
        simp [setB, this]
    rw [he] at hJ'
    refine ih _ a' E' w' (by simpa using hs) ha' hJ' ?_
    have hsub : ((List.range ops.size).filter fun j => !(listed.setIfInBounds i true).getD j false) = ((List.range ops.size).filter fun j => !listed.getD j false).filter fun j => !(Nat.beq j i) := by
      rw [List.filter_filter]
      refine List.filter_congr fun j _ => ?_
      rw [← congrFun he j]
      simp only [setB, Bool.not_or]
    have hlt2 : (((List.range ops.size).filter fun j => !listed.getD j false).filter fun j => !(Nat.beq j i)).length < ((List.range ops.size).filter fun j => !listed.getD j false).length := by
      refine List.length_filter_lt_length_iff_exists.2 ⟨i, List.mem_filter.2 ⟨List.mem_range.2 hlt, by rw [h0']; rfl⟩, ?_⟩
      have : Nat.beq i i = true := Nat.beq_refl i
      simp [this]
    rw [hsub]
    omega
theorem wp_region_inv {c : Code} {id : Nat} {a : Act} {E : Env} {w : World} (J : (Nat → Bool) → Env → World → Prop) (hm : P.follows .mixedOrders = true) (hc : c = .region id ops true) (hn : opsOk n ops = true) (hb : backOk ops = true) (ha : Ag n a E)
    (h0 : J (fun _ => false) E w.drew)
    (step : ∀ L E w i o, ops[i]? = some o → L i = false → (∀ e ∈ o.after, Region.binds .any e = true → L e.on = true) → J L E w → stepI P o E w fun E' w' => J (setB L i) E' w')
    (fin : ∀ L E w, (∀ i, i < ops.size → L i = true) → J L E w → K E w) : c.wpIn (FW n) 0 P (RegPost n K) a w := by
  subst hc
  have hz : (fun j => (Array.replicate ops.size false).getD j false) = fun _ => false := by
    funext j
    by_cases hj : j < ops.size <;> simp [hj]
  have h2 := wpAny_inv (K := K) hn hb J step fin ops.size (Array.replicate ops.size false) a E w.drew (by simp) ha (by rw [hz]; exact h0) (Nat.le_trans (List.length_filter_le _ _) (by simp))
  refine wpIn_region_draw fun t => ?_
  refine wpOps_in hn (fun ⟨_, _, h⟩ => h) _ _ _ ?_
  simp only [Region.schedule, hm, Bool.true_or, if_true]
  exact wpAny_sound ops.size t _ a _ h2
def regI (P : Program) (n : Nat) (c : Code) : Bool := match c with
  | .region _ ops d => d && (P.follows .mixedOrders && (opsOk n ops && backOk ops))
  | _ => false
/-- what is to be shown at such a region: an invariant -/
def igK (P : Program) (c : Code) (K : Env → World → Prop) (E : Env) (w : World) : Prop :=
  ∃ J : (Nat → Bool) → Env → World → Prop, J (fun _ => false) E w.drew ∧
    (∀ L E w i o, (Code.ops c)[i]? = some o → L i = false → (∀ e ∈ o.after, Region.binds .any e = true → L e.on = true) → J L E w → stepI P o E w fun E' w' => J (setB L i) E' w') ∧
    ∀ L E w, (∀ i, i < (Code.ops c).size → L i = true) → J L E w → K E w
abbrev siK (P : Program) (c : Code) (K : Env → World → Prop) (E : Env) (w : World) : Prop := igK P (Code.fst c) K E w
variable {Q : Exit → Act → World → Prop} {E : Env} {w : World}
theorem ig (c : Code) (hc : regI P n c = true) (h : igK P c K E w) (hk : ∀ E' w' a', Ag n a' E' → K E' w' → Q .normal a' w') : WP P n c Q E w := by
  obtain ⟨J, h0, step, fin⟩ := h
  unfold regI at hc
  split at hc
  · rename_i id ops d
    simp only [Bool.and_eq_true] at hc
    obtain ⟨rfl, h2, h3, h4⟩ := hc
    exact fun a ha => wpIn_mono (wp_region_inv J h2 rfl h3 h4 ha h0 step fin) fun e a' w' he => by
      cases e with
      | normal => obtain ⟨E', hA, hK⟩ := he; exact hk E' w' a' hA hK
      | _ => exact he.elim
  · cases hc
theorem si (c : Code) (hc : (isSeq c && regI P n (Code.fst c)) = true) (h : siK P c K E w) (hk : ∀ E' w', K E' w' → WP P n (Code.snd c) Q E' w') : WP P n c Q E w :=
  WP.seq (seq_of (and_of hc).1) (ig _ (and_of hc).2 h fun E' w' a' hA hK => nx hA (hk E' w' hK))
end

/-! #### The operations of such a region, one by one -/
def rowOf (o : Oper) : Op × Option Nat × TypeId × List Nat := (o.op, o.dst, o.type, (o.after.toList.filter fun e => Region.binds .any e).map (·.on))
def allI {α : Type} (F : Nat → α → Prop) : List α → Nat → Prop
  | [], _ => True
  | a :: l, i => F i a ∧ allI F l (i + 1)
theorem allI_get {α : Type} {F : Nat → α → Prop} : ∀ {l : List α} {n i : Nat} {a : α}, allI F l n → l[i]? = some a → F (n + i) a
  | [], _, i, a, _, h => by simp at h
  | b :: l, n, 0, a, h, hi => by simp at hi; subst hi; exact h.1
  | b :: l, n, i + 1, a, h, hi => by
    have := allI_get (i := i) h.2 (by simpa using hi)
    rwa [show n + 1 + i = n + (i + 1) by omega] at this
section
variable {P : Program} {K : Env → World → Prop} {E : Env} {w : World}
/-- an operation as a row of a table: what is to be shown of it -/
def RowI (P : Program) (J : (Nat → Bool) → Env → World → Prop) (i : Nat) (r : Op × Option Nat × TypeId × List Nat) : Prop :=
  ∀ L E w o, o.op = r.1 → o.dst = r.2.1 → o.type = r.2.2.1 → L i = false → (∀ j ∈ r.2.2.2, L j = true) → J L E w → stepI P o E w fun E' w' => J (setB L i) E' w'
theorem ig_tab {c : Code} (tab : List (Op × Option Nat × TypeId × List Nat)) (ht : (Code.ops c).toList.map rowOf = tab) (J : (Nat → Bool) → Env → World → Prop) (h0 : J (fun _ => false) E w.drew) (step : allI (RowI P J) tab 0)
    (fin : ∀ L E w, (∀ i, i < tab.length → L i = true) → J L E w → K E w) : igK P c K E w := by
  refine ⟨J, h0, fun L E w i o ho hi hd hJ => ?_, fun L E w hL hJ => fin L E w (fun i hi => hL i ?_) hJ⟩
  · have hr : tab[i]? = some (rowOf o) := by rw [← ht, List.getElem?_map, Array.getElem?_toList, ho]; rfl
    have := allI_get step hr
    rw [Nat.zero_add] at this
    refine this L E w o rfl rfl rfl hi (fun j hj => ?_) hJ
    obtain ⟨e, he, rfl⟩ := List.mem_map.1 hj
    obtain ⟨h1, h2⟩ := List.mem_filter.1 he
    exact hd e (by simpa using h1) h2
  · rw [← ht, List.length_map] at hi
    simpa using hi
theorem st_mv {o : Oper} {t : Nat} {v : Value} (ho : o.op = .move (.tmp t) ∨ o.op = .assign (.tmp t)) (ht : E.get? t = some v) (h : K (E.put o.dst v) w) : stepI P o E w K := by
  obtain ⟨dst, op, ty, pos, after, guard⟩ := o
  have ev : E.ev (.tmp t) = v := by simp [Env.ev, Env.val, ht]
  rcases ho with ho | ho <;> (simp only at ho; subst ho)
  · show pureVC P _ E (fun v _ => K (E.put dst v) w)
    have hc : E.covers ⟨dst, .move (.tmp t), ty, pos, after, guard⟩ = true := by simp [Env.covers, Op.operands, Env.val, ht]
    unfold pureVC
    rw [hc]
    show K (E.put dst (E.ev (.tmp t))) w
    rw [ev]; exact h
  · show pureVC P _ E (fun v _ => K (E.put dst v) w)
    have hc : E.covers ⟨dst, .assign (.tmp t), ty, pos, after, guard⟩ = true := by simp [Env.covers, Op.operands, Env.val, ht]
    unfold pureVC
    rw [hc]
    show K (E.put dst (E.ev (.tmp t))) w
    rw [ev]; exact h
theorem st_ld {o : Oper} {T : TypeId} {t : Nat} {p : Addr} (ho : o.op = .load T (.tmp t)) (ht : E.get? t = some (.pointer (some p))) (h : ldVC P T p w fun v _ => K (E.put o.dst v) w) : stepI P o E w K := by
  obtain ⟨dst, op, ty, pos, after, guard⟩ := o
  simp only at ho
  subst ho
  show (match E.val (.tmp t) with | some (.pointer (some p)) => ldVC P T p w (fun v _ => K (E.put dst v) w) | _ => False)
  rw [show E.val (.tmp t) = some (.pointer (some p)) from ht]
  exact h
theorem st_map {o : Oper} {T : TypeId} (ho : o.op = .makeMap T none) (h : K (E.put o.dst (.map (some w.heap.size))) (w.alloc (.map #[] 0))) : stepI P o E w K := by
  obtain ⟨dst, op, ty, pos, after, guard⟩ := o
  simp only at ho
  subst ho
  have hc : E.covers ⟨dst, .makeMap T none, ty, pos, after, guard⟩ = true := by simp [Env.covers, Op.operands]
  have he : evalVC P ⟨dst, .makeMap T none, ty, pos, after, guard⟩ E w (fun v w' => K (E.put dst v) w') := by
    unfold evalVC
    rw [hc]
    exact h
  unfold stepI
  simp only [calm, cond_false]
  unfold effVC
  exact he
/-! #### What temporaries hold that do not depend on the order -/
/-- entries: 0 or the operation's number and 1; the temporary; its value -/
def Held0 (T : List (Nat × Nat × Value)) (L : Nat → Bool) (E : Env) : Prop := ∀ q ∈ T, (bif Nat.beq q.1 0 then true else L (q.1 - 1)) = true → E.get? q.2.1 = some q.2.2
theorem Held0.get {T : List (Nat × Nat × Value)} {L : Nat → Bool} (h : Held0 T L E) {i d : Nat} {v : Value} (hq : (i, d, v) ∈ T) (hi : (bif Nat.beq i 0 then true else L (i - 1)) = true) : E.get? d = some v := h _ hq hi
theorem get_put_ne {E : Env} {d t : Nat} {v : Value} (h : d ≠ t) : (E.put (some d) v).get? t = E.get? t := by
  have : Nat.beq d t = false := by rw [← Bool.not_eq_true, Nat.beq_eq]; exact h
  simp only [Env.put, Env.get?, this, cond_false]
theorem get_put {E : Env} {d : Nat} {v : Value} : (E.put (some d) v).get? d = some v := by simp [Env.put, Env.get?]
/-- an operation that fills an entry -/
theorem Held0.fill {T : List (Nat × Nat × Value)} {L : Nat → Bool} (h : Held0 T L E) {i d : Nat} {v : Value} (h1 : ∀ q ∈ T, q.1 = i + 1 → q = (i + 1, d, v)) (h2 : ∀ q ∈ T, q.2.1 = d → q.1 = i + 1) : Held0 T (setB L i) (E.put (some d) v) := by
  intro q hq hc
  by_cases hd : q.2.1 = d
  · obtain rfl := h1 q hq (h2 q hq hd)
    exact get_put
  · rw [get_put_ne (fun e => hd e.symm)]
    refine h q hq ?_
    by_cases h0 : q.1 = 0
    · rw [h0]; rfl
    · have hb : Nat.beq q.1 0 = false := by rw [← Bool.not_eq_true, Nat.beq_eq]; exact h0
      rw [hb] at hc ⊢
      have hne : q.1 - 1 ≠ i := fun e => hd (by rw [h1 q hq (by omega)])
      have : Nat.beq (q.1 - 1) i = false := by rw [← Bool.not_eq_true, Nat.beq_eq]; exact hne
      simpa [setB, this] using hc
/-- an operation that fills none -/
theorem Held0.pass {T : List (Nat × Nat × Value)} {L : Nat → Bool} (h : Held0 T L E) {i : Nat} {d : Option Nat} {v : Value} (h1 : ∀ q ∈ T, q.1 ≠ i + 1) (h2 : ∀ q ∈ T, d ≠ some q.2.1) : Held0 T (setB L i) (E.put d v) := by
  intro q hq hc
  have he : (E.put d v).get? q.2.1 = E.get? q.2.1 := by
    cases d with
    | none => rfl
    | some d => exact get_put_ne fun e => h2 q hq (by rw [e])
  rw [he]
  refine h q hq ?_
  by_cases h0 : q.1 = 0
  · rw [h0]; rfl
  · have hb : Nat.beq q.1 0 = false := by rw [← Bool.not_eq_true, Nat.beq_eq]; exact h0
    rw [hb] at hc ⊢
    have hne : q.1 - 1 ≠ i := fun e => h1 q hq (by omega)
    have : Nat.beq (q.1 - 1) i = false := by rw [← Bool.not_eq_true, Nat.beq_eq]; exact hne
    simpa [setB, this] using hc
end
end Go.W
namespace Go.W

/-! ### Variables of a function that nobody else sees -/
structure LC (w : World) (L : List (Nat × List Value × TypeId)) : Prop where
  own : ∀ (i : Nat) (x : Nat × List Value × TypeId), L[i]? = some x → w.heap[x.1]? = some (.cells x.2.1.toArray x.2.2 (0, 0))
  dj : ∀ (i j : Nat) (x y : Nat × List Value × TypeId), L[i]? = some x → L[j]? = some y → x.1 = y.1 → i = j
abbrev bsOf (L : List (Nat × List Value × TypeId)) : List Nat := L.map (·.1)
/-- whatever becomes of the variables -/
def loc (bs : List Nat) (w : World) (K : World → Prop) : Prop := ∀ w', Fr (· ∈ bs) w w' → K w'
/-- a new variable -/
def newV (bs : List Nat) (w : World) (K : Nat → World → Prop) : Prop := ∀ b w', w.heap.size ≤ b → w'.heap.size = b + 1 → Fr (· ∈ bs) w w' → K b w'
/-- a call that leaves the variables alone -/
def callF (bs : List Nat) (P : Program) (f : FuncId) (args : Array Value) (w : World) (K : Post) : Prop := ∃ M : Nat → Prop, (∀ b ∈ bs, ¬ M b) ∧ Calls P f args w fun r w' => Fr M w w' ∧ K r w'
def kept (bs : List Nat) (w w' : World) : Prop := ∀ b ∈ bs, w'.heap[b]? = w.heap[b]?
section
variable {w wT : World} {L : List (Nat × List Value × TypeId)}
theorem LC.nil (w : World) : LC w [] := ⟨fun i x h => by simp at h, fun i j x y h => by simp at h⟩
theorem LC.blk (H : LC w L) {b : Nat} (hb : b ∈ bsOf L) : ∃ (i : Nat) (x : Nat × List Value × TypeId), L[i]? = some x ∧ x.1 = b := by
  obtain ⟨x, hx, rfl⟩ := List.mem_map.1 hb
  obtain ⟨i, hi⟩ := List.mem_iff_getElem?.1 hx
  exact ⟨i, x, hi, rfl⟩
theorem LC.lt (H : LC w L) {b : Nat} (hb : b ∈ bsOf L) : b < w.heap.size := by
  obtain ⟨i, x, hi, rfl⟩ := H.blk hb
  exact lt_of_heap (H.own i x hi)
theorem LC.keptT {w' : World} (H : LC w L) (h : kept (bsOf L) w w') : LC w' L :=
  ⟨fun i x hi => by rw [h x.1 (List.mem_map.2 ⟨x, List.mem_of_getElem? hi, rfl⟩)]; exact H.own i x hi, H.dj⟩
theorem LC.fr {M : Nat → Prop} {w' : World} (H : LC w L) (f : Fr M w w') (hm : ∀ b ∈ bsOf L, ¬ M b) : LC w' L := H.keptT fun b hb => f.keep b (H.lt hb) (hm b hb)
theorem LC.pick (H : LC w L) (is : List Nat) (hn : is.Nodup) : LC w (is.filterMap fun i => L[i]?) := by
  induction is with
  | nil => exact LC.nil w
  | cons k is ih =>
    have ih := ih (List.nodup_cons.1 hn).2
    cases hk : L[k]? with
    | none => rw [List.filterMap_cons_none hk]; exact ih
    | some x =>
      rw [List.filterMap_cons_some hk]
      have back : ∀ (j : Nat) y, (is.filterMap fun i => L[i]?)[j]? = some y → y.1 ≠ x.1 := by
        intro j y hy e
        obtain ⟨m, hm, hmy⟩ := List.mem_filterMap.1 (List.mem_of_getElem? hy)
        have := H.dj m k y x hmy hk e
        subst this
        exact (List.nodup_cons.1 hn).1 hm
      refine ⟨fun i y hi => ?_, fun i j y z hi hj e => ?_⟩
      · cases i with
        | zero => simp at hi; subst hi; exact H.own k x hk
        | succ i => exact ih.own i y (by simpa using hi)
      · cases i with
        | zero =>
          cases j with
          | zero => rfl
          | succ j => simp at hi; subst hi; exact absurd e.symm (back j z (by simpa using hj))
        | succ i =>
          cases j with
          | zero => simp at hj; subst hj; exact absurd e (back i y (by simpa using hi))
          | succ j => rw [ih.dj i j y z (by simpa using hi) (by simpa using hj) e]
theorem LC.ld (H : LC w L) (i j : Nat) {b : Nat} {vs : List Value} {T : TypeId} {v : Value} (hi : L[i]? = some (b, vs, T) := by rfl) (hj : vs[j]? = some v := by rfl) : w.cell? ((at0 b).add j) = some v :=
  cellAt (p := at0 b) (H.own i _ hi) rfl (by simpa using hj)
theorem LC.ld0 (H : LC w L) (i : Nat) {b : Nat} {vs : List Value} {T : TypeId} {v : Value} (hi : L[i]? = some (b, vs, T) := by rfl) (hj : vs[0]? = some v := by rfl) : w.cell? (at0 b) = some v := by
  have := H.ld i 0 hi hj
  rwa [add0] at this
theorem LC.alloc (H : LC w L) (o : Obj) : LC (w.alloc o) L := H.fr (M := fun _ => False) (Fr.alloc _ _ _) (fun _ _ h => h)
theorem LC.push (H : LC w L) (cs : Array Value) (T : TypeId) : LC (w.alloc (.cells cs T)) (L ++ [(w.heap.size, cs.toList, T)]) := by
  have H1 := H.alloc (.cells cs T)
  have old : ∀ (i : Nat) x, L[i]? = some x → x.1 < w.heap.size := fun i x hi => lt_of_heap (H.own i x hi)
  have ix : ∀ (i : Nat) x, (L ++ [(w.heap.size, cs.toList, T)])[i]? = some x → (L[i]? = some x) ∨ (i = L.length ∧ x = (w.heap.size, cs.toList, T)) := by
    intro i x hi
    rw [List.getElem?_append] at hi
    split at hi
    · exact .inl hi
    · rename_i hl
      right
      have : i - L.length = 0 := by
        rcases Nat.eq_zero_or_pos (i - L.length) with h | h
        · exact h
        · rw [List.getElem?_eq_none (by simp; omega)] at hi; cases hi
      rw [this] at hi
      simp at hi
      exact ⟨by omega, hi.symm⟩
  refine ⟨fun i x hi => ?_, fun i j x y hi hj e => ?_⟩
  · rcases ix i x hi with h | ⟨_, rfl⟩
    · exact H1.own i x h
    · simp only [Array.toArray_toList]
      exact heap_new w _
  · rcases ix i x hi with h | ⟨h, rfl⟩
    · rcases ix j y hj with h' | ⟨h', rfl⟩
      · exact H.dj i j x y h h' e
      · have := old i x h; simp only at e; omega
    · rcases ix j y hj with h' | ⟨h', rfl⟩
      · have := old j y h'; simp only at e; omega
      · omega
theorem LC.callT (H : LC w L) {P : Program} {g : FuncId} {args : Array Value} {K K' : Post} (h : callF (bsOf L) P g args w K') (hk : ∀ r w', LC w' L → K' r w' → K r w') : Calls P g args w K := by
  obtain ⟨M, hm, hc⟩ := h
  exact hc.mono fun r w' ⟨f, h'⟩ => hk r w' (H.fr f hm) h'
theorem LC.drT (H : LC w L) {K : World → Prop} (f : Fr (· ∈ bsOf L) wT w) (hk : ∀ w1, LC w1 L → Fr (· ∈ bsOf L) wT w1 → K w1) : drV w K := hk _ (H.fr (M := fun _ => False) (Fr.drew _ _) (fun _ _ h => h)) (f.tr0 (Fr.drew _ _))
theorem bs_set (L : List (Nat × List Value × TypeId)) (i : Nat) {b : Nat} {vs vs' : List Value} {T : TypeId} (hi : L[i]? = some (b, vs, T)) : bsOf (L.set i (b, vs', T)) = bsOf L := by
  apply List.ext_getElem?
  intro k
  simp only [bsOf, List.getElem?_map, List.getElem?_set]
  split
  · rename_i e
    subst e
    rw [hi]
    split
    · rfl
    · rename_i h; exact absurd (List.getElem?_eq_some_iff.1 hi).1 h
  · rfl
theorem LC.set (H : LC w L) (i j : Nat) {b : Nat} {vs : List Value} {T : TypeId} {v : Value} (hi : L[i]? = some (b, vs, T)) (hj : j < vs.length) (f : Fr (· ∈ bsOf L) wT w) :
    (w.cell? ((at0 b).add j)).isSome = true ∧ w.frozen? ((at0 b).add j) = false ∧ LC (w.setCell ((at0 b).add j) v) (L.set i (b, vs.set j v, T)) ∧ Fr (· ∈ bsOf (L.set i (b, vs.set j v, T))) wT (w.setCell ((at0 b).add j) v) := by
  obtain ⟨x1, x2, x3, x4⟩ := set_c (H.own i _ hi) j (by simpa using hj) v
  have hb : b ∈ bsOf L := List.mem_map.2 ⟨_, List.mem_of_getElem? hi, rfl⟩
  refine ⟨x1, x2, ⟨fun k x hk => ?_, fun k m x y hk hm e => ?_⟩, ?_⟩
  · rw [List.getElem?_set] at hk
    split at hk
    · split at hk
      · cases hk
        simp only
        rw [x3]
        simp
      · cases hk
    · rename_i hne
      have := x4.keep x.1 (lt_of_heap (H.own k x hk)) (fun e => hne (H.dj i k _ x hi hk e.symm))
      rw [this]
      exact H.own k x hk
  · have g : ∀ (k : Nat) x, (L.set i (b, vs.set j v, T))[k]? = some x → ∃ y, L[k]? = some y ∧ y.1 = x.1 := by
      intro k x hk
      rw [List.getElem?_set] at hk
      split at hk
      · rename_i e; subst e
        split at hk
        · cases hk; exact ⟨_, hi, rfl⟩
        · cases hk
      · exact ⟨x, hk, rfl⟩
    obtain ⟨x', h1, e1⟩ := g k x hk
    obtain ⟨y', h2, e2⟩ := g m y hm
    exact H.dj k m x' y' h1 h2 (by rw [e1, e2, e])
  · rw [bs_set L i hi]
    exact f.trans x4 fun x _ e => e ▸ hb
theorem callF0 {bs : List Nat} {P : Program} {f : FuncId} {args : Array Value} {K : Post} (h : Calls P f args w fun r w' => Fr0 w w' ∧ K r w') : callF bs P f args w K := ⟨fun _ => False, fun _ _ h => h, h⟩
end

/-! ### Variables among one's own things -/
def En.g (b : Nat) : En := ⟨[b], fun w => b < w.heap.size, fun w w' h hp => (by
    have := h b (by simp) hp
    rcases Nat.lt_or_ge b w'.heap.size with h1 | h1
    · exact h1
    · rw [Array.getElem?_eq_none h1, Array.getElem?_eq_getElem hp] at this; cases this), fun w hp x hx => by simp at hx; subst hx; exact hp, by simp⟩
section
variable {M : Nat → Prop} {w0 w : World} {L D : List En} {bs : List Nat}
theorem LH.ghost (H : LH M w0 w L D) {w' : World} (f : Fr (· ∈ bs) w w') (hbs : ∀ b ∈ bs, En.g b ∈ L) : LH M w0 w' L D := by
  refine ⟨H.fr.trans f fun x hx hm => (H.new _ (hbs x hm) x (by simp [En.g])).resolve_left (by omega), fun e he => ?_, fun e he => ?_, H.new, H.nd, H.dj⟩
  · by_cases hg : ∃ b ∈ bs, b ∈ e.fp
    · obtain ⟨b, hb, hbe⟩ := hg
      obtain ⟨i, hi⟩ := List.mem_iff_getElem?.1 he
      obtain ⟨j, hj⟩ := List.mem_iff_getElem?.1 (hbs b hb)
      have hij : i = j := by
        rcases Nat.decEq i j with h | h
        · exact absurd (by simp [En.g]) (disj_of H.nd hi hj h b hbe)
        · exact h
      subst hij
      rw [hi] at hj
      cases hj
      exact Nat.lt_of_lt_of_le (H.own _ he) f.size
    · exact e.st w w' (fun b hb hl => f.keep b hl fun hm => hg ⟨b, hm, hb⟩) (H.own e he)
  · exact e.st w w' (fun b hb hl => f.keep b hl fun hm => H.dj e he b hb _ (hbs b hm) (by simp [En.g])) (H.rd e he)
theorem LH.locg (H : LH M w0 w L D) {K : World → Prop} (hk : ∀ w1, LH M w0 w1 L D → K w1) (hbs : ∀ b ∈ bs, En.g b ∈ L := by simp) : loc bs w K := fun _ f => hk _ (H.ghost f hbs)
theorem LH.newg (H : LH M w0 w L D) {K : Nat → World → Prop} (hk : ∀ b w1, LH M w0 w1 (L ++ [.g b]) D → K b w1) (hbs : ∀ b ∈ bs, En.g b ∈ L := by simp) : newV bs w K := fun b w1 h1 h2 f => hk b w1 (by
  have H1 := H.ghost f hbs
  refine ⟨H1.fr, fun e he => ?_, H1.rd, fun e he x hx => ?_, ?_, fun e he x hx e' he' hx' => ?_⟩
  · rcases List.mem_append.1 he with he | he
    · exact H1.own e he
    · simp at he; subst he; show b < _; omega
  · rcases List.mem_append.1 he with he | he
    · exact H.new e he x hx
    · simp at he; subst he; simp [En.g] at hx; subst hx; exact .inl (Nat.le_trans H.fr.size h1)
  · rw [List.flatMap_append, List.nodup_append]
    refine ⟨H.nd, by simp [En.g], fun x hx y hy => ?_⟩
    have := H.own_lt x hx
    simp [En.g] at hy
    omega
  · rcases List.mem_append.1 he' with he' | he'
    · exact H.dj e he x hx e' he' hx'
    · simp at he'; subst he'; simp [En.g] at hx'; subst hx'
      have := e.lt w (H.rd e he) x hx
      omega)
theorem LH.callg (H : LH M w0 w L D) {P : Program} {g : FuncId} {args : Array Value} {A K : Post} (hc : Calls P g args w fun r w' => A r w' ∧ Fr0 w w') (hk : ∀ r w', A r w' → LH M w0 w' L D → K r w') : callF bs P g args w K :=
  callF0 (hc.mono fun r w' ⟨ha, f⟩ => ⟨f, hk r w' ha (H.fr0 f)⟩)
/-- the same for a call where nobody watches -/
theorem LH.call (H : LH M w0 w L D) {P : Program} {g : FuncId} {args : Array Value} {A K : Post} (hc : Calls P g args w fun r w' => A r w' ∧ Fr0 w w') (hk : ∀ r w', A r w' → LH M w0 w' L D → K r w') : Calls P g args w K :=
  hc.mono fun r w' ⟨ha, f⟩ => hk r w' ha (H.fr0 f)
/-- a call that returns a row of one's own -/
theorem LH.pushg (H : LH M w0 w L D) {w' : World} (f : Fr0 w w') {e : TypeId} {sz : Nat} {s : Sl} {vs : List Value} (h : OwnRow w' e sz s vs) (hn : ∀ b ∈ blkL s, w.heap.size ≤ b) : LH M w0 w' (L ++ [.row e sz s vs]) D := H.push (.row e sz s vs) f h hn
/-- appending; what becomes of the variables -/
theorem LH.apk (H : LH M w0 w L D) (i : Nat) {P : Program} {t ty e : TypeId} {z : Value} {sz bytes : Nat} (el : ElemOk P t e z sz bytes) {s src : Sl} {xs news : List Value} {K : Sl → World → Prop}
    (hi : L[i]? = some (.row e sz s xs)) (hr : CRow w src news) (hl : news.length = src.n * sz) (h1 : ∀ u ∈ news, u.oneCell' = true) (hb : (s.n + src.n) * bytes ≤ 140737488355328)
    (hK : ∀ s' w', LH M w0 w' (L.set i (.row e sz s' (xs ++ news))) D → s'.n = s.n + src.n → (s'.a = none → s.a = none ∧ src.n = 0) → (∀ b, En.g b ∈ L → w'.heap[b]? = w.heap[b]?) → K s' w') :
    ∃ s' w', (Builtin.append_ #[t, t] ty #[s.v, src.v]).run P w = .ok s'.v w' ∧ K s' w' := by
  obtain ⟨s', w', g1, g2, g3, g4, g5, g6⟩ := append_ownC (ty := ty) el (H.get i hi) hr hl h1 hb
  refine ⟨s', w', g1, hK s' w' (H.upd i (.row e sz s' (xs ++ news)) hi g4 g2 g5) g3 g6 fun b hb => ?_⟩
  refine g4.keep b (H.own _ hb) fun hm => ?_
  obtain ⟨j, hj⟩ := List.mem_iff_getElem?.1 hb
  by_cases hij : i = j
  · subst hij
    rw [hi] at hj
    cases hfp : (En.row e sz s xs) with
    | mk fp P' st lt nd =>
      have e1 : En.row e sz s xs = En.g b := Option.some.inj hj
      have e2 : (En.row e sz s xs).P = (En.g b).P := by rw [e1]
      have e3 := congrFun e2 w
      have e4 : (En.row e sz s xs).P (w.alloc (.cells #[] e)) = (En.g b).P (w.alloc (.cells #[] e)) := by rw [e1]
      have f1 : (En.row e sz s xs).fp = (En.g b).fp := by rw [e1]
      -- a world in which there are blocks, but nothing in them
      have hb0 : (En.g b).P ({ w with heap := Array.replicate (b + 1) (.map #[] 0) }) := by show b < _; simp
      rw [← e2] at hb0
      have hty := (OwnRow.row (show OwnRow ({ w with heap := Array.replicate (b + 1) (.map #[] 0) }) e sz s xs from hb0)).typ b hm
      obtain ⟨cs, f, hc⟩ := hty
      simp at hc
  · exact disj_of H.nd hi hj hij b hm (by simp [En.g])
end
/-! ### Rows of structs, to read -/
def RdN (sz : Nat) (w : World) (s : Sl) (vs : List Value) : Prop := vs.length = s.n * sz ∧ s.n ≤ s.c ∧ CRow w s vs
theorem RdN.fr {sz : Nat} {M : Nat → Prop} {w w' : World} {s : Sl} {vs : List Value} (h : RdN sz w s vs) (hf : Fr M w w') (hn : ∀ b ∈ blkL s, ¬ M b) : RdN sz w' s vs := ⟨h.1, h.2.1, h.2.2.fr hf hn⟩
theorem RdN.fr0 {sz : Nat} {w w' : World} {s : Sl} {vs : List Value} (h : RdN sz w s vs) (hf : Fr0 w w') : RdN sz w' s vs := h.fr hf fun _ _ h => h
theorem OwnRow.rdn {w : World} {e : TypeId} {sz : Nat} {s : Sl} {vs : List Value} (h : OwnRow w e sz s vs) : RdN sz w s vs := ⟨h.len, h.cap, h.row.crow⟩
theorem RdN.nil (sz : Nat) (w : World) : RdN sz w ⟨none, 0, 0⟩ [] := ⟨by simp, Nat.le_refl _, CRow.nil w⟩
def En.rdn (sz : Nat) (s : Sl) (vs : List Value) : En := ⟨if vs = [] then [] else blkL s, fun w => RdN sz w s vs, fun w w' h hp => by
    refine ⟨hp.1, hp.2.1, hp.2.2.1, fun i v hi => ?_⟩
    obtain ⟨p, ha, hc⟩ := hp.2.2.2 i v hi
    have hne : vs ≠ [] := fun e => by subst e; simp at hi
    rw [if_neg hne] at h
    have := h p.block (by simp [blkL, ha]) (by have := cell_lt hc; rwa [add_block] at this)
    refine ⟨p, ha, ?_⟩
    unfold World.cell? at hc ⊢
    rw [add_block] at hc ⊢
    rw [this]; exact hc, fun w hp b hb => by
    split at hb
    · cases hb
    · rename_i hne
      have h0 : 0 < vs.length := List.length_pos_iff.2 hne
      obtain ⟨p, ha, hc⟩ := hp.2.2.2 0 vs[0] (List.getElem?_eq_getElem h0)
      simp [blkL, ha] at hb
      subst hb
      have := cell_lt hc
      rwa [add_block] at this, by split <;> (try simp); unfold blkL; split <;> simp⟩
def subN (sz : Nat) (s : Sl) (l h : Nat) : Sl := ⟨if s.c = l then s.a else s.a.map (·.add (l * sz)), h - l, s.c - l⟩
theorem RdN.sub {sz : Nat} {w : World} {s : Sl} {vs : List Value} (h : RdN sz w s vs) (l hi : Nat) (hl : l ≤ hi) (hh : hi ≤ s.n) : RdN sz w (subN sz s l hi) ((vs.take (hi * sz)).drop (l * sz)) := by
  obtain ⟨h1, h2, h3, h4⟩ := h
  have e1 : hi * sz ≤ s.n * sz := Nat.mul_le_mul_right _ hh
  refine ⟨?_, ?_, ?_, fun i v hv => ?_⟩
  · rw [List.length_drop, List.length_take, h1, Nat.min_eq_left e1]
    show _ = (hi - l) * sz
    rw [Nat.sub_mul]
  · show hi - l ≤ s.c - l
    omega
  · intro ha
    unfold subN at ha ⊢
    simp only at ha ⊢
    split at ha
    · have := h3 ha; omega
    · cases hs : s.a with
      | none => have := h3 hs; omega
      | some p => rw [hs] at ha; cases ha
  · rw [List.getElem?_drop] at hv
    have hlt : l * sz + i < hi * sz := by
      have := (List.getElem?_eq_some_iff.1 hv).1
      rw [List.length_take] at this
      omega
    rw [List.getElem?_take, if_pos hlt] at hv
    obtain ⟨p, hp, hc⟩ := h4 _ _ hv
    have hne : s.c ≠ l := fun e => by
      have : hi ≤ l := by omega
      have := Nat.mul_le_mul_right sz this
      omega
    refine ⟨p.add (l * sz), ?_, ?_⟩
    · unfold subN
      simp only
      rw [if_neg hne, hp]
      rfl
    · rw [add_add]; exact hc
/-! ### Many things at once, and what a call returns -/
def nub : List Nat → List Nat
  | [] => []
  | a :: l => if a ∈ nub l then nub l else a :: nub l
theorem mem_nub {x : Nat} : ∀ {l : List Nat}, x ∈ nub l ↔ x ∈ l
  | [] => Iff.rfl
  | a :: l => by
    unfold nub
    split
    · rename_i h
      rw [mem_nub, List.mem_cons]
      exact ⟨.inr, fun h' => h'.elim (fun e => by subst e; exact mem_nub.1 h) id⟩
    · rw [List.mem_cons, List.mem_cons, mem_nub]
theorem nub_nodup : ∀ l : List Nat, (nub l).Nodup
  | [] => .nil
  | a :: l => by
    unfold nub
    split
    · exact nub_nodup l
    · rename_i h
      exact List.nodup_cons.2 ⟨h, nub_nodup l⟩
def En.all (es : List En) : En := ⟨nub (es.flatMap (·.fp)), fun w => ∀ e ∈ es, e.P w, fun w w' h hp e he => e.st w w' (fun b hb hl => h b (mem_nub.2 (List.mem_flatMap.2 ⟨e, he, hb⟩)) hl) (hp e he),
  fun w hp b hb => (by
    obtain ⟨e, he, hbe⟩ := List.mem_flatMap.1 (mem_nub.1 hb)
    exact e.lt w (hp e he) b hbe), nub_nodup _⟩
section
variable {M : Nat → Prop} {w0 w : World} {L D : List En} {bs : List Nat}
/-- what is new can be kept, or be there to read -/
structure Fresh (M : Nat → Prop) (w0 w w' : World) (L D : List En) : Prop where
  own : ∀ e : En, e.P w' → (∀ b ∈ e.fp, w.heap.size ≤ b) → LH M w0 w' (L ++ [e]) D
  rd : ∀ e : En, e.P w' → (∀ b ∈ e.fp, w.heap.size ≤ b) → LH M w0 w' L (D ++ [e])
theorem LH.fresh (H : LH M w0 w L D) {w' : World} (f : Fr0 w w') : Fresh M w0 w w' L D := ⟨fun e h1 h2 => H.push e f h1 h2, fun e h1 h2 => H.addD e f h1 fun b hb => .inl (h2 b hb)⟩
theorem LH.callr (H : LH M w0 w L D) {P : Program} {g : FuncId} {args : Array Value} {A K : Post} (hc : Calls P g args w fun r w' => A r w' ∧ Fr0 w w') (hk : ∀ r w', A r w' → LH M w0 w' L D → Fresh M w0 w w' L D → K r w') : callF bs P g args w K :=
  callF0 (hc.mono fun r w' ⟨ha, f⟩ => ⟨f, hk r w' ha (H.fr0 f) (H.fresh f)⟩)
theorem LH.callq (H : LH M w0 w L D) {P : Program} {g : FuncId} {args : Array Value} {A K : Post} (hc : Calls P g args w fun r w' => A r w' ∧ Fr0 w w') (hk : ∀ r w', A r w' → LH M w0 w' L D → Fresh M w0 w w' L D → K r w') : Calls P g args w K :=
  hc.mono fun r w' ⟨ha, f⟩ => hk r w' ha (H.fr0 f) (H.fresh f)
end
theorem rdn_fp {sz : Nat} {s : Sl} {vs : List Value} {n : Nat} (h : ∀ b ∈ blkL s, n ≤ b) : ∀ b ∈ (En.rdn sz s vs).fp, n ≤ b := fun b hb => by
  have : b ∈ (if vs = [] then [] else blkL s) := hb
  split at this
  · cases this
  · exact h b this
section
variable {M : Nat → Prop} {w0 w : World} {L D : List En} {bs : List Nat}
theorem LH.apT (H : LH M w0 w L D) (i : Nat) {P : Program} {t ty e : TypeId} {z : Value} {sz bytes : Nat} (el : ElemOk P t e z sz bytes) {s src : Sl} {xs news : List Value} {K : Sl → World → Prop}
    (hi : L[i]? = some (.row e sz s xs)) (hr : RdN sz w src news) (h1 : ∀ u ∈ news, u.oneCell' = true) (hb : (s.n + src.n) * bytes ≤ 140737488355328)
    (hK : ∀ s' w', LH M w0 w' (L.set i (.row e sz s' (xs ++ news))) D → K s' w') (hbs : ∀ b ∈ bs, En.g b ∈ L := by simp) :
    ∃ s' w', (Builtin.append_ #[t, t] ty #[s.v, src.v]).run P w = .ok s'.v w' ∧ kept bs w w' ∧ K s' w' :=
  H.apk i el (K := fun s' w' => kept bs w w' ∧ K s' w') hi hr.2.2 hr.1 h1 hb fun s' w' h _ _ hk => ⟨fun b hb' => hk b (hbs b hb'), hK s' w' h⟩
theorem LH.ap1T (H : LH M w0 w L D) (i : Nat) {P : Program} {t ty e : TypeId} {z : Value} {sz bytes : Nat} (el : ElemOk P t e z sz bytes) {T : TypeId} {s : Sl} {xs : List Value} {news : Array Value} {K : Sl → World → Prop}
    (hi : L[i]? = some (.row e sz s xs)) (hK : ∀ s' w', LH M w0 w' (L.set i (.row e sz s' (xs ++ news.toList))) D → K s' w') (hb : (s.n + 1) * bytes ≤ 140737488355328) (hl : news.size = sz := by rfl) (h1 : ∀ u ∈ news.toList, u.oneCell' = true := by simp [Value.oneCell']) (hbs : ∀ b ∈ bs, En.g b ∈ L := by simp) :
    nwV w (.cells news T) fun w1 => ∃ s' w', (Builtin.append_ #[t, t] ty #[s.v, .slice (some (Addr.mk w.heap.size 0 none)) 1 1]).run P w1 = .ok s'.v w' ∧ kept bs w1 w' ∧ K s' w' := by
  have H1 : LH M w0 (w.alloc (.cells news T)) L D := H.fr0 (Fr.alloc _ _ _)
  exact H1.apT i el (src := ⟨some (at0 w.heap.size), 1, 1⟩) (ty := ty) (K := K) (news := news.toList) hi ⟨by simpa using hl, Nat.le_refl _, (Row.made w T 1 1 news.toList).crow⟩ h1 hb hK hbs
end
end Go.W

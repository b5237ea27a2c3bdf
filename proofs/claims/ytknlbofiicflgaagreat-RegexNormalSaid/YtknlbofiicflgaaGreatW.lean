/-
  A small layer of our own over the kit's wp: environments in place of frames, typed verification conditions of regions, and the rule for a region that draws its order. No program in sight.
-/
import Derived.OrdersHeld
import Derived.OrdersIn
import Derived.RangeFuncLeaves
import Derived.RangeFuncRecord
import Derived.RangeFuncSeq
import Derived.WalkKit
import Derived.Laws.AppendOwn
import Derived.Laws.StructEq
import Derived.KernelRfl
namespace Go.W

/-! ### Environments -/
abbrev Env := List (Nat × Value)

def Env.get? : Env → Nat → Option Value
  | [], _ => none
  | (k, v) :: E, t => bif Nat.beq k t then some v else Env.get? E t

def Env.val (E : Env) : Operand → Option Value
  | .tmp t => E.get? t
  | .const v => some v
  | .global g => some (.pointer (some ⟨g, 0, none⟩))
  | .func f => some (.func (.func f) #[] #[])

def Env.ev (E : Env) (x : Operand) : Value := (E.val x).getD undef

def Env.put (E : Env) (d : Option Nat) (v : Value) : Env :=
  match d with
  | some d => (d, v) :: E
  | none => E

def Env.covers (E : Env) (o : Oper) : Bool := o.op.operands.toList.all fun x => (E.val x).isSome

/-- where a code runs: how many temporaries, which deferred calls are noted, in which round of a loop over a function -/
structure Cx where
  n : Nat
  ds : List Deferred
  ro : Option Nat
instance : CoeHead Cx Nat := ⟨Cx.n⟩
abbrev cx (n : Nat) : Cx := ⟨n, [], none⟩
abbrev FW (n : Cx) : Fence := { Fence.wide with round := n.ro }
structure Ag (n : Cx) (a : Act) (E : Env) : Prop where
  defers : a.defers = n.ds
  size : a.tmps.size = n.n
  get : ∀ t v, E.get? t = some v → a.tmps[t]? = some v

theorem Ag.val {n : Cx} {a : Act} {E : Env} (h : Ag n a E) {x : Operand} {v : Value} (hx : E.val x = some v) : a.eval x = v := by
  cases x with
  | tmp t => have := h.get t v hx; simp [Act.eval, this]
  | const u => simpa [Env.val, Act.eval] using hx
  | global g => simpa [Env.val, Act.eval] using hx
  | func f => simpa [Env.val, Act.eval] using hx

theorem Ag.ev {n : Cx} {a : Act} {E : Env} (h : Ag n a E) {x : Operand} (hx : (E.val x).isSome = true) : a.eval x = E.ev x := by
  obtain ⟨v, hv⟩ := Option.isSome_iff_exists.1 hx
  rw [h.val hv, Env.ev, hv]; rfl

theorem Ag.put {n : Cx} {a : Act} {E : Env} (h : Ag n a E) {d : Option Nat} (v : Value) (hd : ∀ t, d = some t → t < n.n) : Ag n (a.put d v) (E.put d v) := by
  cases d with
  | none => exact h
  | some t =>
    refine ⟨h.defers, by simp [Act.put, h.size], ?_⟩
    intro s u hs
    have ht : t < a.tmps.size := by rw [h.size]; exact hd t rfl
    simp only [Env.put, Env.get?] at hs
    by_cases e : t = s
    · subst e
      simp at hs
      simp [Act.put, ht, hs]
    · have : Nat.beq t s = false := by rw [← Bool.not_eq_true, Nat.beq_eq]; exact e
      simp only [this, cond_false] at hs
      simpa [Act.put, Array.getElem?_setIfInBounds_ne e] using h.get s u hs

/-- forgetting -/
theorem Ag.nil {n : Cx} {a : Act} {E : Env} (h : Ag n a E) : Ag n a [] := ⟨h.defers, h.size, fun _ _ h => by simp [Env.get?] at h⟩
theorem Ag.cons {n : Cx} {a : Act} {E F : Env} (h : Ag n a E) {t : Nat} {v : Value} (ht : E.get? t = some v) (hF : Ag n a F) : Ag n a ((t, v) :: F) := by
  refine ⟨h.defers, h.size, ?_⟩
  intro s u hs
  simp only [Env.get?] at hs
  by_cases e : t = s
  · subst e; simp at hs; subst hs; exact h.get _ _ ht
  · have : Nat.beq t s = false := by rw [← Bool.not_eq_true, Nat.beq_eq]; exact e
    simp only [this, cond_false] at hs
    exact hF.get s u hs

theorem Ag.execOp {n : Cx} {a : Act} {E : Env} (h : Ag n a E) {o : Oper} (hs : ∀ cs b, o.op ≠ .select cs b) (hc : E.covers o = true) : execOp a.eval o = execOp E.ev o :=
  execOp_congr o hs fun x hx => h.ev (by
    have := List.all_eq_true.1 hc x (by simpa using hx)
    exact this)

/-! ### Shapes -/
/-- a slice's three parts -/
structure Sl where
  a : Option Addr
  n : Nat
  c : Nat
abbrev Sl.v (s : Sl) : Value := .slice s.a s.n s.c
abbrev Post := Ending → World → Prop
/-- a function value that is no method of an interface and not nil -/
structure Fv where
  n : Nat
  bs : Array Value
  cs : Array Value
abbrev Fv.v (f : Fv) : Value := .func (.func f.n) f.bs f.cs

def exCell (z : Value) (K : Value → Prop) : Prop :=
  match z with
  | .int k _ => ∃ n : Int, K (.int k n)
  | .bool _ => ∃ b : Bool, K (.bool b)
  | .string _ => ∃ s : ByteArray, K (.string s)
  | .slice _ _ _ => ∃ s : Sl, K s.v
  | .pointer _ => ∃ a : Option Addr, K (.pointer a)
  | .map _ => ∃ r : Option Nat, K (.map r)
  | _ => ∃ v : Value, K v
def exCells : List Value → (List Value → Prop) → Prop
  | [], K => K []
  | z :: zs, K => exCell z fun v => exCells zs fun vs => K (v :: vs)
def exFlat (z : Value) (K : Value → Prop) : Prop :=
  match z with
  | .agg cs => exCells cs.toList fun vs => K (.agg vs.toArray)
  | z => exCell z K
def exFlats : List Value → (List Value → Prop) → Prop
  | [], K => K []
  | z :: zs, K => exFlat z fun v => exFlats zs fun vs => K (v :: vs)
def exAny (z : Value) (K : Value → Prop) : Prop :=
  match z with
  | .tuple zs => exFlats zs.toList fun vs => K (.tuple vs.toArray)
  | z => exFlat z K

theorem exCell_elim {z : Value} {K : Value → Prop} (h : exCell z K) : ∃ v, K v := by
  unfold exCell at h
  split at h
  · obtain ⟨n, h⟩ := h; exact ⟨_, h⟩
  · obtain ⟨n, h⟩ := h; exact ⟨_, h⟩
  · obtain ⟨n, h⟩ := h; exact ⟨_, h⟩
  · obtain ⟨n, h⟩ := h; exact ⟨_, h⟩
  · obtain ⟨n, h⟩ := h; exact ⟨_, h⟩
  · obtain ⟨n, h⟩ := h; exact ⟨_, h⟩
  · exact h
theorem exCells_elim : ∀ {zs : List Value} {K : List Value → Prop}, exCells zs K → ∃ vs, vs.length = zs.length ∧ K vs
  | [], _, h => ⟨[], rfl, h⟩
  | _ :: _, _, h => by
    obtain ⟨v, h⟩ := exCell_elim h
    obtain ⟨vs, hl, h⟩ := exCells_elim h
    exact ⟨v :: vs, by simp [hl], h⟩
theorem exFlat_elim {z : Value} {K : Value → Prop} (h : exFlat z K) : ∃ v, K v := by
  unfold exFlat at h
  split at h
  · obtain ⟨vs, _, h⟩ := exCells_elim h; exact ⟨_, h⟩
  · exact exCell_elim h
theorem exFlats_elim : ∀ {zs : List Value} {K : List Value → Prop}, exFlats zs K → ∃ vs, K vs
  | [], _, h => ⟨[], h⟩
  | _ :: _, _, h => by
    obtain ⟨v, h⟩ := exFlat_elim h
    obtain ⟨vs, h⟩ := exFlats_elim h
    exact ⟨v :: vs, h⟩
theorem exAny_elim {z : Value} {K : Value → Prop} (h : exAny z K) : ∃ v, K v := by
  unfold exAny at h
  split at h
  · obtain ⟨vs, h⟩ := exFlats_elim h; exact ⟨_, h⟩
  · exact exFlat_elim h

def AndT (b : Bool) (p : Prop) : Prop := match b with | true => p | false => False
theorem AndT_elim {b : Bool} {p : Prop} (h : AndT b p) : b = true ∧ p := by
  cases b
  · exact h.elim
  · exact ⟨rfl, h⟩
def sel (t : Bool) (A B : Prop) : Prop := match t with | true => A | false => B
theorem sel_intro {t : Bool} {A B : Prop} (h1 : t = true → A) (h2 : t = false → B) : sel t A B := by
  cases t
  · exact h2 rfl
  · exact h1 rfl
theorem sel_true {t : Bool} {A B : Prop} (ht : t = true) (h : A) : sel t A B := by subst ht; exact h
theorem sel_false {t : Bool} {A B : Prop} (ht : t = false) (h : B) : sel t A B := by subst ht; exact h
def optP (q : Option Addr) (K : Addr → Prop) : Prop := match q with | some p => K p | none => False
theorem optP_elim {q : Option Addr} {K : Addr → Prop} (h : optP q K) : ∃ p, q = some p ∧ K p := by
  cases q with
  | none => exact h.elim
  | some p => exact ⟨p, rfl, h⟩
def andL : List Prop → Prop → Prop
  | [], p => p
  | q :: l, p => q ∧ andL l p
theorem andL_elim : ∀ {l : List Prop} {p : Prop}, andL l p → (∀ q ∈ l, q) ∧ p
  | [], _, h => ⟨fun _ h => (by cases h), h⟩
  | _ :: _, _, h => ⟨fun q hq => by
      rcases List.mem_cons.1 hq with rfl | hq
      · exact h.1
      · exact (andL_elim h.2).1 q hq, (andL_elim h.2).2⟩

/-! ### What needs no memory -/
def pureRun {α : Type} (P : Program) : Sem α → Option α
  | .pure a => some a
  | .program k => pureRun P (k P)
  | _ => none
theorem pureRun_sound {α : Type} {P : Program} : ∀ {s : Sem α} {a : α}, pureRun P s = some a → ∀ w, s.run P w = .ok a w
  | .pure _, _, h, w => by simp [pureRun] at h; subst h; rfl
  | .program k, _, h, w => by simp only [pureRun] at h; exact pureRun_sound h w
  | .load .., _, h, _ | .store .., _, h, _ | .new .., _, h, _ | .shape .., _, h, _ | .freeze .., _, h, _ | .frozen .., _, h, _ | .getObj .., _, h, _ | .setObj .., _, h, _
  | .choose .., _, h, _ | .sys .., _, h, _ | .mark .., _, h, _ | .halt .., _, h, _ => by simp [pureRun] at h

def zeroOf (P : Program) (t : TypeId) : Value := ((P.info? t).bind (·.zero)).getD undef

/-! ### One operation -/
/-- operations that leave the world alone -/
def calm (P : Program) (o : Oper) : Bool :=
  match o.op with
  | .convert s d _ => match P.underlying s, P.underlying d with
    | some (.slice _), some (.slice _) => false
    | some .string, some (.slice _) => false
    | _, _ => true
  | .move _ | .assign _ | .pick .. | .build .. | .load .. | .nilCheck _ | .binOp .. | .unOp .. | .makeInterface .. | .makeFunc .. | .slice .. | .fieldAddr .. | .field .. | .indexAddr .. | .index ..
  | .lookup .. | .typeAssert .. | .extract .. => true
  | .call { callee := .builtin b, .. } => match b with | .len | .cap | .min | .max => true | _ => false
  | _ => false

def bndVC (x : Option Value) (y dflt : Nat) (K : Nat → Prop) : Prop :=
  match x with
  | none => K dflt
  | some (.int _ i) => 0 ≤ i ∧ i ≤ (y : Int) ∧ K i.toNat
  | _ => False

/-- what a cell holds -/
def aggT (P : Program) (T : TypeId) : Option Bool :=
  match P.underlying T with
  | some (.struct _) | some (.array _ _) => some true
  | some _ => some false
  | none => none
def aggOk (P : Program) (T : TypeId) : Bool :=
  match zeroOf P T with
  | .agg cs => aggT P T == some true && (match P.info? T with | some i => i.size == cs.size | none => false)
  | _ => aggT P T == some false
def ldVC (P : Program) (T : TypeId) (p : Addr) (w : World) (K : Value → List (World → Prop) → Prop) : Prop :=
  AndT (aggOk P T) <| match zeroOf P T with
  | .agg cs => exCells cs.toList fun vs => andL (vs.zipIdx.map fun (v, i) => w.cell? (p.add i) = some v) (K (.agg vs.toArray) (vs.zipIdx.map fun (v, i) => fun w' => w'.cell? (p.add i) = some v))
  | .nilFunc => ∃ f : Fv, w.cell? p = some f.v ∧ K f.v [fun w' => w'.cell? p = some f.v]
  | z => exCell z fun v => w.cell? p = some v ∧ K v [fun w' => w'.cell? p = some v]

def pureVC (P : Program) (o : Oper) (E : Env) (K : Value → List (World → Prop) → Prop) : Prop :=
  AndT (E.covers o) (match pureRun P (execOp E.ev o) with | some (.value v) => K v [] | _ => False)

/-- what is read where a function is expected is one -/
def exRd (z : Value) (K : Value → Prop) : Prop :=
  match z with
  | .nilFunc => ∃ f : Fv, K f.v
  | z => exAny z K
theorem exRd_elim {z : Value} {K : Value → Prop} (h : exRd z K) : ∃ v, K v := by
  unfold exRd at h
  split at h
  · obtain ⟨f, h⟩ := h; exact ⟨_, h⟩
  · exact exAny_elim h
/-- a reading of memory, as the model says it -/
def readVC (P : Program) (s : Sem Value) (z : Value) (w : World) (K : Value → List (World → Prop) → Prop) : Prop :=
  exRd z fun v => s.run P w = .ok v w ∧ K v [fun w' => s.run P w' = .ok v w']

def elemSize (P : Program) (T : TypeId) : Option Nat :=
  match P.underlying T with
  | some (.slice e) => (P.info? e).map (·.size)
  | _ => none

def isConst : Operand → Bool
  | .const _ => true
  | _ => false

def nilOk (P : Program) (T : TypeId) (c : Value) : Bool :=
  match P.underlying T, c with
  | some (.slice _), .slice none _ _ => true
  | some (.pointer _), .pointer none => true
  | some (.map _ _), .map none => true
  | _, _ => false
def nilEq : Option Value → Value → Option Bool
  | some (.slice a _ _), .slice none _ _ => some a.isNone
  | some (.pointer a), .pointer none => some a.isNone
  | some (.map r), .map none => some r.isNone
  | _, _ => none

/-- two structs of numbers, strings and bools -/
def eqFs (P : Program) (xs ys : Array Value) : List Field → Option Bool
  | [] => some true
  | f :: fs => bif f.name == "_" then none else match P.underlying f.type, xs[f.offset]?, ys[f.offset]?, eqFs P xs ys fs with
    | some (.int _), some (.int k a), some (.int k' b), some r => bif decide (k = k') then some ((a == b) && r) else none
    | some .string, some (.string a), some (.string b), some r => some ((a.toList == b.toList) && r)
    | some .bool, some (.bool a), some (.bool b), some r => some ((a == b) && r)
    | _, _, _, _ => none
def aggEq (P : Program) (T : TypeId) (xs ys : Array Value) : Option Bool := match P.underlying T with
  | some (.struct fs) => bif (!P.stoodInHeld T && !P.eqGuardType P.depth T) then eqFs P xs ys fs.toList else none
  | _ => none
def eqVC (P : Program) (o : Oper) (E : Env) (T : TypeId) (x y : Operand) (neg : Bool) (K : Value → List (World → Prop) → Prop) : Prop := match E.val x, E.val y with
  | some (.agg xs), some (.agg ys) => match aggEq P T xs ys with
    | some b => K (.bool (bif neg then !b else b)) []
    | none => False
  | _, _ => pureVC P o E K

def calmVC (P : Program) (o : Oper) (E : Env) (w : World) (K : Value → List (World → Prop) → Prop) : Prop :=
  match o.op with
  | .load T x => match E.val x with
    | some (.pointer (some p)) => ldVC P T p w K
    | _ => False
  | .nilCheck x => match E.val x with
    | some (.pointer q) => optP q fun p => K (.pointer (some p)) []
    | _ => pureVC P o E K
  | .indexAddr T x ix => match E.val x, E.val ix with
    | some (.slice a n _), some (.int _ i) => match elemSize P T with
      | some sz => 0 ≤ i ∧ i < (n : Int) ∧ optP a fun p => K (.pointer (some (p.add (i.toNat * sz)))) []
      | none => False
    | _, _ => pureVC P o E K
  | .index T x ix => match P.underlying T, E.val x, E.val ix with
    | some .string, some (.string s), some (.int _ i) => 0 ≤ i ∧ ∃ b : UInt8, s[i.toNat]? = some b ∧ K (.int .u8 b.toNat) []
    | _, _, _ => pureVC P o E K
  | .slice T x lo hi mx => AndT (E.covers o) (match P.underlying T, E.val x with
    | some (.slice _), some (.slice a n c) => match elemSize P T with
      | some sz => bndVC (mx.map E.ev) c c fun m => bndVC (hi.map E.ev) m n fun h => AndT (mx.isNone || hi.isSome) (bndVC (lo.map E.ev) h 0 fun l =>
          K (.slice (if m = l then a else a.map (·.add (l * sz))) (h - l) (m - l)) [])
      | none => False
    | some .string, some (.string s) => AndT mx.isNone (bndVC (hi.map E.ev) s.size s.size fun h => bndVC (lo.map E.ev) h 0 fun l => K (.string (s.extract l h)) [])
    | _, _ => False)
  | .binOp .quo _ x y _ => bif isConst y then pureVC P o E K else match E.val x, E.val y with
    | some (.int k a), some (.int k' b) => AndT (k == k') (b ≠ 0 ∧ K (.int k (k.wrap (a.tdiv b))) [])
    | _, _ => False
  | .binOp .rem _ x y _ => bif isConst y then pureVC P o E K else match E.val x, E.val y with
    | some (.int k a), some (.int k' b) => AndT (k == k') (b ≠ 0 ∧ K (.int k (a.tmod b)) [])
    | _, _ => False
  | .binOp .eql T x (.const c) _ => bif nilOk P T c then (match nilEq (E.val x) c with
    | some b => K (.bool b) []
    | none => False) else eqVC P o E T x (.const c) false K
  | .binOp .neq T x (.const c) _ => bif nilOk P T c then (match nilEq (E.val x) c with
    | some b => K (.bool !b) []
    | none => False) else eqVC P o E T x (.const c) true K
  | .binOp .eql T x y _ => eqVC P o E T x y false K
  | .binOp .neq T x y _ => eqVC P o E T x y true K
  | .binOp .add _ x y _ => match E.val x, E.val y with
    | some (.string s), some (.string t) => ¬ (((s.size + t.size : Nat) : Int) > IntKind.i64.max) ∧ K (.string (s ++ t)) []
    | _, _ => pureVC P o E K
  | .binOp .shl _ x y _ => bif isConst y then pureVC P o E K else match E.val x, E.val y with
    | some (.int k a), some (.int _ b) => ¬ b < 0 ∧ K (.int k (k.wrap (a * 2 ^ (min b.toNat k.bits)))) []
    | _, _ => False
  | .binOp .shr _ x y _ => bif isConst y then pureVC P o E K else match E.val x, E.val y with
    | some (.int k a), some (.int _ b) => ¬ b < 0 ∧ K (.int k (a.fdiv (2 ^ (min b.toNat k.bits)))) []
    | _, _ => False
  | .lookup T x ix ok => match E.val x, E.val ix with
    | some m, some k => readVC P (Instr.lookup T m k ok) (zeroOf P o.type) w K
    | _, _ => False
  | .convert s d x => match P.underlying s, P.underlying d, E.val x with
    | some (.slice _), some .string, some v => readVC P (convert s d v) (.string (ByteArray.mk #[])) w K
    | _, _, _ => pureVC P o E K
  | .call { callee := .builtin .len, args, argTypes } => match args.toList, argTypes.toList with
    | [x], [T] => match P.underlying T, E.val x with
      | some (.map _ _), some m => readVC P (Builtin.len_ #[T] o.type #[m]) (.int .i64 0) w K
      | _, _ => pureVC P o E K
    | _, _ => pureVC P o E K
  | _ => pureVC P o E K

def stVC (p : Addr) : List Value → Nat → World → (World → Prop) → Prop
  | [], _, w, K => K w
  | v :: vs, i, w, K => (w.cell? (p.add i)).isSome = true ∧ w.frozen? (p.add i) = false ∧ stVC p vs (i + 1) (w.setCell (p.add i) v) K

/-- an operation that the run itself decides -/
def evalVC (P : Program) (o : Oper) (E : Env) (w : World) (K : Value → World → Prop) : Prop :=
  AndT (E.covers o) (match (execOp E.ev o).run P w with
    | .ok (.value v) w' => K v w'
    | .ok .skip w' => K undef w'
    | _ => False)
def doVC (P : Program) (s : Sem Value) (z : Value) (w : World) (K : Value → World → Prop) : Prop :=
  exAny z fun v => ∃ w', s.run P w = .ok v w' ∧ K v w'
def doUnitVC (P : Program) (s : Sem Unit) (w : World) (K : Value → World → Prop) : Prop :=
  ∃ w', s.run P w = .ok () w' ∧ K undef w'
def callable (P : Program) (f : FuncId) : Bool := match P.funcs[f]? with | some fn => fn.body.isSome && !(fn.name == "runtime.NumGoroutine") | none => false
/-- a function that has no body: an entry of the model's -/
def extVC (P : Program) (f : FuncId) (args : Array Value) (z : Value) (w : World) (K : Value → World → Prop) : Prop :=
  exAny z fun v => ∃ w', (callFunc f args).run P w = .ok (.value v) w' ∧ K v w'
def callVC (P : Program) (f : FuncId) (args : Array Value) (z : Value) (w : World) (K : Value → World → Prop) : Prop :=
  Calls P f args w fun e w' => exAny z fun v => e = .returned v ∧ K v w'

def oneCell : Value → Bool
  | .agg _ => false
  | .tuple _ => false
  | _ => true

def effVC (P : Program) (o : Oper) (E : Env) (w : World) (K : Value → World → Prop) : Prop :=
  match o.op with
  | .store T x y => match E.val x, E.val y with
    | some (.pointer (some p)), some v => AndT (v.cells.size == (match P.info? T with | some i => i.size | none => 0) && v.cells.toList.all oneCell && (P.info? T).isSome) (stVC p v.cells.toList 0 w fun w' => K undef w')
    | _, _ => False
  | .mapUpdate T m k v | .insert T m k v => match E.val m, E.val k, E.val v with
    | some m, some k, some v => doUnitVC P (Instr.mapUpdate T m k v) w K
    | _, _, _ => False
  | .call { callee := .builtin b, args, argTypes } => AndT (E.covers o) (match b with
    | .append => doVC P (Builtin.append_ argTypes o.type (args.map E.ev)) (.slice none 0 0) w K
    | .copy => doVC P (Builtin.copy_ argTypes o.type (args.map E.ev)) (.int .i64 0) w K
    | .delete => ∃ w', (Builtin.delete_ argTypes o.type (args.map E.ev)).run P w = .ok undef w' ∧ K undef w'
    | .clear => ∃ w', (Builtin.clear_ argTypes o.type (args.map E.ev)).run P w = .ok (.tuple #[]) w' ∧ K (.tuple #[]) w'
    | _ => False)
  | .call { callee := .value (.func f), args, .. } => AndT (E.covers o) (bif callable P f then callVC P f (args.map E.ev) (zeroOf P o.type) w K else extVC P f (args.map E.ev) (zeroOf P o.type) w K)
  | .call { callee := .value (.tmp t), args, .. } => AndT (E.covers o) (match E.get? t with
    | some (.func (.func f) first captured) => AndT (callable P f) (callVC P f (first ++ args.map E.ev ++ captured) (zeroOf P o.type) w K)
    | _ => False)
  | .makeSlice T l c => match E.val l, E.val c with
    | some l, some c => doVC P (Instr.makeSlice T l c) (.slice none 0 0) w K
    | _, _ => False
  | .range T x => match E.val x with
    | some x => ∃ v w', (Instr.range T x).run P w = .ok v w' ∧ K v w'
    | _ => False
  | .next it s => match E.val it with
    | some it => (∃ w', (Instr.next it s o.type).run P w = .ok (.tuple #[.bool false]) w' ∧ K (.tuple #[.bool false]) w') ∨
        (match s with
         | true => ∃ (i c : Int) (w' : World), (Instr.next it s o.type).run P w = .ok (.tuple #[.bool true, .int .i64 i, .int .i32 c]) w' ∧ K (.tuple #[.bool true, .int .i64 i, .int .i32 c]) w'
         | false => ∃ (x y : Value) (w' : World), (Instr.next it s o.type).run P w = .ok (.tuple #[.bool true, x, y]) w' ∧ K (.tuple #[.bool true, x, y]) w')
    | _ => False
  | .entry it => match E.val it with
    | some it => ∃ (x y : Value) (w' : World), (Instr.entry it).run P w = .ok (.tuple #[x, y]) w' ∧ K (.tuple #[x, y]) w'
    | _ => False
  | .convert s d x => match E.val x with
    | some v => doVC P (convert s d v) (.slice none 0 0) w K
    | _ => False
  | _ => evalVC P o E w K

def yieldVC (P : Program) (l : Nat) (args : Array Value) (w : World) (K : Value → World → Prop) : Prop :=
  YieldAt Fence.wide 0 P l args w fun e w' => ∃ b : Bool, e = .returned (.bool b) ∧ K (.bool b) w'
/-- with calls of a loop's yield -/
def effVCy (P : Program) (o : Oper) (E : Env) (w : World) (K : Value → World → Prop) : Prop :=
  match o.op with
  | .call { callee := .value (.tmp t), args, .. } => match E.get? t with
    | some (.func (.yield l) fs cs) => AndT (E.covers o && (Nat.beq fs.size 0 && Nat.beq cs.size 0)) (yieldVC P l (args.map E.ev) w K)
    | _ => effVC P o E w K
  | _ => effVC P o E w K

/-- the printed forms of writing, of new blocks, of other objects and of a drawn order -/
abbrev stV (w : World) (p : Addr) (v : Value) (K : World → Prop) : Prop := (w.cell? p).isSome = true ∧ w.frozen? p = false ∧ K (w.setCell p v)
abbrev nwV (w : World) (o : Obj) (K : World → Prop) : Prop := K (w.alloc o)
abbrev puV (w : World) (l : Nat) (a b : Obj) (K : World → Prop) : Prop := w.heap[l]? = some a ∧ K (w.putObj l b)
abbrev drV (w : World) (K : World → Prop) : Prop := K w.drew


/-! ### Soundness, operation by operation -/
theorem andT_and {a b : Bool} {p : Prop} (h : AndT (a && b) p) : a = true ∧ b = true ∧ p := by
  obtain ⟨h1, h2⟩ := AndT_elim h
  simp at h1
  exact ⟨h1.1, h1.2, h2⟩

theorem isAgg_run {P : Program} {T : TypeId} {b : Bool} (h : aggT P T = some b) (w : World) : (isAgg T).run P w = .ok b w := by
  unfold aggT at h
  unfold isAgg
  cases hu : P.underlying T with
  | none => rw [hu] at h; cases h
  | some d => rw [hu] at h; cases d <;> simp [run_underlying hu] at h ⊢ <;> first | exact h | simp [← h]

theorem run_loadVar_one {P : Program} {T : TypeId} {p : Addr} {v : Value} {w : World} (ha : aggT P T = some false) (hc : w.cell? p = some v) : (loadVar T p).run P w = .ok v w := by
  simp [loadVar, isAgg_run ha, hc]

theorem run_loadVar_agg {P : Program} {T : TypeId} {p : Addr} {vs : List Value} {i : TypeInfo} {w : World} (ha : aggT P T = some true) (hi : P.info? T = some i) (hs : i.size = vs.length)
    (hc : ∀ j v, vs[j]? = some v → w.cell? (p.add j) = some v) : (loadVar T p).run P w = .ok (.agg vs.toArray) w := by
  have := run_loadCells_list (P := P) w p vs hc
  simp [loadVar, isAgg_run ha, sizeOf, typeInfo, hi, hs, this]

/-- what a calm operation is good for -/
def Calm (P : Program) (o : Oper) (ρ : Operand → Value) (w : World) (v : Value) (hs : List (World → Prop)) : Prop :=
  (∀ S ∈ hs, S w) ∧ ∀ w', (∀ S ∈ hs, S w') → (execOp ρ o).run P w' = .ok (.value v) w'

theorem pureVC_sound {P : Program} {o : Oper} {E : Env} {w : World} {n : Cx} {a : Act} {K : Value → List (World → Prop) → Prop} (hs : ∀ cs b, o.op ≠ .select cs b)
    (ha : Ag n a E) (h : pureVC P o E K) : ∃ v S, K v S ∧ Calm P o a.eval w v S := by
  obtain ⟨hc, h⟩ := AndT_elim h
  split at h
  · rename_i v hv
    refine ⟨v, [], h, fun S hS => (by cases hS), fun w' _ => ?_⟩
    rw [ha.execOp hs hc]
    exact pureRun_sound hv w'
  · exact h.elim

theorem readVC_sound {P : Program} {s : Sem Value} {z : Value} {w : World} {K : Value → List (World → Prop) → Prop} {o : Oper} {ρ : Operand → Value} (ho : execOp ρ o = (do pure (.value (← s))))
    (h : readVC P s z w K) : ∃ v S, K v S ∧ Calm P o ρ w v S := by
  obtain ⟨v, hv, hk⟩ := exRd_elim h
  refine ⟨v, _, hk, fun S hS => ?_, fun w' hw' => ?_⟩
  · simp at hS; subst hS; exact hv
  · have hr : s.run P w' = .ok v w' := hw' _ (List.mem_singleton.2 rfl)
    rw [ho]; simp [hr]

theorem bndVC_sound {P : Program} {x : Option Value} {y d : Nat} {K : Nat → Prop} (h : bndVC x y d K) : ∃ l, K l ∧ ((x = none ∧ l = d) ∨ ∃ v, x = some v ∧ ∀ code w, (Instr.sliceBound v y code).run P w = .ok l w) := by
  unfold bndVC at h
  split at h
  · exact ⟨d, h, .inl ⟨rfl, rfl⟩⟩
  · rename_i k i
    obtain ⟨h0, h1, h2⟩ := h
    refine ⟨_, h2, .inr ⟨_, rfl, fun code w => ?_⟩⟩
    simp [Instr.sliceBound, asIntOf, h0, h1]
  · exact h.elim

theorem sliceBounds_run {P : Program} {isS : Bool} {n c m h l : Nat} {L H M : Option Value} {w : World}
    (hm : (M = none ∧ m = c) ∨ ∃ v, M = some v ∧ ∀ code w, (Instr.sliceBound v c code).run P w = .ok m w)
    (hh : (H = none ∧ h = n) ∨ ∃ v, H = some v ∧ ∀ code w, (Instr.sliceBound v m code).run P w = .ok h w)
    (hl : (L = none ∧ l = 0) ∨ ∃ v, L = some v ∧ ∀ code w, (Instr.sliceBound v h code).run P w = .ok l w)
    (hmh : M ≠ none → H = none → False) : (Instr.sliceBounds isS n c L H M).run P w = .ok (l, h, m) w := by
  unfold Instr.sliceBounds
  rcases hm with ⟨rfl, rfl⟩ | ⟨v1, rfl, r1⟩ <;> rcases hh with ⟨rfl, rfl⟩ | ⟨v2, rfl, r2⟩ <;> rcases hl with ⟨rfl, rfl⟩ | ⟨v3, rfl, r3⟩ <;> first | (simp [*]; done) | (exact (hmh (fun h => by cases h) rfl).elim)

theorem ldVC_sound {P : Program} {T : TypeId} {p : Addr} {w : World} {K : Value → List (World → Prop) → Prop} (h : ldVC P T p w K) :
    ∃ v S, K v S ∧ (∀ s ∈ S, s w) ∧ ∀ w', (∀ s ∈ S, s w') → (loadVar T p).run P w' = .ok v w' := by
  obtain ⟨ho, h⟩ := AndT_elim h
  unfold aggOk at ho
  cases hz : zeroOf P T with
  | agg cs =>
    rw [hz] at h ho
    simp only at h ho
    obtain ⟨vs, hl, h⟩ := exCells_elim h
    obtain ⟨hc, hk⟩ := andL_elim h
    rw [Bool.and_eq_true] at ho
    obtain ⟨ha, hi⟩ := ho
    cases hin : P.info? T with
    | none => rw [hin] at hi; simp at hi
    | some i =>
      rw [hin] at hi
      simp at hi ha
      refine ⟨_, _, hk, ?_, fun w' hw' => ?_⟩
      · intro s hs
        obtain ⟨⟨v, j⟩, hm, rfl⟩ := List.mem_map.1 hs
        exact hc _ (List.mem_map.2 ⟨(v, j), hm, rfl⟩)
      · refine run_loadVar_agg ha hin (by rw [hi, hl]; simp) (fun j v hj => ?_)
        have := hw' _ (List.mem_map.2 ⟨(v, j), List.mem_zipIdx_iff_getElem?.2 hj, rfl⟩)
        exact this
  | nilFunc =>
    rw [hz] at h ho
    obtain ⟨f, hc, hk⟩ := h
    simp at ho
    refine ⟨f.v, _, hk, fun s hs => ?_, fun w' hw' => ?_⟩
    · simp at hs; subst hs; exact hc
    · exact run_loadVar_one ho (hw' _ (List.mem_singleton.2 rfl))
  | _ =>
    rw [hz] at h ho
    try simp only at h
    try simp only at ho
    obtain ⟨v, hc, hk⟩ := exCell_elim h
    simp at ho
    refine ⟨v, _, hk, fun s hs => ?_, fun w' hw' => ?_⟩
    · simp at hs; subst hs; exact hc
    · exact run_loadVar_one ho (hw' _ (List.mem_singleton.2 rfl))

theorem elemSize_spec {P : Program} {T : TypeId} {sz : Nat} (h : elemSize P T = some sz) : ∃ e i, P.underlying T = some (.slice e) ∧ P.info? e = some i ∧ i.size = sz := by
  unfold elemSize at h
  split at h
  · rename_i e he
    cases hi : P.info? e with
    | none => rw [hi] at h; cases h
    | some i => rw [hi] at h; simp at h; exact ⟨e, i, he, hi, h⟩
  · cases h

theorem nilEq_cases {v c : Value} {b : Bool} (h : nilEq (some v) c = some b) : (∃ a n m n' m', v = .slice a n m ∧ c = .slice none n' m' ∧ b = a.isNone) ∨ (∃ a, v = .pointer a ∧ c = .pointer none ∧ b = a.isNone) ∨ (∃ r, v = .map r ∧ c = .map none ∧ b = r.isNone) := by
  unfold nilEq at h
  split at h
  · rename_i a n m n' m' hv
    cases hv; cases h
    exact .inl ⟨_, _, _, _, _, rfl, rfl, rfl⟩
  · rename_i a hv
    cases hv; cases h
    exact .inr (.inl ⟨_, rfl, rfl, rfl⟩)
  · rename_i a hv
    cases hv; cases h
    exact .inr (.inr ⟨_, rfl, rfl, rfl⟩)
  · cases h
theorem nilEq_equal {P : Program} {T : TypeId} {c v : Value} {b : Bool} (hn : nilOk P T c = true) (hb : nilEq (some v) c = some b) (w : World) : (Op.equal T v c).run P w = .ok b w := by
  unfold Op.equal Op.maxDepth Op.equalIn
  cases hu : P.underlying T with
  | none => simp [nilOk, hu] at hn
  | some d =>
    simp only [Sem.run_bind, run_underlying hu, Result.andThen_ok]
    unfold nilOk at hn
    rw [hu] at hn
    rcases nilEq_cases hb with ⟨a, n, m, n', m', rfl, rfl, rfl⟩ | ⟨a, rfl, rfl, rfl⟩ | ⟨a, rfl, rfl, rfl⟩ <;> cases d <;> first | (cases hn; done) | (cases a <;> rfl)
theorem nilEq_run {P : Program} {T : TypeId} {c v : Value} {b : Bool} (hn : nilOk P T c = true) (hb : nilEq (some v) c = some b) (w : World) : (binOp .eql T v c).run P w = .ok (.bool b) w := by
  have := nilEq_equal hn hb w
  rcases nilEq_cases hb with ⟨a, n, m, n', m', rfl, rfl, rfl⟩ | ⟨a, rfl, rfl, rfl⟩ | ⟨a, rfl, rfl, rfl⟩ <;> simp [binOp, this]
theorem nilEq_run' {P : Program} {T : TypeId} {c v : Value} {b : Bool} (hn : nilOk P T c = true) (hb : nilEq (some v) c = some b) (w : World) : (binOp .neq T v c).run P w = .ok (.bool !b) w := by
  have := nilEq_equal hn hb w
  rcases nilEq_cases hb with ⟨a, n, m, n', m', rfl, rfl, rfl⟩ | ⟨a, rfl, rfl, rfl⟩ | ⟨a, rfl, rfl, rfl⟩ <;> simp [binOp, this]
theorem nilEq_guard {P : Program} {op : BinOp} {T : TypeId} {c v : Value} {b : Bool} {p q : Operand} (hb : nilEq (some v) c = some b) (w : World) : (eqGuard op T p q v c).run P w = .ok () w := by
  rcases nilEq_cases hb with ⟨a, n, m, n', m', rfl, rfl, rfl⟩ | ⟨a, rfl, rfl, rfl⟩ | ⟨a, rfl, rfl, rfl⟩ <;> cases op <;> rfl

set_option maxHeartbeats 1000000 in
theorem run_part_one {P : Program} {t : TypeId} {u : TypeDesc} (h : P.underlying t = some u) (hu : (match u with | .struct _ | .array _ _ => true | _ => false) = false) {xs : Array Value} {off : Nat} {v : Value} (hx : xs[off]? = some v) (w : World) : (part t xs off).run P w = .ok v w := by
  unfold part isAgg
  cases u <;> first | (simp at hu; done) | simp [run_underlying h, hx]
theorem eqFs_sound {P : Program} {xs ys : Array Value} (d : Nat) (w : World) : ∀ (fs : List Field) (b : Bool), eqFs P xs ys fs = some b → (Op.eqFields (d + 1) xs ys fs).run P w = .ok b w
  | [], b, h => by
    simp [eqFs] at h
    subst h
    rfl
  | f :: fs, b, h => by
    unfold eqFs at h
    cases hn : (f.name == "_") with
    | true => rw [hn] at h; cases h
    | false =>
      rw [hn] at h
      simp only [cond_false] at h
      have hn' : f.name ≠ "_" := by simpa using hn
      unfold Op.eqFields
      rw [if_pos hn']
      split at h
      · rename_i k0 k a k' b' r hu hx hy hr
        cases hk : decide (k = k') with
        | false => rw [hk] at h; cases h
        | true =>
          rw [hk] at h
          have hk' := of_decide_eq_true hk
          subst hk'
          simp only [cond_true, Option.some.injEq] at h
          subst h
          have ih := eqFs_sound d w fs r hr
          simp only [Sem.run_bind, run_part_one hu rfl hx w, run_part_one hu rfl hy w, Result.andThen_ok, run_equalIn_int w d f.type k k0 a b' hu]
          cases hab : (a == b') <;> simp [ih]
      · rename_i a b' r hu hx hy hr
        simp only [Option.some.injEq] at h
        subst h
        have ih := eqFs_sound d w fs r hr
        simp only [Sem.run_bind, run_part_one hu rfl hx w, run_part_one hu rfl hy w, Result.andThen_ok, run_equalIn_string w d f.type a b' hu]
        cases hab : (a.toList == b'.toList) <;> simp [ih]
      · rename_i a b' r hu hx hy hr
        simp only [Option.some.injEq] at h
        subst h
        have ih := eqFs_sound d w fs r hr
        simp only [Sem.run_bind, run_part_one hu rfl hx w, run_part_one hu rfl hy w, Result.andThen_ok, run_equalIn_bool w d f.type a b' hu]
        cases hab : (a == b') <;> simp [ih]
      · cases h
theorem aggEq_sound {P : Program} {T : TypeId} {xs ys : Array Value} {b : Bool} (h : aggEq P T xs ys = some b) (w : World) : P.eqGuardType P.depth T = false ∧ (Op.equalIn 10000 T (.agg xs) (.agg ys)).run P w = .ok b w := by
  unfold aggEq at h
  split at h
  · rename_i fs hu
    cases hg : (!P.stoodInHeld T && !P.eqGuardType P.depth T) with
    | false => rw [hg] at h; cases h
    | true =>
      rw [hg] at h
      simp only [cond_true] at h
      rw [Bool.and_eq_true] at hg
      have h1 : P.stoodInHeld T = false := by simpa using hg.1
      have h2 : P.eqGuardType P.depth T = false := by simpa using hg.2
      have hf : P.fieldsOf T = fs := by unfold Program.fieldsOf; rw [hu]
      refine ⟨h2, ?_⟩
      rw [run_equalIn_struct w 9999 T xs ys (by rw [hf]; exact hu) h1, hf]
      exact eqFs_sound 9998 w _ _ h
  · cases h
theorem eqVC_sound {P : Program} {o : Oper} {E : Env} {w : World} {n : Cx} {a : Act} {K : Value → List (World → Prop) → Prop} {op : BinOp} {T U : TypeId} {x y : Operand} {neg : Bool} (hs : ∀ cs b, o.op ≠ .select cs b)
    (ha : Ag n a E) (hop : o.op = .binOp op T x y U) (hb : (op = .eql ∧ neg = false) ∨ (op = .neq ∧ neg = true)) (h : eqVC P o E T x y neg K) : ∃ v S, K v S ∧ Calm P o a.eval w v S := by
  unfold eqVC at h
  split at h
  · rename_i xs ys hx hy
    split at h
    · rename_i b he
      refine ⟨_, _, h, fun S hS => (by cases hS), fun w' _ => ?_⟩
      obtain ⟨h1, h2⟩ := aggEq_sound he w'
      have e1 : execOp a.eval o = (do pure (.value (← (do eqGuard op T x y (.agg xs) (.agg ys); binOp op T (.agg xs) (.agg ys))))) := by
        simp only [execOp, hop, ha.val hx, ha.val hy]
      rw [e1]
      rcases hb with ⟨rfl, rfl⟩ | ⟨rfl, rfl⟩
      · simp only [Sem.run_bind, run_eqGuard_agg w' _ T x y xs ys h1, Result.andThen_ok, run_eql_struct, h2]
        rfl
      · simp only [Sem.run_bind, run_eqGuard_agg w' _ T x y xs ys h1, Result.andThen_ok, run_neq_struct, h2]
        rfl
    · exact h.elim
  · exact pureVC_sound hs ha h
theorem calmVC_sound {P : Program} {o : Oper} {E : Env} {w : World} {n : Cx} {a : Act} {K : Value → List (World → Prop) → Prop} (hs : ∀ cs b, o.op ≠ .select cs b)
    (ha : Ag n a E) (h : calmVC P o E w K) : ∃ v S, K v S ∧ Calm P o a.eval w v S := by
  have pure' : pureVC P o E K → ∃ v S, K v S ∧ Calm P o a.eval w v S := pureVC_sound hs ha
  unfold calmVC at h
  split at h
  · -- load
    rename_i T x hop
    split at h
    · rename_i p hx
      obtain ⟨v, S, hk, h1, h2⟩ := ldVC_sound h
      refine ⟨v, S, hk, h1, fun w' hw' => ?_⟩
      simp [execOp, hop, Instr.loadAt, ha.val hx, Instr.sureAddr, h2 w' hw']
    · exact h.elim
  · -- nilCheck
    rename_i x hop
    split at h
    · rename_i q hx
      obtain ⟨p, rfl, hk⟩ := optP_elim h
      refine ⟨_, _, hk, fun S hS => (by cases hS), fun w' _ => ?_⟩
      simp [execOp, hop, ha.val hx]
    · exact pure' h
  · -- indexAddr
    rename_i T x ix hop
    split at h
    · rename_i b n c k i hx hi
      split at h
      · rename_i sz hsz
        obtain ⟨h0, h1, h⟩ := h
        obtain ⟨p, rfl, hk⟩ := optP_elim h
        obtain ⟨e, inf, hu, hin, rfl⟩ := elemSize_spec hsz
        refine ⟨_, _, hk, fun S hS => (by cases hS), fun w' _ => ?_⟩
        simp [execOp, hop, ha.val hx, ha.val hi, Instr.indexAt, asIntOf, run_underlying hu, h0, h1, sizeOf, typeInfo, hin]
      · exact h.elim
    · exact pure' h
  · -- index
    rename_i T x ix hop
    split at h
    · rename_i s k i hu hx hi
      obtain ⟨h0, b, hb, hk⟩ := h
      refine ⟨_, _, hk, fun S hS => (by cases hS), fun w' _ => ?_⟩
      simp [execOp, hop, ha.val hx, ha.val hi, Instr.index, asIntOf, run_underlying hu, h0, hb]
    · exact pure' h
  · -- slice
    rename_i T x lo hi mx hop
    obtain ⟨hcov, h⟩ := AndT_elim h
    have hcov' : ∀ y ∈ o.op.operands, (E.val y).isSome = true := fun y hy => List.all_eq_true.1 hcov y (by simpa using hy)
    have hlo : lo.map a.eval = lo.map E.ev := by
      cases lo with
      | none => rfl
      | some y => simp only [Option.map_some]; rw [ha.ev (hcov' y (by rw [hop]; simp [Op.operands]))]
    have hhi : hi.map a.eval = hi.map E.ev := by
      cases hi with
      | none => rfl
      | some y => simp only [Option.map_some]; rw [ha.ev (hcov' y (by rw [hop]; simp [Op.operands]))]
    have hmx : mx.map a.eval = mx.map E.ev := by
      cases mx with
      | none => rfl
      | some y => simp only [Option.map_some]; rw [ha.ev (hcov' y (by rw [hop]; simp [Op.operands]))]
    split at h
    · rename_i e b n c hu hx
      split at h
      · rename_i sz hsz
        obtain ⟨m, h, hm⟩ := bndVC_sound (P := P) h
        obtain ⟨hh, h, hhm⟩ := bndVC_sound (P := P) h
        obtain ⟨hmh, h⟩ := AndT_elim h
        obtain ⟨l, hk, hl⟩ := bndVC_sound (P := P) h
        obtain ⟨e', inf, hu', hin, rfl⟩ := elemSize_spec hsz
        rw [hu'] at hu
        cases hu
        refine ⟨_, _, hk, fun S hS => (by cases hS), fun w' _ => ?_⟩
        have hsl : (Instr.sliceBounds true n c (lo.map E.ev) (hi.map E.ev) (mx.map E.ev)).run P w' = .ok (l, hh, m) w' := by
          refine sliceBounds_run hm hhm hl ?_
          intro h1 h2
          cases mx <;> cases hi <;> simp_all
        simp only [execOp, hop, ha.val hx, hlo, hhi, hmx]
        simp [Instr.sliceAt, run_underlying hu', Instr.slice, hsl, sizeOf, typeInfo, hin]
      · exact h.elim
    · rename_i s hu hx
      obtain ⟨hmn, h'⟩ := AndT_elim h
      clear h
      have hmn' : mx = none := by simpa using hmn
      subst hmn'
      obtain ⟨hh, h, hhm⟩ := bndVC_sound (P := P) h'
      obtain ⟨l, hk, hl⟩ := bndVC_sound (P := P) h
      refine ⟨_, _, hk, fun S hS => (by cases hS), fun w' _ => ?_⟩
      have hsl : (Instr.sliceBounds false s.size s.size (lo.map E.ev) (hi.map E.ev) none).run P w' = .ok (l, hh, s.size) w' := by
        exact sliceBounds_run (.inl ⟨rfl, rfl⟩) hhm hl (fun h1 _ => absurd rfl h1)
      simp only [execOp, hop, ha.val hx, hlo, hhi]
      simp [Instr.sliceAt, run_underlying hu, Instr.slice, hsl]
    · exact h.elim
  · -- quo
    rename_i T x y U hop
    cases hc : isConst y with
    | true => rw [hc] at h; exact pure' h
    | false =>
      rw [hc] at h
      simp only [cond_false] at h
      split at h
      · rename_i k i k' j hx hy
        obtain ⟨hkk, hj, hk⟩ := AndT_elim h
        have hkk' : k = k' := by simpa using hkk
        subst hkk'
        refine ⟨_, _, hk, fun S hS => (by cases hS), fun w' _ => ?_⟩
        simp [execOp, hop, ha.val hx, ha.val hy, eqGuard, binOp, Op.intDiv, hj]
      · exact h.elim
  · -- rem
    rename_i T x y U hop
    cases hc : isConst y with
    | true => rw [hc] at h; exact pure' h
    | false =>
      rw [hc] at h
      simp only [cond_false] at h
      split at h
      · rename_i k i k' j hx hy
        obtain ⟨hkk, hj, hk⟩ := AndT_elim h
        have hkk' : k = k' := by simpa using hkk
        subst hkk'
        refine ⟨_, _, hk, fun S hS => (by cases hS), fun w' _ => ?_⟩
        simp [execOp, hop, ha.val hx, ha.val hy, eqGuard, binOp, Op.intDiv, hj]
      · exact h.elim
  · -- eql
    rename_i T x c U hop
    cases hn : nilOk P T c with
    | false => rw [hn] at h; exact eqVC_sound hs ha hop (.inl ⟨rfl, rfl⟩) h
    | true =>
      rw [hn] at h
      simp only [cond_true] at h
      split at h
      · rename_i b hb
        refine ⟨_, _, h, fun S hS => (by cases hS), fun w' _ => ?_⟩
        cases hx : E.val x with
        | none => rw [hx] at hb; simp [nilEq] at hb
        | some v =>
          rw [hx] at hb
          have e1 : execOp a.eval o = (do pure (.value (← (do eqGuard .eql T x (.const c) v c; binOp .eql T v c)))) := by
            simp only [execOp, hop, ha.val hx]; rfl
          rw [e1]
          simp [nilEq_guard hb w', nilEq_run hn hb w']
      · exact h.elim
  · -- neq
    rename_i T x c U hop
    cases hn : nilOk P T c with
    | false => rw [hn] at h; exact eqVC_sound hs ha hop (.inr ⟨rfl, rfl⟩) h
    | true =>
      rw [hn] at h
      simp only [cond_true] at h
      split at h
      · rename_i b hb
        refine ⟨_, _, h, fun S hS => (by cases hS), fun w' _ => ?_⟩
        cases hx : E.val x with
        | none => rw [hx] at hb; simp [nilEq] at hb
        | some v =>
          rw [hx] at hb
          have e1 : execOp a.eval o = (do pure (.value (← (do eqGuard .neq T x (.const c) v c; binOp .neq T v c)))) := by
            simp only [execOp, hop, ha.val hx]; rfl
          rw [e1]
          simp [nilEq_guard hb w', nilEq_run' hn hb w']
      · exact h.elim
  · -- eql, of two that were computed
    rename_i T x y U _ hop
    exact eqVC_sound hs ha hop (.inl ⟨rfl, rfl⟩) h
  · rename_i T x y U _ hop
    exact eqVC_sound hs ha hop (.inr ⟨rfl, rfl⟩) h
  · -- add
    rename_i T x y U hop
    split at h
    · rename_i s t hx hy
      obtain ⟨h0, hk⟩ := h
      refine ⟨_, _, hk, fun S hS => (by cases hS), fun w' _ => ?_⟩
      have e1 : execOp a.eval o = (do pure (.value (← (do eqGuard .add T x y (.string s) (.string t); binOp .add T (.string s) (.string t))))) := by
        simp only [execOp, hop, ha.val hx, ha.val hy]
      rw [e1]
      simp only [eqGuard, binOp, Op.stringOp, h0]
      rfl
    · exact pure' h
  · -- shl
    rename_i T x y U hop
    cases hc : isConst y with
    | true => rw [hc] at h; exact pure' h
    | false =>
      rw [hc] at h
      simp only [cond_false] at h
      split at h
      · rename_i k i k' j hx hy
        obtain ⟨hj, hk⟩ := h
        refine ⟨_, _, hk, fun S hS => (by cases hS), fun w' _ => ?_⟩
        simp [execOp, hop, ha.val hx, ha.val hy, eqGuard, binOp, Op.shift, hj]
      · exact h.elim
  · -- shr
    rename_i T x y U hop
    cases hc : isConst y with
    | true => rw [hc] at h; exact pure' h
    | false =>
      rw [hc] at h
      simp only [cond_false] at h
      split at h
      · rename_i k i k' j hx hy
        obtain ⟨hj, hk⟩ := h
        refine ⟨_, _, hk, fun S hS => (by cases hS), fun w' _ => ?_⟩
        simp [execOp, hop, ha.val hx, ha.val hy, eqGuard, binOp, Op.shift, hj]
      · exact h.elim
  · -- lookup
    rename_i T x ix ok hop
    split at h
    · rename_i m k hx hi
      exact readVC_sound (by simp [execOp, hop, ha.val hx, ha.val hi]) h
    · exact h.elim
  · -- convert
    rename_i s d x hop
    split at h
    · rename_i e v hsu hdu hx
      exact readVC_sound (by simp [execOp, hop, ha.val hx]) h
    · exact pure' h
  · -- len
    rename_i args tys hop
    split at h
    · rename_i x T hx hT
      split at h
      · rename_i kt et m hu hm
        refine readVC_sound ?_ h
        have e1 : args = #[x] := by rw [← Array.toArray_toList (xs := args), hx]
        have e2 : tys = #[T] := by rw [← Array.toArray_toList (xs := tys), hT]
        simp [execOp, hop, e1, e2, resolve, invoke, builtin, ha.val hm]
      · exact pure' h
    · exact pure' h
  · exact pure' h

theorem stVC_sound {P : Program} {p : Addr} : ∀ {vs : List Value} {i : Nat} {w : World} {K : World → Prop}, vs.all oneCell = true → stVC p vs i w K →
    ∃ w', (storeCells p vs i).run P w = .ok () w' ∧ K w'
  | [], i, w, K, _, h => ⟨w, by simp [storeCells], h⟩
  | v :: vs, i, w, K, h1, h => by
    obtain ⟨hc, hf, h⟩ := h
    rw [List.all_cons, Bool.and_eq_true] at h1
    obtain ⟨w', hr, hk⟩ := stVC_sound (P := P) h1.2 h
    refine ⟨w', ?_, hk⟩
    obtain ⟨u, hu⟩ := Option.isSome_iff_exists.1 hc
    have hst : (store (p.add i) v).run P w = .ok () (w.setCell (p.add i) v) := by
      have h0 := h1.1
      cases v <;> first | (simp [oneCell] at h0; done) | simp [store, Sem.run, hu, hf]
    simp [storeCells, hst, hr]

theorem callable_spec {P : Program} {f : FuncId} (h : callable P f = true) (args : Array Value) (w : World) : (callFunc f args).run P w = .ok (.enter f args) w := by
  unfold callable at h
  cases hf : P.funcs[f]? with
  | none => rw [hf] at h; cases h
  | some fn =>
    rw [hf] at h
    simp at h
    obtain ⟨h1, h2⟩ := h
    have h3 : fn.body ≠ none := by intro hb; rw [hb] at h1; cases h1
    simp [callFunc, hf, h2, h3]

theorem Ag.args {n : Cx} {a : Act} {E : Env} (h : Ag n a E) {args : Array Operand} (hc : ∀ x ∈ args, (E.val x).isSome = true) : args.map a.eval = args.map E.ev :=
  Array.map_congr_left fun x hx => h.ev (hc x hx)

/-- what an operation that acts is good for -/
def Acts (P : Program) (o : Oper) (a : Act) (w : World) (K : Value → World → Prop) : Prop :=
  ∀ Q : Exit → Act → World → Prop, o.wp P a w (fun a' w' => ∃ v, a' = a.put o.dst v ∧ K v w') Q

theorem callVC_sound {P : Program} {f : FuncId} {args : Array Value} {z : Value} {w : World} {K : Value → World → Prop} {o : Oper} {a : Act}
    (hrun : (execOp a.eval o).run P w = .ok (.enter f args) w) (h : callVC P f args z w K) : Acts P o a w K := by
  intro Q
  unfold Oper.wp
  rw [hrun]
  simp only [Oper.upon]
  refine Calls.mono h fun e w' he => ?_
  obtain ⟨v, rfl, hk⟩ := exAny_elim he
  exact ⟨v, rfl, hk⟩

theorem doVC_sound {P : Program} {s : Sem Value} {z : Value} {w : World} {K : Value → World → Prop} {o : Oper} {a : Act}
    (hrun : execOp a.eval o = (do pure (.value (← s)))) (h : doVC P s z w K) : Acts P o a w K := by
  intro Q
  obtain ⟨v, w', hr, hk⟩ := exAny_elim h
  unfold Oper.wp
  rw [hrun]
  simp only [Sem.run_bind, hr, Result.andThen_ok, Sem.run_pure, Oper.upon]
  exact ⟨v, rfl, hk⟩

set_option maxHeartbeats 1000000 in
theorem effVC_sound {P : Program} {o : Oper} {E : Env} {w : World} {n : Cx} {a : Act} {K : Value → World → Prop} (hs : ∀ cs b, o.op ≠ .select cs b)
    (ha : Ag n a E) (h : effVC P o E w K) : Acts P o a w K := by
  unfold effVC at h
  split at h
  · -- store
    rename_i T x y hop
    split at h
    · rename_i p v hx hy
      obtain ⟨hb, h⟩ := AndT_elim h
      rw [Bool.and_eq_true, Bool.and_eq_true] at hb
      obtain ⟨⟨hb1, hb2⟩, hb3⟩ := hb
      obtain ⟨i, hi⟩ := Option.isSome_iff_exists.1 hb3
      rw [hi] at hb1
      have hb1' : v.cells.size = i.size := by simpa using hb1
      obtain ⟨w', hr, hk⟩ := stVC_sound (P := P) hb2 h
      intro Q
      unfold Oper.wp
      have : (execOp a.eval o).run P w = .ok .skip w' := by
        simp [execOp, hop, Instr.storeAt, ha.val hx, ha.val hy, Instr.sureAddr, storeVar, sizeOf, typeInfo, hi, hb1', hr]
      rw [this]
      simp only [Oper.upon]
      exact ⟨_, rfl, hk⟩
    · exact h.elim
  · -- mapUpdate
    rename_i T m k v hop
    split at h
    · rename_i mv kv vv hm hk hv
      obtain ⟨w', hr, hK⟩ := h
      intro Q
      unfold Oper.wp
      have : (execOp a.eval o).run P w = .ok .skip w' := by simp [execOp, hop, ha.val hm, ha.val hk, ha.val hv, hr]
      rw [this]
      simp only [Oper.upon]
      exact ⟨_, rfl, hK⟩
    · exact h.elim
  · -- insert
    rename_i T m k v hop
    split at h
    · rename_i mv kv vv hm hk hv
      obtain ⟨w', hr, hK⟩ := h
      intro Q
      unfold Oper.wp
      have : (execOp a.eval o).run P w = .ok .skip w' := by simp [execOp, hop, ha.val hm, ha.val hk, ha.val hv, hr]
      rw [this]
      simp only [Oper.upon]
      exact ⟨_, rfl, hK⟩
    · exact h.elim
  · -- builtin
    rename_i b args tys hop
    obtain ⟨hc, h⟩ := AndT_elim h
    have hargs : args.map a.eval = args.map E.ev := ha.args fun x hx => List.all_eq_true.1 hc x (by rw [hop]; simp [Op.operands, Call.operands, hx])
    split at h
    · exact doVC_sound (by simp [execOp, hop, resolve, invoke, builtin, hargs]) h
    · exact doVC_sound (by simp [execOp, hop, resolve, invoke, builtin, hargs]) h
    · obtain ⟨w', hr, hk⟩ := h
      intro Q
      unfold Oper.wp
      have : (execOp a.eval o).run P w = .ok (.value undef) w' := by simp [execOp, hop, resolve, invoke, builtin, hargs, hr]
      rw [this]
      simp only [Oper.upon]
      exact ⟨_, rfl, hk⟩
    · obtain ⟨w', hr, hk⟩ := h
      intro Q
      unfold Oper.wp
      have : (execOp a.eval o).run P w = .ok (.value (.tuple #[])) w' := by simp [execOp, hop, resolve, invoke, builtin, hargs, hr]
      rw [this]
      simp only [Oper.upon]
      exact ⟨_, rfl, hk⟩
    · exact h.elim
  · -- call of a function
    rename_i f args tys hop
    obtain ⟨hc, h⟩ := AndT_elim h
    have hargs : args.map a.eval = args.map E.ev := ha.args fun x hx => List.all_eq_true.1 hc x (by rw [hop]; simp [Op.operands, Call.operands, hx])
    cases hca : callable P f with
    | true =>
      rw [hca] at h
      refine callVC_sound ?_ h
      simp [execOp, hop, resolve, Act.eval, Deferred.ofValue, invoke, hargs, callable_spec hca]
    | false =>
      rw [hca, cond_false] at h
      unfold extVC at h
      obtain ⟨v, w', hr, hk⟩ := exAny_elim h
      intro Q
      unfold Oper.wp
      have : (execOp a.eval o).run P w = .ok (.value v) w' := by simp [execOp, hop, resolve, Act.eval, Deferred.ofValue, invoke, hargs, hr]
      rw [this]
      simp only [Oper.upon]
      exact ⟨_, rfl, hk⟩
  · -- call of a function value
    rename_i t args tys hop
    obtain ⟨hc, h⟩ := AndT_elim h
    have hargs : args.map a.eval = args.map E.ev := ha.args fun x hx => List.all_eq_true.1 hc x (by rw [hop]; simp [Op.operands, Call.operands, hx])
    split at h
    · rename_i f first captured hf
      obtain ⟨hca, h⟩ := AndT_elim h
      have hft : a.eval (.tmp t) = .func (.func f) first captured := ha.val (x := .tmp t) hf
      refine callVC_sound ?_ h
      simp [execOp, hop, resolve, hft, Deferred.ofValue, invoke, hargs, callable_spec hca]
    · exact h.elim
  · -- makeSlice
    rename_i T l c hop
    split at h
    · rename_i lv cv hl hc
      exact doVC_sound (by simp [execOp, hop, ha.val hl, ha.val hc]) h
    · exact h.elim
  · -- range
    rename_i T x hop
    split at h
    · rename_i xv hx
      obtain ⟨v, w', hr, hk⟩ := h
      intro Q
      unfold Oper.wp
      have : (execOp a.eval o).run P w = .ok (.value v) w' := by simp [execOp, hop, ha.val hx, hr]
      rw [this]
      simp only [Oper.upon]
      exact ⟨_, rfl, hk⟩
    · exact h.elim
  · -- next
    rename_i it s hop
    split at h
    · rename_i iv hi
      have fin : ∀ (v : Value) (w' : World), (Instr.next iv s o.type).run P w = .ok v w' → K v w' → Acts P o a w K := fun v w' hr hk Q => by
        unfold Oper.wp
        have : (execOp a.eval o).run P w = .ok (.value v) w' := by simp [execOp, hop, ha.val hi, hr]
        rw [this]
        simp only [Oper.upon]
        exact ⟨_, rfl, hk⟩
      rcases h with ⟨w', hr, hk⟩ | h
      · exact fin _ _ hr hk
      · split at h
        · obtain ⟨i, c, w', hr, hk⟩ := h; exact fin _ _ hr hk
        · obtain ⟨i, c, w', hr, hk⟩ := h; exact fin _ _ hr hk
    · exact h.elim
  · -- entry
    rename_i it hop
    split at h
    · rename_i iv hi
      obtain ⟨x, y, w', hr, hk⟩ := h
      intro Q
      unfold Oper.wp
      have : (execOp a.eval o).run P w = .ok (.value (.tuple #[x, y])) w' := by simp [execOp, hop, ha.val hi, hr]
      rw [this]
      simp only [Oper.upon]
      exact ⟨_, rfl, hk⟩
    · exact h.elim
  · -- convert
    rename_i s d x hop
    split at h
    · rename_i v hx
      exact doVC_sound (by simp [execOp, hop, ha.val hx]) h
    · exact h.elim
  · -- by the run
    obtain ⟨hc, h⟩ := AndT_elim h
    intro Q
    unfold Oper.wp
    rw [ha.execOp hs hc]
    generalize (execOp E.ev o).run P w = r at h
    split at h
    · simp only [Oper.upon]; exact ⟨_, rfl, h⟩
    · simp only [Oper.upon]; exact ⟨_, rfl, h⟩
    · exact h.elim

/-! ### The same within a loop over a function -/
def ActsIn (P : Program) (n : Cx) (o : Oper) (a : Act) (w : World) (K : Value → World → Prop) : Prop :=
  ∀ Q : Exit → Act → World → Prop, o.wpIn (FW n) 0 P a w (fun a' w' => ∃ v, a' = a.put o.dst v ∧ K v w') Q
theorem callsIn_FW {n : Cx} {P : Program} {f : FuncId} {args : Array Value} {w : World} {R : Ending → World → Prop} (h : Calls P f args w R) : CallsIn (FW n) 0 P f args w R := by
  have h1 : CallsIn Fence.wide 0 P f args w R := callsIn_wide.2 h
  obtain ⟨n, ds, ro⟩ := n
  cases ro with
  | none => exact h1
  | some l => exact h1
theorem rowsIn_FW {n : Cx} {P : Program} {row : String} {args : Array Value} {w : World} {R : Value → World → Prop} (h : Rows P row args w R) : RowsIn (FW n) 0 P row args w R := by
  intro c cs _
  obtain ⟨v, w', hr, hs⟩ := h c cs
  refine ⟨v, w', hr, ?_⟩
  have := stepsIn_wide.2 hs
  obtain ⟨n, ds, ro⟩ := n
  cases ro with
  | none => exact this
  | some l => exact this
theorem roundIn_FW {n : Cx} {P : Program} {l : Nat} {f : FuncId} {tmps : Array Value} {assign body : Code} {w : World} {R : Ending → World → Prop} (h : RoundIn Fence.wide 0 P l f tmps assign body w R) : RoundIn (FW n) 0 P l f tmps assign body w R := by
  obtain ⟨n, ds, ro⟩ := n
  cases ro with
  | none => exact h
  | some l => exact h
theorem wp_in {P : Program} {n : Cx} {o : Oper} {a : Act} {w : World} {K : Act → World → Prop} {Q : Exit → Act → World → Prop} (hd : ∀ c, o.op ≠ .defer c) (h : o.wp P a w K Q) : o.wpIn (FW n) 0 P a w K Q := by
  refine ⟨fun _ _ => trivial, ?_⟩
  rw [Oper.semAt_eq _ _ _ hd]
  unfold Oper.wp at h
  generalize (execOp a.eval o).run P w = r at *
  cases r with
  | ok nx w' =>
    cases nx <;> simp only [Oper.upon, Oper.uponIn] at h ⊢
    case value => exact h
    case skip => exact h
    case defer => exact h
    case enter f args => exact ⟨fun h => (by cases h), callsIn_FW h⟩
    case row row args => exact ⟨fun h => (by cases h), rowsIn_FW h⟩
  | halt x w' =>
    cases x <;> simp only [Oper.upon, Oper.uponIn] at h ⊢
    exact h
theorem Acts.in {P : Program} {n : Cx} {o : Oper} {a : Act} {w : World} {K : Value → World → Prop} (hd : ∀ c, o.op ≠ .defer c) (h : Acts P o a w K) : ActsIn P n o a w K := fun Q => wp_in hd (h Q)
theorem effVCy_sound {P : Program} {o : Oper} {E : Env} {w : World} {n : Cx} {a : Act} {K : Value → World → Prop} (hs : ∀ cs b, o.op ≠ .select cs b) (hd : ∀ c, o.op ≠ .defer c)
    (ha : Ag n a E) (h : effVCy P o E w K) : ActsIn P n o a w K := by
  unfold effVCy at h
  split at h
  · rename_i t args tys hop
    split at h
    · rename_i l fs cs hf
      obtain ⟨hb, hyv⟩ := AndT_elim h
      clear h
      simp only [Bool.and_eq_true, Nat.beq_eq] at hb
      obtain ⟨hc, h1, h2⟩ := hb
      have e1 : fs = #[] := Array.eq_empty_of_size_eq_zero h1
      have e2 : cs = #[] := Array.eq_empty_of_size_eq_zero h2
      subst e1 e2
      have hargs : args.map a.eval = args.map E.ev := ha.args fun x hx => List.all_eq_true.1 hc x (by rw [hop]; simp [Op.operands, Call.operands, hx])
      have hft : a.eval (.tmp t) = .func (.yield l) #[] #[] := ha.val (x := .tmp t) hf
      intro Q
      obtain ⟨fn, tmps, assign, body, hy, hR⟩ := hyv
      refine ⟨fun _ _ => trivial, ?_⟩
      rw [Oper.semAt_eq _ _ _ hd]
      have : (execOp a.eval o).run P w = .ok (.round l fn tmps assign body) w := by
        simp [execOp, hop, resolve, hft, Deferred.ofValue, invoke, hargs, hy]
      rw [this, Oper.uponIn_round]
      refine ⟨fun h => (by cases h), roundIn_FW (hR.mono ?_)⟩
      rintro e w' ⟨b, rfl, hk⟩
      exact ⟨_, rfl, hk⟩
    · exact (effVC_sound hs ha h).in hd
  · exact (effVC_sound hs ha h).in hd

/-! ### A region -/
def ordD (ops : Array Oper) (i j : Nat) : Bool := match ops[j]? with | some o => o.after.toList.any fun e => Nat.beq e.on i && Region.binds .any e | none => false
/-- ordered, in a few steps -/
def ordN (ops : Array Oper) : Nat → Nat → Nat → Bool
  | 0, i, j => ordD ops i j
  | f + 1, i, j => bif ordD ops i j then true else match ops[j]? with | some o => o.after.toList.any fun e => bif Region.binds .any e then ordN ops f i e.on else false | none => false
def ordT (ops : Array Oper) (i j : Nat) : Bool := ordN ops 4 i j
/-- what is done before is done -/
def Down (ops : Array Oper) (listed : Array Bool) : Prop := ∀ (k : Nat) (o : Oper), ops[k]? = some o → listed.getD k false = true → ∀ e ∈ o.after, Region.binds .any e = true → listed.getD e.on false = true
theorem Down.zero (ops : Array Oper) (n : Nat) : Down ops (Array.replicate n false) := fun k o _ hk => by
  exfalso
  by_cases h : k < n
  · simp [h] at hk
  · simp [h] at hk
theorem Down.set {ops : Array Oper} {listed : Array Bool} (hd : Down ops listed) {i : Nat} (hi : i ∈ Region.ready .any ops listed) : Down ops (listed.setIfInBounds i true) := fun k o ho hk e he hb => by
  obtain ⟨_, oi, hoi, hall⟩ := mem_ready.1 hi
  by_cases hki : i = k
  · subst hki
    rw [hoi] at ho
    cases ho
    exact getD_set_true (hall e he hb)
  · rw [getD_set_ne false hki] at hk
    exact getD_set_true (hd k o ho hk e he hb)
theorem ordD_listed {ops : Array Oper} {listed : Array Bool} {i j : Nat} (hall : ∀ o, ops[j]? = some o → ∀ e ∈ o.after, Region.binds .any e = true → listed.getD e.on false = true) (h : ordD ops i j = true) : listed.getD i false = true := by
  unfold ordD at h
  cases ho : ops[j]? with
  | none => rw [ho] at h; cases h
  | some o =>
    rw [ho] at h
    obtain ⟨e, he, heb⟩ := List.any_eq_true.1 h
    rw [Bool.and_eq_true] at heb
    have hei : e.on = i := by have := heb.1; rwa [Nat.beq_eq] at this
    have := hall o ho e (by simpa using he) heb.2
    rwa [hei] at this
theorem ordN_listed {ops : Array Oper} {listed : Array Bool} (hd : Down ops listed) {i : Nat} : ∀ (f j : Nat), (∀ o, ops[j]? = some o → ∀ e ∈ o.after, Region.binds .any e = true → listed.getD e.on false = true) → ordN ops f i j = true → listed.getD i false = true
  | 0, j, hall, h => ordD_listed hall h
  | f + 1, j, hall, h => by
    unfold ordN at h
    cases hdi : ordD ops i j with
    | true => exact ordD_listed hall hdi
    | false =>
      rw [hdi] at h
      cases ho : ops[j]? with
      | none => rw [ho] at h; cases h
      | some o =>
        rw [ho] at h
        obtain ⟨e, he, heb⟩ := List.any_eq_true.1 h
        cases hb : Region.binds .any e with
        | false => rw [hb] at heb; cases heb
        | true =>
          rw [hb] at heb
          have hl := hall o ho e (by simpa using he) hb
          exact ordN_listed hd f e.on (fun o' ho' e' he' hb' => hd e.on o' ho' hl e' he' hb') heb
abbrev Held := List (Nat × (World → Prop))
def heldBy (ops : Array Oper) (j : Nat) (w : World) : Held → List Prop
  | [] => []
  | (i, S) :: H => bif ordT ops i j then heldBy ops j w H else S w :: heldBy ops j w H
def dropH (ops : Array Oper) (j : Nat) : Held → Held
  | [] => []
  | (i, S) :: H => bif ordT ops i j then dropH ops j H else (i, S) :: dropH ops j H

theorem mem_heldBy {ops : Array Oper} {j : Nat} {w : World} : ∀ {H : Held} {q : Prop}, q ∈ heldBy ops j w H → ∃ p ∈ H, q = p.2 w
  | (i, S) :: H, q, h => by
    unfold heldBy at h
    cases ho : ordT ops i j with
    | true =>
      rw [ho] at h
      obtain ⟨p, hp, rfl⟩ := mem_heldBy (H := H) h
      exact ⟨p, List.mem_cons_of_mem _ hp, rfl⟩
    | false =>
      rw [ho] at h
      rcases List.mem_cons.1 h with rfl | h
      · exact ⟨(i, S), List.mem_cons_self, rfl⟩
      · obtain ⟨p, hp, rfl⟩ := mem_heldBy (H := H) h
        exact ⟨p, List.mem_cons_of_mem _ hp, rfl⟩
theorem heldBy_of {ops : Array Oper} {j : Nat} {w : World} : ∀ {H : Held} {p : Nat × (World → Prop)}, p ∈ H → ordT ops p.1 j = false → p.2 w ∈ heldBy ops j w H
  | (i, S) :: H, p, h, ho => by
    unfold heldBy
    rcases List.mem_cons.1 h with rfl | h
    · simp only at ho; rw [ho]; exact List.mem_cons_self
    · have := heldBy_of (H := H) (w := w) h ho
      cases ordT ops i j
      · exact List.mem_cons_of_mem _ this
      · exact this
theorem mem_dropH {ops : Array Oper} {j : Nat} : ∀ {H : Held} {p : Nat × (World → Prop)}, p ∈ dropH ops j H ↔ p ∈ H ∧ ordT ops p.1 j = false
  | [], p => by simp [dropH]
  | (i, S) :: H, p => by
    unfold dropH
    cases ho : ordT ops i j with
    | true =>
      simp only [cond_true]
      rw [mem_dropH]
      constructor
      · rintro ⟨h1, h2⟩; exact ⟨List.mem_cons_of_mem _ h1, h2⟩
      · rintro ⟨h1, h2⟩
        rcases List.mem_cons.1 h1 with rfl | h1
        · simp only at h2; rw [ho] at h2; cases h2
        · exact ⟨h1, h2⟩
    | false =>
      simp only [cond_false, List.mem_cons]
      rw [mem_dropH]
      constructor
      · rintro (rfl | ⟨h1, h2⟩)
        · exact ⟨.inl rfl, ho⟩
        · exact ⟨.inr h1, h2⟩
      · rintro ⟨rfl | h1, h2⟩
        · exact .inl rfl
        · exact .inr ⟨h1, h2⟩

section
variable {P : Program} {ops : Array Oper} {Q : Exit → Act → World → Prop}

def wpAnyHs (P : Program) (ops : Array Oper) (Q : Exit → Act → World → Prop) : Nat → Held → Array Bool → Act → World → Prop
  | 0, _, listed, a, w => Down ops listed → Region.ready .any ops listed = [] ∧ Q .normal a w
  | fuel + 1, H, listed, a, w => Down ops listed →
    (Region.ready .any ops listed = [] → Q .normal a w) ∧
    ∀ i ∈ Region.ready .any ops listed, wpOp P ops Q i (fun a' w' => (∀ p ∈ dropH ops i H, p.2 w') ∧ wpAnyHs P ops Q fuel (dropH ops i H) (listed.setIfInBounds i true) a' w') a w

theorem wpAny_of_helds : ∀ (fuel : Nat) (H : Held) (listed : Array Bool) (a : Act) (w : World), Down ops listed → wpAnyHs P ops Q fuel H listed a w → wpAny P .any ops Q fuel listed a w
  | 0, _, _, _, _, hd, h => h hd
  | fuel + 1, _, _, _, _, hd, h => ⟨(h hd).1, fun i hi => wpOp_mono (fun a' w' h' => wpAny_of_helds fuel _ _ a' w' (hd.set hi) h'.2) ((h hd).2 i hi)⟩

theorem wpAnyHs_mono : ∀ (fuel : Nat) (H H' : Held) (listed : Array Bool) (a : Act) (w : World), (∀ p ∈ H', p ∈ H) → wpAnyHs P ops Q fuel H listed a w → wpAnyHs P ops Q fuel H' listed a w
  | 0, _, _, _, _, _, _, h => h
  | fuel + 1, H, H', listed, a, w, hs, h => fun hd => ⟨(h hd).1, fun i hi => wpOp_mono (fun a' w' h' => by
      have hsub : ∀ p ∈ dropH ops i H', p ∈ dropH ops i H := fun p hp => mem_dropH.2 ⟨hs p (mem_dropH.1 hp).1, (mem_dropH.1 hp).2⟩
      exact ⟨fun p hp => h'.1 p (hsub p hp), wpAnyHs_mono fuel _ _ _ a' w' hsub h'.2⟩) ((h hd).2 i hi)⟩

theorem not_ordT {i j : Nat} {listed : Array Bool} (hd : Down ops listed) (hi : listed.getD i true = false) (hj : j ∈ Region.ready .any ops listed) : ordT ops i j = false := by
  obtain ⟨_, oj, hoj, hall⟩ := mem_ready.1 hj
  cases ho : ordT ops i j with
  | false => rfl
  | true =>
    have this := ordN_listed hd 4 j (fun o ho' e he hb => by rw [hoj] at ho'; cases ho'; exact hall e he hb) ho
    rcases Nat.lt_or_ge i listed.size with h' | h'
    · simp [h'] at hi this; rw [hi] at this; cases this
    · simp [Array.getElem?_eq_none h'] at this

theorem wpAnyHs_first {i : Nat} {oi : Oper} {v : Value} {Ss : List (World → Prop)} (hi : ops[i]? = some oi) (hsel : ∀ (j : Nat) (o : Oper) cs b, ops[j]? = some o → o.op ≠ .select cs b)
    (hQ : ∀ c a w, Q (.panic c) (a.put oi.dst v) w → Q (.panic c) a w) :
    ∀ (fuel : Nat) (H : Held) (listed : Array Bool) (a : Act) (w : World),
      (∀ j oj, ops[j]? = some oj → j ≠ i → listed.getD j true = false → (∀ e ∈ oj.after, Region.binds .any e = true → e.on ≠ i) → oi.apart ops oj = true) →
      i ∈ Region.ready .any ops listed → YieldsIf P ops (fun w => ∀ S ∈ Ss, S w) oi v a → (∀ S ∈ Ss, S w) → (∀ p ∈ H, p.2 w) →
      wpAnyHs P ops Q fuel (Ss.map (fun S => (i, S)) ++ H) (listed.setIfInBounds i true) (a.put oi.dst v) w → wpAnyHs P ops Q (fuel + 1) H listed a w := by
  intro fuel
  induction fuel with
  | zero =>
    intro H listed a w _ hr hy hS hH G hd
    refine ⟨fun h => (by rw [h] at hr; cases hr), fun j hj => ?_⟩
    by_cases hji : j = i
    · subst hji
      exact hy.wpOp hi hS ⟨fun p hp => hH p (mem_dropH.1 hp).1, G⟩
    · have := ready_mono hj hji
      rw [(G (hd.set hr)).1] at this
      cases this
  | succ fuel ih =>
    intro H listed a w hfree hr hy hS hH G hd
    refine ⟨fun h => (by rw [h] at hr; cases hr), fun j hj => ?_⟩
    by_cases hji : j = i
    · subst hji
      refine hy.wpOp hi hS ⟨fun p hp => hH p (mem_dropH.1 hp).1, ?_⟩
      exact wpAnyHs_mono _ _ _ _ _ _ (fun p hp => List.mem_append_right _ (mem_dropH.1 hp).1) G
    · have h1 := (G (hd.set hr)).2 j (ready_mono hj hji)
      obtain ⟨hjun, oj, hoj, hall⟩ := mem_ready.1 hj
      have h0 := (mem_ready.1 hr).1
      have hnot : ∀ e ∈ oj.after, Region.binds .any e = true → e.on ≠ i := fun e he hb heq => by
        have h1 := hall e he hb
        rw [heq] at h1
        rcases Nat.lt_or_ge i listed.size with h' | h'
        · simp [h'] at h0 h1; rw [h0] at h1; cases h1
        · simp [Array.getElem?_eq_none h'] at h1
      have hord : ordT ops i j = false := not_ordT hd h0 hj
      have h2 := wpOp_putIf hoj (hfree j oj hoj hji hjun hnot) (fun cs b => hsel i oi cs b hi) (fun cs b => hsel j oj cs b hoj) hQ hy h1
      have hfree' : ∀ k ok, ops[k]? = some ok → k ≠ i → (listed.setIfInBounds j true).getD k true = false →
          (∀ e ∈ ok.after, Region.binds .any e = true → e.on ≠ i) → oi.apart ops ok = true := fun k ok hk hki hun hno => by
        refine hfree k ok hk hki ?_ hno
        by_cases hjk : j = k
        · subst hjk; exact hjun
        · rw [getD_set_ne true hjk] at hun; exact hun
      refine wpOp_mono (fun a' w' h3 => ?_) h2
      obtain ⟨hy', hheld, hrest⟩ := h3
      have hH' : ∀ p ∈ dropH ops j H, p.2 w' := fun p hp => hheld p (mem_dropH.2 ⟨List.mem_append_right _ (mem_dropH.1 hp).1, (mem_dropH.1 hp).2⟩)
      have hS' : ∀ S ∈ Ss, S w' := fun S hSm => hheld (i, S) (mem_dropH.2 ⟨List.mem_append_left _ (List.mem_map.2 ⟨S, hSm, rfl⟩), hord⟩)
      refine ⟨hH', ih (dropH ops j H) (listed.setIfInBounds j true) a' w' hfree' (ready_mono hr (Ne.symm hji)) hy' hS' hH' ?_⟩
      rw [Array.setIfInBounds_comm _ _ hji]
      refine wpAnyHs_mono _ _ _ _ _ _ (fun p hp => ?_) hrest
      rcases List.mem_append.1 hp with hp | hp
      · obtain ⟨S, hSm, rfl⟩ := List.mem_map.1 hp
        exact mem_dropH.2 ⟨List.mem_append_left _ hp, hord⟩
      · exact mem_dropH.2 ⟨List.mem_append_right _ (mem_dropH.1 hp).1, (mem_dropH.1 hp).2⟩
end

/-! ### The condition of a region -/
def gslot (ops : Array Oper) (j : Nat) : Option Nat := (ops[j]?).bind (·.dst)
def stepVC (P : Program) (ops : Array Oper) (draw : Bool) (i : Nat) (o : Oper) (E : Env) (w : World) (H : Held) (K : Env → World → Held → Prop) : Prop :=
  bif calm P o then calmVC P o E w fun v Ss => K (E.put o.dst v) w (bif draw then Ss.map (fun S => (i, S)) ++ H else H)
  else (bif draw then effVC else effVCy) P o E w fun v w' => andL (heldBy ops i w' H) (K (E.put o.dst v) w' (dropH ops i H))
def guardVC (P : Program) (ops : Array Oper) (draw : Bool) (i : Nat) (o : Oper) (d : Nat) (want t : Bool) (E : Env) (w : World) (H : Held) (K : Env → World → Held → Prop) : Prop :=
  bif (t == want) then stepVC P ops draw i o ((d, .bool t) :: E) w H K else K (Env.put ((d, .bool t) :: E) o.dst undef) w (bif calm P o then H else dropH ops i H)
def runVC (P : Program) (ops : Array Oper) (draw : Bool) (K : Env → World → Prop) : List Nat → Env → World → Held → Prop
  | [], E, w, _ => K E w
  | i :: l, E, w, H =>
    match ops[i]? with
    | none => False
    | some o => match o.guard with
      | none => stepVC P ops draw i o E w H fun E' w' H' => runVC P ops draw K l E' w' H'
      | some (j, want) => match gslot ops j with
        | none => False
        | some d => match E.get? d with
          | some (.bool t) => sel t (guardVC P ops draw i o d want true E w H fun E' w' H' => runVC P ops draw K l E' w' H') (guardVC P ops draw i o d want false E w H fun E' w' H' => runVC P ops draw K l E' w' H')
          | some (.tuple _) => runVC P ops draw K l (Env.put E o.dst undef) w (bif calm P o then H else dropH ops i H)
          | _ => False

def okOrder (P : Program) (ops : Array Oper) : List Nat → Array Bool → Bool
  | [], listed => (Region.ready .any ops listed).isEmpty
  | i :: l, listed => (match ops[i]? with
      | some o => bif calm P o then Region.free .any ops listed i && (Region.ready .any ops listed).contains i else Region.ready .any ops listed == [i]
      | none => false) && okOrder P ops l (listed.setIfInBounds i true)
def noDefer (o : Oper) : Bool := match o.op with | .defer _ => false | _ => true
def opsOk (n : Nat) (ops : Array Oper) : Bool := Region.noSelect ops && ops.toList.all fun o => noDefer o && match o.dst with | some d => Nat.blt d n | none => true

theorem opsOk_dst {n : Nat} {ops : Array Oper} (h : opsOk n ops = true) {i : Nat} {o : Oper} (ho : ops[i]? = some o) : ∀ t, o.dst = some t → t < n := by
  intro t ht
  unfold opsOk at h
  rw [Bool.and_eq_true] at h
  have := List.all_eq_true.1 h.2 o (by simpa using Array.mem_of_getElem? ho)
  rw [ht, Bool.and_eq_true] at this
  simpa using this.2
theorem opsOk_defer {n : Nat} {ops : Array Oper} (h : opsOk n ops = true) {i : Nat} {o : Oper} (ho : ops[i]? = some o) : ∀ c, o.op ≠ .defer c := by
  intro c hc
  unfold opsOk at h
  rw [Bool.and_eq_true] at h
  have := List.all_eq_true.1 h.2 o (by simpa using Array.mem_of_getElem? ho)
  rw [Bool.and_eq_true] at this
  have := this.1
  unfold noDefer at this
  rw [hc] at this
  cases this

/-- the post of a region -/
def RegPost (n : Cx) (K : Env → World → Prop) : Exit → Act → World → Prop
  | .normal, a, w => ∃ E, Ag n a E ∧ K E w
  | _, _, _ => False

theorem yielded_of {n : Cx} {a : Act} {E : Env} (ha : Ag n a E) {ops : Array Oper} {j d : Nat} {t : Bool} (hd : gslot ops j = some d) (ht : E.get? d = some (.bool t)) : yielded ops a.tmps j = some t := by
  unfold yielded
  unfold gslot at hd
  rw [hd]
  simp [ha.get _ _ ht]

theorem yielded_tuple {n : Cx} {a : Act} {E : Env} (ha : Ag n a E) {ops : Array Oper} {j d : Nat} {vs : Array Value} (hd : gslot ops j = some d) (ht : E.get? d = some (.tuple vs)) : yielded ops a.tmps j = none := by
  unfold yielded
  unfold gslot at hd
  rw [hd]
  simp [ha.get _ _ ht]

theorem Ag.same {n : Cx} {a : Act} {E : Env} (ha : Ag n a E) {d : Nat} {v : Value} (hd : E.get? d = some v) : Ag n a ((d, v) :: E) := ha.cons hd ha

section
variable {P : Program} {ops : Array Oper} {n : Cx} {K : Env → World → Prop}

/-- one step, whichever way it is wanted -/
theorem wpOp_eff {i : Nat} {o : Oper} {a : Act} {w : World} {Kv : Value → World → Prop} {K' : Act → World → Prop} {Q : Exit → Act → World → Prop} (ho : ops[i]? = some o)
    (hw : Region.wanted o (yielded ops a.tmps) = true) (h : Acts P o a w Kv) (hk : ∀ v w', Kv v w' → K' (a.put o.dst v) w') : wpOp P ops Q i K' a w := by
  unfold wpOp
  simp only [ho, hw, if_true]
  exact .inl (Oper.wp_mono (fun a' w' => by rintro ⟨v, rfl, hv⟩; exact hk v w' hv) (h Q))

theorem step_sound_draw {i : Nat} {o : Oper} {a : Act} {E : Env} {w : World} {H : Held} {Kh : Env → World → Held → Prop} {listed : Array Bool} {fuel : Nat} {Q : Exit → Act → World → Prop}
    (hn : opsOk n ops = true) (ho : ops[i]? = some o) (hok : (bif calm P o then Region.free .any ops listed i && (Region.ready .any ops listed).contains i else Region.ready .any ops listed == [i]) = true)
    (hQ : ∀ c a w, Q (.panic c) a w = False) (ha : Ag n a E) (hH : ∀ p ∈ H, p.2 w) (hwant : Region.wanted o (yielded ops a.tmps) = true)
    (h : stepVC P ops true i o E w H Kh)
    (next : ∀ a' E' w' H', Ag n a' E' → (∀ p ∈ H', p.2 w') → Kh E' w' H' → wpAnyHs P ops Q fuel H' (listed.setIfInBounds i true) a' w') : wpAnyHs P ops Q (fuel + 1) H listed a w := by
  have hsel := Region.noSelect_spec (ops := ops) (by unfold opsOk at hn; rw [Bool.and_eq_true] at hn; exact hn.1)
  unfold stepVC at h
  cases hc : calm P o with
  | true =>
    rw [hc] at h hok
    simp only [cond_true] at h hok
    rw [Bool.and_eq_true] at hok
    obtain ⟨v, Ss, hk, hs1, hs2⟩ := calmVC_sound (fun cs b => hsel i o cs b ho) ha h
    refine wpAnyHs_first (v := v) (Ss := Ss) ho hsel (by simp [hQ]) fuel H listed a w (Region.free_spec ho hok.1) (by simpa using hok.2) (.inl ⟨hwant, fun w' hw' => hs2 w' hw'⟩) hs1 hH ?_
    refine next _ _ _ _ (ha.put v (opsOk_dst hn ho)) ?_ hk
    intro p hp
    rcases List.mem_append.1 hp with hp | hp
    · obtain ⟨S, hSm, rfl⟩ := List.mem_map.1 hp; exact hs1 S hSm
    · exact hH p hp
  | false =>
    rw [hc] at h hok
    simp only [cond_false, cond_true] at h hok
    have hr : Region.ready .any ops listed = [i] := by simpa using hok
    refine fun _ => ⟨fun h0 => (by rw [hr] at h0; cases h0), fun j hj => ?_⟩
    rw [hr] at hj
    obtain rfl := List.mem_singleton.1 hj
    refine wpOp_eff ho hwant (effVC_sound (fun cs b => hsel j o cs b ho) ha h) fun v w' hv => ?_
    obtain ⟨h1, h2⟩ := andL_elim hv
    have hH' : ∀ p ∈ dropH ops j H, p.2 w' := fun p hp => h1 _ (heldBy_of (mem_dropH.1 hp).1 (mem_dropH.1 hp).2)
    exact ⟨hH', next _ _ _ _ (ha.put v (opsOk_dst hn ho)) hH' h2⟩

theorem skip_sound_draw {i : Nat} {o : Oper} {a : Act} {w : World} {H : Held} {listed : Array Bool} {fuel : Nat} {Q : Exit → Act → World → Prop}
    (hn : opsOk n ops = true) (ho : ops[i]? = some o) (hok : (bif calm P o then Region.free .any ops listed i && (Region.ready .any ops listed).contains i else Region.ready .any ops listed == [i]) = true)
    (hQ : ∀ c a w, Q (.panic c) a w = False) (hH : ∀ p ∈ H, p.2 w) (hwant : Region.wanted o (yielded ops a.tmps) = false)
    (next : wpAnyHs P ops Q fuel (bif calm P o then H else dropH ops i H) (listed.setIfInBounds i true) (a.put o.dst undef) w) : wpAnyHs P ops Q (fuel + 1) H listed a w := by
  have hsel := Region.noSelect_spec (ops := ops) (by unfold opsOk at hn; rw [Bool.and_eq_true] at hn; exact hn.1)
  cases hc : calm P o with
  | true =>
    rw [hc] at hok next
    simp only [cond_true] at hok next
    rw [Bool.and_eq_true] at hok
    exact wpAnyHs_first (v := undef) (Ss := []) ho hsel (by simp [hQ]) fuel H listed a w (Region.free_spec ho hok.1) (by simpa using hok.2) (.inr ⟨hwant, rfl⟩) (fun S hS => (by cases hS)) hH (by simpa using next)
  | false =>
    rw [hc] at hok next
    simp only [cond_false] at hok next
    have hr : Region.ready .any ops listed = [i] := by simpa using hok
    refine fun _ => ⟨fun h0 => (by rw [hr] at h0; cases h0), fun j hj => ?_⟩
    rw [hr] at hj
    obtain rfl := List.mem_singleton.1 hj
    unfold wpOp
    simp only [ho, hwant]
    exact ⟨fun p hp => hH p (mem_dropH.1 hp).1, next⟩

theorem run_sound_draw (hn : opsOk n ops = true) : ∀ (l : List Nat) (listed : Array Bool) (E : Env) (w : World) (H : Held) (a : Act), okOrder P ops l listed = true → Ag n a E → (∀ p ∈ H, p.2 w) →
    runVC P ops true K l E w H → wpAnyHs P ops (RegPost n K) l.length H listed a w
  | [], listed, E, w, H, a, hok, ha, _, h => fun _ => ⟨by simpa [okOrder] using hok, E, ha, h⟩
  | i :: l, listed, E, w, H, a, hok, ha, hH, h => by
    unfold okOrder at hok
    rw [Bool.and_eq_true] at hok
    obtain ⟨hok, hrest⟩ := hok
    unfold runVC at h
    cases ho : ops[i]? with
    | none => rw [ho] at h; exact h.elim
    | some o =>
      rw [ho] at h hok
      simp only at h hok
      have next : ∀ a' E' w' H', Ag n a' E' → (∀ p ∈ H', p.2 w') → runVC P ops true K l E' w' H' → wpAnyHs P ops (RegPost n K) l.length H' (listed.setIfInBounds i true) a' w' :=
        fun a' E' w' H' hA hHH hR => run_sound_draw hn l _ E' w' H' a' hrest hA hHH hR
      cases hg : o.guard with
      | none =>
        rw [hg] at h
        simp only at h
        exact step_sound_draw hn ho hok (fun _ _ _ => rfl) ha hH (by simp [Region.wanted, hg]) h next
      | some jw =>
        obtain ⟨j, want⟩ := jw
        rw [hg] at h
        simp only at h
        cases hd : gslot ops j with
        | none => rw [hd] at h; exact h.elim
        | some d =>
          rw [hd] at h
          simp only at h
          split at h
          · rename_i t ht
            have hy := yielded_of ha hd ht
            have hg' : guardVC P ops true i o d want t E w H fun E' w' H' => runVC P ops true K l E' w' H' := by
              cases t
              · exact h
              · exact h
            unfold guardVC at hg'
            cases hb : (t == want) with
            | true =>
              rw [hb] at hg'
              exact step_sound_draw hn ho hok (fun _ _ _ => rfl) (ha.same ht) hH (by simp [Region.wanted, hg, hy]; simpa using hb) hg' next
            | false =>
              rw [hb] at hg'
              simp only [cond_false] at hg'
              refine skip_sound_draw hn ho hok (fun _ _ _ => rfl) hH (by simp [Region.wanted, hg, hy]; simpa using hb) ?_
              refine next _ _ _ _ ((ha.same ht).put undef (opsOk_dst hn ho)) ?_ hg'
              intro p hp
              cases hcc : calm P o
              · rw [hcc] at hp; exact hH p (mem_dropH.1 hp).1
              · rw [hcc] at hp; exact hH p hp
          · rename_i vs ht
            have hy := yielded_tuple ha hd ht
            refine skip_sound_draw hn ho hok (fun _ _ _ => rfl) hH (by simp [Region.wanted, hg, hy]) ?_
            refine next _ _ _ _ (ha.put undef (opsOk_dst hn ho)) ?_ h
            intro p hp
            cases hcc : calm P o
            · rw [hcc] at hp; exact hH p (mem_dropH.1 hp).1
            · rw [hcc] at hp; exact hH p hp
          · exact h.elim

theorem wpOpIn_eff {i : Nat} {o : Oper} {a : Act} {w : World} {Kv : Value → World → Prop} {K' : Act → World → Prop} {Q : Exit → Act → World → Prop} (ho : ops[i]? = some o)
    (hw : Region.wanted o (yielded ops a.tmps) = true) (h : ActsIn P n o a w Kv) (hk : ∀ v w', Kv v w' → K' (a.put o.dst v) w') : wpOpIn (FW n) 0 P ops Q i K' a w := by
  unfold wpOpIn
  simp only [ho, hw, if_true]
  exact Oper.wpIn_mono (fun a' w' => by rintro ⟨v, rfl, hv⟩; exact hk v w' hv) (h Q)
theorem step_sound_text {i : Nat} {o : Oper} {a : Act} {E : Env} {w : World} {Kh : Env → World → Held → Prop} {rest : List Nat} {Q : Exit → Act → World → Prop}
    (hn : opsOk n ops = true) (ho : ops[i]? = some o) (ha : Ag n a E) (hwant : Region.wanted o (yielded ops a.tmps) = true) (h : stepVC P ops false i o E w [] Kh)
    (next : ∀ a' E' w', Ag n a' E' → Kh E' w' [] → wpOpsIn (FW n) 0 P ops Q rest a' w') : wpOpsIn (FW n) 0 P ops Q (i :: rest) a w := by
  have hsel := Region.noSelect_spec (ops := ops) (by unfold opsOk at hn; rw [Bool.and_eq_true] at hn; exact hn.1)
  rw [wpOpsIn_cons]
  unfold stepVC at h
  cases hc : calm P o with
  | true =>
    rw [hc] at h
    simp only [cond_true, cond_false] at h
    obtain ⟨v, Ss, hk, hs1, hs2⟩ := calmVC_sound (fun cs b => hsel i o cs b ho) ha h
    refine wpOpIn_eff (Kv := fun v' w' => v' = v ∧ w' = w) ho hwant ?_ ?_
    · refine Acts.in (opsOk_defer hn ho) fun Q' => ?_
      unfold Oper.wp
      rw [hs2 w hs1]
      exact ⟨v, rfl, rfl, rfl⟩
    · rintro v' w' ⟨rfl, rfl⟩
      exact next _ _ _ (ha.put _ (opsOk_dst hn ho)) hk
  | false =>
    rw [hc] at h
    simp only [cond_false, heldBy, andL, dropH] at h
    exact wpOpIn_eff ho hwant (effVCy_sound (fun cs b => hsel i o cs b ho) (opsOk_defer hn ho) ha h) fun v w' hv => next _ _ _ (ha.put v (opsOk_dst hn ho)) hv

theorem run_sound_text (hn : opsOk n ops = true) : ∀ (l : List Nat) (E : Env) (w : World) (a : Act), Ag n a E → runVC P ops false K l E w [] → wpOpsIn (FW n) 0 P ops (RegPost n K) l a w
  | [], E, w, a, ha, h => ⟨E, ha, h⟩
  | i :: l, E, w, a, ha, h => by
    unfold runVC at h
    cases ho : ops[i]? with
    | none => rw [ho] at h; exact h.elim
    | some o =>
      rw [ho] at h
      simp only at h
      have next : ∀ a' E' w', Ag n a' E' → runVC P ops false K l E' w' [] → wpOpsIn (FW n) 0 P ops (RegPost n K) l a' w' := fun a' E' w' hA hR => run_sound_text hn l E' w' a' hA hR
      cases hg : o.guard with
      | none =>
        rw [hg] at h
        simp only at h
        exact step_sound_text (Kh := fun E' w' H' => runVC P ops false K l E' w' H') hn ho ha (by simp [Region.wanted, hg]) h next
      | some jw =>
        obtain ⟨j, want⟩ := jw
        rw [hg] at h
        simp only at h
        cases hd : gslot ops j with
        | none => rw [hd] at h; exact h.elim
        | some d =>
          rw [hd] at h
          simp only at h
          split at h
          · rename_i t ht
            have hy := yielded_of ha hd ht
            have hg' : guardVC P ops false i o d want t E w [] fun E' w' H' => runVC P ops false K l E' w' H' := by
              cases t
              · exact h
              · exact h
            unfold guardVC at hg'
            cases hb : (t == want) with
            | true =>
              rw [hb] at hg'
              exact step_sound_text (Kh := fun E' w' H' => runVC P ops false K l E' w' H') hn ho (ha.same ht) (by simp [Region.wanted, hg, hy]; simpa using hb) hg' next
            | false =>
              rw [hb] at hg'
              simp only [cond_false] at hg'
              have hH0 : (bif calm P o then ([] : Held) else dropH ops i []) = [] := by cases calm P o <;> rfl
              rw [hH0] at hg'
              rw [wpOpsIn_cons]
              unfold wpOpIn
              have hw : Region.wanted o (yielded ops a.tmps) = false := by simp [Region.wanted, hg, hy]; simpa using hb
              simp only [ho, hw]
              exact ⟨fun _ _ => trivial, next _ _ _ ((ha.same ht).put undef (opsOk_dst hn ho)) hg'⟩
          · rename_i vs ht
            have hy := yielded_tuple ha hd ht
            have hH0 : (bif calm P o then ([] : Held) else dropH ops i []) = [] := by cases calm P o <;> rfl
            rw [hH0] at h
            rw [wpOpsIn_cons]
            unfold wpOpIn
            have hw : Region.wanted o (yielded ops a.tmps) = false := by simp [Region.wanted, hg, hy]
            simp only [ho, hw]
            exact ⟨fun _ _ => trivial, next _ _ _ (ha.put undef (opsOk_dst hn ho)) h⟩
          · exact h.elim

/-- **A region.** -/
theorem wp_region_text {c : Code} {id : Nat} {a : Act} {E : Env} {w : World} (hc : c = .region id ops false) (hn : opsOk n ops = true) (ha : Ag n a E)
    (h : runVC P ops false K (List.range ops.size) E w []) : c.wpIn (FW n) 0 P (RegPost n K) a w := by
  subst hc
  exact wpIn_region (run_sound_text hn _ E w a ha h)
theorem wpOps_in (hn : opsOk n ops = true) {Q : Exit → Act → World → Prop} (hQ : ¬ LetsOut Q) : ∀ (l : List Nat) (a : Act) (w : World), wpOps P ops Q l a w → wpOpsIn (FW n) 0 P ops Q l a w
  | [], a, w, h => h
  | i :: l, a, w, h => by
    rw [wpOps_cons] at h
    rw [wpOpsIn_cons]
    unfold wpOp at h
    unfold wpOpIn
    cases ho : ops[i]? with
    | none => rw [ho] at h; exact wpOps_in hn hQ l a w h
    | some o =>
      rw [ho] at h
      simp only at h ⊢
      split
      · rename_i hw
        rw [if_pos hw] at h
        rcases h with h | h
        · exact Oper.wpIn_mono (fun a' w' h' => wpOps_in hn hQ l a' w' h') (wp_in (opsOk_defer hn ho) h)
        · exact absurd h.2 hQ
      · rename_i hw
        rw [if_neg hw] at h
        exact ⟨fun _ _ => trivial, wpOps_in hn hQ l _ w h⟩
theorem wp_region_order {c : Code} {id : Nat} {a : Act} {E : Env} {w : World} {l : List Nat} (hm : P.follows .mixedOrders = true) (hc : c = .region id ops true) (hn : opsOk n ops = true)
    (hl : okOrder P ops l (Array.replicate ops.size false) = true) (hsz : l.length = ops.size) (ha : Ag n a E) (h : runVC P ops true K l E w.drew []) : c.wpIn (FW n) 0 P (RegPost n K) a w := by
  subst hc
  have h1 := run_sound_draw hn l _ E _ [] a hl ha (fun p hp => (by cases hp)) h
  rw [hsz] at h1
  have h2 := wpAny_of_helds _ [] _ _ _ (Down.zero _ _) h1
  refine wpIn_region_draw fun t => ?_
  refine wpOps_in hn (fun ⟨_, _, h⟩ => h) _ _ _ ?_
  simp only [Region.schedule, hm, Bool.true_or, if_true]
  exact wpAny_sound ops.size t _ a _ h2
end

/-! ### Code -/
section
variable {P : Program} {n : Cx}

def Code.isRegion : Code → Bool → Bool
  | .region _ _ d, b => d == b
  | _, _ => false
def Code.ops : Code → Array Oper
  | .region _ ops _ => ops
  | _ => #[]
def Code.fst : Code → Code
  | .seq a _ => a
  | .cond _ a _ => a
  | .block _ a => a
  | .loop a => a
  | .scope a => a
  | c => c
def Code.snd : Code → Code
  | .seq _ b => b
  | .cond _ _ b => b
  | c => c
def Code.asn : Code → Code
  | .rangeFunc _ _ a _ => a
  | c => c
def Code.bdy : Code → Code
  | .rangeFunc _ _ _ b => b
  | c => c
def Code.rid : Code → Nat
  | .region id _ _ => id
  | .block id _ => id
  | _ => 0

/-- a code at an environment -/
abbrev wpx (P : Program) (n : Cx) (c : Code) (Q : Exit → Act → World → Prop) (a : Act) (w : World) : Prop := c.wpIn (FW n) 0 P Q a w
def WP (P : Program) (n : Cx) (c : Code) (Q : Exit → Act → World → Prop) (E : Env) (w : World) : Prop := ∀ a, Ag n a E → wpx P n c Q a w

theorem WP.region {c : Code} {Q : Exit → Act → World → Prop} {E : Env} {w : World} {ops : Array Oper} {id : Nat} (K : Env → World → Prop) (hc : c = .region id ops false) (hn : opsOk n ops = true)
    (h : runVC P ops false K (List.range ops.size) E w []) (hk : ∀ E' w' a', Ag n a' E' → K E' w' → Q .normal a' w') : WP P n c Q E w := fun a ha =>
  wpIn_mono (wp_region_text hc hn ha h) fun e a' w' he => by
    cases e with
    | normal => obtain ⟨E', hA, hK⟩ := he; exact hk E' w' a' hA hK
    | _ => exact he.elim
theorem WP.regionD {c : Code} {Q : Exit → Act → World → Prop} {E : Env} {w : World} {ops : Array Oper} {id : Nat} {l : List Nat} (K : Env → World → Prop) (hm : P.follows .mixedOrders = true) (hc : c = .region id ops true) (hn : opsOk n ops = true)
    (hl : okOrder P ops l (Array.replicate ops.size false) = true) (hsz : l.length = ops.size)
    (h : runVC P ops true K l E w.drew []) (hk : ∀ E' w' a', Ag n a' E' → K E' w' → Q .normal a' w') : WP P n c Q E w := fun a ha =>
  wpIn_mono (wp_region_order hm hc hn hl hsz ha h) fun e a' w' he => by
    cases e with
    | normal => obtain ⟨E', hA, hK⟩ := he; exact hk E' w' a' hA hK
    | _ => exact he.elim
/-- what the kernel is asked of a region, at once -/
def regT (n : Nat) (c : Code) : Bool := match c with | .region _ ops d => !d && opsOk n ops | _ => false
def regD (P : Program) (n : Nat) (c : Code) (l : List Nat) : Bool := match c with
  | .region _ ops d => d && (P.follows .mixedOrders && (opsOk n ops && (okOrder P ops l (Array.replicate ops.size false) && Nat.beq l.length ops.size)))
  | _ => false
theorem WP.reg {c : Code} {Q : Exit → Act → World → Prop} {E : Env} {w : World} (K : Env → World → Prop) (hc : regT n c = true)
    (h : runVC P (Code.ops c) false K (List.range (Code.ops c).size) E w []) (hk : ∀ E' w' a', Ag n a' E' → K E' w' → Q .normal a' w') : WP P n c Q E w := by
  unfold regT at hc
  split at hc
  · rename_i id ops d
    rw [Bool.and_eq_true] at hc
    obtain ⟨h1, h2⟩ := hc
    have h3 : d = false := by simpa using h1
    subst h3
    exact WP.region K rfl h2 h hk
  · cases hc
theorem WP.draw {c : Code} {Q : Exit → Act → World → Prop} {E : Env} {w : World} (l : List Nat) (K : Env → World → Prop) (hc : regD P n c l = true)
    (h : runVC P (Code.ops c) true K l E w.drew []) (hk : ∀ E' w' a', Ag n a' E' → K E' w' → Q .normal a' w') : WP P n c Q E w := by
  unfold regD at hc
  split at hc
  · rename_i id ops d
    simp only [Bool.and_eq_true] at hc
    obtain ⟨rfl, h2, h3, h4, h5⟩ := hc
    rw [Nat.beq_eq] at h5
    exact WP.regionD K h2 rfl h3 h4 h5 h hk
  · cases hc
theorem WP.at {c : Code} {Q : Exit → Act → World → Prop} {E : Env} {w : World} {a : Act} (h : WP P n c Q E w) (ha : Ag n a E) : wpx P n c Q a w := h a ha
theorem WP.seq {c x y : Code} {Q : Exit → Act → World → Prop} {E : Env} {w : World} (hc : c = .seq x y) (h : WP P n x (Exit.then (wpx P n y Q) Q) E w) : WP P n c Q E w := fun a ha => by
  subst hc; exact wpIn_seq (h a ha)
theorem WP.cond {c x y : Code} {o : Operand} {Q : Exit → Act → World → Prop} {E : Env} {w : World} {t : Bool} (hc : c = .cond o x y) (ho : E.val o = some (.bool t)) (h : sel t (WP P n x Q E w) (WP P n y Q E w)) : WP P n c Q E w := fun a ha => by
  subst hc
  refine wpIn_cond_split (ha.val ho) (fun ht => ?_) (fun ht => ?_)
  · subst ht; exact h a ha
  · subst ht; exact h a ha
def condK (v : Option Value) (A B : Prop) : Prop := match v with | some (.bool t) => sel t A B | _ => False
theorem WP.condK {c x y : Code} {o : Operand} {Q : Exit → Act → World → Prop} {E : Env} {w : World} {A B : Prop} (hc : c = .cond o x y) (h1 : A → WP P n x Q E w) (h2 : B → WP P n y Q E w) (h : condK (E.val o) A B) : WP P n c Q E w := by
  unfold W.condK at h
  split at h
  · rename_i t ht
    refine WP.cond hc ht ?_
    cases t
    · exact h2 h
    · exact h1 h
  · exact h.elim
theorem WP.block {c x : Code} {id : Nat} {Q : Exit → Act → World → Prop} {E : Env} {w : World} (hc : c = .block id x) (h : WP P n x (Exit.inBlock id Q) E w) : WP P n c Q E w := fun a ha => by
  subst hc; exact wpIn_block (h a ha)
theorem WP.skip {c : Code} {Q : Exit → Act → World → Prop} {E : Env} {w : World} (hc : c = .skip) (h : ∀ a, Ag n a E → Q .normal a w) : WP P n c Q E w := fun a ha => by
  subst hc; exact wpIn_skip (h a ha)
theorem WP.exit {c : Code} {id : Nat} {Q : Exit → Act → World → Prop} {E : Env} {w : World} (hc : c = .exit id) (h : ∀ a, Ag n a E → Q (.exit id) a w) : WP P n c Q E w := fun a ha => by
  subst hc; exact wpIn_exit (h a ha)
theorem WP.ret {c : Code} {Q : Exit → Act → World → Prop} {E : Env} {w : World} (hc : c = .ret) (h : ∀ a, Ag n a E → Q .ret a w) : WP P n c Q E w := fun a ha => by
  subst hc; exact wpIn_ret (h a ha)

/-- a loop from the head of a round on -/
def LoopWP (P : Program) (n : Cx) (c : Code) (Q : Exit → Act → World → Prop) (a : Act) (w : World) : Prop :=
  ∀ (b : Frame) (k : List Item) (cs : List Frame), b.roundOf = n.ro → ∃ e a' w', Q e a' w' ∧ ArrivesIn (Machine.fenced P (FW n)) P (lone (b.atR a (.code c :: .inLoop c :: k)) cs w) b k cs e a' w'
theorem room_FW (n : Cx) (m : Nat) : (FW n).room m := room_wide m
theorem wp_of_loopWP {c : Code} {Q : Exit → Act → World → Prop} {a : Act} {w : World} (h : LoopWP P n c Q a w) : wpx P n (Code.loop c) Q a w := fun b k cs hro hb hr => by
  obtain ⟨e, a', w', hq, harr⟩ := h b k cs hro
  exact ⟨e, a', w', hq, .of_steps (.one (fenced_calm hb hr rfl) stepR_loop) harr⟩
theorem loopWP_step {c : Code} {Q : Exit → Act → World → Prop} {a : Act} {w : World} (h : wpx P n c (Exit.then (LoopWP P n c Q) Q) a w) : LoopWP P n c Q a w := by
  intro b k cs hro
  have hb : (FW n).fn b.fn := trivial
  have hr : (FW n).room (cs.length + 1 + 0) := room_FW n _
  obtain ⟨e, a₁, w₁, hq, harr⟩ := h b (.inLoop c :: k) cs hro hb hr
  cases e with
  | normal =>
    obtain ⟨e₂, a₂, w₂, hq₂, harr₂⟩ := hq b k cs hro
    exact ⟨e₂, a₂, w₂, hq₂, .of_steps (StepsIn.trans harr (.one (fenced_calm hb hr rfl) stepR_inLoop)) harr₂⟩
  | exit id => exact ⟨_, a₁, w₁, hq, .pass (x := .inLoop c) rfl (fun _ _ => .inl (by simp)) harr⟩
  | goto l => exact ⟨_, a₁, w₁, hq, .pass (x := .inLoop c) rfl (fun _ _ => .inl (by simp)) harr⟩
  | ret => exact ⟨_, a₁, w₁, hq, .pass (x := .inLoop c) rfl (fun _ _ => .inl (by simp)) harr⟩
  | panic ch => exact ⟨_, a₁, w₁, hq, .pass (x := .inLoop c) rfl (fun _ _ => .inl (by simp)) harr⟩
  | outgrown => exact ⟨_, a₁, w₁, hq, .pass (x := .inLoop c) rfl (fun _ _ => .inl (by simp)) harr⟩
/-- the loop at an environment -/
def LP (P : Program) (n : Cx) (c : Code) (Q : Exit → Act → World → Prop) (E : Env) (w : World) : Prop := ∀ a, Ag n a E → LoopWP P n c Q a w
theorem WP.loop {c x : Code} {Q : Exit → Act → World → Prop} {E : Env} {w : World} (hc : c = .loop x) (h : LP P n x Q E w) : WP P n c Q E w := fun a ha => by
  subst hc; exact wp_of_loopWP (h a ha)
theorem LP.step {c : Code} {Q : Exit → Act → World → Prop} {E : Env} {w : World} (h : WP P n c (Exit.then (LoopWP P n c Q) Q) E w) : LP P n c Q E w := fun a ha => loopWP_step (h a ha)

/-! ### The end of a body -/
def packR : List Value → Value
  | [v] => v
  | vs => .tuple vs.toArray
def retGo (P : Program) (E : Env) (w : World) : List ResultVar → (List Value → Prop) → Prop
  | [], K => K []
  | .tmp t :: l, K => match E.get? t with
    | some v => retGo P E w l fun vs => K (v :: vs)
    | none => False
  | .cell x T :: l, K => match E.get? x with
    | some (.pointer (some p)) => ldVC P T p w fun v _ => retGo P E w l fun vs => K (v :: vs)
    | _ => False
/-- what a body returns -/
def retVC (P : Program) (fn : Func) (E : Env) (w : World) (K : Value → Prop) : Prop := retGo P E w fn.results.toList fun vs => K (packR vs)

def resOf (tmps : Array Value) : ResultVar → Sem Value
  | .tmp t => pure (tmps.getD t undef)
  | .cell a t => do loadVar t (← asAddr (tmps.getD a undef))
theorem results_eq (fn : Func) (tmps : Array Value) : results fn tmps = (do let vs ← fn.results.mapM (resOf tmps); pure (if h : vs.size = 1 then vs[0] else .tuple vs)) := by
  unfold results
  congr 1

theorem retGo_sound {a : Act} {E : Env} (ha : Ag n a E) (w : World) : ∀ {l : List ResultVar} {K : List Value → Prop}, retGo P E w l K →
    ∃ vs, (l.mapM (resOf a.tmps)).run P w = .ok vs w ∧ K vs
  | [], K, h => ⟨[], by simp, h⟩
  | .tmp t :: l, K, h => by
    unfold retGo at h
    split at h
    · rename_i v hv
      obtain ⟨vs, hr, hk⟩ := retGo_sound ha w h
      refine ⟨v :: vs, ?_, hk⟩
      have hg := ha.get t v hv
      simp [List.mapM_cons, resOf, hr, hg]
    · exact h.elim
  | .cell x T :: l, K, h => by
    unfold retGo at h
    split at h
    · rename_i p hp
      obtain ⟨v, S, h, hs1, hs2⟩ := ldVC_sound h
      obtain ⟨vs, hr, hk⟩ := retGo_sound ha w h
      refine ⟨v :: vs, ?_, hk⟩
      have hg := ha.get x _ hp
      simp [List.mapM_cons, resOf, hr, hg, asAddr, hs2 w hs1]
    · exact h.elim

theorem retVC_run {fn : Func} {a : Act} {E : Env} {w : World} {R : Ending → World → Prop} (ha : Ag n a E) (h : retVC P fn E w fun v => R (.returned v) w) :
    ∃ v, (results fn a.tmps).run P w = .ok v w ∧ R (.returned v) w := by
  obtain ⟨vs, hr, hk⟩ := retGo_sound ha w h
  refine ⟨_, ?_, hk⟩
  rw [results_eq, ← Array.toArray_toList (xs := fn.results), List.mapM_toArray]
  simp only [Sem.run_bind, Sem.run_map, hr, Result.andThen_ok, Sem.run_pure]
  congr 1
  cases vs with
  | nil => rfl
  | cons v vs => cases vs <;> rfl

theorem retVC_sound {m : Nat} {fn : Func} {a : Act} {E : Env} {w : World} {R : Ending → World → Prop} (ha : Ag (cx m) a E) (h : retVC P fn E w fun v => R (.returned v) w) :
    a.defers = [] ∧ ∃ v, (results fn a.tmps).run P w = .ok v w ∧ R (.returned v) w := ⟨ha.defers, retVC_run ha h⟩

/-- a function -/
theorem calls_of_WP {f : FuncId} {fn : Func} {c : Code} {args : Array Value} {w : World} {R : Ending → World → Prop} {E : Env} (hf : P.funcs[f]? = some fn) (hb : fn.body = some c) (hsz : args.size ≤ fn.ntmps)
    (hE : ∀ t v, E.get? t = some v → args[t]? = some v) (h : WP P (cx fn.ntmps) c (bodyPost P fn R) E w) : Calls P f args w R := by
  refine calls_of_wp hf hb (wpIn_wide.1 (h _ ⟨rfl, by simp; omega, ?_⟩))
  intro t v ht
  have := hE t v ht
  have hlt : t < args.size := by
    rcases Nat.lt_or_ge t args.size with h' | h'
    · exact h'
    · rw [Array.getElem?_eq_none h'] at this; cases this
  rw [Array.getElem?_append_left hlt]
  exact this

def envOf : Nat → List Value → Env
  | _, [] => []
  | i, v :: l => (i, v) :: envOf (i + 1) l
theorem envOf_get : ∀ (l : List Value) (i t : Nat) (v : Value), (envOf i l).get? t = some v → i ≤ t ∧ l[t - i]? = some v
  | [], _, _, _, h => by simp [envOf, Env.get?] at h
  | u :: l, i, t, v, h => by
    simp only [envOf, Env.get?] at h
    by_cases e : i = t
    · subst e; simp at h; subst h; simp
    · have hb : Nat.beq i t = false := by rw [← Bool.not_eq_true, Nat.beq_eq]; exact e
      simp only [hb, cond_false] at h
      obtain ⟨h1, h2⟩ := envOf_get l (i + 1) t v h
      refine ⟨by omega, ?_⟩
      rw [show t - i = (t - (i + 1)) + 1 by omega]
      simpa using h2
theorem calls_of_WP' {f : FuncId} {fn : Func} {c : Code} {args : List Value} {w : World} {R : Ending → World → Prop} (hf : P.funcs[f]? = some fn) (hb : fn.body = some c) (hsz : Nat.ble args.length fn.ntmps = true)
    (h : WP P (cx fn.ntmps) c (bodyPost P fn R) (envOf 0 args) w) : Calls P f args.toArray w R :=
  calls_of_WP hf hb (by simpa using Nat.le_of_ble_eq_true hsz) (fun t v ht => by
    have := (envOf_get args 0 t v ht).2
    simpa using this) h
theorem sel_mono {t : Bool} {A B A' B' : Prop} (h1 : A → A') (h2 : B → B') (h : sel t A B) : sel t A' B' := by
  cases t
  · exact h2 h
  · exact h1 h

/-! ### Reading an environment -/
def asInt (k : IntKind) (v : Option Value) (K : Int → Prop) : Prop := match v with | some (.int k' n) => AndT (k' == k) (K n) | _ => False
theorem asInt_elim {k : IntKind} {v : Option Value} {K : Int → Prop} (h : asInt k v K) : ∃ n, v = some (.int k n) ∧ K n := by
  unfold asInt at h
  split at h
  · obtain ⟨h1, h2⟩ := AndT_elim h
    have h3 := eq_of_beq h1
    subst h3
    exact ⟨_, rfl, h2⟩
  · exact h.elim
def asBool' (v : Option Value) (K : Bool → Prop) : Prop := match v with | some (.bool b) => K b | _ => False
theorem asBool_elim {v : Option Value} {K : Bool → Prop} (h : asBool' v K) : ∃ b, v = some (.bool b) ∧ K b := by
  unfold asBool' at h
  split at h
  · exact ⟨_, rfl, h⟩
  · exact h.elim
def asStr (v : Option Value) (K : ByteArray → Prop) : Prop := match v with | some (.string b) => K b | _ => False
theorem asStr_elim {v : Option Value} {K : ByteArray → Prop} (h : asStr v K) : ∃ b, v = some (.string b) ∧ K b := by
  unfold asStr at h
  split at h
  · exact ⟨_, rfl, h⟩
  · exact h.elim
def asSlice (v : Option Value) (K : Sl → Prop) : Prop := match v with | some (.slice a n c) => K ⟨a, n, c⟩ | _ => False
theorem asSlice_elim {v : Option Value} {K : Sl → Prop} (h : asSlice v K) : ∃ s : Sl, v = some s.v ∧ K s := by
  unfold asSlice at h
  split at h
  · exact ⟨⟨_, _, _⟩, rfl, h⟩
  · exact h.elim
def asFn (v : Option Value) (K : Fv → Prop) : Prop := match v with | some (.func (.func n) bs cs) => K ⟨n, bs, cs⟩ | _ => False
theorem asFn_elim {v : Option Value} {K : Fv → Prop} (h : asFn v K) : ∃ f : Fv, v = some f.v ∧ K f := by
  unfold asFn at h
  split at h
  · exact ⟨_, rfl, h⟩
  · exact h.elim
def asPtr (v : Option Value) (K : Option Addr → Prop) : Prop := match v with | some (.pointer a) => K a | _ => False
theorem asPtr_elim {v : Option Value} {K : Option Addr → Prop} (h : asPtr v K) : ∃ a, v = some (.pointer a) ∧ K a := by
  unfold asPtr at h
  split at h
  · exact ⟨_, rfl, h⟩
  · exact h.elim
def asRef (v : Option Value) (K : Addr → Prop) : Prop := match v with | some (.pointer (some a)) => K a | _ => False
theorem asRef_elim {v : Option Value} {K : Addr → Prop} (h : asRef v K) : ∃ a, v = some (.pointer (some a)) ∧ K a := by
  unfold asRef at h
  split at h
  · exact ⟨_, rfl, h⟩
  · exact h.elim
def asMap (v : Option Value) (K : Option Nat → Prop) : Prop := match v with | some (.map a) => K a | _ => False
theorem asMap_elim {v : Option Value} {K : Option Nat → Prop} (h : asMap v K) : ∃ a, v = some (.map a) ∧ K a := by
  unfold asMap at h
  split at h
  · exact ⟨_, rfl, h⟩
  · exact h.elim
def asVal (v : Option Value) (K : Value → Prop) : Prop := match v with | some x => K x | _ => False
theorem asVal_elim {v : Option Value} {K : Value → Prop} (h : asVal v K) : ∃ a, v = some a ∧ K a := by
  unfold asVal at h
  split at h
  · exact ⟨_, rfl, h⟩
  · exact h.elim
def asAgg (v : Option Value) (K : List Value → Prop) : Prop := match v with | some (.agg cs) => K cs.toList | _ => False
theorem asAgg_elim {v : Option Value} {K : List Value → Prop} (h : asAgg v K) : ∃ cs : List Value, v = some (.agg cs.toArray) ∧ K cs := by
  unfold asAgg at h
  split at h
  · exact ⟨_, rfl, h⟩
  · exact h.elim
def asFunc (f : FuncId) (v : Option Value) (K : List Value → List Value → Prop) : Prop := match v with | some (.func (.func g) fs cs) => AndT (Nat.beq g f) (K fs.toList cs.toList) | _ => False
theorem asFunc_elim {f : FuncId} {v : Option Value} {K : List Value → List Value → Prop} (h : asFunc f v K) : ∃ fs cs : List Value, v = some (.func (.func f) fs.toArray cs.toArray) ∧ K fs cs := by
  unfold asFunc at h
  split at h
  · obtain ⟨h1, h2⟩ := AndT_elim h
    rw [Nat.beq_eq] at h1
    subst h1
    exact ⟨_, _, rfl, h2⟩
  · exact h.elim
def asTuple (v : Option Value) (K : List Value → Prop) : Prop := match v with | some (.tuple cs) => K cs.toList | _ => False
theorem asTuple_elim {v : Option Value} {K : List Value → Prop} (h : asTuple v K) : ∃ cs : List Value, v = some (.tuple cs.toArray) ∧ K cs := by
  unfold asTuple at h
  split at h
  · exact ⟨_, rfl, h⟩
  · exact h.elim
def asCons (l : List Value) (K : Value → List Value → Prop) : Prop := match l with | v :: r => K v r | [] => False
theorem asCons_elim {l : List Value} {K : Value → List Value → Prop} (h : asCons l K) : ∃ v r, l = v :: r ∧ K v r := by
  cases l with
  | nil => exact h.elim
  | cons v r => exact ⟨v, r, rfl, h⟩
def asNil (l : List Value) (K : Prop) : Prop := match l with | [] => K | _ => False
theorem asNil_elim {l : List Value} {K : Prop} (h : asNil l K) : l = [] ∧ K := by
  cases l with
  | nil => exact ⟨rfl, h⟩
  | cons v r => exact h.elim
end
/-! ### Words that the printed conditions use -/
def bAnd (k : IntKind) (x y : Int) : Int := k.wrap ((BitVec.ofInt k.bits x &&& BitVec.ofInt k.bits y).toNat : Int)
def bOr (k : IntKind) (x y : Int) : Int := k.wrap ((BitVec.ofInt k.bits x ||| BitVec.ofInt k.bits y).toNat : Int)
def bXor (k : IntKind) (x y : Int) : Int := k.wrap ((BitVec.ofInt k.bits x ^^^ BitVec.ofInt k.bits y).toNat : Int)
def bAndNot (k : IntKind) (x y : Int) : Int := k.wrap ((BitVec.ofInt k.bits x &&& ~~~ BitVec.ofInt k.bits y).toNat : Int)

/-! ### Regions whose effects have no order among them: a tree of the orders -/
inductive Tr where
  | nil
  | one (i : Nat) (t : Tr)
  | fork (a b : Tr)
def Tr.heads : Tr → List Nat
  | .nil => []
  | .one i _ => [i]
  | .fork a b => a.heads ++ b.heads
def Tr.len : Tr → Nat
  | .nil => 0
  | .one _ t => t.len + 1
  | .fork a _ => a.len
def headVC (P : Program) (ops : Array Oper) (i : Nat) (E : Env) (w : World) (H : Held) (Kn : Env → World → Held → Prop) : Prop :=
  match ops[i]? with
  | none => False
  | some o => match o.guard with
    | none => stepVC P ops true i o E w H Kn
    | some (j, want) => match gslot ops j with
      | none => False
      | some d => match E.get? d with
        | some (.bool t) => sel t (guardVC P ops true i o d want true E w H Kn) (guardVC P ops true i o d want false E w H Kn)
        | some (.tuple _) => Kn (Env.put E o.dst undef) w (bif calm P o then H else dropH ops i H)
        | _ => False
def treeVC (P : Program) (ops : Array Oper) (K : Env → World → Prop) : Tr → Env → World → Held → Prop
  | .nil, E, w, _ => K E w
  | .one i t, E, w, H => headVC P ops i E w H fun E' w' H' => treeVC P ops K t E' w' H'
  | .fork a b, E, w, H => treeVC P ops K a E w H ∧ treeVC P ops K b E w H
def okTree (P : Program) (ops : Array Oper) : Tr → Bool → Array Bool → Bool
  | .nil, alt, listed => !alt && (Region.ready .any ops listed).isEmpty
  | .one i t, alt, listed => (match ops[i]? with
      | some o => bif alt then !calm P o else bif calm P o then Region.free .any ops listed i && (Region.ready .any ops listed).contains i else Region.ready .any ops listed == [i]
      | none => false) && okTree P ops t false (listed.setIfInBounds i true)
  | .fork a b, alt, listed => (alt || Region.ready .any ops listed == (Tr.fork a b).heads) && (Nat.beq a.len b.len && (okTree P ops a true listed && okTree P ops b true listed))

section
variable {P : Program} {ops : Array Oper} {n : Cx} {K : Env → World → Prop}
theorem step_op {i : Nat} {o : Oper} {a : Act} {E : Env} {w : World} {H : Held} {Kh : Env → World → Held → Prop} {listed : Array Bool} {fuel : Nat} {Q : Exit → Act → World → Prop}
    (hn : opsOk n ops = true) (ho : ops[i]? = some o) (hc : calm P o = false) (ha : Ag n a E) (hwant : Region.wanted o (yielded ops a.tmps) = true)
    (h : stepVC P ops true i o E w H Kh)
    (next : ∀ a' E' w' H', Ag n a' E' → (∀ p ∈ H', p.2 w') → Kh E' w' H' → wpAnyHs P ops Q fuel H' (listed.setIfInBounds i true) a' w') :
    wpOp P ops Q i (fun a' w' => (∀ p ∈ dropH ops i H, p.2 w') ∧ wpAnyHs P ops Q fuel (dropH ops i H) (listed.setIfInBounds i true) a' w') a w := by
  have hsel := Region.noSelect_spec (ops := ops) (by unfold opsOk at hn; rw [Bool.and_eq_true] at hn; exact hn.1)
  unfold stepVC at h
  rw [hc] at h
  simp only [cond_false, cond_true] at h
  refine wpOp_eff ho hwant (effVC_sound (fun cs b => hsel i o cs b ho) ha h) fun v w' hv => ?_
  obtain ⟨h1, h2⟩ := andL_elim hv
  have hH' : ∀ p ∈ dropH ops i H, p.2 w' := fun p hp => h1 _ (heldBy_of (mem_dropH.1 hp).1 (mem_dropH.1 hp).2)
  exact ⟨hH', next _ _ _ _ (ha.put v (opsOk_dst hn ho)) hH' h2⟩
theorem skip_op {i : Nat} {o : Oper} {a : Act} {w : World} {H : Held} {listed : Array Bool} {fuel : Nat} {Q : Exit → Act → World → Prop}
    (ho : ops[i]? = some o) (hH : ∀ p ∈ H, p.2 w) (hwant : Region.wanted o (yielded ops a.tmps) = false)
    (next : wpAnyHs P ops Q fuel (dropH ops i H) (listed.setIfInBounds i true) (a.put o.dst undef) w) :
    wpOp P ops Q i (fun a' w' => (∀ p ∈ dropH ops i H, p.2 w') ∧ wpAnyHs P ops Q fuel (dropH ops i H) (listed.setIfInBounds i true) a' w') a w := by
  unfold wpOp
  simp only [ho, hwant]
  exact ⟨fun p hp => hH p (mem_dropH.1 hp).1, next⟩

/-- the head of a path, by itself -/
theorem head_any (hn : opsOk n ops = true) {i : Nat} {o : Oper} {E : Env} {w : World} {H : Held} {a : Act} {Kn : Env → World → Held → Prop} {listed : Array Bool} {fuel : Nat} (ho : ops[i]? = some o)
    (hok : (bif calm P o then Region.free .any ops listed i && (Region.ready .any ops listed).contains i else Region.ready .any ops listed == [i]) = true) (ha : Ag n a E) (hH : ∀ p ∈ H, p.2 w) (h : headVC P ops i E w H Kn)
    (next : ∀ a' E' w' H', Ag n a' E' → (∀ p ∈ H', p.2 w') → Kn E' w' H' → wpAnyHs P ops (RegPost n K) fuel H' (listed.setIfInBounds i true) a' w') : wpAnyHs P ops (RegPost n K) (fuel + 1) H listed a w := by
  unfold headVC at h
  rw [ho] at h
  simp only at h
  cases hg : o.guard with
  | none =>
    rw [hg] at h
    simp only at h
    exact step_sound_draw hn ho hok (fun _ _ _ => rfl) ha hH (by simp [Region.wanted, hg]) h next
  | some jw =>
    obtain ⟨j, want⟩ := jw
    rw [hg] at h
    simp only at h
    cases hd : gslot ops j with
    | none => rw [hd] at h; exact h.elim
    | some d =>
      rw [hd] at h
      simp only at h
      split at h
      · rename_i t ht
        have hy := yielded_of ha hd ht
        have hg' : guardVC P ops true i o d want t E w H Kn := by
          cases t
          · exact h
          · exact h
        unfold guardVC at hg'
        cases hb : (t == want) with
        | true =>
          rw [hb] at hg'
          exact step_sound_draw hn ho hok (fun _ _ _ => rfl) (ha.same ht) hH (by simp [Region.wanted, hg, hy]; simpa using hb) hg' next
        | false =>
          rw [hb] at hg'
          simp only [cond_false] at hg'
          refine skip_sound_draw hn ho hok (fun _ _ _ => rfl) hH (by simp [Region.wanted, hg, hy]; simpa using hb) ?_
          refine next _ _ _ _ ((ha.same ht).put undef (opsOk_dst hn ho)) ?_ hg'
          intro p hp
          cases hcc : calm P o
          · rw [hcc] at hp; exact hH p (mem_dropH.1 hp).1
          · rw [hcc] at hp; exact hH p hp
      · rename_i vs ht
        have hy := yielded_tuple ha hd ht
        refine skip_sound_draw hn ho hok (fun _ _ _ => rfl) hH (by simp [Region.wanted, hg, hy]) ?_
        refine next _ _ _ _ (ha.put undef (opsOk_dst hn ho)) ?_ h
        intro p hp
        cases hcc : calm P o
        · rw [hcc] at hp; exact hH p (mem_dropH.1 hp).1
        · rw [hcc] at hp; exact hH p hp
      · exact h.elim
/-- the head of a path, one of several -/
theorem head_op (hn : opsOk n ops = true) {i : Nat} {o : Oper} {E : Env} {w : World} {H : Held} {a : Act} {Kn : Env → World → Held → Prop} {listed : Array Bool} {fuel : Nat} (ho : ops[i]? = some o)
    (hc : calm P o = false) (ha : Ag n a E) (hH : ∀ p ∈ H, p.2 w) (h : headVC P ops i E w H Kn)
    (next : ∀ a' E' w' H', Ag n a' E' → (∀ p ∈ H', p.2 w') → Kn E' w' H' → wpAnyHs P ops (RegPost n K) fuel H' (listed.setIfInBounds i true) a' w') :
    wpOp P ops (RegPost n K) i (fun a' w' => (∀ p ∈ dropH ops i H, p.2 w') ∧ wpAnyHs P ops (RegPost n K) fuel (dropH ops i H) (listed.setIfInBounds i true) a' w') a w := by
  unfold headVC at h
  rw [ho] at h
  simp only at h
  have hHd : ∀ p ∈ dropH ops i H, p.2 w := fun p hp => hH p (mem_dropH.1 hp).1
  cases hg : o.guard with
  | none =>
    rw [hg] at h
    simp only at h
    exact step_op hn ho hc ha (by simp [Region.wanted, hg]) h next
  | some jw =>
    obtain ⟨j, want⟩ := jw
    rw [hg] at h
    simp only at h
    cases hd : gslot ops j with
    | none => rw [hd] at h; exact h.elim
    | some d =>
      rw [hd] at h
      simp only at h
      split at h
      · rename_i t ht
        have hy := yielded_of ha hd ht
        have hg' : guardVC P ops true i o d want t E w H Kn := by
          cases t
          · exact h
          · exact h
        unfold guardVC at hg'
        cases hb : (t == want) with
        | true =>
          rw [hb] at hg'
          exact step_op hn ho hc (ha.same ht) (by simp [Region.wanted, hg, hy]; simpa using hb) hg' next
        | false =>
          rw [hb, hc] at hg'
          simp only [cond_false] at hg'
          exact skip_op ho hH (by simp [Region.wanted, hg, hy]; simpa using hb) (next _ _ _ _ ((ha.same ht).put undef (opsOk_dst hn ho)) hHd hg')
      · rename_i vs ht
        have hy := yielded_tuple ha hd ht
        rw [hc] at h
        simp only [cond_false] at h
        exact skip_op ho hH (by simp [Region.wanted, hg, hy]) (next _ _ _ _ (ha.put undef (opsOk_dst hn ho)) hHd h)
      · exact h.elim
theorem tree_len : ∀ (t : Tr) (listed : Array Bool), okTree P ops t true listed = true → ∃ m, t.len = m + 1
  | .nil, listed, h => by simp [okTree] at h
  | .one i t, listed, _ => ⟨t.len, rfl⟩
  | .fork a b, listed, h => by
    unfold okTree at h
    simp only [Bool.and_eq_true] at h
    exact tree_len a listed h.2.2.1
theorem tree_heads : ∀ (t : Tr) (listed : Array Bool), okTree P ops t true listed = true → t.heads ≠ []
  | .nil, listed, h => by simp [okTree] at h
  | .one i t, listed, _ => by simp [Tr.heads]
  | .fork a b, listed, h => by
    unfold okTree at h
    simp only [Bool.and_eq_true] at h
    have := tree_heads a listed h.2.2.1
    simp [Tr.heads, this]
theorem tree_sound (hn : opsOk n ops = true) : ∀ (t : Tr) (alt : Bool) (listed : Array Bool) (E : Env) (w : World) (H : Held) (a : Act) (m : Nat), okTree P ops t alt listed = true → Ag n a E → (∀ p ∈ H, p.2 w) → treeVC P ops K t E w H →
    (alt = false → t.len = m → wpAnyHs P ops (RegPost n K) m H listed a w) ∧
    (alt = true → t.len = m + 1 → ∀ i ∈ t.heads, wpOp P ops (RegPost n K) i (fun a' w' => (∀ p ∈ dropH ops i H, p.2 w') ∧ wpAnyHs P ops (RegPost n K) m (dropH ops i H) (listed.setIfInBounds i true) a' w') a w)
  | .nil, alt, listed, E, w, H, a, m, hok, ha, hH, h => by
    unfold okTree at hok
    rw [Bool.and_eq_true] at hok
    refine ⟨fun _ hm => ?_, fun e => ?_⟩
    · subst hm
      exact fun _ => ⟨by simpa using hok.2, E, ha, h⟩
    · subst e; simp at hok
  | .one i t, alt, listed, E, w, H, a, m, hok, ha, hH, h => by
    unfold okTree at hok
    rw [Bool.and_eq_true] at hok
    obtain ⟨hok, hrest⟩ := hok
    cases ho : ops[i]? with
    | none => rw [ho] at hok; cases hok
    | some o =>
      rw [ho] at hok
      simp only at hok
      unfold treeVC at h
      refine ⟨fun e hm => ?_, fun e hm j hj => ?_⟩
      · subst e hm
        exact head_any hn ho hok ha hH h fun a' E' w' H' hA hHH hR => (tree_sound hn t false _ E' w' H' a' _ hrest hA hHH hR).1 rfl rfl
      · subst e
        rw [cond_true] at hok
        obtain rfl := List.mem_singleton.1 hj
        have hm' : t.len = m := by simpa [Tr.len] using hm
        exact head_op hn ho (by simpa using hok) ha hH h fun a' E' w' H' hA hHH hR => (tree_sound hn t false _ E' w' H' a' _ hrest hA hHH hR).1 rfl hm'
  | .fork x y, alt, listed, E, w, H, a, m, hok, ha, hH, h => by
    unfold okTree at hok
    simp only [Bool.and_eq_true] at hok
    obtain ⟨hr, hl, hx, hy⟩ := hok
    rw [Nat.beq_eq] at hl
    unfold treeVC at h
    have both : ∀ k, x.len = k + 1 → ∀ i ∈ (Tr.fork x y).heads, wpOp P ops (RegPost n K) i (fun a' w' => (∀ p ∈ dropH ops i H, p.2 w') ∧ wpAnyHs P ops (RegPost n K) k (dropH ops i H) (listed.setIfInBounds i true) a' w') a w := fun k hk i hi => by
      rcases List.mem_append.1 hi with hi | hi
      · exact (tree_sound hn x true listed E w H a k hx ha hH h.1).2 rfl hk i hi
      · exact (tree_sound hn y true listed E w H a k hy ha hH h.2).2 rfl (hl ▸ hk) i hi
    refine ⟨fun e hm => ?_, fun _ hm => both m hm⟩
    subst e
    obtain ⟨k, hk⟩ := tree_len x listed hx
    have hm' : m = k + 1 := by rw [← hm, ← hk]; rfl
    subst hm'
    have hr' : Region.ready .any ops listed = (Tr.fork x y).heads := by simpa using hr
    have hne : (Tr.fork x y).heads ≠ [] := by have := tree_heads x listed hx; simp [Tr.heads, this]
    exact fun _ => ⟨fun h0 => absurd (hr' ▸ h0) hne, fun i hi => both k hk i (hr' ▸ hi)⟩
theorem wp_region_tree {c : Code} {id : Nat} {a : Act} {E : Env} {w : World} {t : Tr} (hm : P.follows .mixedOrders = true) (hc : c = .region id ops true) (hn : opsOk n ops = true)
    (hl : okTree P ops t false (Array.replicate ops.size false) = true) (hsz : t.len = ops.size) (ha : Ag n a E) (h : treeVC P ops K t E w.drew []) : c.wpIn (FW n) 0 P (RegPost n K) a w := by
  subst hc
  have h1 := (tree_sound hn t false _ E _ [] a _ hl ha (fun p hp => (by cases hp)) h).1 rfl hsz
  have h2 := wpAny_of_helds _ [] _ _ _ (Down.zero _ _) h1
  refine wpIn_region_draw fun t => ?_
  refine wpOps_in hn (fun ⟨_, _, h⟩ => h) _ _ _ ?_
  simp only [Region.schedule, hm, Bool.true_or, if_true]
  exact wpAny_sound ops.size t _ a _ h2
def regTr (P : Program) (n : Nat) (c : Code) (t : Tr) : Bool := match c with
  | .region _ ops d => d && (P.follows .mixedOrders && (opsOk n ops && (okTree P ops t false (Array.replicate ops.size false) && Nat.beq t.len ops.size)))
  | _ => false
theorem WP.tree {c : Code} {Q : Exit → Act → World → Prop} {E : Env} {w : World} (t : Tr) (K : Env → World → Prop) (hc : regTr P n c t = true)
    (h : treeVC P (Code.ops c) K t E w.drew []) (hk : ∀ E' w' a', Ag n a' E' → K E' w' → Q .normal a' w') : WP P n c Q E w := by
  unfold regTr at hc
  split at hc
  · rename_i id ops d
    simp only [Bool.and_eq_true] at hc
    obtain ⟨rfl, h2, h3, h4, h5⟩ := hc
    rw [Nat.beq_eq] at h5
    exact fun a ha => wpIn_mono (wp_region_tree h2 rfl h3 h4 h5 ha h) fun e a' w' he => by
      cases e with
      | normal => obtain ⟨E', hA, hK⟩ := he; exact hk E' w' a' hA hK
      | _ => exact he.elim
  · cases hc
end

/-! ### Loops over functions -/
section
variable {P : Program}
/-- the record of a loop -/
def lo (r : Loop) (st : LoopState) (pe : Option Code) : Obj := .loop { r with state := st, pending := pe }
structure RecOf (r : Loop) (m : Nat) (ps : Array Tmp) (assign body : Code) (E : Env) : Prop where
  ps : r.params = ps
  assign : r.assign = assign
  body : r.body = body
  size : r.tmps.size = m
  get : ∀ t v, E.get? t = some v → r.tmps[t]? = some v
def putL : Env → List Nat → List Value → Env
  | E, p :: ps, v :: vs => putL ((p, v) :: E) ps vs
  | E, _, _ => E
theorem putL_ag {m l : Nat} : ∀ (ps : List Nat) (vs : List Value) (E : Env) (tmps : Array Value), tmps.size = m → (∀ p ∈ ps, p < m) → (∀ t v, E.get? t = some v → tmps[t]? = some v) →
    Ag ⟨m, [], some l⟩ { tmps := (ps.zip vs).foldl (fun t (p, v) => t.setIfInBounds p v) tmps, defers := [] } (putL E ps vs)
  | [], vs, E, tmps, hs, _, hE => ⟨rfl, by simpa using hs, by cases vs <;> simpa [putL] using hE⟩
  | p :: ps, [], E, tmps, hs, _, hE => ⟨rfl, by simpa using hs, by simpa [putL] using hE⟩
  | p :: ps, v :: vs, E, tmps, hs, hp, hE => by
    simp only [List.zip_cons_cons, List.foldl_cons, putL]
    refine putL_ag ps vs _ _ (by simpa using hs) (fun q hq => hp q (by simp [hq])) ?_
    have := (Ag.put (n := ⟨m, [], some l⟩) (a := { tmps := tmps, defers := [] }) (E := E) ⟨rfl, hs, hE⟩ (d := some p) v (fun t ht => by cases ht; exact hp p (by simp))).get
    simpa [Env.put, Act.put] using this
def yieldB (P : Program) (l : Nat) (args : Array Value) (w : World) (K : Bool → World → Prop) : Prop :=
  YieldAt Fence.wide 0 P l args w fun e w' => ∃ b : Bool, e = .returned (.bool b) ∧ K b w'
theorem yieldB_mono {l : Nat} {args : Array Value} {w : World} {K K' : Bool → World → Prop} (h : yieldB P l args w K) (hk : ∀ b w', K b w' → K' b w') : yieldB P l args w K' := by
  obtain ⟨fn, tmps, assign, body, hy, hR⟩ := h
  exact ⟨fn, tmps, assign, body, hy, hR.mono fun e w' ⟨b, he, hb⟩ => ⟨b, he, hk b w' hb⟩⟩
/-- between the assignment to the loop's variables and its body -/
def QAssign (P : Program) (m l : Nat) (r : Loop) (body : Code) (Q : Exit → Act → World → Prop) : Exit → Act → World → Prop :=
  Exit.then (fun a₁ w₁ => w₁.heap[l]? = some (lo r .ready none) ∧ wpx P ⟨m, [], some l⟩ body Q a₁ (w₁.putObj l (lo r .busy none))) (fun _ _ _ => False)
/-- a round -/
theorem yield_of {m l : Nat} {r : Loop} {ps : Array Tmp} {assign body : Code} {E : Env} {args : List Value} {w : World} {R : Ending → World → Prop} {K : Bool → World → Prop} (hr : RecOf r m ps assign body E) (hl : w.heap[l]? = some (lo r .ready none))
    (hsz : args.length = ps.size) (hlt : ps.toList.all (fun p => Nat.blt p m) = true) (hK : ∀ e w', R e w' → ∃ b : Bool, e = .returned (.bool b) ∧ K b w')
    (h : WP P ⟨m, [], some l⟩ assign (QAssign P m l r body (roundPost P l R)) (putL E ps.toList args) w) : yieldB P l args.toArray w K := by
  have hrun := run_yield (P := P) (w := w) (args := args.toArray) hl (by simp [hr.ps, hsz])
  refine ⟨_, _, _, _, hrun, RoundIn.mono (roundIn_of_wpIn (R := R) trivial ?_) hK⟩
  simp only [lo, hr.ps, hr.assign, hr.body]
  have hag : Ag ⟨m, [], some l⟩ { tmps := (ps.zip args.toArray).foldl (fun t (p, v) => t.setIfInBounds p v) r.tmps, defers := [] } (putL E ps.toList args) := by
    have := putL_ag (m := m) (l := l) ps.toList args E r.tmps hr.size (fun p hp => by simpa using List.all_eq_true.1 hlt p hp) hr.get
    rw [← Array.foldl_toList]
    simpa using this
  refine wpIn_mono (h _ hag) fun e a' w' he => ?_
  cases e with
  | normal =>
    obtain ⟨h1, h2⟩ := he
    exact ⟨_, run_beginRound h1 rfl, h2⟩
  | _ => exact he.elim
theorem round_end {l : Nat} {r : Loop} {a : Act} {w : World} {R : Ending → World → Prop} (hl : w.heap[l]? = some (lo r .busy none)) (h : R (.returned (.bool true)) (w.putObj l (lo r .ready none))) : roundPost P l R .normal a w :=
  ⟨_, _, run_endRound none hl, h⟩
theorem round_exit {l id : Nat} {r : Loop} {a : Act} {w : World} {R : Ending → World → Prop} (hl : w.heap[l]? = some (lo r .busy none)) (h : R (.returned (.bool false)) (w.putObj l (lo r .done (some (.exit id))))) : roundPost P l R (.exit id) a w :=
  ⟨_, _, run_endRound (some (.exit id)) hl, h⟩
theorem round_ret {l : Nat} {r : Loop} {a : Act} {w : World} {R : Ending → World → Prop} (hl : w.heap[l]? = some (lo r .busy none)) (h : R (.returned (.bool false)) (w.putObj l (lo r .done (some .ret)))) : roundPost P l R .ret a w :=
  ⟨_, _, run_endRound (some .ret) hl, h⟩
abbrev marked (m D : Nat) : Cx := ⟨m, [{ target := .collected D, args := #[] }], none⟩
/-- what follows a loop, by the way in which it was left -/
def RangeEnd (w2 : World) (l : Nat) (o : LoopState → Option Code → Obj) (N : World → Prop) (X : Nat → World → Prop) (T : World → Prop) : Prop :=
  (w2.heap[l]? = some (o .ready none) ∧ N (w2.putObj l (o .exhausted none))) ∨
  (∃ id, w2.heap[l]? = some (o .done (some (.exit id))) ∧ X id (w2.putObj l (o .exhausted (some (.exit id))))) ∨
  (w2.heap[l]? = some (o .done (some .ret)) ∧ T (w2.putObj l (o .exhausted (some .ret))))
theorem WP.range {m : Nat} {c : Code} {g : Operand} {ps : Array Tmp} {assign body : Code} {gf : Nat} {lb : Array Value} {Q : Exit → Act → World → Prop} {E : Env} {w : World} (N : World → Prop) (X : Nat → World → Prop) (T : World → Prop)
    (hc : c = .rangeFunc g ps assign body) (hg : E.val g = some (.func (.func gf) #[] lb)) (hca : callable P gf = true)
    (hN : ∀ w', N w' → ∀ a, Ag (marked m w.heap.size) a E → Q .normal a w') (hX : ∀ id w', X id w' → ∀ a, Ag (marked m w.heap.size) a E → Q (.exit id) a w') (hT : ∀ w', T w' → ∀ a, Ag (marked m w.heap.size) a E → Q .ret a w')
    (h : ∀ r : Loop, RecOf r m ps assign body E → Calls P gf (#[.func (.yield (w.heap.size + 1)) #[] #[]] ++ lb) ((w.alloc (.deferred (some []))).alloc (lo r .ready none)) fun e w2 => (∃ v, e = .returned v) ∧ RangeEnd w2 (w.heap.size + 1) (lo r) N X T) :
    WP P (cx m) c Q E w := by
  subst hc
  intro a ha
  have hag : Ag (marked m w.heap.size) { a with defers := [{ target := .collected w.heap.size, args := #[] }] ++ a.defers } E := ⟨by show _ ++ a.defers = _; rw [ha.defers]; rfl, ha.size, ha.get⟩
  have hgv : a.eval g = .func (.func gf) #[] lb := ha.val hg
  refine wpIn_rangeFunc (F := FW (cx m)) (n := 0) fun fn _ => ?_
  obtain ⟨r, hr⟩ : ∃ r : Loop, r = { state := .ready, pending := none, fn, tmps := a.tmps, params := ps, assign, body, defers := w.heap.size } := ⟨_, rfl⟩
  have hrec : RecOf r m ps assign body E := by subst hr; exact ⟨rfl, rfl, rfl, ha.size, ha.get⟩
  have hcall := h r hrec
  have e1 : (Instr.enterLoop fn a.tmps ps assign body none).run P w = .ok (w.heap.size + 1, [{ target := .collected w.heap.size, args := #[] }]) ((w.alloc (.deferred (some []))).alloc (lo r .ready none)) := by
    rw [run_enterLoop_outer]; subst hr; rfl
  generalize hW1 : (w.alloc (.deferred (some []))).alloc (lo r .ready none) = W1 at *
  have e2 : (resolve a.eval (rangeCall g (w.heap.size + 1)) 0).run P W1 = .ok { target := .fn (.func gf) lb, args := #[.func (.yield (w.heap.size + 1)) #[] #[]] } W1 := by
    simp only [resolve, hgv]
    simp [go_sem]
  have e3 : (invoke (.fn (.func gf) lb) #[.func (.yield (w.heap.size + 1)) #[] #[]]).run P W1 = .ok (.enter gf (#[.func (.yield (w.heap.size + 1)) #[] #[]] ++ lb)) W1 := by
    simp [invoke, go_sem, callable_spec hca]
  have e4 : CallsIn (FW (cx m)) 0 P gf (#[.func (.yield (w.heap.size + 1)) #[] #[]] ++ lb) W1 (rangePost (FW (cx m)) 0 P (w.heap.size + 1) Q { a with defers := [{ target := .collected w.heap.size, args := #[] }] ++ a.defers }) := by
    refine callsIn_FW (n := cx m) (hcall.mono ?_)
    rintro e w2 ⟨⟨v, rfl⟩, hend⟩
    rcases hend with ⟨h1, h2⟩ | ⟨id, h1, h2⟩ | ⟨h1, h2⟩
    · exact ⟨_, _, run_endLoop (r := { r with state := .ready, pending := none }) h1 (by simp), hN _ h2 _ hag⟩
    · exact ⟨_, _, run_endLoop (r := { r with state := .done, pending := some (.exit id) }) h1 (by simp), wpIn_exit (hX id _ h2 _ hag)⟩
    · exact ⟨_, _, run_endLoop (r := { r with state := .done, pending := some .ret }) h1 (by simp), wpIn_ret (hT _ h2 _ hag)⟩
  exact ⟨_, _, _, _, _, _, _, _, e1, e2, fun _ _ => trivial, e3, fun h => (by cases h), e4⟩
/-- the end of a function with such a loop -/
def retVCm (P : Program) (fn : Func) (E : Env) (w : World) (D : Nat) (R : Post) : Prop :=
  w.heap[D]? = some (.deferred (some [])) ∧ retVC P fn E (w.putObj D (.deferred none)) fun v => R (.returned v) (w.putObj D (.deferred none))
theorem leaves_nil {fn : Func} {tmps : Array Value} {R : Ending → World → Prop} {w : World} {v : Value} (h : (results fn tmps).run P w = .ok v w) (hr : R (.returned v) w) : LeavesInM Fence.wide 0 P fn tmps R [] .returning w := by
  show LeavesIn _ _ _ _ _ _ _ _ _
  simp only [LeavesIn]
  exact ⟨v, h, hr⟩
theorem retM_sound {m : Nat} {fn : Func} {a : Act} {E : Env} {w : World} {R : Post} (ha : Ag (cx m) a E) (h : retVC P fn E w fun v => R (.returned v) w) : LeavesInM Fence.wide 0 P fn a.tmps R a.defers .returning w := by
  obtain ⟨v, h1, h2⟩ := retVC_run ha h
  rw [ha.defers]
  exact leaves_nil h1 h2
theorem retVCm_sound {m D : Nat} {fn : Func} {a : Act} {E : Env} {w : World} {R : Post} (ha : Ag (marked m D) a E) (h : retVCm P fn E w D R) : LeavesInM Fence.wide 0 P fn a.tmps R a.defers .returning w := by
  obtain ⟨h0, h⟩ := h
  obtain ⟨v, h1, h2⟩ := retVC_run (n := marked m D) ha h
  rw [ha.defers]
  exact ⟨by simp, .inl ⟨D, _, rfl, run_takeDeferred h0, leaves_nil h1 h2⟩⟩
theorem calls_of_WPM {f : FuncId} {fn : Func} {c : Code} {args : List Value} {w : World} {R : Ending → World → Prop} (hf : P.funcs[f]? = some fn) (hb : fn.body = some c) (hsz : Nat.ble args.length fn.ntmps = true)
    (h : WP P (cx fn.ntmps) c (bodyPostM Fence.wide 0 P fn R) (envOf 0 args) w) : Calls P f args.toArray w R := by
  have hs := Nat.le_of_ble_eq_true hsz
  refine callsIn_wide.1 (callsIn_of_wp_marks (n := 0) hf hb trivial (h _ ⟨rfl, by simp; omega, ?_⟩))
  intro t v ht
  have := (envOf_get args 0 t v ht).2
  have hlt : t < args.length := (List.getElem?_eq_some_iff.1 this).1
  rw [Array.getElem?_append_left (by simpa using hlt)]
  simpa using this
def asYield (v : Option Value) (K : Nat → Prop) : Prop := match v with | some (.func (.yield l) fs cs) => AndT (Nat.beq fs.size 0 && Nat.beq cs.size 0) (K l) | _ => False
theorem asYield_elim {v : Option Value} {K : Nat → Prop} (h : asYield v K) : ∃ l, v = some (.func (.yield l) #[] #[]) ∧ K l := by
  unfold asYield at h
  split at h
  · rename_i l fs cs
    obtain ⟨hb, hk⟩ := AndT_elim h
    simp only [Bool.and_eq_true, Nat.beq_eq] at hb
    have e1 : fs = #[] := Array.eq_empty_of_size_eq_zero hb.1
    have e2 : cs = #[] := Array.eq_empty_of_size_eq_zero hb.2
    subst e1 e2
    exact ⟨l, rfl, hk⟩
  · exact h.elim
end

/-! ### Short names -/
abbrev _root_.Go.Code.sn (c : Code) : Code := Code.snd c
abbrev _root_.Go.Code.fs (c : Code) : Code := Code.fst c
abbrev _root_.Go.Value.i (x : Int) : Value := .int .i64 x
abbrev _root_.Go.Value.u (x : Int) : Value := .int .u64 x
abbrev _root_.Go.Value.s0 : Value := .string (ByteArray.mk #[])
abbrev nb (w : World) : Addr := ⟨w.heap.size, 0, none⟩
/-! ### Statements within one another -/
section
variable {P : Program} {n : Cx} {Q : Exit → Act → World → Prop} {E : Env} {w : World} {K : Env → World → Prop}
def rgK (P : Program) (c : Code) (K : Env → World → Prop) (E : Env) (w : World) : Prop := runVC P (Code.ops c) false K (List.range (Code.ops c).size) E w []
def dgK (P : Program) (c : Code) (l : List Nat) (K : Env → World → Prop) (E : Env) (w : World) : Prop := runVC P (Code.ops c) true K l E w.drew []
def tgK (P : Program) (c : Code) (t : Tr) (K : Env → World → Prop) (E : Env) (w : World) : Prop := treeVC P (Code.ops c) K t E w.drew []
abbrev srK (P : Program) (c : Code) (K : Env → World → Prop) (E : Env) (w : World) : Prop := rgK P (Code.fst c) K E w
abbrev sdK (P : Program) (c : Code) (l : List Nat) (K : Env → World → Prop) (E : Env) (w : World) : Prop := dgK P (Code.fst c) l K E w
abbrev stK (P : Program) (c : Code) (t : Tr) (K : Env → World → Prop) (E : Env) (w : World) : Prop := tgK P (Code.fst c) t K E w
def isSeq : Code → Bool
  | .seq _ _ => true
  | _ => false
theorem seq_of {c : Code} (h : isSeq c = true) : c = .seq (Code.fst c) (Code.snd c) := by cases c <;> first | rfl | cases h
theorem and_of {a b : Bool} (h : (a && b) = true) : a = true ∧ b = true := by simpa using h
theorem rg (c : Code) (hc : regT n c = true) (h : rgK P c K E w) (hk : ∀ E' w' a', Ag n a' E' → K E' w' → Q .normal a' w') : WP P n c Q E w := WP.reg K hc h hk
theorem dg (c : Code) {l : List Nat} (hc : regD P n c l = true) (h : dgK P c l K E w) (hk : ∀ E' w' a', Ag n a' E' → K E' w' → Q .normal a' w') : WP P n c Q E w := WP.draw l K hc h hk
theorem tg (c : Code) {t : Tr} (hc : regTr P n c t = true) (h : tgK P c t K E w) (hk : ∀ E' w' a', Ag n a' E' → K E' w' → Q .normal a' w') : WP P n c Q E w := WP.tree t K hc h hk
theorem sr (c : Code) (h : srK P c K E w) (hk : ∀ E' w', K E' w' → WP P n (Code.snd c) Q E' w') (hc : (isSeq c && regT n (Code.fst c)) = true := by kernel_rfl) : WP P n c Q E w :=
  WP.seq (seq_of (and_of hc).1) (WP.reg K (and_of hc).2 h fun E' w' a' hA hK => hk E' w' hK a' hA)
theorem sd (c : Code) {l : List Nat} (hc : (isSeq c && regD P n (Code.fst c) l) = true) (h : sdK P c l K E w) (hk : ∀ E' w', K E' w' → WP P n (Code.snd c) Q E' w') : WP P n c Q E w :=
  WP.seq (seq_of (and_of hc).1) (WP.draw l K (and_of hc).2 h fun E' w' a' hA hK => hk E' w' hK a' hA)
theorem st (c : Code) {t : Tr} (hc : (isSeq c && regTr P n (Code.fst c) t) = true) (h : stK P c t K E w) (hk : ∀ E' w', K E' w' → WP P n (Code.snd c) Q E' w') : WP P n c Q E w :=
  WP.seq (seq_of (and_of hc).1) (WP.tree t K (and_of hc).2 h fun E' w' a' hA hK => hk E' w' hK a' hA)
theorem sq (c : Code) (h : WP P n (Code.fst c) (Exit.then (wpx P n (Code.snd c) Q) Q) E w) (hc : isSeq c = true := by kernel_rfl) : WP P n c Q E w := WP.seq (seq_of hc) h
theorem bk (c : Code) (id : Nat) (hc : c = .block id (Code.fst c)) (h : WP P n (Code.fst c) (Exit.inBlock id Q) E w) : WP P n c Q E w := WP.block hc h
theorem cn (c : Code) {o : Operand} {A B : Prop} (h : condK (E.val o) A B) (h1 : A → WP P n (Code.fst c) Q E w) (h2 : B → WP P n (Code.snd c) Q E w) (hc : c = .cond o (Code.fst c) (Code.snd c) := by kernel_rfl) : WP P n c Q E w := WP.condK hc h1 h2 h
theorem sk (c : Code) (h : ∀ a, Ag n a E → Q .normal a w) (hc : c = .skip := by kernel_rfl) : WP P n c Q E w := WP.skip hc h
theorem xt (c : Code) (id : Nat) (hc : c = .exit id) (h : ∀ a, Ag n a E → Q (.exit id) a w) : WP P n c Q E w := WP.exit hc h
theorem rt (c : Code) (h : ∀ a, Ag n a E → Q .ret a w) (hc : c = .ret := by kernel_rfl) : WP P n c Q E w := WP.ret hc h
theorem lp (c : Code) (hc : c = .loop (Code.fst c)) (h : LP P n (Code.fst c) Q E w) : WP P n c Q E w := WP.loop hc h
theorem nx {c : Code} {a : Act} (ha : Ag n a E) (h : WP P n c Q E w) : Exit.then (wpx P n c Q) Q .normal a w := h a ha
end
end Go.W

/- Regions whose effects have no order among them: a rule with an invariant. No program in sight. -/
import Derived.Test.YtknlbofiicflgaaGreatW
namespace Go.W

/-! ### Regions whose effects have no order among them: an invariant over what was done -/
/-- one operation, by itself -/
def stepI (P : Program) (o : Oper) (E : Env) (w : World) (K : Env → World → Prop) : Prop :=
  bif calm P o then calmVC P o E w fun v _ => K (E.put o.dst v) w else effVC P o E w fun v w' => K (E.put o.dst v) w'
def backOk (ops : Array Oper) : Bool := (List.range ops.size).all fun i => match ops[i]? with
  | some o => o.guard.isNone && o.after.toList.all fun e => !(Region.binds .any e) || Nat.blt e.on i
  | none => true
abbrev setB (L : Nat → Bool) (i : Nat) : Nat → Bool := fun j => Nat.beq j i || L j
section
variable {P : Program} {ops : Array Oper} {n : Cx} {K : Env → World → Prop}
theorem backOk_spec (h : backOk ops = true) {i : Nat} {o : Oper} (ho : ops[i]? = some o) : o.guard = none ∧ ∀ e ∈ o.after, Region.binds .any e = true → e.on < i := by
  unfold backOk at h
  have hi : i < ops.size := (Array.getElem?_eq_some_iff.1 ho).1
  have := List.all_eq_true.1 h i (List.mem_range.2 hi)
  rw [ho] at this
  simp only [Bool.and_eq_true] at this
  refine ⟨by simpa using this.1, fun e he hb => ?_⟩
  have := List.all_eq_true.1 this.2 e (by simpa using he)
  rw [hb] at this
  simpa using this
theorem stepI_op {i : Nat} {o : Oper} {a : Act} {E : Env} {w : World} {Kh : Env → World → Prop} {K' : Act → World → Prop} {Q : Exit → Act → World → Prop}
    (hn : opsOk n ops = true) (ho : ops[i]? = some o) (hg : o.guard = none) (ha : Ag n a E) (h : stepI P o E w Kh) (next : ∀ a' E' w', Ag n a' E' → Kh E' w' → K' a' w') : wpOp P ops Q i K' a w := by
  have hsel := Region.noSelect_spec (ops := ops) (by unfold opsOk at hn; rw [Bool.and_eq_true] at hn; exact hn.1)
  have hw : Region.wanted o (yielded ops a.tmps) = true := by simp [Region.wanted, hg]
  unfold stepI at h
  cases hc : calm P o with
  | true =>
    rw [hc] at h
    simp only [cond_true] at h
    obtain ⟨v, Ss, hk, hs1, hs2⟩ := calmVC_sound (fun cs b => hsel i o cs b ho) ha h
    unfold wpOp
    simp only [ho, hw, if_true]
    refine .inl ?_
    unfold Oper.wp
    rw [hs2 w hs1]
    exact next _ _ _ (ha.put v (opsOk_dst hn ho)) hk
  | false =>
    rw [hc] at h
    simp only [cond_false] at h
    exact wpOp_eff ho hw (effVC_sound (fun cs b => hsel i o cs b ho) ha h) fun v w' hv => next _ _ _ (ha.put v (opsOk_dst hn ho)) hv
theorem wpAny_inv (hn : opsOk n ops = true) (hb : backOk ops = true) (J : (Nat → Bool) → Env → World → Prop)
    (step : ∀ L E w i o, ops[i]? = some o → L i = false → (∀ e ∈ o.after, Region.binds .any e = true → L e.on = true) → J L E w → stepI P o E w fun E' w' => J (setB L i) E' w')
    (fin : ∀ L E w, (∀ i, i < ops.size → L i = true) → J L E w → K E w) :
    ∀ (fuel : Nat) (listed : Array Bool) (a : Act) (E : Env) (w : World), listed.size = ops.size → Ag n a E → J (fun j => listed.getD j false) E w → ((List.range ops.size).filter fun j => !listed.getD j false).length ≤ fuel →
      wpAny P .any ops (RegPost n K) fuel listed a w := by
  have done : ∀ (listed : Array Bool) (a : Act) (E : Env) (w : World), listed.size = ops.size → Ag n a E → J (fun j => listed.getD j false) E w → Region.ready .any ops listed = [] → RegPost n K .normal a w := by
    intro listed a E w hs ha hJ hr
    refine ⟨E, ha, fin _ E w (fun i => ?_) hJ⟩
    induction i using Nat.strongRecOn with
    | _ i ih =>
      intro hi
      cases hl : listed.getD i false with
      | true => rfl
      | false =>
        exfalso
        have ho : ops[i]? = some ops[i] := Array.getElem?_eq_getElem hi
        have hm : i ∈ Region.ready .any ops listed := mem_ready.2 ⟨by
          have hlt : i < listed.size := by omega
          simp [hlt] at hl ⊢
          exact hl, _, ho, fun e he hbi => ih e.on ((backOk_spec hb ho).2 e he hbi) (Nat.lt_trans ((backOk_spec hb ho).2 e he hbi) hi)⟩
        rw [hr] at hm
        cases hm
  intro fuel
  induction fuel with
  | zero =>
    intro listed a E w hs ha hJ hf
    have hall : ∀ i, i < ops.size → listed.getD i false = true := fun i hi => by
      cases hl : listed.getD i false with
      | true => rfl
      | false =>
        have : i ∈ (List.range ops.size).filter fun j => !listed.getD j false := List.mem_filter.2 ⟨List.mem_range.2 hi, by rw [hl]; rfl⟩
        rw [List.length_eq_zero_iff.1 (Nat.le_zero.1 hf)] at this
        cases this
    refine ⟨?_, E, ha, fin _ E w hall hJ⟩
    cases hr : Region.ready .any ops listed with
    | nil => rfl
    | cons i l =>
      have hm : i ∈ Region.ready .any ops listed := by rw [hr]; simp
      obtain ⟨h0, o, ho, _⟩ := mem_ready.1 hm
      have hi := (Array.getElem?_eq_some_iff.1 ho).1
      have h1 := hall i hi
      have hlt : i < listed.size := by omega
      simp [hlt] at h0 h1
      rw [h0] at h1
      cases h1
  | succ fuel ih =>
    intro listed a E w hs ha hJ hf
    refine ⟨done listed a E w hs ha hJ, fun i hi => ?_⟩
    obtain ⟨h0, o, ho, hall⟩ := mem_ready.1 hi
    have hlt : i < ops.size := (Array.getElem?_eq_some_iff.1 ho).1
    have hli : i < listed.size := by omega
    have h0' : listed.getD i false = false := by simp [hli] at h0 ⊢; exact h0
    refine stepI_op hn ho (backOk_spec hb ho).1 ha (step _ E w i o ho h0' hall hJ) fun a' E' w' ha' hJ' => ?_
    have he : (setB (fun j => listed.getD j false) i) = fun j => (listed.setIfInBounds i true).getD j false := by
      funext j
      by_cases hj : i = j
      · subst hj
        simp [setB, hli]
      · have : Nat.beq j i = false := by rw [← Bool.not_eq_true, Nat.beq_eq]; exact fun h => hj h.symm
        rw [getD_set_ne false hj]
        simp [setB, this]
    rw [he] at hJ'
    refine ih _ a' E' w' (by simpa using hs) ha' hJ' ?_
    have hsub : ((List.range ops.size).filter fun j => !(listed.setIfInBounds i true).getD j false) = ((List.range ops.size).filter fun j => !listed.getD j false).filter fun j => !(Nat.beq j i) := by
      rw [List.filter_filter]
      refine List.filter_congr fun j _ => ?_
      rw [← congrFun he j]
      simp only [setB, Bool.not_or]
    have hlt2 : (((List.range ops.size).filter fun j => !listed.getD j false).filter fun j => !(Nat.beq j i)).length < ((List.range ops.size).filter fun j => !listed.getD j false).length := by
      refine List.length_filter_lt_length_iff_exists.2 ⟨i, List.mem_filter.2 ⟨List.mem_range.2 hlt, by rw [h0']; rfl⟩, ?_⟩
      have : Nat.beq i i = true := Nat.beq_refl i
      simp [this]
    rw [hsub]
    omega
theorem wp_region_inv {c : Code} {id : Nat} {a : Act} {E : Env} {w : World} (J : (Nat → Bool) → Env → World → Prop) (hm : P.follows .mixedOrders = true) (hc : c = .region id ops true) (hn : opsOk n ops = true) (hb : backOk ops = true) (ha : Ag n a E)
    (h0 : J (fun _ => false) E w.drew)
    (step : ∀ L E w i o, ops[i]? = some o → L i = false → (∀ e ∈ o.after, Region.binds .any e = true → L e.on = true) → J L E w → stepI P o E w fun E' w' => J (setB L i) E' w')
    (fin : ∀ L E w, (∀ i, i < ops.size → L i = true) → J L E w → K E w) : c.wpIn (FW n) 0 P (RegPost n K) a w := by
  subst hc
  have hz : (fun j => (Array.replicate ops.size false).getD j false) = fun _ => false := by
    funext j
    by_cases hj : j < ops.size <;> simp [hj]
  have h2 := wpAny_inv (K := K) hn hb J step fin ops.size (Array.replicate ops.size false) a E w.drew (by simp) ha (by rw [hz]; exact h0) (Nat.le_trans (List.length_filter_le _ _) (by simp))
  refine wpIn_region_draw fun t => ?_
  refine wpOps_in hn (fun ⟨_, _, h⟩ => h) _ _ _ ?_
  simp only [Region.schedule, hm, Bool.true_or, if_true]
  exact wpAny_sound ops.size t _ a _ h2
def regI (P : Program) (n : Nat) (c : Code) : Bool := match c with
  | .region _ ops d => d && (P.follows .mixedOrders && (opsOk n ops && backOk ops))
  | _ => false
/-- what is to be shown at such a region: an invariant -/
def igK (P : Program) (c : Code) (K : Env → World → Prop) (E : Env) (w : World) : Prop :=
  ∃ J : (Nat → Bool) → Env → World → Prop, J (fun _ => false) E w.drew ∧
    (∀ L E w i o, (Code.ops c)[i]? = some o → L i = false → (∀ e ∈ o.after, Region.binds .any e = true → L e.on = true) → J L E w → stepI P o E w fun E' w' => J (setB L i) E' w') ∧
    ∀ L E w, (∀ i, i < (Code.ops c).size → L i = true) → J L E w → K E w
abbrev siK (P : Program) (c : Code) (K : Env → World → Prop) (E : Env) (w : World) : Prop := igK P (Code.fst c) K E w
variable {Q : Exit → Act → World → Prop} {E : Env} {w : World}
theorem ig (c : Code) (hc : regI P n c = true) (h : igK P c K E w) (hk : ∀ E' w' a', Ag n a' E' → K E' w' → Q .normal a' w') : WP P n c Q E w := by
  obtain ⟨J, h0, step, fin⟩ := h
  unfold regI at hc
  split at hc
  · rename_i id ops d
    simp only [Bool.and_eq_true] at hc
    obtain ⟨rfl, h2, h3, h4⟩ := hc
    exact fun a ha => wpIn_mono (wp_region_inv J h2 rfl h3 h4 ha h0 step fin) fun e a' w' he => by
      cases e with
      | normal => obtain ⟨E', hA, hK⟩ := he; exact hk E' w' a' hA hK
      | _ => exact he.elim
  · cases hc
theorem si (c : Code) (hc : (isSeq c && regI P n (Code.fst c)) = true) (h : siK P c K E w) (hk : ∀ E' w', K E' w' → WP P n (Code.snd c) Q E' w') : WP P n c Q E w :=
  WP.seq (seq_of (and_of hc).1) (ig _ (and_of hc).2 h fun E' w' a' hA hK => nx hA (hk E' w' hK))
end

/-! #### The operations of such a region, one by one -/
def rowOf (o : Oper) : Op × Option Nat × TypeId × List Nat := (o.op, o.dst, o.type, (o.after.toList.filter fun e => Region.binds .any e).map (·.on))
def allI {α : Type} (F : Nat → α → Prop) : List α → Nat → Prop
  | [], _ => True
  | a :: l, i => F i a ∧ allI F l (i + 1)
theorem allI_get {α : Type} {F : Nat → α → Prop} : ∀ {l : List α} {n i : Nat} {a : α}, allI F l n → l[i]? = some a → F (n + i) a
  | [], _, i, a, _, h => by simp at h
  | b :: l, n, 0, a, h, hi => by simp at hi; subst hi; exact h.1
  | b :: l, n, i + 1, a, h, hi => by
    have := allI_get (i := i) h.2 (by simpa using hi)
    rwa [show n + 1 + i = n + (i + 1) by omega] at this
section
variable {P : Program} {K : Env → World → Prop} {E : Env} {w : World}
/-- an operation as a row of a table: what is to be shown of it -/
def RowI (P : Program) (J : (Nat → Bool) → Env → World → Prop) (i : Nat) (r : Op × Option Nat × TypeId × List Nat) : Prop :=
  ∀ L E w o, o.op = r.1 → o.dst = r.2.1 → o.type = r.2.2.1 → L i = false → (∀ j ∈ r.2.2.2, L j = true) → J L E w → stepI P o E w fun E' w' => J (setB L i) E' w'
theorem ig_tab {c : Code} (tab : List (Op × Option Nat × TypeId × List Nat)) (ht : (Code.ops c).toList.map rowOf = tab) (J : (Nat → Bool) → Env → World → Prop) (h0 : J (fun _ => false) E w.drew) (step : allI (RowI P J) tab 0)
    (fin : ∀ L E w, (∀ i, i < tab.length → L i = true) → J L E w → K E w) : igK P c K E w := by
  refine ⟨J, h0, fun L E w i o ho hi hd hJ => ?_, fun L E w hL hJ => fin L E w (fun i hi => hL i ?_) hJ⟩
  · have hr : tab[i]? = some (rowOf o) := by rw [← ht, List.getElem?_map, Array.getElem?_toList, ho]; rfl
    have := allI_get step hr
    rw [Nat.zero_add] at this
    refine this L E w o rfl rfl rfl hi (fun j hj => ?_) hJ
    obtain ⟨e, he, rfl⟩ := List.mem_map.1 hj
    obtain ⟨h1, h2⟩ := List.mem_filter.1 he
    exact hd e (by simpa using h1) h2
  · rw [← ht, List.length_map] at hi
    simpa using hi
theorem st_mv {o : Oper} {t : Nat} {v : Value} (ho : o.op = .move (.tmp t) ∨ o.op = .assign (.tmp t)) (ht : E.get? t = some v) (h : K (E.put o.dst v) w) : stepI P o E w K := by
  obtain ⟨dst, op, ty, pos, after, guard⟩ := o
  have ev : E.ev (.tmp t) = v := by simp [Env.ev, Env.val, ht]
  rcases ho with ho | ho <;> (simp only at ho; subst ho)
  · show pureVC P _ E (fun v _ => K (E.put dst v) w)
    have hc : E.covers ⟨dst, .move (.tmp t), ty, pos, after, guard⟩ = true := by simp [Env.covers, Op.operands, Env.val, ht]
    unfold pureVC
    rw [hc]
    show K (E.put dst (E.ev (.tmp t))) w
    rw [ev]; exact h
  · show pureVC P _ E (fun v _ => K (E.put dst v) w)
    have hc : E.covers ⟨dst, .assign (.tmp t), ty, pos, after, guard⟩ = true := by simp [Env.covers, Op.operands, Env.val, ht]
    unfold pureVC
    rw [hc]
    show K (E.put dst (E.ev (.tmp t))) w
    rw [ev]; exact h
theorem st_ld {o : Oper} {T : TypeId} {t : Nat} {p : Addr} (ho : o.op = .load T (.tmp t)) (ht : E.get? t = some (.pointer (some p))) (h : ldVC P T p w fun v _ => K (E.put o.dst v) w) : stepI P o E w K := by
  obtain ⟨dst, op, ty, pos, after, guard⟩ := o
  simp only at ho
  subst ho
  show (match E.val (.tmp t) with | some (.pointer (some p)) => ldVC P T p w (fun v _ => K (E.put dst v) w) | _ => False)
  rw [show E.val (.tmp t) = some (.pointer (some p)) from ht]
  exact h
theorem st_fn2 {o : Oper} {f t1 t2 : Nat} {v1 v2 : Value} (ho : o.op = .makeFunc (.func f) #[] #[.tmp t1, .tmp t2]) (h1 : E.get? t1 = some v1) (h2 : E.get? t2 = some v2) (h : K (E.put o.dst (.func (.func f) #[] #[v1, v2])) w) : stepI P o E w K := by
  obtain ⟨dst, op, ty, pos, after, guard⟩ := o
  simp only at ho
  subst ho
  show pureVC P _ E (fun v _ => K (E.put dst v) w)
  have hc : E.covers ⟨dst, .makeFunc (.func f) #[] #[.tmp t1, .tmp t2], ty, pos, after, guard⟩ = true := by simp [Env.covers, Op.operands, Env.val, h1, h2]
  unfold pureVC
  rw [hc]
  show K (E.put dst (.func (.func f) (#[].map E.ev) (#[.tmp t1, .tmp t2].map E.ev))) w
  have e1 : E.ev (.tmp t1) = v1 := by simp [Env.ev, Env.val, h1]
  have e2 : E.ev (.tmp t2) = v2 := by simp [Env.ev, Env.val, h2]
  simp only [List.map_toArray, List.map_cons, List.map_nil, e1, e2]
  exact h
theorem st_map {o : Oper} {T : TypeId} (ho : o.op = .makeMap T none) (h : K (E.put o.dst (.map (some w.heap.size))) (w.alloc (.map #[] 0))) : stepI P o E w K := by
  obtain ⟨dst, op, ty, pos, after, guard⟩ := o
  simp only at ho
  subst ho
  have hc : E.covers ⟨dst, .makeMap T none, ty, pos, after, guard⟩ = true := by simp [Env.covers, Op.operands]
  have he : evalVC P ⟨dst, .makeMap T none, ty, pos, after, guard⟩ E w (fun v w' => K (E.put dst v) w') := by
    unfold evalVC
    rw [hc]
    exact h
  unfold stepI
  simp only [calm, cond_false]
  unfold effVC
  exact he
theorem st_ins {o : Oper} {T : TypeId} {m k v : Operand} {m' k' v' : Value} (ho : o.op = .insert T m k v) (hm : E.val m = some m') (hk : E.val k = some k') (hv : E.val v = some v') (h : ∃ w', (Instr.mapUpdate T m' k' v').run P w = .ok () w' ∧ K (E.put o.dst undef) w') : stepI P o E w K := by
  obtain ⟨dst, op, ty, pos, after, guard⟩ := o
  simp only at ho
  subst ho
  show (match E.val m, E.val k, E.val v with | some m, some k, some v => doUnitVC P (Instr.mapUpdate T m k v) w (fun v w' => K (E.put dst v) w') | _, _, _ => False)
  rw [hm, hk, hv]
  exact h
theorem st_call2 {o : Oper} {t a b f : Nat} {ts : Array TypeId} {first captured : Array Value} {x y : Value} (ho : o.op = .call ⟨.value (.tmp t), #[.tmp a, .tmp b], ts⟩) (ht : E.get? t = some (.func (.func f) first captured)) (ha : E.get? a = some x) (hb : E.get? b = some y) (hc : callable P f = true)
    (h : Calls P f (first ++ #[x, y] ++ captured) w fun e w' => exAny (zeroOf P o.type) fun v => e = .returned v ∧ K (E.put o.dst v) w') : stepI P o E w K := by
  obtain ⟨dst, op, ty, pos, after, guard⟩ := o
  simp only at ho
  subst ho
  show AndT (E.covers ⟨dst, .call ⟨.value (.tmp t), #[.tmp a, .tmp b], ts⟩, ty, pos, after, guard⟩) (match E.get? t with
    | some (.func (.func f) first captured) => AndT (callable P f) (callVC P f (first ++ (#[Operand.tmp a, .tmp b]).map E.ev ++ captured) (zeroOf P ty) w (fun v w' => K (E.put dst v) w'))
    | _ => False)
  have hcv : E.covers ⟨dst, .call ⟨.value (.tmp t), #[.tmp a, .tmp b], ts⟩, ty, pos, after, guard⟩ = true := by simp [Env.covers, Op.operands, Call.operands, Env.val, ht, ha, hb]
  rw [hcv, ht]
  show AndT (callable P f) _
  rw [hc]
  have e1 : E.ev (.tmp a) = x := by simp [Env.ev, Env.val, ha]
  have e2 : E.ev (.tmp b) = y := by simp [Env.ev, Env.val, hb]
  show callVC P f _ _ w _
  simp only [List.map_toArray, List.map_cons, List.map_nil, e1, e2]
  exact h
/-! #### What temporaries hold that do not depend on the order -/
/-- entries: 0 or the operation's number and 1; the temporary; its value -/
def Held0 (T : List (Nat × Nat × Value)) (L : Nat → Bool) (E : Env) : Prop := ∀ q ∈ T, (bif Nat.beq q.1 0 then true else L (q.1 - 1)) = true → E.get? q.2.1 = some q.2.2
theorem Held0.get {T : List (Nat × Nat × Value)} {L : Nat → Bool} (h : Held0 T L E) {i d : Nat} {v : Value} (hq : (i, d, v) ∈ T) (hi : (bif Nat.beq i 0 then true else L (i - 1)) = true) : E.get? d = some v := h _ hq hi
theorem get_put_ne {E : Env} {d t : Nat} {v : Value} (h : d ≠ t) : (E.put (some d) v).get? t = E.get? t := by
  have : Nat.beq d t = false := by rw [← Bool.not_eq_true, Nat.beq_eq]; exact h
  simp only [Env.put, Env.get?, this, cond_false]
theorem get_put {E : Env} {d : Nat} {v : Value} : (E.put (some d) v).get? d = some v := by simp [Env.put, Env.get?]
/-- an operation that fills an entry -/
theorem Held0.fill {T : List (Nat × Nat × Value)} {L : Nat → Bool} (h : Held0 T L E) {i d : Nat} {v : Value} (h1 : ∀ q ∈ T, q.1 = i + 1 → q = (i + 1, d, v)) (h2 : ∀ q ∈ T, q.2.1 = d → q.1 = i + 1) : Held0 T (setB L i) (E.put (some d) v) := by
  intro q hq hc
  by_cases hd : q.2.1 = d
  · obtain rfl := h1 q hq (h2 q hq hd)
    exact get_put
  · rw [get_put_ne (fun e => hd e.symm)]
    refine h q hq ?_
    by_cases h0 : q.1 = 0
    · rw [h0]; rfl
    · have hb : Nat.beq q.1 0 = false := by rw [← Bool.not_eq_true, Nat.beq_eq]; exact h0
      rw [hb] at hc ⊢
      have hne : q.1 - 1 ≠ i := fun e => hd (by rw [h1 q hq (by omega)])
      have : Nat.beq (q.1 - 1) i = false := by rw [← Bool.not_eq_true, Nat.beq_eq]; exact hne
      simpa [setB, this] using hc
/-- an operation that fills none -/
theorem Held0.pass {T : List (Nat × Nat × Value)} {L : Nat → Bool} (h : Held0 T L E) {i : Nat} {d : Option Nat} {v : Value} (h1 : ∀ q ∈ T, q.1 ≠ i + 1) (h2 : ∀ q ∈ T, d ≠ some q.2.1) : Held0 T (setB L i) (E.put d v) := by
  intro q hq hc
  have he : (E.put d v).get? q.2.1 = E.get? q.2.1 := by
    cases d with
    | none => rfl
    | some d => exact get_put_ne fun e => h2 q hq (by rw [e])
  rw [he]
  refine h q hq ?_
  by_cases h0 : q.1 = 0
  · rw [h0]; rfl
  · have hb : Nat.beq q.1 0 = false := by rw [← Bool.not_eq_true, Nat.beq_eq]; exact h0
    rw [hb] at hc ⊢
    have hne : q.1 - 1 ≠ i := fun e => h1 q hq (by omega)
    have : Nat.beq (q.1 - 1) i = false := by rw [← Bool.not_eq_true, Nat.beq_eq]; exact hne
    simpa [setB, this] using hc
end
end Go.W

/- Package term: a node in bytes: the contracts of write, keyOf. Package term: the bytes of a node say which node it is. Maps with strings as keys. Package term: what the builder's maps hold, in plain words. Package term: sortOfVar, sortOfLeaf, sortOfBits, sortOfArrays, sortOfStrings: the contracts. Package term: sortOfVar, sortOfLeaf, sortOfStrings: the contracts. Package term: sortOf, SortOf: the contracts. Needs and Vars, plain. No program in sight. Package enthymemeref04: binds, Write: the contracts. Package enthymemeref04: Canonical: the contract. Package enthymemeref07: fit, result, SortOf: the contracts. Package enthymemeref07: result, SortOf: the contracts. Package enthymemeref07: SortOf: the contract. Package enthymemeref07: Same, Index, Add: the contracts. Package enthymemeref07: start, Like, wanted, within, size: the contracts. Package enthymemeref04: Text: the condition and the contract. Printed in part by a program of ours (mkTA.py). The texts that are made of numbers: the expressions are in order, and the texts are canonical. No program in sight. Package enthymemeref04: Text: the contract; what the texts are. Package enthymemeref07: Like, wanted, node: the contracts. Needs and Vars of the package and of the reference: the contracts. Package term: Needs: the contract. Package slices over numbers: Equal, Clone; package term: sameNode, search, Add: the contracts. Package term: Add: the contract. Package term: the builder: what it holds; the contracts of its methods. Package term: the builder as a thing of one's own; newBuilder. Printed by a program of ours (vcgen.py) from the dump: the conditions of the functions, and that they suffice. strings.Builder: what it holds, and the contracts of its methods. -/
import Derived.Test.YtibaobaobnpdaaaGreatDoorU
import Derived.Test.YtibaobaobnpdaaaGreatDoorP0
import Derived.Test.YtibaobaobnpdaaaGreatDoorW
import Derived.MapKept
import Derived.Laws.CopyRow
import Derived.Lib.Builder
import Derived.Lib.MakeNoZero
import Derived.Lib.UnsafeStr
import Derived.Laws.Externs
import Derived.Laws.IdiomCopy
set_option linter.unusedVariables false
set_option maxRecDepth 100000
set_option maxHeartbeats 1000000
namespace Go.Proofs.YtibaobaobnpdaaaGreatDoor
open Go Go.W

def nodeB (n : Nx) : List UInt8 := encI n.op ++ (encL n.kids ++ (encI n.n ++ (encI n.m ++ (encU n.u.toNat ++ (encR (bl n.tx) ++ (encI n.st.k ++ (encI n.st.n ++ encI n.st.x)))))))
/-- a node of machine words -/
structure WdN (x : Nx) : Prop where
  op : I64 x.op
  ks : ∀ k ∈ x.kids, I64 k
  kl : x.kids.length ≤ 1000000000
  n : I64 x.n
  m : I64 x.m
  u : 0 ≤ x.u ∧ x.u < 18446744073709551616
  tx : x.tx.size ≤ 1000000000
  sk : I64 x.st.k
  sn : I64 x.st.n
  sx : I64 x.st.x
theorem nodeB_len {n : Nx} (W : WdN n) : (nodeB n).length ≤ 20000000000 := by
  have h1 := encI_len _ W.op
  have h2 := flat_len _ W.ks
  have h3 := encI_len _ W.n
  have h4 := encI_len _ W.m
  have h5 := encU_len10 n.u.toNat (by have := W.u; omega)
  have h6 := encI_len _ W.sk
  have h7 := encI_len _ W.sn
  have h8 := encI_len _ W.sx
  have h9 := encU_len10 n.kids.length (by have := W.kl; omega)
  have h0 := encU_len10 (bl n.tx).length (by have := W.tx; rw [bl_len]; omega)
  have k1 := W.kl
  have k2 := W.tx
  have k3 := bl_len n.tx
  unfold nodeB encL encR
  simp only [List.length_append]
  omega
theorem wr_then {P : Program} {f : FuncId} {args : Array Value} {w0 w : World} {wb : Nat} {own0 : List Nat} {bs bs' : List UInt8} (h : WrAt w0 wb own0 bs w) (hc : ∀ own, WrRep w wb bs own → (∀ x ∈ own, x ∈ own0 ∨ w0.heap.size ≤ x) → Calls P f args w (WrPost w wb own bs')) {K : World → Prop} (hK : ∀ w', WrAt w0 wb own0 bs' w' → K w') :
    Calls P f args w fun r w' => r = .returned (.tuple #[]) ∧ K w' := by
  obtain ⟨own, hr, hf, ho⟩ := h
  refine (hc own hr ho).mono ?_
  rintro r w' ⟨rfl, h'⟩
  exact ⟨rfl, hK w' (WrAt.then hf ho h')⟩
theorem w_ints2 {w : World} {wb : Nat} {bs : List UInt8} {own : List Nat} (hr : WrRep w wb bs own) {s : Sl} {l : List Int} (hb : Nums w s l) (hd : ∀ x ∈ (En.rd s (l.map intV)).fp, x ∉ own) (hi : ∀ x ∈ l, I64 x) (hl : bs.length + 10 * l.length ≤ 1000000000000) :
    Calls Tryz.prog n_wire_Writer_Ints #[.pointer (some (at0 wb)), s.v] w (WrPost w wb own (bs ++ encL l)) := by
  by_cases h0 : l = []
  · subst h0
    have hn : s.n = 0 := Nums.len hb
    refine wire_Writer_Ints.ok _ _ w _ ?_
    rw [hn]
    refine (w_uint hr 0 (by omega) (by omega)).mono ?_
    rintro r w1 ⟨rfl, h⟩
    refine ⟨rfl, wire_Writer_Ints.L0_step _ _ _ _ _ _ (sel_false (by decide) ⟨rfl, ?_⟩)⟩
    simpa [encL] using h
  · have hfp : (En.rd s (l.map intV)).fp = blkL s := by
      show (if l.map intV = [] then [] else blkL s) = _
      rw [if_neg (by simpa using h0)]
    exact w_ints hr hb (fun x hx => hd x (hfp ▸ hx)) (fun x hx => (En.rd s (l.map intV)).lt w hb x (hfp ▸ hx)) hi hl
theorem t_write {w : World} {wb : Nat} {bs : List UInt8} {own : List Nat} (hr : WrRep w wb bs own) {p : Addr} {d : Nd} (hp : NdAt w p d) (hd : d.P w) (h1 : p.block ∉ own) (h2 : ∀ x ∈ (kidE d).fp, x ∉ own) (W : WdN d.x) (hl : bs.length ≤ 100000000000) :
    Calls Tryz.prog n_term_write #[.pointer (some (at0 wb)), .pointer (some p)] w (WrPost w wb own (bs ++ nodeB d.x)) := by
  have at_ : ∀ {bs' : List UInt8} {w' : World}, WrAt w wb own bs' w' → NdAt w' p d := fun ⟨_, _, f, _⟩ => hp.st fun hlt => f.keep _ hlt h1
  have kd : ∀ {bs' : List UInt8} {w' : World}, WrAt w wb own bs' w' → Nums w' d.ks d.x.kids := fun ⟨_, _, f, _⟩ => (kidE d).st w _ (fun b hb hl => f.keep _ hl (h2 b hb)) hd
  have k1 := encI_len _ W.op
  have k2 := flat_len _ W.ks
  have k3 := encI_len _ W.n
  have k4 := encI_len _ W.m
  have hu : d.x.u = ((d.x.u.toNat : Nat) : Int) := by have := W.u; omega
  have k5 := encU_len10 d.x.u.toNat (by have := W.u; omega)
  have k6 := encI_len _ W.sk
  have k7 := encI_len _ W.sn
  have k9 := encU_len10 d.x.kids.length (by have := W.kl; omega)
  have k0 := encU_len10 (bl d.x.tx).length (by have := W.tx; rw [bl_len]; omega)
  have m1 := W.kl
  have m2 := W.tx
  have m3 := bl_len d.x.tx
  have lL : (encL d.x.kids).length ≤ 10000000010 := by unfold encL; simp only [List.length_append]; omega
  have lR : (encR (bl d.x.tx)).length ≤ 1000000010 := by unfold encR; simp only [List.length_append]; omega
  refine term_write.ok _ _ w _ ⟨_, hp.c0, wr_then (WrAt.refl hr) (fun o r _ => w_int r _ W.op (by omega)) fun w1 a1 => ⟨_, (at_ a1).c1, wr_then a1 (fun o r ho => w_ints2 r (kd a1) (fun x hx hm => ?_) W.ks (by simp only [List.length_append]; omega)) fun w2 a2 => ⟨_, (at_ a2).c2, wr_then a2 (fun o r _ => w_int r _ W.n (by simp only [List.length_append]; omega)) fun w3 a3 => ⟨_, (at_ a3).c3, wr_then a3 (fun o r _ => w_int r _ W.m (by simp only [List.length_append]; omega)) fun w4 a4 => ⟨_, (at_ a4).c4, ?_⟩⟩⟩⟩⟩
  · rcases ho x hm with h | h
    · exact h2 x hx h
    · have := (kidE d).lt w hd x hx
      omega
  rw [hu]
  refine wr_then a4 (fun o r _ => w_uint r d.x.u.toNat (by have := W.u; omega) (by simp only [List.length_append]; omega)) fun w5 a5 => ⟨_, (at_ a5).c5, wr_then a5 (fun o r _ => w_text r d.x.tx (by simp only [List.length_append]; omega)) fun w6 a6 => ⟨_, (at_ a6).s0, wr_then a6 (fun o r _ => w_int r _ W.sk (by simp only [List.length_append]; omega)) fun w7 a7 => ⟨_, (at_ a7).s1, wr_then a7 (fun o r _ => w_int r _ W.sn (by simp only [List.length_append]; omega)) fun w8 a8 => ⟨_, (at_ a8).s2, wr_then a8 (fun o r _ => w_int r _ W.sx (by simp only [List.length_append]; omega)) fun w9 a9 => ⟨rfl, ?_⟩⟩⟩⟩⟩
  unfold nodeB
  simp only [List.append_assoc] at a9
  exact a9
theorem t_keyOf {w : World} {p : Addr} {d : Nd} (hp : NdAt w p d) (hd : d.P w) (W : WdN d.x) :
    Calls Tryz.prog n_term_keyOf #[.pointer (some p)] w fun r w' => r = .returned (.string (ba (nodeB d.x))) ∧ Fr0 w w' := by
  refine term_keyOf.ok _ w _ ?_
  have f0 : Fr0 w (w.alloc (.cells #[.slice none 0 0] ty_wire_Writer)) := Fr.alloc _ _ _
  have lt := nodeB_len W
  refine (t_write (WrRep.new w) (hp.st fun hlt => f0.keep _ hlt id) ((kidE d).st w _ (fun b hb hl => f0.keep _ hl id) hd) (by have := NdAt.lt hp; simp; omega) (fun x hx => by have := (kidE d).lt w hd x hx; simp; omega) W (by simp)).mono ?_
  rintro r w1 ⟨rfl, own', r1, f1, o1⟩
  rw [List.nil_append] at r1
  refine ⟨rfl, (w_done r1 (by omega)).mono ?_⟩
  rintro r w2 ⟨s, rfl, hs, f2, _⟩
  refine ⟨s, rfl, _, bytes_str hs.rd, rfl, ?_⟩
  exact (f0.trans f1 fun x hx hm => by simp at hm; omega).tr0 f2
end Go.Proofs.YtibaobaobnpdaaaGreatDoor
set_option maxRecDepth 100000
set_option maxHeartbeats 1000000
namespace Go.Proofs.YtibaobaobnpdaaaGreatDoor
open Go Go.W

theorem u8_inj {a b : Nat} (ha : a < 256) (hb : b < 256) (h : UInt8.ofNat a = UInt8.ofNat b) : a = b := by
  have := congrArg UInt8.toNat h
  simp at this
  omega
theorem encU_inj : ∀ (n m : Nat) (r s : List UInt8), encU n ++ r = encU m ++ s → n = m ∧ r = s := by
  intro n
  induction n using Nat.strongRecOn with
  | _ n ih =>
    intro m r s h
    by_cases hn : n < 128 <;> by_cases hm : m < 128
    · rw [encU_small hn, encU_small hm] at h
      simp only [List.cons_append, List.nil_append, List.cons.injEq] at h
      exact ⟨u8_inj (by omega) (by omega) h.1, h.2⟩
    · rw [encU_small hn, encU_large hm] at h
      simp only [List.cons_append, List.nil_append, List.cons.injEq] at h
      have := u8_inj (by omega) (by omega) h.1
      omega
    · rw [encU_large hn, encU_small hm] at h
      simp only [List.cons_append, List.nil_append, List.cons.injEq] at h
      have := u8_inj (by omega) (by omega) h.1
      omega
    · rw [encU_large hn, encU_large hm] at h
      simp only [List.cons_append, List.cons.injEq] at h
      have h1 := u8_inj (by omega) (by omega) h.1
      have h2 := ih (n / 128) (by omega) _ _ _ h.2
      exact ⟨by omega, h2.2⟩
theorem zz_inj {a b : Int} (h : zz a = zz b) : a = b := by
  unfold zz at h
  split at h <;> split at h <;> omega
theorem encI_inj {n m : Int} {r s : List UInt8} (h : encI n ++ r = encI m ++ s) : n = m ∧ r = s := by
  have := encU_inj _ _ _ _ h
  exact ⟨zz_inj this.1, this.2⟩
theorem flatI_inj : ∀ {a b : List Int} {r s : List UInt8}, a.length = b.length → a.flatMap encI ++ r = b.flatMap encI ++ s → a = b ∧ r = s
  | [], [], _, _, _, h => ⟨rfl, h⟩
  | [], _ :: _, _, _, hl, _ => by simp at hl
  | _ :: _, [], _, _, hl, _ => by simp at hl
  | x :: a, y :: b, r, s, hl, h => by
    simp only [List.flatMap_cons, List.append_assoc] at h
    obtain ⟨h1, h2⟩ := encI_inj h
    obtain ⟨h3, h4⟩ := flatI_inj (a := a) (b := b) (by simpa using hl) h2
    exact ⟨by rw [h1, h3], h4⟩
theorem encL_inj {a b : List Int} {r s : List UInt8} (h : encL a ++ r = encL b ++ s) : a = b ∧ r = s := by
  unfold encL at h
  simp only [List.append_assoc] at h
  obtain ⟨h1, h2⟩ := encU_inj _ _ _ _ h
  exact flatI_inj h1 h2
theorem encR_inj {a b : List UInt8} {r s : List UInt8} (h : encR a ++ r = encR b ++ s) : a = b ∧ r = s := by
  unfold encR at h
  simp only [List.append_assoc] at h
  obtain ⟨h1, h2⟩ := encU_inj _ _ _ _ h
  exact List.append_inj h2 h1
theorem nodeB_inj {n m : Nx} (hn : 0 ≤ n.u) (hm : 0 ≤ m.u) (h : nodeB n = nodeB m) : n = m := by
  unfold nodeB at h
  obtain ⟨h1, h⟩ := encI_inj h
  obtain ⟨h2, h⟩ := encL_inj h
  obtain ⟨h3, h⟩ := encI_inj h
  obtain ⟨h4, h⟩ := encI_inj h
  obtain ⟨h5, h⟩ := encU_inj _ _ _ _ h
  obtain ⟨h6, h⟩ := encR_inj h
  obtain ⟨h7, h⟩ := encI_inj h
  obtain ⟨h8, h⟩ := encI_inj h
  have h9 := (encI_inj (r := []) (s := []) (by simpa using h)).1
  have u5 : n.u = m.u := by omega
  have u6 : n.tx = m.tx := by
    have := congrArg ba h6
    rwa [ba_bl, ba_bl] at this
  obtain ⟨a1, a2, a3, a4, a5, a6, ⟨a7, a8, a9⟩⟩ := n
  obtain ⟨b1, b2, b3, b4, b5, b6, ⟨b7, b8, b9⟩⟩ := m
  simp only at h1 h2 h3 h4 u5 u6 h7 h8 h9
  clear h5 h6
  subst h1 h2 h3 h4 u5 u6 h7 h8 h9
  rfl
/-- the key of a node -/
def keyB (n : Nx) : ByteArray := ba (nodeB n)
theorem keyB_inj {n m : Nx} (hn : 0 ≤ n.u) (hm : 0 ≤ m.u) (h : keyB n = keyB m) : n = m := by
  refine nodeB_inj hn hm ?_
  have := congrArg bl h
  unfold keyB at this
  rwa [bl_ba, bl_ba] at this
end Go.Proofs.YtibaobaobnpdaaaGreatDoor
set_option maxRecDepth 100000
set_option maxHeartbeats 1000000
namespace Go.Proofs.YtibaobaobnpdaaaGreatDoor
open Go Go.W

def SMapIs (es : Array MapEntry) (ms : List (ByteArray × Value)) : Prop := es.toList.map (fun e => (e.key, e.val)) = ms.map fun p => (Value.string p.1, p.2)
def sget (ms : List (ByteArray × Value)) (k : ByteArray) : Option Value := (ms.find? fun p => decide (p.1 = k)).map (·.2)
theorem beq_dec (a b : ByteArray) : (a == b) = decide (b = a) := by
  cases h : decide (b = a) with
  | true => rw [of_decide_eq_true h]; exact (Go.MapKept.bytes_beq _ _).2 rfl
  | false =>
    cases hc : (a == b) with
    | false => rfl
    | true => exact absurd ((Go.MapKept.bytes_beq _ _).1 hc).symm (of_decide_eq_false h)
theorem findNow_str {k : ByteArray} : ∀ {es : List MapEntry} {ms : List (ByteArray × Value)} {i : Nat}, es.map (fun e => (e.key, e.val)) = ms.map (fun p => (Value.string p.1, p.2)) →
    Instr.findNow .string (.string k) es i = some ((ms.findIdx? fun p => decide (p.1 = k)).bind fun j => (ms[j]?).map fun p => (i + j, p.2))
  | [], [], i, _ => rfl
  | [], _ :: _, _, h => by simp at h
  | _ :: _, [], _, h => by simp at h
  | e :: es, p :: ms, i, h => by
    simp only [List.map_cons, List.cons.injEq, Prod.mk.injEq] at h
    obtain ⟨⟨h1, h2⟩, h3⟩ := h
    have ih := findNow_str (k := k) (i := i + 1) h3
    unfold Instr.findNow
    simp only [h1, Instr.sameNow, beq_dec]
    by_cases hk : p.1 = k
    · have e2 : decide (p.1 = k) = true := decide_eq_true hk
      simp [List.findIdx?_cons, hk, h2]
    · have e2 : decide (p.1 = k) = false := decide_eq_false hk
      simp only [ih, List.findIdx?_cons, e2, Bool.false_eq_true, if_false]
      congr 1
      cases hf : ms.findIdx? (fun p => decide (p.1 = k)) with
      | none => simp
      | some j => simp [Nat.add_assoc, Nat.add_comm 1 j]
theorem sget_idx {ms : List (ByteArray × Value)} {k : ByteArray} {i : Nat} : (((ms.findIdx? fun p => decide (p.1 = k)).bind fun j => (ms[j]?).map fun p => (i + j, p.2)).map (·.2)) = sget ms k := by
  unfold sget
  induction ms generalizing i with
  | nil => rfl
  | cons p ms ih =>
    by_cases hk : p.1 = k
    · simp [List.findIdx?_cons, hk]
    · have e2 : decide (p.1 = k) = false := decide_eq_false hk
      simp only [List.findIdx?_cons, e2, Bool.false_eq_true, if_false, List.find?_cons]
      rw [← ih (i := i + 1)]
      cases hf : ms.findIdx? (fun p => decide (p.1 = k)) with
      | none => simp
      | some j => simp [Function.comp_def]
structure SMapOk (P : Program) (T kt et : TypeId) (z : Value) : Prop where
  hT : P.underlying T = some (.map kt et)
  hk : P.underlying kt = some .string
  hz : (P.info? et).map (·.zero) = some (some z)
theorem checkKey_str {P : Program} {kt : TypeId} (hk : P.underlying kt = some .string) (b : Bool) (k : ByteArray) (w : World) : (Instr.checkKey b 10000 kt (.string k)).run P w = .ok () w := by
  unfold Instr.checkKey
  simp [run_underlying hk]
theorem lookup_str {P : Program} {T kt et : TypeId} {z : Value} (mo : SMapOk P T kt et z) {w : World} {mb : Nat} {es : Array MapEntry} {clock : Nat} {ms : List (ByteArray × Value)}
    (hm : w.heap[mb]? = some (.map es clock)) (hms : SMapIs es ms) (k : ByteArray) :
    (Instr.lookup T (.map (some mb)) (.string k) true).run P w = .ok (.tuple #[(sget ms k).getD z, .bool (sget ms k).isSome]) w := by
  have hf := findNow_str (k := k) (i := 0) hms
  have hg : (getObj mb).run P w = .ok (.map es clock) w := by simp [getObj, Sem.run, hm]
  have hg2 := sget_idx (ms := ms) (k := k) (i := 0)
  unfold Instr.lookup Instr.findKey
  simp only [Sem.run_bind, run_underlying mo.hT, Result.andThen_ok, hg, Sem.run_pure, checkKey_str mo.hk, run_underlying mo.hk, hf]
  cases hr : ((ms.findIdx? fun p => decide (p.1 = k)).bind fun j => (ms[j]?).map fun p => (0 + j, p.2)) with
  | none => rw [hr] at hg2; simp [← hg2, zeroValue_run mo.hz]
  | some q => rw [hr] at hg2; simp [← hg2]
theorem update_str {P : Program} {T kt et : TypeId} {z : Value} (mo : SMapOk P T kt et z) {w : World} {mb : Nat} {es : Array MapEntry} {clock : Nat} {ms : List (ByteArray × Value)}
    (hm : w.heap[mb]? = some (.map es clock)) (hms : SMapIs es ms) (k : ByteArray) (v : Value) (hno : sget ms k = none) :
    ∃ w' es', (Instr.mapUpdate T (.map (some mb)) (.string k) v).run P w = .ok () w' ∧ w'.heap[mb]? = some (.map es' (clock + 1)) ∧ SMapIs es' (ms ++ [(k, v)]) ∧ Fr (fun b => b = mb) w w' ∧ w'.heap.size = w.heap.size := by
  have hf := findNow_str (k := k) (i := 0) hms
  have hg : (getObj mb).run P w = .ok (.map es clock) w := by simp [getObj, Sem.run, hm]
  have hg2 := sget_idx (ms := ms) (k := k) (i := 0)
  have hlt := lt_of_heap hm
  have hr : ((ms.findIdx? fun p => decide (p.1 = k)).bind fun j => (ms[j]?).map fun p => (0 + j, p.2)) = none := by
    rw [hno] at hg2; simpa using hg2
  refine ⟨{ w with heap := w.heap.setIfInBounds mb (.map (es.push { key := .string k, val := v, born := clock }) (clock + 1)) }, es.push { key := .string k, val := v, born := clock }, ?_, by simp [hlt], ?_, Fr.setObj w mb _ rfl, by simp⟩
  · unfold Instr.mapUpdate Instr.findKey
    simp only [Sem.run_bind, run_underlying mo.hT, Result.andThen_ok, hg, checkKey_str mo.hk, run_underlying mo.hk, hf, hr]
    simp [setObj, Sem.run, hm]
  · unfold SMapIs at hms ⊢
    simp [hms]
end Go.Proofs.YtibaobaobnpdaaaGreatDoor
set_option maxRecDepth 100000
set_option maxHeartbeats 1000000
namespace Go.Proofs.YtibaobaobnpdaaaGreatDoor
open Go Go.W

/-- the numbers of the nodes by their keys -/
def placesX : List Nx → Nat → List (ByteArray × Value)
  | [], _ => []
  | d :: g, i => (keyB d, .i (i : Int)) :: placesX g (i + 1)
theorem places_snoc (n : Nx) : ∀ (g : List Nx) (i : Nat), placesX (g ++ [n]) i = placesX g i ++ [(keyB n, .i ((i + g.length : Nat) : Int))]
  | [], i => by simp [placesX]
  | d :: g, i => by
    have := places_snoc n g (i + 1)
    simp only [List.cons_append, placesX, this, List.length_cons]
    rw [show i + 1 + g.length = i + (g.length + 1) by omega]
theorem places_get {n : Nx} (hn : 0 ≤ n.u) : ∀ {g : List Nx} {i : Nat}, (∀ d ∈ g, 0 ≤ d.u) → sget (placesX g i) (keyB n) = (idxX n g i).map fun k : Nat => .i (k : Int)
  | [], i, _ => rfl
  | d :: g, i, h => by
    have ih := places_get hn (g := g) (i := i + 1) fun e he => h e (by simp [he])
    unfold sget at ih ⊢
    unfold placesX idxX
    by_cases hd : d = n
    · subst hd
      simp
    · have hk : ¬ keyB d = keyB n := fun e => hd (keyB_inj (h d (by simp)) hn e)
      rw [if_neg hd, List.find?_cons]
      simp only [decide_eq_false hk]
      exact ih
/-- the sorts of the variables by their names -/
def varsL : List Nx → List (ByteArray × Value)
  | [] => []
  | d :: g => if d.op = 0 then (d.tx, srtV d.st) :: varsL g else varsL g
theorem varsL_snoc (n : Nx) : ∀ (g : List Nx), varsL (g ++ [n]) = varsL g ++ (if n.op = 0 then [(n.tx, srtV n.st)] else [])
  | [] => by
    unfold varsL
    simp only [List.nil_append, varsL]
  | d :: g => by
    have := varsL_snoc n g
    simp only [List.cons_append, varsL, this]
    split <;> simp
theorem varsL_get (t : ByteArray) : ∀ (g : List Nx), sget (varsL g) t = (varS g t).map srtV
  | [] => rfl
  | d :: g => by
    have ih := varsL_get t g
    unfold sget at ih ⊢
    unfold varsL varS
    by_cases h0 : d.op = 0
    · rw [if_pos h0, List.find?_cons]
      by_cases ht : d.tx = t
      · rw [if_pos ⟨h0, ht⟩]
        simp [ht]
      · rw [if_neg (fun h => ht h.2)]
        simp only [decide_eq_false ht]
        exact ih
    · rw [if_neg h0, if_neg (fun h => h0 h.1)]
      exact ih
end Go.Proofs.YtibaobaobnpdaaaGreatDoor
set_option maxRecDepth 100000
set_option maxHeartbeats 1000000
namespace Go.Proofs.YtibaobaobnpdaaaGreatDoor
open Go Go.W

/-- what is returned: the sort counts where there is no error -/
def ErrR (s : Srt) (e : Int) (r : Ending) : Prop := ∃ (t : Srt) (e' : Int), r = sortR (t, e') ∧ e' = e ∧ (e = 0 → t = s)
theorem lhP {w : World} {p : Addr} {d : Nd} (h : NdAt w p d) : LH F0 w w [] [.nda p d] := lh0 _ (by
  intro e he
  simp only [List.mem_cons, List.not_mem_nil, or_false] at he
  subst he
  exact h)
def errX (n : Nx) (x y z : Srt) : Int := if fitX n.op x y z = false then 9 else if rngX n x y z = false then 5 else if n.op = 33 ∧ canX n.tx = false then 2 else 0
theorem res_err {n : Nx} {x y z t : Srt} {sorts ranges : Bool} (h33 : n.op ≠ 33) (h1 : sorts = fitX n.op x y z) (h2 : sorts = true → ranges = rngX n x y z) (h3 : sorts = true → ranges = true → t = resX n x y z) : ErrR (resX n x y z) (errX n x y z) (sortR (t, resE sorts ranges)) := by
  refine ⟨t, _, rfl, ?_, fun h => ?_⟩
  · unfold resE errX
    rw [← h1]
    cases sorts with
    | false => rfl
    | true =>
      rw [← h2 rfl]
      cases ranges with
      | false => rfl
      | true => simp [h33]
  · unfold errX at h
    rw [← h1] at h
    cases sorts with
    | false => simp at h
    | true =>
      rw [← h2 rfl] at h
      cases ranges with
      | false => simp at h
      | true => exact h3 rfl rfl
section
variable {M : Nat → Prop} {w0 w : World} {L D : List En} {bs bs' : List Nat}
/-- the call of result, and what is returned -/
theorem t_fin (H : LH F0 w0 w L D) {n : Nx} {x y z : Srt} (t : Srt) (sorts ranges : Bool) (h33 : n.op ≠ 33) (h1 : sorts = fitX n.op x y z) (h2 : sorts = true → ranges = rngX n x y z) (h3 : sorts = true → ranges = true → t = resX n x y z) (hbs : ∀ b ∈ bs, En.g b ∈ L := by simp) :
    callF bs' Tryz.prog n_term_result #[srtV t, .bool sorts, .bool ranges] w fun r w5 => ∃ a b c e : Int, r = .returned (.tuple #[.agg #[.i a, .i b, .i c], .i e]) ∧ loc bs w5 fun w6 => ErrR (resX n x y z) (errX n x y z) (.returned (.tuple #[.agg #[.i a, .i b, .i c], .i e])) ∧ Fr0 w0 w6 := by
  refine H.callg (t_result t sorts ranges w) ?_
  rintro _ w1 rfl H1
  exact ⟨_, _, _, _, rfl, H1.locg (fun w2 H2 => ⟨res_err h33 h1 h2 h3, H2.fr⟩) hbs⟩
end
/-- a sort that is in bounds -/
def Bnd (s : Srt) : Prop := 0 ≤ s.n ∧ s.n ≤ 64
theorem valid_bnd {s : Srt} (h : validS s = true) : Bnd s := ⟨(valid_n h).1, (valid_n h).2.1⟩
theorem no_bnd : Bnd noS := ⟨by decide, by decide⟩
theorem t_bits {w : World} {p : Addr} {d : Nd} {x y z : Srt} (h : NdAt w p d) (h4 : 4 ≤ d.x.op) (h23 : d.x.op ≤ 23) (hx : Bnd x) (hy : Bnd y) (hn : I64 d.x.n) (hm : I64 d.x.m) :
    Calls Tryz.prog n_term_sortOfBits #[.pointer (some p), srtV x, srtV y, srtV z] w fun r w' => ErrR (resX d.x x y z) (errX d.x x y z) r ∧ Fr0 w w' := by
  refine term_sortOfBits.okT _ _ _ _ _ _ _ _ _ _ w _ ((lhP h).newg fun b5 w1 H1 => H1.newg fun b6 w2 H2 => H2.newg fun b7 w3 H3 => H3.newg fun b8 w4 H4 => ?_)
  obtain ⟨⟨op, kids, n, m, u, tx, st⟩, ksl⟩ := d
  have C : ∀ {w5 : World} {L : List En}, LH F0 w w5 L [.nda p ⟨⟨op, kids, n, m, u, tx, st⟩, ksl⟩] → NdAt w5 p ⟨⟨op, kids, n, m, u, tx, st⟩, ksl⟩ := fun H => H.getD 0
  simp only at h4 h23 hn hm
  refine ⟨op, (C H4).c0, ?_⟩
  obtain ⟨hx1, hx2⟩ := hx
  obtain ⟨hy1, hy2⟩ := hy
  obtain ⟨hn1, hn2⟩ := hn
  obtain ⟨hm1, hm2⟩ := hm
  have two : ∀ (c : Bool), c = true → c = true := fun _ h => h
  rcases op_all (by omega) (by omega : op ≤ 34) with rfl | rfl | rfl | rfl | rfl | rfl | rfl | rfl | rfl | rfl | rfl | rfl | rfl | rfl | rfl | rfl | rfl | rfl | rfl | rfl | rfl | rfl | rfl | rfl | rfl | rfl | rfl | rfl | rfl | rfl | rfl | rfl | rfl | rfl | rfl
  iterate 4 omega
  rotate_left 20
  iterate 11 omega
  all_goals repeat (first | refine sel_false rfl ?_ | refine sel_true rfl ?_)
  -- Not, Neg
  iterate 2
    · refine H4.locg fun w5 H5 => H5.callg (t_isBV x w5) ?_
      rintro _ w6 rfl H6
      exact ⟨_, rfl, t_fin H6 x _ true (by simp) rfl (fun _ => rfl) (fun _ _ => rfl)⟩
  -- And .. Ashr
  iterate 10
    · refine H4.locg fun w5 H5 => H5.callg (t_isBV x w5) ?_
      rintro _ w6 rfl H6
      refine ⟨_, rfl, sel_eq (fun hk => ?_) (fun hk => ?_)⟩
      · refine t_fin H6 x _ true (by simp) ?_ (fun _ => rfl) (fun _ _ => rfl)
        rw [srt_eq]
        show _ = (x.k == 0 && decide (x = y))
        rw [hk]; rfl
      · refine t_fin H6 x _ true (by simp) ?_ (fun _ => rfl) (fun _ _ => rfl)
        show _ = (x.k == 0 && decide (x = y))
        rw [beq_eq_false_iff_ne.2 hk]; rfl
  -- Ult, Slt
  iterate 2
    · refine H4.locg fun w5 H5 => H5.callg (t_bv 1 w5) ?_
      rintro _ w6 rfl H6
      refine ⟨_, _, _, rfl, H6.callg (t_isBV x w6) ?_⟩
      rintro _ w7 rfl H7
      refine ⟨_, rfl, sel_eq (fun hk => ?_) (fun hk => ?_)⟩
      · refine t_fin H7 (bvS 1) _ true (by simp) ?_ (fun _ => rfl) (fun _ _ => rfl)
        rw [srt_eq]
        show _ = (x.k == 0 && decide (x = y))
        rw [hk]; rfl
      · refine t_fin H7 (bvS 1) _ true (by simp) ?_ (fun _ => rfl) (fun _ _ => rfl)
        show _ = (x.k == 0 && decide (x = y))
        rw [beq_eq_false_iff_ne.2 hk]; rfl
  -- Eq
  · refine H4.locg fun w5 H5 => H5.callg (t_bv 1 w5) ?_
    rintro _ w6 rfl H6
    refine ⟨_, _, _, rfl, H6.callg (t_alike x y w6) ?_⟩
    rintro _ w7 rfl H7
    exact ⟨_, rfl, t_fin H7 (bvS 1) _ true (by simp) rfl (fun _ => rfl) (fun _ _ => rfl)⟩
  -- Ite
  · refine H4.newg fun b10 w5 H5 => H5.locg fun w6 H6 => H6.callg (t_isStr y w6) ?_
    rintro _ w7 rfl H7
    have S4 : ∀ (t : Srt) (w8 : World), ((decide (y = z) || (y.k == 1 && z.k == 1)) = true → t = if y.k = 1 then strS (if y.n < z.n then z.n else y.n) else y) → LH F0 w w8 [.g b5, .g b6, .g b7, .g b8, .g b10] [.nda p ⟨⟨19, kids, n, m, u, tx, st⟩, ksl⟩] → term_sortOfBits.S4T b5 x.k x.n x.x b6 y.k y.n y.x b7 z.k z.n z.x b8 0 0 0 b10 t.k t.n t.x w8 fun r w' => ErrR (resX ⟨19, kids, n, m, u, tx, st⟩ x y z) (errX ⟨19, kids, n, m, u, tx, st⟩ x y z) r ∧ Fr0 w w' := by
      intro t w8 ht H8
      refine H8.locg fun w9 H9 => H9.callg (t_bv 1 w9) ?_
      rintro _ w10 rfl H10
      have fe : fitX 19 x y z = (decide (x = bvS 1) && (decide (y = z) || (y.k == 1 && z.k == 1))) := rfl
      refine ⟨_, _, _, rfl, sel_srt (a := x) (b := bvS 1) (fun he => H10.callg (t_alike y z w10) ?_) (fun he => ?_)⟩
      · rintro _ w11 rfl H11
        refine ⟨_, rfl, t_fin H11 t _ true (by simp) ?_ (fun _ => rfl) (fun h _ => ht h)⟩
        show _ = fitX 19 x y z
        rw [fe, decide_eq_true he]; rfl
      · refine t_fin H10 t _ true (by simp) ?_ (fun _ => rfl) (fun h _ => by cases h)
        show _ = fitX 19 x y z
        rw [fe, decide_eq_false he]; rfl
    have yes : ∀ t : Srt, y.k = 1 → z.k = 1 → t = strS (if y.n < z.n then z.n else y.n) → ((decide (y = z) || (y.k == 1 && z.k == 1)) = true → t = if y.k = 1 then strS (if y.n < z.n then z.n else y.n) else y) := fun t h1 _ h3 _ => by rw [if_pos h1, h3]
    refine ⟨_, rfl, sel_eq (fun hk => H7.callg (t_isStr z w7) ?_) (fun hk => S4 y w7 (fun _ => by rw [if_neg hk]) H7)⟩
    rintro _ w8 rfl H8
    refine ⟨_, rfl, sel_eq (fun hk2 => H8.callg (t_str _ w8) ?_) (fun hk2 => S4 y w8 (fun hf => ?_) H8)⟩
    · rintro _ w9 rfl H9
      exact ⟨_, _, _, rfl, H9.locg fun w10 H10 => S4 (strS (if y.n < z.n then z.n else y.n)) w10 (yes _ hk hk2 rfl) H10⟩
    · rw [beq_eq_false_iff_ne.2 hk2, Bool.and_false, Bool.or_false] at hf
      have := of_decide_eq_true hf
      exact absurd (by rw [← this]; exact hk) hk2
  -- Concat
  · have e1 : IntKind.wrap .i64 (x.n + y.n) = x.n + y.n := IntWalk.i64_in _ (by omega)
    have fe : fitX 20 x y z = (x.k == 0 && y.k == 0) := rfl
    refine H4.locg fun w5 H5 => ?_
    rw [e1]
    refine H5.callg (t_bv _ w5) ?_
    rintro _ w6 rfl H6
    refine ⟨_, _, _, rfl, H6.callg (t_isBV x w6) ?_⟩
    rintro _ w7 rfl H7
    refine ⟨_, rfl, sel_eq (fun hk => H7.callg (t_isBV y w7) ?_) (fun hk => ?_)⟩
    · rintro _ w8 rfl H8
      refine ⟨_, rfl, t_fin H8 (bvS (x.n + y.n)) _ _ (by simp) ?_ (fun _ => rfl) (fun _ _ => rfl)⟩
      show _ = fitX 20 x y z
      rw [fe, hk]; rfl
    · refine t_fin H7 (bvS (x.n + y.n)) _ _ (by simp) ?_ (fun h => by cases h) (fun h _ => by cases h)
      show _ = fitX 20 x y z
      rw [fe, beq_eq_false_iff_ne.2 hk]; rfl
  -- Extract
  · have hr : rngX ⟨21, kids, n, m, u, tx, st⟩ x y z = (decide (0 ≤ m) && decide (m ≤ n) && decide (n < x.n)) := rfl
    refine H4.locg fun w5 H5 => ⟨_, (C H5).c2, _, (C H5).c3, _, (C H5).c3, H5.callg (t_bv _ w5) ?_⟩
    rintro _ w6 rfl H6
    refine ⟨_, _, _, rfl, (C H6).c3, H6.callg (t_isBV x w6) ?_⟩
    rintro _ w7 rfl H7
    refine ⟨_, rfl, (C H7).c3, sel_dec (fun g1 => ⟨_, (C H7).c3, _, (C H7).c2, sel_dec (fun g2 => ⟨_, (C H7).c2, t_fin H7 (bvS _) _ _ (by simp) rfl (fun _ => ?_) (fun _ g3 => ?_)⟩) (fun g2 => t_fin H7 (bvS _) _ _ (by simp) rfl (fun _ => ?_) (fun _ h => by cases h))⟩) (fun g1 => t_fin H7 (bvS _) _ _ (by simp) rfl (fun _ => ?_) (fun _ h => by cases h))⟩
    · rw [hr, decide_eq_true (show 0 ≤ m from g1), decide_eq_true (show m ≤ n from g2)]; rfl
    · have g1 : 0 ≤ m := g1
      have g2 : m ≤ n := g2
      have g3 : n < x.n := of_decide_eq_true g3
      show bvS (IntKind.wrap .i64 (IntKind.wrap .i64 (n - m) + 1)) = bvS (n - m + 1)
      rw [IntWalk.i64_in (n - m) (by omega), IntWalk.i64_in _ (by omega)]
    · rw [hr, decide_eq_false (show ¬ m ≤ n from g2), Bool.and_false]; rfl
    · rw [hr, decide_eq_false (show ¬ 0 ≤ m from g1)]; rfl
  -- Zext, Sext
  iterate 2
    · have e64 : IntKind.wrap .i64 (64 - x.n) = 64 - x.n := IntWalk.i64_in _ (by omega)
      refine H4.locg fun w5 H5 => ⟨_, (C H5).c2, _, (C H5).c2, H5.callg (t_bv _ w5) ?_⟩
      rintro _ w6 rfl H6
      refine ⟨_, _, _, rfl, (C H6).c2, H6.callg (t_isBV x w6) ?_⟩
      rintro _ w7 rfl H7
      refine ⟨_, rfl, (C H7).c2, sel_dec (fun g1 => ⟨_, (C H7).c2, t_fin H7 (bvS _) _ _ (by simp) rfl (fun _ => ?_) (fun _ g3 => ?_)⟩) (fun g1 => t_fin H7 (bvS _) _ _ (by simp) rfl (fun _ => ?_) (fun _ h => by cases h))⟩
      · show _ = (decide (1 ≤ n) && decide (n ≤ 64 - x.n))
        rw [e64, decide_eq_true (show 1 ≤ n from g1)]; rfl
      · have g1 : 1 ≤ n := g1
        rw [e64] at g3
        have g3 : n ≤ 64 - x.n := of_decide_eq_true g3
        show bvS (IntKind.wrap .i64 (x.n + n)) = bvS (x.n + n)
        rw [IntWalk.i64_in _ (by omega)]
      · show _ = (decide (1 ≤ n) && decide (n ≤ 64 - x.n))
        rw [decide_eq_false (show ¬ 1 ≤ n from g1)]; rfl
theorem store_fit {x y z : Srt} (ha : arrS x = true) : fitX 25 x y z = (decide (y = bvS x.x) && (if x.k = 3 then z.k == 1 && decide (z.n ≤ x.n) else decide (z = elemS x))) := by
  show (arrS x && decide (y = bvS x.x) && (decide (z = elemS x) || (x.k == 3 && z.k == 1 && decide (z.n ≤ x.n)))) = _
  rw [ha, Bool.true_and]
  congr 1
  by_cases h3 : x.k = 3
  · rw [if_pos h3, h3]
    have he : elemS x = strS x.n := by unfold elemS; rw [if_neg (by omega)]
    rw [he]
    by_cases hz : z = strS x.n
    · subst hz
      simp [strS]
    · rw [decide_eq_false hz]; rfl
  · rw [if_neg h3, beq_eq_false_iff_ne.2 h3]
    simp
theorem t_arrays {w : World} {p : Addr} {d : Nd} {x y z : Srt} (h : NdAt w p d) (h4 : 24 ≤ d.x.op) (h26 : d.x.op ≤ 26) :
    Calls Tryz.prog n_term_sortOfArrays #[.pointer (some p), srtV x, srtV y, srtV z] w fun r w' => ErrR (resX d.x x y z) (errX d.x x y z) r ∧ Fr0 w w' := by
  refine term_sortOfArrays.okT _ _ _ _ _ _ _ _ _ _ w _ ((lhP h).newg fun b5 w1 H1 => H1.newg fun b6 w2 H2 => H2.newg fun b7 w3 H3 => H3.newg fun b8 w4 H4 => ?_)
  have C : ∀ {w5 : World} {L : List En}, LH F0 w w5 L [.nda p d] → NdAt w5 p d := fun H => H.getD 0
  refine ⟨_, (C H4).c0, sel_eq (fun ho => H4.locg fun w5 H5 => H5.callg (t_bv x.x w5) ?_) (fun ho => H4.callg (t_bv x.n w4) ?_)⟩
  · rintro _ w6 rfl H6
    refine ⟨_, _, _, rfl, H6.callg (t_isArray x w6) ?_⟩
    rintro _ w7 rfl H7
    have fe : fitX d.x.op x y z = (arrS x && decide (x = y)) := by rw [ho]; rfl
    have fr : rngX d.x x y z = true := by unfold rngX; rw [ho]; rfl
    have fs : resX d.x x y z = bvS x.x := by unfold resX; rw [ho]; rfl
    refine ⟨_, rfl, sel_intro (fun hk => ?_) (fun hk => ?_)⟩
    · refine t_fin H7 (bvS x.x) _ true (by omega) ?_ (fun _ => fr.symm) (fun _ _ => fs.symm)
      rw [fe, srt_eq, hk]; rfl
    · refine t_fin H7 (bvS x.x) _ true (by omega) ?_ (fun _ => fr.symm) (fun _ _ => fs.symm)
      rw [fe, hk]; rfl
  rintro _ w6 rfl H6
  have fr : rngX d.x x y z = true := by unfold rngX; rw [if_neg (by omega), if_neg (by omega), if_neg (by omega), if_neg (by omega), if_neg (by omega)]
  have S1 : ∀ (t : Srt) (b10 : Nat) (f : Bool) (w7 : World), f = (arrS x && decide (y = bvS x.x)) → (arrS x = true → t = elemS x) → LH F0 w w7 [.g b5, .g b6, .g b7, .g b8, .g b10] [.nda p d] → term_sortOfArrays.S1T p b5 x.k x.n x.x b7 z.k z.n z.x b8 0 0 0 b10 t.k t.n t.x f w7 fun r w' => ErrR (resX d.x x y z) (errX d.x x y z) r ∧ Fr0 w w' := by
    intro t b10 f w7 hf ht H7
    refine ⟨_, (C H7).c0, sel_eq (fun h24 => ?_) (fun h24 => ?_)⟩
    · refine t_fin H7 t f true (by omega) ?_ (fun _ => fr.symm) (fun hh _ => ?_)
      · rw [hf, h24]; rfl
      · rw [hf] at hh
        simp only [Bool.and_eq_true] at hh
        rw [ht hh.1]
        unfold resX; rw [h24]; rfl
    have h25 : d.x.op = 25 := by omega
    have fs : resX d.x x y z = x := by unfold resX; rw [h25]; rfl
    have ff : f = false → fitX d.x.op x y z = false := fun h => by
      rw [h25]
      show (arrS x && decide (y = bvS x.x) && (decide (z = elemS x) || (x.k == 3 && z.k == 1 && decide (z.n ≤ x.n)))) = _
      rw [← hf, h]; rfl
    have ft : f = true → arrS x = true ∧ fitX d.x.op x y z = (if x.k = 3 then z.k == 1 && decide (z.n ≤ x.n) else decide (z = elemS x)) := fun h => by
      rw [h] at hf
      have hf := hf.symm
      simp only [Bool.and_eq_true] at hf
      refine ⟨hf.1, ?_⟩
      rw [h25, store_fit hf.1, hf.2, Bool.true_and]
    refine sel_eq (fun hk => sel_intro (fun hft => H7.locg fun w8 H8 => H8.callg (t_isStr z w8) ?_) (fun hff => H7.locg fun w8 H8 => t_fin H8 x _ true (by omega) (ff hff).symm (fun _ => fr.symm) (fun _ _ => fs.symm))) (fun hk => sel_intro (fun hft => H7.locg fun w8 H8 => t_fin H8 x _ true (by omega) ?_ (fun _ => fr.symm) (fun _ _ => fs.symm)) (fun hff => H7.locg fun w8 H8 => t_fin H8 x _ true (by omega) (ff hff).symm (fun _ => fr.symm) (fun _ _ => fs.symm)))
    · rintro _ w9 rfl H9
      have := (ft hft).2
      rw [if_pos hk] at this
      refine ⟨_, rfl, sel_eq (fun hz => t_fin H9 x _ true (by omega) ?_ (fun _ => fr.symm) (fun _ _ => fs.symm)) (fun hz => t_fin H9 x _ true (by omega) ?_ (fun _ => fr.symm) (fun _ _ => fs.symm))⟩
      · rw [this, hz]; rfl
      · rw [this, beq_eq_false_iff_ne.2 hz]; rfl
    · have h2 := ft hft
      rw [if_neg hk] at h2
      rw [h2.2, srt_eq, ht h2.1]
  have S0 : ∀ (t : Srt) (b10 : Nat) (w7 : World), (arrS x = true → t = elemS x) → LH F0 w w7 [.g b5, .g b6, .g b7, .g b8, .g b10] [.nda p d] → term_sortOfArrays.S0T p b5 x.k x.n x.x b6 y.k y.n y.x b7 z.k z.n z.x b8 0 0 0 b10 t.k t.n t.x w7 fun r w' => ErrR (resX d.x x y z) (errX d.x x y z) r ∧ Fr0 w w' := by
    intro t b10 w7 ht H7
    refine H7.locg fun w8 H8 => H8.callg (t_isArray x w8) ?_
    rintro _ w9 rfl H9
    refine ⟨_, rfl, sel_intro (fun hk => H9.callg (t_bv x.x w9) ?_) (fun hk => S1 t b10 false w9 (by rw [hk]; rfl) ht H9)⟩
    rintro _ w10 rfl H10
    exact ⟨_, _, _, rfl, S1 t b10 _ w10 (by rw [hk]; exact srt_eq y (bvS x.x)) ht H10⟩
  refine ⟨_, _, _, rfl, H6.newg fun b10 w7 H7 => sel_eq (fun hk => H7.locg fun w8 H8 => H8.callg (t_str x.n w8) ?_) (fun hk => H7.locg fun w8 H8 => S0 (bvS x.n) b10 w8 (fun ha => ?_) H8)⟩
  · rintro _ w9 rfl H9
    exact ⟨_, _, _, rfl, H9.locg fun w10 H10 => S0 (strS x.n) b10 w10 (fun _ => by unfold elemS; rw [if_neg (by omega)]) H10⟩
  · unfold arrS at ha
    simp only [Bool.or_eq_true, beq_iff_eq] at ha
    unfold elemS
    rw [if_pos (by omega)]
end Go.Proofs.YtibaobaobnpdaaaGreatDoor
set_option maxRecDepth 100000
set_option maxHeartbeats 1000000
namespace Go.Proofs.YtibaobaobnpdaaaGreatDoor
open Go Go.W

/-- isNormal says what is said of a text -/
def NormOk (t : ByteArray) : Prop := ∀ w, Calls Tryz.prog n_term_isNormal #[.string t] w fun r w' => r = .returned (.bool (canX t)) ∧ Fr0 w w'
theorem t_strings {w : World} {p : Addr} {d : Nd} {x y z : Srt} (h : NdAt w p d) (h27 : 27 ≤ d.x.op) (h34 : d.x.op ≤ 34) (hx : Bnd x) (hy : Bnd y) (hz : Bnd z) (hN : d.x.op = 33 → NormOk d.x.tx) :
    Calls Tryz.prog n_term_sortOfStrings #[.pointer (some p), srtV x, srtV y, srtV z] w fun r w' => ErrR (resX d.x x y z) (errX d.x x y z) r ∧ Fr0 w w' := by
  refine term_sortOfStrings.okT _ _ _ _ _ _ _ _ _ _ w _ ((lhP h).newg fun b5 w1 H1 => H1.newg fun b6 w2 H2 => H2.newg fun b7 w3 H3 => H3.newg fun b8 w4 H4 => ?_)
  obtain ⟨⟨op, kids, n, m, u, tx, st⟩, ksl⟩ := d
  have C : ∀ {w5 : World} {L : List En}, LH F0 w w5 L [.nda p ⟨⟨op, kids, n, m, u, tx, st⟩, ksl⟩] → NdAt w5 p ⟨⟨op, kids, n, m, u, tx, st⟩, ksl⟩ := fun H => H.getD 0
  simp only at h27 h34 hN
  refine ⟨op, (C H4).c0, ?_⟩
  obtain ⟨hx1, hx2⟩ := hx
  obtain ⟨hy1, hy2⟩ := hy
  obtain ⟨hz1, hz2⟩ := hz
  have hops : op = 27 ∨ op = 28 ∨ op = 29 ∨ op = 30 ∨ op = 31 ∨ op = 32 ∨ op = 33 ∨ op = 34 := by omega
  rcases hops with rfl | rfl | rfl | rfl | rfl | rfl | rfl | rfl
  all_goals repeat (first | refine sel_false rfl ?_ | refine sel_true rfl ?_)
  -- Len
  · refine H4.locg fun w5 H5 => H5.callg (t_bv 7 w5) ?_
    rintro _ w6 rfl H6
    refine ⟨_, _, _, rfl, H6.callg (t_isStr x w6) ?_⟩
    rintro _ w7 rfl H7
    exact ⟨_, rfl, t_fin H7 (bvS 7) _ true (by simp) rfl (fun _ => rfl) (fun _ _ => rfl)⟩
  -- Byte
  · have hr : rngX ⟨28, kids, n, m, u, tx, st⟩ x y z = (decide (0 ≤ n) && decide (n ≤ 63)) := rfl
    refine H4.locg fun w5 H5 => ⟨_, (C H5).c2, H5.callg (t_bv 8 w5) ?_⟩
    rintro _ w6 rfl H6
    refine ⟨_, _, _, rfl, (C H6).c2, H6.callg (t_isStr x w6) ?_⟩
    rintro _ w7 rfl H7
    refine ⟨_, rfl, (C H7).c2, sel_dec (fun g1 => ⟨_, (C H7).c2, t_fin H7 (bvS 8) _ _ (by simp) rfl (fun _ => ?_) (fun _ _ => rfl)⟩) (fun g1 => t_fin H7 (bvS 8) _ _ (by simp) rfl (fun _ => ?_) (fun _ h => by cases h))⟩
    · rw [hr, decide_eq_true (show 0 ≤ n from g1), Bool.true_and]
      exact decide_eq_decide.2 (by show n < 64 ↔ n ≤ 63; omega)
    · rw [hr, decide_eq_false (show ¬ 0 ≤ n from g1)]; rfl
  -- Cat
  · have e1 : IntKind.wrap .i64 (x.n + y.n) = x.n + y.n := IntWalk.i64_in _ (by omega)
    have fe : fitX 29 x y z = (x.k == 1 && y.k == 1) := rfl
    refine H4.locg fun w5 H5 => ?_
    rw [e1]
    refine H5.callg (t_str _ w5) ?_
    rintro _ w6 rfl H6
    refine ⟨_, _, _, rfl, H6.callg (t_isStr x w6) ?_⟩
    rintro _ w7 rfl H7
    refine ⟨_, rfl, sel_eq (fun hk => H7.callg (t_isStr y w7) ?_) (fun hk => ?_)⟩
    · rintro _ w8 rfl H8
      refine ⟨_, rfl, t_fin H8 (strS (x.n + y.n)) _ _ (by simp) ?_ (fun _ => rfl) (fun _ _ => rfl)⟩
      show _ = fitX 29 x y z
      rw [fe, hk]; rfl
    · refine t_fin H7 (strS (x.n + y.n)) _ _ (by simp) ?_ (fun h => by cases h) (fun h _ => by cases h)
      show _ = fitX 29 x y z
      rw [fe, beq_eq_false_iff_ne.2 hk]; rfl
  -- Sub
  · have fe : fitX 30 x y z = (x.k == 1 && decide (y = bvS 7) && decide (z = bvS 7)) := rfl
    refine H4.locg fun w5 H5 => H5.callg (t_isStr x w5) ?_
    rintro _ w6 rfl H6
    refine ⟨_, rfl, sel_eq (fun hk => H6.callg (t_bv 7 w6) ?_) (fun hk => t_fin H6 x _ true (by simp) ?_ (fun _ => rfl) (fun _ _ => rfl))⟩
    · rintro _ w7 rfl H7
      refine ⟨_, _, _, rfl, sel_srt (a := y) (b := bvS 7) (fun he => H7.callg (t_bv 7 w7) ?_) (fun he => t_fin H7 x _ true (by simp) ?_ (fun _ => rfl) (fun _ _ => rfl))⟩
      · rintro _ w8 rfl H8
        refine ⟨_, _, _, rfl, t_fin H8 x _ true (by simp) ?_ (fun _ => rfl) (fun _ _ => rfl)⟩
        show _ = fitX 30 x y z
        rw [fe, hk, decide_eq_true he]
        exact srt_eq z (bvS 7)
      · show _ = fitX 30 x y z
        rw [fe, decide_eq_false he, Bool.and_false]; rfl
    · show _ = fitX 30 x y z
      rw [fe, beq_eq_false_iff_ne.2 hk]; rfl
  -- Find
  · have fe : fitX 31 x y z = (x.k == 1 && y.k == 1) := rfl
    refine H4.locg fun w5 H5 => H5.callg (t_bv 7 w5) ?_
    rintro _ w6 rfl H6
    refine ⟨_, _, _, rfl, H6.callg (t_isStr x w6) ?_⟩
    rintro _ w7 rfl H7
    refine ⟨_, rfl, sel_eq (fun hk => H7.callg (t_isStr y w7) ?_) (fun hk => ?_)⟩
    · rintro _ w8 rfl H8
      refine ⟨_, rfl, t_fin H8 (bvS 7) _ true (by simp) ?_ (fun _ => rfl) (fun _ _ => rfl)⟩
      show _ = fitX 31 x y z
      rw [fe, hk]; rfl
    · refine t_fin H7 (bvS 7) _ true (by simp) ?_ (fun _ => rfl) (fun _ _ => rfl)
      show _ = fitX 31 x y z
      rw [fe, beq_eq_false_iff_ne.2 hk]; rfl
  -- Replace
  · have e1 : IntKind.wrap .i64 (x.n + z.n) = x.n + z.n := IntWalk.i64_in _ (by omega)
    have fe : fitX 32 x y z = (x.k == 1 && y.k == 1 && z.k == 1) := rfl
    refine H4.locg fun w5 H5 => ?_
    rw [e1]
    refine H5.callg (t_str _ w5) ?_
    rintro _ w6 rfl H6
    refine ⟨_, _, _, rfl, H6.callg (t_isStr x w6) ?_⟩
    rintro _ w7 rfl H7
    have no : ∀ {w8 : World} {L : List En} {bs bs' : List Nat}, LH F0 w w8 L [.nda p ⟨⟨32, kids, n, m, u, tx, st⟩, ksl⟩] → (∀ b ∈ bs, En.g b ∈ L) → fitX 32 x y z = false → callF bs' Tryz.prog n_term_result #[srtV (strS (x.n + z.n)), .bool false, .bool (decide (x.n + z.n ≤ 64))] w8 fun r w5 => ∃ a b c e : Int, r = .returned (.tuple #[.agg #[.i a, .i b, .i c], .i e]) ∧ loc bs w5 fun w6 => ErrR (resX ⟨32, kids, n, m, u, tx, st⟩ x y z) (errX ⟨32, kids, n, m, u, tx, st⟩ x y z) (.returned (.tuple #[.agg #[.i a, .i b, .i c], .i e])) ∧ Fr0 w w6 := fun H8 hb hf => t_fin H8 _ _ _ (by simp) hf.symm (fun h => by cases h) (fun h _ => by cases h) hb
    refine ⟨_, rfl, sel_eq (fun hk => H7.callg (t_isStr y w7) ?_) (fun hk => no H7 (by simp) ?_)⟩
    · rintro _ w8 rfl H8
      refine ⟨_, rfl, sel_eq (fun hk2 => H8.callg (t_isStr z w8) ?_) (fun hk2 => no H8 (by simp) ?_)⟩
      · rintro _ w9 rfl H9
        refine ⟨_, rfl, t_fin H9 (strS (x.n + z.n)) _ _ (by simp) ?_ (fun _ => rfl) (fun _ _ => rfl)⟩
        show _ = fitX 32 x y z
        rw [fe, hk, hk2]; rfl
      · rw [fe, beq_eq_false_iff_ne.2 hk2, Bool.and_false]; rfl
    · rw [fe, beq_eq_false_iff_ne.2 hk]; rfl
  -- In
  · have fe : fitX 33 x y z = (x.k == 1) := rfl
    have fr : rngX ⟨33, kids, n, m, u, tx, st⟩ x y z = true := rfl
    refine H4.callg (t_isStr x w4) ?_
    rintro _ w5 rfl H5
    refine ⟨_, rfl, sel_not (fun hk => H5.locg fun w6 H6 => ⟨⟨x, 9, rfl, ?_, fun h => ?_⟩, H6.fr⟩) (fun hk => ⟨tx, (C H5).c5, H5.callg (hN rfl w5) ?_⟩)⟩
    · unfold errX
      rw [show fitX (33 : Int) x y z = false from hk]; rfl
    · unfold errX at h
      rw [show fitX (33 : Int) x y z = false from hk] at h
      cases h
    · rintro _ w6 rfl H6
      have he : errX ⟨33, kids, n, m, u, tx, st⟩ x y z = if canX tx = false then 2 else 0 := by
        unfold errX
        rw [show fitX (33 : Int) x y z = true from hk, fr]
        simp
      refine ⟨_, rfl, sel_not (fun hc => H6.locg fun w7 H7 => ⟨⟨x, 2, rfl, ?_, fun h => ?_⟩, H7.fr⟩) (fun hc => H6.callg (t_bv 1 w6) ?_)⟩
      · rw [he, if_pos hc]
      · rw [he, if_pos hc] at h
        cases h
      · rintro _ w7 rfl H7
        exact ⟨_, _, _, rfl, H7.locg fun w8 H8 => ⟨⟨bvS 1, 0, rfl, by rw [he, if_neg (by rw [hc]; simp)], fun _ => rfl⟩, H8.fr⟩⟩
  -- Char
  · refine H4.locg fun w5 H5 => H5.callg (t_str 1 w5) ?_
    rintro _ w6 rfl H6
    refine ⟨_, _, _, rfl, H6.callg (t_bv 8 w6) ?_⟩
    rintro _ w7 rfl H7
    exact ⟨_, _, _, rfl, t_fin H7 (strS 1) _ true (by simp) (srt_eq x (bvS 8)) (fun _ => rfl) (fun _ _ => rfl)⟩
theorem fdiv_big (u n : Int) (h0 : 0 ≤ u) (h1 : 0 ≤ n) (h2 : n < 64) : ((Int.fdiv u (2 ^ (min (Int.toNat n) (IntKind.bits .u64)))) != 0) = decide (2 ^ n.toNat ≤ u) := by
  have e : min (Int.toNat n) (IntKind.bits .u64) = n.toNat := by show min n.toNat 64 = _; omega
  rw [e]
  have hp : (0 : Int) < 2 ^ n.toNat := Int.pow_pos (by decide)
  generalize (2 : Int) ^ n.toNat = q at hp
  have hd := Int.fdiv_eq_ediv_of_nonneg u (by omega : 0 ≤ q)
  rw [hd]
  by_cases hq : q ≤ u
  · rw [decide_eq_true hq]
    have : 1 ≤ u / q := by rw [Int.le_ediv_iff_mul_le hp]; omega
    simp only [bne_iff_ne, ne_eq]
    omega
  · rw [decide_eq_false hq]
    rw [Int.ediv_eq_zero_of_lt h0 (by omega)]
    rfl
/-- the error of a leaf, the sort -/
theorem t_leaf {w : World} {p : Addr} {d : Nd} (g : List Nx) (h : NdAt w p d) (h1 : 1 ≤ d.x.op) (h3 : d.x.op ≤ 3) (hu : 0 ≤ d.x.u) :
    Calls Tryz.prog n_term_sortOfLeaf #[.pointer (some p)] w fun r w' => ErrR (leafX g d.x).1 (leafX g d.x).2 r ∧ Fr0 w w' := by
  refine term_sortOfLeaf.okT _ w _ ((lhP h).newg fun b2 w1 H1 => ?_)
  have C : ∀ {w5 : World} {L : List En}, LH F0 w w5 L [.nda p d] → NdAt w5 p d := fun H => H.getD 0
  have er : ∀ (t : Srt) (e : Int) (w5 : World), e ≠ 0 → (leafX g d.x) = (noS, e) → LH F0 w w5 [.g b2] [.nda p d] → loc [b2] w5 fun w6 => ErrR (leafX g d.x).1 (leafX g d.x).2 (.returned (.tuple #[.agg #[.i t.k, .i t.n, .i t.x], .i e])) ∧ Fr0 w w6 := fun t e w5 h0 he H5 => H5.locg fun w6 H6 => ⟨⟨t, e, rfl, by rw [he], fun h => by rw [he] at h; exact absurd h h0⟩, H6.fr⟩
  have ok : ∀ (t : Srt) (w5 : World), (leafX g d.x) = (t, 0) → LH F0 w w5 [.g b2] [.nda p d] → loc [b2] w5 fun w6 => ErrR (leafX g d.x).1 (leafX g d.x).2 (.returned (.tuple #[.agg #[.i t.k, .i t.n, .i t.x], .i 0])) ∧ Fr0 w w6 := fun t w5 he H5 => H5.locg fun w6 H6 => ⟨⟨t, 0, rfl, by rw [he], fun _ => by rw [he]⟩, H6.fr⟩
  refine ⟨_, (C H1).c0, sel_eq (fun h2 => ?_) (fun h2 => ?_)⟩
  · refine ⟨_, (C H1).c5, sel_dec (fun hs => ⟨_, _, _, (C H1).s0, (C H1).s1, (C H1).s2, er d.x.st 5 w1 (by decide) ?_ H1⟩) (fun hs => ⟨_, (C H1).c5, H1.callg (t_str _ w1) ?_⟩)⟩
    · unfold leafX; rw [if_pos h2, if_pos (by omega)]
    · rintro _ w2 rfl H2
      refine ⟨_, _, _, rfl, ok (strS d.x.tx.size) w2 ?_ H2⟩
      unfold leafX; rw [if_pos h2, if_neg (by omega)]
  have l1 : leafX g d.x = if validS d.x.st = false then (noS, 9) else
      if d.x.op = 1 ∧ d.x.st.k ≠ 0 ∨ d.x.op = 3 ∧ arrS d.x.st = false then (noS, 9) else
      if d.x.op = 1 ∧ big d.x.u d.x.st.n = true then (noS, 5) else (d.x.st, 0) := by
    unfold leafX; rw [if_neg h2, if_neg (fun h => by omega)]
    have : ¬ (d.x.op = 0 ∧ twice g d.x = true) := fun h => by omega
    simp only [this, if_false]
  refine ⟨_, _, _, (C H1).s0, (C H1).s1, (C H1).s2, H1.callg (t_ValidSort d.x.st w1) ?_⟩
  rintro _ w2 rfl H2
  refine ⟨_, rfl, sel_srtE (fun hv => ⟨_, _, _, (C H2).s0, (C H2).s1, (C H2).s2, ?_⟩) (fun hv => ?_)⟩
  · have : sortE d.x.st = 9 := by unfold sortE; rw [hv]; rfl
    rw [this]
    exact er d.x.st 9 w2 (by decide) (by rw [l1, if_pos hv]) H2
  rw [if_neg (by rw [hv]; simp)] at l1
  refine ⟨_, (C H2).c0, sel_eq (fun h3 => ⟨_, _, _, (C H2).s0, (C H2).s1, (C H2).s2, H2.callg (t_isArray d.x.st w2) ?_⟩) (fun h3' => ?_)⟩
  · rintro _ w3 rfl H3
    refine ⟨_, rfl, sel_not (fun ha => ⟨_, _, _, (C H3).s0, (C H3).s1, (C H3).s2, er d.x.st 9 w3 (by decide) ?_ H3⟩) (fun ha => ⟨_, _, _, (C H3).s0, (C H3).s1, (C H3).s2, ok d.x.st w3 ?_ H3⟩)⟩
    · rw [l1, if_pos (.inr ⟨h3, ha⟩)]
    · rw [l1, if_neg (by rintro (h | h); omega; rw [ha] at h; cases h.2), if_neg (by rintro ⟨h, _⟩; omega)]
  have h1 : d.x.op = 1 := by omega
  refine ⟨_, (C H2).s0, sel_ne (fun hk => ⟨_, _, _, (C H2).s0, (C H2).s1, (C H2).s2, er d.x.st 9 w2 (by decide) ?_ H2⟩) (fun hk => H2.locg fun w3 H3 => ?_)⟩
  · rw [l1, if_pos (.inl ⟨h1, hk⟩)]
  rw [if_neg (by rintro (h | h); exact h.2 hk; omega)] at l1
  obtain ⟨v1, v2, _⟩ := valid_bv hv hk
  have S0 : leafX g d.x = (d.x.st, 0) → term_sortOfLeaf.S0T p b2 0 0 0 w3 fun r w' => ErrR (leafX g d.x).1 (leafX g d.x).2 r ∧ Fr0 w w' := fun he => ⟨_, _, _, (C H3).s0, (C H3).s1, (C H3).s2, ok d.x.st w3 he H3⟩
  refine ⟨_, (C H3).s1, sel_dec (fun h64 => ⟨_, (C H3).c4, _, (C H3).s1, by omega, ?_⟩) (fun h64 => S0 ?_)⟩
  · rw [fdiv_big _ _ hu (by omega) h64]
    refine sel_dec (fun hb => ⟨_, _, _, (C H3).s0, (C H3).s1, (C H3).s2, er d.x.st 5 w3 (by decide) ?_ H3⟩) (fun hb => S0 ?_)
    · rw [l1, if_pos ⟨h1, by unfold big; rw [decide_eq_true h64, decide_eq_true hb]; rfl⟩]
    · rw [l1, if_neg]
      rintro ⟨_, hh⟩
      unfold big at hh
      rw [decide_eq_false hb, Bool.and_false] at hh
      cases hh
  · rw [l1, if_neg]
    rintro ⟨_, hh⟩
    unfold big at hh
    rw [decide_eq_false h64] at hh
    cases hh
/-- what a look-up of a name returns -/
def lookR (g : List Nx) (t : ByteArray) : Ending := match varS g t with
  | some s => .returned (.tuple #[srtV s, .bool true])
  | none => .returned (.tuple #[srtV noS, .bool false])
theorem t_var {w : World} {p : Addr} {d : Nd} {D : List En} (g : List Nx) (lk : Fv) (H : LH F0 w w [] (.nda p d :: D)) (hc : callable Tryz.prog lk.n = true) (hl : ∀ w' : World, (∀ e ∈ D, e.P w') → Calls Tryz.prog lk.n (lk.bs ++ #[.string d.x.tx] ++ lk.cs) w' fun r w'' => r = lookR g d.x.tx ∧ Fr0 w' w'') (h0 : d.x.op = 0) :
    Calls Tryz.prog n_term_sortOfVar #[.pointer (some p), lk.v] w fun r w' => ErrR (leafX g d.x).1 (leafX g d.x).2 r ∧ Fr0 w w' := by
  have C : ∀ {w5 : World} {L : List En}, LH F0 w w5 L (.nda p d :: D) → NdAt w5 p d := fun H => H.getD 0
  have l1 : leafX g d.x = if nameB (bl d.x.tx) = false then (noS, 6) else if validS d.x.st = false then (noS, 9) else if twice g d.x = true then (noS, 8) else (d.x.st, 0) := by
    unfold leafX
    rw [if_neg (by omega)]
    simp [h0]
  have fin : ∀ (e : Int) (w5 : World) (L : List En) (i : Nat) (b : Nat) (c0 c1 c2 : Value), LH F0 w w5 L (.nda p d :: D) → L[i]? = some (.c b [c0, c1, c2] ty_api_Sort) → leafX g d.x = (if e = 0 then d.x.st else noS, e) → stW3 w5 (at0 b) (.i d.x.st.k) (.i d.x.st.n) (.i d.x.st.x) fun w6 => ld3_2 w6 (at0 b) fun a0 a1 a2 => ErrR (leafX g d.x).1 (leafX g d.x).2 (.returned (.tuple #[.agg #[.i a0, .i a1, .i a2], .i e])) ∧ Fr0 w w6 := by
    intro e w5 L i b c0 c1 c2 H5 hi he
    refine H5.st3 i hi fun w6 H6 => ?_
    have hi6 : (L.set i (.c b [Value.i d.x.st.k, .i d.x.st.n, .i d.x.st.x] ty_api_Sort))[i]? = some (.c b [Value.i d.x.st.k, .i d.x.st.n, .i d.x.st.x] ty_api_Sort) := by
      rw [List.getElem?_set_self (List.getElem?_eq_some_iff.1 hi).1]
    refine ⟨_, _, _, H6.ld i 0 hi6, H6.ld i 1 hi6, H6.ld i 2 hi6, ⟨d.x.st, e, rfl, by rw [he], fun h => ?_⟩, H6.fr⟩
    rw [he] at h ⊢
    rw [if_pos h]
  refine term_sortOfVar.ok p lk w _ (H.nw fun w1 _ H1 => ⟨_, (C H1).c5, H1.call (t_isName d.x.tx w1) ?_⟩)
  rintro _ w2 rfl H2
  refine ⟨_, rfl, sel_not (fun hn => ⟨_, _, _, (C H2).s0, (C H2).s1, (C H2).s2, fin 6 w2 _ 0 _ _ _ _ H2 rfl (by rw [l1, if_pos hn]; rfl)⟩) (fun hn => ⟨_, _, _, (C H2).s0, (C H2).s1, (C H2).s2, H2.call (t_ValidSort d.x.st w2) ?_⟩)⟩
  rw [if_neg (by rw [hn]; simp)] at l1
  rintro _ w3 rfl H3
  refine ⟨_, rfl, sel_srtE (fun hv => ⟨_, _, _, (C H3).s0, (C H3).s1, (C H3).s2, ?_⟩) (fun hv => ⟨_, (C H3).c5, ?_⟩)⟩
  · have : sortE d.x.st = 9 := by unfold sortE; rw [hv]; rfl
    rw [this]
    exact fin 9 w3 _ 0 _ _ _ _ H3 rfl (by rw [l1, if_pos hv]; rfl)
  rw [if_neg (by rw [hv]; simp)] at l1
  rw [hc]
  refine (show AndT true _ from ?_)
  refine H3.call (hl w3 (fun e he => H3.rd e (List.mem_cons_of_mem _ he))) ?_
  rintro _ w4 rfl H4
  have S0 : ∀ (w5 : World) (L : List En) (c0 c1 c2 : Value), LH F0 w w5 L (.nda p d :: D) → L[0]? = some (.c w.heap.size [c0, c1, c2] ty_api_Sort) → twice g d.x = false → term_sortOfVar.S0 p (at0 w.heap.size) w5 fun r w' => ErrR (leafX g d.x).1 (leafX g d.x).2 r ∧ Fr0 w w' := fun w5 L c0 c1 c2 H5 hi ht => ⟨_, _, _, (C H5).s0, (C H5).s1, (C H5).s2, fin 0 w5 L 0 _ c0 c1 c2 H5 hi (by rw [l1, if_neg (by rw [ht]; simp)]; rfl)⟩
  unfold twice at l1 S0
  unfold lookR
  cases hs : varS g d.x.tx with
  | none =>
    rw [hs] at l1 S0
    refine ⟨noS.k, noS.n, noS.x, false, rfl, H4.nw fun w5 _ H5 => H5.st3 1 rfl fun w8 H8 => H8.dr fun w9 H9 => sel_false rfl ?_⟩
    exact S0 w9 _ _ _ _ H9 rfl rfl
  | some t =>
    rw [hs] at l1 S0
    refine ⟨t.k, t.n, t.x, true, rfl, H4.nw fun w5 _ H5 => H5.st3 1 rfl fun w8 H8 => H8.dr fun w9 H9 => sel_true rfl ⟨_, _, _, H9.ld 1 0, H9.ld 1 1, H9.ld 1 2, _, _, _, (C H9).s0, (C H9).s1, (C H9).s2, sel_srtN (a := t) (b := d.x.st) (fun hne => ⟨_, _, _, (C H9).s0, (C H9).s1, (C H9).s2, fin 8 w9 _ 0 _ _ _ _ H9 rfl ?_⟩) (fun heq => S0 w9 _ _ _ _ H9 rfl ?_)⟩⟩
    · rw [l1, if_pos (by simp [hne])]; rfl
    · simp [heq]
end Go.Proofs.YtibaobaobnpdaaaGreatDoor
set_option maxRecDepth 100000
set_option maxHeartbeats 1000000
namespace Go.Proofs.YtibaobaobnpdaaaGreatDoor
open Go Go.W

/-- the table of the numbers of kids, as it lies in memory -/
def kcL : List Int := [0, 0, 0, 0, 1, 1, 2, 2, 2, 2, 2, 2, 2, 2, 2, 2, 2, 2, 2, 3, 2, 1, 1, 1, 2, 3, 2, 1, 1, 2, 3, 2, 3, 1, 1]
abbrev kcE : En := .rd ⟨some (at0 0), 35, 35⟩ (kcL.map intV)
theorem kc_at {op : Int} (h0 : 0 ≤ op) (h1 : op ≤ 34) : kcL[op.toNat]? = some (kidsN op) := by
  rcases op_all h0 h1 with rfl | rfl | rfl | rfl | rfl | rfl | rfl | rfl | rfl | rfl | rfl | rfl | rfl | rfl | rfl | rfl | rfl | rfl | rfl | rfl | rfl | rfl | rfl | rfl | rfl | rfl | rfl | rfl | rfl | rfl | rfl | rfl | rfl | rfl | rfl <;> rfl
section
variable {M : Nat → Prop} {w0 w : World} {L D : List En} {bs : List Nat}
theorem _root_.Go.W.LH.stc (H : LH M w0 w L D) (i a c : Nat) {b : Nat} {vs : List Value} {T : TypeId} {v : Value} {K : World → Prop} (hi : L[i]? = some (.c b vs T)) (hK : ∀ w', LH M w0 w' (L.set i (.c b (vs.set (a + c) v) T)) D → K w') (hj : a + c < vs.length := by simp [srtC]) (hbs : ∀ b ∈ bs, En.g b ∈ L := by simp) :
    stV w (((at0 b).add a).add c) v fun w1 => kept bs w w1 ∧ K w1 := by
  rw [add_add]
  obtain ⟨x1, x2, x3, x4⟩ := set_c (H.ob i hi) (a + c) (by simpa using hj) v
  obtain ⟨_, _, h3⟩ := H.set (v := v) i (a + c) hi hj
  refine ⟨x1, x2, fun b' hb' => ?_, hK _ h3⟩
  refine x4.keep b' (H.own _ (hbs b' hb')) fun e => ?_
  have := ghost_off H hi (c_off w b vs T) (hbs b' hb')
  exact this (by rw [e]; exact c_fp.2 rfl)
theorem _root_.Go.W.LH.stc0 (H : LH M w0 w L D) (i a : Nat) {b : Nat} {vs : List Value} {T : TypeId} {v : Value} {K : World → Prop} (hi : L[i]? = some (.c b vs T)) (hK : ∀ w', LH M w0 w' (L.set i (.c b (vs.set a v) T)) D → K w') (hj : a < vs.length := by simp [srtC]) (hbs : ∀ b ∈ bs, En.g b ∈ L := by simp) :
    stV w ((at0 b).add a) v fun w1 => kept bs w w1 ∧ K w1 := by
  have := H.stc (v := v) (K := K) i a 0 hi hK hj hbs
  rwa [add0] at this
end
theorem srtX_err {g : List Nx} {n : Nx} (h : (kidsN n.op == (n.kids.length : Int) && n.kids.all (kidIn g) && okF n) = true) (h4 : ¬ n.op ≤ 3) : srtX g n = if errX n (kst g n 0) (kst g n 1) (kst g n 2) ≠ 0 then (noS, errX n (kst g n 0) (kst g n 1) (kst g n 2)) else (resX n (kst g n 0) (kst g n 1) (kst g n 2), 0) := by
  unfold srtX errX
  rw [h, if_neg (by simp), if_neg h4]
  generalize fitX n.op (kst g n 0) (kst g n 1) (kst g n 2) = a
  generalize rngX n (kst g n 0) (kst g n 1) (kst g n 2) = b
  cases a
  · rfl
  · cases b
    · rfl
    · by_cases hc : n.op = 33 ∧ canX n.tx = false
      · simp [hc]
      · simp [hc]
theorem leaf_err {g : List Nx} {n : Nx} (h : (leafX g n).2 ≠ 0) : leafX g n = (noS, (leafX g n).2) := by
  unfold leafX at h ⊢
  split
  · split
    · rfl
    · rename_i h2 h64
      rw [if_pos h2, if_neg h64] at h
      exact absurd rfl h
  · rename_i h2
    rw [if_neg h2] at h
    split
    · rfl
    · rename_i h3
      rw [if_neg h3] at h
      split
      · rfl
      · rename_i h4
        rw [if_neg h4] at h
        split
        · rfl
        · rename_i h5
          rw [if_neg h5] at h
          split
          · rfl
          · rename_i h6
            rw [if_neg h6] at h
            split
            · rfl
            · rename_i h7
              rw [if_neg h7] at h
              exact absurd rfl h
/-- what the package asks of a node -/
structure TOk (d : Nx) : Prop where
  kl : d.kids.length ≤ 1000000000
  n : I64 d.n
  m : I64 d.m
  u : 0 ≤ d.u
  tx : d.op = 33 → NormOk d.tx
/-- the cells of three sorts -/
abbrev cs3 (a b c : Srt) : List Value := srtC a ++ srtC b ++ srtC c
def upK (g : List Nx) (n : Nx) (i j : Nat) : Srt := if j < i then kst g n j else noS
theorem kst_none {g : List Nx} {n : Nx} {j : Nat} (h : n.kids.length ≤ j) : kst g n j = noS := by
  unfold kst
  rw [List.getElem?_eq_none h]
theorem kst_get {l : List Nd} {n : Nx} {i : Nat} {k : Int} {e : Nd} (hk : n.kids[i]? = some k) (he : l[k.toNat]? = some e) : kst (xs l) n i = e.x.st := by
  unfold kst
  rw [hk]
  dsimp only
  rw [xs_get he]
theorem kst_bnd {g : List Nx} {n : Nx} (hv : ∀ d ∈ g, validS d.st = true) (j : Nat) : Bnd (kst g n j) := by
  unfold kst
  split
  · split
    · rename_i hd
      exact valid_bnd (hv _ (List.mem_of_getElem? hd))
    · exact no_bnd
  · exact no_bnd
theorem t_sortOf {w : World} {s : Sl} {l : List Nd} {d : Nd} {D : List En} (lk : Fv) (H : LH F0 w w [] (.gr s l :: kidE d :: kcE :: D)) (hc : callable Tryz.prog lk.n = true)
    (hl : ∀ w' : World, (∀ e ∈ D, e.P w') → Calls Tryz.prog lk.n (lk.bs ++ #[.string d.x.tx] ++ lk.cs) w' fun r w'' => r = lookR (xs l) d.x.tx ∧ Fr0 w' w'') (ho : TOk d.x) (hll : l.length ≤ 1000000000) (hv : ∀ e ∈ xs l, validS e.st = true) :
    Calls Tryz.prog n_term_sortOf #[s.v, d.v, lk.v] w fun r w' => r = sortR (srtX (xs l) d.x) ∧ Fr0 w w' := by
  have hn := gr_n (gr_P.1 (H.getD 0))
  have hxl : (xs l).length = l.length := by simp [xs]
  have hkn : d.ks.n = d.x.kids.length := Nums.len (H.getD 1)
  have hkl := ho.kl
  refine term_sortOf.okT s _ _ _ _ _ _ _ _ _ lk w _ (H.nw fun w1 _ H1 => H1.newg fun b6 w2 H2 => H2.locg fun w3 H3 => ?_)
  have N : ∀ {w5 : World} {L : List En}, LH F0 w w5 (.c w.heap.size d.c ty_api_Node :: L) (.gr s l :: kidE d :: kcE :: D) → NdAt w5 (at0 w.heap.size) d := fun H => nda_ob (H.ob 0)
  have H3 : LH F0 w w3 [.c w.heap.size d.c ty_api_Node, .g b6] (.gr s l :: kidE d :: kcE :: D) := H3
  have fail : (kidsN d.x.op == (d.x.kids.length : Int) && d.x.kids.all (kidIn (xs l)) && okF d.x) = false → ∀ {w5 : World} {L : List En} {bs : List Nat}, LH F0 w w5 L (.gr s l :: kidE d :: kcE :: D) → (∀ b ∈ bs, En.g b ∈ L) → loc bs w5 fun w6 => (fun r w' => r = sortR (srtX (xs l) d.x) ∧ Fr0 w w') (.returned (.tuple #[.agg #[.i 0, .i 0, .i 0], .i 1])) w6 := fun hf _ _ _ H5 hb => H5.locg (fun w6 H6 => ⟨by unfold srtX; rw [if_pos hf]; rfl, H6.fr⟩) hb
  have kN : ∀ op : Int, op < 0 ∨ 34 < op → kidsN op = -1 := fun op h => by unfold kidsN; rw [if_pos h]
  refine ⟨_, (N H3).c0, sel_dec (fun h0 => fail ?_ H3 (by simp)) (fun h0 => ⟨_, (N H3).c0, sel_dec (fun h35 => fail ?_ H3 (by simp)) (fun h35 => ⟨_, (N H3).c1, _, (N H3).c0, by omega, by show d.x.op < 35; omega, kidsN d.x.op, ?_, sel_ne (fun hne => fail ?_ H3 (by simp)) (fun heq => ?_)⟩)⟩)⟩
  · rw [kN _ (.inl h0), beq_eq_false_iff_ne.2 (by omega)]; rfl
  · rw [kN _ (.inr (by omega)), beq_eq_false_iff_ne.2 (by omega)]; rfl
  · have hk : Nums w3 ⟨some (at0 0), 35, 35⟩ kcL := H3.getD 2
    exact (show W.optP (some (at0 0)) fun p => w3.cell? (p.add (Int.toNat d.x.op * 1)) = some (.int .i64 (kidsN d.x.op)) from hk.cell (kc_at (by omega) (by omega)) rfl fun p _ hc => hc)
  · rw [beq_eq_false_iff_ne.2 (by omega)]; rfl
  have hkc : (kidsN d.x.op == (d.x.kids.length : Int)) = true := by rw [beq_iff_eq]; omega
  have hk3 : d.x.kids.length ≤ 3 := by
    have : kidsN d.x.op ≤ 3 := by unfold kidsN; repeat' split <;> omega
    omega
  -- the loop over the kids
  refine H3.nw fun w4 _ H4 => ⟨_, (N H4).c1, ?_⟩
  have loop : ∀ (m i : Nat) (w5 : World), i + m = d.x.kids.length → d.x.kids.all (kidIn (xs l)) = (d.x.kids.drop i).all (kidIn (xs l)) → LH F0 w w5 [.c w.heap.size d.c ty_api_Node, .g b6, .c w3.heap.size (cs3 (upK (xs l) d.x i 0) (upK (xs l) d.x i 1) (upK (xs l) d.x i 2)) ty_3_api_Sort] (.gr s l :: kidE d :: kcE :: D) →
      term_sortOf.L1T s lk (at0 w.heap.size) b6 0 0 0 (at0 w3.heap.size) ((d.ks.n : Nat) : Int) (i : Int) w5 fun r w' => r = sortR (srtX (xs l) d.x) ∧ Fr0 w w' := by
    intro m
    induction m with
    | zero =>
      intro i w5 hi hall H5
      rw [List.drop_of_length_le (by omega)] at hall
      have e0 : ∀ j, upK (xs l) d.x i j = kst (xs l) d.x j := fun j => by
        unfold upK
        split
        · rfl
        · exact (kst_none (by omega)).symm
      rw [e0, e0, e0] at H5
      refine term_sortOf.L1T_step _ _ _ _ _ _ _ _ _ _ _ _ (sel_false (decide_eq_false (by omega)) (H5.callg (t_fieldsFit (N H5)) ?_))
      rintro _ w6 rfl H6
      refine ⟨_, rfl, sel_not (fun hf => fail (by rw [hf, Bool.and_false]) H6 (by simp)) (fun hf => H6.newg fun b11 w7 H7 => ?_)⟩
      have hgood : (kidsN d.x.op == (d.x.kids.length : Int) && d.x.kids.all (kidIn (xs l)) && okF d.x) = true := by rw [hkc, hall, hf]; rfl
      have H7 : LH F0 w w7 [.c w.heap.size d.c ty_api_Node, .g b6, .c w3.heap.size (cs3 (kst (xs l) d.x 0) (kst (xs l) d.x 1) (kst (xs l) d.x 2)) ty_3_api_Sort, .g b11] (.gr s l :: kidE d :: kcE :: D) := H7
      have fin : ∀ (T : Srt) (E : Int) (t : Srt) (e : Int) (w8 : World), srtX (xs l) d.x = (if E ≠ 0 then (noS, E) else (T, 0)) → e = E → (E = 0 → t = T) → LH F0 w w8 [.c w.heap.size d.c ty_api_Node, .g b6, .c w3.heap.size (cs3 (kst (xs l) d.x 0) (kst (xs l) d.x 1) (kst (xs l) d.x 2)) ty_3_api_Sort, .g b11] (.gr s l :: kidE d :: kcE :: D) →
          loc [b6, b11] w8 fun w9 => term_sortOf.S3T b6 0 0 0 b11 t.k t.n t.x e w9 fun r w' => r = sortR (srtX (xs l) d.x) ∧ Fr0 w w' := by
        intro T E t e w8 hs he ht H8
        subst he
        refine H8.locg fun w9 H9 => sel_ne (fun hne => H9.locg fun w10 H10 => ⟨by rw [hs, if_pos hne]; rfl, H10.fr⟩) (fun h0 => H9.locg fun w10 H10 => ⟨?_, H10.fr⟩)
        rw [hs, if_neg (by omega), ht h0]
      have leafs : d.x.op ≤ 3 → srtX (xs l) d.x = (if (leafX (xs l) d.x).2 ≠ 0 then (noS, (leafX (xs l) d.x).2) else ((leafX (xs l) d.x).1, 0)) := fun h3 => by
        unfold srtX
        rw [hgood, if_neg (by simp), if_pos h3]
        split
        · rename_i hne; exact leaf_err hne
        · rename_i heq
          rw [Decidable.not_not] at heq
          rw [← heq]
      have kidsB := fun j => kst_bnd (n := d.x) hv j
      refine ⟨_, (N H7).c0, sel_eq (fun ho0 => ?_) (fun ho0 => ⟨_, (N H7).c0, sel_dec (fun ho3 => ?_) (fun ho3 => ⟨_, (N H7).c0, sel_dec (fun ho23 => ?_) (fun ho23 => ⟨_, (N H7).c0, sel_dec (fun ho26 => ?_) (fun ho26 => ?_)⟩)⟩)⟩)⟩
      · have Hv : LH F0 w7 w7 [] (.nda (at0 w.heap.size) d :: D) := lh0 _ (by
          intro e he
          rcases List.mem_cons.1 he with rfl | he
          · exact N H7
          · exact H7.rd e (List.mem_cons_of_mem _ (List.mem_cons_of_mem _ (List.mem_cons_of_mem _ he))))
        refine H7.callg (t_var (xs l) lk Hv hc hl ho0) ?_
        rintro _ w8 ⟨t, e, rfl, he, ht⟩ H8
        exact ⟨_, _, _, _, rfl, fin _ _ t e w8 (leafs (by omega)) he ht H8⟩
      · refine H7.callg (t_leaf (xs l) (N H7) (by omega) ho3 ho.u) ?_
        rintro _ w8 ⟨t, e, rfl, he, ht⟩ H8
        exact ⟨_, _, _, _, rfl, fin _ _ t e w8 (leafs ho3) he ht H8⟩
      all_goals
        have rest := srtX_err hgood (by omega)
        have ld : ∀ (a c : Nat) (v : Value), (cs3 (kst (xs l) d.x 0) (kst (xs l) d.x 1) (kst (xs l) d.x 2))[a + c]? = some v → w7.cell? (((at0 w3.heap.size).add a).add c) = some v := fun a c v hv => by rw [add_add]; exact H7.ld 2 (a + c) rfl hv
        refine ⟨by omega, by decide, (kst (xs l) d.x 0).k, (kst (xs l) d.x 0).n, (kst (xs l) d.x 0).x, ld 0 0 _ rfl, ld 0 1 _ rfl, ld 0 2 _ rfl, by omega, by decide, (kst (xs l) d.x 1).k, (kst (xs l) d.x 1).n, (kst (xs l) d.x 1).x, ld 3 0 _ rfl, ld 3 1 _ rfl, ld 3 2 _ rfl, by omega, by decide, (kst (xs l) d.x 2).k, (kst (xs l) d.x 2).n, (kst (xs l) d.x 2).x, ld 6 0 _ rfl, ld 6 1 _ rfl, ld 6 2 _ rfl, ?_⟩
      · refine H7.callg (t_bits (N H7) (by omega) ho23 (kidsB 0) (kidsB 1) ho.n ho.m) ?_
        rintro _ w8 ⟨t, e, rfl, he, ht⟩ H8
        exact ⟨_, _, _, _, rfl, fin _ _ t e w8 rest he ht H8⟩
      · refine H7.callg (t_arrays (N H7) (by omega) ho26) ?_
        rintro _ w8 ⟨t, e, rfl, he, ht⟩ H8
        exact ⟨_, _, _, _, rfl, fin _ _ t e w8 rest he ht H8⟩
      · refine H7.callg (t_strings (N H7) (by omega) (by omega) (kidsB 0) (kidsB 1) (kidsB 2) ho.tx) ?_
        rintro _ w8 ⟨t, e, rfl, he, ht⟩ H8
        exact ⟨_, _, _, _, rfl, fin _ _ t e w8 rest he ht H8⟩
    | succ m ih =>
      intro i w5 hi hall H5
      have hg : d.x.kids[i]? = some (d.x.kids[i]'(by omega)) := List.getElem?_eq_getElem (by omega)
      rw [List.drop_eq_getElem_cons (by omega : i < d.x.kids.length), List.all_cons] at hall
      generalize d.x.kids[i]'(by omega) = x at hg hall
      have bad : kidIn (xs l) x = false → term_sortOf.S2T b6 0 0 0 w5 fun r w' => r = sortR (srtX (xs l) d.x) ∧ Fr0 w w' := fun hx => fail (by rw [hall, hx]; simp) H5 (by simp)
      refine term_sortOf.L1T_step _ _ _ _ _ _ _ _ _ _ _ _ (sel_true (decide_eq_true (by omega)) ⟨_, (N H5).c1, by omega, by omega, (show Nums w5 d.ks d.x.kids from H5.getD 1).cell hg (by omega) fun p hp hcc => ⟨x, hcc, sel_dec (fun h1 => bad ?_) (fun h1 => sel_dec (fun h2 => bad ?_) (fun h2 => ?_))⟩⟩)
      · unfold kidIn; rw [decide_eq_false (by omega)]; rfl
      · unfold kidIn; rw [decide_eq_false (show ¬ x < ((xs l).length : Int) by rw [hxl]; omega)]; simp
      have hge : l[x.toNat]? = some (l[x.toNat]'(by omega)) := List.getElem?_eq_getElem (by omega)
      generalize l[x.toNat]'(by omega) = e at hge
      have hks := kst_get hg hge
      refine gr_at (gr_P.1 (H5.getD 0)) (i := x.toNat) (by omega) hge fun q hq c => ⟨_, _, _, c.s0, c.s1, c.s2, by omega, by show (i : Int) < 3; omega, ?_⟩
      have hall2 : d.x.kids.all (kidIn (xs l)) = (d.x.kids.drop (i + 1)).all (kidIn (xs l)) := by
        rw [hall]
        unfold kidIn
        rw [decide_eq_true (show 0 ≤ x by omega), decide_eq_true (show x < ((xs l).length : Int) by rw [hxl]; omega)]
        rfl
      have stp : ∀ w6, LH F0 w w6 [.c w.heap.size d.c ty_api_Node, .g b6, .c w3.heap.size (cs3 (upK (xs l) d.x (i + 1) 0) (upK (xs l) d.x (i + 1) 1) (upK (xs l) d.x (i + 1) 2)) ty_3_api_Sort] (.gr s l :: kidE d :: kcE :: D) → term_sortOf.L1T s lk (at0 w.heap.size) b6 0 0 0 (at0 w3.heap.size) ((d.ks.n : Nat) : Int) (IntKind.wrap .i64 ((i : Int) + 1)) w6 fun r w' => r = sortR (srtX (xs l) d.x) ∧ Fr0 w w' := fun w6 H6 => by
        rw [i64_next _ (by omega)]
        exact ih (i + 1) w6 (by omega) hall2 H6
      have hi3 : i = 0 ∨ i = 1 ∨ i = 2 := by omega
      have up : ∀ j, upK (xs l) d.x (i + 1) j = if j = i then e.x.st else upK (xs l) d.x i j := fun j => by
        unfold upK
        by_cases hj : j = i
        · rw [if_pos hj, if_pos (by omega), hj, hks]
        · rw [if_neg hj]
          by_cases hj2 : j < i
          · rw [if_pos hj2, if_pos (by omega)]
          · rw [if_neg hj2, if_neg (by omega)]
      rw [up 0, up 1, up 2] at stp
      rcases hi3 with rfl | rfl | rfl
      · exact H5.stc0 2 0 rfl fun w6 H6 => H6.stc 2 0 1 rfl fun w7 H7 => H7.stc 2 0 2 rfl fun w8 H8 => stp w8 H8
      · exact H5.stc0 2 3 rfl fun w6 H6 => H6.stc 2 3 1 rfl fun w7 H7 => H7.stc 2 3 2 rfl fun w8 H8 => stp w8 H8
      · exact H5.stc0 2 6 rfl fun w6 H6 => H6.stc 2 6 1 rfl fun w7 H7 => H7.stc 2 6 2 rfl fun w8 H8 => stp w8 H8
  exact loop d.x.kids.length 0 w4 (by omega) (by simp) H4
/-! #### SortOf -/
theorem t_lookup {w : World} {s : Sl} {l : List Nd} {b : Nat} (t : ByteArray) (h : GP w s l) (hb : w.heap[b]? = some (.cells [s.v].toArray ty_term_Graph (0, 0))) (hl : l.length ≤ 1000000000) :
    Calls Tryz.prog n_term_SortOf_1 #[.string t, .pointer (some (at0 b))] w fun r w' => r = lookR (xs l) t ∧ Fr0 w w' := by
  have hn := gr_n h
  have H : LH F0 w w [] [.gr s l, .c b [s.v] ty_term_Graph] := lh0 _ (by
    intro e he
    simp only [List.mem_cons, List.not_mem_nil, or_false] at he
    rcases he with rfl | rfl
    · exact gr_P.2 h
    · exact hb)
  have loop : ∀ (m i : Nat) (b3 : Nat) (w1 : World), i + m = l.length → varS (xs l) t = varS ((xs l).drop i) t → LH F0 w w1 [.g b3] [.gr s l, .c b [s.v] ty_term_Graph] → term_SortOf_1.L0T t (at0 b) b3 0 0 0 ((s.n : Nat) : Int) (i : Int) w1 fun r w' => r = lookR (xs l) t ∧ Fr0 w w' := by
    intro m
    induction m with
    | zero =>
      intro i b3 w1 hi he H1
      rw [List.drop_of_length_le (by simp [xs]; omega)] at he
      exact term_SortOf_1.L0T_step _ _ _ _ _ _ _ _ _ _ (sel_false (decide_eq_false (by omega)) (H1.locg fun w2 H2 => ⟨by unfold lookR; rw [he]; rfl, H2.fr⟩))
    | succ m ih =>
      intro i b3 w1 hi he H1
      have hg : l[i]? = some (l[i]'(by omega)) := List.getElem?_eq_getElem (by omega)
      have hx : (xs l).drop i = (l[i]'(by omega)).x :: (xs l).drop (i + 1) := by
        rw [List.drop_eq_getElem_cons (by simp [xs]; omega : i < (xs l).length)]
        simp [xs]
      rw [hx] at he
      generalize l[i]'(by omega) = e at hg he
      have he2 : varS (xs l) t = if e.x.op = 0 ∧ e.x.tx = t then some e.x.st else varS ((xs l).drop (i + 1)) t := he
      have S1 : ¬ (e.x.op = 0 ∧ e.x.tx = t) → term_SortOf_1.S1T t (at0 b) b3 0 0 0 ((s.n : Nat) : Int) (i : Int) w1 fun r w' => r = lookR (xs l) t ∧ Fr0 w w' := fun hne => by
        show term_SortOf_1.L0T t (at0 b) b3 0 0 0 ((s.n : Nat) : Int) (IntKind.wrap .i64 ((i : Int) + 1)) w1 _
        rw [i64_next _ (by omega)]
        exact ih (i + 1) b3 w1 (by omega) (by rw [he2, if_neg hne]) H1
      refine term_SortOf_1.L0T_step _ _ _ _ _ _ _ _ _ _ (sel_true (decide_eq_true (by omega)) ⟨s, H1.ldD 1 0, gr_at (gr_P.1 (H1.getD 0)) rfl hg fun p hp c => ⟨_, c.c0, sel_eq (fun h0 => ⟨s, H1.ldD 1 0, gr_at (gr_P.1 (H1.getD 0)) rfl hg fun p2 hp2 c2 => ⟨_, c2.c5, sel_tx (fun ht => ⟨s, H1.ldD 1 0, gr_at (gr_P.1 (H1.getD 0)) rfl hg fun p3 hp3 c3 => ⟨_, _, _, c3.s0, c3.s1, c3.s2, H1.locg fun w2 H2 => ⟨?_, H2.fr⟩⟩⟩) (fun ht => S1 fun h => ht h.2)⟩⟩) (fun h0 => S1 fun h => h0 h.1)⟩⟩)
      unfold lookR
      rw [he2, if_pos ⟨h0, ht⟩]
  exact term_SortOf_1.okT t _ w _ (H.newg fun b3 w1 H1 => ⟨s, H1.ldD 1 0, loop l.length 0 b3 w1 (by omega) (by simp) H1⟩)
theorem t_SortOf {w : World} {s : Sl} {l : List Nd} {d : Nd} (h : GP w s l) (hd : d.P w) (hk : kcE.P w) (ho : TOk d.x) (hll : l.length ≤ 1000000000) (hv : ∀ e ∈ xs l, validS e.st = true) :
    Calls Tryz.prog n_term_SortOf #[.agg #[s.v], d.v] w fun r w' => r = sortR (srtX (xs l) d.x) ∧ Fr0 w w' := by
  have H : LH F0 w w [] [.gr s l, kidE d, kcE] := lh0 _ (by
    intro e he
    simp only [List.mem_cons, List.not_mem_nil, or_false] at he
    rcases he with rfl | rfl | rfl
    · exact gr_P.2 h
    · exact hd
    · exact hk)
  refine term_SortOf.okT _ _ _ _ _ _ _ _ _ _ w _ (H.nw fun w1 _ H1 => H1.newg fun b3 w2 H2 => H2.newg fun b4 w3 H3 => ⟨s, H3.ld 0 0, ?_⟩)
  have Hs : LH F0 w3 w3 [] [.gr s l, kidE d, kcE, .gr s l, .c w.heap.size [s.v] ty_term_Graph] := lh0 _ (by
    intro e he
    simp only [List.mem_cons, List.not_mem_nil, or_false] at he
    rcases he with rfl | rfl | rfl | rfl | rfl
    · exact H3.getD 0
    · exact H3.getD 1
    · exact H3.getD 2
    · exact H3.getD 0
    · exact H3.get 0)
  refine H3.callg (t_sortOf (D := [.gr s l, .c w.heap.size [s.v] ty_term_Graph]) ⟨n_term_SortOf_1, #[], #[.pointer (some (at0 w.heap.size))]⟩ Hs (by kernel_rfl) (fun w' hw' => ?_) ho hll hv) ?_
  · exact t_lookup d.x.tx (gr_P.1 (hw' (.gr s l) (by simp))) (hw' (.c w.heap.size [s.v] ty_term_Graph) (by simp)) hll
  · rintro _ w4 rfl H4
    exact ⟨_, _, _, _, rfl, H4.locg fun w5 H5 => ⟨rfl, H5.fr⟩⟩
end Go.Proofs.YtibaobaobnpdaaaGreatDoor
namespace Go.Proofs.YtibaobaobnpdaaaGreatDoor
open Go Go.W

/-- is a node a root, or a kid of one that is there? -/
def kidOf (g : List Nx) (o : Int) (i : Nat) : Bool := match g[o.toNat]? with
  | some d => decide ((i : Int) ∈ d.kids)
  | none => false
def inOut (g : List Nx) (roots out : List Int) (i : Nat) : Bool := decide ((i : Int) ∈ roots) || out.any fun o => kidOf g o i
def downX (g : List Nx) (roots : List Int) : Nat → List Int → List Int
  | 0, out => out
  | i + 1, out => downX g roots i (if inOut g roots out i = true then (i : Int) :: out else out)
def needsX (g : List Nx) (roots : List Int) : List Int := downX g roots g.length []
def varsX (g : List Nx) : List Int := ((List.range g.length).filter fun i => match g[i]? with | some d => decide (d.op = 0) | none => false).map fun i : Nat => (i : Int)
theorem inOut_cons (g : List Nx) (roots out : List Int) (o : Int) (j : Nat) : inOut g roots (o :: out) j = (inOut g roots out j || kidOf g o j) := by
  unfold inOut
  rw [List.any_cons]
  cases decide ((j : Int) ∈ roots) <;> cases kidOf g o j <;> cases out.any (fun o => kidOf g o j) <;> rfl
def KidsLt (g : List Nx) : Prop := ∀ (i : Nat) (d : Nx), g[i]? = some d → ∀ k ∈ d.kids, 0 ≤ k ∧ k < (i : Int)
theorem kidOf_lt {g : List Nx} (h : KidsLt g) {i j : Nat} (hj : i ≤ j) : kidOf g (i : Int) j = false := by
  unfold kidOf
  rw [Int.toNat_natCast]
  cases hg : g[i]? with
  | none => rfl
  | some d =>
    dsimp only
    refine decide_eq_false fun hm => ?_
    have := h i d hg _ hm
    omega
/-- what was marked down to a place -/
def upTo (g : List Nx) (roots : List Int) (n i : Nat) (out : List Int) : Prop := out = (((List.range n).drop i).filter (inOut g roots out)).map fun i : Nat => (i : Int)
theorem range_drop {n i : Nat} (h : i < n) : (List.range n).drop i = i :: (List.range n).drop (i + 1) := by
  rw [List.drop_eq_getElem_cons (by simpa using h)]
  simp
theorem upTo_step {g : List Nx} (hk : KidsLt g) {roots : List Int} {n i : Nat} {out : List Int} (h : upTo g roots n (i + 1) out) (hi : i < n) : upTo g roots n i (if inOut g roots out i = true then (i : Int) :: out else out) := by
  unfold upTo at h ⊢
  split
  · rename_i hin
    have e : ∀ j, i ≤ j → inOut g roots ((i : Int) :: out) j = inOut g roots out j := fun j hj => by rw [inOut_cons, kidOf_lt hk hj, Bool.or_false]
    have e2 : ((List.range n).drop (i + 1)).filter (inOut g roots ((i : Int) :: out)) = ((List.range n).drop (i + 1)).filter (inOut g roots out) := List.filter_congr fun j hj => by
      refine e j ?_
      obtain ⟨t, ht⟩ := List.mem_iff_getElem?.1 hj
      rw [List.getElem?_drop] at ht
      have := List.getElem?_eq_some_iff.1 ht
      obtain ⟨h1, h2⟩ := this
      simp at h2
      omega
    rw [range_drop hi, List.filter_cons, if_pos (by rw [e i (Nat.le_refl _)]; exact hin), e2, List.map_cons, ← h]
  · rename_i hin
    rw [range_drop hi, List.filter_cons, if_neg hin, ← h]
theorem downX_step (g : List Nx) (roots : List Int) (i : Nat) (out : List Int) : downX g roots (i + 1) out = downX g roots i (if inOut g roots out i = true then (i : Int) :: out else out) := rfl
end Go.Proofs.YtibaobaobnpdaaaGreatDoor
namespace Go.Proofs.YtibaobaobnpdaaaGreatDoor
open Go Go.W

/-! #### Lengths of texts -/
end Go.Proofs.YtibaobaobnpdaaaGreatDoor
namespace Go.Proofs.YtibaobaobnpdaaaGreatDoor
open Go Go.W

end Go.Proofs.YtibaobaobnpdaaaGreatDoor
set_option maxRecDepth 100000
set_option maxHeartbeats 1000000
namespace Go.Proofs.YtibaobaobnpdaaaGreatDoor
open Go Go.W

end Go.Proofs.YtibaobaobnpdaaaGreatDoor
set_option maxRecDepth 100000
set_option maxHeartbeats 1000000
namespace Go.Proofs.YtibaobaobnpdaaaGreatDoor
open Go Go.W

end Go.Proofs.YtibaobaobnpdaaaGreatDoor
set_option maxRecDepth 100000
set_option maxHeartbeats 1000000
namespace Go.Proofs.YtibaobaobnpdaaaGreatDoor
open Go Go.W

end Go.Proofs.YtibaobaobnpdaaaGreatDoor
set_option maxRecDepth 100000
set_option maxHeartbeats 1000000
namespace Go.Proofs.YtibaobaobnpdaaaGreatDoor
open Go Go.W

theorem el_node : ElemOk Tryz.prog ty_sl_api_Node ty_api_Node (.agg #[.int .i64 0, .slice none 0 0, .int .i64 0, .int .i64 0, .int .u64 0, .string (ByteArray.mk #[]), .int .i64 0, .int .i64 0, .int .i64 0]) 9 96 := ⟨by kernel_rfl, by kernel_rfl, rfl, by decide, by decide⟩
theorem nd_one {l : List Nd} : ∀ u ∈ l.flatMap Nd.c, u.oneCell' = true := by
  intro u hu
  obtain ⟨d, _, hu⟩ := List.mem_flatMap.1 hu
  simp only [Nd.c, List.mem_cons, List.not_mem_nil, or_false] at hu
  rcases hu with rfl | rfl | rfl | rfl | rfl | rfl | rfl | rfl | rfl <;> rfl
theorem blk_rdn {w : World} {b n sz : Nat} {cs : List Value} {T : TypeId} (h : w.heap[b]? = some (.cells cs.toArray T (0, 0))) (hn : cs.length = n * sz) : RdN sz w ⟨some (at0 b), n, n⟩ cs :=
  ⟨hn, Nat.le_refl _, ⟨fun h => (by cases h), fun i v hi => ⟨at0 b, rfl, cellAt (p := at0 b) h rfl (by simpa using hi)⟩⟩⟩
def optI : Option Nat → Int
  | some i => (i : Int)
  | none => -1
/-- a graph that is returned: what it reads lies in what was there, or is new -/
structure GR (w : World) (B : Nat → Prop) (g : List Nx) (s : Sl) (w' : World) : Prop where
  ex : ∃ l' : List Nd, xs l' = g ∧ GP w' s l' ∧ ∀ b ∈ (En.gr s l').fp, B b ∨ w.heap.size ≤ b
theorem GR.nil (w : World) (B : Nat → Prop) (w' : World) : GR w B [] ⟨none, 0, 0⟩ w' := ⟨⟨[], rfl, ⟨RdN.nil 9 w', by simp⟩, fun b hb => by
  rcases gr_fp.1 hb with h | ⟨d, hd, _⟩
  · cases h
  · cases hd⟩⟩
end Go.Proofs.YtibaobaobnpdaaaGreatDoor
set_option maxRecDepth 100000
set_option maxHeartbeats 1000000
namespace Go.Proofs.YtibaobaobnpdaaaGreatDoor
open Go Go.W

theorem n_around (n m : Int) (w : World) (hm : 1 ≤ m) (h : I64 n) : Calls Tryz.prog n_enthymemeref01_Around #[.i n, .i m] w fun r w' => r = .returned (.i (aroundI n m)) ∧ Fr0 w w' := (around_any n m w hm h).mono fun r w' h => ⟨h.1, h.2 ▸ Fr.refl _ _⟩
/-! #### The graph that generated ones begin with -/
end Go.Proofs.YtibaobaobnpdaaaGreatDoor
set_option maxRecDepth 100000
set_option maxHeartbeats 2000000
namespace Go.Proofs.YtibaobaobnpdaaaGreatDoor
open Go Go.W
end Go.Proofs.YtibaobaobnpdaaaGreatDoor
set_option maxRecDepth 100000
namespace Go.Proofs.YtibaobaobnpdaaaGreatDoor
open Go Go.W

end Go.Proofs.YtibaobaobnpdaaaGreatDoor
set_option maxRecDepth 100000
namespace Go.Proofs.YtibaobaobnpdaaaGreatDoor
open Go Go.W

end Go.Proofs.YtibaobaobnpdaaaGreatDoor
set_option maxRecDepth 100000
set_option maxHeartbeats 1000000
namespace Go.Proofs.YtibaobaobnpdaaaGreatDoor
open Go Go.W

theorem lhG {w : World} {s : Sl} {l : List Nd} (h : GP w s l) : LH F0 w w [] [.gr s l] := lh0 _ (by
  intro e he
  simp only [List.mem_cons, List.not_mem_nil, or_false] at he
  subst he
  exact gr_P.2 h)
/-- a row of numbers of one's own -/
abbrev numR (s : Sl) (l : List Int) : En := .row ty_int 1 s (l.map intV)
theorem num_len {w : World} {s : Sl} {l : List Int} (h : OwnRow w ty_int 1 s (l.map intV)) : s.n = l.length := by
  have := h.len
  simp at this
  omega
end Go.Proofs.YtibaobaobnpdaaaGreatDoor
set_option maxRecDepth 100000
namespace Go.Proofs.YtibaobaobnpdaaaGreatDoor
open Go Go.W

abbrev graphV (s : Sl) : Value := .agg #[s.v]
theorem lh2 {w : World} {a b : En} (ha : a.P w) (hb : b.P w) : LH F0 w w [] [a, b] := lh0 _ (by
  intro e he
  simp only [List.mem_cons, List.not_mem_nil, or_false] at he
  rcases he with rfl | rfl
  · exact ha
  · exact hb)
/-- numbers that are returned -/
def RetNums (w : World) (l : List Int) (r : Ending) (w' : World) : Prop := ∃ s : Sl, r = .returned s.v ∧ OwnRow w' ty_int 1 s (l.map intV) ∧ ∀ b ∈ blkL s, w.heap.size ≤ b
def vIs (g : List Nx) (i : Nat) : Bool := match g[i]? with | some d => decide (d.op = 0) | none => false
theorem varsX_eq (g : List Nx) : varsX g = ((List.range g.length).filter (vIs g)).map fun i : Nat => (i : Int) := rfl
theorem filter_snoc (g : List Nx) (i : Nat) : ((List.range (i + 1)).filter (vIs g)).map (fun i : Nat => (i : Int)) = ((List.range i).filter (vIs g)).map (fun i : Nat => (i : Int)) ++ (if vIs g i = true then [(i : Int)] else []) := by
  rw [List.range_succ, List.filter_append, List.map_append]
  congr 1
  by_cases h : vIs g i = true
  · simp [h]
  · simp [h]
theorem c_Vars {w : World} {s : Sl} {l : List Nd} (h : GP w s l) (hl : l.length ≤ MaxL) : Calls Tryz.prog n_term_Vars #[graphV s] w fun r w' => RetNums w (varsX (xs l)) r w' ∧ Fr0 w w' := by
  have hn := gr_n h
  have hxl : (xs l).length = l.length := by simp [xs]
  unfold MaxL at hl
  have loop : ∀ (m i b1 : Nat) (sl : Sl) (w1 : World), i + m = l.length → LH F0 w w1 [.g b1, numR sl (((List.range i).filter (vIs (xs l))).map fun i : Nat => (i : Int))] [.gr s l] → term_Vars.L0T b1 s sl ((s.n : Nat) : Int) (i : Int) w1 fun r w' => RetNums w (varsX (xs l)) r w' ∧ Fr0 w w' := by
    intro m
    induction m with
    | zero =>
      intro i b1 sl w1 hi H
      have hi : i = l.length := by omega
      subst hi
      refine term_Vars.L0T_step _ _ _ _ _ _ _ (sel_false (decide_eq_false (by omega)) ⟨⟨sl, rfl, ?_, fun b hb => (H.new _ (List.mem_of_getElem? (i := 1) rfl) b hb).resolve_right id⟩, H.fr⟩)
      rw [varsX_eq, hxl]
      exact H.get 1
    | succ m ih =>
      intro i b1 sl w1 hi H
      have hg : l[i]? = some (l[i]'(by omega)) := List.getElem?_eq_getElem (by omega)
      generalize l[i]'(by omega) = d at hg
      have hv : vIs (xs l) i = decide (d.x.op = 0) := by unfold vIs; rw [xs_get hg]
      have hs := filter_snoc (xs l) i
      have hlen := num_len (H.get 1)
      have hle : ((List.range i).filter (vIs (xs l))).length ≤ i := by have := List.length_filter_le (vIs (xs l)) (List.range i); simpa using this
      rw [List.length_map] at hlen
      refine term_Vars.L0T_step _ _ _ _ _ _ _ (sel_true (decide_eq_true (by omega)) (gr_at (gr_P.1 (H.getD 0)) rfl hg fun p hp c => ⟨_, c.c0, sel_eq (fun h0 => ?_) (fun h0 => ?_)⟩))
      · refine H.ap1T 1 el_ints rfl (fun s' w2 H2 => ?_) (by omega)
        show term_Vars.L0T b1 s s' ((s.n : Nat) : Int) (IntKind.wrap .i64 ((i : Int) + 1)) w2 _
        rw [i64_next _ (by omega)]
        refine ih (i + 1) b1 s' w2 (by omega) ?_
        rw [hs, if_pos (by rw [hv, decide_eq_true h0]), numR, List.map_append]
        exact H2
      · show term_Vars.L0T b1 s sl ((s.n : Nat) : Int) (IntKind.wrap .i64 ((i : Int) + 1)) w1 _
        rw [i64_next _ (by omega)]
        refine ih (i + 1) b1 sl w1 (by omega) ?_
        rw [hs, if_neg (by rw [hv, decide_eq_false h0]; simp), List.append_nil]
        exact H
  exact term_Vars.okT s w _ ((lhG h).newg fun b1 w1 H1 => loop l.length 0 b1 ⟨none, 0, 0⟩ w1 (by omega) (H1.nilrow ty_int 1))
end Go.Proofs.YtibaobaobnpdaaaGreatDoor
set_option maxRecDepth 100000
namespace Go.Proofs.YtibaobaobnpdaaaGreatDoor
open Go Go.W

theorem el_bool : ElemOk Tryz.prog ty_sl_bool ty_bool (.bool false) 1 1 := ⟨by kernel_rfl, by kernel_rfl, rfl, by decide, by decide⟩
theorem made_bools (n : Nat) : (madeCells (Value.bool false).cells (n * 1)).toList = (List.replicate n false).map Value.bool := by
  rw [madeCells_one _ _ rfl]
  simp
/-- a row of truth values -/
abbrev boolR (s : Sl) (l : List Bool) : En := .row ty_bool 1 s (l.map Value.bool)
theorem bool_len {w : World} {s : Sl} {l : List Bool} (h : OwnRow w ty_bool 1 s (l.map Value.bool)) : s.n = l.length := by
  have := h.len
  simp at this
  omega
theorem bool_cell {w : World} {s : Sl} {l : List Bool} (h : OwnRow w ty_bool 1 s (l.map Value.bool)) {i j : Nat} {b : Bool} (hi : l[i]? = some b) (hj : j = i * 1) {K : Addr → Prop} (hk : ∀ p, s.a = some p → w.cell? (p.add j) = some (.bool b) → K p) : W.optP s.a K :=
  Rd.get h.rd1 (i := i) (v := .bool b) (by simp [hi]) hj hk
theorem bool_at {w : World} {s : Sl} {l : List Bool} (h : OwnRow w ty_bool 1 s (l.map Value.bool)) (hl : 0 < l.length) : ∃ p, s.a = some p := by
  have hg : l[0]? = some l[0] := List.getElem?_eq_getElem hl
  have := bool_cell h hg rfl (K := fun q => s.a = some q) (fun p hp _ => hp)
  cases hs : s.a with
  | none => rw [hs] at this; exact this.elim
  | some p => exact ⟨p, rfl⟩
/-- what Needs returns -/
def NeedsR (w : World) (g : List Nx) (roots : List Int) (r : Ending) (w' : World) : Prop := ∃ (s : Sl) (e : Int), r = .returned (.tuple #[s.v, .i e]) ∧
  if roots.all (kidIn g) = true then e = 0 ∧ OwnRow w' ty_int 1 s ((needsX g roots).map intV) ∧ ∀ b ∈ blkL s, w.heap.size ≤ b else e = 7 ∧ s = ⟨none, 0, 0⟩
theorem c_Needs {w : World} {s rs : Sl} {l : List Nd} {roots : List Int} (h : GP w s l) (hr : Nums w rs roots) (hl : l.length ≤ MaxL) (hrl : roots.length ≤ MaxL) (hkl : ∀ e ∈ l, e.x.kids.length ≤ MaxL) (hlt : KidsLt (xs l)) :
    Calls Tryz.prog n_term_Needs #[graphV s, rs.v] w fun r w' => NeedsR w (xs l) roots r w' ∧ Fr0 w w' := by
  have hn := gr_n h
  have hrn := Nums.len hr
  have hxl : (xs l).length = l.length := by simp [xs]
  unfold MaxL at hl hrl hkl
  -- collecting
  have coll : ∀ (m i : Nat) (g2 : Nat) (ms sl : Sl) (B : List Bool) (w1 : World), i + m = l.length → B.length = l.length → (∀ j, j < l.length → B[j]? = some (inOut (xs l) roots (needsX (xs l) roots) j)) → needsX (xs l) roots = ((List.range l.length).filter (inOut (xs l) roots (needsX (xs l) roots))).map (fun i : Nat => (i : Int)) → roots.all (kidIn (xs l)) = true →
      LH F0 w w1 [.g g2, boolR ms B, numR sl (((List.range i).filter (inOut (xs l) roots (needsX (xs l) roots))).map fun i : Nat => (i : Int))] [] → term_Needs.L5T sl ms ((ms.n : Nat) : Int) (i : Int) w1 fun r w' => NeedsR w (xs l) roots r w' ∧ Fr0 w w' := by
    intro m
    induction m with
    | zero =>
      intro i g2 ms sl B w1 hi hB hm hnx hall H
      have hi : i = l.length := by omega
      subst hi
      have hms := bool_len (H.get 1)
      refine term_Needs.L5T_step _ _ _ _ _ _ (sel_false (decide_eq_false (by omega)) ⟨⟨sl, 0, rfl, ?_⟩, H.fr⟩)
      rw [if_pos hall]
      refine ⟨rfl, ?_, fun b hb => (H.new _ (List.mem_of_getElem? (i := 2) rfl) b hb).resolve_right id⟩
      rw [hnx]
      exact H.get 2
    | succ m ih =>
      intro i g2 ms sl B w1 hi hB hm hnx hall H
      have hms := bool_len (H.get 1)
      have hlen := num_len (H.get 2)
      have hle : ((List.range i).filter (inOut (xs l) roots (needsX (xs l) roots))).length ≤ i := by have := List.length_filter_le (inOut (xs l) roots (needsX (xs l) roots)) (List.range i); simpa using this
      rw [List.length_map] at hlen
      have hs : ((List.range (i + 1)).filter (inOut (xs l) roots (needsX (xs l) roots))).map (fun i : Nat => (i : Int)) = ((List.range i).filter (inOut (xs l) roots (needsX (xs l) roots))).map (fun i : Nat => (i : Int)) ++ (if inOut (xs l) roots (needsX (xs l) roots) i = true then [(i : Int)] else []) := by
        rw [List.range_succ, List.filter_append, List.map_append]
        congr 1
        by_cases h : inOut (xs l) roots (needsX (xs l) roots) i = true
        · simp [h]
        · simp [h]
      refine term_Needs.L5T_step _ _ _ _ _ _ (sel_true (decide_eq_true (by omega)) ⟨by omega, by omega, bool_cell (H.get 1) (hm i (by omega)) (by omega) fun p hp hc => ⟨_, hc, sel_intro (fun ht => ?_) (fun hf => ?_)⟩⟩)
      · refine H.ap1 2 el_ints rfl (fun s' w2 H2 _ _ => ?_) (by omega)
        show term_Needs.L5T s' ms ((ms.n : Nat) : Int) (IntKind.wrap .i64 ((i : Int) + 1)) w2 _
        rw [i64_next _ (by omega)]
        refine ih (i + 1) g2 ms s' B w2 (by omega) hB hm hnx hall ?_
        rw [hs, if_pos ht, numR, List.map_append]
        exact H2
      · show term_Needs.L5T sl ms ((ms.n : Nat) : Int) (IntKind.wrap .i64 ((i : Int) + 1)) w1 _
        rw [i64_next _ (by omega)]
        refine ih (i + 1) g2 ms sl B w1 (by omega) hB hm hnx hall ?_
        rw [hs, if_neg (by rw [hf]; simp), List.append_nil]
        exact H
  -- down
  have down : ∀ (i : Nat) (g2 : Nat) (ms : Sl) (B : List Bool) (out : List Int) (w1 : World), i ≤ l.length → B.length = l.length → (∀ j, j < l.length → B[j]? = some (inOut (xs l) roots out j)) → upTo (xs l) roots l.length i out → downX (xs l) roots i out = needsX (xs l) roots → roots.all (kidIn (xs l)) = true →
      LH F0 w w1 [.g g2, boolR ms B] [.gr s l] → term_Needs.L2T g2 s ms ((i : Int) - 1) w1 fun r w' => NeedsR w (xs l) roots r w' ∧ Fr0 w w' := by
    intro i
    induction i with
    | zero =>
      intro g2 ms B out w1 hi hB hm hup hd hall H
      have hd : out = needsX (xs l) roots := hd
      subst hd
      refine term_Needs.L2T_step _ _ _ _ _ _ (sel_false (decide_eq_false (by omega)) ?_)
      refine coll l.length 0 g2 ms ⟨none, 0, 0⟩ B w1 (by omega) hB hm ?_ hall ((H.forget [] (by simp)).nilrow ty_int 1)
      have hup : needsX (xs l) roots = (((List.range l.length).drop 0).filter (inOut (xs l) roots (needsX (xs l) roots))).map fun i : Nat => (i : Int) := hup
      rwa [List.drop_zero] at hup
    | succ i ih =>
      intro g2 ms B out w1 hi hB hm hup hd hall H
      have e1 : (((i + 1 : Nat) : Int) - 1) = (i : Int) := by omega
      rw [e1]
      have hms := bool_len (H.get 1)
      rw [downX_step] at hd
      have hup2 := upTo_step hlt hup (by omega : i < l.length)
      have S3 : ∀ (B' : List Bool) (out' : List Int) (w4 : World), B'.length = l.length → (∀ j, j < l.length → B'[j]? = some (inOut (xs l) roots out' j)) → upTo (xs l) roots l.length i out' → downX (xs l) roots i out' = needsX (xs l) roots → LH F0 w w4 [.g g2, boolR ms B'] [.gr s l] → term_Needs.S3T g2 s ms (i : Int) w4 fun r w' => NeedsR w (xs l) roots r w' ∧ Fr0 w w' := by
        intro B' out' w4 g1 g3 g4 g5 H4
        show term_Needs.L2T g2 s ms (IntKind.wrap .i64 ((i : Int) - 1)) w4 _
        rw [IntWalk.i64_in _ (by omega)]
        exact ih g2 ms B' out' w4 (by omega) g1 g3 g4 g5 hall H4
      refine term_Needs.L2T_step _ _ _ _ _ _ (sel_true (decide_eq_true (by omega)) ⟨by omega, by omega, bool_cell (H.get 1) (hm i (by omega)) (by omega) fun p hp hc => ⟨_, hc, sel_not (fun hf => ?_) (fun ht => ?_)⟩⟩)
      · rw [if_neg (by rw [hf]; simp)] at hd hup2
        exact S3 B out w1 hB hm hup2 hd H
      rw [if_pos ht] at hd hup2
      have hg : l[i]? = some (l[i]'(by omega)) := List.getElem?_eq_getElem (by omega)
      generalize l[i]'(by omega) = d at hg
      have hkd := hlt i d.x (xs_get hg)
      have hkl1 := hkl d (List.mem_of_getElem? hg)
      refine gr_at (gr_P.1 (H.getD 0)) rfl hg fun q hq c => ⟨_, c.c1, ?_⟩
      have hkn : d.ks.n = d.x.kids.length := Nums.len ((gr_P.1 (H.getD 0)).2 d (List.mem_of_getElem? hg))
      have marks : ∀ (m k : Nat) (B' : List Bool) (w3 : World), k + m = d.x.kids.length → B'.length = l.length → (∀ j, j < l.length → B'[j]? = some (inOut (xs l) roots out j || decide ((j : Int) ∈ d.x.kids.take k))) → LH F0 w w3 [.g g2, boolR ms B'] [.gr s l] →
          term_Needs.L4T g2 s ms (i : Int) d.ks ((d.ks.n : Nat) : Int) (k : Int) w3 fun r w' => NeedsR w (xs l) roots r w' ∧ Fr0 w w' := by
        intro m
        induction m with
        | zero =>
          intro k B' w3 hk hB' hm' H3
          rw [List.take_of_length_le (by omega)] at hm'
          refine term_Needs.L4T_step _ _ _ _ _ _ _ _ _ (sel_false (decide_eq_false (by omega)) ?_)
          refine S3 B' ((i : Int) :: out) w3 hB' (fun j hj => ?_) hup2 hd H3
          rw [hm' j hj, inOut_cons]
          unfold kidOf
          rw [Int.toNat_natCast, xs_get hg]
        | succ m ihm =>
          intro k B' w3 hk hB' hm' H3
          have hgk : d.x.kids[k]? = some (d.x.kids[k]'(by omega)) := List.getElem?_eq_getElem (by omega)
          generalize d.x.kids[k]'(by omega) = kk at hgk
          have hkk := hkd kk (List.mem_of_getElem? hgk)
          obtain ⟨p', hp'⟩ := bool_at (H3.get 1 : OwnRow _ _ _ _ _) (by omega)
          refine term_Needs.L4T_step _ _ _ _ _ _ _ _ _ (sel_true (decide_eq_true (by omega)) ⟨by omega, by omega, ((gr_P.1 (H3.getD 0)).2 d (List.mem_of_getElem? hg)).cell hgk (by omega) fun q' hq' hc' => ⟨kk, hc', by omega, by omega, ?_⟩⟩)
          rw [hp']
          refine optP_mk ?_
          refine H3.st1 (bs := [g2]) 1 (Int.toNat kk * 1) rfl hp' (by simp; omega) (fun w4 H4 => ?_)
          rw [i64_next _ (by omega)]
          refine ihm (k + 1) (B'.set kk.toNat true) w4 (by omega) (by simp [hB']) (fun j hj => ?_) ?_
          · rw [List.getElem?_set]
            split
            · rename_i e
              rw [if_pos (by omega), List.take_add_one, hgk]
              have : (j : Int) ∈ d.x.kids.take k ++ (some kk).toList := by simp; right; omega
              rw [decide_eq_true this, Bool.or_true]
            · rename_i e
              rw [hm' j hj, List.take_add_one, hgk]
              congr 2
              refine decide_eq_decide.2 ⟨fun h => by simp [h], fun h => ?_⟩
              simp at h
              rcases h with h | h
              · exact h
              · omega
          · have e : (B'.map Value.bool).set (kk.toNat * 1) (.bool true) = (B'.set kk.toNat true).map Value.bool := by rw [Nat.mul_one, List.map_set]
            rw [boolR, ← e]
            exact H4
      exact marks d.x.kids.length 0 B w1 (by omega) hB (fun j hj => by rw [hm j hj]; simp) H
  -- the roots
  have rts : ∀ (m t : Nat) (g2 : Nat) (ms : Sl) (B : List Bool) (w1 : World), t + m = roots.length → B.length = l.length → (∀ j, j < l.length → B[j]? = some (decide ((j : Int) ∈ roots.take t))) → roots.all (kidIn (xs l)) = (roots.drop t).all (kidIn (xs l)) →
      LH F0 w w1 [.g g2, boolR ms B] [.gr s l, .rd rs (roots.map intV)] → term_Needs.L0T g2 s ms rs ((rs.n : Nat) : Int) (t : Int) w1 fun r w' => NeedsR w (xs l) roots r w' ∧ Fr0 w w' := by
    intro m
    induction m with
    | zero =>
      intro t g2 ms B w1 ht hB hm hall H
      rw [List.drop_of_length_le (by omega)] at hall
      rw [List.take_of_length_le (by omega)] at hm
      refine term_Needs.L0T_step _ _ _ _ _ _ _ _ (sel_false (decide_eq_false (by omega)) ?_)
      rw [hn, IntWalk.i64_in _ (by omega)]
      refine down l.length g2 ms B [] w1 (Nat.le_refl _) hB (fun j hj => ?_) ?_ (by unfold needsX; rw [hxl]) hall (H.forget _ (by simp))
      · rw [hm j hj]; unfold inOut; simp
      · unfold upTo
        rw [List.drop_of_length_le (by simp)]
        rfl
    | succ m ih =>
      intro t g2 ms B w1 ht hB hm hall H
      have hg : roots[t]? = some (roots[t]'(by omega)) := List.getElem?_eq_getElem (by omega)
      rw [List.drop_eq_getElem_cons (by omega : t < roots.length), List.all_cons] at hall
      generalize roots[t]'(by omega) = x at hg hall
      have hms := bool_len (H.get 1)
      have bad : kidIn (xs l) x = false → term_Needs.S1T w1 fun r w' => NeedsR w (xs l) roots r w' ∧ Fr0 w w' := fun hx => ⟨⟨⟨none, 0, 0⟩, 7, rfl, by rw [if_neg (by rw [hall, hx]; simp)]; exact ⟨rfl, rfl⟩⟩, H.fr⟩
      refine term_Needs.L0T_step _ _ _ _ _ _ _ _ (sel_true (decide_eq_true (by omega)) ⟨by omega, by omega, (show Nums w1 rs roots from H.getD 1).cell hg (by omega) fun p hp hc => ⟨x, hc, sel_dec (fun h1 => bad ?_) (fun h1 => sel_dec (fun h2 => bad ?_) (fun h2 => ⟨by omega, by omega, ?_⟩))⟩⟩)
      · unfold kidIn; rw [decide_eq_false (by omega)]; rfl
      · unfold kidIn; rw [decide_eq_false (show ¬ x < ((xs l).length : Int) by rw [hxl]; omega)]; simp
      obtain ⟨p', hp'⟩ := bool_at (H.get 1 : OwnRow _ _ _ _ _) (by omega)
      rw [hp']
      refine optP_mk ?_
      refine H.st1 (bs := [g2]) 1 (Int.toNat x * 1) rfl hp' (by simp; omega) (fun w4 H4 => ?_)
      rw [i64_next _ (by omega)]
      refine ih (t + 1) g2 ms (B.set x.toNat true) w4 (by omega) (by simp [hB]) (fun j hj => ?_) ?_ ?_
      · rw [List.getElem?_set]
        split
        · rename_i e
          rw [if_pos (by omega), List.take_add_one, hg]
          have : (j : Int) ∈ roots.take t ++ (some x).toList := by simp; right; omega
          rw [decide_eq_true this]
        · rename_i e
          rw [hm j hj, List.take_add_one, hg]
          congr 1
          refine decide_eq_decide.2 ⟨fun h => by simp [h], fun h => ?_⟩
          simp at h
          rcases h with h | h
          · exact h
          · omega
      · rw [hall]
        unfold kidIn
        rw [decide_eq_true (show 0 ≤ x by omega), decide_eq_true (show x < ((xs l).length : Int) by rw [hxl]; omega)]
        rfl
      · have e : (B.map Value.bool).set (x.toNat * 1) (.bool true) = (B.set x.toNat true).map Value.bool := by rw [Nat.mul_one, List.map_set]
        rw [boolR, ← e]
        exact H4
  refine term_Needs.okT s rs w _ ((lh2 (b := .rd rs (roots.map intV)) (gr_P.2 h) hr).newg fun b2 w1 H1 => ?_)
  rw [hn]
  obtain ⟨w2, r1, r2, r3⟩ := make_full el_bool w1 l.length (by omega)
  rw [made_bools] at r2
  have H2 := H1.pushg r3 r2 (by intro b hb; simp [blkL] at hb; omega)
  refine ⟨⟨some (at0 w1.heap.size), l.length, l.length⟩, w2, r1, fun b hb => ?_, rts roots.length 0 b2 _ (List.replicate l.length false) w2 (by omega) (by simp) (fun j hj => by simp [hj]) (by simp) H2⟩
  simp only [List.mem_cons, List.not_mem_nil, or_false] at hb
  subst hb
  exact r3.keep b (H1.get 0 : b < w1.heap.size) id
end Go.Proofs.YtibaobaobnpdaaaGreatDoor
set_option maxRecDepth 100000
set_option maxHeartbeats 1000000
namespace Go.Proofs.YtibaobaobnpdaaaGreatDoor
open Go Go.W

/-! #### copy -/
/-! #### Equal, Clone -/
theorem s_Equal {w : World} {s t : Sl} {a b : List Int} (ha : Nums w s a) (hb : Nums w t b) (hl : a.length ≤ 1000000000000) : Calls Tryz.prog n_slices_Equal_sl_int_int #[s.v, t.v] w fun r w' => r = .returned (.bool (decide (a = b))) ∧ Fr0 w w' := by
  have hn := Nums.len ha
  have hm := Nums.len hb
  refine slices_Equal_sl_int_int.ok s t w _ (sel_ne (fun hne => ⟨by rw [decide_eq_false]; intro e; subst e; omega, Fr.refl _ _⟩) (fun heq => ?_))
  have loop : ∀ (m i : Nat) (w1 : World), i + m = a.length → (a = b ↔ a.drop i = b.drop i) → LH F0 w w1 [] [.rd s (a.map intV), .rd t (b.map intV)] → slices_Equal_sl_int_int.L0 s t ((s.n : Nat) : Int) (i : Int) w1 fun r w' => r = .returned (.bool (decide (a = b))) ∧ Fr0 w w' := by
    intro m
    induction m with
    | zero =>
      intro i w1 hi he H
      rw [List.drop_of_length_le (by omega), List.drop_of_length_le (by omega)] at he
      exact slices_Equal_sl_int_int.L0_step _ _ _ _ _ _ (sel_false (decide_eq_false (by omega)) ⟨by rw [decide_eq_true (he.2 rfl)], H.fr⟩)
    | succ m ih =>
      intro i w1 hi he H
      have ga : a[i]? = some (a[i]'(by omega)) := List.getElem?_eq_getElem (by omega)
      have gb : b[i]? = some (b[i]'(by omega)) := List.getElem?_eq_getElem (by omega)
      rw [List.drop_eq_getElem_cons (by omega : i < a.length), List.drop_eq_getElem_cons (by omega : i < b.length), List.cons.injEq] at he
      generalize a[i]'(by omega) = x at ga he
      generalize b[i]'(by omega) = y at gb he
      refine slices_Equal_sl_int_int.L0_step _ _ _ _ _ _ (sel_true (decide_eq_true (by omega)) (H.dr fun w2 H2 => ⟨by omega, by omega, (show Nums w2 s a from H2.getD 0).cell ga (by omega) fun p hp hc => ⟨x, hc, by omega, by omega, (show Nums w2 t b from H2.getD 1).cell gb (by omega) fun q hq hd => ⟨y, hd, sel_ne (fun hne => ⟨?_, H2.fr⟩) (fun heq2 => ?_)⟩⟩⟩))
      · rw [decide_eq_false]
        intro e
        exact hne (he.1 e).1
      · rw [i64_next _ (by omega)]
        exact ih (i + 1) w2 (by omega) (he.trans ⟨fun h => h.2, fun h => ⟨heq2, h⟩⟩) H2
  exact loop a.length 0 w (by omega) (by simp) (lh2 (a := .rd s (a.map intV)) (b := .rd t (b.map intV)) ha hb)
theorem s_Clone {w : World} {s : Sl} {l : List Int} (h : Nums w s l) (hl : l.length ≤ 1000000000000) : Calls Tryz.prog n_slices_Clone_sl_int_int #[s.v] w fun r w' => RetNums w l r w' ∧ Fr0 w w' := by
  have hn := Nums.len h
  refine slices_Clone_sl_int_int.ok s w _ (sel_intro (fun ha => ⟨⟨⟨none, 0, 0⟩, rfl, ?_, fun b hb => by cases hb⟩, Fr.refl _ _⟩) (fun ha => ?_))
  · have h0 : s.a = none := by simpa using ha
    have := (h.2.2.1 h0).1
    obtain rfl : l = [] := List.eq_nil_of_length_eq_zero (by omega)
    exact OwnRow.nil w ty_int 1
  · have H : LH F0 w w [] [.rd s (l.map intV)] := lh0 _ (by
      intro e he
      simp only [List.mem_cons, List.not_mem_nil, or_false] at he
      subst he
      exact h)
    refine H.nwrow (n := 0) (sz := 1) (cs := []) rfl (by decide) fun w1 H1 => ?_
    have hs : Nums w1 s l := H1.getD 0
    refine H1.ap 0 el_ints (s := ⟨some (at0 w.heap.size), 0, 0⟩) (src := s) rfl hs.2.2 (by simp; omega) (intV_one _) (by show (0 + s.n) * 8 ≤ _; omega) (fun s' w2 H2 _ _ => ⟨⟨s', rfl, H2.get 0, fun b hb => (H2.new _ (List.mem_of_getElem? (i := 0) rfl) b hb).resolve_right id⟩, H2.fr⟩)
/-! #### sameNode, search -/
theorem gr_nda {w : World} {s : Sl} {l : List Nd} (h : GP w s l) {i : Nat} {d : Nd} (hi : l[i]? = some d) {K : Addr → Prop} {X : Int} (hX : X = (i : Int)) (hk : ∀ p, s.a = some p → NdAt w (p.add (Int.toNat X * 9)) d → K p) : (0 : Int) ≤ X ∧ X < ((s.n : Nat) : Int) ∧ optP s.a K := by
  have hn := gr_n h
  have hl := (List.getElem?_eq_some_iff.1 hi).1
  subst hX
  exact ⟨by omega, by omega, CRow.elem (f := Nd.c) (sz := 9) Nd.c_len (by omega) h.1.2.2 hi fun p hp hc => hk p hp hc⟩
theorem t_sameNode {w : World} {p q : Addr} {a b : Nd} (ha : NdAt w p a) (hb : NdAt w q b) (ka : a.P w) (kb : b.P w) (hl : a.x.kids.length ≤ 1000000000) : Calls Tryz.prog n_term_sameNode #[.pointer (some p), .pointer (some q)] w fun r w' => r = .returned (.bool (decide (a.x = b.x))) ∧ Fr0 w w' := by
  have H : LH F0 w w [] [.nda p a, .nda q b, kidE a, kidE b] := lh0 _ (by
    intro e he
    simp only [List.mem_cons, List.not_mem_nil, or_false] at he
    rcases he with rfl | rfl | rfl | rfl
    · exact ha
    · exact hb
    · exact ka
    · exact kb)
  have A : ∀ {w5 : World} {L : List En}, LH F0 w w5 L [.nda p a, .nda q b, kidE a, kidE b] → NdAt w5 p a := fun H => H.getD 0
  have B : ∀ {w5 : World} {L : List En}, LH F0 w w5 L [.nda p a, .nda q b, kidE a, kidE b] → NdAt w5 q b := fun H => H.getD 1
  obtain ⟨⟨op, ks, n, m, u, tx, st⟩, sl⟩ := a
  obtain ⟨⟨op', ks', n', m', u', tx', st'⟩, sl'⟩ := b
  have no : ∀ {w1 : World}, Fr0 w w1 → (⟨op, ks, n, m, u, tx, st⟩ : Nx) ≠ ⟨op', ks', n', m', u', tx', st'⟩ → (Ending.returned (.bool false) = .returned (.bool (decide ((⟨op, ks, n, m, u, tx, st⟩ : Nx) = ⟨op', ks', n', m', u', tx', st'⟩))) ∧ Fr0 w w1) := fun f h => ⟨by rw [decide_eq_false h], f⟩
  refine term_sameNode.ok p q w _ (H.dr fun w1 H1 => ⟨op, (A H1).c0, op', (B H1).c0, sel_eq (fun h1 => ?_) (fun h1 => no H1.fr (fun h => h1 (congrArg Nx.op h)))⟩)
  refine ⟨n, (A H1).c2, n', (B H1).c2, sel_eq (fun h2 => ?_) (fun h2 => no H1.fr (fun h => h2 (congrArg Nx.n h)))⟩
  refine ⟨m, (A H1).c3, m', (B H1).c3, sel_eq (fun h3 => ?_) (fun h3 => no H1.fr (fun h => h3 (congrArg Nx.m h)))⟩
  refine ⟨u, (A H1).c4, u', (B H1).c4, sel_eq (fun h4 => ?_) (fun h4 => no H1.fr (fun h => h4 (congrArg Nx.u h)))⟩
  refine ⟨st.k, st.n, st.x, (A H1).s0, (A H1).s1, (A H1).s2, st'.k, st'.n, st'.x, (B H1).s0, (B H1).s1, (B H1).s2, sel_srt (a := st) (b := st') (fun h5 => ?_) (fun h5 => no H1.fr (fun h => h5 (congrArg Nx.st h)))⟩
  refine ⟨sl, (A H1).c1, sl', (B H1).c1, H1.call (s_Equal (H1.getD 2) (H1.getD 3) (by simp only at hl ⊢; omega)) ?_⟩
  rintro _ w2 rfl H2
  refine ⟨_, rfl, (B H2).c3, (A H2).c3, (B H2).c2, (A H2).c2, (B H2).c0, (A H2).c0, sel_dec (fun h6 => ⟨tx, (A H2).c5, tx', (B H2).c5, ?_, H2.fr⟩) (fun h6 => no H2.fr (fun h => h6 (congrArg Nx.kids h)))⟩
  rw [tx_eq]
  simp only at h6
  subst h1 h2 h3 h4 h5 h6
  simp
theorem t_search {w : World} {s : Sl} {l : List Nd} {p : Addr} {d : Nd} (h : GP w s l) (hp : NdAt w p d) (hd : d.P w) (hl : l.length ≤ 1000000000) (hgk : ∀ e ∈ l, e.x.kids.length ≤ 1000000000) :
    Calls Tryz.prog n_term_search #[.agg #[s.v], .pointer (some p)] w fun r w' => r = .returned (.i (optI (idxX d.x (xs l) 0))) ∧ Fr0 w w' := by
  have hn := gr_n h
  have H : LH F0 w w [] [.gr s l, .nda p d, kidE d] := lh0 _ (by
    intro e he
    simp only [List.mem_cons, List.not_mem_nil, or_false] at he
    rcases he with rfl | rfl | rfl
    · exact gr_P.2 h
    · exact hp
    · exact hd)
  have loop : ∀ (m i : Nat) (b2 : Nat) (w1 : World), i + m = l.length → idxX d.x ((xs l).drop i) i = idxX d.x (xs l) 0 → LH F0 w w1 [.g b2] [.gr s l, .nda p d, kidE d] → term_search.L0T p b2 s ((s.n : Nat) : Int) (i : Int) w1 fun r w' => r = .returned (.i (optI (idxX d.x (xs l) 0))) ∧ Fr0 w w' := by
    intro m
    induction m with
    | zero =>
      intro i b2 w1 hi he H1
      rw [List.drop_of_length_le (by simp [xs]; omega)] at he
      exact term_search.L0T_step _ _ _ _ _ _ _ (sel_false (decide_eq_false (by omega)) ⟨by rw [← he]; rfl, H1.fr⟩)
    | succ m ih =>
      intro i b2 w1 hi he H1
      have hg : l[i]? = some (l[i]'(by omega)) := List.getElem?_eq_getElem (by omega)
      have hx : (xs l).drop i = (l[i]'(by omega)).x :: (xs l).drop (i + 1) := by
        rw [List.drop_eq_getElem_cons (by simp [xs]; omega : i < (xs l).length)]
        simp [xs]
      rw [hx] at he
      generalize l[i]'(by omega) = a at hg he
      have G1 : GP w1 s l := gr_P.1 (H1.getD 0)
      refine term_search.L0T_step _ _ _ _ _ _ _ (sel_true (decide_eq_true (by omega)) (gr_nda G1 hg rfl fun q hq ha => H1.callg (t_sameNode ha (H1.getD 1) (G1.2 a (List.mem_of_getElem? hg)) (H1.getD 2) (hgk a (List.mem_of_getElem? hg))) ?_))
      rintro _ w2 rfl H2
      have he2 : (if a.x = d.x then some i else idxX d.x ((xs l).drop (i + 1)) (i + 1)) = idxX d.x (xs l) 0 := he
      refine ⟨_, rfl, sel_dec (fun hs => ⟨?_, H2.fr⟩) (fun hs => ?_)⟩
      · rw [if_pos hs] at he2
        rw [← he2]; rfl
      · rw [if_neg hs] at he2
        rw [i64_next _ (by omega)]
        exact ih (i + 1) b2 w2 (by omega) he2 H2
  exact term_search.okT s p w _ (H.newg fun b2 w1 H1 => loop l.length 0 b2 w1 (by omega) (by simp) H1)
end Go.Proofs.YtibaobaobnpdaaaGreatDoor
set_option maxRecDepth 100000
set_option maxHeartbeats 1000000
namespace Go.Proofs.YtibaobaobnpdaaaGreatDoor
open Go Go.W

end Go.Proofs.YtibaobaobnpdaaaGreatDoor
set_option maxRecDepth 100000
set_option maxHeartbeats 1000000
namespace Go.Proofs.YtibaobaobnpdaaaGreatDoor
open Go Go.W

abbrev BuL (bb : Nat) (s : Sl) (mp mv : Nat) (l : List Nd) (es1 : Array MapEntry) (c1 : Nat) (es2 : Array MapEntry) (c2 : Nat) : List En :=
  [.c bb [s.v, .map (some mp), .map (some mv)] ty_term_builder, .row ty_api_Node 9 s (l.flatMap Nd.c), .ob mp (.map es1 c1), .ob mv (.map es2 c2)]
def BuRep (w : World) (bb : Nat) (l : List Nd) (own : List Nat) : Prop := ∃ (s : Sl) (mp mv : Nat) (es1 : Array MapEntry) (c1 : Nat) (es2 : Array MapEntry) (c2 : Nat), own = (BuL bb s mp mv l es1 c1 es2 c2).flatMap (·.fp) ∧ own.Nodup ∧ (∀ e ∈ BuL bb s mp mv l es1 c1 es2 c2, e.P w) ∧ SMapIs es1 (placesX (xs l) 0) ∧ SMapIs es2 (varsL (xs l))
def BuAt (w : World) (bb : Nat) (own : List Nat) (l : List Nd) (w' : World) : Prop := ∃ own', BuRep w' bb l own' ∧ Fr (· ∈ own) w w' ∧ ∀ x ∈ own', x ∈ own ∨ w.heap.size ≤ x
theorem BuRep.open {w : World} {bb : Nat} {l : List Nd} {own : List Nat} (h : BuRep w bb l own) (D : List En) (hD : ∀ e ∈ D, e.P w ∧ ∀ b ∈ e.fp, b ∉ own) :
    ∃ (s : Sl) (mp mv : Nat) (es1 : Array MapEntry) (c1 : Nat) (es2 : Array MapEntry) (c2 : Nat), SMapIs es1 (placesX (xs l) 0) ∧ SMapIs es2 (varsL (xs l)) ∧ LH (· ∈ own) w w (BuL bb s mp mv l es1 c1 es2 c2) D := by
  obtain ⟨s, mp, mv, es1, c1, es2, c2, ho, hn, hP, h1, h2⟩ := h
  have hin : ∀ e ∈ BuL bb s mp mv l es1 c1 es2 c2, ∀ b ∈ e.fp, b ∈ own := fun e he b hb => by rw [ho]; exact List.mem_flatMap.2 ⟨e, he, hb⟩
  exact ⟨s, mp, mv, es1, c1, es2, c2, h1, h2, LH.start' _ _ (fun e he => ⟨hP e he, hin e he⟩) (ho ▸ hn) (fun e he => ⟨(hD e he).1, fun b hb e' he' hm => (hD e he).2 b hb (hin e' he' b hm)⟩)⟩
theorem BuRep.close {w w' : World} {bb : Nat} {l : List Nd} {own : List Nat} {s : Sl} {mp mv : Nat} {es1 : Array MapEntry} {c1 : Nat} {es2 : Array MapEntry} {c2 : Nat} {D : List En} (H : LH (· ∈ own) w w' (BuL bb s mp mv l es1 c1 es2 c2) D) (h1 : SMapIs es1 (placesX (xs l) 0)) (h2 : SMapIs es2 (varsL (xs l))) : BuAt w bb own l w' :=
  ⟨_, ⟨s, mp, mv, es1, c1, es2, c2, rfl, H.nd, H.own, h1, h2⟩, H.fr, fun x hx => by
    obtain ⟨e, he, hb⟩ := List.mem_flatMap.1 hx
    exact (H.new e he x hb).symm⟩
theorem map_places : SMapOk Tryz.prog ty_map_string_int ty_string ty_int (.int .i64 0) := ⟨by kernel_rfl, by kernel_rfl, by kernel_rfl⟩
theorem map_vars : SMapOk Tryz.prog ty_map_string_api_Sort ty_string ty_api_Sort (.agg #[.int .i64 0, .int .i64 0, .int .i64 0]) := ⟨by kernel_rfl, by kernel_rfl, by kernel_rfl⟩
/-! #### Looking up the sort of a variable -/
/-- a cell to read -/
def _root_.Go.W.En.cl (p : Addr) (v : Value) : En := ⟨[p.block], fun w => w.cell? p = some v, fun w w' h hp => by
  have hl := cell_lt hp
  unfold World.cell? at hp ⊢
  rw [h p.block (by simp) hl]
  exact hp, fun w hp b hb => by simp at hb; subst hb; exact cell_lt hp, by simp⟩
theorem look_eq {l : List Nd} (t : ByteArray) : ∃ (a b c : Int) (y : Bool), ((sget (varsL (xs l)) t).getD (.agg #[.int .i64 0, .int .i64 0, .int .i64 0])) = .agg #[.i a, .i b, .i c] ∧ (sget (varsL (xs l)) t).isSome = y ∧ lookR (xs l) t = .returned (.tuple #[.agg #[.i a, .i b, .i c], .bool y]) := by
  rw [varsL_get]
  unfold lookR
  cases varS (xs l) t with
  | none => exact ⟨0, 0, 0, false, rfl, rfl, rfl⟩
  | some s => exact ⟨s.k, s.n, s.x, true, rfl, rfl, rfl⟩
theorem b_look {w : World} {bb : Nat} {l : List Nd} {s : Sl} {mp mv : Nat} {es1 : Array MapEntry} {c1 : Nat} {es2 : Array MapEntry} {c2 : Nat} {t1 : Addr} (h : ∀ e ∈ BuL bb s mp mv l es1 c1 es2 c2, e.P w) (h2 : SMapIs es2 (varsL (xs l))) (ht : w.cell? t1 = some (.pointer (some (at0 bb)))) (t : ByteArray) :
    Calls Tryz.prog n_term_builder_sortOf_1 #[.string t, .pointer (some t1)] w fun r w' => r = lookR (xs l) t ∧ Fr0 w w' := by
  have H : LH F0 w w [] (BuL bb s mp mv l es1 c1 es2 c2 ++ [.cl t1 (.pointer (some (at0 bb)))]) := lh0 _ (by
    intro e he
    rcases List.mem_append.1 he with he | he
    · exact h e he
    · simp only [List.mem_cons, List.not_mem_nil, or_false] at he
      subst he
      exact ht)
  obtain ⟨a, b, c, y, e1, e2, e3⟩ := look_eq (l := l) t
  refine term_builder_sortOf_1.okT t t1 w _ (H.newg fun b3 w1 H1 => ⟨_, H1.getD 4, optP_mk ⟨some mv, cellAt (p := at0 bb) (H1.getD 0) rfl rfl, a, b, c, y, ?_, H1.newg fun b5 w2 H2 => H2.locg fun w3 H3 => ⟨e3.symm, H3.fr⟩⟩⟩)
  rw [lookup_str map_vars (H1.getD 3) h2 t, e1, e2]
theorem b_sortOf {w : World} {bb : Nat} {l : List Nd} {own : List Nat} {d : Nd} (h : BuRep w bb l own) (hkids : ∀ e ∈ l, e.P w) (hd : d.P w) (hk : kcE.P w) (ho : TOk d.x) (hll : l.length ≤ 1000000000) (hv : ∀ e ∈ xs l, validS e.st = true) :
    Calls Tryz.prog n_term_builder_sortOf #[.pointer (some (at0 bb)), d.v] w fun r w' => r = sortR (srtX (xs l) d.x) ∧ Fr0 w w' := by
  obtain ⟨s, mp, mv, es1, c1, es2, c2, _, _, hP, _, h2⟩ := h
  have hrow : OwnRow w ty_api_Node 9 s (l.flatMap Nd.c) := hP _ (List.mem_of_getElem? (i := 1) rfl)
  have H : LH F0 w w [] (BuL bb s mp mv l es1 c1 es2 c2 ++ [.gr s l, kidE d, kcE]) := lh0 _ (by
    intro e he
    rcases List.mem_append.1 he with he | he
    · exact hP e he
    · simp only [List.mem_cons, List.not_mem_nil, or_false] at he
      rcases he with rfl | rfl | rfl
      · exact gr_P.2 ⟨hrow.rdn, hkids⟩
      · exact hd
      · exact hk)
  refine term_builder_sortOf.okT _ _ _ _ _ _ _ _ _ _ w _ (H.nw fun w1 _ H1 => H1.newg fun b3 w2 H2 => H2.newg fun b4 w3 H3 => H3.locg fun w4 H4 => ⟨_, H4.ld0 0, optP_mk ⟨s, cellAt (p := at0 bb) (H4.getD 0) rfl rfl, ?_⟩⟩)
  have Hs : LH F0 w4 w4 [] (.gr s l :: kidE d :: kcE :: (BuL bb s mp mv l es1 c1 es2 c2 ++ [.cl (at0 w.heap.size) (.pointer (some (at0 bb)))])) := lh0 _ (by
    intro e he
    simp only [List.cons_append, List.nil_append, List.mem_cons, List.not_mem_nil, or_false] at he
    rcases he with rfl | rfl | rfl | rfl | rfl | rfl | rfl | rfl
    · exact H4.getD 4
    · exact H4.getD 5
    · exact H4.getD 6
    · exact H4.getD 0
    · exact H4.getD 1
    · exact H4.getD 2
    · exact H4.getD 3
    · exact H4.ld0 0)
  refine H4.callg (t_sortOf ⟨n_term_builder_sortOf_1, #[], #[.pointer (some (at0 w.heap.size))]⟩ Hs (by kernel_rfl) (fun w' hw' => ?_) ho hll hv) ?_
  · exact b_look (fun e he => hw' e (List.mem_append_left _ he)) h2 (hw' (.cl (at0 w.heap.size) (.pointer (some (at0 bb)))) (by simp)) d.x.tx
  · rintro _ w5 rfl H5
    exact ⟨_, _, _, _, rfl, H5.locg fun w6 H6 => ⟨rfl, H6.fr⟩⟩
/-! #### find, put -/
def findB (g : List Nx) (n : Nx) : Int × Bool := match idxX n g 0 with
  | some i => ((i : Int), true)
  | none => (0, false)
theorem find_eq {g : List Nx} {n : Nx} (hn : 0 ≤ n.u) (hu : ∀ e ∈ g, 0 ≤ e.u) : (sget (placesX g 0) (keyB n)).getD (.int .i64 0) = .i (findB g n).1 ∧ (sget (placesX g 0) (keyB n)).isSome = (findB g n).2 := by
  rw [places_get hn hu]
  unfold findB
  cases idxX n g 0 with
  | none => exact ⟨rfl, rfl⟩
  | some i => exact ⟨rfl, rfl⟩
theorem b_find {w : World} {bb : Nat} {l : List Nd} {own : List Nat} {d : Nd} (h : BuRep w bb l own) (hd : d.P w) (W : WdN d.x) (hu : ∀ e ∈ xs l, 0 ≤ e.u) :
    Calls Tryz.prog n_term_builder_find #[.pointer (some (at0 bb)), d.v] w fun r w' => r = .returned (.tuple #[.i (findB (xs l) d.x).1, .bool (findB (xs l) d.x).2]) ∧ Fr0 w w' := by
  obtain ⟨s, mp, mv, es1, c1, es2, c2, _, _, hP, h1, _⟩ := h
  have H : LH F0 w w [] (BuL bb s mp mv l es1 c1 es2 c2 ++ [kidE d]) := lh0 _ (by
    intro e he
    rcases List.mem_append.1 he with he | he
    · exact hP e he
    · simp only [List.mem_cons, List.not_mem_nil, or_false] at he
      subst he
      exact hd)
  refine term_builder_find.ok _ _ _ _ _ _ _ _ _ _ w _ (H.nw fun w1 _ H1 => H1.dr fun w2 H2 => ⟨some mp, cellAt (p := at0 bb) (H2.getD 0) rfl rfl, H2.call (t_keyOf (d := d) (nda_ob (H2.ob 0)) (H2.getD 4) W) ?_⟩)
  rintro _ w3 rfl H3
  obtain ⟨e1, e2⟩ := find_eq W.u.1 hu
  refine ⟨_, rfl, cellAt (p := at0 bb) (H3.getD 0) rfl rfl, (findB (xs l) d.x).1, (findB (xs l) d.x).2, ?_, rfl, H3.fr⟩
  have := lookup_str map_places (H3.getD 2) h1 (keyB d.x)
  rw [e1, e2] at this
  exact this
theorem b_put {w : World} {bb : Nat} {l : List Nd} {own : List Nat} {d : Nd} (h : BuRep w bb l own) (hd : d.P w) (hdo : ∀ b ∈ (kidE d).fp, b ∉ own) (W : WdN d.x) (hu : ∀ e ∈ xs l, 0 ≤ e.u) (hl : l.length ≤ 100000) (hno : d.x ∉ xs l) (hvar : d.x.op = 0 → varS (xs l) d.x.tx = none) :
    Calls Tryz.prog n_term_builder_put #[.pointer (some (at0 bb)), d.v] w fun r w' => r = .returned (.i (l.length : Int)) ∧ BuAt w bb own (l ++ [d]) w' := by
  obtain ⟨s, mp, mv, es1, c1, es2, c2, h1, h2, H⟩ := h.open [kidE d] (by
    intro e he
    simp only [List.mem_cons, List.not_mem_nil, or_false] at he
    subst he
    exact ⟨hd, hdo⟩)
  have hn : s.n = l.length := Nd.rows_n (show RdN 9 w s (l.flatMap Nd.c) from (show OwnRow w ty_api_Node 9 s (l.flatMap Nd.c) from H.get 1).rdn)
  have g1 : sget (placesX (xs l) 0) (keyB d.x) = none := by
    rw [places_get W.u.1 hu]
    cases hi : idxX d.x (xs l) 0 with
    | none => rfl
    | some i =>
      have := (idx_some hi).2
      exact absurd (List.mem_of_getElem? this) hno
  have exs : xs (l ++ [d]) = xs l ++ [d.x] := by simp [xs]
  have p1 : placesX (xs (l ++ [d])) 0 = placesX (xs l) 0 ++ [(keyB d.x, .i (l.length : Int))] := by rw [exs, places_snoc]; simp [xs]
  have p2 : varsL (xs (l ++ [d])) = varsL (xs l) ++ (if d.x.op = 0 then [(d.x.tx, srtV d.x.st)] else []) := by rw [exs, varsL_snoc]
  have S0 : ∀ (es1' : Array MapEntry) (c1' : Nat) (es2' : Array MapEntry) (c2' nbk : Nat) (w1 : World), SMapIs es1' (placesX (xs (l ++ [d])) 0) → SMapIs es2' (varsL (xs (l ++ [d]))) → LH (· ∈ own) w w1 (BuL bb s mp mv l es1' c1' es2' c2' ++ [.c nbk d.c ty_api_Node]) [kidE d] →
      term_builder_put.S0 (at0 bb) (at0 nbk) w1 fun r w' => r = .returned (.i (l.length : Int)) ∧ BuAt w bb own (l ++ [d]) w' := by
    intro es1' c1' es2' c2' nbk w1 q1 q2 H1
    refine H1.dr fun w2 H2 => ⟨s, H2.ld 0 0, ?_⟩
    refine ⟨d.x.op, d.ks, d.x.n, d.x.m, d.x.u, d.x.tx, d.x.st.k, d.x.st.n, d.x.st.x, H2.ld 4 0, H2.ld 4 1, H2.ld 4 2, H2.ld 4 3, H2.ld 4 4, H2.ld 4 5, H2.ld 4 6, H2.ld 4 7, H2.ld 4 8, H2.nw fun w3 _ H3 => ⟨H3.ld 0 0, ?_⟩⟩
    have hsrc : RdN 9 w3 ⟨some (at0 w2.heap.size), 1, 1⟩ ([d].flatMap Nd.c) := by
      rw [show [d].flatMap Nd.c = d.c by simp]
      exact blk_rdn (T := ty_api_Node) (H3.ob 5) rfl
    refine H3.ap 1 el_node (src := ⟨some (at0 w2.heap.size), 1, 1⟩) rfl hsrc.2.2 hsrc.1 nd_one (by simp only; omega) (fun s' w4 H4 hs' _ => H4.st 0 0 rfl (fun w5 H5 => ⟨s', H5.ld 0 0, ?_⟩))
    refine ⟨?_, BuRep.close (s := s') (mp := mp) (mv := mv) (es1 := es1') (c1 := c1') (es2 := es2') (c2 := c2') (D := [kidE d]) ?_ q1 q2⟩
    · rw [hs', IntWalk.i64_in _ (by simp only; omega)]
      simp only
      rw [hn]
      congr 2
      omega
    · have := H5.take 4
      unfold BuL
      rw [show (l ++ [d]).flatMap Nd.c = l.flatMap Nd.c ++ [d].flatMap Nd.c from List.flatMap_append]
      exact this
  refine term_builder_put.ok _ _ _ _ _ _ _ _ _ _ w _ (H.nw fun w1 _ H1 => H1.dr fun w2 H2 => ⟨some mp, H2.ld 0 1, s, H2.ld 0 0, H2.call (t_keyOf (d := d) (nda_ob (H2.ob 4)) (H2.getD 0) W) ?_⟩)
  rintro _ w3 rfl H3
  obtain ⟨w4, es', u1, u2, u3, u4, _⟩ := update_str map_places (H3.ob 2) h1 (keyB d.x) (.i ((s.n : Nat) : Int)) g1
  have H4 := H3.upd 2 (.ob mp (.map es' (c1 + 1))) rfl (u4.mono fun x _ e => by simp [En.ob, e]) u2 (fun b hb => .inl hb)
  have q1 : SMapIs es' (placesX (xs (l ++ [d])) 0) := by rw [p1, ← hn]; exact u3
  refine ⟨_, rfl, H3.ld 0 0, H3.ld 0 1, w4, u1, d.x.op, H4.ld 4 0, sel_eq (fun h0 => ?_) (fun h0 => ?_)⟩
  · refine H4.dr fun w5 H5 => ⟨some mv, H5.ld 0 2, d.x.tx, H5.ld 4 5, ?_⟩
    have g2 : sget (varsL (xs l)) d.x.tx = none := by rw [varsL_get, hvar h0]; rfl
    obtain ⟨w6, es2', v1, v2, v3, v4, _⟩ := update_str map_vars (H5.ob 3) h2 d.x.tx (srtV d.x.st) g2
    have H6 := H5.upd 3 (.ob mv (.map es2' (c2 + 1))) rfl (v4.mono fun x _ e => by simp [En.ob, e]) v2 (fun b hb => .inl hb)
    have a := nda_ob (d := d) (H5.ob 4)
    refine ⟨d.x.st.k, d.x.st.n, d.x.st.x, a.s0, a.s1, a.s2, w6, v1, S0 es' (c1 + 1) es2' (c2 + 1) w.heap.size w6 q1 ?_ H6⟩
    rw [p2, if_pos h0]
    exact v3
  · refine S0 es' (c1 + 1) es2 c2 w.heap.size w4 q1 ?_ H4
    rw [p2, if_neg h0, List.append_nil]
    exact h2
end Go.Proofs.YtibaobaobnpdaaaGreatDoor
set_option maxRecDepth 100000
set_option maxHeartbeats 1000000
namespace Go.Proofs.YtibaobaobnpdaaaGreatDoor
open Go Go.W

theorem BuRep.st {w w' : World} {bb : Nat} {l : List Nd} {own : List Nat} (h : BuRep w bb l own) (k : ∀ b ∈ own, b < w.heap.size → w'.heap[b]? = w.heap[b]?) : BuRep w' bb l own := by
  obtain ⟨s, mp, mv, es1, c1, es2, c2, ho, hn, hP, h1, h2⟩ := h
  exact ⟨s, mp, mv, es1, c1, es2, c2, ho, hn, fun e he => e.st w w' (fun b hb hl => k b (by rw [ho]; exact List.mem_flatMap.2 ⟨e, he, hb⟩) hl) (hP e he), h1, h2⟩
theorem BuRep.lt {w : World} {bb : Nat} {l : List Nd} {own : List Nat} (h : BuRep w bb l own) : ∀ b ∈ own, b < w.heap.size := by
  obtain ⟨s, mp, mv, es1, c1, es2, c2, ho, hn, hP, h1, h2⟩ := h
  intro b hb
  rw [ho] at hb
  obtain ⟨e, he, hb⟩ := List.mem_flatMap.1 hb
  exact e.lt w (hP e he) b hb
def _root_.Go.W.En.bu (bb : Nat) (own : List Nat) (l : List Nd) : En := ⟨nub own, fun w => BuRep w bb l own, fun w w' h hp => hp.st fun b hb => h b (mem_nub.2 hb), fun w hp b hb => hp.lt b (mem_nub.1 hb), nub_nodup _⟩
theorem bu_off (w : World) (bb : Nat) (own : List Nat) (l : List Nd) (b : Nat) : ¬ (En.bu bb own l).P ({ w with heap := Array.replicate (b + 1) (.map #[] 0) }) := by
  rintro ⟨s, mp, mv, es1, c1, es2, c2, ho, hn, hP, h1, h2⟩
  have h := hP _ (List.mem_of_getElem? (i := 0) rfl)
  exact c_off w bb _ ty_term_builder b h
section
variable {M : Nat → Prop} {w0 w : World} {L D : List En} {bs : List Nat}
theorem _root_.Go.W.LH.buG (H : LH M w0 w L D) (i : Nat) {bb : Nat} {own : List Nat} {l l' : List Nd} {w' : World} (hi : L[i]? = some (.bu bb own l)) (h : BuAt w bb own l' w') : ∃ own', LH M w0 w' (L.set i (.bu bb own' l')) D ∧ BuRep w' bb l' own' := by
  obtain ⟨own', r, f, o⟩ := h
  exact ⟨own', H.upd i (.bu bb own' l') hi (f.mono fun x _ hx => mem_nub.2 hx) r (fun b hb => (o b (mem_nub.1 hb)).imp mem_nub.2 id), r⟩
theorem _root_.Go.W.LH.buC (H : LH M w0 w L D) (i : Nat) {bb : Nat} {own : List Nat} {l l' : List Nd} {P : Program} {g : FuncId} {args : Array Value} {A : Ending → Prop} {K : Post} (hi : L[i]? = some (.bu bb own l)) (hc : Calls P g args w fun r w' => A r ∧ BuAt w bb own l' w')
    (hk : ∀ r w' own', A r → LH M w0 w' (L.set i (.bu bb own' l')) D → K r w') (hbs : ∀ b ∈ bs, En.g b ∈ L := by simp) : callF bs P g args w K :=
  ⟨(· ∈ own), fun b hb hm => ghost_off H hi (bu_off w bb own l) (hbs b hb) (mem_nub.2 hm), hc.mono fun r w' ⟨ha, h⟩ => by
    obtain ⟨_, _, f, _⟩ := id h
    obtain ⟨own', H', _⟩ := H.buG i hi h
    exact ⟨f, hk r w' own' ha H'⟩⟩
end
theorem BuRep.nil (w : World) : BuAt w (w.heap.size + 2) [] [] ((((w.alloc (.map #[] 0)).alloc (.map #[] 0)).alloc (.cells #[.slice none 0 0, .map (some w.heap.size), .map (some (w.heap.size + 1))] ty_term_builder))) := by
  have s1 : (w.alloc (.map #[] 0)).heap.size = w.heap.size + 1 := size_alloc _ _
  have s2 : ((w.alloc (.map #[] 0)).alloc (.map #[] 0)).heap.size = w.heap.size + 2 := by rw [size_alloc, s1]
  have m1 : (w.alloc (.map #[] 0)).heap[w.heap.size]? = some (.map #[] 0) := heap_new w _
  have m1' := (Fr.alloc F0 (w.alloc (.map #[] 0)) (.map #[] 0)).at m1 id
  have m2 := heap_new (w.alloc (.map #[] 0)) (.map #[] 0)
  rw [s1] at m2
  have f3 := Fr.alloc F0 ((w.alloc (.map #[] 0)).alloc (.map #[] 0)) (.cells #[.slice none 0 0, .map (some w.heap.size), .map (some (w.heap.size + 1))] ty_term_builder)
  have c := heap_new ((w.alloc (.map #[] 0)).alloc (.map #[] 0)) (.cells #[.slice none 0 0, .map (some w.heap.size), .map (some (w.heap.size + 1))] ty_term_builder)
  rw [s2] at c
  have f : Fr0 w (((w.alloc (.map #[] 0)).alloc (.map #[] 0)).alloc (.cells #[.slice none 0 0, .map (some w.heap.size), .map (some (w.heap.size + 1))] ty_term_builder)) := ((Fr.alloc F0 w _).tr0 (Fr.alloc F0 _ _)).tr0 f3
  refine ⟨_, ⟨⟨none, 0, 0⟩, w.heap.size, w.heap.size + 1, #[], 0, #[], 0, rfl, ?_, fun e he => ?_, rfl, rfl⟩, f.of0, fun x hx => ?_⟩
  · show ([w.heap.size + 2] ++ ([] ++ ([w.heap.size] ++ ([w.heap.size + 1] ++ [])))).Nodup
    simp
  · simp only [List.mem_cons, List.not_mem_nil, or_false] at he
    rcases he with rfl | rfl | rfl | rfl
    · exact c
    · exact OwnRow.nil _ _ _
    · exact f3.at m1' id
    · exact f3.at m2 id
  · have hx : x ∈ [w.heap.size + 2] ++ ([] ++ ([w.heap.size] ++ ([w.heap.size + 1] ++ []))) := hx
    simp at hx
    right
    omega
theorem vg_new {g : List Nx} (h : Vg g) : ∀ i d, g[i]? = some d → d ∉ g.take i := by
  induction h with
  | nil => intro i d hd; simp at hd
  | @snoc g n hg hs hn ih =>
    intro i d hd
    rcases Nat.lt_or_ge i g.length with hi | hi
    · rw [List.getElem?_append_left hi] at hd
      rw [List.take_append_of_le_length (by omega)]
      exact ih i d hd
    · rw [List.getElem?_append_right hi] at hd
      have : i - g.length = 0 := by
        have := (List.getElem?_eq_some_iff.1 hd).1
        simp at this
        omega
      rw [this] at hd
      simp at hd
      subst hd
      rw [show i = g.length by omega, List.take_left]
      exact hn
/-- no variable with this name stands before -/
theorem vg_var {g : List Nx} (h : Vg g) {i : Nat} {d : Nx} (hd : g[i]? = some d) (h0 : d.op = 0) : varS (g.take i) d.tx = none := by
  cases hv : varS (g.take i) d.tx with
  | none => rfl
  | some s =>
    obtain ⟨e, he, e0, et, _⟩ := varS_mem hv
    obtain ⟨j, hj⟩ := List.mem_iff_getElem?.1 (List.mem_of_mem_take he)
    have hst := h.vars e (List.mem_of_mem_take he) e0 d (List.mem_of_getElem? hd) h0 et
    have := var_eq (h.sok j e hj) (h.sok i d hd) e0 h0 et hst
    exact absurd (this ▸ he) (vg_new h i d hd)
theorem b_new {w : World} {s : Sl} {l : List Nd} (h : GP w s l) (hg : Vg (xs l)) (hW : ∀ d ∈ xs l, WdN d) (hl : l.length ≤ 100000) :
    Calls Tryz.prog n_term_newBuilder #[.agg #[s.v]] w fun r w' => (∃ bb own, r = .returned (.pointer (some (at0 bb))) ∧ BuRep w' bb l own ∧ ∀ x ∈ own, w.heap.size ≤ x) ∧ Fr0 w w' := by
  have hn := gr_n h
  have H : LH F0 w w [] [.gr s l] := lh0 _ (by
    intro e he
    simp only [List.mem_cons, List.not_mem_nil, or_false] at he
    subst he
    exact gr_P.2 h)
  have loop : ∀ (m i b1 bb : Nat) (own : List Nat) (w1 : World), i + m = l.length → LH F0 w w1 [.g b1, .bu bb own (l.take i)] [.gr s l] →
      term_newBuilder.L0T (at0 bb) s ((s.n : Nat) : Int) (i : Int) w1 fun r w' => (∃ bb own, r = .returned (.pointer (some (at0 bb))) ∧ BuRep w' bb l own ∧ ∀ x ∈ own, w.heap.size ≤ x) ∧ Fr0 w w' := by
    intro m
    induction m with
    | zero =>
      intro i b1 bb own w1 hi H1
      refine term_newBuilder.L0T_step _ _ _ _ _ _ (sel_false (decide_eq_false (by omega)) ⟨⟨bb, own, rfl, ?_, fun x hx => (H1.new _ (List.mem_of_getElem? (i := 1) rfl) x (mem_nub.2 hx)).resolve_right id⟩, H1.fr⟩)
      have := H1.get 1
      rw [List.take_of_length_le (by omega)] at this
      exact this
    | succ m ih =>
      intro i b1 bb own w1 hi H1
      have ga : l[i]? = some (l[i]'(by omega)) := List.getElem?_eq_getElem (by omega)
      generalize l[i]'(by omega) = d at ga
      refine term_newBuilder.L0T_step _ _ _ _ _ _ (sel_true (decide_eq_true (by omega)) (gr_at (gr_P.1 (H1.getD 0)) rfl ga fun p hp c => ⟨d.x.op, d.ks, d.x.n, d.x.m, d.x.u, d.x.tx, d.x.st.k, d.x.st.n, d.x.st.x, c.c0, c.c1, c.c2, c.c3, c.c4, c.c5, c.c6, c.c7, c.c8, H1.newg fun b5 w2 H2 => H2.locg fun w3 H3 => ?_⟩))
      have hdm := List.mem_of_getElem? ga
      have gx := xs_get ga
      have et : xs (l.take i) = (xs l).take i := by simp [xs, List.map_take]
      have es : l.take (i + 1) = l.take i ++ [d] := by rw [List.take_add_one, ga]; rfl
      refine H3.buC 1 rfl (b_put (l := l.take i) (d := d) (H3.get 1) ((gr_P.1 (H3.getD 0)).2 d hdm) (fun b hb hm => H3.dj (.gr s l) (by simp) b (gr_fp.2 (.inr ⟨d, hdm, hb⟩)) (.bu bb own (l.take i)) (by simp) (mem_nub.2 hm)) (hW _ (List.mem_map.2 ⟨d, hdm, rfl⟩)) (fun e he => (hW e (by rw [et] at he; exact List.mem_of_mem_take he)).u.1) (by rw [List.length_take]; omega) (by rw [et]; exact vg_new hg i d.x gx) (fun h0 => by rw [et]; exact vg_var hg gx h0)) ?_
      rintro _ w4 own' rfl H4
      refine ⟨_, rfl, ?_⟩
      rw [i64_next _ (by omega)]
      refine ih (i + 1) b1 bb own' w4 (by omega) ?_
      rw [es]
      exact H4.take 2
  refine term_newBuilder.okT s w _ (H.newg fun b1 w1 H1 => ?_)
  obtain ⟨own, r, f, o⟩ := BuRep.nil w1
  have H2 := (H1.fresh (f.mono fun x _ hx => by cases hx)).own (.bu (w1.heap.size + 2) own []) r (fun b hb => (o b (mem_nub.1 hb)).resolve_left (by simp))
  have e2 : ((w1.alloc (.map #[] 0)).alloc (.map #[] 0)).heap.size = w1.heap.size + 2 := by rw [size_alloc, size_alloc]
  have := loop l.length 0 b1 (w1.heap.size + 2) own _ (by omega) H2
  have s1 : (w1.alloc (.map #[] 0)).heap.size = w1.heap.size + 1 := size_alloc _ _
  rw [← e2, ← s1] at this
  exact this
end Go.Proofs.YtibaobaobnpdaaaGreatDoor
set_option linter.unusedVariables false
set_option maxRecDepth 100000
set_option maxHeartbeats 2000000
namespace Go.Proofs.YtibaobaobnpdaaaGreatDoor
open Go Go.W
namespace strings_Builder_copyCheck
noncomputable def C0 : Code := (Tryz.f33.body).getD .skip
/-- (*strings.Builder).copyCheck -/
noncomputable def C1:=C0.sn
noncomputable def C2:=C1.fs
noncomputable def C3:=C1.sn
noncomputable def C4:=C3.sn
noncomputable def C5:=C4.fs
noncomputable def C6:=C4.sn
theorem ok (b0 : Addr) (w : World) (R : Post) (h : ∃ t5 : Option Addr, w.cell? (b0.add 0) = some (.pointer t5) ∧ 
  sel t5.isNone (∃ t9 : Option Addr, Sem.run Tryz.prog (Go.convert ty_p_strings_Builder ty_unsafe_Pointer (.pointer (some b0))) w = .ok (.pointer t9) w ∧ ∃ t10 : Option Addr, ∃ w1 : World, Sem.run Tryz.prog (callFunc n_internal_abi_NoEscape #[.pointer t9]) w = .ok (.value (.pointer t10)) w1 ∧ 
  ∃ t11 : Option Addr, Sem.run Tryz.prog (Go.convert ty_unsafe_Pointer ty_p_strings_Builder (.pointer t10)) w1 = .ok (.pointer t11) w1 ∧ stV w1 (b0.add 0) (.pointer t11) fun w2 => 
  R (.returned (.tuple #[])) w2) (∃ t17 : Option Addr, w.cell? (b0.add 0) = some (.pointer t17) ∧ 
  ∃ t19 : Bool, Sem.run Tryz.prog (binOp .neq ty_p_strings_Builder (.pointer t17) (.pointer (some b0))) w = .ok (.bool t19) w ∧ sel t19 (False) (R (.returned (.tuple #[])) w))) : Calls Tryz.prog n_strings_Builder_copyCheck #[.pointer (some b0)] w R :=
  calls_of_WP' (R := R) (fn := Tryz.f33) (c := C0) (args := [.pointer (some b0)]) (by kernel_rfl) (by kernel_rfl) (by kernel_rfl) (sr C0 (show (fun (E : Env) (w : World) => srK Tryz.prog C0 (fun E w => condK (Env.val E (.tmp 6)) (rgK Tryz.prog C2 (fun E w => retVC Tryz.prog Tryz.f33 E w (fun v => R (.returned v) w)) E w) (srK Tryz.prog C3 (fun E w => condK (Env.val E (.tmp 19)) (False) (retVC Tryz.prog Tryz.f33 E w (fun v => R (.returned v) w))) E w)) E w) (envOf 0 [.pointer (some b0)]) w from mp h) fun _ _ hK => (cn C1 hK (fun hK => (rg C2 (by kernel_rfl) hK fun _ _ a hA hK => retVC_sound hA hK)) (fun hK => (sr C3 hK fun _ _ hK => (cn C4 hK (fun hK => (False.elim hK)) (fun hK => (sk C6 fun a hA => retVC_sound hA hK)))))))
end strings_Builder_copyCheck
namespace strings_Builder_grow
noncomputable abbrev X : Fx := ⟨Tryz.prog, Tryz.f34, [(0,ls [0,1,2,3,4,5,6,7,9,10,11,12,13,8,14,15])], []⟩
abbrev P0 : Ps := [(0, .v [.r]), (4, .v [.s])]
abbrev S0 (b0 : Addr) (buf4 : Sl) (w : World) (R : Post) : Prop :=
  ∃ t24 : Sl, w.cell? (b0.add 1) = some (t24.v) ∧ 
  ∃ (t25 : Int) (w1 : World), Sem.run Tryz.prog (Builtin.copy_ #[ty_sl_uint8, ty_sl_uint8] ty_int #[buf4.v, t24.v]) w = .ok (.i t25) w1 ∧ stV w1 (b0.add 1) (buf4.v) fun w2 => 
  R (.returned (.tuple #[])) w2
noncomputable def eS0 := entS X [] (pth [1]) P0 S0
theorem ok (b0 : Addr) (n1 : Int) (w : World) (R : Post) (h : drV w fun w1 => ∃ t8 : Sl, w1.cell? (b0.add 1) = some (t8.v) ∧ 
  ∃ t17 : Sl, w1.cell? (b0.add 1) = some (t17.v) ∧ 
  ∃ t13 : Sl, ∃ w2 : World, Sem.run Tryz.prog (callFunc n_internal_bytealg_MakeNoZero #[.i (IntKind.wrap .i64 ((IntKind.wrap .i64 (2 * ((t8.c : Nat) : Int))) + n1))]) w1 = .ok (.value (t13.v)) w2 ∧ 
  w2.cell? (b0.add 1) = some (t17.v) ∧ (0 : Int) ≤ ((t17.n : Nat) : Int) ∧ ((t17.n : Nat) : Int) ≤ ((t13.c : Nat) : Int) ∧ S0 b0 ⟨(if t13.c = 0 then t13.a else t13.a.map (·.add (0 * 1))), ((Int.toNat ((t17.n : Nat) : Int)) - 0), (t13.c - 0)⟩ w2 R) : Calls Tryz.prog n_strings_Builder_grow #[.pointer (some b0), .i n1] w R := callsX X [eS0] h
end strings_Builder_grow
namespace strings_Builder_Grow
noncomputable def C0 : Code := (Tryz.f12.body).getD .skip
/-- (*strings.Builder).Grow -/
noncomputable def C1:=C0.sn
noncomputable def C2:=C1.fs
noncomputable def C3:=C1.sn
noncomputable def C4:=C3.sn
noncomputable def C5:=C4.fs
noncomputable def C6:=C2.sn
noncomputable def C7:=C6.fs
noncomputable def C8:=C6.sn
noncomputable def C9:=C4.sn
theorem ok (b0 : Addr) (n1 : Int) (w : World) (R : Post) (h : ca4 n_strings_Builder_copyCheck #[.pointer (some b0)] w fun w1 => sel (decide (n1 < 0)) (False) (drV w1 fun w2 => ∃ t12 : Sl, w2.cell? (b0.add 1) = some (t12.v) ∧ 
  ∃ t17 : Sl, w2.cell? (b0.add 1) = some (t17.v) ∧ 
  sel (decide ((IntKind.wrap .i64 (((t12.c : Nat) : Int) - ((t17.n : Nat) : Int))) < n1)) (ca4 n_strings_Builder_grow #[.pointer (some b0), .i n1] w2 fun w3 => R (.returned (.tuple #[])) w3) (R (.returned (.tuple #[])) w2))) : Calls Tryz.prog n_strings_Builder_Grow #[.pointer (some b0), .i n1] w R :=
  calls_of_WP' (R := R) (fn := Tryz.f12) (c := C0) (args := [.pointer (some b0), .i n1]) (by kernel_rfl) (by kernel_rfl) (by kernel_rfl) (sr C0 (show (fun (E : Env) (w : World) => srK Tryz.prog C0 (fun E w => srK Tryz.prog C2 (fun E w => condK (Env.val E (.tmp 7)) (False) (sdK Tryz.prog C3 [0, 1, 2, 3, 4, 5, 6, 7, 8, 9, 10, 11, 12] (fun E w => condK (Env.val E (.tmp 21)) (rgK Tryz.prog C5 (fun E w => retVC Tryz.prog Tryz.f12 E w (fun v => R (.returned v) w)) E w) (retVC Tryz.prog Tryz.f12 E w (fun v => R (.returned v) w))) E w)) E w) E w) (envOf 0 [.pointer (some b0), .i n1]) w from mp h) fun _ _ hK => (sq C1 (sr C2 hK fun _ _ hK => (cn C6 hK (fun hK => (False.elim hK)) (fun hK => (sk C8 fun a hA => nx hA (sd C3 (by kernel_rfl) hK fun _ _ hK => (cn C4 hK (fun hK => (rg C5 (by kernel_rfl) hK fun _ _ a hA hK => retVC_sound hA hK)) (fun hK => (sk C9 fun a hA => retVC_sound hA hK))))))))))
end strings_Builder_Grow
namespace strings_Builder_WriteByte
noncomputable abbrev X : Fx := ⟨Tryz.prog, Tryz.f35, [], []⟩
theorem ok (b0 : Addr) (c1 : Int) (w : World) (R : Post) (h : ca4 n_strings_Builder_copyCheck #[.pointer (some b0)] w fun w1 => ∃ t11 : Sl, w1.cell? (b0.add 1) = some (t11.v) ∧ 
  nwV w1 (.cells #[.int .u8 c1] ty_uint8) fun w2 => 
  ∃ (t14 : Sl) (w3 : World), Sem.run Tryz.prog (Builtin.append_ #[ty_sl_uint8, ty_sl_uint8] ty_sl_uint8 #[t11.v, .slice (some (nb w1)) 1 1]) w2 = .ok (t14.v) w3 ∧ stV w3 (b0.add 1) (t14.v) fun w4 => 
  R (.returned (.nilIface)) w4) : Calls Tryz.prog n_strings_Builder_WriteByte #[.pointer (some b0), .int .u8 c1] w R := callsX X [] h
end strings_Builder_WriteByte
namespace strings_Builder_WriteString
noncomputable abbrev X : Fx := ⟨Tryz.prog, Tryz.f18, [], []⟩
theorem ok (b0 : Addr) (s1 : ByteArray) (w : World) (R : Post) (h : ca4 n_strings_Builder_copyCheck #[.pointer (some b0)] w fun w1 => ∃ t12 : Sl, w1.cell? (b0.add 1) = some (t12.v) ∧ 
  ∃ (t14 : Sl) (w2 : World), Sem.run Tryz.prog (Builtin.append_ #[ty_sl_uint8, ty_string] ty_sl_uint8 #[t12.v, .string s1]) w1 = .ok (t14.v) w2 ∧ stV w2 (b0.add 1) (t14.v) fun w3 => 
  R (.returned (.tuple #[.i ((s1.size : Nat) : Int), .nilIface])) w3) : Calls Tryz.prog n_strings_Builder_WriteString #[.pointer (some b0), .string s1] w R := callsX X [] h
end strings_Builder_WriteString
namespace strings_Builder_String
noncomputable abbrev X : Fx := ⟨Tryz.prog, Tryz.f14, [(1,ls [0,1,2,3,5,6,7,8,9,4,10,11])], []⟩
theorem ok (b0 : Addr) (w : World) (R : Post) (h : drV w fun w1 => ∃ t6 : Sl, w1.cell? (b0.add 1) = some (t6.v) ∧ 
  ∃ t11 : Sl, w1.cell? (b0.add 1) = some (t11.v) ∧ 
  ∃ (t7 : Option Addr) (w2 : World), Sem.run Tryz.prog (Builtin.unsafeSliceData_ #[ty_sl_uint8] ty_p_uint8 #[t6.v]) w1 = .ok (.pointer t7) w2 ∧ w2.cell? (b0.add 1) = some (t11.v) ∧ ∃ (t13 : ByteArray) (w3 : World), Sem.run Tryz.prog (Builtin.unsafeString_ #[ty_p_uint8, ty_int] ty_string #[.pointer t7, .i ((t11.n : Nat) : Int)]) w2 = .ok (.string t13) w3 ∧ R (.returned (.string t13)) w3) : Calls Tryz.prog n_strings_Builder_String #[.pointer (some b0)] w R := callsX X [] h
end strings_Builder_String
end Go.Proofs.YtibaobaobnpdaaaGreatDoor
set_option maxRecDepth 100000
set_option maxHeartbeats 1000000
namespace Go.Proofs.YtibaobaobnpdaaaGreatDoor
open Go Go.W

/-! ### What a builder holds -/
def BdRep (w : World) (b : Nat) (bs : List UInt8) (own : List Nat) : Prop :=
  ∃ (u : Option Addr) (s : Sl), (u = none ∨ u = some (at0 b)) ∧ own = b :: blkL s ∧ w.heap[b]? = some (.cells #[.pointer u, s.v] ty_strings_Builder (0, 0)) ∧ BytesO w s bs
theorem BdRep.lt {w : World} {b : Nat} {bs : List UInt8} {own : List Nat} (h : BdRep w b bs own) : ∀ x ∈ own, x < w.heap.size := by
  obtain ⟨u, s, _, rfl, h1, h2⟩ := h
  intro x hx
  rcases List.mem_cons.1 hx with rfl | hx
  · exact lt_of_heap h1
  · exact h2.2.lt x hx
theorem BdRep.st {w w' : World} {b : Nat} {bs : List UInt8} {own : List Nat} (h : BdRep w b bs own) (k : ∀ x ∈ own, x < w.heap.size → w'.heap[x]? = w.heap[x]?) : BdRep w' b bs own := by
  have hlt := h.lt
  obtain ⟨u, s, hu, rfl, h1, h2⟩ := h
  exact ⟨u, s, hu, rfl, (k b (by simp) (hlt b (by simp))).trans h1, h2.1, h2.2.keep fun x hx _ => k x (by simp [hx]) (hlt x (by simp [hx]))⟩
def _root_.Go.W.En.bd (b : Nat) (own : List Nat) (bs : List UInt8) : En := ⟨nub own, fun w => BdRep w b bs own, fun w w' h hp => hp.st fun b hb => h b (mem_nub.2 hb), fun w hp b hb => hp.lt b (mem_nub.1 hb), nub_nodup _⟩
theorem bd_off (w : World) (bb : Nat) (own : List Nat) (l : List UInt8) (b : Nat) : ¬ (En.bd bb own l).P ({ w with heap := Array.replicate (b + 1) (.map #[] 0) }) := by
  rintro ⟨u, s, _, _, h, _⟩
  exact c_off w bb _ ty_strings_Builder b h
/-- after a method -/
def BdAt (w : World) (b : Nat) (own : List Nat) (bs : List UInt8) (w' : World) : Prop := ∃ own', BdRep w' b bs own' ∧ Fr (· ∈ own) w w' ∧ ∀ x ∈ own', x ∈ own ∨ w.heap.size ≤ x
theorem BdAt.refl {w : World} {b : Nat} {own : List Nat} {bs : List UInt8} (h : BdRep w b bs own) : BdAt w b own bs w := ⟨own, h, Fr.refl _ _, fun _ h => .inl h⟩
theorem BdAt.then {w w' w'' : World} {b : Nat} {own own' : List Nat} {bs : List UInt8} (h1 : Fr (· ∈ own) w w') (h2 : ∀ x ∈ own', x ∈ own ∨ w.heap.size ≤ x) (h : BdAt w' b own' bs w'') : BdAt w b own bs w'' := by
  obtain ⟨own'', r, f, o⟩ := h
  refine ⟨own'', r, h1.trans f fun x hx hm => ?_, fun x hx => ?_⟩
  · rcases h2 x hm with h | h
    · exact h
    · omega
  · rcases o x hx with h | h
    · exact h2 x h
    · exact .inr (Nat.le_trans h1.size h)
section
variable {M : Nat → Prop} {w0 w : World} {L D : List En} {bs : List Nat}
theorem _root_.Go.W.LH.bdG (H : LH M w0 w L D) (i : Nat) {bb : Nat} {own : List Nat} {l l' : List UInt8} {w' : World} (hi : L[i]? = some (.bd bb own l)) (h : BdAt w bb own l' w') : ∃ own', LH M w0 w' (L.set i (.bd bb own' l')) D ∧ BdRep w' bb l' own' := by
  obtain ⟨own', r, f, o⟩ := h
  exact ⟨own', H.upd i (.bd bb own' l') hi (f.mono fun x _ hx => mem_nub.2 hx) r (fun b hb => (o b (mem_nub.1 hb)).imp mem_nub.2 id), r⟩
/-- a method where nobody watches -/
theorem _root_.Go.W.LH.bdC (H : LH M w0 w L D) (i : Nat) {bb : Nat} {own : List Nat} {l l' : List UInt8} {P : Program} {g : FuncId} {args : Array Value} {A : Ending → Prop} {K : Post} (hi : L[i]? = some (.bd bb own l)) (hc : Calls P g args w fun r w' => A r ∧ BdAt w bb own l' w')
    (hk : ∀ r w' own', A r → LH M w0 w' (L.set i (.bd bb own' l')) D → K r w') : Calls P g args w K :=
  hc.mono fun r w' ⟨ha, h⟩ => by
    obtain ⟨own', H', _⟩ := H.bdG i hi h
    exact hk r w' own' ha H'
theorem _root_.Go.W.LH.bdF (H : LH M w0 w L D) (i : Nat) {bb : Nat} {own : List Nat} {l l' : List UInt8} {P : Program} {g : FuncId} {args : Array Value} {A : Ending → Prop} {K : Post} (hi : L[i]? = some (.bd bb own l)) (hc : Calls P g args w fun r w' => A r ∧ BdAt w bb own l' w')
    (hk : ∀ r w' own', A r → LH M w0 w' (L.set i (.bd bb own' l')) D → K r w') (hbs : ∀ b ∈ bs, En.g b ∈ L := by simp) : callF bs P g args w K :=
  ⟨(· ∈ own), fun b hb hm => ghost_off H hi (bd_off w bb own l) (hbs b hb) (mem_nub.2 hm), hc.mono fun r w' ⟨ha, h⟩ => by
    obtain ⟨_, _, f, _⟩ := id h
    obtain ⟨own', H', _⟩ := H.bdG i hi h
    exact ⟨f, hk r w' own' ha H'⟩⟩
end
/-! ### copyCheck -/
theorem bd_info : (∃ j, Tryz.prog.info? ty_strings_Builder = some j ∧ j.size = 2) ∧ liesAt Tryz.prog Tryz.prog.depth ty_strings_Builder (2 / Tryz.prog.cellsOf ty_strings_Builder) 0 ty_strings_Builder 1 = true ∧ Tryz.prog.underlying ty_p_strings_Builder = some (.pointer ty_strings_Builder) ∧ Tryz.prog.underlying ty_unsafe_Pointer = some .unsafePointer := by
  refine ⟨?_, by kernel_rfl, by kernel_rfl, by kernel_rfl⟩
  have h : (Tryz.prog.info? ty_strings_Builder).map (·.size) = some 2 := by kernel_rfl
  obtain ⟨j, h1, h2⟩ := Option.map_eq_some_iff.1 h
  exact ⟨j, h1, h2⟩
theorem bd_check {w : World} {b : Nat} {u : Option Addr} {s : Sl} (hu : u = none ∨ u = some (at0 b)) (hc : w.heap[b]? = some (.cells #[.pointer u, s.v] ty_strings_Builder (0, 0))) :
    Calls Tryz.prog n_strings_Builder_copyCheck #[.pointer (some (at0 b))] w fun r w' => r = .returned (.tuple #[]) ∧ w'.heap[b]? = some (.cells #[.pointer (some (at0 b)), s.v] ty_strings_Builder (0, 0)) ∧ Fr (· = b) w w' := by
  obtain ⟨⟨j, hj, hz⟩, hlie, hp, hun⟩ := bd_info
  have c0 : w.cell? ((at0 b).add 0) = some (.pointer u) := cellAt (p := at0 b) hc rfl rfl
  have hsh : w.shape? (at0 b).block = some (ty_strings_Builder, 2) := by
    show w.shape? b = _
    simp [World.shape?, hc]
  refine strings_Builder_copyCheck.ok _ w _ ⟨u, c0, ?_⟩
  rcases hu with rfl | rfl
  · refine sel_true rfl ⟨some (at0 b), Lib.run_to_unsafe w (at0 b) hp hun hj (by rw [hz]; decide) hsh (Nat.zero_lt_succ 1), some (at0 b), w, ?_, some (at0 b), Lib.run_from_unsafe w (at0 b) hun hp hj hsh hlie, ?_⟩
    · rw [run_callFunc_extern (fn := (Tryz.prog.funcs[n_internal_abi_NoEscape]?).getD default) (by kernel_rfl) (by kernel_rfl) (by kernel_rfl) (by kernel_rfl) (e := Extern.AbiNoEscape.same) (by kernel_rfl), Lib.run_noEscape]
      rfl
    · refine ⟨by rw [c0]; rfl, frozenAt (p := at0 b) hc, rfl, ?_, Fr.set _ _ _ rfl⟩
      exact setAt (p := at0 b) (i := 0) (v := .pointer (some (at0 b))) hc rfl
  · refine sel_false rfl ⟨some (at0 b), c0, false, ?_, sel_false rfl ⟨rfl, hc, Fr.refl _ _⟩⟩
    exact Lib.run_neq_ptr_same w (at0 b) hp hj
/-! ### The writing methods -/
/-- the store behind an append -/
theorem bd_store {w w1 w2 : World} {b : Nat} {s s' : Sl} {l l' : List UInt8} (hc : w.heap[b]? = some (.cells #[.pointer (some (at0 b)), s.v] ty_strings_Builder (0, 0))) (h0 : BytesO w s l) (f1 : Fr0 w w1) (ho : BytesO w2 s' l') (f2 : Fr (· ∈ blkL s) w1 w2) (hbl : ∀ b ∈ blkL s', b ∈ blkL s ∨ w1.heap.size ≤ b) :
    (w2.cell? ((at0 b).add 1)).isSome = true ∧ w2.frozen? ((at0 b).add 1) = false ∧ BdAt w b (b :: blkL s) l' (w2.setCell ((at0 b).add 1) s'.v) := by
  have hne : b ∉ blkL s := ow_ne h0 hc (by decide)
  have c2 := f2.at (f1.at hc id) hne
  have c3 : (w2.setCell ((at0 b).add 1) s'.v).heap[b]? = some (.cells #[.pointer (some (at0 b)), s'.v] ty_strings_Builder (0, 0)) := setAt (p := at0 b) (i := 1) (v := s'.v) c2 rfl
  have f3 : Fr (· = b) w2 (w2.setCell ((at0 b).add 1) s'.v) := Fr.set _ _ _ rfl
  have hne' : b ∉ blkL s' := ow_ne ho c2 (by decide)
  refine ⟨by rw [cellAt (p := at0 b) c2 rfl rfl]; rfl, frozenAt (p := at0 b) c2, b :: blkL s', ⟨_, s', .inr rfl, rfl, c3, ho.fr f3 fun x hx e => hne' (e ▸ hx)⟩, ?_, ?_⟩
  · exact ((f1.of0 (M := (· ∈ b :: blkL s))).trans f2 fun x _ hx => by simp [hx]).trans f3 fun x _ hx => by simp [hx]
  · intro x hx
    rcases List.mem_cons.1 hx with rfl | hx
    · exact .inl (by simp)
    · rcases hbl x hx with h | h
      · exact .inl (by simp [h])
      · exact .inr (Nat.le_trans f1.size h)
theorem bd_open {w : World} {b : Nat} {l : List UInt8} {own : List Nat} (h : BdRep w b l own) {K : Post} (hk : ∀ (s : Sl) w', own = b :: blkL s → w'.heap[b]? = some (.cells #[.pointer (some (at0 b)), s.v] ty_strings_Builder (0, 0)) → BytesO w' s l → Fr (· ∈ own) w w' → K (.returned (.tuple #[])) w') :
    Calls Tryz.prog n_strings_Builder_copyCheck #[.pointer (some (at0 b))] w K := by
  obtain ⟨u, s, hu, rfl, h1, h2⟩ := h
  refine (bd_check hu h1).mono ?_
  rintro _ w1 ⟨rfl, c, f⟩
  have hne : b ∉ blkL s := ow_ne h2 h1 (by decide)
  exact hk s w1 rfl c (h2.fr f fun x hx e => hne (e ▸ hx)) (f.mono fun x _ e => by simp [e])
theorem bd_cell {w : World} {b : Nat} {s : Sl} (hc : w.heap[b]? = some (.cells #[.pointer (some (at0 b)), s.v] ty_strings_Builder (0, 0))) : w.cell? ((at0 b).add 1) = some s.v := cellAt (p := at0 b) hc rfl rfl
theorem bd_byte {w : World} {b : Nat} {l : List UInt8} {own : List Nat} (h : BdRep w b l own) (c : UInt8) (hl : l.length ≤ 10000000000000) :
    Calls Tryz.prog n_strings_Builder_WriteByte #[.pointer (some (at0 b)), .int .u8 (c.toNat : Int)] w fun r w' => r = .returned .nilIface ∧ BdAt w b own (l ++ [c]) w' := by
  refine strings_Builder_WriteByte.ok _ _ w _ (bd_open h fun s w1 ho c1 b1 f => ?_)
  subst ho
  have f1 : Fr0 w1 (w1.alloc (.cells #[.int .u8 (c.toNat : Int)] ty_uint8)) := Fr.alloc _ _ _
  obtain ⟨s', w2, g1, g2, g3, g4, g5⟩ := append_bytes (ty := ty_sl_uint8) (b1.fr0 f1) (one_byte w1 c) (by simp; omega)
  obtain ⟨a1, a2, a3⟩ := bd_store c1 b1 f1 g2 g3 g4
  exact ⟨rfl, s, bd_cell c1, s', w2, g1, a1, a2, rfl, a3.then f fun x hx => .inl hx⟩
theorem bd_str {w : World} {b : Nat} {l : List UInt8} {own : List Nat} (h : BdRep w b l own) (t : ByteArray) (hl : l.length + t.size ≤ 10000000000000) :
    Calls Tryz.prog n_strings_Builder_WriteString #[.pointer (some (at0 b)), .string t] w fun r w' => r = .returned (.tuple #[.i (t.size : Int), .nilIface]) ∧ BdAt w b own (l ++ bl t) w' := by
  refine strings_Builder_WriteString.ok _ _ w _ (bd_open h fun s w1 ho c1 b1 f => ?_)
  subst ho
  obtain ⟨s', w2, g1, g2, g3, g4⟩ := append_str (ty := ty_sl_uint8) b1 t (by omega)
  obtain ⟨a1, a2, a3⟩ := bd_store c1 b1 (Fr.refl _ w1) g2 g3 g4
  exact ⟨rfl, s, bd_cell c1, s', w2, g1, a1, a2, rfl, a3.then f fun x hx => .inl hx⟩
/-! ### Grow of a new one, String -/
theorem bd_grow {w : World} {b : Nat} (hc : w.heap[b]? = some (.cells #[.pointer (some (at0 b)), .slice none 0 0] ty_strings_Builder (0, 0))) {n : Nat} (hn : n ≤ 100000) :
    Calls Tryz.prog n_strings_Builder_grow #[.pointer (some (at0 b)), .i (n : Int)] w fun r w' => r = .returned (.tuple #[]) ∧ BdAt w b [b] [] w' := by
  have hun : Tryz.prog.underlying ty_sl_uint8 = some (.slice ty_uint8) := by kernel_rfl
  have hb := lt_of_heap hc
  refine strings_Builder_grow.ok _ _ w _ ?_
  obtain ⟨cs, hrun, hle, hmax⟩ := Lib.run_makeNoZero (P := Tryz.prog) w.drew #[ty_int] ty_sl_uint8 ty_uint8 hun n (by omega)
  have e : IntKind.wrap .i64 ((IntKind.wrap .i64 (2 * ((0 : Nat) : Int))) + (n : Int)) = (n : Int) := by
    rw [IntWalk.i64_in (2 * ((0 : Nat) : Int)) (by omega), IntWalk.i64_in _ (by omega)]
    omega
  have c1 : w.drew.cell? ((at0 b).add 1) = some (.slice none 0 0) := cellAt (p := at0 b) (show w.drew.heap[b]? = _ from hc) rfl rfl
  have f1 : Fr0 w (w.drew.drew.drew.alloc (.cells cs ty_uint8)) := (((Fr.drew _ w).tr0 (Fr.drew _ _)).tr0 (Fr.drew _ _)).tr0 (Fr.alloc _ _ _)
  have c2 := f1.at hc id
  refine ⟨⟨none, 0, 0⟩, c1, ⟨none, 0, 0⟩, c1, ⟨some ⟨w.drew.heap.size, 0, none⟩, n, cs.size⟩, w.drew.drew.drew.alloc (.cells cs ty_uint8), ?_, cellAt (p := at0 b) c2 rfl rfl, by simp, by simp, ?_⟩
  · rw [e, run_callFunc_extern (fn := (Tryz.prog.funcs[n_internal_bytealg_MakeNoZero]?).getD default) (by kernel_rfl) (by kernel_rfl) (by kernel_rfl) (by kernel_rfl) (e := Extern.BytealgMakeNoZero.makeNoZero #[ty_int] #[ty_sl_uint8]) (by kernel_rfl), hrun]
    rfl
  · have hs0 : (if cs.size = 0 then some (⟨w.drew.heap.size, 0, none⟩ : Addr) else (some (⟨w.drew.heap.size, 0, none⟩ : Addr)).map (·.add (0 * 1))) = some ⟨w.drew.heap.size, 0, none⟩ := by
      split <;> rfl
    show strings_Builder_grow.S0 _ ⟨(if cs.size = 0 then some (⟨w.drew.heap.size, 0, none⟩ : Addr) else (some (⟨w.drew.heap.size, 0, none⟩ : Addr)).map (·.add (0 * 1))), 0, cs.size⟩ _ _
    rw [hs0]
    refine ⟨⟨none, 0, 0⟩, cellAt (p := at0 b) c2 rfl rfl, 0, _, run_copy_none _ _ _ _ ty_uint8 _ _ _ _ _ _ hun (by kernel_rfl) rfl, by rw [cellAt (p := at0 b) c2 rfl rfl]; rfl, frozenAt (p := at0 b) c2, rfl, ?_⟩
    have hnew : (w.drew.drew.drew.alloc (.cells cs ty_uint8)).heap[w.heap.size]? = some (.cells cs ty_uint8 (0, 0)) := heap_new w.drew.drew.drew _
    have f3 : Fr (· = b) (w.drew.drew.drew.alloc (.cells cs ty_uint8)) ((w.drew.drew.drew.alloc (.cells cs ty_uint8)).setCell ((at0 b).add 1) (.slice (some ⟨w.drew.heap.size, 0, none⟩) 0 cs.size)) := Fr.set _ _ _ rfl
    refine ⟨[b, w.heap.size], ⟨_, ⟨some ⟨w.drew.heap.size, 0, none⟩, 0, cs.size⟩, .inr rfl, rfl, setAt (p := at0 b) (i := 1) c2 rfl, rfl, ?_⟩, (f1.of0 (M := (· ∈ [b]))).trans f3 fun x _ hx => by simp [hx], fun x hx => ?_⟩
    · refine ⟨rfl, .inr ⟨w.heap.size, cs.size, cs, rfl, Nat.zero_le _, f3.at hnew (fun e => by omega), Nat.zero_le _, hmax (by unfold maxLen; omega), by simp, by simp⟩⟩
    · simp at hx
      rcases hx with rfl | rfl
      · exact .inl (by simp)
      · exact .inr (Nat.le_refl _)
theorem bd_Grow {w : World} {b : Nat} (hc : w.heap[b]? = some (.cells #[.pointer none, .slice none 0 0] ty_strings_Builder (0, 0))) {n : Nat} (hn : n ≤ 100000) :
    Calls Tryz.prog n_strings_Builder_Grow #[.pointer (some (at0 b)), .i (n : Int)] w fun r w' => r = .returned (.tuple #[]) ∧ BdAt w b [b] [] w' := by
  refine strings_Builder_Grow.ok _ _ w _ ((bd_check (s := ⟨none, 0, 0⟩) (.inl rfl) hc).mono ?_)
  rintro _ w1 ⟨rfl, c1, f1⟩
  have f1' : Fr (· ∈ [b]) w w1.drew := (f1.tr0 (Fr.drew _ _)).mono fun x _ e => by simp [e]
  have hd : w1.drew.heap[b]? = some (.cells #[.pointer (some (at0 b)), .slice none 0 0] ty_strings_Builder (0, 0)) := c1
  have cc : w1.drew.cell? ((at0 b).add 1) = some (.slice none 0 0) := cellAt (p := at0 b) hd rfl rfl
  refine ⟨rfl, sel_false (decide_eq_false (by omega)) ⟨⟨none, 0, 0⟩, cc, ⟨none, 0, 0⟩, cc, sel_dec (fun _ => (bd_grow hd hn).mono ?_) (fun _ => ⟨rfl, BdAt.then (own' := [b]) f1' (fun x hx => .inl hx) (BdAt.refl ⟨_, ⟨none, 0, 0⟩, .inr rfl, rfl, hd, Ow.nil _ _⟩)⟩)⟩⟩
  rintro _ w2 ⟨rfl, h⟩
  exact ⟨rfl, rfl, h.then f1' fun x hx => .inl hx⟩
theorem bd_String {w : World} {b : Nat} {l : List UInt8} {own : List Nat} (h : BdRep w b l own) (h0 : l ≠ []) :
    Calls Tryz.prog n_strings_Builder_String #[.pointer (some (at0 b))] w fun r w' => r = .returned (.string ⟨l.toArray⟩) ∧ Fr (· ∈ own) w w' := by
  obtain ⟨u, s, hu, rfl, h1, h2⟩ := h
  have hl : l.length ≠ 0 := by simpa using h0
  have hn := h2.1
  simp only [List.length_map] at hn
  rcases h2.2.cases with ⟨rfl, he⟩ | ⟨g, cur, ha, hg, hc1, hc2, hc3, hc4⟩
  · simp at he
    exact absurd he h0
  have cc : w.drew.cell? ((at0 b).add 1) = some s.v := cellAt (p := at0 b) (show w.drew.heap[b]? = _ from h1) rfl rfl
  refine strings_Builder_String.ok _ w _ ⟨s, cc, s, cc, some ⟨g, 0, none⟩, w.drew, ?_, cc, ⟨l.toArray⟩, w.drew.freeze ⟨g, 0, none⟩ l.length, ?_, rfl, ?_⟩
  · show (Builtin.unsafeSliceData_ _ _ #[.slice s.a s.n s.c]).run _ _ = _
    rw [ha]
    exact Lib.run_unsafeSliceData_row _ _ _ _ _ _ (by omega)
  · rw [hn]
    refine Lib.run_unsafeString_row w.drew _ _ _ ty_uint8 (by kernel_rfl) (by kernel_rfl) g cur.size ?_ l h0 (by omega) (by unfold maxLen at hc2; omega) ?_
    · have hg' : w.drew.heap[g]? = some (.cells cur ty_uint8 (0, 0)) := hg
      simp [World.shape?, hg']
    · intro j x hx
      have hj : cur[j]? = some (.int .u8 (x.toNat : Int)) := by
        have : (cur.toList.take (s.n * 1))[j]? = some (W.byteV x) := by rw [hc4, List.getElem?_map, hx]; rfl
        rw [List.getElem?_take] at this
        split at this
        · show cur[j]? = some (W.byteV x)
          simpa using this
        · cases this
      exact cellAt (p := at0 g) (show w.drew.heap[g]? = _ from hg) rfl (show cur[0 + j]? = _ by rw [Nat.zero_add]; exact hj)
  · refine ((Fr.drew _ w).trans (M' := (· ∈ b :: blkL s)) ?_ fun _ _ h => h)
    have hgm : g ∈ blkL s := by unfold blkL; rw [ha]; simp
    unfold World.freeze
    split
    · exact Fr.refl _ _
    · exact ⟨rfl, rfl, rfl, by simp, fun k hk hm => by
        simp only [Array.getElem?_modify]
        rw [if_neg (fun e => hm (by simp [← e, hgm]))]⟩
end Go.Proofs.YtibaobaobnpdaaaGreatDoor

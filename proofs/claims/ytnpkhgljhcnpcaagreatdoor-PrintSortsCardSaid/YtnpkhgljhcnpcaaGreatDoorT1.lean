/- Calls that change one block of one's own and may return new things. No program in sight. Package enthymemeref04: digit, plain, number, byteAt, rangeAt, Tokens: the contracts. Package enthymemeref04: the reader's see, take, need, begins; group: the contracts. Package enthymemeref04: the reader's expr, conj, seq, item, atom, kids: the contracts. Printed by a program of ours (mkT3.py). Package enthymemeref04: the reader's item, atom, kids, all of them; Parse: the contracts. Package enthymemeref04: the reader's atom; all of them; Parse: the contracts. Package enthymemeref04: Parse: the contract. Package enthymemeref04: Byte, binds, low, Write: the contracts. Package enthymemeref04: binds, Write: the contracts. Package enthymemeref04: Canonical: the contract. Package enthymemeref04: Text: the condition and the contract. Printed in part by a program of ours (mkTA.py). The texts that are made of numbers: the expressions are in order, and the texts are canonical. No program in sight. Package enthymemeref04: Text: the contract; what the texts are. -/
import Derived.Test.YtnpkhgljhcnpcaaGreatDoorW
import Derived.Test.YtnpkhgljhcnpcaaGreatDoorR1
import Derived.Test.YtnpkhgljhcnpcaaGreatDoorG1
import Derived.Test.YtnpkhgljhcnpcaaGreatDoorV
set_option linter.unusedVariables false
namespace Go.Proofs.YtnpkhgljhcnpcaaGreatDoor
open Go Go.W

section
variable {M : Nat → Prop} {w0 w : World} {L D : List En} {bs : List Nat}
theorem c_off (w : World) (pb : Nat) (vs : List Value) (ty : TypeId) (b : Nat) : ¬ (En.c pb vs ty).P ({ w with heap := Array.replicate (b + 1) (.map #[] 0) }) := by
  intro h
  have h : ({ w with heap := Array.replicate (b + 1) (.map #[] 0) } : World).heap[pb]? = some (.cells vs.toArray ty (0, 0)) := h
  simp [Array.getElem?_replicate] at h
theorem c_fp {pb : Nat} {vs : List Value} {ty : TypeId} {b : Nat} : b ∈ (En.c pb vs ty).fp ↔ b = pb := by simp [En.c, En.ob]
end
end Go.Proofs.YtnpkhgljhcnpcaaGreatDoor
namespace Go.Proofs.YtnpkhgljhcnpcaaGreatDoor
open Go Go.W

/-! #### byteAt -/
/-! #### rangeAt -/
/-! #### Tokens -/
def TokQ.c (t : TokQ) : List Value := [.string (ba t.tx), .i (t.at_ : Int), .i (t.k : Int), .int .u8 (t.lo.toNat : Int), .int .u8 (t.hi.toNat : Int), .slice none 0 0]
end Go.Proofs.YtnpkhgljhcnpcaaGreatDoor
namespace Go.Proofs.YtnpkhgljhcnpcaaGreatDoor
open Go Go.W

end Go.Proofs.YtnpkhgljhcnpcaaGreatDoor
namespace Go.Proofs.YtnpkhgljhcnpcaaGreatDoor
open Go Go.W

theorem _root_.Go.W.LH.cons1 {M : Nat → Prop} {w0 w : World} {L D : List En} (H : LH M w0 w L D) (j : Nat) {t : Rt} (hj : D[j]? = some (.tree t) := by rfl) : LH M w0 w L (D ++ [.trees [t]]) := by
  refine H.addD _ (Fr.refl _ _) (Rt.ps_of fun t' ht => ?_) fun b hb => .inr (.inr ?_)
  · simp at ht; subst ht; exact H.getD j hj
  · obtain ⟨t', ht, hb'⟩ := Rt.fps_iff.1 (mem_nub.1 hb)
    simp at ht
    rw [ht] at hb'
    exact ⟨_, List.mem_of_getElem? hj, mem_nub.2 hb'⟩
end Go.Proofs.YtnpkhgljhcnpcaaGreatDoor
namespace Go.Proofs.YtnpkhgljhcnpcaaGreatDoor
open Go Go.W

/-- one tree becomes the part of another one -/
theorem _root_.Go.W.LH.one {M : Nat → Prop} {w0 w : World} {L D : List En} (H : LH M w0 w L D) (i j : Nat) {e : TypeId} {sl : Sl} {u : Rt} (k : Int) (lo hi : UInt8) (hi' : L[i]? = some (.row e 4 sl u.c) := by rfl) (hj : D[j]? = some (.tree u) := by rfl) : LH M w0 w (L.eraseIdx i) (D ++ [.tree (.mk k lo hi sl [u])]) := by
  have H1 := H.cons1 j hj
  have e : [u].flatMap Rt.c = u.c := by simp
  have H2 := H1.rowT i D.length k lo hi (s := sl) (ts := [u]) (by rw [e]; exact hi') (by simp)
  exact H2.forget _ (fun d hd => by
    simp only [List.mem_append, List.mem_cons, List.not_mem_nil, or_false] at hd ⊢
    rcases hd with hd | hd
    · exact .inl (.inl (.inl hd))
    · exact .inr hd)
section
variable {s : Sl} {l : List TokQ} {n : Nat}
/-! #### kids -/
end
end Go.Proofs.YtnpkhgljhcnpcaaGreatDoor
namespace Go.Proofs.YtnpkhgljhcnpcaaGreatDoor
open Go Go.W

end Go.Proofs.YtnpkhgljhcnpcaaGreatDoor
namespace Go.Proofs.YtnpkhgljhcnpcaaGreatDoor
open Go Go.W

end Go.Proofs.YtnpkhgljhcnpcaaGreatDoor
namespace Go.Proofs.YtnpkhgljhcnpcaaGreatDoor
open Go Go.W

theorem blk_rd {w : World} {b n : Nat} {cs : List Value} {T : TypeId} (h : w.heap[b]? = some (.cells cs.toArray T (0, 0))) (hn : n = cs.length) : Rd w ⟨some (at0 b), n, n⟩ cs :=
  rd_in (s := ⟨some (at0 b), n, n⟩) hn (Nat.le_refl _) (fun h => by cases h) fun i v hi => ⟨at0 b, rfl, cellAt (p := at0 b) h rfl (by simpa using hi)⟩
end Go.Proofs.YtnpkhgljhcnpcaaGreatDoor
namespace Go.Proofs.YtnpkhgljhcnpcaaGreatDoor
open Go Go.W

/-! #### Lengths of texts -/
end Go.Proofs.YtnpkhgljhcnpcaaGreatDoor
namespace Go.Proofs.YtnpkhgljhcnpcaaGreatDoor
open Go Go.W

end Go.Proofs.YtnpkhgljhcnpcaaGreatDoor
set_option maxRecDepth 100000
set_option maxHeartbeats 2000000
namespace Go.Proofs.YtnpkhgljhcnpcaaGreatDoor
open Go Go.W

namespace enthymemeref04_TextI
noncomputable def C0 : Code := (Tryz.f36.body).getD .skip
noncomputable def C1:=C0.sn
noncomputable def C2:=C1.sn
noncomputable def C3:=C2.sn
noncomputable def C4:=C3.sn
noncomputable def C5:=C4.sn
noncomputable def C6:=C5.sn
noncomputable def C7:=C6.sn
/-- enthymeme/enthymemeref04.Text -/
noncomputable def C8:=C7.sn
noncomputable def C9:=C8.sn
end enthymemeref04_TextI
/-! #### The invariant -/
inductive SpT where
  | tr (x : Rx)
  | ls (l : List Rx)
def holdT (base : Nat) (w : World) (v : Option Value) : SpT → Prop
  | .tr x => ∃ t : Rt, v = some t.v ∧ t.rx = x ∧ t.P w ∧ ∀ b ∈ t.fp, base ≤ b
  | .ls l => ∃ (s : Sl) (ts : List Rt), v = some s.v ∧ Rt.rxs ts = l ∧ (lstT s ts).P w ∧ ∀ b ∈ (lstT s ts).fp, base ≤ b
theorem holdT.fr0 {base : Nat} {w w' : World} {v : Option Value} {sp : SpT} (h : holdT base w v sp) (f : Fr0 w w') : holdT base w' v sp := by
  cases sp with
  | tr x => obtain ⟨t, h1, h2, h3, h4⟩ := h; exact ⟨t, h1, h2, h3.fr0 f, h4⟩
  | ls l => obtain ⟨s, ts, h1, h2, h3, h4⟩ := h; exact ⟨s, ts, h1, h2, h3.fr0 f, h4⟩
def dstT (i : Nat) : Nat := if i = 40 then 9 else 39 + i
/-- a tree in a variable -/
def VarT (base : Nat) (w : World) (E : Env) (t : Nat) (x : Rx) : Prop := ∃ (b : Nat) (u : Rt), E.get? t = some (.pointer (some (at0 b))) ∧ w.heap[b]? = some (.cells u.c.toArray ty_enthymemeref04_Regex (0, 0)) ∧ u.rx = x ∧ u.P w ∧ ∀ c ∈ u.fp, base ≤ c
theorem VarT.fr0 {base : Nat} {w w' : World} {E : Env} {t : Nat} {x : Rx} (h : VarT base w E t x) (f : Fr0 w w') : VarT base w' E t x := by
  obtain ⟨b, u, h1, h2, h3, h4, h5⟩ := h
  exact ⟨b, u, h1, (f.keep b (lt_of_heap h2) id).trans h2, h3, h4.fr0 f, h5⟩
theorem VarT.put {base : Nat} {w : World} {E : Env} {t d : Nat} {v : Value} {x : Rx} (h : VarT base w E t x) (hd : d ≠ t) : VarT base w (E.put (some d) v) t x := by
  obtain ⟨b, u, h1, h2⟩ := h
  exact ⟨b, u, by rw [get_put_ne hd]; exact h1, h2⟩
section
variable (w0 : World) (base : Nat) (kk : Int) (Xa Xb Xc Xs : Rx)
def specT : List SpT := [.tr Xa,
  .tr Xa,
  .tr Xb,
  .ls [Xa, Xb],
  .tr (.mk 3 0 0 [Xa, Xb]),
  .tr Xa,
  .tr Xb,
  .tr Xc,
  .ls [Xa, Xb, Xc],
  .tr (.mk 4 0 0 [Xa, Xb, Xc]),
  .tr Xs,
  .tr Xs,
  .tr Xb,
  .ls [Xs, Xb],
  .tr (.mk 3 0 0 [Xs, Xb]),
  .tr Xa,
  .tr Xb,
  .ls [Xa, Xb],
  .tr (.mk 3 0 0 [Xa, Xb]),
  .ls [(.mk 3 0 0 [Xa, Xb])],
  .tr (.mk 6 0 0 [(.mk 3 0 0 [Xa, Xb])]),
  .tr Xb,
  .tr Xa,
  .tr Xc,
  .ls [Xa, Xc],
  .tr (.mk 4 0 0 [Xa, Xc]),
  .ls [(.mk 4 0 0 [Xa, Xc])],
  .tr (.mk 7 0 0 [(.mk 4 0 0 [Xa, Xc])]),
  .ls [Xb, (.mk 7 0 0 [(.mk 4 0 0 [Xa, Xc])])],
  .tr (.mk 3 0 0 [Xb, (.mk 7 0 0 [(.mk 4 0 0 [Xa, Xc])])]),
  .tr Xb,
  .ls [Xb],
  .tr (.mk 6 0 0 [Xb]),
  .tr Xa,
  .tr everyX,
  .ls [Xa, everyX],
  .tr (.mk 3 0 0 [Xa, everyX]),
  .ls [(.mk 6 0 0 [Xb]), (.mk 3 0 0 [Xa, everyX])],
  .tr (.mk 5 0 0 [(.mk 6 0 0 [Xb]), (.mk 3 0 0 [Xa, everyX])]),
  .ls [Xa, (.mk 3 0 0 [Xa, Xb]), (.mk 4 0 0 [Xa, Xb, Xc]), Xs, (.mk 3 0 0 [Xs, Xb]), (.mk 6 0 0 [(.mk 3 0 0 [Xa, Xb])]), (.mk 3 0 0 [Xb, (.mk 7 0 0 [(.mk 4 0 0 [Xa, Xc])])]), (.mk 5 0 0 [(.mk 6 0 0 [Xb]), (.mk 3 0 0 [Xa, everyX])])],
  .ls [Xa, (.mk 3 0 0 [Xa, Xb]), (.mk 4 0 0 [Xa, Xb, Xc]), Xs, (.mk 3 0 0 [Xs, Xb]), (.mk 6 0 0 [(.mk 3 0 0 [Xa, Xb])]), (.mk 3 0 0 [Xb, (.mk 7 0 0 [(.mk 4 0 0 [Xa, Xc])])]), (.mk 5 0 0 [(.mk 6 0 0 [Xb]), (.mk 3 0 0 [Xa, everyX])])]]
structure JT (L : Nat → Bool) (E : Env) (w : World) : Prop where
  fr : Fr0 w0 w
  k : E.get? 3 = some (.i kk)
  a : VarT base w E 5 Xa
  b : VarT base w E 6 Xb
  c : VarT base w E 7 Xc
  s : VarT base w E 8 Xs
  all : ∀ (i : Nat) (sp : SpT), (specT Xa Xb Xc Xs)[i]? = some sp → L i = true → holdT base w (E.get? (dstT i)) sp
variable {w0 base kk Xa Xb Xc Xs}
theorem JT.step {L : Nat → Bool} {E : Env} {w w' : World} (J : JT w0 base kk Xa Xb Xc Xs L E w) (f : Fr0 w w') {i d : Nat} (hd : d = dstT i) {v : Value} {sp : SpT} (hs : (specT Xa Xb Xc Xs)[i]? = some sp) (h : holdT base w' (some v) sp) : JT w0 base kk Xa Xb Xc Xs (setB L i) (E.put (some d) v) w' := by
  have hn : 9 ≤ d := by rw [hd]; unfold dstT; split <;> omega
  refine ⟨J.fr.tr0 f, by rw [get_put_ne (by omega)]; exact J.k, (J.a.fr0 f).put (by omega), (J.b.fr0 f).put (by omega), (J.c.fr0 f).put (by omega), (J.s.fr0 f).put (by omega), fun j sq hq hL => ?_⟩
  by_cases hj : j = i
  · subst hj
    rw [hs] at hq; cases hq
    rw [← hd, get_put]
    exact h
  · have hne : d ≠ dstT j := by
      rw [hd]
      have h1 : i < 41 := (List.getElem?_eq_some_iff.1 hs).1
      have h2 : j < 41 := (List.getElem?_eq_some_iff.1 hq).1
      unfold dstT
      split <;> split <;> omega
    rw [get_put_ne hne]
    refine (J.all j sq hq ?_).fr0 f
    have : Nat.beq j i = false := by rw [← Bool.not_eq_true, Nat.beq_eq]; exact hj
    simpa [setB, this] using hL
/-! a slice of some trees -/
section
variable (hbase : base ≤ w0.heap.size)
include hbase
end
/-! a tree of a slice -/
end
end Go.Proofs.YtnpkhgljhcnpcaaGreatDoor
set_option maxRecDepth 100000
namespace Go.Proofs.YtnpkhgljhcnpcaaGreatDoor
open Go Go.W

end Go.Proofs.YtnpkhgljhcnpcaaGreatDoor
set_option maxRecDepth 100000
namespace Go.Proofs.YtnpkhgljhcnpcaaGreatDoor
open Go Go.W

end Go.Proofs.YtnpkhgljhcnpcaaGreatDoor

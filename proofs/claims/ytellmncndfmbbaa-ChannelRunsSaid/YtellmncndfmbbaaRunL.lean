/- ChannelRuns, the plain part: the reference's state, and that an end does the same. -/
import Derived.Test.YtellmncndfmbbaaC6
namespace Go.Proofs.Ytellmncndfmbbaa
open Go Go.W
namespace Run
abbrev Msg := List UInt8
structure RS where
  win : Int
  S : List Msg
  a : Nat
  d : Nat
  held : List (Int × Msg)
  ow : Bool
def RS.st (r : RS) : St := ⟨r.win, r.S.length, r.d, r.S.drop r.a, r.held, r.ow⟩
def RS.drain : Nat → RS → List Msg → RS × List Msg
  | 0, r, out => (r, out)
  | n + 1, r, out => match mgetB r.held ((r.d : Int) + 1) with
    | none => (r, out)
    | some b => RS.drain n { r with d := r.d + 1, held := r.held.eraseP fun p => p.1 == (r.d : Int) + 1 } (out ++ [b])
def RS.acked (r : RS) (ak : Int) : RS := { r with a := max r.a ak.toNat }
def RS.add (r : RS) (q : Int) (b : Msg) : RS := { r with held := r.held ++ [(q, b)] }
def RS.owe (r : RS) : RS := { r with ow := true }
def RS.recv (r : RS) (q ak : Int) (b : Msg) : RS × List Msg :=
  if validB q ak b = false ∨ (r.S.length : Int) < ak ∨ (r.d : Int) + 16 < q then (r, [])
  else if q = 0 then (r.acked ak, [])
  else if q ≤ r.d ∨ (mgetB r.held q).isSome then ((r.acked ak).owe, [])
  else RS.drain (r.held.length + 2) (((r.acked ak).owe).add q b) []
theorem drain_st : ∀ (n : Nat) (r : RS) (out : List Msg), Go.Proofs.Ytellmncndfmbbaa.drain n r.st out = ((RS.drain n r out).1.st, (RS.drain n r out).2)
  | 0, r, out => rfl
  | n + 1, r, out => by
    unfold Go.Proofs.Ytellmncndfmbbaa.drain RS.drain
    show (match mgetB r.held ((r.d : Int) + 1) with | none => (r.st, out) | some b => _) = _
    cases mgetB r.held ((r.d : Int) + 1) with
    | none => rfl
    | some b =>
      have := drain_st n { r with d := r.d + 1, held := r.held.eraseP fun p => p.1 == (r.d : Int) + 1 } (out ++ [b])
      simp only
      rw [← this]
      unfold RS.st
      congr 1
theorem len_erase {k : Int} : ∀ {held : List (Int × Msg)} {b : Msg}, mgetB held k = some b → (held.eraseP fun p => p.1 == k).length + 1 = held.length := fun {held b} h => by
  unfold mgetB at h
  cases e : held.find? fun p => p.1 == k with
  | none => rw [e] at h; simp at h
  | some p =>
    have h1 := List.mem_of_find?_eq_some e
    have h2 := List.find?_some e
    rw [List.length_eraseP_of_mem h1 h2]
    have := List.length_pos_of_mem h1
    omega
/-- what holds of every state -/
structure RS.Ok (r : RS) (i : Nat) : Prop where
  a : r.a ≤ r.S.length
  s : r.S.length ≤ i
  d : r.d + r.held.length ≤ i
  no : mgetB r.held ((r.d : Int) + 1) = none
  sb : ∀ m ∈ r.S, m.length ≤ 2
  hb : ∀ p ∈ r.held, p.2.length ≤ 2
  w0 : 1 ≤ r.win
  w1 : r.win ≤ 16
theorem RS.Ok.next {r : RS} {i : Nat} (h : r.Ok i) : r.Ok (i + 1) := ⟨h.a, by have := h.s; omega, by have := h.d; omega, h.no, h.sb, h.hb, h.w0, h.w1⟩
theorem RS.Ok.st {r : RS} {i : Nat} (h : r.Ok i) (hi : i ≤ 100) : r.st.Ok := by
  have h1 := h.s
  have h2 := h.d
  refine ok_of _ (by simp [RS.st]) (by simp [RS.st]; omega) (by simp [RS.st]) (by simp [RS.st]; omega) (by simp [RS.st]; omega) (by simp [RS.st]) (fun m hm => ?_) (fun p hp => ?_) h.w0 h.w1
  · have := h.sb m (List.mem_of_mem_drop hm); omega
  · have := h.hb p hp; omega
/-- all but the waiting messages -/
structure RS.Pre (r : RS) (i : Nat) : Prop where
  a : r.a ≤ r.S.length
  s : r.S.length ≤ i
  d : r.d + r.held.length ≤ i
  sb : ∀ m ∈ r.S, m.length ≤ 2
  hb : ∀ p ∈ r.held, p.2.length ≤ 2
  w0 : 1 ≤ r.win
  w1 : r.win ≤ 16
theorem drain_ok : ∀ (n : Nat) (r : RS) (out : List Msg) (i : Nat), r.held.length < n → r.Pre i → (∀ m ∈ out, m.length ≤ 2) → (RS.drain n r out).1.Ok i ∧ (∀ m ∈ (RS.drain n r out).2, m.length ≤ 2) ∧ (RS.drain n r out).2.length ≤ out.length + r.held.length
  | 0, r, out, i, hn, h, ho => by omega
  | n + 1, r, out, i, hn, h, ho => by
    unfold RS.drain
    cases e : mgetB r.held ((r.d : Int) + 1) with
    | none => exact ⟨⟨h.a, h.s, h.d, e, h.sb, h.hb, h.w0, h.w1⟩, ho, by simp⟩
    | some b =>
      have hl := len_erase e
      have hd := h.d
      have hbl : b.length ≤ 2 := by
        unfold mgetB at e
        cases e' : r.held.find? fun p => p.1 == (r.d : Int) + 1 with
        | none => rw [e'] at e; simp at e
        | some p => rw [e'] at e; simp at e; subst e; exact h.hb p (List.mem_of_find?_eq_some e')
      have := drain_ok n { r with d := r.d + 1, held := r.held.eraseP fun p => p.1 == (r.d : Int) + 1 } (out ++ [b]) i (by simp only; omega) ⟨h.a, h.s, by simp only; omega, h.sb, fun p hp => h.hb p (List.mem_of_mem_eraseP hp), h.w0, h.w1⟩ (fun m hm => by
        rcases List.mem_append.1 hm with g | g
        · exact ho m g
        · simp at g; subst g; exact hbl)
      refine ⟨this.1, this.2.1, ?_⟩
      refine Nat.le_trans this.2.2 ?_
      simp only [List.length_append, List.length_cons, List.length_nil]
      omega
theorem recv_st {r : RS} {i : Nat} (h : r.Ok i) (q ak : Int) (b : Msg) : inSt r.st q ak b = ((r.recv q ak b).1.st, (r.recv q ak b).2) := by
  unfold inSt RS.recv
  have e1 : ackOf r.st = r.a := by have := h.a; simp [ackOf, RS.st]; omega
  by_cases hc : validB q ak b = false ∨ (r.S.length : Int) < ak ∨ (r.d : Int) + 16 < q
  · rw [if_pos hc, if_pos (show validB q ak b = false ∨ r.st.sent < ak ∨ r.st.dlv + 16 < q from hc)]
  · have hc' : ¬ (validB q ak b = false ∨ r.st.sent < ak ∨ r.st.dlv + 16 < q) := hc
    rw [if_neg hc, if_neg hc']
    have hv : 0 ≤ ak := by
      have : validB q ak b = true := by
        cases e : validB q ak b with
        | true => rfl
        | false => exact absurd (.inl e) hc
      unfold validB at this
      simp at this
      omega
    have e2 : inAck r.st ak = (r.acked ak).st := by
      unfold inAck
      rw [e1]
      unfold RS.acked RS.st
      split
      · simp only [St.mk.injEq, true_and, and_true, List.drop_drop]
        congr 1; omega
      · simp only [St.mk.injEq, true_and, and_true]
        congr 1; omega
    rw [e2]
    by_cases hq : q = 0
    · rw [if_pos hq, if_pos hq]
    · rw [if_neg hq, if_neg hq]
      by_cases hd : q ≤ r.d ∨ (mgetB r.held q).isSome
      · rw [if_pos hd]
        have : inHold (r.acked ak).st q b = ((r.acked ak).owe).st := by
          unfold inHold
          rw [if_neg]
          · rfl
          · show ¬ ((mgetB r.held q).isNone = true ∧ (r.d : Int) < q)
            rcases hd with g | g
            · omega
            · intro hh; rw [Option.isSome_iff_exists] at g; obtain ⟨x, hx⟩ := g; rw [hx] at hh; simp at hh
        simp only [this]
        rw [drain_st]
        have hno : mgetB ((r.acked ak).owe).held ((((r.acked ak).owe).d : Int) + 1) = none := h.no
        rw [show ((r.acked ak).owe).st.held.length + 1 = r.held.length + 1 from rfl]
        unfold RS.drain
        rw [hno]
      · rw [if_neg hd]
        have : inHold (r.acked ak).st q b = (((r.acked ak).owe).add q b).st := by
          unfold inHold
          rw [if_pos]
          · rfl
          · show (mgetB r.held q).isNone = true ∧ (r.d : Int) < q
            refine ⟨?_, by omega⟩
            cases e : mgetB r.held q with
            | none => rfl
            | some x => exact absurd (.inr (by rw [e]; rfl)) hd
        simp only [this]
        rw [drain_st]
        have : (((r.acked ak).owe).add q b).st.held.length + 1 = r.held.length + 2 := by simp [RS.add, RS.st, RS.owe, RS.acked]
        rw [this]
theorem recv_ok {r : RS} {i : Nat} (h : r.Ok i) (q ak : Int) (b : Msg) (hb : b.length ≤ 2) : (r.recv q ak b).1.Ok (i + 1) ∧ (∀ m ∈ (r.recv q ak b).2, m.length ≤ 2) ∧ (r.recv q ak b).2.length ≤ i + 1 := by
  have hs := h.s
  have hd := h.d
  unfold RS.recv
  split
  · exact ⟨h.next, by simp, by simp⟩
  · rename_i hc
    have hA : max r.a ak.toNat ≤ r.S.length := by
      have h1 := h.a
      have : ¬ ((r.S.length : Int) < ak) := fun g => hc (.inr (.inl g))
      omega
    split
    · exact ⟨⟨hA, by simp [RS.acked]; omega, by simp [RS.acked]; omega, h.no, h.sb, h.hb, h.w0, h.w1⟩, by simp, by simp⟩
    · split
      · exact ⟨⟨hA, by simp [RS.acked, RS.owe]; omega, by simp [RS.acked, RS.owe]; omega, h.no, h.sb, h.hb, h.w0, h.w1⟩, by simp, by simp⟩
      · have := drain_ok (r.held.length + 2) (((r.acked ak).owe).add q b) [] (i + 1) (by simp [RS.add, RS.owe, RS.acked]) ⟨hA, by simp [RS.acked, RS.owe, RS.add]; omega, by simp [RS.acked, RS.owe, RS.add]; omega, h.sb, fun p hp => ?_, h.w0, h.w1⟩ (by simp)
        · refine ⟨this.1, this.2.1, ?_⟩
          refine Nat.le_trans this.2.2 ?_
          simp [RS.acked, RS.owe, RS.add]
          omega
        · simp only [RS.add, RS.owe, RS.acked] at hp
          rcases List.mem_append.1 hp with g | g
          · exact h.hb p g
          · simp at g; subst g; exact hb
def RS.push (r : RS) (b : Msg) : RS := { r with S := r.S ++ [b] }
theorem push_st {r : RS} {i : Nat} (h : r.Ok i) (b : Msg) : sendSt r.st b = (r.push b).st := by
  unfold sendSt RS.st RS.push
  simp only [St.mk.injEq, true_and, and_true]
  refine ⟨by simp, ?_⟩
  rw [List.drop_append_of_le_length h.a]
theorem push_ok {r : RS} {i : Nat} (h : r.Ok i) (b : Msg) (hb : b.length ≤ 2) : (r.push b).Ok (i + 1) := by
  have hs := h.s
  have hd := h.d
  have ha := h.a
  refine ⟨by simp [RS.push]; omega, by simp [RS.push]; omega, by simp [RS.push]; omega, h.no, fun m hm => ?_, h.hb, h.w0, h.w1⟩
  simp only [RS.push] at hm
  rcases List.mem_append.1 hm with g | g
  · exact h.sb m g
  · simp at g; subst g; exact hb
def RS.quiet (r : RS) : RS := { r with ow := false }
theorem quiet_ok {r : RS} {i : Nat} (h : r.Ok i) : r.quiet.Ok (i + 1) := ⟨h.a, by have := h.s; simp [RS.quiet]; omega, by have := h.d; simp [RS.quiet]; omega, h.no, h.sb, h.hb, h.w0, h.w1⟩
theorem out_len {r : RS} {i : Nat} (h : r.Ok i) : (outList r.st).length ≤ 16 ∧ ∀ p ∈ outList r.st, p.b.length ≤ 2 := by
  have hn : outN r.st ≤ 16 := by unfold outN; have := h.w1; simp only [RS.st]; omega
  unfold outList
  split
  · exact ⟨by simp, by simp⟩
  · refine ⟨by simpa using hn, fun p hp => ?_⟩
    obtain ⟨j, hj, rfl⟩ := List.mem_map.1 hp
    unfold outPk
    simp only [List.getD_eq_getElem?_getD]
    cases e : r.st.wait[j]? with
    | none => simp
    | some m =>
      simp only [Option.getD_some]
      exact h.sb m (List.mem_of_mem_drop (List.mem_of_getElem? e))
end Run
end Go.Proofs.Ytellmncndfmbbaa

/- Package channel: the contracts of Send and Out. -/
import Derived.Test.YtpfomlenbhocpaaC1
namespace Go.Proofs.Ytpfomlenbhocpaa.Ch
open Go Go.W

/-- what holds of every end -/
structure St.Ok (st : St) : Prop where
  s0 : 0 ≤ st.sent
  s1 : st.sent < 4611686018427387904
  d0 : 0 ≤ st.dlv
  d1 : st.dlv < 4611686018427387904
  wl : st.wait.length ≤ 1000
  ws : (st.wait.length : Int) ≤ st.sent
  wb : ∀ m ∈ st.wait, m.length ≤ 65536
  hb : ∀ p ∈ st.held, p.2.length ≤ 65536
  w0 : 1 ≤ st.win
  w1 : st.win ≤ 16
def sendSt (st : St) (b : List UInt8) : St := { st with wait := st.wait ++ [b], sent := st.sent + 1 }
def SendPost (w : World) (eb : Nat) (st : St) (own : List Nat) (b : List UInt8) : Post := fun r w' =>
  if 65536 < b.length ∨ 1000 ≤ st.wait.length then r = .returned (.int .i64 4) ∧ w = w'
  else ∃ own', r = .returned (.int .i64 0) ∧ EndRep w' eb (sendSt st b) own' ∧ Fr (· ∈ own) w w' ∧ ∀ x ∈ own', x ∈ own ∨ w.heap.size ≤ x

theorem send_any {w : World} {eb : Nat} {st : St} {own : List Nat} {s : Sl} {b : List UInt8} (h : EndRep w eb st own) (hb : Bytes w s b) (h0 : 0 ≤ st.sent) (h1 : st.sent < 4611686018427387904) :
    Calls Try.prog n_channel_End_Send #[.pointer (some (at0 eb)), s.v] w (SendPost w eb st own b) := by
  have hrep := h
  obtain ⟨ws, mb, wss, es, clock, hss, rfl, b1, b2, b3, b4, b5, b6⟩ := h
  have hn : ws.n = st.wait.length := by have := b2.len; simp at this; rw [← b3.length, this]
  refine channel_End_Send.ok _ _ w _ ?_
  unfold channel_End_Send.S0 channel_End_Send.S1 channel_End_Send.S2
  refine sel_intro (fun hl => ?_) (fun hl => ⟨ws, cellAt (p := at0 eb) b1 rfl rfl, sel_intro (fun hl2 => ?_) (fun hl2 => ?_)⟩)
  · unfold SendPost; rw [if_pos (.inl (by rw [← hb.1]; simp at hl; omega))]; exact ⟨rfl, rfl⟩
  · unfold SendPost; rw [if_pos (.inr (by rw [← hn]; simp at hl2; omega))]; exact ⟨rfl, rfl⟩
  · have hs : ¬ (65536 < b.length ∨ 1000 ≤ st.wait.length) := by rw [← hb.1, ← hn]; simp at hl hl2; omega
    have hew : eb ∉ blkL ws := fun h => by obtain ⟨cs, f, hc⟩ := b2.row.typ eb h; rw [b1] at hc; cases hc
    have hmw : mb ∉ blkL ws := fun h => by obtain ⟨cs, f, hc⟩ := b2.row.typ mb h; rw [b4] at hc; cases hc
    have hme : mb ≠ eb := fun h => by rw [h, b1] at b4; cases b4
    unfold channel_End_Send.S3
    refine ⟨ws, cellAt (p := at0 eb) b1 rfl rfl, (clone_bytes s b w.drew hb (by omega)).mono ?_⟩
    rintro r w1 ⟨s', rfl, hB, hf, hfb⟩
    have f1 : Fr0 w w1 := (Fr.drew _ w).trans hf fun _ _ h => h
    have c1 := f1.at b1 id
    refine ⟨s', rfl, cellAt (p := at0 eb) c1 rfl rfl, ?_⟩
    intro w2
    have f2 : Fr0 w1 w2 := Fr.alloc _ _ _
    have c2 := f2.at c1 id
    refine ⟨cellAt (p := at0 eb) c2 rfl rfl, ?_⟩
    have o2 : OwnRow w2 ty_sl_uint8 1 ws (wss.map Sl.v) := (b2.fr f1 (fun _ _ h => h)).fr f2 fun _ _ h => h
    obtain ⟨s2, w3, hrun, o3, hn3, f3, hbl3, _⟩ := append_own (ty := ty_sl_sl_uint8) el_msgs o2 (Row.one w1 ty_sl_uint8 [s'.v]) rfl (by simp [Value.oneCell']) (by simp; omega)
    have c3 := f3.at c2 hew
    have m3 := f3.at (f2.at (f1.at b4 id) id) hmw
    refine ⟨s2, w3, hrun, by rw [cellAt (p := at0 eb) c3 rfl rfl]; rfl, frozenAt (p := at0 eb) c3, ?_⟩
    intro w4
    have c4 : w4.heap[eb]? = _ := setAt (p := at0 eb) (i := 2) (v := s2.v) c3 rfl
    unfold channel_End_Send.S4 channel_End_Send.S5
    refine ⟨st.sent, cellAt (p := at0 eb) c4 rfl rfl, by rw [cellAt (p := at0 eb) (v := .int .i64 st.sent) c4 rfl rfl]; rfl, frozenAt (p := at0 eb) c4, ?_⟩
    intro w5
    have c5 : w5.heap[eb]? = _ := setAt (p := at0 eb) (i := 1) (v := .int .i64 (IntKind.wrap .i64 (st.sent + 1))) c4 rfl
    rw [show IntKind.wrap .i64 (st.sent + 1) = st.sent + 1 from IntWalk.i64_in _ (by omega)] at c5
    have f34 : Fr (· = eb) w3 w4 := Fr.set _ _ _ rfl
    have f45 : Fr (· = eb) w4 w5 := Fr.set _ _ _ rfl
    have f35 : Fr (· = eb) w3 w5 := f34.trans f45 fun _ _ h => h
    have F2 : Fr (· ∈ eb :: mb :: blkL ws) w2 w5 := (f3.mono (by intro x _ hx; simp [hx])).trans f35 (by intro x _ hx; simp [hx])
    have F1 : Fr (· ∈ eb :: mb :: blkL ws) w1 w5 := (f2.mono fun _ _ h => h.elim).trans F2 fun _ _ h => h
    have F : Fr (· ∈ eb :: mb :: blkL ws) w w5 := (f1.mono fun _ _ h => h.elim).trans F1 fun _ _ h => h
    have sz1 := f1.size
    have sz2 := f2.size
    have e5 : ∀ b ∈ blkL s2, b ≠ eb := fun b hb e => by
      rcases hbl3 b hb with h | h
      · exact hew (e ▸ h)
      · have := lt_of_heap c2; omega
    show SendPost w eb st _ b _ w5
    unfold SendPost; rw [if_neg hs]
    refine ⟨eb :: mb :: blkL s2, rfl, ⟨s2, mb, wss ++ [s'], es, clock, hss, rfl, c5, ?_, ?_, f35.at m3 hme, b5, ?_⟩, F, ?_⟩
    · have := o3.fr f35 e5
      simpa using this
    · exact (b3.mono fun a _ b _ h => h.fr F hrep.noBytes).append ⟨hB.fr F1 (hrep.fr0 f1).noBytes, trivial⟩
    · exact b6.mono fun a _ b _ h => ⟨h.1, h.2.fr F hrep.noBytes⟩
    · intro x hx
      simp only [List.mem_cons] at hx ⊢
      rcases hx with rfl | rfl | hx
      · exact .inl (.inl rfl)
      · exact .inl (.inr (.inl rfl))
      · rcases hbl3 x hx with h | h
        · exact .inl (.inr (.inr h))
        · exact .inr (by omega)

/-! ### Out -/
structure Pk where
  seq : Int
  ack : Int
  b : List UInt8
def pkCells (p : Int × Int × Sl) : List Value := [.int .i64 p.1, .int .i64 p.2.1, p.2.2.v]
def PkIs (w : World) (c : Int × Int × Sl) (p : Pk) : Prop := c.1 = p.seq ∧ c.2.1 = p.ack ∧ Bytes w c.2.2 p.b
/-- a slice of packets -/
def Pkts (w : World) (s : Sl) (l : List Pk) : Prop := ∃ cs : List (Int × Int × Sl), s.n = l.length ∧ Row w ty_channel_Packet s (cs.flatMap pkCells) ∧ All2 (PkIs w) cs l

def ackOf (st : St) : Int := st.sent - st.wait.length
def outPk (st : St) (i : Nat) : Pk := ⟨ackOf st + 1 + i, st.dlv, st.wait.getD i []⟩
def outN (st : St) : Nat := min st.win.toNat st.wait.length
def outList (st : St) : List Pk := if outN st = 0 ∧ st.owing = true then [⟨0, st.dlv, []⟩] else (List.range (outN st)).map (outPk st)
def OutPost (w : World) (eb : Nat) (st : St) (own : List Nat) : Post := fun r w' =>
  ∃ s : Sl, r = .returned s.v ∧ Pkts w' s (outList st) ∧ EndRep w' eb { st with owing := false } own ∧ Fr (· ∈ own) w w' ∧ ∀ b ∈ blkL s, w.heap.size ≤ b

theorem slice_a0 (a : Option Addr) (c k : Nat) : (if c = 0 then a else a.map (·.add (0 * k))) = a := by
  split
  · rfl
  · cases a <;> simp [Addr.add]

/-- the rounds of the loop -/
theorem out_loop {w0 : World} {eb : Nat} {st : St} {own : List Nat} {m : Nat} (hr0 : EndRep w0 eb st own) (ok : st.Ok) (hm : m ≤ st.wait.length) (t20 : Sl)
    (ht : ∃ wss : List Sl, Row w0 ty_sl_uint8 t20 (wss.map Sl.v) ∧ All2 (Bytes w0) wss st.wait) (htn : t20.n = m) (R : Post)
    (fin : ∀ (list : Sl) (w : World) (cs : List (Int × Int × Sl)), Fr0 w0 w → EndRep w eb st own → OwnRow w ty_channel_Packet 3 list (cs.flatMap pkCells) → All2 (PkIs w) cs ((List.range m).map (outPk st)) → (∀ b ∈ blkL list, w0.heap.size ≤ b) → list.n = m →
      channel_End_Out.S8 (at0 eb) list w R) :
    ∀ (k i : Nat), i + k = m → ∀ (list : Sl) (w : World) (cs : List (Int × Int × Sl)), Fr0 w0 w → EndRep w eb st own → OwnRow w ty_channel_Packet 3 list (cs.flatMap pkCells) → All2 (PkIs w) cs ((List.range i).map (outPk st)) → (∀ b ∈ blkL list, w0.heap.size ≤ b) → list.n = i →
      channel_End_Out.L3 (at0 eb) list t20 (m : Int) (i : Int) w R := by
  have h0 := ok.s0
  have h1 := ok.s1
  have hw := ok.wl
  have hw2 := ok.ws
  intro k
  induction k with
  | zero =>
    intro i hi list w cs hf hr ho ha hbl hn
    obtain rfl : i = m := by omega
    refine channel_End_Out.L3_step _ _ _ _ _ _ _ ?_
    unfold channel_End_Out.S4
    exact sel_false (by simp) (fin list w cs hf hr ho ha hbl hn)
  | succ k ih =>
    intro i hi list w cs hf hr ho ha hbl hn
    obtain ⟨wss, hrow, hall⟩ := ht
    have hil : i < wss.length := by rw [hall.length]; omega
    have hget : wss[i]? = some wss[i] := List.getElem?_eq_getElem hil
    obtain ⟨msg, hmsg, hmb⟩ := hall.get hget
    refine channel_End_Out.L3_step _ _ _ _ _ _ _ ?_
    unfold channel_End_Out.S4 channel_End_Out.S5
    refine sel_true (by simp; omega) ⟨by omega, by rw [htn]; omega, ?_⟩
    have hrow1 := hrow.fr hf fun _ _ h => h
    refine hrow1.optP (i := i) (v := (wss[i]).v) (by simp [hil]) fun p hp hcell => ⟨wss[i], ?_, ?_⟩
    · rw [show Int.toNat (i : Int) * 1 = i by simp]
      exact hcell i _ (by simp [hil])
    · unfold channel_End_Out.S6
      have hr' := hr
      obtain ⟨ws, mb, wss', es, clock, hss, rfl, b1, b2, b3, b4, b5, b6⟩ := hr'
      have fd : Fr0 w w.drew := Fr.drew _ w
      refine ⟨st.dlv, cellAt (p := at0 eb) b1 rfl rfl, (ack_any (hr.fr0 fd) h0 h1 (by omega)).mono ?_⟩
      rintro r w1 ⟨rfl, rfl⟩
      refine ⟨_, rfl, cellAt (p := at0 eb) b1 rfl rfl, (clone_bytes wss[i] msg w.drew.drew (hmb.fr0 ((hf.trans fd fun _ _ h => h).trans (Fr.drew _ _) fun _ _ h => h)) (by
        have := ok.wb msg (List.mem_of_getElem? hmsg)
        omega)).mono ?_⟩
      rintro r w2 ⟨s', rfl, hB, hf2, hfb⟩
      have f2 : Fr0 w w2 := (fd.trans (Fr.drew _ _) fun _ _ h => h).trans hf2 fun _ _ h => h
      have c2 := f2.at b1 id
      refine ⟨s', rfl, cellAt (p := at0 eb) c2 rfl rfl, ?_⟩
      intro w3
      have f3 : Fr0 w2 w3 := Fr.alloc _ _ _
      have f03 : Fr0 w w3 := f2.trans f3 fun _ _ h => h
      have e1 : IntKind.wrap .i64 (IntKind.wrap .i64 (st.sent - st.wait.length + 1) + (i : Int)) = ackOf st + 1 + i := by
        rw [show IntKind.wrap .i64 (st.sent - st.wait.length + 1) = st.sent - st.wait.length + 1 from IntWalk.i64_in _ (by omega)]
        exact IntWalk.i64_in _ (by omega)
      have hw3 : w3 = w2.alloc (.cells [.int .i64 (ackOf st + 1 + i), .int .i64 st.dlv, s'.v].toArray ty_channel_Packet) := by rw [← e1]
      have c3 := f3.at c2 id
      refine ⟨cellAt (p := at0 eb) c3 rfl rfl, ?_⟩
      have o3 := ho.fr f03 fun _ _ h => h
      obtain ⟨s2, w4, hrun, o4, hn4, f4, hbl4, _⟩ := append_own (ty := ty_sl_channel_Packet) el_packets o3 (by rw [hw3]; exact Row.one w2 ty_channel_Packet [.int .i64 (ackOf st + 1 + i), .int .i64 st.dlv, s'.v]) rfl (by simp [Value.oneCell']) (by simp; omega)
      have hebl : ∀ b ∈ blkL list, b < w.heap.size := ho.lt
      have sz03 := f03.size
      have hown : ∀ b ∈ eb :: mb :: blkL ws, b ∉ blkL list := fun b hb hl => by
        have h1 := hr0.lt b hb
        have h2 := hbl b hl
        omega
      have c4 := f4.at c3 (hown eb (by simp))
      refine ⟨s2, w4, hrun, cellAt (p := at0 eb) c4 rfl rfl, ?_⟩
      unfold channel_End_Out.S7
      rw [show IntKind.wrap .i64 ((i : Int) + 1) = ((i + 1 : Nat) : Int) from by rw [IntWalk.i64_in _ (by omega)]; omega]
      have hnb : ∀ b, b ∈ blkL list → ∀ cs f, w3.heap[b]? ≠ some (.cells cs ty_uint8 f) := fun b hb cs f hc => by
        obtain ⟨cs', f', hc'⟩ := o3.row.typ b hb
        rw [hc'] at hc; cases hc
      have r4 := (hr.fr0 f03).fr f4 (fun b hb => hown b hb) hnb
      have F04 : Fr0 w0 w4 := by
        refine (hf.trans f03 fun _ _ h => h).trans f4 fun x hx hm => ?_
        have := hbl x hm
        omega
      refine ih (i + 1) (by omega) s2 w4 (cs ++ [(ackOf st + 1 + i, st.dlv, s')]) F04 r4 (by simpa [pkCells] using o4) ?_ ?_ (by simpa [hn] using hn4)
      · rw [List.range_succ, List.map_append]
        refine (ha.mono fun a _ b _ h => ⟨h.1, h.2.1, (h.2.2.fr0 f03).fr f4 hnb⟩).append ⟨⟨rfl, rfl, ?_⟩, trivial⟩
        have : (outPk st i).b = msg := by simp [outPk, List.getD, hmsg]
        rw [this]
        exact (hB.fr0 f3).fr f4 hnb
      · intro b hb
        rcases hbl4 b hb with h | h
        · exact hbl b h
        · have := hf.size; omega

/-- **Out.** -/
theorem out_any {w : World} {eb : Nat} {st : St} {own : List Nat} (h : EndRep w eb st own) (ok : st.Ok) :
    Calls Try.prog n_channel_End_Out #[.pointer (some (at0 eb))] w (OutPost w eb st own) := by
  have hr := h
  obtain ⟨ws, mb, wss, es, clock, hss, rfl, b1, b2, b3, b4, b5, b6⟩ := h
  have hn : ws.n = st.wait.length := by have := b2.len; simp at this; rw [← b3.length, this]
  have hw := ok.wl
  have hw0 := ok.w0
  have hw1 := ok.w1
  refine channel_End_Out.ok _ w _ ?_
  unfold channel_End_Out.S0 channel_End_Out.S1 channel_End_Out.S2
  refine ⟨ws, cellAt (p := at0 eb) b1 rfl rfl, st.win, cellAt (p := at0 eb) (i := 0) b1 rfl rfl, ws, cellAt (p := at0 eb) b1 rfl rfl, ?_⟩
  have hmin : (if ((ws.n : Nat) : Int) < st.win then ((ws.n : Nat) : Int) else st.win) = ((outN st : Nat) : Int) := by
    unfold outN; rw [hn]; split <;> omega
  have hnc : ws.n ≤ ws.c := by
    rcases b2.cases with ⟨rfl, _⟩ | ⟨g, cur, _, _, hnc, _⟩
    · simp
    · exact hnc
  have hoN : outN st ≤ st.wait.length := Nat.min_le_right _ _
  rw [hmin]
  refine ⟨by omega, by omega, ?_⟩
  rw [slice_a0]
  simp only [Int.toNat_natCast, Nat.sub_zero]
  have fd : Fr0 w w.drew := Fr.drew _ w
  have h10 : ∀ (list : Sl) (w1 : World) (l : List Pk), Fr0 w w1 → EndRep w1 eb st (eb :: mb :: blkL ws) → Pkts w1 list l → (∀ b ∈ blkL list, w.heap.size ≤ b) → l = outList st → channel_End_Out.S10 (at0 eb) list w1 (OutPost w eb st (eb :: mb :: blkL ws)) := by
    intro list w1 l hf hr1 hp hbl hl
    have hr1' := hr1
    obtain ⟨ws1, mb1, wss1, es1, clock1, hss1, ho1, b1', b2', b3', b4', b5', b6'⟩ := hr1'
    unfold channel_End_Out.S10 channel_End_Out.S11
    refine ⟨by rw [cellAt (p := at0 eb) b1' rfl rfl]; rfl, frozenAt (p := at0 eb) b1', ?_⟩
    intro w2
    have c2 : w2.heap[eb]? = _ := setAt (p := at0 eb) (i := 5) (v := .bool false) b1' rfl
    have f2 : Fr (· = eb) w1 w2 := Fr.set _ _ _ rfl
    have hew : ∀ b ∈ blkL ws1, b ≠ eb := fun b h e => by obtain ⟨cs, f, hc⟩ := b2'.row.typ b h; rw [e, b1'] at hc; cases hc
    have hme : mb1 ≠ eb := fun h => by rw [h, b1'] at b4'; cases b4'
    have nb : ∀ b, b = eb → ∀ cs f, w1.heap[b]? ≠ some (.cells cs ty_uint8 f) := fun b e cs f hc => by rw [e, b1'] at hc; cases hc
    obtain ⟨cs, hpn, hpr, hpa⟩ := hp
    refine ⟨list, rfl, ⟨cs, by rw [hpn, hl], hpr.fr f2 ?_, hl ▸ hpa.mono fun a _ b _ h => ⟨h.1, h.2.1, h.2.2.fr f2 nb⟩⟩, ⟨ws1, mb1, wss1, es1, clock1, hss1, ho1, c2, b2'.fr f2 hew, b3'.mono fun a _ b _ h => h.fr f2 nb, f2.at b4' hme, b5', b6'.mono fun a _ b _ h => ⟨h.1, h.2.fr f2 nb⟩⟩, (hf.mono fun _ _ h => h.elim).trans f2 (by intro x _ e; simp [e]), hbl⟩
    intro b hb e
    have := hbl b hb
    have := hr.lt eb (by simp)
    omega
  refine out_loop (w0 := w.drew) (eb := eb) (st := st) (own := eb :: mb :: blkL ws) (m := outN st) (hr.fr0 fd) ok hoN _ ⟨wss, ?_, b3.mono fun a _ b _ h => h.fr0 fd⟩ rfl _ ?_ (outN st) 0 (by omega) ⟨none, 0, 0⟩ w.drew [] (Fr.refl _ _) (hr.fr0 fd) (OwnRow.nil _ _ _) trivial (by simp [blkL]) rfl
  · rcases b2.row with ⟨ha, hn0, hc0, hv⟩ | ⟨b, o, cs, f, ha, hb, hc⟩
    · refine .inl ⟨ha, ?_, hc0, hv⟩
      show outN st = 0
      omega
    · exact .inr ⟨b, o, cs, f, ha, hb, hc⟩
  · intro list w1 cs hf hr1 ho ha hbl hln
    have hf0 : Fr0 w w1 := fd.trans hf fun _ _ h => h
    unfold channel_End_Out.S8
    have hp : Pkts w1 list ((List.range (outN st)).map (outPk st)) := ⟨cs, by simp [hln], ho.row, ha⟩
    refine sel_intro (fun hz => ?_) (fun hz => ?_)
    · have hz0 : outN st = 0 := by rw [hln] at hz; simp at hz; omega
      have hr1' := hr1
      obtain ⟨ws1, mb1, wss1, es1, clock1, hss1, ho1, b1', b2', b3', b4', b5', b6'⟩ := hr1'
      refine ⟨st.owing, cellAt (p := at0 eb) b1' rfl rfl, sel_intro (fun ho => ?_) (fun ho => ?_)⟩
      · unfold channel_End_Out.S9
        refine ⟨st.dlv, cellAt (p := at0 eb) b1' rfl rfl, ?_⟩
        intro w2
        have f2 : Fr0 w1 w2 := Fr.alloc _ _ _
        refine h10 _ w2 [⟨0, st.dlv, []⟩] (hf0.trans f2 fun _ _ h => h) (hr1.fr0 f2) ⟨[(0, st.dlv, ⟨none, 0, 0⟩)], rfl, Row.one w1 ty_channel_Packet [.int .i64 0, .int .i64 st.dlv, .slice none 0 0], ⟨rfl, rfl, Bytes.nil _⟩, trivial⟩ ?_ ?_
        · intro b hb
          simp [blkL] at hb
          have := hf0.size
          omega
        · unfold outList; rw [if_pos ⟨hz0, ho⟩]
      · exact h10 list w1 _ hf0 hr1 hp hbl (by unfold outList; rw [if_neg (by simp [ho])])
    · have hz0 : outN st ≠ 0 := by intro h; rw [hln, h] at hz; simp at hz
      exact h10 list w1 _ hf0 hr1 hp hbl (by unfold outList; rw [if_neg (by simp [hz0])])
end Go.Proofs.Ytpfomlenbhocpaa.Ch

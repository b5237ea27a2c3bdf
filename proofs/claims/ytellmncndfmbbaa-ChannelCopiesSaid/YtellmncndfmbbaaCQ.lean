/- Ends whose messages lie in known blocks: Send, Out with packets of their own, Copy. -/
import Derived.Test.YtellmncndfmbbaaC6
import Derived.Test.YtellmncndfmbbaaVY
namespace Go.Proofs.Ytellmncndfmbbaa
open Go Go.W

/-- slices.Clone of bytes: the row is the caller's own -/
def CloneO (w : World) (bs : List UInt8) : Post := fun r w' => ∃ s : Sl, r = .returned s.v ∧ s.n = bs.length ∧ OwnRow w' ty_uint8 1 s (bs.map byteV) ∧ Fr0 w w' ∧ ∀ b ∈ blkL s, w.heap.size ≤ b
theorem cloneO_bytes (s : Sl) (bs : List UInt8) (w : World) (hb : Bytes w s bs) (hl : bs.length ≤ 140737488355328) : Calls Try.prog n_slices_Clone_sl_byte_byte #[s.v] w (CloneO w bs) := by
  refine slices_Clone_sl_byte_byte.ok s w _ ?_
  unfold slices_Clone_sl_byte_byte.S0 slices_Clone_sl_byte_byte.S1
  refine sel_intro (fun h => ?_) (fun h => ?_)
  · unfold slices_Clone_sl_byte_byte.S2
    have hn : bs = [] := by
      rcases hb.2 with ⟨_, hn, _⟩ | ⟨b, o, cs, f, ha, _⟩
      · exact List.eq_nil_of_length_eq_zero (by rw [← hb.1, hn])
      · rw [ha] at h; cases h
    subst hn
    exact ⟨⟨none, 0, 0⟩, rfl, rfl, OwnRow.nil _ _ _, Fr.refl _ _, by simp [blkL]⟩
  · unfold slices_Clone_sl_byte_byte.S3
    intro w1
    have ho : OwnRow w1 ty_uint8 1 ⟨some ⟨w.heap.size, 0, none⟩, 0, 0⟩ [] := OwnRow.made w ty_uint8 1 0 [] rfl (by simp [maxLen])
    have hb1 : Bytes w1 s bs := hb.fr0 (Fr.alloc _ _ _)
    obtain ⟨s', w2, hrun, hown, hn, hfr, hbl, _⟩ := append_own el_bytes ho hb1.2 (by simp [hb.1]) (byteV_one bs) (by simp [hb.1]; omega)
    refine ⟨s', w2, hrun, s', rfl, by simpa [hb.1] using hn, hown, ?_, ?_⟩
    · refine (Fr.alloc (fun _ => False) w _).trans hfr fun x hx hm => ?_
      simp [blkL] at hm
      omega
    · intro b hb'
      rcases hbl b hb' with h | h
      · simp [blkL] at h; omega
      · have : w1.heap.size = w.heap.size + 1 := size_alloc _ _
        omega

def BytesQ (Q : Nat → Prop) (w : World) (s : Sl) (bs : List UInt8) : Prop := Bytes w s bs ∧ ∀ b ∈ blkL s, Q b
theorem BytesQ.fr {Q : Nat → Prop} {M : Nat → Prop} {w w' : World} {s : Sl} {bs : List UInt8} (h : BytesQ Q w s bs) (hf : Fr M w w') (hn : ∀ b, M b → ∀ cs f, w.heap[b]? ≠ some (.cells cs ty_uint8 f)) : BytesQ Q w' s bs := ⟨h.1.fr hf hn, h.2⟩
theorem BytesQ.fr0 {Q : Nat → Prop} {w w' : World} {s : Sl} {bs : List UInt8} (h : BytesQ Q w s bs) (hf : Fr0 w w') : BytesQ Q w' s bs := ⟨h.1.fr0 hf, h.2⟩
structure EndQ (Q : Nat → Prop) (w : World) (eb : Nat) (st : St) (own : List Nat) : Prop where
  ex : ∃ (ws : Sl) (mb : Nat) (wss : List Sl) (es : Array MapEntry) (clock : Nat) (hss : List (Int × Sl)),
    own = eb :: mb :: blkL ws ∧
    w.heap[eb]? = some (.cells #[.int .i64 st.win, .int .i64 st.sent, ws.v, .int .i64 st.dlv, .map (some mb), .bool st.owing] ty_channel_End (0, 0)) ∧
    OwnRow w ty_sl_uint8 1 ws (wss.map Sl.v) ∧ All2 (BytesQ Q w) wss st.wait ∧
    w.heap[mb]? = some (.map es clock) ∧ MapIs .i64 es (hss.map fun p => (p.1, p.2.v)) ∧ All2 (fun (p : Int × Sl) (q : Int × List UInt8) => p.1 = q.1 ∧ BytesQ Q w p.2 q.2) hss st.held
theorem EndQ.weak {Q : Nat → Prop} {w : World} {eb : Nat} {st : St} {own : List Nat} (h : EndQ Q w eb st own) : EndRep w eb st own := by
  obtain ⟨ws, mb, wss, es, clock, hss, h0, h1, h2, h3, h4, h5, h6⟩ := h
  exact ⟨ws, mb, wss, es, clock, hss, h0, h1, h2, h3.mono fun a _ b _ h => h.1, h4, h5, h6.mono fun a _ b _ h => ⟨h.1, h.2.1⟩⟩
theorem EndQ.lt {Q : Nat → Prop} {w : World} {eb : Nat} {st : St} {own : List Nat} (h : EndQ Q w eb st own) : ∀ b ∈ own, b < w.heap.size := h.weak.lt
theorem EndQ.noBytes {Q : Nat → Prop} {w : World} {eb : Nat} {st : St} {own : List Nat} (h : EndQ Q w eb st own) : ∀ b ∈ own, ∀ cs f, w.heap[b]? ≠ some (.cells cs ty_uint8 f) := h.weak.noBytes
theorem EndQ.fr {Q : Nat → Prop} {M : Nat → Prop} {w w' : World} {eb : Nat} {st : St} {own : List Nat} (h : EndQ Q w eb st own) (hf : Fr M w w') (hn : ∀ b ∈ own, ¬ M b) (hb : ∀ b, M b → ∀ cs f, w.heap[b]? ≠ some (.cells cs ty_uint8 f)) : EndQ Q w' eb st own := by
  obtain ⟨ws, mb, wss, es, clock, hss, rfl, h1, h2, h3, h4, h5, h6⟩ := h
  refine ⟨ws, mb, wss, es, clock, hss, rfl, hf.at h1 (hn _ (by simp)), h2.fr hf (fun b hb => hn b (by simp [hb])), h3.mono fun a _ b _ h => h.fr hf hb, hf.at h4 (hn _ (by simp)), h5, h6.mono fun a _ b _ h => ⟨h.1, h.2.fr hf hb⟩⟩
theorem EndQ.fr0 {Q : Nat → Prop} {w w' : World} {eb : Nat} {st : St} {own : List Nat} (h : EndQ Q w eb st own) (hf : Fr0 w w') : EndQ Q w' eb st own := h.fr hf (fun _ _ h => h) fun _ h => h.elim
/-- a change of bytes elsewhere -/
theorem EndQ.frQ {Q : Nat → Prop} {M : Nat → Prop} {w w' : World} {eb : Nat} {st : St} {own : List Nat} (h : EndQ Q w eb st own) (hf : Fr M w w') (hn : ∀ b ∈ own, ¬ M b) (hb : ∀ b, M b → ¬ Q b) : EndQ Q w' eb st own := by
  obtain ⟨ws, mb, wss, es, clock, hss, rfl, h1, h2, h3, h4, h5, h6⟩ := h
  have key : ∀ s bs, BytesQ Q w s bs → BytesQ Q w' s bs := fun s bs h => ⟨⟨h.1.1, h.1.2.fr hf fun b hbb hm => hb b hm (h.2 b hbb)⟩, h.2⟩
  exact ⟨ws, mb, wss, es, clock, hss, rfl, hf.at h1 (hn _ (by simp)), h2.fr hf (fun b hb => hn b (by simp [hb])), h3.mono fun a _ b _ h => key _ _ h, hf.at h4 (hn _ (by simp)), h5, h6.mono fun a _ b _ h => ⟨h.1, key _ _ h.2⟩⟩
theorem EndQ.mono {Q Q' : Nat → Prop} {w : World} {eb : Nat} {st : St} {own : List Nat} (h : EndQ Q w eb st own) (hq : ∀ b, Q b → Q' b) : EndQ Q' w eb st own := by
  obtain ⟨ws, mb, wss, es, clock, hss, h0, h1, h2, h3, h4, h5, h6⟩ := h
  exact ⟨ws, mb, wss, es, clock, hss, h0, h1, h2, h3.mono fun a _ b _ h => ⟨h.1, fun x hx => hq x (h.2 x hx)⟩, h4, h5, h6.mono fun a _ b _ h => ⟨h.1, h.2.1, fun x hx => hq x (h.2.2 x hx)⟩⟩
theorem EndRep.q {w : World} {eb : Nat} {st : St} {own : List Nat} (h : EndRep w eb st own) : EndQ (· < w.heap.size) w eb st own := by
  obtain ⟨ws, mb, wss, es, clock, hss, h0, h1, h2, h3, h4, h5, h6⟩ := h
  exact ⟨ws, mb, wss, es, clock, hss, h0, h1, h2, h3.mono fun a _ b _ h => ⟨h, h.2.lt⟩, h4, h5, h6.mono fun a _ b _ h => ⟨h.1, h.2, h.2.2.lt⟩⟩
theorem EndRep.q0 {w : World} {eb : Nat} {st : St} {own : List Nat} (h : EndRep w eb st own) (e1 : st.wait = []) (e2 : st.held = []) (Q : Nat → Prop) : EndQ Q w eb st own := by
  obtain ⟨ws, mb, wss, es, clock, hss, h0, h1, h2, h3, h4, h5, h6⟩ := h
  rw [e1] at h3
  rw [e2] at h6
  have l1 : wss = [] := List.eq_nil_of_length_eq_zero h3.length
  have l2 : hss = [] := List.eq_nil_of_length_eq_zero h6.length
  subst l1 l2
  exact ⟨ws, mb, [], es, clock, [], h0, h1, h2, by rw [e1]; trivial, h4, h5, by rw [e2]; trivial⟩

def SendQ (Q : Nat → Prop) (w : World) (eb : Nat) (st : St) (own : List Nat) (b : List UInt8) : Post := fun r w' =>
  if 65536 < b.length ∨ 1000 ≤ st.wait.length then r = .returned (.int .i64 4) ∧ w = w'
  else ∃ own', r = .returned (.int .i64 0) ∧ EndQ Q w' eb (sendSt st b) own' ∧ Fr (· ∈ own) w w' ∧ ∀ x ∈ own', x ∈ own ∨ w.heap.size ≤ x

theorem sendQ_any {Q : Nat → Prop} {w : World} {eb : Nat} {st : St} {own : List Nat} {s : Sl} {b : List UInt8} (h : EndQ Q w eb st own) (hb : Bytes w s b) (h0 : 0 ≤ st.sent) (h1 : st.sent < 4611686018427387904) (hQ : ∀ x, w.heap.size ≤ x → Q x) :
    Calls Try.prog n_channel_End_Send #[.pointer (some (at0 eb)), s.v] w (SendQ Q w eb st own b) := by
  have hrep := h
  obtain ⟨ws, mb, wss, es, clock, hss, rfl, b1, b2, b3, b4, b5, b6⟩ := h
  have hn : ws.n = st.wait.length := by have := b2.len; simp at this; rw [← b3.length, this]
  refine channel_End_Send.ok _ _ w _ ?_
  unfold channel_End_Send.S0 channel_End_Send.S1 channel_End_Send.S2
  refine sel_intro (fun hl => ?_) (fun hl => ⟨ws, cellAt (p := at0 eb) b1 rfl rfl, sel_intro (fun hl2 => ?_) (fun hl2 => ?_)⟩)
  · unfold SendQ; rw [if_pos (.inl (by rw [← hb.1]; simp at hl; omega))]; exact ⟨rfl, rfl⟩
  · unfold SendQ; rw [if_pos (.inr (by rw [← hn]; simp at hl2; omega))]; exact ⟨rfl, rfl⟩
  · have hs : ¬ (65536 < b.length ∨ 1000 ≤ st.wait.length) := by rw [← hb.1, ← hn]; simp at hl hl2; omega
    have hew : eb ∉ blkL ws := fun h => by obtain ⟨cs, f, hc⟩ := b2.row.typ eb h; rw [b1] at hc; cases hc
    have hmw : mb ∉ blkL ws := fun h => by obtain ⟨cs, f, hc⟩ := b2.row.typ mb h; rw [b4] at hc; cases hc
    have hme : mb ≠ eb := fun h => by rw [h, b1] at b4; cases b4
    unfold channel_End_Send.S3
    refine ⟨ws, cellAt (p := at0 eb) b1 rfl rfl, (clone_bytes s b w.drew hb (by omega)).mono ?_⟩
    rintro r w1 ⟨s', rfl, hB, hf, hfb⟩
    have f1 : Fr0 w w1 := (Fr.drew _ w).trans hf fun _ _ h => h
    have c1 := f1.at b1 id
    refine ⟨s', rfl, cellAt (p := at0 eb) c1 rfl rfl, ?_⟩
    intro w2
    have f2 : Fr0 w1 w2 := Fr.alloc _ _ _
    have c2 := f2.at c1 id
    refine ⟨cellAt (p := at0 eb) c2 rfl rfl, ?_⟩
    have o2 : OwnRow w2 ty_sl_uint8 1 ws (wss.map Sl.v) := (b2.fr f1 (fun _ _ h => h)).fr f2 fun _ _ h => h
    obtain ⟨s2, w3, hrun, o3, hn3, f3, hbl3, _⟩ := append_own (ty := ty_sl_sl_uint8) el_msgs o2 (Row.one w1 ty_sl_uint8 [s'.v]) rfl (by simp [Value.oneCell']) (by simp; omega)
    have c3 := f3.at c2 hew
    have m3 := f3.at (f2.at (f1.at b4 id) id) hmw
    refine ⟨s2, w3, hrun, by rw [cellAt (p := at0 eb) c3 rfl rfl]; rfl, frozenAt (p := at0 eb) c3, ?_⟩
    intro w4
    have c4 : w4.heap[eb]? = _ := setAt (p := at0 eb) (i := 2) (v := s2.v) c3 rfl
    unfold channel_End_Send.S4 channel_End_Send.S5
    refine ⟨st.sent, cellAt (p := at0 eb) c4 rfl rfl, by rw [cellAt (p := at0 eb) (v := .int .i64 st.sent) c4 rfl rfl]; rfl, frozenAt (p := at0 eb) c4, ?_⟩
    intro w5
    have c5 : w5.heap[eb]? = _ := setAt (p := at0 eb) (i := 1) (v := .int .i64 (IntKind.wrap .i64 (st.sent + 1))) c4 rfl
    rw [show IntKind.wrap .i64 (st.sent + 1) = st.sent + 1 from IntWalk.i64_in _ (by omega)] at c5
    have f34 : Fr (· = eb) w3 w4 := Fr.set _ _ _ rfl
    have f45 : Fr (· = eb) w4 w5 := Fr.set _ _ _ rfl
    have f35 : Fr (· = eb) w3 w5 := f34.trans f45 fun _ _ h => h
    have F2 : Fr (· ∈ eb :: mb :: blkL ws) w2 w5 := (f3.mono (by intro x _ hx; simp [hx])).trans f35 (by intro x _ hx; simp [hx])
    have F1 : Fr (· ∈ eb :: mb :: blkL ws) w1 w5 := (f2.mono fun _ _ h => h.elim).trans F2 fun _ _ h => h
    have F : Fr (· ∈ eb :: mb :: blkL ws) w w5 := (f1.mono fun _ _ h => h.elim).trans F1 fun _ _ h => h
    have sz1 := f1.size
    have sz2 := f2.size
    have e5 : ∀ b ∈ blkL s2, b ≠ eb := fun b hb e => by
      rcases hbl3 b hb with h | h
      · exact hew (e ▸ h)
      · have := lt_of_heap c2; omega
    show SendQ Q w eb st _ b _ w5
    unfold SendQ; rw [if_neg hs]
    refine ⟨eb :: mb :: blkL s2, rfl, ⟨s2, mb, wss ++ [s'], es, clock, hss, rfl, c5, ?_, ?_, f35.at m3 hme, b5, ?_⟩, F, ?_⟩
    · have := o3.fr f35 e5
      simpa using this
    · exact (b3.mono fun a _ b _ h => h.fr F hrep.noBytes).append ⟨⟨hB.fr F1 (hrep.fr0 f1).noBytes, fun x hx => hQ x (hfb x hx)⟩, trivial⟩
    · exact b6.mono fun a _ b _ h => ⟨h.1, h.2.fr F hrep.noBytes⟩
    · intro x hx
      simp only [List.mem_cons] at hx ⊢
      rcases hx with rfl | rfl | hx
      · exact .inl (.inl rfl)
      · exact .inl (.inr (.inl rfl))
      · rcases hbl3 x hx with h | h
        · exact .inl (.inr (.inr h))
        · exact .inr (by omega)

/-! ### Out -/
def PkOwn (w : World) (c : Int × Int × Sl) (p : Pk) : Prop := c.1 = p.seq ∧ c.2.1 = p.ack ∧ c.2.2.n = p.b.length ∧ OwnRow w ty_uint8 1 c.2.2 (p.b.map byteV)
structure PkA (w0 w : World) (cs : List (Int × Int × Sl)) (l : List Pk) : Prop where
  all : All2 (PkOwn w) cs l
  new : ∀ c ∈ cs, ∀ b ∈ blkL c.2.2, w0.heap.size ≤ b
  dis : cs.Pairwise fun c c' => ∀ b ∈ blkL c.2.2, b ∉ blkL c'.2.2
theorem PkA.fr {w0 w w' : World} {cs : List (Int × Int × Sl)} {l : List Pk} {M : Nat → Prop} (h : PkA w0 w cs l) (f : Fr M w w') (hM : ∀ c ∈ cs, ∀ b ∈ blkL c.2.2, ¬ M b) : PkA w0 w' cs l :=
  ⟨h.all.mono fun c hc _ _ g => ⟨g.1, g.2.1, g.2.2.1, g.2.2.2.fr f (hM c hc)⟩, h.new, h.dis⟩
theorem PkA.typ {w0 w : World} {cs : List (Int × Int × Sl)} {l : List Pk} (h : PkA w0 w cs l) : ∀ c ∈ cs, ∀ b ∈ blkL c.2.2, ∃ cs' f, w.heap[b]? = some (.cells cs' ty_uint8 f) := fun c hc b hb => by
  obtain ⟨i, hi⟩ := List.mem_iff_getElem?.1 hc
  obtain ⟨p, _, hp⟩ := h.all.get hi
  exact hp.2.2.2.row.typ b hb
theorem PkA.push {w0 w w' : World} {cs : List (Int × Int × Sl)} {l : List Pk} {M : Nat → Prop} {c : Int × Int × Sl} {p : Pk} (h : PkA w0 w cs l) (f : Fr M w w') (hM : ∀ b, M b → ∀ cs f, w.heap[b]? ≠ some (.cells cs ty_uint8 f)) (hs : w0.heap.size ≤ w.heap.size) (ho : PkOwn w' c p) (hn : ∀ b ∈ blkL c.2.2, w.heap.size ≤ b) : PkA w0 w' (cs ++ [c]) (l ++ [p]) := by
  have h' := h.fr f fun c hc b hb hm => by
    obtain ⟨cs', g, hg⟩ := h.typ c hc b hb
    exact hM b hm _ _ hg
  refine ⟨h'.all.append ⟨ho, trivial⟩, fun c' hc' b hb => ?_, ?_⟩
  · rcases List.mem_append.1 hc' with g | g
    · exact h.new c' g b hb
    · simp at g; subst g; have := hn b hb; omega
  · rw [List.pairwise_append]
    refine ⟨h.dis, by simp, fun x hx y hy b hb hm => ?_⟩
    simp at hy
    subst hy
    obtain ⟨cs', g, hg⟩ := h.typ x hx b hb
    have := lt_of_heap hg
    have := hn b hm
    omega
def PktsA (w0 w : World) (s : Sl) (l : List Pk) : Prop := ∃ cs : List (Int × Int × Sl), s.n = l.length ∧ Row w ty_channel_Packet s (cs.flatMap pkCells) ∧ PkA w0 w cs l
def OutQ (Q : Nat → Prop) (w : World) (eb : Nat) (st : St) (own : List Nat) : Post := fun r w' =>
  ∃ s : Sl, r = .returned s.v ∧ PktsA w w' s (outList st) ∧ EndQ Q w' eb { st with owing := false } own ∧ Fr (· ∈ own) w w' ∧ ∀ b ∈ blkL s, w.heap.size ≤ b

/-- the rounds of the loop -/
theorem outQ_loop {Q : Nat → Prop} {w0 : World} {eb : Nat} {st : St} {own : List Nat} {m : Nat} (hr0 : EndQ Q w0 eb st own) (ok : st.Ok) (hm : m ≤ st.wait.length) (t20 : Sl)
    (ht : ∃ wss : List Sl, Row w0 ty_sl_uint8 t20 (wss.map Sl.v) ∧ All2 (BytesQ Q w0) wss st.wait) (htn : t20.n = m) (R : Post)
    (fin : ∀ (list : Sl) (w : World) (cs : List (Int × Int × Sl)), Fr0 w0 w → EndQ Q w eb st own → OwnRow w ty_channel_Packet 3 list (cs.flatMap pkCells) → PkA w0 w cs ((List.range m).map (outPk st)) → (∀ b ∈ blkL list, w0.heap.size ≤ b) → list.n = m →
      channel_End_Out.S8 (at0 eb) list w R) :
    ∀ (k i : Nat), i + k = m → ∀ (list : Sl) (w : World) (cs : List (Int × Int × Sl)), Fr0 w0 w → EndQ Q w eb st own → OwnRow w ty_channel_Packet 3 list (cs.flatMap pkCells) → PkA w0 w cs ((List.range i).map (outPk st)) → (∀ b ∈ blkL list, w0.heap.size ≤ b) → list.n = i →
      channel_End_Out.L3 (at0 eb) list t20 (m : Int) (i : Int) w R := by
  have h0 := ok.s0
  have h1 := ok.s1
  have hw := ok.wl
  have hw2 := ok.ws
  intro k
  induction k with
  | zero =>
    intro i hi list w cs hf hr ho ha hbl hn
    obtain rfl : i = m := by omega
    refine channel_End_Out.L3_step _ _ _ _ _ _ _ ?_
    unfold channel_End_Out.S4
    exact sel_false (by simp) (fin list w cs hf hr ho ha hbl hn)
  | succ k ih =>
    intro i hi list w cs hf hr ho ha hbl hn
    obtain ⟨wss, hrow, hall⟩ := ht
    have hil : i < wss.length := by rw [hall.length]; omega
    have hget : wss[i]? = some wss[i] := List.getElem?_eq_getElem hil
    obtain ⟨msg, hmsg, hmb⟩ := hall.get hget
    refine channel_End_Out.L3_step _ _ _ _ _ _ _ ?_
    unfold channel_End_Out.S4 channel_End_Out.S5
    refine sel_true (by simp; omega) ⟨by omega, by rw [htn]; omega, ?_⟩
    have hrow1 := hrow.fr hf fun _ _ h => h
    refine hrow1.optP (i := i) (v := (wss[i]).v) (by simp [hil]) fun p hp hcell => ⟨wss[i], ?_, ?_⟩
    · rw [show Int.toNat (i : Int) * 1 = i by simp]
      exact hcell i _ (by simp [hil])
    · unfold channel_End_Out.S6
      have hr' := hr
      obtain ⟨ws, mb, wss', es, clock, hss, rfl, b1, b2, b3, b4, b5, b6⟩ := hr'
      have fd : Fr0 w w.drew := Fr.drew _ w
      refine ⟨st.dlv, cellAt (p := at0 eb) b1 rfl rfl, (ack_any (hr.fr0 fd).weak h0 h1 (by omega)).mono ?_⟩
      rintro r w1 ⟨rfl, rfl⟩
      refine ⟨_, rfl, cellAt (p := at0 eb) b1 rfl rfl, (cloneO_bytes wss[i] msg w.drew.drew (hmb.1.fr0 ((hf.trans fd fun _ _ h => h).trans (Fr.drew _ _) fun _ _ h => h)) (by
        have := ok.wb msg (List.mem_of_getElem? hmsg)
        omega)).mono ?_⟩
      rintro r w2 ⟨s', rfl, hsn, hO, hf2, hfb⟩
      have f2 : Fr0 w w2 := (fd.trans (Fr.drew _ _) fun _ _ h => h).trans hf2 fun _ _ h => h
      have c2 := f2.at b1 id
      refine ⟨s', rfl, cellAt (p := at0 eb) c2 rfl rfl, ?_⟩
      intro w3
      have f3 : Fr0 w2 w3 := Fr.alloc _ _ _
      have f03 : Fr0 w w3 := f2.trans f3 fun _ _ h => h
      have e1 : IntKind.wrap .i64 (IntKind.wrap .i64 (st.sent - st.wait.length + 1) + (i : Int)) = ackOf st + 1 + i := by
        rw [show IntKind.wrap .i64 (st.sent - st.wait.length + 1) = st.sent - st.wait.length + 1 from IntWalk.i64_in _ (by omega)]
        exact IntWalk.i64_in _ (by omega)
      have hw3 : w3 = w2.alloc (.cells [.int .i64 (ackOf st + 1 + i), .int .i64 st.dlv, s'.v].toArray ty_channel_Packet) := by rw [← e1]
      have c3 := f3.at c2 id
      refine ⟨cellAt (p := at0 eb) c3 rfl rfl, ?_⟩
      have o3 := ho.fr f03 fun _ _ h => h
      obtain ⟨s2, w4, hrun, o4, hn4, f4, hbl4, _⟩ := append_own (ty := ty_sl_channel_Packet) el_packets o3 (by rw [hw3]; exact Row.one w2 ty_channel_Packet [.int .i64 (ackOf st + 1 + i), .int .i64 st.dlv, s'.v]) rfl (by simp [Value.oneCell']) (by simp; omega)
      have hebl : ∀ b ∈ blkL list, b < w.heap.size := ho.lt
      have sz03 := f03.size
      have hown : ∀ b ∈ eb :: mb :: blkL ws, b ∉ blkL list := fun b hb hl => by
        have h1 := hr0.lt b hb
        have h2 := hbl b hl
        omega
      have c4 := f4.at c3 (hown eb (by simp))
      refine ⟨s2, w4, hrun, cellAt (p := at0 eb) c4 rfl rfl, ?_⟩
      unfold channel_End_Out.S7
      rw [show IntKind.wrap .i64 ((i : Int) + 1) = ((i + 1 : Nat) : Int) from by rw [IntWalk.i64_in _ (by omega)]; omega]
      have hnb : ∀ b, b ∈ blkL list → ∀ cs f, w3.heap[b]? ≠ some (.cells cs ty_uint8 f) := fun b hb cs f hc => by
        obtain ⟨cs', f', hc'⟩ := o3.row.typ b hb
        rw [hc'] at hc; cases hc
      have r4 := (hr.fr0 f03).fr f4 (fun b hb => hown b hb) hnb
      have F04 : Fr0 w0 w4 := by
        refine (hf.trans f03 fun _ _ h => h).trans f4 fun x hx hm => ?_
        have := hbl x hm
        omega
      refine ih (i + 1) (by omega) s2 w4 (cs ++ [(ackOf st + 1 + i, st.dlv, s')]) F04 r4 (by simpa [pkCells] using o4) ?_ ?_ (by simpa [hn] using hn4)
      · rw [List.range_succ, List.map_append]
        have hbm : (outPk st i).b = msg := by simp [outPk, List.getD, hmsg]
        have sz0 := hf.size
        have FF : Fr (· ∈ blkL list) w w4 := (f03.mono fun _ _ h => h.elim).trans f4 fun _ _ h => h
        refine ha.push FF (row_noTyp ho.row (by decide)) sz0 ⟨rfl, rfl, by rw [hbm]; exact hsn, ?_⟩ (fun x hx => Nat.le_trans (by simp) (hfb x hx))
        rw [hbm]
        exact (hO.fr f3 fun _ _ h => h).fr f4 (fun x hx hm => (hO.fr f3 fun _ _ h => h).row |> fun g => row_dis g o3.row (by decide) x hx hm)
      · intro b hb
        rcases hbl4 b hb with h | h
        · exact hbl b h
        · have := hf.size; omega

/-- **Out.** -/
theorem outQ_any {Q : Nat → Prop} {w : World} {eb : Nat} {st : St} {own : List Nat} (h : EndQ Q w eb st own) (ok : st.Ok) :
    Calls Try.prog n_channel_End_Out #[.pointer (some (at0 eb))] w (OutQ Q w eb st own) := by
  have hr := h
  obtain ⟨ws, mb, wss, es, clock, hss, rfl, b1, b2, b3, b4, b5, b6⟩ := h
  have hn : ws.n = st.wait.length := by have := b2.len; simp at this; rw [← b3.length, this]
  have hw := ok.wl
  have hw0 := ok.w0
  have hw1 := ok.w1
  refine channel_End_Out.ok _ w _ ?_
  unfold channel_End_Out.S0 channel_End_Out.S1 channel_End_Out.S2
  refine ⟨ws, cellAt (p := at0 eb) b1 rfl rfl, st.win, cellAt (p := at0 eb) (i := 0) b1 rfl rfl, ws, cellAt (p := at0 eb) b1 rfl rfl, ?_⟩
  have hmin : (if ((ws.n : Nat) : Int) < st.win then ((ws.n : Nat) : Int) else st.win) = ((outN st : Nat) : Int) := by
    unfold outN; rw [hn]; split <;> omega
  have hnc : ws.n ≤ ws.c := by
    rcases b2.cases with ⟨rfl, _⟩ | ⟨g, cur, _, _, hnc, _⟩
    · simp
    · exact hnc
  have hoN : outN st ≤ st.wait.length := Nat.min_le_right _ _
  rw [hmin]
  refine ⟨by omega, by omega, ?_⟩
  rw [slice_a0]
  simp only [Int.toNat_natCast, Nat.sub_zero]
  have fd : Fr0 w w.drew := Fr.drew _ w
  have h10 : ∀ (list : Sl) (w1 : World) (l : List Pk), Fr0 w w1 → EndQ Q w1 eb st (eb :: mb :: blkL ws) → PktsA w w1 list l → (∀ b ∈ blkL list, w.heap.size ≤ b) → l = outList st → channel_End_Out.S10 (at0 eb) list w1 (OutQ Q w eb st (eb :: mb :: blkL ws)) := by
    intro list w1 l hf hr1 hp hbl hl
    have hr1' := hr1
    obtain ⟨ws1, mb1, wss1, es1, clock1, hss1, ho1, b1', b2', b3', b4', b5', b6'⟩ := hr1'
    unfold channel_End_Out.S10 channel_End_Out.S11
    refine ⟨by rw [cellAt (p := at0 eb) b1' rfl rfl]; rfl, frozenAt (p := at0 eb) b1', ?_⟩
    intro w2
    have c2 : w2.heap[eb]? = _ := setAt (p := at0 eb) (i := 5) (v := .bool false) b1' rfl
    have f2 : Fr (· = eb) w1 w2 := Fr.set _ _ _ rfl
    have hew : ∀ b ∈ blkL ws1, b ≠ eb := fun b h e => by obtain ⟨cs, f, hc⟩ := b2'.row.typ b h; rw [e, b1'] at hc; cases hc
    have hme : mb1 ≠ eb := fun h => by rw [h, b1'] at b4'; cases b4'
    have nb : ∀ b, b = eb → ∀ cs f, w1.heap[b]? ≠ some (.cells cs ty_uint8 f) := fun b e cs f hc => by rw [e, b1'] at hc; cases hc
    obtain ⟨cs, hpn, hpr, hpa⟩ := hp
    have ebl := hr.lt eb (by simp)
    refine ⟨list, rfl, ⟨cs, by rw [hpn, hl], hpr.fr f2 ?_, hl ▸ hpa.fr f2 fun c hc b hb e => by have := hpa.new c hc b hb; omega⟩, ⟨ws1, mb1, wss1, es1, clock1, hss1, ho1, c2, b2'.fr f2 hew, b3'.mono fun a _ b _ h => h.fr f2 nb, f2.at b4' hme, b5', b6'.mono fun a _ b _ h => ⟨h.1, h.2.fr f2 nb⟩⟩, (hf.mono fun _ _ h => h.elim).trans f2 (by intro x _ e; simp [e]), hbl⟩
    intro b hb e
    have := hbl b hb
    have := hr.lt eb (by simp)
    omega
  refine outQ_loop (w0 := w.drew) (eb := eb) (st := st) (own := eb :: mb :: blkL ws) (m := outN st) (hr.fr0 fd) ok hoN _ ⟨wss, ?_, b3.mono fun a _ b _ h => h.fr0 fd⟩ rfl _ ?_ (outN st) 0 (by omega) ⟨none, 0, 0⟩ w.drew [] (Fr.refl _ _) (hr.fr0 fd) (OwnRow.nil _ _ _) ⟨trivial, by simp, by simp⟩ (by simp [blkL]) rfl
  · rcases b2.row with ⟨ha, hn0, hc0, hv⟩ | ⟨b, o, cs, f, ha, hb, hc⟩
    · refine .inl ⟨ha, ?_, hc0, hv⟩
      show outN st = 0
      omega
    · exact .inr ⟨b, o, cs, f, ha, hb, hc⟩
  · intro list w1 cs hf hr1 ho ha hbl hln
    have hf0 : Fr0 w w1 := fd.trans hf fun _ _ h => h
    unfold channel_End_Out.S8
    have hp : PktsA w w1 list ((List.range (outN st)).map (outPk st)) := ⟨cs, by simp [hln], ho.row, ha.all, ha.new, ha.dis⟩
    refine sel_intro (fun hz => ?_) (fun hz => ?_)
    · have hz0 : outN st = 0 := by rw [hln] at hz; simp at hz; omega
      have hr1' := hr1
      obtain ⟨ws1, mb1, wss1, es1, clock1, hss1, ho1, b1', b2', b3', b4', b5', b6'⟩ := hr1'
      refine ⟨st.owing, cellAt (p := at0 eb) b1' rfl rfl, sel_intro (fun ho => ?_) (fun ho => ?_)⟩
      · unfold channel_End_Out.S9
        refine ⟨st.dlv, cellAt (p := at0 eb) b1' rfl rfl, ?_⟩
        intro w2
        have f2 : Fr0 w1 w2 := Fr.alloc _ _ _
        refine h10 _ w2 [⟨0, st.dlv, []⟩] (hf0.trans f2 fun _ _ h => h) (hr1.fr0 f2) ⟨[(0, st.dlv, ⟨none, 0, 0⟩)], rfl, Row.one w1 ty_channel_Packet [.int .i64 0, .int .i64 st.dlv, .slice none 0 0], ⟨⟨rfl, rfl, rfl, OwnRow.nil _ _ _⟩, trivial⟩, by simp [blkL], by simp⟩ ?_ ?_
        · intro b hb
          simp [blkL] at hb
          have := hf0.size
          omega
        · unfold outList; rw [if_pos ⟨hz0, ho⟩]
      · exact h10 list w1 _ hf0 hr1 hp hbl (by unfold outList; rw [if_neg (by simp [ho])])
    · have hz0 : outN st ≠ 0 := by intro h; rw [hln, h] at hz; simp at hz
      exact h10 list w1 _ hf0 hr1 hp hbl (by unfold outList; rw [if_neg (by simp [hz0])])

/-! ### Copy -/
def CopyPost (w : World) (st : St) : Post := fun r w' => ∃ cb own', r = .returned (.pointer (some (at0 cb))) ∧ EndQ (w.heap.size ≤ ·) w' cb st own' ∧ Fr0 w w' ∧ ∀ b ∈ own', w.heap.size ≤ b
structure Copying (w0 w : World) (cb : Nat) (st : St) (i : Nat) (om : Option Nat) : Prop where
  fr : Fr0 w0 w
  ncb : w0.heap.size ≤ cb
  ex : ∃ (cw : Sl) (css : List Sl), w.heap[cb]? = some (.cells #[.int .i64 st.win, .int .i64 st.sent, cw.v, .int .i64 st.dlv, .map om, .bool st.owing] ty_channel_End (0, 0)) ∧
    OwnRow w ty_sl_uint8 1 cw (css.map Sl.v) ∧ All2 (BytesQ (w0.heap.size ≤ ·) w) css (st.wait.take i) ∧ ∀ b ∈ blkL cw, w0.heap.size ≤ b
theorem copy_any {w : World} {eb : Nat} {st : St} {own : List Nat} (h : EndRep w eb st own) (ok : st.Ok) (hh : st.held = []) :
    Calls Try.prog n_channel_End_Copy #[.pointer (some (at0 eb))] w (CopyPost w st) := by
  have hrep := h
  obtain ⟨ws, mb, wss, es, clock, hss, rfl, b1, b2, b3, b4, b5, b6⟩ := h
  have hn : ws.n = st.wait.length := by have := b2.len; simp at this; rw [← b3.length, this]
  have hwl := ok.wl
  refine channel_End_Copy.ok _ w _ ?_
  unfold channel_End_Copy.S0 channel_End_Copy.S1
  refine ⟨st.win, st.sent, ws, st.dlv, some mb, st.owing, cellAt (p := at0 eb) b1 rfl rfl, cellAt (p := at0 eb) b1 rfl rfl, cellAt (p := at0 eb) b1 rfl rfl, cellAt (p := at0 eb) b1 rfl rfl, cellAt (p := at0 eb) b1 rfl rfl, cellAt (p := at0 eb) b1 rfl rfl, ?_⟩
  intro w1
  have c1 : w1.heap[w.heap.size]? = _ := heap_new w _
  have f1 : Fr0 w w1 := Fr.alloc _ _ _
  refine ⟨by rw [show (Addr.mk w.heap.size 0 none) = (at0 w.heap.size).add 0 from rfl, cellAt (p := at0 w.heap.size) (i := 0) c1 rfl rfl]; rfl, frozenAt (p := at0 w.heap.size) (i := 0) c1, ?_⟩
  intro w2
  have c2 : w2.heap[w.heap.size]? = some (.cells #[.int .i64 st.win, .int .i64 0, .slice none 0 0, .int .i64 0, .map none, .bool false] ty_channel_End (0, 0)) := setAt (p := at0 w.heap.size) (i := 0) (v := .int .i64 st.win) c1 rfl
  refine ⟨by rw [cellAt (p := at0 w.heap.size) c2 rfl rfl]; rfl, frozenAt (p := at0 w.heap.size) c2, ?_⟩
  intro w3
  have c3 : w3.heap[w.heap.size]? = some (.cells #[.int .i64 st.win, .int .i64 st.sent, .slice none 0 0, .int .i64 0, .map none, .bool false] ty_channel_End (0, 0)) := setAt (p := at0 w.heap.size) (i := 1) (v := .int .i64 st.sent) c2 rfl
  refine ⟨by rw [cellAt (p := at0 w.heap.size) c3 rfl rfl]; rfl, frozenAt (p := at0 w.heap.size) c3, ?_⟩
  intro w4
  have c4 : w4.heap[w.heap.size]? = some (.cells #[.int .i64 st.win, .int .i64 st.sent, ws.v, .int .i64 0, .map none, .bool false] ty_channel_End (0, 0)) := setAt (p := at0 w.heap.size) (i := 2) (v := ws.v) c3 rfl
  refine ⟨by rw [cellAt (p := at0 w.heap.size) c4 rfl rfl]; rfl, frozenAt (p := at0 w.heap.size) c4, ?_⟩
  intro w5
  have c5 : w5.heap[w.heap.size]? = some (.cells #[.int .i64 st.win, .int .i64 st.sent, ws.v, .int .i64 st.dlv, .map none, .bool false] ty_channel_End (0, 0)) := setAt (p := at0 w.heap.size) (i := 3) (v := .int .i64 st.dlv) c4 rfl
  refine ⟨by rw [cellAt (p := at0 w.heap.size) c5 rfl rfl]; rfl, frozenAt (p := at0 w.heap.size) c5, ?_⟩
  intro w6
  have c6 : w6.heap[w.heap.size]? = some (.cells #[.int .i64 st.win, .int .i64 st.sent, ws.v, .int .i64 st.dlv, .map (some mb), .bool false] ty_channel_End (0, 0)) := setAt (p := at0 w.heap.size) (i := 4) (v := .map (some mb)) c5 rfl
  refine ⟨by rw [cellAt (p := at0 w.heap.size) c6 rfl rfl]; rfl, frozenAt (p := at0 w.heap.size) c6, ?_⟩
  intro w7
  have c7 : w7.heap[w.heap.size]? = some (.cells #[.int .i64 st.win, .int .i64 st.sent, ws.v, .int .i64 st.dlv, .map (some mb), .bool st.owing] ty_channel_End (0, 0)) := setAt (p := at0 w.heap.size) (i := 5) (v := .bool st.owing) c6 rfl
  unfold channel_End_Copy.S2
  refine ⟨by rw [cellAt (p := at0 w.heap.size) c7 rfl rfl]; rfl, frozenAt (p := at0 w.heap.size) c7, ?_⟩
  intro w8
  have c8 : w8.heap[w.heap.size]? = some (.cells #[.int .i64 st.win, .int .i64 st.sent, .slice none 0 0, .int .i64 st.dlv, .map (some mb), .bool st.owing] ty_channel_End (0, 0)) := setAt (p := at0 w.heap.size) (i := 2) (v := .slice none 0 0) c7 rfl
  have g2 : Fr (· = w.heap.size) w1 w2 := Fr.set _ _ _ rfl
  have g3 : Fr (· = w.heap.size) w2 w3 := Fr.set _ _ _ rfl
  have g4 : Fr (· = w.heap.size) w3 w4 := Fr.set _ _ _ rfl
  have g5 : Fr (· = w.heap.size) w4 w5 := Fr.set _ _ _ rfl
  have g6 : Fr (· = w.heap.size) w5 w6 := Fr.set _ _ _ rfl
  have g7 : Fr (· = w.heap.size) w6 w7 := Fr.set _ _ _ rfl
  have g8 : Fr (· = w.heap.size) w7 w8 := Fr.set _ _ _ rfl
  have g18 : Fr (· = w.heap.size) w1 w8 := (((((g2.trans g3 fun _ _ h => h).trans g4 fun _ _ h => h).trans g5 fun _ _ h => h).trans g6 fun _ _ h => h).trans g7 fun _ _ h => h).trans g8 fun _ _ h => h
  have F8 : Fr0 w w8 := f1.trans g18 fun x hx e => by omega
  unfold channel_End_Copy.S3
  refine ⟨ws, cellAt (p := at0 eb) (F8.at b1 id) rfl rfl, ?_⟩
  clear_value w8
  clear c1 c2 c3 c4 c5 c6 c7 g2 g3 g4 g5 g6 g7 g8 g18 f1
  have C8 : Copying w w8 w.heap.size st 0 (some mb) := ⟨F8, Nat.le_refl _, ⟨none, 0, 0⟩, [], c8, OwnRow.nil _ _ _, by simp [All2], by simp [blkL]⟩
  clear c8 F8
  have main : ∀ (n i : Nat), i + n = st.wait.length → ∀ w', Copying w w' w.heap.size st i (some mb) → channel_End_Copy.L4 (at0 eb) (at0 w.heap.size) ws ((ws.n : Nat) : Int) (i : Int) w' (CopyPost w st) := by
    intro n
    induction n with
    | zero =>
      intro i hi w' C
      refine channel_End_Copy.L4_step _ _ _ _ _ _ _ ?_
      unfold channel_End_Copy.S5 channel_End_Copy.S9
      refine sel_false (by rw [hn]; simp; omega) ?_
      intro wa
      obtain ⟨F, ncb, cw, css, cb, hO, hA, hbl⟩ := C
      have fa : Fr0 w' wa := Fr.alloc _ _ _
      have ca := fa.at cb id
      have ma : wa.heap[w'.heap.size]? = _ := heap_new w' _
      refine ⟨by rw [cellAt (p := at0 w.heap.size) ca rfl rfl]; rfl, frozenAt (p := at0 w.heap.size) ca, ?_⟩
      intro wb
      have fb : Fr (· = w.heap.size) wa wb := Fr.set _ _ _ rfl
      have cb' : wb.heap[w.heap.size]? = _ := setAt (p := at0 w.heap.size) (i := 4) (v := .map (some w'.heap.size)) ca rfl
      have lt1 := lt_of_heap cb
      have mb' := fb.at ma (by omega)
      have Fb : Fr0 w wb := (F.trans fa fun _ _ h => h).trans fb fun x hx e => by omega
      unfold channel_End_Copy.S10
      have hes : es = #[] := by
        rw [hh] at b6
        have l2 : hss = [] := List.eq_nil_of_length_eq_zero b6.length
        subst l2
        unfold MapIs at b5
        simp at b5
        exact b5
      subst hes
      have mbb := Fb.at b4 id
      refine ⟨some mb, cellAt (p := at0 eb) (Fb.at b1 id) rfl rfl, _, _, run_range_map (P := Try.prog) wb ty_map_int_sl_uint8 ty_int ty_sl_uint8 mb #[] clock map_held.hT mbb, ?_⟩
      refine channel_End_Copy.L11_step _ _ _ _ ?_
      unfold channel_End_Copy.S12
      rcases run_next_map (P := Try.prog) wb ty_ mb clock clock #[] #[] clock mbb (by simp) (Nat.le_refl _) with ⟨_, hrun⟩ | ⟨e, he, _⟩
      · refine .inl ⟨_, hrun, ?_⟩
        unfold channel_End_Copy.S13
        have fc : Fr0 wb (wb.alloc (.mapIter (some mb) clock #[] clock)) := Fr.alloc _ _ _
        have hnb : ∀ b, b = w.heap.size → ∀ cs f, wa.heap[b]? ≠ some (.cells cs ty_uint8 f) := fun b e cs f => by rw [e]; exact cells_typ ca (by decide)
        have hOa := hO.fr fa fun _ _ h => h
        refine ⟨w.heap.size, w.heap.size :: w'.heap.size :: blkL cw, rfl, EndQ.fr0 ⟨cw, w'.heap.size, css, #[], 0, [], rfl, cb', hOa.fr fb (fun b hb e => row_ne hOa.row ca (by decide) (by rw [← e]; exact hb)), ?_, mb', rfl, by rw [hh]; trivial⟩ fc, Fb.trans fc fun _ _ h => h, fun b hb => ?_⟩
        · rw [List.take_of_length_le (by omega)] at hA
          exact hA.mono fun a _ b _ h => (h.fr0 fa).fr fb hnb
        · simp only [List.mem_cons] at hb
          rcases hb with rfl | rfl | hb
          · exact Nat.le_refl _
          · exact F.size
          · exact hbl b hb
      · simp [leftOf] at he
    | succ n ih =>
      intro i hi w' C
      obtain ⟨F, ncb, cw, css, cb, hO, hA, hbl⟩ := C
      have hil : i < wss.length := by rw [b3.length]; omega
      have hget : wss[i]? = some wss[i] := List.getElem?_eq_getElem hil
      obtain ⟨msg, hmsg, hmb⟩ := b3.get hget
      refine channel_End_Copy.L4_step _ _ _ _ _ _ _ ?_
      unfold channel_End_Copy.S5 channel_End_Copy.S6
      refine sel_true (by rw [hn]; simp; omega) ⟨by omega, by rw [hn]; omega, (b2.row.fr F fun _ _ h => h).optP (i := i) (v := (wss[i]).v) (by simp [hil]) fun p hp hcell => ⟨wss[i], ?_, ?_⟩⟩
      · rw [show Int.toNat (i : Int) * 1 = i by simp]
        exact hcell i _ (by simp [hil])
      · unfold channel_End_Copy.S7
        have fd : Fr0 w' w'.drew := Fr.drew _ _
        refine ⟨cw, cellAt (p := at0 w.heap.size) (w := w'.drew) cb rfl rfl, (clone_bytes wss[i] msg w'.drew (hmb.fr0 (F.trans fd fun _ _ h => h)) (by
          have := ok.wb msg (List.mem_of_getElem? hmsg)
          omega)).mono ?_⟩
        rintro r wa ⟨s', rfl, hB, hf2, hfb⟩
        have fa : Fr0 w' wa := fd.trans hf2 fun _ _ h => h
        have ca := fa.at cb id
        refine ⟨s', rfl, cellAt (p := at0 w.heap.size) ca rfl rfl, ?_⟩
        intro wb
        have fb : Fr0 wa wb := Fr.alloc _ _ _
        have cb2 := fb.at ca id
        have fab : Fr0 w' wb := fa.trans fb fun _ _ h => h
        have o2 := hO.fr fab fun _ _ h => h
        have hcn : cw.n = i := by
          have l1 := hO.len
          have l2 := hA.length
          simp at l1 l2
          omega
        obtain ⟨s2, wc, hrun, o3, hn3, f3, hbl3, _⟩ := append_own (ty := ty_sl_sl_uint8) el_msgs o2 (Row.one wa ty_sl_uint8 [s'.v]) rfl (by simp [Value.oneCell']) (by simp; omega)
        have hcc : w.heap.size ∉ blkL cw := row_ne o2.row cb2 (by decide)
        have cc := f3.at cb2 hcc
        refine ⟨cellAt (p := at0 w.heap.size) cb2 rfl rfl, s2, wc, hrun, by rw [cellAt (p := at0 w.heap.size) cc rfl rfl]; rfl, frozenAt (p := at0 w.heap.size) cc, ?_⟩
        intro wd
        have cd : wd.heap[w.heap.size]? = _ := setAt (p := at0 w.heap.size) (i := 2) (v := s2.v) cc rfl
        have f4 : Fr (· = w.heap.size) wc wd := Fr.set _ _ _ rfl
        unfold channel_End_Copy.S8
        rw [show IntKind.wrap .i64 ((i : Int) + 1) = ((i + 1 : Nat) : Int) from by rw [IntWalk.i64_in _ (by omega)]; omega]
        have nb3 := row_noTyp o2.row (T' := ty_uint8) (by decide)
        have nb4 : ∀ b, b = w.heap.size → ∀ cs f, wc.heap[b]? ≠ some (.cells cs ty_uint8 f) := fun b e cs f => by rw [e]; exact cells_typ cc (by decide)
        have sz1 := F.size
        have sz2 := fab.size
        refine ih (i + 1) (by omega) wd ⟨((F.trans fab fun _ _ h => h).trans f3 fun x hx hm => by have := hbl x hm; omega).trans f4 fun x hx e => by omega, ncb, s2, css ++ [s'], cd, ?_, ?_, fun b hb => ?_⟩
        · have := o3.fr f4 (fun b hb e => row_ne o3.row cc (by decide) (by rw [← e]; exact hb))
          simpa using this
        · rw [List.take_add_one, hmsg]
          refine (hA.mono fun a _ b _ h => ((h.fr0 fab).fr f3 nb3).fr f4 nb4).append ⟨⟨((hB.fr0 fb).fr f3 nb3).fr f4 nb4, fun b hb => ?_⟩, trivial⟩
          have := hfb b hb
          have e : w'.drew.heap.size = w'.heap.size := rfl
          omega
        · rcases hbl3 b hb with g | g
          · exact hbl b g
          · omega
  exact main st.wait.length 0 (by omega) w8 C8
end Go.Proofs.Ytellmncndfmbbaa

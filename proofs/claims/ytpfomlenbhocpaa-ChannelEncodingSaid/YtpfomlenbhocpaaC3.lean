/- Package channel: the contract of In. -/
import Derived.Test.YtpfomlenbhocpaaC2
namespace Go.Proofs.Ytpfomlenbhocpaa.Ch
open Go Go.W

def validB (q a : Int) (b : List UInt8) : Bool := decide (0 ≤ q) && (decide (0 ≤ a) && (decide (b.length ≤ 65536) && (decide (0 < q) || decide (b.length = 0))))
theorem valid_any (q a : Int) (s : Sl) (b : List UInt8) (w : World) (hb : Bytes w s b) :
    Calls Try.prog n_channel_valid #[.agg #[.int .i64 q, .int .i64 a, s.v]] w fun r w' => r = .returned (.bool (validB q a b)) ∧ Fr0 w w' := by
  refine channel_valid.ok q a s w _ ?_
  unfold channel_valid.S0 channel_valid.S1
  intro w1
  have f1 : Fr0 w w1 := Fr.alloc _ _ _
  have c1 : w1.heap[(Addr.mk w.heap.size 0 none).block]? = _ := heap_new w _
  have hbn := hb.1
  refine ⟨q, cellAt (i := 0) c1 rfl rfl, sel_intro (fun h1 => ⟨a, cellAt (i := 1) c1 rfl rfl, sel_intro (fun h2 => ⟨s, cellAt (i := 2) c1 rfl rfl, sel_intro (fun h3 => ⟨q, cellAt (i := 0) c1 rfl rfl, sel_intro (fun h4 => ?_) (fun h4 => ⟨s, cellAt (i := 2) c1 rfl rfl, ?_⟩)⟩) (fun h3 => ?_)⟩) (fun h2 => ?_)⟩) (fun h1 => ?_)⟩
  all_goals
    refine ⟨?_, f1⟩
    congr 2
    rw [hbn] at *
    unfold validB
    generalize b.length = L at *
    rw [Bool.eq_iff_iff]
    simp at *
    omega

/-- slices.Clone of messages -/
def CloneMsgs (w : World) (vs : List Value) : Post := fun r w' => ∃ s : Sl, r = .returned s.v ∧ OwnRow w' ty_sl_uint8 1 s vs ∧ Fr0 w w' ∧ ∀ b ∈ blkL s, w.heap.size ≤ b
theorem clone_msgs (s : Sl) (vs : List Value) (w : World) (hr : Row w ty_sl_uint8 s vs) (hn : s.n = vs.length) (h1 : ∀ u ∈ vs, u.oneCell' = true) (hl : vs.length ≤ 1000) : Calls Try.prog n_slices_Clone_sl_sl_byte_sl_byte #[s.v] w (CloneMsgs w vs) := by
  refine slices_Clone_sl_sl_byte_sl_byte.ok s w _ ?_
  unfold slices_Clone_sl_sl_byte_sl_byte.S0 slices_Clone_sl_sl_byte_sl_byte.S1
  refine sel_intro (fun h => ?_) (fun h => ?_)
  · unfold slices_Clone_sl_sl_byte_sl_byte.S2
    have hv : vs = [] := by
      rcases hr with ⟨_, h0, _, _⟩ | ⟨b, o, cs, f, ha, _⟩
      · exact List.eq_nil_of_length_eq_zero (by rw [← hn, h0])
      · rw [ha] at h; cases h
    subst hv
    exact ⟨⟨none, 0, 0⟩, rfl, OwnRow.nil w _ _, Fr.refl _ _, by simp [blkL]⟩
  · unfold slices_Clone_sl_sl_byte_sl_byte.S3
    intro w1
    have ho : OwnRow w1 ty_sl_uint8 1 ⟨some ⟨w.heap.size, 0, none⟩, 0, 0⟩ [] := OwnRow.made w ty_sl_uint8 1 0 [] rfl (by simp [maxLen])
    obtain ⟨s', w2, hrun, hown, hn', hfr, hbl, _⟩ := append_own (ty := ty_sl_sl_uint8) el_msgs ho (hr.fr (Fr.alloc (fun _ => False) w _) (fun _ _ h => h)) (by simp [hn]) h1 (by simp [hn]; omega)
    refine ⟨s', w2, hrun, s', rfl, hown, ?_, ?_⟩
    · refine (Fr.alloc (fun _ => False) w _).trans hfr fun x hx hm => ?_
      simp [blkL] at hm
      omega
    · intro b hb'
      rcases hbl b hb' with h | h
      · simp [blkL] at h; omega
      · have : w1.heap.size = w.heap.size + 1 := size_alloc _ _
        omega

/-- the rest of a row -/
theorem Row.rest {w : World} {T : TypeId} {s : Sl} {vs : List Value} (h : Row w T s vs) (hn : s.n = vs.length) (hnc : s.n ≤ s.c) (l : Nat) (hl : l ≤ vs.length) :
    Row w T ⟨if s.c = l then s.a else s.a.map (·.add (l * 1)), s.n - l, s.c - l⟩ (vs.drop l) := by
  rcases h with ⟨ha, h0, hc, rfl⟩ | ⟨b, o, cs, f, ha, hb, hc⟩
  · have : l = 0 := by simpa using hl
    subst this
    exact .inl ⟨by simp [ha], by simp [h0], by simp [hc], by simp⟩
  · by_cases hcl : s.c = l
    · exact .inr ⟨b, o, cs, f, by simp [hcl, ha], hb, fun i v hi => by
        rw [List.drop_eq_nil_of_le (by omega)] at hi
        cases hi⟩
    · refine .inr ⟨b, o + l, cs, f, by simp [hcl, ha, Addr.add], hb, fun i v hi => ?_⟩
      rw [Nat.add_assoc]
      exact hc (l + i) v (by simpa using hi)

def mgetB (held : List (Int × List UInt8)) (k : Int) : Option (List UInt8) := (held.find? fun p => p.1 == k).map (·.2)
theorem mget_all2 {w : World} {k : Int} : ∀ {hss : List (Int × Sl)} {held : List (Int × List UInt8)}, All2 (fun (p : Int × Sl) (q : Int × List UInt8) => p.1 = q.1 ∧ Bytes w p.2 q.2) hss held →
    (mgetB held k = none ∧ mget (hss.map fun p => (p.1, p.2.v)) k = none) ∨ ∃ (s : Sl) (b : List UInt8), mgetB held k = some b ∧ mget (hss.map fun p => (p.1, p.2.v)) k = some s.v ∧ Bytes w s b ∧ ∃ i : Nat, hss[i]? = some (k, s)
  | [], [], _ => .inl ⟨rfl, rfl⟩
  | p :: hss, q :: held, h => by
    by_cases hk : p.1 = k
    · have e1 : (p.1 == k) = true := by simp [hk]
      have e2 : (q.1 == k) = true := by simp [← h.1.1, hk]
      exact .inr ⟨p.2, q.2, by simp [mgetB, e2], by simp [mget, e1], h.1.2, 0, by simp [← hk]⟩
    · have e1 : (p.1 == k) = false := by simpa using hk
      have e2 : (q.1 == k) = false := by rw [← h.1.1]; exact e1
      rcases mget_all2 (k := k) h.2 with ⟨h1, h2⟩ | ⟨s, b, h1, h2, h3, i, hi⟩
      · refine .inl ⟨?_, ?_⟩
        · unfold mgetB at *; simp only [List.find?_cons, e2]; exact h1
        · unfold mget at *; simp only [List.map_cons, List.find?_cons, e1]; exact h2
      · refine .inr ⟨s, b, ?_, ?_, h3, i + 1, by simpa using hi⟩
        · unfold mgetB at *; simp only [List.find?_cons, e2]; exact h1
        · unfold mget at *; simp only [List.map_cons, List.find?_cons, e1]; exact h2
  | [], _ :: _, h => h.elim
  | _ :: _, [], h => h.elim
theorem erase_all2 {w : World} {k : Int} : ∀ {hss : List (Int × Sl)} {held : List (Int × List UInt8)}, All2 (fun (p : Int × Sl) (q : Int × List UInt8) => p.1 = q.1 ∧ Bytes w p.2 q.2) hss held →
    All2 (fun (p : Int × Sl) (q : Int × List UInt8) => p.1 = q.1 ∧ Bytes w p.2 q.2) (hss.eraseP fun p => p.1 == k) (held.eraseP fun p => p.1 == k)
  | [], [], _ => trivial
  | p :: hss, q :: held, h => by
    by_cases hk : p.1 = k
    · have e1 : (p.1 == k) = true := by simp [hk]
      have e2 : (q.1 == k) = true := by simp [← h.1.1, hk]
      simp only [List.eraseP_cons, e1, e2, cond_true]
      exact h.2
    · have e1 : (p.1 == k) = false := by simpa using hk
      have e2 : (q.1 == k) = false := by rw [← h.1.1]; exact e1
      simp only [List.eraseP_cons, e1, e2, cond_false]
      exact ⟨h.1, erase_all2 h.2⟩
  | [], _ :: _, h => h.elim
  | _ :: _, [], h => h.elim
theorem erase_map {k : Int} : ∀ (hss : List (Int × Sl)), (hss.map fun p => (p.1, p.2.v)).eraseP (fun p => p.1 == k) = (hss.eraseP fun p => p.1 == k).map fun p => (p.1, p.2.v)
  | [] => rfl
  | p :: hss => by
    cases h : (p.1 == k)
    · simp only [List.map_cons, List.eraseP_cons, h, cond_false, erase_map hss]
    · simp only [List.map_cons, List.eraseP_cons, h, cond_true]

/-- messages handed on while they are in order -/
def drain : Nat → St → List (List UInt8) → St × List (List UInt8)
  | 0, st, out => (st, out)
  | n + 1, st, out => match mgetB st.held (st.dlv + 1) with
    | none => (st, out)
    | some b => drain n { st with dlv := st.dlv + 1, held := st.held.eraseP fun p => p.1 == st.dlv + 1 } (out ++ [b])
def inAck (st : St) (a : Int) : St := if a - ackOf st > 0 then { st with wait := st.wait.drop (a - ackOf st).toNat } else st
def inHold (st : St) (q : Int) (b : List UInt8) : St := if (mgetB st.held q).isNone ∧ st.dlv < q then { st with owing := true, held := st.held ++ [(q, b)] } else { st with owing := true }
def inSt (st : St) (q a : Int) (b : List UInt8) : St × List (List UInt8) :=
  if validB q a b = false ∨ st.sent < a ∨ st.dlv + 16 < q then (st, [])
  else if q = 0 then (inAck st a, [])
  else let st' := inHold (inAck st a) q b; drain (st'.held.length + 1) st' []

def Msgs (w : World) (s : Sl) (l : List (List UInt8)) : Prop := ∃ sls : List Sl, s.n = l.length ∧ Row w ty_sl_uint8 s (sls.map Sl.v) ∧ All2 (Bytes w) sls l
def InPost (w : World) (eb : Nat) (own : List Nat) (res : St × List (List UInt8)) : Post := fun r w' =>
  ∃ (s : Sl) (own' : List Nat), r = .returned s.v ∧ Msgs w' s res.2 ∧ EndRep w' eb res.1 own' ∧ Fr (· ∈ own) w w' ∧ (∀ x ∈ own', x ∈ own ∨ w.heap.size ≤ x) ∧ ∀ b ∈ blkL s, w.heap.size ≤ b ∧ b ∉ own'

theorem sl_one (l : List Sl) : ∀ u ∈ l.map Sl.v, u.oneCell' = true := by
  intro u hu
  obtain ⟨b, _, rfl⟩ := List.mem_map.1 hu
  rfl

/-- the loop -/
theorem in_loop {w0 : World} {eb : Nat} {own : List Nat} (hown0 : ∀ b ∈ own, b < w0.heap.size) (R : Post) (resF : St × List (List UInt8))
    (fin : ∀ (s : Sl) (w : World), Fr (· ∈ own) w0 w → EndRep w eb resF.1 own → Msgs w s resF.2 → (∀ b ∈ blkL s, w0.heap.size ≤ b) → R (.returned s.v) w) :
    ∀ (n : Nat) (st : St) (out : List (List UInt8)), st.held.length < n → drain n st out = resF → 0 ≤ st.dlv → st.dlv + st.held.length < 4611686018427387904 → out.length + st.held.length ≤ 1000000 →
      ∀ (s : Sl) (sls : List Sl) (w : World), Fr (· ∈ own) w0 w → EndRep w eb st own → OwnRow w ty_sl_uint8 1 s (sls.map Sl.v) → All2 (Bytes w) sls out → (∀ b ∈ blkL s, w0.heap.size ≤ b) →
      channel_End_In.L13 (at0 eb) s w R := by
  intro n
  induction n with
  | zero => intro st out hlt; omega
  | succ n ih =>
    intro st out hlt hres hd0 hd1 ho s sls w hf hr hown hall hbl
    have hr' := hr
    obtain ⟨ws, mb, wss, es, clock, hss, rfl, b1, b2, b3, b4, b5, b6⟩ := hr'
    have hsn : s.n = out.length := by have := hown.len; simp at this; rw [← hall.length, this]
    refine channel_End_In.L13_step _ _ _ _ ?_
    unfold channel_End_In.S14
    have ew : IntKind.wrap .i64 (st.dlv + 1) = st.dlv + 1 := IntWalk.i64_in _ (by omega)
    have hlook := lookup_int map_held (w := w.drew) (k := st.dlv + 1) b4 b5
    rcases mget_all2 (k := st.dlv + 1) b6 with ⟨h1, h2⟩ | ⟨sb, b, h1, h2, h3, i, hi⟩
    · -- nothing to hand on
      rw [h2] at hlook
      refine ⟨some mb, cellAt (p := at0 eb) b1 rfl rfl, st.dlv, cellAt (p := at0 eb) b1 rfl rfl, ⟨none, 0, 0⟩, false, by rw [ew]; exact hlook, ?_⟩
      unfold channel_End_In.S15 channel_End_In.S16
      refine sel_true rfl ?_
      unfold drain at hres
      rw [h1] at hres
      simp only at hres
      have fd : Fr0 w w.drew := Fr.drew _ w
      have := fin s w.drew (hf.trans fd fun _ _ h => h.elim) (by rw [← hres]; exact hr.fr0 fd) (by rw [← hres]; exact ⟨sls, hsn, hown.row.fr fd fun _ _ h => h, hall.mono fun a _ b _ h => h.fr0 fd⟩) hbl
      exact this
    · rw [h2] at hlook
      refine ⟨some mb, cellAt (p := at0 eb) b1 rfl rfl, st.dlv, cellAt (p := at0 eb) b1 rfl rfl, sb, true, by rw [ew]; exact hlook, ?_⟩
      unfold channel_End_In.S15 channel_End_In.S17
      refine sel_false rfl ⟨st.dlv, cellAt (p := at0 eb) b1 rfl rfl, by rw [cellAt (p := at0 eb) (w := w.drew) b1 rfl rfl]; rfl, frozenAt (p := at0 eb) (w := w.drew) b1, ?_⟩
      intro w1
      have c1 : w1.heap[eb]? = _ := setAt (p := at0 eb) (w := w.drew) (i := 3) (v := .int .i64 (IntKind.wrap .i64 (st.dlv + 1))) b1 rfl
      rw [ew] at c1
      have f1 : Fr (· = eb) w w1 := (Fr.drew _ w).trans (Fr.set (M := (· = eb)) w.drew _ _ rfl) fun _ _ h => h
      have hme : mb ≠ eb := fun h => by rw [h, b1] at b4; cases b4
      have m1 := f1.at b4 hme
      unfold channel_End_In.S18
      obtain ⟨w2, es', hrun, m2, hms, f2, _⟩ := delete_int (ty := ty_) (t2 := ty_int) map_held (w := w1.drew) m1 b5 (st.dlv + 1)
      refine ⟨some mb, cellAt (p := at0 eb) c1 rfl rfl, st.dlv + 1, cellAt (p := at0 eb) c1 rfl rfl, w2, hrun, ?_⟩
      have f12 : Fr (· = mb) w1 w2 := (Fr.drew _ w1).trans f2 fun _ _ h => h
      have c2 := f12.at c1 (Ne.symm hme)
      unfold channel_End_In.S19
      intro w3
      have f23 : Fr0 w2 w3 := Fr.alloc _ _ _
      have f03 : Fr (· ∈ [eb, mb]) w w3 := ((f1.mono (by intro x _ h; simp [h])).trans f12 (by intro x _ h; simp [h])).trans f23 fun _ _ h => h.elim
      have hlist : ∀ x ∈ blkL s, x ∉ eb :: mb :: blkL ws := fun x hx hm => by
        have h1 := hown0 x hm
        have h2 := hbl x hx
        omega
      have o3 := hown.fr f03 fun x hx hm => hlist x hx (by simp at hm ⊢; rcases hm with h | h <;> simp [h])
      have nb03 : ∀ x, x ∈ [eb, mb] → ∀ cs f, w.heap[x]? ≠ some (.cells cs ty_uint8 f) := fun x hx => hr.noBytes x (by simp at hx ⊢; rcases hx with h | h <;> simp [h])
      obtain ⟨s2, w4, hrun4, o4, hn4, f4, hbl4, _⟩ := append_own (ty := ty_sl_sl_uint8) el_msgs o3 (Row.one w2 ty_sl_uint8 [sb.v]) rfl (by simp [Value.oneCell']) (by simp; omega)
      refine ⟨s2, w4, hrun4, ?_⟩
      have nb4 : ∀ x, x ∈ blkL s → ∀ cs f, w3.heap[x]? ≠ some (.cells cs ty_uint8 f) := fun x hx cs f hc => by
        obtain ⟨cs', f', hc'⟩ := o3.row.typ x hx
        rw [hc'] at hc; cases hc
      have bys : ∀ (t : Sl) (bs : List UInt8), Bytes w t bs → Bytes w4 t bs := fun t bs h => (h.fr f03 nb03).fr f4 nb4
      unfold drain at hres
      rw [h1] at hres
      simp only at hres
      have hlen : (st.held.eraseP fun p => p.1 == st.dlv + 1).length + 1 = st.held.length := by
        obtain ⟨q, hq, hqk⟩ := All2.get b6 hi
        have hmem : q ∈ st.held := List.mem_of_getElem? hq
        have hkey : (q.1 == st.dlv + 1) = true := by rw [← hqk.1]; simp
        rw [List.length_eraseP_of_mem hmem hkey]
        have := List.length_pos_of_mem hmem
        omega
      have F4 : Fr (· ∈ eb :: mb :: blkL ws) w0 w4 := by
        refine (hf.trans f03 (by intro x _ h; simp at h ⊢; rcases h with h | h <;> simp [h])).trans f4 fun x hx hm => ?_
        have := hbl x hm
        omega
      refine ih _ (out ++ [b]) (by simp only; omega) hres (by simp only; omega) (by simp only; omega) (by simp; omega) s2 (sls ++ [sb]) w4 F4 ?_ (by simpa using o4) ((hall.mono fun a _ b _ h => bys _ _ h).append ⟨bys _ _ h3, trivial⟩) ?_
      · refine ⟨ws, mb, wss, es', clock, hss.eraseP fun p => p.1 == st.dlv + 1, rfl, f4.at (f23.at c2 id) (fun h => hlist eb h (by simp)), (b2.fr f03 ?_).fr f4 (fun x hx h => hlist x h (by simp [hx])), b3.mono fun a _ b _ h => bys _ _ h, f4.at (f23.at m2 id) (fun h => hlist mb h (by simp)), by rw [← erase_map]; exact hms, (erase_all2 b6).mono fun a _ b _ h => ⟨h.1, bys _ _ h.2⟩⟩
        intro x hx hm
        simp at hm
        obtain ⟨cs, f, hc⟩ := b2.row.typ x hx
        rcases hm with e | e
        · rw [e, b1] at hc; cases hc
        · rw [e, b4] at hc; cases hc
      · intro x hx
        rcases hbl4 x hx with h | h
        · exact hbl x h
        · have h1 := hf.size
          have h2 := f03.size
          omega

/-- what is known while In runs: the end as it is now, against the world at the call -/
structure Now (w : World) (eb : Nat) (own : List Nat) (w' : World) (st : St) (own' : List Nat) : Prop where
  rep : EndRep w' eb st own'
  fr : Fr (· ∈ own) w w'
  own : ∀ x ∈ own', x ∈ own ∨ w.heap.size ≤ x
theorem Now.fr0 {w w' w'' : World} {eb : Nat} {own own' : List Nat} {st : St} (h : Now w eb own w' st own') (hf : Fr0 w' w'') : Now w eb own w'' st own' :=
  ⟨h.rep.fr0 hf, h.fr.trans hf fun _ _ h => h.elim, h.own⟩

theorem in_early {w w' : World} {eb : Nat} {own own' : List Nat} {st : St} (h : Now w eb own w' st own') : InPost w eb own (st, []) (.returned (.slice none 0 0)) w' :=
  ⟨⟨none, 0, 0⟩, own', rfl, ⟨[], rfl, Row.nil _ _, trivial⟩, h.rep, h.fr, h.own, by simp [blkL]⟩

theorem in_s12 {w w' : World} {eb : Nat} {own own' : List Nat} {st : St} (h : Now w eb own w' st own') (hd0 : 0 ≤ st.dlv) (hd1 : st.dlv + st.held.length < 4611686018427387904) (hh : st.held.length ≤ 1000000) :
    channel_End_In.S12 (at0 eb) w' (InPost w eb own (drain (st.held.length + 1) st [])) := by
  unfold channel_End_In.S12
  refine in_loop (w0 := w') (own := own') h.rep.lt _ (drain (st.held.length + 1) st []) ?_ (st.held.length + 1) st [] (by omega) rfl hd0 hd1 (by simpa using hh) ⟨none, 0, 0⟩ [] w' (Fr.refl _ _) h.rep (OwnRow.nil _ _ _) trivial (by simp [blkL])
  intro s w2 hf hr hm hbl
  refine ⟨s, own', rfl, hm, hr, h.fr.trans hf ?_, h.own, fun b hb => ?_⟩
  · intro x hx hm
    rcases h.own x hm with h1 | h1
    · exact h1
    · omega
  · have h1 := hbl b hb
    refine ⟨Nat.le_trans h.fr.size h1, fun hm => ?_⟩
    have := h.rep.lt b hm
    omega

theorem in_s6 {w w' : World} {eb pb : Nat} {own own' : List Nat} {st : St} {q a : Int} {s : Sl} {b : List UInt8} (h : Now w eb own w' st own') (hd0 : 0 ≤ st.dlv) (hd1 : st.dlv + st.held.length + 1 < 4611686018427387904) (hh : st.held.length < 1000000)
    (cp : w'.heap[pb]? = some (.cells #[.int .i64 q, .int .i64 a, s.v] ty_channel_Packet (0, 0))) (hb : Bytes w' s b) (hbl : b.length ≤ 65536) :
    channel_End_In.S6 (at0 eb) (at0 pb) w' (InPost w eb own (if q = 0 then (st, []) else drain ((inHold st q b).held.length + 1) (inHold st q b) [])) := by
  unfold channel_End_In.S6 channel_End_In.S7 channel_End_In.S8
  refine ⟨q, cellAt (p := at0 pb) (i := 0) cp rfl rfl, sel_intro (fun hq => ?_) (fun hq => ?_)⟩
  · have : q = 0 := by simpa using hq
    rw [if_pos this]
    exact in_early h
  · have hq0 : q ≠ 0 := by simpa using hq
    rw [if_neg hq0]
    obtain ⟨hrep, hfr, hown⟩ := h
    have hrep' := hrep
    obtain ⟨ws, mb, wss, es, clock, hss, rfl, b1, b2, b3, b4, b5, b6⟩ := hrep'
    refine ⟨by rw [cellAt (p := at0 eb) b1 rfl rfl]; rfl, frozenAt (p := at0 eb) b1, ?_⟩
    intro w1
    have c1 : w1.heap[eb]? = _ := setAt (p := at0 eb) (i := 5) (v := .bool true) b1 rfl
    have f1 : Fr (· = eb) w' w1 := Fr.set _ _ _ rfl
    have hew : ∀ x ∈ blkL ws, x ≠ eb := fun x h e => by obtain ⟨cs, f, hc⟩ := b2.row.typ x h; rw [e, b1] at hc; cases hc
    have hmw : mb ∉ blkL ws := fun h => by obtain ⟨cs, f, hc⟩ := b2.row.typ mb h; rw [b4] at hc; cases hc
    have hme : mb ≠ eb := fun h => by rw [h, b1] at b4; cases b4
    have hpe : pb ≠ eb := fun h => by
      rw [h, b1] at cp
      injection cp with cp
      injection cp with _ ht _
      exact absurd ht (by decide)
    have nb1 : ∀ x, x = eb → ∀ cs f, w'.heap[x]? ≠ some (.cells cs ty_uint8 f) := fun x e cs f hc => by rw [e, b1] at hc; cases hc
    have r1 : EndRep w1 eb { st with owing := true } (eb :: mb :: blkL ws) := ⟨ws, mb, wss, es, clock, hss, rfl, c1, b2.fr f1 hew, b3.mono fun a _ b _ h => h.fr f1 nb1, f1.at b4 hme, b5, b6.mono fun a _ b _ h => ⟨h.1, h.2.fr f1 nb1⟩⟩
    have F1 : Fr (· ∈ own) w w1 := hfr.trans f1 (by
      intro x hx e
      rcases hown eb (by simp) with h | h
      · rw [e]; exact h
      · omega)
    have n1 : Now w eb own w1 { st with owing := true } (eb :: mb :: blkL ws) := ⟨r1, F1, hown⟩
    have cp1 := f1.at cp hpe
    have hb1 : Bytes w1 s b := hb.fr f1 nb1
    unfold channel_End_In.S9
    have fd : Fr0 w1 w1.drew := Fr.drew _ _
    have hlook := lookup_int map_held (w := w1.drew) (k := q) (f1.at b4 hme) b5
    have plain : ∀ w2, Fr0 w1 w2 → inHold st q b = { st with owing := true } → channel_End_In.S12 (at0 eb) w2 (InPost w eb own (drain ((inHold st q b).held.length + 1) (inHold st q b) [])) := fun w2 f2 e => by
      rw [e]
      exact in_s12 (n1.fr0 f2) hd0 (by simp only; omega) (by simp only; omega)
    have fd2 : Fr0 w1 w1.drew.drew := fd.trans (Fr.drew _ _) fun _ _ h => h
    rcases mget_all2 (k := q) b6 with ⟨h1, h2⟩ | ⟨sb, bb, h1, h2, h3, i, hi⟩
    · rw [h2] at hlook
      refine ⟨some mb, cellAt (p := at0 eb) c1 rfl rfl, q, cellAt (p := at0 pb) (i := 0) cp1 rfl rfl, ⟨none, 0, 0⟩, false, hlook, ?_⟩
      unfold channel_End_In.S10
      refine sel_true rfl ⟨q, cellAt (p := at0 pb) (i := 0) cp1 rfl rfl, st.dlv, cellAt (p := at0 eb) c1 rfl rfl, sel_intro (fun hqd => ?_) (fun hqd => ?_)⟩
      · have hqd' : st.dlv < q := by simpa using hqd
        have e : inHold st q b = { st with owing := true, held := st.held ++ [(q, b)] } := by
          unfold inHold; rw [if_pos ⟨by rw [h1]; rfl, hqd'⟩]
        rw [e]
        unfold channel_End_In.S11
        have fd3 : Fr0 w1 w1.drew.drew.drew := fd2.trans (Fr.drew _ _) fun _ _ h => h
        refine ⟨some mb, cellAt (p := at0 eb) c1 rfl rfl, q, cellAt (p := at0 pb) (i := 0) cp1 rfl rfl, s, cellAt (p := at0 pb) (i := 2) cp1 rfl rfl, (clone_bytes s b w1.drew.drew.drew (hb1.fr0 fd3) (by omega)).mono ?_⟩
        rintro r w2 ⟨s', rfl, hB, hf2, hfb⟩
        have f2 : Fr0 w1 w2 := fd3.trans hf2 fun _ _ h => h
        have m2 := f2.at (f1.at b4 hme) id
        obtain ⟨w3, es', hrun, m3, hms, f3, _⟩ := mapUpdate_new map_held m2 b5 q s'.v h2
        refine ⟨s', rfl, cellAt (p := at0 pb) (i := 0) (f2.at cp1 id) rfl rfl, cellAt (p := at0 eb) (f2.at c1 id) rfl rfl, w3, hrun, ?_⟩
        have nb3 : ∀ x, x = mb → ∀ cs f, w2.heap[x]? ≠ some (.cells cs ty_uint8 f) := fun x e cs f hc => by rw [e, m2] at hc; cases hc
        have r2 := r1.fr0 f2
        have r3 : EndRep w3 eb { st with owing := true, held := st.held ++ [(q, b)] } (eb :: mb :: blkL ws) := by
          refine ⟨ws, mb, wss, es', clock + 1, hss ++ [(q, s')], rfl, f3.at (f2.at c1 id) (Ne.symm hme), ((b2.fr f1 hew).fr f2 fun _ _ h => h).fr f3 (fun x hx e => hmw (e ▸ hx)), b3.mono fun a _ b _ h => ((h.fr f1 nb1).fr0 f2).fr f3 nb3, m3, ?_, (b6.mono fun a _ b _ h => ⟨h.1, ((h.2.fr f1 nb1).fr0 f2).fr f3 nb3⟩).append ⟨⟨rfl, hB.fr f3 nb3⟩, trivial⟩⟩
          simpa using hms
        have F3 : Fr (· ∈ own) w w3 := (F1.trans f2 fun _ _ h => h.elim).trans f3 (by
          intro x hx e
          rcases hown mb (by simp) with h | h
          · rw [e]; exact h
          · omega)
        exact in_s12 ⟨r3, F3, hown⟩ hd0 (by simp; omega) (by simp; omega)
      · have e : inHold st q b = { st with owing := true } := by
          unfold inHold; rw [if_neg (by simp at hqd; omega)]
        exact plain _ fd2 e
    · rw [h2] at hlook
      refine ⟨some mb, cellAt (p := at0 eb) c1 rfl rfl, q, cellAt (p := at0 pb) (i := 0) cp1 rfl rfl, sb, true, hlook, ?_⟩
      unfold channel_End_In.S10
      have e : inHold st q b = { st with owing := true } := by
        unfold inHold; rw [if_neg (by rw [h1]; simp)]
      exact sel_false rfl (plain _ fd2 e)

/-- **In.** -/
theorem in_any {w : World} {eb : Nat} {own : List Nat} {st : St} {q a : Int} {s : Sl} {b : List UInt8} (h : EndRep w eb st own) (ok : st.Ok) (hd1 : st.dlv + st.held.length + 1 < 4611686018427387904) (hh : st.held.length < 1000000) (hb : Bytes w s b) :
    Calls Try.prog n_channel_End_In #[.pointer (some (at0 eb)), .agg #[.int .i64 q, .int .i64 a, s.v]] w (InPost w eb own (inSt st q a b)) := by
  have s0 := ok.s0
  have s1 := ok.s1
  have d0 := ok.d0
  have wl := ok.wl
  have ww := ok.ws
  refine channel_End_In.ok _ q a s w _ ?_
  unfold channel_End_In.S0
  intro w1
  have f1 : Fr0 w w1 := Fr.alloc _ _ _
  have cp1 : w1.heap[w.heap.size]? = some (.cells #[.int .i64 q, .int .i64 a, s.v] ty_channel_Packet (0, 0)) := heap_new w _
  have n1 : Now w eb own w1 st own := ⟨h.fr0 f1, f1.mono fun _ _ h => h.elim, fun x hx => .inl hx⟩
  unfold channel_End_In.S1
  have fd : Fr0 w1 w1.drew := Fr.drew _ _
  refine ⟨q, a, s, cellAt (p := at0 w.heap.size) (i := 0) cp1 rfl rfl, cellAt (p := at0 w.heap.size) (i := 1) cp1 rfl rfl, cellAt (p := at0 w.heap.size) (i := 2) cp1 rfl rfl, (valid_any q a s b w1.drew ((hb.fr0 f1).fr0 fd)).mono ?_⟩
  rintro r w2 ⟨rfl, f2⟩
  have f12 : Fr0 w1 w2 := fd.trans f2 fun _ _ h => h
  have n2 := n1.fr0 f12
  have cp2 := f12.at cp1 id
  have hrep := n2.rep
  obtain ⟨ws, mb, wss, es, clock, hss, hown, b1, b2, b3, b4, b5, b6⟩ := hrep
  have early : validB q a b = false ∨ st.sent < a ∨ st.dlv + 16 < q → channel_End_In.S2 w2 (InPost w eb own (inSt st q a b)) := fun he => by
    unfold channel_End_In.S2 inSt
    rw [if_pos he]
    exact in_early n2
  refine ⟨_, rfl, sel_intro (fun hv => early (.inl (by simpa using hv))) (fun hv => ⟨a, cellAt (p := at0 w.heap.size) (i := 1) cp2 rfl rfl, st.sent, cellAt (p := at0 eb) b1 rfl rfl, sel_intro (fun ha => early (.inr (.inl (by simpa using ha)))) (fun ha => ⟨q, cellAt (p := at0 w.heap.size) (i := 0) cp2 rfl rfl, st.dlv, cellAt (p := at0 eb) b1 rfl rfl, ?_⟩)⟩)⟩
  rw [show IntKind.wrap .i64 (st.dlv + 16) = st.dlv + 16 from IntWalk.i64_in _ (by omega)]
  refine sel_intro (fun hq => early (.inr (.inr (by simpa using hq)))) (fun hq => ?_)
  have hvt : validB q a b = true := by simpa using hv
  have hne : ¬ (validB q a b = false ∨ st.sent < a ∨ st.dlv + 16 < q) := by rw [hvt]; simp at ha hq ⊢; omega
  have hvv : 0 ≤ a ∧ b.length ≤ 65536 := by
    unfold validB at hvt
    simp at hvt
    exact ⟨hvt.2.1, hvt.2.2.1⟩
  have ha' : a ≤ st.sent := by simpa using ha
  unfold inSt
  rw [if_neg hne]
  unfold channel_End_In.S3
  have fd2 : Fr0 w2 w2.drew := Fr.drew _ _
  refine ⟨a, cellAt (p := at0 w.heap.size) (i := 1) cp2 rfl rfl, (ack_any (n2.fr0 fd2).rep s0 s1 (by omega)).mono ?_⟩
  rintro r w3 ⟨rfl, rfl⟩
  refine ⟨_, rfl, cellAt (p := at0 w.heap.size) (i := 1) cp2 rfl rfl, ?_⟩
  have fd3 : Fr0 w2 w2.drew.drew := fd2.trans (Fr.drew _ _) fun _ _ h => h
  have n3 := n2.fr0 fd3
  have hb3 : Bytes w2.drew.drew s b := ((hb.fr0 f1).fr0 f12).fr0 fd3
  rw [show IntKind.wrap .i64 (a - (st.sent - (st.wait.length : Int))) = a - ackOf st from IntWalk.i64_in _ (by omega)]
  unfold channel_End_In.S4
  refine sel_intro (fun hm => ?_) (fun hm => ?_)
  · have hm' : a - ackOf st > 0 := by simpa using hm
    have ei : inAck st a = { st with wait := st.wait.drop (a - ackOf st).toNat } := by unfold inAck; rw [if_pos hm']
    rw [ei]
    have hwn : ws.n = st.wait.length := by have := b2.len; simp at this; rw [← b3.length, this]
    have hak : a - ackOf st ≤ (st.wait.length : Int) := by unfold ackOf; omega
    have hnc : ws.n ≤ ws.c := by
      rcases b2.cases with ⟨rfl, _⟩ | ⟨g, cur, _, _, hnc, _⟩
      · simp
      · exact hnc
    unfold channel_End_In.S5
    have hwl : wss.length = st.wait.length := b3.length
    have hrest := Row.rest (b2.row) (by simp [hwn, hwl]) hnc (a - ackOf st).toNat (by simp [hwl]; omega)
    refine ⟨ws, cellAt (p := at0 eb) b1 rfl rfl, by omega, by omega, (clone_msgs ⟨_, _, _⟩ _ w2.drew.drew (hrest.fr fd3 fun _ _ h => h) (by simp [hwn, hwl]) (by rw [← List.map_drop]; exact sl_one _) (by simp [hwl]; omega)).mono ?_⟩
    rintro r w4 ⟨s', rfl, hO, hf4, hfb⟩
    have f4 : Fr0 w2 w4 := fd3.trans hf4 fun _ _ h => h
    have c4 := f4.at b1 id
    refine ⟨s', rfl, by rw [cellAt (p := at0 eb) c4 rfl rfl]; rfl, frozenAt (p := at0 eb) c4, ?_⟩
    intro w5
    have c5 : w5.heap[eb]? = _ := setAt (p := at0 eb) (i := 2) (v := s'.v) c4 rfl
    have f5 : Fr (· = eb) w4 w5 := Fr.set _ _ _ rfl
    have hme : mb ≠ eb := fun h => by rw [h, b1] at b4; cases b4
    have nb5 : ∀ x, x = eb → ∀ cs f, w4.heap[x]? ≠ some (.cells cs ty_uint8 f) := fun x e cs f hc => by rw [e, c4] at hc; cases hc
    have hse : ∀ x ∈ blkL s', x ≠ eb := fun x hx e => by
      have h1 := hfb x hx
      have h2 := lt_of_heap b1
      have h3 := fd3.size
      omega
    have hpe : w.heap.size ≠ eb := fun h => by
      rw [h, b1] at cp2
      injection cp2 with cp2
      injection cp2 with _ ht _
      exact absurd ht (by decide)
    have r5 : EndRep w5 eb { st with wait := st.wait.drop (a - ackOf st).toNat } (eb :: mb :: blkL s') :=
      ⟨s', mb, wss.drop (a - ackOf st).toNat, es, clock, hss, rfl, c5, by rw [List.map_drop]; exact hO.fr f5 hse, (b3.drop _).mono fun x _ y _ h => (h.fr0 f4).fr f5 nb5, f5.at (f4.at b4 id) hme, b5, b6.mono fun x _ y _ h => ⟨h.1, (h.2.fr0 f4).fr f5 nb5⟩⟩
    have n5 : Now w eb own w5 { st with wait := st.wait.drop (a - ackOf st).toNat } (eb :: mb :: blkL s') := by
      refine ⟨r5, (n2.fr.trans f4 fun _ _ h => h.elim).trans f5 ?_, ?_⟩
      · intro x _ e
        rw [e, hown]; simp
      · intro x hx
        simp only [List.mem_cons] at hx
        rcases hx with e | e | hx
        · exact .inl (by rw [e, hown]; simp)
        · exact .inl (by rw [e, hown]; simp)
        · have h1 := hfb x hx
          have h2 := n2.fr.size
          have h3 := fd3.size
          exact .inr (by omega)
    exact in_s6 n5 d0 hd1 hh (f5.at (f4.at cp2 id) hpe) (((((hb.fr0 f1).fr0 f12).fr0 f4)).fr f5 nb5) hvv.2
  · have ei : inAck st a = st := by unfold inAck; rw [if_neg (by simpa using hm)]
    rw [ei]
    exact in_s6 n3 d0 hd1 hh (fd3.at cp2 id) hb3 hvv.2
end Go.Proofs.Ytpfomlenbhocpaa.Ch

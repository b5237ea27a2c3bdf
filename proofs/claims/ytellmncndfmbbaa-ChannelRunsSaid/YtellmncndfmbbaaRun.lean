/- enthymemelaw38.ChannelRuns returns true for every window and list of numbers, and writes nothing that was there before. -/
import Derived.Test.YtellmncndfmbbaaCR3
import Derived.Test.YtellmncndfmbbaaV3
namespace Go.Proofs.Ytellmncndfmbbaa
open Go Go.W
namespace Run
abbrev sl2 (b : Nat) : Sl := ⟨some (at0 b), 2, 2⟩
abbrev Fin (w0 : World) : Post := fun r w' => r = .returned (.bool true) ∧ Fr0 w0 w'
abbrev intV (n : Nat) : Value := .int .i64 (n : Int)
abbrev ptrV (n : Nat) : Value := .pointer (some (at0 n))
theorem row_at {w : World} {T : TypeId} {s : Sl} {vs : List Value} (h : Row w T s vs) {p : Addr} (hp : s.a = some p) {i j : Nat} {v : Value} (hi : vs[i]? = some v) (hj : j = i * 1) : w.cell? (p.add j) = some v := by
  obtain ⟨p', hp', hc⟩ := h.cell hi
  rw [hp] at hp'
  cases hp'
  rw [hj, Nat.mul_one]; exact hc
theorem row_get {w : World} {T : TypeId} {s : Sl} {vs : List Value} (h : Row w T s vs) {i j : Nat} {v : Value} (hi : vs[i]? = some v) (hj : j = i * 1) {K : Addr → Prop} (hk : ∀ p, s.a = some p → w.cell? (p.add j) = some v → K p) : W.optP s.a K :=
  h.optP hi fun p hp _ => hk p hp (row_at h hp hi hj)

structure Core (w0 w : World) (be : Nat) (eb : Nat → Nat) (m : Sl) (rb : Nat → Nat) (st : Nat → St) (r : Nat → RS) (own ownR : Nat → List Nat) : Prop where
  two : Two w0 w be eb st own
  rep : ∀ k, k < 2 → RefRep w (rb k) (r k) (ownR k)
  new : ∀ k, k < 2 → ∀ b ∈ ownR k, w0.heap.size ≤ b
  dis : ∀ j k, j < 2 → k < 2 → j ≠ k → ∀ b ∈ ownR j, b ∉ ownR k
  cross : ∀ j k, j < 2 → k < 2 → ∀ b ∈ own j, b ∉ ownR k
  mrow : OwnRow w ty_p_enthymemeref38_End 1 m [ptrV (rb 0), ptrV (rb 1)]
  mnew : ∀ b ∈ blkL m, w0.heap.size ≤ b
structure Lk (w0 w : World) (lk to : Sl) (L : List Pk) (tos : List Nat) : Prop where
  link : RPktsO w lk L
  lnew : ∀ b ∈ blkL lk, w0.heap.size ≤ b
  tor : OwnRow w ty_int 1 to (tos.map intV)
  tnew : ∀ b ∈ blkL to, w0.heap.size ≤ b
variable {w0 : World} {be : Nat} {eb rb : Nat → Nat} {m : Sl}
theorem mget2 {k : Nat} (hk : k < 2) : ([ptrV (rb 0), ptrV (rb 1)] : List Value)[k]? = some (ptrV (rb k)) := by
  match k, hk with
  | 0, _ => rfl
  | 1, _ => rfl
theorem RPktsO.row {w : World} {s : Sl} {l : List Pk} (h : RPktsO w s l) : ∃ vs, Row w ty_enthymemeref38_Packet s vs := by
  obtain ⟨cs, h1, _⟩ := h; exact ⟨_, h1.row⟩
theorem Lk.fr {w w' : World} {lk to : Sl} {L : List Pk} {tos : List Nat} (h : Lk w0 w lk to L tos) {M : Nat → Prop} (f : Fr M w w') (h1 : ∀ b ∈ blkL lk, ¬ M b) (h2 : ∀ b ∈ blkL to, ¬ M b) (hb : ∀ b, M b → ∀ cs f, w.heap[b]? ≠ some (.cells cs ty_uint8 f)) : Lk w0 w' lk to L tos :=
  ⟨h.link.fr f h1 hb, h.lnew, h.tor.fr f h2, h.tnew⟩
theorem Lk.fr0 {w w' : World} {lk to : Sl} {L : List Pk} {tos : List Nat} (h : Lk w0 w lk to L tos) (f : Fr0 w w') : Lk w0 w' lk to L tos := h.fr f (fun _ _ h => h) (fun _ _ h => h) fun _ h => h.elim
/-- a change of blocks of types that the link does not have -/
theorem Lk.typ {w w' : World} {lk to : Sl} {L : List Pk} {tos : List Nat} (h : Lk w0 w lk to L tos) {M : Nat → Prop} (f : Fr M w w') (h1 : ∀ b, M b → ∀ cs f, w.heap[b]? ≠ some (.cells cs ty_enthymemeref38_Packet f)) (h2 : ∀ b, M b → ∀ cs f, w.heap[b]? ≠ some (.cells cs ty_int f)) (hb : ∀ b, M b → ∀ cs f, w.heap[b]? ≠ some (.cells cs ty_uint8 f)) : Lk w0 w' lk to L tos := by
  refine h.fr f (fun b hb hm => ?_) (fun b hb hm => ?_) hb
  · obtain ⟨vs, hr⟩ := h.link.row
    obtain ⟨cs, g, hg⟩ := hr.typ b hb
    exact h1 b hm _ _ hg
  · obtain ⟨cs, g, hg⟩ := h.tor.row.typ b hb
    exact h2 b hm _ _ hg

section
variable {st : Nat → St} {r : Nat → RS} {own ownR : Nat → List Nat}
theorem Core.any {w w' : World} (h : Core w0 w be eb m rb st r own ownR) {M : Nat → Prop} (f : Fr M w w') (h1 : ∀ b, M b → w0.heap.size ≤ b) (h2 : ¬ M be) (h3 : ∀ k, k < 2 → ∀ b ∈ own k, ¬ M b) (h4 : ∀ k, k < 2 → ∀ b ∈ ownR k, ¬ M b) (h5 : ∀ b ∈ blkL m, ¬ M b) (hb : ∀ b, M b → ∀ cs f, w.heap[b]? ≠ some (.cells cs ty_uint8 f)) : Core w0 w' be eb m rb st r own ownR :=
  ⟨h.two.any f h1 h2 h3 hb, fun k hk => (h.rep k hk).fr f (h4 k hk) hb, h.new, h.dis, h.cross, h.mrow.fr f h5, h.mnew⟩
theorem Core.fr0 {w w' : World} (h : Core w0 w be eb m rb st r own ownR) (f : Fr0 w w') : Core w0 w' be eb m rb st r own ownR :=
  h.any f (fun _ h => h.elim) id (fun _ _ _ _ h => h) (fun _ _ _ _ h => h) (fun _ _ h => h) fun _ h => h.elim
/-- a change of a block of another type -/
theorem Core.typ {w w' : World} (h : Core w0 w be eb m rb st r own ownR) {M : Nat → Prop} (f : Fr M w w') (h1 : ∀ b, M b → w0.heap.size ≤ b) {T : TypeId} (hT : ∀ b, M b → ∃ cs g, w.heap[b]? = some (.cells cs T g)) (t1 : T ≠ ty_p_channel_End) (t2 : T ≠ ty_channel_End) (t3 : T ≠ ty_sl_uint8) (t4 : T ≠ ty_enthymemeref38_End) (t5 : T ≠ ty_enthymemeref38_Held) (t6 : T ≠ ty_p_enthymemeref38_End) (t7 : T ≠ ty_uint8) : Core w0 w' be eb m rb st r own ownR := by
  refine h.any f h1 (fun hm => ?_) (fun k hk b hb hm => ?_) (fun k hk b hb hm => ?_) (fun b hb hm => ?_) (fun b hm cs g => ?_)
  · obtain ⟨cs, g, hg⟩ := hT _ hm; exact ne_typ hg h.two.row t1 rfl
  · obtain ⟨cs, g, hg⟩ := hT _ hm; exact h.two.not_own hk hg t2 t3 hb
  · obtain ⟨cs, g, hg⟩ := hT _ hm; exact (h.rep k hk).noTyp (Ne.symm t4) (Ne.symm t3) (Ne.symm t5) b hb _ _ hg
  · obtain ⟨cs, g, hg⟩ := hT _ hm; exact row_ne h.mrow.row hg (Ne.symm t6) hb
  · obtain ⟨cs', g', hg⟩ := hT _ hm; exact cells_typ hg t7
theorem Core.endStep {w w' : World} (h : Core w0 w be eb m rb st r own ownR) {k : Nat} (hk : k < 2) {st' : St} {own' : List Nat} (r' : EndRep w' (eb k) st' own') (f : Fr (· ∈ own k) w w') (oo : ∀ x ∈ own', x ∈ own k ∨ w.heap.size ≤ x) : Core w0 w' be eb m rb (upd st k st') r (upd own k own') ownR := by
  refine ⟨h.two.step hk r' f oo, fun j hj => (h.rep j hj).fr f (fun b hb hm => h.cross k j hk hj b hm hb) (h.two.rep k hk).noBytes, h.new, h.dis, fun i j hi hj b hb => ?_, h.mrow.fr f (fun b hb => ?_), h.mnew⟩
  · by_cases e : i = k
    · subst e
      rw [upd_same] at hb
      rcases oo b hb with g | g
      · exact h.cross i j hi hj b g
      · intro hm; have := (h.rep j hj).lt b hm; omega
    · rw [upd_ne _ _ e] at hb; exact h.cross i j hi hj b hb
  · obtain ⟨cs, g, hg⟩ := h.mrow.row.typ b hb
    exact h.two.not_own hk hg (by decide) (by decide)
theorem Core.refStep {w w' : World} (h : Core w0 w be eb m rb st r own ownR) {k : Nat} (hk : k < 2) {r1 : RS} {own' : List Nat} (r' : RefRep w' (rb k) r1 own') (f : Fr (· ∈ ownR k) w w') (oo : ∀ x ∈ own', x ∈ ownR k ∨ w.heap.size ≤ x) : Core w0 w' be eb m rb st (upd r k r1) own (upd ownR k own') := by
  have hr := h.rep k hk
  have hs := h.two.fr.size
  refine ⟨h.two.any f (h.new k hk) (fun hm => hr.noTyp (T := ty_p_channel_End) (by decide) (by decide) (by decide) be hm _ _ h.two.row) (fun j hj b hb hm => h.cross j k hj hk b hb hm) hr.noBytes, fun i hi => ?_, fun i hi b hb => ?_, fun i j hi hj hij b hb => ?_, fun i j hi hj b hb => ?_, h.mrow.fr f (fun b hb hm => ?_), h.mnew⟩
  · by_cases e : i = k
    · subst e; rw [upd_same, upd_same]; exact r'
    · rw [upd_ne _ _ e, upd_ne _ _ e]; exact (h.rep i hi).fr f (h.dis i k hi hk e) hr.noBytes
  · by_cases e : i = k
    · subst e; rw [upd_same] at hb
      rcases oo b hb with g | g
      · exact h.new i hi b g
      · omega
    · rw [upd_ne _ _ e] at hb; exact h.new i hi b hb
  · by_cases e : i = k
    · subst e
      rw [upd_same] at hb
      rw [upd_ne _ _ (Ne.symm hij)]
      intro hm
      rcases oo b hb with g | g
      · exact h.dis i j hi hj hij b g hm
      · have := (h.rep j hj).lt b hm; omega
    · rw [upd_ne _ _ e] at hb
      by_cases e' : j = k
      · subst e'
        rw [upd_same]
        intro hm
        rcases oo b hm with g | g
        · exact h.dis i j hi hj hij b hb g
        · have := (h.rep i hi).lt b hb; omega
      · rw [upd_ne _ _ e']; exact h.dis i j hi hj hij b hb
  · by_cases e : j = k
    · subst e
      rw [upd_same]
      intro hm
      rcases oo b hm with g | g
      · exact h.cross i j hi hj b hb g
      · have := (h.two.rep i hi).lt b hb; omega
    · rw [upd_ne _ _ e]; exact h.cross i j hi hj b hb
  · obtain ⟨cs, g, hg⟩ := h.mrow.row.typ b hb
    exact hr.noTyp (by decide) (by decide) (by decide) b hm _ _ hg
theorem Core.congr {w : World} (h : Core w0 w be eb m rb st r own ownR) {st' : Nat → St} (hs : ∀ k, k < 2 → st k = st' k) : Core w0 w be eb m rb st' r own ownR :=
  ⟨two_congr h.two hs fun _ _ => rfl, h.rep, h.new, h.dis, h.cross, h.mrow, h.mnew⟩
theorem Lk.end {w w' : World} {lk to : Sl} {L : List Pk} {tos : List Nat} (h : Lk w0 w lk to L tos) (c : Core w0 w be eb m rb st r own ownR) {k : Nat} (hk : k < 2) (f : Fr (· ∈ own k) w w') : Lk w0 w' lk to L tos :=
  h.typ f ((c.two.rep k hk).noTyp (by decide) (by decide)) ((c.two.rep k hk).noTyp (by decide) (by decide)) (c.two.rep k hk).noBytes
theorem Lk.ref {w w' : World} {lk to : Sl} {L : List Pk} {tos : List Nat} (h : Lk w0 w lk to L tos) (c : Core w0 w be eb m rb st r own ownR) {k : Nat} (hk : k < 2) (f : Fr (· ∈ ownR k) w w') : Lk w0 w' lk to L tos :=
  h.typ f ((c.rep k hk).noTyp (by decide) (by decide) (by decide)) ((c.rep k hk).noTyp (by decide) (by decide) (by decide)) (c.rep k hk).noBytes
end

structure Inv (w0 w : World) (be : Nat) (eb : Nat → Nat) (m : Sl) (rb : Nat → Nat) (r : Nat → RS) (lk to : Sl) (L : List Pk) (tos : List Nat) (own ownR : Nat → List Nat) : Prop where
  core : Core w0 w be eb m rb (fun k => (r k).st) r own ownR
  lk : Lk w0 w lk to L tos
theorem Inv.fr0 {w w' : World} {r : Nat → RS} {lk to : Sl} {L : List Pk} {tos : List Nat} {own ownR : Nat → List Nat} (h : Inv w0 w be eb m rb r lk to L tos own ownR) (f : Fr0 w w') : Inv w0 w' be eb m rb r lk to L tos own ownR := ⟨h.core.fr0 f, h.lk.fr0 f⟩
structure Pl (r : Nat → RS) (L : List Pk) (tos : List Nat) (i : Nat) : Prop where
  ok : ∀ k, k < 2 → (r k).Ok i
  ll : L.length = tos.length ∧ L.length ≤ 16 * i
  lb : ∀ p ∈ L, p.b.length ≤ 2
  tb : ∀ t ∈ tos, t < 2
theorem Pl.next {r : Nat → RS} {L : List Pk} {tos : List Nat} {i : Nat} (h : Pl r L tos i) : Pl r L tos (i + 1) := ⟨fun k hk => (h.ok k hk).next, by have := h.ll; omega, h.lb, h.tb⟩
theorem Pl.upd {r : Nat → RS} {L : List Pk} {tos : List Nat} {i : Nat} (h : Pl r L tos i) {k : Nat} {r' : RS} (ho : r'.Ok (i + 1)) : Pl (upd r k r') L tos (i + 1) := by
  refine ⟨fun j hj => ?_, by have := h.ll; omega, h.lb, h.tb⟩
  by_cases e : j = k
  · subst e; rw [upd_same]; exact ho
  · rw [upd_ne _ _ e]; exact (h.ok j hj).next
theorem upd_st (r : Nat → RS) (k : Nat) (r' : RS) (j : Nat) : upd (fun k => (r k).st) k r'.st j = (upd r k r' j).st := by unfold upd; split <;> rfl

section
variable {r : Nat → RS} {lk to : Sl} {L : List Pk} {tos : List Nat} {own ownR : Nat → List Nat}
/-- the check at the end of a round -/
theorem s25 (l1 : Sl) (i : Int) (n : Nat) (hn : n ≤ 100) (w : World) (h : Inv w0 w be eb m rb r lk to L tos own ownR) (hmn : m.n = 2) (P : Pl r L tos n) (R : Post)
    (next : ∀ w', Inv w0 w' be eb m rb r lk to L tos own ownR → enthymemelaw38_ChannelRuns.S31 l1 (sl2 be) m lk to i w' R) : enthymemelaw38_ChannelRuns.S25 l1 (sl2 be) m lk to i w R := by
  have one : ∀ (k : Nat) (hk : k < 2) (w : World), Inv w0 w be eb m rb r lk to L tos own ownR →
      (∀ w', Inv w0 w' be eb m rb r lk to L tos own ownR → enthymemelaw38_ChannelRuns.L26 l1 (sl2 be) m lk to i ((k + 1 : Nat) : Int) w' R) →
      enthymemelaw38_ChannelRuns.L26 l1 (sl2 be) m lk to i (k : Int) w R := by
    intro k hk w h hK
    have fd : Fr0 w w.drew := Fr.drew _ _
    have hd := h.fr0 fd
    have ok := P.ok k hk
    have oa := ok.a
    have os := ok.s
    obtain ⟨ss, hs, sls, hcs, _, b1, b2, b3, b4, b5⟩ := id (hd.core.rep k hk)
    have hsn : ss.n = (r k).S.length := by have := b2.len; simp at this; rw [← b3.length, this]
    refine enthymemelaw38_ChannelRuns.L26_step _ _ _ _ _ _ _ _ _ ?_
    unfold enthymemelaw38_ChannelRuns.S27 enthymemelaw38_ChannelRuns.S28
    refine sel_true (by simp; omega) ⟨by omega, by simp; omega, ?_⟩
    show W.optP (some (at0 be)) _
    have mr := hd.core.mrow.row
    refine ⟨_, hd.core.two.ptr hk (by simp), by omega, by rw [hmn]; omega, row_get mr (mget2 hk) (by simp) fun p hp hc => ⟨_, hc, ?_⟩⟩
    show W.optP (some (at0 (rb k))) _
    refine ⟨ss, cellAt (p := at0 (rb k)) b1 rfl rfl, by omega, by rw [hmn]; omega, row_get mr (mget2 hk) (by simp) fun p' hp' hc' => ⟨_, hc', ?_⟩⟩
    show W.optP (some (at0 (rb k))) _
    refine ⟨(r k).a, cellAt (p := at0 (rb k)) b1 rfl rfl, (waiting_any (hd.core.two.rep k hk)).mono ?_⟩
    rintro res w1 ⟨rfl, rfl⟩
    refine ⟨_, rfl, cellAt (p := at0 (rb k)) b1 rfl rfl, hc', cellAt (p := at0 (rb k)) b1 rfl rfl, hc, sel_false ?_ ?_⟩
    · rw [hsn, IntWalk.i64_in _ (by omega)]; simp [RS.st]; omega
    · unfold enthymemelaw38_ChannelRuns.S30
      rw [show IntKind.wrap .i64 ((k : Int) + 1) = ((k + 1 : Nat) : Int) from by rw [IntWalk.i64_in _ (by omega)]; omega]
      exact hK _ hd
  unfold enthymemelaw38_ChannelRuns.S25
  refine one 0 (by omega) w h fun w1 h1 => one 1 (by omega) w1 h1 fun w2 h2 => ?_
  refine enthymemelaw38_ChannelRuns.L26_step _ _ _ _ _ _ _ _ _ ?_
  unfold enthymemelaw38_ChannelRuns.S27
  exact sel_false (by decide) (next w2 h2)

/-- Send -/
theorem s22 (l1 : Sl) (i k : Nat) (nn : Int) (hk : k < 2) (hi : i < 60) (w : World) (h : Inv w0 w be eb m rb r lk to L tos own ownR) (hmn : m.n = 2) (P : Pl r L tos i) (R : Post)
    (next : ∀ w' r' own' ownR', Inv w0 w' be eb m rb r' lk to L tos own' ownR' → Pl r' L tos (i + 1) → enthymemelaw38_ChannelRuns.S25 l1 (sl2 be) m lk to i w' R) :
    enthymemelaw38_ChannelRuns.S22 l1 (sl2 be) m lk to i nn k w R := by
  unfold enthymemelaw38_ChannelRuns.S22
  intro w1
  have f1 : Fr0 w w1 := Fr.alloc _ _ _
  have ev : ∀ z : Int, ∃ u : UInt8, IntKind.wrap .u8 z = (u.toNat : Int) := fun z => ⟨UInt8.ofNat (z % 256).toNat, by
    have h0 : 0 ≤ z % 256 := Int.emod_nonneg _ (by omega)
    have h1 : z % 256 < 256 := Int.emod_lt_of_pos _ (by omega)
    simp [IntKind.wrap, IntKind.bits, IntKind.signed]
    omega⟩
  obtain ⟨u1, e1⟩ := ev i
  obtain ⟨u2, e2⟩ := ev nn
  have hB : Bytes w1 ⟨some ⟨w.heap.size, 0, none⟩, 2, 2⟩ [u1, u2] := by
    refine ⟨rfl, .inr ⟨w.heap.size, 0, _, _, rfl, heap_new _ _, fun j v hj => ?_⟩⟩
    rw [e1, e2]
    simpa [byteV] using hj
  unfold enthymemelaw38_ChannelRuns.S23
  have fd : Fr0 w1 w1.drew := Fr.drew _ _
  have hd := h.fr0 (f1.trans fd fun _ _ h => h)
  have ok := P.ok k hk
  have st := ok.st (by omega)
  refine ⟨by omega, by simp; omega, ?_⟩
  show W.optP (some (at0 be)) _
  refine ⟨_, hd.core.two.ptr hk (by simp), by omega, by rw [hmn]; omega, row_get hd.core.mrow.row (mget2 hk) (by simp) fun p hp hc => ⟨_, hc, (send_any (hd.core.two.rep k hk) (hB.fr0 fd) st.s0 st.s1).mono ?_⟩⟩
  intro res w2 hs
  unfold SendPost at hs
  have os := ok.s
  rw [if_neg (by simp [RS.st]; omega)] at hs
  obtain ⟨o2, rfl, r2, f2, oo2⟩ := hs
  refine ⟨_, rfl, ?_⟩
  have c2 := hd.core.endStep hk r2 f2 oo2
  have l2 := hd.lk.end hd.core hk f2
  have hB2 : Bytes w2 _ _ := (hB.fr0 fd).end (hd.core.two.rep k hk) f2
  refine ⟨row_at c2.mrow.row hp (mget2 hk) (by simp), (rsend_any (c2.rep k hk) ok (by omega) hB2 (by simp)).mono ?_⟩
  rintro res w3 ⟨o3, rfl, r3, f3, oo3⟩
  refine ⟨_, rfl, sel_false rfl (next w3 (upd r k ((r k).push [u1, u2])) (upd own k o2) (upd ownR k o3) ⟨(c2.refStep hk r3 f3 oo3).congr fun j hj => ?_, l2.ref c2 hk f3⟩ (P.upd (push_ok ok _ (by simp))))⟩
  rw [← upd_st, push_st ok]

/-- the packets of Out are put on the link -/
theorem l38 (l1 : Sl) (i : Int) (k : Nat) (hk : k < 2) (q : Sl) (l : List Pk) (hl : l.length ≤ 16) (hL : L.length ≤ 5000) (hT : tos.length ≤ 5000) (R : Post)
    (next : ∀ w' lk' to', Inv w0 w' be eb m rb r lk' to' (L ++ l) (tos ++ List.replicate l.length (1 - k)) own ownR → enthymemelaw38_ChannelRuns.S25 l1 (sl2 be) m lk' to' i w' R) :
    ∀ (n j : Nat), j + n = l.length → ∀ (w : World) (lk to : Sl), Inv w0 w be eb m rb r lk to (L ++ l.take j) (tos ++ List.replicate j (1 - k)) own ownR → RPkts w q l → (∀ b ∈ blkL q, b ∉ blkL lk) →
      enthymemelaw38_ChannelRuns.L38 l1 (sl2 be) m lk to i k q (j : Int) w R := by
  have e1k : IntKind.wrap .i64 ((1 : Int) - (k : Int)) = ((1 - k : Nat) : Int) := by rw [IntWalk.i64_in _ (by omega)]; omega
  intro n
  induction n with
  | zero =>
    intro j hj w lk to h hq hql
    have hqn := hq.len
    obtain rfl : j = l.length := by omega
    refine enthymemelaw38_ChannelRuns.L38_step _ _ _ _ _ _ _ _ _ _ _ ?_
    unfold enthymemelaw38_ChannelRuns.S39
    refine sel_false (by rw [hqn]; simp) (next w lk to ?_)
    rw [List.take_length] at h
    exact h
  | succ n ih =>
    intro j hj w lk to h hq hql
    have hqn := hq.len
    have hjl : l[j]? = some l[j] := List.getElem?_eq_getElem (by omega)
    refine enthymemelaw38_ChannelRuns.L38_step _ _ _ _ _ _ _ _ _ _ _ ?_
    unfold enthymemelaw38_ChannelRuns.S39 enthymemelaw38_ChannelRuns.S40
    refine sel_true (by rw [hqn]; simp; omega) ⟨by omega, by rw [hqn]; omega, hq.at hjl (by simp) fun pa sb hpa hb g0 g1 g2 => ⟨_, _, sb, g0, g1, g2, ?_⟩⟩
    intro w1
    have f1 : Fr0 w w1 := Fr.alloc _ _ _
    have h1 := h.fr0 f1
    obtain ⟨s2, w2, hrun, l2, f2, bl2, nb2⟩ := rpk_push (w0 := w) (w := w1) l[j] sb rfl h1.lk.link (by simp; omega) (hb.fr0 f1)
    refine ⟨s2, w2, hrun, ?_⟩
    obtain ⟨vs, hrow⟩ := h1.lk.link.row
    have c2 := h1.core.typ f2 h1.lk.lnew hrow.typ (by decide) (by decide) (by decide) (by decide) (by decide) (by decide) (by decide)
    have tor2 := h1.lk.tor.fr f2 (row_dis h1.lk.tor.row hrow (by decide))
    have q2 : RPkts w2 q l := (hq.fr f1 (fun _ _ h => h) fun _ h => h.elim).fr f2 hql nb2
    unfold enthymemelaw38_ChannelRuns.S41
    rw [e1k]
    intro w3
    have f3 : Fr0 w2 w3 := Fr.alloc _ _ _
    have tor3 := tor2.fr f3 fun _ _ h => h
    have htn := tor3.len
    simp at htn
    obtain ⟨s4, w4, hrun4, o4, n4, f4, bl4, _⟩ := append_own (ty := ty_sl_int) el_ints tor3 (Row.one w2 ty_int [intV (1 - k)]) (by simp) (by simp [Value.oneCell']) (by rw [← htn]; simp; omega)
    refine ⟨s4, w4, hrun4, ?_⟩
    have nb4 := row_noTyp tor3.row (T' := ty_uint8) (by decide)
    have c4 := (c2.fr0 f3).typ f4 h1.lk.tnew tor3.row.typ (by decide) (by decide) (by decide) (by decide) (by decide) (by decide) (by decide)
    unfold enthymemelaw38_ChannelRuns.S42
    rw [show IntKind.wrap .i64 ((j : Int) + 1) = ((j + 1 : Nat) : Int) from by rw [IntWalk.i64_in _ (by omega)]; omega]
    have sz1 := h.core.two.fr.size
    have sz2 := f1.size
    have sz3 := f2.size
    have sz4 := f3.size
    refine ih (j + 1) (by omega) w4 s2 s4 ⟨c4, ?_, fun b hb => ?_, ?_, fun b hb => ?_⟩ ?_ fun b hb hm => ?_
    · rw [List.take_add_one, hjl, ← List.append_assoc]
      have g3 : RPktsO w3 s2 ((L ++ l.take j) ++ [l[j]]) := l2.fr f3 (fun _ _ h => h) fun _ h => h.elim
      obtain ⟨vs3, hr3⟩ := g3.row
      exact g3.fr f4 (row_dis hr3 tor3.row (by decide)) nb4
    · rcases bl2 b hb with g | g
      · exact h.lk.lnew b g
      · omega
    · have : tos ++ List.replicate (j + 1) (1 - k) = (tos ++ List.replicate j (1 - k)) ++ [1 - k] := by rw [List.append_assoc, List.replicate_succ']
      rw [this, List.map_append]
      exact o4
    · rcases bl4 b hb with g | g
      · exact h.lk.tnew b g
      · omega
    · have g3 : RPkts w3 q l := q2.fr f3 (fun _ _ h => h) fun _ h => h.elim
      obtain ⟨cs3, _, hr3, _⟩ := id g3
      exact g3.fr f4 (row_dis hr3 tor3.row (by decide)) nb4
    · rcases bl2 b hm with g | g
      · exact hql b hb g
      · obtain ⟨cs', _, q2, q3⟩ := hq
        have := q2.lt b hb; omega

/-- Out -/
theorem s33 (l1 : Sl) (i k : Nat) (hk : k < 2) (hi : i < 60) (w : World) (h : Inv w0 w be eb m rb r lk to L tos own ownR) (hmn : m.n = 2) (P : Pl r L tos i) (R : Post)
    (next : ∀ w' r' lk' to' L' tos' own' ownR', Inv w0 w' be eb m rb r' lk' to' L' tos' own' ownR' → Pl r' L' tos' (i + 1) → enthymemelaw38_ChannelRuns.S25 l1 (sl2 be) m lk' to' i w' R) :
    enthymemelaw38_ChannelRuns.S33 l1 (sl2 be) m lk to i k w R := by
  unfold enthymemelaw38_ChannelRuns.S33
  have ok := P.ok k hk
  have st := ok.st (by omega)
  obtain ⟨hll, hll2⟩ := P.ll
  refine ⟨by omega, by simp; omega, ?_⟩
  show W.optP (some (at0 be)) _
  refine ⟨_, h.core.two.ptr hk (by simp), (out_any (h.core.two.rep k hk) st).mono ?_⟩
  rintro res w1 ⟨p, rfl, hp, r1, f1, np⟩
  refine ⟨p, rfl, ?_⟩
  have c1 := h.core.endStep hk r1 f1 fun x hx => .inl hx
  have lk1 := h.lk.end h.core hk f1
  unfold enthymemelaw38_ChannelRuns.S34
  refine ⟨by omega, by rw [hmn]; omega, row_get c1.mrow.row (mget2 hk) (by simp) fun pa hpa hc => ⟨_, hc, (rout_any (c1.rep k hk) ok (by omega)).mono ?_⟩⟩
  rintro res w2 ⟨q, rfl, hq, r2, f2, nq⟩
  refine ⟨q, rfl, ?_⟩
  have c2 := c1.refStep hk r2 f2 fun x hx => .inl hx
  have lk2 := lk1.ref c1 hk f2
  have hp2 : Pkts w2 p (outList (r k).st) := hp.fr f2 ((c1.rep k hk).noTyp (by decide) (by decide) (by decide)) (c1.rep k hk).noBytes
  obtain ⟨hol, hob⟩ := out_len ok
  unfold enthymemelaw38_ChannelRuns.S35
  refine (sames_any hp2 hq (by omega) (fun p hp => by have := hob p hp; omega)).mono ?_
  rintro res w3 ⟨rfl, f3⟩
  refine ⟨_, rfl, sel_false rfl ?_⟩
  unfold enthymemelaw38_ChannelRuns.S37
  have P' : Pl (upd r k (r k).quiet) (L ++ outList (r k).st) (tos ++ List.replicate (outList (r k).st).length (1 - k)) (i + 1) := by
    have P1 := P.upd (k := k) (quiet_ok ok)
    refine ⟨P1.ok, by simp; omega, fun p hp => ?_, fun t ht => ?_⟩
    · rcases List.mem_append.1 hp with g | g
      · exact P.lb p g
      · exact hob p g
    · rcases List.mem_append.1 ht with g | g
      · exact P.tb t g
      · have := List.eq_of_mem_replicate g; omega
  refine l38 (r := upd r k (r k).quiet) l1 i k hk q _ hol (by omega) (by omega) R (fun w' lk' to' h' => next w' _ lk' to' _ _ _ _ h' P') (outList (r k).st).length 0 (by omega) w3 lk to ⟨(c2.fr0 f3).congr fun j hj => ?_, ?_⟩ (hq.fr f3 (fun _ _ h => h) fun _ h => h.elim) fun b hb hm => ?_
  · rw [← upd_st]; rfl
  · simpa using lk2.fr0 f3
  · have g1 := nq b hb
    obtain ⟨vs, hrow⟩ := lk1.link.row
    have := hrow.lt b hm
    omega

/-- a packet is delivered to both -/
theorem s52 (l1 : Sl) (i j pb : Nat) (hi : i < 60) (hj : j < L.length) (q a : Int) (s : Sl) (b : Msg) (hb2 : b.length ≤ 2) (w : World) (h : Inv w0 w be eb m rb r lk to L tos own ownR) (hmn : m.n = 2) (P : Pl r L tos i)
    (hp : w.heap[pb]? = some (.cells #[.int .i64 q, .int .i64 a, s.v] ty_enthymemeref38_Packet (0, 0))) (hb : Bytes w s b) (R : Post)
    (next : ∀ w' r' own' ownR', Inv w0 w' be eb m rb r' lk to L tos own' ownR' → Pl r' L tos (i + 1) → enthymemelaw38_ChannelRuns.S25 l1 (sl2 be) m lk to i w' R) :
    enthymemelaw38_ChannelRuns.S52 l1 (sl2 be) m lk to i j (at0 pb) w R := by
  obtain ⟨hll, hll2⟩ := P.ll
  have htn := h.lk.tor.len
  simp at htn
  have hTj : tos[j]? = some (tos[j]'(by omega)) := List.getElem?_eq_getElem (by omega)
  have ht := P.tb _ (List.mem_of_getElem? hTj)
  generalize tos[j]'(by omega) = t at *
  have hTv : (tos.map intV)[j]? = some (intV t) := by simp [hTj]
  have fd : Fr0 w w.drew := Fr.drew _ _
  have hd := h.fr0 fd
  have pd := fd.at hp id
  have ok := P.ok t ht
  have st := ok.st (by omega)
  have od := ok.d
  obtain ⟨rok, rb2, rl⟩ := recv_ok ok q a b hb2
  unfold enthymemelaw38_ChannelRuns.S52
  refine ⟨by omega, by omega, row_get hd.lk.tor.row hTv (by simp) fun tp1 htp1 hc1 => ⟨(t : Int), hc1, by omega, by simp; omega, ?_⟩⟩
  show W.optP (some (at0 be)) _
  refine ⟨_, hd.core.two.ptr ht (by simp), q, a, s, cellAt (p := at0 pb) (i := 0) pd rfl rfl, cellAt (p := at0 pb) (i := 1) pd rfl rfl, cellAt (p := at0 pb) (i := 2) pd rfl rfl, by omega, by omega, row_get hd.lk.tor.row hTv (by simp) fun tp2 htp2 hc2 => ⟨(t : Int), hc2, by omega, by rw [hmn]; omega, row_get hd.core.mrow.row (mget2 ht) (by simp) fun mp hmp hc3 => ⟨_, hc3, q, a, s, cellAt (p := at0 pb) (i := 0) pd rfl rfl, cellAt (p := at0 pb) (i := 1) pd rfl rfl, cellAt (p := at0 pb) (i := 2) pd rfl rfl, (of_any q a s w.drew).mono ?_⟩⟩⟩
  rintro res w1 ⟨rfl, f1⟩
  have h1 := hd.fr0 f1
  have p1 := f1.at pd id
  refine ⟨q, a, s, rfl, cellAt (p := at0 pb) (i := 0) p1 rfl rfl, cellAt (p := at0 pb) (i := 1) p1 rfl rfl, cellAt (p := at0 pb) (i := 2) p1 rfl rfl, row_at h1.core.mrow.row hmp (mget2 ht) (by simp), row_at h1.lk.tor.row htp2 hTv (by simp), h1.core.two.ptr ht (by simp), row_at h1.lk.tor.row htp1 hTv (by simp), (in_any (h1.core.two.rep t ht) st (by simp only [RS.st]; omega) (by simp only [RS.st]; omega) ((hb.fr0 fd).fr0 f1)).mono ?_⟩
  rintro res w2 ⟨x, o2, rfl, hx, r2, f2, oo2, nx⟩
  have c2 := h1.core.endStep ht r2 f2 oo2
  have lk2 := h1.lk.end h1.core ht f2
  have p2 := f2.at p1 (h1.core.two.not_own ht p1 (by decide) (by decide))
  have hbb : Bytes w2 s b := ((hb.fr0 fd).fr0 f1).end (h1.core.two.rep t ht) f2
  rw [recv_st ok] at hx c2
  simp only at hx c2
  refine ⟨x, rfl, cellAt (p := at0 pb) (i := 0) p2 rfl rfl, cellAt (p := at0 pb) (i := 1) p2 rfl rfl, cellAt (p := at0 pb) (i := 2) p2 rfl rfl, row_at c2.mrow.row hmp (mget2 ht) (by simp), row_at lk2.tor.row htp2 hTv (by simp), row_at lk2.tor.row htp1 hTv (by simp), (rin_any (c2.rep t ht) ok (by omega) hbb).mono ?_⟩
  rintro res w3 ⟨y, o3, rfl, hy, n3, ny⟩
  have c3 := c2.refStep ht n3.rep n3.fr n3.own
  have lk3 := lk2.ref c2 ht n3.fr
  have hx3 : Msgs w3 x ((r t).recv q a b).2 := hx.fr n3.fr (fun z hz hm => by
    have g1 := (nx z hz).1
    have g2 := (h1.core.rep t ht).lt z hm
    omega) (c2.rep t ht).noBytes
  refine ⟨y, rfl, row_at lk3.tor.row htp2 hTv (by simp), row_at lk3.tor.row htp1 hTv (by simp), (samel_any hx3 hy (by omega) (fun p hp => by have := rb2 p hp; omega)).mono ?_⟩
  rintro res w4 ⟨rfl, f4⟩
  have c4 := c3.fr0 f4
  have lk4 := lk3.fr0 f4
  refine ⟨_, rfl, row_at lk4.tor.row htp2 hTv (by simp), row_at lk4.tor.row htp1 hTv (by simp), sel_false rfl (next w4 _ _ _ ⟨c4.congr fun j hj => ?_, lk4⟩ (P.upd rok))⟩
  rw [← upd_st]

/-- a packet is taken from the link, and changed -/
theorem s44 (l1 : Sl) (i : Nat) (n : Int) (hn0 : 0 ≤ n) (hn1 : n < 1073741824) (hi : i < 60) (w : World) (h : Inv w0 w be eb m rb r lk to L tos own ownR) (hmn : m.n = 2) (P : Pl r L tos i) (R : Post) (hL : L.length ≠ 0)
    (next : ∀ w' r' own' ownR', Inv w0 w' be eb m rb r' lk to L tos own' ownR' → Pl r' L tos (i + 1) → enthymemelaw38_ChannelRuns.S25 l1 (sl2 be) m lk to i w' R) :
    enthymemelaw38_ChannelRuns.S44 l1 (sl2 be) m lk to i n w R := by
  obtain ⟨hll, hll2⟩ := P.ll
  have hln := h.lk.link.pkts.len
  have hq0 : 0 ≤ Int.tdiv n 2 := Int.tdiv_nonneg hn0 (by omega)
  have hq1 : Int.tdiv n 2 ≤ n := Int.tdiv_le_self 2 hn0
  unfold enthymemelaw38_ChannelRuns.S44
  generalize hmm : (if (20 : Int) < ((lk.n : Nat) : Int) then 20 else ((lk.n : Nat) : Int)) = mm
  have hm1 : 1 ≤ mm ∧ mm ≤ lk.n := by subst hmm; split <;> omega
  refine ⟨by omega, ?_⟩
  rw [show IntKind.wrap .i64 (Int.tdiv n 2) = Int.tdiv n 2 from IntWalk.i64_in _ (by omega)]
  have t0 := Int.tmod_nonneg mm hq0
  have t1 := Int.tmod_lt_of_pos (Int.tdiv n 2) (show 0 < mm by omega)
  rw [show IntKind.wrap .i64 (((lk.n : Nat) : Int) - 1) = ((lk.n : Nat) : Int) - 1 from IntWalk.i64_in _ (by omega)]
  rw [IntWalk.i64_in _ (by omega)]
  obtain ⟨j, hj⟩ := Int.eq_ofNat_of_zero_le (show 0 ≤ ((lk.n : Nat) : Int) - 1 - Int.tmod (Int.tdiv n 2) mm by omega)
  rw [hj]
  have hjl : j < L.length := by omega
  have hLj : L[j]? = some L[j] := List.getElem?_eq_getElem hjl
  have hb2 := P.lb _ (List.mem_of_getElem? hLj)
  generalize L[j] = pk at *
  -- stores into the packet
  have step : ∀ (pb : Nat) (w w' : World) (cs : Array Value), w0.heap.size ≤ pb → pb ∉ blkL lk → w.heap[pb]? = some (.cells cs ty_enthymemeref38_Packet (0, 0)) → Fr (· = pb) w w' → Inv w0 w be eb m rb r lk to L tos own ownR → Inv w0 w' be eb m rb r lk to L tos own ownR := by
    intro pb w w' cs hpb hpl hp f h
    have nb : ∀ x, x = pb → ∀ cs f, w.heap[x]? ≠ some (.cells cs ty_uint8 f) := fun x e cs f => by rw [e]; exact cells_typ hp (by decide)
    exact ⟨h.core.typ f (fun b e => by rw [e]; exact hpb) (T := ty_enthymemeref38_Packet) (fun b e => ⟨cs, (0, 0), by rw [e]; exact hp⟩) (by decide) (by decide) (by decide) (by decide) (by decide) (by decide) (by decide), h.lk.fr f (fun b hb e => hpl (by rw [← e]; exact hb)) (fun b hb e => row_ne h.lk.tor.row hp (by decide) (by rw [← e]; exact hb)) nb⟩
  have keep : ∀ {pb : Nat} {w w' : World} {cs : Array Value} {t : Sl} {b : Msg}, w.heap[pb]? = some (.cells cs ty_enthymemeref38_Packet (0, 0)) → Fr (· = pb) w w' → Bytes w t b → Bytes w' t b := fun {pb w w' cs t b} hp f g => g.fr f fun x e cs f => by rw [e]; exact cells_typ hp (by decide)
  unfold enthymemelaw38_ChannelRuns.S45
  refine ⟨by omega, by omega, h.lk.link.pkts.at hLj (by simp) fun pa sb hpa hb g0 g1 g2 => ⟨_, _, sb, g0, g1, g2, ?_⟩⟩
  intro w1
  have f1 : Fr0 w w1 := Fr.alloc _ _ _
  have h1 := h.fr0 f1
  have npb : w.heap.size ∉ blkL lk := fun hm => by obtain ⟨vs, hr⟩ := h.lk.link.row; have := hr.lt _ hm; omega
  have hpb : w0.heap.size ≤ w.heap.size := h.core.two.fr.size
  generalize hpbe : w.heap.size = pb at *
  have c1 : w1.heap[pb]? = some (.cells #[.int .i64 0, .int .i64 0, .slice none 0 0] ty_enthymemeref38_Packet (0, 0)) := by rw [← hpbe]; exact heap_new w _
  have b1 : Bytes w1 sb pk.b := hb.fr0 f1
  clear_value w1
  refine ⟨by rw [show Addr.mk pb 0 none = (at0 pb).add 0 from rfl, cellAt (p := at0 pb) (i := 0) c1 rfl rfl]; rfl, frozenAt (p := at0 pb) (i := 0) c1, ?_⟩
  intro w2
  have c2 : w2.heap[pb]? = some (.cells #[.int .i64 pk.seq, .int .i64 0, .slice none 0 0] ty_enthymemeref38_Packet (0, 0)) := setAt (p := at0 pb) (i := 0) (v := .int .i64 pk.seq) c1 rfl
  have f2 : Fr (· = pb) w1 w2 := Fr.set _ _ _ rfl
  have h2 := step pb w1 w2 _ hpb npb c1 f2 h1
  have b2 := keep c1 f2 b1
  clear_value w2
  refine ⟨by rw [cellAt (p := at0 pb) c2 rfl rfl]; rfl, frozenAt (p := at0 pb) c2, ?_⟩
  intro w3
  have c3 : w3.heap[pb]? = some (.cells #[.int .i64 pk.seq, .int .i64 pk.ack, .slice none 0 0] ty_enthymemeref38_Packet (0, 0)) := setAt (p := at0 pb) (i := 1) (v := .int .i64 pk.ack) c2 rfl
  have f3 : Fr (· = pb) w2 w3 := Fr.set _ _ _ rfl
  have h3 := step pb w2 w3 _ hpb npb c2 f3 h2
  have b3 := keep c2 f3 b2
  clear_value w3
  refine ⟨by rw [cellAt (p := at0 pb) c3 rfl rfl]; rfl, frozenAt (p := at0 pb) c3, ?_⟩
  intro w4
  have c4 : w4.heap[pb]? = some (.cells #[.int .i64 pk.seq, .int .i64 pk.ack, sb.v] ty_enthymemeref38_Packet (0, 0)) := setAt (p := at0 pb) (i := 2) (v := sb.v) c3 rfl
  have f4 : Fr (· = pb) w3 w4 := Fr.set _ _ _ rfl
  have h4 := step pb w3 w4 _ hpb npb c3 f4 h3
  have b4 := keep c3 f4 b3
  clear_value w4
  -- the three changes
  have k52 : ∀ (w : World) (q a : Int) (s : Sl) (b : Msg), b.length ≤ 2 → Inv w0 w be eb m rb r lk to L tos own ownR → w.heap[pb]? = some (.cells #[.int .i64 q, .int .i64 a, s.v] ty_enthymemeref38_Packet (0, 0)) → Bytes w s b → enthymemelaw38_ChannelRuns.S52 l1 (sl2 be) m lk to i j (at0 pb) w R :=
    fun w q a s b hb h hp hB => s52 l1 i j pb hi hjl q a s b hb w h hmn P hp hB R next
  have k50 : ∀ (w : World) (q a : Int), Inv w0 w be eb m rb r lk to L tos own ownR → w.heap[pb]? = some (.cells #[.int .i64 q, .int .i64 a, sb.v] ty_enthymemeref38_Packet (0, 0)) → Bytes w sb pk.b → enthymemelaw38_ChannelRuns.S50 l1 (sl2 be) m lk to i n j (at0 pb) w R := by
    intro w q a h hp hB
    unfold enthymemelaw38_ChannelRuns.S50
    refine sel_intro (fun _ => ?_) (fun _ => k52 w q a sb pk.b hb2 h hp hB)
    unfold enthymemelaw38_ChannelRuns.S51
    intro wa wb
    have fa : Fr0 w wa := Fr.alloc _ _ _
    have fb : Fr0 wa wb := Fr.alloc _ _ _
    have Fab := fa.trans fb fun _ _ h => h
    have oa : OwnRow wb ty_uint8 1 ⟨some ⟨w.heap.size, 0, none⟩, 0, 0⟩ [] := (OwnRow.made w ty_uint8 1 0 [] rfl (by simp [maxLen])).fr fb fun _ _ h => h
    obtain ⟨s3, wc, hrun, oc, nc, fc, blc, _⟩ := append_own (ty := ty_sl_uint8) el_bytes oa (Row.one wa ty_uint8 [.int .u8 5]) rfl (by simp [Value.oneCell']) (by simp)
    have Fc : Fr0 w wc := Fab.trans fc fun x hx hm => by simp [blkL] at hm; omega
    have pc := Fc.at hp id
    refine ⟨s3, wc, hrun, by rw [cellAt (p := at0 pb) pc rfl rfl]; rfl, frozenAt (p := at0 pb) pc, ?_⟩
    intro wd
    have cd : wd.heap[pb]? = some (.cells #[.int .i64 q, .int .i64 a, s3.v] ty_enthymemeref38_Packet (0, 0)) := setAt (p := at0 pb) (i := 2) (v := s3.v) pc rfl
    have fd : Fr (· = pb) wc wd := Fr.set _ _ _ rfl
    have hB3 : Bytes wc s3 [5] := ⟨by simpa using nc, by simpa [byteV] using oc.row⟩
    exact k52 wd q a s3 [5] (by simp) (step pb wc wd _ hpb npb pc fd (h.fr0 Fc)) cd (keep pc fd hB3)
  have k48 : ∀ (w : World) (q : Int), Inv w0 w be eb m rb r lk to L tos own ownR → w.heap[pb]? = some (.cells #[.int .i64 q, .int .i64 pk.ack, sb.v] ty_enthymemeref38_Packet (0, 0)) → Bytes w sb pk.b → enthymemelaw38_ChannelRuns.S48 l1 (sl2 be) m lk to i n j (at0 pb) w R := by
    intro w q h hp hB
    unfold enthymemelaw38_ChannelRuns.S48
    refine sel_intro (fun _ => ?_) (fun _ => k50 w q _ h hp hB)
    unfold enthymemelaw38_ChannelRuns.S49
    refine ⟨by rw [cellAt (p := at0 pb) hp rfl rfl]; rfl, frozenAt (p := at0 pb) hp, ?_⟩
    intro wd
    have cd : wd.heap[pb]? = some (.cells #[.int .i64 q, .int .i64 (IntKind.wrap .i64 ((Int.tmod (IntKind.wrap .i64 (Int.tdiv n 43)) 9) - 1)), sb.v] ty_enthymemeref38_Packet (0, 0)) := setAt (p := at0 pb) (i := 1) (v := .int .i64 (IntKind.wrap .i64 ((Int.tmod (IntKind.wrap .i64 (Int.tdiv n 43)) 9) - 1))) hp rfl
    have fd : Fr (· = pb) w wd := Fr.set _ _ _ rfl
    exact k50 wd q _ (step pb w wd _ hpb npb hp fd h) cd (keep hp fd hB)
  unfold enthymemelaw38_ChannelRuns.S46
  refine sel_intro (fun _ => ?_) (fun _ => k48 w4 _ h4 c4 b4)
  unfold enthymemelaw38_ChannelRuns.S47
  refine ⟨by rw [show (Addr.mk pb 0 none).add 0 = (at0 pb).add 0 from rfl, cellAt (p := at0 pb) (i := 0) c4 rfl rfl]; rfl, frozenAt (p := at0 pb) (i := 0) c4, ?_⟩
  intro wd
  have cd : wd.heap[pb]? = some (.cells #[.int .i64 (Int.tmod (IntKind.wrap .i64 (Int.tdiv n 41)) 40), .int .i64 pk.ack, sb.v] ty_enthymemeref38_Packet (0, 0)) := setAt (p := at0 pb) (i := 0) (v := .int .i64 (Int.tmod (IntKind.wrap .i64 (Int.tdiv n 41)) 40)) c4 rfl
  have fd : Fr (· = pb) w4 wd := Fr.set _ _ _ rfl
  exact k48 wd _ (step pb w4 wd _ hpb npb c4 fd h4) cd (keep c4 fd b4)
end

/-- the rounds -/
theorem l16 (l1 : Sl) (hl : Ints w0 l1) (hmn : m.n = 2) : ∀ (n i : Nat), i + n = 60 → ∀ (w : World) (r : Nat → RS) (lk to : Sl) (L : List Pk) (tos : List Nat) (own ownR : Nat → List Nat),
    Inv w0 w be eb m rb r lk to L tos own ownR → Pl r L tos i → enthymemelaw38_ChannelRuns.L16 l1 (sl2 be) m lk to (i : Int) w (Fin w0) := by
  have fin : ∀ w, Fr0 w0 w → enthymemelaw38_ChannelRuns.S56 w (Fin w0) := fun w f => by
    unfold enthymemelaw38_ChannelRuns.S56
    refine (lives_any w).mono ?_
    rintro res w1 ⟨rfl, f1⟩
    exact ⟨_, rfl, rfl, f.trans f1 fun _ _ h => h⟩
  intro n
  induction n with
  | zero =>
    intro i hi w r lk to L tos own ownR h P
    refine enthymemelaw38_ChannelRuns.L16_step _ _ _ _ _ _ _ _ ?_
    unfold enthymemelaw38_ChannelRuns.S17
    exact sel_intro (fun _ => sel_false (by simp; omega) (fin w h.core.two.fr)) (fun _ => fin w h.core.two.fr)
  | succ n ih =>
    intro i hi w r lk to L tos own ownR h P
    refine enthymemelaw38_ChannelRuns.L16_step _ _ _ _ _ _ _ _ ?_
    unfold enthymemelaw38_ChannelRuns.S17
    refine sel_intro (fun hin => sel_true (by simp; omega) ?_) (fun _ => fin w h.core.two.fr)
    have hin' : i < l1.n := by simpa using hin
    unfold enthymemelaw38_ChannelRuns.S18
    have hlw := hl.fr0 h.core.two.fr
    refine ⟨by omega, by omega, hlw.at hin' (by simp) fun p v hv v1 v2 => ⟨v, hv, ?_⟩⟩
    have q8 : v.tdiv 8 * 8 + v.tmod 8 = v := by have := Int.tmod_add_mul_tdiv v 8; omega
    have q8a : -8 < v.tmod 8 := by have := Int.lt_tmod_of_pos v (b := 8) (by omega); omega
    have q8b : v.tmod 8 < 8 := Int.tmod_lt_of_pos v (by omega)
    rw [show IntKind.wrap .i64 (Int.tdiv v 8) = Int.tdiv v 8 from IntWalk.i64_in _ (by omega)]
    refine (around_any _ 1073741824 w (by omega) (by omega) (by omega)).mono ?_
    rintro res w1 ⟨rfl, rfl⟩
    refine ⟨_, rfl, ?_⟩
    obtain ⟨n0, n1⟩ := aroundI_range (Int.tdiv v 8) 1073741824 (by omega)
    generalize aroundI (Int.tdiv v 8) 1073741824 = nn at *
    unfold enthymemelaw38_ChannelRuns.S19 enthymemelaw38_ChannelRuns.S20
    refine ⟨by omega, by omega, hlw.at hin' (by simp) fun p v hv v1 v2 => ⟨v, hv, (around_any _ 8 w (by omega) (by omega) (by omega)).mono ?_⟩⟩
    rintro res w1 ⟨rfl, rfl⟩
    refine ⟨_, rfl, ?_⟩
    generalize aroundI v 8 = t71
    obtain ⟨k, hk⟩ := Int.eq_ofNat_of_zero_le (Int.tmod_nonneg 2 n0)
    have hk2 : Int.tmod nn 2 < 2 := Int.tmod_lt_of_pos _ (by omega)
    rw [hk]
    have hk' : k < 2 := by omega
    have next : ∀ (w' : World) (r : Nat → RS) (lk to : Sl) (L : List Pk) (tos : List Nat) (own ownR : Nat → List Nat), Inv w0 w' be eb m rb r lk to L tos own ownR → Pl r L tos (i + 1) → enthymemelaw38_ChannelRuns.S31 l1 (sl2 be) m lk to i w' (Fin w0) := by
      intro w' r lk to L tos own ownR h P
      unfold enthymemelaw38_ChannelRuns.S31
      rw [show IntKind.wrap .i64 ((i : Int) + 1) = ((i + 1 : Nat) : Int) from by rw [IntWalk.i64_in _ (by omega)]; omega]
      exact ih (i + 1) (by omega) w' r lk to L tos own ownR h P
    have chk : ∀ (w' : World) (r : Nat → RS) (lk to : Sl) (L : List Pk) (tos : List Nat) (own ownR : Nat → List Nat), Inv w0 w' be eb m rb r lk to L tos own ownR → Pl r L tos (i + 1) → enthymemelaw38_ChannelRuns.S25 l1 (sl2 be) m lk to i w' (Fin w0) := by
      intro w' r lk to L tos own ownR h P
      exact s25 l1 i (i + 1) (by omega) w' h hmn P _ fun w'' h' => next w'' r lk to L tos own ownR h' P
    have a22 : enthymemelaw38_ChannelRuns.S22 l1 (sl2 be) m lk to i nn k w (Fin w0) :=
      s22 l1 i k nn hk' (by omega) w h hmn P _ fun w' r' own' ownR' h' P' => chk w' _ _ _ _ _ _ _ h' P'
    have a33 : enthymemelaw38_ChannelRuns.S33 l1 (sl2 be) m lk to i k w (Fin w0) :=
      s33 l1 i k hk' (by omega) w h hmn P _ fun w' r' lk' to' L' tos' own' ownR' h' P' => chk w' _ _ _ _ _ _ _ h' P'
    have a43 : enthymemelaw38_ChannelRuns.S43 l1 (sl2 be) m lk to i nn w (Fin w0) := by
      unfold enthymemelaw38_ChannelRuns.S43
      have hln := h.lk.link.pkts.len
      refine sel_intro (fun _ => next w _ _ _ _ _ _ _ h P.next) (fun hne => ?_)
      exact s44 l1 i nn n0 n1 (by omega) w h hmn P _ (by simp at hne; omega) fun w' r' own' ownR' h' P' => chk w' _ _ _ _ _ _ _ h' P'
    have a32 : enthymemelaw38_ChannelRuns.S32 l1 (sl2 be) m lk to i nn k t71 w (Fin w0) := by
      unfold enthymemelaw38_ChannelRuns.S32 enthymemelaw38_ChannelRuns.S54
      exact sel_intro (fun _ => sel_intro (fun _ => a33) (fun _ => a43)) (fun _ => sel_intro (fun _ => a33) (fun _ => a43))
    unfold enthymemelaw38_ChannelRuns.S21 enthymemelaw38_ChannelRuns.S55
    exact sel_intro (fun _ => sel_intro (fun _ => a22) (fun _ => a32)) (fun _ => sel_intro (fun _ => a22) (fun _ => a32))

/-- one end of the reference is made -/
theorem s8 (window : Int) (a1 : -9223372036854775808 ≤ window) (a2 : window ≤ 9223372036854775807) (l1 e : Sl) (i : Nat) (hi : i < 2) (m : Sl) (ms : List Value) (hms : ms.length ≤ 10) (w : World) (hO : OwnRow w ty_p_enthymemeref38_End 1 m ms) (R : Post)
    (next : ∀ (w' : World) (m' : Sl) (rb : Nat) (own' : List Nat), RefRep w' rb ⟨win0 window i, [], 0, 0, [], false⟩ own' → OwnRow w' ty_p_enthymemeref38_End 1 m' (ms ++ [ptrV rb]) → Fr (· ∈ blkL m) w w' → (∀ b ∈ own', w.heap.size ≤ b) → (∀ b ∈ blkL m', b ∈ blkL m ∨ w.heap.size ≤ b) → m'.n = m.n + 1 → enthymemelaw38_ChannelRuns.S12 window l1 e m' i w' R) :
    enthymemelaw38_ChannelRuns.S8 window l1 e m i w R := by
  unfold enthymemelaw38_ChannelRuns.S8
  intro w1
  have f1 : Fr0 w w1 := Fr.alloc _ _ _
  have td := tdiv_range window a1 a2
  have c1 : w1.heap[w.heap.size]? = _ := heap_new w _
  rw [show IntKind.wrap .i64 (Int.tdiv window 16) = Int.tdiv window 16 from IntWalk.i64_in _ (by omega)] at c1
  have cell := cell2v (x := fun k => .int .i64 (if k = 0 then window else Int.tdiv window 16)) (T := ty_int) (b := w.heap.size) (w := w1) c1 hi (j := Int.toNat (i : Int) * 1) (by simp)
  refine ⟨by omega, by omega, ?_⟩
  show W.optP (some (at0 w.heap.size)) _
  refine ⟨_, cell, (around_any _ 16 w1 (by omega) (by split <;> omega) (by split <;> omega)).mono ?_⟩
  rintro res w2 ⟨rfl, rfl⟩
  refine ⟨_, rfl, ?_⟩
  have hwin : IntKind.wrap .i64 (1 + aroundI (if i = 0 then window else Int.tdiv window 16) 16) = win0 window i := by
    have := aroundI_range (if i = 0 then window else Int.tdiv window 16) 16 (by omega)
    rw [IntWalk.i64_in _ (by omega)]
    unfold win0
    split <;> rfl
  rw [hwin]
  have hr := win0_range window i
  refine (rnew_any _ w1 hr.1 hr.2).mono ?_
  rintro res w3 ⟨rb, own', rfl, rr, f3, nr⟩
  refine ⟨_, _, rfl, ?_⟩
  unfold enthymemelaw38_ChannelRuns.S9
  refine sel_false rfl ?_
  unfold enthymemelaw38_ChannelRuns.S11
  intro w4
  have f4 : Fr0 w3 w4 := Fr.alloc _ _ _
  have F4 : Fr0 w w4 := (f1.trans f3 fun _ _ h => h).trans f4 fun _ _ h => h
  have o4 := hO.fr F4 fun _ _ h => h
  have hmn := hO.len
  obtain ⟨m5, w5, hrun, o5, n5, f5, bl5, _⟩ := append_own (ty := ty_sl_p_enthymemeref38_End) el_rptr o4 (Row.one w3 ty_p_enthymemeref38_End [ptrV rb]) rfl (by simp [Value.oneCell']) (by simp; omega)
  refine ⟨m5, w5, hrun, next w5 m5 rb own' ((rr.fr0 f4).fr f5 (fun b hb hm => ?_) (row_noTyp o4.row (by decide))) o5 ((F4.mono fun _ _ h => h.elim).trans f5 fun _ _ h => h) (fun b hb => ?_) (fun b hb => ?_) n5⟩
  · obtain ⟨cs, g, hg⟩ := o4.row.typ b hm
    exact (rr.fr0 f4).noTyp (by decide) (by decide) (by decide) b hb _ _ hg
  · have := nr b hb
    have := f1.size
    omega
  · rcases bl5 b hb with g | g
    · exact .inl g
    · exact .inr (Nat.le_trans F4.size g)

theorem walk (window : Int) (a1 : -9223372036854775808 ≤ window) (a2 : window ≤ 9223372036854775807) (l1 : Sl) (w : World) (hl : Ints w l1) :
    Calls Try.prog n_enthymemelaw38_ChannelRuns #[.int .i64 window, l1.v] w (Fin w) := by
  refine enthymemelaw38_ChannelRuns.ok window l1 w _ ?_
  unfold enthymemelaw38_ChannelRuns.S0 enthymemelaw38_ChannelRuns.S1
  refine (ends_any window w a1 a2).mono ?_
  rintro res w1 ⟨be, eb, own, rfl, hT⟩
  refine ⟨sl2 be, rfl, ?_⟩
  unfold enthymemelaw38_ChannelRuns.S2 enthymemelaw38_ChannelRuns.S4
  refine sel_false rfl ?_
  unfold enthymemelaw38_ChannelRuns.S5
  refine enthymemelaw38_ChannelRuns.L6_step _ _ _ _ _ _ _ ?_
  unfold enthymemelaw38_ChannelRuns.S7
  refine sel_true (by decide) (s8 window a1 a2 l1 (sl2 be) 0 (by omega) ⟨none, 0, 0⟩ [] (by simp) w1 (OwnRow.nil _ _ _) _ fun w2 m2 rb0 o0 rr0 om2 f2 n0 bm2 mn2 => ?_)
  have f2' : Fr0 w1 w2 := f2.mono fun x _ hx => by simp [blkL] at hx
  unfold enthymemelaw38_ChannelRuns.S12
  rw [show IntKind.wrap .i64 (((0 : Nat) : Int) + 1) = ((1 : Nat) : Int) from by decide]
  refine enthymemelaw38_ChannelRuns.L6_step _ _ _ _ _ _ _ ?_
  unfold enthymemelaw38_ChannelRuns.S7
  refine sel_true (by decide) (s8 window a1 a2 l1 (sl2 be) 1 (by omega) m2 _ (by simp) w2 om2 _ fun w3 m3 rb1 o1 rr1 om3 f3 n1 bm3 mn3 => ?_)
  unfold enthymemelaw38_ChannelRuns.S12
  rw [show IntKind.wrap .i64 (((1 : Nat) : Int) + 1) = ((2 : Nat) : Int) from by decide]
  refine enthymemelaw38_ChannelRuns.L6_step _ _ _ _ _ _ _ ?_
  unfold enthymemelaw38_ChannelRuns.S7
  refine sel_false (by decide) ?_
  unfold enthymemelaw38_ChannelRuns.S13 enthymemelaw38_ChannelRuns.S14 enthymemelaw38_ChannelRuns.S15
  have T2 := hT.fr0 f2'
  have sz1 := hT.fr.size
  have sz2 := f2'.size
  have m2new : ∀ b ∈ blkL m2, w1.heap.size ≤ b := fun b hb => by
    rcases bm2 b hb with g | g
    · simp [blkL] at g
    · exact g
  have nb3 := row_noTyp om2.row (T' := ty_uint8) (by decide)
  have T3 : Two w w3 be eb _ own := T2.any f3 (fun b hb => Nat.le_trans sz1 (m2new b hb)) (row_ne om2.row T2.row (by decide)) (fun k hk b hb hm => by
    obtain ⟨cs, g, hg⟩ := om2.row.typ b hm
    exact T2.not_own hk hg (by decide) (by decide) hb) nb3
  have rr0' := rr0.fr f3 (fun b hb hm => by
    obtain ⟨cs, g, hg⟩ := om2.row.typ b hm
    exact rr0.noTyp (by decide) (by decide) (by decide) b hb _ _ hg) nb3
  have ownlt : ∀ k, k < 2 → ∀ b ∈ own k, b < w1.heap.size := fun k hk b hb => (hT.rep k hk).lt b hb
  refine l16 (be := be) (eb := eb) (rb := fun k => if k = 0 then rb0 else rb1) l1 hl (by rw [mn3, mn2]) 60 0 (by omega) w3 (fun k => ⟨win0 window k, [], 0, 0, [], false⟩) ⟨none, 0, 0⟩ ⟨none, 0, 0⟩ [] [] own (fun k => if k = 0 then o0 else o1)
    ⟨⟨two_congr T3 (fun k _ => by simp [RS.st]) (fun _ _ => rfl), fun k hk => ?_, fun k hk b hb => ?_, fun j k hj hk hjk b hb => ?_, fun j k hj hk b hb => ?_, om3, fun b hb => ?_⟩, ⟨⟨[], OwnRow.nil _ _ _, trivial⟩, by simp [blkL], OwnRow.nil _ _ _, by simp [blkL]⟩⟩
    ⟨fun k _ => ⟨by simp, by simp, by simp, rfl, by simp, by simp, (win0_range window k).1, (win0_range window k).2⟩, by simp, by simp, by simp⟩
  · match k, hk with
    | 0, _ => exact rr0'
    | 1, _ => exact rr1
  · match k, hk with
    | 0, _ => exact Nat.le_trans sz1 (n0 b hb)
    | 1, _ => have := n1 b hb; omega
  · have key : ∀ x ∈ o0, x ∉ o1 := fun x hx hm => by
      have g1 := rr0.lt x hx
      have g2 := n1 x hm
      omega
    match j, hj, k, hk with
    | 0, _, 0, _ => exact absurd rfl hjk
    | 0, _, 1, _ => exact key b hb
    | 1, _, 0, _ => exact fun hm => key b hm hb
    | 1, _, 1, _ => exact absurd rfl hjk
  · have g1 := ownlt j hj b hb
    match k, hk with
    | 0, _ => intro hm; have := n0 b hm; omega
    | 1, _ => intro hm; have := n1 b hm; omega
  · rcases bm3 b hb with g | g
    · have := m2new b g; omega
    · omega
end Run
end Go.Proofs.Ytellmncndfmbbaa

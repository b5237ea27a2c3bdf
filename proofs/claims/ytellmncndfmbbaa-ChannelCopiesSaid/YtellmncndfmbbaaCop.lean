/- enthymemelaw38.ChannelCopies returns true for every window, number of messages and cut, and writes nothing that was there before. -/
import Derived.Test.YtellmncndfmbbaaCQ
import Derived.Test.YtellmncndfmbbaaV7
namespace Go.Proofs.Ytellmncndfmbbaa
open Go Go.W
namespace Cop
abbrev sl2 (b : Nat) : Sl := ⟨some (at0 b), 2, 2⟩
abbrev sl1 (b : Nat) : Sl := ⟨some (at0 b), 1, 1⟩
abbrev Fin (w0 : World) : Post := fun r w' => r = .returned (.bool true) ∧ Fr0 w0 w'

/-! ### The plain part -/
def msg (i : Nat) : List UInt8 := [UInt8.ofNat i]
def S (win : Int) (i : Nat) : St := ⟨win, i, 0, (List.range i).map msg, [], false⟩
theorem S_len (win : Int) (i : Nat) : (S win i).wait.length = i := by simp [S]
theorem S_ok (win : Int) (i : Nat) (h1 : 1 ≤ win) (h2 : win ≤ 16) (hi : i ≤ 100) : (S win i).Ok := by
  refine ok_of _ (by simp [S]) (by simp [S]; omega) (by simp [S]) (by simp [S]) (by rw [S_len]; omega) (by rw [S_len]; simp [S]) ?_ (by simp [S]) h1 h2
  intro m hm
  obtain ⟨j, _, rfl⟩ := List.mem_map.1 hm
  simp [msg]
theorem S_send (win : Int) (i : Nat) : sendSt (S win i) (msg i) = S win (i + 1) := by
  unfold sendSt S
  simp only [St.mk.injEq, true_and, and_true]
  exact ⟨by omega, by rw [List.range_succ, List.map_append]; rfl⟩
def N' (win : Int) (n : Nat) : Nat := min win.toNat n
theorem S_out (win : Int) (n : Nat) : outList (S win n) = (List.range (N' win n)).map fun i => ⟨(i + 1 : Nat), 0, msg i⟩ := by
  have e1 : outN (S win n) = N' win n := by unfold outN N'; rw [S_len]; rfl
  unfold outList
  rw [e1, if_neg (by simp [S])]
  refine List.map_congr_left fun i hi => ?_
  have hi' : i < N' win n := by simpa using hi
  have hlt : i < n := by unfold N' at hi'; omega
  unfold outPk ackOf
  rw [S_len]
  simp only [S, Pk.mk.injEq, true_and]
  exact ⟨by omega, by simp [List.getD, hlt]⟩
theorem S_in (win : Int) (n : Nat) : inSt (S win n) 0 n [] = (⟨win, n, 0, [], [], false⟩, []) := by
  unfold inSt
  rw [if_neg (by simp [validB, S]), if_pos rfl]
  unfold inAck ackOf
  rw [S_len]
  split
  · simp only [S]; simp
  · have : n = 0 := by simp only [S] at *; omega
    subst this
    simp [S]

structure Inv (w0 w : World) (be bb e0 e1 : Nat) (win : Int) (i : Nat) (own : List Nat) (cp : Option Nat) (ownc : List Nat) : Prop where
  fr : Fr0 w0 w
  row : w.heap[be]? = some (.cells #[.pointer (some (at0 e0)), .pointer (some (at0 e1))] ty_p_channel_End (0, 0))
  rep : EndQ (bb < ·) w e0 (S win i) own
  new : ∀ b ∈ own, w0.heap.size ≤ b
  bx : ∃ v, w.heap[bb]? = some (.cells #[.int .u8 v] ty_uint8 (0, 0))
  nb : w0.heap.size ≤ bb
  repc : ∀ c, cp = some c → EndQ (bb < ·) w c (S win i) ownc
  newc : ∀ b ∈ ownc, w0.heap.size ≤ b
  dis : ∀ b ∈ own, b ∉ ownc
  ltc : ∀ b ∈ ownc, b < w.heap.size
variable {w0 : World} {be bb e0 e1 : Nat} {win : Int}
theorem ptr0 {w : World} (row : w.heap[be]? = some (.cells #[.pointer (some (at0 e0)), .pointer (some (at0 e1))] ty_p_channel_End (0, 0))) : w.cell? ((at0 be).add (Int.toNat 0 * 1)) = some (.pointer (some (at0 e0))) := cellAt (p := at0 be) row rfl rfl

/-- a message is sent at the end, and at the copy -/
theorem s12 (cut n : Int) (cp : Option Nat) (i : Nat) (hi : i < 20) (hw : 1 ≤ win ∧ win ≤ 16) (w : World) (own ownc : List Nat) (h : Inv w0 w be bb e0 e1 win i own cp ownc) (R : Post)
    (next : ∀ w' own' ownc', Inv w0 w' be bb e0 e1 win (i + 1) own' cp ownc' → enthymemelaw38_ChannelCopies.S16 cut (sl2 be) n (sl1 bb) (cp.map at0) i w' R) :
    enthymemelaw38_ChannelCopies.S12 cut (sl2 be) n (sl1 bb) (cp.map at0) i w R := by
  obtain ⟨fr, row, rep, new, ⟨v, bx⟩, nb, repc, newc, dis, ltc⟩ := h
  unfold enthymemelaw38_ChannelCopies.S12
  refine ⟨by omega, by simp, ?_⟩
  show W.optP (some (at0 bb)) _
  refine ⟨by rw [cellAt (p := at0 bb) bx rfl rfl]; rfl, frozenAt (p := at0 bb) bx, ?_⟩
  intro w1
  have b1 : w1.heap[bb]? = some (.cells #[.int .u8 (IntKind.wrap .u8 i)] ty_uint8 (0, 0)) := setAt (p := at0 bb) (i := 0) (v := .int .u8 (IntKind.wrap .u8 i)) bx rfl
  have f1 : Fr (· = bb) w w1 := Fr.set _ _ _ rfl
  have lb := lt_of_heap bx
  have s1 : w1.heap.size = w.heap.size := by simp [w1]
  clear_value w1
  have ob : ∀ o : List Nat, (∀ b ∈ o, ∀ cs f, w.heap[b]? ≠ some (.cells cs ty_uint8 f)) → ∀ b ∈ o, ¬ b = bb := fun o ho b hb e => by subst e; exact ho b hb _ _ bx
  have r1 : EndQ (bb < ·) w1 e0 (S win i) own := rep.frQ f1 (ob own rep.noBytes) (fun b e => by omega)
  have rc1 : ∀ c, cp = some c → EndQ (bb < ·) w1 c (S win i) ownc := fun c hc => (repc c hc).frQ f1 (ob ownc (repc c hc).noBytes) (fun b e => by omega)
  have row1 := f1.at row (fun e => ne_typ row bx (by decide) e)
  have F1 : Fr0 w0 w1 := fr.trans f1 fun x hx e => by omega
  have ev : IntKind.wrap .u8 (i : Int) = ((UInt8.ofNat i).toNat : Int) := by simp [IntKind.wrap, IntKind.bits, IntKind.signed]
  have hB : Bytes w1 (sl1 bb) (msg i) := by
    refine ⟨rfl, .inr ⟨bb, 0, _, _, rfl, b1, fun j v hj => ?_⟩⟩
    rw [ev]
    simpa [msg, byteV] using hj
  have ok := S_ok win i hw.1 hw.2 (by omega)
  unfold enthymemelaw38_ChannelCopies.S13
  refine ⟨by omega, by simp, ?_⟩
  show W.optP (some (at0 be)) _
  refine ⟨_, ptr0 row1, (sendQ_any r1 hB ok.s0 ok.s1 (fun x hx => by omega)).mono ?_⟩
  intro r w2 hs
  unfold SendQ at hs
  rw [if_neg (by rw [S_len]; simp [msg]; omega)] at hs
  obtain ⟨o2, rfl, r2, f2, oo2⟩ := hs
  rw [S_send] at r2
  refine ⟨_, rfl, ?_⟩
  have row2 := f2.at row1 (fun hm => r1.weak.noTyp (T := ty_p_channel_End) (by decide) (by decide) be hm _ _ row1)
  have b2 := f2.at b1 (fun hm => r1.noBytes bb hm _ _ b1)
  have F2 : Fr0 w0 w2 := fr0_of F1 new f2
  have new2 := new_of F1 new oo2
  have rc2 : ∀ c, cp = some c → EndQ (bb < ·) w2 c (S win i) ownc := fun c hc => (rc1 c hc).fr f2 (fun b hb hm => dis b hm hb) r1.noBytes
  have dis2 : ∀ b ∈ o2, b ∉ ownc := fun b hb hm => by
    rcases oo2 b hb with g | g
    · exact dis b g hm
    · have := ltc b hm; omega
  have sz2 := f2.size
  have ltc2 : ∀ b ∈ ownc, b < w2.heap.size := fun b hb => by have := ltc b hb; omega
  have hB2 : Bytes w2 (sl1 bb) (msg i) := hB.fr f2 r1.noBytes
  unfold enthymemelaw38_ChannelCopies.S14
  cases cp with
  | none => exact sel_false rfl (next w2 o2 ownc ⟨F2, row2, r2, new2, ⟨_, b2⟩, nb, fun c hc => by simp at hc, newc, dis2, ltc2⟩)
  | some c =>
    refine sel_true rfl ?_
    unfold enthymemelaw38_ChannelCopies.S15
    have rc := rc2 c rfl
    refine (sendQ_any rc hB2 ok.s0 ok.s1 (fun x hx => by omega)).mono ?_
    intro r w3 hs
    unfold SendQ at hs
    rw [if_neg (by rw [S_len]; simp [msg]; omega)] at hs
    obtain ⟨o3, rfl, r3, f3, oo3⟩ := hs
    rw [S_send] at r3
    refine ⟨_, rfl, next w3 o2 o3 ⟨fr0_of F2 newc f3, f3.at row2 (fun hm => rc.weak.noTyp (T := ty_p_channel_End) (by decide) (by decide) be hm _ _ row2), r2.fr f3 dis2 rc.noBytes, new2, ⟨_, f3.at b2 (fun hm => rc.noBytes bb hm _ _ b2)⟩, nb, fun c' hc => by cases hc; exact r3, new_of F2 newc oo3, fun b hb hm => ?_, r3.lt⟩⟩
    rcases oo3 b hm with g | g
    · exact dis2 b hb g
    · have := r2.lt b hb; omega

/-- after the messages: both ends, and what they hold lies below a mark -/
structure Two2 (w0 w : World) (be e0 e1 : Nat) (K : Nat) (st stc : St) (own : List Nat) (cp : Option Nat) (ownc : List Nat) : Prop where
  fr : Fr0 w0 w
  row : w.heap[be]? = some (.cells #[.pointer (some (at0 e0)), .pointer (some (at0 e1))] ty_p_channel_End (0, 0))
  rep : EndQ (· < K) w e0 st own
  new : ∀ b ∈ own, w0.heap.size ≤ b
  repc : ∀ c, cp = some c → EndQ (· < K) w c stc ownc
  newc : ∀ b ∈ ownc, w0.heap.size ≤ b
  dis : ∀ b ∈ own, b ∉ ownc

/-- what the copy returns -/
theorem l30 (n : Nat) (hn : n ≤ 20) (c : Nat) (p q : Sl) (hpn : p.n = N' win n) (stc : St) (ste : St) (hsc : stc.wait.length = n) (hse : ste.wait = []) (own ownc : List Nat) :
    ∀ (m i : Nat), i + m = N' win n → ∀ (w : World), Fr0 w0 w → w.heap[be]? = some (.cells #[.pointer (some (at0 e0)), .pointer (some (at0 e1))] ty_p_channel_End (0, 0)) → EndRep w e0 ste own → EndRep w c stc ownc → Pkts w q ((List.range (N' win n)).map fun i => ⟨(i + 1 : Nat), 0, msg i⟩) →
      enthymemelaw38_ChannelCopies.L30 (sl2 be) n (some (at0 c)) p q (i : Int) w (Fin w0) := by
  have hN : N' win n ≤ n := Nat.min_le_right _ _
  intro m
  induction m with
  | zero =>
    intro i hi w F row rep repc hq
    have hqn := hq.len
    simp at hqn
    refine enthymemelaw38_ChannelCopies.L30_step _ _ _ _ _ _ _ _ ?_
    unfold enthymemelaw38_ChannelCopies.S31 enthymemelaw38_ChannelCopies.S35
    refine sel_false (by rw [hqn]; simp; omega) (sel_true (by rw [hqn, hpn]; simp) ((waiting_any repc).mono ?_))
    rintro r w1 ⟨rfl, rfl⟩
    refine ⟨_, rfl, sel_true (by rw [hsc]; simp) ⟨by omega, by simp, ?_⟩⟩
    show W.optP (some (at0 be)) _
    refine ⟨_, ptr0 row, (waiting_any rep).mono ?_⟩
    rintro r w1 ⟨rfl, rfl⟩
    refine ⟨_, rfl, sel_true (by rw [hse]; rfl) ((lives_any w).mono ?_)⟩
    rintro r w2 ⟨rfl, f2⟩
    exact ⟨_, rfl, rfl, F.trans f2 fun _ _ h => h⟩
  | succ m ih =>
    intro i hi w F row rep repc hq
    have hqn := hq.len
    simp at hqn
    have hqi : ((List.range (N' win n)).map fun i => (⟨(i + 1 : Nat), 0, msg i⟩ : Pk))[i]? = some ⟨(i + 1 : Nat), 0, msg i⟩ := by
      rw [List.getElem?_map, List.getElem?_range (by omega)]; rfl
    have hbyte : (UInt8.ofNat i).toNat = i := by simp; omega
    refine enthymemelaw38_ChannelCopies.L30_step _ _ _ _ _ _ _ _ ?_
    unfold enthymemelaw38_ChannelCopies.S31 enthymemelaw38_ChannelCopies.S32
    refine sel_true (by rw [hqn]; simp; omega) ⟨by omega, by rw [hqn]; omega, hq.at hqi (by simp) fun pa sb hb g0 g1 g2 => ⟨sb, g2, sel_false (by rw [hb.1]; rfl) ⟨by omega, by rw [hqn]; omega, hq.at hqi (by simp) fun pa sb hb g0 g1 g2 => ⟨sb, g2, by omega, by rw [hb.1]; simp [msg], hb.cell (i := 0) rfl rfl fun pb hc => ⟨_, hc, sel_false ?_ ⟨by omega, by rw [hqn]; omega, hq.at hqi (by simp) fun pa sb hb g0 g1 g2 => ⟨_, g0, sel_false ?_ ?_⟩⟩⟩⟩⟩⟩⟩
    · rw [hbyte, IntWalk.i64_in _ (by omega)]; simp
    · rw [IntWalk.i64_in _ (by omega)]; simp
    · unfold enthymemelaw38_ChannelCopies.S34
      rw [show IntKind.wrap .i64 ((i : Int) + 1) = ((i + 1 : Nat) : Int) from by rw [IntWalk.i64_in _ (by omega)]; omega]
      exact ih (i + 1) (by omega) w F row rep repc hq

/-- after the packets were changed -/
theorem s25 (n : Nat) (hn : n ≤ 20) (hw : 1 ≤ win ∧ win ≤ 16) (K : Nat) (cp : Option Nat) (hcp : cp = none → n = 0) (p : Sl) (hpn : p.n = N' win n) (w : World) (own ownc : List Nat) (h : Two2 w0 w be e0 e1 K (S win n) (S win n) own cp ownc) :
    enthymemelaw38_ChannelCopies.S25 (sl2 be) n (cp.map at0) p w (Fin w0) := by
  unfold enthymemelaw38_ChannelCopies.S25
  cases cp with
  | none =>
    refine sel_true rfl ?_
    unfold enthymemelaw38_ChannelCopies.S26
    have := hcp rfl
    subst this
    refine sel_true rfl ((lives_any w).mono ?_)
    rintro r w2 ⟨rfl, f2⟩
    exact ⟨_, rfl, rfl, h.fr.trans f2 fun _ _ h => h⟩
  | some c =>
    refine sel_false rfl ?_
    unfold enthymemelaw38_ChannelCopies.S27
    refine ⟨by omega, by simp, ?_⟩
    show W.optP (some (at0 be)) _
    have ok := S_ok win n hw.1 hw.2 (by omega)
    refine ⟨_, ptr0 h.row, (in_any h.rep.weak ok (by simp [S]) (by simp [S]) (Bytes.nil w)).mono ?_⟩
    rintro r w1 ⟨x, o1, rfl, hx, r1, f1, oo1, nx⟩
    refine ⟨x, rfl, ?_⟩
    rw [S_in] at r1
    have row1 := f1.at h.row (fun hm => h.rep.weak.noTyp (T := ty_p_channel_End) (by decide) (by decide) be hm _ _ h.row)
    have rc0 := (h.repc c rfl).weak
    have rc1 := rc0.end h.rep.weak (fun b hb hm => h.dis b hm hb) f1
    have F1 := fr0_of h.fr h.new f1
    have dis1 : ∀ b ∈ o1, b ∉ ownc := fun b hb hm => by
      rcases oo1 b hb with g | g
      · exact h.dis b g hm
      · have := rc0.lt b hm; omega
    unfold enthymemelaw38_ChannelCopies.S28
    refine (out_any rc1 ok).mono ?_
    rintro r w2 ⟨q, rfl, hq, r2, f2, nq⟩
    refine ⟨q, rfl, ?_⟩
    rw [S_out] at hq
    unfold enthymemelaw38_ChannelCopies.S29
    exact l30 n hn c p q hpn _ _ (S_len win n) rfl o1 ownc (N' win n) 0 (by omega) w2 (fr0_of F1 h.newc f2) (f2.at row1 (fun hm => rc1.noTyp (T := ty_p_channel_End) (by decide) (by decide) be hm _ _ row1)) (r1.end rc1 dis1 f2) r2 hq

/-- the packets are read and changed -/
theorem l19 (n : Nat) (hn : n ≤ 20) (hw : 1 ≤ win ∧ win ≤ 16) (K : Nat) (hK : w0.heap.size ≤ K) (cp : Option Nat) (hcp : cp = none → n = 0) (p : Sl) (hpn : p.n = N' win n) (own ownc : List Nat) (cs : List (Int × Int × Sl)) (hnew : ∀ c ∈ cs, ∀ b ∈ blkL c.2.2, K ≤ b) (hpw : cs.Pairwise fun c c' => ∀ b ∈ blkL c.2.2, b ∉ blkL c'.2.2) :
    ∀ (m i : Nat), i + m = N' win n → ∀ (w : World), Two2 w0 w be e0 e1 K (S win n) (S win n) own cp ownc → Row w ty_channel_Packet p (cs.flatMap pkCells) →
      (∀ j, i ≤ j → j < N' win n → ∃ c, cs[j]? = some c ∧ c.2.2.n = 1 ∧ OwnRow w ty_uint8 1 c.2.2 [byteV (UInt8.ofNat j)]) →
      enthymemelaw38_ChannelCopies.L19 (sl2 be) n (cp.map at0) p (i : Int) w (Fin w0) := by
  have hN : N' win n ≤ n := Nat.min_le_right _ _
  intro m
  induction m with
  | zero =>
    intro i hi w h hr hc
    refine enthymemelaw38_ChannelCopies.L19_step _ _ _ _ _ _ _ ?_
    unfold enthymemelaw38_ChannelCopies.S20
    exact sel_false (by rw [hpn]; simp; omega) (s25 n hn hw K cp hcp p hpn w own ownc h)
  | succ m ih =>
    intro i hi w h hr hc
    obtain ⟨c, hci, hcn, hO⟩ := hc i (Nat.le_refl _) (by omega)
    have hbyte : (UInt8.ofNat i).toNat = i := by simp; omega
    have cell : ∀ {Kp : Addr → Prop}, (∀ pa, w.cell? ((pa.add (Int.toNat (i : Int) * 3)).add 2) = some c.2.2.v → Kp pa) → W.optP p.a Kp := fun hk => by
      refine hr.optP (i := i * 3 + 2) (v := c.2.2.v) (by rw [flat_get (by omega) hci]; rfl) fun pa _ hcell => hk pa ?_
      rw [add_add, Int.toNat_natCast]
      exact hcell _ _ (by rw [flat_get (by omega) hci]; rfl)
    rcases hO.cases with ⟨hs, hx⟩ | ⟨g, cur, ha, hg, _, _, _, ht⟩
    · simp at hx
    have hcur : cur[0]? = some (byteV (UInt8.ofNat i)) := by
      have := congrArg (fun l => l[0]?) ht
      simpa [hcn] using this
    refine enthymemelaw38_ChannelCopies.L19_step _ _ _ _ _ _ _ ?_
    unfold enthymemelaw38_ChannelCopies.S20 enthymemelaw38_ChannelCopies.S21
    refine sel_true (by rw [hpn]; simp; omega) ⟨by omega, by rw [hpn]; omega, cell fun pa g2 => ⟨c.2.2, g2, sel_false (by rw [hcn]; rfl) ⟨by omega, by rw [hpn]; omega, cell fun pa g2 => ⟨c.2.2, g2, by omega, by rw [hcn]; simp, ?_⟩⟩⟩⟩
    rw [ha]
    refine ⟨_, cellAt (p := at0 g) hg rfl hcur, sel_false (by rw [hbyte, IntWalk.i64_in _ (by omega)]; simp) ?_⟩
    unfold enthymemelaw38_ChannelCopies.S23
    refine ⟨by omega, by rw [hpn]; omega, cell fun pa g2 => ⟨c.2.2, g2, by omega, by rw [hcn]; simp, ?_⟩⟩
    rw [ha]
    refine ⟨by rw [cellAt (p := at0 g) (i := Int.toNat 0 * 1) hg rfl hcur]; rfl, frozenAt (p := at0 g) hg, ?_⟩
    intro w1
    have f1 : Fr (· = g) w w1 := Fr.set _ _ _ (add_block _ _)
    have hgK : K ≤ g := hnew c (List.mem_of_getElem? hci) g (by simp [blkL, ha])
    clear_value w1
    unfold enthymemelaw38_ChannelCopies.S24
    rw [show IntKind.wrap .i64 ((i : Int) + 1) = ((i + 1 : Nat) : Int) from by rw [IntWalk.i64_in _ (by omega)]; omega]
    have nog : ∀ b, ∀ o : List Nat, (∀ b ∈ o, ∀ cs f, w.heap[b]? ≠ some (.cells cs ty_uint8 f)) → b ∈ o → ¬ b = g := fun b o ho hb e => by subst e; exact ho b hb _ _ hg
    refine ih (i + 1) (by omega) w1 ⟨h.fr.trans f1 fun x hx e => by omega, f1.at h.row (fun e => ne_typ h.row hg (by decide) e), h.rep.frQ f1 (fun b hb => nog b own h.rep.noBytes hb) (fun b e => by omega), h.new, fun c' hc' => (h.repc c' hc').frQ f1 (fun b hb => nog b ownc (h.repc c' hc').noBytes hb) (fun b e => by omega), h.newc, h.dis⟩ (hr.fr f1 fun b hb e => row_ne hr hg (by decide) (by rw [← e]; exact hb)) fun j hj hjN => ?_
    obtain ⟨c', hcj, hcn', hO'⟩ := hc j (by omega) hjN
    refine ⟨c', hcj, hcn', hO'.fr f1 fun b hb e => ?_⟩
    obtain ⟨hil, hie⟩ := List.getElem?_eq_some_iff.1 hci
    obtain ⟨hjl, hje⟩ := List.getElem?_eq_some_iff.1 hcj
    have := List.pairwise_iff_getElem.1 hpw i j hil hjl (by omega)
    rw [hie, hje] at this
    exact this g (by simp [blkL, ha]) (by rw [← e]; exact hb)

/-- the messages -/
theorem l8 (hw : 1 ≤ win ∧ win ≤ 16) (cut : Int) (c1 : -9223372036854775808 ≤ cut) (c2 : cut ≤ 9223372036854775807) (n : Nat) (hn : n < 12) : ∀ (m i : Nat), i + m = n → ∀ (w : World) (own ownc : List Nat) (cp : Option Nat), (n ≠ 0 → (cp = none ↔ (i : Int) ≤ aroundI cut n)) → (cp = none → ownc = []) → Inv w0 w be bb e0 e1 win i own cp ownc →
    enthymemelaw38_ChannelCopies.L8 cut (sl2 be) n (sl1 bb) (cp.map at0) (i : Int) w (Fin w0) := by
  intro m
  induction m with
  | zero =>
    intro i hi w own ownc cp hcp hoc h
    obtain rfl : i = n := by omega
    have hcp0 : cp = none → i = 0 := fun e => by
      by_cases h0 : i = 0
      · exact h0
      · have := (hcp h0).1 e
        have := aroundI_range cut i (by omega)
        omega
    have ok := S_ok win i hw.1 hw.2 (by omega)
    refine enthymemelaw38_ChannelCopies.L8_step _ _ _ _ _ _ _ _ ?_
    unfold enthymemelaw38_ChannelCopies.S9 enthymemelaw38_ChannelCopies.S17
    refine sel_false (by simp) ⟨by omega, by simp, ?_⟩
    show W.optP (some (at0 be)) _
    refine ⟨_, ptr0 h.row, (outQ_any h.rep.weak.q ok).mono ?_⟩
    rintro r w1 ⟨p, rfl, ⟨cs, hpn, hpr, hpa⟩, r1, f1, _⟩
    refine ⟨p, rfl, ?_⟩
    rw [S_out] at hpn hpa
    simp at hpn
    unfold enthymemelaw38_ChannelCopies.S18
    refine l19 (e1 := e1) i (by omega) hw w.heap.size h.fr.size cp hcp0 p hpn own ownc cs hpa.new hpa.dis (N' win i) 0 (by omega) w1 ⟨fr0_of h.fr h.new f1, f1.at h.row (fun hm => h.rep.weak.noTyp (T := ty_p_channel_End) (by decide) (by decide) be hm _ _ h.row), r1, h.new, fun c hc => (h.repc c hc).weak.q.fr f1 (fun b hb hm => h.dis b hm hb) h.rep.noBytes, h.newc, h.dis⟩ hpr fun j _ hj => ?_
    obtain ⟨c, hc, _, _, q3, q4⟩ := hpa.all.get' (i := j) (b := ⟨(j + 1 : Nat), 0, msg j⟩) (by rw [List.getElem?_map, List.getElem?_range hj]; rfl)
    exact ⟨c, hc, q3, q4⟩
  | succ m ih =>
    intro i hi w own ownc cp hcp hoc h
    have hn0 : n ≠ 0 := by omega
    have har := aroundI_range cut n (by omega)
    refine enthymemelaw38_ChannelCopies.L8_step _ _ _ _ _ _ _ _ ?_
    unfold enthymemelaw38_ChannelCopies.S9 enthymemelaw38_ChannelCopies.S10
    refine sel_true (by simp; omega) ((around_any cut n w (by omega) c1 c2).mono ?_)
    rintro r w1 ⟨rfl, rfl⟩
    refine ⟨_, rfl, sel_intro (fun he => ?_) (fun he => ?_)⟩
    · have he' : (i : Int) = aroundI cut n := by simpa using he
      have hnone : cp = none := (hcp hn0).2 (by omega)
      have hoc' := hoc hnone
      subst hoc'
      unfold enthymemelaw38_ChannelCopies.S11
      refine ⟨by omega, by simp, ?_⟩
      show W.optP (some (at0 be)) _
      refine ⟨_, ptr0 h.row, (copy_any h.rep.weak (S_ok win i hw.1 hw.2 (by omega)) rfl).mono ?_⟩
      rintro r w1 ⟨cb, oc, rfl, rc, f1, nc⟩
      refine ⟨_, rfl, ?_⟩
      have hbs : bb < w.heap.size := by obtain ⟨v, hv⟩ := h.bx; exact lt_of_heap hv
      have h1 : Inv w0 w1 be bb e0 e1 win i own (some cb) oc := ⟨h.fr.trans f1 fun _ _ h => h, f1.at h.row id, h.rep.fr0 f1, h.new, by obtain ⟨v, hv⟩ := h.bx; exact ⟨v, f1.at hv id⟩, h.nb, fun c hc => by cases hc; exact rc.mono fun b hb => by omega, fun b hb => Nat.le_trans h.fr.size (nc b hb), fun b hb hm => by
        have g1 := nc b hm
        have g2 := h.rep.lt b hb
        omega, rc.lt⟩
      refine s12 cut n (some cb) i (by omega) hw w1 own oc h1 _ fun w' own' ownc' h' => ?_
      unfold enthymemelaw38_ChannelCopies.S16
      rw [show IntKind.wrap .i64 ((i : Int) + 1) = ((i + 1 : Nat) : Int) from by rw [IntWalk.i64_in _ (by omega)]; omega]
      exact ih (i + 1) (by omega) w' own' ownc' (some cb) (fun _ => ⟨fun h => by simp at h, fun h => by omega⟩) (fun h => by simp at h) h'
    · have he' : (i : Int) ≠ aroundI cut n := by simpa using he
      have hcp' := hcp hn0
      by_cases hnone : cp = none
      · have hoc' := hoc hnone
        subst hoc' hnone
        refine s12 cut n none i (by omega) hw w own [] h _ fun w' own' ownc' h' => ?_
        unfold enthymemelaw38_ChannelCopies.S16
        rw [show IntKind.wrap .i64 ((i : Int) + 1) = ((i + 1 : Nat) : Int) from by rw [IntWalk.i64_in _ (by omega)]; omega]
        have g := hcp'.1 rfl
        exact ih (i + 1) (by omega) w' own' [] none (fun _ => ⟨fun _ => by omega, fun _ => rfl⟩) (fun _ => rfl) ⟨h'.fr, h'.row, h'.rep, h'.new, h'.bx, h'.nb, fun c hc => by simp at hc, by simp, by simp, by simp⟩
      · refine s12 cut n cp i (by omega) hw w own ownc h _ fun w' own' ownc' h' => ?_
        unfold enthymemelaw38_ChannelCopies.S16
        rw [show IntKind.wrap .i64 ((i : Int) + 1) = ((i + 1 : Nat) : Int) from by rw [IntWalk.i64_in _ (by omega)]; omega]
        exact ih (i + 1) (by omega) w' own' ownc' cp (fun _ => ⟨fun h => absurd h hnone, fun h => absurd (hcp'.2 (by omega)) hnone⟩) (fun h => absurd h hnone) h'

theorem walk (window many cut : Int) (a1 : -9223372036854775808 ≤ window) (a2 : window ≤ 9223372036854775807) (b1 : -9223372036854775808 ≤ many) (b2 : many ≤ 9223372036854775807) (c1 : -9223372036854775808 ≤ cut) (c2 : cut ≤ 9223372036854775807) (w : World) :
    Calls Try.prog n_enthymemelaw38_ChannelCopies #[.int .i64 window, .int .i64 many, .int .i64 cut] w (Fin w) := by
  refine enthymemelaw38_ChannelCopies.ok window many cut w _ ?_
  unfold enthymemelaw38_ChannelCopies.S0 enthymemelaw38_ChannelCopies.S1
  refine (ends_any window w a1 a2).mono ?_
  rintro r w1 ⟨be, eb, own, rfl, hT⟩
  refine ⟨sl2 be, rfl, ?_⟩
  unfold enthymemelaw38_ChannelCopies.S2 enthymemelaw38_ChannelCopies.S4
  refine sel_false rfl ((around_any many 12 w1 (by omega) b1 b2).mono ?_)
  rintro r w2 ⟨rfl, rfl⟩
  refine ⟨_, rfl, ?_⟩
  have r1 := aroundI_range many 12 (by omega)
  obtain ⟨n, hn⟩ := Int.eq_ofNat_of_zero_le r1.1
  rw [hn] at r1 ⊢
  unfold enthymemelaw38_ChannelCopies.S5
  intro w2
  have f2 : Fr0 w1 w2 := Fr.alloc _ _ _
  have T2 := hT.fr0 f2
  unfold enthymemelaw38_ChannelCopies.S6 enthymemelaw38_ChannelCopies.S7
  refine l8 (e1 := eb 1) (win := win0 window 0) (win0_range window 0) cut c1 c2 n (by omega) n 0 (by omega) w2 (own 0) [] none (fun h0 => ?_) (fun _ => rfl) ⟨T2.fr, T2.row, ?_, T2.new 0 (by omega), ⟨0, heap_new _ _⟩, hT.fr.size, fun c hc => by simp at hc, by simp, by simp, by simp⟩
  · have := aroundI_range cut n (by omega)
    exact ⟨fun _ => by omega, fun _ => rfl⟩
  · exact (T2.rep 0 (by omega)).q0 rfl rfl _
end Cop
end Go.Proofs.Ytellmncndfmbbaa

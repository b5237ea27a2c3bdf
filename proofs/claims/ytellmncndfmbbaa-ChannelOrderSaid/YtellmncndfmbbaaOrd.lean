/- enthymemelaw38.ChannelOrder returns true for every window and list of numbers, and writes nothing that was there before. -/
import Derived.Test.YtellmncndfmbbaaOrdL
import Derived.Test.YtellmncndfmbbaaV4
namespace Go.Proofs.Ytellmncndfmbbaa
open Go Go.W
namespace Ord
abbrev sl2 (b : Nat) : Sl := ⟨some (at0 b), 2, 2⟩
abbrev Fin (w0 : World) : Post := fun r w' => r = .returned (.bool true) ∧ Fr0 w0 w'
abbrev intV (n : Nat) : Value := .int .i64 (n : Int)

/-- messages in a row of one's own -/
def MsgsO (w : World) (s : Sl) (l : List Msg) : Prop := ∃ sls : List Sl, OwnRow w ty_sl_uint8 1 s (sls.map Sl.v) ∧ All2 (Bytes w) sls l
def PktsO (w : World) (s : Sl) (l : List Pk) : Prop := ∃ cs : List (Int × Int × Sl), OwnRow w ty_channel_Packet 3 s (cs.flatMap pkCells) ∧ All2 (PkIs w) cs l
theorem flat_len : ∀ cs : List (Int × Int × Sl), (cs.flatMap pkCells).length = cs.length * 3
  | [] => rfl
  | c :: cs => by simp [flat_len cs, pkCells]; omega
theorem MsgsO.msgs {w : World} {s : Sl} {l : List Msg} (h : MsgsO w s l) : Msgs w s l := by
  obtain ⟨sls, h1, h2⟩ := h
  exact ⟨sls, by have := h1.len; simp at this; rw [← h2.length, this], h1.row, h2⟩
theorem PktsO.pkts {w : World} {s : Sl} {l : List Pk} (h : PktsO w s l) : Pkts w s l := by
  obtain ⟨cs, h1, h2⟩ := h
  exact ⟨cs, by have := h1.len; rw [flat_len] at this; rw [← h2.length]; omega, h1.row, h2⟩
theorem MsgsO.typ {w : World} {s : Sl} {l : List Msg} (h : MsgsO w s l) {b : Nat} {cs : Array Value} {T : TypeId} {f : Nat × Nat} (hb : w.heap[b]? = some (.cells cs T f)) (hT : ty_sl_uint8 ≠ T) : b ∉ blkL s := by
  obtain ⟨sls, h1, h2⟩ := h; exact row_ne h1.row hb hT
theorem PktsO.typ {w : World} {s : Sl} {l : List Pk} (h : PktsO w s l) {b : Nat} {cs : Array Value} {T : TypeId} {f : Nat × Nat} (hb : w.heap[b]? = some (.cells cs T f)) (hT : ty_channel_Packet ≠ T) : b ∉ blkL s := by
  obtain ⟨sls, h1, h2⟩ := h; exact row_ne h1.row hb hT
theorem MsgsO.lt {w : World} {s : Sl} {l : List Msg} (h : MsgsO w s l) : ∀ b ∈ blkL s, b < w.heap.size := by
  obtain ⟨sls, h1, h2⟩ := h; exact h1.lt

theorem upd_v (x : Nat → Sl) (k : Nat) (v : Sl) (j : Nat) : upd (fun k => (x k).v) k v.v j = (upd x k v j).v := by
  unfold upd; split <;> rfl
/-- what the law holds beside the ends -/
structure Rest (w0 w : World) (bs bg : Nat) (S : Nat → List Msg) (g : Nat → Nat) (sl : Nat → Sl) (lk to : Sl) (L : List Pk) (tos : List Nat) : Prop where
  sent : w.heap[bs]? = some (.cells #[(sl 0).v, (sl 1).v] ty_sl_sl_uint8 (0, 0))
  nbs : w0.heap.size ≤ bs
  srow : ∀ k, k < 2 → MsgsO w (sl k) (S k)
  snew : ∀ k, k < 2 → ∀ b ∈ blkL (sl k), w0.heap.size ≤ b
  sdis : ∀ j k, j < 2 → k < 2 → j ≠ k → ∀ b ∈ blkL (sl j), b ∉ blkL (sl k)
  got : w.heap[bg]? = some (.cells #[intV (g 0), intV (g 1)] ty_int (0, 0))
  nbg : w0.heap.size ≤ bg
  link : PktsO w lk L
  lnew : ∀ b ∈ blkL lk, w0.heap.size ≤ b
  tor : OwnRow w ty_int 1 to (tos.map intV)
  tnew : ∀ b ∈ blkL to, w0.heap.size ≤ b
  tg : bg ∉ blkL to

variable {w0 : World} {be bs bg : Nat} {eb : Nat → Nat} {win : Nat → Int}

theorem Rest.fr {w w' : World} {S : Nat → List Msg} {g : Nat → Nat} {sl : Nat → Sl} {lk to : Sl} {L : List Pk} {tos : List Nat} (h : Rest w0 w bs bg S g sl lk to L tos) {M : Nat → Prop} (f : Fr M w w') (m1 : ¬ M bs) (m2 : ¬ M bg) (m3 : ∀ k, k < 2 → ∀ b ∈ blkL (sl k), ¬ M b) (m4 : ∀ b ∈ blkL lk, ¬ M b) (m5 : ∀ b ∈ blkL to, ¬ M b)
    (hb : ∀ b, M b → ∀ cs f, w.heap[b]? ≠ some (.cells cs ty_uint8 f)) : Rest w0 w' bs bg S g sl lk to L tos := by
  refine ⟨f.at h.sent m1, h.nbs, fun k hk => ?_, h.snew, h.sdis, f.at h.got m2, h.nbg, ?_, h.lnew, h.tor.fr f m5, h.tnew, h.tg⟩
  · obtain ⟨sls, h1, h2⟩ := h.srow k hk
    exact ⟨sls, h1.fr f (m3 k hk), h2.mono fun a _ b _ h => h.fr f hb⟩
  · obtain ⟨cs, h1, h2⟩ := h.link
    exact ⟨cs, h1.fr f m4, h2.mono fun a _ b _ h => ⟨h.1, h.2.1, h.2.2.fr f hb⟩⟩
theorem Rest.fr0 {w w' : World} {S : Nat → List Msg} {g : Nat → Nat} {sl : Nat → Sl} {lk to : Sl} {L : List Pk} {tos : List Nat} (h : Rest w0 w bs bg S g sl lk to L tos) (f : Fr0 w w') : Rest w0 w' bs bg S g sl lk to L tos :=
  h.fr f id id (fun _ _ _ _ h => h) (fun _ _ h => h) (fun _ _ h => h) fun _ h => h.elim

structure Inv (w0 w : World) (be bs bg : Nat) (eb : Nat → Nat) (win : Nat → Int) (S : Nat → List Msg) (a d : Nat → Nat) (held : Nat → List (Int × Msg)) (ow : Nat → Bool) (g : Nat → Nat) (sl : Nat → Sl) (lk to : Sl) (L : List Pk) (tos : List Nat) (own : Nat → List Nat) : Prop where
  two : Two w0 w be eb (fun k => E (win k) (S k) (a k) (d k) (held k) (ow k)) own
  rest : Rest w0 w bs bg S g sl lk to L tos
  sown : ∀ j k, j < 2 → k < 2 → ∀ b ∈ blkL (sl j), b ∉ own k
theorem Inv.fr0 {w w' : World} {S : Nat → List Msg} {a d : Nat → Nat} {held : Nat → List (Int × Msg)} {ow : Nat → Bool} {g : Nat → Nat} {sl : Nat → Sl} {lk to : Sl} {L : List Pk} {tos : List Nat} {own : Nat → List Nat} (h : Inv w0 w be bs bg eb win S a d held ow g sl lk to L tos own) (f : Fr0 w w') : Inv w0 w' be bs bg eb win S a d held ow g sl lk to L tos own :=
  ⟨h.two.fr0 f, h.rest.fr0 f, h.sown⟩
/-- an operation on an end -/
theorem Inv.step {w w' : World} {S : Nat → List Msg} {a d : Nat → Nat} {held : Nat → List (Int × Msg)} {ow : Nat → Bool} {g : Nat → Nat} {sl : Nat → Sl} {lk to : Sl} {L : List Pk} {tos : List Nat} {own : Nat → List Nat} (h : Inv w0 w be bs bg eb win S a d held ow g sl lk to L tos own) {k : Nat} (hk : k < 2) {st' : St} {own' : List Nat}
    (r : EndRep w' (eb k) st' own') (f : Fr (· ∈ own k) w w') (oo : ∀ x ∈ own', x ∈ own k ∨ w.heap.size ≤ x) :
    Two w0 w' be eb (upd (fun k => E (win k) (S k) (a k) (d k) (held k) (ow k)) k st') (upd own k own') ∧ Rest w0 w' bs bg S g sl lk to L tos ∧ ∀ j i, j < 2 → i < 2 → ∀ b ∈ blkL (sl j), b ∉ upd own k own' i := by
  have R := h.rest
  refine ⟨h.two.step hk r f oo, R.fr f (h.two.not_own hk R.sent (by decide) (by decide)) (h.two.not_own hk R.got (by decide) (by decide)) (fun j hj b hb => h.sown j k hj hk b hb) (fun b hb => ?_) (fun b hb => ?_) (h.two.rep k hk).noBytes, fun j i hj hi b hb => ?_⟩
  · obtain ⟨cs, h1, _⟩ := R.link
    obtain ⟨cs', f', hc⟩ := h1.row.typ b hb
    exact h.two.not_own hk hc (by decide) (by decide)
  · obtain ⟨cs', f', hc⟩ := R.tor.row.typ b hb
    exact h.two.not_own hk hc (by decide) (by decide)
  · by_cases e : i = k
    · subst e
      rw [upd_same]
      intro hm
      rcases oo b hm with g | g
      · exact h.sown j i hj hi b hb g
      · have := (R.srow j hj).lt b hb; omega
    · rw [upd_ne _ _ e]; exact h.sown j i hj hi b hb

section
variable {S : Nat → List Msg} {a d : Nat → Nat} {held : Nat → List (Int × Msg)} {ow : Nat → Bool} {sl : Nat → Sl} {lk to : Sl} {L : List Pk} {tos : List Nat} {own : Nat → List Nat}

/-- the check at the end of a round -/
theorem l20 (l1 : Sl) (i : Int) (n : Nat) (hn : n ≤ 100) (w : World) (h : Inv w0 w be bs bg eb win S a d held ow d sl lk to L tos own) (P : Pl S a d held L tos n) (R : Post)
    (next : ∀ w', Fr0 w w' → Inv w0 w' be bs bg eb win S a d held ow d sl lk to L tos own → enthymemelaw38_ChannelOrder.S25 l1 (sl2 be) (sl2 bs) (sl2 bg) lk to i w' R) : enthymemelaw38_ChannelOrder.S19 l1 (sl2 be) (sl2 bs) (sl2 bg) lk to i w R := by
  have one : ∀ (k : Nat) (hk : k < 2) (w : World), Inv w0 w be bs bg eb win S a d held ow d sl lk to L tos own →
      (∀ w', Fr0 w w' → Inv w0 w' be bs bg eb win S a d held ow d sl lk to L tos own → enthymemelaw38_ChannelOrder.L20 l1 (sl2 be) (sl2 bs) (sl2 bg) lk to i ((k + 1 : Nat) : Int) w' R) →
      enthymemelaw38_ChannelOrder.L20 l1 (sl2 be) (sl2 bs) (sl2 bg) lk to i (k : Int) w R := by
    intro k hk w h hK
    have hk1 : 1 - k < 2 := by omega
    have e1k : IntKind.wrap .i64 ((1 : Int) - (k : Int)) = ((1 - k : Nat) : Int) := by rw [IntWalk.i64_in _ (by omega)]; omega
    have fd : Fr0 w w.drew := Fr.drew _ _
    have hd := h.fr0 fd
    have hsl : (sl k).n = (S k).length := (hd.rest.srow k hk).msgs.len
    have hwl : (E (win k) (S k) (a k) (d k) (held k) (ow k)).wait.length = (S k).length - a k := by simp [E]
    have p1 := P.ad k hk
    have p2 := P.ds k hk
    have p3 := P.sl k hk
    refine enthymemelaw38_ChannelOrder.L20_step _ _ _ _ _ _ _ _ _ _ ?_
    unfold enthymemelaw38_ChannelOrder.S21 enthymemelaw38_ChannelOrder.S22
    rw [e1k]
    refine sel_true (by simp; omega) ⟨by omega, by simp; omega, ?_⟩
    show W.optP (some (at0 be)) _
    refine ⟨_, hd.two.ptr hk (by simp), by omega, by simp; omega, ?_⟩
    show W.optP (some (at0 bs)) _
    have cs := cell2v (x := fun k => (sl k).v) hd.rest.sent hk (j := Int.toNat ((k : Nat) : Int) * 1) (by simp)
    have cg := cell2v (x := fun k => intV (d k)) hd.rest.got hk1 (j := Int.toNat ((1 - k : Nat) : Int) * 1) (by simp)
    refine ⟨sl k, cs, (waiting_any (hd.two.rep k hk)).mono ?_⟩
    rintro r w1 ⟨rfl, rfl⟩
    refine ⟨_, rfl, cs, sel_false (by rw [hwl, hsl]; simp) ⟨by omega, by simp; omega, ?_⟩⟩
    show W.optP (some (at0 be)) _
    refine ⟨_, hd.two.ptr hk (by simp), by omega, by simp; omega, ?_⟩
    show W.optP (some (at0 bs)) _
    refine ⟨sl k, cs, by omega, by simp; omega, ?_⟩
    show W.optP (some (at0 bg)) _
    refine ⟨_, cg, (waiting_any (hd.two.rep k hk)).mono ?_⟩
    rintro r w1 ⟨rfl, rfl⟩
    refine ⟨_, rfl, cg, cs, cs, sel_false ?_ ?_⟩
    · rw [hwl, hsl, IntWalk.i64_in _ (by omega)]; simp; omega
    · unfold enthymemelaw38_ChannelOrder.S24
      rw [show IntKind.wrap .i64 ((k : Int) + 1) = ((k + 1 : Nat) : Int) from by rw [IntWalk.i64_in _ (by omega)]; omega]
      exact hK _ fd hd
  unfold enthymemelaw38_ChannelOrder.S19
  refine one 0 (by omega) w h fun w1 f1 h1 => one 1 (by omega) w1 h1 fun w2 f2 h2 => ?_
  refine enthymemelaw38_ChannelOrder.L20_step _ _ _ _ _ _ _ _ _ _ ?_
  unfold enthymemelaw38_ChannelOrder.S21
  exact sel_false (by decide) (next w2 (f1.trans f2 fun _ _ h => h) h2)

/-- a message is sent -/
theorem s15 (l1 : Sl) (i : Nat) (k : Nat) (hk : k < 2) (hi : i < 80) (hw : ∀ j, 1 ≤ win j ∧ win j ≤ 16) (w : World) (h : Inv w0 w be bs bg eb win S a d held ow d sl lk to L tos own) (P : Pl S a d held L tos i) (R : Post)
    (next : ∀ w' S' sl' own', Inv w0 w' be bs bg eb win S' a d held ow d sl' lk to L tos own' → Pl S' a d held L tos (i + 1) → enthymemelaw38_ChannelOrder.S19 l1 (sl2 be) (sl2 bs) (sl2 bg) lk to i w' R) :
    enthymemelaw38_ChannelOrder.S15 l1 (sl2 be) (sl2 bs) (sl2 bg) lk to i k w R := by
  unfold enthymemelaw38_ChannelOrder.S15
  intro w1
  have f1 : Fr0 w w1 := Fr.alloc _ _ _
  have h1 := h.fr0 f1
  have ev : IntKind.wrap .u8 (i : Int) = ((UInt8.ofNat i).toNat : Int) := by simp [IntKind.wrap, IntKind.bits, IntKind.signed]
  have hB : Bytes w1 ⟨some ⟨w.heap.size, 0, none⟩, 2, 2⟩ [UInt8.ofNat i, 3] := by
    refine ⟨rfl, .inr ⟨w.heap.size, 0, _, _, rfl, heap_new _ _, fun j v hj => ?_⟩⟩
    rw [ev]
    simpa [byteV] using hj
  unfold enthymemelaw38_ChannelOrder.S16
  have ok := P.ok (by omega) (hw k).1 (hw k).2 (ow k) hk
  refine ⟨by omega, by simp; omega, ?_⟩
  show W.optP (some (at0 be)) _
  refine ⟨_, h1.two.ptr hk (by simp), (send_any (h1.two.rep k hk) hB ok.s0 ok.s1).mono ?_⟩
  intro r w2 hs
  unfold SendPost at hs
  have hsk := P.sl k hk
  rw [if_neg (by simp [E]; omega)] at hs
  obtain ⟨o2, rfl, r2, f2, oo2⟩ := hs
  refine ⟨_, rfl, sel_false rfl ?_⟩
  obtain ⟨t2, R2, so2⟩ := h1.step hk r2 f2 oo2
  have hB2 : Bytes w2 _ _ := hB.end (h1.two.rep k hk) f2
  unfold enthymemelaw38_ChannelOrder.S18
  have cs := cell2v (x := fun k => (sl k).v) R2.sent hk (j := Int.toNat ((k : Nat) : Int) * 1) (by simp)
  refine ⟨by omega, by simp; omega, ?_⟩
  show W.optP (some (at0 bs)) _
  refine ⟨sl k, cs, ?_⟩
  intro w3
  have f3 : Fr0 w2 w3 := Fr.alloc _ _ _
  have t3 := t2.fr0 f3
  have R3 := R2.fr0 f3
  obtain ⟨sls, hO, hA⟩ := R3.srow k hk
  have hsn : (sl k).n = (S k).length := (R3.srow k hk).msgs.len
  obtain ⟨s4, w4, hrun, o4, n4, f4, bl4, _⟩ := append_own (ty := ty_sl_sl_uint8) el_msgs hO (Row.one w2 ty_sl_uint8 [Sl.v ⟨some ⟨w.heap.size, 0, none⟩, 2, 2⟩]) rfl (by simp [Value.oneCell']) (by rw [hsn]; simp; omega)
  refine ⟨s4, w4, hrun, by omega, by simp; omega, ?_⟩
  show W.optP (some (at0 bs)) _
  have nbs4 : bs ∉ blkL (sl k) := row_ne hO.row R3.sent (by decide)
  have c4 := f4.at R3.sent nbs4
  have nb4 : ∀ b, b ∈ blkL (sl k) → ∀ cs f, w3.heap[b]? ≠ some (.cells cs ty_uint8 f) := row_noTyp hO.row (by decide)
  refine ⟨by rw [cell2v (x := fun k => (sl k).v) c4 hk (by simp)]; rfl, frozenAt (p := at0 bs) c4, ?_⟩
  intro w5
  have c5 : w5.heap[bs]? = _ := set2v (x := fun k => (sl k).v) c4 hk (j := Int.toNat ((k : Nat) : Int) * 1) (by simp) s4.v
  have f5 : Fr (· = bs) w4 w5 := Fr.set _ _ _ (add_block _ _)
  have nb5 : ∀ b, b = bs → ∀ cs f, w4.heap[b]? ≠ some (.cells cs ty_uint8 f) := fun b e cs f => by rw [e]; exact cells_typ c4 (by decide)
  have t4 : Two w0 w4 be eb _ _ := t3.any f4 (R3.snew k hk) (row_ne hO.row t3.row (by decide)) (fun j hj b hb hm => so2 k j hk hj b hm hb) nb4
  have t5 : Two w0 w5 be eb _ _ := t4.any f5 (fun b e => by rw [e]; exact R3.nbs) (fun e => ne_typ t4.row c4 (by decide) e) (fun j hj b hb e => t4.not_own hj c4 (by decide) (by decide) (by rw [← e]; exact hb)) nb5
  have old : ∀ j, j < 2 → j ≠ k → MsgsO w5 (sl j) (S j) := fun j hj hjk => by
    obtain ⟨sls', h1', h2'⟩ := R3.srow j hj
    have g4 := h1'.fr f4 (R3.sdis j k hj hk hjk)
    exact ⟨sls', g4.fr f5 (fun b hb e => row_ne g4.row c4 (by decide) (by rw [← e]; exact hb)), h2'.mono fun a _ b _ h => (h.fr f4 nb4).fr f5 nb5⟩
  have bnew : ∀ b ∈ blkL s4, b ∈ blkL (sl k) ∨ w2.heap.size ≤ b := fun b hb => by
    rcases bl4 b hb with g | g
    · exact .inl g
    · exact .inr (Nat.le_trans f3.size g)
  have new2 : w0.heap.size ≤ w2.heap.size := t2.fr.size
  refine next w5 (upd S k (S k ++ [[UInt8.ofNat i, 3]])) (upd sl k s4) (upd own k o2) ⟨two_congr t5 (fun j hj => ?_) (fun _ _ => rfl), ⟨?_, R3.nbs, fun j hj => ?_, fun j hj b hb => ?_, fun j l hj hl hjl b hb => ?_, f5.at (f4.at R3.got (row_ne hO.row R3.got (by decide))) (fun e => ne_typ R3.got R3.sent (by decide) e), R3.nbg, ?_, R3.lnew, ?_, R3.tnew, R3.tg⟩, fun j l hj hl b hb => ?_⟩ (P.send hk _ (by simp))
  · by_cases e : j = k
    · subst e
      simp only [upd_same]
      unfold sendSt E
      simp only [St.mk.injEq, true_and, and_true]
      have p1 := P.ad j hj
      have p2 := P.ds j hj
      refine ⟨by simp, ?_⟩
      rw [List.drop_append_of_le_length (by omega)]
    · simp only [upd_ne _ _ e]
  · rw [c5, upd_v, upd_v]
  · by_cases e : j = k
    · subst e
      rw [upd_same, upd_same]
      refine ⟨sls ++ [⟨some ⟨w.heap.size, 0, none⟩, 2, 2⟩], ?_, (hA.mono fun a _ b _ h => (h.fr f4 nb4).fr f5 nb5).append ⟨((hB2.fr0 f3).fr f4 nb4).fr f5 nb5, trivial⟩⟩
      have := o4.fr f5 (fun b hb e => row_ne o4.row c4 (by decide) (by rw [← e]; exact hb))
      simpa using this
    · rw [upd_ne _ _ e, upd_ne _ _ e]; exact old j hj e
  · by_cases e : j = k
    · subst e
      rw [upd_same] at hb
      rcases bnew b hb with g | g
      · exact R3.snew j hj b g
      · omega
    · rw [upd_ne _ _ e] at hb; exact R3.snew j hj b hb
  · by_cases e : j = k
    · subst e
      rw [upd_same] at hb
      rw [upd_ne _ _ (Ne.symm hjl)]
      intro hm
      rcases bnew b hb with g | g
      · exact R3.sdis j l hj hl hjl b g hm
      · have := (R2.srow l hl).lt b hm; omega
    · rw [upd_ne _ _ e] at hb
      by_cases e' : l = k
      · subst e'
        rw [upd_same]
        intro hm
        rcases bnew b hm with g | g
        · exact R3.sdis j l hj hl hjl b hb g
        · have := (R2.srow j hj).lt b hb; omega
      · rw [upd_ne _ _ e']; exact R3.sdis j l hj hl hjl b hb
  · obtain ⟨cs', g1, g2⟩ := R3.link
    have g4 := g1.fr f4 (row_dis g1.row hO.row (by decide))
    exact ⟨cs', g4.fr f5 (fun b hb e => row_ne g4.row c4 (by decide) (by rw [← e]; exact hb)), g2.mono fun a _ b _ h => ⟨h.1, h.2.1, (h.2.2.fr f4 nb4).fr f5 nb5⟩⟩
  · have g4 := R3.tor.fr f4 (row_dis R3.tor.row hO.row (by decide))
    exact g4.fr f5 (fun b hb e => row_ne g4.row c4 (by decide) (by rw [← e]; exact hb))
  · by_cases e : j = k
    · subst e
      rw [upd_same] at hb
      rcases bnew b hb with g | g
      · exact so2 j l hj hl b g
      · intro hm
        have := (t2.rep l hl).lt b hm; omega
    · rw [upd_ne _ _ e] at hb; exact so2 j l hj hl b hb

/-- the packets of Out are put on the link -/
theorem l29 (l1 : Sl) (i : Int) (k : Nat) (hk : k < 2) (p : Sl) (l : List Pk) (hl : l.length ≤ 16) (R : Post)
    (next : ∀ w' lk' to', Inv w0 w' be bs bg eb win S a d held ow d sl lk' to' (L ++ l) (tos ++ List.replicate l.length (1 - k)) own → enthymemelaw38_ChannelOrder.S19 l1 (sl2 be) (sl2 bs) (sl2 bg) lk' to' i w' R) (hL : L.length ≤ 10000) (hLt : tos.length ≤ 10000) :
    ∀ (n j : Nat), j + n = l.length → ∀ (w : World) (lk to : Sl), Inv w0 w be bs bg eb win S a d held ow d sl lk to (L ++ l.take j) (tos ++ List.replicate j (1 - k)) own → Pkts w p l → (∀ b ∈ blkL p, b ∉ blkL lk) →
      enthymemelaw38_ChannelOrder.L29 l1 (sl2 be) (sl2 bs) (sl2 bg) lk to i k p (j : Int) w R := by
  have e1k : IntKind.wrap .i64 ((1 : Int) - (k : Int)) = ((1 - k : Nat) : Int) := by rw [IntWalk.i64_in _ (by omega)]; omega
  intro n
  induction n with
  | zero =>
    intro j hj w lk to h hp hpl
    have hpn := hp.len
    obtain rfl : j = l.length := by omega
    refine enthymemelaw38_ChannelOrder.L29_step _ _ _ _ _ _ _ _ _ _ _ _ ?_
    unfold enthymemelaw38_ChannelOrder.S30
    refine sel_false (by rw [hpn]; simp) (next w lk to ?_)
    rw [List.take_length] at h
    exact h
  | succ n ih =>
    intro j hj w lk to h hp hpl
    have hpn := hp.len
    have hjl : l[j]? = some l[j] := List.getElem?_eq_getElem (by omega)
    refine enthymemelaw38_ChannelOrder.L29_step _ _ _ _ _ _ _ _ _ _ _ _ ?_
    unfold enthymemelaw38_ChannelOrder.S30 enthymemelaw38_ChannelOrder.S31
    refine sel_true (by rw [hpn]; simp; omega) ⟨by omega, by rw [hpn]; omega, hp.at hjl (by simp) fun pa sb hb g0 g1 g2 => ⟨_, _, sb, g0, g1, g2, ?_⟩⟩
    intro w1
    have f1 : Fr0 w w1 := Fr.alloc _ _ _
    have h1 := h.fr0 f1
    obtain ⟨cs, hO, hA⟩ := h1.rest.link
    have hln := h1.rest.link.pkts.len
    simp at hln
    obtain ⟨s2, w2, hrun, o2, n2, f2, bl2, _⟩ := append_own (ty := ty_sl_channel_Packet) el_packets hO (Row.one w ty_channel_Packet [.int .i64 l[j].seq, .int .i64 l[j].ack, sb.v]) (by simp) (by simp [Value.oneCell']) (by rw [hln]; simp; omega)
    refine ⟨s2, w2, hrun, ?_⟩
    have nb2 : ∀ b, b ∈ blkL lk → ∀ cs f, w1.heap[b]? ≠ some (.cells cs ty_uint8 f) := row_noTyp hO.row (by decide)
    have t2 : Two w0 w2 be eb _ own := h1.two.any f2 h1.rest.lnew (row_ne hO.row h1.two.row (by decide)) (fun q hq b hb hm => by
      obtain ⟨cs', f', hc⟩ := hO.row.typ b hm
      exact h1.two.not_own hq hc (by decide) (by decide) hb) nb2
    have m2 : ∀ q, q < 2 → MsgsO w2 (sl q) (S q) := fun q hq => by
      obtain ⟨sls', q1, q2⟩ := h1.rest.srow q hq
      exact ⟨sls', q1.fr f2 (row_dis q1.row hO.row (by decide)), q2.mono fun a _ b _ h => h.fr f2 nb2⟩
    have l2 : PktsO w2 s2 (L ++ l.take (j + 1)) := by
      refine ⟨cs ++ [(l[j].seq, l[j].ack, sb)], ?_, ?_⟩
      · rw [List.flatMap_append]
        simpa [pkCells] using o2
      · rw [List.take_add_one, hjl, ← List.append_assoc]
        exact (hA.mono fun a _ b _ h => ⟨h.1, h.2.1, h.2.2.fr f2 nb2⟩).append ⟨⟨rfl, rfl, (hb.fr0 f1).fr f2 nb2⟩, trivial⟩
    have p2 : Pkts w2 p l := by
      obtain ⟨cs', q1, q2, q3⟩ := hp
      exact ⟨cs', q1, (q2.fr f1 fun _ _ h => h).fr f2 hpl, q3.mono fun a _ b _ h => ⟨h.1, h.2.1, (h.2.2.fr0 f1).fr f2 nb2⟩⟩
    have tor2 := h1.rest.tor.fr f2 (row_dis h1.rest.tor.row hO.row (by decide))
    have got2 := f2.at h1.rest.got (row_ne hO.row h1.rest.got (by decide))
    have sent2 := f2.at h1.rest.sent (row_ne hO.row h1.rest.sent (by decide))
    unfold enthymemelaw38_ChannelOrder.S32
    rw [e1k]
    intro w3
    have f3 : Fr0 w2 w3 := Fr.alloc _ _ _
    have t3 := t2.fr0 f3
    have tor3 := tor2.fr f3 fun _ _ h => h
    have htn := tor3.len
    simp at htn
    obtain ⟨s4, w4, hrun4, o4, n4, f4, bl4, _⟩ := append_own (ty := ty_sl_int) el_ints tor3 (Row.one w2 ty_int [intV (1 - k)]) (by simp) (by simp [Value.oneCell']) (by rw [← htn]; simp; omega)
    refine ⟨s4, w4, hrun4, ?_⟩
    have nb4 : ∀ b, b ∈ blkL to → ∀ cs f, w3.heap[b]? ≠ some (.cells cs ty_uint8 f) := row_noTyp tor3.row (by decide)
    have t4 : Two w0 w4 be eb _ own := t3.any f4 h1.rest.tnew (row_ne tor3.row t3.row (by decide)) (fun q hq b hb hm => by
      obtain ⟨cs', f', hc⟩ := tor3.row.typ b hm
      exact t3.not_own hq hc (by decide) (by decide) hb) nb4
    unfold enthymemelaw38_ChannelOrder.S33
    rw [show IntKind.wrap .i64 ((j : Int) + 1) = ((j + 1 : Nat) : Int) from by rw [IntWalk.i64_in _ (by omega)]; omega]
    have sz1 := h.two.fr.size
    have sz2 := f1.size
    have sz3 := f2.size
    have sz4 := f3.size
    refine ih (j + 1) (by omega) w4 s2 s4 ⟨t4, ⟨f4.at (f3.at sent2 id) (row_ne tor3.row (f3.at sent2 id) (by decide)), h.rest.nbs, fun q hq => ?_, h.rest.snew, h.rest.sdis, f4.at (f3.at got2 id) h.rest.tg, h.rest.nbg, ?_, fun b hb => ?_, ?_, fun b hb => ?_, fun hm => ?_⟩, h.sown⟩ ?_ fun b hb hm => ?_
    · obtain ⟨sls', q1, q2⟩ := m2 q hq
      have q3 := q1.fr f3 fun _ _ h => h
      exact ⟨sls', q3.fr f4 (row_dis q3.row tor3.row (by decide)), q2.mono fun a _ b _ h => (h.fr0 f3).fr f4 nb4⟩
    · obtain ⟨cs', q1, q2⟩ := l2
      have q3 := q1.fr f3 fun _ _ h => h
      exact ⟨cs', q3.fr f4 (row_dis q3.row tor3.row (by decide)), q2.mono fun a _ b _ h => ⟨h.1, h.2.1, (h.2.2.fr0 f3).fr f4 nb4⟩⟩
    · rcases bl2 b hb with g | g
      · exact h.rest.lnew b g
      · omega
    · have : tos ++ List.replicate (j + 1) (1 - k) = (tos ++ List.replicate j (1 - k)) ++ [1 - k] := by rw [List.append_assoc, List.replicate_succ']
      rw [this, List.map_append]
      exact o4
    · rcases bl4 b hb with g | g
      · exact h.rest.tnew b g
      · omega
    · rcases bl4 _ hm with g | g
      · exact h.rest.tg g
      · have := lt_of_heap got2; omega
    · obtain ⟨cs', q1, q2, q3⟩ := p2
      have q4 := q2.fr f3 fun _ _ h => h
      exact ⟨cs', q1, q4.fr f4 (row_dis q4 tor3.row (by decide)), q3.mono fun a _ b _ h => ⟨h.1, h.2.1, (h.2.2.fr0 f3).fr f4 nb4⟩⟩
    · rcases bl2 b hm with g | g
      · exact hpl b hb g
      · obtain ⟨cs', q1, q2, q3⟩ := hp
        have := q2.lt b hb; omega

/-- Out -/
theorem s27 (l1 : Sl) (i : Nat) (k : Nat) (hk : k < 2) (hi : i < 80) (hw : ∀ j, 1 ≤ win j ∧ win j ≤ 16) (w : World) (h : Inv w0 w be bs bg eb win S a d held ow d sl lk to L tos own) (P : Pl S a d held L tos i) (R : Post)
    (next : ∀ w' ow' lk' to' L' tos', Inv w0 w' be bs bg eb win S a d held ow' d sl lk' to' L' tos' own → Pl S a d held L' tos' (i + 1) → enthymemelaw38_ChannelOrder.S19 l1 (sl2 be) (sl2 bs) (sl2 bg) lk' to' i w' R) :
    enthymemelaw38_ChannelOrder.S27 l1 (sl2 be) (sl2 bs) (sl2 bg) lk to i k w R := by
  unfold enthymemelaw38_ChannelOrder.S27
  have hk1 : 1 - k < 2 := by omega
  have p1 := P.ad k hk
  have p2 := P.ds k hk
  have p3 := P.ll
  refine ⟨by omega, by simp; omega, ?_⟩
  show W.optP (some (at0 be)) _
  refine ⟨_, h.two.ptr hk (by simp), (out_any (h.two.rep k hk) (P.ok (by omega) (hw k).1 (hw k).2 (ow k) hk)).mono ?_⟩
  rintro r w1 ⟨p, rfl, hp, r1, f1, np⟩
  refine ⟨p, rfl, ?_⟩
  obtain ⟨t1, R1, so1⟩ := h.step hk r1 f1 fun x hx => .inl hx
  have eo : upd own k (own k) = own := by funext j; unfold upd; split <;> simp_all
  rw [eo] at t1 so1
  obtain ⟨hl, hpk⟩ := out_ok (win k) (S k) (a k) (d k) (held k) (ow k) (by omega) (hw k).2
  unfold enthymemelaw38_ChannelOrder.S28
  have P' := P.out hk _ hl hpk
  refine l29 (ow := upd ow k false) l1 i k hk p _ hl R (fun w' lk' to' h' => next w' _ lk' to' _ _ h' P') (by omega) (by omega) (outList (E (win k) (S k) (a k) (d k) (held k) (ow k))).length 0 (by omega) w1 lk to ⟨two_congr t1 (fun j hj => ?_) (fun _ _ => rfl), ?_, so1⟩ hp fun b hb hm => ?_
  · by_cases e : j = k
    · subst e; simp only [upd_same]; rfl
    · simp only [upd_ne _ _ e]
  · simpa using R1
  · have g1 := np b hb
    obtain ⟨cs, hO, hA⟩ := h.rest.link
    have g2 := hO.lt b hm
    omega

/-- the messages that In returns -/
theorem l39 (l1 : Sl) (i : Int) (t : Nat) (ht : t < 2) (n : Nat) (hn : n ≤ 100) (hT : (S (1 - t)).length ≤ n) (hTb : ∀ m ∈ S (1 - t), m.length ≤ 65536) (d0 : Nat) (hd0 : d0 ≤ d t) (hdT : d t ≤ (S (1 - t)).length) (x : Sl) (R : Post)
    (next : ∀ w', Inv w0 w' be bs bg eb win S a d held ow d sl lk to L tos own → enthymemelaw38_ChannelOrder.S19 l1 (sl2 be) (sl2 bs) (sl2 bg) lk to i w' R) :
    ∀ (m r : Nat), d0 + r + m = d t → ∀ (w : World), Inv w0 w be bs bg eb win S a d held ow (upd d t (d0 + r)) sl lk to L tos own → Msgs w x (((S (1 - t)).drop d0).take (d t - d0)) →
      enthymemelaw38_ChannelOrder.L39 l1 (sl2 be) (sl2 bs) (sl2 bg) lk to i t x (r : Int) w R := by
  have ht1 : 1 - t < 2 := by omega
  have e1t : IntKind.wrap .i64 ((1 : Int) - (t : Int)) = ((1 - t : Nat) : Int) := by rw [IntWalk.i64_in _ (by omega)]; omega
  intro m
  induction m with
  | zero =>
    intro r hr w h hx
    have hxn := hx.len
    simp at hxn
    refine enthymemelaw38_ChannelOrder.L39_step _ _ _ _ _ _ _ _ _ _ _ _ ?_
    unfold enthymemelaw38_ChannelOrder.S40
    refine sel_false (by rw [hxn]; simp; omega) (next w ?_)
    rw [show d0 + r = d t by omega, show upd d t (d t) = d from by funext j; unfold upd; split <;> simp_all] at h
    exact h
  | succ m ih =>
    intro r hr w h hx
    have hxn := hx.len
    simp at hxn
    have hlt : d0 + r < (S (1 - t)).length := by omega
    have hTi : (S (1 - t))[d0 + r]? = some (S (1 - t))[d0 + r] := List.getElem?_eq_getElem hlt
    have hxi : (((S (1 - t)).drop d0).take (d t - d0))[r]? = some (S (1 - t))[d0 + r] := by
      rw [List.getElem?_take, if_pos (by omega), List.getElem?_drop]; exact hTi
    have fd : Fr0 w w.drew := Fr.drew _ _
    have hd := h.fr0 fd
    have hxd : Msgs w.drew x _ := hx.fr fd (fun _ _ h => h) fun _ h => h.elim
    have cs := cell2v (x := fun k => (sl k).v) hd.rest.sent ht1 (j := Int.toNat ((1 - t : Nat) : Int) * 1) (by simp)
    have cg := cell2v (x := fun k => intV (upd d t (d0 + r) k)) hd.rest.got ht (j := Int.toNat ((t : Nat) : Int) * 1) (by simp)
    simp only [upd_same] at cg
    have hsl : (sl (1 - t)).n = (S (1 - t)).length := (hd.rest.srow (1 - t) ht1).msgs.len
    refine enthymemelaw38_ChannelOrder.L39_step _ _ _ _ _ _ _ _ _ _ _ _ ?_
    unfold enthymemelaw38_ChannelOrder.S40 enthymemelaw38_ChannelOrder.S41
    rw [e1t]
    refine sel_true (by rw [hxn]; simp; omega) ⟨by omega, by simp; omega, ?_⟩
    show W.optP (some (at0 bg)) _
    refine ⟨_, cg, by omega, by simp; omega, ?_⟩
    show W.optP (some (at0 bs)) _
    refine ⟨sl (1 - t), cs, sel_false (by rw [hsl]; simp; omega) ⟨by omega, by rw [hxn]; omega, hxd.at hxi (by simp) fun pa sb hb hc => ⟨sb, hc, by omega, by simp; omega, ?_⟩⟩⟩
    show W.optP (some (at0 bs)) _
    refine ⟨sl (1 - t), cs, by omega, by simp; omega, ?_⟩
    show W.optP (some (at0 bg)) _
    refine ⟨_, cg, by omega, by rw [hsl]; omega, (hd.rest.srow (1 - t) ht1).msgs.at hTi (by rw [Int.toNat_natCast]) fun pa' sb' hb' hc' => ⟨sb', hc', (same_bytes hb hb' (by have := hTb _ (List.mem_of_getElem? hTi); omega)).mono ?_⟩⟩
    rintro rr w1 ⟨rfl, f1⟩
    have h1 := hd.fr0 f1
    have hx1 : Msgs w1 x _ := hxd.fr f1 (fun _ _ h => h) fun _ h => h.elim
    have cs1 := cell2v (x := fun k => (sl k).v) h1.rest.sent ht1 (j := Int.toNat ((1 - t : Nat) : Int) * 1) (by simp)
    have cg1 := cell2v (x := fun k => intV (upd d t (d0 + r) k)) h1.rest.got ht (j := Int.toNat ((t : Nat) : Int) * 1) (by simp)
    simp only [upd_same] at cg1
    refine ⟨_, rfl, cg1, cs1, cs1, cg1, sel_false (by simp) ?_⟩
    unfold enthymemelaw38_ChannelOrder.S43
    refine ⟨by omega, by simp; omega, ?_⟩
    show W.optP (some (at0 bg)) _
    refine ⟨_, cg1, by omega, by simp; omega, ?_⟩
    show W.optP (some (at0 bg)) _
    refine ⟨by rw [cg1]; rfl, frozenAt (p := at0 bg) h1.rest.got, ?_⟩
    intro w2
    have ed : IntKind.wrap .i64 (((d0 + r : Nat) : Int) + 1) = ((d0 + (r + 1) : Nat) : Int) := by rw [IntWalk.i64_in _ (by omega)]; omega
    have c2 : w2.heap[bg]? = _ := set2v (x := fun k => intV (upd d t (d0 + r) k)) h1.rest.got ht (j := Int.toNat ((t : Nat) : Int) * 1) (by simp) (.int .i64 (IntKind.wrap .i64 (((d0 + r : Nat) : Int) + 1)))
    have f2 : Fr (· = bg) w1 w2 := Fr.set _ _ _ (add_block _ _)
    have nb2 : ∀ b, b = bg → ∀ cs f, w1.heap[b]? ≠ some (.cells cs ty_uint8 f) := fun b e cs f => by rw [e]; exact cells_typ h1.rest.got (by decide)
    unfold enthymemelaw38_ChannelOrder.S44
    rw [show IntKind.wrap .i64 ((r : Int) + 1) = ((r + 1 : Nat) : Int) from by rw [IntWalk.i64_in _ (by omega)]; omega]
    have R1 := h1.rest
    have t2 : Two w0 w2 be eb _ own := h1.two.any f2 (fun b e => by rw [e]; exact R1.nbg) (fun e => ne_typ h1.two.row R1.got (by decide) e) (fun j hj b hb e => h1.two.not_own hj R1.got (by decide) (by decide) (by rw [← e]; exact hb)) nb2
    refine ih (r + 1) (by omega) w2 ⟨t2, ⟨f2.at R1.sent (fun e => ne_typ R1.sent R1.got (by decide) e), R1.nbs, fun j hj => ?_, R1.snew, R1.sdis, ?_, R1.nbg, ?_, R1.lnew, R1.tor.fr f2 (fun b hb e => R1.tg (by rw [← e]; exact hb)), R1.tnew, R1.tg⟩, h1.sown⟩ (hx1.fr f2 (fun b hb e => ?_) nb2)
    · obtain ⟨sls', q1, q2⟩ := R1.srow j hj
      exact ⟨sls', q1.fr f2 (fun b hb e => row_ne q1.row R1.got (by decide) (by rw [← e]; exact hb)), q2.mono fun a _ b _ h => h.fr f2 nb2⟩
    · rw [c2, ed]
      have : ∀ j, upd (fun k => intV (upd d t (d0 + r) k)) t (intV (d0 + (r + 1))) j = intV (upd d t (d0 + (r + 1)) j) := fun j => by
        by_cases e : j = t
        · subst e; rw [upd_same, upd_same]
        · rw [upd_ne _ _ e, upd_ne _ _ e]; simp only [upd_ne _ _ e]
      rw [← this 0, ← this 1]
    · obtain ⟨cs', q1, q2⟩ := R1.link
      exact ⟨cs', q1.fr f2 (fun b hb e => row_ne q1.row R1.got (by decide) (by rw [← e]; exact hb)), q2.mono fun a _ b _ h => ⟨h.1, h.2.1, h.2.2.fr f2 nb2⟩⟩
    · obtain ⟨sls', _, q1, q2⟩ := hx1
      exact row_ne q1 R1.got (by decide) (by rw [← e]; exact hb)

/-- a packet is delivered -/
theorem s35 (l1 : Sl) (i : Nat) (n : Int) (hn0 : 0 ≤ n) (hn1 : n < 1073741824) (hi : i < 80) (hw : ∀ j, 1 ≤ win j ∧ win j ≤ 16) (w : World) (h : Inv w0 w be bs bg eb win S a d held ow d sl lk to L tos own) (P : Pl S a d held L tos i) (R : Post) (hL : L.length ≠ 0)
    (next : ∀ w' a' d' held' ow' own', Inv w0 w' be bs bg eb win S a' d' held' ow' d' sl lk to L tos own' → Pl S a' d' held' L tos (i + 1) → enthymemelaw38_ChannelOrder.S19 l1 (sl2 be) (sl2 bs) (sl2 bg) lk to i w' R) :
    enthymemelaw38_ChannelOrder.S35 l1 (sl2 be) (sl2 bs) (sl2 bg) lk to i n w R := by
  obtain ⟨hll, hll2⟩ := P.ll
  have hln := h.rest.link.pkts.len
  have htn := h.rest.tor.len
  simp at htn
  unfold enthymemelaw38_ChannelOrder.S35 enthymemelaw38_ChannelOrder.S36
  refine ⟨by omega, ?_⟩
  have ht2 : IntKind.wrap .i64 (Int.tdiv n 2) = Int.tdiv n 2 := IntWalk.i64_in _ (by have := Int.tdiv_nonneg hn0 (b := 2) (by omega); have := Int.tdiv_le_self (2) hn0; omega)
  have hq0 : 0 ≤ Int.tdiv n 2 := Int.tdiv_nonneg hn0 (by omega)
  obtain ⟨j, hj⟩ := Int.eq_ofNat_of_zero_le (Int.tmod_nonneg (lk.n : Int) hq0)
  have hjl : Int.tmod (Int.tdiv n 2) (lk.n : Int) < lk.n := Int.tmod_lt_of_pos _ (by omega)
  rw [ht2, hj]
  have hjl' : j < L.length := by omega
  have hLj : L[j]? = some L[j] := List.getElem?_eq_getElem hjl'
  have hTj : tos[j]? = some (tos[j]'(by omega)) := List.getElem?_eq_getElem (by omega)
  obtain ⟨ht, hpk⟩ := P.lk j _ _ hLj hTj
  generalize tos[j]'(by omega) = t at *
  generalize L[j] = pk at *
  have ht1 : 1 - t < 2 := by omega
  refine ⟨by omega, by omega, h.rest.tor.row.optP (i := j) (v := intV t) (by simp [hTj]) fun p hp hc => ⟨t, by rw [Int.toNat_natCast, Nat.mul_one]; exact hc j (intV t) (by simp [hTj]), ?_⟩⟩
  unfold enthymemelaw38_ChannelOrder.S37
  have fd : Fr0 w w.drew := Fr.drew _ _
  have hd := h.fr0 fd
  refine ⟨by omega, by simp; omega, ?_⟩
  show W.optP (some (at0 be)) _
  refine ⟨_, hd.two.ptr ht (by simp), by omega, by omega, hd.rest.link.pkts.at hLj (by simp) fun pa sb hb g0 g1 g2 => ⟨_, _, sb, g0, g1, g2, ?_⟩⟩
  have hdt : d t ≤ (S (1 - t)).length := by have := P.ds (1 - t) ht1; rw [show 1 - (1 - t) = t by omega] at this; exact this
  have hs1 := P.sl (1 - t) ht1
  have hh := P.hl t ht
  have hat : a t ≤ (S t).length := Nat.le_trans (P.ad t ht) (P.ds t ht)
  refine (in_any (hd.two.rep t ht) (P.ok (by omega) (hw t).1 (hw t).2 (ow t) ht) (by simp only [E]; omega) (by simp only [E]; omega) hb).mono ?_
  rintro r w1 ⟨x, o1, rfl, hx, r1, f1, oo1, nx⟩
  refine ⟨x, rfl, ?_⟩
  obtain ⟨a', d', held', ow', i1, i2, i3, i4, i5, i6⟩ := in_ok (S (1 - t)) (win t) (S t) (a t) (d t) (held t) (ow t) (d (1 - t)) pk hpk hdt (P.he t ht) hat
  rw [i6] at hx r1
  obtain ⟨t1, R1, so1⟩ := hd.step ht r1 f1 oo1
  have P' := P.recv ht i1 i2 i3 i4 i5
  unfold enthymemelaw38_ChannelOrder.S38
  simp only at hx
  refine l39 (a := upd a t a') (d := upd d t d') (held := upd held t held') (ow := upd ow t ow') (own := upd own t o1) l1 i t ht 100 (by omega) (by omega) (P.sb (1 - t) ht1) (d t) (by rw [upd_same]; exact i2) (by rw [upd_same]; exact i3) x R (fun w' h' => next w' _ _ _ _ _ h' P') (d' - d t) 0 (by rw [upd_same]; omega) w1 ⟨two_congr t1 (fun j hj => ?_) (fun _ _ => rfl), ?_, so1⟩ (by rw [upd_same]; exact hx)
  · by_cases e : j = t
    · subst e; simp only [upd_same]
    · simp only [upd_ne _ _ e]
  · have : upd (upd d t d') t (d t + 0) = d := by funext j; unfold upd; split <;> simp_all
    rw [this]; exact R1
end

/-- the rounds -/
theorem l9 (hw : ∀ j, 1 ≤ win j ∧ win j ≤ 16) (l1 : Sl) (hl : Ints w0 l1) : ∀ (n i : Nat), i + n = 80 → ∀ (w : World) (S : Nat → List Msg) (a d : Nat → Nat) (held : Nat → List (Int × Msg)) (ow : Nat → Bool) (sl : Nat → Sl) (lk to : Sl) (L : List Pk) (tos : List Nat) (own : Nat → List Nat),
    Inv w0 w be bs bg eb win S a d held ow d sl lk to L tos own → Pl S a d held L tos i → enthymemelaw38_ChannelOrder.L9 l1 (sl2 be) (sl2 bs) (sl2 bg) lk to (i : Int) w (Fin w0) := by
  have fin : ∀ w, Fr0 w0 w → enthymemelaw38_ChannelOrder.S47 w (Fin w0) := fun w f => by
    unfold enthymemelaw38_ChannelOrder.S47
    refine (lives_any w).mono ?_
    rintro r w1 ⟨rfl, f1⟩
    exact ⟨_, rfl, rfl, f.trans f1 fun _ _ h => h⟩
  intro n
  induction n with
  | zero =>
    intro i hi w S a d held ow sl lk to L tos own h P
    refine enthymemelaw38_ChannelOrder.L9_step _ _ _ _ _ _ _ _ _ ?_
    unfold enthymemelaw38_ChannelOrder.S10
    exact sel_intro (fun _ => sel_false (by simp; omega) (fin w h.two.fr)) (fun _ => fin w h.two.fr)
  | succ n ih =>
    intro i hi w S a d held ow sl lk to L tos own h P
    refine enthymemelaw38_ChannelOrder.L9_step _ _ _ _ _ _ _ _ _ ?_
    unfold enthymemelaw38_ChannelOrder.S10
    refine sel_intro (fun hin => sel_true (by simp; omega) ?_) (fun _ => fin w h.two.fr)
    have hin' : i < l1.n := by simpa using hin
    unfold enthymemelaw38_ChannelOrder.S11
    have hlw := hl.fr0 h.two.fr
    refine ⟨by omega, by omega, hlw.at hin' (by simp) fun p v hv v1 v2 => ⟨v, hv, ?_⟩⟩
    have q8 : v.tdiv 8 * 8 + v.tmod 8 = v := by have := Int.tmod_add_mul_tdiv v 8; omega
    have q8a : -8 < v.tmod 8 := by have := Int.lt_tmod_of_pos v (b := 8) (by omega); omega
    have q8b : v.tmod 8 < 8 := Int.tmod_lt_of_pos v (by omega)
    rw [show IntKind.wrap .i64 (Int.tdiv v 8) = Int.tdiv v 8 from IntWalk.i64_in _ (by omega)]
    refine (around_any _ 1073741824 w (by omega) (by omega) (by omega)).mono ?_
    rintro r w1 ⟨rfl, rfl⟩
    refine ⟨_, rfl, ?_⟩
    obtain ⟨n0, n1⟩ := aroundI_range (Int.tdiv v 8) 1073741824 (by omega)
    generalize aroundI (Int.tdiv v 8) 1073741824 = nn at *
    unfold enthymemelaw38_ChannelOrder.S12 enthymemelaw38_ChannelOrder.S13
    refine ⟨by omega, by omega, hlw.at hin' (by simp) fun p v hv v1 v2 => ⟨v, hv, (around_any _ 8 w (by omega) (by omega) (by omega)).mono ?_⟩⟩
    rintro r w1 ⟨rfl, rfl⟩
    refine ⟨_, rfl, ?_⟩
    generalize aroundI v 8 = t49
    obtain ⟨k, hk⟩ := Int.eq_ofNat_of_zero_le (Int.tmod_nonneg 2 n0)
    have hk2 : Int.tmod nn 2 < 2 := Int.tmod_lt_of_pos _ (by omega)
    rw [hk]
    have hk' : k < 2 := by omega
    have next : ∀ (w' : World) (S : Nat → List Msg) (a d : Nat → Nat) (held : Nat → List (Int × Msg)) (ow : Nat → Bool) (sl : Nat → Sl) (lk to : Sl) (L : List Pk) (tos : List Nat) (own : Nat → List Nat),
        Inv w0 w' be bs bg eb win S a d held ow d sl lk to L tos own → Pl S a d held L tos (i + 1) → enthymemelaw38_ChannelOrder.S25 l1 (sl2 be) (sl2 bs) (sl2 bg) lk to i w' (Fin w0) := by
      intro w' S a d held ow sl lk to L tos own h P
      unfold enthymemelaw38_ChannelOrder.S25
      rw [show IntKind.wrap .i64 ((i : Int) + 1) = ((i + 1 : Nat) : Int) from by rw [IntWalk.i64_in _ (by omega)]; omega]
      exact ih (i + 1) (by omega) w' S a d held ow sl lk to L tos own h P
    have chk : ∀ (w' : World) (S : Nat → List Msg) (a d : Nat → Nat) (held : Nat → List (Int × Msg)) (ow : Nat → Bool) (sl : Nat → Sl) (lk to : Sl) (L : List Pk) (tos : List Nat) (own : Nat → List Nat),
        Inv w0 w' be bs bg eb win S a d held ow d sl lk to L tos own → Pl S a d held L tos (i + 1) → enthymemelaw38_ChannelOrder.S19 l1 (sl2 be) (sl2 bs) (sl2 bg) lk to i w' (Fin w0) := by
      intro w' S a d held ow sl lk to L tos own h P
      exact l20 l1 i (i + 1) (by omega) w' h P _ fun w'' _ h' => next w'' S a d held ow sl lk to L tos own h' P
    have a15 : enthymemelaw38_ChannelOrder.S15 l1 (sl2 be) (sl2 bs) (sl2 bg) lk to i k w (Fin w0) :=
      s15 l1 i k hk' (by omega) hw w h P _ fun w' S' sl' own' h' P' => chk w' _ _ _ _ _ _ _ _ _ _ _ h' P'
    have a27 : enthymemelaw38_ChannelOrder.S27 l1 (sl2 be) (sl2 bs) (sl2 bg) lk to i k w (Fin w0) :=
      s27 l1 i k hk' (by omega) hw w h P _ fun w' ow' lk' to' L' tos' h' P' => chk w' _ _ _ _ _ _ _ _ _ _ _ h' P'
    have a34 : enthymemelaw38_ChannelOrder.S34 l1 (sl2 be) (sl2 bs) (sl2 bg) lk to i nn w (Fin w0) := by
      unfold enthymemelaw38_ChannelOrder.S34
      have hln := h.rest.link.pkts.len
      refine sel_intro (fun _ => next w _ _ _ _ _ _ _ _ _ _ _ h P.next) (fun hne => ?_)
      exact s35 l1 i nn n0 n1 (by omega) hw w h P _ (by simp at hne; omega) fun w' a' d' held' ow' own' h' P' => chk w' _ _ _ _ _ _ _ _ _ _ _ h' P'
    have a26 : enthymemelaw38_ChannelOrder.S26 l1 (sl2 be) (sl2 bs) (sl2 bg) lk to i nn k t49 w (Fin w0) := by
      unfold enthymemelaw38_ChannelOrder.S26 enthymemelaw38_ChannelOrder.S45
      exact sel_intro (fun _ => sel_intro (fun _ => a27) (fun _ => a34)) (fun _ => sel_intro (fun _ => a27) (fun _ => a34))
    unfold enthymemelaw38_ChannelOrder.S14 enthymemelaw38_ChannelOrder.S46
    exact sel_intro (fun _ => sel_intro (fun _ => a15) (fun _ => a26)) (fun _ => sel_intro (fun _ => a15) (fun _ => a26))

theorem walk (window : Int) (a1 : -9223372036854775808 ≤ window) (a2 : window ≤ 9223372036854775807) (l1 : Sl) (w : World) (hl : Ints w l1) :
    Calls Try.prog n_enthymemelaw38_ChannelOrder #[.int .i64 window, l1.v] w (Fin w) := by
  refine enthymemelaw38_ChannelOrder.ok window l1 w _ ?_
  unfold enthymemelaw38_ChannelOrder.S0 enthymemelaw38_ChannelOrder.S1
  refine (ends_any window w a1 a2).mono ?_
  rintro r w1 ⟨be, eb, own, rfl, hT⟩
  refine ⟨sl2 be, rfl, ?_⟩
  unfold enthymemelaw38_ChannelOrder.S2 enthymemelaw38_ChannelOrder.S4
  refine sel_false rfl ?_
  intro w2
  unfold enthymemelaw38_ChannelOrder.S5
  intro w3
  have f2 : Fr0 w1 w2 := Fr.alloc _ _ _
  have f3 : Fr0 w2 w3 := Fr.alloc _ _ _
  have sz := hT.fr.size
  have sz2 := f2.size
  unfold enthymemelaw38_ChannelOrder.S6 enthymemelaw38_ChannelOrder.S7 enthymemelaw38_ChannelOrder.S8
  refine l9 (be := be) (bs := w1.heap.size) (bg := w2.heap.size) (eb := eb) (win := win0 window) (fun j => win0_range window j) l1 hl 80 0 (by omega) w3 (fun _ => []) (fun _ => 0) (fun _ => 0) (fun _ => []) (fun _ => false) (fun _ => ⟨none, 0, 0⟩) ⟨none, 0, 0⟩ ⟨none, 0, 0⟩ [] [] own
    ⟨two_congr ((hT.fr0 f2).fr0 f3) (fun j _ => by simp [E]) (fun _ _ => rfl), ⟨heap_old _ (heap_new _ _), sz, fun k hk => ⟨[], OwnRow.nil _ _ _, trivial⟩, by simp [blkL], by simp [blkL], heap_new _ _, by omega, ⟨[], OwnRow.nil _ _ _, trivial⟩, by simp [blkL], OwnRow.nil _ _ _, by simp [blkL], by simp [blkL]⟩, by simp [blkL]⟩
    ⟨by simp, by simp, by intro k _ p hp; simp at hp, by simp, by simp, by simp, by simp, by simp⟩
end Ord
end Go.Proofs.Ytellmncndfmbbaa

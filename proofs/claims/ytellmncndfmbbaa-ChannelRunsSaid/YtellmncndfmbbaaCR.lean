/- The reference model of package channel: contracts. -/
import Derived.Test.YtellmncndfmbbaaRunL
import Derived.Test.YtellmncndfmbbaaVR
namespace Go.Proofs.Ytellmncndfmbbaa
open Go Go.W
namespace Run
theorem el_rpk : ElemOk Try.prog ty_sl_enthymemeref38_Packet ty_enthymemeref38_Packet (.agg #[.int .i64 0, .int .i64 0, .slice none 0 0]) 3 40 := ⟨by kernel_rfl, by kernel_rfl, rfl, by decide, by decide⟩
theorem el_held : ElemOk Try.prog ty_sl_enthymemeref38_Held ty_enthymemeref38_Held (.agg #[.int .i64 0, .slice none 0 0]) 2 32 := ⟨by kernel_rfl, by kernel_rfl, rfl, by decide, by decide⟩
theorem el_rptr : ElemOk Try.prog ty_sl_p_enthymemeref38_End ty_p_enthymemeref38_End (.pointer none) 1 8 := ⟨by kernel_rfl, by kernel_rfl, rfl, by decide, by decide⟩
def hCells (p : Int × Sl) : List Value := [.int .i64 p.1, p.2.v]
def HIs (w : World) (c : Int × Sl) (p : Int × Msg) : Prop := c.1 = p.1 ∧ Bytes w c.2 p.2
theorem hflat_len : ∀ cs : List (Int × Sl), (cs.flatMap hCells).length = cs.length * 2
  | [] => rfl
  | c :: cs => by simp [hflat_len cs, hCells]; omega
theorem hflat_get {k : Nat} (hk : k < 2) : ∀ {cs : List (Int × Sl)} {i : Nat} {c : Int × Sl}, cs[i]? = some c → (cs.flatMap hCells)[i * 2 + k]? = (hCells c)[k]?
  | c :: cs, 0, c', h => by
    simp at h; subst h
    rw [List.flatMap_cons, List.getElem?_append_left (by simp [hCells]; omega)]
    simp
  | c :: cs, i + 1, c', h => by
    rw [List.flatMap_cons, List.getElem?_append_right (by simp [hCells]; omega)]
    rw [← hflat_get hk (cs := cs) (i := i) (by simpa using h)]
    congr 1
    simp [hCells]; omega
  | [], _, _, h => by simp at h
theorem hflat_one (cs : List (Int × Sl)) : ∀ u ∈ cs.flatMap hCells, u.oneCell' = true := by
  intro u hu
  obtain ⟨c, _, hc⟩ := List.mem_flatMap.1 hu
  simp [hCells] at hc
  rcases hc with rfl | rfl <;> rfl

structure RefRep (w : World) (rb : Nat) (r : RS) (own : List Nat) : Prop where
  ex : ∃ (ss hs : Sl) (sls : List Sl) (hcs : List (Int × Sl)), own = rb :: (blkL ss ++ blkL hs) ∧
    w.heap[rb]? = some (.cells #[.int .i64 r.win, ss.v, .int .i64 r.a, .int .i64 r.d, hs.v, .bool r.ow] ty_enthymemeref38_End (0, 0)) ∧
    OwnRow w ty_sl_uint8 1 ss (sls.map Sl.v) ∧ All2 (Bytes w) sls r.S ∧ OwnRow w ty_enthymemeref38_Held 2 hs (hcs.flatMap hCells) ∧ All2 (HIs w) hcs r.held
theorem RefRep.lt {w : World} {rb : Nat} {r : RS} {own : List Nat} (h : RefRep w rb r own) : ∀ b ∈ own, b < w.heap.size := by
  obtain ⟨ss, hs, sls, hcs, rfl, h1, h2, h3, h4, h5⟩ := h
  intro b hb
  simp only [List.mem_cons, List.mem_append] at hb
  rcases hb with rfl | hb | hb
  · exact lt_of_heap h1
  · exact h2.lt b hb
  · exact h4.lt b hb
theorem RefRep.noTyp {w : World} {rb : Nat} {r : RS} {own : List Nat} (h : RefRep w rb r own) {T : TypeId} (t1 : ty_enthymemeref38_End ≠ T) (t2 : ty_sl_uint8 ≠ T) (t3 : ty_enthymemeref38_Held ≠ T) : ∀ b ∈ own, ∀ cs f, w.heap[b]? ≠ some (.cells cs T f) := by
  obtain ⟨ss, hs, sls, hcs, rfl, h1, h2, h3, h4, h5⟩ := h
  intro b hb cs f
  simp only [List.mem_cons, List.mem_append] at hb
  rcases hb with rfl | hb | hb
  · exact cells_typ h1 t1
  · exact row_noTyp h2.row t2 b hb cs f
  · exact row_noTyp h4.row t3 b hb cs f
theorem RefRep.noBytes {w : World} {rb : Nat} {r : RS} {own : List Nat} (h : RefRep w rb r own) : ∀ b ∈ own, ∀ cs f, w.heap[b]? ≠ some (.cells cs ty_uint8 f) := h.noTyp (by decide) (by decide) (by decide)
theorem RefRep.fr {M : Nat → Prop} {w w' : World} {rb : Nat} {r : RS} {own : List Nat} (h : RefRep w rb r own) (hf : Fr M w w') (hn : ∀ b ∈ own, ¬ M b) (hb : ∀ b, M b → ∀ cs f, w.heap[b]? ≠ some (.cells cs ty_uint8 f)) : RefRep w' rb r own := by
  obtain ⟨ss, hs, sls, hcs, rfl, h1, h2, h3, h4, h5⟩ := h
  exact ⟨ss, hs, sls, hcs, rfl, hf.at h1 (hn _ (by simp)), h2.fr hf (fun b hb => hn b (by simp [hb])), h3.mono fun a _ b _ h => h.fr hf hb, h4.fr hf (fun b hb => hn b (by simp [hb])), h5.mono fun a _ b _ h => ⟨h.1, h.2.fr hf hb⟩⟩
theorem RefRep.fr0 {w w' : World} {rb : Nat} {r : RS} {own : List Nat} (h : RefRep w rb r own) (hf : Fr0 w w') : RefRep w' rb r own := h.fr hf (fun _ _ h => h) fun _ h => h.elim

/-- New -/
theorem rnew_any (win : Int) (w : World) (h1 : 1 ≤ win) (h2 : win ≤ 16) : Calls Try.prog n_enthymemeref38_New #[.int .i64 win] w fun r w' => ∃ rb own, r = .returned (.tuple #[.pointer (some (at0 rb)), .bool true]) ∧ RefRep w' rb ⟨win, [], 0, 0, [], false⟩ own ∧ Fr0 w w' ∧ ∀ b ∈ own, w.heap.size ≤ b := by
  refine enthymemeref38_New.ok win w _ ?_
  unfold enthymemeref38_New.S0 enthymemeref38_New.S1
  intro w1
  refine sel_true (by simp; omega) ⟨w.heap.size, [w.heap.size], by simp [h2], ⟨⟨none, 0, 0⟩, ⟨none, 0, 0⟩, [], [], rfl, heap_new _ _, OwnRow.nil _ _ _, trivial, OwnRow.nil _ _ _, trivial⟩, Fr.alloc _ _ _, by simp⟩

/-- Send -/
theorem rsend_any {w : World} {rb : Nat} {r : RS} {own : List Nat} {s : Sl} {b : Msg} {i : Nat} (h : RefRep w rb r own) (ok : r.Ok i) (hi : i ≤ 100) (hb : Bytes w s b) (hbl : b.length ≤ 2) :
    Calls Try.prog n_enthymemeref38_End_Send #[.pointer (some (at0 rb)), s.v] w fun res w' => ∃ own', res = .returned (.int .i64 0) ∧ RefRep w' rb (r.push b) own' ∧ Fr (· ∈ own) w w' ∧ ∀ x ∈ own', x ∈ own ∨ w.heap.size ≤ x := by
  have hrep := h
  obtain ⟨ss, hs, sls, hcs, rfl, b1, b2, b3, b4, b5⟩ := h
  have ha := ok.a
  have hS := ok.s
  have hn : ss.n = r.S.length := by have := b2.len; simp at this; rw [← b3.length, this]
  refine enthymemeref38_End_Send.ok _ _ w _ ?_
  unfold enthymemeref38_End_Send.S0 enthymemeref38_End_Send.S1
  have fd : Fr0 w w.drew := Fr.drew _ _
  refine sel_false (by rw [hb.1]; simp; omega) ⟨ss, cellAt (p := at0 rb) (w := w.drew) b1 rfl rfl, r.a, cellAt (p := at0 rb) (w := w.drew) b1 rfl rfl, sel_false ?_ ?_⟩
  · rw [hn, IntWalk.i64_in _ (by omega)]; simp; omega
  · unfold enthymemeref38_End_Send.S3
    refine ⟨ss, cellAt (p := at0 rb) (w := w.drew) b1 rfl rfl, ?_⟩
    intro w1
    have f1 : Fr0 w w1 := fd.trans (Fr.alloc _ _ _) fun _ _ h => h
    have o1 := b2.fr f1 fun _ _ h => h
    have c1 := f1.at b1 id
    obtain ⟨s2, w2, hrun, o2, hn2, f2, hbl2, _⟩ := append_own (ty := ty_sl_sl_uint8) el_msgs o1 (Row.one w.drew ty_sl_uint8 [s.v]) rfl (by simp [Value.oneCell']) (by rw [hn]; simp; omega)
    have c2 := f2.at c1 (row_ne o1.row c1 (by decide))
    refine ⟨s2, w2, hrun, by rw [cellAt (p := at0 rb) c2 rfl rfl]; rfl, frozenAt (p := at0 rb) c2, ?_⟩
    intro w3
    have c3 : w3.heap[rb]? = some (.cells #[.int .i64 r.win, s2.v, .int .i64 r.a, .int .i64 r.d, hs.v, .bool r.ow] ty_enthymemeref38_End (0, 0)) := setAt (p := at0 rb) (i := 1) (v := s2.v) c2 rfl
    have f3 : Fr (· = rb) w2 w3 := Fr.set _ _ _ rfl
    have nb2 := row_noTyp o1.row (T' := ty_uint8) (by decide)
    have nb3 : ∀ x, x = rb → ∀ cs f, w2.heap[x]? ≠ some (.cells cs ty_uint8 f) := fun x e cs f => by rw [e]; exact cells_typ c2 (by decide)
    have by' : ∀ t m, Bytes w t m → Bytes w3 t m := fun t m g => ((g.fr0 f1).fr f2 nb2).fr f3 nb3
    have h1 := b4.fr f1 fun _ _ h => h
    have h2 := h1.fr f2 (row_dis h1.row o1.row (by decide))
    have h3 := h2.fr f3 (fun x hx e => row_ne h2.row c2 (by decide) (by rw [← e]; exact hx))
    unfold enthymemeref38_End_Send.S4
    refine ⟨rb :: (blkL s2 ++ blkL hs), rfl, ⟨s2, hs, sls ++ [s], hcs, rfl, c3, ?_, (b3.mono fun a _ b _ h => by' _ _ h).append ⟨by' _ _ hb, trivial⟩, h3, b5.mono fun a _ b _ h => ⟨h.1, by' _ _ h.2⟩⟩, ?_, ?_⟩
    · have := o2.fr f3 (fun x hx e => row_ne o2.row c2 (by decide) (by rw [← e]; exact hx))
      simpa using this
    · refine ((f1.mono fun _ _ h => h.elim).trans f2 fun x _ hx => by simp [hx]).trans f3 fun x _ e => by simp [e]
    · intro x hx
      simp only [List.mem_cons, List.mem_append] at hx ⊢
      rcases hx with rfl | hx | hx
      · exact .inl (.inl rfl)
      · rcases hbl2 x hx with g | g
        · exact .inl (.inr (.inl g))
        · exact .inr (Nat.le_trans f1.size g)
      · exact .inl (.inr (.inr hx))

/-! ### Packets of the reference -/
def RPkts (w : World) (s : Sl) (l : List Pk) : Prop := ∃ cs : List (Int × Int × Sl), s.n = l.length ∧ Row w ty_enthymemeref38_Packet s (cs.flatMap pkCells) ∧ All2 (PkIs w) cs l
def RPktsO (w : World) (s : Sl) (l : List Pk) : Prop := ∃ cs : List (Int × Int × Sl), OwnRow w ty_enthymemeref38_Packet 3 s (cs.flatMap pkCells) ∧ All2 (PkIs w) cs l
theorem pflat_len : ∀ cs : List (Int × Int × Sl), (cs.flatMap pkCells).length = cs.length * 3
  | [] => rfl
  | c :: cs => by simp [pflat_len cs, pkCells]; omega
theorem RPktsO.pkts {w : World} {s : Sl} {l : List Pk} (h : RPktsO w s l) : RPkts w s l := by
  obtain ⟨cs, h1, h2⟩ := h
  exact ⟨cs, by have := h1.len; rw [pflat_len] at this; rw [← h2.length]; omega, h1.row, h2⟩
theorem RPkts.len {w : World} {s : Sl} {l : List Pk} (h : RPkts w s l) : s.n = l.length := h.choose_spec.1
theorem RPkts.at {w : World} {s : Sl} {l : List Pk} (h : RPkts w s l) {i j : Nat} {p : Pk} (hi : l[i]? = some p) (hj : j = i * 3) {K : Addr → Prop}
    (hk : ∀ pa sb, s.a = some pa → Bytes w sb p.b → w.cell? ((pa.add j).add 0) = some (.int .i64 p.seq) → w.cell? ((pa.add j).add 1) = some (.int .i64 p.ack) → w.cell? ((pa.add j).add 2) = some sb.v → K pa) : W.optP s.a K := by
  subst hj
  obtain ⟨cs, hn, hr, ha⟩ := h
  obtain ⟨c, hc, h1, h2, h3⟩ := ha.get' hi
  refine hr.optP (i := i * 3 + 0) (v := .int .i64 c.1) (by rw [flat_get (by omega) hc]; rfl) fun pa hp hcell => hk pa c.2.2 hp h3 ?_ ?_ ?_
  · rw [add_add, ← h1]; exact hcell _ _ (by rw [flat_get (by omega) hc]; rfl)
  · rw [add_add, ← h2]; exact hcell _ _ (by rw [flat_get (by omega) hc]; rfl)
  · rw [add_add]; exact hcell _ _ (by rw [flat_get (by omega) hc]; rfl)
theorem RPkts.fr {M : Nat → Prop} {w w' : World} {s : Sl} {l : List Pk} (h : RPkts w s l) (hf : Fr M w w') (hn : ∀ b ∈ blkL s, ¬ M b) (hb : ∀ b, M b → ∀ cs f, w.heap[b]? ≠ some (.cells cs ty_uint8 f)) : RPkts w' s l := by
  obtain ⟨cs, h1, h2, h3⟩ := h
  exact ⟨cs, h1, h2.fr hf hn, h3.mono fun a _ b _ h => ⟨h.1, h.2.1, h.2.2.fr hf hb⟩⟩
theorem RPktsO.fr {M : Nat → Prop} {w w' : World} {s : Sl} {l : List Pk} (h : RPktsO w s l) (hf : Fr M w w') (hn : ∀ b ∈ blkL s, ¬ M b) (hb : ∀ b, M b → ∀ cs f, w.heap[b]? ≠ some (.cells cs ty_uint8 f)) : RPktsO w' s l := by
  obtain ⟨cs, h2, h3⟩ := h
  exact ⟨cs, h2.fr hf hn, h3.mono fun a _ b _ h => ⟨h.1, h.2.1, h.2.2.fr hf hb⟩⟩
/-- a packet is put behind the others -/
theorem rpk_push {w0 w : World} {s : Sl} {l : List Pk} (p : Pk) (sb : Sl) (hw : w = w0.alloc (.cells #[.int .i64 p.seq, .int .i64 p.ack, sb.v] ty_enthymemeref38_Packet)) (h : RPktsO w s l) (hl : l.length ≤ 10000) (hb : Bytes w sb p.b) :
    ∃ (s' : Sl) (w' : World), Sem.run Try.prog (Builtin.append_ #[ty_sl_enthymemeref38_Packet, ty_sl_enthymemeref38_Packet] ty_sl_enthymemeref38_Packet #[s.v, .slice (some (Addr.mk w0.heap.size 0 none)) 1 1]) w = .ok (s'.v) w' ∧ RPktsO w' s' (l ++ [p]) ∧ Fr (· ∈ blkL s) w w' ∧ (∀ b ∈ blkL s', b ∈ blkL s ∨ w.heap.size ≤ b) ∧ (∀ b ∈ blkL s, ∀ cs f, w.heap[b]? ≠ some (.cells cs ty_uint8 f)) := by
  have hn := h.pkts.len
  obtain ⟨cs, hO, hA⟩ := h
  obtain ⟨s2, w2, hrun, o2, n2, f2, bl2, _⟩ := append_own (ty := ty_sl_enthymemeref38_Packet) (src := ⟨some ⟨w0.heap.size, 0, none⟩, 1, 1⟩) el_rpk hO (by rw [hw]; exact Row.one w0 ty_enthymemeref38_Packet [.int .i64 p.seq, .int .i64 p.ack, sb.v]) (by simp) (by simp [Value.oneCell']) (by rw [hn]; simp; omega)
  have nb := row_noTyp hO.row (T' := ty_uint8) (by decide)
  refine ⟨s2, w2, hrun, ⟨cs ++ [(p.seq, p.ack, sb)], ?_, ?_⟩, f2, bl2, nb⟩
  · rw [List.flatMap_append]; simpa [pkCells] using o2
  · exact (hA.mono fun a _ b _ h => ⟨h.1, h.2.1, h.2.2.fr f2 nb⟩).append ⟨⟨rfl, rfl, hb.fr f2 nb⟩, trivial⟩

/-- Out -/
theorem rout_any {w : World} {rb : Nat} {r : RS} {own : List Nat} {i : Nat} (h : RefRep w rb r own) (ok : r.Ok i) (hi : i ≤ 100) :
    Calls Try.prog n_enthymemeref38_End_Out #[.pointer (some (at0 rb))] w fun res w' => ∃ s : Sl, res = .returned s.v ∧ RPkts w' s (outList r.st) ∧ RefRep w' rb r.quiet own ∧ Fr (· ∈ own) w w' ∧ ∀ b ∈ blkL s, w.heap.size ≤ b := by
  have ha := ok.a
  have hS := ok.s
  have hw0 := ok.w0
  have hw1 := ok.w1
  have hwl : r.st.wait.length = r.S.length - r.a := by simp [RS.st]
  have hack : ackOf r.st = r.a := by simp [ackOf, RS.st]; omega
  have hoN : outN r.st = min r.win.toNat (r.S.length - r.a) := by unfold outN; rw [hwl]; rfl
  refine enthymemeref38_End_Out.ok _ w _ ?_
  unfold enthymemeref38_End_Out.S0 enthymemeref38_End_Out.S1 enthymemeref38_End_Out.S2
  obtain ⟨ss, hs, sls, hcs, hown, b1, b2, b3, b4, b5⟩ := id h
  refine ⟨r.a, cellAt (p := at0 rb) b1 rfl rfl, ?_⟩
  have hn : ss.n = r.S.length := by have := b2.len; simp at this; rw [← b3.length, this]
  -- the end of the loop
  have s9 : ∀ (out : Sl) (w' : World), Fr0 w w' → RPktsO w' out (outList r.st) → (∀ b ∈ blkL out, w.heap.size ≤ b) → enthymemeref38_End_Out.S9 (at0 rb) out w' fun res w' => ∃ s : Sl, res = .returned s.v ∧ RPkts w' s (outList r.st) ∧ RefRep w' rb r.quiet own ∧ Fr (· ∈ own) w w' ∧ ∀ b ∈ blkL s, w.heap.size ≤ b := by
    intro out w' F hp hbl
    obtain ⟨ss', hs', sls', hcs', hown', b1', b2', b3', b4', b5'⟩ := h.fr0 F
    unfold enthymemeref38_End_Out.S9 enthymemeref38_End_Out.S10
    refine ⟨by rw [cellAt (p := at0 rb) b1' rfl rfl]; rfl, frozenAt (p := at0 rb) b1', ?_⟩
    intro w2
    have c2 : w2.heap[rb]? = some (.cells #[.int .i64 r.win, ss'.v, .int .i64 r.a, .int .i64 r.d, hs'.v, .bool false] ty_enthymemeref38_End (0, 0)) := setAt (p := at0 rb) (i := 5) (v := .bool false) b1' rfl
    have f2 : Fr (· = rb) w' w2 := Fr.set _ _ _ rfl
    have nb2 : ∀ x, x = rb → ∀ cs f, w'.heap[x]? ≠ some (.cells cs ty_uint8 f) := fun x e cs f => by rw [e]; exact cells_typ b1' (by decide)
    obtain ⟨cs, g1, g2⟩ := id hp
    refine ⟨out, rfl, hp.pkts.fr f2 (fun x hx e => row_ne g1.row b1' (by decide) (by rw [← e]; exact hx)) nb2, ⟨ss', hs', sls', hcs', hown', c2, b2'.fr f2 (fun x hx e => row_ne b2'.row b1' (by decide) (by rw [← e]; exact hx)), b3'.mono fun a _ b _ h => h.fr f2 nb2, b4'.fr f2 (fun x hx e => row_ne b4'.row b1' (by decide) (by rw [← e]; exact hx)), b5'.mono fun a _ b _ h => ⟨h.1, h.2.fr f2 nb2⟩⟩, (F.mono fun _ _ h => h.elim).trans f2 fun x _ e => by rw [hown, e]; simp, hbl⟩
  have s7 : ∀ (out : Sl) (w' : World), Fr0 w w' → RPktsO w' out ((List.range (outN r.st)).map (outPk r.st)) → (∀ b ∈ blkL out, w.heap.size ≤ b) → enthymemeref38_End_Out.S7 (at0 rb) out w' fun res w' => ∃ s : Sl, res = .returned s.v ∧ RPkts w' s (outList r.st) ∧ RefRep w' rb r.quiet own ∧ Fr (· ∈ own) w w' ∧ ∀ b ∈ blkL s, w.heap.size ≤ b := by
    intro out w' F hp hbl
    have hon := hp.pkts.len
    simp at hon
    have c' := F.at b1 id
    unfold enthymemeref38_End_Out.S7
    refine sel_intro (fun hz => ⟨r.ow, cellAt (p := at0 rb) c' rfl rfl, sel_intro (fun ho => ?_) (fun ho => ?_)⟩) (fun hz => ?_)
    · have hz0 : outN r.st = 0 := by rw [hon] at hz; simp at hz; omega
      unfold enthymemeref38_End_Out.S8
      refine ⟨r.d, cellAt (p := at0 rb) c' rfl rfl, ?_⟩
      intro w1
      have f1 : Fr0 w' w1 := Fr.alloc _ _ _
      rw [hz0] at hp
      obtain ⟨s2, w2, hrun, hp2, f2, bl2, nb2⟩ := rpk_push (w0 := w') (w := w1) ⟨0, r.d, []⟩ ⟨none, 0, 0⟩ rfl (hp.fr f1 (fun _ _ h => h) fun _ h => h.elim) (by simp) (Bytes.nil _)
      refine ⟨s2, w2, hrun, s9 s2 w2 ?_ ?_ ?_⟩
      · refine (F.trans f1 fun _ _ h => h).trans f2 fun x hx hm => ?_
        have := hbl x hm; omega
      · unfold outList; rw [if_pos ⟨hz0, ho⟩]; exact hp2
      · intro b hb
        rcases bl2 b hb with g | g
        · exact hbl b g
        · have h1 := F.size
          have h2 := f1.size
          omega
    · exact s9 out w' F (by unfold outList; rw [if_neg (by simp [RS.st, ho])]; exact hp) hbl
    · have hz0 : outN r.st ≠ 0 := by intro h; rw [hon, h] at hz; simp at hz
      exact s9 out w' F (by unfold outList; rw [if_neg (by simp [hz0])]; exact hp) hbl
  have main : ∀ (n j : Nat), j + n = outN r.st → ∀ (out : Sl) (w' : World), Fr0 w w' → RPktsO w' out ((List.range j).map (outPk r.st)) → (∀ b ∈ blkL out, w.heap.size ≤ b) → enthymemeref38_End_Out.L3 (at0 rb) out ((r.a + j : Nat) : Int) w' fun res w' => ∃ s : Sl, res = .returned s.v ∧ RPkts w' s (outList r.st) ∧ RefRep w' rb r.quiet own ∧ Fr (· ∈ own) w w' ∧ ∀ b ∈ blkL s, w.heap.size ≤ b := by
    intro n
    induction n with
    | zero =>
      intro j hj out w' F hp hbl
      obtain rfl : j = outN r.st := by omega
      have fd : Fr0 w' w'.drew := Fr.drew _ _
      have Fd := F.trans fd fun _ _ h => h
      have cd := Fd.at b1 id
      refine enthymemeref38_End_Out.L3_step _ _ _ _ _ ?_
      unfold enthymemeref38_End_Out.S4
      have hpd : RPktsO w'.drew out _ := hp.fr fd (fun _ _ h => h) fun _ h => h.elim
      refine ⟨ss, cellAt (p := at0 rb) cd rfl rfl, sel_intro (fun hlt => ⟨r.a, cellAt (p := at0 rb) cd rfl rfl, r.win, cellAt (p := at0 rb) (i := 0) cd rfl rfl, sel_false ?_ (s7 out _ Fd hpd hbl)⟩) (fun _ => s7 out _ Fd hpd hbl)⟩
      rw [hn] at hlt
      rw [IntWalk.i64_in _ (by omega)]
      simp at hlt ⊢
      omega
    | succ n ih =>
      intro j hj out w' F hp hbl
      have hlt : r.a + j < r.S.length := by omega
      have fd : Fr0 w' w'.drew := Fr.drew _ _
      have Fd := F.trans fd fun _ _ h => h
      have cd := Fd.at b1 id
      refine enthymemeref38_End_Out.L3_step _ _ _ _ _ ?_
      unfold enthymemeref38_End_Out.S4
      refine ⟨ss, cellAt (p := at0 rb) cd rfl rfl, sel_true (by rw [hn]; simp; omega) ⟨r.a, cellAt (p := at0 rb) cd rfl rfl, r.win, cellAt (p := at0 rb) (i := 0) cd rfl rfl, sel_true ?_ ?_⟩⟩
      · rw [IntWalk.i64_in _ (by omega)]; simp; omega
      · unfold enthymemeref38_End_Out.S5
        have fdd : Fr0 w' w'.drew.drew := fd.trans (Fr.drew _ _) fun _ _ h => h
        have Fdd := F.trans fdd fun _ _ h => h
        have cdd := Fdd.at b1 id
        have hSi : r.S[r.a + j]? = some r.S[r.a + j] := List.getElem?_eq_getElem hlt
        obtain ⟨sb, hsb, hbm⟩ := b3.get' hSi
        refine ⟨r.d, cellAt (p := at0 rb) cdd rfl rfl, ss, cellAt (p := at0 rb) cdd rfl rfl, by omega, by rw [hn]; omega, ?_⟩
        have hrow := b2.row.fr Fdd fun _ _ h => h
        refine hrow.optP (i := r.a + j) (v := sb.v) (by simp [hsb]) fun p hpa hcell => ⟨sb, ?_, ?_⟩
        · rw [Int.toNat_natCast, Nat.mul_one]; exact hcell _ _ (by simp [hsb])
        intro w1
        have f1 : Fr0 w'.drew.drew w1 := Fr.alloc _ _ _
        have F1 := Fdd.trans f1 fun _ _ h => h
        have c1 := F1.at b1 id
        have ei : IntKind.wrap .i64 (((r.a + j : Nat) : Int) + 1) = ackOf r.st + 1 + j := by rw [hack, IntWalk.i64_in _ (by omega)]; omega
        have hpk : outPk r.st j = ⟨ackOf r.st + 1 + j, r.d, r.S[r.a + j]⟩ := by
          unfold outPk
          simp only [Pk.mk.injEq, true_and]
          refine ⟨rfl, ?_⟩
          simp only [RS.st, List.getD_eq_getElem?_getD, List.getElem?_drop]
          rw [hSi]; rfl
        have cellw : ∀ w2, Fr0 w w2 → w2.cell? (p.add (Int.toNat ((r.a + j : Nat) : Int) * 1)) = some sb.v := fun w2 F2 => by
          obtain ⟨p', hp', hc'⟩ := Row.cell (b2.row.fr F2 fun _ _ h => h) (i := r.a + j) (v := sb.v) (by simp [hsb])
          rw [hpa] at hp'
          cases hp'
          rw [Int.toNat_natCast, Nat.mul_one]; exact hc'
        obtain ⟨s2, w2, hrun, hp2, f2, bl2, nb2⟩ := rpk_push (w0 := w'.drew.drew) (w := w1) ⟨ackOf r.st + 1 + j, r.d, r.S[r.a + j]⟩ sb (by rw [← ei]) (hp.fr (fdd.trans f1 fun _ _ h => h) (fun _ _ h => h) fun _ h => h.elim) (by simp; omega) (hbm.fr0 F1)
        have F2 : Fr0 w w2 := F1.trans f2 fun x hx hm => by have := hbl x hm; omega
        have c2 := F2.at b1 id
        refine ⟨cellw w1 F1, cellAt (p := at0 rb) c1 rfl rfl, cellAt (p := at0 rb) c1 rfl rfl, s2, w2, hrun, cellw w2 F2, cellAt (p := at0 rb) c2 rfl rfl, cellAt (p := at0 rb) c2 rfl rfl, ?_⟩
        unfold enthymemeref38_End_Out.S6
        rw [show IntKind.wrap .i64 (((r.a + j : Nat) : Int) + 1) = ((r.a + (j + 1) : Nat) : Int) from by rw [IntWalk.i64_in _ (by omega)]; omega]
        refine ih (j + 1) (by omega) s2 w2 F2 ?_ ?_
        · rw [List.range_succ, List.map_append]
          show RPktsO w2 s2 (_ ++ [outPk r.st j])
          rw [hpk]; exact hp2
        · intro b hb
          rcases bl2 b hb with g | g
          · exact hbl b g
          · have := F1.size; omega
  exact main (outN r.st) 0 (by omega) ⟨none, 0, 0⟩ w (Fr.refl _ _) ⟨[], OwnRow.nil _ _ _, trivial⟩ (by simp [blkL])
end Run
end Go.Proofs.Ytellmncndfmbbaa

/- Readings of packets and messages; the example of the section (lives). -/
import Derived.Test.YtpfomlenbhocpaaC3
import Derived.Lib.SlBytesConst
namespace Go.Proofs.Ytpfomlenbhocpaa.Ch
open Go Go.W

theorem add_add (p : Addr) (a b : Nat) : (p.add a).add b = p.add (a + b) := by
  unfold Addr.add
  by_cases ha : a = 0 <;> by_cases hb : b = 0 <;> simp [ha, hb]
  omega
theorem flat_get {k : Nat} (hk : k < 3) : ∀ {cs : List (Int × Int × Sl)} {i : Nat} {c : Int × Int × Sl}, cs[i]? = some c → (cs.flatMap pkCells)[i * 3 + k]? = (pkCells c)[k]?
  | c :: cs, 0, c', h => by
    simp at h; subst h
    rw [List.flatMap_cons, List.getElem?_append_left (by simp [pkCells]; omega)]
    simp
  | c :: cs, i + 1, c', h => by
    rw [List.flatMap_cons, List.getElem?_append_right (by simp [pkCells]; omega)]
    rw [← flat_get hk (cs := cs) (i := i) (by simpa using h)]
    congr 1
    simp [pkCells]; omega
  | [], _, _, h => by simp at h
theorem Pkts.at {w : World} {s : Sl} {l : List Pk} (h : Pkts w s l) {i j : Nat} {p : Pk} (hi : l[i]? = some p) (hj : j = i * 3) {K : Addr → Prop}
    (hk : ∀ pa sb, Bytes w sb p.b → w.cell? ((pa.add j).add 0) = some (.int .i64 p.seq) → w.cell? ((pa.add j).add 1) = some (.int .i64 p.ack) → w.cell? ((pa.add j).add 2) = some sb.v → K pa) : W.optP s.a K := by
  subst hj
  obtain ⟨cs, hn, hr, ha⟩ := h
  obtain ⟨c, hc, h1, h2, h3⟩ := ha.get' hi
  refine hr.optP (i := i * 3 + 0) (v := .int .i64 c.1) (by rw [flat_get (by omega) hc]; rfl) fun pa _ hcell => hk pa c.2.2 h3 ?_ ?_ ?_
  · rw [add_add, ← h1]; exact hcell _ _ (by rw [flat_get (by omega) hc]; rfl)
  · rw [add_add, ← h2]; exact hcell _ _ (by rw [flat_get (by omega) hc]; rfl)
  · rw [add_add]; exact hcell _ _ (by rw [flat_get (by omega) hc]; rfl)
theorem Msgs.at {w : World} {s : Sl} {l : List (List UInt8)} (h : Msgs w s l) {i j : Nat} {b : List UInt8} (hi : l[i]? = some b) (hj : j = i * 1) {K : Addr → Prop}
    (hk : ∀ pa sb, Bytes w sb b → w.cell? (pa.add j) = some sb.v → K pa) : W.optP s.a K := by
  obtain ⟨sls, hn, hr, ha⟩ := h
  obtain ⟨c, hc, h3⟩ := ha.get' hi
  refine hr.optP (i := i) (v := c.v) (by simp [hc]) fun pa _ hcell => hk pa c h3 ?_
  rw [hj, Nat.mul_one]
  exact hcell _ _ (by simp [hc])
/-- the types of an end's own blocks -/
theorem EndRep.noTyp {w : World} {eb : Nat} {st : St} {own : List Nat} (h : EndRep w eb st own) {T : TypeId} (h1 : T ≠ ty_channel_End) (h2 : T ≠ ty_sl_uint8) : ∀ b ∈ own, ∀ cs f, w.heap[b]? ≠ some (.cells cs T f) := by
  obtain ⟨ws, mb, wss, es, clock, hss, rfl, b1, b2, _, b4, _⟩ := h
  intro b hb cs f hc
  rcases List.mem_cons.1 hb with rfl | hb
  · rw [b1] at hc
    injection hc with hc
    injection hc with _ ht _
    exact h1 ht.symm
  · rcases List.mem_cons.1 hb with rfl | hb
    · rw [b4] at hc; cases hc
    · obtain ⟨cs', f', hc'⟩ := b2.row.typ b hb
      rw [hc'] at hc
      injection hc with hc
      injection hc with _ ht _
      exact h2 ht.symm
theorem Pkts.fr {M : Nat → Prop} {w w' : World} {s : Sl} {l : List Pk} (h : Pkts w s l) (hf : Fr M w w') (hn : ∀ b, M b → ∀ cs f, w.heap[b]? ≠ some (.cells cs ty_channel_Packet f)) (hb : ∀ b, M b → ∀ cs f, w.heap[b]? ≠ some (.cells cs ty_uint8 f)) : Pkts w' s l := by
  obtain ⟨cs, h1, h2, h3⟩ := h
  refine ⟨cs, h1, h2.fr hf fun b hbb hm => ?_, h3.mono fun a _ b _ h => ⟨h.1, h.2.1, h.2.2.fr hf hb⟩⟩
  obtain ⟨cs', f', hc'⟩ := h2.typ b hbb
  exact hn b hm cs' f' hc'
theorem Pkts.end {w w' : World} {s : Sl} {l : List Pk} {eb : Nat} {st : St} {own : List Nat} (h : Pkts w s l) (hr : EndRep w eb st own) (hf : Fr (· ∈ own) w w') : Pkts w' s l :=
  h.fr hf (hr.noTyp (by decide) (by decide)) hr.noBytes
theorem Bytes.end {w w' : World} {s : Sl} {l : List UInt8} {eb : Nat} {st : St} {own : List Nat} (h : Bytes w s l) (hr : EndRep w eb st own) (hf : Fr (· ∈ own) w w') : Bytes w' s l := h.fr hf hr.noBytes
theorem EndRep.end {w w' : World} {eb eb2 : Nat} {st st2 : St} {own own2 : List Nat} (h : EndRep w eb2 st2 own2) (hr : EndRep w eb st own) (hd : ∀ x ∈ own2, x ∉ own) (hf : Fr (· ∈ own) w w') : EndRep w' eb2 st2 own2 :=
  h.fr hf hd hr.noBytes
theorem Msgs.fr {M : Nat → Prop} {w w' : World} {s : Sl} {l : List (List UInt8)} (h : Msgs w s l) (hf : Fr M w w') (hn : ∀ b ∈ blkL s, ¬ M b) (hb : ∀ b, M b → ∀ cs f, w.heap[b]? ≠ some (.cells cs ty_uint8 f)) : Msgs w' s l := by
  obtain ⟨cs, h1, h2, h3⟩ := h
  exact ⟨cs, h1, h2.fr hf hn, h3.mono fun a _ b _ h => h.fr hf hb⟩
theorem Pkts.len {w : World} {s : Sl} {l : List Pk} (h : Pkts w s l) : s.n = l.length := h.choose_spec.1
theorem Msgs.len {w : World} {s : Sl} {l : List (List UInt8)} (h : Msgs w s l) : s.n = l.length := h.choose_spec.1

/-- []byte of a constant string -/
theorem const_bytes (w : World) (cs : List UInt8) : ∃ w2, (Go.convert ty_sl_uint8 ty_sl_uint8 (.slice (some ⟨w.heap.size, 0, none⟩) cs.length cs.length)).run Try.prog (w.alloc (.cells (cs.map byteV).toArray ty_uint8)) = .ok (.slice (some ⟨w.heap.size, 0, none⟩) cs.length cs.length) w2 ∧
    Fr0 w w2 ∧ Bytes w2 ⟨some ⟨w.heap.size, 0, none⟩, cs.length, cs.length⟩ cs := by
  refine ⟨_, Lib.run_convert_bytes_const (P := Try.prog) w ty_sl_uint8 ty_uint8 _ _ _ (by kernel_rfl) (by kernel_rfl), Fr.alloc _ _ _, rfl, .inr ⟨w.heap.size, 0, _, _, rfl, heap_new _ _, fun i v hi => ?_⟩⟩
  simpa using hi
/-- string of bytes -/
theorem to_string {w : World} {s : Sl} {bs : List UInt8} (h : Bytes w s bs) : (Go.convert ty_sl_uint8 ty_string s.v).run Try.prog w = .ok (.string ⟨bs.toArray⟩) w := by
  obtain ⟨a, n, c⟩ := s
  obtain ⟨hn, hr⟩ := h
  simp only at hn
  subst hn
  rcases hr with ⟨ha, h0, hc, hv⟩ | ⟨b, o, cs, f, ha, hb, hc⟩
  · simp only at ha h0 hc
    subst ha
    have hb : bs = [] := List.eq_nil_of_length_eq_zero h0
    subst hb
    rw [run_convert_bytes_string (P := Try.prog) w ty_sl_uint8 ty_string ty_uint8 _ _ _ (by kernel_rfl) (by kernel_rfl) (by kernel_rfl)]
    rfl
  · simp only at ha
    subst ha
    exact run_convert_bytes_back (P := Try.prog) w ty_sl_uint8 ty_string ty_uint8 ⟨b, o, none⟩ c bs (by kernel_rfl) (by kernel_rfl) (by kernel_rfl) fun j hj => cellAt (p := ⟨b, o, none⟩) hb rfl (hc j _ (by simp [hj, byteV]))

/-! ### lives -/
structure Loc (w0 w : World) (eb : Nat) (st : St) (own : List Nat) : Prop where
  rep : EndRep w eb st own
  new : ∀ b ∈ own, w0.heap.size ≤ b
theorem Loc.fr0 {w0 w w' : World} {eb : Nat} {st : St} {own : List Nat} (h : Loc w0 w eb st own) (hf : Fr0 w w') : Loc w0 w' eb st own := ⟨h.rep.fr0 hf, h.new⟩
theorem fr0_of {w0 w w' : World} {own : List Nat} (hf : Fr0 w0 w) (hn : ∀ b ∈ own, w0.heap.size ≤ b) (h : Fr (· ∈ own) w w') : Fr0 w0 w' :=
  hf.trans h fun x hx hm => by have := hn x hm; omega
theorem new_of {w0 w : World} {own own' : List Nat} (hf : Fr0 w0 w) (hn : ∀ b ∈ own, w0.heap.size ≤ b) (h : ∀ x ∈ own', x ∈ own ∨ w.heap.size ≤ x) : ∀ b ∈ own', w0.heap.size ≤ b := fun b hb => by
  rcases h b hb with h | h
  · exact hn b h
  · exact Nat.le_trans hf.size h

def stA (n : Nat) : St := ⟨2, n, 0, ([[97], [98], [99]] : List (List UInt8)).take n, [], false⟩
theorem ok_of (st : St) (a : 0 ≤ st.sent) (b : st.sent ≤ 1000000) (c : 0 ≤ st.dlv) (d : st.dlv ≤ 1000000) (e : st.wait.length ≤ 1000) (f : (st.wait.length : Int) ≤ st.sent) (g : ∀ m ∈ st.wait, m.length ≤ 65536) (h : ∀ p ∈ st.held, p.2.length ≤ 65536) (i : 1 ≤ st.win) (j : st.win ≤ 16) : st.Ok :=
  ⟨a, by omega, c, by omega, e, f, g, h, i, j⟩

theorem lives_any (w0 : World) : Calls Try.prog n_enthymemelaw38_lives #[] w0 fun r w' => r = .returned (.bool true) ∧ Fr0 w0 w' := by
  refine enthymemelaw38_lives.ok w0 _ ?_
  unfold enthymemelaw38_lives.S0 enthymemelaw38_lives.S1
  refine (new_any 2 w0).mono ?_
  intro r w1 h
  unfold NewPost at h
  rw [if_pos (by omega)] at h
  obtain ⟨ea, oa, rfl, ra, f1, na⟩ := h
  refine ⟨_, _, rfl, ?_⟩
  unfold enthymemelaw38_lives.S2
  refine (new_any 2 w1).mono ?_
  intro r w2 h
  unfold NewPost at h
  rw [if_pos (by omega)] at h
  obtain ⟨e2, o2, rfl, r2, f2, n2⟩ := h
  refine ⟨_, _, rfl, ?_⟩
  unfold enthymemelaw38_lives.S3
  refine sel_false rfl (sel_false rfl (sel_false rfl (sel_false rfl ?_)))
  have F2 : Fr0 w0 w2 := f1.trans f2 fun _ _ h => h
  have A0 : Loc w0 w2 ea (stA 0) oa := ⟨ra.fr0 f2, na⟩
  have B0 : Loc w0 w2 e2 ⟨2, 0, 0, [], [], false⟩ o2 := ⟨r2, fun b hb => Nat.le_trans f1.size (n2 b hb)⟩
  have D0 : ∀ x ∈ o2, x ∉ oa := fun x hx hm => by
    have h1 := n2 x hx
    have h2 := ra.lt x hm
    omega
  clear ra r2 na n2 f1 f2
  -- the three messages
  have send : ∀ (n : Nat) (hn : n < 3) (w : World) (oa' : List Nat) (c : UInt8), ([[97], [98], [99]] : List (List UInt8))[n]? = some [c] → Fr0 w0 w → Loc w0 w ea (stA n) oa' → Loc w0 w e2 ⟨2, 0, 0, [], [], false⟩ o2 → (∀ x ∈ o2, x ∉ oa') → ∀ (K : World → Prop),
      (∀ w' oa'', Fr0 w0 w' → Loc w0 w' ea (stA (n + 1)) oa'' → Loc w0 w' e2 ⟨2, 0, 0, [], [], false⟩ o2 → (∀ x ∈ o2, x ∉ oa'') → K w') →
      ∃ (t : Sl) (w2 : World), Sem.run Try.prog (Go.convert ty_sl_uint8 ty_sl_uint8 (.slice (some (Addr.mk w.heap.size 0 none)) 1 1)) (w.alloc (.cells #[.int .u8 (c.toNat : Int)] ty_uint8)) = .ok (t.v) w2 ∧
        Calls Try.prog n_channel_End_Send #[.pointer (some (at0 ea)), t.v] w2 fun r_ w3 => ∃ t34 : Int, r_ = .returned (.int .i64 t34) ∧ K w3 := by
    intro n hn w oa' c hc F A B D K hK
    obtain ⟨w2, hrun, f, hB⟩ := const_bytes w [c]
    refine ⟨⟨_, _, _⟩, w2, hrun, (send_any (A.fr0 f).rep hB (by simp [stA]) (by simp [stA]; omega)).mono ?_⟩
    intro r w3 h
    unfold SendPost at h
    have hlen : (stA n).wait.length ≤ 3 := by simp [stA]; omega
    rw [if_neg (by simp; omega)] at h
    obtain ⟨oa'', rfl, rr, ff, oo⟩ := h
    refine ⟨_, rfl, hK w3 oa'' (fr0_of (F.trans f fun _ _ h => h) A.new ff) ⟨?_, new_of (F.trans f fun _ _ h => h) A.new oo⟩ ⟨(B.fr0 f).rep.end (A.fr0 f).rep D ff, B.new⟩ ?_⟩
    · have : sendSt (stA n) [c] = stA (n + 1) := by
        unfold sendSt stA
        simp only [St.mk.injEq, true_and, and_true]
        refine ⟨by omega, ?_⟩
        rw [List.take_add_one, hc]
        rfl
      rw [← this]; exact rr
    · intro x hx hm
      rcases oo x hm with h | h
      · exact D x hx h
      · have := (B.fr0 f).rep.lt x hx
        omega
  unfold enthymemelaw38_lives.S5
  intro w1'
  refine send 0 (by omega) w2 oa 97 rfl F2 A0 B0 D0 _ fun w3 o3 F3 A3 B3 D3 => ?_
  unfold enthymemelaw38_lives.S6
  intro w1''
  refine send 1 (by omega) w3 o3 98 rfl F3 A3 B3 D3 _ fun w4 o4 F4 A4 B4 D4 => ?_
  unfold enthymemelaw38_lives.S7
  intro w1'''
  refine send 2 (by omega) w4 o4 99 rfl F4 A4 B4 D4 _ fun w5 o5 F5 A5 B5 D5 => ?_
  clear send A0 B0 D0 A3 B3 D3 A4 B4 D4 F2 F3 F4
  -- Out
  unfold enthymemelaw38_lives.S8
  refine (out_any A5.rep (ok_of _ (by decide) (by decide) (by decide) (by decide) (by decide) (by decide) (by decide) (by simp [stA]) (by decide) (by decide))).mono ?_
  rintro r w6 ⟨p, rfl, hp, rA, fA, _⟩
  refine ⟨p, rfl, ?_⟩
  have eo : outList (stA 3) = [⟨1, 0, [97]⟩, ⟨2, 0, [98]⟩] := by rfl
  rw [eo] at hp
  have hpn : p.n = 2 := hp.len
  have F6 := fr0_of F5 A5.new fA
  have B6 : Loc w0 w6 e2 ⟨2, 0, 0, [], [], false⟩ o2 := ⟨B5.rep.end A5.rep D5 fA, B5.new⟩
  unfold enthymemelaw38_lives.S9
  refine sel_false (by simp [hpn]) ⟨by omega, by omega, hp.at (i := 0) rfl rfl fun pa sb hb h0 h1 h2 => ⟨1, h0, sel_false rfl ⟨by omega, by omega, hp.at (i := 1) rfl rfl fun pa sb hb h0 h1 h2 => ⟨2, h0, sel_false rfl ?_⟩⟩⟩⟩
  clear h0 h1 h2 hb
  unfold enthymemelaw38_lives.S11
  refine ⟨by omega, by omega, hp.at (i := 1) rfl rfl fun pa sb hb h0 h1 h2 => ⟨2, 0, sb, h0, h1, h2, (in_any B6.rep (ok_of _ (by decide) (by decide) (by decide) (by decide) (by decide) (by decide) (by decide) (by simp) (by decide) (by decide)) (by decide) (by decide) hb).mono ?_⟩⟩
  rintro r w7 ⟨x, o7, rfl, hx, rB, fB, oB, _⟩
  refine ⟨x, rfl, ?_⟩
  have e7 : inSt ⟨2, 0, 0, [], [], false⟩ 2 0 [98] = (⟨2, 0, 0, [], [(2, [98])], true⟩, []) := by rfl
  rw [show (⟨2, 0, [98]⟩ : Pk).b = [98] from rfl, e7] at hx rB
  have F7 := fr0_of F6 B6.new fB
  have D7 : ∀ y ∈ o5, y ∉ o7 := fun y hy hm => by
    rcases oB y hm with h | h
    · exact D5 y h hy
    · have := rA.lt y hy; omega
  have A7 : Loc w0 w7 ea { stA 3 with owing := false } o5 := ⟨rA.end B6.rep (fun y hy hm => D5 y hm hy) fB, A5.new⟩
  have hp7 := hp.end B6.rep fB
  have B7 : Loc w0 w7 e2 ⟨2, 0, 0, [], [(2, [98])], true⟩ o7 := ⟨rB, new_of F6 B6.new oB⟩
  unfold enthymemelaw38_lives.S12
  refine ⟨by omega, by omega, hp7.at (i := 0) rfl rfl fun pa sb hb h0 h1 h2 => ⟨1, 0, sb, h0, h1, h2, (in_any B7.rep (ok_of _ (by decide) (by decide) (by decide) (by decide) (by decide) (by decide) (by decide) (by simp) (by decide) (by decide)) (by decide) (by decide) hb).mono ?_⟩⟩
  rintro r w8 ⟨y, o8, rfl, hy, rB8, fB8, oB8, ny⟩
  refine ⟨y, rfl, ?_⟩
  have e8 : inSt ⟨2, 0, 0, [], [(2, [98])], true⟩ 1 0 [97] = (⟨2, 0, 2, [], [], true⟩, [[97], [98]]) := by rfl
  rw [show (⟨1, 0, [97]⟩ : Pk).b = [97] from rfl, e8] at hy rB8
  have F8 := fr0_of F7 B7.new fB8
  have D8 : ∀ z ∈ o5, z ∉ o8 := fun z hz hm => by
    rcases oB8 z hm with h | h
    · exact D7 z hz h
    · have := A7.rep.lt z hz; omega
  have A8 : Loc w0 w8 ea { stA 3 with owing := false } o5 := ⟨A7.rep.end B7.rep D7 fB8, A7.new⟩
  have B8 : Loc w0 w8 e2 ⟨2, 0, 2, [], [], true⟩ o8 := ⟨rB8, new_of F7 B7.new oB8⟩
  unfold enthymemelaw38_lives.S13
  refine (out_any B8.rep (ok_of _ (by decide) (by decide) (by decide) (by decide) (by decide) (by decide) (by decide) (by simp) (by decide) (by decide))).mono ?_
  rintro r w9 ⟨q, rfl, hq, rB9, fB9, _⟩
  refine ⟨q, rfl, ?_⟩
  have e9 : outList ⟨2, 0, 2, [], [], true⟩ = [⟨0, 2, []⟩] := by rfl
  rw [e9] at hq
  have F9 := fr0_of F8 B8.new fB9
  have A9 : Loc w0 w9 ea { stA 3 with owing := false } o5 := ⟨A8.rep.end B8.rep D8 fB9, A8.new⟩
  have hy9 : Msgs w9 y [[97], [98]] := hy.fr fB9 (fun b hb => (ny b hb).2) B8.rep.noBytes
  have hxn : x.n = 0 := hx.len
  have hyn : y.n = 2 := hy.len
  have hqn : q.n = 1 := hq.len
  unfold enthymemelaw38_lives.S14
  refine sel_false (by simp [hxn]) (sel_false (by simp [hyn]) ⟨by omega, by omega, hy9.at (i := 1) rfl rfl fun pa sb hb hc => ⟨sb, hc, _, to_string hb, sel_false (by simp) (sel_false (by simp [hqn]) ⟨by omega, by omega, hq.at (i := 0) rfl rfl fun pa sb hb h0 h1 h2 => ⟨2, h1, sel_false rfl ⟨by omega, by omega, hq.at (i := 0) rfl rfl fun pa sb hb h0 h1 h2 => ⟨0, h0, sel_false rfl ?_⟩⟩⟩⟩)⟩⟩)
  clear h0 h1 h2 hb
  unfold enthymemelaw38_lives.S16
  refine ⟨by omega, by omega, hq.at (i := 0) rfl rfl fun pa sb hb h0 h1 h2 => ⟨0, 2, sb, h0, h1, h2, (in_any A9.rep (ok_of _ (by decide) (by decide) (by decide) (by decide) (by decide) (by decide) (by decide) (by simp [stA]) (by decide) (by decide)) (by decide) (by decide) hb).mono ?_⟩⟩
  rintro r w10 ⟨z, o10, rfl, hz, rA10, fA10, oA10, _⟩
  refine ⟨z, rfl, ?_⟩
  have e10 : inSt { stA 3 with owing := false } 0 2 [] = (⟨2, 3, 0, [[99]], [], false⟩, []) := by rfl
  rw [show (⟨0, 2, []⟩ : Pk).b = [] from rfl, e10] at rA10
  have F10 := fr0_of F9 A9.new fA10
  have A10 : Loc w0 w10 ea ⟨2, 3, 0, [[99]], [], false⟩ o10 := ⟨rA10, new_of F9 A9.new oA10⟩
  unfold enthymemelaw38_lives.S17
  refine (out_any A10.rep (ok_of _ (by decide) (by decide) (by decide) (by decide) (by decide) (by decide) (by decide) (by simp) (by decide) (by decide))).mono ?_
  rintro r w11 ⟨p2, rfl, hp2, rA11, fA11, _⟩
  refine ⟨p2, rfl, ?_⟩
  have e11 : outList ⟨2, 3, 0, [[99]], [], false⟩ = [⟨3, 0, [99]⟩] := by rfl
  rw [e11] at hp2
  have F11 := fr0_of F10 A10.new fA11
  have hp2n : p2.n = 1 := hp2.len
  unfold enthymemelaw38_lives.S18
  refine sel_true (by simp [hp2n]) ⟨by omega, by omega, hp2.at (i := 0) rfl rfl fun pa sb hb h0 h1 h2 => ⟨3, h0, sel_true rfl ⟨by omega, by omega, hp2.at (i := 0) rfl rfl fun pa sb hb h0 h1 h2 => ⟨sb, h2, _, to_string hb, sel_true (by simp) ((waiting_any rA11).mono ?_)⟩⟩⟩⟩
  rintro r w12 ⟨rfl, rfl⟩
  exact ⟨_, rfl, rfl, F11⟩
/-! ### Around -/
def aroundI (n m : Int) : Int := if n < 0 then Int.tmod (0 - (n + 1)) m else Int.tmod n m
theorem aroundI_range (n m : Int) (hm : 1 ≤ m) : 0 ≤ aroundI n m ∧ aroundI n m < m := by
  unfold aroundI
  split
  · exact ⟨Int.tmod_nonneg _ (by omega), Int.tmod_lt_of_pos _ (by omega)⟩
  · exact ⟨Int.tmod_nonneg _ (by omega), Int.tmod_lt_of_pos _ (by omega)⟩
theorem around_any (n m : Int) (w : World) (hm : 1 ≤ m) (h1 : -9223372036854775808 ≤ n) (h2 : n ≤ 9223372036854775807) :
    Calls Try.prog n_enthymemeref01_Around #[.int .i64 n, .int .i64 m] w fun r w' => r = .returned (.int .i64 (aroundI n m)) ∧ w = w' := by
  refine enthymemeref01_Around.ok n m w _ ?_
  unfold enthymemeref01_Around.S0 enthymemeref01_Around.S1 enthymemeref01_Around.S2 enthymemeref01_Around.S3
  refine sel_intro (fun h => ?_) (fun h => ?_)
  · have h' : n < 0 := by simpa using h
    refine ⟨by omega, ?_, rfl⟩
    rw [show IntKind.wrap .i64 (n + 1) = n + 1 from IntWalk.i64_in _ (by omega), show IntKind.wrap .i64 (0 - (n + 1)) = 0 - (n + 1) from IntWalk.i64_in _ (by omega)]
    unfold aroundI; rw [if_pos h']
  · have h' : ¬ n < 0 := by simpa using h
    refine ⟨by omega, ?_, rfl⟩
    unfold aroundI; rw [if_neg h']

end Go.Proofs.Ytpfomlenbhocpaa.Ch

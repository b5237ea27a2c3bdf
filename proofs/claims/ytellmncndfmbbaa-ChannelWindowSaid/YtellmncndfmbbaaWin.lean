/- enthymemelaw38.ChannelWindow returns true for every window, number of messages and acknowledgement, and writes nothing that was there before. -/
import Derived.Test.YtellmncndfmbbaaC4
import Derived.Test.YtellmncndfmbbaaV6
namespace Go.Proofs.Ytellmncndfmbbaa
open Go Go.W

/-! ### Around -/
def aroundI (n m : Int) : Int := if n < 0 then Int.tmod (0 - (n + 1)) m else Int.tmod n m
theorem aroundI_range (n m : Int) (hm : 1 ≤ m) : 0 ≤ aroundI n m ∧ aroundI n m < m := by
  unfold aroundI
  split
  · exact ⟨Int.tmod_nonneg _ (by omega), Int.tmod_lt_of_pos _ (by omega)⟩
  · exact ⟨Int.tmod_nonneg _ (by omega), Int.tmod_lt_of_pos _ (by omega)⟩
theorem around_any (n m : Int) (w : World) (hm : 1 ≤ m) (h1 : -9223372036854775808 ≤ n) (h2 : n ≤ 9223372036854775807) :
    Calls Try.prog n_enthymemeref01_Around #[.int .i64 n, .int .i64 m] w fun r w' => r = .returned (.int .i64 (aroundI n m)) ∧ w = w' := by
  refine enthymemeref01_Around.ok n m w _ ?_
  unfold enthymemeref01_Around.S0 enthymemeref01_Around.S1 enthymemeref01_Around.S2 enthymemeref01_Around.S3
  refine sel_intro (fun h => ?_) (fun h => ?_)
  · have h' : n < 0 := by simpa using h
    refine ⟨by omega, ?_, rfl⟩
    rw [show IntKind.wrap .i64 (n + 1) = n + 1 from IntWalk.i64_in _ (by omega), show IntKind.wrap .i64 (0 - (n + 1)) = 0 - (n + 1) from IntWalk.i64_in _ (by omega)]
    unfold aroundI; rw [if_pos h']
  · have h' : ¬ n < 0 := by simpa using h
    refine ⟨by omega, ?_, rfl⟩
    unfold aroundI; rw [if_neg h']

namespace Win
def st (win : Int) (i : Nat) : St := ⟨win, (min i 1000 : Nat), 0, List.replicate (min i 1000) [], [], false⟩
theorem st_ok (win : Int) (i : Nat) (h1 : 1 ≤ win) (h2 : win ≤ 16) : (st win i).Ok :=
  ok_of _ (by simp [st] <;> omega) (by simp [st] <;> omega) (by simp [st]) (by simp [st]) (by simp [st] <;> omega) (by simp [st]) (by simp [st]) (by simp [st]) (by simpa [st]) (by simpa [st])
theorem send_st (win : Int) (i : Nat) (h : i < 1000) : sendSt (st win i) [] = st win (i + 1) := by
  unfold sendSt st
  have e1 : min i 1000 = i := by omega
  have e2 : min (i + 1) 1000 = i + 1 := by omega
  rw [e1, e2]
  simp only [St.mk.injEq, true_and, and_true]
  refine ⟨by omega, ?_⟩
  exact (List.replicate_succ' (n := i) (a := ([] : List UInt8))).symm
theorem st_full (win : Int) (i : Nat) (h : 1000 ≤ i) : st win i = st win (i + 1) := by
  unfold st
  have e1 : min i 1000 = 1000 := by omega
  have e2 : min (i + 1) 1000 = 1000 := by omega
  rw [e1, e2]
def dropped (win : Int) (n k : Nat) : St := ⟨win, n, 0, List.replicate (n - k) [], [], false⟩

/-- a message that is too long, and the example -/
theorem long (w0 : World) {w1 : World} {eb : Nat} {own : List Nat} {st : St} (F1 : Fr0 w0 w1) (r1 : EndRep w1 eb { st with owing := false } own) (ok : st.Ok) (n : Nat) (hn : 65536 < n) (hn2 : n ≤ 70000) :
    ∃ (t142 : Sl) (w2 : World), Sem.run Try.prog (Instr.makeSlice ty_sl_uint8 (.int .i64 (n : Int)) (.int .i64 (n : Int))) w1 = .ok (t142.v) w2 ∧ Calls Try.prog n_channel_End_Send #[.pointer (some (at0 eb)), t142.v] w2 fun r_ w3 => ∃ t143 : Int, r_ = .returned (.int .i64 t143) ∧
        W.sel (t143 == 4) (Calls Try.prog n_enthymemelaw38_lives #[] w3 fun r_ w4 => ∃ t147 : Bool, r_ = .returned (.bool t147) ∧ (Ending.returned (.bool t147) = .returned (.bool true) ∧ Fr0 w0 w4)) ((Ending.returned (.bool false) = .returned (.bool true) ∧ Fr0 w0 w3)) := by
  obtain ⟨w3, hrun, ho, f3⟩ := make_full el_bytes w1 n (by omega)
  rw [madeCells_one _ _ rfl] at ho
  have hB : Bytes w3 ⟨some ⟨w1.heap.size, 0, none⟩, n, n⟩ (List.replicate n 0) := by
    refine ⟨by rw [List.length_replicate], ?_⟩
    rw [List.map_replicate]
    exact ho.row
  refine ⟨⟨_, _, _⟩, w3, hrun, (send_any (r1.fr0 f3) hB ok.s0 ok.s1).mono ?_⟩
  intro r w4 h
  unfold SendPost at h
  rw [if_pos (.inl (by rw [List.length_replicate]; omega))] at h
  obtain ⟨rfl, rfl⟩ := h
  refine ⟨_, rfl, sel_true rfl ((lives_any w3).mono ?_)⟩
  rintro r w5 ⟨rfl, f5⟩
  exact ⟨_, rfl, rfl, (F1.trans f3 fun _ _ h => h).trans f5 fun _ _ h => h⟩

/-- after the second acknowledgement -/
theorem fin (w0 : World) {w : World} {eb : Nat} {own : List Nat} {win : Int} {n k : Nat} (h1 : 1 ≤ win) (h2 : win ≤ 16) (hn : n ≤ 1000) (hk : k ≤ n) (F : Fr0 w0 w) (L : Loc w0 w eb (dropped win n k) own) :
    enthymemelaw38_ChannelWindow.S32 win (some (at0 eb)) n k w fun r w' => r = .returned (.bool true) ∧ Fr0 w0 w' := by
  have ok : (dropped win n k).Ok := ok_of _ (by simp [dropped]) (by simp [dropped] <;> omega) (by simp [dropped]) (by simp [dropped]) (by simp [dropped] <;> omega) (by simp [dropped] <;> omega) (by simp [dropped]) (by simp [dropped]) (by simpa [dropped]) (by simpa [dropped])
  unfold enthymemelaw38_ChannelWindow.S32
  refine (out_any L.rep ok).mono ?_
  rintro r w1 ⟨p, rfl, hp, r1, f1, _⟩
  refine ⟨p, rfl, ?_⟩
  have F1 := fr0_of F L.new f1
  have hl : outList (dropped win n k) = (List.range (min win.toNat (n - k))).map fun i : Nat => (⟨(k : Int) + 1 + i, 0, []⟩ : Pk) := by
    unfold outList outN
    rw [if_neg (by simp [dropped])]
    have e1 : (dropped win n k).wait.length = n - k := by simp [dropped]
    rw [e1]
    refine List.map_congr_left fun i hi => ?_
    unfold outPk ackOf
    simp [dropped, List.getD]
    refine ⟨by omega, ?_⟩
    rw [List.getElem?_replicate]
    split <;> rfl
  rw [hl] at hp
  have hpn : p.n = min win.toNat (n - k) := by simpa using hp.len
  unfold enthymemelaw38_ChannelWindow.S33
  refine (waiting_any r1).mono ?_
  rintro r w2 ⟨rfl, rfl⟩
  refine ⟨_, rfl, ?_⟩
  rw [show IntKind.wrap .i64 ((n : Int) - k) = ((n - k : Nat) : Int) from by rw [IntWalk.i64_in _ (by omega)]; omega]
  rw [show (dropped win n k).wait.length = n - k by simp [dropped]]
  refine sel_true (by simp) (sel_true ?_ ?_)
  · rw [hpn]; simp; split <;> omega
  · have last := long w0 F1 r1 ok 65537 (by omega) (by omega)
    refine sel_intro (fun _ => last) (fun hne => ?_)
    have hp0 : 0 < min win.toNat (n - k) := by
      rw [hpn] at hne
      simp at hne
      omega
    refine ⟨by omega, by omega, hp.at (i := 0) (p := ⟨(k : Int) + 1 + (0 : Nat), 0, []⟩) (by simp [hp0]) rfl fun pa sb hb g0 g1 g2 => ⟨_, g0, sel_true ?_ last⟩⟩
    rw [show IntKind.wrap .i64 ((k : Int) + 1) = (k : Int) + 1 from IntWalk.i64_in _ (by omega)]
    simp

/-- from the loop over the two rounds on -/
theorem s28 (w0 : World) {w : World} {eb : Nat} {own : List Nat} {win : Int} {n k : Nat} (h1 : 1 ≤ win) (h2 : win ≤ 16) (hn : n ≤ 1000) (hk : k ≤ n) (F : Fr0 w0 w) (L : Loc w0 w eb (st win n) own) :
    enthymemelaw38_ChannelWindow.S28 win (some (at0 eb)) n k w fun r w' => r = .returned (.bool true) ∧ Fr0 w0 w' := by
  have e1 : min n 1000 = n := by omega
  have ok := st_ok win n h1 h2
  unfold enthymemelaw38_ChannelWindow.S28
  rw [show IntKind.wrap .i64 ((n : Int) + 1) = (n : Int) + 1 from IntWalk.i64_in _ (by omega)]
  refine (in_any (q := 0) (a := (n : Int) + 1) (s := ⟨none, 0, 0⟩) (b := []) L.rep ok (by simp [st]) (by simp [st]) (Bytes.nil _)).mono ?_
  rintro r w1 ⟨x, o1, rfl, _, r1, f1, oo1, _⟩
  have ei : inSt (st win n) 0 ((n : Int) + 1) [] = (st win n, []) := by
    unfold inSt; rw [if_pos (.inr (.inl (by simp [st, e1]; omega)))]
  rw [ei] at r1
  refine ⟨x, rfl, ?_⟩
  have F1 := fr0_of F L.new f1
  have L1 : Loc w0 w1 eb (st win n) o1 := ⟨r1, new_of F L.new oo1⟩
  unfold enthymemelaw38_ChannelWindow.S29
  refine (waiting_any r1).mono ?_
  rintro r w2 ⟨rfl, rfl⟩
  refine ⟨_, rfl, sel_false (by simp [st, e1]) ?_⟩
  unfold enthymemelaw38_ChannelWindow.S31
  refine (in_any (q := 0) (a := (k : Int)) (s := ⟨none, 0, 0⟩) (b := []) L1.rep ok (by simp [st]) (by simp [st]) (Bytes.nil _)).mono ?_
  rintro r w3 ⟨y, o3, rfl, _, r3, f3, oo3, _⟩
  have hv : validB 0 (k : Int) [] = true := by simp [validB]
  have ei3 : inSt (st win n) 0 (k : Int) [] = (dropped win n k, []) := by
    unfold inSt
    rw [if_neg (by rw [hv]; simp [st, e1]; omega), if_pos rfl]
    unfold inAck ackOf
    have : (st win n).sent - (st win n).wait.length = 0 := by simp [st]
    rw [this]
    split
    · simp [st, dropped, e1]
    · have : k = 0 := by omega
      subst this
      simp [st, dropped, e1]
  rw [ei3] at r3
  exact ⟨y, rfl, fin w0 h1 h2 hn hk (fr0_of F1 L1.new f3) ⟨r3, new_of F1 L1.new oo3⟩⟩

/-- the packets of one round -/
theorem l22 {w : World} {eb : Nat} {win : Int} {n k : Nat} {i12 : Int} (p : Sl) (R : Post) (m : Nat) (hm : m ≤ 1000) (hp : Pkts w p ((List.range m).map fun i : Nat => (⟨(1 : Int) + i, 0, []⟩ : Pk)))
    (hnext : enthymemelaw38_ChannelWindow.S27 win (some (at0 eb)) n k i12 w R) :
    ∀ (d j : Nat), j + d = m → enthymemelaw38_ChannelWindow.L22 win (some (at0 eb)) n k i12 p (j : Int) w R := by
  have hpn : p.n = m := by simpa using hp.len
  intro d
  induction d with
  | zero =>
    intro j hj
    refine enthymemelaw38_ChannelWindow.L22_step _ _ _ _ _ _ _ _ _ ?_
    unfold enthymemelaw38_ChannelWindow.S23
    exact sel_false (by rw [hpn]; simp; omega) hnext
  | succ d ih =>
    intro j hj
    refine enthymemelaw38_ChannelWindow.L22_step _ _ _ _ _ _ _ _ _ ?_
    unfold enthymemelaw38_ChannelWindow.S23 enthymemelaw38_ChannelWindow.S24 enthymemelaw38_ChannelWindow.S26
    have ew : IntKind.wrap .i64 ((j : Int) + 1) = ((j + 1 : Nat) : Int) := by rw [IntWalk.i64_in _ (by omega)]; omega
    have hj' : j < m := by omega
    refine sel_true (by rw [hpn]; simp; omega) ⟨by omega, by rw [hpn]; omega, hp.at (i := j) (p := ⟨(1 : Int) + j, 0, []⟩) (by simp [hj']) (by simp) fun pa sb hb g0 g1 g2 => ⟨_, g0, ?_⟩⟩
    rw [ew]
    refine sel_false (by simp; omega) ⟨by omega, by rw [hpn]; omega, hp.at (i := j) (p := ⟨(1 : Int) + j, 0, []⟩) (by simp [hj']) (by simp) fun pa sb hb g0 g1 g2 => ⟨_, g1, sel_false rfl (ih (j + 1) (by omega))⟩⟩

/-- the two rounds -/
theorem l16 (w0 : World) {eb : Nat} {win : Int} {n k : Nat} (h1 : 1 ≤ win) (h2 : win ≤ 16) (hn : n ≤ 1000) (hk : k ≤ n) :
    ∀ (d i : Nat), i + d = 2 → ∀ (w : World) (own : List Nat), Fr0 w0 w → Loc w0 w eb (st win n) own →
      enthymemelaw38_ChannelWindow.L16 win (some (at0 eb)) n k (i : Int) w fun r w' => r = .returned (.bool true) ∧ Fr0 w0 w' := by
  have e1 : min n 1000 = n := by omega
  have ok := st_ok win n h1 h2
  intro d
  induction d with
  | zero =>
    intro i hi w own F L
    refine enthymemelaw38_ChannelWindow.L16_step _ _ _ _ _ _ _ ?_
    unfold enthymemelaw38_ChannelWindow.S17
    exact sel_false (by simp; omega) (s28 w0 h1 h2 hn hk F L)
  | succ d ih =>
    intro i hi w own F L
    refine enthymemelaw38_ChannelWindow.L16_step _ _ _ _ _ _ _ ?_
    unfold enthymemelaw38_ChannelWindow.S17 enthymemelaw38_ChannelWindow.S18
    refine sel_true (by simp; omega) ((out_any L.rep ok).mono ?_)
    rintro r w1 ⟨p, rfl, hp, r1, f1, _⟩
    refine ⟨p, rfl, ?_⟩
    have F1 := fr0_of F L.new f1
    have hl : outList (st win n) = (List.range (min win.toNat n)).map fun i : Nat => (⟨(1 : Int) + i, 0, []⟩ : Pk) := by
      unfold outList outN
      rw [if_neg (by simp [st])]
      have e2 : (st win n).wait.length = n := by simp [st, e1]
      rw [e2]
      refine List.map_congr_left fun i hi => ?_
      unfold outPk ackOf
      simp [st, e1, List.getD]
      rw [List.getElem?_replicate]
      split <;> rfl
    rw [hl] at hp
    have hpn : p.n = min win.toNat n := by simpa using hp.len
    unfold enthymemelaw38_ChannelWindow.S19 enthymemelaw38_ChannelWindow.S21
    refine sel_false (by rw [hpn]; simp; split <;> omega) ?_
    refine l22 p _ (min win.toNat n) (by omega) hp ?_ (min win.toNat n) 0 (by omega)
    unfold enthymemelaw38_ChannelWindow.S27
    rw [show IntKind.wrap .i64 ((i : Int) + 1) = ((i + 1 : Nat) : Int) from by rw [IntWalk.i64_in _ (by omega)]; omega]
    exact ih (i + 1) (by omega) w1 own F1 ⟨r1, L.new⟩

/-- the messages -/
theorem l8 (w0 : World) {eb : Nat} {win ack : Int} {n : Nat} (h1 : 1 ≤ win) (h2 : win ≤ 16) (hn : n < 1003) (ha1 : -9223372036854775808 ≤ ack) (ha2 : ack ≤ 9223372036854775807) :
    ∀ (d i : Nat), i + d = n → ∀ (w : World) (own : List Nat), Fr0 w0 w → Loc w0 w eb (st win i) own →
      enthymemelaw38_ChannelWindow.L8 win ack (some (at0 eb)) n (i : Int) w fun r w' => r = .returned (.bool true) ∧ Fr0 w0 w' := by
  intro d
  induction d with
  | zero =>
    intro i hi w own F L
    obtain rfl : i = n := by omega
    refine enthymemelaw38_ChannelWindow.L8_step _ _ _ _ _ _ _ ?_
    unfold enthymemelaw38_ChannelWindow.S9 enthymemelaw38_ChannelWindow.S13 enthymemelaw38_ChannelWindow.S14
    refine sel_false (by simp) ?_
    have em : (if (1000 : Int) < (i : Int) then (1000 : Int) else (i : Int)) = ((min i 1000 : Nat) : Int) := by split <;> omega
    rw [em, show IntKind.wrap .i64 (((min i 1000 : Nat) : Int) + 1) = ((min i 1000 : Nat) : Int) + 1 from IntWalk.i64_in _ (by omega)]
    refine (around_any ack _ w (by omega) ha1 ha2).mono ?_
    rintro r w1 ⟨rfl, rfl⟩
    have hr := aroundI_range ack (((min i 1000 : Nat) : Int) + 1) (by omega)
    obtain ⟨k, hk⟩ := Int.eq_ofNat_of_zero_le hr.1
    rw [hk] at hr ⊢
    refine ⟨_, rfl, ?_⟩
    unfold enthymemelaw38_ChannelWindow.S15
    have es : st win i = st win (min i 1000) := by
      unfold st
      rw [show min (min i 1000) 1000 = min i 1000 by omega]
    rw [es] at L
    exact l16 w0 h1 h2 (by omega) (by omega) 2 0 (by omega) w own F L
  | succ d ih =>
    intro i hi w own F L
    refine enthymemelaw38_ChannelWindow.L8_step _ _ _ _ _ _ _ ?_
    unfold enthymemelaw38_ChannelWindow.S9 enthymemelaw38_ChannelWindow.S10 enthymemelaw38_ChannelWindow.S12
    refine sel_true (by simp; omega) ?_
    have ok := st_ok win i h1 h2
    refine (send_any (s := ⟨none, 0, 0⟩) (b := []) L.rep (Bytes.nil _) ok.s0 ok.s1).mono ?_
    intro r w1 h
    have ew : IntKind.wrap .i64 ((i : Int) + 1) = ((i + 1 : Nat) : Int) := by rw [IntWalk.i64_in _ (by omega)]; omega
    unfold SendPost at h
    by_cases hf : i < 1000
    · rw [if_neg (by simp [st]; omega)] at h
      obtain ⟨o1, rfl, r1, f1, oo1⟩ := h
      have ec : (!(((0 : Int) == 0) == decide ((i : Int) < 1000))) = false := by
        rw [decide_eq_true (by omega : (i : Int) < 1000)]; rfl
      refine ⟨0, rfl, ?_⟩
      rw [ec, ew]
      show enthymemelaw38_ChannelWindow.L8 win ack (some (at0 eb)) n ((i + 1 : Nat) : Int) w1 _
      rw [send_st win i hf] at r1
      exact ih (i + 1) (by omega) w1 o1 (fr0_of F L.new f1) ⟨r1, new_of F L.new oo1⟩
    · rw [if_pos (.inr (by simp [st]; omega))] at h
      obtain ⟨rfl, rfl⟩ := h
      have ec : (!(((4 : Int) == 0) == decide ((i : Int) < 1000))) = false := by
        rw [decide_eq_false (by omega : ¬ (i : Int) < 1000)]; rfl
      refine ⟨4, rfl, ?_⟩
      rw [ec, ew]
      show enthymemelaw38_ChannelWindow.L8 win ack (some (at0 eb)) n ((i + 1 : Nat) : Int) w _
      rw [st_full win i (by omega)] at L
      exact ih (i + 1) (by omega) w own F L

theorem walk (win many ack : Int) (_ : -9223372036854775808 ≤ win) (_ : win ≤ 9223372036854775807) (hm1 : -9223372036854775808 ≤ many) (hm2 : many ≤ 9223372036854775807) (ha1 : -9223372036854775808 ≤ ack) (ha2 : ack ≤ 9223372036854775807) (w : World) :
    Calls Try.prog n_enthymemelaw38_ChannelWindow #[.int .i64 win, .int .i64 many, .int .i64 ack] w fun r w' => r = .returned (.bool true) ∧ Fr0 w w' := by
  refine enthymemelaw38_ChannelWindow.ok win many ack w _ ?_
  unfold enthymemelaw38_ChannelWindow.S0 enthymemelaw38_ChannelWindow.S1
  refine (new_any win w).mono ?_
  intro r w1 h
  unfold NewPost at h
  by_cases hw : 1 ≤ win ∧ win ≤ 16
  · rw [if_pos hw] at h
    obtain ⟨eb, own, rfl, r1, f1, n1⟩ := h
    refine ⟨_, _, rfl, ?_⟩
    unfold enthymemelaw38_ChannelWindow.S2 enthymemelaw38_ChannelWindow.S4 enthymemelaw38_ChannelWindow.S6
    refine sel_false (by simp; omega) (sel_false (by simp; omega) (sel_false rfl (sel_false rfl ((around_any many 1003 w1 (by omega) hm1 hm2).mono ?_))))
    rintro r w2 ⟨rfl, rfl⟩
    have hr := aroundI_range many 1003 (by omega)
    obtain ⟨n, hn⟩ := Int.eq_ofNat_of_zero_le hr.1
    rw [hn] at hr ⊢
    refine ⟨_, rfl, ?_⟩
    unfold enthymemelaw38_ChannelWindow.S7
    exact l8 w hw.1 hw.2 (by omega) ha1 ha2 n 0 (by omega) w1 own f1 ⟨r1, n1⟩
  · rw [if_neg hw] at h
    obtain ⟨rfl, rfl⟩ := h
    refine ⟨_, _, rfl, ?_⟩
    have s3 : enthymemelaw38_ChannelWindow.S3 none 1 w fun r w' => r = .returned (.bool true) ∧ Fr0 w w' := by
      unfold enthymemelaw38_ChannelWindow.S3
      refine sel_true rfl (sel_true rfl ((lives_any w).mono ?_))
      rintro r w2 ⟨rfl, f2⟩
      exact ⟨_, rfl, rfl, f2⟩
    unfold enthymemelaw38_ChannelWindow.S2
    refine sel_intro (fun _ => s3) (fun ha => sel_intro (fun _ => s3) (fun hb => ?_))
    simp at ha hb
    omega
end Win
end Go.Proofs.Ytellmncndfmbbaa

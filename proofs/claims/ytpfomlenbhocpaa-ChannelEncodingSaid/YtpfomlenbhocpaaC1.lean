/- Package channel: what an end holds, and the contracts of New, Send, Waiting, acknowledged, Clone. -/
import Derived.Test.YtpfomlenbhocpaaVC
import Derived.Test.YtpfomlenbhocpaaH
namespace Go.Proofs.Ytpfomlenbhocpaa.Ch
open Go Go.W

/-! ### Types of this program -/
theorem el_bytes : ElemOk Try.prog ty_sl_uint8 ty_uint8 (.int .u8 0) 1 1 := ⟨by kernel_rfl, by kernel_rfl, rfl, by decide, by decide⟩
theorem el_msgs : ElemOk Try.prog ty_sl_sl_uint8 ty_sl_uint8 (.slice none 0 0) 1 24 := ⟨by kernel_rfl, by kernel_rfl, rfl, by decide, by decide⟩
theorem el_packets : ElemOk Try.prog ty_sl_channel_Packet ty_channel_Packet (.agg #[.int .i64 0, .int .i64 0, .slice none 0 0]) 3 40 := ⟨by kernel_rfl, by kernel_rfl, rfl, by decide, by decide⟩
theorem map_held : MapOk Try.prog ty_map_int_sl_uint8 ty_int ty_sl_uint8 .i64 (.slice none 0 0) := ⟨by kernel_rfl, by kernel_rfl, by kernel_rfl⟩

/-! ### Bytes -/
def byteV (b : UInt8) : Value := .int .u8 (b.toNat : Int)
def Bytes (w : World) (s : Sl) (bs : List UInt8) : Prop := s.n = bs.length ∧ Row w ty_uint8 s (bs.map byteV)
theorem byteV_one (bs : List UInt8) : ∀ u ∈ bs.map byteV, u.oneCell' = true := by
  intro u hu
  obtain ⟨b, _, rfl⟩ := List.mem_map.1 hu
  rfl
theorem Bytes.fr {M : Nat → Prop} {w w' : World} {s : Sl} {bs : List UInt8} (h : Bytes w s bs) (hf : Fr M w w') (hn : ∀ b, M b → ∀ cs f, w.heap[b]? ≠ some (.cells cs ty_uint8 f)) : Bytes w' s bs :=
  ⟨h.1, h.2.fr hf fun b hb hm => by
    obtain ⟨cs, f, hc⟩ := h.2.typ b hb
    exact hn b hm cs f hc⟩
theorem Bytes.nil (w : World) : Bytes w ⟨none, 0, 0⟩ [] := ⟨rfl, Row.nil w _⟩

/-- a frame that writes nothing -/
abbrev Fr0 (w w' : World) : Prop := Fr (fun _ => False) w w'
theorem Bytes.fr0 {w w' : World} {s : Sl} {bs : List UInt8} (h : Bytes w s bs) (hf : Fr0 w w') : Bytes w' s bs := h.fr hf fun _ h => h.elim

/-- slices.Clone of bytes -/
def CloneBytes (w : World) (bs : List UInt8) : Post := fun r w' => ∃ s : Sl, r = .returned s.v ∧ Bytes w' s bs ∧ Fr0 w w' ∧ ∀ b ∈ blkL s, w.heap.size ≤ b
theorem clone_bytes (s : Sl) (bs : List UInt8) (w : World) (hb : Bytes w s bs) (hl : bs.length ≤ 140737488355328) : Calls Try.prog n_slices_Clone_sl_byte_byte #[s.v] w (CloneBytes w bs) := by
  refine slices_Clone_sl_byte_byte.ok s w _ ?_
  unfold slices_Clone_sl_byte_byte.S0 slices_Clone_sl_byte_byte.S1
  refine sel_intro (fun h => ?_) (fun h => ?_)
  · unfold slices_Clone_sl_byte_byte.S2
    have hn : bs = [] := by
      rcases hb.2 with ⟨_, hn, _⟩ | ⟨b, o, cs, f, ha, _⟩
      · exact List.eq_nil_of_length_eq_zero (by rw [← hb.1, hn])
      · rw [ha] at h; cases h
    subst hn
    exact ⟨⟨none, 0, 0⟩, rfl, Bytes.nil w, Fr.refl _ _, by simp [blkL]⟩
  · unfold slices_Clone_sl_byte_byte.S3
    intro w1
    have ho : OwnRow w1 ty_uint8 1 ⟨some ⟨w.heap.size, 0, none⟩, 0, 0⟩ [] := OwnRow.made w ty_uint8 1 0 [] rfl (by simp [maxLen])
    have hb1 : Bytes w1 s bs := hb.fr0 (Fr.alloc _ _ _)
    obtain ⟨s', w2, hrun, hown, hn, hfr, hbl, _⟩ := append_own el_bytes ho hb1.2 (by simp [hb.1]) (byteV_one bs) (by simp [hb.1]; omega)
    refine ⟨s', w2, hrun, s', rfl, ⟨by simpa [hb.1] using hn, hown.row⟩, ?_, ?_⟩
    · refine (Fr.alloc (fun _ => False) w _).trans hfr fun x hx hm => ?_
      simp [blkL] at hm
      omega
    · intro b hb'
      rcases hbl b hb' with h | h
      · simp [blkL] at h; omega
      · have : w1.heap.size = w.heap.size + 1 := size_alloc _ _
        omega

/-! ### What an end holds -/
structure St where
  win : Int
  sent : Int
  dlv : Int
  wait : List (List UInt8)
  held : List (Int × List UInt8)
  owing : Bool

structure EndRep (w : World) (eb : Nat) (st : St) (own : List Nat) : Prop where
  ex : ∃ (ws : Sl) (mb : Nat) (wss : List Sl) (es : Array MapEntry) (clock : Nat) (hss : List (Int × Sl)),
    own = eb :: mb :: blkL ws ∧
    w.heap[eb]? = some (.cells #[.int .i64 st.win, .int .i64 st.sent, ws.v, .int .i64 st.dlv, .map (some mb), .bool st.owing] ty_channel_End (0, 0)) ∧
    OwnRow w ty_sl_uint8 1 ws (wss.map Sl.v) ∧ All2 (Bytes w) wss st.wait ∧
    w.heap[mb]? = some (.map es clock) ∧ MapIs .i64 es (hss.map fun p => (p.1, p.2.v)) ∧ All2 (fun (p : Int × Sl) (q : Int × List UInt8) => p.1 = q.1 ∧ Bytes w p.2 q.2) hss st.held

theorem EndRep.lt {w : World} {eb : Nat} {st : St} {own : List Nat} (h : EndRep w eb st own) : ∀ b ∈ own, b < w.heap.size := by
  obtain ⟨ws, mb, wss, es, clock, hss, rfl, h1, h2, _, h4, _⟩ := h
  intro b hb
  rcases List.mem_cons.1 hb with rfl | hb
  · exact lt_of_heap h1
  · rcases List.mem_cons.1 hb with rfl | hb
    · exact lt_of_heap h4
    · exact h2.lt b hb
/-- none of an end's own blocks holds bytes -/
theorem EndRep.noBytes {w : World} {eb : Nat} {st : St} {own : List Nat} (h : EndRep w eb st own) : ∀ b ∈ own, ∀ cs f, w.heap[b]? ≠ some (.cells cs ty_uint8 f) := by
  obtain ⟨ws, mb, wss, es, clock, hss, rfl, h1, h2, _, h4, _⟩ := h
  intro b hb cs f hc
  rcases List.mem_cons.1 hb with rfl | hb
  · rw [h1] at hc; cases hc
  · rcases List.mem_cons.1 hb with rfl | hb
    · rw [h4] at hc; cases hc
    · obtain ⟨cs', f', hc'⟩ := h2.row.typ b hb
      rw [hc'] at hc; cases hc
theorem EndRep.fr {M : Nat → Prop} {w w' : World} {eb : Nat} {st : St} {own : List Nat} (h : EndRep w eb st own) (hf : Fr M w w') (hn : ∀ b ∈ own, ¬ M b) (hb : ∀ b, M b → ∀ cs f, w.heap[b]? ≠ some (.cells cs ty_uint8 f)) : EndRep w' eb st own := by
  obtain ⟨ws, mb, wss, es, clock, hss, rfl, h1, h2, h3, h4, h5, h6⟩ := h
  refine ⟨ws, mb, wss, es, clock, hss, rfl, hf.at h1 (hn _ (by simp)), h2.fr hf (fun b hb => hn b (by simp [hb])), h3.mono fun a _ b _ h => h.fr hf hb, hf.at h4 (hn _ (by simp)), h5, h6.mono fun a _ b _ h => ⟨h.1, h.2.fr hf hb⟩⟩
theorem EndRep.fr0 {w w' : World} {eb : Nat} {st : St} {own : List Nat} (h : EndRep w eb st own) (hf : Fr0 w w') : EndRep w' eb st own := h.fr hf (fun _ _ h => h) fun _ h => h.elim

abbrev at0 (b : Nat) : Addr := ⟨b, 0, none⟩

/-- New -/
def NewPost (win : Int) (w : World) : Post := fun r w' =>
  if 1 ≤ win ∧ win ≤ 16 then ∃ eb own, r = .returned (.tuple #[.pointer (some (at0 eb)), .int .i64 0]) ∧ EndRep w' eb ⟨win, 0, 0, [], [], false⟩ own ∧ Fr0 w w' ∧ ∀ b ∈ own, w.heap.size ≤ b
  else r = .returned (.tuple #[.pointer none, .int .i64 1]) ∧ w = w'
theorem new_any (win : Int) (w : World) : Calls Try.prog n_channel_New #[.int .i64 win] w (NewPost win w) := by
  refine channel_New.ok win w _ ?_
  unfold channel_New.S0 channel_New.S1 channel_New.S2 channel_New.S3
  refine sel_intro (fun h => ?_) (fun h => sel_intro (fun h' => ?_) (fun h' => ?_))
  · have : ¬ (1 ≤ win ∧ win ≤ 16) := by simp at h; omega
    unfold NewPost; rw [if_neg this]; exact ⟨rfl, rfl⟩
  · have : ¬ (1 ≤ win ∧ win ≤ 16) := by simp at h'; omega
    unfold NewPost; rw [if_neg this]; exact ⟨rfl, rfl⟩
  · have : 1 ≤ win ∧ win ≤ 16 := by simp at h h'; omega
    intro w1 w2
    unfold NewPost; rw [if_pos this]
    have hs1 : w1.heap.size = w.heap.size + 1 := size_alloc _ _
    refine ⟨w1.heap.size, [w1.heap.size, w.heap.size], rfl, ⟨⟨none, 0, 0⟩, w.heap.size, [], #[], 0, [], rfl, heap_new _ _, OwnRow.nil _ _ _, trivial, heap_old _ (heap_new _ _), rfl, trivial⟩, (Fr.alloc _ _ _).trans (Fr.alloc _ _ _) (fun _ _ h => h), ?_⟩
    intro b hb
    simp at hb
    omega

/-- acknowledged -/
theorem ack_any {w : World} {eb : Nat} {st : St} {own : List Nat} (h : EndRep w eb st own) (h0 : 0 ≤ st.sent) (h1 : st.sent < 4611686018427387904) (h2 : st.wait.length ≤ 4611686018427387904) :
    Calls Try.prog n_channel_End_acknowledged #[.pointer (some (at0 eb))] w fun r w' => r = .returned (.int .i64 (st.sent - st.wait.length)) ∧ w.drew = w' := by
  obtain ⟨ws, mb, wss, es, clock, hss, rfl, b1, b2, b3, b4, b5, b6⟩ := h
  have hn : ws.n = st.wait.length := by have := b2.len; simp at this; rw [← b3.length, this]
  refine channel_End_acknowledged.ok _ w _ ?_
  unfold channel_End_acknowledged.S0 channel_End_acknowledged.S1
  refine ⟨st.sent, cellAt (p := at0 eb) b1 rfl rfl, ws, cellAt (p := at0 eb) b1 rfl rfl, ?_, rfl⟩
  rw [hn]
  congr 2
  exact IntWalk.i64_in _ (by omega)

/-- Waiting -/
theorem waiting_any {w : World} {eb : Nat} {st : St} {own : List Nat} (h : EndRep w eb st own) :
    Calls Try.prog n_channel_End_Waiting #[.pointer (some (at0 eb))] w fun r w' => r = .returned (.int .i64 st.wait.length) ∧ w = w' := by
  obtain ⟨ws, mb, wss, es, clock, hss, rfl, b1, b2, b3, b4, b5, b6⟩ := h
  have hn : ws.n = st.wait.length := by have := b2.len; simp at this; rw [← b3.length, this]
  refine channel_End_Waiting.ok _ w _ ?_
  unfold channel_End_Waiting.S0 channel_End_Waiting.S1
  exact ⟨ws, cellAt (p := at0 eb) b1 rfl rfl, by rw [hn], rfl⟩
end Go.Proofs.Ytpfomlenbhocpaa.Ch

/- enthymemelaw38.ChannelDetects returns true for every input and writes nothing that was there before. -/
import Derived.Test.YtpfomlenbhocpaaCE
import Derived.Test.YtpfomlenbhocpaaC4
import Derived.Test.YtpfomlenbhocpaaVA
namespace Go.Proofs.Ytpfomlenbhocpaa
open Go Go.W
namespace Det
theorem xor_u8 (x y : Nat) (hx : x < 256) (hy : y < 256) : W.bXor .u8 (x : Int) (y : Int) = ((x ^^^ y : Nat) : Int) := by
  unfold bXor
  have h1 : (BitVec.ofInt (IntKind.bits .u8) (x : Int) ^^^ BitVec.ofInt (IntKind.bits .u8) (y : Int)).toNat = x ^^^ y := by
    show (BitVec.ofInt 8 (x : Int) ^^^ BitVec.ofInt 8 (y : Int)).toNat = _
    rw [BitVec.toNat_xor, BitVec.ofInt_natCast, BitVec.ofInt_natCast, BitVec.toNat_ofNat, BitVec.toNat_ofNat, Nat.mod_eq_of_lt hx, Nat.mod_eq_of_lt hy]
  rw [h1]
  have : x ^^^ y < 2 ^ 8 := Nat.xor_lt_two_pow hx hy
  rw [u8_nat, Nat.mod_eq_of_lt this]
/-- a byte that is changed is another one -/
theorem turn_byte (c : UInt8) (t : Int) (h : 0 ≤ t ∧ t ≤ 255) : ∃ d : UInt8, W.bXor .u8 (c.toNat : Int) (IntKind.wrap .u8 (1 + (Int.tmod t 255))) = (d.toNat : Int) ∧ c ≠ d := by
  obtain ⟨m, hm, h1, h2⟩ : ∃ m : Nat, IntKind.wrap .u8 (1 + (Int.tmod t 255)) = (m : Int) ∧ 1 ≤ m ∧ m < 256 := by
    have g1 := Int.tmod_nonneg 255 h.1
    have g2 := Int.tmod_lt_of_pos t (show (0 : Int) < 255 by omega)
    refine ⟨(1 + Int.tmod t 255).toNat, ?_, by omega, by omega⟩
    rw [IntKind.wrap_u8]; omega
  have hc := c.toNat_lt
  have hx : c.toNat ^^^ m < 2 ^ 8 := Nat.xor_lt_two_pow hc h2
  refine ⟨UInt8.ofNat (c.toNat ^^^ m), ?_, fun e => ?_⟩
  · rw [hm, xor_u8 _ _ hc h2]
    rw [UInt8.toNat_ofNat', Nat.mod_eq_of_lt hx]
  · have e' := congrArg UInt8.toNat e
    rw [UInt8.toNat_ofNat', Nat.mod_eq_of_lt hx] at e'
    have : c.toNat ^^^ 0 = c.toNat ^^^ m := by rw [Nat.xor_zero]; exact e'
    rw [Nat.xor_comm, Nat.xor_comm c.toNat] at this
    have := xor_cancel this
    omega
/-- a change after the length is seen -/
theorem seen (c : List UInt8) (hc : c.length < 18446744073709551616) (k : Nat) (d d0 : UInt8) (hk : (encU c.length).length ≤ k) (hg : (wholeB c)[k]? = some d0) (hd : d0 ≠ d) : (decP ((wholeB c).set k d)).e = 21 ∨ (decP ((wholeB c).set k d)).e = 2 := by
  have hb := bytesH_lt parcel c
  have ew : wholeB c = encU c.length ++ (c ++ encU (bytesH parcel c)) := by unfold wholeB encR; rw [List.append_assoc]
  obtain ⟨j, rfl⟩ : ∃ j, k = (encU c.length).length + j := ⟨k - (encU c.length).length, by omega⟩
  rw [ew] at hg ⊢
  rw [List.getElem?_append_right (by omega), show (encU c.length).length + j - (encU c.length).length = j by omega] at hg
  rw [List.set_append_right _ _ (by omega), show (encU c.length).length + j - (encU c.length).length = j by omega]
  by_cases hj : j < c.length
  · rw [List.getElem?_append_left hj] at hg
    rw [List.set_append_left _ _ hj, ← List.append_assoc]
    have er : encU c.length ++ c.set j d = encR (c.set j d) := by unfold encR; rw [List.length_set]
    rw [er]
    left
    unfold decP
    rw [rdRaw_enc _ (by rw [List.length_set]; exact hc)]
    simp only []
    have h0 := rdU_enc (bytesH parcel c) hb []
    rw [List.append_nil] at h0
    rw [h0]
    simp only []
    rw [if_neg (by simp [rdEnd]), if_pos (bytesH_change hg hd)]
  · rw [List.getElem?_append_right (by omega)] at hg
    rw [List.set_append_right _ _ (by omega), ← List.append_assoc]
    rw [show encU c.length ++ c = encR c from rfl]
    unfold decP
    rw [rdRaw_enc _ hc]
    simp only []
    by_cases he : rdEnd (rdU ⟨(encU (bytesH parcel c)).set (j - c.length) d, 0⟩).2 ≠ 0
    · rw [if_pos he]; exact .inr rfl
    · rw [if_neg he]
      have hne : (rdU ⟨(encU (bytesH parcel c)).set (j - c.length) d, 0⟩).1 ≠ bytesH parcel c := fun hz => by
        have he' : rdEnd (rdU ⟨(encU (bytesH parcel c)).set (j - c.length) d, 0⟩).2 = 0 := by simpa using he
        have hz1 : (rdU ⟨(encU (bytesH parcel c)).set (j - c.length) d, 0⟩).2.err = 0 := by
          by_cases h : (rdU ⟨(encU (bytesH parcel c)).set (j - c.length) d, 0⟩).2.err = 0
          · exact h
          · unfold rdEnd at he'; rw [if_pos h] at he'; exact absurd he' h
        have hz2 : (rdU ⟨(encU (bytesH parcel c)).set (j - c.length) d, 0⟩).2.bs = [] := by
          unfold rdEnd at he'
          rw [if_neg (by simpa using hz1)] at he'
          by_cases h : 0 < (rdU ⟨(encU (bytesH parcel c)).set (j - c.length) d, 0⟩).2.bs.length
          · rw [if_pos h] at he'; cases he'
          · exact List.eq_nil_of_length_eq_zero (by omega)
        have := (rdU_back hz1).2
        rw [hz2, hz, List.append_nil] at this
        simp only at this
        rw [← this, List.getElem?_set, if_pos rfl] at hg
        split at hg
        · exact hd (Option.some.inj hg).symm
        · cases hg
      rw [if_pos hne]
      exact .inl rfl
theorem walk (seq ack : Int) (b : Sl) (at' by' : Int) (w : World) (hs : I64 seq) (hk : I64 ack) (hb : ArgBytes w b) (ha : I64 at') (hby : 0 ≤ by' ∧ by' ≤ 255) :
    Calls Try.prog n_enthymemelaw38_ChannelDetects #[.int .i64 seq, .int .i64 ack, b.v, .int .i64 at', .int .u8 by'] w fun r w' => r = .returned (.bool true) ∧ Fr0 w w' := by
  obtain ⟨l, hl, _⟩ := hb
  refine enthymemelaw38_ChannelDetects.ok _ _ _ _ _ w _ ((around_any seq 100000 w (by omega) hs).mono ?_)
  rintro r w1 ⟨rfl, rfl⟩
  have r1 := aroundI_range seq 100000 (by omega)
  generalize aroundI seq 100000 = q0 at r1
  refine ⟨_, rfl, (around_any ack 100000 w (by omega) hk).mono ?_⟩
  rintro r w1 ⟨rfl, rfl⟩
  have r2 := aroundI_range ack 100000 (by omega)
  generalize aroundI ack 100000 = a at r2
  refine ⟨_, rfl, (few_any hl 200 (by omega)).mono ?_⟩
  rintro r w3 ⟨s, rfl, o3, f3, n3⟩
  have hs3 : w.heap.size ≤ w3.heap.size := f3.size
  have l3 := o3.lt
  have lb : (l.take 200).length ≤ 200 := by rw [List.length_take]; omega
  generalize l.take 200 = bb at o3 lb
  refine ⟨s, rfl, ?_⟩
  rw [show IntKind.wrap .i64 (1 + q0) = 1 + q0 from IntWalk.i64_in _ (by omega)]
  intro w4
  have f4 : Fr0 w3 w4 := Fr.alloc _ _ _
  have s4 : w4.heap.size = w3.heap.size + 1 := size_alloc _ _
  have c4 : w4.heap[w3.heap.size]? = some (.cells #[.int .i64 0, .int .i64 0, (⟨none, 0, 0⟩ : Sl).v] ty_channel_Packet (0, 0)) := heap_new w3 _
  have o4 := o3.fr0 f4
  clear_value w4
  refine set3 c4 (.int .i64 (1 + q0)) (.int .i64 a) s.v (fun w' => enthymemelaw38_ChannelDetects.S2 at' by' (at0 w3.heap.size) w' _) fun w5 c5 f5 => ?_
  have hs5 : w4.heap.size ≤ w5.heap.size := f5.size
  have o5 := o4.fr f5 fun x hx e => by have := l3 x hx; omega
  have F5 : Fr0 w w5 := (f3.tr0 f4).trn f5 fun x e => by omega
  obtain ⟨g0, g1, g2⟩ := get3 c5
  refine ⟨_, _, s, g0, g1, g2, (c_encode (1 + q0) a (by omega) (by omega) o5.rd o5.lt).mono ?_⟩
  rintro r w6 ⟨x, rfl, o6, f6, n6⟩
  have hv : validB (1 + q0) a bb = true := by unfold validB; simp; omega
  have ep : encP (1 + q0) a bb = (wholeB (coreB (1 + q0) a bb), 0) := by unfold encP; rw [hv]; rfl
  rw [ep] at o6 ⊢
  simp only [] at o6
  have lc : (coreB (1 + q0) a bb).length ≤ 1000 := by
    have h1 := encI_len (1 + q0) (by omega)
    have h2 := encI_len a (by omega)
    have h3 := encU_len10 bb.length (by omega)
    unfold coreB encR
    simp
    omega
  generalize coreB (1 + q0) a bb = c at o6 lc
  have hlw : (wholeB c).length = (encU c.length).length + c.length + (encU (bytesH parcel c)).length := by unfold wholeB encR; simp; omega
  have hp1 := encU_pos (bytesH parcel c)
  have h10 := encU_len10 (bytesH parcel c) (bytesH_lt _ _)
  have hc10 := encU_len10 c.length (by omega)
  have hs6 : w5.heap.size ≤ w6.heap.size := f6.size
  have F6 : Fr0 w w6 := F5.tr0 f6
  refine ⟨x, _, rfl, (r_read o6.rd (by omega)).mono ?_⟩
  rintro r w7 ⟨rb, fp, rfl, r7, f7, n7⟩
  have hs7 : w6.heap.size ≤ w7.heap.size := f7.size
  have x7 := o6.fr0 f7
  have xlt := o6.lt
  have hrb : w6.heap.size ≤ rb := n7 rb r7.mem
  have F7 := F6.tr0 f7
  refine ⟨_, rfl, sel_false rfl (sel_false rfl ((r_raw r7).mono ?_))⟩
  rintro r w8 ⟨core, rfl, o8, r8, f8, n8⟩
  have hs8 : w7.heap.size ≤ w8.heap.size := f8.size
  have x8 := x7.fr f8 fun z hz e => by have := xlt z hz; omega
  have F8 : Fr0 w w8 := F7.trn f8 fun z e => by have := F6.size; omega
  have e8 : rdRaw ⟨wholeB c, 0⟩ = (c, ⟨encU (bytesH parcel c), 0⟩) := by unfold wholeB; exact rdRaw_enc c (by omega) _
  rw [e8] at o8 r8
  simp only [] at o8 r8
  refine ⟨core, rfl, (r_uint r8).mono ?_⟩
  rintro r w9 ⟨rfl, r9, f9⟩
  have hs9 : w8.heap.size ≤ w9.heap.size := f9.size
  have rlt := r7.lt rb r7.mem
  have x9 := x8.fr f9 fun z hz e => by have := xlt z hz; omega
  have o9 := o8.fr f9 fun z hz e => by have := n8 z hz; omega
  have F9 : Fr0 w w9 := F8.trn f9 fun z e => by have := F6.size; omega
  have e9 := rdU_enc (bytesH parcel c) (bytesH_lt _ _) []
  rw [List.append_nil] at e9
  rw [e9] at r9 ⊢
  simp only [] at r9
  refine ⟨_, rfl, ?_⟩
  unfold enthymemelaw38_ChannelDetects.S8
  intro w10
  have f10 : Fr0 w9 w10 := Fr.alloc _ _ _
  have s10 : w10.heap.size = w9.heap.size + 1 := size_alloc _ _
  have k10 : WrRep w10 w9.heap.size [] [w9.heap.size] := WrRep.new w9
  clear_value w10
  have hcn : core.n = c.length := Bytes.len o9.rd
  unfold enthymemelaw38_ChannelDetects.S9
  rw [hcn, u64_nat _ (by omega)]
  refine (w_uint k10 c.length (by omega) (by simp)).mono ?_
  rintro r w11 ⟨rfl, own11, k11, f11, o11⟩
  have hs11 : w10.heap.size ≤ w11.heap.size := f11.size
  have F11 : Fr0 w w11 := (F9.tr0 f10).trn f11 fun z hz => by have := F9.size; simp at hz; omega
  have x11 := (x9.fr0 f10).fr f11 fun z hz hm => by have := xlt z hz; simp at hm; omega
  have c11 := (o9.fr0 f10).fr f11 fun z hz hm => by have := o9.lt z hz; simp at hm; omega
  have r11 := (r9.fr0 f10).fr f11 fun z hz hm => by have := r9.lt z hz; simp at hm; omega
  rw [List.nil_append] at k11
  refine ⟨rfl, (w_done k11 (by omega)).mono ?_⟩
  rintro r w12 ⟨d, rfl, d12, f12, _⟩
  have hdn := Bytes.len d12.rd
  have x12 := x11.fr0 f12
  have c12 := c11.fr0 f12
  have F12 := F11.tr0 f12
  refine ⟨d, rfl, (r_end (r11.fr0 f12)).mono ?_⟩
  rintro r w13 ⟨rfl, f13⟩
  have x13 := x12.fr0 f13
  have c13 := c12.fr0 f13
  have F13 := F12.tr0 f13
  refine ⟨_, rfl, sel_false rfl ((h_bytes _ c13.rd c13.lt (by omega) (by decide)).mono ?_)⟩
  rintro r w14 ⟨rfl, f14⟩
  have x14 := x13.fr0 f14
  have F14 := F13.tr0 f14
  have hxn : x.n = (wholeB c).length := Bytes.len x14.rd
  refine ⟨_, rfl, ?_⟩
  rw [show bl (ByteArray.mk #[112, 97, 114, 99, 101, 108]) = parcel from rfl]
  refine sel_false (by simp) (sel_false (decide_eq_false (by omega)) ?_)
  unfold enthymemelaw38_ChannelDetects.S13
  rw [hxn, hdn, show IntKind.wrap .i64 (((wholeB c).length : Int) - ((encU c.length).length : Int)) = ((wholeB c).length : Int) - ((encU c.length).length : Int) from IntWalk.i64_in _ (by omega)]
  refine (around_any at' _ w14 (by omega) ha).mono ?_
  rintro r w15 ⟨rfl, rfl⟩
  have rk := aroundI_range at' (((wholeB c).length : Int) - ((encU c.length).length : Int)) (by omega)
  generalize aroundI at' (((wholeB c).length : Int) - ((encU c.length).length : Int)) = j at rk
  refine ⟨_, rfl, ?_⟩
  obtain ⟨k, hk, hk1, hk2⟩ : ∃ k : Nat, IntKind.wrap .i64 (((encU c.length).length : Int) + j) = (k : Int) ∧ (encU c.length).length ≤ k ∧ k < (wholeB c).length :=
    ⟨(((encU c.length).length : Int) + j).toNat, by rw [IntWalk.i64_in _ (by omega)]; omega, by omega, by omega⟩
  rw [hk]
  have hg : (wholeB c)[k]? = some (wholeB c)[k] := List.getElem?_eq_getElem hk2
  generalize (wholeB c)[k] = d0 at hg
  obtain ⟨d, hd, hne⟩ := turn_byte d0 by' hby
  refine ⟨by omega, by omega, Bytes.cell x14.rd hg (by rw [Int.toNat_natCast]) fun p hp hcell => ⟨_, hcell, by omega, by omega, ?_⟩⟩
  rw [hd]
  obtain ⟨p', hp', _, t1, t2, t3, t4⟩ := ow_set x14 k (by simpa using hk2) (byteV d)
  rw [hp'] at hp
  obtain rfl := Option.some.inj hp
  rw [hp', Int.toNat_natCast, Nat.mul_one]
  refine ⟨t1, t2, ?_⟩
  have em : ((wholeB c).map byteV).set k (byteV d) = ((wholeB c).set k d).map byteV := by rw [List.map_set]
  rw [em] at t3
  have F15 : Fr0 w (w14.setCell (p'.add k) (byteV d)) := F14.trn t4 fun z hz => by have := n6 z hz; have := F5.size; omega
  show enthymemelaw38_ChannelDetects.S15 x (w14.setCell (p'.add k) (byteV d)) _
  generalize w14.setCell (p'.add k) (byteV d) = w15 at t3 F15
  refine (c_decode t3.rd (by rw [List.length_set]; omega)).mono ?_
  rintro r w16 ⟨t, rfl, _, f16, _⟩
  refine ⟨_, _, t, _, rfl, ?_⟩
  intro w17
  have f17 : Fr0 w16 w17 := Fr.alloc _ _ _
  have c17 : w17.heap[w16.heap.size]? = some (.cells #[.int .i64 0, .int .i64 0, (⟨none, 0, 0⟩ : Sl).v] ty_channel_Packet (0, 0)) := heap_new w16 _
  clear_value w17
  have F17 := F15.tr0 (f16.tr0 f17)
  refine set3 c17 _ _ t.v (fun w' => enthymemelaw38_ChannelDetects.S16 _ w' _) fun w18 _ f18 => ?_
  have F18 : Fr0 w w18 := F17.trn f18 fun z e => by have := (F15.tr0 f16).size; omega
  have live : Calls Try.prog n_enthymemelaw38_lives #[] w18 fun r_ w1 => ∃ t99 : Bool, r_ = .returned (.bool t99) ∧ (Ending.returned (Value.bool t99) = .returned (.bool true) ∧ Fr0 w w1) := by
    refine (Ch.lives_any w18).mono ?_
    rintro r w19 ⟨rfl, f19⟩
    exact ⟨_, rfl, rfl, F18.tr0 f19⟩
  rcases seen c (by omega) k d d0 hk1 hg hne with h | h
  · rw [h]; exact sel_true rfl live
  · rw [h]; exact sel_false rfl (sel_true rfl live)
end Det
end Go.Proofs.Ytpfomlenbhocpaa

/- enthymemelaw02.WireOwn returns true for every input and writes nothing that was there before. -/
import Derived.Test.YtjmnpdacalbpkaaWM
import Derived.Test.YtjmnpdacalbpkaaVB
namespace Go.Proofs.Ytjmnpdacalbpkaa
open Go Go.W
namespace Own
/-- append([]byte{}, b...) -/
theorem copy {w : World} {s : Sl} {bs : List UInt8} (hb : Bytes w s bs) (hl : bs.length ≤ 100000000000000) :
    ∃ (t : Sl) (w2 : World), Sem.run Try.prog (Builtin.append_ #[ty_sl_uint8, ty_sl_uint8] ty_sl_uint8 #[.slice (some (Addr.mk w.heap.size 0 none)) 0 0, s.v]) (w.alloc (.cells #[] ty_uint8)) = .ok (t.v) w2 ∧ BytesO w2 t bs ∧ Fr0 w w2 ∧ ∀ x ∈ blkL t, w.heap.size ≤ x := by
  have f1 : Fr0 w (w.alloc (.cells #[] ty_uint8)) := Fr.alloc _ _ _
  obtain ⟨t, w2, g1, g2, g3, g4, _⟩ := append_bytes (ty := ty_sl_uint8) (xs := []) (Ow.made w ty_uint8 [] 0 rfl (by omega)) (hb.fr0 f1) (by simp; omega)
  refine ⟨t, w2, g1, by simpa using g2, f1.trn g3 (by simp [blkL]), fun x hx => ?_⟩
  rcases g4 x hx with h | h
  · simp [blkL] at h; omega
  · have := f1.size; omega
theorem last {w0 w : World} {b : List UInt8} {l : List Int} {ls : Sl} (F : Fr0 w0 w) (hls : Nums w0 ls l) (hi : ∀ x ∈ l, I64 x) {rb : Nat} {fp : List Nat} (hr : RdRep w rb ⟨encL (l.take 10), 0⟩ fp) (hn : ∀ x ∈ fp, w0.heap.size ≤ x) :
    enthymemelaw02_WireOwn.S40 ls (some (at0 rb)) w fun r w' => r = .returned (.bool true) ∧ Fr0 w0 w' := by
  refine (r_ints hr).mono ?_
  have hrd : rdInts ⟨encL (l.take 10), 0⟩ = (l.take 10, ⟨[], 0⟩) := by
    have := rdInts_enc (l.take 10) (by simp; omega) (fun x hx => hi x (List.mem_of_mem_take hx)) []
    rwa [List.append_nil] at this
  rw [hrd]
  rintro r w1 ⟨s, rfl, s1, r1, f1, n1⟩
  have F1 := fr_at F (hn rb hr.mem) f1
  refine ⟨s, rfl, (ints_any (hls.fr0 F1) 10 (by omega)).mono ?_⟩
  rintro r w2 ⟨t, rfl, t2, f2, _⟩
  refine ⟨t, rfl, (same_ints (s1.fr0 f2).rd t2.rd (by simp; omega)).mono ?_⟩
  rintro r w3 ⟨rfl, f3⟩
  refine ⟨_, rfl, sel_true (by simp) ((r_end (r1.fr0 (f2.tr0 f3))).mono ?_)⟩
  rintro r w4 ⟨rfl, f4⟩
  refine ⟨_, rfl, sel_true rfl ((lives_any w4).mono ?_)⟩
  rintro r w5 ⟨rfl, f5⟩
  exact ⟨_, rfl, rfl, F1.tr0 (f2.tr0 (f3.tr0 (f4.tr0 f5)))⟩
/-- the reader's half -/
theorem half {w0 w : World} {b : List UInt8} {l : List Int} {ls again : Sl} (F : Fr0 w0 w) (hls : Nums w0 ls l) (hi : ∀ x ∈ l, I64 x) (hb : b.length ≤ 30) (ha : BytesO w again (encR b ++ encL (l.take 10))) (hlen : (encR b ++ encL (l.take 10)).length ≤ 1000) :
    enthymemelaw02_WireOwn.S25 ls again w fun r w' => r = .returned (.bool true) ∧ Fr0 w0 w' := by
  unfold enthymemelaw02_WireOwn.S25
  obtain ⟨data, w1, g1, d1, f1, n1⟩ := copy ha.rd (by omega)
  have s0 := F.size
  refine ⟨data, w1, g1, (r_read d1.rd (by omega)).mono ?_⟩
  rintro r w2 ⟨rb, fp, rfl, r2, f2, n2⟩
  refine ⟨_, rfl, sel_false rfl ?_⟩
  have d2 := d1.fr0 f2
  have s1 := f1.size
  have s2 := f2.size
  have hd : data.n ≤ 1000 := by rw [Bytes.len d1.rd]; omega
  refine fill_loop d2 (by omega) (.int .u8 255) (fun i w' => enthymemelaw02_WireOwn.L30 ls data (some (at0 rb)) i w' _) (fun i w' hi h => enthymemelaw02_WireOwn.L30_step _ _ _ _ _ _ (sel_true (decide_eq_true hi) h)) fun w3 f3 => enthymemelaw02_WireOwn.L30_step _ _ _ _ _ _ (sel_false (decide_eq_false (by omega)) ?_)
  have r3 := r2.fr f3 fun x hx hm => by have := n2 x hx; have := d1.lt x hm; omega
  have F3 : Fr0 w0 w3 := fr_own (F.tr0 (f1.tr0 f2)) (fun x hx => by have := n1 x hx; omega) f3
  refine (r_raw r3).mono ?_
  rw [rdRaw_enc b (by omega)]
  rintro r w4 ⟨x, rfl, x4, r4, f4, n4⟩
  have s3 := f3.size
  have hx : x.n ≤ 30 := by rw [Bytes.len x4.rd]; omega
  have F4 := fr_at F3 (by have := n2 rb r2.mem; omega) f4
  refine ⟨x, rfl, fill_loop x4 (by omega) (.int .u8 1) (fun i w' => enthymemelaw02_WireOwn.L36 ls (some (at0 rb)) x i w' _) (fun i w' hi h => enthymemelaw02_WireOwn.L36_step _ _ _ _ _ _ (sel_true (decide_eq_true hi) h)) fun w5 f5 => enthymemelaw02_WireOwn.L36_step _ _ _ _ _ _ (sel_false (decide_eq_false (by omega)) ?_)⟩
  have r5 := r4.fr f5 fun y hy hm => by have := n4 y hm; have := r2.lt y hy; omega
  exact last (b := b) (fr_own F4 (fun y hy => by have := n4 y hy; omega) f5) hls hi r5 fun y hy => by have := n2 y hy; omega
theorem walk (bs ls : Sl) (w : World) (hb : ArgBytes w bs) (hl : ArgNums w ls) :
    Calls Try.prog n_enthymemelaw02_WireOwn #[bs.v, ls.v] w fun r w' => r = .returned (.bool true) ∧ Fr0 w w' := by
  obtain ⟨b0, hb, _⟩ := hb
  obtain ⟨l, hl, _, hi⟩ := hl
  refine enthymemelaw02_WireOwn.ok bs ls w _ ((few_any hb 30 (by omega)).mono ?_)
  rintro r w1 ⟨own, rfl, o1, f1, n1⟩
  obtain ⟨b, hbd⟩ : ∃ b, b = b0.take 30 := ⟨_, rfl⟩
  have hbl : b.length ≤ 30 := by rw [hbd]; simp; omega
  rw [← hbd] at o1
  clear hbd
  refine ⟨own, rfl, (ints_any (hl.fr0 f1) 10 (by omega)).mono ?_⟩
  rintro r w2 ⟨nums, rfl, m2, f2, n2⟩
  have hi' : ∀ x ∈ l.take 10, I64 x := fun x hx => hi x (List.mem_of_mem_take hx)
  have hll : (l.take 10).length ≤ 10 := by simp; omega
  refine ⟨nums, rfl, ?_⟩
  unfold enthymemelaw02_WireOwn.S3
  intro w3
  have f3 : Fr0 w2 w3 := Fr.alloc _ _ _
  have hs1 := f1.size
  have hs2 := f2.size
  have hs3 : w3.heap.size = w2.heap.size + 1 := size_alloc _ _
  have lt1 := o1.lt
  have lt2 := m2.lt
  have c3 : ∀ x ∈ [w2.heap.size], w2.heap.size ≤ x := by simp
  have o3 := o1.fr0 (f2.tr0 f3)
  have m3 := m2.fr0 f3
  refine (w_raw (WrRep.new w2) o3.rd (fun x hx hm => by simp at hm; have := lt1 x hx; omega) (by simp; omega)).mono ?_
  rintro r w4 ⟨rfl, own4, r4, g4, c4⟩
  have d4 : ∀ x ∈ own4, w2.heap.size ≤ x := new_own f3 c3 c4
  have m4 := m3.fr g4 fun x hx hm => by have := lt2 x hx; have := c3 x hm; omega
  have o4 := o3.fr g4 fun x hx hm => by have := lt1 x hx; have := c3 x hm; omega
  have hs4 : w3.heap.size ≤ w4.heap.size := g4.size
  have lb := encU_len10 b.length (by omega)
  refine ⟨rfl, (w_ints r4 m4.rd (fun x hx hm => by have := lt2 x hx; have := d4 x hm; omega) (fun x hx => by have := lt2 x hx; omega) hi' (by simp [encR]; omega)).mono ?_⟩
  rintro r w5 ⟨rfl, own5, r5, g5, c5⟩
  have d5 : ∀ x ∈ own5, w2.heap.size ≤ x := fun x hx => by
    rcases c5 x hx with h | h
    · exact d4 x h
    · omega
  have m5 := m4.fr g5 fun x hx hm => by have := lt2 x hx; have := d4 x hm; omega
  have o5 := o4.fr g5 fun x hx hm => by have := lt1 x hx; have := d4 x hm; omega
  have hs5 := g5.size
  have le := encU_len10 (l.take 10).length (by omega)
  have lf := flat_len (l.take 10) hi'
  have hlen : (encR b ++ encL (l.take 10)).length ≤ 1000 := by simp [encR, encL] at *; omega
  rw [List.nil_append] at r5
  have F5 : Fr0 w w5 := ((f1.tr0 (f2.tr0 f3)).trn g4 (by simp; omega)).trn g5 fun x hx => by have := d4 x hx; omega
  refine ⟨rfl, (w_done r5 (by omega)).mono ?_⟩
  rintro r w6 ⟨first, rfl, a6, f6, n6⟩
  have hs6 := f6.size
  refine ⟨first, rfl, ?_⟩
  unfold enthymemelaw02_WireOwn.S7
  obtain ⟨again, w7, q7, b7, f7, n7⟩ := copy a6.rd (by omega)
  have hs7 := f7.size
  refine ⟨again, w7, q7, ?_⟩
  have o7 := o5.fr0 (f6.tr0 f7)
  have m7 := m5.fr0 (f6.tr0 f7)
  have r7 := r5.fr0 (f6.tr0 f7)
  have a7 := a6.fr0 f7
  have lt5 := r5.lt
  have lt6 := a6.lt
  have F7 := F5.tr0 (f6.tr0 f7)
  have ln1 : own.n ≤ 30 := by rw [Bytes.len o1.rd]; omega
  have ln2 : nums.n ≤ 10 := by rw [Nums.len m2.rd]; omega
  have ln3 : first.n ≤ 1000 := by rw [Bytes.len a6.rd]; omega
  refine fill_loop o7 (by omega) (.int .u8 7) (fun i w' => enthymemelaw02_WireOwn.L9 ls own nums (at0 w2.heap.size) first again i w' _) (fun i w' hi h => enthymemelaw02_WireOwn.L9_step _ _ _ _ _ _ _ _ _ (sel_true (decide_eq_true hi) h)) fun w8 f8 => enthymemelaw02_WireOwn.L9_step _ _ _ _ _ _ _ _ _ (sel_false (decide_eq_false (by omega)) ?_)
  have m8 := m7.fr f8 fun x hx hm => by have := n2 x hx; have := lt1 x hm; omega
  have r8 := r7.fr f8 fun x hx hm => by have := d5 x hx; have := lt1 x hm; omega
  have a8 := a7.fr f8 fun x hx hm => by have := n6 x hx; have := lt1 x hm; omega
  have b8 := b7.fr f8 fun x hx hm => by have := n7 x hx; have := lt1 x hm; omega
  have F8 := fr_own F7 n1 f8
  refine fill_loop m8 (by omega) (.int .i64 7) (fun i w' => enthymemelaw02_WireOwn.L14 ls nums (at0 w2.heap.size) first again i w' _) (fun i w' hi h => enthymemelaw02_WireOwn.L14_step _ _ _ _ _ _ _ _ (sel_true (decide_eq_true hi) h)) fun w9 f9 => enthymemelaw02_WireOwn.L14_step _ _ _ _ _ _ _ _ (sel_false (decide_eq_false (by omega)) ?_)
  have r9 := r8.fr f9 fun x hx hm => by have := d5 x hx; have := lt2 x hm; omega
  have a9 := a8.fr f9 fun x hx hm => by have := n6 x hx; have := lt2 x hm; omega
  have b9 := b8.fr f9 fun x hx hm => by have := n7 x hx; have := lt2 x hm; omega
  have F9 := fr_own F8 (fun x hx => by have := n2 x hx; omega) f9
  refine fill_loop a9 (by omega) (.int .u8 9) (fun i w' => enthymemelaw02_WireOwn.L19 ls (at0 w2.heap.size) first again i w' _) (fun i w' hi h => enthymemelaw02_WireOwn.L19_step _ _ _ _ _ _ _ (sel_true (decide_eq_true hi) h)) fun w10 f10 => enthymemelaw02_WireOwn.L19_step _ _ _ _ _ _ _ (sel_false (decide_eq_false (by omega)) ?_)
  have r10 := r9.fr f10 fun x hx hm => by have := lt5 x hx; have := n6 x hm; omega
  have b10 := b9.fr f10 fun x hx hm => by have := n7 x hx; have := lt6 x hm; omega
  have F10 := fr_own F9 (fun x hx => by have := n6 x hx; omega) f10
  refine (w_done r10 (by omega)).mono ?_
  rintro r w11 ⟨t, rfl, t11, f11, _⟩
  refine ⟨t, rfl, (same_bytes t11.rd (b10.fr0 f11).rd (by omega)).mono ?_⟩
  rintro r w12 ⟨rfl, f12⟩
  refine ⟨_, rfl, sel_false (by simp) ?_⟩
  exact half (F10.tr0 (f11.tr0 f12)) hl hi hbl ((b10.fr0 f11).fr0 f12) hlen
end Own
end Go.Proofs.Ytjmnpdacalbpkaa

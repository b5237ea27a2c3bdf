/- Encode: the contracts of the program and of the reference. -/
import Derived.Test.YtjjhfdjpmonlaaaP5
import Derived.Test.YtjjhfdjpmonlaaaWZ
import Derived.Test.YtjjhfdjpmonlaaaK9
import Derived.Test.YtjjhfdjpmonlaaaVW
import Derived.Test.YtjjhfdjpmonlaaaVX
namespace Go.Proofs.Ytjjhfdjpmonlaaa
open Go Go.W

theorem encR_len (s : List UInt8) (h : s.length ≤ 1000000) : (encR s).length ≤ 1000010 := by
  have := encU_len10 s.length (by omega)
  unfold encR
  simp only [List.length_append]
  omega
theorem encE_len (e : Ent) (h : e.i < 18446744073709551616 ∧ e.u < 18446744073709551616 ∧ e.s.length ≤ 100000) : (encE e).length ≤ 100030 := by
  have h1 := encU_len10 e.i h.1
  have h2 := encU_len10 e.u h.2.1
  have h3 : (encR e.s).length ≤ 100010 := by
    have h' := h.2.2
    have := encU_len10 e.s.length (by omega)
    unfold encR
    simp only [List.length_append]
    omega
  unfold encE
  simp only [List.length_append]
  omega
theorem ents_len : ∀ (m : List Ent), (∀ e ∈ m, e.i < 18446744073709551616 ∧ e.u < 18446744073709551616 ∧ e.s.length ≤ 100000) → (m.flatMap encE).length ≤ 100030 * m.length
  | [], _ => by simp
  | e :: m, h => by
    have h1 := encE_len e (h e (by simp))
    have h2 := ents_len m fun e he => h e (by simp [he])
    simp only [List.flatMap_cons, List.length_append, List.length_cons]
    omega
theorem encH_len (v : Val) (h : Wf v) : (encH v).length ≤ 1000060 := by
  have h1 := encI_len _ h.k
  have h2 := encI_len _ h.n
  have h3 := encI_len _ h.x
  have h4 := encU_len10 _ h.u
  have h5 := encR_len _ h.s
  have hm := h.m
  have h6 := encI_len (v.m.length : Int) (by constructor <;> omega)
  unfold encH
  simp only [List.length_append]
  omega
theorem encV_len (v : Val) (h : Wf v) : (encV v).length ≤ 100100000000 := by
  have h1 := encH_len v h
  have h2 := ents_len v.m h.e
  have h3 := h.m
  unfold encV
  simp only [List.length_append]
  omega
theorem take_flat (m : List Ent) (j : Nat) (e : Ent) (h : m[j]? = some e) : (m.take (j + 1)).flatMap encE = (m.take j).flatMap encE ++ encE e := by
  rw [List.take_add_one, h]
  simp
theorem take_len (v : Val) (h : Wf v) (j : Nat) : (encH v ++ (v.m.take j).flatMap encE).length ≤ 100100000000 := by
  have h1 := encH_len v h
  have h2 := ents_len (v.m.take j) fun e he => h.e e (List.mem_of_mem_take he)
  have h3 := h.m
  have h4 : (v.m.take j).length ≤ v.m.length := by simp; omega
  simp only [List.length_append]
  omega
theorem encE_eq (e : Ent) : encE e = encU e.i ++ encU e.u ++ encR e.s := rfl
def RetB (w : World) (l : List UInt8) (c : Int) (r : Ending) (w' : World) : Prop := ∃ s : Sl, r = .returned (.tuple #[s.v, .int .i64 c]) ∧ BytesO w' s l ∧ ∀ b ∈ blkL s, w.heap.size ≤ b
theorem c_Encode (v : Val) (sl : Sl) (w : World) (h : RdN 3 w sl (entsC v.m)) (hm : v.m.length ≤ 1000000) (wf : validV v = 0 → Wf v) : Calls Try.prog n_value_Encode #[vagg v sl] w fun r w' => RetB w (if validV v = 0 then encV v else []) (validV v) r w' ∧ Fr0 w w' := by
  have nn := ents_n h
  refine value_Encode.okT _ _ _ _ _ _ w _ ((lh0 [EntsD sl v.m] (by simp only [List.mem_cons, List.not_mem_nil, or_false]; rintro e rfl; exact h)).newg fun b1 w1 H1 => H1.callg (c_Valid v sl w1 (H1.getD 0) hm) ?_)
  rintro _ w2 rfl H2
  refine ⟨_, rfl, sel_ne (fun hv => ⟨⟨⟨none, 0, 0⟩, rfl, ?_, fun b hb => by simp [blkL] at hb⟩, H2.fr⟩) (fun hv => ?_)⟩
  · rw [if_neg hv]; exact Ow.nil _ _
  have wv := wf hv
  rw [if_pos hv, hv]
  have hsz := wv.s
  have hk := encI_len _ wv.k
  have hn := encI_len _ wv.n
  have hx := encI_len _ wv.x
  have hu := encU_len10 _ wv.u
  have hs := encR_len _ wv.s
  have loop : ∀ (d j : Nat) (wb : Nat) (own : List Nat) (w1 : World), j + d = v.m.length → LH F0 w w1 [.g b1, .wr wb (encH v ++ (v.m.take j).flatMap encE) own] [EntsD sl v.m] →
      value_Encode.L0T (at0 wb) sl ((sl.n : Nat) : Int) (j : Int) w1 fun r w' => RetB w (encV v) 0 r w' ∧ Fr0 w w' := by
    intro d
    induction d with
    | zero =>
      intro j wb own w1 hj H
      refine value_Encode.L0T_step _ _ _ _ _ _ (sel_false (decide_eq_false (by omega)) ?_)
      have tl := take_len v wv j
      refine H.callb0 (w_done (H.get 1) (by omega)) fun s w2 H2 F2 ho hnew => ⟨_, rfl, ⟨s, rfl, ?_, fun b hb => Nat.le_trans H.fr.size (hnew b hb)⟩, H2.fr⟩
      rw [show j = v.m.length by omega, List.take_length] at ho
      exact ho
    | succ d ih =>
      intro j wb own w1 hj H
      have hg : v.m[j]? = some (v.m[j]'(by omega)) := List.getElem?_eq_getElem (by omega)
      have he := wv.e _ (List.mem_of_getElem? hg)
      generalize v.m[j]'(by omega) = e at hg he
      have tl := take_len v wv j
      have l1 := encU_len10 _ he.1
      have l2 := encU_len10 _ he.2.1
      refine value_Encode.L0T_step _ _ _ _ _ _ (sel_true (decide_eq_true (by omega)) ⟨by omega, by omega, ?_⟩)
      rw [Int.toNat_natCast]
      refine ent_at (H.getD 0) hg fun p hp c0 c1 c2 => ⟨_, _, _, c0, c1, c2, H.newg fun b7 w2 H2 => H2.locg fun w3 H3 => ?_⟩
      refine H3.wm 1 rfl (fun hr => w_uint hr e.i he.1 (by omega)) fun w4 o4 H4 => ⟨rfl, ?_⟩
      refine H4.wm 1 rfl (fun hr => w_uint hr e.u he.2.1 (by simp only [List.length_append] at tl ⊢; omega)) fun w5 o5 H5 => ⟨rfl, ?_⟩
      refine H5.wm 1 rfl (fun hr => w_text hr (ba e.s) (by have := he.2.2; simp only [List.length_append] at tl ⊢; rw [show (ba e.s).size = e.s.length from rfl]; omega)) fun w6 o6 H6 => ⟨rfl, ?_⟩
      rw [i64_next _ (by omega)]
      refine ih (j + 1) wb o6 w6 (by omega) ?_
      rw [take_flat v.m j e hg, encE_eq e]
      have := H6.take 2
      simp only [bl_ba] at this
      simpa [List.append_assoc] using this
  refine H2.newwr fun w3 H3 => H3.wm 1 rfl (fun hr => w_int hr v.t.k wv.k (by simp)) fun w4 o4 H4 => ⟨rfl, ?_⟩
  refine H4.wm 1 rfl (fun hr => w_int hr v.t.n wv.n (by simp only [List.length_append, List.length_nil]; omega)) fun w5 o5 H5 => ⟨rfl, ?_⟩
  refine H5.wm 1 rfl (fun hr => w_int hr v.t.x wv.x (by simp only [List.length_append, List.length_nil]; omega)) fun w6 o6 H6 => ⟨rfl, ?_⟩
  refine H6.wm 1 rfl (fun hr => w_uint hr v.u wv.u (by simp only [List.length_append, List.length_nil]; omega)) fun w7 o7 H7 => ⟨rfl, ?_⟩
  refine H7.wm 1 rfl (fun hr => w_text hr (ba v.s) (by rw [show (ba v.s).size = v.s.length from rfl]; simp only [List.length_append, List.length_nil]; omega)) fun w8 o8 H8 => ⟨rfl, ?_⟩
  refine H8.wm 1 rfl (fun hr => w_int hr ((sl.n : Nat) : Int) (by constructor <;> omega) (by rw [bl_ba]; simp only [List.length_append, List.length_nil]; omega)) fun w9 o9 H9 => ⟨rfl, ?_⟩
  refine loop v.m.length 0 w2.heap.size o9 w9 (by omega) ?_
  simp only [bl_ba] at H9
  unfold encH
  rw [← nn]
  simpa [List.append_assoc] using H9
/-- the reference -/
theorem r_Encode (v : Val) (sl : Sl) (w : World) (h : RdN 3 w sl (entsC v.m)) (wf : Wf v) : Calls Try.prog n_enthymemeref06_Encode #[vagg v sl] w fun r w' => (∃ s : Sl, r = .returned s.v ∧ BytesO w' s (encV v) ∧ ∀ b ∈ blkL s, w.heap.size ≤ b) ∧ Fr0 w w' := by
  have nn := ents_n h
  have hm := wf.m
  have hsz := wf.s
  have hk := encI_len _ wf.k
  have hn := encI_len _ wf.n
  have hx := encI_len _ wf.x
  have hu := encU_len10 _ wf.u
  have hs := encR_len _ wf.s
  have loop : ∀ (d j : Nat) (b1 : Nat) (out : Sl) (w1 : World), j + d = v.m.length → LH F0 w w1 [.g b1, .by out (encH v ++ (v.m.take j).flatMap encE)] [EntsD sl v.m] →
      enthymemeref06_Encode.L1T b1 v.t.k v.t.n v.t.x (v.u : Int) (ba v.s) sl out (j : Int) w1 fun r w' => (∃ s : Sl, r = .returned s.v ∧ BytesO w' s (encV v) ∧ ∀ b ∈ blkL s, w.heap.size ≤ b) ∧ Fr0 w w' := by
    intro d
    induction d with
    | zero =>
      intro j b1 out w1 hj H
      refine enthymemeref06_Encode.L1T_step _ _ _ _ _ _ _ _ _ _ _ (sel_false (decide_eq_false (by omega)) ⟨⟨out, rfl, ?_, fun b hb => (H.new _ (List.mem_of_getElem? (i := 1) rfl) b hb).resolve_right id⟩, H.fr⟩)
      have ho := own_bytes (H.get 1)
      rw [show j = v.m.length by omega, List.take_length] at ho
      exact ho
    | succ d ih =>
      intro j b1 out w1 hj H
      have hg : v.m[j]? = some (v.m[j]'(by omega)) := List.getElem?_eq_getElem (by omega)
      have he := wf.e _ (List.mem_of_getElem? hg)
      generalize v.m[j]'(by omega) = e at hg he
      have tl := take_len v wf j
      have l1 := encU_len10 _ he.1
      have l2 := encU_len10 _ he.2.1
      have l3 := encR_len e.s (by have := he.2.2; omega)
      refine enthymemeref06_Encode.L1T_step _ _ _ _ _ _ _ _ _ _ _ (sel_true (decide_eq_true (by omega)) ⟨by omega, by omega, ?_⟩)
      rw [Int.toNat_natCast]
      refine ent_at (H.getD 0) hg fun p hp c0 _ _ => ⟨_, c0, H.callb (e_uint e.i he.1 w1) fun s2 w2 H2 F2 ho2 _ => ⟨_, rfl, ?_⟩⟩
      refine H2.apb 1 rfl ho2.rd (by omega) (fun t3 w3 H3 => ⟨by omega, by omega, ?_⟩)
      refine ent_at (H3.getD 0) hg fun p hp _ c1 _ => ⟨_, c1, H3.callb (e_uint e.u he.2.1 w3) fun s4 w4 H4 F4 ho4 _ => ⟨_, rfl, ?_⟩⟩
      refine H4.apb 1 rfl ho4.rd (by simp only [List.length_append] at tl ⊢; omega) (fun t5 w5 H5 => ⟨by omega, by omega, ?_⟩)
      refine ent_at (H5.getD 0) hg fun p hp _ _ c2 => ⟨_, c2, H5.str (ba e.s) fun s6 w6 H6 hb6 => ?_⟩
      rw [bl_ba] at hb6
      refine H6.callb (e_raw hb6 (by have := he.2.2; omega)) fun s7 w7 H7 F7 ho7 _ => ⟨_, rfl, ?_⟩
      refine H7.apb 1 rfl ho7.rd (by simp only [List.length_append] at tl ⊢; omega) (fun t8 w8 H8 => ?_)
      rw [i64_next _ (by omega)]
      refine ih (j + 1) b1 t8 w8 (by omega) ?_
      rw [take_flat v.m j e hg, encE_eq e]
      simpa [List.append_assoc] using H8
  refine enthymemeref06_Encode.okT _ _ _ _ _ _ w _ ((lh0 [EntsD sl v.m] (by simp only [List.mem_cons, List.not_mem_nil, or_false]; rintro e rfl; exact h)).newg fun b1 w1 H1 => ?_)
  refine H1.nwrow (e := ty_int) (sz := 1) (n := 3) (cs := [.int .i64 v.t.k, .int .i64 v.t.n, .int .i64 v.t.x]) rfl (by decide) fun w2 H2 => ?_
  have H2' := H2.nilrow ty_uint8 1
  have ints : ∀ {w' : World} {L : List En}, LH F0 w w' ([.g b1, .row ty_int 1 ⟨some (at0 w1.heap.size), 3, 3⟩ [.int .i64 v.t.k, .int .i64 v.t.n, .int .i64 v.t.x]] ++ L) [EntsD sl v.m] → Rd w' ⟨some (at0 w1.heap.size), 3, 3⟩ [.int .i64 v.t.k, .int .i64 v.t.n, .int .i64 v.t.x] := fun H => OwnRow.rd1 (H.get 1)
  have step : ∀ (j : Nat) (x : Int) (out : Sl) (acc : List UInt8) (w' : World), j < 3 → ([v.t.k, v.t.n, v.t.x] : List Int)[j]? = some x → I64 x → acc.length ≤ 100 → LH F0 w w' ([.g b1, .row ty_int 1 ⟨some (at0 w1.heap.size), 3, 3⟩ [.int .i64 v.t.k, .int .i64 v.t.n, .int .i64 v.t.x]] ++ [.by out acc]) [EntsD sl v.m] →
      (∀ out' w'', LH F0 w w'' ([.g b1, .row ty_int 1 ⟨some (at0 w1.heap.size), 3, 3⟩ [.int .i64 v.t.k, .int .i64 v.t.n, .int .i64 v.t.x]] ++ [.by out' (acc ++ encI x)]) [EntsD sl v.m] → enthymemeref06_Encode.L0T b1 v.t.k v.t.n v.t.x (v.u : Int) (ba v.s) sl out' ⟨some (at0 w1.heap.size), 3, 3⟩ ((j + 1 : Nat) : Int) w'' fun r w' => (∃ s : Sl, r = .returned s.v ∧ BytesO w' s (encV v) ∧ ∀ b ∈ blkL s, w.heap.size ≤ b) ∧ Fr0 w w') →
      enthymemeref06_Encode.L0T b1 v.t.k v.t.n v.t.x (v.u : Int) (ba v.s) sl out ⟨some (at0 w1.heap.size), 3, 3⟩ (j : Int) w' fun r w' => (∃ s : Sl, r = .returned s.v ∧ BytesO w' s (encV v) ∧ ∀ b ∈ blkL s, w.heap.size ≤ b) ∧ Fr0 w w' := by
    intro j x out acc w' hj hx h64 hl H hk
    have lx := encI_len x h64
    refine enthymemeref06_Encode.L0T_step _ _ _ _ _ _ _ _ _ _ _ _ (sel_true (decide_eq_true (by omega)) ⟨by omega, by simp; omega, ?_⟩)
    rw [Int.toNat_natCast]
    refine (ints H).get (i := j) (v := .int .i64 x) ?_ rfl fun p hp hc => ⟨_, hc, H.callb (e_int x h64 w') fun s3 w3 H3 F3 ho3 _ => ⟨_, rfl, ?_⟩⟩
    · have : ([.int .i64 v.t.k, .int .i64 v.t.n, .int .i64 v.t.x] : List Value) = ([v.t.k, v.t.n, v.t.x] : List Int).map fun n => .int .i64 n := rfl
      rw [this, List.getElem?_map, hx]; rfl
    refine H3.apb 2 rfl ho3.rd (by omega) (fun t4 w4 H4 => ?_)
    rw [i64_next _ (by omega)]
    exact hk t4 w4 H4
  refine step 0 v.t.k ⟨none, 0, 0⟩ [] w2 (by omega) rfl wf.k (by simp) H2' fun o3 w3 H3 => ?_
  refine step 1 v.t.n o3 _ w3 (by omega) rfl wf.n (by simp; omega) H3 fun o4 w4 H4 => ?_
  refine step 2 v.t.x o4 _ w4 (by omega) rfl wf.x (by simp only [List.length_append, List.length_nil]; omega) H4 fun o5 w5 H5 => ?_
  refine enthymemeref06_Encode.L0T_step _ _ _ _ _ _ _ _ _ _ _ _ (sel_false (decide_eq_false (by omega)) ?_)
  refine H5.callb (e_uint v.u wf.u w5) fun s6 w6 H6 F6 ho6 _ => ⟨_, rfl, ?_⟩
  refine H6.apb 2 rfl ho6.rd (by simp only [List.length_append, List.length_nil]; omega) (fun t7 w7 H7 => ?_)
  refine H7.str (ba v.s) fun s8 w8 H8 hb8 => ?_
  rw [bl_ba] at hb8
  refine H8.callb (e_raw hb8 (by omega)) fun s9 w9 H9 F9 ho9 _ => ⟨_, rfl, ?_⟩
  refine H9.apb 2 rfl ho9.rd (by simp only [List.length_append, List.length_nil]; omega) (fun t10 w10 H10 => ?_)
  refine H10.callb (e_int ((sl.n : Nat) : Int) (by constructor <;> omega) w10) fun s11 w11 H11 F11 ho11 _ => ⟨_, rfl, ?_⟩
  have l11 := encI_len ((sl.n : Nat) : Int) (by constructor <;> omega)
  refine H11.apb 2 rfl ho11.rd (by simp only [List.length_append, List.length_nil]; omega) (fun t12 w12 H12 => ?_)
  refine loop v.m.length 0 b1 t12 w12 (by omega) ?_
  have H13 : LH F0 w w12 [.g b1, .by t12 _] [EntsD sl v.m] := H12.sieve [true, false, true]
  unfold encH
  rw [← nn]
  simpa [List.append_assoc] using H13
end Go.Proofs.Ytjjhfdjpmonlaaa

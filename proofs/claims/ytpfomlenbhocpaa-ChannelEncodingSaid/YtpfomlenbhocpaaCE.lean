/- Package channel: the contracts of valid, Encode and Decode. -/
import Derived.Test.YtpfomlenbhocpaaWB
import Derived.Test.YtpfomlenbhocpaaHL
import Derived.Test.YtpfomlenbhocpaaVN
namespace Go.Proofs.Ytpfomlenbhocpaa
open Go Go.W

/-! ### Blocks of three cells -/
theorem set3 {w : World} {b : Nat} {a0 a1 a2 : Value} {T : TypeId} (h : w.heap[b]? = some (.cells #[a0, a1, a2] T (0, 0))) (v0 v1 v2 : Value) (K : World → Prop)
    (hK : ∀ w', w'.heap[b]? = some (.cells #[v0, v1, v2] T (0, 0)) → Fr (· = b) w w' → K w') :
    (w.cell? (at0 b)).isSome = true ∧ w.frozen? (at0 b) = false ∧ let w1 := w.setCell (at0 b) v0
    (w1.cell? ((at0 b).add 1)).isSome = true ∧ w1.frozen? ((at0 b).add 1) = false ∧ let w2 := w1.setCell ((at0 b).add 1) v1
    (w2.cell? ((at0 b).add 2)).isSome = true ∧ w2.frozen? ((at0 b).add 2) = false ∧ let w3 := w2.setCell ((at0 b).add 2) v2
    K w3 := by
  obtain ⟨x1, x2, x3, x4⟩ := set_c h 0 (by simp) v0
  rw [add0] at x1 x2 x3 x4
  obtain ⟨y1, y2, y3, y4⟩ := set_c x3 1 (by simp) v1
  obtain ⟨z1, z2, z3, z4⟩ := set_c y3 2 (by simp) v2
  exact ⟨x1, x2, y1, y2, z1, z2, hK _ (by simpa using z3) ((x4.trans y4 fun _ _ e => e).trans z4 fun _ _ e => e)⟩
theorem get3 {w : World} {b : Nat} {v0 v1 v2 : Value} {T : TypeId} {f : Nat × Nat} (h : w.heap[b]? = some (.cells #[v0, v1, v2] T f)) :
    w.cell? ((at0 b).add 0) = some v0 ∧ w.cell? ((at0 b).add 1) = some v1 ∧ w.cell? ((at0 b).add 2) = some v2 :=
  ⟨cellAt (p := at0 b) h rfl rfl, cellAt (p := at0 b) h rfl rfl, cellAt (p := at0 b) h rfl rfl⟩

/-! ### In plain words -/
def validB (q a : Int) (b : List UInt8) : Bool := decide (0 ≤ q) && (decide (0 ≤ a) && (decide (b.length ≤ 65536) && (decide (0 < q) || decide (b.length = 0))))
def parcel : List UInt8 := [112, 97, 114, 99, 101, 108]
def coreB (q a : Int) (b : List UInt8) : List UInt8 := encI q ++ encI a ++ encR b
def wholeB (c : List UInt8) : List UInt8 := encR c ++ encU (bytesH parcel c)
def encP (q a : Int) (b : List UInt8) : List UInt8 × Int := if validB q a b then (wholeB (coreB q a b), 0) else ([], 1)
structure Pkt where
  q : Int
  a : Int
  b : List UInt8
  e : Int
def decC (c : List UInt8) : Pkt :=
  let i1 := rdI ⟨c, 0⟩
  let i2 := rdI i1.2
  let i3 := rdRaw i2.2
  if rdEnd i3.2 ≠ 0 then ⟨0, 0, [], 2⟩ else if validB i1.1 i2.1 i3.1 then ⟨i1.1, i2.1, i3.1, 0⟩ else ⟨0, 0, [], 2⟩
def decP (bs : List UInt8) : Pkt :=
  let r1 := rdRaw ⟨bs, 0⟩
  let r2 := rdU r1.2
  if rdEnd r2.2 ≠ 0 then ⟨0, 0, [], 2⟩ else if r2.1 ≠ bytesH parcel r1.1 then ⟨0, 0, [], 21⟩ else decC r1.1

/-! ### valid -/
theorem c_valid (q a : Int) {s : Sl} {b : List UInt8} {w : World} (hbn : s.n = b.length) :
    Calls Try.prog n_channel_valid #[.agg #[.int .i64 q, .int .i64 a, s.v]] w fun r w' => r = .returned (.bool (validB q a b)) ∧ Fr0 w w' := by
  refine channel_valid.ok q a s w _ ?_
  unfold channel_valid.S0 channel_valid.S1
  intro w1
  have f1 : Fr0 w w1 := Fr.alloc _ _ _
  have c1 : w1.heap[(Addr.mk w.heap.size 0 none).block]? = _ := heap_new w _
  refine ⟨q, cellAt (i := 0) c1 rfl rfl, sel_intro (fun h1 => ⟨a, cellAt (i := 1) c1 rfl rfl, sel_intro (fun h2 => ⟨s, cellAt (i := 2) c1 rfl rfl, sel_intro (fun h3 => ⟨q, cellAt (i := 0) c1 rfl rfl, sel_intro (fun h4 => ?_) (fun h4 => ⟨s, cellAt (i := 2) c1 rfl rfl, ?_⟩)⟩) (fun h3 => ?_)⟩) (fun h2 => ?_)⟩) (fun h1 => ?_)⟩
  all_goals
    refine ⟨?_, f1⟩
    congr 2
    rw [hbn] at *
    unfold validB
    generalize b.length = L at *
    rw [Bool.eq_iff_iff]
    simp at *
    omega

/-! ### Encode -/
theorem encI_len10 (n : Int) (h : I64 n) : (encI n).length ≤ 10 := encI_len n h
theorem bytesH_lt (l b : List UInt8) : bytesH l b < 18446744073709551616 := by unfold bytesH sumH; exact mixN_lt _ _
theorem c_encode (q a : Int) (hq : I64 q) (ha : I64 a) {s : Sl} {b : List UInt8} {w : World} (hb : Bytes w s b) (hlt : ∀ x ∈ blkL s, x < w.heap.size) :
    Calls Try.prog n_channel_Encode #[.agg #[.int .i64 q, .int .i64 a, s.v]] w fun r w' => ∃ t : Sl, r = .returned (.tuple #[t.v, .int .i64 (encP q a b).2]) ∧ BytesO w' t (encP q a b).1 ∧ Fr0 w w' ∧ ∀ x ∈ blkL t, w.heap.size ≤ x := by
  refine channel_Encode.ok _ _ _ w _ ?_
  unfold channel_Encode.S0
  intro w1
  have f1 : Fr0 w w1 := Fr.alloc _ _ _
  have s1 : w1.heap.size = w.heap.size + 1 := size_alloc _ _
  have c1 : w1.heap[w.heap.size]? = some (.cells #[.int .i64 q, .int .i64 a, s.v] ty_channel_Packet (0, 0)) := heap_new w _
  obtain ⟨g0, g1, g2⟩ := get3 c1
  refine ⟨q, a, s, g0, g1, g2, (c_valid q a (Bytes.len hb)).mono ?_⟩
  rintro r w2 ⟨rfl, f2⟩
  have F2 : Fr0 w w2 := f1.tr0 f2
  have c2 := f2.at c1 id
  have b2 := hb.fr0 F2
  refine ⟨_, rfl, sel_intro (fun hv => ?_) (fun hv => ?_)⟩
  · have hv' : validB q a b = false := by simpa using hv
    unfold encP
    rw [hv']
    exact ⟨⟨none, 0, 0⟩, rfl, Ow.nil _ _, F2, by simp [blkL]⟩
  have hv' : validB q a b = true := by simpa using hv
  have hbl : b.length ≤ 65536 := by
    unfold validB at hv'
    simp at hv'
    exact hv'.2.2.1
  unfold encP
  rw [hv']
  unfold channel_Encode.S3
  intro w3 w4
  have f3 : Fr0 w2 w3 := Fr.alloc _ _ _
  have f4 : Fr0 w3 w4 := Fr.alloc _ _ _
  have s3 : w3.heap.size = w2.heap.size + 1 := size_alloc _ _
  have s4 : w4.heap.size = w3.heap.size + 1 := size_alloc _ _
  have hs1 : w1.heap.size ≤ w2.heap.size := f2.size
  have k4 : WrRep w4 w2.heap.size [] [w2.heap.size] := (WrRep.new w2).fr0 f4
  have v4 : WrRep w4 w3.heap.size [] [w3.heap.size] := WrRep.new w3
  have F4 : Fr0 w2 w4 := f3.tr0 f4
  have c4 := F4.at c2 id
  have b4 := b2.fr0 F4
  clear_value w3 w4
  have new4 : ∀ x ∈ [w2.heap.size], x = w2.heap.size := by simp
  -- the core
  refine ⟨q, (get3 c4).1, (w_int k4 q hq (by simp)).mono ?_⟩
  rintro r w5 ⟨rfl, own5, k5, f5, o5⟩
  have hs5 : w4.heap.size ≤ w5.heap.size := f5.size
  have N5 : ∀ x ∈ own5, x = w2.heap.size ∨ w4.heap.size ≤ x := fun x hx => by
    rcases o5 x hx with h | h
    · exact .inl (new4 x h)
    · exact .inr h
  have F5 : Fr (· = w2.heap.size) w4 w5 := f5.mono fun x _ h => new4 x h
  have c5 := F5.at c4 (by omega)
  have b5 := b4.fr F5 fun x hx e => by have := hlt x hx; omega
  have v5 := v4.fr F5 (by simp; omega)
  refine ⟨rfl, a, (get3 c5).2.1, (w_int k5 a ha (by have := encI_len q hq; simp; omega)).mono ?_⟩
  rintro r w6 ⟨rfl, own6, k6, f6, o6⟩
  have hs6 : w5.heap.size ≤ w6.heap.size := f6.size
  have N6 : ∀ x ∈ own6, x = w2.heap.size ∨ w4.heap.size ≤ x := fun x hx => by
    rcases o6 x hx with h | h
    · exact N5 x h
    · right; omega
  have c6 := f6.at c5 fun hm => by have := N5 _ hm; omega
  have b6 := b5.fr f6 fun x hx hm => by have := hlt x hx; have := N5 x hm; omega
  have v6 := v5.fr f6 fun x hx hm => by have := N5 x hm; simp at hx; omega
  have l6 : ([] ++ encI q ++ encI a).length ≤ 20 := by have := encI_len q hq; have := encI_len a ha; simp; omega
  refine ⟨rfl, s, (get3 c6).2.2, (w_raw k6 b6 (fun x hx hm => by have := hlt x hx; have := N6 x hm; omega) (by omega)).mono ?_⟩
  rintro r w7 ⟨rfl, own7, k7, f7, o7⟩
  have hs7 : w6.heap.size ≤ w7.heap.size := f7.size
  have N7 : ∀ x ∈ own7, x = w2.heap.size ∨ w4.heap.size ≤ x := fun x hx => by
    rcases o7 x hx with h | h
    · exact N6 x h
    · right; omega
  have v7 := v6.fr f7 fun x hx hm => by have := N6 x hm; simp at hx; omega
  have ec : [] ++ encI q ++ encI a ++ encR b = coreB q a b := by rw [List.nil_append]; rfl
  rw [ec] at k7
  have lc : (coreB q a b).length ≤ 70000 := by
    have h1 := encI_len q hq
    have h2 := encI_len a ha
    have h3 := encU_len10 b.length (by omega)
    unfold coreB encR
    simp
    omega
  have F7 : Fr0 w w7 := (((F2.tr0 F4).trn F5 fun x e => by omega).trn f6 fun x hx => by have := N5 x hx; omega).trn f7 fun x hx => by have := N6 x hx; omega
  refine ⟨rfl, (w_done k7 (by omega)).mono ?_⟩
  rintro r w8 ⟨c, rfl, cb8, f8, n8⟩
  have hs8 : w7.heap.size ≤ w8.heap.size := f8.size
  have v8 := v7.fr0 f8
  refine ⟨c, rfl, (w_raw v8 cb8.rd (fun x hx hm => by have := n8 x hx; simp at hm; omega) (by simp; omega)).mono ?_⟩
  rintro r w9 ⟨rfl, own9, v9, f9, o9⟩
  have hs9 : w8.heap.size ≤ w9.heap.size := f9.size
  have cb9 := cb8.fr f9 fun x hx hm => by have := n8 x hx; simp at hm; omega
  have N9 : ∀ x ∈ own9, w2.heap.size ≤ x := fun x hx => by
    rcases o9 x hx with h | h
    · simp at h; omega
    · omega
  have F9 : Fr0 w w9 := (F7.tr0 f8).trn f9 fun x hx => by simp at hx; omega
  refine ⟨rfl, (h_bytes _ cb9.rd cb9.lt (by omega) (by decide)).mono ?_⟩
  rintro r w10 ⟨rfl, f10⟩
  have hs10 : w9.heap.size ≤ w10.heap.size := f10.size
  have lw : ([] ++ encR (coreB q a b)).length ≤ 80000 := by
    have h3 := encU_len10 (coreB q a b).length (by omega)
    unfold encR
    simp
    omega
  refine ⟨_, rfl, (w_uint (v9.fr0 f10) _ (bytesH_lt _ _) (by omega)).mono ?_⟩
  rintro r w11 ⟨rfl, own11, v11, f11, o11⟩
  have hs11 : w10.heap.size ≤ w11.heap.size := f11.size
  have F11 : Fr0 w w11 := (F9.tr0 f10).trn f11 fun x hx => by have := N9 x hx; omega
  have ew : [] ++ encR (coreB q a b) ++ encU (bytesH (bl (ByteArray.mk #[112, 97, 114, 99, 101, 108])) (coreB q a b)) = wholeB (coreB q a b) := by
    rw [List.nil_append]; rfl
  rw [ew] at v11
  have lww : (wholeB (coreB q a b)).length ≤ 90000 := by
    have h3 := encU_len10 _ (bytesH_lt parcel (coreB q a b))
    unfold wholeB
    rw [List.nil_append] at lw
    rw [List.length_append]
    omega
  refine ⟨rfl, (w_done v11 (by omega)).mono ?_⟩
  rintro r w12 ⟨t, rfl, t12, f12, n12⟩
  exact ⟨t, rfl, t, rfl, t12, F11.tr0 f12, fun x hx => by have := n12 x hx; have := F11.size; omega⟩

/-! ### Decode -/
theorem rdRaw_len (st : RS) : (rdRaw st).1.length ≤ st.bs.length := by
  unfold rdRaw
  by_cases he : (rdLen st).2.err ≠ 0
  · simp only [if_pos he]; simp
  · simp only [if_neg he]
    rw [List.length_take]
    have := (rdLen_le st).1
    omega
def DecPost (w : World) (p : Pkt) : Post := fun r w' => ∃ t : Sl, r = .returned (.tuple #[.agg #[.int .i64 p.q, .int .i64 p.a, t.v], .int .i64 p.e]) ∧ Bytes w' t p.b ∧ Fr0 w w' ∧ ∀ x ∈ blkL t, w.heap.size ≤ x ∧ x < w'.heap.size
/-- the results' variable is stored to and read -/
theorem dec_ret {w0 w : World} {tb : Nat} {a0 a1 a2 : Value} (p : Pkt) {t : Sl} (h : w.heap[tb]? = some (.cells #[a0, a1, a2] ty_channel_Packet (0, 0))) (hb : Bytes w t p.b) (hn : ∀ x ∈ blkL t, w0.heap.size ≤ x ∧ x ≠ tb ∧ x < w.heap.size) (F : Fr0 w0 w) (htb : w0.heap.size ≤ tb) :
    (w.cell? (at0 tb)).isSome = true ∧ w.frozen? (at0 tb) = false ∧ let w1 := w.setCell (at0 tb) (.int .i64 p.q)
    (w1.cell? ((at0 tb).add 1)).isSome = true ∧ w1.frozen? ((at0 tb).add 1) = false ∧ let w2 := w1.setCell ((at0 tb).add 1) (.int .i64 p.a)
    (w2.cell? ((at0 tb).add 2)).isSome = true ∧ w2.frozen? ((at0 tb).add 2) = false ∧ let w3 := w2.setCell ((at0 tb).add 2) t.v
    ∃ r2_0 : Int, ∃ r2_1 : Int, ∃ r2_2 : W.Sl, w3.cell? ((at0 tb).add 0) = some (.int .i64 r2_0) ∧ w3.cell? ((at0 tb).add 1) = some (.int .i64 r2_1) ∧ w3.cell? ((at0 tb).add 2) = some (r2_2.v) ∧
      DecPost w0 p (.returned (.tuple #[.agg #[.int .i64 r2_0, .int .i64 r2_1, r2_2.v], .int .i64 p.e])) w3 := by
  refine set3 h (.int .i64 p.q) (.int .i64 p.a) t.v (fun w3 => ∃ r2_0 : Int, ∃ r2_1 : Int, ∃ r2_2 : W.Sl, w3.cell? ((at0 tb).add 0) = some (.int .i64 r2_0) ∧ w3.cell? ((at0 tb).add 1) = some (.int .i64 r2_1) ∧ w3.cell? ((at0 tb).add 2) = some (r2_2.v) ∧
      DecPost w0 p (.returned (.tuple #[.agg #[.int .i64 r2_0, .int .i64 r2_1, r2_2.v], .int .i64 p.e])) w3) fun w' h' f' => ?_
  obtain ⟨g0, g1, g2⟩ := get3 h'
  exact ⟨_, _, t, g0, g1, g2, t, rfl, hb.fr f' fun x hx e => (hn x hx).2.1 e, F.trn f' fun x e => e ▸ htb, fun x hx => ⟨(hn x hx).1, Nat.lt_of_lt_of_le (hn x hx).2.2 f'.size⟩⟩
theorem c_decode {s : Sl} {bs : List UInt8} {w : World} (hb : Bytes w s bs) (hl : bs.length ≤ 100000000000) :
    Calls Try.prog n_channel_Decode #[s.v] w (DecPost w (decP bs)) := by
  refine channel_Decode.ok _ w _ ?_
  unfold channel_Decode.S0
  intro w1
  have f1 : Fr0 w w1 := Fr.alloc _ _ _
  have s1 : w1.heap.size = w.heap.size + 1 := size_alloc _ _
  have c1 : w1.heap[w.heap.size]? = some (.cells #[.int .i64 0, .int .i64 0, (⟨none, 0, 0⟩ : Sl).v] ty_channel_Packet (0, 0)) := heap_new w _
  clear_value w1
  have bad : ∀ (e : Int) (W : World), Fr0 w W → W.heap[w.heap.size]? = some (.cells #[.int .i64 0, .int .i64 0, (⟨none, 0, 0⟩ : Sl).v] ty_channel_Packet (0, 0)) → _ := fun e W F c => dec_ret (w0 := w) (w := W) (tb := w.heap.size) ⟨0, 0, [], e⟩ (t := ⟨none, 0, 0⟩) c (Rd.nil W) (by simp [blkL]) F (Nat.le_refl _)
  refine (r_read (hb.fr0 f1) (by omega)).mono ?_
  rintro r w2 ⟨rb, fp, rfl, r2, f2, n2⟩
  have hs2 : w1.heap.size ≤ w2.heap.size := f2.size
  refine ⟨_, rfl, (r_raw r2).mono ?_⟩
  rintro r w3 ⟨core, rfl, o3, r3, f3, n3⟩
  have hs3 : w2.heap.size ≤ w3.heap.size := f3.size
  have hrb : w1.heap.size ≤ rb := n2 rb r2.mem
  refine ⟨core, rfl, (r_uint r3).mono ?_⟩
  rintro r w4 ⟨rfl, r4, f4⟩
  have hs4 : w3.heap.size ≤ w4.heap.size := f4.size
  have o4 := o3.fr f4 fun x hx e => by have := n3 x hx; have := r2.lt rb r2.mem; omega
  refine ⟨_, rfl, (r_end r4).mono ?_⟩
  rintro r w5 ⟨rfl, f5⟩
  have F5 : Fr0 w w5 := ((((f1.tr0 f2).trn f3 fun x e => by omega).trn f4 fun x e => by omega).tr0 f5)
  have c5 := f5.at (f4.at (f3.at (f2.at c1 id) (by omega)) (by omega)) id
  have o5 := o4.fr0 f5
  have hs5 : w4.heap.size ≤ w5.heap.size := f5.size
  refine ⟨_, rfl, ?_⟩
  unfold decP
  simp only []
  refine sel_intro (fun he => ?_) (fun he => ?_)
  · have he' : rdEnd (rdU (rdRaw ⟨bs, 0⟩).2).2 ≠ 0 := by simpa using he
    rw [if_pos he']
    exact bad 2 w5 F5 c5
  have he' : ¬ rdEnd (rdU (rdRaw ⟨bs, 0⟩).2).2 ≠ 0 := by simpa using he
  rw [if_neg he']
  have lcore : (rdRaw ⟨bs, 0⟩).1.length ≤ bs.length := rdRaw_len ⟨bs, 0⟩
  generalize hc : (rdRaw ⟨bs, 0⟩).1 = cb at *
  generalize (rdU (rdRaw ⟨bs, 0⟩).2).1 = sum at *
  refine (h_bytes _ o5.rd o5.lt (by omega) (by decide)).mono ?_
  rintro r w6 ⟨rfl, f6⟩
  have F6 := F5.tr0 f6
  have c6 := f6.at c5 id
  have o6 := o5.fr0 f6
  have hs6 : w5.heap.size ≤ w6.heap.size := f6.size
  refine ⟨_, rfl, ?_⟩
  rw [show bl (ByteArray.mk #[112, 97, 114, 99, 101, 108]) = parcel from rfl]
  refine sel_intro (fun hh => ?_) (fun hh => ?_)
  · have hh' : sum ≠ bytesH parcel cb := by
      intro e; rw [e] at hh; simp at hh
    rw [if_pos hh']
    exact bad 21 w6 F6 c6
  have hh' : ¬ sum ≠ bytesH parcel cb := by
    intro e
    have : ((sum : Nat) : Int) = ((bytesH parcel cb : Nat) : Int) := by simpa using hh
    omega
  rw [if_neg hh']
  unfold decC
  simp only []
  refine (r_read o6.rd (by omega)).mono ?_
  rintro r w7 ⟨rb7, fp7, rfl, r7, f7, n7⟩
  have hs7 : w6.heap.size ≤ w7.heap.size := f7.size
  have hrb7 : w6.heap.size ≤ rb7 := n7 rb7 r7.mem
  refine ⟨_, rfl, (r_int r7).mono ?_⟩
  rintro r w8 ⟨rfl, r8, f8⟩
  have hs8 : w7.heap.size ≤ w8.heap.size := f8.size
  refine ⟨_, rfl, (r_int r8).mono ?_⟩
  rintro r w9 ⟨rfl, r9, f9⟩
  have hs9 : w8.heap.size ≤ w9.heap.size := f9.size
  refine ⟨_, rfl, (r_raw r9).mono ?_⟩
  rintro r w10 ⟨t, rfl, o10, r10, f10, n10⟩
  have hs10 : w9.heap.size ≤ w10.heap.size := f10.size
  refine ⟨t, rfl, ?_⟩
  have F10 : Fr0 w w10 := (((F6.tr0 f7).trn f8 fun x e => by have := F6.size; omega).trn f9 fun x e => by have := F6.size; omega).trn f10 fun x e => by have := F6.size; omega
  have lt6 := lt_of_heap c6
  have c10 := f10.at (f9.at (f8.at (f7.at c6 id) (by omega)) (by omega)) (by omega)
  generalize (rdI ⟨cb, 0⟩).1 = q at *
  generalize (rdI (rdI ⟨cb, 0⟩).2).1 = a at *
  generalize (rdRaw (rdI (rdI ⟨cb, 0⟩).2).2).1 = b at *
  generalize (rdRaw (rdI (rdI ⟨cb, 0⟩).2).2).2 = st at *
  intro w11
  have f11 : Fr0 w10 w11 := Fr.alloc _ _ _
  have s11 : w11.heap.size = w10.heap.size + 1 := size_alloc _ _
  have c11 : w11.heap[w10.heap.size]? = some (.cells #[.int .i64 0, .int .i64 0, (⟨none, 0, 0⟩ : Sl).v] ty_channel_Packet (0, 0)) := heap_new w10 _
  have d11 := f11.at c10 id
  have r11 := r10.fr0 f11
  have o11 := o10.fr0 f11
  have lt10 := o10.lt
  have rlt := r10.lt
  clear_value w11
  refine set3 c11 (.int .i64 q) (.int .i64 a) t.v (fun w' => channel_Decode.S9 (at0 w.heap.size) (some (at0 rb7)) (at0 w10.heap.size) w' _) fun w12 c12 f12 => ?_
  have hs12 : w11.heap.size ≤ w12.heap.size := f12.size
  have F12 : Fr0 w w12 := (F10.tr0 f11).trn f12 fun x e => by have := F10.size; omega
  have d12 := f12.at d11 (by omega)
  have o12 := o11.fr f12 fun x hx e => by have := lt10 x hx; omega
  have r12 := r11.fr f12 fun x hx e => by have := rlt x hx; omega
  refine (r_end r12).mono ?_
  rintro r w13 ⟨rfl, f13⟩
  have F13 := F12.tr0 f13
  have d13 := f13.at d12 id
  have c13 := f13.at c12 id
  have o13 := o12.fr0 f13
  refine ⟨_, rfl, sel_intro (fun hz => ?_) (fun hz => ?_)⟩
  · have hz' : rdEnd st ≠ 0 := by simpa using hz
    rw [if_pos hz']
    exact bad 2 w13 F13 d13
  have hz' : ¬ rdEnd st ≠ 0 := by simpa using hz
  rw [if_neg hz']
  obtain ⟨g0, g1, g2⟩ := get3 c13
  refine ⟨q, a, t, g0, g1, g2, (c_valid q a (Bytes.len o13.rd)).mono ?_⟩
  rintro r w14 ⟨rfl, f14⟩
  have F14 := F13.tr0 f14
  have d14 := f14.at d13 id
  have c14 := f14.at c13 id
  have o14 := o13.fr0 f14
  refine ⟨_, rfl, sel_intro (fun hv => ?_) (fun hv => ?_)⟩
  · have hv' : validB q a b = false := by simpa using hv
    rw [hv']
    exact bad 2 w14 F14 d14
  have hv' : validB q a b = true := by simpa using hv
  rw [hv']
  obtain ⟨g0, g1, g2⟩ := get3 c14
  refine ⟨q, a, t, g0, g1, g2, ?_⟩
  exact dec_ret (w0 := w) (w := w14) (tb := w.heap.size) ⟨q, a, b, 0⟩ (t := t) d14 o14.rd (fun x hx => by have := n10 x hx; have := F6.size; have := o14.lt x hx; omega) F14 (Nat.le_refl _)
end Go.Proofs.Ytpfomlenbhocpaa

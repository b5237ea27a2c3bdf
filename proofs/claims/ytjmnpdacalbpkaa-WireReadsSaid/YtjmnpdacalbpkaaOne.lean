/- enthymemelaw02.WireOne returns true for every input and writes nothing that was there before. -/
import Derived.Test.YtjmnpdacalbpkaaWP
import Derived.Test.YtjmnpdacalbpkaaVI
namespace Go.Proofs.Ytjmnpdacalbpkaa
open Go Go.W

theorem rdMany_small : ∀ (n : Nat) (st : RS), (rdMany n st).2.bs.length ≤ st.bs.length
  | 0, st => Nat.le_refl _
  | n + 1, st => by
    have h1 : (rdI st).2.bs.length ≤ st.bs.length := rdU_small (st := st) (Nat.le_refl _)
    simp only [rdMany]
    by_cases he : (rdI st).2.err ≠ 0
    · simp only [if_pos he]; exact h1
    · simp only [if_neg he]
      have h2 := rdMany_small n (rdI st).2
      by_cases h2' : (rdMany n (rdI st).2).2.err ≠ 0
      · simp only [if_pos h2']; omega
      · simp only [if_neg h2']; omega
theorem rdV_small (st : RS) (k : Int) : (rdV st k).2.bs.length ≤ st.bs.length := by
  have h1 : (rdU st).2.bs.length ≤ st.bs.length := rdU_small (st := st) (Nat.le_refl _)
  have hl := rdLen_le st
  unfold rdV
  by_cases k0 : k = 0
  · simp only [if_pos k0]; exact h1
  simp only [if_neg k0]
  by_cases k1 : k = 1
  · simp only [if_pos k1]; exact h1
  simp only [if_neg k1]
  by_cases k2 : k = 2
  · simp only [if_pos k2]
    unfold rdB
    by_cases he : st.err ≠ 0
    · rw [if_pos he]; exact Nat.le_refl _
    · rw [if_neg he]
      cases hb : st.bs with
      | nil => simp
      | cons c l =>
        simp only []
        by_cases hc : 1 < c.toNat
        · rw [if_pos hc]; simp
        · rw [if_neg hc]; simp
  simp only [if_neg k2]
  by_cases k3 : k = 3 ∨ k = 4
  · simp only [if_pos k3]
    unfold rdRaw
    by_cases he : (rdLen st).2.err ≠ 0
    · simp only [if_pos he]; exact hl.2
    · simp only [if_neg he, List.length_drop]; omega
  · simp only [if_neg k3]
    unfold rdInts
    by_cases he : (rdLen st).2.err ≠ 0
    · simp only [if_pos he]; exact hl.2
    · simp only [if_neg he]
      have := rdMany_small (rdLen st).1 (rdLen st).2
      omega
theorem push_val {lo hi : Nat} {w : World} {s : Sl} {vs : List V} {v : V} {c : VC} (ho : OwnVals lo hi w s vs) (hhi : hi ≤ w.heap.size) (hlo : lo ≤ hi) (hc : VIs (fun x => hi ≤ x ∧ x < w.heap.size) w c v) (hvl : vs.length ≤ 1000) :
    ∃ s' w', Sem.run Try.prog (Builtin.append_ #[ty_sl_enthymemeref02_Val, ty_sl_enthymemeref02_Val] ty_sl_enthymemeref02_Val #[s.v, .slice (some (Addr.mk w.heap.size 0 none)) 1 1]) (w.alloc (.cells #[.int .i64 c.k, .int .u64 c.u, .int .i64 c.n, c.b.v, c.l.v] ty_enthymemeref02_Val)) = .ok s'.v w' ∧ OwnVals lo w'.heap.size w' s' (vs ++ [v]) ∧ Fr (fun x => lo ≤ x ∧ x < hi) w w' := by
  have f1 : Fr0 w (w.alloc (.cells #[.int .i64 c.k, .int .u64 c.u, .int .i64 c.n, c.b.v, c.l.v] ty_enthymemeref02_Val)) := Fr.alloc _ _ _
  have hs1 : (w.alloc (.cells #[.int .i64 c.k, .int .u64 c.u, .int .i64 c.n, c.b.v, c.l.v] ty_enthymemeref02_Val)).heap.size = w.heap.size + 1 := size_alloc _ _
  have hr : CRow (w.alloc (.cells #[.int .i64 c.k, .int .u64 c.u, .int .i64 c.n, c.b.v, c.l.v] ty_enthymemeref02_Val)) ⟨some ⟨w.heap.size, 0, none⟩, 1, 1⟩ ([c].flatMap vcells) := (Row.made w ty_enthymemeref02_Val 1 1 (vcells c)).crow
  have h4 : ∀ x ∈ blkL s, lo ≤ x ∧ x < hi := by obtain ⟨_, _, _, _, h4⟩ := ho; exact h4
  obtain ⟨s', w2, g1, g2, g3, g4⟩ := append_vals (ty := ty_sl_enthymemeref02_Val) (ho.fr0 f1) (by omega) hr rfl (vs' := [v]) ⟨(hc.fr0 f1).mono fun x hx => ⟨by omega, by omega, fun hm => by have := h4 x hm; omega⟩, trivial⟩ (by simp; omega) (by omega)
  exact ⟨s', w2, g1, g2, f1.of0.trans g3 fun x _ hx => h4 x hx⟩
namespace One
/-- what was read so far is the beginning -/
structure Inv (all : List UInt8) (st : RS) (gs : List V) : Prop where
  eq : st.err = 0 → all = gs.flatMap encV ++ st.bs
  ok : ∀ v ∈ gs, V.Ok v
  sm : st.bs.length ≤ 1000
theorem Inv.step {all : List UInt8} {st : RS} {gs : List V} (h : Inv all st gs) (k : Int) : Inv all (rdV st k).2 (gs ++ [(rdV st k).1]) := by
  refine ⟨fun he => ?_, fun v hv => ?_, Nat.le_trans (rdV_small st k) h.sm⟩
  · obtain ⟨h1, h2⟩ := rdV_back he
    rw [h.eq h1, List.flatMap_append, List.append_assoc]
    congr 1
    simpa using h2
  · rcases List.mem_append.1 hv with hv | hv
    · exact h.ok v hv
    · rw [List.mem_singleton.1 hv]; exact rdV_ok st k h.sm
theorem end0 {st : RS} (h : rdEnd st = 0) : st.err = 0 ∧ st.bs = [] := by
  unfold rdEnd at h
  by_cases he : st.err ≠ 0
  · rw [if_pos he] at h; exact absurd h he
  · rw [if_neg he] at h
    refine ⟨by simpa using he, ?_⟩
    by_cases hb : 0 < st.bs.length
    · rw [if_pos hb] at h; cases h
    · exact List.eq_nil_of_length_eq_zero (by omega)
/-- the second half: after the loop -/
theorem s26 {w0 w : World} {rb : Nat} {fp : List Nat} {got few : Sl} {gs : List V} {all : List UInt8} {st : RS} {lo hi : Nat} (F : Fr0 w0 w) (hi1 : hi ≤ w.heap.size) (hr : RdRep w rb st fp) (hg : OwnVals lo hi w got gs) (hf : Bytes w few all) (inv : Inv all st gs) (hl : gs.length ≤ 10) (hal : all.length ≤ 1000) :
    enthymemelaw02_WireOne.S26 (some (at0 rb)) got few w fun r w' => r = .returned (.bool true) ∧ Fr0 w0 w' := by
  refine (r_end hr).mono ?_
  rintro r w1 ⟨rfl, f1⟩
  refine ⟨_, rfl, sel_intro (fun h => (lives_any w1).mono ?_) (fun h => ?_)⟩
  · rintro r w2 ⟨rfl, f2⟩
    exact ⟨_, rfl, rfl, F.tr0 (f1.tr0 f2)⟩
  · have he : rdEnd st = 0 := by simpa using h
    obtain ⟨e1, e2⟩ := end0 he
    have e3 := inv.eq e1
    rw [e2, List.append_nil] at e3
    refine (l_encode (hg.fr0 f1).rd inv.ok (by omega) (fun x hx => by have := f1.size; omega)).mono ?_
    rintro r w2 ⟨t, rfl, t2, f2, _⟩
    refine ⟨t, rfl, (same_bytes t2.rd ((hf.fr0 f1).fr0 f2) (by rw [← e3]; omega)).mono ?_⟩
    rintro r w3 ⟨rfl, f3⟩
    refine ⟨_, rfl, sel_true (by rw [← e3]; simp) ((lives_any w3).mono ?_)⟩
    rintro r w4 ⟨rfl, f4⟩
    exact ⟨_, rfl, rfl, F.tr0 (f1.tr0 (f2.tr0 (f3.tr0 f4)))⟩
theorem l22 {w0 : World} {ks few : Sl} {kl : List Int} (hks : Nums w0 ks kl) (hki : ∀ x ∈ kl, I64 x) {rb : Nat} {fp : List Nat} {all : List UInt8} {lo : Nat} (hal : all.length ≤ 1000) (hfp : ∀ x ∈ fp, w0.heap.size ≤ x ∧ x < lo) (hfew : ∀ x ∈ blkL few, x < lo ∧ x ∉ fp) (hlo : w0.heap.size ≤ lo) :
    ∀ (d i : Nat), i + d = 10 → ∀ (w : World) (got : Sl) (gs : List V) (st : RS), gs.length = i → lo ≤ w.heap.size → Fr0 w0 w → RdRep w rb st fp → OwnVals lo w.heap.size w got gs → Bytes w few all → Inv all st gs →
      enthymemelaw02_WireOne.L22 ks (some (at0 rb)) got few (i : Int) w fun r w' => r = .returned (.bool true) ∧ Fr0 w0 w' := by
  have hn := Nums.len hks
  intro d
  induction d with
  | zero =>
    intro i hi w got gs st hgl hlw F hr hg hf inv
    exact enthymemelaw02_WireOne.L22_step _ _ _ _ _ _ _ (sel_intro (fun h => sel_false (decide_eq_false (by omega)) (s26 F (Nat.le_refl _) hr hg hf inv (by omega) hal)) (fun h => s26 F (Nat.le_refl _) hr hg hf inv (by omega) hal))
  | succ d ih =>
    intro i hi w got gs st hgl hlw F hr hg hf inv
    refine enthymemelaw02_WireOne.L22_step _ _ _ _ _ _ _ (sel_intro (fun h => sel_true (decide_eq_true (by omega)) ((r_end hr).mono ?_)) (fun h => s26 F (Nat.le_refl _) hr hg hf inv (by omega) hal))
    rintro r w1 ⟨rfl, f1⟩
    have F1 := F.tr0 f1
    have hs1 := f1.size
    refine ⟨_, rfl, sel_intro (fun he => ?_) (fun he => s26 F1 hs1 (hr.fr0 f1) (hg.fr0 f1) (hf.fr0 f1) inv (by omega) hal)⟩
    have hlt : i < kl.length := by have := of_decide_eq_true h; omega
    have hg' : kl[i]? = some kl[i] := List.getElem?_eq_getElem hlt
    refine ⟨by omega, by omega, Nums.cell (hks.fr0 F1) hg' (by rw [Int.toNat_natCast]) fun p _ hp => ⟨_, hp, (around_any _ 6 w1 (by omega) (hki _ (List.getElem_mem hlt))).mono ?_⟩⟩
    rintro r w2 ⟨rfl, rfl⟩
    generalize aroundI kl[i] 6 = k
    refine ⟨_, rfl, (l_read (hr.fr0 f1) k).mono ?_⟩
    rintro r w2 ⟨c, rfl, v2, r2, f2⟩
    have hrb := hfp rb hr.mem
    have hs2 := f2.size
    refine ⟨_, _, _, _, _, rfl, ?_⟩
    have g2 := ((hg.fr0 f1).up hs1).fr f2 fun x h1 h2 e => by omega
    obtain ⟨s', w3, q1, q2, q3⟩ := push_val g2 (by omega) (by omega) (v2.mono fun x hx => hx) (by omega)
    refine ⟨s', w3, q1, ?_⟩
    show enthymemelaw02_WireOne.L22 ks (some (at0 rb)) s' few (IntKind.wrap .i64 ((i : Int) + 1)) w3 _
    rw [i64_next i (by omega)]
    have hs3 := q3.size
    exact ih (i + 1) (by omega) w3 s' _ _ (by simp; omega) (by omega) ((fr_at F1 hrb.1 f2).trn q3 fun x hx => by omega) (r2.fr q3 fun x hx hm => by have := hfp x hx; omega) q2
      (((hf.fr0 f1).fr f2 fun x hx e => (hfew x hx).2 (e ▸ hr.mem)).fr q3 fun x hx hm => by have := hfew x hx; omega) (inv.step k)
theorem s16 {w0 w : World} {raw ks : Sl} {rl : List UInt8} {kl : List Int} (F : Fr0 w0 w) (hraw : Bytes w0 raw rl) (hks : Nums w0 ks kl) (hki : ∀ x ∈ kl, I64 x) :
    enthymemelaw02_WireOne.S16 raw ks w fun r w' => r = .returned (.bool true) ∧ Fr0 w0 w' := by
  refine (few_any (hraw.fr0 F) 60 (by omega)).mono ?_
  rintro r w1 ⟨few, rfl, b1, f1, n1⟩
  have hl : (rl.take 60).length ≤ 60 := by simp; omega
  refine ⟨few, rfl, (r_read b1.rd (by omega)).mono ?_⟩
  rintro r w2 ⟨rb, fp, rfl, r2, f2, n2⟩
  have s0 := F.size
  have s1 := f1.size
  have s2 := f2.size
  refine ⟨_, rfl, sel_false rfl ?_⟩
  exact l22 (lo := w2.heap.size) hks hki (by omega) (fun x hx => by have := n2 x hx; have := r2.lt x hx; omega) (fun x hx => ⟨by have := b1.lt x hx; omega, fun hm => by have := n2 x hm; have := b1.lt x hx; omega⟩) (by omega) 10 0 (by omega) w2 ⟨none, 0, 0⟩ [] _ rfl (Nat.le_refl _) (F.tr0 (f1.tr0 f2)) r2 (OwnVals.nil _ _ _) (b1.fr0 f2).rd ⟨fun _ => rfl, by simp, by simp only; omega⟩
/-- the first half: the loop -/
theorem l10 {w0 : World} {A : Nat → Prop} {raw ks vals turned : Sl} {rl : List UInt8} {kl : List Int} {vs : List V} (hraw : Bytes w0 raw rl) (hks : Nums w0 ks kl) (hki : ∀ x ∈ kl, I64 x) {rb : Nat} {fp : List Nat} {all : List UInt8} {lo : Nat} (hvl : vs.length ≤ 8) (hal : all.length ≤ 1000) (hfp : ∀ x ∈ fp, w0.heap.size ≤ x ∧ x < lo) (ht : ∀ x ∈ blkL turned, x < lo ∧ x ∉ fp) (hA : ∀ x, A x → x < lo ∧ x ∉ fp) (hlo : w0.heap.size ≤ lo) :
    ∀ (d i : Nat), i + d = vs.length → ∀ (w : World) (got : Sl) (gs : List V) (st : RS), gs.length = i → lo ≤ w.heap.size → Fr0 w0 w → RdRep w rb st fp → OwnVals lo w.heap.size w got gs → Bytes w turned all → RdVals A w vals vs → Inv all st gs →
      enthymemelaw02_WireOne.L10 raw ks vals turned (some (at0 rb)) got (i : Int) w fun r w' => r = .returned (.bool true) ∧ Fr0 w0 w' := by
  intro d
  induction d with
  | zero =>
    intro i hi w got gs st hgl hlw F hr hg hf hv inv
    have hn := hv.len
    refine enthymemelaw02_WireOne.L10_step _ _ _ _ _ _ _ _ _ (sel_false (decide_eq_false (by omega)) ((r_end hr).mono ?_))
    rintro r w1 ⟨rfl, f1⟩
    refine ⟨_, rfl, sel_intro (fun h => ?_) (fun h => s16 (F.tr0 f1) hraw hks hki)⟩
    have he : rdEnd st = 0 := by simpa using h
    obtain ⟨e1, e2⟩ := end0 he
    have e3 := inv.eq e1
    rw [e2, List.append_nil] at e3
    refine (l_encode (hg.fr0 f1).rd inv.ok (by omega) (fun x hx => by have := f1.size; omega)).mono ?_
    rintro r w2 ⟨t, rfl, t2, f2, _⟩
    refine ⟨t, rfl, (same_bytes t2.rd ((hf.fr0 f1).fr0 f2) (by rw [← e3]; omega)).mono ?_⟩
    rintro r w3 ⟨rfl, f3⟩
    exact ⟨_, rfl, sel_false (by rw [← e3]; simp) (s16 (F.tr0 (f1.tr0 (f2.tr0 f3))) hraw hks hki)⟩
  | succ d ih =>
    intro i hi w got gs st hgl hlw F hr hg hf hv inv
    have hn := hv.len
    have hlt : i < vs.length := by omega
    have hg' : vs[i]? = some vs[i] := List.getElem?_eq_getElem hlt
    generalize vs[i] = v at hg'
    obtain ⟨p, vc, hp, hc, hx⟩ := hv.elem3 hg'
    have xw := hx _ _ (Fr.refl (fun _ => False) w) (fun _ _ h => h)
    refine enthymemelaw02_WireOne.L10_step _ _ _ _ _ _ _ _ _ (sel_true (decide_eq_true (by omega)) ⟨by omega, by omega, optP_mk hp ⟨_, xw 0 _ rfl, ?_⟩⟩)
    generalize vc.k = k
    refine (l_read hr k).mono ?_
    rintro r w2 ⟨c, rfl, v2, r2, f2⟩
    have hrb := hfp rb hr.mem
    have hs2 := f2.size
    refine ⟨_, _, _, _, _, rfl, ?_⟩
    have g2 := hg.fr f2 fun x h1 h2 e => by omega
    obtain ⟨s', w3, q1, q2, q3⟩ := push_val g2 (by omega) (by omega) (v2.mono fun x hx => hx) (by omega)
    refine ⟨s', w3, q1, ?_⟩
    show enthymemelaw02_WireOne.L10 raw ks vals turned (some (at0 rb)) s' (IntKind.wrap .i64 ((i : Int) + 1)) w3 _
    rw [i64_next i (by omega)]
    have hs3 := q3.size
    exact ih (i + 1) (by omega) w3 s' _ _ (by simp; omega) (by omega) ((fr_at F hrb.1 f2).trn q3 fun x hx => by omega) (r2.fr q3 fun x hx hm => by have := hfp x hx; omega) q2
      ((hf.fr f2 fun x hx e => (ht x hx).2 (e ▸ hr.mem)).fr q3 fun x hx hm => by have := ht x hx; omega)
      ((hv.fr f2 fun x hx e => (hA x hx).2 (e ▸ hr.mem)).fr q3 fun x hx hm => by have := hA x hx; omega) (inv.step k)
theorem gen_len (v : V) (h : v.Gen) : (encV v).length ≤ 60 := by
  have h1 := encU_len10 v.u h.ok.u
  have h2 := encI_len v.n h.ok.n
  have hb := h.bl
  have hl := h.ll
  have h3 := encU_len10 v.b.length (by omega)
  have h4 := encU_len10 v.l.length (by omega)
  have h5 := flat_len v.l h.ok.i
  unfold encV
  split
  · omega
  · split
    · omega
    · split
      · unfold encB; split <;> simp
      · split
        · simp [encR]; omega
        · simp only [encL, List.length_append]; omega
theorem gens_len : ∀ (vs : List V), (∀ v ∈ vs, v.Gen) → (vs.flatMap encV).length ≤ 60 * vs.length
  | [], _ => by simp
  | v :: vs, h => by
    have h1 := gen_len v (h v (by simp))
    have h2 := gens_len vs fun y hy => h y (by simp [hy])
    rw [List.flatMap_cons, List.length_append, List.length_cons]
    omega
theorem walk (raw ls : Sl) (at' c : Int) (ks : Sl) (w : World) (hraw : ArgBytes w raw) (hls : ArgNums w ls) (hat : I64 at') (hc : 0 ≤ c ∧ c ≤ 255) (hks : ArgNums w ks) :
    Calls Try.prog n_enthymemelaw02_WireOne #[raw.v, ls.v, .int .i64 at', .int .u8 c, ks.v] w fun r w' => r = .returned (.bool true) ∧ Fr0 w w' := by
  obtain ⟨l, hls, _, hli⟩ := hls
  obtain ⟨rl, hraw, _⟩ := hraw
  obtain ⟨kl, hks, _, hki⟩ := hks
  obtain ⟨cb, hcb⟩ : ∃ cb : UInt8, c = (cb.toNat : Int) := ⟨UInt8.ofNat c.toNat, by simp; omega⟩
  subst hcb
  refine enthymemelaw02_WireOne.ok _ _ _ _ _ w _ ((r_vals hls hli).mono ?_)
  rintro r w1 ⟨vals, vs, rfl, hl, hg, f1, o1⟩
  refine ⟨vals, rfl, (l_encode o1.rd (fun v hv => (hg v hv).ok) (by omega) (fun x hx => hx.2)).mono ?_⟩
  rintro r w2 ⟨b, rfl, b2, f2, n2⟩
  have hfl := gens_len vs hg
  have hbn := Bytes.len b2.rd
  have s1 := f1.size
  have s2 := f2.size
  have lt2 := b2.lt
  have next : ∀ (w3 : World) (all : List UInt8), all.length ≤ 1000 → Fr0 w w3 → w2.heap.size ≤ w3.heap.size → BytesO w3 b all → RdVals (fun x => w.heap.size ≤ x ∧ x < w1.heap.size) w3 vals vs → enthymemelaw02_WireOne.S5 raw ks vals b w3 fun r w' => r = .returned (.bool true) ∧ Fr0 w w' := by
    intro w3 all hal F3 s3 b3 v3
    refine (r_read b3.rd (by omega)).mono ?_
    rintro r w4 ⟨rb, fp, rfl, r4, f4, n4⟩
    have s4 := f4.size
    refine ⟨_, rfl, sel_false rfl ?_⟩
    exact l10 (lo := w4.heap.size) hraw hks hki (by omega) hal (fun x hx => by have := n4 x hx; have := r4.lt x hx; omega) (fun x hx => ⟨by have := b3.lt x hx; omega, fun hm => by have := n4 x hm; have := b3.lt x hx; omega⟩) (fun x hx => ⟨by omega, fun hm => by have := n4 x hm; omega⟩) (by omega) vs.length 0 (by omega) w4 ⟨none, 0, 0⟩ [] _ rfl (Nat.le_refl _) (F3.tr0 f4) r4 (OwnVals.nil _ _ _) (b3.fr0 f4).rd (v3.fr0 f4) ⟨fun _ => rfl, by simp, by simp only; omega⟩
  refine ⟨b, rfl, sel_intro (fun h => ?_) (fun h => next w2 _ (by omega) (f1.tr0 f2) (Nat.le_refl _) b2 (o1.rd.fr0 f2))⟩
  have hpos := of_decide_eq_true h
  refine (around_any at' ((b.n : Nat) : Int) w2 (by omega) hat).mono ?_
  rintro r w3 ⟨rfl, rfl⟩
  have hr := aroundI_range at' ((b.n : Nat) : Int) (by omega)
  generalize aroundI at' ((b.n : Nat) : Int) = m0 at hr
  obtain ⟨m, rfl⟩ := Int.eq_ofNat_of_zero_le hr.1
  obtain ⟨p, hp, _, a1, a2, a3, a4⟩ := ow_set b2 m (by rw [List.length_map]; omega) (byteV cb)
  refine ⟨_, rfl, by omega, by omega, optP_mk hp ?_⟩
  rw [Int.toNat_natCast, Nat.mul_one]
  refine ⟨a1, a2, next _ ((vs.flatMap encV).set m cb) (by rw [List.length_set]; omega) (fr_own (f1.tr0 f2) (fun x hx => by have := n2 x hx; omega) a4) a4.size (by unfold BytesO; rw [List.map_set]; exact a3) ((o1.rd.fr0 f2).fr a4 fun x hx hm => by have := n2 x hm; omega)⟩
end One
end Go.Proofs.Ytjmnpdacalbpkaa

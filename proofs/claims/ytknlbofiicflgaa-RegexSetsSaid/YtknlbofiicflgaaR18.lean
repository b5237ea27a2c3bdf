/- Package regex: Parse: the contract. -/
import Derived.Test.YtknlbofiicflgaaR17
namespace Go.Proofs.Ytknlbofiicflgaa
open Go Go.W

theorem lh_pick {M : Nat → Prop} {w0 w : World} {L D : List En} (H : LH M w0 w L D) (is js : List Nat) (hp : is.Perm js) (hL : js.map (fun k => L.getD k enNil) = L) : LH M w0 w (is.map fun k => L.getD k enNil) D := by
  have h : (is.map fun k => L.getD k enNil).Perm L := by
    have := hp.map (fun k => L.getD k enNil)
    rwa [hL] at this
  exact ⟨H.fr, fun e he => H.own e (h.mem_iff.1 he), H.rd, fun e he => H.new e (h.mem_iff.1 he), ((h.flatMap_right _).nodup_iff).2 H.nd, fun e he b hb e' he' => H.dj e he b hb e' (h.mem_iff.1 he')⟩
theorem rangeEnd_n {w2 : World} {l : Nat} {o : LoopState → Option Code → Obj} {N : World → Prop} {X : Nat → World → Prop} {T : World → Prop} (h : puV w2 l (o .ready none) (o .exhausted none) N) : RangeEnd w2 l o N X T := .inl h
theorem rangeEnd_t {w2 : World} {l : Nat} {o : LoopState → Option Code → Obj} {N : World → Prop} {X : Nat → World → Prop} {T : World → Prop} (h : puV w2 l (o .done (some .ret)) (o .exhausted (some .ret)) T) : RangeEnd w2 l o N X T := .inr (.inr h)
theorem leaf0 {b : Nat} (h : b ∈ Rt.fps [.mk 0 0 0 ⟨none, 0, 0⟩ []]) : False := by
  have := leaf_fps (ts := []) (k := 0) (lo := 0) (hi := 0) (b := b) h
  unfold Rt.fps at this
  cases this
def sx0 : SX := ⟨[], newFX (-1), 0, 0⟩
theorem inv0 : Inv sx0 0 := by
  refine ⟨Nat.le_refl _, fun f hf => ?_, small_new _ _, fun e => ?_, fun e => ?_⟩
  · cases hf
  · have : (0 : Int) = 1 := e
    omega
  · have : (0 : Int) = 2 := e
    omega
theorem run_inv (l : List UInt8) : ∀ (n i m : Nat) (S S' : SX), Inv S m → RunR (toksX l n i) S (.inr S') → Inv S' (m + n)
  | 0, i, m, S, S', hI, hr => by
    have e : (Sum.inr S' : Int ⊕ SX) = .inr S := hr
    cases e
    exact hI
  | n + 1, i, m, S, S', hI, hr => by
    have up : ∀ {S : SX} {a b : Nat}, Inv S a → a ≤ b → Inv S b := fun h hab => ⟨Nat.le_trans h.lo hab, fun f hf => (h.sl f hf).mono hab, h.tp.mono hab, h.s1, h.s2⟩
    unfold toksX at hr
    split at hr
    · split at hr
      · exact up (run_inv l n _ m S S' hI hr) (by omega)
      · obtain ⟨s', ⟨_, hx⟩ | ⟨S1, h1, h2⟩⟩ := hr
        · cases hx
        · exact up (run_inv l n _ (m + 1) S1 S' (feed_inv hI h1) h2) (by omega)
    · obtain ⟨s', ⟨_, hx⟩ | ⟨S1, h1, h2⟩⟩ := hr
      · cases hx
      · have e : (Sum.inr S' : Int ⊕ SX) = .inr S1 := h2
        cases e
        exact up (feed_inv hI h1) (by omega)
/-- what Parse answers -/
def ParseR (w : World) (s : ByteArray) : Post := fun r w' => Fr0 w w' ∧
  ((4096 < s.size ∧ r = .returned (.tuple #[.agg #[.int .i64 0, .int .u8 0, .int .u8 0, .slice none 0 0], .int .i64 4096, .int .i64 4])) ∨
   (s.size ≤ 4096 ∧ ∃ res, RunR (toksX (bl s) (s.size + 1) 0) sx0 res ∧ ((∃ a, res = .inl a ∧ r = .returned (.tuple #[.agg #[.int .i64 0, .int .u8 0, .int .u8 0, .slice none 0 0], .int .i64 a, .int .i64 2])) ∨
     ∃ S', res = .inr S' ∧ ((64 < (exprX S'.tp).sz ∧ r = .returned (.tuple #[.agg #[.int .i64 0, .int .u8 0, .int .u8 0, .slice none 0 0], .int .i64 (s.size : Int), .int .i64 4])) ∨
       ((exprX S'.tp).sz ≤ 64 ∧ ∃ t : Rt, r = .returned (.tuple #[t.v, .int .i64 0, .int .i64 0]) ∧ t.rx = exprX S'.tp ∧ t.P w' ∧ ∀ b ∈ t.fp, w.heap.size ≤ b)))))
theorem c_Parse (s : ByteArray) (w : World) : Calls Try.prog n_regex_Parse #[.string s] w (ParseR w s) := by
  refine regex_Parse.ok _ w _ ((lh0 [] (fun _ h => by cases h)).nw fun w1 _ H1 => H1.nw fun w2 _ H2 => H2.nw fun w3 _ H3 => sel_dec (fun h => ?_) (fun h => ?_))
  · refine H3.st4 0 rfl fun w4 H4 => H4.st0 1 rfl fun w5 H5 => H5.st0 2 rfl fun w6 H6 => ⟨_, _, _, ⟨none, 0, 0⟩, H6.ld 0 0, H6.ld 0 1, H6.ld 0 2, H6.ld 0 3, _, H6.ld0 1, _, H6.ld0 2, H6.fr, .inl ⟨by omega, rfl⟩⟩
  have hs : s.size ≤ 4096 := by omega
  have hl : (bl s).length = s.size := bl_len s
  refine H3.nwrow (e := ty_regex_frame) (sz := 10) (n := 1) (cs := (newFM (-1)).c) rfl (by decide) fun w10 H10 => H10.nw fun w11 _ H11 => ?_
  refine H11.st0 4 rfl fun w12 H12 => H12.st 4 1 rfl fun w13 H13 => H13.st 4 2 rfl fun w14 H14 => ?_
  refine regex_tokens.ok _ w14 _ (H14.nw fun w15 _ H15 => ⟨_, rfl, ?_⟩)
  show ∀ o_ : LoopState → Option Code → Obj, _
  intro o_ hY
  have e1 : (w15.alloc (.deferred (some []))).heap.size = w15.heap.size + 1 := size_alloc _ _
  have HG := (H15.alloc (.deferred (some []))).alloc (o_ .ready none)
  rw [e1] at HG
  have hP : (En.rows (([] ++ [newFM (-1)] : List FM).flatMap FM.rows)).P ((w15.alloc (.deferred (some []))).alloc (o_ .ready none)) := by
    refine ⟨fun q hq => ?_, by decide⟩
    have hq : q ∈ [((⟨none, 0, 0⟩, []) : RowV), (⟨none, 0, 0⟩, []), (⟨none, 0, 0⟩, []), (⟨none, 0, 0⟩, [])] := hq
    simp only [List.mem_cons, List.not_mem_nil, or_false, or_self] at hq
    subst hq
    exact OwnRow.nil _ _ _
  have Ha := (HG.push (.rows (([] ++ [newFM (-1)] : List FM).flatMap FM.rows)) (Fr.refl _ _) hP (fun b hb => by
    have hb := mem_nub.1 hb
    have hb : b ∈ ([] : List Nat) := hb
    cases hb)).addD (.trees [.mk 0 0 0 ⟨none, 0, 0⟩ []]) (Fr.refl _ _) (Rt.ps_of fun t ht => by
      simp at ht; subst ht
      show Rt.P _ _
      unfold Rt.P Rt.Ps
      exact ⟨RdN.nil 4 _, trivial⟩) (fun b hb => by
        exact (leaf0 (mem_nub.1 hb)).elim)
  have Hb := lh_pick Ha [4, 3, 8, 0, 1, 2, 6, 7, 5] [0, 1, 2, 3, 4, 5, 6, 7, 8] (by decide) rfl
  have HS : SF F0 w ((w15.alloc (.deferred (some []))).alloc (o_ .ready none)) w10.heap.size ⟨some (at0 w3.heap.size), 1, 1⟩ 0 0 [] (newFM (-1)) (GP w.heap.size w1.heap.size w2.heap.size w15.heap.size (w15.heap.size + 1) w14.heap.size s (.int .i64 0) (.int .i64 0) (o_ .ready none)) [.mk 0 0 0 ⟨none, 0, 0⟩ []] := Hb
  refine regex_tokens_1.ok _ _ _ _ (p_loop (w0 := w) (rb := w10.heap.size) (t2 := w.heap.size) (t3 := w1.heap.size) (t4 := w2.heap.size) (D := w15.heap.size) (l_ := w15.heap.size + 1) (bs := w14.heap.size) hs hY _ (s.size + 1) 0 0 sx0 _ (by omega) (by omega) inv0 (by omega)
    ⟨_, [], newFM (-1), _, _, rfl, rfl, fun g hg t ht => ?_, rfl, fun b hb => ?_, HS⟩ (fun w' res hr he => ⟨⟨_, rfl⟩, ?_⟩))
  · simp at hg; subst hg
    simpa [FM.ts, newFM] using ht
  · exact (leaf0 hb).elim
  cases res with
  | inl a =>
    obtain ⟨sl, fs, f, ts, st, wd, H⟩ := he
    refine rangeEnd_t (H.pu 7 rfl fun w11 H11 => H11.pu 6 rfl fun w15 H15 => ⟨_, _, _, ⟨none, 0, 0⟩, H15.ld 3 0, H15.ld 3 1, H15.ld 3 2, H15.ld 3 3, _, H15.ld0 4, _, H15.ld0 5, H15.fr, .inr ⟨hs, _, hr, .inl ⟨a, rfl, rfl⟩⟩⟩)
  | inr S' =>
    obtain ⟨sl, fs, f, ts, p, hlo, htp, h3, h4, hb, H⟩ := he
    have hI := run_inv _ _ _ _ _ _ inv0 hr
    have hsz := run_sz _ _ _ _ _ (by omega) hr
    rw [show pz sx0 = 0 from rfl] at hsz
    have hfl : fs.length ≤ 1000000 := by
      have := hI.lo
      rw [← hlo] at this
      simp at this
      omega
    refine rangeEnd_n (H.pu 7 rfl fun w5 H5 => ?_)
    have H5' : SF F0 w w5 w10.heap.size sl S'.st S'.wd fs f (GP w.heap.size w1.heap.size w2.heap.size w15.heap.size (w15.heap.size + 1) w14.heap.size s (.int .i64 0) (.int .i64 0) (o_ .exhausted none)) ts := H5
    refine H5'.call (c_top H5' h4 hfl) ?_
    rintro _ w6 rfl H6
    have H6' : SF F0 w w6 w10.heap.size sl S'.st S'.wd fs f (GP w.heap.size w1.heap.size w2.heap.size w15.heap.size (w15.heap.size + 1) w14.heap.size s (.int .i64 0) (.int .i64 0) (o_ .exhausted none)) ts := H6
    refine ⟨_, rfl, H6'.csS0 h3 h4 (fun own1 s1 => c_endExpr s1 (by rw [htp]; exact hI.tp.mono (by omega))) ?_⟩
    rintro r w7 sl3 fs3 f3 p3 st3 wd3 ts3 t3 h33 h43 b3' ⟨hf0, he1, he2, rfl, rfl, u, hu, rfl, hx⟩ H7
    rw [htp] at hx
    have husz : u.sz = (exprX S'.tp).sz := by rw [← hx, Rt.rx_sz]
    refine ⟨_, _, _, u.s, rfl, H7.nw fun w8 _ H8 => H8.st4 9 rfl fun w9 H9 => ⟨_, _, _, u.s, H9.ld 9 0, H9.ld 9 1, H9.ld 9 2, H9.ld 9 3, H9.call (c_tooLarge u w9 (by omega) ((show Rt.Ps w9 ts3 from H9.getD 0).mem hu)) ?_⟩⟩
    rintro _ w12 rfl H12
    refine ⟨_, rfl, sel_dec (fun hbig => ?_) (fun hsm => ?_)⟩
    · refine H12.st4 3 rfl fun w13 H13 => H13.st0 4 rfl fun w14 H14 => H14.st0 5 rfl fun w16 H16 => H16.pu 6 rfl fun w17 H17 => ⟨_, _, _, ⟨none, 0, 0⟩, H17.ld 3 0, H17.ld 3 1, H17.ld 3 2, H17.ld 3 3, _, H17.ld0 4, _, H17.ld0 5, H17.fr, .inr ⟨hs, _, hr, .inr ⟨S', rfl, .inl ⟨by omega, rfl⟩⟩⟩⟩
    · refine ⟨_, _, _, u.s, H12.ld 9 0, H12.ld 9 1, H12.ld 9 2, H12.ld 9 3, H12.st4 3 rfl fun w13 H13 => H13.st0 4 rfl fun w14 H14 => H14.st0 5 rfl fun w16 H16 => H16.pu 6 rfl fun w17 H17 => ⟨_, _, _, u.s, H17.ld 3 0, H17.ld 3 1, H17.ld 3 2, H17.ld 3 3, _, H17.ld0 4, _, H17.ld0 5, H17.fr, .inr ⟨hs, _, hr, .inr ⟨S', rfl, .inr ⟨by omega, u, rfl, hx, (show Rt.Ps w17 ts3 from H17.getD 0).mem hu, fun b hbu => ?_⟩⟩⟩⟩⟩
      rcases b3' b (Rt.fps_iff.2 ⟨u, hu, hbu⟩) with h | h | h
      · exact hb b h
      · exact h
      · exact h.elim
end Go.Proofs.Ytknlbofiicflgaa

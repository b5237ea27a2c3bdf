/- Package regex: feed: the contract. -/
import Derived.Test.YtknlbofiicflgaaGreatR10
namespace Go.Proofs.YtknlbofiicflgaaGreat
open Go Go.W

theorem nil_snoc {α : Type} (l : List α) : l = [] ∨ ∃ a x, l = a ++ [x] := by
  rcases List.eq_nil_or_concat l with h | ⟨a, x, h⟩
  · exact .inl h
  · exact .inr ⟨a, x, by rw [h, List.concat_eq_append]⟩
theorem closeX_snoc (lo : List FX) (g tp : FX) (st wd : Int) (l : List Rx) : closeX ⟨lo ++ [g], tp, st, wd⟩ l = some ⟨lo, atomX g (clR tp.k l), 3, wd⟩ := by
  unfold closeX
  simp
/-- what a token leaves -/
def FedQ (t : Tk) (S : SX) : Ending → Addr → List FX → FX → Int → Int → List Rt → Prop := fun r f0 lo tp st wd ts => ∃ s', Says (feedX s' t S) r f0 lo tp st wd ts
theorem c_feed {w : World} {rb : Nat} {f0 : Addr} {lo : List FX} {tp : FX} {st wd : Int} {own : List Nat} {ts : List Rt} (h : St w rb f0 lo tp st wd own ts) (hl : lo.length ≤ 999999) (hs : Small tp 999999) (h1 : st = 1 → 0 ≤ tp.k ∧ lo ≠ []) (t : Tk) :
    Calls Tryz.prog n_regex_reader_feed #[.pointer (some (at0 rb)), t.v] w (StP w own ts rb (FedQ t ⟨lo, tp, st, wd⟩)) := by
  obtain ⟨sl, fs, f, p, rfl, rfl, h3, h4, rfl, H⟩ := open_sf h
  have hl' : fs.length ≤ 999999 := by simpa using hl
  have hn' : f.n ≤ 999999 := hs.n'
  have hs6 : Small f.x 1000000 := ⟨by have := hs.n'; omega, by have := hs.ar; omega, by have := hs.al; omega, by have := hs.an; omega, by have := hs.ca; omega⟩
  have base : ∀ b ∈ Rt.fps ts, b ∈ Rt.fps ts ∨ w.heap.size ≤ b ∨ b ∈ own := fun b hb => .inl hb
  let z : Sl := ⟨none, 0, 0⟩
  refine regex_reader_feed.okT _ _ _ _ _ _ w _ (H.newg (bs := []) (fun b3 w1 H1 => ?_) (by simp))
  have H1 : SF (· ∈ own) w w1 rb sl st wd fs f [.g b3] ts := H1
  refine H1.callg (c_top H1 h4 (by omega)) ?_
  rintro _ w2 rfl H2
  have H2 : SF (· ∈ own) w w2 rb sl st wd fs f [.g b3] ts := H2
  refine ⟨_, rfl, st, H2.ld 0 1, ?_⟩
  have item : ∀ {w2 : World} {sl2 : Sl} {st2 wd2 : Int} {fs2 : List FM} {f2 : FM} {ts2 : List Rt} {p2 : Addr}, SF (· ∈ own) w w2 rb sl2 st2 wd2 fs2 f2 [.g b3] ts2 → (∀ g ∈ fs2 ++ [f2], ∀ t ∈ g.ts, t ∈ ts2) → sl2.a = some p2 → (∀ b ∈ Rt.fps ts2, b ∈ Rt.fps ts ∨ w.heap.size ≤ b ∨ b ∈ own) → (∀ t ∈ ts, t ∈ ts2) → fs2.length ≤ 1000000 → f2.n ≤ 1000000 →
      feedX z t ⟨fs.map FM.x, f.x, st, wd⟩ = itemX t ⟨fs2.map FM.x, f2.x, st2, wd2⟩ → callF [b3] Tryz.prog n_regex_reader_item #[.pointer (some (at0 rb)), t.v] w2 fun r_ w5 => ∃ t34 : Bool, r_ = .returned (.bool t34) ∧ StP w own ts rb (FedQ t ⟨fs.map FM.x, f.x, st, wd⟩) (.returned (.bool t34)) w5 := by
    intro w2 sl2 st2 wd2 fs2 f2 ts2 p2 H2 h32 h42 hb2 ht2 hl2 hn2 he
    refine H2.csS (bs := [b3]) h32 h42 (fun own1 s1 => c_item s1 (by simpa using hl2) hn2 t) ?_ (by simp)
    rintro r w3 sl3 fs3 f3 p3 st3 wd3 ts3 t3 h33 h43 b3' hsay H4
    have hb : ∀ b ∈ Rt.fps ts3, b ∈ Rt.fps ts ∨ w.heap.size ≤ b ∨ b ∈ own := fun b hb => (b3' b hb).elim (hb2 b) .inr
    rcases hsay with ⟨hn, rfl⟩ | ⟨hsm, rfl⟩
    · exact ⟨false, rfl, sf_stp H4 h33 h43 hb (fun t ht => t3 t (ht2 t ht)) ⟨z, .inl ⟨he.trans hn, rfl⟩⟩⟩
    · exact ⟨true, rfl, sf_stp H4 h33 h43 hb (fun t ht => t3 t (ht2 t ht)) ⟨z, .inr ⟨he.trans hsm, rfl⟩⟩⟩
  -- closing, when the last frame's rows have been taken
  have close : ∀ {w2 : World} {sl2 : Sl} {fs2 : List FM} {g2 f2 : FM} {ts2 : List Rt} {p2 : Addr} {s' : Sl} (T : Rt), LH (· ∈ own) w w2 ([.c rb [sl2.v, .int .i64 st, .int .i64 wd] ty_regex_reader, .row ty_regex_frame 10 sl2 (((fs2 ++ [g2]) ++ [f2]).flatMap FM.c), .rows ((fs2 ++ [g2]).flatMap FM.rows)] ++ [.g b3]) [.trees ts2] → (∀ x ∈ fs2 ++ [g2], ∀ t ∈ x.ts, t ∈ ts2) → sl2.a = some p2 → fs2.length ≤ 999999 → T ∈ ts2 → (0 ≤ f2.k ∨ T.l ≠ []) → (∀ b ∈ Rt.fps ts2, b ∈ Rt.fps ts ∨ w.heap.size ≤ b ∨ b ∈ own) → (∀ t ∈ ts, t ∈ ts2) →
      feedX s' t ⟨fs.map FM.x, f.x, st, wd⟩ = some ⟨fs2.map FM.x, atomX g2.x (clR f2.k (Rt.rxs T.l)), 3, wd⟩ → callF [b3] Tryz.prog n_regex_reader_close #[.pointer (some (at0 rb)), T.s.v] w2 fun r_ w5 => ∃ t34 : Bool, r_ = .returned (.bool t34) ∧ StP w own ts rb (FedQ t ⟨fs.map FM.x, f.x, st, wd⟩) (.returned (.bool t34)) w5 := by
    intro w2 sl2 fs2 g2 f2 ts2 p2 s' T H2 h32 h42 hl2 hT hk hb2 ht2 he
    refine LH.csA (rb := rb) (bs := [b3]) H2 (fun own1 HA => c_close HA h32 h42 hl2 T hT hk) ?_ (by simp)
    rintro r w3 sl3 fs3 f3 p3 st3 wd3 ts3 t3 h33 h43 b3' ⟨rfl, he1, he2, rfl, rfl⟩ H4
    refine ⟨true, rfl, sf_stp H4 h33 h43 (fun b hb => (b3' b hb).elim (hb2 b) .inr) (fun t ht => t3 t (ht2 t ht)) ⟨s', .inr ⟨?_, rfl⟩⟩⟩
    rw [he1, he2]
    exact he
  refine sel_intro (fun hst => ?_) (fun hst => ?_)
  · have hst : st = 2 := eq_of_beq hst
    refine u8_sel (n := 40) (by omega) (fun hk : t.k = 40 => ⟨wd, H2.ld 0 2, ?_⟩) (fun hk : t.k ≠ 40 => ?_)
    · refine H2.csS (bs := [b3]) h3 h4 (fun own1 s1 => c_push s1 (by simp; omega) wd 1) ?_ (by simp)
      rintro _ w3 sl3 fs3 f3 p3 st3 wd3 ts3 t3 h33 h43 b3' ⟨rfl, he1, he2, rfl, rfl⟩ H4
      refine ⟨true, rfl, sf_stp H4 h33 h43 b3' t3 ⟨z, .inr ⟨?_, rfl⟩⟩⟩
      rw [he1, he2]
      unfold feedX
      exact (if_pos hst).trans (if_pos hk)
    · refine sf_stp H2 h3 h4 base (fun _ h => h) ⟨z, .inl ⟨?_, rfl⟩⟩
      unfold feedX
      exact (if_pos hst).trans (if_neg hk)
  have n2 : st ≠ 2 := fun e => by rw [e] at hst; exact absurd hst (by decide)
  refine sel_intro (fun hst1 => ?_) (fun hst1 => ?_)
  · have hst1 : st = 1 := eq_of_beq hst1
    obtain ⟨hk0, hne⟩ := h1 hst1
    refine u8_sel (n := 41) (by omega) (fun hk : t.k = 41 => ?_) (fun hk : t.k ≠ 41 => ?_)
    · rcases nil_snoc fs with rfl | ⟨fs0, g, rfl⟩
      · exact absurd rfl hne
      have H3 := sf_leaf H2 3 0 0
      have er : (((fs0 ++ [g]) ++ [f]).flatMap FM.rows) = (fs0 ++ [g]).flatMap FM.rows ++ f.rows := by rw [List.flatMap_append (xs := fs0 ++ [g])]; simp
      have H4 : LH (· ∈ own) w w2 (SL rb sl st wd (((fs0 ++ [g]) ++ [f]).flatMap FM.c) ((fs0 ++ [g]).flatMap FM.rows ++ f.rows) ++ [.g b3]) [.trees (ts ++ [.mk 3 0 0 ⟨none, 0, 0⟩ []])] := by rw [← er]; exact H3
      have H5 := rows_drop H4 2 rfl
      refine close (s' := z) (.mk 3 0 0 ⟨none, 0, 0⟩ []) H5 (fun x hx u hu => List.mem_append_left _ (h3 x (List.mem_append_left _ hx) u hu)) h4 (by simp at hl'; omega) (by simp) (.inl hk0) (fun b hb => .inl (leaf_fps hb)) (fun u hu => List.mem_append_left _ hu) ?_
      unfold feedX
      refine (if_neg n2).trans ((if_pos hst1).trans ((if_pos hk).trans ?_))
      rw [List.map_append]
      exact closeX_snoc _ _ _ _ _ _
    · refine item H2 h3 h4 base (fun _ h => h) (by omega) (by omega) ?_
      unfold feedX
      exact (if_neg n2).trans ((if_pos hst1).trans (if_neg hk))
  have n1 : st ≠ 1 := fun e => by rw [e] at hst1; exact absurd hst1 (by decide)
  refine sel_intro (fun hst0 => ?_) (fun hst0 => ?_)
  · have hst0 : st = 0 := eq_of_beq hst0
    refine item H2 h3 h4 base (fun _ h => h) (by omega) (by omega) ?_
    unfold feedX
    exact (if_neg n2).trans ((if_neg n1).trans (if_pos hst0))
  have n0 : st ≠ 0 := fun e => by rw [e] at hst0; exact absurd hst0 (by decide)
  have fe : ∀ s' : Sl, feedX s' t ⟨fs.map FM.x, f.x, st, wd⟩ = (if t.k = 42 then some ⟨fs.map FM.x, atomX f.x (.mk 7 0 0 [f.x.la]), st, wd⟩
      else if t.k = 38 then some ⟨fs.map FM.x, endSeqX f.x, 0, wd⟩
      else if t.k = 124 then some ⟨fs.map FM.x, endConjX f.x, 0, wd⟩
      else if t.k = 44 then (if f.x.k < 0 then none else some ⟨fs.map FM.x, argX s' f.x, 0, wd⟩)
      else if t.k = 41 then (if fs.map FM.x = [] then none else closeX ⟨fs.map FM.x, f.x, st, wd⟩ (f.x.ar.2 ++ [exprX f.x]))
      else if t.k = 36 then (if fs.map FM.x = [] then some ⟨fs.map FM.x, f.x, st, wd⟩ else none)
      else itemX t ⟨fs.map FM.x, endItemX f.x, st, wd⟩) := fun s' => by
    unfold feedX
    exact (if_neg n2).trans ((if_neg n1).trans (if_neg n0))
  refine u8_sel (n := 42) (by omega) (fun hk : t.k = 42 => ?_) (fun k42 : t.k ≠ 42 => u8_sel (n := 38) (by omega) (fun hk : t.k = 38 => ?_) (fun k38 : t.k ≠ 38 => u8_sel (n := 124) (by omega) (fun hk : t.k = 124 => ?_) (fun k124 : t.k ≠ 124 => u8_sel (n := 44) (by omega) (fun hk : t.k = 44 => ?_) (fun k44 : t.k ≠ 44 => u8_sel (n := 41) (by omega) (fun hk : t.k = 41 => ?_) (fun k41 : t.k ≠ 41 => u8_sel (n := 36) (by omega) (fun hk : t.k = 36 => ?_) (fun k36 : t.k ≠ 36 => ?_))))))
  · obtain ⟨c0, c1, c2, c3⟩ := H2.ldLast 1 rfl h4
    refine optP_some ⟨_, _, _, _, c0, c1, c2, c3, ?_⟩
    refine H2.nwrow (e := ty_regex_Regex) (sz := 4) (n := 1) (cs := f.la.c) rfl (by decide) fun w7 H7 => optP_some ?_
    have a1 : ((p.add (fs.length * 10)).add 6).add 1 = (p.add (fs.length * 10)).add 7 := add_add _ 6 1
    have a2 : ((p.add (fs.length * 10)).add 6).add 2 = (p.add (fs.length * 10)).add 8 := add_add _ 6 2
    have a3 : ((p.add (fs.length * 10)).add 6).add 3 = (p.add (fs.length * 10)).add 9 := add_add _ 6 3
    rw [a1, a2, a3]
    refine H7.stF (bs := [b3]) (f := f) 1 ⟨f.k, f.ar, f.al, f.an, f.ca, f.n, .mk 7 f.la.lo f.la.hi f.la.s f.la.l⟩ 6 rfl h4 (by omega) rfl (fun w8 H8 => ?_) (by simp)
    refine H8.stF (bs := [b3]) (f := ⟨f.k, f.ar, f.al, f.an, f.ca, f.n, .mk 7 f.la.lo f.la.hi f.la.s f.la.l⟩) 1 ⟨f.k, f.ar, f.al, f.an, f.ca, f.n, .mk 7 0 f.la.hi f.la.s f.la.l⟩ 7 rfl h4 (by omega) rfl (fun w9 H9 => ?_) (by simp)
    refine H9.stF (bs := [b3]) (f := ⟨f.k, f.ar, f.al, f.an, f.ca, f.n, .mk 7 0 f.la.hi f.la.s f.la.l⟩) 1 ⟨f.k, f.ar, f.al, f.an, f.ca, f.n, .mk 7 0 0 f.la.s f.la.l⟩ 8 rfl h4 (by omega) rfl (fun w10 H10 => ?_) (by simp)
    refine H10.stF (bs := [b3]) (f := ⟨f.k, f.ar, f.al, f.an, f.ca, f.n, .mk 7 0 0 f.la.s f.la.l⟩) 1 ⟨f.k, f.ar, f.al, f.an, f.ca, f.n, .mk 7 0 0 ⟨some (at0 w2.heap.size), 1, 1⟩ [f.la]⟩ 9 rfl h4 (by omega) rfl (fun w11 H11 => ?_) (by simp)
    have hla : f.la ∈ ts := h3 f (by simp) _ (by simp [FM.ts])
    have H12 := H11.freeze 4 (Rt.row ⟨some (at0 w2.heap.size), 1, 1⟩ [f.la]) rfl (by show RdN 4 w11 _ ([f.la].flatMap Rt.c); rw [show [f.la].flatMap Rt.c = f.la.c by simp]; exact OwnRow.rdn (H11.get 4)) (fun b hb => rdn_own (e := ty_regex_Regex) (vs := [f.la].flatMap Rt.c) hb)
    have H13 := H12.node 0 7 0 0 (s := ⟨some (at0 w2.heap.size), 1, 1⟩) (ks := [f.la]) rfl (by simp) (fun t ht => by simp at ht; subst ht; exact hla)
    have er : (fs ++ [f]).flatMap FM.rows = (fs ++ [(⟨f.k, f.ar, f.al, f.an, f.ca, f.n, .mk 7 0 0 ⟨some (at0 w2.heap.size), 1, 1⟩ [f.la]⟩ : FM)]).flatMap FM.rows := by simp [FM.rows]
    have H14 : SF (· ∈ own) w w11 rb sl st wd fs ⟨f.k, f.ar, f.al, f.an, f.ca, f.n, .mk 7 0 0 ⟨some (at0 w2.heap.size), 1, 1⟩ [f.la]⟩ [.g b3] (ts ++ [.mk 7 0 0 ⟨some (at0 w2.heap.size), 1, 1⟩ [f.la]]) := by
      show LH _ _ _ (SL rb sl st wd _ ((fs ++ [(⟨f.k, f.ar, f.al, f.an, f.ca, f.n, .mk 7 0 0 ⟨some (at0 w2.heap.size), 1, 1⟩ [f.la]⟩ : FM)]).flatMap FM.rows) ++ _) _
      rw [← er]
      exact H13
    refine sf_stp H14 (fun g hg u hu => ?_) h4 (fun b hb => ?_) (fun u hu => List.mem_append_left _ hu) ⟨z, .inr ⟨?_, rfl⟩⟩
    · rcases List.mem_append.1 hg with hg | hg
      · exact List.mem_append_left _ (h3 g (by simp [hg]) u hu)
      · simp at hg; subst hg
        simp only [FM.ts, List.mem_append, List.mem_cons, List.not_mem_nil, or_false] at hu
        rcases hu with (((hu | hu) | hu) | hu) | rfl
        · exact List.mem_append_left _ (h3 f (by simp) u (by simp [FM.ts, hu]))
        · exact List.mem_append_left _ (h3 f (by simp) u (by simp [FM.ts, hu]))
        · exact List.mem_append_left _ (h3 f (by simp) u (by simp [FM.ts, hu]))
        · exact List.mem_append_left _ (h3 f (by simp) u (by simp [FM.ts, hu]))
        · simp
    · obtain ⟨u, hu, hbu⟩ := Rt.fps_iff.1 hb
      rcases List.mem_append.1 hu with hu | hu
      · exact .inl (Rt.fps_iff.2 ⟨u, hu, hbu⟩)
      · simp at hu
        rw [hu] at hbu
        rcases Rt.fp_parts.1 hbu with hbu | hbu
        · have := rdn_own (e := ty_regex_Regex) hbu
          simp [En.row, blkL, Rt.s] at this
          subst this
          exact .inr (.inl H2.fr.size)
        · obtain ⟨t', ht', hb'⟩ := Rt.fps_iff.1 hbu
          simp [Rt.l] at ht'
          rw [ht'] at hb'
          exact .inl (Rt.fps_iff.2 ⟨f.la, hla, hb'⟩)
    · rw [fe, if_pos hk]; rfl
  · refine H2.csS (bs := [b3]) h3 h4 (fun own1 s1 => as_stp (c_endSeq s1 hs6.n' hs6.ca hs6.an)) ?_ (by simp)
    rintro _ w3 sl3 fs3 f3 p3 st3 wd3 ts3 t3 h33 h43 b3' ⟨rfl, he0, he1, he2, rfl, rfl⟩ H3
    refine ⟨rfl, H3.stk (bs := [b3]) 0 1 rfl (fun w4 H4 => ?_) (by simp) (by simp)⟩
    refine sf_stp (show SF (· ∈ own) w w4 rb sl3 0 wd3 fs3 f3 [.g b3] ts3 from H4) h33 h43 b3' t3 ⟨z, .inr ⟨?_, rfl⟩⟩
    rw [fe, if_neg k42, if_pos hk, he1, he2]
  · refine H2.csS (bs := [b3]) h3 h4 (fun own1 s1 => as_stp (c_endConj s1 hs6.n' hs6.ca hs6.an hs6.al)) ?_ (by simp)
    rintro _ w3 sl3 fs3 f3 p3 st3 wd3 ts3 t3 h33 h43 b3' ⟨rfl, he0, he1, he2, rfl, rfl⟩ H3
    refine ⟨rfl, H3.stk (bs := [b3]) 0 1 rfl (fun w4 H4 => ?_) (by simp) (by simp)⟩
    refine sf_stp (show SF (· ∈ own) w w4 rb sl3 0 wd3 fs3 f3 [.g b3] ts3 from H4) h33 h43 b3' t3 ⟨z, .inr ⟨?_, rfl⟩⟩
    rw [fe, if_neg k42, if_neg k38, if_pos hk, he1, he2]
  · refine optP_some ⟨f.k, H2.ldF 1 rfl h4 0, sel_intro (fun h0 => ?_) (fun h0 => ?_)⟩
    · refine sf_stp H2 h3 h4 base (fun _ h => h) ⟨z, .inl ⟨?_, rfl⟩⟩
      rw [fe, if_neg k42, if_neg k38, if_neg k124, if_pos hk]
      exact if_pos (of_decide_eq_true h0)
    have fin : ∀ {w5 : World} {sl3 : Sl} {fs3 : List FM} {f3 : FM} {p3 : Addr} {ts3 : List Rt} {s' : Sl} {u : Rt} {G : List En}, SF (· ∈ own) w w5 rb sl3 st wd fs3 (f3.put 1 (s', (f3.col 1).2 ++ [u])) G ts3 → (∀ g ∈ fs3 ++ [f3], ∀ t ∈ g.ts, t ∈ ts3) → sl3.a = some p3 → (∀ b ∈ Rt.fps ts3, b ∈ Rt.fps ts ∨ w.heap.size ≤ b ∨ b ∈ own) → (∀ t ∈ ts, t ∈ ts3) → fs3.map FM.x = fs.map FM.x → f3.x = endExprX f.x → u ∈ ts3 → u.rx = exprX f.x →
        regex_reader_feed.S1T (at0 rb) w5 (StP w own ts rb (FedQ t ⟨fs.map FM.x, f.x, st, wd⟩)) := by
      intro w5 sl3 fs3 f3 p3 ts3 s' u G H5 h33 h43 hb3 ht3 he1 he2 hu hx
      refine H5.st 0 1 rfl fun w6 H6 => ?_
      refine sf_stp (show SF (· ∈ own) w w6 rb sl3 0 wd fs3 (f3.put 1 (s', (f3.col 1).2 ++ [u])) G ts3 from H6) (fun g hg v hv => ?_) h43 hb3 ht3 ⟨s', .inr ⟨?_, rfl⟩⟩
      · rcases List.mem_append.1 hg with hg | hg
        · exact h33 g (by simp [hg]) v hv
        · simp at hg; subst hg
          rcases put_ts _ _ (by omega) (by omega) hv with h | h
          · exact h33 f3 (by simp) v h
          · rcases List.mem_append.1 h with h | h
            · exact h33 f3 (by simp) v (col_ts f3 1 h)
            · simp at h; subst h; exact hu
      · have e1 : f3.k = f.k := by have := congrArg FX.k he2; exact this
        have e2 : Rt.rxs f3.ar.2 = Rt.rxs f.ar.2 := by have := congrArg (fun x : FX => x.ar.2) he2; exact this
        have e3 : Rt.rxs f3.al.2 = [] := by have := congrArg FX.al he2; exact this
        have e4 : Rt.rxs f3.an.2 = [] := by have := congrArg FX.an he2; exact this
        have e5 : Rt.rxs f3.ca.2 = [] := by have := congrArg FX.ca he2; exact this
        have e6 : f3.n = 0 := by have := congrArg FX.n he2; exact this
        have e7 : f3.la.rx = f.x.la := by have := congrArg FX.la he2; exact this
        rw [fe, if_neg k42, if_neg k38, if_neg k124, if_pos hk]
        refine (if_neg (of_decide_eq_false h0)).trans ?_
        show some (SX.mk _ ⟨_, (s', Rt.rxs f.ar.2 ++ [exprX f.x]), [], [], [], 0, f.x.la⟩ 0 wd) = some (SX.mk (fs3.map FM.x) ⟨f3.k, (s', Rt.rxs (f3.ar.2 ++ [u])), Rt.rxs f3.al.2, Rt.rxs f3.an.2, Rt.rxs f3.ca.2, f3.n, f3.la.rx⟩ 0 wd)
        rw [he1, e1, e3, e4, e5, e6, e7, rxs_app, e2]
        show some (SX.mk _ ⟨_, (s', Rt.rxs f.ar.2 ++ [exprX f.x]), [], [], [], 0, f.x.la⟩ 0 wd) = some (SX.mk _ ⟨_, (s', Rt.rxs f.ar.2 ++ [u.rx]), [], [], [], 0, f.x.la⟩ 0 wd)
        rw [hx]
        rfl
    refine optP_some (H2.locg (bs := [b3]) (fun w16 H16 => ⟨f.ar.1, H16.ldF 1 rfl h4 1, ?_, ?_⟩) (by simp))
    · refine (show SF (· ∈ own) w w16 rb sl st wd fs f [.g b3] ts from H16).csS (bs := [b3]) h3 h4 (fun own1 s1 => c_endExpr s1 hs6) ?_ (by simp)
      rintro r w17 sl3 fs3 f3 p3 st3 wd3 ts3 t3 h33 h43 b3' ⟨hf0, he1, he2, rfl, rfl, u, hu, rfl, hx⟩ H17
      have ear : f3.ar.1 = f.ar.1 := by have := congrArg (fun x : FX => x.ar.1) he2; exact this
      refine ⟨u.k, u.lo.toNat, u.hi.toNat, u.s, rfl, ?_⟩
      rw [← hf0, ← ear]
      refine ⟨H17.ldF 1 rfl h43 1, H17.nwrow (e := ty_regex_Regex) (sz := 4) (n := 1) (cs := z4) rfl (by decide) fun w18 H18 => ⟨H18.ldF 1 rfl h43 1, ?_⟩⟩
      have hb1 : (f3.col 1).2.length ≤ 1000000 := by
        have e : f3.x.ar.2.length = f3.ar.2.length := (fx_len f3).1
        rw [he2] at e
        have : f.x.ar.2.length ≤ 999999 := hs.ar
        show f3.ar.2.length ≤ _
        rw [← e]; show f.x.ar.2.length ≤ _; omega
      exact push_k (bs := [b3]) (K := fun w5 => regex_reader_feed.S1T (at0 rb) w5 (StP w own ts rb (FedQ t ⟨fs.map FM.x, f.x, st3, wd3⟩))) (show SF (· ∈ own) w w18 rb sl3 st3 wd3 fs3 f3 ([.g b3] ++ [.row ty_regex_Regex 4 ⟨some (at0 w17.heap.size), 1, 1⟩ z4]) ts3 from H18) 4 rfl h43 1 (by omega) (by omega) u hb1 rfl (fun s' w5 H5 => fin H5 h33 h43 b3' t3 he1 he2 hu hx) (by simp)
    · refine H16.nwrow (e := ty_regex_Regex) (sz := 4) (n := 1) (cs := z4) rfl (by decide) fun w30 H30 => ⟨H30.ldF 1 rfl h4 1, ?_⟩
      refine (show SF (· ∈ own) w w30 rb sl st wd fs f ([.g b3] ++ [.row ty_regex_Regex 4 ⟨some (at0 w16.heap.size), 1, 1⟩ z4]) ts from H30).csS (bs := [b3]) h3 h4 (fun own1 s1 => c_endExpr s1 hs6) ?_ (by simp)
      rintro r w17 sl3 fs3 f3 p3 st3 wd3 ts3 t3 h33 h43 b3' ⟨hf0, he1, he2, rfl, rfl, u, hu, rfl, hx⟩ H17
      have ear : f3.ar.1 = f.ar.1 := by have := congrArg (fun x : FX => x.ar.1) he2; exact this
      refine ⟨u.k, u.lo.toNat, u.hi.toNat, u.s, rfl, ?_⟩
      rw [← hf0, ← ear]
      refine ⟨H17.ldF 1 rfl h43 1, ?_⟩
      have hb1 : (f3.col 1).2.length ≤ 1000000 := by
        have e : f3.x.ar.2.length = f3.ar.2.length := (fx_len f3).1
        rw [he2] at e
        have : f.x.ar.2.length ≤ 999999 := hs.ar
        show f3.ar.2.length ≤ _
        rw [← e]; show f.x.ar.2.length ≤ _; omega
      exact push_k (bs := [b3]) (K := fun w5 => regex_reader_feed.S1T (at0 rb) w5 (StP w own ts rb (FedQ t ⟨fs.map FM.x, f.x, st3, wd3⟩))) H17 4 rfl h43 1 (by omega) (by omega) u hb1 rfl (fun s' w5 H5 => fin H5 h33 h43 b3' t3 he1 he2 hu hx) (by simp)
  · refine H2.locg (bs := [b3]) (fun w43 H43 => ⟨sl, H43.ld 0 0, ?_⟩) (by simp)
    have H43 : SF (· ∈ own) w w43 rb sl st wd fs f [.g b3] ts := H43
    have hsn := sf_n H43
    rcases nil_snoc fs with rfl | ⟨fs0, g, rfl⟩
    · refine sel_false (decide_eq_false (by rw [hsn]; simp)) ?_
      refine sf_stp H43 h3 h4 base (fun _ h => h) ⟨z, .inl ⟨?_, rfl⟩⟩
      rw [fe, if_neg k42, if_neg k38, if_neg k124, if_neg k44, if_pos hk]
      rfl
    · refine sel_true (decide_eq_true (by rw [hsn]; simp; omega)) (optP_some ⟨f.ar.1, H43.ldF 1 rfl h4 1, ?_⟩)
      refine H43.csS (bs := [b3]) h3 h4 (fun own1 s1 => c_endExpr s1 hs6) ?_ (by simp)
      rintro r w44 sl3 fs3 f3 p3 st3 wd3 ts3 t3 h33 h43 b3' ⟨hf0, he1, he2, rfl, rfl, u, hu, rfl, hx⟩ H44
      have ear : f3.ar.1 = f.ar.1 := by have := congrArg (fun x : FX => x.ar.1) he2; exact this
      refine ⟨u.k, u.lo.toNat, u.hi.toNat, u.s, rfl, ?_⟩
      rw [← hf0, ← ear]
      refine ⟨H44.ldF 1 rfl h43 1, H44.nwrow (e := ty_regex_Regex) (sz := 4) (n := 1) (cs := u.c) rfl (by decide) fun w45 H45 => ⟨H45.ldF 1 rfl h43 1, ?_⟩⟩
      have hfs3 : ∃ fs1 g1, fs3 = fs1 ++ [g1] ∧ fs1.map FM.x = fs0.map FM.x ∧ g1.x = g.x := by
        rcases nil_snoc fs3 with rfl | ⟨fs1, g1, rfl⟩
        · simp at he1
        · refine ⟨fs1, g1, rfl, ?_⟩
          rw [List.map_append, List.map_append] at he1
          have := List.append_inj' he1 rfl
          exact ⟨this.1, by simpa using this.2⟩
      obtain ⟨fs1, g1, rfl, hfs, hg1⟩ := hfs3
      have hrow : (((fs1 ++ [g1]) ++ [f3]).flatMap FM.rows)[(fs1 ++ [g1]).length * 4 + 0]? = some (f3.ar.1, f3.ar.2.flatMap Rt.c) := rows_get (fs1 ++ [g1]) f3 0 _ rfl
      have hb1 : f3.ar.2.length ≤ 999999 := by
        have e : f3.x.ar.2.length = f3.ar.2.length := (fx_len f3).1
        rw [he2] at e
        have : f.x.ar.2.length ≤ 999999 := hs.ar
        rw [← e]; exact this
      have nr : f3.ar.1.n = f3.ar.2.length := by
        have hp : (En.rows (((fs1 ++ [g1]) ++ [f3]).flatMap FM.rows)).P w45 := H45.get 2
        exact Rt.rows_n (hp.1 _ (List.mem_of_getElem? hrow)).rdn
      refine H45.apRow (bs := [b3]) 2 ((fs1 ++ [g1]).length * 4 + 0) (src := ⟨some (at0 w44.heap.size), 1, 1⟩) (news := u.c) rfl hrow (OwnRow.rdn (H45.get 4)) (by simp [Value.oneCell', Rt.c]) (by show (f3.ar.1.n + 1) * 40 ≤ _; omega) (fun s' w46 H46 hn' hnone => ?_) (by simp)
      have hjl : (fs1 ++ [g1]).length * 4 + 0 < (((fs1 ++ [g1]) ++ [f3]).flatMap FM.rows).length := by rw [rows_len]; simp
      have hnew : ∀ b ∈ blkL s', b ∈ own ∨ w.heap.size ≤ b := fun b hb => (H46.new (.rows ((((fs1 ++ [g1]) ++ [f3]).flatMap FM.rows).set ((fs1 ++ [g1]).length * 4 + 0) (s', f3.ar.2.flatMap Rt.c ++ u.c))) (by simp) b (mem_nub.2 (List.mem_flatMap.2 ⟨_, List.mem_of_getElem? (List.getElem?_set_self hjl), hb⟩))).symm
      have H47 := H46.giveRow 2 ((fs1 ++ [g1]).length * 4 + 0) rfl (List.getElem?_set_self hjl)
      have ec : f3.ar.2.flatMap Rt.c ++ u.c = (f3.ar.2 ++ [u]).flatMap Rt.c := by simp
      rw [ec] at H47
      have H48 := H47.node 0 3 0 0 (s := s') (ks := f3.ar.2 ++ [u]) rfl (List.mem_append_right _ (List.mem_singleton.2 rfl)) (fun v hv => by
        rcases List.mem_append.1 hv with hv | hv
        · exact h33 f3 (by simp) v (col_ts f3 1 hv)
        · simp at hv; subst hv; exact hu)
      have er : (((((fs1 ++ [g1]) ++ [f3]).flatMap FM.rows).set ((fs1 ++ [g1]).length * 4 + 0) (s', (f3.ar.2 ++ [u]).flatMap Rt.c)).set ((fs1 ++ [g1]).length * 4 + 0) (⟨none, 0, 0⟩, [])) = (fs1 ++ [g1]).flatMap FM.rows ++ f3.rows.set 0 (⟨none, 0, 0⟩, []) := by
        rw [List.set_set]
        exact rows_set (fs1 ++ [g1]) f3 0 _ (by omega)
      have H49 : LH (· ∈ own) w w46 (SL rb sl3 st3 wd3 (((fs1 ++ [g1]) ++ [f3]).flatMap FM.c) ((fs1 ++ [g1]).flatMap FM.rows ++ f3.rows.set 0 (⟨none, 0, 0⟩, [])) ++ [.g b3]) [.trees (ts3 ++ [.mk 3 0 0 s' (f3.ar.2 ++ [u])])] := by
        rw [← er]
        exact H48.take 4
      have H50 := rows_drop H49 2 rfl
      have hk3 : f3.k = f.k := by have := congrArg FX.k he2; exact this
      refine close (s' := z) (.mk 3 0 0 s' (f3.ar.2 ++ [u])) H50 (fun x hx v hv => List.mem_append_left _ (h33 x (List.mem_append_left _ hx) v hv)) h43 ?_ (by simp) (.inr (by simp [Rt.l])) ?_ (fun v hv => List.mem_append_left _ (t3 v hv)) ?_
      · have := congrArg List.length hfs
        simp at this hl'
        omega
      · intro b hb
        obtain ⟨v, hv, hbv⟩ := Rt.fps_iff.1 hb
        rcases List.mem_append.1 hv with hv | hv
        · exact b3' b (Rt.fps_iff.2 ⟨v, hv, hbv⟩)
        · simp at hv
          rw [hv] at hbv
          rcases Rt.fp_parts.1 hbv with hbv | hbv
          · exact .inr (hnew b (rdn_own (e := ty_regex_Regex) hbv)).symm
          · obtain ⟨t', ht', hb'⟩ := Rt.fps_iff.1 hbv
            have ht' : t' ∈ f3.ar.2 ++ [u] := ht'
            refine b3' b (Rt.fps_iff.2 ⟨t', ?_, hb'⟩)
            rcases List.mem_append.1 ht' with ht' | ht'
            · exact h33 f3 (by simp) t' (col_ts f3 1 ht')
            · simp at ht'; subst ht'; exact hu
      · rw [fe, if_neg k42, if_neg k38, if_neg k124, if_neg k44, if_pos hk]
        refine (if_neg (by simp)).trans ?_
        rw [List.map_append]
        refine (closeX_snoc _ _ _ _ _ _).trans ?_
        have e2 : Rt.rxs f3.ar.2 = f.x.ar.2 := by have := congrArg (fun x : FX => x.ar.2) he2; exact this
        rw [hfs, hg1, hk3]
        show _ = some (SX.mk _ (atomX g.x (clR f.k (Rt.rxs (f3.ar.2 ++ [u])))) 3 wd3)
        rw [rxs_app, e2]
        show _ = some (SX.mk _ (atomX g.x (clR f.k (f.x.ar.2 ++ [u.rx]))) 3 wd3)
        rw [hx]
        rfl
  · refine ⟨sl, H2.ld 0 0, ?_⟩
    have hsn := sf_n H2
    rcases nil_snoc fs with rfl | ⟨fs0, g, rfl⟩
    · have e : (((sl.n : Nat) : Int) == 1) = true := by rw [hsn]; rfl
      rw [e]
      refine sf_stp H2 h3 h4 base (fun _ h => h) ⟨z, .inr ⟨?_, rfl⟩⟩
      rw [fe, if_neg k42, if_neg k38, if_neg k124, if_neg k44, if_neg k41, if_pos hk]
      rfl
    · have e : (((sl.n : Nat) : Int) == 1) = false := by rw [hsn]; simp; omega
      rw [e]
      refine sf_stp H2 h3 h4 base (fun _ h => h) ⟨z, .inl ⟨?_, rfl⟩⟩
      rw [fe, if_neg k42, if_neg k38, if_neg k124, if_neg k44, if_neg k41, if_pos hk]
      exact if_neg (by simp)
  · refine H2.csS (bs := [b3]) h3 h4 (fun own1 s1 => as_stp (c_endItem s1 hs6.n' hs6.ca)) ?_ (by simp)
    rintro _ w3 sl3 fs3 f3 p3 st3 wd3 ts3 t3 h33 h43 b3' ⟨rfl, he0, he1, he2, rfl, rfl⟩ H3
    refine ⟨rfl, item H3 h33 h43 b3' t3 ?_ ?_ ?_⟩
    · have := congrArg List.length he1
      simp at this
      omega
    · have e5 : f3.n = 0 := by have := congrArg FX.n he2; exact this
      omega
    · rw [fe, if_neg k42, if_neg k38, if_neg k124, if_neg k44, if_neg k41, if_neg k36, he1, he2]
end Go.Proofs.YtknlbofiicflgaaGreat

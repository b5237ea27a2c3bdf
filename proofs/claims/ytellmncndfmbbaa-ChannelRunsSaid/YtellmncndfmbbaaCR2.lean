/- The reference model of package channel: find, Valid, In. -/
import Derived.Test.YtellmncndfmbbaaCR
namespace Go.Proofs.Ytellmncndfmbbaa
open Go Go.W
namespace Run
def findI (held : List (Int × Msg)) (q : Int) : Int := match held.findIdx? (fun p => p.1 == q) with | some j => (j : Int) | none => -1
theorem rfind_any {w : World} {rb : Nat} {r : RS} {own : List Nat} (h : RefRep w rb r own) (hl : r.held.length ≤ 1000) (q : Int) :
    Calls Try.prog n_enthymemeref38_End_find #[.pointer (some (at0 rb)), .int .i64 q] w fun res w' => res = .returned (.int .i64 (findI r.held q)) ∧ w = w' := by
  obtain ⟨ss, hs, sls, hcs, rfl, b1, b2, b3, b4, b5⟩ := h
  have hlen : hcs.length = r.held.length := b5.length
  have hn : hs.n = r.held.length := by have := b4.len; rw [hflat_len] at this; omega
  refine enthymemeref38_End_find.ok _ q w _ ?_
  unfold enthymemeref38_End_find.S0 enthymemeref38_End_find.S1
  have main : ∀ (n i : Nat), i + n = r.held.length → (∀ j, j < i → ∀ p, r.held[j]? = some p → p.1 ≠ q) → enthymemeref38_End_find.L2 (at0 rb) q (i : Int) w fun res w' => res = .returned (.int .i64 (findI r.held q)) ∧ w = w' := by
    intro n
    induction n with
    | zero =>
      intro i hi hno
      refine enthymemeref38_End_find.L2_step _ _ _ _ _ ?_
      unfold enthymemeref38_End_find.S3 enthymemeref38_End_find.S7
      refine ⟨hs, cellAt (p := at0 rb) b1 rfl rfl, sel_false (by rw [hn]; simp; omega) ⟨?_, rfl⟩⟩
      unfold findI
      have : r.held.findIdx? (fun p => p.1 == q) = none := by
        rw [List.findIdx?_eq_none_iff]
        intro p hp
        obtain ⟨j, hj⟩ := List.mem_iff_getElem?.1 hp
        have := hno j (by have := (List.getElem?_eq_some_iff.1 hj).1; omega) p hj
        simpa using this
      rw [this]
    | succ n ih =>
      intro i hi hno
      have hhi : r.held[i]? = some r.held[i] := List.getElem?_eq_getElem (by omega)
      obtain ⟨c, hc, hc1, hc2⟩ := b5.get' hhi
      refine enthymemeref38_End_find.L2_step _ _ _ _ _ ?_
      unfold enthymemeref38_End_find.S3 enthymemeref38_End_find.S4
      refine ⟨hs, cellAt (p := at0 rb) b1 rfl rfl, sel_true (by rw [hn]; simp; omega) ⟨hs, cellAt (p := at0 rb) b1 rfl rfl, by omega, by rw [hn]; omega, ?_⟩⟩
      refine b4.row.optP (i := i * 2 + 0) (v := .int .i64 c.1) (by rw [hflat_get (by omega) hc]; rfl) fun pa _ hcell => ⟨c.1, ?_, sel_intro (fun he => ?_) (fun he => ?_)⟩
      · rw [add_add, Int.toNat_natCast]
        exact hcell _ _ (by rw [hflat_get (by omega) hc]; rfl)
      · unfold enthymemeref38_End_find.S5
        refine ⟨?_, rfl⟩
        have he' : c.1 = q := by simpa using he
        unfold findI
        have : r.held.findIdx? (fun p => p.1 == q) = some i := by
          rw [List.findIdx?_eq_some_iff_getElem]
          refine ⟨by omega, by rw [← hc1]; simpa using he', fun j hj => ?_⟩
          have := hno j hj r.held[j] (List.getElem?_eq_getElem (by omega))
          simpa using this
        rw [this]
      · unfold enthymemeref38_End_find.S6
        rw [show IntKind.wrap .i64 ((i : Int) + 1) = ((i + 1 : Nat) : Int) from by rw [IntWalk.i64_in _ (by omega)]; omega]
        refine ih (i + 1) (by omega) fun j hj p hp => ?_
        by_cases e : j = i
        · subst e
          rw [hhi] at hp
          cases hp
          rw [← hc1]
          simpa using he
        · exact hno j (by omega) p hp
  exact main r.held.length 0 (by omega) fun j hj => by omega
theorem findI_some {held : List (Int × Msg)} {q : Int} (h : (mgetB held q).isSome) : ∃ (j : Nat) (b : Msg), findI held q = j ∧ held[j]? = some (q, b) ∧ mgetB held q = some b ∧ held.eraseP (fun p => p.1 == q) = held.take j ++ held.drop (j + 1) := by
  unfold mgetB at h
  cases e : held.find? fun p => p.1 == q with
  | none => rw [e] at h; simp at h
  | some p =>
    have h2 := List.find?_some e
    have hk : p.1 = q := by simpa using h2
    cases ei : held.findIdx? (fun p => p.1 == q) with
    | none =>
      rw [List.findIdx?_eq_none_iff] at ei
      have := ei p (List.mem_of_find?_eq_some e)
      rw [this] at h2; cases h2
    | some j =>
      have hg : held[j]? = some p := by
        obtain ⟨hlt, hpj, hmin⟩ := List.findIdx?_eq_some_iff_getElem.1 ei
        rw [List.find?_eq_some_iff_getElem] at e
        obtain ⟨_, i, hi, hpi, hmi⟩ := e
        have : i = j := by
          rcases Nat.lt_trichotomy i j with g | g | g
          · have := hmin i g; rw [hpi] at this; exact absurd h2 this
          · exact g
          · have := hmi j g; rw [hpj] at this; cases this
        subst this
        rw [List.getElem?_eq_getElem hlt, hpi]
      refine ⟨j, p.2, by unfold findI; rw [ei], by rw [hg, ← hk], by unfold mgetB; rw [e]; rfl, ?_⟩
      rw [List.eraseP_eq_eraseIdx, ei]
      simp only
      rw [List.eraseIdx_eq_take_drop_succ]
theorem findI_none {held : List (Int × Msg)} {q : Int} (h : (mgetB held q).isSome = false) : findI held q = -1 := by
  unfold findI
  have : held.findIdx? (fun p => p.1 == q) = none := by
    rw [List.findIdx?_eq_none_iff]
    intro p hp
    unfold mgetB at h
    cases e : held.find? fun p => p.1 == q with
    | some p => rw [e] at h; simp at h
    | none => rw [List.find?_eq_none] at e; simpa using e p hp
  rw [this]

theorem rvalid_any (q a : Int) (s : Sl) (b : Msg) (w : World) (hb : Bytes w s b) :
    Calls Try.prog n_enthymemeref38_Valid #[.agg #[.int .i64 q, .int .i64 a, s.v]] w fun r w' => r = .returned (.bool (validB q a b)) ∧ Fr0 w w' := by
  refine enthymemeref38_Valid.ok q a s w _ ?_
  unfold enthymemeref38_Valid.S0 enthymemeref38_Valid.S1
  intro w1
  have f1 : Fr0 w w1 := Fr.alloc _ _ _
  have c1 : w1.heap[(Addr.mk w.heap.size 0 none).block]? = _ := heap_new w _
  have hbn := hb.1
  refine ⟨q, cellAt (i := 0) c1 rfl rfl, sel_intro (fun h1 => ⟨a, cellAt (i := 1) c1 rfl rfl, sel_intro (fun h2 => ⟨s, cellAt (i := 2) c1 rfl rfl, sel_intro (fun h3 => ⟨q, cellAt (i := 0) c1 rfl rfl, sel_intro (fun h4 => ?_) (fun h4 => ⟨s, cellAt (i := 2) c1 rfl rfl, ?_⟩)⟩) (fun h3 => ?_)⟩) (fun h2 => ?_)⟩) (fun h1 => ?_)⟩
  all_goals
    refine ⟨?_, f1⟩
    congr 2
    rw [hbn] at *
    unfold validB
    generalize b.length = L at *
    rw [Bool.eq_iff_iff]
    simp at *
    omega

theorem all2_take {α β : Type} {R : α → β → Prop} : ∀ (k : Nat) {l : List α} {m : List β}, All2 R l m → All2 R (l.take k) (m.take k)
  | 0, _, _, _ => by simp [All2]
  | _ + 1, [], [], _ => by simp [All2]
  | k + 1, _ :: _, _ :: _, h => ⟨h.1, all2_take k h.2⟩
theorem take_flat (k : Nat) : ∀ (cs : List (Int × Sl)), (cs.flatMap hCells).take (k * 2) = (cs.take k).flatMap hCells := by
  induction k with
  | zero => intro cs; simp
  | succ k ih =>
    intro cs
    cases cs with
    | nil => simp
    | cons c cs =>
      rw [List.flatMap_cons, List.take_succ_cons, List.flatMap_cons, ← ih cs]
      simp [hCells, show (k + 1) * 2 = k * 2 + 1 + 1 by omega]
theorem drop_flat (k : Nat) : ∀ (cs : List (Int × Sl)), (cs.flatMap hCells).drop (k * 2) = (cs.drop k).flatMap hCells := by
  induction k with
  | zero => intro cs; simp
  | succ k ih =>
    intro cs
    cases cs with
    | nil => simp
    | cons c cs =>
      rw [List.flatMap_cons, List.drop_succ_cons, ← ih cs]
      simp [hCells, show (k + 1) * 2 = k * 2 + 1 + 1 by omega]
/-- parts of a row -/
theorem row_take {w : World} {T : TypeId} {s : Sl} {vs : List Value} (h : Row w T s vs) (hv : vs ≠ []) (j c : Nat) (k : Nat) : Row w T ⟨s.a, j, c⟩ (vs.take k) := by
  rcases h with ⟨_, _, _, h⟩ | ⟨b, o, cs, f, ha, hb, hc⟩
  · exact absurd h hv
  · refine .inr ⟨b, o, cs, f, ha, hb, fun i v hi => ?_⟩
    rw [List.getElem?_take] at hi
    split at hi
    · exact hc i v hi
    · cases hi
theorem row_drop {w : World} {T : TypeId} {s : Sl} {vs : List Value} (h : Row w T s vs) (hv : vs ≠ []) (l k n c : Nat) (hl : s.c = l → vs.length ≤ l * k) : Row w T ⟨if s.c = l then s.a else s.a.map (·.add (l * k)), n, c⟩ (vs.drop (l * k)) := by
  rcases h with ⟨_, _, _, h⟩ | ⟨b, o, cs, f, ha, hb, hc⟩
  · exact absurd h hv
  · by_cases hcl : s.c = l
    · exact .inr ⟨b, o, cs, f, by simp [hcl, ha], hb, fun i v hi => by rw [List.drop_eq_nil_of_le (hl hcl)] at hi; cases hi⟩
    · refine .inr ⟨b, o + l * k, cs, f, ?_, hb, fun i v hi => ?_⟩
      · simp only [hcl, if_false, ha, Option.map_some]
        unfold Addr.add
        by_cases h0 : l * k = 0
        · simp [h0]
        · simp [h0]
      · rw [Nat.add_assoc]
        exact hc (l * k + i) v (by simpa using hi)

theorem Sl.v_inj {a b : Sl} (h : a.v = b.v) : a = b := by
  cases a; cases b; cases h; rfl
theorem cells25 {x1 x3 x4 x6 y1 y3 y4 y6 : Value} {s h s' h' : Sl} (e : #[x1, s.v, x3, x4, h.v, x6] = #[y1, s'.v, y3, y4, h'.v, y6]) : s = s' ∧ h = h' := by
  injection e with e; injection e with _ e; injection e with e1 e; injection e with _ e; injection e with _ e; injection e with e2 _
  exact ⟨Sl.v_inj e1, Sl.v_inj e2⟩
structure NowR (w : World) (rb : Nat) (own : List Nat) (w' : World) (r : RS) (own' : List Nat) : Prop where
  rep : RefRep w' rb r own'
  fr : Fr (· ∈ own) w w'
  own : ∀ x ∈ own', x ∈ own ∨ w.heap.size ≤ x
theorem NowR.fr0 {w w' w'' : World} {rb : Nat} {own own' : List Nat} {r : RS} (h : NowR w rb own w' r own') (hf : Fr0 w' w'') : NowR w rb own w'' r own' :=
  ⟨h.rep.fr0 hf, h.fr.trans hf fun _ _ h => h.elim, h.own⟩
def RInPost (w : World) (rb : Nat) (own : List Nat) (res : RS × List Msg) : Post := fun r w' =>
  ∃ (s : Sl) (own' : List Nat), r = .returned s.v ∧ Msgs w' s res.2 ∧ NowR w rb own w' res.1 own' ∧ ∀ b ∈ blkL s, w.heap.size ≤ b ∧ b ∉ own'
theorem rin_early {w w' : World} {rb : Nat} {own own' : List Nat} {r : RS} (h : NowR w rb own w' r own') : RInPost w rb own (r, []) (.returned (.slice none 0 0)) w' :=
  ⟨⟨none, 0, 0⟩, own', rfl, ⟨[], rfl, Row.nil _ _, trivial⟩, h, by simp [blkL]⟩

theorem rin_loop {w : World} {rb : Nat} {own : List Nat} (hown : rb ∈ own) : ∀ (n : Nat) (r : RS) (out : List Msg), r.held.length < n → r.held.length ≤ 1000 → r.d + r.held.length ≤ 100000 → out.length + r.held.length ≤ 1000 →
    ∀ (s : Sl) (sls : List Sl) (w' : World) (own' : List Nat), NowR w rb own w' r own' → OwnRow w' ty_sl_uint8 1 s (sls.map Sl.v) → All2 (Bytes w') sls out → (∀ b ∈ blkL s, w.heap.size ≤ b ∧ b ∉ own') →
      enthymemeref38_End_In.L12 (at0 rb) s w' (RInPost w rb own (RS.drain n r out)) := by
  intro n
  induction n with
  | zero => intro r out hlt; omega
  | succ n ih =>
    intro r out hlt hh hd ho s sls w' own' hN hO hA hbl
    have hsn : s.n = out.length := by have := hO.len; simp at this; rw [← hA.length, this]
    have hrep := hN.rep
    obtain ⟨ss, hs, sl0, hcs, hown', b1, b2, b3, b4, b5⟩ := id hrep
    have ew : IntKind.wrap .i64 ((r.d : Int) + 1) = (r.d : Int) + 1 := IntWalk.i64_in _ (by omega)
    refine enthymemeref38_End_In.L12_step _ _ _ _ ?_
    unfold enthymemeref38_End_In.S13
    refine ⟨r.d, cellAt (p := at0 rb) b1 rfl rfl, ?_⟩
    rw [ew]
    refine (rfind_any hrep hh _).mono ?_
    rintro res w1 ⟨rfl, rfl⟩
    refine ⟨_, rfl, ?_⟩
    unfold RS.drain
    cases hm : (mgetB r.held ((r.d : Int) + 1)).isSome with
    | false =>
      have hno : mgetB r.held ((r.d : Int) + 1) = none := by simpa using hm
      rw [findI_none hm, hno]
      refine sel_false (by decide) ?_
      unfold enthymemeref38_End_In.S20
      exact ⟨s, own', rfl, ⟨sls, hsn, hO.row, hA⟩, hN, hbl⟩
    | true =>
      obtain ⟨j, b, hf, hg, hmb, her⟩ := findI_some hm
      rw [hmb]
      simp only
      have hjl : j < r.held.length := (List.getElem?_eq_some_iff.1 hg).1
      rw [hf]
      refine sel_true (by simp) ?_
      unfold enthymemeref38_End_In.S14
      refine ⟨r.d, cellAt (p := at0 rb) b1 rfl rfl, ?_⟩
      rw [ew]
      refine (rfind_any hrep hh _).mono ?_
      rintro res w1 ⟨rfl, rfl⟩
      refine ⟨_, rfl, ?_⟩
      rw [hf]
      unfold enthymemeref38_End_In.S15
      have hlen : hcs.length = r.held.length := b5.length
      have hn : hs.n = r.held.length := by have := b4.len; rw [hflat_len] at this; omega
      obtain ⟨c, hc, hc1, hc2⟩ := b5.get' hg
      simp only at hc1 hc2
      refine ⟨hs, cellAt (p := at0 rb) b1 rfl rfl, by omega, by rw [hn]; omega, b4.row.optP (i := j * 2 + 1) (v := c.2.v) (by rw [hflat_get (by omega) hc]; rfl) fun pa _ hcell => ⟨c.2, ?_, ?_⟩⟩
      · rw [add_add, Int.toNat_natCast]
        exact hcell _ _ (by rw [hflat_get (by omega) hc]; rfl)
      intro wa
      have fa : Fr0 w' wa := Fr.alloc _ _ _
      have oa := hO.fr fa fun _ _ h => h
      obtain ⟨s2, wb, hrun, ob, n2, fb, bl2, _⟩ := append_own (ty := ty_sl_sl_uint8) el_msgs oa (Row.one w' ty_sl_uint8 [c.2.v]) rfl (by simp [Value.oneCell']) (by rw [hsn]; simp; omega)
      refine ⟨s2, wb, hrun, ?_⟩
      have nbb := row_noTyp oa.row (T' := ty_uint8) (by decide)
      have ca := fa.at b1 id
      have cb := fb.at ca (fun hm => (hbl _ hm).2 (by rw [hown']; simp))
      have ha := b4.fr fa fun _ _ h => h
      have hb := ha.fr fb (row_dis ha.row oa.row (by decide))
      have sa := b2.fr fa fun _ _ h => h
      have sb := sa.fr fb (fun x hx hm => (hbl _ hm).2 (by rw [hown']; simp [hx]))
      have hvs : hcs.flatMap hCells ≠ [] := fun e => by have := congrArg List.length e; rw [hflat_len] at this; simp at this; omega
      have hnc : hs.n ≤ hs.c := by
        rcases b4.cases with ⟨rfl, _⟩ | ⟨g, cur, _, _, hnc, _⟩
        · simp
        · exact hnc
      unfold enthymemeref38_End_In.S16 enthymemeref38_End_In.S17
      refine ⟨hs, cellAt (p := at0 rb) cb rfl rfl, by omega, by omega, ?_⟩
      rw [slice_a0, Int.toNat_natCast]
      obtain ⟨lf, wc, hrunc, oc, nc, fc, blc, _⟩ := append_own (ty := ty_sl_enthymemeref38_Held) (src := ⟨hs.a, j - 0, hs.c - 0⟩) el_held (OwnRow.nil wb ty_enthymemeref38_Held 2) (row_take hb.row hvs (j - 0) (hs.c - 0) (j * 2)) (by rw [List.length_take, hflat_len]; simp; omega) (fun u hu => hflat_one hcs u (List.mem_of_mem_take hu)) (by simp; omega)
      refine ⟨lf, wc, hrunc, ?_⟩
      have fc0 : Fr0 wb wc := fc.mono fun x _ hx => by simp [blkL] at hx
      have cc := fc0.at cb id
      have hc' := hb.fr fc0 fun _ _ h => h
      unfold enthymemeref38_End_In.S18
      rw [show IntKind.wrap .i64 ((j : Int) + 1) = ((j + 1 : Nat) : Int) from by rw [IntWalk.i64_in _ (by omega)]; omega, Int.toNat_natCast]
      rw [List.nil_append] at oc
      obtain ⟨h2, wd, hrund, od, nd, fd, bld, _⟩ := append_own (ty := ty_sl_enthymemeref38_Held) (src := ⟨if hs.c = j + 1 then hs.a else hs.a.map (·.add ((j + 1) * 2)), hs.n - (j + 1), hs.c - (j + 1)⟩) el_held oc (row_drop hc'.row hvs (j + 1) 2 _ _ (fun e => by rw [hflat_len]; omega)) (by rw [List.length_drop, hflat_len]; simp; omega) (fun u hu => hflat_one hcs u (List.mem_of_mem_drop hu)) (by rw [nc]; simp; omega)
      have lfn : ∀ x ∈ blkL lf, wb.heap.size ≤ x := fun x hx => by
        rcases blc x hx with g | g
        · simp [blkL] at g
        · exact g
      have szab := fa.size
      have szb := fb.size
      have szc := fc0.size
      have rbl := lt_of_heap b1
      have cd := fd.at cc (fun hm => by have := lfn _ hm; omega)
      refine ⟨hs, cellAt (p := at0 rb) cc rfl rfl, by omega, by rw [hn]; omega, h2, wd, hrund, by rw [cellAt (p := at0 rb) cd rfl rfl]; rfl, frozenAt (p := at0 rb) cd, ?_⟩
      intro we
      have ce : we.heap[rb]? = some (.cells #[.int .i64 r.win, ss.v, .int .i64 r.a, .int .i64 r.d, h2.v, .bool r.ow] ty_enthymemeref38_End (0, 0)) := setAt (p := at0 rb) (i := 4) (v := h2.v) cd rfl
      have fe : Fr (· = rb) wd we := Fr.set _ _ _ rfl
      unfold enthymemeref38_End_In.S19
      refine ⟨r.d, cellAt (p := at0 rb) ce rfl rfl, by rw [cellAt (p := at0 rb) ce rfl rfl]; rfl, frozenAt (p := at0 rb) ce, ?_⟩
      rw [ew]
      intro wf
      have cf : wf.heap[rb]? = some (.cells #[.int .i64 r.win, ss.v, .int .i64 r.a, .int .i64 ((r.d : Int) + 1), h2.v, .bool r.ow] ty_enthymemeref38_End (0, 0)) := setAt (p := at0 rb) (i := 3) (v := .int .i64 ((r.d : Int) + 1)) ce rfl
      have ff : Fr (· = rb) wd wf := fe.trans (Fr.set (M := (· = rb)) we _ _ rfl) fun _ _ h => h
      clear_value wf we
      have nbd := row_noTyp oc.row (T' := ty_uint8) (by decide)
      have nbf : ∀ x, x = rb → ∀ cs f, wd.heap[x]? ≠ some (.cells cs ty_uint8 f) := fun x e cs f => by rw [e]; exact cells_typ cd (by decide)
      have by' : ∀ t m, Bytes w' t m → Bytes wf t m := fun t m g => ((((g.fr0 fa).fr fb nbb).fr0 fc0).fr fd nbd).fr ff nbf
      have hsz := hN.fr.size
      -- the rows
      have sf : OwnRow wf ty_sl_uint8 1 ss (sl0.map Sl.v) := by
        have g1 := sb.fr fc0 fun _ _ h => h
        have g2 := g1.fr fd (row_dis g1.row oc.row (by decide))
        exact g2.fr ff (fun x hx e => row_ne g2.row cd (by decide) (by rw [← e]; exact hx))
      have of' : OwnRow wf ty_sl_uint8 1 s2 ((sls ++ [c.2]).map Sl.v) := by
        have g0 : OwnRow wb ty_sl_uint8 1 s2 ((sls ++ [c.2]).map Sl.v) := by simpa using ob
        have g1 := g0.fr fc0 fun _ _ h => h
        have g2 := g1.fr fd (row_dis g1.row oc.row (by decide))
        exact g2.fr ff (fun x hx e => row_ne g2.row cd (by decide) (by rw [← e]; exact hx))
      have hf' : OwnRow wf ty_enthymemeref38_Held 2 h2 ((hcs.take j ++ hcs.drop (j + 1)).flatMap hCells) := by
        have g0 : OwnRow wd ty_enthymemeref38_Held 2 h2 ((hcs.take j ++ hcs.drop (j + 1)).flatMap hCells) := by
          rw [List.flatMap_append, ← take_flat, ← drop_flat]; exact od
        exact g0.fr ff (fun x hx e => row_ne g0.row cd (by decide) (by rw [← e]; exact hx))
      have h2n : ∀ x ∈ blkL h2, w'.heap.size ≤ x := fun x hx => by
        rcases bld x hx with g | g
        · have := lfn x g; omega
        · omega
      have F1 : Fr (· ∈ own) w wb := (hN.fr.trans fa fun _ _ h => h.elim).trans fb fun x hx hm => by have := (hbl x hm).1; omega
      have F2 : Fr (· ∈ own) w wd := (F1.trans fc0 fun _ _ h => h.elim).trans fd fun x hx hm => by have := lfn x hm; omega
      have F3 : Fr (· ∈ own) w wf := F2.trans ff fun x _ e => by rw [e]; exact hown
      have s2o : ∀ x ∈ blkL s2, w.heap.size ≤ x ∧ x ∉ rb :: (blkL ss ++ blkL h2) := fun x hx => by
        have hlt' : x ∈ blkL s ∨ wa.heap.size ≤ x := bl2 x hx
        refine ⟨by rcases hlt' with g | g
                   · exact (hbl x g).1
                   · omega, fun hm => ?_⟩
        simp only [List.mem_cons, List.mem_append] at hm
        rcases hm with e | e | e
        · rcases hlt' with g | g
          · exact (hbl x g).2 (by rw [hown', e]; simp)
          · omega
        · rcases hlt' with g | g
          · exact (hbl x g).2 (by rw [hown']; simp [e])
          · have := b2.lt x e; omega
        · exact row_dis of'.row hf'.row (by decide) x hx e
      have hel := len_erase hmb
      refine ih { r with d := r.d + 1, held := r.held.eraseP fun p => p.1 == (r.d : Int) + 1 } (out ++ [b]) (by simp only; omega) (by simp only; omega) (by simp only; omega) (by simp only [List.length_append, List.length_cons, List.length_nil]; omega) s2 (sls ++ [c.2]) wf (rb :: (blkL ss ++ blkL h2)) ⟨⟨ss, h2, sl0, hcs.take j ++ hcs.drop (j + 1), rfl, ?_, sf, b3.mono fun a _ b _ h => by' _ _ h, hf', ?_⟩, F3, fun x hx => ?_⟩ of' ((hA.mono fun a _ b _ h => by' _ _ h).append ⟨by' _ _ hc2, trivial⟩) s2o
      · simp only; rw [cf]; simp
      · simp only
        rw [her]
        exact ((all2_take j b5).append (b5.drop (j + 1))).mono fun a _ b _ h => ⟨h.1, by' _ _ h.2⟩
      · simp only [List.mem_cons, List.mem_append] at hx
        rcases hx with e | e | e
        · exact .inl (by rw [e]; exact hown)
        · exact hN.own x (by rw [hown']; simp [e])
        · exact .inr (by have := h2n x e; omega)

/-- In -/
theorem rin_any {w : World} {rb : Nat} {r : RS} {own : List Nat} {q a : Int} {s : Sl} {b : Msg} {i : Nat} (h : RefRep w rb r own) (ok : r.Ok i) (hi : i ≤ 100) (hb : Bytes w s b) :
    Calls Try.prog n_enthymemeref38_End_In #[.pointer (some (at0 rb)), .agg #[.int .i64 q, .int .i64 a, s.v]] w (RInPost w rb own (r.recv q a b)) := by
  have hS := ok.s
  have hD := ok.d
  have hA := ok.a
  have hrown : rb ∈ own := by obtain ⟨ss, hs, sls, hcs, rfl, _⟩ := h; simp
  refine enthymemeref38_End_In.ok _ q a s w _ ?_
  unfold enthymemeref38_End_In.S0
  intro w1
  have f1 : Fr0 w w1 := Fr.alloc _ _ _
  have p1 : w1.heap[w.heap.size]? = some (.cells #[.int .i64 q, .int .i64 a, s.v] ty_enthymemeref38_Packet (0, 0)) := heap_new w _
  unfold enthymemeref38_End_In.S1
  refine ⟨q, a, s, cellAt (p := at0 w.heap.size) (i := 0) p1 rfl rfl, cellAt (p := at0 w.heap.size) (i := 1) p1 rfl rfl, cellAt (p := at0 w.heap.size) (i := 2) p1 rfl rfl, (rvalid_any q a s b w1 (hb.fr0 f1)).mono ?_⟩
  rintro res w2 ⟨rfl, f2⟩
  refine ⟨_, rfl, ?_⟩
  unfold enthymemeref38_End_In.S2
  have fd : Fr0 w2 w2.drew := Fr.drew _ _
  have f12 : Fr0 w1 w2.drew := f2.trans fd fun _ _ h => h
  have f02 : Fr0 w w2.drew := f1.trans f12 fun _ _ h => h
  have n2 : NowR w rb own w2.drew r own := ⟨h.fr0 f02, f02.mono fun _ _ h => h.elim, fun x hx => .inl hx⟩
  have p2 := f12.at p1 id
  have hb2 := hb.fr0 f02
  obtain ⟨ss, hs, sls, hcs, hown', b1, b2, b3, b4, b5⟩ := id n2.rep
  have hn : ss.n = r.S.length := by have := b2.len; simp at this; rw [← b3.length, this]
  have early : validB q a b = false ∨ (r.S.length : Int) < a ∨ (r.d : Int) + 16 < q → enthymemeref38_End_In.S3 w2.drew (RInPost w rb own (r.recv q a b)) := fun he => by
    unfold enthymemeref38_End_In.S3 RS.recv
    rw [if_pos he]
    exact rin_early n2
  refine sel_intro (fun hv => early (.inl (by simpa using hv))) (fun hv => ⟨a, cellAt (p := at0 w.heap.size) (i := 1) p2 rfl rfl, ss, cellAt (p := at0 rb) b1 rfl rfl, sel_intro (fun ha => early (.inr (.inl (by rw [hn] at ha; simpa using ha)))) (fun ha => ⟨q, cellAt (p := at0 w.heap.size) (i := 0) p2 rfl rfl, r.d, cellAt (p := at0 rb) b1 rfl rfl, ?_⟩)⟩)
  rw [show IntKind.wrap .i64 ((r.d : Int) + 16) = (r.d : Int) + 16 from IntWalk.i64_in _ (by omega)]
  refine sel_intro (fun hq => early (.inr (.inr (by simpa using hq)))) (fun hq => ?_)
  have hvt : validB q a b = true := by simpa using hv
  have hne : ¬ (validB q a b = false ∨ (r.S.length : Int) < a ∨ (r.d : Int) + 16 < q) := by rw [hvt]; rw [hn] at ha; simp at ha hq ⊢; omega
  have ha0 : 0 ≤ a := by unfold validB at hvt; simp at hvt; exact hvt.2.1
  unfold RS.recv
  rw [if_neg hne]
  unfold enthymemeref38_End_In.S4
  have fd2 : Fr0 w2.drew w2.drew.drew := Fr.drew _ _
  generalize hw3 : w2.drew.drew = w3 at *
  have c3 := fd2.at b1 id
  have p3 := fd2.at p2 id
  refine ⟨r.a, cellAt (p := at0 rb) c3 rfl rfl, a, cellAt (p := at0 w.heap.size) (i := 1) p3 rfl rfl, by rw [cellAt (p := at0 rb) c3 rfl rfl]; rfl, frozenAt (p := at0 rb) c3, ?_⟩
  intro w4
  have f4 : Fr (· = rb) w3 w4 := Fr.set _ _ _ rfl
  have emax : (if (r.a : Int) < a then a else (r.a : Int)) = ((max r.a a.toNat : Nat) : Int) := by split <;> omega
  have c4 : w4.heap[rb]? = some (.cells #[.int .i64 r.win, ss.v, .int .i64 ((max r.a a.toNat : Nat) : Int), .int .i64 r.d, hs.v, .bool r.ow] ty_enthymemeref38_End (0, 0)) := by
    rw [← emax]; exact setAt (p := at0 rb) (i := 2) (v := .int .i64 (if (r.a : Int) < a then a else (r.a : Int))) c3 rfl
  have n3 := n2.fr0 fd2
  have nb4 : ∀ x, x = rb → ∀ cs f, w3.heap[x]? ≠ some (.cells cs ty_uint8 f) := fun x e cs f => by rw [e]; exact cells_typ c3 (by decide)
  have up : ∀ {wx wy : World} {rx ry : RS} {cx cy : Array Value}, NowR w rb own wx rx own → wx.heap[rb]? = some (.cells cx ty_enthymemeref38_End (0, 0)) → Fr (· = rb) wx wy → wy.heap[rb]? = some (.cells cy ty_enthymemeref38_End (0, 0)) → (∀ ss hs : Sl, cx = #[.int .i64 rx.win, ss.v, .int .i64 rx.a, .int .i64 rx.d, hs.v, .bool rx.ow] → cy = #[.int .i64 ry.win, ss.v, .int .i64 ry.a, .int .i64 ry.d, hs.v, .bool ry.ow]) → rx.S = ry.S → rx.held = ry.held → NowR w rb own wy ry own := by
    intro wx wy rx ry cx cy nx cxx f cyy hcy e1 e2
    obtain ⟨ss, hs, sls, hcs, ho, g1, g2, g3, g4, g5⟩ := nx.rep
    have nb : ∀ x, x = rb → ∀ cs f, wx.heap[x]? ≠ some (.cells cs ty_uint8 f) := fun x e cs f => by rw [e]; exact cells_typ g1 (by decide)
    have hcx : cx = #[.int .i64 rx.win, ss.v, .int .i64 rx.a, .int .i64 rx.d, hs.v, .bool rx.ow] := by
      rw [g1] at cxx
      injection cxx with cxx
      injection cxx with h1 _ _
      exact h1.symm
    refine ⟨⟨ss, hs, sls, hcs, ho, by rw [cyy, hcy ss hs hcx], g2.fr f (fun x hx e => row_ne g2.row g1 (by decide) (by rw [← e]; exact hx)), by rw [← e1]; exact g3.mono fun a _ b _ h => h.fr f nb, g4.fr f (fun x hx e => row_ne g4.row g1 (by decide) (by rw [← e]; exact hx)), by rw [← e2]; exact g5.mono fun a _ b _ h => ⟨h.1, h.2.fr f nb⟩⟩, nx.fr.trans f fun x _ e => by rw [e]; exact hrown, nx.own⟩
  have n4 : NowR w rb own w4 (r.acked a) own := up n3 c3 f4 c4 (fun ss' hs' e => by
    obtain ⟨rfl, rfl⟩ := cells25 e
    rfl) rfl rfl
  have pne : ∀ {wx : World} {cs : Array Value}, wx.heap[w.heap.size]? = some (.cells #[.int .i64 q, .int .i64 a, s.v] ty_enthymemeref38_Packet (0, 0)) → wx.heap[rb]? = some (.cells cs ty_enthymemeref38_End (0, 0)) → w.heap.size ≠ rb := fun h1 h2 => ne_typ h1 h2 (by decide)
  have p4 := f4.at p3 (pne p3 c3)
  have hb4 : Bytes w4 s b := (hb2.fr0 fd2).fr f4 nb4
  clear_value w4
  unfold enthymemeref38_End_In.S5
  refine ⟨q, cellAt (p := at0 w.heap.size) (i := 0) p4 rfl rfl, sel_intro (fun hq0 => ?_) (fun hq0 => ?_)⟩
  · rw [if_pos (by simpa using hq0)]
    unfold enthymemeref38_End_In.S6
    exact rin_early n4
  · rw [if_neg (by simpa using hq0)]
    unfold enthymemeref38_End_In.S7
    refine ⟨by rw [cellAt (p := at0 rb) c4 rfl rfl]; rfl, frozenAt (p := at0 rb) c4, ?_⟩
    intro w5
    have f5 : Fr (· = rb) w4 w5 := Fr.set _ _ _ rfl
    have c5 : w5.heap[rb]? = some (.cells #[.int .i64 r.win, ss.v, .int .i64 ((max r.a a.toNat : Nat) : Int), .int .i64 r.d, hs.v, .bool true] ty_enthymemeref38_End (0, 0)) := setAt (p := at0 rb) (i := 5) (v := .bool true) c4 rfl
    have n5 : NowR w rb own w5 ((r.acked a).owe) own := up n4 c4 f5 c5 (fun ss' hs' e => by
      obtain ⟨rfl, rfl⟩ := cells25 e
      rfl) rfl rfl
    have nb5 : ∀ x, x = rb → ∀ cs f, w4.heap[x]? ≠ some (.cells cs ty_uint8 f) := fun x e cs f => by rw [e]; exact cells_typ c4 (by decide)
    have p5 := f5.at p4 (pne p4 c4)
    have hb5 : Bytes w5 s b := hb4.fr f5 nb5
    clear_value w5
    unfold enthymemeref38_End_In.S8
    have fd5 : Fr0 w5 w5.drew := Fr.drew _ _
    have c6 := fd5.at c5 id
    have p6 := fd5.at p5 id
    have n6 := n5.fr0 fd5
    refine ⟨q, cellAt (p := at0 w.heap.size) (i := 0) p6 rfl rfl, r.d, cellAt (p := at0 rb) c6 rfl rfl, sel_intro (fun hqd => ?_) (fun hqd => ?_)⟩
    · rw [if_pos (.inl (by simpa using hqd))]
      unfold enthymemeref38_End_In.S9
      exact rin_early n6
    · refine ⟨q, cellAt (p := at0 w.heap.size) (i := 0) p6 rfl rfl, (rfind_any n6.rep (by simp [RS.owe, RS.acked]; omega) q).mono ?_⟩
      rintro res w7 ⟨rfl, rfl⟩
      refine ⟨_, rfl, cellAt (p := at0 rb) c6 rfl rfl, cellAt (p := at0 w.heap.size) (i := 0) p6 rfl rfl, ?_⟩
      show W.sel (decide (findI r.held q ≥ 0)) _ _
      cases hm : (mgetB r.held q).isSome with
      | true =>
        obtain ⟨j, _, hf, _⟩ := findI_some hm
        rw [if_pos (.inr rfl), hf]
        unfold enthymemeref38_End_In.S9
        exact sel_true (by simp) (rin_early n6)
      | false =>
        rw [findI_none hm, if_neg (by simp at hqd; simp; omega)]
        refine sel_false (by decide) ?_
        unfold enthymemeref38_End_In.S10
        have fd6 : Fr0 w5.drew w5.drew.drew := Fr.drew _ _
        have c7 := fd6.at c6 id
        have p7 := fd6.at p6 id
        have n7 := n6.fr0 fd6
        obtain ⟨ss7, hs7, sl7, hc7, ho7, g1, g2, g3, g4, g5⟩ := id n7.rep
        have ess : ss7 = ss ∧ hs7 = hs := by
          rw [c7] at g1
          injection g1 with g1
          injection g1 with g1 _ _
          exact cells25 g1.symm
        obtain ⟨rfl, rfl⟩ := ess
        have hhn : hs7.n = r.held.length := by have h1 := g4.len; have h2 := g5.length; rw [hflat_len] at h1; simp [RS.owe, RS.acked] at h2; omega
        refine ⟨hs7, cellAt (p := at0 rb) c7 rfl rfl, q, cellAt (p := at0 w.heap.size) (i := 0) p7 rfl rfl, s, cellAt (p := at0 w.heap.size) (i := 2) p7 rfl rfl, ?_⟩
        generalize hw7 : w5.drew.drew = w7 at *
        intro w8
        have f8 : Fr0 w7 w8 := Fr.alloc _ _ _
        have c8 := f8.at c7 id
        have p8 := f8.at p7 id
        have h8 := g4.fr f8 fun _ _ h => h
        obtain ⟨h2, w9, hrun, o9, n9, f9, bl9, _⟩ := append_own (ty := ty_sl_enthymemeref38_Held) (src := ⟨some ⟨w7.heap.size, 0, none⟩, 1, 1⟩) el_held h8 (Row.one w7 ty_enthymemeref38_Held [.int .i64 q, s.v]) (by simp) (by simp [Value.oneCell']) (by rw [hhn]; simp; omega)
        have c9 := f9.at c8 (row_ne h8.row c8 (by decide))
        have p9 := f9.at p8 (row_ne h8.row p8 (by decide))
        refine ⟨cellAt (p := at0 w.heap.size) (i := 2) p8 rfl rfl, cellAt (p := at0 w.heap.size) (i := 0) p8 rfl rfl, cellAt (p := at0 rb) c8 rfl rfl, h2, w9, hrun, cellAt (p := at0 w.heap.size) (i := 2) p9 rfl rfl, cellAt (p := at0 w.heap.size) (i := 0) p9 rfl rfl, by rw [cellAt (p := at0 rb) c9 rfl rfl]; rfl, frozenAt (p := at0 rb) c9, ?_⟩
        intro w10
        have f10 : Fr (· = rb) w9 w10 := Fr.set _ _ _ rfl
        have c10 : w10.heap[rb]? = some (.cells #[.int .i64 r.win, ss7.v, .int .i64 ((max r.a a.toNat : Nat) : Int), .int .i64 r.d, h2.v, .bool true] ty_enthymemeref38_End (0, 0)) := setAt (p := at0 rb) (i := 4) (v := h2.v) c9 rfl
        clear_value w10
        have nb9 := row_noTyp h8.row (T' := ty_uint8) (by decide)
        have nb10 : ∀ x, x = rb → ∀ cs f, w9.heap[x]? ≠ some (.cells cs ty_uint8 f) := fun x e cs f => by rw [e]; exact cells_typ c9 (by decide)
        have by' : ∀ t m, Bytes w7 t m → Bytes w10 t m := fun t m g => ((g.fr0 f8).fr f9 nb9).fr f10 nb10
        have hb7 : Bytes w7 s b := by rw [← hw7]; exact (hb5.fr0 fd5).fr0 (Fr.drew _ _)
        have s9 : OwnRow w10 ty_sl_uint8 1 ss7 (sl7.map Sl.v) := by
          have q1 := g2.fr f8 fun _ _ h => h
          have q2 := q1.fr f9 (row_dis q1.row h8.row (by decide))
          exact q2.fr f10 (fun x hx e => row_ne q2.row c9 (by decide) (by rw [← e]; exact hx))
        have h10 : OwnRow w10 ty_enthymemeref38_Held 2 h2 ((hc7 ++ [(q, s)]).flatMap hCells) := by
          have q2 : OwnRow w9 ty_enthymemeref38_Held 2 h2 ((hc7 ++ [(q, s)]).flatMap hCells) := by rw [List.flatMap_append]; simpa [hCells] using o9
          exact q2.fr f10 (fun x hx e => row_ne q2.row c9 (by decide) (by rw [← e]; exact hx))
        have sz7 := n7.fr.size
        have sz8 := f8.size
        unfold enthymemeref38_End_In.S11
        refine rin_loop hrown (r.held.length + 2) (((r.acked a).owe).add q b) [] (by simp [RS.add, RS.owe, RS.acked]) (by simp [RS.add, RS.owe, RS.acked]; omega) (by simp [RS.add, RS.owe, RS.acked]; omega) (by simp [RS.add, RS.owe, RS.acked]; omega) ⟨none, 0, 0⟩ [] w10 (rb :: (blkL ss7 ++ blkL h2)) ⟨⟨ss7, h2, sl7, hc7 ++ [(q, s)], rfl, c10, s9, g3.mono fun a _ b _ h => by' _ _ h, h10, (g5.mono fun a _ b _ h => ⟨h.1, by' _ _ h.2⟩).append ⟨⟨rfl, by' _ _ hb7⟩, trivial⟩⟩, ?_, fun x hx => ?_⟩ (OwnRow.nil _ _ _) trivial (by simp [blkL])
        · refine ((n7.fr.trans f8 fun _ _ h => h.elim).trans f9 fun x hx hm => ?_).trans f10 fun x _ e => by rw [e]; exact hrown
          rcases n7.own x (by rw [ho7]; simp [hm]) with g | g
          · exact g
          · omega
        · simp only [List.mem_cons, List.mem_append] at hx
          rcases hx with e | e | e
          · exact .inl (by rw [e]; exact hrown)
          · exact n7.own x (by rw [ho7]; simp [e])
          · rcases bl9 x e with g | g
            · exact n7.own x (by rw [ho7]; simp [g])
            · exact .inr (by omega)
end Run
end Go.Proofs.Ytellmncndfmbbaa

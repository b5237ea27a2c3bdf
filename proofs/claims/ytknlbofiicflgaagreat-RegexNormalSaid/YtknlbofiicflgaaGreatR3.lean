/- Package regex: what a reader holds. Package regex: the frames of a reader: the contracts. Package regex: endSeq, endConj, endExpr: the contracts. -/
import Derived.Test.YtknlbofiicflgaaGreatR2
import Derived.Test.YtknlbofiicflgaaGreatVP
namespace Go.Proofs.YtknlbofiicflgaaGreat
open Go Go.W

abbrev RowV := Sl × List Value
/-- rows of expressions, each one's own -/
def _root_.Go.W.En.rows (rs : List RowV) : En := ⟨nub (rs.flatMap fun p : RowV => blkL p.1), fun w => (∀ p ∈ rs, OwnRow w ty_regex_Regex 4 p.1 p.2) ∧ (rs.flatMap fun p : RowV => blkL p.1).Nodup,
  fun w w' h hp => ⟨fun p hm => (hp.1 p hm).keep fun b hb hl => h b (mem_nub.2 (List.mem_flatMap.2 ⟨p, hm, hb⟩)) hl, hp.2⟩,
  fun w hp b hb => by
    obtain ⟨p, hm, hb⟩ := List.mem_flatMap.1 (mem_nub.1 hb)
    exact (hp.1 p hm).lt b hb, nub_nodup _⟩
theorem rows_off (rs : List RowV) (hr : rs ≠ []) (w : World) (b : Nat) (hb : b ∈ (En.rows rs).fp) : ¬ (En.rows rs).P ({ w with heap := Array.replicate (b + 1) (.map #[] 0) }) := by
  rintro ⟨h, _⟩
  obtain ⟨p, hm, hb⟩ := List.mem_flatMap.1 (mem_nub.1 hb)
  obtain ⟨cs, f, hc⟩ := (h p hm).row.typ b hb
  simp at hc
section
variable {M : Nat → Prop} {w0 w : World} {L D : List En} {bs : List Nat}
theorem ghost_off' (H : LH M w0 w L D) {i : Nat} {rs : List RowV} (hi : L[i]? = some (.rows rs)) {b : Nat} (hb : En.g b ∈ L) : b ∉ (En.rows rs).fp := by
  intro hm
  obtain ⟨j, hj⟩ := List.mem_iff_getElem?.1 hb
  by_cases hij : i = j
  · subst hij
    rw [hi] at hj
    have e1 : En.rows rs = En.g b := Option.some.inj hj
    have hne : rs ≠ [] := by
      rintro rfl
      simp [En.rows, nub] at hm
    refine rows_off rs hne w b hm ?_
    rw [e1]
    show b < _
    simp
  · exact disj_of H.nd hi hj hij b hm (by simp [En.g])
theorem flat_set {rs : List RowV} {j : Nat} {s s' : Sl} {vs vs' : List Value} (hj : rs[j]? = some (s, vs)) (hn : (rs.flatMap fun p : RowV => blkL p.1).Nodup) (hs : (blkL s').Nodup) (hx : ∀ x ∈ blkL s', x ∈ blkL s ∨ x ∉ rs.flatMap fun p : RowV => blkL p.1) : ((rs.set j (s', vs')).flatMap fun p : RowV => blkL p.1).Nodup :=
  nodup_set (f := fun p : RowV => blkL p.1) hj hn hs hx
theorem blk_nodup (s : Sl) : (blkL s).Nodup := by unfold blkL; split <;> simp
theorem mem_set' {α : Type} {l : List α} {j : Nat} {a x : α} (h : x ∈ l.set j a) : x = a ∨ ∃ i, i ≠ j ∧ l[i]? = some x := by
  obtain ⟨i, hi⟩ := List.mem_iff_getElem?.1 h
  rw [List.getElem?_set] at hi
  split at hi
  · split at hi
    · exact .inl (Option.some.inj hi).symm
    · cases hi
  · rename_i hne
    exact .inr ⟨i, fun e => hne e.symm, hi⟩
theorem rows_disj {rs : List RowV} (hn : (rs.flatMap fun p : RowV => blkL p.1).Nodup) : ∀ {i j : Nat} {p q : RowV}, rs[i]? = some p → rs[j]? = some q → i ≠ j → ∀ b ∈ blkL p.1, b ∉ blkL q.1 := by
  induction rs with
  | nil => intro i j p q h; simp at h
  | cons a l ih =>
    rw [List.flatMap_cons, List.nodup_append] at hn
    intro i j p q hi hj hij b hb hb'
    cases i with
    | zero =>
      simp at hi; subst hi
      cases j with
      | zero => exact hij rfl
      | succ j => exact hn.2.2 b hb b (List.mem_flatMap.2 ⟨q, List.mem_of_getElem? (by simpa using hj), hb'⟩) rfl
    | succ i =>
      cases j with
      | zero =>
        simp at hj; subst hj
        exact hn.2.2 b hb' b (List.mem_flatMap.2 ⟨p, List.mem_of_getElem? (by simpa using hi), hb⟩) rfl
      | succ j => exact ih hn.2.1 (by simpa using hi) (by simpa using hj) (by omega) b hb hb'
/-- one of the rows changes -/
theorem rows_upd (H : LH M w0 w L D) {w' : World} (i j : Nat) {rs : List RowV} {s s' : Sl} {vs vs' : List Value} (hi : L[i]? = some (.rows rs)) (hj : rs[j]? = some (s, vs)) (f : Fr (fun b => b ∈ blkL s) w w') (ho : OwnRow w' ty_regex_Regex 4 s' vs') (hb : ∀ b ∈ blkL s', b ∈ blkL s ∨ w.heap.size ≤ b) :
    LH M w0 w' (L.set i (.rows (rs.set j (s', vs')))) D := by
  have hp : (En.rows rs).P w := H.get i hi
  have hsub : ∀ b ∈ blkL s, b ∈ (En.rows rs).fp := fun b hb => mem_nub.2 (List.mem_flatMap.2 ⟨_, List.mem_of_getElem? hj, hb⟩)
  have hlt : ∀ b ∈ rs.flatMap (fun p : RowV => blkL p.1), b < w.heap.size := fun b hb => (En.rows rs).lt w hp b (mem_nub.2 hb)
  refine H.upd i _ hi (f.mono fun x _ hx => hsub x hx) ⟨fun p hm => ?_, flat_set hj hp.2 (blk_nodup _) fun x hx => (hb x hx).imp id fun h hm => by have := hlt x hm; omega⟩ fun b hm => ?_
  · rcases mem_set' hm with rfl | ⟨k, hk, hp'⟩
    · exact ho
    · exact (hp.1 p (List.mem_of_getElem? hp')).keep fun b hb' hl => f.keep b hl fun hbs => rows_disj hp.2 hp' hj hk b hb' hbs
  · obtain ⟨p, hm, hbp⟩ := List.mem_flatMap.1 (mem_nub.1 hm)
    rcases mem_set' hm with rfl | ⟨k, _, hp'⟩
    · exact (hb b hbp).imp (hsub b) id
    · exact .inl (mem_nub.2 (List.mem_flatMap.2 ⟨p, List.mem_of_getElem? hp', hbp⟩))
/-- appending a cell to one of the rows -/
theorem _root_.Go.W.LH.apRow (H : LH M w0 w L D) (i j : Nat) {ty : TypeId} {rs : List RowV} {s src : Sl} {vs news : List Value} {K : Sl → World → Prop} (hi : L[i]? = some (.rows rs)) (hj : rs[j]? = some (s, vs)) (hr : RdN 4 w src news) (h1 : ∀ u ∈ news, u.oneCell' = true) (hb : (s.n + src.n) * 40 ≤ 140737488355328)
    (hK : ∀ s' w', LH M w0 w' (L.set i (.rows (rs.set j (s', vs ++ news)))) D → s'.n = s.n + src.n → (s'.a = none → s.a = none ∧ src.n = 0) → K s' w') (hbs : ∀ b ∈ bs, En.g b ∈ L := by simp) :
    ∃ s' w', (Builtin.append_ #[ty_sl_regex_Regex, ty_sl_regex_Regex] ty #[s.v, src.v]).run Tryz.prog w = .ok s'.v w' ∧ kept bs w w' ∧ K s' w' := by
  have hp : (En.rows rs).P w := H.get i hi
  obtain ⟨s', w', g1, g2, g3, g4, g5, g6⟩ := append_ownC (ty := ty) el_rx (hp.1 _ (List.mem_of_getElem? hj)) hr.2.2 hr.1 h1 hb
  refine ⟨s', w', g1, fun b hb' => ?_, hK s' w' (rows_upd H i j hi hj g4 g2 g5) g3 g6⟩
  refine g4.keep b (H.own _ (hbs b hb')) fun hm => ?_
  exact ghost_off' H hi (hbs b hb') (mem_nub.2 (List.mem_flatMap.2 ⟨_, List.mem_of_getElem? hj, hm⟩))
/-- storing into one of the rows -/
theorem _root_.Go.W.LH.stRow (H : LH M w0 w L D) (i j a c : Nat) {rs : List RowV} {s : Sl} {vs : List Value} {v : Value} {p : Addr} {K : World → Prop} (hi : L[i]? = some (.rows rs)) (hj : rs[j]? = some (s, vs)) (hp : s.a = some p) (hl : a + c < vs.length)
    (hK : ∀ w', LH M w0 w' (L.set i (.rows (rs.set j (s, vs.set (a + c) v)))) D → K w') (hbs : ∀ b ∈ bs, En.g b ∈ L := by simp) : stV w ((p.add a).add c) v fun w1 => kept bs w w1 ∧ K w1 := by
  have hP : (En.rows rs).P w := H.get i hi
  obtain ⟨q, hq, hqb, x1, x2, x3, x4⟩ := own_set (hP.1 _ (List.mem_of_getElem? hj)) (a + c) hl v
  rw [hp] at hq
  cases hq
  rw [add_add]
  refine ⟨x1, x2, fun b hb => ?_, hK _ (rows_upd H i j hi hj x4 x3 fun b hb => .inl hb)⟩
  exact x4.keep b (H.own _ (hbs b hb)) fun hm => ghost_off' H hi (hbs b hb) (mem_nub.2 (List.mem_flatMap.2 ⟨_, List.mem_of_getElem? hj, hm⟩))
/-- a row that is given away -/
theorem _root_.Go.W.LH.giveRow (H : LH M w0 w L D) (i j : Nat) {rs : List RowV} {s : Sl} {vs : List Value} (hi : L[i]? = some (.rows rs)) (hj : rs[j]? = some (s, vs)) : LH M w0 w (L.set i (.rows (rs.set j (⟨none, 0, 0⟩, [])))) (D ++ [.rdn 4 s vs]) := by
  have hp : (En.rows rs).P w := H.get i hi
  have H1 := rows_upd H i j hi hj (Fr.refl _ _) (OwnRow.nil w ty_regex_Regex 4) (fun b hb => by simp [blkL] at hb)
  have hsub : ∀ b ∈ blkL s, b ∈ (En.rows rs).fp := fun b hb => mem_nub.2 (List.mem_flatMap.2 ⟨_, List.mem_of_getElem? hj, hb⟩)
  have hil : i < L.length := (List.getElem?_eq_some_iff.1 hi).1
  refine ⟨H1.fr, H1.own, fun e he => ?_, H1.new, H1.nd, fun e he b hb e' he' hb' => ?_⟩
  · rcases List.mem_append.1 he with he | he
    · exact H1.rd e he
    · simp at he; subst he
      exact (hp.1 _ (List.mem_of_getElem? hj)).rdn
  · rcases List.mem_append.1 he with he | he
    · exact H1.dj e he b hb e' he' hb'
    · simp at he; subst he
      have hbs : b ∈ blkL s := rdn_own (e := ty_regex_Regex) hb
      rcases mem_set' he' with rfl | ⟨k, hk, hke⟩
      · obtain ⟨q, hq, hbq⟩ := List.mem_flatMap.1 (mem_nub.1 hb')
        rcases mem_set' hq with rfl | ⟨k, hk, hkq⟩
        · simp [blkL] at hbq
        · exact rows_disj hp.2 hkq hj hk b hbq hbs
      · exact disj_of H.nd hi hke (fun e => hk e.symm) b (hsub b hbs) hb'
end
/-! #### Frames -/
structure FX where
  k : Int
  ar : Sl × List Rx
  al : List Rx
  an : List Rx
  ca : List Rx
  n : Nat
  la : Rx
structure FM where
  k : Int
  ar : Sl × List Rt
  al : Sl × List Rt
  an : Sl × List Rt
  ca : Sl × List Rt
  n : Nat
  la : Rt
def FM.x (f : FM) : FX := ⟨f.k, (f.ar.1, Rt.rxs f.ar.2), Rt.rxs f.al.2, Rt.rxs f.an.2, Rt.rxs f.ca.2, f.n, f.la.rx⟩
def FM.c (f : FM) : List Value := [.int .i64 f.k, f.ar.1.v, f.al.1.v, f.an.1.v, f.ca.1.v, .int .i64 (f.n : Int), .int .i64 f.la.k, .int .u8 (f.la.lo.toNat : Int), .int .u8 (f.la.hi.toNat : Int), f.la.s.v]
def FM.rows (f : FM) : List RowV := [(f.ar.1, f.ar.2.flatMap Rt.c), (f.al.1, f.al.2.flatMap Rt.c), (f.an.1, f.an.2.flatMap Rt.c), (f.ca.1, f.ca.2.flatMap Rt.c)]
def FM.ts (f : FM) : List Rt := f.ar.2 ++ f.al.2 ++ f.an.2 ++ f.ca.2 ++ [f.la]
theorem FM.c_len (f : FM) : f.c.length = 10 := rfl
theorem fs_len (fs : List FM) : (fs.flatMap FM.c).length = fs.length * 10 := flat_length FM.c 10 FM.c_len fs
/-- what a reader owns -/
abbrev SL (rb : Nat) (sl : Sl) (st wd : Int) (cs : List Value) (rs : List RowV) : List En := [.c rb [sl.v, .int .i64 st, .int .i64 wd] ty_regex_reader, .row ty_regex_frame 10 sl cs, .rows rs]
def St (w : World) (rb : Nat) (f0 : Addr) (lo : List FX) (tp : FX) (st wd : Int) (own : List Nat) (ts : List Rt) : Prop :=
  ∃ (sl : Sl) (fs : List FM) (f : FM) (p : Addr), fs.map FM.x = lo ∧ f.x = tp ∧ (∀ g ∈ fs ++ [f], ∀ t ∈ g.ts, t ∈ ts) ∧ sl.a = some p ∧ f0 = p.add (fs.length * 10) ∧
    own = (SL rb sl st wd ((fs ++ [f]).flatMap FM.c) ((fs ++ [f]).flatMap FM.rows)).flatMap (·.fp) ∧ own.Nodup ∧ (∀ e ∈ SL rb sl st wd ((fs ++ [f]).flatMap FM.c) ((fs ++ [f]).flatMap FM.rows), e.P w) ∧ Rt.Ps w ts ∧ ∀ b ∈ Rt.fps ts, b ∉ own
/-- after a method -/
def StAt (w : World) (own : List Nat) (ts : List Rt) (rb : Nat) (f0 : Addr) (lo : List FX) (tp : FX) (st wd : Int) (A : List Rt → Prop) (w' : World) : Prop := ∃ own' ts', St w' rb f0 lo tp st wd own' ts' ∧ Fr (· ∈ own) w w' ∧ (∀ x ∈ own', x ∈ own ∨ w.heap.size ≤ x) ∧ (∀ b ∈ Rt.fps ts', b ∈ Rt.fps ts ∨ b ∈ own ∨ w.heap.size ≤ b) ∧ (∀ t ∈ ts, t ∈ ts') ∧ A ts'
theorem StAt.then {w w1 w' : World} {own own1 : List Nat} {ts ts1 : List Rt} {rb : Nat} {f0 : Addr} {lo : List FX} {tp : FX} {st wd : Int} {A : List Rt → Prop} (f1 : Fr (· ∈ own) w w1) (o1 : ∀ x ∈ own1, x ∈ own ∨ w.heap.size ≤ x) (b1 : ∀ b ∈ Rt.fps ts1, b ∈ Rt.fps ts ∨ b ∈ own ∨ w.heap.size ≤ b) (t1 : ∀ t ∈ ts, t ∈ ts1) (h : StAt w1 own1 ts1 rb f0 lo tp st wd A w') : StAt w own ts rb f0 lo tp st wd A w' := by
  obtain ⟨own2, ts2, s2, f2, o2, b2, t2, a2⟩ := h
  refine ⟨own2, ts2, s2, f1.trans f2 fun x hx hm => (o1 x hm).resolve_right fun h => by omega, fun x hx => ?_, fun b hb => ?_, fun t ht => t2 t (t1 t ht), a2⟩
  · rcases o2 x hx with h | h
    · exact o1 x h
    · exact .inr (Nat.le_trans f1.size h)
  · rcases b2 b hb with h | h | h
    · exact b1 b h
    · exact .inr (o1 b h)
    · exact .inr (.inr (Nat.le_trans f1.size h))
theorem StAt.mono {w w' : World} {own : List Nat} {ts : List Rt} {rb : Nat} {f0 : Addr} {lo : List FX} {tp : FX} {st wd : Int} {A B : List Rt → Prop} (h : StAt w own ts rb f0 lo tp st wd A w') (hab : ∀ l, A l → B l) : StAt w own ts rb f0 lo tp st wd B w' := by
  obtain ⟨own2, ts2, s2, f2, o2, b2, t2, a2⟩ := h
  exact ⟨own2, ts2, s2, f2, o2, b2, t2, hab _ a2⟩
/-- a reader as a thing of one's own -/
def _root_.Go.W.En.stt (rb : Nat) (f0 : Addr) (lo : List FX) (tp : FX) (st wd : Int) (own : List Nat) (ts : List Rt) : En := ⟨nub (own ++ Rt.fps ts), fun w => St w rb f0 lo tp st wd own ts, fun w w' h hp => (by
  obtain ⟨sl, fs, g, p, h1, h2, h3, h4, h5, h6, h7, h8, h9, h10⟩ := hp
  refine ⟨sl, fs, g, p, h1, h2, h3, h4, h5, h6, h7, fun e he => e.st w w' (fun b hb hl => h b (mem_nub.2 (List.mem_append_left _ ?_)) hl) (h8 e he), Rt.keeps ts (fun b hb hl => h b (mem_nub.2 (List.mem_append_right _ hb)) hl) h9, h10⟩
  rw [h6]
  exact List.mem_flatMap.2 ⟨e, he, hb⟩), fun w hp b hb => (by
  obtain ⟨sl, fs, g, p, h1, h2, h3, h4, h5, h6, h7, h8, h9, h10⟩ := hp
  rcases List.mem_append.1 (mem_nub.1 hb) with hb | hb
  · rw [h6] at hb
    obtain ⟨e, he, hbe⟩ := List.mem_flatMap.1 hb
    exact e.lt w (h8 e he) b hbe
  · exact Rt.lts ts h9 b hb), nub_nodup _⟩
theorem stt_off (rb : Nat) (f0 : Addr) (lo : List FX) (tp : FX) (st wd : Int) (own : List Nat) (ts : List Rt) (w : World) (b : Nat) : ¬ (En.stt rb f0 lo tp st wd own ts).P ({ w with heap := Array.replicate (b + 1) (.map #[] 0) }) := by
  rintro ⟨sl, fs, g, p, h1, h2, h3, h4, h5, h6, h7, h8, h9, h10⟩
  have := h8 (.c rb [sl.v, .int .i64 st, .int .i64 wd] ty_regex_reader) (by simp)
  have h : ({ w with heap := Array.replicate (b + 1) (.map #[] 0) } : World).heap[rb]? = some (.cells #[sl.v, .int .i64 st, .int .i64 wd] ty_regex_reader (0, 0)) := this
  simp [Array.getElem?_replicate] at h
theorem St.at_start {w : World} {rb : Nat} {sl : Sl} {fs : List FM} {f : FM} {ts : List Rt} {st wd : Int} {own : List Nat} (h6 : own = (SL rb sl st wd ((fs ++ [f]).flatMap FM.c) ((fs ++ [f]).flatMap FM.rows)).flatMap (·.fp)) (h7 : own.Nodup) (h8 : ∀ e ∈ SL rb sl st wd ((fs ++ [f]).flatMap FM.c) ((fs ++ [f]).flatMap FM.rows), e.P w) (h9 : Rt.Ps w ts) (h10 : ∀ b ∈ Rt.fps ts, b ∉ own) :
    LH (· ∈ own) w w (SL rb sl st wd ((fs ++ [f]).flatMap FM.c) ((fs ++ [f]).flatMap FM.rows)) [.trees ts] := by
  refine LH.start' _ _ (fun e he => ⟨h8 e he, fun b hb => by rw [h6]; exact List.mem_flatMap.2 ⟨e, he, hb⟩⟩) (h6 ▸ h7) fun e he => ?_
  simp only [List.mem_cons, List.not_mem_nil, or_false] at he
  subst he
  refine ⟨h9, fun b hb e' he' hb' => h10 b (mem_nub.1 hb) ?_⟩
  rw [h6]
  exact List.mem_flatMap.2 ⟨e', he', hb'⟩
theorem St.of {w w' : World} {rb : Nat} {f0 : Addr} {sl : Sl} {fs : List FM} {f : FM} {ts ts' : List Rt} {st wd : Int} {own : List Nat} {p : Addr} {D : List En} {A : List Rt → Prop} (H : LH (· ∈ own) w w' (SL rb sl st wd ((fs ++ [f]).flatMap FM.c) ((fs ++ [f]).flatMap FM.rows)) D) (i : Nat) (hD : D[i]? = some (.trees ts')) (ht : ∀ g ∈ fs ++ [f], ∀ t ∈ g.ts, t ∈ ts') (hp : sl.a = some p) (h0 : f0 = p.add (fs.length * 10)) (hb : ∀ b ∈ Rt.fps ts', b ∈ Rt.fps ts ∨ b ∈ own ∨ w.heap.size ≤ b) (hts : ∀ t ∈ ts, t ∈ ts') (hA : A ts') :
    StAt w own ts rb f0 (fs.map FM.x) f.x st wd A w' := by
  refine ⟨_, ts', ⟨sl, fs, f, p, rfl, rfl, ht, hp, h0, rfl, H.nd, H.own, H.getD i hD, fun b hb hm => ?_⟩, H.fr, fun x hx => ?_, hb, hts, hA⟩
  · obtain ⟨e, he, hbe⟩ := List.mem_flatMap.1 hm
    exact H.dj _ (List.mem_of_getElem? hD) b (mem_nub.2 hb) e he hbe
  · obtain ⟨e, he, hbe⟩ := List.mem_flatMap.1 hx
    exact (H.new e he x hbe).symm
section
variable {M : Nat → Prop} {w0 w : World} {L D : List En} {bs : List Nat}
/-- a cell of the last frame -/
theorem _root_.Go.W.LH.ldF (H : LH M w0 w L D) (i : Nat) {sl : Sl} {fs : List FM} {f : FM} {p : Addr} (hi : L[i]? = some (.row ty_regex_frame 10 sl ((fs ++ [f]).flatMap FM.c))) (hp : sl.a = some p) (j : Nat) {v : Value} (hj : f.c[j]? = some v := by rfl) : w.cell? ((p.add (fs.length * 10)).add j) = some v := by
  have ho : OwnRow w ty_regex_frame 10 sl ((fs ++ [f]).flatMap FM.c) := H.get i hi
  have hk : ((fs ++ [f]).flatMap FM.c)[fs.length * 10 + j]? = some v := by
    rw [List.flatMap_append, List.getElem?_append_right (by rw [fs_len]; omega), fs_len]
    simpa using hj
  obtain ⟨q, hq, hc⟩ := ho.rdn.2.2.2 _ _ hk
  rw [hp] at hq
  cases hq
  rw [add_add]
  exact hc
theorem frame_set (fs : List FM) (f f' : FM) (j : Nat) (v : Value) (hj : j < 10) (h : f.c.set j v = f'.c) : ((fs ++ [f]).flatMap FM.c).set (fs.length * 10 + j) v = (fs ++ [f']).flatMap FM.c := by
  rw [List.flatMap_append, List.flatMap_append, List.set_append, if_neg (by rw [fs_len]; omega), fs_len]
  simp only [List.flatMap_cons, List.flatMap_nil, List.append_nil, Nat.add_sub_cancel_left]
  rw [h]
/-- storing into the last frame -/
theorem _root_.Go.W.LH.stF (H : LH M w0 w L D) (i : Nat) {sl : Sl} {fs : List FM} {f : FM} {p : Addr} {K : World → Prop} {v : Value} (f' : FM) (j : Nat) (hi : L[i]? = some (.row ty_regex_frame 10 sl ((fs ++ [f]).flatMap FM.c))) (hp : sl.a = some p) (hj : j < 10) (hc : f.c.set j v = f'.c)
    (hK : ∀ w', LH M w0 w' (L.set i (.row ty_regex_frame 10 sl ((fs ++ [f']).flatMap FM.c))) D → K w') (hbs : ∀ b ∈ bs, En.g b ∈ L := by simp) : stV w ((p.add (fs.length * 10)).add j) v fun w1 => kept bs w w1 ∧ K w1 :=
  H.strow i (fs.length * 10) j hi hp (by rw [fs_len]; simp; omega) (fun w' H' => hK w' (by rw [frame_set fs f f' j v hj hc] at H'; exact H')) hbs
theorem st_drop {w : World} {p : Addr} {v : Value} {K : World → Prop} (h : stV w p v fun w1 => kept [] w w1 ∧ K w1) : stV w p v K := stV_imp h fun _ h => h.2
end
theorem rows_len : ∀ fs : List FM, (fs.flatMap FM.rows).length = fs.length * 4
  | [] => rfl
  | f :: fs => by
    have := rows_len fs
    simp only [List.flatMap_cons, List.length_append, List.length_cons]
    have : f.rows.length = 4 := rfl
    omega
theorem rows_set (fs : List FM) (f : FM) (j : Nat) (x : RowV) (hj : j < 4) : ((fs ++ [f]).flatMap FM.rows).set (fs.length * 4 + j) x = fs.flatMap FM.rows ++ f.rows.set j x := by
  have hl := rows_len fs
  rw [List.flatMap_append, List.set_append, if_neg (by omega), hl]
  simp
theorem rows_get (fs : List FM) (f : FM) (j : Nat) (x : RowV) (hx : f.rows[j]? = some x) : ((fs ++ [f]).flatMap FM.rows)[fs.length * 4 + j]? = some x := by
  have hl := rows_len fs
  rw [List.flatMap_append, List.getElem?_append_right (by omega), hl]
  simpa using hx
end Go.Proofs.YtknlbofiicflgaaGreat
namespace Go.Proofs.YtknlbofiicflgaaGreat
open Go Go.W

def oneT (k : Int) (s : Sl) (ts : List Rt) : Rt := match ts with | [x] => x | l => .mk k 0 0 s l
def oneX (k : Int) (l : List Rx) : Rx := match l with | [x] => x | l => .mk k 0 0 l
theorem oneT_rx (k : Int) (s : Sl) (ts : List Rt) : (oneT k s ts).rx = oneX k (Rt.rxs ts) := by
  match ts with
  | [] => rfl
  | [x] => rfl
  | x :: y :: l => rfl
theorem oneT_P {w : World} {k : Int} {s : Sl} {ts : List Rt} (h : RdN 4 w s (ts.flatMap Rt.c)) (hp : Rt.Ps w ts) : (oneT k s ts).P w := by
  match ts, h, hp with
  | [], h, hp => exact (show Rt.P w (.mk k 0 0 s []) by unfold Rt.P; exact ⟨h, hp⟩)
  | [x], h, hp => exact hp.get (i := 0) rfl
  | x :: y :: l, h, hp => exact (show Rt.P w (.mk k 0 0 s (x :: y :: l)) by unfold Rt.P; exact ⟨h, hp⟩)
theorem oneT_fp {k : Int} {s : Sl} {ts : List Rt} {b : Nat} (h : b ∈ (oneT k s ts).fp) : b ∈ (Rt.row s ts).fp ∨ b ∈ Rt.fps ts := by
  match ts, h with
  | [], h => exact Rt.fp_parts.1 (show b ∈ (Rt.mk k 0 0 s []).fp from h)
  | [x], h => exact .inr (Rt.fps_iff.2 ⟨x, by simp, h⟩)
  | x :: y :: l, h => exact Rt.fp_parts.1 (show b ∈ (Rt.mk k 0 0 s (x :: y :: l)).fp from h)
theorem c_oneF (k : Int) (s : Sl) (ts : List Rt) (w : World) (h : RdN 4 w s (ts.flatMap Rt.c)) : Calls Tryz.prog n_regex_one #[.int .i64 k, s.v] w fun r w' => r = .returned (oneT k s ts).v ∧ Fr0 w w' := by
  have nr := Rt.rows_n h
  refine regex_one.okT _ _ w _ ((lh0 [Rt.row s ts] (by
    intro e he
    simp only [List.mem_cons, List.not_mem_nil, or_false] at he
    subst he
    exact h)).newg fun b4 w1 H1 => sel_eq (fun h1 => ⟨by omega, by omega, ?_⟩) (fun h1 => H1.locg fun w2 H2 => ⟨?_, H2.fr⟩))
  · have hl : ts.length = 1 := by omega
    obtain ⟨x, rfl⟩ := List.length_eq_one_iff.1 hl
    refine Rt.at' (H1.getD 0) (i := 0) (t := x) rfl fun p hp c => ⟨_, _, _, _, c.c0, c.c1, c.c2, c.c3, H1.locg fun w2 H2 => ⟨rfl, H2.fr⟩⟩
  · match ts, nr with
    | [], _ => rfl
    | [x], nr => simp at nr; omega
    | x :: y :: l, _ => rfl
section
variable {M : Nat → Prop} {w0 w : World} {L D : List En} {bs : List Nat}
/-- a node over some of the trees -/
theorem _root_.Go.W.LH.node (H : LH M w0 w L D) (i : Nat) {ts ks : List Rt} {s : Sl} (k : Int) (lo hi : UInt8) (hi' : D[i]? = some (.trees ts)) (hr : Rt.row s ks ∈ D) (hk : ∀ t ∈ ks, t ∈ ts) : LH M w0 w L [.trees (ts ++ [.mk k lo hi s ks])] := by
  have pt : Rt.Ps w ts := H.getD i hi'
  have H1 := H.addD (.trees (ts ++ [.mk k lo hi s ks])) (Fr.refl _ _) (Rt.ps_of fun t ht => ?_) fun b hb => .inr (.inr ?_)
  · exact H1.forget _ (by simp)
  · rcases List.mem_append.1 ht with ht | ht
    · exact pt.mem ht
    · simp at ht; subst ht
      unfold Rt.P
      exact ⟨H.rd _ hr, Rt.ps_of fun t ht => pt.mem (hk t ht)⟩
  · obtain ⟨t, ht, hb'⟩ := Rt.fps_iff.1 (mem_nub.1 hb)
    rcases List.mem_append.1 ht with ht | ht
    · exact ⟨_, List.mem_of_getElem? hi', mem_nub.2 (Rt.fps_iff.2 ⟨t, ht, hb'⟩)⟩
    · simp at ht
      rw [ht] at hb'
      rcases Rt.fp_parts.1 hb' with h | h
      · exact ⟨_, hr, h⟩
      · obtain ⟨t', ht', hb''⟩ := Rt.fps_iff.1 h
        exact ⟨_, List.mem_of_getElem? hi', mem_nub.2 (Rt.fps_iff.2 ⟨t', hk t' ht', hb''⟩)⟩
/-- the only one of some of the trees, or a node over them -/
theorem _root_.Go.W.LH.nodeOne (H : LH M w0 w L D) (i : Nat) {ts ks : List Rt} {s : Sl} (k : Int) (hi' : D[i]? = some (.trees ts)) (hr : Rt.row s ks ∈ D) (hk : ∀ t ∈ ks, t ∈ ts) : LH M w0 w L [.trees (ts ++ [oneT k s ks])] := by
  match ks, hr, hk with
  | [], hr, hk => exact H.node i k 0 0 hi' hr hk
  | x :: y :: l, hr, hk => exact H.node i k 0 0 hi' hr hk
  | [x], hr, hk =>
    have pt : Rt.Ps w ts := H.getD i hi'
    have hx := hk x (by simp)
    have H1 := H.addD (.trees (ts ++ [x])) (Fr.refl _ _) (Rt.ps_of fun t ht => ?_) fun b hb => .inr (.inr ?_)
    · exact H1.forget _ (by simp [oneT])
    · rcases List.mem_append.1 ht with ht | ht
      · exact pt.mem ht
      · simp at ht; subst ht
        exact pt.mem hx
    · obtain ⟨t, ht, hb'⟩ := Rt.fps_iff.1 (mem_nub.1 hb)
      rcases List.mem_append.1 ht with ht | ht
      · exact ⟨_, List.mem_of_getElem? hi', mem_nub.2 (Rt.fps_iff.2 ⟨t, ht, hb'⟩)⟩
      · simp at ht
        rw [ht] at hb'
        exact ⟨_, List.mem_of_getElem? hi', mem_nub.2 (Rt.fps_iff.2 ⟨x, hx, hb'⟩)⟩
abbrev z4 : List Value := [.int .i64 0, .int .u8 0, .int .u8 0, .slice none 0 0]
theorem app_set (vs u : List Value) (n j : Nat) (v : Value) (hn : vs.length = n) : (vs ++ u).set (n + j) v = vs ++ u.set j v := by
  rw [List.set_append, if_neg (by omega)]
  congr 2
  omega
/-- the cells of a tree, stored into the last place of a row -/
theorem _root_.Go.W.LH.put4 (H : LH M w0 w L D) (i j n : Nat) {rs : List RowV} {s : Sl} {vs : List Value} {p : Addr} {K : World → Prop} (t : Rt) (hi : L[i]? = some (.rows rs)) (hj : rs[j]? = some (s, vs ++ z4)) (hp : s.a = some p) (hn : vs.length = n * 4)
    (hK : ∀ w', LH M w0 w' (L.set i (.rows (rs.set j (s, vs ++ t.c)))) D → K w') (hbs : ∀ b ∈ bs, En.g b ∈ L) :
    stV w (p.add (Int.toNat (n : Int) * 4)) (.int .i64 t.k) fun w1 => kept bs w w1 ∧ stV w1 ((p.add (Int.toNat (n : Int) * 4)).add 1) (.int .u8 (t.lo.toNat : Int)) fun w2 => kept bs w1 w2 ∧ stV w2 ((p.add (Int.toNat (n : Int) * 4)).add 2) (.int .u8 (t.hi.toNat : Int)) fun w3 => kept bs w2 w3 ∧ stV w3 ((p.add (Int.toNat (n : Int) * 4)).add 3) t.s.v fun w4 => kept bs w3 w4 ∧ K w4 := by
  rw [Int.toNat_natCast]
  have hil : i < L.length := (List.getElem?_eq_some_iff.1 hi).1
  have hjl : j < rs.length := (List.getElem?_eq_some_iff.1 hj).1
  have gs : ∀ {L' : List En} (e : En), L'.length = L.length → (L'.set i e)[i]? = some e := fun {L'} e hl => by rw [List.getElem?_set_self (by omega)]
  have gr : ∀ (rs' : List RowV) (x : RowV), rs'.length = rs.length → (rs'.set j x)[j]? = some x := fun rs' x hl => by rw [List.getElem?_set_self (by omega)]
  have hg : ∀ {b : Nat}, En.g b ∈ L → ∀ (rs' : List RowV), En.g b ∈ L.set i (.rows rs') := fun {b} hb rs' => by
    obtain ⟨k, hk⟩ := List.mem_iff_getElem?.1 hb
    by_cases hki : i = k
    · subst hki
      exfalso
      rw [hi] at hk
      have hP : (En.rows rs).P w := H.get i hi
      have e1 : En.rows rs = En.g b := Option.some.inj hk
      have hfp : (En.rows rs).fp = [b] := by rw [e1]; rfl
      have hb' : b ∈ (En.rows rs).fp := by rw [hfp]; simp
      have hne : rs ≠ [] := by rintro rfl; simp at hjl
      refine rows_off rs hne w b hb' ?_
      rw [e1]
      show b < _
      simp
    · exact List.mem_iff_getElem?.2 ⟨k, by rw [List.getElem?_set_ne hki]; exact hk⟩
  have st1 := H.stRow (bs := bs) i j (n * 4) 0 (v := .int .i64 t.k) (K := fun w1 => stV w1 ((p.add (n * 4)).add 1) (.int .u8 (t.lo.toNat : Int)) fun w2 => kept bs w1 w2 ∧ stV w2 ((p.add (n * 4)).add 2) (.int .u8 (t.hi.toNat : Int)) fun w3 => kept bs w2 w3 ∧ stV w3 ((p.add (n * 4)).add 3) t.s.v fun w4 => kept bs w3 w4 ∧ K w4) hi hj hp (by simp [hn]) ?_ hbs
  · rw [add0] at st1
    exact st1
  intro w1 H1
  rw [app_set vs z4 (n * 4) 0 _ hn] at H1
  refine H1.stRow (bs := bs) i j (n * 4) 1 (gs _ rfl) (gr _ _ rfl) hp (by simp [hn]) ?_ (fun b hb => hg (hbs b hb) _)
  intro w2 H2
  rw [app_set vs _ (n * 4) 1 _ hn, List.set_set, List.set_set] at H2
  refine H2.stRow (bs := bs) i j (n * 4) 2 (gs _ rfl) (gr _ _ rfl) hp (by simp [hn]) ?_ (fun b hb => hg (hbs b hb) _)
  intro w3 H3
  rw [app_set vs _ (n * 4) 2 _ hn, List.set_set, List.set_set] at H3
  refine H3.stRow (bs := bs) i j (n * 4) 3 (gs _ rfl) (gr _ _ rfl) hp (by simp [hn]) ?_ (fun b hb => hg (hbs b hb) _)
  intro w4 H4
  rw [app_set vs _ (n * 4) 3 _ hn, List.set_set, List.set_set] at H4
  exact hK w4 H4
/-- the last expression of a frame -/
theorem _root_.Go.W.LH.ldLast (H : LH M w0 w L D) (i : Nat) {sl : Sl} {fs : List FM} {f : FM} {p : Addr} (hi : L[i]? = some (.row ty_regex_frame 10 sl ((fs ++ [f]).flatMap FM.c))) (hp : sl.a = some p) :
    w.cell? (((p.add (fs.length * 10)).add 6).add 0) = some (.int .i64 f.la.k) ∧ w.cell? (((p.add (fs.length * 10)).add 6).add 1) = some (.int .u8 (f.la.lo.toNat : Int)) ∧ w.cell? (((p.add (fs.length * 10)).add 6).add 2) = some (.int .u8 (f.la.hi.toNat : Int)) ∧ w.cell? (((p.add (fs.length * 10)).add 6).add 3) = some f.la.s.v := by
  refine ⟨?_, ?_, ?_, ?_⟩
  · rw [add0]; exact H.ldF i hi hp 6
  · rw [add_add]; exact H.ldF i hi hp 7
  · rw [add_add]; exact H.ldF i hi hp 8
  · rw [add_add]; exact H.ldF i hi hp 9
end
/-! #### endItem -/
def notN : Nat → Rx → Rx
  | 0, r => r
  | n + 1, r => notN n (.mk 6 0 0 [r])
def endItemX (f : FX) : FX := ⟨f.k, f.ar, f.al, f.an, f.ca ++ [notN f.n f.la], 0, f.la⟩
theorem c_endItem {w : World} {rb : Nat} {f0 : Addr} {lo : List FX} {tp : FX} {st wd : Int} {own : List Nat} {ts : List Rt} (h : St w rb f0 lo tp st wd own ts) (hn : tp.n ≤ 1000000) (hc : tp.ca.length ≤ 1000000) :
    Calls Tryz.prog n_regex_frame_endItem #[.pointer (some f0)] w fun r w' => r = .returned (.tuple #[]) ∧ StAt w own ts rb f0 lo (endItemX tp) st wd (fun _ => True) w' := by
  obtain ⟨sl, fs, f, p, rfl, rfl, h3, h4, rfl, h6, h7, h8, h9, h10⟩ := h
  have H := St.at_start h6 h7 h8 h9 h10
  have hla : f.la ∈ ts := h3 f (by simp) _ (by simp [FM.ts])
  have hca : f.ca.2.length ≤ 1000000 := by have : f.x.ca.length = f.ca.2.length := by show (Rt.rxs f.ca.2).length = _; rw [Rt.rxs_map]; simp
                                           omega
  -- the end
  have loop : ∀ (m : Nat) (r : Rt) (ts' : List Rt) (b2 : Nat) (w1 : World), m ≤ 1000000 → (∀ t ∈ ts, t ∈ ts') → (∀ b ∈ Rt.fps ts', b ∈ Rt.fps ts ∨ b ∈ own ∨ w.heap.size ≤ b) → r ∈ ts' → notN m r.rx = notN f.n f.la.rx →
      LH (· ∈ own) w w1 (SL rb sl st wd ((fs ++ [(⟨f.k, f.ar, f.al, f.an, f.ca, m, f.la⟩ : FM)]).flatMap FM.c) ((fs ++ [f]).flatMap FM.rows) ++ [.g b2]) [.trees ts'] →
      regex_frame_endItem.L0T (p.add (fs.length * 10)) b2 r.k r.lo.toNat r.hi.toNat r.s w1 fun r w' => r = .returned (.tuple #[]) ∧ StAt w own ts rb (p.add (fs.length * 10)) (fs.map FM.x) (endItemX f.x) st wd (fun _ => True) w' := by
    intro m
    induction m with
    | zero =>
      intro r ts' b2 w1 _ hts hbl hr he H1
      refine regex_frame_endItem.L0T_step _ _ _ _ _ _ _ _ ⟨0, H1.ldF 1 rfl h4 5, sel_false rfl (H1.locg fun w2 H2 => ⟨_, H2.ldF 1 rfl h4 4, ?_⟩)⟩
      have hrow : ((fs ++ [f]).flatMap FM.rows)[fs.length * 4 + 3]? = some (f.ca.1, f.ca.2.flatMap Rt.c) := rows_get fs f 3 _ rfl
      have nr : f.ca.1.n = f.ca.2.length := by
        have hp : (En.rows ((fs ++ [f]).flatMap FM.rows)).P w2 := H2.get 2
        exact Rt.rows_n (hp.1 _ (List.mem_of_getElem? hrow)).rdn
      refine H2.nwrow (e := ty_regex_Regex) (sz := 4) (n := 1) (cs := z4) rfl (by decide) fun w3 H3 => ⟨H3.ldF 1 rfl h4 4, ?_⟩
      refine H3.apRow (bs := [b2]) 2 (fs.length * 4 + 3) (src := ⟨some (at0 w2.heap.size), 1, 1⟩) (news := z4) rfl hrow (OwnRow.rdn (H3.get 4)) (by simp [Value.oneCell']) (by show (f.ca.1.n + 1) * 40 ≤ _; omega) (fun s' w4 H4 hn' hnone => ⟨by omega, by rw [hn']; show ((f.ca.1.n : Nat) : Int) < ((f.ca.1.n + 1 : Nat) : Int); omega, ?_⟩)
      obtain ⟨q, hq⟩ : ∃ q, s'.a = some q := by
        cases hs : s'.a with
        | none => have := (hnone hs).2; simp at this
        | some q => exact ⟨q, rfl⟩
      rw [hq]
      have hjl : fs.length * 4 + 3 < ((fs ++ [f]).flatMap FM.rows).length := by rw [rows_len]; simp; omega
      have H5 : LH (· ∈ own) w w4 (SL rb sl st wd ((fs ++ [(⟨f.k, f.ar, f.al, f.an, f.ca, 0, f.la⟩ : FM)]).flatMap FM.c) (((fs ++ [f]).flatMap FM.rows).set (fs.length * 4 + 3) (s', f.ca.2.flatMap Rt.c ++ z4)) ++ [.g b2]) [.trees ts'] := H4.take 4
      have fin : ∀ {w' : World}, LH (· ∈ own) w w' (SL rb sl st wd ((fs ++ [(⟨f.k, f.ar, f.al, f.an, (s', f.ca.2 ++ [r]), 0, f.la⟩ : FM)]).flatMap FM.c) (((fs ++ [f]).flatMap FM.rows).set (fs.length * 4 + 3) (s', f.ca.2.flatMap Rt.c ++ r.c)) ++ [.g b2]) [.trees ts'] →
          (Ending.returned (.tuple #[]) = .returned (.tuple #[]) ∧ StAt w own ts rb (p.add (fs.length * 10)) (fs.map FM.x) (endItemX f.x) st wd (fun _ => True) w') := fun {w'} H' => by
        refine ⟨rfl, ?_⟩
        have e1 : ((fs ++ [f]).flatMap FM.rows).set (fs.length * 4 + 3) (s', f.ca.2.flatMap Rt.c ++ r.c) = (fs ++ [(⟨f.k, f.ar, f.al, f.an, (s', f.ca.2 ++ [r]), 0, f.la⟩ : FM)]).flatMap FM.rows := by
          rw [rows_set fs f 3 _ (by omega), List.flatMap_append]
          congr 1
          simp [FM.rows]
        rw [e1] at H'
        have := St.of (ts := ts) (A := fun _ => True) (f0 := p.add (fs.length * 10)) (H'.take 3) 0 rfl (fun g hg t ht => ?_) h4 rfl hbl hts trivial
        · have e2 : (FM.x ⟨f.k, f.ar, f.al, f.an, (s', f.ca.2 ++ [r]), 0, f.la⟩) = endItemX f.x := by
            unfold FM.x endItemX
            simp only [rxs_app]
            have : Rt.rxs [r] = [notN f.n f.la.rx] := by rw [← he]; rfl
            rw [this]
          rw [e2] at this
          exact this
        · rcases List.mem_append.1 hg with hg | hg
          · exact hts t (h3 g (by simp [hg]) t ht)
          · simp at hg; subst hg
            simp only [FM.ts, List.mem_append, List.mem_cons, List.not_mem_nil, or_false] at ht
            rcases ht with (((ht | ht) | ht) | (ht | rfl)) | rfl
            · exact hts t (h3 f (by simp) t (by simp [FM.ts, ht]))
            · exact hts t (h3 f (by simp) t (by simp [FM.ts, ht]))
            · exact hts t (h3 f (by simp) t (by simp [FM.ts, ht]))
            · exact hts t (h3 f (by simp) t (by simp [FM.ts, ht]))
            · exact hr
            · exact hts _ hla
      refine ⟨?_, ?_⟩
      · rw [nr]
        refine H5.put4 (bs := [b2]) 2 (fs.length * 4 + 3) f.ca.2.length r rfl (List.getElem?_set_self hjl) hq (Rt.cs_len _) (fun w' H6 => ?_) (by simp)
        rw [List.set_set] at H6
        exact H6.stF (bs := [b2]) (f := ⟨f.k, f.ar, f.al, f.an, f.ca, 0, f.la⟩) 1 ⟨f.k, f.ar, f.al, f.an, (s', f.ca.2 ++ [r]), 0, f.la⟩ 4 rfl h4 (by omega) rfl (fun w'' H7 => fin H7) (by simp)
      · refine H5.stF (bs := [b2]) (f := ⟨f.k, f.ar, f.al, f.an, f.ca, 0, f.la⟩) 1 ⟨f.k, f.ar, f.al, f.an, (s', f.ca.2 ++ [r]), 0, f.la⟩ 4 rfl h4 (by omega) rfl (fun w' H6 => ?_) (by simp)
        rw [nr]
        refine LH.put4 (bs := [b2]) (L := SL rb sl st wd ((fs ++ [(⟨f.k, f.ar, f.al, f.an, (s', f.ca.2 ++ [r]), 0, f.la⟩ : FM)]).flatMap FM.c) (((fs ++ [f]).flatMap FM.rows).set (fs.length * 4 + 3) (s', f.ca.2.flatMap Rt.c ++ z4)) ++ [.g b2]) H6 2 (fs.length * 4 + 3) f.ca.2.length r rfl (List.getElem?_set_self hjl) hq (Rt.cs_len _) (fun w'' H7 => ?_) (by simp)
        rw [List.set_set] at H7
        exact fin H7
    | succ m ih =>
      intro r ts' b2 w1 hm hts hbl hr he H1
      refine regex_frame_endItem.L0T_step _ _ _ _ _ _ _ _ ⟨((m + 1 : Nat) : Int), H1.ldF 1 rfl h4 5, sel_true (decide_eq_true (by omega)) ?_⟩
      refine H1.nwrow (e := ty_regex_Regex) (sz := 4) (n := 1) (cs := r.c) rfl (by decide) fun w2 H2 => H2.locg (bs := [b2]) (fun w3 H3 => ⟨_, H3.ldF 1 rfl h4 5, ?_⟩) (by simp)
      have e : IntKind.wrap .i64 (((m + 1 : Nat) : Int) - 1) = (m : Int) := by rw [IntWalk.i64_in _ (by omega)]; omega
      show stV w3 _ (.int .i64 (IntKind.wrap .i64 (((m + 1 : Nat) : Int) - 1))) _
      rw [e]
      refine H3.stF (bs := [b2]) (f := ⟨f.k, f.ar, f.al, f.an, f.ca, m + 1, f.la⟩) 1 ⟨f.k, f.ar, f.al, f.an, f.ca, m, f.la⟩ 5 rfl h4 (by omega) rfl (fun w4 H4 => ?_) (by simp)
      have H5 := H4.freeze 4 (Rt.row ⟨some (at0 w1.heap.size), 1, 1⟩ [r]) rfl (by show RdN 4 w4 _ ([r].flatMap Rt.c); rw [show [r].flatMap Rt.c = r.c by simp]; exact OwnRow.rdn (H4.get 4)) (fun b hb => rdn_own (e := ty_regex_Regex) (vs := [r].flatMap Rt.c) hb)
      have H6 := H5.node 0 6 0 0 (s := ⟨some (at0 w1.heap.size), 1, 1⟩) (ks := [r]) rfl (by simp) (fun t ht => by simp at ht; subst ht; exact hr)
      refine ih (.mk 6 0 0 ⟨some (at0 w1.heap.size), 1, 1⟩ [r]) _ b2 w4 (by omega) (fun t ht => by simp [hts t ht]) (fun b hb => ?_) (by simp) he H6
      obtain ⟨t, ht, hbt⟩ := Rt.fps_iff.1 hb
      rcases List.mem_append.1 ht with ht | ht
      · exact hbl b (Rt.fps_iff.2 ⟨t, ht, hbt⟩)
      · simp at ht
        rw [ht] at hbt
        rcases Rt.fp_parts.1 hbt with h | h
        · have := rdn_own (e := ty_regex_Regex) h
          simp [En.row, blkL, Rt.s] at this
          subst this
          exact .inr (.inr H1.fr.size)
        · obtain ⟨t', ht', hb'⟩ := Rt.fps_iff.1 h
          simp [Rt.l] at ht'
          rw [ht'] at hb'
          exact hbl b (Rt.fps_iff.2 ⟨r, hr, hb'⟩)
  obtain ⟨c0, c1, c2, c3⟩ := H.ldLast 1 rfl h4
  have hn' : f.n ≤ 1000000 := hn
  refine regex_frame_endItem.okT _ w _ ⟨_, _, _, _, c0, c1, c2, c3, H.newg (fun b2 w1 H1 => H1.locg (fun w2 H2 => ?_) (by simp)) (by simp)⟩
  exact loop f.n f.la ts b2 w2 hn' (fun _ h => h) (fun b hb => .inl hb) hla rfl H2
end Go.Proofs.YtknlbofiicflgaaGreat
namespace Go.Proofs.YtknlbofiicflgaaGreat
open Go Go.W

def FM.col (f : FM) (j : Nat) : Sl × List Rt := if j = 1 then f.ar else if j = 2 then f.al else if j = 3 then f.an else f.ca
def FM.put (f : FM) (j : Nat) (x : Sl × List Rt) : FM := ⟨f.k, if j = 1 then x else f.ar, if j = 2 then x else f.al, if j = 3 then x else f.an, if j = 4 then x else f.ca, f.n, f.la⟩
theorem col_cases {j : Nat} (h1 : 1 ≤ j) (h4 : j ≤ 4) {p : Nat → Prop} (a1 : p 1) (a2 : p 2) (a3 : p 3) (a4 : p 4) : p j := by
  have : j = 1 ∨ j = 2 ∨ j = 3 ∨ j = 4 := by omega
  rcases this with rfl | rfl | rfl | rfl <;> assumption
theorem col_c (f : FM) {j : Nat} (h1 : 1 ≤ j) (h4 : j ≤ 4) : f.c[j]? = some (f.col j).1.v := col_cases (p := fun j => f.c[j]? = some (f.col j).1.v) h1 h4 rfl rfl rfl rfl
theorem col_r (f : FM) {j : Nat} (h1 : 1 ≤ j) (h4 : j ≤ 4) : f.rows[j - 1]? = some ((f.col j).1, (f.col j).2.flatMap Rt.c) := col_cases (p := fun j => f.rows[j - 1]? = some ((f.col j).1, (f.col j).2.flatMap Rt.c)) h1 h4 rfl rfl rfl rfl
theorem put_c (f : FM) (x : Sl × List Rt) {j : Nat} (h1 : 1 ≤ j) (h4 : j ≤ 4) : f.c.set j x.1.v = (f.put j x).c := col_cases (p := fun j => f.c.set j x.1.v = (f.put j x).c) h1 h4 rfl rfl rfl rfl
theorem put_r (f : FM) (x : Sl × List Rt) {j : Nat} (h1 : 1 ≤ j) (h4 : j ≤ 4) : f.rows.set (j - 1) (x.1, x.2.flatMap Rt.c) = (f.put j x).rows := col_cases (p := fun j => f.rows.set (j - 1) (x.1, x.2.flatMap Rt.c) = (f.put j x).rows) h1 h4 rfl rfl rfl rfl
theorem put_ts (f : FM) (x : Sl × List Rt) {j : Nat} (h1 : 1 ≤ j) (h4 : j ≤ 4) {t : Rt} (ht : t ∈ (f.put j x).ts) : t ∈ f.ts ∨ t ∈ x.2 := by
  refine col_cases (p := fun j => t ∈ (f.put j x).ts → t ∈ f.ts ∨ t ∈ x.2) h1 h4 ?_ ?_ ?_ ?_ ht <;>
  · intro ht
    simp [FM.put, FM.ts] at ht ⊢
    rcases ht with h | h | h | h | h <;> simp [h]
theorem col_ts (f : FM) (j : Nat) {t : Rt} (ht : t ∈ (f.col j).2) : t ∈ f.ts := by
  unfold FM.col at ht
  unfold FM.ts
  split at ht
  · simp [ht]
  · split at ht
    · simp [ht]
    · split at ht
      · simp [ht]
      · simp [ht]
theorem put_col (f : FM) (x : Sl × List Rt) {j i : Nat} (hij : i ≠ j) (hi : 1 ≤ i) (hi4 : i ≤ 4) : (f.put j x).col i = f.col i := by
  have : i = 1 ∨ i = 2 ∨ i = 3 ∨ i = 4 := by omega
  unfold FM.put FM.col
  rcases this with rfl | rfl | rfl | rfl
  · simp; intro h; omega
  · simp; intro h; omega
  · simp; intro h; omega
  · simp; intro h; omega
theorem kept_nil {w w' : World} : kept [] w w' := fun b hb => by cases hb
section
variable {w0 w : World} {own : List Nat} {rb : Nat} {sl : Sl} {st wd : Int} {fs : List FM} {f : FM} {ts : List Rt} {p : Addr}
abbrev FS (own : List Nat) (w0 w : World) (rb : Nat) (sl : Sl) (st wd : Int) (fs : List FM) (f : FM) (rs : List RowV) (ts : List Rt) : Prop := LH (· ∈ own) w0 w (SL rb sl st wd ((fs ++ [f]).flatMap FM.c) rs) [.trees ts]
theorem fr_rows (fs : List FM) (f : FM) (x : Sl × List Rt) {j : Nat} (h1 : 1 ≤ j) (h4 : j ≤ 4) : ((fs ++ [f]).flatMap FM.rows).set (fs.length * 4 + (j - 1)) (x.1, x.2.flatMap Rt.c) = (fs ++ [f.put j x]).flatMap FM.rows := by
  rw [rows_set fs f (j - 1) _ (by omega), put_r f x h1 h4, List.flatMap_append]
  simp
/-- a tree is appended to one of a frame's lists -/
theorem push_row (H : FS own w0 w rb sl st wd fs f ((fs ++ [f]).flatMap FM.rows) ts) (hp : sl.a = some p) (d : Nat) (hd1 : 1 ≤ d) (hd4 : d ≤ 4) (t : Rt) (hb : (f.col d).2.length ≤ 1000000) {w1 : World} {src : Sl} (H1 : LH (· ∈ own) w0 w1 (SL rb sl st wd ((fs ++ [f]).flatMap FM.c) ((fs ++ [f]).flatMap FM.rows) ++ [.row ty_regex_Regex 4 src z4]) [.trees ts]) (hsn : src.n = 1) {K : World → Prop}
    (hK : ∀ s' w', FS own w0 w' rb sl st wd fs (f.put d (s', (f.col d).2 ++ [t])) ((fs ++ [f.put d (s', (f.col d).2 ++ [t])]).flatMap FM.rows) ts → K w') :
    ∃ (t15 : Sl) (w5 : World), (Builtin.append_ #[ty_sl_regex_Regex, ty_sl_regex_Regex] ty_sl_regex_Regex #[(f.col d).1.v, src.v]).run Tryz.prog w1 = .ok (t15.v) w5 ∧ (0 : Int) ≤ (((f.col d).1.n : Nat) : Int) ∧ (((f.col d).1.n : Nat) : Int) < ((t15.n : Nat) : Int) ∧ optP t15.a fun q => ((stV w5 (q.add (Int.toNat (((f.col d).1.n : Nat) : Int) * 4)) (.int .i64 t.k) fun w6 => stV w6 ((q.add (Int.toNat (((f.col d).1.n : Nat) : Int) * 4)).add 1) (.int .u8 (t.lo.toNat : Int)) fun w7 => stV w7 ((q.add (Int.toNat (((f.col d).1.n : Nat) : Int) * 4)).add 2) (.int .u8 (t.hi.toNat : Int)) fun w8 => stV w8 ((q.add (Int.toNat (((f.col d).1.n : Nat) : Int) * 4)).add 3) t.s.v fun w9 => stV w9 ((p.add (fs.length * 10)).add d) t15.v K) ∧
      (stV w5 ((p.add (fs.length * 10)).add d) t15.v fun w11 => stV w11 (q.add (Int.toNat (((f.col d).1.n : Nat) : Int) * 4)) (.int .i64 t.k) fun w6 => stV w6 ((q.add (Int.toNat (((f.col d).1.n : Nat) : Int) * 4)).add 1) (.int .u8 (t.lo.toNat : Int)) fun w7 => stV w7 ((q.add (Int.toNat (((f.col d).1.n : Nat) : Int) * 4)).add 2) (.int .u8 (t.hi.toNat : Int)) fun w8 => stV w8 ((q.add (Int.toNat (((f.col d).1.n : Nat) : Int) * 4)).add 3) t.s.v K)) := by
  have hrow : ((fs ++ [f]).flatMap FM.rows)[fs.length * 4 + (d - 1)]? = some ((f.col d).1, (f.col d).2.flatMap Rt.c) := rows_get fs f (d - 1) _ (col_r f hd1 hd4)
  have nr : (f.col d).1.n = (f.col d).2.length := by
    have hp : (En.rows ((fs ++ [f]).flatMap FM.rows)).P w1 := H1.get 2
    exact Rt.rows_n (hp.1 _ (List.mem_of_getElem? hrow)).rdn
  obtain ⟨s', w5, h1, _, h3⟩ := H1.apRow (bs := []) (ty := ty_sl_regex_Regex) 2 (fs.length * 4 + (d - 1)) (src := src) (news := z4) (K := fun s' w' => FS own w0 w' rb sl st wd fs f (((fs ++ [f]).flatMap FM.rows).set (fs.length * 4 + (d - 1)) (s', (f.col d).2.flatMap Rt.c ++ z4)) ts ∧ s'.n = (f.col d).1.n + 1 ∧ ∃ q, s'.a = some q) rfl hrow (OwnRow.rdn (H1.get 3)) (by simp [Value.oneCell']) (by omega) (fun s' w4 H4 hn' hnone => ⟨H4.take 3, by omega, by
    cases hs : s'.a with
    | none => have := (hnone hs).2; omega
    | some q => exact ⟨q, rfl⟩⟩) (by simp)
  obtain ⟨H5, hn5, q, hq⟩ := h3
  refine ⟨s', w5, h1, by omega, by omega, ?_⟩
  rw [hq]
  have hjl : fs.length * 4 + (d - 1) < ((fs ++ [f]).flatMap FM.rows).length := by rw [rows_len]; simp; omega
  have ec : ∀ (f : FM) (t : Rt) (d : Nat), (f.col d).2.flatMap Rt.c ++ t.c = ((f.col d).2 ++ [t]).flatMap Rt.c := fun f t d => by simp
  rw [nr]
  refine ⟨?_, ?_⟩
  · have st := LH.put4 (bs := []) (K := fun w9 => stV w9 ((p.add (fs.length * 10)).add d) s'.v K) H5 2 (fs.length * 4 + (d - 1)) (f.col d).2.length t rfl (List.getElem?_set_self hjl) hq (Rt.cs_len _) (fun w' H6 => ?_) (by simp)
    · exact stV_imp st fun _ h => stV_imp h.2 fun _ h => stV_imp h.2 fun _ h => stV_imp h.2 fun _ h => h.2
    · rw [List.set_set, ec, fr_rows fs f (s', (f.col d).2 ++ [t]) hd1 hd4] at H6
      exact st_drop (H6.stF (bs := []) (f := f) 1 (f.put d (s', (f.col d).2 ++ [t])) d rfl hp (by omega) (put_c f (s', (f.col d).2 ++ [t]) hd1 hd4) (fun w'' H7 => hK s' w'' H7) (by simp))
  · refine st_drop (H5.stF (bs := []) (f := f) 1 (f.put d (s', (f.col d).2 ++ [t])) d rfl hp (by omega) (put_c f (s', (f.col d).2 ++ [t]) hd1 hd4) (fun w' H6 => ?_) (by simp))
    have st := LH.put4 (bs := []) (K := K) (L := SL rb sl st wd ((fs ++ [f.put d (s', (f.col d).2 ++ [t])]).flatMap FM.c) (((fs ++ [f]).flatMap FM.rows).set (fs.length * 4 + (d - 1)) (s', (f.col d).2.flatMap Rt.c ++ z4))) H6 2 (fs.length * 4 + (d - 1)) (f.col d).2.length t rfl (List.getElem?_set_self hjl) hq (Rt.cs_len _) (fun w'' H7 => ?_) (by simp)
    · exact stV_imp st fun _ h => stV_imp h.2 fun _ h => stV_imp h.2 fun _ h => stV_imp h.2 fun _ h => h.2
    · rw [List.set_set, ec, fr_rows fs f (s', (f.col d).2 ++ [t]) hd1 hd4] at H7
      exact hK s' w'' H7
/-- one(kind, a list) is appended to another list, and the list is emptied -/
theorem shift (H : FS own w0 w rb sl st wd fs f ((fs ++ [f]).flatMap FM.rows) ts) (hp : sl.a = some p) (k : Int) (d s : Nat) (hd1 : 1 ≤ d) (hs : s = d + 1) (hs4 : s ≤ 4) (hb : (f.col d).2.length ≤ 1000000) (hts : ∀ t ∈ f.ts, t ∈ ts) {R : Post}
    (hK : ∀ s' w', FS own w0 w' rb sl st wd fs ((f.put d (s', (f.col d).2 ++ [oneT k (f.col s).1 (f.col s).2])).put s (⟨none, 0, 0⟩, [])) ((fs ++ [(f.put d (s', (f.col d).2 ++ [oneT k (f.col s).1 (f.col s).2])).put s (⟨none, 0, 0⟩, [])]).flatMap FM.rows) (ts ++ [oneT k (f.col s).1 (f.col s).2]) → R (.returned (.tuple #[])) w') :
    drV w fun w2 => ∃ t7 : Sl, w2.cell? ((p.add (fs.length * 10)).add d) = some (t7.v) ∧ ∃ t11 : Sl, w2.cell? ((p.add (fs.length * 10)).add s) = some (t11.v) ∧
      ((Calls Tryz.prog n_regex_one #[.i k, t11.v] w2 fun r_ w3 => ∃ t12_0 : Int, ∃ t12_1 : Int, ∃ t12_2 : Int, ∃ t12_3 : Sl, r_ = .returned (.agg #[.i t12_0, .int .u8 t12_1, .int .u8 t12_2, t12_3.v]) ∧
        w3.cell? ((p.add (fs.length * 10)).add d) = some (t7.v) ∧ nwV w3 (.cells #[.i 0, .int .u8 0, .int .u8 0, .slice none 0 0] ty_regex_Regex) fun w4 =>
        w4.cell? ((p.add (fs.length * 10)).add d) = some (t7.v) ∧ ∃ (t15 : Sl) (w5 : World), Sem.run Tryz.prog (Builtin.append_ #[ty_sl_regex_Regex, ty_sl_regex_Regex] ty_sl_regex_Regex #[t7.v, .slice (some (nb w3)) 1 1]) w4 = .ok (t15.v) w5 ∧ (0 : Int) ≤ ((t7.n : Nat) : Int) ∧ ((t7.n : Nat) : Int) < ((t15.n : Nat) : Int) ∧ optP t15.a fun q => ((stV w5 (q.add (Int.toNat ((t7.n : Nat) : Int) * 4)) (.i t12_0) fun w6 =>
        stV w6 ((q.add (Int.toNat ((t7.n : Nat) : Int) * 4)).add 1) (.int .u8 t12_1) fun w7 => stV w7 ((q.add (Int.toNat ((t7.n : Nat) : Int) * 4)).add 2) (.int .u8 t12_2) fun w8 => stV w8 ((q.add (Int.toNat ((t7.n : Nat) : Int) * 4)).add 3) (t12_3.v) fun w9 =>
        stV w9 ((p.add (fs.length * 10)).add d) (t15.v) fun w10 => stV w10 ((p.add (fs.length * 10)).add s) (.slice none 0 0) fun w1 => R (.returned (.tuple #[])) w1) ∧
        (stV w5 ((p.add (fs.length * 10)).add d) (t15.v) fun w11 => stV w11 (q.add (Int.toNat ((t7.n : Nat) : Int) * 4)) (.i t12_0) fun w12 => stV w12 ((q.add (Int.toNat ((t7.n : Nat) : Int) * 4)).add 1) (.int .u8 t12_1) fun w13 =>
        stV w13 ((q.add (Int.toNat ((t7.n : Nat) : Int) * 4)).add 2) (.int .u8 t12_2) fun w14 => stV w14 ((q.add (Int.toNat ((t7.n : Nat) : Int) * 4)).add 3) (t12_3.v) fun w15 => stV w15 ((p.add (fs.length * 10)).add s) (.slice none 0 0) fun w1 => R (.returned (.tuple #[])) w1))) ∧
      (nwV w2 (.cells #[.i 0, .int .u8 0, .int .u8 0, .slice none 0 0] ty_regex_Regex) fun w16 => w16.cell? ((p.add (fs.length * 10)).add s) = some (t11.v) ∧ w16.cell? ((p.add (fs.length * 10)).add d) = some (t7.v) ∧
        Calls Tryz.prog n_regex_one #[.i k, t11.v] w16 fun r_ w17 => ∃ t12_0 : Int, ∃ t12_1 : Int, ∃ t12_2 : Int, ∃ t12_3 : Sl, r_ = .returned (.agg #[.i t12_0, .int .u8 t12_1, .int .u8 t12_2, t12_3.v]) ∧
        w17.cell? ((p.add (fs.length * 10)).add d) = some (t7.v) ∧ ∃ (t15 : Sl) (w5 : World), Sem.run Tryz.prog (Builtin.append_ #[ty_sl_regex_Regex, ty_sl_regex_Regex] ty_sl_regex_Regex #[t7.v, .slice (some (nb w2)) 1 1]) w17 = .ok (t15.v) w5 ∧ (0 : Int) ≤ ((t7.n : Nat) : Int) ∧ ((t7.n : Nat) : Int) < ((t15.n : Nat) : Int) ∧ optP t15.a fun q => ((stV w5 (q.add (Int.toNat ((t7.n : Nat) : Int) * 4)) (.i t12_0) fun w6 =>
        stV w6 ((q.add (Int.toNat ((t7.n : Nat) : Int) * 4)).add 1) (.int .u8 t12_1) fun w7 => stV w7 ((q.add (Int.toNat ((t7.n : Nat) : Int) * 4)).add 2) (.int .u8 t12_2) fun w8 => stV w8 ((q.add (Int.toNat ((t7.n : Nat) : Int) * 4)).add 3) (t12_3.v) fun w9 =>
        stV w9 ((p.add (fs.length * 10)).add d) (t15.v) fun w10 => stV w10 ((p.add (fs.length * 10)).add s) (.slice none 0 0) fun w1 => R (.returned (.tuple #[])) w1) ∧
        (stV w5 ((p.add (fs.length * 10)).add d) (t15.v) fun w11 => stV w11 (q.add (Int.toNat ((t7.n : Nat) : Int) * 4)) (.i t12_0) fun w12 => stV w12 ((q.add (Int.toNat ((t7.n : Nat) : Int) * 4)).add 1) (.int .u8 t12_1) fun w13 =>
        stV w13 ((q.add (Int.toNat ((t7.n : Nat) : Int) * 4)).add 2) (.int .u8 t12_2) fun w14 => stV w14 ((q.add (Int.toNat ((t7.n : Nat) : Int) * 4)).add 3) (t12_3.v) fun w15 => stV w15 ((p.add (fs.length * 10)).add s) (.slice none 0 0) fun w1 => R (.returned (.tuple #[])) w1)))) := by
  subst hs
  have hs1 : 1 ≤ d + 1 := by omega
  have hd4 : d ≤ 4 := by omega
  have hrow : ((fs ++ [f]).flatMap FM.rows)[fs.length * 4 + (d + 1 - 1)]? = some ((f.col (d + 1)).1, (f.col (d + 1)).2.flatMap Rt.c) := rows_get fs f (d + 1 - 1) _ (col_r f hs1 hs4)
  have rd : ∀ {w' : World} {G : List En}, LH (· ∈ own) w0 w' (SL rb sl st wd ((fs ++ [f]).flatMap FM.c) ((fs ++ [f]).flatMap FM.rows) ++ G) [.trees ts] → RdN 4 w' (f.col (d + 1)).1 ((f.col (d + 1)).2.flatMap Rt.c) := fun H' => by
    have hP : (En.rows ((fs ++ [f]).flatMap FM.rows)).P _ := H'.get 2
    exact (hP.1 _ (List.mem_of_getElem? hrow)).rdn
  -- the end
  have fin : ∀ s' w', FS own w0 w' rb sl st wd fs (f.put d (s', (f.col d).2 ++ [oneT k (f.col (d + 1)).1 (f.col (d + 1)).2])) ((fs ++ [f.put d (s', (f.col d).2 ++ [oneT k (f.col (d + 1)).1 (f.col (d + 1)).2])]).flatMap FM.rows) ts →
      stV w' ((p.add (fs.length * 10)).add (d + 1)) (.slice none 0 0) fun w1 => R (.returned (.tuple #[])) w1 := fun s' w' H' => by
    have hc : (f.put d (s', (f.col d).2 ++ [oneT k (f.col (d + 1)).1 (f.col (d + 1)).2])).col (d + 1) = f.col (d + 1) := put_col f _ (by omega) hs1 hs4
    refine st_drop (H'.stF (bs := []) 1 ((f.put d (s', (f.col d).2 ++ [oneT k (f.col (d + 1)).1 (f.col (d + 1)).2])).put (d + 1) (⟨none, 0, 0⟩, [])) (d + 1) rfl hp (by omega) (put_c _ (⟨none, 0, 0⟩, []) hs1 hs4) (fun w1 H1 => hK s' w1 ?_) (by simp))
    have hrow' := rows_get fs (f.put d (s', (f.col d).2 ++ [oneT k (f.col (d + 1)).1 (f.col (d + 1)).2])) (d + 1 - 1) _ (col_r _ hs1 hs4)
    rw [hc] at hrow'
    have H2 := H1.giveRow 2 (fs.length * 4 + (d + 1 - 1)) rfl hrow'
    have H3 := H2.nodeOne 0 k (s := (f.col (d + 1)).1) (ks := (f.col (d + 1)).2) rfl (by simp) fun t ht => hts t (col_ts f _ ht)
    have e := fr_rows fs (f.put d (s', (f.col d).2 ++ [oneT k (f.col (d + 1)).1 (f.col (d + 1)).2])) (⟨none, 0, 0⟩, []) hs1 hs4
    have e' : (([] : List Rt).flatMap Rt.c) = [] := rfl
    rw [e'] at e
    simp only at e
    rw [← e]
    exact H3
  have c7 : ∀ {w' : World} {G : List En}, LH (· ∈ own) w0 w' (SL rb sl st wd ((fs ++ [f]).flatMap FM.c) ((fs ++ [f]).flatMap FM.rows) ++ G) [.trees ts] → w'.cell? ((p.add (fs.length * 10)).add d) = some ((f.col d).1.v) := fun H' => H'.ldF 1 rfl hp d (col_c f hd1 hd4)
  have c11 : ∀ {w' : World} {G : List En}, LH (· ∈ own) w0 w' (SL rb sl st wd ((fs ++ [f]).flatMap FM.c) ((fs ++ [f]).flatMap FM.rows) ++ G) [.trees ts] → w'.cell? ((p.add (fs.length * 10)).add (d + 1)) = some ((f.col (d + 1)).1.v) := fun H' => H'.ldF 1 rfl hp (d + 1) (col_c f hs1 hs4)
  refine H.dr fun w2 H2 => ⟨_, c7 (G := []) H2, _, c11 (G := []) H2, ?_, H2.nwrow (e := ty_regex_Regex) (sz := 4) (n := 1) (cs := z4) rfl (by decide) fun w3 H3 => ⟨c11 H3, c7 H3, ?_⟩⟩
  · refine H2.call (c_oneF k _ _ w2 (rd (G := []) H2)) ?_
    rintro _ w3 rfl H3
    refine ⟨_, _, _, _, rfl, c7 (G := []) H3, H3.nwrow (e := ty_regex_Regex) (sz := 4) (n := 1) (cs := z4) rfl (by decide) fun w4 H4 => ⟨c7 H4, ?_⟩⟩
    exact push_row H hp d hd1 hd4 (oneT k (f.col (d + 1)).1 (f.col (d + 1)).2) hb (src := ⟨some (at0 w3.heap.size), 1, 1⟩) H4 rfl fin
  · refine H3.call (c_oneF k _ _ w3 (rd H3)) ?_
    rintro _ w4 rfl H4
    refine ⟨_, _, _, _, rfl, c7 H4, ?_⟩
    exact push_row H hp d hd1 hd4 (oneT k (f.col (d + 1)).1 (f.col (d + 1)).2) hb (src := ⟨some (at0 w2.heap.size), 1, 1⟩) H4 rfl fin
end
end Go.Proofs.YtknlbofiicflgaaGreat

/- Package regex: the reader's methods: the contracts. Package regex: calls of the reader's methods; endExpr, top, push, atom: the contracts. Package regex: top, push, atom, item: the contracts. Package regex: item: the contract. -/
import Derived.Test.YtknlbofiicflgaaGreatR3
namespace Go.Proofs.YtknlbofiicflgaaGreat
open Go Go.W

/-- after a method of a reader -/
def StP (w : World) (own : List Nat) (ts : List Rt) (rb : Nat) (Q : Ending → Addr → List FX → FX → Int → Int → List Rt → Prop) : Post := fun r w' => ∃ f0' lo' tp' st' wd', StAt w own ts rb f0' lo' tp' st' wd' (Q r f0' lo' tp' st' wd') w'
section
variable {M : Nat → Prop} {w0 w : World} {L D : List En} {bs : List Nat}
theorem _root_.Go.W.LH.cs (H : LH M w0 w L D) (i : Nat) {rb : Nat} {f0 : Addr} {lo : List FX} {tp : FX} {st wd : Int} {own : List Nat} {ts : List Rt} {g : FuncId} {args : Array Value} {K : Post} {Q : Ending → Addr → List FX → FX → Int → Int → List Rt → Prop} (hi : L[i]? = some (.stt rb f0 lo tp st wd own ts))
    (hc : St w rb f0 lo tp st wd own ts → Calls Tryz.prog g args w (StP w own ts rb Q))
    (hk : ∀ r w' f0' lo' tp' st' wd' own' ts', (∀ t ∈ ts, t ∈ ts') → Q r f0' lo' tp' st' wd' ts' → LH M w0 w' (L.set i (.stt rb f0' lo' tp' st' wd' own' ts')) D → K r w') (hbs : ∀ b ∈ bs, En.g b ∈ L := by simp) : callF bs Tryz.prog g args w K := by
  refine ⟨(· ∈ own), fun b hb hm => ?_, (hc (H.get i hi)).mono ?_⟩
  · exact ghost_off H hi (stt_off _ _ _ _ _ _ _ _ w) (hbs b hb) (mem_nub.2 (List.mem_append_left _ hm))
  · rintro r w' ⟨f0', lo', tp', st', wd', own', ts', s', f, o, b, t, q⟩
    refine ⟨f, hk r w' f0' lo' tp' st' wd' own' ts' t q (H.upd i _ hi (f.mono fun x _ hx => mem_nub.2 (List.mem_append_left _ hx)) s' fun x hx => ?_)⟩
    rcases List.mem_append.1 (mem_nub.1 hx) with hx | hx
    · exact (o x hx).imp (fun h => mem_nub.2 (List.mem_append_left _ h)) id
    · rcases b x hx with h | h | h
      · exact .inl (mem_nub.2 (List.mem_append_right _ h))
      · exact .inl (mem_nub.2 (List.mem_append_left _ h))
      · exact .inr h
/-- a reader is looked into -/
theorem _root_.Go.W.LH.openS {G : List En} {rb : Nat} {f0 : Addr} {lo : List FX} {tp : FX} {st wd : Int} {own : List Nat} {ts : List Rt} (H : LH M w0 w (.stt rb f0 lo tp st wd own ts :: G) []) :
    ∃ (sl : Sl) (fs : List FM) (f : FM) (p : Addr), fs.map FM.x = lo ∧ f.x = tp ∧ (∀ g ∈ fs ++ [f], ∀ t ∈ g.ts, t ∈ ts) ∧ sl.a = some p ∧ f0 = p.add (fs.length * 10) ∧ (∀ b ∈ Rt.fps ts, w0.heap.size ≤ b ∨ M b) ∧
      LH M w0 w (SL rb sl st wd ((fs ++ [f]).flatMap FM.c) ((fs ++ [f]).flatMap FM.rows) ++ G) [.trees ts] := by
  obtain ⟨sl, fs, f, p, h1, h2, h3, h4, h5, h6, h7, h8, h9, h10⟩ := (show St w rb f0 lo tp st wd own ts from H.get 0)
  have nd := H.nd
  rw [List.flatMap_cons, List.nodup_append] at nd
  have hfp : ∀ b, b ∈ (En.stt rb f0 lo tp st wd own ts).fp ↔ b ∈ own ∨ b ∈ Rt.fps ts := fun b => by
    show b ∈ nub _ ↔ _
    rw [mem_nub, List.mem_append]
  refine ⟨sl, fs, f, p, h1, h2, h3, h4, h5, fun b hb => H.new _ List.mem_cons_self b ((hfp b).2 (.inr hb)), H.fr, fun e he => ?_, fun e he => ?_, fun e he b hb => ?_, ?_, fun e he b hb e' he' hb' => ?_⟩
  · rcases List.mem_append.1 he with he | he
    · exact h8 e he
    · exact H.own e (List.mem_cons_of_mem _ he)
  · simp at he; subst he; exact h9
  · rcases List.mem_append.1 he with he | he
    · exact H.new _ List.mem_cons_self b ((hfp b).2 (.inl (by rw [h6]; exact List.mem_flatMap.2 ⟨e, he, hb⟩)))
    · exact H.new e (List.mem_cons_of_mem _ he) b hb
  · rw [List.flatMap_append, List.nodup_append]
    refine ⟨h6 ▸ h7, nd.2.1, fun x hx y hy => nd.2.2 x ((hfp x).2 (.inl (by rw [h6]; exact hx))) y hy⟩
  · simp at he; subst he
    have hb : b ∈ Rt.fps ts := mem_nub.1 hb
    rcases List.mem_append.1 he' with he' | he'
    · exact h10 b hb (by rw [h6]; exact List.mem_flatMap.2 ⟨e', he', hb'⟩)
    · exact nd.2.2 b ((hfp b).2 (.inr hb)) b (List.mem_flatMap.2 ⟨e', he', hb'⟩) rfl
end
/-! #### endSeq, endConj, endExpr -/
def endSeqX (f : FX) : FX := ⟨f.k, f.ar, f.al, f.an ++ [oneX 3 (endItemX f).ca], [], 0, f.la⟩
def endConjX (f : FX) : FX := ⟨f.k, f.ar, f.al ++ [oneX 5 (endSeqX f).an], [], [], 0, f.la⟩
def endExprX (f : FX) : FX := ⟨f.k, f.ar, [], [], [], 0, f.la⟩
def exprX (f : FX) : Rx := oneX 4 (endConjX f).al
theorem snoc_blocks {w0 : World} {M : Nat → Prop} {w : World} {own : List Nat} {ts ts0 : List Rt} {k : Int} {s : Sl} {ks : List Rt} (hb : ∀ b ∈ Rt.fps ts, b ∈ Rt.fps ts0 ∨ b ∈ own ∨ w.heap.size ≤ b) (hs : ∀ b ∈ blkL s, b ∈ own ∨ w.heap.size ≤ b) (hk : ∀ t ∈ ks, t ∈ ts) : ∀ b ∈ Rt.fps (ts ++ [oneT k s ks]), b ∈ Rt.fps ts0 ∨ b ∈ own ∨ w.heap.size ≤ b := fun b hb' => by
  obtain ⟨t, ht, hbt⟩ := Rt.fps_iff.1 hb'
  rcases List.mem_append.1 ht with ht | ht
  · exact hb b (Rt.fps_iff.2 ⟨t, ht, hbt⟩)
  · simp at ht
    rw [ht] at hbt
    rcases oneT_fp hbt with h | h
    · exact .inr (hs b (rdn_own (e := ty_regex_Regex) h))
    · obtain ⟨t', ht', hb''⟩ := Rt.fps_iff.1 h
      exact hb b (Rt.fps_iff.2 ⟨t', hk t' ht', hb''⟩)
theorem row_new {own : List Nat} {w0 w : World} {rb : Nat} {sl : Sl} {st wd : Int} {fs : List FM} {f : FM} {ts : List Rt} (H : FS own w0 w rb sl st wd fs f ((fs ++ [f]).flatMap FM.rows) ts) {j : Nat} (h1 : 1 ≤ j) (h4 : j ≤ 4) : ∀ b ∈ blkL (f.col j).1, b ∈ own ∨ w0.heap.size ≤ b := fun b hb => by
  have hrow := rows_get fs f (j - 1) _ (col_r f h1 h4)
  exact (H.new (.rows ((fs ++ [f]).flatMap FM.rows)) (by simp) b (mem_nub.2 (List.mem_flatMap.2 ⟨_, List.mem_of_getElem? hrow, hb⟩))).symm
theorem shift_ts {fs : List FM} {f : FM} {ts : List Rt} {k : Int} {d s : Nat} {s' : Sl} (h3 : ∀ g ∈ fs ++ [f], ∀ t ∈ g.ts, t ∈ ts) (hd1 : 1 ≤ d) (hd4 : d ≤ 4) (hs1 : 1 ≤ s) (hs4 : s ≤ 4) : ∀ g ∈ fs ++ [(f.put d (s', (f.col d).2 ++ [oneT k (f.col s).1 (f.col s).2])).put s (⟨none, 0, 0⟩, [])], ∀ t ∈ g.ts, t ∈ ts ++ [oneT k (f.col s).1 (f.col s).2] := by
  intro g hg t ht
  rcases List.mem_append.1 hg with hg | hg
  · exact List.mem_append_left _ (h3 g (by simp [hg]) t ht)
  · simp at hg; subst hg
    rcases put_ts _ _ hs1 hs4 ht with h | h
    · rcases put_ts _ _ hd1 hd4 h with h | h
      · exact List.mem_append_left _ (h3 f (by simp) t h)
      · rcases List.mem_append.1 h with h | h
        · exact List.mem_append_left _ (h3 f (by simp) t (col_ts f d h))
        · exact List.mem_append_right _ h
    · cases h
theorem c_endSeq {w : World} {rb : Nat} {f0 : Addr} {lo : List FX} {tp : FX} {st wd : Int} {own : List Nat} {ts : List Rt} (h : St w rb f0 lo tp st wd own ts) (hn : tp.n ≤ 1000000) (hc : tp.ca.length ≤ 1000000) (ha : tp.an.length ≤ 1000000) :
    Calls Tryz.prog n_regex_frame_endSeq #[.pointer (some f0)] w fun r w' => r = .returned (.tuple #[]) ∧ StAt w own ts rb f0 lo (endSeqX tp) st wd (fun _ => True) w' := by
  refine regex_frame_endSeq.ok _ w _ ((c_endItem h hn hc).mono ?_)
  rintro _ w1 ⟨rfl, own1, ts1, ⟨sl, fs, f, p, rfl, hx, h3, h4, rfl, h6, h7, h8, h9, h10⟩, f1, o1, b1, t1, _⟩
  refine ⟨rfl, ?_⟩
  have H := St.at_start h6 h7 h8 h9 h10
  have hal : (f.col 3).2.length ≤ 1000000 := by
    have e : f.x.an.length = f.an.2.length := by show (Rt.rxs f.an.2).length = _; rw [Rt.rxs_map]; simp
    have e2 : f.x.an = tp.an := by rw [hx]; rfl
    show f.an.2.length ≤ _
    rw [← e, e2]; exact ha
  refine shift (R := fun r w' => r = .returned (.tuple #[]) ∧ StAt w own ts rb (p.add (fs.length * 10)) (fs.map FM.x) (endSeqX tp) st wd (fun _ => True) w') H h4 3 3 4 (by omega) rfl (by omega) hal (fun t ht => h3 f (by simp) t ht) fun s' w' H' => ⟨rfl, StAt.then f1 o1 b1 t1 ?_⟩
  have := St.of (ts := ts1) (A := fun _ => True) (f0 := p.add (fs.length * 10)) H' 0 rfl (shift_ts h3 (by omega) (by omega) (by omega) (by omega)) h4 rfl (snoc_blocks (w0 := w) (M := F0) (fun b hb => .inl hb) (row_new H (by omega) (by omega)) fun t ht => h3 f (by simp) t (col_ts f 4 ht)) (fun t ht => List.mem_append_left _ ht) trivial
  have e : ((f.put 3 (s', (f.col 3).2 ++ [oneT 3 (f.col 4).1 (f.col 4).2])).put 4 (⟨none, 0, 0⟩, [])).x = endSeqX tp := by
    have hk : f.x.k = tp.k := by rw [hx]; rfl
    have har : f.x.ar = tp.ar := by rw [hx]; rfl
    have hall : f.x.al = tp.al := by rw [hx]; rfl
    have han : f.x.an = tp.an := by rw [hx]; rfl
    have hca : f.x.ca = (endItemX tp).ca := by rw [hx]
    have hnn : f.x.n = 0 := by rw [hx]; rfl
    have hla : f.x.la = tp.la := by rw [hx]; rfl
    unfold endSeqX
    rw [← hk, ← har, ← hall, ← han, ← hca, ← hla]
    show FX.mk f.k (f.ar.1, Rt.rxs f.ar.2) (Rt.rxs f.al.2) (Rt.rxs (f.an.2 ++ [oneT 3 f.ca.1 f.ca.2])) (Rt.rxs []) f.n f.la.rx = _
    have hn0 : f.n = 0 := hnn
    rw [hn0, rxs_app]
    simp [Rt.rxs, oneT_rx, FM.x]
  rw [e] at this
  exact this
theorem c_endConj {w : World} {rb : Nat} {f0 : Addr} {lo : List FX} {tp : FX} {st wd : Int} {own : List Nat} {ts : List Rt} (h : St w rb f0 lo tp st wd own ts) (hn : tp.n ≤ 1000000) (hc : tp.ca.length ≤ 1000000) (ha : tp.an.length ≤ 1000000) (hl : tp.al.length ≤ 1000000) :
    Calls Tryz.prog n_regex_frame_endConj #[.pointer (some f0)] w fun r w' => r = .returned (.tuple #[]) ∧ StAt w own ts rb f0 lo (endConjX tp) st wd (fun _ => True) w' := by
  refine regex_frame_endConj.ok _ w _ ((c_endSeq h hn hc ha).mono ?_)
  rintro _ w1 ⟨rfl, own1, ts1, ⟨sl, fs, f, p, rfl, hx, h3, h4, rfl, h6, h7, h8, h9, h10⟩, f1, o1, b1, t1, _⟩
  refine ⟨rfl, ?_⟩
  have H := St.at_start h6 h7 h8 h9 h10
  have hal : (f.col 2).2.length ≤ 1000000 := by
    have e : f.x.al.length = f.al.2.length := by show (Rt.rxs f.al.2).length = _; rw [Rt.rxs_map]; simp
    have e2 : f.x.al = tp.al := by rw [hx]; rfl
    show f.al.2.length ≤ _
    rw [← e, e2]; exact hl
  refine shift (R := fun r w' => r = .returned (.tuple #[]) ∧ StAt w own ts rb (p.add (fs.length * 10)) (fs.map FM.x) (endConjX tp) st wd (fun _ => True) w') H h4 5 2 3 (by omega) rfl (by omega) hal (fun t ht => h3 f (by simp) t ht) fun s' w' H' => ⟨rfl, StAt.then f1 o1 b1 t1 ?_⟩
  have := St.of (ts := ts1) (A := fun _ => True) (f0 := p.add (fs.length * 10)) H' 0 rfl (shift_ts h3 (by omega) (by omega) (by omega) (by omega)) h4 rfl (snoc_blocks (w0 := w) (M := F0) (fun b hb => .inl hb) (row_new H (by omega) (by omega)) fun t ht => h3 f (by simp) t (col_ts f 3 ht)) (fun t ht => List.mem_append_left _ ht) trivial
  have e : ((f.put 2 (s', (f.col 2).2 ++ [oneT 5 (f.col 3).1 (f.col 3).2])).put 3 (⟨none, 0, 0⟩, [])).x = endConjX tp := by
    have hk : f.x.k = tp.k := by rw [hx]; rfl
    have har : f.x.ar = tp.ar := by rw [hx]; rfl
    have hall : f.x.al = tp.al := by rw [hx]; rfl
    have han : f.x.an = (endSeqX tp).an := by rw [hx]
    have hca : f.x.ca = [] := by rw [hx]; rfl
    have hnn : f.x.n = 0 := by rw [hx]; rfl
    have hla : f.x.la = tp.la := by rw [hx]; rfl
    unfold endConjX
    rw [← hk, ← har, ← hall, ← han, ← hla]
    show FX.mk f.k (f.ar.1, Rt.rxs f.ar.2) (Rt.rxs (f.al.2 ++ [oneT 5 f.an.1 f.an.2])) (Rt.rxs []) (Rt.rxs f.ca.2) f.n f.la.rx = _
    have hn0 : f.n = 0 := hnn
    have hc0 : Rt.rxs f.ca.2 = [] := hca
    rw [hn0, hc0, rxs_app]
    simp [Rt.rxs, oneT_rx, FM.x]
  rw [e] at this
  exact this
end Go.Proofs.YtknlbofiicflgaaGreat
namespace Go.Proofs.YtknlbofiicflgaaGreat
open Go Go.W

abbrev SF (M : Nat → Prop) (w0 w : World) (rb : Nat) (sl : Sl) (st wd : Int) (fs : List FM) (f : FM) (G : List En) (ts : List Rt) : Prop := LH M w0 w (SL rb sl st wd ((fs ++ [f]).flatMap FM.c) ((fs ++ [f]).flatMap FM.rows) ++ G) [.trees ts]
section
variable {M : Nat → Prop} {w0 w : World} {bs : List Nat} {G : List En} {rb : Nat} {sl : Sl} {st wd : Int} {fs : List FM} {f : FM} {ts : List Rt} {p : Addr}
theorem sf_st (H : SF M w0 w rb sl st wd fs f G ts) (h3 : ∀ g ∈ fs ++ [f], ∀ t ∈ g.ts, t ∈ ts) (hp : sl.a = some p) :
    St w rb (p.add (fs.length * 10)) (fs.map FM.x) f.x st wd ((SL rb sl st wd ((fs ++ [f]).flatMap FM.c) ((fs ++ [f]).flatMap FM.rows)).flatMap (·.fp)) ts := by
  have nd := H.nd
  rw [List.flatMap_append, List.nodup_append] at nd
  refine ⟨sl, fs, f, p, rfl, rfl, h3, hp, rfl, rfl, nd.1, fun e he => H.own e (List.mem_append_left _ he), H.getD 0, fun b hb hm => ?_⟩
  obtain ⟨e, he, hbe⟩ := List.mem_flatMap.1 hm
  exact H.dj (.trees ts) (by simp) b (mem_nub.2 hb) e (List.mem_append_left _ he) hbe
/-- what a method leaves -/
theorem sf_after (H : SF M w0 w rb sl st wd fs f G ts) {w' : World} {f0' : Addr} {lo' : List FX} {tp' : FX} {st' wd' : Int} {own' : List Nat} {ts' : List Rt} (s : St w' rb f0' lo' tp' st' wd' own' ts') (fr : Fr (· ∈ (SL rb sl st wd ((fs ++ [f]).flatMap FM.c) ((fs ++ [f]).flatMap FM.rows)).flatMap (·.fp)) w w') (o : ∀ x ∈ own', x ∈ (SL rb sl st wd ((fs ++ [f]).flatMap FM.c) ((fs ++ [f]).flatMap FM.rows)).flatMap (·.fp) ∨ w.heap.size ≤ x)
    (hb : ∀ b ∈ Rt.fps ts', b ∈ Rt.fps ts ∨ b ∈ (SL rb sl st wd ((fs ++ [f]).flatMap FM.c) ((fs ++ [f]).flatMap FM.rows)).flatMap (·.fp) ∨ w.heap.size ≤ b) :
    ∃ (sl' : Sl) (fs' : List FM) (f' : FM) (p' : Addr), fs'.map FM.x = lo' ∧ f'.x = tp' ∧ (∀ g ∈ fs' ++ [f'], ∀ t ∈ g.ts, t ∈ ts') ∧ sl'.a = some p' ∧ f0' = p'.add (fs'.length * 10) ∧ (∀ b ∈ Rt.fps ts', b ∈ Rt.fps ts ∨ w0.heap.size ≤ b ∨ M b) ∧ SF M w0 w' rb sl' st' wd' fs' f' G ts' := by
  obtain ⟨sl', fs', f', p', h1, h2, h3, h4, h5, h6, h7, h8, h9, h10⟩ := s
  have nd := H.nd
  rw [List.flatMap_append, List.nodup_append] at nd
  have ownM : ∀ b ∈ (SL rb sl st wd ((fs ++ [f]).flatMap FM.c) ((fs ++ [f]).flatMap FM.rows)).flatMap (·.fp), w0.heap.size ≤ b ∨ M b := fun b hb => by
    obtain ⟨e, he, hbe⟩ := List.mem_flatMap.1 hb
    exact H.new e (List.mem_append_left _ he) b hbe
  have glt : ∀ e ∈ G, ∀ b ∈ e.fp, b < w.heap.size := fun e he b hb => e.lt w (H.own e (List.mem_append_right _ he)) b hb
  have gown : ∀ e ∈ G, ∀ b ∈ e.fp, b ∉ (SL rb sl st wd ((fs ++ [f]).flatMap FM.c) ((fs ++ [f]).flatMap FM.rows)).flatMap (·.fp) := fun e he b hb hm => nd.2.2 b hm b (List.mem_flatMap.2 ⟨e, he, hb⟩) rfl
  have hsz := H.fr.size
  have own'M : ∀ b ∈ own', w0.heap.size ≤ b ∨ M b := fun b hb => (o b hb).elim (ownM b) fun h => .inl (Nat.le_trans hsz h)
  refine ⟨sl', fs', f', p', h1, h2, h3, h4, h5, fun b hb' => ?_, H.fr.trans fr fun x hx hm => (ownM x hm).resolve_left (by omega), fun e he => ?_, fun e he => ?_, fun e he b hb' => ?_, ?_, fun e he b hb' e' he' hbe => ?_⟩
  · rcases hb b hb' with h | h | h
    · exact .inl h
    · exact .inr (ownM b h)
    · exact .inr (.inl (Nat.le_trans hsz h))
  · rcases List.mem_append.1 he with he | he
    · exact h8 e he
    · exact e.st w w' (fun b hb hl => fr.keep b hl (gown e he b hb)) (H.own e (List.mem_append_right _ he))
  · simp at he; subst he; exact h9
  · rcases List.mem_append.1 he with he | he
    · exact own'M b (by rw [h6]; exact List.mem_flatMap.2 ⟨e, he, hb'⟩)
    · exact H.new e (List.mem_append_right _ he) b hb'
  · rw [List.flatMap_append, List.nodup_append]
    refine ⟨h6 ▸ h7, nd.2.1, fun x hx y hy hxy => ?_⟩
    subst hxy
    obtain ⟨e, he, hbe⟩ := List.mem_flatMap.1 hy
    rcases o x (by rw [h6]; exact hx) with h | h
    · exact gown e he x hbe h
    · have := glt e he x hbe; omega
  · simp at he; subst he
    have hb'' : b ∈ Rt.fps ts' := mem_nub.1 hb'
    rcases List.mem_append.1 he' with he' | he'
    · exact h10 b hb'' (by rw [h6]; exact List.mem_flatMap.2 ⟨e', he', hbe⟩)
    · rcases hb b hb'' with h | h | h
      · exact H.dj (.trees ts) (by simp) b (mem_nub.2 h) e' (List.mem_append_right _ he') hbe
      · exact gown e' he' b hbe h
      · have := glt e' he' b hbe; omega
theorem _root_.Go.W.LH.csS (H : SF M w0 w rb sl st wd fs f G ts) (h3 : ∀ g ∈ fs ++ [f], ∀ t ∈ g.ts, t ∈ ts) (hp : sl.a = some p) {g : FuncId} {args : Array Value} {K : Post} {Q : Ending → Addr → List FX → FX → Int → Int → List Rt → Prop}
    (hc : ∀ own, St w rb (p.add (fs.length * 10)) (fs.map FM.x) f.x st wd own ts → Calls Tryz.prog g args w (StP w own ts rb Q))
    (hk : ∀ r w' (sl' : Sl) (fs' : List FM) (f' : FM) (p' : Addr) (st' wd' : Int) (ts' : List Rt), (∀ t ∈ ts, t ∈ ts') → (∀ g ∈ fs' ++ [f'], ∀ t ∈ g.ts, t ∈ ts') → sl'.a = some p' → (∀ b ∈ Rt.fps ts', b ∈ Rt.fps ts ∨ w0.heap.size ≤ b ∨ M b) → Q r (p'.add (fs'.length * 10)) (fs'.map FM.x) f'.x st' wd' ts' → SF M w0 w' rb sl' st' wd' fs' f' G ts' → K r w')
    (hbs : ∀ b ∈ bs, En.g b ∈ G := by simp) : callF bs Tryz.prog g args w K := by
  have nd := H.nd
  rw [List.flatMap_append, List.nodup_append] at nd
  refine ⟨(· ∈ (SL rb sl st wd ((fs ++ [f]).flatMap FM.c) ((fs ++ [f]).flatMap FM.rows)).flatMap (·.fp)), fun b hb hm => ?_, (hc _ (sf_st H h3 hp)).mono ?_⟩
  · exact nd.2.2 b hm b (List.mem_flatMap.2 ⟨_, hbs b hb, by simp [En.g]⟩) rfl
  · rintro r w' ⟨f0', lo', tp', st', wd', own', ts', s, fr, o, b, t, q⟩
    obtain ⟨sl', fs', f', p', rfl, rfl, h3', hp', rfl, hb', H'⟩ := sf_after H s fr o b
    exact ⟨fr, hk r w' sl' fs' f' p' st' wd' ts' t h3' hp' hb' q H'⟩
/-- the same where nobody watches -/
theorem _root_.Go.W.LH.csS0 (H : SF M w0 w rb sl st wd fs f G ts) (h3 : ∀ g ∈ fs ++ [f], ∀ t ∈ g.ts, t ∈ ts) (hp : sl.a = some p) {g : FuncId} {args : Array Value} {K : Post} {Q : Ending → Addr → List FX → FX → Int → Int → List Rt → Prop}
    (hc : ∀ own, St w rb (p.add (fs.length * 10)) (fs.map FM.x) f.x st wd own ts → Calls Tryz.prog g args w (StP w own ts rb Q))
    (hk : ∀ r w' (sl' : Sl) (fs' : List FM) (f' : FM) (p' : Addr) (st' wd' : Int) (ts' : List Rt), (∀ t ∈ ts, t ∈ ts') → (∀ g ∈ fs' ++ [f'], ∀ t ∈ g.ts, t ∈ ts') → sl'.a = some p' → (∀ b ∈ Rt.fps ts', b ∈ Rt.fps ts ∨ w0.heap.size ≤ b ∨ M b) → Q r (p'.add (fs'.length * 10)) (fs'.map FM.x) f'.x st' wd' ts' → SF M w0 w' rb sl' st' wd' fs' f' G ts' → K r w') : Calls Tryz.prog g args w K := by
  obtain ⟨_, _, h⟩ := H.csS (bs := []) h3 hp hc hk (by simp)
  exact h.mono fun r w' h => h.2
end
theorem fx_len (f : FM) : f.x.ar.2.length = f.ar.2.length ∧ f.x.al.length = f.al.2.length ∧ f.x.an.length = f.an.2.length ∧ f.x.ca.length = f.ca.2.length := by
  refine ⟨?_, ?_, ?_, ?_⟩ <;> (show (Rt.rxs _).length = _; rw [Rt.rxs_map]; simp)
/-- a method that changes the last frame, as a call -/
theorem as_stp {w : World} {own : List Nat} {ts : List Rt} {rb : Nat} {f0 : Addr} {lo : List FX} {tp : FX} {st wd : Int} {g : FuncId} {args : Array Value} (h : Calls Tryz.prog g args w fun r w' => r = .returned (.tuple #[]) ∧ StAt w own ts rb f0 lo tp st wd (fun _ => True) w') :
    Calls Tryz.prog g args w (StP w own ts rb fun r f0' lo' tp' st' wd' _ => r = .returned (.tuple #[]) ∧ f0' = f0 ∧ lo' = lo ∧ tp' = tp ∧ st' = st ∧ wd' = wd) :=
  h.mono fun r w' ⟨h1, h2⟩ => ⟨f0, lo, tp, st, wd, h2.mono fun _ _ => ⟨h1, rfl, rfl, rfl, rfl, rfl⟩⟩
structure Small (f : FX) (n : Nat) : Prop where
  n' : f.n ≤ n
  ar : f.ar.2.length ≤ n
  al : f.al.length ≤ n
  an : f.an.length ≤ n
  ca : f.ca.length ≤ n
theorem c_endExpr {w : World} {rb : Nat} {f0 : Addr} {lo : List FX} {tp : FX} {st wd : Int} {own : List Nat} {ts : List Rt} (h : St w rb f0 lo tp st wd own ts) (hs : Small tp 1000000) :
    Calls Tryz.prog n_regex_frame_endExpr #[.pointer (some f0)] w (StP w own ts rb fun r f0' lo' tp' st' wd' ts' => f0' = f0 ∧ lo' = lo ∧ tp' = endExprX tp ∧ st' = st ∧ wd' = wd ∧ ∃ t ∈ ts', r = .returned t.v ∧ t.rx = exprX tp) := by
  obtain ⟨sl, fs, f, p, rfl, rfl, h3, h4, rfl, h6, h7, h8, h9, h10⟩ := h
  have H : SF (· ∈ own) w w rb sl st wd fs f [] ts := by
    have := St.at_start h6 h7 h8 h9 h10
    show LH _ _ _ (_ ++ []) _
    rw [List.append_nil]
    exact this
  refine regex_frame_endExpr.okT _ w _ (H.newg (bs := []) (fun b2 w1 H1 => ?_) (by simp))
  refine (show SF (· ∈ own) w w1 rb sl st wd fs f [.g b2] ts from H1).csS (bs := [b2]) h3 h4 (fun own1 s1 => as_stp (c_endConj s1 hs.n' hs.ca hs.an hs.al)) ?_ (by simp)
  rintro _ w2 sl2 fs2 f2 p2 st2 wd2 ts2 t2 h32 h42 b2' ⟨rfl, he0, he1, he2, rfl, rfl⟩ H2
  rw [← he0, ← he1]
  have hrow : ((fs2 ++ [f2]).flatMap FM.rows)[fs2.length * 4 + (2 - 1)]? = some ((f2.col 2).1, (f2.col 2).2.flatMap Rt.c) := rows_get fs2 f2 1 _ (col_r f2 (j := 2) (by omega) (by omega))
  have hrd : RdN 4 w2 f2.al.1 (f2.al.2.flatMap Rt.c) := by
    have hP : (En.rows ((fs2 ++ [f2]).flatMap FM.rows)).P w2 := H2.get 2
    exact (hP.1 _ (List.mem_of_getElem? hrow)).rdn
  refine ⟨rfl, f2.al.1, H2.ldF 1 rfl h42 2, H2.callg (c_oneF 4 _ _ w2 hrd) ?_⟩
  rintro _ w3 rfl H3
  refine ⟨_, _, _, _, rfl, H3.newg (bs := [b2]) (fun b3 w4 H4 => H4.locg (bs := [b2, b3]) (fun w5 H5 => ?_) (by simp)) (by simp)⟩
  refine H5.stF (bs := [b2, b3]) (f := f2) 1 (f2.put 2 (⟨none, 0, 0⟩, [])) 2 rfl h42 (by omega) rfl (fun w6 H6 => H6.locg (bs := [b2, b3]) (fun w7 H7 => ?_) (by simp)) (by simp)
  have H8 := H7.giveRow 2 (fs2.length * 4 + (2 - 1)) rfl hrow
  have H9 := H8.nodeOne 0 4 (s := f2.al.1) (ks := f2.al.2) rfl (by simp [FM.col]) fun t ht => h32 f2 (by simp) t (col_ts f2 2 ht)
  have er := fr_rows fs2 f2 (⟨none, 0, 0⟩, []) (j := 2) (by omega) (by omega)
  have e' : (([] : List Rt).flatMap Rt.c) = [] := rfl
  rw [e'] at er
  simp only at er
  have H10 : LH (· ∈ own) w w7 (SL rb sl2 st2 wd2 ((fs2 ++ [f2.put 2 (⟨none, 0, 0⟩, [])]).flatMap FM.c) ((fs2 ++ [f2.put 2 (⟨none, 0, 0⟩, [])]).flatMap FM.rows)) [.trees (ts2 ++ [oneT 4 f2.al.1 f2.al.2])] := by
    rw [← er]
    exact H9.take 3
  have hnew : ∀ b ∈ blkL f2.al.1, b ∈ own ∨ w.heap.size ≤ b := fun b hb => (H2.new (.rows ((fs2 ++ [f2]).flatMap FM.rows)) (by simp) b (mem_nub.2 (List.mem_flatMap.2 ⟨_, List.mem_of_getElem? hrow, hb⟩))).symm
  have ex : (f2.put 2 (⟨none, 0, 0⟩, [])).x = endExprX f.x := by
    have e1 : f2.k = f.k := by have := congrArg FX.k he2; exact this
    have e2 : (f2.ar.1, Rt.rxs f2.ar.2) = f.x.ar := by have := congrArg FX.ar he2; exact this
    have e3 : Rt.rxs f2.an.2 = [] := by have := congrArg FX.an he2; exact this
    have e4 : Rt.rxs f2.ca.2 = [] := by have := congrArg FX.ca he2; exact this
    have e5 : f2.n = 0 := by have := congrArg FX.n he2; exact this
    have e6 : f2.la.rx = f.x.la := by have := congrArg FX.la he2; exact this
    show FX.mk f2.k (f2.ar.1, Rt.rxs f2.ar.2) (Rt.rxs []) (Rt.rxs f2.an.2) (Rt.rxs f2.ca.2) f2.n f2.la.rx = _
    rw [e1, e2, e3, e4, e5, e6]
    rfl
  refine ⟨_, _, _, _, _, St.of (ts := ts) (f0 := p2.add (fs2.length * 10)) H10 0 rfl (fun g hg t ht => ?_) h42 rfl (snoc_blocks (w0 := w) (M := F0) (fun b hb => (b2' b hb).imp id Or.symm) hnew fun t ht => h32 f2 (by simp) t (col_ts f2 2 ht)) (fun t ht => List.mem_append_left _ (t2 t ht)) ⟨rfl, rfl, ex, rfl, rfl, oneT 4 f2.al.1 f2.al.2, by simp, rfl, ?_⟩⟩
  · rcases List.mem_append.1 hg with hg | hg
    · exact List.mem_append_left _ (h32 g (by simp [hg]) t ht)
    · simp at hg; subst hg
      rcases put_ts _ _ (by omega) (by omega) ht with h | h
      · exact List.mem_append_left _ (h32 f2 (by simp) t h)
      · cases h
  · rw [oneT_rx]
    have := congrArg FX.al he2
    have e : Rt.rxs f2.al.2 = (endConjX f.x).al := this
    rw [e]; rfl
end Go.Proofs.YtknlbofiicflgaaGreat
namespace Go.Proofs.YtknlbofiicflgaaGreat
open Go Go.W

theorem optP_some {p : Addr} {K : Addr → Prop} (h : K p) : optP (some p) K := h
theorem el_fr : ElemOk Tryz.prog ty_sl_regex_frame ty_regex_frame (.agg #[.int .i64 0, .slice none 0 0, .slice none 0 0, .slice none 0 0, .slice none 0 0, .int .i64 0, .int .i64 0, .int .u8 0, .int .u8 0, .slice none 0 0]) 10 152 := ⟨by kernel_rfl, by kernel_rfl, rfl, by decide, by decide⟩
section
variable {M : Nat → Prop} {w0 w : World} {L D : List En} {bs : List Nat} {G : List En} {rb : Nat} {sl : Sl} {st wd : Int} {fs : List FM} {f : FM} {ts : List Rt} {p : Addr}
/-- storing into a block of one's own, where somebody watches -/
theorem _root_.Go.W.LH.stk (H : LH M w0 w L D) (i j : Nat) {b : Nat} {vs : List Value} {T : TypeId} {v : Value} {K : World → Prop} (hi : L[i]? = some (.c b vs T)) (hK : ∀ w', LH M w0 w' (L.set i (.c b (vs.set j v) T)) D → K w') (hj : j < vs.length) (hbs : ∀ b ∈ bs, En.g b ∈ L := by simp) : stV w ((at0 b).add j) v fun w1 => kept bs w w1 ∧ K w1 := by
  obtain ⟨x1, x2, x3⟩ := H.set (v := v) i j hi hj
  refine ⟨x1, x2, fun b' hb' => ?_, hK _ x3⟩
  have hne : b' ≠ b := by
    rintro rfl
    refine ghost_off H hi (fun n hP => ?_) (hbs _ hb') (by simp [En.ob])
    have h : ({ w with heap := Array.replicate (n + 1) (.map #[] 0) } : World).heap[b']? = some (.cells vs.toArray T (0, 0)) := hP
    simp [Array.getElem?_replicate] at h
  have hf : Fr (· = b) w (w.setCell ((at0 b).add j) v) := Fr.set _ _ _ (by rw [add_block])
  exact hf.keep b' (H.own _ (hbs _ hb')) hne
theorem sf_n (H : SF M w0 w rb sl st wd fs f G ts) : sl.n = fs.length + 1 := by
  have ho : OwnRow w ty_regex_frame 10 sl ((fs ++ [f]).flatMap FM.c) := H.get 1
  have := ho.len
  rw [fs_len] at this
  simp at this
  omega
theorem c_top (H : SF M w0 w rb sl st wd fs f G ts) (hp : sl.a = some p) (hn : fs.length ≤ 1000000) : Calls Tryz.prog n_regex_reader_top #[.pointer (some (at0 rb))] w fun r w' => r = .returned (.pointer (some (p.add (fs.length * 10)))) ∧ Fr0 w w' := by
  have hl := sf_n H
  have e : IntKind.wrap .i64 (((sl.n : Nat) : Int) - 1) = (fs.length : Int) := by rw [IntWalk.i64_in _ (by omega)]; omega
  have H1 : SF M w0 w.drew rb sl st wd fs f G ts := H.drew
  refine regex_reader_top.ok _ w _ (show _ from ⟨sl, H1.ld 0 0, sl, H1.ld 0 0, ?_⟩)
  rw [e, hp]
  exact ⟨by omega, by omega, rfl, Fr.drew _ _⟩
/-- a leaf is one of the trees -/
theorem sf_leaf (H : SF M w0 w rb sl st wd fs f G ts) (k : Int) (lo hi : UInt8) : SF M w0 w rb sl st wd fs f G (ts ++ [.mk k lo hi ⟨none, 0, 0⟩ []]) := by
  have H1 := H.addD (.trees (ts ++ [.mk k lo hi ⟨none, 0, 0⟩ []])) (Fr.refl _ _) (Rt.ps_of fun t ht => ?_) fun b hb => .inr (.inr ⟨.trees ts, by simp, ?_⟩)
  · exact H1.forget _ (by simp)
  · rcases List.mem_append.1 ht with ht | ht
    · exact Rt.Ps.mem (H.getD 0) ht
    · simp at ht; subst ht
      show Rt.P w _
      unfold Rt.P Rt.Ps
      exact ⟨RdN.nil 4 w, trivial⟩
  · obtain ⟨t, ht, hb'⟩ := Rt.fps_iff.1 (mem_nub.1 hb)
    rcases List.mem_append.1 ht with ht | ht
    · exact mem_nub.2 (Rt.fps_iff.2 ⟨t, ht, hb'⟩)
    · simp at ht
      rw [ht] at hb'
      unfold Rt.fp Rt.fps at hb'
      simp [En.rdn] at hb'
theorem leaf_fps {k : Int} {lo hi : UInt8} {b : Nat} (h : b ∈ Rt.fps (ts ++ [.mk k lo hi ⟨none, 0, 0⟩ []])) : b ∈ Rt.fps ts := by
  obtain ⟨t, ht, hb'⟩ := Rt.fps_iff.1 h
  rcases List.mem_append.1 ht with ht | ht
  · exact Rt.fps_iff.2 ⟨t, ht, hb'⟩
  · simp at ht
    rw [ht] at hb'
    unfold Rt.fp Rt.fps at hb'
    simp [En.rdn] at hb'
/-- more rows, with nothing in them -/
theorem rows_ext (H : LH M w0 w L D) (i : Nat) {rs : List RowV} (hi : L[i]? = some (.rows rs)) (n : Nat) : LH M w0 w (L.set i (.rows (rs ++ List.replicate n (⟨none, 0, 0⟩, [])))) D := by
  have hp : (En.rows rs).P w := H.get i hi
  have e : (rs ++ List.replicate n ((⟨none, 0, 0⟩, []) : RowV)).flatMap (fun q : RowV => blkL q.1) = rs.flatMap fun q : RowV => blkL q.1 := by
    rw [List.flatMap_append]
    have : (List.replicate n ((⟨none, 0, 0⟩, []) : RowV)).flatMap (fun q : RowV => blkL q.1) = [] := by
      induction n with
      | zero => rfl
      | succ n ih => rw [List.replicate_succ, List.flatMap_cons, ih]; rfl
    rw [this, List.append_nil]
  refine H.upd i _ hi (Fr.refl _ _) ⟨fun q hq => ?_, by rw [e]; exact hp.2⟩ fun b hb => .inl (mem_nub.2 (by have := mem_nub.1 hb; rw [e] at this; exact this))
  rcases List.mem_append.1 hq with hq | hq
  · exact hp.1 q hq
  · rw [List.eq_of_mem_replicate hq]; exact OwnRow.nil _ _ _
end
def newFX (k : Int) : FX := ⟨k, (⟨none, 0, 0⟩, []), [], [], [], 0, noR⟩
def newFM (k : Int) : FM := ⟨k, (⟨none, 0, 0⟩, []), (⟨none, 0, 0⟩, []), (⟨none, 0, 0⟩, []), (⟨none, 0, 0⟩, []), 0, .mk 0 0 0 ⟨none, 0, 0⟩ []⟩
theorem open_sf {w : World} {rb : Nat} {f0 : Addr} {lo : List FX} {tp : FX} {st wd : Int} {own : List Nat} {ts : List Rt} (h : St w rb f0 lo tp st wd own ts) : ∃ (sl : Sl) (fs : List FM) (f : FM) (p : Addr), fs.map FM.x = lo ∧ f.x = tp ∧ (∀ g ∈ fs ++ [f], ∀ t ∈ g.ts, t ∈ ts) ∧ sl.a = some p ∧ f0 = p.add (fs.length * 10) ∧ SF (· ∈ own) w w rb sl st wd fs f [] ts := by
  obtain ⟨sl, fs, f, p, h1, h2, h3, h4, h5, h6, h7, h8, h9, h10⟩ := h
  refine ⟨sl, fs, f, p, h1, h2, h3, h4, h5, ?_⟩
  have := St.at_start h6 h7 h8 h9 h10
  show LH _ _ _ (_ ++ []) _
  rw [List.append_nil]
  exact this
theorem c_push {w : World} {rb : Nat} {f0 : Addr} {lo : List FX} {tp : FX} {st wd : Int} {own : List Nat} {ts : List Rt} (h : St w rb f0 lo tp st wd own ts) (hl : lo.length ≤ 1000000) (kind state : Int) :
    Calls Tryz.prog n_regex_reader_push #[.pointer (some (at0 rb)), .int .i64 kind, .int .i64 state] w (StP w own ts rb fun r _ lo' tp' st' wd' _ => r = .returned (.bool true) ∧ lo' = lo ++ [tp] ∧ tp' = newFX kind ∧ st' = state ∧ wd' = wd) := by
  obtain ⟨sl, fs, f, p, rfl, rfl, h3, h4, rfl, H⟩ := open_sf h
  have hn := sf_n H
  have hl' : fs.length ≤ 1000000 := by simpa using hl
  refine regex_reader_push.ok _ _ _ w _ ⟨sl, H.ld 0 0, H.nwrow (e := ty_regex_frame) (sz := 10) (n := 1) (cs := (newFM kind).c) rfl (by decide) fun w1 H1 => ?_⟩
  refine H1.apk 1 el_fr (src := ⟨some (at0 w.heap.size), 1, 1⟩) (news := (newFM kind).c) rfl (OwnRow.rdn (H1.get 3)).2.2 rfl (by simp [FM.c, newFM, Value.oneCell']) (by show (sl.n + 1) * 152 ≤ _; omega) fun s' w2 H2 hn' hnone _ => ?_
  obtain ⟨q, hq⟩ : ∃ q, s'.a = some q := by
    cases hs : s'.a with
    | none => have := (hnone hs).2; simp at this
    | some q => exact ⟨q, rfl⟩
  have H3 : LH (· ∈ own) w w2 [.c rb [sl.v, .int .i64 st, .int .i64 wd] ty_regex_reader, .row ty_regex_frame 10 s' ((fs ++ [f]).flatMap FM.c ++ (newFM kind).c), .rows ((fs ++ [f]).flatMap FM.rows)] [.trees ts] := H2.take 3
  refine H3.st 0 0 rfl (fun w3 H4 => H4.st 0 1 rfl (fun w4 H5 => ?_))
  have H6 := rows_ext H5 2 rfl 4
  have H7 : SF (· ∈ own) w w4 rb s' state wd (fs ++ [f]) (newFM kind) [] ts := by
    show LH _ _ _ (SL rb s' state wd ((fs ++ [f] ++ [newFM kind]).flatMap FM.c) ((fs ++ [f] ++ [newFM kind]).flatMap FM.rows) ++ []) _
    rw [List.append_nil, List.flatMap_append (xs := fs ++ [f]), List.flatMap_append (xs := fs ++ [f])]
    simpa [show (newFM kind).rows = [(⟨none, 0, 0⟩, []), (⟨none, 0, 0⟩, []), (⟨none, 0, 0⟩, []), (⟨none, 0, 0⟩, [])] from rfl] using H6
  have H8 := sf_leaf H7 0 0 0
  have H9 : LH (· ∈ own) w w4 (SL rb s' state wd ((fs ++ [f] ++ [newFM kind]).flatMap FM.c) ((fs ++ [f] ++ [newFM kind]).flatMap FM.rows)) [.trees (ts ++ [.mk 0 0 0 ⟨none, 0, 0⟩ []])] := H8.take 3
  refine ⟨_, _, _, _, _, St.of (ts := ts) (p := q) (f0 := q.add ((fs ++ [f]).length * 10)) H9 0 rfl (fun g hg t ht => ?_) hq rfl (fun b hb => .inl (leaf_fps hb)) (fun t ht => List.mem_append_left _ ht) ⟨rfl, ?_, rfl, rfl, rfl⟩⟩
  · rcases List.mem_append.1 hg with hg | hg
    · exact List.mem_append_left _ (h3 g hg t ht)
    · simp at hg; subst hg
      simp [FM.ts, newFM] at ht
      simp [ht]
  · simp
def atomX (tp : FX) (x : Rx) : FX := ⟨tp.k, tp.ar, tp.al, tp.an, tp.ca, tp.n, x⟩
theorem c_atom {w : World} {rb : Nat} {f0 : Addr} {lo : List FX} {tp : FX} {st wd : Int} {own : List Nat} {ts : List Rt} (h : St w rb f0 lo tp st wd own ts) (hl : lo.length ≤ 1000000) (t : Rt) (ht : t ∈ ts) :
    Calls Tryz.prog n_regex_reader_atom #[.pointer (some (at0 rb)), t.v] w (StP w own ts rb fun r f0' lo' tp' st' wd' _ => r = .returned (.bool true) ∧ f0' = f0 ∧ lo' = lo ∧ tp' = atomX tp t.rx ∧ st' = 3 ∧ wd' = wd) := by
  obtain ⟨sl, fs, f, p, rfl, rfl, h3, h4, rfl, H⟩ := open_sf h
  have hl' : fs.length ≤ 1000000 := by simpa using hl
  refine regex_reader_atom.okT _ _ _ _ _ w _ (H.newg (bs := []) (fun b3 w1 H1 => H1.locg (bs := [b3]) (fun w2 H2 => ?_) (by simp)) (by simp))
  have H2' : SF (· ∈ own) w w2 rb sl st wd fs f [.g b3] ts := H2
  refine H2'.callg (c_top H2' h4 hl') ?_
  rintro _ w3 rfl H3
  refine ⟨_, rfl, optP_some ?_⟩
  refine H3.stF (bs := [b3]) (f := f) 1 ⟨f.k, f.ar, f.al, f.an, f.ca, f.n, .mk t.k f.la.lo f.la.hi f.la.s f.la.l⟩ 6 rfl h4 (by omega) rfl (fun w4 H4 => ?_) (by simp)
  have a1 : ((p.add (fs.length * 10)).add 6).add 1 = (p.add (fs.length * 10)).add 7 := add_add _ 6 1
  have a2 : ((p.add (fs.length * 10)).add 6).add 2 = (p.add (fs.length * 10)).add 8 := add_add _ 6 2
  have a3 : ((p.add (fs.length * 10)).add 6).add 3 = (p.add (fs.length * 10)).add 9 := add_add _ 6 3
  rw [a1, a2, a3]
  refine H4.stF (bs := [b3]) (f := ⟨f.k, f.ar, f.al, f.an, f.ca, f.n, .mk t.k f.la.lo f.la.hi f.la.s f.la.l⟩) 1 ⟨f.k, f.ar, f.al, f.an, f.ca, f.n, .mk t.k t.lo f.la.hi f.la.s f.la.l⟩ 7 rfl h4 (by omega) rfl (fun w5 H5 => ?_) (by simp)
  refine H5.stF (bs := [b3]) (f := ⟨f.k, f.ar, f.al, f.an, f.ca, f.n, .mk t.k t.lo f.la.hi f.la.s f.la.l⟩) 1 ⟨f.k, f.ar, f.al, f.an, f.ca, f.n, .mk t.k t.lo t.hi f.la.s f.la.l⟩ 8 rfl h4 (by omega) rfl (fun w6 H6 => ?_) (by simp)
  refine H6.stF (bs := [b3]) (f := ⟨f.k, f.ar, f.al, f.an, f.ca, f.n, .mk t.k t.lo t.hi f.la.s f.la.l⟩) 1 ⟨f.k, f.ar, f.al, f.an, f.ca, f.n, t⟩ 9 rfl h4 (by omega) rfl (fun w7 H7 => ?_) (by simp)
  refine H7.stk (bs := [b3]) 0 1 rfl (fun w8 H8 => ?_) (by simp) (by simp)
  have er : (fs ++ [f]).flatMap FM.rows = (fs ++ [(⟨f.k, f.ar, f.al, f.an, f.ca, f.n, t⟩ : FM)]).flatMap FM.rows := by simp [FM.rows]
  have H9 : LH (· ∈ own) w w8 (SL rb sl 3 wd ((fs ++ [(⟨f.k, f.ar, f.al, f.an, f.ca, f.n, t⟩ : FM)]).flatMap FM.c) ((fs ++ [(⟨f.k, f.ar, f.al, f.an, f.ca, f.n, t⟩ : FM)]).flatMap FM.rows)) [.trees ts] := by
    rw [← er]
    exact H8.take 3
  refine ⟨_, _, _, _, _, St.of (ts := ts) (f0 := p.add (fs.length * 10)) H9 0 rfl (fun g hg u hu => ?_) h4 rfl (fun b hb => .inl hb) (fun t ht => ht) ⟨rfl, rfl, rfl, rfl, rfl, rfl⟩⟩
  rcases List.mem_append.1 hg with hg | hg
  · exact h3 g (by simp [hg]) u hu
  · simp at hg; subst hg
    simp only [FM.ts, List.mem_append, List.mem_cons, List.not_mem_nil, or_false] at hu
    rcases hu with (((hu | hu) | hu) | hu) | rfl
    · exact h3 f (by simp) u (by simp [FM.ts, hu])
    · exact h3 f (by simp) u (by simp [FM.ts, hu])
    · exact h3 f (by simp) u (by simp [FM.ts, hu])
    · exact h3 f (by simp) u (by simp [FM.ts, hu])
    · exact ht
end Go.Proofs.YtknlbofiicflgaaGreat
namespace Go.Proofs.YtknlbofiicflgaaGreat
open Go Go.W

structure Tk where
  k : UInt8
  lo : UInt8
  hi : UInt8
  s : List UInt8
  a : Int
abbrev Tk.v (t : Tk) : Value := .agg #[.int .u8 (t.k.toNat : Int), .int .u8 (t.lo.toNat : Int), .int .u8 (t.hi.toNat : Int), .string (ba t.s), .int .i64 t.a]
structure SX where
  lo : List FX
  tp : FX
  st : Int
  wd : Int
def wNone : List UInt8 := [110, 111, 110, 101]
def wEmpty : List UInt8 := [101, 109, 112, 116, 121]
def wAlt : List UInt8 := [97, 108, 116]
def wAll : List UInt8 := [97, 108, 108]
def wCat : List UInt8 := [99, 97, 116]
def itemX (t : Tk) (s : SX) : Option SX :=
  if t.k = 33 then some ⟨s.lo, ⟨s.tp.k, s.tp.ar, s.tp.al, s.tp.an, s.tp.ca, s.tp.n + 1, s.tp.la⟩, 0, s.wd⟩
  else if t.k = 40 then some ⟨s.lo ++ [s.tp], newFX (-1), 0, s.wd⟩
  else if t.k = 114 then some ⟨s.lo, atomX s.tp (.mk 2 t.lo t.hi []), 3, s.wd⟩
  else if t.k = 119 then
    if t.s = wNone then some ⟨s.lo, atomX s.tp (.mk 0 0 0 []), 3, s.wd⟩
    else if t.s = wEmpty then some ⟨s.lo, atomX s.tp (.mk 1 0 0 []), 3, s.wd⟩
    else if t.s = wAlt then some ⟨s.lo, s.tp, 2, 4⟩
    else if t.s = wAll then some ⟨s.lo, s.tp, 2, 5⟩
    else if t.s = wCat then some ⟨s.lo, s.tp, 2, 3⟩
    else none
  else none
/-- what a method that reads a token says -/
def Says (o : Option SX) : Ending → Addr → List FX → FX → Int → Int → List Rt → Prop := fun r _ lo tp st wd _ => (o = none ∧ r = .returned (.bool false)) ∨ (o = some ⟨lo, tp, st, wd⟩ ∧ r = .returned (.bool true))
section
variable {w w' : World} {own : List Nat} {G : List En} {rb : Nat} {sl : Sl} {st wd : Int} {fs : List FM} {f : FM} {ts ts' : List Rt} {p : Addr}
theorem sf_stp {Q : Ending → Addr → List FX → FX → Int → Int → List Rt → Prop} {r : Ending} (H : SF (· ∈ own) w w' rb sl st wd fs f G ts') (h3 : ∀ g ∈ fs ++ [f], ∀ t ∈ g.ts, t ∈ ts') (hp : sl.a = some p) (hb : ∀ b ∈ Rt.fps ts', b ∈ Rt.fps ts ∨ w.heap.size ≤ b ∨ b ∈ own) (ht : ∀ t ∈ ts, t ∈ ts') (q : Q r (p.add (fs.length * 10)) (fs.map FM.x) f.x st wd ts') : StP w own ts rb Q r w' :=
  ⟨_, _, _, _, _, St.of (ts := ts) (f0 := p.add (fs.length * 10)) (H.take 3) 0 rfl h3 hp rfl (fun b h => (hb b h).imp id Or.symm) ht q⟩
end
theorem tl_ba (s : List UInt8) : (ba s).toList = s := by rw [ByteArray.toList_eq]; rfl
theorem tl_mk (a : Array UInt8) : (ByteArray.mk a).toList = a.toList := by rw [ByteArray.toList_eq]
theorem str_sel {s : List UInt8} {a : Array UInt8} {A B : Prop} (h1 : s = a.toList → A) (h2 : s ≠ a.toList → B) : sel ((ba s).toList == (ByteArray.mk a).toList) A B := by
  rw [tl_ba, tl_mk]
  exact sel_intro (fun h => h1 (by simpa using h)) (fun h => h2 (by simpa using h))
theorem u8_sel {x : UInt8} {n : Nat} {A B : Prop} (hn : n < 256) (h1 : x = UInt8.ofNat n → A) (h2 : x ≠ UInt8.ofNat n → B) : sel (((x.toNat : Nat) : Int) == (n : Int)) A B := by
  have e : ∀ x : UInt8, x.toNat = n ↔ x = UInt8.ofNat n := fun x => by
    rw [← UInt8.toNat_inj, UInt8.toNat_ofNat']
    omega
  exact sel_intro (fun h => h1 ((e x).1 (by have := eq_of_beq h; omega))) (fun h => h2 fun hx => by
    have : x.toNat = n := (e x).2 hx
    rw [this] at h
    simp at h)
theorem c_item {w : World} {rb : Nat} {f0 : Addr} {lo : List FX} {tp : FX} {st wd : Int} {own : List Nat} {ts : List Rt} (h : St w rb f0 lo tp st wd own ts) (hl : lo.length ≤ 1000000) (hn : tp.n ≤ 1000000) (t : Tk) :
    Calls Tryz.prog n_regex_reader_item #[.pointer (some (at0 rb)), t.v] w (StP w own ts rb (Says (itemX t ⟨lo, tp, st, wd⟩))) := by
  obtain ⟨sl, fs, f, p, rfl, rfl, h3, h4, rfl, H⟩ := open_sf h
  have hl' : fs.length ≤ 1000000 := by simpa using hl
  have hn' : f.n ≤ 1000000 := hn
  have base : ∀ b ∈ Rt.fps ts, b ∈ Rt.fps ts ∨ w.heap.size ≤ b ∨ b ∈ own := fun b hb => .inl hb
  refine regex_reader_item.okT _ _ _ _ _ _ w _ (H.newg (bs := []) (fun b3 w1 H1 => ?_) (by simp))
  have H1 : SF (· ∈ own) w w1 rb sl st wd fs f [.g b3] ts := H1
  -- an atom without parts
  have leaf : ∀ (k : Int) (a b : UInt8) {w2 : World} {st2 wd2 : Int}, SF (· ∈ own) w w2 rb sl st2 wd2 fs f [.g b3] ts → itemX t ⟨fs.map FM.x, f.x, st, wd⟩ = some ⟨fs.map FM.x, atomX f.x (.mk k a b []), 3, wd2⟩ →
      callF [b3] Tryz.prog n_regex_reader_atom #[.pointer (some (at0 rb)), .agg #[.i k, .int .u8 (a.toNat : Int), .int .u8 (b.toNat : Int), .slice none 0 0]] w2 fun r_ w6 => ∃ t32 : Bool, r_ = .returned (.bool t32) ∧ StP w own ts rb (Says (itemX t ⟨fs.map FM.x, f.x, st, wd⟩)) (.returned (.bool t32)) w6 := by
    intro k a b w2 st2 wd2 H2 he
    have H3 := sf_leaf H2 k a b
    refine H3.csS (bs := [b3]) (fun g hg u hu => List.mem_append_left _ (h3 g hg u hu)) h4 (fun own1 s1 => c_atom s1 hl (.mk k a b ⟨none, 0, 0⟩ []) (by simp)) ?_ (by simp)
    rintro _ w3 sl3 fs3 f3 p3 st3 wd3 ts3 t3 h33 h43 b3' ⟨rfl, he0, he1, he2, rfl, rfl⟩ H4
    refine ⟨true, rfl, sf_stp H4 h33 h43 (fun x hx => ?_) (fun u hu => t3 u (List.mem_append_left _ hu)) (.inr ⟨?_, rfl⟩)⟩
    · rcases b3' x hx with h | h
      · exact .inl (leaf_fps h)
      · exact .inr h
    · rw [he, he1, he2]; rfl
  refine u8_sel (n := 33) (by omega) (fun hk : t.k = 33 => H1.callg (c_top H1 h4 hl') ?_) (fun k33 : t.k ≠ 33 => u8_sel (n := 40) (by omega) (fun hk : t.k = 40 => ?_) (fun k40 : t.k ≠ 40 => u8_sel (n := 114) (by omega) (fun hk : t.k = 114 => ?_) (fun k114 : t.k ≠ 114 => u8_sel (n := 119) (by omega) (fun hk : t.k = 119 => ?_) (fun k119 : t.k ≠ 119 => ?_))))
  · rintro _ w2 rfl H2
    refine ⟨_, rfl, optP_some ⟨_, H2.ldF 1 rfl h4 5, optP_some ?_⟩⟩
    have e : IntKind.wrap .i64 ((f.n : Int) + 1) = ((f.n + 1 : Nat) : Int) := by rw [IntWalk.i64_in _ (by omega)]; omega
    rw [e]
    refine H2.stF (bs := [b3]) (f := f) 1 ⟨f.k, f.ar, f.al, f.an, f.ca, f.n + 1, f.la⟩ 5 rfl h4 (by omega) rfl (fun w3 H3 => ?_) (by simp)
    refine H3.stk (bs := [b3]) 0 1 rfl (fun w4 H4 => ?_) (by simp) (by simp)
    have er : (fs ++ [f]).flatMap FM.rows = (fs ++ [(⟨f.k, f.ar, f.al, f.an, f.ca, f.n + 1, f.la⟩ : FM)]).flatMap FM.rows := by simp [FM.rows]
    have H5 : SF (· ∈ own) w w4 rb sl 0 wd fs ⟨f.k, f.ar, f.al, f.an, f.ca, f.n + 1, f.la⟩ [.g b3] ts := by
      show LH _ _ _ (SL rb sl 0 wd _ ((fs ++ [(⟨f.k, f.ar, f.al, f.an, f.ca, f.n + 1, f.la⟩ : FM)]).flatMap FM.rows) ++ _) _
      rw [← er]
      exact H4
    refine sf_stp H5 (fun g hg u hu => ?_) h4 base (fun _ h => h) (.inr ⟨?_, rfl⟩)
    · rcases List.mem_append.1 hg with hg | hg
      · exact h3 g (by simp [hg]) u hu
      · simp at hg; subst hg
        exact h3 f (by simp) u hu
    · unfold itemX; rw [if_pos hk]; rfl
  · refine H1.csS (bs := [b3]) h3 h4 (fun own1 s1 => c_push s1 hl (-1) 0) ?_ (by simp)
    rintro _ w3 sl3 fs3 f3 p3 st3 wd3 ts3 t3 h33 h43 b3' ⟨rfl, he1, he2, rfl, rfl⟩ H4
    refine ⟨true, rfl, sf_stp H4 h33 h43 b3' t3 (.inr ⟨?_, rfl⟩)⟩
    unfold itemX
    rw [if_neg k33, if_pos hk, he1, he2]
  · exact leaf 2 t.lo t.hi H1 (by unfold itemX; rw [if_neg k33, if_neg k40, if_pos hk])
  · refine H1.stk (bs := [b3]) 0 1 rfl (fun w2 H2 => ?_) (by simp) (by simp)
    have H2 : SF (· ∈ own) w w2 rb sl 2 wd fs f [.g b3] ts := H2
    have ei : itemX t ⟨fs.map FM.x, f.x, st, wd⟩ = if t.s = wNone then some ⟨fs.map FM.x, atomX f.x (.mk 0 0 0 []), 3, wd⟩ else if t.s = wEmpty then some ⟨fs.map FM.x, atomX f.x (.mk 1 0 0 []), 3, wd⟩ else if t.s = wAlt then some ⟨fs.map FM.x, f.x, 2, 4⟩ else if t.s = wAll then some ⟨fs.map FM.x, f.x, 2, 5⟩ else if t.s = wCat then some ⟨fs.map FM.x, f.x, 2, 3⟩ else none := by
      unfold itemX
      rw [if_neg k33, if_neg k40, if_neg k114, if_pos hk]
    have word : ∀ (k : Int), itemX t ⟨fs.map FM.x, f.x, st, wd⟩ = some ⟨fs.map FM.x, f.x, 2, k⟩ → stV w2 ((at0 rb).add 2) (.i k) fun w10 => kept [b3] w2 w10 ∧ regex_reader_item.S0T w10 (StP w own ts rb (Says (itemX t ⟨fs.map FM.x, f.x, st, wd⟩))) := fun k he =>
      H2.stk (bs := [b3]) 0 2 rfl (fun w3 H3 => sf_stp (show SF (· ∈ own) w w3 rb sl 2 k fs f [.g b3] ts from H3) h3 h4 base (fun _ h => h) (.inr ⟨he, rfl⟩)) (by simp) (by simp)
    refine str_sel (fun h1 : t.s = wNone => leaf 0 0 0 H2 (by rw [ei, if_pos h1])) (fun n1 : t.s ≠ wNone => str_sel (fun h1 : t.s = wEmpty => leaf 1 0 0 H2 (by rw [ei, if_neg n1, if_pos h1])) (fun n2 : t.s ≠ wEmpty => str_sel (fun h1 : t.s = wAlt => word 4 (by rw [ei, if_neg n1, if_neg n2, if_pos h1])) (fun n3 : t.s ≠ wAlt => str_sel (fun h1 : t.s = wAll => word 5 (by rw [ei, if_neg n1, if_neg n2, if_neg n3, if_pos h1])) (fun n4 : t.s ≠ wAll => str_sel (fun h1 : t.s = wCat => word 3 (by rw [ei, if_neg n1, if_neg n2, if_neg n3, if_neg n4, if_pos h1])) (fun n5 : t.s ≠ wCat => ?_)))))
    exact sf_stp H2 h3 h4 base (fun _ h => h) (.inl ⟨by rw [ei, if_neg n1, if_neg n2, if_neg n3, if_neg n4, if_neg n5], rfl⟩)
  · exact sf_stp H1 h3 h4 base (fun _ h => h) (.inl ⟨by unfold itemX; rw [if_neg k33, if_neg k40, if_neg k114, if_neg k119], rfl⟩)
end Go.Proofs.YtknlbofiicflgaaGreat

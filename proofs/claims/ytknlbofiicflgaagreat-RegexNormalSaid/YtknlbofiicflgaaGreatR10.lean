/- Package regex: close: the contract. Package regex: feed: the contract. -/
import Derived.Test.YtknlbofiicflgaaGreatR6
namespace Go.Proofs.YtknlbofiicflgaaGreat
open Go Go.W

theorem own_shrink {w : World} {e : TypeId} {sz : Nat} {s : Sl} {xs : List Value} {p : Addr} (h : OwnRow w e sz s xs) (hp : s.a = some p) (n : Nat) (hn : n ≤ s.n) : OwnRow w e sz ⟨s.a, n, s.c⟩ (xs.take (n * sz)) := by
  have hl := h.len
  rcases h.cases with ⟨rfl, _⟩ | ⟨g, cur, ha, hg, h3, h4, h5, h6⟩
  · cases hp
  · have hm : n * sz ≤ s.n * sz := Nat.mul_le_mul_right _ hn
    refine ⟨by rw [List.length_take]; show _ = n * sz; omega, .inr ⟨g, s.c, cur, by rw [ha], Nat.zero_le _, hg, Nat.le_trans hn h3, h4, h5, ?_⟩⟩
    rw [← h6, List.take_take]
    congr 1
    show n * sz = _
    omega
section
variable {M : Nat → Prop} {w0 w : World} {L D A : List En} {bs : List Nat} {G : List En} {rb : Nat} {ts : List Rt}
/-- fewer rows -/
theorem rows_drop (H : LH M w0 w L D) (i : Nat) {rs rs' : List RowV} (hi : L[i]? = some (.rows (rs ++ rs'))) : LH M w0 w (L.set i (.rows rs)) D := by
  have hp : (En.rows (rs ++ rs')).P w := H.get i hi
  have nd := hp.2
  rw [List.flatMap_append, List.nodup_append] at nd
  refine H.upd i _ hi (Fr.refl _ _) ⟨fun q hq => hp.1 q (List.mem_append_left _ hq), nd.1⟩ fun b hb => .inl (mem_nub.2 ?_)
  rw [List.flatMap_append]
  exact List.mem_append_left _ (mem_nub.1 hb)
/-- some things by themselves -/
theorem lh_part (H : LH M w0 w (A ++ G) [.trees ts]) : LH (· ∈ A.flatMap (·.fp)) w w A [.trees ts] := by
  have nd := H.nd
  rw [List.flatMap_append, List.nodup_append] at nd
  refine LH.start' _ _ (fun e he => ⟨H.own e (List.mem_append_left _ he), fun b hb => List.mem_flatMap.2 ⟨e, he, hb⟩⟩) nd.1 fun e he => ?_
  simp only [List.mem_cons, List.not_mem_nil, or_false] at he
  subst he
  exact ⟨H.getD 0, fun b hb e' he' hb' => H.dj (.trees ts) (by simp) b hb e' (List.mem_append_left _ he') hb'⟩
theorem lh_after (H : LH M w0 w (A ++ G) [.trees ts]) {w' : World} {f0' : Addr} {lo' : List FX} {tp' : FX} {st' wd' : Int} {own' : List Nat} {ts' : List Rt} (s : St w' rb f0' lo' tp' st' wd' own' ts') (fr : Fr (· ∈ A.flatMap (·.fp)) w w') (o : ∀ x ∈ own', x ∈ A.flatMap (·.fp) ∨ w.heap.size ≤ x)
    (hb : ∀ b ∈ Rt.fps ts', b ∈ Rt.fps ts ∨ b ∈ A.flatMap (·.fp) ∨ w.heap.size ≤ b) :
    ∃ (sl' : Sl) (fs' : List FM) (f' : FM) (p' : Addr), fs'.map FM.x = lo' ∧ f'.x = tp' ∧ (∀ g ∈ fs' ++ [f'], ∀ t ∈ g.ts, t ∈ ts') ∧ sl'.a = some p' ∧ f0' = p'.add (fs'.length * 10) ∧ (∀ b ∈ Rt.fps ts', b ∈ Rt.fps ts ∨ w0.heap.size ≤ b ∨ M b) ∧ SF M w0 w' rb sl' st' wd' fs' f' G ts' := by
  obtain ⟨sl', fs', f', p', h1, h2, h3, h4, h5, h6, h7, h8, h9, h10⟩ := s
  have nd := H.nd
  rw [List.flatMap_append, List.nodup_append] at nd
  have ownM : ∀ b ∈ A.flatMap (·.fp), w0.heap.size ≤ b ∨ M b := fun b hb => by
    obtain ⟨e, he, hbe⟩ := List.mem_flatMap.1 hb
    exact H.new e (List.mem_append_left _ he) b hbe
  have glt : ∀ e ∈ G, ∀ b ∈ e.fp, b < w.heap.size := fun e he b hb => e.lt w (H.own e (List.mem_append_right _ he)) b hb
  have gown : ∀ e ∈ G, ∀ b ∈ e.fp, b ∉ A.flatMap (·.fp) := fun e he b hb hm => nd.2.2 b hm b (List.mem_flatMap.2 ⟨e, he, hb⟩) rfl
  have hsz := H.fr.size
  have own'M : ∀ b ∈ own', w0.heap.size ≤ b ∨ M b := fun b hb => (o b hb).elim (ownM b) fun h => .inl (Nat.le_trans hsz h)
  refine ⟨sl', fs', f', p', h1, h2, h3, h4, h5, fun b hb' => ?_, H.fr.trans fr fun x hx hm => (ownM x hm).resolve_left (by omega), fun e he => ?_, fun e he => ?_, fun e he b hb' => ?_, ?_, fun e he b hb' e' he' hbe => ?_⟩
  · rcases hb b hb' with h | h | h
    · exact .inl h
    · exact .inr (ownM b h)
    · exact .inr (.inl (Nat.le_trans hsz h))
  · rcases List.mem_append.1 he with he | he
    · exact h8 e he
    · exact e.st w w' (fun b hb hl => fr.keep b hl (gown e he b hb)) (H.own e (List.mem_append_right _ he))
  · simp at he; subst he; exact h9
  · rcases List.mem_append.1 he with he | he
    · exact own'M b (by rw [h6]; exact List.mem_flatMap.2 ⟨e, he, hb'⟩)
    · exact H.new e (List.mem_append_right _ he) b hb'
  · rw [List.flatMap_append, List.nodup_append]
    refine ⟨h6 ▸ h7, nd.2.1, fun x hx y hy hxy => ?_⟩
    subst hxy
    obtain ⟨e, he, hbe⟩ := List.mem_flatMap.1 hy
    rcases o x (by rw [h6]; exact hx) with h | h
    · exact gown e he x hbe h
    · have := glt e he x hbe; omega
  · simp at he; subst he
    have hb'' : b ∈ Rt.fps ts' := mem_nub.1 hb'
    rcases List.mem_append.1 he' with he' | he'
    · exact h10 b hb'' (by rw [h6]; exact List.mem_flatMap.2 ⟨e', he', hbe⟩)
    · rcases hb b hb'' with h | h | h
      · exact H.dj (.trees ts) (by simp) b (mem_nub.2 h) e' (List.mem_append_right _ he') hbe
      · exact gown e' he' b hbe h
      · have := glt e' he' b hbe; omega
/-- a call that is handed some of the things -/
theorem _root_.Go.W.LH.csA (H : LH M w0 w (A ++ G) [.trees ts]) {g : FuncId} {args : Array Value} {K : Post} {Q : Ending → Addr → List FX → FX → Int → Int → List Rt → Prop}
    (hc : ∀ own, LH (· ∈ own) w w A [.trees ts] → Calls Tryz.prog g args w (StP w own ts rb Q))
    (hk : ∀ r w' (sl' : Sl) (fs' : List FM) (f' : FM) (p' : Addr) (st' wd' : Int) (ts' : List Rt), (∀ t ∈ ts, t ∈ ts') → (∀ g ∈ fs' ++ [f'], ∀ t ∈ g.ts, t ∈ ts') → sl'.a = some p' → (∀ b ∈ Rt.fps ts', b ∈ Rt.fps ts ∨ w0.heap.size ≤ b ∨ M b) → Q r (p'.add (fs'.length * 10)) (fs'.map FM.x) f'.x st' wd' ts' → SF M w0 w' rb sl' st' wd' fs' f' G ts' → K r w')
    (hbs : ∀ b ∈ bs, En.g b ∈ G := by simp) : callF bs Tryz.prog g args w K := by
  have nd := H.nd
  rw [List.flatMap_append, List.nodup_append] at nd
  refine ⟨(· ∈ A.flatMap (·.fp)), fun b hb hm => ?_, (hc _ (lh_part H)).mono ?_⟩
  · exact nd.2.2 b hm b (List.mem_flatMap.2 ⟨_, hbs b hb, by simp [En.g]⟩) rfl
  · rintro r w' ⟨f0', lo', tp', st', wd', own', ts', s, fr, o, b, t, q⟩
    obtain ⟨sl', fs', f', p', rfl, rfl, h3', hp', rfl, hb', H'⟩ := lh_after H s fr o b
    exact ⟨fr, hk r w' sl' fs' f' p' st' wd' ts' t h3' hp' hb' q H'⟩
/-- a node over the parts of another -/
theorem lh_like (H : LH M w0 w L [.trees ts]) (T : Rt) (hT : T ∈ ts) (k : Int) (lo hi : UInt8) : LH M w0 w L [.trees (ts ++ [.mk k lo hi T.s T.l])] := by
  have pt : Rt.Ps w ts := H.getD 0
  have H1 := H.addD (.trees (ts ++ [.mk k lo hi T.s T.l])) (Fr.refl _ _) (Rt.ps_of fun t ht => ?_) fun b hb => .inr (.inr ⟨.trees ts, by simp, ?_⟩)
  · exact H1.forget _ (by simp)
  · rcases List.mem_append.1 ht with ht | ht
    · exact pt.mem ht
    · simp at ht; subst ht
      unfold Rt.P
      exact (pt.mem hT).parts
  · obtain ⟨t, ht, hb'⟩ := Rt.fps_iff.1 (mem_nub.1 hb)
    rcases List.mem_append.1 ht with ht | ht
    · exact mem_nub.2 (Rt.fps_iff.2 ⟨t, ht, hb'⟩)
    · simp at ht
      rw [ht] at hb'
      exact mem_nub.2 (Rt.fps_iff.2 ⟨T, hT, Rt.fp_parts.2 ((Rt.fp_parts (t := .mk k lo hi T.s T.l)).1 hb')⟩)
theorem like_fps {T : Rt} (hT : T ∈ ts) {k : Int} {lo hi : UInt8} {b : Nat} (h : b ∈ Rt.fps (ts ++ [.mk k lo hi T.s T.l])) : b ∈ Rt.fps ts := by
  obtain ⟨t, ht, hb'⟩ := Rt.fps_iff.1 h
  rcases List.mem_append.1 ht with ht | ht
  · exact Rt.fps_iff.2 ⟨t, ht, hb'⟩
  · simp at ht
    rw [ht] at hb'
    exact Rt.fps_iff.2 ⟨T, hT, Rt.fp_parts.2 ((Rt.fp_parts (t := .mk k lo hi T.s T.l)).1 hb')⟩
/-- the parts of a tree are trees -/
theorem lh_kids (H : LH M w0 w L [.trees ts]) (T : Rt) (hT : T ∈ ts) : LH M w0 w L [.trees (ts ++ T.l)] := by
  have pt : Rt.Ps w ts := H.getD 0
  have H1 := H.addD (.trees (ts ++ T.l)) (Fr.refl _ _) (Rt.ps_of fun t ht => ?_) fun b hb => .inr (.inr ⟨.trees ts, by simp, ?_⟩)
  · exact H1.forget _ (by simp)
  · rcases List.mem_append.1 ht with ht | ht
    · exact pt.mem ht
    · exact (pt.mem hT).parts.2.mem ht
  · obtain ⟨t, ht, hb'⟩ := Rt.fps_iff.1 (mem_nub.1 hb)
    rcases List.mem_append.1 ht with ht | ht
    · exact mem_nub.2 (Rt.fps_iff.2 ⟨t, ht, hb'⟩)
    · exact mem_nub.2 (Rt.fps_iff.2 ⟨T, hT, Rt.fp_parts.2 (.inr (Rt.fps_iff.2 ⟨t, ht, hb'⟩))⟩)
theorem kids_fps {T : Rt} (hT : T ∈ ts) {b : Nat} (h : b ∈ Rt.fps (ts ++ T.l)) : b ∈ Rt.fps ts := by
  obtain ⟨t, ht, hb'⟩ := Rt.fps_iff.1 h
  rcases List.mem_append.1 ht with ht | ht
  · exact Rt.fps_iff.2 ⟨t, ht, hb'⟩
  · exact Rt.fps_iff.2 ⟨T, hT, Rt.fp_parts.2 (.inr (Rt.fps_iff.2 ⟨t, ht, hb'⟩))⟩
end
theorem c_topR {w : World} {rb : Nat} {sl : Sl} {p : Addr} {n : Nat} (hc : w.cell? ((at0 rb).add 0) = some sl.v) (hl : sl.n = n + 1) (hp : sl.a = some p) (hn : n ≤ 1000000) : Calls Tryz.prog n_regex_reader_top #[.pointer (some (at0 rb))] w fun r w' => r = .returned (.pointer (some (p.add (n * 10)))) ∧ Fr0 w w' := by
  have e : IntKind.wrap .i64 (((sl.n : Nat) : Int) - 1) = (n : Int) := by rw [IntWalk.i64_in _ (by omega)]; omega
  have hc' : w.drew.cell? ((at0 rb).add 0) = some sl.v := hc
  refine regex_reader_top.ok _ w _ (show _ from ⟨sl, hc', sl, hc', ?_⟩)
  rw [e, hp]
  exact ⟨by omega, by omega, rfl, Fr.drew _ _⟩
def clR (k : Int) (l : List Rx) : Rx := if k < 0 then l.headD noR else .mk k 0 0 l
theorem c_close {w : World} {rb : Nat} {sl : Sl} {st wd : Int} {fs : List FM} {g f : FM} {ts : List Rt} {p : Addr} {own : List Nat}
    (H : LH (· ∈ own) w w [.c rb [sl.v, .int .i64 st, .int .i64 wd] ty_regex_reader, .row ty_regex_frame 10 sl (((fs ++ [g]) ++ [f]).flatMap FM.c), .rows ((fs ++ [g]).flatMap FM.rows)] [.trees ts])
    (h3 : ∀ x ∈ fs ++ [g], ∀ t ∈ x.ts, t ∈ ts) (hp : sl.a = some p) (hl : fs.length ≤ 999999) (T : Rt) (hT : T ∈ ts) (hk : 0 ≤ f.k ∨ T.l ≠ []) :
    Calls Tryz.prog n_regex_reader_close #[.pointer (some (at0 rb)), T.s.v] w (StP w own ts rb fun r _ lo' tp' st' wd' _ => r = .returned (.bool true) ∧ lo' = fs.map FM.x ∧ tp' = atomX g.x (clR f.k (Rt.rxs T.l)) ∧ st' = 3 ∧ wd' = wd) := by
  have hn : sl.n = (fs ++ [g]).length + 1 := by
    have ho : OwnRow w ty_regex_frame 10 sl (((fs ++ [g]) ++ [f]).flatMap FM.c) := H.get 1
    have := ho.len
    rw [fs_len] at this
    simp at this ⊢
    omega
  have hc1 : 1 ≤ sl.c := by
    have ho : OwnRow w ty_regex_frame 10 sl (((fs ++ [g]) ++ [f]).flatMap FM.c) := H.get 1
    have := ho.cap
    omega
  refine regex_reader_close.ok _ _ w _ (H.call (c_topR (H.ld 0 0) hn hp (by simp; omega)) ?_)
  rintro _ w1 rfl H1
  refine ⟨_, rfl, optP_some ⟨_, H1.ldF 1 rfl hp 0, ?_⟩⟩
  have H2 := H1.drew
  refine ⟨sl, H2.ld 0 0, sl, H2.ld 0 0, ?_⟩
  have e : IntKind.wrap .i64 (((sl.n : Nat) : Int) - 1) = (((fs ++ [g]).length : Nat) : Int) := by rw [IntWalk.i64_in _ (by simp at hn; omega)]; omega
  rw [e]
  refine ⟨by omega, by have ho : OwnRow w ty_regex_frame 10 sl (((fs ++ [g]) ++ [f]).flatMap FM.c) := H.get 1
                       have := ho.cap
                       omega, ?_⟩
  have ev : Value.slice (if sl.c = 0 then sl.a else sl.a.map (·.add (0 * 10))) ((Int.toNat (((fs ++ [g]).length : Nat) : Int)) - 0) (sl.c - 0) = (⟨sl.a, (fs ++ [g]).length, sl.c⟩ : Sl).v := by
    rw [if_neg (by omega), hp]
    show Value.slice (some (p.add 0)) _ _ = Value.slice (some p) _ _
    rw [add0]
    simp
  rw [ev]
  refine H2.st 0 0 rfl fun w3 H3 => ?_
  have hr3 : OwnRow w3 ty_regex_frame 10 sl (((fs ++ [g]) ++ [f]).flatMap FM.c) := H3.get 1
  have hs3 := own_shrink hr3 hp (fs ++ [g]).length (by omega)
  have et : (((fs ++ [g]) ++ [f]).flatMap FM.c).take ((fs ++ [g]).length * 10) = (fs ++ [g]).flatMap FM.c := by
    rw [List.flatMap_append, ← fs_len, List.take_left']
    rfl
  rw [et] at hs3
  have H4 := H3.upd 1 (.row ty_regex_frame 10 ⟨sl.a, (fs ++ [g]).length, sl.c⟩ ((fs ++ [g]).flatMap FM.c)) rfl (Fr.refl _ _) hs3 fun b hb => .inl hb
  have H5 : SF (· ∈ own) w w3 rb ⟨sl.a, (fs ++ [g]).length, sl.c⟩ st wd fs g [] ts := by
    show LH _ _ _ (_ ++ []) _
    rw [List.append_nil]
    exact H4
  refine sel_intro (fun h1 => ?_) (fun h1 => ?_)
  · have hk0 : f.k < 0 := of_decide_eq_true h1
    have hne : T.l ≠ [] := hk.resolve_left (by omega)
    obtain ⟨x, l, hx⟩ := List.exists_cons_of_ne_nil hne
    have hr : RdN 4 w3 T.s (T.l.flatMap Rt.c) := ((show Rt.Ps w3 ts from H5.getD 0).mem hT).parts.1
    have hln := Rt.rows_n hr
    refine ⟨by omega, by rw [hln, hx]; simp, Rt.at' hr (i := 0) (t := x) (by rw [hx]; rfl) fun q hq c => ⟨_, _, _, _, c.c0, c.c1, c.c2, c.c3, ?_⟩⟩
    have H6 := lh_kids H5 T hT
    refine (show SF (· ∈ own) w w3 rb ⟨sl.a, (fs ++ [g]).length, sl.c⟩ st wd fs g [] (ts ++ T.l) from H6).csS0 (fun y hy t ht => List.mem_append_left _ (h3 y hy t ht)) hp (fun own1 s1 => c_atom s1 (by simp; omega) x (by rw [hx]; simp)) ?_
    rintro _ w4 sl4 fs4 f4 p4 st4 wd4 ts4 t4 h34 h44 b4 ⟨rfl, _, he1, he2, rfl, rfl⟩ H7
    refine ⟨true, rfl, sf_stp H7 h34 h44 (fun b hb => (b4 b hb).imp (kids_fps hT) id) (fun t ht => t4 t (List.mem_append_left _ ht)) ⟨rfl, he1, ?_, rfl, rfl⟩⟩
    rw [he2, hx]
    unfold clR
    rw [if_pos hk0]
    rfl
  · have hk0 : ¬ f.k < 0 := of_decide_eq_false h1
    have H6 := lh_like H5 T hT f.k 0 0
    refine (show SF (· ∈ own) w w3 rb ⟨sl.a, (fs ++ [g]).length, sl.c⟩ st wd fs g [] (ts ++ [.mk f.k 0 0 T.s T.l]) from H6).csS0 (fun y hy t ht => List.mem_append_left _ (h3 y hy t ht)) hp (fun own1 s1 => c_atom s1 (by simp; omega) (.mk f.k 0 0 T.s T.l) (by simp)) ?_
    rintro _ w4 sl4 fs4 f4 p4 st4 wd4 ts4 t4 h34 h44 b4 ⟨rfl, _, he1, he2, rfl, rfl⟩ H7
    refine ⟨true, rfl, sf_stp H7 h34 h44 (fun b hb => (b4 b hb).imp (like_fps hT) id) (fun t ht => t4 t (List.mem_append_left _ ht)) ⟨rfl, he1, ?_, rfl, rfl⟩⟩
    rw [he2]
    unfold clR
    rw [if_neg hk0]
    rfl
end Go.Proofs.YtknlbofiicflgaaGreat
namespace Go.Proofs.YtknlbofiicflgaaGreat
open Go Go.W

def closeX (s : SX) (l : List Rx) : Option SX := match s.lo.getLast? with
  | none => none
  | some g => some ⟨s.lo.dropLast, atomX g (clR s.tp.k l), 3, s.wd⟩
def argX (s' : Sl) (f : FX) : FX := ⟨f.k, (s', f.ar.2 ++ [exprX f]), [], [], [], 0, f.la⟩
/-- a token, read -/
def feedX (s' : Sl) (t : Tk) (s : SX) : Option SX :=
  if s.st = 2 then (if t.k = 40 then some ⟨s.lo ++ [s.tp], newFX s.wd, 1, s.wd⟩ else none)
  else if s.st = 1 then (if t.k = 41 then closeX s [] else itemX t s)
  else if s.st = 0 then itemX t s
  else if t.k = 42 then some ⟨s.lo, atomX s.tp (.mk 7 0 0 [s.tp.la]), s.st, s.wd⟩
  else if t.k = 38 then some ⟨s.lo, endSeqX s.tp, 0, s.wd⟩
  else if t.k = 124 then some ⟨s.lo, endConjX s.tp, 0, s.wd⟩
  else if t.k = 44 then (if s.tp.k < 0 then none else some ⟨s.lo, argX s' s.tp, 0, s.wd⟩)
  else if t.k = 41 then (if s.lo = [] then none else closeX s (s.tp.ar.2 ++ [exprX s.tp]))
  else if t.k = 36 then (if s.lo = [] then some s else none)
  else itemX t ⟨s.lo, endItemX s.tp, s.st, s.wd⟩
section
variable {M : Nat → Prop} {w0 w1 : World} {bs : List Nat} {G : List En} {rb : Nat} {sl : Sl} {st wd : Int} {fs : List FM} {f : FM} {ts : List Rt} {p : Addr}
abbrev FS2 (M : Nat → Prop) (w0 w : World) (rb : Nat) (sl : Sl) (st wd : Int) (fs : List FM) (f : FM) (rs : List RowV) (G : List En) (ts : List Rt) : Prop := LH M w0 w (SL rb sl st wd ((fs ++ [f]).flatMap FM.c) rs ++ G) [.trees ts]
/-- a tree is appended to one of a frame's lists, where somebody watches -/
theorem push_k (H1 : SF M w0 w1 rb sl st wd fs f G ts) (i : Nat) {src : Sl} (hi : (SL rb sl st wd ((fs ++ [f]).flatMap FM.c) ((fs ++ [f]).flatMap FM.rows) ++ G)[i]? = some (.row ty_regex_Regex 4 src z4)) (hp : sl.a = some p) (d : Nat) (hd1 : 1 ≤ d) (hd4 : d ≤ 4) (t : Rt) (hb : (f.col d).2.length ≤ 1000000) (hsn : src.n = 1) {K : World → Prop}
    (hK : ∀ s' w', SF M w0 w' rb sl st wd fs (f.put d (s', (f.col d).2 ++ [t])) G ts → K w') (hbs : ∀ b ∈ bs, En.g b ∈ G := by simp) :
    ∃ (t15 : Sl) (w5 : World), (Builtin.append_ #[ty_sl_regex_Regex, ty_sl_regex_Regex] ty_sl_regex_Regex #[(f.col d).1.v, src.v]).run Tryz.prog w1 = .ok (t15.v) w5 ∧ kept bs w1 w5 ∧ (0 : Int) ≤ (((f.col d).1.n : Nat) : Int) ∧ (((f.col d).1.n : Nat) : Int) < ((t15.n : Nat) : Int) ∧ optP t15.a fun q =>
      ((stV w5 (q.add (Int.toNat (((f.col d).1.n : Nat) : Int) * 4)) (.int .i64 t.k) fun w6 => kept bs w5 w6 ∧ stV w6 ((q.add (Int.toNat (((f.col d).1.n : Nat) : Int) * 4)).add 1) (.int .u8 (t.lo.toNat : Int)) fun w7 => kept bs w6 w7 ∧ stV w7 ((q.add (Int.toNat (((f.col d).1.n : Nat) : Int) * 4)).add 2) (.int .u8 (t.hi.toNat : Int)) fun w8 => kept bs w7 w8 ∧ stV w8 ((q.add (Int.toNat (((f.col d).1.n : Nat) : Int) * 4)).add 3) t.s.v fun w9 => kept bs w8 w9 ∧ stV w9 ((p.add (fs.length * 10)).add d) t15.v fun w10 => kept bs w9 w10 ∧ K w10) ∧
      (stV w5 ((p.add (fs.length * 10)).add d) t15.v fun w11 => kept bs w5 w11 ∧ stV w11 (q.add (Int.toNat (((f.col d).1.n : Nat) : Int) * 4)) (.int .i64 t.k) fun w6 => kept bs w11 w6 ∧ stV w6 ((q.add (Int.toNat (((f.col d).1.n : Nat) : Int) * 4)).add 1) (.int .u8 (t.lo.toNat : Int)) fun w7 => kept bs w6 w7 ∧ stV w7 ((q.add (Int.toNat (((f.col d).1.n : Nat) : Int) * 4)).add 2) (.int .u8 (t.hi.toNat : Int)) fun w8 => kept bs w7 w8 ∧ stV w8 ((q.add (Int.toNat (((f.col d).1.n : Nat) : Int) * 4)).add 3) t.s.v fun w9 => kept bs w8 w9 ∧ K w9)) := by
  have hrow : ((fs ++ [f]).flatMap FM.rows)[fs.length * 4 + (d - 1)]? = some ((f.col d).1, (f.col d).2.flatMap Rt.c) := rows_get fs f (d - 1) _ (col_r f hd1 hd4)
  have nr : (f.col d).1.n = (f.col d).2.length := by
    have hp : (En.rows ((fs ++ [f]).flatMap FM.rows)).P w1 := H1.get 2
    exact Rt.rows_n (hp.1 _ (List.mem_of_getElem? hrow)).rdn
  have hg : ∀ {L : List En}, ∀ b ∈ bs, En.g b ∈ L ++ G := fun b hb => List.mem_append_right _ (hbs b hb)
  obtain ⟨s', w5, h1, hkp, h3⟩ := H1.apRow (bs := bs) (ty := ty_sl_regex_Regex) 2 (fs.length * 4 + (d - 1)) (src := src) (news := z4) (K := fun s' w' => FS2 M w0 w' rb sl st wd fs f (((fs ++ [f]).flatMap FM.rows).set (fs.length * 4 + (d - 1)) (s', (f.col d).2.flatMap Rt.c ++ z4)) G ts ∧ s'.n = (f.col d).1.n + 1 ∧ ∃ q, s'.a = some q) rfl hrow (OwnRow.rdn (H1.get i hi)) (by simp [Value.oneCell']) (by omega) (fun s' w4 H4 hn' hnone => ⟨H4, by omega, by
    cases hs : s'.a with
    | none => have := (hnone hs).2; omega
    | some q => exact ⟨q, rfl⟩⟩) hg
  obtain ⟨H5, hn5, q, hq⟩ := h3
  refine ⟨s', w5, h1, hkp, by omega, by omega, ?_⟩
  rw [hq]
  have hjl : fs.length * 4 + (d - 1) < ((fs ++ [f]).flatMap FM.rows).length := by rw [rows_len]; simp; omega
  have ec : ∀ (f : FM) (t : Rt) (d : Nat), (f.col d).2.flatMap Rt.c ++ t.c = ((f.col d).2 ++ [t]).flatMap Rt.c := fun f t d => by simp
  rw [nr]
  refine ⟨?_, ?_⟩
  · refine LH.put4 (bs := bs) H5 2 (fs.length * 4 + (d - 1)) (f.col d).2.length t rfl (List.getElem?_set_self hjl) hq (Rt.cs_len _) (fun w' H6 => ?_) hg
    have H6 : FS2 M w0 w' rb sl st wd fs f ((((fs ++ [f]).flatMap FM.rows).set (fs.length * 4 + (d - 1)) (s', (f.col d).2.flatMap Rt.c ++ z4)).set (fs.length * 4 + (d - 1)) (s', (f.col d).2.flatMap Rt.c ++ t.c)) G ts := H6
    rw [List.set_set, ec, fr_rows fs f (s', (f.col d).2 ++ [t]) hd1 hd4] at H6
    exact H6.stF (bs := bs) (f := f) 1 (f.put d (s', (f.col d).2 ++ [t])) d rfl hp (by omega) (put_c f (s', (f.col d).2 ++ [t]) hd1 hd4) (fun w'' H7 => hK s' w'' H7) hg
  · refine H5.stF (bs := bs) (f := f) 1 (f.put d (s', (f.col d).2 ++ [t])) d rfl hp (by omega) (put_c f (s', (f.col d).2 ++ [t]) hd1 hd4) (fun w' H6 => ?_) hg
    refine LH.put4 (bs := bs) (L := SL rb sl st wd ((fs ++ [f.put d (s', (f.col d).2 ++ [t])]).flatMap FM.c) (((fs ++ [f]).flatMap FM.rows).set (fs.length * 4 + (d - 1)) (s', (f.col d).2.flatMap Rt.c ++ z4)) ++ G) H6 2 (fs.length * 4 + (d - 1)) (f.col d).2.length t rfl (List.getElem?_set_self hjl) hq (Rt.cs_len _) (fun w'' H7 => ?_) hg
    have H7 : LH M w0 w'' (SL rb sl st wd ((fs ++ [f.put d (s', (f.col d).2 ++ [t])]).flatMap FM.c) ((((fs ++ [f]).flatMap FM.rows).set (fs.length * 4 + (d - 1)) (s', (f.col d).2.flatMap Rt.c ++ z4)).set (fs.length * 4 + (d - 1)) (s', (f.col d).2.flatMap Rt.c ++ t.c)) ++ G) [.trees ts] := H7
    rw [List.set_set, ec, fr_rows fs f (s', (f.col d).2 ++ [t]) hd1 hd4] at H7
    exact hK s' w'' H7
end
end Go.Proofs.YtknlbofiicflgaaGreat

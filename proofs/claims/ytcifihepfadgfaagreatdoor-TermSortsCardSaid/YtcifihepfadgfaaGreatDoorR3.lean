import Derived.Test.YtcifihepfadgfaaGreatDoorR1
import Derived.Test.YtcifihepfadgfaaGreatDoorVB
import Derived.Laws.StandIn
import Derived.Lib.Bytealg
set_option linter.unusedVariables false
namespace Go.Proofs.YtcifihepfadgfaaGreatDoor
open Go Go.W
abbrev RowV:=Sl×List Value
def _root_.Go.W.En.rows (rs:List RowV):En:=⟨nub (rs.flatMap fun p:RowV=>blkL p.1),fun w=>(∀p∈rs,OwnRow w ty_regex_Regex 4 p.1 p.2)∧(rs.flatMap fun p:RowV=>blkL p.1).Nodup,
 fun w w' h hp=>⟨fun p hm=>(hp.1 p hm).keep fun b hb hl=>h b (mem_nub.2 (List.mem_flatMap.2 ⟨p,hm,hb⟩)) hl,hp.2⟩,
 fun w hp b hb=>by
  obtain ⟨p,hm,hb⟩:=List.mem_flatMap.1 (mem_nub.1 hb)
  exact (hp.1 p hm).lt b hb,nub_nodup _⟩
theorem rows_off (rs:List RowV) (hr:rs≠[]) (w:World) (b:Nat) (hb:b∈(En.rows rs).fp):¬(En.rows rs).P ({w with heap:=Array.replicate (b+1) (.map #[] 0)}):=by
 rintro ⟨h,_⟩
 obtain ⟨p,hm,hb⟩:=List.mem_flatMap.1 (mem_nub.1 hb)
 obtain ⟨cs,f,hc⟩:=(h p hm).row.typ b hb
 simp at hc
section
variable {M:Nat→Prop} {w0 w:World} {L D:List En} {bs:List Nat}
theorem ghost_off' (H:LH M w0 w L D) {i:Nat} {rs:List RowV} (hi:L[i]? =some (.rows rs)) {b:Nat} (hb:En.g b∈L):b∉(En.rows rs).fp:=by
 intro hm
 obtain ⟨j,hj⟩:=List.mem_iff_getElem?.1 hb
 by_cases hij:i=j
 ·subst hij
  rw [hi] at hj
  have e1:En.rows rs=En.g b:=Option.some.inj hj
  have hne:rs≠[]:=by
   rintro rfl
   simp [En.rows,nub] at hm
  refine rows_off rs hne w b hm ?_
  rw [e1]
  show b<_
  simp
 ·exact disj_of H.nd hi hj hij b hm (by simp [En.g])
theorem flat_set {rs:List RowV} {j:Nat} {s s':Sl} {vs vs':List Value} (hj:rs[j]? =some (s,vs)) (hn:(rs.flatMap fun p:RowV=>blkL p.1).Nodup) (hs:(blkL s').Nodup) (hx:∀x∈blkL s',x∈blkL s∨x∉rs.flatMap fun p:RowV=>blkL p.1):((rs.set j (s',vs')).flatMap fun p:RowV=>blkL p.1).Nodup:=
 nodup_set (f:=fun p:RowV=>blkL p.1) hj hn hs hx
theorem blk_nodup (s:Sl):(blkL s).Nodup:=by unfold blkL;split<;>simp
theorem mem_set' {α:Type} {l:List α} {j:Nat} {a x:α} (h:x∈l.set j a):x=a∨∃i,i≠j∧l[i]? =some x:=by
 obtain ⟨i,hi⟩:=List.mem_iff_getElem?.1 h
 rw [List.getElem?_set] at hi
 split at hi
 ·split at hi
  ·exact .inl (Option.some.inj hi).symm
  ·cases hi
 ·rename_i hne
  exact .inr ⟨i,fun e=>hne e.symm,hi⟩
theorem rows_disj {rs:List RowV} (hn:(rs.flatMap fun p:RowV=>blkL p.1).Nodup):∀{i j:Nat} {p q:RowV},rs[i]? =some p→rs[j]? =some q→i≠j→∀b∈blkL p.1,b∉blkL q.1:=by
 induction rs with
 |nil=>intro i j p q h;simp at h
 |cons a l ih=>
  rw [List.flatMap_cons,List.nodup_append] at hn
  intro i j p q hi hj hij b hb hb'
  cases i with
  |zero=>
   simp at hi;subst hi
   cases j with
   |zero=>exact hij rfl
   |succ j=>exact hn.2.2 b hb b (List.mem_flatMap.2 ⟨q,List.mem_of_getElem? (by simpa using hj),hb'⟩) rfl
  |succ i=>
   cases j with
   |zero=>
    simp at hj;subst hj
    exact hn.2.2 b hb' b (List.mem_flatMap.2 ⟨p,List.mem_of_getElem? (by simpa using hi),hb⟩) rfl
   |succ j=>exact ih hn.2.1 (by simpa using hi) (by simpa using hj) (by omega) b hb hb'
theorem rows_upd (H:LH M w0 w L D) {w':World} (i j:Nat) {rs:List RowV} {s s':Sl} {vs vs':List Value} (hi:L[i]? =some (.rows rs)) (hj:rs[j]? =some (s,vs)) (f:Fr (fun b=>b∈blkL s) w w') (ho:OwnRow w' ty_regex_Regex 4 s' vs') (hb:∀b∈blkL s',b∈blkL s∨w.heap.size≤b):
  LH M w0 w' (L.set i (.rows (rs.set j (s',vs')))) D:=by
 have hp:(En.rows rs).P w:=H.get i hi
 have hsub:∀b∈blkL s,b∈(En.rows rs).fp:=fun b hb=>mem_nub.2 (List.mem_flatMap.2 ⟨_,List.mem_of_getElem? hj,hb⟩)
 have hlt:∀b∈rs.flatMap (fun p:RowV=>blkL p.1),b<w.heap.size:=fun b hb=>(En.rows rs).lt w hp b (mem_nub.2 hb)
 refine H.upd i _ hi (f.mono fun x _ hx=>hsub x hx) ⟨fun p hm=>?_,flat_set hj hp.2 (blk_nodup _) fun x hx=>(hb x hx).imp id fun h hm=>by have:=hlt x hm;omega⟩ fun b hm=>?_
 ·rcases mem_set' hm with rfl|⟨k,hk,hp'⟩
  ·exact ho
  ·exact (hp.1 p (List.mem_of_getElem? hp')).keep fun b hb' hl=>f.keep b hl fun hbs=>rows_disj hp.2 hp' hj hk b hb' hbs
 ·obtain ⟨p,hm,hbp⟩:=List.mem_flatMap.1 (mem_nub.1 hm)
  rcases mem_set' hm with rfl|⟨k,_,hp'⟩
  ·exact (hb b hbp).imp (hsub b) id
  ·exact .inl (mem_nub.2 (List.mem_flatMap.2 ⟨p,List.mem_of_getElem? hp',hbp⟩))
theorem _root_.Go.W.LH.apRow (H:LH M w0 w L D) (i j:Nat) {ty:TypeId} {rs:List RowV} {s src:Sl} {vs news:List Value} {K:Sl→World→Prop} (hi:L[i]? =some (.rows rs)) (hj:rs[j]? =some (s,vs)) (hr:RdN 4 w src news) (h1:∀u∈news,u.oneCell'=true) (hb:(s.n+src.n) *40≤140737488355328)
  (hK:∀s' w',LH M w0 w' (L.set i (.rows (rs.set j (s',vs++news)))) D→s'.n=s.n+src.n→(s'.a=none→s.a=none∧src.n=0)→K s' w') (hbs:∀b∈bs,En.g b∈L:=by simp):
  ∃s' w',(Builtin.append_ #[ty_sl_regex_Regex,ty_sl_regex_Regex] ty #[s.v,src.v]).run Tryz.prog w=.ok s'.v w'∧kept bs w w'∧K s' w':=by
 have hp:(En.rows rs).P w:=H.get i hi
 obtain ⟨s',w',g1,g2,g3,g4,g5,g6⟩:=append_ownC (ty:=ty) el_rx (hp.1 _ (List.mem_of_getElem? hj)) hr.2.2 hr.1 h1 hb
 refine ⟨s',w',g1,fun b hb'=>?_,hK s' w' (rows_upd H i j hi hj g4 g2 g5) g3 g6⟩
 refine g4.keep b (H.own _ (hbs b hb')) fun hm=>?_
 exact ghost_off' H hi (hbs b hb') (mem_nub.2 (List.mem_flatMap.2 ⟨_,List.mem_of_getElem? hj,hm⟩))
theorem _root_.Go.W.LH.stRow (H:LH M w0 w L D) (i j a c:Nat) {rs:List RowV} {s:Sl} {vs:List Value} {v:Value} {p:Addr} {K:World→Prop} (hi:L[i]? =some (.rows rs)) (hj:rs[j]? =some (s,vs)) (hp:s.a=some p) (hl:a+c<vs.length)
  (hK:∀w',LH M w0 w' (L.set i (.rows (rs.set j (s,vs.set (a+c) v)))) D→K w') (hbs:∀b∈bs,En.g b∈L:=by simp):stV w ((p.add a).add c) v fun w1=>kept bs w w1∧K w1:=by
 have hP:(En.rows rs).P w:=H.get i hi
 obtain ⟨q,hq,hqb,x1,x2,x3,x4⟩:=own_set (hP.1 _ (List.mem_of_getElem? hj)) (a+c) hl v
 rw [hp] at hq
 cases hq
 rw [add_add]
 refine ⟨x1,x2,fun b hb=>?_,hK _ (rows_upd H i j hi hj x4 x3 fun b hb=>.inl hb)⟩
 exact x4.keep b (H.own _ (hbs b hb)) fun hm=>ghost_off' H hi (hbs b hb) (mem_nub.2 (List.mem_flatMap.2 ⟨_,List.mem_of_getElem? hj,hm⟩))
theorem _root_.Go.W.LH.giveRow (H:LH M w0 w L D) (i j:Nat) {rs:List RowV} {s:Sl} {vs:List Value} (hi:L[i]? =some (.rows rs)) (hj:rs[j]? =some (s,vs)):LH M w0 w (L.set i (.rows (rs.set j (⟨none,0,0⟩,[])))) (D++[.rdn 4 s vs]):=by
 have hp:(En.rows rs).P w:=H.get i hi
 have H1:=rows_upd H i j hi hj (Fr.refl _ _) (OwnRow.nil w ty_regex_Regex 4) (fun b hb=>by simp [blkL] at hb)
 have hsub:∀b∈blkL s,b∈(En.rows rs).fp:=fun b hb=>mem_nub.2 (List.mem_flatMap.2 ⟨_,List.mem_of_getElem? hj,hb⟩)
 have hil:i<L.length:=(List.getElem?_eq_some_iff.1 hi).1
 refine ⟨H1.fr,H1.own,fun e he=>?_,H1.new,H1.nd,fun e he b hb e' he' hb'=>?_⟩
 ·rcases List.mem_append.1 he with he|he
  ·exact H1.rd e he
  ·simp at he;subst he
   exact (hp.1 _ (List.mem_of_getElem? hj)).rdn
 ·rcases List.mem_append.1 he with he|he
  ·exact H1.dj e he b hb e' he' hb'
  ·simp at he;subst he
   have hbs:b∈blkL s:=rdn_own (e:=ty_regex_Regex) hb
   rcases mem_set' he' with rfl|⟨k,hk,hke⟩
   ·obtain ⟨q,hq,hbq⟩:=List.mem_flatMap.1 (mem_nub.1 hb')
    rcases mem_set' hq with rfl|⟨k,hk,hkq⟩
    ·simp [blkL] at hbq
    ·exact rows_disj hp.2 hkq hj hk b hbq hbs
   ·exact disj_of H.nd hi hke (fun e=>hk e.symm) b (hsub b hbs) hb'
end
structure FX where
 k:Int
 ar:Sl×List Rx
 al:List Rx
 an:List Rx
 ca:List Rx
 n:Nat
 la:Rx
structure FM where
 k:Int
 ar:Sl×List Rt
 al:Sl×List Rt
 an:Sl×List Rt
 ca:Sl×List Rt
 n:Nat
 la:Rt
def FM.x (f:FM):FX:=⟨f.k,(f.ar.1,Rt.rxs f.ar.2),Rt.rxs f.al.2,Rt.rxs f.an.2,Rt.rxs f.ca.2,f.n,f.la.rx⟩
def FM.c (f:FM):List Value:=[.int .i64 f.k,f.ar.1.v,f.al.1.v,f.an.1.v,f.ca.1.v,.int .i64 (f.n:Int),.int .i64 f.la.k,.int .u8 (f.la.lo.toNat:Int),.int .u8 (f.la.hi.toNat:Int),f.la.s.v]
def FM.rows (f:FM):List RowV:=[(f.ar.1,f.ar.2.flatMap Rt.c),(f.al.1,f.al.2.flatMap Rt.c),(f.an.1,f.an.2.flatMap Rt.c),(f.ca.1,f.ca.2.flatMap Rt.c)]
def FM.ts (f:FM):List Rt:=f.ar.2++f.al.2++f.an.2++f.ca.2++[f.la]
theorem FM.c_len (f:FM):f.c.length=10:=rfl
theorem fs_len (fs:List FM):(fs.flatMap FM.c).length=fs.length *10:=flat_length FM.c 10 FM.c_len fs
abbrev SL (rb:Nat) (sl:Sl) (st wd:Int) (cs:List Value) (rs:List RowV):List En:=[.c rb [sl.v,.int .i64 st,.int .i64 wd] ty_regex_reader,.row ty_regex_frame 10 sl cs,.rows rs]
def St (w:World) (rb:Nat) (f0:Addr) (lo:List FX) (tp:FX) (st wd:Int) (own:List Nat) (ts:List Rt):Prop:=
 ∃(sl:Sl) (fs:List FM) (f:FM) (p:Addr),fs.map FM.x=lo∧f.x=tp∧(∀g∈fs++[f],∀t∈g.ts,t∈ts)∧sl.a=some p∧f0=p.add (fs.length *10)∧
  own=(SL rb sl st wd ((fs++[f]).flatMap FM.c) ((fs++[f]).flatMap FM.rows)).flatMap (·.fp)∧own.Nodup∧(∀e∈SL rb sl st wd ((fs++[f]).flatMap FM.c) ((fs++[f]).flatMap FM.rows),e.P w)∧Rt.Ps w ts∧∀b∈Rt.fps ts,b∉own
def StAt (w:World) (own:List Nat) (ts:List Rt) (rb:Nat) (f0:Addr) (lo:List FX) (tp:FX) (st wd:Int) (A:List Rt→Prop) (w':World):Prop:=∃own' ts',St w' rb f0 lo tp st wd own' ts'∧Fr (·∈own) w w'∧(∀x∈own',x∈own∨w.heap.size≤x)∧(∀b∈Rt.fps ts',b∈Rt.fps ts∨b∈own∨w.heap.size≤b)∧(∀t∈ts,t∈ts')∧A ts'
theorem StAt.then {w w1 w':World} {own own1:List Nat} {ts ts1:List Rt} {rb:Nat} {f0:Addr} {lo:List FX} {tp:FX} {st wd:Int} {A:List Rt→Prop} (f1:Fr (·∈own) w w1) (o1:∀x∈own1,x∈own∨w.heap.size≤x) (b1:∀b∈Rt.fps ts1,b∈Rt.fps ts∨b∈own∨w.heap.size≤b) (t1:∀t∈ts,t∈ts1) (h:StAt w1 own1 ts1 rb f0 lo tp st wd A w'):StAt w own ts rb f0 lo tp st wd A w':=by
 obtain ⟨own2,ts2,s2,f2,o2,b2,t2,a2⟩:=h
 refine ⟨own2,ts2,s2,f1.trans f2 fun x hx hm=>(o1 x hm).resolve_right fun h=>by omega,fun x hx=>?_,fun b hb=>?_,fun t ht=>t2 t (t1 t ht),a2⟩
 ·rcases o2 x hx with h|h
  ·exact o1 x h
  ·exact .inr (Nat.le_trans f1.size h)
 ·rcases b2 b hb with h|h|h
  ·exact b1 b h
  ·exact .inr (o1 b h)
  ·exact .inr (.inr (Nat.le_trans f1.size h))
theorem StAt.mono {w w':World} {own:List Nat} {ts:List Rt} {rb:Nat} {f0:Addr} {lo:List FX} {tp:FX} {st wd:Int} {A B:List Rt→Prop} (h:StAt w own ts rb f0 lo tp st wd A w') (hab:∀l,A l→B l):StAt w own ts rb f0 lo tp st wd B w':=by
 obtain ⟨own2,ts2,s2,f2,o2,b2,t2,a2⟩:=h
 exact ⟨own2,ts2,s2,f2,o2,b2,t2,hab _ a2⟩
def _root_.Go.W.En.stt (rb:Nat) (f0:Addr) (lo:List FX) (tp:FX) (st wd:Int) (own:List Nat) (ts:List Rt):En:=⟨nub (own++Rt.fps ts),fun w=>St w rb f0 lo tp st wd own ts,fun w w' h hp=>(by
 obtain ⟨sl,fs,g,p,h1,h2,h3,h4,h5,h6,h7,h8,h9,h10⟩:=hp
 refine ⟨sl,fs,g,p,h1,h2,h3,h4,h5,h6,h7,fun e he=>e.st w w' (fun b hb hl=>h b (mem_nub.2 (List.mem_append_left _ ?_)) hl) (h8 e he),Rt.keeps ts (fun b hb hl=>h b (mem_nub.2 (List.mem_append_right _ hb)) hl) h9,h10⟩
 rw [h6]
 exact List.mem_flatMap.2 ⟨e,he,hb⟩),fun w hp b hb=>(by
 obtain ⟨sl,fs,g,p,h1,h2,h3,h4,h5,h6,h7,h8,h9,h10⟩:=hp
 rcases List.mem_append.1 (mem_nub.1 hb) with hb|hb
 ·rw [h6] at hb
  obtain ⟨e,he,hbe⟩:=List.mem_flatMap.1 hb
  exact e.lt w (h8 e he) b hbe
 ·exact Rt.lts ts h9 b hb),nub_nodup _⟩
theorem stt_off (rb:Nat) (f0:Addr) (lo:List FX) (tp:FX) (st wd:Int) (own:List Nat) (ts:List Rt) (w:World) (b:Nat):¬(En.stt rb f0 lo tp st wd own ts).P ({w with heap:=Array.replicate (b+1) (.map #[] 0)}):=by
 rintro ⟨sl,fs,g,p,h1,h2,h3,h4,h5,h6,h7,h8,h9,h10⟩
 have:=h8 (.c rb [sl.v,.int .i64 st,.int .i64 wd] ty_regex_reader) (by simp)
 have h:({w with heap:=Array.replicate (b+1) (.map #[] 0)}:World).heap[rb]? =some (.cells #[sl.v,.int .i64 st,.int .i64 wd] ty_regex_reader (0,0)):=this
 simp [Array.getElem?_replicate] at h
theorem St.at_start {w:World} {rb:Nat} {sl:Sl} {fs:List FM} {f:FM} {ts:List Rt} {st wd:Int} {own:List Nat} (h6:own=(SL rb sl st wd ((fs++[f]).flatMap FM.c) ((fs++[f]).flatMap FM.rows)).flatMap (·.fp)) (h7:own.Nodup) (h8:∀e∈SL rb sl st wd ((fs++[f]).flatMap FM.c) ((fs++[f]).flatMap FM.rows),e.P w) (h9:Rt.Ps w ts) (h10:∀b∈Rt.fps ts,b∉own):
  LH (·∈own) w w (SL rb sl st wd ((fs++[f]).flatMap FM.c) ((fs++[f]).flatMap FM.rows)) [.trees ts]:=by
 refine LH.start' _ _ (fun e he=>⟨h8 e he,fun b hb=>by rw [h6];exact List.mem_flatMap.2 ⟨e,he,hb⟩⟩) (h6▸h7) fun e he=>?_
 simp only [List.mem_cons,List.not_mem_nil,or_false] at he
 subst he
 refine ⟨h9,fun b hb e' he' hb'=>h10 b (mem_nub.1 hb) ?_⟩
 rw [h6]
 exact List.mem_flatMap.2 ⟨e',he',hb'⟩
theorem St.of {w w':World} {rb:Nat} {f0:Addr} {sl:Sl} {fs:List FM} {f:FM} {ts ts':List Rt} {st wd:Int} {own:List Nat} {p:Addr} {D:List En} {A:List Rt→Prop} (H:LH (·∈own) w w' (SL rb sl st wd ((fs++[f]).flatMap FM.c) ((fs++[f]).flatMap FM.rows)) D) (i:Nat) (hD:D[i]? =some (.trees ts')) (ht:∀g∈fs++[f],∀t∈g.ts,t∈ts') (hp:sl.a=some p) (h0:f0=p.add (fs.length *10)) (hb:∀b∈Rt.fps ts',b∈Rt.fps ts∨b∈own∨w.heap.size≤b) (hts:∀t∈ts,t∈ts') (hA:A ts'):
  StAt w own ts rb f0 (fs.map FM.x) f.x st wd A w':=by
 refine ⟨_,ts',⟨sl,fs,f,p,rfl,rfl,ht,hp,h0,rfl,H.nd,H.own,H.getD i hD,fun b hb hm=>?_⟩,H.fr,fun x hx=>?_,hb,hts,hA⟩
 ·obtain ⟨e,he,hbe⟩:=List.mem_flatMap.1 hm
  exact H.dj _ (List.mem_of_getElem? hD) b (mem_nub.2 hb) e he hbe
 ·obtain ⟨e,he,hbe⟩:=List.mem_flatMap.1 hx
  exact (H.new e he x hbe).symm
section
variable {M:Nat→Prop} {w0 w:World} {L D:List En} {bs:List Nat}
theorem _root_.Go.W.LH.ldF (H:LH M w0 w L D) (i:Nat) {sl:Sl} {fs:List FM} {f:FM} {p:Addr} (hi:L[i]? =some (.row ty_regex_frame 10 sl ((fs++[f]).flatMap FM.c))) (hp:sl.a=some p) (j:Nat) {v:Value} (hj:f.c[j]? =some v:=by rfl):w.cell? ((p.add (fs.length *10)).add j)=some v:=by
 have ho:OwnRow w ty_regex_frame 10 sl ((fs++[f]).flatMap FM.c):=H.get i hi
 have hk:((fs++[f]).flatMap FM.c)[fs.length *10+j]? =some v:=by
  rw [List.flatMap_append,List.getElem?_append_right (by rw [fs_len];omega),fs_len]
  simpa using hj
 obtain ⟨q,hq,hc⟩:=ho.rdn.2.2.2 _ _ hk
 rw [hp] at hq
 cases hq
 rw [add_add]
 exact hc
theorem frame_set (fs:List FM) (f f':FM) (j:Nat) (v:Value) (hj:j<10) (h:f.c.set j v=f'.c):((fs++[f]).flatMap FM.c).set (fs.length *10+j) v=(fs++[f']).flatMap FM.c:=by
 rw [List.flatMap_append,List.flatMap_append,List.set_append,if_neg (by rw [fs_len];omega),fs_len]
 simp only [List.flatMap_cons,List.flatMap_nil,List.append_nil,Nat.add_sub_cancel_left]
 rw [h]
theorem _root_.Go.W.LH.stF (H:LH M w0 w L D) (i:Nat) {sl:Sl} {fs:List FM} {f:FM} {p:Addr} {K:World→Prop} {v:Value} (f':FM) (j:Nat) (hi:L[i]? =some (.row ty_regex_frame 10 sl ((fs++[f]).flatMap FM.c))) (hp:sl.a=some p) (hj:j<10) (hc:f.c.set j v=f'.c)
  (hK:∀w',LH M w0 w' (L.set i (.row ty_regex_frame 10 sl ((fs++[f']).flatMap FM.c))) D→K w') (hbs:∀b∈bs,En.g b∈L:=by simp):stV w ((p.add (fs.length *10)).add j) v fun w1=>kept bs w w1∧K w1:=
 H.strow i (fs.length *10) j hi hp (by rw [fs_len];simp;omega) (fun w' H'=>hK w' (by rw [frame_set fs f f' j v hj hc] at H';exact H')) hbs
theorem st_drop {w:World} {p:Addr} {v:Value} {K:World→Prop} (h:stV w p v fun w1=>kept [] w w1∧K w1):stV w p v K:=stV_imp h fun _ h=>h.2
end
theorem rows_len:∀fs:List FM,(fs.flatMap FM.rows).length=fs.length *4
 |[]=>rfl
 |f::fs=>by
  have:=rows_len fs
  simp only [List.flatMap_cons,List.length_append,List.length_cons]
  have:f.rows.length=4:=rfl
  omega
theorem rows_set (fs:List FM) (f:FM) (j:Nat) (x:RowV) (hj:j<4):((fs++[f]).flatMap FM.rows).set (fs.length *4+j) x=fs.flatMap FM.rows++f.rows.set j x:=by
 have hl:=rows_len fs
 rw [List.flatMap_append,List.set_append,if_neg (by omega),hl]
 simp
theorem rows_get (fs:List FM) (f:FM) (j:Nat) (x:RowV) (hx:f.rows[j]? =some x):((fs++[f]).flatMap FM.rows)[fs.length *4+j]? =some x:=by
 have hl:=rows_len fs
 rw [List.flatMap_append,List.getElem?_append_right (by omega),hl]
 simpa using hx
end Go.Proofs.YtcifihepfadgfaaGreatDoor
namespace Go.Proofs.YtcifihepfadgfaaGreatDoor
open Go Go.W
def oneT (k:Int) (s:Sl) (ts:List Rt):Rt:=match ts with |[x]=>x|l=>.mk k 0 0 s l
def oneX (k:Int) (l:List Rx):Rx:=match l with |[x]=>x|l=>.mk k 0 0 l
theorem oneT_rx (k:Int) (s:Sl) (ts:List Rt):(oneT k s ts).rx=oneX k (Rt.rxs ts):=by
 match ts with
 |[]=>rfl
 |[x]=>rfl
 |x::y::l=>rfl
theorem oneT_fp {k:Int} {s:Sl} {ts:List Rt} {b:Nat} (h:b∈(oneT k s ts).fp):b∈(Rt.row s ts).fp∨b∈Rt.fps ts:=by
 match ts,h with
 |[],h=>exact Rt.fp_parts.1 (show b∈(Rt.mk k 0 0 s []).fp from h)
 |[x],h=>exact .inr (Rt.fps_iff.2 ⟨x,by simp,h⟩)
 |x::y::l,h=>exact Rt.fp_parts.1 (show b∈(Rt.mk k 0 0 s (x::y::l)).fp from h)
theorem c_oneF (k:Int) (s:Sl) (ts:List Rt) (w:World) (h:RdN 4 w s (ts.flatMap Rt.c)):Calls Tryz.prog n_regex_one #[.int .i64 k,s.v] w fun r w'=>r=.returned (oneT k s ts).v∧Fr0 w w':=by
 have nr:=Rt.rows_n h
 refine regex_one.okT _ _ w _ ((lh0 [Rt.row s ts] (by
  intro e he
  simp only [List.mem_cons,List.not_mem_nil,or_false] at he
  subst he
  exact h)).newg fun b4 w1 H1=>sel_eq (fun h1=>⟨by omega,by omega,?_⟩) (fun h1=>H1.locg fun w2 H2=>⟨?_,H2.fr⟩))
 ·have hl:ts.length=1:=by omega
  obtain ⟨x,rfl⟩:=List.length_eq_one_iff.1 hl
  refine Rt.at' (H1.getD 0) (i:=0) (t:=x) rfl fun p hp c=>⟨_,_,_,_,c.c0,c.c1,c.c2,c.c3,H1.locg fun w2 H2=>⟨rfl,H2.fr⟩⟩
 ·match ts,nr with
  |[],_=>rfl
  |[x],nr=>simp at nr;omega
  |x::y::l,_=>rfl
section
variable {M:Nat→Prop} {w0 w:World} {L D:List En} {bs:List Nat}
theorem _root_.Go.W.LH.node (H:LH M w0 w L D) (i:Nat) {ts ks:List Rt} {s:Sl} (k:Int) (lo hi:UInt8) (hi':D[i]? =some (.trees ts)) (hr:Rt.row s ks∈D) (hk:∀t∈ks,t∈ts):LH M w0 w L [.trees (ts++[.mk k lo hi s ks])]:=by
 have pt:Rt.Ps w ts:=H.getD i hi'
 have H1:=H.addD (.trees (ts++[.mk k lo hi s ks])) (Fr.refl _ _) (Rt.ps_of fun t ht=>?_) fun b hb=>.inr (.inr ?_)
 ·exact H1.forget _ (by simp)
 ·rcases List.mem_append.1 ht with ht|ht
  ·exact pt.mem ht
  ·simp at ht;subst ht
   unfold Rt.P
   exact ⟨H.rd _ hr,Rt.ps_of fun t ht=>pt.mem (hk t ht)⟩
 ·obtain ⟨t,ht,hb'⟩:=Rt.fps_iff.1 (mem_nub.1 hb)
  rcases List.mem_append.1 ht with ht|ht
  ·exact ⟨_,List.mem_of_getElem? hi',mem_nub.2 (Rt.fps_iff.2 ⟨t,ht,hb'⟩)⟩
  ·simp at ht
   rw [ht] at hb'
   rcases Rt.fp_parts.1 hb' with h|h
   ·exact ⟨_,hr,h⟩
   ·obtain ⟨t',ht',hb''⟩:=Rt.fps_iff.1 h
    exact ⟨_,List.mem_of_getElem? hi',mem_nub.2 (Rt.fps_iff.2 ⟨t',hk t' ht',hb''⟩)⟩
theorem _root_.Go.W.LH.nodeOne (H:LH M w0 w L D) (i:Nat) {ts ks:List Rt} {s:Sl} (k:Int) (hi':D[i]? =some (.trees ts)) (hr:Rt.row s ks∈D) (hk:∀t∈ks,t∈ts):LH M w0 w L [.trees (ts++[oneT k s ks])]:=by
 match ks,hr,hk with
 |[],hr,hk=>exact H.node i k 0 0 hi' hr hk
 |x::y::l,hr,hk=>exact H.node i k 0 0 hi' hr hk
 |[x],hr,hk=>
  have pt:Rt.Ps w ts:=H.getD i hi'
  have hx:=hk x (by simp)
  have H1:=H.addD (.trees (ts++[x])) (Fr.refl _ _) (Rt.ps_of fun t ht=>?_) fun b hb=>.inr (.inr ?_)
  ·exact H1.forget _ (by simp [oneT])
  ·rcases List.mem_append.1 ht with ht|ht
   ·exact pt.mem ht
   ·simp at ht;subst ht
    exact pt.mem hx
  ·obtain ⟨t,ht,hb'⟩:=Rt.fps_iff.1 (mem_nub.1 hb)
   rcases List.mem_append.1 ht with ht|ht
   ·exact ⟨_,List.mem_of_getElem? hi',mem_nub.2 (Rt.fps_iff.2 ⟨t,ht,hb'⟩)⟩
   ·simp at ht
    rw [ht] at hb'
    exact ⟨_,List.mem_of_getElem? hi',mem_nub.2 (Rt.fps_iff.2 ⟨x,hx,hb'⟩)⟩
abbrev z4:List Value:=[.int .i64 0,.int .u8 0,.int .u8 0,.slice none 0 0]
theorem app_set (vs u:List Value) (n j:Nat) (v:Value) (hn:vs.length=n):(vs++u).set (n+j) v=vs++u.set j v:=by
 rw [List.set_append,if_neg (by omega)]
 congr 2
 omega
theorem _root_.Go.W.LH.put4 (H:LH M w0 w L D) (i j n:Nat) {rs:List RowV} {s:Sl} {vs:List Value} {p:Addr} {K:World→Prop} (t:Rt) (hi:L[i]? =some (.rows rs)) (hj:rs[j]? =some (s,vs++z4)) (hp:s.a=some p) (hn:vs.length=n *4)
  (hK:∀w',LH M w0 w' (L.set i (.rows (rs.set j (s,vs++t.c)))) D→K w') (hbs:∀b∈bs,En.g b∈L):
  stV w (p.add (Int.toNat (n:Int) *4)) (.int .i64 t.k) fun w1=>kept bs w w1∧stV w1 ((p.add (Int.toNat (n:Int) *4)).add 1) (.int .u8 (t.lo.toNat:Int)) fun w2=>kept bs w1 w2∧stV w2 ((p.add (Int.toNat (n:Int) *4)).add 2) (.int .u8 (t.hi.toNat:Int)) fun w3=>kept bs w2 w3∧stV w3 ((p.add (Int.toNat (n:Int) *4)).add 3) t.s.v fun w4=>kept bs w3 w4∧K w4:=by
 rw [Int.toNat_natCast]
 have hil:i<L.length:=(List.getElem?_eq_some_iff.1 hi).1
 have hjl:j<rs.length:=(List.getElem?_eq_some_iff.1 hj).1
 have gs:∀{L':List En} (e:En),L'.length=L.length→(L'.set i e)[i]? =some e:=fun {L'} e hl=>by rw [List.getElem?_set_self (by omega)]
 have gr:∀(rs':List RowV) (x:RowV),rs'.length=rs.length→(rs'.set j x)[j]? =some x:=fun rs' x hl=>by rw [List.getElem?_set_self (by omega)]
 have hg:∀{b:Nat},En.g b∈L→∀(rs':List RowV),En.g b∈L.set i (.rows rs'):=fun {b} hb rs'=>by
  obtain ⟨k,hk⟩:=List.mem_iff_getElem?.1 hb
  by_cases hki:i=k
  ·subst hki
   exfalso
   rw [hi] at hk
   have hP:(En.rows rs).P w:=H.get i hi
   have e1:En.rows rs=En.g b:=Option.some.inj hk
   have hfp:(En.rows rs).fp=[b]:=by rw [e1];rfl
   have hb':b∈(En.rows rs).fp:=by rw [hfp];simp
   have hne:rs≠[]:=by rintro rfl;simp at hjl
   refine rows_off rs hne w b hb' ?_
   rw [e1]
   show b<_
   simp
  ·exact List.mem_iff_getElem?.2 ⟨k,by rw [List.getElem?_set_ne hki];exact hk⟩
 have st1:=H.stRow (bs:=bs) i j (n *4) 0 (v:=.int .i64 t.k) (K:=fun w1=>stV w1 ((p.add (n *4)).add 1) (.int .u8 (t.lo.toNat:Int)) fun w2=>kept bs w1 w2∧stV w2 ((p.add (n *4)).add 2) (.int .u8 (t.hi.toNat:Int)) fun w3=>kept bs w2 w3∧stV w3 ((p.add (n *4)).add 3) t.s.v fun w4=>kept bs w3 w4∧K w4) hi hj hp (by simp [hn]) ?_ hbs
 ·rw [add0] at st1
  exact st1
 intro w1 H1
 rw [app_set vs z4 (n *4) 0 _ hn] at H1
 refine H1.stRow (bs:=bs) i j (n *4) 1 (gs _ rfl) (gr _ _ rfl) hp (by simp [hn]) ?_ (fun b hb=>hg (hbs b hb) _)
 intro w2 H2
 rw [app_set vs _ (n *4) 1 _ hn,List.set_set,List.set_set] at H2
 refine H2.stRow (bs:=bs) i j (n *4) 2 (gs _ rfl) (gr _ _ rfl) hp (by simp [hn]) ?_ (fun b hb=>hg (hbs b hb) _)
 intro w3 H3
 rw [app_set vs _ (n *4) 2 _ hn,List.set_set,List.set_set] at H3
 refine H3.stRow (bs:=bs) i j (n *4) 3 (gs _ rfl) (gr _ _ rfl) hp (by simp [hn]) ?_ (fun b hb=>hg (hbs b hb) _)
 intro w4 H4
 rw [app_set vs _ (n *4) 3 _ hn,List.set_set,List.set_set] at H4
 exact hK w4 H4
theorem _root_.Go.W.LH.ldLast (H:LH M w0 w L D) (i:Nat) {sl:Sl} {fs:List FM} {f:FM} {p:Addr} (hi:L[i]? =some (.row ty_regex_frame 10 sl ((fs++[f]).flatMap FM.c))) (hp:sl.a=some p):
  w.cell? (((p.add (fs.length *10)).add 6).add 0)=some (.int .i64 f.la.k)∧w.cell? (((p.add (fs.length *10)).add 6).add 1)=some (.int .u8 (f.la.lo.toNat:Int))∧w.cell? (((p.add (fs.length *10)).add 6).add 2)=some (.int .u8 (f.la.hi.toNat:Int))∧w.cell? (((p.add (fs.length *10)).add 6).add 3)=some f.la.s.v:=by
 refine ⟨?_,?_,?_,?_⟩
 ·rw [add0];exact H.ldF i hi hp 6
 ·rw [add_add];exact H.ldF i hi hp 7
 ·rw [add_add];exact H.ldF i hi hp 8
 ·rw [add_add];exact H.ldF i hi hp 9
end
def notN:Nat→Rx→Rx
 |0,r=>r
 |n+1,r=>notN n (.mk 6 0 0 [r])
def endItemX (f:FX):FX:=⟨f.k,f.ar,f.al,f.an,f.ca++[notN f.n f.la],0,f.la⟩
theorem c_endItem {w:World} {rb:Nat} {f0:Addr} {lo:List FX} {tp:FX} {st wd:Int} {own:List Nat} {ts:List Rt} (h:St w rb f0 lo tp st wd own ts) (hn:tp.n≤1000000) (hc:tp.ca.length≤1000000):
  Calls Tryz.prog n_regex_frame_endItem #[.pointer (some f0)] w fun r w'=>r=.returned (.tuple #[])∧StAt w own ts rb f0 lo (endItemX tp) st wd (fun _=>True) w':=by
 obtain ⟨sl,fs,f,p,rfl,rfl,h3,h4,rfl,h6,h7,h8,h9,h10⟩:=h
 have H:=St.at_start h6 h7 h8 h9 h10
 have hla:f.la∈ts:=h3 f (by simp) _ (by simp [FM.ts])
 have hca:f.ca.2.length≤1000000:=by
  have:f.x.ca.length=f.ca.2.length:=by show (Rt.rxs f.ca.2).length=_;rw [Rt.rxs_map];simp
  omega
 have loop:∀(m:Nat) (r:Rt) (ts':List Rt) (b2:Nat) (w1:World),m≤1000000→(∀t∈ts,t∈ts')→(∀b∈Rt.fps ts',b∈Rt.fps ts∨b∈own∨w.heap.size≤b)→r∈ts'→notN m r.rx=notN f.n f.la.rx→
   LH (·∈own) w w1 (SL rb sl st wd ((fs++[(⟨f.k,f.ar,f.al,f.an,f.ca,m,f.la⟩:FM)]).flatMap FM.c) ((fs++[f]).flatMap FM.rows)++[.g b2]) [.trees ts']→
   regex_frame_endItem.L0T (p.add (fs.length *10)) b2 r.k r.lo.toNat r.hi.toNat r.s w1 fun r w'=>r=.returned (.tuple #[])∧StAt w own ts rb (p.add (fs.length *10)) (fs.map FM.x) (endItemX f.x) st wd (fun _=>True) w':=by
  intro m
  induction m with
  |zero=>
   intro r ts' b2 w1 _ hts hbl hr he H1
   refine regex_frame_endItem.L0T_step _ _ _ _ _ _ _ _ ⟨0,H1.ldF 1 rfl h4 5,sel_false rfl (H1.locg fun w2 H2=>⟨_,H2.ldF 1 rfl h4 4,?_⟩)⟩
   have hrow:((fs++[f]).flatMap FM.rows)[fs.length *4+3]? =some (f.ca.1,f.ca.2.flatMap Rt.c):=rows_get fs f 3 _ rfl
   have nr:f.ca.1.n=f.ca.2.length:=by
    have hp:(En.rows ((fs++[f]).flatMap FM.rows)).P w2:=H2.get 2
    exact Rt.rows_n (hp.1 _ (List.mem_of_getElem? hrow)).rdn
   refine H2.nwrow (e:=ty_regex_Regex) (sz:=4) (n:=1) (cs:=z4) rfl (by decide) fun w3 H3=>⟨H3.ldF 1 rfl h4 4,?_⟩
   refine H3.apRow (bs:=[b2]) 2 (fs.length *4+3) (src:=⟨some (at0 w2.heap.size),1,1⟩) (news:=z4) rfl hrow (OwnRow.rdn (H3.get 4)) (by simp [Value.oneCell']) (by show (f.ca.1.n+1) *40≤_;omega) (fun s' w4 H4 hn' hnone=>⟨by omega,by rw [hn'];show ((f.ca.1.n:Nat):Int)<((f.ca.1.n+1:Nat):Int);omega,?_⟩)
   obtain ⟨q,hq⟩:∃q,s'.a=some q:=by
    cases hs:s'.a with
    |none=>have:=(hnone hs).2;simp at this
    |some q=>exact ⟨q,rfl⟩
   rw [hq]
   have hjl:fs.length *4+3<((fs++[f]).flatMap FM.rows).length:=by rw [rows_len];simp;omega
   have H5:LH (·∈own) w w4 (SL rb sl st wd ((fs++[(⟨f.k,f.ar,f.al,f.an,f.ca,0,f.la⟩:FM)]).flatMap FM.c) (((fs++[f]).flatMap FM.rows).set (fs.length *4+3) (s',f.ca.2.flatMap Rt.c++z4))++[.g b2]) [.trees ts']:=H4.take 4
   have fin:∀{w':World},LH (·∈own) w w' (SL rb sl st wd ((fs++[(⟨f.k,f.ar,f.al,f.an,(s',f.ca.2++[r]),0,f.la⟩:FM)]).flatMap FM.c) (((fs++[f]).flatMap FM.rows).set (fs.length *4+3) (s',f.ca.2.flatMap Rt.c++r.c))++[.g b2]) [.trees ts']→
     (Ending.returned (.tuple #[])=.returned (.tuple #[])∧StAt w own ts rb (p.add (fs.length *10)) (fs.map FM.x) (endItemX f.x) st wd (fun _=>True) w'):=fun {w'} H'=>by
    refine ⟨rfl,?_⟩
    have e1:((fs++[f]).flatMap FM.rows).set (fs.length *4+3) (s',f.ca.2.flatMap Rt.c++r.c)=(fs++[(⟨f.k,f.ar,f.al,f.an,(s',f.ca.2++[r]),0,f.la⟩:FM)]).flatMap FM.rows:=by
     rw [rows_set fs f 3 _ (by omega),List.flatMap_append]
     congr 1
     simp [FM.rows]
    rw [e1] at H'
    have:=St.of (ts:=ts) (A:=fun _=>True) (f0:=p.add (fs.length *10)) (H'.take 3) 0 rfl (fun g hg t ht=>?_) h4 rfl hbl hts trivial
    ·have e2:(FM.x ⟨f.k,f.ar,f.al,f.an,(s',f.ca.2++[r]),0,f.la⟩)=endItemX f.x:=by
      unfold FM.x endItemX
      simp only [rxs_app]
      have:Rt.rxs [r]=[notN f.n f.la.rx]:=by rw [←he];rfl
      rw [this]
     rw [e2] at this
     exact this
    ·rcases List.mem_append.1 hg with hg|hg
     ·exact hts t (h3 g (by simp [hg]) t ht)
     ·simp at hg;subst hg
      simp only [FM.ts,List.mem_append,List.mem_cons,List.not_mem_nil,or_false] at ht
      rcases ht with (((ht|ht)|ht)|(ht|rfl))|rfl
      ·exact hts t (h3 f (by simp) t (by simp [FM.ts,ht]))
      ·exact hts t (h3 f (by simp) t (by simp [FM.ts,ht]))
      ·exact hts t (h3 f (by simp) t (by simp [FM.ts,ht]))
      ·exact hts t (h3 f (by simp) t (by simp [FM.ts,ht]))
      ·exact hr
      ·exact hts _ hla
   refine ⟨?_,?_⟩
   ·rw [nr]
    refine H5.put4 (bs:=[b2]) 2 (fs.length *4+3) f.ca.2.length r rfl (List.getElem?_set_self hjl) hq (Rt.cs_len _) (fun w' H6=>?_) (by simp)
    rw [List.set_set] at H6
    exact H6.stF (bs:=[b2]) (f:=⟨f.k,f.ar,f.al,f.an,f.ca,0,f.la⟩) 1 ⟨f.k,f.ar,f.al,f.an,(s',f.ca.2++[r]),0,f.la⟩ 4 rfl h4 (by omega) rfl (fun w'' H7=>fin H7) (by simp)
   ·refine H5.stF (bs:=[b2]) (f:=⟨f.k,f.ar,f.al,f.an,f.ca,0,f.la⟩) 1 ⟨f.k,f.ar,f.al,f.an,(s',f.ca.2++[r]),0,f.la⟩ 4 rfl h4 (by omega) rfl (fun w' H6=>?_) (by simp)
    rw [nr]
    refine LH.put4 (bs:=[b2]) (L:=SL rb sl st wd ((fs++[(⟨f.k,f.ar,f.al,f.an,(s',f.ca.2++[r]),0,f.la⟩:FM)]).flatMap FM.c) (((fs++[f]).flatMap FM.rows).set (fs.length *4+3) (s',f.ca.2.flatMap Rt.c++z4))++[.g b2]) H6 2 (fs.length *4+3) f.ca.2.length r rfl (List.getElem?_set_self hjl) hq (Rt.cs_len _) (fun w'' H7=>?_) (by simp)
    rw [List.set_set] at H7
    exact fin H7
  |succ m ih=>
   intro r ts' b2 w1 hm hts hbl hr he H1
   refine regex_frame_endItem.L0T_step _ _ _ _ _ _ _ _ ⟨((m+1:Nat):Int),H1.ldF 1 rfl h4 5,sel_true (decide_eq_true (by omega)) ?_⟩
   refine H1.nwrow (e:=ty_regex_Regex) (sz:=4) (n:=1) (cs:=r.c) rfl (by decide) fun w2 H2=>H2.locg (bs:=[b2]) (fun w3 H3=>⟨_,H3.ldF 1 rfl h4 5,?_⟩) (by simp)
   have e:IntKind.wrap .i64 (((m+1:Nat):Int) - 1)=(m:Int):=by rw [IntWalk.i64_in _ (by omega)];omega
   show stV w3 _ (.int .i64 (IntKind.wrap .i64 (((m+1:Nat):Int) - 1))) _
   rw [e]
   refine H3.stF (bs:=[b2]) (f:=⟨f.k,f.ar,f.al,f.an,f.ca,m+1,f.la⟩) 1 ⟨f.k,f.ar,f.al,f.an,f.ca,m,f.la⟩ 5 rfl h4 (by omega) rfl (fun w4 H4=>?_) (by simp)
   have H5:=H4.freeze 4 (Rt.row ⟨some (at0 w1.heap.size),1,1⟩ [r]) rfl (by show RdN 4 w4 _ ([r].flatMap Rt.c);rw [show [r].flatMap Rt.c=r.c by simp];exact OwnRow.rdn (H4.get 4)) (fun b hb=>rdn_own (e:=ty_regex_Regex) (vs:=[r].flatMap Rt.c) hb)
   have H6:=H5.node 0 6 0 0 (s:=⟨some (at0 w1.heap.size),1,1⟩) (ks:=[r]) rfl (by simp) (fun t ht=>by simp at ht;subst ht;exact hr)
   refine ih (.mk 6 0 0 ⟨some (at0 w1.heap.size),1,1⟩ [r]) _ b2 w4 (by omega) (fun t ht=>by simp [hts t ht]) (fun b hb=>?_) (by simp) he H6
   obtain ⟨t,ht,hbt⟩:=Rt.fps_iff.1 hb
   rcases List.mem_append.1 ht with ht|ht
   ·exact hbl b (Rt.fps_iff.2 ⟨t,ht,hbt⟩)
   ·simp at ht
    rw [ht] at hbt
    rcases Rt.fp_parts.1 hbt with h|h
    ·have:=rdn_own (e:=ty_regex_Regex) h
     simp [En.row,blkL,Rt.s] at this
     subst this
     exact .inr (.inr H1.fr.size)
    ·obtain ⟨t',ht',hb'⟩:=Rt.fps_iff.1 h
     simp [Rt.l] at ht'
     rw [ht'] at hb'
     exact hbl b (Rt.fps_iff.2 ⟨r,hr,hb'⟩)
 obtain ⟨c0,c1,c2,c3⟩:=H.ldLast 1 rfl h4
 have hn':f.n≤1000000:=hn
 refine regex_frame_endItem.okT _ w _ ⟨_,_,_,_,c0,c1,c2,c3,H.newg (fun b2 w1 H1=>H1.locg (fun w2 H2=>?_) (by simp)) (by simp)⟩
 exact loop f.n f.la ts b2 w2 hn' (fun _ h=>h) (fun b hb=>.inl hb) hla rfl H2
end Go.Proofs.YtcifihepfadgfaaGreatDoor
namespace Go.Proofs.YtcifihepfadgfaaGreatDoor
open Go Go.W
def FM.col (f:FM) (j:Nat):Sl×List Rt:=if j=1 then f.ar else if j=2 then f.al else if j=3 then f.an else f.ca
def FM.put (f:FM) (j:Nat) (x:Sl×List Rt):FM:=⟨f.k,if j=1 then x else f.ar,if j=2 then x else f.al,if j=3 then x else f.an,if j=4 then x else f.ca,f.n,f.la⟩
theorem col_cases {j:Nat} (h1:1≤j) (h4:j≤4) {p:Nat→Prop} (a1:p 1) (a2:p 2) (a3:p 3) (a4:p 4):p j:=by
 have:j=1∨j=2∨j=3∨j=4:=by omega
 rcases this with rfl|rfl|rfl|rfl<;>assumption
theorem col_c (f:FM) {j:Nat} (h1:1≤j) (h4:j≤4):f.c[j]? =some (f.col j).1.v:=col_cases (p:=fun j=>f.c[j]? =some (f.col j).1.v) h1 h4 rfl rfl rfl rfl
theorem col_r (f:FM) {j:Nat} (h1:1≤j) (h4:j≤4):f.rows[j - 1]? =some ((f.col j).1,(f.col j).2.flatMap Rt.c):=col_cases (p:=fun j=>f.rows[j - 1]? =some ((f.col j).1,(f.col j).2.flatMap Rt.c)) h1 h4 rfl rfl rfl rfl
theorem put_c (f:FM) (x:Sl×List Rt) {j:Nat} (h1:1≤j) (h4:j≤4):f.c.set j x.1.v=(f.put j x).c:=col_cases (p:=fun j=>f.c.set j x.1.v=(f.put j x).c) h1 h4 rfl rfl rfl rfl
theorem put_r (f:FM) (x:Sl×List Rt) {j:Nat} (h1:1≤j) (h4:j≤4):f.rows.set (j - 1) (x.1,x.2.flatMap Rt.c)=(f.put j x).rows:=col_cases (p:=fun j=>f.rows.set (j - 1) (x.1,x.2.flatMap Rt.c)=(f.put j x).rows) h1 h4 rfl rfl rfl rfl
theorem put_ts (f:FM) (x:Sl×List Rt) {j:Nat} (h1:1≤j) (h4:j≤4) {t:Rt} (ht:t∈(f.put j x).ts):t∈f.ts∨t∈x.2:=by
 refine col_cases (p:=fun j=>t∈(f.put j x).ts→t∈f.ts∨t∈x.2) h1 h4 ?_ ?_ ?_ ?_ ht<;>
 ·intro ht
  simp [FM.put,FM.ts] at ht ⊢
  rcases ht with h|h|h|h|h<;>simp [h]
theorem col_ts (f:FM) (j:Nat) {t:Rt} (ht:t∈(f.col j).2):t∈f.ts:=by
 unfold FM.col at ht
 unfold FM.ts
 split at ht
 ·simp [ht]
 ·split at ht
  ·simp [ht]
  ·split at ht
   ·simp [ht]
   ·simp [ht]
theorem put_col (f:FM) (x:Sl×List Rt) {j i:Nat} (hij:i≠j) (hi:1≤i) (hi4:i≤4):(f.put j x).col i=f.col i:=by
 have:i=1∨i=2∨i=3∨i=4:=by omega
 unfold FM.put FM.col
 rcases this with rfl|rfl|rfl|rfl
 ·simp;intro h;omega
 ·simp;intro h;omega
 ·simp;intro h;omega
 ·simp;intro h;omega
section
variable {w0 w:World} {own:List Nat} {rb:Nat} {sl:Sl} {st wd:Int} {fs:List FM} {f:FM} {ts:List Rt} {p:Addr}
abbrev FS (own:List Nat) (w0 w:World) (rb:Nat) (sl:Sl) (st wd:Int) (fs:List FM) (f:FM) (rs:List RowV) (ts:List Rt):Prop:=LH (·∈own) w0 w (SL rb sl st wd ((fs++[f]).flatMap FM.c) rs) [.trees ts]
theorem fr_rows (fs:List FM) (f:FM) (x:Sl×List Rt) {j:Nat} (h1:1≤j) (h4:j≤4):((fs++[f]).flatMap FM.rows).set (fs.length *4+(j - 1)) (x.1,x.2.flatMap Rt.c)=(fs++[f.put j x]).flatMap FM.rows:=by
 rw [rows_set fs f (j - 1) _ (by omega),put_r f x h1 h4,List.flatMap_append]
 simp
theorem push_row (H:FS own w0 w rb sl st wd fs f ((fs++[f]).flatMap FM.rows) ts) (hp:sl.a=some p) (d:Nat) (hd1:1≤d) (hd4:d≤4) (t:Rt) (hb:(f.col d).2.length≤1000000) {w1:World} {src:Sl} (H1:LH (·∈own) w0 w1 (SL rb sl st wd ((fs++[f]).flatMap FM.c) ((fs++[f]).flatMap FM.rows)++[.row ty_regex_Regex 4 src z4]) [.trees ts]) (hsn:src.n=1) {K:World→Prop}
  (hK:∀s' w',FS own w0 w' rb sl st wd fs (f.put d (s',(f.col d).2++[t])) ((fs++[f.put d (s',(f.col d).2++[t])]).flatMap FM.rows) ts→K w'):
  ∃(t15:Sl) (w5:World),(Builtin.append_ #[ty_sl_regex_Regex,ty_sl_regex_Regex] ty_sl_regex_Regex #[(f.col d).1.v,src.v]).run Tryz.prog w1=.ok (t15.v) w5∧(0:Int)≤(((f.col d).1.n:Nat):Int)∧(((f.col d).1.n:Nat):Int)<((t15.n:Nat):Int)∧optP t15.a fun q=>((stV w5 (q.add (Int.toNat (((f.col d).1.n:Nat):Int) *4)) (.int .i64 t.k) fun w6=>stV w6 ((q.add (Int.toNat (((f.col d).1.n:Nat):Int) *4)).add 1) (.int .u8 (t.lo.toNat:Int)) fun w7=>stV w7 ((q.add (Int.toNat (((f.col d).1.n:Nat):Int) *4)).add 2) (.int .u8 (t.hi.toNat:Int)) fun w8=>stV w8 ((q.add (Int.toNat (((f.col d).1.n:Nat):Int) *4)).add 3) t.s.v fun w9=>stV w9 ((p.add (fs.length *10)).add d) t15.v K)∧
   (stV w5 ((p.add (fs.length *10)).add d) t15.v fun w11=>stV w11 (q.add (Int.toNat (((f.col d).1.n:Nat):Int) *4)) (.int .i64 t.k) fun w6=>stV w6 ((q.add (Int.toNat (((f.col d).1.n:Nat):Int) *4)).add 1) (.int .u8 (t.lo.toNat:Int)) fun w7=>stV w7 ((q.add (Int.toNat (((f.col d).1.n:Nat):Int) *4)).add 2) (.int .u8 (t.hi.toNat:Int)) fun w8=>stV w8 ((q.add (Int.toNat (((f.col d).1.n:Nat):Int) *4)).add 3) t.s.v K)):=by
 have hrow:((fs++[f]).flatMap FM.rows)[fs.length *4+(d - 1)]? =some ((f.col d).1,(f.col d).2.flatMap Rt.c):=rows_get fs f (d - 1) _ (col_r f hd1 hd4)
 have nr:(f.col d).1.n=(f.col d).2.length:=by
  have hp:(En.rows ((fs++[f]).flatMap FM.rows)).P w1:=H1.get 2
  exact Rt.rows_n (hp.1 _ (List.mem_of_getElem? hrow)).rdn
 obtain ⟨s',w5,h1,_,h3⟩:=H1.apRow (bs:=[]) (ty:=ty_sl_regex_Regex) 2 (fs.length *4+(d - 1)) (src:=src) (news:=z4) (K:=fun s' w'=>FS own w0 w' rb sl st wd fs f (((fs++[f]).flatMap FM.rows).set (fs.length *4+(d - 1)) (s',(f.col d).2.flatMap Rt.c++z4)) ts∧s'.n=(f.col d).1.n+1∧∃q,s'.a=some q) rfl hrow (OwnRow.rdn (H1.get 3)) (by simp [Value.oneCell']) (by omega) (fun s' w4 H4 hn' hnone=>⟨H4.take 3,by omega,by
  cases hs:s'.a with
  |none=>have:=(hnone hs).2;omega
  |some q=>exact ⟨q,rfl⟩⟩) (by simp)
 obtain ⟨H5,hn5,q,hq⟩:=h3
 refine ⟨s',w5,h1,by omega,by omega,?_⟩
 rw [hq]
 have hjl:fs.length *4+(d - 1)<((fs++[f]).flatMap FM.rows).length:=by rw [rows_len];simp;omega
 have ec:∀(f:FM) (t:Rt) (d:Nat),(f.col d).2.flatMap Rt.c++t.c=((f.col d).2++[t]).flatMap Rt.c:=fun f t d=>by simp
 rw [nr]
 refine ⟨?_,?_⟩
 ·have st:=LH.put4 (bs:=[]) (K:=fun w9=>stV w9 ((p.add (fs.length *10)).add d) s'.v K) H5 2 (fs.length *4+(d - 1)) (f.col d).2.length t rfl (List.getElem?_set_self hjl) hq (Rt.cs_len _) (fun w' H6=>?_) (by simp)
  ·exact stV_imp st fun _ h=>stV_imp h.2 fun _ h=>stV_imp h.2 fun _ h=>stV_imp h.2 fun _ h=>h.2
  ·rw [List.set_set,ec,fr_rows fs f (s',(f.col d).2++[t]) hd1 hd4] at H6
   exact st_drop (H6.stF (bs:=[]) (f:=f) 1 (f.put d (s',(f.col d).2++[t])) d rfl hp (by omega) (put_c f (s',(f.col d).2++[t]) hd1 hd4) (fun w'' H7=>hK s' w'' H7) (by simp))
 ·refine st_drop (H5.stF (bs:=[]) (f:=f) 1 (f.put d (s',(f.col d).2++[t])) d rfl hp (by omega) (put_c f (s',(f.col d).2++[t]) hd1 hd4) (fun w' H6=>?_) (by simp))
  have st:=LH.put4 (bs:=[]) (K:=K) (L:=SL rb sl st wd ((fs++[f.put d (s',(f.col d).2++[t])]).flatMap FM.c) (((fs++[f]).flatMap FM.rows).set (fs.length *4+(d - 1)) (s',(f.col d).2.flatMap Rt.c++z4))) H6 2 (fs.length *4+(d - 1)) (f.col d).2.length t rfl (List.getElem?_set_self hjl) hq (Rt.cs_len _) (fun w'' H7=>?_) (by simp)
  ·exact stV_imp st fun _ h=>stV_imp h.2 fun _ h=>stV_imp h.2 fun _ h=>stV_imp h.2 fun _ h=>h.2
  ·rw [List.set_set,ec,fr_rows fs f (s',(f.col d).2++[t]) hd1 hd4] at H7
   exact hK s' w'' H7
theorem shift (H:FS own w0 w rb sl st wd fs f ((fs++[f]).flatMap FM.rows) ts) (hp:sl.a=some p) (k:Int) (d s:Nat) (hd1:1≤d) (hs:s=d+1) (hs4:s≤4) (hb:(f.col d).2.length≤1000000) (hts:∀t∈f.ts,t∈ts) {R:Post}
  (hK:∀s' w',FS own w0 w' rb sl st wd fs ((f.put d (s',(f.col d).2++[oneT k (f.col s).1 (f.col s).2])).put s (⟨none,0,0⟩,[])) ((fs++[(f.put d (s',(f.col d).2++[oneT k (f.col s).1 (f.col s).2])).put s (⟨none,0,0⟩,[])]).flatMap FM.rows) (ts++[oneT k (f.col s).1 (f.col s).2])→R (.returned (.tuple #[])) w'):
  drV w fun w2=>∃t7:Sl,w2.cell? ((p.add (fs.length *10)).add d)=some (t7.v)∧∃t11:Sl,w2.cell? ((p.add (fs.length *10)).add s)=some (t11.v)∧
   ((Calls Tryz.prog n_regex_one #[.i k,t11.v] w2 fun r_ w3=>∃t12_0:Int,∃t12_1:Int,∃t12_2:Int,∃t12_3:Sl,r_=.returned (.agg #[.i t12_0,.int .u8 t12_1,.int .u8 t12_2,t12_3.v])∧
    w3.cell? ((p.add (fs.length *10)).add d)=some (t7.v)∧nwV w3 (.cells #[.i 0,.int .u8 0,.int .u8 0,.slice none 0 0] ty_regex_Regex) fun w4=>
    w4.cell? ((p.add (fs.length *10)).add d)=some (t7.v)∧∃(t15:Sl) (w5:World),Sem.run Tryz.prog (Builtin.append_ #[ty_sl_regex_Regex,ty_sl_regex_Regex] ty_sl_regex_Regex #[t7.v,.slice (some (nb w3)) 1 1]) w4=.ok (t15.v) w5∧(0:Int)≤((t7.n:Nat):Int)∧((t7.n:Nat):Int)<((t15.n:Nat):Int)∧optP t15.a fun q=>((stV w5 (q.add (Int.toNat ((t7.n:Nat):Int) *4)) (.i t12_0) fun w6=>
    stV w6 ((q.add (Int.toNat ((t7.n:Nat):Int) *4)).add 1) (.int .u8 t12_1) fun w7=>stV w7 ((q.add (Int.toNat ((t7.n:Nat):Int) *4)).add 2) (.int .u8 t12_2) fun w8=>stV w8 ((q.add (Int.toNat ((t7.n:Nat):Int) *4)).add 3) (t12_3.v) fun w9=>
    stV w9 ((p.add (fs.length *10)).add d) (t15.v) fun w10=>stV w10 ((p.add (fs.length *10)).add s) (.slice none 0 0) fun w1=>R (.returned (.tuple #[])) w1)∧
    (stV w5 ((p.add (fs.length *10)).add d) (t15.v) fun w11=>stV w11 (q.add (Int.toNat ((t7.n:Nat):Int) *4)) (.i t12_0) fun w12=>stV w12 ((q.add (Int.toNat ((t7.n:Nat):Int) *4)).add 1) (.int .u8 t12_1) fun w13=>
    stV w13 ((q.add (Int.toNat ((t7.n:Nat):Int) *4)).add 2) (.int .u8 t12_2) fun w14=>stV w14 ((q.add (Int.toNat ((t7.n:Nat):Int) *4)).add 3) (t12_3.v) fun w15=>stV w15 ((p.add (fs.length *10)).add s) (.slice none 0 0) fun w1=>R (.returned (.tuple #[])) w1)))∧
   (nwV w2 (.cells #[.i 0,.int .u8 0,.int .u8 0,.slice none 0 0] ty_regex_Regex) fun w16=>w16.cell? ((p.add (fs.length *10)).add s)=some (t11.v)∧w16.cell? ((p.add (fs.length *10)).add d)=some (t7.v)∧
    Calls Tryz.prog n_regex_one #[.i k,t11.v] w16 fun r_ w17=>∃t12_0:Int,∃t12_1:Int,∃t12_2:Int,∃t12_3:Sl,r_=.returned (.agg #[.i t12_0,.int .u8 t12_1,.int .u8 t12_2,t12_3.v])∧
    w17.cell? ((p.add (fs.length *10)).add d)=some (t7.v)∧∃(t15:Sl) (w5:World),Sem.run Tryz.prog (Builtin.append_ #[ty_sl_regex_Regex,ty_sl_regex_Regex] ty_sl_regex_Regex #[t7.v,.slice (some (nb w2)) 1 1]) w17=.ok (t15.v) w5∧(0:Int)≤((t7.n:Nat):Int)∧((t7.n:Nat):Int)<((t15.n:Nat):Int)∧optP t15.a fun q=>((stV w5 (q.add (Int.toNat ((t7.n:Nat):Int) *4)) (.i t12_0) fun w6=>
    stV w6 ((q.add (Int.toNat ((t7.n:Nat):Int) *4)).add 1) (.int .u8 t12_1) fun w7=>stV w7 ((q.add (Int.toNat ((t7.n:Nat):Int) *4)).add 2) (.int .u8 t12_2) fun w8=>stV w8 ((q.add (Int.toNat ((t7.n:Nat):Int) *4)).add 3) (t12_3.v) fun w9=>
    stV w9 ((p.add (fs.length *10)).add d) (t15.v) fun w10=>stV w10 ((p.add (fs.length *10)).add s) (.slice none 0 0) fun w1=>R (.returned (.tuple #[])) w1)∧
    (stV w5 ((p.add (fs.length *10)).add d) (t15.v) fun w11=>stV w11 (q.add (Int.toNat ((t7.n:Nat):Int) *4)) (.i t12_0) fun w12=>stV w12 ((q.add (Int.toNat ((t7.n:Nat):Int) *4)).add 1) (.int .u8 t12_1) fun w13=>
    stV w13 ((q.add (Int.toNat ((t7.n:Nat):Int) *4)).add 2) (.int .u8 t12_2) fun w14=>stV w14 ((q.add (Int.toNat ((t7.n:Nat):Int) *4)).add 3) (t12_3.v) fun w15=>stV w15 ((p.add (fs.length *10)).add s) (.slice none 0 0) fun w1=>R (.returned (.tuple #[])) w1)))):=by
 subst hs
 have hs1:1≤d+1:=by omega
 have hd4:d≤4:=by omega
 have hrow:((fs++[f]).flatMap FM.rows)[fs.length *4+(d+1 - 1)]? =some ((f.col (d+1)).1,(f.col (d+1)).2.flatMap Rt.c):=rows_get fs f (d+1 - 1) _ (col_r f hs1 hs4)
 have rd:∀{w':World} {G:List En},LH (·∈own) w0 w' (SL rb sl st wd ((fs++[f]).flatMap FM.c) ((fs++[f]).flatMap FM.rows)++G) [.trees ts]→RdN 4 w' (f.col (d+1)).1 ((f.col (d+1)).2.flatMap Rt.c):=fun H'=>by
  have hP:(En.rows ((fs++[f]).flatMap FM.rows)).P _:=H'.get 2
  exact (hP.1 _ (List.mem_of_getElem? hrow)).rdn
 have fin:∀s' w',FS own w0 w' rb sl st wd fs (f.put d (s',(f.col d).2++[oneT k (f.col (d+1)).1 (f.col (d+1)).2])) ((fs++[f.put d (s',(f.col d).2++[oneT k (f.col (d+1)).1 (f.col (d+1)).2])]).flatMap FM.rows) ts→
   stV w' ((p.add (fs.length *10)).add (d+1)) (.slice none 0 0) fun w1=>R (.returned (.tuple #[])) w1:=fun s' w' H'=>by
  have hc:(f.put d (s',(f.col d).2++[oneT k (f.col (d+1)).1 (f.col (d+1)).2])).col (d+1)=f.col (d+1):=put_col f _ (by omega) hs1 hs4
  refine st_drop (H'.stF (bs:=[]) 1 ((f.put d (s',(f.col d).2++[oneT k (f.col (d+1)).1 (f.col (d+1)).2])).put (d+1) (⟨none,0,0⟩,[])) (d+1) rfl hp (by omega) (put_c _ (⟨none,0,0⟩,[]) hs1 hs4) (fun w1 H1=>hK s' w1 ?_) (by simp))
  have hrow':=rows_get fs (f.put d (s',(f.col d).2++[oneT k (f.col (d+1)).1 (f.col (d+1)).2])) (d+1 - 1) _ (col_r _ hs1 hs4)
  rw [hc] at hrow'
  have H2:=H1.giveRow 2 (fs.length *4+(d+1 - 1)) rfl hrow'
  have H3:=H2.nodeOne 0 k (s:=(f.col (d+1)).1) (ks:=(f.col (d+1)).2) rfl (by simp) fun t ht=>hts t (col_ts f _ ht)
  have e:=fr_rows fs (f.put d (s',(f.col d).2++[oneT k (f.col (d+1)).1 (f.col (d+1)).2])) (⟨none,0,0⟩,[]) hs1 hs4
  have e':(([]:List Rt).flatMap Rt.c)=[]:=rfl
  rw [e'] at e
  simp only at e
  rw [←e]
  exact H3
 have c7:∀{w':World} {G:List En},LH (·∈own) w0 w' (SL rb sl st wd ((fs++[f]).flatMap FM.c) ((fs++[f]).flatMap FM.rows)++G) [.trees ts]→w'.cell? ((p.add (fs.length *10)).add d)=some ((f.col d).1.v):=fun H'=>H'.ldF 1 rfl hp d (col_c f hd1 hd4)
 have c11:∀{w':World} {G:List En},LH (·∈own) w0 w' (SL rb sl st wd ((fs++[f]).flatMap FM.c) ((fs++[f]).flatMap FM.rows)++G) [.trees ts]→w'.cell? ((p.add (fs.length *10)).add (d+1))=some ((f.col (d+1)).1.v):=fun H'=>H'.ldF 1 rfl hp (d+1) (col_c f hs1 hs4)
 refine H.dr fun w2 H2=>⟨_,c7 (G:=[]) H2,_,c11 (G:=[]) H2,?_,H2.nwrow (e:=ty_regex_Regex) (sz:=4) (n:=1) (cs:=z4) rfl (by decide) fun w3 H3=>⟨c11 H3,c7 H3,?_⟩⟩
 ·refine H2.call (c_oneF k _ _ w2 (rd (G:=[]) H2)) ?_
  rintro _ w3 rfl H3
  refine ⟨_,_,_,_,rfl,c7 (G:=[]) H3,H3.nwrow (e:=ty_regex_Regex) (sz:=4) (n:=1) (cs:=z4) rfl (by decide) fun w4 H4=>⟨c7 H4,?_⟩⟩
  exact push_row H hp d hd1 hd4 (oneT k (f.col (d+1)).1 (f.col (d+1)).2) hb (src:=⟨some (at0 w3.heap.size),1,1⟩) H4 rfl fin
 ·refine H3.call (c_oneF k _ _ w3 (rd H3)) ?_
  rintro _ w4 rfl H4
  refine ⟨_,_,_,_,rfl,c7 H4,?_⟩
  exact push_row H hp d hd1 hd4 (oneT k (f.col (d+1)).1 (f.col (d+1)).2) hb (src:=⟨some (at0 w2.heap.size),1,1⟩) H4 rfl fin
end
end Go.Proofs.YtcifihepfadgfaaGreatDoor
namespace Go.Proofs.YtcifihepfadgfaaGreatDoor
open Go Go.W
def StP (w:World) (own:List Nat) (ts:List Rt) (rb:Nat) (Q:Ending→Addr→List FX→FX→Int→Int→List Rt→Prop):Post:=fun r w'=>∃f0' lo' tp' st' wd',StAt w own ts rb f0' lo' tp' st' wd' (Q r f0' lo' tp' st' wd') w'
section
variable {M:Nat→Prop} {w0 w:World} {L D:List En} {bs:List Nat}
theorem _root_.Go.W.LH.cs (H:LH M w0 w L D) (i:Nat) {rb:Nat} {f0:Addr} {lo:List FX} {tp:FX} {st wd:Int} {own:List Nat} {ts:List Rt} {g:FuncId} {args:Array Value} {K:Post} {Q:Ending→Addr→List FX→FX→Int→Int→List Rt→Prop} (hi:L[i]? =some (.stt rb f0 lo tp st wd own ts))
  (hc:St w rb f0 lo tp st wd own ts→Calls Tryz.prog g args w (StP w own ts rb Q))
  (hk:∀r w' f0' lo' tp' st' wd' own' ts',(∀t∈ts,t∈ts')→Q r f0' lo' tp' st' wd' ts'→LH M w0 w' (L.set i (.stt rb f0' lo' tp' st' wd' own' ts')) D→K r w') (hbs:∀b∈bs,En.g b∈L:=by simp):callF bs Tryz.prog g args w K:=by
 refine ⟨(·∈own),fun b hb hm=>?_,(hc (H.get i hi)).mono ?_⟩
 ·exact ghost_off H hi (stt_off _ _ _ _ _ _ _ _ w) (hbs b hb) (mem_nub.2 (List.mem_append_left _ hm))
 ·rintro r w' ⟨f0',lo',tp',st',wd',own',ts',s',f,o,b,t,q⟩
  refine ⟨f,hk r w' f0' lo' tp' st' wd' own' ts' t q (H.upd i _ hi (f.mono fun x _ hx=>mem_nub.2 (List.mem_append_left _ hx)) s' fun x hx=>?_)⟩
  rcases List.mem_append.1 (mem_nub.1 hx) with hx|hx
  ·exact (o x hx).imp (fun h=>mem_nub.2 (List.mem_append_left _ h)) id
  ·rcases b x hx with h|h|h
   ·exact .inl (mem_nub.2 (List.mem_append_right _ h))
   ·exact .inl (mem_nub.2 (List.mem_append_left _ h))
   ·exact .inr h
end
def endSeqX (f:FX):FX:=⟨f.k,f.ar,f.al,f.an++[oneX 3 (endItemX f).ca],[],0,f.la⟩
def endConjX (f:FX):FX:=⟨f.k,f.ar,f.al++[oneX 5 (endSeqX f).an],[],[],0,f.la⟩
def endExprX (f:FX):FX:=⟨f.k,f.ar,[],[],[],0,f.la⟩
def exprX (f:FX):Rx:=oneX 4 (endConjX f).al
theorem snoc_blocks {w0:World} {M:Nat→Prop} {w:World} {own:List Nat} {ts ts0:List Rt} {k:Int} {s:Sl} {ks:List Rt} (hb:∀b∈Rt.fps ts,b∈Rt.fps ts0∨b∈own∨w.heap.size≤b) (hs:∀b∈blkL s,b∈own∨w.heap.size≤b) (hk:∀t∈ks,t∈ts):∀b∈Rt.fps (ts++[oneT k s ks]),b∈Rt.fps ts0∨b∈own∨w.heap.size≤b:=fun b hb'=>by
 obtain ⟨t,ht,hbt⟩:=Rt.fps_iff.1 hb'
 rcases List.mem_append.1 ht with ht|ht
 ·exact hb b (Rt.fps_iff.2 ⟨t,ht,hbt⟩)
 ·simp at ht
  rw [ht] at hbt
  rcases oneT_fp hbt with h|h
  ·exact .inr (hs b (rdn_own (e:=ty_regex_Regex) h))
  ·obtain ⟨t',ht',hb''⟩:=Rt.fps_iff.1 h
   exact hb b (Rt.fps_iff.2 ⟨t',hk t' ht',hb''⟩)
theorem row_new {own:List Nat} {w0 w:World} {rb:Nat} {sl:Sl} {st wd:Int} {fs:List FM} {f:FM} {ts:List Rt} (H:FS own w0 w rb sl st wd fs f ((fs++[f]).flatMap FM.rows) ts) {j:Nat} (h1:1≤j) (h4:j≤4):∀b∈blkL (f.col j).1,b∈own∨w0.heap.size≤b:=fun b hb=>by
 have hrow:=rows_get fs f (j - 1) _ (col_r f h1 h4)
 exact (H.new (.rows ((fs++[f]).flatMap FM.rows)) (by simp) b (mem_nub.2 (List.mem_flatMap.2 ⟨_,List.mem_of_getElem? hrow,hb⟩))).symm
theorem shift_ts {fs:List FM} {f:FM} {ts:List Rt} {k:Int} {d s:Nat} {s':Sl} (h3:∀g∈fs++[f],∀t∈g.ts,t∈ts) (hd1:1≤d) (hd4:d≤4) (hs1:1≤s) (hs4:s≤4):∀g∈fs++[(f.put d (s',(f.col d).2++[oneT k (f.col s).1 (f.col s).2])).put s (⟨none,0,0⟩,[])],∀t∈g.ts,t∈ts++[oneT k (f.col s).1 (f.col s).2]:=by
 intro g hg t ht
 rcases List.mem_append.1 hg with hg|hg
 ·exact List.mem_append_left _ (h3 g (by simp [hg]) t ht)
 ·simp at hg;subst hg
  rcases put_ts _ _ hs1 hs4 ht with h|h
  ·rcases put_ts _ _ hd1 hd4 h with h|h
   ·exact List.mem_append_left _ (h3 f (by simp) t h)
   ·rcases List.mem_append.1 h with h|h
    ·exact List.mem_append_left _ (h3 f (by simp) t (col_ts f d h))
    ·exact List.mem_append_right _ h
  ·cases h
theorem c_endSeq {w:World} {rb:Nat} {f0:Addr} {lo:List FX} {tp:FX} {st wd:Int} {own:List Nat} {ts:List Rt} (h:St w rb f0 lo tp st wd own ts) (hn:tp.n≤1000000) (hc:tp.ca.length≤1000000) (ha:tp.an.length≤1000000):
  Calls Tryz.prog n_regex_frame_endSeq #[.pointer (some f0)] w fun r w'=>r=.returned (.tuple #[])∧StAt w own ts rb f0 lo (endSeqX tp) st wd (fun _=>True) w':=by
 refine regex_frame_endSeq.ok _ w _ ((c_endItem h hn hc).mono ?_)
 rintro _ w1 ⟨rfl,own1,ts1,⟨sl,fs,f,p,rfl,hx,h3,h4,rfl,h6,h7,h8,h9,h10⟩,f1,o1,b1,t1,_⟩
 refine ⟨rfl,?_⟩
 have H:=St.at_start h6 h7 h8 h9 h10
 have hal:(f.col 3).2.length≤1000000:=by
  have e:f.x.an.length=f.an.2.length:=by show (Rt.rxs f.an.2).length=_;rw [Rt.rxs_map];simp
  have e2:f.x.an=tp.an:=by rw [hx];rfl
  show f.an.2.length≤_
  rw [←e,e2];exact ha
 refine shift (R:=fun r w'=>r=.returned (.tuple #[])∧StAt w own ts rb (p.add (fs.length *10)) (fs.map FM.x) (endSeqX tp) st wd (fun _=>True) w') H h4 3 3 4 (by omega) rfl (by omega) hal (fun t ht=>h3 f (by simp) t ht) fun s' w' H'=>⟨rfl,StAt.then f1 o1 b1 t1 ?_⟩
 have:=St.of (ts:=ts1) (A:=fun _=>True) (f0:=p.add (fs.length *10)) H' 0 rfl (shift_ts h3 (by omega) (by omega) (by omega) (by omega)) h4 rfl (snoc_blocks (w0:=w) (M:=F0) (fun b hb=>.inl hb) (row_new H (by omega) (by omega)) fun t ht=>h3 f (by simp) t (col_ts f 4 ht)) (fun t ht=>List.mem_append_left _ ht) trivial
 have e:((f.put 3 (s',(f.col 3).2++[oneT 3 (f.col 4).1 (f.col 4).2])).put 4 (⟨none,0,0⟩,[])).x=endSeqX tp:=by
  have hk:f.x.k=tp.k:=by rw [hx];rfl
  have har:f.x.ar=tp.ar:=by rw [hx];rfl
  have hall:f.x.al=tp.al:=by rw [hx];rfl
  have han:f.x.an=tp.an:=by rw [hx];rfl
  have hca:f.x.ca=(endItemX tp).ca:=by rw [hx]
  have hnn:f.x.n=0:=by rw [hx];rfl
  have hla:f.x.la=tp.la:=by rw [hx];rfl
  unfold endSeqX
  rw [←hk,←har,←hall,←han,←hca,←hla]
  show FX.mk f.k (f.ar.1,Rt.rxs f.ar.2) (Rt.rxs f.al.2) (Rt.rxs (f.an.2++[oneT 3 f.ca.1 f.ca.2])) (Rt.rxs []) f.n f.la.rx=_
  have hn0:f.n=0:=hnn
  rw [hn0,rxs_app]
  simp [Rt.rxs,oneT_rx,FM.x]
 rw [e] at this
 exact this
theorem c_endConj {w:World} {rb:Nat} {f0:Addr} {lo:List FX} {tp:FX} {st wd:Int} {own:List Nat} {ts:List Rt} (h:St w rb f0 lo tp st wd own ts) (hn:tp.n≤1000000) (hc:tp.ca.length≤1000000) (ha:tp.an.length≤1000000) (hl:tp.al.length≤1000000):
  Calls Tryz.prog n_regex_frame_endConj #[.pointer (some f0)] w fun r w'=>r=.returned (.tuple #[])∧StAt w own ts rb f0 lo (endConjX tp) st wd (fun _=>True) w':=by
 refine regex_frame_endConj.ok _ w _ ((c_endSeq h hn hc ha).mono ?_)
 rintro _ w1 ⟨rfl,own1,ts1,⟨sl,fs,f,p,rfl,hx,h3,h4,rfl,h6,h7,h8,h9,h10⟩,f1,o1,b1,t1,_⟩
 refine ⟨rfl,?_⟩
 have H:=St.at_start h6 h7 h8 h9 h10
 have hal:(f.col 2).2.length≤1000000:=by
  have e:f.x.al.length=f.al.2.length:=by show (Rt.rxs f.al.2).length=_;rw [Rt.rxs_map];simp
  have e2:f.x.al=tp.al:=by rw [hx];rfl
  show f.al.2.length≤_
  rw [←e,e2];exact hl
 refine shift (R:=fun r w'=>r=.returned (.tuple #[])∧StAt w own ts rb (p.add (fs.length *10)) (fs.map FM.x) (endConjX tp) st wd (fun _=>True) w') H h4 5 2 3 (by omega) rfl (by omega) hal (fun t ht=>h3 f (by simp) t ht) fun s' w' H'=>⟨rfl,StAt.then f1 o1 b1 t1 ?_⟩
 have:=St.of (ts:=ts1) (A:=fun _=>True) (f0:=p.add (fs.length *10)) H' 0 rfl (shift_ts h3 (by omega) (by omega) (by omega) (by omega)) h4 rfl (snoc_blocks (w0:=w) (M:=F0) (fun b hb=>.inl hb) (row_new H (by omega) (by omega)) fun t ht=>h3 f (by simp) t (col_ts f 3 ht)) (fun t ht=>List.mem_append_left _ ht) trivial
 have e:((f.put 2 (s',(f.col 2).2++[oneT 5 (f.col 3).1 (f.col 3).2])).put 3 (⟨none,0,0⟩,[])).x=endConjX tp:=by
  have hk:f.x.k=tp.k:=by rw [hx];rfl
  have har:f.x.ar=tp.ar:=by rw [hx];rfl
  have hall:f.x.al=tp.al:=by rw [hx];rfl
  have han:f.x.an=(endSeqX tp).an:=by rw [hx]
  have hca:f.x.ca=[]:=by rw [hx];rfl
  have hnn:f.x.n=0:=by rw [hx];rfl
  have hla:f.x.la=tp.la:=by rw [hx];rfl
  unfold endConjX
  rw [←hk,←har,←hall,←han,←hla]
  show FX.mk f.k (f.ar.1,Rt.rxs f.ar.2) (Rt.rxs (f.al.2++[oneT 5 f.an.1 f.an.2])) (Rt.rxs []) (Rt.rxs f.ca.2) f.n f.la.rx=_
  have hn0:f.n=0:=hnn
  have hc0:Rt.rxs f.ca.2=[]:=hca
  rw [hn0,hc0,rxs_app]
  simp [Rt.rxs,oneT_rx,FM.x]
 rw [e] at this
 exact this
end Go.Proofs.YtcifihepfadgfaaGreatDoor
namespace Go.Proofs.YtcifihepfadgfaaGreatDoor
open Go Go.W
abbrev SF (M:Nat→Prop) (w0 w:World) (rb:Nat) (sl:Sl) (st wd:Int) (fs:List FM) (f:FM) (G:List En) (ts:List Rt):Prop:=LH M w0 w (SL rb sl st wd ((fs++[f]).flatMap FM.c) ((fs++[f]).flatMap FM.rows)++G) [.trees ts]
section
variable {M:Nat→Prop} {w0 w:World} {bs:List Nat} {G:List En} {rb:Nat} {sl:Sl} {st wd:Int} {fs:List FM} {f:FM} {ts:List Rt} {p:Addr}
theorem sf_st (H:SF M w0 w rb sl st wd fs f G ts) (h3:∀g∈fs++[f],∀t∈g.ts,t∈ts) (hp:sl.a=some p):
  St w rb (p.add (fs.length *10)) (fs.map FM.x) f.x st wd ((SL rb sl st wd ((fs++[f]).flatMap FM.c) ((fs++[f]).flatMap FM.rows)).flatMap (·.fp)) ts:=by
 have nd:=H.nd
 rw [List.flatMap_append,List.nodup_append] at nd
 refine ⟨sl,fs,f,p,rfl,rfl,h3,hp,rfl,rfl,nd.1,fun e he=>H.own e (List.mem_append_left _ he),H.getD 0,fun b hb hm=>?_⟩
 obtain ⟨e,he,hbe⟩:=List.mem_flatMap.1 hm
 exact H.dj (.trees ts) (by simp) b (mem_nub.2 hb) e (List.mem_append_left _ he) hbe
theorem sf_after (H:SF M w0 w rb sl st wd fs f G ts) {w':World} {f0':Addr} {lo':List FX} {tp':FX} {st' wd':Int} {own':List Nat} {ts':List Rt} (s:St w' rb f0' lo' tp' st' wd' own' ts') (fr:Fr (·∈(SL rb sl st wd ((fs++[f]).flatMap FM.c) ((fs++[f]).flatMap FM.rows)).flatMap (·.fp)) w w') (o:∀x∈own',x∈(SL rb sl st wd ((fs++[f]).flatMap FM.c) ((fs++[f]).flatMap FM.rows)).flatMap (·.fp)∨w.heap.size≤x)
  (hb:∀b∈Rt.fps ts',b∈Rt.fps ts∨b∈(SL rb sl st wd ((fs++[f]).flatMap FM.c) ((fs++[f]).flatMap FM.rows)).flatMap (·.fp)∨w.heap.size≤b):
  ∃(sl':Sl) (fs':List FM) (f':FM) (p':Addr),fs'.map FM.x=lo'∧f'.x=tp'∧(∀g∈fs'++[f'],∀t∈g.ts,t∈ts')∧sl'.a=some p'∧f0'=p'.add (fs'.length *10)∧(∀b∈Rt.fps ts',b∈Rt.fps ts∨w0.heap.size≤b∨M b)∧SF M w0 w' rb sl' st' wd' fs' f' G ts':=by
 obtain ⟨sl',fs',f',p',h1,h2,h3,h4,h5,h6,h7,h8,h9,h10⟩:=s
 have nd:=H.nd
 rw [List.flatMap_append,List.nodup_append] at nd
 have ownM:∀b∈(SL rb sl st wd ((fs++[f]).flatMap FM.c) ((fs++[f]).flatMap FM.rows)).flatMap (·.fp),w0.heap.size≤b∨M b:=fun b hb=>by
  obtain ⟨e,he,hbe⟩:=List.mem_flatMap.1 hb
  exact H.new e (List.mem_append_left _ he) b hbe
 have glt:∀e∈G,∀b∈e.fp,b<w.heap.size:=fun e he b hb=>e.lt w (H.own e (List.mem_append_right _ he)) b hb
 have gown:∀e∈G,∀b∈e.fp,b∉(SL rb sl st wd ((fs++[f]).flatMap FM.c) ((fs++[f]).flatMap FM.rows)).flatMap (·.fp):=fun e he b hb hm=>nd.2.2 b hm b (List.mem_flatMap.2 ⟨e,he,hb⟩) rfl
 have hsz:=H.fr.size
 have own'M:∀b∈own',w0.heap.size≤b∨M b:=fun b hb=>(o b hb).elim (ownM b) fun h=>.inl (Nat.le_trans hsz h)
 refine ⟨sl',fs',f',p',h1,h2,h3,h4,h5,fun b hb'=>?_,H.fr.trans fr fun x hx hm=>(ownM x hm).resolve_left (by omega),fun e he=>?_,fun e he=>?_,fun e he b hb'=>?_,?_,fun e he b hb' e' he' hbe=>?_⟩
 ·rcases hb b hb' with h|h|h
  ·exact .inl h
  ·exact .inr (ownM b h)
  ·exact .inr (.inl (Nat.le_trans hsz h))
 ·rcases List.mem_append.1 he with he|he
  ·exact h8 e he
  ·exact e.st w w' (fun b hb hl=>fr.keep b hl (gown e he b hb)) (H.own e (List.mem_append_right _ he))
 ·simp at he;subst he;exact h9
 ·rcases List.mem_append.1 he with he|he
  ·exact own'M b (by rw [h6];exact List.mem_flatMap.2 ⟨e,he,hb'⟩)
  ·exact H.new e (List.mem_append_right _ he) b hb'
 ·rw [List.flatMap_append,List.nodup_append]
  refine ⟨h6▸h7,nd.2.1,fun x hx y hy hxy=>?_⟩
  subst hxy
  obtain ⟨e,he,hbe⟩:=List.mem_flatMap.1 hy
  rcases o x (by rw [h6];exact hx) with h|h
  ·exact gown e he x hbe h
  ·have:=glt e he x hbe;omega
 ·simp at he;subst he
  have hb'':b∈Rt.fps ts':=mem_nub.1 hb'
  rcases List.mem_append.1 he' with he'|he'
  ·exact h10 b hb'' (by rw [h6];exact List.mem_flatMap.2 ⟨e',he',hbe⟩)
  ·rcases hb b hb'' with h|h|h
   ·exact H.dj (.trees ts) (by simp) b (mem_nub.2 h) e' (List.mem_append_right _ he') hbe
   ·exact gown e' he' b hbe h
   ·have:=glt e' he' b hbe;omega
theorem _root_.Go.W.LH.csS (H:SF M w0 w rb sl st wd fs f G ts) (h3:∀g∈fs++[f],∀t∈g.ts,t∈ts) (hp:sl.a=some p) {g:FuncId} {args:Array Value} {K:Post} {Q:Ending→Addr→List FX→FX→Int→Int→List Rt→Prop}
  (hc:∀own,St w rb (p.add (fs.length *10)) (fs.map FM.x) f.x st wd own ts→Calls Tryz.prog g args w (StP w own ts rb Q))
  (hk:∀r w' (sl':Sl) (fs':List FM) (f':FM) (p':Addr) (st' wd':Int) (ts':List Rt),(∀t∈ts,t∈ts')→(∀g∈fs'++[f'],∀t∈g.ts,t∈ts')→sl'.a=some p'→(∀b∈Rt.fps ts',b∈Rt.fps ts∨w0.heap.size≤b∨M b)→Q r (p'.add (fs'.length *10)) (fs'.map FM.x) f'.x st' wd' ts'→SF M w0 w' rb sl' st' wd' fs' f' G ts'→K r w')
  (hbs:∀b∈bs,En.g b∈G:=by simp):callF bs Tryz.prog g args w K:=by
 have nd:=H.nd
 rw [List.flatMap_append,List.nodup_append] at nd
 refine ⟨(·∈(SL rb sl st wd ((fs++[f]).flatMap FM.c) ((fs++[f]).flatMap FM.rows)).flatMap (·.fp)),fun b hb hm=>?_,(hc _ (sf_st H h3 hp)).mono ?_⟩
 ·exact nd.2.2 b hm b (List.mem_flatMap.2 ⟨_,hbs b hb,by simp [En.g]⟩) rfl
 ·rintro r w' ⟨f0',lo',tp',st',wd',own',ts',s,fr,o,b,t,q⟩
  obtain ⟨sl',fs',f',p',rfl,rfl,h3',hp',rfl,hb',H'⟩:=sf_after H s fr o b
  exact ⟨fr,hk r w' sl' fs' f' p' st' wd' ts' t h3' hp' hb' q H'⟩
theorem _root_.Go.W.LH.csS0 (H:SF M w0 w rb sl st wd fs f G ts) (h3:∀g∈fs++[f],∀t∈g.ts,t∈ts) (hp:sl.a=some p) {g:FuncId} {args:Array Value} {K:Post} {Q:Ending→Addr→List FX→FX→Int→Int→List Rt→Prop}
  (hc:∀own,St w rb (p.add (fs.length *10)) (fs.map FM.x) f.x st wd own ts→Calls Tryz.prog g args w (StP w own ts rb Q))
  (hk:∀r w' (sl':Sl) (fs':List FM) (f':FM) (p':Addr) (st' wd':Int) (ts':List Rt),(∀t∈ts,t∈ts')→(∀g∈fs'++[f'],∀t∈g.ts,t∈ts')→sl'.a=some p'→(∀b∈Rt.fps ts',b∈Rt.fps ts∨w0.heap.size≤b∨M b)→Q r (p'.add (fs'.length *10)) (fs'.map FM.x) f'.x st' wd' ts'→SF M w0 w' rb sl' st' wd' fs' f' G ts'→K r w'):Calls Tryz.prog g args w K:=by
 obtain ⟨_,_,h⟩:=H.csS (bs:=[]) h3 hp hc hk (by simp)
 exact h.mono fun r w' h=>h.2
end
theorem fx_len (f:FM):f.x.ar.2.length=f.ar.2.length∧f.x.al.length=f.al.2.length∧f.x.an.length=f.an.2.length∧f.x.ca.length=f.ca.2.length:=by
 refine ⟨?_,?_,?_,?_⟩<;>(show (Rt.rxs _).length=_;rw [Rt.rxs_map];simp)
theorem as_stp {w:World} {own:List Nat} {ts:List Rt} {rb:Nat} {f0:Addr} {lo:List FX} {tp:FX} {st wd:Int} {g:FuncId} {args:Array Value} (h:Calls Tryz.prog g args w fun r w'=>r=.returned (.tuple #[])∧StAt w own ts rb f0 lo tp st wd (fun _=>True) w'):
  Calls Tryz.prog g args w (StP w own ts rb fun r f0' lo' tp' st' wd' _=>r=.returned (.tuple #[])∧f0'=f0∧lo'=lo∧tp'=tp∧st'=st∧wd'=wd):=
 h.mono fun r w' ⟨h1,h2⟩=>⟨f0,lo,tp,st,wd,h2.mono fun _ _=>⟨h1,rfl,rfl,rfl,rfl,rfl⟩⟩
structure Small (f:FX) (n:Nat):Prop where
 n':f.n≤n
 ar:f.ar.2.length≤n
 al:f.al.length≤n
 an:f.an.length≤n
 ca:f.ca.length≤n
theorem c_endExpr {w:World} {rb:Nat} {f0:Addr} {lo:List FX} {tp:FX} {st wd:Int} {own:List Nat} {ts:List Rt} (h:St w rb f0 lo tp st wd own ts) (hs:Small tp 1000000):
  Calls Tryz.prog n_regex_frame_endExpr #[.pointer (some f0)] w (StP w own ts rb fun r f0' lo' tp' st' wd' ts'=>f0'=f0∧lo'=lo∧tp'=endExprX tp∧st'=st∧wd'=wd∧∃t∈ts',r=.returned t.v∧t.rx=exprX tp):=by
 obtain ⟨sl,fs,f,p,rfl,rfl,h3,h4,rfl,h6,h7,h8,h9,h10⟩:=h
 have H:SF (·∈own) w w rb sl st wd fs f [] ts:=by
  have:=St.at_start h6 h7 h8 h9 h10
  show LH _ _ _ (_++[]) _
  rw [List.append_nil]
  exact this
 refine regex_frame_endExpr.okT _ w _ (H.newg (bs:=[]) (fun b2 w1 H1=>?_) (by simp))
 refine (show SF (·∈own) w w1 rb sl st wd fs f [.g b2] ts from H1).csS (bs:=[b2]) h3 h4 (fun own1 s1=>as_stp (c_endConj s1 hs.n' hs.ca hs.an hs.al)) ?_ (by simp)
 rintro _ w2 sl2 fs2 f2 p2 st2 wd2 ts2 t2 h32 h42 b2' ⟨rfl,he0,he1,he2,rfl,rfl⟩ H2
 rw [←he0,←he1]
 have hrow:((fs2++[f2]).flatMap FM.rows)[fs2.length *4+(2 - 1)]? =some ((f2.col 2).1,(f2.col 2).2.flatMap Rt.c):=rows_get fs2 f2 1 _ (col_r f2 (j:=2) (by omega) (by omega))
 have hrd:RdN 4 w2 f2.al.1 (f2.al.2.flatMap Rt.c):=by
  have hP:(En.rows ((fs2++[f2]).flatMap FM.rows)).P w2:=H2.get 2
  exact (hP.1 _ (List.mem_of_getElem? hrow)).rdn
 refine ⟨rfl,f2.al.1,H2.ldF 1 rfl h42 2,H2.callg (c_oneF 4 _ _ w2 hrd) ?_⟩
 rintro _ w3 rfl H3
 refine ⟨_,_,_,_,rfl,H3.newg (bs:=[b2]) (fun b3 w4 H4=>H4.locg (bs:=[b2,b3]) (fun w5 H5=>?_) (by simp)) (by simp)⟩
 refine H5.stF (bs:=[b2,b3]) (f:=f2) 1 (f2.put 2 (⟨none,0,0⟩,[])) 2 rfl h42 (by omega) rfl (fun w6 H6=>H6.locg (bs:=[b2,b3]) (fun w7 H7=>?_) (by simp)) (by simp)
 have H8:=H7.giveRow 2 (fs2.length *4+(2 - 1)) rfl hrow
 have H9:=H8.nodeOne 0 4 (s:=f2.al.1) (ks:=f2.al.2) rfl (by simp [FM.col]) fun t ht=>h32 f2 (by simp) t (col_ts f2 2 ht)
 have er:=fr_rows fs2 f2 (⟨none,0,0⟩,[]) (j:=2) (by omega) (by omega)
 have e':(([]:List Rt).flatMap Rt.c)=[]:=rfl
 rw [e'] at er
 simp only at er
 have H10:LH (·∈own) w w7 (SL rb sl2 st2 wd2 ((fs2++[f2.put 2 (⟨none,0,0⟩,[])]).flatMap FM.c) ((fs2++[f2.put 2 (⟨none,0,0⟩,[])]).flatMap FM.rows)) [.trees (ts2++[oneT 4 f2.al.1 f2.al.2])]:=by
  rw [←er]
  exact H9.take 3
 have hnew:∀b∈blkL f2.al.1,b∈own∨w.heap.size≤b:=fun b hb=>(H2.new (.rows ((fs2++[f2]).flatMap FM.rows)) (by simp) b (mem_nub.2 (List.mem_flatMap.2 ⟨_,List.mem_of_getElem? hrow,hb⟩))).symm
 have ex:(f2.put 2 (⟨none,0,0⟩,[])).x=endExprX f.x:=by
  have e1:f2.k=f.k:=by have:=congrArg FX.k he2;exact this
  have e2:(f2.ar.1,Rt.rxs f2.ar.2)=f.x.ar:=by have:=congrArg FX.ar he2;exact this
  have e3:Rt.rxs f2.an.2=[]:=by have:=congrArg FX.an he2;exact this
  have e4:Rt.rxs f2.ca.2=[]:=by have:=congrArg FX.ca he2;exact this
  have e5:f2.n=0:=by have:=congrArg FX.n he2;exact this
  have e6:f2.la.rx=f.x.la:=by have:=congrArg FX.la he2;exact this
  show FX.mk f2.k (f2.ar.1,Rt.rxs f2.ar.2) (Rt.rxs []) (Rt.rxs f2.an.2) (Rt.rxs f2.ca.2) f2.n f2.la.rx=_
  rw [e1,e2,e3,e4,e5,e6]
  rfl
 refine ⟨_,_,_,_,_,St.of (ts:=ts) (f0:=p2.add (fs2.length *10)) H10 0 rfl (fun g hg t ht=>?_) h42 rfl (snoc_blocks (w0:=w) (M:=F0) (fun b hb=>(b2' b hb).imp id Or.symm) hnew fun t ht=>h32 f2 (by simp) t (col_ts f2 2 ht)) (fun t ht=>List.mem_append_left _ (t2 t ht)) ⟨rfl,rfl,ex,rfl,rfl,oneT 4 f2.al.1 f2.al.2,by simp,rfl,?_⟩⟩
 ·rcases List.mem_append.1 hg with hg|hg
  ·exact List.mem_append_left _ (h32 g (by simp [hg]) t ht)
  ·simp at hg;subst hg
   rcases put_ts _ _ (by omega) (by omega) ht with h|h
   ·exact List.mem_append_left _ (h32 f2 (by simp) t h)
   ·cases h
 ·rw [oneT_rx]
  have:=congrArg FX.al he2
  have e:Rt.rxs f2.al.2=(endConjX f.x).al:=this
  rw [e];rfl
end Go.Proofs.YtcifihepfadgfaaGreatDoor
namespace Go.Proofs.YtcifihepfadgfaaGreatDoor
open Go Go.W
theorem optP_some {p:Addr} {K:Addr→Prop} (h:K p):optP (some p) K:=h
theorem el_fr:ElemOk Tryz.prog ty_sl_regex_frame ty_regex_frame (.agg #[.int .i64 0,.slice none 0 0,.slice none 0 0,.slice none 0 0,.slice none 0 0,.int .i64 0,.int .i64 0,.int .u8 0,.int .u8 0,.slice none 0 0]) 10 152:=⟨by kernel_rfl,by kernel_rfl,rfl,by decide,by decide⟩
section
variable {M:Nat→Prop} {w0 w:World} {L D:List En} {bs:List Nat} {G:List En} {rb:Nat} {sl:Sl} {st wd:Int} {fs:List FM} {f:FM} {ts:List Rt} {p:Addr}
theorem _root_.Go.W.LH.stk (H:LH M w0 w L D) (i j:Nat) {b:Nat} {vs:List Value} {T:TypeId} {v:Value} {K:World→Prop} (hi:L[i]? =some (.c b vs T)) (hK:∀w',LH M w0 w' (L.set i (.c b (vs.set j v) T)) D→K w') (hj:j<vs.length) (hbs:∀b∈bs,En.g b∈L:=by simp):stV w ((at0 b).add j) v fun w1=>kept bs w w1∧K w1:=by
 obtain ⟨x1,x2,x3⟩:=H.set (v:=v) i j hi hj
 refine ⟨x1,x2,fun b' hb'=>?_,hK _ x3⟩
 have hne:b'≠b:=by
  rintro rfl
  refine ghost_off H hi (fun n hP=>?_) (hbs _ hb') (by simp [En.ob])
  have h:({w with heap:=Array.replicate (n+1) (.map #[] 0)}:World).heap[b']? =some (.cells vs.toArray T (0,0)):=hP
  simp [Array.getElem?_replicate] at h
 have hf:Fr (·=b) w (w.setCell ((at0 b).add j) v):=Fr.set _ _ _ (by rw [add_block])
 exact hf.keep b' (H.own _ (hbs _ hb')) hne
theorem sf_n (H:SF M w0 w rb sl st wd fs f G ts):sl.n=fs.length+1:=by
 have ho:OwnRow w ty_regex_frame 10 sl ((fs++[f]).flatMap FM.c):=H.get 1
 have:=ho.len
 rw [fs_len] at this
 simp at this
 omega
theorem c_top (H:SF M w0 w rb sl st wd fs f G ts) (hp:sl.a=some p) (hn:fs.length≤1000000):Calls Tryz.prog n_regex_reader_top #[.pointer (some (at0 rb))] w fun r w'=>r=.returned (.pointer (some (p.add (fs.length *10))))∧Fr0 w w':=by
 have hl:=sf_n H
 have e:IntKind.wrap .i64 (((sl.n:Nat):Int) - 1)=(fs.length:Int):=by rw [IntWalk.i64_in _ (by omega)];omega
 have H1:SF M w0 w.drew rb sl st wd fs f G ts:=H.drew
 refine regex_reader_top.ok _ w _ (show _ from ⟨sl,H1.ld 0 0,sl,H1.ld 0 0,?_⟩)
 rw [e,hp]
 exact ⟨by omega,by omega,rfl,Fr.drew _ _⟩
theorem sf_leaf (H:SF M w0 w rb sl st wd fs f G ts) (k:Int) (lo hi:UInt8):SF M w0 w rb sl st wd fs f G (ts++[.mk k lo hi ⟨none,0,0⟩ []]):=by
 have H1:=H.addD (.trees (ts++[.mk k lo hi ⟨none,0,0⟩ []])) (Fr.refl _ _) (Rt.ps_of fun t ht=>?_) fun b hb=>.inr (.inr ⟨.trees ts,by simp,?_⟩)
 ·exact H1.forget _ (by simp)
 ·rcases List.mem_append.1 ht with ht|ht
  ·exact Rt.Ps.mem (H.getD 0) ht
  ·simp at ht;subst ht
   show Rt.P w _
   unfold Rt.P Rt.Ps
   exact ⟨RdN.nil 4 w,trivial⟩
 ·obtain ⟨t,ht,hb'⟩:=Rt.fps_iff.1 (mem_nub.1 hb)
  rcases List.mem_append.1 ht with ht|ht
  ·exact mem_nub.2 (Rt.fps_iff.2 ⟨t,ht,hb'⟩)
  ·simp at ht
   rw [ht] at hb'
   unfold Rt.fp Rt.fps at hb'
   simp [En.rdn] at hb'
theorem leaf_fps {k:Int} {lo hi:UInt8} {b:Nat} (h:b∈Rt.fps (ts++[.mk k lo hi ⟨none,0,0⟩ []])):b∈Rt.fps ts:=by
 obtain ⟨t,ht,hb'⟩:=Rt.fps_iff.1 h
 rcases List.mem_append.1 ht with ht|ht
 ·exact Rt.fps_iff.2 ⟨t,ht,hb'⟩
 ·simp at ht
  rw [ht] at hb'
  unfold Rt.fp Rt.fps at hb'
  simp [En.rdn] at hb'
theorem rows_ext (H:LH M w0 w L D) (i:Nat) {rs:List RowV} (hi:L[i]? =some (.rows rs)) (n:Nat):LH M w0 w (L.set i (.rows (rs++List.replicate n (⟨none,0,0⟩,[])))) D:=by
 have hp:(En.rows rs).P w:=H.get i hi
 have e:(rs++List.replicate n ((⟨none,0,0⟩,[]):RowV)).flatMap (fun q:RowV=>blkL q.1)=rs.flatMap fun q:RowV=>blkL q.1:=by
  rw [List.flatMap_append]
  have:(List.replicate n ((⟨none,0,0⟩,[]):RowV)).flatMap (fun q:RowV=>blkL q.1)=[]:=by
   induction n with
   |zero=>rfl
   |succ n ih=>rw [List.replicate_succ,List.flatMap_cons,ih];rfl
  rw [this,List.append_nil]
 refine H.upd i _ hi (Fr.refl _ _) ⟨fun q hq=>?_,by rw [e];exact hp.2⟩ fun b hb=>.inl (mem_nub.2 (by have:=mem_nub.1 hb;rw [e] at this;exact this))
 rcases List.mem_append.1 hq with hq|hq
 ·exact hp.1 q hq
 ·rw [List.eq_of_mem_replicate hq];exact OwnRow.nil _ _ _
end
def newFX (k:Int):FX:=⟨k,(⟨none,0,0⟩,[]),[],[],[],0,noR⟩
def newFM (k:Int):FM:=⟨k,(⟨none,0,0⟩,[]),(⟨none,0,0⟩,[]),(⟨none,0,0⟩,[]),(⟨none,0,0⟩,[]),0,.mk 0 0 0 ⟨none,0,0⟩ []⟩
theorem open_sf {w:World} {rb:Nat} {f0:Addr} {lo:List FX} {tp:FX} {st wd:Int} {own:List Nat} {ts:List Rt} (h:St w rb f0 lo tp st wd own ts):∃(sl:Sl) (fs:List FM) (f:FM) (p:Addr),fs.map FM.x=lo∧f.x=tp∧(∀g∈fs++[f],∀t∈g.ts,t∈ts)∧sl.a=some p∧f0=p.add (fs.length *10)∧SF (·∈own) w w rb sl st wd fs f [] ts:=by
 obtain ⟨sl,fs,f,p,h1,h2,h3,h4,h5,h6,h7,h8,h9,h10⟩:=h
 refine ⟨sl,fs,f,p,h1,h2,h3,h4,h5,?_⟩
 have:=St.at_start h6 h7 h8 h9 h10
 show LH _ _ _ (_++[]) _
 rw [List.append_nil]
 exact this
theorem c_push {w:World} {rb:Nat} {f0:Addr} {lo:List FX} {tp:FX} {st wd:Int} {own:List Nat} {ts:List Rt} (h:St w rb f0 lo tp st wd own ts) (hl:lo.length≤1000000) (kind state:Int):
  Calls Tryz.prog n_regex_reader_push #[.pointer (some (at0 rb)),.int .i64 kind,.int .i64 state] w (StP w own ts rb fun r _ lo' tp' st' wd' _=>r=.returned (.bool true)∧lo'=lo++[tp]∧tp'=newFX kind∧st'=state∧wd'=wd):=by
 obtain ⟨sl,fs,f,p,rfl,rfl,h3,h4,rfl,H⟩:=open_sf h
 have hn:=sf_n H
 have hl':fs.length≤1000000:=by simpa using hl
 refine regex_reader_push.ok _ _ _ w _ ⟨sl,H.ld 0 0,H.nwrow (e:=ty_regex_frame) (sz:=10) (n:=1) (cs:=(newFM kind).c) rfl (by decide) fun w1 H1=>?_⟩
 refine H1.apk 1 el_fr (src:=⟨some (at0 w.heap.size),1,1⟩) (news:=(newFM kind).c) rfl (OwnRow.rdn (H1.get 3)).2.2 rfl (by simp [FM.c,newFM,Value.oneCell']) (by show (sl.n+1) *152≤_;omega) fun s' w2 H2 hn' hnone _=>?_
 obtain ⟨q,hq⟩:∃q,s'.a=some q:=by
  cases hs:s'.a with
  |none=>have:=(hnone hs).2;simp at this
  |some q=>exact ⟨q,rfl⟩
 have H3:LH (·∈own) w w2 [.c rb [sl.v,.int .i64 st,.int .i64 wd] ty_regex_reader,.row ty_regex_frame 10 s' ((fs++[f]).flatMap FM.c++(newFM kind).c),.rows ((fs++[f]).flatMap FM.rows)] [.trees ts]:=H2.take 3
 refine H3.st 0 0 rfl (fun w3 H4=>H4.st 0 1 rfl (fun w4 H5=>?_))
 have H6:=rows_ext H5 2 rfl 4
 have H7:SF (·∈own) w w4 rb s' state wd (fs++[f]) (newFM kind) [] ts:=by
  show LH _ _ _ (SL rb s' state wd ((fs++[f]++[newFM kind]).flatMap FM.c) ((fs++[f]++[newFM kind]).flatMap FM.rows)++[]) _
  rw [List.append_nil,List.flatMap_append (xs:=fs++[f]),List.flatMap_append (xs:=fs++[f])]
  simpa [show (newFM kind).rows=[(⟨none,0,0⟩,[]),(⟨none,0,0⟩,[]),(⟨none,0,0⟩,[]),(⟨none,0,0⟩,[])] from rfl] using H6
 have H8:=sf_leaf H7 0 0 0
 have H9:LH (·∈own) w w4 (SL rb s' state wd ((fs++[f]++[newFM kind]).flatMap FM.c) ((fs++[f]++[newFM kind]).flatMap FM.rows)) [.trees (ts++[.mk 0 0 0 ⟨none,0,0⟩ []])]:=H8.take 3
 refine ⟨_,_,_,_,_,St.of (ts:=ts) (p:=q) (f0:=q.add ((fs++[f]).length *10)) H9 0 rfl (fun g hg t ht=>?_) hq rfl (fun b hb=>.inl (leaf_fps hb)) (fun t ht=>List.mem_append_left _ ht) ⟨rfl,?_,rfl,rfl,rfl⟩⟩
 ·rcases List.mem_append.1 hg with hg|hg
  ·exact List.mem_append_left _ (h3 g hg t ht)
  ·simp at hg;subst hg
   simp [FM.ts,newFM] at ht
   simp [ht]
 ·simp
def atomX (tp:FX) (x:Rx):FX:=⟨tp.k,tp.ar,tp.al,tp.an,tp.ca,tp.n,x⟩
theorem c_atom {w:World} {rb:Nat} {f0:Addr} {lo:List FX} {tp:FX} {st wd:Int} {own:List Nat} {ts:List Rt} (h:St w rb f0 lo tp st wd own ts) (hl:lo.length≤1000000) (t:Rt) (ht:t∈ts):
  Calls Tryz.prog n_regex_reader_atom #[.pointer (some (at0 rb)),t.v] w (StP w own ts rb fun r f0' lo' tp' st' wd' _=>r=.returned (.bool true)∧f0'=f0∧lo'=lo∧tp'=atomX tp t.rx∧st'=3∧wd'=wd):=by
 obtain ⟨sl,fs,f,p,rfl,rfl,h3,h4,rfl,H⟩:=open_sf h
 have hl':fs.length≤1000000:=by simpa using hl
 refine regex_reader_atom.okT _ _ _ _ _ w _ (H.newg (bs:=[]) (fun b3 w1 H1=>H1.locg (bs:=[b3]) (fun w2 H2=>?_) (by simp)) (by simp))
 have H2':SF (·∈own) w w2 rb sl st wd fs f [.g b3] ts:=H2
 refine H2'.callg (c_top H2' h4 hl') ?_
 rintro _ w3 rfl H3
 refine ⟨_,rfl,optP_some ?_⟩
 refine H3.stF (bs:=[b3]) (f:=f) 1 ⟨f.k,f.ar,f.al,f.an,f.ca,f.n,.mk t.k f.la.lo f.la.hi f.la.s f.la.l⟩ 6 rfl h4 (by omega) rfl (fun w4 H4=>?_) (by simp)
 have a1:((p.add (fs.length *10)).add 6).add 1=(p.add (fs.length *10)).add 7:=add_add _ 6 1
 have a2:((p.add (fs.length *10)).add 6).add 2=(p.add (fs.length *10)).add 8:=add_add _ 6 2
 have a3:((p.add (fs.length *10)).add 6).add 3=(p.add (fs.length *10)).add 9:=add_add _ 6 3
 rw [a1,a2,a3]
 refine H4.stF (bs:=[b3]) (f:=⟨f.k,f.ar,f.al,f.an,f.ca,f.n,.mk t.k f.la.lo f.la.hi f.la.s f.la.l⟩) 1 ⟨f.k,f.ar,f.al,f.an,f.ca,f.n,.mk t.k t.lo f.la.hi f.la.s f.la.l⟩ 7 rfl h4 (by omega) rfl (fun w5 H5=>?_) (by simp)
 refine H5.stF (bs:=[b3]) (f:=⟨f.k,f.ar,f.al,f.an,f.ca,f.n,.mk t.k t.lo f.la.hi f.la.s f.la.l⟩) 1 ⟨f.k,f.ar,f.al,f.an,f.ca,f.n,.mk t.k t.lo t.hi f.la.s f.la.l⟩ 8 rfl h4 (by omega) rfl (fun w6 H6=>?_) (by simp)
 refine H6.stF (bs:=[b3]) (f:=⟨f.k,f.ar,f.al,f.an,f.ca,f.n,.mk t.k t.lo t.hi f.la.s f.la.l⟩) 1 ⟨f.k,f.ar,f.al,f.an,f.ca,f.n,t⟩ 9 rfl h4 (by omega) rfl (fun w7 H7=>?_) (by simp)
 refine H7.stk (bs:=[b3]) 0 1 rfl (fun w8 H8=>?_) (by simp) (by simp)
 have er:(fs++[f]).flatMap FM.rows=(fs++[(⟨f.k,f.ar,f.al,f.an,f.ca,f.n,t⟩:FM)]).flatMap FM.rows:=by simp [FM.rows]
 have H9:LH (·∈own) w w8 (SL rb sl 3 wd ((fs++[(⟨f.k,f.ar,f.al,f.an,f.ca,f.n,t⟩:FM)]).flatMap FM.c) ((fs++[(⟨f.k,f.ar,f.al,f.an,f.ca,f.n,t⟩:FM)]).flatMap FM.rows)) [.trees ts]:=by
  rw [←er]
  exact H8.take 3
 refine ⟨_,_,_,_,_,St.of (ts:=ts) (f0:=p.add (fs.length *10)) H9 0 rfl (fun g hg u hu=>?_) h4 rfl (fun b hb=>.inl hb) (fun t ht=>ht) ⟨rfl,rfl,rfl,rfl,rfl,rfl⟩⟩
 rcases List.mem_append.1 hg with hg|hg
 ·exact h3 g (by simp [hg]) u hu
 ·simp at hg;subst hg
  simp only [FM.ts,List.mem_append,List.mem_cons,List.not_mem_nil,or_false] at hu
  rcases hu with (((hu|hu)|hu)|hu)|rfl
  ·exact h3 f (by simp) u (by simp [FM.ts,hu])
  ·exact h3 f (by simp) u (by simp [FM.ts,hu])
  ·exact h3 f (by simp) u (by simp [FM.ts,hu])
  ·exact h3 f (by simp) u (by simp [FM.ts,hu])
  ·exact ht
end Go.Proofs.YtcifihepfadgfaaGreatDoor
namespace Go.Proofs.YtcifihepfadgfaaGreatDoor
open Go Go.W
structure Tk where
 k:UInt8
 lo:UInt8
 hi:UInt8
 s:List UInt8
 a:Int
abbrev Tk.v (t:Tk):Value:=.agg #[.int .u8 (t.k.toNat:Int),.int .u8 (t.lo.toNat:Int),.int .u8 (t.hi.toNat:Int),.string (ba t.s),.int .i64 t.a]
structure SX where
 lo:List FX
 tp:FX
 st:Int
 wd:Int
def wNone:List UInt8:=[110,111,110,101]
def wEmpty:List UInt8:=[101,109,112,116,121]
def wAlt:List UInt8:=[97,108,116]
def wAll:List UInt8:=[97,108,108]
def wCat:List UInt8:=[99,97,116]
def itemX (t:Tk) (s:SX):Option SX:=
 if t.k=33 then some ⟨s.lo,⟨s.tp.k,s.tp.ar,s.tp.al,s.tp.an,s.tp.ca,s.tp.n+1,s.tp.la⟩,0,s.wd⟩
 else if t.k=40 then some ⟨s.lo++[s.tp],newFX (-1),0,s.wd⟩
 else if t.k=114 then some ⟨s.lo,atomX s.tp (.mk 2 t.lo t.hi []),3,s.wd⟩
 else if t.k=119 then
  if t.s=wNone then some ⟨s.lo,atomX s.tp (.mk 0 0 0 []),3,s.wd⟩
  else if t.s=wEmpty then some ⟨s.lo,atomX s.tp (.mk 1 0 0 []),3,s.wd⟩
  else if t.s=wAlt then some ⟨s.lo,s.tp,2,4⟩
  else if t.s=wAll then some ⟨s.lo,s.tp,2,5⟩
  else if t.s=wCat then some ⟨s.lo,s.tp,2,3⟩
  else none
 else none
def Says (o:Option SX):Ending→Addr→List FX→FX→Int→Int→List Rt→Prop:=fun r _ lo tp st wd _=>(o=none∧r=.returned (.bool false))∨(o=some ⟨lo,tp,st,wd⟩∧r=.returned (.bool true))
section
variable {w w':World} {own:List Nat} {G:List En} {rb:Nat} {sl:Sl} {st wd:Int} {fs:List FM} {f:FM} {ts ts':List Rt} {p:Addr}
theorem sf_stp {Q:Ending→Addr→List FX→FX→Int→Int→List Rt→Prop} {r:Ending} (H:SF (·∈own) w w' rb sl st wd fs f G ts') (h3:∀g∈fs++[f],∀t∈g.ts,t∈ts') (hp:sl.a=some p) (hb:∀b∈Rt.fps ts',b∈Rt.fps ts∨w.heap.size≤b∨b∈own) (ht:∀t∈ts,t∈ts') (q:Q r (p.add (fs.length *10)) (fs.map FM.x) f.x st wd ts'):StP w own ts rb Q r w':=
 ⟨_,_,_,_,_,St.of (ts:=ts) (f0:=p.add (fs.length *10)) (H.take 3) 0 rfl h3 hp rfl (fun b h=>(hb b h).imp id Or.symm) ht q⟩
end
theorem tl_ba (s:List UInt8):(ba s).toList=s:=by rw [ByteArray.toList_eq];rfl
theorem tl_mk (a:Array UInt8):(ByteArray.mk a).toList=a.toList:=by rw [ByteArray.toList_eq]
theorem str_sel {s:List UInt8} {a:Array UInt8} {A B:Prop} (h1:s=a.toList→A) (h2:s≠a.toList→B):sel ((ba s).toList==(ByteArray.mk a).toList) A B:=by
 rw [tl_ba,tl_mk]
 exact sel_intro (fun h=>h1 (by simpa using h)) (fun h=>h2 (by simpa using h))
theorem u8_sel {x:UInt8} {n:Nat} {A B:Prop} (hn:n<256) (h1:x=UInt8.ofNat n→A) (h2:x≠UInt8.ofNat n→B):sel (((x.toNat:Nat):Int)==(n:Int)) A B:=by
 have e:∀x:UInt8,x.toNat=n↔x=UInt8.ofNat n:=fun x=>by
  rw [←UInt8.toNat_inj,UInt8.toNat_ofNat']
  omega
 exact sel_intro (fun h=>h1 ((e x).1 (by have:=eq_of_beq h;omega))) (fun h=>h2 fun hx=>by
  have:x.toNat=n:=(e x).2 hx
  rw [this] at h
  simp at h)
theorem c_item {w:World} {rb:Nat} {f0:Addr} {lo:List FX} {tp:FX} {st wd:Int} {own:List Nat} {ts:List Rt} (h:St w rb f0 lo tp st wd own ts) (hl:lo.length≤1000000) (hn:tp.n≤1000000) (t:Tk):
  Calls Tryz.prog n_regex_reader_item #[.pointer (some (at0 rb)),t.v] w (StP w own ts rb (Says (itemX t ⟨lo,tp,st,wd⟩))):=by
 obtain ⟨sl,fs,f,p,rfl,rfl,h3,h4,rfl,H⟩:=open_sf h
 have hl':fs.length≤1000000:=by simpa using hl
 have hn':f.n≤1000000:=hn
 have base:∀b∈Rt.fps ts,b∈Rt.fps ts∨w.heap.size≤b∨b∈own:=fun b hb=>.inl hb
 refine regex_reader_item.okT _ _ _ _ _ _ w _ (H.newg (bs:=[]) (fun b3 w1 H1=>?_) (by simp))
 have H1:SF (·∈own) w w1 rb sl st wd fs f [.g b3] ts:=H1
 have leaf:∀(k:Int) (a b:UInt8) {w2:World} {st2 wd2:Int},SF (·∈own) w w2 rb sl st2 wd2 fs f [.g b3] ts→itemX t ⟨fs.map FM.x,f.x,st,wd⟩=some ⟨fs.map FM.x,atomX f.x (.mk k a b []),3,wd2⟩→
   callF [b3] Tryz.prog n_regex_reader_atom #[.pointer (some (at0 rb)),.agg #[.i k,.int .u8 (a.toNat:Int),.int .u8 (b.toNat:Int),.slice none 0 0]] w2 fun r_ w6=>∃t32:Bool,r_=.returned (.bool t32)∧StP w own ts rb (Says (itemX t ⟨fs.map FM.x,f.x,st,wd⟩)) (.returned (.bool t32)) w6:=by
  intro k a b w2 st2 wd2 H2 he
  have H3:=sf_leaf H2 k a b
  refine H3.csS (bs:=[b3]) (fun g hg u hu=>List.mem_append_left _ (h3 g hg u hu)) h4 (fun own1 s1=>c_atom s1 hl (.mk k a b ⟨none,0,0⟩ []) (by simp)) ?_ (by simp)
  rintro _ w3 sl3 fs3 f3 p3 st3 wd3 ts3 t3 h33 h43 b3' ⟨rfl,he0,he1,he2,rfl,rfl⟩ H4
  refine ⟨true,rfl,sf_stp H4 h33 h43 (fun x hx=>?_) (fun u hu=>t3 u (List.mem_append_left _ hu)) (.inr ⟨?_,rfl⟩)⟩
  ·rcases b3' x hx with h|h
   ·exact .inl (leaf_fps h)
   ·exact .inr h
  ·rw [he,he1,he2];rfl
 refine u8_sel (n:=33) (by omega) (fun hk:t.k=33=>H1.callg (c_top H1 h4 hl') ?_) (fun k33:t.k≠33=>u8_sel (n:=40) (by omega) (fun hk:t.k=40=>?_) (fun k40:t.k≠40=>u8_sel (n:=114) (by omega) (fun hk:t.k=114=>?_) (fun k114:t.k≠114=>u8_sel (n:=119) (by omega) (fun hk:t.k=119=>?_) (fun k119:t.k≠119=>?_))))
 ·rintro _ w2 rfl H2
  refine ⟨_,rfl,optP_some ⟨_,H2.ldF 1 rfl h4 5,optP_some ?_⟩⟩
  have e:IntKind.wrap .i64 ((f.n:Int)+1)=((f.n+1:Nat):Int):=by rw [IntWalk.i64_in _ (by omega)];omega
  rw [e]
  refine H2.stF (bs:=[b3]) (f:=f) 1 ⟨f.k,f.ar,f.al,f.an,f.ca,f.n+1,f.la⟩ 5 rfl h4 (by omega) rfl (fun w3 H3=>?_) (by simp)
  refine H3.stk (bs:=[b3]) 0 1 rfl (fun w4 H4=>?_) (by simp) (by simp)
  have er:(fs++[f]).flatMap FM.rows=(fs++[(⟨f.k,f.ar,f.al,f.an,f.ca,f.n+1,f.la⟩:FM)]).flatMap FM.rows:=by simp [FM.rows]
  have H5:SF (·∈own) w w4 rb sl 0 wd fs ⟨f.k,f.ar,f.al,f.an,f.ca,f.n+1,f.la⟩ [.g b3] ts:=by
   show LH _ _ _ (SL rb sl 0 wd _ ((fs++[(⟨f.k,f.ar,f.al,f.an,f.ca,f.n+1,f.la⟩:FM)]).flatMap FM.rows)++_) _
   rw [←er]
   exact H4
  refine sf_stp H5 (fun g hg u hu=>?_) h4 base (fun _ h=>h) (.inr ⟨?_,rfl⟩)
  ·rcases List.mem_append.1 hg with hg|hg
   ·exact h3 g (by simp [hg]) u hu
   ·simp at hg;subst hg
    exact h3 f (by simp) u hu
  ·unfold itemX;rw [if_pos hk];rfl
 ·refine H1.csS (bs:=[b3]) h3 h4 (fun own1 s1=>c_push s1 hl (-1) 0) ?_ (by simp)
  rintro _ w3 sl3 fs3 f3 p3 st3 wd3 ts3 t3 h33 h43 b3' ⟨rfl,he1,he2,rfl,rfl⟩ H4
  refine ⟨true,rfl,sf_stp H4 h33 h43 b3' t3 (.inr ⟨?_,rfl⟩)⟩
  unfold itemX
  rw [if_neg k33,if_pos hk,he1,he2]
 ·exact leaf 2 t.lo t.hi H1 (by unfold itemX;rw [if_neg k33,if_neg k40,if_pos hk])
 ·refine H1.stk (bs:=[b3]) 0 1 rfl (fun w2 H2=>?_) (by simp) (by simp)
  have H2:SF (·∈own) w w2 rb sl 2 wd fs f [.g b3] ts:=H2
  have ei:itemX t ⟨fs.map FM.x,f.x,st,wd⟩=if t.s=wNone then some ⟨fs.map FM.x,atomX f.x (.mk 0 0 0 []),3,wd⟩ else if t.s=wEmpty then some ⟨fs.map FM.x,atomX f.x (.mk 1 0 0 []),3,wd⟩ else if t.s=wAlt then some ⟨fs.map FM.x,f.x,2,4⟩ else if t.s=wAll then some ⟨fs.map FM.x,f.x,2,5⟩ else if t.s=wCat then some ⟨fs.map FM.x,f.x,2,3⟩ else none:=by
   unfold itemX
   rw [if_neg k33,if_neg k40,if_neg k114,if_pos hk]
  have word:∀(k:Int),itemX t ⟨fs.map FM.x,f.x,st,wd⟩=some ⟨fs.map FM.x,f.x,2,k⟩→stV w2 ((at0 rb).add 2) (.i k) fun w10=>kept [b3] w2 w10∧regex_reader_item.S0T w10 (StP w own ts rb (Says (itemX t ⟨fs.map FM.x,f.x,st,wd⟩))):=fun k he=>
   H2.stk (bs:=[b3]) 0 2 rfl (fun w3 H3=>sf_stp (show SF (·∈own) w w3 rb sl 2 k fs f [.g b3] ts from H3) h3 h4 base (fun _ h=>h) (.inr ⟨he,rfl⟩)) (by simp) (by simp)
  refine str_sel (fun h1:t.s=wNone=>leaf 0 0 0 H2 (by rw [ei,if_pos h1])) (fun n1:t.s≠wNone=>str_sel (fun h1:t.s=wEmpty=>leaf 1 0 0 H2 (by rw [ei,if_neg n1,if_pos h1])) (fun n2:t.s≠wEmpty=>str_sel (fun h1:t.s=wAlt=>word 4 (by rw [ei,if_neg n1,if_neg n2,if_pos h1])) (fun n3:t.s≠wAlt=>str_sel (fun h1:t.s=wAll=>word 5 (by rw [ei,if_neg n1,if_neg n2,if_neg n3,if_pos h1])) (fun n4:t.s≠wAll=>str_sel (fun h1:t.s=wCat=>word 3 (by rw [ei,if_neg n1,if_neg n2,if_neg n3,if_neg n4,if_pos h1])) (fun n5:t.s≠wCat=>?_)))))
  exact sf_stp H2 h3 h4 base (fun _ h=>h) (.inl ⟨by rw [ei,if_neg n1,if_neg n2,if_neg n3,if_neg n4,if_neg n5],rfl⟩)
 ·exact sf_stp H1 h3 h4 base (fun _ h=>h) (.inl ⟨by unfold itemX;rw [if_neg k33,if_neg k40,if_neg k114,if_neg k119],rfl⟩)
end Go.Proofs.YtcifihepfadgfaaGreatDoor
namespace Go.Proofs.YtcifihepfadgfaaGreatDoor
open Go Go.W
theorem own_shrink {w:World} {e:TypeId} {sz:Nat} {s:Sl} {xs:List Value} {p:Addr} (h:OwnRow w e sz s xs) (hp:s.a=some p) (n:Nat) (hn:n≤s.n):OwnRow w e sz ⟨s.a,n,s.c⟩ (xs.take (n *sz)):=by
 have hl:=h.len
 rcases h.cases with ⟨rfl,_⟩|⟨g,cur,ha,hg,h3,h4,h5,h6⟩
 ·cases hp
 ·have hm:n *sz≤s.n *sz:=Nat.mul_le_mul_right _ hn
  refine ⟨by rw [List.length_take];show _=n *sz;omega,.inr ⟨g,s.c,cur,by rw [ha],Nat.zero_le _,hg,Nat.le_trans hn h3,h4,h5,?_⟩⟩
  rw [←h6,List.take_take]
  congr 1
  show n *sz=_
  omega
section
variable {M:Nat→Prop} {w0 w:World} {L D A:List En} {bs:List Nat} {G:List En} {rb:Nat} {ts:List Rt}
theorem rows_drop (H:LH M w0 w L D) (i:Nat) {rs rs':List RowV} (hi:L[i]? =some (.rows (rs++rs'))):LH M w0 w (L.set i (.rows rs)) D:=by
 have hp:(En.rows (rs++rs')).P w:=H.get i hi
 have nd:=hp.2
 rw [List.flatMap_append,List.nodup_append] at nd
 refine H.upd i _ hi (Fr.refl _ _) ⟨fun q hq=>hp.1 q (List.mem_append_left _ hq),nd.1⟩ fun b hb=>.inl (mem_nub.2 ?_)
 rw [List.flatMap_append]
 exact List.mem_append_left _ (mem_nub.1 hb)
theorem lh_part (H:LH M w0 w (A++G) [.trees ts]):LH (·∈A.flatMap (·.fp)) w w A [.trees ts]:=by
 have nd:=H.nd
 rw [List.flatMap_append,List.nodup_append] at nd
 refine LH.start' _ _ (fun e he=>⟨H.own e (List.mem_append_left _ he),fun b hb=>List.mem_flatMap.2 ⟨e,he,hb⟩⟩) nd.1 fun e he=>?_
 simp only [List.mem_cons,List.not_mem_nil,or_false] at he
 subst he
 exact ⟨H.getD 0,fun b hb e' he' hb'=>H.dj (.trees ts) (by simp) b hb e' (List.mem_append_left _ he') hb'⟩
theorem lh_after (H:LH M w0 w (A++G) [.trees ts]) {w':World} {f0':Addr} {lo':List FX} {tp':FX} {st' wd':Int} {own':List Nat} {ts':List Rt} (s:St w' rb f0' lo' tp' st' wd' own' ts') (fr:Fr (·∈A.flatMap (·.fp)) w w') (o:∀x∈own',x∈A.flatMap (·.fp)∨w.heap.size≤x)
  (hb:∀b∈Rt.fps ts',b∈Rt.fps ts∨b∈A.flatMap (·.fp)∨w.heap.size≤b):
  ∃(sl':Sl) (fs':List FM) (f':FM) (p':Addr),fs'.map FM.x=lo'∧f'.x=tp'∧(∀g∈fs'++[f'],∀t∈g.ts,t∈ts')∧sl'.a=some p'∧f0'=p'.add (fs'.length *10)∧(∀b∈Rt.fps ts',b∈Rt.fps ts∨w0.heap.size≤b∨M b)∧SF M w0 w' rb sl' st' wd' fs' f' G ts':=by
 obtain ⟨sl',fs',f',p',h1,h2,h3,h4,h5,h6,h7,h8,h9,h10⟩:=s
 have nd:=H.nd
 rw [List.flatMap_append,List.nodup_append] at nd
 have ownM:∀b∈A.flatMap (·.fp),w0.heap.size≤b∨M b:=fun b hb=>by
  obtain ⟨e,he,hbe⟩:=List.mem_flatMap.1 hb
  exact H.new e (List.mem_append_left _ he) b hbe
 have glt:∀e∈G,∀b∈e.fp,b<w.heap.size:=fun e he b hb=>e.lt w (H.own e (List.mem_append_right _ he)) b hb
 have gown:∀e∈G,∀b∈e.fp,b∉A.flatMap (·.fp):=fun e he b hb hm=>nd.2.2 b hm b (List.mem_flatMap.2 ⟨e,he,hb⟩) rfl
 have hsz:=H.fr.size
 have own'M:∀b∈own',w0.heap.size≤b∨M b:=fun b hb=>(o b hb).elim (ownM b) fun h=>.inl (Nat.le_trans hsz h)
 refine ⟨sl',fs',f',p',h1,h2,h3,h4,h5,fun b hb'=>?_,H.fr.trans fr fun x hx hm=>(ownM x hm).resolve_left (by omega),fun e he=>?_,fun e he=>?_,fun e he b hb'=>?_,?_,fun e he b hb' e' he' hbe=>?_⟩
 ·rcases hb b hb' with h|h|h
  ·exact .inl h
  ·exact .inr (ownM b h)
  ·exact .inr (.inl (Nat.le_trans hsz h))
 ·rcases List.mem_append.1 he with he|he
  ·exact h8 e he
  ·exact e.st w w' (fun b hb hl=>fr.keep b hl (gown e he b hb)) (H.own e (List.mem_append_right _ he))
 ·simp at he;subst he;exact h9
 ·rcases List.mem_append.1 he with he|he
  ·exact own'M b (by rw [h6];exact List.mem_flatMap.2 ⟨e,he,hb'⟩)
  ·exact H.new e (List.mem_append_right _ he) b hb'
 ·rw [List.flatMap_append,List.nodup_append]
  refine ⟨h6▸h7,nd.2.1,fun x hx y hy hxy=>?_⟩
  subst hxy
  obtain ⟨e,he,hbe⟩:=List.mem_flatMap.1 hy
  rcases o x (by rw [h6];exact hx) with h|h
  ·exact gown e he x hbe h
  ·have:=glt e he x hbe;omega
 ·simp at he;subst he
  have hb'':b∈Rt.fps ts':=mem_nub.1 hb'
  rcases List.mem_append.1 he' with he'|he'
  ·exact h10 b hb'' (by rw [h6];exact List.mem_flatMap.2 ⟨e',he',hbe⟩)
  ·rcases hb b hb'' with h|h|h
   ·exact H.dj (.trees ts) (by simp) b (mem_nub.2 h) e' (List.mem_append_right _ he') hbe
   ·exact gown e' he' b hbe h
   ·have:=glt e' he' b hbe;omega
theorem _root_.Go.W.LH.csA (H:LH M w0 w (A++G) [.trees ts]) {g:FuncId} {args:Array Value} {K:Post} {Q:Ending→Addr→List FX→FX→Int→Int→List Rt→Prop}
  (hc:∀own,LH (·∈own) w w A [.trees ts]→Calls Tryz.prog g args w (StP w own ts rb Q))
  (hk:∀r w' (sl':Sl) (fs':List FM) (f':FM) (p':Addr) (st' wd':Int) (ts':List Rt),(∀t∈ts,t∈ts')→(∀g∈fs'++[f'],∀t∈g.ts,t∈ts')→sl'.a=some p'→(∀b∈Rt.fps ts',b∈Rt.fps ts∨w0.heap.size≤b∨M b)→Q r (p'.add (fs'.length *10)) (fs'.map FM.x) f'.x st' wd' ts'→SF M w0 w' rb sl' st' wd' fs' f' G ts'→K r w')
  (hbs:∀b∈bs,En.g b∈G:=by simp):callF bs Tryz.prog g args w K:=by
 have nd:=H.nd
 rw [List.flatMap_append,List.nodup_append] at nd
 refine ⟨(·∈A.flatMap (·.fp)),fun b hb hm=>?_,(hc _ (lh_part H)).mono ?_⟩
 ·exact nd.2.2 b hm b (List.mem_flatMap.2 ⟨_,hbs b hb,by simp [En.g]⟩) rfl
 ·rintro r w' ⟨f0',lo',tp',st',wd',own',ts',s,fr,o,b,t,q⟩
  obtain ⟨sl',fs',f',p',rfl,rfl,h3',hp',rfl,hb',H'⟩:=lh_after H s fr o b
  exact ⟨fr,hk r w' sl' fs' f' p' st' wd' ts' t h3' hp' hb' q H'⟩
theorem lh_like (H:LH M w0 w L [.trees ts]) (T:Rt) (hT:T∈ts) (k:Int) (lo hi:UInt8):LH M w0 w L [.trees (ts++[.mk k lo hi T.s T.l])]:=by
 have pt:Rt.Ps w ts:=H.getD 0
 have H1:=H.addD (.trees (ts++[.mk k lo hi T.s T.l])) (Fr.refl _ _) (Rt.ps_of fun t ht=>?_) fun b hb=>.inr (.inr ⟨.trees ts,by simp,?_⟩)
 ·exact H1.forget _ (by simp)
 ·rcases List.mem_append.1 ht with ht|ht
  ·exact pt.mem ht
  ·simp at ht;subst ht
   unfold Rt.P
   exact (pt.mem hT).parts
 ·obtain ⟨t,ht,hb'⟩:=Rt.fps_iff.1 (mem_nub.1 hb)
  rcases List.mem_append.1 ht with ht|ht
  ·exact mem_nub.2 (Rt.fps_iff.2 ⟨t,ht,hb'⟩)
  ·simp at ht
   rw [ht] at hb'
   exact mem_nub.2 (Rt.fps_iff.2 ⟨T,hT,Rt.fp_parts.2 ((Rt.fp_parts (t:=.mk k lo hi T.s T.l)).1 hb')⟩)
theorem like_fps {T:Rt} (hT:T∈ts) {k:Int} {lo hi:UInt8} {b:Nat} (h:b∈Rt.fps (ts++[.mk k lo hi T.s T.l])):b∈Rt.fps ts:=by
 obtain ⟨t,ht,hb'⟩:=Rt.fps_iff.1 h
 rcases List.mem_append.1 ht with ht|ht
 ·exact Rt.fps_iff.2 ⟨t,ht,hb'⟩
 ·simp at ht
  rw [ht] at hb'
  exact Rt.fps_iff.2 ⟨T,hT,Rt.fp_parts.2 ((Rt.fp_parts (t:=.mk k lo hi T.s T.l)).1 hb')⟩
theorem lh_kids (H:LH M w0 w L [.trees ts]) (T:Rt) (hT:T∈ts):LH M w0 w L [.trees (ts++T.l)]:=by
 have pt:Rt.Ps w ts:=H.getD 0
 have H1:=H.addD (.trees (ts++T.l)) (Fr.refl _ _) (Rt.ps_of fun t ht=>?_) fun b hb=>.inr (.inr ⟨.trees ts,by simp,?_⟩)
 ·exact H1.forget _ (by simp)
 ·rcases List.mem_append.1 ht with ht|ht
  ·exact pt.mem ht
  ·exact (pt.mem hT).parts.2.mem ht
 ·obtain ⟨t,ht,hb'⟩:=Rt.fps_iff.1 (mem_nub.1 hb)
  rcases List.mem_append.1 ht with ht|ht
  ·exact mem_nub.2 (Rt.fps_iff.2 ⟨t,ht,hb'⟩)
  ·exact mem_nub.2 (Rt.fps_iff.2 ⟨T,hT,Rt.fp_parts.2 (.inr (Rt.fps_iff.2 ⟨t,ht,hb'⟩))⟩)
theorem kids_fps {T:Rt} (hT:T∈ts) {b:Nat} (h:b∈Rt.fps (ts++T.l)):b∈Rt.fps ts:=by
 obtain ⟨t,ht,hb'⟩:=Rt.fps_iff.1 h
 rcases List.mem_append.1 ht with ht|ht
 ·exact Rt.fps_iff.2 ⟨t,ht,hb'⟩
 ·exact Rt.fps_iff.2 ⟨T,hT,Rt.fp_parts.2 (.inr (Rt.fps_iff.2 ⟨t,ht,hb'⟩))⟩
end
theorem c_topR {w:World} {rb:Nat} {sl:Sl} {p:Addr} {n:Nat} (hc:w.cell? ((at0 rb).add 0)=some sl.v) (hl:sl.n=n+1) (hp:sl.a=some p) (hn:n≤1000000):Calls Tryz.prog n_regex_reader_top #[.pointer (some (at0 rb))] w fun r w'=>r=.returned (.pointer (some (p.add (n *10))))∧Fr0 w w':=by
 have e:IntKind.wrap .i64 (((sl.n:Nat):Int) - 1)=(n:Int):=by rw [IntWalk.i64_in _ (by omega)];omega
 have hc':w.drew.cell? ((at0 rb).add 0)=some sl.v:=hc
 refine regex_reader_top.ok _ w _ (show _ from ⟨sl,hc',sl,hc',?_⟩)
 rw [e,hp]
 exact ⟨by omega,by omega,rfl,Fr.drew _ _⟩
def clR (k:Int) (l:List Rx):Rx:=if k<0 then l.headD noR else .mk k 0 0 l
theorem c_close {w:World} {rb:Nat} {sl:Sl} {st wd:Int} {fs:List FM} {g f:FM} {ts:List Rt} {p:Addr} {own:List Nat}
  (H:LH (·∈own) w w [.c rb [sl.v,.int .i64 st,.int .i64 wd] ty_regex_reader,.row ty_regex_frame 10 sl (((fs++[g])++[f]).flatMap FM.c),.rows ((fs++[g]).flatMap FM.rows)] [.trees ts])
  (h3:∀x∈fs++[g],∀t∈x.ts,t∈ts) (hp:sl.a=some p) (hl:fs.length≤999999) (T:Rt) (hT:T∈ts) (hk:0≤f.k∨T.l≠[]):
  Calls Tryz.prog n_regex_reader_close #[.pointer (some (at0 rb)),T.s.v] w (StP w own ts rb fun r _ lo' tp' st' wd' _=>r=.returned (.bool true)∧lo'=fs.map FM.x∧tp'=atomX g.x (clR f.k (Rt.rxs T.l))∧st'=3∧wd'=wd):=by
 have hn:sl.n=(fs++[g]).length+1:=by
  have ho:OwnRow w ty_regex_frame 10 sl (((fs++[g])++[f]).flatMap FM.c):=H.get 1
  have:=ho.len
  rw [fs_len] at this
  simp at this ⊢
  omega
 have hc1:1≤sl.c:=by
  have ho:OwnRow w ty_regex_frame 10 sl (((fs++[g])++[f]).flatMap FM.c):=H.get 1
  have:=ho.cap
  omega
 refine regex_reader_close.ok _ _ w _ (H.call (c_topR (H.ld 0 0) hn hp (by simp;omega)) ?_)
 rintro _ w1 rfl H1
 refine ⟨_,rfl,optP_some ⟨_,H1.ldF 1 rfl hp 0,?_⟩⟩
 have H2:=H1.drew
 refine ⟨sl,H2.ld 0 0,sl,H2.ld 0 0,?_⟩
 have e:IntKind.wrap .i64 (((sl.n:Nat):Int) - 1)=(((fs++[g]).length:Nat):Int):=by rw [IntWalk.i64_in _ (by simp at hn;omega)];omega
 rw [e]
 have ho:OwnRow w ty_regex_frame 10 sl (((fs++[g])++[f]).flatMap FM.c):=H.get 1
 have hocap:=ho.cap
 refine ⟨by omega,by omega,?_⟩
 have ev:Value.slice (if sl.c=0 then sl.a else sl.a.map (·.add (0 *10))) ((Int.toNat (((fs++[g]).length:Nat):Int)) - 0) (sl.c - 0)=(⟨sl.a,(fs++[g]).length,sl.c⟩:Sl).v:=by
  rw [if_neg (by omega),hp]
  show Value.slice (some (p.add 0)) _ _=Value.slice (some p) _ _
  rw [add0]
  simp
 rw [ev]
 refine H2.st 0 0 rfl fun w3 H3=>?_
 have hr3:OwnRow w3 ty_regex_frame 10 sl (((fs++[g])++[f]).flatMap FM.c):=H3.get 1
 have hs3:=own_shrink hr3 hp (fs++[g]).length (by omega)
 have et:(((fs++[g])++[f]).flatMap FM.c).take ((fs++[g]).length *10)=(fs++[g]).flatMap FM.c:=by
  rw [List.flatMap_append,←fs_len,List.take_left']
  rfl
 rw [et] at hs3
 have H4:=H3.upd 1 (.row ty_regex_frame 10 ⟨sl.a,(fs++[g]).length,sl.c⟩ ((fs++[g]).flatMap FM.c)) rfl (Fr.refl _ _) hs3 fun b hb=>.inl hb
 have H5:SF (·∈own) w w3 rb ⟨sl.a,(fs++[g]).length,sl.c⟩ st wd fs g [] ts:=by
  show LH _ _ _ (_++[]) _
  rw [List.append_nil]
  exact H4
 refine sel_intro (fun h1=>?_) (fun h1=>?_)
 ·have hk0:f.k<0:=of_decide_eq_true h1
  have hne:T.l≠[]:=hk.resolve_left (by omega)
  obtain ⟨x,l,hx⟩:=List.exists_cons_of_ne_nil hne
  have hr:RdN 4 w3 T.s (T.l.flatMap Rt.c):=((show Rt.Ps w3 ts from H5.getD 0).mem hT).parts.1
  have hln:=Rt.rows_n hr
  refine ⟨by omega,by rw [hln,hx];simp,Rt.at' hr (i:=0) (t:=x) (by rw [hx];rfl) fun q hq c=>⟨_,_,_,_,c.c0,c.c1,c.c2,c.c3,?_⟩⟩
  have H6:=lh_kids H5 T hT
  refine (show SF (·∈own) w w3 rb ⟨sl.a,(fs++[g]).length,sl.c⟩ st wd fs g [] (ts++T.l) from H6).csS0 (fun y hy t ht=>List.mem_append_left _ (h3 y hy t ht)) hp (fun own1 s1=>c_atom s1 (by simp;omega) x (by rw [hx];simp)) ?_
  rintro _ w4 sl4 fs4 f4 p4 st4 wd4 ts4 t4 h34 h44 b4 ⟨rfl,_,he1,he2,rfl,rfl⟩ H7
  refine ⟨true,rfl,sf_stp H7 h34 h44 (fun b hb=>(b4 b hb).imp (kids_fps hT) id) (fun t ht=>t4 t (List.mem_append_left _ ht)) ⟨rfl,he1,?_,rfl,rfl⟩⟩
  rw [he2,hx]
  unfold clR
  rw [if_pos hk0]
  rfl
 ·have hk0:¬f.k<0:=of_decide_eq_false h1
  have H6:=lh_like H5 T hT f.k 0 0
  refine (show SF (·∈own) w w3 rb ⟨sl.a,(fs++[g]).length,sl.c⟩ st wd fs g [] (ts++[.mk f.k 0 0 T.s T.l]) from H6).csS0 (fun y hy t ht=>List.mem_append_left _ (h3 y hy t ht)) hp (fun own1 s1=>c_atom s1 (by simp;omega) (.mk f.k 0 0 T.s T.l) (by simp)) ?_
  rintro _ w4 sl4 fs4 f4 p4 st4 wd4 ts4 t4 h34 h44 b4 ⟨rfl,_,he1,he2,rfl,rfl⟩ H7
  refine ⟨true,rfl,sf_stp H7 h34 h44 (fun b hb=>(b4 b hb).imp (like_fps hT) id) (fun t ht=>t4 t (List.mem_append_left _ ht)) ⟨rfl,he1,?_,rfl,rfl⟩⟩
  rw [he2]
  unfold clR
  rw [if_neg hk0]
  rfl
end Go.Proofs.YtcifihepfadgfaaGreatDoor
namespace Go.Proofs.YtcifihepfadgfaaGreatDoor
open Go Go.W
def closeX (s:SX) (l:List Rx):Option SX:=match s.lo.getLast? with
 |none=>none
 |some g=>some ⟨s.lo.dropLast,atomX g (clR s.tp.k l),3,s.wd⟩
def argX (s':Sl) (f:FX):FX:=⟨f.k,(s',f.ar.2++[exprX f]),[],[],[],0,f.la⟩
def feedX (s':Sl) (t:Tk) (s:SX):Option SX:=
 if s.st=2 then (if t.k=40 then some ⟨s.lo++[s.tp],newFX s.wd,1,s.wd⟩ else none)
 else if s.st=1 then (if t.k=41 then closeX s [] else itemX t s)
 else if s.st=0 then itemX t s
 else if t.k=42 then some ⟨s.lo,atomX s.tp (.mk 7 0 0 [s.tp.la]),s.st,s.wd⟩
 else if t.k=38 then some ⟨s.lo,endSeqX s.tp,0,s.wd⟩
 else if t.k=124 then some ⟨s.lo,endConjX s.tp,0,s.wd⟩
 else if t.k=44 then (if s.tp.k<0 then none else some ⟨s.lo,argX s' s.tp,0,s.wd⟩)
 else if t.k=41 then (if s.lo=[] then none else closeX s (s.tp.ar.2++[exprX s.tp]))
 else if t.k=36 then (if s.lo=[] then some s else none)
 else itemX t ⟨s.lo,endItemX s.tp,s.st,s.wd⟩
section
variable {M:Nat→Prop} {w0 w1:World} {bs:List Nat} {G:List En} {rb:Nat} {sl:Sl} {st wd:Int} {fs:List FM} {f:FM} {ts:List Rt} {p:Addr}
abbrev FS2 (M:Nat→Prop) (w0 w:World) (rb:Nat) (sl:Sl) (st wd:Int) (fs:List FM) (f:FM) (rs:List RowV) (G:List En) (ts:List Rt):Prop:=LH M w0 w (SL rb sl st wd ((fs++[f]).flatMap FM.c) rs++G) [.trees ts]
theorem push_k (H1:SF M w0 w1 rb sl st wd fs f G ts) (i:Nat) {src:Sl} (hi:(SL rb sl st wd ((fs++[f]).flatMap FM.c) ((fs++[f]).flatMap FM.rows)++G)[i]? =some (.row ty_regex_Regex 4 src z4)) (hp:sl.a=some p) (d:Nat) (hd1:1≤d) (hd4:d≤4) (t:Rt) (hb:(f.col d).2.length≤1000000) (hsn:src.n=1) {K:World→Prop}
  (hK:∀s' w',SF M w0 w' rb sl st wd fs (f.put d (s',(f.col d).2++[t])) G ts→K w') (hbs:∀b∈bs,En.g b∈G:=by simp):
  ∃(t15:Sl) (w5:World),(Builtin.append_ #[ty_sl_regex_Regex,ty_sl_regex_Regex] ty_sl_regex_Regex #[(f.col d).1.v,src.v]).run Tryz.prog w1=.ok (t15.v) w5∧kept bs w1 w5∧(0:Int)≤(((f.col d).1.n:Nat):Int)∧(((f.col d).1.n:Nat):Int)<((t15.n:Nat):Int)∧optP t15.a fun q=>
   ((stV w5 (q.add (Int.toNat (((f.col d).1.n:Nat):Int) *4)) (.int .i64 t.k) fun w6=>kept bs w5 w6∧stV w6 ((q.add (Int.toNat (((f.col d).1.n:Nat):Int) *4)).add 1) (.int .u8 (t.lo.toNat:Int)) fun w7=>kept bs w6 w7∧stV w7 ((q.add (Int.toNat (((f.col d).1.n:Nat):Int) *4)).add 2) (.int .u8 (t.hi.toNat:Int)) fun w8=>kept bs w7 w8∧stV w8 ((q.add (Int.toNat (((f.col d).1.n:Nat):Int) *4)).add 3) t.s.v fun w9=>kept bs w8 w9∧stV w9 ((p.add (fs.length *10)).add d) t15.v fun w10=>kept bs w9 w10∧K w10)∧
   (stV w5 ((p.add (fs.length *10)).add d) t15.v fun w11=>kept bs w5 w11∧stV w11 (q.add (Int.toNat (((f.col d).1.n:Nat):Int) *4)) (.int .i64 t.k) fun w6=>kept bs w11 w6∧stV w6 ((q.add (Int.toNat (((f.col d).1.n:Nat):Int) *4)).add 1) (.int .u8 (t.lo.toNat:Int)) fun w7=>kept bs w6 w7∧stV w7 ((q.add (Int.toNat (((f.col d).1.n:Nat):Int) *4)).add 2) (.int .u8 (t.hi.toNat:Int)) fun w8=>kept bs w7 w8∧stV w8 ((q.add (Int.toNat (((f.col d).1.n:Nat):Int) *4)).add 3) t.s.v fun w9=>kept bs w8 w9∧K w9)):=by
 have hrow:((fs++[f]).flatMap FM.rows)[fs.length *4+(d - 1)]? =some ((f.col d).1,(f.col d).2.flatMap Rt.c):=rows_get fs f (d - 1) _ (col_r f hd1 hd4)
 have nr:(f.col d).1.n=(f.col d).2.length:=by
  have hp:(En.rows ((fs++[f]).flatMap FM.rows)).P w1:=H1.get 2
  exact Rt.rows_n (hp.1 _ (List.mem_of_getElem? hrow)).rdn
 have hg:∀{L:List En},∀b∈bs,En.g b∈L++G:=fun b hb=>List.mem_append_right _ (hbs b hb)
 obtain ⟨s',w5,h1,hkp,h3⟩:=H1.apRow (bs:=bs) (ty:=ty_sl_regex_Regex) 2 (fs.length *4+(d - 1)) (src:=src) (news:=z4) (K:=fun s' w'=>FS2 M w0 w' rb sl st wd fs f (((fs++[f]).flatMap FM.rows).set (fs.length *4+(d - 1)) (s',(f.col d).2.flatMap Rt.c++z4)) G ts∧s'.n=(f.col d).1.n+1∧∃q,s'.a=some q) rfl hrow (OwnRow.rdn (H1.get i hi)) (by simp [Value.oneCell']) (by omega) (fun s' w4 H4 hn' hnone=>⟨H4,by omega,by
  cases hs:s'.a with
  |none=>have:=(hnone hs).2;omega
  |some q=>exact ⟨q,rfl⟩⟩) hg
 obtain ⟨H5,hn5,q,hq⟩:=h3
 refine ⟨s',w5,h1,hkp,by omega,by omega,?_⟩
 rw [hq]
 have hjl:fs.length *4+(d - 1)<((fs++[f]).flatMap FM.rows).length:=by rw [rows_len];simp;omega
 have ec:∀(f:FM) (t:Rt) (d:Nat),(f.col d).2.flatMap Rt.c++t.c=((f.col d).2++[t]).flatMap Rt.c:=fun f t d=>by simp
 rw [nr]
 refine ⟨?_,?_⟩
 ·refine LH.put4 (bs:=bs) H5 2 (fs.length *4+(d - 1)) (f.col d).2.length t rfl (List.getElem?_set_self hjl) hq (Rt.cs_len _) (fun w' H6=>?_) hg
  have H6:FS2 M w0 w' rb sl st wd fs f ((((fs++[f]).flatMap FM.rows).set (fs.length *4+(d - 1)) (s',(f.col d).2.flatMap Rt.c++z4)).set (fs.length *4+(d - 1)) (s',(f.col d).2.flatMap Rt.c++t.c)) G ts:=H6
  rw [List.set_set,ec,fr_rows fs f (s',(f.col d).2++[t]) hd1 hd4] at H6
  exact H6.stF (bs:=bs) (f:=f) 1 (f.put d (s',(f.col d).2++[t])) d rfl hp (by omega) (put_c f (s',(f.col d).2++[t]) hd1 hd4) (fun w'' H7=>hK s' w'' H7) hg
 ·refine H5.stF (bs:=bs) (f:=f) 1 (f.put d (s',(f.col d).2++[t])) d rfl hp (by omega) (put_c f (s',(f.col d).2++[t]) hd1 hd4) (fun w' H6=>?_) hg
  refine LH.put4 (bs:=bs) (L:=SL rb sl st wd ((fs++[f.put d (s',(f.col d).2++[t])]).flatMap FM.c) (((fs++[f]).flatMap FM.rows).set (fs.length *4+(d - 1)) (s',(f.col d).2.flatMap Rt.c++z4))++G) H6 2 (fs.length *4+(d - 1)) (f.col d).2.length t rfl (List.getElem?_set_self hjl) hq (Rt.cs_len _) (fun w'' H7=>?_) hg
  have H7:LH M w0 w'' (SL rb sl st wd ((fs++[f.put d (s',(f.col d).2++[t])]).flatMap FM.c) ((((fs++[f]).flatMap FM.rows).set (fs.length *4+(d - 1)) (s',(f.col d).2.flatMap Rt.c++z4)).set (fs.length *4+(d - 1)) (s',(f.col d).2.flatMap Rt.c++t.c))++G) [.trees ts]:=H7
  rw [List.set_set,ec,fr_rows fs f (s',(f.col d).2++[t]) hd1 hd4] at H7
  exact hK s' w'' H7
end
end Go.Proofs.YtcifihepfadgfaaGreatDoor
namespace Go.Proofs.YtcifihepfadgfaaGreatDoor
open Go Go.W
theorem nil_snoc {α:Type} (l:List α):l=[]∨∃a x,l=a++[x]:=by
 rcases List.eq_nil_or_concat l with h|⟨a,x,h⟩
 ·exact .inl h
 ·exact .inr ⟨a,x,by rw [h,List.concat_eq_append]⟩
theorem closeX_snoc (lo:List FX) (g tp:FX) (st wd:Int) (l:List Rx):closeX ⟨lo++[g],tp,st,wd⟩ l=some ⟨lo,atomX g (clR tp.k l),3,wd⟩:=by
 unfold closeX
 simp
def FedQ (t:Tk) (S:SX):Ending→Addr→List FX→FX→Int→Int→List Rt→Prop:=fun r f0 lo tp st wd ts=>∃s',Says (feedX s' t S) r f0 lo tp st wd ts
theorem c_feed {w:World} {rb:Nat} {f0:Addr} {lo:List FX} {tp:FX} {st wd:Int} {own:List Nat} {ts:List Rt} (h:St w rb f0 lo tp st wd own ts) (hl:lo.length≤999999) (hs:Small tp 999999) (h1:st=1→0≤tp.k∧lo≠[]) (t:Tk):
  Calls Tryz.prog n_regex_reader_feed #[.pointer (some (at0 rb)),t.v] w (StP w own ts rb (FedQ t ⟨lo,tp,st,wd⟩)):=by
 obtain ⟨sl,fs,f,p,rfl,rfl,h3,h4,rfl,H⟩:=open_sf h
 have hl':fs.length≤999999:=by simpa using hl
 have hn':f.n≤999999:=hs.n'
 have hs6:Small f.x 1000000:=⟨by have:=hs.n';omega,by have:=hs.ar;omega,by have:=hs.al;omega,by have:=hs.an;omega,by have:=hs.ca;omega⟩
 have base:∀b∈Rt.fps ts,b∈Rt.fps ts∨w.heap.size≤b∨b∈own:=fun b hb=>.inl hb
 let z:Sl:=⟨none,0,0⟩
 refine regex_reader_feed.okT _ _ _ _ _ _ w _ (H.newg (bs:=[]) (fun b3 w1 H1=>?_) (by simp))
 have H1:SF (·∈own) w w1 rb sl st wd fs f [.g b3] ts:=H1
 refine H1.callg (c_top H1 h4 (by omega)) ?_
 rintro _ w2 rfl H2
 have H2:SF (·∈own) w w2 rb sl st wd fs f [.g b3] ts:=H2
 refine ⟨_,rfl,st,H2.ld 0 1,?_⟩
 have item:∀{w2:World} {sl2:Sl} {st2 wd2:Int} {fs2:List FM} {f2:FM} {ts2:List Rt} {p2:Addr},SF (·∈own) w w2 rb sl2 st2 wd2 fs2 f2 [.g b3] ts2→(∀g∈fs2++[f2],∀t∈g.ts,t∈ts2)→sl2.a=some p2→(∀b∈Rt.fps ts2,b∈Rt.fps ts∨w.heap.size≤b∨b∈own)→(∀t∈ts,t∈ts2)→fs2.length≤1000000→f2.n≤1000000→
   feedX z t ⟨fs.map FM.x,f.x,st,wd⟩=itemX t ⟨fs2.map FM.x,f2.x,st2,wd2⟩→callF [b3] Tryz.prog n_regex_reader_item #[.pointer (some (at0 rb)),t.v] w2 fun r_ w5=>∃t34:Bool,r_=.returned (.bool t34)∧StP w own ts rb (FedQ t ⟨fs.map FM.x,f.x,st,wd⟩) (.returned (.bool t34)) w5:=by
  intro w2 sl2 st2 wd2 fs2 f2 ts2 p2 H2 h32 h42 hb2 ht2 hl2 hn2 he
  refine H2.csS (bs:=[b3]) h32 h42 (fun own1 s1=>c_item s1 (by simpa using hl2) hn2 t) ?_ (by simp)
  rintro r w3 sl3 fs3 f3 p3 st3 wd3 ts3 t3 h33 h43 b3' hsay H4
  have hb:∀b∈Rt.fps ts3,b∈Rt.fps ts∨w.heap.size≤b∨b∈own:=fun b hb=>(b3' b hb).elim (hb2 b) .inr
  rcases hsay with ⟨hn,rfl⟩|⟨hsm,rfl⟩
  ·exact ⟨false,rfl,sf_stp H4 h33 h43 hb (fun t ht=>t3 t (ht2 t ht)) ⟨z,.inl ⟨he.trans hn,rfl⟩⟩⟩
  ·exact ⟨true,rfl,sf_stp H4 h33 h43 hb (fun t ht=>t3 t (ht2 t ht)) ⟨z,.inr ⟨he.trans hsm,rfl⟩⟩⟩
 have close:∀{w2:World} {sl2:Sl} {fs2:List FM} {g2 f2:FM} {ts2:List Rt} {p2:Addr} {s':Sl} (T:Rt),LH (·∈own) w w2 ([.c rb [sl2.v,.int .i64 st,.int .i64 wd] ty_regex_reader,.row ty_regex_frame 10 sl2 (((fs2++[g2])++[f2]).flatMap FM.c),.rows ((fs2++[g2]).flatMap FM.rows)]++[.g b3]) [.trees ts2]→(∀x∈fs2++[g2],∀t∈x.ts,t∈ts2)→sl2.a=some p2→fs2.length≤999999→T∈ts2→(0≤f2.k∨T.l≠[])→(∀b∈Rt.fps ts2,b∈Rt.fps ts∨w.heap.size≤b∨b∈own)→(∀t∈ts,t∈ts2)→
   feedX s' t ⟨fs.map FM.x,f.x,st,wd⟩=some ⟨fs2.map FM.x,atomX g2.x (clR f2.k (Rt.rxs T.l)),3,wd⟩→callF [b3] Tryz.prog n_regex_reader_close #[.pointer (some (at0 rb)),T.s.v] w2 fun r_ w5=>∃t34:Bool,r_=.returned (.bool t34)∧StP w own ts rb (FedQ t ⟨fs.map FM.x,f.x,st,wd⟩) (.returned (.bool t34)) w5:=by
  intro w2 sl2 fs2 g2 f2 ts2 p2 s' T H2 h32 h42 hl2 hT hk hb2 ht2 he
  refine LH.csA (rb:=rb) (bs:=[b3]) H2 (fun own1 HA=>c_close HA h32 h42 hl2 T hT hk) ?_ (by simp)
  rintro r w3 sl3 fs3 f3 p3 st3 wd3 ts3 t3 h33 h43 b3' ⟨rfl,he1,he2,rfl,rfl⟩ H4
  refine ⟨true,rfl,sf_stp H4 h33 h43 (fun b hb=>(b3' b hb).elim (hb2 b) .inr) (fun t ht=>t3 t (ht2 t ht)) ⟨s',.inr ⟨?_,rfl⟩⟩⟩
  rw [he1,he2]
  exact he
 refine sel_intro (fun hst=>?_) (fun hst=>?_)
 ·have hst:st=2:=eq_of_beq hst
  refine u8_sel (n:=40) (by omega) (fun hk:t.k=40=>⟨wd,H2.ld 0 2,?_⟩) (fun hk:t.k≠40=>?_)
  ·refine H2.csS (bs:=[b3]) h3 h4 (fun own1 s1=>c_push s1 (by simp;omega) wd 1) ?_ (by simp)
   rintro _ w3 sl3 fs3 f3 p3 st3 wd3 ts3 t3 h33 h43 b3' ⟨rfl,he1,he2,rfl,rfl⟩ H4
   refine ⟨true,rfl,sf_stp H4 h33 h43 b3' t3 ⟨z,.inr ⟨?_,rfl⟩⟩⟩
   rw [he1,he2]
   unfold feedX
   exact (if_pos hst).trans (if_pos hk)
  ·refine sf_stp H2 h3 h4 base (fun _ h=>h) ⟨z,.inl ⟨?_,rfl⟩⟩
   unfold feedX
   exact (if_pos hst).trans (if_neg hk)
 have n2:st≠2:=fun e=>by rw [e] at hst;exact absurd hst (by decide)
 refine sel_intro (fun hst1=>?_) (fun hst1=>?_)
 ·have hst1:st=1:=eq_of_beq hst1
  obtain ⟨hk0,hne⟩:=h1 hst1
  refine u8_sel (n:=41) (by omega) (fun hk:t.k=41=>?_) (fun hk:t.k≠41=>?_)
  ·rcases nil_snoc fs with rfl|⟨fs0,g,rfl⟩
   ·exact absurd rfl hne
   have H3:=sf_leaf H2 3 0 0
   have er:(((fs0++[g])++[f]).flatMap FM.rows)=(fs0++[g]).flatMap FM.rows++f.rows:=by rw [List.flatMap_append (xs:=fs0++[g])];simp
   have H4:LH (·∈own) w w2 (SL rb sl st wd (((fs0++[g])++[f]).flatMap FM.c) ((fs0++[g]).flatMap FM.rows++f.rows)++[.g b3]) [.trees (ts++[.mk 3 0 0 ⟨none,0,0⟩ []])]:=by rw [←er];exact H3
   have H5:=rows_drop H4 2 rfl
   refine close (s':=z) (.mk 3 0 0 ⟨none,0,0⟩ []) H5 (fun x hx u hu=>List.mem_append_left _ (h3 x (List.mem_append_left _ hx) u hu)) h4 (by simp at hl';omega) (by simp) (.inl hk0) (fun b hb=>.inl (leaf_fps hb)) (fun u hu=>List.mem_append_left _ hu) ?_
   unfold feedX
   refine (if_neg n2).trans ((if_pos hst1).trans ((if_pos hk).trans ?_))
   rw [List.map_append]
   exact closeX_snoc _ _ _ _ _ _
  ·refine item H2 h3 h4 base (fun _ h=>h) (by omega) (by omega) ?_
   unfold feedX
   exact (if_neg n2).trans ((if_pos hst1).trans (if_neg hk))
 have n1:st≠1:=fun e=>by rw [e] at hst1;exact absurd hst1 (by decide)
 refine sel_intro (fun hst0=>?_) (fun hst0=>?_)
 ·have hst0:st=0:=eq_of_beq hst0
  refine item H2 h3 h4 base (fun _ h=>h) (by omega) (by omega) ?_
  unfold feedX
  exact (if_neg n2).trans ((if_neg n1).trans (if_pos hst0))
 have n0:st≠0:=fun e=>by rw [e] at hst0;exact absurd hst0 (by decide)
 have fe:∀s':Sl,feedX s' t ⟨fs.map FM.x,f.x,st,wd⟩=(if t.k=42 then some ⟨fs.map FM.x,atomX f.x (.mk 7 0 0 [f.x.la]),st,wd⟩
   else if t.k=38 then some ⟨fs.map FM.x,endSeqX f.x,0,wd⟩
   else if t.k=124 then some ⟨fs.map FM.x,endConjX f.x,0,wd⟩
   else if t.k=44 then (if f.x.k<0 then none else some ⟨fs.map FM.x,argX s' f.x,0,wd⟩)
   else if t.k=41 then (if fs.map FM.x=[] then none else closeX ⟨fs.map FM.x,f.x,st,wd⟩ (f.x.ar.2++[exprX f.x]))
   else if t.k=36 then (if fs.map FM.x=[] then some ⟨fs.map FM.x,f.x,st,wd⟩ else none)
   else itemX t ⟨fs.map FM.x,endItemX f.x,st,wd⟩):=fun s'=>by
  unfold feedX
  exact (if_neg n2).trans ((if_neg n1).trans (if_neg n0))
 refine u8_sel (n:=42) (by omega) (fun hk:t.k=42=>?_) (fun k42:t.k≠42=>u8_sel (n:=38) (by omega) (fun hk:t.k=38=>?_) (fun k38:t.k≠38=>u8_sel (n:=124) (by omega) (fun hk:t.k=124=>?_) (fun k124:t.k≠124=>u8_sel (n:=44) (by omega) (fun hk:t.k=44=>?_) (fun k44:t.k≠44=>u8_sel (n:=41) (by omega) (fun hk:t.k=41=>?_) (fun k41:t.k≠41=>u8_sel (n:=36) (by omega) (fun hk:t.k=36=>?_) (fun k36:t.k≠36=>?_))))))
 ·obtain ⟨c0,c1,c2,c3⟩:=H2.ldLast 1 rfl h4
  refine optP_some ⟨_,_,_,_,c0,c1,c2,c3,?_⟩
  refine H2.nwrow (e:=ty_regex_Regex) (sz:=4) (n:=1) (cs:=f.la.c) rfl (by decide) fun w7 H7=>optP_some ?_
  have a1:((p.add (fs.length *10)).add 6).add 1=(p.add (fs.length *10)).add 7:=add_add _ 6 1
  have a2:((p.add (fs.length *10)).add 6).add 2=(p.add (fs.length *10)).add 8:=add_add _ 6 2
  have a3:((p.add (fs.length *10)).add 6).add 3=(p.add (fs.length *10)).add 9:=add_add _ 6 3
  rw [a1,a2,a3]
  refine H7.stF (bs:=[b3]) (f:=f) 1 ⟨f.k,f.ar,f.al,f.an,f.ca,f.n,.mk 7 f.la.lo f.la.hi f.la.s f.la.l⟩ 6 rfl h4 (by omega) rfl (fun w8 H8=>?_) (by simp)
  refine H8.stF (bs:=[b3]) (f:=⟨f.k,f.ar,f.al,f.an,f.ca,f.n,.mk 7 f.la.lo f.la.hi f.la.s f.la.l⟩) 1 ⟨f.k,f.ar,f.al,f.an,f.ca,f.n,.mk 7 0 f.la.hi f.la.s f.la.l⟩ 7 rfl h4 (by omega) rfl (fun w9 H9=>?_) (by simp)
  refine H9.stF (bs:=[b3]) (f:=⟨f.k,f.ar,f.al,f.an,f.ca,f.n,.mk 7 0 f.la.hi f.la.s f.la.l⟩) 1 ⟨f.k,f.ar,f.al,f.an,f.ca,f.n,.mk 7 0 0 f.la.s f.la.l⟩ 8 rfl h4 (by omega) rfl (fun w10 H10=>?_) (by simp)
  refine H10.stF (bs:=[b3]) (f:=⟨f.k,f.ar,f.al,f.an,f.ca,f.n,.mk 7 0 0 f.la.s f.la.l⟩) 1 ⟨f.k,f.ar,f.al,f.an,f.ca,f.n,.mk 7 0 0 ⟨some (at0 w2.heap.size),1,1⟩ [f.la]⟩ 9 rfl h4 (by omega) rfl (fun w11 H11=>?_) (by simp)
  have hla:f.la∈ts:=h3 f (by simp) _ (by simp [FM.ts])
  have H12:=H11.freeze 4 (Rt.row ⟨some (at0 w2.heap.size),1,1⟩ [f.la]) rfl (by show RdN 4 w11 _ ([f.la].flatMap Rt.c);rw [show [f.la].flatMap Rt.c=f.la.c by simp];exact OwnRow.rdn (H11.get 4)) (fun b hb=>rdn_own (e:=ty_regex_Regex) (vs:=[f.la].flatMap Rt.c) hb)
  have H13:=H12.node 0 7 0 0 (s:=⟨some (at0 w2.heap.size),1,1⟩) (ks:=[f.la]) rfl (by simp) (fun t ht=>by simp at ht;subst ht;exact hla)
  have er:(fs++[f]).flatMap FM.rows=(fs++[(⟨f.k,f.ar,f.al,f.an,f.ca,f.n,.mk 7 0 0 ⟨some (at0 w2.heap.size),1,1⟩ [f.la]⟩:FM)]).flatMap FM.rows:=by simp [FM.rows]
  have H14:SF (·∈own) w w11 rb sl st wd fs ⟨f.k,f.ar,f.al,f.an,f.ca,f.n,.mk 7 0 0 ⟨some (at0 w2.heap.size),1,1⟩ [f.la]⟩ [.g b3] (ts++[.mk 7 0 0 ⟨some (at0 w2.heap.size),1,1⟩ [f.la]]):=by
   show LH _ _ _ (SL rb sl st wd _ ((fs++[(⟨f.k,f.ar,f.al,f.an,f.ca,f.n,.mk 7 0 0 ⟨some (at0 w2.heap.size),1,1⟩ [f.la]⟩:FM)]).flatMap FM.rows)++_) _
   rw [←er]
   exact H13
  refine sf_stp H14 (fun g hg u hu=>?_) h4 (fun b hb=>?_) (fun u hu=>List.mem_append_left _ hu) ⟨z,.inr ⟨?_,rfl⟩⟩
  ·rcases List.mem_append.1 hg with hg|hg
   ·exact List.mem_append_left _ (h3 g (by simp [hg]) u hu)
   ·simp at hg;subst hg
    simp only [FM.ts,List.mem_append,List.mem_cons,List.not_mem_nil,or_false] at hu
    rcases hu with (((hu|hu)|hu)|hu)|rfl
    ·exact List.mem_append_left _ (h3 f (by simp) u (by simp [FM.ts,hu]))
    ·exact List.mem_append_left _ (h3 f (by simp) u (by simp [FM.ts,hu]))
    ·exact List.mem_append_left _ (h3 f (by simp) u (by simp [FM.ts,hu]))
    ·exact List.mem_append_left _ (h3 f (by simp) u (by simp [FM.ts,hu]))
    ·simp
  ·obtain ⟨u,hu,hbu⟩:=Rt.fps_iff.1 hb
   rcases List.mem_append.1 hu with hu|hu
   ·exact .inl (Rt.fps_iff.2 ⟨u,hu,hbu⟩)
   ·simp at hu
    rw [hu] at hbu
    rcases Rt.fp_parts.1 hbu with hbu|hbu
    ·have:=rdn_own (e:=ty_regex_Regex) hbu
     simp [En.row,blkL,Rt.s] at this
     subst this
     exact .inr (.inl H2.fr.size)
    ·obtain ⟨t',ht',hb'⟩:=Rt.fps_iff.1 hbu
     simp [Rt.l] at ht'
     rw [ht'] at hb'
     exact .inl (Rt.fps_iff.2 ⟨f.la,hla,hb'⟩)
  ·rw [fe,if_pos hk];rfl
 ·refine H2.csS (bs:=[b3]) h3 h4 (fun own1 s1=>as_stp (c_endSeq s1 hs6.n' hs6.ca hs6.an)) ?_ (by simp)
  rintro _ w3 sl3 fs3 f3 p3 st3 wd3 ts3 t3 h33 h43 b3' ⟨rfl,he0,he1,he2,rfl,rfl⟩ H3
  refine ⟨rfl,H3.stk (bs:=[b3]) 0 1 rfl (fun w4 H4=>?_) (by simp) (by simp)⟩
  refine sf_stp (show SF (·∈own) w w4 rb sl3 0 wd3 fs3 f3 [.g b3] ts3 from H4) h33 h43 b3' t3 ⟨z,.inr ⟨?_,rfl⟩⟩
  rw [fe,if_neg k42,if_pos hk,he1,he2]
 ·refine H2.csS (bs:=[b3]) h3 h4 (fun own1 s1=>as_stp (c_endConj s1 hs6.n' hs6.ca hs6.an hs6.al)) ?_ (by simp)
  rintro _ w3 sl3 fs3 f3 p3 st3 wd3 ts3 t3 h33 h43 b3' ⟨rfl,he0,he1,he2,rfl,rfl⟩ H3
  refine ⟨rfl,H3.stk (bs:=[b3]) 0 1 rfl (fun w4 H4=>?_) (by simp) (by simp)⟩
  refine sf_stp (show SF (·∈own) w w4 rb sl3 0 wd3 fs3 f3 [.g b3] ts3 from H4) h33 h43 b3' t3 ⟨z,.inr ⟨?_,rfl⟩⟩
  rw [fe,if_neg k42,if_neg k38,if_pos hk,he1,he2]
 ·refine optP_some ⟨f.k,H2.ldF 1 rfl h4 0,sel_intro (fun h0=>?_) (fun h0=>?_)⟩
  ·refine sf_stp H2 h3 h4 base (fun _ h=>h) ⟨z,.inl ⟨?_,rfl⟩⟩
   rw [fe,if_neg k42,if_neg k38,if_neg k124,if_pos hk]
   exact if_pos (of_decide_eq_true h0)
  have fin:∀{w5:World} {sl3:Sl} {fs3:List FM} {f3:FM} {p3:Addr} {ts3:List Rt} {s':Sl} {u:Rt} {G:List En},SF (·∈own) w w5 rb sl3 st wd fs3 (f3.put 1 (s',(f3.col 1).2++[u])) G ts3→(∀g∈fs3++[f3],∀t∈g.ts,t∈ts3)→sl3.a=some p3→(∀b∈Rt.fps ts3,b∈Rt.fps ts∨w.heap.size≤b∨b∈own)→(∀t∈ts,t∈ts3)→fs3.map FM.x=fs.map FM.x→f3.x=endExprX f.x→u∈ts3→u.rx=exprX f.x→
    regex_reader_feed.S1T (at0 rb) w5 (StP w own ts rb (FedQ t ⟨fs.map FM.x,f.x,st,wd⟩)):=by
   intro w5 sl3 fs3 f3 p3 ts3 s' u G H5 h33 h43 hb3 ht3 he1 he2 hu hx
   refine H5.st 0 1 rfl fun w6 H6=>?_
   refine sf_stp (show SF (·∈own) w w6 rb sl3 0 wd fs3 (f3.put 1 (s',(f3.col 1).2++[u])) G ts3 from H6) (fun g hg v hv=>?_) h43 hb3 ht3 ⟨s',.inr ⟨?_,rfl⟩⟩
   ·rcases List.mem_append.1 hg with hg|hg
    ·exact h33 g (by simp [hg]) v hv
    ·simp at hg;subst hg
     rcases put_ts _ _ (by omega) (by omega) hv with h|h
     ·exact h33 f3 (by simp) v h
     ·rcases List.mem_append.1 h with h|h
      ·exact h33 f3 (by simp) v (col_ts f3 1 h)
      ·simp at h;subst h;exact hu
   ·have e1:f3.k=f.k:=by have:=congrArg FX.k he2;exact this
    have e2:Rt.rxs f3.ar.2=Rt.rxs f.ar.2:=by have:=congrArg (fun x:FX=>x.ar.2) he2;exact this
    have e3:Rt.rxs f3.al.2=[]:=by have:=congrArg FX.al he2;exact this
    have e4:Rt.rxs f3.an.2=[]:=by have:=congrArg FX.an he2;exact this
    have e5:Rt.rxs f3.ca.2=[]:=by have:=congrArg FX.ca he2;exact this
    have e6:f3.n=0:=by have:=congrArg FX.n he2;exact this
    have e7:f3.la.rx=f.x.la:=by have:=congrArg FX.la he2;exact this
    rw [fe,if_neg k42,if_neg k38,if_neg k124,if_pos hk]
    refine (if_neg (of_decide_eq_false h0)).trans ?_
    show some (SX.mk _ ⟨_,(s',Rt.rxs f.ar.2++[exprX f.x]),[],[],[],0,f.x.la⟩ 0 wd)=some (SX.mk (fs3.map FM.x) ⟨f3.k,(s',Rt.rxs (f3.ar.2++[u])),Rt.rxs f3.al.2,Rt.rxs f3.an.2,Rt.rxs f3.ca.2,f3.n,f3.la.rx⟩ 0 wd)
    rw [he1,e1,e3,e4,e5,e6,e7,rxs_app,e2]
    show some (SX.mk _ ⟨_,(s',Rt.rxs f.ar.2++[exprX f.x]),[],[],[],0,f.x.la⟩ 0 wd)=some (SX.mk _ ⟨_,(s',Rt.rxs f.ar.2++[u.rx]),[],[],[],0,f.x.la⟩ 0 wd)
    rw [hx]
    rfl
  refine optP_some (H2.locg (bs:=[b3]) (fun w16 H16=>⟨f.ar.1,H16.ldF 1 rfl h4 1,?_,?_⟩) (by simp))
  ·refine (show SF (·∈own) w w16 rb sl st wd fs f [.g b3] ts from H16).csS (bs:=[b3]) h3 h4 (fun own1 s1=>c_endExpr s1 hs6) ?_ (by simp)
   rintro r w17 sl3 fs3 f3 p3 st3 wd3 ts3 t3 h33 h43 b3' ⟨hf0,he1,he2,rfl,rfl,u,hu,rfl,hx⟩ H17
   have ear:f3.ar.1=f.ar.1:=by have:=congrArg (fun x:FX=>x.ar.1) he2;exact this
   refine ⟨u.k,u.lo.toNat,u.hi.toNat,u.s,rfl,?_⟩
   rw [←hf0,←ear]
   refine ⟨H17.ldF 1 rfl h43 1,H17.nwrow (e:=ty_regex_Regex) (sz:=4) (n:=1) (cs:=z4) rfl (by decide) fun w18 H18=>⟨H18.ldF 1 rfl h43 1,?_⟩⟩
   have hb1:(f3.col 1).2.length≤1000000:=by
    have e:f3.x.ar.2.length=f3.ar.2.length:=(fx_len f3).1
    rw [he2] at e
    have:f.x.ar.2.length≤999999:=hs.ar
    show f3.ar.2.length≤_
    rw [←e];show f.x.ar.2.length≤_;omega
   exact push_k (bs:=[b3]) (K:=fun w5=>regex_reader_feed.S1T (at0 rb) w5 (StP w own ts rb (FedQ t ⟨fs.map FM.x,f.x,st3,wd3⟩))) (show SF (·∈own) w w18 rb sl3 st3 wd3 fs3 f3 ([.g b3]++[.row ty_regex_Regex 4 ⟨some (at0 w17.heap.size),1,1⟩ z4]) ts3 from H18) 4 rfl h43 1 (by omega) (by omega) u hb1 rfl (fun s' w5 H5=>fin H5 h33 h43 b3' t3 he1 he2 hu hx) (by simp)
  ·refine H16.nwrow (e:=ty_regex_Regex) (sz:=4) (n:=1) (cs:=z4) rfl (by decide) fun w30 H30=>⟨H30.ldF 1 rfl h4 1,?_⟩
   refine (show SF (·∈own) w w30 rb sl st wd fs f ([.g b3]++[.row ty_regex_Regex 4 ⟨some (at0 w16.heap.size),1,1⟩ z4]) ts from H30).csS (bs:=[b3]) h3 h4 (fun own1 s1=>c_endExpr s1 hs6) ?_ (by simp)
   rintro r w17 sl3 fs3 f3 p3 st3 wd3 ts3 t3 h33 h43 b3' ⟨hf0,he1,he2,rfl,rfl,u,hu,rfl,hx⟩ H17
   have ear:f3.ar.1=f.ar.1:=by have:=congrArg (fun x:FX=>x.ar.1) he2;exact this
   refine ⟨u.k,u.lo.toNat,u.hi.toNat,u.s,rfl,?_⟩
   rw [←hf0,←ear]
   refine ⟨H17.ldF 1 rfl h43 1,?_⟩
   have hb1:(f3.col 1).2.length≤1000000:=by
    have e:f3.x.ar.2.length=f3.ar.2.length:=(fx_len f3).1
    rw [he2] at e
    have:f.x.ar.2.length≤999999:=hs.ar
    show f3.ar.2.length≤_
    rw [←e];show f.x.ar.2.length≤_;omega
   exact push_k (bs:=[b3]) (K:=fun w5=>regex_reader_feed.S1T (at0 rb) w5 (StP w own ts rb (FedQ t ⟨fs.map FM.x,f.x,st3,wd3⟩))) H17 4 rfl h43 1 (by omega) (by omega) u hb1 rfl (fun s' w5 H5=>fin H5 h33 h43 b3' t3 he1 he2 hu hx) (by simp)
 ·refine H2.locg (bs:=[b3]) (fun w43 H43=>⟨sl,H43.ld 0 0,?_⟩) (by simp)
  have H43:SF (·∈own) w w43 rb sl st wd fs f [.g b3] ts:=H43
  have hsn:=sf_n H43
  rcases nil_snoc fs with rfl|⟨fs0,g,rfl⟩
  ·refine sel_false (decide_eq_false (by rw [hsn];simp)) ?_
   refine sf_stp H43 h3 h4 base (fun _ h=>h) ⟨z,.inl ⟨?_,rfl⟩⟩
   rw [fe,if_neg k42,if_neg k38,if_neg k124,if_neg k44,if_pos hk]
   rfl
  ·refine sel_true (decide_eq_true (by rw [hsn];simp;omega)) (optP_some ⟨f.ar.1,H43.ldF 1 rfl h4 1,?_⟩)
   refine H43.csS (bs:=[b3]) h3 h4 (fun own1 s1=>c_endExpr s1 hs6) ?_ (by simp)
   rintro r w44 sl3 fs3 f3 p3 st3 wd3 ts3 t3 h33 h43 b3' ⟨hf0,he1,he2,rfl,rfl,u,hu,rfl,hx⟩ H44
   have ear:f3.ar.1=f.ar.1:=by have:=congrArg (fun x:FX=>x.ar.1) he2;exact this
   refine ⟨u.k,u.lo.toNat,u.hi.toNat,u.s,rfl,?_⟩
   rw [←hf0,←ear]
   refine ⟨H44.ldF 1 rfl h43 1,H44.nwrow (e:=ty_regex_Regex) (sz:=4) (n:=1) (cs:=u.c) rfl (by decide) fun w45 H45=>⟨H45.ldF 1 rfl h43 1,?_⟩⟩
   have hfs3:∃fs1 g1,fs3=fs1++[g1]∧fs1.map FM.x=fs0.map FM.x∧g1.x=g.x:=by
    rcases nil_snoc fs3 with rfl|⟨fs1,g1,rfl⟩
    ·simp at he1
    ·refine ⟨fs1,g1,rfl,?_⟩
     rw [List.map_append,List.map_append] at he1
     have:=List.append_inj' he1 rfl
     exact ⟨this.1,by simpa using this.2⟩
   obtain ⟨fs1,g1,rfl,hfs,hg1⟩:=hfs3
   have hrow:(((fs1++[g1])++[f3]).flatMap FM.rows)[(fs1++[g1]).length *4+0]? =some (f3.ar.1,f3.ar.2.flatMap Rt.c):=rows_get (fs1++[g1]) f3 0 _ rfl
   have hb1:f3.ar.2.length≤999999:=by
    have e:f3.x.ar.2.length=f3.ar.2.length:=(fx_len f3).1
    rw [he2] at e
    have:f.x.ar.2.length≤999999:=hs.ar
    rw [←e];exact this
   have nr:f3.ar.1.n=f3.ar.2.length:=by
    have hp:(En.rows (((fs1++[g1])++[f3]).flatMap FM.rows)).P w45:=H45.get 2
    exact Rt.rows_n (hp.1 _ (List.mem_of_getElem? hrow)).rdn
   refine H45.apRow (bs:=[b3]) 2 ((fs1++[g1]).length *4+0) (src:=⟨some (at0 w44.heap.size),1,1⟩) (news:=u.c) rfl hrow (OwnRow.rdn (H45.get 4)) (by simp [Value.oneCell',Rt.c]) (by show (f3.ar.1.n+1) *40≤_;omega) (fun s' w46 H46 hn' hnone=>?_) (by simp)
   have hjl:(fs1++[g1]).length *4+0<(((fs1++[g1])++[f3]).flatMap FM.rows).length:=by rw [rows_len];simp
   have hnew:∀b∈blkL s',b∈own∨w.heap.size≤b:=fun b hb=>(H46.new (.rows ((((fs1++[g1])++[f3]).flatMap FM.rows).set ((fs1++[g1]).length *4+0) (s',f3.ar.2.flatMap Rt.c++u.c))) (by simp) b (mem_nub.2 (List.mem_flatMap.2 ⟨_,List.mem_of_getElem? (List.getElem?_set_self hjl),hb⟩))).symm
   have H47:=H46.giveRow 2 ((fs1++[g1]).length *4+0) rfl (List.getElem?_set_self hjl)
   have ec:f3.ar.2.flatMap Rt.c++u.c=(f3.ar.2++[u]).flatMap Rt.c:=by simp
   rw [ec] at H47
   have H48:=H47.node 0 3 0 0 (s:=s') (ks:=f3.ar.2++[u]) rfl (List.mem_append_right _ (List.mem_singleton.2 rfl)) (fun v hv=>by
    rcases List.mem_append.1 hv with hv|hv
    ·exact h33 f3 (by simp) v (col_ts f3 1 hv)
    ·simp at hv;subst hv;exact hu)
   have er:(((((fs1++[g1])++[f3]).flatMap FM.rows).set ((fs1++[g1]).length *4+0) (s',(f3.ar.2++[u]).flatMap Rt.c)).set ((fs1++[g1]).length *4+0) (⟨none,0,0⟩,[]))=(fs1++[g1]).flatMap FM.rows++f3.rows.set 0 (⟨none,0,0⟩,[]):=by
    rw [List.set_set]
    exact rows_set (fs1++[g1]) f3 0 _ (by omega)
   have H49:LH (·∈own) w w46 (SL rb sl3 st3 wd3 (((fs1++[g1])++[f3]).flatMap FM.c) ((fs1++[g1]).flatMap FM.rows++f3.rows.set 0 (⟨none,0,0⟩,[]))++[.g b3]) [.trees (ts3++[.mk 3 0 0 s' (f3.ar.2++[u])])]:=by
    rw [←er]
    exact H48.take 4
   have H50:=rows_drop H49 2 rfl
   have hk3:f3.k=f.k:=by have:=congrArg FX.k he2;exact this
   refine close (s':=z) (.mk 3 0 0 s' (f3.ar.2++[u])) H50 (fun x hx v hv=>List.mem_append_left _ (h33 x (List.mem_append_left _ hx) v hv)) h43 ?_ (by simp) (.inr (by simp [Rt.l])) ?_ (fun v hv=>List.mem_append_left _ (t3 v hv)) ?_
   ·have:=congrArg List.length hfs
    simp at this hl'
    omega
   ·intro b hb
    obtain ⟨v,hv,hbv⟩:=Rt.fps_iff.1 hb
    rcases List.mem_append.1 hv with hv|hv
    ·exact b3' b (Rt.fps_iff.2 ⟨v,hv,hbv⟩)
    ·simp at hv
     rw [hv] at hbv
     rcases Rt.fp_parts.1 hbv with hbv|hbv
     ·exact .inr (hnew b (rdn_own (e:=ty_regex_Regex) hbv)).symm
     ·obtain ⟨t',ht',hb'⟩:=Rt.fps_iff.1 hbv
      have ht':t'∈f3.ar.2++[u]:=ht'
      refine b3' b (Rt.fps_iff.2 ⟨t',?_,hb'⟩)
      rcases List.mem_append.1 ht' with ht'|ht'
      ·exact h33 f3 (by simp) t' (col_ts f3 1 ht')
      ·simp at ht';subst ht';exact hu
   ·rw [fe,if_neg k42,if_neg k38,if_neg k124,if_neg k44,if_pos hk]
    refine (if_neg (by simp)).trans ?_
    rw [List.map_append]
    refine (closeX_snoc _ _ _ _ _ _).trans ?_
    have e2:Rt.rxs f3.ar.2=f.x.ar.2:=by have:=congrArg (fun x:FX=>x.ar.2) he2;exact this
    rw [hfs,hg1,hk3]
    show _=some (SX.mk _ (atomX g.x (clR f.k (Rt.rxs (f3.ar.2++[u])))) 3 wd3)
    rw [rxs_app,e2]
    show _=some (SX.mk _ (atomX g.x (clR f.k (f.x.ar.2++[u.rx]))) 3 wd3)
    rw [hx]
    rfl
 ·refine ⟨sl,H2.ld 0 0,?_⟩
  have hsn:=sf_n H2
  rcases nil_snoc fs with rfl|⟨fs0,g,rfl⟩
  ·have e:(((sl.n:Nat):Int)==1)=true:=by rw [hsn];rfl
   rw [e]
   refine sf_stp H2 h3 h4 base (fun _ h=>h) ⟨z,.inr ⟨?_,rfl⟩⟩
   rw [fe,if_neg k42,if_neg k38,if_neg k124,if_neg k44,if_neg k41,if_pos hk]
   rfl
  ·have e:(((sl.n:Nat):Int)==1)=false:=by rw [hsn];simp;omega
   rw [e]
   refine sf_stp H2 h3 h4 base (fun _ h=>h) ⟨z,.inl ⟨?_,rfl⟩⟩
   rw [fe,if_neg k42,if_neg k38,if_neg k124,if_neg k44,if_neg k41,if_pos hk]
   exact if_neg (by simp)
 ·refine H2.csS (bs:=[b3]) h3 h4 (fun own1 s1=>as_stp (c_endItem s1 hs6.n' hs6.ca)) ?_ (by simp)
  rintro _ w3 sl3 fs3 f3 p3 st3 wd3 ts3 t3 h33 h43 b3' ⟨rfl,he0,he1,he2,rfl,rfl⟩ H3
  refine ⟨rfl,item H3 h33 h43 b3' t3 ?_ ?_ ?_⟩
  ·have:=congrArg List.length he1
   simp at this
   omega
  ·have e5:f3.n=0:=by have:=congrArg FX.n he2;exact this
   omega
  ·rw [fe,if_neg k42,if_neg k38,if_neg k124,if_neg k44,if_neg k41,if_neg k36,he1,he2]
end Go.Proofs.YtcifihepfadgfaaGreatDoor
namespace Go.Proofs.YtcifihepfadgfaaGreatDoor
open Go Go.W
set_option maxRecDepth 100000
theorem s_indexByteString (s:ByteArray) (c:UInt8) (w:World):Sem.run Tryz.prog (callFunc n_internal_bytealg_IndexByteString #[.string s,.int .u8 (c.toNat:Int)]) w=.ok (.value (.int .i64 (Go.Lib.indexByte (bl s) c))) w:=by
 have h:=run_callFunc_indexByte (P:=Tryz.prog) (f:=n_internal_bytealg_IndexByteString) (fn:=(Tryz.prog.funcs[n_internal_bytealg_IndexByteString]?).getD default) (by kernel_rfl) (by kernel_rfl) (by kernel_rfl) (by kernel_rfl) (by kernel_rfl) #[.string s,.int .u8 (c.toNat:Int)] w
 rw [h,Go.Lib.run_indexByteString]
 show Result.ok _ w=_
 congr 4
 simp
theorem s_indexByte (s:ByteArray) (c:UInt8) (w:World):Calls Tryz.prog n_strings_IndexByte #[.string s,.int .u8 (c.toNat:Int)] w fun r w'=>r=.returned (.int .i64 (Go.Lib.indexByte (bl s) c))∧Fr0 w w':=by
 refine strings_IndexByte.ok _ _ w _ ?_
 refine (show Calls Tryz.prog n_internal_stringslite_IndexByte #[.string s,.int .u8 (c.toNat:Int)] w fun r w'=>r=.returned (.int .i64 (Go.Lib.indexByte (bl s) c))∧w=w' from ?_).mono ?_
 ·exact internal_stringslite_IndexByte.ok _ _ w _ ⟨_,w,s_indexByteString s c w,rfl,rfl⟩
 ·rintro r w1 ⟨rfl,rfl⟩
  exact ⟨_,rfl,rfl,Fr.refl _ _⟩
def smallB (c:UInt8):Bool:=decide (97≤c.toNat)&&decide (c.toNat≤122)
def plainB (c:UInt8):Bool:=decide (32≤c.toNat)&&(decide (c.toNat≤126)&&(!decide (c=39)&&!decide (c=92)))
theorem c_small (c:UInt8) (w:World):Calls Tryz.prog n_regex_small #[.int .u8 (c.toNat:Int)] w fun r w'=>r=.returned (.bool (smallB c))∧Fr0 w w':=by
 refine regex_small.ok _ w _ (sel_dec (fun h=>⟨?_,Fr.refl _ _⟩) (fun h=>⟨?_,Fr.refl _ _⟩))
 ·unfold smallB
  rw [decide_eq_true (show 97≤c.toNat by omega),Bool.true_and]
  rw [show decide ((c.toNat:Int)≤122)=decide (c.toNat≤122) from decide_eq_decide.2 (by omega)]
 ·unfold smallB
  rw [decide_eq_false (show ¬97≤c.toNat by omega),Bool.false_and]
theorem u8_beq (c:UInt8) (n:Nat) (hn:n<256):(((c.toNat:Nat):Int)==(n:Int))=decide (c=UInt8.ofNat n):=by
 have e:c.toNat=n↔c=UInt8.ofNat n:=by
  rw [←UInt8.toNat_inj,UInt8.toNat_ofNat']
  omega
 rw [Bool.eq_iff_iff,beq_iff_eq,decide_eq_true_iff,←e]
 omega
theorem c_plain (c:UInt8) (w:World):Calls Tryz.prog n_regex_plain #[.int .u8 (c.toNat:Int)] w fun r w'=>r=.returned (.bool (plainB c))∧Fr0 w w':=by
 have e39:(((c.toNat:Nat):Int) !=39)= !decide (c=39):=by
  have:=u8_beq c 39 (by omega)
  show (!(((c.toNat:Nat):Int)==((39:Nat):Int)))=_
  rw [this];rfl
 have e92:(((c.toNat:Nat):Int) !=92)= !decide (c=92):=by
  have:=u8_beq c 92 (by omega)
  show (!(((c.toNat:Nat):Int)==((92:Nat):Int)))=_
  rw [this];rfl
 refine regex_plain.ok _ w _ ?_
 rw [e39,e92]
 unfold plainB
 refine sel_dec (fun h=>?_) (fun h=>⟨?_,Fr.refl _ _⟩)
 ·rw [decide_eq_true (show 32≤c.toNat by omega),Bool.true_and]
  refine sel_dec (fun h2=>?_) (fun h2=>⟨?_,Fr.refl _ _⟩)
  ·rw [decide_eq_true (show c.toNat≤126 by omega),Bool.true_and]
   refine sel_intro (fun h3=>⟨?_,Fr.refl _ _⟩) (fun h3=>⟨?_,Fr.refl _ _⟩)
   ·rw [h3,Bool.true_and]
   ·rw [h3,Bool.false_and]
  ·rw [decide_eq_false (show ¬c.toNat≤126 by omega),Bool.false_and]
 ·rw [decide_eq_false (show ¬32≤c.toNat by omega),Bool.false_and]
theorem bl_get {s:ByteArray} {l:List UInt8} (h:bl s=l) (i:Nat):s[i]? =l[i]?:=by
 subst h
 by_cases hi:i<s.size
 ·rw [getElem?_pos s i hi,List.getElem?_eq_getElem (by rw [bl_len];exact hi)];rfl
 ·rw [getElem?_neg s i hi,List.getElem?_eq_none (by rw [bl_len];omega)]
theorem s_at {s:ByteArray} {i:Nat} (h:i<s.size):s[i]? =some ((bl s).getD i 0):=by
 rw [bl_get (s:=s) (l:=bl s) rfl i]
 have hl:i<(bl s).length:=by rw [bl_len];exact h
 rw [List.getD_eq_getElem?_getD,List.getElem?_eq_getElem hl]
 rfl
def hexs:List UInt8:=[48,49,50,51,52,53,54,55,56,57,97,98,99,100,101,102]
def hexB (a b:Int):UInt8:=UInt8.ofNat (IntKind.wrap .u8 (bOr .i64 (IntKind.wrap .i64 (a *2^4)) b)).toNat
def byteX (l:List UInt8) (i:Nat):Option (UInt8×Nat):=
 if i+2<l.length∧l.getD i 0=39∧plainB (l.getD (i+1) 0)=true∧l.getD (i+2) 0=39 then some (l.getD (i+1) 0,3)
 else if i+3<l.length∧l.getD i 0=92∧l.getD (i+1) 0=120∧0≤Go.Lib.indexByte hexs (l.getD (i+2) 0)∧0≤Go.Lib.indexByte hexs (l.getD (i+3) 0) then some (hexB (Go.Lib.indexByte hexs (l.getD (i+2) 0)) (Go.Lib.indexByte hexs (l.getD (i+3) 0)),4)
 else none
def byteV:Option (UInt8×Nat)→Value
 |none=>.tuple #[.int .u8 0,.int .i64 0,.bool false]
 |some (b,n)=>.tuple #[.int .u8 (b.toNat:Int),.int .i64 (n:Int),.bool true]
theorem u8_seln {x:UInt8} {n:Nat} {A B:Prop} (hn:n<256) (h1:x=UInt8.ofNat n→A) (h2:x≠UInt8.ofNat n→B):sel (((x.toNat:Nat):Int)==(n:Int)) A B:=u8_sel hn h1 h2
theorem wrap_u8_back (x:Int):((UInt8.ofNat (IntKind.wrap .u8 x).toNat).toNat:Int)=IntKind.wrap .u8 x:=by
 rw [UInt8.toNat_ofNat',IntKind.wrap_u8]
 omega
theorem c_byteAt (s:ByteArray) (i:Nat) (hi:i≤1000000) (w:World):Calls Tryz.prog n_regex_byteAt #[.string s,.int .i64 (i:Int)] w fun r w'=>r=.returned (byteV (byteX (bl s) i))∧Fr0 w w':=by
 have e1:IntKind.wrap .i64 ((i:Int)+1)=((i+1:Nat):Int):=by rw [IntWalk.i64_in _ (by omega)];omega
 have e2:IntKind.wrap .i64 ((i:Int)+2)=((i+2:Nat):Int):=by rw [IntWalk.i64_in _ (by omega)];omega
 have e3:IntKind.wrap .i64 ((i:Int)+3)=((i+3:Nat):Int):=by rw [IntWalk.i64_in _ (by omega)];omega
 have hl:(bl s).length=s.size:=bl_len s
 have hex:¬(i+2<(bl s).length∧(bl s).getD i 0=39∧plainB ((bl s).getD (i+1) 0)=true∧(bl s).getD (i+2) 0=39)→∀w',Fr0 w w'→regex_byteAt.S0 s i w' (fun r w'=>r=.returned (byteV (byteX (bl s) i))∧Fr0 w w'):=by
  intro hq w' hf
  have no:¬(i+3<(bl s).length∧(bl s).getD i 0=92∧(bl s).getD (i+1) 0=120∧0≤Go.Lib.indexByte hexs ((bl s).getD (i+2) 0)∧0≤Go.Lib.indexByte hexs ((bl s).getD (i+3) 0))→∀w',Fr0 w w'→regex_byteAt.S1 w' (fun r w'=>r=.returned (byteV (byteX (bl s) i))∧Fr0 w w'):=fun hn w' hf=>by
   refine ⟨?_,hf⟩
   unfold byteX
   rw [if_neg hq,if_neg hn]
   rfl
  show sel _ _ _
  rw [e3,e2,e1]
  refine sel_dec (fun h3=>⟨by omega,_,s_at (i:=i) (by omega),u8_seln (n:=92) (by omega) (fun hc=>⟨by omega,_,s_at (i:=i+1) (by omega),u8_seln (n:=120) (by omega) (fun hx=>?_) (fun hx=>no (fun h=>hx h.2.2.1) w' hf)⟩) (fun hc=>no (fun h=>hc h.2.1) w' hf)⟩) (fun h3=>no (fun h=>by omega) w' hf)
  refine (show LH F0 w w' [] [] from ((LH.start (M:=F0) (w:=w) [] (by simp)).fr0 hf)).dr fun w1 H1=>⟨by omega,_,s_at (i:=i+2) (by omega),by omega,_,s_at (i:=i+3) (by omega),H1.call (s_indexByte _ _ _) ?_⟩
  rintro _ w2 rfl H2
  refine ⟨_,rfl,H2.call (s_indexByte _ _ _) ?_⟩
  rintro _ w3 rfl H3
  refine ⟨_,rfl,?_⟩
  show sel (decide (Go.Lib.indexByte hexs _≥0)) (sel (decide (Go.Lib.indexByte hexs _≥0)) _ _) _
  refine sel_dec (fun ha=>sel_dec (fun hb=>⟨?_,H3.fr⟩) (fun hb=>no (fun h=>hb h.2.2.2.2) w3 H3.fr)) (fun ha=>no (fun h=>ha h.2.2.2.1) w3 H3.fr)
  unfold byteX
  rw [if_neg hq,if_pos ⟨by omega,hc,hx,ha,hb⟩]
  exact congrArg (fun x=>Ending.returned (.tuple #[.int .u8 x,.int .i64 4,.bool true])) (wrap_u8_back _).symm
 refine regex_byteAt.ok _ _ w _ ?_
 rw [e2,e1]
 refine sel_dec (fun h2=>⟨by omega,_,s_at (i:=i) (by omega),u8_seln (n:=39) (by omega) (fun hc=>⟨by omega,_,s_at (i:=i+1) (by omega),(c_plain _ w).mono ?_⟩) (fun hc=>hex (fun h=>hc h.2.1) w (Fr.refl _ _))⟩) (fun h2=>hex (fun h=>by omega) w (Fr.refl _ _))
 rintro _ w1 ⟨rfl,f1⟩
 refine ⟨_,rfl,sel_intro (fun hp=>⟨by omega,_,s_at (i:=i+2) (by omega),u8_seln (n:=39) (by omega) (fun hd=>⟨by omega,_,s_at (i:=i+1) (by omega),?_,f1⟩) (fun hd=>hex (fun h=>hd h.2.2.2) w1 f1)⟩) (fun hp=>hex (fun h=>by rw [h.2.2.1] at hp;cases hp) w1 f1)⟩
 unfold byteX
 rw [if_pos ⟨by omega,hc,hp,hd⟩]
 rfl
end Go.Proofs.YtcifihepfadgfaaGreatDoor
namespace Go.Proofs.YtcifihepfadgfaaGreatDoor
open Go Go.W
def sing:List UInt8:=[40,41,44,124,38,33,42]
def tokX (l:List UInt8) (i:Nat):Tk×Nat:=
 if 0≤Go.Lib.indexByte sing (l.getD i 0) then (⟨l.getD i 0,0,0,[],i⟩,1)
 else if smallB (l.getD i 0)=true then (⟨119,0,0,(l.drop i).takeWhile smallB,i⟩,((l.drop i).takeWhile smallB).length)
 else if l.getD i 0=91 then
  match byteX l (i+1) with
  |none=>(⟨63,0,0,[],i⟩,1)
  |some (lo,m)=>
   if i+1+m<l.length∧l.getD (i+1+m) 0=45 then
    match byteX l (i+1+m+1) with
    |none=>(⟨63,0,0,[],i⟩,1)
    |some (hi,m2)=>if i+1+m+(1+m2)<l.length∧l.getD (i+1+m+(1+m2)) 0=93∧lo.toNat≤hi.toNat then (⟨114,lo,hi,[],i⟩,1+m+(1+m2)+1) else (⟨63,0,0,[],i⟩,1)
   else (⟨63,0,0,[],i⟩,1)
 else match byteX l i with
  |some (b,n)=>(⟨114,b,b,[],i⟩,n)
  |none=>(⟨63,0,0,[],i⟩,1)
def tokV (x:Tk×Nat):Value:=.tuple #[x.1.v,.int .i64 (x.2:Int)]
theorem byteX_len {l:List UInt8} {i:Nat} {b:UInt8} {n:Nat} (h:byteX l i=some (b,n)):(n=3∨n=4)∧i+n≤l.length:=by
 unfold byteX at h
 split at h
 ·cases h;rename_i hc;omega
 ·split at h
  ·cases h;rename_i hc;omega
  ·cases h
theorem takeWhile_all:∀(l:List UInt8) (m:Nat) (p:UInt8→Bool),m≤l.length→(∀k<m,p (l.getD k 0)=true)→(m<l.length→p (l.getD m 0)=false)→(l.takeWhile p)=l.take m
 |[],m,p,hm,_,_=>by simp
 |c::l,0,p,hm,_,hs=>by
  have:p c=false:=hs (by simp)
  simp [this]
 |c::l,m+1,p,hm,ha,hs=>by
  have hc:p c=true:=ha 0 (by omega)
  rw [List.takeWhile_cons,if_pos hc,List.take_succ_cons,takeWhile_all l m p (by simpa using hm) (fun k hk=>by simpa using ha (k+1) (by omega)) (fun h=>by simpa using hs (by simpa using h))]
theorem getD_drop (l:List UInt8) (i k:Nat):(l.drop i).getD k 0=l.getD (i+k) 0:=by
 rw [List.getD_eq_getElem?_getD,List.getD_eq_getElem?_getD,List.getElem?_drop]
theorem c_tokenAt (s:ByteArray) (hs:s.size≤900000) (i:Nat) (hi:i<s.size) (w:World):Calls Tryz.prog n_regex_tokenAt #[.string s,.int .i64 (i:Int)] w fun r w'=>r=.returned (tokV (tokX (bl s) i))∧Fr0 w w':=by
 have hl:(bl s).length=s.size:=bl_len s
 refine regex_tokenAt.okT _ _ w _ ((lh0 [] (fun _ h=>by cases h)).newg (bs:=[]) (fun b4 w1 H1=>⟨by omega,_,s_at (i:=i) hi,?_⟩) (by simp))
 have H1:LH F0 w w1 [.g b4] []:=H1
 have bad:∀w',LH F0 w w' [.g b4] []→tokX (bl s) i=(⟨63,0,0,[],i⟩,1)→∀(a0 a1 a2:Int) (a3:ByteArray) (a4:Int),regex_tokenAt.S4T (i:Int) b4 a0 a1 a2 a3 a4 w' fun r w'=>r=.returned (tokV (tokX (bl s) i))∧Fr0 w w':=fun w' H' he _ _ _ _ _=>H'.locg (bs:=[b4]) (fun w3 H3=>⟨by rw [he];rfl,H3.fr⟩) (by simp)
 refine H1.callg (s_indexByte _ _ _) ?_
 rintro _ w2 rfl H2
 refine ⟨_,rfl,?_⟩
 show sel (decide (Go.Lib.indexByte sing _≥0)) _ _
 refine sel_dec (fun h0=>H2.locg (bs:=[b4]) (fun w3 H3=>⟨?_,H3.fr⟩) (by simp)) (fun h0=>H2.callg (c_small _ _) ?_)
 ·unfold tokX
  rw [if_pos h0]
  rfl
 rintro _ w3 rfl H3
 refine ⟨_,rfl,sel_intro (fun hsm=>?_) (fun hsm=>u8_sel (n:=91) (by omega) (fun h91:(bl s).getD i 0=91=>?_) (fun h91:(bl s).getD i 0≠91=>?_))⟩
 ·
  have loop:∀(n j:Nat) (w':World),s.size - j<n→i≤j→j≤s.size→(∀k,i≤k→k<j→smallB ((bl s).getD k 0)=true)→LH F0 w w' [.g b4] []→∀(a0 a1 a2:Int) (a3:ByteArray) (a4:Int),regex_tokenAt.L1T s (i:Int) b4 a0 a1 a2 a3 a4 (j:Int) w' fun r w'=>r=.returned (tokV (tokX (bl s) i))∧Fr0 w w':=by
   intro n
   induction n with
   |zero=>intro j w' h;omega
   |succ n ih=>
    intro j w' hn hij hj hall H a0 a1 a2 a3 a4
    have done:(j<s.size→smallB ((bl s).getD j 0)=false)→∀w',LH F0 w w' [.g b4] []→regex_tokenAt.S2T s (i:Int) b4 a0 a1 a2 a3 a4 (j:Int) w' fun r w'=>r=.returned (tokV (tokX (bl s) i))∧Fr0 w w':=fun hst w' H'=>by
     refine ⟨by omega,by omega,by omega,by omega,H'.locg (bs:=[b4]) (fun w5 H5=>⟨?_,H5.fr⟩) (by simp)⟩
     have etw:((bl s).drop i).takeWhile smallB=((bl s).drop i).take (j - i):=by
      refine takeWhile_all _ _ _ (by rw [List.length_drop];omega) (fun k hk=>?_) (fun h=>?_)
      ·rw [getD_drop];exact hall _ (by omega) (by omega)
      ·rw [getD_drop,show i+(j - i)=j by omega]
       refine hst ?_
       rw [List.length_drop] at h
       omega
     have elen:(((bl s).drop i).take (j - i)).length=j - i:=by rw [List.length_take,List.length_drop];omega
     have eext:s.extract (Int.toNat (i:Int)) (Int.toNat (j:Int))=ba (((bl s).drop i).take (j - i)):=by
      have:bl (s.extract i j)=((bl s).drop i).take (j - i):=by
       unfold bl
       rw [ByteArray.data_extract,Array.toList_extract,List.extract_eq_take_drop]
      rw [Int.toNat_natCast,Int.toNat_natCast,←this,ba_bl]
     have ew:IntKind.wrap .i64 ((j:Int) - (i:Int))=((j - i:Nat):Int):=by rw [IntWalk.i64_in _ (by omega)];omega
     rw [eext,ew]
     unfold tokX
     rw [if_neg h0,if_pos hsm,etw,elen]
     rfl
    refine regex_tokenAt.L1T_step _ _ _ _ _ _ _ _ _ _ _ (sel_dec (fun h=>⟨by omega,_,s_at (i:=j) (by omega),H.callg (c_small _ _) ?_⟩) (fun h=>done (fun h'=>by omega) w' H))
    rintro _ w5 rfl H5
    refine ⟨_,rfl,sel_intro (fun hb=>?_) (fun hb=>done (fun _=>hb) w5 H5)⟩
    rw [show IntKind.wrap .i64 ((j:Int)+1)=((j+1:Nat):Int) by rw [IntWalk.i64_in _ (by omega)];omega]
    refine ih (j+1) w5 (by omega) (by omega) (by omega) (fun k h1 h2=>?_) H5 _ _ _ _ _
    by_cases hk:k=j
    ·subst hk;exact hb
    ·exact hall k h1 (by omega)
  exact loop (s.size+1) i w3 (by omega) (Nat.le_refl _) (by omega) (fun k h1 h2=>by omega) H3 _ _ _ _ _
 ·have hnsm:¬smallB ((bl s).getD i 0)=true:=by rw [hsm];simp
  rw [show IntKind.wrap .i64 ((i:Int)+1)=((i+1:Nat):Int) by rw [IntWalk.i64_in _ (by omega)];omega]
  refine H3.callg (c_byteAt s (i+1) (by omega) _) ?_
  rintro _ w4 rfl H4
  cases hb:byteX (bl s) (i+1) with
  |none=>
   refine ⟨0,0,false,rfl,sel_true rfl (bad w4 H4 ?_ _ _ _ _ _)⟩
   unfold tokX
   rw [if_neg h0,if_neg hnsm,if_pos h91,hb]
  |some q=>
   obtain ⟨lo,m⟩:=q
   obtain ⟨hm,hml⟩:=byteX_len hb
   refine ⟨lo.toNat,m,true,rfl,?_⟩
   try dsimp only
   rw [show IntKind.wrap .i64 (((i+1:Nat):Int)+(m:Int))=((i+1+m:Nat):Int) by rw [IntWalk.i64_in _ (by omega)];omega]
   have no1:¬(i+1+m<(bl s).length∧(bl s).getD (i+1+m) 0=45)→tokX (bl s) i=(⟨63,0,0,[],i⟩,1):=fun h=>by
    unfold tokX
    rw [if_neg h0,if_neg hnsm,if_pos h91,hb]
    exact if_neg h
   refine sel_false rfl (sel_dec (fun h=>bad w4 H4 (no1 (fun h'=>by omega)) _ _ _ _ _) (fun h=>⟨by omega,_,s_at (i:=i+1+m) (by omega),?_⟩))
   refine sel_intro (fun hne=>bad w4 H4 (no1 (fun h'=>?_)) _ _ _ _ _) (fun heq=>?_)
   ·rw [h'.2] at hne;exact absurd hne (by decide)
   have h45:(bl s).getD (i+1+m) 0=45:=by
    have e:(((bl s).getD (i+1+m) 0).toNat:Int)=45:=by simpa using heq
    have:((bl s).getD (i+1+m) 0).toNat=(45:UInt8).toNat:=by show _=45;omega
    exact UInt8.toNat_inj.1 this
   rw [show IntKind.wrap .i64 (((i+1+m:Nat):Int)+1)=((i+1+m+1:Nat):Int) by rw [IntWalk.i64_in _ (by omega)];omega]
   refine H4.callg (c_byteAt s (i+1+m+1) (by omega) _) ?_
   rintro _ w5 rfl H5
   cases hb2:byteX (bl s) (i+1+m+1) with
   |none=>
    refine ⟨0,0,false,rfl,sel_true rfl (bad w5 H5 ?_ _ _ _ _ _)⟩
    unfold tokX
    rw [if_neg h0,if_neg hnsm,if_pos h91,hb]
    refine (if_pos ⟨by omega,h45⟩).trans ?_
    rw [hb2]
   |some q=>
    obtain ⟨hi2,m2⟩:=q
    obtain ⟨hm2,hml2⟩:=byteX_len hb2
    refine ⟨hi2.toNat,m2,true,rfl,?_⟩
    try dsimp only
    rw [show IntKind.wrap .i64 (((i+1+m:Nat):Int)+IntKind.wrap .i64 (1+(m2:Int)))=((i+1+m+(1+m2):Nat):Int) by rw [IntWalk.i64_in (1+(m2:Int)) (by omega),IntWalk.i64_in _ (by omega)];omega]
    have e2:tokX (bl s) i=if i+1+m+(1+m2)<(bl s).length∧(bl s).getD (i+1+m+(1+m2)) 0=93∧lo.toNat≤hi2.toNat then (⟨114,lo,hi2,[],i⟩,1+m+(1+m2)+1) else (⟨63,0,0,[],i⟩,1):=by
     unfold tokX
     rw [if_neg h0,if_neg hnsm,if_pos h91,hb]
     refine (if_pos ⟨by omega,h45⟩).trans ?_
     rw [hb2]
    refine sel_false rfl (sel_dec (fun h=>bad w5 H5 (e2.trans (if_neg fun h'=>by omega)) _ _ _ _ _) (fun h=>⟨by omega,_,s_at (i:=i+1+m+(1+m2)) (by omega),?_⟩))
    refine sel_intro (fun hne=>bad w5 H5 (e2.trans (if_neg fun h'=>?_)) _ _ _ _ _) (fun heq2=>?_)
    ·rw [h'.2.1] at hne;exact absurd hne (by decide)
    have h93:(bl s).getD (i+1+m+(1+m2)) 0=93:=by
     have e:(((bl s).getD (i+1+m+(1+m2)) 0).toNat:Int)=93:=by simpa using heq2
     have:((bl s).getD (i+1+m+(1+m2)) 0).toNat=(93:UInt8).toNat:=by show _=93;omega
     exact UInt8.toNat_inj.1 this
    refine sel_dec (fun hlh=>bad w5 H5 (e2.trans (if_neg fun h'=>by omega)) _ _ _ _ _) (fun hlh=>H5.locg (bs:=[b4]) (fun w6 H6=>⟨?_,H6.fr⟩) (by simp))
    rw [e2,if_pos ⟨by omega,h93,by omega⟩]
    rw [show IntKind.wrap .i64 (IntKind.wrap .i64 (((i+1+m+(1+m2):Nat):Int)+1) - (i:Int))=((1+m+(1+m2)+1:Nat):Int) by rw [IntWalk.i64_in (((i+1+m+(1+m2):Nat):Int)+1) (by omega),IntWalk.i64_in _ (by omega)];omega]
    rfl
 ·have hnsm:¬smallB ((bl s).getD i 0)=true:=by rw [hsm];simp
  refine H3.callg (c_byteAt s i (by omega) _) ?_
  rintro _ w4 rfl H4
  cases hb:byteX (bl s) i with
  |none=>
   refine ⟨0,0,false,rfl,sel_false rfl (bad w4 H4 ?_ _ _ _ _ _)⟩
   unfold tokX
   rw [if_neg h0,if_neg hnsm,if_neg h91,hb]
  |some q=>
   obtain ⟨b,n⟩:=q
   refine ⟨b.toNat,n,true,rfl,sel_true rfl (H4.locg (bs:=[b4]) (fun w5 H5=>⟨?_,H5.fr⟩) (by simp))⟩
   unfold tokX
   rw [if_neg h0,if_neg hnsm,if_neg h91,hb]
   rfl
end Go.Proofs.YtcifihepfadgfaaGreatDoor
namespace Go.Proofs.YtcifihepfadgfaaGreatDoor
open Go Go.W
structure Inv (S:SX) (m:Nat):Prop where
 lo:S.lo.length≤m
 sl:∀f∈S.lo,Small f m
 tp:Small S.tp m
 s1:S.st=1→0≤S.tp.k∧S.lo≠[]
 s2:S.st=2→0≤S.wd
theorem Small.mono {f:FX} {m n:Nat} (h:Small f m) (hm:m≤n):Small f n:=⟨Nat.le_trans h.n' hm,Nat.le_trans h.ar hm,Nat.le_trans h.al hm,Nat.le_trans h.an hm,Nat.le_trans h.ca hm⟩
theorem small_new (k:Int) (m:Nat):Small (newFX k) m:=⟨Nat.zero_le _,Nat.zero_le _,Nat.zero_le _,Nat.zero_le _,Nat.zero_le _⟩
theorem small_atom {f:FX} {m:Nat} (h:Small f m) (x:Rx):Small (atomX f x) m:=⟨h.n',h.ar,h.al,h.an,h.ca⟩
theorem item_inv {t:Tk} {S S':SX} {m:Nat} (h1:S.lo.length≤m) (h2:∀f∈S.lo,Small f (m+1)) (h3:Small S.tp (m+1)) (h4:S.tp.n≤m) (h:itemX t S=some S'):Inv S' (m+1):=by
 have sn:∀f∈S.lo++[S.tp],Small f (m+1):=fun f hf=>by
  rcases List.mem_append.1 hf with hf|hf
  ·exact h2 f hf
  ·simp at hf;subst hf;exact h3
 unfold itemX at h
 split at h
 ·cases h
  exact ⟨by show S.lo.length≤_;omega,h2,⟨by show S.tp.n+1≤_;omega,h3.ar,h3.al,h3.an,h3.ca⟩,fun e=>(by simp at e),fun e=>(by simp at e)⟩
 ·split at h
  ·cases h
   exact ⟨by simp;omega,sn,small_new _ _,fun e=>(by simp at e),fun e=>(by simp at e)⟩
  ·split at h
   ·cases h
    exact ⟨by show S.lo.length≤_;omega,h2,small_atom h3 _,fun e=>(by simp at e),fun e=>(by simp at e)⟩
   ·split at h
    ·split at h
     ·cases h
      exact ⟨by show S.lo.length≤_;omega,h2,small_atom h3 _,fun e=>(by simp at e),fun e=>(by simp at e)⟩
     ·split at h
      ·cases h
       exact ⟨by show S.lo.length≤_;omega,h2,small_atom h3 _,fun e=>(by simp at e),fun e=>(by simp at e)⟩
      ·split at h
       ·cases h
        exact ⟨by show S.lo.length≤_;omega,h2,h3,fun e=>(by simp at e),fun _=>by show (0:Int)≤4;decide⟩
       ·split at h
        ·cases h
         exact ⟨by show S.lo.length≤_;omega,h2,h3,fun e=>(by simp at e),fun _=>by show (0:Int)≤5;decide⟩
        ·split at h
         ·cases h
          exact ⟨by show S.lo.length≤_;omega,h2,h3,fun e=>(by simp at e),fun _=>by show (0:Int)≤3;decide⟩
         ·cases h
    ·cases h
theorem close_inv {S S':SX} {l:List Rx} {m:Nat} (hS:Inv S m) (h:closeX S l=some S'):Inv S' (m+1):=by
 unfold closeX at h
 rcases nil_snoc S.lo with e|⟨a,g,e⟩
 ·rw [e] at h;simp at h
 ·rw [e] at h
  simp at h
  subst h
  have hl:=hS.lo
  rw [e] at hl
  simp at hl
  exact ⟨by show a.length≤_;omega,fun f hf=>(hS.sl f (by rw [e];simp [hf])).mono (by omega),small_atom ((hS.sl g (by rw [e];simp)).mono (by omega)) _,fun e=>(by simp at e),fun e=>(by simp at e)⟩
theorem feed_inv {s':Sl} {t:Tk} {S S':SX} {m:Nat} (hS:Inv S m) (h:feedX s' t S=some S'):Inv S' (m+1):=by
 have hlo:=hS.lo
 have hsl:∀f∈S.lo,Small f (m+1):=fun f hf=>(hS.sl f hf).mono (by omega)
 have htp:Small S.tp (m+1):=hS.tp.mono (by omega)
 have hn:=hS.tp.n'
 unfold feedX at h
 split at h
 ·rename_i h2
  split at h
  ·cases h
   refine ⟨by simp;omega,fun f hf=>?_,small_new _ _,fun _=>⟨hS.s2 h2,by simp⟩,fun e=>(by simp at e)⟩
   rcases List.mem_append.1 hf with hf|hf
   ·exact hsl f hf
   ·simp at hf;subst hf;exact htp
  ·cases h
 ·rename_i h2
  split at h
  ·split at h
   ·exact close_inv hS h
   ·exact item_inv hlo hsl htp hn h
  ·rename_i h1
   split at h
   ·exact item_inv hlo hsl htp hn h
   ·split at h
    ·cases h
     exact ⟨by show S.lo.length≤_;omega,hsl,small_atom htp _,fun e=>absurd e h1,fun e=>absurd e h2⟩
    ·split at h
     ·cases h
      refine ⟨by show S.lo.length≤_;omega,hsl,⟨Nat.zero_le _,htp.ar,htp.al,?_,Nat.zero_le _⟩,fun e=>(by simp at e),fun e=>(by simp at e)⟩
      have:=hS.tp.an
      show (S.tp.an++[_]).length≤_
      simp;omega
     ·split at h
      ·cases h
       refine ⟨by show S.lo.length≤_;omega,hsl,⟨Nat.zero_le _,htp.ar,?_,Nat.zero_le _,Nat.zero_le _⟩,fun e=>(by simp at e),fun e=>(by simp at e)⟩
       have:=hS.tp.al
       show (S.tp.al++[_]).length≤_
       simp;omega
      ·split at h
       ·split at h
        ·cases h
        ·cases h
         refine ⟨by show S.lo.length≤_;omega,hsl,⟨Nat.zero_le _,?_,Nat.zero_le _,Nat.zero_le _,Nat.zero_le _⟩,fun e=>(by simp at e),fun e=>(by simp at e)⟩
         have:=hS.tp.ar
         show (S.tp.ar.2++[_]).length≤_
         simp;omega
       ·split at h
        ·split at h
         ·cases h
         ·exact close_inv hS h
        ·split at h
         ·split at h
          ·cases h
           exact ⟨by omega,hsl,htp,hS.s1,hS.s2⟩
          ·cases h
         ·refine item_inv (S:=⟨S.lo,endItemX S.tp,S.st,S.wd⟩) hlo hsl ⟨Nat.zero_le _,htp.ar,htp.al,htp.an,?_⟩ (Nat.zero_le _) h
          have:=hS.tp.ca
          show (S.tp.ca++[_]).length≤_
          simp;omega
theorem feed_bad {s':Sl} {t:Tk} {S:SX} (h:t.k=63):feedX s' t S=none:=by
 have it:∀S,itemX t S=none:=fun S=>by
  unfold itemX
  rw [h]
  rfl
 unfold feedX
 rw [it,it,h]
 split
 ·rfl
 ·split
  ·rfl
  ·split
   ·rfl
   ·rfl
def toksX (l:List UInt8):Nat→Nat→List Tk
 |0,_=>[]
 |n+1,i=>if i<l.length then (if l.getD i 0=32 then toksX l n (i+1) else (tokX l i).1::toksX l n (i+(tokX l i).2)) else [⟨36,0,0,[],l.length⟩]
def RunR:List Tk→SX→Int⊕SX→Prop
 |[],S,r=>r=.inr S
 |t::ts,S,r=>∃s',(feedX s' t S=none∧r=.inl t.a)∨∃S',feedX s' t S=some S'∧RunR ts S' r
theorem tokX_pos {l:List UInt8} {i:Nat} (hi:i<l.length):1≤(tokX l i).2∧i+(tokX l i).2≤l.length:=by
 unfold tokX
 split
 ·simp;omega
 ·split
  ·rename_i h
   have e1:(l.drop i)=l.getD i 0::l.drop (i+1):=by
    rw [List.drop_eq_getElem_cons hi,List.getD_eq_getElem?_getD,List.getElem?_eq_getElem hi]
    rfl
   have h1:1≤((l.drop i).takeWhile smallB).length:=by rw [e1,List.takeWhile_cons,if_pos h];simp
   have h2:((l.drop i).takeWhile smallB).length≤(l.drop i).length:=(List.takeWhile_prefix (p:=smallB) (l:=l.drop i)).length_le
   rw [List.length_drop] at h2
   simp only
   omega
  ·split
   ·split
    ·simp;omega
    ·split
     ·split
      ·simp;omega
      ·split
       ·rename_i h;simp only;omega
       ·simp;omega
     ·simp;omega
   ·split
    ·rename_i hb
     have:=byteX_len hb
     simp only
     omega
    ·simp;omega
end Go.Proofs.YtcifihepfadgfaaGreatDoor
namespace Go.Proofs.YtcifihepfadgfaaGreatDoor
open Go Go.W
abbrev tkC (t:Tk):List Value:=[.int .u8 (t.k.toNat:Int),.int .u8 (t.lo.toNat:Int),.int .u8 (t.hi.toNat:Int),.string (ba t.s),.int .i64 t.a]
def enNil:En:=⟨[],fun _=>True,fun _ _ _ h=>h,fun _ _ b hb=>by simp at hb,by simp⟩
abbrev GPq (t2 t3 t4 D l_ bs:Nat) (s:ByteArray) (v3 v4:Value) (o:Obj):List En:=[.c t2 [.int .i64 0,.int .u8 0,.int .u8 0,.slice none 0 0] ty_regex_Regex,.c t3 [v3] ty_int,.c t4 [v4] ty_api_Errno,.ob D (.deferred (some [])),.ob l_ o,.c bs [.string s] ty_string]
def PS (w0 w:World) (rb:Nat) (G:List En) (S:SX):Prop:=∃(sl:Sl) (fs:List FM) (f:FM) (ts:List Rt) (p:Addr),fs.map FM.x=S.lo∧f.x=S.tp∧(∀g∈fs++[f],∀t∈g.ts,t∈ts)∧sl.a=some p∧(∀b∈Rt.fps ts,w0.heap.size≤b)∧SF F0 w0 w rb sl S.st S.wd fs f G ts
def PE (w0 w:World) (rb:Nat) (G:List En):Prop:=∃(sl:Sl) (fs:List FM) (f:FM) (ts:List Rt) (st wd:Int),SF F0 w0 w rb sl st wd fs f G ts
section
variable {s:ByteArray} {w0:World} {rb t2 t3 t4 D l_ bs:Nat} {o_:LoopState→Option Code→Obj}
abbrev HYP (s:ByteArray) (rb t2 t3 t4 l_ bs:Nat) (o_:LoopState→Option Code→Obj):Prop:=
 ∀(x17_0 x17_1 x17_2:Int) (x17_3:ByteArray) (x17_4:Int) (w_:World) (K_:Bool→World→Prop),w_.heap[l_]? =some (o_ .ready none)→regex_Parse.B_S0 l_ o_ s (at0 t2) (at0 t3) (at0 t4) (at0 rb) (at0 bs) x17_0 x17_1 x17_2 x17_3 x17_4 w_ (fun r_ w1=>∃b_:Bool,r_=.returned (.bool b_)∧K_ b_ w1)→W.yieldB Tryz.prog l_ #[.agg #[.int .u8 x17_0,.int .u8 x17_1,.int .u8 x17_2,.string x17_3,.int .i64 x17_4]] w_ K_
theorem p_round (hY:HYP s rb t2 t3 t4 l_ bs o_) {S:SX} {m:Nat} (hI:Inv S m) (hm:m≤900000) (t:Tk) {e:En} {w:World} (H:PS w0 w rb (GPq t2 t3 t4 D l_ bs s (.int .i64 0) (.int .i64 0) (o_ .ready none)++[e]) S) {K:Bool→World→Prop}
  (hbad:∀w' s',feedX s' t S=none→PE w0 w' rb (GPq t2 t3 t4 D l_ bs s (.int .i64 t.a) (.int .i64 2) (o_ .done (some .ret))++[e])→K false w')
  (hok:∀w' s' S',feedX s' t S=some S'→PS w0 w' rb (GPq t2 t3 t4 D l_ bs s (.int .i64 0) (.int .i64 0) (o_ .ready none)++[e]) S'→K true w'):W.yieldB Tryz.prog l_ #[t.v] w K:=by
 obtain ⟨lo,tp,st,wd⟩:=S
 obtain ⟨sl,fs,f,ts,p,hlo,htp,h3,h4,hb,H⟩:=H
 have hlo:fs.map FM.x=lo:=hlo
 have htp:f.x=tp:=htp
 subst hlo htp
 refine hY _ _ _ _ _ w K (H.ob 7) ?_
 refine H.nw fun w1 _ H1=>H1.st5 10 rfl fun w2 H2=>H2.pu 7 rfl fun w3 H3=>⟨_,_,_,_,_,H3.ld 10 0,H3.ld 10 1,H3.ld 10 2,H3.ld 10 3,H3.ld 10 4,?_⟩
 have H3':SF F0 w0 w3 rb sl st wd fs f (GPq t2 t3 t4 D l_ bs s (.int .i64 0) (.int .i64 0) (o_ .busy none)++[e,.c w.heap.size (tkC t) ty_regex_token]) ts:=H3
 refine H3'.csS0 h3 h4 (fun own1 s1=>c_feed s1 (Nat.le_trans hI.lo (by omega)) (hI.tp.mono (by omega)) hI.s1 t) ?_
 rintro r w4 sl4 fs4 f4 p4 st4 wd4 ts4 t4' h34 h44 b4 ⟨s',hsay⟩ H4
 rcases hsay with ⟨hn,rfl⟩|⟨hs,rfl⟩
 ·refine ⟨false,rfl,sel_true rfl ?_⟩
  refine H4.dr fun w5 H5=>⟨t.a,H5.ld 10 4,H5.st4 3 rfl fun w6 H6=>⟨H6.ld 10 4,H6.st0 4 rfl fun w7 H7=>H7.st0 5 rfl fun w8 H8=>H8.pu 7 rfl fun w9 H9=>⟨false,rfl,hbad w9 s' hn ⟨sl4,fs4,f4,ts4,st4,wd4,?_⟩⟩⟩⟩
  exact H9.take 10
 ·refine ⟨true,rfl,sel_false rfl (H4.pu 7 rfl fun w5 H5=>⟨true,rfl,hok w5 s' _ hs ⟨sl4,fs4,f4,ts4,p4,rfl,rfl,h34,h44,fun b hb'=>?_,H5.take 10⟩⟩)⟩
  rcases b4 b hb' with h|h|h
  ·exact hb b h
  ·exact h
  ·exact h.elim
def PEnd (w0:World) (rb t2 t3 t4 D l_ bs:Nat) (s:ByteArray) (o_:LoopState→Option Code→Obj) (w':World):Int⊕SX→Prop
 |.inl a=>PE w0 w' rb (GPq t2 t3 t4 D l_ bs s (.int .i64 a) (.int .i64 2) (o_ .done (some .ret)))
 |.inr S=>PS w0 w' rb (GPq t2 t3 t4 D l_ bs s (.int .i64 0) (.int .i64 0) (o_ .ready none)) S
theorem p_loop (hs:s.size≤4096) (hY:HYP s rb t2 t3 t4 l_ bs o_) (R:Post):∀(n i m:Nat) (S:SX) (w:World),s.size - i<n→i≤s.size→Inv S m→m+n≤900000→
  PS w0 w rb (GPq t2 t3 t4 D l_ bs s (.int .i64 0) (.int .i64 0) (o_ .ready none)) S→
  (∀w' res,RunR (toksX (bl s) n i) S res→PEnd w0 rb t2 t3 t4 D l_ bs s o_ w' res→R (.returned (.tuple #[])) w')→regex_tokens_1.L0 l_ (at0 bs) (i:Int) w R:=by
 intro n
 induction n with
 |zero=>intro i m S w h;omega
 |succ n ih=>
  intro i m S w hn hi hI hm hP hR
  have hl:(bl s).length=s.size:=bl_len s
  have hP0:=hP
  obtain ⟨sl,fs,f,ts,p,hlo,htp,h3,h4,hb,H⟩:=hP0
  refine regex_tokens_1.L0_step _ _ _ _ _ ⟨s,H.ld0 8,sel_dec (fun h=>⟨s,H.ld0 8,by omega,_,s_at (i:=i) (by omega),u8_sel (n:=32) (by omega) (fun hc:(bl s).getD i 0=32=>?_) (fun hc:(bl s).getD i 0≠32=>⟨s,H.ld0 8,H.call (c_tokenAt s (by omega) i (by omega) w) ?_⟩)⟩) (fun h=>⟨s,H.ld0 8,?_⟩)⟩
  ·rw [show IntKind.wrap .i64 ((i:Int)+1)=((i+1:Nat):Int) by rw [IntWalk.i64_in _ (by omega)];omega]
   refine ih (i+1) m S w (by omega) (by omega) hI (by omega) hP (fun w' res hr he=>hR w' res ?_ he)
   unfold toksX
   rw [if_pos (by omega),if_pos hc]
   exact hr
  ·rintro _ w1 rfl H1
   have hpos:=tokX_pos (l:=bl s) (i:=i) (by omega)
   have et:toksX (bl s) (n+1) i=(tokX (bl s) i).1::toksX (bl s) n (i+(tokX (bl s) i).2):=by
    rw [toksX,if_pos (by omega),if_neg hc]
   rw [et] at hR
   refine ⟨_,_,_,_,_,_,rfl,H1.nw fun w2 _ H2=>H2.st5 9 rfl fun w7 H7=>⟨_,_,_,_,_,H7.ld 9 0,H7.ld 9 1,H7.ld 9 2,H7.ld 9 3,H7.ld 9 4,?_⟩⟩
   have H7':SF F0 w0 w7 rb sl S.st S.wd fs f (GPq t2 t3 t4 D l_ bs s (.int .i64 0) (.int .i64 0) (o_ .ready none)++[.c w1.heap.size (tkC (tokX (bl s) i).1) ty_regex_token]) ts:=H7
   refine p_round hY hI (by omega) (tokX (bl s) i).1 (e:=.c w1.heap.size (tkC (tokX (bl s) i).1) ty_regex_token) ⟨sl,fs,f,ts,p,hlo,htp,h3,h4,hb,H7'⟩ (fun w8 s' hno hE=>sel_true rfl (hR w8 (.inl (tokX (bl s) i).1.a) ⟨s',.inl ⟨hno,rfl⟩⟩ ?_)) (fun w8 s' S' hyes hE=>sel_false rfl ?_)
   ·obtain ⟨sl8,fs8,f8,ts8,st8,wd8,H8⟩:=hE
    exact ⟨sl8,fs8,f8,ts8,st8,wd8,H8.take 9⟩
   ·obtain ⟨sl8,fs8,f8,ts8,p8,hlo8,htp8,h38,h48,hb8,H8⟩:=hE
    refine ⟨_,H8.ld 9 0,u8_sel (n:=63) (by omega) (fun hk:(tokX (bl s) i).1.k=63=>?_) (fun hk=>?_)⟩
    ·rw [feed_bad hk] at hyes;cases hyes
    ·rw [show IntKind.wrap .i64 ((i:Int)+((tokX (bl s) i).2:Int))=((i+(tokX (bl s) i).2:Nat):Int) by rw [IntWalk.i64_in _ (by omega)];omega]
     refine ih (i+(tokX (bl s) i).2) (m+1) S' w8 (by omega) (by omega) (feed_inv hI hyes) (by omega) ⟨sl8,fs8,f8,ts8,p8,hlo8,htp8,h38,h48,hb8,H8.take 9⟩ (fun w' res hr he=>hR w' res ⟨s',.inr ⟨S',hyes,hr⟩⟩ he)
  ·have et:toksX (bl s) (n+1) i=[⟨36,0,0,[],(bl s).length⟩]:=by
    rw [toksX,if_neg (by omega)]
   rw [et,hl] at hR
   have H1:=H.push enNil (Fr.refl _ _) trivial (fun b hb=>by cases hb)
   refine p_round hY hI (by omega) ⟨36,0,0,[],(s.size:Int)⟩ (e:=enNil) ⟨sl,fs,f,ts,p,hlo,htp,h3,h4,hb,H1⟩ (fun w8 s' hno hE=>hR w8 (.inl (s.size:Int)) ⟨s',.inl ⟨hno,rfl⟩⟩ ?_) (fun w8 s' S' hyes hE=>hR w8 (.inr S') ⟨s',.inr ⟨S',hyes,rfl⟩⟩ ?_)
   ·obtain ⟨sl8,fs8,f8,ts8,st8,wd8,H8⟩:=hE
    exact ⟨sl8,fs8,f8,ts8,st8,wd8,H8.take 9⟩
   ·obtain ⟨sl8,fs8,f8,ts8,p8,hlo8,htp8,h38,h48,hb8,H8⟩:=hE
    exact ⟨sl8,fs8,f8,ts8,p8,hlo8,htp8,h38,h48,hb8,H8.take 9⟩
end
end Go.Proofs.YtcifihepfadgfaaGreatDoor
namespace Go.Proofs.YtcifihepfadgfaaGreatDoor
open Go Go.W
theorem rsz_app:∀(a b:List Rx),Rx.szs (a++b)=Rx.szs a+Rx.szs b
 |[],b=>by simp [Rx.szs]
 |x::a,b=>by
  have:=rsz_app a b
  show x.sz+Rx.szs (a++b)=(x.sz+Rx.szs a)+Rx.szs b
  omega
theorem szs_one (x:Rx):Rx.szs [x]=x.sz:=by simp [Rx.szs]
theorem one_sz (k:Int) (l:List Rx):(oneX k l).sz≤1+Rx.szs l:=by
 unfold oneX
 split
 ·rw [szs_one];omega
 ·unfold Rx.sz;omega
theorem not_sz:∀(n:Nat) (r:Rx),(notN n r).sz=n+r.sz
 |0,r=>by unfold notN;omega
 |n+1,r=>by
  unfold notN
  rw [not_sz n]
  unfold Rx.sz
  rw [szs_one]
  cases r
  simp only [Rx.sz]
  omega
def fz (f:FX):Nat:=Rx.szs f.ar.2+Rx.szs f.al+Rx.szs f.an+Rx.szs f.ca+f.n
def lz:List FX→Nat
 |[]=>0
 |f::l=>fz f+lz l
theorem lz_app:∀(a b:List FX),lz (a++b)=lz a+lz b
 |[],b=>by simp [lz]
 |x::a,b=>by
  have:=lz_app a b
  show fz x+lz (a++b)=(fz x+lz a)+lz b
  omega
def pz (S:SX):Nat:=lz S.lo+fz S.tp+(if S.st=0∨S.st=1∨S.st=2 then 0 else S.tp.la.sz)
theorem pz_le (S:SX):pz S≤lz S.lo+fz S.tp+S.tp.la.sz:=by unfold pz;split<;>omega
theorem pz_ge (S:SX):lz S.lo+fz S.tp≤pz S:=by unfold pz;omega
theorem pz_no {S:SX} (h:S.st=0∨S.st=1∨S.st=2):pz S=lz S.lo+fz S.tp:=by unfold pz;rw [if_pos h];omega
theorem pz_la {S:SX} (h:¬(S.st=0∨S.st=1∨S.st=2)):pz S=lz S.lo+fz S.tp+S.tp.la.sz:=by unfold pz;rw [if_neg h]
theorem item_fz (f:FX):fz (endItemX f)=fz f+f.la.sz:=by
 unfold fz endItemX
 simp only [rsz_app,szs_one,not_sz]
 omega
theorem seq_fz (f:FX):fz (endSeqX f)≤fz f+f.la.sz+1:=by
 have h:=one_sz 3 (f.ca++[notN f.n f.la])
 simp only [rsz_app,szs_one,not_sz] at h
 show Rx.szs f.ar.2+Rx.szs f.al+Rx.szs (f.an++[oneX 3 (f.ca++[notN f.n f.la])])+Rx.szs []+0≤_
 unfold fz
 simp only [rsz_app,szs_one,Rx.szs]
 omega
theorem conj_fz (f:FX):Rx.szs f.ar.2+Rx.szs (endConjX f).al≤fz f+f.la.sz+2:=by
 have h:=one_sz 5 (endSeqX f).an
 have h2:=seq_fz f
 have e:fz (endSeqX f)=Rx.szs f.ar.2+Rx.szs f.al+Rx.szs (endSeqX f).an+0+0:=rfl
 show Rx.szs f.ar.2+Rx.szs (f.al++[oneX 5 (endSeqX f).an])≤_
 simp only [rsz_app,szs_one]
 omega
theorem conj_fz' (f:FX):fz (endConjX f)≤fz f+f.la.sz+2:=by
 have:=conj_fz f
 show Rx.szs f.ar.2+Rx.szs (endConjX f).al+Rx.szs []+Rx.szs []+0≤_
 simp only [Rx.szs]
 omega
theorem expr_sz (f:FX):Rx.szs f.ar.2+(exprX f).sz≤fz f+f.la.sz+3:=by
 have h:=one_sz 4 (endConjX f).al
 have:=conj_fz f
 show _+(oneX 4 (endConjX f).al).sz≤_
 omega
theorem item_sz {t:Tk} {S S':SX} (h:itemX t S=some S'):pz S'≤lz S.lo+fz S.tp+1:=by
 have leaf:∀(k:Int) (a b:UInt8),(Rx.mk k a b []).sz=1:=fun k a b=>by unfold Rx.sz;simp [Rx.szs]
 unfold itemX at h
 split at h
 ·cases h
  rw [pz_no (.inl rfl)]
  show lz S.lo+(Rx.szs S.tp.ar.2+Rx.szs S.tp.al+Rx.szs S.tp.an+Rx.szs S.tp.ca+(S.tp.n+1))≤_
  unfold fz;omega
 ·split at h
  ·cases h
   rw [pz_no (.inl rfl)]
   show lz (S.lo++[S.tp])+fz (newFX (-1))≤_
   rw [lz_app]
   have:fz (newFX (-1))=0:=rfl
   simp only [lz];omega
  ·have la:∀(k:Int) (a b:UInt8),pz ⟨S.lo,atomX S.tp (.mk k a b []),3,S.wd⟩≤lz S.lo+fz S.tp+1:=fun k a b=>by
    refine Nat.le_trans (pz_le _) ?_
    show lz S.lo+fz S.tp+(Rx.mk k a b []).sz≤_
    rw [leaf];exact Nat.le_refl _
   split at h
   ·cases h
    exact la _ _ _
   ·split at h
    ·split at h
     ·cases h;exact la _ _ _
     ·split at h
      ·cases h;exact la _ _ _
      ·split at h
       ·cases h;rw [pz_no (.inr (.inr rfl))];show lz S.lo+fz S.tp≤_;omega
       ·split at h
        ·cases h;rw [pz_no (.inr (.inr rfl))];show lz S.lo+fz S.tp≤_;omega
        ·split at h
         ·cases h;rw [pz_no (.inr (.inr rfl))];show lz S.lo+fz S.tp≤_;omega
         ·cases h
    ·cases h
theorem close_sz {S S':SX} {l:List Rx} (h:closeX S l=some S'):pz S'≤lz S.lo+Rx.szs l+1:=by
 unfold closeX at h
 rcases nil_snoc S.lo with e|⟨a,g,e⟩
 ·rw [e] at h;simp at h
 ·rw [e] at h ⊢
  simp at h
  subst h
  refine Nat.le_trans (pz_le _) ?_
  show lz a+fz g+(clR S.tp.k l).sz≤_
  rw [lz_app]
  have:(clR S.tp.k l).sz≤Rx.szs l+1:=by
   unfold clR
   split
   ·cases l with
    |nil=>exact (by show noR.sz≤_;unfold noR Rx.sz;simp [Rx.szs])
    |cons x l=>show x.sz≤_;unfold Rx.szs;omega
   ·unfold Rx.sz;omega
  simp only [lz];omega
theorem feed_sz {s':Sl} {t:Tk} {S S':SX} (h:feedX s' t S=some S'):pz S'≤pz S+4:=by
 have hge:=pz_ge S
 unfold feedX at h
 split at h
 ·split at h
  ·cases h
   rw [pz_no (.inr (.inl rfl))]
   show lz (S.lo++[S.tp])+fz (newFX S.wd)≤_
   rw [lz_app]
   have:fz (newFX S.wd)=0:=rfl
   simp only [lz];omega
  ·cases h
 ·rename_i h2
  split at h
  ·split at h
   ·have:=close_sz h;simp only [Rx.szs] at this;omega
   ·have:=item_sz h;omega
  ·rename_i h1
   split at h
   ·have:=item_sz h;omega
   ·rename_i h0
    have hla:=pz_la (S:=S) (by rintro (e|e|e)<;>contradiction)
    split at h
    ·cases h
     refine Nat.le_trans (pz_le _) ?_
     show lz S.lo+fz S.tp+(Rx.mk 7 0 0 [S.tp.la]).sz≤_
     have:(Rx.mk 7 0 0 [S.tp.la]).sz=1+S.tp.la.sz:=by show 1+Rx.szs [S.tp.la]=_;rw [szs_one]
     omega
    ·split at h
     ·cases h
      rw [pz_no (.inl rfl)]
      show lz S.lo+fz (endSeqX S.tp)≤_
      have:=seq_fz S.tp;omega
     ·split at h
      ·cases h
       rw [pz_no (.inl rfl)]
       show lz S.lo+fz (endConjX S.tp)≤_
       have:=conj_fz' S.tp;omega
      ·split at h
       ·split at h
        ·cases h
        ·cases h
         rw [pz_no (.inl rfl)]
         show lz S.lo+(Rx.szs (S.tp.ar.2++[exprX S.tp])+Rx.szs []+Rx.szs []+Rx.szs []+0)≤_
         have:=expr_sz S.tp
         simp only [rsz_app,szs_one,Rx.szs];omega
       ·split at h
        ·split at h
         ·cases h
         ·have h5:=close_sz h
          have:=expr_sz S.tp
          simp only [rsz_app,szs_one] at h5;omega
        ·split at h
         ·split at h
          ·cases h;omega
          ·cases h
         ·have h5:=item_sz h
          have:=item_fz S.tp
          have e:lz (SX.mk S.lo (endItemX S.tp) S.st S.wd).lo+fz (SX.mk S.lo (endItemX S.tp) S.st S.wd).tp=lz S.lo+fz (endItemX S.tp):=rfl
          omega
theorem feed_end {s':Sl} {a:Int} {S S':SX} (h:feedX s' ⟨36,0,0,[],a⟩ S=some S'):S'=S∧¬(S.st=0∨S.st=1∨S.st=2):=by
 have it:∀S,itemX ⟨36,0,0,[],a⟩ S=none:=fun S=>rfl
 unfold feedX at h
 rw [it] at h
 split at h
 ·cases h
 ·split at h
  ·cases h
  ·split at h
   ·cases h
   ·refine ⟨?_,by rintro (e|e|e)<;>contradiction⟩
    have h':(if S.lo=[] then some S else none)=some S':=h
    split at h'
    ·cases h';rfl
    ·cases h'
theorem run_sz (l:List UInt8):∀(n i:Nat) (S S':SX),l.length - i<n→RunR (toksX l n i) S (.inr S')→(exprX S'.tp).sz≤pz S+4 *n+4
 |0,i,S,S',h,_=>by omega
 |n+1,i,S,S',h,hr=>by
  unfold toksX at hr
  split at hr
  ·split at hr
   ·have:=run_sz l n (i+1) S S' (by omega) hr
    omega
   ·rename_i hi _
    have hp:=tokX_pos hi
    obtain ⟨s',⟨_,hx⟩|⟨S1,h1,h2⟩⟩:=hr
    ·cases hx
    ·have:=run_sz l n (i+(tokX l i).2) S1 S' (by omega) h2
     have:=feed_sz h1
     omega
  ·obtain ⟨s',⟨_,hx⟩|⟨S1,h1,h2⟩⟩:=hr
   ·cases hx
   ·have e:S'=S1:=by have:Sum.inr S'=(Sum.inr S1:Int⊕SX):=h2;cases this;rfl
    obtain ⟨e1,e2⟩:=feed_end h1
    subst e e1
    have:=pz_la e2
    have:=expr_sz S'.tp
    omega
end Go.Proofs.YtcifihepfadgfaaGreatDoor
namespace Go.Proofs.YtcifihepfadgfaaGreatDoor
open Go Go.W
theorem lh_pick {M:Nat→Prop} {w0 w:World} {L D:List En} (H:LH M w0 w L D) (is js:List Nat) (hp:is.Perm js) (hL:js.map (fun k=>L.getD k enNil)=L):LH M w0 w (is.map fun k=>L.getD k enNil) D:=by
 have h:(is.map fun k=>L.getD k enNil).Perm L:=by
  have:=hp.map (fun k=>L.getD k enNil)
  rwa [hL] at this
 exact ⟨H.fr,fun e he=>H.own e (h.mem_iff.1 he),H.rd,fun e he=>H.new e (h.mem_iff.1 he),((h.flatMap_right _).nodup_iff).2 H.nd,fun e he b hb e' he'=>H.dj e he b hb e' (h.mem_iff.1 he')⟩
theorem rangeEnd_n {w2:World} {l:Nat} {o:LoopState→Option Code→Obj} {N:World→Prop} {X:Nat→World→Prop} {T:World→Prop} (h:puV w2 l (o .ready none) (o .exhausted none) N):RangeEnd w2 l o N X T:=.inl h
theorem rangeEnd_t {w2:World} {l:Nat} {o:LoopState→Option Code→Obj} {N:World→Prop} {X:Nat→World→Prop} {T:World→Prop} (h:puV w2 l (o .done (some .ret)) (o .exhausted (some .ret)) T):RangeEnd w2 l o N X T:=.inr (.inr h)
theorem leaf0 {b:Nat} (h:b∈Rt.fps [.mk 0 0 0 ⟨none,0,0⟩ []]):False:=by
 have:=leaf_fps (ts:=[]) (k:=0) (lo:=0) (hi:=0) (b:=b) h
 unfold Rt.fps at this
 cases this
def sx0:SX:=⟨[],newFX (-1),0,0⟩
theorem inv0:Inv sx0 0:=by
 refine ⟨Nat.le_refl _,fun f hf=>?_,small_new _ _,fun e=>?_,fun e=>?_⟩
 ·cases hf
 ·have:(0:Int)=1:=e
  omega
 ·have:(0:Int)=2:=e
  omega
theorem run_inv (l:List UInt8):∀(n i m:Nat) (S S':SX),Inv S m→RunR (toksX l n i) S (.inr S')→Inv S' (m+n)
 |0,i,m,S,S',hI,hr=>by
  have e:(Sum.inr S':Int⊕SX)=.inr S:=hr
  cases e
  exact hI
 |n+1,i,m,S,S',hI,hr=>by
  have up:∀{S:SX} {a b:Nat},Inv S a→a≤b→Inv S b:=fun h hab=>⟨Nat.le_trans h.lo hab,fun f hf=>(h.sl f hf).mono hab,h.tp.mono hab,h.s1,h.s2⟩
  unfold toksX at hr
  split at hr
  ·split at hr
   ·exact up (run_inv l n _ m S S' hI hr) (by omega)
   ·obtain ⟨s',⟨_,hx⟩|⟨S1,h1,h2⟩⟩:=hr
    ·cases hx
    ·exact up (run_inv l n _ (m+1) S1 S' (feed_inv hI h1) h2) (by omega)
  ·obtain ⟨s',⟨_,hx⟩|⟨S1,h1,h2⟩⟩:=hr
   ·cases hx
   ·have e:(Sum.inr S':Int⊕SX)=.inr S1:=h2
    cases e
    exact up (feed_inv hI h1) (by omega)
def ParseR (w:World) (s:ByteArray):Post:=fun r w'=>Fr0 w w'∧
 ((4096<s.size∧r=.returned (.tuple #[.agg #[.int .i64 0,.int .u8 0,.int .u8 0,.slice none 0 0],.int .i64 4096,.int .i64 4]))∨
  (s.size≤4096∧∃res,RunR (toksX (bl s) (s.size+1) 0) sx0 res∧((∃a,res=.inl a∧r=.returned (.tuple #[.agg #[.int .i64 0,.int .u8 0,.int .u8 0,.slice none 0 0],.int .i64 a,.int .i64 2]))∨
   ∃S',res=.inr S'∧((64<(exprX S'.tp).sz∧r=.returned (.tuple #[.agg #[.int .i64 0,.int .u8 0,.int .u8 0,.slice none 0 0],.int .i64 (s.size:Int),.int .i64 4]))∨
    ((exprX S'.tp).sz≤64∧∃t:Rt,r=.returned (.tuple #[t.v,.int .i64 0,.int .i64 0])∧t.rx=exprX S'.tp∧t.P w'∧∀b∈t.fp,w.heap.size≤b)))))
theorem c_Parse (s:ByteArray) (w:World):Calls Tryz.prog n_regex_Parse #[.string s] w (ParseR w s):=by
 refine regex_Parse.ok _ w _ ((lh0 [] (fun _ h=>by cases h)).nw fun w1 _ H1=>H1.nw fun w2 _ H2=>H2.nw fun w3 _ H3=>sel_dec (fun h=>?_) (fun h=>?_))
 ·refine H3.st4 0 rfl fun w4 H4=>H4.st0 1 rfl fun w5 H5=>H5.st0 2 rfl fun w6 H6=>⟨_,_,_,⟨none,0,0⟩,H6.ld 0 0,H6.ld 0 1,H6.ld 0 2,H6.ld 0 3,_,H6.ld0 1,_,H6.ld0 2,H6.fr,.inl ⟨by omega,rfl⟩⟩
 have hs:s.size≤4096:=by omega
 have hl:(bl s).length=s.size:=bl_len s
 refine H3.nwrow (e:=ty_regex_frame) (sz:=10) (n:=1) (cs:=(newFM (-1)).c) rfl (by decide) fun w10 H10=>H10.nw fun w11 _ H11=>?_
 refine H11.st0 4 rfl fun w12 H12=>H12.st 4 1 rfl fun w13 H13=>H13.st 4 2 rfl fun w14 H14=>?_
 refine regex_tokens.ok _ w14 _ (H14.nw fun w15 _ H15=>⟨_,rfl,?_⟩)
 show ∀o_:LoopState→Option Code→Obj,_
 intro o_ hY
 have e1:(w15.alloc (.deferred (some []))).heap.size=w15.heap.size+1:=size_alloc _ _
 have HG:=(H15.alloc (.deferred (some []))).alloc (o_ .ready none)
 rw [e1] at HG
 have hP:(En.rows (([]++[newFM (-1)]:List FM).flatMap FM.rows)).P ((w15.alloc (.deferred (some []))).alloc (o_ .ready none)):=by
  refine ⟨fun q hq=>?_,by decide⟩
  have hq:q∈[((⟨none,0,0⟩,[]):RowV),(⟨none,0,0⟩,[]),(⟨none,0,0⟩,[]),(⟨none,0,0⟩,[])]:=hq
  simp only [List.mem_cons,List.not_mem_nil,or_false,or_self] at hq
  subst hq
  exact OwnRow.nil _ _ _
 have Ha:=(HG.push (.rows (([]++[newFM (-1)]:List FM).flatMap FM.rows)) (Fr.refl _ _) hP (fun b hb=>by
  have hb:=mem_nub.1 hb
  have hb:b∈([]:List Nat):=hb
  cases hb)).addD (.trees [.mk 0 0 0 ⟨none,0,0⟩ []]) (Fr.refl _ _) (Rt.ps_of fun t ht=>by
   simp at ht;subst ht
   show Rt.P _ _
   unfold Rt.P Rt.Ps
   exact ⟨RdN.nil 4 _,trivial⟩) (fun b hb=>by
    exact (leaf0 (mem_nub.1 hb)).elim)
 have Hb:=lh_pick Ha [4,3,8,0,1,2,6,7,5] [0,1,2,3,4,5,6,7,8] (by decide) rfl
 have HS:SF F0 w ((w15.alloc (.deferred (some []))).alloc (o_ .ready none)) w10.heap.size ⟨some (at0 w3.heap.size),1,1⟩ 0 0 [] (newFM (-1)) (GPq w.heap.size w1.heap.size w2.heap.size w15.heap.size (w15.heap.size+1) w14.heap.size s (.int .i64 0) (.int .i64 0) (o_ .ready none)) [.mk 0 0 0 ⟨none,0,0⟩ []]:=Hb
 refine regex_tokens_1.ok _ _ _ _ (p_loop (w0:=w) (rb:=w10.heap.size) (t2:=w.heap.size) (t3:=w1.heap.size) (t4:=w2.heap.size) (D:=w15.heap.size) (l_:=w15.heap.size+1) (bs:=w14.heap.size) hs hY _ (s.size+1) 0 0 sx0 _ (by omega) (by omega) inv0 (by omega)
  ⟨_,[],newFM (-1),_,_,rfl,rfl,fun g hg t ht=>?_,rfl,fun b hb=>?_,HS⟩ (fun w' res hr he=>⟨⟨_,rfl⟩,?_⟩))
 ·simp at hg;subst hg
  simpa [FM.ts,newFM] using ht
 ·exact (leaf0 hb).elim
 cases res with
 |inl a=>
  obtain ⟨sl,fs,f,ts,st,wd,H⟩:=he
  refine rangeEnd_t (H.pu 7 rfl fun w11 H11=>H11.pu 6 rfl fun w15 H15=>⟨_,_,_,⟨none,0,0⟩,H15.ld 3 0,H15.ld 3 1,H15.ld 3 2,H15.ld 3 3,_,H15.ld0 4,_,H15.ld0 5,H15.fr,.inr ⟨hs,_,hr,.inl ⟨a,rfl,rfl⟩⟩⟩)
 |inr S'=>
  obtain ⟨sl,fs,f,ts,p,hlo,htp,h3,h4,hb,H⟩:=he
  have hI:=run_inv _ _ _ _ _ _ inv0 hr
  have hsz:=run_sz _ _ _ _ _ (by omega) hr
  rw [show pz sx0=0 from rfl] at hsz
  have hfl:fs.length≤1000000:=by
   have:=hI.lo
   rw [←hlo] at this
   simp at this
   omega
  refine rangeEnd_n (H.pu 7 rfl fun w5 H5=>?_)
  have H5':SF F0 w w5 w10.heap.size sl S'.st S'.wd fs f (GPq w.heap.size w1.heap.size w2.heap.size w15.heap.size (w15.heap.size+1) w14.heap.size s (.int .i64 0) (.int .i64 0) (o_ .exhausted none)) ts:=H5
  refine H5'.call (c_top H5' h4 hfl) ?_
  rintro _ w6 rfl H6
  have H6':SF F0 w w6 w10.heap.size sl S'.st S'.wd fs f (GPq w.heap.size w1.heap.size w2.heap.size w15.heap.size (w15.heap.size+1) w14.heap.size s (.int .i64 0) (.int .i64 0) (o_ .exhausted none)) ts:=H6
  refine ⟨_,rfl,H6'.csS0 h3 h4 (fun own1 s1=>c_endExpr s1 (by rw [htp];exact hI.tp.mono (by omega))) ?_⟩
  rintro r w7 sl3 fs3 f3 p3 st3 wd3 ts3 t3 h33 h43 b3' ⟨hf0,he1,he2,rfl,rfl,u,hu,rfl,hx⟩ H7
  rw [htp] at hx
  have husz:u.sz=(exprX S'.tp).sz:=by rw [←hx,Rt.rx_sz]
  refine ⟨_,_,_,u.s,rfl,H7.nw fun w8 _ H8=>H8.st4 9 rfl fun w9 H9=>⟨_,_,_,u.s,H9.ld 9 0,H9.ld 9 1,H9.ld 9 2,H9.ld 9 3,H9.call (c_tooLarge u w9 (by omega) ((show Rt.Ps w9 ts3 from H9.getD 0).mem hu)) ?_⟩⟩
  rintro _ w12 rfl H12
  refine ⟨_,rfl,sel_dec (fun hbig=>?_) (fun hsm=>?_)⟩
  ·refine H12.st4 3 rfl fun w13 H13=>H13.st0 4 rfl fun w14 H14=>H14.st0 5 rfl fun w16 H16=>H16.pu 6 rfl fun w17 H17=>⟨_,_,_,⟨none,0,0⟩,H17.ld 3 0,H17.ld 3 1,H17.ld 3 2,H17.ld 3 3,_,H17.ld0 4,_,H17.ld0 5,H17.fr,.inr ⟨hs,_,hr,.inr ⟨S',rfl,.inl ⟨by omega,rfl⟩⟩⟩⟩
  ·refine ⟨_,_,_,u.s,H12.ld 9 0,H12.ld 9 1,H12.ld 9 2,H12.ld 9 3,H12.st4 3 rfl fun w13 H13=>H13.st0 4 rfl fun w14 H14=>H14.st0 5 rfl fun w16 H16=>H16.pu 6 rfl fun w17 H17=>⟨_,_,_,u.s,H17.ld 3 0,H17.ld 3 1,H17.ld 3 2,H17.ld 3 3,_,H17.ld0 4,_,H17.ld0 5,H17.fr,.inr ⟨hs,_,hr,.inr ⟨S',rfl,.inr ⟨by omega,u,rfl,hx,(show Rt.Ps w17 ts3 from H17.getD 0).mem hu,fun b hbu=>?_⟩⟩⟩⟩⟩
   rcases b3' b (Rt.fps_iff.2 ⟨u,hu,hbu⟩) with h|h|h
   ·exact hb b h
   ·exact h
   ·exact h.elim
end Go.Proofs.YtcifihepfadgfaaGreatDoor
namespace Go.Proofs.YtcifihepfadgfaaGreatDoor
open Go Go.W
def zSl:Sl:=⟨none,0,0⟩
def er (f:FX):FX:=⟨f.k,(zSl,f.ar.2),f.al,f.an,f.ca,f.n,f.la⟩
def erS (S:SX):SX:=⟨S.lo.map er,er S.tp,S.st,S.wd⟩
theorem item_er (t:Tk) (S:SX):(itemX t S).map erS=itemX t (erS S):=by
 have e1:er (newFX (-1))=newFX (-1):=rfl
 have e2:(S.lo++[S.tp]).map er=S.lo.map er++[er S.tp]:=by simp
 unfold itemX
 split
 ·rfl
 ·split
  ·simp only [Option.map_some,erS,e1,e2]
  ·split
   ·rfl
   ·split
    ·split
     ·rfl
     ·split
      ·rfl
      ·split
       ·rfl
       ·split
        ·rfl
        ·split<;>rfl
    ·rfl
theorem close_er (S:SX) (l:List Rx):(closeX S l).map erS=closeX (erS S) l:=by
 unfold closeX
 rcases nil_snoc S.lo with e|⟨a,g,e⟩
 ·simp [e,erS]
 ·have e':(erS S).lo=a.map er++[er g]:=by simp [erS,e]
  rw [e,e']
  simp [erS]
  rfl
theorem feed_er (s':Sl) (t:Tk) (S:SX):(feedX s' t S).map erS=feedX zSl t (erS S):=by
 have e2:(S.lo++[S.tp]).map er=S.lo.map er++[er S.tp]:=by simp
 have c1:(erS S).st=S.st:=rfl
 have c2:(erS S).tp.k=S.tp.k:=rfl
 unfold feedX
 rw [c1,c2]
 by_cases h2:S.st=2
 ·rw [if_pos h2,if_pos h2]
  split
  ·show some (erS ⟨S.lo++[S.tp],newFX S.wd,1,S.wd⟩)=some ⟨S.lo.map er++[er S.tp],newFX S.wd,1,S.wd⟩
   rw [←e2];rfl
  ·rfl
 rw [if_neg h2,if_neg h2]
 split
 ·split
  ·exact close_er S []
  ·exact item_er t S
 ·split
  ·exact item_er t S
  ·split
   ·rfl
   ·split
    ·rfl
    ·split
     ·rfl
     ·split
      ·split<;>rfl
      ·split
       ·by_cases e:S.lo=[]
        ·rw [if_pos e,if_pos (show (erS S).lo=[] by simp [erS,e])];rfl
        ·rw [if_neg e,if_neg (show ¬(erS S).lo=[] by simp [erS,e])];exact close_er S _
       ·split
        ·by_cases e:S.lo=[]
         ·rw [if_pos e,if_pos (show (erS S).lo=[] by simp [erS,e])];rfl
         ·rw [if_neg e,if_neg (show ¬(erS S).lo=[] by simp [erS,e])];rfl
        ·exact item_er t ⟨S.lo,endItemX S.tp,S.st,S.wd⟩
def runE:List Tk→SX→Int⊕SX
 |[],S=>.inr S
 |t::ts,S=>match feedX zSl t S with
  |none=>.inl t.a
  |some S'=>runE ts S'
def erR:Int⊕SX→Int⊕SX
 |.inl a=>.inl a
 |.inr S=>.inr (erS S)
theorem run_er:∀(ts:List Tk) (S:SX) (r:Int⊕SX),RunR ts S r→erR r=runE ts (erS S)
 |[],S,r,h=>by
  have h:r=.inr S:=h
  subst h;rfl
 |t::ts,S,r,h=>by
  obtain ⟨s',⟨h1,h2⟩|⟨S1,h1,h2⟩⟩:=h
  ·subst h2
   have:=feed_er s' t S
   rw [h1] at this
   unfold runE
   rw [←this]
   rfl
  ·have:=feed_er s' t S
   rw [h1] at this
   unfold runE
   rw [←this]
   exact run_er ts S1 r h2
def txt (l:List UInt8):Int⊕SX:=runE (toksX l (l.length+1) 0) sx0
theorem txt_of {s:ByteArray} {r:Int⊕SX} (h:RunR (toksX (bl s) (s.size+1) 0) sx0 r):erR r=txt (bl s):=by
 have:=run_er _ _ _ h
 rw [this]
 unfold txt
 rw [bl_len]
 rfl
theorem expr_er (S:SX):exprX (erS S).tp=exprX S.tp:=rfl
end Go.Proofs.YtcifihepfadgfaaGreatDoor

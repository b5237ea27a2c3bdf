import Derived.Test.YtcifihepfadgfaaGreatDoorR1
import Derived.Test.YtcifihepfadgfaaGreatDoorVB
import Derived.Laws.StandIn
import Derived.Lib.Bytealg
set_option linter.unusedVariables false
namespace Go.Proofs.YtcifihepfadgfaaGreatDoor
open List renaming mem_append->fW,mem_cons->cU,not_mem_nil->qnM,mem_of_getElem?->cZ,getElem?_eq_getElem->gW,getElem?_eq_some_iff->oN,mem_append_left->qmL,mem_append_right->qmR,mem_flatMap->mY,length_drop->qlD,flatMap_append->qfA,flatMap_cons->qfC,mem_iff_getElem?->KF,nodup_append->qnA,append_nil->qaN,map_append->qmpA,getElem?_set_self->qgSS
open Go Go.W
abbrev kV:=Sl×List Value
def _root_.Go.W.En.rows (rs:List kV):En:=⟨Is (rs.flatMap λp:kV=>bC p.1),λw=>(∀p∈rs,aP w aB 4 p.1 p.2)/\(rs.flatMap λp:kV=>bC p.1).Nodup,
 λw w' h hp=>⟨λp hm=>(hp.1 p hm).gV λb hb hl=>h b (aI.2 (mY.2 ⟨p,hm,hb⟩)) hl,hp.2⟩,
 λw hp b hb=>by
  obtain ⟨p,hm,hb⟩:=mY.1 (aI.1 hb)
  exact (hp.1 p hm).lt b hb,mU _⟩
theorem EK (rs:List kV) (hr:rs≠[]) (w:World) (b:Nat) (hb:b∈(En.rows rs).fp):¬(En.rows rs).P ({w with heap:=Array.replicate (b+1) (.map #[] 0)}):=by
 rintro ⟨h,_⟩
 obtain ⟨p,hm,hb⟩:=mY.1 (aI.1 hb)
 obtain ⟨cs,f,hc⟩:=(h p hm).row.UC b hb
 simp at hc
section
variable {M:Nat->Prop} {w0 w:World} {L D:List En} {bs:List Nat}
theorem yT (H:LH M w0 w L D) {i:Nat} {rs:List kV} (hi:L[i]? =some (.rows rs)) {b:Nat} (hb:En.g b∈L):b∉(En.rows rs).fp:=by
 intro hm
 obtain ⟨j,hj⟩:=KF.1 hb
 by_cases xL:i=j
 .subst xL
  rw [hi] at hj
  have e1:En.rows rs=En.g b:=Option.some.inj hj
  have hM:rs≠[]:=by
   rintro rfl
   simp [En.rows,Is] at hm
  refine EK rs hM w b hm ?_
  rw [e1]
  show b<_
  simp
 .exact oZ H.nd hi hj xL b hm (by simp [En.g])
theorem L4 {rs:List kV} {j:Nat} {s s':Sl} {vs zR:List Value} (hj:rs[j]? =some (s,vs)) (hn:(rs.flatMap λp:kV=>bC p.1).Nodup) (hs:(bC s').Nodup) (hx:∀x∈bC s',x∈bC s\/x∉rs.flatMap λp:kV=>bC p.1):((rs.set j (s',zR)).flatMap λp:kV=>bC p.1).Nodup:=
 wD (f:=λp:kV=>bC p.1) hj hn hs hx
theorem Jh (s:Sl):(bC s).Nodup:=by unfold bC;split<;>simp
theorem vn {α:Type} {l:List α} {j:Nat} {a x:α} (h:x∈l.set j a):x=a\/∃i,i≠j/\l[i]? =some x:=by
 obtain ⟨i,hi⟩:=KF.1 h
 rw [List.getElem?_set] at hi
 split at hi
 .split at hi
  .exact .inl (Option.some.inj hi).symm
  .cases hi
 .rename_i hM
  exact .inr ⟨i,λe=>hM e.symm,hi⟩
theorem Bo {rs:List kV} (hn:(rs.flatMap λp:kV=>bC p.1).Nodup):∀{i j:Nat} {p q:kV},rs[i]? =some p->rs[j]? =some q->i≠j->∀b∈bC p.1,b∉bC q.1:=by
 induction rs with
 |nil=>intro i j p q h;simp at h
 |cons a l ih=>
  rw [qfC,qnA] at hn
  intro i j p q hi hj xL b hb eD
  cases i with
  |zero=>
   simp at hi;subst hi
   cases j with
   |zero=>exact xL rfl
   |succ j=>exact hn.2.2 b hb b (mY.2 ⟨q,cZ (by simpa using hj),eD⟩) rfl
  |succ i=>
   cases j with
   |zero=>
    simp at hj;subst hj
    exact hn.2.2 b eD b (mY.2 ⟨p,cZ (by simpa using hi),hb⟩) rfl
   |succ j=>exact ih hn.2.1 (by simpa using hi) (by simpa using hj) (by omega) b hb eD
theorem zr (H:LH M w0 w L D) {w':World} (i j:Nat) {rs:List kV} {s s':Sl} {vs zR:List Value} (hi:L[i]? =some (.rows rs)) (hj:rs[j]? =some (s,vs)) (f:Fr (λb=>b∈bC s) w w') (ho:aP w' aB 4 s' zR) (hb:∀b∈bC s',b∈bC s\/w.heap.size<=b):
  LH M w0 w' (L.set i (.rows (rs.set j (s',zR)))) D:=by
 have hp:(En.rows rs).P w:=H.get i hi
 have rU:∀b∈bC s,b∈(En.rows rs).fp:=λb hb=>aI.2 (mY.2 ⟨_,cZ hj,hb⟩)
 have l6:∀b∈rs.flatMap (λp:kV=>bC p.1),b<w.heap.size:=λb hb=>(En.rows rs).lt w hp b (aI.2 hb)
 refine H.CZ i _ hi (f.mono λx _ hx=>rU x hx) ⟨λp hm=>?_,L4 hj hp.2 (Jh _) λx hx=>(hb x hx).imp id λh hm=>by have:=l6 x hm;omega⟩ λb hm=>?_
 .rcases vn hm with rfl|⟨k,hk,Ic⟩
  .exact ho
  .exact (hp.1 p (cZ Ic)).gV λb eD hl=>f.gV b hl λjf=>Bo hp.2 Ic hj hk b eD jf
 .obtain ⟨p,hm,hbp⟩:=mY.1 (aI.1 hm)
  rcases vn hm with rfl|⟨k,_,Ic⟩
  .exact (hb b hbp).imp (rU b) id
  .exact .inl (aI.2 (mY.2 ⟨p,cZ Ic,hbp⟩))
theorem _root_.Go.W.LH.Ht (H:LH M w0 w L D) (i j:Nat) {ty:TypeId} {rs:List kV} {s src:Sl} {vs news:List Value} {K:Sl->World->Prop} (hi:L[i]? =some (.rows rs)) (hj:rs[j]? =some (s,vs)) (hr:jO 4 w src news) (h1:∀u∈news,u.oneCell'=true) (hb:(s.n+src.n) *40<=140737488355328)
  (hK:∀s' w',LH M w0 w' (L.set i (.rows (rs.set j (s',vs++news)))) D->s'.n=s.n+src.n->(s'.a=none->s.a=none/\src.n=0)->K s' w') (jf:∀b∈bs,En.g b∈L:=by simp):
  ∃s' w',(Builtin.append_ #[aE,aE] ty #[s.v,src.v]).run Tryz.prog w=.ok s'.v w'/\kept bs w w'/\K s' w':=by
 have hp:(En.rows rs).P w:=H.get i hi
 obtain ⟨s',w',g1,g2,g3,g4,g5,g6⟩:=pY (ty:=ty) yJ (hp.1 _ (cZ hj)) hr.2.2 hr.1 h1 hb
 refine ⟨s',w',g1,λb eD=>?_,hK s' w' (zr H i j hi hj g4 g2 g5) g3 g6⟩
 refine g4.gV b (H.own _ (jf b eD)) λhm=>?_
 exact yT H hi (jf b eD) (aI.2 (mY.2 ⟨_,cZ hj,hm⟩))
theorem _root_.Go.W.LH.IM (H:LH M w0 w L D) (i j a c:Nat) {rs:List kV} {s:Sl} {vs:List Value} {v:Value} {p:Addr} {K:World->Prop} (hi:L[i]? =some (.rows rs)) (hj:rs[j]? =some (s,vs)) (hp:s.a=some p) (hl:a+c<vs.length)
  (hK:∀w',LH M w0 w' (L.set i (.rows (rs.set j (s,vs.set (a+c) v)))) D->K w') (jf:∀b∈bs,En.g b∈L:=by simp):bX w ((p.add a).add c) v λw1=>kept bs w w1/\K w1:=by
 have hP:(En.rows rs).P w:=H.get i hi
 obtain ⟨q,hq,hqb,x1,x2,x3,x4⟩:=Co (hP.1 _ (cZ hj)) (a+c) hl v
 rw [hp] at hq
 cases hq
 rw [add_add]
 refine ⟨x1,x2,λb hb=>?_,hK _ (zr H i j hi hj x4 x3 λb hb=>.inl hb)⟩
 exact x4.gV b (H.own _ (jf b hb)) λhm=>yT H hi (jf b hb) (aI.2 (mY.2 ⟨_,cZ hj,hm⟩))
theorem _root_.Go.W.LH.B7 (H:LH M w0 w L D) (i j:Nat) {rs:List kV} {s:Sl} {vs:List Value} (hi:L[i]? =some (.rows rs)) (hj:rs[j]? =some (s,vs)):LH M w0 w (L.set i (.rows (rs.set j (⟨none,0,0⟩,[])))) (D++[.jh 4 s vs]):=by
 have hp:(En.rows rs).P w:=H.get i hi
 have H1:=zr H i j hi hj (Fr.refl _ _) (aP.nil w aB 4) (λb hb=>by simp [bC] at hb)
 have rU:∀b∈bC s,b∈(En.rows rs).fp:=λb hb=>aI.2 (mY.2 ⟨_,cZ hj,hb⟩)
 have Rk:i<L.length:=(oN.1 hi).1
 refine ⟨H1.fr,H1.own,λe he=>?_,H1.new,H1.nd,λe he b hb e' mI eD=>?_⟩
 .rcases fW.1 he with he|he
  .exact H1.rd e he
  .simp at he;subst he
   exact (hp.1 _ (cZ hj)).jh
 .rcases fW.1 he with he|he
  .exact H1.dj e he b hb e' mI eD
  .simp at he;subst he
   have jf:b∈bC s:=fQ (e:=aB) hb
   rcases vn mI with rfl|⟨k,hk,hke⟩
   .obtain ⟨q,hq,V0⟩:=mY.1 (aI.1 eD)
    rcases vn hq with rfl|⟨k,hk,hkq⟩
    .simp [bC] at V0
    .exact Bo hp.2 hkq hj hk b V0 jf
   .exact oZ H.nd hi hke (λe=>hk e.symm) b (rU b jf) eD
end
structure FX where
 k:Int
 ar:Sl×List Rx
 al:List Rx
 an:List Rx
 ca:List Rx
 n:Nat
 la:Rx
structure FM where
 k:Int
 ar:Sl×List Rt
 al:Sl×List Rt
 an:Sl×List Rt
 ca:Sl×List Rt
 n:Nat
 la:Rt
def FM.x (f:FM):FX:=⟨f.k,(f.ar.1,Rt.bU f.ar.2),Rt.bU f.al.2,Rt.bU f.an.2,Rt.bU f.ca.2,f.n,f.la.rx⟩
def FM.c (f:FM):List Value:=[.int .i64 f.k,f.ar.1.v,f.al.1.v,f.an.1.v,f.ca.1.v,.int .i64 (f.n:Int),.int .i64 f.la.k,.int .u8 (f.la.lo.toNat:Int),.int .u8 (f.la.hi.toNat:Int),f.la.s.v]
def FM.rows (f:FM):List kV:=[(f.ar.1,f.ar.2.flatMap Rt.c),(f.al.1,f.al.2.flatMap Rt.c),(f.an.1,f.an.2.flatMap Rt.c),(f.ca.1,f.ca.2.flatMap Rt.c)]
def FM.ts (f:FM):List Rt:=f.ar.2++f.al.2++f.an.2++f.ca.2++[f.la]
theorem FM.xd (f:FM):f.c.length=10:=rfl
theorem sC (fs:List FM):(fs.flatMap FM.c).length=fs.length *10:=oh FM.c 10 FM.xd fs
abbrev SL (rb:Nat) (sl:Sl) (st wd:Int) (cs:List Value) (rs:List kV):List En:=[.c rb [sl.v,.int .i64 st,.int .i64 wd] gX,.row cA 10 sl cs,.rows rs]
def St (w:World) (rb:Nat) (f0:Addr) (lo:List FX) (tp:FX) (st wd:Int) (own:List Nat) (ts:List Rt):Prop:=
 ∃(sl:Sl) (fs:List FM) (f:FM) (p:Addr),fs.map FM.x=lo/\f.x=tp/\(∀g∈fs++[f],∀t∈g.ts,t∈ts)/\sl.a=some p/\f0=p.add (fs.length *10)/\
  own=(SL rb sl st wd ((fs++[f]).flatMap FM.c) ((fs++[f]).flatMap FM.rows)).flatMap (·.fp)/\own.Nodup/\(∀e∈SL rb sl st wd ((fs++[f]).flatMap FM.c) ((fs++[f]).flatMap FM.rows),e.P w)/\Rt.Ps w ts/\∀b∈Rt.gK ts,b∉own
def rP (w:World) (own:List Nat) (ts:List Rt) (rb:Nat) (f0:Addr) (lo:List FX) (tp:FX) (st wd:Int) (A:List Rt->Prop) (w':World):Prop:=∃jo lF,St w' rb f0 lo tp st wd jo lF/\Fr (·∈own) w w'/\(∀x∈jo,x∈own\/w.heap.size<=x)/\(∀b∈Rt.gK lF,b∈Rt.gK ts\/b∈own\/w.heap.size<=b)/\(∀t∈ts,t∈lF)/\A lF
theorem rP.then {w w1 w':World} {own oL:List Nat} {ts Uy:List Rt} {rb:Nat} {f0:Addr} {lo:List FX} {tp:FX} {st wd:Int} {A:List Rt->Prop} (f1:Fr (·∈own) w w1) (o1:∀x∈oL,x∈own\/w.heap.size<=x) (b1:∀b∈Rt.gK Uy,b∈Rt.gK ts\/b∈own\/w.heap.size<=b) (t1:∀t∈ts,t∈Uy) (h:rP w1 oL Uy rb f0 lo tp st wd A w'):rP w own ts rb f0 lo tp st wd A w':=by
 obtain ⟨Ua,CY,s2,f2,o2,b2,t2,a2⟩:=h
 refine ⟨Ua,CY,s2,f1.trans f2 λx hx hm=>(o1 x hm).resolve_right λh=>by omega,λx hx=>?_,λb hb=>?_,λt ht=>t2 t (t1 t ht),a2⟩
 .rcases o2 x hx with h|h
  .exact o1 x h
  .exact .inr (Nat.le_trans f1.size h)
 .rcases b2 b hb with h|h|h
  .exact b1 b h
  .exact .inr (o1 b h)
  .exact .inr (.inr (Nat.le_trans f1.size h))
theorem rP.mono {w w':World} {own:List Nat} {ts:List Rt} {rb:Nat} {f0:Addr} {lo:List FX} {tp:FX} {st wd:Int} {A B:List Rt->Prop} (h:rP w own ts rb f0 lo tp st wd A w') (Gl:∀l,A l->B l):rP w own ts rb f0 lo tp st wd B w':=by
 obtain ⟨Ua,CY,s2,f2,o2,b2,t2,a2⟩:=h
 exact ⟨Ua,CY,s2,f2,o2,b2,t2,Gl _ a2⟩
def _root_.Go.W.En.stt (rb:Nat) (f0:Addr) (lo:List FX) (tp:FX) (st wd:Int) (own:List Nat) (ts:List Rt):En:=⟨Is (own++Rt.gK ts),λw=>St w rb f0 lo tp st wd own ts,λw w' h hp=>(by
 obtain ⟨sl,fs,g,p,h1,h2,h3,h4,h5,h6,h7,h8,h9,B8⟩:=hp
 refine ⟨sl,fs,g,p,h1,h2,h3,h4,h5,h6,h7,λe he=>e.st w w' (λb hb hl=>h b (aI.2 (qmL _ ?_)) hl) (h8 e he),Rt.keeps ts (λb hb hl=>h b (aI.2 (qmR _ hb)) hl) h9,B8⟩
 rw [h6]
 exact mY.2 ⟨e,he,hb⟩),λw hp b hb=>(by
 obtain ⟨sl,fs,g,p,h1,h2,h3,h4,h5,h6,h7,h8,h9,B8⟩:=hp
 rcases fW.1 (aI.1 hb) with hb|hb
 .rw [h6] at hb
  obtain ⟨e,he,rf⟩:=mY.1 hb
  exact e.lt w (h8 e he) b rf
 .exact Rt.XX ts h9 b hb),mU _⟩
theorem Qi (rb:Nat) (f0:Addr) (lo:List FX) (tp:FX) (st wd:Int) (own:List Nat) (ts:List Rt) (w:World) (b:Nat):¬(En.stt rb f0 lo tp st wd own ts).P ({w with heap:=Array.replicate (b+1) (.map #[] 0)}):=by
 rintro ⟨sl,fs,g,p,h1,h2,h3,h4,h5,h6,h7,h8,h9,B8⟩
 have:=h8 (.c rb [sl.v,.int .i64 st,.int .i64 wd] gX) (by simp)
 have h:({w with heap:=Array.replicate (b+1) (.map #[] 0)}:World).heap[rb]? =some (.cells #[sl.v,.int .i64 st,.int .i64 wd] gX (0,0)):=this
 simp [Array.getElem?_replicate] at h
theorem St.se {w:World} {rb:Nat} {sl:Sl} {fs:List FM} {f:FM} {ts:List Rt} {st wd:Int} {own:List Nat} (h6:own=(SL rb sl st wd ((fs++[f]).flatMap FM.c) ((fs++[f]).flatMap FM.rows)).flatMap (·.fp)) (h7:own.Nodup) (h8:∀e∈SL rb sl st wd ((fs++[f]).flatMap FM.c) ((fs++[f]).flatMap FM.rows),e.P w) (h9:Rt.Ps w ts) (B8:∀b∈Rt.gK ts,b∉own):
  LH (·∈own) w w (SL rb sl st wd ((fs++[f]).flatMap FM.c) ((fs++[f]).flatMap FM.rows)) [.trees ts]:=by
 refine LH.zD _ _ (λe he=>⟨h8 e he,λb hb=>by rw [h6];exact mY.2 ⟨e,he,hb⟩⟩) (h6▸h7) λe he=>?_
 simp only [cU,qnM,or_false] at he
 subst he
 refine ⟨h9,λb hb e' mI eD=>B8 b (aI.1 hb) ?_⟩
 rw [h6]
 exact mY.2 ⟨e',mI,eD⟩
theorem St.of {w w':World} {rb:Nat} {f0:Addr} {sl:Sl} {fs:List FM} {f:FM} {ts lF:List Rt} {st wd:Int} {own:List Nat} {p:Addr} {D:List En} {A:List Rt->Prop} (H:LH (·∈own) w w' (SL rb sl st wd ((fs++[f]).flatMap FM.c) ((fs++[f]).flatMap FM.rows)) D) (i:Nat) (hD:D[i]? =some (.trees lF)) (ht:∀g∈fs++[f],∀t∈g.ts,t∈lF) (hp:sl.a=some p) (h0:f0=p.add (fs.length *10)) (hb:∀b∈Rt.gK lF,b∈Rt.gK ts\/b∈own\/w.heap.size<=b) (Fy:∀t∈ts,t∈lF) (hA:A lF):
  rP w own ts rb f0 (fs.map FM.x) f.x st wd A w':=by
 refine ⟨_,lF,⟨sl,fs,f,p,rfl,rfl,ht,hp,h0,rfl,H.nd,H.own,H.getD i hD,λb hb hm=>?_⟩,H.fr,λx hx=>?_,hb,Fy,hA⟩
 .obtain ⟨e,he,rf⟩:=mY.1 hm
  exact H.dj _ (cZ hD) b (aI.2 hb) e he rf
 .obtain ⟨e,he,rf⟩:=mY.1 hx
  exact (H.new e he x rf).symm
section
variable {M:Nat->Prop} {w0 w:World} {L D:List En} {bs:List Nat}
theorem _root_.Go.W.LH.y7 (H:LH M w0 w L D) (i:Nat) {sl:Sl} {fs:List FM} {f:FM} {p:Addr} (hi:L[i]? =some (.row cA 10 sl ((fs++[f]).flatMap FM.c))) (hp:sl.a=some p) (j:Nat) {v:Value} (hj:f.c[j]? =some v:=by rfl):w.cell? ((p.add (fs.length *10)).add j)=some v:=by
 have ho:aP w cA 10 sl ((fs++[f]).flatMap FM.c):=H.get i hi
 have hk:((fs++[f]).flatMap FM.c)[fs.length *10+j]? =some v:=by
  rw [qfA,List.getElem?_append_right (by rw [sC];omega),sC]
  simpa using hj
 obtain ⟨q,hq,hc⟩:=ho.jh.2.2.2 _ _ hk
 rw [hp] at hq
 cases hq
 rw [add_add]
 exact hc
theorem Jw (fs:List FM) (f f':FM) (j:Nat) (v:Value) (hj:j<10) (h:f.c.set j v=f'.c):((fs++[f]).flatMap FM.c).set (fs.length *10+j) v=(fs++[f']).flatMap FM.c:=by
 rw [qfA,qfA,List.set_append,if_neg (by rw [sC];omega),sC]
 simp only [qfC,List.flatMap_nil,qaN,Nat.add_sub_cancel_left]
 rw [h]
theorem _root_.Go.W.LH.CX (H:LH M w0 w L D) (i:Nat) {sl:Sl} {fs:List FM} {f:FM} {p:Addr} {K:World->Prop} {v:Value} (f':FM) (j:Nat) (hi:L[i]? =some (.row cA 10 sl ((fs++[f]).flatMap FM.c))) (hp:sl.a=some p) (hj:j<10) (hc:f.c.set j v=f'.c)
  (hK:∀w',LH M w0 w' (L.set i (.row cA 10 sl ((fs++[f']).flatMap FM.c))) D->K w') (jf:∀b∈bs,En.g b∈L:=by simp):bX w ((p.add (fs.length *10)).add j) v λw1=>kept bs w w1/\K w1:=
 H.Bv i (fs.length *10) j hi hp (by rw [sC];simp;omega) (λw' H'=>hK w' (by rw [Jw fs f f' j v hj hc] at H';exact H')) jf
theorem CE {w:World} {p:Addr} {v:Value} {K:World->Prop} (h:bX w p v λw1=>kept [] w w1/\K w1):bX w p v K:=pg h λ_ h=>h.2
end
theorem pM:∀fs:List FM,(fs.flatMap FM.rows).length=fs.length *4
 |[]=>rfl
 |f::fs=>by
  have:=pM fs
  simp only [qfC,List.length_append,List.length_cons]
  have:f.rows.length=4:=rfl
  omega
theorem zq (fs:List FM) (f:FM) (j:Nat) (x:kV) (hj:j<4):((fs++[f]).flatMap FM.rows).set (fs.length *4+j) x=fs.flatMap FM.rows++f.rows.set j x:=by
 have hl:=pM fs
 rw [qfA,List.set_append,if_neg (by omega),hl]
 simp
theorem ot (fs:List FM) (f:FM) (j:Nat) (x:kV) (hx:f.rows[j]? =some x):((fs++[f]).flatMap FM.rows)[fs.length *4+j]? =some x:=by
 have hl:=pM fs
 rw [qfA,List.getElem?_append_right (by omega),hl]
 simpa using hx
def oK (k:Int) (s:Sl) (ts:List Rt):Rt:=match ts with |[x]=>x|l=>.mk k 0 0 s l
def Cl (k:Int) (l:List Rx):Rx:=match l with |[x]=>x|l=>.mk k 0 0 l
theorem Ck (k:Int) (s:Sl) (ts:List Rt):(oK k s ts).rx=Cl k (Rt.bU ts):=by
 match ts with
 |[]=>rfl
 |[x]=>rfl
 |x::y::l=>rfl
theorem PD {k:Int} {s:Sl} {ts:List Rt} {b:Nat} (h:b∈(oK k s ts).fp):b∈(Rt.row s ts).fp\/b∈Rt.gK ts:=by
 match ts,h with
 |[],h=>exact Rt.eJ.1 (show b∈(Rt.mk k 0 0 s []).fp from h)
 |[x],h=>exact .inr (Rt.bD.2 ⟨x,by simp,h⟩)
 |x::y::l,h=>exact Rt.eJ.1 (show b∈(Rt.mk k 0 0 s (x::y::l)).fp from h)
theorem FU (k:Int) (s:Sl) (ts:List Rt) (w:World) (h:jO 4 w s (ts.flatMap Rt.c)):Calls Tryz.prog iY #[.int .i64 k,s.v] w λr w'=>r=.returned (oK k s ts).v/\bI w w':=by
 have nr:=Rt.cC h
 refine regex_one.cV _ _ w _ ((mu [Rt.row s ts] (by
  intro e he
  simp only [cU,qnM,or_false] at he
  subst he
  exact h)).bJ λb4 w1 H1=>aH (λh1=>⟨by omega,by omega,?_⟩) (λh1=>H1.aK λw2 H2=>⟨?_,H2.fr⟩))
 .have hl:ts.length=1:=by omega
  obtain ⟨x,rfl⟩:=List.length_eq_one_iff.1 hl
  refine Rt.at' (H1.getD 0) (i:=0) (t:=x) rfl λp hp c=>⟨_,_,_,_,c.c0,c.c1,c.c2,c.c3,H1.aK λw2 H2=>⟨rfl,H2.fr⟩⟩
 .match ts,nr with
  |[],_=>rfl
  |[x],nr=>simp at nr;omega
  |x::y::l,_=>rfl
section
variable {M:Nat->Prop} {w0 w:World} {L D:List En} {bs:List Nat}
theorem _root_.Go.W.LH.node (H:LH M w0 w L D) (i:Nat) {ts ks:List Rt} {s:Sl} (k:Int) (lo hi:UInt8) (vT:D[i]? =some (.trees ts)) (hr:Rt.row s ks∈D) (hk:∀t∈ks,t∈ts):LH M w0 w L [.trees (ts++[.mk k lo hi s ks])]:=by
 have pt:Rt.Ps w ts:=H.getD i vT
 have H1:=H.mE (.trees (ts++[.mk k lo hi s ks])) (Fr.refl _ _) (Rt.oq λt ht=>?_) λb hb=>.inr (.inr ?_)
 .exact H1.forget _ (by simp)
 .rcases fW.1 ht with ht|ht
  .exact pt.mem ht
  .simp at ht;subst ht
   unfold Rt.P
   exact ⟨H.rd _ hr,Rt.oq λt ht=>pt.mem (hk t ht)⟩
 .obtain ⟨t,ht,eD⟩:=Rt.bD.1 (aI.1 hb)
  rcases fW.1 ht with ht|ht
  .exact ⟨_,cZ vT,aI.2 (Rt.bD.2 ⟨t,ht,eD⟩)⟩
  .simp at ht
   rw [ht] at eD
   rcases Rt.eJ.1 eD with h|h
   .exact ⟨_,hr,h⟩
   .obtain ⟨t',np,B9⟩:=Rt.bD.1 h
    exact ⟨_,cZ vT,aI.2 (Rt.bD.2 ⟨t',hk t' np,B9⟩)⟩
theorem _root_.Go.W.LH.Iq (H:LH M w0 w L D) (i:Nat) {ts ks:List Rt} {s:Sl} (k:Int) (vT:D[i]? =some (.trees ts)) (hr:Rt.row s ks∈D) (hk:∀t∈ks,t∈ts):LH M w0 w L [.trees (ts++[oK k s ks])]:=by
 match ks,hr,hk with
 |[],hr,hk=>exact H.node i k 0 0 vT hr hk
 |x::y::l,hr,hk=>exact H.node i k 0 0 vT hr hk
 |[x],hr,hk=>
  have pt:Rt.Ps w ts:=H.getD i vT
  have hx:=hk x (by simp)
  have H1:=H.mE (.trees (ts++[x])) (Fr.refl _ _) (Rt.oq λt ht=>?_) λb hb=>.inr (.inr ?_)
  .exact H1.forget _ (by simp [oK])
  .rcases fW.1 ht with ht|ht
   .exact pt.mem ht
   .simp at ht;subst ht
    exact pt.mem hx
  .obtain ⟨t,ht,eD⟩:=Rt.bD.1 (aI.1 hb)
   rcases fW.1 ht with ht|ht
   .exact ⟨_,cZ vT,aI.2 (Rt.bD.2 ⟨t,ht,eD⟩)⟩
   .simp at ht
    rw [ht] at eD
    exact ⟨_,cZ vT,aI.2 (Rt.bD.2 ⟨x,hx,eD⟩)⟩
abbrev z4:List Value:=[.int .i64 0,.int .u8 0,.int .u8 0,.slice none 0 0]
theorem xU (vs u:List Value) (n j:Nat) (v:Value) (hn:vs.length=n):(vs++u).set (n+j) v=vs++u.set j v:=by
 rw [List.set_append,if_neg (by omega)]
 congr 2
 omega
theorem _root_.Go.W.LH.J3 (H:LH M w0 w L D) (i j n:Nat) {rs:List kV} {s:Sl} {vs:List Value} {p:Addr} {K:World->Prop} (t:Rt) (hi:L[i]? =some (.rows rs)) (hj:rs[j]? =some (s,vs++z4)) (hp:s.a=some p) (hn:vs.length=n *4)
  (hK:∀w',LH M w0 w' (L.set i (.rows (rs.set j (s,vs++t.c)))) D->K w') (jf:∀b∈bs,En.g b∈L):
  bX w (p.add (Int.toNat (n:Int) *4)) (.int .i64 t.k) λw1=>kept bs w w1/\bX w1 ((p.add (Int.toNat (n:Int) *4)).add 1) (.int .u8 (t.lo.toNat:Int)) λw2=>kept bs w1 w2/\bX w2 ((p.add (Int.toNat (n:Int) *4)).add 2) (.int .u8 (t.hi.toNat:Int)) λw3=>kept bs w2 w3/\bX w3 ((p.add (Int.toNat (n:Int) *4)).add 3) t.s.v λw4=>kept bs w3 w4/\K w4:=by
 rw [Int.toNat_natCast]
 have Rk:i<L.length:=(oN.1 hi).1
 have Gq:j<rs.length:=(oN.1 hj).1
 have gs:∀{L':List En} (e:En),L'.length=L.length->(L'.set i e)[i]? =some e:=λ{L'} e hl=>by rw [qgSS (by omega)]
 have gr:∀(PV:List kV) (x:kV),PV.length=rs.length->(PV.set j x)[j]? =some x:=λPV x hl=>by rw [qgSS (by omega)]
 have hg:∀{b:Nat},En.g b∈L->∀(PV:List kV),En.g b∈L.set i (.rows PV):=λ{b} hb PV=>by
  obtain ⟨k,hk⟩:=KF.1 hb
  by_cases O3:i=k
  .subst O3
   exfalso
   rw [hi] at hk
   have hP:(En.rows rs).P w:=H.get i hi
   have e1:En.rows rs=En.g b:=Option.some.inj hk
   have Gp:(En.rows rs).fp=[b]:=by rw [e1];rfl
   have eD:b∈(En.rows rs).fp:=by rw [Gp];simp
   have hM:rs≠[]:=by rintro rfl;simp at Gq
   refine EK rs hM w b eD ?_
   rw [e1]
   show b<_
   simp
  .exact KF.2 ⟨k,by rw [List.getElem?_set_ne O3];exact hk⟩
 have N7:=H.IM (bs:=bs) i j (n *4) 0 (v:=.int .i64 t.k) (K:=λw1=>bX w1 ((p.add (n *4)).add 1) (.int .u8 (t.lo.toNat:Int)) λw2=>kept bs w1 w2/\bX w2 ((p.add (n *4)).add 2) (.int .u8 (t.hi.toNat:Int)) λw3=>kept bs w2 w3/\bX w3 ((p.add (n *4)).add 3) t.s.v λw4=>kept bs w3 w4/\K w4) hi hj hp (by simp [hn]) ?_ jf
 .rw [uH] at N7
  exact N7
 intro w1 H1
 rw [xU vs z4 (n *4) 0 _ hn] at H1
 refine H1.IM (bs:=bs) i j (n *4) 1 (gs _ rfl) (gr _ _ rfl) hp (by simp [hn]) ?_ (λb hb=>hg (jf b hb) _)
 intro w2 H2
 rw [xU vs _ (n *4) 1 _ hn,List.set_set,List.set_set] at H2
 refine H2.IM (bs:=bs) i j (n *4) 2 (gs _ rfl) (gr _ _ rfl) hp (by simp [hn]) ?_ (λb hb=>hg (jf b hb) _)
 intro w3 H3
 rw [xU vs _ (n *4) 2 _ hn,List.set_set,List.set_set] at H3
 refine H3.IM (bs:=bs) i j (n *4) 3 (gs _ rfl) (gr _ _ rfl) hp (by simp [hn]) ?_ (λb hb=>hg (jf b hb) _)
 intro w4 H4
 rw [xU vs _ (n *4) 3 _ hn,List.set_set,List.set_set] at H4
 exact hK w4 H4
theorem _root_.Go.W.LH.MF (H:LH M w0 w L D) (i:Nat) {sl:Sl} {fs:List FM} {f:FM} {p:Addr} (hi:L[i]? =some (.row cA 10 sl ((fs++[f]).flatMap FM.c))) (hp:sl.a=some p):
  w.cell? (((p.add (fs.length *10)).add 6).add 0)=some (.int .i64 f.la.k)/\w.cell? (((p.add (fs.length *10)).add 6).add 1)=some (.int .u8 (f.la.lo.toNat:Int))/\w.cell? (((p.add (fs.length *10)).add 6).add 2)=some (.int .u8 (f.la.hi.toNat:Int))/\w.cell? (((p.add (fs.length *10)).add 6).add 3)=some f.la.s.v:=by
 refine ⟨?_,?_,?_,?_⟩
 .rw [uH];exact H.y7 i hi hp 6
 .rw [add_add];exact H.y7 i hi hp 7
 .rw [add_add];exact H.y7 i hi hp 8
 .rw [add_add];exact H.y7 i hi hp 9
end
def Av:Nat->Rx->Rx
 |0,r=>r
 |n+1,r=>Av n (.mk 6 0 0 [r])
def gZ (f:FX):FX:=⟨f.k,f.ar,f.al,f.an,f.ca++[Av f.n f.la],0,f.la⟩
theorem AO {w:World} {rb:Nat} {f0:Addr} {lo:List FX} {tp:FX} {st wd:Int} {own:List Nat} {ts:List Rt} (h:St w rb f0 lo tp st wd own ts) (hn:tp.n<=1000000) (hc:tp.ca.length<=1000000):
  Calls Tryz.prog iF #[.pointer (some f0)] w λr w'=>r=.returned (.tuple #[])/\rP w own ts rb f0 lo (gZ tp) st wd (λ_=>True) w':=by
 obtain ⟨sl,fs,f,p,rfl,rfl,h3,h4,rfl,h6,h7,h8,h9,B8⟩:=h
 have H:=St.se h6 h7 h8 h9 B8
 have Ib:f.la∈ts:=h3 f (by simp) _ (by simp [FM.ts])
 have A6:f.ca.2.length<=1000000:=by
  have:f.x.ca.length=f.ca.2.length:=by show (Rt.bU f.ca.2).length=_;rw [Rt.eW];simp
  omega
 have loop:∀(m:Nat) (r:Rt) (lF:List Rt) (b2:Nat) (w1:World),m<=1000000->(∀t∈ts,t∈lF)->(∀b∈Rt.gK lF,b∈Rt.gK ts\/b∈own\/w.heap.size<=b)->r∈lF->Av m r.rx=Av f.n f.la.rx->
   LH (·∈own) w w1 (SL rb sl st wd ((fs++[(⟨f.k,f.ar,f.al,f.an,f.ca,m,f.la⟩:FM)]).flatMap FM.c) ((fs++[f]).flatMap FM.rows)++[.g b2]) [.trees lF]->
   regex_frame_endItem.eH (p.add (fs.length *10)) b2 r.k r.lo.toNat r.hi.toNat r.s w1 λr w'=>r=.returned (.tuple #[])/\rP w own ts rb (p.add (fs.length *10)) (fs.map FM.x) (gZ f.x) st wd (λ_=>True) w':=by
  intro m
  induction m with
  |zero=>
   intro r lF b2 w1 _ Fy A5 hr he H1
   refine regex_frame_endItem.bA _ _ _ _ _ _ _ _ ⟨0,H1.y7 1 rfl h4 5,aL rfl (H1.aK λw2 H2=>⟨_,H2.y7 1 rfl h4 4,?_⟩)⟩
   have jN:((fs++[f]).flatMap FM.rows)[fs.length *4+3]? =some (f.ca.1,f.ca.2.flatMap Rt.c):=ot fs f 3 _ rfl
   have nr:f.ca.1.n=f.ca.2.length:=by
    have hp:(En.rows ((fs++[f]).flatMap FM.rows)).P w2:=H2.get 2
    exact Rt.cC (hp.1 _ (cZ jN)).jh
   refine H2.iH (e:=aB) (sz:=4) (n:=1) (cs:=z4) rfl (by decide) λw3 H3=>⟨H3.y7 1 rfl h4 4,?_⟩
   refine H3.Ht (bs:=[b2]) 2 (fs.length *4+3) (src:=⟨some (bF w2.heap.size),1,1⟩) (news:=z4) rfl jN (aP.jh (H3.get 4)) (by simp [Value.oneCell']) (by show (f.ca.1.n+1) *40<=_;omega) (λs' w4 H4 wu qK=>⟨by omega,by rw [wu];show ((f.ca.1.n:Nat):Int)<((f.ca.1.n+1:Nat):Int);omega,?_⟩)
   obtain ⟨q,hq⟩:∃q,s'.a=some q:=by
    cases hs:s'.a with
    |none=>have:=(qK hs).2;simp at this
    |some q=>exact ⟨q,rfl⟩
   rw [hq]
   have Gq:fs.length *4+3<((fs++[f]).flatMap FM.rows).length:=by rw [pM];simp;omega
   have H5:LH (·∈own) w w4 (SL rb sl st wd ((fs++[(⟨f.k,f.ar,f.al,f.an,f.ca,0,f.la⟩:FM)]).flatMap FM.c) (((fs++[f]).flatMap FM.rows).set (fs.length *4+3) (s',f.ca.2.flatMap Rt.c++z4))++[.g b2]) [.trees lF]:=H4.take 4
   have fin:∀{w':World},LH (·∈own) w w' (SL rb sl st wd ((fs++[(⟨f.k,f.ar,f.al,f.an,(s',f.ca.2++[r]),0,f.la⟩:FM)]).flatMap FM.c) (((fs++[f]).flatMap FM.rows).set (fs.length *4+3) (s',f.ca.2.flatMap Rt.c++r.c))++[.g b2]) [.trees lF]->
     (Ending.returned (.tuple #[])=.returned (.tuple #[])/\rP w own ts rb (p.add (fs.length *10)) (fs.map FM.x) (gZ f.x) st wd (λ_=>True) w'):=λ{w'} H'=>by
    refine ⟨rfl,?_⟩
    have e1:((fs++[f]).flatMap FM.rows).set (fs.length *4+3) (s',f.ca.2.flatMap Rt.c++r.c)=(fs++[(⟨f.k,f.ar,f.al,f.an,(s',f.ca.2++[r]),0,f.la⟩:FM)]).flatMap FM.rows:=by
     rw [zq fs f 3 _ (by omega),qfA]
     congr 1
     simp [FM.rows]
    rw [e1] at H'
    have:=St.of (ts:=ts) (A:=λ_=>True) (f0:=p.add (fs.length *10)) (H'.take 3) 0 rfl (λg hg t ht=>?_) h4 rfl A5 Fy trivial
    .have e2:(FM.x ⟨f.k,f.ar,f.al,f.an,(s',f.ca.2++[r]),0,f.la⟩)=gZ f.x:=by
      unfold FM.x gZ
      simp only [kh]
      have:Rt.bU [r]=[Av f.n f.la.rx]:=by rw [<-he];rfl
      rw [this]
     rw [e2] at this
     exact this
    .rcases fW.1 hg with hg|hg
     .exact Fy t (h3 g (by simp [hg]) t ht)
     .simp at hg;subst hg
      simp only [FM.ts,fW,cU,qnM,or_false] at ht
      rcases ht with (((ht|ht)|ht)|(ht|rfl))|rfl
      .exact Fy t (h3 f (by simp) t (by simp [FM.ts,ht]))
      .exact Fy t (h3 f (by simp) t (by simp [FM.ts,ht]))
      .exact Fy t (h3 f (by simp) t (by simp [FM.ts,ht]))
      .exact Fy t (h3 f (by simp) t (by simp [FM.ts,ht]))
      .exact hr
      .exact Fy _ Ib
   refine ⟨?_,?_⟩
   .rw [nr]
    refine H5.J3 (bs:=[b2]) 2 (fs.length *4+3) f.ca.2.length r rfl (qgSS Gq) hq (Rt.iL _) (λw' H6=>?_) (by simp)
    rw [List.set_set] at H6
    exact H6.CX (bs:=[b2]) (f:=⟨f.k,f.ar,f.al,f.an,f.ca,0,f.la⟩) 1 ⟨f.k,f.ar,f.al,f.an,(s',f.ca.2++[r]),0,f.la⟩ 4 rfl h4 (by omega) rfl (λtq H7=>fin H7) (by simp)
   .refine H5.CX (bs:=[b2]) (f:=⟨f.k,f.ar,f.al,f.an,f.ca,0,f.la⟩) 1 ⟨f.k,f.ar,f.al,f.an,(s',f.ca.2++[r]),0,f.la⟩ 4 rfl h4 (by omega) rfl (λw' H6=>?_) (by simp)
    rw [nr]
    refine LH.J3 (bs:=[b2]) (L:=SL rb sl st wd ((fs++[(⟨f.k,f.ar,f.al,f.an,(s',f.ca.2++[r]),0,f.la⟩:FM)]).flatMap FM.c) (((fs++[f]).flatMap FM.rows).set (fs.length *4+3) (s',f.ca.2.flatMap Rt.c++z4))++[.g b2]) H6 2 (fs.length *4+3) f.ca.2.length r rfl (qgSS Gq) hq (Rt.iL _) (λtq H7=>?_) (by simp)
    rw [List.set_set] at H7
    exact fin H7
  |succ m ih=>
   intro r lF b2 w1 hm Fy A5 hr he H1
   refine regex_frame_endItem.bA _ _ _ _ _ _ _ _ ⟨((m+1:Nat):Int),H1.y7 1 rfl h4 5,aQ (decide_eq_true (by omega)) ?_⟩
   refine H1.iH (e:=aB) (sz:=4) (n:=1) (cs:=r.c) rfl (by decide) λw2 H2=>H2.aK (bs:=[b2]) (λw3 H3=>⟨_,H3.y7 1 rfl h4 5,?_⟩) (by simp)
   have e:IntKind.wrap .i64 (((m+1:Nat):Int) - 1)=(m:Int):=by rw [IntWalk.i64_in _ (by omega)];omega
   show bX w3 _ (.int .i64 (IntKind.wrap .i64 (((m+1:Nat):Int) - 1))) _
   rw [e]
   refine H3.CX (bs:=[b2]) (f:=⟨f.k,f.ar,f.al,f.an,f.ca,m+1,f.la⟩) 1 ⟨f.k,f.ar,f.al,f.an,f.ca,m,f.la⟩ 5 rfl h4 (by omega) rfl (λw4 H4=>?_) (by simp)
   have H5:=H4.freeze 4 (Rt.row ⟨some (bF w1.heap.size),1,1⟩ [r]) rfl (by show jO 4 w4 _ ([r].flatMap Rt.c);rw [show [r].flatMap Rt.c=r.c by simp];exact aP.jh (H4.get 4)) (λb hb=>fQ (e:=aB) (vs:=[r].flatMap Rt.c) hb)
   have H6:=H5.node 0 6 0 0 (s:=⟨some (bF w1.heap.size),1,1⟩) (ks:=[r]) rfl (by simp) (λt ht=>by simp at ht;subst ht;exact hr)
   refine ih (.mk 6 0 0 ⟨some (bF w1.heap.size),1,1⟩ [r]) _ b2 w4 (by omega) (λt ht=>by simp [Fy t ht]) (λb hb=>?_) (by simp) he H6
   obtain ⟨t,ht,yV⟩:=Rt.bD.1 hb
   rcases fW.1 ht with ht|ht
   .exact A5 b (Rt.bD.2 ⟨t,ht,yV⟩)
   .simp at ht
    rw [ht] at yV
    rcases Rt.eJ.1 yV with h|h
    .have:=fQ (e:=aB) h
     simp [En.row,bC,Rt.s] at this
     subst this
     exact .inr (.inr H1.fr.size)
    .obtain ⟨t',np,eD⟩:=Rt.bD.1 h
     simp [Rt.l] at np
     rw [np] at eD
     exact A5 b (Rt.bD.2 ⟨r,hr,eD⟩)
 obtain ⟨c0,c1,c2,c3⟩:=H.MF 1 rfl h4
 have wu:f.n<=1000000:=hn
 refine regex_frame_endItem.cV _ w _ ⟨_,_,_,_,c0,c1,c2,c3,H.bJ (λb2 w1 H1=>H1.aK (λw2 H2=>?_) (by simp)) (by simp)⟩
 exact loop f.n f.la ts b2 w2 wu (λ_ h=>h) (λb hb=>.inl hb) Ib rfl H2
def FM.eU (f:FM) (j:Nat):Sl×List Rt:=if j=1 then f.ar else if j=2 then f.al else if j=3 then f.an else f.ca
def FM.put (f:FM) (j:Nat) (x:Sl×List Rt):FM:=⟨f.k,if j=1 then x else f.ar,if j=2 then x else f.al,if j=3 then x else f.an,if j=4 then x else f.ca,f.n,f.la⟩
theorem qF {j:Nat} (h1:1<=j) (h4:j<=4) {p:Nat->Prop} (a1:p 1) (a2:p 2) (a3:p 3) (a4:p 4):p j:=by
 have:j=1\/j=2\/j=3\/j=4:=by omega
 rcases this with rfl|rfl|rfl|rfl<;>assumption
theorem QX (f:FM) {j:Nat} (h1:1<=j) (h4:j<=4):f.c[j]? =some (f.eU j).1.v:=qF (p:=λj=>f.c[j]? =some (f.eU j).1.v) h1 h4 rfl rfl rfl rfl
theorem AU (f:FM) {j:Nat} (h1:1<=j) (h4:j<=4):f.rows[j - 1]? =some ((f.eU j).1,(f.eU j).2.flatMap Rt.c):=qF (p:=λj=>f.rows[j - 1]? =some ((f.eU j).1,(f.eU j).2.flatMap Rt.c)) h1 h4 rfl rfl rfl rfl
theorem EH (f:FM) (x:Sl×List Rt) {j:Nat} (h1:1<=j) (h4:j<=4):f.c.set j x.1.v=(f.put j x).c:=qF (p:=λj=>f.c.set j x.1.v=(f.put j x).c) h1 h4 rfl rfl rfl rfl
theorem WU (f:FM) (x:Sl×List Rt) {j:Nat} (h1:1<=j) (h4:j<=4):f.rows.set (j - 1) (x.1,x.2.flatMap Rt.c)=(f.put j x).rows:=qF (p:=λj=>f.rows.set (j - 1) (x.1,x.2.flatMap Rt.c)=(f.put j x).rows) h1 h4 rfl rfl rfl rfl
theorem Cp (f:FM) (x:Sl×List Rt) {j:Nat} (h1:1<=j) (h4:j<=4) {t:Rt} (ht:t∈(f.put j x).ts):t∈f.ts\/t∈x.2:=by
 refine qF (p:=λj=>t∈(f.put j x).ts->t∈f.ts\/t∈x.2) h1 h4 ?_ ?_ ?_ ?_ ht<;>
 .intro ht
  simp [FM.put,FM.ts] at ht ⊢
  rcases ht with h|h|h|h|h<;>simp [h]
theorem qY (f:FM) (j:Nat) {t:Rt} (ht:t∈(f.eU j).2):t∈f.ts:=by
 unfold FM.eU at ht
 unfold FM.ts
 split at ht
 .simp [ht]
 .split at ht
  .simp [ht]
  .split at ht
   .simp [ht]
   .simp [ht]
theorem PI (f:FM) (x:Sl×List Rt) {j i:Nat} (xL:i≠j) (hi:1<=i) (hi4:i<=4):(f.put j x).eU i=f.eU i:=by
 have:i=1\/i=2\/i=3\/i=4:=by omega
 unfold FM.put FM.eU
 rcases this with rfl|rfl|rfl|rfl
 .simp;intro h;omega
 .simp;intro h;omega
 .simp;intro h;omega
 .simp;intro h;omega
section
variable {w0 w:World} {own:List Nat} {rb:Nat} {sl:Sl} {st wd:Int} {fs:List FM} {f:FM} {ts:List Rt} {p:Addr}
abbrev FS (own:List Nat) (w0 w:World) (rb:Nat) (sl:Sl) (st wd:Int) (fs:List FM) (f:FM) (rs:List kV) (ts:List Rt):Prop:=LH (·∈own) w0 w (SL rb sl st wd ((fs++[f]).flatMap FM.c) rs) [.trees ts]
theorem td (fs:List FM) (f:FM) (x:Sl×List Rt) {j:Nat} (h1:1<=j) (h4:j<=4):((fs++[f]).flatMap FM.rows).set (fs.length *4+(j - 1)) (x.1,x.2.flatMap Rt.c)=(fs++[f.put j x]).flatMap FM.rows:=by
 rw [zq fs f (j - 1) _ (by omega),WU f x h1 h4,qfA]
 simp
theorem ED (H:FS own w0 w rb sl st wd fs f ((fs++[f]).flatMap FM.rows) ts) (hp:sl.a=some p) (d:Nat) (DV:1<=d) (DW:d<=4) (t:Rt) (hb:(f.eU d).2.length<=1000000) {w1:World} {src:Sl} (H1:LH (·∈own) w0 w1 (SL rb sl st wd ((fs++[f]).flatMap FM.c) ((fs++[f]).flatMap FM.rows)++[.row aB 4 src z4]) [.trees ts]) (TP:src.n=1) {K:World->Prop}
  (hK:∀s' w',FS own w0 w' rb sl st wd fs (f.put d (s',(f.eU d).2++[t])) ((fs++[f.put d (s',(f.eU d).2++[t])]).flatMap FM.rows) ts->K w'):
  ∃(t15:Sl) (w5:World),(Builtin.append_ #[aE,aE] aE #[(f.eU d).1.v,src.v]).run Tryz.prog w1=.ok (t15.v) w5/\(0:Int)<=(((f.eU d).1.n:Nat):Int)/\(((f.eU d).1.n:Nat):Int)<((t15.n:Nat):Int)/\aX t15.a λq=>((bX w5 (q.add (Int.toNat (((f.eU d).1.n:Nat):Int) *4)) (.int .i64 t.k) λw6=>bX w6 ((q.add (Int.toNat (((f.eU d).1.n:Nat):Int) *4)).add 1) (.int .u8 (t.lo.toNat:Int)) λw7=>bX w7 ((q.add (Int.toNat (((f.eU d).1.n:Nat):Int) *4)).add 2) (.int .u8 (t.hi.toNat:Int)) λw8=>bX w8 ((q.add (Int.toNat (((f.eU d).1.n:Nat):Int) *4)).add 3) t.s.v λw9=>bX w9 ((p.add (fs.length *10)).add d) t15.v K)/\
   (bX w5 ((p.add (fs.length *10)).add d) t15.v λrO=>bX rO (q.add (Int.toNat (((f.eU d).1.n:Nat):Int) *4)) (.int .i64 t.k) λw6=>bX w6 ((q.add (Int.toNat (((f.eU d).1.n:Nat):Int) *4)).add 1) (.int .u8 (t.lo.toNat:Int)) λw7=>bX w7 ((q.add (Int.toNat (((f.eU d).1.n:Nat):Int) *4)).add 2) (.int .u8 (t.hi.toNat:Int)) λw8=>bX w8 ((q.add (Int.toNat (((f.eU d).1.n:Nat):Int) *4)).add 3) t.s.v K)):=by
 have jN:((fs++[f]).flatMap FM.rows)[fs.length *4+(d - 1)]? =some ((f.eU d).1,(f.eU d).2.flatMap Rt.c):=ot fs f (d - 1) _ (AU f DV DW)
 have nr:(f.eU d).1.n=(f.eU d).2.length:=by
  have hp:(En.rows ((fs++[f]).flatMap FM.rows)).P w1:=H1.get 2
  exact Rt.cC (hp.1 _ (cZ jN)).jh
 obtain ⟨s',w5,h1,_,h3⟩:=H1.Ht (bs:=[]) (ty:=aE) 2 (fs.length *4+(d - 1)) (src:=src) (news:=z4) (K:=λs' w'=>FS own w0 w' rb sl st wd fs f (((fs++[f]).flatMap FM.rows).set (fs.length *4+(d - 1)) (s',(f.eU d).2.flatMap Rt.c++z4)) ts/\s'.n=(f.eU d).1.n+1/\∃q,s'.a=some q) rfl jN (aP.jh (H1.get 3)) (by simp [Value.oneCell']) (by omega) (λs' w4 H4 wu qK=>⟨H4.take 3,by omega,by
  cases hs:s'.a with
  |none=>have:=(qK hs).2;omega
  |some q=>exact ⟨q,rfl⟩⟩) (by simp)
 obtain ⟨H5,hn5,q,hq⟩:=h3
 refine ⟨s',w5,h1,by omega,by omega,?_⟩
 rw [hq]
 have Gq:fs.length *4+(d - 1)<((fs++[f]).flatMap FM.rows).length:=by rw [pM];simp;omega
 have ec:∀(f:FM) (t:Rt) (d:Nat),(f.eU d).2.flatMap Rt.c++t.c=((f.eU d).2++[t]).flatMap Rt.c:=λf t d=>by simp
 rw [nr]
 refine ⟨?_,?_⟩
 .have st:=LH.J3 (bs:=[]) (K:=λw9=>bX w9 ((p.add (fs.length *10)).add d) s'.v K) H5 2 (fs.length *4+(d - 1)) (f.eU d).2.length t rfl (qgSS Gq) hq (Rt.iL _) (λw' H6=>?_) (by simp)
  .exact pg st λ_ h=>pg h.2 λ_ h=>pg h.2 λ_ h=>pg h.2 λ_ h=>h.2
  .rw [List.set_set,ec,td fs f (s',(f.eU d).2++[t]) DV DW] at H6
   exact CE (H6.CX (bs:=[]) (f:=f) 1 (f.put d (s',(f.eU d).2++[t])) d rfl hp (by omega) (EH f (s',(f.eU d).2++[t]) DV DW) (λtq H7=>hK s' tq H7) (by simp))
 .refine CE (H5.CX (bs:=[]) (f:=f) 1 (f.put d (s',(f.eU d).2++[t])) d rfl hp (by omega) (EH f (s',(f.eU d).2++[t]) DV DW) (λw' H6=>?_) (by simp))
  have st:=LH.J3 (bs:=[]) (K:=K) (L:=SL rb sl st wd ((fs++[f.put d (s',(f.eU d).2++[t])]).flatMap FM.c) (((fs++[f]).flatMap FM.rows).set (fs.length *4+(d - 1)) (s',(f.eU d).2.flatMap Rt.c++z4))) H6 2 (fs.length *4+(d - 1)) (f.eU d).2.length t rfl (qgSS Gq) hq (Rt.iL _) (λtq H7=>?_) (by simp)
  .exact pg st λ_ h=>pg h.2 λ_ h=>pg h.2 λ_ h=>pg h.2 λ_ h=>h.2
  .rw [List.set_set,ec,td fs f (s',(f.eU d).2++[t]) DV DW] at H7
   exact hK s' tq H7
theorem shift (H:FS own w0 w rb sl st wd fs f ((fs++[f]).flatMap FM.rows) ts) (hp:sl.a=some p) (k:Int) (d s:Nat) (DV:1<=d) (hs:s=d+1) (Ru:s<=4) (hb:(f.eU d).2.length<=1000000) (Fy:∀t∈f.ts,t∈ts) {R:aD}
  (hK:∀s' w',FS own w0 w' rb sl st wd fs ((f.put d (s',(f.eU d).2++[oK k (f.eU s).1 (f.eU s).2])).put s (⟨none,0,0⟩,[])) ((fs++[(f.put d (s',(f.eU d).2++[oK k (f.eU s).1 (f.eU s).2])).put s (⟨none,0,0⟩,[])]).flatMap FM.rows) (ts++[oK k (f.eU s).1 (f.eU s).2])->R (.returned (.tuple #[])) w'):
  uU w λw2=>∃t7:Sl,w2.cell? ((p.add (fs.length *10)).add d)=some (t7.v)/\∃t11:Sl,w2.cell? ((p.add (fs.length *10)).add s)=some (t11.v)/\
   ((Calls Tryz.prog iY #[.i k,t11.v] w2 λr_ w3=>∃zH:Int,∃zI:Int,∃zJ:Int,∃zK:Sl,r_=.returned (.agg #[.i zH,.int .u8 zI,.int .u8 zJ,zK.v])/\
    w3.cell? ((p.add (fs.length *10)).add d)=some (t7.v)/\fJ w3 (.cells #[.i 0,.int .u8 0,.int .u8 0,.slice none 0 0] aB) λw4=>
    w4.cell? ((p.add (fs.length *10)).add d)=some (t7.v)/\∃(t15:Sl) (w5:World),Sem.run Tryz.prog (Builtin.append_ #[aE,aE] aE #[t7.v,.slice (some (nb w3)) 1 1]) w4=.ok (t15.v) w5/\(0:Int)<=((t7.n:Nat):Int)/\((t7.n:Nat):Int)<((t15.n:Nat):Int)/\aX t15.a λq=>((bX w5 (q.add (Int.toNat ((t7.n:Nat):Int) *4)) (.i zH) λw6=>
    bX w6 ((q.add (Int.toNat ((t7.n:Nat):Int) *4)).add 1) (.int .u8 zI) λw7=>bX w7 ((q.add (Int.toNat ((t7.n:Nat):Int) *4)).add 2) (.int .u8 zJ) λw8=>bX w8 ((q.add (Int.toNat ((t7.n:Nat):Int) *4)).add 3) (zK.v) λw9=>
    bX w9 ((p.add (fs.length *10)).add d) (t15.v) λpR=>bX pR ((p.add (fs.length *10)).add s) (.slice none 0 0) λw1=>R (.returned (.tuple #[])) w1)/\
    (bX w5 ((p.add (fs.length *10)).add d) (t15.v) λrO=>bX rO (q.add (Int.toNat ((t7.n:Nat):Int) *4)) (.i zH) λqV=>bX qV ((q.add (Int.toNat ((t7.n:Nat):Int) *4)).add 1) (.int .u8 zI) λuD=>
    bX uD ((q.add (Int.toNat ((t7.n:Nat):Int) *4)).add 2) (.int .u8 zJ) λC'=>bX C' ((q.add (Int.toNat ((t7.n:Nat):Int) *4)).add 3) (zK.v) λAz=>bX Az ((p.add (fs.length *10)).add s) (.slice none 0 0) λw1=>R (.returned (.tuple #[])) w1)))/\
   (fJ w2 (.cells #[.i 0,.int .u8 0,.int .u8 0,.slice none 0 0] aB) λKq=>Kq.cell? ((p.add (fs.length *10)).add s)=some (t11.v)/\Kq.cell? ((p.add (fs.length *10)).add d)=some (t7.v)/\
    Calls Tryz.prog iY #[.i k,t11.v] Kq λr_ Kr=>∃zH:Int,∃zI:Int,∃zJ:Int,∃zK:Sl,r_=.returned (.agg #[.i zH,.int .u8 zI,.int .u8 zJ,zK.v])/\
    Kr.cell? ((p.add (fs.length *10)).add d)=some (t7.v)/\∃(t15:Sl) (w5:World),Sem.run Tryz.prog (Builtin.append_ #[aE,aE] aE #[t7.v,.slice (some (nb w2)) 1 1]) Kr=.ok (t15.v) w5/\(0:Int)<=((t7.n:Nat):Int)/\((t7.n:Nat):Int)<((t15.n:Nat):Int)/\aX t15.a λq=>((bX w5 (q.add (Int.toNat ((t7.n:Nat):Int) *4)) (.i zH) λw6=>
    bX w6 ((q.add (Int.toNat ((t7.n:Nat):Int) *4)).add 1) (.int .u8 zI) λw7=>bX w7 ((q.add (Int.toNat ((t7.n:Nat):Int) *4)).add 2) (.int .u8 zJ) λw8=>bX w8 ((q.add (Int.toNat ((t7.n:Nat):Int) *4)).add 3) (zK.v) λw9=>
    bX w9 ((p.add (fs.length *10)).add d) (t15.v) λpR=>bX pR ((p.add (fs.length *10)).add s) (.slice none 0 0) λw1=>R (.returned (.tuple #[])) w1)/\
    (bX w5 ((p.add (fs.length *10)).add d) (t15.v) λrO=>bX rO (q.add (Int.toNat ((t7.n:Nat):Int) *4)) (.i zH) λqV=>bX qV ((q.add (Int.toNat ((t7.n:Nat):Int) *4)).add 1) (.int .u8 zI) λuD=>
    bX uD ((q.add (Int.toNat ((t7.n:Nat):Int) *4)).add 2) (.int .u8 zJ) λC'=>bX C' ((q.add (Int.toNat ((t7.n:Nat):Int) *4)).add 3) (zK.v) λAz=>bX Az ((p.add (fs.length *10)).add s) (.slice none 0 0) λw1=>R (.returned (.tuple #[])) w1)))):=by
 subst hs
 have vj:1<=d+1:=by omega
 have DW:d<=4:=by omega
 have jN:((fs++[f]).flatMap FM.rows)[fs.length *4+(d+1 - 1)]? =some ((f.eU (d+1)).1,(f.eU (d+1)).2.flatMap Rt.c):=ot fs f (d+1 - 1) _ (AU f vj Ru)
 have rd:∀{w':World} {G:List En},LH (·∈own) w0 w' (SL rb sl st wd ((fs++[f]).flatMap FM.c) ((fs++[f]).flatMap FM.rows)++G) [.trees ts]->jO 4 w' (f.eU (d+1)).1 ((f.eU (d+1)).2.flatMap Rt.c):=λH'=>by
  have hP:(En.rows ((fs++[f]).flatMap FM.rows)).P _:=H'.get 2
  exact (hP.1 _ (cZ jN)).jh
 have fin:∀s' w',FS own w0 w' rb sl st wd fs (f.put d (s',(f.eU d).2++[oK k (f.eU (d+1)).1 (f.eU (d+1)).2])) ((fs++[f.put d (s',(f.eU d).2++[oK k (f.eU (d+1)).1 (f.eU (d+1)).2])]).flatMap FM.rows) ts->
   bX w' ((p.add (fs.length *10)).add (d+1)) (.slice none 0 0) λw1=>R (.returned (.tuple #[])) w1:=λs' w' H'=>by
  have hc:(f.put d (s',(f.eU d).2++[oK k (f.eU (d+1)).1 (f.eU (d+1)).2])).eU (d+1)=f.eU (d+1):=PI f _ (by omega) vj Ru
  refine CE (H'.CX (bs:=[]) 1 ((f.put d (s',(f.eU d).2++[oK k (f.eU (d+1)).1 (f.eU (d+1)).2])).put (d+1) (⟨none,0,0⟩,[])) (d+1) rfl hp (by omega) (EH _ (⟨none,0,0⟩,[]) vj Ru) (λw1 H1=>hK s' w1 ?_) (by simp))
  have Rr:=ot fs (f.put d (s',(f.eU d).2++[oK k (f.eU (d+1)).1 (f.eU (d+1)).2])) (d+1 - 1) _ (AU _ vj Ru)
  rw [hc] at Rr
  have H2:=H1.B7 2 (fs.length *4+(d+1 - 1)) rfl Rr
  have H3:=H2.Iq 0 k (s:=(f.eU (d+1)).1) (ks:=(f.eU (d+1)).2) rfl (by simp) λt ht=>Fy t (qY f _ ht)
  have e:=td fs (f.put d (s',(f.eU d).2++[oK k (f.eU (d+1)).1 (f.eU (d+1)).2])) (⟨none,0,0⟩,[]) vj Ru
  have e':(([]:List Rt).flatMap Rt.c)=[]:=rfl
  rw [e'] at e
  simp only at e
  rw [<-e]
  exact H3
 have c7:∀{w':World} {G:List En},LH (·∈own) w0 w' (SL rb sl st wd ((fs++[f]).flatMap FM.c) ((fs++[f]).flatMap FM.rows)++G) [.trees ts]->w'.cell? ((p.add (fs.length *10)).add d)=some ((f.eU d).1.v):=λH'=>H'.y7 1 rfl hp d (QX f DV DW)
 have c11:∀{w':World} {G:List En},LH (·∈own) w0 w' (SL rb sl st wd ((fs++[f]).flatMap FM.c) ((fs++[f]).flatMap FM.rows)++G) [.trees ts]->w'.cell? ((p.add (fs.length *10)).add (d+1))=some ((f.eU (d+1)).1.v):=λH'=>H'.y7 1 rfl hp (d+1) (QX f vj Ru)
 refine H.dr λw2 H2=>⟨_,c7 (G:=[]) H2,_,c11 (G:=[]) H2,?_,H2.iH (e:=aB) (sz:=4) (n:=1) (cs:=z4) rfl (by decide) λw3 H3=>⟨c11 H3,c7 H3,?_⟩⟩
 .refine H2.call (FU k _ _ w2 (rd (G:=[]) H2)) ?_
  rintro _ w3 rfl H3
  refine ⟨_,_,_,_,rfl,c7 (G:=[]) H3,H3.iH (e:=aB) (sz:=4) (n:=1) (cs:=z4) rfl (by decide) λw4 H4=>⟨c7 H4,?_⟩⟩
  exact ED H hp d DV DW (oK k (f.eU (d+1)).1 (f.eU (d+1)).2) hb (src:=⟨some (bF w3.heap.size),1,1⟩) H4 rfl fin
 .refine H3.call (FU k _ _ w3 (rd H3)) ?_
  rintro _ w4 rfl H4
  refine ⟨_,_,_,_,rfl,c7 H4,?_⟩
  exact ED H hp d DV DW (oK k (f.eU (d+1)).1 (f.eU (d+1)).2) hb (src:=⟨some (bF w2.heap.size),1,1⟩) H4 rfl fin
end
def BG (w:World) (own:List Nat) (ts:List Rt) (rb:Nat) (Q:Ending->Addr->List FX->FX->Int->Int->List Rt->Prop):aD:=λr w'=>∃Ak uC xR dL rY,rP w own ts rb Ak uC xR dL rY (Q r Ak uC xR dL rY) w'
section
variable {M:Nat->Prop} {w0 w:World} {L D:List En} {bs:List Nat}
theorem _root_.Go.W.LH.cs (H:LH M w0 w L D) (i:Nat) {rb:Nat} {f0:Addr} {lo:List FX} {tp:FX} {st wd:Int} {own:List Nat} {ts:List Rt} {g:FuncId} {args:Array Value} {K:aD} {Q:Ending->Addr->List FX->FX->Int->Int->List Rt->Prop} (hi:L[i]? =some (.stt rb f0 lo tp st wd own ts))
  (hc:St w rb f0 lo tp st wd own ts->Calls Tryz.prog g args w (BG w own ts rb Q))
  (hk:∀r w' Ak uC xR dL rY jo lF,(∀t∈ts,t∈lF)->Q r Ak uC xR dL rY lF->LH M w0 w' (L.set i (.stt rb Ak uC xR dL rY jo lF)) D->K r w') (jf:∀b∈bs,En.g b∈L:=by simp):fV bs Tryz.prog g args w K:=by
 refine ⟨(·∈own),λb hb hm=>?_,(hc (H.get i hi)).mono ?_⟩
 .exact pw H hi (Qi _ _ _ _ _ _ _ _ w) (jf b hb) (aI.2 (qmL _ hm))
 .rintro r w' ⟨Ak,uC,xR,dL,rY,jo,lF,s',f,o,b,t,q⟩
  refine ⟨f,hk r w' Ak uC xR dL rY jo lF t q (H.CZ i _ hi (f.mono λx _ hx=>aI.2 (qmL _ hx)) s' λx hx=>?_)⟩
  rcases fW.1 (aI.1 hx) with hx|hx
  .exact (o x hx).imp (λh=>aI.2 (qmL _ h)) id
  .rcases b x hx with h|h|h
   .exact .inl (aI.2 (qmR _ h))
   .exact .inl (aI.2 (qmL _ h))
   .exact .inr h
end
def kL (f:FX):FX:=⟨f.k,f.ar,f.al,f.an++[Cl 3 (gZ f).ca],[],0,f.la⟩
def iT (f:FX):FX:=⟨f.k,f.ar,f.al++[Cl 5 (kL f).an],[],[],0,f.la⟩
def yK (f:FX):FX:=⟨f.k,f.ar,[],[],[],0,f.la⟩
def iG (f:FX):Rx:=Cl 4 (iT f).al
theorem sT {w0:World} {M:Nat->Prop} {w:World} {own:List Nat} {ts ts0:List Rt} {k:Int} {s:Sl} {ks:List Rt} (hb:∀b∈Rt.gK ts,b∈Rt.gK ts0\/b∈own\/w.heap.size<=b) (hs:∀b∈bC s,b∈own\/w.heap.size<=b) (hk:∀t∈ks,t∈ts):∀b∈Rt.gK (ts++[oK k s ks]),b∈Rt.gK ts0\/b∈own\/w.heap.size<=b:=λb eD=>by
 obtain ⟨t,ht,yV⟩:=Rt.bD.1 eD
 rcases fW.1 ht with ht|ht
 .exact hb b (Rt.bD.2 ⟨t,ht,yV⟩)
 .simp at ht
  rw [ht] at yV
  rcases PD yV with h|h
  .exact .inr (hs b (fQ (e:=aB) h))
  .obtain ⟨t',np,B9⟩:=Rt.bD.1 h
   exact hb b (Rt.bD.2 ⟨t',hk t' np,B9⟩)
theorem IG {own:List Nat} {w0 w:World} {rb:Nat} {sl:Sl} {st wd:Int} {fs:List FM} {f:FM} {ts:List Rt} (H:FS own w0 w rb sl st wd fs f ((fs++[f]).flatMap FM.rows) ts) {j:Nat} (h1:1<=j) (h4:j<=4):∀b∈bC (f.eU j).1,b∈own\/w0.heap.size<=b:=λb hb=>by
 have jN:=ot fs f (j - 1) _ (AU f h1 h4)
 exact (H.new (.rows ((fs++[f]).flatMap FM.rows)) (by simp) b (aI.2 (mY.2 ⟨_,cZ jN,hb⟩))).symm
theorem EP {fs:List FM} {f:FM} {ts:List Rt} {k:Int} {d s:Nat} {s':Sl} (h3:∀g∈fs++[f],∀t∈g.ts,t∈ts) (DV:1<=d) (DW:d<=4) (vj:1<=s) (Ru:s<=4):∀g∈fs++[(f.put d (s',(f.eU d).2++[oK k (f.eU s).1 (f.eU s).2])).put s (⟨none,0,0⟩,[])],∀t∈g.ts,t∈ts++[oK k (f.eU s).1 (f.eU s).2]:=by
 intro g hg t ht
 rcases fW.1 hg with hg|hg
 .exact qmL _ (h3 g (by simp [hg]) t ht)
 .simp at hg;subst hg
  rcases Cp _ _ vj Ru ht with h|h
  .rcases Cp _ _ DV DW h with h|h
   .exact qmL _ (h3 f (by simp) t h)
   .rcases fW.1 h with h|h
    .exact qmL _ (h3 f (by simp) t (qY f d h))
    .exact qmR _ h
  .cases h
theorem Dp {w:World} {rb:Nat} {f0:Addr} {lo:List FX} {tp:FX} {st wd:Int} {own:List Nat} {ts:List Rt} (h:St w rb f0 lo tp st wd own ts) (hn:tp.n<=1000000) (hc:tp.ca.length<=1000000) (ha:tp.an.length<=1000000):
  Calls Tryz.prog iX #[.pointer (some f0)] w λr w'=>r=.returned (.tuple #[])/\rP w own ts rb f0 lo (kL tp) st wd (λ_=>True) w':=by
 refine regex_frame_endSeq.ok _ w _ ((AO h hn hc).mono ?_)
 rintro _ w1 ⟨rfl,oL,Uy,⟨sl,fs,f,p,rfl,hx,h3,h4,rfl,h6,h7,h8,h9,B8⟩,f1,o1,b1,t1,_⟩
 refine ⟨rfl,?_⟩
 have H:=St.se h6 h7 h8 h9 B8
 have Y9:(f.eU 3).2.length<=1000000:=by
  have e:f.x.an.length=f.an.2.length:=by show (Rt.bU f.an.2).length=_;rw [Rt.eW];simp
  have e2:f.x.an=tp.an:=by rw [hx];rfl
  show f.an.2.length<=_
  rw [<-e,e2];exact ha
 refine shift (R:=λr w'=>r=.returned (.tuple #[])/\rP w own ts rb (p.add (fs.length *10)) (fs.map FM.x) (kL tp) st wd (λ_=>True) w') H h4 3 3 4 (by omega) rfl (by omega) Y9 (λt ht=>h3 f (by simp) t ht) λs' w' H'=>⟨rfl,rP.then f1 o1 b1 t1 ?_⟩
 have:=St.of (ts:=Uy) (A:=λ_=>True) (f0:=p.add (fs.length *10)) H' 0 rfl (EP h3 (by omega) (by omega) (by omega) (by omega)) h4 rfl (sT (w0:=w) (M:=F0) (λb hb=>.inl hb) (IG H (by omega) (by omega)) λt ht=>h3 f (by simp) t (qY f 4 ht)) (λt ht=>qmL _ ht) trivial
 have e:((f.put 3 (s',(f.eU 3).2++[oK 3 (f.eU 4).1 (f.eU 4).2])).put 4 (⟨none,0,0⟩,[])).x=kL tp:=by
  have hk:f.x.k=tp.k:=by rw [hx];rfl
  have Za:f.x.ar=tp.ar:=by rw [hx];rfl
  have hall:f.x.al=tp.al:=by rw [hx];rfl
  have Y':f.x.an=tp.an:=by rw [hx];rfl
  have A6:f.x.ca=(gZ tp).ca:=by rw [hx]
  have TM:f.x.n=0:=by rw [hx];rfl
  have Ib:f.x.la=tp.la:=by rw [hx];rfl
  unfold kL
  rw [<-hk,<-Za,<-hall,<-Y',<-A6,<-Ib]
  show FX.mk f.k (f.ar.1,Rt.bU f.ar.2) (Rt.bU f.al.2) (Rt.bU (f.an.2++[oK 3 f.ca.1 f.ca.2])) (Rt.bU []) f.n f.la.rx=_
  have Wc:f.n=0:=TM
  rw [Wc,kh]
  simp [Rt.bU,Ck,FM.x]
 rw [e] at this
 exact this
theorem AN {w:World} {rb:Nat} {f0:Addr} {lo:List FX} {tp:FX} {st wd:Int} {own:List Nat} {ts:List Rt} (h:St w rb f0 lo tp st wd own ts) (hn:tp.n<=1000000) (hc:tp.ca.length<=1000000) (ha:tp.an.length<=1000000) (hl:tp.al.length<=1000000):
  Calls Tryz.prog iE #[.pointer (some f0)] w λr w'=>r=.returned (.tuple #[])/\rP w own ts rb f0 lo (iT tp) st wd (λ_=>True) w':=by
 refine regex_frame_endConj.ok _ w _ ((Dp h hn hc ha).mono ?_)
 rintro _ w1 ⟨rfl,oL,Uy,⟨sl,fs,f,p,rfl,hx,h3,h4,rfl,h6,h7,h8,h9,B8⟩,f1,o1,b1,t1,_⟩
 refine ⟨rfl,?_⟩
 have H:=St.se h6 h7 h8 h9 B8
 have Y9:(f.eU 2).2.length<=1000000:=by
  have e:f.x.al.length=f.al.2.length:=by show (Rt.bU f.al.2).length=_;rw [Rt.eW];simp
  have e2:f.x.al=tp.al:=by rw [hx];rfl
  show f.al.2.length<=_
  rw [<-e,e2];exact hl
 refine shift (R:=λr w'=>r=.returned (.tuple #[])/\rP w own ts rb (p.add (fs.length *10)) (fs.map FM.x) (iT tp) st wd (λ_=>True) w') H h4 5 2 3 (by omega) rfl (by omega) Y9 (λt ht=>h3 f (by simp) t ht) λs' w' H'=>⟨rfl,rP.then f1 o1 b1 t1 ?_⟩
 have:=St.of (ts:=Uy) (A:=λ_=>True) (f0:=p.add (fs.length *10)) H' 0 rfl (EP h3 (by omega) (by omega) (by omega) (by omega)) h4 rfl (sT (w0:=w) (M:=F0) (λb hb=>.inl hb) (IG H (by omega) (by omega)) λt ht=>h3 f (by simp) t (qY f 3 ht)) (λt ht=>qmL _ ht) trivial
 have e:((f.put 2 (s',(f.eU 2).2++[oK 5 (f.eU 3).1 (f.eU 3).2])).put 3 (⟨none,0,0⟩,[])).x=iT tp:=by
  have hk:f.x.k=tp.k:=by rw [hx];rfl
  have Za:f.x.ar=tp.ar:=by rw [hx];rfl
  have hall:f.x.al=tp.al:=by rw [hx];rfl
  have Y':f.x.an=(kL tp).an:=by rw [hx]
  have A6:f.x.ca=[]:=by rw [hx];rfl
  have TM:f.x.n=0:=by rw [hx];rfl
  have Ib:f.x.la=tp.la:=by rw [hx];rfl
  unfold iT
  rw [<-hk,<-Za,<-hall,<-Y',<-Ib]
  show FX.mk f.k (f.ar.1,Rt.bU f.ar.2) (Rt.bU (f.al.2++[oK 5 f.an.1 f.an.2])) (Rt.bU []) (Rt.bU f.ca.2) f.n f.la.rx=_
  have Wc:f.n=0:=TM
  have hc0:Rt.bU f.ca.2=[]:=A6
  rw [Wc,hc0,kh]
  simp [Rt.bU,Ck,FM.x]
 rw [e] at this
 exact this
abbrev SF (M:Nat->Prop) (w0 w:World) (rb:Nat) (sl:Sl) (st wd:Int) (fs:List FM) (f:FM) (G:List En) (ts:List Rt):Prop:=LH M w0 w (SL rb sl st wd ((fs++[f]).flatMap FM.c) ((fs++[f]).flatMap FM.rows)++G) [.trees ts]
section
variable {M:Nat->Prop} {w0 w:World} {bs:List Nat} {G:List En} {rb:Nat} {sl:Sl} {st wd:Int} {fs:List FM} {f:FM} {ts:List Rt} {p:Addr}
theorem WZ (H:SF M w0 w rb sl st wd fs f G ts) (h3:∀g∈fs++[f],∀t∈g.ts,t∈ts) (hp:sl.a=some p):
  St w rb (p.add (fs.length *10)) (fs.map FM.x) f.x st wd ((SL rb sl st wd ((fs++[f]).flatMap FM.c) ((fs++[f]).flatMap FM.rows)).flatMap (·.fp)) ts:=by
 have nd:=H.nd
 rw [qfA,qnA] at nd
 refine ⟨sl,fs,f,p,rfl,rfl,h3,hp,rfl,rfl,nd.1,λe he=>H.own e (qmL _ he),H.getD 0,λb hb hm=>?_⟩
 obtain ⟨e,he,rf⟩:=mY.1 hm
 exact H.dj (.trees ts) (by simp) b (aI.2 hb) e (qmL _ he) rf
theorem Nn (H:SF M w0 w rb sl st wd fs f G ts) {w':World} {Ak:Addr} {uC:List FX} {xR:FX} {dL rY:Int} {jo:List Nat} {lF:List Rt} (s:St w' rb Ak uC xR dL rY jo lF) (fr:Fr (·∈(SL rb sl st wd ((fs++[f]).flatMap FM.c) ((fs++[f]).flatMap FM.rows)).flatMap (·.fp)) w w') (o:∀x∈jo,x∈(SL rb sl st wd ((fs++[f]).flatMap FM.c) ((fs++[f]).flatMap FM.rows)).flatMap (·.fp)\/w.heap.size<=x)
  (hb:∀b∈Rt.gK lF,b∈Rt.gK ts\/b∈(SL rb sl st wd ((fs++[f]).flatMap FM.c) ((fs++[f]).flatMap FM.rows)).flatMap (·.fp)\/w.heap.size<=b):
  ∃(xB:Sl) (tB:List FM) (f':FM) (p':Addr),tB.map FM.x=uC/\f'.x=xR/\(∀g∈tB++[f'],∀t∈g.ts,t∈lF)/\xB.a=some p'/\Ak=p'.add (tB.length *10)/\(∀b∈Rt.gK lF,b∈Rt.gK ts\/w0.heap.size<=b\/M b)/\SF M w0 w' rb xB dL rY tB f' G lF:=by
 obtain ⟨xB,tB,f',p',h1,h2,h3,h4,h5,h6,h7,h8,h9,B8⟩:=s
 have nd:=H.nd
 rw [qfA,qnA] at nd
 have GK:∀b∈(SL rb sl st wd ((fs++[f]).flatMap FM.c) ((fs++[f]).flatMap FM.rows)).flatMap (·.fp),w0.heap.size<=b\/M b:=λb hb=>by
  obtain ⟨e,he,rf⟩:=mY.1 hb
  exact H.new e (qmL _ he) b rf
 have VT:∀e∈G,∀b∈e.fp,b<w.heap.size:=λe he b hb=>e.lt w (H.own e (qmR _ he)) b hb
 have Gi:∀e∈G,∀b∈e.fp,b∉(SL rb sl st wd ((fs++[f]).flatMap FM.c) ((fs++[f]).flatMap FM.rows)).flatMap (·.fp):=λe he b hb hm=>nd.2.2 b hm b (mY.2 ⟨e,he,hb⟩) rfl
 have l8:=H.fr.size
 have MZ:∀b∈jo,w0.heap.size<=b\/M b:=λb hb=>(o b hb).elim (GK b) λh=>.inl (Nat.le_trans l8 h)
 refine ⟨xB,tB,f',p',h1,h2,h3,h4,h5,λb eD=>?_,H.fr.trans fr λx hx hm=>(GK x hm).resolve_left (by omega),λe he=>?_,λe he=>?_,λe he b eD=>?_,?_,λe he b eD e' mI rf=>?_⟩
 .rcases hb b eD with h|h|h
  .exact .inl h
  .exact .inr (GK b h)
  .exact .inr (.inl (Nat.le_trans l8 h))
 .rcases fW.1 he with he|he
  .exact h8 e he
  .exact e.st w w' (λb hb hl=>fr.gV b hl (Gi e he b hb)) (H.own e (qmR _ he))
 .simp at he;subst he;exact h9
 .rcases fW.1 he with he|he
  .exact MZ b (by rw [h6];exact mY.2 ⟨e,he,eD⟩)
  .exact H.new e (qmR _ he) b eD
 .rw [qfA,qnA]
  refine ⟨h6▸h7,nd.2.1,λx hx y hy Wq=>?_⟩
  subst Wq
  obtain ⟨e,he,rf⟩:=mY.1 hy
  rcases o x (by rw [h6];exact hx) with h|h
  .exact Gi e he x rf h
  .have:=VT e he x rf;omega
 .simp at he;subst he
  have B9:b∈Rt.gK lF:=aI.1 eD
  rcases fW.1 mI with mI|mI
  .exact B8 b B9 (by rw [h6];exact mY.2 ⟨e',mI,rf⟩)
  .rcases hb b B9 with h|h|h
   .exact H.dj (.trees ts) (by simp) b (aI.2 h) e' (qmR _ mI) rf
   .exact Gi e' mI b rf h
   .have:=VT e' mI b rf;omega
theorem _root_.Go.W.LH.Ky (H:SF M w0 w rb sl st wd fs f G ts) (h3:∀g∈fs++[f],∀t∈g.ts,t∈ts) (hp:sl.a=some p) {g:FuncId} {args:Array Value} {K:aD} {Q:Ending->Addr->List FX->FX->Int->Int->List Rt->Prop}
  (hc:∀own,St w rb (p.add (fs.length *10)) (fs.map FM.x) f.x st wd own ts->Calls Tryz.prog g args w (BG w own ts rb Q))
  (hk:∀r w' (xB:Sl) (tB:List FM) (f':FM) (p':Addr) (dL rY:Int) (lF:List Rt),(∀t∈ts,t∈lF)->(∀g∈tB++[f'],∀t∈g.ts,t∈lF)->xB.a=some p'->(∀b∈Rt.gK lF,b∈Rt.gK ts\/w0.heap.size<=b\/M b)->Q r (p'.add (tB.length *10)) (tB.map FM.x) f'.x dL rY lF->SF M w0 w' rb xB dL rY tB f' G lF->K r w')
  (jf:∀b∈bs,En.g b∈G:=by simp):fV bs Tryz.prog g args w K:=by
 have nd:=H.nd
 rw [qfA,qnA] at nd
 refine ⟨(·∈(SL rb sl st wd ((fs++[f]).flatMap FM.c) ((fs++[f]).flatMap FM.rows)).flatMap (·.fp)),λb hb hm=>?_,(hc _ (WZ H h3 hp)).mono ?_⟩
 .exact nd.2.2 b hm b (mY.2 ⟨_,jf b hb,by simp [En.g]⟩) rfl
 .rintro r w' ⟨Ak,uC,xR,dL,rY,jo,lF,s,fr,o,b,t,q⟩
  obtain ⟨xB,tB,f',p',rfl,rfl,Jz,Ic,rfl,eD,H'⟩:=Nn H s fr o b
  exact ⟨fr,hk r w' xB tB f' p' dL rY lF t Jz Ic eD q H'⟩
theorem _root_.Go.W.LH.OE (H:SF M w0 w rb sl st wd fs f G ts) (h3:∀g∈fs++[f],∀t∈g.ts,t∈ts) (hp:sl.a=some p) {g:FuncId} {args:Array Value} {K:aD} {Q:Ending->Addr->List FX->FX->Int->Int->List Rt->Prop}
  (hc:∀own,St w rb (p.add (fs.length *10)) (fs.map FM.x) f.x st wd own ts->Calls Tryz.prog g args w (BG w own ts rb Q))
  (hk:∀r w' (xB:Sl) (tB:List FM) (f':FM) (p':Addr) (dL rY:Int) (lF:List Rt),(∀t∈ts,t∈lF)->(∀g∈tB++[f'],∀t∈g.ts,t∈lF)->xB.a=some p'->(∀b∈Rt.gK lF,b∈Rt.gK ts\/w0.heap.size<=b\/M b)->Q r (p'.add (tB.length *10)) (tB.map FM.x) f'.x dL rY lF->SF M w0 w' rb xB dL rY tB f' G lF->K r w'):Calls Tryz.prog g args w K:=by
 obtain ⟨_,_,h⟩:=H.Ky (bs:=[]) h3 hp hc hk (by simp)
 exact h.mono λr w' h=>h.2
end
theorem Gg (f:FM):f.x.ar.2.length=f.ar.2.length/\f.x.al.length=f.al.2.length/\f.x.an.length=f.an.2.length/\f.x.ca.length=f.ca.2.length:=by
 refine ⟨?_,?_,?_,?_⟩<;>(show (Rt.bU _).length=_;rw [Rt.eW];simp)
theorem BP {w:World} {own:List Nat} {ts:List Rt} {rb:Nat} {f0:Addr} {lo:List FX} {tp:FX} {st wd:Int} {g:FuncId} {args:Array Value} (h:Calls Tryz.prog g args w λr w'=>r=.returned (.tuple #[])/\rP w own ts rb f0 lo tp st wd (λ_=>True) w'):
  Calls Tryz.prog g args w (BG w own ts rb λr Ak uC xR dL rY _=>r=.returned (.tuple #[])/\Ak=f0/\uC=lo/\xR=tp/\dL=st/\rY=wd):=
 h.mono λr w' ⟨h1,h2⟩=>⟨f0,lo,tp,st,wd,h2.mono λ_ _=>⟨h1,rfl,rfl,rfl,rfl,rfl⟩⟩
structure Small (f:FX) (n:Nat):Prop where
 n':f.n<=n
 ar:f.ar.2.length<=n
 al:f.al.length<=n
 an:f.an.length<=n
 ca:f.ca.length<=n
theorem s8 {w:World} {rb:Nat} {f0:Addr} {lo:List FX} {tp:FX} {st wd:Int} {own:List Nat} {ts:List Rt} (h:St w rb f0 lo tp st wd own ts) (hs:Small tp 1000000):
  Calls Tryz.prog e8 #[.pointer (some f0)] w (BG w own ts rb λr Ak uC xR dL rY lF=>Ak=f0/\uC=lo/\xR=yK tp/\dL=st/\rY=wd/\∃t∈lF,r=.returned t.v/\t.rx=iG tp):=by
 obtain ⟨sl,fs,f,p,rfl,rfl,h3,h4,rfl,h6,h7,h8,h9,B8⟩:=h
 have H:SF (·∈own) w w rb sl st wd fs f [] ts:=by
  have:=St.se h6 h7 h8 h9 B8
  show LH _ _ _ (_++[]) _
  rw [qaN]
  exact this
 refine regex_frame_endExpr.cV _ w _ (H.bJ (bs:=[]) (λb2 w1 H1=>?_) (by simp))
 refine (show SF (·∈own) w w1 rb sl st wd fs f [.g b2] ts from H1).Ky (bs:=[b2]) h3 h4 (λoL s1=>BP (AN s1 hs.n' hs.ca hs.an hs.al)) ?_ (by simp)
 rintro _ w2 N6 yR f2 p2 kT Qz CY t2 Fs Tz b2' ⟨rfl,NY,qU,jc,rfl,rfl⟩ H2
 rw [<-NY,<-qU]
 have jN:((yR++[f2]).flatMap FM.rows)[yR.length *4+(2 - 1)]? =some ((f2.eU 2).1,(f2.eU 2).2.flatMap Rt.c):=ot yR f2 1 _ (AU f2 (j:=2) (by omega) (by omega))
 have hrd:jO 4 w2 f2.al.1 (f2.al.2.flatMap Rt.c):=by
  have hP:(En.rows ((yR++[f2]).flatMap FM.rows)).P w2:=H2.get 2
  exact (hP.1 _ (cZ jN)).jh
 refine ⟨rfl,f2.al.1,H2.y7 1 rfl Tz 2,H2.aJ (FU 4 _ _ w2 hrd) ?_⟩
 rintro _ w3 rfl H3
 refine ⟨_,_,_,_,rfl,H3.bJ (bs:=[b2]) (λb3 w4 H4=>H4.aK (bs:=[b2,b3]) (λw5 H5=>?_) (by simp)) (by simp)⟩
 refine H5.CX (bs:=[b2,b3]) (f:=f2) 1 (f2.put 2 (⟨none,0,0⟩,[])) 2 rfl Tz (by omega) rfl (λw6 H6=>H6.aK (bs:=[b2,b3]) (λw7 H7=>?_) (by simp)) (by simp)
 have H8:=H7.B7 2 (yR.length *4+(2 - 1)) rfl jN
 have H9:=H8.Iq 0 4 (s:=f2.al.1) (ks:=f2.al.2) rfl (by simp [FM.eU]) λt ht=>Fs f2 (by simp) t (qY f2 2 ht)
 have er:=td yR f2 (⟨none,0,0⟩,[]) (j:=2) (by omega) (by omega)
 have e':(([]:List Rt).flatMap Rt.c)=[]:=rfl
 rw [e'] at er
 simp only at er
 have m8:LH (·∈own) w w7 (SL rb N6 kT Qz ((yR++[f2.put 2 (⟨none,0,0⟩,[])]).flatMap FM.c) ((yR++[f2.put 2 (⟨none,0,0⟩,[])]).flatMap FM.rows)) [.trees (CY++[oK 4 f2.al.1 f2.al.2])]:=by
  rw [<-er]
  exact H9.take 3
 have qn:∀b∈bC f2.al.1,b∈own\/w.heap.size<=b:=λb hb=>(H2.new (.rows ((yR++[f2]).flatMap FM.rows)) (by simp) b (aI.2 (mY.2 ⟨_,cZ jN,hb⟩))).symm
 have ex:(f2.put 2 (⟨none,0,0⟩,[])).x=yK f.x:=by
  have e1:f2.k=f.k:=by have:=congrArg FX.k jc;exact this
  have e2:(f2.ar.1,Rt.bU f2.ar.2)=f.x.ar:=by have:=congrArg FX.ar jc;exact this
  have e3:Rt.bU f2.an.2=[]:=by have:=congrArg FX.an jc;exact this
  have e4:Rt.bU f2.ca.2=[]:=by have:=congrArg FX.ca jc;exact this
  have e5:f2.n=0:=by have:=congrArg FX.n jc;exact this
  have e6:f2.la.rx=f.x.la:=by have:=congrArg FX.la jc;exact this
  show FX.mk f2.k (f2.ar.1,Rt.bU f2.ar.2) (Rt.bU []) (Rt.bU f2.an.2) (Rt.bU f2.ca.2) f2.n f2.la.rx=_
  rw [e1,e2,e3,e4,e5,e6]
  rfl
 refine ⟨_,_,_,_,_,St.of (ts:=ts) (f0:=p2.add (yR.length *10)) m8 0 rfl (λg hg t ht=>?_) Tz rfl (sT (w0:=w) (M:=F0) (λb hb=>(b2' b hb).imp id Or.symm) qn λt ht=>Fs f2 (by simp) t (qY f2 2 ht)) (λt ht=>qmL _ (t2 t ht)) ⟨rfl,rfl,ex,rfl,rfl,oK 4 f2.al.1 f2.al.2,by simp,rfl,?_⟩⟩
 .rcases fW.1 hg with hg|hg
  .exact qmL _ (Fs g (by simp [hg]) t ht)
  .simp at hg;subst hg
   rcases Cp _ _ (by omega) (by omega) ht with h|h
   .exact qmL _ (Fs f2 (by simp) t h)
   .cases h
 .rw [Ck]
  have:=congrArg FX.al jc
  have e:Rt.bU f2.al.2=(iT f.x).al:=this
  rw [e];rfl
theorem lM {p:Addr} {K:Addr->Prop} (h:K p):aX (some p) K:=h
theorem VN:iJ Tryz.prog kU cA (.agg #[.int .i64 0,.slice none 0 0,.slice none 0 0,.slice none 0 0,.slice none 0 0,.int .i64 0,.int .i64 0,.int .u8 0,.int .u8 0,.slice none 0 0]) 10 152:=⟨by kernel_rfl,by kernel_rfl,rfl,by decide,by decide⟩
section
variable {M:Nat->Prop} {w0 w:World} {L D:List En} {bs:List Nat} {G:List En} {rb:Nat} {sl:Sl} {st wd:Int} {fs:List FM} {f:FM} {ts:List Rt} {p:Addr}
theorem _root_.Go.W.LH.Vd (H:LH M w0 w L D) (i j:Nat) {b:Nat} {vs:List Value} {T:TypeId} {v:Value} {K:World->Prop} (hi:L[i]? =some (.c b vs T)) (hK:∀w',LH M w0 w' (L.set i (.c b (vs.set j v) T)) D->K w') (hj:j<vs.length) (jf:∀b∈bs,En.g b∈L:=by simp):bX w ((bF b).add j) v λw1=>kept bs w w1/\K w1:=by
 obtain ⟨x1,x2,x3⟩:=H.set (v:=v) i j hi hj
 refine ⟨x1,x2,λb' eD=>?_,hK _ x3⟩
 have hM:b'≠b:=by
  rintro rfl
  refine pw H hi (λn hP=>?_) (jf _ eD) (by simp [En.ob])
  have h:({w with heap:=Array.replicate (n+1) (.map #[] 0)}:World).heap[b']? =some (.cells vs.toArray T (0,0)):=hP
  simp [Array.getElem?_replicate] at h
 have hf:Fr (·=b) w (w.setCell ((bF b).add j) v):=Fr.set _ _ _ (by rw [gF])
 exact hf.gV b' (H.own _ (jf _ eD)) hM
theorem Qc (H:SF M w0 w rb sl st wd fs f G ts):sl.n=fs.length+1:=by
 have ho:aP w cA 10 sl ((fs++[f]).flatMap FM.c):=H.get 1
 have:=ho.len
 rw [sC] at this
 simp at this
 omega
theorem HE (H:SF M w0 w rb sl st wd fs f G ts) (hp:sl.a=some p) (hn:fs.length<=1000000):Calls Tryz.prog eT #[.pointer (some (bF rb))] w λr w'=>r=.returned (.pointer (some (p.add (fs.length *10))))/\bI w w':=by
 have hl:=Qc H
 have e:IntKind.wrap .i64 (((sl.n:Nat):Int) - 1)=(fs.length:Int):=by rw [IntWalk.i64_in _ (by omega)];omega
 have H1:SF M w0 w.drew rb sl st wd fs f G ts:=H.drew
 refine regex_reader_top.ok _ w _ (show _ from ⟨sl,H1.ld 0 0,sl,H1.ld 0 0,?_⟩)
 rw [e,hp]
 exact ⟨by omega,by omega,rfl,Fr.drew _ _⟩
theorem CA (H:SF M w0 w rb sl st wd fs f G ts) (k:Int) (lo hi:UInt8):SF M w0 w rb sl st wd fs f G (ts++[.mk k lo hi ⟨none,0,0⟩ []]):=by
 have H1:=H.mE (.trees (ts++[.mk k lo hi ⟨none,0,0⟩ []])) (Fr.refl _ _) (Rt.oq λt ht=>?_) λb hb=>.inr (.inr ⟨.trees ts,by simp,?_⟩)
 .exact H1.forget _ (by simp)
 .rcases fW.1 ht with ht|ht
  .exact Rt.Ps.mem (H.getD 0) ht
  .simp at ht;subst ht
   show Rt.P w _
   unfold Rt.P Rt.Ps
   exact ⟨jO.nil 4 w,trivial⟩
 .obtain ⟨t,ht,eD⟩:=Rt.bD.1 (aI.1 hb)
  rcases fW.1 ht with ht|ht
  .exact aI.2 (Rt.bD.2 ⟨t,ht,eD⟩)
  .simp at ht
   rw [ht] at eD
   unfold Rt.fp Rt.gK at eD
   simp [En.jh] at eD
theorem vl {k:Int} {lo hi:UInt8} {b:Nat} (h:b∈Rt.gK (ts++[.mk k lo hi ⟨none,0,0⟩ []])):b∈Rt.gK ts:=by
 obtain ⟨t,ht,eD⟩:=Rt.bD.1 h
 rcases fW.1 ht with ht|ht
 .exact Rt.bD.2 ⟨t,ht,eD⟩
 .simp at ht
  rw [ht] at eD
  unfold Rt.fp Rt.gK at eD
  simp [En.jh] at eD
theorem Nf (H:LH M w0 w L D) (i:Nat) {rs:List kV} (hi:L[i]? =some (.rows rs)) (n:Nat):LH M w0 w (L.set i (.rows (rs++List.replicate n (⟨none,0,0⟩,[])))) D:=by
 have hp:(En.rows rs).P w:=H.get i hi
 have e:(rs++List.replicate n ((⟨none,0,0⟩,[]):kV)).flatMap (λq:kV=>bC q.1)=rs.flatMap λq:kV=>bC q.1:=by
  rw [qfA]
  have:(List.replicate n ((⟨none,0,0⟩,[]):kV)).flatMap (λq:kV=>bC q.1)=[]:=by
   induction n with
   |zero=>rfl
   |succ n ih=>rw [List.replicate_succ,qfC,ih];rfl
  rw [this,qaN]
 refine H.CZ i _ hi (Fr.refl _ _) ⟨λq hq=>?_,by rw [e];exact hp.2⟩ λb hb=>.inl (aI.2 (by have:=aI.1 hb;rw [e] at this;exact this))
 rcases fW.1 hq with hq|hq
 .exact hp.1 q hq
 .rw [List.eq_of_mem_replicate hq];exact aP.nil _ _ _
end
def qM (k:Int):FX:=⟨k,(⟨none,0,0⟩,[]),[],[],[],0,wC⟩
def oo (k:Int):FM:=⟨k,(⟨none,0,0⟩,[]),(⟨none,0,0⟩,[]),(⟨none,0,0⟩,[]),(⟨none,0,0⟩,[]),0,.mk 0 0 0 ⟨none,0,0⟩ []⟩
theorem yb {w:World} {rb:Nat} {f0:Addr} {lo:List FX} {tp:FX} {st wd:Int} {own:List Nat} {ts:List Rt} (h:St w rb f0 lo tp st wd own ts):∃(sl:Sl) (fs:List FM) (f:FM) (p:Addr),fs.map FM.x=lo/\f.x=tp/\(∀g∈fs++[f],∀t∈g.ts,t∈ts)/\sl.a=some p/\f0=p.add (fs.length *10)/\SF (·∈own) w w rb sl st wd fs f [] ts:=by
 obtain ⟨sl,fs,f,p,h1,h2,h3,h4,h5,h6,h7,h8,h9,B8⟩:=h
 refine ⟨sl,fs,f,p,h1,h2,h3,h4,h5,?_⟩
 have:=St.se h6 h7 h8 h9 B8
 show LH _ _ _ (_++[]) _
 rw [qaN]
 exact this
theorem Lm {w:World} {rb:Nat} {f0:Addr} {lo:List FX} {tp:FX} {st wd:Int} {own:List Nat} {ts:List Rt} (h:St w rb f0 lo tp st wd own ts) (hl:lo.length<=1000000) (kind state:Int):
  Calls Tryz.prog jr #[.pointer (some (bF rb)),.int .i64 kind,.int .i64 state] w (BG w own ts rb λr _ uC xR dL rY _=>r=.returned (.bool true)/\uC=lo++[tp]/\xR=qM kind/\dL=state/\rY=wd):=by
 obtain ⟨sl,fs,f,p,rfl,rfl,h3,h4,rfl,H⟩:=yb h
 have hn:=Qc H
 have Ms:fs.length<=1000000:=by simpa using hl
 refine regex_reader_push.ok _ _ _ w _ ⟨sl,H.ld 0 0,H.iH (e:=cA) (sz:=10) (n:=1) (cs:=(oo kind).c) rfl (by decide) λw1 H1=>?_⟩
 refine H1.apk 1 VN (src:=⟨some (bF w.heap.size),1,1⟩) (news:=(oo kind).c) rfl (aP.jh (H1.get 3)).2.2 rfl (by simp [FM.c,oo,Value.oneCell']) (by show (sl.n+1) *152<=_;omega) λs' w2 H2 wu qK _=>?_
 obtain ⟨q,hq⟩:∃q,s'.a=some q:=by
  cases hs:s'.a with
  |none=>have:=(qK hs).2;simp at this
  |some q=>exact ⟨q,rfl⟩
 have H3:LH (·∈own) w w2 [.c rb [sl.v,.int .i64 st,.int .i64 wd] gX,.row cA 10 s' ((fs++[f]).flatMap FM.c++(oo kind).c),.rows ((fs++[f]).flatMap FM.rows)] [.trees ts]:=H2.take 3
 refine H3.st 0 0 rfl (λw3 H4=>H4.st 0 1 rfl (λw4 H5=>?_))
 have H6:=Nf H5 2 rfl 4
 have H7:SF (·∈own) w w4 rb s' state wd (fs++[f]) (oo kind) [] ts:=by
  show LH _ _ _ (SL rb s' state wd ((fs++[f]++[oo kind]).flatMap FM.c) ((fs++[f]++[oo kind]).flatMap FM.rows)++[]) _
  rw [qaN,qfA (xs:=fs++[f]),qfA (xs:=fs++[f])]
  simpa [show (oo kind).rows=[(⟨none,0,0⟩,[]),(⟨none,0,0⟩,[]),(⟨none,0,0⟩,[]),(⟨none,0,0⟩,[])] from rfl] using H6
 have H8:=CA H7 0 0 0
 have H9:LH (·∈own) w w4 (SL rb s' state wd ((fs++[f]++[oo kind]).flatMap FM.c) ((fs++[f]++[oo kind]).flatMap FM.rows)) [.trees (ts++[.mk 0 0 0 ⟨none,0,0⟩ []])]:=H8.take 3
 refine ⟨_,_,_,_,_,St.of (ts:=ts) (p:=q) (f0:=q.add ((fs++[f]).length *10)) H9 0 rfl (λg hg t ht=>?_) hq rfl (λb hb=>.inl (vl hb)) (λt ht=>qmL _ ht) ⟨rfl,?_,rfl,rfl,rfl⟩⟩
 .rcases fW.1 hg with hg|hg
  .exact qmL _ (h3 g hg t ht)
  .simp at hg;subst hg
   simp [FM.ts,oo] at ht
   simp [ht]
 .simp
def oa (tp:FX) (x:Rx):FX:=⟨tp.k,tp.ar,tp.al,tp.an,tp.ca,tp.n,x⟩
theorem FQ {w:World} {rb:Nat} {f0:Addr} {lo:List FX} {tp:FX} {st wd:Int} {own:List Nat} {ts:List Rt} (h:St w rb f0 lo tp st wd own ts) (hl:lo.length<=1000000) (t:Rt) (ht:t∈ts):
  Calls Tryz.prog eG #[.pointer (some (bF rb)),t.v] w (BG w own ts rb λr Ak uC xR dL rY _=>r=.returned (.bool true)/\Ak=f0/\uC=lo/\xR=oa tp t.rx/\dL=3/\rY=wd):=by
 obtain ⟨sl,fs,f,p,rfl,rfl,h3,h4,rfl,H⟩:=yb h
 have Ms:fs.length<=1000000:=by simpa using hl
 refine regex_reader_atom.cV _ _ _ _ _ w _ (H.bJ (bs:=[]) (λb3 w1 H1=>H1.aK (bs:=[b3]) (λw2 H2=>?_) (by simp)) (by simp))
 have H2':SF (·∈own) w w2 rb sl st wd fs f [.g b3] ts:=H2
 refine H2'.aJ (HE H2' h4 Ms) ?_
 rintro _ w3 rfl H3
 refine ⟨_,rfl,lM ?_⟩
 refine H3.CX (bs:=[b3]) (f:=f) 1 ⟨f.k,f.ar,f.al,f.an,f.ca,f.n,.mk t.k f.la.lo f.la.hi f.la.s f.la.l⟩ 6 rfl h4 (by omega) rfl (λw4 H4=>?_) (by simp)
 have a1:((p.add (fs.length *10)).add 6).add 1=(p.add (fs.length *10)).add 7:=add_add _ 6 1
 have a2:((p.add (fs.length *10)).add 6).add 2=(p.add (fs.length *10)).add 8:=add_add _ 6 2
 have a3:((p.add (fs.length *10)).add 6).add 3=(p.add (fs.length *10)).add 9:=add_add _ 6 3
 rw [a1,a2,a3]
 refine H4.CX (bs:=[b3]) (f:=⟨f.k,f.ar,f.al,f.an,f.ca,f.n,.mk t.k f.la.lo f.la.hi f.la.s f.la.l⟩) 1 ⟨f.k,f.ar,f.al,f.an,f.ca,f.n,.mk t.k t.lo f.la.hi f.la.s f.la.l⟩ 7 rfl h4 (by omega) rfl (λw5 H5=>?_) (by simp)
 refine H5.CX (bs:=[b3]) (f:=⟨f.k,f.ar,f.al,f.an,f.ca,f.n,.mk t.k t.lo f.la.hi f.la.s f.la.l⟩) 1 ⟨f.k,f.ar,f.al,f.an,f.ca,f.n,.mk t.k t.lo t.hi f.la.s f.la.l⟩ 8 rfl h4 (by omega) rfl (λw6 H6=>?_) (by simp)
 refine H6.CX (bs:=[b3]) (f:=⟨f.k,f.ar,f.al,f.an,f.ca,f.n,.mk t.k t.lo t.hi f.la.s f.la.l⟩) 1 ⟨f.k,f.ar,f.al,f.an,f.ca,f.n,t⟩ 9 rfl h4 (by omega) rfl (λw7 H7=>?_) (by simp)
 refine H7.Vd (bs:=[b3]) 0 1 rfl (λw8 H8=>?_) (by simp) (by simp)
 have er:(fs++[f]).flatMap FM.rows=(fs++[(⟨f.k,f.ar,f.al,f.an,f.ca,f.n,t⟩:FM)]).flatMap FM.rows:=by simp [FM.rows]
 have H9:LH (·∈own) w w8 (SL rb sl 3 wd ((fs++[(⟨f.k,f.ar,f.al,f.an,f.ca,f.n,t⟩:FM)]).flatMap FM.c) ((fs++[(⟨f.k,f.ar,f.al,f.an,f.ca,f.n,t⟩:FM)]).flatMap FM.rows)) [.trees ts]:=by
  rw [<-er]
  exact H8.take 3
 refine ⟨_,_,_,_,_,St.of (ts:=ts) (f0:=p.add (fs.length *10)) H9 0 rfl (λg hg u hu=>?_) h4 rfl (λb hb=>.inl hb) (λt ht=>ht) ⟨rfl,rfl,rfl,rfl,rfl,rfl⟩⟩
 rcases fW.1 hg with hg|hg
 .exact h3 g (by simp [hg]) u hu
 .simp at hg;subst hg
  simp only [FM.ts,fW,cU,qnM,or_false] at hu
  rcases hu with (((hu|hu)|hu)|hu)|rfl
  .exact h3 f (by simp) u (by simp [FM.ts,hu])
  .exact h3 f (by simp) u (by simp [FM.ts,hu])
  .exact h3 f (by simp) u (by simp [FM.ts,hu])
  .exact h3 f (by simp) u (by simp [FM.ts,hu])
  .exact ht
structure Tk where
 k:UInt8
 lo:UInt8
 hi:UInt8
 s:List UInt8
 a:Int
abbrev Tk.v (t:Tk):Value:=.agg #[.int .u8 (t.k.toNat:Int),.int .u8 (t.lo.toNat:Int),.int .u8 (t.hi.toNat:Int),.string (ba t.s),.int .i64 t.a]
structure SX where
 lo:List FX
 tp:FX
 st:Int
 wd:Int
def I8:List UInt8:=[110,111,110,101]
def CN:List UInt8:=[101,109,112,116,121]
def Qw:List UInt8:=[97,108,116]
def Qv:List UInt8:=[97,108,108]
def Qx:List UInt8:=[99,97,116]
def jQ (t:Tk) (s:SX):Option SX:=
 if t.k=33 then some ⟨s.lo,⟨s.tp.k,s.tp.ar,s.tp.al,s.tp.an,s.tp.ca,s.tp.n+1,s.tp.la⟩,0,s.wd⟩
 else if t.k=40 then some ⟨s.lo++[s.tp],qM (-1),0,s.wd⟩
 else if t.k=114 then some ⟨s.lo,oa s.tp (.mk 2 t.lo t.hi []),3,s.wd⟩
 else if t.k=119 then
  if t.s=I8 then some ⟨s.lo,oa s.tp (.mk 0 0 0 []),3,s.wd⟩
  else if t.s=CN then some ⟨s.lo,oa s.tp (.mk 1 0 0 []),3,s.wd⟩
  else if t.s=Qw then some ⟨s.lo,s.tp,2,4⟩
  else if t.s=Qv then some ⟨s.lo,s.tp,2,5⟩
  else if t.s=Qx then some ⟨s.lo,s.tp,2,3⟩
  else none
 else none
def Oe (o:Option SX):Ending->Addr->List FX->FX->Int->Int->List Rt->Prop:=λr _ lo tp st wd _=>(o=none/\r=.returned (.bool false))\/(o=some ⟨lo,tp,st,wd⟩/\r=.returned (.bool true))
section
variable {w w':World} {own:List Nat} {G:List En} {rb:Nat} {sl:Sl} {st wd:Int} {fs:List FM} {f:FM} {ts lF:List Rt} {p:Addr}
theorem jj {Q:Ending->Addr->List FX->FX->Int->Int->List Rt->Prop} {r:Ending} (H:SF (·∈own) w w' rb sl st wd fs f G lF) (h3:∀g∈fs++[f],∀t∈g.ts,t∈lF) (hp:sl.a=some p) (hb:∀b∈Rt.gK lF,b∈Rt.gK ts\/w.heap.size<=b\/b∈own) (ht:∀t∈ts,t∈lF) (q:Q r (p.add (fs.length *10)) (fs.map FM.x) f.x st wd lF):BG w own ts rb Q r w':=
 ⟨_,_,_,_,_,St.of (ts:=ts) (f0:=p.add (fs.length *10)) (H.take 3) 0 rfl h3 hp rfl (λb h=>(hb b h).imp id Or.symm) ht q⟩
end
theorem Xn (s:List UInt8):(ba s).toList=s:=by rw [ByteArray.toList_eq];rfl
theorem Xo (a:Array UInt8):(ByteArray.mk a).toList=a.toList:=by rw [ByteArray.toList_eq]
theorem vI {s:List UInt8} {a:Array UInt8} {A B:Prop} (h1:s=a.toList->A) (h2:s≠a.toList->B):aF ((ba s).toList==(ByteArray.mk a).toList) A B:=by
 rw [Xn,Xo]
 exact aZ (λh=>h1 (by simpa using h)) (λh=>h2 (by simpa using h))
theorem l0 {x:UInt8} {n:Nat} {A B:Prop} (hn:n<256) (h1:x=UInt8.ofNat n->A) (h2:x≠UInt8.ofNat n->B):aF (((x.toNat:Nat):Int)==(n:Int)) A B:=by
 have e:∀x:UInt8,x.toNat=n↔x=UInt8.ofNat n:=λx=>by
  rw [<-UInt8.toNat_inj,UInt8.toNat_ofNat']
  omega
 exact aZ (λh=>h1 ((e x).1 (by have:=eq_of_beq h;omega))) (λh=>h2 λhx=>by
  have:x.toNat=n:=(e x).2 hx
  rw [this] at h
  simp at h)
theorem SZ {w:World} {rb:Nat} {f0:Addr} {lo:List FX} {tp:FX} {st wd:Int} {own:List Nat} {ts:List Rt} (h:St w rb f0 lo tp st wd own ts) (hl:lo.length<=1000000) (hn:tp.n<=1000000) (t:Tk):
  Calls Tryz.prog gp #[.pointer (some (bF rb)),t.v] w (BG w own ts rb (Oe (jQ t ⟨lo,tp,st,wd⟩))):=by
 obtain ⟨sl,fs,f,p,rfl,rfl,h3,h4,rfl,H⟩:=yb h
 have Ms:fs.length<=1000000:=by simpa using hl
 have wu:f.n<=1000000:=hn
 have base:∀b∈Rt.gK ts,b∈Rt.gK ts\/w.heap.size<=b\/b∈own:=λb hb=>.inl hb
 refine regex_reader_item.cV _ _ _ _ _ _ w _ (H.bJ (bs:=[]) (λb3 w1 H1=>?_) (by simp))
 have H1:SF (·∈own) w w1 rb sl st wd fs f [.g b3] ts:=H1
 have leaf:∀(k:Int) (a b:UInt8) {w2:World} {kT Qz:Int},SF (·∈own) w w2 rb sl kT Qz fs f [.g b3] ts->jQ t ⟨fs.map FM.x,f.x,st,wd⟩=some ⟨fs.map FM.x,oa f.x (.mk k a b []),3,Qz⟩->
   fV [b3] Tryz.prog eG #[.pointer (some (bF rb)),.agg #[.i k,.int .u8 (a.toNat:Int),.int .u8 (b.toNat:Int),.slice none 0 0]] w2 λr_ w6=>∃t32:Bool,r_=.returned (.bool t32)/\BG w own ts rb (Oe (jQ t ⟨fs.map FM.x,f.x,st,wd⟩)) (.returned (.bool t32)) w6:=by
  intro k a b w2 kT Qz H2 he
  have H3:=CA H2 k a b
  refine H3.Ky (bs:=[b3]) (λg hg u hu=>qmL _ (h3 g hg u hu)) h4 (λoL s1=>FQ s1 hl (.mk k a b ⟨none,0,0⟩ []) (by simp)) ?_ (by simp)
  rintro _ w3 Bt yS f3 p3 lO CO xF t3 nZ tD uK ⟨rfl,NY,qU,jc,rfl,rfl⟩ H4
  refine ⟨true,rfl,jj H4 nZ tD (λx hx=>?_) (λu hu=>t3 u (qmL _ hu)) (.inr ⟨?_,rfl⟩)⟩
  .rcases uK x hx with h|h
   .exact .inl (vl h)
   .exact .inr h
  .rw [he,qU,jc];rfl
 refine l0 (n:=33) (by omega) (λhk:t.k=33=>H1.aJ (HE H1 h4 Ms) ?_) (λXU:t.k≠33=>l0 (n:=40) (by omega) (λhk:t.k=40=>?_) (λZ0:t.k≠40=>l0 (n:=114) (by omega) (λhk:t.k=114=>?_) (λWu:t.k≠114=>l0 (n:=119) (by omega) (λhk:t.k=119=>?_) (λZZ:t.k≠119=>?_))))
 .rintro _ w2 rfl H2
  refine ⟨_,rfl,lM ⟨_,H2.y7 1 rfl h4 5,lM ?_⟩⟩
  have e:IntKind.wrap .i64 ((f.n:Int)+1)=((f.n+1:Nat):Int):=by rw [IntWalk.i64_in _ (by omega)];omega
  rw [e]
  refine H2.CX (bs:=[b3]) (f:=f) 1 ⟨f.k,f.ar,f.al,f.an,f.ca,f.n+1,f.la⟩ 5 rfl h4 (by omega) rfl (λw3 H3=>?_) (by simp)
  refine H3.Vd (bs:=[b3]) 0 1 rfl (λw4 H4=>?_) (by simp) (by simp)
  have er:(fs++[f]).flatMap FM.rows=(fs++[(⟨f.k,f.ar,f.al,f.an,f.ca,f.n+1,f.la⟩:FM)]).flatMap FM.rows:=by simp [FM.rows]
  have H5:SF (·∈own) w w4 rb sl 0 wd fs ⟨f.k,f.ar,f.al,f.an,f.ca,f.n+1,f.la⟩ [.g b3] ts:=by
   show LH _ _ _ (SL rb sl 0 wd _ ((fs++[(⟨f.k,f.ar,f.al,f.an,f.ca,f.n+1,f.la⟩:FM)]).flatMap FM.rows)++_) _
   rw [<-er]
   exact H4
  refine jj H5 (λg hg u hu=>?_) h4 base (λ_ h=>h) (.inr ⟨?_,rfl⟩)
  .rcases fW.1 hg with hg|hg
   .exact h3 g (by simp [hg]) u hu
   .simp at hg;subst hg
    exact h3 f (by simp) u hu
  .unfold jQ;rw [if_pos hk];rfl
 .refine H1.Ky (bs:=[b3]) h3 h4 (λoL s1=>Lm s1 hl (-1) 0) ?_ (by simp)
  rintro _ w3 Bt yS f3 p3 lO CO xF t3 nZ tD uK ⟨rfl,qU,jc,rfl,rfl⟩ H4
  refine ⟨true,rfl,jj H4 nZ tD uK t3 (.inr ⟨?_,rfl⟩)⟩
  unfold jQ
  rw [if_neg XU,if_pos hk,qU,jc]
 .exact leaf 2 t.lo t.hi H1 (by unfold jQ;rw [if_neg XU,if_neg Z0,if_pos hk])
 .refine H1.Vd (bs:=[b3]) 0 1 rfl (λw2 H2=>?_) (by simp) (by simp)
  have H2:SF (·∈own) w w2 rb sl 2 wd fs f [.g b3] ts:=H2
  have ei:jQ t ⟨fs.map FM.x,f.x,st,wd⟩=if t.s=I8 then some ⟨fs.map FM.x,oa f.x (.mk 0 0 0 []),3,wd⟩ else if t.s=CN then some ⟨fs.map FM.x,oa f.x (.mk 1 0 0 []),3,wd⟩ else if t.s=Qw then some ⟨fs.map FM.x,f.x,2,4⟩ else if t.s=Qv then some ⟨fs.map FM.x,f.x,2,5⟩ else if t.s=Qx then some ⟨fs.map FM.x,f.x,2,3⟩ else none:=by
   unfold jQ
   rw [if_neg XU,if_neg Z0,if_neg Wu,if_pos hk]
  have word:∀(k:Int),jQ t ⟨fs.map FM.x,f.x,st,wd⟩=some ⟨fs.map FM.x,f.x,2,k⟩->bX w2 ((bF rb).add 2) (.i k) λpR=>kept [b3] w2 pR/\regex_reader_item.dV pR (BG w own ts rb (Oe (jQ t ⟨fs.map FM.x,f.x,st,wd⟩))):=λk he=>
   H2.Vd (bs:=[b3]) 0 2 rfl (λw3 H3=>jj (show SF (·∈own) w w3 rb sl 2 k fs f [.g b3] ts from H3) h3 h4 base (λ_ h=>h) (.inr ⟨he,rfl⟩)) (by simp) (by simp)
  refine vI (λh1:t.s=I8=>leaf 0 0 0 H2 (by rw [ei,if_pos h1])) (λn1:t.s≠I8=>vI (λh1:t.s=CN=>leaf 1 0 0 H2 (by rw [ei,if_neg n1,if_pos h1])) (λn2:t.s≠CN=>vI (λh1:t.s=Qw=>word 4 (by rw [ei,if_neg n1,if_neg n2,if_pos h1])) (λn3:t.s≠Qw=>vI (λh1:t.s=Qv=>word 5 (by rw [ei,if_neg n1,if_neg n2,if_neg n3,if_pos h1])) (λn4:t.s≠Qv=>vI (λh1:t.s=Qx=>word 3 (by rw [ei,if_neg n1,if_neg n2,if_neg n3,if_neg n4,if_pos h1])) (λn5:t.s≠Qx=>?_)))))
  exact jj H2 h3 h4 base (λ_ h=>h) (.inl ⟨by rw [ei,if_neg n1,if_neg n2,if_neg n3,if_neg n4,if_neg n5],rfl⟩)
 .exact jj H1 h3 h4 base (λ_ h=>h) (.inl ⟨by unfold jQ;rw [if_neg XU,if_neg Z0,if_neg Wu,if_neg ZZ],rfl⟩)
theorem GN {w:World} {e:TypeId} {sz:Nat} {s:Sl} {xs:List Value} {p:Addr} (h:aP w e sz s xs) (hp:s.a=some p) (n:Nat) (hn:n<=s.n):aP w e sz ⟨s.a,n,s.c⟩ (xs.take (n *sz)):=by
 have hl:=h.len
 rcases h.cases with ⟨rfl,_⟩|⟨g,cur,ha,hg,h3,h4,h5,h6⟩
 .cases hp
 .have hm:n *sz<=s.n *sz:=Nat.mul_le_mul_right _ hn
  refine ⟨by rw [List.length_take];show _=n *sz;omega,.inr ⟨g,s.c,cur,by rw [ha],Nat.zero_le _,hg,Nat.le_trans hn h3,h4,h5,?_⟩⟩
  rw [<-h6,List.take_take]
  congr 1
  show n *sz=_
  omega
section
variable {M:Nat->Prop} {w0 w:World} {L D A:List En} {bs:List Nat} {G:List En} {rb:Nat} {ts:List Rt}
theorem Bp (H:LH M w0 w L D) (i:Nat) {rs PV:List kV} (hi:L[i]? =some (.rows (rs++PV))):LH M w0 w (L.set i (.rows rs)) D:=by
 have hp:(En.rows (rs++PV)).P w:=H.get i hi
 have nd:=hp.2
 rw [qfA,qnA] at nd
 refine H.CZ i _ hi (Fr.refl _ _) ⟨λq hq=>hp.1 q (qmL _ hq),nd.1⟩ λb hb=>.inl (aI.2 ?_)
 rw [qfA]
 exact qmL _ (aI.1 hb)
theorem Po (H:LH M w0 w (A++G) [.trees ts]):LH (·∈A.flatMap (·.fp)) w w A [.trees ts]:=by
 have nd:=H.nd
 rw [qfA,qnA] at nd
 refine LH.zD _ _ (λe he=>⟨H.own e (qmL _ he),λb hb=>mY.2 ⟨e,he,hb⟩⟩) nd.1 λe he=>?_
 simp only [cU,qnM,or_false] at he
 subst he
 exact ⟨H.getD 0,λb hb e' mI eD=>H.dj (.trees ts) (by simp) b hb e' (qmL _ mI) eD⟩
theorem MI (H:LH M w0 w (A++G) [.trees ts]) {w':World} {Ak:Addr} {uC:List FX} {xR:FX} {dL rY:Int} {jo:List Nat} {lF:List Rt} (s:St w' rb Ak uC xR dL rY jo lF) (fr:Fr (·∈A.flatMap (·.fp)) w w') (o:∀x∈jo,x∈A.flatMap (·.fp)\/w.heap.size<=x)
  (hb:∀b∈Rt.gK lF,b∈Rt.gK ts\/b∈A.flatMap (·.fp)\/w.heap.size<=b):
  ∃(xB:Sl) (tB:List FM) (f':FM) (p':Addr),tB.map FM.x=uC/\f'.x=xR/\(∀g∈tB++[f'],∀t∈g.ts,t∈lF)/\xB.a=some p'/\Ak=p'.add (tB.length *10)/\(∀b∈Rt.gK lF,b∈Rt.gK ts\/w0.heap.size<=b\/M b)/\SF M w0 w' rb xB dL rY tB f' G lF:=by
 obtain ⟨xB,tB,f',p',h1,h2,h3,h4,h5,h6,h7,h8,h9,B8⟩:=s
 have nd:=H.nd
 rw [qfA,qnA] at nd
 have GK:∀b∈A.flatMap (·.fp),w0.heap.size<=b\/M b:=λb hb=>by
  obtain ⟨e,he,rf⟩:=mY.1 hb
  exact H.new e (qmL _ he) b rf
 have VT:∀e∈G,∀b∈e.fp,b<w.heap.size:=λe he b hb=>e.lt w (H.own e (qmR _ he)) b hb
 have Gi:∀e∈G,∀b∈e.fp,b∉A.flatMap (·.fp):=λe he b hb hm=>nd.2.2 b hm b (mY.2 ⟨e,he,hb⟩) rfl
 have l8:=H.fr.size
 have MZ:∀b∈jo,w0.heap.size<=b\/M b:=λb hb=>(o b hb).elim (GK b) λh=>.inl (Nat.le_trans l8 h)
 refine ⟨xB,tB,f',p',h1,h2,h3,h4,h5,λb eD=>?_,H.fr.trans fr λx hx hm=>(GK x hm).resolve_left (by omega),λe he=>?_,λe he=>?_,λe he b eD=>?_,?_,λe he b eD e' mI rf=>?_⟩
 .rcases hb b eD with h|h|h
  .exact .inl h
  .exact .inr (GK b h)
  .exact .inr (.inl (Nat.le_trans l8 h))
 .rcases fW.1 he with he|he
  .exact h8 e he
  .exact e.st w w' (λb hb hl=>fr.gV b hl (Gi e he b hb)) (H.own e (qmR _ he))
 .simp at he;subst he;exact h9
 .rcases fW.1 he with he|he
  .exact MZ b (by rw [h6];exact mY.2 ⟨e,he,eD⟩)
  .exact H.new e (qmR _ he) b eD
 .rw [qfA,qnA]
  refine ⟨h6▸h7,nd.2.1,λx hx y hy Wq=>?_⟩
  subst Wq
  obtain ⟨e,he,rf⟩:=mY.1 hy
  rcases o x (by rw [h6];exact hx) with h|h
  .exact Gi e he x rf h
  .have:=VT e he x rf;omega
 .simp at he;subst he
  have B9:b∈Rt.gK lF:=aI.1 eD
  rcases fW.1 mI with mI|mI
  .exact B8 b B9 (by rw [h6];exact mY.2 ⟨e',mI,rf⟩)
  .rcases hb b B9 with h|h|h
   .exact H.dj (.trees ts) (by simp) b (aI.2 h) e' (qmR _ mI) rf
   .exact Gi e' mI b rf h
   .have:=VT e' mI b rf;omega
theorem _root_.Go.W.LH.csA (H:LH M w0 w (A++G) [.trees ts]) {g:FuncId} {args:Array Value} {K:aD} {Q:Ending->Addr->List FX->FX->Int->Int->List Rt->Prop}
  (hc:∀own,LH (·∈own) w w A [.trees ts]->Calls Tryz.prog g args w (BG w own ts rb Q))
  (hk:∀r w' (xB:Sl) (tB:List FM) (f':FM) (p':Addr) (dL rY:Int) (lF:List Rt),(∀t∈ts,t∈lF)->(∀g∈tB++[f'],∀t∈g.ts,t∈lF)->xB.a=some p'->(∀b∈Rt.gK lF,b∈Rt.gK ts\/w0.heap.size<=b\/M b)->Q r (p'.add (tB.length *10)) (tB.map FM.x) f'.x dL rY lF->SF M w0 w' rb xB dL rY tB f' G lF->K r w')
  (jf:∀b∈bs,En.g b∈G:=by simp):fV bs Tryz.prog g args w K:=by
 have nd:=H.nd
 rw [qfA,qnA] at nd
 refine ⟨(·∈A.flatMap (·.fp)),λb hb hm=>?_,(hc _ (Po H)).mono ?_⟩
 .exact nd.2.2 b hm b (mY.2 ⟨_,jf b hb,by simp [En.g]⟩) rfl
 .rintro r w' ⟨Ak,uC,xR,dL,rY,jo,lF,s,fr,o,b,t,q⟩
  obtain ⟨xB,tB,f',p',rfl,rfl,Jz,Ic,rfl,eD,H'⟩:=MI H s fr o b
  exact ⟨fr,hk r w' xB tB f' p' dL rY lF t Jz Ic eD q H'⟩
theorem Pn (H:LH M w0 w L [.trees ts]) (T:Rt) (hT:T∈ts) (k:Int) (lo hi:UInt8):LH M w0 w L [.trees (ts++[.mk k lo hi T.s T.l])]:=by
 have pt:Rt.Ps w ts:=H.getD 0
 have H1:=H.mE (.trees (ts++[.mk k lo hi T.s T.l])) (Fr.refl _ _) (Rt.oq λt ht=>?_) λb hb=>.inr (.inr ⟨.trees ts,by simp,?_⟩)
 .exact H1.forget _ (by simp)
 .rcases fW.1 ht with ht|ht
  .exact pt.mem ht
  .simp at ht;subst ht
   unfold Rt.P
   exact (pt.mem hT).parts
 .obtain ⟨t,ht,eD⟩:=Rt.bD.1 (aI.1 hb)
  rcases fW.1 ht with ht|ht
  .exact aI.2 (Rt.bD.2 ⟨t,ht,eD⟩)
  .simp at ht
   rw [ht] at eD
   exact aI.2 (Rt.bD.2 ⟨T,hT,Rt.eJ.2 ((Rt.eJ (t:=.mk k lo hi T.s T.l)).1 eD)⟩)
theorem MJ {T:Rt} (hT:T∈ts) {k:Int} {lo hi:UInt8} {b:Nat} (h:b∈Rt.gK (ts++[.mk k lo hi T.s T.l])):b∈Rt.gK ts:=by
 obtain ⟨t,ht,eD⟩:=Rt.bD.1 h
 rcases fW.1 ht with ht|ht
 .exact Rt.bD.2 ⟨t,ht,eD⟩
 .simp at ht
  rw [ht] at eD
  exact Rt.bD.2 ⟨T,hT,Rt.eJ.2 ((Rt.eJ (t:=.mk k lo hi T.s T.l)).1 eD)⟩
theorem Pm (H:LH M w0 w L [.trees ts]) (T:Rt) (hT:T∈ts):LH M w0 w L [.trees (ts++T.l)]:=by
 have pt:Rt.Ps w ts:=H.getD 0
 have H1:=H.mE (.trees (ts++T.l)) (Fr.refl _ _) (Rt.oq λt ht=>?_) λb hb=>.inr (.inr ⟨.trees ts,by simp,?_⟩)
 .exact H1.forget _ (by simp)
 .rcases fW.1 ht with ht|ht
  .exact pt.mem ht
  .exact (pt.mem hT).parts.2.mem ht
 .obtain ⟨t,ht,eD⟩:=Rt.bD.1 (aI.1 hb)
  rcases fW.1 ht with ht|ht
  .exact aI.2 (Rt.bD.2 ⟨t,ht,eD⟩)
  .exact aI.2 (Rt.bD.2 ⟨T,hT,Rt.eJ.2 (.inr (Rt.bD.2 ⟨t,ht,eD⟩))⟩)
theorem MC {T:Rt} (hT:T∈ts) {b:Nat} (h:b∈Rt.gK (ts++T.l)):b∈Rt.gK ts:=by
 obtain ⟨t,ht,eD⟩:=Rt.bD.1 h
 rcases fW.1 ht with ht|ht
 .exact Rt.bD.2 ⟨t,ht,eD⟩
 .exact Rt.bD.2 ⟨T,hT,Rt.eJ.2 (.inr (Rt.bD.2 ⟨t,ht,eD⟩))⟩
end
theorem Te {w:World} {rb:Nat} {sl:Sl} {p:Addr} {n:Nat} (hc:w.cell? ((bF rb).add 0)=some sl.v) (hl:sl.n=n+1) (hp:sl.a=some p) (hn:n<=1000000):Calls Tryz.prog eT #[.pointer (some (bF rb))] w λr w'=>r=.returned (.pointer (some (p.add (n *10))))/\bI w w':=by
 have e:IntKind.wrap .i64 (((sl.n:Nat):Int) - 1)=(n:Int):=by rw [IntWalk.i64_in _ (by omega)];omega
 have UY:w.drew.cell? ((bF rb).add 0)=some sl.v:=hc
 refine regex_reader_top.ok _ w _ (show _ from ⟨sl,UY,sl,UY,?_⟩)
 rw [e,hp]
 exact ⟨by omega,by omega,rfl,Fr.drew _ _⟩
def LA (k:Int) (l:List Rx):Rx:=if k<0 then l.headD wC else .mk k 0 0 l
theorem Ov {w:World} {rb:Nat} {sl:Sl} {st wd:Int} {fs:List FM} {g f:FM} {ts:List Rt} {p:Addr} {own:List Nat}
  (H:LH (·∈own) w w [.c rb [sl.v,.int .i64 st,.int .i64 wd] gX,.row cA 10 sl (((fs++[g])++[f]).flatMap FM.c),.rows ((fs++[g]).flatMap FM.rows)] [.trees ts])
  (h3:∀x∈fs++[g],∀t∈x.ts,t∈ts) (hp:sl.a=some p) (hl:fs.length<=999999) (T:Rt) (hT:T∈ts) (hk:0<=f.k\/T.l≠[]):
  Calls Tryz.prog gN #[.pointer (some (bF rb)),T.s.v] w (BG w own ts rb λr _ uC xR dL rY _=>r=.returned (.bool true)/\uC=fs.map FM.x/\xR=oa g.x (LA f.k (Rt.bU T.l))/\dL=3/\rY=wd):=by
 have hn:sl.n=(fs++[g]).length+1:=by
  have ho:aP w cA 10 sl (((fs++[g])++[f]).flatMap FM.c):=H.get 1
  have:=ho.len
  rw [sC] at this
  simp at this ⊢
  omega
 have hc1:1<=sl.c:=by
  have ho:aP w cA 10 sl (((fs++[g])++[f]).flatMap FM.c):=H.get 1
  have:=ho.cap
  omega
 refine regex_reader_close.ok _ _ w _ (H.call (Te (H.ld 0 0) hn hp (by simp;omega)) ?_)
 rintro _ w1 rfl H1
 refine ⟨_,rfl,lM ⟨_,H1.y7 1 rfl hp 0,?_⟩⟩
 have H2:=H1.drew
 refine ⟨sl,H2.ld 0 0,sl,H2.ld 0 0,?_⟩
 have e:IntKind.wrap .i64 (((sl.n:Nat):Int) - 1)=(((fs++[g]).length:Nat):Int):=by rw [IntWalk.i64_in _ (by simp at hn;omega)];omega
 rw [e]
 have ho:aP w cA 10 sl (((fs++[g])++[f]).flatMap FM.c):=H.get 1
 have aas:=ho.cap
 refine ⟨by omega,by omega,?_⟩
 have ev:Value.slice (if sl.c=0 then sl.a else sl.a.map (·.add (0 *10))) ((Int.toNat (((fs++[g]).length:Nat):Int)) - 0) (sl.c - 0)=(⟨sl.a,(fs++[g]).length,sl.c⟩:Sl).v:=by
  rw [if_neg (by omega),hp]
  show Value.slice (some (p.add 0)) _ _=Value.slice (some p) _ _
  rw [uH]
  simp
 rw [ev]
 refine H2.st 0 0 rfl λw3 H3=>?_
 have ZN:aP w3 cA 10 sl (((fs++[g])++[f]).flatMap FM.c):=H3.get 1
 have hs3:=GN ZN hp (fs++[g]).length (by omega)
 have et:(((fs++[g])++[f]).flatMap FM.c).take ((fs++[g]).length *10)=(fs++[g]).flatMap FM.c:=by
  rw [qfA,<-sC,List.take_left']
  rfl
 rw [et] at hs3
 have H4:=H3.CZ 1 (.row cA 10 ⟨sl.a,(fs++[g]).length,sl.c⟩ ((fs++[g]).flatMap FM.c)) rfl (Fr.refl _ _) hs3 λb hb=>.inl hb
 have H5:SF (·∈own) w w3 rb ⟨sl.a,(fs++[g]).length,sl.c⟩ st wd fs g [] ts:=by
  show LH _ _ _ (_++[]) _
  rw [qaN]
  exact H4
 refine aZ (λh1=>?_) (λh1=>?_)
 .have z9:f.k<0:=of_decide_eq_true h1
  have hM:T.l≠[]:=hk.resolve_left (by omega)
  obtain ⟨x,l,hx⟩:=List.exists_cons_of_ne_nil hM
  have hr:jO 4 w3 T.s (T.l.flatMap Rt.c):=((show Rt.Ps w3 ts from H5.getD 0).mem hT).parts.1
  have pU:=Rt.cC hr
  refine ⟨by omega,by rw [pU,hx];simp,Rt.at' hr (i:=0) (t:=x) (by rw [hx];rfl) λq hq c=>⟨_,_,_,_,c.c0,c.c1,c.c2,c.c3,?_⟩⟩
  have H6:=Pm H5 T hT
  refine (show SF (·∈own) w w3 rb ⟨sl.a,(fs++[g]).length,sl.c⟩ st wd fs g [] (ts++T.l) from H6).OE (λy hy t ht=>qmL _ (h3 y hy t ht)) hp (λoL s1=>FQ s1 (by simp;omega) x (by rw [hx];simp)) ?_
  rintro _ w4 X1 XA f4 p4 CD wd4 X7 t4 HW VV b4 ⟨rfl,_,qU,jc,rfl,rfl⟩ H7
  refine ⟨true,rfl,jj H7 HW VV (λb hb=>(b4 b hb).imp (MC hT) id) (λt ht=>t4 t (qmL _ ht)) ⟨rfl,qU,?_,rfl,rfl⟩⟩
  rw [jc,hx]
  unfold LA
  rw [if_pos z9]
  rfl
 .have z9:¬f.k<0:=of_decide_eq_false h1
  have H6:=Pn H5 T hT f.k 0 0
  refine (show SF (·∈own) w w3 rb ⟨sl.a,(fs++[g]).length,sl.c⟩ st wd fs g [] (ts++[.mk f.k 0 0 T.s T.l]) from H6).OE (λy hy t ht=>qmL _ (h3 y hy t ht)) hp (λoL s1=>FQ s1 (by simp;omega) (.mk f.k 0 0 T.s T.l) (by simp)) ?_
  rintro _ w4 X1 XA f4 p4 CD wd4 X7 t4 HW VV b4 ⟨rfl,_,qU,jc,rfl,rfl⟩ H7
  refine ⟨true,rfl,jj H7 HW VV (λb hb=>(b4 b hb).imp (MJ hT) id) (λt ht=>t4 t (qmL _ ht)) ⟨rfl,qU,?_,rfl,rfl⟩⟩
  rw [jc]
  unfold LA
  rw [if_neg z9]
  rfl
def oB (s:SX) (l:List Rx):Option SX:=match s.lo.getLast? with
 |none=>none
 |some g=>some ⟨s.lo.dropLast,oa g (LA s.tp.k l),3,s.wd⟩
def Vp (s':Sl) (f:FX):FX:=⟨f.k,(s',f.ar.2++[iG f]),[],[],[],0,f.la⟩
def jP (s':Sl) (t:Tk) (s:SX):Option SX:=
 if s.st=2 then (if t.k=40 then some ⟨s.lo++[s.tp],qM s.wd,1,s.wd⟩ else none)
 else if s.st=1 then (if t.k=41 then oB s [] else jQ t s)
 else if s.st=0 then jQ t s
 else if t.k=42 then some ⟨s.lo,oa s.tp (.mk 7 0 0 [s.tp.la]),s.st,s.wd⟩
 else if t.k=38 then some ⟨s.lo,kL s.tp,0,s.wd⟩
 else if t.k=124 then some ⟨s.lo,iT s.tp,0,s.wd⟩
 else if t.k=44 then (if s.tp.k<0 then none else some ⟨s.lo,Vp s' s.tp,0,s.wd⟩)
 else if t.k=41 then (if s.lo=[] then none else oB s (s.tp.ar.2++[iG s.tp]))
 else if t.k=36 then (if s.lo=[] then some s else none)
 else jQ t ⟨s.lo,gZ s.tp,s.st,s.wd⟩
section
variable {M:Nat->Prop} {w0 w1:World} {bs:List Nat} {G:List En} {rb:Nat} {sl:Sl} {st wd:Int} {fs:List FM} {f:FM} {ts:List Rt} {p:Addr}
abbrev FS2 (M:Nat->Prop) (w0 w:World) (rb:Nat) (sl:Sl) (st wd:Int) (fs:List FM) (f:FM) (rs:List kV) (G:List En) (ts:List Rt):Prop:=LH M w0 w (SL rb sl st wd ((fs++[f]).flatMap FM.c) rs++G) [.trees ts]
theorem M4 (H1:SF M w0 w1 rb sl st wd fs f G ts) (i:Nat) {src:Sl} (hi:(SL rb sl st wd ((fs++[f]).flatMap FM.c) ((fs++[f]).flatMap FM.rows)++G)[i]? =some (.row aB 4 src z4)) (hp:sl.a=some p) (d:Nat) (DV:1<=d) (DW:d<=4) (t:Rt) (hb:(f.eU d).2.length<=1000000) (TP:src.n=1) {K:World->Prop}
  (hK:∀s' w',SF M w0 w' rb sl st wd fs (f.put d (s',(f.eU d).2++[t])) G ts->K w') (jf:∀b∈bs,En.g b∈G:=by simp):
  ∃(t15:Sl) (w5:World),(Builtin.append_ #[aE,aE] aE #[(f.eU d).1.v,src.v]).run Tryz.prog w1=.ok (t15.v) w5/\kept bs w1 w5/\(0:Int)<=(((f.eU d).1.n:Nat):Int)/\(((f.eU d).1.n:Nat):Int)<((t15.n:Nat):Int)/\aX t15.a λq=>
   ((bX w5 (q.add (Int.toNat (((f.eU d).1.n:Nat):Int) *4)) (.int .i64 t.k) λw6=>kept bs w5 w6/\bX w6 ((q.add (Int.toNat (((f.eU d).1.n:Nat):Int) *4)).add 1) (.int .u8 (t.lo.toNat:Int)) λw7=>kept bs w6 w7/\bX w7 ((q.add (Int.toNat (((f.eU d).1.n:Nat):Int) *4)).add 2) (.int .u8 (t.hi.toNat:Int)) λw8=>kept bs w7 w8/\bX w8 ((q.add (Int.toNat (((f.eU d).1.n:Nat):Int) *4)).add 3) t.s.v λw9=>kept bs w8 w9/\bX w9 ((p.add (fs.length *10)).add d) t15.v λpR=>kept bs w9 pR/\K pR)/\
   (bX w5 ((p.add (fs.length *10)).add d) t15.v λrO=>kept bs w5 rO/\bX rO (q.add (Int.toNat (((f.eU d).1.n:Nat):Int) *4)) (.int .i64 t.k) λw6=>kept bs rO w6/\bX w6 ((q.add (Int.toNat (((f.eU d).1.n:Nat):Int) *4)).add 1) (.int .u8 (t.lo.toNat:Int)) λw7=>kept bs w6 w7/\bX w7 ((q.add (Int.toNat (((f.eU d).1.n:Nat):Int) *4)).add 2) (.int .u8 (t.hi.toNat:Int)) λw8=>kept bs w7 w8/\bX w8 ((q.add (Int.toNat (((f.eU d).1.n:Nat):Int) *4)).add 3) t.s.v λw9=>kept bs w8 w9/\K w9)):=by
 have jN:((fs++[f]).flatMap FM.rows)[fs.length *4+(d - 1)]? =some ((f.eU d).1,(f.eU d).2.flatMap Rt.c):=ot fs f (d - 1) _ (AU f DV DW)
 have nr:(f.eU d).1.n=(f.eU d).2.length:=by
  have hp:(En.rows ((fs++[f]).flatMap FM.rows)).P w1:=H1.get 2
  exact Rt.cC (hp.1 _ (cZ jN)).jh
 have hg:∀{L:List En},∀b∈bs,En.g b∈L++G:=λb hb=>qmR _ (jf b hb)
 obtain ⟨s',w5,h1,hkp,h3⟩:=H1.Ht (bs:=bs) (ty:=aE) 2 (fs.length *4+(d - 1)) (src:=src) (news:=z4) (K:=λs' w'=>FS2 M w0 w' rb sl st wd fs f (((fs++[f]).flatMap FM.rows).set (fs.length *4+(d - 1)) (s',(f.eU d).2.flatMap Rt.c++z4)) G ts/\s'.n=(f.eU d).1.n+1/\∃q,s'.a=some q) rfl jN (aP.jh (H1.get i hi)) (by simp [Value.oneCell']) (by omega) (λs' w4 H4 wu qK=>⟨H4,by omega,by
  cases hs:s'.a with
  |none=>have:=(qK hs).2;omega
  |some q=>exact ⟨q,rfl⟩⟩) hg
 obtain ⟨H5,hn5,q,hq⟩:=h3
 refine ⟨s',w5,h1,hkp,by omega,by omega,?_⟩
 rw [hq]
 have Gq:fs.length *4+(d - 1)<((fs++[f]).flatMap FM.rows).length:=by rw [pM];simp;omega
 have ec:∀(f:FM) (t:Rt) (d:Nat),(f.eU d).2.flatMap Rt.c++t.c=((f.eU d).2++[t]).flatMap Rt.c:=λf t d=>by simp
 rw [nr]
 refine ⟨?_,?_⟩
 .refine LH.J3 (bs:=bs) H5 2 (fs.length *4+(d - 1)) (f.eU d).2.length t rfl (qgSS Gq) hq (Rt.iL _) (λw' H6=>?_) hg
  have H6:FS2 M w0 w' rb sl st wd fs f ((((fs++[f]).flatMap FM.rows).set (fs.length *4+(d - 1)) (s',(f.eU d).2.flatMap Rt.c++z4)).set (fs.length *4+(d - 1)) (s',(f.eU d).2.flatMap Rt.c++t.c)) G ts:=H6
  rw [List.set_set,ec,td fs f (s',(f.eU d).2++[t]) DV DW] at H6
  exact H6.CX (bs:=bs) (f:=f) 1 (f.put d (s',(f.eU d).2++[t])) d rfl hp (by omega) (EH f (s',(f.eU d).2++[t]) DV DW) (λtq H7=>hK s' tq H7) hg
 .refine H5.CX (bs:=bs) (f:=f) 1 (f.put d (s',(f.eU d).2++[t])) d rfl hp (by omega) (EH f (s',(f.eU d).2++[t]) DV DW) (λw' H6=>?_) hg
  refine LH.J3 (bs:=bs) (L:=SL rb sl st wd ((fs++[f.put d (s',(f.eU d).2++[t])]).flatMap FM.c) (((fs++[f]).flatMap FM.rows).set (fs.length *4+(d - 1)) (s',(f.eU d).2.flatMap Rt.c++z4))++G) H6 2 (fs.length *4+(d - 1)) (f.eU d).2.length t rfl (qgSS Gq) hq (Rt.iL _) (λtq H7=>?_) hg
  have H7:LH M w0 tq (SL rb sl st wd ((fs++[f.put d (s',(f.eU d).2++[t])]).flatMap FM.c) ((((fs++[f]).flatMap FM.rows).set (fs.length *4+(d - 1)) (s',(f.eU d).2.flatMap Rt.c++z4)).set (fs.length *4+(d - 1)) (s',(f.eU d).2.flatMap Rt.c++t.c))++G) [.trees ts]:=H7
  rw [List.set_set,ec,td fs f (s',(f.eU d).2++[t]) DV DW] at H7
  exact hK s' tq H7
end
theorem pL {α:Type} (l:List α):l=[]\/∃a x,l=a++[x]:=by
 rcases List.eq_nil_or_concat l with h|⟨a,x,h⟩
 .exact .inl h
 .exact .inr ⟨a,x,by rw [h,List.concat_eq_append]⟩
theorem xe (lo:List FX) (g tp:FX) (st wd:Int) (l:List Rx):oB ⟨lo++[g],tp,st,wd⟩ l=some ⟨lo,oa g (LA tp.k l),3,wd⟩:=by
 unfold oB
 simp
def Jb (t:Tk) (S:SX):Ending->Addr->List FX->FX->Int->Int->List Rt->Prop:=λr f0 lo tp st wd ts=>∃s',Oe (jP s' t S) r f0 lo tp st wd ts
theorem SW {w:World} {rb:Nat} {f0:Addr} {lo:List FX} {tp:FX} {st wd:Int} {own:List Nat} {ts:List Rt} (h:St w rb f0 lo tp st wd own ts) (hl:lo.length<=999999) (hs:Small tp 999999) (h1:st=1->0<=tp.k/\lo≠[]) (t:Tk):
  Calls Tryz.prog lV #[.pointer (some (bF rb)),t.v] w (BG w own ts rb (Jb t ⟨lo,tp,st,wd⟩)):=by
 obtain ⟨sl,fs,f,p,rfl,rfl,h3,h4,rfl,H⟩:=yb h
 have Ms:fs.length<=999999:=by simpa using hl
 have wu:f.n<=999999:=hs.n'
 have KC:Small f.x 1000000:=⟨by have:=hs.n';omega,by have:=hs.ar;omega,by have:=hs.al;omega,by have:=hs.an;omega,by have:=hs.ca;omega⟩
 have base:∀b∈Rt.gK ts,b∈Rt.gK ts\/w.heap.size<=b\/b∈own:=λb hb=>.inl hb
 let z:Sl:=⟨none,0,0⟩
 refine regex_reader_feed.cV _ _ _ _ _ _ w _ (H.bJ (bs:=[]) (λb3 w1 H1=>?_) (by simp))
 have H1:SF (·∈own) w w1 rb sl st wd fs f [.g b3] ts:=H1
 refine H1.aJ (HE H1 h4 (by omega)) ?_
 rintro _ w2 rfl H2
 have H2:SF (·∈own) w w2 rb sl st wd fs f [.g b3] ts:=H2
 refine ⟨_,rfl,st,H2.ld 0 1,?_⟩
 have item:∀{w2:World} {N6:Sl} {kT Qz:Int} {yR:List FM} {f2:FM} {CY:List Rt} {p2:Addr},SF (·∈own) w w2 rb N6 kT Qz yR f2 [.g b3] CY->(∀g∈yR++[f2],∀t∈g.ts,t∈CY)->N6.a=some p2->(∀b∈Rt.gK CY,b∈Rt.gK ts\/w.heap.size<=b\/b∈own)->(∀t∈ts,t∈CY)->yR.length<=1000000->f2.n<=1000000->
   jP z t ⟨fs.map FM.x,f.x,st,wd⟩=jQ t ⟨yR.map FM.x,f2.x,kT,Qz⟩->fV [b3] Tryz.prog gp #[.pointer (some (bF rb)),t.v] w2 λr_ w5=>∃t34:Bool,r_=.returned (.bool t34)/\BG w own ts rb (Jb t ⟨fs.map FM.x,f.x,st,wd⟩) (.returned (.bool t34)) w5:=by
  intro w2 N6 kT Qz yR f2 CY p2 H2 Fs Tz yU U4 TJ XJ he
  refine H2.Ky (bs:=[b3]) Fs Tz (λoL s1=>SZ s1 (by simpa using TJ) XJ t) ?_ (by simp)
  rintro r w3 Bt yS f3 p3 lO CO xF t3 nZ tD uK TO H4
  have hb:∀b∈Rt.gK xF,b∈Rt.gK ts\/w.heap.size<=b\/b∈own:=λb hb=>(uK b hb).elim (yU b) .inr
  rcases TO with ⟨hn,rfl⟩|⟨O9,rfl⟩
  .exact ⟨false,rfl,jj H4 nZ tD hb (λt ht=>t3 t (U4 t ht)) ⟨z,.inl ⟨he.trans hn,rfl⟩⟩⟩
  .exact ⟨true,rfl,jj H4 nZ tD hb (λt ht=>t3 t (U4 t ht)) ⟨z,.inr ⟨he.trans O9,rfl⟩⟩⟩
 have close:∀{w2:World} {N6:Sl} {yR:List FM} {g2 f2:FM} {CY:List Rt} {p2:Addr} {s':Sl} (T:Rt),LH (·∈own) w w2 ([.c rb [N6.v,.int .i64 st,.int .i64 wd] gX,.row cA 10 N6 (((yR++[g2])++[f2]).flatMap FM.c),.rows ((yR++[g2]).flatMap FM.rows)]++[.g b3]) [.trees CY]->(∀x∈yR++[g2],∀t∈x.ts,t∈CY)->N6.a=some p2->yR.length<=999999->T∈CY->(0<=f2.k\/T.l≠[])->(∀b∈Rt.gK CY,b∈Rt.gK ts\/w.heap.size<=b\/b∈own)->(∀t∈ts,t∈CY)->
   jP s' t ⟨fs.map FM.x,f.x,st,wd⟩=some ⟨yR.map FM.x,oa g2.x (LA f2.k (Rt.bU T.l)),3,wd⟩->fV [b3] Tryz.prog gN #[.pointer (some (bF rb)),T.s.v] w2 λr_ w5=>∃t34:Bool,r_=.returned (.bool t34)/\BG w own ts rb (Jb t ⟨fs.map FM.x,f.x,st,wd⟩) (.returned (.bool t34)) w5:=by
  intro w2 N6 yR g2 f2 CY p2 s' T H2 Fs Tz TJ hT hk yU U4 he
  refine LH.csA (rb:=rb) (bs:=[b3]) H2 (λoL HA=>Ov HA Fs Tz TJ T hT hk) ?_ (by simp)
  rintro r w3 Bt yS f3 p3 lO CO xF t3 nZ tD uK ⟨rfl,qU,jc,rfl,rfl⟩ H4
  refine ⟨true,rfl,jj H4 nZ tD (λb hb=>(uK b hb).elim (yU b) .inr) (λt ht=>t3 t (U4 t ht)) ⟨s',.inr ⟨?_,rfl⟩⟩⟩
  rw [qU,jc]
  exact he
 refine aZ (λFw=>?_) (λFw=>?_)
 .have Fw:st=2:=eq_of_beq Fw
  refine l0 (n:=40) (by omega) (λhk:t.k=40=>⟨wd,H2.ld 0 2,?_⟩) (λhk:t.k≠40=>?_)
  .refine H2.Ky (bs:=[b3]) h3 h4 (λoL s1=>Lm s1 (by simp;omega) wd 1) ?_ (by simp)
   rintro _ w3 Bt yS f3 p3 lO CO xF t3 nZ tD uK ⟨rfl,qU,jc,rfl,rfl⟩ H4
   refine ⟨true,rfl,jj H4 nZ tD uK t3 ⟨z,.inr ⟨?_,rfl⟩⟩⟩
   rw [qU,jc]
   unfold jP
   exact (if_pos Fw).trans (if_pos hk)
  .refine jj H2 h3 h4 base (λ_ h=>h) ⟨z,.inl ⟨?_,rfl⟩⟩
   unfold jP
   exact (if_pos Fw).trans (if_neg hk)
 have n2:st≠2:=λe=>by rw [e] at Fw;exact absurd Fw (by decide)
 refine aZ (λD9=>?_) (λD9=>?_)
 .have D9:st=1:=eq_of_beq D9
  obtain ⟨z9,hM⟩:=h1 D9
  refine l0 (n:=41) (by omega) (λhk:t.k=41=>?_) (λhk:t.k≠41=>?_)
  .rcases pL fs with rfl|⟨QZ,g,rfl⟩
   .exact absurd rfl hM
   have H3:=CA H2 3 0 0
   have er:(((QZ++[g])++[f]).flatMap FM.rows)=(QZ++[g]).flatMap FM.rows++f.rows:=by rw [qfA (xs:=QZ++[g])];simp
   have H4:LH (·∈own) w w2 (SL rb sl st wd (((QZ++[g])++[f]).flatMap FM.c) ((QZ++[g]).flatMap FM.rows++f.rows)++[.g b3]) [.trees (ts++[.mk 3 0 0 ⟨none,0,0⟩ []])]:=by rw [<-er];exact H3
   have H5:=Bp H4 2 rfl
   refine close (s':=z) (.mk 3 0 0 ⟨none,0,0⟩ []) H5 (λx hx u hu=>qmL _ (h3 x (qmL _ hx) u hu)) h4 (by simp at Ms;omega) (by simp) (.inl z9) (λb hb=>.inl (vl hb)) (λu hu=>qmL _ hu) ?_
   unfold jP
   refine (if_neg n2).trans ((if_pos D9).trans ((if_pos hk).trans ?_))
   rw [qmpA]
   exact xe _ _ _ _ _ _
  .refine item H2 h3 h4 base (λ_ h=>h) (by omega) (by omega) ?_
   unfold jP
   exact (if_neg n2).trans ((if_pos D9).trans (if_neg hk))
 have n1:st≠1:=λe=>by rw [e] at D9;exact absurd D9 (by decide)
 refine aZ (λJM=>?_) (λJM=>?_)
 .have JM:st=0:=eq_of_beq JM
  refine item H2 h3 h4 base (λ_ h=>h) (by omega) (by omega) ?_
  unfold jP
  exact (if_neg n2).trans ((if_neg n1).trans (if_pos JM))
 have n0:st≠0:=λe=>by rw [e] at JM;exact absurd JM (by decide)
 have fe:∀s':Sl,jP s' t ⟨fs.map FM.x,f.x,st,wd⟩=(if t.k=42 then some ⟨fs.map FM.x,oa f.x (.mk 7 0 0 [f.x.la]),st,wd⟩
   else if t.k=38 then some ⟨fs.map FM.x,kL f.x,0,wd⟩
   else if t.k=124 then some ⟨fs.map FM.x,iT f.x,0,wd⟩
   else if t.k=44 then (if f.x.k<0 then none else some ⟨fs.map FM.x,Vp s' f.x,0,wd⟩)
   else if t.k=41 then (if fs.map FM.x=[] then none else oB ⟨fs.map FM.x,f.x,st,wd⟩ (f.x.ar.2++[iG f.x]))
   else if t.k=36 then (if fs.map FM.x=[] then some ⟨fs.map FM.x,f.x,st,wd⟩ else none)
   else jQ t ⟨fs.map FM.x,gZ f.x,st,wd⟩):=λs'=>by
  unfold jP
  exact (if_neg n2).trans ((if_neg n1).trans (if_neg n0))
 refine l0 (n:=42) (by omega) (λhk:t.k=42=>?_) (λPe:t.k≠42=>l0 (n:=38) (by omega) (λhk:t.k=38=>?_) (λRz:t.k≠38=>l0 (n:=124) (by omega) (λhk:t.k=124=>?_) (λGz:t.k≠124=>l0 (n:=44) (by omega) (λhk:t.k=44=>?_) (λWv:t.k≠44=>l0 (n:=41) (by omega) (λhk:t.k=41=>?_) (λZ1:t.k≠41=>l0 (n:=36) (by omega) (λhk:t.k=36=>?_) (λk36:t.k≠36=>?_))))))
 .obtain ⟨c0,c1,c2,c3⟩:=H2.MF 1 rfl h4
  refine lM ⟨_,_,_,_,c0,c1,c2,c3,?_⟩
  refine H2.iH (e:=aB) (sz:=4) (n:=1) (cs:=f.la.c) rfl (by decide) λw7 H7=>lM ?_
  have a1:((p.add (fs.length *10)).add 6).add 1=(p.add (fs.length *10)).add 7:=add_add _ 6 1
  have a2:((p.add (fs.length *10)).add 6).add 2=(p.add (fs.length *10)).add 8:=add_add _ 6 2
  have a3:((p.add (fs.length *10)).add 6).add 3=(p.add (fs.length *10)).add 9:=add_add _ 6 3
  rw [a1,a2,a3]
  refine H7.CX (bs:=[b3]) (f:=f) 1 ⟨f.k,f.ar,f.al,f.an,f.ca,f.n,.mk 7 f.la.lo f.la.hi f.la.s f.la.l⟩ 6 rfl h4 (by omega) rfl (λw8 H8=>?_) (by simp)
  refine H8.CX (bs:=[b3]) (f:=⟨f.k,f.ar,f.al,f.an,f.ca,f.n,.mk 7 f.la.lo f.la.hi f.la.s f.la.l⟩) 1 ⟨f.k,f.ar,f.al,f.an,f.ca,f.n,.mk 7 0 f.la.hi f.la.s f.la.l⟩ 7 rfl h4 (by omega) rfl (λw9 H9=>?_) (by simp)
  refine H9.CX (bs:=[b3]) (f:=⟨f.k,f.ar,f.al,f.an,f.ca,f.n,.mk 7 0 f.la.hi f.la.s f.la.l⟩) 1 ⟨f.k,f.ar,f.al,f.an,f.ca,f.n,.mk 7 0 0 f.la.s f.la.l⟩ 8 rfl h4 (by omega) rfl (λpR m8=>?_) (by simp)
  refine m8.CX (bs:=[b3]) (f:=⟨f.k,f.ar,f.al,f.an,f.ca,f.n,.mk 7 0 0 f.la.s f.la.l⟩) 1 ⟨f.k,f.ar,f.al,f.an,f.ca,f.n,.mk 7 0 0 ⟨some (bF w2.heap.size),1,1⟩ [f.la]⟩ 9 rfl h4 (by omega) rfl (λrO qB=>?_) (by simp)
  have Ib:f.la∈ts:=h3 f (by simp) _ (by simp [FM.ts])
  have qW:=qB.freeze 4 (Rt.row ⟨some (bF w2.heap.size),1,1⟩ [f.la]) rfl (by show jO 4 rO _ ([f.la].flatMap Rt.c);rw [show [f.la].flatMap Rt.c=f.la.c by simp];exact aP.jh (qB.get 4)) (λb hb=>fQ (e:=aB) (vs:=[f.la].flatMap Rt.c) hb)
  have ux:=qW.node 0 7 0 0 (s:=⟨some (bF w2.heap.size),1,1⟩) (ks:=[f.la]) rfl (by simp) (λt ht=>by simp at ht;subst ht;exact Ib)
  have er:(fs++[f]).flatMap FM.rows=(fs++[(⟨f.k,f.ar,f.al,f.an,f.ca,f.n,.mk 7 0 0 ⟨some (bF w2.heap.size),1,1⟩ [f.la]⟩:FM)]).flatMap FM.rows:=by simp [FM.rows]
  have uy:SF (·∈own) w rO rb sl st wd fs ⟨f.k,f.ar,f.al,f.an,f.ca,f.n,.mk 7 0 0 ⟨some (bF w2.heap.size),1,1⟩ [f.la]⟩ [.g b3] (ts++[.mk 7 0 0 ⟨some (bF w2.heap.size),1,1⟩ [f.la]]):=by
   show LH _ _ _ (SL rb sl st wd _ ((fs++[(⟨f.k,f.ar,f.al,f.an,f.ca,f.n,.mk 7 0 0 ⟨some (bF w2.heap.size),1,1⟩ [f.la]⟩:FM)]).flatMap FM.rows)++_) _
   rw [<-er]
   exact ux
  refine jj uy (λg hg u hu=>?_) h4 (λb hb=>?_) (λu hu=>qmL _ hu) ⟨z,.inr ⟨?_,rfl⟩⟩
  .rcases fW.1 hg with hg|hg
   .exact qmL _ (h3 g (by simp [hg]) u hu)
   .simp at hg;subst hg
    simp only [FM.ts,fW,cU,qnM,or_false] at hu
    rcases hu with (((hu|hu)|hu)|hu)|rfl
    .exact qmL _ (h3 f (by simp) u (by simp [FM.ts,hu]))
    .exact qmL _ (h3 f (by simp) u (by simp [FM.ts,hu]))
    .exact qmL _ (h3 f (by simp) u (by simp [FM.ts,hu]))
    .exact qmL _ (h3 f (by simp) u (by simp [FM.ts,hu]))
    .simp
  .obtain ⟨u,hu,OY⟩:=Rt.bD.1 hb
   rcases fW.1 hu with hu|hu
   .exact .inl (Rt.bD.2 ⟨u,hu,OY⟩)
   .simp at hu
    rw [hu] at OY
    rcases Rt.eJ.1 OY with OY|OY
    .have:=fQ (e:=aB) OY
     simp [En.row,bC,Rt.s] at this
     subst this
     exact .inr (.inl H2.fr.size)
    .obtain ⟨t',np,eD⟩:=Rt.bD.1 OY
     simp [Rt.l] at np
     rw [np] at eD
     exact .inl (Rt.bD.2 ⟨f.la,Ib,eD⟩)
  .rw [fe,if_pos hk];rfl
 .refine H2.Ky (bs:=[b3]) h3 h4 (λoL s1=>BP (Dp s1 KC.n' KC.ca KC.an)) ?_ (by simp)
  rintro _ w3 Bt yS f3 p3 lO CO xF t3 nZ tD uK ⟨rfl,NY,qU,jc,rfl,rfl⟩ H3
  refine ⟨rfl,H3.Vd (bs:=[b3]) 0 1 rfl (λw4 H4=>?_) (by simp) (by simp)⟩
  refine jj (show SF (·∈own) w w4 rb Bt 0 CO yS f3 [.g b3] xF from H4) nZ tD uK t3 ⟨z,.inr ⟨?_,rfl⟩⟩
  rw [fe,if_neg Pe,if_pos hk,qU,jc]
 .refine H2.Ky (bs:=[b3]) h3 h4 (λoL s1=>BP (AN s1 KC.n' KC.ca KC.an KC.al)) ?_ (by simp)
  rintro _ w3 Bt yS f3 p3 lO CO xF t3 nZ tD uK ⟨rfl,NY,qU,jc,rfl,rfl⟩ H3
  refine ⟨rfl,H3.Vd (bs:=[b3]) 0 1 rfl (λw4 H4=>?_) (by simp) (by simp)⟩
  refine jj (show SF (·∈own) w w4 rb Bt 0 CO yS f3 [.g b3] xF from H4) nZ tD uK t3 ⟨z,.inr ⟨?_,rfl⟩⟩
  rw [fe,if_neg Pe,if_neg Rz,if_pos hk,qU,jc]
 .refine lM ⟨f.k,H2.y7 1 rfl h4 0,aZ (λh0=>?_) (λh0=>?_)⟩
  .refine jj H2 h3 h4 base (λ_ h=>h) ⟨z,.inl ⟨?_,rfl⟩⟩
   rw [fe,if_neg Pe,if_neg Rz,if_neg Gz,if_pos hk]
   exact if_pos (of_decide_eq_true h0)
  have fin:∀{w5:World} {Bt:Sl} {yS:List FM} {f3:FM} {p3:Addr} {xF:List Rt} {s':Sl} {u:Rt} {G:List En},SF (·∈own) w w5 rb Bt st wd yS (f3.put 1 (s',(f3.eU 1).2++[u])) G xF->(∀g∈yS++[f3],∀t∈g.ts,t∈xF)->Bt.a=some p3->(∀b∈Rt.gK xF,b∈Rt.gK ts\/w.heap.size<=b\/b∈own)->(∀t∈ts,t∈xF)->yS.map FM.x=fs.map FM.x->f3.x=yK f.x->u∈xF->u.rx=iG f.x->
    regex_reader_feed.fY (bF rb) w5 (BG w own ts rb (Jb t ⟨fs.map FM.x,f.x,st,wd⟩)):=by
   intro w5 Bt yS f3 p3 xF s' u G H5 nZ tD Zc ht3 qU jc hu hx
   refine H5.st 0 1 rfl λw6 H6=>?_
   refine jj (show SF (·∈own) w w6 rb Bt 0 wd yS (f3.put 1 (s',(f3.eU 1).2++[u])) G xF from H6) (λg hg v hv=>?_) tD Zc ht3 ⟨s',.inr ⟨?_,rfl⟩⟩
   .rcases fW.1 hg with hg|hg
    .exact nZ g (by simp [hg]) v hv
    .simp at hg;subst hg
     rcases Cp _ _ (by omega) (by omega) hv with h|h
     .exact nZ f3 (by simp) v h
     .rcases fW.1 h with h|h
      .exact nZ f3 (by simp) v (qY f3 1 h)
      .simp at h;subst h;exact hu
   .have e1:f3.k=f.k:=by have:=congrArg FX.k jc;exact this
    have e2:Rt.bU f3.ar.2=Rt.bU f.ar.2:=by have:=congrArg (λx:FX=>x.ar.2) jc;exact this
    have e3:Rt.bU f3.al.2=[]:=by have:=congrArg FX.al jc;exact this
    have e4:Rt.bU f3.an.2=[]:=by have:=congrArg FX.an jc;exact this
    have e5:Rt.bU f3.ca.2=[]:=by have:=congrArg FX.ca jc;exact this
    have e6:f3.n=0:=by have:=congrArg FX.n jc;exact this
    have e7:f3.la.rx=f.x.la:=by have:=congrArg FX.la jc;exact this
    rw [fe,if_neg Pe,if_neg Rz,if_neg Gz,if_pos hk]
    refine (if_neg (of_decide_eq_false h0)).trans ?_
    show some (SX.mk _ ⟨_,(s',Rt.bU f.ar.2++[iG f.x]),[],[],[],0,f.x.la⟩ 0 wd)=some (SX.mk (yS.map FM.x) ⟨f3.k,(s',Rt.bU (f3.ar.2++[u])),Rt.bU f3.al.2,Rt.bU f3.an.2,Rt.bU f3.ca.2,f3.n,f3.la.rx⟩ 0 wd)
    rw [qU,e1,e3,e4,e5,e6,e7,kh,e2]
    show some (SX.mk _ ⟨_,(s',Rt.bU f.ar.2++[iG f.x]),[],[],[],0,f.x.la⟩ 0 wd)=some (SX.mk _ ⟨_,(s',Rt.bU f.ar.2++[u.rx]),[],[],[],0,f.x.la⟩ 0 wd)
    rw [hx]
    rfl
  refine lM (H2.aK (bs:=[b3]) (λKq Da=>⟨f.ar.1,Da.y7 1 rfl h4 1,?_,?_⟩) (by simp))
  .refine (show SF (·∈own) w Kq rb sl st wd fs f [.g b3] ts from Da).Ky (bs:=[b3]) h3 h4 (λoL s1=>s8 s1 KC) ?_ (by simp)
   rintro r Kr Bt yS f3 p3 lO CO xF t3 nZ tD uK ⟨U0,qU,jc,rfl,rfl,u,hu,rfl,hx⟩ wX
   have VK:f3.ar.1=f.ar.1:=by have:=congrArg (λx:FX=>x.ar.1) jc;exact this
   refine ⟨u.k,u.lo.toNat,u.hi.toNat,u.s,rfl,?_⟩
   rw [<-U0,<-VK]
   refine ⟨wX.y7 1 rfl tD 1,wX.iH (e:=aB) (sz:=4) (n:=1) (cs:=z4) rfl (by decide) λKG Fi=>⟨Fi.y7 1 rfl tD 1,?_⟩⟩
   have Kz:(f3.eU 1).2.length<=1000000:=by
    have e:f3.x.ar.2.length=f3.ar.2.length:=(Gg f3).1
    rw [jc] at e
    have:f.x.ar.2.length<=999999:=hs.ar
    show f3.ar.2.length<=_
    rw [<-e];show f.x.ar.2.length<=_;omega
   exact M4 (bs:=[b3]) (K:=λw5=>regex_reader_feed.fY (bF rb) w5 (BG w own ts rb (Jb t ⟨fs.map FM.x,f.x,lO,CO⟩))) (show SF (·∈own) w KG rb Bt lO CO yS f3 ([.g b3]++[.row aB 4 ⟨some (bF Kr.heap.size),1,1⟩ z4]) xF from Fi) 4 rfl tD 1 (by omega) (by omega) u Kz rfl (λs' w5 H5=>fin H5 nZ tD uK t3 qU jc hu hx) (by simp)
  .refine Da.iH (e:=aB) (sz:=4) (n:=1) (cs:=z4) rfl (by decide) λw30 H30=>⟨H30.y7 1 rfl h4 1,?_⟩
   refine (show SF (·∈own) w w30 rb sl st wd fs f ([.g b3]++[.row aB 4 ⟨some (bF Kq.heap.size),1,1⟩ z4]) ts from H30).Ky (bs:=[b3]) h3 h4 (λoL s1=>s8 s1 KC) ?_ (by simp)
   rintro r Kr Bt yS f3 p3 lO CO xF t3 nZ tD uK ⟨U0,qU,jc,rfl,rfl,u,hu,rfl,hx⟩ wX
   have VK:f3.ar.1=f.ar.1:=by have:=congrArg (λx:FX=>x.ar.1) jc;exact this
   refine ⟨u.k,u.lo.toNat,u.hi.toNat,u.s,rfl,?_⟩
   rw [<-U0,<-VK]
   refine ⟨wX.y7 1 rfl tD 1,?_⟩
   have Kz:(f3.eU 1).2.length<=1000000:=by
    have e:f3.x.ar.2.length=f3.ar.2.length:=(Gg f3).1
    rw [jc] at e
    have:f.x.ar.2.length<=999999:=hs.ar
    show f3.ar.2.length<=_
    rw [<-e];show f.x.ar.2.length<=_;omega
   exact M4 (bs:=[b3]) (K:=λw5=>regex_reader_feed.fY (bF rb) w5 (BG w own ts rb (Jb t ⟨fs.map FM.x,f.x,lO,CO⟩))) wX 4 rfl tD 1 (by omega) (by omega) u Kz rfl (λs' w5 H5=>fin H5 nZ tD uK t3 qU jc hu hx) (by simp)
 .refine H2.aK (bs:=[b3]) (λw43 SC=>⟨sl,SC.ld 0 0,?_⟩) (by simp)
  have SC:SF (·∈own) w w43 rb sl st wd fs f [.g b3] ts:=SC
  have TP:=Qc SC
  rcases pL fs with rfl|⟨QZ,g,rfl⟩
  .refine aL (decide_eq_false (by rw [TP];simp)) ?_
   refine jj SC h3 h4 base (λ_ h=>h) ⟨z,.inl ⟨?_,rfl⟩⟩
   rw [fe,if_neg Pe,if_neg Rz,if_neg Gz,if_neg Wv,if_pos hk]
   rfl
  .refine aQ (decide_eq_true (by rw [TP];simp;omega)) (lM ⟨f.ar.1,SC.y7 1 rfl h4 1,?_⟩)
   refine SC.Ky (bs:=[b3]) h3 h4 (λoL s1=>s8 s1 KC) ?_ (by simp)
   rintro r w44 Bt yS f3 p3 lO CO xF t3 nZ tD uK ⟨U0,qU,jc,rfl,rfl,u,hu,rfl,hx⟩ H44
   have VK:f3.ar.1=f.ar.1:=by have:=congrArg (λx:FX=>x.ar.1) jc;exact this
   refine ⟨u.k,u.lo.toNat,u.hi.toNat,u.s,rfl,?_⟩
   rw [<-U0,<-VK]
   refine ⟨H44.y7 1 rfl tD 1,H44.iH (e:=aB) (sz:=4) (n:=1) (cs:=u.c) rfl (by decide) λw45 Xu=>⟨Xu.y7 1 rfl tD 1,?_⟩⟩
   have Zp:∃zZ g1,yS=zZ++[g1]/\zZ.map FM.x=QZ.map FM.x/\g1.x=g.x:=by
    rcases pL yS with rfl|⟨zZ,g1,rfl⟩
    .simp at qU
    .refine ⟨zZ,g1,rfl,?_⟩
     rw [qmpA,qmpA] at qU
     have:=List.append_inj' qU rfl
     exact ⟨this.1,by simpa using this.2⟩
   obtain ⟨zZ,g1,rfl,Zo,TG⟩:=Zp
   have jN:(((zZ++[g1])++[f3]).flatMap FM.rows)[(zZ++[g1]).length *4+0]? =some (f3.ar.1,f3.ar.2.flatMap Rt.c):=ot (zZ++[g1]) f3 0 _ rfl
   have Kz:f3.ar.2.length<=999999:=by
    have e:f3.x.ar.2.length=f3.ar.2.length:=(Gg f3).1
    rw [jc] at e
    have:f.x.ar.2.length<=999999:=hs.ar
    rw [<-e];exact this
   have nr:f3.ar.1.n=f3.ar.2.length:=by
    have hp:(En.rows (((zZ++[g1])++[f3]).flatMap FM.rows)).P w45:=Xu.get 2
    exact Rt.cC (hp.1 _ (cZ jN)).jh
   refine Xu.Ht (bs:=[b3]) 2 ((zZ++[g1]).length *4+0) (src:=⟨some (bF w44.heap.size),1,1⟩) (news:=u.c) rfl jN (aP.jh (Xu.get 4)) (by simp [Value.oneCell',Rt.c]) (by show (f3.ar.1.n+1) *40<=_;omega) (λs' w46 H46 wu qK=>?_) (by simp)
   have Gq:(zZ++[g1]).length *4+0<(((zZ++[g1])++[f3]).flatMap FM.rows).length:=by rw [pM];simp
   have qn:∀b∈bC s',b∈own\/w.heap.size<=b:=λb hb=>(H46.new (.rows ((((zZ++[g1])++[f3]).flatMap FM.rows).set ((zZ++[g1]).length *4+0) (s',f3.ar.2.flatMap Rt.c++u.c))) (by simp) b (aI.2 (mY.2 ⟨_,cZ (qgSS Gq),hb⟩))).symm
   have H47:=H46.B7 2 ((zZ++[g1]).length *4+0) rfl (qgSS Gq)
   have ec:f3.ar.2.flatMap Rt.c++u.c=(f3.ar.2++[u]).flatMap Rt.c:=by simp
   rw [ec] at H47
   have H48:=H47.node 0 3 0 0 (s:=s') (ks:=f3.ar.2++[u]) rfl (qmR _ (List.mem_singleton.2 rfl)) (λv hv=>by
    rcases fW.1 hv with hv|hv
    .exact nZ f3 (by simp) v (qY f3 1 hv)
    .simp at hv;subst hv;exact hu)
   have er:(((((zZ++[g1])++[f3]).flatMap FM.rows).set ((zZ++[g1]).length *4+0) (s',(f3.ar.2++[u]).flatMap Rt.c)).set ((zZ++[g1]).length *4+0) (⟨none,0,0⟩,[]))=(zZ++[g1]).flatMap FM.rows++f3.rows.set 0 (⟨none,0,0⟩,[]):=by
    rw [List.set_set]
    exact zq (zZ++[g1]) f3 0 _ (by omega)
   have H49:LH (·∈own) w w46 (SL rb Bt lO CO (((zZ++[g1])++[f3]).flatMap FM.c) ((zZ++[g1]).flatMap FM.rows++f3.rows.set 0 (⟨none,0,0⟩,[]))++[.g b3]) [.trees (xF++[.mk 3 0 0 s' (f3.ar.2++[u])])]:=by
    rw [<-er]
    exact H48.take 4
   have H50:=Bp H49 2 rfl
   have Gr:f3.k=f.k:=by have:=congrArg FX.k jc;exact this
   refine close (s':=z) (.mk 3 0 0 s' (f3.ar.2++[u])) H50 (λx hx v hv=>qmL _ (nZ x (qmL _ hx) v hv)) tD ?_ (by simp) (.inr (by simp [Rt.l])) ?_ (λv hv=>qmL _ (t3 v hv)) ?_
   .have:=congrArg List.length Zo
    simp at this Ms
    omega
   .intro b hb
    obtain ⟨v,hv,TC⟩:=Rt.bD.1 hb
    rcases fW.1 hv with hv|hv
    .exact uK b (Rt.bD.2 ⟨v,hv,TC⟩)
    .simp at hv
     rw [hv] at TC
     rcases Rt.eJ.1 TC with TC|TC
     .exact .inr (qn b (fQ (e:=aB) TC)).symm
     .obtain ⟨t',np,eD⟩:=Rt.bD.1 TC
      have np:t'∈f3.ar.2++[u]:=np
      refine uK b (Rt.bD.2 ⟨t',?_,eD⟩)
      rcases fW.1 np with np|np
      .exact nZ f3 (by simp) t' (qY f3 1 np)
      .simp at np;subst np;exact hu
   .rw [fe,if_neg Pe,if_neg Rz,if_neg Gz,if_neg Wv,if_pos hk]
    refine (if_neg (by simp)).trans ?_
    rw [qmpA]
    refine (xe _ _ _ _ _ _).trans ?_
    have e2:Rt.bU f3.ar.2=f.x.ar.2:=by have:=congrArg (λx:FX=>x.ar.2) jc;exact this
    rw [Zo,TG,Gr]
    show _=some (SX.mk _ (oa g.x (LA f.k (Rt.bU (f3.ar.2++[u])))) 3 CO)
    rw [kh,e2]
    show _=some (SX.mk _ (oa g.x (LA f.k (f.x.ar.2++[u.rx]))) 3 CO)
    rw [hx]
    rfl
 .refine ⟨sl,H2.ld 0 0,?_⟩
  have TP:=Qc H2
  rcases pL fs with rfl|⟨QZ,g,rfl⟩
  .have e:(((sl.n:Nat):Int)==1)=true:=by rw [TP];rfl
   rw [e]
   refine jj H2 h3 h4 base (λ_ h=>h) ⟨z,.inr ⟨?_,rfl⟩⟩
   rw [fe,if_neg Pe,if_neg Rz,if_neg Gz,if_neg Wv,if_neg Z1,if_pos hk]
   rfl
  .have e:(((sl.n:Nat):Int)==1)=false:=by rw [TP];simp;omega
   rw [e]
   refine jj H2 h3 h4 base (λ_ h=>h) ⟨z,.inl ⟨?_,rfl⟩⟩
   rw [fe,if_neg Pe,if_neg Rz,if_neg Gz,if_neg Wv,if_neg Z1,if_pos hk]
   exact if_neg (by simp)
 .refine H2.Ky (bs:=[b3]) h3 h4 (λoL s1=>BP (AO s1 KC.n' KC.ca)) ?_ (by simp)
  rintro _ w3 Bt yS f3 p3 lO CO xF t3 nZ tD uK ⟨rfl,NY,qU,jc,rfl,rfl⟩ H3
  refine ⟨rfl,item H3 nZ tD uK t3 ?_ ?_ ?_⟩
  .have:=congrArg List.length qU
   simp at this
   omega
  .have e5:f3.n=0:=by have:=congrArg FX.n jc;exact this
   omega
  .rw [fe,if_neg Pe,if_neg Rz,if_neg Gz,if_neg Wv,if_neg Z1,if_neg k36,qU,jc]
set_option maxRecDepth 100000
theorem vF (s:ByteArray) (c:UInt8) (w:World):Sem.run Tryz.prog (callFunc dY #[.string s,.int .u8 (c.toNat:Int)]) w=.ok (.value (.int .i64 (Go.Lib.indexByte (bl s) c))) w:=by
 have h:=run_callFunc_indexByte (P:=Tryz.prog) (f:=dY) (fn:=(Tryz.prog.funcs[dY]?).getD default) (by kernel_rfl) (by kernel_rfl) (by kernel_rfl) (by kernel_rfl) (by kernel_rfl) #[.string s,.int .u8 (c.toNat:Int)] w
 rw [h,Go.Lib.run_indexByteString]
 show Result.ok _ w=_
 congr 4
 simp
theorem sR (s:ByteArray) (c:UInt8) (w:World):Calls Tryz.prog g8 #[.string s,.int .u8 (c.toNat:Int)] w λr w'=>r=.returned (.int .i64 (Go.Lib.indexByte (bl s) c))/\bI w w':=by
 refine strings_IndexByte.ok _ _ w _ ?_
 refine (show Calls Tryz.prog gj #[.string s,.int .u8 (c.toNat:Int)] w λr w'=>r=.returned (.int .i64 (Go.Lib.indexByte (bl s) c))/\w=w' from ?_).mono ?_
 .exact internal_stringslite_IndexByte.ok _ _ w _ ⟨_,w,vF s c w,rfl,rfl⟩
 .rintro r w1 ⟨rfl,rfl⟩
  exact ⟨_,rfl,rfl,Fr.refl _ _⟩
def mN (c:UInt8):Bool:=decide (97<=c.toNat)&&decide (c.toNat<=122)
def wH (c:UInt8):Bool:=decide (32<=c.toNat)&&(decide (c.toNat<=126)&&(!decide (c=39)&&!decide (c=92)))
theorem xX (c:UInt8) (w:World):Calls Tryz.prog kB #[.int .u8 (c.toNat:Int)] w λr w'=>r=.returned (.bool (mN c))/\bI w w':=by
 refine regex_small.ok _ w _ (aM (λh=>⟨?_,Fr.refl _ _⟩) (λh=>⟨?_,Fr.refl _ _⟩))
 .unfold mN
  rw [decide_eq_true (show 97<=c.toNat by omega),Bool.true_and]
  rw [show decide ((c.toNat:Int)<=122)=decide (c.toNat<=122) from decide_eq_decide.2 (by omega)]
 .unfold mN
  rw [decide_eq_false (show ¬97<=c.toNat by omega),Bool.false_and]
theorem NK (c:UInt8) (n:Nat) (hn:n<256):(((c.toNat:Nat):Int)==(n:Int))=decide (c=UInt8.ofNat n):=by
 have e:c.toNat=n↔c=UInt8.ofNat n:=by
  rw [<-UInt8.toNat_inj,UInt8.toNat_ofNat']
  omega
 rw [Bool.eq_iff_iff,beq_iff_eq,decide_eq_true_iff,<-e]
 omega
theorem HD (c:UInt8) (w:World):Calls Tryz.prog n8 #[.int .u8 (c.toNat:Int)] w λr w'=>r=.returned (.bool (wH c))/\bI w w':=by
 have e39:(((c.toNat:Nat):Int) !=39)= !decide (c=39):=by
  have:=NK c 39 (by omega)
  show (!(((c.toNat:Nat):Int)==((39:Nat):Int)))=_
  rw [this];rfl
 have e92:(((c.toNat:Nat):Int) !=92)= !decide (c=92):=by
  have:=NK c 92 (by omega)
  show (!(((c.toNat:Nat):Int)==((92:Nat):Int)))=_
  rw [this];rfl
 refine regex_plain.ok _ w _ ?_
 rw [e39,e92]
 unfold wH
 refine aM (λh=>?_) (λh=>⟨?_,Fr.refl _ _⟩)
 .rw [decide_eq_true (show 32<=c.toNat by omega),Bool.true_and]
  refine aM (λh2=>?_) (λh2=>⟨?_,Fr.refl _ _⟩)
  .rw [decide_eq_true (show c.toNat<=126 by omega),Bool.true_and]
   refine aZ (λh3=>⟨?_,Fr.refl _ _⟩) (λh3=>⟨?_,Fr.refl _ _⟩)
   .rw [h3,Bool.true_and]
   .rw [h3,Bool.false_and]
  .rw [decide_eq_false (show ¬c.toNat<=126 by omega),Bool.false_and]
 .rw [decide_eq_false (show ¬32<=c.toNat by omega),Bool.false_and]
theorem SS {s:ByteArray} {l:List UInt8} (h:bl s=l) (i:Nat):s[i]? =l[i]?:=by
 subst h
 by_cases hi:i<s.size
 .rw [getElem?_pos s i hi,gW (by rw [iK];exact hi)];rfl
 .rw [getElem?_neg s i hi,List.getElem?_eq_none (by rw [iK];omega)]
theorem wM {s:ByteArray} {i:Nat} (h:i<s.size):s[i]? =some ((bl s).getD i 0):=by
 rw [SS (s:=s) (l:=bl s) rfl i]
 have hl:i<(bl s).length:=by rw [iK];exact h
 rw [List.getD_eq_getElem?_getD,gW hl]
 rfl
def D0:List UInt8:=[48,49,50,51,52,53,54,55,56,57,97,98,99,100,101,102]
def Zm (a b:Int):UInt8:=UInt8.ofNat (IntKind.wrap .u8 (Vr .i64 (IntKind.wrap .i64 (a *2^4)) b)).toNat
def pZ (l:List UInt8) (i:Nat):Option (UInt8×Nat):=
 if i+2<l.length/\l.getD i 0=39/\wH (l.getD (i+1) 0)=true/\l.getD (i+2) 0=39 then some (l.getD (i+1) 0,3)
 else if i+3<l.length/\l.getD i 0=92/\l.getD (i+1) 0=120/\0<=Go.Lib.indexByte D0 (l.getD (i+2) 0)/\0<=Go.Lib.indexByte D0 (l.getD (i+3) 0) then some (Zm (Go.Lib.indexByte D0 (l.getD (i+2) 0)) (Go.Lib.indexByte D0 (l.getD (i+3) 0)),4)
 else none
def og:Option (UInt8×Nat)->Value
 |none=>.tuple #[.int .u8 0,.int .i64 0,.bool false]
 |some (b,n)=>.tuple #[.int .u8 (b.toNat:Int),.int .i64 (n:Int),.bool true]
theorem yf {x:UInt8} {n:Nat} {A B:Prop} (hn:n<256) (h1:x=UInt8.ofNat n->A) (h2:x≠UInt8.ofNat n->B):aF (((x.toNat:Nat):Int)==(n:Int)) A B:=l0 hn h1 h2
theorem CQ (x:Int):((UInt8.ofNat (IntKind.wrap .u8 x).toNat).toNat:Int)=IntKind.wrap .u8 x:=by
 rw [UInt8.toNat_ofNat',IntKind.wrap_u8]
 omega
theorem yv (s:ByteArray) (i:Nat) (hi:i<=1000000) (w:World):Calls Tryz.prog lr #[.string s,.int .i64 (i:Int)] w λr w'=>r=.returned (og (pZ (bl s) i))/\bI w w':=by
 have e1:IntKind.wrap .i64 ((i:Int)+1)=((i+1:Nat):Int):=by rw [IntWalk.i64_in _ (by omega)];omega
 have e2:IntKind.wrap .i64 ((i:Int)+2)=((i+2:Nat):Int):=by rw [IntWalk.i64_in _ (by omega)];omega
 have e3:IntKind.wrap .i64 ((i:Int)+3)=((i+3:Nat):Int):=by rw [IntWalk.i64_in _ (by omega)];omega
 have hl:(bl s).length=s.size:=iK s
 have hex:¬(i+2<(bl s).length/\(bl s).getD i 0=39/\wH ((bl s).getD (i+1) 0)=true/\(bl s).getD (i+2) 0=39)->∀w',bI w w'->regex_byteAt.S0 s i w' (λr w'=>r=.returned (og (pZ (bl s) i))/\bI w w'):=by
  intro hq w' hf
  have no:¬(i+3<(bl s).length/\(bl s).getD i 0=92/\(bl s).getD (i+1) 0=120/\0<=Go.Lib.indexByte D0 ((bl s).getD (i+2) 0)/\0<=Go.Lib.indexByte D0 ((bl s).getD (i+3) 0))->∀w',bI w w'->regex_byteAt.S1 w' (λr w'=>r=.returned (og (pZ (bl s) i))/\bI w w'):=λhn w' hf=>by
   refine ⟨?_,hf⟩
   unfold pZ
   rw [if_neg hq,if_neg hn]
   rfl
  show aF _ _ _
  rw [e3,e2,e1]
  refine aM (λh3=>⟨by omega,_,wM (i:=i) (by omega),yf (n:=92) (by omega) (λhc=>⟨by omega,_,wM (i:=i+1) (by omega),yf (n:=120) (by omega) (λhx=>?_) (λhx=>no (λh=>hx h.2.2.1) w' hf)⟩) (λhc=>no (λh=>hc h.2.1) w' hf)⟩) (λh3=>no (λh=>by omega) w' hf)
  refine (show LH F0 w w' [] [] from ((LH.start (M:=F0) (w:=w) [] (by simp)).oR hf)).dr λw1 H1=>⟨by omega,_,wM (i:=i+2) (by omega),by omega,_,wM (i:=i+3) (by omega),H1.call (sR _ _ _) ?_⟩
  rintro _ w2 rfl H2
  refine ⟨_,rfl,H2.call (sR _ _ _) ?_⟩
  rintro _ w3 rfl H3
  refine ⟨_,rfl,?_⟩
  show aF (decide (Go.Lib.indexByte D0 _>=0)) (aF (decide (Go.Lib.indexByte D0 _>=0)) _ _) _
  refine aM (λha=>aM (λhb=>⟨?_,H3.fr⟩) (λhb=>no (λh=>hb h.2.2.2.2) w3 H3.fr)) (λha=>no (λh=>ha h.2.2.2.1) w3 H3.fr)
  unfold pZ
  rw [if_neg hq,if_pos ⟨by omega,hc,hx,ha,hb⟩]
  exact congrArg (λx=>Ending.returned (.tuple #[.int .u8 x,.int .i64 4,.bool true])) (CQ _).symm
 refine regex_byteAt.ok _ _ w _ ?_
 rw [e2,e1]
 refine aM (λh2=>⟨by omega,_,wM (i:=i) (by omega),yf (n:=39) (by omega) (λhc=>⟨by omega,_,wM (i:=i+1) (by omega),(HD _ w).mono ?_⟩) (λhc=>hex (λh=>hc h.2.1) w (Fr.refl _ _))⟩) (λh2=>hex (λh=>by omega) w (Fr.refl _ _))
 rintro _ w1 ⟨rfl,f1⟩
 refine ⟨_,rfl,aZ (λhp=>⟨by omega,_,wM (i:=i+2) (by omega),yf (n:=39) (by omega) (λhd=>⟨by omega,_,wM (i:=i+1) (by omega),?_,f1⟩) (λhd=>hex (λh=>hd h.2.2.2) w1 f1)⟩) (λhp=>hex (λh=>by rw [h.2.2.1] at hp;cases hp) w1 f1)⟩
 unfold pZ
 rw [if_pos ⟨by omega,hc,hp,hd⟩]
 rfl
def W2:List UInt8:=[40,41,44,124,38,33,42]
def mO (l:List UInt8) (i:Nat):Tk×Nat:=
 if 0<=Go.Lib.indexByte W2 (l.getD i 0) then (⟨l.getD i 0,0,0,[],i⟩,1)
 else if mN (l.getD i 0)=true then (⟨119,0,0,(l.drop i).takeWhile mN,i⟩,((l.drop i).takeWhile mN).length)
 else if l.getD i 0=91 then
  match pZ l (i+1) with
  |none=>(⟨63,0,0,[],i⟩,1)
  |some (lo,m)=>
   if i+1+m<l.length/\l.getD (i+1+m) 0=45 then
    match pZ l (i+1+m+1) with
    |none=>(⟨63,0,0,[],i⟩,1)
    |some (hi,m2)=>if i+1+m+(1+m2)<l.length/\l.getD (i+1+m+(1+m2)) 0=93/\lo.toNat<=hi.toNat then (⟨114,lo,hi,[],i⟩,1+m+(1+m2)+1) else (⟨63,0,0,[],i⟩,1)
   else (⟨63,0,0,[],i⟩,1)
 else match pZ l i with
  |some (b,n)=>(⟨114,b,b,[],i⟩,n)
  |none=>(⟨63,0,0,[],i⟩,1)
def Qr (x:Tk×Nat):Value:=.tuple #[x.1.v,.int .i64 (x.2:Int)]
theorem v8 {l:List UInt8} {i:Nat} {b:UInt8} {n:Nat} (h:pZ l i=some (b,n)):(n=3\/n=4)/\i+n<=l.length:=by
 unfold pZ at h
 split at h
 .cases h;rename_i hc;omega
 .split at h
  .cases h;rename_i hc;omega
  .cases h
theorem tK:∀(l:List UInt8) (m:Nat) (p:UInt8->Bool),m<=l.length->(∀k<m,p (l.getD k 0)=true)->(m<l.length->p (l.getD m 0)=false)->(l.takeWhile p)=l.take m
 |[],m,p,hm,_,_=>by simp
 |c::l,0,p,hm,_,hs=>by
  have:p c=false:=hs (by simp)
  simp [this]
 |c::l,m+1,p,hm,ha,hs=>by
  have hc:p c=true:=ha 0 (by omega)
  rw [List.takeWhile_cons,if_pos hc,List.take_succ_cons,tK l m p (by simpa using hm) (λk hk=>by simpa using ha (k+1) (by omega)) (λh=>by simpa using hs (by simpa using h))]
theorem A2 (l:List UInt8) (i k:Nat):(l.drop i).getD k 0=l.getD (i+k) 0:=by
 rw [List.getD_eq_getElem?_getD,List.getD_eq_getElem?_getD,List.getElem?_drop]
theorem Jm (s:ByteArray) (hs:s.size<=900000) (i:Nat) (hi:i<s.size) (w:World):Calls Tryz.prog oH #[.string s,.int .i64 (i:Int)] w λr w'=>r=.returned (Qr (mO (bl s) i))/\bI w w':=by
 have hl:(bl s).length=s.size:=iK s
 refine regex_tokenAt.cV _ _ w _ ((mu [] (λ_ h=>by cases h)).bJ (bs:=[]) (λb4 w1 H1=>⟨by omega,_,wM (i:=i) hi,?_⟩) (by simp))
 have H1:LH F0 w w1 [.g b4] []:=H1
 have bad:∀w',LH F0 w w' [.g b4] []->mO (bl s) i=(⟨63,0,0,[],i⟩,1)->∀(a0 a1 a2:Int) (a3:ByteArray) (a4:Int),regex_tokenAt.ox (i:Int) b4 a0 a1 a2 a3 a4 w' λr w'=>r=.returned (Qr (mO (bl s) i))/\bI w w':=λw' H' he _ _ _ _ _=>H'.aK (bs:=[b4]) (λw3 H3=>⟨by rw [he];rfl,H3.fr⟩) (by simp)
 refine H1.aJ (sR _ _ _) ?_
 rintro _ w2 rfl H2
 refine ⟨_,rfl,?_⟩
 show aF (decide (Go.Lib.indexByte W2 _>=0)) _ _
 refine aM (λh0=>H2.aK (bs:=[b4]) (λw3 H3=>⟨?_,H3.fr⟩) (by simp)) (λh0=>H2.aJ (xX _ _) ?_)
 .unfold mO
  rw [if_pos h0]
  rfl
 rintro _ w3 rfl H3
 refine ⟨_,rfl,aZ (λO9=>?_) (λO9=>l0 (n:=91) (by omega) (λTA:(bl s).getD i 0=91=>?_) (λTA:(bl s).getD i 0≠91=>?_))⟩
 .
  have loop:∀(n j:Nat) (w':World),s.size - j<n->i<=j->j<=s.size->(∀k,i<=k->k<j->mN ((bl s).getD k 0)=true)->LH F0 w w' [.g b4] []->∀(a0 a1 a2:Int) (a3:ByteArray) (a4:Int),regex_tokenAt.l4 s (i:Int) b4 a0 a1 a2 a3 a4 (j:Int) w' λr w'=>r=.returned (Qr (mO (bl s) i))/\bI w w':=by
   intro n
   induction n with
   |zero=>intro j w' h;omega
   |succ n ih=>
    intro j w' hn xL hj hall H a0 a1 a2 a3 a4
    have done:(j<s.size->mN ((bl s).getD j 0)=false)->∀w',LH F0 w w' [.g b4] []->regex_tokenAt.eY s (i:Int) b4 a0 a1 a2 a3 a4 (j:Int) w' λr w'=>r=.returned (Qr (mO (bl s) i))/\bI w w':=λFw w' H'=>by
     refine ⟨by omega,by omega,by omega,by omega,H'.aK (bs:=[b4]) (λw5 H5=>⟨?_,H5.fr⟩) (by simp)⟩
     have etw:((bl s).drop i).takeWhile mN=((bl s).drop i).take (j - i):=by
      refine tK _ _ _ (by rw [qlD];omega) (λk hk=>?_) (λh=>?_)
      .rw [A2];exact hall _ (by omega) (by omega)
      .rw [A2,show i+(j - i)=j by omega]
       refine Fw ?_
       rw [qlD] at h
       omega
     have YO:(((bl s).drop i).take (j - i)).length=j - i:=by rw [List.length_take,qlD];omega
     have YN:s.extract (Int.toNat (i:Int)) (Int.toNat (j:Int))=ba (((bl s).drop i).take (j - i)):=by
      have:bl (s.extract i j)=((bl s).drop i).take (j - i):=by
       unfold bl
       rw [ByteArray.data_extract,Array.toList_extract,List.extract_eq_take_drop]
      rw [Int.toNat_natCast,Int.toNat_natCast,<-this,AK]
     have ew:IntKind.wrap .i64 ((j:Int) - (i:Int))=((j - i:Nat):Int):=by rw [IntWalk.i64_in _ (by omega)];omega
     rw [YN,ew]
     unfold mO
     rw [if_neg h0,if_pos O9,etw,YO]
     rfl
    refine regex_tokenAt.dJ _ _ _ _ _ _ _ _ _ _ _ (aM (λh=>⟨by omega,_,wM (i:=j) (by omega),H.aJ (xX _ _) ?_⟩) (λh=>done (λh'=>by omega) w' H))
    rintro _ w5 rfl H5
    refine ⟨_,rfl,aZ (λhb=>?_) (λhb=>done (λ_=>hb) w5 H5)⟩
    rw [show IntKind.wrap .i64 ((j:Int)+1)=((j+1:Nat):Int) by rw [IntWalk.i64_in _ (by omega)];omega]
    refine ih (j+1) w5 (by omega) (by omega) (by omega) (λk h1 h2=>?_) H5 _ _ _ _ _
    by_cases hk:k=j
    .subst hk;exact hb
    .exact hall k h1 (by omega)
  exact loop (s.size+1) i w3 (by omega) (Nat.le_refl _) (by omega) (λk h1 h2=>by omega) H3 _ _ _ _ _
 .have Gt:¬mN ((bl s).getD i 0)=true:=by rw [O9];simp
  rw [show IntKind.wrap .i64 ((i:Int)+1)=((i+1:Nat):Int) by rw [IntWalk.i64_in _ (by omega)];omega]
  refine H3.aJ (yv s (i+1) (by omega) _) ?_
  rintro _ w4 rfl H4
  cases hb:pZ (bl s) (i+1) with
  |none=>
   refine ⟨0,0,false,rfl,aQ rfl (bad w4 H4 ?_ _ _ _ _ _)⟩
   unfold mO
   rw [if_neg h0,if_neg Gt,if_pos TA,hb]
  |some q=>
   obtain ⟨lo,m⟩:=q
   obtain ⟨hm,Zx⟩:=v8 hb
   refine ⟨lo.toNat,m,true,rfl,?_⟩
   try dsimp only
   rw [show IntKind.wrap .i64 (((i+1:Nat):Int)+(m:Int))=((i+1+m:Nat):Int) by rw [IntWalk.i64_in _ (by omega)];omega]
   have no1:¬(i+1+m<(bl s).length/\(bl s).getD (i+1+m) 0=45)->mO (bl s) i=(⟨63,0,0,[],i⟩,1):=λh=>by
    unfold mO
    rw [if_neg h0,if_neg Gt,if_pos TA,hb]
    exact if_neg h
   refine aL rfl (aM (λh=>bad w4 H4 (no1 (λh'=>by omega)) _ _ _ _ _) (λh=>⟨by omega,_,wM (i:=i+1+m) (by omega),?_⟩))
   refine aZ (λhM=>bad w4 H4 (no1 (λh'=>?_)) _ _ _ _ _) (λheq=>?_)
   .rw [h'.2] at hM;exact absurd hM (by decide)
   have Q9:(bl s).getD (i+1+m) 0=45:=by
    have e:(((bl s).getD (i+1+m) 0).toNat:Int)=45:=by simpa using heq
    have:((bl s).getD (i+1+m) 0).toNat=(45:UInt8).toNat:=by show _=45;omega
    exact UInt8.toNat_inj.1 this
   rw [show IntKind.wrap .i64 (((i+1+m:Nat):Int)+1)=((i+1+m+1:Nat):Int) by rw [IntWalk.i64_in _ (by omega)];omega]
   refine H4.aJ (yv s (i+1+m+1) (by omega) _) ?_
   rintro _ w5 rfl H5
   cases yU:pZ (bl s) (i+1+m+1) with
   |none=>
    refine ⟨0,0,false,rfl,aQ rfl (bad w5 H5 ?_ _ _ _ _ _)⟩
    unfold mO
    rw [if_neg h0,if_neg Gt,if_pos TA,hb]
    refine (if_pos ⟨by omega,Q9⟩).trans ?_
    rw [yU]
   |some q=>
    obtain ⟨Fu,m2⟩:=q
    obtain ⟨U2,aaw⟩:=v8 yU
    refine ⟨Fu.toNat,m2,true,rfl,?_⟩
    try dsimp only
    rw [show IntKind.wrap .i64 (((i+1+m:Nat):Int)+IntKind.wrap .i64 (1+(m2:Int)))=((i+1+m+(1+m2):Nat):Int) by rw [IntWalk.i64_in (1+(m2:Int)) (by omega),IntWalk.i64_in _ (by omega)];omega]
    have e2:mO (bl s) i=if i+1+m+(1+m2)<(bl s).length/\(bl s).getD (i+1+m+(1+m2)) 0=93/\lo.toNat<=Fu.toNat then (⟨114,lo,Fu,[],i⟩,1+m+(1+m2)+1) else (⟨63,0,0,[],i⟩,1):=by
     unfold mO
     rw [if_neg h0,if_neg Gt,if_pos TA,hb]
     refine (if_pos ⟨by omega,Q9⟩).trans ?_
     rw [yU]
    refine aL rfl (aM (λh=>bad w5 H5 (e2.trans (if_neg λh'=>by omega)) _ _ _ _ _) (λh=>⟨by omega,_,wM (i:=i+1+m+(1+m2)) (by omega),?_⟩))
    refine aZ (λhM=>bad w5 H5 (e2.trans (if_neg λh'=>?_)) _ _ _ _ _) (λTE=>?_)
    .rw [h'.2.1] at hM;exact absurd hM (by decide)
    have h93:(bl s).getD (i+1+m+(1+m2)) 0=93:=by
     have e:(((bl s).getD (i+1+m+(1+m2)) 0).toNat:Int)=93:=by simpa using TE
     have:((bl s).getD (i+1+m+(1+m2)) 0).toNat=(93:UInt8).toNat:=by show _=93;omega
     exact UInt8.toNat_inj.1 this
    refine aM (λO4=>bad w5 H5 (e2.trans (if_neg λh'=>by omega)) _ _ _ _ _) (λO4=>H5.aK (bs:=[b4]) (λw6 H6=>⟨?_,H6.fr⟩) (by simp))
    rw [e2,if_pos ⟨by omega,h93,by omega⟩]
    rw [show IntKind.wrap .i64 (IntKind.wrap .i64 (((i+1+m+(1+m2):Nat):Int)+1) - (i:Int))=((1+m+(1+m2)+1:Nat):Int) by rw [IntWalk.i64_in (((i+1+m+(1+m2):Nat):Int)+1) (by omega),IntWalk.i64_in _ (by omega)];omega]
    rfl
 .have Gt:¬mN ((bl s).getD i 0)=true:=by rw [O9];simp
  refine H3.aJ (yv s i (by omega) _) ?_
  rintro _ w4 rfl H4
  cases hb:pZ (bl s) i with
  |none=>
   refine ⟨0,0,false,rfl,aL rfl (bad w4 H4 ?_ _ _ _ _ _)⟩
   unfold mO
   rw [if_neg h0,if_neg Gt,if_neg TA,hb]
  |some q=>
   obtain ⟨b,n⟩:=q
   refine ⟨b.toNat,n,true,rfl,aQ rfl (H4.aK (bs:=[b4]) (λw5 H5=>⟨?_,H5.fr⟩) (by simp))⟩
   unfold mO
   rw [if_neg h0,if_neg Gt,if_neg TA,hb]
   rfl
structure Inv (S:SX) (m:Nat):Prop where
 lo:S.lo.length<=m
 sl:∀f∈S.lo,Small f m
 tp:Small S.tp m
 s1:S.st=1->0<=S.tp.k/\S.lo≠[]
 s2:S.st=2->0<=S.wd
theorem Small.mono {f:FX} {m n:Nat} (h:Small f m) (hm:m<=n):Small f n:=⟨Nat.le_trans h.n' hm,Nat.le_trans h.ar hm,Nat.le_trans h.al hm,Nat.le_trans h.an hm,Nat.le_trans h.ca hm⟩
theorem wN (k:Int) (m:Nat):Small (qM k) m:=⟨Nat.zero_le _,Nat.zero_le _,Nat.zero_le _,Nat.zero_le _,Nat.zero_le _⟩
theorem pN {f:FX} {m:Nat} (h:Small f m) (x:Rx):Small (oa f x) m:=⟨h.n',h.ar,h.al,h.an,h.ca⟩
theorem y3 {t:Tk} {S S':SX} {m:Nat} (h1:S.lo.length<=m) (h2:∀f∈S.lo,Small f (m+1)) (h3:Small S.tp (m+1)) (h4:S.tp.n<=m) (h:jQ t S=some S'):Inv S' (m+1):=by
 have sn:∀f∈S.lo++[S.tp],Small f (m+1):=λf hf=>by
  rcases fW.1 hf with hf|hf
  .exact h2 f hf
  .simp at hf;subst hf;exact h3
 unfold jQ at h
 split at h
 .cases h
  exact ⟨by show S.lo.length<=_;omega,h2,⟨by show S.tp.n+1<=_;omega,h3.ar,h3.al,h3.an,h3.ca⟩,λe=>(by simp at e),λe=>(by simp at e)⟩
 .split at h
  .cases h
   exact ⟨by simp;omega,sn,wN _ _,λe=>(by simp at e),λe=>(by simp at e)⟩
  .split at h
   .cases h
    exact ⟨by show S.lo.length<=_;omega,h2,pN h3 _,λe=>(by simp at e),λe=>(by simp at e)⟩
   .split at h
    .split at h
     .cases h
      exact ⟨by show S.lo.length<=_;omega,h2,pN h3 _,λe=>(by simp at e),λe=>(by simp at e)⟩
     .split at h
      .cases h
       exact ⟨by show S.lo.length<=_;omega,h2,pN h3 _,λe=>(by simp at e),λe=>(by simp at e)⟩
      .split at h
       .cases h
        exact ⟨by show S.lo.length<=_;omega,h2,h3,λe=>(by simp at e),λ_=>by show (0:Int)<=4;decide⟩
       .split at h
        .cases h
         exact ⟨by show S.lo.length<=_;omega,h2,h3,λe=>(by simp at e),λ_=>by show (0:Int)<=5;decide⟩
        .split at h
         .cases h
          exact ⟨by show S.lo.length<=_;omega,h2,h3,λe=>(by simp at e),λ_=>by show (0:Int)<=3;decide⟩
         .cases h
    .cases h
theorem AT {S S':SX} {l:List Rx} {m:Nat} (hS:Inv S m) (h:oB S l=some S'):Inv S' (m+1):=by
 unfold oB at h
 rcases pL S.lo with e|⟨a,g,e⟩
 .rw [e] at h;simp at h
 .rw [e] at h
  simp at h
  subst h
  have hl:=hS.lo
  rw [e] at hl
  simp at hl
  exact ⟨by show a.length<=_;omega,λf hf=>(hS.sl f (by rw [e];simp [hf])).mono (by omega),pN ((hS.sl g (by rw [e];simp)).mono (by omega)) _,λe=>(by simp at e),λe=>(by simp at e)⟩
theorem yM {s':Sl} {t:Tk} {S S':SX} {m:Nat} (hS:Inv S m) (h:jP s' t S=some S'):Inv S' (m+1):=by
 have rT:=hS.lo
 have JL:∀f∈S.lo,Small f (m+1):=λf hf=>(hS.sl f hf).mono (by omega)
 have Ar:Small S.tp (m+1):=hS.tp.mono (by omega)
 have hn:=hS.tp.n'
 unfold jP at h
 split at h
 .rename_i h2
  split at h
  .cases h
   refine ⟨by simp;omega,λf hf=>?_,wN _ _,λ_=>⟨hS.s2 h2,by simp⟩,λe=>(by simp at e)⟩
   rcases fW.1 hf with hf|hf
   .exact JL f hf
   .simp at hf;subst hf;exact Ar
  .cases h
 .rename_i h2
  split at h
  .split at h
   .exact AT hS h
   .exact y3 rT JL Ar hn h
  .rename_i h1
   split at h
   .exact y3 rT JL Ar hn h
   .split at h
    .cases h
     exact ⟨by show S.lo.length<=_;omega,JL,pN Ar _,λe=>absurd e h1,λe=>absurd e h2⟩
    .split at h
     .cases h
      refine ⟨by show S.lo.length<=_;omega,JL,⟨Nat.zero_le _,Ar.ar,Ar.al,?_,Nat.zero_le _⟩,λe=>(by simp at e),λe=>(by simp at e)⟩
      have:=hS.tp.an
      show (S.tp.an++[_]).length<=_
      simp;omega
     .split at h
      .cases h
       refine ⟨by show S.lo.length<=_;omega,JL,⟨Nat.zero_le _,Ar.ar,?_,Nat.zero_le _,Nat.zero_le _⟩,λe=>(by simp at e),λe=>(by simp at e)⟩
       have:=hS.tp.al
       show (S.tp.al++[_]).length<=_
       simp;omega
      .split at h
       .split at h
        .cases h
        .cases h
         refine ⟨by show S.lo.length<=_;omega,JL,⟨Nat.zero_le _,?_,Nat.zero_le _,Nat.zero_le _,Nat.zero_le _⟩,λe=>(by simp at e),λe=>(by simp at e)⟩
         have:=hS.tp.ar
         show (S.tp.ar.2++[_]).length<=_
         simp;omega
       .split at h
        .split at h
         .cases h
         .exact AT hS h
        .split at h
         .split at h
          .cases h
           exact ⟨by omega,JL,Ar,hS.s1,hS.s2⟩
          .cases h
         .refine y3 (S:=⟨S.lo,gZ S.tp,S.st,S.wd⟩) rT JL ⟨Nat.zero_le _,Ar.ar,Ar.al,Ar.an,?_⟩ (Nat.zero_le _) h
          have:=hS.tp.ca
          show (S.tp.ca++[_]).length<=_
          simp;omega
theorem LX {s':Sl} {t:Tk} {S:SX} (h:t.k=63):jP s' t S=none:=by
 have it:∀S,jQ t S=none:=λS=>by
  unfold jQ
  rw [h]
  rfl
 unfold jP
 rw [it,it,h]
 split
 .rfl
 .split
  .rfl
  .split
   .rfl
   .rfl
def oU (l:List UInt8):Nat->Nat->List Tk
 |0,_=>[]
 |n+1,i=>if i<l.length then (if l.getD i 0=32 then oU l n (i+1) else (mO l i).1::oU l n (i+(mO l i).2)) else [⟨36,0,0,[],l.length⟩]
def FF:List Tk->SX->Int⊕SX->Prop
 |[],S,r=>r=.inr S
 |t::ts,S,r=>∃s',(jP s' t S=none/\r=.inl t.a)\/∃S',jP s' t S=some S'/\FF ts S' r
theorem Fa {l:List UInt8} {i:Nat} (hi:i<l.length):1<=(mO l i).2/\i+(mO l i).2<=l.length:=by
 unfold mO
 split
 .simp;omega
 .split
  .rename_i h
   have e1:(l.drop i)=l.getD i 0::l.drop (i+1):=by
    rw [List.drop_eq_getElem_cons hi,List.getD_eq_getElem?_getD,gW hi]
    rfl
   have h1:1<=((l.drop i).takeWhile mN).length:=by rw [e1,List.takeWhile_cons,if_pos h];simp
   have h2:((l.drop i).takeWhile mN).length<=(l.drop i).length:=(List.takeWhile_prefix (p:=mN) (l:=l.drop i)).length_le
   rw [qlD] at h2
   simp only
   omega
  .split
   .split
    .simp;omega
    .split
     .split
      .simp;omega
      .split
       .rename_i h;simp only;omega
       .simp;omega
     .simp;omega
   .split
    .rename_i hb
     have:=v8 hb
     simp only
     omega
    .simp;omega
abbrev tkC (t:Tk):List Value:=[.int .u8 (t.k.toNat:Int),.int .u8 (t.lo.toNat:Int),.int .u8 (t.hi.toNat:Int),.string (ba t.s),.int .i64 t.a]
def AY:En:=⟨[],λ_=>True,λ_ _ _ h=>h,λ_ _ b hb=>by simp at hb,by simp⟩
abbrev KJ (t2 t3 t4 D l_ bs:Nat) (s:ByteArray) (v3 v4:Value) (o:Obj):List En:=[.c t2 [.int .i64 0,.int .u8 0,.int .u8 0,.slice none 0 0] aB,.c t3 [v3] bW,.c t4 [v4] vL,.ob D (.deferred (some [])),.ob l_ o,.c bs [.string s] cI]
def PS (w0 w:World) (rb:Nat) (G:List En) (S:SX):Prop:=∃(sl:Sl) (fs:List FM) (f:FM) (ts:List Rt) (p:Addr),fs.map FM.x=S.lo/\f.x=S.tp/\(∀g∈fs++[f],∀t∈g.ts,t∈ts)/\sl.a=some p/\(∀b∈Rt.gK ts,w0.heap.size<=b)/\SF F0 w0 w rb sl S.st S.wd fs f G ts
def PE (w0 w:World) (rb:Nat) (G:List En):Prop:=∃(sl:Sl) (fs:List FM) (f:FM) (ts:List Rt) (st wd:Int),SF F0 w0 w rb sl st wd fs f G ts
section
variable {s:ByteArray} {w0:World} {rb t2 t3 t4 D l_ bs:Nat} {o_:LoopState->Option Code->Obj}
abbrev HYP (s:ByteArray) (rb t2 t3 t4 l_ bs:Nat) (o_:LoopState->Option Code->Obj):Prop:=
 ∀(Sn So Sq:Int) (Sr:ByteArray) (Su:Int) (w_:World) (K_:Bool->World->Prop),w_.heap[l_]? =some (o_ .ready none)->regex_Parse.Sy l_ o_ s (bF t2) (bF t3) (bF t4) (bF rb) (bF bs) Sn So Sq Sr Su w_ (λr_ w1=>∃b_:Bool,r_=.returned (.bool b_)/\K_ b_ w1)->W.wW Tryz.prog l_ #[.agg #[.int .u8 Sn,.int .u8 So,.int .u8 Sq,.string Sr,.int .i64 Su]] w_ K_
theorem Iv (hY:HYP s rb t2 t3 t4 l_ bs o_) {S:SX} {m:Nat} (hI:Inv S m) (hm:m<=900000) (t:Tk) {e:En} {w:World} (H:PS w0 w rb (KJ t2 t3 t4 D l_ bs s (.int .i64 0) (.int .i64 0) (o_ .ready none)++[e]) S) {K:Bool->World->Prop}
  (Ze:∀w' s',jP s' t S=none->PE w0 w' rb (KJ t2 t3 t4 D l_ bs s (.int .i64 t.a) (.int .i64 2) (o_ .done (some .ret))++[e])->K false w')
  (dN:∀w' s' S',jP s' t S=some S'->PS w0 w' rb (KJ t2 t3 t4 D l_ bs s (.int .i64 0) (.int .i64 0) (o_ .ready none)++[e]) S'->K true w'):W.wW Tryz.prog l_ #[t.v] w K:=by
 obtain ⟨lo,tp,st,wd⟩:=S
 obtain ⟨sl,fs,f,ts,p,rT,Ar,h3,h4,hb,H⟩:=H
 have rT:fs.map FM.x=lo:=rT
 have Ar:f.x=tp:=Ar
 subst rT Ar
 refine hY _ _ _ _ _ w K (H.ob 7) ?_
 refine H.nw λw1 _ H1=>H1.st5 10 rfl λw2 H2=>H2.pu 7 rfl λw3 H3=>⟨_,_,_,_,_,H3.ld 10 0,H3.ld 10 1,H3.ld 10 2,H3.ld 10 3,H3.ld 10 4,?_⟩
 have Yh:SF F0 w0 w3 rb sl st wd fs f (KJ t2 t3 t4 D l_ bs s (.int .i64 0) (.int .i64 0) (o_ .busy none)++[e,.c w.heap.size (tkC t) fG]) ts:=H3
 refine Yh.OE h3 h4 (λoL s1=>SW s1 (Nat.le_trans hI.lo (by omega)) (hI.tp.mono (by omega)) hI.s1 t) ?_
 rintro r w4 X1 XA f4 p4 CD wd4 X7 t4' HW VV b4 ⟨s',TO⟩ H4
 rcases TO with ⟨hn,rfl⟩|⟨hs,rfl⟩
 .refine ⟨false,rfl,aQ rfl ?_⟩
  refine H4.dr λw5 H5=>⟨t.a,H5.ld 10 4,H5.CD 3 rfl λw6 H6=>⟨H6.ld 10 4,H6.CW 4 rfl λw7 H7=>H7.CW 5 rfl λw8 H8=>H8.pu 7 rfl λw9 H9=>⟨false,rfl,Ze w9 s' hn ⟨X1,XA,f4,X7,CD,wd4,?_⟩⟩⟩⟩
  exact H9.take 10
 .refine ⟨true,rfl,aL rfl (H4.pu 7 rfl λw5 H5=>⟨true,rfl,dN w5 s' _ hs ⟨X1,XA,f4,X7,p4,rfl,rfl,HW,VV,λb eD=>?_,H5.take 10⟩⟩)⟩
  rcases b4 b eD with h|h|h
  .exact hb b h
  .exact h
  .exact h.elim
def Yl (w0:World) (rb t2 t3 t4 D l_ bs:Nat) (s:ByteArray) (o_:LoopState->Option Code->Obj) (w':World):Int⊕SX->Prop
 |.inl a=>PE w0 w' rb (KJ t2 t3 t4 D l_ bs s (.int .i64 a) (.int .i64 2) (o_ .done (some .ret)))
 |.inr S=>PS w0 w' rb (KJ t2 t3 t4 D l_ bs s (.int .i64 0) (.int .i64 0) (o_ .ready none)) S
theorem Ub (hs:s.size<=4096) (hY:HYP s rb t2 t3 t4 l_ bs o_) (R:aD):∀(n i m:Nat) (S:SX) (w:World),s.size - i<n->i<=s.size->Inv S m->m+n<=900000->
  PS w0 w rb (KJ t2 t3 t4 D l_ bs s (.int .i64 0) (.int .i64 0) (o_ .ready none)) S->
  (∀w' res,FF (oU (bl s) n i) S res->Yl w0 rb t2 t3 t4 D l_ bs s o_ w' res->R (.returned (.tuple #[])) w')->regex_tokens_1.L0 l_ (bF bs) (i:Int) w R:=by
 intro n
 induction n with
 |zero=>intro i m S w h;omega
 |succ n ih=>
  intro i m S w hn hi hI hm hP hR
  have hl:(bl s).length=s.size:=iK s
  have hP0:=hP
  obtain ⟨sl,fs,f,ts,p,rT,Ar,h3,h4,hb,H⟩:=hP0
  refine regex_tokens_1.cF _ _ _ _ _ ⟨s,H.GB 8,aM (λh=>⟨s,H.GB 8,by omega,_,wM (i:=i) (by omega),l0 (n:=32) (by omega) (λhc:(bl s).getD i 0=32=>?_) (λhc:(bl s).getD i 0≠32=>⟨s,H.GB 8,H.call (Jm s (by omega) i (by omega) w) ?_⟩)⟩) (λh=>⟨s,H.GB 8,?_⟩)⟩
  .rw [show IntKind.wrap .i64 ((i:Int)+1)=((i+1:Nat):Int) by rw [IntWalk.i64_in _ (by omega)];omega]
   refine ih (i+1) m S w (by omega) (by omega) hI (by omega) hP (λw' res hr he=>hR w' res ?_ he)
   unfold oU
   rw [if_pos (by omega),if_pos hc]
   exact hr
  .rintro _ w1 rfl H1
   have Wj:=Fa (l:=bl s) (i:=i) (by omega)
   have et:oU (bl s) (n+1) i=(mO (bl s) i).1::oU (bl s) n (i+(mO (bl s) i).2):=by
    rw [oU,if_pos (by omega),if_neg hc]
   rw [et] at hR
   refine ⟨_,_,_,_,_,_,rfl,H1.nw λw2 _ H2=>H2.st5 9 rfl λw7 H7=>⟨_,_,_,_,_,H7.ld 9 0,H7.ld 9 1,H7.ld 9 2,H7.ld 9 3,H7.ld 9 4,?_⟩⟩
   have H7':SF F0 w0 w7 rb sl S.st S.wd fs f (KJ t2 t3 t4 D l_ bs s (.int .i64 0) (.int .i64 0) (o_ .ready none)++[.c w1.heap.size (tkC (mO (bl s) i).1) fG]) ts:=H7
   refine Iv hY hI (by omega) (mO (bl s) i).1 (e:=.c w1.heap.size (tkC (mO (bl s) i).1) fG) ⟨sl,fs,f,ts,p,rT,Ar,h3,h4,hb,H7'⟩ (λw8 s' wx hE=>aQ rfl (hR w8 (.inl (mO (bl s) i).1.a) ⟨s',.inl ⟨wx,rfl⟩⟩ ?_)) (λw8 s' S' JP hE=>aL rfl ?_)
   .obtain ⟨Ul,Tv,f8,Uz,X2,wd8,H8⟩:=hE
    exact ⟨Ul,Tv,f8,Uz,X2,wd8,H8.take 9⟩
   .obtain ⟨Ul,Tv,f8,Uz,p8,TK,TQ,YV,YW,Zd,H8⟩:=hE
    refine ⟨_,H8.ld 9 0,l0 (n:=63) (by omega) (λhk:(mO (bl s) i).1.k=63=>?_) (λhk=>?_)⟩
    .rw [LX hk] at JP;cases JP
    .rw [show IntKind.wrap .i64 ((i:Int)+((mO (bl s) i).2:Int))=((i+(mO (bl s) i).2:Nat):Int) by rw [IntWalk.i64_in _ (by omega)];omega]
     refine ih (i+(mO (bl s) i).2) (m+1) S' w8 (by omega) (by omega) (yM hI JP) (by omega) ⟨Ul,Tv,f8,Uz,p8,TK,TQ,YV,YW,Zd,H8.take 9⟩ (λw' res hr he=>hR w' res ⟨s',.inr ⟨S',JP,hr⟩⟩ he)
  .have et:oU (bl s) (n+1) i=[⟨36,0,0,[],(bl s).length⟩]:=by
    rw [oU,if_neg (by omega)]
   rw [et,hl] at hR
   have H1:=H.push AY (Fr.refl _ _) trivial (λb hb=>by cases hb)
   refine Iv hY hI (by omega) ⟨36,0,0,[],(s.size:Int)⟩ (e:=AY) ⟨sl,fs,f,ts,p,rT,Ar,h3,h4,hb,H1⟩ (λw8 s' wx hE=>hR w8 (.inl (s.size:Int)) ⟨s',.inl ⟨wx,rfl⟩⟩ ?_) (λw8 s' S' JP hE=>hR w8 (.inr S') ⟨s',.inr ⟨S',JP,rfl⟩⟩ ?_)
   .obtain ⟨Ul,Tv,f8,Uz,X2,wd8,H8⟩:=hE
    exact ⟨Ul,Tv,f8,Uz,X2,wd8,H8.take 9⟩
   .obtain ⟨Ul,Tv,f8,Uz,p8,TK,TQ,YV,YW,Zd,H8⟩:=hE
    exact ⟨Ul,Tv,f8,Uz,p8,TK,TQ,YV,YW,Zd,H8.take 9⟩
end
theorem rz:∀(a b:List Rx),Rx.fK (a++b)=Rx.fK a+Rx.fK b
 |[],b=>by simp [Rx.fK]
 |x::a,b=>by
  have:=rz a b
  show x.sz+Rx.fK (a++b)=(x.sz+Rx.fK a)+Rx.fK b
  omega
theorem ph (x:Rx):Rx.fK [x]=x.sz:=by simp [Rx.fK]
theorem GJ (k:Int) (l:List Rx):(Cl k l).sz<=1+Rx.fK l:=by
 unfold Cl
 split
 .rw [ph];omega
 .unfold Rx.sz;omega
theorem GH:∀(n:Nat) (r:Rx),(Av n r).sz=n+r.sz
 |0,r=>by unfold Av;omega
 |n+1,r=>by
  unfold Av
  rw [GH n]
  unfold Rx.sz
  rw [ph]
  cases r
  simp only [Rx.sz]
  omega
def fz (f:FX):Nat:=Rx.fK f.ar.2+Rx.fK f.al+Rx.fK f.an+Rx.fK f.ca+f.n
def lz:List FX->Nat
 |[]=>0
 |f::l=>fz f+lz l
theorem Ch:∀(a b:List FX),lz (a++b)=lz a+lz b
 |[],b=>by simp [lz]
 |x::a,b=>by
  have:=Ch a b
  show fz x+lz (a++b)=(fz x+lz a)+lz b
  omega
def pz (S:SX):Nat:=lz S.lo+fz S.tp+(if S.st=0\/S.st=1\/S.st=2 then 0 else S.tp.la.sz)
theorem M6 (S:SX):pz S<=lz S.lo+fz S.tp+S.tp.la.sz:=by unfold pz;split<;>omega
theorem WV (S:SX):lz S.lo+fz S.tp<=pz S:=by unfold pz;omega
theorem vC {S:SX} (h:S.st=0\/S.st=1\/S.st=2):pz S=lz S.lo+fz S.tp:=by unfold pz;rw [if_pos h];omega
theorem RK {S:SX} (h:¬(S.st=0\/S.st=1\/S.st=2)):pz S=lz S.lo+fz S.tp+S.tp.la.sz:=by unfold pz;rw [if_neg h]
theorem Pb (f:FX):fz (gZ f)=fz f+f.la.sz:=by
 unfold fz gZ
 simp only [rz,ph,GH]
 omega
theorem Nl (f:FX):fz (kL f)<=fz f+f.la.sz+1:=by
 have h:=GJ 3 (f.ca++[Av f.n f.la])
 simp only [rz,ph,GH] at h
 show Rx.fK f.ar.2+Rx.fK f.al+Rx.fK (f.an++[Cl 3 (f.ca++[Av f.n f.la])])+Rx.fK []+0<=_
 unfold fz
 simp only [rz,ph,Rx.fK]
 omega
theorem HJ (f:FX):Rx.fK f.ar.2+Rx.fK (iT f).al<=fz f+f.la.sz+2:=by
 have h:=GJ 5 (kL f).an
 have h2:=Nl f
 have e:fz (kL f)=Rx.fK f.ar.2+Rx.fK f.al+Rx.fK (kL f).an+0+0:=rfl
 show Rx.fK f.ar.2+Rx.fK (f.al++[Cl 5 (kL f).an])<=_
 simp only [rz,ph]
 omega
theorem LJ (f:FX):fz (iT f)<=fz f+f.la.sz+2:=by
 have:=HJ f
 show Rx.fK f.ar.2+Rx.fK (iT f).al+Rx.fK []+Rx.fK []+0<=_
 simp only [Rx.fK]
 omega
theorem B5 (f:FX):Rx.fK f.ar.2+(iG f).sz<=fz f+f.la.sz+3:=by
 have h:=GJ 4 (iT f).al
 have:=HJ f
 show _+(Cl 4 (iT f).al).sz<=_
 omega
theorem Cf {t:Tk} {S S':SX} (h:jQ t S=some S'):pz S'<=lz S.lo+fz S.tp+1:=by
 have leaf:∀(k:Int) (a b:UInt8),(Rx.mk k a b []).sz=1:=λk a b=>by unfold Rx.sz;simp [Rx.fK]
 unfold jQ at h
 split at h
 .cases h
  rw [vC (.inl rfl)]
  show lz S.lo+(Rx.fK S.tp.ar.2+Rx.fK S.tp.al+Rx.fK S.tp.an+Rx.fK S.tp.ca+(S.tp.n+1))<=_
  unfold fz;omega
 .split at h
  .cases h
   rw [vC (.inl rfl)]
   show lz (S.lo++[S.tp])+fz (qM (-1))<=_
   rw [Ch]
   have:fz (qM (-1))=0:=rfl
   simp only [lz];omega
  .have la:∀(k:Int) (a b:UInt8),pz ⟨S.lo,oa S.tp (.mk k a b []),3,S.wd⟩<=lz S.lo+fz S.tp+1:=λk a b=>by
    refine Nat.le_trans (M6 _) ?_
    show lz S.lo+fz S.tp+(Rx.mk k a b []).sz<=_
    rw [leaf];exact Nat.le_refl _
   split at h
   .cases h
    exact la _ _ _
   .split at h
    .split at h
     .cases h;exact la _ _ _
     .split at h
      .cases h;exact la _ _ _
      .split at h
       .cases h;rw [vC (.inr (.inr rfl))];show lz S.lo+fz S.tp<=_;omega
       .split at h
        .cases h;rw [vC (.inr (.inr rfl))];show lz S.lo+fz S.tp<=_;omega
        .split at h
         .cases h;rw [vC (.inr (.inr rfl))];show lz S.lo+fz S.tp<=_;omega
         .cases h
    .cases h
theorem DB {S S':SX} {l:List Rx} (h:oB S l=some S'):pz S'<=lz S.lo+Rx.fK l+1:=by
 unfold oB at h
 rcases pL S.lo with e|⟨a,g,e⟩
 .rw [e] at h;simp at h
 .rw [e] at h ⊢
  simp at h
  subst h
  refine Nat.le_trans (M6 _) ?_
  show lz a+fz g+(LA S.tp.k l).sz<=_
  rw [Ch]
  have:(LA S.tp.k l).sz<=Rx.fK l+1:=by
   unfold LA
   split
   .cases l with
    |nil=>exact (by show wC.sz<=_;unfold wC Rx.sz;simp [Rx.fK])
    |cons x l=>show x.sz<=_;unfold Rx.fK;omega
   .unfold Rx.sz;omega
  simp only [lz];omega
theorem OJ {s':Sl} {t:Tk} {S S':SX} (h:jP s' t S=some S'):pz S'<=pz S+4:=by
 have Ao:=WV S
 unfold jP at h
 split at h
 .split at h
  .cases h
   rw [vC (.inr (.inl rfl))]
   show lz (S.lo++[S.tp])+fz (qM S.wd)<=_
   rw [Ch]
   have:fz (qM S.wd)=0:=rfl
   simp only [lz];omega
  .cases h
 .rename_i h2
  split at h
  .split at h
   .have:=DB h;simp only [Rx.fK] at this;omega
   .have:=Cf h;omega
  .rename_i h1
   split at h
   .have:=Cf h;omega
   .rename_i h0
    have Ib:=RK (S:=S) (by rintro (e|e|e)<;>contradiction)
    split at h
    .cases h
     refine Nat.le_trans (M6 _) ?_
     show lz S.lo+fz S.tp+(Rx.mk 7 0 0 [S.tp.la]).sz<=_
     have:(Rx.mk 7 0 0 [S.tp.la]).sz=1+S.tp.la.sz:=by show 1+Rx.fK [S.tp.la]=_;rw [ph]
     omega
    .split at h
     .cases h
      rw [vC (.inl rfl)]
      show lz S.lo+fz (kL S.tp)<=_
      have:=Nl S.tp;omega
     .split at h
      .cases h
       rw [vC (.inl rfl)]
       show lz S.lo+fz (iT S.tp)<=_
       have:=LJ S.tp;omega
      .split at h
       .split at h
        .cases h
        .cases h
         rw [vC (.inl rfl)]
         show lz S.lo+(Rx.fK (S.tp.ar.2++[iG S.tp])+Rx.fK []+Rx.fK []+Rx.fK []+0)<=_
         have:=B5 S.tp
         simp only [rz,ph,Rx.fK];omega
       .split at h
        .split at h
         .cases h
         .have h5:=DB h
          have:=B5 S.tp
          simp only [rz,ph] at h5;omega
        .split at h
         .split at h
          .cases h;omega
          .cases h
         .have h5:=Cf h
          have:=Pb S.tp
          have e:lz (SX.mk S.lo (gZ S.tp) S.st S.wd).lo+fz (SX.mk S.lo (gZ S.tp) S.st S.wd).tp=lz S.lo+fz (gZ S.tp):=rfl
          omega
theorem LY {s':Sl} {a:Int} {S S':SX} (h:jP s' ⟨36,0,0,[],a⟩ S=some S'):S'=S/\¬(S.st=0\/S.st=1\/S.st=2):=by
 have it:∀S,jQ ⟨36,0,0,[],a⟩ S=none:=λS=>rfl
 unfold jP at h
 rw [it] at h
 split at h
 .cases h
 .split at h
  .cases h
  .split at h
   .cases h
   .refine ⟨?_,by rintro (e|e|e)<;>contradiction⟩
    have h':(if S.lo=[] then some S else none)=some S':=h
    split at h'
    .cases h';rfl
    .cases h'
theorem G4 (l:List UInt8):∀(n i:Nat) (S S':SX),l.length - i<n->FF (oU l n i) S (.inr S')->(iG S'.tp).sz<=pz S+4 *n+4
 |0,i,S,S',h,_=>by omega
 |n+1,i,S,S',h,hr=>by
  unfold oU at hr
  split at hr
  .split at hr
   .have:=G4 l n (i+1) S S' (by omega) hr
    omega
   .rename_i hi _
    have hp:=Fa hi
    obtain ⟨s',⟨_,hx⟩|⟨S1,h1,h2⟩⟩:=hr
    .cases hx
    .have:=G4 l n (i+(mO l i).2) S1 S' (by omega) h2
     have:=OJ h1
     omega
  .obtain ⟨s',⟨_,hx⟩|⟨S1,h1,h2⟩⟩:=hr
   .cases hx
   .have e:S'=S1:=by have:Sum.inr S'=(Sum.inr S1:Int⊕SX):=h2;cases this;rfl
    obtain ⟨e1,e2⟩:=LY h1
    subst e e1
    have:=RK e2
    have:=B5 S'.tp
    omega
theorem Pp {M:Nat->Prop} {w0 w:World} {L D:List En} (H:LH M w0 w L D) (is js:List Nat) (hp:is.Perm js) (hL:js.map (λk=>L.getD k AY)=L):LH M w0 w (is.map λk=>L.getD k AY) D:=by
 have h:(is.map λk=>L.getD k AY).Perm L:=by
  have:=hp.map (λk=>L.getD k AY)
  rwa [hL] at this
 exact ⟨H.fr,λe he=>H.own e (h.mem_iff.1 he),H.rd,λe he=>H.new e (h.mem_iff.1 he),((h.flatMap_right _).nodup_iff).2 H.nd,λe he b hb e' mI=>H.dj e he b hb e' (h.mem_iff.1 mI)⟩
theorem GO {w2:World} {l:Nat} {o:LoopState->Option Code->Obj} {N:World->Prop} {X:Nat->World->Prop} {T:World->Prop} (h:KE w2 l (o .ready none) (o .exhausted none) N):uG w2 l o N X T:=.inl h
theorem GQ {w2:World} {l:Nat} {o:LoopState->Option Code->Obj} {N:World->Prop} {X:Nat->World->Prop} {T:World->Prop} (h:KE w2 l (o .done (some .ret)) (o .exhausted (some .ret)) T):uG w2 l o N X T:=.inr (.inr h)
theorem RC {b:Nat} (h:b∈Rt.gK [.mk 0 0 0 ⟨none,0,0⟩ []]):False:=by
 have:=vl (ts:=[]) (k:=0) (lo:=0) (hi:=0) (b:=b) h
 unfold Rt.gK at this
 cases this
def Ve:SX:=⟨[],qM (-1),0,0⟩
theorem Ws:Inv Ve 0:=by
 refine ⟨Nat.le_refl _,λf hf=>?_,wN _ _,λe=>?_,λe=>?_⟩
 .cases hf
 .have:(0:Int)=1:=e
  omega
 .have:(0:Int)=2:=e
  omega
theorem Cw (l:List UInt8):∀(n i m:Nat) (S S':SX),Inv S m->FF (oU l n i) S (.inr S')->Inv S' (m+n)
 |0,i,m,S,S',hI,hr=>by
  have e:(Sum.inr S':Int⊕SX)=.inr S:=hr
  cases e
  exact hI
 |n+1,i,m,S,S',hI,hr=>by
  have up:∀{S:SX} {a b:Nat},Inv S a->a<=b->Inv S b:=λh Gl=>⟨Nat.le_trans h.lo Gl,λf hf=>(h.sl f hf).mono Gl,h.tp.mono Gl,h.s1,h.s2⟩
  unfold oU at hr
  split at hr
  .split at hr
   .exact up (Cw l n _ m S S' hI hr) (by omega)
   .obtain ⟨s',⟨_,hx⟩|⟨S1,h1,h2⟩⟩:=hr
    .cases hx
    .exact up (Cw l n _ (m+1) S1 S' (yM hI h1) h2) (by omega)
  .obtain ⟨s',⟨_,hx⟩|⟨S1,h1,h2⟩⟩:=hr
   .cases hx
   .have e:(Sum.inr S':Int⊕SX)=.inr S1:=h2
    cases e
    exact up (yM hI h1) (by omega)
def SG (w:World) (s:ByteArray):aD:=λr w'=>bI w w'/\
 ((4096<s.size/\r=.returned (.tuple #[.agg #[.int .i64 0,.int .u8 0,.int .u8 0,.slice none 0 0],.int .i64 4096,.int .i64 4]))\/
  (s.size<=4096/\∃res,FF (oU (bl s) (s.size+1) 0) Ve res/\((∃a,res=.inl a/\r=.returned (.tuple #[.agg #[.int .i64 0,.int .u8 0,.int .u8 0,.slice none 0 0],.int .i64 a,.int .i64 2]))\/
   ∃S',res=.inr S'/\((64<(iG S'.tp).sz/\r=.returned (.tuple #[.agg #[.int .i64 0,.int .u8 0,.int .u8 0,.slice none 0 0],.int .i64 (s.size:Int),.int .i64 4]))\/
    ((iG S'.tp).sz<=64/\∃t:Rt,r=.returned (.tuple #[t.v,.int .i64 0,.int .i64 0])/\t.rx=iG S'.tp/\t.P w'/\∀b∈t.fp,w.heap.size<=b)))))
theorem Ot (s:ByteArray) (w:World):Calls Tryz.prog qq #[.string s] w (SG w s):=by
 refine regex_Parse.ok _ w _ ((mu [] (λ_ h=>by cases h)).nw λw1 _ H1=>H1.nw λw2 _ H2=>H2.nw λw3 _ H3=>aM (λh=>?_) (λh=>?_))
 .refine H3.CD 0 rfl λw4 H4=>H4.CW 1 rfl λw5 H5=>H5.CW 2 rfl λw6 H6=>⟨_,_,_,⟨none,0,0⟩,H6.ld 0 0,H6.ld 0 1,H6.ld 0 2,H6.ld 0 3,_,H6.GB 1,_,H6.GB 2,H6.fr,.inl ⟨by omega,rfl⟩⟩
 have hs:s.size<=4096:=by omega
 have hl:(bl s).length=s.size:=iK s
 refine H3.iH (e:=cA) (sz:=10) (n:=1) (cs:=(oo (-1)).c) rfl (by decide) λpR m8=>m8.nw λrO _ qB=>?_
 refine qB.CW 4 rfl λqV qW=>qW.st 4 1 rfl λuD ux=>ux.st 4 2 rfl λC' uy=>?_
 refine regex_tokens.ok _ C' _ (uy.nw λAz _ BD=>⟨_,rfl,?_⟩)
 show ∀o_:LoopState->Option Code->Obj,_
 intro o_ hY
 have e1:(Az.alloc (.deferred (some []))).heap.size=Az.heap.size+1:=size_alloc _ _
 have HG:=(BD.alloc (.deferred (some []))).alloc (o_ .ready none)
 rw [e1] at HG
 have hP:(En.rows (([]++[oo (-1)]:List FM).flatMap FM.rows)).P ((Az.alloc (.deferred (some []))).alloc (o_ .ready none)):=by
  refine ⟨λq hq=>?_,by decide⟩
  have hq:q∈[((⟨none,0,0⟩,[]):kV),(⟨none,0,0⟩,[]),(⟨none,0,0⟩,[]),(⟨none,0,0⟩,[])]:=hq
  simp only [cU,qnM,or_false,or_self] at hq
  subst hq
  exact aP.nil _ _ _
 have Ha:=(HG.push (.rows (([]++[oo (-1)]:List FM).flatMap FM.rows)) (Fr.refl _ _) hP (λb hb=>by
  have hb:=aI.1 hb
  have hb:b∈([]:List Nat):=hb
  cases hb)).mE (.trees [.mk 0 0 0 ⟨none,0,0⟩ []]) (Fr.refl _ _) (Rt.oq λt ht=>by
   simp at ht;subst ht
   show Rt.P _ _
   unfold Rt.P Rt.Ps
   exact ⟨jO.nil 4 _,trivial⟩) (λb hb=>by
    exact (RC (aI.1 hb)).elim)
 have Hb:=Pp Ha [4,3,8,0,1,2,6,7,5] [0,1,2,3,4,5,6,7,8] (by decide) rfl
 have HS:SF F0 w ((Az.alloc (.deferred (some []))).alloc (o_ .ready none)) pR.heap.size ⟨some (bF w3.heap.size),1,1⟩ 0 0 [] (oo (-1)) (KJ w.heap.size w1.heap.size w2.heap.size Az.heap.size (Az.heap.size+1) C'.heap.size s (.int .i64 0) (.int .i64 0) (o_ .ready none)) [.mk 0 0 0 ⟨none,0,0⟩ []]:=Hb
 refine regex_tokens_1.ok _ _ _ _ (Ub (w0:=w) (rb:=pR.heap.size) (t2:=w.heap.size) (t3:=w1.heap.size) (t4:=w2.heap.size) (D:=Az.heap.size) (l_:=Az.heap.size+1) (bs:=C'.heap.size) hs hY _ (s.size+1) 0 0 Ve _ (by omega) (by omega) Ws (by omega)
  ⟨_,[],oo (-1),_,_,rfl,rfl,λg hg t ht=>?_,rfl,λb hb=>?_,HS⟩ (λw' res hr he=>⟨⟨_,rfl⟩,?_⟩))
 .simp at hg;subst hg
  simpa [FM.ts,oo] using ht
 .exact (RC hb).elim
 cases res with
 |inl a=>
  obtain ⟨sl,fs,f,ts,st,wd,H⟩:=he
  refine GQ (H.pu 7 rfl λrO qB=>qB.pu 6 rfl λAz BD=>⟨_,_,_,⟨none,0,0⟩,BD.ld 3 0,BD.ld 3 1,BD.ld 3 2,BD.ld 3 3,_,BD.GB 4,_,BD.GB 5,BD.fr,.inr ⟨hs,_,hr,.inl ⟨a,rfl,rfl⟩⟩⟩)
 |inr S'=>
  obtain ⟨sl,fs,f,ts,p,rT,Ar,h3,h4,hb,H⟩:=he
  have hI:=Cw _ _ _ _ _ _ Ws hr
  have l8:=G4 _ _ _ _ _ (by omega) hr
  rw [show pz Ve=0 from rfl] at l8
  have hfl:fs.length<=1000000:=by
   have:=hI.lo
   rw [<-rT] at this
   simp at this
   omega
  refine GO (H.pu 7 rfl λw5 H5=>?_)
  have H5':SF F0 w w5 pR.heap.size sl S'.st S'.wd fs f (KJ w.heap.size w1.heap.size w2.heap.size Az.heap.size (Az.heap.size+1) C'.heap.size s (.int .i64 0) (.int .i64 0) (o_ .exhausted none)) ts:=H5
  refine H5'.call (HE H5' h4 hfl) ?_
  rintro _ w6 rfl H6
  have H6':SF F0 w w6 pR.heap.size sl S'.st S'.wd fs f (KJ w.heap.size w1.heap.size w2.heap.size Az.heap.size (Az.heap.size+1) C'.heap.size s (.int .i64 0) (.int .i64 0) (o_ .exhausted none)) ts:=H6
  refine ⟨_,rfl,H6'.OE h3 h4 (λoL s1=>s8 s1 (by rw [Ar];exact hI.tp.mono (by omega))) ?_⟩
  rintro r w7 Bt yS f3 p3 lO CO xF t3 nZ tD uK ⟨U0,qU,jc,rfl,rfl,u,hu,rfl,hx⟩ H7
  rw [Ar] at hx
  have aaA:u.sz=(iG S'.tp).sz:=by rw [<-hx,Rt.g9]
  refine ⟨_,_,_,u.s,rfl,H7.nw λw8 _ H8=>H8.CD 9 rfl λw9 H9=>⟨_,_,_,u.s,H9.ld 9 0,H9.ld 9 1,H9.ld 9 2,H9.ld 9 3,H9.call (tU u w9 (by omega) ((show Rt.Ps w9 xF from H9.getD 0).mem hu)) ?_⟩⟩
  rintro _ qV rfl qW
  refine ⟨_,rfl,aM (λMh=>?_) (λO9=>?_)⟩
  .refine qW.CD 3 rfl λuD ux=>ux.CW 4 rfl λC' uy=>uy.CW 5 rfl λKq Da=>Da.pu 6 rfl λKr wX=>⟨_,_,_,⟨none,0,0⟩,wX.ld 3 0,wX.ld 3 1,wX.ld 3 2,wX.ld 3 3,_,wX.GB 4,_,wX.GB 5,wX.fr,.inr ⟨hs,_,hr,.inr ⟨S',rfl,.inl ⟨by omega,rfl⟩⟩⟩⟩
  .refine ⟨_,_,_,u.s,qW.ld 9 0,qW.ld 9 1,qW.ld 9 2,qW.ld 9 3,qW.CD 3 rfl λuD ux=>ux.CW 4 rfl λC' uy=>uy.CW 5 rfl λKq Da=>Da.pu 6 rfl λKr wX=>⟨_,_,_,u.s,wX.ld 3 0,wX.ld 3 1,wX.ld 3 2,wX.ld 3 3,_,wX.GB 4,_,wX.GB 5,wX.fr,.inr ⟨hs,_,hr,.inr ⟨S',rfl,.inr ⟨by omega,u,rfl,hx,(show Rt.Ps Kr xF from wX.getD 0).mem hu,λb OY=>?_⟩⟩⟩⟩⟩
   rcases uK b (Rt.bD.2 ⟨u,hu,OY⟩) with h|h|h
   .exact hb b h
   .exact h
   .exact h.elim
def zSl:Sl:=⟨none,0,0⟩
def er (f:FX):FX:=⟨f.k,(zSl,f.ar.2),f.al,f.an,f.ca,f.n,f.la⟩
def wh (S:SX):SX:=⟨S.lo.map er,er S.tp,S.st,S.wd⟩
theorem Ce (t:Tk) (S:SX):(jQ t S).map wh=jQ t (wh S):=by
 have e1:er (qM (-1))=qM (-1):=rfl
 have e2:(S.lo++[S.tp]).map er=S.lo.map er++[er S.tp]:=by simp
 unfold jQ
 split
 .rfl
 .split
  .simp only [Option.map_some,wh,e1,e2]
  .split
   .rfl
   .split
    .split
     .rfl
     .split
      .rfl
      .split
       .rfl
       .split
        .rfl
        .split<;>rfl
    .rfl
theorem DA (S:SX) (l:List Rx):(oB S l).map wh=oB (wh S) l:=by
 unfold oB
 rcases pL S.lo with e|⟨a,g,e⟩
 .simp [e,wh]
 .have e':(wh S).lo=a.map er++[er g]:=by simp [wh,e]
  rw [e,e']
  simp [wh]
  rfl
theorem HN (s':Sl) (t:Tk) (S:SX):(jP s' t S).map wh=jP zSl t (wh S):=by
 have e2:(S.lo++[S.tp]).map er=S.lo.map er++[er S.tp]:=by simp
 have c1:(wh S).st=S.st:=rfl
 have c2:(wh S).tp.k=S.tp.k:=rfl
 unfold jP
 rw [c1,c2]
 by_cases h2:S.st=2
 .rw [if_pos h2,if_pos h2]
  split
  .show some (wh ⟨S.lo++[S.tp],qM S.wd,1,S.wd⟩)=some ⟨S.lo.map er++[er S.tp],qM S.wd,1,S.wd⟩
   rw [<-e2];rfl
  .rfl
 rw [if_neg h2,if_neg h2]
 split
 .split
  .exact DA S []
  .exact Ce t S
 .split
  .exact Ce t S
  .split
   .rfl
   .split
    .rfl
    .split
     .rfl
     .split
      .split<;>rfl
      .split
       .by_cases e:S.lo=[]
        .rw [if_pos e,if_pos (show (wh S).lo=[] by simp [wh,e])];rfl
        .rw [if_neg e,if_neg (show ¬(wh S).lo=[] by simp [wh,e])];exact DA S _
       .split
        .by_cases e:S.lo=[]
         .rw [if_pos e,if_pos (show (wh S).lo=[] by simp [wh,e])];rfl
         .rw [if_neg e,if_neg (show ¬(wh S).lo=[] by simp [wh,e])];rfl
        .exact Ce t ⟨S.lo,gZ S.tp,S.st,S.wd⟩
def Ng:List Tk->SX->Int⊕SX
 |[],S=>.inr S
 |t::ts,S=>match jP zSl t S with
  |none=>.inl t.a
  |some S'=>Ng ts S'
def erR:Int⊕SX->Int⊕SX
 |.inl a=>.inl a
 |.inr S=>.inr (wh S)
theorem Nh:∀(ts:List Tk) (S:SX) (r:Int⊕SX),FF ts S r->erR r=Ng ts (wh S)
 |[],S,r,h=>by
  have h:r=.inr S:=h
  subst h;rfl
 |t::ts,S,r,h=>by
  obtain ⟨s',⟨h1,h2⟩|⟨S1,h1,h2⟩⟩:=h
  .subst h2
   have:=HN s' t S
   rw [h1] at this
   unfold Ng
   rw [<-this]
   rfl
  .have:=HN s' t S
   rw [h1] at this
   unfold Ng
   rw [<-this]
   exact Nh ts S1 r h2
def Sg (l:List UInt8):Int⊕SX:=Ng (oU l (l.length+1) 0) Ve
theorem UB {s:ByteArray} {r:Int⊕SX} (h:FF (oU (bl s) (s.size+1) 0) Ve r):erR r=Sg (bl s):=by
 have:=Nh _ _ _ h
 rw [this]
 unfold Sg
 rw [iK]
 rfl
theorem B4 (S:SX):iG (wh S).tp=iG S.tp:=rfl
end Go.Proofs.YtcifihepfadgfaaGreatDoor

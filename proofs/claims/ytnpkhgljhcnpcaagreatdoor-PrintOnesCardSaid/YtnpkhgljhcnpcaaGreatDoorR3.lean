import Derived.Test.YtnpkhgljhcnpcaaGreatDoorR1
import Derived.Test.YtnpkhgljhcnpcaaGreatDoorVB
import Derived.Laws.StandIn
import Derived.Lib.Bytealg
set_option linter.unusedVariables false
set_option linter.defProp false
namespace Go.Proofs.YtnpkhgljhcnpcaaGreatDoor
open Go renaming World->aA,Calls->aH,Value->aD,Ending->cD
open Go.IntKind renaming wrap->aC
open _root_.Int renaming toNat->aF
open Go.IntWalk renaming i64_in->aS
open Go.Proofs.Tryz renaming prog->aB
open _root_.Decidable renaming decide->aR
open Go.Ending renaming returned->aJ
open List renaming mem_append->gg,mem_cons->dT,not_mem_nil->gL,mem_of_getElem?->dI,getElem?_eq_getElem->ie,getElem?_eq_some_iff->nY,mem_append_left->qy,mem_append_right->wL,mem_flatMap->nG,length_drop->qlD,flatMap_append->rS,flatMap_cons->rT,mem_iff_getElem?->O2,nodup_append->zH,append_nil->uL,map_append->sP,getElem?_set_self->vw
open Go Go.W
abbrev mD:=Sl×List aD
def _root_.Go.W.En.rows (rs:List mD):En:=⟨JL (rs.flatMap λp:mD=>bQ p.1),λw=>(∀p∈rs,bD w aL 4 p.1 p.2)/\(rs.flatMap λp:mD=>bQ p.1).Nodup,
 λw w' h hp=>⟨λp hm=>(hp.1 p hm).ic λb hb hl=>h b (aV.2 (nG.2 ⟨p,hm,hb⟩)) hl,hp.2⟩,
 λw hp b hb=>by
  obtain ⟨p,hm,hb⟩:=nG.1 (aV.1 hb)
  exact (hp.1 p hm).lt b hb,kM _⟩
def I3 (rs:List mD) (hr:rs≠[]) (w:aA) (b:Nat) (hb:b∈(En.rows rs).fp):¬(En.rows rs).P ({w with heap:=Array.replicate (b+1) (.map #[] 0)}):=by
 rintro ⟨h,_⟩
 obtain ⟨p,hm,hb⟩:=nG.1 (aV.1 hb)
 obtain ⟨cs,f,hc⟩:=(h p hm).row.typ b hb
 simp at hc
section
variable {M:Nat->Prop} {w0 w:aA} {L D:List En} {bs:List Nat}
def BT (H:LH M w0 w L D) {i:Nat} {rs:List mD} (hi:L[i]? =some (.rows rs)) {b:Nat} (hb:En.g b∈L):b∉(En.rows rs).fp:=by
 intro hm
 obtain ⟨j,hj⟩:=O2.1 hb
 by_cases Dn:i=j
 .subst Dn
  rw [hi] at hj
  have e1:En.rows rs=En.g b:=Option.some.inj hj
  have jx:rs≠[]:=by
   rintro rfl
   simp [En.rows,JL] at hm
  refine I3 rs jx w b hm ?_
  rw [e1]
  show b<_
  simp
 .exact qX H.nd hi hj Dn b hm (by simp [En.g])
def Qy {rs:List mD} {j:Nat} {s s':Sl} {vs Da:List aD} (hj:rs[j]? =some (s,vs)) (hn:(rs.flatMap λp:mD=>bQ p.1).Nodup) (hs:(bQ s').Nodup) (hx:∀x∈bQ s',x∈bQ s\/x∉rs.flatMap λp:mD=>bQ p.1):((rs.set j (s',Da)).flatMap λp:mD=>bQ p.1).Nodup:=
 zy (f:=λp:mD=>bQ p.1) hj hn hs hx
def No (s:Sl):(bQ s).Nodup:=by unfold bQ;split<;>simp
def yw {α:Type} {l:List α} {j:Nat} {a x:α} (h:x∈l.set j a):x=a\/∃i,i≠j/\l[i]? =some x:=by
 obtain ⟨i,hi⟩:=O2.1 h
 rw [List.getElem?_set] at hi
 split at hi
 .split at hi
  .exact .inl (Option.some.inj hi).symm
  .cases hi
 .rename_i jx
  exact .inr ⟨i,λe=>jx e.symm,hi⟩
def EH {rs:List mD} (hn:(rs.flatMap λp:mD=>bQ p.1).Nodup):∀{i j:Nat} {p q:mD},rs[i]? =some p->rs[j]? =some q->i≠j->∀b∈bQ p.1,b∉bQ q.1:=by
 induction rs with
 |nil=>intro i j p q h;simp at h
 |cons a l ih=>
  rw [rT,zH] at hn
  intro i j p q hi hj Dn b hb fA
  cases i with
  |zero=>
   simp at hi;subst hi
   cases j with
   |zero=>exact Dn rfl
   |succ j=>exact hn.2.2 b hb b (nG.2 ⟨q,dI (by simpa using hj),fA⟩) rfl
  |succ i=>
   cases j with
   |zero=>
    simp at hj;subst hj
    exact hn.2.2 b fA b (nG.2 ⟨p,dI (by simpa using hi),hb⟩) rfl
   |succ j=>exact ih hn.2.1 (by simpa using hi) (by simpa using hj) (by omega) b hb fA
def CA (H:LH M w0 w L D) {w':aA} (i j:Nat) {rs:List mD} {s s':Sl} {vs Da:List aD} (hi:L[i]? =some (.rows rs)) (hj:rs[j]? =some (s,vs)) (f:Fr (λb=>b∈bQ s) w w') (ho:bD w' aL 4 s' Da) (hb:∀b∈bQ s',b∈bQ s\/w.heap.size<=b):
  LH M w0 w' (L.set i (.rows (rs.set j (s',Da)))) D:=by
 have hp:(En.rows rs).P w:=H.get i hi
 have rU:∀b∈bQ s,b∈(En.rows rs).fp:=λb hb=>aV.2 (nG.2 ⟨_,dI hj,hb⟩)
 have jO:∀b∈rs.flatMap (λp:mD=>bQ p.1),b<w.heap.size:=λb hb=>(En.rows rs).lt w hp b (aV.2 hb)
 refine H.CX i _ hi (f.mono λx _ hx=>rU x hx) ⟨λp hm=>?_,Qy hj hp.2 (No _) λx hx=>(hb x hx).imp id λh hm=>by have:=jO x hm;omega⟩ λb hm=>?_
 .rcases yw hm with rfl|⟨k,hk,JH⟩
  .exact ho
  .exact (hp.1 p (dI JH)).ic λb fA hl=>f.ic b hl λkS=>EH hp.2 JH hj hk b fA kS
 .obtain ⟨p,hm,hbp⟩:=nG.1 (aV.1 hm)
  rcases yw hm with rfl|⟨k,_,JH⟩
  .exact (hb b hbp).imp (rU b) id
  .exact .inl (aV.2 (nG.2 ⟨p,dI JH,hbp⟩))
def _root_.Go.W.LH.Ls (H:LH M w0 w L D) (i j:Nat) {ty:TypeId} {rs:List mD} {s src:Sl} {vs news:List aD} {K:Sl->aA->Prop} (hi:L[i]? =some (.rows rs)) (hj:rs[j]? =some (s,vs)) (hr:lN 4 w src news) (h1:∀u∈news,u.oneCell'=true) (hb:(s.n+src.n) *40<=140737488355328)
  (hK:∀s' w',LH M w0 w' (L.set i (.rows (rs.set j (s',vs++news)))) D->s'.n=s.n+src.n->(s'.a=none->s.a=none/\src.n=0)->K s' w') (kS:∀b∈bs,En.g b∈L:=by simp):
  ∃s' w',(Builtin.append_ #[aU,aU] ty #[s.v,src.v]).run aB w=.ok s'.v w'/\kept bs w w'/\K s' w':=by
 have hp:(En.rows rs).P w:=H.get i hi
 obtain ⟨s',w',g1,g2,g3,g4,g5,g6⟩:=r6 (ty:=ty) BG (hp.1 _ (dI hj)) hr.2.2 hr.1 h1 hb
 refine ⟨s',w',g1,λb fA=>?_,hK s' w' (CA H i j hi hj g4 g2 g5) g3 g6⟩
 refine g4.ic b (H.own _ (kS b fA)) λhm=>?_
 exact BT H hi (kS b fA) (aV.2 (nG.2 ⟨_,dI hj,hm⟩))
def _root_.Go.W.LH.MP (H:LH M w0 w L D) (i j a c:Nat) {rs:List mD} {s:Sl} {vs:List aD} {v:aD} {p:Addr} {K:aA->Prop} (hi:L[i]? =some (.rows rs)) (hj:rs[j]? =some (s,vs)) (hp:s.a=some p) (hl:a+c<vs.length)
  (hK:∀w',LH M w0 w' (L.set i (.rows (rs.set j (s,vs.set (a+c) v)))) D->K w') (kS:∀b∈bs,En.g b∈L:=by simp):cY w ((p.add a).add c) v λw1=>kept bs w w1/\K w1:=by
 have hP:(En.rows rs).P w:=H.get i hi
 obtain ⟨q,hq,hqb,x1,x2,x3,x4⟩:=Gc (hP.1 _ (dI hj)) (a+c) hl v
 rw [hp] at hq
 cases hq
 rw [add_add]
 refine ⟨x1,x2,λb hb=>?_,hK _ (CA H i j hi hj x4 x3 λb hb=>.inl hb)⟩
 exact x4.ic b (H.own _ (kS b hb)) λhm=>BT H hi (kS b hb) (aV.2 (nG.2 ⟨_,dI hj,hm⟩))
def _root_.Go.W.LH.Fz (H:LH M w0 w L D) (i j:Nat) {rs:List mD} {s:Sl} {vs:List aD} (hi:L[i]? =some (.rows rs)) (hj:rs[j]? =some (s,vs)):LH M w0 w (L.set i (.rows (rs.set j (⟨none,0,0⟩,[])))) (D++[.jG 4 s vs]):=by
 have hp:(En.rows rs).P w:=H.get i hi
 have H1:=CA H i j hi hj (Fr.refl _ _) (bD.nil w aL 4) (λb hb=>by simp [bQ] at hb)
 have rU:∀b∈bQ s,b∈(En.rows rs).fp:=λb hb=>aV.2 (nG.2 ⟨_,dI hj,hb⟩)
 have Yz:i<L.length:=(nY.1 hi).1
 refine ⟨H1.fr,H1.own,λe he=>?_,H1.new,H1.nd,λe he b hb e' lM fA=>?_⟩
 .rcases gg.1 he with he|he
  .exact H1.rd e he
  .simp at he;subst he
   exact (hp.1 _ (dI hj)).jG
 .rcases gg.1 he with he|he
  .exact H1.dj e he b hb e' lM fA
  .simp at he;subst he
   have kS:b∈bQ s:=gP (e:=aL) hb
   rcases yw lM with rfl|⟨k,hk,hke⟩
   .obtain ⟨q,hq,hbq⟩:=nG.1 (aV.1 fA)
    rcases yw hq with rfl|⟨k,hk,hkq⟩
    .simp [bQ] at hbq
    .exact EH hp.2 hkq hj hk b hbq kS
   .exact qX H.nd hi hke (λe=>hk e.symm) b (rU b kS) fA
end
structure FX where
 k:Int
 ar:Sl×List Rx
 al:List Rx
 an:List Rx
 ca:List Rx
 n:Nat
 la:Rx
structure FM where
 k:Int
 ar:Sl×List Rt
 al:Sl×List Rt
 an:Sl×List Rt
 ca:Sl×List Rt
 n:Nat
 la:Rt
def FM.x (f:FM):FX:=⟨f.k,(f.ar.1,Rt.cR f.ar.2),Rt.cR f.al.2,Rt.cR f.an.2,Rt.cR f.ca.2,f.n,f.la.rx⟩
def FM.c (f:FM):List aD:=[.int .i64 f.k,f.ar.1.v,f.al.1.v,f.an.1.v,f.ca.1.v,.int .i64 (f.n:Int),.int .i64 f.la.k,.int .u8 (f.la.lo.toNat:Int),.int .u8 (f.la.hi.toNat:Int),f.la.s.v]
def FM.rows (f:FM):List mD:=[(f.ar.1,f.ar.2.flatMap Rt.c),(f.al.1,f.al.2.flatMap Rt.c),(f.an.1,f.an.2.flatMap Rt.c),(f.ca.1,f.ca.2.flatMap Rt.c)]
def FM.ts (f:FM):List Rt:=f.ar.2++f.al.2++f.an.2++f.ca.2++[f.la]
def FM.Br (f:FM):f.c.length=10:=rfl
def vh (fs:List FM):(fs.flatMap FM.c).length=fs.length *10:=qo FM.c 10 FM.Br fs
abbrev SL (rb:Nat) (sl:Sl) (st wd:Int) (cs:List aD) (rs:List mD):List En:=[.c rb [sl.v,.int .i64 st,.int .i64 wd] iV,.row c9 10 sl cs,.rows rs]
def St (w:aA) (rb:Nat) (f0:Addr) (lo:List FX) (tp:FX) (st wd:Int) (own:List Nat) (ts:List Rt):Prop:=
 ∃(sl:Sl) (fs:List FM) (f:FM) (p:Addr),fs.map FM.x=lo/\f.x=tp/\(∀g∈fs++[f],∀t∈g.ts,t∈ts)/\sl.a=some p/\f0=p.add (fs.length *10)/\
  own=(SL rb sl st wd ((fs++[f]).flatMap FM.c) ((fs++[f]).flatMap FM.rows)).flatMap (·.fp)/\own.Nodup/\(∀e∈SL rb sl st wd ((fs++[f]).flatMap FM.c) ((fs++[f]).flatMap FM.rows),e.P w)/\Rt.Ps w ts/\∀b∈Rt.iD ts,b∉own
def uA (w:aA) (own:List Nat) (ts:List Rt) (rb:Nat) (f0:Addr) (lo:List FX) (tp:FX) (st wd:Int) (A:List Rt->Prop) (w':aA):Prop:=∃fF nj,St w' rb f0 lo tp st wd fF nj/\Fr (·∈own) w w'/\(∀x∈fF,x∈own\/w.heap.size<=x)/\(∀b∈Rt.iD nj,b∈Rt.iD ts\/b∈own\/w.heap.size<=b)/\(∀t∈ts,t∈nj)/\A nj
def uA.then {w w1 w':aA} {own oo:List Nat} {ts ZL:List Rt} {rb:Nat} {f0:Addr} {lo:List FX} {tp:FX} {st wd:Int} {A:List Rt->Prop} (f1:Fr (·∈own) w w1) (o1:∀x∈oo,x∈own\/w.heap.size<=x) (b1:∀b∈Rt.iD ZL,b∈Rt.iD ts\/b∈own\/w.heap.size<=b) (t1:∀t∈ts,t∈ZL) (h:uA w1 oo ZL rb f0 lo tp st wd A w'):uA w own ts rb f0 lo tp st wd A w':=by
 obtain ⟨Co,GN,s2,f2,o2,b2,t2,a2⟩:=h
 refine ⟨Co,GN,s2,f1.trans f2 λx hx hm=>(o1 x hm).resolve_right λh=>by omega,λx hx=>?_,λb hb=>?_,λt ht=>t2 t (t1 t ht),a2⟩
 .rcases o2 x hx with h|h
  .exact o1 x h
  .exact .inr (Nat.le_trans f1.size h)
 .rcases b2 b hb with h|h|h
  .exact b1 b h
  .exact .inr (o1 b h)
  .exact .inr (.inr (Nat.le_trans f1.size h))
def uA.mono {w w':aA} {own:List Nat} {ts:List Rt} {rb:Nat} {f0:Addr} {lo:List FX} {tp:FX} {st wd:Int} {A B:List Rt->Prop} (h:uA w own ts rb f0 lo tp st wd A w') (NP:∀l,A l->B l):uA w own ts rb f0 lo tp st wd B w':=by
 obtain ⟨Co,GN,s2,f2,o2,b2,t2,a2⟩:=h
 exact ⟨Co,GN,s2,f2,o2,b2,t2,NP _ a2⟩
def _root_.Go.W.En.stt (rb:Nat) (f0:Addr) (lo:List FX) (tp:FX) (st wd:Int) (own:List Nat) (ts:List Rt):En:=⟨JL (own++Rt.iD ts),λw=>St w rb f0 lo tp st wd own ts,λw w' h hp=>(by
 obtain ⟨sl,fs,g,p,h1,h2,h3,h4,h5,h6,h7,h8,h9,yo⟩:=hp
 refine ⟨sl,fs,g,p,h1,h2,h3,h4,h5,h6,h7,λe he=>e.st w w' (λb hb hl=>h b (aV.2 (qy _ ?_)) hl) (h8 e he),Rt.keeps ts (λb hb hl=>h b (aV.2 (wL _ hb)) hl) h9,yo⟩
 rw [h6]
 exact nG.2 ⟨e,he,hb⟩),λw hp b hb=>(by
 obtain ⟨sl,fs,g,p,h1,h2,h3,h4,h5,h6,h7,h8,h9,yo⟩:=hp
 rcases gg.1 (aV.1 hb) with hb|hb
 .rw [h6] at hb
  obtain ⟨e,he,tM⟩:=nG.1 hb
  exact e.lt w (h8 e he) b tM
 .exact Rt.lts ts h9 b hb),kM _⟩
def Vu (rb:Nat) (f0:Addr) (lo:List FX) (tp:FX) (st wd:Int) (own:List Nat) (ts:List Rt) (w:aA) (b:Nat):¬(En.stt rb f0 lo tp st wd own ts).P ({w with heap:=Array.replicate (b+1) (.map #[] 0)}):=by
 rintro ⟨sl,fs,g,p,h1,h2,h3,h4,h5,h6,h7,h8,h9,yo⟩
 have:=h8 (.c rb [sl.v,.int .i64 st,.int .i64 wd] iV) (by simp)
 have h:({w with heap:=Array.replicate (b+1) (.map #[] 0)}:aA).heap[rb]? =some (.cells #[sl.v,.int .i64 st,.int .i64 wd] iV (0,0)):=this
 simp [Array.getElem?_replicate] at h
def St.uW {w:aA} {rb:Nat} {sl:Sl} {fs:List FM} {f:FM} {ts:List Rt} {st wd:Int} {own:List Nat} (h6:own=(SL rb sl st wd ((fs++[f]).flatMap FM.c) ((fs++[f]).flatMap FM.rows)).flatMap (·.fp)) (h7:own.Nodup) (h8:∀e∈SL rb sl st wd ((fs++[f]).flatMap FM.c) ((fs++[f]).flatMap FM.rows),e.P w) (h9:Rt.Ps w ts) (yo:∀b∈Rt.iD ts,b∉own):
  LH (·∈own) w w (SL rb sl st wd ((fs++[f]).flatMap FM.c) ((fs++[f]).flatMap FM.rows)) [.trees ts]:=by
 refine LH.uf _ _ (λe he=>⟨h8 e he,λb hb=>by rw [h6];exact nG.2 ⟨e,he,hb⟩⟩) (h6▸h7) λe he=>?_
 simp only [dT,gL,or_false] at he
 subst he
 refine ⟨h9,λb hb e' lM fA=>yo b (aV.1 hb) ?_⟩
 rw [h6]
 exact nG.2 ⟨e',lM,fA⟩
def St.of {w w':aA} {rb:Nat} {f0:Addr} {sl:Sl} {fs:List FM} {f:FM} {ts nj:List Rt} {st wd:Int} {own:List Nat} {p:Addr} {D:List En} {A:List Rt->Prop} (H:LH (·∈own) w w' (SL rb sl st wd ((fs++[f]).flatMap FM.c) ((fs++[f]).flatMap FM.rows)) D) (i:Nat) (hD:D[i]? =some (.trees nj)) (ht:∀g∈fs++[f],∀t∈g.ts,t∈nj) (hp:sl.a=some p) (h0:f0=p.add (fs.length *10)) (hb:∀b∈Rt.iD nj,b∈Rt.iD ts\/b∈own\/w.heap.size<=b) (Dp:∀t∈ts,t∈nj) (hA:A nj):
  uA w own ts rb f0 (fs.map FM.x) f.x st wd A w':=by
 refine ⟨_,nj,⟨sl,fs,f,p,rfl,rfl,ht,hp,h0,rfl,H.nd,H.own,H.getD i hD,λb hb hm=>?_⟩,H.fr,λx hx=>?_,hb,Dp,hA⟩
 .obtain ⟨e,he,tM⟩:=nG.1 hm
  exact H.dj _ (dI hD) b (aV.2 hb) e he tM
 .obtain ⟨e,he,tM⟩:=nG.1 hx
  exact (H.new e he x tM).symm
section
variable {M:Nat->Prop} {w0 w:aA} {L D:List En} {bs:List Nat}
def _root_.Go.W.LH.Ca (H:LH M w0 w L D) (i:Nat) {sl:Sl} {fs:List FM} {f:FM} {p:Addr} (hi:L[i]? =some (.row c9 10 sl ((fs++[f]).flatMap FM.c))) (hp:sl.a=some p) (j:Nat) {v:aD} (hj:f.c[j]? =some v:=by rfl):w.cell? ((p.add (fs.length *10)).add j)=some v:=by
 have ho:bD w c9 10 sl ((fs++[f]).flatMap FM.c):=H.get i hi
 have hk:((fs++[f]).flatMap FM.c)[fs.length *10+j]? =some v:=by
  rw [rS,List.getElem?_append_right (by rw [vh];omega),vh]
  simpa using hj
 obtain ⟨q,hq,hc⟩:=ho.jG.2.2.2 _ _ hk
 rw [hp] at hq
 cases hq
 rw [add_add]
 exact hc
def NK (fs:List FM) (f f':FM) (j:Nat) (v:aD) (hj:j<10) (h:f.c.set j v=f'.c):((fs++[f]).flatMap FM.c).set (fs.length *10+j) v=(fs++[f']).flatMap FM.c:=by
 rw [rS,rS,List.set_append,aI (by rw [vh];omega),vh]
 simp only [rT,List.flatMap_nil,uL,Nat.add_sub_cancel_left]
 rw [h]
def _root_.Go.W.LH.GM (H:LH M w0 w L D) (i:Nat) {sl:Sl} {fs:List FM} {f:FM} {p:Addr} {K:aA->Prop} {v:aD} (f':FM) (j:Nat) (hi:L[i]? =some (.row c9 10 sl ((fs++[f]).flatMap FM.c))) (hp:sl.a=some p) (hj:j<10) (hc:f.c.set j v=f'.c)
  (hK:∀w',LH M w0 w' (L.set i (.row c9 10 sl ((fs++[f']).flatMap FM.c))) D->K w') (kS:∀b∈bs,En.g b∈L:=by simp):cY w ((p.add (fs.length *10)).add j) v λw1=>kept bs w w1/\K w1:=
 H.Jf i (fs.length *10) j hi hp (by rw [vh];simp;omega) (λw' H'=>hK w' (by rw [NK fs f f' j v hj hc] at H';exact H')) kS
def Gs {w:aA} {p:Addr} {v:aD} {K:aA->Prop} (h:cY w p v λw1=>kept [] w w1/\K w1):cY w p v K:=rj h λ_ h=>h.2
end
def rI:∀fs:List FM,(fs.flatMap FM.rows).length=fs.length *4
 |[]=>rfl
 |f::fs=>by
  have:=rI fs
  simp only [rT,List.length_append,List.length_cons]
  have:f.rows.length=4:=rfl
  omega
def Cz (fs:List FM) (f:FM) (j:Nat) (x:mD) (hj:j<4):((fs++[f]).flatMap FM.rows).set (fs.length *4+j) x=fs.flatMap FM.rows++f.rows.set j x:=by
 have hl:=rI fs
 rw [rS,List.set_append,aI (by omega),hl]
 simp
def qv (fs:List FM) (f:FM) (j:Nat) (x:mD) (hx:f.rows[j]? =some x):((fs++[f]).flatMap FM.rows)[fs.length *4+j]? =some x:=by
 have hl:=rI fs
 rw [rS,List.getElem?_append_right (by omega),hl]
 simpa using hx
def qI (k:Int) (s:Sl) (ts:List Rt):Rt:=match ts with |[x]=>x|l=>.mk k 0 0 s l
def F9 (k:Int) (l:List Rx):Rx:=match l with |[x]=>x|l=>.mk k 0 0 l
def FZ (k:Int) (s:Sl) (ts:List Rt):(qI k s ts).rx=F9 k (Rt.cR ts):=by
 match ts with
 |[]=>rfl
 |[x]=>rfl
 |x::y::l=>rfl
def UY {k:Int} {s:Sl} {ts:List Rt} {b:Nat} (h:b∈(qI k s ts).fp):b∈(Rt.row s ts).fp\/b∈Rt.iD ts:=by
 match ts,h with
 |[],h=>exact Rt.fJ.1 (show b∈(Rt.mk k 0 0 s []).fp from h)
 |[x],h=>exact .inr (Rt.bU.2 ⟨x,by simp,h⟩)
 |x::y::l,h=>exact Rt.fJ.1 (show b∈(Rt.mk k 0 0 s (x::y::l)).fp from h)
def Ka (k:Int) (s:Sl) (ts:List Rt) (w:aA) (h:lN 4 w s (ts.flatMap Rt.c)):aH aB jX #[.int .i64 k,s.v] w λr w'=>r=aJ (qI k s ts).v/\bW w w':=by
 have nr:=Rt.cX h
 refine regex_one.dQ _ _ w _ ((og [Rt.row s ts] (by
  intro e he
  simp only [dT,gL,or_false] at he
  subst he
  exact h)).cC λb4 w1 H1=>aY (λh1=>⟨by omega,by omega,?_⟩) (λh1=>H1.bH λw2 H2=>⟨?_,H2.fr⟩))
 .have hl:ts.length=1:=by omega
  obtain ⟨x,rfl⟩:=List.length_eq_one_iff.1 hl
  refine Rt.at' (H1.getD 0) (i:=0) (t:=x) rfl λp hp c=>⟨_,_,_,_,c.c0,c.c1,c.c2,c.c3,H1.bH λw2 H2=>⟨rfl,H2.fr⟩⟩
 .match ts,nr with
  |[],_=>rfl
  |[x],nr=>simp at nr;omega
  |x::y::l,_=>rfl
section
variable {M:Nat->Prop} {w0 w:aA} {L D:List En} {bs:List Nat}
def _root_.Go.W.LH.node (H:LH M w0 w L D) (i:Nat) {ts ks:List Rt} {s:Sl} (k:Int) (lo hi:UInt8) (y6:D[i]? =some (.trees ts)) (hr:Rt.row s ks∈D) (hk:∀t∈ks,t∈ts):LH M w0 w L [.trees (ts++[.mk k lo hi s ks])]:=by
 have pt:Rt.Ps w ts:=H.getD i y6
 have H1:=H.pS (.trees (ts++[.mk k lo hi s ks])) (Fr.refl _ _) (Rt.qu λt ht=>?_) λb hb=>.inr (.inr ?_)
 .exact H1.forget _ (by simp)
 .rcases gg.1 ht with ht|ht
  .exact pt.mem ht
  .simp at ht;subst ht
   unfold Rt.P
   exact ⟨H.rd _ hr,Rt.qu λt ht=>pt.mem (hk t ht)⟩
 .obtain ⟨t,ht,fA⟩:=Rt.bU.1 (aV.1 hb)
  rcases gg.1 ht with ht|ht
  .exact ⟨_,dI y6,aV.2 (Rt.bU.2 ⟨t,ht,fA⟩)⟩
  .simp at ht
   rw [ht] at fA
   rcases Rt.fJ.1 fA with h|h
   .exact ⟨_,hr,h⟩
   .obtain ⟨t',ph,FB⟩:=Rt.bU.1 h
    exact ⟨_,dI y6,aV.2 (Rt.bU.2 ⟨t',hk t' ph,FB⟩)⟩
def _root_.Go.W.LH.Mw (H:LH M w0 w L D) (i:Nat) {ts ks:List Rt} {s:Sl} (k:Int) (y6:D[i]? =some (.trees ts)) (hr:Rt.row s ks∈D) (hk:∀t∈ks,t∈ts):LH M w0 w L [.trees (ts++[qI k s ks])]:=by
 match ks,hr,hk with
 |[],hr,hk=>exact H.node i k 0 0 y6 hr hk
 |x::y::l,hr,hk=>exact H.node i k 0 0 y6 hr hk
 |[x],hr,hk=>
  have pt:Rt.Ps w ts:=H.getD i y6
  have hx:=hk x (by simp)
  have H1:=H.pS (.trees (ts++[x])) (Fr.refl _ _) (Rt.qu λt ht=>?_) λb hb=>.inr (.inr ?_)
  .exact H1.forget _ (by simp [qI])
  .rcases gg.1 ht with ht|ht
   .exact pt.mem ht
   .simp at ht;subst ht
    exact pt.mem hx
  .obtain ⟨t,ht,fA⟩:=Rt.bU.1 (aV.1 hb)
   rcases gg.1 ht with ht|ht
   .exact ⟨_,dI y6,aV.2 (Rt.bU.2 ⟨t,ht,fA⟩)⟩
   .simp at ht
    rw [ht] at fA
    exact ⟨_,dI y6,aV.2 (Rt.bU.2 ⟨x,hx,fA⟩)⟩
abbrev z4:List aD:=[.int .i64 0,.int .u8 0,.int .u8 0,.slice none 0 0]
def AR (vs u:List aD) (n j:Nat) (v:aD) (hn:vs.length=n):(vs++u).set (n+j) v=vs++u.set j v:=by
 rw [List.set_append,aI (by omega)]
 congr 2
 omega
def _root_.Go.W.LH.Og (H:LH M w0 w L D) (i j n:Nat) {rs:List mD} {s:Sl} {vs:List aD} {p:Addr} {K:aA->Prop} (t:Rt) (hi:L[i]? =some (.rows rs)) (hj:rs[j]? =some (s,vs++z4)) (hp:s.a=some p) (hn:vs.length=n *4)
  (hK:∀w',LH M w0 w' (L.set i (.rows (rs.set j (s,vs++t.c)))) D->K w') (kS:∀b∈bs,En.g b∈L):
  cY w (p.add (aF (n:Int) *4)) (.int .i64 t.k) λw1=>kept bs w w1/\cY w1 ((p.add (aF (n:Int) *4)).add 1) (.int .u8 (t.lo.toNat:Int)) λw2=>kept bs w1 w2/\cY w2 ((p.add (aF (n:Int) *4)).add 2) (.int .u8 (t.hi.toNat:Int)) λw3=>kept bs w2 w3/\cY w3 ((p.add (aF (n:Int) *4)).add 3) t.s.v λw4=>kept bs w3 w4/\K w4:=by
 rw [Int.toNat_natCast]
 have Yz:i<L.length:=(nY.1 hi).1
 have Ku:j<rs.length:=(nY.1 hj).1
 have gs:∀{L':List En} (e:En),L'.length=L.length->(L'.set i e)[i]? =some e:=λ{L'} e hl=>by rw [vw (by omega)]
 have gr:∀(Vj:List mD) (x:mD),Vj.length=rs.length->(Vj.set j x)[j]? =some x:=λVj x hl=>by rw [vw (by omega)]
 have hg:∀{b:Nat},En.g b∈L->∀(Vj:List mD),En.g b∈L.set i (.rows Vj):=λ{b} hb Vj=>by
  obtain ⟨k,hk⟩:=O2.1 hb
  by_cases Ug:i=k
  .subst Ug
   exfalso
   rw [hi] at hk
   have hP:(En.rows rs).P w:=H.get i hi
   have e1:En.rows rs=En.g b:=Option.some.inj hk
   have FD:(En.rows rs).fp=[b]:=by rw [e1];rfl
   have fA:b∈(En.rows rs).fp:=by rw [FD];simp
   have jx:rs≠[]:=by rintro rfl;simp at Ku
   refine I3 rs jx w b fA ?_
   rw [e1]
   show b<_
   simp
  .exact O2.2 ⟨k,by rw [List.getElem?_set_ne Ug];exact hk⟩
 have OB:=H.MP (bs:=bs) i j (n *4) 0 (v:=.int .i64 t.k) (K:=λw1=>cY w1 ((p.add (n *4)).add 1) (.int .u8 (t.lo.toNat:Int)) λw2=>kept bs w1 w2/\cY w2 ((p.add (n *4)).add 2) (.int .u8 (t.hi.toNat:Int)) λw3=>kept bs w2 w3/\cY w3 ((p.add (n *4)).add 3) t.s.v λw4=>kept bs w3 w4/\K w4) hi hj hp (by simp [hn]) ?_ kS
 .rw [xS] at OB
  exact OB
 intro w1 H1
 rw [AR vs z4 (n *4) 0 _ hn] at H1
 refine H1.MP (bs:=bs) i j (n *4) 1 (gs _ rfl) (gr _ _ rfl) hp (by simp [hn]) ?_ (λb hb=>hg (kS b hb) _)
 intro w2 H2
 rw [AR vs _ (n *4) 1 _ hn,List.set_set,List.set_set] at H2
 refine H2.MP (bs:=bs) i j (n *4) 2 (gs _ rfl) (gr _ _ rfl) hp (by simp [hn]) ?_ (λb hb=>hg (kS b hb) _)
 intro w3 H3
 rw [AR vs _ (n *4) 2 _ hn,List.set_set,List.set_set] at H3
 refine H3.MP (bs:=bs) i j (n *4) 3 (gs _ rfl) (gr _ _ rfl) hp (by simp [hn]) ?_ (λb hb=>hg (kS b hb) _)
 intro w4 H4
 rw [AR vs _ (n *4) 3 _ hn,List.set_set,List.set_set] at H4
 exact hK w4 H4
def _root_.Go.W.LH.Re (H:LH M w0 w L D) (i:Nat) {sl:Sl} {fs:List FM} {f:FM} {p:Addr} (hi:L[i]? =some (.row c9 10 sl ((fs++[f]).flatMap FM.c))) (hp:sl.a=some p):
  w.cell? (((p.add (fs.length *10)).add 6).add 0)=some (.int .i64 f.la.k)/\w.cell? (((p.add (fs.length *10)).add 6).add 1)=some (.int .u8 (f.la.lo.toNat:Int))/\w.cell? (((p.add (fs.length *10)).add 6).add 2)=some (.int .u8 (f.la.hi.toNat:Int))/\w.cell? (((p.add (fs.length *10)).add 6).add 3)=some f.la.s.v:=by
 refine ⟨?_,?_,?_,?_⟩
 .rw [xS];exact H.Ca i hi hp 6
 .rw [add_add];exact H.Ca i hi hp 7
 .rw [add_add];exact H.Ca i hi hp 8
 .rw [add_add];exact H.Ca i hi hp 9
end
def DJ:Nat->Rx->Rx
 |0,r=>r
 |n+1,r=>DJ n (.mk 6 0 0 [r])
def iY (f:FX):FX:=⟨f.k,f.ar,f.al,f.an,f.ca++[DJ f.n f.la],0,f.la⟩
def DZ {w:aA} {rb:Nat} {f0:Addr} {lo:List FX} {tp:FX} {st wd:Int} {own:List Nat} {ts:List Rt} (h:St w rb f0 lo tp st wd own ts) (hn:tp.n<=1000000) (hc:tp.ca.length<=1000000):
  aH aB jE #[.pointer (some f0)] w λr w'=>r=aJ (.tuple #[])/\uA w own ts rb f0 lo (iY tp) st wd (λ_=>True) w':=by
 obtain ⟨sl,fs,f,p,rfl,rfl,h3,h4,rfl,h6,h7,h8,h9,yo⟩:=h
 have H:=St.uW h6 h7 h8 h9 yo
 have Mb:f.la∈ts:=h3 f (by simp) _ (by simp [FM.ts])
 have Ek:f.ca.2.length<=1000000:=by
  have:f.x.ca.length=f.ca.2.length:=by show (Rt.cR f.ca.2).length=_;rw [Rt.fX];simp
  omega
 have loop:∀(m:Nat) (r:Rt) (nj:List Rt) (b2:Nat) (w1:aA),m<=1000000->(∀t∈ts,t∈nj)->(∀b∈Rt.iD nj,b∈Rt.iD ts\/b∈own\/w.heap.size<=b)->r∈nj->DJ m r.rx=DJ f.n f.la.rx->
   LH (·∈own) w w1 (SL rb sl st wd ((fs++[(⟨f.k,f.ar,f.al,f.an,f.ca,m,f.la⟩:FM)]).flatMap FM.c) ((fs++[f]).flatMap FM.rows)++[.g b2]) [.trees nj]->
   regex_frame_endItem.fO (p.add (fs.length *10)) b2 r.k r.lo.toNat r.hi.toNat r.s w1 λr w'=>r=aJ (.tuple #[])/\uA w own ts rb (p.add (fs.length *10)) (fs.map FM.x) (iY f.x) st wd (λ_=>True) w':=by
  intro m
  induction m with
  |zero=>
   intro r nj b2 w1 _ Dp BX hr he H1
   refine regex_frame_endItem.bT _ _ _ _ _ _ _ _ ⟨0,H1.Ca 1 rfl h4 5,aX rfl (H1.bH λw2 H2=>⟨_,H2.Ca 1 rfl h4 4,?_⟩)⟩
   have jc:((fs++[f]).flatMap FM.rows)[fs.length *4+3]? =some (f.ca.1,f.ca.2.flatMap Rt.c):=qv fs f 3 _ rfl
   have nr:f.ca.1.n=f.ca.2.length:=by
    have hp:(En.rows ((fs++[f]).flatMap FM.rows)).P w2:=H2.get 2
    exact Rt.cX (hp.1 _ (dI jc)).jG
   refine H2.ko (e:=aL) (sz:=4) (n:=1) (cs:=z4) rfl (by decide) λw3 H3=>⟨H3.Ca 1 rfl h4 4,?_⟩
   refine H3.Ls (bs:=[b2]) 2 (fs.length *4+3) (src:=⟨some (bO w2.heap.size),1,1⟩) (news:=z4) rfl jc (bD.jG (H3.get 4)) (by simp [Value.oneCell']) (by show (f.ca.1.n+1) *40<=_;omega) (λs' w4 H4 zp wG=>⟨by omega,by rw [zp];show ((f.ca.1.n:Nat):Int)<((f.ca.1.n+1:Nat):Int);omega,?_⟩)
   obtain ⟨q,hq⟩:∃q,s'.a=some q:=by
    cases hs:s'.a with
    |none=>have:=(wG hs).2;simp at this
    |some q=>exact ⟨q,rfl⟩
   rw [hq]
   have Ku:fs.length *4+3<((fs++[f]).flatMap FM.rows).length:=by rw [rI];simp;omega
   have H5:LH (·∈own) w w4 (SL rb sl st wd ((fs++[(⟨f.k,f.ar,f.al,f.an,f.ca,0,f.la⟩:FM)]).flatMap FM.c) (((fs++[f]).flatMap FM.rows).set (fs.length *4+3) (s',f.ca.2.flatMap Rt.c++z4))++[.g b2]) [.trees nj]:=H4.take 4
   have fin:∀{w':aA},LH (·∈own) w w' (SL rb sl st wd ((fs++[(⟨f.k,f.ar,f.al,f.an,(s',f.ca.2++[r]),0,f.la⟩:FM)]).flatMap FM.c) (((fs++[f]).flatMap FM.rows).set (fs.length *4+3) (s',f.ca.2.flatMap Rt.c++r.c))++[.g b2]) [.trees nj]->
     (Ending.returned (.tuple #[])=aJ (.tuple #[])/\uA w own ts rb (p.add (fs.length *10)) (fs.map FM.x) (iY f.x) st wd (λ_=>True) w'):=λ{w'} H'=>by
    refine ⟨rfl,?_⟩
    have e1:((fs++[f]).flatMap FM.rows).set (fs.length *4+3) (s',f.ca.2.flatMap Rt.c++r.c)=(fs++[(⟨f.k,f.ar,f.al,f.an,(s',f.ca.2++[r]),0,f.la⟩:FM)]).flatMap FM.rows:=by
     rw [Cz fs f 3 _ (by omega),rS]
     congr 1
     simp [FM.rows]
    rw [e1] at H'
    have:=St.of (ts:=ts) (A:=λ_=>True) (f0:=p.add (fs.length *10)) (H'.take 3) 0 rfl (λg hg t ht=>?_) h4 rfl BX Dp trivial
    .have e2:(FM.x ⟨f.k,f.ar,f.al,f.an,(s',f.ca.2++[r]),0,f.la⟩)=iY f.x:=by
      unfold FM.x iY
      simp only [lJ]
      have:Rt.cR [r]=[DJ f.n f.la.rx]:=by rw [<-he];rfl
      rw [this]
     rw [e2] at this
     exact this
    .rcases gg.1 hg with hg|hg
     .exact Dp t (h3 g (by simp [hg]) t ht)
     .simp at hg;subst hg
      simp only [FM.ts,gg,dT,gL,or_false] at ht
      rcases ht with (((ht|ht)|ht)|(ht|rfl))|rfl
      .exact Dp t (h3 f (by simp) t (by simp [FM.ts,ht]))
      .exact Dp t (h3 f (by simp) t (by simp [FM.ts,ht]))
      .exact Dp t (h3 f (by simp) t (by simp [FM.ts,ht]))
      .exact Dp t (h3 f (by simp) t (by simp [FM.ts,ht]))
      .exact hr
      .exact Dp _ Mb
   refine ⟨?_,?_⟩
   .rw [nr]
    refine H5.Og (bs:=[b2]) 2 (fs.length *4+3) f.ca.2.length r rfl (vw Ku) hq (Rt.kz _) (λw' H6=>?_) (by simp)
    rw [List.set_set] at H6
    exact H6.GM (bs:=[b2]) (f:=⟨f.k,f.ar,f.al,f.an,f.ca,0,f.la⟩) 1 ⟨f.k,f.ar,f.al,f.an,(s',f.ca.2++[r]),0,f.la⟩ 4 rfl h4 (by omega) rfl (λwP H7=>fin H7) (by simp)
   .refine H5.GM (bs:=[b2]) (f:=⟨f.k,f.ar,f.al,f.an,f.ca,0,f.la⟩) 1 ⟨f.k,f.ar,f.al,f.an,(s',f.ca.2++[r]),0,f.la⟩ 4 rfl h4 (by omega) rfl (λw' H6=>?_) (by simp)
    rw [nr]
    refine LH.Og (bs:=[b2]) (L:=SL rb sl st wd ((fs++[(⟨f.k,f.ar,f.al,f.an,(s',f.ca.2++[r]),0,f.la⟩:FM)]).flatMap FM.c) (((fs++[f]).flatMap FM.rows).set (fs.length *4+3) (s',f.ca.2.flatMap Rt.c++z4))++[.g b2]) H6 2 (fs.length *4+3) f.ca.2.length r rfl (vw Ku) hq (Rt.kz _) (λwP H7=>?_) (by simp)
    rw [List.set_set] at H7
    exact fin H7
  |succ m ih=>
   intro r nj b2 w1 hm Dp BX hr he H1
   refine regex_frame_endItem.bT _ _ _ _ _ _ _ _ ⟨((m+1:Nat):Int),H1.Ca 1 rfl h4 5,bF (aO (by omega)) ?_⟩
   refine H1.ko (e:=aL) (sz:=4) (n:=1) (cs:=r.c) rfl (by decide) λw2 H2=>H2.bH (bs:=[b2]) (λw3 H3=>⟨_,H3.Ca 1 rfl h4 5,?_⟩) (by simp)
   have e:aC .i64 (((m+1:Nat):Int) - 1)=(m:Int):=by rw [aS _ (by omega)];omega
   show cY w3 _ (.int .i64 (aC .i64 (((m+1:Nat):Int) - 1))) _
   rw [e]
   refine H3.GM (bs:=[b2]) (f:=⟨f.k,f.ar,f.al,f.an,f.ca,m+1,f.la⟩) 1 ⟨f.k,f.ar,f.al,f.an,f.ca,m,f.la⟩ 5 rfl h4 (by omega) rfl (λw4 H4=>?_) (by simp)
   have H5:=H4.freeze 4 (Rt.row ⟨some (bO w1.heap.size),1,1⟩ [r]) rfl (by show lN 4 w4 _ ([r].flatMap Rt.c);rw [show [r].flatMap Rt.c=r.c by simp];exact bD.jG (H4.get 4)) (λb hb=>gP (e:=aL) (vs:=[r].flatMap Rt.c) hb)
   have H6:=H5.node 0 6 0 0 (s:=⟨some (bO w1.heap.size),1,1⟩) (ks:=[r]) rfl (by simp) (λt ht=>by simp at ht;subst ht;exact hr)
   refine ih (.mk 6 0 0 ⟨some (bO w1.heap.size),1,1⟩ [r]) _ b2 w4 (by omega) (λt ht=>by simp [Dp t ht]) (λb hb=>?_) (by simp) he H6
   obtain ⟨t,ht,BY⟩:=Rt.bU.1 hb
   rcases gg.1 ht with ht|ht
   .exact BX b (Rt.bU.2 ⟨t,ht,BY⟩)
   .simp at ht
    rw [ht] at BY
    rcases Rt.fJ.1 BY with h|h
    .have:=gP (e:=aL) h
     simp [En.row,bQ,Rt.s] at this
     subst this
     exact .inr (.inr H1.fr.size)
    .obtain ⟨t',ph,fA⟩:=Rt.bU.1 h
     simp [Rt.l] at ph
     rw [ph] at fA
     exact BX b (Rt.bU.2 ⟨r,hr,fA⟩)
 obtain ⟨c0,c1,c2,c3⟩:=H.Re 1 rfl h4
 have zp:f.n<=1000000:=hn
 refine regex_frame_endItem.dQ _ w _ ⟨_,_,_,_,c0,c1,c2,c3,H.cC (λb2 w1 H1=>H1.bH (λw2 H2=>?_) (by simp)) (by simp)⟩
 exact loop f.n f.la ts b2 w2 zp (λ_ h=>h) (λb hb=>.inl hb) Mb rfl H2
def FM.fS (f:FM) (j:Nat):Sl×List Rt:=if j=1 then f.ar else if j=2 then f.al else if j=3 then f.an else f.ca
def FM.put (f:FM) (j:Nat) (x:Sl×List Rt):FM:=⟨f.k,if j=1 then x else f.ar,if j=2 then x else f.al,if j=3 then x else f.an,if j=4 then x else f.ca,f.n,f.la⟩
def sY {j:Nat} (h1:1<=j) (h4:j<=4) {p:Nat->Prop} (a1:p 1) (a2:p 2) (a3:p 3) (a4:p 4):p j:=by
 have:j=1\/j=2\/j=3\/j=4:=by omega
 rcases this with rfl|rfl|rfl|rfl<;>assumption
def Wb (f:FM) {j:Nat} (h1:1<=j) (h4:j<=4):f.c[j]? =some (f.fS j).1.v:=sY (p:=λj=>f.c[j]? =some (f.fS j).1.v) h1 h4 rfl rfl rfl rfl
def D7 (f:FM) {j:Nat} (h1:1<=j) (h4:j<=4):f.rows[j - 1]? =some ((f.fS j).1,(f.fS j).2.flatMap Rt.c):=sY (p:=λj=>f.rows[j - 1]? =some ((f.fS j).1,(f.fS j).2.flatMap Rt.c)) h1 h4 rfl rfl rfl rfl
def IU (f:FM) (x:Sl×List Rt) {j:Nat} (h1:1<=j) (h4:j<=4):f.c.set j x.1.v=(f.put j x).c:=sY (p:=λj=>f.c.set j x.1.v=(f.put j x).c) h1 h4 rfl rfl rfl rfl
def abj (f:FM) (x:Sl×List Rt) {j:Nat} (h1:1<=j) (h4:j<=4):f.rows.set (j - 1) (x.1,x.2.flatMap Rt.c)=(f.put j x).rows:=sY (p:=λj=>f.rows.set (j - 1) (x.1,x.2.flatMap Rt.c)=(f.put j x).rows) h1 h4 rfl rfl rfl rfl
def Gd (f:FM) (x:Sl×List Rt) {j:Nat} (h1:1<=j) (h4:j<=4) {t:Rt} (ht:t∈(f.put j x).ts):t∈f.ts\/t∈x.2:=by
 refine sY (p:=λj=>t∈(f.put j x).ts->t∈f.ts\/t∈x.2) h1 h4 ?_ ?_ ?_ ?_ ht<;>
 .intro ht
  simp [FM.put,FM.ts] at ht ⊢
  rcases ht with h|h|h|h|h<;>simp [h]
def tF (f:FM) (j:Nat) {t:Rt} (ht:t∈(f.fS j).2):t∈f.ts:=by
 unfold FM.fS at ht
 unfold FM.ts
 split at ht
 .simp [ht]
 .split at ht
  .simp [ht]
  .split at ht
   .simp [ht]
   .simp [ht]
def U6 (f:FM) (x:Sl×List Rt) {j i:Nat} (Dn:i≠j) (hi:1<=i) (hi4:i<=4):(f.put j x).fS i=f.fS i:=by
 have:i=1\/i=2\/i=3\/i=4:=by omega
 unfold FM.put FM.fS
 rcases this with rfl|rfl|rfl|rfl
 .simp;intro h;omega
 .simp;intro h;omega
 .simp;intro h;omega
 .simp;intro h;omega
section
variable {w0 w:aA} {own:List Nat} {rb:Nat} {sl:Sl} {st wd:Int} {fs:List FM} {f:FM} {ts:List Rt} {p:Addr}
abbrev FS (own:List Nat) (w0 w:aA) (rb:Nat) (sl:Sl) (st wd:Int) (fs:List FM) (f:FM) (rs:List mD) (ts:List Rt):Prop:=LH (·∈own) w0 w (SL rb sl st wd ((fs++[f]).flatMap FM.c) rs) [.trees ts]
def vS (fs:List FM) (f:FM) (x:Sl×List Rt) {j:Nat} (h1:1<=j) (h4:j<=4):((fs++[f]).flatMap FM.rows).set (fs.length *4+(j - 1)) (x.1,x.2.flatMap Rt.c)=(fs++[f.put j x]).flatMap FM.rows:=by
 rw [Cz fs f (j - 1) _ (by omega),abj f x h1 h4,rS]
 simp
def IP (H:FS own w0 w rb sl st wd fs f ((fs++[f]).flatMap FM.rows) ts) (hp:sl.a=some p) (d:Nat) (HO:1<=d) (HP:d<=4) (t:Rt) (hb:(f.fS d).2.length<=1000000) {w1:aA} {src:Sl} (H1:LH (·∈own) w0 w1 (SL rb sl st wd ((fs++[f]).flatMap FM.c) ((fs++[f]).flatMap FM.rows)++[.row aL 4 src z4]) [.trees ts]) (WA:src.n=1) {K:aA->Prop}
  (hK:∀s' w',FS own w0 w' rb sl st wd fs (f.put d (s',(f.fS d).2++[t])) ((fs++[f.put d (s',(f.fS d).2++[t])]).flatMap FM.rows) ts->K w'):
  ∃(t15:Sl) (w5:aA),(Builtin.append_ #[aU,aU] aU #[(f.fS d).1.v,src.v]).run aB w1=.ok (t15.v) w5/\(0:Int)<=(((f.fS d).1.n:Nat):Int)/\(((f.fS d).1.n:Nat):Int)<((t15.n:Nat):Int)/\gT t15.a λq=>((cY w5 (q.add (aF (((f.fS d).1.n:Nat):Int) *4)) (.int .i64 t.k) λw6=>cY w6 ((q.add (aF (((f.fS d).1.n:Nat):Int) *4)).add 1) (.int .u8 (t.lo.toNat:Int)) λw7=>cY w7 ((q.add (aF (((f.fS d).1.n:Nat):Int) *4)).add 2) (.int .u8 (t.hi.toNat:Int)) λw8=>cY w8 ((q.add (aF (((f.fS d).1.n:Nat):Int) *4)).add 3) t.s.v λw9=>cY w9 ((p.add (fs.length *10)).add d) t15.v K)/\
   (cY w5 ((p.add (fs.length *10)).add d) t15.v λyY=>cY yY (q.add (aF (((f.fS d).1.n:Nat):Int) *4)) (.int .i64 t.k) λw6=>cY w6 ((q.add (aF (((f.fS d).1.n:Nat):Int) *4)).add 1) (.int .u8 (t.lo.toNat:Int)) λw7=>cY w7 ((q.add (aF (((f.fS d).1.n:Nat):Int) *4)).add 2) (.int .u8 (t.hi.toNat:Int)) λw8=>cY w8 ((q.add (aF (((f.fS d).1.n:Nat):Int) *4)).add 3) t.s.v K)):=by
 have jc:((fs++[f]).flatMap FM.rows)[fs.length *4+(d - 1)]? =some ((f.fS d).1,(f.fS d).2.flatMap Rt.c):=qv fs f (d - 1) _ (D7 f HO HP)
 have nr:(f.fS d).1.n=(f.fS d).2.length:=by
  have hp:(En.rows ((fs++[f]).flatMap FM.rows)).P w1:=H1.get 2
  exact Rt.cX (hp.1 _ (dI jc)).jG
 obtain ⟨s',w5,h1,_,h3⟩:=H1.Ls (bs:=[]) (ty:=aU) 2 (fs.length *4+(d - 1)) (src:=src) (news:=z4) (K:=λs' w'=>FS own w0 w' rb sl st wd fs f (((fs++[f]).flatMap FM.rows).set (fs.length *4+(d - 1)) (s',(f.fS d).2.flatMap Rt.c++z4)) ts/\s'.n=(f.fS d).1.n+1/\∃q,s'.a=some q) rfl jc (bD.jG (H1.get 3)) (by simp [Value.oneCell']) (by omega) (λs' w4 H4 zp wG=>⟨H4.take 3,by omega,by
  cases hs:s'.a with
  |none=>have:=(wG hs).2;omega
  |some q=>exact ⟨q,rfl⟩⟩) (by simp)
 obtain ⟨H5,hn5,q,hq⟩:=h3
 refine ⟨s',w5,h1,by omega,by omega,?_⟩
 rw [hq]
 have Ku:fs.length *4+(d - 1)<((fs++[f]).flatMap FM.rows).length:=by rw [rI];simp;omega
 have ec:∀(f:FM) (t:Rt) (d:Nat),(f.fS d).2.flatMap Rt.c++t.c=((f.fS d).2++[t]).flatMap Rt.c:=λf t d=>by simp
 rw [nr]
 refine ⟨?_,?_⟩
 .have st:=LH.Og (bs:=[]) (K:=λw9=>cY w9 ((p.add (fs.length *10)).add d) s'.v K) H5 2 (fs.length *4+(d - 1)) (f.fS d).2.length t rfl (vw Ku) hq (Rt.kz _) (λw' H6=>?_) (by simp)
  .exact rj st λ_ h=>rj h.2 λ_ h=>rj h.2 λ_ h=>rj h.2 λ_ h=>h.2
  .rw [List.set_set,ec,vS fs f (s',(f.fS d).2++[t]) HO HP] at H6
   exact Gs (H6.GM (bs:=[]) (f:=f) 1 (f.put d (s',(f.fS d).2++[t])) d rfl hp (by omega) (IU f (s',(f.fS d).2++[t]) HO HP) (λwP H7=>hK s' wP H7) (by simp))
 .refine Gs (H5.GM (bs:=[]) (f:=f) 1 (f.put d (s',(f.fS d).2++[t])) d rfl hp (by omega) (IU f (s',(f.fS d).2++[t]) HO HP) (λw' H6=>?_) (by simp))
  have st:=LH.Og (bs:=[]) (K:=K) (L:=SL rb sl st wd ((fs++[f.put d (s',(f.fS d).2++[t])]).flatMap FM.c) (((fs++[f]).flatMap FM.rows).set (fs.length *4+(d - 1)) (s',(f.fS d).2.flatMap Rt.c++z4))) H6 2 (fs.length *4+(d - 1)) (f.fS d).2.length t rfl (vw Ku) hq (Rt.kz _) (λwP H7=>?_) (by simp)
  .exact rj st λ_ h=>rj h.2 λ_ h=>rj h.2 λ_ h=>rj h.2 λ_ h=>h.2
  .rw [List.set_set,ec,vS fs f (s',(f.fS d).2++[t]) HO HP] at H7
   exact hK s' wP H7
def shift (H:FS own w0 w rb sl st wd fs f ((fs++[f]).flatMap FM.rows) ts) (hp:sl.a=some p) (k:Int) (d s:Nat) (HO:1<=d) (hs:s=d+1) (SZ:s<=4) (hb:(f.fS d).2.length<=1000000) (Dp:∀t∈f.ts,t∈ts) {R:aT}
  (hK:∀s' w',FS own w0 w' rb sl st wd fs ((f.put d (s',(f.fS d).2++[qI k (f.fS s).1 (f.fS s).2])).put s (⟨none,0,0⟩,[])) ((fs++[(f.put d (s',(f.fS d).2++[qI k (f.fS s).1 (f.fS s).2])).put s (⟨none,0,0⟩,[])]).flatMap FM.rows) (ts++[qI k (f.fS s).1 (f.fS s).2])->R (aJ (.tuple #[])) w'):
  wy w λw2=>∃t7:Sl,w2.cell? ((p.add (fs.length *10)).add d)=some (t7.v)/\∃t11:Sl,w2.cell? ((p.add (fs.length *10)).add s)=some (t11.v)/\
   ((aH aB jX #[.i k,t11.v] w2 λr_ w3=>∃CN:Int,∃CO:Int,∃CP:Int,∃CQ:Sl,r_=aJ (.agg #[.i CN,.int .u8 CO,.int .u8 CP,CQ.v])/\
    w3.cell? ((p.add (fs.length *10)).add d)=some (t7.v)/\gi w3 (.cells #[.i 0,.int .u8 0,.int .u8 0,.slice none 0 0] aL) λw4=>
    w4.cell? ((p.add (fs.length *10)).add d)=some (t7.v)/\∃(t15:Sl) (w5:aA),Sem.run aB (Builtin.append_ #[aU,aU] aU #[t7.v,.slice (some (nb w3)) 1 1]) w4=.ok (t15.v) w5/\bY t15 ((t7.n:Nat):Int) λq=>((cY w5 (q.add (aF ((t7.n:Nat):Int) *4)) (.i CN) λw6=>
    cY w6 ((q.add (aF ((t7.n:Nat):Int) *4)).add 1) (.int .u8 CO) λw7=>cY w7 ((q.add (aF ((t7.n:Nat):Int) *4)).add 2) (.int .u8 CP) λw8=>cY w8 ((q.add (aF ((t7.n:Nat):Int) *4)).add 3) (CQ.v) λw9=>
    cY w9 ((p.add (fs.length *10)).add d) (t15.v) λtB=>cY tB ((p.add (fs.length *10)).add s) (.slice none 0 0) λw1=>R (aJ (.tuple #[])) w1)/\
    (cY w5 ((p.add (fs.length *10)).add d) (t15.v) λyY=>cY yY (q.add (aF ((t7.n:Nat):Int) *4)) (.i CN) λAO=>cY AO ((q.add (aF ((t7.n:Nat):Int) *4)).add 1) (.int .u8 CO) λDb=>
    cY Db ((q.add (aF ((t7.n:Nat):Int) *4)).add 2) (.int .u8 CP) λLk=>cY Lk ((q.add (aF ((t7.n:Nat):Int) *4)).add 3) (CQ.v) λGO=>cY GO ((p.add (fs.length *10)).add s) (.slice none 0 0) λw1=>R (aJ (.tuple #[])) w1)))/\
   (gi w2 (.cells #[.i 0,.int .u8 0,.int .u8 0,.slice none 0 0] aL) λSE=>SE.cell? ((p.add (fs.length *10)).add s)=some (t11.v)/\SE.cell? ((p.add (fs.length *10)).add d)=some (t7.v)/\
    aH aB jX #[.i k,t11.v] SE λr_ Te=>∃CN:Int,∃CO:Int,∃CP:Int,∃CQ:Sl,r_=aJ (.agg #[.i CN,.int .u8 CO,.int .u8 CP,CQ.v])/\
    Te.cell? ((p.add (fs.length *10)).add d)=some (t7.v)/\∃(t15:Sl) (w5:aA),Sem.run aB (Builtin.append_ #[aU,aU] aU #[t7.v,.slice (some (nb w2)) 1 1]) Te=.ok (t15.v) w5/\bY t15 ((t7.n:Nat):Int) λq=>((cY w5 (q.add (aF ((t7.n:Nat):Int) *4)) (.i CN) λw6=>
    cY w6 ((q.add (aF ((t7.n:Nat):Int) *4)).add 1) (.int .u8 CO) λw7=>cY w7 ((q.add (aF ((t7.n:Nat):Int) *4)).add 2) (.int .u8 CP) λw8=>cY w8 ((q.add (aF ((t7.n:Nat):Int) *4)).add 3) (CQ.v) λw9=>
    cY w9 ((p.add (fs.length *10)).add d) (t15.v) λtB=>cY tB ((p.add (fs.length *10)).add s) (.slice none 0 0) λw1=>R (aJ (.tuple #[])) w1)/\
    (cY w5 ((p.add (fs.length *10)).add d) (t15.v) λyY=>cY yY (q.add (aF ((t7.n:Nat):Int) *4)) (.i CN) λAO=>cY AO ((q.add (aF ((t7.n:Nat):Int) *4)).add 1) (.int .u8 CO) λDb=>
    cY Db ((q.add (aF ((t7.n:Nat):Int) *4)).add 2) (.int .u8 CP) λLk=>cY Lk ((q.add (aF ((t7.n:Nat):Int) *4)).add 3) (CQ.v) λGO=>cY GO ((p.add (fs.length *10)).add s) (.slice none 0 0) λw1=>R (aJ (.tuple #[])) w1)))):=by
 subst hs
 have zq:1<=d+1:=by omega
 have HP:d<=4:=by omega
 have jc:((fs++[f]).flatMap FM.rows)[fs.length *4+(d+1 - 1)]? =some ((f.fS (d+1)).1,(f.fS (d+1)).2.flatMap Rt.c):=qv fs f (d+1 - 1) _ (D7 f zq SZ)
 have rd:∀{w':aA} {G:List En},LH (·∈own) w0 w' (SL rb sl st wd ((fs++[f]).flatMap FM.c) ((fs++[f]).flatMap FM.rows)++G) [.trees ts]->lN 4 w' (f.fS (d+1)).1 ((f.fS (d+1)).2.flatMap Rt.c):=λH'=>by
  have hP:(En.rows ((fs++[f]).flatMap FM.rows)).P _:=H'.get 2
  exact (hP.1 _ (dI jc)).jG
 have fin:∀s' w',FS own w0 w' rb sl st wd fs (f.put d (s',(f.fS d).2++[qI k (f.fS (d+1)).1 (f.fS (d+1)).2])) ((fs++[f.put d (s',(f.fS d).2++[qI k (f.fS (d+1)).1 (f.fS (d+1)).2])]).flatMap FM.rows) ts->
   cY w' ((p.add (fs.length *10)).add (d+1)) (.slice none 0 0) λw1=>R (aJ (.tuple #[])) w1:=λs' w' H'=>by
  have hc:(f.put d (s',(f.fS d).2++[qI k (f.fS (d+1)).1 (f.fS (d+1)).2])).fS (d+1)=f.fS (d+1):=U6 f _ (by omega) zq SZ
  refine Gs (H'.GM (bs:=[]) 1 ((f.put d (s',(f.fS d).2++[qI k (f.fS (d+1)).1 (f.fS (d+1)).2])).put (d+1) (⟨none,0,0⟩,[])) (d+1) rfl hp (by omega) (IU _ (⟨none,0,0⟩,[]) zq SZ) (λw1 H1=>hK s' w1 ?_) (by simp))
  have Wz:=qv fs (f.put d (s',(f.fS d).2++[qI k (f.fS (d+1)).1 (f.fS (d+1)).2])) (d+1 - 1) _ (D7 _ zq SZ)
  rw [hc] at Wz
  have H2:=H1.Fz 2 (fs.length *4+(d+1 - 1)) rfl Wz
  have H3:=H2.Mw 0 k (s:=(f.fS (d+1)).1) (ks:=(f.fS (d+1)).2) rfl (by simp) λt ht=>Dp t (tF f _ ht)
  have e:=vS fs (f.put d (s',(f.fS d).2++[qI k (f.fS (d+1)).1 (f.fS (d+1)).2])) (⟨none,0,0⟩,[]) zq SZ
  have e':(([]:List Rt).flatMap Rt.c)=[]:=rfl
  rw [e'] at e
  simp only at e
  rw [<-e]
  exact H3
 have c7:∀{w':aA} {G:List En},LH (·∈own) w0 w' (SL rb sl st wd ((fs++[f]).flatMap FM.c) ((fs++[f]).flatMap FM.rows)++G) [.trees ts]->w'.cell? ((p.add (fs.length *10)).add d)=some ((f.fS d).1.v):=λH'=>H'.Ca 1 rfl hp d (Wb f HO HP)
 have c11:∀{w':aA} {G:List En},LH (·∈own) w0 w' (SL rb sl st wd ((fs++[f]).flatMap FM.c) ((fs++[f]).flatMap FM.rows)++G) [.trees ts]->w'.cell? ((p.add (fs.length *10)).add (d+1))=some ((f.fS (d+1)).1.v):=λH'=>H'.Ca 1 rfl hp (d+1) (Wb f zq SZ)
 refine H.dr λw2 H2=>⟨_,c7 (G:=[]) H2,_,c11 (G:=[]) H2,?_,H2.ko (e:=aL) (sz:=4) (n:=1) (cs:=z4) rfl (by decide) λw3 H3=>⟨c11 H3,c7 H3,?_⟩⟩
 .refine H2.call (Ka k _ _ w2 (rd (G:=[]) H2)) ?_
  rintro _ w3 rfl H3
  refine ⟨_,_,_,_,rfl,c7 (G:=[]) H3,H3.ko (e:=aL) (sz:=4) (n:=1) (cs:=z4) rfl (by decide) λw4 H4=>⟨c7 H4,?_⟩⟩
  exact IP H hp d HO HP (qI k (f.fS (d+1)).1 (f.fS (d+1)).2) hb (src:=⟨some (bO w3.heap.size),1,1⟩) H4 rfl fin
 .refine H3.call (Ka k _ _ w3 (rd H3)) ?_
  rintro _ w4 rfl H4
  refine ⟨_,_,_,_,rfl,c7 H4,?_⟩
  exact IP H hp d HO HP (qI k (f.fS (d+1)).1 (f.fS (d+1)).2) hb (src:=⟨some (bO w2.heap.size),1,1⟩) H4 rfl fin
end
def E1 (w:aA) (own:List Nat) (ts:List Rt) (rb:Nat) (Q:cD->Addr->List FX->FX->Int->Int->List Rt->Prop):aT:=λr w'=>∃Dz xN AM eU uM,uA w own ts rb Dz xN AM eU uM (Q r Dz xN AM eU uM) w'
section
variable {M:Nat->Prop} {w0 w:aA} {L D:List En} {bs:List Nat}
def _root_.Go.W.LH.cs (H:LH M w0 w L D) (i:Nat) {rb:Nat} {f0:Addr} {lo:List FX} {tp:FX} {st wd:Int} {own:List Nat} {ts:List Rt} {g:FuncId} {args:Array aD} {K:aT} {Q:cD->Addr->List FX->FX->Int->Int->List Rt->Prop} (hi:L[i]? =some (.stt rb f0 lo tp st wd own ts))
  (hc:St w rb f0 lo tp st wd own ts->aH aB g args w (E1 w own ts rb Q))
  (hk:∀r w' Dz xN AM eU uM fF nj,(∀t∈ts,t∈nj)->Q r Dz xN AM eU uM nj->LH M w0 w' (L.set i (.stt rb Dz xN AM eU uM fF nj)) D->K r w') (kS:∀b∈bs,En.g b∈L:=by simp):fZ bs aB g args w K:=by
 refine ⟨(·∈own),λb hb hm=>?_,(hc (H.get i hi)).mono ?_⟩
 .exact lW H hi (Vu _ _ _ _ _ _ _ _ w) (kS b hb) (aV.2 (qy _ hm))
 .rintro r w' ⟨Dz,xN,AM,eU,uM,fF,nj,s',f,o,b,t,q⟩
  refine ⟨f,hk r w' Dz xN AM eU uM fF nj t q (H.CX i _ hi (f.mono λx _ hx=>aV.2 (qy _ hx)) s' λx hx=>?_)⟩
  rcases gg.1 (aV.1 hx) with hx|hx
  .exact (o x hx).imp (λh=>aV.2 (qy _ h)) id
  .rcases b x hx with h|h|h
   .exact .inl (aV.2 (wL _ h))
   .exact .inl (aV.2 (qy _ h))
   .exact .inr h
end
def mj (f:FX):FX:=⟨f.k,f.ar,f.al,f.an++[F9 3 (iY f).ca],[],0,f.la⟩
def jS (f:FX):FX:=⟨f.k,f.ar,f.al++[F9 5 (mj f).an],[],[],0,f.la⟩
def BI (f:FX):FX:=⟨f.k,f.ar,[],[],[],0,f.la⟩
def jH (f:FX):Rx:=F9 4 (jS f).al
def vF {w0:aA} {M:Nat->Prop} {w:aA} {own:List Nat} {ts ts0:List Rt} {k:Int} {s:Sl} {ks:List Rt} (hb:∀b∈Rt.iD ts,b∈Rt.iD ts0\/b∈own\/w.heap.size<=b) (hs:∀b∈bQ s,b∈own\/w.heap.size<=b) (hk:∀t∈ks,t∈ts):∀b∈Rt.iD (ts++[qI k s ks]),b∈Rt.iD ts0\/b∈own\/w.heap.size<=b:=λb fA=>by
 obtain ⟨t,ht,BY⟩:=Rt.bU.1 fA
 rcases gg.1 ht with ht|ht
 .exact hb b (Rt.bU.2 ⟨t,ht,BY⟩)
 .simp at ht
  rw [ht] at BY
  rcases UY BY with h|h
  .exact .inr (hs b (gP (e:=aL) h))
  .obtain ⟨t',ph,FB⟩:=Rt.bU.1 h
   exact hb b (Rt.bU.2 ⟨t',hk t' ph,FB⟩)
def MM {own:List Nat} {w0 w:aA} {rb:Nat} {sl:Sl} {st wd:Int} {fs:List FM} {f:FM} {ts:List Rt} (H:FS own w0 w rb sl st wd fs f ((fs++[f]).flatMap FM.rows) ts) {j:Nat} (h1:1<=j) (h4:j<=4):∀b∈bQ (f.fS j).1,b∈own\/w0.heap.size<=b:=λb hb=>by
 have jc:=qv fs f (j - 1) _ (D7 f h1 h4)
 exact (H.new (.rows ((fs++[f]).flatMap FM.rows)) (by simp) b (aV.2 (nG.2 ⟨_,dI jc,hb⟩))).symm
def I9 {fs:List FM} {f:FM} {ts:List Rt} {k:Int} {d s:Nat} {s':Sl} (h3:∀g∈fs++[f],∀t∈g.ts,t∈ts) (HO:1<=d) (HP:d<=4) (zq:1<=s) (SZ:s<=4):∀g∈fs++[(f.put d (s',(f.fS d).2++[qI k (f.fS s).1 (f.fS s).2])).put s (⟨none,0,0⟩,[])],∀t∈g.ts,t∈ts++[qI k (f.fS s).1 (f.fS s).2]:=by
 intro g hg t ht
 rcases gg.1 hg with hg|hg
 .exact qy _ (h3 g (by simp [hg]) t ht)
 .simp at hg;subst hg
  rcases Gd _ _ zq SZ ht with h|h
  .rcases Gd _ _ HO HP h with h|h
   .exact qy _ (h3 f (by simp) t h)
   .rcases gg.1 h with h|h
    .exact qy _ (h3 f (by simp) t (tF f d h))
    .exact wL _ h
  .cases h
def Hf {w:aA} {rb:Nat} {f0:Addr} {lo:List FX} {tp:FX} {st wd:Int} {own:List Nat} {ts:List Rt} (h:St w rb f0 lo tp st wd own ts) (hn:tp.n<=1000000) (hc:tp.ca.length<=1000000) (ha:tp.an.length<=1000000):
  aH aB jW #[.pointer (some f0)] w λr w'=>r=aJ (.tuple #[])/\uA w own ts rb f0 lo (mj tp) st wd (λ_=>True) w':=by
 refine regex_frame_endSeq.ok _ w _ ((DZ h hn hc).mono ?_)
 rintro _ w1 ⟨rfl,oo,ZL,⟨sl,fs,f,p,rfl,hx,h3,h4,rfl,h6,h7,h8,h9,yo⟩,f1,o1,b1,t1,_⟩
 refine ⟨rfl,?_⟩
 have H:=St.uW h6 h7 h8 h9 yo
 have hal:(f.fS 3).2.length<=1000000:=by
  have e:f.x.an.length=f.an.2.length:=by show (Rt.cR f.an.2).length=_;rw [Rt.fX];simp
  have e2:f.x.an=tp.an:=by rw [hx];rfl
  show f.an.2.length<=_
  rw [<-e,e2];exact ha
 refine shift (R:=λr w'=>r=aJ (.tuple #[])/\uA w own ts rb (p.add (fs.length *10)) (fs.map FM.x) (mj tp) st wd (λ_=>True) w') H h4 3 3 4 (by omega) rfl (by omega) hal (λt ht=>h3 f (by simp) t ht) λs' w' H'=>⟨rfl,uA.then f1 o1 b1 t1 ?_⟩
 have:=St.of (ts:=ZL) (A:=λ_=>True) (f0:=p.add (fs.length *10)) H' 0 rfl (I9 h3 (by omega) (by omega) (by omega) (by omega)) h4 rfl (vF (w0:=w) (M:=F0) (λb hb=>.inl hb) (MM H (by omega) (by omega)) λt ht=>h3 f (by simp) t (tF f 4 ht)) (λt ht=>qy _ ht) trivial
 have e:((f.put 3 (s',(f.fS 3).2++[qI 3 (f.fS 4).1 (f.fS 4).2])).put 4 (⟨none,0,0⟩,[])).x=mj tp:=by
  have hk:f.x.k=tp.k:=by rw [hx];rfl
  have har:f.x.ar=tp.ar:=by rw [hx];rfl
  have hall:f.x.al=tp.al:=by rw [hx];rfl
  have han:f.x.an=tp.an:=by rw [hx];rfl
  have Ek:f.x.ca=(iY tp).ca:=by rw [hx]
  have YH:f.x.n=0:=by rw [hx];rfl
  have Mb:f.x.la=tp.la:=by rw [hx];rfl
  unfold mj
  rw [<-hk,<-har,<-hall,<-han,<-Ek,<-Mb]
  show FX.mk f.k (f.ar.1,Rt.cR f.ar.2) (Rt.cR f.al.2) (Rt.cR (f.an.2++[qI 3 f.ca.1 f.ca.2])) (Rt.cR []) f.n f.la.rx=_
  have hn0:f.n=0:=YH
  rw [hn0,lJ]
  simp [Rt.cR,FZ,FM.x]
 rw [e] at this
 exact this
def DY {w:aA} {rb:Nat} {f0:Addr} {lo:List FX} {tp:FX} {st wd:Int} {own:List Nat} {ts:List Rt} (h:St w rb f0 lo tp st wd own ts) (hn:tp.n<=1000000) (hc:tp.ca.length<=1000000) (ha:tp.an.length<=1000000) (hl:tp.al.length<=1000000):
  aH aB jD #[.pointer (some f0)] w λr w'=>r=aJ (.tuple #[])/\uA w own ts rb f0 lo (jS tp) st wd (λ_=>True) w':=by
 refine regex_frame_endConj.ok _ w _ ((Hf h hn hc ha).mono ?_)
 rintro _ w1 ⟨rfl,oo,ZL,⟨sl,fs,f,p,rfl,hx,h3,h4,rfl,h6,h7,h8,h9,yo⟩,f1,o1,b1,t1,_⟩
 refine ⟨rfl,?_⟩
 have H:=St.uW h6 h7 h8 h9 yo
 have hal:(f.fS 2).2.length<=1000000:=by
  have e:f.x.al.length=f.al.2.length:=by show (Rt.cR f.al.2).length=_;rw [Rt.fX];simp
  have e2:f.x.al=tp.al:=by rw [hx];rfl
  show f.al.2.length<=_
  rw [<-e,e2];exact hl
 refine shift (R:=λr w'=>r=aJ (.tuple #[])/\uA w own ts rb (p.add (fs.length *10)) (fs.map FM.x) (jS tp) st wd (λ_=>True) w') H h4 5 2 3 (by omega) rfl (by omega) hal (λt ht=>h3 f (by simp) t ht) λs' w' H'=>⟨rfl,uA.then f1 o1 b1 t1 ?_⟩
 have:=St.of (ts:=ZL) (A:=λ_=>True) (f0:=p.add (fs.length *10)) H' 0 rfl (I9 h3 (by omega) (by omega) (by omega) (by omega)) h4 rfl (vF (w0:=w) (M:=F0) (λb hb=>.inl hb) (MM H (by omega) (by omega)) λt ht=>h3 f (by simp) t (tF f 3 ht)) (λt ht=>qy _ ht) trivial
 have e:((f.put 2 (s',(f.fS 2).2++[qI 5 (f.fS 3).1 (f.fS 3).2])).put 3 (⟨none,0,0⟩,[])).x=jS tp:=by
  have hk:f.x.k=tp.k:=by rw [hx];rfl
  have har:f.x.ar=tp.ar:=by rw [hx];rfl
  have hall:f.x.al=tp.al:=by rw [hx];rfl
  have han:f.x.an=(mj tp).an:=by rw [hx]
  have Ek:f.x.ca=[]:=by rw [hx];rfl
  have YH:f.x.n=0:=by rw [hx];rfl
  have Mb:f.x.la=tp.la:=by rw [hx];rfl
  unfold jS
  rw [<-hk,<-har,<-hall,<-han,<-Mb]
  show FX.mk f.k (f.ar.1,Rt.cR f.ar.2) (Rt.cR (f.al.2++[qI 5 f.an.1 f.an.2])) (Rt.cR []) (Rt.cR f.ca.2) f.n f.la.rx=_
  have hn0:f.n=0:=YH
  have hc0:Rt.cR f.ca.2=[]:=Ek
  rw [hn0,hc0,lJ]
  simp [Rt.cR,FZ,FM.x]
 rw [e] at this
 exact this
abbrev SF (M:Nat->Prop) (w0 w:aA) (rb:Nat) (sl:Sl) (st wd:Int) (fs:List FM) (f:FM) (G:List En) (ts:List Rt):Prop:=LH M w0 w (SL rb sl st wd ((fs++[f]).flatMap FM.c) ((fs++[f]).flatMap FM.rows)++G) [.trees ts]
section
variable {M:Nat->Prop} {w0 w:aA} {bs:List Nat} {G:List En} {rb:Nat} {sl:Sl} {st wd:Int} {fs:List FM} {f:FM} {ts:List Rt} {p:Addr}
def abn (H:SF M w0 w rb sl st wd fs f G ts) (h3:∀g∈fs++[f],∀t∈g.ts,t∈ts) (hp:sl.a=some p):
  St w rb (p.add (fs.length *10)) (fs.map FM.x) f.x st wd ((SL rb sl st wd ((fs++[f]).flatMap FM.c) ((fs++[f]).flatMap FM.rows)).flatMap (·.fp)) ts:=by
 have nd:=H.nd
 rw [rS,zH] at nd
 refine ⟨sl,fs,f,p,rfl,rfl,h3,hp,rfl,rfl,nd.1,λe he=>H.own e (qy _ he),H.getD 0,λb hb hm=>?_⟩
 obtain ⟨e,he,tM⟩:=nG.1 hm
 exact H.dj (.trees ts) (by simp) b (aV.2 hb) e (qy _ he) tM
def R8 (H:SF M w0 w rb sl st wd fs f G ts) {w':aA} {Dz:Addr} {xN:List FX} {AM:FX} {eU uM:Int} {fF:List Nat} {nj:List Rt} (s:St w' rb Dz xN AM eU uM fF nj) (fr:Fr (·∈(SL rb sl st wd ((fs++[f]).flatMap FM.c) ((fs++[f]).flatMap FM.rows)).flatMap (·.fp)) w w') (o:∀x∈fF,x∈(SL rb sl st wd ((fs++[f]).flatMap FM.c) ((fs++[f]).flatMap FM.rows)).flatMap (·.fp)\/w.heap.size<=x)
  (hb:∀b∈Rt.iD nj,b∈Rt.iD ts\/b∈(SL rb sl st wd ((fs++[f]).flatMap FM.c) ((fs++[f]).flatMap FM.rows)).flatMap (·.fp)\/w.heap.size<=b):
  ∃(A7:Sl) (wB:List FM) (f':FM) (p':Addr),wB.map FM.x=xN/\f'.x=AM/\(∀g∈wB++[f'],∀t∈g.ts,t∈nj)/\A7.a=some p'/\Dz=p'.add (wB.length *10)/\(∀b∈Rt.iD nj,b∈Rt.iD ts\/w0.heap.size<=b\/M b)/\SF M w0 w' rb A7 eU uM wB f' G nj:=by
 obtain ⟨A7,wB,f',p',h1,h2,h3,h4,h5,h6,h7,h8,h9,yo⟩:=s
 have nd:=H.nd
 rw [rS,zH] at nd
 have KO:∀b∈(SL rb sl st wd ((fs++[f]).flatMap FM.c) ((fs++[f]).flatMap FM.rows)).flatMap (·.fp),w0.heap.size<=b\/M b:=λb hb=>by
  obtain ⟨e,he,tM⟩:=nG.1 hb
  exact H.new e (qy _ he) b tM
 have glt:∀e∈G,∀b∈e.fp,b<w.heap.size:=λe he b hb=>e.lt w (H.own e (wL _ he)) b hb
 have Kp:∀e∈G,∀b∈e.fp,b∉(SL rb sl st wd ((fs++[f]).flatMap FM.c) ((fs++[f]).flatMap FM.rows)).flatMap (·.fp):=λe he b hb hm=>nd.2.2 b hm b (nG.2 ⟨e,he,hb⟩) rfl
 have ni:=H.fr.size
 have RF:∀b∈fF,w0.heap.size<=b\/M b:=λb hb=>(o b hb).elim (KO b) λh=>.inl (Nat.le_trans ni h)
 refine ⟨A7,wB,f',p',h1,h2,h3,h4,h5,λb fA=>?_,H.fr.trans fr λx hx hm=>(KO x hm).resolve_left (by omega),λe he=>?_,λe he=>?_,λe he b fA=>?_,?_,λe he b fA e' lM tM=>?_⟩
 .rcases hb b fA with h|h|h
  .exact .inl h
  .exact .inr (KO b h)
  .exact .inr (.inl (Nat.le_trans ni h))
 .rcases gg.1 he with he|he
  .exact h8 e he
  .exact e.st w w' (λb hb hl=>fr.ic b hl (Kp e he b hb)) (H.own e (wL _ he))
 .simp at he;subst he;exact h9
 .rcases gg.1 he with he|he
  .exact RF b (by rw [h6];exact nG.2 ⟨e,he,fA⟩)
  .exact H.new e (wL _ he) b fA
 .rw [rS,zH]
  refine ⟨h6▸h7,nd.2.1,λx hx y hy hxy=>?_⟩
  subst hxy
  obtain ⟨e,he,tM⟩:=nG.1 hy
  rcases o x (by rw [h6];exact hx) with h|h
  .exact Kp e he x tM h
  .have:=glt e he x tM;omega
 .simp at he;subst he
  have FB:b∈Rt.iD nj:=aV.1 fA
  rcases gg.1 lM with lM|lM
  .exact yo b FB (by rw [h6];exact nG.2 ⟨e',lM,tM⟩)
  .rcases hb b FB with h|h|h
   .exact H.dj (.trees ts) (by simp) b (aV.2 h) e' (wL _ lM) tM
   .exact Kp e' lM b tM h
   .have:=glt e' lM b tM;omega
def _root_.Go.W.LH.OV (H:SF M w0 w rb sl st wd fs f G ts) (h3:∀g∈fs++[f],∀t∈g.ts,t∈ts) (hp:sl.a=some p) {g:FuncId} {args:Array aD} {K:aT} {Q:cD->Addr->List FX->FX->Int->Int->List Rt->Prop}
  (hc:∀own,St w rb (p.add (fs.length *10)) (fs.map FM.x) f.x st wd own ts->aH aB g args w (E1 w own ts rb Q))
  (hk:∀r w' (A7:Sl) (wB:List FM) (f':FM) (p':Addr) (eU uM:Int) (nj:List Rt),(∀t∈ts,t∈nj)->(∀g∈wB++[f'],∀t∈g.ts,t∈nj)->A7.a=some p'->(∀b∈Rt.iD nj,b∈Rt.iD ts\/w0.heap.size<=b\/M b)->Q r (p'.add (wB.length *10)) (wB.map FM.x) f'.x eU uM nj->SF M w0 w' rb A7 eU uM wB f' G nj->K r w')
  (kS:∀b∈bs,En.g b∈G:=by simp):fZ bs aB g args w K:=by
 have nd:=H.nd
 rw [rS,zH] at nd
 refine ⟨(·∈(SL rb sl st wd ((fs++[f]).flatMap FM.c) ((fs++[f]).flatMap FM.rows)).flatMap (·.fp)),λb hb hm=>?_,(hc _ (abn H h3 hp)).mono ?_⟩
 .exact nd.2.2 b hm b (nG.2 ⟨_,kS b hb,by simp [En.g]⟩) rfl
 .rintro r w' ⟨Dz,xN,AM,eU,uM,fF,nj,s,fr,o,b,t,q⟩
  obtain ⟨A7,wB,f',p',rfl,rfl,NN,JH,rfl,fA,H'⟩:=R8 H s fr o b
  exact ⟨fr,hk r w' A7 wB f' p' eU uM nj t NN JH fA q H'⟩
def _root_.Go.W.LH.TM (H:SF M w0 w rb sl st wd fs f G ts) (h3:∀g∈fs++[f],∀t∈g.ts,t∈ts) (hp:sl.a=some p) {g:FuncId} {args:Array aD} {K:aT} {Q:cD->Addr->List FX->FX->Int->Int->List Rt->Prop}
  (hc:∀own,St w rb (p.add (fs.length *10)) (fs.map FM.x) f.x st wd own ts->aH aB g args w (E1 w own ts rb Q))
  (hk:∀r w' (A7:Sl) (wB:List FM) (f':FM) (p':Addr) (eU uM:Int) (nj:List Rt),(∀t∈ts,t∈nj)->(∀g∈wB++[f'],∀t∈g.ts,t∈nj)->A7.a=some p'->(∀b∈Rt.iD nj,b∈Rt.iD ts\/w0.heap.size<=b\/M b)->Q r (p'.add (wB.length *10)) (wB.map FM.x) f'.x eU uM nj->SF M w0 w' rb A7 eU uM wB f' G nj->K r w'):aH aB g args w K:=by
 obtain ⟨_,_,h⟩:=H.OV (bs:=[]) h3 hp hc hk (by simp)
 exact h.mono λr w' h=>h.2
end
def Km (f:FM):f.x.ar.2.length=f.ar.2.length/\f.x.al.length=f.al.2.length/\f.x.an.length=f.an.2.length/\f.x.ca.length=f.ca.2.length:=by
 refine ⟨?_,?_,?_,?_⟩<;>(show (Rt.cR _).length=_;rw [Rt.fX];simp)
def E9 {w:aA} {own:List Nat} {ts:List Rt} {rb:Nat} {f0:Addr} {lo:List FX} {tp:FX} {st wd:Int} {g:FuncId} {args:Array aD} (h:aH aB g args w λr w'=>r=aJ (.tuple #[])/\uA w own ts rb f0 lo tp st wd (λ_=>True) w'):
  aH aB g args w (E1 w own ts rb λr Dz xN AM eU uM _=>r=aJ (.tuple #[])/\Dz=f0/\xN=lo/\AM=tp/\eU=st/\uM=wd):=
 h.mono λr w' ⟨h1,h2⟩=>⟨f0,lo,tp,st,wd,h2.mono λ_ _=>⟨h1,rfl,rfl,rfl,rfl,rfl⟩⟩
structure Small (f:FX) (n:Nat):Prop where
 n':f.n<=n
 ar:f.ar.2.length<=n
 al:f.al.length<=n
 an:f.an.length<=n
 ca:f.ca.length<=n
def vM {w:aA} {rb:Nat} {f0:Addr} {lo:List FX} {tp:FX} {st wd:Int} {own:List Nat} {ts:List Rt} (h:St w rb f0 lo tp st wd own ts) (hs:Small tp 1000000):
  aH aB gl #[.pointer (some f0)] w (E1 w own ts rb λr Dz xN AM eU uM nj=>Dz=f0/\xN=lo/\AM=BI tp/\eU=st/\uM=wd/\∃t∈nj,r=aJ t.v/\t.rx=jH tp):=by
 obtain ⟨sl,fs,f,p,rfl,rfl,h3,h4,rfl,h6,h7,h8,h9,yo⟩:=h
 have H:SF (·∈own) w w rb sl st wd fs f [] ts:=by
  have:=St.uW h6 h7 h8 h9 yo
  show LH _ _ _ (_++[]) _
  rw [uL]
  exact this
 refine regex_frame_endExpr.dQ _ w _ (H.cC (bs:=[]) (λb2 w1 H1=>?_) (by simp))
 refine (show SF (·∈own) w w1 rb sl st wd fs f [.g b2] ts from H1).OV (bs:=[b2]) h3 h4 (λoo s1=>E9 (DY s1 hs.n' hs.ca hs.an hs.al)) ?_ (by simp)
 rintro _ w2 Td BQ f2 p2 my VP GN t2 JF Ys b2' ⟨rfl,SS,tw,kT,rfl,rfl⟩ H2
 rw [<-SS,<-tw]
 have jc:((BQ++[f2]).flatMap FM.rows)[BQ.length *4+(2 - 1)]? =some ((f2.fS 2).1,(f2.fS 2).2.flatMap Rt.c):=qv BQ f2 1 _ (D7 f2 (j:=2) (by omega) (by omega))
 have hrd:lN 4 w2 f2.al.1 (f2.al.2.flatMap Rt.c):=by
  have hP:(En.rows ((BQ++[f2]).flatMap FM.rows)).P w2:=H2.get 2
  exact (hP.1 _ (dI jc)).jG
 refine ⟨rfl,f2.al.1,H2.Ca 1 rfl Ys 2,H2.bC (Ka 4 _ _ w2 hrd) ?_⟩
 rintro _ w3 rfl H3
 refine ⟨_,_,_,_,rfl,H3.cC (bs:=[b2]) (λb3 w4 H4=>H4.bH (bs:=[b2,b3]) (λw5 H5=>?_) (by simp)) (by simp)⟩
 refine H5.GM (bs:=[b2,b3]) (f:=f2) 1 (f2.put 2 (⟨none,0,0⟩,[])) 2 rfl Ys (by omega) rfl (λw6 H6=>H6.bH (bs:=[b2,b3]) (λw7 H7=>?_) (by simp)) (by simp)
 have H8:=H7.Fz 2 (BQ.length *4+(2 - 1)) rfl jc
 have H9:=H8.Mw 0 4 (s:=f2.al.1) (ks:=f2.al.2) rfl (by simp [FM.fS]) λt ht=>JF f2 (by simp) t (tF f2 2 ht)
 have er:=vS BQ f2 (⟨none,0,0⟩,[]) (j:=2) (by omega) (by omega)
 have e':(([]:List Rt).flatMap Rt.c)=[]:=rfl
 rw [e'] at er
 simp only at er
 have qe:LH (·∈own) w w7 (SL rb Td my VP ((BQ++[f2.put 2 (⟨none,0,0⟩,[])]).flatMap FM.c) ((BQ++[f2.put 2 (⟨none,0,0⟩,[])]).flatMap FM.rows)) [.trees (GN++[qI 4 f2.al.1 f2.al.2])]:=by
  rw [<-er]
  exact H9.take 3
 have q5:∀b∈bQ f2.al.1,b∈own\/w.heap.size<=b:=λb hb=>(H2.new (.rows ((BQ++[f2]).flatMap FM.rows)) (by simp) b (aV.2 (nG.2 ⟨_,dI jc,hb⟩))).symm
 have ex:(f2.put 2 (⟨none,0,0⟩,[])).x=BI f.x:=by
  have e1:f2.k=f.k:=by have:=congrArg FX.k kT;exact this
  have e2:(f2.ar.1,Rt.cR f2.ar.2)=f.x.ar:=by have:=congrArg FX.ar kT;exact this
  have e3:Rt.cR f2.an.2=[]:=by have:=congrArg FX.an kT;exact this
  have e4:Rt.cR f2.ca.2=[]:=by have:=congrArg FX.ca kT;exact this
  have e5:f2.n=0:=by have:=congrArg FX.n kT;exact this
  have e6:f2.la.rx=f.x.la:=by have:=congrArg FX.la kT;exact this
  show FX.mk f2.k (f2.ar.1,Rt.cR f2.ar.2) (Rt.cR []) (Rt.cR f2.an.2) (Rt.cR f2.ca.2) f2.n f2.la.rx=_
  rw [e1,e2,e3,e4,e5,e6]
  rfl
 refine ⟨_,_,_,_,_,St.of (ts:=ts) (f0:=p2.add (BQ.length *10)) qe 0 rfl (λg hg t ht=>?_) Ys rfl (vF (w0:=w) (M:=F0) (λb hb=>(b2' b hb).imp id Or.symm) q5 λt ht=>JF f2 (by simp) t (tF f2 2 ht)) (λt ht=>qy _ (t2 t ht)) ⟨rfl,rfl,ex,rfl,rfl,qI 4 f2.al.1 f2.al.2,by simp,rfl,?_⟩⟩
 .rcases gg.1 hg with hg|hg
  .exact qy _ (JF g (by simp [hg]) t ht)
  .simp at hg;subst hg
   rcases Gd _ _ (by omega) (by omega) ht with h|h
   .exact qy _ (JF f2 (by simp) t h)
   .cases h
 .rw [FZ]
  have:=congrArg FX.al kT
  have e:Rt.cR f2.al.2=(jS f.x).al:=this
  rw [e];rfl
def nD {p:Addr} {K:Addr->Prop} (h:K p):gT (some p) K:=h
def aaD:jb aB mz c9 (.agg #[.int .i64 0,.slice none 0 0,.slice none 0 0,.slice none 0 0,.slice none 0 0,.int .i64 0,.int .i64 0,.int .u8 0,.int .u8 0,.slice none 0 0]) 10 152:=⟨by kernel_rfl,by kernel_rfl,rfl,by decide,by decide⟩
section
variable {M:Nat->Prop} {w0 w:aA} {L D:List En} {bs:List Nat} {G:List En} {rb:Nat} {sl:Sl} {st wd:Int} {fs:List FM} {f:FM} {ts:List Rt} {p:Addr}
def _root_.Go.W.LH.stk (H:LH M w0 w L D) (i j:Nat) {b:Nat} {vs:List aD} {T:TypeId} {v:aD} {K:aA->Prop} (hi:L[i]? =some (.c b vs T)) (hK:∀w',LH M w0 w' (L.set i (.c b (vs.set j v) T)) D->K w') (hj:j<vs.length) (kS:∀b∈bs,En.g b∈L:=by simp):cY w ((bO b).add j) v λw1=>kept bs w w1/\K w1:=by
 obtain ⟨x1,x2,x3⟩:=H.set (v:=v) i j hi hj
 refine ⟨x1,x2,λb' fA=>?_,hK _ x3⟩
 have jx:b'≠b:=by
  rintro rfl
  refine lW H hi (λn hP=>?_) (kS _ fA) (by simp [En.ob])
  have h:({w with heap:=Array.replicate (n+1) (.map #[] 0)}:aA).heap[b']? =some (.cells vs.toArray T (0,0)):=hP
  simp [Array.getElem?_replicate] at h
 have hf:Fr (·=b) w (w.setCell ((bO b).add j) v):=Fr.set _ _ _ (by rw [iu])
 exact hf.ic b' (H.own _ (kS _ fA)) jx
def Vo (H:SF M w0 w rb sl st wd fs f G ts):sl.n=fs.length+1:=by
 have ho:bD w c9 10 sl ((fs++[f]).flatMap FM.c):=H.get 1
 have:=ho.len
 rw [vh] at this
 simp at this
 omega
def LI (H:SF M w0 w rb sl st wd fs f G ts) (hp:sl.a=some p) (hn:fs.length<=1000000):aH aB fR #[.pointer (some (bO rb))] w λr w'=>r=aJ (.pointer (some (p.add (fs.length *10))))/\bW w w':=by
 have hl:=Vo H
 have e:aC .i64 (((sl.n:Nat):Int) - 1)=(fs.length:Int):=by rw [aS _ (by omega)];omega
 have H1:SF M w0 w.drew rb sl st wd fs f G ts:=H.drew
 refine regex_reader_top.ok _ w _ (show _ from ⟨sl,H1.ld 0 0,sl,H1.ld 0 0,?_⟩)
 rw [e,hp]
 exact ⟨by omega,by omega,rfl,Fr.drew _ _⟩
def Gn (H:SF M w0 w rb sl st wd fs f G ts) (k:Int) (lo hi:UInt8):SF M w0 w rb sl st wd fs f G (ts++[.mk k lo hi ⟨none,0,0⟩ []]):=by
 have H1:=H.pS (.trees (ts++[.mk k lo hi ⟨none,0,0⟩ []])) (Fr.refl _ _) (Rt.qu λt ht=>?_) λb hb=>.inr (.inr ⟨.trees ts,by simp,?_⟩)
 .exact H1.forget _ (by simp)
 .rcases gg.1 ht with ht|ht
  .exact Rt.Ps.mem (H.getD 0) ht
  .simp at ht;subst ht
   show Rt.P w _
   unfold Rt.P Rt.Ps
   exact ⟨lN.nil 4 w,trivial⟩
 .obtain ⟨t,ht,fA⟩:=Rt.bU.1 (aV.1 hb)
  rcases gg.1 ht with ht|ht
  .exact aV.2 (Rt.bU.2 ⟨t,ht,fA⟩)
  .simp at ht
   rw [ht] at fA
   unfold Rt.fp Rt.iD at fA
   simp [En.jG] at fA
def yu {k:Int} {lo hi:UInt8} {b:Nat} (h:b∈Rt.iD (ts++[.mk k lo hi ⟨none,0,0⟩ []])):b∈Rt.iD ts:=by
 obtain ⟨t,ht,fA⟩:=Rt.bU.1 h
 rcases gg.1 ht with ht|ht
 .exact Rt.bU.2 ⟨t,ht,fA⟩
 .simp at ht
  rw [ht] at fA
  unfold Rt.fp Rt.iD at fA
  simp [En.jG] at fA
def RX (H:LH M w0 w L D) (i:Nat) {rs:List mD} (hi:L[i]? =some (.rows rs)) (n:Nat):LH M w0 w (L.set i (.rows (rs++List.replicate n (⟨none,0,0⟩,[])))) D:=by
 have hp:(En.rows rs).P w:=H.get i hi
 have e:(rs++List.replicate n ((⟨none,0,0⟩,[]):mD)).flatMap (λq:mD=>bQ q.1)=rs.flatMap λq:mD=>bQ q.1:=by
  rw [rS]
  have:(List.replicate n ((⟨none,0,0⟩,[]):mD)).flatMap (λq:mD=>bQ q.1)=[]:=by
   induction n with
   |zero=>rfl
   |succ n ih=>rw [List.replicate_succ,rT,ih];rfl
  rw [this,uL]
 refine H.CX i _ hi (Fr.refl _ _) ⟨λq hq=>?_,by rw [e];exact hp.2⟩ λb hb=>.inl (aV.2 (by have:=aV.1 hb;rw [e] at this;exact this))
 rcases gg.1 hq with hq|hq
 .exact hp.1 q hq
 .rw [List.eq_of_mem_replicate hq];exact bD.nil _ _ _
end
def tf (k:Int):FX:=⟨k,(⟨none,0,0⟩,[]),[],[],[],0,zx⟩
def qt (k:Int):FM:=⟨k,(⟨none,0,0⟩,[]),(⟨none,0,0⟩,[]),(⟨none,0,0⟩,[]),(⟨none,0,0⟩,[]),0,.mk 0 0 0 ⟨none,0,0⟩ []⟩
def A2 {w:aA} {rb:Nat} {f0:Addr} {lo:List FX} {tp:FX} {st wd:Int} {own:List Nat} {ts:List Rt} (h:St w rb f0 lo tp st wd own ts):∃(sl:Sl) (fs:List FM) (f:FM) (p:Addr),fs.map FM.x=lo/\f.x=tp/\(∀g∈fs++[f],∀t∈g.ts,t∈ts)/\sl.a=some p/\f0=p.add (fs.length *10)/\SF (·∈own) w w rb sl st wd fs f [] ts:=by
 obtain ⟨sl,fs,f,p,h1,h2,h3,h4,h5,h6,h7,h8,h9,yo⟩:=h
 refine ⟨sl,fs,f,p,h1,h2,h3,h4,h5,?_⟩
 have:=St.uW h6 h7 h8 h9 yo
 show LH _ _ _ (_++[]) _
 rw [uL]
 exact this
def PR {w:aA} {rb:Nat} {f0:Addr} {lo:List FX} {tp:FX} {st wd:Int} {own:List Nat} {ts:List Rt} (h:St w rb f0 lo tp st wd own ts) (hl:lo.length<=1000000) (kind state:Int):
  aH aB kq #[.pointer (some (bO rb)),.int .i64 kind,.int .i64 state] w (E1 w own ts rb λr _ xN AM eU uM _=>r=aJ (.bool true)/\xN=lo++[tp]/\AM=tf kind/\eU=state/\uM=wd):=by
 obtain ⟨sl,fs,f,p,rfl,rfl,h3,h4,rfl,H⟩:=A2 h
 have hn:=Vo H
 have OY:fs.length<=1000000:=by simpa using hl
 refine regex_reader_push.ok _ _ _ w _ ⟨sl,H.ld 0 0,H.ko (e:=c9) (sz:=10) (n:=1) (cs:=(qt kind).c) rfl (by decide) λw1 H1=>?_⟩
 refine H1.apk 1 aaD (src:=⟨some (bO w.heap.size),1,1⟩) (news:=(qt kind).c) rfl (bD.jG (H1.get 3)).2.2 rfl (by simp [FM.c,qt,Value.oneCell']) (by show (sl.n+1) *152<=_;omega) λs' w2 H2 zp wG _=>?_
 obtain ⟨q,hq⟩:∃q,s'.a=some q:=by
  cases hs:s'.a with
  |none=>have:=(wG hs).2;simp at this
  |some q=>exact ⟨q,rfl⟩
 have H3:LH (·∈own) w w2 [.c rb [sl.v,.int .i64 st,.int .i64 wd] iV,.row c9 10 s' ((fs++[f]).flatMap FM.c++(qt kind).c),.rows ((fs++[f]).flatMap FM.rows)] [.trees ts]:=H2.take 3
 refine H3.st 0 0 rfl (λw3 H4=>H4.st 0 1 rfl (λw4 H5=>?_))
 have H6:=RX H5 2 rfl 4
 have H7:SF (·∈own) w w4 rb s' state wd (fs++[f]) (qt kind) [] ts:=by
  show LH _ _ _ (SL rb s' state wd ((fs++[f]++[qt kind]).flatMap FM.c) ((fs++[f]++[qt kind]).flatMap FM.rows)++[]) _
  rw [uL,rS (xs:=fs++[f]),rS (xs:=fs++[f])]
  simpa [show (qt kind).rows=[(⟨none,0,0⟩,[]),(⟨none,0,0⟩,[]),(⟨none,0,0⟩,[]),(⟨none,0,0⟩,[])] from rfl] using H6
 have H8:=Gn H7 0 0 0
 have H9:LH (·∈own) w w4 (SL rb s' state wd ((fs++[f]++[qt kind]).flatMap FM.c) ((fs++[f]++[qt kind]).flatMap FM.rows)) [.trees (ts++[.mk 0 0 0 ⟨none,0,0⟩ []])]:=H8.take 3
 refine ⟨_,_,_,_,_,St.of (ts:=ts) (p:=q) (f0:=q.add ((fs++[f]).length *10)) H9 0 rfl (λg hg t ht=>?_) hq rfl (λb hb=>.inl (yu hb)) (λt ht=>qy _ ht) ⟨rfl,?_,rfl,rfl,rfl⟩⟩
 .rcases gg.1 hg with hg|hg
  .exact qy _ (h3 g hg t ht)
  .simp at hg;subst hg
   simp [FM.ts,qt] at ht
   simp [ht]
 .simp
def qm (tp:FX) (x:Rx):FX:=⟨tp.k,tp.ar,tp.al,tp.an,tp.ca,tp.n,x⟩
def J7 {w:aA} {rb:Nat} {f0:Addr} {lo:List FX} {tp:FX} {st wd:Int} {own:List Nat} {ts:List Rt} (h:St w rb f0 lo tp st wd own ts) (hl:lo.length<=1000000) (t:Rt) (ht:t∈ts):
  aH aB fG #[.pointer (some (bO rb)),t.v] w (E1 w own ts rb λr Dz xN AM eU uM _=>r=aJ (.bool true)/\Dz=f0/\xN=lo/\AM=qm tp t.rx/\eU=3/\uM=wd):=by
 obtain ⟨sl,fs,f,p,rfl,rfl,h3,h4,rfl,H⟩:=A2 h
 have OY:fs.length<=1000000:=by simpa using hl
 refine regex_reader_atom.dQ _ _ _ _ _ w _ (H.cC (bs:=[]) (λb3 w1 H1=>H1.bH (bs:=[b3]) (λw2 H2=>?_) (by simp)) (by simp))
 have H2':SF (·∈own) w w2 rb sl st wd fs f [.g b3] ts:=H2
 refine H2'.bC (LI H2' h4 OY) ?_
 rintro _ w3 rfl H3
 refine ⟨_,rfl,nD ?_⟩
 refine H3.GM (bs:=[b3]) (f:=f) 1 ⟨f.k,f.ar,f.al,f.an,f.ca,f.n,.mk t.k f.la.lo f.la.hi f.la.s f.la.l⟩ 6 rfl h4 (by omega) rfl (λw4 H4=>?_) (by simp)
 have a1:((p.add (fs.length *10)).add 6).add 1=(p.add (fs.length *10)).add 7:=add_add _ 6 1
 have a2:((p.add (fs.length *10)).add 6).add 2=(p.add (fs.length *10)).add 8:=add_add _ 6 2
 have a3:((p.add (fs.length *10)).add 6).add 3=(p.add (fs.length *10)).add 9:=add_add _ 6 3
 rw [a1,a2,a3]
 refine H4.GM (bs:=[b3]) (f:=⟨f.k,f.ar,f.al,f.an,f.ca,f.n,.mk t.k f.la.lo f.la.hi f.la.s f.la.l⟩) 1 ⟨f.k,f.ar,f.al,f.an,f.ca,f.n,.mk t.k t.lo f.la.hi f.la.s f.la.l⟩ 7 rfl h4 (by omega) rfl (λw5 H5=>?_) (by simp)
 refine H5.GM (bs:=[b3]) (f:=⟨f.k,f.ar,f.al,f.an,f.ca,f.n,.mk t.k t.lo f.la.hi f.la.s f.la.l⟩) 1 ⟨f.k,f.ar,f.al,f.an,f.ca,f.n,.mk t.k t.lo t.hi f.la.s f.la.l⟩ 8 rfl h4 (by omega) rfl (λw6 H6=>?_) (by simp)
 refine H6.GM (bs:=[b3]) (f:=⟨f.k,f.ar,f.al,f.an,f.ca,f.n,.mk t.k t.lo t.hi f.la.s f.la.l⟩) 1 ⟨f.k,f.ar,f.al,f.an,f.ca,f.n,t⟩ 9 rfl h4 (by omega) rfl (λw7 H7=>?_) (by simp)
 refine H7.stk (bs:=[b3]) 0 1 rfl (λw8 H8=>?_) (by simp) (by simp)
 have er:(fs++[f]).flatMap FM.rows=(fs++[(⟨f.k,f.ar,f.al,f.an,f.ca,f.n,t⟩:FM)]).flatMap FM.rows:=by simp [FM.rows]
 have H9:LH (·∈own) w w8 (SL rb sl 3 wd ((fs++[(⟨f.k,f.ar,f.al,f.an,f.ca,f.n,t⟩:FM)]).flatMap FM.c) ((fs++[(⟨f.k,f.ar,f.al,f.an,f.ca,f.n,t⟩:FM)]).flatMap FM.rows)) [.trees ts]:=by
  rw [<-er]
  exact H8.take 3
 refine ⟨_,_,_,_,_,St.of (ts:=ts) (f0:=p.add (fs.length *10)) H9 0 rfl (λg hg u hu=>?_) h4 rfl (λb hb=>.inl hb) (λt ht=>ht) ⟨rfl,rfl,rfl,rfl,rfl,rfl⟩⟩
 rcases gg.1 hg with hg|hg
 .exact h3 g (by simp [hg]) u hu
 .simp at hg;subst hg
  simp only [FM.ts,gg,dT,gL,or_false] at hu
  rcases hu with (((hu|hu)|hu)|hu)|rfl
  .exact h3 f (by simp) u (by simp [FM.ts,hu])
  .exact h3 f (by simp) u (by simp [FM.ts,hu])
  .exact h3 f (by simp) u (by simp [FM.ts,hu])
  .exact h3 f (by simp) u (by simp [FM.ts,hu])
  .exact ht
structure Tk where
 k:UInt8
 lo:UInt8
 hi:UInt8
 s:List UInt8
 a:Int
abbrev Tk.v (t:Tk):aD:=.agg #[.int .u8 (t.k.toNat:Int),.int .u8 (t.lo.toNat:Int),.int .u8 (t.hi.toNat:Int),.string (ba t.s),.int .i64 t.a]
structure SX where
 lo:List FX
 tp:FX
 st:Int
 wd:Int
def M8:List UInt8:=[110,111,110,101]
def GB:List UInt8:=[101,109,112,116,121]
def VM:List UInt8:=[97,108,116]
def VL:List UInt8:=[97,108,108]
def VN:List UInt8:=[99,97,116]
def kU (t:Tk) (s:SX):Option SX:=
 if t.k=33 then some ⟨s.lo,⟨s.tp.k,s.tp.ar,s.tp.al,s.tp.an,s.tp.ca,s.tp.n+1,s.tp.la⟩,0,s.wd⟩
 else if t.k=40 then some ⟨s.lo++[s.tp],tf (-1),0,s.wd⟩
 else if t.k=114 then some ⟨s.lo,qm s.tp (.mk 2 t.lo t.hi []),3,s.wd⟩
 else if t.k=119 then
  if t.s=M8 then some ⟨s.lo,qm s.tp (.mk 0 0 0 []),3,s.wd⟩
  else if t.s=GB then some ⟨s.lo,qm s.tp (.mk 1 0 0 []),3,s.wd⟩
  else if t.s=VM then some ⟨s.lo,s.tp,2,4⟩
  else if t.s=VL then some ⟨s.lo,s.tp,2,5⟩
  else if t.s=VN then some ⟨s.lo,s.tp,2,3⟩
  else none
 else none
def Tj (o:Option SX):cD->Addr->List FX->FX->Int->Int->List Rt->Prop:=λr _ lo tp st wd _=>(o=none/\r=aJ (.bool false))\/(o=some ⟨lo,tp,st,wd⟩/\r=aJ (.bool true))
section
variable {w w':aA} {own:List Nat} {G:List En} {rb:Nat} {sl:Sl} {st wd:Int} {fs:List FM} {f:FM} {ts nj:List Rt} {p:Addr}
def kj {Q:cD->Addr->List FX->FX->Int->Int->List Rt->Prop} {r:cD} (H:SF (·∈own) w w' rb sl st wd fs f G nj) (h3:∀g∈fs++[f],∀t∈g.ts,t∈nj) (hp:sl.a=some p) (hb:∀b∈Rt.iD nj,b∈Rt.iD ts\/w.heap.size<=b\/b∈own) (ht:∀t∈ts,t∈nj) (q:Q r (p.add (fs.length *10)) (fs.map FM.x) f.x st wd nj):E1 w own ts rb Q r w':=
 ⟨_,_,_,_,_,St.of (ts:=ts) (f0:=p.add (fs.length *10)) (H.take 3) 0 rfl h3 hp rfl (λb h=>(hb b h).imp id Or.symm) ht q⟩
end
def abH (s:List UInt8):(ba s).toList=s:=by rw [ByteArray.toList_eq];rfl
def abI (a:Array UInt8):(ByteArray.mk a).toList=a.toList:=by rw [ByteArray.toList_eq]
def yQ {s:List UInt8} {a:Array UInt8} {A B:Prop} (h1:s=a.toList->A) (h2:s≠a.toList->B):aW ((ba s).toList==(ByteArray.mk a).toList) A B:=by
 rw [abH,abI]
 exact bR (λh=>h1 (by simpa using h)) (λh=>h2 (by simpa using h))
def n7 {x:UInt8} {n:Nat} {A B:Prop} (hn:n<256) (h1:x=UInt8.ofNat n->A) (h2:x≠UInt8.ofNat n->B):aW (((x.toNat:Nat):Int)==(n:Int)) A B:=by
 have e:∀x:UInt8,x.toNat=n↔x=UInt8.ofNat n:=λx=>by
  rw [<-UInt8.toNat_inj,UInt8.toNat_ofNat']
  omega
 exact bR (λh=>h1 ((e x).1 (by have:=eq_of_beq h;omega))) (λh=>h2 λhx=>by
  have:x.toNat=n:=(e x).2 hx
  rw [this] at h
  simp at h)
def X6 {w:aA} {rb:Nat} {f0:Addr} {lo:List FX} {tp:FX} {st wd:Int} {own:List Nat} {ts:List Rt} (h:St w rb f0 lo tp st wd own ts) (hl:lo.length<=1000000) (hn:tp.n<=1000000) (t:Tk):
  aH aB hO #[.pointer (some (bO rb)),t.v] w (E1 w own ts rb (Tj (kU t ⟨lo,tp,st,wd⟩))):=by
 obtain ⟨sl,fs,f,p,rfl,rfl,h3,h4,rfl,H⟩:=A2 h
 have OY:fs.length<=1000000:=by simpa using hl
 have zp:f.n<=1000000:=hn
 have base:∀b∈Rt.iD ts,b∈Rt.iD ts\/w.heap.size<=b\/b∈own:=λb hb=>.inl hb
 refine regex_reader_item.dQ _ _ _ _ _ _ w _ (H.cC (bs:=[]) (λb3 w1 H1=>?_) (by simp))
 have H1:SF (·∈own) w w1 rb sl st wd fs f [.g b3] ts:=H1
 have leaf:∀(k:Int) (a b:UInt8) {w2:aA} {my VP:Int},SF (·∈own) w w2 rb sl my VP fs f [.g b3] ts->kU t ⟨fs.map FM.x,f.x,st,wd⟩=some ⟨fs.map FM.x,qm f.x (.mk k a b []),3,VP⟩->
   fZ [b3] aB fG #[.pointer (some (bO rb)),.agg #[.i k,.int .u8 (a.toNat:Int),.int .u8 (b.toNat:Int),.slice none 0 0]] w2 λr_ w6=>∃t32:Bool,r_=aJ (.bool t32)/\E1 w own ts rb (Tj (kU t ⟨fs.map FM.x,f.x,st,wd⟩)) (aJ (.bool t32)) w6:=by
  intro k a b w2 my VP H2 he
  have H3:=Gn H2 k a b
  refine H3.OV (bs:=[b3]) (λg hg u hu=>qy _ (h3 g hg u hu)) h4 (λoo s1=>J7 s1 hl (.mk k a b ⟨none,0,0⟩ []) (by simp)) ?_ (by simp)
  rintro _ w3 EL BR f3 p3 nJ GC AA t3 ox wC xW ⟨rfl,SS,tw,kT,rfl,rfl⟩ H4
  refine ⟨true,rfl,kj H4 ox wC (λx hx=>?_) (λu hu=>t3 u (qy _ hu)) (.inr ⟨?_,rfl⟩)⟩
  .rcases xW x hx with h|h
   .exact .inl (yu h)
   .exact .inr h
  .rw [he,tw,kT];rfl
 refine n7 (n:=33) (by omega) (λhk:t.k=33=>H1.bC (LI H1 h4 OY) ?_) (λk33:t.k≠33=>n7 (n:=40) (by omega) (λhk:t.k=40=>?_) (λk40:t.k≠40=>n7 (n:=114) (by omega) (λhk:t.k=114=>?_) (λaaZ:t.k≠114=>n7 (n:=119) (by omega) (λhk:t.k=119=>?_) (λacW:t.k≠119=>?_))))
 .rintro _ w2 rfl H2
  refine ⟨_,rfl,nD ⟨_,H2.Ca 1 rfl h4 5,nD ?_⟩⟩
  have e:aC .i64 ((f.n:Int)+1)=((f.n+1:Nat):Int):=by rw [aS _ (by omega)];omega
  rw [e]
  refine H2.GM (bs:=[b3]) (f:=f) 1 ⟨f.k,f.ar,f.al,f.an,f.ca,f.n+1,f.la⟩ 5 rfl h4 (by omega) rfl (λw3 H3=>?_) (by simp)
  refine H3.stk (bs:=[b3]) 0 1 rfl (λw4 H4=>?_) (by simp) (by simp)
  have er:(fs++[f]).flatMap FM.rows=(fs++[(⟨f.k,f.ar,f.al,f.an,f.ca,f.n+1,f.la⟩:FM)]).flatMap FM.rows:=by simp [FM.rows]
  have H5:SF (·∈own) w w4 rb sl 0 wd fs ⟨f.k,f.ar,f.al,f.an,f.ca,f.n+1,f.la⟩ [.g b3] ts:=by
   show LH _ _ _ (SL rb sl 0 wd _ ((fs++[(⟨f.k,f.ar,f.al,f.an,f.ca,f.n+1,f.la⟩:FM)]).flatMap FM.rows)++_) _
   rw [<-er]
   exact H4
  refine kj H5 (λg hg u hu=>?_) h4 base (λ_ h=>h) (.inr ⟨?_,rfl⟩)
  .rcases gg.1 hg with hg|hg
   .exact h3 g (by simp [hg]) u hu
   .simp at hg;subst hg
    exact h3 f (by simp) u hu
  .unfold kU;rw [aN hk];rfl
 .refine H1.OV (bs:=[b3]) h3 h4 (λoo s1=>PR s1 hl (-1) 0) ?_ (by simp)
  rintro _ w3 EL BR f3 p3 nJ GC AA t3 ox wC xW ⟨rfl,tw,kT,rfl,rfl⟩ H4
  refine ⟨true,rfl,kj H4 ox wC xW t3 (.inr ⟨?_,rfl⟩)⟩
  unfold kU
  rw [aI k33,aN hk,tw,kT]
 .exact leaf 2 t.lo t.hi H1 (by unfold kU;rw [aI k33,aI k40,aN hk])
 .refine H1.stk (bs:=[b3]) 0 1 rfl (λw2 H2=>?_) (by simp) (by simp)
  have H2:SF (·∈own) w w2 rb sl 2 wd fs f [.g b3] ts:=H2
  have ei:kU t ⟨fs.map FM.x,f.x,st,wd⟩=if t.s=M8 then some ⟨fs.map FM.x,qm f.x (.mk 0 0 0 []),3,wd⟩ else if t.s=GB then some ⟨fs.map FM.x,qm f.x (.mk 1 0 0 []),3,wd⟩ else if t.s=VM then some ⟨fs.map FM.x,f.x,2,4⟩ else if t.s=VL then some ⟨fs.map FM.x,f.x,2,5⟩ else if t.s=VN then some ⟨fs.map FM.x,f.x,2,3⟩ else none:=by
   unfold kU
   rw [aI k33,aI k40,aI aaZ,aN hk]
  have word:∀(k:Int),kU t ⟨fs.map FM.x,f.x,st,wd⟩=some ⟨fs.map FM.x,f.x,2,k⟩->cY w2 ((bO rb).add 2) (.i k) λtB=>kept [b3] w2 tB/\regex_reader_item.eX tB (E1 w own ts rb (Tj (kU t ⟨fs.map FM.x,f.x,st,wd⟩))):=λk he=>
   H2.stk (bs:=[b3]) 0 2 rfl (λw3 H3=>kj (show SF (·∈own) w w3 rb sl 2 k fs f [.g b3] ts from H3) h3 h4 base (λ_ h=>h) (.inr ⟨he,rfl⟩)) (by simp) (by simp)
  refine yQ (λh1:t.s=M8=>leaf 0 0 0 H2 (by rw [ei,aN h1])) (λn1:t.s≠M8=>yQ (λh1:t.s=GB=>leaf 1 0 0 H2 (by rw [ei,aI n1,aN h1])) (λn2:t.s≠GB=>yQ (λh1:t.s=VM=>word 4 (by rw [ei,aI n1,aI n2,aN h1])) (λn3:t.s≠VM=>yQ (λh1:t.s=VL=>word 5 (by rw [ei,aI n1,aI n2,aI n3,aN h1])) (λn4:t.s≠VL=>yQ (λh1:t.s=VN=>word 3 (by rw [ei,aI n1,aI n2,aI n3,aI n4,aN h1])) (λn5:t.s≠VN=>?_)))))
  exact kj H2 h3 h4 base (λ_ h=>h) (.inl ⟨by rw [ei,aI n1,aI n2,aI n3,aI n4,aI n5],rfl⟩)
 .exact kj H1 h3 h4 base (λ_ h=>h) (.inl ⟨by unfold kU;rw [aI k33,aI k40,aI aaZ,aI acW],rfl⟩)
def KS {w:aA} {e:TypeId} {sz:Nat} {s:Sl} {xs:List aD} {p:Addr} (h:bD w e sz s xs) (hp:s.a=some p) (n:Nat) (hn:n<=s.n):bD w e sz ⟨s.a,n,s.c⟩ (xs.take (n *sz)):=by
 have hl:=h.len
 rcases h.cases with ⟨rfl,_⟩|⟨g,cur,ha,hg,h3,h4,h5,h6⟩
 .cases hp
 .have hm:n *sz<=s.n *sz:=Nat.mul_le_mul_right _ hn
  refine ⟨by rw [List.length_take];show _=n *sz;omega,.inr ⟨g,s.c,cur,by rw [ha],Nat.zero_le _,hg,Nat.le_trans hn h3,h4,h5,?_⟩⟩
  rw [<-h6,List.take_take]
  congr 1
  show n *sz=_
  omega
section
variable {M:Nat->Prop} {w0 w:aA} {L D A:List En} {bs:List Nat} {G:List En} {rb:Nat} {ts:List Rt}
def EI (H:LH M w0 w L D) (i:Nat) {rs Vj:List mD} (hi:L[i]? =some (.rows (rs++Vj))):LH M w0 w (L.set i (.rows rs)) D:=by
 have hp:(En.rows (rs++Vj)).P w:=H.get i hi
 have nd:=hp.2
 rw [rS,zH] at nd
 refine H.CX i _ hi (Fr.refl _ _) ⟨λq hq=>hp.1 q (qy _ hq),nd.1⟩ λb hb=>.inl (aV.2 ?_)
 rw [rS]
 exact qy _ (aV.1 hb)
def UH (H:LH M w0 w (A++G) [.trees ts]):LH (·∈A.flatMap (·.fp)) w w A [.trees ts]:=by
 have nd:=H.nd
 rw [rS,zH] at nd
 refine LH.uf _ _ (λe he=>⟨H.own e (qy _ he),λb hb=>nG.2 ⟨e,he,hb⟩⟩) nd.1 λe he=>?_
 simp only [dT,gL,or_false] at he
 subst he
 exact ⟨H.getD 0,λb hb e' lM fA=>H.dj (.trees ts) (by simp) b hb e' (qy _ lM) fA⟩
def Rh (H:LH M w0 w (A++G) [.trees ts]) {w':aA} {Dz:Addr} {xN:List FX} {AM:FX} {eU uM:Int} {fF:List Nat} {nj:List Rt} (s:St w' rb Dz xN AM eU uM fF nj) (fr:Fr (·∈A.flatMap (·.fp)) w w') (o:∀x∈fF,x∈A.flatMap (·.fp)\/w.heap.size<=x)
  (hb:∀b∈Rt.iD nj,b∈Rt.iD ts\/b∈A.flatMap (·.fp)\/w.heap.size<=b):
  ∃(A7:Sl) (wB:List FM) (f':FM) (p':Addr),wB.map FM.x=xN/\f'.x=AM/\(∀g∈wB++[f'],∀t∈g.ts,t∈nj)/\A7.a=some p'/\Dz=p'.add (wB.length *10)/\(∀b∈Rt.iD nj,b∈Rt.iD ts\/w0.heap.size<=b\/M b)/\SF M w0 w' rb A7 eU uM wB f' G nj:=by
 obtain ⟨A7,wB,f',p',h1,h2,h3,h4,h5,h6,h7,h8,h9,yo⟩:=s
 have nd:=H.nd
 rw [rS,zH] at nd
 have KO:∀b∈A.flatMap (·.fp),w0.heap.size<=b\/M b:=λb hb=>by
  obtain ⟨e,he,tM⟩:=nG.1 hb
  exact H.new e (qy _ he) b tM
 have glt:∀e∈G,∀b∈e.fp,b<w.heap.size:=λe he b hb=>e.lt w (H.own e (wL _ he)) b hb
 have Kp:∀e∈G,∀b∈e.fp,b∉A.flatMap (·.fp):=λe he b hb hm=>nd.2.2 b hm b (nG.2 ⟨e,he,hb⟩) rfl
 have ni:=H.fr.size
 have RF:∀b∈fF,w0.heap.size<=b\/M b:=λb hb=>(o b hb).elim (KO b) λh=>.inl (Nat.le_trans ni h)
 refine ⟨A7,wB,f',p',h1,h2,h3,h4,h5,λb fA=>?_,H.fr.trans fr λx hx hm=>(KO x hm).resolve_left (by omega),λe he=>?_,λe he=>?_,λe he b fA=>?_,?_,λe he b fA e' lM tM=>?_⟩
 .rcases hb b fA with h|h|h
  .exact .inl h
  .exact .inr (KO b h)
  .exact .inr (.inl (Nat.le_trans ni h))
 .rcases gg.1 he with he|he
  .exact h8 e he
  .exact e.st w w' (λb hb hl=>fr.ic b hl (Kp e he b hb)) (H.own e (wL _ he))
 .simp at he;subst he;exact h9
 .rcases gg.1 he with he|he
  .exact RF b (by rw [h6];exact nG.2 ⟨e,he,fA⟩)
  .exact H.new e (wL _ he) b fA
 .rw [rS,zH]
  refine ⟨h6▸h7,nd.2.1,λx hx y hy hxy=>?_⟩
  subst hxy
  obtain ⟨e,he,tM⟩:=nG.1 hy
  rcases o x (by rw [h6];exact hx) with h|h
  .exact Kp e he x tM h
  .have:=glt e he x tM;omega
 .simp at he;subst he
  have FB:b∈Rt.iD nj:=aV.1 fA
  rcases gg.1 lM with lM|lM
  .exact yo b FB (by rw [h6];exact nG.2 ⟨e',lM,tM⟩)
  .rcases hb b FB with h|h|h
   .exact H.dj (.trees ts) (by simp) b (aV.2 h) e' (wL _ lM) tM
   .exact Kp e' lM b tM h
   .have:=glt e' lM b tM;omega
def _root_.Go.W.LH.csA (H:LH M w0 w (A++G) [.trees ts]) {g:FuncId} {args:Array aD} {K:aT} {Q:cD->Addr->List FX->FX->Int->Int->List Rt->Prop}
  (hc:∀own,LH (·∈own) w w A [.trees ts]->aH aB g args w (E1 w own ts rb Q))
  (hk:∀r w' (A7:Sl) (wB:List FM) (f':FM) (p':Addr) (eU uM:Int) (nj:List Rt),(∀t∈ts,t∈nj)->(∀g∈wB++[f'],∀t∈g.ts,t∈nj)->A7.a=some p'->(∀b∈Rt.iD nj,b∈Rt.iD ts\/w0.heap.size<=b\/M b)->Q r (p'.add (wB.length *10)) (wB.map FM.x) f'.x eU uM nj->SF M w0 w' rb A7 eU uM wB f' G nj->K r w')
  (kS:∀b∈bs,En.g b∈G:=by simp):fZ bs aB g args w K:=by
 have nd:=H.nd
 rw [rS,zH] at nd
 refine ⟨(·∈A.flatMap (·.fp)),λb hb hm=>?_,(hc _ (UH H)).mono ?_⟩
 .exact nd.2.2 b hm b (nG.2 ⟨_,kS b hb,by simp [En.g]⟩) rfl
 .rintro r w' ⟨Dz,xN,AM,eU,uM,fF,nj,s,fr,o,b,t,q⟩
  obtain ⟨A7,wB,f',p',rfl,rfl,NN,JH,rfl,fA,H'⟩:=Rh H s fr o b
  exact ⟨fr,hk r w' A7 wB f' p' eU uM nj t NN JH fA q H'⟩
def UG (H:LH M w0 w L [.trees ts]) (T:Rt) (hT:T∈ts) (k:Int) (lo hi:UInt8):LH M w0 w L [.trees (ts++[.mk k lo hi T.s T.l])]:=by
 have pt:Rt.Ps w ts:=H.getD 0
 have H1:=H.pS (.trees (ts++[.mk k lo hi T.s T.l])) (Fr.refl _ _) (Rt.qu λt ht=>?_) λb hb=>.inr (.inr ⟨.trees ts,by simp,?_⟩)
 .exact H1.forget _ (by simp)
 .rcases gg.1 ht with ht|ht
  .exact pt.mem ht
  .simp at ht;subst ht
   unfold Rt.P
   exact (pt.mem hT).parts
 .obtain ⟨t,ht,fA⟩:=Rt.bU.1 (aV.1 hb)
  rcases gg.1 ht with ht|ht
  .exact aV.2 (Rt.bU.2 ⟨t,ht,fA⟩)
  .simp at ht
   rw [ht] at fA
   exact aV.2 (Rt.bU.2 ⟨T,hT,Rt.fJ.2 ((Rt.fJ (t:=.mk k lo hi T.s T.l)).1 fA)⟩)
def Ri {T:Rt} (hT:T∈ts) {k:Int} {lo hi:UInt8} {b:Nat} (h:b∈Rt.iD (ts++[.mk k lo hi T.s T.l])):b∈Rt.iD ts:=by
 obtain ⟨t,ht,fA⟩:=Rt.bU.1 h
 rcases gg.1 ht with ht|ht
 .exact Rt.bU.2 ⟨t,ht,fA⟩
 .simp at ht
  rw [ht] at fA
  exact Rt.bU.2 ⟨T,hT,Rt.fJ.2 ((Rt.fJ (t:=.mk k lo hi T.s T.l)).1 fA)⟩
def UF (H:LH M w0 w L [.trees ts]) (T:Rt) (hT:T∈ts):LH M w0 w L [.trees (ts++T.l)]:=by
 have pt:Rt.Ps w ts:=H.getD 0
 have H1:=H.pS (.trees (ts++T.l)) (Fr.refl _ _) (Rt.qu λt ht=>?_) λb hb=>.inr (.inr ⟨.trees ts,by simp,?_⟩)
 .exact H1.forget _ (by simp)
 .rcases gg.1 ht with ht|ht
  .exact pt.mem ht
  .exact (pt.mem hT).parts.2.mem ht
 .obtain ⟨t,ht,fA⟩:=Rt.bU.1 (aV.1 hb)
  rcases gg.1 ht with ht|ht
  .exact aV.2 (Rt.bU.2 ⟨t,ht,fA⟩)
  .exact aV.2 (Rt.bU.2 ⟨T,hT,Rt.fJ.2 (.inr (Rt.bU.2 ⟨t,ht,fA⟩))⟩)
def Q9 {T:Rt} (hT:T∈ts) {b:Nat} (h:b∈Rt.iD (ts++T.l)):b∈Rt.iD ts:=by
 obtain ⟨t,ht,fA⟩:=Rt.bU.1 h
 rcases gg.1 ht with ht|ht
 .exact Rt.bU.2 ⟨t,ht,fA⟩
 .exact Rt.bU.2 ⟨T,hT,Rt.fJ.2 (.inr (Rt.bU.2 ⟨t,ht,fA⟩))⟩
end
def Yb {w:aA} {rb:Nat} {sl:Sl} {p:Addr} {n:Nat} (hc:w.cell? ((bO rb).add 0)=some sl.v) (hl:sl.n=n+1) (hp:sl.a=some p) (hn:n<=1000000):aH aB fR #[.pointer (some (bO rb))] w λr w'=>r=aJ (.pointer (some (p.add (n *10))))/\bW w w':=by
 have e:aC .i64 (((sl.n:Nat):Int) - 1)=(n:Int):=by rw [aS _ (by omega)];omega
 have Z7:w.drew.cell? ((bO rb).add 0)=some sl.v:=hc
 refine regex_reader_top.ok _ w _ (show _ from ⟨sl,Z7,sl,Z7,?_⟩)
 rw [e,hp]
 exact ⟨by omega,by omega,rfl,Fr.drew _ _⟩
def Qe (k:Int) (l:List Rx):Rx:=if k<0 then l.headD zx else .mk k 0 0 l
def TA {w:aA} {rb:Nat} {sl:Sl} {st wd:Int} {fs:List FM} {g f:FM} {ts:List Rt} {p:Addr} {own:List Nat}
  (H:LH (·∈own) w w [.c rb [sl.v,.int .i64 st,.int .i64 wd] iV,.row c9 10 sl (((fs++[g])++[f]).flatMap FM.c),.rows ((fs++[g]).flatMap FM.rows)] [.trees ts])
  (h3:∀x∈fs++[g],∀t∈x.ts,t∈ts) (hp:sl.a=some p) (hl:fs.length<=999999) (T:Rt) (hT:T∈ts) (hk:0<=f.k\/T.l≠[]):
  aH aB iK #[.pointer (some (bO rb)),T.s.v] w (E1 w own ts rb λr _ xN AM eU uM _=>r=aJ (.bool true)/\xN=fs.map FM.x/\AM=qm g.x (Qe f.k (Rt.cR T.l))/\eU=3/\uM=wd):=by
 have hn:sl.n=(fs++[g]).length+1:=by
  have ho:bD w c9 10 sl (((fs++[g])++[f]).flatMap FM.c):=H.get 1
  have:=ho.len
  rw [vh] at this
  simp at this ⊢
  omega
 have hc1:1<=sl.c:=by
  have ho:bD w c9 10 sl (((fs++[g])++[f]).flatMap FM.c):=H.get 1
  have:=ho.cap
  omega
 refine regex_reader_close.ok _ _ w _ (H.call (Yb (H.ld 0 0) hn hp (by simp;omega)) ?_)
 rintro _ w1 rfl H1
 refine ⟨_,rfl,nD ⟨_,H1.Ca 1 rfl hp 0,?_⟩⟩
 have H2:=H1.drew
 refine ⟨sl,H2.ld 0 0,sl,H2.ld 0 0,?_⟩
 have e:aC .i64 (((sl.n:Nat):Int) - 1)=(((fs++[g]).length:Nat):Int):=by rw [aS _ (by simp at hn;omega)];omega
 rw [e]
 have ho:bD w c9 10 sl (((fs++[g])++[f]).flatMap FM.c):=H.get 1
 have adm:=ho.cap
 refine ⟨by omega,by omega,?_⟩
 have ev:Value.slice (if sl.c=0 then sl.a else sl.a.map (·.add (0 *10))) ((aF (((fs++[g]).length:Nat):Int)) - 0) (sl.c - 0)=(⟨sl.a,(fs++[g]).length,sl.c⟩:Sl).v:=by
  rw [aI (by omega),hp]
  show Value.slice (some (p.add 0)) _ _=Value.slice (some p) _ _
  rw [xS]
  simp
 rw [ev]
 refine H2.st 0 0 rfl λw3 H3=>?_
 have hr3:bD w3 c9 10 sl (((fs++[g])++[f]).flatMap FM.c):=H3.get 1
 have hs3:=KS hr3 hp (fs++[g]).length (by omega)
 have et:(((fs++[g])++[f]).flatMap FM.c).take ((fs++[g]).length *10)=(fs++[g]).flatMap FM.c:=by
  rw [rS,<-vh,List.take_left']
  rfl
 rw [et] at hs3
 have H4:=H3.CX 1 (.row c9 10 ⟨sl.a,(fs++[g]).length,sl.c⟩ ((fs++[g]).flatMap FM.c)) rfl (Fr.refl _ _) hs3 λb hb=>.inl hb
 have H5:SF (·∈own) w w3 rb ⟨sl.a,(fs++[g]).length,sl.c⟩ st wd fs g [] ts:=by
  show LH _ _ _ (_++[]) _
  rw [uL]
  exact H4
 refine bR (λh1=>?_) (λh1=>?_)
 .have vU:f.k<0:=of_decide_eq_true h1
  have jx:T.l≠[]:=hk.resolve_left (by omega)
  obtain ⟨x,l,hx⟩:=List.exists_cons_of_ne_nil jx
  have hr:lN 4 w3 T.s (T.l.flatMap Rt.c):=((show Rt.Ps w3 ts from H5.getD 0).mem hT).parts.1
  have rq:=Rt.cX hr
  refine ⟨by omega,by rw [rq,hx];simp,Rt.at' hr (i:=0) (t:=x) (by rw [hx];rfl) λq hq c=>⟨_,_,_,_,c.c0,c.c1,c.c2,c.c3,?_⟩⟩
  have H6:=UF H5 T hT
  refine (show SF (·∈own) w w3 rb ⟨sl.a,(fs++[g]).length,sl.c⟩ st wd fs g [] (ts++T.l) from H6).TM (λy hy t ht=>qy _ (h3 y hy t ht)) hp (λoo s1=>J7 s1 (by simp;omega) x (by rw [hx];simp)) ?_
  rintro _ w4 sl4 fs4 f4 p4 Gr wd4 ts4 t4 L6 h44 b4 ⟨rfl,_,tw,kT,rfl,rfl⟩ H7
  refine ⟨true,rfl,kj H7 L6 h44 (λb hb=>(b4 b hb).imp (Q9 hT) id) (λt ht=>t4 t (qy _ ht)) ⟨rfl,tw,?_,rfl,rfl⟩⟩
  rw [kT,hx]
  unfold Qe
  rw [aN vU]
  rfl
 .have vU:¬f.k<0:=of_decide_eq_false h1
  have H6:=UG H5 T hT f.k 0 0
  refine (show SF (·∈own) w w3 rb ⟨sl.a,(fs++[g]).length,sl.c⟩ st wd fs g [] (ts++[.mk f.k 0 0 T.s T.l]) from H6).TM (λy hy t ht=>qy _ (h3 y hy t ht)) hp (λoo s1=>J7 s1 (by simp;omega) (.mk f.k 0 0 T.s T.l) (by simp)) ?_
  rintro _ w4 sl4 fs4 f4 p4 Gr wd4 ts4 t4 L6 h44 b4 ⟨rfl,_,tw,kT,rfl,rfl⟩ H7
  refine ⟨true,rfl,kj H7 L6 h44 (λb hb=>(b4 b hb).imp (Ri hT) id) (λt ht=>t4 t (qy _ ht)) ⟨rfl,tw,?_,rfl,rfl⟩⟩
  rw [kT]
  unfold Qe
  rw [aI vU]
  rfl
def qA (s:SX) (l:List Rx):Option SX:=match s.lo.getLast? with
 |none=>none
 |some g=>some ⟨s.lo.dropLast,qm g (Qe s.tp.k l),3,s.wd⟩
def aai (s':Sl) (f:FX):FX:=⟨f.k,(s',f.ar.2++[jH f]),[],[],[],0,f.la⟩
def kR (s':Sl) (t:Tk) (s:SX):Option SX:=
 if s.st=2 then (if t.k=40 then some ⟨s.lo++[s.tp],tf s.wd,1,s.wd⟩ else none)
 else if s.st=1 then (if t.k=41 then qA s [] else kU t s)
 else if s.st=0 then kU t s
 else if t.k=42 then some ⟨s.lo,qm s.tp (.mk 7 0 0 [s.tp.la]),s.st,s.wd⟩
 else if t.k=38 then some ⟨s.lo,mj s.tp,0,s.wd⟩
 else if t.k=124 then some ⟨s.lo,jS s.tp,0,s.wd⟩
 else if t.k=44 then (if s.tp.k<0 then none else some ⟨s.lo,aai s' s.tp,0,s.wd⟩)
 else if t.k=41 then (if s.lo=[] then none else qA s (s.tp.ar.2++[jH s.tp]))
 else if t.k=36 then (if s.lo=[] then some s else none)
 else kU t ⟨s.lo,iY s.tp,s.st,s.wd⟩
section
variable {M:Nat->Prop} {w0 w1:aA} {bs:List Nat} {G:List En} {rb:Nat} {sl:Sl} {st wd:Int} {fs:List FM} {f:FM} {ts:List Rt} {p:Addr}
abbrev FS2 (M:Nat->Prop) (w0 w:aA) (rb:Nat) (sl:Sl) (st wd:Int) (fs:List FM) (f:FM) (rs:List mD) (G:List En) (ts:List Rt):Prop:=LH M w0 w (SL rb sl st wd ((fs++[f]).flatMap FM.c) rs++G) [.trees ts]
def RL (H1:SF M w0 w1 rb sl st wd fs f G ts) (i:Nat) {src:Sl} (hi:(SL rb sl st wd ((fs++[f]).flatMap FM.c) ((fs++[f]).flatMap FM.rows)++G)[i]? =some (.row aL 4 src z4)) (hp:sl.a=some p) (d:Nat) (HO:1<=d) (HP:d<=4) (t:Rt) (hb:(f.fS d).2.length<=1000000) (WA:src.n=1) {K:aA->Prop}
  (hK:∀s' w',SF M w0 w' rb sl st wd fs (f.put d (s',(f.fS d).2++[t])) G ts->K w') (kS:∀b∈bs,En.g b∈G:=by simp):
  ∃(t15:Sl) (w5:aA),(Builtin.append_ #[aU,aU] aU #[(f.fS d).1.v,src.v]).run aB w1=.ok (t15.v) w5/\kept bs w1 w5/\(0:Int)<=(((f.fS d).1.n:Nat):Int)/\(((f.fS d).1.n:Nat):Int)<((t15.n:Nat):Int)/\gT t15.a λq=>
   ((cY w5 (q.add (aF (((f.fS d).1.n:Nat):Int) *4)) (.int .i64 t.k) λw6=>kept bs w5 w6/\cY w6 ((q.add (aF (((f.fS d).1.n:Nat):Int) *4)).add 1) (.int .u8 (t.lo.toNat:Int)) λw7=>kept bs w6 w7/\cY w7 ((q.add (aF (((f.fS d).1.n:Nat):Int) *4)).add 2) (.int .u8 (t.hi.toNat:Int)) λw8=>kept bs w7 w8/\cY w8 ((q.add (aF (((f.fS d).1.n:Nat):Int) *4)).add 3) t.s.v λw9=>kept bs w8 w9/\cY w9 ((p.add (fs.length *10)).add d) t15.v λtB=>kept bs w9 tB/\K tB)/\
   (cY w5 ((p.add (fs.length *10)).add d) t15.v λyY=>kept bs w5 yY/\cY yY (q.add (aF (((f.fS d).1.n:Nat):Int) *4)) (.int .i64 t.k) λw6=>kept bs yY w6/\cY w6 ((q.add (aF (((f.fS d).1.n:Nat):Int) *4)).add 1) (.int .u8 (t.lo.toNat:Int)) λw7=>kept bs w6 w7/\cY w7 ((q.add (aF (((f.fS d).1.n:Nat):Int) *4)).add 2) (.int .u8 (t.hi.toNat:Int)) λw8=>kept bs w7 w8/\cY w8 ((q.add (aF (((f.fS d).1.n:Nat):Int) *4)).add 3) t.s.v λw9=>kept bs w8 w9/\K w9)):=by
 have jc:((fs++[f]).flatMap FM.rows)[fs.length *4+(d - 1)]? =some ((f.fS d).1,(f.fS d).2.flatMap Rt.c):=qv fs f (d - 1) _ (D7 f HO HP)
 have nr:(f.fS d).1.n=(f.fS d).2.length:=by
  have hp:(En.rows ((fs++[f]).flatMap FM.rows)).P w1:=H1.get 2
  exact Rt.cX (hp.1 _ (dI jc)).jG
 have hg:∀{L:List En},∀b∈bs,En.g b∈L++G:=λb hb=>wL _ (kS b hb)
 obtain ⟨s',w5,h1,hkp,h3⟩:=H1.Ls (bs:=bs) (ty:=aU) 2 (fs.length *4+(d - 1)) (src:=src) (news:=z4) (K:=λs' w'=>FS2 M w0 w' rb sl st wd fs f (((fs++[f]).flatMap FM.rows).set (fs.length *4+(d - 1)) (s',(f.fS d).2.flatMap Rt.c++z4)) G ts/\s'.n=(f.fS d).1.n+1/\∃q,s'.a=some q) rfl jc (bD.jG (H1.get i hi)) (by simp [Value.oneCell']) (by omega) (λs' w4 H4 zp wG=>⟨H4,by omega,by
  cases hs:s'.a with
  |none=>have:=(wG hs).2;omega
  |some q=>exact ⟨q,rfl⟩⟩) hg
 obtain ⟨H5,hn5,q,hq⟩:=h3
 refine ⟨s',w5,h1,hkp,by omega,by omega,?_⟩
 rw [hq]
 have Ku:fs.length *4+(d - 1)<((fs++[f]).flatMap FM.rows).length:=by rw [rI];simp;omega
 have ec:∀(f:FM) (t:Rt) (d:Nat),(f.fS d).2.flatMap Rt.c++t.c=((f.fS d).2++[t]).flatMap Rt.c:=λf t d=>by simp
 rw [nr]
 refine ⟨?_,?_⟩
 .refine LH.Og (bs:=bs) H5 2 (fs.length *4+(d - 1)) (f.fS d).2.length t rfl (vw Ku) hq (Rt.kz _) (λw' H6=>?_) hg
  have H6:FS2 M w0 w' rb sl st wd fs f ((((fs++[f]).flatMap FM.rows).set (fs.length *4+(d - 1)) (s',(f.fS d).2.flatMap Rt.c++z4)).set (fs.length *4+(d - 1)) (s',(f.fS d).2.flatMap Rt.c++t.c)) G ts:=H6
  rw [List.set_set,ec,vS fs f (s',(f.fS d).2++[t]) HO HP] at H6
  exact H6.GM (bs:=bs) (f:=f) 1 (f.put d (s',(f.fS d).2++[t])) d rfl hp (by omega) (IU f (s',(f.fS d).2++[t]) HO HP) (λwP H7=>hK s' wP H7) hg
 .refine H5.GM (bs:=bs) (f:=f) 1 (f.put d (s',(f.fS d).2++[t])) d rfl hp (by omega) (IU f (s',(f.fS d).2++[t]) HO HP) (λw' H6=>?_) hg
  refine LH.Og (bs:=bs) (L:=SL rb sl st wd ((fs++[f.put d (s',(f.fS d).2++[t])]).flatMap FM.c) (((fs++[f]).flatMap FM.rows).set (fs.length *4+(d - 1)) (s',(f.fS d).2.flatMap Rt.c++z4))++G) H6 2 (fs.length *4+(d - 1)) (f.fS d).2.length t rfl (vw Ku) hq (Rt.kz _) (λwP H7=>?_) hg
  have H7:LH M w0 wP (SL rb sl st wd ((fs++[f.put d (s',(f.fS d).2++[t])]).flatMap FM.c) ((((fs++[f]).flatMap FM.rows).set (fs.length *4+(d - 1)) (s',(f.fS d).2.flatMap Rt.c++z4)).set (fs.length *4+(d - 1)) (s',(f.fS d).2.flatMap Rt.c++t.c))++G) [.trees ts]:=H7
  rw [List.set_set,ec,vS fs f (s',(f.fS d).2++[t]) HO HP] at H7
  exact hK s' wP H7
end
def rH {α:Type} (l:List α):l=[]\/∃a x,l=a++[x]:=by
 rcases List.eq_nil_or_concat l with h|⟨a,x,h⟩
 .exact .inl h
 .exact .inr ⟨a,x,by rw [h,List.concat_eq_append]⟩
def z6 (lo:List FX) (g tp:FX) (st wd:Int) (l:List Rx):qA ⟨lo++[g],tp,st,wd⟩ l=some ⟨lo,qm g (Qe tp.k l),3,wd⟩:=by
 unfold qA
 simp
def Nf (t:Tk) (S:SX):cD->Addr->List FX->FX->Int->Int->List Rt->Prop:=λr f0 lo tp st wd ts=>∃s',Tj (kR s' t S) r f0 lo tp st wd ts
def X4 {w:aA} {rb:Nat} {f0:Addr} {lo:List FX} {tp:FX} {st wd:Int} {own:List Nat} {ts:List Rt} (h:St w rb f0 lo tp st wd own ts) (hl:lo.length<=999999) (hs:Small tp 999999) (h1:st=1->0<=tp.k/\lo≠[]) (t:Tk):
  aH aB nV #[.pointer (some (bO rb)),t.v] w (E1 w own ts rb (Nf t ⟨lo,tp,st,wd⟩)):=by
 obtain ⟨sl,fs,f,p,rfl,rfl,h3,h4,rfl,H⟩:=A2 h
 have OY:fs.length<=999999:=by simpa using hl
 have zp:f.n<=999999:=hs.n'
 have OZ:Small f.x 1000000:=⟨by have:=hs.n';omega,by have:=hs.ar;omega,by have:=hs.al;omega,by have:=hs.an;omega,by have:=hs.ca;omega⟩
 have base:∀b∈Rt.iD ts,b∈Rt.iD ts\/w.heap.size<=b\/b∈own:=λb hb=>.inl hb
 let z:Sl:=⟨none,0,0⟩
 refine regex_reader_feed.dQ _ _ _ _ _ _ w _ (H.cC (bs:=[]) (λb3 w1 H1=>?_) (by simp))
 have H1:SF (·∈own) w w1 rb sl st wd fs f [.g b3] ts:=H1
 refine H1.bC (LI H1 h4 (by omega)) ?_
 rintro _ w2 rfl H2
 have H2:SF (·∈own) w w2 rb sl st wd fs f [.g b3] ts:=H2
 refine ⟨_,rfl,st,H2.ld 0 1,?_⟩
 have item:∀{w2:aA} {Td:Sl} {my VP:Int} {BQ:List FM} {f2:FM} {GN:List Rt} {p2:Addr},SF (·∈own) w w2 rb Td my VP BQ f2 [.g b3] GN->(∀g∈BQ++[f2],∀t∈g.ts,t∈GN)->Td.a=some p2->(∀b∈Rt.iD GN,b∈Rt.iD ts\/w.heap.size<=b\/b∈own)->(∀t∈ts,t∈GN)->BQ.length<=1000000->f2.n<=1000000->
   kR z t ⟨fs.map FM.x,f.x,st,wd⟩=kU t ⟨BQ.map FM.x,f2.x,my,VP⟩->fZ [b3] aB hO #[.pointer (some (bO rb)),t.v] w2 λr_ w5=>∃t34:Bool,r_=aJ (.bool t34)/\E1 w own ts rb (Nf t ⟨fs.map FM.x,f.x,st,wd⟩) (aJ (.bool t34)) w5:=by
  intro w2 Td my VP BQ f2 GN p2 H2 JF Ys Dm WD YC hn2 he
  refine H2.OV (bs:=[b3]) JF Ys (λoo s1=>X6 s1 (by simpa using YC) hn2 t) ?_ (by simp)
  rintro r w3 EL BR f3 p3 nJ GC AA t3 ox wC xW YK H4
  have hb:∀b∈Rt.iD AA,b∈Rt.iD ts\/w.heap.size<=b\/b∈own:=λb hb=>(xW b hb).elim (Dm b) .inr
  rcases YK with ⟨hn,rfl⟩|⟨Uq,rfl⟩
  .exact ⟨false,rfl,kj H4 ox wC hb (λt ht=>t3 t (WD t ht)) ⟨z,.inl ⟨he.trans hn,rfl⟩⟩⟩
  .exact ⟨true,rfl,kj H4 ox wC hb (λt ht=>t3 t (WD t ht)) ⟨z,.inr ⟨he.trans Uq,rfl⟩⟩⟩
 have close:∀{w2:aA} {Td:Sl} {BQ:List FM} {g2 f2:FM} {GN:List Rt} {p2:Addr} {s':Sl} (T:Rt),LH (·∈own) w w2 ([.c rb [Td.v,.int .i64 st,.int .i64 wd] iV,.row c9 10 Td (((BQ++[g2])++[f2]).flatMap FM.c),.rows ((BQ++[g2]).flatMap FM.rows)]++[.g b3]) [.trees GN]->(∀x∈BQ++[g2],∀t∈x.ts,t∈GN)->Td.a=some p2->BQ.length<=999999->T∈GN->(0<=f2.k\/T.l≠[])->(∀b∈Rt.iD GN,b∈Rt.iD ts\/w.heap.size<=b\/b∈own)->(∀t∈ts,t∈GN)->
   kR s' t ⟨fs.map FM.x,f.x,st,wd⟩=some ⟨BQ.map FM.x,qm g2.x (Qe f2.k (Rt.cR T.l)),3,wd⟩->fZ [b3] aB iK #[.pointer (some (bO rb)),T.s.v] w2 λr_ w5=>∃t34:Bool,r_=aJ (.bool t34)/\E1 w own ts rb (Nf t ⟨fs.map FM.x,f.x,st,wd⟩) (aJ (.bool t34)) w5:=by
  intro w2 Td BQ g2 f2 GN p2 s' T H2 JF Ys YC hT hk Dm WD he
  refine LH.csA (rb:=rb) (bs:=[b3]) H2 (λoo HA=>TA HA JF Ys YC T hT hk) ?_ (by simp)
  rintro r w3 EL BR f3 p3 nJ GC AA t3 ox wC xW ⟨rfl,tw,kT,rfl,rfl⟩ H4
  refine ⟨true,rfl,kj H4 ox wC (λb hb=>(xW b hb).elim (Dm b) .inr) (λt ht=>t3 t (WD t ht)) ⟨s',.inr ⟨?_,rfl⟩⟩⟩
  rw [tw,kT]
  exact he
 refine bR (λIf=>?_) (λIf=>?_)
 .have If:st=2:=eq_of_beq If
  refine n7 (n:=40) (by omega) (λhk:t.k=40=>⟨wd,H2.ld 0 2,?_⟩) (λhk:t.k≠40=>?_)
  .refine H2.OV (bs:=[b3]) h3 h4 (λoo s1=>PR s1 (by simp;omega) wd 1) ?_ (by simp)
   rintro _ w3 EL BR f3 p3 nJ GC AA t3 ox wC xW ⟨rfl,tw,kT,rfl,rfl⟩ H4
   refine ⟨true,rfl,kj H4 ox wC xW t3 ⟨z,.inr ⟨?_,rfl⟩⟩⟩
   rw [tw,kT]
   unfold kR
   exact (aN If).trans (aN hk)
  .refine kj H2 h3 h4 base (λ_ h=>h) ⟨z,.inl ⟨?_,rfl⟩⟩
   unfold kR
   exact (aN If).trans (aI hk)
 have n2:st≠2:=λe=>by rw [e] at If;exact absurd If (by decide)
 refine bR (λIg=>?_) (λIg=>?_)
 .have Ig:st=1:=eq_of_beq Ig
  obtain ⟨vU,jx⟩:=h1 Ig
  refine n7 (n:=41) (by omega) (λhk:t.k=41=>?_) (λhk:t.k≠41=>?_)
  .rcases rH fs with rfl|⟨Wf,g,rfl⟩
   .exact absurd rfl jx
   have H3:=Gn H2 3 0 0
   have er:(((Wf++[g])++[f]).flatMap FM.rows)=(Wf++[g]).flatMap FM.rows++f.rows:=by rw [rS (xs:=Wf++[g])];simp
   have H4:LH (·∈own) w w2 (SL rb sl st wd (((Wf++[g])++[f]).flatMap FM.c) ((Wf++[g]).flatMap FM.rows++f.rows)++[.g b3]) [.trees (ts++[.mk 3 0 0 ⟨none,0,0⟩ []])]:=by rw [<-er];exact H3
   have H5:=EI H4 2 rfl
   refine close (s':=z) (.mk 3 0 0 ⟨none,0,0⟩ []) H5 (λx hx u hu=>qy _ (h3 x (qy _ hx) u hu)) h4 (by simp at OY;omega) (by simp) (.inl vU) (λb hb=>.inl (yu hb)) (λu hu=>qy _ hu) ?_
   unfold kR
   refine (aI n2).trans ((aN Ig).trans ((aN hk).trans ?_))
   rw [sP]
   exact z6 _ _ _ _ _ _
  .refine item H2 h3 h4 base (λ_ h=>h) (by omega) (by omega) ?_
   unfold kR
   exact (aI n2).trans ((aN Ig).trans (aI hk))
 have n1:st≠1:=λe=>by rw [e] at Ig;exact absurd Ig (by decide)
 refine bR (λNZ=>?_) (λNZ=>?_)
 .have NZ:st=0:=eq_of_beq NZ
  refine item H2 h3 h4 base (λ_ h=>h) (by omega) (by omega) ?_
  unfold kR
  exact (aI n2).trans ((aI n1).trans (aN NZ))
 have n0:st≠0:=λe=>by rw [e] at NZ;exact absurd NZ (by decide)
 have fe:∀s':Sl,kR s' t ⟨fs.map FM.x,f.x,st,wd⟩=(if t.k=42 then some ⟨fs.map FM.x,qm f.x (.mk 7 0 0 [f.x.la]),st,wd⟩
   else if t.k=38 then some ⟨fs.map FM.x,mj f.x,0,wd⟩
   else if t.k=124 then some ⟨fs.map FM.x,jS f.x,0,wd⟩
   else if t.k=44 then (if f.x.k<0 then none else some ⟨fs.map FM.x,aai s' f.x,0,wd⟩)
   else if t.k=41 then (if fs.map FM.x=[] then none else qA ⟨fs.map FM.x,f.x,st,wd⟩ (f.x.ar.2++[jH f.x]))
   else if t.k=36 then (if fs.map FM.x=[] then some ⟨fs.map FM.x,f.x,st,wd⟩ else none)
   else kU t ⟨fs.map FM.x,iY f.x,st,wd⟩):=λs'=>by
  unfold kR
  exact (aI n2).trans ((aI n1).trans (aI n0))
 refine n7 (n:=42) (by omega) (λhk:t.k=42=>?_) (λUy:t.k≠42=>n7 (n:=38) (by omega) (λhk:t.k=38=>?_) (λWG:t.k≠38=>n7 (n:=124) (by omega) (λhk:t.k=124=>?_) (λKE:t.k≠124=>n7 (n:=44) (by omega) (λhk:t.k=44=>?_) (λk44:t.k≠44=>n7 (n:=41) (by omega) (λhk:t.k=41=>?_) (λk41:t.k≠41=>n7 (n:=36) (by omega) (λhk:t.k=36=>?_) (λk36:t.k≠36=>?_))))))
 .obtain ⟨c0,c1,c2,c3⟩:=H2.Re 1 rfl h4
  refine nD ⟨_,_,_,_,c0,c1,c2,c3,?_⟩
  refine H2.ko (e:=aL) (sz:=4) (n:=1) (cs:=f.la.c) rfl (by decide) λw7 H7=>nD ?_
  have a1:((p.add (fs.length *10)).add 6).add 1=(p.add (fs.length *10)).add 7:=add_add _ 6 1
  have a2:((p.add (fs.length *10)).add 6).add 2=(p.add (fs.length *10)).add 8:=add_add _ 6 2
  have a3:((p.add (fs.length *10)).add 6).add 3=(p.add (fs.length *10)).add 9:=add_add _ 6 3
  rw [a1,a2,a3]
  refine H7.GM (bs:=[b3]) (f:=f) 1 ⟨f.k,f.ar,f.al,f.an,f.ca,f.n,.mk 7 f.la.lo f.la.hi f.la.s f.la.l⟩ 6 rfl h4 (by omega) rfl (λw8 H8=>?_) (by simp)
  refine H8.GM (bs:=[b3]) (f:=⟨f.k,f.ar,f.al,f.an,f.ca,f.n,.mk 7 f.la.lo f.la.hi f.la.s f.la.l⟩) 1 ⟨f.k,f.ar,f.al,f.an,f.ca,f.n,.mk 7 0 f.la.hi f.la.s f.la.l⟩ 7 rfl h4 (by omega) rfl (λw9 H9=>?_) (by simp)
  refine H9.GM (bs:=[b3]) (f:=⟨f.k,f.ar,f.al,f.an,f.ca,f.n,.mk 7 0 f.la.hi f.la.s f.la.l⟩) 1 ⟨f.k,f.ar,f.al,f.an,f.ca,f.n,.mk 7 0 0 f.la.s f.la.l⟩ 8 rfl h4 (by omega) rfl (λtB qe=>?_) (by simp)
  refine qe.GM (bs:=[b3]) (f:=⟨f.k,f.ar,f.al,f.an,f.ca,f.n,.mk 7 0 0 f.la.s f.la.l⟩) 1 ⟨f.k,f.ar,f.al,f.an,f.ca,f.n,.mk 7 0 0 ⟨some (bO w2.heap.size),1,1⟩ [f.la]⟩ 9 rfl h4 (by omega) rfl (λyY y8=>?_) (by simp)
  have Mb:f.la∈ts:=h3 f (by simp) _ (by simp [FM.ts])
  have Dr:=y8.freeze 4 (Rt.row ⟨some (bO w2.heap.size),1,1⟩ [f.la]) rfl (by show lN 4 yY _ ([f.la].flatMap Rt.c);rw [show [f.la].flatMap Rt.c=f.la.c by simp];exact bD.jG (y8.get 4)) (λb hb=>gP (e:=aL) (vs:=[f.la].flatMap Rt.c) hb)
  have Di:=Dr.node 0 7 0 0 (s:=⟨some (bO w2.heap.size),1,1⟩) (ks:=[f.la]) rfl (by simp) (λt ht=>by simp at ht;subst ht;exact Mb)
  have er:(fs++[f]).flatMap FM.rows=(fs++[(⟨f.k,f.ar,f.al,f.an,f.ca,f.n,.mk 7 0 0 ⟨some (bO w2.heap.size),1,1⟩ [f.la]⟩:FM)]).flatMap FM.rows:=by simp [FM.rows]
  have Ng:SF (·∈own) w yY rb sl st wd fs ⟨f.k,f.ar,f.al,f.an,f.ca,f.n,.mk 7 0 0 ⟨some (bO w2.heap.size),1,1⟩ [f.la]⟩ [.g b3] (ts++[.mk 7 0 0 ⟨some (bO w2.heap.size),1,1⟩ [f.la]]):=by
   show LH _ _ _ (SL rb sl st wd _ ((fs++[(⟨f.k,f.ar,f.al,f.an,f.ca,f.n,.mk 7 0 0 ⟨some (bO w2.heap.size),1,1⟩ [f.la]⟩:FM)]).flatMap FM.rows)++_) _
   rw [<-er]
   exact Di
  refine kj Ng (λg hg u hu=>?_) h4 (λb hb=>?_) (λu hu=>qy _ hu) ⟨z,.inr ⟨?_,rfl⟩⟩
  .rcases gg.1 hg with hg|hg
   .exact qy _ (h3 g (by simp [hg]) u hu)
   .simp at hg;subst hg
    simp only [FM.ts,gg,dT,gL,or_false] at hu
    rcases hu with (((hu|hu)|hu)|hu)|rfl
    .exact qy _ (h3 f (by simp) u (by simp [FM.ts,hu]))
    .exact qy _ (h3 f (by simp) u (by simp [FM.ts,hu]))
    .exact qy _ (h3 f (by simp) u (by simp [FM.ts,hu]))
    .exact qy _ (h3 f (by simp) u (by simp [FM.ts,hu]))
    .simp
  .obtain ⟨u,hu,Ua⟩:=Rt.bU.1 hb
   rcases gg.1 hu with hu|hu
   .exact .inl (Rt.bU.2 ⟨u,hu,Ua⟩)
   .simp at hu
    rw [hu] at Ua
    rcases Rt.fJ.1 Ua with Ua|Ua
    .have:=gP (e:=aL) Ua
     simp [En.row,bQ,Rt.s] at this
     subst this
     exact .inr (.inl H2.fr.size)
    .obtain ⟨t',ph,fA⟩:=Rt.bU.1 Ua
     simp [Rt.l] at ph
     rw [ph] at fA
     exact .inl (Rt.bU.2 ⟨f.la,Mb,fA⟩)
  .rw [fe,aN hk];rfl
 .refine H2.OV (bs:=[b3]) h3 h4 (λoo s1=>E9 (Hf s1 OZ.n' OZ.ca OZ.an)) ?_ (by simp)
  rintro _ w3 EL BR f3 p3 nJ GC AA t3 ox wC xW ⟨rfl,SS,tw,kT,rfl,rfl⟩ H3
  refine ⟨rfl,H3.stk (bs:=[b3]) 0 1 rfl (λw4 H4=>?_) (by simp) (by simp)⟩
  refine kj (show SF (·∈own) w w4 rb EL 0 GC BR f3 [.g b3] AA from H4) ox wC xW t3 ⟨z,.inr ⟨?_,rfl⟩⟩
  rw [fe,aI Uy,aN hk,tw,kT]
 .refine H2.OV (bs:=[b3]) h3 h4 (λoo s1=>E9 (DY s1 OZ.n' OZ.ca OZ.an OZ.al)) ?_ (by simp)
  rintro _ w3 EL BR f3 p3 nJ GC AA t3 ox wC xW ⟨rfl,SS,tw,kT,rfl,rfl⟩ H3
  refine ⟨rfl,H3.stk (bs:=[b3]) 0 1 rfl (λw4 H4=>?_) (by simp) (by simp)⟩
  refine kj (show SF (·∈own) w w4 rb EL 0 GC BR f3 [.g b3] AA from H4) ox wC xW t3 ⟨z,.inr ⟨?_,rfl⟩⟩
  rw [fe,aI Uy,aI WG,aN hk,tw,kT]
 .refine nD ⟨f.k,H2.Ca 1 rfl h4 0,bR (λh0=>?_) (λh0=>?_)⟩
  .refine kj H2 h3 h4 base (λ_ h=>h) ⟨z,.inl ⟨?_,rfl⟩⟩
   rw [fe,aI Uy,aI WG,aI KE,aN hk]
   exact aN (of_decide_eq_true h0)
  have fin:∀{w5:aA} {EL:Sl} {BR:List FM} {f3:FM} {p3:Addr} {AA:List Rt} {s':Sl} {u:Rt} {G:List En},SF (·∈own) w w5 rb EL st wd BR (f3.put 1 (s',(f3.fS 1).2++[u])) G AA->(∀g∈BR++[f3],∀t∈g.ts,t∈AA)->EL.a=some p3->(∀b∈Rt.iD AA,b∈Rt.iD ts\/w.heap.size<=b\/b∈own)->(∀t∈ts,t∈AA)->BR.map FM.x=fs.map FM.x->f3.x=BI f.x->u∈AA->u.rx=jH f.x->
    regex_reader_feed.gW (bO rb) w5 (E1 w own ts rb (Nf t ⟨fs.map FM.x,f.x,st,wd⟩)):=by
   intro w5 EL BR f3 p3 AA s' u G H5 ox wC hb3 ht3 tw kT hu hx
   refine H5.st 0 1 rfl λw6 H6=>?_
   refine kj (show SF (·∈own) w w6 rb EL 0 wd BR (f3.put 1 (s',(f3.fS 1).2++[u])) G AA from H6) (λg hg v hv=>?_) wC hb3 ht3 ⟨s',.inr ⟨?_,rfl⟩⟩
   .rcases gg.1 hg with hg|hg
    .exact ox g (by simp [hg]) v hv
    .simp at hg;subst hg
     rcases Gd _ _ (by omega) (by omega) hv with h|h
     .exact ox f3 (by simp) v h
     .rcases gg.1 h with h|h
      .exact ox f3 (by simp) v (tF f3 1 h)
      .simp at h;subst h;exact hu
   .have e1:f3.k=f.k:=by have:=congrArg FX.k kT;exact this
    have e2:Rt.cR f3.ar.2=Rt.cR f.ar.2:=by have:=congrArg (λx:FX=>x.ar.2) kT;exact this
    have e3:Rt.cR f3.al.2=[]:=by have:=congrArg FX.al kT;exact this
    have e4:Rt.cR f3.an.2=[]:=by have:=congrArg FX.an kT;exact this
    have e5:Rt.cR f3.ca.2=[]:=by have:=congrArg FX.ca kT;exact this
    have e6:f3.n=0:=by have:=congrArg FX.n kT;exact this
    have e7:f3.la.rx=f.x.la:=by have:=congrArg FX.la kT;exact this
    rw [fe,aI Uy,aI WG,aI KE,aN hk]
    refine (aI (of_decide_eq_false h0)).trans ?_
    show some (SX.mk _ ⟨_,(s',Rt.cR f.ar.2++[jH f.x]),[],[],[],0,f.x.la⟩ 0 wd)=some (SX.mk (BR.map FM.x) ⟨f3.k,(s',Rt.cR (f3.ar.2++[u])),Rt.cR f3.al.2,Rt.cR f3.an.2,Rt.cR f3.ca.2,f3.n,f3.la.rx⟩ 0 wd)
    rw [tw,e1,e3,e4,e5,e6,e7,lJ,e2]
    show some (SX.mk _ ⟨_,(s',Rt.cR f.ar.2++[jH f.x]),[],[],[],0,f.x.la⟩ 0 wd)=some (SX.mk _ ⟨_,(s',Rt.cR f.ar.2++[u.rx]),[],[],[],0,f.x.la⟩ 0 wd)
    rw [hx]
    rfl
  refine nD (H2.bH (bs:=[b3]) (λSE O8=>⟨f.ar.1,O8.Ca 1 rfl h4 1,?_,?_⟩) (by simp))
  .refine (show SF (·∈own) w SE rb sl st wd fs f [.g b3] ts from O8).OV (bs:=[b3]) h3 h4 (λoo s1=>vM s1 OZ) ?_ (by simp)
   rintro r Te EL BR f3 p3 nJ GC AA t3 ox wC xW ⟨Z9,tw,kT,rfl,rfl,u,hu,rfl,hx⟩ AQ
   have ear:f3.ar.1=f.ar.1:=by have:=congrArg (λx:FX=>x.ar.1) kT;exact this
   refine ⟨u.k,u.lo.toNat,u.hi.toNat,u.s,rfl,?_⟩
   rw [<-Z9,<-ear]
   refine ⟨AQ.Ca 1 rfl wC 1,AQ.ko (e:=aL) (sz:=4) (n:=1) (cs:=z4) rfl (by decide) λTf O9=>⟨O9.Ca 1 rfl wC 1,?_⟩⟩
   have L7:(f3.fS 1).2.length<=1000000:=by
    have e:f3.x.ar.2.length=f3.ar.2.length:=(Km f3).1
    rw [kT] at e
    have:f.x.ar.2.length<=999999:=hs.ar
    show f3.ar.2.length<=_
    rw [<-e];show f.x.ar.2.length<=_;omega
   exact RL (bs:=[b3]) (K:=λw5=>regex_reader_feed.gW (bO rb) w5 (E1 w own ts rb (Nf t ⟨fs.map FM.x,f.x,nJ,GC⟩))) (show SF (·∈own) w Tf rb EL nJ GC BR f3 ([.g b3]++[.row aL 4 ⟨some (bO Te.heap.size),1,1⟩ z4]) AA from O9) 4 rfl wC 1 (by omega) (by omega) u L7 rfl (λs' w5 H5=>fin H5 ox wC xW t3 tw kT hu hx) (by simp)
  .refine O8.ko (e:=aL) (sz:=4) (n:=1) (cs:=z4) rfl (by decide) λw30 H30=>⟨H30.Ca 1 rfl h4 1,?_⟩
   refine (show SF (·∈own) w w30 rb sl st wd fs f ([.g b3]++[.row aL 4 ⟨some (bO SE.heap.size),1,1⟩ z4]) ts from H30).OV (bs:=[b3]) h3 h4 (λoo s1=>vM s1 OZ) ?_ (by simp)
   rintro r Te EL BR f3 p3 nJ GC AA t3 ox wC xW ⟨Z9,tw,kT,rfl,rfl,u,hu,rfl,hx⟩ AQ
   have ear:f3.ar.1=f.ar.1:=by have:=congrArg (λx:FX=>x.ar.1) kT;exact this
   refine ⟨u.k,u.lo.toNat,u.hi.toNat,u.s,rfl,?_⟩
   rw [<-Z9,<-ear]
   refine ⟨AQ.Ca 1 rfl wC 1,?_⟩
   have L7:(f3.fS 1).2.length<=1000000:=by
    have e:f3.x.ar.2.length=f3.ar.2.length:=(Km f3).1
    rw [kT] at e
    have:f.x.ar.2.length<=999999:=hs.ar
    show f3.ar.2.length<=_
    rw [<-e];show f.x.ar.2.length<=_;omega
   exact RL (bs:=[b3]) (K:=λw5=>regex_reader_feed.gW (bO rb) w5 (E1 w own ts rb (Nf t ⟨fs.map FM.x,f.x,nJ,GC⟩))) AQ 4 rfl wC 1 (by omega) (by omega) u L7 rfl (λs' w5 H5=>fin H5 ox wC xW t3 tw kT hu hx) (by simp)
 .refine H2.bH (bs:=[b3]) (λw43 XL=>⟨sl,XL.ld 0 0,?_⟩) (by simp)
  have XL:SF (·∈own) w w43 rb sl st wd fs f [.g b3] ts:=XL
  have WA:=Vo XL
  rcases rH fs with rfl|⟨Wf,g,rfl⟩
  .refine aX (aK (by rw [WA];simp)) ?_
   refine kj XL h3 h4 base (λ_ h=>h) ⟨z,.inl ⟨?_,rfl⟩⟩
   rw [fe,aI Uy,aI WG,aI KE,aI k44,aN hk]
   rfl
  .refine bF (aO (by rw [WA];simp;omega)) (nD ⟨f.ar.1,XL.Ca 1 rfl h4 1,?_⟩)
   refine XL.OV (bs:=[b3]) h3 h4 (λoo s1=>vM s1 OZ) ?_ (by simp)
   rintro r w44 EL BR f3 p3 nJ GC AA t3 ox wC xW ⟨Z9,tw,kT,rfl,rfl,u,hu,rfl,hx⟩ H44
   have ear:f3.ar.1=f.ar.1:=by have:=congrArg (λx:FX=>x.ar.1) kT;exact this
   refine ⟨u.k,u.lo.toNat,u.hi.toNat,u.s,rfl,?_⟩
   rw [<-Z9,<-ear]
   refine ⟨H44.Ca 1 rfl wC 1,H44.ko (e:=aL) (sz:=4) (n:=1) (cs:=u.c) rfl (by decide) λw45 H45=>⟨H45.Ca 1 rfl wC 1,?_⟩⟩
   have acB:∃Dk g1,BR=Dk++[g1]/\Dk.map FM.x=Wf.map FM.x/\g1.x=g.x:=by
    rcases rH BR with rfl|⟨Dk,g1,rfl⟩
    .simp at tw
    .refine ⟨Dk,g1,rfl,?_⟩
     rw [sP,sP] at tw
     have:=List.append_inj' tw rfl
     exact ⟨this.1,by simpa using this.2⟩
   obtain ⟨Dk,g1,rfl,hfs,Yx⟩:=acB
   have jc:(((Dk++[g1])++[f3]).flatMap FM.rows)[(Dk++[g1]).length *4+0]? =some (f3.ar.1,f3.ar.2.flatMap Rt.c):=qv (Dk++[g1]) f3 0 _ rfl
   have L7:f3.ar.2.length<=999999:=by
    have e:f3.x.ar.2.length=f3.ar.2.length:=(Km f3).1
    rw [kT] at e
    have:f.x.ar.2.length<=999999:=hs.ar
    rw [<-e];exact this
   have nr:f3.ar.1.n=f3.ar.2.length:=by
    have hp:(En.rows (((Dk++[g1])++[f3]).flatMap FM.rows)).P w45:=H45.get 2
    exact Rt.cX (hp.1 _ (dI jc)).jG
   refine H45.Ls (bs:=[b3]) 2 ((Dk++[g1]).length *4+0) (src:=⟨some (bO w44.heap.size),1,1⟩) (news:=u.c) rfl jc (bD.jG (H45.get 4)) (by simp [Value.oneCell',Rt.c]) (by show (f3.ar.1.n+1) *40<=_;omega) (λs' w46 H46 zp wG=>?_) (by simp)
   have Ku:(Dk++[g1]).length *4+0<(((Dk++[g1])++[f3]).flatMap FM.rows).length:=by rw [rI];simp
   have q5:∀b∈bQ s',b∈own\/w.heap.size<=b:=λb hb=>(H46.new (.rows ((((Dk++[g1])++[f3]).flatMap FM.rows).set ((Dk++[g1]).length *4+0) (s',f3.ar.2.flatMap Rt.c++u.c))) (by simp) b (aV.2 (nG.2 ⟨_,dI (vw Ku),hb⟩))).symm
   have H47:=H46.Fz 2 ((Dk++[g1]).length *4+0) rfl (vw Ku)
   have ec:f3.ar.2.flatMap Rt.c++u.c=(f3.ar.2++[u]).flatMap Rt.c:=by simp
   rw [ec] at H47
   have H48:=H47.node 0 3 0 0 (s:=s') (ks:=f3.ar.2++[u]) rfl (wL _ (List.mem_singleton.2 rfl)) (λv hv=>by
    rcases gg.1 hv with hv|hv
    .exact ox f3 (by simp) v (tF f3 1 hv)
    .simp at hv;subst hv;exact hu)
   have er:(((((Dk++[g1])++[f3]).flatMap FM.rows).set ((Dk++[g1]).length *4+0) (s',(f3.ar.2++[u]).flatMap Rt.c)).set ((Dk++[g1]).length *4+0) (⟨none,0,0⟩,[]))=(Dk++[g1]).flatMap FM.rows++f3.rows.set 0 (⟨none,0,0⟩,[]):=by
    rw [List.set_set]
    exact Cz (Dk++[g1]) f3 0 _ (by omega)
   have H49:LH (·∈own) w w46 (SL rb EL nJ GC (((Dk++[g1])++[f3]).flatMap FM.c) ((Dk++[g1]).flatMap FM.rows++f3.rows.set 0 (⟨none,0,0⟩,[]))++[.g b3]) [.trees (AA++[.mk 3 0 0 s' (f3.ar.2++[u])])]:=by
    rw [<-er]
    exact H48.take 4
   have H50:=EI H49 2 rfl
   have Kw:f3.k=f.k:=by have:=congrArg FX.k kT;exact this
   refine close (s':=z) (.mk 3 0 0 s' (f3.ar.2++[u])) H50 (λx hx v hv=>qy _ (ox x (qy _ hx) v hv)) wC ?_ (by simp) (.inr (by simp [Rt.l])) ?_ (λv hv=>qy _ (t3 v hv)) ?_
   .have:=congrArg List.length hfs
    simp at this OY
    omega
   .intro b hb
    obtain ⟨v,hv,Yv⟩:=Rt.bU.1 hb
    rcases gg.1 hv with hv|hv
    .exact xW b (Rt.bU.2 ⟨v,hv,Yv⟩)
    .simp at hv
     rw [hv] at Yv
     rcases Rt.fJ.1 Yv with Yv|Yv
     .exact .inr (q5 b (gP (e:=aL) Yv)).symm
     .obtain ⟨t',ph,fA⟩:=Rt.bU.1 Yv
      have ph:t'∈f3.ar.2++[u]:=ph
      refine xW b (Rt.bU.2 ⟨t',?_,fA⟩)
      rcases gg.1 ph with ph|ph
      .exact ox f3 (by simp) t' (tF f3 1 ph)
      .simp at ph;subst ph;exact hu
   .rw [fe,aI Uy,aI WG,aI KE,aI k44,aN hk]
    refine (aI (by simp)).trans ?_
    rw [sP]
    refine (z6 _ _ _ _ _ _).trans ?_
    have e2:Rt.cR f3.ar.2=f.x.ar.2:=by have:=congrArg (λx:FX=>x.ar.2) kT;exact this
    rw [hfs,Yx,Kw]
    show _=some (SX.mk _ (qm g.x (Qe f.k (Rt.cR (f3.ar.2++[u])))) 3 GC)
    rw [lJ,e2]
    show _=some (SX.mk _ (qm g.x (Qe f.k (f.x.ar.2++[u.rx]))) 3 GC)
    rw [hx]
    rfl
 .refine ⟨sl,H2.ld 0 0,?_⟩
  have WA:=Vo H2
  rcases rH fs with rfl|⟨Wf,g,rfl⟩
  .have e:(((sl.n:Nat):Int)==1)=true:=by rw [WA];rfl
   rw [e]
   refine kj H2 h3 h4 base (λ_ h=>h) ⟨z,.inr ⟨?_,rfl⟩⟩
   rw [fe,aI Uy,aI WG,aI KE,aI k44,aI k41,aN hk]
   rfl
  .have e:(((sl.n:Nat):Int)==1)=false:=by rw [WA];simp;omega
   rw [e]
   refine kj H2 h3 h4 base (λ_ h=>h) ⟨z,.inl ⟨?_,rfl⟩⟩
   rw [fe,aI Uy,aI WG,aI KE,aI k44,aI k41,aN hk]
   exact aI (by simp)
 .refine H2.OV (bs:=[b3]) h3 h4 (λoo s1=>E9 (DZ s1 OZ.n' OZ.ca)) ?_ (by simp)
  rintro _ w3 EL BR f3 p3 nJ GC AA t3 ox wC xW ⟨rfl,SS,tw,kT,rfl,rfl⟩ H3
  refine ⟨rfl,item H3 ox wC xW t3 ?_ ?_ ?_⟩
  .have:=congrArg List.length tw
   simp at this
   omega
  .have e5:f3.n=0:=by have:=congrArg FX.n kT;exact this
   omega
  .rw [fe,aI Uy,aI WG,aI KE,aI k44,aI k41,aI k36,tw,kT]
set_option maxRecDepth 100000
def yN (s:ByteArray) (c:UInt8) (w:aA):Sem.run aB (callFunc eZ #[.string s,.int .u8 (c.toNat:Int)]) w=.ok (.value (.int .i64 (Go.Lib.indexByte (bl s) c))) w:=by
 have h:=run_callFunc_indexByte (P:=aB) (f:=eZ) (fn:=(Tryz.prog.funcs[eZ]?).getD default) (by kernel_rfl) (by kernel_rfl) (by kernel_rfl) (by kernel_rfl) (by kernel_rfl) #[.string s,.int .u8 (c.toNat:Int)] w
 rw [h,Go.Lib.run_indexByteString]
 show Result.ok _ w=_
 congr 4
 simp
def vD (s:ByteArray) (c:UInt8) (w:aA):aH aB iZ #[.string s,.int .u8 (c.toNat:Int)] w λr w'=>r=aJ (.int .i64 (Go.Lib.indexByte (bl s) c))/\bW w w':=by
 refine strings_IndexByte.ok _ _ w _ ?_
 refine (show aH aB g9 #[.string s,.int .u8 (c.toNat:Int)] w λr w'=>r=aJ (.int .i64 (Go.Lib.indexByte (bl s) c))/\w=w' from ?_).mono ?_
 .exact internal_stringslite_IndexByte.ok _ _ w _ ⟨_,w,yN s c w,rfl,rfl⟩
 .rintro r w1 ⟨rfl,rfl⟩
  exact ⟨_,rfl,rfl,Fr.refl _ _⟩
def oL (c:UInt8):Bool:=aR (97<=c.toNat)&&aR (c.toNat<=122)
def zF (c:UInt8):Bool:=aR (32<=c.toNat)&&(aR (c.toNat<=126)&&(!decide (c=39)&&!decide (c=92)))
def AU (c:UInt8) (w:aA):aH aB lZ #[.int .u8 (c.toNat:Int)] w λr w'=>r=aJ (.bool (oL c))/\bW w w':=by
 refine regex_small.ok _ w _ (bA (λh=>⟨?_,Fr.refl _ _⟩) (λh=>⟨?_,Fr.refl _ _⟩))
 .unfold oL
  rw [aO (show 97<=c.toNat by omega),Bool.true_and]
  rw [show aR ((c.toNat:Int)<=122)=aR (c.toNat<=122) from decide_eq_decide.2 (by omega)]
 .unfold oL
  rw [aK (show ¬97<=c.toNat by omega),Bool.false_and]
def Sx (c:UInt8) (n:Nat) (hn:n<256):(((c.toNat:Nat):Int)==(n:Int))=aR (c=UInt8.ofNat n):=by
 have e:c.toNat=n↔c=UInt8.ofNat n:=by
  rw [<-UInt8.toNat_inj,UInt8.toNat_ofNat']
  omega
 rw [Bool.eq_iff_iff,beq_iff_eq,decide_eq_true_iff,<-e]
 omega
def LG (c:UInt8) (w:aA):aH aB qj #[.int .u8 (c.toNat:Int)] w λr w'=>r=aJ (.bool (zF c))/\bW w w':=by
 have e39:(((c.toNat:Nat):Int) !=39)= !decide (c=39):=by
  have:=Sx c 39 (by omega)
  show (!(((c.toNat:Nat):Int)==((39:Nat):Int)))=_
  rw [this];rfl
 have e92:(((c.toNat:Nat):Int) !=92)= !decide (c=92):=by
  have:=Sx c 92 (by omega)
  show (!(((c.toNat:Nat):Int)==((92:Nat):Int)))=_
  rw [this];rfl
 refine regex_plain.ok _ w _ ?_
 rw [e39,e92]
 unfold zF
 refine bA (λh=>?_) (λh=>⟨?_,Fr.refl _ _⟩)
 .rw [aO (show 32<=c.toNat by omega),Bool.true_and]
  refine bA (λh2=>?_) (λh2=>⟨?_,Fr.refl _ _⟩)
  .rw [aO (show c.toNat<=126 by omega),Bool.true_and]
   refine bR (λh3=>⟨?_,Fr.refl _ _⟩) (λh3=>⟨?_,Fr.refl _ _⟩)
   .rw [h3,Bool.true_and]
   .rw [h3,Bool.false_and]
  .rw [aK (show ¬c.toNat<=126 by omega),Bool.false_and]
 .rw [aK (show ¬32<=c.toNat by omega),Bool.false_and]
def X1 {s:ByteArray} {l:List UInt8} (h:bl s=l) (i:Nat):s[i]? =l[i]?:=by
 subst h
 by_cases hi:i<s.size
 .rw [getElem?_pos s i hi,ie (by rw [iH];exact hi)];rfl
 .rw [getElem?_neg s i hi,List.getElem?_eq_none (by rw [iH];omega)]
def zL {s:ByteArray} {i:Nat} (h:i<s.size):s[i]? =some ((bl s).getD i 0):=by
 rw [X1 (s:=s) (l:=bl s) rfl i]
 have hl:i<(bl s).length:=by rw [iH];exact h
 rw [List.getD_eq_getElem?_getD,ie hl]
 rfl
def HV:List UInt8:=[48,49,50,51,52,53,54,55,56,57,97,98,99,100,101,102]
def acA (a b:Int):UInt8:=UInt8.ofNat (aC .u8 (bOr .i64 (aC .i64 (a *2^4)) b)).toNat
def r9 (l:List UInt8) (i:Nat):Option (UInt8×Nat):=
 if i+2<l.length/\l.getD i 0=39/\zF (l.getD (i+1) 0)=true/\l.getD (i+2) 0=39 then some (l.getD (i+1) 0,3)
 else if i+3<l.length/\l.getD i 0=92/\l.getD (i+1) 0=120/\0<=Go.Lib.indexByte HV (l.getD (i+2) 0)/\0<=Go.Lib.indexByte HV (l.getD (i+3) 0) then some (acA (Go.Lib.indexByte HV (l.getD (i+2) 0)) (Go.Lib.indexByte HV (l.getD (i+3) 0)),4)
 else none
def hV:Option (UInt8×Nat)->aD
 |none=>.tuple #[.int .u8 0,.int .i64 0,.bool false]
 |some (b,n)=>.tuple #[.int .u8 (b.toNat:Int),.int .i64 (n:Int),.bool true]
def A8 {x:UInt8} {n:Nat} {A B:Prop} (hn:n<256) (h1:x=UInt8.ofNat n->A) (h2:x≠UInt8.ofNat n->B):aW (((x.toNat:Nat):Int)==(n:Int)) A B:=n7 hn h1 h2
def GG (x:Int):((UInt8.ofNat (aC .u8 x).toNat).toNat:Int)=aC .u8 x:=by
 rw [UInt8.toNat_ofNat',IntKind.wrap_u8]
 omega
def Bq (s:ByteArray) (i:Nat) (hi:i<=1000000) (w:aA):aH aB mU #[.string s,.int .i64 (i:Int)] w λr w'=>r=aJ (hV (r9 (bl s) i))/\bW w w':=by
 have e1:aC .i64 ((i:Int)+1)=((i+1:Nat):Int):=by rw [aS _ (by omega)];omega
 have e2:aC .i64 ((i:Int)+2)=((i+2:Nat):Int):=by rw [aS _ (by omega)];omega
 have e3:aC .i64 ((i:Int)+3)=((i+3:Nat):Int):=by rw [aS _ (by omega)];omega
 have hl:(bl s).length=s.size:=iH s
 have hex:¬(i+2<(bl s).length/\(bl s).getD i 0=39/\zF ((bl s).getD (i+1) 0)=true/\(bl s).getD (i+2) 0=39)->∀w',bW w w'->regex_byteAt.S0 s i w' (λr w'=>r=aJ (hV (r9 (bl s) i))/\bW w w'):=by
  intro hq w' hf
  have no:¬(i+3<(bl s).length/\(bl s).getD i 0=92/\(bl s).getD (i+1) 0=120/\0<=Go.Lib.indexByte HV ((bl s).getD (i+2) 0)/\0<=Go.Lib.indexByte HV ((bl s).getD (i+3) 0))->∀w',bW w w'->regex_byteAt.S1 w' (λr w'=>r=aJ (hV (r9 (bl s) i))/\bW w w'):=λhn w' hf=>by
   refine ⟨?_,hf⟩
   unfold r9
   rw [aI hq,aI hn]
   rfl
  show aW _ _ _
  rw [e3,e2,e1]
  refine bA (λh3=>⟨by omega,_,zL (i:=i) (by omega),A8 (n:=92) (by omega) (λhc=>⟨by omega,_,zL (i:=i+1) (by omega),A8 (n:=120) (by omega) (λhx=>?_) (λhx=>no (λh=>hx h.2.2.1) w' hf)⟩) (λhc=>no (λh=>hc h.2.1) w' hf)⟩) (λh3=>no (λh=>by omega) w' hf)
  refine (show LH F0 w w' [] [] from ((LH.start (M:=F0) (w:=w) [] (by simp)).qx hf)).dr λw1 H1=>⟨by omega,_,zL (i:=i+2) (by omega),by omega,_,zL (i:=i+3) (by omega),H1.call (vD _ _ _) ?_⟩
  rintro _ w2 rfl H2
  refine ⟨_,rfl,H2.call (vD _ _ _) ?_⟩
  rintro _ w3 rfl H3
  refine ⟨_,rfl,?_⟩
  show aW (aR (Go.Lib.indexByte HV _>=0)) (aW (aR (Go.Lib.indexByte HV _>=0)) _ _) _
  refine bA (λha=>bA (λhb=>⟨?_,H3.fr⟩) (λhb=>no (λh=>hb h.2.2.2.2) w3 H3.fr)) (λha=>no (λh=>ha h.2.2.2.1) w3 H3.fr)
  unfold r9
  rw [aI hq,aN ⟨by omega,hc,hx,ha,hb⟩]
  exact congrArg (λx=>Ending.returned (.tuple #[.int .u8 x,.int .i64 4,.bool true])) (GG _).symm
 refine regex_byteAt.ok _ _ w _ ?_
 rw [e2,e1]
 refine bA (λh2=>⟨by omega,_,zL (i:=i) (by omega),A8 (n:=39) (by omega) (λhc=>⟨by omega,_,zL (i:=i+1) (by omega),(LG _ w).mono ?_⟩) (λhc=>hex (λh=>hc h.2.1) w (Fr.refl _ _))⟩) (λh2=>hex (λh=>by omega) w (Fr.refl _ _))
 rintro _ w1 ⟨rfl,f1⟩
 refine ⟨_,rfl,bR (λhp=>⟨by omega,_,zL (i:=i+2) (by omega),A8 (n:=39) (by omega) (λhd=>⟨by omega,_,zL (i:=i+1) (by omega),?_,f1⟩) (λhd=>hex (λh=>hd h.2.2.2) w1 f1)⟩) (λhp=>hex (λh=>by rw [h.2.2.1] at hp;cases hp) w1 f1)⟩
 unfold r9
 rw [aN ⟨by omega,hc,hp,hd⟩]
 rfl
def abo:List UInt8:=[40,41,44,124,38,33,42]
def oN (l:List UInt8) (i:Nat):Tk×Nat:=
 if 0<=Go.Lib.indexByte abo (l.getD i 0) then (⟨l.getD i 0,0,0,[],i⟩,1)
 else if oL (l.getD i 0)=true then (⟨119,0,0,(l.drop i).takeWhile oL,i⟩,((l.drop i).takeWhile oL).length)
 else if l.getD i 0=91 then
  match r9 l (i+1) with
  |none=>(⟨63,0,0,[],i⟩,1)
  |some (lo,m)=>
   if i+1+m<l.length/\l.getD (i+1+m) 0=45 then
    match r9 l (i+1+m+1) with
    |none=>(⟨63,0,0,[],i⟩,1)
    |some (hi,m2)=>if i+1+m+(1+m2)<l.length/\l.getD (i+1+m+(1+m2)) 0=93/\lo.toNat<=hi.toNat then (⟨114,lo,hi,[],i⟩,1+m+(1+m2)+1) else (⟨63,0,0,[],i⟩,1)
   else (⟨63,0,0,[],i⟩,1)
 else match r9 l i with
  |some (b,n)=>(⟨114,b,b,[],i⟩,n)
  |none=>(⟨63,0,0,[],i⟩,1)
def VG (x:Tk×Nat):aD:=.tuple #[x.1.v,.int .i64 (x.2:Int)]
def zd {l:List UInt8} {i:Nat} {b:UInt8} {n:Nat} (h:r9 l i=some (b,n)):(n=3\/n=4)/\i+n<=l.length:=by
 unfold r9 at h
 split at h
 .cases h;rename_i hc;omega
 .split at h
  .cases h;rename_i hc;omega
  .cases h
def wN:∀(l:List UInt8) (m:Nat) (p:UInt8->Bool),m<=l.length->(∀k<m,p (l.getD k 0)=true)->(m<l.length->p (l.getD m 0)=false)->(l.takeWhile p)=l.take m
 |[],m,p,hm,_,_=>by simp
 |c::l,0,p,hm,_,hs=>by
  have:p c=false:=hs (by simp)
  simp [this]
 |c::l,m+1,p,hm,ha,hs=>by
  have hc:p c=true:=ha 0 (by omega)
  rw [List.takeWhile_cons,aN hc,List.take_succ_cons,wN l m p (by simpa using hm) (λk hk=>by simpa using ha (k+1) (by omega)) (λh=>by simpa using hs (by simpa using h))]
def Eg (l:List UInt8) (i k:Nat):(l.drop i).getD k 0=l.getD (i+k) 0:=by
 rw [List.getD_eq_getElem?_getD,List.getD_eq_getElem?_getD,List.getElem?_drop]
def Nv (s:ByteArray) (hs:s.size<=900000) (i:Nat) (hi:i<s.size) (w:aA):aH aB qH #[.string s,.int .i64 (i:Int)] w λr w'=>r=aJ (VG (oN (bl s) i))/\bW w w':=by
 have hl:(bl s).length=s.size:=iH s
 refine regex_tokenAt.dQ _ _ w _ ((og [] (λ_ h=>by cases h)).cC (bs:=[]) (λb4 w1 H1=>⟨by omega,_,zL (i:=i) hi,?_⟩) (by simp))
 have H1:LH F0 w w1 [.g b4] []:=H1
 have bad:∀w',LH F0 w w' [.g b4] []->oN (bl s) i=(⟨63,0,0,[],i⟩,1)->∀(a0 a1 a2:Int) (a3:ByteArray) (a4:Int),regex_tokenAt.rm (i:Int) b4 a0 a1 a2 a3 a4 w' λr w'=>r=aJ (VG (oN (bl s) i))/\bW w w':=λw' H' he _ _ _ _ _=>H'.bH (bs:=[b4]) (λw3 H3=>⟨by rw [he];rfl,H3.fr⟩) (by simp)
 refine H1.bC (vD _ _ _) ?_
 rintro _ w2 rfl H2
 refine ⟨_,rfl,?_⟩
 show aW (aR (Go.Lib.indexByte abo _>=0)) _ _
 refine bA (λh0=>H2.bH (bs:=[b4]) (λw3 H3=>⟨?_,H3.fr⟩) (by simp)) (λh0=>H2.bC (AU _ _) ?_)
 .unfold oN
  rw [aN h0]
  rfl
 rintro _ w3 rfl H3
 refine ⟨_,rfl,bR (λUq=>?_) (λUq=>n7 (n:=91) (by omega) (λYt:(bl s).getD i 0=91=>?_) (λYt:(bl s).getD i 0≠91=>?_))⟩
 .
  have loop:∀(n j:Nat) (w':aA),s.size - j<n->i<=j->j<=s.size->(∀k,i<=k->k<j->oL ((bl s).getD k 0)=true)->LH F0 w w' [.g b4] []->∀(a0 a1 a2:Int) (a3:ByteArray) (a4:Int),regex_tokenAt.mC s (i:Int) b4 a0 a1 a2 a3 a4 (j:Int) w' λr w'=>r=aJ (VG (oN (bl s) i))/\bW w w':=by
   intro n
   induction n with
   |zero=>intro j w' h;omega
   |succ n ih=>
    intro j w' hn Dn hj hall H a0 a1 a2 a3 a4
    have done:(j<s.size->oL ((bl s).getD j 0)=false)->∀w',LH F0 w w' [.g b4] []->regex_tokenAt.fN s (i:Int) b4 a0 a1 a2 a3 a4 (j:Int) w' λr w'=>r=aJ (VG (oN (bl s) i))/\bW w w':=λIf w' H'=>by
     refine ⟨by omega,by omega,by omega,by omega,H'.bH (bs:=[b4]) (λw5 H5=>⟨?_,H5.fr⟩) (by simp)⟩
     have etw:((bl s).drop i).takeWhile oL=((bl s).drop i).take (j - i):=by
      refine wN _ _ _ (by rw [qlD];omega) (λk hk=>?_) (λh=>?_)
      .rw [Eg];exact hall _ (by omega) (by omega)
      .rw [Eg,show i+(j - i)=j by omega]
       refine If ?_
       rw [qlD] at h
       omega
     have acg:(((bl s).drop i).take (j - i)).length=j - i:=by rw [List.length_take,qlD];omega
     have acf:s.extract (aF (i:Int)) (aF (j:Int))=ba (((bl s).drop i).take (j - i)):=by
      have:bl (s.extract i j)=((bl s).drop i).take (j - i):=by
       unfold bl
       rw [ByteArray.data_extract,Array.toList_extract,List.extract_eq_take_drop]
      rw [Int.toNat_natCast,Int.toNat_natCast,<-this,rA]
     have ew:aC .i64 ((j:Int) - (i:Int))=((j - i:Nat):Int):=by rw [aS _ (by omega)];omega
     rw [acf,ew]
     unfold oN
     rw [aI h0,aN Uq,etw,acg]
     rfl
    refine regex_tokenAt.dR _ _ _ _ _ _ _ _ _ _ _ (bA (λh=>⟨by omega,_,zL (i:=j) (by omega),H.bC (AU _ _) ?_⟩) (λh=>done (λh'=>by omega) w' H))
    rintro _ w5 rfl H5
    refine ⟨_,rfl,bR (λhb=>?_) (λhb=>done (λ_=>hb) w5 H5)⟩
    rw [show aC .i64 ((j:Int)+1)=((j+1:Nat):Int) by rw [aS _ (by omega)];omega]
    refine ih (j+1) w5 (by omega) (by omega) (by omega) (λk h1 h2=>?_) H5 _ _ _ _ _
    by_cases hk:k=j
    .subst hk;exact hb
    .exact hall k h1 (by omega)
  exact loop (s.size+1) i w3 (by omega) (Nat.le_refl _) (by omega) (λk h1 h2=>by omega) H3 _ _ _ _ _
 .have Kz:¬oL ((bl s).getD i 0)=true:=by rw [Uq];simp
  rw [show aC .i64 ((i:Int)+1)=((i+1:Nat):Int) by rw [aS _ (by omega)];omega]
  refine H3.bC (Bq s (i+1) (by omega) _) ?_
  rintro _ w4 rfl H4
  cases hb:r9 (bl s) (i+1) with
  |none=>
   refine ⟨0,0,false,rfl,bF rfl (bad w4 H4 ?_ _ _ _ _ _)⟩
   unfold oN
   rw [aI h0,aI Kz,aN Yt,hb]
  |some q=>
   obtain ⟨lo,m⟩:=q
   obtain ⟨hm,hml⟩:=zd hb
   refine ⟨lo.toNat,m,true,rfl,?_⟩
   try dsimp only
   rw [show aC .i64 (((i+1:Nat):Int)+(m:Int))=((i+1+m:Nat):Int) by rw [aS _ (by omega)];omega]
   have no1:¬(i+1+m<(bl s).length/\(bl s).getD (i+1+m) 0=45)->oN (bl s) i=(⟨63,0,0,[],i⟩,1):=λh=>by
    unfold oN
    rw [aI h0,aI Kz,aN Yt,hb]
    exact aI h
   refine aX rfl (bA (λh=>bad w4 H4 (no1 (λh'=>by omega)) _ _ _ _ _) (λh=>⟨by omega,_,zL (i:=i+1+m) (by omega),?_⟩))
   refine bR (λjx=>bad w4 H4 (no1 (λh'=>?_)) _ _ _ _ _) (λheq=>?_)
   .rw [h'.2] at jx;exact absurd jx (by decide)
   have Wi:(bl s).getD (i+1+m) 0=45:=by
    have e:(((bl s).getD (i+1+m) 0).toNat:Int)=45:=by simpa using heq
    have:((bl s).getD (i+1+m) 0).toNat=(45:UInt8).toNat:=by show _=45;omega
    exact UInt8.toNat_inj.1 this
   rw [show aC .i64 (((i+1+m:Nat):Int)+1)=((i+1+m+1:Nat):Int) by rw [aS _ (by omega)];omega]
   refine H4.bC (Bq s (i+1+m+1) (by omega) _) ?_
   rintro _ w5 rfl H5
   cases Dm:r9 (bl s) (i+1+m+1) with
   |none=>
    refine ⟨0,0,false,rfl,bF rfl (bad w5 H5 ?_ _ _ _ _ _)⟩
    unfold oN
    rw [aI h0,aI Kz,aN Yt,hb]
    refine (aN ⟨by omega,Wi⟩).trans ?_
    rw [Dm]
   |some q=>
    obtain ⟨JG,m2⟩:=q
    obtain ⟨QT,adq⟩:=zd Dm
    refine ⟨JG.toNat,m2,true,rfl,?_⟩
    try dsimp only
    rw [show aC .i64 (((i+1+m:Nat):Int)+aC .i64 (1+(m2:Int)))=((i+1+m+(1+m2):Nat):Int) by rw [aS (1+(m2:Int)) (by omega),aS _ (by omega)];omega]
    have e2:oN (bl s) i=if i+1+m+(1+m2)<(bl s).length/\(bl s).getD (i+1+m+(1+m2)) 0=93/\lo.toNat<=JG.toNat then (⟨114,lo,JG,[],i⟩,1+m+(1+m2)+1) else (⟨63,0,0,[],i⟩,1):=by
     unfold oN
     rw [aI h0,aI Kz,aN Yt,hb]
     refine (aN ⟨by omega,Wi⟩).trans ?_
     rw [Dm]
    refine aX rfl (bA (λh=>bad w5 H5 (e2.trans (aI λh'=>by omega)) _ _ _ _ _) (λh=>⟨by omega,_,zL (i:=i+1+m+(1+m2)) (by omega),?_⟩))
    refine bR (λjx=>bad w5 H5 (e2.trans (aI λh'=>?_)) _ _ _ _ _) (λacz=>?_)
    .rw [h'.2.1] at jx;exact absurd jx (by decide)
    have h93:(bl s).getD (i+1+m+(1+m2)) 0=93:=by
     have e:(((bl s).getD (i+1+m+(1+m2)) 0).toNat:Int)=93:=by simpa using acz
     have:((bl s).getD (i+1+m+(1+m2)) 0).toNat=(93:UInt8).toNat:=by show _=93;omega
     exact UInt8.toNat_inj.1 this
    refine bA (λUh=>bad w5 H5 (e2.trans (aI λh'=>by omega)) _ _ _ _ _) (λUh=>H5.bH (bs:=[b4]) (λw6 H6=>⟨?_,H6.fr⟩) (by simp))
    rw [e2,aN ⟨by omega,h93,by omega⟩]
    rw [show aC .i64 (aC .i64 (((i+1+m+(1+m2):Nat):Int)+1) - (i:Int))=((1+m+(1+m2)+1:Nat):Int) by rw [aS (((i+1+m+(1+m2):Nat):Int)+1) (by omega),aS _ (by omega)];omega]
    rfl
 .have Kz:¬oL ((bl s).getD i 0)=true:=by rw [Uq];simp
  refine H3.bC (Bq s i (by omega) _) ?_
  rintro _ w4 rfl H4
  cases hb:r9 (bl s) i with
  |none=>
   refine ⟨0,0,false,rfl,aX rfl (bad w4 H4 ?_ _ _ _ _ _)⟩
   unfold oN
   rw [aI h0,aI Kz,aI Yt,hb]
  |some q=>
   obtain ⟨b,n⟩:=q
   refine ⟨b.toNat,n,true,rfl,bF rfl (H4.bH (bs:=[b4]) (λw5 H5=>⟨?_,H5.fr⟩) (by simp))⟩
   unfold oN
   rw [aI h0,aI Kz,aI Yt,hb]
   rfl
structure Inv (S:SX) (m:Nat):Prop where
 lo:S.lo.length<=m
 sl:∀f∈S.lo,Small f m
 tp:Small S.tp m
 s1:S.st=1->0<=S.tp.k/\S.lo≠[]
 s2:S.st=2->0<=S.wd
def Small.mono {f:FX} {m n:Nat} (h:Small f m) (hm:m<=n):Small f n:=⟨Nat.le_trans h.n' hm,Nat.le_trans h.ar hm,Nat.le_trans h.al hm,Nat.le_trans h.an hm,Nat.le_trans h.ca hm⟩
def zM (k:Int) (m:Nat):Small (tf k) m:=⟨Nat.zero_le _,Nat.zero_le _,Nat.zero_le _,Nat.zero_le _,Nat.zero_le _⟩
def rJ {f:FX} {m:Nat} (h:Small f m) (x:Rx):Small (qm f x) m:=⟨h.n',h.ar,h.al,h.an,h.ca⟩
def B4 {t:Tk} {S S':SX} {m:Nat} (h1:S.lo.length<=m) (h2:∀f∈S.lo,Small f (m+1)) (h3:Small S.tp (m+1)) (h4:S.tp.n<=m) (h:kU t S=some S'):Inv S' (m+1):=by
 have sn:∀f∈S.lo++[S.tp],Small f (m+1):=λf hf=>by
  rcases gg.1 hf with hf|hf
  .exact h2 f hf
  .simp at hf;subst hf;exact h3
 unfold kU at h
 split at h
 .cases h
  exact ⟨by show S.lo.length<=_;omega,h2,⟨by show S.tp.n+1<=_;omega,h3.ar,h3.al,h3.an,h3.ca⟩,λe=>(by simp at e),λe=>(by simp at e)⟩
 .split at h
  .cases h
   exact ⟨by simp;omega,sn,zM _ _,λe=>(by simp at e),λe=>(by simp at e)⟩
  .split at h
   .cases h
    exact ⟨by show S.lo.length<=_;omega,h2,rJ h3 _,λe=>(by simp at e),λe=>(by simp at e)⟩
   .split at h
    .split at h
     .cases h
      exact ⟨by show S.lo.length<=_;omega,h2,rJ h3 _,λe=>(by simp at e),λe=>(by simp at e)⟩
     .split at h
      .cases h
       exact ⟨by show S.lo.length<=_;omega,h2,rJ h3 _,λe=>(by simp at e),λe=>(by simp at e)⟩
      .split at h
       .cases h
        exact ⟨by show S.lo.length<=_;omega,h2,h3,λe=>(by simp at e),λ_=>by show (0:Int)<=4;decide⟩
       .split at h
        .cases h
         exact ⟨by show S.lo.length<=_;omega,h2,h3,λe=>(by simp at e),λ_=>by show (0:Int)<=5;decide⟩
        .split at h
         .cases h
          exact ⟨by show S.lo.length<=_;omega,h2,h3,λe=>(by simp at e),λ_=>by show (0:Int)<=3;decide⟩
         .cases h
    .cases h
def D6 {S S':SX} {l:List Rx} {m:Nat} (hS:Inv S m) (h:qA S l=some S'):Inv S' (m+1):=by
 unfold qA at h
 rcases rH S.lo with e|⟨a,g,e⟩
 .rw [e] at h;simp at h
 .rw [e] at h
  simp at h
  subst h
  have hl:=hS.lo
  rw [e] at hl
  simp at hl
  exact ⟨by show a.length<=_;omega,λf hf=>(hS.sl f (by rw [e];simp [hf])).mono (by omega),rJ ((hS.sl g (by rw [e];simp)).mono (by omega)) _,λe=>(by simp at e),λe=>(by simp at e)⟩
def BK {s':Sl} {t:Tk} {S S':SX} {m:Nat} (hS:Inv S m) (h:kR s' t S=some S'):Inv S' (m+1):=by
 have uF:=hS.lo
 have NY:∀f∈S.lo,Small f (m+1):=λf hf=>(hS.sl f hf).mono (by omega)
 have DF:Small S.tp (m+1):=hS.tp.mono (by omega)
 have hn:=hS.tp.n'
 unfold kR at h
 split at h
 .rename_i h2
  split at h
  .cases h
   refine ⟨by simp;omega,λf hf=>?_,zM _ _,λ_=>⟨hS.s2 h2,by simp⟩,λe=>(by simp at e)⟩
   rcases gg.1 hf with hf|hf
   .exact NY f hf
   .simp at hf;subst hf;exact DF
  .cases h
 .rename_i h2
  split at h
  .split at h
   .exact D6 hS h
   .exact B4 uF NY DF hn h
  .rename_i h1
   split at h
   .exact B4 uF NY DF hn h
   .split at h
    .cases h
     exact ⟨by show S.lo.length<=_;omega,NY,rJ DF _,λe=>absurd e h1,λe=>absurd e h2⟩
    .split at h
     .cases h
      refine ⟨by show S.lo.length<=_;omega,NY,⟨Nat.zero_le _,DF.ar,DF.al,?_,Nat.zero_le _⟩,λe=>(by simp at e),λe=>(by simp at e)⟩
      have:=hS.tp.an
      show (S.tp.an++[_]).length<=_
      simp;omega
     .split at h
      .cases h
       refine ⟨by show S.lo.length<=_;omega,NY,⟨Nat.zero_le _,DF.ar,?_,Nat.zero_le _,Nat.zero_le _⟩,λe=>(by simp at e),λe=>(by simp at e)⟩
       have:=hS.tp.al
       show (S.tp.al++[_]).length<=_
       simp;omega
      .split at h
       .split at h
        .cases h
        .cases h
         refine ⟨by show S.lo.length<=_;omega,NY,⟨Nat.zero_le _,?_,Nat.zero_le _,Nat.zero_le _,Nat.zero_le _⟩,λe=>(by simp at e),λe=>(by simp at e)⟩
         have:=hS.tp.ar
         show (S.tp.ar.2++[_]).length<=_
         simp;omega
       .split at h
        .split at h
         .cases h
         .exact D6 hS h
        .split at h
         .split at h
          .cases h
           exact ⟨by omega,NY,DF,hS.s1,hS.s2⟩
          .cases h
         .refine B4 (S:=⟨S.lo,iY S.tp,S.st,S.wd⟩) uF NY ⟨Nat.zero_le _,DF.ar,DF.al,DF.an,?_⟩ (Nat.zero_le _) h
          have:=hS.tp.ca
          show (S.tp.ca++[_]).length<=_
          simp;omega
def Qu {s':Sl} {t:Tk} {S:SX} (h:t.k=63):kR s' t S=none:=by
 have it:∀S,kU t S=none:=λS=>by
  unfold kU
  rw [h]
  rfl
 unfold kR
 rw [it,it,h]
 split
 .rfl
 .split
  .rfl
  .split
   .rfl
   .rfl
def qQ (l:List UInt8):Nat->Nat->List Tk
 |0,_=>[]
 |n+1,i=>if i<l.length then (if l.getD i 0=32 then qQ l n (i+1) else (oN l i).1::qQ l n (i+(oN l i).2)) else [⟨36,0,0,[],l.length⟩]
def JX:List Tk->SX->Int⊕SX->Prop
 |[],S,r=>r=.inr S
 |t::ts,S,r=>∃s',(kR s' t S=none/\r=.inl t.a)\/∃S',kR s' t S=some S'/\JX ts S' r
def Jt {l:List UInt8} {i:Nat} (hi:i<l.length):1<=(oN l i).2/\i+(oN l i).2<=l.length:=by
 unfold oN
 split
 .simp;omega
 .split
  .rename_i h
   have e1:(l.drop i)=l.getD i 0::l.drop (i+1):=by
    rw [List.drop_eq_getElem_cons hi,List.getD_eq_getElem?_getD,ie hi]
    rfl
   have h1:1<=((l.drop i).takeWhile oL).length:=by rw [e1,List.takeWhile_cons,aN h];simp
   have h2:((l.drop i).takeWhile oL).length<=(l.drop i).length:=(List.takeWhile_prefix (p:=oL) (l:=l.drop i)).length_le
   rw [qlD] at h2
   simp only
   omega
  .split
   .split
    .simp;omega
    .split
     .split
      .simp;omega
      .split
       .rename_i h;simp only;omega
       .simp;omega
     .simp;omega
   .split
    .rename_i hb
     have:=zd hb
     simp only
     omega
    .simp;omega
abbrev tkC (t:Tk):List aD:=[.int .u8 (t.k.toNat:Int),.int .u8 (t.lo.toNat:Int),.int .u8 (t.hi.toNat:Int),.string (ba t.s),.int .i64 t.a]
def Eb:En:=⟨[],λ_=>True,λ_ _ _ h=>h,λ_ _ b hb=>by simp at hb,by simp⟩
abbrev O7 (t2 t3 t4 D l_ bs:Nat) (s:ByteArray) (v3 v4:aD) (o:Obj):List En:=[.c t2 [.int .i64 0,.int .u8 0,.int .u8 0,.slice none 0 0] aL,.c t3 [v3] cT,.c t4 [v4] yV,.ob D (.deferred (some [])),.ob l_ o,.c bs [.string s] cG]
def PS (w0 w:aA) (rb:Nat) (G:List En) (S:SX):Prop:=∃(sl:Sl) (fs:List FM) (f:FM) (ts:List Rt) (p:Addr),fs.map FM.x=S.lo/\f.x=S.tp/\(∀g∈fs++[f],∀t∈g.ts,t∈ts)/\sl.a=some p/\(∀b∈Rt.iD ts,w0.heap.size<=b)/\SF F0 w0 w rb sl S.st S.wd fs f G ts
def PE (w0 w:aA) (rb:Nat) (G:List En):Prop:=∃(sl:Sl) (fs:List FM) (f:FM) (ts:List Rt) (st wd:Int),SF F0 w0 w rb sl st wd fs f G ts
section
variable {s:ByteArray} {w0:aA} {rb t2 t3 t4 D l_ bs:Nat} {o_:LoopState->Option Code->Obj}
abbrev HYP (s:ByteArray) (rb t2 t3 t4 l_ bs:Nat) (o_:LoopState->Option Code->Obj):Prop:=
 ∀(XD XE XF:Int) (XG:ByteArray) (XH:Int) (w_:aA) (K_:Bool->aA->Prop),w_.heap[l_]? =some (o_ .ready none)->regex_Parse.XK l_ o_ s (bO t2) (bO t3) (bO t4) (bO rb) (bO bs) XD XE XF XG XH w_ (λr_ w1=>∃b_:Bool,r_=aJ (.bool b_)/\K_ b_ w1)->W.zV aB l_ #[.agg #[.int .u8 XD,.int .u8 XE,.int .u8 XF,.string XG,.int .i64 XH]] w_ K_
def MB (hY:HYP s rb t2 t3 t4 l_ bs o_) {S:SX} {m:Nat} (hI:Inv S m) (hm:m<=900000) (t:Tk) {e:En} {w:aA} (H:PS w0 w rb (O7 t2 t3 t4 D l_ bs s (.int .i64 0) (.int .i64 0) (o_ .ready none)++[e]) S) {K:Bool->aA->Prop}
  (acs:∀w' s',kR s' t S=none->PE w0 w' rb (O7 t2 t3 t4 D l_ bs s (.int .i64 t.a) (.int .i64 2) (o_ .done (some .ret))++[e])->K false w')
  (eL:∀w' s' S',kR s' t S=some S'->PS w0 w' rb (O7 t2 t3 t4 D l_ bs s (.int .i64 0) (.int .i64 0) (o_ .ready none)++[e]) S'->K true w'):W.zV aB l_ #[t.v] w K:=by
 obtain ⟨lo,tp,st,wd⟩:=S
 obtain ⟨sl,fs,f,ts,p,uF,DF,h3,h4,hb,H⟩:=H
 have uF:fs.map FM.x=lo:=uF
 have DF:f.x=tp:=DF
 subst uF DF
 refine hY _ _ _ _ _ w K (H.ob 7) ?_
 refine H.nw λw1 _ H1=>H1.st5 10 rfl λw2 H2=>H2.pu 7 rfl λw3 H3=>⟨_,_,_,_,_,H3.ld 10 0,H3.ld 10 1,H3.ld 10 2,H3.ld 10 3,H3.ld 10 4,?_⟩
 have H3':SF F0 w0 w3 rb sl st wd fs f (O7 t2 t3 t4 D l_ bs s (.int .i64 0) (.int .i64 0) (o_ .busy none)++[e,.c w.heap.size (tkC t) gC]) ts:=H3
 refine H3'.TM h3 h4 (λoo s1=>X4 s1 (Nat.le_trans hI.lo (by omega)) (hI.tp.mono (by omega)) hI.s1 t) ?_
 rintro r w4 sl4 fs4 f4 p4 Gr wd4 ts4 t4' L6 h44 b4 ⟨s',YK⟩ H4
 rcases YK with ⟨hn,rfl⟩|⟨hs,rfl⟩
 .refine ⟨false,rfl,bF rfl ?_⟩
  refine H4.dr λw5 H5=>⟨t.a,H5.ld 10 4,H5.Gr 3 rfl λw6 H6=>⟨H6.ld 10 4,H6.Gq 4 rfl λw7 H7=>H7.Gq 5 rfl λw8 H8=>H8.pu 7 rfl λw9 H9=>⟨false,rfl,acs w9 s' hn ⟨sl4,fs4,f4,ts4,Gr,wd4,?_⟩⟩⟩⟩
  exact H9.take 10
 .refine ⟨true,rfl,aX rfl (H4.pu 7 rfl λw5 H5=>⟨true,rfl,eL w5 s' _ hs ⟨sl4,fs4,f4,ts4,p4,rfl,rfl,L6,h44,λb fA=>?_,H5.take 10⟩⟩)⟩
  rcases b4 b fA with h|h|h
  .exact hb b h
  .exact h
  .exact h.elim
def abW (w0:aA) (rb t2 t3 t4 D l_ bs:Nat) (s:ByteArray) (o_:LoopState->Option Code->Obj) (w':aA):Int⊕SX->Prop
 |.inl a=>PE w0 w' rb (O7 t2 t3 t4 D l_ bs s (.int .i64 a) (.int .i64 2) (o_ .done (some .ret)))
 |.inr S=>PS w0 w' rb (O7 t2 t3 t4 D l_ bs s (.int .i64 0) (.int .i64 0) (o_ .ready none)) S
def Zb (hs:s.size<=4096) (hY:HYP s rb t2 t3 t4 l_ bs o_) (R:aT):∀(n i m:Nat) (S:SX) (w:aA),s.size - i<n->i<=s.size->Inv S m->m+n<=900000->
  PS w0 w rb (O7 t2 t3 t4 D l_ bs s (.int .i64 0) (.int .i64 0) (o_ .ready none)) S->
  (∀w' res,JX (qQ (bl s) n i) S res->abW w0 rb t2 t3 t4 D l_ bs s o_ w' res->R (aJ (.tuple #[])) w')->regex_tokens_1.L0 l_ (bO bs) (i:Int) w R:=by
 intro n
 induction n with
 |zero=>intro i m S w h;omega
 |succ n ih=>
  intro i m S w hn hi hI hm hP hR
  have hl:(bl s).length=s.size:=iH s
  have hP0:=hP
  obtain ⟨sl,fs,f,ts,p,uF,DF,h3,h4,hb,H⟩:=hP0
  refine regex_tokens_1.dE _ _ _ _ _ ⟨s,H.KG 8,bA (λh=>⟨s,H.KG 8,by omega,_,zL (i:=i) (by omega),n7 (n:=32) (by omega) (λhc:(bl s).getD i 0=32=>?_) (λhc:(bl s).getD i 0≠32=>⟨s,H.KG 8,H.call (Nv s (by omega) i (by omega) w) ?_⟩)⟩) (λh=>⟨s,H.KG 8,?_⟩)⟩
  .rw [show aC .i64 ((i:Int)+1)=((i+1:Nat):Int) by rw [aS _ (by omega)];omega]
   refine ih (i+1) m S w (by omega) (by omega) hI (by omega) hP (λw' res hr he=>hR w' res ?_ he)
   unfold qQ
   rw [aN (by omega),aN hc]
   exact hr
  .rintro _ w1 rfl H1
   have Um:=Jt (l:=bl s) (i:=i) (by omega)
   have et:qQ (bl s) (n+1) i=(oN (bl s) i).1::qQ (bl s) n (i+(oN (bl s) i).2):=by
    rw [qQ,aN (by omega),aI hc]
   rw [et] at hR
   refine ⟨_,_,_,_,_,_,rfl,H1.nw λw2 _ H2=>H2.st5 9 rfl λw7 H7=>⟨_,_,_,_,_,H7.ld 9 0,H7.ld 9 1,H7.ld 9 2,H7.ld 9 3,H7.ld 9 4,?_⟩⟩
   have H7':SF F0 w0 w7 rb sl S.st S.wd fs f (O7 t2 t3 t4 D l_ bs s (.int .i64 0) (.int .i64 0) (o_ .ready none)++[.c w1.heap.size (tkC (oN (bl s) i).1) gC]) ts:=H7
   refine MB hY hI (by omega) (oN (bl s) i).1 (e:=.c w1.heap.size (tkC (oN (bl s) i).1) gC) ⟨sl,fs,f,ts,p,uF,DF,h3,h4,hb,H7'⟩ (λw8 s' tz hE=>bF rfl (hR w8 (.inl (oN (bl s) i).1.a) ⟨s',.inl ⟨tz,rfl⟩⟩ ?_)) (λw8 s' S' N2 hE=>aX rfl ?_)
   .obtain ⟨Zq,Yp,f8,ZM,st8,wd8,H8⟩:=hE
    exact ⟨Zq,Yp,f8,ZM,st8,wd8,H8.take 9⟩
   .obtain ⟨Zq,Yp,f8,ZM,p8,YD,YL,h38,h48,hb8,H8⟩:=hE
    refine ⟨_,H8.ld 9 0,n7 (n:=63) (by omega) (λhk:(oN (bl s) i).1.k=63=>?_) (λhk=>?_)⟩
    .rw [Qu hk] at N2;cases N2
    .rw [show aC .i64 ((i:Int)+((oN (bl s) i).2:Int))=((i+(oN (bl s) i).2:Nat):Int) by rw [aS _ (by omega)];omega]
     refine ih (i+(oN (bl s) i).2) (m+1) S' w8 (by omega) (by omega) (BK hI N2) (by omega) ⟨Zq,Yp,f8,ZM,p8,YD,YL,h38,h48,hb8,H8.take 9⟩ (λw' res hr he=>hR w' res ⟨s',.inr ⟨S',N2,hr⟩⟩ he)
  .have et:qQ (bl s) (n+1) i=[⟨36,0,0,[],(bl s).length⟩]:=by
    rw [qQ,aI (by omega)]
   rw [et,hl] at hR
   have H1:=H.push Eb (Fr.refl _ _) trivial (λb hb=>by cases hb)
   refine MB hY hI (by omega) ⟨36,0,0,[],(s.size:Int)⟩ (e:=Eb) ⟨sl,fs,f,ts,p,uF,DF,h3,h4,hb,H1⟩ (λw8 s' tz hE=>hR w8 (.inl (s.size:Int)) ⟨s',.inl ⟨tz,rfl⟩⟩ ?_) (λw8 s' S' N2 hE=>hR w8 (.inr S') ⟨s',.inr ⟨S',N2,rfl⟩⟩ ?_)
   .obtain ⟨Zq,Yp,f8,ZM,st8,wd8,H8⟩:=hE
    exact ⟨Zq,Yp,f8,ZM,st8,wd8,H8.take 9⟩
   .obtain ⟨Zq,Yp,f8,ZM,p8,YD,YL,h38,h48,hb8,H8⟩:=hE
    exact ⟨Zq,Yp,f8,ZM,p8,YD,YL,h38,h48,hb8,H8.take 9⟩
end
def ud:∀(a b:List Rx),Rx.gF (a++b)=Rx.gF a+Rx.gF b
 |[],b=>by simp [Rx.gF]
 |x::a,b=>by
  have:=ud a b
  show x.sz+Rx.gF (a++b)=(x.sz+Rx.gF a)+Rx.gF b
  omega
def rk (x:Rx):Rx.gF [x]=x.sz:=by simp [Rx.gF]
def KM (k:Int) (l:List Rx):(F9 k l).sz<=1+Rx.gF l:=by
 unfold F9
 split
 .rw [rk];omega
 .unfold Rx.sz;omega
def KK:∀(n:Nat) (r:Rx),(DJ n r).sz=n+r.sz
 |0,r=>by unfold DJ;omega
 |n+1,r=>by
  unfold DJ
  rw [KK n]
  unfold Rx.sz
  rw [rk]
  cases r
  simp only [Rx.sz]
  omega
def fz (f:FX):Nat:=Rx.gF f.ar.2+Rx.gF f.al+Rx.gF f.an+Rx.gF f.ca+f.n
def lz:List FX->Nat
 |[]=>0
 |f::l=>fz f+lz l
def FQ:∀(a b:List FX),lz (a++b)=lz a+lz b
 |[],b=>by simp [lz]
 |x::a,b=>by
  have:=FQ a b
  show fz x+lz (a++b)=(fz x+lz a)+lz b
  omega
def pz (S:SX):Nat:=lz S.lo+fz S.tp+(if S.st=0\/S.st=1\/S.st=2 then 0 else S.tp.la.sz)
def RO (S:SX):pz S<=lz S.lo+fz S.tp+S.tp.la.sz:=by unfold pz;split<;>omega
def abk (S:SX):lz S.lo+fz S.tp<=pz S:=by unfold pz;omega
def yJ {S:SX} (h:S.st=0\/S.st=1\/S.st=2):pz S=lz S.lo+fz S.tp:=by unfold pz;rw [aN h];omega
def WV {S:SX} (h:¬(S.st=0\/S.st=1\/S.st=2)):pz S=lz S.lo+fz S.tp+S.tp.la.sz:=by unfold pz;rw [aI h]
def Uv (f:FX):fz (iY f)=fz f+f.la.sz:=by
 unfold fz iY
 simp only [ud,rk,KK]
 omega
def R6 (f:FX):fz (mj f)<=fz f+f.la.sz+1:=by
 have h:=KM 3 (f.ca++[DJ f.n f.la])
 simp only [ud,rk,KK] at h
 show Rx.gF f.ar.2+Rx.gF f.al+Rx.gF (f.an++[F9 3 (f.ca++[DJ f.n f.la])])+Rx.gF []+0<=_
 unfold fz
 simp only [ud,rk,Rx.gF]
 omega
def LO (f:FX):Rx.gF f.ar.2+Rx.gF (jS f).al<=fz f+f.la.sz+2:=by
 have h:=KM 5 (mj f).an
 have h2:=R6 f
 have e:fz (mj f)=Rx.gF f.ar.2+Rx.gF f.al+Rx.gF (mj f).an+0+0:=rfl
 show Rx.gF f.ar.2+Rx.gF (f.al++[F9 5 (mj f).an])<=_
 simp only [ud,rk]
 omega
def Qk (f:FX):fz (jS f)<=fz f+f.la.sz+2:=by
 have:=LO f
 show Rx.gF f.ar.2+Rx.gF (jS f).al+Rx.gF []+Rx.gF []+0<=_
 simp only [Rx.gF]
 omega
def Fw (f:FX):Rx.gF f.ar.2+(jH f).sz<=fz f+f.la.sz+3:=by
 have h:=KM 4 (jS f).al
 have:=LO f
 show _+(F9 4 (jS f).al).sz<=_
 omega
def FO {t:Tk} {S S':SX} (h:kU t S=some S'):pz S'<=lz S.lo+fz S.tp+1:=by
 have leaf:∀(k:Int) (a b:UInt8),(Rx.mk k a b []).sz=1:=λk a b=>by unfold Rx.sz;simp [Rx.gF]
 unfold kU at h
 split at h
 .cases h
  rw [yJ (.inl rfl)]
  show lz S.lo+(Rx.gF S.tp.ar.2+Rx.gF S.tp.al+Rx.gF S.tp.an+Rx.gF S.tp.ca+(S.tp.n+1))<=_
  unfold fz;omega
 .split at h
  .cases h
   rw [yJ (.inl rfl)]
   show lz (S.lo++[S.tp])+fz (tf (-1))<=_
   rw [FQ]
   have:fz (tf (-1))=0:=rfl
   simp only [lz];omega
  .have la:∀(k:Int) (a b:UInt8),pz ⟨S.lo,qm S.tp (.mk k a b []),3,S.wd⟩<=lz S.lo+fz S.tp+1:=λk a b=>by
    refine Nat.le_trans (RO _) ?_
    show lz S.lo+fz S.tp+(Rx.mk k a b []).sz<=_
    rw [leaf];exact Nat.le_refl _
   split at h
   .cases h
    exact la _ _ _
   .split at h
    .split at h
     .cases h;exact la _ _ _
     .split at h
      .cases h;exact la _ _ _
      .split at h
       .cases h;rw [yJ (.inr (.inr rfl))];show lz S.lo+fz S.tp<=_;omega
       .split at h
        .cases h;rw [yJ (.inr (.inr rfl))];show lz S.lo+fz S.tp<=_;omega
        .split at h
         .cases h;rw [yJ (.inr (.inr rfl))];show lz S.lo+fz S.tp<=_;omega
         .cases h
    .cases h
def Ht {S S':SX} {l:List Rx} (h:qA S l=some S'):pz S'<=lz S.lo+Rx.gF l+1:=by
 unfold qA at h
 rcases rH S.lo with e|⟨a,g,e⟩
 .rw [e] at h;simp at h
 .rw [e] at h ⊢
  simp at h
  subst h
  refine Nat.le_trans (RO _) ?_
  show lz a+fz g+(Qe S.tp.k l).sz<=_
  rw [FQ]
  have:(Qe S.tp.k l).sz<=Rx.gF l+1:=by
   unfold Qe
   split
   .cases l with
    |nil=>exact (by show zx.sz<=_;unfold zx Rx.sz;simp [Rx.gF])
    |cons x l=>show x.sz<=_;unfold Rx.gF;omega
   .unfold Rx.sz;omega
  simp only [lz];omega
def TV {s':Sl} {t:Tk} {S S':SX} (h:kR s' t S=some S'):pz S'<=pz S+4:=by
 have DD:=abk S
 unfold kR at h
 split at h
 .split at h
  .cases h
   rw [yJ (.inr (.inl rfl))]
   show lz (S.lo++[S.tp])+fz (tf S.wd)<=_
   rw [FQ]
   have:fz (tf S.wd)=0:=rfl
   simp only [lz];omega
  .cases h
 .rename_i h2
  split at h
  .split at h
   .have:=Ht h;simp only [Rx.gF] at this;omega
   .have:=FO h;omega
  .rename_i h1
   split at h
   .have:=FO h;omega
   .rename_i h0
    have Mb:=WV (S:=S) (by rintro (e|e|e)<;>contradiction)
    split at h
    .cases h
     refine Nat.le_trans (RO _) ?_
     show lz S.lo+fz S.tp+(Rx.mk 7 0 0 [S.tp.la]).sz<=_
     have:(Rx.mk 7 0 0 [S.tp.la]).sz=1+S.tp.la.sz:=by show 1+Rx.gF [S.tp.la]=_;rw [rk]
     omega
    .split at h
     .cases h
      rw [yJ (.inl rfl)]
      show lz S.lo+fz (mj S.tp)<=_
      have:=R6 S.tp;omega
     .split at h
      .cases h
       rw [yJ (.inl rfl)]
       show lz S.lo+fz (jS S.tp)<=_
       have:=Qk S.tp;omega
      .split at h
       .split at h
        .cases h
        .cases h
         rw [yJ (.inl rfl)]
         show lz S.lo+(Rx.gF (S.tp.ar.2++[jH S.tp])+Rx.gF []+Rx.gF []+Rx.gF []+0)<=_
         have:=Fw S.tp
         simp only [ud,rk,Rx.gF];omega
       .split at h
        .split at h
         .cases h
         .have h5:=Ht h
          have:=Fw S.tp
          simp only [ud,rk] at h5;omega
        .split at h
         .split at h
          .cases h;omega
          .cases h
         .have h5:=FO h
          have:=Uv S.tp
          have e:lz (SX.mk S.lo (iY S.tp) S.st S.wd).lo+fz (SX.mk S.lo (iY S.tp) S.st S.wd).tp=lz S.lo+fz (iY S.tp):=rfl
          omega
def Qv {s':Sl} {a:Int} {S S':SX} (h:kR s' ⟨36,0,0,[],a⟩ S=some S'):S'=S/\¬(S.st=0\/S.st=1\/S.st=2):=by
 have it:∀S,kU ⟨36,0,0,[],a⟩ S=none:=λS=>rfl
 unfold kR at h
 rw [it] at h
 split at h
 .cases h
 .split at h
  .cases h
  .split at h
   .cases h
   .refine ⟨?_,by rintro (e|e|e)<;>contradiction⟩
    have h':(if S.lo=[] then some S else none)=some S':=h
    split at h'
    .cases h';rfl
    .cases h'
def K8 (l:List UInt8):∀(n i:Nat) (S S':SX),l.length - i<n->JX (qQ l n i) S (.inr S')->(jH S'.tp).sz<=pz S+4 *n+4
 |0,i,S,S',h,_=>by omega
 |n+1,i,S,S',h,hr=>by
  unfold qQ at hr
  split at hr
  .split at hr
   .have:=K8 l n (i+1) S S' (by omega) hr
    omega
   .rename_i hi _
    have hp:=Jt hi
    obtain ⟨s',⟨_,hx⟩|⟨S1,h1,h2⟩⟩:=hr
    .cases hx
    .have:=K8 l n (i+(oN l i).2) S1 S' (by omega) h2
     have:=TV h1
     omega
  .obtain ⟨s',⟨_,hx⟩|⟨S1,h1,h2⟩⟩:=hr
   .cases hx
   .have e:S'=S1:=by have:Sum.inr S'=(Sum.inr S1:Int⊕SX):=h2;cases this;rfl
    obtain ⟨e1,e2⟩:=Qv h1
    subst e e1
    have:=WV e2
    have:=Fw S'.tp
    omega
def UI {M:Nat->Prop} {w0 w:aA} {L D:List En} (H:LH M w0 w L D) (is js:List Nat) (hp:is.Perm js) (hL:js.map (λk=>L.getD k Eb)=L):LH M w0 w (is.map λk=>L.getD k Eb) D:=by
 have h:(is.map λk=>L.getD k Eb).Perm L:=by
  have:=hp.map (λk=>L.getD k Eb)
  rwa [hL] at this
 exact ⟨H.fr,λe he=>H.own e (h.mem_iff.1 he),H.rd,λe he=>H.new e (h.mem_iff.1 he),((h.flatMap_right _).nodup_iff).2 H.nd,λe he b hb e' lM=>H.dj e he b hb e' (h.mem_iff.1 lM)⟩
def KW {w2:aA} {l:Nat} {o:LoopState->Option Code->Obj} {N:aA->Prop} {X:Nat->aA->Prop} {T:aA->Prop} (h:O0 w2 l (o .ready none) (o .exhausted none) N):xR w2 l o N X T:=.inl h
def KX {w2:aA} {l:Nat} {o:LoopState->Option Code->Obj} {N:aA->Prop} {X:Nat->aA->Prop} {T:aA->Prop} (h:O0 w2 l (o .done (some .ret)) (o .exhausted (some .ret)) T):xR w2 l o N X T:=.inr (.inr h)
def WJ {b:Nat} (h:b∈Rt.iD [.mk 0 0 0 ⟨none,0,0⟩ []]):False:=by
 have:=yu (ts:=[]) (k:=0) (lo:=0) (hi:=0) (b:=b) h
 unfold Rt.iD at this
 cases this
def sx0:SX:=⟨[],tf (-1),0,0⟩
def aaX:Inv sx0 0:=by
 refine ⟨Nat.le_refl _,λf hf=>?_,zM _ _,λe=>?_,λe=>?_⟩
 .cases hf
 .have:(0:Int)=1:=e
  omega
 .have:(0:Int)=2:=e
  omega
def Gk (l:List UInt8):∀(n i m:Nat) (S S':SX),Inv S m->JX (qQ l n i) S (.inr S')->Inv S' (m+n)
 |0,i,m,S,S',hI,hr=>by
  have e:(Sum.inr S':Int⊕SX)=.inr S:=hr
  cases e
  exact hI
 |n+1,i,m,S,S',hI,hr=>by
  have up:∀{S:SX} {a b:Nat},Inv S a->a<=b->Inv S b:=λh NP=>⟨Nat.le_trans h.lo NP,λf hf=>(h.sl f hf).mono NP,h.tp.mono NP,h.s1,h.s2⟩
  unfold qQ at hr
  split at hr
  .split at hr
   .exact up (Gk l n _ m S S' hI hr) (by omega)
   .obtain ⟨s',⟨_,hx⟩|⟨S1,h1,h2⟩⟩:=hr
    .cases hx
    .exact up (Gk l n _ (m+1) S1 S' (BK hI h1) h2) (by omega)
  .obtain ⟨s',⟨_,hx⟩|⟨S1,h1,h2⟩⟩:=hr
   .cases hx
   .have e:(Sum.inr S':Int⊕SX)=.inr S1:=h2
    cases e
    exact up (BK hI h1) (by omega)
def XO (w:aA) (s:ByteArray):aT:=λr w'=>bW w w'/\
 ((4096<s.size/\r=aJ (.tuple #[.agg #[.int .i64 0,.int .u8 0,.int .u8 0,.slice none 0 0],.int .i64 4096,.int .i64 4]))\/
  (s.size<=4096/\∃res,JX (qQ (bl s) (s.size+1) 0) sx0 res/\((∃a,res=.inl a/\r=aJ (.tuple #[.agg #[.int .i64 0,.int .u8 0,.int .u8 0,.slice none 0 0],.int .i64 a,.int .i64 2]))\/
   ∃S',res=.inr S'/\((64<(jH S'.tp).sz/\r=aJ (.tuple #[.agg #[.int .i64 0,.int .u8 0,.int .u8 0,.slice none 0 0],.int .i64 (s.size:Int),.int .i64 4]))\/
    ((jH S'.tp).sz<=64/\∃t:Rt,r=aJ (.tuple #[t.v,.int .i64 0,.int .i64 0])/\t.rx=jH S'.tp/\t.P w'/\∀b∈t.fp,w.heap.size<=b)))))
def Ty (s:ByteArray) (w:aA):aH aB sK #[.string s] w (XO w s):=by
 refine regex_Parse.ok _ w _ ((og [] (λ_ h=>by cases h)).nw λw1 _ H1=>H1.nw λw2 _ H2=>H2.nw λw3 _ H3=>bA (λh=>?_) (λh=>?_))
 .refine H3.Gr 0 rfl λw4 H4=>H4.Gq 1 rfl λw5 H5=>H5.Gq 2 rfl λw6 H6=>⟨_,_,_,⟨none,0,0⟩,H6.ld 0 0,H6.ld 0 1,H6.ld 0 2,H6.ld 0 3,_,H6.KG 1,_,H6.KG 2,H6.fr,.inl ⟨by omega,rfl⟩⟩
 have hs:s.size<=4096:=by omega
 have hl:(bl s).length=s.size:=iH s
 refine H3.ko (e:=c9) (sz:=10) (n:=1) (cs:=(qt (-1)).c) rfl (by decide) λtB qe=>qe.nw λyY _ y8=>?_
 refine y8.Gq 4 rfl λAO Dr=>Dr.st 4 1 rfl λDb Di=>Di.st 4 2 rfl λLk Ng=>?_
 refine regex_tokens.ok _ Lk _ (Ng.nw λGO _ JS=>⟨_,rfl,?_⟩)
 show ∀o_:LoopState->Option Code->Obj,_
 intro o_ hY
 have e1:(GO.alloc (.deferred (some []))).heap.size=GO.heap.size+1:=size_alloc _ _
 have HG:=(JS.alloc (.deferred (some []))).alloc (o_ .ready none)
 rw [e1] at HG
 have hP:(En.rows (([]++[qt (-1)]:List FM).flatMap FM.rows)).P ((GO.alloc (.deferred (some []))).alloc (o_ .ready none)):=by
  refine ⟨λq hq=>?_,by decide⟩
  have hq:q∈[((⟨none,0,0⟩,[]):mD),(⟨none,0,0⟩,[]),(⟨none,0,0⟩,[]),(⟨none,0,0⟩,[])]:=hq
  simp only [dT,gL,or_false,or_self] at hq
  subst hq
  exact bD.nil _ _ _
 have Ha:=(HG.push (.rows (([]++[qt (-1)]:List FM).flatMap FM.rows)) (Fr.refl _ _) hP (λb hb=>by
  have hb:=aV.1 hb
  have hb:b∈([]:List Nat):=hb
  cases hb)).pS (.trees [.mk 0 0 0 ⟨none,0,0⟩ []]) (Fr.refl _ _) (Rt.qu λt ht=>by
   simp at ht;subst ht
   show Rt.P _ _
   unfold Rt.P Rt.Ps
   exact ⟨lN.nil 4 _,trivial⟩) (λb hb=>by
    exact (WJ (aV.1 hb)).elim)
 have Hb:=UI Ha [4,3,8,0,1,2,6,7,5] [0,1,2,3,4,5,6,7,8] (by decide) rfl
 have HS:SF F0 w ((GO.alloc (.deferred (some []))).alloc (o_ .ready none)) tB.heap.size ⟨some (bO w3.heap.size),1,1⟩ 0 0 [] (qt (-1)) (O7 w.heap.size w1.heap.size w2.heap.size GO.heap.size (GO.heap.size+1) Lk.heap.size s (.int .i64 0) (.int .i64 0) (o_ .ready none)) [.mk 0 0 0 ⟨none,0,0⟩ []]:=Hb
 refine regex_tokens_1.ok _ _ _ _ (Zb (w0:=w) (rb:=tB.heap.size) (t2:=w.heap.size) (t3:=w1.heap.size) (t4:=w2.heap.size) (D:=GO.heap.size) (l_:=GO.heap.size+1) (bs:=Lk.heap.size) hs hY _ (s.size+1) 0 0 sx0 _ (by omega) (by omega) aaX (by omega)
  ⟨_,[],qt (-1),_,_,rfl,rfl,λg hg t ht=>?_,rfl,λb hb=>?_,HS⟩ (λw' res hr he=>⟨⟨_,rfl⟩,?_⟩))
 .simp at hg;subst hg
  simpa [FM.ts,qt] using ht
 .exact (WJ hb).elim
 cases res with
 |inl a=>
  obtain ⟨sl,fs,f,ts,st,wd,H⟩:=he
  refine KX (H.pu 7 rfl λyY y8=>y8.pu 6 rfl λGO JS=>⟨_,_,_,⟨none,0,0⟩,JS.ld 3 0,JS.ld 3 1,JS.ld 3 2,JS.ld 3 3,_,JS.KG 4,_,JS.KG 5,JS.fr,.inr ⟨hs,_,hr,.inl ⟨a,rfl,rfl⟩⟩⟩)
 |inr S'=>
  obtain ⟨sl,fs,f,ts,p,uF,DF,h3,h4,hb,H⟩:=he
  have hI:=Gk _ _ _ _ _ _ aaX hr
  have ni:=K8 _ _ _ _ _ (by omega) hr
  rw [show pz sx0=0 from rfl] at ni
  have Wn:fs.length<=1000000:=by
   have:=hI.lo
   rw [<-uF] at this
   simp at this
   omega
  refine KW (H.pu 7 rfl λw5 H5=>?_)
  have H5':SF F0 w w5 tB.heap.size sl S'.st S'.wd fs f (O7 w.heap.size w1.heap.size w2.heap.size GO.heap.size (GO.heap.size+1) Lk.heap.size s (.int .i64 0) (.int .i64 0) (o_ .exhausted none)) ts:=H5
  refine H5'.call (LI H5' h4 Wn) ?_
  rintro _ w6 rfl H6
  have H6':SF F0 w w6 tB.heap.size sl S'.st S'.wd fs f (O7 w.heap.size w1.heap.size w2.heap.size GO.heap.size (GO.heap.size+1) Lk.heap.size s (.int .i64 0) (.int .i64 0) (o_ .exhausted none)) ts:=H6
  refine ⟨_,rfl,H6'.TM h3 h4 (λoo s1=>vM s1 (by rw [DF];exact hI.tp.mono (by omega))) ?_⟩
  rintro r w7 EL BR f3 p3 nJ GC AA t3 ox wC xW ⟨Z9,tw,kT,rfl,rfl,u,hu,rfl,hx⟩ H7
  rw [DF] at hx
  have adu:u.sz=(jH S'.tp).sz:=by rw [<-hx,Rt.ja]
  refine ⟨_,_,_,u.s,rfl,H7.nw λw8 _ H8=>H8.Gr 9 rfl λw9 H9=>⟨_,_,_,u.s,H9.ld 9 0,H9.ld 9 1,H9.ld 9 2,H9.ld 9 3,H9.call (wY u w9 (by omega) ((show Rt.Ps w9 AA from H9.getD 0).mem hu)) ?_⟩⟩
  rintro _ AO rfl Dr
  refine ⟨_,rfl,bA (λFC=>?_) (λUq=>?_)⟩
  .refine Dr.Gr 3 rfl λDb Di=>Di.Gq 4 rfl λLk Ng=>Ng.Gq 5 rfl λSE O8=>O8.pu 6 rfl λTe AQ=>⟨_,_,_,⟨none,0,0⟩,AQ.ld 3 0,AQ.ld 3 1,AQ.ld 3 2,AQ.ld 3 3,_,AQ.KG 4,_,AQ.KG 5,AQ.fr,.inr ⟨hs,_,hr,.inr ⟨S',rfl,.inl ⟨by omega,rfl⟩⟩⟩⟩
  .refine ⟨_,_,_,u.s,Dr.ld 9 0,Dr.ld 9 1,Dr.ld 9 2,Dr.ld 9 3,Dr.Gr 3 rfl λDb Di=>Di.Gq 4 rfl λLk Ng=>Ng.Gq 5 rfl λSE O8=>O8.pu 6 rfl λTe AQ=>⟨_,_,_,u.s,AQ.ld 3 0,AQ.ld 3 1,AQ.ld 3 2,AQ.ld 3 3,_,AQ.KG 4,_,AQ.KG 5,AQ.fr,.inr ⟨hs,_,hr,.inr ⟨S',rfl,.inr ⟨by omega,u,rfl,hx,(show Rt.Ps Te AA from AQ.getD 0).mem hu,λb Ua=>?_⟩⟩⟩⟩⟩
   rcases xW b (Rt.bU.2 ⟨u,hu,Ua⟩) with h|h|h
   .exact hb b h
   .exact h
   .exact h.elim
def zSl:Sl:=⟨none,0,0⟩
def er (f:FX):FX:=⟨f.k,(zSl,f.ar.2),f.al,f.an,f.ca,f.n,f.la⟩
def zj (S:SX):SX:=⟨S.lo.map er,er S.tp,S.st,S.wd⟩
def FN (t:Tk) (S:SX):(kU t S).map zj=kU t (zj S):=by
 have e1:er (tf (-1))=tf (-1):=rfl
 have e2:(S.lo++[S.tp]).map er=S.lo.map er++[er S.tp]:=by simp
 unfold kU
 split
 .rfl
 .split
  .simp only [Option.map_some,zj,e1,e2]
  .split
   .rfl
   .split
    .split
     .rfl
     .split
      .rfl
      .split
       .rfl
       .split
        .rfl
        .split<;>rfl
    .rfl
def Hr (S:SX) (l:List Rx):(qA S l).map zj=qA (zj S) l:=by
 unfold qA
 rcases rH S.lo with e|⟨a,g,e⟩
 .simp [e,zj]
 .have e':(zj S).lo=a.map er++[er g]:=by simp [zj,e]
  rw [e,e']
  simp [zj]
  rfl
def LV (s':Sl) (t:Tk) (S:SX):(kR s' t S).map zj=kR zSl t (zj S):=by
 have e2:(S.lo++[S.tp]).map er=S.lo.map er++[er S.tp]:=by simp
 have c1:(zj S).st=S.st:=rfl
 have c2:(zj S).tp.k=S.tp.k:=rfl
 unfold kR
 rw [c1,c2]
 by_cases h2:S.st=2
 .rw [aN h2,aN h2]
  split
  .show some (zj ⟨S.lo++[S.tp],tf S.wd,1,S.wd⟩)=some ⟨S.lo.map er++[er S.tp],tf S.wd,1,S.wd⟩
   rw [<-e2];rfl
  .rfl
 rw [aI h2,aI h2]
 split
 .split
  .exact Hr S []
  .exact FN t S
 .split
  .exact FN t S
  .split
   .rfl
   .split
    .rfl
    .split
     .rfl
     .split
      .split<;>rfl
      .split
       .by_cases e:S.lo=[]
        .rw [aN e,aN (show (zj S).lo=[] by simp [zj,e])];rfl
        .rw [aI e,aI (show ¬(zj S).lo=[] by simp [zj,e])];exact Hr S _
       .split
        .by_cases e:S.lo=[]
         .rw [aN e,aN (show (zj S).lo=[] by simp [zj,e])];rfl
         .rw [aI e,aI (show ¬(zj S).lo=[] by simp [zj,e])];rfl
        .exact FN t ⟨S.lo,iY S.tp,S.st,S.wd⟩
def RY:List Tk->SX->Int⊕SX
 |[],S=>.inr S
 |t::ts,S=>match kR zSl t S with
  |none=>.inl t.a
  |some S'=>RY ts S'
def erR:Int⊕SX->Int⊕SX
 |.inl a=>.inl a
 |.inr S=>.inr (zj S)
def RZ:∀(ts:List Tk) (S:SX) (r:Int⊕SX),JX ts S r->erR r=RY ts (zj S)
 |[],S,r,h=>by
  have h:r=.inr S:=h
  subst h;rfl
 |t::ts,S,r,h=>by
  obtain ⟨s',⟨h1,h2⟩|⟨S1,h1,h2⟩⟩:=h
  .subst h2
   have:=LV s' t S
   rw [h1] at this
   unfold RY
   rw [<-this]
   rfl
  .have:=LV s' t S
   rw [h1] at this
   unfold RY
   rw [<-this]
   exact RZ ts S1 r h2
def Xx (l:List UInt8):Int⊕SX:=RY (qQ l (l.length+1) 0) sx0
def ZO {s:ByteArray} {r:Int⊕SX} (h:JX (qQ (bl s) (s.size+1) 0) sx0 r):erR r=Xx (bl s):=by
 have:=RZ _ _ _ h
 rw [this]
 unfold Xx
 rw [iH]
 rfl
def Fu (S:SX):jH (zj S).tp=jH S.tp:=rfl
end Go.Proofs.YtnpkhgljhcnpcaaGreatDoor

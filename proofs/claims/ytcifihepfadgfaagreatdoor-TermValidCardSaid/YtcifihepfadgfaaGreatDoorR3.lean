import Derived.Test.YtcifihepfadgfaaGreatDoorR1
import Derived.Test.YtcifihepfadgfaaGreatDoorVB
import Derived.Laws.StandIn
import Derived.Lib.Bytealg
set_option linter.unusedVariables false
namespace Go.Proofs.YtcifihepfadgfaaGreatDoor
open List renaming mem_append->fW,mem_cons->cU,not_mem_nil->qnM,mem_of_getElem?->dC,getElem?_eq_getElem->g7,getElem?_eq_some_iff->nP,mem_append_left->qmL,mem_append_right->qmR,mem_flatMap->mV,length_drop->qlD,flatMap_append->qfA,flatMap_cons->qfC,mem_iff_getElem?->KB,nodup_append->qnA,append_nil->qaN,map_append->qmpA,getElem?_set_self->qgSS
open Go Go.W
abbrev kT:=Sl×List Value
def _root_.Go.W.En.rows (rs:List kT):En:=⟨Gy (rs.flatMap λp:kT=>bA p.1),λw=>(∀p∈rs,aO w aB 4 p.1 p.2)/\(rs.flatMap λp:kT=>bA p.1).Nodup,
 λw w' h hp=>⟨λp hm=>(hp.1 p hm).gV λb hb hl=>h b (aI.2 (mV.2 ⟨p,hm,hb⟩)) hl,hp.2⟩,
 λw hp b hb=>by
  obtain ⟨p,hm,hb⟩:=mV.1 (aI.1 hb)
  exact (hp.1 p hm).lt b hb,lK _⟩
theorem EE (rs:List kT) (hr:rs≠[]) (w:World) (b:Nat) (hb:b∈(En.rows rs).fp):¬(En.rows rs).P ({w with heap:=Array.replicate (b+1) (.map #[] 0)}):=by
 rintro ⟨h,_⟩
 obtain ⟨p,hm,hb⟩:=mV.1 (aI.1 hb)
 obtain ⟨cs,f,hc⟩:=(h p hm).row.Uu b hb
 simp at hc
section
variable {M:Nat->Prop} {w0 w:World} {L D:List En} {bs:List Nat}
theorem yU (H:LH M w0 w L D) {i:Nat} {rs:List kT} (hi:L[i]? =some (.rows rs)) {b:Nat} (hb:En.g b∈L):b∉(En.rows rs).fp:=by
 intro hm
 obtain ⟨j,hj⟩:=KB.1 hb
 by_cases xP:i=j
 .subst xP
  rw [hi] at hj
  have e1:En.rows rs=En.g b:=Option.some.inj hj
  have iq:rs≠[]:=by
   rintro rfl
   simp [En.rows,Gy] at hm
  refine EE rs iq w b hm ?_
  rw [e1]
  show b<_
  simp
 .exact oX H.nd hi hj xP b hm (by simp [En.g])
theorem LV {rs:List kT} {j:Nat} {s s':Sl} {vs zS:List Value} (hj:rs[j]? =some (s,vs)) (hn:(rs.flatMap λp:kT=>bA p.1).Nodup) (hs:(bA s').Nodup) (hx:∀x∈bA s',x∈bA s\/x∉rs.flatMap λp:kT=>bA p.1):((rs.set j (s',zS)).flatMap λp:kT=>bA p.1).Nodup:=
 wJ (f:=λp:kT=>bA p.1) hj hn hs hx
theorem Ja (s:Sl):(bA s).Nodup:=by unfold bA;split<;>simp
theorem vr {α:Type} {l:List α} {j:Nat} {a x:α} (h:x∈l.set j a):x=a\/∃i,i≠j/\l[i]? =some x:=by
 obtain ⟨i,hi⟩:=KB.1 h
 rw [List.getElem?_set] at hi
 split at hi
 .split at hi
  .exact .inl (Option.some.inj hi).symm
  .cases hi
 .rename_i iq
  exact .inr ⟨i,λe=>iq e.symm,hi⟩
theorem Br {rs:List kT} (hn:(rs.flatMap λp:kT=>bA p.1).Nodup):∀{i j:Nat} {p q:kT},rs[i]? =some p->rs[j]? =some q->i≠j->∀b∈bA p.1,b∉bA q.1:=by
 induction rs with
 |nil=>intro i j p q h;simp at h
 |cons a l ih=>
  rw [qfC,qnA] at hn
  intro i j p q hi hj xP b hb eC
  cases i with
  |zero=>
   simp at hi;subst hi
   cases j with
   |zero=>exact xP rfl
   |succ j=>exact hn.2.2 b hb b (mV.2 ⟨q,dC (by simpa using hj),eC⟩) rfl
  |succ i=>
   cases j with
   |zero=>
    simp at hj;subst hj
    exact hn.2.2 b eC b (mV.2 ⟨p,dC (by simpa using hi),hb⟩) rfl
   |succ j=>exact ih hn.2.1 (by simpa using hi) (by simpa using hj) (by omega) b hb eC
theorem zq (H:LH M w0 w L D) {w':World} (i j:Nat) {rs:List kT} {s s':Sl} {vs zS:List Value} (hi:L[i]? =some (.rows rs)) (hj:rs[j]? =some (s,vs)) (f:Fr (λb=>b∈bA s) w w') (ho:aO w' aB 4 s' zS) (hb:∀b∈bA s',b∈bA s\/w.heap.size<=b):
  LH M w0 w' (L.set i (.rows (rs.set j (s',zS)))) D:=by
 have hp:(En.rows rs).P w:=H.get i hi
 have rX:∀b∈bA s,b∈(En.rows rs).fp:=λb hb=>aI.2 (mV.2 ⟨_,dC hj,hb⟩)
 have lC:∀b∈rs.flatMap (λp:kT=>bA p.1),b<w.heap.size:=λb hb=>(En.rows rs).lt w hp b (aI.2 hb)
 refine H.CK i _ hi (f.mono λx _ hx=>rX x hx) ⟨λp hm=>?_,LV hj hp.2 (Ja _) λx hx=>(hb x hx).imp id λh hm=>by have:=lC x hm;omega⟩ λb hm=>?_
 .rcases vr hm with rfl|⟨k,hk,HX⟩
  .exact ho
  .exact (hp.1 p (dC HX)).gV λb eC hl=>f.gV b hl λjS=>Br hp.2 HX hj hk b eC jS
 .obtain ⟨p,hm,hbp⟩:=mV.1 (aI.1 hm)
  rcases vr hm with rfl|⟨k,_,HX⟩
  .exact (hb b hbp).imp (rX b) id
  .exact .inl (aI.2 (mV.2 ⟨p,dC HX,hbp⟩))
theorem _root_.Go.W.LH.Hm (H:LH M w0 w L D) (i j:Nat) {ty:TypeId} {rs:List kT} {s src:Sl} {vs news:List Value} {K:Sl->World->Prop} (hi:L[i]? =some (.rows rs)) (hj:rs[j]? =some (s,vs)) (hr:jJ 4 w src news) (h1:∀u∈news,u.oneCell'=true) (hb:(s.n+src.n) *40<=140737488355328)
  (hK:∀s' w',LH M w0 w' (L.set i (.rows (rs.set j (s',vs++news)))) D->s'.n=s.n+src.n->(s'.a=none->s.a=none/\src.n=0)->K s' w') (jS:∀b∈bs,En.g b∈L:=by simp):
  ∃s' w',(Builtin.append_ #[aF,aF] ty #[s.v,src.v]).run Tryz.prog w=.ok s'.v w'/\kept bs w w'/\K s' w':=by
 have hp:(En.rows rs).P w:=H.get i hi
 obtain ⟨s',w',g1,g2,g3,g4,g5,g6⟩:=qa (ty:=ty) yL (hp.1 _ (dC hj)) hr.2.2 hr.1 h1 hb
 refine ⟨s',w',g1,λb eC=>?_,hK s' w' (zq H i j hi hj g4 g2 g5) g3 g6⟩
 refine g4.gV b (H.own _ (jS b eC)) λhm=>?_
 exact yU H hi (jS b eC) (aI.2 (mV.2 ⟨_,dC hj,hm⟩))
theorem _root_.Go.W.LH.IH (H:LH M w0 w L D) (i j a c:Nat) {rs:List kT} {s:Sl} {vs:List Value} {v:Value} {p:Addr} {K:World->Prop} (hi:L[i]? =some (.rows rs)) (hj:rs[j]? =some (s,vs)) (hp:s.a=some p) (hl:a+c<vs.length)
  (hK:∀w',LH M w0 w' (L.set i (.rows (rs.set j (s,vs.set (a+c) v)))) D->K w') (jS:∀b∈bs,En.g b∈L:=by simp):bR w ((p.add a).add c) v λw1=>kept bs w w1/\K w1:=by
 have hP:(En.rows rs).P w:=H.get i hi
 obtain ⟨q,hq,hqb,x1,x2,x3,x4⟩:=yf (hP.1 _ (dC hj)) (a+c) hl v
 rw [hp] at hq
 cases hq
 rw [add_add]
 refine ⟨x1,x2,λb hb=>?_,hK _ (zq H i j hi hj x4 x3 λb hb=>.inl hb)⟩
 exact x4.gV b (H.own _ (jS b hb)) λhm=>yU H hi (jS b hb) (aI.2 (mV.2 ⟨_,dC hj,hm⟩))
theorem _root_.Go.W.LH.B6 (H:LH M w0 w L D) (i j:Nat) {rs:List kT} {s:Sl} {vs:List Value} (hi:L[i]? =some (.rows rs)) (hj:rs[j]? =some (s,vs)):LH M w0 w (L.set i (.rows (rs.set j (⟨none,0,0⟩,[])))) (D++[.iQ 4 s vs]):=by
 have hp:(En.rows rs).P w:=H.get i hi
 have H1:=zq H i j hi hj (Fr.refl _ _) (aO.nil w aB 4) (λb hb=>by simp [bA] at hb)
 have rX:∀b∈bA s,b∈(En.rows rs).fp:=λb hb=>aI.2 (mV.2 ⟨_,dC hj,hb⟩)
 have NQ:i<L.length:=(nP.1 hi).1
 refine ⟨H1.fr,H1.own,λe he=>?_,H1.new,H1.nd,λe he b hb e' mJ eC=>?_⟩
 .rcases fW.1 he with he|he
  .exact H1.rd e he
  .simp at he;subst he
   exact (hp.1 _ (dC hj)).iQ
 .rcases fW.1 he with he|he
  .exact H1.dj e he b hb e' mJ eC
  .simp at he;subst he
   have jS:b∈bA s:=fQ (e:=aB) hb
   rcases vr mJ with rfl|⟨k,hk,hke⟩
   .obtain ⟨q,hq,VP⟩:=mV.1 (aI.1 eC)
    rcases vr hq with rfl|⟨k,hk,hkq⟩
    .simp [bA] at VP
    .exact Br hp.2 hkq hj hk b VP jS
   .exact oX H.nd hi hke (λe=>hk e.symm) b (rX b jS) eC
end
structure FX where
 k:Int
 ar:Sl×List Rx
 al:List Rx
 an:List Rx
 ca:List Rx
 n:Nat
 la:Rx
structure FM where
 k:Int
 ar:Sl×List Rt
 al:Sl×List Rt
 an:Sl×List Rt
 ca:Sl×List Rt
 n:Nat
 la:Rt
def FM.x (f:FM):FX:=⟨f.k,(f.ar.1,Rt.bU f.ar.2),Rt.bU f.al.2,Rt.bU f.an.2,Rt.bU f.ca.2,f.n,f.la.rx⟩
def FM.c (f:FM):List Value:=[.int .i64 f.k,f.ar.1.v,f.al.1.v,f.an.1.v,f.ca.1.v,.int .i64 (f.n:Int),.int .i64 f.la.k,.int .u8 (f.la.lo.toNat:Int),.int .u8 (f.la.hi.toNat:Int),f.la.s.v]
def FM.rows (f:FM):List kT:=[(f.ar.1,f.ar.2.flatMap Rt.c),(f.al.1,f.al.2.flatMap Rt.c),(f.an.1,f.an.2.flatMap Rt.c),(f.ca.1,f.ca.2.flatMap Rt.c)]
def FM.ts (f:FM):List Rt:=f.ar.2++f.al.2++f.an.2++f.ca.2++[f.la]
theorem FM.uP (f:FM):f.c.length=10:=rfl
theorem sE (fs:List FM):(fs.flatMap FM.c).length=fs.length *10:=oq FM.c 10 FM.uP fs
abbrev SL (rb:Nat) (sl:Sl) (st wd:Int) (cs:List Value) (rs:List kT):List En:=[.c rb [sl.v,.int .i64 st,.int .i64 wd] g8,.row b0 10 sl cs,.rows rs]
def St (w:World) (rb:Nat) (f0:Addr) (lo:List FX) (tp:FX) (st wd:Int) (own:List Nat) (ts:List Rt):Prop:=
 ∃(sl:Sl) (fs:List FM) (f:FM) (p:Addr),fs.map FM.x=lo/\f.x=tp/\(∀g∈fs++[f],∀t∈g.ts,t∈ts)/\sl.a=some p/\f0=p.add (fs.length *10)/\
  own=(SL rb sl st wd ((fs++[f]).flatMap FM.c) ((fs++[f]).flatMap FM.rows)).flatMap (·.fp)/\own.Nodup/\(∀e∈SL rb sl st wd ((fs++[f]).flatMap FM.c) ((fs++[f]).flatMap FM.rows),e.P w)/\Rt.Ps w ts/\∀b∈Rt.gN ts,b∉own
def rR (w:World) (own:List Nat) (ts:List Rt) (rb:Nat) (f0:Addr) (lo:List FX) (tp:FX) (st wd:Int) (A:List Rt->Prop) (w':World):Prop:=∃il lD,St w' rb f0 lo tp st wd il lD/\Fr (·∈own) w w'/\(∀x∈il,x∈own\/w.heap.size<=x)/\(∀b∈Rt.gN lD,b∈Rt.gN ts\/b∈own\/w.heap.size<=b)/\(∀t∈ts,t∈lD)/\A lD
theorem rR.then {w w1 w':World} {own oN:List Nat} {ts Uq:List Rt} {rb:Nat} {f0:Addr} {lo:List FX} {tp:FX} {st wd:Int} {A:List Rt->Prop} (f1:Fr (·∈own) w w1) (o1:∀x∈oN,x∈own\/w.heap.size<=x) (b1:∀b∈Rt.gN Uq,b∈Rt.gN ts\/b∈own\/w.heap.size<=b) (t1:∀t∈ts,t∈Uq) (h:rR w1 oN Uq rb f0 lo tp st wd A w'):rR w own ts rb f0 lo tp st wd A w':=by
 obtain ⟨T4,CU,s2,f2,o2,b2,t2,a2⟩:=h
 refine ⟨T4,CU,s2,f1.trans f2 λx hx hm=>(o1 x hm).resolve_right λh=>by omega,λx hx=>?_,λb hb=>?_,λt ht=>t2 t (t1 t ht),a2⟩
 .rcases o2 x hx with h|h
  .exact o1 x h
  .exact .inr (Nat.le_trans f1.size h)
 .rcases b2 b hb with h|h|h
  .exact b1 b h
  .exact .inr (o1 b h)
  .exact .inr (.inr (Nat.le_trans f1.size h))
theorem rR.mono {w w':World} {own:List Nat} {ts:List Rt} {rb:Nat} {f0:Addr} {lo:List FX} {tp:FX} {st wd:Int} {A B:List Rt->Prop} (h:rR w own ts rb f0 lo tp st wd A w') (Jw:∀l,A l->B l):rR w own ts rb f0 lo tp st wd B w':=by
 obtain ⟨T4,CU,s2,f2,o2,b2,t2,a2⟩:=h
 exact ⟨T4,CU,s2,f2,o2,b2,t2,Jw _ a2⟩
def _root_.Go.W.En.stt (rb:Nat) (f0:Addr) (lo:List FX) (tp:FX) (st wd:Int) (own:List Nat) (ts:List Rt):En:=⟨Gy (own++Rt.gN ts),λw=>St w rb f0 lo tp st wd own ts,λw w' h hp=>(by
 obtain ⟨sl,fs,g,p,h1,h2,h3,h4,h5,h6,h7,h8,h9,B8⟩:=hp
 refine ⟨sl,fs,g,p,h1,h2,h3,h4,h5,h6,h7,λe he=>e.st w w' (λb hb hl=>h b (aI.2 (qmL _ ?_)) hl) (h8 e he),Rt.keeps ts (λb hb hl=>h b (aI.2 (qmR _ hb)) hl) h9,B8⟩
 rw [h6]
 exact mV.2 ⟨e,he,hb⟩),λw hp b hb=>(by
 obtain ⟨sl,fs,g,p,h1,h2,h3,h4,h5,h6,h7,h8,h9,B8⟩:=hp
 rcases fW.1 (aI.1 hb) with hb|hb
 .rw [h6] at hb
  obtain ⟨e,he,rh⟩:=mV.1 hb
  exact e.lt w (h8 e he) b rh
 .exact Rt.XO ts h9 b hb),lK _⟩
theorem PZ (rb:Nat) (f0:Addr) (lo:List FX) (tp:FX) (st wd:Int) (own:List Nat) (ts:List Rt) (w:World) (b:Nat):¬(En.stt rb f0 lo tp st wd own ts).P ({w with heap:=Array.replicate (b+1) (.map #[] 0)}):=by
 rintro ⟨sl,fs,g,p,h1,h2,h3,h4,h5,h6,h7,h8,h9,B8⟩
 have:=h8 (.c rb [sl.v,.int .i64 st,.int .i64 wd] g8) (by simp)
 have h:({w with heap:=Array.replicate (b+1) (.map #[] 0)}:World).heap[rb]? =some (.cells #[sl.v,.int .i64 st,.int .i64 wd] g8 (0,0)):=this
 simp [Array.getElem?_replicate] at h
theorem St.sj {w:World} {rb:Nat} {sl:Sl} {fs:List FM} {f:FM} {ts:List Rt} {st wd:Int} {own:List Nat} (h6:own=(SL rb sl st wd ((fs++[f]).flatMap FM.c) ((fs++[f]).flatMap FM.rows)).flatMap (·.fp)) (h7:own.Nodup) (h8:∀e∈SL rb sl st wd ((fs++[f]).flatMap FM.c) ((fs++[f]).flatMap FM.rows),e.P w) (h9:Rt.Ps w ts) (B8:∀b∈Rt.gN ts,b∉own):
  LH (·∈own) w w (SL rb sl st wd ((fs++[f]).flatMap FM.c) ((fs++[f]).flatMap FM.rows)) [.trees ts]:=by
 refine LH.zB _ _ (λe he=>⟨h8 e he,λb hb=>by rw [h6];exact mV.2 ⟨e,he,hb⟩⟩) (h6▸h7) λe he=>?_
 simp only [cU,qnM,or_false] at he
 subst he
 refine ⟨h9,λb hb e' mJ eC=>B8 b (aI.1 hb) ?_⟩
 rw [h6]
 exact mV.2 ⟨e',mJ,eC⟩
theorem St.of {w w':World} {rb:Nat} {f0:Addr} {sl:Sl} {fs:List FM} {f:FM} {ts lD:List Rt} {st wd:Int} {own:List Nat} {p:Addr} {D:List En} {A:List Rt->Prop} (H:LH (·∈own) w w' (SL rb sl st wd ((fs++[f]).flatMap FM.c) ((fs++[f]).flatMap FM.rows)) D) (i:Nat) (hD:D[i]? =some (.trees lD)) (ht:∀g∈fs++[f],∀t∈g.ts,t∈lD) (hp:sl.a=some p) (h0:f0=p.add (fs.length *10)) (hb:∀b∈Rt.gN lD,b∈Rt.gN ts\/b∈own\/w.heap.size<=b) (Fj:∀t∈ts,t∈lD) (hA:A lD):
  rR w own ts rb f0 (fs.map FM.x) f.x st wd A w':=by
 refine ⟨_,lD,⟨sl,fs,f,p,rfl,rfl,ht,hp,h0,rfl,H.nd,H.own,H.getD i hD,λb hb hm=>?_⟩,H.fr,λx hx=>?_,hb,Fj,hA⟩
 .obtain ⟨e,he,rh⟩:=mV.1 hm
  exact H.dj _ (dC hD) b (aI.2 hb) e he rh
 .obtain ⟨e,he,rh⟩:=mV.1 hx
  exact (H.new e he x rh).symm
section
variable {M:Nat->Prop} {w0 w:World} {L D:List En} {bs:List Nat}
theorem _root_.Go.W.LH.y6 (H:LH M w0 w L D) (i:Nat) {sl:Sl} {fs:List FM} {f:FM} {p:Addr} (hi:L[i]? =some (.row b0 10 sl ((fs++[f]).flatMap FM.c))) (hp:sl.a=some p) (j:Nat) {v:Value} (hj:f.c[j]? =some v:=by rfl):w.cell? ((p.add (fs.length *10)).add j)=some v:=by
 have ho:aO w b0 10 sl ((fs++[f]).flatMap FM.c):=H.get i hi
 have hk:((fs++[f]).flatMap FM.c)[fs.length *10+j]? =some v:=by
  rw [qfA,List.getElem?_append_right (by rw [sE];omega),sE]
  simpa using hj
 obtain ⟨q,hq,hc⟩:=ho.iQ.2.2.2 _ _ hk
 rw [hp] at hq
 cases hq
 rw [add_add]
 exact hc
theorem Jr (fs:List FM) (f f':FM) (j:Nat) (v:Value) (hj:j<10) (h:f.c.set j v=f'.c):((fs++[f]).flatMap FM.c).set (fs.length *10+j) v=(fs++[f']).flatMap FM.c:=by
 rw [qfA,qfA,List.set_append,if_neg (by rw [sE];omega),sE]
 simp only [qfC,List.flatMap_nil,qaN,Nat.add_sub_cancel_left]
 rw [h]
theorem _root_.Go.W.LH.CT (H:LH M w0 w L D) (i:Nat) {sl:Sl} {fs:List FM} {f:FM} {p:Addr} {K:World->Prop} {v:Value} (f':FM) (j:Nat) (hi:L[i]? =some (.row b0 10 sl ((fs++[f]).flatMap FM.c))) (hp:sl.a=some p) (hj:j<10) (hc:f.c.set j v=f'.c)
  (hK:∀w',LH M w0 w' (L.set i (.row b0 10 sl ((fs++[f']).flatMap FM.c))) D->K w') (jS:∀b∈bs,En.g b∈L:=by simp):bR w ((p.add (fs.length *10)).add j) v λw1=>kept bs w w1/\K w1:=
 H.zD i (fs.length *10) j hi hp (by rw [sE];simp;omega) (λw' H'=>hK w' (by rw [Jr fs f f' j v hj hc] at H';exact H')) jS
theorem CD {w:World} {p:Addr} {v:Value} {K:World->Prop} (h:bR w p v λw1=>kept [] w w1/\K w1):bR w p v K:=pf h λ_ h=>h.2
end
theorem pO:∀fs:List FM,(fs.flatMap FM.rows).length=fs.length *4
 |[]=>rfl
 |f::fs=>by
  have:=pO fs
  simp only [qfC,List.length_append,List.length_cons]
  have:f.rows.length=4:=rfl
  omega
theorem zp (fs:List FM) (f:FM) (j:Nat) (x:kT) (hj:j<4):((fs++[f]).flatMap FM.rows).set (fs.length *4+j) x=fs.flatMap FM.rows++f.rows.set j x:=by
 have hl:=pO fs
 rw [qfA,List.set_append,if_neg (by omega),hl]
 simp
theorem oy (fs:List FM) (f:FM) (j:Nat) (x:kT) (hx:f.rows[j]? =some x):((fs++[f]).flatMap FM.rows)[fs.length *4+j]? =some x:=by
 have hl:=pO fs
 rw [qfA,List.getElem?_append_right (by omega),hl]
 simpa using hx
def oM (k:Int) (s:Sl) (ts:List Rt):Rt:=match ts with |[x]=>x|l=>.mk k 0 0 s l
def Cm (k:Int) (l:List Rx):Rx:=match l with |[x]=>x|l=>.mk k 0 0 l
theorem Cl (k:Int) (s:Sl) (ts:List Rt):(oM k s ts).rx=Cm k (Rt.bU ts):=by
 match ts with
 |[]=>rfl
 |[x]=>rfl
 |x::y::l=>rfl
theorem Pv {k:Int} {s:Sl} {ts:List Rt} {b:Nat} (h:b∈(oM k s ts).fp):b∈(Rt.row s ts).fp\/b∈Rt.gN ts:=by
 match ts,h with
 |[],h=>exact Rt.eG.1 (show b∈(Rt.mk k 0 0 s []).fp from h)
 |[x],h=>exact .inr (Rt.bC.2 ⟨x,by simp,h⟩)
 |x::y::l,h=>exact Rt.eG.1 (show b∈(Rt.mk k 0 0 s (x::y::l)).fp from h)
theorem FI (k:Int) (s:Sl) (ts:List Rt) (w:World) (h:jJ 4 w s (ts.flatMap Rt.c)):Calls Tryz.prog iY #[.int .i64 k,s.v] w λr w'=>r=.returned (oM k s ts).v/\bF w w':=by
 have nr:=Rt.cB h
 refine regex_one.cT _ _ w _ ((mf [Rt.row s ts] (by
  intro e he
  simp only [cU,qnM,or_false] at he
  subst he
  exact h)).bI λb4 w1 H1=>aJ (λh1=>⟨by omega,by omega,?_⟩) (λh1=>H1.aN λw2 H2=>⟨?_,H2.fr⟩))
 .have hl:ts.length=1:=by omega
  obtain ⟨x,rfl⟩:=List.length_eq_one_iff.1 hl
  refine Rt.at' (H1.getD 0) (i:=0) (t:=x) rfl λp hp c=>⟨_,_,_,_,c.c0,c.c1,c.c2,c.c3,H1.aN λw2 H2=>⟨rfl,H2.fr⟩⟩
 .match ts,nr with
  |[],_=>rfl
  |[x],nr=>simp at nr;omega
  |x::y::l,_=>rfl
section
variable {M:Nat->Prop} {w0 w:World} {L D:List En} {bs:List Nat}
theorem _root_.Go.W.LH.node (H:LH M w0 w L D) (i:Nat) {ts ks:List Rt} {s:Sl} (k:Int) (lo hi:UInt8) (vX:D[i]? =some (.trees ts)) (hr:Rt.row s ks∈D) (hk:∀t∈ks,t∈ts):LH M w0 w L [.trees (ts++[.mk k lo hi s ks])]:=by
 have pt:Rt.Ps w ts:=H.getD i vX
 have H1:=H.oe (.trees (ts++[.mk k lo hi s ks])) (Fr.refl _ _) (Rt.ox λt ht=>?_) λb hb=>.inr (.inr ?_)
 .exact H1.forget _ (by simp)
 .rcases fW.1 ht with ht|ht
  .exact pt.mem ht
  .simp at ht;subst ht
   unfold Rt.P
   exact ⟨H.rd _ hr,Rt.ox λt ht=>pt.mem (hk t ht)⟩
 .obtain ⟨t,ht,eC⟩:=Rt.bC.1 (aI.1 hb)
  rcases fW.1 ht with ht|ht
  .exact ⟨_,dC vX,aI.2 (Rt.bC.2 ⟨t,ht,eC⟩)⟩
  .simp at ht
   rw [ht] at eC
   rcases Rt.eG.1 eC with h|h
   .exact ⟨_,hr,h⟩
   .obtain ⟨t',nl,B9⟩:=Rt.bC.1 h
    exact ⟨_,dC vX,aI.2 (Rt.bC.2 ⟨t',hk t' nl,B9⟩)⟩
theorem _root_.Go.W.LH.Il (H:LH M w0 w L D) (i:Nat) {ts ks:List Rt} {s:Sl} (k:Int) (vX:D[i]? =some (.trees ts)) (hr:Rt.row s ks∈D) (hk:∀t∈ks,t∈ts):LH M w0 w L [.trees (ts++[oM k s ks])]:=by
 match ks,hr,hk with
 |[],hr,hk=>exact H.node i k 0 0 vX hr hk
 |x::y::l,hr,hk=>exact H.node i k 0 0 vX hr hk
 |[x],hr,hk=>
  have pt:Rt.Ps w ts:=H.getD i vX
  have hx:=hk x (by simp)
  have H1:=H.oe (.trees (ts++[x])) (Fr.refl _ _) (Rt.ox λt ht=>?_) λb hb=>.inr (.inr ?_)
  .exact H1.forget _ (by simp [oM])
  .rcases fW.1 ht with ht|ht
   .exact pt.mem ht
   .simp at ht;subst ht
    exact pt.mem hx
  .obtain ⟨t,ht,eC⟩:=Rt.bC.1 (aI.1 hb)
   rcases fW.1 ht with ht|ht
   .exact ⟨_,dC vX,aI.2 (Rt.bC.2 ⟨t,ht,eC⟩)⟩
   .simp at ht
    rw [ht] at eC
    exact ⟨_,dC vX,aI.2 (Rt.bC.2 ⟨x,hx,eC⟩)⟩
abbrev z4:List Value:=[.int .i64 0,.int .u8 0,.int .u8 0,.slice none 0 0]
theorem xX (vs u:List Value) (n j:Nat) (v:Value) (hn:vs.length=n):(vs++u).set (n+j) v=vs++u.set j v:=by
 rw [List.set_append,if_neg (by omega)]
 congr 2
 omega
theorem _root_.Go.W.LH.JZ (H:LH M w0 w L D) (i j n:Nat) {rs:List kT} {s:Sl} {vs:List Value} {p:Addr} {K:World->Prop} (t:Rt) (hi:L[i]? =some (.rows rs)) (hj:rs[j]? =some (s,vs++z4)) (hp:s.a=some p) (hn:vs.length=n *4)
  (hK:∀w',LH M w0 w' (L.set i (.rows (rs.set j (s,vs++t.c)))) D->K w') (jS:∀b∈bs,En.g b∈L):
  bR w (p.add (Int.toNat (n:Int) *4)) (.int .i64 t.k) λw1=>kept bs w w1/\bR w1 ((p.add (Int.toNat (n:Int) *4)).add 1) (.int .u8 (t.lo.toNat:Int)) λw2=>kept bs w1 w2/\bR w2 ((p.add (Int.toNat (n:Int) *4)).add 2) (.int .u8 (t.hi.toNat:Int)) λw3=>kept bs w2 w3/\bR w3 ((p.add (Int.toNat (n:Int) *4)).add 3) t.s.v λw4=>kept bs w3 w4/\K w4:=by
 rw [Int.toNat_natCast]
 have NQ:i<L.length:=(nP.1 hi).1
 have Gg:j<rs.length:=(nP.1 hj).1
 have gs:∀{L':List En} (e:En),L'.length=L.length->(L'.set i e)[i]? =some e:=λ{L'} e hl=>by rw [qgSS (by omega)]
 have gr:∀(PL:List kT) (x:kT),PL.length=rs.length->(PL.set j x)[j]? =some x:=λPL x hl=>by rw [qgSS (by omega)]
 have hg:∀{b:Nat},En.g b∈L->∀(PL:List kT),En.g b∈L.set i (.rows PL):=λ{b} hb PL=>by
  obtain ⟨k,hk⟩:=KB.1 hb
  by_cases OV:i=k
  .subst OV
   exfalso
   rw [hi] at hk
   have hP:(En.rows rs).P w:=H.get i hi
   have e1:En.rows rs=En.g b:=Option.some.inj hk
   have CQ:(En.rows rs).fp=[b]:=by rw [e1];rfl
   have eC:b∈(En.rows rs).fp:=by rw [CQ];simp
   have iq:rs≠[]:=by rintro rfl;simp at Gg
   refine EE rs iq w b eC ?_
   rw [e1]
   show b<_
   simp
  .exact KB.2 ⟨k,by rw [List.getElem?_set_ne OV];exact hk⟩
 have NY:=H.IH (bs:=bs) i j (n *4) 0 (v:=.int .i64 t.k) (K:=λw1=>bR w1 ((p.add (n *4)).add 1) (.int .u8 (t.lo.toNat:Int)) λw2=>kept bs w1 w2/\bR w2 ((p.add (n *4)).add 2) (.int .u8 (t.hi.toNat:Int)) λw3=>kept bs w2 w3/\bR w3 ((p.add (n *4)).add 3) t.s.v λw4=>kept bs w3 w4/\K w4) hi hj hp (by simp [hn]) ?_ jS
 .rw [tR] at NY
  exact NY
 intro w1 H1
 rw [xX vs z4 (n *4) 0 _ hn] at H1
 refine H1.IH (bs:=bs) i j (n *4) 1 (gs _ rfl) (gr _ _ rfl) hp (by simp [hn]) ?_ (λb hb=>hg (jS b hb) _)
 intro w2 H2
 rw [xX vs _ (n *4) 1 _ hn,List.set_set,List.set_set] at H2
 refine H2.IH (bs:=bs) i j (n *4) 2 (gs _ rfl) (gr _ _ rfl) hp (by simp [hn]) ?_ (λb hb=>hg (jS b hb) _)
 intro w3 H3
 rw [xX vs _ (n *4) 2 _ hn,List.set_set,List.set_set] at H3
 refine H3.IH (bs:=bs) i j (n *4) 3 (gs _ rfl) (gr _ _ rfl) hp (by simp [hn]) ?_ (λb hb=>hg (jS b hb) _)
 intro w4 H4
 rw [xX vs _ (n *4) 3 _ hn,List.set_set,List.set_set] at H4
 exact hK w4 H4
theorem _root_.Go.W.LH.Mw (H:LH M w0 w L D) (i:Nat) {sl:Sl} {fs:List FM} {f:FM} {p:Addr} (hi:L[i]? =some (.row b0 10 sl ((fs++[f]).flatMap FM.c))) (hp:sl.a=some p):
  w.cell? (((p.add (fs.length *10)).add 6).add 0)=some (.int .i64 f.la.k)/\w.cell? (((p.add (fs.length *10)).add 6).add 1)=some (.int .u8 (f.la.lo.toNat:Int))/\w.cell? (((p.add (fs.length *10)).add 6).add 2)=some (.int .u8 (f.la.hi.toNat:Int))/\w.cell? (((p.add (fs.length *10)).add 6).add 3)=some f.la.s.v:=by
 refine ⟨?_,?_,?_,?_⟩
 .rw [tR];exact H.y6 i hi hp 6
 .rw [add_add];exact H.y6 i hi hp 7
 .rw [add_add];exact H.y6 i hi hp 8
 .rw [add_add];exact H.y6 i hi hp 9
end
def Av:Nat->Rx->Rx
 |0,r=>r
 |n+1,r=>Av n (.mk 6 0 0 [r])
def hC (f:FX):FX:=⟨f.k,f.ar,f.al,f.an,f.ca++[Av f.n f.la],0,f.la⟩
theorem AO {w:World} {rb:Nat} {f0:Addr} {lo:List FX} {tp:FX} {st wd:Int} {own:List Nat} {ts:List Rt} (h:St w rb f0 lo tp st wd own ts) (hn:tp.n<=1000000) (hc:tp.ca.length<=1000000):
  Calls Tryz.prog iG #[.pointer (some f0)] w λr w'=>r=.returned (.tuple #[])/\rR w own ts rb f0 lo (hC tp) st wd (λ_=>True) w':=by
 obtain ⟨sl,fs,f,p,rfl,rfl,h3,h4,rfl,h6,h7,h8,h9,B8⟩:=h
 have H:=St.sj h6 h7 h8 h9 B8
 have HW:f.la∈ts:=h3 f (by simp) _ (by simp [FM.ts])
 have A6:f.ca.2.length<=1000000:=by
  have:f.x.ca.length=f.ca.2.length:=by show (Rt.bU f.ca.2).length=_;rw [Rt.eW];simp
  omega
 have loop:∀(m:Nat) (r:Rt) (lD:List Rt) (b2:Nat) (w1:World),m<=1000000->(∀t∈ts,t∈lD)->(∀b∈Rt.gN lD,b∈Rt.gN ts\/b∈own\/w.heap.size<=b)->r∈lD->Av m r.rx=Av f.n f.la.rx->
   LH (·∈own) w w1 (SL rb sl st wd ((fs++[(⟨f.k,f.ar,f.al,f.an,f.ca,m,f.la⟩:FM)]).flatMap FM.c) ((fs++[f]).flatMap FM.rows)++[.g b2]) [.trees lD]->
   regex_frame_endItem.dY (p.add (fs.length *10)) b2 r.k r.lo.toNat r.hi.toNat r.s w1 λr w'=>r=.returned (.tuple #[])/\rR w own ts rb (p.add (fs.length *10)) (fs.map FM.x) (hC f.x) st wd (λ_=>True) w':=by
  intro m
  induction m with
  |zero=>
   intro r lD b2 w1 _ Fj A5 hr he H1
   refine regex_frame_endItem.aY _ _ _ _ _ _ _ _ ⟨0,H1.y6 1 rfl h4 5,aM rfl (H1.aN λw2 H2=>⟨_,H2.y6 1 rfl h4 4,?_⟩)⟩
   have jK:((fs++[f]).flatMap FM.rows)[fs.length *4+3]? =some (f.ca.1,f.ca.2.flatMap Rt.c):=oy fs f 3 _ rfl
   have nr:f.ca.1.n=f.ca.2.length:=by
    have hp:(En.rows ((fs++[f]).flatMap FM.rows)).P w2:=H2.get 2
    exact Rt.cB (hp.1 _ (dC jK)).iQ
   refine H2.gZ (e:=aB) (sz:=4) (n:=1) (cs:=z4) rfl (by decide) λw3 H3=>⟨H3.y6 1 rfl h4 4,?_⟩
   refine H3.Hm (bs:=[b2]) 2 (fs.length *4+3) (src:=⟨some (bD w2.heap.size),1,1⟩) (news:=z4) rfl jK (aO.iQ (H3.get 4)) (by simp [Value.oneCell']) (by show (f.ca.1.n+1) *40<=_;omega) (λs' w4 H4 wC qM=>⟨by omega,by rw [wC];show ((f.ca.1.n:Nat):Int)<((f.ca.1.n+1:Nat):Int);omega,?_⟩)
   obtain ⟨q,hq⟩:∃q,s'.a=some q:=by
    cases hs:s'.a with
    |none=>have:=(qM hs).2;simp at this
    |some q=>exact ⟨q,rfl⟩
   rw [hq]
   have Gg:fs.length *4+3<((fs++[f]).flatMap FM.rows).length:=by rw [pO];simp;omega
   have H5:LH (·∈own) w w4 (SL rb sl st wd ((fs++[(⟨f.k,f.ar,f.al,f.an,f.ca,0,f.la⟩:FM)]).flatMap FM.c) (((fs++[f]).flatMap FM.rows).set (fs.length *4+3) (s',f.ca.2.flatMap Rt.c++z4))++[.g b2]) [.trees lD]:=H4.take 4
   have fin:∀{w':World},LH (·∈own) w w' (SL rb sl st wd ((fs++[(⟨f.k,f.ar,f.al,f.an,(s',f.ca.2++[r]),0,f.la⟩:FM)]).flatMap FM.c) (((fs++[f]).flatMap FM.rows).set (fs.length *4+3) (s',f.ca.2.flatMap Rt.c++r.c))++[.g b2]) [.trees lD]->
     (Ending.returned (.tuple #[])=.returned (.tuple #[])/\rR w own ts rb (p.add (fs.length *10)) (fs.map FM.x) (hC f.x) st wd (λ_=>True) w'):=λ{w'} H'=>by
    refine ⟨rfl,?_⟩
    have e1:((fs++[f]).flatMap FM.rows).set (fs.length *4+3) (s',f.ca.2.flatMap Rt.c++r.c)=(fs++[(⟨f.k,f.ar,f.al,f.an,(s',f.ca.2++[r]),0,f.la⟩:FM)]).flatMap FM.rows:=by
     rw [zp fs f 3 _ (by omega),qfA]
     congr 1
     simp [FM.rows]
    rw [e1] at H'
    have:=St.of (ts:=ts) (A:=λ_=>True) (f0:=p.add (fs.length *10)) (H'.take 3) 0 rfl (λg hg t ht=>?_) h4 rfl A5 Fj trivial
    .have e2:(FM.x ⟨f.k,f.ar,f.al,f.an,(s',f.ca.2++[r]),0,f.la⟩)=hC f.x:=by
      unfold FM.x hC
      simp only [kg]
      have:Rt.bU [r]=[Av f.n f.la.rx]:=by rw [<-he];rfl
      rw [this]
     rw [e2] at this
     exact this
    .rcases fW.1 hg with hg|hg
     .exact Fj t (h3 g (by simp [hg]) t ht)
     .simp at hg;subst hg
      simp only [FM.ts,fW,cU,qnM,or_false] at ht
      rcases ht with (((ht|ht)|ht)|(ht|rfl))|rfl
      .exact Fj t (h3 f (by simp) t (by simp [FM.ts,ht]))
      .exact Fj t (h3 f (by simp) t (by simp [FM.ts,ht]))
      .exact Fj t (h3 f (by simp) t (by simp [FM.ts,ht]))
      .exact Fj t (h3 f (by simp) t (by simp [FM.ts,ht]))
      .exact hr
      .exact Fj _ HW
   refine ⟨?_,?_⟩
   .rw [nr]
    refine H5.JZ (bs:=[b2]) 2 (fs.length *4+3) f.ca.2.length r rfl (qgSS Gg) hq (Rt.gH _) (λw' H6=>?_) (by simp)
    rw [List.set_set] at H6
    exact H6.CT (bs:=[b2]) (f:=⟨f.k,f.ar,f.al,f.an,f.ca,0,f.la⟩) 1 ⟨f.k,f.ar,f.al,f.an,(s',f.ca.2++[r]),0,f.la⟩ 4 rfl h4 (by omega) rfl (λrC H7=>fin H7) (by simp)
   .refine H5.CT (bs:=[b2]) (f:=⟨f.k,f.ar,f.al,f.an,f.ca,0,f.la⟩) 1 ⟨f.k,f.ar,f.al,f.an,(s',f.ca.2++[r]),0,f.la⟩ 4 rfl h4 (by omega) rfl (λw' H6=>?_) (by simp)
    rw [nr]
    refine LH.JZ (bs:=[b2]) (L:=SL rb sl st wd ((fs++[(⟨f.k,f.ar,f.al,f.an,(s',f.ca.2++[r]),0,f.la⟩:FM)]).flatMap FM.c) (((fs++[f]).flatMap FM.rows).set (fs.length *4+3) (s',f.ca.2.flatMap Rt.c++z4))++[.g b2]) H6 2 (fs.length *4+3) f.ca.2.length r rfl (qgSS Gg) hq (Rt.gH _) (λrC H7=>?_) (by simp)
    rw [List.set_set] at H7
    exact fin H7
  |succ m ih=>
   intro r lD b2 w1 hm Fj A5 hr he H1
   refine regex_frame_endItem.aY _ _ _ _ _ _ _ _ ⟨((m+1:Nat):Int),H1.y6 1 rfl h4 5,aS (decide_eq_true (by omega)) ?_⟩
   refine H1.gZ (e:=aB) (sz:=4) (n:=1) (cs:=r.c) rfl (by decide) λw2 H2=>H2.aN (bs:=[b2]) (λw3 H3=>⟨_,H3.y6 1 rfl h4 5,?_⟩) (by simp)
   have e:IntKind.wrap .i64 (((m+1:Nat):Int) - 1)=(m:Int):=by rw [IntWalk.i64_in _ (by omega)];omega
   show bR w3 _ (.int .i64 (IntKind.wrap .i64 (((m+1:Nat):Int) - 1))) _
   rw [e]
   refine H3.CT (bs:=[b2]) (f:=⟨f.k,f.ar,f.al,f.an,f.ca,m+1,f.la⟩) 1 ⟨f.k,f.ar,f.al,f.an,f.ca,m,f.la⟩ 5 rfl h4 (by omega) rfl (λw4 H4=>?_) (by simp)
   have H5:=H4.freeze 4 (Rt.row ⟨some (bD w1.heap.size),1,1⟩ [r]) rfl (by show jJ 4 w4 _ ([r].flatMap Rt.c);rw [show [r].flatMap Rt.c=r.c by simp];exact aO.iQ (H4.get 4)) (λb hb=>fQ (e:=aB) (vs:=[r].flatMap Rt.c) hb)
   have H6:=H5.node 0 6 0 0 (s:=⟨some (bD w1.heap.size),1,1⟩) (ks:=[r]) rfl (by simp) (λt ht=>by simp at ht;subst ht;exact hr)
   refine ih (.mk 6 0 0 ⟨some (bD w1.heap.size),1,1⟩ [r]) _ b2 w4 (by omega) (λt ht=>by simp [Fj t ht]) (λb hb=>?_) (by simp) he H6
   obtain ⟨t,ht,yV⟩:=Rt.bC.1 hb
   rcases fW.1 ht with ht|ht
   .exact A5 b (Rt.bC.2 ⟨t,ht,yV⟩)
   .simp at ht
    rw [ht] at yV
    rcases Rt.eG.1 yV with h|h
    .have:=fQ (e:=aB) h
     simp [En.row,bA,Rt.s] at this
     subst this
     exact .inr (.inr H1.fr.size)
    .obtain ⟨t',nl,eC⟩:=Rt.bC.1 h
     simp [Rt.l] at nl
     rw [nl] at eC
     exact A5 b (Rt.bC.2 ⟨r,hr,eC⟩)
 obtain ⟨c0,c1,c2,c3⟩:=H.Mw 1 rfl h4
 have wC:f.n<=1000000:=hn
 refine regex_frame_endItem.cT _ w _ ⟨_,_,_,_,c0,c1,c2,c3,H.bI (λb2 w1 H1=>H1.aN (λw2 H2=>?_) (by simp)) (by simp)⟩
 exact loop f.n f.la ts b2 w2 wC (λ_ h=>h) (λb hb=>.inl hb) HW rfl H2
def FM.eS (f:FM) (j:Nat):Sl×List Rt:=if j=1 then f.ar else if j=2 then f.al else if j=3 then f.an else f.ca
def FM.put (f:FM) (j:Nat) (x:Sl×List Rt):FM:=⟨f.k,if j=1 then x else f.ar,if j=2 then x else f.al,if j=3 then x else f.an,if j=4 then x else f.ca,f.n,f.la⟩
theorem qH {j:Nat} (h1:1<=j) (h4:j<=4) {p:Nat->Prop} (a1:p 1) (a2:p 2) (a3:p 3) (a4:p 4):p j:=by
 have:j=1\/j=2\/j=3\/j=4:=by omega
 rcases this with rfl|rfl|rfl|rfl<;>assumption
theorem QO (f:FM) {j:Nat} (h1:1<=j) (h4:j<=4):f.c[j]? =some (f.eS j).1.v:=qH (p:=λj=>f.c[j]? =some (f.eS j).1.v) h1 h4 rfl rfl rfl rfl
theorem AU (f:FM) {j:Nat} (h1:1<=j) (h4:j<=4):f.rows[j - 1]? =some ((f.eS j).1,(f.eS j).2.flatMap Rt.c):=qH (p:=λj=>f.rows[j - 1]? =some ((f.eS j).1,(f.eS j).2.flatMap Rt.c)) h1 h4 rfl rfl rfl rfl
theorem EB (f:FM) (x:Sl×List Rt) {j:Nat} (h1:1<=j) (h4:j<=4):f.c.set j x.1.v=(f.put j x).c:=qH (p:=λj=>f.c.set j x.1.v=(f.put j x).c) h1 h4 rfl rfl rfl rfl
theorem WK (f:FM) (x:Sl×List Rt) {j:Nat} (h1:1<=j) (h4:j<=4):f.rows.set (j - 1) (x.1,x.2.flatMap Rt.c)=(f.put j x).rows:=qH (p:=λj=>f.rows.set (j - 1) (x.1,x.2.flatMap Rt.c)=(f.put j x).rows) h1 h4 rfl rfl rfl rfl
theorem Cp (f:FM) (x:Sl×List Rt) {j:Nat} (h1:1<=j) (h4:j<=4) {t:Rt} (ht:t∈(f.put j x).ts):t∈f.ts\/t∈x.2:=by
 refine qH (p:=λj=>t∈(f.put j x).ts->t∈f.ts\/t∈x.2) h1 h4 ?_ ?_ ?_ ?_ ht<;>
 .intro ht
  simp [FM.put,FM.ts] at ht ⊢
  rcases ht with h|h|h|h|h<;>simp [h]
theorem qY (f:FM) (j:Nat) {t:Rt} (ht:t∈(f.eS j).2):t∈f.ts:=by
 unfold FM.eS at ht
 unfold FM.ts
 split at ht
 .simp [ht]
 .split at ht
  .simp [ht]
  .split at ht
   .simp [ht]
   .simp [ht]
theorem Pz (f:FM) (x:Sl×List Rt) {j i:Nat} (xP:i≠j) (hi:1<=i) (hi4:i<=4):(f.put j x).eS i=f.eS i:=by
 have:i=1\/i=2\/i=3\/i=4:=by omega
 unfold FM.put FM.eS
 rcases this with rfl|rfl|rfl|rfl
 .simp;intro h;omega
 .simp;intro h;omega
 .simp;intro h;omega
 .simp;intro h;omega
section
variable {w0 w:World} {own:List Nat} {rb:Nat} {sl:Sl} {st wd:Int} {fs:List FM} {f:FM} {ts:List Rt} {p:Addr}
abbrev FS (own:List Nat) (w0 w:World) (rb:Nat) (sl:Sl) (st wd:Int) (fs:List FM) (f:FM) (rs:List kT) (ts:List Rt):Prop:=LH (·∈own) w0 w (SL rb sl st wd ((fs++[f]).flatMap FM.c) rs) [.trees ts]
theorem tg (fs:List FM) (f:FM) (x:Sl×List Rt) {j:Nat} (h1:1<=j) (h4:j<=4):((fs++[f]).flatMap FM.rows).set (fs.length *4+(j - 1)) (x.1,x.2.flatMap Rt.c)=(fs++[f.put j x]).flatMap FM.rows:=by
 rw [zp fs f (j - 1) _ (by omega),WK f x h1 h4,qfA]
 simp
theorem Ex (H:FS own w0 w rb sl st wd fs f ((fs++[f]).flatMap FM.rows) ts) (hp:sl.a=some p) (d:Nat) (DN:1<=d) (DO:d<=4) (t:Rt) (hb:(f.eS d).2.length<=1000000) {w1:World} {src:Sl} (H1:LH (·∈own) w0 w1 (SL rb sl st wd ((fs++[f]).flatMap FM.c) ((fs++[f]).flatMap FM.rows)++[.row aB 4 src z4]) [.trees ts]) (Rk:src.n=1) {K:World->Prop}
  (hK:∀s' w',FS own w0 w' rb sl st wd fs (f.put d (s',(f.eS d).2++[t])) ((fs++[f.put d (s',(f.eS d).2++[t])]).flatMap FM.rows) ts->K w'):
  ∃(t15:Sl) (w5:World),(Builtin.append_ #[aF,aF] aF #[(f.eS d).1.v,src.v]).run Tryz.prog w1=.ok (t15.v) w5/\(0:Int)<=(((f.eS d).1.n:Nat):Int)/\(((f.eS d).1.n:Nat):Int)<((t15.n:Nat):Int)/\aX t15.a λq=>((bR w5 (q.add (Int.toNat (((f.eS d).1.n:Nat):Int) *4)) (.int .i64 t.k) λw6=>bR w6 ((q.add (Int.toNat (((f.eS d).1.n:Nat):Int) *4)).add 1) (.int .u8 (t.lo.toNat:Int)) λw7=>bR w7 ((q.add (Int.toNat (((f.eS d).1.n:Nat):Int) *4)).add 2) (.int .u8 (t.hi.toNat:Int)) λw8=>bR w8 ((q.add (Int.toNat (((f.eS d).1.n:Nat):Int) *4)).add 3) t.s.v λw9=>bR w9 ((p.add (fs.length *10)).add d) t15.v K)/\
   (bR w5 ((p.add (fs.length *10)).add d) t15.v λrQ=>bR rQ (q.add (Int.toNat (((f.eS d).1.n:Nat):Int) *4)) (.int .i64 t.k) λw6=>bR w6 ((q.add (Int.toNat (((f.eS d).1.n:Nat):Int) *4)).add 1) (.int .u8 (t.lo.toNat:Int)) λw7=>bR w7 ((q.add (Int.toNat (((f.eS d).1.n:Nat):Int) *4)).add 2) (.int .u8 (t.hi.toNat:Int)) λw8=>bR w8 ((q.add (Int.toNat (((f.eS d).1.n:Nat):Int) *4)).add 3) t.s.v K)):=by
 have jK:((fs++[f]).flatMap FM.rows)[fs.length *4+(d - 1)]? =some ((f.eS d).1,(f.eS d).2.flatMap Rt.c):=oy fs f (d - 1) _ (AU f DN DO)
 have nr:(f.eS d).1.n=(f.eS d).2.length:=by
  have hp:(En.rows ((fs++[f]).flatMap FM.rows)).P w1:=H1.get 2
  exact Rt.cB (hp.1 _ (dC jK)).iQ
 obtain ⟨s',w5,h1,_,h3⟩:=H1.Hm (bs:=[]) (ty:=aF) 2 (fs.length *4+(d - 1)) (src:=src) (news:=z4) (K:=λs' w'=>FS own w0 w' rb sl st wd fs f (((fs++[f]).flatMap FM.rows).set (fs.length *4+(d - 1)) (s',(f.eS d).2.flatMap Rt.c++z4)) ts/\s'.n=(f.eS d).1.n+1/\∃q,s'.a=some q) rfl jK (aO.iQ (H1.get 3)) (by simp [Value.oneCell']) (by omega) (λs' w4 H4 wC qM=>⟨H4.take 3,by omega,by
  cases hs:s'.a with
  |none=>have:=(qM hs).2;omega
  |some q=>exact ⟨q,rfl⟩⟩) (by simp)
 obtain ⟨H5,hn5,q,hq⟩:=h3
 refine ⟨s',w5,h1,by omega,by omega,?_⟩
 rw [hq]
 have Gg:fs.length *4+(d - 1)<((fs++[f]).flatMap FM.rows).length:=by rw [pO];simp;omega
 have ec:∀(f:FM) (t:Rt) (d:Nat),(f.eS d).2.flatMap Rt.c++t.c=((f.eS d).2++[t]).flatMap Rt.c:=λf t d=>by simp
 rw [nr]
 refine ⟨?_,?_⟩
 .have st:=LH.JZ (bs:=[]) (K:=λw9=>bR w9 ((p.add (fs.length *10)).add d) s'.v K) H5 2 (fs.length *4+(d - 1)) (f.eS d).2.length t rfl (qgSS Gg) hq (Rt.gH _) (λw' H6=>?_) (by simp)
  .exact pf st λ_ h=>pf h.2 λ_ h=>pf h.2 λ_ h=>pf h.2 λ_ h=>h.2
  .rw [List.set_set,ec,tg fs f (s',(f.eS d).2++[t]) DN DO] at H6
   exact CD (H6.CT (bs:=[]) (f:=f) 1 (f.put d (s',(f.eS d).2++[t])) d rfl hp (by omega) (EB f (s',(f.eS d).2++[t]) DN DO) (λrC H7=>hK s' rC H7) (by simp))
 .refine CD (H5.CT (bs:=[]) (f:=f) 1 (f.put d (s',(f.eS d).2++[t])) d rfl hp (by omega) (EB f (s',(f.eS d).2++[t]) DN DO) (λw' H6=>?_) (by simp))
  have st:=LH.JZ (bs:=[]) (K:=K) (L:=SL rb sl st wd ((fs++[f.put d (s',(f.eS d).2++[t])]).flatMap FM.c) (((fs++[f]).flatMap FM.rows).set (fs.length *4+(d - 1)) (s',(f.eS d).2.flatMap Rt.c++z4))) H6 2 (fs.length *4+(d - 1)) (f.eS d).2.length t rfl (qgSS Gg) hq (Rt.gH _) (λrC H7=>?_) (by simp)
  .exact pf st λ_ h=>pf h.2 λ_ h=>pf h.2 λ_ h=>pf h.2 λ_ h=>h.2
  .rw [List.set_set,ec,tg fs f (s',(f.eS d).2++[t]) DN DO] at H7
   exact hK s' rC H7
theorem shift (H:FS own w0 w rb sl st wd fs f ((fs++[f]).flatMap FM.rows) ts) (hp:sl.a=some p) (k:Int) (d s:Nat) (DN:1<=d) (hs:s=d+1) (Rj:s<=4) (hb:(f.eS d).2.length<=1000000) (Fj:∀t∈f.ts,t∈ts) {R:aD}
  (hK:∀s' w',FS own w0 w' rb sl st wd fs ((f.put d (s',(f.eS d).2++[oM k (f.eS s).1 (f.eS s).2])).put s (⟨none,0,0⟩,[])) ((fs++[(f.put d (s',(f.eS d).2++[oM k (f.eS s).1 (f.eS s).2])).put s (⟨none,0,0⟩,[])]).flatMap FM.rows) (ts++[oM k (f.eS s).1 (f.eS s).2])->R (.returned (.tuple #[])) w'):
  tZ w λw2=>∃t7:Sl,w2.cell? ((p.add (fs.length *10)).add d)=some (t7.v)/\∃t11:Sl,w2.cell? ((p.add (fs.length *10)).add s)=some (t11.v)/\
   ((Calls Tryz.prog iY #[.i k,t11.v] w2 λr_ w3=>∃zF:Int,∃zG:Int,∃zH:Int,∃zI:Sl,r_=.returned (.agg #[.i zF,.int .u8 zG,.int .u8 zH,zI.v])/\
    w3.cell? ((p.add (fs.length *10)).add d)=some (t7.v)/\eV w3 (.cells #[.i 0,.int .u8 0,.int .u8 0,.slice none 0 0] aB) λw4=>
    w4.cell? ((p.add (fs.length *10)).add d)=some (t7.v)/\∃(t15:Sl) (w5:World),Sem.run Tryz.prog (Builtin.append_ #[aF,aF] aF #[t7.v,.slice (some (nb w3)) 1 1]) w4=.ok (t15.v) w5/\(0:Int)<=((t7.n:Nat):Int)/\((t7.n:Nat):Int)<((t15.n:Nat):Int)/\aX t15.a λq=>((bR w5 (q.add (Int.toNat ((t7.n:Nat):Int) *4)) (.i zF) λw6=>
    bR w6 ((q.add (Int.toNat ((t7.n:Nat):Int) *4)).add 1) (.int .u8 zG) λw7=>bR w7 ((q.add (Int.toNat ((t7.n:Nat):Int) *4)).add 2) (.int .u8 zH) λw8=>bR w8 ((q.add (Int.toNat ((t7.n:Nat):Int) *4)).add 3) (zI.v) λw9=>
    bR w9 ((p.add (fs.length *10)).add d) (t15.v) λpT=>bR pT ((p.add (fs.length *10)).add s) (.slice none 0 0) λw1=>R (.returned (.tuple #[])) w1)/\
    (bR w5 ((p.add (fs.length *10)).add d) (t15.v) λrQ=>bR rQ (q.add (Int.toNat ((t7.n:Nat):Int) *4)) (.i zF) λqW=>bR qW ((q.add (Int.toNat ((t7.n:Nat):Int) *4)).add 1) (.int .u8 zG) λuF=>
    bR uF ((q.add (Int.toNat ((t7.n:Nat):Int) *4)).add 2) (.int .u8 zH) λCV=>bR CV ((q.add (Int.toNat ((t7.n:Nat):Int) *4)).add 3) (zI.v) λAz=>bR Az ((p.add (fs.length *10)).add s) (.slice none 0 0) λw1=>R (.returned (.tuple #[])) w1)))/\
   (eV w2 (.cells #[.i 0,.int .u8 0,.int .u8 0,.slice none 0 0] aB) λKl=>Kl.cell? ((p.add (fs.length *10)).add s)=some (t11.v)/\Kl.cell? ((p.add (fs.length *10)).add d)=some (t7.v)/\
    Calls Tryz.prog iY #[.i k,t11.v] Kl λr_ Km=>∃zF:Int,∃zG:Int,∃zH:Int,∃zI:Sl,r_=.returned (.agg #[.i zF,.int .u8 zG,.int .u8 zH,zI.v])/\
    Km.cell? ((p.add (fs.length *10)).add d)=some (t7.v)/\∃(t15:Sl) (w5:World),Sem.run Tryz.prog (Builtin.append_ #[aF,aF] aF #[t7.v,.slice (some (nb w2)) 1 1]) Km=.ok (t15.v) w5/\(0:Int)<=((t7.n:Nat):Int)/\((t7.n:Nat):Int)<((t15.n:Nat):Int)/\aX t15.a λq=>((bR w5 (q.add (Int.toNat ((t7.n:Nat):Int) *4)) (.i zF) λw6=>
    bR w6 ((q.add (Int.toNat ((t7.n:Nat):Int) *4)).add 1) (.int .u8 zG) λw7=>bR w7 ((q.add (Int.toNat ((t7.n:Nat):Int) *4)).add 2) (.int .u8 zH) λw8=>bR w8 ((q.add (Int.toNat ((t7.n:Nat):Int) *4)).add 3) (zI.v) λw9=>
    bR w9 ((p.add (fs.length *10)).add d) (t15.v) λpT=>bR pT ((p.add (fs.length *10)).add s) (.slice none 0 0) λw1=>R (.returned (.tuple #[])) w1)/\
    (bR w5 ((p.add (fs.length *10)).add d) (t15.v) λrQ=>bR rQ (q.add (Int.toNat ((t7.n:Nat):Int) *4)) (.i zF) λqW=>bR qW ((q.add (Int.toNat ((t7.n:Nat):Int) *4)).add 1) (.int .u8 zG) λuF=>
    bR uF ((q.add (Int.toNat ((t7.n:Nat):Int) *4)).add 2) (.int .u8 zH) λCV=>bR CV ((q.add (Int.toNat ((t7.n:Nat):Int) *4)).add 3) (zI.v) λAz=>bR Az ((p.add (fs.length *10)).add s) (.slice none 0 0) λw1=>R (.returned (.tuple #[])) w1)))):=by
 subst hs
 have vm:1<=d+1:=by omega
 have DO:d<=4:=by omega
 have jK:((fs++[f]).flatMap FM.rows)[fs.length *4+(d+1 - 1)]? =some ((f.eS (d+1)).1,(f.eS (d+1)).2.flatMap Rt.c):=oy fs f (d+1 - 1) _ (AU f vm Rj)
 have rd:∀{w':World} {G:List En},LH (·∈own) w0 w' (SL rb sl st wd ((fs++[f]).flatMap FM.c) ((fs++[f]).flatMap FM.rows)++G) [.trees ts]->jJ 4 w' (f.eS (d+1)).1 ((f.eS (d+1)).2.flatMap Rt.c):=λH'=>by
  have hP:(En.rows ((fs++[f]).flatMap FM.rows)).P _:=H'.get 2
  exact (hP.1 _ (dC jK)).iQ
 have fin:∀s' w',FS own w0 w' rb sl st wd fs (f.put d (s',(f.eS d).2++[oM k (f.eS (d+1)).1 (f.eS (d+1)).2])) ((fs++[f.put d (s',(f.eS d).2++[oM k (f.eS (d+1)).1 (f.eS (d+1)).2])]).flatMap FM.rows) ts->
   bR w' ((p.add (fs.length *10)).add (d+1)) (.slice none 0 0) λw1=>R (.returned (.tuple #[])) w1:=λs' w' H'=>by
  have hc:(f.put d (s',(f.eS d).2++[oM k (f.eS (d+1)).1 (f.eS (d+1)).2])).eS (d+1)=f.eS (d+1):=Pz f _ (by omega) vm Rj
  refine CD (H'.CT (bs:=[]) 1 ((f.put d (s',(f.eS d).2++[oM k (f.eS (d+1)).1 (f.eS (d+1)).2])).put (d+1) (⟨none,0,0⟩,[])) (d+1) rfl hp (by omega) (EB _ (⟨none,0,0⟩,[]) vm Rj) (λw1 H1=>hK s' w1 ?_) (by simp))
  have Rh:=oy fs (f.put d (s',(f.eS d).2++[oM k (f.eS (d+1)).1 (f.eS (d+1)).2])) (d+1 - 1) _ (AU _ vm Rj)
  rw [hc] at Rh
  have H2:=H1.B6 2 (fs.length *4+(d+1 - 1)) rfl Rh
  have H3:=H2.Il 0 k (s:=(f.eS (d+1)).1) (ks:=(f.eS (d+1)).2) rfl (by simp) λt ht=>Fj t (qY f _ ht)
  have e:=tg fs (f.put d (s',(f.eS d).2++[oM k (f.eS (d+1)).1 (f.eS (d+1)).2])) (⟨none,0,0⟩,[]) vm Rj
  have e':(([]:List Rt).flatMap Rt.c)=[]:=rfl
  rw [e'] at e
  simp only at e
  rw [<-e]
  exact H3
 have c7:∀{w':World} {G:List En},LH (·∈own) w0 w' (SL rb sl st wd ((fs++[f]).flatMap FM.c) ((fs++[f]).flatMap FM.rows)++G) [.trees ts]->w'.cell? ((p.add (fs.length *10)).add d)=some ((f.eS d).1.v):=λH'=>H'.y6 1 rfl hp d (QO f DN DO)
 have c11:∀{w':World} {G:List En},LH (·∈own) w0 w' (SL rb sl st wd ((fs++[f]).flatMap FM.c) ((fs++[f]).flatMap FM.rows)++G) [.trees ts]->w'.cell? ((p.add (fs.length *10)).add (d+1))=some ((f.eS (d+1)).1.v):=λH'=>H'.y6 1 rfl hp (d+1) (QO f vm Rj)
 refine H.dr λw2 H2=>⟨_,c7 (G:=[]) H2,_,c11 (G:=[]) H2,?_,H2.gZ (e:=aB) (sz:=4) (n:=1) (cs:=z4) rfl (by decide) λw3 H3=>⟨c11 H3,c7 H3,?_⟩⟩
 .refine H2.call (FI k _ _ w2 (rd (G:=[]) H2)) ?_
  rintro _ w3 rfl H3
  refine ⟨_,_,_,_,rfl,c7 (G:=[]) H3,H3.gZ (e:=aB) (sz:=4) (n:=1) (cs:=z4) rfl (by decide) λw4 H4=>⟨c7 H4,?_⟩⟩
  exact Ex H hp d DN DO (oM k (f.eS (d+1)).1 (f.eS (d+1)).2) hb (src:=⟨some (bD w3.heap.size),1,1⟩) H4 rfl fin
 .refine H3.call (FI k _ _ w3 (rd H3)) ?_
  rintro _ w4 rfl H4
  refine ⟨_,_,_,_,rfl,c7 H4,?_⟩
  exact Ex H hp d DN DO (oM k (f.eS (d+1)).1 (f.eS (d+1)).2) hb (src:=⟨some (bD w2.heap.size),1,1⟩) H4 rfl fin
end
def BI (w:World) (own:List Nat) (ts:List Rt) (rb:Nat) (Q:Ending->Addr->List FX->FX->Int->Int->List Rt->Prop):aD:=λr w'=>∃Ak uE xU dJ r6,rR w own ts rb Ak uE xU dJ r6 (Q r Ak uE xU dJ r6) w'
section
variable {M:Nat->Prop} {w0 w:World} {L D:List En} {bs:List Nat}
theorem _root_.Go.W.LH.cs (H:LH M w0 w L D) (i:Nat) {rb:Nat} {f0:Addr} {lo:List FX} {tp:FX} {st wd:Int} {own:List Nat} {ts:List Rt} {g:FuncId} {args:Array Value} {K:aD} {Q:Ending->Addr->List FX->FX->Int->Int->List Rt->Prop} (hi:L[i]? =some (.stt rb f0 lo tp st wd own ts))
  (hc:St w rb f0 lo tp st wd own ts->Calls Tryz.prog g args w (BI w own ts rb Q))
  (hk:∀r w' Ak uE xU dJ r6 il lD,(∀t∈ts,t∈lD)->Q r Ak uE xU dJ r6 lD->LH M w0 w' (L.set i (.stt rb Ak uE xU dJ r6 il lD)) D->K r w') (jS:∀b∈bs,En.g b∈L:=by simp):fC bs Tryz.prog g args w K:=by
 refine ⟨(·∈own),λb hb hm=>?_,(hc (H.get i hi)).mono ?_⟩
 .exact nU H hi (PZ _ _ _ _ _ _ _ _ w) (jS b hb) (aI.2 (qmL _ hm))
 .rintro r w' ⟨Ak,uE,xU,dJ,r6,il,lD,s',f,o,b,t,q⟩
  refine ⟨f,hk r w' Ak uE xU dJ r6 il lD t q (H.CK i _ hi (f.mono λx _ hx=>aI.2 (qmL _ hx)) s' λx hx=>?_)⟩
  rcases fW.1 (aI.1 hx) with hx|hx
  .exact (o x hx).imp (λh=>aI.2 (qmL _ h)) id
  .rcases b x hx with h|h|h
   .exact .inl (aI.2 (qmR _ h))
   .exact .inl (aI.2 (qmL _ h))
   .exact .inr h
end
def kL (f:FX):FX:=⟨f.k,f.ar,f.al,f.an++[Cm 3 (hC f).ca],[],0,f.la⟩
def iT (f:FX):FX:=⟨f.k,f.ar,f.al++[Cm 5 (kL f).an],[],[],0,f.la⟩
def yN (f:FX):FX:=⟨f.k,f.ar,[],[],[],0,f.la⟩
def iI (f:FX):Rx:=Cm 4 (iT f).al
theorem sW {w0:World} {M:Nat->Prop} {w:World} {own:List Nat} {ts ts0:List Rt} {k:Int} {s:Sl} {ks:List Rt} (hb:∀b∈Rt.gN ts,b∈Rt.gN ts0\/b∈own\/w.heap.size<=b) (hs:∀b∈bA s,b∈own\/w.heap.size<=b) (hk:∀t∈ks,t∈ts):∀b∈Rt.gN (ts++[oM k s ks]),b∈Rt.gN ts0\/b∈own\/w.heap.size<=b:=λb eC=>by
 obtain ⟨t,ht,yV⟩:=Rt.bC.1 eC
 rcases fW.1 ht with ht|ht
 .exact hb b (Rt.bC.2 ⟨t,ht,yV⟩)
 .simp at ht
  rw [ht] at yV
  rcases Pv yV with h|h
  .exact .inr (hs b (fQ (e:=aB) h))
  .obtain ⟨t',nl,B9⟩:=Rt.bC.1 h
   exact hb b (Rt.bC.2 ⟨t',hk t' nl,B9⟩)
theorem IA {own:List Nat} {w0 w:World} {rb:Nat} {sl:Sl} {st wd:Int} {fs:List FM} {f:FM} {ts:List Rt} (H:FS own w0 w rb sl st wd fs f ((fs++[f]).flatMap FM.rows) ts) {j:Nat} (h1:1<=j) (h4:j<=4):∀b∈bA (f.eS j).1,b∈own\/w0.heap.size<=b:=λb hb=>by
 have jK:=oy fs f (j - 1) _ (AU f h1 h4)
 exact (H.new (.rows ((fs++[f]).flatMap FM.rows)) (by simp) b (aI.2 (mV.2 ⟨_,dC jK,hb⟩))).symm
theorem EJ {fs:List FM} {f:FM} {ts:List Rt} {k:Int} {d s:Nat} {s':Sl} (h3:∀g∈fs++[f],∀t∈g.ts,t∈ts) (DN:1<=d) (DO:d<=4) (vm:1<=s) (Rj:s<=4):∀g∈fs++[(f.put d (s',(f.eS d).2++[oM k (f.eS s).1 (f.eS s).2])).put s (⟨none,0,0⟩,[])],∀t∈g.ts,t∈ts++[oM k (f.eS s).1 (f.eS s).2]:=by
 intro g hg t ht
 rcases fW.1 hg with hg|hg
 .exact qmL _ (h3 g (by simp [hg]) t ht)
 .simp at hg;subst hg
  rcases Cp _ _ vm Rj ht with h|h
  .rcases Cp _ _ DN DO h with h|h
   .exact qmL _ (h3 f (by simp) t h)
   .rcases fW.1 h with h|h
    .exact qmL _ (h3 f (by simp) t (qY f d h))
    .exact qmR _ h
  .cases h
theorem Dg {w:World} {rb:Nat} {f0:Addr} {lo:List FX} {tp:FX} {st wd:Int} {own:List Nat} {ts:List Rt} (h:St w rb f0 lo tp st wd own ts) (hn:tp.n<=1000000) (hc:tp.ca.length<=1000000) (ha:tp.an.length<=1000000):
  Calls Tryz.prog iX #[.pointer (some f0)] w λr w'=>r=.returned (.tuple #[])/\rR w own ts rb f0 lo (kL tp) st wd (λ_=>True) w':=by
 refine regex_frame_endSeq.ok _ w _ ((AO h hn hc).mono ?_)
 rintro _ w1 ⟨rfl,oN,Uq,⟨sl,fs,f,p,rfl,hx,h3,h4,rfl,h6,h7,h8,h9,B8⟩,f1,o1,b1,t1,_⟩
 refine ⟨rfl,?_⟩
 have H:=St.sj h6 h7 h8 h9 B8
 have Y6:(f.eS 3).2.length<=1000000:=by
  have e:f.x.an.length=f.an.2.length:=by show (Rt.bU f.an.2).length=_;rw [Rt.eW];simp
  have e2:f.x.an=tp.an:=by rw [hx];rfl
  show f.an.2.length<=_
  rw [<-e,e2];exact ha
 refine shift (R:=λr w'=>r=.returned (.tuple #[])/\rR w own ts rb (p.add (fs.length *10)) (fs.map FM.x) (kL tp) st wd (λ_=>True) w') H h4 3 3 4 (by omega) rfl (by omega) Y6 (λt ht=>h3 f (by simp) t ht) λs' w' H'=>⟨rfl,rR.then f1 o1 b1 t1 ?_⟩
 have:=St.of (ts:=Uq) (A:=λ_=>True) (f0:=p.add (fs.length *10)) H' 0 rfl (EJ h3 (by omega) (by omega) (by omega) (by omega)) h4 rfl (sW (w0:=w) (M:=F0) (λb hb=>.inl hb) (IA H (by omega) (by omega)) λt ht=>h3 f (by simp) t (qY f 4 ht)) (λt ht=>qmL _ ht) trivial
 have e:((f.put 3 (s',(f.eS 3).2++[oM 3 (f.eS 4).1 (f.eS 4).2])).put 4 (⟨none,0,0⟩,[])).x=kL tp:=by
  have hk:f.x.k=tp.k:=by rw [hx];rfl
  have Y8:f.x.ar=tp.ar:=by rw [hx];rfl
  have hall:f.x.al=tp.al:=by rw [hx];rfl
  have Y7:f.x.an=tp.an:=by rw [hx];rfl
  have A6:f.x.ca=(hC tp).ca:=by rw [hx]
  have TG:f.x.n=0:=by rw [hx];rfl
  have HW:f.x.la=tp.la:=by rw [hx];rfl
  unfold kL
  rw [<-hk,<-Y8,<-hall,<-Y7,<-A6,<-HW]
  show FX.mk f.k (f.ar.1,Rt.bU f.ar.2) (Rt.bU f.al.2) (Rt.bU (f.an.2++[oM 3 f.ca.1 f.ca.2])) (Rt.bU []) f.n f.la.rx=_
  have V5:f.n=0:=TG
  rw [V5,kg]
  simp [Rt.bU,Cl,FM.x]
 rw [e] at this
 exact this
theorem AN {w:World} {rb:Nat} {f0:Addr} {lo:List FX} {tp:FX} {st wd:Int} {own:List Nat} {ts:List Rt} (h:St w rb f0 lo tp st wd own ts) (hn:tp.n<=1000000) (hc:tp.ca.length<=1000000) (ha:tp.an.length<=1000000) (hl:tp.al.length<=1000000):
  Calls Tryz.prog iF #[.pointer (some f0)] w λr w'=>r=.returned (.tuple #[])/\rR w own ts rb f0 lo (iT tp) st wd (λ_=>True) w':=by
 refine regex_frame_endConj.ok _ w _ ((Dg h hn hc ha).mono ?_)
 rintro _ w1 ⟨rfl,oN,Uq,⟨sl,fs,f,p,rfl,hx,h3,h4,rfl,h6,h7,h8,h9,B8⟩,f1,o1,b1,t1,_⟩
 refine ⟨rfl,?_⟩
 have H:=St.sj h6 h7 h8 h9 B8
 have Y6:(f.eS 2).2.length<=1000000:=by
  have e:f.x.al.length=f.al.2.length:=by show (Rt.bU f.al.2).length=_;rw [Rt.eW];simp
  have e2:f.x.al=tp.al:=by rw [hx];rfl
  show f.al.2.length<=_
  rw [<-e,e2];exact hl
 refine shift (R:=λr w'=>r=.returned (.tuple #[])/\rR w own ts rb (p.add (fs.length *10)) (fs.map FM.x) (iT tp) st wd (λ_=>True) w') H h4 5 2 3 (by omega) rfl (by omega) Y6 (λt ht=>h3 f (by simp) t ht) λs' w' H'=>⟨rfl,rR.then f1 o1 b1 t1 ?_⟩
 have:=St.of (ts:=Uq) (A:=λ_=>True) (f0:=p.add (fs.length *10)) H' 0 rfl (EJ h3 (by omega) (by omega) (by omega) (by omega)) h4 rfl (sW (w0:=w) (M:=F0) (λb hb=>.inl hb) (IA H (by omega) (by omega)) λt ht=>h3 f (by simp) t (qY f 3 ht)) (λt ht=>qmL _ ht) trivial
 have e:((f.put 2 (s',(f.eS 2).2++[oM 5 (f.eS 3).1 (f.eS 3).2])).put 3 (⟨none,0,0⟩,[])).x=iT tp:=by
  have hk:f.x.k=tp.k:=by rw [hx];rfl
  have Y8:f.x.ar=tp.ar:=by rw [hx];rfl
  have hall:f.x.al=tp.al:=by rw [hx];rfl
  have Y7:f.x.an=(kL tp).an:=by rw [hx]
  have A6:f.x.ca=[]:=by rw [hx];rfl
  have TG:f.x.n=0:=by rw [hx];rfl
  have HW:f.x.la=tp.la:=by rw [hx];rfl
  unfold iT
  rw [<-hk,<-Y8,<-hall,<-Y7,<-HW]
  show FX.mk f.k (f.ar.1,Rt.bU f.ar.2) (Rt.bU (f.al.2++[oM 5 f.an.1 f.an.2])) (Rt.bU []) (Rt.bU f.ca.2) f.n f.la.rx=_
  have V5:f.n=0:=TG
  have hc0:Rt.bU f.ca.2=[]:=A6
  rw [V5,hc0,kg]
  simp [Rt.bU,Cl,FM.x]
 rw [e] at this
 exact this
abbrev SF (M:Nat->Prop) (w0 w:World) (rb:Nat) (sl:Sl) (st wd:Int) (fs:List FM) (f:FM) (G:List En) (ts:List Rt):Prop:=LH M w0 w (SL rb sl st wd ((fs++[f]).flatMap FM.c) ((fs++[f]).flatMap FM.rows)++G) [.trees ts]
section
variable {M:Nat->Prop} {w0 w:World} {bs:List Nat} {G:List En} {rb:Nat} {sl:Sl} {st wd:Int} {fs:List FM} {f:FM} {ts:List Rt} {p:Addr}
theorem WQ (H:SF M w0 w rb sl st wd fs f G ts) (h3:∀g∈fs++[f],∀t∈g.ts,t∈ts) (hp:sl.a=some p):
  St w rb (p.add (fs.length *10)) (fs.map FM.x) f.x st wd ((SL rb sl st wd ((fs++[f]).flatMap FM.c) ((fs++[f]).flatMap FM.rows)).flatMap (·.fp)) ts:=by
 have nd:=H.nd
 rw [qfA,qnA] at nd
 refine ⟨sl,fs,f,p,rfl,rfl,h3,hp,rfl,rfl,nd.1,λe he=>H.own e (qmL _ he),H.getD 0,λb hb hm=>?_⟩
 obtain ⟨e,he,rh⟩:=mV.1 hm
 exact H.dj (.trees ts) (by simp) b (aI.2 hb) e (qmL _ he) rh
theorem Nb (H:SF M w0 w rb sl st wd fs f G ts) {w':World} {Ak:Addr} {uE:List FX} {xU:FX} {dJ r6:Int} {il:List Nat} {lD:List Rt} (s:St w' rb Ak uE xU dJ r6 il lD) (fr:Fr (·∈(SL rb sl st wd ((fs++[f]).flatMap FM.c) ((fs++[f]).flatMap FM.rows)).flatMap (·.fp)) w w') (o:∀x∈il,x∈(SL rb sl st wd ((fs++[f]).flatMap FM.c) ((fs++[f]).flatMap FM.rows)).flatMap (·.fp)\/w.heap.size<=x)
  (hb:∀b∈Rt.gN lD,b∈Rt.gN ts\/b∈(SL rb sl st wd ((fs++[f]).flatMap FM.c) ((fs++[f]).flatMap FM.rows)).flatMap (·.fp)\/w.heap.size<=b):
  ∃(xG:Sl) (tC:List FM) (f':FM) (p':Addr),tC.map FM.x=uE/\f'.x=xU/\(∀g∈tC++[f'],∀t∈g.ts,t∈lD)/\xG.a=some p'/\Ak=p'.add (tC.length *10)/\(∀b∈Rt.gN lD,b∈Rt.gN ts\/w0.heap.size<=b\/M b)/\SF M w0 w' rb xG dJ r6 tC f' G lD:=by
 obtain ⟨xG,tC,f',p',h1,h2,h3,h4,h5,h6,h7,h8,h9,B8⟩:=s
 have nd:=H.nd
 rw [qfA,qnA] at nd
 have GB:∀b∈(SL rb sl st wd ((fs++[f]).flatMap FM.c) ((fs++[f]).flatMap FM.rows)).flatMap (·.fp),w0.heap.size<=b\/M b:=λb hb=>by
  obtain ⟨e,he,rh⟩:=mV.1 hb
  exact H.new e (qmL _ he) b rh
 have VI:∀e∈G,∀b∈e.fp,b<w.heap.size:=λe he b hb=>e.lt w (H.own e (qmR _ he)) b hb
 have F9:∀e∈G,∀b∈e.fp,b∉(SL rb sl st wd ((fs++[f]).flatMap FM.c) ((fs++[f]).flatMap FM.rows)).flatMap (·.fp):=λe he b hb hm=>nd.2.2 b hm b (mV.2 ⟨e,he,hb⟩) rfl
 have me:=H.fr.size
 have MP:∀b∈il,w0.heap.size<=b\/M b:=λb hb=>(o b hb).elim (GB b) λh=>.inl (Nat.le_trans me h)
 refine ⟨xG,tC,f',p',h1,h2,h3,h4,h5,λb eC=>?_,H.fr.trans fr λx hx hm=>(GB x hm).resolve_left (by omega),λe he=>?_,λe he=>?_,λe he b eC=>?_,?_,λe he b eC e' mJ rh=>?_⟩
 .rcases hb b eC with h|h|h
  .exact .inl h
  .exact .inr (GB b h)
  .exact .inr (.inl (Nat.le_trans me h))
 .rcases fW.1 he with he|he
  .exact h8 e he
  .exact e.st w w' (λb hb hl=>fr.gV b hl (F9 e he b hb)) (H.own e (qmR _ he))
 .simp at he;subst he;exact h9
 .rcases fW.1 he with he|he
  .exact MP b (by rw [h6];exact mV.2 ⟨e,he,eC⟩)
  .exact H.new e (qmR _ he) b eC
 .rw [qfA,qnA]
  refine ⟨h6▸h7,nd.2.1,λx hx y hy Wi=>?_⟩
  subst Wi
  obtain ⟨e,he,rh⟩:=mV.1 hy
  rcases o x (by rw [h6];exact hx) with h|h
  .exact F9 e he x rh h
  .have:=VI e he x rh;omega
 .simp at he;subst he
  have B9:b∈Rt.gN lD:=aI.1 eC
  rcases fW.1 mJ with mJ|mJ
  .exact B8 b B9 (by rw [h6];exact mV.2 ⟨e',mJ,rh⟩)
  .rcases hb b B9 with h|h|h
   .exact H.dj (.trees ts) (by simp) b (aI.2 h) e' (qmR _ mJ) rh
   .exact F9 e' mJ b rh h
   .have:=VI e' mJ b rh;omega
theorem _root_.Go.W.LH.Kt (H:SF M w0 w rb sl st wd fs f G ts) (h3:∀g∈fs++[f],∀t∈g.ts,t∈ts) (hp:sl.a=some p) {g:FuncId} {args:Array Value} {K:aD} {Q:Ending->Addr->List FX->FX->Int->Int->List Rt->Prop}
  (hc:∀own,St w rb (p.add (fs.length *10)) (fs.map FM.x) f.x st wd own ts->Calls Tryz.prog g args w (BI w own ts rb Q))
  (hk:∀r w' (xG:Sl) (tC:List FM) (f':FM) (p':Addr) (dJ r6:Int) (lD:List Rt),(∀t∈ts,t∈lD)->(∀g∈tC++[f'],∀t∈g.ts,t∈lD)->xG.a=some p'->(∀b∈Rt.gN lD,b∈Rt.gN ts\/w0.heap.size<=b\/M b)->Q r (p'.add (tC.length *10)) (tC.map FM.x) f'.x dJ r6 lD->SF M w0 w' rb xG dJ r6 tC f' G lD->K r w')
  (jS:∀b∈bs,En.g b∈G:=by simp):fC bs Tryz.prog g args w K:=by
 have nd:=H.nd
 rw [qfA,qnA] at nd
 refine ⟨(·∈(SL rb sl st wd ((fs++[f]).flatMap FM.c) ((fs++[f]).flatMap FM.rows)).flatMap (·.fp)),λb hb hm=>?_,(hc _ (WQ H h3 hp)).mono ?_⟩
 .exact nd.2.2 b hm b (mV.2 ⟨_,jS b hb,by simp [En.g]⟩) rfl
 .rintro r w' ⟨Ak,uE,xU,dJ,r6,il,lD,s,fr,o,b,t,q⟩
  obtain ⟨xG,tC,f',p',rfl,rfl,Ju,HX,rfl,eC,H'⟩:=Nb H s fr o b
  exact ⟨fr,hk r w' xG tC f' p' dJ r6 lD t Ju HX eC q H'⟩
theorem _root_.Go.W.LH.Ov (H:SF M w0 w rb sl st wd fs f G ts) (h3:∀g∈fs++[f],∀t∈g.ts,t∈ts) (hp:sl.a=some p) {g:FuncId} {args:Array Value} {K:aD} {Q:Ending->Addr->List FX->FX->Int->Int->List Rt->Prop}
  (hc:∀own,St w rb (p.add (fs.length *10)) (fs.map FM.x) f.x st wd own ts->Calls Tryz.prog g args w (BI w own ts rb Q))
  (hk:∀r w' (xG:Sl) (tC:List FM) (f':FM) (p':Addr) (dJ r6:Int) (lD:List Rt),(∀t∈ts,t∈lD)->(∀g∈tC++[f'],∀t∈g.ts,t∈lD)->xG.a=some p'->(∀b∈Rt.gN lD,b∈Rt.gN ts\/w0.heap.size<=b\/M b)->Q r (p'.add (tC.length *10)) (tC.map FM.x) f'.x dJ r6 lD->SF M w0 w' rb xG dJ r6 tC f' G lD->K r w'):Calls Tryz.prog g args w K:=by
 obtain ⟨_,_,h⟩:=H.Kt (bs:=[]) h3 hp hc hk (by simp)
 exact h.mono λr w' h=>h.2
end
theorem FY (f:FM):f.x.ar.2.length=f.ar.2.length/\f.x.al.length=f.al.2.length/\f.x.an.length=f.an.2.length/\f.x.ca.length=f.ca.2.length:=by
 refine ⟨?_,?_,?_,?_⟩<;>(show (Rt.bU _).length=_;rw [Rt.eW];simp)
theorem BP {w:World} {own:List Nat} {ts:List Rt} {rb:Nat} {f0:Addr} {lo:List FX} {tp:FX} {st wd:Int} {g:FuncId} {args:Array Value} (h:Calls Tryz.prog g args w λr w'=>r=.returned (.tuple #[])/\rR w own ts rb f0 lo tp st wd (λ_=>True) w'):
  Calls Tryz.prog g args w (BI w own ts rb λr Ak uE xU dJ r6 _=>r=.returned (.tuple #[])/\Ak=f0/\uE=lo/\xU=tp/\dJ=st/\r6=wd):=
 h.mono λr w' ⟨h1,h2⟩=>⟨f0,lo,tp,st,wd,h2.mono λ_ _=>⟨h1,rfl,rfl,rfl,rfl,rfl⟩⟩
structure Small (f:FX) (n:Nat):Prop where
 n':f.n<=n
 ar:f.ar.2.length<=n
 al:f.al.length<=n
 an:f.an.length<=n
 ca:f.ca.length<=n
theorem te {w:World} {rb:Nat} {f0:Addr} {lo:List FX} {tp:FX} {st wd:Int} {own:List Nat} {ts:List Rt} (h:St w rb f0 lo tp st wd own ts) (hs:Small tp 1000000):
  Calls Tryz.prog e8 #[.pointer (some f0)] w (BI w own ts rb λr Ak uE xU dJ r6 lD=>Ak=f0/\uE=lo/\xU=yN tp/\dJ=st/\r6=wd/\∃t∈lD,r=.returned t.v/\t.rx=iI tp):=by
 obtain ⟨sl,fs,f,p,rfl,rfl,h3,h4,rfl,h6,h7,h8,h9,B8⟩:=h
 have H:SF (·∈own) w w rb sl st wd fs f [] ts:=by
  have:=St.sj h6 h7 h8 h9 B8
  show LH _ _ _ (_++[]) _
  rw [qaN]
  exact this
 refine regex_frame_endExpr.cT _ w _ (H.bI (bs:=[]) (λb2 w1 H1=>?_) (by simp))
 refine (show SF (·∈own) w w1 rb sl st wd fs f [.g b2] ts from H1).Kt (bs:=[b2]) h3 h4 (λoN s1=>BP (AN s1 hs.n' hs.ca hs.an hs.al)) ?_ (by simp)
 rintro _ w2 NX yS f2 p2 kR Qo CU t2 Ff Tp b2' ⟨rfl,NP,qV,jd,rfl,rfl⟩ H2
 rw [<-NP,<-qV]
 have jK:((yS++[f2]).flatMap FM.rows)[yS.length *4+(2 - 1)]? =some ((f2.eS 2).1,(f2.eS 2).2.flatMap Rt.c):=oy yS f2 1 _ (AU f2 (j:=2) (by omega) (by omega))
 have hrd:jJ 4 w2 f2.al.1 (f2.al.2.flatMap Rt.c):=by
  have hP:(En.rows ((yS++[f2]).flatMap FM.rows)).P w2:=H2.get 2
  exact (hP.1 _ (dC jK)).iQ
 refine ⟨rfl,f2.al.1,H2.y6 1 rfl Tp 2,H2.aL (FI 4 _ _ w2 hrd) ?_⟩
 rintro _ w3 rfl H3
 refine ⟨_,_,_,_,rfl,H3.bI (bs:=[b2]) (λb3 w4 H4=>H4.aN (bs:=[b2,b3]) (λw5 H5=>?_) (by simp)) (by simp)⟩
 refine H5.CT (bs:=[b2,b3]) (f:=f2) 1 (f2.put 2 (⟨none,0,0⟩,[])) 2 rfl Tp (by omega) rfl (λw6 H6=>H6.aN (bs:=[b2,b3]) (λw7 H7=>?_) (by simp)) (by simp)
 have H8:=H7.B6 2 (yS.length *4+(2 - 1)) rfl jK
 have H9:=H8.Il 0 4 (s:=f2.al.1) (ks:=f2.al.2) rfl (by simp [FM.eS]) λt ht=>Ff f2 (by simp) t (qY f2 2 ht)
 have er:=tg yS f2 (⟨none,0,0⟩,[]) (j:=2) (by omega) (by omega)
 have e':(([]:List Rt).flatMap Rt.c)=[]:=rfl
 rw [e'] at er
 simp only at er
 have mg:LH (·∈own) w w7 (SL rb NX kR Qo ((yS++[f2.put 2 (⟨none,0,0⟩,[])]).flatMap FM.c) ((yS++[f2.put 2 (⟨none,0,0⟩,[])]).flatMap FM.rows)) [.trees (CU++[oM 4 f2.al.1 f2.al.2])]:=by
  rw [<-er]
  exact H9.take 3
 have rW:∀b∈bA f2.al.1,b∈own\/w.heap.size<=b:=λb hb=>(H2.new (.rows ((yS++[f2]).flatMap FM.rows)) (by simp) b (aI.2 (mV.2 ⟨_,dC jK,hb⟩))).symm
 have ex:(f2.put 2 (⟨none,0,0⟩,[])).x=yN f.x:=by
  have e1:f2.k=f.k:=by have:=congrArg FX.k jd;exact this
  have e2:(f2.ar.1,Rt.bU f2.ar.2)=f.x.ar:=by have:=congrArg FX.ar jd;exact this
  have e3:Rt.bU f2.an.2=[]:=by have:=congrArg FX.an jd;exact this
  have e4:Rt.bU f2.ca.2=[]:=by have:=congrArg FX.ca jd;exact this
  have e5:f2.n=0:=by have:=congrArg FX.n jd;exact this
  have e6:f2.la.rx=f.x.la:=by have:=congrArg FX.la jd;exact this
  show FX.mk f2.k (f2.ar.1,Rt.bU f2.ar.2) (Rt.bU []) (Rt.bU f2.an.2) (Rt.bU f2.ca.2) f2.n f2.la.rx=_
  rw [e1,e2,e3,e4,e5,e6]
  rfl
 refine ⟨_,_,_,_,_,St.of (ts:=ts) (f0:=p2.add (yS.length *10)) mg 0 rfl (λg hg t ht=>?_) Tp rfl (sW (w0:=w) (M:=F0) (λb hb=>(b2' b hb).imp id Or.symm) rW λt ht=>Ff f2 (by simp) t (qY f2 2 ht)) (λt ht=>qmL _ (t2 t ht)) ⟨rfl,rfl,ex,rfl,rfl,oM 4 f2.al.1 f2.al.2,by simp,rfl,?_⟩⟩
 .rcases fW.1 hg with hg|hg
  .exact qmL _ (Ff g (by simp [hg]) t ht)
  .simp at hg;subst hg
   rcases Cp _ _ (by omega) (by omega) ht with h|h
   .exact qmL _ (Ff f2 (by simp) t h)
   .cases h
 .rw [Cl]
  have:=congrArg FX.al jd
  have e:Rt.bU f2.al.2=(iT f.x).al:=this
  rw [e];rfl
theorem lM {p:Addr} {K:Addr->Prop} (h:K p):aX (some p) K:=h
theorem VB:iK Tryz.prog kS b0 (.agg #[.int .i64 0,.slice none 0 0,.slice none 0 0,.slice none 0 0,.slice none 0 0,.int .i64 0,.int .i64 0,.int .u8 0,.int .u8 0,.slice none 0 0]) 10 152:=⟨by kernel_rfl,by kernel_rfl,rfl,by decide,by decide⟩
section
variable {M:Nat->Prop} {w0 w:World} {L D:List En} {bs:List Nat} {G:List En} {rb:Nat} {sl:Sl} {st wd:Int} {fs:List FM} {f:FM} {ts:List Rt} {p:Addr}
theorem _root_.Go.W.LH.U0 (H:LH M w0 w L D) (i j:Nat) {b:Nat} {vs:List Value} {T:TypeId} {v:Value} {K:World->Prop} (hi:L[i]? =some (.c b vs T)) (hK:∀w',LH M w0 w' (L.set i (.c b (vs.set j v) T)) D->K w') (hj:j<vs.length) (jS:∀b∈bs,En.g b∈L:=by simp):bR w ((bD b).add j) v λw1=>kept bs w w1/\K w1:=by
 obtain ⟨x1,x2,x3⟩:=H.set (v:=v) i j hi hj
 refine ⟨x1,x2,λb' eC=>?_,hK _ x3⟩
 have iq:b'≠b:=by
  rintro rfl
  refine nU H hi (λn hP=>?_) (jS _ eC) (by simp [En.ob])
  have h:({w with heap:=Array.replicate (n+1) (.map #[] 0)}:World).heap[b']? =some (.cells vs.toArray T (0,0)):=hP
  simp [Array.getElem?_replicate] at h
 have hf:Fr (·=b) w (w.setCell ((bD b).add j) v):=Fr.set _ _ _ (by rw [gp])
 exact hf.gV b' (H.own _ (jS _ eC)) iq
theorem PU (H:SF M w0 w rb sl st wd fs f G ts):sl.n=fs.length+1:=by
 have ho:aO w b0 10 sl ((fs++[f]).flatMap FM.c):=H.get 1
 have:=ho.len
 rw [sE] at this
 simp at this
 omega
theorem Hy (H:SF M w0 w rb sl st wd fs f G ts) (hp:sl.a=some p) (hn:fs.length<=1000000):Calls Tryz.prog eR #[.pointer (some (bD rb))] w λr w'=>r=.returned (.pointer (some (p.add (fs.length *10))))/\bF w w':=by
 have hl:=PU H
 have e:IntKind.wrap .i64 (((sl.n:Nat):Int) - 1)=(fs.length:Int):=by rw [IntWalk.i64_in _ (by omega)];omega
 have H1:SF M w0 w.drew rb sl st wd fs f G ts:=H.drew
 refine regex_reader_top.ok _ w _ (show _ from ⟨sl,H1.ld 0 0,sl,H1.ld 0 0,?_⟩)
 rw [e,hp]
 exact ⟨by omega,by omega,rfl,Fr.drew _ _⟩
theorem CA (H:SF M w0 w rb sl st wd fs f G ts) (k:Int) (lo hi:UInt8):SF M w0 w rb sl st wd fs f G (ts++[.mk k lo hi ⟨none,0,0⟩ []]):=by
 have H1:=H.oe (.trees (ts++[.mk k lo hi ⟨none,0,0⟩ []])) (Fr.refl _ _) (Rt.ox λt ht=>?_) λb hb=>.inr (.inr ⟨.trees ts,by simp,?_⟩)
 .exact H1.forget _ (by simp)
 .rcases fW.1 ht with ht|ht
  .exact Rt.Ps.mem (H.getD 0) ht
  .simp at ht;subst ht
   show Rt.P w _
   unfold Rt.P Rt.Ps
   exact ⟨jJ.nil 4 w,trivial⟩
 .obtain ⟨t,ht,eC⟩:=Rt.bC.1 (aI.1 hb)
  rcases fW.1 ht with ht|ht
  .exact aI.2 (Rt.bC.2 ⟨t,ht,eC⟩)
  .simp at ht
   rw [ht] at eC
   unfold Rt.fp Rt.gN at eC
   simp [En.iQ] at eC
theorem vp {k:Int} {lo hi:UInt8} {b:Nat} (h:b∈Rt.gN (ts++[.mk k lo hi ⟨none,0,0⟩ []])):b∈Rt.gN ts:=by
 obtain ⟨t,ht,eC⟩:=Rt.bC.1 h
 rcases fW.1 ht with ht|ht
 .exact Rt.bC.2 ⟨t,ht,eC⟩
 .simp at ht
  rw [ht] at eC
  unfold Rt.fp Rt.gN at eC
  simp [En.iQ] at eC
theorem M3 (H:LH M w0 w L D) (i:Nat) {rs:List kT} (hi:L[i]? =some (.rows rs)) (n:Nat):LH M w0 w (L.set i (.rows (rs++List.replicate n (⟨none,0,0⟩,[])))) D:=by
 have hp:(En.rows rs).P w:=H.get i hi
 have e:(rs++List.replicate n ((⟨none,0,0⟩,[]):kT)).flatMap (λq:kT=>bA q.1)=rs.flatMap λq:kT=>bA q.1:=by
  rw [qfA]
  have:(List.replicate n ((⟨none,0,0⟩,[]):kT)).flatMap (λq:kT=>bA q.1)=[]:=by
   induction n with
   |zero=>rfl
   |succ n ih=>rw [List.replicate_succ,qfC,ih];rfl
  rw [this,qaN]
 refine H.CK i _ hi (Fr.refl _ _) ⟨λq hq=>?_,by rw [e];exact hp.2⟩ λb hb=>.inl (aI.2 (by have:=aI.1 hb;rw [e] at this;exact this))
 rcases fW.1 hq with hq|hq
 .exact hp.1 q hq
 .rw [List.eq_of_mem_replicate hq];exact aO.nil _ _ _
end
def qN (k:Int):FX:=⟨k,(⟨none,0,0⟩,[]),[],[],[],0,wI⟩
def ov (k:Int):FM:=⟨k,(⟨none,0,0⟩,[]),(⟨none,0,0⟩,[]),(⟨none,0,0⟩,[]),(⟨none,0,0⟩,[]),0,.mk 0 0 0 ⟨none,0,0⟩ []⟩
theorem yd {w:World} {rb:Nat} {f0:Addr} {lo:List FX} {tp:FX} {st wd:Int} {own:List Nat} {ts:List Rt} (h:St w rb f0 lo tp st wd own ts):∃(sl:Sl) (fs:List FM) (f:FM) (p:Addr),fs.map FM.x=lo/\f.x=tp/\(∀g∈fs++[f],∀t∈g.ts,t∈ts)/\sl.a=some p/\f0=p.add (fs.length *10)/\SF (·∈own) w w rb sl st wd fs f [] ts:=by
 obtain ⟨sl,fs,f,p,h1,h2,h3,h4,h5,h6,h7,h8,h9,B8⟩:=h
 refine ⟨sl,fs,f,p,h1,h2,h3,h4,h5,?_⟩
 have:=St.sj h6 h7 h8 h9 B8
 show LH _ _ _ (_++[]) _
 rw [qaN]
 exact this
theorem Lf {w:World} {rb:Nat} {f0:Addr} {lo:List FX} {tp:FX} {st wd:Int} {own:List Nat} {ts:List Rt} (h:St w rb f0 lo tp st wd own ts) (hl:lo.length<=1000000) (kind state:Int):
  Calls Tryz.prog jm #[.pointer (some (bD rb)),.int .i64 kind,.int .i64 state] w (BI w own ts rb λr _ uE xU dJ r6 _=>r=.returned (.bool true)/\uE=lo++[tp]/\xU=qN kind/\dJ=state/\r6=wd):=by
 obtain ⟨sl,fs,f,p,rfl,rfl,h3,h4,rfl,H⟩:=yd h
 have hn:=PU H
 have Mk:fs.length<=1000000:=by simpa using hl
 refine regex_reader_push.ok _ _ _ w _ ⟨sl,H.ld 0 0,H.gZ (e:=b0) (sz:=10) (n:=1) (cs:=(ov kind).c) rfl (by decide) λw1 H1=>?_⟩
 refine H1.apk 1 VB (src:=⟨some (bD w.heap.size),1,1⟩) (news:=(ov kind).c) rfl (aO.iQ (H1.get 3)).2.2 rfl (by simp [FM.c,ov,Value.oneCell']) (by show (sl.n+1) *152<=_;omega) λs' w2 H2 wC qM _=>?_
 obtain ⟨q,hq⟩:∃q,s'.a=some q:=by
  cases hs:s'.a with
  |none=>have:=(qM hs).2;simp at this
  |some q=>exact ⟨q,rfl⟩
 have H3:LH (·∈own) w w2 [.c rb [sl.v,.int .i64 st,.int .i64 wd] g8,.row b0 10 s' ((fs++[f]).flatMap FM.c++(ov kind).c),.rows ((fs++[f]).flatMap FM.rows)] [.trees ts]:=H2.take 3
 refine H3.st 0 0 rfl (λw3 H4=>H4.st 0 1 rfl (λw4 H5=>?_))
 have H6:=M3 H5 2 rfl 4
 have H7:SF (·∈own) w w4 rb s' state wd (fs++[f]) (ov kind) [] ts:=by
  show LH _ _ _ (SL rb s' state wd ((fs++[f]++[ov kind]).flatMap FM.c) ((fs++[f]++[ov kind]).flatMap FM.rows)++[]) _
  rw [qaN,qfA (xs:=fs++[f]),qfA (xs:=fs++[f])]
  simpa [show (ov kind).rows=[(⟨none,0,0⟩,[]),(⟨none,0,0⟩,[]),(⟨none,0,0⟩,[]),(⟨none,0,0⟩,[])] from rfl] using H6
 have H8:=CA H7 0 0 0
 have H9:LH (·∈own) w w4 (SL rb s' state wd ((fs++[f]++[ov kind]).flatMap FM.c) ((fs++[f]++[ov kind]).flatMap FM.rows)) [.trees (ts++[.mk 0 0 0 ⟨none,0,0⟩ []])]:=H8.take 3
 refine ⟨_,_,_,_,_,St.of (ts:=ts) (p:=q) (f0:=q.add ((fs++[f]).length *10)) H9 0 rfl (λg hg t ht=>?_) hq rfl (λb hb=>.inl (vp hb)) (λt ht=>qmL _ ht) ⟨rfl,?_,rfl,rfl,rfl⟩⟩
 .rcases fW.1 hg with hg|hg
  .exact qmL _ (h3 g hg t ht)
  .simp at hg;subst hg
   simp [FM.ts,ov] at ht
   simp [ht]
 .simp
def og (tp:FX) (x:Rx):FX:=⟨tp.k,tp.ar,tp.al,tp.an,tp.ca,tp.n,x⟩
theorem FF {w:World} {rb:Nat} {f0:Addr} {lo:List FX} {tp:FX} {st wd:Int} {own:List Nat} {ts:List Rt} (h:St w rb f0 lo tp st wd own ts) (hl:lo.length<=1000000) (t:Rt) (ht:t∈ts):
  Calls Tryz.prog eF #[.pointer (some (bD rb)),t.v] w (BI w own ts rb λr Ak uE xU dJ r6 _=>r=.returned (.bool true)/\Ak=f0/\uE=lo/\xU=og tp t.rx/\dJ=3/\r6=wd):=by
 obtain ⟨sl,fs,f,p,rfl,rfl,h3,h4,rfl,H⟩:=yd h
 have Mk:fs.length<=1000000:=by simpa using hl
 refine regex_reader_atom.cT _ _ _ _ _ w _ (H.bI (bs:=[]) (λb3 w1 H1=>H1.aN (bs:=[b3]) (λw2 H2=>?_) (by simp)) (by simp))
 have H2':SF (·∈own) w w2 rb sl st wd fs f [.g b3] ts:=H2
 refine H2'.aL (Hy H2' h4 Mk) ?_
 rintro _ w3 rfl H3
 refine ⟨_,rfl,lM ?_⟩
 refine H3.CT (bs:=[b3]) (f:=f) 1 ⟨f.k,f.ar,f.al,f.an,f.ca,f.n,.mk t.k f.la.lo f.la.hi f.la.s f.la.l⟩ 6 rfl h4 (by omega) rfl (λw4 H4=>?_) (by simp)
 have a1:((p.add (fs.length *10)).add 6).add 1=(p.add (fs.length *10)).add 7:=add_add _ 6 1
 have a2:((p.add (fs.length *10)).add 6).add 2=(p.add (fs.length *10)).add 8:=add_add _ 6 2
 have a3:((p.add (fs.length *10)).add 6).add 3=(p.add (fs.length *10)).add 9:=add_add _ 6 3
 rw [a1,a2,a3]
 refine H4.CT (bs:=[b3]) (f:=⟨f.k,f.ar,f.al,f.an,f.ca,f.n,.mk t.k f.la.lo f.la.hi f.la.s f.la.l⟩) 1 ⟨f.k,f.ar,f.al,f.an,f.ca,f.n,.mk t.k t.lo f.la.hi f.la.s f.la.l⟩ 7 rfl h4 (by omega) rfl (λw5 H5=>?_) (by simp)
 refine H5.CT (bs:=[b3]) (f:=⟨f.k,f.ar,f.al,f.an,f.ca,f.n,.mk t.k t.lo f.la.hi f.la.s f.la.l⟩) 1 ⟨f.k,f.ar,f.al,f.an,f.ca,f.n,.mk t.k t.lo t.hi f.la.s f.la.l⟩ 8 rfl h4 (by omega) rfl (λw6 H6=>?_) (by simp)
 refine H6.CT (bs:=[b3]) (f:=⟨f.k,f.ar,f.al,f.an,f.ca,f.n,.mk t.k t.lo t.hi f.la.s f.la.l⟩) 1 ⟨f.k,f.ar,f.al,f.an,f.ca,f.n,t⟩ 9 rfl h4 (by omega) rfl (λw7 H7=>?_) (by simp)
 refine H7.U0 (bs:=[b3]) 0 1 rfl (λw8 H8=>?_) (by simp) (by simp)
 have er:(fs++[f]).flatMap FM.rows=(fs++[(⟨f.k,f.ar,f.al,f.an,f.ca,f.n,t⟩:FM)]).flatMap FM.rows:=by simp [FM.rows]
 have H9:LH (·∈own) w w8 (SL rb sl 3 wd ((fs++[(⟨f.k,f.ar,f.al,f.an,f.ca,f.n,t⟩:FM)]).flatMap FM.c) ((fs++[(⟨f.k,f.ar,f.al,f.an,f.ca,f.n,t⟩:FM)]).flatMap FM.rows)) [.trees ts]:=by
  rw [<-er]
  exact H8.take 3
 refine ⟨_,_,_,_,_,St.of (ts:=ts) (f0:=p.add (fs.length *10)) H9 0 rfl (λg hg u hu=>?_) h4 rfl (λb hb=>.inl hb) (λt ht=>ht) ⟨rfl,rfl,rfl,rfl,rfl,rfl⟩⟩
 rcases fW.1 hg with hg|hg
 .exact h3 g (by simp [hg]) u hu
 .simp at hg;subst hg
  simp only [FM.ts,fW,cU,qnM,or_false] at hu
  rcases hu with (((hu|hu)|hu)|hu)|rfl
  .exact h3 f (by simp) u (by simp [FM.ts,hu])
  .exact h3 f (by simp) u (by simp [FM.ts,hu])
  .exact h3 f (by simp) u (by simp [FM.ts,hu])
  .exact h3 f (by simp) u (by simp [FM.ts,hu])
  .exact ht
structure Tk where
 k:UInt8
 lo:UInt8
 hi:UInt8
 s:List UInt8
 a:Int
abbrev Tk.v (t:Tk):Value:=.agg #[.int .u8 (t.k.toNat:Int),.int .u8 (t.lo.toNat:Int),.int .u8 (t.hi.toNat:Int),.string (ba t.s),.int .i64 t.a]
structure SX where
 lo:List FX
 tp:FX
 st:Int
 wd:Int
def IZ:List UInt8:=[110,111,110,101]
def CL:List UInt8:=[101,109,112,116,121]
def Ql:List UInt8:=[97,108,116]
def Qk:List UInt8:=[97,108,108]
def Qm:List UInt8:=[99,97,116]
def jN (t:Tk) (s:SX):Option SX:=
 if t.k=33 then some ⟨s.lo,⟨s.tp.k,s.tp.ar,s.tp.al,s.tp.an,s.tp.ca,s.tp.n+1,s.tp.la⟩,0,s.wd⟩
 else if t.k=40 then some ⟨s.lo++[s.tp],qN (-1),0,s.wd⟩
 else if t.k=114 then some ⟨s.lo,og s.tp (.mk 2 t.lo t.hi []),3,s.wd⟩
 else if t.k=119 then
  if t.s=IZ then some ⟨s.lo,og s.tp (.mk 0 0 0 []),3,s.wd⟩
  else if t.s=CL then some ⟨s.lo,og s.tp (.mk 1 0 0 []),3,s.wd⟩
  else if t.s=Ql then some ⟨s.lo,s.tp,2,4⟩
  else if t.s=Qk then some ⟨s.lo,s.tp,2,5⟩
  else if t.s=Qm then some ⟨s.lo,s.tp,2,3⟩
  else none
 else none
def N7 (o:Option SX):Ending->Addr->List FX->FX->Int->Int->List Rt->Prop:=λr _ lo tp st wd _=>(o=none/\r=.returned (.bool false))\/(o=some ⟨lo,tp,st,wd⟩/\r=.returned (.bool true))
section
variable {w w':World} {own:List Nat} {G:List En} {rb:Nat} {sl:Sl} {st wd:Int} {fs:List FM} {f:FM} {ts lD:List Rt} {p:Addr}
theorem jh {Q:Ending->Addr->List FX->FX->Int->Int->List Rt->Prop} {r:Ending} (H:SF (·∈own) w w' rb sl st wd fs f G lD) (h3:∀g∈fs++[f],∀t∈g.ts,t∈lD) (hp:sl.a=some p) (hb:∀b∈Rt.gN lD,b∈Rt.gN ts\/w.heap.size<=b\/b∈own) (ht:∀t∈ts,t∈lD) (q:Q r (p.add (fs.length *10)) (fs.map FM.x) f.x st wd lD):BI w own ts rb Q r w':=
 ⟨_,_,_,_,_,St.of (ts:=ts) (f0:=p.add (fs.length *10)) (H.take 3) 0 rfl h3 hp rfl (λb h=>(hb b h).imp id Or.symm) ht q⟩
end
theorem Xd (s:List UInt8):(ba s).toList=s:=by rw [ByteArray.toList_eq];rfl
theorem Xe (a:Array UInt8):(ByteArray.mk a).toList=a.toList:=by rw [ByteArray.toList_eq]
theorem vL {s:List UInt8} {a:Array UInt8} {A B:Prop} (h1:s=a.toList->A) (h2:s≠a.toList->B):aH ((ba s).toList==(ByteArray.mk a).toList) A B:=by
 rw [Xd,Xe]
 exact bB (λh=>h1 (by simpa using h)) (λh=>h2 (by simpa using h))
theorem l5 {x:UInt8} {n:Nat} {A B:Prop} (hn:n<256) (h1:x=UInt8.ofNat n->A) (h2:x≠UInt8.ofNat n->B):aH (((x.toNat:Nat):Int)==(n:Int)) A B:=by
 have e:∀x:UInt8,x.toNat=n↔x=UInt8.ofNat n:=λx=>by
  rw [<-UInt8.toNat_inj,UInt8.toNat_ofNat']
  omega
 exact bB (λh=>h1 ((e x).1 (by have:=eq_of_beq h;omega))) (λh=>h2 λhx=>by
  have:x.toNat=n:=(e x).2 hx
  rw [this] at h
  simp at h)
theorem SQ {w:World} {rb:Nat} {f0:Addr} {lo:List FX} {tp:FX} {st wd:Int} {own:List Nat} {ts:List Rt} (h:St w rb f0 lo tp st wd own ts) (hl:lo.length<=1000000) (hn:tp.n<=1000000) (t:Tk):
  Calls Tryz.prog gq #[.pointer (some (bD rb)),t.v] w (BI w own ts rb (N7 (jN t ⟨lo,tp,st,wd⟩))):=by
 obtain ⟨sl,fs,f,p,rfl,rfl,h3,h4,rfl,H⟩:=yd h
 have Mk:fs.length<=1000000:=by simpa using hl
 have wC:f.n<=1000000:=hn
 have base:∀b∈Rt.gN ts,b∈Rt.gN ts\/w.heap.size<=b\/b∈own:=λb hb=>.inl hb
 refine regex_reader_item.cT _ _ _ _ _ _ w _ (H.bI (bs:=[]) (λb3 w1 H1=>?_) (by simp))
 have H1:SF (·∈own) w w1 rb sl st wd fs f [.g b3] ts:=H1
 have leaf:∀(k:Int) (a b:UInt8) {w2:World} {kR Qo:Int},SF (·∈own) w w2 rb sl kR Qo fs f [.g b3] ts->jN t ⟨fs.map FM.x,f.x,st,wd⟩=some ⟨fs.map FM.x,og f.x (.mk k a b []),3,Qo⟩->
   fC [b3] Tryz.prog eF #[.pointer (some (bD rb)),.agg #[.i k,.int .u8 (a.toNat:Int),.int .u8 (b.toNat:Int),.slice none 0 0]] w2 λr_ w6=>∃t32:Bool,r_=.returned (.bool t32)/\BI w own ts rb (N7 (jN t ⟨fs.map FM.x,f.x,st,wd⟩)) (.returned (.bool t32)) w6:=by
  intro k a b w2 kR Qo H2 he
  have H3:=CA H2 k a b
  refine H3.Kt (bs:=[b3]) (λg hg u hu=>qmL _ (h3 g hg u hu)) h4 (λoN s1=>FF s1 hl (.mk k a b ⟨none,0,0⟩ []) (by simp)) ?_ (by simp)
  rintro _ w3 Bw yT f3 p3 lO CM xK t3 n7 tD uK ⟨rfl,NP,qV,jd,rfl,rfl⟩ H4
  refine ⟨true,rfl,jh H4 n7 tD (λx hx=>?_) (λu hu=>t3 u (qmL _ hu)) (.inr ⟨?_,rfl⟩)⟩
  .rcases uK x hx with h|h
   .exact .inl (vp h)
   .exact .inr h
  .rw [he,qV,jd];rfl
 refine l5 (n:=33) (by omega) (λhk:t.k=33=>H1.aL (Hy H1 h4 Mk) ?_) (λXL:t.k≠33=>l5 (n:=40) (by omega) (λhk:t.k=40=>?_) (λZV:t.k≠40=>l5 (n:=114) (by omega) (λhk:t.k=114=>?_) (λWm:t.k≠114=>l5 (n:=119) (by omega) (λhk:t.k=119=>?_) (λZU:t.k≠119=>?_))))
 .rintro _ w2 rfl H2
  refine ⟨_,rfl,lM ⟨_,H2.y6 1 rfl h4 5,lM ?_⟩⟩
  have e:IntKind.wrap .i64 ((f.n:Int)+1)=((f.n+1:Nat):Int):=by rw [IntWalk.i64_in _ (by omega)];omega
  rw [e]
  refine H2.CT (bs:=[b3]) (f:=f) 1 ⟨f.k,f.ar,f.al,f.an,f.ca,f.n+1,f.la⟩ 5 rfl h4 (by omega) rfl (λw3 H3=>?_) (by simp)
  refine H3.U0 (bs:=[b3]) 0 1 rfl (λw4 H4=>?_) (by simp) (by simp)
  have er:(fs++[f]).flatMap FM.rows=(fs++[(⟨f.k,f.ar,f.al,f.an,f.ca,f.n+1,f.la⟩:FM)]).flatMap FM.rows:=by simp [FM.rows]
  have H5:SF (·∈own) w w4 rb sl 0 wd fs ⟨f.k,f.ar,f.al,f.an,f.ca,f.n+1,f.la⟩ [.g b3] ts:=by
   show LH _ _ _ (SL rb sl 0 wd _ ((fs++[(⟨f.k,f.ar,f.al,f.an,f.ca,f.n+1,f.la⟩:FM)]).flatMap FM.rows)++_) _
   rw [<-er]
   exact H4
  refine jh H5 (λg hg u hu=>?_) h4 base (λ_ h=>h) (.inr ⟨?_,rfl⟩)
  .rcases fW.1 hg with hg|hg
   .exact h3 g (by simp [hg]) u hu
   .simp at hg;subst hg
    exact h3 f (by simp) u hu
  .unfold jN;rw [if_pos hk];rfl
 .refine H1.Kt (bs:=[b3]) h3 h4 (λoN s1=>Lf s1 hl (-1) 0) ?_ (by simp)
  rintro _ w3 Bw yT f3 p3 lO CM xK t3 n7 tD uK ⟨rfl,qV,jd,rfl,rfl⟩ H4
  refine ⟨true,rfl,jh H4 n7 tD uK t3 (.inr ⟨?_,rfl⟩)⟩
  unfold jN
  rw [if_neg XL,if_pos hk,qV,jd]
 .exact leaf 2 t.lo t.hi H1 (by unfold jN;rw [if_neg XL,if_neg ZV,if_pos hk])
 .refine H1.U0 (bs:=[b3]) 0 1 rfl (λw2 H2=>?_) (by simp) (by simp)
  have H2:SF (·∈own) w w2 rb sl 2 wd fs f [.g b3] ts:=H2
  have ei:jN t ⟨fs.map FM.x,f.x,st,wd⟩=if t.s=IZ then some ⟨fs.map FM.x,og f.x (.mk 0 0 0 []),3,wd⟩ else if t.s=CL then some ⟨fs.map FM.x,og f.x (.mk 1 0 0 []),3,wd⟩ else if t.s=Ql then some ⟨fs.map FM.x,f.x,2,4⟩ else if t.s=Qk then some ⟨fs.map FM.x,f.x,2,5⟩ else if t.s=Qm then some ⟨fs.map FM.x,f.x,2,3⟩ else none:=by
   unfold jN
   rw [if_neg XL,if_neg ZV,if_neg Wm,if_pos hk]
  have word:∀(k:Int),jN t ⟨fs.map FM.x,f.x,st,wd⟩=some ⟨fs.map FM.x,f.x,2,k⟩->bR w2 ((bD rb).add 2) (.i k) λpT=>kept [b3] w2 pT/\regex_reader_item.dU pT (BI w own ts rb (N7 (jN t ⟨fs.map FM.x,f.x,st,wd⟩))):=λk he=>
   H2.U0 (bs:=[b3]) 0 2 rfl (λw3 H3=>jh (show SF (·∈own) w w3 rb sl 2 k fs f [.g b3] ts from H3) h3 h4 base (λ_ h=>h) (.inr ⟨he,rfl⟩)) (by simp) (by simp)
  refine vL (λh1:t.s=IZ=>leaf 0 0 0 H2 (by rw [ei,if_pos h1])) (λn1:t.s≠IZ=>vL (λh1:t.s=CL=>leaf 1 0 0 H2 (by rw [ei,if_neg n1,if_pos h1])) (λn2:t.s≠CL=>vL (λh1:t.s=Ql=>word 4 (by rw [ei,if_neg n1,if_neg n2,if_pos h1])) (λn3:t.s≠Ql=>vL (λh1:t.s=Qk=>word 5 (by rw [ei,if_neg n1,if_neg n2,if_neg n3,if_pos h1])) (λn4:t.s≠Qk=>vL (λh1:t.s=Qm=>word 3 (by rw [ei,if_neg n1,if_neg n2,if_neg n3,if_neg n4,if_pos h1])) (λn5:t.s≠Qm=>?_)))))
  exact jh H2 h3 h4 base (λ_ h=>h) (.inl ⟨by rw [ei,if_neg n1,if_neg n2,if_neg n3,if_neg n4,if_neg n5],rfl⟩)
 .exact jh H1 h3 h4 base (λ_ h=>h) (.inl ⟨by unfold jN;rw [if_neg XL,if_neg ZV,if_neg Wm,if_neg ZU],rfl⟩)
theorem GF {w:World} {e:TypeId} {sz:Nat} {s:Sl} {xs:List Value} {p:Addr} (h:aO w e sz s xs) (hp:s.a=some p) (n:Nat) (hn:n<=s.n):aO w e sz ⟨s.a,n,s.c⟩ (xs.take (n *sz)):=by
 have hl:=h.len
 rcases h.cases with ⟨rfl,_⟩|⟨g,cur,ha,hg,h3,h4,h5,h6⟩
 .cases hp
 .have hm:n *sz<=s.n *sz:=Nat.mul_le_mul_right _ hn
  refine ⟨by rw [List.length_take];show _=n *sz;omega,.inr ⟨g,s.c,cur,by rw [ha],Nat.zero_le _,hg,Nat.le_trans hn h3,h4,h5,?_⟩⟩
  rw [<-h6,List.take_take]
  congr 1
  show n *sz=_
  omega
section
variable {M:Nat->Prop} {w0 w:World} {L D A:List En} {bs:List Nat} {G:List En} {rb:Nat} {ts:List Rt}
theorem Bs (H:LH M w0 w L D) (i:Nat) {rs PL:List kT} (hi:L[i]? =some (.rows (rs++PL))):LH M w0 w (L.set i (.rows rs)) D:=by
 have hp:(En.rows (rs++PL)).P w:=H.get i hi
 have nd:=hp.2
 rw [qfA,qnA] at nd
 refine H.CK i _ hi (Fr.refl _ _) ⟨λq hq=>hp.1 q (qmL _ hq),nd.1⟩ λb hb=>.inl (aI.2 ?_)
 rw [qfA]
 exact qmL _ (aI.1 hb)
theorem Pf (H:LH M w0 w (A++G) [.trees ts]):LH (·∈A.flatMap (·.fp)) w w A [.trees ts]:=by
 have nd:=H.nd
 rw [qfA,qnA] at nd
 refine LH.zB _ _ (λe he=>⟨H.own e (qmL _ he),λb hb=>mV.2 ⟨e,he,hb⟩⟩) nd.1 λe he=>?_
 simp only [cU,qnM,or_false] at he
 subst he
 exact ⟨H.getD 0,λb hb e' mJ eC=>H.dj (.trees ts) (by simp) b hb e' (qmL _ mJ) eC⟩
theorem Mz (H:LH M w0 w (A++G) [.trees ts]) {w':World} {Ak:Addr} {uE:List FX} {xU:FX} {dJ r6:Int} {il:List Nat} {lD:List Rt} (s:St w' rb Ak uE xU dJ r6 il lD) (fr:Fr (·∈A.flatMap (·.fp)) w w') (o:∀x∈il,x∈A.flatMap (·.fp)\/w.heap.size<=x)
  (hb:∀b∈Rt.gN lD,b∈Rt.gN ts\/b∈A.flatMap (·.fp)\/w.heap.size<=b):
  ∃(xG:Sl) (tC:List FM) (f':FM) (p':Addr),tC.map FM.x=uE/\f'.x=xU/\(∀g∈tC++[f'],∀t∈g.ts,t∈lD)/\xG.a=some p'/\Ak=p'.add (tC.length *10)/\(∀b∈Rt.gN lD,b∈Rt.gN ts\/w0.heap.size<=b\/M b)/\SF M w0 w' rb xG dJ r6 tC f' G lD:=by
 obtain ⟨xG,tC,f',p',h1,h2,h3,h4,h5,h6,h7,h8,h9,B8⟩:=s
 have nd:=H.nd
 rw [qfA,qnA] at nd
 have GB:∀b∈A.flatMap (·.fp),w0.heap.size<=b\/M b:=λb hb=>by
  obtain ⟨e,he,rh⟩:=mV.1 hb
  exact H.new e (qmL _ he) b rh
 have VI:∀e∈G,∀b∈e.fp,b<w.heap.size:=λe he b hb=>e.lt w (H.own e (qmR _ he)) b hb
 have F9:∀e∈G,∀b∈e.fp,b∉A.flatMap (·.fp):=λe he b hb hm=>nd.2.2 b hm b (mV.2 ⟨e,he,hb⟩) rfl
 have me:=H.fr.size
 have MP:∀b∈il,w0.heap.size<=b\/M b:=λb hb=>(o b hb).elim (GB b) λh=>.inl (Nat.le_trans me h)
 refine ⟨xG,tC,f',p',h1,h2,h3,h4,h5,λb eC=>?_,H.fr.trans fr λx hx hm=>(GB x hm).resolve_left (by omega),λe he=>?_,λe he=>?_,λe he b eC=>?_,?_,λe he b eC e' mJ rh=>?_⟩
 .rcases hb b eC with h|h|h
  .exact .inl h
  .exact .inr (GB b h)
  .exact .inr (.inl (Nat.le_trans me h))
 .rcases fW.1 he with he|he
  .exact h8 e he
  .exact e.st w w' (λb hb hl=>fr.gV b hl (F9 e he b hb)) (H.own e (qmR _ he))
 .simp at he;subst he;exact h9
 .rcases fW.1 he with he|he
  .exact MP b (by rw [h6];exact mV.2 ⟨e,he,eC⟩)
  .exact H.new e (qmR _ he) b eC
 .rw [qfA,qnA]
  refine ⟨h6▸h7,nd.2.1,λx hx y hy Wi=>?_⟩
  subst Wi
  obtain ⟨e,he,rh⟩:=mV.1 hy
  rcases o x (by rw [h6];exact hx) with h|h
  .exact F9 e he x rh h
  .have:=VI e he x rh;omega
 .simp at he;subst he
  have B9:b∈Rt.gN lD:=aI.1 eC
  rcases fW.1 mJ with mJ|mJ
  .exact B8 b B9 (by rw [h6];exact mV.2 ⟨e',mJ,rh⟩)
  .rcases hb b B9 with h|h|h
   .exact H.dj (.trees ts) (by simp) b (aI.2 h) e' (qmR _ mJ) rh
   .exact F9 e' mJ b rh h
   .have:=VI e' mJ b rh;omega
theorem _root_.Go.W.LH.csA (H:LH M w0 w (A++G) [.trees ts]) {g:FuncId} {args:Array Value} {K:aD} {Q:Ending->Addr->List FX->FX->Int->Int->List Rt->Prop}
  (hc:∀own,LH (·∈own) w w A [.trees ts]->Calls Tryz.prog g args w (BI w own ts rb Q))
  (hk:∀r w' (xG:Sl) (tC:List FM) (f':FM) (p':Addr) (dJ r6:Int) (lD:List Rt),(∀t∈ts,t∈lD)->(∀g∈tC++[f'],∀t∈g.ts,t∈lD)->xG.a=some p'->(∀b∈Rt.gN lD,b∈Rt.gN ts\/w0.heap.size<=b\/M b)->Q r (p'.add (tC.length *10)) (tC.map FM.x) f'.x dJ r6 lD->SF M w0 w' rb xG dJ r6 tC f' G lD->K r w')
  (jS:∀b∈bs,En.g b∈G:=by simp):fC bs Tryz.prog g args w K:=by
 have nd:=H.nd
 rw [qfA,qnA] at nd
 refine ⟨(·∈A.flatMap (·.fp)),λb hb hm=>?_,(hc _ (Pf H)).mono ?_⟩
 .exact nd.2.2 b hm b (mV.2 ⟨_,jS b hb,by simp [En.g]⟩) rfl
 .rintro r w' ⟨Ak,uE,xU,dJ,r6,il,lD,s,fr,o,b,t,q⟩
  obtain ⟨xG,tC,f',p',rfl,rfl,Ju,HX,rfl,eC,H'⟩:=Mz H s fr o b
  exact ⟨fr,hk r w' xG tC f' p' dJ r6 lD t Ju HX eC q H'⟩
theorem Pe (H:LH M w0 w L [.trees ts]) (T:Rt) (hT:T∈ts) (k:Int) (lo hi:UInt8):LH M w0 w L [.trees (ts++[.mk k lo hi T.s T.l])]:=by
 have pt:Rt.Ps w ts:=H.getD 0
 have H1:=H.oe (.trees (ts++[.mk k lo hi T.s T.l])) (Fr.refl _ _) (Rt.ox λt ht=>?_) λb hb=>.inr (.inr ⟨.trees ts,by simp,?_⟩)
 .exact H1.forget _ (by simp)
 .rcases fW.1 ht with ht|ht
  .exact pt.mem ht
  .simp at ht;subst ht
   unfold Rt.P
   exact (pt.mem hT).parts
 .obtain ⟨t,ht,eC⟩:=Rt.bC.1 (aI.1 hb)
  rcases fW.1 ht with ht|ht
  .exact aI.2 (Rt.bC.2 ⟨t,ht,eC⟩)
  .simp at ht
   rw [ht] at eC
   exact aI.2 (Rt.bC.2 ⟨T,hT,Rt.eG.2 ((Rt.eG (t:=.mk k lo hi T.s T.l)).1 eC)⟩)
theorem MA {T:Rt} (hT:T∈ts) {k:Int} {lo hi:UInt8} {b:Nat} (h:b∈Rt.gN (ts++[.mk k lo hi T.s T.l])):b∈Rt.gN ts:=by
 obtain ⟨t,ht,eC⟩:=Rt.bC.1 h
 rcases fW.1 ht with ht|ht
 .exact Rt.bC.2 ⟨t,ht,eC⟩
 .simp at ht
  rw [ht] at eC
  exact Rt.bC.2 ⟨T,hT,Rt.eG.2 ((Rt.eG (t:=.mk k lo hi T.s T.l)).1 eC)⟩
theorem Pd (H:LH M w0 w L [.trees ts]) (T:Rt) (hT:T∈ts):LH M w0 w L [.trees (ts++T.l)]:=by
 have pt:Rt.Ps w ts:=H.getD 0
 have H1:=H.oe (.trees (ts++T.l)) (Fr.refl _ _) (Rt.ox λt ht=>?_) λb hb=>.inr (.inr ⟨.trees ts,by simp,?_⟩)
 .exact H1.forget _ (by simp)
 .rcases fW.1 ht with ht|ht
  .exact pt.mem ht
  .exact (pt.mem hT).parts.2.mem ht
 .obtain ⟨t,ht,eC⟩:=Rt.bC.1 (aI.1 hb)
  rcases fW.1 ht with ht|ht
  .exact aI.2 (Rt.bC.2 ⟨t,ht,eC⟩)
  .exact aI.2 (Rt.bC.2 ⟨T,hT,Rt.eG.2 (.inr (Rt.bC.2 ⟨t,ht,eC⟩))⟩)
theorem Mt {T:Rt} (hT:T∈ts) {b:Nat} (h:b∈Rt.gN (ts++T.l)):b∈Rt.gN ts:=by
 obtain ⟨t,ht,eC⟩:=Rt.bC.1 h
 rcases fW.1 ht with ht|ht
 .exact Rt.bC.2 ⟨t,ht,eC⟩
 .exact Rt.bC.2 ⟨T,hT,Rt.eG.2 (.inr (Rt.bC.2 ⟨t,ht,eC⟩))⟩
end
theorem SW {w:World} {rb:Nat} {sl:Sl} {p:Addr} {n:Nat} (hc:w.cell? ((bD rb).add 0)=some sl.v) (hl:sl.n=n+1) (hp:sl.a=some p) (hn:n<=1000000):Calls Tryz.prog eR #[.pointer (some (bD rb))] w λr w'=>r=.returned (.pointer (some (p.add (n *10))))/\bF w w':=by
 have e:IntKind.wrap .i64 (((sl.n:Nat):Int) - 1)=(n:Int):=by rw [IntWalk.i64_in _ (by omega)];omega
 have UM:w.drew.cell? ((bD rb).add 0)=some sl.v:=hc
 refine regex_reader_top.ok _ w _ (show _ from ⟨sl,UM,sl,UM,?_⟩)
 rw [e,hp]
 exact ⟨by omega,by omega,rfl,Fr.drew _ _⟩
def Lt (k:Int) (l:List Rx):Rx:=if k<0 then l.headD wI else .mk k 0 0 l
theorem Oj {w:World} {rb:Nat} {sl:Sl} {st wd:Int} {fs:List FM} {g f:FM} {ts:List Rt} {p:Addr} {own:List Nat}
  (H:LH (·∈own) w w [.c rb [sl.v,.int .i64 st,.int .i64 wd] g8,.row b0 10 sl (((fs++[g])++[f]).flatMap FM.c),.rows ((fs++[g]).flatMap FM.rows)] [.trees ts])
  (h3:∀x∈fs++[g],∀t∈x.ts,t∈ts) (hp:sl.a=some p) (hl:fs.length<=999999) (T:Rt) (hT:T∈ts) (hk:0<=f.k\/T.l≠[]):
  Calls Tryz.prog gT #[.pointer (some (bD rb)),T.s.v] w (BI w own ts rb λr _ uE xU dJ r6 _=>r=.returned (.bool true)/\uE=fs.map FM.x/\xU=og g.x (Lt f.k (Rt.bU T.l))/\dJ=3/\r6=wd):=by
 have hn:sl.n=(fs++[g]).length+1:=by
  have ho:aO w b0 10 sl (((fs++[g])++[f]).flatMap FM.c):=H.get 1
  have:=ho.len
  rw [sE] at this
  simp at this ⊢
  omega
 have hc1:1<=sl.c:=by
  have ho:aO w b0 10 sl (((fs++[g])++[f]).flatMap FM.c):=H.get 1
  have:=ho.cap
  omega
 refine regex_reader_close.ok _ _ w _ (H.call (SW (H.ld 0 0) hn hp (by simp;omega)) ?_)
 rintro _ w1 rfl H1
 refine ⟨_,rfl,lM ⟨_,H1.y6 1 rfl hp 0,?_⟩⟩
 have H2:=H1.drew
 refine ⟨sl,H2.ld 0 0,sl,H2.ld 0 0,?_⟩
 have e:IntKind.wrap .i64 (((sl.n:Nat):Int) - 1)=(((fs++[g]).length:Nat):Int):=by rw [IntWalk.i64_in _ (by simp at hn;omega)];omega
 rw [e]
 have ho:aO w b0 10 sl (((fs++[g])++[f]).flatMap FM.c):=H.get 1
 have aat:=ho.cap
 refine ⟨by omega,by omega,?_⟩
 have ev:Value.slice (if sl.c=0 then sl.a else sl.a.map (·.add (0 *10))) ((Int.toNat (((fs++[g]).length:Nat):Int)) - 0) (sl.c - 0)=(⟨sl.a,(fs++[g]).length,sl.c⟩:Sl).v:=by
  rw [if_neg (by omega),hp]
  show Value.slice (some (p.add 0)) _ _=Value.slice (some p) _ _
  rw [tR]
  simp
 rw [ev]
 refine H2.st 0 0 rfl λw3 H3=>?_
 have ZH:aO w3 b0 10 sl (((fs++[g])++[f]).flatMap FM.c):=H3.get 1
 have hs3:=GF ZH hp (fs++[g]).length (by omega)
 have et:(((fs++[g])++[f]).flatMap FM.c).take ((fs++[g]).length *10)=(fs++[g]).flatMap FM.c:=by
  rw [qfA,<-sE,List.take_left']
  rfl
 rw [et] at hs3
 have H4:=H3.CK 1 (.row b0 10 ⟨sl.a,(fs++[g]).length,sl.c⟩ ((fs++[g]).flatMap FM.c)) rfl (Fr.refl _ _) hs3 λb hb=>.inl hb
 have H5:SF (·∈own) w w3 rb ⟨sl.a,(fs++[g]).length,sl.c⟩ st wd fs g [] ts:=by
  show LH _ _ _ (_++[]) _
  rw [qaN]
  exact H4
 refine bB (λh1=>?_) (λh1=>?_)
 .have Ab:f.k<0:=of_decide_eq_true h1
  have iq:T.l≠[]:=hk.resolve_left (by omega)
  obtain ⟨x,l,hx⟩:=List.exists_cons_of_ne_nil iq
  have hr:jJ 4 w3 T.s (T.l.flatMap Rt.c):=((show Rt.Ps w3 ts from H5.getD 0).mem hT).parts.1
  have pX:=Rt.cB hr
  refine ⟨by omega,by rw [pX,hx];simp,Rt.at' hr (i:=0) (t:=x) (by rw [hx];rfl) λq hq c=>⟨_,_,_,_,c.c0,c.c1,c.c2,c.c3,?_⟩⟩
  have H6:=Pd H5 T hT
  refine (show SF (·∈own) w w3 rb ⟨sl.a,(fs++[g]).length,sl.c⟩ st wd fs g [] (ts++T.l) from H6).Ov (λy hy t ht=>qmL _ (h3 y hy t ht)) hp (λoN s1=>FF s1 (by simp;omega) x (by rw [hx];simp)) ?_
  rintro _ w4 XS Xr f4 p4 CC wd4 XY t4 HQ VK b4 ⟨rfl,_,qV,jd,rfl,rfl⟩ H7
  refine ⟨true,rfl,jh H7 HQ VK (λb hb=>(b4 b hb).imp (Mt hT) id) (λt ht=>t4 t (qmL _ ht)) ⟨rfl,qV,?_,rfl,rfl⟩⟩
  rw [jd,hx]
  unfold Lt
  rw [if_pos Ab]
  rfl
 .have Ab:¬f.k<0:=of_decide_eq_false h1
  have H6:=Pe H5 T hT f.k 0 0
  refine (show SF (·∈own) w w3 rb ⟨sl.a,(fs++[g]).length,sl.c⟩ st wd fs g [] (ts++[.mk f.k 0 0 T.s T.l]) from H6).Ov (λy hy t ht=>qmL _ (h3 y hy t ht)) hp (λoN s1=>FF s1 (by simp;omega) (.mk f.k 0 0 T.s T.l) (by simp)) ?_
  rintro _ w4 XS Xr f4 p4 CC wd4 XY t4 HQ VK b4 ⟨rfl,_,qV,jd,rfl,rfl⟩ H7
  refine ⟨true,rfl,jh H7 HQ VK (λb hb=>(b4 b hb).imp (MA hT) id) (λt ht=>t4 t (qmL _ ht)) ⟨rfl,qV,?_,rfl,rfl⟩⟩
  rw [jd]
  unfold Lt
  rw [if_neg Ab]
  rfl
def oD (s:SX) (l:List Rx):Option SX:=match s.lo.getLast? with
 |none=>none
 |some g=>some ⟨s.lo.dropLast,og g (Lt s.tp.k l),3,s.wd⟩
def Vc (s':Sl) (f:FX):FX:=⟨f.k,(s',f.ar.2++[iI f]),[],[],[],0,f.la⟩
def jL (s':Sl) (t:Tk) (s:SX):Option SX:=
 if s.st=2 then (if t.k=40 then some ⟨s.lo++[s.tp],qN s.wd,1,s.wd⟩ else none)
 else if s.st=1 then (if t.k=41 then oD s [] else jN t s)
 else if s.st=0 then jN t s
 else if t.k=42 then some ⟨s.lo,og s.tp (.mk 7 0 0 [s.tp.la]),s.st,s.wd⟩
 else if t.k=38 then some ⟨s.lo,kL s.tp,0,s.wd⟩
 else if t.k=124 then some ⟨s.lo,iT s.tp,0,s.wd⟩
 else if t.k=44 then (if s.tp.k<0 then none else some ⟨s.lo,Vc s' s.tp,0,s.wd⟩)
 else if t.k=41 then (if s.lo=[] then none else oD s (s.tp.ar.2++[iI s.tp]))
 else if t.k=36 then (if s.lo=[] then some s else none)
 else jN t ⟨s.lo,hC s.tp,s.st,s.wd⟩
section
variable {M:Nat->Prop} {w0 w1:World} {bs:List Nat} {G:List En} {rb:Nat} {sl:Sl} {st wd:Int} {fs:List FM} {f:FM} {ts:List Rt} {p:Addr}
abbrev FS2 (M:Nat->Prop) (w0 w:World) (rb:Nat) (sl:Sl) (st wd:Int) (fs:List FM) (f:FM) (rs:List kT) (G:List En) (ts:List Rt):Prop:=LH M w0 w (SL rb sl st wd ((fs++[f]).flatMap FM.c) rs++G) [.trees ts]
theorem MU (H1:SF M w0 w1 rb sl st wd fs f G ts) (i:Nat) {src:Sl} (hi:(SL rb sl st wd ((fs++[f]).flatMap FM.c) ((fs++[f]).flatMap FM.rows)++G)[i]? =some (.row aB 4 src z4)) (hp:sl.a=some p) (d:Nat) (DN:1<=d) (DO:d<=4) (t:Rt) (hb:(f.eS d).2.length<=1000000) (Rk:src.n=1) {K:World->Prop}
  (hK:∀s' w',SF M w0 w' rb sl st wd fs (f.put d (s',(f.eS d).2++[t])) G ts->K w') (jS:∀b∈bs,En.g b∈G:=by simp):
  ∃(t15:Sl) (w5:World),(Builtin.append_ #[aF,aF] aF #[(f.eS d).1.v,src.v]).run Tryz.prog w1=.ok (t15.v) w5/\kept bs w1 w5/\(0:Int)<=(((f.eS d).1.n:Nat):Int)/\(((f.eS d).1.n:Nat):Int)<((t15.n:Nat):Int)/\aX t15.a λq=>
   ((bR w5 (q.add (Int.toNat (((f.eS d).1.n:Nat):Int) *4)) (.int .i64 t.k) λw6=>kept bs w5 w6/\bR w6 ((q.add (Int.toNat (((f.eS d).1.n:Nat):Int) *4)).add 1) (.int .u8 (t.lo.toNat:Int)) λw7=>kept bs w6 w7/\bR w7 ((q.add (Int.toNat (((f.eS d).1.n:Nat):Int) *4)).add 2) (.int .u8 (t.hi.toNat:Int)) λw8=>kept bs w7 w8/\bR w8 ((q.add (Int.toNat (((f.eS d).1.n:Nat):Int) *4)).add 3) t.s.v λw9=>kept bs w8 w9/\bR w9 ((p.add (fs.length *10)).add d) t15.v λpT=>kept bs w9 pT/\K pT)/\
   (bR w5 ((p.add (fs.length *10)).add d) t15.v λrQ=>kept bs w5 rQ/\bR rQ (q.add (Int.toNat (((f.eS d).1.n:Nat):Int) *4)) (.int .i64 t.k) λw6=>kept bs rQ w6/\bR w6 ((q.add (Int.toNat (((f.eS d).1.n:Nat):Int) *4)).add 1) (.int .u8 (t.lo.toNat:Int)) λw7=>kept bs w6 w7/\bR w7 ((q.add (Int.toNat (((f.eS d).1.n:Nat):Int) *4)).add 2) (.int .u8 (t.hi.toNat:Int)) λw8=>kept bs w7 w8/\bR w8 ((q.add (Int.toNat (((f.eS d).1.n:Nat):Int) *4)).add 3) t.s.v λw9=>kept bs w8 w9/\K w9)):=by
 have jK:((fs++[f]).flatMap FM.rows)[fs.length *4+(d - 1)]? =some ((f.eS d).1,(f.eS d).2.flatMap Rt.c):=oy fs f (d - 1) _ (AU f DN DO)
 have nr:(f.eS d).1.n=(f.eS d).2.length:=by
  have hp:(En.rows ((fs++[f]).flatMap FM.rows)).P w1:=H1.get 2
  exact Rt.cB (hp.1 _ (dC jK)).iQ
 have hg:∀{L:List En},∀b∈bs,En.g b∈L++G:=λb hb=>qmR _ (jS b hb)
 obtain ⟨s',w5,h1,hkp,h3⟩:=H1.Hm (bs:=bs) (ty:=aF) 2 (fs.length *4+(d - 1)) (src:=src) (news:=z4) (K:=λs' w'=>FS2 M w0 w' rb sl st wd fs f (((fs++[f]).flatMap FM.rows).set (fs.length *4+(d - 1)) (s',(f.eS d).2.flatMap Rt.c++z4)) G ts/\s'.n=(f.eS d).1.n+1/\∃q,s'.a=some q) rfl jK (aO.iQ (H1.get i hi)) (by simp [Value.oneCell']) (by omega) (λs' w4 H4 wC qM=>⟨H4,by omega,by
  cases hs:s'.a with
  |none=>have:=(qM hs).2;omega
  |some q=>exact ⟨q,rfl⟩⟩) hg
 obtain ⟨H5,hn5,q,hq⟩:=h3
 refine ⟨s',w5,h1,hkp,by omega,by omega,?_⟩
 rw [hq]
 have Gg:fs.length *4+(d - 1)<((fs++[f]).flatMap FM.rows).length:=by rw [pO];simp;omega
 have ec:∀(f:FM) (t:Rt) (d:Nat),(f.eS d).2.flatMap Rt.c++t.c=((f.eS d).2++[t]).flatMap Rt.c:=λf t d=>by simp
 rw [nr]
 refine ⟨?_,?_⟩
 .refine LH.JZ (bs:=bs) H5 2 (fs.length *4+(d - 1)) (f.eS d).2.length t rfl (qgSS Gg) hq (Rt.gH _) (λw' H6=>?_) hg
  have H6:FS2 M w0 w' rb sl st wd fs f ((((fs++[f]).flatMap FM.rows).set (fs.length *4+(d - 1)) (s',(f.eS d).2.flatMap Rt.c++z4)).set (fs.length *4+(d - 1)) (s',(f.eS d).2.flatMap Rt.c++t.c)) G ts:=H6
  rw [List.set_set,ec,tg fs f (s',(f.eS d).2++[t]) DN DO] at H6
  exact H6.CT (bs:=bs) (f:=f) 1 (f.put d (s',(f.eS d).2++[t])) d rfl hp (by omega) (EB f (s',(f.eS d).2++[t]) DN DO) (λrC H7=>hK s' rC H7) hg
 .refine H5.CT (bs:=bs) (f:=f) 1 (f.put d (s',(f.eS d).2++[t])) d rfl hp (by omega) (EB f (s',(f.eS d).2++[t]) DN DO) (λw' H6=>?_) hg
  refine LH.JZ (bs:=bs) (L:=SL rb sl st wd ((fs++[f.put d (s',(f.eS d).2++[t])]).flatMap FM.c) (((fs++[f]).flatMap FM.rows).set (fs.length *4+(d - 1)) (s',(f.eS d).2.flatMap Rt.c++z4))++G) H6 2 (fs.length *4+(d - 1)) (f.eS d).2.length t rfl (qgSS Gg) hq (Rt.gH _) (λrC H7=>?_) hg
  have H7:LH M w0 rC (SL rb sl st wd ((fs++[f.put d (s',(f.eS d).2++[t])]).flatMap FM.c) ((((fs++[f]).flatMap FM.rows).set (fs.length *4+(d - 1)) (s',(f.eS d).2.flatMap Rt.c++z4)).set (fs.length *4+(d - 1)) (s',(f.eS d).2.flatMap Rt.c++t.c))++G) [.trees ts]:=H7
  rw [List.set_set,ec,tg fs f (s',(f.eS d).2++[t]) DN DO] at H7
  exact hK s' rC H7
end
theorem pN {α:Type} (l:List α):l=[]\/∃a x,l=a++[x]:=by
 rcases List.eq_nil_or_concat l with h|⟨a,x,h⟩
 .exact .inl h
 .exact .inr ⟨a,x,by rw [h,List.concat_eq_append]⟩
theorem xl (lo:List FX) (g tp:FX) (st wd:Int) (l:List Rx):oD ⟨lo++[g],tp,st,wd⟩ l=some ⟨lo,og g (Lt tp.k l),3,wd⟩:=by
 unfold oD
 simp
def I4 (t:Tk) (S:SX):Ending->Addr->List FX->FX->Int->Int->List Rt->Prop:=λr f0 lo tp st wd ts=>∃s',N7 (jL s' t S) r f0 lo tp st wd ts
theorem SO {w:World} {rb:Nat} {f0:Addr} {lo:List FX} {tp:FX} {st wd:Int} {own:List Nat} {ts:List Rt} (h:St w rb f0 lo tp st wd own ts) (hl:lo.length<=999999) (hs:Small tp 999999) (h1:st=1->0<=tp.k/\lo≠[]) (t:Tk):
  Calls Tryz.prog lW #[.pointer (some (bD rb)),t.v] w (BI w own ts rb (I4 t ⟨lo,tp,st,wd⟩)):=by
 obtain ⟨sl,fs,f,p,rfl,rfl,h3,h4,rfl,H⟩:=yd h
 have Mk:fs.length<=999999:=by simpa using hl
 have wC:f.n<=999999:=hs.n'
 have Ky:Small f.x 1000000:=⟨by have:=hs.n';omega,by have:=hs.ar;omega,by have:=hs.al;omega,by have:=hs.an;omega,by have:=hs.ca;omega⟩
 have base:∀b∈Rt.gN ts,b∈Rt.gN ts\/w.heap.size<=b\/b∈own:=λb hb=>.inl hb
 let z:Sl:=⟨none,0,0⟩
 refine regex_reader_feed.cT _ _ _ _ _ _ w _ (H.bI (bs:=[]) (λb3 w1 H1=>?_) (by simp))
 have H1:SF (·∈own) w w1 rb sl st wd fs f [.g b3] ts:=H1
 refine H1.aL (Hy H1 h4 (by omega)) ?_
 rintro _ w2 rfl H2
 have H2:SF (·∈own) w w2 rb sl st wd fs f [.g b3] ts:=H2
 refine ⟨_,rfl,st,H2.ld 0 1,?_⟩
 have item:∀{w2:World} {NX:Sl} {kR Qo:Int} {yS:List FM} {f2:FM} {CU:List Rt} {p2:Addr},SF (·∈own) w w2 rb NX kR Qo yS f2 [.g b3] CU->(∀g∈yS++[f2],∀t∈g.ts,t∈CU)->NX.a=some p2->(∀b∈Rt.gN CU,b∈Rt.gN ts\/w.heap.size<=b\/b∈own)->(∀t∈ts,t∈CU)->yS.length<=1000000->f2.n<=1000000->
   jL z t ⟨fs.map FM.x,f.x,st,wd⟩=jN t ⟨yS.map FM.x,f2.x,kR,Qo⟩->fC [b3] Tryz.prog gq #[.pointer (some (bD rb)),t.v] w2 λr_ w5=>∃t34:Bool,r_=.returned (.bool t34)/\BI w own ts rb (I4 t ⟨fs.map FM.x,f.x,st,wd⟩) (.returned (.bool t34)) w5:=by
  intro w2 NX kR Qo yS f2 CU p2 H2 Ff Tp A4 UQ TC UP he
  refine H2.Kt (bs:=[b3]) Ff Tp (λoN s1=>SQ s1 (by simpa using TC) UP t) ?_ (by simp)
  rintro r w3 Bw yT f3 p3 lO CM xK t3 n7 tD uK TI H4
  have hb:∀b∈Rt.gN xK,b∈Rt.gN ts\/w.heap.size<=b\/b∈own:=λb hb=>(uK b hb).elim (A4 b) .inr
  rcases TI with ⟨hn,rfl⟩|⟨O1,rfl⟩
  .exact ⟨false,rfl,jh H4 n7 tD hb (λt ht=>t3 t (UQ t ht)) ⟨z,.inl ⟨he.trans hn,rfl⟩⟩⟩
  .exact ⟨true,rfl,jh H4 n7 tD hb (λt ht=>t3 t (UQ t ht)) ⟨z,.inr ⟨he.trans O1,rfl⟩⟩⟩
 have close:∀{w2:World} {NX:Sl} {yS:List FM} {g2 f2:FM} {CU:List Rt} {p2:Addr} {s':Sl} (T:Rt),LH (·∈own) w w2 ([.c rb [NX.v,.int .i64 st,.int .i64 wd] g8,.row b0 10 NX (((yS++[g2])++[f2]).flatMap FM.c),.rows ((yS++[g2]).flatMap FM.rows)]++[.g b3]) [.trees CU]->(∀x∈yS++[g2],∀t∈x.ts,t∈CU)->NX.a=some p2->yS.length<=999999->T∈CU->(0<=f2.k\/T.l≠[])->(∀b∈Rt.gN CU,b∈Rt.gN ts\/w.heap.size<=b\/b∈own)->(∀t∈ts,t∈CU)->
   jL s' t ⟨fs.map FM.x,f.x,st,wd⟩=some ⟨yS.map FM.x,og g2.x (Lt f2.k (Rt.bU T.l)),3,wd⟩->fC [b3] Tryz.prog gT #[.pointer (some (bD rb)),T.s.v] w2 λr_ w5=>∃t34:Bool,r_=.returned (.bool t34)/\BI w own ts rb (I4 t ⟨fs.map FM.x,f.x,st,wd⟩) (.returned (.bool t34)) w5:=by
  intro w2 NX yS g2 f2 CU p2 s' T H2 Ff Tp TC hT hk A4 UQ he
  refine LH.csA (rb:=rb) (bs:=[b3]) H2 (λoN HA=>Oj HA Ff Tp TC T hT hk) ?_ (by simp)
  rintro r w3 Bw yT f3 p3 lO CM xK t3 n7 tD uK ⟨rfl,qV,jd,rfl,rfl⟩ H4
  refine ⟨true,rfl,jh H4 n7 tD (λb hb=>(uK b hb).elim (A4 b) .inr) (λt ht=>t3 t (UQ t ht)) ⟨s',.inr ⟨?_,rfl⟩⟩⟩
  rw [qV,jd]
  exact he
 refine bB (λFi=>?_) (λFi=>?_)
 .have Fi:st=2:=eq_of_beq Fi
  refine l5 (n:=40) (by omega) (λhk:t.k=40=>⟨wd,H2.ld 0 2,?_⟩) (λhk:t.k≠40=>?_)
  .refine H2.Kt (bs:=[b3]) h3 h4 (λoN s1=>Lf s1 (by simp;omega) wd 1) ?_ (by simp)
   rintro _ w3 Bw yT f3 p3 lO CM xK t3 n7 tD uK ⟨rfl,qV,jd,rfl,rfl⟩ H4
   refine ⟨true,rfl,jh H4 n7 tD uK t3 ⟨z,.inr ⟨?_,rfl⟩⟩⟩
   rw [qV,jd]
   unfold jL
   exact (if_pos Fi).trans (if_pos hk)
  .refine jh H2 h3 h4 base (λ_ h=>h) ⟨z,.inl ⟨?_,rfl⟩⟩
   unfold jL
   exact (if_pos Fi).trans (if_neg hk)
 have n2:st≠2:=λe=>by rw [e] at Fi;exact absurd Fi (by decide)
 refine bB (λD1=>?_) (λD1=>?_)
 .have D1:st=1:=eq_of_beq D1
  obtain ⟨Ab,iq⟩:=h1 D1
  refine l5 (n:=41) (by omega) (λhk:t.k=41=>?_) (λhk:t.k≠41=>?_)
  .rcases pN fs with rfl|⟨QQ,g,rfl⟩
   .exact absurd rfl iq
   have H3:=CA H2 3 0 0
   have er:(((QQ++[g])++[f]).flatMap FM.rows)=(QQ++[g]).flatMap FM.rows++f.rows:=by rw [qfA (xs:=QQ++[g])];simp
   have H4:LH (·∈own) w w2 (SL rb sl st wd (((QQ++[g])++[f]).flatMap FM.c) ((QQ++[g]).flatMap FM.rows++f.rows)++[.g b3]) [.trees (ts++[.mk 3 0 0 ⟨none,0,0⟩ []])]:=by rw [<-er];exact H3
   have H5:=Bs H4 2 rfl
   refine close (s':=z) (.mk 3 0 0 ⟨none,0,0⟩ []) H5 (λx hx u hu=>qmL _ (h3 x (qmL _ hx) u hu)) h4 (by simp at Mk;omega) (by simp) (.inl Ab) (λb hb=>.inl (vp hb)) (λu hu=>qmL _ hu) ?_
   unfold jL
   refine (if_neg n2).trans ((if_pos D1).trans ((if_pos hk).trans ?_))
   rw [qmpA]
   exact xl _ _ _ _ _ _
  .refine item H2 h3 h4 base (λ_ h=>h) (by omega) (by omega) ?_
   unfold jL
   exact (if_neg n2).trans ((if_pos D1).trans (if_neg hk))
 have n1:st≠1:=λe=>by rw [e] at D1;exact absurd D1 (by decide)
 refine bB (λJJ=>?_) (λJJ=>?_)
 .have JJ:st=0:=eq_of_beq JJ
  refine item H2 h3 h4 base (λ_ h=>h) (by omega) (by omega) ?_
  unfold jL
  exact (if_neg n2).trans ((if_neg n1).trans (if_pos JJ))
 have n0:st≠0:=λe=>by rw [e] at JJ;exact absurd JJ (by decide)
 have fe:∀s':Sl,jL s' t ⟨fs.map FM.x,f.x,st,wd⟩=(if t.k=42 then some ⟨fs.map FM.x,og f.x (.mk 7 0 0 [f.x.la]),st,wd⟩
   else if t.k=38 then some ⟨fs.map FM.x,kL f.x,0,wd⟩
   else if t.k=124 then some ⟨fs.map FM.x,iT f.x,0,wd⟩
   else if t.k=44 then (if f.x.k<0 then none else some ⟨fs.map FM.x,Vc s' f.x,0,wd⟩)
   else if t.k=41 then (if fs.map FM.x=[] then none else oD ⟨fs.map FM.x,f.x,st,wd⟩ (f.x.ar.2++[iI f.x]))
   else if t.k=36 then (if fs.map FM.x=[] then some ⟨fs.map FM.x,f.x,st,wd⟩ else none)
   else jN t ⟨fs.map FM.x,hC f.x,st,wd⟩):=λs'=>by
  unfold jL
  exact (if_neg n2).trans ((if_neg n1).trans (if_neg n0))
 refine l5 (n:=42) (by omega) (λhk:t.k=42=>?_) (λO7:t.k≠42=>l5 (n:=38) (by omega) (λhk:t.k=38=>?_) (λRo:t.k≠38=>l5 (n:=124) (by omega) (λhk:t.k=124=>?_) (λGq:t.k≠124=>l5 (n:=44) (by omega) (λhk:t.k=44=>?_) (λWn:t.k≠44=>l5 (n:=41) (by omega) (λhk:t.k=41=>?_) (λZW:t.k≠41=>l5 (n:=36) (by omega) (λhk:t.k=36=>?_) (λk36:t.k≠36=>?_))))))
 .obtain ⟨c0,c1,c2,c3⟩:=H2.Mw 1 rfl h4
  refine lM ⟨_,_,_,_,c0,c1,c2,c3,?_⟩
  refine H2.gZ (e:=aB) (sz:=4) (n:=1) (cs:=f.la.c) rfl (by decide) λw7 H7=>lM ?_
  have a1:((p.add (fs.length *10)).add 6).add 1=(p.add (fs.length *10)).add 7:=add_add _ 6 1
  have a2:((p.add (fs.length *10)).add 6).add 2=(p.add (fs.length *10)).add 8:=add_add _ 6 2
  have a3:((p.add (fs.length *10)).add 6).add 3=(p.add (fs.length *10)).add 9:=add_add _ 6 3
  rw [a1,a2,a3]
  refine H7.CT (bs:=[b3]) (f:=f) 1 ⟨f.k,f.ar,f.al,f.an,f.ca,f.n,.mk 7 f.la.lo f.la.hi f.la.s f.la.l⟩ 6 rfl h4 (by omega) rfl (λw8 H8=>?_) (by simp)
  refine H8.CT (bs:=[b3]) (f:=⟨f.k,f.ar,f.al,f.an,f.ca,f.n,.mk 7 f.la.lo f.la.hi f.la.s f.la.l⟩) 1 ⟨f.k,f.ar,f.al,f.an,f.ca,f.n,.mk 7 0 f.la.hi f.la.s f.la.l⟩ 7 rfl h4 (by omega) rfl (λw9 H9=>?_) (by simp)
  refine H9.CT (bs:=[b3]) (f:=⟨f.k,f.ar,f.al,f.an,f.ca,f.n,.mk 7 0 f.la.hi f.la.s f.la.l⟩) 1 ⟨f.k,f.ar,f.al,f.an,f.ca,f.n,.mk 7 0 0 f.la.s f.la.l⟩ 8 rfl h4 (by omega) rfl (λpT mg=>?_) (by simp)
  refine mg.CT (bs:=[b3]) (f:=⟨f.k,f.ar,f.al,f.an,f.ca,f.n,.mk 7 0 0 f.la.s f.la.l⟩) 1 ⟨f.k,f.ar,f.al,f.an,f.ca,f.n,.mk 7 0 0 ⟨some (bD w2.heap.size),1,1⟩ [f.la]⟩ 9 rfl h4 (by omega) rfl (λrQ qn=>?_) (by simp)
  have HW:f.la∈ts:=h3 f (by simp) _ (by simp [FM.ts])
  have pV:=qn.freeze 4 (Rt.row ⟨some (bD w2.heap.size),1,1⟩ [f.la]) rfl (by show jJ 4 rQ _ ([f.la].flatMap Rt.c);rw [show [f.la].flatMap Rt.c=f.la.c by simp];exact aO.iQ (qn.get 4)) (λb hb=>fQ (e:=aB) (vs:=[f.la].flatMap Rt.c) hb)
  have rG:=pV.node 0 7 0 0 (s:=⟨some (bD w2.heap.size),1,1⟩) (ks:=[f.la]) rfl (by simp) (λt ht=>by simp at ht;subst ht;exact HW)
  have er:(fs++[f]).flatMap FM.rows=(fs++[(⟨f.k,f.ar,f.al,f.an,f.ca,f.n,.mk 7 0 0 ⟨some (bD w2.heap.size),1,1⟩ [f.la]⟩:FM)]).flatMap FM.rows:=by simp [FM.rows]
  have qD:SF (·∈own) w rQ rb sl st wd fs ⟨f.k,f.ar,f.al,f.an,f.ca,f.n,.mk 7 0 0 ⟨some (bD w2.heap.size),1,1⟩ [f.la]⟩ [.g b3] (ts++[.mk 7 0 0 ⟨some (bD w2.heap.size),1,1⟩ [f.la]]):=by
   show LH _ _ _ (SL rb sl st wd _ ((fs++[(⟨f.k,f.ar,f.al,f.an,f.ca,f.n,.mk 7 0 0 ⟨some (bD w2.heap.size),1,1⟩ [f.la]⟩:FM)]).flatMap FM.rows)++_) _
   rw [<-er]
   exact rG
  refine jh qD (λg hg u hu=>?_) h4 (λb hb=>?_) (λu hu=>qmL _ hu) ⟨z,.inr ⟨?_,rfl⟩⟩
  .rcases fW.1 hg with hg|hg
   .exact qmL _ (h3 g (by simp [hg]) u hu)
   .simp at hg;subst hg
    simp only [FM.ts,fW,cU,qnM,or_false] at hu
    rcases hu with (((hu|hu)|hu)|hu)|rfl
    .exact qmL _ (h3 f (by simp) u (by simp [FM.ts,hu]))
    .exact qmL _ (h3 f (by simp) u (by simp [FM.ts,hu]))
    .exact qmL _ (h3 f (by simp) u (by simp [FM.ts,hu]))
    .exact qmL _ (h3 f (by simp) u (by simp [FM.ts,hu]))
    .simp
  .obtain ⟨u,hu,OQ⟩:=Rt.bC.1 hb
   rcases fW.1 hu with hu|hu
   .exact .inl (Rt.bC.2 ⟨u,hu,OQ⟩)
   .simp at hu
    rw [hu] at OQ
    rcases Rt.eG.1 OQ with OQ|OQ
    .have:=fQ (e:=aB) OQ
     simp [En.row,bA,Rt.s] at this
     subst this
     exact .inr (.inl H2.fr.size)
    .obtain ⟨t',nl,eC⟩:=Rt.bC.1 OQ
     simp [Rt.l] at nl
     rw [nl] at eC
     exact .inl (Rt.bC.2 ⟨f.la,HW,eC⟩)
  .rw [fe,if_pos hk];rfl
 .refine H2.Kt (bs:=[b3]) h3 h4 (λoN s1=>BP (Dg s1 Ky.n' Ky.ca Ky.an)) ?_ (by simp)
  rintro _ w3 Bw yT f3 p3 lO CM xK t3 n7 tD uK ⟨rfl,NP,qV,jd,rfl,rfl⟩ H3
  refine ⟨rfl,H3.U0 (bs:=[b3]) 0 1 rfl (λw4 H4=>?_) (by simp) (by simp)⟩
  refine jh (show SF (·∈own) w w4 rb Bw 0 CM yT f3 [.g b3] xK from H4) n7 tD uK t3 ⟨z,.inr ⟨?_,rfl⟩⟩
  rw [fe,if_neg O7,if_pos hk,qV,jd]
 .refine H2.Kt (bs:=[b3]) h3 h4 (λoN s1=>BP (AN s1 Ky.n' Ky.ca Ky.an Ky.al)) ?_ (by simp)
  rintro _ w3 Bw yT f3 p3 lO CM xK t3 n7 tD uK ⟨rfl,NP,qV,jd,rfl,rfl⟩ H3
  refine ⟨rfl,H3.U0 (bs:=[b3]) 0 1 rfl (λw4 H4=>?_) (by simp) (by simp)⟩
  refine jh (show SF (·∈own) w w4 rb Bw 0 CM yT f3 [.g b3] xK from H4) n7 tD uK t3 ⟨z,.inr ⟨?_,rfl⟩⟩
  rw [fe,if_neg O7,if_neg Ro,if_pos hk,qV,jd]
 .refine lM ⟨f.k,H2.y6 1 rfl h4 0,bB (λh0=>?_) (λh0=>?_)⟩
  .refine jh H2 h3 h4 base (λ_ h=>h) ⟨z,.inl ⟨?_,rfl⟩⟩
   rw [fe,if_neg O7,if_neg Ro,if_neg Gq,if_pos hk]
   exact if_pos (of_decide_eq_true h0)
  have fin:∀{w5:World} {Bw:Sl} {yT:List FM} {f3:FM} {p3:Addr} {xK:List Rt} {s':Sl} {u:Rt} {G:List En},SF (·∈own) w w5 rb Bw st wd yT (f3.put 1 (s',(f3.eS 1).2++[u])) G xK->(∀g∈yT++[f3],∀t∈g.ts,t∈xK)->Bw.a=some p3->(∀b∈Rt.gN xK,b∈Rt.gN ts\/w.heap.size<=b\/b∈own)->(∀t∈ts,t∈xK)->yT.map FM.x=fs.map FM.x->f3.x=yN f.x->u∈xK->u.rx=iI f.x->
    regex_reader_feed.fY (bD rb) w5 (BI w own ts rb (I4 t ⟨fs.map FM.x,f.x,st,wd⟩)):=by
   intro w5 Bw yT f3 p3 xK s' u G H5 n7 tD Y' ht3 qV jd hu hx
   refine H5.st 0 1 rfl λw6 H6=>?_
   refine jh (show SF (·∈own) w w6 rb Bw 0 wd yT (f3.put 1 (s',(f3.eS 1).2++[u])) G xK from H6) (λg hg v hv=>?_) tD Y' ht3 ⟨s',.inr ⟨?_,rfl⟩⟩
   .rcases fW.1 hg with hg|hg
    .exact n7 g (by simp [hg]) v hv
    .simp at hg;subst hg
     rcases Cp _ _ (by omega) (by omega) hv with h|h
     .exact n7 f3 (by simp) v h
     .rcases fW.1 h with h|h
      .exact n7 f3 (by simp) v (qY f3 1 h)
      .simp at h;subst h;exact hu
   .have e1:f3.k=f.k:=by have:=congrArg FX.k jd;exact this
    have e2:Rt.bU f3.ar.2=Rt.bU f.ar.2:=by have:=congrArg (λx:FX=>x.ar.2) jd;exact this
    have e3:Rt.bU f3.al.2=[]:=by have:=congrArg FX.al jd;exact this
    have e4:Rt.bU f3.an.2=[]:=by have:=congrArg FX.an jd;exact this
    have e5:Rt.bU f3.ca.2=[]:=by have:=congrArg FX.ca jd;exact this
    have e6:f3.n=0:=by have:=congrArg FX.n jd;exact this
    have e7:f3.la.rx=f.x.la:=by have:=congrArg FX.la jd;exact this
    rw [fe,if_neg O7,if_neg Ro,if_neg Gq,if_pos hk]
    refine (if_neg (of_decide_eq_false h0)).trans ?_
    show some (SX.mk _ ⟨_,(s',Rt.bU f.ar.2++[iI f.x]),[],[],[],0,f.x.la⟩ 0 wd)=some (SX.mk (yT.map FM.x) ⟨f3.k,(s',Rt.bU (f3.ar.2++[u])),Rt.bU f3.al.2,Rt.bU f3.an.2,Rt.bU f3.ca.2,f3.n,f3.la.rx⟩ 0 wd)
    rw [qV,e1,e3,e4,e5,e6,e7,kg,e2]
    show some (SX.mk _ ⟨_,(s',Rt.bU f.ar.2++[iI f.x]),[],[],[],0,f.x.la⟩ 0 wd)=some (SX.mk _ ⟨_,(s',Rt.bU f.ar.2++[u.rx]),[],[],[],0,f.x.la⟩ 0 wd)
    rw [hx]
    rfl
  refine lM (H2.aN (bs:=[b3]) (λKl yl=>⟨f.ar.1,yl.y6 1 rfl h4 1,?_,?_⟩) (by simp))
  .refine (show SF (·∈own) w Kl rb sl st wd fs f [.g b3] ts from yl).Kt (bs:=[b3]) h3 h4 (λoN s1=>te s1 Ky) ?_ (by simp)
   rintro r Km Bw yT f3 p3 lO CM xK t3 n7 tD uK ⟨UN,qV,jd,rfl,rfl,u,hu,rfl,hx⟩ xi
   have Vy:f3.ar.1=f.ar.1:=by have:=congrArg (λx:FX=>x.ar.1) jd;exact this
   refine ⟨u.k,u.lo.toNat,u.hi.toNat,u.s,rfl,?_⟩
   rw [<-UN,<-Vy]
   refine ⟨xi.y6 1 rfl tD 1,xi.gZ (e:=aB) (sz:=4) (n:=1) (cs:=z4) rfl (by decide) λKD Fa=>⟨Fa.y6 1 rfl tD 1,?_⟩⟩
   have Ku:(f3.eS 1).2.length<=1000000:=by
    have e:f3.x.ar.2.length=f3.ar.2.length:=(FY f3).1
    rw [jd] at e
    have:f.x.ar.2.length<=999999:=hs.ar
    show f3.ar.2.length<=_
    rw [<-e];show f.x.ar.2.length<=_;omega
   exact MU (bs:=[b3]) (K:=λw5=>regex_reader_feed.fY (bD rb) w5 (BI w own ts rb (I4 t ⟨fs.map FM.x,f.x,lO,CM⟩))) (show SF (·∈own) w KD rb Bw lO CM yT f3 ([.g b3]++[.row aB 4 ⟨some (bD Km.heap.size),1,1⟩ z4]) xK from Fa) 4 rfl tD 1 (by omega) (by omega) u Ku rfl (λs' w5 H5=>fin H5 n7 tD uK t3 qV jd hu hx) (by simp)
  .refine yl.gZ (e:=aB) (sz:=4) (n:=1) (cs:=z4) rfl (by decide) λw30 H30=>⟨H30.y6 1 rfl h4 1,?_⟩
   refine (show SF (·∈own) w w30 rb sl st wd fs f ([.g b3]++[.row aB 4 ⟨some (bD Kl.heap.size),1,1⟩ z4]) ts from H30).Kt (bs:=[b3]) h3 h4 (λoN s1=>te s1 Ky) ?_ (by simp)
   rintro r Km Bw yT f3 p3 lO CM xK t3 n7 tD uK ⟨UN,qV,jd,rfl,rfl,u,hu,rfl,hx⟩ xi
   have Vy:f3.ar.1=f.ar.1:=by have:=congrArg (λx:FX=>x.ar.1) jd;exact this
   refine ⟨u.k,u.lo.toNat,u.hi.toNat,u.s,rfl,?_⟩
   rw [<-UN,<-Vy]
   refine ⟨xi.y6 1 rfl tD 1,?_⟩
   have Ku:(f3.eS 1).2.length<=1000000:=by
    have e:f3.x.ar.2.length=f3.ar.2.length:=(FY f3).1
    rw [jd] at e
    have:f.x.ar.2.length<=999999:=hs.ar
    show f3.ar.2.length<=_
    rw [<-e];show f.x.ar.2.length<=_;omega
   exact MU (bs:=[b3]) (K:=λw5=>regex_reader_feed.fY (bD rb) w5 (BI w own ts rb (I4 t ⟨fs.map FM.x,f.x,lO,CM⟩))) xi 4 rfl tD 1 (by omega) (by omega) u Ku rfl (λs' w5 H5=>fin H5 n7 tD uK t3 qV jd hu hx) (by simp)
 .refine H2.aN (bs:=[b3]) (λw43 Sn=>⟨sl,Sn.ld 0 0,?_⟩) (by simp)
  have Sn:SF (·∈own) w w43 rb sl st wd fs f [.g b3] ts:=Sn
  have Rk:=PU Sn
  rcases pN fs with rfl|⟨QQ,g,rfl⟩
  .refine aM (decide_eq_false (by rw [Rk];simp)) ?_
   refine jh Sn h3 h4 base (λ_ h=>h) ⟨z,.inl ⟨?_,rfl⟩⟩
   rw [fe,if_neg O7,if_neg Ro,if_neg Gq,if_neg Wn,if_pos hk]
   rfl
  .refine aS (decide_eq_true (by rw [Rk];simp;omega)) (lM ⟨f.ar.1,Sn.y6 1 rfl h4 1,?_⟩)
   refine Sn.Kt (bs:=[b3]) h3 h4 (λoN s1=>te s1 Ky) ?_ (by simp)
   rintro r w44 Bw yT f3 p3 lO CM xK t3 n7 tD uK ⟨UN,qV,jd,rfl,rfl,u,hu,rfl,hx⟩ H44
   have Vy:f3.ar.1=f.ar.1:=by have:=congrArg (λx:FX=>x.ar.1) jd;exact this
   refine ⟨u.k,u.lo.toNat,u.hi.toNat,u.s,rfl,?_⟩
   rw [<-UN,<-Vy]
   refine ⟨H44.y6 1 rfl tD 1,H44.gZ (e:=aB) (sz:=4) (n:=1) (cs:=u.c) rfl (by decide) λw45 Xj=>⟨Xj.y6 1 rfl tD 1,?_⟩⟩
   have Zn:∃z9 g1,yT=z9++[g1]/\z9.map FM.x=QQ.map FM.x/\g1.x=g.x:=by
    rcases pN yT with rfl|⟨z9,g1,rfl⟩
    .simp at qV
    .refine ⟨z9,g1,rfl,?_⟩
     rw [qmpA,qmpA] at qV
     have:=List.append_inj' qV rfl
     exact ⟨this.1,by simpa using this.2⟩
   obtain ⟨z9,g1,rfl,Zm,Tx⟩:=Zn
   have jK:(((z9++[g1])++[f3]).flatMap FM.rows)[(z9++[g1]).length *4+0]? =some (f3.ar.1,f3.ar.2.flatMap Rt.c):=oy (z9++[g1]) f3 0 _ rfl
   have Ku:f3.ar.2.length<=999999:=by
    have e:f3.x.ar.2.length=f3.ar.2.length:=(FY f3).1
    rw [jd] at e
    have:f.x.ar.2.length<=999999:=hs.ar
    rw [<-e];exact this
   have nr:f3.ar.1.n=f3.ar.2.length:=by
    have hp:(En.rows (((z9++[g1])++[f3]).flatMap FM.rows)).P w45:=Xj.get 2
    exact Rt.cB (hp.1 _ (dC jK)).iQ
   refine Xj.Hm (bs:=[b3]) 2 ((z9++[g1]).length *4+0) (src:=⟨some (bD w44.heap.size),1,1⟩) (news:=u.c) rfl jK (aO.iQ (Xj.get 4)) (by simp [Value.oneCell',Rt.c]) (by show (f3.ar.1.n+1) *40<=_;omega) (λs' w46 H46 wC qM=>?_) (by simp)
   have Gg:(z9++[g1]).length *4+0<(((z9++[g1])++[f3]).flatMap FM.rows).length:=by rw [pO];simp
   have rW:∀b∈bA s',b∈own\/w.heap.size<=b:=λb hb=>(H46.new (.rows ((((z9++[g1])++[f3]).flatMap FM.rows).set ((z9++[g1]).length *4+0) (s',f3.ar.2.flatMap Rt.c++u.c))) (by simp) b (aI.2 (mV.2 ⟨_,dC (qgSS Gg),hb⟩))).symm
   have H47:=H46.B6 2 ((z9++[g1]).length *4+0) rfl (qgSS Gg)
   have ec:f3.ar.2.flatMap Rt.c++u.c=(f3.ar.2++[u]).flatMap Rt.c:=by simp
   rw [ec] at H47
   have H48:=H47.node 0 3 0 0 (s:=s') (ks:=f3.ar.2++[u]) rfl (qmR _ (List.mem_singleton.2 rfl)) (λv hv=>by
    rcases fW.1 hv with hv|hv
    .exact n7 f3 (by simp) v (qY f3 1 hv)
    .simp at hv;subst hv;exact hu)
   have er:(((((z9++[g1])++[f3]).flatMap FM.rows).set ((z9++[g1]).length *4+0) (s',(f3.ar.2++[u]).flatMap Rt.c)).set ((z9++[g1]).length *4+0) (⟨none,0,0⟩,[]))=(z9++[g1]).flatMap FM.rows++f3.rows.set 0 (⟨none,0,0⟩,[]):=by
    rw [List.set_set]
    exact zp (z9++[g1]) f3 0 _ (by omega)
   have H49:LH (·∈own) w w46 (SL rb Bw lO CM (((z9++[g1])++[f3]).flatMap FM.c) ((z9++[g1]).flatMap FM.rows++f3.rows.set 0 (⟨none,0,0⟩,[]))++[.g b3]) [.trees (xK++[.mk 3 0 0 s' (f3.ar.2++[u])])]:=by
    rw [<-er]
    exact H48.take 4
   have H50:=Bs H49 2 rfl
   have Gh:f3.k=f.k:=by have:=congrArg FX.k jd;exact this
   refine close (s':=z) (.mk 3 0 0 s' (f3.ar.2++[u])) H50 (λx hx v hv=>qmL _ (n7 x (qmL _ hx) v hv)) tD ?_ (by simp) (.inr (by simp [Rt.l])) ?_ (λv hv=>qmL _ (t3 v hv)) ?_
   .have:=congrArg List.length Zm
    simp at this Mk
    omega
   .intro b hb
    obtain ⟨v,hv,Tt⟩:=Rt.bC.1 hb
    rcases fW.1 hv with hv|hv
    .exact uK b (Rt.bC.2 ⟨v,hv,Tt⟩)
    .simp at hv
     rw [hv] at Tt
     rcases Rt.eG.1 Tt with Tt|Tt
     .exact .inr (rW b (fQ (e:=aB) Tt)).symm
     .obtain ⟨t',nl,eC⟩:=Rt.bC.1 Tt
      have nl:t'∈f3.ar.2++[u]:=nl
      refine uK b (Rt.bC.2 ⟨t',?_,eC⟩)
      rcases fW.1 nl with nl|nl
      .exact n7 f3 (by simp) t' (qY f3 1 nl)
      .simp at nl;subst nl;exact hu
   .rw [fe,if_neg O7,if_neg Ro,if_neg Gq,if_neg Wn,if_pos hk]
    refine (if_neg (by simp)).trans ?_
    rw [qmpA]
    refine (xl _ _ _ _ _ _).trans ?_
    have e2:Rt.bU f3.ar.2=f.x.ar.2:=by have:=congrArg (λx:FX=>x.ar.2) jd;exact this
    rw [Zm,Tx,Gh]
    show _=some (SX.mk _ (og g.x (Lt f.k (Rt.bU (f3.ar.2++[u])))) 3 CM)
    rw [kg,e2]
    show _=some (SX.mk _ (og g.x (Lt f.k (f.x.ar.2++[u.rx]))) 3 CM)
    rw [hx]
    rfl
 .refine ⟨sl,H2.ld 0 0,?_⟩
  have Rk:=PU H2
  rcases pN fs with rfl|⟨QQ,g,rfl⟩
  .have e:(((sl.n:Nat):Int)==1)=true:=by rw [Rk];rfl
   rw [e]
   refine jh H2 h3 h4 base (λ_ h=>h) ⟨z,.inr ⟨?_,rfl⟩⟩
   rw [fe,if_neg O7,if_neg Ro,if_neg Gq,if_neg Wn,if_neg ZW,if_pos hk]
   rfl
  .have e:(((sl.n:Nat):Int)==1)=false:=by rw [Rk];simp;omega
   rw [e]
   refine jh H2 h3 h4 base (λ_ h=>h) ⟨z,.inl ⟨?_,rfl⟩⟩
   rw [fe,if_neg O7,if_neg Ro,if_neg Gq,if_neg Wn,if_neg ZW,if_pos hk]
   exact if_neg (by simp)
 .refine H2.Kt (bs:=[b3]) h3 h4 (λoN s1=>BP (AO s1 Ky.n' Ky.ca)) ?_ (by simp)
  rintro _ w3 Bw yT f3 p3 lO CM xK t3 n7 tD uK ⟨rfl,NP,qV,jd,rfl,rfl⟩ H3
  refine ⟨rfl,item H3 n7 tD uK t3 ?_ ?_ ?_⟩
  .have:=congrArg List.length qV
   simp at this
   omega
  .have e5:f3.n=0:=by have:=congrArg FX.n jd;exact this
   omega
  .rw [fe,if_neg O7,if_neg Ro,if_neg Gq,if_neg Wn,if_neg ZW,if_neg k36,qV,jd]
set_option maxRecDepth 100000
theorem vJ (s:ByteArray) (c:UInt8) (w:World):Sem.run Tryz.prog (callFunc dX #[.string s,.int .u8 (c.toNat:Int)]) w=.ok (.value (.int .i64 (Go.Lib.indexByte (bl s) c))) w:=by
 have h:=run_callFunc_indexByte (P:=Tryz.prog) (f:=dX) (fn:=(Tryz.prog.funcs[dX]?).getD default) (by kernel_rfl) (by kernel_rfl) (by kernel_rfl) (by kernel_rfl) (by kernel_rfl) #[.string s,.int .u8 (c.toNat:Int)] w
 rw [h,Go.Lib.run_indexByteString]
 show Result.ok _ w=_
 congr 4
 simp
theorem sT (s:ByteArray) (c:UInt8) (w:World):Calls Tryz.prog hG #[.string s,.int .u8 (c.toNat:Int)] w λr w'=>r=.returned (.int .i64 (Go.Lib.indexByte (bl s) c))/\bF w w':=by
 refine strings_IndexByte.ok _ _ w _ ?_
 refine (show Calls Tryz.prog gj #[.string s,.int .u8 (c.toNat:Int)] w λr w'=>r=.returned (.int .i64 (Go.Lib.indexByte (bl s) c))/\w=w' from ?_).mono ?_
 .exact internal_stringslite_IndexByte.ok _ _ w _ ⟨_,w,vJ s c w,rfl,rfl⟩
 .rintro r w1 ⟨rfl,rfl⟩
  exact ⟨_,rfl,rfl,Fr.refl _ _⟩
def mN (c:UInt8):Bool:=decide (97<=c.toNat)&&decide (c.toNat<=122)
def wN (c:UInt8):Bool:=decide (32<=c.toNat)&&(decide (c.toNat<=126)&&(!decide (c=39)&&!decide (c=92)))
theorem x8 (c:UInt8) (w:World):Calls Tryz.prog kA #[.int .u8 (c.toNat:Int)] w λr w'=>r=.returned (.bool (mN c))/\bF w w':=by
 refine regex_small.ok _ w _ (aK (λh=>⟨?_,Fr.refl _ _⟩) (λh=>⟨?_,Fr.refl _ _⟩))
 .unfold mN
  rw [decide_eq_true (show 97<=c.toNat by omega),Bool.true_and]
  rw [show decide ((c.toNat:Int)<=122)=decide (c.toNat<=122) from decide_eq_decide.2 (by omega)]
 .unfold mN
  rw [decide_eq_false (show ¬97<=c.toNat by omega),Bool.false_and]
theorem Nw (c:UInt8) (n:Nat) (hn:n<256):(((c.toNat:Nat):Int)==(n:Int))=decide (c=UInt8.ofNat n):=by
 have e:c.toNat=n↔c=UInt8.ofNat n:=by
  rw [<-UInt8.toNat_inj,UInt8.toNat_ofNat']
  omega
 rw [Bool.eq_iff_iff,beq_iff_eq,decide_eq_true_iff,<-e]
 omega
theorem Hx (c:UInt8) (w:World):Calls Tryz.prog n9 #[.int .u8 (c.toNat:Int)] w λr w'=>r=.returned (.bool (wN c))/\bF w w':=by
 have e39:(((c.toNat:Nat):Int) !=39)= !decide (c=39):=by
  have:=Nw c 39 (by omega)
  show (!(((c.toNat:Nat):Int)==((39:Nat):Int)))=_
  rw [this];rfl
 have e92:(((c.toNat:Nat):Int) !=92)= !decide (c=92):=by
  have:=Nw c 92 (by omega)
  show (!(((c.toNat:Nat):Int)==((92:Nat):Int)))=_
  rw [this];rfl
 refine regex_plain.ok _ w _ ?_
 rw [e39,e92]
 unfold wN
 refine aK (λh=>?_) (λh=>⟨?_,Fr.refl _ _⟩)
 .rw [decide_eq_true (show 32<=c.toNat by omega),Bool.true_and]
  refine aK (λh2=>?_) (λh2=>⟨?_,Fr.refl _ _⟩)
  .rw [decide_eq_true (show c.toNat<=126 by omega),Bool.true_and]
   refine bB (λh3=>⟨?_,Fr.refl _ _⟩) (λh3=>⟨?_,Fr.refl _ _⟩)
   .rw [h3,Bool.true_and]
   .rw [h3,Bool.false_and]
  .rw [decide_eq_false (show ¬c.toNat<=126 by omega),Bool.false_and]
 .rw [decide_eq_false (show ¬32<=c.toNat by omega),Bool.false_and]
theorem SI {s:ByteArray} {l:List UInt8} (h:bl s=l) (i:Nat):s[i]? =l[i]?:=by
 subst h
 by_cases hi:i<s.size
 .rw [getElem?_pos s i hi,g7 (by rw [hV];exact hi)];rfl
 .rw [getElem?_neg s i hi,List.getElem?_eq_none (by rw [hV];omega)]
theorem wS {s:ByteArray} {i:Nat} (h:i<s.size):s[i]? =some ((bl s).getD i 0):=by
 rw [SI (s:=s) (l:=bl s) rfl i]
 have hl:i<(bl s).length:=by rw [hV];exact h
 rw [List.getD_eq_getElem?_getD,g7 hl]
 rfl
def DS:List UInt8:=[48,49,50,51,52,53,54,55,56,57,97,98,99,100,101,102]
def Zk (a b:Int):UInt8:=UInt8.ofNat (IntKind.wrap .u8 (Vd .i64 (IntKind.wrap .i64 (a *2^4)) b)).toNat
def qb (l:List UInt8) (i:Nat):Option (UInt8×Nat):=
 if i+2<l.length/\l.getD i 0=39/\wN (l.getD (i+1) 0)=true/\l.getD (i+2) 0=39 then some (l.getD (i+1) 0,3)
 else if i+3<l.length/\l.getD i 0=92/\l.getD (i+1) 0=120/\0<=Go.Lib.indexByte DS (l.getD (i+2) 0)/\0<=Go.Lib.indexByte DS (l.getD (i+3) 0) then some (Zk (Go.Lib.indexByte DS (l.getD (i+2) 0)) (Go.Lib.indexByte DS (l.getD (i+3) 0)),4)
 else none
def oo:Option (UInt8×Nat)->Value
 |none=>.tuple #[.int .u8 0,.int .i64 0,.bool false]
 |some (b,n)=>.tuple #[.int .u8 (b.toNat:Int),.int .i64 (n:Int),.bool true]
theorem yi {x:UInt8} {n:Nat} {A B:Prop} (hn:n<256) (h1:x=UInt8.ofNat n->A) (h2:x≠UInt8.ofNat n->B):aH (((x.toNat:Nat):Int)==(n:Int)) A B:=l5 hn h1 h2
theorem CO (x:Int):((UInt8.ofNat (IntKind.wrap .u8 x).toNat).toNat:Int)=IntKind.wrap .u8 x:=by
 rw [UInt8.toNat_ofNat',IntKind.wrap_u8]
 omega
theorem yy (s:ByteArray) (i:Nat) (hi:i<=1000000) (w:World):Calls Tryz.prog lj #[.string s,.int .i64 (i:Int)] w λr w'=>r=.returned (oo (qb (bl s) i))/\bF w w':=by
 have e1:IntKind.wrap .i64 ((i:Int)+1)=((i+1:Nat):Int):=by rw [IntWalk.i64_in _ (by omega)];omega
 have e2:IntKind.wrap .i64 ((i:Int)+2)=((i+2:Nat):Int):=by rw [IntWalk.i64_in _ (by omega)];omega
 have e3:IntKind.wrap .i64 ((i:Int)+3)=((i+3:Nat):Int):=by rw [IntWalk.i64_in _ (by omega)];omega
 have hl:(bl s).length=s.size:=hV s
 have hex:¬(i+2<(bl s).length/\(bl s).getD i 0=39/\wN ((bl s).getD (i+1) 0)=true/\(bl s).getD (i+2) 0=39)->∀w',bF w w'->regex_byteAt.S0 s i w' (λr w'=>r=.returned (oo (qb (bl s) i))/\bF w w'):=by
  intro hq w' hf
  have no:¬(i+3<(bl s).length/\(bl s).getD i 0=92/\(bl s).getD (i+1) 0=120/\0<=Go.Lib.indexByte DS ((bl s).getD (i+2) 0)/\0<=Go.Lib.indexByte DS ((bl s).getD (i+3) 0))->∀w',bF w w'->regex_byteAt.S1 w' (λr w'=>r=.returned (oo (qb (bl s) i))/\bF w w'):=λhn w' hf=>by
   refine ⟨?_,hf⟩
   unfold qb
   rw [if_neg hq,if_neg hn]
   rfl
  show aH _ _ _
  rw [e3,e2,e1]
  refine aK (λh3=>⟨by omega,_,wS (i:=i) (by omega),yi (n:=92) (by omega) (λhc=>⟨by omega,_,wS (i:=i+1) (by omega),yi (n:=120) (by omega) (λhx=>?_) (λhx=>no (λh=>hx h.2.2.1) w' hf)⟩) (λhc=>no (λh=>hc h.2.1) w' hf)⟩) (λh3=>no (λh=>by omega) w' hf)
  refine (show LH F0 w w' [] [] from ((LH.start (M:=F0) (w:=w) [] (by simp)).ot hf)).dr λw1 H1=>⟨by omega,_,wS (i:=i+2) (by omega),by omega,_,wS (i:=i+3) (by omega),H1.call (sT _ _ _) ?_⟩
  rintro _ w2 rfl H2
  refine ⟨_,rfl,H2.call (sT _ _ _) ?_⟩
  rintro _ w3 rfl H3
  refine ⟨_,rfl,?_⟩
  show aH (decide (Go.Lib.indexByte DS _>=0)) (aH (decide (Go.Lib.indexByte DS _>=0)) _ _) _
  refine aK (λha=>aK (λhb=>⟨?_,H3.fr⟩) (λhb=>no (λh=>hb h.2.2.2.2) w3 H3.fr)) (λha=>no (λh=>ha h.2.2.2.1) w3 H3.fr)
  unfold qb
  rw [if_neg hq,if_pos ⟨by omega,hc,hx,ha,hb⟩]
  exact congrArg (λx=>Ending.returned (.tuple #[.int .u8 x,.int .i64 4,.bool true])) (CO _).symm
 refine regex_byteAt.ok _ _ w _ ?_
 rw [e2,e1]
 refine aK (λh2=>⟨by omega,_,wS (i:=i) (by omega),yi (n:=39) (by omega) (λhc=>⟨by omega,_,wS (i:=i+1) (by omega),(Hx _ w).mono ?_⟩) (λhc=>hex (λh=>hc h.2.1) w (Fr.refl _ _))⟩) (λh2=>hex (λh=>by omega) w (Fr.refl _ _))
 rintro _ w1 ⟨rfl,f1⟩
 refine ⟨_,rfl,bB (λhp=>⟨by omega,_,wS (i:=i+2) (by omega),yi (n:=39) (by omega) (λhd=>⟨by omega,_,wS (i:=i+1) (by omega),?_,f1⟩) (λhd=>hex (λh=>hd h.2.2.2) w1 f1)⟩) (λhp=>hex (λh=>by rw [h.2.2.1] at hp;cases hp) w1 f1)⟩
 unfold qb
 rw [if_pos ⟨by omega,hc,hp,hd⟩]
 rfl
def WS:List UInt8:=[40,41,44,124,38,33,42]
def mO (l:List UInt8) (i:Nat):Tk×Nat:=
 if 0<=Go.Lib.indexByte WS (l.getD i 0) then (⟨l.getD i 0,0,0,[],i⟩,1)
 else if mN (l.getD i 0)=true then (⟨119,0,0,(l.drop i).takeWhile mN,i⟩,((l.drop i).takeWhile mN).length)
 else if l.getD i 0=91 then
  match qb l (i+1) with
  |none=>(⟨63,0,0,[],i⟩,1)
  |some (lo,m)=>
   if i+1+m<l.length/\l.getD (i+1+m) 0=45 then
    match qb l (i+1+m+1) with
    |none=>(⟨63,0,0,[],i⟩,1)
    |some (hi,m2)=>if i+1+m+(1+m2)<l.length/\l.getD (i+1+m+(1+m2)) 0=93/\lo.toNat<=hi.toNat then (⟨114,lo,hi,[],i⟩,1+m+(1+m2)+1) else (⟨63,0,0,[],i⟩,1)
   else (⟨63,0,0,[],i⟩,1)
 else match qb l i with
  |some (b,n)=>(⟨114,b,b,[],i⟩,n)
  |none=>(⟨63,0,0,[],i⟩,1)
def Qg (x:Tk×Nat):Value:=.tuple #[x.1.v,.int .i64 (x.2:Int)]
theorem wg {l:List UInt8} {i:Nat} {b:UInt8} {n:Nat} (h:qb l i=some (b,n)):(n=3\/n=4)/\i+n<=l.length:=by
 unfold qb at h
 split at h
 .cases h;rename_i hc;omega
 .split at h
  .cases h;rename_i hc;omega
  .cases h
theorem tL:∀(l:List UInt8) (m:Nat) (p:UInt8->Bool),m<=l.length->(∀k<m,p (l.getD k 0)=true)->(m<l.length->p (l.getD m 0)=false)->(l.takeWhile p)=l.take m
 |[],m,p,hm,_,_=>by simp
 |c::l,0,p,hm,_,hs=>by
  have:p c=false:=hs (by simp)
  simp [this]
 |c::l,m+1,p,hm,ha,hs=>by
  have hc:p c=true:=ha 0 (by omega)
  rw [List.takeWhile_cons,if_pos hc,List.take_succ_cons,tL l m p (by simpa using hm) (λk hk=>by simpa using ha (k+1) (by omega)) (λh=>by simpa using hs (by simpa using h))]
theorem A1 (l:List UInt8) (i k:Nat):(l.drop i).getD k 0=l.getD (i+k) 0:=by
 rw [List.getD_eq_getElem?_getD,List.getD_eq_getElem?_getD,List.getElem?_drop]
theorem Jg (s:ByteArray) (hs:s.size<=900000) (i:Nat) (hi:i<s.size) (w:World):Calls Tryz.prog oJ #[.string s,.int .i64 (i:Int)] w λr w'=>r=.returned (Qg (mO (bl s) i))/\bF w w':=by
 have hl:(bl s).length=s.size:=hV s
 refine regex_tokenAt.cT _ _ w _ ((mf [] (λ_ h=>by cases h)).bI (bs:=[]) (λb4 w1 H1=>⟨by omega,_,wS (i:=i) hi,?_⟩) (by simp))
 have H1:LH F0 w w1 [.g b4] []:=H1
 have bad:∀w',LH F0 w w' [.g b4] []->mO (bl s) i=(⟨63,0,0,[],i⟩,1)->∀(a0 a1 a2:Int) (a3:ByteArray) (a4:Int),regex_tokenAt.pj (i:Int) b4 a0 a1 a2 a3 a4 w' λr w'=>r=.returned (Qg (mO (bl s) i))/\bF w w':=λw' H' he _ _ _ _ _=>H'.aN (bs:=[b4]) (λw3 H3=>⟨by rw [he];rfl,H3.fr⟩) (by simp)
 refine H1.aL (sT _ _ _) ?_
 rintro _ w2 rfl H2
 refine ⟨_,rfl,?_⟩
 show aH (decide (Go.Lib.indexByte WS _>=0)) _ _
 refine aK (λh0=>H2.aN (bs:=[b4]) (λw3 H3=>⟨?_,H3.fr⟩) (by simp)) (λh0=>H2.aL (x8 _ _) ?_)
 .unfold mO
  rw [if_pos h0]
  rfl
 rintro _ w3 rfl H3
 refine ⟨_,rfl,bB (λO1=>?_) (λO1=>l5 (n:=91) (by omega) (λTq:(bl s).getD i 0=91=>?_) (λTq:(bl s).getD i 0≠91=>?_))⟩
 .
  have loop:∀(n j:Nat) (w':World),s.size - j<n->i<=j->j<=s.size->(∀k,i<=k->k<j->mN ((bl s).getD k 0)=true)->LH F0 w w' [.g b4] []->∀(a0 a1 a2:Int) (a3:ByteArray) (a4:Int),regex_tokenAt.l6 s (i:Int) b4 a0 a1 a2 a3 a4 (j:Int) w' λr w'=>r=.returned (Qg (mO (bl s) i))/\bF w w':=by
   intro n
   induction n with
   |zero=>intro j w' h;omega
   |succ n ih=>
    intro j w' hn xP hj hall H a0 a1 a2 a3 a4
    have done:(j<s.size->mN ((bl s).getD j 0)=false)->∀w',LH F0 w w' [.g b4] []->regex_tokenAt.eY s (i:Int) b4 a0 a1 a2 a3 a4 (j:Int) w' λr w'=>r=.returned (Qg (mO (bl s) i))/\bF w w':=λFi w' H'=>by
     refine ⟨by omega,by omega,by omega,by omega,H'.aN (bs:=[b4]) (λw5 H5=>⟨?_,H5.fr⟩) (by simp)⟩
     have etw:((bl s).drop i).takeWhile mN=((bl s).drop i).take (j - i):=by
      refine tL _ _ _ (by rw [qlD];omega) (λk hk=>?_) (λh=>?_)
      .rw [A1];exact hall _ (by omega) (by omega)
      .rw [A1,show i+(j - i)=j by omega]
       refine Fi ?_
       rw [qlD] at h
       omega
     have YL:(((bl s).drop i).take (j - i)).length=j - i:=by rw [List.length_take,qlD];omega
     have YK:s.extract (Int.toNat (i:Int)) (Int.toNat (j:Int))=ba (((bl s).drop i).take (j - i)):=by
      have:bl (s.extract i j)=((bl s).drop i).take (j - i):=by
       unfold bl
       rw [ByteArray.data_extract,Array.toList_extract,List.extract_eq_take_drop]
      rw [Int.toNat_natCast,Int.toNat_natCast,<-this,AK]
     have ew:IntKind.wrap .i64 ((j:Int) - (i:Int))=((j - i:Nat):Int):=by rw [IntWalk.i64_in _ (by omega)];omega
     rw [YK,ew]
     unfold mO
     rw [if_neg h0,if_pos O1,etw,YL]
     rfl
    refine regex_tokenAt.dI _ _ _ _ _ _ _ _ _ _ _ (aK (λh=>⟨by omega,_,wS (i:=j) (by omega),H.aL (x8 _ _) ?_⟩) (λh=>done (λh'=>by omega) w' H))
    rintro _ w5 rfl H5
    refine ⟨_,rfl,bB (λhb=>?_) (λhb=>done (λ_=>hb) w5 H5)⟩
    rw [show IntKind.wrap .i64 ((j:Int)+1)=((j+1:Nat):Int) by rw [IntWalk.i64_in _ (by omega)];omega]
    refine ih (j+1) w5 (by omega) (by omega) (by omega) (λk h1 h2=>?_) H5 _ _ _ _ _
    by_cases hk:k=j
    .subst hk;exact hb
    .exact hall k h1 (by omega)
  exact loop (s.size+1) i w3 (by omega) (Nat.le_refl _) (by omega) (λk h1 h2=>by omega) H3 _ _ _ _ _
 .have Gj:¬mN ((bl s).getD i 0)=true:=by rw [O1];simp
  rw [show IntKind.wrap .i64 ((i:Int)+1)=((i+1:Nat):Int) by rw [IntWalk.i64_in _ (by omega)];omega]
  refine H3.aL (yy s (i+1) (by omega) _) ?_
  rintro _ w4 rfl H4
  cases hb:qb (bl s) (i+1) with
  |none=>
   refine ⟨0,0,false,rfl,aS rfl (bad w4 H4 ?_ _ _ _ _ _)⟩
   unfold mO
   rw [if_neg h0,if_neg Gj,if_pos Tq,hb]
  |some q=>
   obtain ⟨lo,m⟩:=q
   obtain ⟨hm,hml⟩:=wg hb
   refine ⟨lo.toNat,m,true,rfl,?_⟩
   try dsimp only
   rw [show IntKind.wrap .i64 (((i+1:Nat):Int)+(m:Int))=((i+1+m:Nat):Int) by rw [IntWalk.i64_in _ (by omega)];omega]
   have no1:¬(i+1+m<(bl s).length/\(bl s).getD (i+1+m) 0=45)->mO (bl s) i=(⟨63,0,0,[],i⟩,1):=λh=>by
    unfold mO
    rw [if_neg h0,if_neg Gj,if_pos Tq,hb]
    exact if_neg h
   refine aM rfl (aK (λh=>bad w4 H4 (no1 (λh'=>by omega)) _ _ _ _ _) (λh=>⟨by omega,_,wS (i:=i+1+m) (by omega),?_⟩))
   refine bB (λiq=>bad w4 H4 (no1 (λh'=>?_)) _ _ _ _ _) (λheq=>?_)
   .rw [h'.2] at iq;exact absurd iq (by decide)
   have QT:(bl s).getD (i+1+m) 0=45:=by
    have e:(((bl s).getD (i+1+m) 0).toNat:Int)=45:=by simpa using heq
    have:((bl s).getD (i+1+m) 0).toNat=(45:UInt8).toNat:=by show _=45;omega
    exact UInt8.toNat_inj.1 this
   rw [show IntKind.wrap .i64 (((i+1+m:Nat):Int)+1)=((i+1+m+1:Nat):Int) by rw [IntWalk.i64_in _ (by omega)];omega]
   refine H4.aL (yy s (i+1+m+1) (by omega) _) ?_
   rintro _ w5 rfl H5
   cases A4:qb (bl s) (i+1+m+1) with
   |none=>
    refine ⟨0,0,false,rfl,aS rfl (bad w5 H5 ?_ _ _ _ _ _)⟩
    unfold mO
    rw [if_neg h0,if_neg Gj,if_pos Tq,hb]
    refine (if_pos ⟨by omega,QT⟩).trans ?_
    rw [A4]
   |some q=>
    obtain ⟨Cb,m2⟩:=q
    obtain ⟨V3,aax⟩:=wg A4
    refine ⟨Cb.toNat,m2,true,rfl,?_⟩
    try dsimp only
    rw [show IntKind.wrap .i64 (((i+1+m:Nat):Int)+IntKind.wrap .i64 (1+(m2:Int)))=((i+1+m+(1+m2):Nat):Int) by rw [IntWalk.i64_in (1+(m2:Int)) (by omega),IntWalk.i64_in _ (by omega)];omega]
    have e2:mO (bl s) i=if i+1+m+(1+m2)<(bl s).length/\(bl s).getD (i+1+m+(1+m2)) 0=93/\lo.toNat<=Cb.toNat then (⟨114,lo,Cb,[],i⟩,1+m+(1+m2)+1) else (⟨63,0,0,[],i⟩,1):=by
     unfold mO
     rw [if_neg h0,if_neg Gj,if_pos Tq,hb]
     refine (if_pos ⟨by omega,QT⟩).trans ?_
     rw [A4]
    refine aM rfl (aK (λh=>bad w5 H5 (e2.trans (if_neg λh'=>by omega)) _ _ _ _ _) (λh=>⟨by omega,_,wS (i:=i+1+m+(1+m2)) (by omega),?_⟩))
    refine bB (λiq=>bad w5 H5 (e2.trans (if_neg λh'=>?_)) _ _ _ _ _) (λTv=>?_)
    .rw [h'.2.1] at iq;exact absurd iq (by decide)
    have h93:(bl s).getD (i+1+m+(1+m2)) 0=93:=by
     have e:(((bl s).getD (i+1+m+(1+m2)) 0).toNat:Int)=93:=by simpa using Tv
     have:((bl s).getD (i+1+m+(1+m2)) 0).toNat=(93:UInt8).toNat:=by show _=93;omega
     exact UInt8.toNat_inj.1 this
    refine aK (λOW=>bad w5 H5 (e2.trans (if_neg λh'=>by omega)) _ _ _ _ _) (λOW=>H5.aN (bs:=[b4]) (λw6 H6=>⟨?_,H6.fr⟩) (by simp))
    rw [e2,if_pos ⟨by omega,h93,by omega⟩]
    rw [show IntKind.wrap .i64 (IntKind.wrap .i64 (((i+1+m+(1+m2):Nat):Int)+1) - (i:Int))=((1+m+(1+m2)+1:Nat):Int) by rw [IntWalk.i64_in (((i+1+m+(1+m2):Nat):Int)+1) (by omega),IntWalk.i64_in _ (by omega)];omega]
    rfl
 .have Gj:¬mN ((bl s).getD i 0)=true:=by rw [O1];simp
  refine H3.aL (yy s i (by omega) _) ?_
  rintro _ w4 rfl H4
  cases hb:qb (bl s) i with
  |none=>
   refine ⟨0,0,false,rfl,aM rfl (bad w4 H4 ?_ _ _ _ _ _)⟩
   unfold mO
   rw [if_neg h0,if_neg Gj,if_neg Tq,hb]
  |some q=>
   obtain ⟨b,n⟩:=q
   refine ⟨b.toNat,n,true,rfl,aS rfl (H4.aN (bs:=[b4]) (λw5 H5=>⟨?_,H5.fr⟩) (by simp))⟩
   unfold mO
   rw [if_neg h0,if_neg Gj,if_neg Tq,hb]
   rfl
structure Inv (S:SX) (m:Nat):Prop where
 lo:S.lo.length<=m
 sl:∀f∈S.lo,Small f m
 tp:Small S.tp m
 s1:S.st=1->0<=S.tp.k/\S.lo≠[]
 s2:S.st=2->0<=S.wd
theorem Small.mono {f:FX} {m n:Nat} (h:Small f m) (hm:m<=n):Small f n:=⟨Nat.le_trans h.n' hm,Nat.le_trans h.ar hm,Nat.le_trans h.al hm,Nat.le_trans h.an hm,Nat.le_trans h.ca hm⟩
theorem wU (k:Int) (m:Nat):Small (qN k) m:=⟨Nat.zero_le _,Nat.zero_le _,Nat.zero_le _,Nat.zero_le _,Nat.zero_le _⟩
theorem pP {f:FX} {m:Nat} (h:Small f m) (x:Rx):Small (og f x) m:=⟨h.n',h.ar,h.al,h.an,h.ca⟩
theorem y0 {t:Tk} {S S':SX} {m:Nat} (h1:S.lo.length<=m) (h2:∀f∈S.lo,Small f (m+1)) (h3:Small S.tp (m+1)) (h4:S.tp.n<=m) (h:jN t S=some S'):Inv S' (m+1):=by
 have sn:∀f∈S.lo++[S.tp],Small f (m+1):=λf hf=>by
  rcases fW.1 hf with hf|hf
  .exact h2 f hf
  .simp at hf;subst hf;exact h3
 unfold jN at h
 split at h
 .cases h
  exact ⟨by show S.lo.length<=_;omega,h2,⟨by show S.tp.n+1<=_;omega,h3.ar,h3.al,h3.an,h3.ca⟩,λe=>(by simp at e),λe=>(by simp at e)⟩
 .split at h
  .cases h
   exact ⟨by simp;omega,sn,wU _ _,λe=>(by simp at e),λe=>(by simp at e)⟩
  .split at h
   .cases h
    exact ⟨by show S.lo.length<=_;omega,h2,pP h3 _,λe=>(by simp at e),λe=>(by simp at e)⟩
   .split at h
    .split at h
     .cases h
      exact ⟨by show S.lo.length<=_;omega,h2,pP h3 _,λe=>(by simp at e),λe=>(by simp at e)⟩
     .split at h
      .cases h
       exact ⟨by show S.lo.length<=_;omega,h2,pP h3 _,λe=>(by simp at e),λe=>(by simp at e)⟩
      .split at h
       .cases h
        exact ⟨by show S.lo.length<=_;omega,h2,h3,λe=>(by simp at e),λ_=>by show (0:Int)<=4;decide⟩
       .split at h
        .cases h
         exact ⟨by show S.lo.length<=_;omega,h2,h3,λe=>(by simp at e),λ_=>by show (0:Int)<=5;decide⟩
        .split at h
         .cases h
          exact ⟨by show S.lo.length<=_;omega,h2,h3,λe=>(by simp at e),λ_=>by show (0:Int)<=3;decide⟩
         .cases h
    .cases h
theorem AT {S S':SX} {l:List Rx} {m:Nat} (hS:Inv S m) (h:oD S l=some S'):Inv S' (m+1):=by
 unfold oD at h
 rcases pN S.lo with e|⟨a,g,e⟩
 .rw [e] at h;simp at h
 .rw [e] at h
  simp at h
  subst h
  have hl:=hS.lo
  rw [e] at hl
  simp at hl
  exact ⟨by show a.length<=_;omega,λf hf=>(hS.sl f (by rw [e];simp [hf])).mono (by omega),pP ((hS.sl g (by rw [e];simp)).mono (by omega)) _,λe=>(by simp at e),λe=>(by simp at e)⟩
theorem yP {s':Sl} {t:Tk} {S S':SX} {m:Nat} (hS:Inv S m) (h:jL s' t S=some S'):Inv S' (m+1):=by
 have rV:=hS.lo
 have JI:∀f∈S.lo,Small f (m+1):=λf hf=>(hS.sl f hf).mono (by omega)
 have Ar:Small S.tp (m+1):=hS.tp.mono (by omega)
 have hn:=hS.tp.n'
 unfold jL at h
 split at h
 .rename_i h2
  split at h
  .cases h
   refine ⟨by simp;omega,λf hf=>?_,wU _ _,λ_=>⟨hS.s2 h2,by simp⟩,λe=>(by simp at e)⟩
   rcases fW.1 hf with hf|hf
   .exact JI f hf
   .simp at hf;subst hf;exact Ar
  .cases h
 .rename_i h2
  split at h
  .split at h
   .exact AT hS h
   .exact y0 rV JI Ar hn h
  .rename_i h1
   split at h
   .exact y0 rV JI Ar hn h
   .split at h
    .cases h
     exact ⟨by show S.lo.length<=_;omega,JI,pP Ar _,λe=>absurd e h1,λe=>absurd e h2⟩
    .split at h
     .cases h
      refine ⟨by show S.lo.length<=_;omega,JI,⟨Nat.zero_le _,Ar.ar,Ar.al,?_,Nat.zero_le _⟩,λe=>(by simp at e),λe=>(by simp at e)⟩
      have:=hS.tp.an
      show (S.tp.an++[_]).length<=_
      simp;omega
     .split at h
      .cases h
       refine ⟨by show S.lo.length<=_;omega,JI,⟨Nat.zero_le _,Ar.ar,?_,Nat.zero_le _,Nat.zero_le _⟩,λe=>(by simp at e),λe=>(by simp at e)⟩
       have:=hS.tp.al
       show (S.tp.al++[_]).length<=_
       simp;omega
      .split at h
       .split at h
        .cases h
        .cases h
         refine ⟨by show S.lo.length<=_;omega,JI,⟨Nat.zero_le _,?_,Nat.zero_le _,Nat.zero_le _,Nat.zero_le _⟩,λe=>(by simp at e),λe=>(by simp at e)⟩
         have:=hS.tp.ar
         show (S.tp.ar.2++[_]).length<=_
         simp;omega
       .split at h
        .split at h
         .cases h
         .exact AT hS h
        .split at h
         .split at h
          .cases h
           exact ⟨by omega,JI,Ar,hS.s1,hS.s2⟩
          .cases h
         .refine y0 (S:=⟨S.lo,hC S.tp,S.st,S.wd⟩) rV JI ⟨Nat.zero_le _,Ar.ar,Ar.al,Ar.an,?_⟩ (Nat.zero_le _) h
          have:=hS.tp.ca
          show (S.tp.ca++[_]).length<=_
          simp;omega
theorem LQ {s':Sl} {t:Tk} {S:SX} (h:t.k=63):jL s' t S=none:=by
 have it:∀S,jN t S=none:=λS=>by
  unfold jN
  rw [h]
  rfl
 unfold jL
 rw [it,it,h]
 split
 .rfl
 .split
  .rfl
  .split
   .rfl
   .rfl
def oS (l:List UInt8):Nat->Nat->List Tk
 |0,_=>[]
 |n+1,i=>if i<l.length then (if l.getD i 0=32 then oS l n (i+1) else (mO l i).1::oS l n (i+(mO l i).2)) else [⟨36,0,0,[],l.length⟩]
def Ft:List Tk->SX->Int⊕SX->Prop
 |[],S,r=>r=.inr S
 |t::ts,S,r=>∃s',(jL s' t S=none/\r=.inl t.a)\/∃S',jL s' t S=some S'/\Ft ts S' r
theorem E4 {l:List UInt8} {i:Nat} (hi:i<l.length):1<=(mO l i).2/\i+(mO l i).2<=l.length:=by
 unfold mO
 split
 .simp;omega
 .split
  .rename_i h
   have e1:(l.drop i)=l.getD i 0::l.drop (i+1):=by
    rw [List.drop_eq_getElem_cons hi,List.getD_eq_getElem?_getD,g7 hi]
    rfl
   have h1:1<=((l.drop i).takeWhile mN).length:=by rw [e1,List.takeWhile_cons,if_pos h];simp
   have h2:((l.drop i).takeWhile mN).length<=(l.drop i).length:=(List.takeWhile_prefix (p:=mN) (l:=l.drop i)).length_le
   rw [qlD] at h2
   simp only
   omega
  .split
   .split
    .simp;omega
    .split
     .split
      .simp;omega
      .split
       .rename_i h;simp only;omega
       .simp;omega
     .simp;omega
   .split
    .rename_i hb
     have:=wg hb
     simp only
     omega
    .simp;omega
abbrev tkC (t:Tk):List Value:=[.int .u8 (t.k.toNat:Int),.int .u8 (t.lo.toNat:Int),.int .u8 (t.hi.toNat:Int),.string (ba t.s),.int .i64 t.a]
def AX:En:=⟨[],λ_=>True,λ_ _ _ h=>h,λ_ _ b hb=>by simp at hb,by simp⟩
abbrev KG (t2 t3 t4 D l_ bs:Nat) (s:ByteArray) (v3 v4:Value) (o:Obj):List En:=[.c t2 [.int .i64 0,.int .u8 0,.int .u8 0,.slice none 0 0] aB,.c t3 [v3] bW,.c t4 [v4] vO,.ob D (.deferred (some [])),.ob l_ o,.c bs [.string s] cF]
def PS (w0 w:World) (rb:Nat) (G:List En) (S:SX):Prop:=∃(sl:Sl) (fs:List FM) (f:FM) (ts:List Rt) (p:Addr),fs.map FM.x=S.lo/\f.x=S.tp/\(∀g∈fs++[f],∀t∈g.ts,t∈ts)/\sl.a=some p/\(∀b∈Rt.gN ts,w0.heap.size<=b)/\SF F0 w0 w rb sl S.st S.wd fs f G ts
def PE (w0 w:World) (rb:Nat) (G:List En):Prop:=∃(sl:Sl) (fs:List FM) (f:FM) (ts:List Rt) (st wd:Int),SF F0 w0 w rb sl st wd fs f G ts
section
variable {s:ByteArray} {w0:World} {rb t2 t3 t4 D l_ bs:Nat} {o_:LoopState->Option Code->Obj}
abbrev HYP (s:ByteArray) (rb t2 t3 t4 l_ bs:Nat) (o_:LoopState->Option Code->Obj):Prop:=
 ∀(Sc Sd Se:Int) (Sf:ByteArray) (Sg:Int) (w_:World) (K_:Bool->World->Prop),w_.heap[l_]? =some (o_ .ready none)->regex_Parse.Sk l_ o_ s (bD t2) (bD t3) (bD t4) (bD rb) (bD bs) Sc Sd Se Sf Sg w_ (λr_ w1=>∃b_:Bool,r_=.returned (.bool b_)/\K_ b_ w1)->W.xh Tryz.prog l_ #[.agg #[.int .u8 Sc,.int .u8 Sd,.int .u8 Se,.string Sf,.int .i64 Sg]] w_ K_
theorem Iq (hY:HYP s rb t2 t3 t4 l_ bs o_) {S:SX} {m:Nat} (hI:Inv S m) (hm:m<=900000) (t:Tk) {e:En} {w:World} (H:PS w0 w rb (KG t2 t3 t4 D l_ bs s (.int .i64 0) (.int .i64 0) (o_ .ready none)++[e]) S) {K:Bool->World->Prop}
  (Zb:∀w' s',jL s' t S=none->PE w0 w' rb (KG t2 t3 t4 D l_ bs s (.int .i64 t.a) (.int .i64 2) (o_ .done (some .ret))++[e])->K false w')
  (dP:∀w' s' S',jL s' t S=some S'->PS w0 w' rb (KG t2 t3 t4 D l_ bs s (.int .i64 0) (.int .i64 0) (o_ .ready none)++[e]) S'->K true w'):W.xh Tryz.prog l_ #[t.v] w K:=by
 obtain ⟨lo,tp,st,wd⟩:=S
 obtain ⟨sl,fs,f,ts,p,rV,Ar,h3,h4,hb,H⟩:=H
 have rV:fs.map FM.x=lo:=rV
 have Ar:f.x=tp:=Ar
 subst rV Ar
 refine hY _ _ _ _ _ w K (H.ob 7) ?_
 refine H.nw λw1 _ H1=>H1.st5 10 rfl λw2 H2=>H2.pu 7 rfl λw3 H3=>⟨_,_,_,_,_,H3.ld 10 0,H3.ld 10 1,H3.ld 10 2,H3.ld 10 3,H3.ld 10 4,?_⟩
 have X9:SF F0 w0 w3 rb sl st wd fs f (KG t2 t3 t4 D l_ bs s (.int .i64 0) (.int .i64 0) (o_ .busy none)++[e,.c w.heap.size (tkC t) fI]) ts:=H3
 refine X9.Ov h3 h4 (λoN s1=>SO s1 (Nat.le_trans hI.lo (by omega)) (hI.tp.mono (by omega)) hI.s1 t) ?_
 rintro r w4 XS Xr f4 p4 CC wd4 XY t4' HQ VK b4 ⟨s',TI⟩ H4
 rcases TI with ⟨hn,rfl⟩|⟨hs,rfl⟩
 .refine ⟨false,rfl,aS rfl ?_⟩
  refine H4.dr λw5 H5=>⟨t.a,H5.ld 10 4,H5.CC 3 rfl λw6 H6=>⟨H6.ld 10 4,H6.CS 4 rfl λw7 H7=>H7.CS 5 rfl λw8 H8=>H8.pu 7 rfl λw9 H9=>⟨false,rfl,Zb w9 s' hn ⟨XS,Xr,f4,XY,CC,wd4,?_⟩⟩⟩⟩
  exact H9.take 10
 .refine ⟨true,rfl,aM rfl (H4.pu 7 rfl λw5 H5=>⟨true,rfl,dP w5 s' _ hs ⟨XS,Xr,f4,XY,p4,rfl,rfl,HQ,VK,λb eC=>?_,H5.take 10⟩⟩)⟩
  rcases b4 b eC with h|h|h
  .exact hb b h
  .exact h
  .exact h.elim
def Ye (w0:World) (rb t2 t3 t4 D l_ bs:Nat) (s:ByteArray) (o_:LoopState->Option Code->Obj) (w':World):Int⊕SX->Prop
 |.inl a=>PE w0 w' rb (KG t2 t3 t4 D l_ bs s (.int .i64 a) (.int .i64 2) (o_ .done (some .ret)))
 |.inr S=>PS w0 w' rb (KG t2 t3 t4 D l_ bs s (.int .i64 0) (.int .i64 0) (o_ .ready none)) S
theorem T5 (hs:s.size<=4096) (hY:HYP s rb t2 t3 t4 l_ bs o_) (R:aD):∀(n i m:Nat) (S:SX) (w:World),s.size - i<n->i<=s.size->Inv S m->m+n<=900000->
  PS w0 w rb (KG t2 t3 t4 D l_ bs s (.int .i64 0) (.int .i64 0) (o_ .ready none)) S->
  (∀w' res,Ft (oS (bl s) n i) S res->Ye w0 rb t2 t3 t4 D l_ bs s o_ w' res->R (.returned (.tuple #[])) w')->regex_tokens_1.L0 l_ (bD bs) (i:Int) w R:=by
 intro n
 induction n with
 |zero=>intro i m S w h;omega
 |succ n ih=>
  intro i m S w hn hi hI hm hP hR
  have hl:(bl s).length=s.size:=hV s
  have hP0:=hP
  obtain ⟨sl,fs,f,ts,p,rV,Ar,h3,h4,hb,H⟩:=hP0
  refine regex_tokens_1.cO _ _ _ _ _ ⟨s,H.Gs 8,aK (λh=>⟨s,H.Gs 8,by omega,_,wS (i:=i) (by omega),l5 (n:=32) (by omega) (λhc:(bl s).getD i 0=32=>?_) (λhc:(bl s).getD i 0≠32=>⟨s,H.Gs 8,H.call (Jg s (by omega) i (by omega) w) ?_⟩)⟩) (λh=>⟨s,H.Gs 8,?_⟩)⟩
  .rw [show IntKind.wrap .i64 ((i:Int)+1)=((i+1:Nat):Int) by rw [IntWalk.i64_in _ (by omega)];omega]
   refine ih (i+1) m S w (by omega) (by omega) hI (by omega) hP (λw' res hr he=>hR w' res ?_ he)
   unfold oS
   rw [if_pos (by omega),if_pos hc]
   exact hr
  .rintro _ w1 rfl H1
   have Wc:=E4 (l:=bl s) (i:=i) (by omega)
   have et:oS (bl s) (n+1) i=(mO (bl s) i).1::oS (bl s) n (i+(mO (bl s) i).2):=by
    rw [oS,if_pos (by omega),if_neg hc]
   rw [et] at hR
   refine ⟨_,_,_,_,_,_,rfl,H1.nw λw2 _ H2=>H2.st5 9 rfl λw7 H7=>⟨_,_,_,_,_,H7.ld 9 0,H7.ld 9 1,H7.ld 9 2,H7.ld 9 3,H7.ld 9 4,?_⟩⟩
   have H7':SF F0 w0 w7 rb sl S.st S.wd fs f (KG t2 t3 t4 D l_ bs s (.int .i64 0) (.int .i64 0) (o_ .ready none)++[.c w1.heap.size (tkC (mO (bl s) i).1) fI]) ts:=H7
   refine Iq hY hI (by omega) (mO (bl s) i).1 (e:=.c w1.heap.size (tkC (mO (bl s) i).1) fI) ⟨sl,fs,f,ts,p,rV,Ar,h3,h4,hb,H7'⟩ (λw8 s' wD hE=>aS rfl (hR w8 (.inl (mO (bl s) i).1.a) ⟨s',.inl ⟨wD,rfl⟩⟩ ?_)) (λw8 s' S' JM hE=>aM rfl ?_)
   .obtain ⟨Uc,Tm,f8,Ur,XT,wd8,H8⟩:=hE
    exact ⟨Uc,Tm,f8,Ur,XT,wd8,H8.take 9⟩
   .obtain ⟨Uc,Tm,f8,Ur,p8,TD,TJ,YS,YT,Za,H8⟩:=hE
    refine ⟨_,H8.ld 9 0,l5 (n:=63) (by omega) (λhk:(mO (bl s) i).1.k=63=>?_) (λhk=>?_)⟩
    .rw [LQ hk] at JM;cases JM
    .rw [show IntKind.wrap .i64 ((i:Int)+((mO (bl s) i).2:Int))=((i+(mO (bl s) i).2:Nat):Int) by rw [IntWalk.i64_in _ (by omega)];omega]
     refine ih (i+(mO (bl s) i).2) (m+1) S' w8 (by omega) (by omega) (yP hI JM) (by omega) ⟨Uc,Tm,f8,Ur,p8,TD,TJ,YS,YT,Za,H8.take 9⟩ (λw' res hr he=>hR w' res ⟨s',.inr ⟨S',JM,hr⟩⟩ he)
  .have et:oS (bl s) (n+1) i=[⟨36,0,0,[],(bl s).length⟩]:=by
    rw [oS,if_neg (by omega)]
   rw [et,hl] at hR
   have H1:=H.push AX (Fr.refl _ _) trivial (λb hb=>by cases hb)
   refine Iq hY hI (by omega) ⟨36,0,0,[],(s.size:Int)⟩ (e:=AX) ⟨sl,fs,f,ts,p,rV,Ar,h3,h4,hb,H1⟩ (λw8 s' wD hE=>hR w8 (.inl (s.size:Int)) ⟨s',.inl ⟨wD,rfl⟩⟩ ?_) (λw8 s' S' JM hE=>hR w8 (.inr S') ⟨s',.inr ⟨S',JM,rfl⟩⟩ ?_)
   .obtain ⟨Uc,Tm,f8,Ur,XT,wd8,H8⟩:=hE
    exact ⟨Uc,Tm,f8,Ur,XT,wd8,H8.take 9⟩
   .obtain ⟨Uc,Tm,f8,Ur,p8,TD,TJ,YS,YT,Za,H8⟩:=hE
    exact ⟨Uc,Tm,f8,Ur,p8,TD,TJ,YS,YT,Za,H8.take 9⟩
end
theorem ry:∀(a b:List Rx),Rx.fL (a++b)=Rx.fL a+Rx.fL b
 |[],b=>by simp [Rx.fL]
 |x::a,b=>by
  have:=ry a b
  show x.sz+Rx.fL (a++b)=(x.sz+Rx.fL a)+Rx.fL b
  omega
theorem pg (x:Rx):Rx.fL [x]=x.sz:=by simp [Rx.fL]
theorem GA (k:Int) (l:List Rx):(Cm k l).sz<=1+Rx.fL l:=by
 unfold Cm
 split
 .rw [pg];omega
 .unfold Rx.sz;omega
theorem Gx:∀(n:Nat) (r:Rx),(Av n r).sz=n+r.sz
 |0,r=>by unfold Av;omega
 |n+1,r=>by
  unfold Av
  rw [Gx n]
  unfold Rx.sz
  rw [pg]
  cases r
  simp only [Rx.sz]
  omega
def fz (f:FX):Nat:=Rx.fL f.ar.2+Rx.fL f.al+Rx.fL f.an+Rx.fL f.ca+f.n
def lz:List FX->Nat
 |[]=>0
 |f::l=>fz f+lz l
theorem Ch:∀(a b:List FX),lz (a++b)=lz a+lz b
 |[],b=>by simp [lz]
 |x::a,b=>by
  have:=Ch a b
  show fz x+lz (a++b)=(fz x+lz a)+lz b
  omega
def pz (S:SX):Nat:=lz S.lo+fz S.tp+(if S.st=0\/S.st=1\/S.st=2 then 0 else S.tp.la.sz)
theorem MW (S:SX):pz S<=lz S.lo+fz S.tp+S.tp.la.sz:=by unfold pz;split<;>omega
theorem WL (S:SX):lz S.lo+fz S.tp<=pz S:=by unfold pz;omega
theorem vG {S:SX} (h:S.st=0\/S.st=1\/S.st=2):pz S=lz S.lo+fz S.tp:=by unfold pz;rw [if_pos h];omega
theorem RB {S:SX} (h:¬(S.st=0\/S.st=1\/S.st=2)):pz S=lz S.lo+fz S.tp+S.tp.la.sz:=by unfold pz;rw [if_neg h]
theorem O4 (f:FX):fz (hC f)=fz f+f.la.sz:=by
 unfold fz hC
 simp only [ry,pg,Gx]
 omega
theorem M9 (f:FX):fz (kL f)<=fz f+f.la.sz+1:=by
 have h:=GA 3 (f.ca++[Av f.n f.la])
 simp only [ry,pg,Gx] at h
 show Rx.fL f.ar.2+Rx.fL f.al+Rx.fL (f.an++[Cm 3 (f.ca++[Av f.n f.la])])+Rx.fL []+0<=_
 unfold fz
 simp only [ry,pg,Rx.fL]
 omega
theorem HD (f:FX):Rx.fL f.ar.2+Rx.fL (iT f).al<=fz f+f.la.sz+2:=by
 have h:=GA 5 (kL f).an
 have h2:=M9 f
 have e:fz (kL f)=Rx.fL f.ar.2+Rx.fL f.al+Rx.fL (kL f).an+0+0:=rfl
 show Rx.fL f.ar.2+Rx.fL (f.al++[Cm 5 (kL f).an])<=_
 simp only [ry,pg]
 omega
theorem LA (f:FX):fz (iT f)<=fz f+f.la.sz+2:=by
 have:=HD f
 show Rx.fL f.ar.2+Rx.fL (iT f).al+Rx.fL []+Rx.fL []+0<=_
 simp only [Rx.fL]
 omega
theorem B4 (f:FX):Rx.fL f.ar.2+(iI f).sz<=fz f+f.la.sz+3:=by
 have h:=GA 4 (iT f).al
 have:=HD f
 show _+(Cm 4 (iT f).al).sz<=_
 omega
theorem Cf {t:Tk} {S S':SX} (h:jN t S=some S'):pz S'<=lz S.lo+fz S.tp+1:=by
 have leaf:∀(k:Int) (a b:UInt8),(Rx.mk k a b []).sz=1:=λk a b=>by unfold Rx.sz;simp [Rx.fL]
 unfold jN at h
 split at h
 .cases h
  rw [vG (.inl rfl)]
  show lz S.lo+(Rx.fL S.tp.ar.2+Rx.fL S.tp.al+Rx.fL S.tp.an+Rx.fL S.tp.ca+(S.tp.n+1))<=_
  unfold fz;omega
 .split at h
  .cases h
   rw [vG (.inl rfl)]
   show lz (S.lo++[S.tp])+fz (qN (-1))<=_
   rw [Ch]
   have:fz (qN (-1))=0:=rfl
   simp only [lz];omega
  .have la:∀(k:Int) (a b:UInt8),pz ⟨S.lo,og S.tp (.mk k a b []),3,S.wd⟩<=lz S.lo+fz S.tp+1:=λk a b=>by
    refine Nat.le_trans (MW _) ?_
    show lz S.lo+fz S.tp+(Rx.mk k a b []).sz<=_
    rw [leaf];exact Nat.le_refl _
   split at h
   .cases h
    exact la _ _ _
   .split at h
    .split at h
     .cases h;exact la _ _ _
     .split at h
      .cases h;exact la _ _ _
      .split at h
       .cases h;rw [vG (.inr (.inr rfl))];show lz S.lo+fz S.tp<=_;omega
       .split at h
        .cases h;rw [vG (.inr (.inr rfl))];show lz S.lo+fz S.tp<=_;omega
        .split at h
         .cases h;rw [vG (.inr (.inr rfl))];show lz S.lo+fz S.tp<=_;omega
         .cases h
    .cases h
theorem Dt {S S':SX} {l:List Rx} (h:oD S l=some S'):pz S'<=lz S.lo+Rx.fL l+1:=by
 unfold oD at h
 rcases pN S.lo with e|⟨a,g,e⟩
 .rw [e] at h;simp at h
 .rw [e] at h ⊢
  simp at h
  subst h
  refine Nat.le_trans (MW _) ?_
  show lz a+fz g+(Lt S.tp.k l).sz<=_
  rw [Ch]
  have:(Lt S.tp.k l).sz<=Rx.fL l+1:=by
   unfold Lt
   split
   .cases l with
    |nil=>exact (by show wI.sz<=_;unfold wI Rx.sz;simp [Rx.fL])
    |cons x l=>show x.sz<=_;unfold Rx.fL;omega
   .unfold Rx.sz;omega
  simp only [lz];omega
theorem OB {s':Sl} {t:Tk} {S S':SX} (h:jL s' t S=some S'):pz S'<=pz S+4:=by
 have Ao:=WL S
 unfold jL at h
 split at h
 .split at h
  .cases h
   rw [vG (.inr (.inl rfl))]
   show lz (S.lo++[S.tp])+fz (qN S.wd)<=_
   rw [Ch]
   have:fz (qN S.wd)=0:=rfl
   simp only [lz];omega
  .cases h
 .rename_i h2
  split at h
  .split at h
   .have:=Dt h;simp only [Rx.fL] at this;omega
   .have:=Cf h;omega
  .rename_i h1
   split at h
   .have:=Cf h;omega
   .rename_i h0
    have HW:=RB (S:=S) (by rintro (e|e|e)<;>contradiction)
    split at h
    .cases h
     refine Nat.le_trans (MW _) ?_
     show lz S.lo+fz S.tp+(Rx.mk 7 0 0 [S.tp.la]).sz<=_
     have:(Rx.mk 7 0 0 [S.tp.la]).sz=1+S.tp.la.sz:=by show 1+Rx.fL [S.tp.la]=_;rw [pg]
     omega
    .split at h
     .cases h
      rw [vG (.inl rfl)]
      show lz S.lo+fz (kL S.tp)<=_
      have:=M9 S.tp;omega
     .split at h
      .cases h
       rw [vG (.inl rfl)]
       show lz S.lo+fz (iT S.tp)<=_
       have:=LA S.tp;omega
      .split at h
       .split at h
        .cases h
        .cases h
         rw [vG (.inl rfl)]
         show lz S.lo+(Rx.fL (S.tp.ar.2++[iI S.tp])+Rx.fL []+Rx.fL []+Rx.fL []+0)<=_
         have:=B4 S.tp
         simp only [ry,pg,Rx.fL];omega
       .split at h
        .split at h
         .cases h
         .have h5:=Dt h
          have:=B4 S.tp
          simp only [ry,pg] at h5;omega
        .split at h
         .split at h
          .cases h;omega
          .cases h
         .have h5:=Cf h
          have:=O4 S.tp
          have e:lz (SX.mk S.lo (hC S.tp) S.st S.wd).lo+fz (SX.mk S.lo (hC S.tp) S.st S.wd).tp=lz S.lo+fz (hC S.tp):=rfl
          omega
theorem LR {s':Sl} {a:Int} {S S':SX} (h:jL s' ⟨36,0,0,[],a⟩ S=some S'):S'=S/\¬(S.st=0\/S.st=1\/S.st=2):=by
 have it:∀S,jN ⟨36,0,0,[],a⟩ S=none:=λS=>rfl
 unfold jL at h
 rw [it] at h
 split at h
 .cases h
 .split at h
  .cases h
  .split at h
   .cases h
   .refine ⟨?_,by rintro (e|e|e)<;>contradiction⟩
    have h':(if S.lo=[] then some S else none)=some S':=h
    split at h'
    .cases h';rfl
    .cases h'
theorem GQ (l:List UInt8):∀(n i:Nat) (S S':SX),l.length - i<n->Ft (oS l n i) S (.inr S')->(iI S'.tp).sz<=pz S+4 *n+4
 |0,i,S,S',h,_=>by omega
 |n+1,i,S,S',h,hr=>by
  unfold oS at hr
  split at hr
  .split at hr
   .have:=GQ l n (i+1) S S' (by omega) hr
    omega
   .rename_i hi _
    have hp:=E4 hi
    obtain ⟨s',⟨_,hx⟩|⟨S1,h1,h2⟩⟩:=hr
    .cases hx
    .have:=GQ l n (i+(mO l i).2) S1 S' (by omega) h2
     have:=OB h1
     omega
  .obtain ⟨s',⟨_,hx⟩|⟨S1,h1,h2⟩⟩:=hr
   .cases hx
   .have e:S'=S1:=by have:Sum.inr S'=(Sum.inr S1:Int⊕SX):=h2;cases this;rfl
    obtain ⟨e1,e2⟩:=LR h1
    subst e e1
    have:=RB e2
    have:=B4 S'.tp
    omega
theorem Pg {M:Nat->Prop} {w0 w:World} {L D:List En} (H:LH M w0 w L D) (is js:List Nat) (hp:is.Perm js) (hL:js.map (λk=>L.getD k AX)=L):LH M w0 w (is.map λk=>L.getD k AX) D:=by
 have h:(is.map λk=>L.getD k AX).Perm L:=by
  have:=hp.map (λk=>L.getD k AX)
  rwa [hL] at this
 exact ⟨H.fr,λe he=>H.own e (h.mem_iff.1 he),H.rd,λe he=>H.new e (h.mem_iff.1 he),((h.flatMap_right _).nodup_iff).2 H.nd,λe he b hb e' mJ=>H.dj e he b hb e' (h.mem_iff.1 mJ)⟩
theorem GG {w2:World} {l:Nat} {o:LoopState->Option Code->Obj} {N:World->Prop} {X:Nat->World->Prop} {T:World->Prop} (h:KA w2 l (o .ready none) (o .exhausted none) N):uI w2 l o N X T:=.inl h
theorem GH {w2:World} {l:Nat} {o:LoopState->Option Code->Obj} {N:World->Prop} {X:Nat->World->Prop} {T:World->Prop} (h:KA w2 l (o .done (some .ret)) (o .exhausted (some .ret)) T):uI w2 l o N X T:=.inr (.inr h)
theorem Rr {b:Nat} (h:b∈Rt.gN [.mk 0 0 0 ⟨none,0,0⟩ []]):False:=by
 have:=vp (ts:=[]) (k:=0) (lo:=0) (hi:=0) (b:=b) h
 unfold Rt.gN at this
 cases this
def U1:SX:=⟨[],qN (-1),0,0⟩
theorem Wk:Inv U1 0:=by
 refine ⟨Nat.le_refl _,λf hf=>?_,wU _ _,λe=>?_,λe=>?_⟩
 .cases hf
 .have:(0:Int)=1:=e
  omega
 .have:(0:Int)=2:=e
  omega
theorem Cw (l:List UInt8):∀(n i m:Nat) (S S':SX),Inv S m->Ft (oS l n i) S (.inr S')->Inv S' (m+n)
 |0,i,m,S,S',hI,hr=>by
  have e:(Sum.inr S':Int⊕SX)=.inr S:=hr
  cases e
  exact hI
 |n+1,i,m,S,S',hI,hr=>by
  have up:∀{S:SX} {a b:Nat},Inv S a->a<=b->Inv S b:=λh Jw=>⟨Nat.le_trans h.lo Jw,λf hf=>(h.sl f hf).mono Jw,h.tp.mono Jw,h.s1,h.s2⟩
  unfold oS at hr
  split at hr
  .split at hr
   .exact up (Cw l n _ m S S' hI hr) (by omega)
   .obtain ⟨s',⟨_,hx⟩|⟨S1,h1,h2⟩⟩:=hr
    .cases hx
    .exact up (Cw l n _ (m+1) S1 S' (yP hI h1) h2) (by omega)
  .obtain ⟨s',⟨_,hx⟩|⟨S1,h1,h2⟩⟩:=hr
   .cases hx
   .have e:(Sum.inr S':Int⊕SX)=.inr S1:=h2
    cases e
    exact up (yP hI h1) (by omega)
def Sr (w:World) (s:ByteArray):aD:=λr w'=>bF w w'/\
 ((4096<s.size/\r=.returned (.tuple #[.agg #[.int .i64 0,.int .u8 0,.int .u8 0,.slice none 0 0],.int .i64 4096,.int .i64 4]))\/
  (s.size<=4096/\∃res,Ft (oS (bl s) (s.size+1) 0) U1 res/\((∃a,res=.inl a/\r=.returned (.tuple #[.agg #[.int .i64 0,.int .u8 0,.int .u8 0,.slice none 0 0],.int .i64 a,.int .i64 2]))\/
   ∃S',res=.inr S'/\((64<(iI S'.tp).sz/\r=.returned (.tuple #[.agg #[.int .i64 0,.int .u8 0,.int .u8 0,.slice none 0 0],.int .i64 (s.size:Int),.int .i64 4]))\/
    ((iI S'.tp).sz<=64/\∃t:Rt,r=.returned (.tuple #[t.v,.int .i64 0,.int .i64 0])/\t.rx=iI S'.tp/\t.P w'/\∀b∈t.fp,w.heap.size<=b)))))
theorem Oh (s:ByteArray) (w:World):Calls Tryz.prog qv #[.string s] w (Sr w s):=by
 refine regex_Parse.ok _ w _ ((mf [] (λ_ h=>by cases h)).nw λw1 _ H1=>H1.nw λw2 _ H2=>H2.nw λw3 _ H3=>aK (λh=>?_) (λh=>?_))
 .refine H3.CC 0 rfl λw4 H4=>H4.CS 1 rfl λw5 H5=>H5.CS 2 rfl λw6 H6=>⟨_,_,_,⟨none,0,0⟩,H6.ld 0 0,H6.ld 0 1,H6.ld 0 2,H6.ld 0 3,_,H6.Gs 1,_,H6.Gs 2,H6.fr,.inl ⟨by omega,rfl⟩⟩
 have hs:s.size<=4096:=by omega
 have hl:(bl s).length=s.size:=hV s
 refine H3.gZ (e:=b0) (sz:=10) (n:=1) (cs:=(ov (-1)).c) rfl (by decide) λpT mg=>mg.nw λrQ _ qn=>?_
 refine qn.CS 4 rfl λqW pV=>pV.st 4 1 rfl λuF rG=>rG.st 4 2 rfl λCV qD=>?_
 refine regex_tokens.ok _ CV _ (qD.nw λAz _ vS=>⟨_,rfl,?_⟩)
 show ∀o_:LoopState->Option Code->Obj,_
 intro o_ hY
 have e1:(Az.alloc (.deferred (some []))).heap.size=Az.heap.size+1:=size_alloc _ _
 have HG:=(vS.alloc (.deferred (some []))).alloc (o_ .ready none)
 rw [e1] at HG
 have hP:(En.rows (([]++[ov (-1)]:List FM).flatMap FM.rows)).P ((Az.alloc (.deferred (some []))).alloc (o_ .ready none)):=by
  refine ⟨λq hq=>?_,by decide⟩
  have hq:q∈[((⟨none,0,0⟩,[]):kT),(⟨none,0,0⟩,[]),(⟨none,0,0⟩,[]),(⟨none,0,0⟩,[])]:=hq
  simp only [cU,qnM,or_false,or_self] at hq
  subst hq
  exact aO.nil _ _ _
 have Ha:=(HG.push (.rows (([]++[ov (-1)]:List FM).flatMap FM.rows)) (Fr.refl _ _) hP (λb hb=>by
  have hb:=aI.1 hb
  have hb:b∈([]:List Nat):=hb
  cases hb)).oe (.trees [.mk 0 0 0 ⟨none,0,0⟩ []]) (Fr.refl _ _) (Rt.ox λt ht=>by
   simp at ht;subst ht
   show Rt.P _ _
   unfold Rt.P Rt.Ps
   exact ⟨jJ.nil 4 _,trivial⟩) (λb hb=>by
    exact (Rr (aI.1 hb)).elim)
 have Hb:=Pg Ha [4,3,8,0,1,2,6,7,5] [0,1,2,3,4,5,6,7,8] (by decide) rfl
 have HS:SF F0 w ((Az.alloc (.deferred (some []))).alloc (o_ .ready none)) pT.heap.size ⟨some (bD w3.heap.size),1,1⟩ 0 0 [] (ov (-1)) (KG w.heap.size w1.heap.size w2.heap.size Az.heap.size (Az.heap.size+1) CV.heap.size s (.int .i64 0) (.int .i64 0) (o_ .ready none)) [.mk 0 0 0 ⟨none,0,0⟩ []]:=Hb
 refine regex_tokens_1.ok _ _ _ _ (T5 (w0:=w) (rb:=pT.heap.size) (t2:=w.heap.size) (t3:=w1.heap.size) (t4:=w2.heap.size) (D:=Az.heap.size) (l_:=Az.heap.size+1) (bs:=CV.heap.size) hs hY _ (s.size+1) 0 0 U1 _ (by omega) (by omega) Wk (by omega)
  ⟨_,[],ov (-1),_,_,rfl,rfl,λg hg t ht=>?_,rfl,λb hb=>?_,HS⟩ (λw' res hr he=>⟨⟨_,rfl⟩,?_⟩))
 .simp at hg;subst hg
  simpa [FM.ts,ov] using ht
 .exact (Rr hb).elim
 cases res with
 |inl a=>
  obtain ⟨sl,fs,f,ts,st,wd,H⟩:=he
  refine GH (H.pu 7 rfl λrQ qn=>qn.pu 6 rfl λAz vS=>⟨_,_,_,⟨none,0,0⟩,vS.ld 3 0,vS.ld 3 1,vS.ld 3 2,vS.ld 3 3,_,vS.Gs 4,_,vS.Gs 5,vS.fr,.inr ⟨hs,_,hr,.inl ⟨a,rfl,rfl⟩⟩⟩)
 |inr S'=>
  obtain ⟨sl,fs,f,ts,p,rV,Ar,h3,h4,hb,H⟩:=he
  have hI:=Cw _ _ _ _ _ _ Wk hr
  have me:=GQ _ _ _ _ _ (by omega) hr
  rw [show pz U1=0 from rfl] at me
  have hfl:fs.length<=1000000:=by
   have:=hI.lo
   rw [<-rV] at this
   simp at this
   omega
  refine GG (H.pu 7 rfl λw5 H5=>?_)
  have H5':SF F0 w w5 pT.heap.size sl S'.st S'.wd fs f (KG w.heap.size w1.heap.size w2.heap.size Az.heap.size (Az.heap.size+1) CV.heap.size s (.int .i64 0) (.int .i64 0) (o_ .exhausted none)) ts:=H5
  refine H5'.call (Hy H5' h4 hfl) ?_
  rintro _ w6 rfl H6
  have H6':SF F0 w w6 pT.heap.size sl S'.st S'.wd fs f (KG w.heap.size w1.heap.size w2.heap.size Az.heap.size (Az.heap.size+1) CV.heap.size s (.int .i64 0) (.int .i64 0) (o_ .exhausted none)) ts:=H6
  refine ⟨_,rfl,H6'.Ov h3 h4 (λoN s1=>te s1 (by rw [Ar];exact hI.tp.mono (by omega))) ?_⟩
  rintro r w7 Bw yT f3 p3 lO CM xK t3 n7 tD uK ⟨UN,qV,jd,rfl,rfl,u,hu,rfl,hx⟩ H7
  rw [Ar] at hx
  have aaB:u.sz=(iI S'.tp).sz:=by rw [<-hx,Rt.hM]
  refine ⟨_,_,_,u.s,rfl,H7.nw λw8 _ H8=>H8.CC 9 rfl λw9 H9=>⟨_,_,_,u.s,H9.ld 9 0,H9.ld 9 1,H9.ld 9 2,H9.ld 9 3,H9.call (tV u w9 (by omega) ((show Rt.Ps w9 xK from H9.getD 0).mem hu)) ?_⟩⟩
  rintro _ qW rfl pV
  refine ⟨_,rfl,aK (λGe=>?_) (λO1=>?_)⟩
  .refine pV.CC 3 rfl λuF rG=>rG.CS 4 rfl λCV qD=>qD.CS 5 rfl λKl yl=>yl.pu 6 rfl λKm xi=>⟨_,_,_,⟨none,0,0⟩,xi.ld 3 0,xi.ld 3 1,xi.ld 3 2,xi.ld 3 3,_,xi.Gs 4,_,xi.Gs 5,xi.fr,.inr ⟨hs,_,hr,.inr ⟨S',rfl,.inl ⟨by omega,rfl⟩⟩⟩⟩
  .refine ⟨_,_,_,u.s,pV.ld 9 0,pV.ld 9 1,pV.ld 9 2,pV.ld 9 3,pV.CC 3 rfl λuF rG=>rG.CS 4 rfl λCV qD=>qD.CS 5 rfl λKl yl=>yl.pu 6 rfl λKm xi=>⟨_,_,_,u.s,xi.ld 3 0,xi.ld 3 1,xi.ld 3 2,xi.ld 3 3,_,xi.Gs 4,_,xi.Gs 5,xi.fr,.inr ⟨hs,_,hr,.inr ⟨S',rfl,.inr ⟨by omega,u,rfl,hx,(show Rt.Ps Km xK from xi.getD 0).mem hu,λb OQ=>?_⟩⟩⟩⟩⟩
   rcases uK b (Rt.bC.2 ⟨u,hu,OQ⟩) with h|h|h
   .exact hb b h
   .exact h
   .exact h.elim
def zSl:Sl:=⟨none,0,0⟩
def er (f:FX):FX:=⟨f.k,(zSl,f.ar.2),f.al,f.an,f.ca,f.n,f.la⟩
def wq (S:SX):SX:=⟨S.lo.map er,er S.tp,S.st,S.wd⟩
theorem Ce (t:Tk) (S:SX):(jN t S).map wq=jN t (wq S):=by
 have e1:er (qN (-1))=qN (-1):=rfl
 have e2:(S.lo++[S.tp]).map er=S.lo.map er++[er S.tp]:=by simp
 unfold jN
 split
 .rfl
 .split
  .simp only [Option.map_some,wq,e1,e2]
  .split
   .rfl
   .split
    .split
     .rfl
     .split
      .rfl
      .split
       .rfl
       .split
        .rfl
        .split<;>rfl
    .rfl
theorem Ds (S:SX) (l:List Rx):(oD S l).map wq=oD (wq S) l:=by
 unfold oD
 rcases pN S.lo with e|⟨a,g,e⟩
 .simp [e,wq]
 .have e':(wq S).lo=a.map er++[er g]:=by simp [wq,e]
  rw [e,e']
  simp [wq]
  rfl
theorem HJ (s':Sl) (t:Tk) (S:SX):(jL s' t S).map wq=jL zSl t (wq S):=by
 have e2:(S.lo++[S.tp]).map er=S.lo.map er++[er S.tp]:=by simp
 have c1:(wq S).st=S.st:=rfl
 have c2:(wq S).tp.k=S.tp.k:=rfl
 unfold jL
 rw [c1,c2]
 by_cases h2:S.st=2
 .rw [if_pos h2,if_pos h2]
  split
  .show some (wq ⟨S.lo++[S.tp],qN S.wd,1,S.wd⟩)=some ⟨S.lo.map er++[er S.tp],qN S.wd,1,S.wd⟩
   rw [<-e2];rfl
  .rfl
 rw [if_neg h2,if_neg h2]
 split
 .split
  .exact Ds S []
  .exact Ce t S
 .split
  .exact Ce t S
  .split
   .rfl
   .split
    .rfl
    .split
     .rfl
     .split
      .split<;>rfl
      .split
       .by_cases e:S.lo=[]
        .rw [if_pos e,if_pos (show (wq S).lo=[] by simp [wq,e])];rfl
        .rw [if_neg e,if_neg (show ¬(wq S).lo=[] by simp [wq,e])];exact Ds S _
       .split
        .by_cases e:S.lo=[]
         .rw [if_pos e,if_pos (show (wq S).lo=[] by simp [wq,e])];rfl
         .rw [if_neg e,if_neg (show ¬(wq S).lo=[] by simp [wq,e])];rfl
        .exact Ce t ⟨S.lo,hC S.tp,S.st,S.wd⟩
def M4:List Tk->SX->Int⊕SX
 |[],S=>.inr S
 |t::ts,S=>match jL zSl t S with
  |none=>.inl t.a
  |some S'=>M4 ts S'
def erR:Int⊕SX->Int⊕SX
 |.inl a=>.inl a
 |.inr S=>.inr (wq S)
theorem M5:∀(ts:List Tk) (S:SX) (r:Int⊕SX),Ft ts S r->erR r=M4 ts (wq S)
 |[],S,r,h=>by
  have h:r=.inr S:=h
  subst h;rfl
 |t::ts,S,r,h=>by
  obtain ⟨s',⟨h1,h2⟩|⟨S1,h1,h2⟩⟩:=h
  .subst h2
   have:=HJ s' t S
   rw [h1] at this
   unfold M4
   rw [<-this]
   rfl
  .have:=HJ s' t S
   rw [h1] at this
   unfold M4
   rw [<-this]
   exact M5 ts S1 r h2
def R7 (l:List UInt8):Int⊕SX:=M4 (oS l (l.length+1) 0) U1
theorem Ut {s:ByteArray} {r:Int⊕SX} (h:Ft (oS (bl s) (s.size+1) 0) U1 r):erR r=R7 (bl s):=by
 have:=M5 _ _ _ h
 rw [this]
 unfold R7
 rw [hV]
 rfl
theorem B3 (S:SX):iI (wq S).tp=iI S.tp:=rfl
end Go.Proofs.YtcifihepfadgfaaGreatDoor

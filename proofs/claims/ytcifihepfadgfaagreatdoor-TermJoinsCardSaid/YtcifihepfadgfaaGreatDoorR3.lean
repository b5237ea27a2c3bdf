import Derived.Test.YtcifihepfadgfaaGreatDoorR1
import Derived.Test.YtcifihepfadgfaaGreatDoorVB
import Derived.Laws.StandIn
import Derived.Lib.Bytealg
set_option linter.unusedVariables false
namespace Go.Proofs.YtcifihepfadgfaaGreatDoor
open List renaming mem_append->fS,mem_cons->cS,not_mem_nil->fF,mem_of_getElem?->cR,getElem?_eq_getElem->g8,getElem?_eq_some_iff->ov,mem_append_left->qf,mem_append_right->uD,mem_flatMap->mI,length_drop->Tg,flatMap_append->r8,flatMap_cons->vw,mem_iff_getElem?->LO,nodup_append->Bj,append_nil->Cf,map_append->yJ,getElem?_set_self->tD
open Go Go.W
abbrev ln:=Sl×List Value
def _root_.Go.W.En.rows (rs:List ln):En:=⟨Jy (rs.flatMap λp:ln=>aZ p.1),λw=>(∀p∈rs,aO w aB 4 p.1 p.2)/\(rs.flatMap λp:ln=>aZ p.1).Nodup,
 λw w' h hp=>⟨λp hm=>(hp.1 p hm).gY λb hb hl=>h b (aH.2 (mI.2 ⟨p,hm,hb⟩)) hl,hp.2⟩,
 λw hp b hb=>by
  obtain ⟨p,hm,hb⟩:=mI.1 (aH.1 hb)
  exact (hp.1 p hm).lt b hb,l8 _⟩
theorem FQ (rs:List ln) (hr:rs≠[]) (w:World) (b:Nat) (hb:b∈(En.rows rs).fp):¬(En.rows rs).P ({w with heap:=Array.replicate (b+1) (.map #[] 0)}):=by
 rintro ⟨h,_⟩
 obtain ⟨p,hm,hb⟩:=mI.1 (aH.1 hb)
 obtain ⟨cs,f,hc⟩:=(h p hm).row.VT b hb
 simp at hc
section
variable {M:Nat->Prop} {w0 w:World} {L D:List En} {bs:List Nat}
theorem zG (H:LH M w0 w L D) {i:Nat} {rs:List ln} (hi:L[i]? =some (.rows rs)) {b:Nat} (hb:En.g b∈L):b∉(En.rows rs).fp:=by
 intro hm
 obtain ⟨j,hj⟩:=LO.1 hb
 by_cases yG:i=j
 .subst yG
  rw [hi] at hj
  have e1:En.rows rs=En.g b:=Option.some.inj hj
  have ie:rs≠[]:=by
   rintro rfl
   simp [En.rows,Jy] at hm
  refine FQ rs ie w b hm ?_
  rw [e1]
  show b<_
  simp
 .exact pQ H.nd hi hj yG b hm (by simp [En.g])
theorem M5 {rs:List ln} {j:Nat} {s s':Sl} {vs AL:List Value} (hj:rs[j]? =some (s,vs)) (hn:(rs.flatMap λp:ln=>aZ p.1).Nodup) (hs:(aZ s').Nodup) (hx:∀x∈aZ s',x∈aZ s\/x∉rs.flatMap λp:ln=>aZ p.1):((rs.set j (s',AL)).flatMap λp:ln=>aZ p.1).Nodup:=
 xG (f:=λp:ln=>aZ p.1) hj hn hs hx
theorem Kf (s:Sl):(aZ s).Nodup:=by unfold aZ;split<;>simp
theorem wk {α:Type} {l:List α} {j:Nat} {a x:α} (h:x∈l.set j a):x=a\/∃i,i≠j/\l[i]? =some x:=by
 obtain ⟨i,hi⟩:=LO.1 h
 rw [List.getElem?_set] at hi
 split at hi
 .split at hi
  .exact .inl (Option.some.inj hi).symm
  .cases hi
 .rename_i ie
  exact .inr ⟨i,λe=>ie e.symm,hi⟩
theorem Ci {rs:List ln} (hn:(rs.flatMap λp:ln=>aZ p.1).Nodup):∀{i j:Nat} {p q:ln},rs[i]? =some p->rs[j]? =some q->i≠j->∀b∈aZ p.1,b∉aZ q.1:=by
 induction rs with
 |nil=>intro i j p q h;simp at h
 |cons a l ih=>
  rw [vw,Bj] at hn
  intro i j p q hi hj yG b hb eG
  cases i with
  |zero=>
   simp at hi;subst hi
   cases j with
   |zero=>exact yG rfl
   |succ j=>exact hn.2.2 b hb b (mI.2 ⟨q,cR (by simpa using hj),eG⟩) rfl
  |succ i=>
   cases j with
   |zero=>
    simp at hj;subst hj
    exact hn.2.2 b eG b (mI.2 ⟨p,cR (by simpa using hi),hb⟩) rfl
   |succ j=>exact ih hn.2.1 (by simpa using hi) (by simpa using hj) (by omega) b hb eG
theorem An (H:LH M w0 w L D) {w':World} (i j:Nat) {rs:List ln} {s s':Sl} {vs AL:List Value} (hi:L[i]? =some (.rows rs)) (hj:rs[j]? =some (s,vs)) (f:Fr (λb=>b∈aZ s) w w') (ho:aO w' aB 4 s' AL) (hb:∀b∈aZ s',b∈aZ s\/w.heap.size<=b):
  LH M w0 w' (L.set i (.rows (rs.set j (s',AL)))) D:=by
 have hp:(En.rows rs).P w:=H.get i hi
 have ru:∀b∈aZ s,b∈(En.rows rs).fp:=λb hb=>aH.2 (mI.2 ⟨_,cR hj,hb⟩)
 have lV:∀b∈rs.flatMap (λp:ln=>aZ p.1),b<w.heap.size:=λb hb=>(En.rows rs).lt w hp b (aH.2 hb)
 refine H.D2 i _ hi (f.mono λx _ hx=>ru x hx) ⟨λp hm=>?_,M5 hj hp.2 (Kf _) λx hx=>(hb x hx).imp id λh hm=>by have:=lV x hm;omega⟩ λb hm=>?_
 .rcases wk hm with rfl|⟨k,hk,Ji⟩
  .exact ho
  .exact (hp.1 p (cR Ji)).gY λb eG hl=>f.gY b hl λke=>Ci hp.2 Ji hj hk b eG ke
 .obtain ⟨p,hm,hbp⟩:=mI.1 (aH.1 hm)
  rcases wk hm with rfl|⟨k,_,Ji⟩
  .exact (hb b hbp).imp (ru b) id
  .exact .inl (aH.2 (mI.2 ⟨p,cR Ji,hbp⟩))
theorem _root_.Go.W.LH.IL (H:LH M w0 w L D) (i j:Nat) {ty:TypeId} {rs:List ln} {s src:Sl} {vs news:List Value} {K:Sl->World->Prop} (hi:L[i]? =some (.rows rs)) (hj:rs[j]? =some (s,vs)) (hr:jU 4 w src news) (h1:∀u∈news,u.oneCell'=true) (hb:(s.n+src.n) *40<=140737488355328)
  (hK:∀s' w',LH M w0 w' (L.set i (.rows (rs.set j (s',vs++news)))) D->s'.n=s.n+src.n->(s'.a=none->s.a=none/\src.n=0)->K s' w') (ke:∀b∈bs,En.g b∈L:=by simp):
  ∃s' w',(Builtin.append_ #[aF,aF] ty #[s.v,src.v]).run Tryz.prog w=.ok s'.v w'/\kept bs w w'/\K s' w':=by
 have hp:(En.rows rs).P w:=H.get i hi
 obtain ⟨s',w',g1,g2,g3,g4,g5,g6⟩:=qF (ty:=ty) zv (hp.1 _ (cR hj)) hr.2.2 hr.1 h1 hb
 refine ⟨s',w',g1,λb eG=>?_,hK s' w' (An H i j hi hj g4 g2 g5) g3 g6⟩
 refine g4.gY b (H.own _ (ke b eG)) λhm=>?_
 exact zG H hi (ke b eG) (aH.2 (mI.2 ⟨_,cR hj,hm⟩))
theorem _root_.Go.W.LH.JU (H:LH M w0 w L D) (i j a c:Nat) {rs:List ln} {s:Sl} {vs:List Value} {v:Value} {p:Addr} {K:World->Prop} (hi:L[i]? =some (.rows rs)) (hj:rs[j]? =some (s,vs)) (hp:s.a=some p) (hl:a+c<vs.length)
  (hK:∀w',LH M w0 w' (L.set i (.rows (rs.set j (s,vs.set (a+c) v)))) D->K w') (ke:∀b∈bs,En.g b∈L:=by simp):bT w ((p.add a).add c) v λw1=>kept bs w w1/\K w1:=by
 have hP:(En.rows rs).P w:=H.get i hi
 obtain ⟨q,hq,hqb,x1,x2,x3,x4⟩:=Dz (hP.1 _ (cR hj)) (a+c) hl v
 rw [hp] at hq
 cases hq
 rw [add_add]
 refine ⟨x1,x2,λb hb=>?_,hK _ (An H i j hi hj x4 x3 λb hb=>.inl hb)⟩
 exact x4.gY b (H.own _ (ke b hb)) λhm=>zG H hi (ke b hb) (aH.2 (mI.2 ⟨_,cR hj,hm⟩))
theorem _root_.Go.W.LH.Dc (H:LH M w0 w L D) (i j:Nat) {rs:List ln} {s:Sl} {vs:List Value} (hi:L[i]? =some (.rows rs)) (hj:rs[j]? =some (s,vs)):LH M w0 w (L.set i (.rows (rs.set j (⟨none,0,0⟩,[])))) (D++[.iD 4 s vs]):=by
 have hp:(En.rows rs).P w:=H.get i hi
 have H1:=An H i j hi hj (Fr.refl _ _) (aO.nil w aB 4) (λb hb=>by simp [aZ] at hb)
 have ru:∀b∈aZ s,b∈(En.rows rs).fp:=λb hb=>aH.2 (mI.2 ⟨_,cR hj,hb⟩)
 have Qf:i<L.length:=(ov.1 hi).1
 refine ⟨H1.fr,H1.own,λe he=>?_,H1.new,H1.nd,λe he b hb e' mG eG=>?_⟩
 .rcases fS.1 he with he|he
  .exact H1.rd e he
  .simp at he;subst he
   exact (hp.1 _ (cR hj)).iD
 .rcases fS.1 he with he|he
  .exact H1.dj e he b hb e' mG eG
  .simp at he;subst he
   have ke:b∈aZ s:=fY (e:=aB) hb
   rcases wk mG with rfl|⟨k,hk,hke⟩
   .obtain ⟨q,hq,Xp⟩:=mI.1 (aH.1 eG)
    rcases wk hq with rfl|⟨k,hk,hkq⟩
    .simp [aZ] at Xp
    .exact Ci hp.2 hkq hj hk b Xp ke
   .exact pQ H.nd hi hke (λe=>hk e.symm) b (ru b ke) eG
end
structure FX where
 k:Int
 ar:Sl×List Rx
 al:List Rx
 an:List Rx
 ca:List Rx
 n:Nat
 la:Rx
structure FM where
 k:Int
 ar:Sl×List Rt
 al:Sl×List Rt
 an:Sl×List Rt
 ca:Sl×List Rt
 n:Nat
 la:Rt
def FM.x (f:FM):FX:=⟨f.k,(f.ar.1,Rt.bV f.ar.2),Rt.bV f.al.2,Rt.bV f.an.2,Rt.bV f.ca.2,f.n,f.la.rx⟩
def FM.c (f:FM):List Value:=[.int .i64 f.k,f.ar.1.v,f.al.1.v,f.an.1.v,f.ca.1.v,.int .i64 (f.n:Int),.int .i64 f.la.k,.int .u8 (f.la.lo.toNat:Int),.int .u8 (f.la.hi.toNat:Int),f.la.s.v]
def FM.rows (f:FM):List ln:=[(f.ar.1,f.ar.2.flatMap Rt.c),(f.al.1,f.al.2.flatMap Rt.c),(f.an.1,f.an.2.flatMap Rt.c),(f.ca.1,f.ca.2.flatMap Rt.c)]
def FM.ts (f:FM):List Rt:=f.ar.2++f.al.2++f.an.2++f.ca.2++[f.la]
theorem FM.yc (f:FM):f.c.length=10:=rfl
theorem ti (fs:List FM):(fs.flatMap FM.c).length=fs.length *10:=oS FM.c 10 FM.yc fs
abbrev SL (rb:Nat) (sl:Sl) (st wd:Int) (cs:List Value) (rs:List ln):List En:=[.c rb [sl.v,.int .i64 st,.int .i64 wd] hO,.row cB 10 sl cs,.rows rs]
def St (w:World) (rb:Nat) (f0:Addr) (lo:List FX) (tp:FX) (st wd:Int) (own:List Nat) (ts:List Rt):Prop:=
 ∃(sl:Sl) (fs:List FM) (f:FM) (p:Addr),fs.map FM.x=lo/\f.x=tp/\(∀g∈fs++[f],∀t∈g.ts,t∈ts)/\sl.a=some p/\f0=p.add (fs.length *10)/\
  own=(SL rb sl st wd ((fs++[f]).flatMap FM.c) ((fs++[f]).flatMap FM.rows)).flatMap (·.fp)/\own.Nodup/\(∀e∈SL rb sl st wd ((fs++[f]).flatMap FM.c) ((fs++[f]).flatMap FM.rows),e.P w)/\Rt.Ps w ts/\∀b∈Rt.gV ts,b∉own
def sI (w:World) (own:List Nat) (ts:List Rt) (rb:Nat) (f0:Addr) (lo:List FX) (tp:FX) (st wd:Int) (A:List Rt->Prop) (w':World):Prop:=∃iZ lW,St w' rb f0 lo tp st wd iZ lW/\Fr (·∈own) w w'/\(∀x∈iZ,x∈own\/w.heap.size<=x)/\(∀b∈Rt.gV lW,b∈Rt.gV ts\/b∈own\/w.heap.size<=b)/\(∀t∈ts,t∈lW)/\A lW
theorem sI.then {w w1 w':World} {own pA:List Nat} {ts VP:List Rt} {rb:Nat} {f0:Addr} {lo:List FX} {tp:FX} {st wd:Int} {A:List Rt->Prop} (f1:Fr (·∈own) w w1) (o1:∀x∈pA,x∈own\/w.heap.size<=x) (b1:∀b∈Rt.gV VP,b∈Rt.gV ts\/b∈own\/w.heap.size<=b) (t1:∀t∈ts,t∈VP) (h:sI w1 pA VP rb f0 lo tp st wd A w'):sI w own ts rb f0 lo tp st wd A w':=by
 obtain ⟨Vp,D1,s2,f2,o2,b2,t2,a2⟩:=h
 refine ⟨Vp,D1,s2,f1.trans f2 λx hx hm=>(o1 x hm).resolve_right λh=>by omega,λx hx=>?_,λb hb=>?_,λt ht=>t2 t (t1 t ht),a2⟩
 .rcases o2 x hx with h|h
  .exact o1 x h
  .exact .inr (Nat.le_trans f1.size h)
 .rcases b2 b hb with h|h|h
  .exact b1 b h
  .exact .inr (o1 b h)
  .exact .inr (.inr (Nat.le_trans f1.size h))
theorem sI.mono {w w':World} {own:List Nat} {ts:List Rt} {rb:Nat} {f0:Addr} {lo:List FX} {tp:FX} {st wd:Int} {A B:List Rt->Prop} (h:sI w own ts rb f0 lo tp st wd A w') (Hz:∀l,A l->B l):sI w own ts rb f0 lo tp st wd B w':=by
 obtain ⟨Vp,D1,s2,f2,o2,b2,t2,a2⟩:=h
 exact ⟨Vp,D1,s2,f2,o2,b2,t2,Hz _ a2⟩
def _root_.Go.W.En.stt (rb:Nat) (f0:Addr) (lo:List FX) (tp:FX) (st wd:Int) (own:List Nat) (ts:List Rt):En:=⟨Jy (own++Rt.gV ts),λw=>St w rb f0 lo tp st wd own ts,λw w' h hp=>(by
 obtain ⟨sl,fs,g,p,h1,h2,h3,h4,h5,h6,h7,h8,h9,Dd⟩:=hp
 refine ⟨sl,fs,g,p,h1,h2,h3,h4,h5,h6,h7,λe he=>e.st w w' (λb hb hl=>h b (aH.2 (qf _ ?_)) hl) (h8 e he),Rt.keeps ts (λb hb hl=>h b (aH.2 (uD _ hb)) hl) h9,Dd⟩
 rw [h6]
 exact mI.2 ⟨e,he,hb⟩),λw hp b hb=>(by
 obtain ⟨sl,fs,g,p,h1,h2,h3,h4,h5,h6,h7,h8,h9,Dd⟩:=hp
 rcases fS.1 (aH.1 hb) with hb|hb
 .rw [h6] at hb
  obtain ⟨e,he,rS⟩:=mI.1 hb
  exact e.lt w (h8 e he) b rS
 .exact Rt.Zi ts h9 b hb),l8 _⟩
theorem Rs (rb:Nat) (f0:Addr) (lo:List FX) (tp:FX) (st wd:Int) (own:List Nat) (ts:List Rt) (w:World) (b:Nat):¬(En.stt rb f0 lo tp st wd own ts).P ({w with heap:=Array.replicate (b+1) (.map #[] 0)}):=by
 rintro ⟨sl,fs,g,p,h1,h2,h3,h4,h5,h6,h7,h8,h9,Dd⟩
 have:=h8 (.c rb [sl.v,.int .i64 st,.int .i64 wd] hO) (by simp)
 have h:({w with heap:=Array.replicate (b+1) (.map #[] 0)}:World).heap[rb]? =some (.cells #[sl.v,.int .i64 st,.int .i64 wd] hO (0,0)):=this
 simp [Array.getElem?_replicate] at h
theorem St.sY {w:World} {rb:Nat} {sl:Sl} {fs:List FM} {f:FM} {ts:List Rt} {st wd:Int} {own:List Nat} (h6:own=(SL rb sl st wd ((fs++[f]).flatMap FM.c) ((fs++[f]).flatMap FM.rows)).flatMap (·.fp)) (h7:own.Nodup) (h8:∀e∈SL rb sl st wd ((fs++[f]).flatMap FM.c) ((fs++[f]).flatMap FM.rows),e.P w) (h9:Rt.Ps w ts) (Dd:∀b∈Rt.gV ts,b∉own):
  LH (·∈own) w w (SL rb sl st wd ((fs++[f]).flatMap FM.c) ((fs++[f]).flatMap FM.rows)) [.trees ts]:=by
 refine LH.xS _ _ (λe he=>⟨h8 e he,λb hb=>by rw [h6];exact mI.2 ⟨e,he,hb⟩⟩) (h6▸h7) λe he=>?_
 simp only [cS,fF,or_false] at he
 subst he
 refine ⟨h9,λb hb e' mG eG=>Dd b (aH.1 hb) ?_⟩
 rw [h6]
 exact mI.2 ⟨e',mG,eG⟩
theorem St.of {w w':World} {rb:Nat} {f0:Addr} {sl:Sl} {fs:List FM} {f:FM} {ts lW:List Rt} {st wd:Int} {own:List Nat} {p:Addr} {D:List En} {A:List Rt->Prop} (H:LH (·∈own) w w' (SL rb sl st wd ((fs++[f]).flatMap FM.c) ((fs++[f]).flatMap FM.rows)) D) (i:Nat) (hD:D[i]? =some (.trees lW)) (ht:∀g∈fs++[f],∀t∈g.ts,t∈lW) (hp:sl.a=some p) (h0:f0=p.add (fs.length *10)) (hb:∀b∈Rt.gV lW,b∈Rt.gV ts\/b∈own\/w.heap.size<=b) (zL:∀t∈ts,t∈lW) (hA:A lW):
  sI w own ts rb f0 (fs.map FM.x) f.x st wd A w':=by
 refine ⟨_,lW,⟨sl,fs,f,p,rfl,rfl,ht,hp,h0,rfl,H.nd,H.own,H.getD i hD,λb hb hm=>?_⟩,H.fr,λx hx=>?_,hb,zL,hA⟩
 .obtain ⟨e,he,rS⟩:=mI.1 hm
  exact H.dj _ (cR hD) b (aH.2 hb) e he rS
 .obtain ⟨e,he,rS⟩:=mI.1 hx
  exact (H.new e he x rS).symm
section
variable {M:Nat->Prop} {w0 w:World} {L D:List En} {bs:List Nat}
theorem _root_.Go.W.LH.zT (H:LH M w0 w L D) (i:Nat) {sl:Sl} {fs:List FM} {f:FM} {p:Addr} (hi:L[i]? =some (.row cB 10 sl ((fs++[f]).flatMap FM.c))) (hp:sl.a=some p) (j:Nat) {v:Value} (hj:f.c[j]? =some v:=by rfl):w.cell? ((p.add (fs.length *10)).add j)=some v:=by
 have ho:aO w cB 10 sl ((fs++[f]).flatMap FM.c):=H.get i hi
 have hk:((fs++[f]).flatMap FM.c)[fs.length *10+j]? =some v:=by
  rw [r8,List.getElem?_append_right (by rw [ti];omega),ti]
  simpa using hj
 obtain ⟨q,hq,hc⟩:=ho.iD.2.2.2 _ _ hk
 rw [hp] at hq
 cases hq
 rw [add_add]
 exact hc
theorem Kz (fs:List FM) (f f':FM) (j:Nat) (v:Value) (hj:j<10) (h:f.c.set j v=f'.c):((fs++[f]).flatMap FM.c).set (fs.length *10+j) v=(fs++[f']).flatMap FM.c:=by
 rw [r8,r8,List.set_append,if_neg (by rw [ti];omega),ti]
 simp only [vw,List.flatMap_nil,Cf,Nat.add_sub_cancel_left]
 rw [h]
theorem _root_.Go.W.LH.D0 (H:LH M w0 w L D) (i:Nat) {sl:Sl} {fs:List FM} {f:FM} {p:Addr} {K:World->Prop} {v:Value} (f':FM) (j:Nat) (hi:L[i]? =some (.row cB 10 sl ((fs++[f]).flatMap FM.c))) (hp:sl.a=some p) (hj:j<10) (hc:f.c.set j v=f'.c)
  (hK:∀w',LH M w0 w' (L.set i (.row cB 10 sl ((fs++[f']).flatMap FM.c))) D->K w') (ke:∀b∈bs,En.g b∈L:=by simp):bT w ((p.add (fs.length *10)).add j) v λw1=>kept bs w w1/\K w1:=
 H.Cr i (fs.length *10) j hi hp (by rw [ti];simp;omega) (λw' H'=>hK w' (by rw [Kz fs f f' j v hj hc] at H';exact H')) ke
theorem DM {w:World} {p:Addr} {v:Value} {K:World->Prop} (h:bT w p v λw1=>kept [] w w1/\K w1):bT w p v K:=pZ h λ_ h=>h.2
end
theorem qt:∀fs:List FM,(fs.flatMap FM.rows).length=fs.length *4
 |[]=>rfl
 |f::fs=>by
  have:=qt fs
  simp only [vw,List.length_append,List.length_cons]
  have:f.rows.length=4:=rfl
  omega
theorem Am (fs:List FM) (f:FM) (j:Nat) (x:ln) (hj:j<4):((fs++[f]).flatMap FM.rows).set (fs.length *4+j) x=fs.flatMap FM.rows++f.rows.set j x:=by
 have hl:=qt fs
 rw [r8,List.set_append,if_neg (by omega),hl]
 simp
theorem oZ (fs:List FM) (f:FM) (j:Nat) (x:ln) (hx:f.rows[j]? =some x):((fs++[f]).flatMap FM.rows)[fs.length *4+j]? =some x:=by
 have hl:=qt fs
 rw [r8,List.getElem?_append_right (by omega),hl]
 simpa using hx
def py (k:Int) (s:Sl) (ts:List Rt):Rt:=match ts with |[x]=>x|l=>.mk k 0 0 s l
def Dw (k:Int) (l:List Rx):Rx:=match l with |[x]=>x|l=>.mk k 0 0 l
theorem Dv (k:Int) (s:Sl) (ts:List Rt):(py k s ts).rx=Dw k (Rt.bV ts):=by
 match ts with
 |[]=>rfl
 |[x]=>rfl
 |x::y::l=>rfl
theorem QS {k:Int} {s:Sl} {ts:List Rt} {b:Nat} (h:b∈(py k s ts).fp):b∈(Rt.row s ts).fp\/b∈Rt.gV ts:=by
 match ts,h with
 |[],h=>exact Rt.eO.1 (show b∈(Rt.mk k 0 0 s []).fp from h)
 |[x],h=>exact .inr (Rt.bC.2 ⟨x,by simp,h⟩)
 |x::y::l,h=>exact Rt.eO.1 (show b∈(Rt.mk k 0 0 s (x::y::l)).fp from h)
theorem Hh (k:Int) (s:Sl) (ts:List Rt) (w:World) (h:jU 4 w s (ts.flatMap Rt.c)):Calls Tryz.prog jk #[.int .i64 k,s.v] w λr w'=>r=.returned (py k s ts).v/\bG w w':=by
 have nr:=Rt.b0 h
 refine regex_one.cU _ _ w _ ((mu [Rt.row s ts] (by
  intro e he
  simp only [cS,fF,or_false] at he
  subst he
  exact h)).bF λb4 w1 H1=>aJ (λh1=>⟨by omega,by omega,?_⟩) (λh1=>H1.aL λw2 H2=>⟨?_,H2.fr⟩))
 .have hl:ts.length=1:=by omega
  obtain ⟨x,rfl⟩:=List.length_eq_one_iff.1 hl
  refine Rt.at' (H1.getD 0) (i:=0) (t:=x) rfl λp hp c=>⟨_,_,_,_,c.c0,c.c1,c.c2,c.c3,H1.aL λw2 H2=>⟨rfl,H2.fr⟩⟩
 .match ts,nr with
  |[],_=>rfl
  |[x],nr=>simp at nr;omega
  |x::y::l,_=>rfl
section
variable {M:Nat->Prop} {w0 w:World} {L D:List En} {bs:List Nat}
theorem _root_.Go.W.LH.node (H:LH M w0 w L D) (i:Nat) {ts ks:List Rt} {s:Sl} (k:Int) (lo hi:UInt8) (wV:D[i]? =some (.trees ts)) (hr:Rt.row s ks∈D) (hk:∀t∈ks,t∈ts):LH M w0 w L [.trees (ts++[.mk k lo hi s ks])]:=by
 have pt:Rt.Ps w ts:=H.getD i wV
 have H1:=H.nf (.trees (ts++[.mk k lo hi s ks])) (Fr.refl _ _) (Rt.oX λt ht=>?_) λb hb=>.inr (.inr ?_)
 .exact H1.forget _ (by simp)
 .rcases fS.1 ht with ht|ht
  .exact pt.mem ht
  .simp at ht;subst ht
   unfold Rt.P
   exact ⟨H.rd _ hr,Rt.oX λt ht=>pt.mem (hk t ht)⟩
 .obtain ⟨t,ht,eG⟩:=Rt.bC.1 (aH.1 hb)
  rcases fS.1 ht with ht|ht
  .exact ⟨_,cR wV,aH.2 (Rt.bC.2 ⟨t,ht,eG⟩)⟩
  .simp at ht
   rw [ht] at eG
   rcases Rt.eO.1 eG with h|h
   .exact ⟨_,hr,h⟩
   .obtain ⟨t',nS,Dg⟩:=Rt.bC.1 h
    exact ⟨_,cR wV,aH.2 (Rt.bC.2 ⟨t',hk t' nS,Dg⟩)⟩
theorem _root_.Go.W.LH.Jw (H:LH M w0 w L D) (i:Nat) {ts ks:List Rt} {s:Sl} (k:Int) (wV:D[i]? =some (.trees ts)) (hr:Rt.row s ks∈D) (hk:∀t∈ks,t∈ts):LH M w0 w L [.trees (ts++[py k s ks])]:=by
 match ks,hr,hk with
 |[],hr,hk=>exact H.node i k 0 0 wV hr hk
 |x::y::l,hr,hk=>exact H.node i k 0 0 wV hr hk
 |[x],hr,hk=>
  have pt:Rt.Ps w ts:=H.getD i wV
  have hx:=hk x (by simp)
  have H1:=H.nf (.trees (ts++[x])) (Fr.refl _ _) (Rt.oX λt ht=>?_) λb hb=>.inr (.inr ?_)
  .exact H1.forget _ (by simp [py])
  .rcases fS.1 ht with ht|ht
   .exact pt.mem ht
   .simp at ht;subst ht
    exact pt.mem hx
  .obtain ⟨t,ht,eG⟩:=Rt.bC.1 (aH.1 hb)
   rcases fS.1 ht with ht|ht
   .exact ⟨_,cR wV,aH.2 (Rt.bC.2 ⟨t,ht,eG⟩)⟩
   .simp at ht
    rw [ht] at eG
    exact ⟨_,cR wV,aH.2 (Rt.bC.2 ⟨x,hx,eG⟩)⟩
abbrev z4:List Value:=[.int .i64 0,.int .u8 0,.int .u8 0,.slice none 0 0]
theorem yO (vs u:List Value) (n j:Nat) (v:Value) (hn:vs.length=n):(vs++u).set (n+j) v=vs++u.set j v:=by
 rw [List.set_append,if_neg (by omega)]
 congr 2
 omega
theorem _root_.Go.W.LH.K8 (H:LH M w0 w L D) (i j n:Nat) {rs:List ln} {s:Sl} {vs:List Value} {p:Addr} {K:World->Prop} (t:Rt) (hi:L[i]? =some (.rows rs)) (hj:rs[j]? =some (s,vs++z4)) (hp:s.a=some p) (hn:vs.length=n *4)
  (hK:∀w',LH M w0 w' (L.set i (.rows (rs.set j (s,vs++t.c)))) D->K w') (ke:∀b∈bs,En.g b∈L):
  bT w (p.add (Int.toNat (n:Int) *4)) (.int .i64 t.k) λw1=>kept bs w w1/\bT w1 ((p.add (Int.toNat (n:Int) *4)).add 1) (.int .u8 (t.lo.toNat:Int)) λw2=>kept bs w1 w2/\bT w2 ((p.add (Int.toNat (n:Int) *4)).add 2) (.int .u8 (t.hi.toNat:Int)) λw3=>kept bs w2 w3/\bT w3 ((p.add (Int.toNat (n:Int) *4)).add 3) t.s.v λw4=>kept bs w3 w4/\K w4:=by
 rw [Int.toNat_natCast]
 have Qf:i<L.length:=(ov.1 hi).1
 have HF:j<rs.length:=(ov.1 hj).1
 have gs:∀{L':List En} (e:En),L'.length=L.length->(L'.set i e)[i]? =some e:=λ{L'} e hl=>by rw [tD (by omega)]
 have gr:∀(Rg:List ln) (x:ln),Rg.length=rs.length->(Rg.set j x)[j]? =some x:=λRg x hl=>by rw [tD (by omega)]
 have hg:∀{b:Nat},En.g b∈L->∀(Rg:List ln),En.g b∈L.set i (.rows Rg):=λ{b} hb Rg=>by
  obtain ⟨k,hk⟩:=LO.1 hb
  by_cases Qg:i=k
  .subst Qg
   exfalso
   rw [hi] at hk
   have hP:(En.rows rs).P w:=H.get i hi
   have e1:En.rows rs=En.g b:=Option.some.inj hk
   have HE:(En.rows rs).fp=[b]:=by rw [e1];rfl
   have eG:b∈(En.rows rs).fp:=by rw [HE];simp
   have ie:rs≠[]:=by rintro rfl;simp at HF
   refine FQ rs ie w b eG ?_
   rw [e1]
   show b<_
   simp
  .exact LO.2 ⟨k,by rw [List.getElem?_set_ne Qg];exact hk⟩
 have LQ:=H.JU (bs:=bs) i j (n *4) 0 (v:=.int .i64 t.k) (K:=λw1=>bT w1 ((p.add (n *4)).add 1) (.int .u8 (t.lo.toNat:Int)) λw2=>kept bs w1 w2/\bT w2 ((p.add (n *4)).add 2) (.int .u8 (t.hi.toNat:Int)) λw3=>kept bs w2 w3/\bT w3 ((p.add (n *4)).add 3) t.s.v λw4=>kept bs w3 w4/\K w4) hi hj hp (by simp [hn]) ?_ ke
 .rw [uN] at LQ
  exact LQ
 intro w1 H1
 rw [yO vs z4 (n *4) 0 _ hn] at H1
 refine H1.JU (bs:=bs) i j (n *4) 1 (gs _ rfl) (gr _ _ rfl) hp (by simp [hn]) ?_ (λb hb=>hg (ke b hb) _)
 intro w2 H2
 rw [yO vs _ (n *4) 1 _ hn,List.set_set,List.set_set] at H2
 refine H2.JU (bs:=bs) i j (n *4) 2 (gs _ rfl) (gr _ _ rfl) hp (by simp [hn]) ?_ (λb hb=>hg (ke b hb) _)
 intro w3 H3
 rw [yO vs _ (n *4) 2 _ hn,List.set_set,List.set_set] at H3
 refine H3.JU (bs:=bs) i j (n *4) 3 (gs _ rfl) (gr _ _ rfl) hp (by simp [hn]) ?_ (λb hb=>hg (ke b hb) _)
 intro w4 H4
 rw [yO vs _ (n *4) 3 _ hn,List.set_set,List.set_set] at H4
 exact hK w4 H4
theorem _root_.Go.W.LH.ND (H:LH M w0 w L D) (i:Nat) {sl:Sl} {fs:List FM} {f:FM} {p:Addr} (hi:L[i]? =some (.row cB 10 sl ((fs++[f]).flatMap FM.c))) (hp:sl.a=some p):
  w.cell? (((p.add (fs.length *10)).add 6).add 0)=some (.int .i64 f.la.k)/\w.cell? (((p.add (fs.length *10)).add 6).add 1)=some (.int .u8 (f.la.lo.toNat:Int))/\w.cell? (((p.add (fs.length *10)).add 6).add 2)=some (.int .u8 (f.la.hi.toNat:Int))/\w.cell? (((p.add (fs.length *10)).add 6).add 3)=some f.la.s.v:=by
 refine ⟨?_,?_,?_,?_⟩
 .rw [uN];exact H.zT i hi hp 6
 .rw [add_add];exact H.zT i hi hp 7
 .rw [add_add];exact H.zT i hi hp 8
 .rw [add_add];exact H.zT i hi hp 9
end
def Bg:Nat->Rx->Rx
 |0,r=>r
 |n+1,r=>Bg n (.mk 6 0 0 [r])
def hV (f:FX):FX:=⟨f.k,f.ar,f.al,f.an,f.ca++[Bg f.n f.la],0,f.la⟩
theorem BA {w:World} {rb:Nat} {f0:Addr} {lo:List FX} {tp:FX} {st wd:Int} {own:List Nat} {ts:List Rt} (h:St w rb f0 lo tp st wd own ts) (hn:tp.n<=1000000) (hc:tp.ca.length<=1000000):
  Calls Tryz.prog iN #[.pointer (some f0)] w λr w'=>r=.returned (.tuple #[])/\sI w own ts rb f0 lo (hV tp) st wd (λ_=>True) w':=by
 obtain ⟨sl,fs,f,p,rfl,rfl,h3,h4,rfl,h6,h7,h8,h9,Dd⟩:=h
 have H:=St.sY h6 h7 h8 h9 Dd
 have Jh:f.la∈ts:=h3 f (by simp) _ (by simp [FM.ts])
 have BW:f.ca.2.length<=1000000:=by
  have:f.x.ca.length=f.ca.2.length:=by show (Rt.bV f.ca.2).length=_;rw [Rt.fC];simp
  omega
 have loop:∀(m:Nat) (r:Rt) (lW:List Rt) (b2:Nat) (w1:World),m<=1000000->(∀t∈ts,t∈lW)->(∀b∈Rt.gV lW,b∈Rt.gV ts\/b∈own\/w.heap.size<=b)->r∈lW->Bg m r.rx=Bg f.n f.la.rx->
   LH (·∈own) w w1 (SL rb sl st wd ((fs++[(⟨f.k,f.ar,f.al,f.an,f.ca,m,f.la⟩:FM)]).flatMap FM.c) ((fs++[f]).flatMap FM.rows)++[.g b2]) [.trees lW]->
   regex_frame_endItem.eE (p.add (fs.length *10)) b2 r.k r.lo.toNat r.hi.toNat r.s w1 λr w'=>r=.returned (.tuple #[])/\sI w own ts rb (p.add (fs.length *10)) (fs.map FM.x) (hV f.x) st wd (λ_=>True) w':=by
  intro m
  induction m with
  |zero=>
   intro r lW b2 w1 _ zL BV hr he H1
   refine regex_frame_endItem.aY _ _ _ _ _ _ _ _ ⟨0,H1.zT 1 rfl h4 5,aI rfl (H1.aL λw2 H2=>⟨_,H2.zT 1 rfl h4 4,?_⟩)⟩
   have iO:((fs++[f]).flatMap FM.rows)[fs.length *4+3]? =some (f.ca.1,f.ca.2.flatMap Rt.c):=oZ fs f 3 _ rfl
   have nr:f.ca.1.n=f.ca.2.length:=by
    have hp:(En.rows ((fs++[f]).flatMap FM.rows)).P w2:=H2.get 2
    exact Rt.b0 (hp.1 _ (cR iO)).iD
   refine H2.iQ (e:=aB) (sz:=4) (n:=1) (cs:=z4) rfl (by decide) λw3 H3=>⟨H3.zT 1 rfl h4 4,?_⟩
   refine H3.IL (bs:=[b2]) 2 (fs.length *4+3) (src:=⟨some (bD w2.heap.size),1,1⟩) (news:=z4) rfl iO (aO.iD (H3.get 4)) (by simp [Value.oneCell']) (by show (f.ca.1.n+1) *40<=_;omega) (λs' w4 H4 xw rr=>⟨by omega,by rw [xw];show ((f.ca.1.n:Nat):Int)<((f.ca.1.n+1:Nat):Int);omega,?_⟩)
   obtain ⟨q,hq⟩:∃q,s'.a=some q:=by
    cases hs:s'.a with
    |none=>have:=(rr hs).2;simp at this
    |some q=>exact ⟨q,rfl⟩
   rw [hq]
   have HF:fs.length *4+3<((fs++[f]).flatMap FM.rows).length:=by rw [qt];simp;omega
   have H5:LH (·∈own) w w4 (SL rb sl st wd ((fs++[(⟨f.k,f.ar,f.al,f.an,f.ca,0,f.la⟩:FM)]).flatMap FM.c) (((fs++[f]).flatMap FM.rows).set (fs.length *4+3) (s',f.ca.2.flatMap Rt.c++z4))++[.g b2]) [.trees lW]:=H4.take 4
   have fin:∀{w':World},LH (·∈own) w w' (SL rb sl st wd ((fs++[(⟨f.k,f.ar,f.al,f.an,(s',f.ca.2++[r]),0,f.la⟩:FM)]).flatMap FM.c) (((fs++[f]).flatMap FM.rows).set (fs.length *4+3) (s',f.ca.2.flatMap Rt.c++r.c))++[.g b2]) [.trees lW]->
     (Ending.returned (.tuple #[])=.returned (.tuple #[])/\sI w own ts rb (p.add (fs.length *10)) (fs.map FM.x) (hV f.x) st wd (λ_=>True) w'):=λ{w'} H'=>by
    refine ⟨rfl,?_⟩
    have e1:((fs++[f]).flatMap FM.rows).set (fs.length *4+3) (s',f.ca.2.flatMap Rt.c++r.c)=(fs++[(⟨f.k,f.ar,f.al,f.an,(s',f.ca.2++[r]),0,f.la⟩:FM)]).flatMap FM.rows:=by
     rw [Am fs f 3 _ (by omega),r8]
     congr 1
     simp [FM.rows]
    rw [e1] at H'
    have:=St.of (ts:=ts) (A:=λ_=>True) (f0:=p.add (fs.length *10)) (H'.take 3) 0 rfl (λg hg t ht=>?_) h4 rfl BV zL trivial
    .have e2:(FM.x ⟨f.k,f.ar,f.al,f.an,(s',f.ca.2++[r]),0,f.la⟩)=hV f.x:=by
      unfold FM.x hV
      simp only [kz]
      have:Rt.bV [r]=[Bg f.n f.la.rx]:=by rw [<-he];rfl
      rw [this]
     rw [e2] at this
     exact this
    .rcases fS.1 hg with hg|hg
     .exact zL t (h3 g (by simp [hg]) t ht)
     .simp at hg;subst hg
      simp only [FM.ts,fS,cS,fF,or_false] at ht
      rcases ht with (((ht|ht)|ht)|(ht|rfl))|rfl
      .exact zL t (h3 f (by simp) t (by simp [FM.ts,ht]))
      .exact zL t (h3 f (by simp) t (by simp [FM.ts,ht]))
      .exact zL t (h3 f (by simp) t (by simp [FM.ts,ht]))
      .exact zL t (h3 f (by simp) t (by simp [FM.ts,ht]))
      .exact hr
      .exact zL _ Jh
   refine ⟨?_,?_⟩
   .rw [nr]
    refine H5.K8 (bs:=[b2]) 2 (fs.length *4+3) f.ca.2.length r rfl (tD HF) hq (Rt.iT _) (λw' H6=>?_) (by simp)
    rw [List.set_set] at H6
    exact H6.D0 (bs:=[b2]) (f:=⟨f.k,f.ar,f.al,f.an,f.ca,0,f.la⟩) 1 ⟨f.k,f.ar,f.al,f.an,(s',f.ca.2++[r]),0,f.la⟩ 4 rfl h4 (by omega) rfl (λuh H7=>fin H7) (by simp)
   .refine H5.D0 (bs:=[b2]) (f:=⟨f.k,f.ar,f.al,f.an,f.ca,0,f.la⟩) 1 ⟨f.k,f.ar,f.al,f.an,(s',f.ca.2++[r]),0,f.la⟩ 4 rfl h4 (by omega) rfl (λw' H6=>?_) (by simp)
    rw [nr]
    refine LH.K8 (bs:=[b2]) (L:=SL rb sl st wd ((fs++[(⟨f.k,f.ar,f.al,f.an,(s',f.ca.2++[r]),0,f.la⟩:FM)]).flatMap FM.c) (((fs++[f]).flatMap FM.rows).set (fs.length *4+3) (s',f.ca.2.flatMap Rt.c++z4))++[.g b2]) H6 2 (fs.length *4+3) f.ca.2.length r rfl (tD HF) hq (Rt.iT _) (λuh H7=>?_) (by simp)
    rw [List.set_set] at H7
    exact fin H7
  |succ m ih=>
   intro r lW b2 w1 hm zL BV hr he H1
   refine regex_frame_endItem.aY _ _ _ _ _ _ _ _ ⟨((m+1:Nat):Int),H1.zT 1 rfl h4 5,aQ (decide_eq_true (by omega)) ?_⟩
   refine H1.iQ (e:=aB) (sz:=4) (n:=1) (cs:=r.c) rfl (by decide) λw2 H2=>H2.aL (bs:=[b2]) (λw3 H3=>⟨_,H3.zT 1 rfl h4 5,?_⟩) (by simp)
   have e:IntKind.wrap .i64 (((m+1:Nat):Int) - 1)=(m:Int):=by rw [IntWalk.i64_in _ (by omega)];omega
   show bT w3 _ (.int .i64 (IntKind.wrap .i64 (((m+1:Nat):Int) - 1))) _
   rw [e]
   refine H3.D0 (bs:=[b2]) (f:=⟨f.k,f.ar,f.al,f.an,f.ca,m+1,f.la⟩) 1 ⟨f.k,f.ar,f.al,f.an,f.ca,m,f.la⟩ 5 rfl h4 (by omega) rfl (λw4 H4=>?_) (by simp)
   have H5:=H4.freeze 4 (Rt.row ⟨some (bD w1.heap.size),1,1⟩ [r]) rfl (by show jU 4 w4 _ ([r].flatMap Rt.c);rw [show [r].flatMap Rt.c=r.c by simp];exact aO.iD (H4.get 4)) (λb hb=>fY (e:=aB) (vs:=[r].flatMap Rt.c) hb)
   have H6:=H5.node 0 6 0 0 (s:=⟨some (bD w1.heap.size),1,1⟩) (ks:=[r]) rfl (by simp) (λt ht=>by simp at ht;subst ht;exact hr)
   refine ih (.mk 6 0 0 ⟨some (bD w1.heap.size),1,1⟩ [r]) _ b2 w4 (by omega) (λt ht=>by simp [zL t ht]) (λb hb=>?_) (by simp) he H6
   obtain ⟨t,ht,zH⟩:=Rt.bC.1 hb
   rcases fS.1 ht with ht|ht
   .exact BV b (Rt.bC.2 ⟨t,ht,zH⟩)
   .simp at ht
    rw [ht] at zH
    rcases Rt.eO.1 zH with h|h
    .have:=fY (e:=aB) h
     simp [En.row,aZ,Rt.s] at this
     subst this
     exact .inr (.inr H1.fr.size)
    .obtain ⟨t',nS,eG⟩:=Rt.bC.1 h
     simp [Rt.l] at nS
     rw [nS] at eG
     exact BV b (Rt.bC.2 ⟨r,hr,eG⟩)
 obtain ⟨c0,c1,c2,c3⟩:=H.ND 1 rfl h4
 have xw:f.n<=1000000:=hn
 refine regex_frame_endItem.cU _ w _ ⟨_,_,_,_,c0,c1,c2,c3,H.bF (λb2 w1 H1=>H1.aL (λw2 H2=>?_) (by simp)) (by simp)⟩
 exact loop f.n f.la ts b2 w2 xw (λ_ h=>h) (λb hb=>.inl hb) Jh rfl H2
def FM.e8 (f:FM) (j:Nat):Sl×List Rt:=if j=1 then f.ar else if j=2 then f.al else if j=3 then f.an else f.ca
def FM.put (f:FM) (j:Nat) (x:Sl×List Rt):FM:=⟨f.k,if j=1 then x else f.ar,if j=2 then x else f.al,if j=3 then x else f.an,if j=4 then x else f.ca,f.n,f.la⟩
theorem rk {j:Nat} (h1:1<=j) (h4:j<=4) {p:Nat->Prop} (a1:p 1) (a2:p 2) (a3:p 3) (a4:p 4):p j:=by
 have:j=1\/j=2\/j=3\/j=4:=by omega
 rcases this with rfl|rfl|rfl|rfl<;>assumption
theorem Sf (f:FM) {j:Nat} (h1:1<=j) (h4:j<=4):f.c[j]? =some (f.e8 j).1.v:=rk (p:=λj=>f.c[j]? =some (f.e8 j).1.v) h1 h4 rfl rfl rfl rfl
theorem BJ (f:FM) {j:Nat} (h1:1<=j) (h4:j<=4):f.rows[j - 1]? =some ((f.e8 j).1,(f.e8 j).2.flatMap Rt.c):=rk (p:=λj=>f.rows[j - 1]? =some ((f.e8 j).1,(f.e8 j).2.flatMap Rt.c)) h1 h4 rfl rfl rfl rfl
theorem FN (f:FM) (x:Sl×List Rt) {j:Nat} (h1:1<=j) (h4:j<=4):f.c.set j x.1.v=(f.put j x).c:=rk (p:=λj=>f.c.set j x.1.v=(f.put j x).c) h1 h4 rfl rfl rfl rfl
theorem Yh (f:FM) (x:Sl×List Rt) {j:Nat} (h1:1<=j) (h4:j<=4):f.rows.set (j - 1) (x.1,x.2.flatMap Rt.c)=(f.put j x).rows:=rk (p:=λj=>f.rows.set (j - 1) (x.1,x.2.flatMap Rt.c)=(f.put j x).rows) h1 h4 rfl rfl rfl rfl
theorem DA (f:FM) (x:Sl×List Rt) {j:Nat} (h1:1<=j) (h4:j<=4) {t:Rt} (ht:t∈(f.put j x).ts):t∈f.ts\/t∈x.2:=by
 refine rk (p:=λj=>t∈(f.put j x).ts->t∈f.ts\/t∈x.2) h1 h4 ?_ ?_ ?_ ?_ ht<;>
 .intro ht
  simp [FM.put,FM.ts] at ht ⊢
  rcases ht with h|h|h|h|h<;>simp [h]
theorem rM (f:FM) (j:Nat) {t:Rt} (ht:t∈(f.e8 j).2):t∈f.ts:=by
 unfold FM.e8 at ht
 unfold FM.ts
 split at ht
 .simp [ht]
 .split at ht
  .simp [ht]
  .split at ht
   .simp [ht]
   .simp [ht]
theorem QW (f:FM) (x:Sl×List Rt) {j i:Nat} (yG:i≠j) (hi:1<=i) (hi4:i<=4):(f.put j x).e8 i=f.e8 i:=by
 have:i=1\/i=2\/i=3\/i=4:=by omega
 unfold FM.put FM.e8
 rcases this with rfl|rfl|rfl|rfl
 .simp;intro h;omega
 .simp;intro h;omega
 .simp;intro h;omega
 .simp;intro h;omega
section
variable {w0 w:World} {own:List Nat} {rb:Nat} {sl:Sl} {st wd:Int} {fs:List FM} {f:FM} {ts:List Rt} {p:Addr}
abbrev FS (own:List Nat) (w0 w:World) (rb:Nat) (sl:Sl) (st wd:Int) (fs:List FM) (f:FM) (rs:List ln) (ts:List Rt):Prop:=LH (·∈own) w0 w (SL rb sl st wd ((fs++[f]).flatMap FM.c) rs) [.trees ts]
theorem tW (fs:List FM) (f:FM) (x:Sl×List Rt) {j:Nat} (h1:1<=j) (h4:j<=4):((fs++[f]).flatMap FM.rows).set (fs.length *4+(j - 1)) (x.1,x.2.flatMap Rt.c)=(fs++[f.put j x]).flatMap FM.rows:=by
 rw [Am fs f (j - 1) _ (by omega),Yh f x h1 h4,r8]
 simp
theorem FH (H:FS own w0 w rb sl st wd fs f ((fs++[f]).flatMap FM.rows) ts) (hp:sl.a=some p) (d:Nat) (ER:1<=d) (ES:d<=4) (t:Rt) (hb:(f.e8 d).2.length<=1000000) {w1:World} {src:Sl} (H1:LH (·∈own) w0 w1 (SL rb sl st wd ((fs++[f]).flatMap FM.c) ((fs++[f]).flatMap FM.rows)++[.row aB 4 src z4]) [.trees ts]) (U4:src.n=1) {K:World->Prop}
  (hK:∀s' w',FS own w0 w' rb sl st wd fs (f.put d (s',(f.e8 d).2++[t])) ((fs++[f.put d (s',(f.e8 d).2++[t])]).flatMap FM.rows) ts->K w'):
  ∃(t15:Sl) (w5:World),(Builtin.append_ #[aF,aF] aF #[(f.e8 d).1.v,src.v]).run Tryz.prog w1=.ok (t15.v) w5/\(0:Int)<=(((f.e8 d).1.n:Nat):Int)/\(((f.e8 d).1.n:Nat):Int)<((t15.n:Nat):Int)/\aW t15.a λq=>((bT w5 (q.add (Int.toNat (((f.e8 d).1.n:Nat):Int) *4)) (.int .i64 t.k) λw6=>bT w6 ((q.add (Int.toNat (((f.e8 d).1.n:Nat):Int) *4)).add 1) (.int .u8 (t.lo.toNat:Int)) λw7=>bT w7 ((q.add (Int.toNat (((f.e8 d).1.n:Nat):Int) *4)).add 2) (.int .u8 (t.hi.toNat:Int)) λw8=>bT w8 ((q.add (Int.toNat (((f.e8 d).1.n:Nat):Int) *4)).add 3) t.s.v λw9=>bT w9 ((p.add (fs.length *10)).add d) t15.v K)/\
   (bT w5 ((p.add (fs.length *10)).add d) t15.v λsj=>bT sj (q.add (Int.toNat (((f.e8 d).1.n:Nat):Int) *4)) (.int .i64 t.k) λw6=>bT w6 ((q.add (Int.toNat (((f.e8 d).1.n:Nat):Int) *4)).add 1) (.int .u8 (t.lo.toNat:Int)) λw7=>bT w7 ((q.add (Int.toNat (((f.e8 d).1.n:Nat):Int) *4)).add 2) (.int .u8 (t.hi.toNat:Int)) λw8=>bT w8 ((q.add (Int.toNat (((f.e8 d).1.n:Nat):Int) *4)).add 3) t.s.v K)):=by
 have iO:((fs++[f]).flatMap FM.rows)[fs.length *4+(d - 1)]? =some ((f.e8 d).1,(f.e8 d).2.flatMap Rt.c):=oZ fs f (d - 1) _ (BJ f ER ES)
 have nr:(f.e8 d).1.n=(f.e8 d).2.length:=by
  have hp:(En.rows ((fs++[f]).flatMap FM.rows)).P w1:=H1.get 2
  exact Rt.b0 (hp.1 _ (cR iO)).iD
 obtain ⟨s',w5,h1,_,h3⟩:=H1.IL (bs:=[]) (ty:=aF) 2 (fs.length *4+(d - 1)) (src:=src) (news:=z4) (K:=λs' w'=>FS own w0 w' rb sl st wd fs f (((fs++[f]).flatMap FM.rows).set (fs.length *4+(d - 1)) (s',(f.e8 d).2.flatMap Rt.c++z4)) ts/\s'.n=(f.e8 d).1.n+1/\∃q,s'.a=some q) rfl iO (aO.iD (H1.get 3)) (by simp [Value.oneCell']) (by omega) (λs' w4 H4 xw rr=>⟨H4.take 3,by omega,by
  cases hs:s'.a with
  |none=>have:=(rr hs).2;omega
  |some q=>exact ⟨q,rfl⟩⟩) (by simp)
 obtain ⟨H5,hn5,q,hq⟩:=h3
 refine ⟨s',w5,h1,by omega,by omega,?_⟩
 rw [hq]
 have HF:fs.length *4+(d - 1)<((fs++[f]).flatMap FM.rows).length:=by rw [qt];simp;omega
 have ec:∀(f:FM) (t:Rt) (d:Nat),(f.e8 d).2.flatMap Rt.c++t.c=((f.e8 d).2++[t]).flatMap Rt.c:=λf t d=>by simp
 rw [nr]
 refine ⟨?_,?_⟩
 .have st:=LH.K8 (bs:=[]) (K:=λw9=>bT w9 ((p.add (fs.length *10)).add d) s'.v K) H5 2 (fs.length *4+(d - 1)) (f.e8 d).2.length t rfl (tD HF) hq (Rt.iT _) (λw' H6=>?_) (by simp)
  .exact pZ st λ_ h=>pZ h.2 λ_ h=>pZ h.2 λ_ h=>pZ h.2 λ_ h=>h.2
  .rw [List.set_set,ec,tW fs f (s',(f.e8 d).2++[t]) ER ES] at H6
   exact DM (H6.D0 (bs:=[]) (f:=f) 1 (f.put d (s',(f.e8 d).2++[t])) d rfl hp (by omega) (FN f (s',(f.e8 d).2++[t]) ER ES) (λuh H7=>hK s' uh H7) (by simp))
 .refine DM (H5.D0 (bs:=[]) (f:=f) 1 (f.put d (s',(f.e8 d).2++[t])) d rfl hp (by omega) (FN f (s',(f.e8 d).2++[t]) ER ES) (λw' H6=>?_) (by simp))
  have st:=LH.K8 (bs:=[]) (K:=K) (L:=SL rb sl st wd ((fs++[f.put d (s',(f.e8 d).2++[t])]).flatMap FM.c) (((fs++[f]).flatMap FM.rows).set (fs.length *4+(d - 1)) (s',(f.e8 d).2.flatMap Rt.c++z4))) H6 2 (fs.length *4+(d - 1)) (f.e8 d).2.length t rfl (tD HF) hq (Rt.iT _) (λuh H7=>?_) (by simp)
  .exact pZ st λ_ h=>pZ h.2 λ_ h=>pZ h.2 λ_ h=>pZ h.2 λ_ h=>h.2
  .rw [List.set_set,ec,tW fs f (s',(f.e8 d).2++[t]) ER ES] at H7
   exact hK s' uh H7
theorem shift (H:FS own w0 w rb sl st wd fs f ((fs++[f]).flatMap FM.rows) ts) (hp:sl.a=some p) (k:Int) (d s:Nat) (ER:1<=d) (hs:s=d+1) (SK:s<=4) (hb:(f.e8 d).2.length<=1000000) (zL:∀t∈f.ts,t∈ts) {R:aD}
  (hK:∀s' w',FS own w0 w' rb sl st wd fs ((f.put d (s',(f.e8 d).2++[py k (f.e8 s).1 (f.e8 s).2])).put s (⟨none,0,0⟩,[])) ((fs++[(f.put d (s',(f.e8 d).2++[py k (f.e8 s).1 (f.e8 s).2])).put s (⟨none,0,0⟩,[])]).flatMap FM.rows) (ts++[py k (f.e8 s).1 (f.e8 s).2])->R (.returned (.tuple #[])) w'):
  vQ w λw2=>∃t7:Sl,w2.cell? ((p.add (fs.length *10)).add d)=some (t7.v)/\∃t11:Sl,w2.cell? ((p.add (fs.length *10)).add s)=some (t11.v)/\
   ((Calls Tryz.prog jk #[.i k,t11.v] w2 λr_ w3=>∃AA:Int,∃AB:Int,∃AD:Int,∃AE:Sl,r_=.returned (.agg #[.i AA,.int .u8 AB,.int .u8 AD,AE.v])/\
    w3.cell? ((p.add (fs.length *10)).add d)=some (t7.v)/\fH w3 (.cells #[.i 0,.int .u8 0,.int .u8 0,.slice none 0 0] aB) λw4=>
    w4.cell? ((p.add (fs.length *10)).add d)=some (t7.v)/\∃(t15:Sl) (w5:World),Sem.run Tryz.prog (Builtin.append_ #[aF,aF] aF #[t7.v,.slice (some (nb w3)) 1 1]) w4=.ok (t15.v) w5/\(0:Int)<=((t7.n:Nat):Int)/\((t7.n:Nat):Int)<((t15.n:Nat):Int)/\aW t15.a λq=>((bT w5 (q.add (Int.toNat ((t7.n:Nat):Int) *4)) (.i AA) λw6=>
    bT w6 ((q.add (Int.toNat ((t7.n:Nat):Int) *4)).add 1) (.int .u8 AB) λw7=>bT w7 ((q.add (Int.toNat ((t7.n:Nat):Int) *4)).add 2) (.int .u8 AD) λw8=>bT w8 ((q.add (Int.toNat ((t7.n:Nat):Int) *4)).add 3) (AE.v) λw9=>
    bT w9 ((p.add (fs.length *10)).add d) (t15.v) λpE=>bT pE ((p.add (fs.length *10)).add s) (.slice none 0 0) λw1=>R (.returned (.tuple #[])) w1)/\
    (bT w5 ((p.add (fs.length *10)).add d) (t15.v) λsj=>bT sj (q.add (Int.toNat ((t7.n:Nat):Int) *4)) (.i AA) λrI=>bT rI ((q.add (Int.toNat ((t7.n:Nat):Int) *4)).add 1) (.int .u8 AB) λuI=>
    bT uI ((q.add (Int.toNat ((t7.n:Nat):Int) *4)).add 2) (.int .u8 AD) λD3=>bT D3 ((q.add (Int.toNat ((t7.n:Nat):Int) *4)).add 3) (AE.v) λBm=>bT Bm ((p.add (fs.length *10)).add s) (.slice none 0 0) λw1=>R (.returned (.tuple #[])) w1)))/\
   (fH w2 (.cells #[.i 0,.int .u8 0,.int .u8 0,.slice none 0 0] aB) λLx=>Lx.cell? ((p.add (fs.length *10)).add s)=some (t11.v)/\Lx.cell? ((p.add (fs.length *10)).add d)=some (t7.v)/\
    Calls Tryz.prog jk #[.i k,t11.v] Lx λr_ Ly=>∃AA:Int,∃AB:Int,∃AD:Int,∃AE:Sl,r_=.returned (.agg #[.i AA,.int .u8 AB,.int .u8 AD,AE.v])/\
    Ly.cell? ((p.add (fs.length *10)).add d)=some (t7.v)/\∃(t15:Sl) (w5:World),Sem.run Tryz.prog (Builtin.append_ #[aF,aF] aF #[t7.v,.slice (some (nb w2)) 1 1]) Ly=.ok (t15.v) w5/\(0:Int)<=((t7.n:Nat):Int)/\((t7.n:Nat):Int)<((t15.n:Nat):Int)/\aW t15.a λq=>((bT w5 (q.add (Int.toNat ((t7.n:Nat):Int) *4)) (.i AA) λw6=>
    bT w6 ((q.add (Int.toNat ((t7.n:Nat):Int) *4)).add 1) (.int .u8 AB) λw7=>bT w7 ((q.add (Int.toNat ((t7.n:Nat):Int) *4)).add 2) (.int .u8 AD) λw8=>bT w8 ((q.add (Int.toNat ((t7.n:Nat):Int) *4)).add 3) (AE.v) λw9=>
    bT w9 ((p.add (fs.length *10)).add d) (t15.v) λpE=>bT pE ((p.add (fs.length *10)).add s) (.slice none 0 0) λw1=>R (.returned (.tuple #[])) w1)/\
    (bT w5 ((p.add (fs.length *10)).add d) (t15.v) λsj=>bT sj (q.add (Int.toNat ((t7.n:Nat):Int) *4)) (.i AA) λrI=>bT rI ((q.add (Int.toNat ((t7.n:Nat):Int) *4)).add 1) (.int .u8 AB) λuI=>
    bT uI ((q.add (Int.toNat ((t7.n:Nat):Int) *4)).add 2) (.int .u8 AD) λD3=>bT D3 ((q.add (Int.toNat ((t7.n:Nat):Int) *4)).add 3) (AE.v) λBm=>bT Bm ((p.add (fs.length *10)).add s) (.slice none 0 0) λw1=>R (.returned (.tuple #[])) w1)))):=by
 subst hs
 have wg:1<=d+1:=by omega
 have ES:d<=4:=by omega
 have iO:((fs++[f]).flatMap FM.rows)[fs.length *4+(d+1 - 1)]? =some ((f.e8 (d+1)).1,(f.e8 (d+1)).2.flatMap Rt.c):=oZ fs f (d+1 - 1) _ (BJ f wg SK)
 have rd:∀{w':World} {G:List En},LH (·∈own) w0 w' (SL rb sl st wd ((fs++[f]).flatMap FM.c) ((fs++[f]).flatMap FM.rows)++G) [.trees ts]->jU 4 w' (f.e8 (d+1)).1 ((f.e8 (d+1)).2.flatMap Rt.c):=λH'=>by
  have hP:(En.rows ((fs++[f]).flatMap FM.rows)).P _:=H'.get 2
  exact (hP.1 _ (cR iO)).iD
 have fin:∀s' w',FS own w0 w' rb sl st wd fs (f.put d (s',(f.e8 d).2++[py k (f.e8 (d+1)).1 (f.e8 (d+1)).2])) ((fs++[f.put d (s',(f.e8 d).2++[py k (f.e8 (d+1)).1 (f.e8 (d+1)).2])]).flatMap FM.rows) ts->
   bT w' ((p.add (fs.length *10)).add (d+1)) (.slice none 0 0) λw1=>R (.returned (.tuple #[])) w1:=λs' w' H'=>by
  have hc:(f.put d (s',(f.e8 d).2++[py k (f.e8 (d+1)).1 (f.e8 (d+1)).2])).e8 (d+1)=f.e8 (d+1):=QW f _ (by omega) wg SK
  refine DM (H'.D0 (bs:=[]) 1 ((f.put d (s',(f.e8 d).2++[py k (f.e8 (d+1)).1 (f.e8 (d+1)).2])).put (d+1) (⟨none,0,0⟩,[])) (d+1) rfl hp (by omega) (FN _ (⟨none,0,0⟩,[]) wg SK) (λw1 H1=>hK s' w1 ?_) (by simp))
  have SI:=oZ fs (f.put d (s',(f.e8 d).2++[py k (f.e8 (d+1)).1 (f.e8 (d+1)).2])) (d+1 - 1) _ (BJ _ wg SK)
  rw [hc] at SI
  have H2:=H1.Dc 2 (fs.length *4+(d+1 - 1)) rfl SI
  have H3:=H2.Jw 0 k (s:=(f.e8 (d+1)).1) (ks:=(f.e8 (d+1)).2) rfl (by simp) λt ht=>zL t (rM f _ ht)
  have e:=tW fs (f.put d (s',(f.e8 d).2++[py k (f.e8 (d+1)).1 (f.e8 (d+1)).2])) (⟨none,0,0⟩,[]) wg SK
  have e':(([]:List Rt).flatMap Rt.c)=[]:=rfl
  rw [e'] at e
  simp only at e
  rw [<-e]
  exact H3
 have c7:∀{w':World} {G:List En},LH (·∈own) w0 w' (SL rb sl st wd ((fs++[f]).flatMap FM.c) ((fs++[f]).flatMap FM.rows)++G) [.trees ts]->w'.cell? ((p.add (fs.length *10)).add d)=some ((f.e8 d).1.v):=λH'=>H'.zT 1 rfl hp d (Sf f ER ES)
 have c11:∀{w':World} {G:List En},LH (·∈own) w0 w' (SL rb sl st wd ((fs++[f]).flatMap FM.c) ((fs++[f]).flatMap FM.rows)++G) [.trees ts]->w'.cell? ((p.add (fs.length *10)).add (d+1))=some ((f.e8 (d+1)).1.v):=λH'=>H'.zT 1 rfl hp (d+1) (Sf f wg SK)
 refine H.dr λw2 H2=>⟨_,c7 (G:=[]) H2,_,c11 (G:=[]) H2,?_,H2.iQ (e:=aB) (sz:=4) (n:=1) (cs:=z4) rfl (by decide) λw3 H3=>⟨c11 H3,c7 H3,?_⟩⟩
 .refine H2.call (Hh k _ _ w2 (rd (G:=[]) H2)) ?_
  rintro _ w3 rfl H3
  refine ⟨_,_,_,_,rfl,c7 (G:=[]) H3,H3.iQ (e:=aB) (sz:=4) (n:=1) (cs:=z4) rfl (by decide) λw4 H4=>⟨c7 H4,?_⟩⟩
  exact FH H hp d ER ES (py k (f.e8 (d+1)).1 (f.e8 (d+1)).2) hb (src:=⟨some (bD w3.heap.size),1,1⟩) H4 rfl fin
 .refine H3.call (Hh k _ _ w3 (rd H3)) ?_
  rintro _ w4 rfl H4
  refine ⟨_,_,_,_,rfl,c7 H4,?_⟩
  exact FH H hp d ER ES (py k (f.e8 (d+1)).1 (f.e8 (d+1)).2) hb (src:=⟨some (bD w2.heap.size),1,1⟩) H4 rfl fin
end
def CE (w:World) (own:List Nat) (ts:List Rt) (rb:Nat) (Q:Ending->Addr->List FX->FX->Int->Int->List Rt->Prop):aD:=λr w'=>∃A3 vu yM dO sR,sI w own ts rb A3 vu yM dO sR (Q r A3 vu yM dO sR) w'
section
variable {M:Nat->Prop} {w0 w:World} {L D:List En} {bs:List Nat}
theorem _root_.Go.W.LH.cs (H:LH M w0 w L D) (i:Nat) {rb:Nat} {f0:Addr} {lo:List FX} {tp:FX} {st wd:Int} {own:List Nat} {ts:List Rt} {g:FuncId} {args:Array Value} {K:aD} {Q:Ending->Addr->List FX->FX->Int->Int->List Rt->Prop} (hi:L[i]? =some (.stt rb f0 lo tp st wd own ts))
  (hc:St w rb f0 lo tp st wd own ts->Calls Tryz.prog g args w (CE w own ts rb Q))
  (hk:∀r w' A3 vu yM dO sR iZ lW,(∀t∈ts,t∈lW)->Q r A3 vu yM dO sR lW->LH M w0 w' (L.set i (.stt rb A3 vu yM dO sR iZ lW)) D->K r w') (ke:∀b∈bs,En.g b∈L:=by simp):fE bs Tryz.prog g args w K:=by
 refine ⟨(·∈own),λb hb hm=>?_,(hc (H.get i hi)).mono ?_⟩
 .exact oB H hi (Rs _ _ _ _ _ _ _ _ w) (ke b hb) (aH.2 (qf _ hm))
 .rintro r w' ⟨A3,vu,yM,dO,sR,iZ,lW,s',f,o,b,t,q⟩
  refine ⟨f,hk r w' A3 vu yM dO sR iZ lW t q (H.D2 i _ hi (f.mono λx _ hx=>aH.2 (qf _ hx)) s' λx hx=>?_)⟩
  rcases fS.1 (aH.1 hx) with hx|hx
  .exact (o x hx).imp (λh=>aH.2 (qf _ h)) id
  .rcases b x hx with h|h|h
   .exact .inl (aH.2 (uD _ h))
   .exact .inl (aH.2 (qf _ h))
   .exact .inr h
end
def kV (f:FX):FX:=⟨f.k,f.ar,f.al,f.an++[Dw 3 (hV f).ca],[],0,f.la⟩
def jd (f:FX):FX:=⟨f.k,f.ar,f.al++[Dw 5 (kV f).an],[],[],0,f.la⟩
def zw (f:FX):FX:=⟨f.k,f.ar,[],[],[],0,f.la⟩
def iP (f:FX):Rx:=Dw 4 (jd f).al
theorem tK {w0:World} {M:Nat->Prop} {w:World} {own:List Nat} {ts ts0:List Rt} {k:Int} {s:Sl} {ks:List Rt} (hb:∀b∈Rt.gV ts,b∈Rt.gV ts0\/b∈own\/w.heap.size<=b) (hs:∀b∈aZ s,b∈own\/w.heap.size<=b) (hk:∀t∈ks,t∈ts):∀b∈Rt.gV (ts++[py k s ks]),b∈Rt.gV ts0\/b∈own\/w.heap.size<=b:=λb eG=>by
 obtain ⟨t,ht,zH⟩:=Rt.bC.1 eG
 rcases fS.1 ht with ht|ht
 .exact hb b (Rt.bC.2 ⟨t,ht,zH⟩)
 .simp at ht
  rw [ht] at zH
  rcases QS zH with h|h
  .exact .inr (hs b (fY (e:=aB) h))
  .obtain ⟨t',nS,Dg⟩:=Rt.bC.1 h
   exact hb b (Rt.bC.2 ⟨t',hk t' nS,Dg⟩)
theorem JN {own:List Nat} {w0 w:World} {rb:Nat} {sl:Sl} {st wd:Int} {fs:List FM} {f:FM} {ts:List Rt} (H:FS own w0 w rb sl st wd fs f ((fs++[f]).flatMap FM.rows) ts) {j:Nat} (h1:1<=j) (h4:j<=4):∀b∈aZ (f.e8 j).1,b∈own\/w0.heap.size<=b:=λb hb=>by
 have iO:=oZ fs f (j - 1) _ (BJ f h1 h4)
 exact (H.new (.rows ((fs++[f]).flatMap FM.rows)) (by simp) b (aH.2 (mI.2 ⟨_,cR iO,hb⟩))).symm
theorem FY {fs:List FM} {f:FM} {ts:List Rt} {k:Int} {d s:Nat} {s':Sl} (h3:∀g∈fs++[f],∀t∈g.ts,t∈ts) (ER:1<=d) (ES:d<=4) (wg:1<=s) (SK:s<=4):∀g∈fs++[(f.put d (s',(f.e8 d).2++[py k (f.e8 s).1 (f.e8 s).2])).put s (⟨none,0,0⟩,[])],∀t∈g.ts,t∈ts++[py k (f.e8 s).1 (f.e8 s).2]:=by
 intro g hg t ht
 rcases fS.1 hg with hg|hg
 .exact qf _ (h3 g (by simp [hg]) t ht)
 .simp at hg;subst hg
  rcases DA _ _ wg SK ht with h|h
  .rcases DA _ _ ER ES h with h|h
   .exact qf _ (h3 f (by simp) t h)
   .rcases fS.1 h with h|h
    .exact qf _ (h3 f (by simp) t (rM f d h))
    .exact uD _ h
  .cases h
theorem Ei {w:World} {rb:Nat} {f0:Addr} {lo:List FX} {tp:FX} {st wd:Int} {own:List Nat} {ts:List Rt} (h:St w rb f0 lo tp st wd own ts) (hn:tp.n<=1000000) (hc:tp.ca.length<=1000000) (ha:tp.an.length<=1000000):
  Calls Tryz.prog jj #[.pointer (some f0)] w λr w'=>r=.returned (.tuple #[])/\sI w own ts rb f0 lo (kV tp) st wd (λ_=>True) w':=by
 refine regex_frame_endSeq.ok _ w _ ((BA h hn hc).mono ?_)
 rintro _ w1 ⟨rfl,pA,VP,⟨sl,fs,f,p,rfl,hx,h3,h4,rfl,h6,h7,h8,h9,Dd⟩,f1,o1,b1,t1,_⟩
 refine ⟨rfl,?_⟩
 have H:=St.sY h6 h7 h8 h9 Dd
 have hal:(f.e8 3).2.length<=1000000:=by
  have e:f.x.an.length=f.an.2.length:=by show (Rt.bV f.an.2).length=_;rw [Rt.fC];simp
  have e2:f.x.an=tp.an:=by rw [hx];rfl
  show f.an.2.length<=_
  rw [<-e,e2];exact ha
 refine shift (R:=λr w'=>r=.returned (.tuple #[])/\sI w own ts rb (p.add (fs.length *10)) (fs.map FM.x) (kV tp) st wd (λ_=>True) w') H h4 3 3 4 (by omega) rfl (by omega) hal (λt ht=>h3 f (by simp) t ht) λs' w' H'=>⟨rfl,sI.then f1 o1 b1 t1 ?_⟩
 have:=St.of (ts:=VP) (A:=λ_=>True) (f0:=p.add (fs.length *10)) H' 0 rfl (FY h3 (by omega) (by omega) (by omega) (by omega)) h4 rfl (tK (w0:=w) (M:=F0) (λb hb=>.inl hb) (JN H (by omega) (by omega)) λt ht=>h3 f (by simp) t (rM f 4 ht)) (λt ht=>qf _ ht) trivial
 have e:((f.put 3 (s',(f.e8 3).2++[py 3 (f.e8 4).1 (f.e8 4).2])).put 4 (⟨none,0,0⟩,[])).x=kV tp:=by
  have hk:f.x.k=tp.k:=by rw [hx];rfl
  have har:f.x.ar=tp.ar:=by rw [hx];rfl
  have hall:f.x.al=tp.al:=by rw [hx];rfl
  have han:f.x.an=tp.an:=by rw [hx];rfl
  have BW:f.x.ca=(hV tp).ca:=by rw [hx]
  have U0:f.x.n=0:=by rw [hx];rfl
  have Jh:f.x.la=tp.la:=by rw [hx];rfl
  unfold kV
  rw [<-hk,<-har,<-hall,<-han,<-BW,<-Jh]
  show FX.mk f.k (f.ar.1,Rt.bV f.ar.2) (Rt.bV f.al.2) (Rt.bV (f.an.2++[py 3 f.ca.1 f.ca.2])) (Rt.bV []) f.n f.la.rx=_
  have XD:f.n=0:=U0
  rw [XD,kz]
  simp [Rt.bV,Dv,FM.x]
 rw [e] at this
 exact this
theorem Bz {w:World} {rb:Nat} {f0:Addr} {lo:List FX} {tp:FX} {st wd:Int} {own:List Nat} {ts:List Rt} (h:St w rb f0 lo tp st wd own ts) (hn:tp.n<=1000000) (hc:tp.ca.length<=1000000) (ha:tp.an.length<=1000000) (hl:tp.al.length<=1000000):
  Calls Tryz.prog iM #[.pointer (some f0)] w λr w'=>r=.returned (.tuple #[])/\sI w own ts rb f0 lo (jd tp) st wd (λ_=>True) w':=by
 refine regex_frame_endConj.ok _ w _ ((Ei h hn hc ha).mono ?_)
 rintro _ w1 ⟨rfl,pA,VP,⟨sl,fs,f,p,rfl,hx,h3,h4,rfl,h6,h7,h8,h9,Dd⟩,f1,o1,b1,t1,_⟩
 refine ⟨rfl,?_⟩
 have H:=St.sY h6 h7 h8 h9 Dd
 have hal:(f.e8 2).2.length<=1000000:=by
  have e:f.x.al.length=f.al.2.length:=by show (Rt.bV f.al.2).length=_;rw [Rt.fC];simp
  have e2:f.x.al=tp.al:=by rw [hx];rfl
  show f.al.2.length<=_
  rw [<-e,e2];exact hl
 refine shift (R:=λr w'=>r=.returned (.tuple #[])/\sI w own ts rb (p.add (fs.length *10)) (fs.map FM.x) (jd tp) st wd (λ_=>True) w') H h4 5 2 3 (by omega) rfl (by omega) hal (λt ht=>h3 f (by simp) t ht) λs' w' H'=>⟨rfl,sI.then f1 o1 b1 t1 ?_⟩
 have:=St.of (ts:=VP) (A:=λ_=>True) (f0:=p.add (fs.length *10)) H' 0 rfl (FY h3 (by omega) (by omega) (by omega) (by omega)) h4 rfl (tK (w0:=w) (M:=F0) (λb hb=>.inl hb) (JN H (by omega) (by omega)) λt ht=>h3 f (by simp) t (rM f 3 ht)) (λt ht=>qf _ ht) trivial
 have e:((f.put 2 (s',(f.e8 2).2++[py 5 (f.e8 3).1 (f.e8 3).2])).put 3 (⟨none,0,0⟩,[])).x=jd tp:=by
  have hk:f.x.k=tp.k:=by rw [hx];rfl
  have har:f.x.ar=tp.ar:=by rw [hx];rfl
  have hall:f.x.al=tp.al:=by rw [hx];rfl
  have han:f.x.an=(kV tp).an:=by rw [hx]
  have BW:f.x.ca=[]:=by rw [hx];rfl
  have U0:f.x.n=0:=by rw [hx];rfl
  have Jh:f.x.la=tp.la:=by rw [hx];rfl
  unfold jd
  rw [<-hk,<-har,<-hall,<-han,<-Jh]
  show FX.mk f.k (f.ar.1,Rt.bV f.ar.2) (Rt.bV (f.al.2++[py 5 f.an.1 f.an.2])) (Rt.bV []) (Rt.bV f.ca.2) f.n f.la.rx=_
  have XD:f.n=0:=U0
  have hc0:Rt.bV f.ca.2=[]:=BW
  rw [XD,hc0,kz]
  simp [Rt.bV,Dv,FM.x]
 rw [e] at this
 exact this
abbrev SF (M:Nat->Prop) (w0 w:World) (rb:Nat) (sl:Sl) (st wd:Int) (fs:List FM) (f:FM) (G:List En) (ts:List Rt):Prop:=LH M w0 w (SL rb sl st wd ((fs++[f]).flatMap FM.c) ((fs++[f]).flatMap FM.rows)++G) [.trees ts]
section
variable {M:Nat->Prop} {w0 w:World} {bs:List Nat} {G:List En} {rb:Nat} {sl:Sl} {st wd:Int} {fs:List FM} {f:FM} {ts:List Rt} {p:Addr}
theorem Yo (H:SF M w0 w rb sl st wd fs f G ts) (h3:∀g∈fs++[f],∀t∈g.ts,t∈ts) (hp:sl.a=some p):
  St w rb (p.add (fs.length *10)) (fs.map FM.x) f.x st wd ((SL rb sl st wd ((fs++[f]).flatMap FM.c) ((fs++[f]).flatMap FM.rows)).flatMap (·.fp)) ts:=by
 have nd:=H.nd
 rw [r8,Bj] at nd
 refine ⟨sl,fs,f,p,rfl,rfl,h3,hp,rfl,rfl,nd.1,λe he=>H.own e (qf _ he),H.getD 0,λb hb hm=>?_⟩
 obtain ⟨e,he,rS⟩:=mI.1 hm
 exact H.dj (.trees ts) (by simp) b (aH.2 hb) e (qf _ he) rS
theorem Oo (H:SF M w0 w rb sl st wd fs f G ts) {w':World} {A3:Addr} {vu:List FX} {yM:FX} {dO sR:Int} {iZ:List Nat} {lW:List Rt} (s:St w' rb A3 vu yM dO sR iZ lW) (fr:Fr (·∈(SL rb sl st wd ((fs++[f]).flatMap FM.c) ((fs++[f]).flatMap FM.rows)).flatMap (·.fp)) w w') (o:∀x∈iZ,x∈(SL rb sl st wd ((fs++[f]).flatMap FM.c) ((fs++[f]).flatMap FM.rows)).flatMap (·.fp)\/w.heap.size<=x)
  (hb:∀b∈Rt.gV lW,b∈Rt.gV ts\/b∈(SL rb sl st wd ((fs++[f]).flatMap FM.c) ((fs++[f]).flatMap FM.rows)).flatMap (·.fp)\/w.heap.size<=b):
  ∃(yw:Sl) (ux:List FM) (f':FM) (p':Addr),ux.map FM.x=vu/\f'.x=yM/\(∀g∈ux++[f'],∀t∈g.ts,t∈lW)/\yw.a=some p'/\A3=p'.add (ux.length *10)/\(∀b∈Rt.gV lW,b∈Rt.gV ts\/w0.heap.size<=b\/M b)/\SF M w0 w' rb yw dO sR ux f' G lW:=by
 obtain ⟨yw,ux,f',p',h1,h2,h3,h4,h5,h6,h7,h8,h9,Dd⟩:=s
 have nd:=H.nd
 rw [r8,Bj] at nd
 have Ib:∀b∈(SL rb sl st wd ((fs++[f]).flatMap FM.c) ((fs++[f]).flatMap FM.rows)).flatMap (·.fp),w0.heap.size<=b\/M b:=λb hb=>by
  obtain ⟨e,he,rS⟩:=mI.1 hb
  exact H.new e (qf _ he) b rS
 have Xi:∀e∈G,∀b∈e.fp,b<w.heap.size:=λe he b hb=>e.lt w (H.own e (uD _ he)) b hb
 have Hw:∀e∈G,∀b∈e.fp,b∉(SL rb sl st wd ((fs++[f]).flatMap FM.c) ((fs++[f]).flatMap FM.rows)).flatMap (·.fp):=λe he b hb hm=>nd.2.2 b hm b (mI.2 ⟨e,he,hb⟩) rfl
 have mH:=H.fr.size
 have N1:∀b∈iZ,w0.heap.size<=b\/M b:=λb hb=>(o b hb).elim (Ib b) λh=>.inl (Nat.le_trans mH h)
 refine ⟨yw,ux,f',p',h1,h2,h3,h4,h5,λb eG=>?_,H.fr.trans fr λx hx hm=>(Ib x hm).resolve_left (by omega),λe he=>?_,λe he=>?_,λe he b eG=>?_,?_,λe he b eG e' mG rS=>?_⟩
 .rcases hb b eG with h|h|h
  .exact .inl h
  .exact .inr (Ib b h)
  .exact .inr (.inl (Nat.le_trans mH h))
 .rcases fS.1 he with he|he
  .exact h8 e he
  .exact e.st w w' (λb hb hl=>fr.gY b hl (Hw e he b hb)) (H.own e (uD _ he))
 .simp at he;subst he;exact h9
 .rcases fS.1 he with he|he
  .exact N1 b (by rw [h6];exact mI.2 ⟨e,he,eG⟩)
  .exact H.new e (uD _ he) b eG
 .rw [r8,Bj]
  refine ⟨h6▸h7,nd.2.1,λx hx y hy XQ=>?_⟩
  subst XQ
  obtain ⟨e,he,rS⟩:=mI.1 hy
  rcases o x (by rw [h6];exact hx) with h|h
  .exact Hw e he x rS h
  .have:=Xi e he x rS;omega
 .simp at he;subst he
  have Dg:b∈Rt.gV lW:=aH.1 eG
  rcases fS.1 mG with mG|mG
  .exact Dd b Dg (by rw [h6];exact mI.2 ⟨e',mG,rS⟩)
  .rcases hb b Dg with h|h|h
   .exact H.dj (.trees ts) (by simp) b (aH.2 h) e' (uD _ mG) rS
   .exact Hw e' mG b rS h
   .have:=Xi e' mG b rS;omega
theorem _root_.Go.W.LH.LF (H:SF M w0 w rb sl st wd fs f G ts) (h3:∀g∈fs++[f],∀t∈g.ts,t∈ts) (hp:sl.a=some p) {g:FuncId} {args:Array Value} {K:aD} {Q:Ending->Addr->List FX->FX->Int->Int->List Rt->Prop}
  (hc:∀own,St w rb (p.add (fs.length *10)) (fs.map FM.x) f.x st wd own ts->Calls Tryz.prog g args w (CE w own ts rb Q))
  (hk:∀r w' (yw:Sl) (ux:List FM) (f':FM) (p':Addr) (dO sR:Int) (lW:List Rt),(∀t∈ts,t∈lW)->(∀g∈ux++[f'],∀t∈g.ts,t∈lW)->yw.a=some p'->(∀b∈Rt.gV lW,b∈Rt.gV ts\/w0.heap.size<=b\/M b)->Q r (p'.add (ux.length *10)) (ux.map FM.x) f'.x dO sR lW->SF M w0 w' rb yw dO sR ux f' G lW->K r w')
  (ke:∀b∈bs,En.g b∈G:=by simp):fE bs Tryz.prog g args w K:=by
 have nd:=H.nd
 rw [r8,Bj] at nd
 refine ⟨(·∈(SL rb sl st wd ((fs++[f]).flatMap FM.c) ((fs++[f]).flatMap FM.rows)).flatMap (·.fp)),λb hb hm=>?_,(hc _ (Yo H h3 hp)).mono ?_⟩
 .exact nd.2.2 b hm b (mI.2 ⟨_,ke b hb,by simp [En.g]⟩) rfl
 .rintro r w' ⟨A3,vu,yM,dO,sR,iZ,lW,s,fr,o,b,t,q⟩
  obtain ⟨yw,ux,f',p',rfl,rfl,KC,Ji,rfl,eG,H'⟩:=Oo H s fr o b
  exact ⟨fr,hk r w' yw ux f' p' dO sR lW t KC Ji eG q H'⟩
theorem _root_.Go.W.LH.PD (H:SF M w0 w rb sl st wd fs f G ts) (h3:∀g∈fs++[f],∀t∈g.ts,t∈ts) (hp:sl.a=some p) {g:FuncId} {args:Array Value} {K:aD} {Q:Ending->Addr->List FX->FX->Int->Int->List Rt->Prop}
  (hc:∀own,St w rb (p.add (fs.length *10)) (fs.map FM.x) f.x st wd own ts->Calls Tryz.prog g args w (CE w own ts rb Q))
  (hk:∀r w' (yw:Sl) (ux:List FM) (f':FM) (p':Addr) (dO sR:Int) (lW:List Rt),(∀t∈ts,t∈lW)->(∀g∈ux++[f'],∀t∈g.ts,t∈lW)->yw.a=some p'->(∀b∈Rt.gV lW,b∈Rt.gV ts\/w0.heap.size<=b\/M b)->Q r (p'.add (ux.length *10)) (ux.map FM.x) f'.x dO sR lW->SF M w0 w' rb yw dO sR ux f' G lW->K r w'):Calls Tryz.prog g args w K:=by
 obtain ⟨_,_,h⟩:=H.LF (bs:=[]) h3 hp hc hk (by simp)
 exact h.mono λr w' h=>h.2
end
theorem Ht (f:FM):f.x.ar.2.length=f.ar.2.length/\f.x.al.length=f.al.2.length/\f.x.an.length=f.an.2.length/\f.x.ca.length=f.ca.2.length:=by
 refine ⟨?_,?_,?_,?_⟩<;>(show (Rt.bV _).length=_;rw [Rt.fC];simp)
theorem CM {w:World} {own:List Nat} {ts:List Rt} {rb:Nat} {f0:Addr} {lo:List FX} {tp:FX} {st wd:Int} {g:FuncId} {args:Array Value} (h:Calls Tryz.prog g args w λr w'=>r=.returned (.tuple #[])/\sI w own ts rb f0 lo tp st wd (λ_=>True) w'):
  Calls Tryz.prog g args w (CE w own ts rb λr A3 vu yM dO sR _=>r=.returned (.tuple #[])/\A3=f0/\vu=lo/\yM=tp/\dO=st/\sR=wd):=
 h.mono λr w' ⟨h1,h2⟩=>⟨f0,lo,tp,st,wd,h2.mono λ_ _=>⟨h1,rfl,rfl,rfl,rfl,rfl⟩⟩
structure Small (f:FX) (n:Nat):Prop where
 n':f.n<=n
 ar:f.ar.2.length<=n
 al:f.al.length<=n
 an:f.an.length<=n
 ca:f.ca.length<=n
theorem tU {w:World} {rb:Nat} {f0:Addr} {lo:List FX} {tp:FX} {st wd:Int} {own:List Nat} {ts:List Rt} (h:St w rb f0 lo tp st wd own ts) (hs:Small tp 1000000):
  Calls Tryz.prog fI #[.pointer (some f0)] w (CE w own ts rb λr A3 vu yM dO sR lW=>A3=f0/\vu=lo/\yM=zw tp/\dO=st/\sR=wd/\∃t∈lW,r=.returned t.v/\t.rx=iP tp):=by
 obtain ⟨sl,fs,f,p,rfl,rfl,h3,h4,rfl,h6,h7,h8,h9,Dd⟩:=h
 have H:SF (·∈own) w w rb sl st wd fs f [] ts:=by
  have:=St.sY h6 h7 h8 h9 Dd
  show LH _ _ _ (_++[]) _
  rw [Cf]
  exact this
 refine regex_frame_endExpr.cU _ w _ (H.bF (bs:=[]) (λb2 w1 H1=>?_) (by simp))
 refine (show SF (·∈own) w w1 rb sl st wd fs f [.g b2] ts from H1).LF (bs:=[b2]) h3 h4 (λpA s1=>CM (Bz s1 hs.n' hs.ca hs.an hs.al)) ?_ (by simp)
 rintro _ w2 O7 zE f2 p2 lf RO D1 t2 GI UL b2' ⟨rfl,OX,rK,jt,rfl,rfl⟩ H2
 rw [<-OX,<-rK]
 have iO:((zE++[f2]).flatMap FM.rows)[zE.length *4+(2 - 1)]? =some ((f2.e8 2).1,(f2.e8 2).2.flatMap Rt.c):=oZ zE f2 1 _ (BJ f2 (j:=2) (by omega) (by omega))
 have hrd:jU 4 w2 f2.al.1 (f2.al.2.flatMap Rt.c):=by
  have hP:(En.rows ((zE++[f2]).flatMap FM.rows)).P w2:=H2.get 2
  exact (hP.1 _ (cR iO)).iD
 refine ⟨rfl,f2.al.1,H2.zT 1 rfl UL 2,H2.aK (Hh 4 _ _ w2 hrd) ?_⟩
 rintro _ w3 rfl H3
 refine ⟨_,_,_,_,rfl,H3.bF (bs:=[b2]) (λb3 w4 H4=>H4.aL (bs:=[b2,b3]) (λw5 H5=>?_) (by simp)) (by simp)⟩
 refine H5.D0 (bs:=[b2,b3]) (f:=f2) 1 (f2.put 2 (⟨none,0,0⟩,[])) 2 rfl UL (by omega) rfl (λw6 H6=>H6.aL (bs:=[b2,b3]) (λw7 H7=>?_) (by simp)) (by simp)
 have H8:=H7.Dc 2 (zE.length *4+(2 - 1)) rfl iO
 have H9:=H8.Jw 0 4 (s:=f2.al.1) (ks:=f2.al.2) rfl (by simp [FM.e8]) λt ht=>GI f2 (by simp) t (rM f2 2 ht)
 have er:=tW zE f2 (⟨none,0,0⟩,[]) (j:=2) (by omega) (by omega)
 have e':(([]:List Rt).flatMap Rt.c)=[]:=rfl
 rw [e'] at er
 simp only at er
 have mJ:LH (·∈own) w w7 (SL rb O7 lf RO ((zE++[f2.put 2 (⟨none,0,0⟩,[])]).flatMap FM.c) ((zE++[f2.put 2 (⟨none,0,0⟩,[])]).flatMap FM.rows)) [.trees (D1++[py 4 f2.al.1 f2.al.2])]:=by
  rw [<-er]
  exact H9.take 3
 have qB:∀b∈aZ f2.al.1,b∈own\/w.heap.size<=b:=λb hb=>(H2.new (.rows ((zE++[f2]).flatMap FM.rows)) (by simp) b (aH.2 (mI.2 ⟨_,cR iO,hb⟩))).symm
 have ex:(f2.put 2 (⟨none,0,0⟩,[])).x=zw f.x:=by
  have e1:f2.k=f.k:=by have:=congrArg FX.k jt;exact this
  have e2:(f2.ar.1,Rt.bV f2.ar.2)=f.x.ar:=by have:=congrArg FX.ar jt;exact this
  have e3:Rt.bV f2.an.2=[]:=by have:=congrArg FX.an jt;exact this
  have e4:Rt.bV f2.ca.2=[]:=by have:=congrArg FX.ca jt;exact this
  have e5:f2.n=0:=by have:=congrArg FX.n jt;exact this
  have e6:f2.la.rx=f.x.la:=by have:=congrArg FX.la jt;exact this
  show FX.mk f2.k (f2.ar.1,Rt.bV f2.ar.2) (Rt.bV []) (Rt.bV f2.an.2) (Rt.bV f2.ca.2) f2.n f2.la.rx=_
  rw [e1,e2,e3,e4,e5,e6]
  rfl
 refine ⟨_,_,_,_,_,St.of (ts:=ts) (f0:=p2.add (zE.length *10)) mJ 0 rfl (λg hg t ht=>?_) UL rfl (tK (w0:=w) (M:=F0) (λb hb=>(b2' b hb).imp id Or.symm) qB λt ht=>GI f2 (by simp) t (rM f2 2 ht)) (λt ht=>qf _ (t2 t ht)) ⟨rfl,rfl,ex,rfl,rfl,py 4 f2.al.1 f2.al.2,by simp,rfl,?_⟩⟩
 .rcases fS.1 hg with hg|hg
  .exact qf _ (GI g (by simp [hg]) t ht)
  .simp at hg;subst hg
   rcases DA _ _ (by omega) (by omega) ht with h|h
   .exact qf _ (GI f2 (by simp) t h)
   .cases h
 .rw [Dv]
  have:=congrArg FX.al jt
  have e:Rt.bV f2.al.2=(jd f.x).al:=this
  rw [e];rfl
theorem l9 {p:Addr} {K:Addr->Prop} (h:K p):aW (some p) K:=h
theorem W':iy Tryz.prog lj cB (.agg #[.int .i64 0,.slice none 0 0,.slice none 0 0,.slice none 0 0,.slice none 0 0,.int .i64 0,.int .i64 0,.int .u8 0,.int .u8 0,.slice none 0 0]) 10 152:=⟨by kernel_rfl,by kernel_rfl,rfl,by decide,by decide⟩
section
variable {M:Nat->Prop} {w0 w:World} {L D:List En} {bs:List Nat} {G:List En} {rb:Nat} {sl:Sl} {st wd:Int} {fs:List FM} {f:FM} {ts:List Rt} {p:Addr}
theorem _root_.Go.W.LH.Wu (H:LH M w0 w L D) (i j:Nat) {b:Nat} {vs:List Value} {T:TypeId} {v:Value} {K:World->Prop} (hi:L[i]? =some (.c b vs T)) (hK:∀w',LH M w0 w' (L.set i (.c b (vs.set j v) T)) D->K w') (hj:j<vs.length) (ke:∀b∈bs,En.g b∈L:=by simp):bT w ((bD b).add j) v λw1=>kept bs w w1/\K w1:=by
 obtain ⟨x1,x2,x3⟩:=H.set (v:=v) i j hi hj
 refine ⟨x1,x2,λb' eG=>?_,hK _ x3⟩
 have ie:b'≠b:=by
  rintro rfl
  refine oB H hi (λn hP=>?_) (ke _ eG) (by simp [En.ob])
  have h:({w with heap:=Array.replicate (n+1) (.map #[] 0)}:World).heap[b']? =some (.cells vs.toArray T (0,0)):=hP
  simp [Array.getElem?_replicate] at h
 have hf:Fr (·=b) w (w.setCell ((bD b).add j) v):=Fr.set _ _ _ (by rw [gP])
 exact hf.gY b' (H.own _ (ke _ eG)) ie
theorem Ro (H:SF M w0 w rb sl st wd fs f G ts):sl.n=fs.length+1:=by
 have ho:aO w cB 10 sl ((fs++[f]).flatMap FM.c):=H.get 1
 have:=ho.len
 rw [ti] at this
 simp at this
 omega
theorem IW (H:SF M w0 w rb sl st wd fs f G ts) (hp:sl.a=some p) (hn:fs.length<=1000000):Calls Tryz.prog eY #[.pointer (some (bD rb))] w λr w'=>r=.returned (.pointer (some (p.add (fs.length *10))))/\bG w w':=by
 have hl:=Ro H
 have e:IntKind.wrap .i64 (((sl.n:Nat):Int) - 1)=(fs.length:Int):=by rw [IntWalk.i64_in _ (by omega)];omega
 have H1:SF M w0 w.drew rb sl st wd fs f G ts:=H.drew
 refine regex_reader_top.ok _ w _ (show _ from ⟨sl,H1.ld 0 0,sl,H1.ld 0 0,?_⟩)
 rw [e,hp]
 exact ⟨by omega,by omega,rfl,Fr.drew _ _⟩
theorem DI (H:SF M w0 w rb sl st wd fs f G ts) (k:Int) (lo hi:UInt8):SF M w0 w rb sl st wd fs f G (ts++[.mk k lo hi ⟨none,0,0⟩ []]):=by
 have H1:=H.nf (.trees (ts++[.mk k lo hi ⟨none,0,0⟩ []])) (Fr.refl _ _) (Rt.oX λt ht=>?_) λb hb=>.inr (.inr ⟨.trees ts,by simp,?_⟩)
 .exact H1.forget _ (by simp)
 .rcases fS.1 ht with ht|ht
  .exact Rt.Ps.mem (H.getD 0) ht
  .simp at ht;subst ht
   show Rt.P w _
   unfold Rt.P Rt.Ps
   exact ⟨jU.nil 4 w,trivial⟩
 .obtain ⟨t,ht,eG⟩:=Rt.bC.1 (aH.1 hb)
  rcases fS.1 ht with ht|ht
  .exact aH.2 (Rt.bC.2 ⟨t,ht,eG⟩)
  .simp at ht
   rw [ht] at eG
   unfold Rt.fp Rt.gV at eG
   simp [En.iD] at eG
theorem wi {k:Int} {lo hi:UInt8} {b:Nat} (h:b∈Rt.gV (ts++[.mk k lo hi ⟨none,0,0⟩ []])):b∈Rt.gV ts:=by
 obtain ⟨t,ht,eG⟩:=Rt.bC.1 h
 rcases fS.1 ht with ht|ht
 .exact Rt.bC.2 ⟨t,ht,eG⟩
 .simp at ht
  rw [ht] at eG
  unfold Rt.fp Rt.gV at eG
  simp [En.iD] at eG
theorem Of (H:LH M w0 w L D) (i:Nat) {rs:List ln} (hi:L[i]? =some (.rows rs)) (n:Nat):LH M w0 w (L.set i (.rows (rs++List.replicate n (⟨none,0,0⟩,[])))) D:=by
 have hp:(En.rows rs).P w:=H.get i hi
 have e:(rs++List.replicate n ((⟨none,0,0⟩,[]):ln)).flatMap (λq:ln=>aZ q.1)=rs.flatMap λq:ln=>aZ q.1:=by
  rw [r8]
  have:(List.replicate n ((⟨none,0,0⟩,[]):ln)).flatMap (λq:ln=>aZ q.1)=[]:=by
   induction n with
   |zero=>rfl
   |succ n ih=>rw [List.replicate_succ,vw,ih];rfl
  rw [this,Cf]
 refine H.D2 i _ hi (Fr.refl _ _) ⟨λq hq=>?_,by rw [e];exact hp.2⟩ λb hb=>.inl (aH.2 (by have:=aH.1 hb;rw [e] at this;exact this))
 rcases fS.1 hq with hq|hq
 .exact hp.1 q hq
 .rw [List.eq_of_mem_replicate hq];exact aO.nil _ _ _
end
def ry (k:Int):FX:=⟨k,(⟨none,0,0⟩,[]),[],[],[],0,xF⟩
def oV (k:Int):FM:=⟨k,(⟨none,0,0⟩,[]),(⟨none,0,0⟩,[]),(⟨none,0,0⟩,[]),(⟨none,0,0⟩,[]),0,.mk 0 0 0 ⟨none,0,0⟩ []⟩
theorem yX {w:World} {rb:Nat} {f0:Addr} {lo:List FX} {tp:FX} {st wd:Int} {own:List Nat} {ts:List Rt} (h:St w rb f0 lo tp st wd own ts):∃(sl:Sl) (fs:List FM) (f:FM) (p:Addr),fs.map FM.x=lo/\f.x=tp/\(∀g∈fs++[f],∀t∈g.ts,t∈ts)/\sl.a=some p/\f0=p.add (fs.length *10)/\SF (·∈own) w w rb sl st wd fs f [] ts:=by
 obtain ⟨sl,fs,f,p,h1,h2,h3,h4,h5,h6,h7,h8,h9,Dd⟩:=h
 refine ⟨sl,fs,f,p,h1,h2,h3,h4,h5,?_⟩
 have:=St.sY h6 h7 h8 h9 Dd
 show LH _ _ _ (_++[]) _
 rw [Cf]
 exact this
theorem Mx {w:World} {rb:Nat} {f0:Addr} {lo:List FX} {tp:FX} {st wd:Int} {own:List Nat} {ts:List Rt} (h:St w rb f0 lo tp st wd own ts) (hl:lo.length<=1000000) (kind state:Int):
  Calls Tryz.prog jD #[.pointer (some (bD rb)),.int .i64 kind,.int .i64 state] w (CE w own ts rb λr _ vu yM dO sR _=>r=.returned (.bool true)/\vu=lo++[tp]/\yM=ry kind/\dO=state/\sR=wd):=by
 obtain ⟨sl,fs,f,p,rfl,rfl,h3,h4,rfl,H⟩:=yX h
 have hn:=Ro H
 have Nr:fs.length<=1000000:=by simpa using hl
 refine regex_reader_push.ok _ _ _ w _ ⟨sl,H.ld 0 0,H.iQ (e:=cB) (sz:=10) (n:=1) (cs:=(oV kind).c) rfl (by decide) λw1 H1=>?_⟩
 refine H1.apk 1 W' (src:=⟨some (bD w.heap.size),1,1⟩) (news:=(oV kind).c) rfl (aO.iD (H1.get 3)).2.2 rfl (by simp [FM.c,oV,Value.oneCell']) (by show (sl.n+1) *152<=_;omega) λs' w2 H2 xw rr _=>?_
 obtain ⟨q,hq⟩:∃q,s'.a=some q:=by
  cases hs:s'.a with
  |none=>have:=(rr hs).2;simp at this
  |some q=>exact ⟨q,rfl⟩
 have H3:LH (·∈own) w w2 [.c rb [sl.v,.int .i64 st,.int .i64 wd] hO,.row cB 10 s' ((fs++[f]).flatMap FM.c++(oV kind).c),.rows ((fs++[f]).flatMap FM.rows)] [.trees ts]:=H2.take 3
 refine H3.st 0 0 rfl (λw3 H4=>H4.st 0 1 rfl (λw4 H5=>?_))
 have H6:=Of H5 2 rfl 4
 have H7:SF (·∈own) w w4 rb s' state wd (fs++[f]) (oV kind) [] ts:=by
  show LH _ _ _ (SL rb s' state wd ((fs++[f]++[oV kind]).flatMap FM.c) ((fs++[f]++[oV kind]).flatMap FM.rows)++[]) _
  rw [Cf,r8 (xs:=fs++[f]),r8 (xs:=fs++[f])]
  simpa [show (oV kind).rows=[(⟨none,0,0⟩,[]),(⟨none,0,0⟩,[]),(⟨none,0,0⟩,[]),(⟨none,0,0⟩,[])] from rfl] using H6
 have H8:=DI H7 0 0 0
 have H9:LH (·∈own) w w4 (SL rb s' state wd ((fs++[f]++[oV kind]).flatMap FM.c) ((fs++[f]++[oV kind]).flatMap FM.rows)) [.trees (ts++[.mk 0 0 0 ⟨none,0,0⟩ []])]:=H8.take 3
 refine ⟨_,_,_,_,_,St.of (ts:=ts) (p:=q) (f0:=q.add ((fs++[f]).length *10)) H9 0 rfl (λg hg t ht=>?_) hq rfl (λb hb=>.inl (wi hb)) (λt ht=>qf _ ht) ⟨rfl,?_,rfl,rfl,rfl⟩⟩
 .rcases fS.1 hg with hg|hg
  .exact qf _ (h3 g hg t ht)
  .simp at hg;subst hg
   simp [FM.ts,oV] at ht
   simp [ht]
 .simp
def oO (tp:FX) (x:Rx):FX:=⟨tp.k,tp.ar,tp.al,tp.an,tp.ca,tp.n,x⟩
theorem He {w:World} {rb:Nat} {f0:Addr} {lo:List FX} {tp:FX} {st wd:Int} {own:List Nat} {ts:List Rt} (h:St w rb f0 lo tp st wd own ts) (hl:lo.length<=1000000) (t:Rt) (ht:t∈ts):
  Calls Tryz.prog eL #[.pointer (some (bD rb)),t.v] w (CE w own ts rb λr A3 vu yM dO sR _=>r=.returned (.bool true)/\A3=f0/\vu=lo/\yM=oO tp t.rx/\dO=3/\sR=wd):=by
 obtain ⟨sl,fs,f,p,rfl,rfl,h3,h4,rfl,H⟩:=yX h
 have Nr:fs.length<=1000000:=by simpa using hl
 refine regex_reader_atom.cU _ _ _ _ _ w _ (H.bF (bs:=[]) (λb3 w1 H1=>H1.aL (bs:=[b3]) (λw2 H2=>?_) (by simp)) (by simp))
 have H2':SF (·∈own) w w2 rb sl st wd fs f [.g b3] ts:=H2
 refine H2'.aK (IW H2' h4 Nr) ?_
 rintro _ w3 rfl H3
 refine ⟨_,rfl,l9 ?_⟩
 refine H3.D0 (bs:=[b3]) (f:=f) 1 ⟨f.k,f.ar,f.al,f.an,f.ca,f.n,.mk t.k f.la.lo f.la.hi f.la.s f.la.l⟩ 6 rfl h4 (by omega) rfl (λw4 H4=>?_) (by simp)
 have a1:((p.add (fs.length *10)).add 6).add 1=(p.add (fs.length *10)).add 7:=add_add _ 6 1
 have a2:((p.add (fs.length *10)).add 6).add 2=(p.add (fs.length *10)).add 8:=add_add _ 6 2
 have a3:((p.add (fs.length *10)).add 6).add 3=(p.add (fs.length *10)).add 9:=add_add _ 6 3
 rw [a1,a2,a3]
 refine H4.D0 (bs:=[b3]) (f:=⟨f.k,f.ar,f.al,f.an,f.ca,f.n,.mk t.k f.la.lo f.la.hi f.la.s f.la.l⟩) 1 ⟨f.k,f.ar,f.al,f.an,f.ca,f.n,.mk t.k t.lo f.la.hi f.la.s f.la.l⟩ 7 rfl h4 (by omega) rfl (λw5 H5=>?_) (by simp)
 refine H5.D0 (bs:=[b3]) (f:=⟨f.k,f.ar,f.al,f.an,f.ca,f.n,.mk t.k t.lo f.la.hi f.la.s f.la.l⟩) 1 ⟨f.k,f.ar,f.al,f.an,f.ca,f.n,.mk t.k t.lo t.hi f.la.s f.la.l⟩ 8 rfl h4 (by omega) rfl (λw6 H6=>?_) (by simp)
 refine H6.D0 (bs:=[b3]) (f:=⟨f.k,f.ar,f.al,f.an,f.ca,f.n,.mk t.k t.lo t.hi f.la.s f.la.l⟩) 1 ⟨f.k,f.ar,f.al,f.an,f.ca,f.n,t⟩ 9 rfl h4 (by omega) rfl (λw7 H7=>?_) (by simp)
 refine H7.Wu (bs:=[b3]) 0 1 rfl (λw8 H8=>?_) (by simp) (by simp)
 have er:(fs++[f]).flatMap FM.rows=(fs++[(⟨f.k,f.ar,f.al,f.an,f.ca,f.n,t⟩:FM)]).flatMap FM.rows:=by simp [FM.rows]
 have H9:LH (·∈own) w w8 (SL rb sl 3 wd ((fs++[(⟨f.k,f.ar,f.al,f.an,f.ca,f.n,t⟩:FM)]).flatMap FM.c) ((fs++[(⟨f.k,f.ar,f.al,f.an,f.ca,f.n,t⟩:FM)]).flatMap FM.rows)) [.trees ts]:=by
  rw [<-er]
  exact H8.take 3
 refine ⟨_,_,_,_,_,St.of (ts:=ts) (f0:=p.add (fs.length *10)) H9 0 rfl (λg hg u hu=>?_) h4 rfl (λb hb=>.inl hb) (λt ht=>ht) ⟨rfl,rfl,rfl,rfl,rfl,rfl⟩⟩
 rcases fS.1 hg with hg|hg
 .exact h3 g (by simp [hg]) u hu
 .simp at hg;subst hg
  simp only [FM.ts,fS,cS,fF,or_false] at hu
  rcases hu with (((hu|hu)|hu)|hu)|rfl
  .exact h3 f (by simp) u (by simp [FM.ts,hu])
  .exact h3 f (by simp) u (by simp [FM.ts,hu])
  .exact h3 f (by simp) u (by simp [FM.ts,hu])
  .exact h3 f (by simp) u (by simp [FM.ts,hu])
  .exact ht
structure Tk where
 k:UInt8
 lo:UInt8
 hi:UInt8
 s:List UInt8
 a:Int
abbrev Tk.v (t:Tk):Value:=.agg #[.int .u8 (t.k.toNat:Int),.int .u8 (t.lo.toNat:Int),.int .u8 (t.hi.toNat:Int),.string (ba t.s),.int .i64 t.a]
structure SX where
 lo:List FX
 tp:FX
 st:Int
 wd:Int
def J9:List UInt8:=[110,111,110,101]
def DT:List UInt8:=[101,109,112,116,121]
def RL:List UInt8:=[97,108,116]
def RK:List UInt8:=[97,108,108]
def RM:List UInt8:=[99,97,116]
def jY (t:Tk) (s:SX):Option SX:=
 if t.k=33 then some ⟨s.lo,⟨s.tp.k,s.tp.ar,s.tp.al,s.tp.an,s.tp.ca,s.tp.n+1,s.tp.la⟩,0,s.wd⟩
 else if t.k=40 then some ⟨s.lo++[s.tp],ry (-1),0,s.wd⟩
 else if t.k=114 then some ⟨s.lo,oO s.tp (.mk 2 t.lo t.hi []),3,s.wd⟩
 else if t.k=119 then
  if t.s=J9 then some ⟨s.lo,oO s.tp (.mk 0 0 0 []),3,s.wd⟩
  else if t.s=DT then some ⟨s.lo,oO s.tp (.mk 1 0 0 []),3,s.wd⟩
  else if t.s=RL then some ⟨s.lo,s.tp,2,4⟩
  else if t.s=RK then some ⟨s.lo,s.tp,2,5⟩
  else if t.s=RM then some ⟨s.lo,s.tp,2,3⟩
  else none
 else none
def Pf (o:Option SX):Ending->Addr->List FX->FX->Int->Int->List Rt->Prop:=λr _ lo tp st wd _=>(o=none/\r=.returned (.bool false))\/(o=some ⟨lo,tp,st,wd⟩/\r=.returned (.bool true))
section
variable {w w':World} {own:List Nat} {G:List En} {rb:Nat} {sl:Sl} {st wd:Int} {fs:List FM} {f:FM} {ts lW:List Rt} {p:Addr}
theorem jz {Q:Ending->Addr->List FX->FX->Int->Int->List Rt->Prop} {r:Ending} (H:SF (·∈own) w w' rb sl st wd fs f G lW) (h3:∀g∈fs++[f],∀t∈g.ts,t∈lW) (hp:sl.a=some p) (hb:∀b∈Rt.gV lW,b∈Rt.gV ts\/w.heap.size<=b\/b∈own) (ht:∀t∈ts,t∈lW) (q:Q r (p.add (fs.length *10)) (fs.map FM.x) f.x st wd lW):CE w own ts rb Q r w':=
 ⟨_,_,_,_,_,St.of (ts:=ts) (f0:=p.add (fs.length *10)) (H.take 3) 0 rfl h3 hp rfl (λb h=>(hb b h).imp id Or.symm) ht q⟩
end
theorem YI (s:List UInt8):(ba s).toList=s:=by rw [ByteArray.toList_eq];rfl
theorem YJ (a:Array UInt8):(ByteArray.mk a).toList=a.toList:=by rw [ByteArray.toList_eq]
theorem wI {s:List UInt8} {a:Array UInt8} {A B:Prop} (h1:s=a.toList->A) (h2:s≠a.toList->B):aG ((ba s).toList==(ByteArray.mk a).toList) A B:=by
 rw [YI,YJ]
 exact bA (λh=>h1 (by simpa using h)) (λh=>h2 (by simpa using h))
theorem mC {x:UInt8} {n:Nat} {A B:Prop} (hn:n<256) (h1:x=UInt8.ofNat n->A) (h2:x≠UInt8.ofNat n->B):aG (((x.toNat:Nat):Int)==(n:Int)) A B:=by
 have e:∀x:UInt8,x.toNat=n↔x=UInt8.ofNat n:=λx=>by
  rw [<-UInt8.toNat_inj,UInt8.toNat_ofNat']
  omega
 exact bA (λh=>h1 ((e x).1 (by have:=eq_of_beq h;omega))) (λh=>h2 λhx=>by
  have:x.toNat=n:=(e x).2 hx
  rw [this] at h
  simp at h)
theorem Um {w:World} {rb:Nat} {f0:Addr} {lo:List FX} {tp:FX} {st wd:Int} {own:List Nat} {ts:List Rt} (h:St w rb f0 lo tp st wd own ts) (hl:lo.length<=1000000) (hn:tp.n<=1000000) (t:Tk):
  Calls Tryz.prog gF #[.pointer (some (bD rb)),t.v] w (CE w own ts rb (Pf (jY t ⟨lo,tp,st,wd⟩))):=by
 obtain ⟨sl,fs,f,p,rfl,rfl,h3,h4,rfl,H⟩:=yX h
 have Nr:fs.length<=1000000:=by simpa using hl
 have xw:f.n<=1000000:=hn
 have base:∀b∈Rt.gV ts,b∈Rt.gV ts\/w.heap.size<=b\/b∈own:=λb hb=>.inl hb
 refine regex_reader_item.cU _ _ _ _ _ _ w _ (H.bF (bs:=[]) (λb3 w1 H1=>?_) (by simp))
 have H1:SF (·∈own) w w1 rb sl st wd fs f [.g b3] ts:=H1
 have leaf:∀(k:Int) (a b:UInt8) {w2:World} {lf RO:Int},SF (·∈own) w w2 rb sl lf RO fs f [.g b3] ts->jY t ⟨fs.map FM.x,f.x,st,wd⟩=some ⟨fs.map FM.x,oO f.x (.mk k a b []),3,RO⟩->
   fE [b3] Tryz.prog eL #[.pointer (some (bD rb)),.agg #[.i k,.int .u8 (a.toNat:Int),.int .u8 (b.toNat:Int),.slice none 0 0]] w2 λr_ w6=>∃t32:Bool,r_=.returned (.bool t32)/\CE w own ts rb (Pf (jY t ⟨fs.map FM.x,f.x,st,wd⟩)) (.returned (.bool t32)) w6:=by
  intro k a b w2 lf RO H2 he
  have H3:=DI H2 k a b
  refine H3.LF (bs:=[b3]) (λg hg u hu=>qf _ (h3 g hg u hu)) h4 (λpA s1=>He s1 hl (.mk k a b ⟨none,0,0⟩ []) (by simp)) ?_ (by simp)
  rintro _ w3 Co zF f3 p3 mj DU yA t3 oJ uy vF ⟨rfl,OX,rK,jt,rfl,rfl⟩ H4
  refine ⟨true,rfl,jz H4 oJ uy (λx hx=>?_) (λu hu=>t3 u (qf _ hu)) (.inr ⟨?_,rfl⟩)⟩
  .rcases vF x hx with h|h
   .exact .inl (wi h)
   .exact .inr h
  .rw [he,rK,jt];rfl
 refine mC (n:=33) (by omega) (λhk:t.k=33=>H1.aK (IW H1 h4 Nr) ?_) (λZf:t.k≠33=>mC (n:=40) (by omega) (λhk:t.k=40=>?_) (λk40:t.k≠40=>mC (n:=114) (by omega) (λhk:t.k=114=>?_) (λXU:t.k≠114=>mC (n:=119) (by omega) (λhk:t.k=119=>?_) (λaaH:t.k≠119=>?_))))
 .rintro _ w2 rfl H2
  refine ⟨_,rfl,l9 ⟨_,H2.zT 1 rfl h4 5,l9 ?_⟩⟩
  have e:IntKind.wrap .i64 ((f.n:Int)+1)=((f.n+1:Nat):Int):=by rw [IntWalk.i64_in _ (by omega)];omega
  rw [e]
  refine H2.D0 (bs:=[b3]) (f:=f) 1 ⟨f.k,f.ar,f.al,f.an,f.ca,f.n+1,f.la⟩ 5 rfl h4 (by omega) rfl (λw3 H3=>?_) (by simp)
  refine H3.Wu (bs:=[b3]) 0 1 rfl (λw4 H4=>?_) (by simp) (by simp)
  have er:(fs++[f]).flatMap FM.rows=(fs++[(⟨f.k,f.ar,f.al,f.an,f.ca,f.n+1,f.la⟩:FM)]).flatMap FM.rows:=by simp [FM.rows]
  have H5:SF (·∈own) w w4 rb sl 0 wd fs ⟨f.k,f.ar,f.al,f.an,f.ca,f.n+1,f.la⟩ [.g b3] ts:=by
   show LH _ _ _ (SL rb sl 0 wd _ ((fs++[(⟨f.k,f.ar,f.al,f.an,f.ca,f.n+1,f.la⟩:FM)]).flatMap FM.rows)++_) _
   rw [<-er]
   exact H4
  refine jz H5 (λg hg u hu=>?_) h4 base (λ_ h=>h) (.inr ⟨?_,rfl⟩)
  .rcases fS.1 hg with hg|hg
   .exact h3 g (by simp [hg]) u hu
   .simp at hg;subst hg
    exact h3 f (by simp) u hu
  .unfold jY;rw [if_pos hk];rfl
 .refine H1.LF (bs:=[b3]) h3 h4 (λpA s1=>Mx s1 hl (-1) 0) ?_ (by simp)
  rintro _ w3 Co zF f3 p3 mj DU yA t3 oJ uy vF ⟨rfl,rK,jt,rfl,rfl⟩ H4
  refine ⟨true,rfl,jz H4 oJ uy vF t3 (.inr ⟨?_,rfl⟩)⟩
  unfold jY
  rw [if_neg Zf,if_pos hk,rK,jt]
 .exact leaf 2 t.lo t.hi H1 (by unfold jY;rw [if_neg Zf,if_neg k40,if_pos hk])
 .refine H1.Wu (bs:=[b3]) 0 1 rfl (λw2 H2=>?_) (by simp) (by simp)
  have H2:SF (·∈own) w w2 rb sl 2 wd fs f [.g b3] ts:=H2
  have ei:jY t ⟨fs.map FM.x,f.x,st,wd⟩=if t.s=J9 then some ⟨fs.map FM.x,oO f.x (.mk 0 0 0 []),3,wd⟩ else if t.s=DT then some ⟨fs.map FM.x,oO f.x (.mk 1 0 0 []),3,wd⟩ else if t.s=RL then some ⟨fs.map FM.x,f.x,2,4⟩ else if t.s=RK then some ⟨fs.map FM.x,f.x,2,5⟩ else if t.s=RM then some ⟨fs.map FM.x,f.x,2,3⟩ else none:=by
   unfold jY
   rw [if_neg Zf,if_neg k40,if_neg XU,if_pos hk]
  have word:∀(k:Int),jY t ⟨fs.map FM.x,f.x,st,wd⟩=some ⟨fs.map FM.x,f.x,2,k⟩->bT w2 ((bD rb).add 2) (.i k) λpE=>kept [b3] w2 pE/\regex_reader_item.dV pE (CE w own ts rb (Pf (jY t ⟨fs.map FM.x,f.x,st,wd⟩))):=λk he=>
   H2.Wu (bs:=[b3]) 0 2 rfl (λw3 H3=>jz (show SF (·∈own) w w3 rb sl 2 k fs f [.g b3] ts from H3) h3 h4 base (λ_ h=>h) (.inr ⟨he,rfl⟩)) (by simp) (by simp)
  refine wI (λh1:t.s=J9=>leaf 0 0 0 H2 (by rw [ei,if_pos h1])) (λn1:t.s≠J9=>wI (λh1:t.s=DT=>leaf 1 0 0 H2 (by rw [ei,if_neg n1,if_pos h1])) (λn2:t.s≠DT=>wI (λh1:t.s=RL=>word 4 (by rw [ei,if_neg n1,if_neg n2,if_pos h1])) (λn3:t.s≠RL=>wI (λh1:t.s=RK=>word 5 (by rw [ei,if_neg n1,if_neg n2,if_neg n3,if_pos h1])) (λn4:t.s≠RK=>wI (λh1:t.s=RM=>word 3 (by rw [ei,if_neg n1,if_neg n2,if_neg n3,if_neg n4,if_pos h1])) (λn5:t.s≠RM=>?_)))))
  exact jz H2 h3 h4 base (λ_ h=>h) (.inl ⟨by rw [ei,if_neg n1,if_neg n2,if_neg n3,if_neg n4,if_neg n5],rfl⟩)
 .exact jz H1 h3 h4 base (λ_ h=>h) (.inl ⟨by unfold jY;rw [if_neg Zf,if_neg k40,if_neg XU,if_neg aaH],rfl⟩)
theorem If {w:World} {e:TypeId} {sz:Nat} {s:Sl} {xs:List Value} {p:Addr} (h:aO w e sz s xs) (hp:s.a=some p) (n:Nat) (hn:n<=s.n):aO w e sz ⟨s.a,n,s.c⟩ (xs.take (n *sz)):=by
 have hl:=h.len
 rcases h.cases with ⟨rfl,_⟩|⟨g,cur,ha,hg,h3,h4,h5,h6⟩
 .cases hp
 .have hm:n *sz<=s.n *sz:=Nat.mul_le_mul_right _ hn
  refine ⟨by rw [List.length_take];show _=n *sz;omega,.inr ⟨g,s.c,cur,by rw [ha],Nat.zero_le _,hg,Nat.le_trans hn h3,h4,h5,?_⟩⟩
  rw [<-h6,List.take_take]
  congr 1
  show n *sz=_
  omega
section
variable {M:Nat->Prop} {w0 w:World} {L D A:List En} {bs:List Nat} {G:List En} {rb:Nat} {ts:List Rt}
theorem Cj (H:LH M w0 w L D) (i:Nat) {rs Rg:List ln} (hi:L[i]? =some (.rows (rs++Rg))):LH M w0 w (L.set i (.rows rs)) D:=by
 have hp:(En.rows (rs++Rg)).P w:=H.get i hi
 have nd:=hp.2
 rw [r8,Bj] at nd
 refine H.D2 i _ hi (Fr.refl _ _) ⟨λq hq=>hp.1 q (qf _ hq),nd.1⟩ λb hb=>.inl (aH.2 ?_)
 rw [r8]
 exact qf _ (aH.1 hb)
theorem QE (H:LH M w0 w (A++G) [.trees ts]):LH (·∈A.flatMap (·.fp)) w w A [.trees ts]:=by
 have nd:=H.nd
 rw [r8,Bj] at nd
 refine LH.xS _ _ (λe he=>⟨H.own e (qf _ he),λb hb=>mI.2 ⟨e,he,hb⟩⟩) nd.1 λe he=>?_
 simp only [cS,fF,or_false] at he
 subst he
 exact ⟨H.getD 0,λb hb e' mG eG=>H.dj (.trees ts) (by simp) b hb e' (qf _ mG) eG⟩
theorem NI (H:LH M w0 w (A++G) [.trees ts]) {w':World} {A3:Addr} {vu:List FX} {yM:FX} {dO sR:Int} {iZ:List Nat} {lW:List Rt} (s:St w' rb A3 vu yM dO sR iZ lW) (fr:Fr (·∈A.flatMap (·.fp)) w w') (o:∀x∈iZ,x∈A.flatMap (·.fp)\/w.heap.size<=x)
  (hb:∀b∈Rt.gV lW,b∈Rt.gV ts\/b∈A.flatMap (·.fp)\/w.heap.size<=b):
  ∃(yw:Sl) (ux:List FM) (f':FM) (p':Addr),ux.map FM.x=vu/\f'.x=yM/\(∀g∈ux++[f'],∀t∈g.ts,t∈lW)/\yw.a=some p'/\A3=p'.add (ux.length *10)/\(∀b∈Rt.gV lW,b∈Rt.gV ts\/w0.heap.size<=b\/M b)/\SF M w0 w' rb yw dO sR ux f' G lW:=by
 obtain ⟨yw,ux,f',p',h1,h2,h3,h4,h5,h6,h7,h8,h9,Dd⟩:=s
 have nd:=H.nd
 rw [r8,Bj] at nd
 have Ib:∀b∈A.flatMap (·.fp),w0.heap.size<=b\/M b:=λb hb=>by
  obtain ⟨e,he,rS⟩:=mI.1 hb
  exact H.new e (qf _ he) b rS
 have Xi:∀e∈G,∀b∈e.fp,b<w.heap.size:=λe he b hb=>e.lt w (H.own e (uD _ he)) b hb
 have Hw:∀e∈G,∀b∈e.fp,b∉A.flatMap (·.fp):=λe he b hb hm=>nd.2.2 b hm b (mI.2 ⟨e,he,hb⟩) rfl
 have mH:=H.fr.size
 have N1:∀b∈iZ,w0.heap.size<=b\/M b:=λb hb=>(o b hb).elim (Ib b) λh=>.inl (Nat.le_trans mH h)
 refine ⟨yw,ux,f',p',h1,h2,h3,h4,h5,λb eG=>?_,H.fr.trans fr λx hx hm=>(Ib x hm).resolve_left (by omega),λe he=>?_,λe he=>?_,λe he b eG=>?_,?_,λe he b eG e' mG rS=>?_⟩
 .rcases hb b eG with h|h|h
  .exact .inl h
  .exact .inr (Ib b h)
  .exact .inr (.inl (Nat.le_trans mH h))
 .rcases fS.1 he with he|he
  .exact h8 e he
  .exact e.st w w' (λb hb hl=>fr.gY b hl (Hw e he b hb)) (H.own e (uD _ he))
 .simp at he;subst he;exact h9
 .rcases fS.1 he with he|he
  .exact N1 b (by rw [h6];exact mI.2 ⟨e,he,eG⟩)
  .exact H.new e (uD _ he) b eG
 .rw [r8,Bj]
  refine ⟨h6▸h7,nd.2.1,λx hx y hy XQ=>?_⟩
  subst XQ
  obtain ⟨e,he,rS⟩:=mI.1 hy
  rcases o x (by rw [h6];exact hx) with h|h
  .exact Hw e he x rS h
  .have:=Xi e he x rS;omega
 .simp at he;subst he
  have Dg:b∈Rt.gV lW:=aH.1 eG
  rcases fS.1 mG with mG|mG
  .exact Dd b Dg (by rw [h6];exact mI.2 ⟨e',mG,rS⟩)
  .rcases hb b Dg with h|h|h
   .exact H.dj (.trees ts) (by simp) b (aH.2 h) e' (uD _ mG) rS
   .exact Hw e' mG b rS h
   .have:=Xi e' mG b rS;omega
theorem _root_.Go.W.LH.csA (H:LH M w0 w (A++G) [.trees ts]) {g:FuncId} {args:Array Value} {K:aD} {Q:Ending->Addr->List FX->FX->Int->Int->List Rt->Prop}
  (hc:∀own,LH (·∈own) w w A [.trees ts]->Calls Tryz.prog g args w (CE w own ts rb Q))
  (hk:∀r w' (yw:Sl) (ux:List FM) (f':FM) (p':Addr) (dO sR:Int) (lW:List Rt),(∀t∈ts,t∈lW)->(∀g∈ux++[f'],∀t∈g.ts,t∈lW)->yw.a=some p'->(∀b∈Rt.gV lW,b∈Rt.gV ts\/w0.heap.size<=b\/M b)->Q r (p'.add (ux.length *10)) (ux.map FM.x) f'.x dO sR lW->SF M w0 w' rb yw dO sR ux f' G lW->K r w')
  (ke:∀b∈bs,En.g b∈G:=by simp):fE bs Tryz.prog g args w K:=by
 have nd:=H.nd
 rw [r8,Bj] at nd
 refine ⟨(·∈A.flatMap (·.fp)),λb hb hm=>?_,(hc _ (QE H)).mono ?_⟩
 .exact nd.2.2 b hm b (mI.2 ⟨_,ke b hb,by simp [En.g]⟩) rfl
 .rintro r w' ⟨A3,vu,yM,dO,sR,iZ,lW,s,fr,o,b,t,q⟩
  obtain ⟨yw,ux,f',p',rfl,rfl,KC,Ji,rfl,eG,H'⟩:=NI H s fr o b
  exact ⟨fr,hk r w' yw ux f' p' dO sR lW t KC Ji eG q H'⟩
theorem QD (H:LH M w0 w L [.trees ts]) (T:Rt) (hT:T∈ts) (k:Int) (lo hi:UInt8):LH M w0 w L [.trees (ts++[.mk k lo hi T.s T.l])]:=by
 have pt:Rt.Ps w ts:=H.getD 0
 have H1:=H.nf (.trees (ts++[.mk k lo hi T.s T.l])) (Fr.refl _ _) (Rt.oX λt ht=>?_) λb hb=>.inr (.inr ⟨.trees ts,by simp,?_⟩)
 .exact H1.forget _ (by simp)
 .rcases fS.1 ht with ht|ht
  .exact pt.mem ht
  .simp at ht;subst ht
   unfold Rt.P
   exact (pt.mem hT).parts
 .obtain ⟨t,ht,eG⟩:=Rt.bC.1 (aH.1 hb)
  rcases fS.1 ht with ht|ht
  .exact aH.2 (Rt.bC.2 ⟨t,ht,eG⟩)
  .simp at ht
   rw [ht] at eG
   exact aH.2 (Rt.bC.2 ⟨T,hT,Rt.eO.2 ((Rt.eO (t:=.mk k lo hi T.s T.l)).1 eG)⟩)
theorem NJ {T:Rt} (hT:T∈ts) {k:Int} {lo hi:UInt8} {b:Nat} (h:b∈Rt.gV (ts++[.mk k lo hi T.s T.l])):b∈Rt.gV ts:=by
 obtain ⟨t,ht,eG⟩:=Rt.bC.1 h
 rcases fS.1 ht with ht|ht
 .exact Rt.bC.2 ⟨t,ht,eG⟩
 .simp at ht
  rw [ht] at eG
  exact Rt.bC.2 ⟨T,hT,Rt.eO.2 ((Rt.eO (t:=.mk k lo hi T.s T.l)).1 eG)⟩
theorem QC (H:LH M w0 w L [.trees ts]) (T:Rt) (hT:T∈ts):LH M w0 w L [.trees (ts++T.l)]:=by
 have pt:Rt.Ps w ts:=H.getD 0
 have H1:=H.nf (.trees (ts++T.l)) (Fr.refl _ _) (Rt.oX λt ht=>?_) λb hb=>.inr (.inr ⟨.trees ts,by simp,?_⟩)
 .exact H1.forget _ (by simp)
 .rcases fS.1 ht with ht|ht
  .exact pt.mem ht
  .exact (pt.mem hT).parts.2.mem ht
 .obtain ⟨t,ht,eG⟩:=Rt.bC.1 (aH.1 hb)
  rcases fS.1 ht with ht|ht
  .exact aH.2 (Rt.bC.2 ⟨t,ht,eG⟩)
  .exact aH.2 (Rt.bC.2 ⟨T,hT,Rt.eO.2 (.inr (Rt.bC.2 ⟨t,ht,eG⟩))⟩)
theorem NA {T:Rt} (hT:T∈ts) {b:Nat} (h:b∈Rt.gV (ts++T.l)):b∈Rt.gV ts:=by
 obtain ⟨t,ht,eG⟩:=Rt.bC.1 h
 rcases fS.1 ht with ht|ht
 .exact Rt.bC.2 ⟨t,ht,eG⟩
 .exact Rt.bC.2 ⟨T,hT,Rt.eO.2 (.inr (Rt.bC.2 ⟨t,ht,eG⟩))⟩
end
theorem Uq {w:World} {rb:Nat} {sl:Sl} {p:Addr} {n:Nat} (hc:w.cell? ((bD rb).add 0)=some sl.v) (hl:sl.n=n+1) (hp:sl.a=some p) (hn:n<=1000000):Calls Tryz.prog eY #[.pointer (some (bD rb))] w λr w'=>r=.returned (.pointer (some (p.add (n *10))))/\bG w w':=by
 have e:IntKind.wrap .i64 (((sl.n:Nat):Int) - 1)=(n:Int):=by rw [IntWalk.i64_in _ (by omega)];omega
 have Wf:w.drew.cell? ((bD rb).add 0)=some sl.v:=hc
 refine regex_reader_top.ok _ w _ (show _ from ⟨sl,Wf,sl,Wf,?_⟩)
 rw [e,hp]
 exact ⟨by omega,by omega,rfl,Fr.drew _ _⟩
def ML (k:Int) (l:List Rx):Rx:=if k<0 then l.headD xF else .mk k 0 0 l
theorem Pu {w:World} {rb:Nat} {sl:Sl} {st wd:Int} {fs:List FM} {g f:FM} {ts:List Rt} {p:Addr} {own:List Nat}
  (H:LH (·∈own) w w [.c rb [sl.v,.int .i64 st,.int .i64 wd] hO,.row cB 10 sl (((fs++[g])++[f]).flatMap FM.c),.rows ((fs++[g]).flatMap FM.rows)] [.trees ts])
  (h3:∀x∈fs++[g],∀t∈x.ts,t∈ts) (hp:sl.a=some p) (hl:fs.length<=999999) (T:Rt) (hT:T∈ts) (hk:0<=f.k\/T.l≠[]):
  Calls Tryz.prog gZ #[.pointer (some (bD rb)),T.s.v] w (CE w own ts rb λr _ vu yM dO sR _=>r=.returned (.bool true)/\vu=fs.map FM.x/\yM=oO g.x (ML f.k (Rt.bV T.l))/\dO=3/\sR=wd):=by
 have hn:sl.n=(fs++[g]).length+1:=by
  have ho:aO w cB 10 sl (((fs++[g])++[f]).flatMap FM.c):=H.get 1
  have:=ho.len
  rw [ti] at this
  simp at this ⊢
  omega
 have hc1:1<=sl.c:=by
  have ho:aO w cB 10 sl (((fs++[g])++[f]).flatMap FM.c):=H.get 1
  have:=ho.cap
  omega
 refine regex_reader_close.ok _ _ w _ (H.call (Uq (H.ld 0 0) hn hp (by simp;omega)) ?_)
 rintro _ w1 rfl H1
 refine ⟨_,rfl,l9 ⟨_,H1.zT 1 rfl hp 0,?_⟩⟩
 have H2:=H1.drew
 refine ⟨sl,H2.ld 0 0,sl,H2.ld 0 0,?_⟩
 have e:IntKind.wrap .i64 (((sl.n:Nat):Int) - 1)=(((fs++[g]).length:Nat):Int):=by rw [IntWalk.i64_in _ (by simp at hn;omega)];omega
 rw [e]
 have ho:aO w cB 10 sl (((fs++[g])++[f]).flatMap FM.c):=H.get 1
 have aa4:=ho.cap
 refine ⟨by omega,by omega,?_⟩
 have ev:Value.slice (if sl.c=0 then sl.a else sl.a.map (·.add (0 *10))) ((Int.toNat (((fs++[g]).length:Nat):Int)) - 0) (sl.c - 0)=(⟨sl.a,(fs++[g]).length,sl.c⟩:Sl).v:=by
  rw [if_neg (by omega),hp]
  show Value.slice (some (p.add 0)) _ _=Value.slice (some p) _ _
  rw [uN]
  simp
 rw [ev]
 refine H2.st 0 0 rfl λw3 H3=>?_
 have hr3:aO w3 cB 10 sl (((fs++[g])++[f]).flatMap FM.c):=H3.get 1
 have hs3:=If hr3 hp (fs++[g]).length (by omega)
 have et:(((fs++[g])++[f]).flatMap FM.c).take ((fs++[g]).length *10)=(fs++[g]).flatMap FM.c:=by
  rw [r8,<-ti,List.take_left']
  rfl
 rw [et] at hs3
 have H4:=H3.D2 1 (.row cB 10 ⟨sl.a,(fs++[g]).length,sl.c⟩ ((fs++[g]).flatMap FM.c)) rfl (Fr.refl _ _) hs3 λb hb=>.inl hb
 have H5:SF (·∈own) w w3 rb ⟨sl.a,(fs++[g]).length,sl.c⟩ st wd fs g [] ts:=by
  show LH _ _ _ (_++[]) _
  rw [Cf]
  exact H4
 refine bA (λh1=>?_) (λh1=>?_)
 .have yV:f.k<0:=of_decide_eq_true h1
  have ie:T.l≠[]:=hk.resolve_left (by omega)
  obtain ⟨x,l,hx⟩:=List.exists_cons_of_ne_nil ie
  have hr:jU 4 w3 T.s (T.l.flatMap Rt.c):=((show Rt.Ps w3 ts from H5.getD 0).mem hT).parts.1
  have qA:=Rt.b0 hr
  refine ⟨by omega,by rw [qA,hx];simp,Rt.at' hr (i:=0) (t:=x) (by rw [hx];rfl) λq hq c=>⟨_,_,_,_,c.c0,c.c1,c.c2,c.c3,?_⟩⟩
  have H6:=QC H5 T hT
  refine (show SF (·∈own) w w3 rb ⟨sl.a,(fs++[g]).length,sl.c⟩ st wd fs g [] (ts++T.l) from H6).PD (λy hy t ht=>qf _ (h3 y hy t ht)) hp (λpA s1=>He s1 (by simp;omega) x (by rw [hx];simp)) ?_
  rintro _ w4 Zp YW f4 p4 DL wd4 Zv t4 Jd Xk b4 ⟨rfl,_,rK,jt,rfl,rfl⟩ H7
  refine ⟨true,rfl,jz H7 Jd Xk (λb hb=>(b4 b hb).imp (NA hT) id) (λt ht=>t4 t (qf _ ht)) ⟨rfl,rK,?_,rfl,rfl⟩⟩
  rw [jt,hx]
  unfold ML
  rw [if_pos yV]
  rfl
 .have yV:¬f.k<0:=of_decide_eq_false h1
  have H6:=QD H5 T hT f.k 0 0
  refine (show SF (·∈own) w w3 rb ⟨sl.a,(fs++[g]).length,sl.c⟩ st wd fs g [] (ts++[.mk f.k 0 0 T.s T.l]) from H6).PD (λy hy t ht=>qf _ (h3 y hy t ht)) hp (λpA s1=>He s1 (by simp;omega) (.mk f.k 0 0 T.s T.l) (by simp)) ?_
  rintro _ w4 Zp YW f4 p4 DL wd4 Zv t4 Jd Xk b4 ⟨rfl,_,rK,jt,rfl,rfl⟩ H7
  refine ⟨true,rfl,jz H7 Jd Xk (λb hb=>(b4 b hb).imp (NJ hT) id) (λt ht=>t4 t (qf _ ht)) ⟨rfl,rK,?_,rfl,rfl⟩⟩
  rw [jt]
  unfold ML
  rw [if_neg yV]
  rfl
def o9 (s:SX) (l:List Rx):Option SX:=match s.lo.getLast? with
 |none=>none
 |some g=>some ⟨s.lo.dropLast,oO g (ML s.tp.k l),3,s.wd⟩
def WH (s':Sl) (f:FX):FX:=⟨f.k,(s',f.ar.2++[iP f]),[],[],[],0,f.la⟩
def jX (s':Sl) (t:Tk) (s:SX):Option SX:=
 if s.st=2 then (if t.k=40 then some ⟨s.lo++[s.tp],ry s.wd,1,s.wd⟩ else none)
 else if s.st=1 then (if t.k=41 then o9 s [] else jY t s)
 else if s.st=0 then jY t s
 else if t.k=42 then some ⟨s.lo,oO s.tp (.mk 7 0 0 [s.tp.la]),s.st,s.wd⟩
 else if t.k=38 then some ⟨s.lo,kV s.tp,0,s.wd⟩
 else if t.k=124 then some ⟨s.lo,jd s.tp,0,s.wd⟩
 else if t.k=44 then (if s.tp.k<0 then none else some ⟨s.lo,WH s' s.tp,0,s.wd⟩)
 else if t.k=41 then (if s.lo=[] then none else o9 s (s.tp.ar.2++[iP s.tp]))
 else if t.k=36 then (if s.lo=[] then some s else none)
 else jY t ⟨s.lo,hV s.tp,s.st,s.wd⟩
section
variable {M:Nat->Prop} {w0 w1:World} {bs:List Nat} {G:List En} {rb:Nat} {sl:Sl} {st wd:Int} {fs:List FM} {f:FM} {ts:List Rt} {p:Addr}
abbrev FS2 (M:Nat->Prop) (w0 w:World) (rb:Nat) (sl:Sl) (st wd:Int) (fs:List FM) (f:FM) (rs:List ln) (G:List En) (ts:List Rt):Prop:=LH M w0 w (SL rb sl st wd ((fs++[f]).flatMap FM.c) rs++G) [.trees ts]
theorem N6 (H1:SF M w0 w1 rb sl st wd fs f G ts) (i:Nat) {src:Sl} (hi:(SL rb sl st wd ((fs++[f]).flatMap FM.c) ((fs++[f]).flatMap FM.rows)++G)[i]? =some (.row aB 4 src z4)) (hp:sl.a=some p) (d:Nat) (ER:1<=d) (ES:d<=4) (t:Rt) (hb:(f.e8 d).2.length<=1000000) (U4:src.n=1) {K:World->Prop}
  (hK:∀s' w',SF M w0 w' rb sl st wd fs (f.put d (s',(f.e8 d).2++[t])) G ts->K w') (ke:∀b∈bs,En.g b∈G:=by simp):
  ∃(t15:Sl) (w5:World),(Builtin.append_ #[aF,aF] aF #[(f.e8 d).1.v,src.v]).run Tryz.prog w1=.ok (t15.v) w5/\kept bs w1 w5/\(0:Int)<=(((f.e8 d).1.n:Nat):Int)/\(((f.e8 d).1.n:Nat):Int)<((t15.n:Nat):Int)/\aW t15.a λq=>
   ((bT w5 (q.add (Int.toNat (((f.e8 d).1.n:Nat):Int) *4)) (.int .i64 t.k) λw6=>kept bs w5 w6/\bT w6 ((q.add (Int.toNat (((f.e8 d).1.n:Nat):Int) *4)).add 1) (.int .u8 (t.lo.toNat:Int)) λw7=>kept bs w6 w7/\bT w7 ((q.add (Int.toNat (((f.e8 d).1.n:Nat):Int) *4)).add 2) (.int .u8 (t.hi.toNat:Int)) λw8=>kept bs w7 w8/\bT w8 ((q.add (Int.toNat (((f.e8 d).1.n:Nat):Int) *4)).add 3) t.s.v λw9=>kept bs w8 w9/\bT w9 ((p.add (fs.length *10)).add d) t15.v λpE=>kept bs w9 pE/\K pE)/\
   (bT w5 ((p.add (fs.length *10)).add d) t15.v λsj=>kept bs w5 sj/\bT sj (q.add (Int.toNat (((f.e8 d).1.n:Nat):Int) *4)) (.int .i64 t.k) λw6=>kept bs sj w6/\bT w6 ((q.add (Int.toNat (((f.e8 d).1.n:Nat):Int) *4)).add 1) (.int .u8 (t.lo.toNat:Int)) λw7=>kept bs w6 w7/\bT w7 ((q.add (Int.toNat (((f.e8 d).1.n:Nat):Int) *4)).add 2) (.int .u8 (t.hi.toNat:Int)) λw8=>kept bs w7 w8/\bT w8 ((q.add (Int.toNat (((f.e8 d).1.n:Nat):Int) *4)).add 3) t.s.v λw9=>kept bs w8 w9/\K w9)):=by
 have iO:((fs++[f]).flatMap FM.rows)[fs.length *4+(d - 1)]? =some ((f.e8 d).1,(f.e8 d).2.flatMap Rt.c):=oZ fs f (d - 1) _ (BJ f ER ES)
 have nr:(f.e8 d).1.n=(f.e8 d).2.length:=by
  have hp:(En.rows ((fs++[f]).flatMap FM.rows)).P w1:=H1.get 2
  exact Rt.b0 (hp.1 _ (cR iO)).iD
 have hg:∀{L:List En},∀b∈bs,En.g b∈L++G:=λb hb=>uD _ (ke b hb)
 obtain ⟨s',w5,h1,hkp,h3⟩:=H1.IL (bs:=bs) (ty:=aF) 2 (fs.length *4+(d - 1)) (src:=src) (news:=z4) (K:=λs' w'=>FS2 M w0 w' rb sl st wd fs f (((fs++[f]).flatMap FM.rows).set (fs.length *4+(d - 1)) (s',(f.e8 d).2.flatMap Rt.c++z4)) G ts/\s'.n=(f.e8 d).1.n+1/\∃q,s'.a=some q) rfl iO (aO.iD (H1.get i hi)) (by simp [Value.oneCell']) (by omega) (λs' w4 H4 xw rr=>⟨H4,by omega,by
  cases hs:s'.a with
  |none=>have:=(rr hs).2;omega
  |some q=>exact ⟨q,rfl⟩⟩) hg
 obtain ⟨H5,hn5,q,hq⟩:=h3
 refine ⟨s',w5,h1,hkp,by omega,by omega,?_⟩
 rw [hq]
 have HF:fs.length *4+(d - 1)<((fs++[f]).flatMap FM.rows).length:=by rw [qt];simp;omega
 have ec:∀(f:FM) (t:Rt) (d:Nat),(f.e8 d).2.flatMap Rt.c++t.c=((f.e8 d).2++[t]).flatMap Rt.c:=λf t d=>by simp
 rw [nr]
 refine ⟨?_,?_⟩
 .refine LH.K8 (bs:=bs) H5 2 (fs.length *4+(d - 1)) (f.e8 d).2.length t rfl (tD HF) hq (Rt.iT _) (λw' H6=>?_) hg
  have H6:FS2 M w0 w' rb sl st wd fs f ((((fs++[f]).flatMap FM.rows).set (fs.length *4+(d - 1)) (s',(f.e8 d).2.flatMap Rt.c++z4)).set (fs.length *4+(d - 1)) (s',(f.e8 d).2.flatMap Rt.c++t.c)) G ts:=H6
  rw [List.set_set,ec,tW fs f (s',(f.e8 d).2++[t]) ER ES] at H6
  exact H6.D0 (bs:=bs) (f:=f) 1 (f.put d (s',(f.e8 d).2++[t])) d rfl hp (by omega) (FN f (s',(f.e8 d).2++[t]) ER ES) (λuh H7=>hK s' uh H7) hg
 .refine H5.D0 (bs:=bs) (f:=f) 1 (f.put d (s',(f.e8 d).2++[t])) d rfl hp (by omega) (FN f (s',(f.e8 d).2++[t]) ER ES) (λw' H6=>?_) hg
  refine LH.K8 (bs:=bs) (L:=SL rb sl st wd ((fs++[f.put d (s',(f.e8 d).2++[t])]).flatMap FM.c) (((fs++[f]).flatMap FM.rows).set (fs.length *4+(d - 1)) (s',(f.e8 d).2.flatMap Rt.c++z4))++G) H6 2 (fs.length *4+(d - 1)) (f.e8 d).2.length t rfl (tD HF) hq (Rt.iT _) (λuh H7=>?_) hg
  have H7:LH M w0 uh (SL rb sl st wd ((fs++[f.put d (s',(f.e8 d).2++[t])]).flatMap FM.c) ((((fs++[f]).flatMap FM.rows).set (fs.length *4+(d - 1)) (s',(f.e8 d).2.flatMap Rt.c++z4)).set (fs.length *4+(d - 1)) (s',(f.e8 d).2.flatMap Rt.c++t.c))++G) [.trees ts]:=H7
  rw [List.set_set,ec,tW fs f (s',(f.e8 d).2++[t]) ER ES] at H7
  exact hK s' uh H7
end
theorem qp {α:Type} (l:List α):l=[]\/∃a x,l=a++[x]:=by
 rcases List.eq_nil_or_concat l with h|⟨a,x,h⟩
 .exact .inl h
 .exact .inr ⟨a,x,by rw [h,List.concat_eq_append]⟩
theorem yd (lo:List FX) (g tp:FX) (st wd:Int) (l:List Rx):o9 ⟨lo++[g],tp,st,wd⟩ l=some ⟨lo,oO g (ML tp.k l),3,wd⟩:=by
 unfold o9
 simp
def Ka (t:Tk) (S:SX):Ending->Addr->List FX->FX->Int->Int->List Rt->Prop:=λr f0 lo tp st wd ts=>∃s',Pf (jX s' t S) r f0 lo tp st wd ts
theorem Uk {w:World} {rb:Nat} {f0:Addr} {lo:List FX} {tp:FX} {st wd:Int} {own:List Nat} {ts:List Rt} (h:St w rb f0 lo tp st wd own ts) (hl:lo.length<=999999) (hs:Small tp 999999) (h1:st=1->0<=tp.k/\lo≠[]) (t:Tk):
  Calls Tryz.prog mw #[.pointer (some (bD rb)),t.v] w (CE w own ts rb (Ka t ⟨lo,tp,st,wd⟩)):=by
 obtain ⟨sl,fs,f,p,rfl,rfl,h3,h4,rfl,H⟩:=yX h
 have Nr:fs.length<=999999:=by simpa using hl
 have xw:f.n<=999999:=hs.n'
 have LL:Small f.x 1000000:=⟨by have:=hs.n';omega,by have:=hs.ar;omega,by have:=hs.al;omega,by have:=hs.an;omega,by have:=hs.ca;omega⟩
 have base:∀b∈Rt.gV ts,b∈Rt.gV ts\/w.heap.size<=b\/b∈own:=λb hb=>.inl hb
 let z:Sl:=⟨none,0,0⟩
 refine regex_reader_feed.cU _ _ _ _ _ _ w _ (H.bF (bs:=[]) (λb3 w1 H1=>?_) (by simp))
 have H1:SF (·∈own) w w1 rb sl st wd fs f [.g b3] ts:=H1
 refine H1.aK (IW H1 h4 (by omega)) ?_
 rintro _ w2 rfl H2
 have H2:SF (·∈own) w w2 rb sl st wd fs f [.g b3] ts:=H2
 refine ⟨_,rfl,st,H2.ld 0 1,?_⟩
 have item:∀{w2:World} {O7:Sl} {lf RO:Int} {zE:List FM} {f2:FM} {D1:List Rt} {p2:Addr},SF (·∈own) w w2 rb O7 lf RO zE f2 [.g b3] D1->(∀g∈zE++[f2],∀t∈g.ts,t∈D1)->O7.a=some p2->(∀b∈Rt.gV D1,b∈Rt.gV ts\/w.heap.size<=b\/b∈own)->(∀t∈ts,t∈D1)->zE.length<=1000000->f2.n<=1000000->
   jX z t ⟨fs.map FM.x,f.x,st,wd⟩=jY t ⟨zE.map FM.x,f2.x,lf,RO⟩->fE [b3] Tryz.prog gF #[.pointer (some (bD rb)),t.v] w2 λr_ w5=>∃t34:Bool,r_=.returned (.bool t34)/\CE w own ts rb (Ka t ⟨fs.map FM.x,f.x,st,wd⟩) (.returned (.bool t34)) w5:=by
  intro w2 O7 lf RO zE f2 D1 p2 H2 GI UL BU O2 UX Y6 he
  refine H2.LF (bs:=[b3]) GI UL (λpA s1=>Um s1 (by simpa using UX) Y6 t) ?_ (by simp)
  rintro r w3 Co zF f3 p3 mj DU yA t3 oJ uy vF U3 H4
  have hb:∀b∈Rt.gV yA,b∈Rt.gV ts\/w.heap.size<=b\/b∈own:=λb hb=>(vF b hb).elim (BU b) .inr
  rcases U3 with ⟨hn,rfl⟩|⟨Qn,rfl⟩
  .exact ⟨false,rfl,jz H4 oJ uy hb (λt ht=>t3 t (O2 t ht)) ⟨z,.inl ⟨he.trans hn,rfl⟩⟩⟩
  .exact ⟨true,rfl,jz H4 oJ uy hb (λt ht=>t3 t (O2 t ht)) ⟨z,.inr ⟨he.trans Qn,rfl⟩⟩⟩
 have close:∀{w2:World} {O7:Sl} {zE:List FM} {g2 f2:FM} {D1:List Rt} {p2:Addr} {s':Sl} (T:Rt),LH (·∈own) w w2 ([.c rb [O7.v,.int .i64 st,.int .i64 wd] hO,.row cB 10 O7 (((zE++[g2])++[f2]).flatMap FM.c),.rows ((zE++[g2]).flatMap FM.rows)]++[.g b3]) [.trees D1]->(∀x∈zE++[g2],∀t∈x.ts,t∈D1)->O7.a=some p2->zE.length<=999999->T∈D1->(0<=f2.k\/T.l≠[])->(∀b∈Rt.gV D1,b∈Rt.gV ts\/w.heap.size<=b\/b∈own)->(∀t∈ts,t∈D1)->
   jX s' t ⟨fs.map FM.x,f.x,st,wd⟩=some ⟨zE.map FM.x,oO g2.x (ML f2.k (Rt.bV T.l)),3,wd⟩->fE [b3] Tryz.prog gZ #[.pointer (some (bD rb)),T.s.v] w2 λr_ w5=>∃t34:Bool,r_=.returned (.bool t34)/\CE w own ts rb (Ka t ⟨fs.map FM.x,f.x,st,wd⟩) (.returned (.bool t34)) w5:=by
  intro w2 O7 zE g2 f2 D1 p2 s' T H2 GI UL UX hT hk BU O2 he
  refine LH.csA (rb:=rb) (bs:=[b3]) H2 (λpA HA=>Pu HA GI UL UX T hT hk) ?_ (by simp)
  rintro r w3 Co zF f3 p3 mj DU yA t3 oJ uy vF ⟨rfl,rK,jt,rfl,rfl⟩ H4
  refine ⟨true,rfl,jz H4 oJ uy (λb hb=>(vF b hb).elim (BU b) .inr) (λt ht=>t3 t (O2 t ht)) ⟨s',.inr ⟨?_,rfl⟩⟩⟩
  rw [rK,jt]
  exact he
 refine bA (λGL=>?_) (λGL=>?_)
 .have GL:st=2:=eq_of_beq GL
  refine mC (n:=40) (by omega) (λhk:t.k=40=>⟨wd,H2.ld 0 2,?_⟩) (λhk:t.k≠40=>?_)
  .refine H2.LF (bs:=[b3]) h3 h4 (λpA s1=>Mx s1 (by simp;omega) wd 1) ?_ (by simp)
   rintro _ w3 Co zF f3 p3 mj DU yA t3 oJ uy vF ⟨rfl,rK,jt,rfl,rfl⟩ H4
   refine ⟨true,rfl,jz H4 oJ uy vF t3 ⟨z,.inr ⟨?_,rfl⟩⟩⟩
   rw [rK,jt]
   unfold jX
   exact (if_pos GL).trans (if_pos hk)
  .refine jz H2 h3 h4 base (λ_ h=>h) ⟨z,.inl ⟨?_,rfl⟩⟩
   unfold jX
   exact (if_pos GL).trans (if_neg hk)
 have n2:st≠2:=λe=>by rw [e] at GL;exact absurd GL (by decide)
 refine bA (λE4=>?_) (λE4=>?_)
 .have E4:st=1:=eq_of_beq E4
  obtain ⟨yV,ie⟩:=h1 E4
  refine mC (n:=41) (by omega) (λhk:t.k=41=>?_) (λhk:t.k≠41=>?_)
  .rcases qp fs with rfl|⟨Sg,g,rfl⟩
   .exact absurd rfl ie
   have H3:=DI H2 3 0 0
   have er:(((Sg++[g])++[f]).flatMap FM.rows)=(Sg++[g]).flatMap FM.rows++f.rows:=by rw [r8 (xs:=Sg++[g])];simp
   have H4:LH (·∈own) w w2 (SL rb sl st wd (((Sg++[g])++[f]).flatMap FM.c) ((Sg++[g]).flatMap FM.rows++f.rows)++[.g b3]) [.trees (ts++[.mk 3 0 0 ⟨none,0,0⟩ []])]:=by rw [<-er];exact H3
   have H5:=Cj H4 2 rfl
   refine close (s':=z) (.mk 3 0 0 ⟨none,0,0⟩ []) H5 (λx hx u hu=>qf _ (h3 x (qf _ hx) u hu)) h4 (by simp at Nr;omega) (by simp) (.inl yV) (λb hb=>.inl (wi hb)) (λu hu=>qf _ hu) ?_
   unfold jX
   refine (if_neg n2).trans ((if_pos E4).trans ((if_pos hk).trans ?_))
   rw [yJ]
   exact yd _ _ _ _ _ _
  .refine item H2 h3 h4 base (λ_ h=>h) (by omega) (by omega) ?_
   unfold jX
   exact (if_neg n2).trans ((if_pos E4).trans (if_neg hk))
 have n1:st≠1:=λe=>by rw [e] at E4;exact absurd E4 (by decide)
 refine bA (λKO=>?_) (λKO=>?_)
 .have KO:st=0:=eq_of_beq KO
  refine item H2 h3 h4 base (λ_ h=>h) (by omega) (by omega) ?_
  unfold jX
  exact (if_neg n2).trans ((if_neg n1).trans (if_pos KO))
 have n0:st≠0:=λe=>by rw [e] at KO;exact absurd KO (by decide)
 have fe:∀s':Sl,jX s' t ⟨fs.map FM.x,f.x,st,wd⟩=(if t.k=42 then some ⟨fs.map FM.x,oO f.x (.mk 7 0 0 [f.x.la]),st,wd⟩
   else if t.k=38 then some ⟨fs.map FM.x,kV f.x,0,wd⟩
   else if t.k=124 then some ⟨fs.map FM.x,jd f.x,0,wd⟩
   else if t.k=44 then (if f.x.k<0 then none else some ⟨fs.map FM.x,WH s' f.x,0,wd⟩)
   else if t.k=41 then (if fs.map FM.x=[] then none else o9 ⟨fs.map FM.x,f.x,st,wd⟩ (f.x.ar.2++[iP f.x]))
   else if t.k=36 then (if fs.map FM.x=[] then some ⟨fs.map FM.x,f.x,st,wd⟩ else none)
   else jY t ⟨fs.map FM.x,hV f.x,st,wd⟩):=λs'=>by
  unfold jX
  exact (if_neg n2).trans ((if_neg n1).trans (if_neg n0))
 refine mC (n:=42) (by omega) (λhk:t.k=42=>?_) (λQv:t.k≠42=>mC (n:=38) (by omega) (λhk:t.k=38=>?_) (λSP:t.k≠38=>mC (n:=124) (by omega) (λhk:t.k=124=>?_) (λHP:t.k≠124=>mC (n:=44) (by omega) (λhk:t.k=44=>?_) (λXV:t.k≠44=>mC (n:=41) (by omega) (λhk:t.k=41=>?_) (λk41:t.k≠41=>mC (n:=36) (by omega) (λhk:t.k=36=>?_) (λk36:t.k≠36=>?_))))))
 .obtain ⟨c0,c1,c2,c3⟩:=H2.ND 1 rfl h4
  refine l9 ⟨_,_,_,_,c0,c1,c2,c3,?_⟩
  refine H2.iQ (e:=aB) (sz:=4) (n:=1) (cs:=f.la.c) rfl (by decide) λw7 H7=>l9 ?_
  have a1:((p.add (fs.length *10)).add 6).add 1=(p.add (fs.length *10)).add 7:=add_add _ 6 1
  have a2:((p.add (fs.length *10)).add 6).add 2=(p.add (fs.length *10)).add 8:=add_add _ 6 2
  have a3:((p.add (fs.length *10)).add 6).add 3=(p.add (fs.length *10)).add 9:=add_add _ 6 3
  rw [a1,a2,a3]
  refine H7.D0 (bs:=[b3]) (f:=f) 1 ⟨f.k,f.ar,f.al,f.an,f.ca,f.n,.mk 7 f.la.lo f.la.hi f.la.s f.la.l⟩ 6 rfl h4 (by omega) rfl (λw8 H8=>?_) (by simp)
  refine H8.D0 (bs:=[b3]) (f:=⟨f.k,f.ar,f.al,f.an,f.ca,f.n,.mk 7 f.la.lo f.la.hi f.la.s f.la.l⟩) 1 ⟨f.k,f.ar,f.al,f.an,f.ca,f.n,.mk 7 0 f.la.hi f.la.s f.la.l⟩ 7 rfl h4 (by omega) rfl (λw9 H9=>?_) (by simp)
  refine H9.D0 (bs:=[b3]) (f:=⟨f.k,f.ar,f.al,f.an,f.ca,f.n,.mk 7 0 f.la.hi f.la.s f.la.l⟩) 1 ⟨f.k,f.ar,f.al,f.an,f.ca,f.n,.mk 7 0 0 f.la.s f.la.l⟩ 8 rfl h4 (by omega) rfl (λpE mJ=>?_) (by simp)
  refine mJ.D0 (bs:=[b3]) (f:=⟨f.k,f.ar,f.al,f.an,f.ca,f.n,.mk 7 0 0 f.la.s f.la.l⟩) 1 ⟨f.k,f.ar,f.al,f.an,f.ca,f.n,.mk 7 0 0 ⟨some (bD w2.heap.size),1,1⟩ [f.la]⟩ 9 rfl h4 (by omega) rfl (λsj qR=>?_) (by simp)
  have Jh:f.la∈ts:=h3 f (by simp) _ (by simp [FM.ts])
  have qS:=qR.freeze 4 (Rt.row ⟨some (bD w2.heap.size),1,1⟩ [f.la]) rfl (by show jU 4 sj _ ([f.la].flatMap Rt.c);rw [show [f.la].flatMap Rt.c=f.la.c by simp];exact aO.iD (qR.get 4)) (λb hb=>fY (e:=aB) (vs:=[f.la].flatMap Rt.c) hb)
  have uu:=qS.node 0 7 0 0 (s:=⟨some (bD w2.heap.size),1,1⟩) (ks:=[f.la]) rfl (by simp) (λt ht=>by simp at ht;subst ht;exact Jh)
  have er:(fs++[f]).flatMap FM.rows=(fs++[(⟨f.k,f.ar,f.al,f.an,f.ca,f.n,.mk 7 0 0 ⟨some (bD w2.heap.size),1,1⟩ [f.la]⟩:FM)]).flatMap FM.rows:=by simp [FM.rows]
  have vp:SF (·∈own) w sj rb sl st wd fs ⟨f.k,f.ar,f.al,f.an,f.ca,f.n,.mk 7 0 0 ⟨some (bD w2.heap.size),1,1⟩ [f.la]⟩ [.g b3] (ts++[.mk 7 0 0 ⟨some (bD w2.heap.size),1,1⟩ [f.la]]):=by
   show LH _ _ _ (SL rb sl st wd _ ((fs++[(⟨f.k,f.ar,f.al,f.an,f.ca,f.n,.mk 7 0 0 ⟨some (bD w2.heap.size),1,1⟩ [f.la]⟩:FM)]).flatMap FM.rows)++_) _
   rw [<-er]
   exact uu
  refine jz vp (λg hg u hu=>?_) h4 (λb hb=>?_) (λu hu=>qf _ hu) ⟨z,.inr ⟨?_,rfl⟩⟩
  .rcases fS.1 hg with hg|hg
   .exact qf _ (h3 g (by simp [hg]) u hu)
   .simp at hg;subst hg
    simp only [FM.ts,fS,cS,fF,or_false] at hu
    rcases hu with (((hu|hu)|hu)|hu)|rfl
    .exact qf _ (h3 f (by simp) u (by simp [FM.ts,hu]))
    .exact qf _ (h3 f (by simp) u (by simp [FM.ts,hu]))
    .exact qf _ (h3 f (by simp) u (by simp [FM.ts,hu]))
    .exact qf _ (h3 f (by simp) u (by simp [FM.ts,hu]))
    .simp
  .obtain ⟨u,hu,P9⟩:=Rt.bC.1 hb
   rcases fS.1 hu with hu|hu
   .exact .inl (Rt.bC.2 ⟨u,hu,P9⟩)
   .simp at hu
    rw [hu] at P9
    rcases Rt.eO.1 P9 with P9|P9
    .have:=fY (e:=aB) P9
     simp [En.row,aZ,Rt.s] at this
     subst this
     exact .inr (.inl H2.fr.size)
    .obtain ⟨t',nS,eG⟩:=Rt.bC.1 P9
     simp [Rt.l] at nS
     rw [nS] at eG
     exact .inl (Rt.bC.2 ⟨f.la,Jh,eG⟩)
  .rw [fe,if_pos hk];rfl
 .refine H2.LF (bs:=[b3]) h3 h4 (λpA s1=>CM (Ei s1 LL.n' LL.ca LL.an)) ?_ (by simp)
  rintro _ w3 Co zF f3 p3 mj DU yA t3 oJ uy vF ⟨rfl,OX,rK,jt,rfl,rfl⟩ H3
  refine ⟨rfl,H3.Wu (bs:=[b3]) 0 1 rfl (λw4 H4=>?_) (by simp) (by simp)⟩
  refine jz (show SF (·∈own) w w4 rb Co 0 DU zF f3 [.g b3] yA from H4) oJ uy vF t3 ⟨z,.inr ⟨?_,rfl⟩⟩
  rw [fe,if_neg Qv,if_pos hk,rK,jt]
 .refine H2.LF (bs:=[b3]) h3 h4 (λpA s1=>CM (Bz s1 LL.n' LL.ca LL.an LL.al)) ?_ (by simp)
  rintro _ w3 Co zF f3 p3 mj DU yA t3 oJ uy vF ⟨rfl,OX,rK,jt,rfl,rfl⟩ H3
  refine ⟨rfl,H3.Wu (bs:=[b3]) 0 1 rfl (λw4 H4=>?_) (by simp) (by simp)⟩
  refine jz (show SF (·∈own) w w4 rb Co 0 DU zF f3 [.g b3] yA from H4) oJ uy vF t3 ⟨z,.inr ⟨?_,rfl⟩⟩
  rw [fe,if_neg Qv,if_neg SP,if_pos hk,rK,jt]
 .refine l9 ⟨f.k,H2.zT 1 rfl h4 0,bA (λh0=>?_) (λh0=>?_)⟩
  .refine jz H2 h3 h4 base (λ_ h=>h) ⟨z,.inl ⟨?_,rfl⟩⟩
   rw [fe,if_neg Qv,if_neg SP,if_neg HP,if_pos hk]
   exact if_pos (of_decide_eq_true h0)
  have fin:∀{w5:World} {Co:Sl} {zF:List FM} {f3:FM} {p3:Addr} {yA:List Rt} {s':Sl} {u:Rt} {G:List En},SF (·∈own) w w5 rb Co st wd zF (f3.put 1 (s',(f3.e8 1).2++[u])) G yA->(∀g∈zF++[f3],∀t∈g.ts,t∈yA)->Co.a=some p3->(∀b∈Rt.gV yA,b∈Rt.gV ts\/w.heap.size<=b\/b∈own)->(∀t∈ts,t∈yA)->zF.map FM.x=fs.map FM.x->f3.x=zw f.x->u∈yA->u.rx=iP f.x->
    regex_reader_feed.gm (bD rb) w5 (CE w own ts rb (Ka t ⟨fs.map FM.x,f.x,st,wd⟩)):=by
   intro w5 Co zF f3 p3 yA s' u G H5 oJ uy hb3 ht3 rK jt hu hx
   refine H5.st 0 1 rfl λw6 H6=>?_
   refine jz (show SF (·∈own) w w6 rb Co 0 wd zF (f3.put 1 (s',(f3.e8 1).2++[u])) G yA from H6) (λg hg v hv=>?_) uy hb3 ht3 ⟨s',.inr ⟨?_,rfl⟩⟩
   .rcases fS.1 hg with hg|hg
    .exact oJ g (by simp [hg]) v hv
    .simp at hg;subst hg
     rcases DA _ _ (by omega) (by omega) hv with h|h
     .exact oJ f3 (by simp) v h
     .rcases fS.1 h with h|h
      .exact oJ f3 (by simp) v (rM f3 1 h)
      .simp at h;subst h;exact hu
   .have e1:f3.k=f.k:=by have:=congrArg FX.k jt;exact this
    have e2:Rt.bV f3.ar.2=Rt.bV f.ar.2:=by have:=congrArg (λx:FX=>x.ar.2) jt;exact this
    have e3:Rt.bV f3.al.2=[]:=by have:=congrArg FX.al jt;exact this
    have e4:Rt.bV f3.an.2=[]:=by have:=congrArg FX.an jt;exact this
    have e5:Rt.bV f3.ca.2=[]:=by have:=congrArg FX.ca jt;exact this
    have e6:f3.n=0:=by have:=congrArg FX.n jt;exact this
    have e7:f3.la.rx=f.x.la:=by have:=congrArg FX.la jt;exact this
    rw [fe,if_neg Qv,if_neg SP,if_neg HP,if_pos hk]
    refine (if_neg (of_decide_eq_false h0)).trans ?_
    show some (SX.mk _ ⟨_,(s',Rt.bV f.ar.2++[iP f.x]),[],[],[],0,f.x.la⟩ 0 wd)=some (SX.mk (zF.map FM.x) ⟨f3.k,(s',Rt.bV (f3.ar.2++[u])),Rt.bV f3.al.2,Rt.bV f3.an.2,Rt.bV f3.ca.2,f3.n,f3.la.rx⟩ 0 wd)
    rw [rK,e1,e3,e4,e5,e6,e7,kz,e2]
    show some (SX.mk _ ⟨_,(s',Rt.bV f.ar.2++[iP f.x]),[],[],[],0,f.x.la⟩ 0 wd)=some (SX.mk _ ⟨_,(s',Rt.bV f.ar.2++[u.rx]),[],[],[],0,f.x.la⟩ 0 wd)
    rw [hx]
    rfl
  refine l9 (H2.aL (bs:=[b3]) (λLx D4=>⟨f.ar.1,D4.zT 1 rfl h4 1,?_,?_⟩) (by simp))
  .refine (show SF (·∈own) w Lx rb sl st wd fs f [.g b3] ts from D4).LF (bs:=[b3]) h3 h4 (λpA s1=>tU s1 LL) ?_ (by simp)
   rintro r Ly Co zF f3 p3 mj DU yA t3 oJ uy vF ⟨Wi,rK,jt,rfl,rfl,u,hu,rfl,hx⟩ xZ
   have W7:f3.ar.1=f.ar.1:=by have:=congrArg (λx:FX=>x.ar.1) jt;exact this
   refine ⟨u.k,u.lo.toNat,u.hi.toNat,u.s,rfl,?_⟩
   rw [<-Wi,<-W7]
   refine ⟨xZ.zT 1 rfl uy 1,xZ.iQ (e:=aB) (sz:=4) (n:=1) (cs:=z4) rfl (by decide) λLR GD=>⟨GD.zT 1 rfl uy 1,?_⟩⟩
   have LG:(f3.e8 1).2.length<=1000000:=by
    have e:f3.x.ar.2.length=f3.ar.2.length:=(Ht f3).1
    rw [jt] at e
    have:f.x.ar.2.length<=999999:=hs.ar
    show f3.ar.2.length<=_
    rw [<-e];show f.x.ar.2.length<=_;omega
   exact N6 (bs:=[b3]) (K:=λw5=>regex_reader_feed.gm (bD rb) w5 (CE w own ts rb (Ka t ⟨fs.map FM.x,f.x,mj,DU⟩))) (show SF (·∈own) w LR rb Co mj DU zF f3 ([.g b3]++[.row aB 4 ⟨some (bD Ly.heap.size),1,1⟩ z4]) yA from GD) 4 rfl uy 1 (by omega) (by omega) u LG rfl (λs' w5 H5=>fin H5 oJ uy vF t3 rK jt hu hx) (by simp)
  .refine D4.iQ (e:=aB) (sz:=4) (n:=1) (cs:=z4) rfl (by decide) λw30 H30=>⟨H30.zT 1 rfl h4 1,?_⟩
   refine (show SF (·∈own) w w30 rb sl st wd fs f ([.g b3]++[.row aB 4 ⟨some (bD Lx.heap.size),1,1⟩ z4]) ts from H30).LF (bs:=[b3]) h3 h4 (λpA s1=>tU s1 LL) ?_ (by simp)
   rintro r Ly Co zF f3 p3 mj DU yA t3 oJ uy vF ⟨Wi,rK,jt,rfl,rfl,u,hu,rfl,hx⟩ xZ
   have W7:f3.ar.1=f.ar.1:=by have:=congrArg (λx:FX=>x.ar.1) jt;exact this
   refine ⟨u.k,u.lo.toNat,u.hi.toNat,u.s,rfl,?_⟩
   rw [<-Wi,<-W7]
   refine ⟨xZ.zT 1 rfl uy 1,?_⟩
   have LG:(f3.e8 1).2.length<=1000000:=by
    have e:f3.x.ar.2.length=f3.ar.2.length:=(Ht f3).1
    rw [jt] at e
    have:f.x.ar.2.length<=999999:=hs.ar
    show f3.ar.2.length<=_
    rw [<-e];show f.x.ar.2.length<=_;omega
   exact N6 (bs:=[b3]) (K:=λw5=>regex_reader_feed.gm (bD rb) w5 (CE w own ts rb (Ka t ⟨fs.map FM.x,f.x,mj,DU⟩))) xZ 4 rfl uy 1 (by omega) (by omega) u LG rfl (λs' w5 H5=>fin H5 oJ uy vF t3 rK jt hu hx) (by simp)
 .refine H2.aL (bs:=[b3]) (λw43 T3=>⟨sl,T3.ld 0 0,?_⟩) (by simp)
  have T3:SF (·∈own) w w43 rb sl st wd fs f [.g b3] ts:=T3
  have U4:=Ro T3
  rcases qp fs with rfl|⟨Sg,g,rfl⟩
  .refine aI (decide_eq_false (by rw [U4];simp)) ?_
   refine jz T3 h3 h4 base (λ_ h=>h) ⟨z,.inl ⟨?_,rfl⟩⟩
   rw [fe,if_neg Qv,if_neg SP,if_neg HP,if_neg XV,if_pos hk]
   rfl
  .refine aQ (decide_eq_true (by rw [U4];simp;omega)) (l9 ⟨f.ar.1,T3.zT 1 rfl h4 1,?_⟩)
   refine T3.LF (bs:=[b3]) h3 h4 (λpA s1=>tU s1 LL) ?_ (by simp)
   rintro r w44 Co zF f3 p3 mj DU yA t3 oJ uy vF ⟨Wi,rK,jt,rfl,rfl,u,hu,rfl,hx⟩ H44
   have W7:f3.ar.1=f.ar.1:=by have:=congrArg (λx:FX=>x.ar.1) jt;exact this
   refine ⟨u.k,u.lo.toNat,u.hi.toNat,u.s,rfl,?_⟩
   rw [<-Wi,<-W7]
   refine ⟨H44.zT 1 rfl uy 1,H44.iQ (e:=aB) (sz:=4) (n:=1) (cs:=u.c) rfl (by decide) λw45 YP=>⟨YP.zT 1 rfl uy 1,?_⟩⟩
   have aas:∃AS g1,zF=AS++[g1]/\AS.map FM.x=Sg.map FM.x/\g1.x=g.x:=by
    rcases qp zF with rfl|⟨AS,g1,rfl⟩
    .simp at rK
    .refine ⟨AS,g1,rfl,?_⟩
     rw [yJ,yJ] at rK
     have:=List.append_inj' rK rfl
     exact ⟨this.1,by simpa using this.2⟩
   obtain ⟨AS,g1,rfl,hfs,UT⟩:=aas
   have iO:(((AS++[g1])++[f3]).flatMap FM.rows)[(AS++[g1]).length *4+0]? =some (f3.ar.1,f3.ar.2.flatMap Rt.c):=oZ (AS++[g1]) f3 0 _ rfl
   have LG:f3.ar.2.length<=999999:=by
    have e:f3.x.ar.2.length=f3.ar.2.length:=(Ht f3).1
    rw [jt] at e
    have:f.x.ar.2.length<=999999:=hs.ar
    rw [<-e];exact this
   have nr:f3.ar.1.n=f3.ar.2.length:=by
    have hp:(En.rows (((AS++[g1])++[f3]).flatMap FM.rows)).P w45:=YP.get 2
    exact Rt.b0 (hp.1 _ (cR iO)).iD
   refine YP.IL (bs:=[b3]) 2 ((AS++[g1]).length *4+0) (src:=⟨some (bD w44.heap.size),1,1⟩) (news:=u.c) rfl iO (aO.iD (YP.get 4)) (by simp [Value.oneCell',Rt.c]) (by show (f3.ar.1.n+1) *40<=_;omega) (λs' w46 H46 xw rr=>?_) (by simp)
   have HF:(AS++[g1]).length *4+0<(((AS++[g1])++[f3]).flatMap FM.rows).length:=by rw [qt];simp
   have qB:∀b∈aZ s',b∈own\/w.heap.size<=b:=λb hb=>(H46.new (.rows ((((AS++[g1])++[f3]).flatMap FM.rows).set ((AS++[g1]).length *4+0) (s',f3.ar.2.flatMap Rt.c++u.c))) (by simp) b (aH.2 (mI.2 ⟨_,cR (tD HF),hb⟩))).symm
   have H47:=H46.Dc 2 ((AS++[g1]).length *4+0) rfl (tD HF)
   have ec:f3.ar.2.flatMap Rt.c++u.c=(f3.ar.2++[u]).flatMap Rt.c:=by simp
   rw [ec] at H47
   have H48:=H47.node 0 3 0 0 (s:=s') (ks:=f3.ar.2++[u]) rfl (uD _ (List.mem_singleton.2 rfl)) (λv hv=>by
    rcases fS.1 hv with hv|hv
    .exact oJ f3 (by simp) v (rM f3 1 hv)
    .simp at hv;subst hv;exact hu)
   have er:(((((AS++[g1])++[f3]).flatMap FM.rows).set ((AS++[g1]).length *4+0) (s',(f3.ar.2++[u]).flatMap Rt.c)).set ((AS++[g1]).length *4+0) (⟨none,0,0⟩,[]))=(AS++[g1]).flatMap FM.rows++f3.rows.set 0 (⟨none,0,0⟩,[]):=by
    rw [List.set_set]
    exact Am (AS++[g1]) f3 0 _ (by omega)
   have H49:LH (·∈own) w w46 (SL rb Co mj DU (((AS++[g1])++[f3]).flatMap FM.c) ((AS++[g1]).flatMap FM.rows++f3.rows.set 0 (⟨none,0,0⟩,[]))++[.g b3]) [.trees (yA++[.mk 3 0 0 s' (f3.ar.2++[u])])]:=by
    rw [<-er]
    exact H48.take 4
   have H50:=Cj H49 2 rfl
   have HH:f3.k=f.k:=by have:=congrArg FX.k jt;exact this
   refine close (s':=z) (.mk 3 0 0 s' (f3.ar.2++[u])) H50 (λx hx v hv=>qf _ (oJ x (qf _ hx) v hv)) uy ?_ (by simp) (.inr (by simp [Rt.l])) ?_ (λv hv=>qf _ (t3 v hv)) ?_
   .have:=congrArg List.length hfs
    simp at this Nr
    omega
   .intro b hb
    obtain ⟨v,hv,UP⟩:=Rt.bC.1 hb
    rcases fS.1 hv with hv|hv
    .exact vF b (Rt.bC.2 ⟨v,hv,UP⟩)
    .simp at hv
     rw [hv] at UP
     rcases Rt.eO.1 UP with UP|UP
     .exact .inr (qB b (fY (e:=aB) UP)).symm
     .obtain ⟨t',nS,eG⟩:=Rt.bC.1 UP
      have nS:t'∈f3.ar.2++[u]:=nS
      refine vF b (Rt.bC.2 ⟨t',?_,eG⟩)
      rcases fS.1 nS with nS|nS
      .exact oJ f3 (by simp) t' (rM f3 1 nS)
      .simp at nS;subst nS;exact hu
   .rw [fe,if_neg Qv,if_neg SP,if_neg HP,if_neg XV,if_pos hk]
    refine (if_neg (by simp)).trans ?_
    rw [yJ]
    refine (yd _ _ _ _ _ _).trans ?_
    have e2:Rt.bV f3.ar.2=f.x.ar.2:=by have:=congrArg (λx:FX=>x.ar.2) jt;exact this
    rw [hfs,UT,HH]
    show _=some (SX.mk _ (oO g.x (ML f.k (Rt.bV (f3.ar.2++[u])))) 3 DU)
    rw [kz,e2]
    show _=some (SX.mk _ (oO g.x (ML f.k (f.x.ar.2++[u.rx]))) 3 DU)
    rw [hx]
    rfl
 .refine ⟨sl,H2.ld 0 0,?_⟩
  have U4:=Ro H2
  rcases qp fs with rfl|⟨Sg,g,rfl⟩
  .have e:(((sl.n:Nat):Int)==1)=true:=by rw [U4];rfl
   rw [e]
   refine jz H2 h3 h4 base (λ_ h=>h) ⟨z,.inr ⟨?_,rfl⟩⟩
   rw [fe,if_neg Qv,if_neg SP,if_neg HP,if_neg XV,if_neg k41,if_pos hk]
   rfl
  .have e:(((sl.n:Nat):Int)==1)=false:=by rw [U4];simp;omega
   rw [e]
   refine jz H2 h3 h4 base (λ_ h=>h) ⟨z,.inl ⟨?_,rfl⟩⟩
   rw [fe,if_neg Qv,if_neg SP,if_neg HP,if_neg XV,if_neg k41,if_pos hk]
   exact if_neg (by simp)
 .refine H2.LF (bs:=[b3]) h3 h4 (λpA s1=>CM (BA s1 LL.n' LL.ca)) ?_ (by simp)
  rintro _ w3 Co zF f3 p3 mj DU yA t3 oJ uy vF ⟨rfl,OX,rK,jt,rfl,rfl⟩ H3
  refine ⟨rfl,item H3 oJ uy vF t3 ?_ ?_ ?_⟩
  .have:=congrArg List.length rK
   simp at this
   omega
  .have e5:f3.n=0:=by have:=congrArg FX.n jt;exact this
   omega
  .rw [fe,if_neg Qv,if_neg SP,if_neg HP,if_neg XV,if_neg k41,if_neg k36,rK,jt]
set_option maxRecDepth 100000
theorem wG (s:ByteArray) (c:UInt8) (w:World):Sem.run Tryz.prog (callFunc eD #[.string s,.int .u8 (c.toNat:Int)]) w=.ok (.value (.int .i64 (Go.Lib.indexByte (bl s) c))) w:=by
 have h:=run_callFunc_indexByte (P:=Tryz.prog) (f:=eD) (fn:=(Tryz.prog.funcs[eD]?).getD default) (by kernel_rfl) (by kernel_rfl) (by kernel_rfl) (by kernel_rfl) (by kernel_rfl) #[.string s,.int .u8 (c.toNat:Int)] w
 rw [h,Go.Lib.run_indexByteString]
 show Result.ok _ w=_
 congr 4
 simp
theorem tI (s:ByteArray) (c:UInt8) (w:World):Calls Tryz.prog ia #[.string s,.int .u8 (c.toNat:Int)] w λr w'=>r=.returned (.int .i64 (Go.Lib.indexByte (bl s) c))/\bG w w':=by
 refine strings_IndexByte.ok _ _ w _ ?_
 refine (show Calls Tryz.prog gB #[.string s,.int .u8 (c.toNat:Int)] w λr w'=>r=.returned (.int .i64 (Go.Lib.indexByte (bl s) c))/\w=w' from ?_).mono ?_
 .exact internal_stringslite_IndexByte.ok _ _ w _ ⟨_,w,wG s c w,rfl,rfl⟩
 .rintro r w1 ⟨rfl,rfl⟩
  exact ⟨_,rfl,rfl,Fr.refl _ _⟩
def nv (c:UInt8):Bool:=decide (97<=c.toNat)&&decide (c.toNat<=122)
def xK (c:UInt8):Bool:=decide (32<=c.toNat)&&(decide (c.toNat<=126)&&(!decide (c=39)&&!decide (c=92)))
theorem yQ (c:UInt8) (w:World):Calls Tryz.prog kK #[.int .u8 (c.toNat:Int)] w λr w'=>r=.returned (.bool (nv c))/\bG w w':=by
 refine regex_small.ok _ w _ (aN (λh=>⟨?_,Fr.refl _ _⟩) (λh=>⟨?_,Fr.refl _ _⟩))
 .unfold nv
  rw [decide_eq_true (show 97<=c.toNat by omega),Bool.true_and]
  rw [show decide ((c.toNat:Int)<=122)=decide (c.toNat<=122) from decide_eq_decide.2 (by omega)]
 .unfold nv
  rw [decide_eq_false (show ¬97<=c.toNat by omega),Bool.false_and]
theorem OL (c:UInt8) (n:Nat) (hn:n<256):(((c.toNat:Nat):Int)==(n:Int))=decide (c=UInt8.ofNat n):=by
 have e:c.toNat=n↔c=UInt8.ofNat n:=by
  rw [<-UInt8.toNat_inj,UInt8.toNat_ofNat']
  omega
 rw [Bool.eq_iff_iff,beq_iff_eq,decide_eq_true_iff,<-e]
 omega
theorem IV (c:UInt8) (w:World):Calls Tryz.prog oL #[.int .u8 (c.toNat:Int)] w λr w'=>r=.returned (.bool (xK c))/\bG w w':=by
 have e39:(((c.toNat:Nat):Int) !=39)= !decide (c=39):=by
  have:=OL c 39 (by omega)
  show (!(((c.toNat:Nat):Int)==((39:Nat):Int)))=_
  rw [this];rfl
 have e92:(((c.toNat:Nat):Int) !=92)= !decide (c=92):=by
  have:=OL c 92 (by omega)
  show (!(((c.toNat:Nat):Int)==((92:Nat):Int)))=_
  rw [this];rfl
 refine regex_plain.ok _ w _ ?_
 rw [e39,e92]
 unfold xK
 refine aN (λh=>?_) (λh=>⟨?_,Fr.refl _ _⟩)
 .rw [decide_eq_true (show 32<=c.toNat by omega),Bool.true_and]
  refine aN (λh2=>?_) (λh2=>⟨?_,Fr.refl _ _⟩)
  .rw [decide_eq_true (show c.toNat<=126 by omega),Bool.true_and]
   refine bA (λh3=>⟨?_,Fr.refl _ _⟩) (λh3=>⟨?_,Fr.refl _ _⟩)
   .rw [h3,Bool.true_and]
   .rw [h3,Bool.false_and]
  .rw [decide_eq_false (show ¬c.toNat<=126 by omega),Bool.false_and]
 .rw [decide_eq_false (show ¬32<=c.toNat by omega),Bool.false_and]
theorem Ui {s:ByteArray} {l:List UInt8} (h:bl s=l) (i:Nat):s[i]? =l[i]?:=by
 subst h
 by_cases hi:i<s.size
 .rw [getElem?_pos s i hi,g8 (by rw [iS];exact hi)];rfl
 .rw [getElem?_neg s i hi,List.getElem?_eq_none (by rw [iS];omega)]
theorem xP {s:ByteArray} {i:Nat} (h:i<s.size):s[i]? =some ((bl s).getD i 0):=by
 rw [Ui (s:=s) (l:=bl s) rfl i]
 have hl:i<(bl s).length:=by rw [iS];exact h
 rw [List.getD_eq_getElem?_getD,g8 hl]
 rfl
def EW:List UInt8:=[48,49,50,51,52,53,54,55,56,57,97,98,99,100,101,102]
def aar (a b:Int):UInt8:=UInt8.ofNat (IntKind.wrap .u8 (WI .i64 (IntKind.wrap .i64 (a *2^4)) b)).toNat
def qG (l:List UInt8) (i:Nat):Option (UInt8×Nat):=
 if i+2<l.length/\l.getD i 0=39/\xK (l.getD (i+1) 0)=true/\l.getD (i+2) 0=39 then some (l.getD (i+1) 0,3)
 else if i+3<l.length/\l.getD i 0=92/\l.getD (i+1) 0=120/\0<=Go.Lib.indexByte EW (l.getD (i+2) 0)/\0<=Go.Lib.indexByte EW (l.getD (i+3) 0) then some (aar (Go.Lib.indexByte EW (l.getD (i+2) 0)) (Go.Lib.indexByte EW (l.getD (i+3) 0)),4)
 else none
def oR:Option (UInt8×Nat)->Value
 |none=>.tuple #[.int .u8 0,.int .i64 0,.bool false]
 |some (b,n)=>.tuple #[.int .u8 (b.toNat:Int),.int .i64 (n:Int),.bool true]
theorem y0 {x:UInt8} {n:Nat} {A B:Prop} (hn:n<256) (h1:x=UInt8.ofNat n->A) (h2:x≠UInt8.ofNat n->B):aG (((x.toNat:Nat):Int)==(n:Int)) A B:=mC hn h1 h2
theorem DW (x:Int):((UInt8.ofNat (IntKind.wrap .u8 x).toNat).toNat:Int)=IntKind.wrap .u8 x:=by
 rw [UInt8.toNat_ofNat',IntKind.wrap_u8]
 omega
theorem zh (s:ByteArray) (i:Nat) (hi:i<=1000000) (w:World):Calls Tryz.prog lN #[.string s,.int .i64 (i:Int)] w λr w'=>r=.returned (oR (qG (bl s) i))/\bG w w':=by
 have e1:IntKind.wrap .i64 ((i:Int)+1)=((i+1:Nat):Int):=by rw [IntWalk.i64_in _ (by omega)];omega
 have e2:IntKind.wrap .i64 ((i:Int)+2)=((i+2:Nat):Int):=by rw [IntWalk.i64_in _ (by omega)];omega
 have e3:IntKind.wrap .i64 ((i:Int)+3)=((i+3:Nat):Int):=by rw [IntWalk.i64_in _ (by omega)];omega
 have hl:(bl s).length=s.size:=iS s
 have hex:¬(i+2<(bl s).length/\(bl s).getD i 0=39/\xK ((bl s).getD (i+1) 0)=true/\(bl s).getD (i+2) 0=39)->∀w',bG w w'->regex_byteAt.S0 s i w' (λr w'=>r=.returned (oR (qG (bl s) i))/\bG w w'):=by
  intro hq w' hf
  have no:¬(i+3<(bl s).length/\(bl s).getD i 0=92/\(bl s).getD (i+1) 0=120/\0<=Go.Lib.indexByte EW ((bl s).getD (i+2) 0)/\0<=Go.Lib.indexByte EW ((bl s).getD (i+3) 0))->∀w',bG w w'->regex_byteAt.S1 w' (λr w'=>r=.returned (oR (qG (bl s) i))/\bG w w'):=λhn w' hf=>by
   refine ⟨?_,hf⟩
   unfold qG
   rw [if_neg hq,if_neg hn]
   rfl
  show aG _ _ _
  rw [e3,e2,e1]
  refine aN (λh3=>⟨by omega,_,xP (i:=i) (by omega),y0 (n:=92) (by omega) (λhc=>⟨by omega,_,xP (i:=i+1) (by omega),y0 (n:=120) (by omega) (λhx=>?_) (λhx=>no (λh=>hx h.2.2.1) w' hf)⟩) (λhc=>no (λh=>hc h.2.1) w' hf)⟩) (λh3=>no (λh=>by omega) w' hf)
  refine (show LH F0 w w' [] [] from ((LH.start (M:=F0) (w:=w) [] (by simp)).pI hf)).dr λw1 H1=>⟨by omega,_,xP (i:=i+2) (by omega),by omega,_,xP (i:=i+3) (by omega),H1.call (tI _ _ _) ?_⟩
  rintro _ w2 rfl H2
  refine ⟨_,rfl,H2.call (tI _ _ _) ?_⟩
  rintro _ w3 rfl H3
  refine ⟨_,rfl,?_⟩
  show aG (decide (Go.Lib.indexByte EW _>=0)) (aG (decide (Go.Lib.indexByte EW _>=0)) _ _) _
  refine aN (λha=>aN (λhb=>⟨?_,H3.fr⟩) (λhb=>no (λh=>hb h.2.2.2.2) w3 H3.fr)) (λha=>no (λh=>ha h.2.2.2.1) w3 H3.fr)
  unfold qG
  rw [if_neg hq,if_pos ⟨by omega,hc,hx,ha,hb⟩]
  exact congrArg (λx=>Ending.returned (.tuple #[.int .u8 x,.int .i64 4,.bool true])) (DW _).symm
 refine regex_byteAt.ok _ _ w _ ?_
 rw [e2,e1]
 refine aN (λh2=>⟨by omega,_,xP (i:=i) (by omega),y0 (n:=39) (by omega) (λhc=>⟨by omega,_,xP (i:=i+1) (by omega),(IV _ w).mono ?_⟩) (λhc=>hex (λh=>hc h.2.1) w (Fr.refl _ _))⟩) (λh2=>hex (λh=>by omega) w (Fr.refl _ _))
 rintro _ w1 ⟨rfl,f1⟩
 refine ⟨_,rfl,bA (λhp=>⟨by omega,_,xP (i:=i+2) (by omega),y0 (n:=39) (by omega) (λhd=>⟨by omega,_,xP (i:=i+1) (by omega),?_,f1⟩) (λhd=>hex (λh=>hd h.2.2.2) w1 f1)⟩) (λhp=>hex (λh=>by rw [h.2.2.1] at hp;cases hp) w1 f1)⟩
 unfold qG
 rw [if_pos ⟨by omega,hc,hp,hd⟩]
 rfl
def Yq:List UInt8:=[40,41,44,124,38,33,42]
def nA (l:List UInt8) (i:Nat):Tk×Nat:=
 if 0<=Go.Lib.indexByte Yq (l.getD i 0) then (⟨l.getD i 0,0,0,[],i⟩,1)
 else if nv (l.getD i 0)=true then (⟨119,0,0,(l.drop i).takeWhile nv,i⟩,((l.drop i).takeWhile nv).length)
 else if l.getD i 0=91 then
  match qG l (i+1) with
  |none=>(⟨63,0,0,[],i⟩,1)
  |some (lo,m)=>
   if i+1+m<l.length/\l.getD (i+1+m) 0=45 then
    match qG l (i+1+m+1) with
    |none=>(⟨63,0,0,[],i⟩,1)
    |some (hi,m2)=>if i+1+m+(1+m2)<l.length/\l.getD (i+1+m+(1+m2)) 0=93/\lo.toNat<=hi.toNat then (⟨114,lo,hi,[],i⟩,1+m+(1+m2)+1) else (⟨63,0,0,[],i⟩,1)
   else (⟨63,0,0,[],i⟩,1)
 else match qG l i with
  |some (b,n)=>(⟨114,b,b,[],i⟩,n)
  |none=>(⟨63,0,0,[],i⟩,1)
def RF (x:Tk×Nat):Value:=.tuple #[x.1.v,.int .i64 (x.2:Int)]
theorem xf {l:List UInt8} {i:Nat} {b:UInt8} {n:Nat} (h:qG l i=some (b,n)):(n=3\/n=4)/\i+n<=l.length:=by
 unfold qG at h
 split at h
 .cases h;rename_i hc;omega
 .split at h
  .cases h;rename_i hc;omega
  .cases h
theorem uG:∀(l:List UInt8) (m:Nat) (p:UInt8->Bool),m<=l.length->(∀k<m,p (l.getD k 0)=true)->(m<l.length->p (l.getD m 0)=false)->(l.takeWhile p)=l.take m
 |[],m,p,hm,_,_=>by simp
 |c::l,0,p,hm,_,hs=>by
  have:p c=false:=hs (by simp)
  simp [this]
 |c::l,m+1,p,hm,ha,hs=>by
  have hc:p c=true:=ha 0 (by omega)
  rw [List.takeWhile_cons,if_pos hc,List.take_succ_cons,uG l m p (by simpa using hm) (λk hk=>by simpa using ha (k+1) (by omega)) (λh=>by simpa using hs (by simpa using h))]
theorem BR (l:List UInt8) (i k:Nat):(l.drop i).getD k 0=l.getD (i+k) 0:=by
 rw [List.getD_eq_getElem?_getD,List.getD_eq_getElem?_getD,List.getElem?_drop]
theorem Kl (s:ByteArray) (hs:s.size<=900000) (i:Nat) (hi:i<s.size) (w:World):Calls Tryz.prog pq #[.string s,.int .i64 (i:Int)] w λr w'=>r=.returned (RF (nA (bl s) i))/\bG w w':=by
 have hl:(bl s).length=s.size:=iS s
 refine regex_tokenAt.cU _ _ w _ ((mu [] (λ_ h=>by cases h)).bF (bs:=[]) (λb4 w1 H1=>⟨by omega,_,xP (i:=i) hi,?_⟩) (by simp))
 have H1:LH F0 w w1 [.g b4] []:=H1
 have bad:∀w',LH F0 w w' [.g b4] []->nA (bl s) i=(⟨63,0,0,[],i⟩,1)->∀(a0 a1 a2:Int) (a3:ByteArray) (a4:Int),regex_tokenAt.qb (i:Int) b4 a0 a1 a2 a3 a4 w' λr w'=>r=.returned (RF (nA (bl s) i))/\bG w w':=λw' H' he _ _ _ _ _=>H'.aL (bs:=[b4]) (λw3 H3=>⟨by rw [he];rfl,H3.fr⟩) (by simp)
 refine H1.aK (tI _ _ _) ?_
 rintro _ w2 rfl H2
 refine ⟨_,rfl,?_⟩
 show aG (decide (Go.Lib.indexByte Yq _>=0)) _ _
 refine aN (λh0=>H2.aL (bs:=[b4]) (λw3 H3=>⟨?_,H3.fr⟩) (by simp)) (λh0=>H2.aK (yQ _ _) ?_)
 .unfold nA
  rw [if_pos h0]
  rfl
 rintro _ w3 rfl H3
 refine ⟨_,rfl,bA (λQn=>?_) (λQn=>mC (n:=91) (by omega) (λUM:(bl s).getD i 0=91=>?_) (λUM:(bl s).getD i 0≠91=>?_))⟩
 .
  have loop:∀(n j:Nat) (w':World),s.size - j<n->i<=j->j<=s.size->(∀k,i<=k->k<j->nv ((bl s).getD k 0)=true)->LH F0 w w' [.g b4] []->∀(a0 a1 a2:Int) (a3:ByteArray) (a4:Int),regex_tokenAt.mD s (i:Int) b4 a0 a1 a2 a3 a4 (j:Int) w' λr w'=>r=.returned (RF (nA (bl s) i))/\bG w w':=by
   intro n
   induction n with
   |zero=>intro j w' h;omega
   |succ n ih=>
    intro j w' hn yG hj hall H a0 a1 a2 a3 a4
    have done:(j<s.size->nv ((bl s).getD j 0)=false)->∀w',LH F0 w w' [.g b4] []->regex_tokenAt.fB s (i:Int) b4 a0 a1 a2 a3 a4 (j:Int) w' λr w'=>r=.returned (RF (nA (bl s) i))/\bG w w':=λGL w' H'=>by
     refine ⟨by omega,by omega,by omega,by omega,H'.aL (bs:=[b4]) (λw5 H5=>⟨?_,H5.fr⟩) (by simp)⟩
     have etw:((bl s).drop i).takeWhile nv=((bl s).drop i).take (j - i):=by
      refine uG _ _ _ (by rw [Tg];omega) (λk hk=>?_) (λh=>?_)
      .rw [BR];exact hall _ (by omega) (by omega)
      .rw [BR,show i+(j - i)=j by omega]
       refine GL ?_
       rw [Tg] at h
       omega
     have aad:(((bl s).drop i).take (j - i)).length=j - i:=by rw [List.length_take,Tg];omega
     have aac:s.extract (Int.toNat (i:Int)) (Int.toNat (j:Int))=ba (((bl s).drop i).take (j - i)):=by
      have:bl (s.extract i j)=((bl s).drop i).take (j - i):=by
       unfold bl
       rw [ByteArray.data_extract,Array.toList_extract,List.extract_eq_take_drop]
      rw [Int.toNat_natCast,Int.toNat_natCast,<-this,Bw]
     have ew:IntKind.wrap .i64 ((j:Int) - (i:Int))=((j - i:Nat):Int):=by rw [IntWalk.i64_in _ (by omega)];omega
     rw [aac,ew]
     unfold nA
     rw [if_neg h0,if_pos Qn,etw,aad]
     rfl
    refine regex_tokenAt.dM _ _ _ _ _ _ _ _ _ _ _ (aN (λh=>⟨by omega,_,xP (i:=j) (by omega),H.aK (yQ _ _) ?_⟩) (λh=>done (λh'=>by omega) w' H))
    rintro _ w5 rfl H5
    refine ⟨_,rfl,bA (λhb=>?_) (λhb=>done (λ_=>hb) w5 H5)⟩
    rw [show IntKind.wrap .i64 ((j:Int)+1)=((j+1:Nat):Int) by rw [IntWalk.i64_in _ (by omega)];omega]
    refine ih (j+1) w5 (by omega) (by omega) (by omega) (λk h1 h2=>?_) H5 _ _ _ _ _
    by_cases hk:k=j
    .subst hk;exact hb
    .exact hall k h1 (by omega)
  exact loop (s.size+1) i w3 (by omega) (Nat.le_refl _) (by omega) (λk h1 h2=>by omega) H3 _ _ _ _ _
 .have HK:¬nv ((bl s).getD i 0)=true:=by rw [Qn];simp
  rw [show IntKind.wrap .i64 ((i:Int)+1)=((i+1:Nat):Int) by rw [IntWalk.i64_in _ (by omega)];omega]
  refine H3.aK (zh s (i+1) (by omega) _) ?_
  rintro _ w4 rfl H4
  cases hb:qG (bl s) (i+1) with
  |none=>
   refine ⟨0,0,false,rfl,aQ rfl (bad w4 H4 ?_ _ _ _ _ _)⟩
   unfold nA
   rw [if_neg h0,if_neg HK,if_pos UM,hb]
  |some q=>
   obtain ⟨lo,m⟩:=q
   obtain ⟨hm,hml⟩:=xf hb
   refine ⟨lo.toNat,m,true,rfl,?_⟩
   try dsimp only
   rw [show IntKind.wrap .i64 (((i+1:Nat):Int)+(m:Int))=((i+1+m:Nat):Int) by rw [IntWalk.i64_in _ (by omega)];omega]
   have no1:¬(i+1+m<(bl s).length/\(bl s).getD (i+1+m) 0=45)->nA (bl s) i=(⟨63,0,0,[],i⟩,1):=λh=>by
    unfold nA
    rw [if_neg h0,if_neg HK,if_pos UM,hb]
    exact if_neg h
   refine aI rfl (aN (λh=>bad w4 H4 (no1 (λh'=>by omega)) _ _ _ _ _) (λh=>⟨by omega,_,xP (i:=i+1+m) (by omega),?_⟩))
   refine bA (λie=>bad w4 H4 (no1 (λh'=>?_)) _ _ _ _ _) (λheq=>?_)
   .rw [h'.2] at ie;exact absurd ie (by decide)
   have Sk:(bl s).getD (i+1+m) 0=45:=by
    have e:(((bl s).getD (i+1+m) 0).toNat:Int)=45:=by simpa using heq
    have:((bl s).getD (i+1+m) 0).toNat=(45:UInt8).toNat:=by show _=45;omega
    exact UInt8.toNat_inj.1 this
   rw [show IntKind.wrap .i64 (((i+1+m:Nat):Int)+1)=((i+1+m+1:Nat):Int) by rw [IntWalk.i64_in _ (by omega)];omega]
   refine H4.aK (zh s (i+1+m+1) (by omega) _) ?_
   rintro _ w5 rfl H5
   cases BU:qG (bl s) (i+1+m+1) with
   |none=>
    refine ⟨0,0,false,rfl,aQ rfl (bad w5 H5 ?_ _ _ _ _ _)⟩
    unfold nA
    rw [if_neg h0,if_neg HK,if_pos UM,hb]
    refine (if_pos ⟨by omega,Sk⟩).trans ?_
    rw [BU]
   |some q=>
    obtain ⟨GK,m2⟩:=q
    obtain ⟨Wk,aa8⟩:=xf BU
    refine ⟨GK.toNat,m2,true,rfl,?_⟩
    try dsimp only
    rw [show IntKind.wrap .i64 (((i+1+m:Nat):Int)+IntKind.wrap .i64 (1+(m2:Int)))=((i+1+m+(1+m2):Nat):Int) by rw [IntWalk.i64_in (1+(m2:Int)) (by omega),IntWalk.i64_in _ (by omega)];omega]
    have e2:nA (bl s) i=if i+1+m+(1+m2)<(bl s).length/\(bl s).getD (i+1+m+(1+m2)) 0=93/\lo.toNat<=GK.toNat then (⟨114,lo,GK,[],i⟩,1+m+(1+m2)+1) else (⟨63,0,0,[],i⟩,1):=by
     unfold nA
     rw [if_neg h0,if_neg HK,if_pos UM,hb]
     refine (if_pos ⟨by omega,Sk⟩).trans ?_
     rw [BU]
    refine aI rfl (aN (λh=>bad w5 H5 (e2.trans (if_neg λh'=>by omega)) _ _ _ _ _) (λh=>⟨by omega,_,xP (i:=i+1+m+(1+m2)) (by omega),?_⟩))
    refine bA (λie=>bad w5 H5 (e2.trans (if_neg λh'=>?_)) _ _ _ _ _) (λUR=>?_)
    .rw [h'.2.1] at ie;exact absurd ie (by decide)
    have h93:(bl s).getD (i+1+m+(1+m2)) 0=93:=by
     have e:(((bl s).getD (i+1+m+(1+m2)) 0).toNat:Int)=93:=by simpa using UR
     have:((bl s).getD (i+1+m+(1+m2)) 0).toNat=(93:UInt8).toNat:=by show _=93;omega
     exact UInt8.toNat_inj.1 this
    refine aN (λLJ=>bad w5 H5 (e2.trans (if_neg λh'=>by omega)) _ _ _ _ _) (λLJ=>H5.aL (bs:=[b4]) (λw6 H6=>⟨?_,H6.fr⟩) (by simp))
    rw [e2,if_pos ⟨by omega,h93,by omega⟩]
    rw [show IntKind.wrap .i64 (IntKind.wrap .i64 (((i+1+m+(1+m2):Nat):Int)+1) - (i:Int))=((1+m+(1+m2)+1:Nat):Int) by rw [IntWalk.i64_in (((i+1+m+(1+m2):Nat):Int)+1) (by omega),IntWalk.i64_in _ (by omega)];omega]
    rfl
 .have HK:¬nv ((bl s).getD i 0)=true:=by rw [Qn];simp
  refine H3.aK (zh s i (by omega) _) ?_
  rintro _ w4 rfl H4
  cases hb:qG (bl s) i with
  |none=>
   refine ⟨0,0,false,rfl,aI rfl (bad w4 H4 ?_ _ _ _ _ _)⟩
   unfold nA
   rw [if_neg h0,if_neg HK,if_neg UM,hb]
  |some q=>
   obtain ⟨b,n⟩:=q
   refine ⟨b.toNat,n,true,rfl,aQ rfl (H4.aL (bs:=[b4]) (λw5 H5=>⟨?_,H5.fr⟩) (by simp))⟩
   unfold nA
   rw [if_neg h0,if_neg HK,if_neg UM,hb]
   rfl
structure Inv (S:SX) (m:Nat):Prop where
 lo:S.lo.length<=m
 sl:∀f∈S.lo,Small f m
 tp:Small S.tp m
 s1:S.st=1->0<=S.tp.k/\S.lo≠[]
 s2:S.st=2->0<=S.wd
theorem Small.mono {f:FX} {m n:Nat} (h:Small f m) (hm:m<=n):Small f n:=⟨Nat.le_trans h.n' hm,Nat.le_trans h.ar hm,Nat.le_trans h.al hm,Nat.le_trans h.an hm,Nat.le_trans h.ca hm⟩
theorem xQ (k:Int) (m:Nat):Small (ry k) m:=⟨Nat.zero_le _,Nat.zero_le _,Nat.zero_le _,Nat.zero_le _,Nat.zero_le _⟩
theorem qu {f:FX} {m:Nat} (h:Small f m) (x:Rx):Small (oO f x) m:=⟨h.n',h.ar,h.al,h.an,h.ca⟩
theorem zO {t:Tk} {S S':SX} {m:Nat} (h1:S.lo.length<=m) (h2:∀f∈S.lo,Small f (m+1)) (h3:Small S.tp (m+1)) (h4:S.tp.n<=m) (h:jY t S=some S'):Inv S' (m+1):=by
 have sn:∀f∈S.lo++[S.tp],Small f (m+1):=λf hf=>by
  rcases fS.1 hf with hf|hf
  .exact h2 f hf
  .simp at hf;subst hf;exact h3
 unfold jY at h
 split at h
 .cases h
  exact ⟨by show S.lo.length<=_;omega,h2,⟨by show S.tp.n+1<=_;omega,h3.ar,h3.al,h3.an,h3.ca⟩,λe=>(by simp at e),λe=>(by simp at e)⟩
 .split at h
  .cases h
   exact ⟨by simp;omega,sn,xQ _ _,λe=>(by simp at e),λe=>(by simp at e)⟩
  .split at h
   .cases h
    exact ⟨by show S.lo.length<=_;omega,h2,qu h3 _,λe=>(by simp at e),λe=>(by simp at e)⟩
   .split at h
    .split at h
     .cases h
      exact ⟨by show S.lo.length<=_;omega,h2,qu h3 _,λe=>(by simp at e),λe=>(by simp at e)⟩
     .split at h
      .cases h
       exact ⟨by show S.lo.length<=_;omega,h2,qu h3 _,λe=>(by simp at e),λe=>(by simp at e)⟩
      .split at h
       .cases h
        exact ⟨by show S.lo.length<=_;omega,h2,h3,λe=>(by simp at e),λ_=>by show (0:Int)<=4;decide⟩
       .split at h
        .cases h
         exact ⟨by show S.lo.length<=_;omega,h2,h3,λe=>(by simp at e),λ_=>by show (0:Int)<=5;decide⟩
        .split at h
         .cases h
          exact ⟨by show S.lo.length<=_;omega,h2,h3,λe=>(by simp at e),λ_=>by show (0:Int)<=3;decide⟩
         .cases h
    .cases h
theorem BI {S S':SX} {l:List Rx} {m:Nat} (hS:Inv S m) (h:o9 S l=some S'):Inv S' (m+1):=by
 unfold o9 at h
 rcases qp S.lo with e|⟨a,g,e⟩
 .rw [e] at h;simp at h
 .rw [e] at h
  simp at h
  subst h
  have hl:=hS.lo
  rw [e] at hl
  simp at hl
  exact ⟨by show a.length<=_;omega,λf hf=>(hS.sl f (by rw [e];simp [hf])).mono (by omega),qu ((hS.sl g (by rw [e];simp)).mono (by omega)) _,λe=>(by simp at e),λe=>(by simp at e)⟩
theorem zy {s':Sl} {t:Tk} {S S':SX} {m:Nat} (hS:Inv S m) (h:jX s' t S=some S'):Inv S' (m+1):=by
 have sN:=hS.lo
 have KN:∀f∈S.lo,Small f (m+1):=λf hf=>(hS.sl f hf).mono (by omega)
 have Bb:Small S.tp (m+1):=hS.tp.mono (by omega)
 have hn:=hS.tp.n'
 unfold jX at h
 split at h
 .rename_i h2
  split at h
  .cases h
   refine ⟨by simp;omega,λf hf=>?_,xQ _ _,λ_=>⟨hS.s2 h2,by simp⟩,λe=>(by simp at e)⟩
   rcases fS.1 hf with hf|hf
   .exact KN f hf
   .simp at hf;subst hf;exact Bb
  .cases h
 .rename_i h2
  split at h
  .split at h
   .exact BI hS h
   .exact zO sN KN Bb hn h
  .rename_i h1
   split at h
   .exact zO sN KN Bb hn h
   .split at h
    .cases h
     exact ⟨by show S.lo.length<=_;omega,KN,qu Bb _,λe=>absurd e h1,λe=>absurd e h2⟩
    .split at h
     .cases h
      refine ⟨by show S.lo.length<=_;omega,KN,⟨Nat.zero_le _,Bb.ar,Bb.al,?_,Nat.zero_le _⟩,λe=>(by simp at e),λe=>(by simp at e)⟩
      have:=hS.tp.an
      show (S.tp.an++[_]).length<=_
      simp;omega
     .split at h
      .cases h
       refine ⟨by show S.lo.length<=_;omega,KN,⟨Nat.zero_le _,Bb.ar,?_,Nat.zero_le _,Nat.zero_le _⟩,λe=>(by simp at e),λe=>(by simp at e)⟩
       have:=hS.tp.al
       show (S.tp.al++[_]).length<=_
       simp;omega
      .split at h
       .split at h
        .cases h
        .cases h
         refine ⟨by show S.lo.length<=_;omega,KN,⟨Nat.zero_le _,?_,Nat.zero_le _,Nat.zero_le _,Nat.zero_le _⟩,λe=>(by simp at e),λe=>(by simp at e)⟩
         have:=hS.tp.ar
         show (S.tp.ar.2++[_]).length<=_
         simp;omega
       .split at h
        .split at h
         .cases h
         .exact BI hS h
        .split at h
         .split at h
          .cases h
           exact ⟨by omega,KN,Bb,hS.s1,hS.s2⟩
          .cases h
         .refine zO (S:=⟨S.lo,hV S.tp,S.st,S.wd⟩) sN KN ⟨Nat.zero_le _,Bb.ar,Bb.al,Bb.an,?_⟩ (Nat.zero_le _) h
          have:=hS.tp.ca
          show (S.tp.ca++[_]).length<=_
          simp;omega
theorem M2 {s':Sl} {t:Tk} {S:SX} (h:t.k=63):jX s' t S=none:=by
 have it:∀S,jY t S=none:=λS=>by
  unfold jY
  rw [h]
  rfl
 unfold jX
 rw [it,it,h]
 split
 .rfl
 .split
  .rfl
  .split
   .rfl
   .rfl
def pL (l:List UInt8):Nat->Nat->List Tk
 |0,_=>[]
 |n+1,i=>if i<l.length then (if l.getD i 0=32 then pL l n (i+1) else (nA l i).1::pL l n (i+(nA l i).2)) else [⟨36,0,0,[],l.length⟩]
def GZ:List Tk->SX->Int⊕SX->Prop
 |[],S,r=>r=.inr S
 |t::ts,S,r=>∃s',(jX s' t S=none/\r=.inl t.a)\/∃S',jX s' t S=some S'/\GZ ts S' r
theorem Gs {l:List UInt8} {i:Nat} (hi:i<l.length):1<=(nA l i).2/\i+(nA l i).2<=l.length:=by
 unfold nA
 split
 .simp;omega
 .split
  .rename_i h
   have e1:(l.drop i)=l.getD i 0::l.drop (i+1):=by
    rw [List.drop_eq_getElem_cons hi,List.getD_eq_getElem?_getD,g8 hi]
    rfl
   have h1:1<=((l.drop i).takeWhile nv).length:=by rw [e1,List.takeWhile_cons,if_pos h];simp
   have h2:((l.drop i).takeWhile nv).length<=(l.drop i).length:=(List.takeWhile_prefix (p:=nv) (l:=l.drop i)).length_le
   rw [Tg] at h2
   simp only
   omega
  .split
   .split
    .simp;omega
    .split
     .split
      .simp;omega
      .split
       .rename_i h;simp only;omega
       .simp;omega
     .simp;omega
   .split
    .rename_i hb
     have:=xf hb
     simp only
     omega
    .simp;omega
abbrev tkC (t:Tk):List Value:=[.int .u8 (t.k.toNat:Int),.int .u8 (t.lo.toNat:Int),.int .u8 (t.hi.toNat:Int),.string (ba t.s),.int .i64 t.a]
def BN:En:=⟨[],λ_=>True,λ_ _ _ h=>h,λ_ _ b hb=>by simp at hb,by simp⟩
abbrev LV (t2 t3 t4 D l_ bs:Nat) (s:ByteArray) (v3 v4:Value) (o:Obj):List En:=[.c t2 [.int .i64 0,.int .u8 0,.int .u8 0,.slice none 0 0] aB,.c t3 [v3] bP,.c t4 [v4] wM,.ob D (.deferred (some [])),.ob l_ o,.c bs [.string s] cJ]
def PS (w0 w:World) (rb:Nat) (G:List En) (S:SX):Prop:=∃(sl:Sl) (fs:List FM) (f:FM) (ts:List Rt) (p:Addr),fs.map FM.x=S.lo/\f.x=S.tp/\(∀g∈fs++[f],∀t∈g.ts,t∈ts)/\sl.a=some p/\(∀b∈Rt.gV ts,w0.heap.size<=b)/\SF F0 w0 w rb sl S.st S.wd fs f G ts
def PE (w0 w:World) (rb:Nat) (G:List En):Prop:=∃(sl:Sl) (fs:List FM) (f:FM) (ts:List Rt) (st wd:Int),SF F0 w0 w rb sl st wd fs f G ts
section
variable {s:ByteArray} {w0:World} {rb t2 t3 t4 D l_ bs:Nat} {o_:LoopState->Option Code->Obj}
abbrev HYP (s:ByteArray) (rb t2 t3 t4 l_ bs:Nat) (o_:LoopState->Option Code->Obj):Prop:=
 ∀(TT TU TV:Int) (TW:ByteArray) (TX:Int) (w_:World) (K_:Bool->World->Prop),w_.heap[l_]? =some (o_ .ready none)->regex_Parse.T0 l_ o_ s (bD t2) (bD t3) (bD t4) (bD rb) (bD bs) TT TU TV TW TX w_ (λr_ w1=>∃b_:Bool,r_=.returned (.bool b_)/\K_ b_ w1)->W.xY Tryz.prog l_ #[.agg #[.int .u8 TT,.int .u8 TU,.int .u8 TV,.string TW,.int .i64 TX]] w_ K_
theorem JC (hY:HYP s rb t2 t3 t4 l_ bs o_) {S:SX} {m:Nat} (hI:Inv S m) (hm:m<=900000) (t:Tk) {e:En} {w:World} (H:PS w0 w rb (LV t2 t3 t4 D l_ bs s (.int .i64 0) (.int .i64 0) (o_ .ready none)++[e]) S) {K:Bool->World->Prop}
  (aan:∀w' s',jX s' t S=none->PE w0 w' rb (LV t2 t3 t4 D l_ bs s (.int .i64 t.a) (.int .i64 2) (o_ .done (some .ret))++[e])->K false w')
  (dP:∀w' s' S',jX s' t S=some S'->PS w0 w' rb (LV t2 t3 t4 D l_ bs s (.int .i64 0) (.int .i64 0) (o_ .ready none)++[e]) S'->K true w'):W.xY Tryz.prog l_ #[t.v] w K:=by
 obtain ⟨lo,tp,st,wd⟩:=S
 obtain ⟨sl,fs,f,ts,p,sN,Bb,h3,h4,hb,H⟩:=H
 have sN:fs.map FM.x=lo:=sN
 have Bb:f.x=tp:=Bb
 subst sN Bb
 refine hY _ _ _ _ _ w K (H.ob 7) ?_
 refine H.nw λw1 _ H1=>H1.st5 10 rfl λw2 H2=>H2.pu 7 rfl λw3 H3=>⟨_,_,_,_,_,H3.ld 10 0,H3.ld 10 1,H3.ld 10 2,H3.ld 10 3,H3.ld 10 4,?_⟩
 have ZF:SF F0 w0 w3 rb sl st wd fs f (LV t2 t3 t4 D l_ bs s (.int .i64 0) (.int .i64 0) (o_ .busy none)++[e,.c w.heap.size (tkC t) fN]) ts:=H3
 refine ZF.PD h3 h4 (λpA s1=>Uk s1 (Nat.le_trans hI.lo (by omega)) (hI.tp.mono (by omega)) hI.s1 t) ?_
 rintro r w4 Zp YW f4 p4 DL wd4 Zv t4' Jd Xk b4 ⟨s',U3⟩ H4
 rcases U3 with ⟨hn,rfl⟩|⟨hs,rfl⟩
 .refine ⟨false,rfl,aQ rfl ?_⟩
  refine H4.dr λw5 H5=>⟨t.a,H5.ld 10 4,H5.DL 3 rfl λw6 H6=>⟨H6.ld 10 4,H6.DZ 4 rfl λw7 H7=>H7.DZ 5 rfl λw8 H8=>H8.pu 7 rfl λw9 H9=>⟨false,rfl,aan w9 s' hn ⟨Zp,YW,f4,Zv,DL,wd4,?_⟩⟩⟩⟩
  exact H9.take 10
 .refine ⟨true,rfl,aI rfl (H4.pu 7 rfl λw5 H5=>⟨true,rfl,dP w5 s' _ hs ⟨Zp,YW,f4,Zv,p4,rfl,rfl,Jd,Xk,λb eG=>?_,H5.take 10⟩⟩)⟩
  rcases b4 b eG with h|h|h
  .exact hb b h
  .exact h
  .exact h.elim
def ZJ (w0:World) (rb t2 t3 t4 D l_ bs:Nat) (s:ByteArray) (o_:LoopState->Option Code->Obj) (w':World):Int⊕SX->Prop
 |.inl a=>PE w0 w' rb (LV t2 t3 t4 D l_ bs s (.int .i64 a) (.int .i64 2) (o_ .done (some .ret)))
 |.inr S=>PS w0 w' rb (LV t2 t3 t4 D l_ bs s (.int .i64 0) (.int .i64 0) (o_ .ready none)) S
theorem Vq (hs:s.size<=4096) (hY:HYP s rb t2 t3 t4 l_ bs o_) (R:aD):∀(n i m:Nat) (S:SX) (w:World),s.size - i<n->i<=s.size->Inv S m->m+n<=900000->
  PS w0 w rb (LV t2 t3 t4 D l_ bs s (.int .i64 0) (.int .i64 0) (o_ .ready none)) S->
  (∀w' res,GZ (pL (bl s) n i) S res->ZJ w0 rb t2 t3 t4 D l_ bs s o_ w' res->R (.returned (.tuple #[])) w')->regex_tokens_1.L0 l_ (bD bs) (i:Int) w R:=by
 intro n
 induction n with
 |zero=>intro i m S w h;omega
 |succ n ih=>
  intro i m S w hn hi hI hm hP hR
  have hl:(bl s).length=s.size:=iS s
  have hP0:=hP
  obtain ⟨sl,fs,f,ts,p,sN,Bb,h3,h4,hb,H⟩:=hP0
  refine regex_tokens_1.cC _ _ _ _ _ ⟨s,H.HR 8,aN (λh=>⟨s,H.HR 8,by omega,_,xP (i:=i) (by omega),mC (n:=32) (by omega) (λhc:(bl s).getD i 0=32=>?_) (λhc:(bl s).getD i 0≠32=>⟨s,H.HR 8,H.call (Kl s (by omega) i (by omega) w) ?_⟩)⟩) (λh=>⟨s,H.HR 8,?_⟩)⟩
  .rw [show IntKind.wrap .i64 ((i:Int)+1)=((i+1:Nat):Int) by rw [IntWalk.i64_in _ (by omega)];omega]
   refine ih (i+1) m S w (by omega) (by omega) hI (by omega) hP (λw' res hr he=>hR w' res ?_ he)
   unfold pL
   rw [if_pos (by omega),if_pos hc]
   exact hr
  .rintro _ w1 rfl H1
   have XK:=Gs (l:=bl s) (i:=i) (by omega)
   have et:pL (bl s) (n+1) i=(nA (bl s) i).1::pL (bl s) n (i+(nA (bl s) i).2):=by
    rw [pL,if_pos (by omega),if_neg hc]
   rw [et] at hR
   refine ⟨_,_,_,_,_,_,rfl,H1.nw λw2 _ H2=>H2.st5 9 rfl λw7 H7=>⟨_,_,_,_,_,H7.ld 9 0,H7.ld 9 1,H7.ld 9 2,H7.ld 9 3,H7.ld 9 4,?_⟩⟩
   have H7':SF F0 w0 w7 rb sl S.st S.wd fs f (LV t2 t3 t4 D l_ bs s (.int .i64 0) (.int .i64 0) (o_ .ready none)++[.c w1.heap.size (tkC (nA (bl s) i).1) fN]) ts:=H7
   refine JC hY hI (by omega) (nA (bl s) i).1 (e:=.c w1.heap.size (tkC (nA (bl s) i).1) fN) ⟨sl,fs,f,ts,p,sN,Bb,h3,h4,hb,H7'⟩ (λw8 s' tj hE=>aQ rfl (hR w8 (.inl (nA (bl s) i).1.a) ⟨s',.inl ⟨tj,rfl⟩⟩ ?_)) (λw8 s' S' KS hE=>aI rfl ?_)
   .obtain ⟨VA,UG,f8,VQ,Zq,wd8,H8⟩:=hE
    exact ⟨VA,UG,f8,VQ,Zq,wd8,H8.take 9⟩
   .obtain ⟨VA,UG,f8,VQ,p8,UY,U6,h38,h48,hb8,H8⟩:=hE
    refine ⟨_,H8.ld 9 0,mC (n:=63) (by omega) (λhk:(nA (bl s) i).1.k=63=>?_) (λhk=>?_)⟩
    .rw [M2 hk] at KS;cases KS
    .rw [show IntKind.wrap .i64 ((i:Int)+((nA (bl s) i).2:Int))=((i+(nA (bl s) i).2:Nat):Int) by rw [IntWalk.i64_in _ (by omega)];omega]
     refine ih (i+(nA (bl s) i).2) (m+1) S' w8 (by omega) (by omega) (zy hI KS) (by omega) ⟨VA,UG,f8,VQ,p8,UY,U6,h38,h48,hb8,H8.take 9⟩ (λw' res hr he=>hR w' res ⟨s',.inr ⟨S',KS,hr⟩⟩ he)
  .have et:pL (bl s) (n+1) i=[⟨36,0,0,[],(bl s).length⟩]:=by
    rw [pL,if_neg (by omega)]
   rw [et,hl] at hR
   have H1:=H.push BN (Fr.refl _ _) trivial (λb hb=>by cases hb)
   refine JC hY hI (by omega) ⟨36,0,0,[],(s.size:Int)⟩ (e:=BN) ⟨sl,fs,f,ts,p,sN,Bb,h3,h4,hb,H1⟩ (λw8 s' tj hE=>hR w8 (.inl (s.size:Int)) ⟨s',.inl ⟨tj,rfl⟩⟩ ?_) (λw8 s' S' KS hE=>hR w8 (.inr S') ⟨s',.inr ⟨S',KS,rfl⟩⟩ ?_)
   .obtain ⟨VA,UG,f8,VQ,Zq,wd8,H8⟩:=hE
    exact ⟨VA,UG,f8,VQ,Zq,wd8,H8.take 9⟩
   .obtain ⟨VA,UG,f8,VQ,p8,UY,U6,h38,h48,hb8,H8⟩:=hE
    exact ⟨VA,UG,f8,VQ,p8,UY,U6,h38,h48,hb8,H8.take 9⟩
end
theorem se:∀(a b:List Rx),Rx.fQ (a++b)=Rx.fQ a+Rx.fQ b
 |[],b=>by simp [Rx.fQ]
 |x::a,b=>by
  have:=se a b
  show x.sz+Rx.fQ (a++b)=(x.sz+Rx.fQ a)+Rx.fQ b
  omega
theorem p9 (x:Rx):Rx.fQ [x]=x.sz:=by simp [Rx.fQ]
theorem Ia (k:Int) (l:List Rx):(Dw k l).sz<=1+Rx.fQ l:=by
 unfold Dw
 split
 .rw [p9];omega
 .unfold Rx.sz;omega
theorem HY:∀(n:Nat) (r:Rx),(Bg n r).sz=n+r.sz
 |0,r=>by unfold Bg;omega
 |n+1,r=>by
  unfold Bg
  rw [HY n]
  unfold Rx.sz
  rw [p9]
  cases r
  simp only [Rx.sz]
  omega
def fz (f:FX):Nat:=Rx.fQ f.ar.2+Rx.fQ f.al+Rx.fQ f.an+Rx.fQ f.ca+f.n
def lz:List FX->Nat
 |[]=>0
 |f::l=>fz f+lz l
theorem Ds:∀(a b:List FX),lz (a++b)=lz a+lz b
 |[],b=>by simp [lz]
 |x::a,b=>by
  have:=Ds a b
  show fz x+lz (a++b)=(fz x+lz a)+lz b
  omega
def pz (S:SX):Nat:=lz S.lo+fz S.tp+(if S.st=0\/S.st=1\/S.st=2 then 0 else S.tp.la.sz)
theorem N8 (S:SX):pz S<=lz S.lo+fz S.tp+S.tp.la.sz:=by unfold pz;split<;>omega
theorem Yi (S:SX):lz S.lo+fz S.tp<=pz S:=by unfold pz;omega
theorem wC {S:SX} (h:S.st=0\/S.st=1\/S.st=2):pz S=lz S.lo+fz S.tp:=by unfold pz;rw [if_pos h];omega
theorem Td {S:SX} (h:¬(S.st=0\/S.st=1\/S.st=2)):pz S=lz S.lo+fz S.tp+S.tp.la.sz:=by unfold pz;rw [if_neg h]
theorem Qq (f:FX):fz (hV f)=fz f+f.la.sz:=by
 unfold fz hV
 simp only [se,p9,HY]
 omega
theorem Om (f:FX):fz (kV f)<=fz f+f.la.sz+1:=by
 have h:=Ia 3 (f.ca++[Bg f.n f.la])
 simp only [se,p9,HY] at h
 show Rx.fQ f.ar.2+Rx.fQ f.al+Rx.fQ (f.an++[Dw 3 (f.ca++[Bg f.n f.la])])+Rx.fQ []+0<=_
 unfold fz
 simp only [se,p9,Rx.fQ]
 omega
theorem IZ (f:FX):Rx.fQ f.ar.2+Rx.fQ (jd f).al<=fz f+f.la.sz+2:=by
 have h:=Ia 5 (kV f).an
 have h2:=Om f
 have e:fz (kV f)=Rx.fQ f.ar.2+Rx.fQ f.al+Rx.fQ (kV f).an+0+0:=rfl
 show Rx.fQ f.ar.2+Rx.fQ (f.al++[Dw 5 (kV f).an])<=_
 simp only [se,p9]
 omega
theorem MR (f:FX):fz (jd f)<=fz f+f.la.sz+2:=by
 have:=IZ f
 show Rx.fQ f.ar.2+Rx.fQ (jd f).al+Rx.fQ []+Rx.fQ []+0<=_
 simp only [Rx.fQ]
 omega
theorem Da (f:FX):Rx.fQ f.ar.2+(iP f).sz<=fz f+f.la.sz+3:=by
 have h:=Ia 4 (jd f).al
 have:=IZ f
 show _+(Dw 4 (jd f).al).sz<=_
 omega
theorem Dp {t:Tk} {S S':SX} (h:jY t S=some S'):pz S'<=lz S.lo+fz S.tp+1:=by
 have leaf:∀(k:Int) (a b:UInt8),(Rx.mk k a b []).sz=1:=λk a b=>by unfold Rx.sz;simp [Rx.fQ]
 unfold jY at h
 split at h
 .cases h
  rw [wC (.inl rfl)]
  show lz S.lo+(Rx.fQ S.tp.ar.2+Rx.fQ S.tp.al+Rx.fQ S.tp.an+Rx.fQ S.tp.ca+(S.tp.n+1))<=_
  unfold fz;omega
 .split at h
  .cases h
   rw [wC (.inl rfl)]
   show lz (S.lo++[S.tp])+fz (ry (-1))<=_
   rw [Ds]
   have:fz (ry (-1))=0:=rfl
   simp only [lz];omega
  .have la:∀(k:Int) (a b:UInt8),pz ⟨S.lo,oO S.tp (.mk k a b []),3,S.wd⟩<=lz S.lo+fz S.tp+1:=λk a b=>by
    refine Nat.le_trans (N8 _) ?_
    show lz S.lo+fz S.tp+(Rx.mk k a b []).sz<=_
    rw [leaf];exact Nat.le_refl _
   split at h
   .cases h
    exact la _ _ _
   .split at h
    .split at h
     .cases h;exact la _ _ _
     .split at h
      .cases h;exact la _ _ _
      .split at h
       .cases h;rw [wC (.inr (.inr rfl))];show lz S.lo+fz S.tp<=_;omega
       .split at h
        .cases h;rw [wC (.inr (.inr rfl))];show lz S.lo+fz S.tp<=_;omega
        .split at h
         .cases h;rw [wC (.inr (.inr rfl))];show lz S.lo+fz S.tp<=_;omega
         .cases h
    .cases h
theorem Ex {S S':SX} {l:List Rx} (h:o9 S l=some S'):pz S'<=lz S.lo+Rx.fQ l+1:=by
 unfold o9 at h
 rcases qp S.lo with e|⟨a,g,e⟩
 .rw [e] at h;simp at h
 .rw [e] at h ⊢
  simp at h
  subst h
  refine Nat.le_trans (N8 _) ?_
  show lz a+fz g+(ML S.tp.k l).sz<=_
  rw [Ds]
  have:(ML S.tp.k l).sz<=Rx.fQ l+1:=by
   unfold ML
   split
   .cases l with
    |nil=>exact (by show xF.sz<=_;unfold xF Rx.sz;simp [Rx.fQ])
    |cons x l=>show x.sz<=_;unfold Rx.fQ;omega
   .unfold Rx.sz;omega
  simp only [lz];omega
theorem PJ {s':Sl} {t:Tk} {S S':SX} (h:jX s' t S=some S'):pz S'<=pz S+4:=by
 have A7:=Yi S
 unfold jX at h
 split at h
 .split at h
  .cases h
   rw [wC (.inr (.inl rfl))]
   show lz (S.lo++[S.tp])+fz (ry S.wd)<=_
   rw [Ds]
   have:fz (ry S.wd)=0:=rfl
   simp only [lz];omega
  .cases h
 .rename_i h2
  split at h
  .split at h
   .have:=Ex h;simp only [Rx.fQ] at this;omega
   .have:=Dp h;omega
  .rename_i h1
   split at h
   .have:=Dp h;omega
   .rename_i h0
    have Jh:=Td (S:=S) (by rintro (e|e|e)<;>contradiction)
    split at h
    .cases h
     refine Nat.le_trans (N8 _) ?_
     show lz S.lo+fz S.tp+(Rx.mk 7 0 0 [S.tp.la]).sz<=_
     have:(Rx.mk 7 0 0 [S.tp.la]).sz=1+S.tp.la.sz:=by show 1+Rx.fQ [S.tp.la]=_;rw [p9]
     omega
    .split at h
     .cases h
      rw [wC (.inl rfl)]
      show lz S.lo+fz (kV S.tp)<=_
      have:=Om S.tp;omega
     .split at h
      .cases h
       rw [wC (.inl rfl)]
       show lz S.lo+fz (jd S.tp)<=_
       have:=MR S.tp;omega
      .split at h
       .split at h
        .cases h
        .cases h
         rw [wC (.inl rfl)]
         show lz S.lo+(Rx.fQ (S.tp.ar.2++[iP S.tp])+Rx.fQ []+Rx.fQ []+Rx.fQ []+0)<=_
         have:=Da S.tp
         simp only [se,p9,Rx.fQ];omega
       .split at h
        .split at h
         .cases h
         .have h5:=Ex h
          have:=Da S.tp
          simp only [se,p9] at h5;omega
        .split at h
         .split at h
          .cases h;omega
          .cases h
         .have h5:=Dp h
          have:=Qq S.tp
          have e:lz (SX.mk S.lo (hV S.tp) S.st S.wd).lo+fz (SX.mk S.lo (hV S.tp) S.st S.wd).tp=lz S.lo+fz (hV S.tp):=rfl
          omega
theorem M3 {s':Sl} {a:Int} {S S':SX} (h:jX s' ⟨36,0,0,[],a⟩ S=some S'):S'=S/\¬(S.st=0\/S.st=1\/S.st=2):=by
 have it:∀S,jY ⟨36,0,0,[],a⟩ S=none:=λS=>rfl
 unfold jX at h
 rw [it] at h
 split at h
 .cases h
 .split at h
  .cases h
  .split at h
   .cases h
   .refine ⟨?_,by rintro (e|e|e)<;>contradiction⟩
    have h':(if S.lo=[] then some S else none)=some S':=h
    split at h'
    .cases h';rfl
    .cases h'
theorem Ir (l:List UInt8):∀(n i:Nat) (S S':SX),l.length - i<n->GZ (pL l n i) S (.inr S')->(iP S'.tp).sz<=pz S+4 *n+4
 |0,i,S,S',h,_=>by omega
 |n+1,i,S,S',h,hr=>by
  unfold pL at hr
  split at hr
  .split at hr
   .have:=Ir l n (i+1) S S' (by omega) hr
    omega
   .rename_i hi _
    have hp:=Gs hi
    obtain ⟨s',⟨_,hx⟩|⟨S1,h1,h2⟩⟩:=hr
    .cases hx
    .have:=Ir l n (i+(nA l i).2) S1 S' (by omega) h2
     have:=PJ h1
     omega
  .obtain ⟨s',⟨_,hx⟩|⟨S1,h1,h2⟩⟩:=hr
   .cases hx
   .have e:S'=S1:=by have:Sum.inr S'=(Sum.inr S1:Int⊕SX):=h2;cases this;rfl
    obtain ⟨e1,e2⟩:=M3 h1
    subst e e1
    have:=Td e2
    have:=Da S'.tp
    omega
theorem QF {M:Nat->Prop} {w0 w:World} {L D:List En} (H:LH M w0 w L D) (is js:List Nat) (hp:is.Perm js) (hL:js.map (λk=>L.getD k BN)=L):LH M w0 w (is.map λk=>L.getD k BN) D:=by
 have h:(is.map λk=>L.getD k BN).Perm L:=by
  have:=hp.map (λk=>L.getD k BN)
  rwa [hL] at this
 exact ⟨H.fr,λe he=>H.own e (h.mem_iff.1 he),H.rd,λe he=>H.new e (h.mem_iff.1 he),((h.flatMap_right _).nodup_iff).2 H.nd,λe he b hb e' mG=>H.dj e he b hb e' (h.mem_iff.1 mG)⟩
theorem Ih {w2:World} {l:Nat} {o:LoopState->Option Code->Obj} {N:World->Prop} {X:Nat->World->Prop} {T:World->Prop} (h:LN w2 l (o .ready none) (o .exhausted none) N):vC w2 l o N X T:=.inl h
theorem Ii {w2:World} {l:Nat} {o:LoopState->Option Code->Obj} {N:World->Prop} {X:Nat->World->Prop} {T:World->Prop} (h:LN w2 l (o .done (some .ret)) (o .exhausted (some .ret)) T):vC w2 l o N X T:=.inr (.inr h)
theorem SS {b:Nat} (h:b∈Rt.gV [.mk 0 0 0 ⟨none,0,0⟩ []]):False:=by
 have:=wi (ts:=[]) (k:=0) (lo:=0) (hi:=0) (b:=b) h
 unfold Rt.gV at this
 cases this
def Wv:SX:=⟨[],ry (-1),0,0⟩
theorem XS:Inv Wv 0:=by
 refine ⟨Nat.le_refl _,λf hf=>?_,xQ _ _,λe=>?_,λe=>?_⟩
 .cases hf
 .have:(0:Int)=1:=e
  omega
 .have:(0:Int)=2:=e
  omega
theorem DF (l:List UInt8):∀(n i m:Nat) (S S':SX),Inv S m->GZ (pL l n i) S (.inr S')->Inv S' (m+n)
 |0,i,m,S,S',hI,hr=>by
  have e:(Sum.inr S':Int⊕SX)=.inr S:=hr
  cases e
  exact hI
 |n+1,i,m,S,S',hI,hr=>by
  have up:∀{S:SX} {a b:Nat},Inv S a->a<=b->Inv S b:=λh Hz=>⟨Nat.le_trans h.lo Hz,λf hf=>(h.sl f hf).mono Hz,h.tp.mono Hz,h.s1,h.s2⟩
  unfold pL at hr
  split at hr
  .split at hr
   .exact up (DF l n _ m S S' hI hr) (by omega)
   .obtain ⟨s',⟨_,hx⟩|⟨S1,h1,h2⟩⟩:=hr
    .cases hx
    .exact up (DF l n _ (m+1) S1 S' (zy hI h1) h2) (by omega)
  .obtain ⟨s',⟨_,hx⟩|⟨S1,h1,h2⟩⟩:=hr
   .cases hx
   .have e:(Sum.inr S':Int⊕SX)=.inr S1:=h2
    cases e
    exact up (zy hI h1) (by omega)
def T6 (w:World) (s:ByteArray):aD:=λr w'=>bG w w'/\
 ((4096<s.size/\r=.returned (.tuple #[.agg #[.int .i64 0,.int .u8 0,.int .u8 0,.slice none 0 0],.int .i64 4096,.int .i64 4]))\/
  (s.size<=4096/\∃res,GZ (pL (bl s) (s.size+1) 0) Wv res/\((∃a,res=.inl a/\r=.returned (.tuple #[.agg #[.int .i64 0,.int .u8 0,.int .u8 0,.slice none 0 0],.int .i64 a,.int .i64 2]))\/
   ∃S',res=.inr S'/\((64<(iP S'.tp).sz/\r=.returned (.tuple #[.agg #[.int .i64 0,.int .u8 0,.int .u8 0,.slice none 0 0],.int .i64 (s.size:Int),.int .i64 4]))\/
    ((iP S'.tp).sz<=64/\∃t:Rt,r=.returned (.tuple #[t.v,.int .i64 0,.int .i64 0])/\t.rx=iP S'.tp/\t.P w'/\∀b∈t.fp,w.heap.size<=b)))))
theorem Pr (s:ByteArray) (w:World):Calls Tryz.prog qY #[.string s] w (T6 w s):=by
 refine regex_Parse.ok _ w _ ((mu [] (λ_ h=>by cases h)).nw λw1 _ H1=>H1.nw λw2 _ H2=>H2.nw λw3 _ H3=>aN (λh=>?_) (λh=>?_))
 .refine H3.DL 0 rfl λw4 H4=>H4.DZ 1 rfl λw5 H5=>H5.DZ 2 rfl λw6 H6=>⟨_,_,_,⟨none,0,0⟩,H6.ld 0 0,H6.ld 0 1,H6.ld 0 2,H6.ld 0 3,_,H6.HR 1,_,H6.HR 2,H6.fr,.inl ⟨by omega,rfl⟩⟩
 have hs:s.size<=4096:=by omega
 have hl:(bl s).length=s.size:=iS s
 refine H3.iQ (e:=cB) (sz:=10) (n:=1) (cs:=(oV (-1)).c) rfl (by decide) λpE mJ=>mJ.nw λsj _ qR=>?_
 refine qR.DZ 4 rfl λrI qS=>qS.st 4 1 rfl λuI uu=>uu.st 4 2 rfl λD3 vp=>?_
 refine regex_tokens.ok _ D3 _ (vp.nw λBm _ Cz=>⟨_,rfl,?_⟩)
 show ∀o_:LoopState->Option Code->Obj,_
 intro o_ hY
 have e1:(Bm.alloc (.deferred (some []))).heap.size=Bm.heap.size+1:=size_alloc _ _
 have HG:=(Cz.alloc (.deferred (some []))).alloc (o_ .ready none)
 rw [e1] at HG
 have hP:(En.rows (([]++[oV (-1)]:List FM).flatMap FM.rows)).P ((Bm.alloc (.deferred (some []))).alloc (o_ .ready none)):=by
  refine ⟨λq hq=>?_,by decide⟩
  have hq:q∈[((⟨none,0,0⟩,[]):ln),(⟨none,0,0⟩,[]),(⟨none,0,0⟩,[]),(⟨none,0,0⟩,[])]:=hq
  simp only [cS,fF,or_false,or_self] at hq
  subst hq
  exact aO.nil _ _ _
 have Ha:=(HG.push (.rows (([]++[oV (-1)]:List FM).flatMap FM.rows)) (Fr.refl _ _) hP (λb hb=>by
  have hb:=aH.1 hb
  have hb:b∈([]:List Nat):=hb
  cases hb)).nf (.trees [.mk 0 0 0 ⟨none,0,0⟩ []]) (Fr.refl _ _) (Rt.oX λt ht=>by
   simp at ht;subst ht
   show Rt.P _ _
   unfold Rt.P Rt.Ps
   exact ⟨jU.nil 4 _,trivial⟩) (λb hb=>by
    exact (SS (aH.1 hb)).elim)
 have Hb:=QF Ha [4,3,8,0,1,2,6,7,5] [0,1,2,3,4,5,6,7,8] (by decide) rfl
 have HS:SF F0 w ((Bm.alloc (.deferred (some []))).alloc (o_ .ready none)) pE.heap.size ⟨some (bD w3.heap.size),1,1⟩ 0 0 [] (oV (-1)) (LV w.heap.size w1.heap.size w2.heap.size Bm.heap.size (Bm.heap.size+1) D3.heap.size s (.int .i64 0) (.int .i64 0) (o_ .ready none)) [.mk 0 0 0 ⟨none,0,0⟩ []]:=Hb
 refine regex_tokens_1.ok _ _ _ _ (Vq (w0:=w) (rb:=pE.heap.size) (t2:=w.heap.size) (t3:=w1.heap.size) (t4:=w2.heap.size) (D:=Bm.heap.size) (l_:=Bm.heap.size+1) (bs:=D3.heap.size) hs hY _ (s.size+1) 0 0 Wv _ (by omega) (by omega) XS (by omega)
  ⟨_,[],oV (-1),_,_,rfl,rfl,λg hg t ht=>?_,rfl,λb hb=>?_,HS⟩ (λw' res hr he=>⟨⟨_,rfl⟩,?_⟩))
 .simp at hg;subst hg
  simpa [FM.ts,oV] using ht
 .exact (SS hb).elim
 cases res with
 |inl a=>
  obtain ⟨sl,fs,f,ts,st,wd,H⟩:=he
  refine Ii (H.pu 7 rfl λsj qR=>qR.pu 6 rfl λBm Cz=>⟨_,_,_,⟨none,0,0⟩,Cz.ld 3 0,Cz.ld 3 1,Cz.ld 3 2,Cz.ld 3 3,_,Cz.HR 4,_,Cz.HR 5,Cz.fr,.inr ⟨hs,_,hr,.inl ⟨a,rfl,rfl⟩⟩⟩)
 |inr S'=>
  obtain ⟨sl,fs,f,ts,p,sN,Bb,h3,h4,hb,H⟩:=he
  have hI:=DF _ _ _ _ _ _ XS hr
  have mH:=Ir _ _ _ _ _ (by omega) hr
  rw [show pz Wv=0 from rfl] at mH
  have hfl:fs.length<=1000000:=by
   have:=hI.lo
   rw [<-sN] at this
   simp at this
   omega
  refine Ih (H.pu 7 rfl λw5 H5=>?_)
  have H5':SF F0 w w5 pE.heap.size sl S'.st S'.wd fs f (LV w.heap.size w1.heap.size w2.heap.size Bm.heap.size (Bm.heap.size+1) D3.heap.size s (.int .i64 0) (.int .i64 0) (o_ .exhausted none)) ts:=H5
  refine H5'.call (IW H5' h4 hfl) ?_
  rintro _ w6 rfl H6
  have H6':SF F0 w w6 pE.heap.size sl S'.st S'.wd fs f (LV w.heap.size w1.heap.size w2.heap.size Bm.heap.size (Bm.heap.size+1) D3.heap.size s (.int .i64 0) (.int .i64 0) (o_ .exhausted none)) ts:=H6
  refine ⟨_,rfl,H6'.PD h3 h4 (λpA s1=>tU s1 (by rw [Bb];exact hI.tp.mono (by omega))) ?_⟩
  rintro r w7 Co zF f3 p3 mj DU yA t3 oJ uy vF ⟨Wi,rK,jt,rfl,rfl,u,hu,rfl,hx⟩ H7
  rw [Bb] at hx
  have abb:u.sz=(iP S'.tp).sz:=by rw [<-hx,Rt.ib]
  refine ⟨_,_,_,u.s,rfl,H7.nw λw8 _ H8=>H8.DL 9 rfl λw9 H9=>⟨_,_,_,u.s,H9.ld 9 0,H9.ld 9 1,H9.ld 9 2,H9.ld 9 3,H9.call (uR u w9 (by omega) ((show Rt.Ps w9 yA from H9.getD 0).mem hu)) ?_⟩⟩
  rintro _ rI rfl qS
  refine ⟨_,rfl,aN (λUO=>?_) (λQn=>?_)⟩
  .refine qS.DL 3 rfl λuI uu=>uu.DZ 4 rfl λD3 vp=>vp.DZ 5 rfl λLx D4=>D4.pu 6 rfl λLy xZ=>⟨_,_,_,⟨none,0,0⟩,xZ.ld 3 0,xZ.ld 3 1,xZ.ld 3 2,xZ.ld 3 3,_,xZ.HR 4,_,xZ.HR 5,xZ.fr,.inr ⟨hs,_,hr,.inr ⟨S',rfl,.inl ⟨by omega,rfl⟩⟩⟩⟩
  .refine ⟨_,_,_,u.s,qS.ld 9 0,qS.ld 9 1,qS.ld 9 2,qS.ld 9 3,qS.DL 3 rfl λuI uu=>uu.DZ 4 rfl λD3 vp=>vp.DZ 5 rfl λLx D4=>D4.pu 6 rfl λLy xZ=>⟨_,_,_,u.s,xZ.ld 3 0,xZ.ld 3 1,xZ.ld 3 2,xZ.ld 3 3,_,xZ.HR 4,_,xZ.HR 5,xZ.fr,.inr ⟨hs,_,hr,.inr ⟨S',rfl,.inr ⟨by omega,u,rfl,hx,(show Rt.Ps Ly yA from xZ.getD 0).mem hu,λb P9=>?_⟩⟩⟩⟩⟩
   rcases vF b (Rt.bC.2 ⟨u,hu,P9⟩) with h|h|h
   .exact hb b h
   .exact h
   .exact h.elim
def zSl:Sl:=⟨none,0,0⟩
def er (f:FX):FX:=⟨f.k,(zSl,f.ar.2),f.al,f.an,f.ca,f.n,f.la⟩
def xl (S:SX):SX:=⟨S.lo.map er,er S.tp,S.st,S.wd⟩
theorem Dn (t:Tk) (S:SX):(jY t S).map xl=jY t (xl S):=by
 have e1:er (ry (-1))=ry (-1):=rfl
 have e2:(S.lo++[S.tp]).map er=S.lo.map er++[er S.tp]:=by simp
 unfold jY
 split
 .rfl
 .split
  .simp only [Option.map_some,xl,e1,e2]
  .split
   .rfl
   .split
    .split
     .rfl
     .split
      .rfl
      .split
       .rfl
       .split
        .rfl
        .split<;>rfl
    .rfl
theorem Ew (S:SX) (l:List Rx):(o9 S l).map xl=o9 (xl S) l:=by
 unfold o9
 rcases qp S.lo with e|⟨a,g,e⟩
 .simp [e,xl]
 .have e':(xl S).lo=a.map er++[er g]:=by simp [xl,e]
  rw [e,e']
  simp [xl]
  rfl
theorem I6 (s':Sl) (t:Tk) (S:SX):(jX s' t S).map xl=jX zSl t (xl S):=by
 have e2:(S.lo++[S.tp]).map er=S.lo.map er++[er S.tp]:=by simp
 have c1:(xl S).st=S.st:=rfl
 have c2:(xl S).tp.k=S.tp.k:=rfl
 unfold jX
 rw [c1,c2]
 by_cases h2:S.st=2
 .rw [if_pos h2,if_pos h2]
  split
  .show some (xl ⟨S.lo++[S.tp],ry S.wd,1,S.wd⟩)=some ⟨S.lo.map er++[er S.tp],ry S.wd,1,S.wd⟩
   rw [<-e2];rfl
  .rfl
 rw [if_neg h2,if_neg h2]
 split
 .split
  .exact Ew S []
  .exact Dn t S
 .split
  .exact Dn t S
  .split
   .rfl
   .split
    .rfl
    .split
     .rfl
     .split
      .split<;>rfl
      .split
       .by_cases e:S.lo=[]
        .rw [if_pos e,if_pos (show (xl S).lo=[] by simp [xl,e])];rfl
        .rw [if_neg e,if_neg (show ¬(xl S).lo=[] by simp [xl,e])];exact Ew S _
       .split
        .by_cases e:S.lo=[]
         .rw [if_pos e,if_pos (show (xl S).lo=[] by simp [xl,e])];rfl
         .rw [if_neg e,if_neg (show ¬(xl S).lo=[] by simp [xl,e])];rfl
        .exact Dn t ⟨S.lo,hV S.tp,S.st,S.wd⟩
def Og:List Tk->SX->Int⊕SX
 |[],S=>.inr S
 |t::ts,S=>match jX zSl t S with
  |none=>.inl t.a
  |some S'=>Og ts S'
def erR:Int⊕SX->Int⊕SX
 |.inl a=>.inl a
 |.inr S=>.inr (xl S)
theorem Oh:∀(ts:List Tk) (S:SX) (r:Int⊕SX),GZ ts S r->erR r=Og ts (xl S)
 |[],S,r,h=>by
  have h:r=.inr S:=h
  subst h;rfl
 |t::ts,S,r,h=>by
  obtain ⟨s',⟨h1,h2⟩|⟨S1,h1,h2⟩⟩:=h
  .subst h2
   have:=I6 s' t S
   rw [h1] at this
   unfold Og
   rw [<-this]
   rfl
  .have:=I6 s' t S
   rw [h1] at this
   unfold Og
   rw [<-this]
   exact Oh ts S1 r h2
def TN (l:List UInt8):Int⊕SX:=Og (pL l (l.length+1) 0) Wv
theorem VS {s:ByteArray} {r:Int⊕SX} (h:GZ (pL (bl s) (s.size+1) 0) Wv r):erR r=TN (bl s):=by
 have:=Oh _ _ _ h
 rw [this]
 unfold TN
 rw [iS]
 rfl
theorem C' (S:SX):iP (xl S).tp=iP S.tp:=rfl
end Go.Proofs.YtcifihepfadgfaaGreatDoor

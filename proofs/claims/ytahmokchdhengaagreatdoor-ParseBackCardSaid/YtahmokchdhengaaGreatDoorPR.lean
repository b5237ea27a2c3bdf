import Derived.Test.YtahmokchdhengaaGreatDoorN0
import Derived.Test.YtahmokchdhengaaGreatDoorU
import Derived.Laws.StandIn
import Derived.Lib.Bytealg
import Derived.Test.YtahmokchdhengaaGreatDoorW
set_option linter.unusedVariables false
set_option linter.defProp false
set_option maxRecDepth 100000
namespace Go.Proofs.YtahmokchdhengaaGreatDoor
open Go renaming World->J,Calls->aj,Value->aa,Ending->cA,FuncId->bU,LoopState->eg
open Go.IntKind renaming wrap->aG
open _root_.Int renaming toNat->a1,tdiv->eP,tmod->eY,toNat_natCast->bZ
open Go.IntWalk renaming i64_in->bm
open Go.Builtin renaming append_->g'
open _root_.Nat renaming le_refl->be,le_trans->bp,zero_le->dc
open _root_.UInt8 renaming ofNat->dw
open _root_.Option.some renaming inj->eh
open Go.Proofs.Tryz renaming prog->U
open _root_.Decidable renaming decide->ao
open Go.Ending renaming returned->ae
open List renaming mem_append->aL,mem_cons->aE,not_mem_nil->aZ,mem_of_getElem?->aB,getElem?_eq_getElem->a5,getElem?_eq_some_iff->cr,mem_append_left->bz,mem_append_right->b0,mem_flatMap->bB,mem_map->cz,length_drop->e8,flatMap_append->cC,flatMap_cons->df,mem_iff_getElem?->kf,nodup_append->dL,append_nil->cP,map_append->dX,getElem?_set_self->hv
open Go Go.W
abbrev BL:=List UInt8
def gQ(s:BL)(i:Nat):UInt8:=s.getD i 0
def m4(c:UInt8):Bool:=ao (32<=c.toNat)&&ao (c.toNat<=126)&&!(c==39)&&!(c==92)
def ec(c:UInt8):Bool:=ao (97<=c.toNat)&&ao (c.toNat<=122)
def h0(n:Nat):UInt8:=dw (if n<10 then 48+n else 87+n)
def gg(c:UInt8):Int:=if 48<=c.toNat/\c.toNat<=57 then(c.toNat:Int) - 48 else if 97<=c.toNat/\c.toNat<=102 then(c.toNat:Int) - 87 else -1
def hh(s:BL)(at_:Nat):UInt8×Nat:=
 if(ao (at_+3<=s.length)&&gQ s at_==39&&gQ s (at_+2)==39&&m4 (gQ s (at_+1)))=true then(gQ s (at_+1),3)
 else if(ao (at_+4<=s.length)&&gQ s at_==92&&gQ s (at_+1)==120&&ao (0<=gg (gQ s (at_+2)))&&ao (0<=gg (gQ s (at_+3))))=true then(dw ((16 *gg (gQ s (at_+2))+gg (gQ s (at_+3))).toNat),4)
 else(0,0)
structure du where
 tx:BL
 at_:Nat
 k:Nat
 lo:UInt8
 hi:UInt8
structure Ad where
 k:Nat
 lo:UInt8
 hi:UInt8
 n:Nat
def qx:Ad:=⟨0,0,0,0⟩
def jJ(s:BL)(i:Nat):Ad:=
 let a:=hh s i
 if 0<a.2 then⟨2,a.1,a.1,a.2⟩else if gQ s i≠91 then qx else
 let b:=hh s (i+1)
 let dash:=i+1+b.2
 if b.2=0\/s.length<=dash\/gQ s dash≠45 then qx else
 let c:=hh s (dash+1)
 let fin:=dash+1+c.2
 if c.2=0\/s.length<=fin\/gQ s fin≠93\/c.1.toNat<b.1.toNat then qx else⟨2,b.1,c.1,fin+1 - i⟩
def m8(s:BL)(i:Nat):Nat->Nat->Nat
 |0,n=>n
 |f+1,n=>if(ec (gQ s i)&&ao (i+n<s.length)&&ec (gQ s (i+n)))=true then m8 s i f (n+1)else n
def om(s:BL):Nat->Nat->List du
 |0,_=>[⟨[],s.length,0,0,0⟩]
 |f+1,i=>if s.length<=i then[⟨[],s.length,0,0,0⟩]else if gQ s i=32 then om s f (i+1)else
  let r:=jJ s i
  let n:=if r.n=0 then m8 s i s.length 1 else r.n
  ⟨(s.take (i+n)).drop i,i,r.k,r.lo,r.hi⟩::om s f (i+n)
def mr(s:BL):List du:=om s (s.length+1) 0
abbrev bD:=Nat×Bool
section
variable (l:List du)
def fj(i:Nat):du:=l.getD i ⟨[],0,0,0,0⟩
def eX(st:bD):BL:=bif st.2 then[32]else(fj l st.1).tx
def eD(s:BL)(st:bD):Bool×bD:=bif eX l st==s then(true,bif s.isEmpty then st else(st.1+1,st.2))else(false,st)
def j6(s:BL)(st:bD):bD:=match eD l s st with
 |(true,st)=>st
 |(false,st)=>(st.1,true)
def wU(st:bD):Bool:=!st.2&&!(eX l st==[])&&!(eX l st==[41])&&!(eX l st==[44])&&!(eX l st==[124])&&!(eX l st==[38])
def qg(k:Int):List Rx->Rx
 |[a]=>a
 |m=>.mk k 0 0 m
def mz:Nat->BL
 |0=>[110,111,110,101]
 |1=>[101,109,112,116,121]
 |3=>[99,97,116]
 |4=>[97,108,116]
 |5=>[97,108,108]
 |_=>[]
def k4(st:bD):Nat->Nat->Option Nat
 |0,_=>none
 |f+1,d=>bif Nat.beq d 2||!(eX l st==mz d)then k4 st f (d+1)else some d
mutual
def kH:Nat->bD->Option (Rx×bD)
 |0,_=>none
 |f+1,st=>match nF f st with
  |some (a,st)=>rr f [a] st
  |none=>none
def rr:Nat->List Rx->bD->Option (Rx×bD)
 |0,_,_=>none
 |f+1,acc,st=>match eD l [124] st with
  |(true,st)=>match nF f st with
   |some (a,st)=>rr f (acc++[a]) st
   |none=>none
  |(false,st)=>some (qg 4 acc,st)
def nF:Nat->bD->Option (Rx×bD)
 |0,_=>none
 |f+1,st=>match oc f st with
  |some (a,st)=>ry f [a] st
  |none=>none
def ry:Nat->List Rx->bD->Option (Rx×bD)
 |0,_,_=>none
 |f+1,acc,st=>match eD l [38] st with
  |(true,st)=>match oc f st with
   |some (a,st)=>ry f (acc++[a]) st
   |none=>none
  |(false,st)=>some (qg 5 acc,st)
def oc:Nat->bD->Option (Rx×bD)
 |0,_=>none
 |f+1,st=>match l8 f st with
  |some (a,st)=>se f [a] st
  |none=>none
def se:Nat->List Rx->bD->Option (Rx×bD)
 |0,_,_=>none
 |f+1,acc,st=>bif wU l st then match l8 f st with
   |some (a,st)=>se f (acc++[a]) st
   |none=>none
  else some (qg 3 acc,st)
def l8:Nat->bD->Option (Rx×bD)
 |0,_=>none
 |f+1,st=>match eD l [33] st with
  |(true,st)=>match l8 f st with
   |some (a,st)=>some (.mk 6 0 0 [a],st)
   |none=>none
  |(false,st)=>match pM f st with
   |some (a,st)=>vW f a st
   |none=>none
def vW:Nat->Rx->bD->Option (Rx×bD)
 |0,_,_=>none
 |f+1,a,st=>match eD l [42] st with
  |(true,st)=>vW f (.mk 7 0 0 [a]) st
  |(false,st)=>some (a,st)
def pM:Nat->bD->Option (Rx×bD)
 |0,_=>none
 |f+1,st=>bif !st.2&&Nat.beq (fj l st.1).k 2 then some (.mk 2 (fj l st.1).lo (fj l st.1).hi [],(st.1+1,st.2))else match k4 l st 6 0 with
  |some d=>bif Nat.ble d 2 then some (.mk d 0 0 [],(st.1+1,st.2))else match qh f (st.1+1,st.2)with
   |some (m,st)=>some (.mk d 0 0 m,st)
   |none=>none
  |none=>let st:=j6 l [40] st
   bif st.2 then some (fh,st)else match kH f st with
   |some (a,st)=>some (a,j6 l [41] st)
   |none=>none
def qh:Nat->bD->Option (List Rx×bD)
 |0,_=>none
 |f+1,st=>match eD l [41] (j6 l [40] st)with
  |(d,st)=>bif st.2||d then some ([],st)else match kH f st with
   |some (a,st)=>u9 f [a] st
   |none=>none
def u9:Nat->List Rx->bD->Option (List Rx×bD)
 |0,_,_=>none
 |f+1,acc,st=>match eD l [44] st with
  |(true,st)=>match kH f st with
   |some (a,st)=>u9 f (acc++[a]) st
   |none=>none
  |(false,st)=>some (acc,j6 l [41] st)
end
end
def sN(s:BL):Option (Rx×Nat×Int):=
 if 4096<s.length then some (fh,4096,4)else
 let l:=mr s
 match kH l 1000 (0,false)with
 |some (r,st)=>let st:=j6 l [] st
  if st.2=true then some (fh,(fj l st.1).at_,2)else if 1000000<r.sz then none else if 64<r.sz then some (fh,s.length,4)else some (r,0,0)
 |none=>none
def dh(c:UInt8):BL:=if m4 c=true then[39,c,39]else[92,120,h0 (c.toNat / 16),h0 (c.toNat%16)]
def cD:Rx->Nat
 |.mk d _ _ l=>if d=6 then 3 else if d<3\/d=7\/l.length<2 then 4 else if d=3 then 2 else if d=4 then 0 else 1
def cy(d:Nat)(a:Rx)(t:BL):BL:=if cD a<d then 40::(t++[41])else t
def qp(k:Int):BL:=if k=3 then[99,97,116,40]else if k=4 then[97,108,116,40]else[97,108,108,40]
def gB(k:Int):BL:=if k=3 then[]else if k=4 then[124]else[38]
def j5(t:BL):UInt8:=t.getLastD 0
def i'(k:Int):BL->List BL->BL
 |out,[]=>out
 |out,t::d=>i' k ((if k=3/\ec (j5 out)=true/\ec (gQ t 0)=true then out++[32]else out)++gB k++t) d
def jD:List BL->BL
 |[]=>[]
 |t::_=>t
def xD(k:Int):List BL->BL
 |[]=>[]
 |t::d=>i' k t d
mutual
def a6:Rx->BL
 |.mk d lo e l=>if d=0 then[110,111,110,101]else if d=1 then[101,109,112,116,121]else
  if d=2 then(if lo=e then dh lo else 91::(dh lo++45::(dh e++[93])))else
  if d=6 then 33::jD (cZ 3 l)else if d=7 then jD (cZ 4 l)++[42]else
  if l.length<2 then qp d++(jD (cZ 0 l)++[41])else
  xD d (cZ (cD (.mk d lo e l)+1) l)
def cZ(d:Nat):List Rx->List BL
 |[]=>[]
 |a::l=>cy d a (a6 a)::cZ d l
end
mutual
def ia:Rx->Bool
 |.mk d _ _ l=>ao (0<=d)&&ao (d<=7)&&(ao (d<6)||ao (l.length=1))&&m1 l
def m1:List Rx->Bool
 |[]=>true
 |a::l=>ia a&&m1 l
end
def rJ(s:BL):Option Bool:=match sN s with
 |some (r,_,d)=>if d=0 then(if jI r=0 then(if ia (fw r)=true/\(fw r).sz<=1000 then some (cy 0 (fw r) (a6 (fw r))==s)else none)else some false)else some false
 |none=>none
def yW(a b:UInt8):Rx:=.mk 2 a b []
def eH:Nat->Rx
 |0=>yW 97 97
 |1=>yW 98 98
 |2=>yW 0 0
 |3=>yW 97 98
 |4=>mM
 |_=>eo
def BD(a b c:Rx):Nat->Rx
 |0=>a
 |1=>.mk 3 0 0 [a,b]
 |2=>.mk 4 0 0 [a,b,c]
 |3=>.mk 7 0 0 [a]
 |4=>.mk 3 0 0 [.mk 7 0 0 [a],b]
 |5=>.mk 6 0 0 [.mk 3 0 0 [a,b]]
 |6=>.mk 3 0 0 [b,.mk 7 0 0 [.mk 4 0 0 [a,c]]]
 |_=>.mk 5 0 0 [.mk 6 0 0 [b],.mk 3 0 0 [a,eo]]
def ng(k:Nat):BL:=a6 (dv (BD (eH (k%6)) (eH (k / 6%6)) (eH (k / 36%6)) (k / 216%8)))
set_option maxRecDepth 100000
set_option maxHeartbeats 2000000
namespace EA
noncomputable abbrev t0:=aA U Tryz.f66 [] []
def ok:=aF t0 CV [.st,.Y]
end EA
namespace BT
noncomputable abbrev t0:=aA U Tryz.f96 [] []
def ok:=aF t0 Ct [.st,.Y]
end BT
namespace NZ
noncomputable abbrev t0:=aA U Tryz.f201 [] []
def ok:=aF t0 K7 [.Y]
end NZ
namespace NV
noncomputable abbrev t0:=aA U Tryz.f219 [] []
def ok:=aF t0 K4 [.Y]
end NV
namespace yQ
noncomputable abbrev t0:=aA U Tryz.f202 [(4,ls [0,1,2,3,5,6,7,8,4,9,10,11])] []
noncomputable abbrev S1:=ai t0 [3] []
noncomputable abbrev t1:=ak S1
noncomputable abbrev S0:=ai t1 [2] [(0,.v [.st]),(1,.v [.I])]
noncomputable abbrev t2:=ak S0
def ok:=aF t2 KV [.st,.I]
end yQ
namespace s5
noncomputable abbrev t0:=aA U Tryz.f173 [] [4]
abbrev P0:Ps:=[(0,.v [.st]),(1,.v [.I]),(4,.l [.Y,.Y,.Y,.st,.I] nk),(7,.v [.I])]
noncomputable def b5:=bu t0 [0,2,1,1,3,2,2] P0
noncomputable abbrev t1:=bt b5
noncomputable abbrev bA:=ai t1 [2,1,3,2,2] P0
noncomputable abbrev t2:=ak bA
def dy:=bH t2 b5
noncomputable abbrev fG:=ai t2 [3] [(1,.v [.I]),(4,.l [.Y,.Y,.Y,.st,.I] nk)]
noncomputable abbrev t3:=ak fG
noncomputable abbrev pH:=ai t3 [5,1,5,2,2] [(0,.v [.st]),(1,.v [.I]),(4,.l [.Y,.Y,.Y,.st,.I] nk),(8,.v [.Y]),(10,.v [.b]),(11,.v [.I]),(12,.v [.Y])]
noncomputable abbrev t4:=ak pH
noncomputable abbrev cv:=ai t4 [2,1,5,2,2] [(0,.v [.st]),(1,.v [.I]),(4,.l [.Y,.Y,.Y,.st,.I] nk),(8,.v [.Y]),(10,.v [.b]),(11,.v [.I])]
noncomputable abbrev t5:=ak cv
noncomputable abbrev aX:=ai t5 [2] [(0,.v [.st]),(1,.v [.I]),(4,.l [.Y,.Y,.Y,.st,.I] nk),(6,.v [.Y])]
noncomputable abbrev t6:=ak aX
def au:=aF t6 CT [.st,.I]
end s5
namespace yS
noncomputable def C0:Code:=(Tryz.f172.body).getD .skip
noncomputable def C1:=C0.fs
noncomputable def C2:=C1.sn
noncomputable def C3:=C2.fs
noncomputable def C4:=C3.fs
noncomputable def C5:=C0.sn
abbrev Q0(R:aC):jT:=(Exit.then (gn U (cx 39) C5 (bodyPost U Tryz.f172 R)) (bodyPost U Tryz.f172 R))
abbrev Q1(R:aC):jT:=(Exit.inBlock 0 (Q0 R))
def L0(h:Nat)(e:Addr)(d:Int)(w:J)(R:aC):Prop:=LP U (cx 39) C4 (Q1 R) [(0,.func (.yield h) #[] #[]),(1,.pointer (some e)),(3,.i d)] w
def oA(E:Env)(w:J)(R:aC):Prop:=W.wR (Env.get? E 0) λh=>W.bN (Env.get? E 1) λe=>W.asInt .i64 (Env.get? E 3) λd=>L0 h e d w R
def rh:Fj U 39 oA C4 Q1:=by intro z y C e;obtain⟨D,q,h⟩:=W.FK e;obtain⟨B,w,j⟩:=W.bT h;obtain⟨A,x,k⟩:=W.lZ j;intro a d;exact k a (d.cons q (d.cons w (d.cons x d.nil)))
noncomputable def C6:=C4.fs
noncomputable def C7:=C4.sn
noncomputable def C8:=C7.fs
noncomputable def C9:=C8.fs
noncomputable def jn:=C9.sn
noncomputable def jo:=jn.fs
noncomputable def kr:=C8.sn
noncomputable def lQ:=kr.sn
noncomputable def np:=lQ.fs
noncomputable def oy:=lQ.sn
noncomputable def k5:=C6.sn
noncomputable def nq:=k5.fs
noncomputable def lR:=jo.sn
noncomputable def nr:=jn.sn
noncomputable def jq:=np.sn
noncomputable def lS:=jq.fs
noncomputable def pB:=jq.sn
noncomputable def oz:=k5.sn
def cU(k:Nat)(j:Addr)(h:Int)(w:J)(R:aC)(B:∃z:ByteArray,w.cell? j=some (.string z)/\
 bq (ao (h<((z.size:Nat):Int))) (∃t10:ByteArray,w.cell? j=some (.string t10)/\
 (0:Int)<=h/\∃y:UInt8,t10[a1 h]? =some y/\bq (((y.toNat:Nat):Int)==32) (L0 k j (aG .i64 (h+1)) w R) (∃t17:ByteArray,w.cell? j=some (.string t17)/\
 So CT #[.string t17,.i h] w λC D F G H I q=>cS q (.cells #[.int .u8 0,.int .u8 0,.int .u8 0,.s0,.i 0] nk) λP=>
 O1 P (nb q) (.int .u8 C) (.int .u8 D) (.int .u8 F) (.string G) (.i H) λA=>IY A (nb q) λK L M N O=>nl U k #[.agg #[.int .u8 K,.int .u8 L,.int .u8 M,.string N,.i O]] A λ(t24:Bool) x=>bq (!t24) (R (ae (.tuple #[])) x) (∃t28:Int,x.cell? ((nb q).add 0)=some (.int .u8 t28)/\
 bq (t28==63) (R (ae (.tuple #[])) x) (L0 k j (aG .i64 (h+I)) x R)))) (∃t35:ByteArray,w.cell? j=some (.string t35)/\
 nl U k #[.agg #[.int .u8 36,.int .u8 0,.int .u8 0,.s0,.i ((t35.size:Nat):Int)]] w λ(t38:Bool) Q=>R (ae (.tuple #[])) Q)):L0 k j h w R:=
 LP.step (n:=(cx 39)) (c:=C4) (E:=[(0,.func (.yield k) #[] #[]),(1,.pointer (some j)),(3,.i h)]) (w:=w) (sq C4 (sr C6 (show(λ(E:Env) (w:J)=>ez U C6 (λE w=>hG (Env.val E (.tmp 9)) (ez U C9 (λE w=>hG (Env.val E (.tmp 13)) (ez U jo (λE w=>oA E w R) E w) (ez U kr (λE w=>ez U np (λE w=>hG (Env.val E (.tmp 30)) (kg U Tryz.f172 E w (λv=>R (ae v) w)) (yV U oy (λE w=>oA E w R) E w)) E w) E w)) E w) (yV U C5 (λE w=>kg U Tryz.f172 E w (λv=>R (ae v) w)) E w)) E w) [(0,.func (.yield k) #[] #[]),(1,.pointer (some j)),(3,.i h)] w from mp B) λ_ _ d=>(cn k5 d (λd=>(sk nq λa e=>nx e (bk C7 1 (by kernel_rfl) (sq C8 (sr C9 d λ_ _ d=>(cn jn d (λd=>(sr jo d λ_ _ d=>(xt lR 1 (by kernel_rfl) λa e=>rh R _ _ d a e))) (λd=>(sk nr λa e=>nx e (sr kr d λ_ _ d=>(sq lQ (sr np d λ_ _ d=>(cn jq d (λd=>(rt lS λa e=>vH e d)) (λd=>(sk pB λa e=>nx e (rg oy (by kernel_rfl) d λ_ _ a e d=>rh R _ _ d a e))))))))))))))) (λd=>(xt oz 0 (by kernel_rfl) λa e=>nx e (rg C5 (by kernel_rfl) d λ_ _ a e d=>vH e d))))))
def ok(e:Nat)(d:Addr)(w:J)(R:aC)(h:L0 e d 0 w R):aj U qn #[.func (.yield e) #[] #[],.pointer (some d)] w R:=
 ug (R:=R) (fn:=Tryz.f172) (c:=C0) (args:=[.func (.yield e) #[] #[],.pointer (some d)]) (by kernel_rfl) (by kernel_rfl) (by kernel_rfl) (sq C0 (sr C1 (show(λ(E:Env) (w:J)=>ez U C1 (λE w=>oA E w R) E w) (jA 0 [.func (.yield e) #[] #[],.pointer (some d)]) w from mp h) λ_ _ j=>(bk C2 0 (by kernel_rfl) (lp C3 (by kernel_rfl) (rh R _ _ j)))))
end yS
namespace N1
noncomputable abbrev t0:=aA U Tryz.f157 [] []
def ok:=aF t0 K8 [.st]
end N1
namespace NU
noncomputable abbrev t0:=aA U Tryz.f180 [] [4]
def au:=aF t0 yg [.I,.s]
end NU
namespace vE
noncomputable abbrev t0:=aA U Tryz.f179 [(4,(.sq [0,1,2,3,4,5,6,7,8,10,11] (.fork (ls [9,12]) (ls [12,9]))))] [2]
noncomputable def a0:=bu t0 [0,2,1] [(0,.v [.r]),(2,.l [.I,.Y,.Y,.s] aO)]
noncomputable abbrev t1:=bt a0
def bJ:=bH t1 a0
def au:=aF t1 K1 [.r]
end vE
namespace NR
noncomputable abbrev t0:=aA U Tryz.f177 [(1,(.sq [0,1,2,3,4,5,6,7,9] (.fork (.sq [8,10,11,12,14,15] (.fork (ls [13,16]) (ls [16,13]))) (.sq [10,8,11,12,14,15] (.fork (ls [13,16]) (ls [16,13]))))))] []
noncomputable abbrev S0:=ai t0 [2] [(0,.v [.r])]
noncomputable abbrev t1:=ak S0
def ok:=aF t1 K2 [.r]
end NR
namespace NP
noncomputable abbrev t0:=aA U Tryz.f178 [(1,(.sq [0,1,2,3,4,5,6,7,9] (.fork (.sq [8,10,11,12,14,15] (.fork (ls [13,16]) (ls [16,13]))) (.sq [10,8,11,12,14,15] (.fork (ls [13,16]) (ls [16,13]))))))] []
noncomputable abbrev S0:=ai t0 [2] [(0,.v [.r])]
noncomputable abbrev t1:=ak S0
def ok:=aF t1 K0 [.r]
end NP
namespace NQ
noncomputable abbrev t0:=aA U Tryz.f160 [] [2,3]
def au:=aF t0 CN [.r]
end NQ
namespace D2
noncomputable abbrev t0:=aA U Tryz.f159 [(1,ls [0,1,2,3,4,5,6,7,8,9,10,11])] []
def ok:=aF t0 yh [.r]
end D2
namespace NY
noncomputable abbrev t0:=aA U Tryz.f174 [] []
def ok:=aF t0 K6 [.r,.I,.I]
end NY
namespace NW
noncomputable abbrev t0:=aA U Tryz.f203 [(1,ls [0,2,1,3,4,5])] [3]
def au:=aF t0 CP [.r,.a 4,.I,.Y,.Y,.s]
end NW
namespace NX
noncomputable abbrev t0:=aA U Tryz.f175 [(2,ls [0,1,2,3,4,5,6,7,8,9,10,11,12,13,14])] []
def ok:=aF t0 CQ [.r,.s]
end NX
namespace D1
noncomputable abbrev t0:=aA U Tryz.f176 [] [3]
noncomputable abbrev aX:=ai t0 [2,1,7,1,1,1,1] []
noncomputable abbrev t1:=ak aX
def au:=aF t1 CS [.r,.a 5,.Y,.Y,.Y,.st,.I]
end D1
namespace vG
noncomputable abbrev t0:=aA U Tryz.f158 [(25,(.sq [0,1,2,3,4,6] (.fork (.sq [5,7,8,9,11,12] (.fork (ls [10,13]) (ls [13,10]))) (.sq [7,5,8,9,11,12] (.fork (ls [10,13]) (ls [13,10])))))),(28,ls [0,1,2,3,4,5,6,7,8,9,10,11,12,13,14,15,16,17,18])] [3]
noncomputable abbrev aX:=ai t0 [4] []
noncomputable abbrev t1:=ak aX
noncomputable abbrev bb:=ai t1 [2,1,7,1,1,1,3] [(0,.v [.r])]
noncomputable abbrev t2:=ak bb
def au:=aF t2 CR [.r,.a 5,.Y,.Y,.Y,.st,.I]
end vG
namespace DY
noncomputable def C0:Code:=(Tryz.f141.body).getD .skip
noncomputable def C1:=C0.sn
noncomputable def C2:=C1.sn
noncomputable def C3:=C2.sn
noncomputable def C4:=C3.fs
noncomputable def C5:=C4.sn
noncomputable def C6:=C5.fs
noncomputable def C7:=W.Code.FO C6
noncomputable def C8:=W.Code.FU C6
noncomputable def C9:=C8.fs
noncomputable def jn:=C9.sn
noncomputable def jo:=jn.fs
abbrev Q0(l_:Nat)(d:Loop)(R:aC):Exit->Act->J->Prop:=(roundPost U l_ R)
abbrev Q1(l_:Nat)(d:Loop)(R:aC):Exit->Act->J->Prop:=(Exit.inBlock 1 (Q0 l_ d R))
noncomputable def kr:=jo.fs
noncomputable def lQ:=jo.sn
abbrev S3(l_:Nat)(d:eg->Option Code->Obj)(t2 t3 t4 e:Addr)(w:J)(R:aC):Prop:=
 rS w λh=>∃t23:Int,h.cell? (e.add 4)=some (.i t23)/\
 ml h t2 (.i 0) (.int .u8 0) (.int .u8 0) (.slice none 0 0) λj=>j.cell? (e.add 4)=some (.i t23)/\aJ j t3 (.i t23) λk=>
 aJ k t4 (.i 2) λq=>
 gN q l_ (d .busy none) (d .done (some .ret)) λx=>R (ae (.bool false)) x
def tM(l_:Nat)(d:eg->Option Code->Obj)(E:Env)(w:J)(R:aC):Prop:=W.bN (Env.get? E 2) λe=>W.bN (Env.get? E 3) λh=>W.bN (Env.get? E 4) λj=>W.bN (Env.get? E 6) λk=>S3 l_ d e h j k w R
def z1(l_:Nat)(e:Loop)(R:aC)(E:Env)(w:J)(k:tM l_ (lo e) E w R):WP U ⟨32,[],some l_⟩ jo (Q1 l_ e R) E w:=by obtain⟨H,C,q⟩:=W.bT k;obtain⟨I,D,z⟩:=W.bT q;obtain⟨K,F,A⟩:=W.bT z;obtain⟨L,G,B⟩:=W.bT A;exact λa d=>WP.at (n:=⟨32,[],some l_⟩) (E:=[(2,.pointer (some H)),(3,.pointer (some I)),(4,.pointer (some K)),(6,.pointer (some L))]) (WP.seq (c:=jo) (x:=kr) (y:=lQ) (by kernel_rfl)<|WP.draw (c:=kr) [0,1,2,3,4,5] (λE w=>gN w l_ ((lo e) .busy none) ((lo e) .done (some .ret)) λM=>R (ae (.bool false)) M) (by kernel_rfl) (mp B) λ_ _ a h j=>(WP.ret (c:=lQ) (Q:=(Q1 l_ e R)) (by kernel_rfl) λa h=>(show roundPost U l_ R .ret a _ from N9 (a:=a) (j).1 (j).2)) a h) (d.cons C (d.cons D (d.cons F (d.cons G d.nil))))
noncomputable def np:=C9.fs
noncomputable def oy:=jn.sn
abbrev S2(l_:Nat)(d:eg->Option Code->Obj)(t2 t3 t4 j e:Addr)(w:J)(R:aC):Prop:=
 IY w e λk q x y z=>GF CR #[.pointer (some j),.agg #[.int .u8 k,.int .u8 q,.int .u8 x,.string y,.i z]] w λt19 h=>bq (!t19) (S3 l_ d t2 t3 t4 e h R) (gN h l_ (d .busy none) (d .ready none) λA=>R (ae (.bool true)) A)
def tL(l_:Nat)(d:eg->Option Code->Obj)(E:Env)(w:J)(R:aC):Prop:=W.bN (Env.get? E 2) λh=>W.bN (Env.get? E 3) λj=>W.bN (Env.get? E 4) λk=>W.bN (Env.get? E 5) λe=>W.bN (Env.get? E 6) λq=>S2 l_ d h j k e q w R
def z0(l_:Nat)(h:Loop)(R:aC)(E:Env)(w:J)(k:tL l_ (lo h) E w R):WP U ⟨32,[],some l_⟩ C9 (Q1 l_ h R) E w:=by obtain⟨L,D,q⟩:=W.bT k;obtain⟨M,F,z⟩:=W.bT q;obtain⟨N,G,A⟩:=W.bT z;obtain⟨K,H,B⟩:=W.bT A;obtain⟨O,I,C⟩:=W.bT B;exact λa e=>WP.at (n:=⟨32,[],some l_⟩) (E:=[(2,.pointer (some L)),(3,.pointer (some M)),(4,.pointer (some N)),(5,.pointer (some K)),(6,.pointer (some O))]) (WP.seq (c:=C9) (x:=np) (y:=jn) (by kernel_rfl)<|WP.kP (c:=np) (λE w=>hG (Env.val E (.tmp 20)) (tM l_ (lo h) E w R) (gN w l_ ((lo h) .busy none) ((lo h) .ready none) λP=>R (ae (.bool true)) P)) (by kernel_rfl) (mp C) λ_ _ a j d=>(WP.hG (c:=jn) (x:=jo) (y:=oy) (o:=.tmp 20) (by kernel_rfl) (λd=>(z1 l_ h R _ _ d)) (λd=>(WP.skip (c:=oy) (by kernel_rfl) λa j=>N8 (a:=a) (d).1 (d).2)) d) a j) (e.cons D (e.cons F (e.cons G (e.cons H (e.cons I e.nil)))))
abbrev Q2(l_:Nat)(d:Loop)(R:aC):Exit->Act->J->Prop:=(tR U 32 l_ d C8 (roundPost U l_ R))
abbrev S1(l_:Nat)(d:eg->Option Code->Obj)(t2 t3 t4 e:Addr)(h j k:Int)(q:ByteArray)(x:Int)(w:J)(R:aC):Prop:=
 cS w (.cells #[.int .u8 0,.int .u8 0,.int .u8 0,.s0,.i 0] nk) λy=>
 O1 y (nb w) (.int .u8 h) (.int .u8 j) (.int .u8 k) (.string q) (.i x) λz=>gN z l_ (d .ready none) (d .busy none) λA=>S2 l_ d t2 t3 t4 e (nb w) A R
def zY(l_:Nat)(d:eg->Option Code->Obj)(E:Env)(w:J)(R:aC):Prop:=W.bN (Env.get? E 2) λL=>W.bN (Env.get? E 3) λM=>W.bN (Env.get? E 4) λN=>W.bN (Env.get? E 5) λe=>W.asAgg (Env.get? E 17) λy=>W.iB y λF z=>W.asInt .u8 (some F) λh=>W.iB z λG A=>W.asInt .u8 (some G) λj=>W.iB A λH B=>W.asInt .u8 (some H) λk=>W.iB B λI C=>W.oF (some I) λq=>W.iB C λK D=>W.asInt .i64 (some K) λx=>W.kz D<|S1 l_ d L M N e h j k q x w R
def zZ(l_:Nat)(e:Loop)(R:aC)(E:Env)(w:J)(j:zY l_ (lo e) E w R):WP U ⟨32,[],some l_⟩ C7 (Q2 l_ e R) E w:=by obtain⟨t2,Q,q⟩:=W.bT j;obtain⟨t3,S,G⟩:=W.bT q;obtain⟨t4,T,H⟩:=W.bT G;obtain⟨Y,V,I⟩:=W.bT H;obtain⟨ae,P,K⟩:=W.wQ I;obtain⟨ak,af,rfl,L⟩:=W.jX K;obtain⟨Z,ex,M⟩:=W.lZ L;obtain rfl:=eh ex;obtain⟨al,ag,rfl,N⟩:=W.jX M;obtain⟨aa,ex,O⟩:=W.lZ N;obtain rfl:=eh ex;obtain⟨am,ah,rfl,y⟩:=W.jX O;obtain⟨ab,ex,z⟩:=W.lZ y;obtain rfl:=eh ex;obtain⟨an,ai,rfl,A⟩:=W.jX z;obtain⟨ac,ex,B⟩:=W.rA A;obtain rfl:=eh ex;obtain⟨ao,aj,rfl,C⟩:=W.jX B;obtain⟨ad,ex,D⟩:=W.lZ C;obtain rfl:=eh ex;obtain⟨rfl,F⟩:=W.oE D;exact λa d=>WP.at (n:=⟨32,[],some l_⟩) (E:=[(2,.pointer (some t2)),(3,.pointer (some t3)),(4,.pointer (some t4)),(5,.pointer (some Y)),(17,.agg #[.int .u8 Z,.int .u8 aa,.int .u8 ab,.string ac,.i ad])]) (WP.kP (c:=C7) (λE w=>w.heap[l_]? =some (lo e .ready none)/\((λw=>tL l_ (lo e) E w R) (w.putObj l_ (lo e .busy none)))) (by kernel_rfl) (mp F) λ_ _ a k h=>⟨(h).1,(WP.block (c:=C8) (x:=C9) (id:=1) (by kernel_rfl) (z0 l_ e R _ _ (h).2)) a k⟩) (d.cons Q (d.cons S (d.cons T (d.cons V (d.cons P d.nil)))))
abbrev pA(l_:Nat)(d:eg->Option Code->Obj)(y:ByteArray)(t2 t3 t4 e z:Addr)(h j k:Int)(q:ByteArray)(x:Int)(w:J)(R:aC):Prop:=
 S1 l_ d t2 t3 t4 e h j k q x w R
def Al(l_:Nat)(d:Loop)(h:ByteArray)(t2 t3 t4 e j:Addr)(k q x:Int)(y:ByteArray)(z:Int)(w:J)(R:aC)(A:pA l_ (lo d) h t2 t3 t4 e j k q x y z w R):WP U ⟨32,[],some l_⟩ C7 (tR U 32 l_ d C8 (roundPost U l_ R)) (n5 [(0,.string h),(2,.pointer (some t2)),(3,.pointer (some t3)),(4,.pointer (some t4)),(5,.pointer (some e)),(16,.func (.func qn) #[] #[.pointer (some j)])] [17] [.agg #[.int .u8 k,.int .u8 q,.int .u8 x,.string y,.i z]]) w:=
 (zZ l_ d R _ _ (mp A))
noncomputable def k5:=C3.sn
noncomputable def nq:=k5.sn
noncomputable def lR:=nq.fs
noncomputable def nr:=lR.sn
noncomputable def jq:=nr.fs
noncomputable def lS:=nq.sn
abbrev Q3(R:aC):jT:=(Exit.then (gn U (cx 32) lS (bodyPostM Fence.wide 0 U Tryz.f141 R)) (bodyPostM Fence.wide 0 U Tryz.f141 R))
noncomputable def pB:=jq.fs
noncomputable def oz:=jq.sn
abbrev S6(j:Nat)(z:ByteArray)(t2 t3 t4:Addr)(w:J)(R:aC):Prop:=
 ml w t2 (.i 0) (.int .u8 0) (.int .u8 0) (.slice none 0 0) λA=>aJ A t3 (.i ((z.size:Nat):Int)) λB=>
 aJ B t4 (.i 4) λC=>
 gN C j (.deferred (some [])) (.deferred none) λd=>iJ d t2 λk q x y=>∃e:Int,d.cell? t3=some (.i e)/\
 ∃h:Int,d.cell? t4=some (.i h)/\
 R (ae (.tuple #[.agg #[.i k,.int .u8 q,.int .u8 x,y.v],.i e,.i h])) d
def wz(d:Nat)(E:Env)(w:J)(R:aC):Prop:=W.oF (Env.get? E 0) λe=>W.bN (Env.get? E 2) λh=>W.bN (Env.get? E 3) λj=>W.bN (Env.get? E 4) λk=>S6 d e h j k w R
def z5(e:Nat)(R:aC)(E:Env)(w:J)(j:wz e E w R):WP U (marked 32 e) jq (Q3 R) E w:=by obtain⟨H,C,q⟩:=W.rA j;obtain⟨I,D,z⟩:=W.bT q;obtain⟨K,F,A⟩:=W.bT z;obtain⟨L,G,B⟩:=W.bT A;exact λa d=>WP.at (n:=(marked 32 e)) (E:=[(0,.string H),(2,.pointer (some I)),(3,.pointer (some K)),(4,.pointer (some L))]) (WP.seq (c:=jq) (x:=pB) (y:=oz) (by kernel_rfl)<|WP.kP (c:=pB) (λE w=>yU U Tryz.f141 E w e R) (by kernel_rfl) (mp B) λ_ _ a h k=>(WP.ret (c:=oz) (by kernel_rfl) λa h=>vI h k) a h) (d.cons C (d.cons D (d.cons F (d.cons G d.nil))))
abbrev Q4(R:aC):jT:=(bodyPostM Fence.wide 0 U Tryz.f141 R)
noncomputable def q8:=lS.fs
noncomputable def q9:=lS.sn
abbrev S7(j:Nat)(t2 t3 t4 x7:Addr)(w:J)(R:aC):Prop:=
 iJ w x7 λz A B C=>ml w t2 (.i z) (.int .u8 A) (.int .u8 B) (C.v) λD=>aJ D t3 (.i 0) λE=>
 aJ E t4 (.i 0) λF=>
 gN F j (.deferred (some [])) (.deferred none) λd=>iJ d t2 λk q x y=>∃e:Int,d.cell? t3=some (.i e)/\
 ∃h:Int,d.cell? t4=some (.i h)/\
 R (ae (.tuple #[.agg #[.i k,.int .u8 q,.int .u8 x,y.v],.i e,.i h])) d
def Ff(d:Nat)(E:Env)(w:J)(R:aC):Prop:=W.bN (Env.get? E 2) λe=>W.bN (Env.get? E 3) λh=>W.bN (Env.get? E 4) λj=>W.bN (Env.get? E 7) λk=>S7 d e h j k w R
def Qs(e:Nat)(R:aC)(E:Env)(w:J)(j:Ff e E w R):WP U (marked 32 e) lS (Q4 R) E w:=by obtain⟨H,C,q⟩:=W.bT j;obtain⟨I,D,z⟩:=W.bT q;obtain⟨K,F,A⟩:=W.bT z;obtain⟨L,G,B⟩:=W.bT A;exact λa d=>WP.at (n:=(marked 32 e)) (E:=[(2,.pointer (some H)),(3,.pointer (some I)),(4,.pointer (some K)),(7,.pointer (some L))]) (WP.seq (c:=lS) (x:=q8) (y:=q9) (by kernel_rfl)<|WP.kP (c:=q8) (λE w=>yU U Tryz.f141 E w e R) (by kernel_rfl) (mp B) λ_ _ a h k=>(WP.ret (c:=q9) (by kernel_rfl) λa h=>vI h k) a h) (d.cons C (d.cons D (d.cons F (d.cons G d.nil))))
noncomputable def wq:=lR.fs
noncomputable def wt:=nr.sn
abbrev S5(d:Nat)(h:ByteArray)(t2 t3 t4 x7:Addr)(w:J)(R:aC):Prop:=
 iJ w x7 λj k q x=>GF CU #[.agg #[.i j,.int .u8 k,.int .u8 q,x.v]] w λt27 e=>bq t27 (S6 d h t2 t3 t4 e R) (S7 d t2 t3 t4 x7 e R)
def tN(d:Nat)(E:Env)(w:J)(R:aC):Prop:=W.oF (Env.get? E 0) λe=>W.bN (Env.get? E 2) λh=>W.bN (Env.get? E 3) λj=>W.bN (Env.get? E 4) λk=>W.bN (Env.get? E 7) λq=>S5 d e h j k q w R
def z3(d:Nat)(R:aC)(E:Env)(w:J)(k:tN d E w R):WP U (marked 32 d) lR (Q3 R) E w:=by obtain⟨K,D,q⟩:=W.rA k;obtain⟨L,F,z⟩:=W.bT q;obtain⟨M,G,A⟩:=W.bT z;obtain⟨N,H,B⟩:=W.bT A;obtain⟨O,I,C⟩:=W.bT B;exact λa e=>WP.at (n:=(marked 32 d)) (E:=[(0,.string K),(2,.pointer (some L)),(3,.pointer (some M)),(4,.pointer (some N)),(7,.pointer (some O))]) (WP.seq (c:=lR) (x:=wq) (y:=nr) (by kernel_rfl)<|WP.kP (c:=wq) (λE w=>hG (Env.val E (.tmp 27)) (wz d E w R) (Ff d E w R)) (by kernel_rfl) (mp C) λ_ _ a j h=>(WP.hG (c:=nr) (x:=jq) (y:=wt) (o:=.tmp 27) (by kernel_rfl) (λh=>(z5 d R _ _ h)) (λh=>(WP.skip (c:=wt) (by kernel_rfl) λa j=>(Qs d R _ _ h) a j)) h) a j) (e.cons D (e.cons F (e.cons G (e.cons H (e.cons I e.nil)))))
noncomputable def E8:=k5.fs
abbrev S4(e:Nat)(j:ByteArray)(t2 t3 t4 h:Addr)(w:J)(R:aC):Prop:=
 Sq yh #[.pointer (some h)] w λt24 z=>w2 CN #[.pointer t24] z λk q x y d=>cS d (.cells #[.i 0,.int .u8 0,.int .u8 0,.slice none 0 0] aO) λA=>
 ml A (nb d) (.i k) (.int .u8 q) (.int .u8 x) (y.v) λB=>S5 e j t2 t3 t4 (nb d) B R
def wy(d:Nat)(E:Env)(w:J)(R:aC):Prop:=W.oF (Env.get? E 0) λh=>W.bN (Env.get? E 2) λj=>W.bN (Env.get? E 3) λk=>W.bN (Env.get? E 4) λq=>W.bN (Env.get? E 5) λe=>S4 d h j k q e w R
def z2(e:Nat)(R:aC)(E:Env)(w:J)(h:wy e E w R):WP U (marked 32 e) k5 (Q4 R) E w:=by obtain⟨L,D,q⟩:=W.rA h;obtain⟨M,F,z⟩:=W.bT q;obtain⟨N,G,A⟩:=W.bT z;obtain⟨O,H,B⟩:=W.bT A;obtain⟨K,I,C⟩:=W.bT B;exact λa d=>WP.at (n:=(marked 32 e)) (E:=[(0,.string L),(2,.pointer (some M)),(3,.pointer (some N)),(4,.pointer (some O)),(5,.pointer (some K))]) (WP.seq (c:=k5) (x:=E8) (y:=nq) (by kernel_rfl)<|WP.kP (c:=E8) (λE w=>tN e E w R) (by kernel_rfl) (mp C) λ_ _ a j k=>(WP.seq (c:=nq) (x:=lR) (y:=lS) (by kernel_rfl) (z3 e R _ _ k)) a j) (d.cons D (d.cons F (d.cons G (d.cons H (d.cons I d.nil)))))
abbrev S0(B:ByteArray)(t2 t3 t4 A C:Addr)(w:J)(R:aC):Prop:=
 ∀d:eg->Option Code->Obj,(∀(D E F:Int) (G:ByteArray) (H:Int) (k:J) (q:Bool->J->Prop),k.heap[w.heap.size+1]? =some (d .ready none)->pA (w.heap.size+1) d B t2 t3 t4 A C D E F G H k (λj O=>∃x:Bool,j=ae (.bool x)/\q x O)->nl U (w.heap.size+1) #[.agg #[.int .u8 D,.int .u8 E,.int .u8 F,.string G,.i H]] k q)->
 aj U qn #[.func (.yield (w.heap.size+1)) #[] #[],.pointer (some C)] ((w.alloc (.deferred (some []))).alloc (d .ready none)) λj P=>(∃N,j=ae N)/\pF P (w.heap.size+1) d (λe=>S4 w.heap.size B t2 t3 t4 A e R) (λQ e=>False) (λe=>gN e w.heap.size (.deferred (some [])) (.deferred none) λh=>iJ h t2 λI K L M=>∃y:Int,h.cell? t3=some (.i y)/\
 ∃z:Int,h.cell? t4=some (.i z)/\
 R (ae (.tuple #[.agg #[.i I,.int .u8 K,.int .u8 L,M.v],.i y,.i z])) h)
abbrev Q5(R:aC):jT:=(Exit.then (gn U (cx 32) k5 (bodyPostM Fence.wide 0 U Tryz.f141 R)) (bodyPostM Fence.wide 0 U Tryz.f141 R))
abbrev Q6(R:aC):jT:=(Exit.inBlock 0 (Q5 R))
def rj(E:Env)(w:J)(R:aC):Prop:=W.oF (Env.get? E 0) λe=>W.bN (Env.get? E 2) λy=>W.bN (Env.get? E 3) λz=>W.bN (Env.get? E 4) λA=>W.bN (Env.get? E 5) λd=>W.rz qn (Env.get? E 16) λq j=>W.kz q<|W.iB j λx k=>W.bN (some x) λh=>W.kz k<|S0 e y z A d h w R
def zW:Fg U 32 rj C6 Q6:=by
 intro x aq D y;obtain⟨B,af,O⟩:=W.rA y;obtain⟨j,ah,Q⟩:=W.bT O;obtain⟨k,ai,S⟩:=W.bT Q;obtain⟨q,aj,T⟩:=W.bT S;obtain⟨A,ak,V⟩:=W.bT T;obtain⟨aw,au,ag,Y⟩:=W.FI V;obtain⟨rfl,Z⟩:=W.oE Y;obtain⟨ax,av,rfl,aa⟩:=W.jX Z;obtain⟨C,ex,ab⟩:=W.bT aa;obtain rfl:=eh ex;obtain⟨rfl,P⟩:=W.oE ab;exact λa d=>WP.at (n:=(cx 32)) (E:=[(0,.string B),(2,.pointer (some j)),(3,.pointer (some k)),(4,.pointer (some q)),(5,.pointer (some A)),(16,.func (.func qn) #[] #[.pointer (some C)])]) (WP.range (m:=32) (c:=C6) (g:=.tmp 16) (ps:=#[17]) (assign:=C7) (body:=C8) (gf:=qn) (lb:=#[.pointer (some C)]) (λe=>S4 D.heap.size B j k q A e x) (λar e=>False) (λe=>gN e D.heap.size (.deferred (some [])) (.deferred none) λw=>iJ w j λam an ao ap=>∃F:Int,w.cell? k=some (.i F)/\
 ∃G:Int,w.cell? q=some (.i G)/\
 x (ae (.tuple #[.agg #[.i am,.int .u8 an,.int .u8 ao,ap.v],.i F,.i G])) w) (by kernel_rfl) rfl (by kernel_rfl)
  (λe h a z=>(z2 D.heap.size x _ _ (mp h)) a z)
  (λ_ _ h=>h.elim)
  (λe h a z=>vI z (mp h))
  (λH al=>P (lo H) (λI K L M N w_ K_ ad ac=>Qj (args:=[.agg #[.int .u8 I,.int .u8 K,.int .u8 L,.string M,.i N]]) al ad rfl (by kernel_rfl) (λ_ _ y=>y) (Al _ H B j k q A C I K L M N w_ _ ac)))) (d.cons af (d.cons ah (d.cons ai (d.cons aj (d.cons ak (d.cons ag d.nil))))))
noncomputable def zR:=C1.fs
noncomputable def zS:=zR.sn
noncomputable def zT:=zS.fs
noncomputable def Qm:=zT.sn
noncomputable def Qn:=zS.sn
def ok(e:ByteArray)(w:J)(R:aC)(B:cS w (.cells #[.i 0,.int .u8 0,.int .u8 0,.slice none 0 0] aO) λh=>
 cS h (.cells #[.i 0] bn) λj=>
 cS j (.cells #[.i 0] gF) λy=>
 bq (ao (((e.size:Nat):Int)>4096)) (ml y (nb w) (.i 0) (.int .u8 0) (.int .u8 0) (.slice none 0 0) λQ=>aJ Q (nb h) (.i 4096) λS=>
 aJ S (nb j) (.i 4) λk=>
 iJ k (nb w) λC D F G=>∃z:Int,k.cell? (nb h)=some (.i z)/\
 ∃A:Int,k.cell? (nb j)=some (.i A)/\
 R (ae (.tuple #[.agg #[.i C,.int .u8 D,.int .u8 F,G.v],.i z,.i A])) k) (cS y (.cells #[.i (-1),.slice none 0 0,.slice none 0 0,.slice none 0 0,.slice none 0 0,.i 0,.i 0,.int .u8 0,.int .u8 0,.slice none 0 0] hQ) λx=>
 cS x (.cells #[.slice none 0 0,.i 0,.i 0] wh) λN=>
 zg N (nb x) (.slice (some (nb y)) 1 1) (.i 0) (.i 0) λO=>AT K8 #[.string e] O λt16 P=>W.rz qn (some t16) λL I=>W.kz L<|W.iB I λM K=>W.bN (some M) λH=>W.kz K<|S0 e (nb w) (nb h) (nb j) (nb x) H P R)):aj U KP #[.string e] w R:=
 GM (R:=R) (fn:=Tryz.f141) (c:=C0) (args:=[.string e]) (by kernel_rfl) (by kernel_rfl) (by kernel_rfl) (sr C0 (show(λ(E:Env) (w:J)=>ez U C0 (λE w=>ez U zR (λE w=>hG (Env.val E (.tmp 10)) (ez U zT (λE w=>kg U Tryz.f141 E w (λv=>R (ae v) w)) E w) (ez U C2 (λE w=>ez U C4 (λE w=>rj E w R) E w) E w)) E w) E w) (jA 0 [.string e]) w from mp B) λ_ _ d=>(sq C1 (sr zR d λ_ _ d=>(cn zS d (λd=>(sr zT d λ_ _ d=>(rt Qm λa q=>N6 q d))) (λd=>(sk Qn λa q=>nx q (sr C2 d λ_ _ d=>(sq C3 (sr C4 d λ_ _ d=>(bk C5 0 (by kernel_rfl) (zW R _ _ d)))))))))))
end DY
abbrev dG:=Sl×List aa
def _root_.Go.W.En.rows(j:List dG):En:=⟨lF (j.flatMap λp:dG=>aN p.1),λk=>(∀p∈j,aK k aO 4 p.1 p.2)/\(j.flatMap λp:dG=>aN p.1).Nodup,
 λk x q h=>⟨λp e=>(h.1 p e).ck λb d w=>q b (a4.2 (bB.2 ⟨p,e,d⟩)) w,h.2⟩,
 λk h b d=>by obtain⟨p,e,d⟩:=bB.1 (a4.1 d);exact(h.1 p e).lt b d,sH _⟩
def Oh(e:List dG)(x:e≠[])(w:J)(b:Nat)(d:b∈(En.rows e).fp):¬(En.rows e).P ({w with heap:=Array.replicate (b+1) (.map #[] 0)}):=by rintro⟨h,_⟩;obtain⟨p,k,d⟩:=bB.1 (a4.1 d);obtain⟨q,f,j⟩:=(h p k).row.tC b d;simp at j
section
variable {M:Nat->Prop} {w0 w:J} {L D:List En} {bs:List Nat}
def Ii(H:O M w0 w L D){i:Nat}{d:List dG}(hi:L[i]? =some (.rows d)){b:Nat}(q:En.g b∈L):b∉(En.rows d).fp:=by
 intro h;obtain⟨y,e⟩:=kf.1 q;by_cases j:i=y
 .subst j;rw[hi]at e;have k:En.rows d=En.g b:=eh e;have x:d≠[]:=by rintro rfl;simp[En.rows,lF]at h
  refine Oh d x w b h ?_;rw[k];show b<_;simp
 .exact i5 H.nd hi e j b h (by simp[En.g])
def TO{d:List dG}{j:Nat}{s s':Sl}{vs x:List aa}(h:d[j]? =some (s,vs))(k:(d.flatMap λp:dG=>aN p.1).Nodup)(q:(aN s').Nodup)(w:∀e∈aN s',e∈aN s\/e∉d.flatMap λp:dG=>aN p.1):((d.set j (s',x)).flatMap λp:dG=>aN p.1).Nodup:=
 De (f:=λp:dG=>aN p.1) h k q w
def Rm(s:Sl):(aN s).Nodup:=by unfold aN;split<;>simp
def xW{α:Type}{l:List α}{j:Nat}{a x:α}(h:x∈l.set j a):x=a\/∃i,i≠j/\l[i]? =some x:=by
 obtain⟨i,d⟩:=kf.1 h;rw[List.getElem?_set]at d;split at d
 .split at d
  .exact .inl (eh d).symm
  .cases d
 .rename_i k;exact .inr ⟨i,λe=>k e.symm,d⟩
def Of{w:List dG}(k:(w.flatMap λp:dG=>aN p.1).Nodup):∀{i j:Nat} {p q:dG},w[i]? =some p->w[j]? =some q->i≠j->∀b∈aN p.1,b∉aN q.1:=by
 induction w with
 |nil=>intro i j p q h;simp at h
 |cons a l A=>
  rw[df,dL]at k;intro i j p q d e z b x y;cases i with
  |zero=>
   simp at d;subst d;cases j with
   |zero=>exact z rfl
   |succ j=>exact k.2.2 b x b (bB.2 ⟨q,aB (by simpa using e),y⟩) rfl
  |succ i=>
   cases j with
   |zero=>
    simp at e;subst e;exact k.2.2 b y b (bB.2 ⟨p,aB (by simpa using d),x⟩) rfl
   |succ j=>exact A k.2.1 (by simpa using d) (by simpa using e) (by omega) b x y
def Eb(H:O M w0 w L D){V:J}(i j:Nat){e:List dG}{s s':Sl}{vs C:List aa}(hi:L[i]? =some (.rows e))(y:e[j]? =some (s,vs))(f:Fr (λb=>b∈aN s) w V)(N:aK V aO 4 s' C)(h:∀b∈aN s',b∈aN s\/w.heap.size<=b):
  O M w0 V (L.set i (.rows (e.set j (s',C)))) D:=by
 have k:(En.rows e).P w:=H.get i hi;have B:∀b∈aN s,b∈(En.rows e).fp:=λb h=>a4.2 (bB.2 ⟨_,aB y,h⟩);have K:∀b∈e.flatMap (λp:dG=>aN p.1),b<w.heap.size:=λb h=>(En.rows e).lt w k b (a4.2 h);refine H.fC i _ hi (f.mono λx _ z=>B x z) ⟨λp d=>?_,TO y k.2 (Rm _) λx z=>(h x z).imp id λS d=>by have:=K x d;omega⟩ λb d=>?_
 .rcases xW d with rfl|⟨Q,G,q⟩
  .exact N
  .exact (k.1 p (aB q)).ck λb E I=>f.ck b I λF=>Of k.2 q y G b E F
 .obtain ⟨p,d,A⟩:=bB.1 (a4.1 d);rcases xW d with rfl|⟨Q,_,q⟩
  .exact (h b A).imp (B b) id
  .exact .inl (a4.2 (bB.2 ⟨p,aB q,A⟩))
def _root_.Go.W.O.wN(H:O M w0 w L D)(i j:Nat){ty:TypeId}{h:List dG}{s src:Sl}{vs news:List aa}{K:Sl->J->Prop}(hi:L[i]? =some (.rows h))(k:h[j]? =some (s,vs))(z:br 4 w src news)(G:∀u∈news,u.oneCell'=true)(N:(s.n+src.n) *40<=140737488355328)(I:∀d e,O M w0 e (L.set i (.rows (h.set j (d,vs++news)))) D->d.n=s.n+src.n->(d.a=none->s.a=none/\src.n=0)->K d e)(y:∀b∈bs,En.g b∈L:=by simp):
  ∃d e,(g' #[iq,iq] ty #[s.v,src.v]).run U w=.ok d.v e/\kept bs w e/\K d e:=by have S:(En.rows h).P w:=H.get i hi;obtain⟨d,e,A,B,C,q,E,F⟩:=Ar (ty:=ty) qa (S.1 _ (aB k)) z.2.2 z.1 G N;refine⟨d,e,A,λb x=>?_,I d e (Eb H i j hi k q B E) C F⟩;refine q.ck b (H.own _ (y b x)) λQ=>?_;exact Ii H hi (y b x) (a4.2 (bB.2 ⟨_,aB k,Q⟩))
def _root_.Go.W.O.zf(H:O M w0 w L D)(i j a c:Nat){e:List dG}{s:Sl}{vs:List aa}{v:aa}{p:Addr}{K:J->Prop}(hi:L[i]? =some (.rows e))(h:e[j]? =some (s,vs))(F:s.a=some p)(C:a+c<vs.length)(A:∀x,O M w0 x (L.set i (.rows (e.set j (s,vs.set (a+c) v)))) D->K x)(k:∀b∈bs,En.g b∈L:=by simp):aJ w ((p.add a).add c) v λy=>kept bs w y/\K y:=by have B:(En.rows e).P w:=H.get i hi;obtain⟨S,q,Q,G,I,N,z⟩:=Dy (B.1 _ (aB h)) (a+c) C v;rw[F]at q;cases q;rw[add_add];refine⟨G,I,λb d=>?_,A _ (Eb H i j hi h z N λb d=>.inl d)⟩;exact z.ck b (H.own _ (k b d)) λE=>Ii H hi (k b d) (a4.2 (bB.2 ⟨_,aB h,E⟩))
def _root_.Go.W.O.BG(H:O M w0 w L D)(i j:Nat){x:List dG}{s:Sl}{vs:List aa}(hi:L[i]? =some (.rows x))(y:x[j]? =some (s,vs)):O M w0 w (L.set i (.rows (x.set j (⟨none,0,0⟩,[])))) (D++[.a7 4 s vs]):=by
 have F:(En.rows x).P w:=H.get i hi;have h:=Eb H i j hi y (Fr.refl _ _) (aK.nil w aO 4) (λb k=>by simp[aN]at k);have Q:∀b∈aN s,b∈(En.rows x).fp:=λb k=>a4.2 (bB.2 ⟨_,aB y,k⟩);have T:i<L.length:=(cr.1 hi).1;refine⟨h.fr,h.own,λq d=>?_,h.new,h.nd,λq d b k G E z=>?_⟩
 .rcases aL.1 d with d|d
  .exact h.rd q d
  .simp at d;subst d;exact(F.1 _ (aB y)).a7
 .rcases aL.1 d with d|d
  .exact h.dj q d b k G E z
  .simp at d;subst d;have C:b∈aN s:=gh (e:=aO) k;rcases xW E with rfl|⟨S,A,I⟩
   .obtain ⟨V,N,B⟩:=bB.1 (a4.1 z);rcases xW N with rfl|⟨S,A,K⟩
    .simp [aN]at B
    .exact Of F.2 K y A b B C
   .exact i5 H.nd hi I (λq=>A q.symm) b (Q b C) z
end
structure FX where
 k:Int
 ar:Sl×List Rx
 al:List Rx
 an:List Rx
 ca:List Rx
 n:Nat
 la:Rx
structure FM where
 k:Int
 ar:Sl×List I
 al:Sl×List I
 an:Sl×List I
 ca:Sl×List I
 n:Nat
 la:I
def FM.x(f:FM):FX:=⟨f.k,(f.ar.1,I.aq f.ar.2),I.aq f.al.2,I.aq f.an.2,I.aq f.ca.2,f.n,f.la.rx⟩
def FM.c(f:FM):List aa:=[.int .i64 f.k,f.ar.1.v,f.al.1.v,f.an.1.v,f.ca.1.v,.int .i64 (f.n:Int),.int .i64 f.la.k,.int .u8 (f.la.lo.toNat:Int),.int .u8 (f.la.hi.toNat:Int),f.la.s.v]
def FM.rows(f:FM):List dG:=[(f.ar.1,f.ar.2.flatMap I.c),(f.al.1,f.al.2.flatMap I.c),(f.an.1,f.an.2.flatMap I.c),(f.ca.1,f.ca.2.flatMap I.c)]
def FM.ts(f:FM):List I:=f.ar.2++f.al.2++f.an.2++f.ca.2++[f.la]
def FM.oJ(f:FM):f.c.length=10:=rfl
def oQ(d:List FM):(d.flatMap FM.c).length=d.length *10:=nJ FM.c 10 FM.oJ d
abbrev SL(rb:Nat)(sl:Sl)(st wd:Int)(cs:List aa)(d:List dG):List En:=[.c rb [sl.v,.int .i64 st,.int .i64 wd] wh,.row hQ 10 sl cs,.rows d]
def St(w:J)(rb:Nat)(f0:Addr)(lo:List FX)(h:FX)(st wd:Int)(own:List Nat)(ts:List I):Prop:=
 ∃(sl:Sl) (d:List FM) (f:FM) (p:Addr),d.map FM.x=lo/\f.x=h/\(∀g∈d++[f],∀t∈g.ts,t∈ts)/\sl.a=some p/\f0=p.add (d.length *10)/\
  own=(SL rb sl st wd ((d++[f]).flatMap FM.c) ((d++[f]).flatMap FM.rows)).flatMap (·.fp)/\own.Nodup/\(∀e∈SL rb sl st wd ((d++[f]).flatMap FM.c) ((d++[f]).flatMap FM.rows),e.P w)/\I.Ps w ts/\∀b∈I.a8 ts,b∉own
def hW(w:J)(own:List Nat)(ts:List I)(rb:Nat)(f0:Addr)(lo:List FX)(j:FX)(st wd:Int)(A:List I->Prop)(V:J):Prop:=∃e d,St V rb f0 lo j st wd e d/\Fr (·∈own) w V/\(∀h∈e,h∈own\/w.heap.size<=h)/\(∀b∈I.a8 d,b∈I.a8 ts\/b∈own\/w.heap.size<=b)/\(∀t∈ts,t∈d)/\A d
def hW.then{w z V:J}{own x:List Nat}{ts k:List I}{rb:Nat}{f0:Addr}{lo:List FX}{y:FX}{st wd:Int}{A:List I->Prop}(h:Fr (·∈own) w z)(j:∀e∈x,e∈own\/w.heap.size<=e)(C:∀b∈I.a8 k,b∈I.a8 ts\/b∈own\/w.heap.size<=b)(N:∀t∈ts,t∈k)(d:hW z x k rb f0 lo y st wd A V):hW w own ts rb f0 lo y st wd A V:=by
 obtain⟨L,P,M,E,K,D,O,B⟩:=d;refine⟨L,P,M,h.trans E λe q G=>(j e G).resolve_right λd=>by omega,λe q=>?_,λb F=>?_,λt H=>O t (N t H),B⟩
 .rcases K e q with d|d
  .exact j e d
  .exact .inr (bp h.size d)
 .rcases D b F with d|d|d
  .exact C b d
  .exact .inr (j b d)
  .exact .inr (.inr (bp h.size d))
def hW.mono{w V:J}{own:List Nat}{ts:List I}{rb:Nat}{f0:Addr}{lo:List FX}{d:FX}{st wd:Int}{A B:List I->Prop}(k:hW w own ts rb f0 lo d st wd A V)(q:∀l,A l->B l):hW w own ts rb f0 lo d st wd B V:=by obtain⟨y,D,z,j,x,h,C,e⟩:=k;exact⟨y,D,z,j,x,h,C,q _ e⟩
def St.t'{w:J}{rb:Nat}{sl:Sl}{d:List FM}{f:FM}{ts:List I}{st wd:Int}{own:List Nat}(j:own=(SL rb sl st wd ((d++[f]).flatMap FM.c) ((d++[f]).flatMap FM.rows)).flatMap (·.fp))(y:own.Nodup)(z:∀e∈SL rb sl st wd ((d++[f]).flatMap FM.c) ((d++[f]).flatMap FM.rows),e.P w)(A:I.Ps w ts)(x:∀b∈I.a8 ts,b∉own):
  O (·∈own) w w (SL rb sl st wd ((d++[f]).flatMap FM.c) ((d++[f]).flatMap FM.rows)) [.trees ts]:=by refine O.og _ _ (λe h=>⟨z e h,λb k=>by rw[j];exact bB.2 ⟨e,h,k⟩⟩) (j▸y) λe h=>?_;simp only[aE,aZ,a2]at h;subst h;refine⟨A,λb k q C B=>x b (a4.1 k) ?_⟩;rw[j];exact bB.2 ⟨q,C,B⟩
def St.of{w V:J}{rb:Nat}{f0:Addr}{sl:Sl}{d:List FM}{f:FM}{ts e:List I}{st wd:Int}{own:List Nat}{p:Addr}{D:List En}{A:List I->Prop}(H:O (·∈own) w V (SL rb sl st wd ((d++[f]).flatMap FM.c) ((d++[f]).flatMap FM.rows)) D)(i:Nat)(y:D[i]? =some (.trees e))(F:∀g∈d++[f],∀t∈g.ts,t∈e)(E:sl.a=some p)(z:f0=p.add (d.length *10))(j:∀b∈I.a8 e,b∈I.a8 ts\/b∈own\/w.heap.size<=b)(G:∀t∈ts,t∈e)(B:A e):
  hW w own ts rb f0 (d.map FM.x) f.x st wd A V:=by
 refine⟨_,e,⟨sl,d,f,p,rfl,rfl,F,E,z,rfl,H.nd,H.own,H.getD i y,λb j C=>?_⟩,H.fr,λL K=>?_,j,G,B⟩
 .obtain ⟨h,q,k⟩:=bB.1 C;exact H.dj _ (aB y) b (a4.2 j) h q k
 .obtain ⟨h,q,k⟩:=bB.1 K;exact(H.new h q L k).symm
section
variable {M:Nat->Prop} {w0 w:J} {L D:List En} {bs:List Nat}
def _root_.Go.W.O.gy(H:O M w0 w L D)(i:Nat){sl:Sl}{d:List FM}{f:FM}{p:Addr}(hi:L[i]? =some (.row hQ 10 sl ((d++[f]).flatMap FM.c)))(y:sl.a=some p)(j:Nat){v:aa}(k:f.c[j]? =some v:=by rfl):w.cell? ((p.add (d.length *10)).add j)=some v:=by
 have x:aK w hQ 10 sl ((d++[f]).flatMap FM.c):=H.get i hi;have q:((d++[f]).flatMap FM.c)[d.length *10+j]? =some v:=by rw[cC,List.getElem?_append_right (by rw[oQ];omega),oQ];simpa using k
 obtain⟨z,e,h⟩:=x.a7.2.2.2 _ _ q;rw[y]at e;cases e;rw[add_add];exact h
def TZ(d:List FM)(f e:FM)(j:Nat)(v:aa)(k:j<10)(h:f.c.set j v=e.c):((d++[f]).flatMap FM.c).set (d.length *10+j) v=(d++[e]).flatMap FM.c:=by rw[cC,cC,List.set_append,ab (by rw[oQ];omega),oQ];simp only[df,List.flatMap_nil,cP,Nat.add_sub_cancel_left];rw[h]
def _root_.Go.W.O.ij(H:O M w0 w L D)(i:Nat){sl:Sl}{d:List FM}{f:FM}{p:Addr}{K:J->Prop}{v:aa}(h:FM)(j:Nat)(hi:L[i]? =some (.row hQ 10 sl ((d++[f]).flatMap FM.c)))(B:sl.a=some p)(A:j<10)(z:f.c.set j v=h.c)(x:∀e,O M w0 e (L.set i (.row hQ 10 sl ((d++[h]).flatMap FM.c))) D->K e)(y:∀b∈bs,En.g b∈L:=by simp):aJ w ((p.add (d.length *10)).add j) v λq=>kept bs w q/\K q:=
 H.tn i (d.length *10) j hi B (by rw[oQ];simp;omega) (λe k=>x e (by rw[TZ d f h j v A z]at k;exact k)) y
def Ex{w:J}{p:Addr}{v:aa}{K:J->Prop}(d:aJ w p v λe=>kept [] w e/\K e):aJ w p v K:=od d λ_ d=>d.2
end
def qN:∀d:List FM,(d.flatMap FM.rows).length=d.length *4
 |[]=>rfl
 |f::d=>by have:=qN d;simp only[df,List.length_append,List.length_cons];have:f.rows.length=4:=rfl;omega
def Ea(d:List FM)(f:FM)(j:Nat)(x:dG)(h:j<4):((d++[f]).flatMap FM.rows).set (d.length *4+j) x=d.flatMap FM.rows++f.rows.set j x:=by have e:=qN d;rw[cC,List.set_append,ab (by omega),e];simp
def pd(d:List FM)(f:FM)(j:Nat)(x:dG)(h:f.rows[j]? =some x):((d++[f]).flatMap FM.rows)[d.length *4+j]? =some x:=by have e:=qN d;rw[cC,List.getElem?_append_right (by omega),e];simpa using h
def fL(k:Int)(s:Sl)(ts:List I):I:=match ts with |[d]=>d|l=>.mk k 0 0 s l
def nZ(k:Int)(l:List Rx):Rx:=match l with |[d]=>d|l=>.mk k 0 0 l
def Ds(k:Int)(s:Sl)(ts:List I):(fL k s ts).rx=nZ k (I.aq ts):=by
 match ts with
 |[]=>rfl
 |[d]=>rfl
 |d::e::l=>rfl
def WQ{k:Int}{s:Sl}{ts:List I}{b:Nat}(d:b∈(fL k s ts).fp):b∈(I.row s ts).fp\/b∈I.a8 ts:=by
 match ts,d with
 |[],d=>exact I.fY.1 (show b∈(I.mk k 0 0 s []).fp from d)
 |[x],d=>exact .inr (I.bK.2 ⟨x,by simp,d⟩)
 |x::e::l,d=>exact I.fY.1 (show b∈(I.mk k 0 0 s (x::e::l)).fp from d)
def AM(k:Int)(s:Sl)(ts:List I)(w:J)(q:br 4 w s (ts.flatMap I.c)):aj U yg #[.int .i64 k,s.v] w λr A=>r=ae (fL k s ts).v/\ah w A:=by
 have h:=I.cb q;refine NU.au _ _ w _ ((bO [I.row s ts] (by intro D x;simp only[aE,aZ,a2]at x;subst x;exact q)).ay λC F d=>ax (λy=>⟨by omega,by omega,?_⟩) (λy=>d.af λB e=>⟨?_,e.fr⟩))
 .have z:ts.length=1:=by omega
  obtain⟨j,rfl⟩:=List.length_eq_one_iff.1 z;refine I.a3 (d.getD 0) (i:=0) (t:=j) rfl λp E c=>⟨_,_,_,_,c.c0,c.c1,c.c2,c.c3,d.af λB e=>⟨rfl,e.fr⟩⟩
 .match ts,h with
  |[],_=>rfl
  |[j],h=>simp at h;omega
  |j::G::l,_=>rfl
section
variable {M:Nat->Prop} {w0 w:J} {L D:List En} {bs:List Nat}
def _root_.Go.W.O.node(H:O M w0 w L D)(i:Nat){ts ks:List I}{s:Sl}(k:Int)(lo hi:UInt8)(j:D[i]? =some (.trees ts))(x:I.row s ks∈D)(q:∀t∈ks,t∈ts):O M w0 w L [.trees (ts++[.mk k lo hi s ks])]:=by
 have y:I.Ps w ts:=H.getD i j;have A:=H.ek (.trees (ts++[.mk k lo hi s ks])) (Fr.refl _ _) (I.iP λt d=>?_) λb B=>.inr (.inr ?_)
 .exact A.forget _ (by simp)
 .rcases aL.1 d with d|d
  .exact y.mem d
  .simp at d;subst d;unfold I.P;exact⟨H.rd _ x,I.iP λt d=>y.mem (q t d)⟩
 .obtain ⟨t,d,h⟩:=I.bK.1 (a4.1 B);rcases aL.1 d with d|d
  .exact ⟨_,aB j,a4.2 (I.bK.2 ⟨t,d,h⟩)⟩
  .simp at d;rw[d]at h;rcases I.fY.1 h with e|e
   .exact ⟨_,x,e⟩
   .obtain ⟨z,E,C⟩:=I.bK.1 e;exact⟨_,aB j,a4.2 (I.bK.2 ⟨z,q z E,C⟩)⟩
def _root_.Go.W.O.Md(H:O M w0 w L D)(i:Nat){ts ks:List I}{s:Sl}(k:Int)(j:D[i]? =some (.trees ts))(h:I.row s ks∈D)(e:∀t∈ks,t∈ts):O M w0 w L [.trees (ts++[fL k s ks])]:=by
 match ks,h,e with
 |[],h,e=>exact H.node i k 0 0 j h e
 |q::C::l,h,e=>exact H.node i k 0 0 j h e
 |[q],h,e=>
  have z:I.Ps w ts:=H.getD i j;have y:=e q (by simp);have A:=H.ek (.trees (ts++[q])) (Fr.refl _ _) (I.iP λt d=>?_) λb B=>.inr (.inr ?_)
  .exact A.forget _ (by simp[fL])
  .rcases aL.1 d with d|d
   .exact z.mem d
   .simp at d;subst d;exact z.mem y
  .obtain ⟨t,d,x⟩:=I.bK.1 (a4.1 B);rcases aL.1 d with d|d
   .exact ⟨_,aB j,a4.2 (I.bK.2 ⟨t,d,x⟩)⟩
   .simp at d;rw[d]at x;exact⟨_,aB j,a4.2 (I.bK.2 ⟨q,y,x⟩)⟩
abbrev z4:List aa:=[.int .i64 0,.int .u8 0,.int .u8 0,.slice none 0 0]
def wP(vs u:List aa)(n j:Nat)(v:aa)(d:vs.length=n):(vs++u).set (n+j) v=vs++u.set j v:=by rw[List.set_append,ab (by omega)];congr 2;omega
def _root_.Go.W.O.sV(H:O M w0 w L D)(i j n:Nat){d:List dG}{s:Sl}{vs:List aa}{p:Addr}{K:J->Prop}(t:I)(hi:L[i]? =some (.rows d))(hj:d[j]? =some (s,vs++z4))(F:s.a=some p)(h:vs.length=n *4)(hK:∀w',O M w0 w' (L.set i (.rows (d.set j (s,vs++t.c)))) D->K w')(E:∀b∈bs,En.g b∈L):
  aJ w (p.add (a1 (n:Int) *4)) (.int .i64 t.k) λA=>kept bs w A/\aJ A ((p.add (a1 (n:Int) *4)).add 1) (.int .u8 (t.lo.toNat:Int)) λq=>kept bs A q/\aJ q ((p.add (a1 (n:Int) *4)).add 2) (.int .u8 (t.hi.toNat:Int)) λy=>kept bs q y/\aJ y ((p.add (a1 (n:Int) *4)).add 3) t.s.v λB=>kept bs y B/\K B:=by
 rw[bZ];have ai:i<L.length:=(cr.1 hi).1;have ag:j<d.length:=(cr.1 hj).1;have Q:∀{G:List En} (e:En),G.length=L.length->(G.set i e)[i]? =some e:=λ{G} e hl=>by rw[hv (by omega)]
 have N:∀(C:List dG) (x:dG),C.length=d.length->(C.set j x)[j]? =some x:=λC x hl=>by rw[hv (by omega)]
 have S:∀{b:Nat},En.g b∈L->∀(C:List dG),En.g b∈L.set i (.rows C):=λ{b} z C=>by
  obtain⟨ac,T⟩:=kf.1 z;by_cases ab:i=ac
  .subst ab;exfalso;rw[hi]at T;have hP:(En.rows d).P w:=H.get i hi;have e1:En.rows d=En.g b:=eh T;have af:(En.rows d).fp=[b]:=by rw[e1];rfl
   have ae:b∈(En.rows d).fp:=by rw[af];simp
   have ah:d≠[]:=by rintro rfl;simp at ag
   refine Oh d ah w b ae ?_;rw[e1];show b<_;simp
  .exact kf.2 ⟨ac,by rw[List.getElem?_set_ne ab];exact T⟩
 have ad:=H.zf (bs:=bs) i j (n *4) 0 (v:=.int .i64 t.k) (K:=λA=>aJ A ((p.add (n *4)).add 1) (.int .u8 (t.lo.toNat:Int)) λq=>kept bs A q/\aJ q ((p.add (n *4)).add 2) (.int .u8 (t.hi.toNat:Int)) λy=>kept bs q y/\aJ y ((p.add (n *4)).add 3) t.s.v λB=>kept bs y B/\K B) hi hj F (by simp[h]) ?_ E
 .rw [iz]at ad;exact ad
 intro A V;rw[wP vs z4 (n *4) 0 _ h]at V;refine V.zf (bs:=bs) i j (n *4) 1 (Q _ rfl) (N _ _ rfl) F (by simp[h]) ?_ (λb z=>S (E b z) _);intro q Y;rw[wP vs _ (n *4) 1 _ h,List.set_set,List.set_set]at Y;refine Y.zf (bs:=bs) i j (n *4) 2 (Q _ rfl) (N _ _ rfl) F (by simp[h]) ?_ (λb z=>S (E b z) _);intro y Z;rw[wP vs _ (n *4) 2 _ h,List.set_set,List.set_set]at Z;refine Z.zf (bs:=bs) i j (n *4) 3 (Q _ rfl) (N _ _ rfl) F (by simp[h]) ?_ (λb z=>S (E b z) _);intro B H4;rw[wP vs _ (n *4) 3 _ h,List.set_set,List.set_set]at H4;exact hK B H4
def _root_.Go.W.O.IZ(H:O M w0 w L D)(i:Nat){sl:Sl}{d:List FM}{f:FM}{p:Addr}(hi:L[i]? =some (.row hQ 10 sl ((d++[f]).flatMap FM.c)))(e:sl.a=some p):
  w.cell? (((p.add (d.length *10)).add 6).add 0)=some (.int .i64 f.la.k)/\w.cell? (((p.add (d.length *10)).add 6).add 1)=some (.int .u8 (f.la.lo.toNat:Int))/\w.cell? (((p.add (d.length *10)).add 6).add 2)=some (.int .u8 (f.la.hi.toNat:Int))/\w.cell? (((p.add (d.length *10)).add 6).add 3)=some f.la.s.v:=by
 refine⟨?_,?_,?_,?_⟩
 .rw [iz];exact H.gy i hi e 6
 .rw [add_add];exact H.gy i hi e 7
 .rw [add_add];exact H.gy i hi e 8
 .rw [add_add];exact H.gy i hi e 9
end
def kM:Nat->Rx->Rx
 |0,r=>r
 |n+1,r=>kM n (.mk 6 0 0 [r])
def i6(f:FX):FX:=⟨f.k,f.ar,f.al,f.an,f.ca++[kM f.n f.la],0,f.la⟩
def Gj{w:J}{rb:Nat}{f0:Addr}{lo:List FX}{tp:FX}{st wd:Int}{own:List Nat}{ts:List I}(F:St w rb f0 lo tp st wd own ts)(hn:tp.n<=1000000)(hc:tp.ca.length<=1000000):
  aj U K1 #[.pointer (some f0)] w λr V=>r=ae (.tuple #[])/\hW w own ts rb f0 lo (i6 tp) st wd (λ_=>True) V:=by
 obtain⟨sl,d,f,p,rfl,rfl,K,y,rfl,h6,h7,h8,h9,av⟩:=F;have ag:=St.t' h6 h7 h8 h9 av;have ak:f.la∈ts:=K f (by simp) _ (by simp[FM.ts]);have az:f.ca.2.length<=1000000:=by
  have:f.x.ca.length=f.ca.2.length:=by show(I.aq f.ca.2).length=_;rw[I.fi];simp
  omega
 have loop:∀(m:Nat) (r:I) (C:List I) (j:Nat) (D:J),m<=1000000->(∀t∈ts,t∈C)->(∀b∈I.a8 C,b∈I.a8 ts\/b∈own\/w.heap.size<=b)->r∈C->kM m r.rx=kM f.n f.la.rx->
   O (·∈own) w D (SL rb sl st wd ((d++[(⟨f.k,f.ar,f.al,f.an,f.ca,m,f.la⟩:FM)]).flatMap FM.c) ((d++[f]).flatMap FM.rows)++[.g j]) [.trees C]->
   vE.a0 (p.add (d.length *10)) j r.k r.lo.toNat r.hi.toNat r.s D λr V=>r=ae (.tuple #[])/\hW w own ts rb (p.add (d.length *10)) (d.map FM.x) (i6 f.x) st wd (λ_=>True) V:=by
  intro m;induction m with
  |zero=>
   intro r C j D _ z Y Z he B;refine vE.bJ _ _ _ _ _ _ _ _ ⟨0,B.gy 1 rfl y 5,aV rfl (B.af λQ E=>⟨_,E.gy 1 rfl y 4,?_⟩)⟩;have am:((d++[f]).flatMap FM.rows)[d.length *4+3]? =some (f.ca.1,f.ca.2.flatMap I.c):=pd d f 3 _ rfl;have nr:f.ca.1.n=f.ca.2.length:=by have hp:(En.rows ((d++[f]).flatMap FM.rows)).P Q:=E.get 2;exact I.cb (hp.1 _ (aB am)).a7
   refine E.eK (e:=aO) (sz:=4) (n:=1) (cs:=z4) rfl (by decide) λw3 G=>⟨G.gy 1 rfl y 4,?_⟩;refine G.wN (bs:=[j]) 2 (d.length *4+3) (src:=⟨some (ad Q.heap.size),1,1⟩) (news:=z4) rfl am (aK.a7 (G.get 4)) (by simp[Value.oneCell']) (by show(f.ca.1.n+1) *40<=_;omega) (λq w4 S ac aw=>⟨by omega,by rw[ac];show((f.ca.1.n:Nat):Int)<((f.ca.1.n+1:Nat):Int);omega,?_⟩);obtain⟨aa,hq⟩:∃aa,q.a=some aa:=by
    cases hs:q.a with
    |none=>have:=(aw hs).2;simp at this
    |some aa=>exact⟨aa,rfl⟩
   rw[hq];have ai:d.length *4+3<((d++[f]).flatMap FM.rows).length:=by rw[qN];simp;omega
   have T:O (·∈own) w w4 (SL rb sl st wd ((d++[(⟨f.k,f.ar,f.al,f.an,f.ca,0,f.la⟩:FM)]).flatMap FM.c) (((d++[f]).flatMap FM.rows).set (d.length *4+3) (q,f.ca.2.flatMap I.c++z4))++[.g j]) [.trees C]:=S.take 4;have fin:∀{V:J},O (·∈own) w V (SL rb sl st wd ((d++[(⟨f.k,f.ar,f.al,f.an,(q,f.ca.2++[r]),0,f.la⟩:FM)]).flatMap FM.c) (((d++[f]).flatMap FM.rows).set (d.length *4+3) (q,f.ca.2.flatMap I.c++r.c))++[.g j]) [.trees C]->
     (Ending.returned (.tuple #[])=ae (.tuple #[])/\hW w own ts rb (p.add (d.length *10)) (d.map FM.x) (i6 f.x) st wd (λ_=>True) V):=λ{V} H'=>by
    refine⟨rfl,?_⟩;have e1:((d++[f]).flatMap FM.rows).set (d.length *4+3) (q,f.ca.2.flatMap I.c++r.c)=(d++[(⟨f.k,f.ar,f.al,f.an,(q,f.ca.2++[r]),0,f.la⟩:FM)]).flatMap FM.rows:=by rw[Ea d f 3 _ (by omega),cC];congr 1;simp[FM.rows]
    rw[e1]at H';have:=St.of (ts:=ts) (A:=λ_=>True) (f0:=p.add (d.length *10)) (H'.take 3) 0 rfl (λg M t h=>?_) y rfl Y z trivial
    .have e2:(FM.x ⟨f.k,f.ar,f.al,f.an,(q,f.ca.2++[r]),0,f.la⟩)=i6 f.x:=by
      unfold FM.x i6;simp only[jK];have:I.aq [r]=[kM f.n f.la.rx]:=by rw[<-he];rfl
      rw[this]
     rw[e2]at this;exact this
    .rcases aL.1 M with M|M
     .exact z t (K g (by simp[M]) t h)
     .simp at M;subst M;simp only[FM.ts,aL,aE,aZ,a2]at h;rcases h with(((h|h)|h)|(h|rfl))|rfl
      .exact z t (K f (by simp) t (by simp[FM.ts,h]))
      .exact z t (K f (by simp) t (by simp[FM.ts,h]))
      .exact z t (K f (by simp) t (by simp[FM.ts,h]))
      .exact z t (K f (by simp) t (by simp[FM.ts,h]))
      .exact Z
      .exact z _ ak
   refine⟨?_,?_⟩
   .rw [nr];refine T.sV (bs:=[j]) 2 (d.length *4+3) f.ca.2.length r rfl (hv ai) hq (I.gZ _) (λV H=>?_) (by simp);rw[List.set_set]at H;exact H.ij (bs:=[j]) (f:=⟨f.k,f.ar,f.al,f.an,f.ca,0,f.la⟩) 1 ⟨f.k,f.ar,f.al,f.an,(q,f.ca.2++[r]),0,f.la⟩ 4 rfl y (by omega) rfl (λax W=>fin W) (by simp)
   .refine T.ij (bs:=[j]) (f:=⟨f.k,f.ar,f.al,f.an,f.ca,0,f.la⟩) 1 ⟨f.k,f.ar,f.al,f.an,(q,f.ca.2++[r]),0,f.la⟩ 4 rfl y (by omega) rfl (λV H=>?_) (by simp);rw[nr];refine O.sV (bs:=[j]) (L:=SL rb sl st wd ((d++[(⟨f.k,f.ar,f.al,f.an,(q,f.ca.2++[r]),0,f.la⟩:FM)]).flatMap FM.c) (((d++[f]).flatMap FM.rows).set (d.length *4+3) (q,f.ca.2.flatMap I.c++z4))++[.g j]) H 2 (d.length *4+3) f.ca.2.length r rfl (hv ai) hq (I.gZ _) (λax W=>?_) (by simp);rw[List.set_set]at W;exact fin W
  |succ m ih=>
   intro r C j D hm z Y Z he B;refine vE.bJ _ _ _ _ _ _ _ _ ⟨((m+1:Nat):Int),B.gy 1 rfl y 5,aT (aM (by omega)) ?_⟩;refine B.eK (e:=aO) (sz:=4) (n:=1) (cs:=r.c) rfl (by decide) λQ E=>E.af (bs:=[j]) (λw3 G=>⟨_,G.gy 1 rfl y 5,?_⟩) (by simp);have ap:aG .i64 (((m+1:Nat):Int) - 1)=(m:Int):=by rw[bm _ (by omega)];omega
   show aJ w3 _ (.int .i64 (aG .i64 (((m+1:Nat):Int) - 1))) _;rw[ap];refine G.ij (bs:=[j]) (f:=⟨f.k,f.ar,f.al,f.an,f.ca,m+1,f.la⟩) 1 ⟨f.k,f.ar,f.al,f.an,f.ca,m,f.la⟩ 5 rfl y (by omega) rfl (λw4 S=>?_) (by simp);have T:=S.freeze 4 (I.row ⟨some (ad D.heap.size),1,1⟩ [r]) rfl (by show br 4 w4 _ ([r].flatMap I.c);rw[show[r].flatMap I.c=r.c by simp];exact aK.a7 (S.get 4)) (λb N=>gh (e:=aO) (vs:=[r].flatMap I.c) N);have H:=T.node 0 6 0 0 (s:=⟨some (ad D.heap.size),1,1⟩) (ks:=[r]) rfl (by simp) (λt h=>by simp at h;subst h;exact Z);refine ih (.mk 6 0 0 ⟨some (ad D.heap.size),1,1⟩ [r]) _ j w4 (by omega) (λt h=>by simp[z t h]) (λb N=>?_) (by simp) he H;obtain⟨t,h,ab⟩:=I.bK.1 N;rcases aL.1 h with h|h
   .exact Y b (I.bK.2 ⟨t,h,ab⟩)
   .simp at h;rw[h]at ab;rcases I.fY.1 ab with F|F
    .have:=gh (e:=aO) F;simp[En.row,aN,I.s]at this;subst this;exact .inr (.inr B.fr.size)
    .obtain ⟨aA,ao,ah⟩:=I.bK.1 F;simp[I.l]at ao;rw[ao]at ah;exact Y b (I.bK.2 ⟨r,Z,ah⟩)
 obtain⟨c0,c1,c2,c3⟩:=ag.IZ 1 rfl y;have ac:f.n<=1000000:=hn;refine vE.au _ w _ ⟨_,_,_,_,c0,c1,c2,c3,ag.ay (λj D B=>B.af (λQ E=>?_) (by simp)) (by simp)⟩;exact loop f.n f.la ts j Q ac (λ_ F=>F) (λb N=>.inl N) ak rfl E
def FM.aQ(f:FM)(j:Nat):Sl×List I:=if j=1 then f.ar else if j=2 then f.al else if j=3 then f.an else f.ca
def FM.put(f:FM)(j:Nat)(x:Sl×List I):FM:=⟨f.k,if j=1 then x else f.ar,if j=2 then x else f.al,if j=3 then x else f.an,if j=4 then x else f.ca,f.n,f.la⟩
def uk{j:Nat}(q:1<=j)(w:j<=4){p:Nat->Prop}(d:p 1)(e:p 2)(h:p 3)(k:p 4):p j:=by
 have:j=1\/j=2\/j=3\/j=4:=by omega
 rcases this with rfl|rfl|rfl|rfl<;>assumption
def G7(f:FM){j:Nat}(d:1<=j)(e:j<=4):f.c[j]? =some (f.aQ j).1.v:=uk (p:=λj=>f.c[j]? =some (f.aQ j).1.v) d e rfl rfl rfl rfl
def rN(f:FM){j:Nat}(d:1<=j)(e:j<=4):f.rows[j - 1]? =some ((f.aQ j).1,(f.aQ j).2.flatMap I.c):=uk (p:=λj=>f.rows[j - 1]? =some ((f.aQ j).1,(f.aQ j).2.flatMap I.c)) d e rfl rfl rfl rfl
def vv(f:FM)(x:Sl×List I){j:Nat}(d:1<=j)(e:j<=4):f.c.set j x.1.v=(f.put j x).c:=uk (p:=λj=>f.c.set j x.1.v=(f.put j x).c) d e rfl rfl rfl rfl
def Xi(f:FM)(x:Sl×List I){j:Nat}(d:1<=j)(e:j<=4):f.rows.set (j - 1) (x.1,x.2.flatMap I.c)=(f.put j x).rows:=uk (p:=λj=>f.rows.set (j - 1) (x.1,x.2.flatMap I.c)=(f.put j x).rows) d e rfl rfl rfl rfl
def yK(f:FM)(x:Sl×List I){j:Nat}(h:1<=j)(k:j<=4){t:I}(e:t∈(f.put j x).ts):t∈f.ts\/t∈x.2:=by
 refine uk (p:=λj=>t∈(f.put j x).ts->t∈f.ts\/t∈x.2) h k ?_ ?_ ?_ ?_ e<;>
 .intro e;simp[FM.put,FM.ts]at e ⊢;rcases e with d|d|d|d|d<;>simp[d]
def nE(f:FM)(j:Nat){t:I}(d:t∈(f.aQ j).2):t∈f.ts:=by
 unfold FM.aQ at d;unfold FM.ts;split at d
 .simp [d]
 .split at d
  .simp [d]
  .split at d
   .simp [d]
   .simp [d]
def Xh(f:FM)(x:Sl×List I){j i:Nat}(h:i≠j)(hi:1<=i)(e:i<=4):(f.put j x).aQ i=f.aQ i:=by
 have:i=1\/i=2\/i=3\/i=4:=by omega
 unfold FM.put FM.aQ;rcases this with rfl|rfl|rfl|rfl
 .simp;intro d;omega
 .simp;intro d;omega
 .simp;intro d;omega
 .simp;intro d;omega
section
variable {w0 w:J} {own:List Nat} {rb:Nat} {sl:Sl} {st wd:Int} {fs:List FM} {f:FM} {ts:List I} {p:Addr}
abbrev FS(own:List Nat)(w0 w:J)(rb:Nat)(sl:Sl)(st wd:Int)(fs:List FM)(f:FM)(d:List dG)(ts:List I):Prop:=O (·∈own) w0 w (SL rb sl st wd ((fs++[f]).flatMap FM.c) d) [.trees ts]
def r8(fs:List FM)(f:FM)(x:Sl×List I){j:Nat}(d:1<=j)(e:j<=4):((fs++[f]).flatMap FM.rows).set (fs.length *4+(j - 1)) (x.1,x.2.flatMap I.c)=(fs++[f.put j x]).flatMap FM.rows:=by rw[Ea fs f (j - 1) _ (by omega),Xi f x d e,cC];simp
def Na(H:FS own w0 w rb sl st wd fs f ((fs++[f]).flatMap FM.rows) ts)(C:sl.a=some p)(d:Nat)(x:1<=d)(y:d<=4)(t:I)(hb:(f.aQ d).2.length<=1000000){G:J}{src:Sl}(D:O (·∈own) w0 G (SL rb sl st wd ((fs++[f]).flatMap FM.c) ((fs++[f]).flatMap FM.rows)++[.row aO 4 src z4]) [.trees ts])(ae:src.n=1){K:J->Prop}(W:∀e q,FS own w0 q rb sl st wd fs (f.put d (e,(f.aQ d).2++[t])) ((fs++[f.put d (e,(f.aQ d).2++[t])]).flatMap FM.rows) ts->K q):
  ∃(t15:Sl) (z:J),(g' #[iq,iq] iq #[(f.aQ d).1.v,src.v]).run U G=.ok (t15.v) z/\(0:Int)<=(((f.aQ d).1.n:Nat):Int)/\(((f.aQ d).1.n:Nat):Int)<((t15.n:Nat):Int)/\dJ t15.a λj=>((aJ z (j.add (a1 (((f.aQ d).1.n:Nat):Int) *4)) (.int .i64 t.k) λM=>aJ M ((j.add (a1 (((f.aQ d).1.n:Nat):Int) *4)).add 1) (.int .u8 (t.lo.toNat:Int)) λN=>aJ N ((j.add (a1 (((f.aQ d).1.n:Nat):Int) *4)).add 2) (.int .u8 (t.hi.toNat:Int)) λQ=>aJ Q ((j.add (a1 (((f.aQ d).1.n:Nat):Int) *4)).add 3) t.s.v λS=>aJ S ((p.add (fs.length *10)).add d) t15.v K)/\
   (aJ z ((p.add (fs.length *10)).add d) t15.v λab=>aJ ab (j.add (a1 (((f.aQ d).1.n:Nat):Int) *4)) (.int .i64 t.k) λM=>aJ M ((j.add (a1 (((f.aQ d).1.n:Nat):Int) *4)).add 1) (.int .u8 (t.lo.toNat:Int)) λN=>aJ N ((j.add (a1 (((f.aQ d).1.n:Nat):Int) *4)).add 2) (.int .u8 (t.hi.toNat:Int)) λQ=>aJ Q ((j.add (a1 (((f.aQ d).1.n:Nat):Int) *4)).add 3) t.s.v K)):=by
 have Z:((fs++[f]).flatMap FM.rows)[fs.length *4+(d - 1)]? =some ((f.aQ d).1,(f.aQ d).2.flatMap I.c):=pd fs f (d - 1) _ (rN f x y);have nr:(f.aQ d).1.n=(f.aQ d).2.length:=by have C:(En.rows ((fs++[f]).flatMap FM.rows)).P G:=D.get 2;exact I.cb (C.1 _ (aB Z)).a7
 obtain⟨e,z,h1,_,h3⟩:=D.wN (bs:=[]) (ty:=iq) 2 (fs.length *4+(d - 1)) (src:=src) (news:=z4) (K:=λe q=>FS own w0 q rb sl st wd fs f (((fs++[f]).flatMap FM.rows).set (fs.length *4+(d - 1)) (e,(f.aQ d).2.flatMap I.c++z4)) ts/\e.n=(f.aQ d).1.n+1/\∃j,e.a=some j) rfl Z (aK.a7 (D.get 3)) (by simp[Value.oneCell']) (by omega) (λe w4 H4 ac aa=>⟨H4.take 3,by omega,by
  cases hs:e.a with
  |none=>have:=(aa hs).2;omega
  |some j=>exact⟨j,rfl⟩⟩) (by simp)
 obtain⟨T,ad,j,E⟩:=h3;refine⟨e,z,h1,by omega,by omega,?_⟩;rw[E];have Y:fs.length *4+(d - 1)<((fs++[f]).flatMap FM.rows).length:=by rw[qN];simp;omega
 have V:∀(f:FM) (t:I) (d:Nat),(f.aQ d).2.flatMap I.c++t.c=((f.aQ d).2++[t]).flatMap I.c:=λf t d=>by simp
 rw[nr];refine⟨?_,?_⟩
 .have st:=O.sV (bs:=[]) (K:=λS=>aJ S ((p.add (fs.length *10)).add d) e.v K) T 2 (fs.length *4+(d - 1)) (f.aQ d).2.length t rfl (hv Y) E (I.gZ _) (λq A=>?_) (by simp)
  .exact od st λ_ h=>od h.2 λ_ h=>od h.2 λ_ h=>od h.2 λ_ h=>h.2
  .rw [List.set_set,V,r8 fs f (e,(f.aQ d).2++[t]) x y]at A;exact Ex (A.ij (bs:=[]) (f:=f) 1 (f.put d (e,(f.aQ d).2++[t])) d rfl C (by omega) (vv f (e,(f.aQ d).2++[t]) x y) (λF B=>W e F B) (by simp))
 .refine Ex (T.ij (bs:=[]) (f:=f) 1 (f.put d (e,(f.aQ d).2++[t])) d rfl C (by omega) (vv f (e,(f.aQ d).2++[t]) x y) (λq A=>?_) (by simp));have st:=O.sV (bs:=[]) (K:=K) (L:=SL rb sl st wd ((fs++[f.put d (e,(f.aQ d).2++[t])]).flatMap FM.c) (((fs++[f]).flatMap FM.rows).set (fs.length *4+(d - 1)) (e,(f.aQ d).2.flatMap I.c++z4))) A 2 (fs.length *4+(d - 1)) (f.aQ d).2.length t rfl (hv Y) E (I.gZ _) (λF B=>?_) (by simp)
  .exact od st λ_ h=>od h.2 λ_ h=>od h.2 λ_ h=>od h.2 λ_ h=>h.2
  .rw [List.set_set,V,r8 fs f (e,(f.aQ d).2++[t]) x y]at B;exact W e F B
def shift(H:FS own w0 w rb sl st wd fs f ((fs++[f]).flatMap FM.rows) ts)(T:sl.a=some p)(k:Int)(d s:Nat)(Z:1<=d)(hs:s=d+1)(N:s<=4)(hb:(f.aQ d).2.length<=1000000)(ap:∀t∈f.ts,t∈ts){R:aC}(hK:∀q V,FS own w0 V rb sl st wd fs ((f.put d (q,(f.aQ d).2++[fL k (f.aQ s).1 (f.aQ s).2])).put s (⟨none,0,0⟩,[])) ((fs++[(f.put d (q,(f.aQ d).2++[fL k (f.aQ s).1 (f.aQ s).2])).put s (⟨none,0,0⟩,[])]).flatMap FM.rows) (ts++[fL k (f.aQ s).1 (f.aQ s).2])->R (ae (.tuple #[])) V):
  rS w λz=>∃h:Sl,z.cell? ((p.add (fs.length *10)).add d)=some (h.v)/\∃t11:Sl,z.cell? ((p.add (fs.length *10)).add s)=some (t11.v)/\
   ((aj U yg #[.i k,t11.v] z λr_ K=>∃C:Int,∃D:Int,∃E:Int,∃F:Sl,r_=ae (.agg #[.i C,.int .u8 D,.int .u8 E,F.v])/\
    K.cell? ((p.add (fs.length *10)).add d)=some (h.v)/\cS K (.cells #[.i 0,.int .u8 0,.int .u8 0,.slice none 0 0] aO) λW=>
    W.cell? ((p.add (fs.length *10)).add d)=some (h.v)/\∃(t15:Sl) (L:J),Sem.run U (g' #[iq,iq] iq #[h.v,.slice (some (nb K)) 1 1]) W=.ok (t15.v) L/\mA t15 ((h.n:Nat):Int) λj=>((aJ L (j.add (a1 ((h.n:Nat):Int) *4)) (.i C) λw6=>
    aJ w6 ((j.add (a1 ((h.n:Nat):Int) *4)).add 1) (.int .u8 D) λw7=>aJ w7 ((j.add (a1 ((h.n:Nat):Int) *4)).add 2) (.int .u8 E) λw8=>aJ w8 ((j.add (a1 ((h.n:Nat):Int) *4)).add 3) (F.v) λw9=>
    aJ w9 ((p.add (fs.length *10)).add d) (t15.v) λab=>aJ ab ((p.add (fs.length *10)).add s) (.slice none 0 0) λx=>R (ae (.tuple #[])) x)/\
    (aJ L ((p.add (fs.length *10)).add d) (t15.v) λac=>aJ ac (j.add (a1 ((h.n:Nat):Int) *4)) (.i C) λaf=>aJ af ((j.add (a1 ((h.n:Nat):Int) *4)).add 1) (.int .u8 D) λag=>
    aJ ag ((j.add (a1 ((h.n:Nat):Int) *4)).add 2) (.int .u8 E) λah=>aJ ah ((j.add (a1 ((h.n:Nat):Int) *4)).add 3) (F.v) λai=>aJ ai ((p.add (fs.length *10)).add s) (.slice none 0 0) λx=>R (ae (.tuple #[])) x)))/\
   (cS z (.cells #[.i 0,.int .u8 0,.int .u8 0,.slice none 0 0] aO) λak=>ak.cell? ((p.add (fs.length *10)).add s)=some (t11.v)/\ak.cell? ((p.add (fs.length *10)).add d)=some (h.v)/\
    aj U yg #[.i k,t11.v] ak λr_ an=>∃C:Int,∃D:Int,∃E:Int,∃F:Sl,r_=ae (.agg #[.i C,.int .u8 D,.int .u8 E,F.v])/\
    an.cell? ((p.add (fs.length *10)).add d)=some (h.v)/\∃(t15:Sl) (L:J),Sem.run U (g' #[iq,iq] iq #[h.v,.slice (some (nb z)) 1 1]) an=.ok (t15.v) L/\mA t15 ((h.n:Nat):Int) λj=>((aJ L (j.add (a1 ((h.n:Nat):Int) *4)) (.i C) λw6=>
    aJ w6 ((j.add (a1 ((h.n:Nat):Int) *4)).add 1) (.int .u8 D) λw7=>aJ w7 ((j.add (a1 ((h.n:Nat):Int) *4)).add 2) (.int .u8 E) λw8=>aJ w8 ((j.add (a1 ((h.n:Nat):Int) *4)).add 3) (F.v) λw9=>
    aJ w9 ((p.add (fs.length *10)).add d) (t15.v) λab=>aJ ab ((p.add (fs.length *10)).add s) (.slice none 0 0) λx=>R (ae (.tuple #[])) x)/\
    (aJ L ((p.add (fs.length *10)).add d) (t15.v) λac=>aJ ac (j.add (a1 ((h.n:Nat):Int) *4)) (.i C) λaf=>aJ af ((j.add (a1 ((h.n:Nat):Int) *4)).add 1) (.int .u8 D) λag=>
    aJ ag ((j.add (a1 ((h.n:Nat):Int) *4)).add 2) (.int .u8 E) λah=>aJ ah ((j.add (a1 ((h.n:Nat):Int) *4)).add 3) (F.v) λai=>aJ ai ((p.add (fs.length *10)).add s) (.slice none 0 0) λx=>R (ae (.tuple #[])) x)))):=by
 subst hs;have M:1<=d+1:=by omega
 have aa:d<=4:=by omega
 have ao:((fs++[f]).flatMap FM.rows)[fs.length *4+(d+1 - 1)]? =some ((f.aQ (d+1)).1,(f.aQ (d+1)).2.flatMap I.c):=pd fs f (d+1 - 1) _ (rN f M N);have rd:∀{V:J} {G:List En},O (·∈own) w0 V (SL rb sl st wd ((fs++[f]).flatMap FM.c) ((fs++[f]).flatMap FM.rows)++G) [.trees ts]->br 4 V (f.aQ (d+1)).1 ((f.aQ (d+1)).2.flatMap I.c):=λA=>by have hP:(En.rows ((fs++[f]).flatMap FM.rows)).P _:=A.get 2;exact(hP.1 _ (aB ao)).a7
 have fin:∀q V,FS own w0 V rb sl st wd fs (f.put d (q,(f.aQ d).2++[fL k (f.aQ (d+1)).1 (f.aQ (d+1)).2])) ((fs++[f.put d (q,(f.aQ d).2++[fL k (f.aQ (d+1)).1 (f.aQ (d+1)).2])]).flatMap FM.rows) ts->
   aJ V ((p.add (fs.length *10)).add (d+1)) (.slice none 0 0) λx=>R (ae (.tuple #[])) x:=λq V A=>by have hc:(f.put d (q,(f.aQ d).2++[fL k (f.aQ (d+1)).1 (f.aQ (d+1)).2])).aQ (d+1)=f.aQ (d+1):=Xh f _ (by omega) M N;refine Ex (A.ij (bs:=[]) 1 ((f.put d (q,(f.aQ d).2++[fL k (f.aQ (d+1)).1 (f.aQ (d+1)).2])).put (d+1) (⟨none,0,0⟩,[])) (d+1) rfl T (by omega) (vv _ (⟨none,0,0⟩,[]) M N) (λx H1=>hK q x ?_) (by simp));have am:=pd fs (f.put d (q,(f.aQ d).2++[fL k (f.aQ (d+1)).1 (f.aQ (d+1)).2])) (d+1 - 1) _ (rN _ M N);rw[hc]at am;have B:=H1.BG 2 (fs.length *4+(d+1 - 1)) rfl am;have y:=B.Md 0 k (s:=(f.aQ (d+1)).1) (ks:=(f.aQ (d+1)).2) rfl (by simp) λt ht=>ap t (nE f _ ht);have Y:=r8 fs (f.put d (q,(f.aQ d).2++[fL k (f.aQ (d+1)).1 (f.aQ (d+1)).2])) (⟨none,0,0⟩,[]) M N;have e':(([]:List I).flatMap I.c)=[]:=rfl;rw[e']at Y;simp only at Y;rw[<-Y];exact y
 have S:∀{V:J} {G:List En},O (·∈own) w0 V (SL rb sl st wd ((fs++[f]).flatMap FM.c) ((fs++[f]).flatMap FM.rows)++G) [.trees ts]->V.cell? ((p.add (fs.length *10)).add d)=some ((f.aQ d).1.v):=λA=>A.gy 1 rfl T d (G7 f Z aa);have al:∀{V:J} {G:List En},O (·∈own) w0 V (SL rb sl st wd ((fs++[f]).flatMap FM.c) ((fs++[f]).flatMap FM.rows)++G) [.trees ts]->V.cell? ((p.add (fs.length *10)).add (d+1))=some ((f.aQ (d+1)).1.v):=λA=>A.gy 1 rfl T (d+1) (G7 f M N);refine H.dr λz B=>⟨_,S (G:=[]) B,_,al (G:=[]) B,?_,B.eK (e:=aO) (sz:=4) (n:=1) (cs:=z4) rfl (by decide) λK y=>⟨al y,S y,?_⟩⟩
 .refine B.call (AM k _ _ z (rd (G:=[]) B)) ?_;rintro _ K rfl y;refine⟨_,_,_,_,rfl,S (G:=[]) y,y.eK (e:=aO) (sz:=4) (n:=1) (cs:=z4) rfl (by decide) λW Q=>⟨S Q,?_⟩⟩;exact Na H T d Z aa (fL k (f.aQ (d+1)).1 (f.aQ (d+1)).2) hb (src:=⟨some (ad K.heap.size),1,1⟩) Q rfl fin
 .refine y.call (AM k _ _ K (rd y)) ?_;rintro _ W rfl Q;refine⟨_,_,_,_,rfl,S Q,?_⟩;exact Na H T d Z aa (fL k (f.aQ (d+1)).1 (f.aQ (d+1)).2) hb (src:=⟨some (ad z.heap.size),1,1⟩) Q rfl fin
end
def hX(w:J)(own:List Nat)(ts:List I)(rb:Nat)(Q:cA->Addr->List FX->FX->Int->Int->List I->Prop):aC:=λr q=>∃d e j h k,hW w own ts rb d e j h k (Q r d e j h k) q
def j2(f:FX):FX:=⟨f.k,f.ar,f.al,f.an++[nZ 3 (i6 f).ca],[],0,f.la⟩
def j1(f:FX):FX:=⟨f.k,f.ar,f.al++[nZ 5 (j2 f).an],[],[],0,f.la⟩
def Bh(f:FX):FX:=⟨f.k,f.ar,[],[],[],0,f.la⟩
def cu(f:FX):Rx:=nZ 4 (j1 f).al
def Er{w0:J}{M:Nat->Prop}{w:J}{own:List Nat}{ts y:List I}{k:Int}{s:Sl}{ks:List I}(q:∀b∈I.a8 ts,b∈I.a8 y\/b∈own\/w.heap.size<=b)(C:∀b∈aN s,b∈own\/w.heap.size<=b)(B:∀t∈ks,t∈ts):∀b∈I.a8 (ts++[fL k s ks]),b∈I.a8 y\/b∈own\/w.heap.size<=b:=λb z=>by
 obtain⟨t,d,j⟩:=I.bK.1 z;rcases aL.1 d with d|d
 .exact q b (I.bK.2 ⟨t,d,j⟩)
 .simp at d;rw[d]at j;rcases WQ j with h|h
  .exact .inr (C b (gh (e:=aO) h))
  .obtain ⟨x,D,A⟩:=I.bK.1 h;exact q b (I.bK.2 ⟨x,B x D,A⟩)
def Oe{own:List Nat}{w0 w:J}{rb:Nat}{sl:Sl}{st wd:Int}{d:List FM}{f:FM}{ts:List I}(H:FS own w0 w rb sl st wd d f ((d++[f]).flatMap FM.rows) ts){j:Nat}(e:1<=j)(h:j<=4):∀b∈aN (f.aQ j).1,b∈own\/w0.heap.size<=b:=λb k=>by have q:=pd d f (j - 1) _ (rN f e h);exact(H.new (.rows ((d++[f]).flatMap FM.rows)) (by simp) b (a4.2 (bB.2 ⟨_,aB q,k⟩))).symm
def OK{q:List FM}{f:FM}{ts:List I}{k:Int}{d s:Nat}{s':Sl}(j:∀g∈q++[f],∀t∈g.ts,t∈ts)(x:1<=d)(y:d<=4)(z:1<=s)(A:s<=4):∀g∈q++[(f.put d (s',(f.aQ d).2++[fL k (f.aQ s).1 (f.aQ s).2])).put s (⟨none,0,0⟩,[])],∀t∈g.ts,t∈ts++[fL k (f.aQ s).1 (f.aQ s).2]:=by
 intro g h t w;rcases aL.1 h with h|h
 .exact bz _ (j g (by simp[h]) t w)
 .simp at h;subst h;rcases yK _ _ z A w with e|e
  .rcases yK _ _ x y e with e|e
   .exact bz _ (j f (by simp) t e)
   .rcases aL.1 e with e|e
    .exact bz _ (j f (by simp) t (nE f d e))
    .exact b0 _ e
  .cases e
def Gk{w:J}{rb:Nat}{f0:Addr}{lo:List FX}{d:FX}{st wd:Int}{own:List Nat}{ts:List I}(H:St w rb f0 lo d st wd own ts)(hn:d.n<=1000000)(Z:d.ca.length<=1000000)(Q:d.an.length<=1000000):
  aj U K2 #[.pointer (some f0)] w λr j=>r=ae (.tuple #[])/\hW w own ts rb f0 lo (j2 d) st wd (λ_=>True) j:=by
 refine NR.ok _ w _ ((Gj H hn Z).mono ?_);rintro _ w1 ⟨rfl,ag,af,⟨sl,y,f,p,rfl,e,z,C,rfl,L,N,O,P,K⟩,G,o1,E,t1,_⟩;refine⟨rfl,?_⟩;have B:=St.t' L N O P K;have S:(f.aQ 3).2.length<=1000000:=by
  have q:f.x.an.length=f.an.2.length:=by show(I.aq f.an.2).length=_;rw[I.fi];simp
  have F:f.x.an=d.an:=by rw[e];rfl
  show f.an.2.length<=_;rw[<-q,F];exact Q
 refine shift (R:=λr j=>r=ae (.tuple #[])/\hW w own ts rb (p.add (y.length *10)) (y.map FM.x) (j2 d) st wd (λ_=>True) j) B C 3 3 4 (by omega) rfl (by omega) S (λt h=>z f (by simp) t h) λs' j D=>⟨rfl,hW.then G o1 E t1 ?_⟩;have:=St.of (ts:=af) (A:=λ_=>True) (f0:=p.add (y.length *10)) D 0 rfl (OK z (by omega) (by omega) (by omega) (by omega)) C rfl (Er (w0:=w) (M:=F0) (λb Y=>.inl Y) (Oe B (by omega) (by omega)) λt h=>z f (by simp) t (nE f 4 h)) (λt h=>bz _ h) trivial;have q:((f.put 3 (s',(f.aQ 3).2++[fL 3 (f.aQ 4).1 (f.aQ 4).2])).put 4 (⟨none,0,0⟩,[])).x=j2 d:=by
  have hk:f.x.k=d.k:=by rw[e];rfl
  have W:f.x.ar=d.ar:=by rw[e];rfl
  have T:f.x.al=d.al:=by rw[e];rfl
  have V:f.x.an=d.an:=by rw[e];rfl
  have aa:f.x.ca=(i6 d).ca:=by rw[e]
  have ad:f.x.n=0:=by rw[e];rfl
  have ab:f.x.la=d.la:=by rw[e];rfl
  unfold j2;rw[<-hk,<-W,<-T,<-V,<-aa,<-ab];show FX.mk f.k (f.ar.1,I.aq f.ar.2) (I.aq f.al.2) (I.aq (f.an.2++[fL 3 f.ca.1 f.ca.2])) (I.aq []) f.n f.la.rx=_;have ac:f.n=0:=ad;rw[ac,jK];simp[I.aq,Ds,FM.x]
 rw[q]at this;exact this
def Gi{w:J}{rb:Nat}{f0:Addr}{lo:List FX}{d:FX}{st wd:Int}{own:List Nat}{ts:List I}(H:St w rb f0 lo d st wd own ts)(hn:d.n<=1000000)(Z:d.ca.length<=1000000)(Q:d.an.length<=1000000)(hl:d.al.length<=1000000):
  aj U K0 #[.pointer (some f0)] w λr j=>r=ae (.tuple #[])/\hW w own ts rb f0 lo (j1 d) st wd (λ_=>True) j:=by
 refine NP.ok _ w _ ((Gk H hn Z Q).mono ?_);rintro _ w1 ⟨rfl,ah,ag,⟨sl,y,f,p,rfl,e,z,C,rfl,L,N,O,P,K⟩,G,o1,E,t1,_⟩;refine⟨rfl,?_⟩;have B:=St.t' L N O P K;have S:(f.aQ 2).2.length<=1000000:=by
  have q:f.x.al.length=f.al.2.length:=by show(I.aq f.al.2).length=_;rw[I.fi];simp
  have F:f.x.al=d.al:=by rw[e];rfl
  show f.al.2.length<=_;rw[<-q,F];exact hl
 refine shift (R:=λr j=>r=ae (.tuple #[])/\hW w own ts rb (p.add (y.length *10)) (y.map FM.x) (j1 d) st wd (λ_=>True) j) B C 5 2 3 (by omega) rfl (by omega) S (λt h=>z f (by simp) t h) λs' j D=>⟨rfl,hW.then G o1 E t1 ?_⟩;have:=St.of (ts:=ag) (A:=λ_=>True) (f0:=p.add (y.length *10)) D 0 rfl (OK z (by omega) (by omega) (by omega) (by omega)) C rfl (Er (w0:=w) (M:=F0) (λb Y=>.inl Y) (Oe B (by omega) (by omega)) λt h=>z f (by simp) t (nE f 3 h)) (λt h=>bz _ h) trivial;have q:((f.put 2 (s',(f.aQ 2).2++[fL 5 (f.aQ 3).1 (f.aQ 3).2])).put 3 (⟨none,0,0⟩,[])).x=j1 d:=by
  have hk:f.x.k=d.k:=by rw[e];rfl
  have W:f.x.ar=d.ar:=by rw[e];rfl
  have T:f.x.al=d.al:=by rw[e];rfl
  have V:f.x.an=(j2 d).an:=by rw[e]
  have ab:f.x.ca=[]:=by rw[e];rfl
  have af:f.x.n=0:=by rw[e];rfl
  have ac:f.x.la=d.la:=by rw[e];rfl
  unfold j1;rw[<-hk,<-W,<-T,<-V,<-ac];show FX.mk f.k (f.ar.1,I.aq f.ar.2) (I.aq (f.al.2++[fL 5 f.an.1 f.an.2])) (I.aq []) (I.aq f.ca.2) f.n f.la.rx=_;have ad:f.n=0:=af;have aa:I.aq f.ca.2=[]:=ab;rw[ad,aa,jK];simp[I.aq,Ds,FM.x]
 rw[q]at this;exact this
abbrev SF(M:Nat->Prop)(w0 w:J)(rb:Nat)(sl:Sl)(st wd:Int)(d:List FM)(f:FM)(G:List En)(ts:List I):Prop:=O M w0 w (SL rb sl st wd ((d++[f]).flatMap FM.c) ((d++[f]).flatMap FM.rows)++G) [.trees ts]
section
variable {M:Nat->Prop} {w0 w:J} {bs:List Nat} {G:List En} {rb:Nat} {sl:Sl} {st wd:Int} {fs:List FM} {f:FM} {ts:List I} {p:Addr}
def Yq(H:SF M w0 w rb sl st wd fs f G ts)(j:∀g∈fs++[f],∀t∈g.ts,t∈ts)(z:sl.a=some p):
  St w rb (p.add (fs.length *10)) (fs.map FM.x) f.x st wd ((SL rb sl st wd ((fs++[f]).flatMap FM.c) ((fs++[f]).flatMap FM.rows)).flatMap (·.fp)) ts:=by have h:=H.nd;rw[cC,dL]at h;refine⟨sl,fs,f,p,rfl,rfl,j,z,rfl,rfl,h.1,λd e=>H.own d (bz _ e),H.getD 0,λb k y=>?_⟩;obtain⟨d,e,q⟩:=bB.1 y;exact H.dj (.trees ts) (by simp) b (a4.2 k) d (bz _ e) q
def Yp(H:SF M w0 w rb sl st wd fs f G ts){V:J}{S:Addr}{aa:List FX}{ac:FX}{ab ad:Int}{P:List Nat}{B:List I}(s:St V rb S aa ac ab ad P B)(T:Fr (·∈(SL rb sl st wd ((fs++[f]).flatMap FM.c) ((fs++[f]).flatMap FM.rows)).flatMap (·.fp)) w V)(o:∀q∈P,q∈(SL rb sl st wd ((fs++[f]).flatMap FM.c) ((fs++[f]).flatMap FM.rows)).flatMap (·.fp)\/w.heap.size<=q)(j:∀b∈I.a8 B,b∈I.a8 ts\/b∈(SL rb sl st wd ((fs++[f]).flatMap FM.c) ((fs++[f]).flatMap FM.rows)).flatMap (·.fp)\/w.heap.size<=b):
  ∃(K:Sl) (z:List FM) (C:FM) (F:Addr),z.map FM.x=aa/\C.x=ac/\(∀g∈z++[C],∀t∈g.ts,t∈B)/\K.a=some F/\S=F.add (z.length *10)/\(∀b∈I.a8 B,b∈I.a8 ts\/w0.heap.size<=b\/M b)/\SF M w0 V rb K ab ad z C G B:=by
 obtain⟨K,z,C,F,h1,h2,h3,h4,h5,E,h7,h8,h9,ae⟩:=s;have O:=H.nd;rw[cC,dL]at O;have Q:∀b∈(SL rb sl st wd ((fs++[f]).flatMap FM.c) ((fs++[f]).flatMap FM.rows)).flatMap (·.fp),w0.heap.size<=b\/M b:=λb j=>by obtain⟨e,d,k⟩:=bB.1 j;exact H.new e (bz _ d) b k
 have W:∀e∈G,∀b∈e.fp,b<w.heap.size:=λe d b j=>e.lt w (H.own e (b0 _ d)) b j;have L:∀e∈G,∀b∈e.fp,b∉(SL rb sl st wd ((fs++[f]).flatMap FM.c) ((fs++[f]).flatMap FM.rows)).flatMap (·.fp):=λe d b j N=>O.2.2 b N b (bB.2 ⟨e,d,j⟩) rfl;have Z:=H.fr.size;have ag:∀b∈P,w0.heap.size<=b\/M b:=λb j=>(o b j).elim (Q b) λh=>.inl (bp Z h);refine⟨K,z,C,F,h1,h2,h3,h4,h5,λb A=>?_,H.fr.trans T λq hx N=>(Q q N).resolve_left (by omega),λe d=>?_,λe d=>?_,λe d b A=>?_,?_,λe d b A D y k=>?_⟩
 .rcases j b A with h|h|h
  .exact .inl h
  .exact .inr (Q b h)
  .exact .inr (.inl (bp Z h))
 .rcases aL.1 d with d|d
  .exact h8 e d
  .exact e.st w V (λb j hl=>T.ck b hl (L e d b j)) (H.own e (b0 _ d))
 .simp at d;subst d;exact h9
 .rcases aL.1 d with d|d
  .exact ag b (by rw[E];exact bB.2 ⟨e,d,A⟩)
  .exact H.new e (b0 _ d) b A
 .rw [cC,dL];refine⟨E▸h7,O.2.1,λq hx ah hy af=>?_⟩;subst af;obtain⟨e,d,k⟩:=bB.1 hy;rcases o q (by rw[E];exact hx)with h|h
  .exact L e d q k h
  .have:=W e d q k;omega
 .simp at d;subst d;have Y:b∈I.a8 B:=a4.1 A;rcases aL.1 y with y|y
  .exact ae b Y (by rw[E];exact bB.2 ⟨D,y,k⟩)
  .rcases j b Y with h|h|h
   .exact H.dj (.trees ts) (by simp) b (a4.2 h) D (b0 _ y) k
   .exact L D y b k h
   .have:=W D y b k;omega
def _root_.Go.W.O.lh(H:SF M w0 w rb sl st wd fs f G ts)(D:∀g∈fs++[f],∀t∈g.ts,t∈ts)(V:sl.a=some p){g:bU}{args:Array aa}{K:aC}{Q:cA->Addr->List FX->FX->Int->Int->List I->Prop}(P:∀own,St w rb (p.add (fs.length *10)) (fs.map FM.x) f.x st wd own ts->aj U g args w (hX w own ts rb Q))(S:∀r y (k:Sl) (e:List FM) (h:FM) (j:Addr) (q z:Int) (d:List I),(∀t∈ts,t∈d)->(∀g∈e++[h],∀t∈g.ts,t∈d)->k.a=some j->(∀b∈I.a8 d,b∈I.a8 ts\/w0.heap.size<=b\/M b)->Q r (j.add (e.length *10)) (e.map FM.x) h.x q z d->SF M w0 y rb k q z e h G d->K r y)(N:∀b∈bs,En.g b∈G:=by simp):fq bs U g args w K:=by
 have B:=H.nd;rw[cC,dL]at B;refine⟨(·∈(SL rb sl st wd ((fs++[f]).flatMap FM.c) ((fs++[f]).flatMap FM.rows)).flatMap (·.fp)),λb F T=>?_,(P _ (Yq H D V)).mono ?_⟩
 .exact B.2.2 b T b (bB.2 ⟨_,N b F,by simp[En.g]⟩) rfl
 .rintro r y ⟨ab,ac,ae,q,z,ad,d,s,A,o,b,t,Z⟩;obtain⟨k,e,h,j,rfl,rfl,E,Y,rfl,L,C⟩:=Yp H s A o b;exact⟨A,S r y k e h j q z d t E Y L Z C⟩
def _root_.Go.W.O.xa(H:SF M w0 w rb sl st wd fs f G ts)(B:∀g∈fs++[f],∀t∈g.ts,t∈ts)(E:sl.a=some p){g:bU}{args:Array aa}{K:aC}{Q:cA->Addr->List FX->FX->Int->Int->List I->Prop}(C:∀own,St w rb (p.add (fs.length *10)) (fs.map FM.x) f.x st wd own ts->aj U g args w (hX w own ts rb Q))(D:∀r k (y:Sl) (e:List FM) (h:FM) (q:Addr) (z A:Int) (d:List I),(∀t∈ts,t∈d)->(∀g∈e++[h],∀t∈g.ts,t∈d)->y.a=some q->(∀b∈I.a8 d,b∈I.a8 ts\/w0.heap.size<=b\/M b)->Q r (q.add (e.length *10)) (e.map FM.x) h.x z A d->SF M w0 k rb y z A e h G d->K r k):aj U g args w K:=by obtain⟨_,_,j⟩:=H.lh (bs:=[]) B E C D (by simp);exact j.mono λr k j=>j.2
end
def BF(f:FM):f.x.ar.2.length=f.ar.2.length/\f.x.al.length=f.al.2.length/\f.x.an.length=f.an.2.length/\f.x.ca.length=f.ca.2.length:=by refine⟨?_,?_,?_,?_⟩<;>(show(I.aq _).length=_;rw[I.fi];simp)
def wS{w:J}{own:List Nat}{ts:List I}{rb:Nat}{f0:Addr}{lo:List FX}{d:FX}{st wd:Int}{g:bU}{args:Array aa}(j:aj U g args w λr e=>r=ae (.tuple #[])/\hW w own ts rb f0 lo d st wd (λ_=>True) e):
  aj U g args w (hX w own ts rb λr h x z y A _=>r=ae (.tuple #[])/\h=f0/\x=lo/\z=d/\y=st/\A=wd):=
 j.mono λr e ⟨k,q⟩=>⟨f0,lo,d,st,wd,q.mono λ_ _=>⟨k,rfl,rfl,rfl,rfl,rfl⟩⟩
structure Small(f:FX)(n:Nat):Prop where
 n':f.n<=n
 ar:f.ar.2.length<=n
 al:f.al.length<=n
 an:f.an.length<=n
 ca:f.ca.length<=n
def wW{w:J}{rb:Nat}{f0:Addr}{lo:List FX}{E:FX}{st wd:Int}{own:List Nat}{ts:List I}(A:St w rb f0 lo E st wd own ts)(D:Small E 1000000):
  aj U CN #[.pointer (some f0)] w (hX w own ts rb λr ac am ax ap aC az=>ac=f0/\am=lo/\ax=Bh E/\ap=st/\aC=wd/\∃t∈az,r=ae t.v/\t.rx=cu E):=by
 obtain⟨sl,N,f,p,rfl,rfl,h3,h4,rfl,h6,h7,h8,h9,ad⟩:=A;have Q:SF (·∈own) w w rb sl st wd N f [] ts:=by have:=St.t' h6 h7 h8 h9 ad;show O _ _ _ (_++[]) _;rw[cP];exact this
 refine NQ.au _ w _ (Q.ay (bs:=[]) (λy w1 S=>?_) (by simp));refine(show SF (·∈own) w w1 rb sl st wd N f [.g y] ts from S).lh (bs:=[y]) h3 h4 (λaE s1=>wS (Gi s1 D.n' D.ca D.an D.al)) ?_ (by simp);rintro _ L ao e d p2 aw aD aA t2 C G aa ⟨rfl,ag,ah,q,rfl,rfl⟩ B;rw[<-ag,<-ah];have K:((e++[d]).flatMap FM.rows)[e.length *4+(2 - 1)]? =some ((d.aQ 2).1,(d.aQ 2).2.flatMap I.c):=pd e d 1 _ (rN d (j:=2) (by omega) (by omega));have ak:br 4 L d.al.1 (d.al.2.flatMap I.c):=by have hP:(En.rows ((e++[d]).flatMap FM.rows)).P L:=B.get 2;exact(hP.1 _ (aB K)).a7
 refine⟨rfl,d.al.1,B.gy 1 rfl G 2,B.av (AM 4 _ _ L ak) ?_⟩;rintro _ w3 rfl V;refine⟨_,_,_,_,rfl,V.ay (bs:=[y]) (λF w4 W=>W.af (bs:=[y,F]) (λw5 Y=>?_) (by simp)) (by simp)⟩;refine Y.ij (bs:=[y,F]) (f:=d) 1 (d.put 2 (⟨none,0,0⟩,[])) 2 rfl G (by omega) rfl (λw6 Z=>Z.af (bs:=[y,F]) (λw7 H7=>?_) (by simp)) (by simp);have H8:=H7.BG 2 (e.length *4+(2 - 1)) rfl K;have H9:=H8.Md 0 4 (s:=d.al.1) (ks:=d.al.2) rfl (by simp[FM.aQ]) λt h=>C d (by simp) t (nE d 2 h);have er:=r8 e d (⟨none,0,0⟩,[]) (j:=2) (by omega) (by omega);have e':(([]:List I).flatMap I.c)=[]:=rfl;rw[e']at er;simp only at er;have T:O (·∈own) w w7 (SL rb ao aw aD ((e++[d.put 2 (⟨none,0,0⟩,[])]).flatMap FM.c) ((e++[d.put 2 (⟨none,0,0⟩,[])]).flatMap FM.rows)) [.trees (aA++[fL 4 d.al.1 d.al.2])]:=by rw[<-er];exact H9.take 3
 have ai:∀b∈aN d.al.1,b∈own\/w.heap.size<=b:=λb H=>(B.new (.rows ((e++[d]).flatMap FM.rows)) (by simp) b (a4.2 (bB.2 ⟨_,aB K,H⟩))).symm;have ex:(d.put 2 (⟨none,0,0⟩,[])).x=Bh f.x:=by
  have e1:d.k=f.k:=by have:=congrArg FX.k q;exact this
  have e2:(d.ar.1,I.aq d.ar.2)=f.x.ar:=by have:=congrArg FX.ar q;exact this
  have e3:I.aq d.an.2=[]:=by have:=congrArg FX.an q;exact this
  have e4:I.aq d.ca.2=[]:=by have:=congrArg FX.ca q;exact this
  have e5:d.n=0:=by have:=congrArg FX.n q;exact this
  have e6:d.la.rx=f.x.la:=by have:=congrArg FX.la q;exact this
  show FX.mk d.k (d.ar.1,I.aq d.ar.2) (I.aq []) (I.aq d.an.2) (I.aq d.ca.2) d.n d.la.rx=_;rw[e1,e2,e3,e4,e5,e6];rfl
 refine⟨_,_,_,_,_,St.of (ts:=ts) (f0:=p2.add (e.length *10)) T 0 rfl (λg z t h=>?_) G rfl (Er (w0:=w) (M:=F0) (λb H=>(aa b H).imp id Or.symm) ai λt h=>C d (by simp) t (nE d 2 h)) (λt h=>bz _ (t2 t h)) ⟨rfl,rfl,ex,rfl,rfl,fL 4 d.al.1 d.al.2,by simp,rfl,?_⟩⟩
 .rcases aL.1 z with z|z
  .exact bz _ (C g (by simp[z]) t h)
  .simp at z;subst z;rcases yK _ _ (by omega) (by omega) h with A|A
   .exact bz _ (C d (by simp) t A)
   .cases A
 .rw [Ds];have:=congrArg FX.al q;have ab:I.aq d.al.2=(j1 f.x).al:=this;rw[ab];rfl
def n0{p:Addr}{K:Addr->Prop}(d:K p):dJ (some p) K:=d
def To:fS U ZN hQ (.agg #[.int .i64 0,.slice none 0 0,.slice none 0 0,.slice none 0 0,.slice none 0 0,.int .i64 0,.int .i64 0,.int .u8 0,.int .u8 0,.slice none 0 0]) 10 152:=⟨by kernel_rfl,by kernel_rfl,rfl,by decide,by decide⟩
section
variable {M:Nat->Prop} {w0 w:J} {L D:List En} {bs:List Nat} {G:List En} {rb:Nat} {sl:Sl} {st wd:Int} {fs:List FM} {f:FM} {ts:List I} {p:Addr}
def _root_.Go.W.O.tl(H:O M w0 w L D)(i j:Nat){b:Nat}{vs:List aa}{T:TypeId}{v:aa}{K:J->Prop}(hi:L[i]? =some (.c b vs T))(y:∀k,O M w0 k (L.set i (.c b (vs.set j v) T)) D->K k)(B:j<vs.length)(h:∀b∈bs,En.g b∈L:=by simp):aJ w ((ad b).add j) v λq=>kept bs w q/\K q:=by
 obtain⟨E,F,G⟩:=H.set (v:=v) i j hi B;refine⟨E,F,λd e=>?_,y _ G⟩;have C:d≠b:=by rintro rfl;refine xv H hi (λn z=>?_) (h _ e) (by simp[En.ob]);have x:({w with heap:=Array.replicate (n+1) (.map #[] 0)}:J).heap[d]? =some (.cells vs.toArray T (0,0)):=z;simp[Array.getElem?_replicate]at x
 have A:Fr (·=b) w (w.setCell ((ad b).add j) v):=Fr.set _ _ _ (by rw[jv])
 exact A.ck d (H.own _ (h _ e)) C
def y'(H:SF M w0 w rb sl st wd fs f G ts):sl.n=fs.length+1:=by have d:aK w hQ 10 sl ((fs++[f]).flatMap FM.c):=H.get 1;have:=d.len;rw[oQ]at this;simp at this;omega
def wZ(H:SF M w0 w rb sl st wd fs f G ts)(h:sl.a=some p)(q:fs.length<=1000000):aj U yh #[.pointer (some (ad rb))] w λr j=>r=ae (.pointer (some (p.add (fs.length *10))))/\ah w j:=by
 have k:=y' H;have e:aG .i64 (((sl.n:Nat):Int) - 1)=(fs.length:Int):=by rw[bm _ (by omega)];omega
 have d:SF M w0 w.drew rb sl st wd fs f G ts:=H.drew;refine D2.ok _ w _ (show _ from⟨sl,d.ld 0 0,sl,d.ld 0 0,?_⟩);rw[e,h];exact⟨by omega,by omega,rfl,Fr.drew _ _⟩
def Ej(H:SF M w0 w rb sl st wd fs f G ts)(k:Int)(lo hi:UInt8):SF M w0 w rb sl st wd fs f G (ts++[.mk k lo hi ⟨none,0,0⟩ []]):=by
 have h:=H.ek (.trees (ts++[.mk k lo hi ⟨none,0,0⟩ []])) (Fr.refl _ _) (I.iP λt d=>?_) λb j=>.inr (.inr ⟨.trees ts,by simp,?_⟩)
 .exact h.forget _ (by simp)
 .rcases aL.1 d with d|d
  .exact I.Ps.mem (H.getD 0) d
  .simp at d;subst d;show I.P w _;unfold I.P I.Ps;exact⟨br.nil 4 w,trivial⟩
 .obtain ⟨t,d,e⟩:=I.bK.1 (a4.1 j);rcases aL.1 d with d|d
  .exact a4.2 (I.bK.2 ⟨t,d,e⟩)
  .simp at d;rw[d]at e;unfold I.fp I.a8 at e;simp[En.a7]at e
def xI{k:Int}{lo hi:UInt8}{b:Nat}(h:b∈I.a8 (ts++[.mk k lo hi ⟨none,0,0⟩ []])):b∈I.a8 ts:=by
 obtain⟨t,d,e⟩:=I.bK.1 h;rcases aL.1 d with d|d
 .exact I.bK.2 ⟨t,d,e⟩
 .simp at d;rw[d]at e;unfold I.fp I.a8 at e;simp[En.a7]at e
def X5(H:O M w0 w L D)(i:Nat){h:List dG}(hi:L[i]? =some (.rows h))(n:Nat):O M w0 w (L.set i (.rows (h++List.replicate n (⟨none,0,0⟩,[])))) D:=by
 have k:(En.rows h).P w:=H.get i hi;have j:(h++List.replicate n ((⟨none,0,0⟩,[]):dG)).flatMap (λd:dG=>aN d.1)=h.flatMap λd:dG=>aN d.1:=by
  rw[cC];have:(List.replicate n ((⟨none,0,0⟩,[]):dG)).flatMap (λd:dG=>aN d.1)=[]:=by
   induction n with
   |zero=>rfl
   |succ n x=>rw[List.replicate_succ,df,x];rfl
  rw[this,cP]
 refine H.fC i _ hi (Fr.refl _ _) ⟨λd e=>?_,by rw[j];exact k.2⟩ λb q=>.inl (a4.2 (by have:=a4.1 q;rw[j]at this;exact this));rcases aL.1 e with e|e
 .exact k.1 d e
 .rw [List.eq_of_mem_replicate e];exact aK.nil _ _ _
end
def kL(k:Int):FX:=⟨k,(⟨none,0,0⟩,[]),[],[],[],0,fh⟩
def iN(k:Int):FM:=⟨k,(⟨none,0,0⟩,[]),(⟨none,0,0⟩,[]),(⟨none,0,0⟩,[]),(⟨none,0,0⟩,[]),0,.mk 0 0 0 ⟨none,0,0⟩ []⟩
def yw{w:J}{rb:Nat}{f0:Addr}{lo:List FX}{e:FX}{st wd:Int}{own:List Nat}{ts:List I}(h:St w rb f0 lo e st wd own ts):∃(sl:Sl) (d:List FM) (f:FM) (p:Addr),d.map FM.x=lo/\f.x=e/\(∀g∈d++[f],∀t∈g.ts,t∈ts)/\sl.a=some p/\f0=p.add (d.length *10)/\SF (·∈own) w w rb sl st wd d f [] ts:=by obtain⟨sl,d,f,p,j,q,y,z,A,B,C,D,E,k⟩:=h;refine⟨sl,d,f,p,j,q,y,z,A,?_⟩;have:=St.t' B C D E k;show O _ _ _ (_++[]) _;rw[cP];exact this
def Gv{w:J}{rb:Nat}{f0:Addr}{lo:List FX}{z:FX}{st wd:Int}{own:List Nat}{ts:List I}(L:St w rb f0 lo z st wd own ts)(P:lo.length<=1000000)(kind state:Int):
  aj U K6 #[.pointer (some (ad rb)),.int .i64 kind,.int .i64 state] w (hX w own ts rb λr _ V Y W aa _=>r=ae (.bool true)/\V=lo++[z]/\Y=kL kind/\W=state/\aa=wd):=by
 obtain⟨sl,d,f,p,rfl,rfl,M,h4,rfl,x⟩:=yw L;have hn:=y' x;have ab:d.length<=1000000:=by simpa using P
 refine NY.ok _ _ _ w _ ⟨sl,x.ld 0 0,x.eK (e:=hQ) (sz:=10) (n:=1) (cs:=(iN kind).c) rfl (by decide) λw1 y=>?_⟩;refine y.FF 1 To (src:=⟨some (ad w.heap.size),1,1⟩) (news:=(iN kind).c) rfl (aK.a7 (y.get 3)).2.2 rfl (by simp[FM.c,iN,Value.oneCell']) (by show(sl.n+1) *152<=_;omega) λk Z B ac Q _=>?_;obtain⟨j,S⟩:∃j,k.a=some j:=by
  cases T:k.a with
  |none=>have:=(Q T).2;simp at this
  |some j=>exact⟨j,rfl⟩
 have C:O (·∈own) w Z [.c rb [sl.v,.int .i64 st,.int .i64 wd] wh,.row hQ 10 k ((d++[f]).flatMap FM.c++(iN kind).c),.rows ((d++[f]).flatMap FM.rows)] [.trees ts]:=B.take 3;refine C.st 0 0 rfl (λw3 D=>D.st 0 1 rfl (λA E=>?_));have F:=X5 E 2 rfl 4;have G:SF (·∈own) w A rb k state wd (d++[f]) (iN kind) [] ts:=by show O _ _ _ (SL rb k state wd ((d++[f]++[iN kind]).flatMap FM.c) ((d++[f]++[iN kind]).flatMap FM.rows)++[]) _;rw[cP,cC (xs:=d++[f]),cC (xs:=d++[f])];simpa[show(iN kind).rows=[(⟨none,0,0⟩,[]),(⟨none,0,0⟩,[]),(⟨none,0,0⟩,[]),(⟨none,0,0⟩,[])]from rfl]using F
 have H:=Ej G 0 0 0;have K:O (·∈own) w A (SL rb k state wd ((d++[f]++[iN kind]).flatMap FM.c) ((d++[f]++[iN kind]).flatMap FM.rows)) [.trees (ts++[.mk 0 0 0 ⟨none,0,0⟩ []])]:=H.take 3;refine⟨_,_,_,_,_,St.of (ts:=ts) (p:=j) (f0:=j.add ((d++[f]).length *10)) K 0 rfl (λg h t q=>?_) S rfl (λb N=>.inl (xI N)) (λt q=>bz _ q) ⟨rfl,?_,rfl,rfl,rfl⟩⟩
 .rcases aL.1 h with h|h
  .exact bz _ (M g h t q)
  .simp at h;subst h;simp[FM.ts,iN]at q;simp[q]
 .simp
def iC(d:FX)(x:Rx):FX:=⟨d.k,d.ar,d.al,d.an,d.ca,d.n,x⟩
def AH{w:J}{rb:Nat}{f0:Addr}{lo:List FX}{A:FX}{st wd:Int}{own:List Nat}{ts:List I}(T:St w rb f0 lo A st wd own ts)(W:lo.length<=1000000)(t:I)(y:t∈ts):
  aj U CP #[.pointer (some (ad rb)),t.v] w (hX w own ts rb λr S Z ab aa ac _=>r=ae (.bool true)/\S=f0/\Z=lo/\ab=iC A t.rx/\aa=3/\ac=wd):=by
 obtain⟨sl,d,f,p,rfl,rfl,x,j,rfl,B⟩:=yw T;have Y:d.length<=1000000:=by simpa using W
 refine NW.au _ _ _ _ _ w _ (B.ay (bs:=[]) (λh w1 C=>C.af (bs:=[h]) (λw2 D=>?_) (by simp)) (by simp));have z:SF (·∈own) w w2 rb sl st wd d f [.g h] ts:=D;refine z.av (wZ z j Y) ?_;rintro _ w3 rfl E;refine⟨_,rfl,n0 ?_⟩;refine E.ij (bs:=[h]) (f:=f) 1 ⟨f.k,f.ar,f.al,f.an,f.ca,f.n,.mk t.k f.la.lo f.la.hi f.la.s f.la.l⟩ 6 rfl j (by omega) rfl (λw4 F=>?_) (by simp);have N:((p.add (d.length *10)).add 6).add 1=(p.add (d.length *10)).add 7:=add_add _ 6 1;have P:((p.add (d.length *10)).add 6).add 2=(p.add (d.length *10)).add 8:=add_add _ 6 2;have Q:((p.add (d.length *10)).add 6).add 3=(p.add (d.length *10)).add 9:=add_add _ 6 3;rw[N,P,Q];refine F.ij (bs:=[h]) (f:=⟨f.k,f.ar,f.al,f.an,f.ca,f.n,.mk t.k f.la.lo f.la.hi f.la.s f.la.l⟩) 1 ⟨f.k,f.ar,f.al,f.an,f.ca,f.n,.mk t.k t.lo f.la.hi f.la.s f.la.l⟩ 7 rfl j (by omega) rfl (λw5 G=>?_) (by simp);refine G.ij (bs:=[h]) (f:=⟨f.k,f.ar,f.al,f.an,f.ca,f.n,.mk t.k t.lo f.la.hi f.la.s f.la.l⟩) 1 ⟨f.k,f.ar,f.al,f.an,f.ca,f.n,.mk t.k t.lo t.hi f.la.s f.la.l⟩ 8 rfl j (by omega) rfl (λw6 H=>?_) (by simp);refine H.ij (bs:=[h]) (f:=⟨f.k,f.ar,f.al,f.an,f.ca,f.n,.mk t.k t.lo t.hi f.la.s f.la.l⟩) 1 ⟨f.k,f.ar,f.al,f.an,f.ca,f.n,t⟩ 9 rfl j (by omega) rfl (λw7 K=>?_) (by simp);refine K.tl (bs:=[h]) 0 1 rfl (λw8 L=>?_) (by simp) (by simp);have er:(d++[f]).flatMap FM.rows=(d++[(⟨f.k,f.ar,f.al,f.an,f.ca,f.n,t⟩:FM)]).flatMap FM.rows:=by simp[FM.rows]
 have M:O (·∈own) w w8 (SL rb sl 3 wd ((d++[(⟨f.k,f.ar,f.al,f.an,f.ca,f.n,t⟩:FM)]).flatMap FM.c) ((d++[(⟨f.k,f.ar,f.al,f.an,f.ca,f.n,t⟩:FM)]).flatMap FM.rows)) [.trees ts]:=by rw[<-er];exact L.take 3
 refine⟨_,_,_,_,_,St.of (ts:=ts) (f0:=p.add (d.length *10)) M 0 rfl (λg q u e=>?_) j rfl (λb V=>.inl V) (λt y=>y) ⟨rfl,rfl,rfl,rfl,rfl,rfl⟩⟩;rcases aL.1 q with q|q
 .exact x g (by simp[q]) u e
 .simp at q;subst q;simp only[FM.ts,aL,aE,aZ,a2]at e;rcases e with(((e|e)|e)|e)|rfl
  .exact x f (by simp) u (by simp[FM.ts,e])
  .exact x f (by simp) u (by simp[FM.ts,e])
  .exact x f (by simp) u (by simp[FM.ts,e])
  .exact x f (by simp) u (by simp[FM.ts,e])
  .exact y
structure Tk where
 k:UInt8
 lo:UInt8
 hi:UInt8
 s:List UInt8
 a:Int
abbrev Tk.v(t:Tk):aa:=.agg #[.int .u8 (t.k.toNat:Int),.int .u8 (t.lo.toNat:Int),.int .u8 (t.hi.toNat:Int),.string (ba t.s),.int .i64 t.a]
structure SX where
 lo:List FX
 tp:FX
 st:Int
 wd:Int
def zJ:List UInt8:=[110,111,110,101]
def zI:List UInt8:=[101,109,112,116,121]
def zG:List UInt8:=[97,108,116]
def zF:List UInt8:=[97,108,108]
def zH:List UInt8:=[99,97,116]
def fv(t:Tk)(s:SX):Option SX:=
 if t.k=33 then some ⟨s.lo,⟨s.tp.k,s.tp.ar,s.tp.al,s.tp.an,s.tp.ca,s.tp.n+1,s.tp.la⟩,0,s.wd⟩
 else if t.k=40 then some ⟨s.lo++[s.tp],kL (-1),0,s.wd⟩
 else if t.k=114 then some ⟨s.lo,iC s.tp (.mk 2 t.lo t.hi []),3,s.wd⟩
 else if t.k=119 then
  if t.s=zJ then some ⟨s.lo,iC s.tp (.mk 0 0 0 []),3,s.wd⟩
  else if t.s=zI then some ⟨s.lo,iC s.tp (.mk 1 0 0 []),3,s.wd⟩
  else if t.s=zG then some ⟨s.lo,s.tp,2,4⟩
  else if t.s=zF then some ⟨s.lo,s.tp,2,5⟩
  else if t.s=zH then some ⟨s.lo,s.tp,2,3⟩
  else none
 else none
def wG(o:Option SX):cA->Addr->List FX->FX->Int->Int->List I->Prop:=λr _ lo d st e _=>(o=none/\r=ae (.bool false))\/(o=some ⟨lo,d,st,e⟩/\r=ae (.bool true))
section
variable {w V:J} {own:List Nat} {G:List En} {rb:Nat} {sl:Sl} {st wd:Int} {fs:List FM} {f:FM} {ts we:List I} {p:Addr}
def g4{Q:cA->Addr->List FX->FX->Int->Int->List I->Prop}{r:cA}(H:SF (·∈own) w V rb sl st wd fs f G we)(e:∀g∈fs++[f],∀t∈g.ts,t∈we)(j:sl.a=some p)(h:∀b∈I.a8 we,b∈I.a8 ts\/w.heap.size<=b\/b∈own)(k:∀t∈ts,t∈we)(q:Q r (p.add (fs.length *10)) (fs.map FM.x) f.x st wd we):hX w own ts rb Q r V:=
 ⟨_,_,_,_,_,St.of (ts:=ts) (f0:=p.add (fs.length *10)) (H.take 3) 0 rfl e j rfl (λb d=>(h b d).imp id Or.symm) k q⟩
end
def Zx(s:List UInt8):(ba s).toList=s:=by rw[ByteArray.toList_eq];rfl
def Zy(a:Array UInt8):(ByteArray.mk a).toList=a.toList:=by rw[ByteArray.toList_eq]
def vX{s:List UInt8}{a:Array UInt8}{A B:Prop}(e:s=a.toList->A)(h:s≠a.toList->B):bq ((ba s).toList==(ByteArray.mk a).toList) A B:=by rw[Zx,Zy];exact bh (λd=>e (by simpa using d)) (λd=>h (by simpa using d))
def jk{x:UInt8}{n:Nat}{A B:Prop}(q:n<256)(h:x=dw n->A)(j:x≠dw n->B):bq (((x.toNat:Nat):Int)==(n:Int)) A B:=by
 have e:∀x:UInt8,x.toNat=n↔x=dw n:=λx=>by rw[<-UInt8.toNat_inj,UInt8.toNat_ofNat'];omega
 exact bh (λd=>h ((e x).1 (by have:=eq_of_beq d;omega))) (λd=>j λk=>by have:x.toNat=n:=(e x).2 k;rw[this]at d;simp at d)
def RY{w:J}{rb:Nat}{f0:Addr}{lo:List FX}{tp:FX}{st wd:Int}{own:List Nat}{ts:List I}(h:St w rb f0 lo tp st wd own ts)(V:lo.length<=1000000)(hn:tp.n<=1000000)(t:Tk):
  aj U CS #[.pointer (some (ad rb)),t.v] w (hX w own ts rb (wG (fv t ⟨lo,tp,st,wd⟩))):=by
 obtain⟨sl,d,f,p,rfl,rfl,B,q,rfl,ai⟩:=yw h;have ao:d.length<=1000000:=by simpa using V
 have aD:f.n<=1000000:=hn;have base:∀b∈I.a8 ts,b∈I.a8 ts\/w.heap.size<=b\/b∈own:=λb hb=>.inl hb;refine D1.au _ _ _ _ _ _ w _ (ai.ay (bs:=[]) (λe w1 y=>?_) (by simp));have y:SF (·∈own) w w1 rb sl st wd d f [.g e] ts:=y;have leaf:∀(k:Int) (a b:UInt8) {A:J} {af aa:Int},SF (·∈own) w A rb sl af aa d f [.g e] ts->fv t ⟨d.map FM.x,f.x,st,wd⟩=some ⟨d.map FM.x,iC f.x (.mk k a b []),3,aa⟩->
   fq [e] U CP #[.pointer (some (ad rb)),.agg #[.i k,.int .u8 (a.toNat:Int),.int .u8 (b.toNat:Int),.slice none 0 0]] A λr_ w6=>∃t32:Bool,r_=ae (.bool t32)/\hX w own ts rb (wG (fv t ⟨d.map FM.x,f.x,st,wd⟩)) (ae (.bool t32)) w6:=by
  intro k a b A af aa j Q;have E:=Ej j k a b;refine E.lh (bs:=[e]) (λg z u D=>bz _ (B g z u D)) q (λaq Z=>AH Z V (.mk k a b ⟨none,0,0⟩ []) (by simp)) ?_ (by simp);rintro _ L aw am f3 p3 ax aA az t3 N P M ⟨rfl,aC,S,T,rfl,rfl⟩ F;refine⟨true,rfl,g4 F N P (λaB hx=>?_) (λu D=>t3 u (bz _ D)) (.inr ⟨?_,rfl⟩)⟩
  .rcases M aB hx with h|h
   .exact .inl (xI h)
   .exact .inr h
  .rw [Q,S,T];rfl
 refine jk (n:=33) (by omega) (λhk:t.k=33=>y.av (wZ y q ao) ?_) (λH:t.k≠33=>jk (n:=40) (by omega) (λhk:t.k=40=>?_) (λW:t.k≠40=>jk (n:=114) (by omega) (λhk:t.k=114=>?_) (λac:t.k≠114=>jk (n:=119) (by omega) (λhk:t.k=119=>?_) (λap:t.k≠119=>?_))))
 .rintro _ A rfl j;refine⟨_,rfl,n0 ⟨_,j.gy 1 rfl q 5,n0 ?_⟩⟩;have ak:aG .i64 ((f.n:Int)+1)=((f.n+1:Nat):Int):=by rw[bm _ (by omega)];omega
  rw[ak];refine j.ij (bs:=[e]) (f:=f) 1 ⟨f.k,f.ar,f.al,f.an,f.ca,f.n+1,f.la⟩ 5 rfl q (by omega) rfl (λL E=>?_) (by simp);refine E.tl (bs:=[e]) 0 1 rfl (λw4 F=>?_) (by simp) (by simp);have er:(d++[f]).flatMap FM.rows=(d++[(⟨f.k,f.ar,f.al,f.an,f.ca,f.n+1,f.la⟩:FM)]).flatMap FM.rows:=by simp[FM.rows]
  have H5:SF (·∈own) w w4 rb sl 0 wd d ⟨f.k,f.ar,f.al,f.an,f.ca,f.n+1,f.la⟩ [.g e] ts:=by show O _ _ _ (SL rb sl 0 wd _ ((d++[(⟨f.k,f.ar,f.al,f.an,f.ca,f.n+1,f.la⟩:FM)]).flatMap FM.rows)++_) _;rw[<-er];exact F
  refine g4 H5 (λg z u D=>?_) q base (λ_ h=>h) (.inr ⟨?_,rfl⟩)
  .rcases aL.1 z with z|z
   .exact B g (by simp[z]) u D
   .simp at z;subst z;exact B f (by simp) u D
  .unfold fv;rw[ag hk];rfl
 .refine y.lh (bs:=[e]) B q (λaq Z=>Gv Z V (-1) 0) ?_ (by simp);rintro _ L aw am f3 p3 ax aA az t3 N P M ⟨rfl,S,T,rfl,rfl⟩ F;refine⟨true,rfl,g4 F N P M t3 (.inr ⟨?_,rfl⟩)⟩;unfold fv;rw[ab H,ag hk,S,T]
 .exact leaf 2 t.lo t.hi y (by unfold fv;rw[ab H,ab W,ag hk])
 .refine y.tl (bs:=[e]) 0 1 rfl (λA j=>?_) (by simp) (by simp);have j:SF (·∈own) w A rb sl 2 wd d f [.g e] ts:=j;have C:fv t ⟨d.map FM.x,f.x,st,wd⟩=if t.s=zJ then some ⟨d.map FM.x,iC f.x (.mk 0 0 0 []),3,wd⟩else if t.s=zI then some ⟨d.map FM.x,iC f.x (.mk 1 0 0 []),3,wd⟩else if t.s=zG then some ⟨d.map FM.x,f.x,2,4⟩else if t.s=zF then some ⟨d.map FM.x,f.x,2,5⟩else if t.s=zH then some ⟨d.map FM.x,f.x,2,3⟩else none:=by unfold fv;rw[ab H,ab W,ab ac,ag hk]
  have word:∀(k:Int),fv t ⟨d.map FM.x,f.x,st,wd⟩=some ⟨d.map FM.x,f.x,2,k⟩->aJ A ((ad rb).add 2) (.i k) λah=>kept [e] A ah/\D1.aX ah (hX w own ts rb (wG (fv t ⟨d.map FM.x,f.x,st,wd⟩))):=λk Q=>
   j.tl (bs:=[e]) 0 2 rfl (λL E=>g4 (show SF (·∈own) w L rb sl 2 k d f [.g e] ts from E) B q base (λ_ h=>h) (.inr ⟨Q,rfl⟩)) (by simp) (by simp)
  refine vX (λh1:t.s=zJ=>leaf 0 0 0 j (by rw[C,ag h1])) (λG:t.s≠zJ=>vX (λh1:t.s=zI=>leaf 1 0 0 j (by rw[C,ab G,ag h1])) (λK:t.s≠zI=>vX (λh1:t.s=zG=>word 4 (by rw[C,ab G,ab K,ag h1])) (λY:t.s≠zG=>vX (λh1:t.s=zF=>word 5 (by rw[C,ab G,ab K,ab Y,ag h1])) (λn4:t.s≠zF=>vX (λh1:t.s=zH=>word 3 (by rw[C,ab G,ab K,ab Y,ab n4,ag h1])) (λn5:t.s≠zH=>?_)))));exact g4 j B q base (λ_ h=>h) (.inl ⟨by rw[C,ab G,ab K,ab Y,ab n4,ab n5],rfl⟩)
 .exact g4 y B q base (λ_ h=>h) (.inl ⟨by unfold fv;rw[ab H,ab W,ab ac,ab ap],rfl⟩)
def W4{w:J}{e:TypeId}{sz:Nat}{s:Sl}{xs:List aa}{p:Addr}(d:aK w e sz s xs)(A:s.a=some p)(n:Nat)(h:n<=s.n):aK w e sz ⟨s.a,n,s.c⟩ (xs.take (n *sz)):=by
 have B:=d.len;rcases d.cases with⟨rfl,_⟩|⟨g,cur,y,z,j,k,q,x⟩
 .cases A
 .have C:n *sz<=s.n *sz:=Nat.mul_le_mul_right _ h;refine⟨by rw[List.length_take];show _=n *sz;omega,.inr ⟨g,s.c,cur,by rw[y],dc _,z,bp h j,k,q,?_⟩⟩;rw[<-x,List.take_take];congr 1;show n *sz=_;omega
section
variable {M:Nat->Prop} {w0 w:J} {L D A:List En} {bs:List Nat} {G:List En} {rb:Nat} {ts:List I}
def Og(H:O M w0 w L D)(i:Nat){d j:List dG}(hi:L[i]? =some (.rows (d++j))):O M w0 w (L.set i (.rows d)) D:=by have e:(En.rows (d++j)).P w:=H.get i hi;have h:=e.2;rw[cC,dL]at h;refine H.fC i _ hi (Fr.refl _ _) ⟨λx q=>e.1 x (bz _ q),h.1⟩ λb k=>.inl (a4.2 ?_);rw[cC];exact bz _ (a4.1 k)
def Vw(H:O M w0 w (A++G) [.trees ts]):O (·∈A.flatMap (·.fp)) w w A [.trees ts]:=by have j:=H.nd;rw[cC,dL]at j;refine O.og _ _ (λe d=>⟨H.own e (bz _ d),λb h=>bB.2 ⟨e,d,h⟩⟩) j.1 λe d=>?_;simp only[aE,aZ,a2]at d;subst d;exact⟨H.getD 0,λb h k x q=>H.dj (.trees ts) (by simp) b h k (bz _ x) q⟩
def Vt(H:O M w0 w (A++G) [.trees ts]){V:J}{W:Addr}{ac:List FX}{ae:FX}{ad af:Int}{S:List Nat}{C:List I}(s:St V rb W ac ae ad af S C)(Y:Fr (·∈A.flatMap (·.fp)) w V)(o:∀q∈S,q∈A.flatMap (·.fp)\/w.heap.size<=q)(j:∀b∈I.a8 C,b∈I.a8 ts\/b∈A.flatMap (·.fp)\/w.heap.size<=b):
  ∃(L:Sl) (z:List FM) (D:FM) (K:Addr),z.map FM.x=ac/\D.x=ae/\(∀g∈z++[D],∀t∈g.ts,t∈C)/\L.a=some K/\W=K.add (z.length *10)/\(∀b∈I.a8 C,b∈I.a8 ts\/w0.heap.size<=b\/M b)/\SF M w0 V rb L ad af z D G C:=by
 obtain⟨L,z,D,K,h1,h2,h3,h4,h5,F,h7,h8,h9,ag⟩:=s;have Q:=H.nd;rw[cC,dL]at Q;have T:∀b∈A.flatMap (·.fp),w0.heap.size<=b\/M b:=λb j=>by obtain⟨e,d,k⟩:=bB.1 j;exact H.new e (bz _ d) b k
 have Z:∀e∈G,∀b∈e.fp,b<w.heap.size:=λe d b j=>e.lt w (H.own e (b0 _ d)) b j;have N:∀e∈G,∀b∈e.fp,b∉A.flatMap (·.fp):=λe d b j P=>Q.2.2 b P b (bB.2 ⟨e,d,j⟩) rfl;have ab:=H.fr.size;have ai:∀b∈S,w0.heap.size<=b\/M b:=λb j=>(o b j).elim (T b) λh=>.inl (bp ab h);refine⟨L,z,D,K,h1,h2,h3,h4,h5,λb B=>?_,H.fr.trans Y λq hx P=>(T q P).resolve_left (by omega),λe d=>?_,λe d=>?_,λe d b B=>?_,?_,λe d b B E y k=>?_⟩
 .rcases j b B with h|h|h
  .exact .inl h
  .exact .inr (T b h)
  .exact .inr (.inl (bp ab h))
 .rcases aL.1 d with d|d
  .exact h8 e d
  .exact e.st w V (λb j hl=>Y.ck b hl (N e d b j)) (H.own e (b0 _ d))
 .simp at d;subst d;exact h9
 .rcases aL.1 d with d|d
  .exact ai b (by rw[F];exact bB.2 ⟨e,d,B⟩)
  .exact H.new e (b0 _ d) b B
 .rw [cC,dL];refine⟨F▸h7,Q.2.1,λq hx aj hy ah=>?_⟩;subst ah;obtain⟨e,d,k⟩:=bB.1 hy;rcases o q (by rw[F];exact hx)with h|h
  .exact N e d q k h
  .have:=Z e d q k;omega
 .simp at d;subst d;have aa:b∈I.a8 C:=a4.1 B;rcases aL.1 y with y|y
  .exact ag b aa (by rw[F];exact bB.2 ⟨E,y,k⟩)
  .rcases j b aa with h|h|h
   .exact H.dj (.trees ts) (by simp) b (a4.2 h) E (b0 _ y) k
   .exact N E y b k h
   .have:=Z E y b k;omega
def _root_.Go.W.O.S'(H:O M w0 w (A++G) [.trees ts]){g:bU}{args:Array aa}{K:aC}{Q:cA->Addr->List FX->FX->Int->Int->List I->Prop}(P:∀own,O (·∈own) w w A [.trees ts]->aj U g args w (hX w own ts rb Q))(S:∀r y (k:Sl) (e:List FM) (h:FM) (j:Addr) (q z:Int) (d:List I),(∀t∈ts,t∈d)->(∀g∈e++[h],∀t∈g.ts,t∈d)->k.a=some j->(∀b∈I.a8 d,b∈I.a8 ts\/w0.heap.size<=b\/M b)->Q r (j.add (e.length *10)) (e.map FM.x) h.x q z d->SF M w0 y rb k q z e h G d->K r y)(N:∀b∈bs,En.g b∈G:=by simp):fq bs U g args w K:=by
 have C:=H.nd;rw[cC,dL]at C;refine⟨(·∈A.flatMap (·.fp)),λb F T=>?_,(P _ (Vw H)).mono ?_⟩
 .exact C.2.2 b T b (bB.2 ⟨_,N b F,by simp[En.g]⟩) rfl
 .rintro r y ⟨Z,ab,ad,q,z,ac,d,s,B,o,b,t,Y⟩;obtain⟨k,e,h,j,rfl,rfl,E,V,rfl,L,D⟩:=Vt H s B o b;exact⟨B,S r y k e h j q z d t E V L Y D⟩
def Vv(H:O M w0 w L [.trees ts])(T:I)(h:T∈ts)(k:Int)(lo hi:UInt8):O M w0 w L [.trees (ts++[.mk k lo hi T.s T.l])]:=by
 have j:I.Ps w ts:=H.getD 0;have q:=H.ek (.trees (ts++[.mk k lo hi T.s T.l])) (Fr.refl _ _) (I.iP λt d=>?_) λb x=>.inr (.inr ⟨.trees ts,by simp,?_⟩)
 .exact q.forget _ (by simp)
 .rcases aL.1 d with d|d
  .exact j.mem d
  .simp at d;subst d;unfold I.P;exact(j.mem h).parts
 .obtain ⟨t,d,e⟩:=I.bK.1 (a4.1 x);rcases aL.1 d with d|d
  .exact a4.2 (I.bK.2 ⟨t,d,e⟩)
  .simp at d;rw[d]at e;exact a4.2 (I.bK.2 ⟨T,h,I.fY.2 ((I.fY (t:=.mk k lo hi T.s T.l)).1 e)⟩)
def VA{T:I}(j:T∈ts){k:Int}{lo hi:UInt8}{b:Nat}(h:b∈I.a8 (ts++[.mk k lo hi T.s T.l])):b∈I.a8 ts:=by
 obtain⟨t,d,e⟩:=I.bK.1 h;rcases aL.1 d with d|d
 .exact I.bK.2 ⟨t,d,e⟩
 .simp at d;rw[d]at e;exact I.bK.2 ⟨T,j,I.fY.2 ((I.fY (t:=.mk k lo hi T.s T.l)).1 e)⟩
def Vu(H:O M w0 w L [.trees ts])(T:I)(e:T∈ts):O M w0 w L [.trees (ts++T.l)]:=by
 have j:I.Ps w ts:=H.getD 0;have k:=H.ek (.trees (ts++T.l)) (Fr.refl _ _) (I.iP λt d=>?_) λb q=>.inr (.inr ⟨.trees ts,by simp,?_⟩)
 .exact k.forget _ (by simp)
 .rcases aL.1 d with d|d
  .exact j.mem d
  .exact (j.mem e).parts.2.mem d
 .obtain ⟨t,d,h⟩:=I.bK.1 (a4.1 q);rcases aL.1 d with d|d
  .exact a4.2 (I.bK.2 ⟨t,d,h⟩)
  .exact a4.2 (I.bK.2 ⟨T,e,I.fY.2 (.inr (I.bK.2 ⟨t,d,h⟩))⟩)
def UU{T:I}(j:T∈ts){b:Nat}(h:b∈I.a8 (ts++T.l)):b∈I.a8 ts:=by
 obtain⟨t,d,e⟩:=I.bK.1 h;rcases aL.1 d with d|d
 .exact I.bK.2 ⟨t,d,e⟩
 .exact I.bK.2 ⟨T,j,I.fY.2 (.inr (I.bK.2 ⟨t,d,e⟩))⟩
end
def Sj{w:J}{rb:Nat}{sl:Sl}{p:Addr}{n:Nat}(h:w.cell? ((ad rb).add 0)=some sl.v)(q:sl.n=n+1)(j:sl.a=some p)(x:n<=1000000):aj U yh #[.pointer (some (ad rb))] w λr k=>r=ae (.pointer (some (p.add (n *10))))/\ah w k:=by
 have e:aG .i64 (((sl.n:Nat):Int) - 1)=(n:Int):=by rw[bm _ (by omega)];omega
 have d:w.drew.cell? ((ad rb).add 0)=some sl.v:=h;refine D2.ok _ w _ (show _ from⟨sl,d,sl,d,?_⟩);rw[e,j];exact⟨by omega,by omega,rfl,Fr.drew _ _⟩
def l2(k:Int)(l:List Rx):Rx:=if k<0 then l.headD fh else .mk k 0 0 l
def RM{w:J}{rb:Nat}{sl:Sl}{st wd:Int}{d:List FM}{g f:FM}{ts:List I}{p:Addr}{own:List Nat}(H:O (·∈own) w w [.c rb [sl.v,.int .i64 st,.int .i64 wd] wh,.row hQ 10 sl (((d++[g])++[f]).flatMap FM.c),.rows ((d++[g]).flatMap FM.rows)] [.trees ts])(h3:∀B∈d++[g],∀t∈B.ts,t∈ts)(h:sl.a=some p)(hl:d.length<=999999)(T:I)(q:T∈ts)(hk:0<=f.k\/T.l≠[]):
  aj U CQ #[.pointer (some (ad rb)),T.s.v] w (hX w own ts rb λr _ al ar ao av _=>r=ae (.bool true)/\al=d.map FM.x/\ar=iC g.x (l2 f.k (I.aq T.l))/\ao=3/\av=wd):=by
 have hn:sl.n=(d++[g]).length+1:=by have z:aK w hQ 10 sl (((d++[g])++[f]).flatMap FM.c):=H.get 1;have:=z.len;rw[oQ]at this;simp at this ⊢;omega
 have ax:1<=sl.c:=by have z:aK w hQ 10 sl (((d++[g])++[f]).flatMap FM.c):=H.get 1;have:=z.cap;omega
 refine NX.ok _ _ w _ (H.call (Sj (H.ld 0 0) hn h (by simp;omega)) ?_);rintro _ w1 rfl Z;refine⟨_,rfl,n0 ⟨_,Z.gy 1 rfl h 0,?_⟩⟩;have C:=Z.drew;refine⟨sl,C.ld 0 0,sl,C.ld 0 0,?_⟩;have ac:aG .i64 (((sl.n:Nat):Int) - 1)=(((d++[g]).length:Nat):Int):=by rw[bm _ (by simp at hn;omega)];omega
 rw[ac];have z:aK w hQ 10 sl (((d++[g])++[f]).flatMap FM.c):=H.get 1;have ay:=z.cap;refine⟨by omega,by omega,?_⟩;have ev:Value.slice (if sl.c=0 then sl.a else sl.a.map (·.add (0 *10))) ((a1 (((d++[g]).length:Nat):Int)) - 0) (sl.c - 0)=(⟨sl.a,(d++[g]).length,sl.c⟩:Sl).v:=by rw[ab (by omega),h];show Value.slice (some (p.add 0)) _ _=Value.slice (some p) _ _;rw[iz];simp
 rw[ev];refine C.st 0 0 rfl λj H3=>?_;have ak:aK j hQ 10 sl (((d++[g])++[f]).flatMap FM.c):=H3.get 1;have aa:=W4 ak h (d++[g]).length (by omega);have et:(((d++[g])++[f]).flatMap FM.c).take ((d++[g]).length *10)=(d++[g]).flatMap FM.c:=by rw[cC,<-oQ,List.take_left'];rfl
 rw[et]at aa;have H4:=H3.fC 1 (.row hQ 10 ⟨sl.a,(d++[g]).length,sl.c⟩ ((d++[g]).flatMap FM.c)) rfl (Fr.refl _ _) aa λb y=>.inl y;have D:SF (·∈own) w j rb ⟨sl.a,(d++[g]).length,sl.c⟩ st wd d g [] ts:=by show O _ _ _ (_++[]) _;rw[cP];exact H4
 refine bh (λK=>?_) (λK=>?_)
 .have Q:f.k<0:=eZ K;have ai:T.l≠[]:=hk.resolve_left (by omega);obtain⟨B,l,A⟩:=List.exists_cons_of_ne_nil ai;have hr:br 4 j T.s (T.l.flatMap I.c):=((show I.Ps j ts from D.getD 0).mem q).parts.1;have ah:=I.cb hr;refine⟨by omega,by rw[ah,A];simp,I.a3 hr (i:=0) (t:=B) (by rw[A];rfl) λaz hq c=>⟨_,_,_,_,c.c0,c.c1,c.c2,c.c3,?_⟩⟩;have E:=Vu D T q;refine(show SF (·∈own) w j rb ⟨sl.a,(d++[g]).length,sl.c⟩ st wd d g [] (ts++T.l)from E).xa (λY S t e=>bz _ (h3 Y S t e)) h (λam V=>AH V (by simp;omega) B (by rw[A];simp)) ?_;rintro _ w4 an af f4 p4 ap aw au W L M G ⟨rfl,_,N,P,rfl,rfl⟩ F;refine⟨true,rfl,g4 F L M (λb y=>(G b y).imp (UU q) id) (λt e=>W t (bz _ e)) ⟨rfl,N,?_,rfl,rfl⟩⟩;rw[P,A];unfold l2;rw[ag Q];rfl
 .have Q:¬f.k<0:=kq K;have E:=Vv D T q f.k 0 0;refine(show SF (·∈own) w j rb ⟨sl.a,(d++[g]).length,sl.c⟩ st wd d g [] (ts++[.mk f.k 0 0 T.s T.l])from E).xa (λY S t e=>bz _ (h3 Y S t e)) h (λam V=>AH V (by simp;omega) (.mk f.k 0 0 T.s T.l) (by simp)) ?_;rintro _ w4 an af f4 p4 ap aw au W L M G ⟨rfl,_,N,P,rfl,rfl⟩ F;refine⟨true,rfl,g4 F L M (λb y=>(G b y).imp (VA q) id) (λt e=>W t (bz _ e)) ⟨rfl,N,?_,rfl,rfl⟩⟩;rw[P];unfold l2;rw[ab Q];rfl
def lg(s:SX)(l:List Rx):Option SX:=match s.lo.getLast? with
 |none=>none
 |some g=>some ⟨s.lo.dropLast,iC g (l2 s.tp.k l),3,s.wd⟩
def FG(s':Sl)(f:FX):FX:=⟨f.k,(s',f.ar.2++[cu f]),[],[],[],0,f.la⟩
def fu(s':Sl)(t:Tk)(s:SX):Option SX:=
 if s.st=2 then(if t.k=40 then some ⟨s.lo++[s.tp],kL s.wd,1,s.wd⟩else none)
 else if s.st=1 then(if t.k=41 then lg s []else fv t s)
 else if s.st=0 then fv t s
 else if t.k=42 then some ⟨s.lo,iC s.tp (.mk 7 0 0 [s.tp.la]),s.st,s.wd⟩
 else if t.k=38 then some ⟨s.lo,j2 s.tp,0,s.wd⟩
 else if t.k=124 then some ⟨s.lo,j1 s.tp,0,s.wd⟩
 else if t.k=44 then(if s.tp.k<0 then none else some ⟨s.lo,FG s' s.tp,0,s.wd⟩)
 else if t.k=41 then(if s.lo=[]then none else lg s (s.tp.ar.2++[cu s.tp]))
 else if t.k=36 then(if s.lo=[]then some s else none)
 else fv t ⟨s.lo,i6 s.tp,s.st,s.wd⟩
section
variable {M:Nat->Prop} {w0 w1:J} {bs:List Nat} {G:List En} {rb:Nat} {sl:Sl} {st wd:Int} {fs:List FM} {f:FM} {ts:List I} {p:Addr}
abbrev Fa(M:Nat->Prop)(w0 w:J)(rb:Nat)(sl:Sl)(st wd:Int)(fs:List FM)(f:FM)(d:List dG)(G:List En)(ts:List I):Prop:=O M w0 w (SL rb sl st wd ((fs++[f]).flatMap FM.c) d++G) [.trees ts]
def M'(N:SF M w0 w1 rb sl st wd fs f G ts)(i:Nat){src:Sl}(hi:(SL rb sl st wd ((fs++[f]).flatMap FM.c) ((fs++[f]).flatMap FM.rows)++G)[i]? =some (.row aO 4 src z4))(F:sl.a=some p)(d:Nat)(C:1<=d)(D:d<=4)(t:I)(Y:(f.aQ d).2.length<=1000000)(ah:src.n=1){K:J->Prop}(W:∀e q,SF M w0 q rb sl st wd fs (f.put d (e,(f.aQ d).2++[t])) G ts->K q)(ac:∀b∈bs,En.g b∈G:=by simp):
  ∃(t15:Sl) (j:J),(g' #[iq,iq] iq #[(f.aQ d).1.v,src.v]).run U w1=.ok (t15.v) j/\kept bs w1 j/\(0:Int)<=(((f.aQ d).1.n:Nat):Int)/\(((f.aQ d).1.n:Nat):Int)<((t15.n:Nat):Int)/\dJ t15.a λh=>
   ((aJ j (h.add (a1 (((f.aQ d).1.n:Nat):Int) *4)) (.int .i64 t.k) λw=>kept bs j w/\aJ w ((h.add (a1 (((f.aQ d).1.n:Nat):Int) *4)).add 1) (.int .u8 (t.lo.toNat:Int)) λx=>kept bs w x/\aJ x ((h.add (a1 (((f.aQ d).1.n:Nat):Int) *4)).add 2) (.int .u8 (t.hi.toNat:Int)) λy=>kept bs x y/\aJ y ((h.add (a1 (((f.aQ d).1.n:Nat):Int) *4)).add 3) t.s.v λB=>kept bs y B/\aJ B ((p.add (fs.length *10)).add d) t15.v λab=>kept bs B ab/\K ab)/\
   (aJ j ((p.add (fs.length *10)).add d) t15.v λS=>kept bs j S/\aJ S (h.add (a1 (((f.aQ d).1.n:Nat):Int) *4)) (.int .i64 t.k) λw=>kept bs S w/\aJ w ((h.add (a1 (((f.aQ d).1.n:Nat):Int) *4)).add 1) (.int .u8 (t.lo.toNat:Int)) λx=>kept bs w x/\aJ x ((h.add (a1 (((f.aQ d).1.n:Nat):Int) *4)).add 2) (.int .u8 (t.hi.toNat:Int)) λy=>kept bs x y/\aJ y ((h.add (a1 (((f.aQ d).1.n:Nat):Int) *4)).add 3) t.s.v λB=>kept bs y B/\K B)):=by
 have aa:((fs++[f]).flatMap FM.rows)[fs.length *4+(d - 1)]? =some ((f.aQ d).1,(f.aQ d).2.flatMap I.c):=pd fs f (d - 1) _ (rN f C D);have nr:(f.aQ d).1.n=(f.aQ d).2.length:=by have F:(En.rows ((fs++[f]).flatMap FM.rows)).P w1:=N.get 2;exact I.cb (F.1 _ (aB aa)).a7
 have E:∀{L:List En},∀b∈bs,En.g b∈L++G:=λb Y=>b0 _ (ac b Y);obtain⟨e,j,h1,ad,h3⟩:=N.wN (bs:=bs) (ty:=iq) 2 (fs.length *4+(d - 1)) (src:=src) (news:=z4) (K:=λe q=>Fa M w0 q rb sl st wd fs f (((fs++[f]).flatMap FM.rows).set (fs.length *4+(d - 1)) (e,(f.aQ d).2.flatMap I.c++z4)) G ts/\e.n=(f.aQ d).1.n+1/\∃h,e.a=some h) rfl aa (aK.a7 (N.get i hi)) (by simp[Value.oneCell']) (by omega) (λe w4 H4 af ae=>⟨H4,by omega,by
  cases hs:e.a with
  |none=>have:=(ae hs).2;omega
  |some h=>exact⟨h,rfl⟩⟩) E
 obtain⟨T,ag,h,Q⟩:=h3;refine⟨e,j,h1,ad,by omega,by omega,?_⟩;rw[Q];have Z:fs.length *4+(d - 1)<((fs++[f]).flatMap FM.rows).length:=by rw[qN];simp;omega
 have V:∀(f:FM) (t:I) (d:Nat),(f.aQ d).2.flatMap I.c++t.c=((f.aQ d).2++[t]).flatMap I.c:=λf t d=>by simp
 rw[nr];refine⟨?_,?_⟩
 .refine O.sV (bs:=bs) T 2 (fs.length *4+(d - 1)) (f.aQ d).2.length t rfl (hv Z) Q (I.gZ _) (λq z=>?_) E;have z:Fa M w0 q rb sl st wd fs f ((((fs++[f]).flatMap FM.rows).set (fs.length *4+(d - 1)) (e,(f.aQ d).2.flatMap I.c++z4)).set (fs.length *4+(d - 1)) (e,(f.aQ d).2.flatMap I.c++t.c)) G ts:=z;rw[List.set_set,V,r8 fs f (e,(f.aQ d).2++[t]) C D]at z;exact z.ij (bs:=bs) (f:=f) 1 (f.put d (e,(f.aQ d).2++[t])) d rfl F (by omega) (vv f (e,(f.aQ d).2++[t]) C D) (λH A=>W e H A) E
 .refine T.ij (bs:=bs) (f:=f) 1 (f.put d (e,(f.aQ d).2++[t])) d rfl F (by omega) (vv f (e,(f.aQ d).2++[t]) C D) (λq z=>?_) E;refine O.sV (bs:=bs) (L:=SL rb sl st wd ((fs++[f.put d (e,(f.aQ d).2++[t])]).flatMap FM.c) (((fs++[f]).flatMap FM.rows).set (fs.length *4+(d - 1)) (e,(f.aQ d).2.flatMap I.c++z4))++G) z 2 (fs.length *4+(d - 1)) (f.aQ d).2.length t rfl (hv Z) Q (I.gZ _) (λH A=>?_) E;have A:O M w0 H (SL rb sl st wd ((fs++[f.put d (e,(f.aQ d).2++[t])]).flatMap FM.c) ((((fs++[f]).flatMap FM.rows).set (fs.length *4+(d - 1)) (e,(f.aQ d).2.flatMap I.c++z4)).set (fs.length *4+(d - 1)) (e,(f.aQ d).2.flatMap I.c++t.c))++G) [.trees ts]:=A;rw[List.set_set,V,r8 fs f (e,(f.aQ d).2++[t]) C D]at A;exact W e H A
end
def qw{α:Type}(l:List α):l=[]\/∃a e,l=a++[e]:=by
 rcases List.eq_nil_or_concat l with d|⟨a,e,d⟩
 .exact .inl d
 .exact .inr ⟨a,e,by rw[d,List.concat_eq_append]⟩
def GS(lo:List FX)(g d:FX)(st wd:Int)(l:List Rx):lg ⟨lo++[g],d,st,wd⟩ l=some ⟨lo,iC g (l2 d.k l),3,wd⟩:=by unfold lg;simp
def ra(t:Tk)(S:SX):cA->Addr->List FX->FX->Int->Int->List I->Prop:=λr d lo h st k j=>∃e,wG (fu e t S) r d lo h st k j
def RO{w:J}{rb:Nat}{f0:Addr}{lo:List FX}{tp:FX}{st wd:Int}{own:List Nat}{ts:List I}(C:St w rb f0 lo tp st wd own ts)(hl:lo.length<=999999)(hs:Small tp 999999)(h1:st=1->0<=tp.k/\lo≠[])(t:Tk):
  aj U CR #[.pointer (some (ad rb)),t.v] w (hX w own ts rb (ra t ⟨lo,tp,st,wd⟩)):=by
 obtain⟨sl,h,f,p,rfl,rfl,L,B,rfl,bF⟩:=yw C;have bw:h.length<=999999:=by simpa using hl
 have bU:f.n<=999999:=hs.n';have am:Small f.x 1000000:=⟨by have:=hs.n';omega,by have:=hs.ar;omega,by have:=hs.al;omega,by have:=hs.an;omega,by have:=hs.ca;omega⟩;have base:∀b∈I.a8 ts,b∈I.a8 ts\/w.heap.size<=b\/b∈own:=λb Y=>.inl Y
 let ai:Sl:=⟨none,0,0⟩
 refine vG.au _ _ _ _ _ _ w _ (bF.ay (bs:=[]) (λj w1 H1=>?_) (by simp));have H1:SF (·∈own) w w1 rb sl st wd h f [.g j] ts:=H1;refine H1.av (wZ H1 B (by omega)) ?_;rintro _ w2 rfl z;have z:SF (·∈own) w w2 rb sl st wd h f [.g j] ts:=z;refine⟨_,rfl,st,z.ld 0 1,?_⟩;have item:∀{w2:J} {aF:Sl} {bj bk:Int} {ak:List FM} {f2:FM} {ap:List I} {p2:Addr},SF (·∈own) w w2 rb aF bj bk ak f2 [.g j] ap->(∀g∈ak++[f2],∀t∈g.ts,t∈ap)->aF.a=some p2->(∀b∈I.a8 ap,b∈I.a8 ts\/w.heap.size<=b\/b∈own)->(∀t∈ts,t∈ap)->ak.length<=1000000->f2.n<=1000000->
   fu ai t ⟨h.map FM.x,f.x,st,wd⟩=fv t ⟨ak.map FM.x,f2.x,bj,bk⟩->fq [j] U CS #[.pointer (some (ad rb)),t.v] w2 λr_ w5=>∃t34:Bool,r_=ae (.bool t34)/\hX w own ts rb (ra t ⟨h.map FM.x,f.x,st,wd⟩) (ae (.bool t34)) w5:=by
  intro w2 aF bj bk ak f2 ap p2 z bd be bf ba bg bV he;refine z.lh (bs:=[j]) bd be (λaD s1=>RY s1 (by simpa using bg) bV t) ?_ (by simp);rintro r w3 aa N d p3 ao ac M Z D A V bY H4;have Y:∀b∈I.a8 M,b∈I.a8 ts\/w.heap.size<=b\/b∈own:=λb Y=>(V b Y).elim (bf b) .inr;rcases bY with⟨hn,rfl⟩|⟨bZ,rfl⟩
  .exact ⟨false,rfl,g4 H4 D A Y (λt ht=>Z t (ba t ht)) ⟨ai,.inl ⟨he.trans hn,rfl⟩⟩⟩
  .exact ⟨true,rfl,g4 H4 D A Y (λt ht=>Z t (ba t ht)) ⟨ai,.inr ⟨he.trans bZ,rfl⟩⟩⟩
 have close:∀{w2:J} {aF:Sl} {ak:List FM} {g2 f2:FM} {ap:List I} {p2:Addr} {s':Sl} (T:I),O (·∈own) w w2 ([.c rb [aF.v,.int .i64 st,.int .i64 wd] wh,.row hQ 10 aF (((ak++[g2])++[f2]).flatMap FM.c),.rows ((ak++[g2]).flatMap FM.rows)]++[.g j]) [.trees ap]->(∀ah∈ak++[g2],∀t∈ah.ts,t∈ap)->aF.a=some p2->ak.length<=999999->T∈ap->(0<=f2.k\/T.l≠[])->(∀b∈I.a8 ap,b∈I.a8 ts\/w.heap.size<=b\/b∈own)->(∀t∈ts,t∈ap)->
   fu s' t ⟨h.map FM.x,f.x,st,wd⟩=some ⟨ak.map FM.x,iC g2.x (l2 f2.k (I.aq T.l)),3,wd⟩->fq [j] U CQ #[.pointer (some (ad rb)),T.s.v] w2 λr_ w5=>∃t34:Bool,r_=ae (.bool t34)/\hX w own ts rb (ra t ⟨h.map FM.x,f.x,st,wd⟩) (ae (.bool t34)) w5:=by intro w2 aF ak g2 f2 ap p2 s' T z bd be bg hT E bf ba he;refine O.S' (rb:=rb) (bs:=[j]) z (λaD HA=>RM HA bd be bg T hT E) ?_ (by simp);rintro r w3 aa N d p3 ao ac M Z D A V ⟨rfl,Q,y,rfl,rfl⟩ H4;refine⟨true,rfl,g4 H4 D A (λb Y=>(V b Y).elim (bf b) .inr) (λt ht=>Z t (ba t ht)) ⟨s',.inr ⟨?_,rfl⟩⟩⟩;rw[Q,y];exact he
 refine bh (λaJ=>?_) (λaJ=>?_)
 .have aJ:st=2:=eq_of_beq aJ;refine jk (n:=40) (by omega) (λE:t.k=40=>⟨wd,z.ld 0 2,?_⟩) (λE:t.k≠40=>?_)
  .refine z.lh (bs:=[j]) L B (λaD s1=>Gv s1 (by simp;omega) wd 1) ?_ (by simp);rintro _ w3 aa N d p3 ao ac M Z D A V ⟨rfl,Q,y,rfl,rfl⟩ H4;refine⟨true,rfl,g4 H4 D A V Z ⟨ai,.inr ⟨?_,rfl⟩⟩⟩;rw[Q,y];unfold fu;exact(ag aJ).trans (ag E)
  .refine g4 z L B base (λ_ C=>C) ⟨ai,.inl ⟨?_,rfl⟩⟩;unfold fu;exact(ag aJ).trans (ab E)
 have n2:st≠2:=λW=>by rw[W]at aJ;exact absurd aJ (by decide)
 refine bh (λaA=>?_) (λaA=>?_)
 .have aA:st=1:=eq_of_beq aA;obtain⟨bS,bW⟩:=h1 aA;refine jk (n:=41) (by omega) (λE:t.k=41=>?_) (λE:t.k≠41=>?_)
  .rcases qw h with rfl|⟨az,g,rfl⟩
   .exact absurd rfl bW
   have H3:=Ej z 3 0 0;have er:(((az++[g])++[f]).flatMap FM.rows)=(az++[g]).flatMap FM.rows++f.rows:=by rw[cC (xs:=az++[g])];simp
   have H4:O (·∈own) w w2 (SL rb sl st wd (((az++[g])++[f]).flatMap FM.c) ((az++[g]).flatMap FM.rows++f.rows)++[.g j]) [.trees (ts++[.mk 3 0 0 ⟨none,0,0⟩ []])]:=by rw[<-er];exact H3
   have H5:=Og H4 2 rfl;refine close (s':=ai) (.mk 3 0 0 ⟨none,0,0⟩ []) H5 (λah hx u q=>bz _ (L ah (bz _ hx) u q)) B (by simp at bw;omega) (by simp) (.inl bS) (λb Y=>.inl (xI Y)) (λu q=>bz _ q) ?_;unfold fu;refine(ab n2).trans ((ag aA).trans ((ag E).trans ?_));rw[dX];exact GS _ _ _ _ _ _
  .refine item z L B base (λ_ C=>C) (by omega) (by omega) ?_;unfold fu;exact(ab n2).trans ((ag aA).trans (ab E))
 have n1:st≠1:=λW=>by rw[W]at aA;exact absurd aA (by decide)
 refine bh (λaS=>?_) (λaS=>?_)
 .have aS:st=0:=eq_of_beq aS;refine item z L B base (λ_ C=>C) (by omega) (by omega) ?_;unfold fu;exact(ab n2).trans ((ab n1).trans (ag aS))
 have b4:st≠0:=λW=>by rw[W]at aS;exact absurd aS (by decide)
 have fe:∀s':Sl,fu s' t ⟨h.map FM.x,f.x,st,wd⟩=(if t.k=42 then some ⟨h.map FM.x,iC f.x (.mk 7 0 0 [f.x.la]),st,wd⟩
   else if t.k=38 then some ⟨h.map FM.x,j2 f.x,0,wd⟩
   else if t.k=124 then some ⟨h.map FM.x,j1 f.x,0,wd⟩
   else if t.k=44 then(if f.x.k<0 then none else some ⟨h.map FM.x,FG s' f.x,0,wd⟩)
   else if t.k=41 then(if h.map FM.x=[]then none else lg ⟨h.map FM.x,f.x,st,wd⟩ (f.x.ar.2++[cu f.x]))
   else if t.k=36 then(if h.map FM.x=[]then some ⟨h.map FM.x,f.x,st,wd⟩else none)
   else fv t ⟨h.map FM.x,i6 f.x,st,wd⟩):=λs'=>by unfold fu;exact(ab n2).trans ((ab n1).trans (ab b4))
 refine jk (n:=42) (by omega) (λE:t.k=42=>?_) (λax:t.k≠42=>jk (n:=38) (by omega) (λE:t.k=38=>?_) (λaC:t.k≠38=>jk (n:=124) (by omega) (λE:t.k=124=>?_) (λaR:t.k≠124=>jk (n:=44) (by omega) (λE:t.k=44=>?_) (λa0:t.k≠44=>jk (n:=41) (by omega) (λE:t.k=41=>?_) (λbi:t.k≠41=>jk (n:=36) (by omega) (λE:t.k=36=>?_) (λb2:t.k≠36=>?_))))))
 .obtain ⟨c0,c1,c2,c3⟩:=z.IZ 1 rfl B;refine n0 ⟨_,_,_,_,c0,c1,c2,c3,?_⟩;refine z.eK (e:=aO) (sz:=4) (n:=1) (cs:=f.la.c) rfl (by decide) λw7 H7=>n0 ?_;have a1:((p.add (h.length *10)).add 6).add 1=(p.add (h.length *10)).add 7:=add_add _ 6 1;have bO:((p.add (h.length *10)).add 6).add 2=(p.add (h.length *10)).add 8:=add_add _ 6 2;have a3:((p.add (h.length *10)).add 6).add 3=(p.add (h.length *10)).add 9:=add_add _ 6 3;rw[a1,bO,a3];refine H7.ij (bs:=[j]) (f:=f) 1 ⟨f.k,f.ar,f.al,f.an,f.ca,f.n,.mk 7 f.la.lo f.la.hi f.la.s f.la.l⟩ 6 rfl B (by omega) rfl (λw8 H8=>?_) (by simp);refine H8.ij (bs:=[j]) (f:=⟨f.k,f.ar,f.al,f.an,f.ca,f.n,.mk 7 f.la.lo f.la.hi f.la.s f.la.l⟩) 1 ⟨f.k,f.ar,f.al,f.an,f.ca,f.n,.mk 7 0 f.la.hi f.la.s f.la.l⟩ 7 rfl B (by omega) rfl (λw9 H9=>?_) (by simp);refine H9.ij (bs:=[j]) (f:=⟨f.k,f.ar,f.al,f.an,f.ca,f.n,.mk 7 0 f.la.hi f.la.s f.la.l⟩) 1 ⟨f.k,f.ar,f.al,f.an,f.ca,f.n,.mk 7 0 0 f.la.s f.la.l⟩ 8 rfl B (by omega) rfl (λce bG=>?_) (by simp);refine bG.ij (bs:=[j]) (f:=⟨f.k,f.ar,f.al,f.an,f.ca,f.n,.mk 7 0 0 f.la.s f.la.l⟩) 1 ⟨f.k,f.ar,f.al,f.an,f.ca,f.n,.mk 7 0 0 ⟨some (ad w2.heap.size),1,1⟩ [f.la]⟩ 9 rfl B (by omega) rfl (λbC bl=>?_) (by simp);have bx:f.la∈ts:=L f (by simp) _ (by simp[FM.ts]);have bH:=bl.freeze 4 (I.row ⟨some (ad w2.heap.size),1,1⟩ [f.la]) rfl (by show br 4 bC _ ([f.la].flatMap I.c);rw[show[f.la].flatMap I.c=f.la.c by simp];exact aK.a7 (bl.get 4)) (λb Y=>gh (e:=aO) (vs:=[f.la].flatMap I.c) Y);have bI:=bH.node 0 7 0 0 (s:=⟨some (ad w2.heap.size),1,1⟩) (ks:=[f.la]) rfl (by simp) (λt ht=>by simp at ht;subst ht;exact bx);have er:(h++[f]).flatMap FM.rows=(h++[(⟨f.k,f.ar,f.al,f.an,f.ca,f.n,.mk 7 0 0 ⟨some (ad w2.heap.size),1,1⟩ [f.la]⟩:FM)]).flatMap FM.rows:=by simp[FM.rows]
  have bJ:SF (·∈own) w bC rb sl st wd h ⟨f.k,f.ar,f.al,f.an,f.ca,f.n,.mk 7 0 0 ⟨some (ad w2.heap.size),1,1⟩ [f.la]⟩ [.g j] (ts++[.mk 7 0 0 ⟨some (ad w2.heap.size),1,1⟩ [f.la]]):=by show O _ _ _ (SL rb sl st wd _ ((h++[(⟨f.k,f.ar,f.al,f.an,f.ca,f.n,.mk 7 0 0 ⟨some (ad w2.heap.size),1,1⟩ [f.la]⟩:FM)]).flatMap FM.rows)++_) _;rw[<-er];exact bI
  refine g4 bJ (λg hg u q=>?_) B (λb Y=>?_) (λu q=>bz _ q) ⟨ai,.inr ⟨?_,rfl⟩⟩
  .rcases aL.1 hg with hg|hg
   .exact bz _ (L g (by simp[hg]) u q)
   .simp at hg;subst hg;simp only[FM.ts,aL,aE,aZ,a2]at q;rcases q with(((q|q)|q)|q)|rfl
    .exact bz _ (L f (by simp) u (by simp[FM.ts,q]))
    .exact bz _ (L f (by simp) u (by simp[FM.ts,q]))
    .exact bz _ (L f (by simp) u (by simp[FM.ts,q]))
    .exact bz _ (L f (by simp) u (by simp[FM.ts,q]))
    .simp
  .obtain ⟨u,q,aH⟩:=I.bK.1 Y;rcases aL.1 q with q|q
   .exact .inl (I.bK.2 ⟨u,q,aH⟩)
   .simp at q;rw[q]at aH;rcases I.fY.1 aH with aH|aH
    .have:=gh (e:=aO) aH;simp[En.row,aN,I.s]at this;subst this;exact .inr (.inl z.fr.size)
    .obtain ⟨t',aw,a6⟩:=I.bK.1 aH;simp[I.l]at aw;rw[aw]at a6;exact .inl (I.bK.2 ⟨f.la,bx,a6⟩)
  .rw [fe,ag E];rfl
 .refine z.lh (bs:=[j]) L B (λaD s1=>wS (Gk s1 am.n' am.ca am.an)) ?_ (by simp);rintro _ w3 aa N d p3 ao ac M Z D A V ⟨rfl,bt,Q,y,rfl,rfl⟩ H3;refine⟨rfl,H3.tl (bs:=[j]) 0 1 rfl (λw4 H4=>?_) (by simp) (by simp)⟩;refine g4 (show SF (·∈own) w w4 rb aa 0 ac N d [.g j] M from H4) D A V Z ⟨ai,.inr ⟨?_,rfl⟩⟩;rw[fe,ab ax,ag E,Q,y]
 .refine z.lh (bs:=[j]) L B (λaD s1=>wS (Gi s1 am.n' am.ca am.an am.al)) ?_ (by simp);rintro _ w3 aa N d p3 ao ac M Z D A V ⟨rfl,bt,Q,y,rfl,rfl⟩ H3;refine⟨rfl,H3.tl (bs:=[j]) 0 1 rfl (λw4 H4=>?_) (by simp) (by simp)⟩;refine g4 (show SF (·∈own) w w4 rb aa 0 ac N d [.g j] M from H4) D A V Z ⟨ai,.inr ⟨?_,rfl⟩⟩;rw[fe,ab ax,ab aC,ag E,Q,y]
 .refine n0 ⟨f.k,z.gy 1 rfl B 0,bh (λh0=>?_) (λh0=>?_)⟩
  .refine g4 z L B base (λ_ C=>C) ⟨ai,.inl ⟨?_,rfl⟩⟩;rw[fe,ab ax,ab aC,ab aR,ag E];exact ag (eZ h0)
  have fin:∀{w5:J} {aa:Sl} {N:List FM} {d:FM} {p3:Addr} {M:List I} {s':Sl} {u:I} {G:List En},SF (·∈own) w w5 rb aa st wd N (d.put 1 (s',(d.aQ 1).2++[u])) G M->(∀g∈N++[d],∀t∈g.ts,t∈M)->aa.a=some p3->(∀b∈I.a8 M,b∈I.a8 ts\/w.heap.size<=b\/b∈own)->(∀t∈ts,t∈M)->N.map FM.x=h.map FM.x->d.x=Bh f.x->u∈M->u.rx=cu f.x->
    vG.bb (ad rb) w5 (hX w own ts rb (ra t ⟨h.map FM.x,f.x,st,wd⟩)):=by
   intro w5 aa N d p3 M s' u G H5 D A bP b1 Q y q hx;refine H5.st 0 1 rfl λw6 H6=>?_;refine g4 (show SF (·∈own) w w6 rb aa 0 wd N (d.put 1 (s',(d.aQ 1).2++[u])) G M from H6) (λg hg v S=>?_) A bP b1 ⟨s',.inr ⟨?_,rfl⟩⟩
   .rcases aL.1 hg with hg|hg
    .exact D g (by simp[hg]) v S
    .simp at hg;subst hg;rcases yK _ _ (by omega) (by omega) S with C|C
     .exact D d (by simp) v C
     .rcases aL.1 C with C|C
      .exact D d (by simp) v (nE d 1 C)
      .simp at C;subst C;exact q
   .have e1:d.k=f.k:=by have:=congrArg FX.k y;exact this
    have e2:I.aq d.ar.2=I.aq f.ar.2:=by have:=congrArg (λah:FX=>ah.ar.2) y;exact this
    have e3:I.aq d.al.2=[]:=by have:=congrArg FX.al y;exact this
    have e4:I.aq d.an.2=[]:=by have:=congrArg FX.an y;exact this
    have e5:I.aq d.ca.2=[]:=by have:=congrArg FX.ca y;exact this
    have e6:d.n=0:=by have:=congrArg FX.n y;exact this
    have e7:d.la.rx=f.x.la:=by have:=congrArg FX.la y;exact this
    rw[fe,ab ax,ab aC,ab aR,ag E];refine(ab (kq h0)).trans ?_;show some (SX.mk _ ⟨_,(s',I.aq f.ar.2++[cu f.x]),[],[],[],0,f.x.la⟩ 0 wd)=some (SX.mk (N.map FM.x) ⟨d.k,(s',I.aq (d.ar.2++[u])),I.aq d.al.2,I.aq d.an.2,I.aq d.ca.2,d.n,d.la.rx⟩ 0 wd);rw[Q,e1,e3,e4,e5,e6,e7,jK,e2];show some (SX.mk _ ⟨_,(s',I.aq f.ar.2++[cu f.x]),[],[],[],0,f.x.la⟩ 0 wd)=some (SX.mk _ ⟨_,(s',I.aq f.ar.2++[u.rx]),[],[],[],0,f.x.la⟩ 0 wd);rw[hx];rfl
  refine n0 (z.af (bs:=[j]) (λbD bc=>⟨f.ar.1,bc.gy 1 rfl B 1,?_,?_⟩) (by simp))
  .refine (show SF (·∈own) w bD rb sl st wd h f [.g j] ts from bc).lh (bs:=[j]) L B (λaD s1=>wW s1 am) ?_ (by simp);rintro r bE aa N d p3 ao ac M Z D A V ⟨aX,Q,y,rfl,rfl,u,q,rfl,hx⟩ aU;have aW:d.ar.1=f.ar.1:=by have:=congrArg (λah:FX=>ah.ar.1) y;exact this
   refine⟨u.k,u.lo.toNat,u.hi.toNat,u.s,rfl,?_⟩;rw[<-aX,<-aW];refine⟨aU.gy 1 rfl A 1,aU.eK (e:=aO) (sz:=4) (n:=1) (cs:=z4) rfl (by decide) λb5 bm=>⟨bm.gy 1 rfl A 1,?_⟩⟩;have a9:(d.aQ 1).2.length<=1000000:=by have W:d.x.ar.2.length=d.ar.2.length:=(BF d).1;rw[y]at W;have:f.x.ar.2.length<=999999:=hs.ar;show d.ar.2.length<=_;rw[<-W];show f.x.ar.2.length<=_;omega
   exact M' (bs:=[j]) (K:=λw5=>vG.bb (ad rb) w5 (hX w own ts rb (ra t ⟨h.map FM.x,f.x,ao,ac⟩))) (show SF (·∈own) w b5 rb aa ao ac N d ([.g j]++[.row aO 4 ⟨some (ad bE.heap.size),1,1⟩ z4]) M from bm) 4 rfl A 1 (by omega) (by omega) u a9 rfl (λs' w5 H5=>fin H5 D A V Z Q y q hx) (by simp)
  .refine bc.eK (e:=aO) (sz:=4) (n:=1) (cs:=z4) rfl (by decide) λb6 bn=>⟨bn.gy 1 rfl B 1,?_⟩;refine(show SF (·∈own) w b6 rb sl st wd h f ([.g j]++[.row aO 4 ⟨some (ad bD.heap.size),1,1⟩ z4]) ts from bn).lh (bs:=[j]) L B (λaD s1=>wW s1 am) ?_ (by simp);rintro r bE aa N d p3 ao ac M Z D A V ⟨aX,Q,y,rfl,rfl,u,q,rfl,hx⟩ aU;have aW:d.ar.1=f.ar.1:=by have:=congrArg (λah:FX=>ah.ar.1) y;exact this
   refine⟨u.k,u.lo.toNat,u.hi.toNat,u.s,rfl,?_⟩;rw[<-aX,<-aW];refine⟨aU.gy 1 rfl A 1,?_⟩;have a9:(d.aQ 1).2.length<=1000000:=by have W:d.x.ar.2.length=d.ar.2.length:=(BF d).1;rw[y]at W;have:f.x.ar.2.length<=999999:=hs.ar;show d.ar.2.length<=_;rw[<-W];show f.x.ar.2.length<=_;omega
   exact M' (bs:=[j]) (K:=λw5=>vG.bb (ad rb) w5 (hX w own ts rb (ra t ⟨h.map FM.x,f.x,ao,ac⟩))) aU 4 rfl A 1 (by omega) (by omega) u a9 rfl (λs' w5 H5=>fin H5 D A V Z Q y q hx) (by simp)
 .refine z.af (bs:=[j]) (λb7 aG=>⟨sl,aG.ld 0 0,?_⟩) (by simp);have aG:SF (·∈own) w b7 rb sl st wd h f [.g j] ts:=aG;have aY:=y' aG;rcases qw h with rfl|⟨az,g,rfl⟩
  .refine aV (aP (by rw[aY];simp)) ?_;refine g4 aG L B base (λ_ C=>C) ⟨ai,.inl ⟨?_,rfl⟩⟩;rw[fe,ab ax,ab aC,ab aR,ab a0,ag E];rfl
  .refine aT (aM (by rw[aY];simp;omega)) (n0 ⟨f.ar.1,aG.gy 1 rfl B 1,?_⟩);refine aG.lh (bs:=[j]) L B (λaD s1=>wW s1 am) ?_ (by simp);rintro r b8 aa N d p3 ao ac M Z D A V ⟨aX,Q,y,rfl,rfl,u,q,rfl,hx⟩ bo;have aW:d.ar.1=f.ar.1:=by have:=congrArg (λah:FX=>ah.ar.1) y;exact this
   refine⟨u.k,u.lo.toNat,u.hi.toNat,u.s,rfl,?_⟩;rw[<-aX,<-aW];refine⟨bo.gy 1 rfl A 1,bo.eK (e:=aO) (sz:=4) (n:=1) (cs:=u.c) rfl (by decide) λb9 a5=>⟨a5.gy 1 rfl A 1,?_⟩⟩;have bQ:∃F H,N=F++[H]/\F.map FM.x=az.map FM.x/\H.x=g.x:=by
    rcases qw N with rfl|⟨F,H,rfl⟩
    .simp at Q
    .refine ⟨F,H,rfl,?_⟩;rw[dX,dX]at Q;have:=List.append_inj' Q rfl;exact⟨this.1,by simpa using this.2⟩
   obtain⟨F,H,rfl,bu,bR⟩:=bQ;have bA:(((F++[H])++[d]).flatMap FM.rows)[(F++[H]).length *4+0]? =some (d.ar.1,d.ar.2.flatMap I.c):=pd (F++[H]) d 0 _ rfl;have a9:d.ar.2.length<=999999:=by have W:d.x.ar.2.length=d.ar.2.length:=(BF d).1;rw[y]at W;have:f.x.ar.2.length<=999999:=hs.ar;rw[<-W];exact this
   have nr:d.ar.1.n=d.ar.2.length:=by have hp:(En.rows (((F++[H])++[d]).flatMap FM.rows)).P b9:=a5.get 2;exact I.cb (hp.1 _ (aB bA)).a7
   refine a5.wN (bs:=[j]) 2 ((F++[H]).length *4+0) (src:=⟨some (ad b8.heap.size),1,1⟩) (news:=u.c) rfl bA (aK.a7 (a5.get 4)) (by simp[Value.oneCell',I.c]) (by show(d.ar.1.n+1) *40<=_;omega) (λs' cc bp bU cd=>?_) (by simp);have bv:(F++[H]).length *4+0<(((F++[H])++[d]).flatMap FM.rows).length:=by rw[qN];simp
   have bX:∀b∈aN s',b∈own\/w.heap.size<=b:=λb Y=>(bp.new (.rows ((((F++[H])++[d]).flatMap FM.rows).set ((F++[H]).length *4+0) (s',d.ar.2.flatMap I.c++u.c))) (by simp) b (a4.2 (bB.2 ⟨_,aB (hv bv),Y⟩))).symm;have bq:=bp.BG 2 ((F++[H]).length *4+0) rfl (hv bv);have ec:d.ar.2.flatMap I.c++u.c=(d.ar.2++[u]).flatMap I.c:=by simp
   rw[ec]at bq;have bL:=bq.node 0 3 0 0 (s:=s') (ks:=d.ar.2++[u]) rfl (b0 _ (List.mem_singleton.2 rfl)) (λv S=>by
    rcases aL.1 S with S|S
    .exact D d (by simp) v (nE d 1 S)
    .simp at S;subst S;exact q)
   have er:(((((F++[H])++[d]).flatMap FM.rows).set ((F++[H]).length *4+0) (s',(d.ar.2++[u]).flatMap I.c)).set ((F++[H]).length *4+0) (⟨none,0,0⟩,[]))=(F++[H]).flatMap FM.rows++d.rows.set 0 (⟨none,0,0⟩,[]):=by rw[List.set_set];exact Ea (F++[H]) d 0 _ (by omega)
   have bM:O (·∈own) w cc (SL rb aa ao ac (((F++[H])++[d]).flatMap FM.c) ((F++[H]).flatMap FM.rows++d.rows.set 0 (⟨none,0,0⟩,[]))++[.g j]) [.trees (M++[.mk 3 0 0 s' (d.ar.2++[u])])]:=by rw[<-er];exact bL.take 4
   have bN:=Og bM 2 rfl;have bT:d.k=f.k:=by have:=congrArg FX.k y;exact this
   refine close (s':=ai) (.mk 3 0 0 s' (d.ar.2++[u])) bN (λah hx v S=>bz _ (D ah (bz _ hx) v S)) A ?_ (by simp) (.inr (by simp[I.l])) ?_ (λv S=>bz _ (Z v S)) ?_
   .have:=congrArg List.length bu;simp at this bw;omega
   .intro b Y;obtain⟨v,S,aI⟩:=I.bK.1 Y;rcases aL.1 S with S|S
    .exact V b (I.bK.2 ⟨v,S,aI⟩)
    .simp at S;rw[S]at aI;rcases I.fY.1 aI with aI|aI
     .exact .inr (bX b (gh (e:=aO) aI)).symm
     .obtain ⟨t',aw,a6⟩:=I.bK.1 aI;have aw:t'∈d.ar.2++[u]:=aw;refine V b (I.bK.2 ⟨t',?_,a6⟩);rcases aL.1 aw with aw|aw
      .exact D d (by simp) t' (nE d 1 aw)
      .simp at aw;subst aw;exact q
   .rw [fe,ab ax,ab aC,ab aR,ab a0,ag E];refine(ab (by simp)).trans ?_;rw[dX];refine(GS _ _ _ _ _ _).trans ?_;have e2:I.aq d.ar.2=f.x.ar.2:=by have:=congrArg (λah:FX=>ah.ar.2) y;exact this
    rw[bu,bR,bT];show _=some (SX.mk _ (iC g.x (l2 f.k (I.aq (d.ar.2++[u])))) 3 ac);rw[jK,e2];show _=some (SX.mk _ (iC g.x (l2 f.k (f.x.ar.2++[u.rx]))) 3 ac);rw[hx];rfl
 .refine ⟨sl,z.ld 0 0,?_⟩;have aY:=y' z;rcases qw h with rfl|⟨az,g,rfl⟩
  .have W:(((sl.n:Nat):Int)==1)=true:=by rw[aY];rfl
   rw[W];refine g4 z L B base (λ_ C=>C) ⟨ai,.inr ⟨?_,rfl⟩⟩;rw[fe,ab ax,ab aC,ab aR,ab a0,ab bi,ag E];rfl
  .have W:(((sl.n:Nat):Int)==1)=false:=by rw[aY];simp;omega
   rw[W];refine g4 z L B base (λ_ C=>C) ⟨ai,.inl ⟨?_,rfl⟩⟩;rw[fe,ab ax,ab aC,ab aR,ab a0,ab bi,ag E];exact ab (by simp)
 .refine z.lh (bs:=[j]) L B (λaD s1=>wS (Gj s1 am.n' am.ca)) ?_ (by simp);rintro _ w3 aa N d p3 ao ac M Z D A V ⟨rfl,bt,Q,y,rfl,rfl⟩ H3;refine⟨rfl,item H3 D A V Z ?_ ?_ ?_⟩
  .have:=congrArg List.length Q;simp at this;omega
  .have e5:d.n=0:=by have:=congrArg FX.n y;exact this
   omega
  .rw [fe,ab ax,ab aC,ab aR,ab a0,ab bi,ab b2,Q,y]
def Yk(s:ByteArray)(c:UInt8)(w:J):Sem.run U (callFunc sx #[.string s,.int .u8 (c.toNat:Int)]) w=.ok (.value (.int .i64 (Go.Lib.indexByte (bl s) c))) w:=by have d:=run_callFunc_indexByte (P:=U) (f:=sx) (fn:=(Tryz.prog.funcs[sx]?).getD default) (by kernel_rfl) (by kernel_rfl) (by kernel_rfl) (by kernel_rfl) (by kernel_rfl) #[.string s,.int .u8 (c.toNat:Int)] w;rw[d,Go.Lib.run_indexByteString];show Result.ok _ w=_;congr 4;simp
def Eg(s:ByteArray)(c:UInt8)(w:J):aj U CV #[.string s,.int .u8 (c.toNat:Int)] w λr d=>r=ae (.int .i64 (Go.Lib.indexByte (bl s) c))/\ah w d:=by
 refine EA.ok _ _ w _ ?_;refine(show aj U Ct #[.string s,.int .u8 (c.toNat:Int)] w λr d=>r=ae (.int .i64 (Go.Lib.indexByte (bl s) c))/\w=d from ?_).mono ?_
 .exact BT.ok _ _ w _ ⟨_,w,Yk s c w,rfl,rfl⟩
 .rintro r e ⟨rfl,rfl⟩;exact⟨_,rfl,rfl,Fr.refl _ _⟩
def jN(c:UInt8):Bool:=ao (97<=c.toNat)&&ao (c.toNat<=122)
def sT(c:UInt8):Bool:=ao (32<=c.toNat)&&(ao (c.toNat<=126)&&(!decide (c=39)&&!decide (c=92)))
def wY(c:UInt8)(w:J):aj U K7 #[.int .u8 (c.toNat:Int)] w λr e=>r=ae (.bool (jN c))/\ah w e:=by
 refine NZ.ok _ w _ (aS (λd=>⟨?_,Fr.refl _ _⟩) (λd=>⟨?_,Fr.refl _ _⟩))
 .unfold jN;rw[aM (show 97<=c.toNat by omega),Bool.true_and];rw[show ao ((c.toNat:Int)<=122)=ao (c.toNat<=122)from decide_eq_decide.2 (by omega)]
 .unfold jN;rw[aP (show ¬97<=c.toNat by omega),Bool.false_and]
def PY(c:UInt8)(n:Nat)(e:n<256):(((c.toNat:Nat):Int)==(n:Int))=ao (c=dw n):=by
 have d:c.toNat=n↔c=dw n:=by rw[<-UInt8.toNat_inj,UInt8.toNat_ofNat'];omega
 rw[Bool.eq_iff_iff,beq_iff_eq,decide_eq_true_iff,<-d];omega
def Gt(c:UInt8)(w:J):aj U K4 #[.int .u8 (c.toNat:Int)] w λr q=>r=ae (.bool (sT c))/\ah w q:=by
 have e:(((c.toNat:Nat):Int) !=39)= !decide (c=39):=by have:=PY c 39 (by omega);show(!(((c.toNat:Nat):Int)==((39:Nat):Int)))=_;rw[this];rfl
 have h:(((c.toNat:Nat):Int) !=92)= !decide (c=92):=by have:=PY c 92 (by omega);show(!(((c.toNat:Nat):Int)==((92:Nat):Int)))=_;rw[this];rfl
 refine NV.ok _ w _ ?_;rw[e,h];unfold sT;refine aS (λj=>?_) (λj=>⟨?_,Fr.refl _ _⟩)
 .rw [aM (show 32<=c.toNat by omega),Bool.true_and];refine aS (λk=>?_) (λk=>⟨?_,Fr.refl _ _⟩)
  .rw [aM (show c.toNat<=126 by omega),Bool.true_and];refine bh (λd=>⟨?_,Fr.refl _ _⟩) (λd=>⟨?_,Fr.refl _ _⟩)
   .rw [d,Bool.true_and]
   .rw [d,Bool.false_and]
  .rw [aP (show ¬c.toNat<=126 by omega),Bool.false_and]
 .rw [aP (show ¬32<=c.toNat by omega),Bool.false_and]
def Rk{s:ByteArray}{l:List UInt8}(e:bl s=l)(i:Nat):s[i]? =l[i]?:=by
 subst e;by_cases d:i<s.size
 .rw [getElem?_pos s i d,a5 (by rw[c9];exact d)];rfl
 .rw [getElem?_neg s i d,List.getElem?_eq_none (by rw[c9];omega)]
def kR{s:ByteArray}{i:Nat}(d:i<s.size):s[i]? =some ((bl s).getD i 0):=by
 rw[Rk (s:=s) (l:=bl s) rfl i];have e:i<(bl s).length:=by rw[c9];exact d
 rw[List.getD_eq_getElem?_getD,a5 e];rfl
def oS:List UInt8:=[48,49,50,51,52,53,54,55,56,57,97,98,99,100,101,102]
def Uq(a b:Int):UInt8:=dw (aG .u8 (rB .i64 (aG .i64 (a *2^4)) b)).toNat
def jY(l:List UInt8)(i:Nat):Option (UInt8×Nat):=
 if i+2<l.length/\l.getD i 0=39/\sT (l.getD (i+1) 0)=true/\l.getD (i+2) 0=39 then some (l.getD (i+1) 0,3)
 else if i+3<l.length/\l.getD i 0=92/\l.getD (i+1) 0=120/\0<=Go.Lib.indexByte oS (l.getD (i+2) 0)/\0<=Go.Lib.indexByte oS (l.getD (i+3) 0)then some (Uq (Go.Lib.indexByte oS (l.getD (i+2) 0)) (Go.Lib.indexByte oS (l.getD (i+3) 0)),4)
 else none
def Bn:Option (UInt8×Nat)->aa
 |none=>.tuple #[.int .u8 0,.int .i64 0,.bool false]
 |some (b,n)=>.tuple #[.int .u8 (b.toNat:Int),.int .i64 (n:Int),.bool true]
def zz{x:UInt8}{n:Nat}{A B:Prop}(h:n<256)(d:x=dw n->A)(e:x≠dw n->B):bq (((x.toNat:Nat):Int)==(n:Int)) A B:=jk h d e
def Z7(x:Int):((dw (aG .u8 x).toNat).toNat:Int)=aG .u8 x:=by rw[UInt8.toNat_ofNat',IntKind.wrap_u8];omega
def AI(s:ByteArray)(i:Nat)(hi:i<=1000000)(w:J):aj U KV #[.string s,.int .i64 (i:Int)] w λr d=>r=ae (Bn (jY (bl s) i))/\ah w d:=by
 have E:aG .i64 ((i:Int)+1)=((i+1:Nat):Int):=by rw[bm _ (by omega)];omega
 have F:aG .i64 ((i:Int)+2)=((i+2:Nat):Int):=by rw[bm _ (by omega)];omega
 have L:aG .i64 ((i:Int)+3)=((i+3:Nat):Int):=by rw[bm _ (by omega)];omega
 have T:(bl s).length=s.size:=c9 s;have k:¬(i+2<(bl s).length/\(bl s).getD i 0=39/\sT ((bl s).getD (i+1) 0)=true/\(bl s).getD (i+2) 0=39)->∀d,ah w d->yQ.S0 s i d (λr d=>r=ae (Bn (jY (bl s) i))/\ah w d):=by
  intro G d j;have no:¬(i+3<(bl s).length/\(bl s).getD i 0=92/\(bl s).getD (i+1) 0=120/\0<=Go.Lib.indexByte oS ((bl s).getD (i+2) 0)/\0<=Go.Lib.indexByte oS ((bl s).getD (i+3) 0))->∀d,ah w d->yQ.S1 d (λr d=>r=ae (Bn (jY (bl s) i))/\ah w d):=λQ d j=>by refine⟨?_,j⟩;unfold jY;rw[ab G,ab Q];rfl
  show bq _ _ _;rw[L,F,E];refine aS (λP=>⟨by omega,_,kR (i:=i) (by omega),zz (n:=92) (by omega) (λh=>⟨by omega,_,kR (i:=i+1) (by omega),zz (n:=120) (by omega) (λC=>?_) (λC=>no (λe=>C e.2.2.1) d j)⟩) (λh=>no (λe=>h e.2.1) d j)⟩) (λP=>no (λe=>by omega) d j);refine(show O F0 w d [] []from((O.start (M:=F0) (w:=w) [] (by simp)).cd j)).dr λD I=>⟨by omega,_,kR (i:=i+2) (by omega),by omega,_,kR (i:=i+3) (by omega),I.call (Eg _ _ _) ?_⟩;rintro _ V rfl K;refine⟨_,rfl,K.call (Eg _ _ _) ?_⟩;rintro _ H rfl x;refine⟨_,rfl,?_⟩;show bq (ao (Go.Lib.indexByte oS _>=0)) (bq (ao (Go.Lib.indexByte oS _>=0)) _ _) _;refine aS (λz=>aS (λA=>⟨?_,x.fr⟩) (λA=>no (λe=>A e.2.2.2.2) H x.fr)) (λz=>no (λe=>z e.2.2.2.1) H x.fr);unfold jY;rw[ab G,ag ⟨by omega,h,C,z,A⟩];exact congrArg (λS=>Ending.returned (.tuple #[.int .u8 S,.int .i64 4,.bool true])) (Z7 _).symm
 refine yQ.ok _ _ w _ ?_;rw[F,E];refine aS (λN=>⟨by omega,_,kR (i:=i) (by omega),zz (n:=39) (by omega) (λh=>⟨by omega,_,kR (i:=i+1) (by omega),(Gt _ w).mono ?_⟩) (λh=>k (λe=>h e.2.1) w (Fr.refl _ _))⟩) (λN=>k (λe=>by omega) w (Fr.refl _ _));rintro _ D ⟨rfl,y⟩;refine⟨_,rfl,bh (λq=>⟨by omega,_,kR (i:=i+2) (by omega),zz (n:=39) (by omega) (λB=>⟨by omega,_,kR (i:=i+1) (by omega),?_,y⟩) (λB=>k (λe=>B e.2.2.2) D y)⟩) (λq=>k (λe=>by rw[e.2.2.1]at q;cases q) D y)⟩;unfold jY;rw[ag ⟨by omega,h,q,B⟩];rfl
def ON:List UInt8:=[40,41,44,124,38,33,42]
def eE(l:List UInt8)(i:Nat):Tk×Nat:=
 if 0<=Go.Lib.indexByte ON (l.getD i 0)then(⟨l.getD i 0,0,0,[],i⟩,1)
 else if jN (l.getD i 0)=true then(⟨119,0,0,(l.drop i).takeWhile jN,i⟩,((l.drop i).takeWhile jN).length)
 else if l.getD i 0=91 then
  match jY l (i+1)with
  |none=>(⟨63,0,0,[],i⟩,1)
  |some (lo,m)=>
   if i+1+m<l.length/\l.getD (i+1+m) 0=45 then
    match jY l (i+1+m+1)with
    |none=>(⟨63,0,0,[],i⟩,1)
    |some (e,d)=>if i+1+m+(1+d)<l.length/\l.getD (i+1+m+(1+d)) 0=93/\lo.toNat<=e.toNat then(⟨114,lo,e,[],i⟩,1+m+(1+d)+1)else(⟨63,0,0,[],i⟩,1)
   else(⟨63,0,0,[],i⟩,1)
 else match jY l i with
  |some (b,n)=>(⟨114,b,b,[],i⟩,n)
  |none=>(⟨63,0,0,[],i⟩,1)
def zt(x:Tk×Nat):aa:=.tuple #[x.1.v,.int .i64 (x.2:Int)]
def AD{l:List UInt8}{i:Nat}{b:UInt8}{n:Nat}(d:jY l i=some (b,n)):(n=3\/n=4)/\i+n<=l.length:=by
 unfold jY at d;split at d
 .cases d;rename_i e;omega
 .split at d
  .cases d;rename_i e;omega
  .cases d
def Po:∀(l:List UInt8) (m:Nat) (p:UInt8->Bool),m<=l.length->(∀h<m,p (l.getD h 0)=true)->(m<l.length->p (l.getD m 0)=false)->(l.takeWhile p)=l.take m
 |[],m,p,d,_,_=>by simp
 |c::l,0,p,d,_,e=>by have:p c=false:=e (by simp);simp[this]
 |c::l,m+1,p,d,j,e=>by have q:p c=true:=j 0 (by omega);rw[List.takeWhile_cons,ag q,List.take_succ_cons,Po l m p (by simpa using d) (λh w=>by simpa using j (h+1) (by omega)) (λk=>by simpa using e (by simpa using k))]
def If(l:List UInt8)(i k:Nat):(l.drop i).getD k 0=l.getD (i+k) 0:=by rw[List.getD_eq_getElem?_getD,List.getD_eq_getElem?_getD,List.getElem?_drop]
def Si(s:ByteArray)(hs:s.size<=900000)(i:Nat)(hi:i<s.size)(w:J):aj U CT #[.string s,.int .i64 (i:Int)] w λr V=>r=ae (zt (eE (bl s) i))/\ah w V:=by
 have hl:(bl s).length=s.size:=c9 s;refine s5.au _ _ w _ ((bO [] (λ_ k=>by cases k)).ay (bs:=[]) (λh w1 T=>⟨by omega,_,kR (i:=i) hi,?_⟩) (by simp));have T:O F0 w w1 [.g h] []:=T;have bad:∀V,O F0 w V [.g h] []->eE (bl s) i=(⟨63,0,0,[],i⟩,1)->∀(F G H:Int) (I:ByteArray) (K:Int),s5.fG (i:Int) h F G H I K V λr V=>r=ae (zt (eE (bl s) i))/\ah w V:=λV S he _ _ _ _ _=>S.af (bs:=[h]) (λZ A=>⟨by rw[he];rfl,A.fr⟩) (by simp);refine T.av (Eg _ _ _) ?_;rintro _ w2 rfl H2;refine⟨_,rfl,?_⟩;show bq (ao (Go.Lib.indexByte ON _>=0)) _ _;refine aS (λx=>H2.af (bs:=[h]) (λZ A=>⟨?_,A.fr⟩) (by simp)) (λx=>H2.av (wY _ _) ?_)
 .unfold eE;rw[ag x];rfl
 rintro _ Z rfl A;refine⟨_,rfl,bh (λQ=>?_) (λQ=>jk (n:=91) (by omega) (λD:(bl s).getD i 0=91=>?_) (λD:(bl s).getD i 0≠91=>?_))⟩
 .
  have loop:∀(n j:Nat) (V:J),s.size - j<n->i<=j->j<=s.size->(∀z,i<=z->z<j->jN ((bl s).getD z 0)=true)->O F0 w V [.g h] []->∀(F G H:Int) (I:ByteArray) (K:Int),s5.b5 s (i:Int) h F G H I K (j:Int) V λr V=>r=ae (zt (eE (bl s) i))/\ah w V:=by
   intro n;induction n with
   |zero=>intro j V k;omega
   |succ n ih=>
    intro j V hn az hj ad aa F G H I K;have done:(j<s.size->jN ((bl s).getD j 0)=false)->∀V,O F0 w V [.g h] []->s5.bA s (i:Int) h F G H I K (j:Int) V λr V=>r=ae (zt (eE (bl s) i))/\ah w V:=λax V S=>by
     refine⟨by omega,by omega,by omega,by omega,S.af (bs:=[h]) (λy e=>⟨?_,e.fr⟩) (by simp)⟩;have an:((bl s).drop i).takeWhile jN=((bl s).drop i).take (j - i):=by
      refine Po _ _ _ (by rw[e8];omega) (λz hk=>?_) (λk=>?_)
      .rw [If];exact ad _ (by omega) (by omega)
      .rw [If,show i+(j - i)=j by omega];refine ax ?_;rw[e8]at k;omega
     have am:(((bl s).drop i).take (j - i)).length=j - i:=by rw[List.length_take,e8];omega
     have al:s.extract (a1 (i:Int)) (a1 (j:Int))=ba (((bl s).drop i).take (j - i)):=by
      have:bl (s.extract i j)=((bl s).drop i).take (j - i):=by unfold bl;rw[ByteArray.data_extract,Array.toList_extract,List.extract_eq_take_drop]
      rw[bZ,bZ,<-this,jx]
     have ew:aG .i64 ((j:Int) - (i:Int))=((j - i:Nat):Int):=by rw[bm _ (by omega)];omega
     rw[al,ew];unfold eE;rw[ab x,ag Q,an,am];rfl
    refine s5.dy _ _ _ _ _ _ _ _ _ _ _ (aS (λk=>⟨by omega,_,kR (i:=j) (by omega),aa.av (wY _ _) ?_⟩) (λk=>done (λC=>by omega) V aa));rintro _ y rfl e;refine⟨_,rfl,bh (λq=>?_) (λq=>done (λ_=>q) y e)⟩;rw[show aG .i64 ((j:Int)+1)=((j+1:Nat):Int)by rw[bm _ (by omega)];omega];refine ih (j+1) y (by omega) (by omega) (by omega) (λz h1 h2=>?_) e _ _ _ _ _;by_cases hk:z=j
    .subst hk;exact q
    .exact ad z h1 (by omega)
  exact loop (s.size+1) i Z (by omega) (be _) (by omega) (λz h1 h2=>by omega) A _ _ _ _ _
 .have E:¬jN ((bl s).getD i 0)=true:=by rw[Q];simp
  rw[show aG .i64 ((i:Int)+1)=((i+1:Nat):Int)by rw[bm _ (by omega)];omega];refine A.av (AI s (i+1) (by omega) _) ?_;rintro _ N rfl B;cases q:jY (bl s) (i+1)with
  |none=>
   refine⟨0,0,false,rfl,aT rfl (bad N B ?_ _ _ _ _ _)⟩;unfold eE;rw[ab x,ab E,ag D,q]
  |some M=>
   obtain⟨lo,m⟩:=M;obtain⟨hm,aB⟩:=AD q;refine⟨lo.toNat,m,true,rfl,?_⟩;try dsimp only
   rw[show aG .i64 (((i+1:Nat):Int)+(m:Int))=((i+1+m:Nat):Int)by rw[bm _ (by omega)];omega];have ai:¬(i+1+m<(bl s).length/\(bl s).getD (i+1+m) 0=45)->eE (bl s) i=(⟨63,0,0,[],i⟩,1):=λk=>by unfold eE;rw[ab x,ab E,ag D,q];exact ab k
   refine aV rfl (aS (λk=>bad N B (ai (λC=>by omega)) _ _ _ _ _) (λk=>⟨by omega,_,kR (i:=i+1+m) (by omega),?_⟩));refine bh (λL=>bad N B (ai (λC=>?_)) _ _ _ _ _) (λaq=>?_)
   .rw [C.2]at L;exact absurd L (by decide)
   have ac:(bl s).getD (i+1+m) 0=45:=by
    have ak:(((bl s).getD (i+1+m) 0).toNat:Int)=45:=by simpa using aq
    have:((bl s).getD (i+1+m) 0).toNat=(45:UInt8).toNat:=by show _=45;omega
    exact UInt8.toNat_inj.1 this
   rw[show aG .i64 (((i+1+m:Nat):Int)+1)=((i+1+m+1:Nat):Int)by rw[bm _ (by omega)];omega];refine B.av (AI s (i+1+m+1) (by omega) _) ?_;rintro _ y rfl e;cases W:jY (bl s) (i+1+m+1)with
   |none=>
    refine⟨0,0,false,rfl,aT rfl (bad y e ?_ _ _ _ _ _)⟩;unfold eE;rw[ab x,ab E,ag D,q];refine(ag ⟨by omega,ac⟩).trans ?_;rw[W]
   |some M=>
    obtain⟨Y,d⟩:=M;obtain⟨aA,aC⟩:=AD W;refine⟨Y.toNat,d,true,rfl,?_⟩;try dsimp only
    rw[show aG .i64 (((i+1+m:Nat):Int)+aG .i64 (1+(d:Int)))=((i+1+m+(1+d):Nat):Int)by rw[bm (1+(d:Int)) (by omega),bm _ (by omega)];omega];have P:eE (bl s) i=if i+1+m+(1+d)<(bl s).length/\(bl s).getD (i+1+m+(1+d)) 0=93/\lo.toNat<=Y.toNat then(⟨114,lo,Y,[],i⟩,1+m+(1+d)+1)else(⟨63,0,0,[],i⟩,1):=by unfold eE;rw[ab x,ab E,ag D,q];refine(ag ⟨by omega,ac⟩).trans ?_;rw[W]
    refine aV rfl (aS (λk=>bad y e (P.trans (ab λC=>by omega)) _ _ _ _ _) (λk=>⟨by omega,_,kR (i:=i+1+m+(1+d)) (by omega),?_⟩));refine bh (λL=>bad y e (P.trans (ab λC=>?_)) _ _ _ _ _) (λar=>?_)
    .rw [C.2.1]at L;exact absurd L (by decide)
    have ap:(bl s).getD (i+1+m+(1+d)) 0=93:=by
     have ak:(((bl s).getD (i+1+m+(1+d)) 0).toNat:Int)=93:=by simpa using ar
     have:((bl s).getD (i+1+m+(1+d)) 0).toNat=(93:UInt8).toNat:=by show _=93;omega
     exact UInt8.toNat_inj.1 this
    refine aS (λaw=>bad y e (P.trans (ab λC=>by omega)) _ _ _ _ _) (λaw=>e.af (bs:=[h]) (λw6 H6=>⟨?_,H6.fr⟩) (by simp));rw[P,ag ⟨by omega,ap,by omega⟩];rw[show aG .i64 (aG .i64 (((i+1+m+(1+d):Nat):Int)+1) - (i:Int))=((1+m+(1+d)+1:Nat):Int)by rw[bm (((i+1+m+(1+d):Nat):Int)+1) (by omega),bm _ (by omega)];omega];rfl
 .have E:¬jN ((bl s).getD i 0)=true:=by rw[Q];simp
  refine A.av (AI s i (by omega) _) ?_;rintro _ N rfl B;cases q:jY (bl s) i with
  |none=>
   refine⟨0,0,false,rfl,aV rfl (bad N B ?_ _ _ _ _ _)⟩;unfold eE;rw[ab x,ab E,ab D,q]
  |some M=>
   obtain⟨b,n⟩:=M;refine⟨b.toNat,n,true,rfl,aT rfl (B.af (bs:=[h]) (λy e=>⟨?_,e.fr⟩) (by simp))⟩;unfold eE;rw[ab x,ab E,ab D,q];rfl
structure Inv(S:SX)(m:Nat):Prop where
 lo:S.lo.length<=m
 sl:∀f∈S.lo,Small f m
 tp:Small S.tp m
 s1:S.st=1->0<=S.tp.k/\S.lo≠[]
 s2:S.st=2->0<=S.wd
def Small.mono{f:FX}{m n:Nat}(d:Small f m)(e:m<=n):Small f n:=⟨bp d.n' e,bp d.ar e,bp d.al e,bp d.an e,bp d.ca e⟩
def Ep(k:Int)(m:Nat):Small (kL k) m:=⟨dc _,dc _,dc _,dc _,dc _⟩
def vU{f:FX}{m:Nat}(d:Small f m)(x:Rx):Small (iC f x) m:=⟨d.n',d.ar,d.al,d.an,d.ca⟩
def BW{t:Tk}{S q:SX}{m:Nat}(x:S.lo.length<=m)(j:∀f∈S.lo,Small f (m+1))(h:Small S.tp (m+1))(y:S.tp.n<=m)(e:fv t S=some q):Inv q (m+1):=by
 have w:∀f∈S.lo++[S.tp],Small f (m+1):=λf k=>by
  rcases aL.1 k with k|k
  .exact j f k
  .simp at k;subst k;exact h
 unfold fv at e;split at e
 .cases e;exact⟨by show S.lo.length<=_;omega,j,⟨by show S.tp.n+1<=_;omega,h.ar,h.al,h.an,h.ca⟩,λd=>(by simp at d),λd=>(by simp at d)⟩
 .split at e
  .cases e;exact⟨by simp;omega,w,Ep _ _,λd=>(by simp at d),λd=>(by simp at d)⟩
  .split at e
   .cases e;exact⟨by show S.lo.length<=_;omega,j,vU h _,λd=>(by simp at d),λd=>(by simp at d)⟩
   .split at e
    .split at e
     .cases e;exact⟨by show S.lo.length<=_;omega,j,vU h _,λd=>(by simp at d),λd=>(by simp at d)⟩
     .split at e
      .cases e;exact⟨by show S.lo.length<=_;omega,j,vU h _,λd=>(by simp at d),λd=>(by simp at d)⟩
      .split at e
       .cases e;exact⟨by show S.lo.length<=_;omega,j,h,λd=>(by simp at d),λ_=>by show(0:Int)<=4;decide⟩
       .split at e
        .cases e;exact⟨by show S.lo.length<=_;omega,j,h,λd=>(by simp at d),λ_=>by show(0:Int)<=5;decide⟩
        .split at e
         .cases e;exact⟨by show S.lo.length<=_;omega,j,h,λd=>(by simp at d),λ_=>by show(0:Int)<=3;decide⟩
         .cases e
    .cases e
def GV{S j:SX}{l:List Rx}{m:Nat}(h:Inv S m)(e:lg S l=some j):Inv j (m+1):=by
 unfold lg at e;rcases qw S.lo with d|⟨a,g,d⟩
 .rw [d]at e;simp at e
 .rw [d]at e;simp at e;subst e;have k:=h.lo;rw[d]at k;simp at k;exact⟨by show a.length<=_;omega,λf q=>(h.sl f (by rw[d];simp[q])).mono (by omega),vU ((h.sl g (by rw[d];simp)).mono (by omega)) _,λd=>(by simp at d),λd=>(by simp at d)⟩
def Bv{s':Sl}{t:Tk}{S y:SX}{m:Nat}(h:Inv S m)(d:fu s' t S=some y):Inv y (m+1):=by
 have x:=h.lo;have k:∀f∈S.lo,Small f (m+1):=λf q=>(h.sl f q).mono (by omega);have j:Small S.tp (m+1):=h.tp.mono (by omega);have z:=h.tp.n';unfold fu at d;split at d
 .rename_i w;split at d
  .cases d;refine⟨by simp;omega,λf q=>?_,Ep _ _,λ_=>⟨h.s2 w,by simp⟩,λe=>(by simp at e)⟩;rcases aL.1 q with q|q
   .exact k f q
   .simp at q;subst q;exact j
  .cases d
 .rename_i w;split at d
  .split at d
   .exact GV h d
   .exact BW x k j z d
  .rename_i A;split at d
   .exact BW x k j z d
   .split at d
    .cases d;exact⟨by show S.lo.length<=_;omega,k,vU j _,λe=>absurd e A,λe=>absurd e w⟩
    .split at d
     .cases d;refine⟨by show S.lo.length<=_;omega,k,⟨dc _,j.ar,j.al,?_,dc _⟩,λe=>(by simp at e),λe=>(by simp at e)⟩;have:=h.tp.an;show(S.tp.an++[_]).length<=_;simp;omega
     .split at d
      .cases d;refine⟨by show S.lo.length<=_;omega,k,⟨dc _,j.ar,?_,dc _,dc _⟩,λe=>(by simp at e),λe=>(by simp at e)⟩;have:=h.tp.al;show(S.tp.al++[_]).length<=_;simp;omega
      .split at d
       .split at d
        .cases d
        .cases d;refine⟨by show S.lo.length<=_;omega,k,⟨dc _,?_,dc _,dc _,dc _⟩,λe=>(by simp at e),λe=>(by simp at e)⟩;have:=h.tp.ar;show(S.tp.ar.2++[_]).length<=_;simp;omega
       .split at d
        .split at d
         .cases d
         .exact GV h d
        .split at d
         .split at d
          .cases d;exact⟨by omega,k,j,h.s1,h.s2⟩
          .cases d
         .refine BW (S:=⟨S.lo,i6 S.tp,S.st,S.wd⟩) x k ⟨dc _,j.ar,j.al,j.an,?_⟩ (dc _) d;have:=h.tp.ca;show(S.tp.ca++[_]).length<=_;simp;omega
def TE{s':Sl}{t:Tk}{S:SX}(d:t.k=63):fu s' t S=none:=by
 have it:∀S,fv t S=none:=λS=>by unfold fv;rw[d];rfl
 unfold fu;rw[it,it,d];split
 .rfl
 .split
  .rfl
  .split
   .rfl
   .rfl
def jj(l:List UInt8):Nat->Nat->List Tk
 |0,_=>[]
 |n+1,i=>if i<l.length then(if l.getD i 0=32 then jj l n (i+1)else(eE l i).1::jj l n (i+(eE l i).2))else[⟨36,0,0,[],l.length⟩]
def pG:List Tk->SX->Int⊕SX->Prop
 |[],d,r=>r=.inr d
 |t::j,d,r=>∃h,(fu h t d=none/\r=.inl t.a)\/∃e,fu h t d=some e/\pG j e r
def PL{l:List UInt8}{i:Nat}(hi:i<l.length):1<=(eE l i).2/\i+(eE l i).2<=l.length:=by
 unfold eE;split
 .simp;omega
 .split
  .rename_i d;have e:(l.drop i)=l.getD i 0::l.drop (i+1):=by rw[List.drop_eq_getElem_cons hi,List.getD_eq_getElem?_getD,a5 hi];rfl
   have k:1<=((l.drop i).takeWhile jN).length:=by rw[e,List.takeWhile_cons,ag d];simp
   have h:((l.drop i).takeWhile jN).length<=(l.drop i).length:=(List.takeWhile_prefix (p:=jN) (l:=l.drop i)).length_le;rw[e8]at h;simp only;omega
  .split
   .split
    .simp;omega
    .split
     .split
      .simp;omega
      .split
       .rename_i d;simp only;omega
       .simp;omega
     .simp;omega
   .split
    .rename_i j;have:=AD j;simp only;omega
    .simp;omega
abbrev EK(t:Tk):List aa:=[.int .u8 (t.k.toNat:Int),.int .u8 (t.lo.toNat:Int),.int .u8 (t.hi.toNat:Int),.string (ba t.s),.int .i64 t.a]
def rV:En:=⟨[],λ_=>True,λ_ _ _ d=>d,λ_ _ b e=>by simp at e,by simp⟩
abbrev lU(t2 t3 t4 D l_ bs:Nat)(s:ByteArray)(d e:aa)(o:Obj):List En:=[.c t2 [.int .i64 0,.int .u8 0,.int .u8 0,.slice none 0 0] aO,.c t3 [d] bn,.c t4 [e] gF,.ob D (.deferred (some [])),.ob l_ o,.c bs [.string s] fk]
def PS(w0 w:J)(rb:Nat)(G:List En)(S:SX):Prop:=∃(sl:Sl) (d:List FM) (f:FM) (ts:List I) (p:Addr),d.map FM.x=S.lo/\f.x=S.tp/\(∀g∈d++[f],∀t∈g.ts,t∈ts)/\sl.a=some p/\(∀b∈I.a8 ts,w0.heap.size<=b)/\SF F0 w0 w rb sl S.st S.wd d f G ts
def PE(w0 w:J)(rb:Nat)(G:List En):Prop:=∃(sl:Sl) (d:List FM) (f:FM) (ts:List I) (st wd:Int),SF F0 w0 w rb sl st wd d f G ts
section
variable {s:ByteArray} {w0:J} {rb t2 t3 t4 D l_ bs:Nat} {o_:eg->Option Code->Obj}
abbrev Fb(s:ByteArray)(rb t2 t3 t4 l_ bs:Nat)(o_:eg->Option Code->Obj):Prop:=
 ∀(j k q:Int) (w:ByteArray) (x:Int) (d:J) (e:Bool->J->Prop),d.heap[l_]? =some (o_ .ready none)->DY.pA l_ o_ s (ad t2) (ad t3) (ad t4) (ad rb) (ad bs) j k q w x d (λy z=>∃h:Bool,y=ae (.bool h)/\e h z)->W.nl U l_ #[.agg #[.int .u8 j,.int .u8 k,.int .u8 q,.string w,.int .i64 x]] d e
def MH(hY:Fb s rb t2 t3 t4 l_ bs o_){S:SX}{m:Nat}(y:Inv S m)(hm:m<=900000)(t:Tk){e:En}{w:J}(H:PS w0 w rb (lU t2 t3 t4 D l_ bs s (.int .i64 0) (.int .i64 0) (o_ .ready none)++[e]) S){K:Bool->J->Prop}(ad:∀k h,fu h t S=none->PE w0 k rb (lU t2 t3 t4 D l_ bs s (.int .i64 t.a) (.int .i64 2) (o_ .done (some .ret))++[e])->K false k)(ae:∀k h E,fu h t S=some E->PS w0 k rb (lU t2 t3 t4 D l_ bs s (.int .i64 0) (.int .i64 0) (o_ .ready none)++[e]) E->K true k):W.nl U l_ #[t.v] w K:=by
 obtain⟨lo,ai,st,wd⟩:=S;obtain⟨sl,G,f,ts,p,z,A,h3,h4,hb,H⟩:=H;have z:G.map FM.x=lo:=z;have A:f.x=ai:=A;subst z A;refine hY _ _ _ _ _ w K (H.ob 7) ?_;refine H.nw λw1 _ O=>O.OY 10 rfl λw2 P=>P.pu 7 rfl λw3 d=>⟨_,_,_,_,_,d.ld 10 0,d.ld 10 1,d.ld 10 2,d.ld 10 3,d.ld 10 4,?_⟩;have Q:SF F0 w0 w3 rb sl st wd G f (lU t2 t3 t4 D l_ bs s (.int .i64 0) (.int .i64 0) (o_ .busy none)++[e,.c w.heap.size (EK t) nk]) ts:=d;refine Q.xa h3 h4 (λak ag=>RO ag (bp y.lo (by omega)) (y.tp.mono (by omega)) y.s1 t) ?_;rintro r w4 L I F p4 ah aj M al aa ab Z ⟨h,af⟩ B;rcases af with⟨hn,rfl⟩|⟨hs,rfl⟩
 .refine ⟨false,rfl,aT rfl ?_⟩;refine B.dr λN q=>⟨t.a,q.ld 10 4,q.jQ 3 rfl λw6 C=>⟨C.ld 10 4,C.eC 4 rfl λw7 T=>T.eC 5 rfl λw8 V=>V.pu 7 rfl λw9 Y=>⟨false,rfl,ad w9 h hn ⟨L,I,F,M,ah,aj,?_⟩⟩⟩⟩;exact Y.take 10
 .refine ⟨true,rfl,aV rfl (B.pu 7 rfl λN q=>⟨true,rfl,ae N h _ hs ⟨L,I,F,M,p4,rfl,rfl,aa,ab,λb ac=>?_,q.take 10⟩⟩)⟩;rcases Z b ac with j|j|j
  .exact hb b j
  .exact j
  .exact j.elim
def Qw(w0:J)(rb t2 t3 t4 D l_ bs:Nat)(s:ByteArray)(o_:eg->Option Code->Obj)(V:J):Int⊕SX->Prop
 |.inl a=>PE w0 V rb (lU t2 t3 t4 D l_ bs s (.int .i64 a) (.int .i64 2) (o_ .done (some .ret)))
 |.inr d=>PS w0 V rb (lU t2 t3 t4 D l_ bs s (.int .i64 0) (.int .i64 0) (o_ .ready none)) d
def W6(hs:s.size<=4096)(hY:Fb s rb t2 t3 t4 l_ bs o_)(R:aC):∀(n i m:Nat) (S:SX) (w:J),s.size - i<n->i<=s.size->Inv S m->m+n<=900000->
  PS w0 w rb (lU t2 t3 t4 D l_ bs s (.int .i64 0) (.int .i64 0) (o_ .ready none)) S->
  (∀G res,pG (jj (bl s) n i) S res->Qw w0 rb t2 t3 t4 D l_ bs s o_ G res->R (ae (.tuple #[])) G)->yS.L0 l_ (ad bs) (i:Int) w R:=by
 intro n;induction n with
 |zero=>intro i m S w ah;omega
 |succ n ih=>
  intro i m S w hn hi I hm hP x;have hl:(bl s).length=s.size:=c9 s;have al:=hP;obtain⟨sl,N,f,ts,p,ai,aj,h3,h4,K,C⟩:=al;refine yS.cU _ _ _ _ _ ⟨s,C.cm 8,aS (λah=>⟨s,C.cm 8,by omega,_,kR (i:=i) (by omega),jk (n:=32) (by omega) (λT:(bl s).getD i 0=32=>?_) (λT:(bl s).getD i 0≠32=>⟨s,C.cm 8,C.call (Si s (by omega) i (by omega) w) ?_⟩)⟩) (λah=>⟨s,C.cm 8,?_⟩)⟩
  .rw [show aG .i64 ((i:Int)+1)=((i+1:Nat):Int)by rw[bm _ (by omega)];omega];refine ih (i+1) m S w (by omega) (by omega) I (by omega) hP (λG res Z V=>x G res ?_ V);unfold jj;rw[ag (by omega),ag T];exact Z
  .rintro _ w1 rfl L;have am:=PL (l:=bl s) (i:=i) (by omega);have M:jj (bl s) (n+1) i=(eE (bl s) i).1::jj (bl s) n (i+(eE (bl s) i).2):=by rw[jj,ag (by omega),ab T]
   rw[M]at x;refine⟨_,_,_,_,_,_,rfl,L.nw λw2 _ H2=>H2.OY 9 rfl λw7 E=>⟨_,_,_,_,_,E.ld 9 0,E.ld 9 1,E.ld 9 2,E.ld 9 3,E.ld 9 4,?_⟩⟩;have ak:SF F0 w0 w7 rb sl S.st S.wd N f (lU t2 t3 t4 D l_ bs s (.int .i64 0) (.int .i64 0) (o_ .ready none)++[.c w1.heap.size (EK (eE (bl s) i).1) nk]) ts:=E;refine MH hY I (by omega) (eE (bl s) i).1 (e:=.c w1.heap.size (EK (eE (bl s) i).1) nk) ⟨sl,N,f,ts,p,ai,aj,h3,h4,K,ak⟩ (λB y Y q=>aT rfl (x B (.inl (eE (bl s) i).1.a) ⟨y,.inl ⟨Y,rfl⟩⟩ ?_)) (λB y H F q=>aV rfl ?_)
   .obtain ⟨z,j,h,A,ac,af,d⟩:=q;exact⟨z,j,h,A,ac,af,d.take 9⟩
   .obtain ⟨z,j,h,A,p8,W,aa,O,P,Q,d⟩:=q;refine⟨_,d.ld 9 0,jk (n:=63) (by omega) (λhk:(eE (bl s) i).1.k=63=>?_) (λhk=>?_)⟩
    .rw [TE hk]at F;cases F
    .rw [show aG .i64 ((i:Int)+((eE (bl s) i).2:Int))=((i+(eE (bl s) i).2:Nat):Int)by rw[bm _ (by omega)];omega];refine ih (i+(eE (bl s) i).2) (m+1) H B (by omega) (by omega) (Bv I F) (by omega) ⟨z,j,h,A,p8,W,aa,O,P,Q,d.take 9⟩ (λG res Z V=>x G res ⟨y,.inr ⟨H,F,Z⟩⟩ V)
  .have M:jj (bl s) (n+1) i=[⟨36,0,0,[],(bl s).length⟩]:=by rw[jj,ab (by omega)]
   rw[M,hl]at x;have L:=C.push rV (Fr.refl _ _) trivial (λb K=>by cases K);refine MH hY I (by omega) ⟨36,0,0,[],(s.size:Int)⟩ (e:=rV) ⟨sl,N,f,ts,p,ai,aj,h3,h4,K,L⟩ (λB y Y q=>x B (.inl (s.size:Int)) ⟨y,.inl ⟨Y,rfl⟩⟩ ?_) (λB y H F q=>x B (.inr H) ⟨y,.inr ⟨H,F,rfl⟩⟩ ?_)
   .obtain ⟨z,j,h,A,ac,af,d⟩:=q;exact⟨z,j,h,A,ac,af,d.take 9⟩
   .obtain ⟨z,j,h,A,p8,W,aa,O,P,Q,d⟩:=q;exact⟨z,j,h,A,p8,W,aa,O,P,Q,d.take 9⟩
end
def qO:∀(a b:List Rx),Rx.aY (a++b)=Rx.aY a+Rx.aY b
 |[],b=>by simp[Rx.aY]
 |d::a,b=>by have:=qO a b;show d.sz+Rx.aY (a++b)=(d.sz+Rx.aY a)+Rx.aY b;omega
def oj(x:Rx):Rx.aY [x]=x.sz:=by simp[Rx.aY]
def Du(k:Int)(l:List Rx):(nZ k l).sz<=1+Rx.aY l:=by
 unfold nZ;split
 .rw [oj];omega
 .unfold Rx.sz;omega
def Di:∀(n:Nat) (r:Rx),(kM n r).sz=n+r.sz
 |0,r=>by unfold kM;omega
 |n+1,r=>by unfold kM;rw[Di n];unfold Rx.sz;rw[oj];cases r;simp only[Rx.sz];omega
def fz(f:FX):Nat:=Rx.aY f.ar.2+Rx.aY f.al+Rx.aY f.an+Rx.aY f.ca+f.n
def lz:List FX->Nat
 |[]=>0
 |f::l=>fz f+lz l
def xV:∀(a b:List FX),lz (a++b)=lz a+lz b
 |[],b=>by simp[lz]
 |d::a,b=>by have:=xV a b;show fz d+lz (a++b)=(fz d+lz a)+lz b;omega
def pz(S:SX):Nat:=lz S.lo+fz S.tp+(if S.st=0\/S.st=1\/S.st=2 then 0 else S.tp.la.sz)
def DM(S:SX):pz S<=lz S.lo+fz S.tp+S.tp.la.sz:=by unfold pz;split<;>omega
def Xk(S:SX):lz S.lo+fz S.tp<=pz S:=by unfold pz;omega
def n6{S:SX}(d:S.st=0\/S.st=1\/S.st=2):pz S=lz S.lo+fz S.tp:=by unfold pz;rw[ag d];omega
def Nk{S:SX}(d:¬(S.st=0\/S.st=1\/S.st=2)):pz S=lz S.lo+fz S.tp+S.tp.la.sz:=by unfold pz;rw[ab d]
def UM(f:FX):fz (i6 f)=fz f+f.la.sz:=by unfold fz i6;simp only[qO,oj,Di];omega
def OC(f:FX):fz (j2 f)<=fz f+f.la.sz+1:=by have d:=Du 3 (f.ca++[kM f.n f.la]);simp only[qO,oj,Di]at d;show Rx.aY f.ar.2+Rx.aY f.al+Rx.aY (f.an++[nZ 3 (f.ca++[kM f.n f.la])])+Rx.aY []+0<=_;unfold fz;simp only[qO,oj,Rx.aY];omega
def G9(f:FX):Rx.aY f.ar.2+Rx.aY (j1 f).al<=fz f+f.la.sz+2:=by have e:=Du 5 (j2 f).an;have h:=OC f;have d:fz (j2 f)=Rx.aY f.ar.2+Rx.aY f.al+Rx.aY (j2 f).an+0+0:=rfl;show Rx.aY f.ar.2+Rx.aY (f.al++[nZ 5 (j2 f).an])<=_;simp only[qO,oj];omega
def SQ(f:FX):fz (j1 f)<=fz f+f.la.sz+2:=by have:=G9 f;show Rx.aY f.ar.2+Rx.aY (j1 f).al+Rx.aY []+Rx.aY []+0<=_;simp only[Rx.aY];omega
def Bu(f:FX):Rx.aY f.ar.2+(cu f).sz<=fz f+f.la.sz+3:=by have d:=Du 4 (j1 f).al;have:=G9 f;show _+(nZ 4 (j1 f).al).sz<=_;omega
def BX{t:Tk}{S h:SX}(d:fv t S=some h):pz h<=lz S.lo+fz S.tp+1:=by
 have leaf:∀(k:Int) (a b:UInt8),(Rx.mk k a b []).sz=1:=λk a b=>by unfold Rx.sz;simp[Rx.aY]
 unfold fv at d;split at d
 .cases d;rw[n6 (.inl rfl)];show lz S.lo+(Rx.aY S.tp.ar.2+Rx.aY S.tp.al+Rx.aY S.tp.an+Rx.aY S.tp.ca+(S.tp.n+1))<=_;unfold fz;omega
 .split at d
  .cases d;rw[n6 (.inl rfl)];show lz (S.lo++[S.tp])+fz (kL (-1))<=_;rw[xV];have:fz (kL (-1))=0:=rfl;simp only[lz];omega
  .have e:∀(k:Int) (a b:UInt8),pz ⟨S.lo,iC S.tp (.mk k a b []),3,S.wd⟩<=lz S.lo+fz S.tp+1:=λk a b=>by refine bp (DM _) ?_;show lz S.lo+fz S.tp+(Rx.mk k a b []).sz<=_;rw[leaf];exact be _
   split at d
   .cases d;exact e _ _ _
   .split at d
    .split at d
     .cases d;exact e _ _ _
     .split at d
      .cases d;exact e _ _ _
      .split at d
       .cases d;rw[n6 (.inr (.inr rfl))];show lz S.lo+fz S.tp<=_;omega
       .split at d
        .cases d;rw[n6 (.inr (.inr rfl))];show lz S.lo+fz S.tp<=_;omega
        .split at d
         .cases d;rw[n6 (.inr (.inr rfl))];show lz S.lo+fz S.tp<=_;omega
         .cases d
    .cases d
def GW{S h:SX}{l:List Rx}(d:lg S l=some h):pz h<=lz S.lo+Rx.aY l+1:=by
 unfold lg at d;rcases qw S.lo with e|⟨a,g,e⟩
 .rw [e]at d;simp at d
 .rw [e]at d ⊢;simp at d;subst d;refine bp (DM _) ?_;show lz a+fz g+(l2 S.tp.k l).sz<=_;rw[xV];have:(l2 S.tp.k l).sz<=Rx.aY l+1:=by
   unfold l2;split
   .cases l with
    |nil=>exact(by show fh.sz<=_;unfold fh Rx.sz;simp[Rx.aY])
    |cons j l=>show j.sz<=_;unfold Rx.aY;omega
   .unfold Rx.sz;omega
  simp only[lz];omega
def TG{s':Sl}{t:Tk}{S h:SX}(d:fu s' t S=some h):pz h<=pz S+4:=by
 have x:=Xk S;unfold fu at d;split at d
 .split at d
  .cases d;rw[n6 (.inr (.inl rfl))];show lz (S.lo++[S.tp])+fz (kL S.wd)<=_;rw[xV];have:fz (kL S.wd)=0:=rfl;simp only[lz];omega
  .cases d
 .rename_i w;split at d
  .split at d
   .have:=GW d;simp only[Rx.aY]at this;omega
   .have:=BX d;omega
  .rename_i q;split at d
   .have:=BX d;omega
   .rename_i k;have y:=Nk (S:=S) (by rintro(e|e|e)<;>contradiction);split at d
    .cases d;refine bp (DM _) ?_;show lz S.lo+fz S.tp+(Rx.mk 7 0 0 [S.tp.la]).sz<=_;have:(Rx.mk 7 0 0 [S.tp.la]).sz=1+S.tp.la.sz:=by show 1+Rx.aY [S.tp.la]=_;rw[oj]
     omega
    .split at d
     .cases d;rw[n6 (.inl rfl)];show lz S.lo+fz (j2 S.tp)<=_;have:=OC S.tp;omega
     .split at d
      .cases d;rw[n6 (.inl rfl)];show lz S.lo+fz (j1 S.tp)<=_;have:=SQ S.tp;omega
      .split at d
       .split at d
        .cases d
        .cases d;rw[n6 (.inl rfl)];show lz S.lo+(Rx.aY (S.tp.ar.2++[cu S.tp])+Rx.aY []+Rx.aY []+Rx.aY []+0)<=_;have:=Bu S.tp;simp only[qO,oj,Rx.aY];omega
       .split at d
        .split at d
         .cases d
         .have j:=GW d;have:=Bu S.tp;simp only[qO,oj]at j;omega
        .split at d
         .split at d
          .cases d;omega
          .cases d
         .have j:=BX d;have:=UM S.tp;have e:lz (SX.mk S.lo (i6 S.tp) S.st S.wd).lo+fz (SX.mk S.lo (i6 S.tp) S.st S.wd).tp=lz S.lo+fz (i6 S.tp):=rfl;omega
def TF{s':Sl}{a:Int}{S e:SX}(d:fu s' ⟨36,0,0,[],a⟩ S=some e):e=S/\¬(S.st=0\/S.st=1\/S.st=2):=by
 have it:∀S,fv ⟨36,0,0,[],a⟩ S=none:=λS=>rfl;unfold fu at d;rw[it]at d;split at d
 .cases d
 .split at d
  .cases d
  .split at d
   .cases d
   .refine ⟨?_,by rintro(j|j|j)<;>contradiction⟩;have h:(if S.lo=[]then some S else none)=some e:=d;split at h
    .cases h;rfl
    .cases h
def Ee(l:List UInt8):∀(n i:Nat) (S d:SX),l.length - i<n->pG (jj l n i) S (.inr d)->(cu d.tp).sz<=pz S+4 *n+4
 |0,i,S,d,z,_=>by omega
 |n+1,i,S,d,z,e=>by
  unfold jj at e;split at e
  .split at e
   .have:=Ee l n (i+1) S d (by omega) e;omega
   .rename_i A _;have C:=PL A;obtain⟨B,⟨_,q⟩|⟨h,j,k⟩⟩:=e
    .cases q
    .have:=Ee l n (i+(eE l i).2) h d (by omega) k;have:=TG j;omega
  .obtain ⟨B,⟨_,q⟩|⟨h,j,k⟩⟩:=e
   .cases q
   .have w:d=h:=by have:Sum.inr d=(Sum.inr h:Int⊕SX):=k;cases this;rfl
    obtain⟨x,y⟩:=TF j;subst w x;have:=Nk y;have:=Bu d.tp;omega
def Vx{M:Nat->Prop}{w0 w:J}{L D:List En}(H:O M w0 w L D)(is k:List Nat)(A:is.Perm k)(x:k.map (λd=>L.getD d rV)=L):O M w0 w (is.map λd=>L.getD d rV) D:=by
 have j:(is.map λd=>L.getD d rV).Perm L:=by
  have:=A.map (λd=>L.getD d rV)
  rwa[x]at this
 exact⟨H.fr,λe h=>H.own e (j.mem_iff.1 h),H.rd,λe h=>H.new e (j.mem_iff.1 h),((j.flatMap_right _).nodup_iff).2 H.nd,λe h b y q z=>H.dj e h b y q (j.mem_iff.1 z)⟩
def XD{d:J}{l:Nat}{o:eg->Option Code->Obj}{N:J->Prop}{X:Nat->J->Prop}{T:J->Prop}(e:gN d l (o .ready none) (o .exhausted none) N):pF d l o N X T:=.inl e
def XE{d:J}{l:Nat}{o:eg->Option Code->Obj}{N:J->Prop}{X:Nat->J->Prop}{T:J->Prop}(e:gN d l (o .done (some .ret)) (o .exhausted (some .ret)) T):pF d l o N X T:=.inr (.inr e)
def I1{b:Nat}(d:b∈I.a8 [.mk 0 0 0 ⟨none,0,0⟩ []]):False:=by have:=xI (ts:=[]) (k:=0) (lo:=0) (hi:=0) (b:=b) d;unfold I.a8 at this;cases this
def tq:SX:=⟨[],kL (-1),0,0⟩
def ID:Inv tq 0:=by
 refine⟨be _,λf e=>?_,Ep _ _,λd=>?_,λd=>?_⟩
 .cases e
 .have:(0:Int)=1:=d;omega
 .have:(0:Int)=2:=d;omega
def Ec(l:List UInt8):∀(n i m:Nat) (S d:SX),Inv S m->pG (jj l n i) S (.inr d)->Inv d (m+n)
 |0,i,m,S,d,j,e=>by have q:(Sum.inr d:Int⊕SX)=.inr S:=e;cases q;exact j
 |n+1,i,m,S,d,j,e=>by
  have A:∀{S:SX} {a b:Nat},Inv S a->a<=b->Inv S b:=λh y=>⟨bp h.lo y,λf B=>(h.sl f B).mono y,h.tp.mono y,h.s1,h.s2⟩;unfold jj at e;split at e
  .split at e
   .exact A (Ec l n _ m S d j e) (by omega)
   .obtain ⟨C,⟨_,z⟩|⟨k,w,x⟩⟩:=e
    .cases z
    .exact A (Ec l n _ (m+1) k d (Bv j w) x) (by omega)
  .obtain ⟨C,⟨_,z⟩|⟨k,w,x⟩⟩:=e
   .cases z
   .have q:(Sum.inr d:Int⊕SX)=.inr k:=x;cases q;exact A (Bv j w) (by omega)
def Qx(w:J)(s:ByteArray):aC:=λr e=>ah w e/\
 ((4096<s.size/\r=ae (.tuple #[.agg #[.int .i64 0,.int .u8 0,.int .u8 0,.slice none 0 0],.int .i64 4096,.int .i64 4]))\/
  (s.size<=4096/\∃res,pG (jj (bl s) (s.size+1) 0) tq res/\((∃a,res=.inl a/\r=ae (.tuple #[.agg #[.int .i64 0,.int .u8 0,.int .u8 0,.slice none 0 0],.int .i64 a,.int .i64 2]))\/
   ∃d,res=.inr d/\((64<(cu d.tp).sz/\r=ae (.tuple #[.agg #[.int .i64 0,.int .u8 0,.int .u8 0,.slice none 0 0],.int .i64 (s.size:Int),.int .i64 4]))\/
    ((cu d.tp).sz<=64/\∃t:I,r=ae (.tuple #[t.v,.int .i64 0,.int .i64 0])/\t.rx=cu d.tp/\t.P e/\∀b∈t.fp,w.heap.size<=b)))))
def Ga(s:ByteArray)(w:J):aj U KP #[.string s] w (Qx w s):=by
 refine DY.ok _ w _ ((bO [] (λ_ x=>by cases x)).nw λN _ H1=>H1.nw λQ _ H2=>H2.nw λw3 _ H3=>aS (λx=>?_) (λx=>?_))
 .refine H3.jQ 0 rfl λw4 H4=>H4.eC 1 rfl λw5 W=>W.eC 2 rfl λw6 q=>⟨_,_,_,⟨none,0,0⟩,q.ld 0 0,q.ld 0 1,q.ld 0 2,q.ld 0 3,_,q.cm 1,_,q.cm 2,q.fr,.inl ⟨by omega,rfl⟩⟩
 have L:s.size<=4096:=by omega
 have hl:(bl s).length=s.size:=c9 s;refine H3.eK (e:=hQ) (sz:=10) (n:=1) (cs:=(iN (-1)).c) rfl (by decide) λO ah=>ah.nw λaq _ T=>?_;refine T.eC 4 rfl λar y=>y.st 4 1 rfl λaf E=>E.st 4 2 rfl λB F=>?_;refine N1.ok _ B _ (F.nw λh _ k=>⟨_,rfl,?_⟩);show ∀A:eg->Option Code->Obj,_;intro A hY;have e1:(h.alloc (.deferred (some []))).heap.size=h.heap.size+1:=size_alloc _ _;have HG:=(k.alloc (.deferred (some []))).alloc (A .ready none);rw[e1]at HG;have hP:(En.rows (([]++[iN (-1)]:List FM).flatMap FM.rows)).P ((h.alloc (.deferred (some []))).alloc (A .ready none)):=by refine⟨λap K=>?_,by decide⟩;have K:ap∈[((⟨none,0,0⟩,[]):dG),(⟨none,0,0⟩,[]),(⟨none,0,0⟩,[]),(⟨none,0,0⟩,[])]:=K;simp only[aE,aZ,a2,or_self]at K;subst K;exact aK.nil _ _ _
 have Ha:=(HG.push (.rows (([]++[iN (-1)]:List FM).flatMap FM.rows)) (Fr.refl _ _) hP (λb j=>by
  have j:=a4.1 j;have j:b∈([]:List Nat):=j;cases j)).ek (.trees [.mk 0 0 0 ⟨none,0,0⟩ []]) (Fr.refl _ _) (I.iP λt M=>by
   simp at M;subst M;show I.P _ _;unfold I.P I.Ps;exact⟨br.nil 4 _,trivial⟩) (λb j=>by exact(I1 (a4.1 j)).elim)
 have Hb:=Vx Ha [4,3,8,0,1,2,6,7,5] [0,1,2,3,4,5,6,7,8] (by decide) rfl;have HS:SF F0 w ((h.alloc (.deferred (some []))).alloc (A .ready none)) O.heap.size ⟨some (ad w3.heap.size),1,1⟩ 0 0 [] (iN (-1)) (lU w.heap.size N.heap.size Q.heap.size h.heap.size (h.heap.size+1) B.heap.size s (.int .i64 0) (.int .i64 0) (A .ready none)) [.mk 0 0 0 ⟨none,0,0⟩ []]:=Hb;refine yS.ok _ _ _ _ (W6 (w0:=w) (rb:=O.heap.size) (t2:=w.heap.size) (t3:=N.heap.size) (t4:=Q.heap.size) (D:=h.heap.size) (l_:=h.heap.size+1) (bs:=B.heap.size) L hY _ (s.size+1) 0 0 tq _ (by omega) (by omega) ID (by omega)
  ⟨_,[],iN (-1),_,_,rfl,rfl,λg hg t M=>?_,rfl,λb j=>?_,HS⟩ (λw' res G he=>⟨⟨_,rfl⟩,?_⟩))
 .simp at hg;subst hg;simpa[FM.ts,iN]using M
 .exact (I1 j).elim
 cases res with
 |inl a=>
  obtain⟨sl,H,f,aa,st,aJ,S⟩:=he;refine XE (S.pu 7 rfl λaq T=>T.pu 6 rfl λh k=>⟨_,_,_,⟨none,0,0⟩,k.ld 3 0,k.ld 3 1,k.ld 3 2,k.ld 3 3,_,k.cm 4,_,k.cm 5,k.fr,.inr ⟨L,_,G,.inl ⟨a,rfl,rfl⟩⟩⟩)
 |inr z=>
  obtain⟨sl,H,f,aa,p,an,ac,h3,h4,j,S⟩:=he;have hI:=Ec _ _ _ _ _ _ ID G;have ao:=Ee _ _ _ _ _ (by omega) G;rw[show pz tq=0 from rfl]at ao;have am:H.length<=1000000:=by have:=hI.lo;rw[<-an]at this;simp at this;omega
  refine XD (S.pu 7 rfl λw5 W=>?_);have ab:SF F0 w w5 O.heap.size sl z.st z.wd H f (lU w.heap.size N.heap.size Q.heap.size h.heap.size (h.heap.size+1) B.heap.size s (.int .i64 0) (.int .i64 0) (A .exhausted none)) aa:=W;refine ab.call (wZ ab h4 am) ?_;rintro _ w6 rfl q;have ai:SF F0 w w6 O.heap.size sl z.st z.wd H f (lU w.heap.size N.heap.size Q.heap.size h.heap.size (h.heap.size+1) B.heap.size s (.int .i64 0) (.int .i64 0) (A .exhausted none)) aa:=q;refine⟨_,rfl,ai.xa h3 h4 (λaF s1=>wW s1 (by rw[ac];exact hI.tp.mono (by omega))) ?_⟩;rintro r w7 aG av f3 p3 aH aL ae aI aw ax ak ⟨aB,az,aA,rfl,rfl,u,Y,rfl,Z⟩ H7;rw[ac]at Z;have aD:u.sz=(cu z.tp).sz:=by rw[<-Z,I.dR]
  refine⟨_,_,_,u.s,rfl,H7.nw λw8 _ H8=>H8.jQ 9 rfl λw9 C=>⟨_,_,_,u.s,C.ld 9 0,C.ld 9 1,C.ld 9 2,C.ld 9 3,C.call (AS u w9 (by omega) ((show I.Ps w9 ae from C.getD 0).mem Y)) ?_⟩⟩;rintro _ ar rfl y;refine⟨_,rfl,aS (λay=>?_) (λaC=>?_)⟩
  .refine y.jQ 3 rfl λaf E=>E.eC 4 rfl λB F=>F.eC 5 rfl λau V=>V.pu 6 rfl λag d=>⟨_,_,_,⟨none,0,0⟩,d.ld 3 0,d.ld 3 1,d.ld 3 2,d.ld 3 3,_,d.cm 4,_,d.cm 5,d.fr,.inr ⟨L,_,G,.inr ⟨z,rfl,.inl ⟨by omega,rfl⟩⟩⟩⟩
  .refine ⟨_,_,_,u.s,y.ld 9 0,y.ld 9 1,y.ld 9 2,y.ld 9 3,y.jQ 3 rfl λaf E=>E.eC 4 rfl λB F=>F.eC 5 rfl λau V=>V.pu 6 rfl λag d=>⟨_,_,_,u.s,d.ld 3 0,d.ld 3 1,d.ld 3 2,d.ld 3 3,_,d.cm 4,_,d.cm 5,d.fr,.inr ⟨L,_,G,.inr ⟨z,rfl,.inr ⟨by omega,u,rfl,Z,(show I.Ps ag ae from d.getD 0).mem Y,λb al=>?_⟩⟩⟩⟩⟩;rcases ak b (I.bK.2 ⟨u,Y,al⟩)with x|x|x
   .exact j b x
   .exact x
   .exact x.elim
def E5:Sl:=⟨none,0,0⟩
def er(f:FX):FX:=⟨f.k,(E5,f.ar.2),f.al,f.an,f.ca,f.n,f.la⟩
def eU(S:SX):SX:=⟨S.lo.map er,er S.tp,S.st,S.wd⟩
def BV(t:Tk)(S:SX):(fv t S).map eU=fv t (eU S):=by
 have d:er (kL (-1))=kL (-1):=rfl;have e:(S.lo++[S.tp]).map er=S.lo.map er++[er S.tp]:=by simp
 unfold fv;split
 .rfl
 .split
  .simp only[Option.map_some,eU,d,e]
  .split
   .rfl
   .split
    .split
     .rfl
     .split
      .rfl
      .split
       .rfl
       .split
        .rfl
        .split<;>rfl
    .rfl
def GU(S:SX)(l:List Rx):(lg S l).map eU=lg (eU S) l:=by
 unfold lg;rcases qw S.lo with d|⟨a,g,d⟩
 .simp [d,eU]
 .have e:(eU S).lo=a.map er++[er g]:=by simp[eU,d]
  rw[d,e];simp[eU];rfl
def H3(s':Sl)(t:Tk)(S:SX):(fu s' t S).map eU=fu E5 t (eU S):=by
 have q:(S.lo++[S.tp]).map er=S.lo.map er++[er S.tp]:=by simp
 have h:(eU S).st=S.st:=rfl;have j:(eU S).tp.k=S.tp.k:=rfl;unfold fu;rw[h,j];by_cases e:S.st=2
 .rw [ag e,ag e];split
  .show some (eU ⟨S.lo++[S.tp],kL S.wd,1,S.wd⟩)=some ⟨S.lo.map er++[er S.tp],kL S.wd,1,S.wd⟩;rw[<-q];rfl
  .rfl
 rw[ab e,ab e];split
 .split
  .exact GU S []
  .exact BV t S
 .split
  .exact BV t S
  .split
   .rfl
   .split
    .rfl
    .split
     .rfl
     .split
      .split<;>rfl
      .split
       .by_cases d:S.lo=[]
        .rw [ag d,ag (show(eU S).lo=[]by simp[eU,d])];rfl
        .rw [ab d,ab (show ¬(eU S).lo=[]by simp[eU,d])];exact GU S _
       .split
        .by_cases d:S.lo=[]
         .rw [ag d,ag (show(eU S).lo=[]by simp[eU,d])];rfl
         .rw [ab d,ab (show ¬(eU S).lo=[]by simp[eU,d])];rfl
        .exact BV t ⟨S.lo,i6 S.tp,S.st,S.wd⟩
def vL:List Tk->SX->Int⊕SX
 |[],d=>.inr d
 |t::h,d=>match fu E5 t d with
  |none=>.inl t.a
  |some e=>vL h e
def HP:Int⊕SX->Int⊕SX
 |.inl a=>.inl a
 |.inr d=>.inr (eU d)
def Om:∀(ts:List Tk) (S:SX) (r:Int⊕SX),pG ts S r->HP r=vL ts (eU S)
 |[],S,r,d=>by have d:r=.inr S:=d;subst d;rfl
 |t::ts,S,r,d=>by
  obtain⟨j,⟨e,h⟩|⟨k,e,h⟩⟩:=d
  .subst h;have:=H3 j t S;rw[e]at this;unfold vL;rw[<-this];rfl
  .have:=H3 j t S;rw[e]at this;unfold vL;rw[<-this];exact Om ts k r h
def g6(l:List UInt8):Int⊕SX:=vL (jj l (l.length+1) 0) tq
def PU{s:ByteArray}{r:Int⊕SX}(d:pG (jj (bl s) (s.size+1) 0) tq r):HP r=g6 (bl s):=by have:=Om _ _ _ d;rw[this];unfold g6;rw[c9];rfl
def r5(S:SX):cu (eU S).tp=cu S.tp:=rfl
def iO(t:BL):Bool:=bif Nat.blt 4096 t.length then false else match g6 t with
 |.inl _=>false
 |.inr d=>bif Nat.blt 64 (cu d.tp).sz then false else
  if jI (cu d.tp)=0 then(if hR (fw (cu d.tp))=0 then cy 0 (fw (cu d.tp)) (a6 (fw (cu d.tp)))==t else false)else false
structure aU where
 k:Int
 n:Int
 x:Int
deriving DecidableEq
structure Nx where
 op:Int
 kids:List Int
 n:Int
 m:Int
 u:Int
 tx:ByteArray
 st:aU
deriving DecidableEq
def bg:aU:=⟨0,0,0⟩
def a'(n:Int):aU:=⟨0,n,0⟩
def eN(n:Int):aU:=⟨1,n,0⟩
def bo(s:aU):Bool:=(s.k==0&&ao (1<=s.n)&&ao (s.n<=64)&&s.x==0)||(s.k==1&&ao (0<=s.n)&&ao (s.n<=64)&&s.x==0)||(s.k==2&&ao (1<=s.n)&&ao (s.n<=64)&&ao (1<=s.x)&&ao (s.x<=16))||(s.k==3&&ao (0<=s.n)&&ao (s.n<=64)&&ao (1<=s.x)&&ao (s.x<=16))
def fy(s:aU):Int:=if bo s then 0 else 9
def dP(s:aU):Bool:=s.k==2||s.k==3
def cl(op:Int):Int:=if op<0\/34<op then -1 else if op<=3 then 0 else if op=4\/op=5\/op=21\/op=22\/op=23\/op=27\/op=28\/op=33\/op=34 then 1 else if op=19\/op=25\/op=30\/op=32 then 3 else 2
def lq(op:Int):Bool:=op==21||op==22||op==23||op==28
def lr(op:Int):Bool:=op==0||op==2||op==33
def hq(n:Nx):Bool:=(lq n.op||n.n==0)&&(n.op==21||n.m==0)&&(n.op==1||n.u==0)&&(lr n.op||ao (n.tx=ba []))
def eu(g:List Nx)(k:Int):Bool:=ao (0<=k)&&ao (k<(g.length:Int))
def fJ(c:UInt8):Bool:=ao (97<=c.toNat)&&ao (c.toNat<=122)
def dC(c:UInt8):Bool:=fJ c||(ao (48<=c.toNat)&&ao (c.toNat<=57))||c==45
def h8(l:List UInt8):Bool:=match l with
 |[]=>false
 |c::m=>ao (m.length<=15)&&fJ c&&m.all dC
def g8:List Nx->ByteArray->Option aU
 |[],_=>none
 |d::g,t=>if d.op=0/\d.tx=t then some d.st else g8 g t
def lL(g:List Nx)(n:Nx):Bool:=match g8 g n.tx with
 |some s=>!decide (s=n.st)
 |none=>false
def kB(u n:Int):Bool:=ao (n<64)&&ao (2^n.toNat<=u)
def bQ(g:List Nx)(n:Nx):aU×Int:=
 if n.op=2 then(if 64<n.tx.size then(bg,5)else(eN n.tx.size,0))else
 if n.op=0/\h8 (bl n.tx)=false then(bg,6)else
 if bo n.st=false then(bg,9)else
 if n.op=1/\n.st.k≠0\/n.op=3/\dP n.st=false then(bg,9)else
 if n.op=1/\kB n.u n.st.n=true then(bg,5)else
 if n.op=0/\lL g n=true then(bg,8)else(n.st,0)
def hH(s:aU):aU:=if s.k=2 then a' s.n else eN s.n
def cR(op:Int)(x y d:aU):Bool:=
 if op=4\/op=5\/op=21\/op=22\/op=23 then x.k==0 else
 if op=18 then ao (x=y)||(x.k==1&&y.k==1)else
 if op=19 then ao (x=a' 1)&&(ao (y=d)||(y.k==1&&d.k==1))else
 if op=20 then x.k==0&&y.k==0 else
 if op=24 then dP x&&ao (y=a' x.x)else
 if op=25 then dP x&&ao (y=a' x.x)&&(ao (d=hH x)||(x.k==3&&d.k==1&&ao (d.n<=x.n)))else
 if op=26 then dP x&&ao (x=y)else
 if op=27\/op=28\/op=33 then x.k==1 else
 if op=29\/op=31 then x.k==1&&y.k==1 else
 if op=30 then x.k==1&&ao (y=a' 7)&&ao (d=a' 7)else
 if op=32 then x.k==1&&y.k==1&&d.k==1 else
 if op=34 then ao (x=a' 8)else x.k==0&&ao (x=y)
def hx(n:Nx)(x y d:aU):aU:=
 if n.op=16\/n.op=17\/n.op=18\/n.op=33 then a' 1 else
 if n.op=19 then(if y.k=1 then eN (if y.n<d.n then d.n else y.n)else y)else
 if n.op=20 then a' (x.n+y.n)else
 if n.op=21 then a' (n.n - n.m+1)else
 if n.op=22\/n.op=23 then a' (x.n+n.n)else
 if n.op=24 then hH x else
 if n.op=26 then a' x.x else
 if n.op=27\/n.op=31 then a' 7 else
 if n.op=28 then a' 8 else
 if n.op=29 then eN (x.n+y.n)else
 if n.op=32 then eN (x.n+d.n)else
 if n.op=34 then eN 1 else x
def ie(n:Nx)(x y d:aU):Bool:=
 if n.op=20\/n.op=29 then ao (x.n+y.n<=64)else
 if n.op=21 then ao (0<=n.m)&&ao (n.m<=n.n)&&ao (n.n<x.n)else
 if n.op=22\/n.op=23 then ao (1<=n.n)&&ao (n.n<=64 - x.n)else
 if n.op=28 then ao (0<=n.n)&&ao (n.n<=63)else
 if n.op=32 then ao (x.n+d.n<=64)else true
def bx(g:List Nx)(n:Nx)(i:Nat):aU:=match n.kids[i]? with
 |some e=>match g[e.toNat]? with
  |some d=>d.st
  |none=>bg
 |none=>bg
def kD(t:ByteArray):Bool:=iO (bl t)
def bF(g:List Nx)(n:Nx):aU×Int:=
 if(cl n.op==(n.kids.length:Int)&&n.kids.all (eu g)&&hq n)=false then(bg,1)else
 if n.op<=3 then bQ g n else
 if cR n.op (bx g n 0) (bx g n 1) (bx g n 2)=false then(bg,9)else
 if ie n (bx g n 0) (bx g n 1) (bx g n 2)=false then(bg,5)else
 if n.op=33/\kD n.tx=false then(bg,2)else(hx n (bx g n 0) (bx g n 1) (bx g n 2),0)
def dD(n:Nx)(s:aU):Nx:={n with st:=s}
def e5(n:Nx):List Nx->Nat->Option Nat
 |[],_=>none
 |d::g,i=>if d=n then some i else e5 n g (i+1)
def b6(g:List Nx)(n:Nx):List Nx×Int×Int:=
 if(bF g n).2≠0 then([],0,(bF g n).2)else
 match e5 (dD n (bF g n).1) g 0 with
 |some i=>(g,i,0)
 |none=>if 4096<=g.length then([],0,4)else(g++[dD n (bF g n).1],g.length,0)
inductive Vg:List Nx->Prop
 |nil:Vg []
 |snoc {g:List Nx} {n:Nx}:Vg g->bF g n=(n.st,0)->n∉g->Vg (g++[n])
structure Nd where
 x:Nx
 ks:Sl
abbrev dq(s:aU):aa:=.agg #[.i s.k,.i s.n,.i s.x]
namespace Nd
def c(d:Nd):List aa:=[.i d.x.op,d.ks.v,.i d.x.n,.i d.x.m,.u d.x.u,.string d.x.tx,.i d.x.st.k,.i d.x.st.n,.i d.x.st.x]
abbrev v(d:Nd):aa:=.agg #[.i d.x.op,d.ks.v,.i d.x.n,.i d.x.m,.u d.x.u,.string d.x.tx,.i d.x.st.k,.i d.x.st.n,.i d.x.st.x]
def oJ(d:Nd):(c d).length=9:=rfl
def gZ(l:List Nd):(l.flatMap c).length=l.length *9:=nJ c 9 oJ l
abbrev P(w:J)(d:Nd):Prop:=bW w d.ks d.x.kids
structure hc(w:J)(p:Addr)(i:Nat)(d:Nd):Prop where
 c0:w.cell? ((p.add (i *9)).add 0)=some (.i d.x.op)
 c1:w.cell? ((p.add (i *9)).add 1)=some d.ks.v
 c2:w.cell? ((p.add (i *9)).add 2)=some (.i d.x.n)
 c3:w.cell? ((p.add (i *9)).add 3)=some (.i d.x.m)
 c4:w.cell? ((p.add (i *9)).add 4)=some (.u d.x.u)
 c5:w.cell? ((p.add (i *9)).add 5)=some (.string d.x.tx)
 c6:w.cell? ((p.add (i *9)).add 6)=some (.i d.x.st.k)
 c7:w.cell? ((p.add (i *9)).add 7)=some (.i d.x.st.n)
 c8:w.cell? ((p.add (i *9)).add 8)=some (.i d.x.st.x)
def cb{w:J}{s:Sl}{l:List Nd}(d:br 9 w s (l.flatMap c)):s.n=l.length:=by have:=d.1;rw[gZ]at this;omega
def a3{w:J}{s:Sl}{l:List Nd}(h:br 9 w s (l.flatMap c)){i:Nat}{d:Nd}(hi:l[i]? =some d){K:Addr->Prop}(j:∀p,s.a=some p->hc w p i d->K p):dJ s.a K:=
 fD.elem (f:=c) (sz:=9) oJ (by omega) h.2.2 hi λp k e=>j p k ⟨e 0 _ rfl,e 1 _ rfl,e 2 _ rfl,e 3 _ rfl,e 4 _ rfl,e 5 _ rfl,e 6 _ rfl,e 7 _ rfl,e 8 _ rfl⟩
def again{w:J}{s:Sl}{l:List Nd}(x:br 9 w s (l.flatMap c)){i:Nat}{d:Nd}(hi:l[i]? =some d){p:Addr}(z:s.a=some p):hc w p i d:=by have j:=a3 x hi (K:=λh=>∃k,s.a=some k/\hc w k i d) (λh e y=>⟨h,e,y⟩);rw[z]at j;obtain⟨h,e,q⟩:=j;cases e;exact q
end Nd
abbrev xs(l:List Nd):List Nx:=l.map Nd.x
def GP(w:J)(s:Sl)(l:List Nd):Prop:=br 9 w s (l.flatMap Nd.c)/\∀d∈l,d.P w
abbrev cg(d:Nd):En:=.rd d.ks (d.x.kids.map ct)
def _root_.Go.W.En.gr(s:Sl)(l:List Nd):En:=.all (.a7 9 s (l.flatMap Nd.c)::l.map cg)
def bc{w:J}{s:Sl}{l:List Nd}:(En.gr s l).P w↔GP w s l:=by
 constructor
 .exact λd=>⟨d (.a7 9 s (l.flatMap Nd.c)) (by simp),λe h=>d (cg e) (List.mem_cons_of_mem _ (cz.2 ⟨e,h,rfl⟩))⟩
 .intro d k j;rcases aE.1 j with rfl|j
  .exact d.1
  .obtain ⟨e,h,rfl⟩:=cz.1 j;exact d.2 e h
def sa{s:Sl}{l:List Nd}{b:Nat}:b∈(En.gr s l).fp↔b∈(En.a7 9 s (l.flatMap Nd.c)).fp\/∃e∈l,b∈(cg e).fp:=by
 unfold En.gr En.all;rw[a4,bB];constructor
 .rintro ⟨k,j,d⟩;rcases aE.1 j with rfl|j
  .exact .inl d
  .obtain ⟨e,h,rfl⟩:=cz.1 j;exact .inr ⟨e,h,d⟩
 .rintro (d|⟨e,h,d⟩)
  .exact ⟨_,List.mem_cons_self ..,d⟩
  .exact ⟨_,List.mem_cons_of_mem _ (cz.2 ⟨e,h,rfl⟩),d⟩
def h6{w:J}{s:Sl}{l:List Nd}(d:GP w s l):s.n=l.length:=Nd.cb d.1
def e4{w:J}{s:Sl}{l:List Nd}(e:GP w s l){i:Nat}{d:Nd}{X:Int}(h:X=(i:Int))(hi:l[i]? =some d){K:Addr->Prop}(j:∀p,s.a=some p->Nd.hc w p (a1 X) d->K p):mA s X K:=by have q:=h6 e;have k:=(cr.1 hi).1;subst h;exact⟨by omega,by omega,Nd.a3 e.1 hi j⟩
def ou{l:List Nd}{i:Nat}{d:Nd}(e:l[i]? =some d):(xs l)[i]? =some d.x:=by simp[xs,e]
namespace Nd
def hc.s0{w:J}{p:Addr}{i:Nat}{d:Nd}(e:hc w p i d):w.cell? (((p.add (i *9)).add 6).add 0)=some (.i d.x.st.k):=by rw[add_add];exact e.c6
def hc.s1{w:J}{p:Addr}{i:Nat}{d:Nd}(e:hc w p i d):w.cell? (((p.add (i *9)).add 6).add 1)=some (.i d.x.st.n):=by rw[add_add];exact e.c7
def hc.s2{w:J}{p:Addr}{i:Nat}{d:Nd}(e:hc w p i d):w.cell? (((p.add (i *9)).add 6).add 2)=some (.i d.x.st.x):=by rw[add_add];exact e.c8
end Nd
def BI{w:J}{s:Sl}{l:List Nd}(e:GP w s l){i:Nat}{d:Nd}(hi:l[i]? =some d){p:Addr}(j:s.a=some p){X:Int}(h:X=(i:Int)):Nd.hc w p (a1 X) d:=by subst h;exact Nd.again e.1 hi j
def gl(s:aU):List aa:=[.i s.k,.i s.n,.i s.x]
def OX(l:List aU):(l.flatMap gl).length=l.length *3:=nJ gl 3 (λ_=>rfl) l
structure Ai(w:J)(p:Addr)(i:Nat)(s:aU):Prop where
 c0:w.cell? ((p.add (i *3)).add 0)=some (.i s.k)
 c1:w.cell? ((p.add (i *3)).add 1)=some (.i s.n)
 c2:w.cell? ((p.add (i *3)).add 2)=some (.i s.x)
def YN{w:J}{s:Sl}{l:List aU}(d:br 3 w s (l.flatMap gl)):s.n=l.length:=by have:=d.1;rw[OX]at this;omega
def dY{w:J}{s:Sl}{l:List aU}(e:br 3 w s (l.flatMap gl)){i:Nat}{x:aU}{X:Int}(h:X=(i:Int))(hi:l[i]? =some x){K:Addr->Prop}(j:∀p,s.a=some p->Ai w p (a1 X) x->K p):mA s X K:=by have y:=YN e;have q:=(cr.1 hi).1;subst h;exact⟨by omega,by omega,fD.elem (f:=gl) (sz:=3) (λ_=>rfl) (by omega) e.2.2 hi λp k d=>j p k ⟨d 0 _ rfl,d 1 _ rfl,d 2 _ rfl⟩⟩
def fP{w:J}{s:Sl}{l:List aU}(q:br 3 w s (l.flatMap gl)){i:Nat}{x:aU}{X:Int}(y:X=(i:Int))(hi:l[i]? =some x){p:Addr}(A:s.a=some p):Ai w p (a1 X) x:=by have h:=(dY q y hi (K:=λe=>∃j,s.a=some j/\Ai w j (a1 X) x) (λe d z=>⟨e,d,z⟩)).2.2;rw[A]at h;obtain⟨e,d,k⟩:=h;cases d;exact k
def km(a b:aU):((a.k==b.k)&&((a.n==b.n)&&((a.x==b.x)&&true)))=ao (a=b):=by cases a;cases b;simp only[aU.mk.injEq,Bool.and_true,Bool.decide_and];rfl
def wg(a b:ByteArray):(a.toList==b.toList)=ao (a=b):=by
 rw[ByteArray.toList_eq,ByteArray.toList_eq];have d:(a.data.toList=b.data.toList)↔a=b:=⟨λd=>ByteArray.ext (Array.toList_inj.1 d),λd=>by rw[d]⟩;rw[<-decide_eq_decide.2 d];cases e:ao (a.data.toList=b.data.toList)with
 |true=>rw[eZ e];simp
 |false=>exact beq_eq_false_iff_ne.2 (kq e)
section
variable {A B:Prop}
def y6{a b:ByteArray}(d:a=b->A)(e:a≠b->B):bq (a.toList==b.toList) A B:=by rw[wg];exact aS d e
def mg{a b:aU}(d:a=b->A)(e:a≠b->B):bq ((a.k==b.k)&&((a.n==b.n)&&((a.x==b.x)&&true))) A B:=by rw[km];exact aS d e
def vP{a b:aU}(e:a≠b->A)(h:a=b->B):bq (!((a.k==b.k)&&((a.n==b.n)&&((a.x==b.x)&&true)))) A B:=by rw[km];exact ey (λd=>e (kq d)) (λd=>h (eZ d))
def Ei{s:aU}(e:bo s=false->A)(h:bo s=true->B):bq (fy s !=0) A B:=by
 unfold fy;cases d:bo s with
 |true=>exact aV rfl (h d)
 |false=>exact aT rfl (e d)
end
namespace Ht
noncomputable abbrev t0:=aA U Tryz.f119 [] []
def ok:=aF t0 JR [.I]
end Ht
namespace Hx
noncomputable abbrev t0:=aA U Tryz.f118 [] []
def ok:=aF t0 JY [.Y]
end Hx
namespace uB
noncomputable abbrev t0:=aA U Tryz.f197 [] []
noncomputable def L0:=bu t0 [0,1,1,1,1] [(0,.v [.Y]),(3,.v [.I])]
noncomputable abbrev t1:=bt L0
def cU:=bH t1 L0
def ok:=aF t1 JX [.Y]
end uB
namespace uA
noncomputable abbrev t0:=aA U Tryz.f167 [(4,ls [0,1,2,3,6,7,8,9,4,5,10,11,12,13,14])] []
noncomputable abbrev S1:=ai t0 [3] []
noncomputable abbrev t1:=ak S1
noncomputable abbrev S0:=ai t1 [2] [(0,.v [.st]),(1,.v [.I])]
noncomputable abbrev t2:=ak S0
def ok:=aF t2 JQ [.st,.I]
end uA
namespace rY
noncomputable abbrev t0:=aA U Tryz.f147 [] [4]
abbrev P0:Ps:=[(4,.l [.I,.Y,.Y,.s] aH)]
noncomputable abbrev bb:=ai t0 [0,1,1,1,6] P0
noncomputable abbrev t1:=ak bb
noncomputable abbrev cv:=ai t1 [0,1,1,1,9] P0
noncomputable abbrev t2:=ak cv
noncomputable abbrev bA:=ai t2 [9] [(0,.v [.st]),(1,.v [.I]),(4,.l [.I,.Y,.Y,.s] aH),(8,.v [.Y]),(11,.v [.Y]),(12,.v [.I]),(13,.v [.I])]
noncomputable abbrev t3:=ak bA
noncomputable abbrev aX:=ai t3 [6] [(0,.v [.st]),(1,.v [.I]),(4,.l [.I,.Y,.Y,.s] aH),(8,.v [.Y]),(9,.v [.I]),(10,.v [.I])]
noncomputable abbrev t4:=ak aX
def au:=aF t4 J0 [.st,.I]
end rY
namespace jy
noncomputable abbrev t0:=aA U Tryz.f124 [(11,ls [0,1,2,3,4,5,6,7,8,9,10,11,12])] [5]
noncomputable def a0:=bu t0 [0,1,1,1,2] [(0,.v [.st]),(3,.v [.s]),(4,.v [.I])]
noncomputable abbrev t1:=bt a0
abbrev P0:Ps:=[(0,.v [.st]),(3,.v [.s]),(4,.v [.I]),(5,.l [.I,.Y,.Y,.s] aH),(6,.v [.I])]
noncomputable def b5:=bu t1 [0,1,1,1,1,1,2,1,1,2,1,1,2] P0
noncomputable abbrev t2:=bt b5
noncomputable abbrev bA:=ai t2 [3,1,1,2,1,1,2] P0
noncomputable abbrev t3:=ak bA
def dy:=bH t3 b5
def bJ:=bH t3 a0
def au:=aF t3 JO [.st]
end jy
namespace HA
noncomputable abbrev t0:=aA U Tryz.f169 [(3,ls [0,1,2,3,4,5,6,7,8,9,10,11])] []
def ok:=aF t0 J3 [.r]
end HA
namespace HB
noncomputable abbrev t0:=aA U Tryz.f149 [] []
noncomputable abbrev S0:=ai t0 [3] []
noncomputable abbrev t1:=ak S0
def ok:=aF t1 J4 [.r,.st]
end HB
namespace Hz
noncomputable abbrev t0:=aA U Tryz.f126 [] []
def ok:=aF t0 J2 [.r,.st]
end Hz
namespace Hv
noncomputable abbrev t0:=aA U Tryz.f150 [] [4]
def au:=aF t0 vc [.I,.s]
end Hv
namespace Hy
noncomputable abbrev t0:=aA U Tryz.f199 [] []
def ok:=aF t0 J1 [.r]
end Hy
namespace uD
noncomputable abbrev t0:=aA U Tryz.f125 [] [2]
noncomputable def a0:=bu t0 [0,2,2] [(0,.v [.r]),(2,.l [.I,.Y,.Y,.s] aH),(3,.v [.s])]
noncomputable abbrev t1:=bt a0
def bJ:=bH t1 a0
def au:=aF t1 Cr [.r]
end uD
namespace uC
noncomputable abbrev t0:=aA U Tryz.f148 [] [2]
noncomputable def a0:=bu t0 [0,2,2] [(0,.v [.r]),(2,.l [.I,.Y,.Y,.s] aH),(3,.v [.s])]
noncomputable abbrev t1:=bt a0
def bJ:=bH t1 a0
def au:=aF t1 x' [.r]
end uC
namespace uF
noncomputable abbrev t0:=aA U Tryz.f168 [] [2]
noncomputable def a0:=bu t0 [0,2,2] [(0,.v [.r]),(2,.l [.I,.Y,.Y,.s] aH),(3,.v [.s])]
noncomputable abbrev t1:=bt a0
def bJ:=bH t1 a0
def au:=aF t1 yb [.r]
end uF
namespace xf
noncomputable abbrev t0:=aA U Tryz.f198 [] [2,4]
noncomputable def a0:=bu t0 [0,2,4] [(0,.v [.r]),(2,.l [.I,.Y,.Y,.s] aH),(4,.l [.I,.Y,.Y,.s] aH)]
noncomputable abbrev t1:=bt a0
def bJ:=bH t1 a0
def au:=aF t1 ya [.r]
end xf
namespace nI
noncomputable abbrev t0:=aA U Tryz.f214 [(1,ls [0,1,2,3,4,5,6,7,8,9,10,11,12,13,14,15,16,17,18,19]),(3,ls [0,1,2,3,4,5,6,7,8,9,10,11,12]),(8,ls [0,1,2,3,5,6,7,8,4,9,10])] [2,5,6]
abbrev P0:Ps:=[(0,.v [.r]),(2,.l [.I,.Y,.Y,.s] aH),(3,.v [.s]),(4,.v [.I])]
noncomputable def b5:=bu t0 [0,1,1,1,3] P0
noncomputable abbrev t1:=bt b5
noncomputable abbrev bA:=ai t1 [2,2,1,1,3] P0
noncomputable abbrev t2:=ak bA
noncomputable abbrev cv:=ai t2 [4,2,1,2,1,1,3] [(2,.l [.I,.Y,.Y,.s] aH),(5,.l [.I,.Y,.Y,.s] aH)]
noncomputable abbrev t3:=ak cv
def dy:=bH t3 b5
noncomputable abbrev aX:=ai t3 [2] [(0,.v [.r]),(2,.l [.I,.Y,.Y,.s] aH)]
noncomputable abbrev t4:=ak aX
def au:=aF t4 Cq [.r]
end nI
namespace uE
noncomputable abbrev t0:=aA U Tryz.f232 [] []
noncomputable abbrev S0:=ai t0 [0,1,1,1,3] []
noncomputable abbrev t1:=ak S0
noncomputable def L1:=bu t1 [0,2,5] [(0,.v [.r]),(4,.v [.s])]
noncomputable abbrev t2:=bt L1
def i1:=bH t2 L1
def ok:=aF t2 Cs [.r]
end uE
namespace Hr
noncomputable abbrev t0:=aA U Tryz.f94 [(7,ls [0,1,2,3,4,5,6,7,8,9,10,11,12,13,14])] [2,6]
def au:=aF t0 JM [.st]
end Hr
namespace Hn
noncomputable abbrev t0:=aA U Tryz.f88 [] []
def ok:=aF t0 JJ [.Y]
end Hn
namespace Bi
noncomputable abbrev t0:=aA U Tryz.f87 [] [1]
noncomputable abbrev aX:=ai t0 [0,1,1,1,2] []
noncomputable abbrev t1:=ak aX
def au:=aF t1 Cp [.a 4,.I,.Y,.Y,.s]
end Bi
namespace Hw
noncomputable abbrev t0:=aA U Tryz.f89 [] []
def ok:=aF t0 JV [.Y]
end Hw
namespace ll
noncomputable abbrev t0:=aA U Tryz.f55 [(11,ls [0,1,5,6,2,3,4,7,8,9,10])] [2]
noncomputable abbrev aX:=ai t0 [2,1,1,1,3] [(2,.l [.I,.Y,.Y,.s] aH),(5,.v [.st])]
noncomputable abbrev t1:=ak aX
abbrev P0:Ps:=[(2,.l [.I,.Y,.Y,.s] aH),(6,.v [.st]),(7,.v [.I]),(8,.v [.st]),(9,.v [.I])]
noncomputable def b5:=bu t1 [0,1,1,1,7] P0
noncomputable abbrev t2:=bt b5
noncomputable abbrev cv:=ai t2 [2,2,1,1,7] P0
noncomputable abbrev t3:=ak cv
noncomputable abbrev bA:=ai t3 [2,2,1,2,1,1,7] [(2,.l [.I,.Y,.Y,.s] aH),(6,.v [.st]),(7,.v [.I]),(8,.v [.st]),(9,.v [.I]),(10,.v [.st])]
noncomputable abbrev t4:=ak bA
def dy:=bH t4 b5
def au:=aF t4 oW [.a 4,.I,.Y,.Y,.s,.I]
end ll
namespace Tz
noncomputable def C0:Code:=(Tryz.f32.body).getD .skip
noncomputable def C1:=C0.sn
noncomputable def C2:=C1.sn
noncomputable def C3:=C2.sn
noncomputable def C4:=C3.sn
noncomputable def C5:=C4.sn
noncomputable def C6:=C5.sn
noncomputable def C7:=C6.sn
noncomputable def C8:=C7.sn
abbrev Q0(R:aC):jT:=(bodyPost U Tryz.f32 R)
noncomputable def C9:=C8.sn
abbrev S0(d:Int)(e:Sl)(w:J)(R:aC):Prop:=
 (0:Int)<=(eY (aG .i64 (eP d 216)) 8)/\(eY (aG .i64 (eP d 216)) 8)<((e.n:Nat):Int)/\dJ e.a λh=>iJ w (h.add (a1 (eY (aG .i64 (eP d 216)) 8) *4)) λj k q x=>w2 vd #[.agg #[.i j,.int .u8 k,.int .u8 q,x.v]] w λy z A B C=>GG oW #[.agg #[.i y,.int .u8 z,.int .u8 A,B.v],.i 0] C λt86 D=>R (ae (.string t86)) D
def rj(E:Env)(w:J)(R:aC):Prop:=W.asInt .i64 (Env.get? E 3) λe=>W.asSlice (Env.get? E 9) λd=>S0 e d w R
end Tz
namespace Ho
noncomputable abbrev t0:=aA U Tryz.f62 [] [3,6]
def au:=aF t0 JK [.st]
end Ho
end Go.Proofs.YtahmokchdhengaaGreatDoor

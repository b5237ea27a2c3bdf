import Derived.Test.YtjakeaplbkhjmaaGreatDoorU
import Derived.Test.YtjakeaplbkhjmaaGreatDoorN0
import Derived.Laws.StandIn
import Derived.Lib.Bytealg
import Derived.Test.YtjakeaplbkhjmaaGreatDoorW
set_option linter.unusedVariables false
set_option maxRecDepth 100000
set_option maxHeartbeats 2000000
set_option linter.defProp false
noncomputable section
namespace Go.Proofs.YtjakeaplbkhjmaaGreatDoor
open Go renaming World->J,Calls->aj,Value->V,TypeId->aE,Ending->cR,FuncId->bX,LoopState->eK
open Go.IntKind renaming wrap->aD
open _root_.Int renaming toNat->aZ,tdiv->dP,tmod->ez,toNat_natCast->bG
open Go.IntWalk renaming i64_in->br
open Go.Builtin renaming append_->hX
open _root_.Nat renaming le_trans->bD,zero_le->di
open _root_.UInt8 renaming ofNat->ei
open _root_.Option.some renaming inj->dZ
open _root_.Array renaming replicate->gd
open Go.Proofs.Tryz renaming prog->U
open _root_.Decidable renaming decide->ai
open Go.Ending renaming returned->ad
open List renaming mem_append->aK,mem_cons->aF,not_mem_nil->a5,mem_of_getElem?->aA,getElem?_eq_getElem->a0,getElem?_eq_some_iff->cq,mem_append_left->bV,mem_append_right->cK,mem_flatMap->cl,mem_map->dN,flatMap_append->dL,flatMap_cons->da,mem_iff_getElem?->i9,nodup_append->eI,mem_cons_of_mem->cJ,map_append->fh,getElem?_set_self->l1
open Go Go.W
namespace QP
def ok:=aC (ay U Tryz.f212 [] []) N0 [.Y]
end QP
namespace QL
def ok:=aC (ay U Tryz.f230 [] []) NX [.Y]
end QL
namespace Ax
abbrev S1:=ah (ay U Tryz.f213 [(4,ls [0,1,2,3,5,6,7,8,4,9,10,11])] []) [3] []
abbrev t1:=ak S1
abbrev S0:=ah t1 [2] [(0,.st),(1,.I)]
abbrev t2:=ak S0
def ok:=aC t2 NN [.st,.I]
end Ax
namespace uW
abbrev P0:Ps:=[(0,.st),(1,.I),(4,.l [.Y,.Y,.Y,.st,.I] oA),(7,.I)]
def cu:=bu (ay U Tryz.f183 [] [4]) [0,2,1,1,3,2,2] P0
abbrev t1:=bt cu
abbrev bC:=ah t1 [2,1,3,2,2] P0
abbrev t2:=ak bC
def dQ:=bF t2 cu
abbrev ft:=ah t2 [3] [(1,.I),(4,.l [.Y,.Y,.Y,.st,.I] oA)]
abbrev t3:=ak ft
abbrev qW:=ah t3 [5,1,5,2,2] [(0,.st),(1,.I),(4,.l [.Y,.Y,.Y,.st,.I] oA),(8,.Y),(10,.b),(11,.I),(12,.Y)]
abbrev t4:=ak qW
abbrev cF:=ah t4 [2,1,5,2,2] [(0,.st),(1,.I),(4,.l [.Y,.Y,.Y,.st,.I] oA),(8,.Y),(10,.b),(11,.I)]
abbrev t5:=ak cF
abbrev a1:=ah t5 [2] [(0,.st),(1,.I),(4,.l [.Y,.Y,.Y,.st,.I] oA),(6,.Y)]
abbrev t6:=ak a1
def aq:=aC t6 Fb [.st,.I]
end uW
namespace Az
noncomputable def C0:Code:=(Tryz.f182.body).getD .skip
noncomputable def C1:=C0.fs
noncomputable def C2:=C1.sn
noncomputable def C3:=C2.fs
noncomputable def C4:=C3.fs
noncomputable def C5:=C0.sn
abbrev Q0(R:aB):kS:=(Exit.then (gT U (cx 39) C5 (bodyPost U Tryz.f182 R)) (bodyPost U Tryz.f182 R))
abbrev Q1(R:aB):kS:=(Exit.inBlock 0 (Q0 R))
def L0(a:Nat)(c:Addr)(b:Int)(w:J)(R:aB):Prop:=LP U (cx 39) C4 (Q1 R) [(0,.func (.yield a) #[] #[]),(1,.pointer (some c)),(3,.i b)] w
def pR(E:Env)(w:J)(R:aB):Prop:=W.yE (Env.get? E 0) λa=>W.b5 (Env.get? E 1) λc=>W.asInt .i64 (Env.get? E 3) λb=>L0 a c b w R
def s5:Hy U 39 pR C4 Q1:=by intro w q z e;obtain⟨A,h,h_1⟩:=W.H4 e;obtain⟨y,j,h_2⟩:=W.cd h_1;obtain⟨x,k,h_3⟩:=W.nj h_2;intro a d;exact h_3 a (d.cons h (d.cons j (d.cons k d.nil)))
noncomputable def C6:=C4.fs
noncomputable def C7:=C4.sn
noncomputable def C8:=C7.fs
noncomputable def C9:=C8.fs
noncomputable def j5:=C9.sn
noncomputable def j6:=j5.fs
noncomputable def lF:=C8.sn
noncomputable def m5:=lF.sn
noncomputable def oF:=m5.fs
noncomputable def pP:=m5.sn
noncomputable def mh:=C6.sn
noncomputable def oG:=mh.fs
noncomputable def m6:=j6.sn
noncomputable def oH:=j5.sn
noncomputable def j7:=oF.sn
noncomputable def m7:=j7.fs
noncomputable def qP:=j7.sn
noncomputable def pQ:=mh.sn
def cr(d:Nat)(g:Addr)(f:Int)(w:J)(R:aB)(D:∃z:ByteArray,w.cell? g=some (.string z)/\
 bB (ai (f<(z.size:Int))) (∃B:ByteArray,w.cell? g=some (.string B)/\
 (0:Int)<=f/\∃y:UInt8,B[aZ f]? =some y/\bB ((y.toNat:Int)==32) (L0 d g (aD .i64 (f+1)) w R) (∃k:ByteArray,w.cell? g=some (.string k)/\
 Vs Fb #[.string k,.i f] w λF l m o p G j=>c9 j (.cells #[.int .u8 0,.int .u8 0,.int .u8 0,.s0,.i 0] oA) λH=>
 R1 H (nb j) (.int .u8 F) (.int .u8 l) (.int .u8 m) (.string o) (.i p) λA=>Lo A (nb j) λr s t u K=>oB U d #[.agg #[.int .u8 r,.int .u8 s,.int .u8 t,.string u,.i K]] A λ(C:Bool) h=>bB (!C) (R (ad (.tuple #[])) h) (∃q:Int,h.cell? ((nb j).add 0)=some (.int .u8 q)/\
 bB (q==63) (R (ad (.tuple #[])) h) (L0 d g (aD .i64 (f+G)) h R)))) (∃x:ByteArray,w.cell? g=some (.string x)/\
 oB U d #[.agg #[.int .u8 36,.int .u8 0,.int .u8 0,.s0,.i (x.size:Int)]] w λ(L:Bool) I=>R (ad (.tuple #[])) I)):L0 d g f w R:=
 LP.step (n:=(cx 39)) (c:=C4) (E:=[(0,.func (.yield d) #[] #[]),(1,.pointer (some g)),(3,.i f)]) (w:=w) (sq C4 (sr C6 (show(λ(E:Env) (w:J)=>eP U C6 (λE w=>iu (Env.val E (.tmp 9)) (eP U C9 (λE w=>iu (Env.val E (.tmp 13)) (eP U j6 (λE w=>pR E w R) E w) (eP U lF (λE w=>eP U oF (λE w=>iu (Env.val E (.tmp 30)) (lq U Tryz.f182 E w (λv=>R (ad v) w)) (AD U pP (λE w=>pR E w R) E w)) E w) E w)) E w) (AD U C5 (λE w=>lq U Tryz.f182 E w (λv=>R (ad v) w)) E w)) E w) [(0,.func (.yield d) #[] #[]),(1,.pointer (some g)),(3,.i f)] w from mp D) λ_ _ b=>(cn mh b (λb=>(sk oG λa e=>nx e (bk C7 1 (by kernel_rfl) (sq C8 (sr C9 b λ_ _ b=>(cn j5 b (λb=>(sr j6 b λ_ _ b=>(xt m6 1 (by kernel_rfl) λa e=>s5 R _ _ b a e))) (λb=>(sk oH λa e=>nx e (sr lF b λ_ _ b=>(sq m5 (sr oF b λ_ _ b=>(cn j7 b (λb=>(rt m7 λa e=>xy e b)) (λb=>(sk qP λa e=>nx e (rg pP (by kernel_rfl) b λ_ _ a e b=>s5 R _ _ b a e))))))))))))))) (λb=>(xt pQ 0 (by kernel_rfl) λa e=>nx e (rg C5 (by kernel_rfl) b λ_ _ a e b=>xy e b))))))
def ok(a:Nat)(b:Addr)(w:J)(R:aB)(e:L0 a b 0 w R):aj U rT #[.func (.yield a) #[] #[],.pointer (some b)] w R:=
 vY (R:=R) (fn:=Tryz.f182) (c:=C0) (args:=[.func (.yield a) #[] #[],.pointer (some b)]) (by kernel_rfl) (by kernel_rfl) (by kernel_rfl) (sq C0 (sr C1 (show(λ(E:Env) (w:J)=>eP U C1 (λE w=>pR E w R) E w) (kp 0 [.func (.yield a) #[] #[],.pointer (some b)]) w from mp e) λ_ _ d=>(bk C2 0 (by kernel_rfl) (lp C3 (by kernel_rfl) (s5 R _ _ d)))))
end Az
namespace QS
def ok:=aC (ay U Tryz.f170 [] []) N1 [.st]
end QS
namespace QK
def aq:=aC (ay U Tryz.f190 [] [4]) zR [.I,.s]
end QK
namespace xu
def a4:=bu (ay U Tryz.f189 [(4,(.sq [0,1,2,3,4,5,6,7,8,10,11] (.fork (ls [9,12]) (ls [12,9]))))] [2]) [0,2,1] [(0,.r),(2,.l [.I,.Y,.Y,.s] aV)]
abbrev t1:=bt a4
def bR:=bF t1 a4
def aq:=aC t1 NU [.r]
end xu
namespace QI
abbrev S0:=ah (ay U Tryz.f187 [(1,(.sq [0,1,2,3,4,5,6,7,9] (.fork (.sq [8,10,11,12,14,15] (.fork (ls [13,16]) (ls [16,13]))) (.sq [10,8,11,12,14,15] (.fork (ls [13,16]) (ls [16,13]))))))] []) [2] [(0,.r)]
abbrev t1:=ak S0
def ok:=aC t1 NV [.r]
end QI
namespace QG
abbrev S0:=ah (ay U Tryz.f188 [(1,(.sq [0,1,2,3,4,5,6,7,9] (.fork (.sq [8,10,11,12,14,15] (.fork (ls [13,16]) (ls [16,13]))) (.sq [10,8,11,12,14,15] (.fork (ls [13,16]) (ls [16,13]))))))] []) [2] [(0,.r)]
abbrev t1:=ak S0
def ok:=aC t1 NS [.r]
end QG
namespace QH
def aq:=aC (ay U Tryz.f173 [] [2,3]) E5 [.r]
end QH
namespace Gf
def ok:=aC (ay U Tryz.f172 [(1,lr 12)] []) zS [.r]
end Gf
namespace QO
def ok:=aC (ay U Tryz.f184 [] []) NZ [.r,.I,.I]
end QO
namespace QM
def aq:=aC (ay U Tryz.f214 [(1,ls [0,2,1,3,4,5])] [3]) E7 [.r,.a 4,.I,.Y,.Y,.s]
end QM
namespace QN
def ok:=aC (ay U Tryz.f185 [(2,lr 15)] []) E8 [.r,.s]
end QN
namespace Ge
abbrev a1:=ah (ay U Tryz.f186 [] [3]) [2,1,7,1,1,1,1] []
abbrev t1:=ak a1
def aq:=aC t1 Fa [.r,.a 5,.Y,.Y,.Y,.st,.I]
end Ge
namespace xw
abbrev a1:=ah (ay U Tryz.f171 [(25,(.sq [0,1,2,3,4,6] (.fork (.sq [5,7,8,9,11,12] (.fork (ls [10,13]) (ls [13,10]))) (.sq [7,5,8,9,11,12] (.fork (ls [10,13]) (ls [13,10])))))),(28,lr 19)] [3]) [4] []
abbrev t1:=ak a1
abbrev bh:=ah t1 [2,1,7,1,1,1,3] [(0,.r)]
abbrev t2:=ak bh
def aq:=aC t2 E9 [.r,.a 5,.Y,.Y,.Y,.st,.I]
end xw
namespace Gb
noncomputable def C0:Code:=(Tryz.f154.body).getD .skip
noncomputable def C1:=C0.sn
noncomputable def C2:=C1.sn
noncomputable def C3:=C2.sn
noncomputable def C4:=C3.fs
noncomputable def C5:=C4.sn
noncomputable def C6:=C5.fs
noncomputable def C7:=W.Code.H' C6
noncomputable def C8:=W.Code.Ie C6
noncomputable def C9:=C8.fs
noncomputable def j5:=C9.sn
noncomputable def j6:=j5.fs
abbrev Q0(a:Nat)(b:Loop)(R:aB):Exit->Act->J->Prop:=(roundPost U a R)
abbrev Q1(b:Nat)(a:Loop)(R:aB):Exit->Act->J->Prop:=(Exit.inBlock 1 (Q0 b a R))
noncomputable def lF:=j6.fs
noncomputable def m5:=j6.sn
abbrev S3(f:Nat)(b:eK->Option Code->Obj)(g j k c:Addr)(w:J)(R:aB):Prop:=
 tI w λd=>∃a:Int,d.cell? (c.add 4)=some (.i a)/\
 nG d g (.i 0) (.int .u8 0) (.int .u8 0) (.slice none 0 0) λe=>e.cell? (c.add 4)=some (.i a)/\aM e j (.i a) λl=>
 aM l k (.i 2) λm=>
 hv m f (b .busy none) (b .done (some .ret)) λn=>R (ad (.bool false)) n
def vC(a:Nat)(b:eK->Option Code->Obj)(E:Env)(w:J)(R:aB):Prop:=W.b5 (Env.get? E 2) λc=>W.b5 (Env.get? E 3) λd=>W.b5 (Env.get? E 4) λe=>W.b5 (Env.get? E 6) λf=>S3 a b c d e f w R
def BN(d:Nat)(b:Loop)(R:aB)(E:Env)(w:J)(h:vC d (lo b) E w R):WP U ⟨32,[],some d⟩ j6 (Q1 d b R) E w:=by obtain⟨B,k,h_1⟩:=W.cd h;obtain⟨C,q,h_2⟩:=W.cd h_1;obtain⟨D,z,h_3⟩:=W.cd h_2;obtain⟨F,A,j⟩:=W.cd h_3;exact λa e=>WP.at (n:=⟨32,[],some d⟩) (E:=[(2,.pointer (some B)),(3,.pointer (some C)),(4,.pointer (some D)),(6,.pointer (some F))]) (WP.seq (c:=j6) (x:=lF) (y:=m5) (by kernel_rfl)<|WP.draw (c:=lF) [0,1,2,3,4,5] (λE w=>hv w d ((lo b) .busy none) ((lo b) .done (some .ret)) λi=>R (ad (.bool false)) i) (by kernel_rfl) (mp j) λ_ _ a f g=>(WP.ret (c:=m5) (Q:=(Q1 d b R)) (by kernel_rfl) λa f=>(show roundPost U d R .ret a _ from Q7 (a:=a) (g).1 (g).2)) a f) (e.cons k (e.cons q (e.cons z (e.cons A e.nil))))
noncomputable def oF:=C9.fs
noncomputable def pP:=j5.sn
abbrev S2(g:Nat)(f:eK->Option Code->Obj)(n o p m k:Addr)(w:J)(R:aB):Prop:=
 Lo w k λa b c d e=>I1 E9 #[.pointer (some m),.agg #[.int .u8 a,.int .u8 b,.int .u8 c,.string d,.i e]] w λh l=>bB (!h) (S3 g f n o p k l R) (hv l g (f .busy none) (f .ready none) λj=>R (ad (.bool true)) j)
def vB(a:Nat)(b:eK->Option Code->Obj)(E:Env)(w:J)(R:aB):Prop:=W.b5 (Env.get? E 2) λd=>W.b5 (Env.get? E 3) λe=>W.b5 (Env.get? E 4) λf=>W.b5 (Env.get? E 5) λc=>W.b5 (Env.get? E 6) λg=>S2 a b d e f c g w R
def BM(d:Nat)(b:Loop)(R:aB)(E:Env)(w:J)(h:vB d (lo b) E w R):WP U ⟨32,[],some d⟩ C9 (Q1 d b R) E w:=by obtain⟨F,q,h_1⟩:=W.cd h;obtain⟨G,z,h_2⟩:=W.cd h_1;obtain⟨H,A,h_3⟩:=W.cd h_2;obtain⟨D,B,j⟩:=W.cd h_3;obtain⟨I,C,k⟩:=W.cd j;exact λa f=>WP.at (n:=⟨32,[],some d⟩) (E:=[(2,.pointer (some F)),(3,.pointer (some G)),(4,.pointer (some H)),(5,.pointer (some D)),(6,.pointer (some I))]) (WP.seq (c:=C9) (x:=oF) (y:=j5) (by kernel_rfl)<|WP.l3 (c:=oF) (λE w=>iu (Env.val E (.tmp 20)) (vC d (lo b) E w R) (hv w d ((lo b) .busy none) ((lo b) .ready none) λi=>R (ad (.bool true)) i)) (by kernel_rfl) (mp k) λ_ _ a g e=>(WP.iu (c:=j5) (x:=j6) (y:=pP) (o:=.tmp 20) (by kernel_rfl) (λe=>(BN d b R _ _ e)) (λe=>(WP.skip (c:=pP) (by kernel_rfl) λa g=>QZ (a:=a) (e).1 (e).2)) e) a g) (f.cons q (f.cons z (f.cons A (f.cons B (f.cons C f.nil)))))
abbrev Q2(b:Nat)(a:Loop)(R:aB):Exit->Act->J->Prop:=(vH U 32 b a C8 (roundPost U b R))
abbrev S1(g:Nat)(f:eK->Option Code->Obj)(k l m j:Addr)(a b c:Int)(d:ByteArray)(e:Int)(w:J)(R:aB):Prop:=
 c9 w (.cells #[.int .u8 0,.int .u8 0,.int .u8 0,.s0,.i 0] oA) λn=>
 R1 n (nb w) (.int .u8 a) (.int .u8 b) (.int .u8 c) (.string d) (.i e) λo=>hv o g (f .ready none) (f .busy none) λp=>S2 g f k l m j (nb w) p R
def BJ(r:Nat)(s:eK->Option Code->Obj)(E:Env)(w:J)(R:aB):Prop:=W.b5 (Env.get? E 2) λu=>W.b5 (Env.get? E 3) λv=>W.b5 (Env.get? E 4) λq=>W.b5 (Env.get? E 5) λt=>W.asAgg (Env.get? E 17) λa=>W.jo a λg b=>W.asInt .u8 (some g) λm=>W.jo b λi c=>W.asInt .u8 (some i) λn=>W.jo c λh d=>W.asInt .u8 (some h) λo=>W.jo d λj e=>W.pW (some j) λp=>W.jo e λl f=>W.asInt .i64 (some l) λk=>W.lI f<|S1 r s u v q t m n o p k w R
def BK(d:Nat)(b:Loop)(R:aB)(E:Env)(w:J)(h:BJ d (lo b) E w R):WP U ⟨32,[],some d⟩ C7 (Q2 d b R) E w:=by obtain⟨t2,L,h_1⟩:=W.cd h;obtain⟨t3,M,h_2⟩:=W.cd h_1;obtain⟨t4,N,h_3⟩:=W.cd h_2;obtain⟨P,O,C⟩:=W.cd h_3;obtain⟨aa,K,D⟩:=W.yD C;obtain⟨ah,ab,rfl,F⟩:=W.kY D;obtain⟨Q,ex,G⟩:=W.nj F;obtain rfl:=dZ ex;obtain⟨ak,ac,rfl,H⟩:=W.kY G;obtain⟨S,ex,I⟩:=W.nj H;obtain rfl:=dZ ex;obtain⟨am,ae,rfl,j⟩:=W.kY I;obtain⟨T,ex,k⟩:=W.nj j;obtain rfl:=dZ ex;obtain⟨an,af,rfl,q⟩:=W.kY k;obtain⟨Y,ex,y⟩:=W.ti q;obtain rfl:=dZ ex;obtain⟨ao,ag,rfl,z⟩:=W.kY y;obtain⟨Z,ex,A⟩:=W.nj z;obtain rfl:=dZ ex;obtain⟨rfl,B⟩:=W.pV A;exact λa e=>WP.at (n:=⟨32,[],some d⟩) (E:=[(2,.pointer (some t2)),(3,.pointer (some t3)),(4,.pointer (some t4)),(5,.pointer (some P)),(17,.agg #[.int .u8 Q,.int .u8 S,.int .u8 T,.string Y,.i Z])]) (WP.l3 (c:=C7) (λE w=>w.heap[d]? =some (lo b .ready none)/\((λw=>vB d (lo b) E w R) (w.putObj d (lo b .busy none)))) (by kernel_rfl) (mp B) λ_ _ a g f=>⟨(f).1,(WP.block (c:=C8) (x:=C9) (id:=1) (by kernel_rfl) (BM d b R _ _ (f).2)) a g⟩) (e.cons L (e.cons M (e.cons N (e.cons O (e.cons K e.nil)))))
abbrev qN(g:Nat)(i:eK->Option Code->Obj)(n:ByteArray)(k l m j f:Addr)(a b c:Int)(d:ByteArray)(e:Int)(w:J)(R:aB):Prop:=
 S1 g i k l m j a b c d e w R
def B4(j:Nat)(b:Loop)(l:ByteArray)(m n o k a:Addr)(c d e:Int)(f:ByteArray)(g:Int)(w:J)(R:aB)(h:qN j (lo b) l m n o k a c d e f g w R):WP U ⟨32,[],some j⟩ C7 (vH U 32 j b C8 (roundPost U j R)) (pq [(0,.string l),(2,.pointer (some m)),(3,.pointer (some n)),(4,.pointer (some o)),(5,.pointer (some k)),(16,.func (.func rT) #[] #[.pointer (some a)])] [17] [.agg #[.int .u8 c,.int .u8 d,.int .u8 e,.string f,.i g]]) w:=
 (BK j b R _ _ (mp h))
noncomputable def mh:=C3.sn
noncomputable def oG:=mh.sn
noncomputable def m6:=oG.fs
noncomputable def oH:=m6.sn
noncomputable def j7:=oH.fs
noncomputable def m7:=oG.sn
abbrev Q3(R:aB):kS:=(Exit.then (gT U (cx 32) m7 (bodyPostM Fence.wide 0 U Tryz.f154 R)) (bodyPostM Fence.wide 0 U Tryz.f154 R))
noncomputable def qP:=j7.fs
noncomputable def pQ:=j7.sn
abbrev S6(m:Nat)(n:ByteArray)(j k l:Addr)(w:J)(R:aB):Prop:=
 nG w j (.i 0) (.int .u8 0) (.int .u8 0) (.slice none 0 0) λo=>aM o k (.i (n.size:Int)) λp=>
 aM p l (.i 4) λh=>
 hv h m (.deferred (some [])) (.deferred none) λa=>jx a j λb c d e=>∃f:Int,a.cell? k=some (.i f)/\
 ∃g:Int,a.cell? l=some (.i g)/\
 R (ad (.tuple #[.agg #[.i b,.int .u8 c,.int .u8 d,e.v],.i f,.i g])) a
def ym(a:Nat)(E:Env)(w:J)(R:aB):Prop:=W.pW (Env.get? E 0) λb=>W.b5 (Env.get? E 2) λc=>W.b5 (Env.get? E 3) λd=>W.b5 (Env.get? E 4) λe=>S6 a b c d e w R
def BQ(d:Nat)(R:aB)(E:Env)(w:J)(h:ym d E w R):WP U (marked 32 d) j7 (Q3 R) E w:=by obtain⟨B,k,h_1⟩:=W.ti h;obtain⟨C,q,h_2⟩:=W.cd h_1;obtain⟨D,z,h_3⟩:=W.cd h_2;obtain⟨F,A,j⟩:=W.cd h_3;exact λa b=>WP.at (n:=(marked 32 d)) (E:=[(0,.string B),(2,.pointer (some C)),(3,.pointer (some D)),(4,.pointer (some F))]) (WP.seq (c:=j7) (x:=qP) (y:=pQ) (by kernel_rfl)<|WP.l3 (c:=qP) (λE w=>AB U Tryz.f154 E w d R) (by kernel_rfl) (mp j) λ_ _ a e f=>(WP.ret (c:=pQ) (by kernel_rfl) λa e=>xz e f) a e) (b.cons k (b.cons q (b.cons z (b.cons A b.nil))))
abbrev Q4(R:aB):kS:=(bodyPostM Fence.wide 0 U Tryz.f154 R)
noncomputable def sW:=m7.fs
noncomputable def sX:=m7.sn
abbrev S7(q:Nat)(n o p u:Addr)(w:J)(R:aB):Prop:=
 jx w u λa b c e=>nG w n (.i a) (.int .u8 b) (.int .u8 c) (e.v) λr=>aM r o (.i 0) λs=>
 aM s p (.i 0) λt=>
 hv t q (.deferred (some [])) (.deferred none) λd=>jx d n λf g h j=>∃l:Int,d.cell? o=some (.i l)/\
 ∃m:Int,d.cell? p=some (.i m)/\
 R (ad (.tuple #[.agg #[.i f,.int .u8 g,.int .u8 h,j.v],.i l,.i m])) d
def Hu(a:Nat)(E:Env)(w:J)(R:aB):Prop:=W.b5 (Env.get? E 2) λb=>W.b5 (Env.get? E 3) λc=>W.b5 (Env.get? E 4) λd=>W.b5 (Env.get? E 7) λe=>S7 a b c d e w R
def TB(d:Nat)(R:aB)(E:Env)(w:J)(h:Hu d E w R):WP U (marked 32 d) m7 (Q4 R) E w:=by obtain⟨B,k,h_1⟩:=W.cd h;obtain⟨C,q,h_2⟩:=W.cd h_1;obtain⟨D,z,h_3⟩:=W.cd h_2;obtain⟨F,A,j⟩:=W.cd h_3;exact λa b=>WP.at (n:=(marked 32 d)) (E:=[(2,.pointer (some B)),(3,.pointer (some C)),(4,.pointer (some D)),(7,.pointer (some F))]) (WP.seq (c:=m7) (x:=sW) (y:=sX) (by kernel_rfl)<|WP.l3 (c:=sW) (λE w=>AB U Tryz.f154 E w d R) (by kernel_rfl) (mp j) λ_ _ a e f=>(WP.ret (c:=sX) (by kernel_rfl) λa e=>xz e f) a e) (b.cons k (b.cons q (b.cons z (b.cons A b.nil))))
noncomputable def yg:=m6.fs
noncomputable def yh:=oH.sn
abbrev S5(e:Nat)(n:ByteArray)(f j k m:Addr)(w:J)(R:aB):Prop:=
 jx w m λa b c d=>I1 Fe #[.agg #[.i a,.int .u8 b,.int .u8 c,d.v]] w λg l=>bB g (S6 e n f j k l R) (S7 e f j k m l R)
def vD(a:Nat)(E:Env)(w:J)(R:aB):Prop:=W.pW (Env.get? E 0) λb=>W.b5 (Env.get? E 2) λc=>W.b5 (Env.get? E 3) λd=>W.b5 (Env.get? E 4) λe=>W.b5 (Env.get? E 7) λf=>S5 a b c d e f w R
def BP(b:Nat)(R:aB)(E:Env)(w:J)(h:vD b E w R):WP U (marked 32 b) m6 (Q3 R) E w:=by obtain⟨D,q,h_1⟩:=W.ti h;obtain⟨F,z,h_2⟩:=W.cd h_1;obtain⟨G,A,h_3⟩:=W.cd h_2;obtain⟨H,B,j⟩:=W.cd h_3;obtain⟨I,C,k⟩:=W.cd j;exact λa d=>WP.at (n:=(marked 32 b)) (E:=[(0,.string D),(2,.pointer (some F)),(3,.pointer (some G)),(4,.pointer (some H)),(7,.pointer (some I))]) (WP.seq (c:=m6) (x:=yg) (y:=oH) (by kernel_rfl)<|WP.l3 (c:=yg) (λE w=>iu (Env.val E (.tmp 27)) (ym b E w R) (Hu b E w R)) (by kernel_rfl) (mp k) λ_ _ a f e=>(WP.iu (c:=oH) (x:=j7) (y:=yh) (o:=.tmp 27) (by kernel_rfl) (λe=>(BQ b R _ _ e)) (λe=>(WP.skip (c:=yh) (by kernel_rfl) λa f=>(TB b R _ _ e) a f)) e) a f) (d.cons q (d.cons z (d.cons A (d.cons B (d.cons C d.nil)))))
noncomputable def Hp:=mh.fs
abbrev S4(g:Nat)(k:ByteArray)(l m n j:Addr)(w:J)(R:aB):Prop:=
 Vt zS #[.pointer (some j)] w λf o=>yN E5 #[.pointer f] o λa b c e d=>c9 d (.cells #[.i 0,.int .u8 0,.int .u8 0,.slice none 0 0] aV) λp=>
 nG p (nb d) (.i a) (.int .u8 b) (.int .u8 c) (e.v) λh=>S5 g k l m n (nb d) h R
def yl(a:Nat)(E:Env)(w:J)(R:aB):Prop:=W.pW (Env.get? E 0) λc=>W.b5 (Env.get? E 2) λd=>W.b5 (Env.get? E 3) λe=>W.b5 (Env.get? E 4) λf=>W.b5 (Env.get? E 5) λb=>S4 a c d e f b w R
def BO(d:Nat)(R:aB)(E:Env)(w:J)(h:yl d E w R):WP U (marked 32 d) mh (Q4 R) E w:=by obtain⟨F,q,h_1⟩:=W.ti h;obtain⟨G,z,h_2⟩:=W.cd h_1;obtain⟨H,A,h_3⟩:=W.cd h_2;obtain⟨I,B,j⟩:=W.cd h_3;obtain⟨D,C,k⟩:=W.cd j;exact λa b=>WP.at (n:=(marked 32 d)) (E:=[(0,.string F),(2,.pointer (some G)),(3,.pointer (some H)),(4,.pointer (some I)),(5,.pointer (some D))]) (WP.seq (c:=mh) (x:=Hp) (y:=oG) (by kernel_rfl)<|WP.l3 (c:=Hp) (λE w=>vD d E w R) (by kernel_rfl) (mp k) λ_ _ a e f=>(WP.seq (c:=oG) (x:=m6) (y:=m7) (by kernel_rfl) (BP d R _ _ f)) a e) (b.cons q (b.cons z (b.cons A (b.cons B (b.cons C b.nil)))))
abbrev S0(x:ByteArray)(q r s k a:Addr)(w:J)(R:aB):Prop:=
 ∀g:eK->Option Code->Obj,(∀(b c d:Int) (e:ByteArray) (f:Int) (t:J) (u:Bool->J->Prop),t.heap[w.heap.size+1]? =some (g .ready none)->qN (w.heap.size+1) g x q r s k a b c d e f t (λp C=>∃y:Bool,p=ad (.bool y)/\u y C)->oB U (w.heap.size+1) #[.agg #[.int .u8 b,.int .u8 c,.int .u8 d,.string e,.i f]] t u)->
 aj U rT #[.func (.yield (w.heap.size+1)) #[] #[],.pointer (some a)] ((w.alloc (.deferred (some []))).alloc (g .ready none)) λp D=>(∃B,p=ad B)/\qU D (w.heap.size+1) g (λh=>S4 w.heap.size x q r s k h R) (λE h=>False) (λh=>hv h w.heap.size (.deferred (some [])) (.deferred none) λj=>jx j q λl m n o=>∃z:Int,j.cell? r=some (.i z)/\
 ∃A:Int,j.cell? s=some (.i A)/\
 R (ad (.tuple #[.agg #[.i l,.int .u8 m,.int .u8 n,o.v],.i z,.i A])) j)
abbrev Q5(R:aB):kS:=(Exit.then (gT U (cx 32) mh (bodyPostM Fence.wide 0 U Tryz.f154 R)) (bodyPostM Fence.wide 0 U Tryz.f154 R))
abbrev Q6(R:aB):kS:=(Exit.inBlock 0 (Q5 R))
def s6(E:Env)(w:J)(R:aB):Prop:=W.pW (Env.get? E 0) λg=>W.b5 (Env.get? E 2) λi=>W.b5 (Env.get? E 3) λh=>W.b5 (Env.get? E 4) λj=>W.b5 (Env.get? E 5) λf=>W.th rT (Env.get? E 16) λc a=>W.lI c<|W.jo a λd b=>W.b5 (some d) λe=>W.lI b<|S0 g i h j f e w R
def BI:Hv U 32 s6 C6 Q6:=by
 intro k ah z q;obtain⟨x,Q,h_1⟩:=W.ti q;obtain⟨e,T,h_2⟩:=W.cd h_1;obtain⟨h,Y,h_3⟩:=W.cd h_2;obtain⟨j,Z,K⟩:=W.cd h_3;obtain⟨w,ab,L⟩:=W.cd K;obtain⟨an,ak,S,M⟩:=W.H2 L;obtain⟨rfl,N⟩:=W.pV M;obtain⟨ao,am,rfl,O⟩:=W.kY N;obtain⟨y,ex,P⟩:=W.cd O;obtain rfl:=dZ ex;obtain⟨rfl,I⟩:=W.pV P;exact λa b=>WP.at (n:=(cx 32)) (E:=[(0,.string x),(2,.pointer (some e)),(3,.pointer (some h)),(4,.pointer (some j)),(5,.pointer (some w)),(16,.func (.func rT) #[] #[.pointer (some y)])]) (WP.range (m:=32) (c:=C6) (g:=.tmp 16) (ps:=#[17]) (assign:=C7) (body:=C8) (gf:=rT) (lb:=#[.pointer (some y)]) (λl=>S4 z.heap.size x e h j w l k) (λae l=>False) (λl=>hv l z.heap.size (.deferred (some [])) (.deferred none) λd=>jx d e λs t u ac=>∃F:Int,d.cell? h=some (.i F)/\
 ∃G:Int,d.cell? j=some (.i G)/\
 k (ad (.tuple #[.agg #[.i s,.int .u8 t,.int .u8 u,ac.v],.i F,.i G])) d) (by kernel_rfl) rfl (by kernel_rfl)
  (λl o a r=>(BO z.heap.size k _ _ (mp o)) a r)
  (λ_ _ o=>o.elim)
  (λl o a r=>xz r (mp o))
  (λp H=>I (lo p) (λA B f C D w_ K_ ag af=>Tq (args:=[.agg #[.int .u8 A,.int .u8 B,.int .u8 f,.string C,.i D]]) H ag rfl (by kernel_rfl) (λ_ _ q=>q) (B4 _ p x e h j w y A B f C D w_ _ af)))) (b.cons Q (b.cons T (b.cons Y (b.cons Z (b.cons ab (b.cons S b.nil))))))
noncomputable def BD:=C1.fs
noncomputable def BE:=BD.sn
noncomputable def BF:=BE.fs
noncomputable def Tu:=BF.sn
noncomputable def Tv:=BE.sn
def ok(j:ByteArray)(w:J)(R:aB)(z:c9 w (.cells #[.i 0,.int .u8 0,.int .u8 0,.slice none 0 0] aV) λm=>
 c9 m (.cells #[.i 0] bA) λn=>
 c9 n (.cells #[.i 0] ha) λu=>
 bB (ai ((j.size:Int)>4096)) (nG u (nb w) (.i 0) (.int .u8 0) (.int .u8 0) (.slice none 0 0) λC=>aM C (nb m) (.i 4096) λD=>
 aM D (nb n) (.i 4) λo=>
 jx o (nb w) λB r s t=>∃d:Int,o.cell? (nb m)=some (.i d)/\
 ∃e:Int,o.cell? (nb n)=some (.i e)/\
 R (ad (.tuple #[.agg #[.i B,.int .u8 r,.int .u8 s,t.v],.i d,.i e])) o) (c9 u (.cells #[.i (-1),.slice none 0 0,.slice none 0 0,.slice none 0 0,.slice none 0 0,.i 0,.i 0,.int .u8 0,.int .u8 0,.slice none 0 0] iK) λl=>
 c9 l (.cells #[.slice none 0 0,.i 0,.i 0] yb) λh=>
 A2 h (nb l) (.slice (some (nb u)) 1 1) (.i 0) (.i 0) λk=>CE N1 #[.string j] k λF q=>W.th rT (some F) λf x=>W.lI f<|W.jo x λg y=>W.b5 (some g) λA=>W.lI y<|S0 j (nb w) (nb m) (nb n) (nb l) A q R)):aj U NJ #[.string j] w R:=
 I8 (R:=R) (fn:=Tryz.f154) (c:=C0) (args:=[.string j]) (by kernel_rfl) (by kernel_rfl) (by kernel_rfl) (sr C0 (show(λ(E:Env) (w:J)=>eP U C0 (λE w=>eP U BD (λE w=>iu (Env.val E (.tmp 10)) (eP U BF (λE w=>lq U Tryz.f154 E w (λv=>R (ad v) w)) E w) (eP U C2 (λE w=>eP U C4 (λE w=>s6 E w R) E w) E w)) E w) E w) (kp 0 [.string j]) w from mp z) λ_ _ b=>(sq C1 (sr BD b λ_ _ b=>(cn BE b (λb=>(sr BF b λ_ _ b=>(rt Tu λa p=>QX p b))) (λb=>(sk Tv λa p=>nx p (sr C2 b λ_ _ b=>(sq C3 (sr C4 b λ_ _ b=>(bk C5 0 (by kernel_rfl) (BI R _ _ b)))))))))))
end Gb
abbrev eb:=Sl×List V
def _root_.Go.W.En.rows(e:List eb):En:=⟨mO (e.flatMap λp:eb=>aR p.1),λh=>(∀p∈e,aL h aV 4 p.1 p.2)/\(e.flatMap λp:eb=>aR p.1).Nodup,
 λh g j d=>⟨λp c=>(d.1 p c).cD λb a f=>j b (a7.2 (cl.2 ⟨p,c,a⟩)) f,d.2⟩,
 λh d b a=>by obtain⟨p,c,a⟩:=cl.1 (a7.1 a);exact(d.1 p c).lt b a,uB _⟩
def Rf(c:List eb)(d:c≠[])(w:J)(b:Nat)(a:b∈(En.rows c).fp):¬(En.rows c).P ({w with heap:=gd (b+1) (.map #[] 0)}):=by
 rintro⟨e,_⟩;obtain⟨p,h,a⟩:=cl.1 (a7.1 a);obtain⟨j,f,k⟩:=(e p h).row.vt b a
 grind
section
variable {M:Nat->Prop} {w0 w:J} {L D:List En} {bs:List Nat}
def KD(H:O M w0 w L D){i:Nat}{d:List eb}(a:L[i]? =some (.rows d)){b:Nat}(c:En.g b∈L):b∉(En.rows d).fp:=by
 intro h;obtain⟨x,e⟩:=i9.1 c;by_cases j:i=x
 .subst j;rw[a]at e;have k:En.rows d=En.g b:=dZ e;have q:d≠[]:=by rintro rfl;simp[En.rows,mO]at h
  refine Rf d q w b h ?_;rw[k];show b<_;simp
 .exact jS H.nd a e j b h (by simp[En.g])
def WD{e:List eb}{j:Nat}{s h:Sl}{vs q:List V}(a:e[j]? =some (s,vs))(b:(e.flatMap λp:eb=>aR p.1).Nodup)(c:(aR h).Nodup)(d:∀k∈aR h,k∈aR s\/k∉e.flatMap λp:eb=>aR p.1):((e.set j (h,q)).flatMap λp:eb=>aR p.1).Nodup:=
 Fq (f:=λp:eb=>aR p.1) a b c d
def Ur(s:Sl):(aR s).Nodup:=by unfold aR;grind
def zD{α:Type}{l:List α}{j:Nat}{a x:α}(d:x∈l.set j a):x=a\/∃i,i≠j/\l[i]? =some x:=by
 obtain⟨i,e⟩:=i9.1 d
 grind
def Rc{d:List eb}(c:(d.flatMap λp:eb=>aR p.1).Nodup):∀{i j:Nat} {p q:eb},d[i]? =some p->d[j]? =some q->i≠j->∀b∈aR p.1,b∉aR q.1:=by
 induction d with
 |nil=>grind
 |cons a l e=>
  rw[da,eI]at c
  grind
def Gq(H:O M w0 w L D){w':J}(i j:Nat){e:List eb}{s x:Sl}{vs z:List V}(m:L[i]? =some (.rows e))(d:e[j]? =some (s,vs))(f:Fr (λb=>b∈aR s) w w')(o:aL w' aV 4 x z)(c:∀b∈aR x,b∈aR s\/w.heap.size<=b):
  O M w0 w' (L.set i (.rows (e.set j (x,z)))) D:=by
 have h:(En.rows e).P w:=H.get i m;have C:∀b∈aR s,b∈(En.rows e).fp:=λb c=>a7.2 (cl.2 ⟨_,aA d,c⟩);have G:∀b∈e.flatMap (λp:eb=>aR p.1),b<w.heap.size:=λb c=>(En.rows e).lt w h b (a7.2 c);refine H.gb i _ m (f.mono λy _ q=>C y q) ⟨λp a=>?_,WD d h.2 (Ur _) λy q=>(c y q).imp id λF a=>by grind⟩ λb a=>?_
 .rcases zD a with rfl|⟨E,B,k⟩
  .exact o
  .exact (h.1 p (aA k)).cD λb g n=>f.cD b n λl=>Rc h.2 k d B b g l
 .obtain ⟨p,a,A⟩:=cl.1 (a7.1 a);rcases zD a with rfl|⟨E,_,k⟩
  .grind
  .exact .inl (a7.2 (cl.2 ⟨p,aA k,A⟩))
def _root_.Go.W.O.yA(H:O M w0 w L D)(i j:Nat){ty:aE}{x:List eb}{s src:Sl}{vs news:List V}{K:Sl->J->Prop}(e:L[i]? =some (.rows x))(f:x[j]? =some (s,vs))(k:bo 4 w src news)(l:∀u∈news,u.oneCell'=true)(o:(s.n+src.n) *40<=140737488355328)(m:∀h q,O M w0 q (L.set i (.rows (x.set j (h,vs++news)))) D->h.n=s.n+src.n->(h.a=none->s.a=none/\src.n=0)->K h q)(d:∀b∈bs,En.g b∈L:=by simp):
  ∃h q,(hX #[jg,jg] ty #[s.v,src.v]).run U w=.ok h.v q/\kept bs w q/\K h q:=by have F:(En.rows x).P w:=H.get i e;obtain⟨h,q,z,A,B,y,C,E⟩:=Ca (ty:=ty) rz (F.1 _ (aA f)) k.2.2 k.1 l o;refine⟨h,q,z,λb c=>?_,m h q (Gq H i j e f y A C) B E⟩;refine y.cD b (H.own _ (d b c)) λp=>?_;exact KD H e (d b c) (a7.2 (cl.2 ⟨_,aA f,p⟩))
def _root_.Go.W.O.A1(H:O M w0 w L D)(i j a c:Nat){h:List eb}{s:Sl}{vs:List V}{v:V}{p:Addr}{K:J->Prop}(f:L[i]? =some (.rows h))(k:h[j]? =some (s,vs))(r:s.a=some p)(n:a+c<vs.length)(m:∀x,O M w0 x (L.set i (.rows (h.set j (s,vs.set (a+c) v)))) D->K x)(e:∀b∈bs,En.g b∈L:=by simp):aM w ((p.add a).add c) v λl=>kept bs w l/\K l:=by have z:(En.rows h).P w:=H.get i f;obtain⟨F,q,E,A,B,C,y⟩:=FN (z.1 _ (aA k)) (a+c) n v;rw[r]at q;cases q;rw[add_add];refine⟨A,B,λb d=>?_,m _ (Gq H i j f k y C λb d=>.inl d)⟩;exact y.cD b (H.own _ (e b d)) λo=>KD H f (e b d) (a7.2 (cl.2 ⟨_,aA k,o⟩))
def _root_.Go.W.O.DP(H:O M w0 w L D)(i j:Nat){k:List eb}{s:Sl}{vs:List V}(f:L[i]? =some (.rows k))(g:k[j]? =some (s,vs)):O M w0 w (L.set i (.rows (k.set j (⟨none,0,0⟩,[])))) (D++[.a2 4 s vs]):=by
 have A:(En.rows k).P w:=H.get i f;have d:=Gq H i j f g (Fr.refl _ _) (aL.nil w aV 4) (λb c=>by simp[aR]at c);have F:∀b∈aR s,b∈(En.rows k).fp:=λb c=>a7.2 (cl.2 ⟨_,aA g,c⟩);have I:i<L.length:=(cq.1 f).1;refine⟨d.fr,d.own,λh a=>?_,d.new,d.nd,λh a b c m l q=>?_⟩
 .rcases aK.1 a with a|a
  .exact d.rd h a
  .simp at a;subst a;exact(A.1 _ (aA g)).a2
 .rcases aK.1 a with a|a
  .exact d.dj h a b c m l q
  .simp at a;subst a;have z:b∈aR s:=gL (e:=aV) c;rcases zD l with rfl|⟨G,x,B⟩
   .obtain ⟨K,E,y⟩:=cl.1 (a7.1 q);rcases zD E with rfl|⟨G,x,C⟩
    .simp [aR]at y
    .exact Rc A.2 C g x b y z
   .exact jS H.nd f B (λh=>x h.symm) b (F b z) q
end
structure FX where
 k:Int
 ar:Sl×List Rx
 al:List Rx
 an:List Rx
 ca:List Rx
 n:Nat
 la:Rx
structure FM where
 k:Int
 ar:Sl×List I
 al:Sl×List I
 an:Sl×List I
 ca:Sl×List I
 n:Nat
 la:I
def FM.x(f:FM):FX:=⟨f.k,(f.ar.1,I.ao f.ar.2),I.ao f.al.2,I.ao f.an.2,I.ao f.ca.2,f.n,f.la.rx⟩
def FM.c(f:FM):List V:=[.int .i64 f.k,f.ar.1.v,f.al.1.v,f.an.1.v,f.ca.1.v,.int .i64 (f.n:Int),.int .i64 f.la.k,.int .u8 (f.la.lo.toNat:Int),.int .u8 (f.la.hi.toNat:Int),f.la.s.v]
def FM.rows(f:FM):List eb:=[(f.ar.1,f.ar.2.flatMap I.c),(f.al.1,f.al.2.flatMap I.c),(f.an.1,f.an.2.flatMap I.c),(f.ca.1,f.ca.2.flatMap I.c)]
def FM.ts(f:FM):List I:=f.ar.2++f.al.2++f.an.2++f.ca.2++[f.la]
def FM.pZ(f:FM):f.c.length=10:=rfl
def qi(a:List FM):(a.flatMap FM.c).length=a.length *10:=o1 FM.c 10 FM.pZ a
abbrev SL(d:Nat)(a:Sl)(f g:Int)(b:List V)(e:List eb):List En:=[.c d [a.v,.int .i64 f,.int .i64 g] yb,.row iK 10 a b,.rows e]
def St(w:J)(l:Nat)(o:Addr)(q:List FX)(r:FX)(m n:Int)(i:List Nat)(k:List I):Prop:=
 ∃(j:Sl) (d:List FM) (f:FM) (p:Addr),d.map FM.x=q/\f.x=r/\(∀g∈d++[f],∀t∈g.ts,t∈k)/\j.a=some p/\o=p.add (d.length *10)/\
  i=(SL l j m n ((d++[f]).flatMap FM.c) ((d++[f]).flatMap FM.rows)).flatMap (·.fp)/\i.Nodup/\(∀e∈SL l j m n ((d++[f]).flatMap FM.c) ((d++[f]).flatMap FM.rows),e.P w)/\I.Ps w k/\∀b∈I.bd k,b∉i
def iR(w:J)(a:List Nat)(c:List I)(g:Nat)(e:Addr)(f:List FX)(j:FX)(i k:Int)(A:List I->Prop)(d:J):Prop:=∃q h,St d g e f j i k q h/\Fr (·∈a) w d/\(∀x∈q,x∈a\/w.heap.size<=x)/\(∀b∈I.bd h,b∈I.bd c\/b∈a\/w.heap.size<=b)/\(∀t∈c,t∈h)/\A h
def iR.then{w x w':J}{own k:List Nat}{ts h:List I}{rb:Nat}{f0:Addr}{lo:List FX}{q:FX}{st wd:Int}{A:List I->Prop}(a:Fr (·∈own) w x)(g:∀e∈k,e∈own\/w.heap.size<=e)(j:∀b∈I.bd h,b∈I.bd ts\/b∈own\/w.heap.size<=b)(i:∀t∈ts,t∈h)(d:iR x k h rb f0 lo q st wd A w'):iR w own ts rb f0 lo q st wd A w':=by
 obtain⟨F,K,G,D,E,z,H,y⟩:=d;refine⟨F,K,G,a.trans D λe c C=>(g e C).resolve_right λd=>io,λe c=>?_,λb B=>?_,λt f=>H t (i t f),y⟩
 .rcases E e c with d|d
  .grind
  .exact .inr (bD a.size d)
 .rcases z b B with d|d|d
  .grind
  .grind
  .exact .inr (.inr (bD a.size d))
def iR.mono{w w':J}{own:List Nat}{ts:List I}{rb:Nat}{f0:Addr}{lo:List FX}{e:FX}{st wd:Int}{A d:List I->Prop}(q:iR w own ts rb f0 lo e st wd A w')(a:∀l,A l->d l):iR w own ts rb f0 lo e st wd d w':=by obtain⟨y,C,z,k,x,j,B,h⟩:=q;exact⟨y,C,z,k,x,j,B,a _ h⟩
def St.vR{w:J}{rb:Nat}{sl:Sl}{e:List FM}{f:FM}{ts:List I}{st wd:Int}{own:List Nat}(i:own=(SL rb sl st wd ((e++[f]).flatMap FM.c) ((e++[f]).flatMap FM.rows)).flatMap (·.fp))(j:own.Nodup)(k:∀h∈SL rb sl st wd ((e++[f]).flatMap FM.c) ((e++[f]).flatMap FM.rows),h.P w)(l:I.Ps w ts)(d:∀b∈I.bd ts,b∉own):
  O (·∈own) w w (SL rb sl st wd ((e++[f]).flatMap FM.c) ((e++[f]).flatMap FM.rows)) [.trees ts]:=by
 refine O.pD _ _ (λh a=>⟨k h a,λb g=>by grind⟩) (i▸j) λh a=>?_;simp only[aF,a5,a9]at a;subst a;refine⟨l,λb g o n m=>d b (a7.1 g) ?_⟩
 grind
def St.of{w w':J}{rb:Nat}{f0:Addr}{sl:Sl}{e:List FM}{f:FM}{ts h:List I}{st wd:Int}{own:List Nat}{p:Addr}{D:List En}{A:List I->Prop}(H:O (·∈own) w w' (SL rb sl st wd ((e++[f]).flatMap FM.c) ((e++[f]).flatMap FM.rows)) D)(i:Nat)(j:D[i]? =some (.trees h))(q:∀g∈e++[f],∀t∈g.ts,t∈h)(o:sl.a=some p)(l:f0=p.add (e.length *10))(d:∀b∈I.bd h,b∈I.bd ts\/b∈own\/w.heap.size<=b)(k:∀t∈ts,t∈h)(m:A h):
  iR w own ts rb f0 (e.map FM.x) f.x st wd A w':=by
 refine⟨_,h,⟨sl,e,f,p,rfl,rfl,q,o,l,rfl,H.nd,H.own,H.getD i j,λb d n=>?_⟩,H.fr,λC r=>?_,d,k,m⟩
 .obtain ⟨y,B,z⟩:=cl.1 n;exact H.dj _ (aA j) b (a7.2 d) y B z
 .obtain ⟨y,B,z⟩:=cl.1 r;exact(H.new y B C z).symm
section
variable {M:Nat->Prop} {w0 w:J} {L D:List En} {bs:List Nat}
def _root_.Go.W.O.g2(H:O M w0 w L D)(i:Nat){sl:Sl}{h:List FM}{f:FM}{p:Addr}(b:L[i]? =some (.row iK 10 sl ((h++[f]).flatMap FM.c)))(d:sl.a=some p)(j:Nat){v:V}(e:f.c[j]? =some v:=by rfl):w.cell? ((p.add (h.length *10)).add j)=some v:=by
 have y:aL w iK 10 sl ((h++[f]).flatMap FM.c):=H.get i b;have x:((h++[f]).flatMap FM.c)[h.length *10+j]? =some v:=by
  rw[dL,List.getElem?_append_right (by rw[qi];omega),qi]
  grind
 obtain⟨z,k,q⟩:=y.a2.2.2.2 _ _ x;rw[d]at k;cases k;rw[add_add];exact q
def WN(a:List FM)(f b:FM)(j:Nat)(v:V)(d:j<10)(e:f.c.set j v=b.c):((a++[f]).flatMap FM.c).set (a.length *10+j) v=(a++[b]).flatMap FM.c:=by
 rw[dL,dL,List.set_append,aa (by rw[qi];omega),qi]
 grind
def _root_.Go.W.O.jc(H:O M w0 w L D)(i:Nat){sl:Sl}{d:List FM}{f:FM}{p:Addr}{K:J->Prop}{v:V}(e:FM)(j:Nat)(q:L[i]? =some (.row iK 10 sl ((d++[f]).flatMap FM.c)))(s:sl.a=some p)(r:j<10)(o:f.c.set j v=e.c)(n:∀h,O M w0 h (L.set i (.row iK 10 sl ((d++[e]).flatMap FM.c))) D->K h)(l:∀b∈bs,En.g b∈L:=by simp):aM w ((p.add (d.length *10)).add j) v λm=>kept bs w m/\K m:=
 H.vf i (d.length *10) j q s (by rw[qi];grind) (λh k=>n h (by rw[WN d f e j v r o]at k;exact k)) l
def GM{w:J}{p:Addr}{v:V}{K:J->Prop}(d:aM w p v λa=>kept [] w a/\K a):aM w p v K:=abT d λ_ d=>d.2
end
def Gn:∀a:List FM,(a.flatMap FM.rows).length=a.length *4
 |[]=>rfl
 |f::a=>by have:=Gn a;simp only[da,List.length_append,List.length_cons];have:f.rows.length=4:=rfl;omega
def Gp(a:List FM)(f:FM)(j:Nat)(x:eb)(b:j<4):((a++[f]).flatMap FM.rows).set (a.length *4+j) x=a.flatMap FM.rows++f.rows.set j x:=by
 have d:=Gn a
 grind
def qD(a:List FM)(f:FM)(j:Nat)(x:eb)(b:f.rows[j]? =some x):((a++[f]).flatMap FM.rows)[a.length *4+j]? =some x:=by
 have d:=Gn a
 grind
def gn(k:Int)(s:Sl)(a:List I):I:=match a with |[d]=>d|l=>.mk k 0 0 s l
def ph(k:Int)(l:List Rx):Rx:=match l with |[d]=>d|l=>.mk k 0 0 l
def FF(k:Int)(s:Sl)(a:List I):(gn k s a).rx=ph k (I.ao a):=by
 match a with
 |[]=>rfl
 |[d]=>rfl
 |d::e::l=>rfl
def ZD{k:Int}{s:Sl}{ts:List I}{b:Nat}(d:b∈(gn k s ts).fp):b∈(I.row s ts).fp\/b∈I.bd ts:=by
 match ts,d with
 |[],d=>exact I.gC.1 (show b∈(I.mk k 0 0 s []).fp from d)
 |[x],d=>exact .inr (I.bS.2 ⟨x,gs,d⟩)
 |x::e::l,d=>exact I.gC.1 (show b∈(I.mk k 0 0 s (x::e::l)).fp from d)
def Cv(k:Int)(s:Sl)(a:List I)(w:J)(h:bo 4 w s (a.flatMap I.c)):aj U zR #[.int .i64 k,s.v] w λr g=>r=ad (gn k s a).v/\ag w g:=by
 have q:=I.cw h;refine QK.aq ((bT [I.row s a] (by intro z j;simp only[aF,a5,a9]at j;subst j;exact h)).ax λm o b=>aw (λf=>⟨io,io,?_⟩) (λf=>b.ae λy d=>⟨?_,d.fr⟩))
 .have x:a.length=1:=io
  obtain⟨e,rfl⟩:=List.length_eq_one_iff.1 x;refine I.aT (b.getD 0) (i:=0) (t:=e) rfl λp n c=>⟨_,_,_,_,c.c0,c.c1,c.c2,c.c3,b.ae λy d=>⟨rfl,d.fr⟩⟩
 .match a,q with
  |[],_=>rfl
  |[e],q=>grind
  |e::A::l,_=>rfl
section
variable {M:Nat->Prop} {w0 w:J} {L D:List En} {bs:List Nat}
def _root_.Go.W.O.node(H:O M w0 w L D)(i:Nat){ts ks:List I}{s:Sl}(k:Int)(g d:UInt8)(c:D[i]? =some (.trees ts))(f:I.row s ks∈D)(e:∀t∈ks,t∈ts):O M w0 w L [.trees (ts++[.mk k g d s ks])]:=by
 have q:I.Ps w ts:=H.getD i c;have y:=H.ec (.trees (ts++[.mk k g d s ks])) (Fr.refl _ _) (I.jD λt a=>?_) λb B=>.inr (.inr ?_)
 .exact y.forget _ gs
 .rcases aK.1 a with a|a
  .exact q.mem a
  .simp at a;subst a;unfold I.P;exact⟨H.rd _ f,I.jD λt a=>q.mem (e t a)⟩
 .obtain ⟨t,a,j⟩:=I.bS.1 (a7.1 B);rcases aK.1 a with a|a
  .exact ⟨_,aA c,a7.2 (I.bS.2 ⟨t,a,j⟩)⟩
  .simp at a;rw[a]at j;rcases I.gC.1 j with h|h
   .exact ⟨_,f,h⟩
   .obtain ⟨x,A,z⟩:=I.bS.1 h;exact⟨_,aA c,a7.2 (I.bS.2 ⟨x,e x A,z⟩)⟩
def _root_.Go.W.O.O0(H:O M w0 w L D)(i:Nat){ts ks:List I}{s:Sl}(k:Int)(c:D[i]? =some (.trees ts))(e:I.row s ks∈D)(d:∀t∈ks,t∈ts):O M w0 w L [.trees (ts++[gn k s ks])]:=by
 match ks,e,d with
 |[],e,d=>exact H.node i k 0 0 c e d
 |h::z::l,e,d=>exact H.node i k 0 0 c e d
 |[h],e,d=>
  have x:I.Ps w ts:=H.getD i c;have q:=d h gs;have y:=H.ec (.trees (ts++[h])) (Fr.refl _ _) (I.jD λt a=>?_) λb f=>.inr (.inr ?_)
  .exact y.forget _ (by simp[gn])
  .rcases aK.1 a with a|a
   .exact x.mem a
   .simp at a;subst a;exact x.mem q
  .obtain ⟨t,a,j⟩:=I.bS.1 (a7.1 f);rcases aK.1 a with a|a
   .exact ⟨_,aA c,a7.2 (I.bS.2 ⟨t,a,j⟩)⟩
   .simp at a;rw[a]at j;exact⟨_,aA c,a7.2 (I.bS.2 ⟨h,q,j⟩)⟩
abbrev z4:List V:=[.int .i64 0,.int .u8 0,.int .u8 0,.slice none 0 0]
def yC(a u:List V)(n j:Nat)(v:V)(b:a.length=n):(a++u).set (n+j) v=a++u.set j v:=by grind
def _root_.Go.W.O.uQ(H:O M w0 w L D)(i j n:Nat){h:List eb}{s:Sl}{vs:List V}{p:Addr}{K:J->Prop}(t:I)(u:L[i]? =some (.rows h))(T:h[j]? =some (s,vs++z4))(z:s.a=some p)(y:vs.length=n *4)(hK:∀w',O M w0 w' (L.set i (.rows (h.set j (s,vs++t.c)))) D->K w')(r:∀b∈bs,En.g b∈L):
  aM w (p.add (aZ (n:Int) *4)) (.int .i64 t.k) λo=>kept bs w o/\aM o ((p.add (aZ (n:Int) *4)).add 1) (.int .u8 (t.lo.toNat:Int)) λf=>kept bs o f/\aM f ((p.add (aZ (n:Int) *4)).add 2) (.int .u8 (t.hi.toNat:Int)) λl=>kept bs f l/\aM l ((p.add (aZ (n:Int) *4)).add 3) t.s.v λq=>kept bs l q/\K q:=by
 rw[bG];have ag:i<L.length:=(cq.1 u).1;have ah:j<h.length:=(cq.1 T).1;have C:∀{A:List En} (e:En),A.length=L.length->(A.set i e)[i]? =some e:=λ{A} e hl=>by grind
 have B:∀(d:List eb) (x:eb),d.length=h.length->(d.set j x)[j]? =some x:=λd x hl=>by grind
 have E:∀{b:Nat},En.g b∈L->∀(d:List eb),En.g b∈L.set i (.rows d):=λ{b} m d=>by
  obtain⟨Z,Y⟩:=i9.1 m;by_cases ab:i=Z
  .subst ab;exfalso;rw[u]at Y;have hP:(En.rows h).P w:=H.get i u;have S:En.rows h=En.g b:=dZ Y;have af:(En.rows h).fp=[b]:=by rw[S];rfl
   have aa:b∈(En.rows h).fp:=by grind
   have ac:h≠[]:=by grind
   refine Rf h ac w b aa ?_;rw[S];show b<_;simp
  .exact i9.2 ⟨Z,by grind⟩
 have ae:=H.A1 (bs:=bs) i j (n *4) 0 (v:=.int .i64 t.k) (K:=λo=>aM o ((p.add (n *4)).add 1) (.int .u8 (t.lo.toNat:Int)) λf=>kept bs o f/\aM f ((p.add (n *4)).add 2) (.int .u8 (t.hi.toNat:Int)) λl=>kept bs f l/\aM l ((p.add (n *4)).add 3) t.s.v λq=>kept bs l q/\K q) u T z (by grind) ?_ r
 .rw [jm]at ae;omega
 intro o F;rw[yC vs z4 (n *4) 0 _ y]at F;refine F.A1 (bs:=bs) i j (n *4) 1 (C _ rfl) (B _ _ rfl) z (by grind) ?_ (λb m=>E (r b m) _);intro f G;rw[yC vs _ (n *4) 1 _ y,List.set_set,List.set_set]at G;refine G.A1 (bs:=bs) i j (n *4) 2 (C _ rfl) (B _ _ rfl) z (by grind) ?_ (λb m=>E (r b m) _);intro l N;rw[yC vs _ (n *4) 2 _ y,List.set_set,List.set_set]at N;refine N.A1 (bs:=bs) i j (n *4) 3 (C _ rfl) (B _ _ rfl) z (by grind) ?_ (λb m=>E (r b m) _);intro q Q;rw[yC vs _ (n *4) 3 _ y,List.set_set,List.set_set]at Q;exact hK q Q
def _root_.Go.W.O.Lp(H:O M w0 w L D)(i:Nat){sl:Sl}{e:List FM}{f:FM}{p:Addr}(b:L[i]? =some (.row iK 10 sl ((e++[f]).flatMap FM.c)))(d:sl.a=some p):
  w.cell? (((p.add (e.length *10)).add 6).add 0)=some (.int .i64 f.la.k)/\w.cell? (((p.add (e.length *10)).add 6).add 1)=some (.int .u8 (f.la.lo.toNat:Int))/\w.cell? (((p.add (e.length *10)).add 6).add 2)=some (.int .u8 (f.la.hi.toNat:Int))/\w.cell? (((p.add (e.length *10)).add 6).add 3)=some f.la.s.v:=by
 refine⟨?_,?_,?_,?_⟩
 .rw [jm];exact H.g2 i b d 6
 .rw [add_add];exact H.g2 i b d 7
 .rw [add_add];exact H.g2 i b d 8
 .rw [add_add];exact H.g2 i b d 9
end
def lX:Nat->Rx->Rx
 |0,r=>r
 |n+1,r=>lX n (.mk 6 0 0 [r])
def lQ(f:FX):FX:=⟨f.k,f.ar,f.al,f.an,f.ca++[lX f.n f.la],0,f.la⟩
def IE{w:J}{rb:Nat}{f0:Addr}{lo:List FX}{S:FX}{st wd:Int}{own:List Nat}{ts:List I}(z:St w rb f0 lo S st wd own ts)(hn:S.n<=1000000)(hc:S.ca.length<=1000000):
  aj U NU #[.pointer (some f0)] w λr u=>r=ad (.tuple #[])/\iR w own ts rb f0 lo (lQ S) st wd (λ_=>True) u:=by
 obtain⟨sl,d,f,p,rfl,rfl,F,q,rfl,h6,h7,h8,h9,ay⟩:=z;have ac:=St.vR h6 h7 h8 h9 ay;have az:f.la∈ts:=F f gs _ (by simp[FM.ts]);have aB:f.ca.2.length<=1000000:=by
  have:f.x.ca.length=f.ca.2.length:=by show(I.ao f.ca.2).length=_;rw[I.fN];simp
  omega
 have loop:∀(m:Nat) (r:I) (j:List I) (i:Nat) (y:J),m<=1000000->(∀t∈ts,t∈j)->(∀b∈I.bd j,b∈I.bd ts\/b∈own\/w.heap.size<=b)->r∈j->lX m r.rx=lX f.n f.la.rx->
   O (·∈own) w y (SL rb sl st wd ((d++[(⟨f.k,f.ar,f.al,f.an,f.ca,m,f.la⟩:FM)]).flatMap FM.c) ((d++[f]).flatMap FM.rows)++[.g i]) [.trees j]->
   xu.a4 (p.add (d.length *10)) i r.k r.lo.toNat r.hi.toNat r.s y λr u=>r=ad (.tuple #[])/\iR w own ts rb (p.add (d.length *10)) (d.map FM.x) (lQ f.x) st wd (λ_=>True) u:=by
  intro m;induction m with
  |zero=>
   intro r j i y _ E Q hr Z v;refine xu.bR ⟨0,v.g2 1 rfl q 5,aW rfl (v.ae λK B=>⟨_,B.g2 1 rfl q 4,?_⟩)⟩;have ak:((d++[f]).flatMap FM.rows)[d.length *4+3]? =some (f.ca.1,f.ca.2.flatMap I.c):=qD d f 3 _ rfl;have nr:f.ca.1.n=f.ca.2.length:=by have hp:(En.rows ((d++[f]).flatMap FM.rows)).P K:=B.get 2;exact I.cw (hp.1 _ (aA ak)).a2
   refine B.e3 (e:=aV) (sz:=4) (n:=1) (cs:=z4) rfl dl λw3 C=>⟨C.g2 1 rfl q 4,?_⟩;refine C.yA (bs:=[i]) 2 (d.length *4+3) (src:=⟨some (ab K.heap.size),1,1⟩) (news:=z4) rfl ak (aL.a2 (C.get 4)) (by simp[Value.oneCell']) (by grind) (λo T M ah am=>⟨io,by grind,?_⟩);obtain⟨aa,hq⟩:∃aa,o.a=some aa:=by
    cases hs:o.a with
    |none=>grind
    |some aa=>grind
   rw[hq];have ag:d.length *4+3<((d++[f]).flatMap FM.rows).length:=by grind
   have N:O (·∈own) w T (SL rb sl st wd ((d++[(⟨f.k,f.ar,f.al,f.an,f.ca,0,f.la⟩:FM)]).flatMap FM.c) (((d++[f]).flatMap FM.rows).set (d.length *4+3) (o,f.ca.2.flatMap I.c++z4))++[.g i]) [.trees j]:=M.take 4;have fin:∀{u:J},O (·∈own) w u (SL rb sl st wd ((d++[(⟨f.k,f.ar,f.al,f.an,(o,f.ca.2++[r]),0,f.la⟩:FM)]).flatMap FM.c) (((d++[f]).flatMap FM.rows).set (d.length *4+3) (o,f.ca.2.flatMap I.c++r.c))++[.g i]) [.trees j]->
     (Ending.returned (.tuple #[])=ad (.tuple #[])/\iR w own ts rb (p.add (d.length *10)) (d.map FM.x) (lQ f.x) st wd (λ_=>True) u):=λ{u} H'=>by
    refine⟨rfl,?_⟩;have e1:((d++[f]).flatMap FM.rows).set (d.length *4+3) (o,f.ca.2.flatMap I.c++r.c)=(d++[(⟨f.k,f.ar,f.al,f.an,(o,f.ca.2++[r]),0,f.la⟩:FM)]).flatMap FM.rows:=by rw[Gp d f 3 _ io,dL];congr 1;simp[FM.rows]
    rw[e1]at H';have:=St.of (ts:=ts) (A:=λ_=>True) (f0:=p.add (d.length *10)) (H'.take 3) 0 rfl (λg H t h=>?_) q rfl Q E trivial
    .have e2:(FM.x ⟨f.k,f.ar,f.al,f.an,(o,f.ca.2++[r]),0,f.la⟩)=lQ f.x:=by
      unfold FM.x lQ;simp only[kG];have:I.ao [r]=[lX f.n f.la.rx]:=by rw[<-Z];rfl
      grind
     grind
    .rcases aK.1 H with H|H
     .grind
     .simp at H;subst H;simp only[FM.ts,aK,aF,a5,a9]at h;rcases h with(((h|h)|h)|(h|rfl))|rfl
      .exact E t (F f gs t (by simp[FM.ts,h]))
      .exact E t (F f gs t (by simp[FM.ts,h]))
      .exact E t (F f gs t (by simp[FM.ts,h]))
      .exact E t (F f gs t (by simp[FM.ts,h]))
      .exact hr
      grind
   refine⟨?_,?_⟩
   .rw [nr];refine N.uQ (bs:=[i]) 2 (d.length *4+3) f.ca.2.length r rfl (l1 ag) hq (I.hL _) (λu D=>?_) gs;rw[List.set_set]at D;exact D.jc (bs:=[i]) (f:=⟨f.k,f.ar,f.al,f.an,f.ca,0,f.la⟩) 1 ⟨f.k,f.ar,f.al,f.an,(o,f.ca.2++[r]),0,f.la⟩ 4 rfl q io rfl (λav W=>fin W) gs
   .refine N.jc (bs:=[i]) (f:=⟨f.k,f.ar,f.al,f.an,f.ca,0,f.la⟩) 1 ⟨f.k,f.ar,f.al,f.an,(o,f.ca.2++[r]),0,f.la⟩ 4 rfl q io rfl (λu D=>?_) gs;rw[nr];refine O.uQ (bs:=[i]) (L:=SL rb sl st wd ((d++[(⟨f.k,f.ar,f.al,f.an,(o,f.ca.2++[r]),0,f.la⟩:FM)]).flatMap FM.c) (((d++[f]).flatMap FM.rows).set (d.length *4+3) (o,f.ca.2.flatMap I.c++z4))++[.g i]) D 2 (d.length *4+3) f.ca.2.length r rfl (l1 ag) hq (I.hL _) (λav W=>?_) gs;rw[List.set_set]at W
    grind
  |succ m ih=>
   intro r j i y hm E Q hr Z v;refine xu.bR ⟨((m+1:Nat):Int),v.g2 1 rfl q 5,aU (aQ io) ?_⟩;refine v.e3 (e:=aV) (sz:=4) (n:=1) (cs:=r.c) rfl dl λK B=>B.ae (bs:=[i]) (λw3 C=>⟨_,C.g2 1 rfl q 5,?_⟩) gs;have aw:aD .i64 (((m+1:Nat):Int) - 1)=(m:Int):=by rw[br _ io];omega
   show aM w3 _ (.int .i64 (aD .i64 (((m+1:Nat):Int) - 1))) _;rw[aw];refine C.jc (bs:=[i]) (f:=⟨f.k,f.ar,f.al,f.an,f.ca,m+1,f.la⟩) 1 ⟨f.k,f.ar,f.al,f.an,f.ca,m,f.la⟩ 5 rfl q io rfl (λT M=>?_) gs;have N:=M.freeze 4 (I.row ⟨some (ab y.heap.size),1,1⟩ [r]) rfl (by show bo 4 T _ ([r].flatMap I.c);rw[show[r].flatMap I.c=r.c by simp];exact aL.a2 (M.get 4)) (λb G=>gL (e:=aV) (vs:=[r].flatMap I.c) G);have D:=N.node 0 6 0 0 (s:=⟨some (ab y.heap.size),1,1⟩) (ks:=[r]) rfl gs (λt h=>by grind);refine ih (.mk 6 0 0 ⟨some (ab y.heap.size),1,1⟩ [r]) _ i T io (λt h=>by grind) (λb G=>?_) gs Z D;obtain⟨t,h,Y⟩:=I.bS.1 G;rcases aK.1 h with h|h
   .exact Q b (I.bS.2 ⟨t,h,Y⟩)
   .simp at h;rw[h]at Y;rcases I.gC.1 Y with z|z
    .have:=gL (e:=aV) z;simp[En.row,aR,I.s]at this;subst this;exact .inr (.inr v.fr.size)
    .obtain ⟨t',ap,af⟩:=I.bS.1 z;simp[I.l]at ap;rw[ap]at af;exact Q b (I.bS.2 ⟨r,hr,af⟩)
 obtain⟨c0,c1,c2,c3⟩:=ac.Lp 1 rfl q;have ah:f.n<=1000000:=hn;refine xu.aq ⟨_,_,_,_,c0,c1,c2,c3,ac.ax (λi y v=>v.ae (λK B=>?_) gs) gs⟩;exact loop f.n f.la ts i K ah (λ_ z=>z) (λb G=>.inl G) az rfl B
def FM.aX(f:FM)(j:Nat):Sl×List I:=if j=1 then f.ar else if j=2 then f.al else if j=3 then f.an else f.ca
def FM.put(f:FM)(j:Nat)(x:Sl×List I):FM:=⟨f.k,if j=1 then x else f.ar,if j=2 then x else f.al,if j=3 then x else f.an,if j=4 then x else f.ca,f.n,f.la⟩
def v7{j:Nat}(e:1<=j)(f:j<=4){p:Nat->Prop}(a:p 1)(b:p 2)(c:p 3)(d:p 4):p j:=by grind
def Jn(f:FM){j:Nat}(a:1<=j)(b:j<=4):f.c[j]? =some (f.aX j).1.v:=v7 (p:=λj=>f.c[j]? =some (f.aX j).1.v) a b rfl rfl rfl rfl
def tD(f:FM){j:Nat}(a:1<=j)(b:j<=4):f.rows[j - 1]? =some ((f.aX j).1,(f.aX j).2.flatMap I.c):=v7 (p:=λj=>f.rows[j - 1]? =some ((f.aX j).1,(f.aX j).2.flatMap I.c)) a b rfl rfl rfl rfl
def xl(f:FM)(x:Sl×List I){j:Nat}(a:1<=j)(b:j<=4):f.c.set j x.1.v=(f.put j x).c:=v7 (p:=λj=>f.c.set j x.1.v=(f.put j x).c) a b rfl rfl rfl rfl
def aab(f:FM)(x:Sl×List I){j:Nat}(a:1<=j)(b:j<=4):f.rows.set (j - 1) (x.1,x.2.flatMap I.c)=(f.put j x).rows:=v7 (p:=λj=>f.rows.set (j - 1) (x.1,x.2.flatMap I.c)=(f.put j x).rows) a b rfl rfl rfl rfl
def Aq(f:FM)(x:Sl×List I){j:Nat}(b:1<=j)(c:j<=4){t:I}(a:t∈(f.put j x).ts):t∈f.ts\/t∈x.2:=by
 refine v7 (p:=λj=>t∈(f.put j x).ts->t∈f.ts\/t∈x.2) b c ?_ ?_ ?_ ?_ a<;>
 .intro a;simp[FM.put,FM.ts]at a ⊢
  grind
def oT(f:FM)(j:Nat){t:I}(a:t∈(f.aX j).2):t∈f.ts:=by
 unfold FM.aX at a;unfold FM.ts
 grind
def aaa(f:FM)(x:Sl×List I){j i:Nat}(b:i≠j)(c:1<=i)(a:i<=4):(f.put j x).aX i=f.aX i:=by
 have:i=1\/i=2\/i=3\/i=4:=io
 unfold FM.put FM.aX
 grind
section
variable {w0 w:J} {own:List Nat} {rb:Nat} {sl:Sl} {st wd:Int} {fs:List FM} {f:FM} {ts:List I} {p:Addr}
abbrev FS(a:List Nat)(k w:J)(d:Nat)(g:Sl)(i l:Int)(b:List FM)(f:FM)(e:List eb)(j:List I):Prop:=O (·∈a) k w (SL d g i l ((b++[f]).flatMap FM.c) e) [.trees j]
def tZ(a:List FM)(f:FM)(x:Sl×List I){j:Nat}(b:1<=j)(d:j<=4):((a++[f]).flatMap FM.rows).set (a.length *4+(j - 1)) (x.1,x.2.flatMap I.c)=(a++[f.put j x]).flatMap FM.rows:=by rw[Gp a f (j - 1) _ io,aab f x b d,dL];simp
def P9(H:FS own w0 w rb sl st wd fs f ((fs++[f]).flatMap FM.rows) ts)(o:sl.a=some p)(d:Nat)(e:1<=d)(g:d<=4)(t:I)(hb:(f.aX d).2.length<=1000000){x:J}{src:Sl}(u:O (·∈own) w0 x (SL rb sl st wd ((fs++[f]).flatMap FM.c) ((fs++[f]).flatMap FM.rows)++[.row aV 4 src z4]) [.trees ts])(ah:src.n=1){K:J->Prop}(T:∀b j,FS own w0 j rb sl st wd fs (f.put d (b,(f.aX d).2++[t])) ((fs++[f.put d (b,(f.aX d).2++[t])]).flatMap FM.rows) ts->K j):
  ∃(i:Sl) (l:J),(hX #[jg,jg] jg #[(f.aX d).1.v,src.v]).run U x=.ok (i.v) l/\(0:Int)<=(((f.aX d).1.n:Nat):Int)/\(((f.aX d).1.n:Nat):Int)<(i.n:Int)/\dv i.a λh=>((aM l (h.add (aZ (((f.aX d).1.n:Nat):Int) *4)) (.int .i64 t.k) λB=>aM B ((h.add (aZ (((f.aX d).1.n:Nat):Int) *4)).add 1) (.int .u8 (t.lo.toNat:Int)) λC=>aM C ((h.add (aZ (((f.aX d).1.n:Nat):Int) *4)).add 2) (.int .u8 (t.hi.toNat:Int)) λy=>aM y ((h.add (aZ (((f.aX d).1.n:Nat):Int) *4)).add 3) t.s.v λz=>aM z ((p.add (fs.length *10)).add d) i.v K)/\
   (aM l ((p.add (fs.length *10)).add d) i.v λN=>aM N (h.add (aZ (((f.aX d).1.n:Nat):Int) *4)) (.int .i64 t.k) λB=>aM B ((h.add (aZ (((f.aX d).1.n:Nat):Int) *4)).add 1) (.int .u8 (t.lo.toNat:Int)) λC=>aM C ((h.add (aZ (((f.aX d).1.n:Nat):Int) *4)).add 2) (.int .u8 (t.hi.toNat:Int)) λy=>aM y ((h.add (aZ (((f.aX d).1.n:Nat):Int) *4)).add 3) t.s.v K)):=by
 have G:((fs++[f]).flatMap FM.rows)[fs.length *4+(d - 1)]? =some ((f.aX d).1,(f.aX d).2.flatMap I.c):=qD fs f (d - 1) _ (tD f e g);have W:(f.aX d).1.n=(f.aX d).2.length:=by have o:(En.rows ((fs++[f]).flatMap FM.rows)).P x:=u.get 2;exact I.cw (o.1 _ (aA G)).a2
 obtain⟨b,l,Q,_,S⟩:=u.yA (bs:=[]) (ty:=jg) 2 (fs.length *4+(d - 1)) (src:=src) (news:=z4) (K:=λb j=>FS own w0 j rb sl st wd fs f (((fs++[f]).flatMap FM.rows).set (fs.length *4+(d - 1)) (b,(f.aX d).2.flatMap I.c++z4)) ts/\b.n=(f.aX d).1.n+1/\∃h,b.a=some h) rfl G (aL.a2 (u.get 3)) (by simp[Value.oneCell']) io (λb w4 M Z Y=>⟨M.take 3,io,by
  cases hs:b.a with
  |none=>grind
  |some h=>grind⟩) gs
 obtain⟨D,aa,h,q⟩:=S;refine⟨b,l,Q,io,io,?_⟩;rw[q];have F:fs.length *4+(d - 1)<((fs++[f]).flatMap FM.rows).length:=by grind
 have E:∀(f:FM) (t:I) (d:Nat),(f.aX d).2.flatMap I.c++t.c=((f.aX d).2++[t]).flatMap I.c:=λf t d=>gs
 rw[W];refine⟨?_,?_⟩
 .have st:=O.uQ (bs:=[]) (K:=λz=>aM z ((p.add (fs.length *10)).add d) b.v K) D 2 (fs.length *4+(d - 1)) (f.aX d).2.length t rfl (l1 F) q (I.hL _) (λj m=>?_) gs
  .grind
  .rw [List.set_set,E,tZ fs f (b,(f.aX d).2++[t]) e g]at m;exact GM (m.jc (bs:=[]) (f:=f) 1 (f.put d (b,(f.aX d).2++[t])) d rfl o io (xl f (b,(f.aX d).2++[t]) e g) (λr A=>T b r A) gs)
 .refine GM (D.jc (bs:=[]) (f:=f) 1 (f.put d (b,(f.aX d).2++[t])) d rfl o io (xl f (b,(f.aX d).2++[t]) e g) (λj m=>?_) gs);have st:=O.uQ (bs:=[]) (K:=K) (L:=SL rb sl st wd ((fs++[f.put d (b,(f.aX d).2++[t])]).flatMap FM.c) (((fs++[f]).flatMap FM.rows).set (fs.length *4+(d - 1)) (b,(f.aX d).2.flatMap I.c++z4))) m 2 (fs.length *4+(d - 1)) (f.aX d).2.length t rfl (l1 F) q (I.hL _) (λr A=>?_) gs
  .grind
  .rw [List.set_set,E,tZ fs f (b,(f.aX d).2++[t]) e g]at A
   grind
def shift(H:FS own w0 w rb sl st wd fs f ((fs++[f]).flatMap FM.rows) ts)(L:sl.a=some p)(k:Int)(d s:Nat)(Q:1<=d)(hs:s=d+1)(y:s<=4)(hb:(f.aX d).2.length<=1000000)(bb:∀t∈f.ts,t∈ts){R:aB}(hK:∀u r,FS own w0 r rb sl st wd fs ((f.put d (u,(f.aX d).2++[gn k (f.aX s).1 (f.aX s).2])).put s (⟨none,0,0⟩,[])) ((fs++[(f.put d (u,(f.aX d).2++[gn k (f.aX s).1 (f.aX s).2])).put s (⟨none,0,0⟩,[])]).flatMap FM.rows) (ts++[gn k (f.aX s).1 (f.aX s).2])->R (ad (.tuple #[])) r):
  tI w λq=>∃b:Sl,q.cell? ((p.add (fs.length *10)).add d)=some (b.v)/\∃M:Sl,q.cell? ((p.add (fs.length *10)).add s)=some (M.v)/\
   ((aj U zR #[.i k,M.v] q λr_ C=>∃g:Int,∃B:Int,∃l:Int,∃m:Sl,r_=ad (.agg #[.i g,.int .u8 B,.int .u8 l,m.v])/\
    C.cell? ((p.add (fs.length *10)).add d)=some (b.v)/\c9 C (.cells #[.i 0,.int .u8 0,.int .u8 0,.slice none 0 0] aV) λN=>
    N.cell? ((p.add (fs.length *10)).add d)=some (b.v)/\∃(o:Sl) (D:J),Sem.run U (hX #[jg,jg] jg #[b.v,.slice (some (nb C)) 1 1]) N=.ok (o.v) D/\nN o (b.n:Int) λh=>((aM D (h.add (aZ (b.n:Int) *4)) (.i g) λw6=>
    aM w6 ((h.add (aZ (b.n:Int) *4)).add 1) (.int .u8 B) λw7=>aM w7 ((h.add (aZ (b.n:Int) *4)).add 2) (.int .u8 l) λw8=>aM w8 ((h.add (aZ (b.n:Int) *4)).add 3) (m.v) λw9=>
    aM w9 ((p.add (fs.length *10)).add d) (o.v) λS=>aM S ((p.add (fs.length *10)).add s) (.slice none 0 0) λj=>R (ad (.tuple #[])) j)/\
    (aM D ((p.add (fs.length *10)).add d) (o.v) λT=>aM T (h.add (aZ (b.n:Int) *4)) (.i g) λal=>aM al ((h.add (aZ (b.n:Int) *4)).add 1) (.int .u8 B) λW=>
    aM W ((h.add (aZ (b.n:Int) *4)).add 2) (.int .u8 l) λY=>aM Y ((h.add (aZ (b.n:Int) *4)).add 3) (m.v) λZ=>aM Z ((p.add (fs.length *10)).add s) (.slice none 0 0) λj=>R (ad (.tuple #[])) j)))/\
   (c9 q (.cells #[.i 0,.int .u8 0,.int .u8 0,.slice none 0 0] aV) λap=>ap.cell? ((p.add (fs.length *10)).add s)=some (M.v)/\ap.cell? ((p.add (fs.length *10)).add d)=some (b.v)/\
    aj U zR #[.i k,M.v] ap λr_ ar=>∃g:Int,∃B:Int,∃l:Int,∃m:Sl,r_=ad (.agg #[.i g,.int .u8 B,.int .u8 l,m.v])/\
    ar.cell? ((p.add (fs.length *10)).add d)=some (b.v)/\∃(o:Sl) (D:J),Sem.run U (hX #[jg,jg] jg #[b.v,.slice (some (nb q)) 1 1]) ar=.ok (o.v) D/\nN o (b.n:Int) λh=>((aM D (h.add (aZ (b.n:Int) *4)) (.i g) λw6=>
    aM w6 ((h.add (aZ (b.n:Int) *4)).add 1) (.int .u8 B) λw7=>aM w7 ((h.add (aZ (b.n:Int) *4)).add 2) (.int .u8 l) λw8=>aM w8 ((h.add (aZ (b.n:Int) *4)).add 3) (m.v) λw9=>
    aM w9 ((p.add (fs.length *10)).add d) (o.v) λS=>aM S ((p.add (fs.length *10)).add s) (.slice none 0 0) λj=>R (ad (.tuple #[])) j)/\
    (aM D ((p.add (fs.length *10)).add d) (o.v) λT=>aM T (h.add (aZ (b.n:Int) *4)) (.i g) λal=>aM al ((h.add (aZ (b.n:Int) *4)).add 1) (.int .u8 B) λW=>
    aM W ((h.add (aZ (b.n:Int) *4)).add 2) (.int .u8 l) λY=>aM Y ((h.add (aZ (b.n:Int) *4)).add 3) (m.v) λZ=>aM Z ((p.add (fs.length *10)).add s) (.slice none 0 0) λj=>R (ad (.tuple #[])) j)))):=by
 subst hs;have E:1<=d+1:=io
 have aa:d<=4:=io
 have ag:((fs++[f]).flatMap FM.rows)[fs.length *4+(d+1 - 1)]? =some ((f.aX (d+1)).1,(f.aX (d+1)).2.flatMap I.c):=qD fs f (d+1 - 1) _ (tD f E y);have rd:∀{r:J} {G:List En},O (·∈own) w0 r (SL rb sl st wd ((fs++[f]).flatMap FM.c) ((fs++[f]).flatMap FM.rows)++G) [.trees ts]->bo 4 r (f.aX (d+1)).1 ((f.aX (d+1)).2.flatMap I.c):=λz=>by have hP:(En.rows ((fs++[f]).flatMap FM.rows)).P _:=z.get 2;exact(hP.1 _ (aA ag)).a2
 have fin:∀u r,FS own w0 r rb sl st wd fs (f.put d (u,(f.aX d).2++[gn k (f.aX (d+1)).1 (f.aX (d+1)).2])) ((fs++[f.put d (u,(f.aX d).2++[gn k (f.aX (d+1)).1 (f.aX (d+1)).2])]).flatMap FM.rows) ts->
   aM r ((p.add (fs.length *10)).add (d+1)) (.slice none 0 0) λj=>R (ad (.tuple #[])) j:=λu r z=>by
  have hc:(f.put d (u,(f.aX d).2++[gn k (f.aX (d+1)).1 (f.aX (d+1)).2])).aX (d+1)=f.aX (d+1):=aaa f _ io E y;refine GM (z.jc (bs:=[]) 1 ((f.put d (u,(f.aX d).2++[gn k (f.aX (d+1)).1 (f.aX (d+1)).2])).put (d+1) (⟨none,0,0⟩,[])) (d+1) rfl L io (xl _ (⟨none,0,0⟩,[]) E y) (λj H1=>hK u j ?_) gs);have ae:=qD fs (f.put d (u,(f.aX d).2++[gn k (f.aX (d+1)).1 (f.aX (d+1)).2])) (d+1 - 1) _ (tD _ E y);rw[hc]at ae;have A:=H1.DP 2 (fs.length *4+(d+1 - 1)) rfl ae;have x:=A.O0 0 k (s:=(f.aX (d+1)).1) (ks:=(f.aX (d+1)).2) rfl gs λt ht=>bb t (oT f _ ht);have aq:=tZ fs (f.put d (u,(f.aX d).2++[gn k (f.aX (d+1)).1 (f.aX (d+1)).2])) (⟨none,0,0⟩,[]) E y
  grind
 have K:∀{r:J} {G:List En},O (·∈own) w0 r (SL rb sl st wd ((fs++[f]).flatMap FM.c) ((fs++[f]).flatMap FM.rows)++G) [.trees ts]->r.cell? ((p.add (fs.length *10)).add d)=some ((f.aX d).1.v):=λz=>z.g2 1 rfl L d (Jn f Q aa);have ac:∀{r:J} {G:List En},O (·∈own) w0 r (SL rb sl st wd ((fs++[f]).flatMap FM.c) ((fs++[f]).flatMap FM.rows)++G) [.trees ts]->r.cell? ((p.add (fs.length *10)).add (d+1))=some ((f.aX (d+1)).1.v):=λz=>z.g2 1 rfl L (d+1) (Jn f E y);refine H.dr λq A=>⟨_,K (G:=[]) A,_,ac (G:=[]) A,?_,A.e3 (e:=aV) (sz:=4) (n:=1) (cs:=z4) rfl dl λC x=>⟨ac x,K x,?_⟩⟩
 .refine A.call (Cv k _ _ q (rd (G:=[]) A)) ?_;rintro _ C rfl x;refine⟨_,_,_,_,rfl,K (G:=[]) x,x.e3 (e:=aV) (sz:=4) (n:=1) (cs:=z4) rfl dl λN F=>⟨K F,?_⟩⟩;exact P9 H L d Q aa (gn k (f.aX (d+1)).1 (f.aX (d+1)).2) hb (src:=⟨some (ab C.heap.size),1,1⟩) F rfl fin
 .refine x.call (Cv k _ _ C (rd x)) ?_;rintro _ N rfl F;refine⟨_,_,_,_,rfl,K F,?_⟩;exact P9 H L d Q aa (gn k (f.aX (d+1)).1 (f.aX (d+1)).2) hb (src:=⟨some (ab q.heap.size),1,1⟩) F rfl fin
end
def iS(w:J)(a:List Nat)(c:List I)(b:Nat)(Q:cR->Addr->List FX->FX->Int->Int->List I->Prop):aB:=λr q=>∃d e j h k,iR w a c b d e j h k (Q r d e j h k) q
def k5(f:FX):FX:=⟨f.k,f.ar,f.al,f.an++[ph 3 (lQ f).ca],[],0,f.la⟩
def k4(f:FX):FX:=⟨f.k,f.ar,f.al++[ph 5 (k5 f).an],[],[],0,f.la⟩
def Di(f:FX):FX:=⟨f.k,f.ar,[],[],[],0,f.la⟩
def cG(f:FX):Rx:=ph 4 (k4 f).al
def GG{w0:J}{M:Nat->Prop}{w:J}{own:List Nat}{ts y:List I}{k:Int}{s:Sl}{ks:List I}(a:∀b∈I.bd ts,b∈I.bd y\/b∈own\/w.heap.size<=b)(f:∀b∈aR s,b∈own\/w.heap.size<=b)(d:∀t∈ks,t∈ts):∀b∈I.bd (ts++[gn k s ks]),b∈I.bd y\/b∈own\/w.heap.size<=b:=λb c=>by
 obtain⟨t,h,q⟩:=I.bS.1 c;rcases aK.1 h with h|h
 .exact a b (I.bS.2 ⟨t,h,q⟩)
 .simp at h;rw[h]at q;rcases ZD q with j|j
  .exact .inr (f b (gL (e:=aV) j))
  .obtain ⟨x,A,z⟩:=I.bS.1 j;exact a b (I.bS.2 ⟨x,d x A,z⟩)
def Rb{own:List Nat}{w0 w:J}{rb:Nat}{sl:Sl}{st wd:Int}{d:List FM}{f:FM}{ts:List I}(H:FS own w0 w rb sl st wd d f ((d++[f]).flatMap FM.rows) ts){j:Nat}(a:1<=j)(c:j<=4):∀b∈aR (f.aX j).1,b∈own\/w0.heap.size<=b:=λb e=>by have h:=qD d f (j - 1) _ (tD f a c);exact(H.new (.rows ((d++[f]).flatMap FM.rows)) gs b (a7.2 (cl.2 ⟨_,aA h,e⟩))).symm
def RI{q:List FM}{f:FM}{ts:List I}{k:Int}{d s:Nat}{x:Sl}(i:∀g∈q++[f],∀t∈g.ts,t∈ts)(a:1<=d)(b:d<=4)(c:1<=s)(e:s<=4):∀g∈q++[(f.put d (x,(f.aX d).2++[gn k (f.aX s).1 (f.aX s).2])).put s (⟨none,0,0⟩,[])],∀t∈g.ts,t∈ts++[gn k (f.aX s).1 (f.aX s).2]:=by
 intro g j t w;rcases aK.1 j with j|j
 .grind
 .simp at j;subst j;rcases Aq _ _ c e w with h|h
  .rcases Aq _ _ a b h with h|h
   .grind
   .rcases aK.1 h with h|h
    .exact bV _ (i f gs t (oT f d h))
    grind
  grind
def IF{w:J}{rb:Nat}{f0:Addr}{lo:List FX}{d:FX}{st wd:Int}{own:List Nat}{ts:List I}(F:St w rb f0 lo d st wd own ts)(j:d.n<=1000000)(i:d.ca.length<=1000000)(m:d.an.length<=1000000):
  aj U NV #[.pointer (some f0)] w λr c=>r=ad (.tuple #[])/\iR w own ts rb f0 lo (k5 d) st wd (λ_=>True) c:=by
 refine QI.ok ((IE F j i).mono ?_);rintro _ w1 ⟨rfl,ac,ab,⟨sl,h,f,p,rfl,e,q,z,rfl,H,K,L,N,G⟩,E,o1,B,t1,_⟩;refine⟨rfl,?_⟩;have y:=St.vR H K L N G;have O:(f.aX 3).2.length<=1000000:=by
  have D:f.x.an.length=f.an.2.length:=by show(I.ao f.an.2).length=_;rw[I.fN];simp
  have e2:f.x.an=d.an:=by rw[e];rfl
  show f.an.2.length<=_
  grind
 refine shift (R:=λr c=>r=ad (.tuple #[])/\iR w own ts rb (p.add (h.length *10)) (h.map FM.x) (k5 d) st wd (λ_=>True) c) y z 3 3 4 io rfl io O (λt a=>q f gs t a) λl c C=>⟨rfl,iR.then E o1 B t1 ?_⟩;have:=St.of (ts:=ab) (A:=λ_=>True) (f0:=p.add (h.length *10)) C 0 rfl (RI q io io io io) z rfl (GG (w0:=w) (M:=F0) (λb g=>.inl g) (Rb y io io) λt a=>q f gs t (oT f 4 a)) (λt a=>bV _ a) trivial;have D:((f.put 3 (l,(f.aX 3).2++[gn 3 (f.aX 4).1 (f.aX 4).2])).put 4 (⟨none,0,0⟩,[])).x=k5 d:=by
  have W:f.x.k=d.k:=by rw[e];rfl
  have S:f.x.ar=d.ar:=by rw[e];rfl
  have P:f.x.al=d.al:=by rw[e];rfl
  have Q:f.x.an=d.an:=by rw[e];rfl
  have T:f.x.ca=(lQ d).ca:=by rw[e]
  have aa:f.x.n=0:=by rw[e];rfl
  have Y:f.x.la=d.la:=by rw[e];rfl
  unfold k5;rw[<-W,<-S,<-P,<-Q,<-T,<-Y];show FX.mk f.k (f.ar.1,I.ao f.ar.2) (I.ao f.al.2) (I.ao (f.an.2++[gn 3 f.ca.1 f.ca.2])) (I.ao []) f.n f.la.rx=_;have Z:f.n=0:=aa;rw[Z,kG];simp[I.ao,FF,FM.x]
 grind
def ID{w:J}{rb:Nat}{f0:Addr}{lo:List FX}{d:FX}{st wd:Int}{own:List Nat}{ts:List I}(F:St w rb f0 lo d st wd own ts)(l:d.n<=1000000)(j:d.ca.length<=1000000)(g:d.an.length<=1000000)(o:d.al.length<=1000000):
  aj U NS #[.pointer (some f0)] w λr c=>r=ad (.tuple #[])/\iR w own ts rb f0 lo (k4 d) st wd (λ_=>True) c:=by
 refine QG.ok ((IF F l j g).mono ?_);rintro _ w1 ⟨rfl,ae,ac,⟨sl,h,f,p,rfl,e,q,z,rfl,H,K,L,N,G⟩,E,o1,B,t1,_⟩;refine⟨rfl,?_⟩;have y:=St.vR H K L N G;have O:(f.aX 2).2.length<=1000000:=by
  have D:f.x.al.length=f.al.2.length:=by show(I.ao f.al.2).length=_;rw[I.fN];simp
  have e2:f.x.al=d.al:=by rw[e];rfl
  show f.al.2.length<=_
  grind
 refine shift (R:=λr c=>r=ad (.tuple #[])/\iR w own ts rb (p.add (h.length *10)) (h.map FM.x) (k4 d) st wd (λ_=>True) c) y z 5 2 3 io rfl io O (λt a=>q f gs t a) λm c C=>⟨rfl,iR.then E o1 B t1 ?_⟩;have:=St.of (ts:=ac) (A:=λ_=>True) (f0:=p.add (h.length *10)) C 0 rfl (RI q io io io io) z rfl (GG (w0:=w) (M:=F0) (λb i=>.inl i) (Rb y io io) λt a=>q f gs t (oT f 3 a)) (λt a=>bV _ a) trivial;have D:((f.put 2 (m,(f.aX 2).2++[gn 5 (f.aX 3).1 (f.aX 3).2])).put 3 (⟨none,0,0⟩,[])).x=k4 d:=by
  have Y:f.x.k=d.k:=by rw[e];rfl
  have S:f.x.ar=d.ar:=by rw[e];rfl
  have P:f.x.al=d.al:=by rw[e];rfl
  have Q:f.x.an=(k5 d).an:=by rw[e]
  have W:f.x.ca=[]:=by rw[e];rfl
  have ab:f.x.n=0:=by rw[e];rfl
  have Z:f.x.la=d.la:=by rw[e];rfl
  unfold k4;rw[<-Y,<-S,<-P,<-Q,<-Z];show FX.mk f.k (f.ar.1,I.ao f.ar.2) (I.ao (f.al.2++[gn 5 f.an.1 f.an.2])) (I.ao []) (I.ao f.ca.2) f.n f.la.rx=_;have aa:f.n=0:=ab;have T:I.ao f.ca.2=[]:=W;rw[aa,T,kG];simp[I.ao,FF,FM.x]
 grind
abbrev SF(M:Nat->Prop)(i w:J)(b:Nat)(d:Sl)(e j:Int)(a:List FM)(f:FM)(G:List En)(g:List I):Prop:=O M i w (SL b d e j ((a++[f]).flatMap FM.c) ((a++[f]).flatMap FM.rows)++G) [.trees g]
section
variable {M:Nat->Prop} {w0 w:J} {bs:List Nat} {G:List En} {rb:Nat} {sl:Sl} {st wd:Int} {fs:List FM} {f:FM} {ts:List I} {p:Addr}
def abp(H:SF M w0 w rb sl st wd fs f G ts)(i:∀g∈fs++[f],∀t∈g.ts,t∈ts)(l:sl.a=some p):
  St w rb (p.add (fs.length *10)) (fs.map FM.x) f.x st wd ((SL rb sl st wd ((fs++[f]).flatMap FM.c) ((fs++[f]).flatMap FM.rows)).flatMap (·.fp)) ts:=by have h:=H.nd;rw[dL,eI]at h;refine⟨sl,fs,f,p,rfl,rfl,i,l,rfl,rfl,h.1,λe d=>H.own e (bV _ d),H.getD 0,λb k q=>?_⟩;obtain⟨e,d,j⟩:=cl.1 q;exact H.dj (.trees ts) gs b (a7.2 k) e (bV _ d) j
def abo(H:SF M w0 w rb sl st wd fs f G ts){w':J}{C:Addr}{D:List FX}{K:FX}{F L:Int}{B:List Nat}{h:List I}(s:St w' rb C D K F L B h)(u:Fr (·∈(SL rb sl st wd ((fs++[f]).flatMap FM.c) ((fs++[f]).flatMap FM.rows)).flatMap (·.fp)) w w')(o:∀y∈B,y∈(SL rb sl st wd ((fs++[f]).flatMap FM.c) ((fs++[f]).flatMap FM.rows)).flatMap (·.fp)\/w.heap.size<=y)(i:∀b∈I.bd h,b∈I.bd ts\/b∈(SL rb sl st wd ((fs++[f]).flatMap FM.c) ((fs++[f]).flatMap FM.rows)).flatMap (·.fp)\/w.heap.size<=b):
  ∃(n:Sl) (j:List FM) (p:FM) (q:Addr),j.map FM.x=D/\p.x=K/\(∀g∈j++[p],∀t∈g.ts,t∈h)/\n.a=some q/\C=q.add (j.length *10)/\(∀b∈I.bd h,b∈I.bd ts\/w0.heap.size<=b\/M b)/\SF M w0 w' rb n F L j p G h:=by
 obtain⟨n,j,p,q,O,P,Q,S,T,W,Y,h8,Z,af⟩:=s;have A:=H.nd;rw[dL,eI]at A;have E:∀b∈(SL rb sl st wd ((fs++[f]).flatMap FM.c) ((fs++[f]).flatMap FM.rows)).flatMap (·.fp),w0.heap.size<=b\/M b:=λb i=>by obtain⟨e,d,l⟩:=cl.1 i;exact H.new e (bV _ d) b l
 have ae:∀e∈G,∀b∈e.fp,b<w.heap.size:=λe d b i=>e.lt w (H.own e (cK _ d)) b i;have N:∀e∈G,∀b∈e.fp,b∉(SL rb sl st wd ((fs++[f]).flatMap FM.c) ((fs++[f]).flatMap FM.rows)).flatMap (·.fp):=λe d b i r=>A.2.2 b r b (cl.2 ⟨e,d,i⟩) rfl;have ab:=H.fr.size;have ag:∀b∈B,w0.heap.size<=b\/M b:=λb i=>(o b i).elim (E b) λk=>.inl (bD ab k);refine⟨n,j,p,q,O,P,Q,S,T,λb z=>?_,H.fr.trans u λy hx r=>(E y r).resolve_left io,λe d=>?_,λe d=>?_,λe d b z=>?_,?_,λe d b z ac m l=>?_⟩
 .grind
 .rcases aK.1 d with d|d
  .grind
  .exact e.st w w' (λb i hl=>u.cD b hl (N e d b i)) (H.own e (cK _ d))
 .simp at d;subst d;exact Z
 .rcases aK.1 d with d|d
  .grind
  .exact H.new e (cK _ d) b z
 .rw [dL,eI];refine⟨W▸Y,A.2.1,λy hx ah hy v=>?_⟩;subst v;obtain⟨e,d,l⟩:=cl.1 hy
  grind
 .simp at d;subst d;have aa:b∈I.bd h:=a7.1 z;rcases aK.1 m with m|m
  .grind
  .rcases i b aa with k|k|k
   .exact H.dj (.trees ts) gs b (a7.2 k) ac (cK _ m) l
   .grind
   grind
def _root_.Go.W.O.mA(H:SF M w0 w rb sl st wd fs f G ts)(u:∀g∈fs++[f],∀t∈g.ts,t∈ts)(F:sl.a=some p){g:bX}{args:Array V}{K:aB}{Q:cR->Addr->List FX->FX->Int->Int->List I->Prop}(y:∀own,St w rb (p.add (fs.length *10)) (fs.map FM.x) f.x st wd own ts->aj U g args w (iS w own ts rb Q))(z:∀r h (i:Sl) (e:List FM) (l:FM) (m:Addr) (j k:Int) (d:List I),(∀t∈ts,t∈d)->(∀g∈e++[l],∀t∈g.ts,t∈d)->i.a=some m->(∀b∈I.bd d,b∈I.bd ts\/w0.heap.size<=b\/M b)->Q r (m.add (e.length *10)) (e.map FM.x) l.x j k d->SF M w0 h rb i j k e l G d->K r h)(n:∀b∈bs,En.g b∈G:=by simp):fH bs U g args w K:=by
 have A:=H.nd;rw[dL,eI]at A;refine⟨(·∈(SL rb sl st wd ((fs++[f]).flatMap FM.c) ((fs++[f]).flatMap FM.rows)).flatMap (·.fp)),λb v E=>?_,(y _ (abp H u F)).mono ?_⟩
 .exact A.2.2 b E b (cl.2 ⟨_,n b v,by simp[En.g]⟩) rfl
 .rintro r h ⟨P,S,Y,j,k,T,d,s,q,o,b,t,N⟩;obtain⟨i,e,l,m,rfl,rfl,C,L,rfl,D,B⟩:=abo H s q o b;exact⟨q,z r h i e l m j k d t C L D N B⟩
def _root_.Go.W.O.yV(H:SF M w0 w rb sl st wd fs f G ts)(n:∀g∈fs++[f],∀t∈g.ts,t∈ts)(s:sl.a=some p){g:bX}{args:Array V}{K:aB}{Q:cR->Addr->List FX->FX->Int->Int->List I->Prop}(o:∀own,St w rb (p.add (fs.length *10)) (fs.map FM.x) f.x st wd own ts->aj U g args w (iS w own ts rb Q))(q:∀r l (e:Sl) (d:List FM) (k:FM) (m:Addr) (i j:Int) (c:List I),(∀t∈ts,t∈c)->(∀g∈d++[k],∀t∈g.ts,t∈c)->e.a=some m->(∀b∈I.bd c,b∈I.bd ts\/w0.heap.size<=b\/M b)->Q r (m.add (d.length *10)) (d.map FM.x) k.x i j c->SF M w0 l rb e i j d k G c->K r l):aj U g args w K:=by obtain⟨_,_,h⟩:=H.mA (bs:=[]) n s o q gs;exact h.mono λr l h=>h.2
end
def DO(f:FM):f.x.ar.2.length=f.ar.2.length/\f.x.al.length=f.al.2.length/\f.x.an.length=f.an.2.length/\f.x.ca.length=f.ca.2.length:=by refine⟨?_,?_,?_,?_⟩<;>(show(I.ao _).length=_;rw[I.fN];simp)
def yF{w:J}{own:List Nat}{ts:List I}{rb:Nat}{f0:Addr}{lo:List FX}{d:FX}{st wd:Int}{g:bX}{args:Array V}(j:aj U g args w λr e=>r=ad (.tuple #[])/\iR w own ts rb f0 lo d st wd (λ_=>True) e):
  aj U g args w (iS w own ts rb λr a b h c f _=>r=ad (.tuple #[])/\a=f0/\b=lo/\h=d/\c=st/\f=wd):=
 j.mono λr e ⟨k,q⟩=>⟨f0,lo,d,st,wd,q.mono λ_ _=>⟨k,rfl,rfl,rfl,rfl,rfl⟩⟩
structure Small(f:FX)(n:Nat):Prop where
 n':f.n<=n
 ar:f.ar.2.length<=n
 al:f.al.length<=n
 an:f.an.length<=n
 ca:f.ca.length<=n
def yJ{w:J}{rb:Nat}{f0:Addr}{lo:List FX}{z:FX}{st wd:Int}{own:List Nat}{ts:List I}(A:St w rb f0 lo z st wd own ts)(l:Small z 1000000):
  aj U E5 #[.pointer (some f0)] w (iS w own ts rb λr ay u aI aH ab Z=>ay=f0/\u=lo/\aI=Di z/\aH=st/\ab=wd/\∃t∈Z,r=ad t.v/\t.rx=cG z):=by
 obtain⟨sl,E,f,p,rfl,rfl,h3,h4,rfl,h6,h7,h8,h9,ag⟩:=A;have G:SF (·∈own) w w rb sl st wd E f [] ts:=by
  have:=St.vR h6 h7 h8 h9 ag
  grind
 refine QH.aq (G.ax (bs:=[]) (λq w1 H=>?_) gs);refine(show SF (·∈own) w w1 rb sl st wd E f [.g q] ts from H).mA (bs:=[q]) h3 h4 (λah s1=>yF (ID s1 l.n' l.ca l.an l.al)) ?_ gs;rintro _ D az e d p2 aB aG aC t2 F B ac ⟨rfl,ak,am,h,rfl,rfl⟩ y;rw[<-ak,<-am];have C:((e++[d]).flatMap FM.rows)[e.length *4+(2 - 1)]? =some ((d.aX 2).1,(d.aX 2).2.flatMap I.c):=qD e d 1 _ (tD d (j:=2) io io);have aw:bo 4 D d.al.1 (d.al.2.flatMap I.c):=by have hP:(En.rows ((e++[d]).flatMap FM.rows)).P D:=y.get 2;exact(hP.1 _ (aA C)).a2
 refine⟨rfl,d.al.1,y.g2 1 rfl B 2,y.av (Cv 4 _ _ D aw) ?_⟩;rintro _ w3 rfl L;refine⟨_,_,_,_,rfl,L.ax (bs:=[q]) (λm w4 N=>N.ae (bs:=[q,m]) (λw5 Q=>?_) gs) gs⟩;refine Q.jc (bs:=[q,m]) (f:=d) 1 (d.put 2 (⟨none,0,0⟩,[])) 2 rfl B io rfl (λw6 S=>S.ae (bs:=[q,m]) (λw7 T=>?_) gs) gs;have W:=T.DP 2 (e.length *4+(2 - 1)) rfl C;have Y:=W.O0 0 4 (s:=d.al.1) (ks:=d.al.2) rfl (by simp[FM.aX]) λt a=>F d gs t (oT d 2 a);have er:=tZ e d (⟨none,0,0⟩,[]) (j:=2) io io;have e':(([]:List I).flatMap I.c)=[]:=rfl;rw[e']at er;simp only at er;have K:O (·∈own) w w7 (SL rb az aB aG ((e++[d.put 2 (⟨none,0,0⟩,[])]).flatMap FM.c) ((e++[d.put 2 (⟨none,0,0⟩,[])]).flatMap FM.rows)) [.trees (aC++[gn 4 d.al.1 d.al.2])]:=by rw[<-er];exact Y.take 3
 have ap:∀b∈aR d.al.1,b∈own\/w.heap.size<=b:=λb o=>(y.new (.rows ((e++[d]).flatMap FM.rows)) gs b (a7.2 (cl.2 ⟨_,aA C,o⟩))).symm;have ex:(d.put 2 (⟨none,0,0⟩,[])).x=Di f.x:=by
  have e1:d.k=f.k:=by have:=congrArg FX.k h;exact this
  have e2:(d.ar.1,I.ao d.ar.2)=f.x.ar:=by have:=congrArg FX.ar h;exact this
  have e3:I.ao d.an.2=[]:=by have:=congrArg FX.an h;exact this
  have e4:I.ao d.ca.2=[]:=by have:=congrArg FX.ca h;exact this
  have e5:d.n=0:=by have:=congrArg FX.n h;exact this
  have e6:d.la.rx=f.x.la:=by have:=congrArg FX.la h;exact this
  show FX.mk d.k (d.ar.1,I.ao d.ar.2) (I.ao []) (I.ao d.an.2) (I.ao d.ca.2) d.n d.la.rx=_;rw[e1,e2,e3,e4,e5,e6];rfl
 refine⟨_,_,_,_,_,St.of (ts:=ts) (f0:=p2.add (e.length *10)) K 0 rfl (λg i t a=>?_) B rfl (GG (w0:=w) (M:=F0) (λb o=>(ac b o).imp id Or.symm) ap λt a=>F d gs t (oT d 2 a)) (λt a=>bV _ (t2 t a)) ⟨rfl,rfl,ex,rfl,rfl,gn 4 d.al.1 d.al.2,gs,rfl,?_⟩⟩
 .rcases aK.1 i with i|i
  .grind
  .simp at i;subst i;rcases Aq _ _ io io a with A|A
   .grind
   grind
 .rw [FF];have:=congrArg FX.al h;have af:I.ao d.al.2=(k4 f.x).al:=this;rw[af];rfl
def pj{p:Addr}{K:Addr->Prop}(d:K p):dv (some p) K:=d
def We:fQ U acX iK (.agg #[.int .i64 0,.slice none 0 0,.slice none 0 0,.slice none 0 0,.slice none 0 0,.int .i64 0,.int .i64 0,.int .u8 0,.int .u8 0,.slice none 0 0]) 10 152:=⟨by kernel_rfl,by kernel_rfl,rfl,dl,dl⟩
section
variable {M:Nat->Prop} {w0 w:J} {L D:List En} {bs:List Nat} {G:List En} {rb:Nat} {sl:Sl} {st wd:Int} {fs:List FM} {f:FM} {ts:List I} {p:Addr}
def _root_.Go.W.O.ve(H:O M w0 w L D)(i j:Nat){b:Nat}{vs:List V}{T:aE}{v:V}{K:J->Prop}(f:L[i]? =some (.c b vs T))(l:∀k,O M w0 k (L.set i (.c b (vs.set j v) T)) D->K k)(o:j<vs.length)(d:∀b∈bs,En.g b∈L:=by simp):aM w ((ab b).add j) v λh=>kept bs w h/\K h:=by
 obtain⟨y,z,A⟩:=H.set (v:=v) i j f o;refine⟨y,z,λe a=>?_,l _ A⟩;have x:e≠b:=by
  rintro rfl;refine zc H f (λn m=>?_) (d _ a) (by simp[En.ob]);have B:({w with heap:=gd (n+1) (.map #[] 0)}:J).heap[e]? =some (.cells vs.toArray T (0,0)):=m
  grind
 have q:Fr (·=b) w (w.setCell ((ab b).add j) v):=Fr.set _ _ _ (by rw[j'])
 exact q.cD e (H.own _ (d _ a)) x
def AS(H:SF M w0 w rb sl st wd fs f G ts):sl.n=fs.length+1:=by
 have d:aL w iK 10 sl ((fs++[f]).flatMap FM.c):=H.get 1;have:=d.len;rw[qi]at this
 grind
def yM(H:SF M w0 w rb sl st wd fs f G ts)(b:sl.a=some p)(d:fs.length<=1000000):aj U zS #[.pointer (some (ab rb))] w λr c=>r=ad (.pointer (some (p.add (fs.length *10))))/\ag w c:=by
 have j:=AS H;have h:aD .i64 ((sl.n:Int) - 1)=(fs.length:Int):=by rw[br _ io];omega
 have e:SF M w0 w.drew rb sl st wd fs f G ts:=H.drew;refine Gf.ok (show _ from⟨sl,e.ld 0 0,sl,e.ld 0 0,?_⟩);rw[h,b];exact⟨io,io,rfl,Fr.drew _ _⟩
def Gy(H:SF M w0 w rb sl st wd fs f G ts)(k:Int)(d c:UInt8):SF M w0 w rb sl st wd fs f G (ts++[.mk k d c ⟨none,0,0⟩ []]):=by
 have h:=H.ec (.trees (ts++[.mk k d c ⟨none,0,0⟩ []])) (Fr.refl _ _) (I.jD λt a=>?_) λb j=>.inr (.inr ⟨.trees ts,gs,?_⟩)
 .exact h.forget _ gs
 .rcases aK.1 a with a|a
  .exact I.Ps.mem (H.getD 0) a
  .simp at a;subst a;show I.P w _;unfold I.P I.Ps;exact⟨bo.nil 4 w,trivial⟩
 .obtain ⟨t,a,e⟩:=I.bS.1 (a7.1 j);rcases aK.1 a with a|a
  .exact a7.2 (I.bS.2 ⟨t,a,e⟩)
  .simp at a;rw[a]at e;unfold I.fp I.bd at e;simp[En.a2]at e
def zl{k:Int}{lo hi:UInt8}{b:Nat}(h:b∈I.bd (ts++[.mk k lo hi ⟨none,0,0⟩ []])):b∈I.bd ts:=by
 obtain⟨t,d,e⟩:=I.bS.1 h;rcases aK.1 d with d|d
 .exact I.bS.2 ⟨t,d,e⟩
 .simp at d;rw[d]at e;unfold I.fp I.bd at e;simp[En.a2]at e
def aaZ(H:O M w0 w L D)(i:Nat){e:List eb}(c:L[i]? =some (.rows e))(n:Nat):O M w0 w (L.set i (.rows (e++List.replicate n (⟨none,0,0⟩,[])))) D:=by
 have h:(En.rows e).P w:=H.get i c;have k:(e++List.replicate n ((⟨none,0,0⟩,[]):eb)).flatMap (λd:eb=>aR d.1)=e.flatMap λd:eb=>aR d.1:=by
  rw[dL];have:(List.replicate n ((⟨none,0,0⟩,[]):eb)).flatMap (λd:eb=>aR d.1)=[]:=by
   induction n with
   |zero=>rfl
   |succ n q=>rw[List.replicate_succ,da,q];rfl
  grind
 refine H.gb i _ c (Fr.refl _ _) ⟨λd a=>?_,by rw[k];exact h.2⟩ λb j=>.inl (a7.2 (by have:=a7.1 j;grind));rcases aK.1 a with a|a
 .exact h.1 d a
 .rw [List.eq_of_mem_replicate a];exact aL.nil _ _ _
end
def lW(k:Int):FX:=⟨k,(⟨none,0,0⟩,[]),[],[],[],0,fK⟩
def jB(k:Int):FM:=⟨k,(⟨none,0,0⟩,[]),(⟨none,0,0⟩,[]),(⟨none,0,0⟩,[]),(⟨none,0,0⟩,[]),0,.mk 0 0 0 ⟨none,0,0⟩ []⟩
def Ab{w:J}{rb:Nat}{f0:Addr}{lo:List FX}{d:FX}{st wd:Int}{own:List Nat}{ts:List I}(e:St w rb f0 lo d st wd own ts):∃(c:Sl) (b:List FM) (f:FM) (p:Addr),b.map FM.x=lo/\f.x=d/\(∀g∈b++[f],∀t∈g.ts,t∈ts)/\c.a=some p/\f0=p.add (b.length *10)/\SF (·∈own) w w rb c st wd b f [] ts:=by
 obtain⟨c,b,f,p,h,k,q,y,z,A,B,C,D,j⟩:=e;refine⟨c,b,f,p,h,k,q,y,z,?_⟩;have:=St.vR A B C D j
 grind
def IP{w:J}{rb:Nat}{f0:Addr}{lo:List FX}{y:FX}{st wd:Int}{own:List Nat}{ts:List I}(K:St w rb f0 lo y st wd own ts)(W:lo.length<=1000000)(d i:Int):
  aj U NZ #[.pointer (some (ab rb)),.int .i64 d,.int .i64 i] w (iS w own ts rb λr _ o u s P _=>r=ad (.bool true)/\o=lo++[y]/\u=lW d/\s=i/\P=wd):=by
 obtain⟨sl,h,f,p,rfl,rfl,S,T,rfl,x⟩:=Ab K;have Z:=AS x;have Y:h.length<=1000000:=by grind
 refine QO.ok ⟨sl,x.ld 0 0,x.e3 (e:=iK) (sz:=10) (n:=1) (cs:=(jB d).c) rfl dl λw1 m=>?_⟩;refine m.HU 1 We (src:=⟨some (ab w.heap.size),1,1⟩) (news:=(jB d).c) rfl (aL.a2 (m.get 3)).2.2 rfl (by simp[FM.c,jB,Value.oneCell']) (by grind) λj N A Q aa _=>?_;obtain⟨q,M⟩:∃q,j.a=some q:=by
  cases hs:j.a with
  |none=>grind
  |some q=>grind
 have B:O (·∈own) w N [.c rb [sl.v,.int .i64 st,.int .i64 wd] yb,.row iK 10 j ((h++[f]).flatMap FM.c++(jB d).c),.rows ((h++[f]).flatMap FM.rows)] [.trees ts]:=A.take 3;refine B.st 0 0 rfl (λw3 C=>C.st 0 1 rfl (λz D=>?_));have E:=aaZ D 2 rfl 4;have F:SF (·∈own) w z rb j i wd (h++[f]) (jB d) [] ts:=by show O _ _ _ (SL rb j i wd ((h++[f]++[jB d]).flatMap FM.c) ((h++[f]++[jB d]).flatMap FM.rows)++[]) _;rw[List.append_nil,dL (xs:=h++[f]),dL (xs:=h++[f])];simpa[show(jB d).rows=[(⟨none,0,0⟩,[]),(⟨none,0,0⟩,[]),(⟨none,0,0⟩,[]),(⟨none,0,0⟩,[])]from rfl]using E
 have G:=Gy F 0 0 0;have H:O (·∈own) w z (SL rb j i wd ((h++[f]++[jB d]).flatMap FM.c) ((h++[f]++[jB d]).flatMap FM.rows)) [.trees (ts++[.mk 0 0 0 ⟨none,0,0⟩ []])]:=G.take 3;refine⟨_,_,_,_,_,St.of (ts:=ts) (p:=q) (f0:=q.add ((h++[f]).length *10)) H 0 rfl (λg k t l=>?_) M rfl (λb L=>.inl (zl L)) (λt l=>bV _ l) ⟨rfl,?_,rfl,rfl,rfl⟩⟩
 .rcases aK.1 k with k|k
  .grind
  .simp at k;subst k;simp[FM.ts,jB]at l
   grind
 .simp
def jq(a:FX)(x:Rx):FX:=⟨a.k,a.ar,a.al,a.an,a.ca,a.n,x⟩
def Cq{w:J}{rb:Nat}{f0:Addr}{lo:List FX}{z:FX}{st wd:Int}{own:List Nat}{ts:List I}(N:St w rb f0 lo z st wd own ts)(hl:lo.length<=1000000)(t:I)(j:t∈ts):
  aj U E7 #[.pointer (some (ab rb)),t.v] w (iS w own ts rb λr i m S o Y _=>r=ad (.bool true)/\i=f0/\m=lo/\S=jq z t.rx/\o=3/\Y=wd):=by
 obtain⟨sl,d,f,p,rfl,rfl,x,h,rfl,A⟩:=Ab N;have Q:d.length<=1000000:=by grind
 refine QM.aq (A.ax (bs:=[]) (λe w1 Z=>Z.ae (bs:=[e]) (λT aa=>?_) gs) gs);have y:SF (·∈own) w T rb sl st wd d f [.g e] ts:=aa;refine y.av (yM y h Q) ?_;rintro _ w3 rfl B;refine⟨_,rfl,pj ?_⟩;refine B.jc (bs:=[e]) (f:=f) 1 ⟨f.k,f.ar,f.al,f.an,f.ca,f.n,.mk t.k f.la.lo f.la.hi f.la.s f.la.l⟩ 6 rfl h io rfl (λw4 C=>?_) gs;have K:((p.add (d.length *10)).add 6).add 1=(p.add (d.length *10)).add 7:=add_add _ 6 1;have L:((p.add (d.length *10)).add 6).add 2=(p.add (d.length *10)).add 8:=add_add _ 6 2;have M:((p.add (d.length *10)).add 6).add 3=(p.add (d.length *10)).add 9:=add_add _ 6 3;rw[K,L,M];refine C.jc (bs:=[e]) (f:=⟨f.k,f.ar,f.al,f.an,f.ca,f.n,.mk t.k f.la.lo f.la.hi f.la.s f.la.l⟩) 1 ⟨f.k,f.ar,f.al,f.an,f.ca,f.n,.mk t.k t.lo f.la.hi f.la.s f.la.l⟩ 7 rfl h io rfl (λw5 D=>?_) gs;refine D.jc (bs:=[e]) (f:=⟨f.k,f.ar,f.al,f.an,f.ca,f.n,.mk t.k t.lo f.la.hi f.la.s f.la.l⟩) 1 ⟨f.k,f.ar,f.al,f.an,f.ca,f.n,.mk t.k t.lo t.hi f.la.s f.la.l⟩ 8 rfl h io rfl (λw6 E=>?_) gs;refine E.jc (bs:=[e]) (f:=⟨f.k,f.ar,f.al,f.an,f.ca,f.n,.mk t.k t.lo t.hi f.la.s f.la.l⟩) 1 ⟨f.k,f.ar,f.al,f.an,f.ca,f.n,t⟩ 9 rfl h io rfl (λw7 F=>?_) gs;refine F.ve (bs:=[e]) 0 1 rfl (λW G=>?_) gs gs;have er:(d++[f]).flatMap FM.rows=(d++[(⟨f.k,f.ar,f.al,f.an,f.ca,f.n,t⟩:FM)]).flatMap FM.rows:=by simp[FM.rows]
 have H:O (·∈own) w W (SL rb sl 3 wd ((d++[(⟨f.k,f.ar,f.al,f.an,f.ca,f.n,t⟩:FM)]).flatMap FM.c) ((d++[(⟨f.k,f.ar,f.al,f.an,f.ca,f.n,t⟩:FM)]).flatMap FM.rows)) [.trees ts]:=by rw[<-er];exact G.take 3
 refine⟨_,_,_,_,_,St.of (ts:=ts) (f0:=p.add (d.length *10)) H 0 rfl (λg q u a=>?_) h rfl (λb P=>.inl P) (λt j=>j) ⟨rfl,rfl,rfl,rfl,rfl,rfl⟩⟩;rcases aK.1 q with q|q
 .grind
 .simp at q;subst q;simp only[FM.ts,aK,aF,a5,a9]at a;rcases a with(((a|a)|a)|a)|rfl
  .exact x f gs u (by simp[FM.ts,a])
  .exact x f gs u (by simp[FM.ts,a])
  .exact x f gs u (by simp[FM.ts,a])
  .exact x f gs u (by simp[FM.ts,a])
  omega
structure Tk where
 k:UInt8
 lo:UInt8
 hi:UInt8
 s:List UInt8
 a:Int
abbrev Tk.v(t:Tk):V:=.agg #[.int .u8 (t.k.toNat:Int),.int .u8 (t.lo.toNat:Int),.int .u8 (t.hi.toNat:Int),.string (ba t.s),.int .i64 t.a]
structure SX where
 lo:List FX
 tp:FX
 st:Int
 wd:Int
def Bv:List UInt8:=[110,111,110,101]
def Bu:List UInt8:=[101,109,112,116,121]
def Bs:List UInt8:=[97,108,116]
def Br:List UInt8:=[97,108,108]
def Bt:List UInt8:=[99,97,116]
def fU(t:Tk)(s:SX):Option SX:=
 if t.k=33 then some ⟨s.lo,⟨s.tp.k,s.tp.ar,s.tp.al,s.tp.an,s.tp.ca,s.tp.n+1,s.tp.la⟩,0,s.wd⟩
 else if t.k=40 then some ⟨s.lo++[s.tp],lW (-1),0,s.wd⟩
 else if t.k=114 then some ⟨s.lo,jq s.tp (.mk 2 t.lo t.hi []),3,s.wd⟩
 else if t.k=119 then
  if t.s=Bv then some ⟨s.lo,jq s.tp (.mk 0 0 0 []),3,s.wd⟩
  else if t.s=Bu then some ⟨s.lo,jq s.tp (.mk 1 0 0 []),3,s.wd⟩
  else if t.s=Bs then some ⟨s.lo,s.tp,2,4⟩
  else if t.s=Br then some ⟨s.lo,s.tp,2,5⟩
  else if t.s=Bt then some ⟨s.lo,s.tp,2,3⟩
  else none
 else none
def yu(o:Option SX):cR->Addr->List FX->FX->Int->Int->List I->Prop:=λr _ a c b d _=>(o=none/\r=ad (.bool false))\/(o=some ⟨a,c,b,d⟩/\r=ad (.bool true))
section
variable {w w':J} {own:List Nat} {G:List En} {rb:Nat} {sl:Sl} {st wd:Int} {fs:List FM} {f:FM} {ts x9:List I} {p:Addr}
def hR{Q:cR->Addr->List FX->FX->Int->Int->List I->Prop}{r:cR}(H:SF (·∈own) w w' rb sl st wd fs f G x9)(c:∀g∈fs++[f],∀t∈g.ts,t∈x9)(e:sl.a=some p)(d:∀b∈I.bd x9,b∈I.bd ts\/w.heap.size<=b\/b∈own)(i:∀t∈ts,t∈x9)(q:Q r (p.add (fs.length *10)) (fs.map FM.x) f.x st wd x9):iS w own ts rb Q r w':=
 ⟨_,_,_,_,_,St.of (ts:=ts) (f0:=p.add (fs.length *10)) (H.take 3) 0 rfl c e rfl (λb h=>(d b h).imp id Or.symm) i q⟩
end
def acC(s:List UInt8):(ba s).toList=s:=by rw[ByteArray.toList_eq];rfl
def acD(a:Array UInt8):(ByteArray.mk a).toList=a.toList:=by rw[ByteArray.toList_eq]
def xP{s:List UInt8}{a:Array UInt8}{A d:Prop}(b:s=a.toList->A)(c:s≠a.toList->d):bB ((ba s).toList==(ByteArray.mk a).toList) A d:=by rw[acC,acD];exact bq (λe=>b (by grind)) (λe=>c (by grind))
def j3{x:UInt8}{n:Nat}{A d:Prop}(c:n<256)(a:x=ei n->A)(b:x≠ei n->d):bB ((x.toNat:Int)==(n:Int)) A d:=by
 have e:∀x:UInt8,x.toNat=n↔x=ei n:=λx=>by rw[<-UInt8.toNat_inj,UInt8.toNat_ofNat'];omega
 exact bq (λh=>a ((e x).1 (by grind))) (λh=>b λj=>by grind)
def U4{w:J}{rb:Nat}{f0:Addr}{lo:List FX}{L:FX}{st wd:Int}{own:List Nat}{ts:List I}(e:St w rb f0 lo L st wd own ts)(S:lo.length<=1000000)(hn:L.n<=1000000)(t:Tk):
  aj U Fa #[.pointer (some (ab rb)),t.v] w (iS w own ts rb (yu (fU t ⟨lo,L,st,wd⟩))):=by
 obtain⟨sl,d,f,p,rfl,rfl,A,j,rfl,W⟩:=Ab e;have ah:d.length<=1000000:=by grind
 have aH:f.n<=1000000:=hn;have base:∀b∈I.bd ts,b∈I.bd ts\/w.heap.size<=b\/b∈own:=λb hb=>.inl hb;refine Ge.aq (W.ax (bs:=[]) (λc w1 q=>?_) gs);have q:SF (·∈own) w w1 rb sl st wd d f [.g c] ts:=q;have leaf:∀(k:Int) (a b:UInt8) {l:J} {T M:Int},SF (·∈own) w l rb sl T M d f [.g c] ts->fU t ⟨d.map FM.x,f.x,st,wd⟩=some ⟨d.map FM.x,jq f.x (.mk k a b []),3,M⟩->
   fH [c] U E7 #[.pointer (some (ab rb)),.agg #[.i k,.int .u8 (a.toNat:Int),.int .u8 (b.toNat:Int),.slice none 0 0]] l λr_ w6=>∃N:Bool,r_=ad (.bool N)/\iS w own ts rb (yu (fU t ⟨d.map FM.x,f.x,st,wd⟩)) (ad (.bool N)) w6:=by
  intro k a b l T M h G;have o:=Gy h k a b;refine o.mA (bs:=[c]) (λg m u B=>bV _ (A g m u B)) j (λZ H=>Cq H S (.mk k a b ⟨none,0,0⟩ []) gs) ?_ gs;rintro _ C ao ag f3 p3 ap az ay K E F D ⟨rfl,aG,P,Q,rfl,rfl⟩ r;refine⟨true,rfl,hR r E F (λaB hx=>?_) (λu B=>K u (bV _ B)) (.inr ⟨?_,rfl⟩)⟩
  .rcases D aB hx with e|e
   .exact .inl (zl e)
   grind
  .rw [G,P,Q];rfl
 refine j3 (n:=33) io (λz:t.k=33=>q.av (yM q j ah) ?_) (λaC:t.k≠33=>j3 (n:=40) io (λz:t.k=40=>?_) (λaw:t.k≠40=>j3 (n:=114) io (λz:t.k=114=>?_) (λak:t.k≠114=>j3 (n:=119) io (λz:t.k=119=>?_) (λam:t.k≠119=>?_))))
 .rintro _ l rfl h;refine⟨_,rfl,pj ⟨_,h.g2 1 rfl j 5,pj ?_⟩⟩;have aa:aD .i64 ((f.n:Int)+1)=((f.n+1:Nat):Int):=by rw[br _ io];omega
  rw[aa];refine h.jc (bs:=[c]) (f:=f) 1 ⟨f.k,f.ar,f.al,f.an,f.ca,f.n+1,f.la⟩ 5 rfl j io rfl (λC o=>?_) gs;refine o.ve (bs:=[c]) 0 1 rfl (λw4 r=>?_) gs gs;have er:(d++[f]).flatMap FM.rows=(d++[(⟨f.k,f.ar,f.al,f.an,f.ca,f.n+1,f.la⟩:FM)]).flatMap FM.rows:=by simp[FM.rows]
  have Y:SF (·∈own) w w4 rb sl 0 wd d ⟨f.k,f.ar,f.al,f.an,f.ca,f.n+1,f.la⟩ [.g c] ts:=by grind
  refine hR Y (λg m u B=>?_) j base (λ_ e=>e) (.inr ⟨?_,rfl⟩)
  .rcases aK.1 m with m|m
   .grind
   .simp at m;subst m;exact A f gs u B
  .unfold fU;rw[af z];rfl
 .refine q.mA (bs:=[c]) A j (λZ H=>IP H S (-1) 0) ?_ gs;rintro _ C ao ag f3 p3 ap az ay K E F D ⟨rfl,P,Q,rfl,rfl⟩ r;refine⟨true,rfl,hR r E F D K (.inr ⟨?_,rfl⟩)⟩;unfold fU
  grind
 .exact leaf 2 t.lo t.hi q (by unfold fU;grind)
 .refine q.ve (bs:=[c]) 0 1 rfl (λl h=>?_) gs gs;have h:SF (·∈own) w l rb sl 2 wd d f [.g c] ts:=h;have ei:fU t ⟨d.map FM.x,f.x,st,wd⟩=if t.s=Bv then some ⟨d.map FM.x,jq f.x (.mk 0 0 0 []),3,wd⟩else if t.s=Bu then some ⟨d.map FM.x,jq f.x (.mk 1 0 0 []),3,wd⟩else if t.s=Bs then some ⟨d.map FM.x,f.x,2,4⟩else if t.s=Br then some ⟨d.map FM.x,f.x,2,5⟩else if t.s=Bt then some ⟨d.map FM.x,f.x,2,3⟩else none:=by
   unfold fU
   grind
  have word:∀(k:Int),fU t ⟨d.map FM.x,f.x,st,wd⟩=some ⟨d.map FM.x,f.x,2,k⟩->aM l ((ab rb).add 2) (.i k) λO=>kept [c] l O/\Ge.a1 O (iS w own ts rb (yu (fU t ⟨d.map FM.x,f.x,st,wd⟩))):=λk G=>
   h.ve (bs:=[c]) 0 2 rfl (λC o=>hR (show SF (·∈own) w C rb sl 2 k d f [.g c] ts from o) A j base (λ_ e=>e) (.inr ⟨G,rfl⟩)) gs gs
  refine xP (λy:t.s=Bv=>leaf 0 0 0 h (by grind)) (λn1:t.s≠Bv=>xP (λy:t.s=Bu=>leaf 1 0 0 h (by grind)) (λn2:t.s≠Bu=>xP (λy:t.s=Bs=>word 4 (by grind)) (λn3:t.s≠Bs=>xP (λy:t.s=Br=>word 5 (by grind)) (λn4:t.s≠Br=>xP (λy:t.s=Bt=>word 3 (by grind)) (λn5:t.s≠Bt=>?_)))));exact hR h A j base (λ_ e=>e) (.inl ⟨by grind,rfl⟩)
 .exact hR q A j base (λ_ e=>e) (.inl ⟨by unfold fU;grind,rfl⟩)
def ZR{w:J}{e:aE}{sz:Nat}{s:Sl}{xs:List V}{p:Addr}(h:aL w e sz s xs)(d:s.a=some p)(n:Nat)(b:n<=s.n):aL w e sz ⟨s.a,n,s.c⟩ (xs.take (n *sz)):=by
 have A:=h.len;rcases h.cases with⟨rfl,_⟩|⟨g,cur,x,y,j,k,q,z⟩
 .cases d
 .have B:n *sz<=s.n *sz:=Nat.mul_le_mul_right _ b;refine⟨by grind,.inr ⟨g,s.c,cur,by rw[x],di _,y,bD b j,k,q,?_⟩⟩
  grind
section
variable {M:Nat->Prop} {w0 w:J} {L D A:List En} {bs:List Nat} {G:List En} {rb:Nat} {ts:List I}
def Re(H:O M w0 w L D)(i:Nat){d j:List eb}(a:L[i]? =some (.rows (d++j))):O M w0 w (L.set i (.rows d)) D:=by have e:(En.rows (d++j)).P w:=H.get i a;have h:=e.2;rw[dL,eI]at h;refine H.gb i _ a (Fr.refl _ _) ⟨λq k=>e.1 q (bV _ k),h.1⟩ λb c=>.inl (a7.2 ?_);rw[dL];exact bV _ (a7.1 c)
def Yl(H:O M w0 w (A++G) [.trees ts]):O (·∈A.flatMap (·.fp)) w w A [.trees ts]:=by have e:=H.nd;rw[dL,eI]at e;refine O.pD _ _ (λd a=>⟨H.own d (bV _ a),λb c=>cl.2 ⟨d,a,c⟩⟩) e.1 λd a=>?_;simp only[aF,a5,a9]at a;subst a;exact⟨H.getD 0,λb c g f h=>H.dj (.trees ts) gs b c g (bV _ f) h⟩
def Yi(H:O M w0 w (A++G) [.trees ts]){w':J}{D:Addr}{E:List FX}{L:FX}{K N:Int}{C:List Nat}{h:List I}(s:St w' rb D E L K N C h)(q:Fr (·∈A.flatMap (·.fp)) w w')(o:∀k∈C,k∈A.flatMap (·.fp)\/w.heap.size<=k)(d:∀b∈I.bd h,b∈I.bd ts\/b∈A.flatMap (·.fp)\/w.heap.size<=b):
  ∃(l:Sl) (f:List FM) (m:FM) (n:Addr),f.map FM.x=E/\m.x=L/\(∀g∈f++[m],∀t∈g.ts,t∈h)/\l.a=some n/\D=n.add (f.length *10)/\(∀b∈I.bd h,b∈I.bd ts\/w0.heap.size<=b\/M b)/\SF M w0 w' rb l K N f m G h:=by
 obtain⟨l,f,m,n,Q,S,T,W,Y,Z,h7,h8,h9,af⟩:=s;have B:=H.nd;rw[dL,eI]at B;have F:∀b∈A.flatMap (·.fp),w0.heap.size<=b\/M b:=λb d=>by obtain⟨e,c,y⟩:=cl.1 d;exact H.new e (bV _ c) b y
 have ae:∀e∈G,∀b∈e.fp,b<w.heap.size:=λe c b d=>e.lt w (H.own e (cK _ c)) b d;have P:∀e∈G,∀b∈e.fp,b∉A.flatMap (·.fp):=λe c b d p=>B.2.2 b p b (cl.2 ⟨e,c,d⟩) rfl;have ab:=H.fr.size;have ag:∀b∈C,w0.heap.size<=b\/M b:=λb d=>(o b d).elim (F b) λj=>.inl (bD ab j);refine⟨l,f,m,n,Q,S,T,W,Y,λb i=>?_,H.fr.trans q λk ac p=>(F k p).resolve_left io,λe c=>?_,λe c=>?_,λe c b i=>?_,?_,λe c b i u z y=>?_⟩
 .grind
 .rcases aK.1 c with c|c
  .grind
  .exact e.st w w' (λb d v=>q.cD b v (P e c b d)) (H.own e (cK _ c))
 .simp at c;subst c;exact h9
 .rcases aK.1 c with c|c
  .grind
  .exact H.new e (cK _ c) b i
 .rw [dL,eI];refine⟨Z▸h7,B.2.1,λk ac ah hy r=>?_⟩;subst r;obtain⟨e,c,y⟩:=cl.1 hy
  grind
 .simp at c;subst c;have aa:b∈I.bd h:=a7.1 i;rcases aK.1 z with z|z
  .grind
  .rcases d b aa with j|j|j
   .exact H.dj (.trees ts) gs b (a7.2 j) u (cK _ z) y
   .grind
   grind
def _root_.Go.W.O.VY(H:O M w0 w (A++G) [.trees ts]){g:bX}{args:Array V}{K:aB}{Q:cR->Addr->List FX->FX->Int->Int->List I->Prop}(n:∀own,O (·∈own) w w A [.trees ts]->aj U g args w (iS w own ts rb Q))(u:∀r h (e:Sl) (d:List FM) (j:FM) (k:Addr) (f i:Int) (c:List I),(∀t∈ts,t∈c)->(∀g∈d++[j],∀t∈g.ts,t∈c)->e.a=some k->(∀b∈I.bd c,b∈I.bd ts\/w0.heap.size<=b\/M b)->Q r (k.add (d.length *10)) (d.map FM.x) j.x f i c->SF M w0 h rb e f i d j G c->K r h)(l:∀b∈bs,En.g b∈G:=by simp):fH bs U g args w K:=by
 have q:=H.nd;rw[dL,eI]at q;refine⟨(·∈A.flatMap (·.fp)),λb m p=>?_,(n _ (Yl H)).mono ?_⟩
 .exact q.2.2 b p b (cl.2 ⟨_,l b m,by simp[En.g]⟩) rfl
 .rintro r h ⟨B,F,P,f,i,L,c,s,y,o,b,t,N⟩;obtain⟨e,d,j,k,rfl,rfl,C,E,rfl,D,z⟩:=Yi H s y o b
  grind
def Yk(H:O M w0 w L [.trees ts])(T:I)(e:T∈ts)(k:Int)(d c:UInt8):O M w0 w L [.trees (ts++[.mk k d c T.s T.l])]:=by
 have j:I.Ps w ts:=H.getD 0;have q:=H.ec (.trees (ts++[.mk k d c T.s T.l])) (Fr.refl _ _) (I.jD λt a=>?_) λb f=>.inr (.inr ⟨.trees ts,gs,?_⟩)
 .exact q.forget _ gs
 .rcases aK.1 a with a|a
  .exact j.mem a
  .simp at a;subst a;unfold I.P;exact(j.mem e).parts
 .obtain ⟨t,a,h⟩:=I.bS.1 (a7.1 f);rcases aK.1 a with a|a
  .exact a7.2 (I.bS.2 ⟨t,a,h⟩)
  .simp at a;rw[a]at h;exact a7.2 (I.bS.2 ⟨T,e,I.gC.2 ((I.gC (t:=.mk k d c T.s T.l)).1 h)⟩)
def Yo{T:I}(a:T∈ts){k:Int}{lo hi:UInt8}{b:Nat}(h:b∈I.bd (ts++[.mk k lo hi T.s T.l])):b∈I.bd ts:=by
 obtain⟨t,d,e⟩:=I.bS.1 h;rcases aK.1 d with d|d
 .exact I.bS.2 ⟨t,d,e⟩
 .simp at d;rw[d]at e;exact I.bS.2 ⟨T,a,I.gC.2 ((I.gC (t:=.mk k lo hi T.s T.l)).1 e)⟩
def Yj(H:O M w0 w L [.trees ts])(T:I)(c:T∈ts):O M w0 w L [.trees (ts++T.l)]:=by
 have e:I.Ps w ts:=H.getD 0;have h:=H.ec (.trees (ts++T.l)) (Fr.refl _ _) (I.jD λt a=>?_) λb j=>.inr (.inr ⟨.trees ts,gs,?_⟩)
 .exact h.forget _ gs
 .rcases aK.1 a with a|a
  .exact e.mem a
  .exact (e.mem c).parts.2.mem a
 .obtain ⟨t,a,d⟩:=I.bS.1 (a7.1 j);rcases aK.1 a with a|a
  .exact a7.2 (I.bS.2 ⟨t,a,d⟩)
  .exact a7.2 (I.bS.2 ⟨T,c,I.gC.2 (.inr (I.bS.2 ⟨t,a,d⟩))⟩)
def XI{T:I}(a:T∈ts){b:Nat}(h:b∈I.bd (ts++T.l)):b∈I.bd ts:=by
 obtain⟨t,d,e⟩:=I.bS.1 h;rcases aK.1 d with d|d
 .exact I.bS.2 ⟨t,d,e⟩
 .exact I.bS.2 ⟨T,a,I.gC.2 (.inr (I.bS.2 ⟨t,d,e⟩))⟩
end
def Vo{w:J}{rb:Nat}{sl:Sl}{p:Addr}{n:Nat}(b:w.cell? ((ab rb).add 0)=some sl.v)(f:sl.n=n+1)(c:sl.a=some p)(g:n<=1000000):aj U zS #[.pointer (some (ab rb))] w λr e=>r=ad (.pointer (some (p.add (n *10))))/\ag w e:=by
 have h:aD .i64 ((sl.n:Int) - 1)=(n:Int):=by rw[br _ io];omega
 have d:w.drew.cell? ((ab rb).add 0)=some sl.v:=b;refine Gf.ok (show _ from⟨sl,d,sl,d,?_⟩);rw[h,c];exact⟨io,io,rfl,Fr.drew _ _⟩
def np(k:Int)(l:List Rx):Rx:=if k<0 then l.headD fK else .mk k 0 0 l
def UR{w:J}{rb:Nat}{sl:Sl}{st wd:Int}{d:List FM}{g f:FM}{ts:List I}{p:Addr}{own:List Nat}(H:O (·∈own) w w [.c rb [sl.v,.int .i64 st,.int .i64 wd] yb,.row iK 10 sl (((d++[g])++[f]).flatMap FM.c),.rows ((d++[g]).flatMap FM.rows)] [.trees ts])(Y:∀q∈d++[g],∀t∈q.ts,t∈ts)(j:sl.a=some p)(hl:d.length<=999999)(T:I)(o:T∈ts)(hk:0<=f.k\/T.l≠[]):
  aj U E8 #[.pointer (some (ab rb)),T.s.v] w (iS w own ts rb λr _ ak ah ag ai _=>r=ad (.bool true)/\ak=d.map FM.x/\ah=jq g.x (np f.k (I.ao T.l))/\ag=3/\ai=wd):=by
 have hn:sl.n=(d++[g]).length+1:=by
  have h:aL w iK 10 sl (((d++[g])++[f]).flatMap FM.c):=H.get 1;have:=h.len;rw[qi]at this
  grind
 have ay:1<=sl.c:=by have h:aL w iK 10 sl (((d++[g])++[f]).flatMap FM.c):=H.get 1;have:=h.cap;omega
 refine QN.ok (H.call (Vo (H.ld 0 0) hn j (by grind)) ?_);rintro _ w1 rfl S;refine⟨_,rfl,pj ⟨_,S.g2 1 rfl j 0,?_⟩⟩;have y:=S.drew;refine⟨sl,y.ld 0 0,sl,y.ld 0 0,?_⟩;have am:aD .i64 ((sl.n:Int) - 1)=(((d++[g]).length:Nat):Int):=by rw[br _ (by grind)];omega
 rw[am];have h:aL w iK 10 sl (((d++[g])++[f]).flatMap FM.c):=H.get 1;have aB:=h.cap;refine⟨io,io,?_⟩;have ev:Value.slice (if sl.c=0 then sl.a else sl.a.map (·.add (0 *10))) ((aZ (((d++[g]).length:Nat):Int)) - 0) (sl.c - 0)=(⟨sl.a,(d++[g]).length,sl.c⟩:Sl).v:=by rw[aa io,j];show Value.slice (some (p.add 0)) _ _=Value.slice (some p) _ _;rw[jm];simp
 rw[ev];refine y.st 0 0 rfl λm W=>?_;have aq:aL m iK 10 sl (((d++[g])++[f]).flatMap FM.c):=W.get 1;have ac:=ZR aq j (d++[g]).length io;have et:(((d++[g])++[f]).flatMap FM.c).take ((d++[g]).length *10)=(d++[g]).flatMap FM.c:=by rw[dL,<-qi,List.take_left'];rfl
 rw[et]at ac;have H4:=W.gb 1 (.row iK 10 ⟨sl.a,(d++[g]).length,sl.c⟩ ((d++[g]).flatMap FM.c)) rfl (Fr.refl _ _) ac λb u=>.inl u;have z:SF (·∈own) w m rb ⟨sl.a,(d++[g]).length,sl.c⟩ st wd d g [] ts:=by grind
 refine bq (λQ=>?_) (λQ=>?_)
 .have K:f.k<0:=eQ Q;have ap:T.l≠[]:=hk.resolve_left io;obtain⟨q,l,hx⟩:=List.exists_cons_of_ne_nil ap;have Z:bo 4 m T.s (T.l.flatMap I.c):=((show I.Ps m ts from z.getD 0).mem o).parts.1;have az:=I.cw Z;refine⟨io,by grind,I.aT Z (i:=0) (t:=q) (by grind) λaC hq c=>⟨_,_,_,_,c.c0,c.c1,c.c2,c.c3,?_⟩⟩;have A:=Yj z T o;refine(show SF (·∈own) w m rb ⟨sl.a,(d++[g]).length,sl.c⟩ st wd d g [] (ts++T.l)from A).yV (λP L t e=>bV _ (Y P L t e)) j (λae M=>Cq M (by grind) q (by grind)) ?_;rintro _ w4 ar an f4 p4 av ax aw N D E C ⟨rfl,_,F,G,rfl,rfl⟩ B;refine⟨true,rfl,hR B D E (λb u=>(C b u).imp (XI o) id) (λt e=>N t (bV _ e)) ⟨rfl,F,?_,rfl,rfl⟩⟩;rw[G,hx];unfold np;rw[af K];rfl
 .have K:¬f.k<0:=lE Q;have A:=Yk z T o f.k 0 0;refine(show SF (·∈own) w m rb ⟨sl.a,(d++[g]).length,sl.c⟩ st wd d g [] (ts++[.mk f.k 0 0 T.s T.l])from A).yV (λP L t e=>bV _ (Y P L t e)) j (λae M=>Cq M (by grind) (.mk f.k 0 0 T.s T.l) gs) ?_;rintro _ w4 ar an f4 p4 av ax aw N D E C ⟨rfl,_,F,G,rfl,rfl⟩ B;refine⟨true,rfl,hR B D E (λb u=>(C b u).imp (Yo o) id) (λt e=>N t (bV _ e)) ⟨rfl,F,?_,rfl,rfl⟩⟩;rw[G];unfold np;rw[aa K];rfl
def my(s:SX)(l:List Rx):Option SX:=match s.lo.getLast? with
 |none=>none
 |some g=>some ⟨s.lo.dropLast,jq g (np s.tp.k l),3,s.wd⟩
def HW(a:Sl)(f:FX):FX:=⟨f.k,(a,f.ar.2++[cG f]),[],[],[],0,f.la⟩
def fT(a:Sl)(t:Tk)(s:SX):Option SX:=
 if s.st=2 then(if t.k=40 then some ⟨s.lo++[s.tp],lW s.wd,1,s.wd⟩else none)
 else if s.st=1 then(if t.k=41 then my s []else fU t s)
 else if s.st=0 then fU t s
 else if t.k=42 then some ⟨s.lo,jq s.tp (.mk 7 0 0 [s.tp.la]),s.st,s.wd⟩
 else if t.k=38 then some ⟨s.lo,k5 s.tp,0,s.wd⟩
 else if t.k=124 then some ⟨s.lo,k4 s.tp,0,s.wd⟩
 else if t.k=44 then(if s.tp.k<0 then none else some ⟨s.lo,HW a s.tp,0,s.wd⟩)
 else if t.k=41 then(if s.lo=[]then none else my s (s.tp.ar.2++[cG s.tp]))
 else if t.k=36 then(if s.lo=[]then some s else none)
 else fU t ⟨s.lo,lQ s.tp,s.st,s.wd⟩
section
variable {M:Nat->Prop} {w0 w1:J} {bs:List Nat} {G:List En} {rb:Nat} {sl:Sl} {st wd:Int} {fs:List FM} {f:FM} {ts:List I} {p:Addr}
abbrev Hr(M:Nat->Prop)(j w:J)(b:Nat)(e:Sl)(g k:Int)(a:List FM)(f:FM)(d:List eb)(G:List En)(i:List I):Prop:=O M j w (SL b e g k ((a++[f]).flatMap FM.c) d++G) [.trees i]
def P8(C:SF M w0 w1 rb sl st wd fs f G ts)(i:Nat){src:Sl}(hi:(SL rb sl st wd ((fs++[f]).flatMap FM.c) ((fs++[f]).flatMap FM.rows)++G)[i]? =some (.row aV 4 src z4))(B:sl.a=some p)(d:Nat)(j:1<=d)(l:d<=4)(t:I)(S:(f.aX d).2.length<=1000000)(ao:src.n=1){K:J->Prop}(hK:∀e r,SF M w0 r rb sl st wd fs (f.put d (e,(f.aX d).2++[t])) G ts->K r)(Z:∀b∈bs,En.g b∈G:=by simp):
  ∃(m:Sl) (o:J),(hX #[jg,jg] jg #[(f.aX d).1.v,src.v]).run U w1=.ok (m.v) o/\kept bs w1 o/\(0:Int)<=(((f.aX d).1.n:Nat):Int)/\(((f.aX d).1.n:Nat):Int)<(m.n:Int)/\dv m.a λh=>
   ((aM o (h.add (aZ (((f.aX d).1.n:Nat):Int) *4)) (.int .i64 t.k) λu=>kept bs o u/\aM u ((h.add (aZ (((f.aX d).1.n:Nat):Int) *4)).add 1) (.int .u8 (t.lo.toNat:Int)) λq=>kept bs u q/\aM q ((h.add (aZ (((f.aX d).1.n:Nat):Int) *4)).add 2) (.int .u8 (t.hi.toNat:Int)) λw=>kept bs q w/\aM w ((h.add (aZ (((f.aX d).1.n:Nat):Int) *4)).add 3) t.s.v λx=>kept bs w x/\aM x ((p.add (fs.length *10)).add d) m.v λN=>kept bs x N/\K N)/\
   (aM o ((p.add (fs.length *10)).add d) m.v λE=>kept bs o E/\aM E (h.add (aZ (((f.aX d).1.n:Nat):Int) *4)) (.int .i64 t.k) λu=>kept bs E u/\aM u ((h.add (aZ (((f.aX d).1.n:Nat):Int) *4)).add 1) (.int .u8 (t.lo.toNat:Int)) λq=>kept bs u q/\aM q ((h.add (aZ (((f.aX d).1.n:Nat):Int) *4)).add 2) (.int .u8 (t.hi.toNat:Int)) λw=>kept bs q w/\aM w ((h.add (aZ (((f.aX d).1.n:Nat):Int) *4)).add 3) t.s.v λx=>kept bs w x/\K x)):=by
 have W:((fs++[f]).flatMap FM.rows)[fs.length *4+(d - 1)]? =some ((f.aX d).1,(f.aX d).2.flatMap I.c):=qD fs f (d - 1) _ (tD f j l);have nr:(f.aX d).1.n=(f.aX d).2.length:=by have B:(En.rows ((fs++[f]).flatMap FM.rows)).P w1:=C.get 2;exact I.cw (B.1 _ (aA W)).a2
 have A:∀{L:List En},∀b∈bs,En.g b∈L++G:=λb S=>cK _ (Z b S);obtain⟨e,o,h1,aa,h3⟩:=C.yA (bs:=bs) (ty:=jg) 2 (fs.length *4+(d - 1)) (src:=src) (news:=z4) (K:=λe r=>Hr M w0 r rb sl st wd fs f (((fs++[f]).flatMap FM.rows).set (fs.length *4+(d - 1)) (e,(f.aX d).2.flatMap I.c++z4)) G ts/\e.n=(f.aX d).1.n+1/\∃h,e.a=some h) rfl W (aL.a2 (C.get i hi)) (by simp[Value.oneCell']) io (λe w4 Y an aj=>⟨Y,io,by
  cases hs:e.a with
  |none=>grind
  |some h=>grind⟩) A
 obtain⟨H,ab,h,F⟩:=h3;refine⟨e,o,h1,aa,io,io,?_⟩;rw[F];have T:fs.length *4+(d - 1)<((fs++[f]).flatMap FM.rows).length:=by grind
 have Q:∀(f:FM) (t:I) (d:Nat),(f.aX d).2.flatMap I.c++t.c=((f.aX d).2++[t]).flatMap I.c:=λf t d=>gs
 rw[nr];refine⟨?_,?_⟩
 .refine O.uQ (bs:=bs) H 2 (fs.length *4+(d - 1)) (f.aX d).2.length t rfl (l1 T) F (I.hL _) (λr y=>?_) A;have y:Hr M w0 r rb sl st wd fs f ((((fs++[f]).flatMap FM.rows).set (fs.length *4+(d - 1)) (e,(f.aX d).2.flatMap I.c++z4)).set (fs.length *4+(d - 1)) (e,(f.aX d).2.flatMap I.c++t.c)) G ts:=y;rw[List.set_set,Q,tZ fs f (e,(f.aX d).2++[t]) j l]at y;exact y.jc (bs:=bs) (f:=f) 1 (f.put d (e,(f.aX d).2++[t])) d rfl B io (xl f (e,(f.aX d).2++[t]) j l) (λD z=>hK e D z) A
 .refine H.jc (bs:=bs) (f:=f) 1 (f.put d (e,(f.aX d).2++[t])) d rfl B io (xl f (e,(f.aX d).2++[t]) j l) (λr y=>?_) A;refine O.uQ (bs:=bs) (L:=SL rb sl st wd ((fs++[f.put d (e,(f.aX d).2++[t])]).flatMap FM.c) (((fs++[f]).flatMap FM.rows).set (fs.length *4+(d - 1)) (e,(f.aX d).2.flatMap I.c++z4))++G) y 2 (fs.length *4+(d - 1)) (f.aX d).2.length t rfl (l1 T) F (I.hL _) (λD z=>?_) A;have z:O M w0 D (SL rb sl st wd ((fs++[f.put d (e,(f.aX d).2++[t])]).flatMap FM.c) ((((fs++[f]).flatMap FM.rows).set (fs.length *4+(d - 1)) (e,(f.aX d).2.flatMap I.c++z4)).set (fs.length *4+(d - 1)) (e,(f.aX d).2.flatMap I.c++t.c))++G) [.trees ts]:=z;rw[List.set_set,Q,tZ fs f (e,(f.aX d).2++[t]) j l]at z
  grind
end
def r0{α:Type}(l:List α):l=[]\/∃a d,l=a++[d]:=by
 rcases List.eq_nil_or_concat l with e|⟨a,d,e⟩
 .grind
 grind
def Jb(a:List FX)(g b:FX)(d c:Int)(l:List Rx):my ⟨a++[g],b,d,c⟩ l=some ⟨a,jq g (np b.k l),3,c⟩:=by unfold my;simp
def sZ(t:Tk)(S:SX):cR->Addr->List FX->FX->Int->Int->List I->Prop:=λr a b d c f e=>∃h,yu (fT h t S) r a b d c f e
def UT{w:J}{rb:Nat}{f0:Addr}{lo:List FX}{tp:FX}{st wd:Int}{own:List Nat}{ts:List I}(F:St w rb f0 lo tp st wd own ts)(hl:lo.length<=999999)(hs:Small tp 999999)(h1:st=1->0<=tp.k/\lo≠[])(t:Tk):
  aj U E9 #[.pointer (some (ab rb)),t.v] w (iS w own ts rb (sZ t ⟨lo,tp,st,wd⟩)):=by
 obtain⟨sl,h,f,p,rfl,rfl,M,B,rfl,bQ⟩:=Ab F;have cr:h.length<=999999:=by grind
 have bj:f.n<=999999:=hs.n';have aC:Small f.x 1000000:=⟨by have:=hs.n';omega,by have:=hs.ar;omega,by have:=hs.al;omega,by have:=hs.an;omega,by have:=hs.ca;omega⟩;have base:∀b∈I.bd ts,b∈I.bd ts\/w.heap.size<=b\/b∈own:=λb m=>.inl m
 let ap:Sl:=⟨none,0,0⟩
 refine xw.aq (bQ.ax (bs:=[]) (λq w1 H1=>?_) gs);have H1:SF (·∈own) w w1 rb sl st wd h f [.g q] ts:=H1;refine H1.av (yM H1 B io) ?_;rintro _ W rfl y;have y:SF (·∈own) w W rb sl st wd h f [.g q] ts:=y;refine⟨_,rfl,st,y.ld 0 1,?_⟩;have item:∀{W:J} {aM:Sl} {bE bF:Int} {aB:List FM} {f2:FM} {aH:List I} {p2:Addr},SF (·∈own) w W rb aM bE bF aB f2 [.g q] aH->(∀g∈aB++[f2],∀t∈g.ts,t∈aH)->aM.a=some p2->(∀b∈I.bd aH,b∈I.bd ts\/w.heap.size<=b\/b∈own)->(∀t∈ts,t∈aH)->aB.length<=1000000->f2.n<=1000000->
   fT ap t ⟨h.map FM.x,f.x,st,wd⟩=fU t ⟨aB.map FM.x,f2.x,bE,bF⟩->fH [q] U Fa #[.pointer (some (ab rb)),t.v] W λr_ w5=>∃ai:Bool,r_=ad (.bool ai)/\iS w own ts rb (sZ t ⟨h.map FM.x,f.x,st,wd⟩) (ad (.bool ai)) w5:=by
  intro W aM bE bF aB f2 aH p2 y bz bA bC bu bN cg he;refine y.mA (bs:=[q]) bz bA (λaJ s1=>U4 s1 (by grind) cg t) ?_ gs;rintro r w3 S L d p3 aG Y H Q E z N ci H4;have m:∀b∈I.bd H,b∈I.bd ts\/w.heap.size<=b\/b∈own:=λb m=>(N b m).elim (bC b) .inr;rcases ci with⟨hn,rfl⟩|⟨ck,rfl⟩
  .exact ⟨false,rfl,hR H4 E z m (λt ht=>Q t (bu t ht)) ⟨ap,.inl ⟨he.trans hn,rfl⟩⟩⟩
  .exact ⟨true,rfl,hR H4 E z m (λt ht=>Q t (bu t ht)) ⟨ap,.inr ⟨he.trans ck,rfl⟩⟩⟩
 have close:∀{W:J} {aM:Sl} {aB:List FM} {ba f2:FM} {aH:List I} {p2:Addr} {j:Sl} (T:I),O (·∈own) w W ([.c rb [aM.v,.int .i64 st,.int .i64 wd] yb,.row iK 10 aM (((aB++[ba])++[f2]).flatMap FM.c),.rows ((aB++[ba]).flatMap FM.rows)]++[.g q]) [.trees aH]->(∀ag∈aB++[ba],∀t∈ag.ts,t∈aH)->aM.a=some p2->aB.length<=999999->T∈aH->(0<=f2.k\/T.l≠[])->(∀b∈I.bd aH,b∈I.bd ts\/w.heap.size<=b\/b∈own)->(∀t∈ts,t∈aH)->
   fT j t ⟨h.map FM.x,f.x,st,wd⟩=some ⟨aB.map FM.x,jq ba.x (np f2.k (I.ao T.l)),3,wd⟩->fH [q] U E8 #[.pointer (some (ab rb)),T.s.v] W λr_ w5=>∃ai:Bool,r_=ad (.bool ai)/\iS w own ts rb (sZ t ⟨h.map FM.x,f.x,st,wd⟩) (ad (.bool ai)) w5:=by
  intro W aM aB ba f2 aH p2 j T y bz bA bN hT Z bC bu he;refine O.VY (rb:=rb) (bs:=[q]) y (λaJ HA=>UR HA bz bA bN T hT Z) ?_ gs;rintro r w3 S L d p3 aG Y H Q E z N ⟨rfl,ah,A,rfl,rfl⟩ H4;refine⟨true,rfl,hR H4 E z (λb m=>(N b m).elim (bC b) .inr) (λt ht=>Q t (bu t ht)) ⟨j,.inr ⟨?_,rfl⟩⟩⟩
  grind
 refine bq (λau=>?_) (λau=>?_)
 .have au:st=2:=eq_of_beq au;refine j3 (n:=40) io (λZ:t.k=40=>⟨wd,y.ld 0 2,?_⟩) (λZ:t.k≠40=>?_)
  .refine y.mA (bs:=[q]) M B (λaJ s1=>IP s1 io wd 1) ?_ gs;rintro _ w3 S L d p3 aG Y H Q E z N ⟨rfl,ah,A,rfl,rfl⟩ H4;refine⟨true,rfl,hR H4 E z N Q ⟨ap,.inr ⟨?_,rfl⟩⟩⟩;rw[ah,A];unfold fT
   grind
  .refine hR y M B base (λ_ F=>F) ⟨ap,.inl ⟨?_,rfl⟩⟩;unfold fT
   grind
 have n2:st≠2:=λac=>by grind
 refine bq (λa4=>?_) (λa4=>?_)
 .have a4:st=1:=eq_of_beq a4;obtain⟨b9,cu⟩:=h1 a4;refine j3 (n:=41) io (λZ:t.k=41=>?_) (λZ:t.k≠41=>?_)
  .rcases r0 h with rfl|⟨aO,g,rfl⟩
   .grind
   have H3:=Gy y 3 0 0;have er:(((aO++[g])++[f]).flatMap FM.rows)=(aO++[g]).flatMap FM.rows++f.rows:=by grind
   have H4:O (·∈own) w W (SL rb sl st wd (((aO++[g])++[f]).flatMap FM.c) ((aO++[g]).flatMap FM.rows++f.rows)++[.g q]) [.trees (ts++[.mk 3 0 0 ⟨none,0,0⟩ []])]:=by grind
   have H5:=Re H4 2 rfl;refine close (j:=ap) (.mk 3 0 0 ⟨none,0,0⟩ []) H5 (λag hx u i=>bV _ (M ag (bV _ hx) u i)) B (by grind) gs (.inl b9) (λb m=>.inl (zl m)) (λu i=>bV _ i) ?_;unfold fT;refine(aa n2).trans ((af a4).trans ((af Z).trans ?_));rw[fh];exact Jb _ _ _ _ _ _
  .refine item y M B base (λ_ F=>F) io io ?_;unfold fT
   grind
 have n1:st≠1:=λac=>by grind
 refine bq (λak=>?_) (λak=>?_)
 .have ak:st=0:=eq_of_beq ak;refine item y M B base (λ_ F=>F) io io ?_;unfold fT
  grind
 have n0:st≠0:=λac=>by grind
 have fe:∀j:Sl,fT j t ⟨h.map FM.x,f.x,st,wd⟩=(if t.k=42 then some ⟨h.map FM.x,jq f.x (.mk 7 0 0 [f.x.la]),st,wd⟩
   else if t.k=38 then some ⟨h.map FM.x,k5 f.x,0,wd⟩
   else if t.k=124 then some ⟨h.map FM.x,k4 f.x,0,wd⟩
   else if t.k=44 then(if f.x.k<0 then none else some ⟨h.map FM.x,HW j f.x,0,wd⟩)
   else if t.k=41 then(if h.map FM.x=[]then none else my ⟨h.map FM.x,f.x,st,wd⟩ (f.x.ar.2++[cG f.x]))
   else if t.k=36 then(if h.map FM.x=[]then some ⟨h.map FM.x,f.x,st,wd⟩else none)
   else fU t ⟨h.map FM.x,lQ f.x,st,wd⟩):=λj=>by
  unfold fT
  grind
 refine j3 (n:=42) io (λZ:t.k=42=>?_) (λaw:t.k≠42=>j3 (n:=38) io (λZ:t.k=38=>?_) (λbw:t.k≠38=>j3 (n:=124) io (λZ:t.k=124=>?_) (λam:t.k≠124=>j3 (n:=44) io (λZ:t.k=44=>?_) (λbk:t.k≠44=>j3 (n:=41) io (λZ:t.k=41=>?_) (λce:t.k≠41=>j3 (n:=36) io (λZ:t.k=36=>?_) (λcd:t.k≠36=>?_))))))
 .obtain ⟨c0,c1,c2,c3⟩:=y.Lp 1 rfl B;refine pj ⟨_,_,_,_,c0,c1,c2,c3,?_⟩;refine y.e3 (e:=aV) (sz:=4) (n:=1) (cs:=f.la.c) rfl dl λw7 H7=>pj ?_;have a1:((p.add (h.length *10)).add 6).add 1=(p.add (h.length *10)).add 7:=add_add _ 6 1;have b1:((p.add (h.length *10)).add 6).add 2=(p.add (h.length *10)).add 8:=add_add _ 6 2;have a3:((p.add (h.length *10)).add 6).add 3=(p.add (h.length *10)).add 9:=add_add _ 6 3;rw[a1,b1,a3];refine H7.jc (bs:=[q]) (f:=f) 1 ⟨f.k,f.ar,f.al,f.an,f.ca,f.n,.mk 7 f.la.lo f.la.hi f.la.s f.la.l⟩ 6 rfl B io rfl (λw8 H8=>?_) gs;refine H8.jc (bs:=[q]) (f:=⟨f.k,f.ar,f.al,f.an,f.ca,f.n,.mk 7 f.la.lo f.la.hi f.la.s f.la.l⟩) 1 ⟨f.k,f.ar,f.al,f.an,f.ca,f.n,.mk 7 0 f.la.hi f.la.s f.la.l⟩ 7 rfl B io rfl (λw9 H9=>?_) gs;refine H9.jc (bs:=[q]) (f:=⟨f.k,f.ar,f.al,f.an,f.ca,f.n,.mk 7 0 f.la.hi f.la.s f.la.l⟩) 1 ⟨f.k,f.ar,f.al,f.an,f.ca,f.n,.mk 7 0 0 f.la.s f.la.l⟩ 8 rfl B io rfl (λcf bi=>?_) gs;refine bi.jc (bs:=[q]) (f:=⟨f.k,f.ar,f.al,f.an,f.ca,f.n,.mk 7 0 0 f.la.s f.la.l⟩) 1 ⟨f.k,f.ar,f.al,f.an,f.ca,f.n,.mk 7 0 0 ⟨some (ab W.heap.size),1,1⟩ [f.la]⟩ 9 rfl B io rfl (λbK ay=>?_) gs;have cc:f.la∈ts:=M f gs _ (by simp[FM.ts]);have bR:=ay.freeze 4 (I.row ⟨some (ab W.heap.size),1,1⟩ [f.la]) rfl (by show bo 4 bK _ ([f.la].flatMap I.c);rw[show[f.la].flatMap I.c=f.la.c by simp];exact aL.a2 (ay.get 4)) (λb m=>gL (e:=aV) (vs:=[f.la].flatMap I.c) m);have bT:=bR.node 0 7 0 0 (s:=⟨some (ab W.heap.size),1,1⟩) (ks:=[f.la]) rfl gs (λt ht=>by grind);have er:(h++[f]).flatMap FM.rows=(h++[(⟨f.k,f.ar,f.al,f.an,f.ca,f.n,.mk 7 0 0 ⟨some (ab W.heap.size),1,1⟩ [f.la]⟩:FM)]).flatMap FM.rows:=by simp[FM.rows]
  have bW:SF (·∈own) w bK rb sl st wd h ⟨f.k,f.ar,f.al,f.an,f.ca,f.n,.mk 7 0 0 ⟨some (ab W.heap.size),1,1⟩ [f.la]⟩ [.g q] (ts++[.mk 7 0 0 ⟨some (ab W.heap.size),1,1⟩ [f.la]]):=by show O _ _ _ (SL rb sl st wd _ ((h++[(⟨f.k,f.ar,f.al,f.an,f.ca,f.n,.mk 7 0 0 ⟨some (ab W.heap.size),1,1⟩ [f.la]⟩:FM)]).flatMap FM.rows)++_) _;rw[<-er];exact bT
  refine hR bW (λg hg u i=>?_) B (λb m=>?_) (λu i=>bV _ i) ⟨ap,.inr ⟨?_,rfl⟩⟩
  .rcases aK.1 hg with hg|hg
   .grind
   .simp at hg;subst hg;simp only[FM.ts,aK,aF,a5,a9]at i;rcases i with(((i|i)|i)|i)|rfl
    .exact bV _ (M f gs u (by simp[FM.ts,i]))
    .exact bV _ (M f gs u (by simp[FM.ts,i]))
    .exact bV _ (M f gs u (by simp[FM.ts,i]))
    .exact bV _ (M f gs u (by simp[FM.ts,i]))
    .simp
  .obtain ⟨u,i,aP⟩:=I.bS.1 m;rcases aK.1 i with i|i
   .exact .inl (I.bS.2 ⟨u,i,aP⟩)
   .simp at i;rw[i]at aP;rcases I.gC.1 aP with aP|aP
    .have:=gL (e:=aV) aP;simp[En.row,aR,I.s]at this;subst this;exact .inr (.inl y.fr.size)
    .obtain ⟨t',aI,bl⟩:=I.bS.1 aP;simp[I.l]at aI;rw[aI]at bl;exact .inl (I.bS.2 ⟨f.la,cc,bl⟩)
  .rw [fe,af Z];rfl
 .refine y.mA (bs:=[q]) M B (λaJ s1=>yF (IF s1 aC.n' aC.ca aC.an)) ?_ gs;rintro _ w3 S L d p3 aG Y H Q E z N ⟨rfl,bL,ah,A,rfl,rfl⟩ H3;refine⟨rfl,H3.ve (bs:=[q]) 0 1 rfl (λw4 H4=>?_) gs gs⟩;refine hR (show SF (·∈own) w w4 rb S 0 Y L d [.g q] H from H4) E z N Q ⟨ap,.inr ⟨?_,rfl⟩⟩
  grind
 .refine y.mA (bs:=[q]) M B (λaJ s1=>yF (ID s1 aC.n' aC.ca aC.an aC.al)) ?_ gs;rintro _ w3 S L d p3 aG Y H Q E z N ⟨rfl,bL,ah,A,rfl,rfl⟩ H3;refine⟨rfl,H3.ve (bs:=[q]) 0 1 rfl (λw4 H4=>?_) gs gs⟩;refine hR (show SF (·∈own) w w4 rb S 0 Y L d [.g q] H from H4) E z N Q ⟨ap,.inr ⟨?_,rfl⟩⟩
  grind
 .refine pj ⟨f.k,y.g2 1 rfl B 0,bq (λh0=>?_) (λh0=>?_)⟩
  .refine hR y M B base (λ_ F=>F) ⟨ap,.inl ⟨?_,rfl⟩⟩;rw[fe,aa aw,aa bw,aa am,af Z];exact af (eQ h0)
  have fin:∀{w5:J} {S:Sl} {L:List FM} {d:FM} {p3:Addr} {H:List I} {j:Sl} {u:I} {G:List En},SF (·∈own) w w5 rb S st wd L (d.put 1 (j,(d.aX 1).2++[u])) G H->(∀g∈L++[d],∀t∈g.ts,t∈H)->S.a=some p3->(∀b∈I.bd H,b∈I.bd ts\/w.heap.size<=b\/b∈own)->(∀t∈ts,t∈H)->L.map FM.x=h.map FM.x->d.x=Di f.x->u∈H->u.rx=cG f.x->
    xw.bh (ab rb) w5 (iS w own ts rb (sZ t ⟨h.map FM.x,f.x,st,wd⟩)):=by
   intro w5 S L d p3 H j u G H5 E z b5 cn ah A i hx;refine H5.st 0 1 rfl λw6 H6=>?_;refine hR (show SF (·∈own) w w6 rb S 0 wd L (d.put 1 (j,(d.aX 1).2++[u])) G H from H6) (λg hg v o=>?_) z b5 cn ⟨j,.inr ⟨?_,rfl⟩⟩
   .rcases aK.1 hg with hg|hg
    .grind
    .simp at hg;subst hg;rcases Aq _ _ io io o with F|F
     .grind
     .rcases aK.1 F with F|F
      .exact E d gs v (oT d 1 F)
      grind
   .have e1:d.k=f.k:=by have:=congrArg FX.k A;exact this
    have e2:I.ao d.ar.2=I.ao f.ar.2:=by have:=congrArg (λag:FX=>ag.ar.2) A;exact this
    have b4:I.ao d.al.2=[]:=by have:=congrArg FX.al A;exact this
    have e4:I.ao d.an.2=[]:=by have:=congrArg FX.an A;exact this
    have e5:I.ao d.ca.2=[]:=by have:=congrArg FX.ca A;exact this
    have e6:d.n=0:=by have:=congrArg FX.n A;exact this
    have e7:d.la.rx=f.x.la:=by have:=congrArg FX.la A;exact this
    rw[fe,aa aw,aa bw,aa am,af Z];refine(aa (lE h0)).trans ?_;show some (SX.mk _ ⟨_,(j,I.ao f.ar.2++[cG f.x]),[],[],[],0,f.x.la⟩ 0 wd)=some (SX.mk (L.map FM.x) ⟨d.k,(j,I.ao (d.ar.2++[u])),I.ao d.al.2,I.ao d.an.2,I.ao d.ca.2,d.n,d.la.rx⟩ 0 wd);rw[ah,e1,b4,e4,e5,e6,e7,kG,e2];show some (SX.mk _ ⟨_,(j,I.ao f.ar.2++[cG f.x]),[],[],[],0,f.x.la⟩ 0 wd)=some (SX.mk _ ⟨_,(j,I.ao f.ar.2++[u.rx]),[],[],[],0,f.x.la⟩ 0 wd);rw[hx];rfl
  refine pj (y.ae (bs:=[q]) (λbe bv=>⟨f.ar.1,bv.g2 1 rfl B 1,?_,?_⟩) gs)
  .refine (show SF (·∈own) w be rb sl st wd h f [.g q] ts from bv).mA (bs:=[q]) M B (λaJ s1=>yJ s1 aC) ?_ gs;rintro r bP S L d p3 aG Y H Q E z N ⟨bf,ah,A,rfl,rfl,u,i,rfl,hx⟩ aY;have a6:d.ar.1=f.ar.1:=by have:=congrArg (λag:FX=>ag.ar.1) A;exact this
   refine⟨u.k,u.lo.toNat,u.hi.toNat,u.s,rfl,?_⟩;rw[<-bf,<-a6];refine⟨aY.g2 1 rfl z 1,aY.e3 (e:=aV) (sz:=4) (n:=1) (cs:=z4) rfl dl λbm az=>⟨az.g2 1 rfl z 1,?_⟩⟩;have bt:(d.aX 1).2.length<=1000000:=by have ac:d.x.ar.2.length=d.ar.2.length:=(DO d).1;rw[A]at ac;have:f.x.ar.2.length<=999999:=hs.ar;show d.ar.2.length<=_;rw[<-ac];show f.x.ar.2.length<=_;omega
   exact P8 (bs:=[q]) (K:=λw5=>xw.bh (ab rb) w5 (iS w own ts rb (sZ t ⟨h.map FM.x,f.x,aG,Y⟩))) (show SF (·∈own) w bm rb S aG Y L d ([.g q]++[.row aV 4 ⟨some (ab bP.heap.size),1,1⟩ z4]) H from az) 4 rfl z 1 io io u bt rfl (λj w5 H5=>fin H5 E z N Q ah A i hx) gs
  .refine bv.e3 (e:=aV) (sz:=4) (n:=1) (cs:=z4) rfl dl λbn bb=>⟨bb.g2 1 rfl B 1,?_⟩;refine(show SF (·∈own) w bn rb sl st wd h f ([.g q]++[.row aV 4 ⟨some (ab be.heap.size),1,1⟩ z4]) ts from bb).mA (bs:=[q]) M B (λaJ s1=>yJ s1 aC) ?_ gs;rintro r bP S L d p3 aG Y H Q E z N ⟨bf,ah,A,rfl,rfl,u,i,rfl,hx⟩ aY;have a6:d.ar.1=f.ar.1:=by have:=congrArg (λag:FX=>ag.ar.1) A;exact this
   refine⟨u.k,u.lo.toNat,u.hi.toNat,u.s,rfl,?_⟩;rw[<-bf,<-a6];refine⟨aY.g2 1 rfl z 1,?_⟩;have bt:(d.aX 1).2.length<=1000000:=by have ac:d.x.ar.2.length=d.ar.2.length:=(DO d).1;rw[A]at ac;have:f.x.ar.2.length<=999999:=hs.ar;show d.ar.2.length<=_;rw[<-ac];show f.x.ar.2.length<=_;omega
   exact P8 (bs:=[q]) (K:=λw5=>xw.bh (ab rb) w5 (iS w own ts rb (sZ t ⟨h.map FM.x,f.x,aG,Y⟩))) aY 4 rfl z 1 io io u bt rfl (λj w5 H5=>fin H5 E z N Q ah A i hx) gs
 .refine y.ae (bs:=[q]) (λb2 aN=>⟨sl,aN.ld 0 0,?_⟩) gs;have aN:SF (·∈own) w b2 rb sl st wd h f [.g q] ts:=aN;have cm:=AS aN;rcases r0 h with rfl|⟨aO,g,rfl⟩
  .refine aW (aS (by grind)) ?_;refine hR aN M B base (λ_ F=>F) ⟨ap,.inl ⟨?_,rfl⟩⟩
   grind
  .refine aU (aQ (by grind)) (pj ⟨f.ar.1,aN.g2 1 rfl B 1,?_⟩);refine aN.mA (bs:=[q]) M B (λaJ s1=>yJ s1 aC) ?_ gs;rintro r co S L d p3 aG Y H Q E z N ⟨bf,ah,A,rfl,rfl,u,i,rfl,hx⟩ bI;have a6:d.ar.1=f.ar.1:=by have:=congrArg (λag:FX=>ag.ar.1) A;exact this
   refine⟨u.k,u.lo.toNat,u.hi.toNat,u.s,rfl,?_⟩;rw[<-bf,<-a6];refine⟨bI.g2 1 rfl z 1,bI.e3 (e:=aV) (sz:=4) (n:=1) (cs:=u.c) rfl dl λbp bg=>⟨bg.g2 1 rfl z 1,?_⟩⟩;have b7:∃C D,L=C++[D]/\C.map FM.x=aO.map FM.x/\D.x=g.x:=by
    rcases r0 L with rfl|⟨C,D,rfl⟩
    .grind
    .refine ⟨C,D,rfl,?_⟩;rw[fh,fh]at ah;have:=List.append_inj' ah rfl
     grind
   obtain⟨C,D,rfl,b6,b8⟩:=b7;have bO:(((C++[D])++[d]).flatMap FM.rows)[(C++[D]).length *4+0]? =some (d.ar.1,d.ar.2.flatMap I.c):=qD (C++[D]) d 0 _ rfl;have bt:d.ar.2.length<=999999:=by have ac:d.x.ar.2.length=d.ar.2.length:=(DO d).1;rw[A]at ac;have:f.x.ar.2.length<=999999:=hs.ar;rw[<-ac];exact this
   have nr:d.ar.1.n=d.ar.2.length:=by have hp:(En.rows (((C++[D])++[d]).flatMap FM.rows)).P bp:=bg.get 2;exact I.cw (hp.1 _ (aA bO)).a2
   refine bg.yA (bs:=[q]) 2 ((C++[D]).length *4+0) (src:=⟨some (ab co.heap.size),1,1⟩) (news:=u.c) rfl bO (aL.a2 (bg.get 4)) (by simp[Value.oneCell',I.c]) (by grind) (λj b3 bc bj br=>?_) gs;have bM:(C++[D]).length *4+0<(((C++[D])++[d]).flatMap FM.rows).length:=by grind
   have ch:∀b∈aR j,b∈own\/w.heap.size<=b:=λb m=>(bc.new (.rows ((((C++[D])++[d]).flatMap FM.rows).set ((C++[D]).length *4+0) (j,d.ar.2.flatMap I.c++u.c))) gs b (a7.2 (cl.2 ⟨_,aA (l1 bM),m⟩))).symm;have bJ:=bc.DP 2 ((C++[D]).length *4+0) rfl (l1 bM);have ec:d.ar.2.flatMap I.c++u.c=(d.ar.2++[u]).flatMap I.c:=gs
   rw[ec]at bJ;have bY:=bJ.node 0 3 0 0 (s:=j) (ks:=d.ar.2++[u]) rfl (cK _ (List.mem_singleton.2 rfl)) (λv o=>by
    rcases aK.1 o with o|o
    .exact E d gs v (oT d 1 o)
    grind)
   have er:(((((C++[D])++[d]).flatMap FM.rows).set ((C++[D]).length *4+0) (j,(d.ar.2++[u]).flatMap I.c)).set ((C++[D]).length *4+0) (⟨none,0,0⟩,[]))=(C++[D]).flatMap FM.rows++d.rows.set 0 (⟨none,0,0⟩,[]):=by rw[List.set_set];exact Gp (C++[D]) d 0 _ io
   have bZ:O (·∈own) w b3 (SL rb S aG Y (((C++[D])++[d]).flatMap FM.c) ((C++[D]).flatMap FM.rows++d.rows.set 0 (⟨none,0,0⟩,[]))++[.g q]) [.trees (H++[.mk 3 0 0 j (d.ar.2++[u])])]:=by rw[<-er];exact bY.take 4
   have b0:=Re bZ 2 rfl;have cb:d.k=f.k:=by have:=congrArg FX.k A;exact this
   refine close (j:=ap) (.mk 3 0 0 j (d.ar.2++[u])) b0 (λag hx v o=>bV _ (E ag (bV _ hx) v o)) z ?_ gs (.inr (by simp[I.l])) ?_ (λv o=>bV _ (Q v o)) ?_
   .grind
   .intro b m;obtain⟨v,o,aT⟩:=I.bS.1 m;rcases aK.1 o with o|o
    .exact N b (I.bS.2 ⟨v,o,aT⟩)
    .simp at o;rw[o]at aT;rcases I.gC.1 aT with aT|aT
     .exact .inr (ch b (gL (e:=aV) aT)).symm
     .obtain ⟨t',aI,bl⟩:=I.bS.1 aT;have aI:t'∈d.ar.2++[u]:=aI;refine N b (I.bS.2 ⟨t',?_,bl⟩);rcases aK.1 aI with aI|aI
      .exact E d gs t' (oT d 1 aI)
      grind
   .rw [fe,aa aw,aa bw,aa am,aa bk,af Z];refine(aa gs).trans ?_;rw[fh];refine(Jb _ _ _ _ _ _).trans ?_;have e2:I.ao d.ar.2=f.x.ar.2:=by have:=congrArg (λag:FX=>ag.ar.2) A;exact this
    rw[b6,b8,cb];show _=some (SX.mk _ (jq g.x (np f.k (I.ao (d.ar.2++[u])))) 3 Y);rw[kG,e2];show _=some (SX.mk _ (jq g.x (np f.k (f.x.ar.2++[u.rx]))) 3 Y);rw[hx];rfl
 .refine ⟨sl,y.ld 0 0,?_⟩;have cm:=AS y;rcases r0 h with rfl|⟨aO,g,rfl⟩
  .have ac:((sl.n:Int)==1)=true:=by grind
   rw[ac];refine hR y M B base (λ_ F=>F) ⟨ap,.inr ⟨?_,rfl⟩⟩
   grind
  .have ac:((sl.n:Int)==1)=false:=by grind
   rw[ac];refine hR y M B base (λ_ F=>F) ⟨ap,.inl ⟨?_,rfl⟩⟩
   grind
 .refine y.mA (bs:=[q]) M B (λaJ s1=>yF (IE s1 aC.n' aC.ca)) ?_ gs;rintro _ w3 S L d p3 aG Y H Q E z N ⟨rfl,bL,ah,A,rfl,rfl⟩ H3;refine⟨rfl,item H3 E z N Q ?_ ?_ ?_⟩
  .grind
  .have e5:d.n=0:=by have:=congrArg FX.n A;exact this
   omega
  grind
def abg(s:ByteArray)(c:UInt8)(w:J):Sem.run U (callFunc ur #[.string s,.int .u8 (c.toNat:Int)]) w=.ok (.value (.int .i64 (Go.Lib.indexByte (bl s) c))) w:=by have d:=run_callFunc_indexByte (P:=U) (f:=ur) (fn:=(Tryz.prog.funcs[ur]?).getD default) (by kernel_rfl) (by kernel_rfl) (by kernel_rfl) (by kernel_rfl) (by kernel_rfl) #[.string s,.int .u8 (c.toNat:Int)] w;rw[d,Go.Lib.run_indexByteString];show Result.ok _ w=_;congr 4;simp
def Gv(s:ByteArray)(c:UInt8)(w:J):aj U Ff #[.string s,.int .u8 (c.toNat:Int)] w λr a=>r=ad (.int .i64 (Go.Lib.indexByte (bl s) c))/\ag w a:=by
 refine GQ.ok ?_;refine(show aj U EN #[.string s,.int .u8 (c.toNat:Int)] w λr a=>r=ad (.int .i64 (Go.Lib.indexByte (bl s) c))/\w=a from ?_).mono ?_
 .exact D3.ok ⟨_,w,abg s c w,rfl,rfl⟩
 .rintro r d ⟨rfl,rfl⟩;exact⟨_,rfl,rfl,Fr.refl _ _⟩
def kI(c:UInt8):Bool:=ai (97<=c.toNat)&&ai (c.toNat<=122)
def uN(c:UInt8):Bool:=ai (32<=c.toNat)&&(ai (c.toNat<=126)&&(!decide (c=39)&&!decide (c=92)))
def yL(c:UInt8)(w:J):aj U N0 #[.int .u8 (c.toNat:Int)] w λr a=>r=ad (.bool (kI c))/\ag w a:=by
 refine QP.ok (aY (λd=>⟨?_,Fr.refl _ _⟩) (λd=>⟨?_,Fr.refl _ _⟩))
 .unfold kI;rw[aQ (show 97<=c.toNat by omega),Bool.true_and];rw[show ai ((c.toNat:Int)<=122)=ai (c.toNat<=122)from decide_eq_decide.2 io]
 .unfold kI;rw[aS (show ¬97<=c.toNat by omega),Bool.false_and]
def S'(c:UInt8)(n:Nat)(a:n<256):((c.toNat:Int)==(n:Int))=ai (c=ei n):=by
 have d:c.toNat=n↔c=ei n:=by rw[<-UInt8.toNat_inj,UInt8.toNat_ofNat'];omega
 rw[Bool.eq_iff_iff,beq_iff_eq,decide_eq_true_iff,<-d];omega
def IL(c:UInt8)(w:J):aj U NX #[.int .u8 (c.toNat:Int)] w λr d=>r=ad (.bool (uN c))/\ag w d:=by
 have e:((c.toNat:Int) !=39)= !decide (c=39):=by have:=S' c 39 io;show(!((c.toNat:Int)==((39:Nat):Int)))=_;rw[this];rfl
 have h:((c.toNat:Int) !=92)= !decide (c=92):=by have:=S' c 92 io;show(!((c.toNat:Int)==((92:Nat):Int)))=_;rw[this];rfl
 refine QL.ok ?_;rw[e,h];unfold uN;refine aY (λj=>?_) (λj=>⟨?_,Fr.refl _ _⟩)
 .rw [aQ (show 32<=c.toNat by omega),Bool.true_and];refine aY (λb=>?_) (λb=>⟨?_,Fr.refl _ _⟩)
  .rw [aQ (show c.toNat<=126 by omega),Bool.true_and];refine bq (λa=>⟨?_,Fr.refl _ _⟩) (λa=>⟨?_,Fr.refl _ _⟩)
   .rw [a,Bool.true_and]
   .rw [a,Bool.false_and]
  .rw [aS (show ¬c.toNat<=126 by omega),Bool.false_and]
 .rw [aS (show ¬32<=c.toNat by omega),Bool.false_and]
def Up{s:ByteArray}{l:List UInt8}(e:bl s=l)(i:Nat):s[i]? =l[i]?:=by
 subst e;by_cases d:i<s.size
 .rw [getElem?_pos s i d,a0 (by rw[cZ];exact d)];rfl
 .rw [getElem?_neg s i d,List.getElem?_eq_none (by rw[cZ];omega)]
def l5{s:ByteArray}{i:Nat}(d:i<s.size):s[i]? =some ((bl s).getD i 0):=by
 rw[Up (s:=s) (l:=bl s) rfl i];have e:i<(bl s).length:=by rw[cZ];exact d
 rw[List.getD_eq_getElem?_getD,a0 e];rfl
def qk:List UInt8:=[48,49,50,51,52,53,54,55,56,57,97,98,99,100,101,102]
def Xj(a b:Int):UInt8:=ei (aD .u8 (tl .i64 (aD .i64 (a *2^4)) b)).toNat
def k0(l:List UInt8)(i:Nat):Option (UInt8×Nat):=
 if i+2<l.length/\l.getD i 0=39/\uN (l.getD (i+1) 0)=true/\l.getD (i+2) 0=39 then some (l.getD (i+1) 0,3)
 else if i+3<l.length/\l.getD i 0=92/\l.getD (i+1) 0=120/\0<=Go.Lib.indexByte qk (l.getD (i+2) 0)/\0<=Go.Lib.indexByte qk (l.getD (i+3) 0)then some (Xj (Go.Lib.indexByte qk (l.getD (i+2) 0)) (Go.Lib.indexByte qk (l.getD (i+3) 0)),4)
 else none
def Dr:Option (UInt8×Nat)->V
 |none=>.tuple #[.int .u8 0,.int .i64 0,.bool false]
 |some (b,n)=>.tuple #[.int .u8 (b.toNat:Int),.int .i64 (n:Int),.bool true]
def Bl{x:UInt8}{n:Nat}{A d:Prop}(c:n<256)(a:x=ei n->A)(b:x≠ei n->d):bB ((x.toNat:Int)==(n:Int)) A d:=j3 c a b
def adh(x:Int):((ei (aD .u8 x).toNat).toNat:Int)=aD .u8 x:=by rw[UInt8.toNat_ofNat',IntKind.wrap_u8];omega
def Cr(s:ByteArray)(i:Nat)(q:i<=1000000)(w:J):aj U NN #[.string s,.int .i64 (i:Int)] w λr a=>r=ad (Dr (k0 (bl s) i))/\ag w a:=by
 have A:aD .i64 ((i:Int)+1)=((i+1:Nat):Int):=by rw[br _ io];omega
 have B:aD .i64 ((i:Int)+2)=((i+2:Nat):Int):=by rw[br _ io];omega
 have F:aD .i64 ((i:Int)+3)=((i+3:Nat):Int):=by rw[br _ io];omega
 have H:(bl s).length=s.size:=cZ s;have h:¬(i+2<(bl s).length/\(bl s).getD i 0=39/\uN ((bl s).getD (i+1) 0)=true/\(bl s).getD (i+2) 0=39)->∀a,ag w a->Ax.S0 s i a (λr a=>r=ad (Dr (k0 (bl s) i))/\ag w a):=by
  intro C a c;have no:¬(i+3<(bl s).length/\(bl s).getD i 0=92/\(bl s).getD (i+1) 0=120/\0<=Go.Lib.indexByte qk ((bl s).getD (i+2) 0)/\0<=Go.Lib.indexByte qk ((bl s).getD (i+3) 0))->∀a,ag w a->Ax.S1 a (λr a=>r=ad (Dr (k0 (bl s) i))/\ag w a):=λp a c=>by refine⟨?_,c⟩;unfold k0;rw[aa C,aa p];rfl
  show bB _ _ _;rw[F,B,A];refine aY (λo=>⟨io,_,l5 (i:=i) io,Bl (n:=92) io (λb=>⟨io,_,l5 (i:=i+1) io,Bl (n:=120) io (λy=>?_) (λy=>no (λd=>y d.2.2.1) a c)⟩) (λb=>no (λd=>b d.2.1) a c)⟩) (λo=>no (λd=>io) a c);refine(show O F0 w a [] []from((O.start (M:=F0) (w:=w) [] gs).cC c)).dr λz l=>⟨io,_,l5 (i:=i+2) io,io,_,l5 (i:=i+3) io,l.call (Gv _ _ _) ?_⟩;rintro _ I rfl E;refine⟨_,rfl,E.call (Gv _ _ _) ?_⟩;rintro _ D rfl j;refine⟨_,rfl,?_⟩;show bB (ai (Go.Lib.indexByte qk _>=0)) (bB (ai (Go.Lib.indexByte qk _>=0)) _ _) _;refine aY (λk=>aY (λf=>⟨?_,j.fr⟩) (λf=>no (λd=>f d.2.2.2.2) D j.fr)) (λk=>no (λd=>k d.2.2.2.1) D j.fr);unfold k0;rw[aa C,af ⟨io,b,y,k,f⟩];exact congrArg (λG=>Ending.returned (.tuple #[.int .u8 G,.int .i64 4,.bool true])) (adh _).symm
 refine Ax.ok ?_;rw[B,A];refine aY (λm=>⟨io,_,l5 (i:=i) io,Bl (n:=39) io (λb=>⟨io,_,l5 (i:=i+1) io,(IL _ w).mono ?_⟩) (λb=>h (λd=>b d.2.1) w (Fr.refl _ _))⟩) (λm=>h (λd=>io) w (Fr.refl _ _));rintro _ z ⟨rfl,x⟩;refine⟨_,rfl,bq (λe=>⟨io,_,l5 (i:=i+2) io,Bl (n:=39) io (λg=>⟨io,_,l5 (i:=i+1) io,?_,x⟩) (λg=>h (λd=>g d.2.2.2) z x)⟩) (λe=>h (λd=>by rw[d.2.2.1]at e;cases e) z x)⟩;unfold k0;rw[af ⟨io,b,e,g⟩];rfl
def RM:List UInt8:=[40,41,44,124,38,33,42]
def eW(l:List UInt8)(i:Nat):Tk×Nat:=
 if 0<=Go.Lib.indexByte RM (l.getD i 0)then(⟨l.getD i 0,0,0,[],i⟩,1)
 else if kI (l.getD i 0)=true then(⟨119,0,0,(l.drop i).takeWhile kI,i⟩,((l.drop i).takeWhile kI).length)
 else if l.getD i 0=91 then
  match k0 l (i+1)with
  |none=>(⟨63,0,0,[],i⟩,1)
  |some (lo,m)=>
   if i+1+m<l.length/\l.getD (i+1+m) 0=45 then
    match k0 l (i+1+m+1)with
    |none=>(⟨63,0,0,[],i⟩,1)
    |some (e,d)=>if i+1+m+(1+d)<l.length/\l.getD (i+1+m+(1+d)) 0=93/\lo.toNat<=e.toNat then(⟨114,lo,e,[],i⟩,1+m+(1+d)+1)else(⟨63,0,0,[],i⟩,1)
   else(⟨63,0,0,[],i⟩,1)
 else match k0 l i with
  |some (b,n)=>(⟨114,b,b,[],i⟩,n)
  |none=>(⟨63,0,0,[],i⟩,1)
def Be(x:Tk×Nat):V:=.tuple #[x.1.v,.int .i64 (x.2:Int)]
def Cm{l:List UInt8}{i:Nat}{b:UInt8}{n:Nat}(d:k0 l i=some (b,n)):(n=3\/n=4)/\i+n<=l.length:=by
 unfold k0 at d
 grind
def Sm:∀(l:List UInt8) (m:Nat) (p:UInt8->Bool),m<=l.length->(∀h<m,p (l.getD h 0)=true)->(m<l.length->p (l.getD m 0)=false)->(l.takeWhile p)=l.take m
 |[],m,p,d,_,_=>gs
 |c::l,0,p,d,_,e=>by have:p c=false:=e gs;simp[this]
 |c::l,m+1,p,d,j,e=>by have k:p c=true:=j 0 io;rw[List.takeWhile_cons,af k,List.take_succ_cons,Sm l m p (by grind) (λh a=>by grind) (λq=>by grind)]
def W9(l:List UInt8)(i k:Nat):(l.drop i).getD k 0=l.getD (i+k) 0:=by grind
def Vn(s:ByteArray)(hs:s.size<=900000)(i:Nat)(hi:i<s.size)(w:J):aj U Fb #[.string s,.int .i64 (i:Int)] w λr a=>r=ad (Be (eW (bl s) i))/\ag w a:=by
 have hl:(bl s).length=s.size:=cZ s;refine uW.aq ((bT [] (λ_ e=>by cases e)).ax (bs:=[]) (λf w1 E=>⟨io,_,l5 (i:=i) hi,?_⟩) gs);have E:O F0 w w1 [.g f] []:=E;have bad:∀a,O F0 w a [.g f] []->eW (bl s) i=(⟨63,0,0,[],i⟩,1)->∀(u v x:Int) (y:ByteArray) (z:Int),uW.ft (i:Int) f u v x y z a λr a=>r=ad (Be (eW (bl s) i))/\ag w a:=λa D he _ _ _ _ _=>D.ae (bs:=[f]) (λH o=>⟨by rw[he];rfl,o.fr⟩) gs;refine E.av (Gv _ _ _) ?_;rintro _ w2 rfl K;refine⟨_,rfl,?_⟩;show bB (ai (Go.Lib.indexByte RM _>=0)) _ _;refine aY (λC=>K.ae (bs:=[f]) (λH o=>⟨?_,o.fr⟩) gs) (λC=>K.av (yL _ _) ?_)
 .unfold eW;rw[af C];rfl
 rintro _ H rfl o;refine⟨_,rfl,bq (λM=>?_) (λM=>j3 (n:=91) io (λL:(bl s).getD i 0=91=>?_) (λL:(bl s).getD i 0≠91=>?_))⟩
 .
  have loop:∀(n j:Nat) (a:J),s.size - j<n->i<=j->j<=s.size->(∀k,i<=k->k<j->kI ((bl s).getD k 0)=true)->O F0 w a [.g f] []->∀(u v x:Int) (y:ByteArray) (z:Int),uW.cu s (i:Int) f u v x y z (j:Int) a λr a=>r=ad (Be (eW (bl s) i))/\ag w a:=by
   intro n;induction n with
   |zero=>omega
   |succ n ih=>
    intro j a hn aw hj ar I u v x y z;have done:(j<s.size->kI ((bl s).getD j 0)=false)->∀a,O F0 w a [.g f] []->uW.bC s (i:Int) f u v x y z (j:Int) a λr a=>r=ad (Be (eW (bl s) i))/\ag w a:=λan a D=>by
     refine⟨io,io,io,io,D.ae (bs:=[f]) (λl d=>⟨?_,d.fr⟩) gs⟩;have Z:((bl s).drop i).takeWhile kI=((bl s).drop i).take (j - i):=by
      refine Sm _ _ _ (by grind) (λk hk=>?_) (λe=>?_)
      .rw [W9];grind
      grind
     have Y:(((bl s).drop i).take (j - i)).length=j - i:=by grind
     have W:s.extract (aZ (i:Int)) (aZ (j:Int))=ba (((bl s).drop i).take (j - i)):=by
      have:bl (s.extract i j)=((bl s).drop i).take (j - i):=by unfold bl;rw[ByteArray.data_extract,Array.toList_extract,List.extract_eq_take_drop]
      rw[bG,bG,<-this,kZ]
     have ew:aD .i64 ((j:Int) - (i:Int))=((j - i:Nat):Int):=by rw[br _ io];omega
     rw[W,ew];unfold eW;rw[aa C,af M,Z,Y];rfl
    refine uW.dQ (aY (λe=>⟨io,_,l5 (i:=j) io,I.av (yL _ _) ?_⟩) (λe=>done (λp=>io) a I));rintro _ l rfl d;refine⟨_,rfl,bq (λt=>?_) (λt=>done (λ_=>t) l d)⟩;rw[show aD .i64 ((j:Int)+1)=((j+1:Nat):Int)by rw[br _ io];omega];refine ih (j+1) l io io io (λk h1 h2=>?_) d _ _ _ _ _
    grind
  exact loop (s.size+1) i H io (Nat.le_refl _) io (λk h1 h2=>io) o _ _ _ _ _
 .have N:¬kI ((bl s).getD i 0)=true:=by grind
  rw[show aD .i64 ((i:Int)+1)=((i+1:Nat):Int)by rw[br _ io];omega];refine o.av (Cr s (i+1) io _) ?_;rintro _ A rfl h;cases t:k0 (bl s) (i+1)with
  |none=>
   refine⟨0,0,false,rfl,aU rfl (bad A h ?_ _ _ _ _ _)⟩;unfold eW
   grind
  |some q=>
   obtain⟨lo,m⟩:=q;obtain⟨hm,az⟩:=Cm t;refine⟨lo.toNat,m,true,rfl,?_⟩;try dsimp only
   rw[show aD .i64 (((i+1:Nat):Int)+(m:Int))=((i+1+m:Nat):Int)by rw[br _ io];omega];have P:¬(i+1+m<(bl s).length/\(bl s).getD (i+1+m) 0=45)->eW (bl s) i=(⟨63,0,0,[],i⟩,1):=λe=>by
    unfold eW
    grind
   refine aW rfl (aY (λe=>bad A h (P (λp=>io)) _ _ _ _ _) (λe=>⟨io,_,l5 (i:=i+1+m) io,?_⟩));refine bq (λF=>bad A h (P (λp=>?_)) _ _ _ _ _) (λap=>?_)
   .rw [p.2]at F;grind
   have ao:(bl s).getD (i+1+m) 0=45:=by
    have T:(((bl s).getD (i+1+m) 0).toNat:Int)=45:=by grind
    have:((bl s).getD (i+1+m) 0).toNat=(45:UInt8).toNat:=by grind
    exact UInt8.toNat_inj.1 this
   rw[show aD .i64 (((i+1+m:Nat):Int)+1)=((i+1+m+1:Nat):Int)by rw[br _ io];omega];refine h.av (Cr s (i+1+m+1) io _) ?_;rintro _ l rfl d;cases ak:k0 (bl s) (i+1+m+1)with
   |none=>
    refine⟨0,0,false,rfl,aU rfl (bad l d ?_ _ _ _ _ _)⟩;unfold eW
    grind
   |some q=>
    obtain⟨G,c⟩:=q;obtain⟨ay,aB⟩:=Cm ak;refine⟨G.toNat,c,true,rfl,?_⟩;try dsimp only
    rw[show aD .i64 (((i+1+m:Nat):Int)+aD .i64 (1+(c:Int)))=((i+1+m+(1+c):Nat):Int)by rw[br (1+(c:Int)) io,br _ io];omega];have B:eW (bl s) i=if i+1+m+(1+c)<(bl s).length/\(bl s).getD (i+1+m+(1+c)) 0=93/\lo.toNat<=G.toNat then(⟨114,lo,G,[],i⟩,1+m+(1+c)+1)else(⟨63,0,0,[],i⟩,1):=by
     unfold eW
     grind
    refine aW rfl (aY (λe=>bad l d (B.trans (aa λp=>io)) _ _ _ _ _) (λe=>⟨io,_,l5 (i:=i+1+m+(1+c)) io,?_⟩));refine bq (λF=>bad l d (B.trans (aa λp=>?_)) _ _ _ _ _) (λam=>?_)
    .rw [p.2.1]at F;grind
    have ab:(bl s).getD (i+1+m+(1+c)) 0=93:=by
     have T:(((bl s).getD (i+1+m+(1+c)) 0).toNat:Int)=93:=by grind
     have:((bl s).getD (i+1+m+(1+c)) 0).toNat=(93:UInt8).toNat:=by grind
     exact UInt8.toNat_inj.1 this
    refine aY (λS=>bad l d (B.trans (aa λp=>io)) _ _ _ _ _) (λS=>d.ae (bs:=[f]) (λw6 Q=>⟨?_,Q.fr⟩) gs);rw[B,af ⟨io,ab,io⟩];rw[show aD .i64 (aD .i64 (((i+1+m+(1+c):Nat):Int)+1) - (i:Int))=((1+m+(1+c)+1:Nat):Int)by rw[br (((i+1+m+(1+c):Nat):Int)+1) io,br _ io];omega];rfl
 .have N:¬kI ((bl s).getD i 0)=true:=by grind
  refine o.av (Cr s i io _) ?_;rintro _ A rfl h;cases t:k0 (bl s) i with
  |none=>
   refine⟨0,0,false,rfl,aW rfl (bad A h ?_ _ _ _ _ _)⟩;unfold eW
   grind
  |some q=>
   obtain⟨b,n⟩:=q;refine⟨b.toNat,n,true,rfl,aU rfl (h.ae (bs:=[f]) (λl d=>⟨?_,d.fr⟩) gs)⟩;unfold eW;rw[aa C,aa N,aa L,t];rfl
structure Inv(S:SX)(m:Nat):Prop where
 lo:S.lo.length<=m
 sl:∀f∈S.lo,Small f m
 tp:Small S.tp m
 s1:S.st=1->0<=S.tp.k/\S.lo≠[]
 s2:S.st=2->0<=S.wd
def Small.mono{f:FX}{m n:Nat}(d:Small f m)(a:m<=n):Small f n:=⟨bD d.n' a,bD d.ar a,bD d.al a,bD d.an a,bD d.ca a⟩
def GF(k:Int)(m:Nat):Small (lW k) m:=⟨di _,di _,di _,di _,di _⟩
def xN{f:FX}{m:Nat}(d:Small f m)(x:Rx):Small (jq f x) m:=⟨d.n',d.ar,d.al,d.an,d.ca⟩
def D6{t:Tk}{S j:SX}{m:Nat}(c:S.lo.length<=m)(b:∀f∈S.lo,Small f (m+1))(a:Small S.tp (m+1))(d:S.tp.n<=m)(e:fU t S=some j):Inv j (m+1):=by
 have k:∀f∈S.lo++[S.tp],Small f (m+1):=λf g=>by grind
 unfold fU at e;split at e
 .cases e;exact⟨by grind,b,⟨by grind,a.ar,a.al,a.an,a.ca⟩,λh=>(by grind),λh=>(by grind)⟩
 .split at e
  .cases e;exact⟨by grind,k,GF _ _,λh=>(by grind),λh=>(by grind)⟩
  .split at e
   .cases e;exact⟨by grind,b,xN a _,λh=>(by grind),λh=>(by grind)⟩
   .split at e
    .split at e
     .cases e;exact⟨by grind,b,xN a _,λh=>(by grind),λh=>(by grind)⟩
     .split at e
      .cases e;exact⟨by grind,b,xN a _,λh=>(by grind),λh=>(by grind)⟩
      .split at e
       .cases e;exact⟨by grind,b,a,λh=>(by grind),λ_=>by grind⟩
       .split at e
        .cases e;exact⟨by grind,b,a,λh=>(by grind),λ_=>by grind⟩
        .split at e
         .cases e;exact⟨by grind,b,a,λh=>(by grind),λ_=>by grind⟩
         grind
    grind
def Jd{S h:SX}{l:List Rx}{m:Nat}(b:Inv S m)(e:my S l=some h):Inv h (m+1):=by
 unfold my at e;rcases r0 S.lo with d|⟨a,g,d⟩
 .grind
 .rw [d]at e;simp at e;subst e;have j:=b.lo;rw[d]at j;simp at j;exact⟨by grind,λf c=>(b.sl f (by grind)).mono io,xN ((b.sl g (by grind)).mono io) _,λd=>(by grind),λd=>(by grind)⟩
def Dz{z:Sl}{t:Tk}{S w:SX}{m:Nat}(a:Inv S m)(d:fT z t S=some w):Inv w (m+1):=by
 have q:=a.lo;have j:∀f∈S.lo,Small f (m+1):=λf b=>(a.sl f b).mono io;have h:Small S.tp (m+1):=a.tp.mono io;have x:=a.tp.n';unfold fT at d;split at d
 .rename_i k;split at d
  .cases d;refine⟨by grind,λf b=>?_,GF _ _,λ_=>⟨a.s2 k,gs⟩,λe=>(by grind)⟩
   grind
  grind
 .rename_i k;split at d
  .split at d
   .exact Jd a d
   .exact D6 q j h x d
  .rename_i y;split at d
   .exact D6 q j h x d
   .split at d
    .cases d;exact⟨by grind,j,xN h _,λe=>absurd e y,λe=>absurd e k⟩
    .split at d
     .cases d;refine⟨by grind,j,⟨di _,h.ar,h.al,?_,di _⟩,λe=>(by grind),λe=>(by grind)⟩;have:=a.tp.an;show(S.tp.an++[_]).length<=_
      grind
     .split at d
      .cases d;refine⟨by grind,j,⟨di _,h.ar,?_,di _,di _⟩,λe=>(by grind),λe=>(by grind)⟩;have:=a.tp.al;show(S.tp.al++[_]).length<=_
       grind
      .split at d
       .split at d
        .cases d
        .cases d;refine⟨by grind,j,⟨di _,?_,di _,di _,di _⟩,λe=>(by grind),λe=>(by grind)⟩;have:=a.tp.ar;show(S.tp.ar.2++[_]).length<=_
         grind
       .split at d
        .split at d
         .cases d
         .exact Jd a d
        .split at d
         .split at d
          .cases d;exact⟨io,j,h,a.s1,a.s2⟩
          grind
         .refine D6 (S:=⟨S.lo,lQ S.tp,S.st,S.wd⟩) q j ⟨di _,h.ar,h.al,h.an,?_⟩ (di _) d;have:=a.tp.ca;show(S.tp.ca++[_]).length<=_
          grind
def Wu{d:Sl}{t:Tk}{S:SX}(e:t.k=63):fT d t S=none:=by
 have it:∀S,fU t S=none:=λS=>by
  unfold fU
  grind
 unfold fT
 grind
def j2(l:List UInt8):Nat->Nat->List Tk
 |0,_=>[]
 |n+1,i=>if i<l.length then(if l.getD i 0=32 then j2 l n (i+1)else(eW l i).1::j2 l n (i+(eW l i).2))else[⟨36,0,0,[],l.length⟩]
def qV:List Tk->SX->Int⊕SX->Prop
 |[],d,r=>r=.inr d
 |t::j,d,r=>∃h,(fT h t d=none/\r=.inl t.a)\/∃e,fT h t d=some e/\qV j e r
def SN{l:List UInt8}{i:Nat}(a:i<l.length):1<=(eW l i).2/\i+(eW l i).2<=l.length:=by
 unfold eW;split
 .omega
 .split
  .rename_i e;have d:(l.drop i)=l.getD i 0::l.drop (i+1):=by rw[List.drop_eq_getElem_cons a,List.getD_eq_getElem?_getD,a0 a];rfl
   have j:1<=((l.drop i).takeWhile kI).length:=by rw[d,List.takeWhile_cons,af e];simp
   have k:((l.drop i).takeWhile kI).length<=(l.drop i).length:=(List.takeWhile_prefix (p:=kI) (l:=l.drop i)).length_le
   grind
  .split
   .grind
   .split
    .rename_i h;have:=Cm h;omega
    omega
abbrev G4(t:Tk):List V:=[.int .u8 (t.k.toNat:Int),.int .u8 (t.lo.toNat:Int),.int .u8 (t.hi.toNat:Int),.string (ba t.s),.int .i64 t.a]
def we:En:=⟨[],λ_=>True,λ_ _ _ d=>d,λ_ _ b a=>by grind,gs⟩
abbrev m9(d e f D b a:Nat)(s:ByteArray)(g i:V)(o:Obj):List En:=[.c d [.int .i64 0,.int .u8 0,.int .u8 0,.slice none 0 0] aV,.c e [g] bA,.c f [i] ha,.ob D (.deferred (some [])),.ob b o,.c a [.string s] fD]
def PS(i w:J)(j:Nat)(G:List En)(S:SX):Prop:=∃(e:Sl) (c:List FM) (f:FM) (d:List I) (p:Addr),c.map FM.x=S.lo/\f.x=S.tp/\(∀g∈c++[f],∀t∈g.ts,t∈d)/\e.a=some p/\(∀b∈I.bd d,i.heap.size<=b)/\SF F0 i w j e S.st S.wd c f G d
def PE(g w:J)(b:Nat)(G:List En):Prop:=∃(c:Sl) (a:List FM) (f:FM) (e:List I) (d i:Int),SF F0 g w b c d i a f G e
section
variable {s:ByteArray} {w0:J} {rb t2 t3 t4 D l_ bs:Nat} {o_:eK->Option Code->Obj}
abbrev Hs(s:ByteArray)(n o p q f l:Nat)(k:eK->Option Code->Obj):Prop:=
 ∀(a b c:Int) (d:ByteArray) (e:Int) (g:J) (i:Bool->J->Prop),g.heap[f]? =some (k .ready none)->Gb.qN f k s (ab o) (ab p) (ab q) (ab n) (ab l) a b c d e g (λm r=>∃h:Bool,m=ad (.bool h)/\i h r)->W.oB U f #[.agg #[.int .u8 a,.int .u8 b,.int .u8 c,.string d,.int .i64 e]] g i
def Pu(Q:Hs s rb t2 t3 t4 l_ bs o_){S:SX}{m:Nat}(i:Inv S m)(hm:m<=900000)(t:Tk){e:En}{w:J}(H:PS w0 w rb (m9 t2 t3 t4 D l_ bs s (.int .i64 0) (.int .i64 0) (o_ .ready none)++[e]) S){K:Bool->J->Prop}(j:∀k h,fT h t S=none->PE w0 k rb (m9 t2 t3 t4 D l_ bs s (.int .i64 t.a) (.int .i64 2) (o_ .done (some .ret))++[e])->K false k)(l:∀k h A,fT h t S=some A->PS w0 k rb (m9 t2 t3 t4 D l_ bs s (.int .i64 0) (.int .i64 0) (o_ .ready none)++[e]) A->K true k):W.oB U l_ #[t.v] w K:=by
 obtain⟨lo,ag,st,wd⟩:=S;obtain⟨sl,C,f,ts,p,q,y,M,O,hb,H⟩:=H;have q:C.map FM.x=lo:=q;have y:f.x=ag:=y;subst q y;refine Q _ _ _ _ _ w K (H.ob 7) ?_;refine H.nw λw1 _ o=>o.RY 10 rfl λw2 aa=>aa.pu 7 rfl λw3 d=>⟨_,_,_,_,_,d.ld 10 0,d.ld 10 1,d.ld 10 2,d.ld 10 3,d.ld 10 4,?_⟩;have L:SF F0 w0 w3 rb sl st wd C f (m9 t2 t3 t4 D l_ bs s (.int .i64 0) (.int .i64 0) (o_ .busy none)++[e,.c w.heap.size (G4 t) oA]) ts:=d;refine L.yV M O (λab ac=>UT ac (bD i.lo io) (i.tp.mono io) i.s1 t) ?_;rintro r w4 G E B p4 ae ah I an N P b4 ⟨h,Z⟩ z;rcases Z with⟨T,rfl⟩|⟨Y,rfl⟩
 .refine ⟨false,rfl,aU rfl ?_⟩;refine z.dr λn g=>⟨t.a,g.ld 10 4,g.kM 3 rfl λw6 F=>⟨F.ld 10 4,F.e7 4 rfl λw7 u=>u.e7 5 rfl λw8 ak=>ak.pu 7 rfl λw9 am=>⟨false,rfl,j w9 h T ⟨G,E,B,I,ae,ah,?_⟩⟩⟩⟩;exact am.take 10
 .refine ⟨true,rfl,aW rfl (z.pu 7 rfl λn g=>⟨true,rfl,l n h _ Y ⟨G,E,B,I,p4,rfl,rfl,N,P,λb af=>?_,g.take 10⟩⟩)⟩
  grind
def TF(k:J)(e f g i D c b:Nat)(s:ByteArray)(d:eK->Option Code->Obj)(j:J):Int⊕SX->Prop
 |.inl a=>PE k j e (m9 f g i D c b s (.int .i64 a) (.int .i64 2) (d .done (some .ret)))
 |.inr h=>PS k j e (m9 f g i D c b s (.int .i64 0) (.int .i64 0) (d .ready none)) h
def ZT(hs:s.size<=4096)(z:Hs s rb t2 t3 t4 l_ bs o_)(R:aB):∀(n i m:Nat) (S:SX) (w:J),s.size - i<n->i<=s.size->Inv S m->m+n<=900000->
  PS w0 w rb (m9 t2 t3 t4 D l_ bs s (.int .i64 0) (.int .i64 0) (o_ .ready none)) S->
  (∀t g,qV (j2 (bl s) n i) S g->TF w0 rb t2 t3 t4 D l_ bs s o_ t g->R (ad (.tuple #[])) t)->Az.L0 l_ (ab bs) (i:Int) w R:=by
 intro n;induction n with
 |zero=>omega
 |succ n ih=>
  intro i m S w hn hi F hm hP q;have hl:(bl s).length=s.size:=cZ s;have ak:=hP;obtain⟨sl,K,f,W,p,ac,ae,h3,h4,G,C⟩:=ak;refine Az.cr _ _ _ _ _ ⟨s,C.cA 8,aY (λah=>⟨s,C.cA 8,io,_,l5 (i:=i) io,j3 (n:=32) io (λhc:(bl s).getD i 0=32=>?_) (λhc:(bl s).getD i 0≠32=>⟨s,C.cA 8,C.call (Vn s io i io w) ?_⟩)⟩) (λah=>⟨s,C.cA 8,?_⟩)⟩
  .rw [show aD .i64 ((i:Int)+1)=((i+1:Nat):Int)by rw[br _ io];omega];refine ih (i+1) m S w io io F io hP (λt g hr Z=>q t g ?_ Z);unfold j2
   grind
  .rintro _ w1 rfl H;have am:=SN (l:=bl s) (i:=i) io;have I:j2 (bl s) (n+1) i=(eW (bl s) i).1::j2 (bl s) n (i+(eW (bl s) i).2):=by rw[j2,af io,aa hc]
   rw[I]at q;refine⟨_,_,_,_,_,_,rfl,H.nw λw2 _ H2=>H2.RY 9 rfl λw7 r=>⟨_,_,_,_,_,r.ld 9 0,r.ld 9 1,r.ld 9 2,r.ld 9 3,r.ld 9 4,?_⟩⟩;have ag:SF F0 w0 w7 rb sl S.st S.wd K f (m9 t2 t3 t4 D l_ bs s (.int .i64 0) (.int .i64 0) (o_ .ready none)++[.c w1.heap.size (G4 (eW (bl s) i).1) oA]) W:=r;refine Pu z F io (eW (bl s) i).1 (e:=.c w1.heap.size (G4 (eW (bl s) i).1) oA) ⟨sl,K,f,W,p,ac,ae,h3,h4,G,ag⟩ (λy o v x=>aU rfl (q y (.inl (eW (bl s) i).1.a) ⟨o,.inl ⟨v,rfl⟩⟩ ?_)) (λy o u E x=>aW rfl ?_)
   .obtain ⟨A,j,h,B,T,Y,d⟩:=x;exact⟨A,j,h,B,T,Y,d.take 9⟩
   .obtain ⟨A,j,h,B,Q,O,P,L,M,N,d⟩:=x;refine⟨_,d.ld 9 0,j3 (n:=63) io (λhk:(eW (bl s) i).1.k=63=>?_) (λhk=>?_)⟩
    .rw [Wu hk]at E;grind
    .rw [show aD .i64 ((i:Int)+((eW (bl s) i).2:Int))=((i+(eW (bl s) i).2:Nat):Int)by rw[br _ io];omega];refine ih (i+(eW (bl s) i).2) (m+1) u y io io (Dz F E) io ⟨A,j,h,B,Q,O,P,L,M,N,d.take 9⟩ (λt g hr Z=>q t g ⟨o,.inr ⟨u,E,hr⟩⟩ Z)
  .have I:j2 (bl s) (n+1) i=[⟨36,0,0,[],(bl s).length⟩]:=by rw[j2,aa io]
   rw[I,hl]at q;have H:=C.push we (Fr.refl _ _) trivial (λb G=>by cases G);refine Pu z F io ⟨36,0,0,[],(s.size:Int)⟩ (e:=we) ⟨sl,K,f,W,p,ac,ae,h3,h4,G,H⟩ (λy o v x=>q y (.inl (s.size:Int)) ⟨o,.inl ⟨v,rfl⟩⟩ ?_) (λy o u E x=>q y (.inr u) ⟨o,.inr ⟨u,E,rfl⟩⟩ ?_)
   .obtain ⟨A,j,h,B,T,Y,d⟩:=x;exact⟨A,j,h,B,T,Y,d.take 9⟩
   .obtain ⟨A,j,h,B,Q,O,P,L,M,N,d⟩:=x;exact⟨A,j,h,B,Q,O,P,L,M,N,d.take 9⟩
end
def sj:∀(a b:List Rx),Rx.a3 (a++b)=Rx.a3 a+Rx.a3 b
 |[],b=>by simp[Rx.a3]
 |d::a,b=>by have:=sj a b;show d.sz+Rx.a3 (a++b)=(d.sz+Rx.a3 a)+Rx.a3 b;omega
def sC(x:Rx):Rx.a3 [x]=x.sz:=by simp[Rx.a3]
def FH(k:Int)(l:List Rx):(ph k l).sz<=1+Rx.a3 l:=by
 unfold ph;split
 .rw [sC];omega
 .unfold Rx.sz;omega
def Fw:∀(n:Nat) (r:Rx),(lX n r).sz=n+r.sz
 |0,r=>by unfold lX;omega
 |n+1,r=>by unfold lX;rw[Fw n];unfold Rx.sz;rw[sC];cases r;simp only[Rx.sz];omega
def fz(f:FX):Nat:=Rx.a3 f.ar.2+Rx.a3 f.al+Rx.a3 f.an+Rx.a3 f.ca+f.n
def lz:List FX->Nat
 |[]=>0
 |f::l=>fz f+lz l
def zB:∀(a b:List FX),lz (a++b)=lz a+lz b
 |[],b=>by simp[lz]
 |d::a,b=>by have:=zB a b;show fz d+lz (a++b)=(fz d+lz a)+lz b;omega
def pz(S:SX):Nat:=lz S.lo+fz S.tp+(if S.st=0\/S.st=1\/S.st=2 then 0 else S.tp.la.sz)
def FZ(S:SX):pz S<=lz S.lo+fz S.tp+S.tp.la.sz:=by unfold pz;grind
def aad(S:SX):lz S.lo+fz S.tp<=pz S:=by unfold pz;omega
def pw{S:SX}(d:S.st=0\/S.st=1\/S.st=2):pz S=lz S.lo+fz S.tp:=by unfold pz;grind
def Qf{S:SX}(d:¬(S.st=0\/S.st=1\/S.st=2)):pz S=lz S.lo+fz S.tp+S.tp.la.sz:=by unfold pz;grind
def Xz(f:FX):fz (lQ f)=fz f+f.la.sz:=by unfold fz lQ;simp only[sj,sC,Fw];omega
def Ry(f:FX):fz (k5 f)<=fz f+f.la.sz+1:=by have d:=FH 3 (f.ca++[lX f.n f.la]);simp only[sj,sC,Fw]at d;show Rx.a3 f.ar.2+Rx.a3 f.al+Rx.a3 (f.an++[ph 3 (f.ca++[lX f.n f.la])])+Rx.a3 []+0<=_;unfold fz;simp only[sj,Rx.a3];omega
def Jp(f:FX):Rx.a3 f.ar.2+Rx.a3 (k4 f).al<=fz f+f.la.sz+2:=by have e:=FH 5 (k5 f).an;have h:=Ry f;have d:fz (k5 f)=Rx.a3 f.ar.2+Rx.a3 f.al+Rx.a3 (k5 f).an+0+0:=rfl;show Rx.a3 f.ar.2+Rx.a3 (f.al++[ph 5 (k5 f).an])<=_;simp only[sj,sC];omega
def VU(f:FX):fz (k4 f)<=fz f+f.la.sz+2:=by have:=Jp f;show Rx.a3 f.ar.2+Rx.a3 (k4 f).al+Rx.a3 []+Rx.a3 []+0<=_;simp only[Rx.a3];omega
def Dy(f:FX):Rx.a3 f.ar.2+(cG f).sz<=fz f+f.la.sz+3:=by have d:=FH 4 (k4 f).al;have:=Jp f;show _+(ph 4 (k4 f).al).sz<=_;omega
def D7{t:Tk}{S e:SX}(d:fU t S=some e):pz e<=lz S.lo+fz S.tp+1:=by
 have leaf:∀(k:Int) (a b:UInt8),(Rx.mk k a b []).sz=1:=λk a b=>by unfold Rx.sz;simp[Rx.a3]
 unfold fU at d;split at d
 .cases d;rw[pw (.inl rfl)];show lz S.lo+(Rx.a3 S.tp.ar.2+Rx.a3 S.tp.al+Rx.a3 S.tp.an+Rx.a3 S.tp.ca+(S.tp.n+1))<=_;unfold fz;omega
 .split at d
  .cases d;rw[pw (.inl rfl)];show lz (S.lo++[S.tp])+fz (lW (-1))<=_;rw[zB];have:fz (lW (-1))=0:=rfl;simp only[lz];omega
  .have h:∀(k:Int) (a b:UInt8),pz ⟨S.lo,jq S.tp (.mk k a b []),3,S.wd⟩<=lz S.lo+fz S.tp+1:=λk a b=>by
    refine bD (FZ _) ?_;show lz S.lo+fz S.tp+(Rx.mk k a b []).sz<=_
    grind
   split at d
   .grind
   .split at d
    .split at d
     .grind
     .split at d
      .grind
      .split at d
       .cases d;rw[pw (.inr (.inr rfl))];grind
       .split at d
        .cases d;rw[pw (.inr (.inr rfl))];grind
        .split at d
         .cases d;rw[pw (.inr (.inr rfl))];grind
         grind
    grind
def Je{S e:SX}{l:List Rx}(d:my S l=some e):pz e<=lz S.lo+Rx.a3 l+1:=by
 unfold my at d;rcases r0 S.lo with h|⟨a,g,h⟩
 .grind
 .rw [h]at d ⊢;simp at d;subst d;refine bD (FZ _) ?_;show lz a+fz g+(np S.tp.k l).sz<=_;rw[zB];have:(np S.tp.k l).sz<=Rx.a3 l+1:=by
   unfold np;split
   .cases l with
    |nil=>exact(by show fK.sz<=_;unfold fK Rx.sz;omega)
    |cons j l=>show j.sz<=_;unfold Rx.a3;omega
   .unfold Rx.sz;omega
  simp only[lz];omega
def Ww{j:Sl}{t:Tk}{S e:SX}(d:fT j t S=some e):pz e<=pz S+4:=by
 have x:=aad S;unfold fT at d;split at d
 .split at d
  .cases d;rw[pw (.inr (.inl rfl))];show lz (S.lo++[S.tp])+fz (lW S.wd)<=_;rw[zB];have:fz (lW S.wd)=0:=rfl;simp only[lz];omega
  grind
 .rename_i w;split at d
  .split at d
   .have:=Je d;simp only[Rx.a3]at this;omega
   .have:=D7 d;omega
  .rename_i q;split at d
   .have:=D7 d;omega
   .rename_i k;have y:=Qf (S:=S) io;split at d
    .cases d;refine bD (FZ _) ?_;show lz S.lo+fz S.tp+(Rx.mk 7 0 0 [S.tp.la]).sz<=_;have:(Rx.mk 7 0 0 [S.tp.la]).sz=1+S.tp.la.sz:=by show 1+Rx.a3 [S.tp.la]=_;rw[sC]
     omega
    .split at d
     .cases d;rw[pw (.inl rfl)];show lz S.lo+fz (k5 S.tp)<=_;have:=Ry S.tp;omega
     .split at d
      .cases d;rw[pw (.inl rfl)];show lz S.lo+fz (k4 S.tp)<=_;have:=VU S.tp;omega
      .split at d
       .split at d
        .cases d
        .cases d;rw[pw (.inl rfl)];show lz S.lo+(Rx.a3 (S.tp.ar.2++[cG S.tp])+Rx.a3 []+Rx.a3 []+Rx.a3 []+0)<=_;have:=Dy S.tp;simp only[sj,Rx.a3];omega
       .split at d
        .split at d
         .cases d
         .have h:=Je d;have:=Dy S.tp;simp only[sj,sC]at h;omega
        .split at d
         .grind
         .have h:=D7 d;have:=Xz S.tp
          grind
def Wv{h:Sl}{a:Int}{S d:SX}(e:fT h ⟨36,0,0,[],a⟩ S=some d):d=S/\¬(S.st=0\/S.st=1\/S.st=2):=by
 have it:∀S,fU ⟨36,0,0,[],a⟩ S=none:=λS=>rfl;unfold fT at e
 grind
def Gt(l:List UInt8):∀(n i:Nat) (S a:SX),l.length - i<n->qV (j2 l n i) S (.inr a)->(cG a.tp).sz<=pz S+4 *n+4
 |0,i,S,a,y,_=>io
 |n+1,i,S,a,y,d=>by
  unfold j2 at d;split at d
  .split at d
   .have:=Gt l n (i+1) S a io d;omega
   .rename_i z _;have B:=SN z;obtain⟨A,⟨_,k⟩|⟨e,h,j⟩⟩:=d
    .cases k
    .have:=Gt l n (i+(eW l i).2) e a io j;have:=Ww h;omega
  .obtain ⟨A,⟨_,k⟩|⟨e,h,j⟩⟩:=d
   .cases k
   .have q:a=e:=by have:Sum.inr a=(Sum.inr e:Int⊕SX):=j;grind
    obtain⟨w,x⟩:=Wv h;subst q w;have:=Qf x;have:=Dy a.tp;omega
def Ym{M:Nat->Prop}{w0 w:J}{L D:List En}(H:O M w0 w L D)(is d:List Nat)(j:is.Perm d)(i:d.map (λh=>L.getD h we)=L):O M w0 w (is.map λh=>L.getD h we) D:=by
 have k:(is.map λh=>L.getD h we).Perm L:=by grind
 exact⟨H.fr,λe a=>H.own e (k.mem_iff.1 a),H.rd,λe a=>H.new e (k.mem_iff.1 a),((k.flatMap_right _).nodup_iff).2 H.nd,λe a b g f c=>H.dj e a b g f (k.mem_iff.1 c)⟩
def aax{d:J}{l:Nat}{o:eK->Option Code->Obj}{N:J->Prop}{X:Nat->J->Prop}{T:J->Prop}(e:hv d l (o .ready none) (o .exhausted none) N):qU d l o N X T:=.inl e
def aay{d:J}{l:Nat}{o:eK->Option Code->Obj}{N:J->Prop}{X:Nat->J->Prop}{T:J->Prop}(e:hv d l (o .done (some .ret)) (o .exhausted (some .ret)) T):qU d l o N X T:=.inr (.inr e)
def Lr{b:Nat}(d:b∈I.bd [.mk 0 0 0 ⟨none,0,0⟩ []]):False:=by
 have:=zl (ts:=[]) (k:=0) (lo:=0) (hi:=0) (b:=b) d;unfold I.bd at this
 grind
def vh:SX:=⟨[],lW (-1),0,0⟩
def KZ:Inv vh 0:=by
 refine⟨Nat.le_refl _,λf a=>?_,GF _ _,λd=>?_,λd=>?_⟩
 .cases a
 .have:(0:Int)=1:=d;omega
 .have:(0:Int)=2:=d;omega
def Gr(l:List UInt8):∀(n i m:Nat) (S c:SX),Inv S m->qV (j2 l n i) S (.inr c)->Inv c (m+n)
 |0,i,m,S,c,h,d=>by
  have z:(Sum.inr c:Int⊕SX)=.inr S:=d
  grind
 |n+1,i,m,S,c,h,d=>by
  have y:∀{S:SX} {a b:Nat},Inv S a->a<=b->Inv S b:=λe k=>⟨bD e.lo k,λf g=>(e.sl f g).mono k,e.tp.mono k,e.s1,e.s2⟩;unfold j2 at d;split at d
  .split at d
   .exact y (Gr l n _ m S c h d) io
   .obtain ⟨A,⟨_,x⟩|⟨j,q,w⟩⟩:=d
    .cases x
    .exact y (Gr l n _ (m+1) j c (Dz h q) w) io
  .obtain ⟨A,⟨_,x⟩|⟨j,q,w⟩⟩:=d
   .cases x
   .have z:(Sum.inr c:Int⊕SX)=.inr j:=w;cases z;exact y (Dz h q) io
def TG(w:J)(s:ByteArray):aB:=λr c=>ag w c/\
 ((4096<s.size/\r=ad (.tuple #[.agg #[.int .i64 0,.int .u8 0,.int .u8 0,.slice none 0 0],.int .i64 4096,.int .i64 4]))\/
  (s.size<=4096/\∃res,qV (j2 (bl s) (s.size+1) 0) vh res/\((∃a,res=.inl a/\r=ad (.tuple #[.agg #[.int .i64 0,.int .u8 0,.int .u8 0,.slice none 0 0],.int .i64 a,.int .i64 2]))\/
   ∃d,res=.inr d/\((64<(cG d.tp).sz/\r=ad (.tuple #[.agg #[.int .i64 0,.int .u8 0,.int .u8 0,.slice none 0 0],.int .i64 (s.size:Int),.int .i64 4]))\/
    ((cG d.tp).sz<=64/\∃t:I,r=ad (.tuple #[t.v,.int .i64 0,.int .i64 0])/\t.rx=cG d.tp/\t.P c/\∀b∈t.fp,w.heap.size<=b)))))
def Iu(s:ByteArray)(w:J):aj U NJ #[.string s] w (TG w s):=by
 refine Gb.ok _ w _ ((bT [] (λ_ h=>by cases h)).nw λG _ H1=>H1.nw λH _ H2=>H2.nw λw3 _ W=>aY (λh=>?_) (λh=>?_))
 .refine W.kM 0 rfl λw4 H4=>H4.e7 1 rfl λw5 M=>M.e7 2 rfl λw6 o=>⟨_,_,_,⟨none,0,0⟩,o.ld 0 0,o.ld 0 1,o.ld 0 2,o.ld 0 3,_,o.cA 1,_,o.cA 2,o.fr,.inl ⟨io,rfl⟩⟩
 have E:s.size<=4096:=io
 have hl:(bl s).length=s.size:=cZ s;refine W.e3 (e:=iK) (sz:=10) (n:=1) (cs:=(jB (-1)).c) rfl dl λK al=>al.nw λar _ N=>?_;refine N.e7 4 rfl λau k=>k.st 4 1 rfl λai v=>v.st 4 2 rfl λm A=>?_;refine QS.ok (A.nw λi _ j=>⟨_,rfl,?_⟩);show ∀x:eK->Option Code->Obj,_;intro x hY;have e1:(i.alloc (.deferred (some []))).heap.size=i.heap.size+1:=size_alloc _ _;have Z:=(j.alloc (.deferred (some []))).alloc (x .ready none);rw[e1]at Z;have hP:(En.rows (([]++[jB (-1)]:List FM).flatMap FM.rows)).P ((i.alloc (.deferred (some []))).alloc (x .ready none)):=by refine⟨λap C=>?_,dl⟩;have C:ap∈[((⟨none,0,0⟩,[]):eb),(⟨none,0,0⟩,[]),(⟨none,0,0⟩,[]),(⟨none,0,0⟩,[])]:=C;simp only[aF,a5,a9,or_self]at C;subst C;exact aL.nil _ _ _
 have Ha:=(Z.push (.rows (([]++[jB (-1)]:List FM).flatMap FM.rows)) (Fr.refl _ _) hP (λb l=>by
  have l:=a7.1 l;have l:b∈([]:List Nat):=l;cases l)).ec (.trees [.mk 0 0 0 ⟨none,0,0⟩ []]) (Fr.refl _ _) (I.jD λt F=>by
   simp at F;subst F;show I.P _ _;unfold I.P I.Ps;exact⟨bo.nil 4 _,trivial⟩) (λb l=>by exact(Lr (a7.1 l)).elim)
 have Hb:=Ym Ha [4,3,8,0,1,2,6,7,5] [0,1,2,3,4,5,6,7,8] dl rfl;have HS:SF F0 w ((i.alloc (.deferred (some []))).alloc (x .ready none)) K.heap.size ⟨some (ab w3.heap.size),1,1⟩ 0 0 [] (jB (-1)) (m9 w.heap.size G.heap.size H.heap.size i.heap.size (i.heap.size+1) m.heap.size s (.int .i64 0) (.int .i64 0) (x .ready none)) [.mk 0 0 0 ⟨none,0,0⟩ []]:=Hb;refine Az.ok _ _ _ _ (ZT (w0:=w) (rb:=K.heap.size) (t2:=w.heap.size) (t3:=G.heap.size) (t4:=H.heap.size) (D:=i.heap.size) (l_:=i.heap.size+1) (bs:=m.heap.size) E hY _ (s.size+1) 0 0 vh _ io io KZ io
  ⟨_,[],jB (-1),_,_,rfl,rfl,λg hg t F=>?_,rfl,λb l=>?_,HS⟩ (λw' aq z he=>⟨⟨_,rfl⟩,?_⟩))
 .simp at hg;subst hg;simpa[FM.ts,jB]using F
 .exact (Lr l).elim
 cases aq with
 |inl a=>
  obtain⟨sl,B,f,T,st,aM,L⟩:=he;refine aay (L.pu 7 rfl λar N=>N.pu 6 rfl λi j=>⟨_,_,_,⟨none,0,0⟩,j.ld 3 0,j.ld 3 1,j.ld 3 2,j.ld 3 3,_,j.cA 4,_,j.cA 5,j.fr,.inr ⟨E,_,z,.inl ⟨a,rfl,rfl⟩⟩⟩)
 |inr q=>
  obtain⟨sl,B,f,T,p,am,ae,h3,h4,l,L⟩:=he;have hI:=Gr _ _ _ _ _ _ KZ z;have ao:=Gt _ _ _ _ _ io z;rw[show pz vh=0 from rfl]at ao;have ak:B.length<=1000000:=by have:=hI.lo;rw[<-am]at this;simp at this;omega
  refine aax (L.pu 7 rfl λw5 M=>?_);have Y:SF F0 w w5 K.heap.size sl q.st q.wd B f (m9 w.heap.size G.heap.size H.heap.size i.heap.size (i.heap.size+1) m.heap.size s (.int .i64 0) (.int .i64 0) (x .exhausted none)) T:=M;refine Y.call (yM Y h4 ak) ?_;rintro _ w6 rfl o;have ag:SF F0 w w6 K.heap.size sl q.st q.wd B f (m9 w.heap.size G.heap.size H.heap.size i.heap.size (i.heap.size+1) m.heap.size s (.int .i64 0) (.int .i64 0) (x .exhausted none)) T:=o;refine⟨_,rfl,ag.yV h3 h4 (λbf s1=>yJ s1 (by rw[ae];exact hI.tp.mono io)) ?_⟩;rintro r w7 aH aw f3 p3 aI aN af aJ ax ay ah ⟨aC,az,aB,rfl,rfl,u,Q,rfl,S⟩ H7;rw[ae]at S;have aG:u.sz=(cG q.tp).sz:=by rw[<-S,I.ek]
  refine⟨_,_,_,u.s,rfl,H7.nw λw8 _ H8=>H8.kM 9 rfl λw9 y=>⟨_,_,_,u.s,y.ld 9 0,y.ld 9 1,y.ld 9 2,y.ld 9 3,y.call (CD u w9 io ((show I.Ps w9 af from y.getD 0).mem Q)) ?_⟩⟩;rintro _ au rfl k;refine⟨_,rfl,aY (λbe=>?_) (λbi=>?_)⟩
  .refine k.kM 3 rfl λai v=>v.e7 4 rfl λm A=>A.e7 5 rfl λav O=>O.pu 6 rfl λaa d=>⟨_,_,_,⟨none,0,0⟩,d.ld 3 0,d.ld 3 1,d.ld 3 2,d.ld 3 3,_,d.cA 4,_,d.cA 5,d.fr,.inr ⟨E,_,z,.inr ⟨q,rfl,.inl ⟨io,rfl⟩⟩⟩⟩
  .refine ⟨_,_,_,u.s,k.ld 9 0,k.ld 9 1,k.ld 9 2,k.ld 9 3,k.kM 3 rfl λai v=>v.e7 4 rfl λm A=>A.e7 5 rfl λav O=>O.pu 6 rfl λaa d=>⟨_,_,_,u.s,d.ld 3 0,d.ld 3 1,d.ld 3 2,d.ld 3 3,_,d.cA 4,_,d.cA 5,d.fr,.inr ⟨E,_,z,.inr ⟨q,rfl,.inr ⟨io,u,rfl,S,(show I.Ps aa af from d.getD 0).mem Q,λb an=>?_⟩⟩⟩⟩⟩;rcases ah b (I.bS.2 ⟨u,Q,an⟩)with h|h|h
   .exact l b h
   .exact h
   .exact h.elim
def Hm:Sl:=⟨none,0,0⟩
def er(f:FX):FX:=⟨f.k,(Hm,f.ar.2),f.al,f.an,f.ca,f.n,f.la⟩
def fb(S:SX):SX:=⟨S.lo.map er,er S.tp,S.st,S.wd⟩
def D5(t:Tk)(S:SX):(fU t S).map fb=fU t (fb S):=by
 have d:er (lW (-1))=lW (-1):=rfl;have e:(S.lo++[S.tp]).map er=S.lo.map er++[er S.tp]:=gs
 unfold fU;split
 .rfl
 .split
  .simp only[Option.map_some,fb,d,e]
  .split
   .rfl
   .split
    .split
     .rfl
     .split
      .rfl
      .split
       .rfl
       .split
        .rfl
        .split<;>rfl
    .rfl
def Jc(S:SX)(l:List Rx):(my S l).map fb=my (fb S) l:=by
 unfold my;rcases r0 S.lo with d|⟨a,g,d⟩
 .simp [d,fb]
 .have e:(fb S).lo=a.map er++[er g]:=by simp[fb,d]
  rw[d,e];simp[fb];rfl
def Km(a:Sl)(t:Tk)(S:SX):(fT a t S).map fb=fT Hm t (fb S):=by
 have q:(S.lo++[S.tp]).map er=S.lo.map er++[er S.tp]:=gs
 have h:(fb S).st=S.st:=rfl;have j:(fb S).tp.k=S.tp.k:=rfl;unfold fT;rw[h,j];by_cases e:S.st=2
 .rw [af e,af e];split
  .show some (fb ⟨S.lo++[S.tp],lW S.wd,1,S.wd⟩)=some ⟨S.lo.map er++[er S.tp],lW S.wd,1,S.wd⟩;rw[<-q];rfl
  .rfl
 rw[aa e,aa e];split
 .split
  .exact Jc S []
  .exact D5 t S
 .split
  .exact D5 t S
  .split
   .rfl
   .split
    .rfl
    .split
     .rfl
     .split
      .split<;>rfl
      .split
       .by_cases d:S.lo=[]
        .rw [af d,af (show(fb S).lo=[]by simp[fb,d])];rfl
        .rw [aa d,aa (show ¬(fb S).lo=[]by simp[fb,d])];exact Jc S _
       .split
        .by_cases d:S.lo=[]
         .rw [af d,af (show(fb S).lo=[]by simp[fb,d])];rfl
         .rw [aa d,aa (show ¬(fb S).lo=[]by simp[fb,d])];rfl
        .exact D5 t ⟨S.lo,lQ S.tp,S.st,S.wd⟩
def xC:List Tk->SX->Int⊕SX
 |[],d=>.inr d
 |t::h,d=>match fT Hm t d with
  |none=>.inl t.a
  |some e=>xC h e
def J':Int⊕SX->Int⊕SX
 |.inl a=>.inl a
 |.inr d=>.inr (fb d)
def Rj:∀(a:List Tk) (S:SX) (r:Int⊕SX),qV a S r->J' r=xC a (fb S)
 |[],S,r,d=>by have d:r=.inr S:=d;subst d;rfl
 |t::a,S,r,d=>by
  obtain⟨j,⟨e,h⟩|⟨k,e,h⟩⟩:=d
  .subst h;have:=Km j t S;rw[e]at this;unfold xC;rw[<-this];rfl
  .have:=Km j t S;rw[e]at this;unfold xC;rw[<-this];exact Rj a k r h
def hU(l:List UInt8):Int⊕SX:=xC (j2 l (l.length+1) 0) vh
def SQ{s:ByteArray}{r:Int⊕SX}(d:qV (j2 (bl s) (s.size+1) 0) vh r):J' r=hU (bl s):=by have:=Rj _ _ _ d;rw[this];unfold hU;rw[cZ];rfl
def tW(S:SX):cG (fb S).tp=cG S.tp:=rfl
def lit(c:UInt8):Rx:=.mk 2 c c []
def jC(t:BL):Bool:=bif Nat.blt 4096 t.length then false else match hU t with
 |.inl _=>false
 |.inr d=>bif Nat.blt 64 (cG d.tp).sz then false else
  if kB (cG d.tp)=0 then(if iL (fW (cG d.tp))=0 then cI 0 (fW (cG d.tp)) (a' (fW (cG d.tp)))==t else false)else false
structure aP where
 k:Int
 n:Int
 x:Int
deriving DecidableEq
structure Nx where
 op:Int
 kids:List Int
 n:Int
 m:Int
 u:Int
 tx:ByteArray
 st:aP
deriving DecidableEq
def a6:aP:=⟨0,0,0⟩
def aN(n:Int):aP:=⟨0,n,0⟩
def e9(n:Int):aP:=⟨1,n,0⟩
def bw(s:aP):Bool:=(s.k==0&&ai (1<=s.n)&&ai (s.n<=64)&&s.x==0)||(s.k==1&&ai (0<=s.n)&&ai (s.n<=64)&&s.x==0)||(s.k==2&&ai (1<=s.n)&&ai (s.n<=64)&&ai (1<=s.x)&&ai (s.x<=16))||(s.k==3&&ai (0<=s.n)&&ai (s.n<=64)&&ai (1<=s.x)&&ai (s.x<=16))
def fX(s:aP):Int:=if bw s then 0 else 9
def ed(s:aP):Bool:=s.k==2||s.k==3
def b6(a:Int):Int:=if a<0\/34<a then -1 else if a<=3 then 0 else if a=4\/a=5\/a=21\/a=22\/a=23\/a=27\/a=28\/a=33\/a=34 then 1 else if a=19\/a=25\/a=30\/a=32 then 3 else 2
def mF(a:Int):Bool:=a==21||a==22||a==23||a==28
def mG(a:Int):Bool:=a==0||a==2||a==33
def fL(n:Nx):Bool:=(mF n.op||n.n==0)&&(n.op==21||n.m==0)&&(n.op==1||n.u==0)&&(mG n.op||ai (n.tx=ba []))
def dK(g:List Nx)(k:Int):Bool:=ai (0<=k)&&ai (k<(g.length:Int))
def gj(c:UInt8):Bool:=ai (97<=c.toNat)&&ai (c.toNat<=122)
def dV(c:UInt8):Bool:=gj c||(ai (48<=c.toNat)&&ai (c.toNat<=57))||c==45
def i3(l:List UInt8):Bool:=match l with
 |[]=>false
 |c::m=>ai (m.length<=15)&&gj c&&m.all dV
def me:List Nx->ByteArray->Option aP
 |[],_=>none
 |d::g,t=>if d.op=0/\d.tx=t then some d.st else me g t
def sJ(g:List Nx)(n:Nx):Bool:=match me g n.tx with
 |some s=>!decide (s=n.st)
 |none=>false
def lL(u n:Int):Bool:=ai (n<64)&&ai (2^n.toNat<=u)
def cg(g:List Nx)(n:Nx):aP×Int:=
 if n.op=2 then(if 64<n.tx.size then(a6,5)else(e9 n.tx.size,0))else
 if n.op=0/\i3 (bl n.tx)=false then(a6,6)else
 if bw n.st=false then(a6,9)else
 if n.op=1/\n.st.k≠0\/n.op=3/\ed n.st=false then(a6,9)else
 if n.op=1/\lL n.u n.st.n=true then(a6,5)else
 if n.op=0/\sJ g n=true then(a6,8)else(n.st,0)
def iv(s:aP):aP:=if s.k=2 then aN s.n else e9 s.n
def cX(a:Int)(x y z:aP):Bool:=
 if a=4\/a=5\/a=21\/a=22\/a=23 then x.k==0 else
 if a=18 then ai (x=y)||(x.k==1&&y.k==1)else
 if a=19 then ai (x=aN 1)&&(ai (y=z)||(y.k==1&&z.k==1))else
 if a=20 then x.k==0&&y.k==0 else
 if a=24 then ed x&&ai (y=aN x.x)else
 if a=25 then ed x&&ai (y=aN x.x)&&(ai (z=iv x)||(x.k==3&&z.k==1&&ai (z.n<=x.n)))else
 if a=26 then ed x&&ai (x=y)else
 if a=27\/a=28\/a=33 then x.k==1 else
 if a=29\/a=31 then x.k==1&&y.k==1 else
 if a=30 then x.k==1&&ai (y=aN 7)&&ai (z=aN 7)else
 if a=32 then x.k==1&&y.k==1&&z.k==1 else
 if a=34 then ai (x=aN 8)else x.k==0&&ai (x=y)
def gM(n:Nx)(x y z:aP):aP:=
 if n.op=16\/n.op=17\/n.op=18\/n.op=33 then aN 1 else
 if n.op=19 then(if y.k=1 then e9 (if y.n<z.n then z.n else y.n)else y)else
 if n.op=20 then aN (x.n+y.n)else
 if n.op=21 then aN (n.n - n.m+1)else
 if n.op=22\/n.op=23 then aN (x.n+n.n)else
 if n.op=24 then iv x else
 if n.op=26 then aN x.x else
 if n.op=27\/n.op=31 then aN 7 else
 if n.op=28 then aN 8 else
 if n.op=29 then e9 (x.n+y.n)else
 if n.op=32 then e9 (x.n+z.n)else
 if n.op=34 then e9 1 else x
def ic(n:Nx)(x y z:aP):Bool:=
 if n.op=20\/n.op=29 then ai (x.n+y.n<=64)else
 if n.op=21 then ai (0<=n.m)&&ai (n.m<=n.n)&&ai (n.n<x.n)else
 if n.op=22\/n.op=23 then ai (1<=n.n)&&ai (n.n<=64 - x.n)else
 if n.op=28 then ai (0<=n.n)&&ai (n.n<=63)else
 if n.op=32 then ai (x.n+z.n<=64)else true
def bg(g:List Nx)(n:Nx)(i:Nat):aP:=match n.kids[i]? with
 |some e=>match g[e.toNat]? with
  |some d=>d.st
  |none=>a6
 |none=>a6
def k1(t:ByteArray):Bool:=jC (bl t)
def bP(g:List Nx)(n:Nx):aP×Int:=
 if(b6 n.op==(n.kids.length:Int)&&n.kids.all (dK g)&&fL n)=false then(a6,1)else
 if n.op<=3 then cg g n else
 if cX n.op (bg g n 0) (bg g n 1) (bg g n 2)=false then(a6,9)else
 if ic n (bg g n 0) (bg g n 1) (bg g n 2)=false then(a6,5)else
 if n.op=33/\k1 n.tx=false then(a6,2)else(gM n (bg g n 0) (bg g n 1) (bg g n 2),0)
def eg(n:Nx)(s:aP):Nx:={n with st:=s}
def gE(n:Nx):List Nx->Nat->Option Nat
 |[],_=>none
 |d::g,i=>if d=n then some i else gE n g (i+1)
def bj(g:List Nx)(n:Nx):List Nx×Int×Int:=
 if(bP g n).2≠0 then([],0,(bP g n).2)else
 match gE (eg n (bP g n).1) g 0 with
 |some i=>(g,i,0)
 |none=>if 4096<=g.length then([],0,4)else(g++[eg n (bP g n).1],g.length,0)
inductive Vg:List Nx->Prop
 |nil:Vg []
 |snoc {g:List Nx} {n:Nx}:Vg g->bP g n=(n.st,0)->n∉g->Vg (g++[n])
structure Nd where
 x:Nx
 ks:Sl
abbrev dA(s:aP):V:=.agg #[.i s.k,.i s.n,.i s.x]
namespace Nd
def c(d:Nd):List V:=[.i d.x.op,d.ks.v,.i d.x.n,.i d.x.m,.u d.x.u,.string d.x.tx,.i d.x.st.k,.i d.x.st.n,.i d.x.st.x]
abbrev v(d:Nd):V:=.agg #[.i d.x.op,d.ks.v,.i d.x.n,.i d.x.m,.u d.x.u,.string d.x.tx,.i d.x.st.k,.i d.x.st.n,.i d.x.st.x]
def pZ(d:Nd):(c d).length=9:=rfl
def hL(l:List Nd):(l.flatMap c).length=l.length *9:=o1 c 9 pZ l
abbrev P(w:J)(d:Nd):Prop:=bI w d.ks d.x.kids
structure hZ(w:J)(p:Addr)(i:Nat)(d:Nd):Prop where
 c0:w.cell? ((p.add (i *9)).add 0)=some (.i d.x.op)
 c1:w.cell? ((p.add (i *9)).add 1)=some d.ks.v
 c2:w.cell? ((p.add (i *9)).add 2)=some (.i d.x.n)
 c3:w.cell? ((p.add (i *9)).add 3)=some (.i d.x.m)
 c4:w.cell? ((p.add (i *9)).add 4)=some (.u d.x.u)
 c5:w.cell? ((p.add (i *9)).add 5)=some (.string d.x.tx)
 c6:w.cell? ((p.add (i *9)).add 6)=some (.i d.x.st.k)
 c7:w.cell? ((p.add (i *9)).add 7)=some (.i d.x.st.n)
 c8:w.cell? ((p.add (i *9)).add 8)=some (.i d.x.st.x)
def cw{w:J}{s:Sl}{l:List Nd}(d:bo 9 w s (l.flatMap c)):s.n=l.length:=by have:=d.1;rw[hL]at this;omega
def aT{w:J}{s:Sl}{l:List Nd}(h:bo 9 w s (l.flatMap c)){i:Nat}{d:Nd}(e:l[i]? =some d){K:Addr->Prop}(g:∀p,s.a=some p->hZ w p i d->K p):dv s.a K:=
 fq.elem (f:=c) (sz:=9) pZ io h.2.2 e λp j b=>g p j ⟨b 0 _ rfl,b 1 _ rfl,b 2 _ rfl,b 3 _ rfl,b 4 _ rfl,b 5 _ rfl,b 6 _ rfl,b 7 _ rfl,b 8 _ rfl⟩
def again{w:J}{s:Sl}{l:List Nd}(x:bo 9 w s (l.flatMap c)){i:Nat}{d:Nd}(g:l[i]? =some d){p:Addr}(j:s.a=some p):hZ w p i d:=by have h:=aT x g (K:=λe=>∃k,s.a=some k/\hZ w k i d) (λe b f=>⟨e,b,f⟩);rw[j]at h;obtain⟨e,b,q⟩:=h;cases b;exact q
end Nd
abbrev xs(l:List Nd):List Nx:=l.map Nd.x
def GP(w:J)(s:Sl)(l:List Nd):Prop:=bo 9 w s (l.flatMap Nd.c)/\∀d∈l,d.P w
abbrev cv(d:Nd):En:=.rd d.ks (d.x.kids.map bE)
def _root_.Go.W.En.gr(s:Sl)(l:List Nd):En:=.all (.a2 9 s (l.flatMap Nd.c)::l.map cv)
def bf{w:J}{s:Sl}{l:List Nd}:(En.gr s l).P w↔GP w s l:=by
 constructor
 .exact λd=>⟨d (.a2 9 s (l.flatMap Nd.c)) gs,λe a=>d (cv e) (cJ _ (dN.2 ⟨e,a,rfl⟩))⟩
 .intro d j h;rcases aF.1 h with rfl|h
  .exact d.1
  .obtain ⟨e,a,rfl⟩:=dN.1 h;exact d.2 e a
def uc{s:Sl}{l:List Nd}{b:Nat}:b∈(En.gr s l).fp↔b∈(En.a2 9 s (l.flatMap Nd.c)).fp\/∃e∈l,b∈(cv e).fp:=by
 unfold En.gr En.all;rw[a7,cl];constructor
 .rintro ⟨k,j,d⟩;rcases aF.1 j with rfl|j
  .exact .inl d
  .obtain ⟨e,h,rfl⟩:=dN.1 j;exact .inr ⟨e,h,d⟩
 .rintro (d|⟨e,h,d⟩)
  .exact ⟨_,List.mem_cons_self ..,d⟩
  .exact ⟨_,cJ _ (dN.2 ⟨e,h,rfl⟩),d⟩
def h'{w:J}{s:Sl}{l:List Nd}(d:GP w s l):s.n=l.length:=Nd.cw d.1
def eE{w:J}{s:Sl}{l:List Nd}(h:GP w s l){i:Nat}{d:Nd}{X:Int}(c:X=(i:Int))(b:l[i]? =some d){K:Addr->Prop}(e:∀p,s.a=some p->Nd.hZ w p (aZ X) d->K p):nN s X K:=by have k:=h' h;have j:=(cq.1 b).1;subst c;exact⟨io,io,Nd.aT h.1 b e⟩
def m4{l:List Nd}{i:Nat}{d:Nd}(e:l[i]? =some d):(xs l)[i]? =some d.x:=by simp[xs,e]
namespace Nd
def hZ.s0{w:J}{p:Addr}{i:Nat}{d:Nd}(e:hZ w p i d):w.cell? (((p.add (i *9)).add 6).add 0)=some (.i d.x.st.k):=by rw[add_add];exact e.c6
def hZ.s1{w:J}{p:Addr}{i:Nat}{d:Nd}(e:hZ w p i d):w.cell? (((p.add (i *9)).add 6).add 1)=some (.i d.x.st.n):=by rw[add_add];exact e.c7
def hZ.s2{w:J}{p:Addr}{i:Nat}{d:Nd}(e:hZ w p i d):w.cell? (((p.add (i *9)).add 6).add 2)=some (.i d.x.st.x):=by rw[add_add];exact e.c8
end Nd
def wG{w:J}{s:Sl}{l:List Nd}(h:GP w s l){i:Nat}{d:Nd}(c:l[i]? =some d){p:Addr}(e:s.a=some p){X:Int}(b:X=(i:Int)):Nd.hZ w p (aZ X) d:=by subst b;exact Nd.again h.1 c e
def gP(s:aP):List V:=[.i s.k,.i s.n,.i s.x]
def RX(l:List aP):(l.flatMap gP).length=l.length *3:=o1 gP 3 (λ_=>rfl) l
structure B2(w:J)(p:Addr)(i:Nat)(s:aP):Prop where
 c0:w.cell? ((p.add (i *3)).add 0)=some (.i s.k)
 c1:w.cell? ((p.add (i *3)).add 1)=some (.i s.n)
 c2:w.cell? ((p.add (i *3)).add 2)=some (.i s.x)
def abS{w:J}{s:Sl}{l:List aP}(d:bo 3 w s (l.flatMap gP)):s.n=l.length:=by have:=d.1;rw[RX]at this;omega
def ey{w:J}{s:Sl}{l:List aP}(h:bo 3 w s (l.flatMap gP)){i:Nat}{x:aP}{X:Int}(d:X=(i:Int))(c:l[i]? =some x){K:Addr->Prop}(e:∀p,s.a=some p->B2 w p (aZ X) x->K p):nN s X K:=by have k:=abS h;have j:=(cq.1 c).1;subst d;exact⟨io,io,fq.elem (f:=gP) (sz:=3) (λ_=>rfl) io h.2.2 c λp g b=>e p g ⟨b 0 _ rfl,b 1 _ rfl,b 2 _ rfl⟩⟩
def gv{w:J}{s:Sl}{l:List aP}(q:bo 3 w s (l.flatMap gP)){i:Nat}{x:aP}{X:Int}(c:X=(i:Int))(f:l[i]? =some x){p:Addr}(g:s.a=some p):B2 w p (aZ X) x:=by have e:=(ey q c f (K:=λd=>∃h,s.a=some h/\B2 w h (aZ X) x) (λd b j=>⟨d,b,j⟩)).2.2;rw[g]at e;obtain⟨d,b,k⟩:=e;cases b;exact k
def lA(a b:aP):((a.k==b.k)&&((a.n==b.n)&&((a.x==b.x)&&true)))=ai (a=b):=by cases a;cases b;simp only[aP.mk.injEq,Bool.and_true,Bool.decide_and];rfl
def x'(a b:ByteArray):(a.toList==b.toList)=ai (a=b):=by
 rw[ByteArray.toList_eq,ByteArray.toList_eq];have d:(a.data.toList=b.data.toList)↔a=b:=⟨λd=>ByteArray.ext (Array.toList_inj.1 d),λd=>by rw[d]⟩;rw[<-decide_eq_decide.2 d];cases e:ai (a.data.toList=b.data.toList)with
 |true=>rw[eQ e];simp
 |false=>exact beq_eq_false_iff_ne.2 (lE e)
section
variable {A B:Prop}
def AO{a b:ByteArray}(c:a=b->A)(d:a≠b->B):bB (a.toList==b.toList) A B:=by rw[x'];exact aY c d
def mQ{a b:aP}(c:a=b->A)(d:a≠b->B):bB ((a.k==b.k)&&((a.n==b.n)&&((a.x==b.x)&&true))) A B:=by rw[lA];exact aY c d
def xG{a b:aP}(c:a≠b->A)(d:a=b->B):bB (!((a.k==b.k)&&((a.n==b.n)&&((a.x==b.x)&&true)))) A B:=by rw[lA];exact eO (λe=>c (lE e)) (λe=>d (eQ e))
def Gx{s:aP}(a:bw s=false->A)(b:bw s=true->B):bB (fX s !=0) A B:=by
 unfold fX;cases d:bw s with
 |true=>exact aW rfl (b d)
 |false=>exact aU rfl (a d)
end
namespace JM
def ok:=aC (ay U Tryz.f126 [] []) MD [.I]
end JM
namespace JQ
def ok:=aC (ay U Tryz.f125 [] []) MJ [.Y]
end JQ
namespace wk
def L0:=bu (ay U Tryz.f158 [] []) [0,1,1,1,1] [(0,.Y),(3,.I)]
abbrev t1:=bt L0
def cr:=bF t1 L0
def ok:=aC t1 MI [.Y]
end wk
namespace wj
abbrev S1:=ah (ay U Tryz.f142 [(4,ls [0,1,2,3,6,7,8,9,4,5,10,11,12,13,14])] []) [3] []
abbrev t1:=ak S1
abbrev S0:=ah t1 [2] [(0,.st),(1,.I)]
abbrev t2:=ak S0
def ok:=aC t2 MC [.st,.I]
end wj
namespace tM
abbrev P0:Ps:=[(4,.l [.I,.Y,.Y,.s] aI)]
abbrev bh:=ah (ay U Tryz.f129 [] [4]) [0,1,1,1,6] P0
abbrev t1:=ak bh
abbrev cF:=ah t1 [0,1,1,1,9] P0
abbrev t2:=ak cF
abbrev bC:=ah t2 [9] [(0,.st),(1,.I),(4,.l [.I,.Y,.Y,.s] aI),(8,.Y),(11,.Y),(12,.I),(13,.I)]
abbrev t3:=ak bC
abbrev a1:=ah t3 [6] [(0,.st),(1,.I),(4,.l [.I,.Y,.Y,.s] aI),(8,.Y),(9,.I),(10,.I)]
abbrev t4:=ak a1
def aq:=aC t4 ML [.st,.I]
end tM
namespace kj
def a4:=bu (ay U Tryz.f106 [(11,lr 13)] [5]) [0,1,1,1,2] [(0,.st),(3,.s),(4,.I)]
abbrev t1:=bt a4
abbrev P0:Ps:=[(0,.st),(3,.s),(4,.I),(5,.l [.I,.Y,.Y,.s] aI),(6,.I)]
def cu:=bu t1 [0,1,1,1,1,1,2,1,1,2,1,1,2] P0
abbrev t2:=bt cu
abbrev bC:=ah t2 [3,1,1,2,1,1,2] P0
abbrev t3:=ak bC
def dQ:=bF t3 cu
def bR:=bF t3 a4
def aq:=aC t3 MA [.st]
end kj
namespace JU
def ok:=aC (ay U Tryz.f144 [(3,lr 12)] []) MO [.r]
end JU
namespace JV
abbrev S0:=ah (ay U Tryz.f131 [] []) [3] []
abbrev t1:=ak S0
def ok:=aC t1 MP [.r,.st]
end JV
namespace JS
def ok:=aC (ay U Tryz.f108 [] []) MN [.r,.st]
end JS
namespace JO
def aq:=aC (ay U Tryz.f132 [] [4]) w2 [.I,.s]
end JO
namespace JR
def ok:=aC (ay U Tryz.f160 [] []) MM [.r]
end JR
namespace wo
def a4:=bu (ay U Tryz.f107 [] [2]) [0,2,2] [(0,.r),(2,.l [.I,.Y,.Y,.s] aI),(3,.s)]
abbrev t1:=bt a4
def bR:=bF t1 a4
def aq:=aC t1 EK [.r]
end wo
namespace wm
def a4:=bu (ay U Tryz.f130 [] [2]) [0,2,2] [(0,.r),(2,.l [.I,.Y,.Y,.s] aI),(3,.s)]
abbrev t1:=bt a4
def bR:=bF t1 a4
def aq:=aC t1 zI [.r]
end wm
namespace wt
def a4:=bu (ay U Tryz.f143 [] [2]) [0,2,2] [(0,.r),(2,.l [.I,.Y,.Y,.s] aI),(3,.s)]
abbrev t1:=bt a4
def bR:=bF t1 a4
def aq:=aC t1 zK [.r]
end wt
namespace y0
def a4:=bu (ay U Tryz.f159 [] [2,4]) [0,2,4] [(0,.r),(2,.l [.I,.Y,.Y,.s] aI),(4,.l [.I,.Y,.Y,.s] aI)]
abbrev t1:=bt a4
def bR:=bF t1 a4
def aq:=aC t1 zJ [.r]
end y0
namespace oZ
abbrev P0:Ps:=[(0,.r),(2,.l [.I,.Y,.Y,.s] aI),(3,.s),(4,.I)]
def cu:=bu (ay U Tryz.f181 [(1,lr 20),(3,lr 13),(8,ls [0,1,2,3,5,6,7,8,4,9,10])] [2,5,6]) [0,1,1,1,3] P0
abbrev t1:=bt cu
abbrev bC:=ah t1 [2,2,1,1,3] P0
abbrev t2:=ak bC
abbrev cF:=ah t2 [4,2,1,2,1,1,3] [(2,.l [.I,.Y,.Y,.s] aI),(5,.l [.I,.Y,.Y,.s] aI)]
abbrev t3:=ak cF
def dQ:=bF t3 cu
abbrev a1:=ah t3 [2] [(0,.r),(2,.l [.I,.Y,.Y,.s] aI)]
abbrev t4:=ak a1
def aq:=aC t4 EJ [.r]
end oZ
namespace wq
abbrev S0:=ah (ay U Tryz.f211 [] []) [0,1,1,1,3] []
abbrev t1:=ak S0
def L1:=bu t1 [0,2,5] [(0,.r),(4,.s)]
abbrev t2:=bt L1
def ik:=bF t2 L1
def ok:=aC t2 EM [.r]
end wq
namespace JK
def aq:=aC (ay U Tryz.f90 [(7,lr 15)] [2,6]) My [.st]
end JK
namespace JG
def ok:=aC (ay U Tryz.f101 [] []) Mu [.Y]
end JG
namespace Dj
abbrev a1:=ah (ay U Tryz.f100 [] [1]) [0,1,1,1,2] []
abbrev t1:=ak a1
def aq:=aC t1 EI [.a 4,.I,.Y,.Y,.s]
end Dj
namespace JP
def ok:=aC (ay U Tryz.f102 [] []) MG [.Y]
end JP
namespace mB
abbrev a1:=ah (ay U Tryz.f84 [(11,ls [0,1,5,6,2,3,4,7,8,9,10])] [2]) [2,1,1,1,3] [(2,.l [.I,.Y,.Y,.s] aI),(5,.st)]
abbrev t1:=ak a1
abbrev P0:Ps:=[(2,.l [.I,.Y,.Y,.s] aI),(6,.st),(7,.I),(8,.st),(9,.I)]
def cu:=bu t1 [0,1,1,1,7] P0
abbrev t2:=bt cu
abbrev cF:=ah t2 [2,2,1,1,7] P0
abbrev t3:=ak cF
abbrev bC:=ah t3 [2,2,1,2,1,1,7] [(2,.l [.I,.Y,.Y,.s] aI),(6,.st),(7,.I),(8,.st),(9,.I),(10,.st)]
abbrev t4:=ak bC
def dQ:=bF t4 cu
def aq:=aC t4 qn [.a 4,.I,.Y,.Y,.s,.I]
end mB
namespace Wp
noncomputable def C0:Code:=(Tryz.f62.body).getD .skip
noncomputable def C1:=C0.sn
noncomputable def C2:=C1.sn
noncomputable def C3:=C2.sn
noncomputable def C4:=C3.sn
noncomputable def C5:=C4.sn
noncomputable def C6:=C5.sn
noncomputable def C7:=C6.sn
noncomputable def C8:=C7.sn
abbrev Q0(R:aB):kS:=(bodyPost U Tryz.f62 R)
noncomputable def C9:=C8.sn
abbrev S0(o:Int)(b:Sl)(w:J)(R:aB):Prop:=
 (0:Int)<=(ez (aD .i64 (dP o 216)) 8)/\(ez (aD .i64 (dP o 216)) 8)<(b.n:Int)/\dv b.a λc=>jx w (c.add (aZ (ez (aD .i64 (dP o 216)) 8) *4)) λd e f g=>yN w3 #[.agg #[.i d,.int .u8 e,.int .u8 f,g.v]] w λh j l m k=>I2 qn #[.agg #[.i h,.int .u8 j,.int .u8 l,m.v],.i 0] k λp r=>R (ad (.string p)) r
def s6(E:Env)(w:J)(R:aB):Prop:=W.asInt .i64 (Env.get? E 3) λb=>W.asSlice (Env.get? E 9) λa=>S0 b a w R
end Wp
namespace JH
def aq:=aC (ay U Tryz.f70 [] [3,6]) Mw [.st]
end JH
namespace JY
def aq:=aC (ay U Tryz.f49 [] [2]) MS [.I]
end JY
namespace J2
def aq:=aC (ay U Tryz.f61 [] [2]) M4 [.I]
end J2
namespace J3
def ok:=aC (ay U Tryz.f87 [] []) M7 [.s,.I]
end J3
namespace J0
abbrev P0:Ps:=[]
abbrev S0:=ah (ay U Tryz.f63 [] []) [0,1,1,1,1] P0
abbrev t1:=ak S0
abbrev S1:=ah t1 [0,1,1,1,1,1,3] P0
abbrev t2:=ak S1
abbrev S3:=ah t2 [0,1,3,1,1,1,3] P0
abbrev t3:=ak S3
abbrev S4:=ah t3 [4] P0
abbrev t4:=ak S4
abbrev S2:=ah t4 [2,1,1,1,3] [(11,.I)]
abbrev t5:=ak S2
def ok:=aC t5 MW [.I]
end J0
namespace nr
abbrev S0:=ah (ay U Tryz.f88 [] []) [0,1,1,1,1] []
abbrev t1:=ak S0
abbrev P0:Ps:=[(0,.st),(3,.I)]
def L1:=bu t1 [0,1,1,1,2] P0
abbrev t2:=bt L1
abbrev S4:=ah t2 [2,2,1,1,2] P0
abbrev t3:=ak S4
abbrev S3:=ah t3 [2,2,1,2,1,1,2] [(0,.st),(3,.I),(4,.b),(5,.b)]
abbrev t4:=ak S3
abbrev S2:=ah t4 [1,2,1,2,1,1,2] [(0,.st),(3,.I),(4,.b)]
abbrev t5:=ak S2
def ik:=bF t5 L1
def ok:=aC t5 MZ [.st]
end nr
namespace JW
def ok:=aC (ay U Tryz.f105 [] []) w4 [.I,.I,.I]
end JW
namespace rA
abbrev a1:=ah (ay U Tryz.f89 [] [1]) [3] [(3,.b)]
abbrev t1:=ak a1
def aq:=aC t1 MQ [.a 3,.I,.I,.I]
end rA
namespace wy
def a4:=bu (ay U Tryz.f66 [(1,ls [0,1,3,4,5,2,6])] [3]) [0,1,1,1,2] [(0,.s),(3,.l [.I,.s,.I,.I,.U,.st,.I,.I,.I] bW),(5,.I)]
abbrev t1:=bt a4
abbrev P0:Ps:=[]
abbrev bh:=ah t1 [0,1,1,2,1,2,1,1,2] P0
abbrev t2:=ak bh
abbrev bC:=ah t2 [0,1,1,1,5] P0
abbrev t3:=ak bC
abbrev cF:=ah t3 [6] P0
abbrev t4:=ak cF
def bR:=bF t4 a4
def aq:=aC t4 M5 [.s,.a 9,.I,.s,.I,.I,.U,.st,.I,.I,.I]
end wy
namespace km
abbrev bC:=ah (ay U Tryz.f67 [(19,lr 31)] [3,4]) [0,1,1,1,7] [(4,.l [.I,.I,.I] cb)]
abbrev t1:=ak bC
abbrev P0:Ps:=[(0,.s),(3,.l [.I,.s,.I,.I,.U,.st,.I,.I,.I] bW),(4,.l [.I,.I,.I] cb),(9,.I)]
def iO:=bu t1 [0,1,1,1,9] P0
abbrev t2:=bt iO
abbrev kW:=ah t2 [2,2,1,1,9] P0
abbrev t3:=ak kW
def mj:=bF t3 iO
abbrev P1:Ps:=[(0,.s),(3,.l [.I,.s,.I,.I,.U,.st,.I,.I,.I] bW),(4,.l [.I,.I,.I] cb)]
abbrev ft:=ah t3 [9] P1
abbrev t4:=ak ft
abbrev cF:=ah t4 [8] P1
abbrev t5:=ak cF
abbrev bh:=ah t5 [7] [(0,.s),(3,.l [.I,.s,.I,.I,.U,.st,.I,.I,.I] bW),(4,.l [.I,.I,.I] cb),(8,.b)]
abbrev t6:=ak bh
abbrev a1:=ah t6 [3] [(0,.s),(3,.l [.I,.s,.I,.I,.U,.st,.I,.I,.I] bW),(4,.l [.I,.I,.I] cb),(6,.b)]
abbrev t7:=ak a1
def aq:=aC t7 M8 [.s,.a 9,.I,.s,.I,.I,.U,.st,.I,.I,.I]
end km
namespace JZ
def aq:=aC (ay U Tryz.f86 [] [1,2]) MU [.a 3,.I,.I,.I]
end JZ
namespace Dk
abbrev bh:=ah (ay U Tryz.f68 [(13,lr 16),(15,lr 27),(19,lr 11),(21,lr 11),(23,lr 28),(25,lr 9),(34,lr 16),(38,lr 4),(39,lr 9)] [5]) [0,1,1,1,1,1,5] [(6,.b)]
abbrev t1:=ak bh
abbrev cF:=ah t1 [0,1,1,2,11,1,1,1,5] []
abbrev t2:=ak cF
abbrev ft:=ah t2 [0,1,15,1,1,1,5] [(7,.b)]
abbrev t3:=ak ft
abbrev kW:=ah t3 [0,1,17,1,1,1,5] [(1,.s),(7,.b)]
abbrev t4:=ak kW
abbrev P0:Ps:=[(1,.s),(5,.l [.I,.I,.I] cb),(6,.b),(7,.b),(26,.I)]
abbrev ng:=ah t4 [18,1,1,1,5] P0
abbrev t5:=ak ng
abbrev qW:=ah t5 [16,1,1,1,5] P0
abbrev t6:=ak qW
abbrev bC:=ah t6 [2,1,1,1,5] [(1,.s),(5,.l [.I,.I,.I] cb),(6,.b),(7,.b),(8,.b),(26,.I)]
abbrev t7:=ak bC
abbrev a1:=ah t7 [5] [(0,.I),(1,.s),(5,.l [.I,.I,.I] cb),(6,.b),(7,.b),(8,.b)]
abbrev t8:=ak a1
def aq:=aC t8 M6 [.I,.s]
end Dk
namespace y1
abbrev P0:Ps:=[(4,.l [.I,.I,.I] cb)]
abbrev a1:=ah (ay U Tryz.f69 [(10,lr 12),(13,ls [0,1,2,3,4,5,6,8,9,10,11,12,13,14,15,7,16,17]),(15,ls [0,1,2,3,4,5,7,8,9,6,10,11,12,13,14,15,16,17,18,19,20,21,22,23,24,25]),(18,ls [0,1,2,3,4,6,7,8,5,9,10,11,12,13,14,15,16,17,18]),(27,ls [1,2,3,0,4,5,6,7,8,9,10]),(29,ls [0,1,2,3,4,5,6,8,9,10,11,12,13,14,15,7,16,17]),(31,ls [0,1,2,3,4,5,6,8,9,10,11,12,13,14,15,7,16,17])] [2,4,6]) [0,1,1,1,1,1,2] P0
abbrev t1:=ak a1
abbrev bC:=ah t1 [0,1,9,1,1,1,2] [(2,.l [.I,.s,.I,.I,.U,.st,.I,.I,.I] bW),(4,.l [.I,.I,.I] cb),(6,.l [.I,.I,.I] cb)]
abbrev t2:=ak bC
abbrev ft:=ah t2 [0,1,15,1,1,1,2] P0
abbrev t3:=ak ft
abbrev P1:Ps:=[(1,.s),(2,.l [.I,.s,.I,.I,.U,.st,.I,.I,.I] bW),(4,.l [.I,.I,.I] cb),(6,.l [.I,.I,.I] cb),(11,.I)]
abbrev qW:=ah t3 [16,1,1,1,2] P1
abbrev t4:=ak qW
abbrev cF:=ah t4 [10,1,1,1,2] P1
abbrev t5:=ak cF
abbrev bh:=ah t5 [2,1,1,1,2] P1
abbrev t6:=ak bh
def aq:=aC t6 M' [.a 9,.I,.s,.I,.I,.U,.st,.I,.I,.I,.s]
end y1
namespace tN
def a4:=bu (ay U Tryz.f50 [] [3,4,10]) [0,1,1,1,5] [(0,.s),(3,.l [.I,.s,.I,.I,.U,.st,.I,.I,.I] bW),(4,.l [.I,.I,.I] cb),(7,.s),(8,.I)]
abbrev t1:=bt a4
abbrev bh:=ah t1 [11] [(4,.l [.I,.I,.I] cb),(10,.l [.I,.I,.I] cb),(12,.b)]
abbrev t2:=ak bh
def bR:=bF t2 a4
def aq:=aC t2 M3 [.s,.a 9,.I,.s,.I,.I,.U,.st,.I,.I,.I]
end tN
namespace J1
def aq:=aC (ay U Tryz.f21 [] [2,3]) M1 [.a 9,.I,.s,.I,.I,.U,.st,.I,.I,.I,.a 9,.I,.s,.I,.I,.U,.st,.I,.I,.I]
end J1
namespace wv
def cu:=bu (ay U Tryz.f51 [(7,lr 7)] [3,5]) [0,1,1,1,3] [(0,.s),(3,.l [.I,.s,.I,.I,.U,.st,.I,.I,.I] bW),(7,.I)]
abbrev t1:=bt cu
def dQ:=bF t1 cu
abbrev a1:=ah t1 [3] [(0,.s),(3,.l [.I,.s,.I,.I,.U,.st,.I,.I,.I] bW)]
abbrev t2:=ak a1
def aq:=aC t2 MV [.s,.a 9,.I,.s,.I,.I,.U,.st,.I,.I,.I]
end wv
namespace JX
def aq:=aC (ay U Tryz.f25 [(10,(.sq [1,3,6,7] (.fork (.sq [0] (.fork (ls [2,4,5,8,9,10]) (ls [4,2,5,8,9,10]))) (ls [4,0,2,5,8,9,10]))))] [3,7]) MR [.s,.a 9,.I,.s,.I,.I,.U,.st,.I,.I,.I]
end JX
namespace Dl
abbrev S1:=ah (ay U Tryz.f45 [] []) [4] [(3,.s)]
abbrev t1:=ak S1
abbrev S0:=ah t1 [3] [(0,.I),(3,.s)]
abbrev t2:=ak S0
def ok:=aC t2 Nb [.I]
end Dl
namespace rC
abbrev P0:Ps:=[(0,.s),(2,.I),(4,.l [.I,.I,.I] cb),(7,.s),(8,.I)]
def a4:=bu (ay U Tryz.f64 [(5,lr 7)] [4]) [0,1,1,1,2] P0
abbrev t1:=bt a4
abbrev bh:=ah t1 [2,2,1,1,2] P0
abbrev t2:=ak bh
def bR:=bF t2 a4
def aq:=aC t2 MX [.s,.a 3,.I,.I,.I,.I]
end rC
namespace Dm
abbrev a1:=ah (ay U Tryz.f65 [] [10,11]) [0,1,11,1,1,1,2] [(4,.I),(10,.l [.I,.I,.I] cb)]
abbrev t1:=ak a1
abbrev bh:=ah t1 [3] [(10,.l [.I,.I,.I] cb),(11,.l [.I,.I,.I] cb)]
abbrev t2:=ak bh
def aq:=aC t2 Nc [.s,.I,.I,.I,.I]
end Dm
namespace ju
def iO:=bu (ay U Tryz.f46 [(38,lr 13)] [8,10,16]) [0,1,1,1,8] [(0,.s),(2,.I),(3,.I),(8,.l [.I,.s,.I,.I,.U,.st,.I,.I,.I] bW),(10,.l [.I,.s,.I,.I,.U,.st,.I,.I,.I] bW),(11,.I),(13,.I),(14,.I)]
abbrev t1:=bt iO
abbrev ng:=ah t1 [2,2,1,2,1,1,8] [(0,.s),(2,.I),(3,.I),(8,.l [.I,.s,.I,.I,.U,.st,.I,.I,.I] bW),(10,.l [.I,.s,.I,.I,.U,.st,.I,.I,.I] bW),(11,.I),(13,.I),(14,.I),(15,.I)]
abbrev t2:=ak ng
abbrev kW:=ah t2 [2,1,1,1,1,2,1,2,1,1,8] [(0,.s),(2,.I),(3,.I),(8,.l [.I,.s,.I,.I,.U,.st,.I,.I,.I] bW),(10,.l [.I,.s,.I,.I,.U,.st,.I,.I,.I] bW),(11,.I),(13,.I),(14,.I),(16,.l [.I,.I,.I] cb)]
abbrev t3:=ak kW
def mj:=bF t3 iO
abbrev ft:=ah t3 [8] [(0,.s),(2,.I),(3,.I),(8,.l [.I,.s,.I,.I,.U,.st,.I,.I,.I] bW),(10,.l [.I,.s,.I,.I,.U,.st,.I,.I,.I] bW),(11,.I),(13,.I)]
abbrev t4:=ak ft
abbrev cF:=ah t4 [7] [(0,.s),(1,.I),(2,.I),(3,.I),(8,.l [.I,.s,.I,.I,.U,.st,.I,.I,.I] bW),(10,.l [.I,.s,.I,.I,.U,.st,.I,.I,.I] bW),(11,.I),(13,.I)]
abbrev t5:=ak cF
abbrev P0:Ps:=[(0,.s),(1,.I),(2,.I),(3,.I),(8,.l [.I,.s,.I,.I,.U,.st,.I,.I,.I] bW),(10,.l [.I,.s,.I,.I,.U,.st,.I,.I,.I] bW),(11,.I)]
abbrev bC:=ah t5 [5] P0
abbrev t6:=ak bC
abbrev P1:Ps:=[(0,.s),(1,.I),(2,.I),(3,.I),(8,.l [.I,.s,.I,.I,.U,.st,.I,.I,.I] bW),(10,.l [.I,.s,.I,.I,.U,.st,.I,.I,.I] bW),(11,.I),(12,.I)]
abbrev bh:=ah t6 [2,1,1,1,1,1,4] P1
abbrev t7:=ak bh
abbrev a1:=ah t7 [1,1,1,1,1,1,4] P1
abbrev t8:=ak a1
abbrev qX:=ah t8 [0,1,9,1,1,1,4] P0
abbrev t9:=ak qX
abbrev TU:=ah t9 [10,1,1,1,4] [(0,.s),(1,.I),(2,.I),(3,.I),(8,.l [.I,.s,.I,.I,.U,.st,.I,.I,.I] bW),(10,.l [.I,.s,.I,.I,.U,.st,.I,.I,.I] bW),(11,.I),(32,.I)]
abbrev t10:=ak TU
def aq:=aC t10 M9 [.s,.I,.I,.I]
end ju
namespace tO
abbrev P0:Ps:=[(0,.s),(1,.I),(5,.I),(6,.I)]
def L0:=bu (ay U Tryz.f48 [] []) [0,1,1,1,2] P0
abbrev t1:=bt L0
abbrev S1:=ah t1 [2,2,1,1,2] P0
abbrev t2:=ak S1
def cr:=bF t2 L0
def ok:=aC t2 Na [.s,.I]
end tO
namespace J4
def aq:=aC (ay U Tryz.f47 [] [3]) Ng [.I,.a 3,.I,.I,.I]
end J4
namespace n4
abbrev P0:Ps:=[(0,.s),(1,.I),(2,.I),(7,.s),(8,.I)]
def a4:=bu (ay U Tryz.f23 [(5,(.sq [0,1,2,3,4,5,6,7,8,9,10,11,12,13,14] (.fork (ls [15,16,17]) (ls [16,15,17]))))] [9]) [0,1,1,1,2] P0
abbrev t1:=bt a4
abbrev bC:=ah t1 [2,2,1,1,2] P0
abbrev t2:=ak bC
abbrev bh:=ah t2 [1,2,1,2,1,1,2] [(0,.s),(1,.I),(2,.I),(7,.s),(8,.I),(9,.l [.I,.s,.I,.I,.U,.st,.I,.I,.I] bW)]
abbrev t3:=ak bh
abbrev cF:=ah t3 [3] [(7,.s)]
abbrev t4:=ak cF
def bR:=bF t4 a4
def aq:=aC t4 MY [.s,.I,.I]
end n4
def fv(n:Int)(w:J):aj U MS #[.i n] w λr d=>r=ad (dA (aN n))/\ag w d:=
 JY.aq ((bT [] gs).ax λb e a=>a.ae λf c=>⟨rfl,c.fr⟩)
def oR(n:Int)(w:J):aj U M4 #[.i n] w λr d=>r=ad (dA (e9 n))/\ag w d:=
 J2.aq ((bT [] gs).ax λb e a=>a.ae λf c=>⟨rfl,c.fr⟩)
def F4(s:aP)(w:J):aj U MU #[dA s] w λr f=>r=ad (dA (iv s))/\ag w f:=by
 refine JZ.aq ((bT [] gs).ax λb q j=>j.ax λi h c=>aw (λe=>c.av (fv s.n h) ?_) (λe=>c.av (oR s.n h) ?_))
 .rintro _ k rfl d;exact⟨_,_,_,rfl,d.ae λg a=>⟨by unfold iv;rw[af e],a.fr⟩⟩
 .rintro _ k rfl d;exact⟨_,_,_,rfl,d.ae λg a=>⟨by unfold iv;rw[aa e],a.fr⟩⟩
def uF{op:Int}(a:0<=op)(b:op<=34):op=0\/op=1\/op=2\/op=3\/op=4\/op=5\/op=6\/op=7\/op=8\/op=9\/op=10\/op=11\/op=12\/op=13\/op=14\/op=15\/op=16\/op=17\/op=18\/op=19\/op=20\/op=21\/op=22\/op=23\/op=24\/op=25\/op=26\/op=27\/op=28\/op=29\/op=30\/op=31\/op=32\/op=33\/op=34:=io
def Ir(a:Int)(w:J):aj U MW #[.i a] w λr b=>r=ad (.i (b6 a))/\ag w b:=by
 refine J0.ok ?_;by_cases d:a<0
 .exact aU (aQ d) ⟨by unfold b6;rw[af (.inl d)],Fr.refl _ _⟩
 refine aW (aS d) ?_;by_cases e:a>34
 .exact aU (aQ e) ⟨by unfold b6;rw[af (.inr e)],Fr.refl _ _⟩
 refine aW (aS e) ?_;rcases uF io (by omega:a<=34)with rfl|rfl|rfl|rfl|rfl|rfl|rfl|rfl|rfl|rfl|rfl|rfl|rfl|rfl|rfl|rfl|rfl|rfl|rfl|rfl|rfl|rfl|rfl|rfl|rfl|rfl|rfl|rfl|rfl|rfl|rfl|rfl|rfl|rfl|rfl<;>exact⟨rfl,Fr.refl _ _⟩
def KC{s:ByteArray}{i:Nat}(d:i<s.size):s[i]? =some (gQ (bl s) i):=by
 have h:i<(bl s).length:=d;have e:gQ (bl s) i=(bl s)[i]:=by unfold gQ;rw[List.getD_eq_getElem?_getD,a0 h];rfl
 rw[e,getElem?_pos s i d];rfl
def rU(c:UInt8)(m:List UInt8):i3 (c::m)=(ai (m.length<=15)&&gj c&&m.all dV):=rfl
def UF(s:ByteArray)(w:J):aj U MZ #[.string s] w λr a=>r=ad (.bool (i3 (bl s)))/\ag w a:=by
 have q:(bl s).length=s.size:=cZ s;have no:i3 (bl s)=false->(Ending.returned (.bool false)=ad (.bool (i3 (bl s)))/\ag w w):=λe=>⟨by rw[e],Fr.refl _ _⟩;cases y:bl s with
 |nil=>
  have z:s.size=0:=by rw[<-q,y];rfl
  exact nr.ok (aU (aQ io) ⟨rfl,Fr.refl _ _⟩)
 |cons c m=>
  have L:s.size=m.length+1:=by rw[<-q,y];rfl
  rw[y]at no;have F:gQ (bl s) 0=c:=by rw[y];rfl
  have z:s[aZ 0]? =some c:=by rw[<-F];exact KC io
  refine nr.ok (aW (aS io) (aY (λe=>no ?_) (λe=>⟨io,c,z,aY (λK=>no ?_) (λK=>⟨io,c,z,aY (λg=>no ?_) (λg=>?_)⟩)⟩)))
  .rw [rU,aS io];rfl
  .rw [rU];unfold gj;rw[aS (show ¬97<=c.toNat by omega)];simp
  .rw [rU];unfold gj;rw[aS (show ¬c.toNat<=122 by omega)];simp
  have D:i3 (c::m)=m.all dV:=by rw[rU];unfold gj;rw[aQ (show m.length<=15 by omega),aQ (show 97<=c.toNat by omega),aQ (show c.toNat<=122 by omega)];simp
  have E:i3 (c::m)=(bl s).all dV:=by rw[D,y,List.all_cons];unfold dV gj;rw[aQ (show 97<=c.toNat by omega),aQ (show c.toNat<=122 by omega)];simp
  rw[E];have loop:∀(d i:Nat),i+d=s.size->(bl s).all dV=((bl s).drop i).all dV->nr.L1 s (i:Int) w λr a=>r=ad (.bool ((bl s).all dV))/\ag w a:=by
   intro d;induction d with
   |zero=>
    intro i G h;rw[List.drop_of_length_le io]at h;exact nr.ik (aW (aS io) ⟨by rw[h];rfl,Fr.refl _ _⟩)
   |succ d H=>
    intro i G h;have j:=KC (show i<s.size by omega);rw[List.drop_eq_getElem_cons (by omega:i<(bl s).length),List.all_cons,show(bl s)[i]'io=gQ (bl s) i by unfold gQ;rw[List.getD_eq_getElem?_getD,a0 (by omega:i<(bl s).length)];rfl]at h;generalize gQ (bl s) i=x at j h;have go:dV x=true->nr.S4 s (i:Int) w λr a=>r=ad (.bool ((bl s).all dV))/\ag w a:=λe=>by show nr.L1 s (aD .i64 ((i:Int)+1)) w _;rw[bp _ io];exact H (i+1) io (by rw[h,e,Bool.true_and])
    have stop:dV x=false->(Ending.returned (.bool false)=ad (.bool ((bl s).all dV))/\ag w w):=λe=>⟨by rw[h,e,Bool.false_and],Fr.refl _ _⟩;have C:gj x=false->∀o:Bool,o=((ai (48<=x.toNat)&&ai (x.toNat<=57))||x==45)->nr.S3 s (i:Int) false o w λr a=>r=ad (.bool ((bl s).all dV))/\ag w a:=λb o f=>by
     refine aU rfl (eO (λe=>stop ?_) (λe=>go ?_))
     .unfold dV;rw[b,Bool.false_or,<-f,e]
     .unfold dV;rw[b,Bool.false_or,<-f,e]
    have B:(((x.toNat:Int)==45):Bool)=(x==45):=by
     by_cases e:x=45
     .subst e;rfl
     .rw [beq_eq_false_iff_ne.2 e,beq_eq_false_iff_ne];intro g;exact e (UInt8.toNat_inj.1 (by have:((45:UInt8).toNat:Int)=45:=rfl;omega))
    have k:((i:Int)).toNat=i:=bG i;have A:∀l:Bool,l=gj x->nr.S2 s (i:Int) l w λr a=>r=ad (.bool ((bl s).all dV))/\ag w a:=λl q=>by
     have fin:∀o:Bool,o=((ai (48<=x.toNat)&&ai (x.toNat<=57))||x==45)->nr.S3 s (i:Int) l o w λr a=>r=ad (.bool ((bl s).all dV))/\ag w a:=λo f=>by
      cases b:gj x with
      |true=>rw[q,b];exact aW rfl (go (by unfold dV;rw[b];rfl))
      |false=>rw[q,b];exact C b o f
     refine⟨io,x,by rw[k];exact j,aY (λe=>⟨io,x,by rw[k];exact j,aY (λI=>fin true ?_) (λI=>⟨io,x,by rw[k];exact j,?_⟩)⟩) (λe=>⟨io,x,by rw[k];exact j,?_⟩)⟩
     .rw [aQ (show 48<=x.toNat by omega),aQ (show x.toNat<=57 by omega)];rfl
     .rw [B];exact fin _ (by rw[aS (show ¬x.toNat<=57 by omega)];simp)
     .rw [B];exact fin _ (by rw[aS (show ¬48<=x.toNat by omega)];simp)
    refine nr.ik (aU (aQ io) ⟨io,x,by rw[k];exact j,aY (λe=>⟨io,x,by rw[k];exact j,A _ ?_⟩) (λe=>A _ ?_)⟩)
    .unfold gj;rw[aQ (show 97<=x.toNat by omega),Bool.true_and];exact decide_eq_decide.2 io
    .unfold gj;rw[aS (show ¬97<=x.toNat by omega),Bool.false_and]
  exact loop s.size 0 io gs
def F7(n b a:Int)(w:J):aj U w4 #[.int .i64 n,.int .i64 b,.int .i64 a] w λr e=>r=ad (.bool (ai (b<=n/\n<=a)))/\ag w e:=by
 refine JW.ok (aY (λd=>⟨?_,Fr.refl _ _⟩) (λd=>⟨?_,Fr.refl _ _⟩))
 .have:(b<=n/\n<=a)↔n<=a:=⟨λd=>d.2,λc=>⟨d,c⟩⟩;simp only[this]
 .rw [aS io]
def aai(s:aP)(w:J):aj U MQ #[dA s] w λr c=>r=ad (.int .i64 (fX s))/\ag w c:=by
 refine rA.aq ((bT [] gs).ax λo y m=>?_);have fin:∀{a:J} {L:List En} (b:Bool),b=bw s->O F0 w a L []->rA.a1 b a λr c=>r=ad (.int .i64 (fX s))/\ag w c:=by
  rintro a L b rfl z;refine eO (λd=>⟨?_,z.fr⟩) (λd=>⟨?_,z.fr⟩)
  .unfold fX;rw[aa (by simp[d])]
  .unfold fX;rw[af d]
 have plain:∀e:Int,(bw s=(ai (e<=s.n/\s.n<=64)&&(s.x==0)))->fH [o] U w4 #[.int .i64 s.n,.int .i64 e,.int .i64 64] y λq a=>∃j:Bool,q=ad (.bool j)/\bB j (rA.a1 (s.x==0) a λr c=>r=ad (.int .i64 (fX s))/\ag w c) (rA.a1 false a λr c=>r=ad (.int .i64 (fX s))/\ag w c):=by
  intro e k;refine m.av (F7 _ _ _ y) ?_;rintro _ a rfl h;refine⟨_,rfl,bq (λd=>fin _ ?_ h) (λd=>fin _ ?_ h)⟩
  .rw [k,d];rfl
  .rw [k,d];rfl
 have array:∀e:Int,(bw s=(ai (e<=s.n/\s.n<=64)&&ai (1<=s.x/\s.x<=16)))->fH [o] U w4 #[.int .i64 s.n,.int .i64 e,.int .i64 64] y λq a=>∃j:Bool,q=ad (.bool j)/\bB j (fH [o] U w4 #[.int .i64 s.x,.int .i64 1,.int .i64 16] a λq B=>∃l:Bool,q=ad (.bool l)/\rA.a1 l B λr c=>r=ad (.int .i64 (fX s))/\ag w c) (rA.a1 false a λr c=>r=ad (.int .i64 (fX s))/\ag w c):=by
  intro e k;refine m.av (F7 _ _ _ y) ?_;rintro _ a rfl h;refine⟨_,rfl,bq (λd=>h.av (F7 _ _ _ a) ?_) (λd=>fin _ ?_ h)⟩
  .rintro _ C rfl A;exact⟨_,rfl,fin _ (by rw[k,d];rfl) A⟩
  .rw [k,d];rfl
 refine aw (λp=>plain 1 ?_) (λp=>aw (λf=>plain 0 ?_) (λf=>aw (λg=>array 1 ?_) (λg=>aw (λi=>array 0 ?_) (λi=>fin _ ?_ m))))
 .unfold bw;simp[p]
 .unfold bw;simp[f]
 .unfold bw;simp[g,Bool.and_assoc]
 .unfold bw;simp[i,Bool.and_assoc]
 .unfold bw;simp[p,f,g,i]
section
variable {M:Nat->Prop} {w0 w:J} {L D:List En} {bs:List Nat}
def Cu(w:J)(a:Nat)(e:List V)(d:aE)(b:Nat):¬(En.c a e d).P ({w with heap:=gd (b+1) (.map #[] 0)}):=by intro h;have h:({w with heap:=gd (b+1) (.map #[] 0)}:J).heap[a]? =some (.cells e.toArray d (0,0)):=h;simp[Array.getElem?_replicate]at h
def q9{d:Nat}{vs:List V}{ty:aE}{b:Nat}:b∈(En.c d vs ty).fp↔b=d:=by simp[En.c,En.ob]
def _root_.Go.W.O.Bm{d:Nat}{vs:List V}{ty:aE}(H:O M w0 w (.c d vs ty::L) D){w':J}(f:Fr (·=d) w w'){j:List V}(y:w'.heap[d]? =some (.cells j.toArray ty (0,0))):
  O M w0 w' (.c d j ty::L) D/\∀h:En,h.P w'->(∀b∈h.fp,w.heap.size<=b)->O M w0 w' (.c d j ty::L) (D++[h]):=by
 have e:O M w0 w' (.c d j ty::L) D:=H.yP 0 f y;refine⟨e,λh l m=>⟨e.fr,e.own,λk a=>?_,e.new,e.nd,λk a b x q i g=>?_⟩⟩
 .rcases aK.1 a with a|a
  .exact e.rd k a
  .simp at a;subst a;exact l
 .rcases aK.1 a with a|a
  .exact e.dj k a b x q i g
  .simp at a;subst a;have z:=m b x;have A:b<w.heap.size:=by
    rcases aF.1 i with rfl|i
    .have g:=q9.1 g;have:=(En.c d vs ty).lt w (H.get 0) d (q9.2 rfl);omega
    .exact q.lt w (H.own q (cJ _ i)) b g
   omega
def _root_.Go.W.O.rf{e:Nat}{vs:List V}{ty:aE}(H:O M w0 w (.c e vs ty::L) D){P:Program}{g:bX}{args:Array V}{A:aB}{j:List V}{K:aB}(d:aj P g args w λr a=>(A r a/\a.heap[e]? =some (.cells j.toArray ty (0,0)))/\Fr (·=e) w a)(i:∀r a,A r a->O M w0 a (.c e j ty::L) D->(∀h:En,h.P a->(∀b∈h.fp,w.heap.size<=b)->O M w0 a (.c e j ty::L) (D++[h]))->K r a):aj P g args w K:=
 d.mono λr a ⟨⟨q,k⟩,f⟩=>i r a q (H.Bm f k).1 (H.Bm f k).2
def _root_.Go.W.O.iV{e:Nat}{vs:List V}{ty:aE}(H:O M w0 w (.c e vs ty::L) D){P:Program}{g:bX}{args:Array V}{A:aB}{j:List V}{K:aB}(k:aj P g args w λr a=>(A r a/\a.heap[e]? =some (.cells j.toArray ty (0,0)))/\Fr (·=e) w a)(l:∀r a,A r a->O M w0 a (.c e j ty::L) D->(∀h:En,h.P a->(∀b∈h.fp,w.heap.size<=b)->O M w0 a (.c e j ty::L) (D++[h]))->K r a)(d:∀b∈bs,En.g b∈(En.c e vs ty::L):=by simp):fH bs P g args w K:=
 ⟨(·=e),λb y m=>zc H (i:=0) rfl (Cu w e vs ty) (d b y) (by rw[m];exact q9.2 rfl),k.mono λr a ⟨⟨x,q⟩,f⟩=>⟨f,l r a x (H.Bm f q).1 (H.Bm f q).2⟩⟩
end
end Go.Proofs.YtjakeaplbkhjmaaGreatDoor
end

import Derived.Test.YtkbmpalepmakmabGreatDoorU
import Derived.Test.YtkbmpalepmakmabGreatDoorN0
import Derived.Laws.StandIn
import Derived.Lib.Bytealg
import Derived.Test.YtkbmpalepmakmabGreatDoorW
set_option linter.unusedVariables false
set_option maxRecDepth 100000
set_option maxHeartbeats 2000000
set_option linter.defProp false
noncomputable section
namespace Go.Proofs.YtkbmpalepmakmabGreatDoor
open Go renaming World->I,Calls->ai,Value->V,TypeId->aE,Ending->cW,FuncId->b3,LoopState->eQ
open Go.IntKind renaming wrap->aB
open _root_.Int renaming toNat->a0,tdiv->dV,tmod->eI,toNat_natCast->bR
open Go.IntWalk renaming i64_in->bo
open Go.Builtin renaming append_->fM
open _root_.Nat renaming le_trans->bB,zero_le->dc
open _root_.UInt8 renaming ofNat->cX
open _root_.Option.some renaming inj->ed
open _root_.Array renaming replicate->gq
open Go.Proofs.Tryz renaming prog->U
open _root_.Decidable renaming decide->ak
open Go.Ending renaming returned->ad
open List renaming mem_append->aP,mem_cons->aF,not_mem_nil->aZ,mem_of_getElem?->aD,getElem?_eq_getElem->aY,getElem?_eq_some_iff->cL,mem_append_left->cm,mem_append_right->da,mem_flatMap->ck,mem_map->dA,flatMap_append->dK,flatMap_cons->dz,mem_iff_getElem?->iB,nodup_append->ff,mem_cons_of_mem->cP,map_append->ey,getElem?_set_self->mD
open Go Go.W
namespace Sk
def ok:=aA (ay U Tryz.f216 [] []) O7 [.Y]
end Sk
namespace Sf
def ok:=aA (ay U Tryz.f233 [] []) O4 [.Y]
end Sf
namespace Bq
abbrev S1:=ah (ay U Tryz.f217 [(4,ls [0,1,2,3,5,6,7,8,4,9,10,11])] []) [3] []
abbrev t1:=aj S1
abbrev S0:=ah t1 [2] [(0,.st),(1,.I)]
abbrev t2:=aj S0
def ok:=aA t2 OV [.st,.I]
end Bq
namespace vP
abbrev P0:Ps:=[(0,.st),(1,.I),(4,.l [.Y,.Y,.Y,.st,.I] pc),(7,.I)]
def cq:=bq (ay U Tryz.f185 [] [4]) [0,2,1,1,3,2,2] P0
abbrev t1:=bp cq
abbrev bH:=ah t1 [2,1,3,2,2] P0
abbrev t2:=aj bH
def dF:=bE t2 cq
abbrev fB:=ah t2 [3] [(1,.I),(4,.l [.Y,.Y,.Y,.st,.I] pc)]
abbrev t3:=aj fB
abbrev rT:=ah t3 [5,1,5,2,2] [(0,.st),(1,.I),(4,.l [.Y,.Y,.Y,.st,.I] pc),(8,.Y),(10,.b),(11,.I),(12,.Y)]
abbrev t4:=aj rT
abbrev cG:=ah t4 [2,1,5,2,2] [(0,.st),(1,.I),(4,.l [.Y,.Y,.Y,.st,.I] pc),(8,.Y),(10,.b),(11,.I)]
abbrev t5:=aj cG
abbrev aV:=ah t5 [2] [(0,.st),(1,.I),(4,.l [.Y,.Y,.Y,.st,.I] pc),(6,.Y)]
abbrev t6:=aj aV
def aq:=aA t6 F3 [.st,.I]
end vP
namespace Bs
noncomputable def C0:Code:=(Tryz.f184.body).getD .skip
noncomputable def C1:=C0.fs
noncomputable def C2:=C1.sn
noncomputable def C3:=C2.fs
noncomputable def C4:=C3.fs
noncomputable def C5:=C0.sn
abbrev Q0(R:aC):ly:=(Exit.then (g5 U (cx 39) C5 (bodyPost U Tryz.f184 R)) (bodyPost U Tryz.f184 R))
abbrev Q1(R:aC):ly:=(Exit.inBlock 0 (Q0 R))
def L0(a:Nat)(c:Addr)(b:Int)(w:I)(R:aC):Prop:=LP U (cx 39) C4 (Q1 R) [(0,.func (.yield a) #[] #[]),(1,.pointer (some c)),(3,.i b)] w
def qJ(E:Env)(w:I)(R:aC):Prop:=W.zA (Env.get? E 0) λa=>W.b7 (Env.get? E 1) λc=>W.asInt .i64 (Env.get? E 3) λb=>L0 a c b w R
def ua:It U 39 qJ C4 Q1:=by intro w q z e;obtain⟨A,h,h_1⟩:=W.IW e;obtain⟨y,j,h_2⟩:=W.cr h_1;obtain⟨x,k,h_3⟩:=W.nP h_2;intro a d;exact h_3 a (d.cons h (d.cons j (d.cons k d.nil)))
noncomputable def C6:=C4.fs
noncomputable def C7:=C4.sn
noncomputable def C8:=C7.fs
noncomputable def C9:=C8.fs
noncomputable def kB:=C9.sn
noncomputable def kC:=kB.fs
noncomputable def l5:=C8.sn
noncomputable def nF:=l5.sn
noncomputable def ph:=nF.fs
noncomputable def qH:=nF.sn
noncomputable def mP:=C6.sn
noncomputable def pj:=mP.fs
noncomputable def nG:=kC.sn
noncomputable def po:=kB.sn
noncomputable def kD:=ph.sn
noncomputable def nH:=kD.fs
noncomputable def rO:=kD.sn
noncomputable def qI:=mP.sn
def b'(d:Nat)(g:Addr)(f:Int)(w:I)(R:aC)(D:∃z:ByteArray,w.cell? g=some (.string z)/\
 bD (ak (f<(z.size:Int))) (∃B:ByteArray,w.cell? g=some (.string B)/\
 (0:Int)<=f/\∃y:UInt8,B[a0 f]? =some y/\bD ((y.toNat:Int)==32) (L0 d g (aB .i64 (f+1)) w R) (∃k:ByteArray,w.cell? g=some (.string k)/\
 Xq F3 #[.string k,.i f] w λF l m o p G j=>de j (.cells #[.int .u8 0,.int .u8 0,.int .u8 0,.s0,.i 0] pc) λH=>
 TL H (nb j) (.int .u8 F) (.int .u8 l) (.int .u8 m) (.string o) (.i p) λA=>MB A (nb j) λr s t u K=>pd U d #[.agg #[.int .u8 r,.int .u8 s,.int .u8 t,.string u,.i K]] A λ(C:Bool) h=>bD (!C) (R (ad (.tuple #[])) h) (∃q:Int,h.cell? ((nb j).add 0)=some (.int .u8 q)/\
 bD (q==63) (R (ad (.tuple #[])) h) (L0 d g (aB .i64 (f+G)) h R)))) (∃x:ByteArray,w.cell? g=some (.string x)/\
 pd U d #[.agg #[.int .u8 36,.int .u8 0,.int .u8 0,.s0,.i (x.size:Int)]] w λ(L:Bool) J=>R (ad (.tuple #[])) J)):L0 d g f w R:=
 LP.step (n:=(cx 39)) (c:=C4) (E:=[(0,.func (.yield d) #[] #[]),(1,.pointer (some g)),(3,.i f)]) (w:=w) (sq C4 (sr C6 (show(λ(E:Env) (w:I)=>eV U C6 (λE w=>iM (Env.val E (.tmp 9)) (eV U C9 (λE w=>iM (Env.val E (.tmp 13)) (eV U kC (λE w=>qJ E w R) E w) (eV U l5 (λE w=>eV U ph (λE w=>iM (Env.val E (.tmp 30)) (lW U Tryz.f184 E w (λv=>R (ad v) w)) (Bv U qH (λE w=>qJ E w R) E w)) E w) E w)) E w) (Bv U C5 (λE w=>lW U Tryz.f184 E w (λv=>R (ad v) w)) E w)) E w) [(0,.func (.yield d) #[] #[]),(1,.pointer (some g)),(3,.i f)] w from mp D) λ_ _ b=>(cn mP b (λb=>(sk pj λa e=>nx e (bk C7 1 (by kernel_rfl) (sq C8 (sr C9 b λ_ _ b=>(cn kB b (λb=>(sr kC b λ_ _ b=>(xt nG 1 (by kernel_rfl) λa e=>ua R _ _ b a e))) (λb=>(sk po λa e=>nx e (sr l5 b λ_ _ b=>(sq nF (sr ph b λ_ _ b=>(cn kD b (λb=>(rt nH λa e=>yv e b)) (λb=>(sk rO λa e=>nx e (rg qH (by kernel_rfl) b λ_ _ a e b=>ua R _ _ b a e))))))))))))))) (λb=>(xt qI 0 (by kernel_rfl) λa e=>nx e (rg C5 (by kernel_rfl) b λ_ _ a e b=>yv e b))))))
def ok(a:Nat)(b:Addr)(w:I)(R:aC)(e:L0 a b 0 w R):ai U sX #[.func (.yield a) #[] #[],.pointer (some b)] w R:=
 wW (R:=R) (fn:=Tryz.f184) (c:=C0) (args:=[.func (.yield a) #[] #[],.pointer (some b)]) (by kernel_rfl) (by kernel_rfl) (by kernel_rfl) (sq C0 (sr C1 (show(λ(E:Env) (w:I)=>eV U C1 (λE w=>qJ E w R) E w) (kS 0 [.func (.yield a) #[] #[],.pointer (some b)]) w from mp e) λ_ _ d=>(bk C2 0 (by kernel_rfl) (lp C3 (by kernel_rfl) (ua R _ _ d)))))
end Bs
namespace Sn
def ok:=aA (ay U Tryz.f158 [] []) O8 [.st]
end Sn
namespace Se
def aq:=aA (ay U Tryz.f192 [] [4]) AT [.I,.s]
end Se
namespace ys
def a1:=bq (ay U Tryz.f191 [(4,(.sq [0,1,2,3,4,5,6,7,8,10,11] (.fork (ls [9,12]) (ls [12,9]))))] [2]) [0,2,1] [(0,.r),(2,.l [.I,.Y,.Y,.s] aS)]
abbrev t1:=bp a1
def bS:=bE t1 a1
def aq:=aA t1 O1 [.r]
end ys
namespace Sc
abbrev S0:=ah (ay U Tryz.f189 [(1,(.sq [0,1,2,3,4,5,6,7,9] (.fork (.sq [8,10,11,12,14,15] (.fork (ls [13,16]) (ls [16,13]))) (.sq [10,8,11,12,14,15] (.fork (ls [13,16]) (ls [16,13]))))))] []) [2] [(0,.r)]
abbrev t1:=aj S0
def ok:=aA t1 O2 [.r]
end Sc
namespace Sa
abbrev S0:=ah (ay U Tryz.f190 [(1,(.sq [0,1,2,3,4,5,6,7,9] (.fork (.sq [8,10,11,12,14,15] (.fork (ls [13,16]) (ls [16,13]))) (.sq [10,8,11,12,14,15] (.fork (ls [13,16]) (ls [16,13]))))))] []) [2] [(0,.r)]
abbrev t1:=aj S0
def ok:=aA t1 O0 [.r]
end Sa
namespace Sb
def aq:=aA (ay U Tryz.f161 [] [2,3]) FU [.r]
end Sb
namespace G8
def ok:=aA (ay U Tryz.f160 [(1,lr 12)] []) AU [.r]
end G8
namespace Sj
def ok:=aA (ay U Tryz.f186 [] []) O6 [.r,.I,.I]
end Sj
namespace Sg
def aq:=aA (ay U Tryz.f218 [(1,ls [0,2,1,3,4,5])] [3]) FY [.r,.a 4,.I,.Y,.Y,.s]
end Sg
namespace Si
def ok:=aA (ay U Tryz.f187 [(2,lr 15)] []) FZ [.r,.s]
end Si
namespace G7
abbrev aV:=ah (ay U Tryz.f188 [] [3]) [2,1,7,1,1,1,1] []
abbrev t1:=aj aV
def aq:=aA t1 F2 [.r,.a 5,.Y,.Y,.Y,.st,.I]
end G7
namespace yu
abbrev aV:=ah (ay U Tryz.f159 [(25,(.sq [0,1,2,3,4,6] (.fork (.sq [5,7,8,9,11,12] (.fork (ls [10,13]) (ls [13,10]))) (.sq [7,5,8,9,11,12] (.fork (ls [10,13]) (ls [13,10])))))),(28,lr 19)] [3]) [4] []
abbrev t1:=aj aV
abbrev bg:=ah t1 [2,1,7,1,1,1,3] [(0,.r)]
abbrev t2:=aj bg
def aq:=aA t2 F1 [.r,.a 5,.Y,.Y,.Y,.st,.I]
end yu
namespace G4
noncomputable def C0:Code:=(Tryz.f129.body).getD .skip
noncomputable def C1:=C0.sn
noncomputable def C2:=C1.sn
noncomputable def C3:=C2.sn
noncomputable def C4:=C3.fs
noncomputable def C5:=C4.sn
noncomputable def C6:=C5.fs
noncomputable def C7:=W.Code.I2 C6
noncomputable def C8:=W.Code.I9 C6
noncomputable def C9:=C8.fs
noncomputable def kB:=C9.sn
noncomputable def kC:=kB.fs
abbrev Q0(a:Nat)(b:Loop)(R:aC):Exit->Act->I->Prop:=(roundPost U a R)
abbrev Q1(b:Nat)(a:Loop)(R:aC):Exit->Act->I->Prop:=(Exit.inBlock 1 (Q0 b a R))
noncomputable def l5:=kC.fs
noncomputable def nF:=kC.sn
abbrev S3(f:Nat)(b:eQ->Option Code->Obj)(g j k c:Addr)(w:I)(R:aC):Prop:=
 uI w λd=>∃a:Int,d.cell? (c.add 4)=some (.i a)/\
 n7 d g (.i 0) (.int .u8 0) (.int .u8 0) (.slice none 0 0) λe=>e.cell? (c.add 4)=some (.i a)/\aN e j (.i a) λl=>
 aN l k (.i 2) λm=>
 hG m f (b .busy none) (b .done (some .ret)) λn=>R (ad (.bool false)) n
def wz(a:Nat)(b:eQ->Option Code->Obj)(E:Env)(w:I)(R:aC):Prop:=W.b7 (Env.get? E 2) λc=>W.b7 (Env.get? E 3) λd=>W.b7 (Env.get? E 4) λe=>W.b7 (Env.get? E 6) λf=>S3 a b c d e f w R
def CC(d:Nat)(b:Loop)(R:aC)(E:Env)(w:I)(h:wz d (lo b) E w R):WP U ⟨32,[],some d⟩ kC (Q1 d b R) E w:=by obtain⟨B,k,h_1⟩:=W.cr h;obtain⟨C,q,h_2⟩:=W.cr h_1;obtain⟨D,z,h_3⟩:=W.cr h_2;obtain⟨F,A,j⟩:=W.cr h_3;exact λa e=>WP.at (n:=⟨32,[],some d⟩) (E:=[(2,.pointer (some B)),(3,.pointer (some C)),(4,.pointer (some D)),(6,.pointer (some F))]) (WP.seq (c:=kC) (x:=l5) (y:=nF) (by kernel_rfl)<|WP.draw (c:=l5) [0,1,2,3,4,5] (λE w=>hG w d ((lo b) .busy none) ((lo b) .done (some .ret)) λi=>R (ad (.bool false)) i) (by kernel_rfl) (mp j) λ_ _ a f g=>(WP.ret (c:=nF) (Q:=(Q1 d b R)) (by kernel_rfl) λa f=>(show roundPost U d R .ret a _ from Sy (a:=a) (g).1 (g).2)) a f) (e.cons k (e.cons q (e.cons z (e.cons A e.nil))))
noncomputable def ph:=C9.fs
noncomputable def qH:=kB.sn
abbrev S2(g:Nat)(f:eQ->Option Code->Obj)(n o p m k:Addr)(w:I)(R:aC):Prop:=
 MB w k λa b c d e=>JU F1 #[.pointer (some m),.agg #[.int .u8 a,.int .u8 b,.int .u8 c,.string d,.i e]] w λh l=>bD (!h) (S3 g f n o p k l R) (hG l g (f .busy none) (f .ready none) λj=>R (ad (.bool true)) j)
def wy(a:Nat)(b:eQ->Option Code->Obj)(E:Env)(w:I)(R:aC):Prop:=W.b7 (Env.get? E 2) λd=>W.b7 (Env.get? E 3) λe=>W.b7 (Env.get? E 4) λf=>W.b7 (Env.get? E 5) λc=>W.b7 (Env.get? E 6) λg=>S2 a b d e f c g w R
def CB(d:Nat)(b:Loop)(R:aC)(E:Env)(w:I)(h:wy d (lo b) E w R):WP U ⟨32,[],some d⟩ C9 (Q1 d b R) E w:=by obtain⟨F,q,h_1⟩:=W.cr h;obtain⟨G,z,h_2⟩:=W.cr h_1;obtain⟨H,A,h_3⟩:=W.cr h_2;obtain⟨D,B,j⟩:=W.cr h_3;obtain⟨J,C,k⟩:=W.cr j;exact λa f=>WP.at (n:=⟨32,[],some d⟩) (E:=[(2,.pointer (some F)),(3,.pointer (some G)),(4,.pointer (some H)),(5,.pointer (some D)),(6,.pointer (some J))]) (WP.seq (c:=C9) (x:=ph) (y:=kB) (by kernel_rfl)<|WP.mE (c:=ph) (λE w=>iM (Env.val E (.tmp 20)) (wz d (lo b) E w R) (hG w d ((lo b) .busy none) ((lo b) .ready none) λi=>R (ad (.bool true)) i)) (by kernel_rfl) (mp k) λ_ _ a g e=>(WP.iM (c:=kB) (x:=kC) (y:=qH) (o:=.tmp 20) (by kernel_rfl) (λe=>(CC d b R _ _ e)) (λe=>(WP.skip (c:=qH) (by kernel_rfl) λa g=>Sx (a:=a) (e).1 (e).2)) e) a g) (f.cons q (f.cons z (f.cons A (f.cons B (f.cons C f.nil)))))
abbrev Q2(b:Nat)(a:Loop)(R:aC):Exit->Act->I->Prop:=(wE U 32 b a C8 (roundPost U b R))
abbrev S1(g:Nat)(f:eQ->Option Code->Obj)(k l m j:Addr)(a b c:Int)(d:ByteArray)(e:Int)(w:I)(R:aC):Prop:=
 de w (.cells #[.int .u8 0,.int .u8 0,.int .u8 0,.s0,.i 0] pc) λn=>
 TL n (nb w) (.int .u8 a) (.int .u8 b) (.int .u8 c) (.string d) (.i e) λo=>hG o g (f .ready none) (f .busy none) λp=>S2 g f k l m j (nb w) p R
def Cz(r:Nat)(s:eQ->Option Code->Obj)(E:Env)(w:I)(R:aC):Prop:=W.b7 (Env.get? E 2) λu=>W.b7 (Env.get? E 3) λv=>W.b7 (Env.get? E 4) λq=>W.b7 (Env.get? E 5) λt=>W.asAgg (Env.get? E 17) λa=>W.jF a λg b=>W.asInt .u8 (some g) λm=>W.jF b λi c=>W.asInt .u8 (some i) λn=>W.jF c λh d=>W.asInt .u8 (some h) λo=>W.jF d λj e=>W.qP (some j) λp=>W.jF e λl f=>W.asInt .i64 (some l) λk=>W.l9 f<|S1 r s u v q t m n o p k w R
def CA(d:Nat)(b:Loop)(R:aC)(E:Env)(w:I)(h:Cz d (lo b) E w R):WP U ⟨32,[],some d⟩ C7 (Q2 d b R) E w:=by obtain⟨t2,L,h_1⟩:=W.cr h;obtain⟨t3,M,h_2⟩:=W.cr h_1;obtain⟨t4,N,h_3⟩:=W.cr h_2;obtain⟨P,O,C⟩:=W.cr h_3;obtain⟨aa,K,D⟩:=W.zy C;obtain⟨ah,ab,rfl,F⟩:=W.lE D;obtain⟨Q,ex,G⟩:=W.nP F;obtain rfl:=ed ex;obtain⟨aj,ac,rfl,H⟩:=W.lE G;obtain⟨S,ex,J⟩:=W.nP H;obtain rfl:=ed ex;obtain⟨am,ae,rfl,j⟩:=W.lE J;obtain⟨T,ex,k⟩:=W.nP j;obtain rfl:=ed ex;obtain⟨an,af,rfl,q⟩:=W.lE k;obtain⟨Y,ex,y⟩:=W.uq q;obtain rfl:=ed ex;obtain⟨ao,ag,rfl,z⟩:=W.lE y;obtain⟨Z,ex,A⟩:=W.nP z;obtain rfl:=ed ex;obtain⟨rfl,B⟩:=W.qO A;exact λa e=>WP.at (n:=⟨32,[],some d⟩) (E:=[(2,.pointer (some t2)),(3,.pointer (some t3)),(4,.pointer (some t4)),(5,.pointer (some P)),(17,.agg #[.int .u8 Q,.int .u8 S,.int .u8 T,.string Y,.i Z])]) (WP.mE (c:=C7) (λE w=>w.heap[d]? =some (lo b .ready none)/\((λw=>wy d (lo b) E w R) (w.putObj d (lo b .busy none)))) (by kernel_rfl) (mp B) λ_ _ a g f=>⟨(f).1,(WP.block (c:=C8) (x:=C9) (id:=1) (by kernel_rfl) (CB d b R _ _ (f).2)) a g⟩) (e.cons L (e.cons M (e.cons N (e.cons O (e.cons K e.nil)))))
abbrev rM(g:Nat)(i:eQ->Option Code->Obj)(n:ByteArray)(k l m j f:Addr)(a b c:Int)(d:ByteArray)(e:Int)(w:I)(R:aC):Prop:=
 S1 g i k l m j a b c d e w R
def CT(j:Nat)(b:Loop)(l:ByteArray)(m n o k a:Addr)(c d e:Int)(f:ByteArray)(g:Int)(w:I)(R:aC)(h:rM j (lo b) l m n o k a c d e f g w R):WP U ⟨32,[],some j⟩ C7 (wE U 32 j b C8 (roundPost U j R)) (qn [(0,.string l),(2,.pointer (some m)),(3,.pointer (some n)),(4,.pointer (some o)),(5,.pointer (some k)),(16,.func (.func sX) #[] #[.pointer (some a)])] [17] [.agg #[.int .u8 c,.int .u8 d,.int .u8 e,.string f,.i g]]) w:=
 (CA j b R _ _ (mp h))
noncomputable def mP:=C3.sn
noncomputable def pj:=mP.sn
noncomputable def nG:=pj.fs
noncomputable def po:=nG.sn
noncomputable def kD:=po.fs
noncomputable def nH:=pj.sn
abbrev Q3(R:aC):ly:=(Exit.then (g5 U (cx 32) nH (bodyPostM Fence.wide 0 U Tryz.f129 R)) (bodyPostM Fence.wide 0 U Tryz.f129 R))
noncomputable def rO:=kD.fs
noncomputable def qI:=kD.sn
abbrev S6(m:Nat)(n:ByteArray)(j k l:Addr)(w:I)(R:aC):Prop:=
 n7 w j (.i 0) (.int .u8 0) (.int .u8 0) (.slice none 0 0) λo=>aN o k (.i (n.size:Int)) λp=>
 aN p l (.i 4) λh=>
 hG h m (.deferred (some [])) (.deferred none) λa=>jM a j λb c d e=>∃f:Int,a.cell? k=some (.i f)/\
 ∃g:Int,a.cell? l=some (.i g)/\
 R (ad (.tuple #[.agg #[.i b,.int .u8 c,.int .u8 d,e.v],.i f,.i g])) a
def ze(a:Nat)(E:Env)(w:I)(R:aC):Prop:=W.qP (Env.get? E 0) λb=>W.b7 (Env.get? E 2) λc=>W.b7 (Env.get? E 3) λd=>W.b7 (Env.get? E 4) λe=>S6 a b c d e w R
def CF(d:Nat)(R:aC)(E:Env)(w:I)(h:ze d E w R):WP U (marked 32 d) kD (Q3 R) E w:=by obtain⟨B,k,h_1⟩:=W.uq h;obtain⟨C,q,h_2⟩:=W.cr h_1;obtain⟨D,z,h_3⟩:=W.cr h_2;obtain⟨F,A,j⟩:=W.cr h_3;exact λa b=>WP.at (n:=(marked 32 d)) (E:=[(0,.string B),(2,.pointer (some C)),(3,.pointer (some D)),(4,.pointer (some F))]) (WP.seq (c:=kD) (x:=rO) (y:=qI) (by kernel_rfl)<|WP.mE (c:=rO) (λE w=>Bu U Tryz.f129 E w d R) (by kernel_rfl) (mp j) λ_ _ a e f=>(WP.ret (c:=qI) (by kernel_rfl) λa e=>yw e f) a e) (b.cons k (b.cons q (b.cons z (b.cons A b.nil))))
abbrev Q4(R:aC):ly:=(bodyPostM Fence.wide 0 U Tryz.f129 R)
noncomputable def tW:=nH.fs
noncomputable def tX:=nH.sn
abbrev S7(q:Nat)(n o p u:Addr)(w:I)(R:aC):Prop:=
 jM w u λa b c e=>n7 w n (.i a) (.int .u8 b) (.int .u8 c) (e.v) λr=>aN r o (.i 0) λs=>
 aN s p (.i 0) λt=>
 hG t q (.deferred (some [])) (.deferred none) λd=>jM d n λf g h j=>∃l:Int,d.cell? o=some (.i l)/\
 ∃m:Int,d.cell? p=some (.i m)/\
 R (ad (.tuple #[.agg #[.i f,.int .u8 g,.int .u8 h,j.v],.i l,.i m])) d
def Ip(a:Nat)(E:Env)(w:I)(R:aC):Prop:=W.b7 (Env.get? E 2) λb=>W.b7 (Env.get? E 3) λc=>W.b7 (Env.get? E 4) λd=>W.b7 (Env.get? E 7) λe=>S7 a b c d e w R
def Vn(d:Nat)(R:aC)(E:Env)(w:I)(h:Ip d E w R):WP U (marked 32 d) nH (Q4 R) E w:=by obtain⟨B,k,h_1⟩:=W.cr h;obtain⟨C,q,h_2⟩:=W.cr h_1;obtain⟨D,z,h_3⟩:=W.cr h_2;obtain⟨F,A,j⟩:=W.cr h_3;exact λa b=>WP.at (n:=(marked 32 d)) (E:=[(2,.pointer (some B)),(3,.pointer (some C)),(4,.pointer (some D)),(7,.pointer (some F))]) (WP.seq (c:=nH) (x:=tW) (y:=tX) (by kernel_rfl)<|WP.mE (c:=tW) (λE w=>Bu U Tryz.f129 E w d R) (by kernel_rfl) (mp j) λ_ _ a e f=>(WP.ret (c:=tX) (by kernel_rfl) λa e=>yw e f) a e) (b.cons k (b.cons q (b.cons z (b.cons A b.nil))))
noncomputable def y9:=nG.fs
noncomputable def y':=po.sn
abbrev S5(e:Nat)(n:ByteArray)(f j k m:Addr)(w:I)(R:aC):Prop:=
 jM w m λa b c d=>JU F4 #[.agg #[.i a,.int .u8 b,.int .u8 c,d.v]] w λg l=>bD g (S6 e n f j k l R) (S7 e f j k m l R)
def wA(a:Nat)(E:Env)(w:I)(R:aC):Prop:=W.qP (Env.get? E 0) λb=>W.b7 (Env.get? E 2) λc=>W.b7 (Env.get? E 3) λd=>W.b7 (Env.get? E 4) λe=>W.b7 (Env.get? E 7) λf=>S5 a b c d e f w R
def CE(b:Nat)(R:aC)(E:Env)(w:I)(h:wA b E w R):WP U (marked 32 b) nG (Q3 R) E w:=by obtain⟨D,q,h_1⟩:=W.uq h;obtain⟨F,z,h_2⟩:=W.cr h_1;obtain⟨G,A,h_3⟩:=W.cr h_2;obtain⟨H,B,j⟩:=W.cr h_3;obtain⟨J,C,k⟩:=W.cr j;exact λa d=>WP.at (n:=(marked 32 b)) (E:=[(0,.string D),(2,.pointer (some F)),(3,.pointer (some G)),(4,.pointer (some H)),(7,.pointer (some J))]) (WP.seq (c:=nG) (x:=y9) (y:=po) (by kernel_rfl)<|WP.mE (c:=y9) (λE w=>iM (Env.val E (.tmp 27)) (ze b E w R) (Ip b E w R)) (by kernel_rfl) (mp k) λ_ _ a f e=>(WP.iM (c:=po) (x:=kD) (y:=y') (o:=.tmp 27) (by kernel_rfl) (λe=>(CF b R _ _ e)) (λe=>(WP.skip (c:=y') (by kernel_rfl) λa f=>(Vn b R _ _ e) a f)) e) a f) (d.cons q (d.cons z (d.cons A (d.cons B (d.cons C d.nil)))))
noncomputable def Ij:=mP.fs
abbrev S4(g:Nat)(k:ByteArray)(l m n j:Addr)(w:I)(R:aC):Prop:=
 Xr AU #[.pointer (some j)] w λf o=>zK FU #[.pointer f] o λa b c e d=>de d (.cells #[.i 0,.int .u8 0,.int .u8 0,.slice none 0 0] aS) λp=>
 n7 p (nb d) (.i a) (.int .u8 b) (.int .u8 c) (e.v) λh=>S5 g k l m n (nb d) h R
def zd(a:Nat)(E:Env)(w:I)(R:aC):Prop:=W.qP (Env.get? E 0) λc=>W.b7 (Env.get? E 2) λd=>W.b7 (Env.get? E 3) λe=>W.b7 (Env.get? E 4) λf=>W.b7 (Env.get? E 5) λb=>S4 a c d e f b w R
def CD(d:Nat)(R:aC)(E:Env)(w:I)(h:zd d E w R):WP U (marked 32 d) mP (Q4 R) E w:=by obtain⟨F,q,h_1⟩:=W.uq h;obtain⟨G,z,h_2⟩:=W.cr h_1;obtain⟨H,A,h_3⟩:=W.cr h_2;obtain⟨J,B,j⟩:=W.cr h_3;obtain⟨D,C,k⟩:=W.cr j;exact λa b=>WP.at (n:=(marked 32 d)) (E:=[(0,.string F),(2,.pointer (some G)),(3,.pointer (some H)),(4,.pointer (some J)),(5,.pointer (some D))]) (WP.seq (c:=mP) (x:=Ij) (y:=pj) (by kernel_rfl)<|WP.mE (c:=Ij) (λE w=>wA d E w R) (by kernel_rfl) (mp k) λ_ _ a e f=>(WP.seq (c:=pj) (x:=nG) (y:=nH) (by kernel_rfl) (CE d R _ _ f)) a e) (b.cons q (b.cons z (b.cons A (b.cons B (b.cons C b.nil)))))
abbrev S0(x:ByteArray)(q r s k a:Addr)(w:I)(R:aC):Prop:=
 ∀g:eQ->Option Code->Obj,(∀(b c d:Int) (e:ByteArray) (f:Int) (t:I) (u:Bool->I->Prop),t.heap[w.heap.size+1]? =some (g .ready none)->rM (w.heap.size+1) g x q r s k a b c d e f t (λp C=>∃y:Bool,p=ad (.bool y)/\u y C)->pd U (w.heap.size+1) #[.agg #[.int .u8 b,.int .u8 c,.int .u8 d,.string e,.i f]] t u)->
 ai U sX #[.func (.yield (w.heap.size+1)) #[] #[],.pointer (some a)] ((w.alloc (.deferred (some []))).alloc (g .ready none)) λp D=>(∃B,p=ad B)/\rR D (w.heap.size+1) g (λh=>S4 w.heap.size x q r s k h R) (λE h=>False) (λh=>hG h w.heap.size (.deferred (some [])) (.deferred none) λj=>jM j q λl m n o=>∃z:Int,j.cell? r=some (.i z)/\
 ∃A:Int,j.cell? s=some (.i A)/\
 R (ad (.tuple #[.agg #[.i l,.int .u8 m,.int .u8 n,o.v],.i z,.i A])) j)
abbrev Q5(R:aC):ly:=(Exit.then (g5 U (cx 32) mP (bodyPostM Fence.wide 0 U Tryz.f129 R)) (bodyPostM Fence.wide 0 U Tryz.f129 R))
abbrev Q6(R:aC):ly:=(Exit.inBlock 0 (Q5 R))
def ub(E:Env)(w:I)(R:aC):Prop:=W.qP (Env.get? E 0) λg=>W.b7 (Env.get? E 2) λi=>W.b7 (Env.get? E 3) λh=>W.b7 (Env.get? E 4) λj=>W.b7 (Env.get? E 5) λf=>W.uo sX (Env.get? E 16) λc a=>W.l9 c<|W.jF a λd b=>W.b7 (some d) λe=>W.l9 b<|S0 g i h j f e w R
def Cy:Iq U 32 ub C6 Q6:=by
 intro k ah z q;obtain⟨x,Q,h_1⟩:=W.uq q;obtain⟨e,T,h_2⟩:=W.cr h_1;obtain⟨h,Y,h_3⟩:=W.cr h_2;obtain⟨j,Z,K⟩:=W.cr h_3;obtain⟨w,ab,L⟩:=W.cr K;obtain⟨an,aj,S,M⟩:=W.IU L;obtain⟨rfl,N⟩:=W.qO M;obtain⟨ao,am,rfl,O⟩:=W.lE N;obtain⟨y,ex,P⟩:=W.cr O;obtain rfl:=ed ex;obtain⟨rfl,J⟩:=W.qO P;exact λa b=>WP.at (n:=(cx 32)) (E:=[(0,.string x),(2,.pointer (some e)),(3,.pointer (some h)),(4,.pointer (some j)),(5,.pointer (some w)),(16,.func (.func sX) #[] #[.pointer (some y)])]) (WP.range (m:=32) (c:=C6) (g:=.tmp 16) (ps:=#[17]) (assign:=C7) (body:=C8) (gf:=sX) (lb:=#[.pointer (some y)]) (λl=>S4 z.heap.size x e h j w l k) (λae l=>False) (λl=>hG l z.heap.size (.deferred (some [])) (.deferred none) λd=>jM d e λs t u ac=>∃F:Int,d.cell? h=some (.i F)/\
 ∃G:Int,d.cell? j=some (.i G)/\
 k (ad (.tuple #[.agg #[.i s,.int .u8 t,.int .u8 u,ac.v],.i F,.i G])) d) (by kernel_rfl) rfl (by kernel_rfl)
  (λl o a r=>(CD z.heap.size k _ _ (mp o)) a r)
  (λ_ _ o=>o.elim)
  (λl o a r=>yw r (mp o))
  (λp H=>J (lo p) (λA B f C D w_ K_ ag af=>Vb (args:=[.agg #[.int .u8 A,.int .u8 B,.int .u8 f,.string C,.i D]]) H ag rfl (by kernel_rfl) (λ_ _ q=>q) (CT _ p x e h j w y A B f C D w_ _ af)))) (b.cons Q (b.cons T (b.cons Y (b.cons Z (b.cons ab (b.cons S b.nil))))))
noncomputable def Cs:=C1.fs
noncomputable def Ct:=Cs.sn
noncomputable def Cu:=Ct.fs
noncomputable def Vf:=Cu.sn
noncomputable def Vh:=Ct.sn
def ok(j:ByteArray)(w:I)(R:aC)(z:de w (.cells #[.i 0,.int .u8 0,.int .u8 0,.slice none 0 0] aS) λm=>
 de m (.cells #[.i 0] bz) λn=>
 de n (.cells #[.i 0] hr) λu=>
 bD (ak ((j.size:Int)>4096)) (n7 u (nb w) (.i 0) (.int .u8 0) (.int .u8 0) (.slice none 0 0) λC=>aN C (nb m) (.i 4096) λD=>
 aN D (nb n) (.i 4) λo=>
 jM o (nb w) λB r s t=>∃d:Int,o.cell? (nb m)=some (.i d)/\
 ∃e:Int,o.cell? (nb n)=some (.i e)/\
 R (ad (.tuple #[.agg #[.i B,.int .u8 r,.int .u8 s,t.v],.i d,.i e])) o) (de u (.cells #[.i (-1),.slice none 0 0,.slice none 0 0,.slice none 0 0,.slice none 0 0,.i 0,.i 0,.int .u8 0,.int .u8 0,.slice none 0 0] iX) λl=>
 de l (.cells #[.slice none 0 0,.i 0,.i 0] y3) λh=>
 BS h (nb l) (.slice (some (nb u)) 1 1) (.i 0) (.i 0) λk=>Dz O8 #[.string j] k λF q=>W.uo sX (some F) λf x=>W.l9 f<|W.jF x λg y=>W.b7 (some g) λA=>W.l9 y<|S0 j (nb w) (nb m) (nb n) (nb l) A q R)):ai U OR #[.string j] w R:=
 J1 (R:=R) (fn:=Tryz.f129) (c:=C0) (args:=[.string j]) (by kernel_rfl) (by kernel_rfl) (by kernel_rfl) (sr C0 (show(λ(E:Env) (w:I)=>eV U C0 (λE w=>eV U Cs (λE w=>iM (Env.val E (.tmp 10)) (eV U Cu (λE w=>lW U Tryz.f129 E w (λv=>R (ad v) w)) E w) (eV U C2 (λE w=>eV U C4 (λE w=>ub E w R) E w) E w)) E w) E w) (kS 0 [.string j]) w from mp z) λ_ _ b=>(sq C1 (sr Cs b λ_ _ b=>(cn Ct b (λb=>(sr Cu b λ_ _ b=>(rt Vf λa p=>Sw p b))) (λb=>(sk Vh λa p=>nx p (sr C2 b λ_ _ b=>(sq C3 (sr C4 b λ_ _ b=>(bk C5 0 (by kernel_rfl) (Cy R _ _ b)))))))))))
end G4
abbrev ee:=Sl×List V
def _root_.Go.W.En.rows(e:List ee):En:=⟨mB (e.flatMap λp:ee=>aG p.1),λh=>(∀p∈e,aK h aS 4 p.1 p.2)/\(e.flatMap λp:ee=>aG p.1).Nodup,
 λh g j d=>⟨λp c=>(d.1 p c).cw λb a f=>j b (aW.2 (ck.2 ⟨p,c,a⟩)) f,d.2⟩,
 λh d b a=>by obtain⟨p,c,a⟩:=ck.1 (aW.1 a);exact(d.1 p c).lt b a,s8 _⟩
def SI(c:List ee)(d:c≠[])(w:I)(b:Nat)(a:b∈(En.rows c).fp):¬(En.rows c).P ({w with heap:=gq (b+1) (.map #[] 0)}):=by
 rintro⟨e,_⟩;obtain⟨p,h,a⟩:=ck.1 (aW.1 a);obtain⟨j,f,k⟩:=(e p h).row.tL b a
 grind
section
variable {M:Nat->Prop} {w0 w:I} {L D:List En} {bs:List Nat}
def LK(H:O M w0 w L D){i:Nat}{d:List ee}(a:L[i]? =some (.rows d)){b:Nat}(c:En.g b∈L):b∉(En.rows d).fp:=by
 intro h;obtain⟨x,e⟩:=iB.1 c;by_cases j:i=x
 .subst j;rw[a]at e;have k:En.rows d=En.g b:=ed e;have q:d≠[]:=by rintro rfl;simp[En.rows,mB]at h
  refine SI d q w b h ?_;rw[k];show b<_;simp
 .exact j' H.nd a e j b h (by simp[En.g])
def YJ{e:List ee}{j:Nat}{s h:Sl}{vs q:List V}(a:e[j]? =some (s,vs))(b:(e.flatMap λp:ee=>aG p.1).Nodup)(c:(aG h).Nodup)(d:∀k∈aG h,k∈aG s\/k∉e.flatMap λp:ee=>aG p.1):((e.set j (h,q)).flatMap λp:ee=>aG p.1).Nodup:=
 Gd (f:=λp:ee=>aG p.1) a b c d
def Wi(s:Sl):(aG s).Nodup:=by unfold aG;grind
def AH{α:Type}{l:List α}{j:Nat}{a x:α}(d:x∈l.set j a):x=a\/∃i,i≠j/\l[i]? =some x:=by
 obtain⟨i,e⟩:=iB.1 d
 grind
def SG{d:List ee}(c:(d.flatMap λp:ee=>aG p.1).Nodup):∀{i j:Nat} {p q:ee},d[i]? =some p->d[j]? =some q->i≠j->∀b∈aG p.1,b∉aG q.1:=by
 induction d with
 |nil=>grind
 |cons a l e=>
  rw[dz,ff]at c
  grind
def Hi(H:O M w0 w L D){w':I}(i j:Nat){e:List ee}{s x:Sl}{vs z:List V}(m:L[i]? =some (.rows e))(d:e[j]? =some (s,vs))(f:Fr (λb=>b∈aG s) w w')(o:aK w' aS 4 x z)(c:∀b∈aG x,b∈aG s\/w.heap.size<=b):
  O M w0 w' (L.set i (.rows (e.set j (x,z)))) D:=by
 have h:(En.rows e).P w:=H.get i m;have C:∀b∈aG s,b∈(En.rows e).fp:=λb c=>aW.2 (ck.2 ⟨_,aD d,c⟩);have G:∀b∈e.flatMap (λp:ee=>aG p.1),b<w.heap.size:=λb c=>(En.rows e).lt w h b (aW.2 c);refine H.fx i _ m (f.mono λy _ q=>C y q) ⟨λp a=>?_,YJ d h.2 (Wi _) λy q=>(c y q).imp id λF a=>by grind⟩ λb a=>?_
 .rcases AH a with rfl|⟨E,B,k⟩
  .exact o
  .exact (h.1 p (aD k)).cw λb g n=>f.cw b n λl=>SG h.2 k d B b g l
 .obtain ⟨p,a,A⟩:=ck.1 (aW.1 a);rcases AH a with rfl|⟨E,_,k⟩
  .grind
  .exact .inl (aW.2 (ck.2 ⟨p,aD k,A⟩))
def _root_.Go.W.O.zu(H:O M w0 w L D)(i j:Nat){ty:aE}{x:List ee}{s src:Sl}{vs news:List V}{K:Sl->I->Prop}(e:L[i]? =some (.rows x))(f:x[j]? =some (s,vs))(k:bh 4 w src news)(l:∀u∈news,u.oneCell'=true)(o:(s.n+src.n) *40<=140737488355328)(m:∀h q,O M w0 q (L.set i (.rows (x.set j (h,vs++news)))) D->h.n=s.n+src.n->(h.a=none->s.a=none/\src.n=0)->K h q)(d:∀b∈bs,En.g b∈L:=by simp):
  ∃h q,(fM #[jw,jw] ty #[s.v,src.v]).run U w=.ok h.v q/\kept bs w q/\K h q:=by have F:(En.rows x).P w:=H.get i e;obtain⟨h,q,z,A,B,y,C,E⟩:=zx (ty:=ty) sy (F.1 _ (aD f)) k.2.2 k.1 l o;refine⟨h,q,z,λb c=>?_,m h q (Hi H i j e f y A C) B E⟩;refine y.cw b (H.own _ (d b c)) λp=>?_;exact LK H e (d b c) (aW.2 (ck.2 ⟨_,aD f,p⟩))
def _root_.Go.W.O.BR(H:O M w0 w L D)(i j a c:Nat){h:List ee}{s:Sl}{vs:List V}{v:V}{p:Addr}{K:I->Prop}(f:L[i]? =some (.rows h))(k:h[j]? =some (s,vs))(r:s.a=some p)(n:a+c<vs.length)(m:∀x,O M w0 x (L.set i (.rows (h.set j (s,vs.set (a+c) v)))) D->K x)(e:∀b∈bs,En.g b∈L:=by simp):aN w ((p.add a).add c) v λl=>kept bs w l/\K l:=by have z:(En.rows h).P w:=H.get i f;obtain⟨F,q,E,A,B,C,y⟩:=Gz (z.1 _ (aD k)) (a+c) n v;rw[r]at q;cases q;rw[add_add];refine⟨A,B,λb d=>?_,m _ (Hi H i j f k y C λb d=>.inl d)⟩;exact y.cw b (H.own _ (e b d)) λo=>LK H f (e b d) (aW.2 (ck.2 ⟨_,aD k,o⟩))
def _root_.Go.W.O.EC(H:O M w0 w L D)(i j:Nat){k:List ee}{s:Sl}{vs:List V}(f:L[i]? =some (.rows k))(g:k[j]? =some (s,vs)):O M w0 w (L.set i (.rows (k.set j (⟨none,0,0⟩,[])))) (D++[.a3 4 s vs]):=by
 have A:(En.rows k).P w:=H.get i f;have d:=Hi H i j f g (Fr.refl _ _) (aK.nil w aS 4) (λb c=>by simp[aG]at c);have F:∀b∈aG s,b∈(En.rows k).fp:=λb c=>aW.2 (ck.2 ⟨_,aD g,c⟩);have J:i<L.length:=(cL.1 f).1;refine⟨d.fr,d.own,λh a=>?_,d.new,d.nd,λh a b c m l q=>?_⟩
 .rcases aP.1 a with a|a
  .exact d.rd h a
  .simp at a;subst a;exact(A.1 _ (aD g)).a3
 .rcases aP.1 a with a|a
  .exact d.dj h a b c m l q
  .simp at a;subst a;have z:b∈aG s:=gY (e:=aS) c;rcases AH l with rfl|⟨G,x,B⟩
   .obtain ⟨K,E,y⟩:=ck.1 (aW.1 q);rcases AH E with rfl|⟨G,x,C⟩
    .simp [aG]at y
    .exact SG A.2 C g x b y z
   .exact j' H.nd f B (λh=>x h.symm) b (F b z) q
end
structure FX where
 k:Int
 ar:Sl×List Rx
 al:List Rx
 an:List Rx
 ca:List Rx
 n:Nat
 la:Rx
structure FM where
 k:Int
 ar:Sl×List J
 al:Sl×List J
 an:Sl×List J
 ca:Sl×List J
 n:Nat
 la:J
def FM.x(f:FM):FX:=⟨f.k,(f.ar.1,J.ao f.ar.2),J.ao f.al.2,J.ao f.an.2,J.ao f.ca.2,f.n,f.la.rx⟩
def FM.c(f:FM):List V:=[.int .i64 f.k,f.ar.1.v,f.al.1.v,f.an.1.v,f.ca.1.v,.int .i64 (f.n:Int),.int .i64 f.la.k,.int .u8 (f.la.lo.toNat:Int),.int .u8 (f.la.hi.toNat:Int),f.la.s.v]
def FM.rows(f:FM):List ee:=[(f.ar.1,f.ar.2.flatMap J.c),(f.al.1,f.al.2.flatMap J.c),(f.an.1,f.an.2.flatMap J.c),(f.ca.1,f.ca.2.flatMap J.c)]
def FM.ts(f:FM):List J:=f.ar.2++f.al.2++f.an.2++f.ca.2++[f.la]
def FM.qT(f:FM):f.c.length=10:=rfl
def q4(a:List FM):(a.flatMap FM.c).length=a.length *10:=pV FM.c 10 FM.qT a
abbrev SL(d:Nat)(a:Sl)(f g:Int)(b:List V)(e:List ee):List En:=[.c d [a.v,.int .i64 f,.int .i64 g] y3,.row iX 10 a b,.rows e]
def St(w:I)(l:Nat)(o:Addr)(q:List FX)(r:FX)(m n:Int)(i:List Nat)(k:List J):Prop:=
 ∃(j:Sl) (d:List FM) (f:FM) (p:Addr),d.map FM.x=q/\f.x=r/\(∀g∈d++[f],∀t∈g.ts,t∈k)/\j.a=some p/\o=p.add (d.length *10)/\
  i=(SL l j m n ((d++[f]).flatMap FM.c) ((d++[f]).flatMap FM.rows)).flatMap (·.fp)/\i.Nodup/\(∀e∈SL l j m n ((d++[f]).flatMap FM.c) ((d++[f]).flatMap FM.rows),e.P w)/\J.Ps w k/\∀b∈J.bc k,b∉i
def i4(w:I)(a:List Nat)(c:List J)(g:Nat)(e:Addr)(f:List FX)(j:FX)(i k:Int)(A:List J->Prop)(d:I):Prop:=∃q h,St d g e f j i k q h/\Fr (·∈a) w d/\(∀x∈q,x∈a\/w.heap.size<=x)/\(∀b∈J.bc h,b∈J.bc c\/b∈a\/w.heap.size<=b)/\(∀t∈c,t∈h)/\A h
def i4.then{w x w':I}{own k:List Nat}{ts h:List J}{rb:Nat}{f0:Addr}{lo:List FX}{q:FX}{st wd:Int}{A:List J->Prop}(a:Fr (·∈own) w x)(g:∀e∈k,e∈own\/w.heap.size<=e)(j:∀b∈J.bc h,b∈J.bc ts\/b∈own\/w.heap.size<=b)(i:∀t∈ts,t∈h)(d:i4 x k h rb f0 lo q st wd A w'):i4 w own ts rb f0 lo q st wd A w':=by
 obtain⟨F,K,G,D,E,z,H,y⟩:=d;refine⟨F,K,G,a.trans D λe c C=>(g e C).resolve_right λd=>io,λe c=>?_,λb B=>?_,λt f=>H t (i t f),y⟩
 .rcases E e c with d|d
  .grind
  .exact .inr (bB a.size d)
 .rcases z b B with d|d|d
  .grind
  .grind
  .exact .inr (.inr (bB a.size d))
def i4.mono{w w':I}{own:List Nat}{ts:List J}{rb:Nat}{f0:Addr}{lo:List FX}{e:FX}{st wd:Int}{A d:List J->Prop}(q:i4 w own ts rb f0 lo e st wd A w')(a:∀l,A l->d l):i4 w own ts rb f0 lo e st wd d w':=by obtain⟨y,C,z,k,x,j,B,h⟩:=q;exact⟨y,C,z,k,x,j,B,a _ h⟩
def St.wO{w:I}{rb:Nat}{sl:Sl}{e:List FM}{f:FM}{ts:List J}{st wd:Int}{own:List Nat}(i:own=(SL rb sl st wd ((e++[f]).flatMap FM.c) ((e++[f]).flatMap FM.rows)).flatMap (·.fp))(j:own.Nodup)(k:∀h∈SL rb sl st wd ((e++[f]).flatMap FM.c) ((e++[f]).flatMap FM.rows),h.P w)(l:J.Ps w ts)(d:∀b∈J.bc ts,b∉own):
  O (·∈own) w w (SL rb sl st wd ((e++[f]).flatMap FM.c) ((e++[f]).flatMap FM.rows)) [.trees ts]:=by
 refine O.o6 _ _ (λh a=>⟨k h a,λb g=>by grind⟩) (i▸j) λh a=>?_;simp only[aF,aZ,a7]at a;subst a;refine⟨l,λb g o n m=>d b (aW.1 g) ?_⟩
 grind
def St.of{w w':I}{rb:Nat}{f0:Addr}{sl:Sl}{e:List FM}{f:FM}{ts h:List J}{st wd:Int}{own:List Nat}{p:Addr}{D:List En}{A:List J->Prop}(H:O (·∈own) w w' (SL rb sl st wd ((e++[f]).flatMap FM.c) ((e++[f]).flatMap FM.rows)) D)(i:Nat)(j:D[i]? =some (.trees h))(q:∀g∈e++[f],∀t∈g.ts,t∈h)(o:sl.a=some p)(l:f0=p.add (e.length *10))(d:∀b∈J.bc h,b∈J.bc ts\/b∈own\/w.heap.size<=b)(k:∀t∈ts,t∈h)(m:A h):
  i4 w own ts rb f0 (e.map FM.x) f.x st wd A w':=by
 refine⟨_,h,⟨sl,e,f,p,rfl,rfl,q,o,l,rfl,H.nd,H.own,H.getD i j,λb d n=>?_⟩,H.fr,λC r=>?_,d,k,m⟩
 .obtain ⟨y,B,z⟩:=ck.1 n;exact H.dj _ (aD j) b (aW.2 d) y B z
 .obtain ⟨y,B,z⟩:=ck.1 r;exact(H.new y B C z).symm
section
variable {M:Nat->Prop} {w0 w:I} {L D:List En} {bs:List Nat}
def _root_.Go.W.O.hc(H:O M w0 w L D)(i:Nat){sl:Sl}{h:List FM}{f:FM}{p:Addr}(b:L[i]? =some (.row iX 10 sl ((h++[f]).flatMap FM.c)))(d:sl.a=some p)(j:Nat){v:V}(e:f.c[j]? =some v:=by rfl):w.cell? ((p.add (h.length *10)).add j)=some v:=by
 have y:aK w iX 10 sl ((h++[f]).flatMap FM.c):=H.get i b;have x:((h++[f]).flatMap FM.c)[h.length *10+j]? =some v:=by
  rw[dK,List.getElem?_append_right (by rw[q4];omega),q4]
  grind
 obtain⟨z,k,q⟩:=y.a3.2.2.2 _ _ x;rw[d]at k;cases k;rw[add_add];exact q
def YS(a:List FM)(f b:FM)(j:Nat)(v:V)(d:j<10)(e:f.c.set j v=b.c):((a++[f]).flatMap FM.c).set (a.length *10+j) v=(a++[b]).flatMap FM.c:=by
 rw[dK,dK,List.set_append,ab (by rw[q4];omega),q4]
 grind
def _root_.Go.W.O.jt(H:O M w0 w L D)(i:Nat){sl:Sl}{d:List FM}{f:FM}{p:Addr}{K:I->Prop}{v:V}(e:FM)(j:Nat)(q:L[i]? =some (.row iX 10 sl ((d++[f]).flatMap FM.c)))(s:sl.a=some p)(r:j<10)(o:f.c.set j v=e.c)(n:∀h,O M w0 h (L.set i (.row iX 10 sl ((d++[e]).flatMap FM.c))) D->K h)(l:∀b∈bs,En.g b∈L:=by simp):aN w ((p.add (d.length *10)).add j) v λm=>kept bs w m/\K m:=
 H.v' i (d.length *10) j q s (by rw[q4];grind) (λh k=>n h (by rw[YS d f e j v r o]at k;exact k)) l
def HF{w:I}{p:Addr}{v:V}{K:I->Prop}(d:aN w p v λa=>kept [] w a/\K a):aN w p v K:=adQ d λ_ d=>d.2
end
def Hg:∀a:List FM,(a.flatMap FM.rows).length=a.length *4
 |[]=>rfl
 |f::a=>by have:=Hg a;simp only[dz,List.length_append,List.length_cons];have:f.rows.length=4:=rfl;omega
def Hh(a:List FM)(f:FM)(j:Nat)(x:ee)(b:j<4):((a++[f]).flatMap FM.rows).set (a.length *4+j) x=a.flatMap FM.rows++f.rows.set j x:=by
 have d:=Hg a
 grind
def rv(a:List FM)(f:FM)(j:Nat)(x:ee)(b:f.rows[j]? =some x):((a++[f]).flatMap FM.rows)[a.length *4+j]? =some x:=by
 have d:=Hg a
 grind
def gC(k:Int)(s:Sl)(a:List J):J:=match a with |[d]=>d|l=>.mk k 0 0 s l
def qk(k:Int)(l:List Rx):Rx:=match l with |[d]=>d|l=>.mk k 0 0 l
def Gs(k:Int)(s:Sl)(a:List J):(gC k s a).rx=qk k (J.ao a):=by
 match a with
 |[]=>rfl
 |[d]=>rfl
 |d::e::l=>rfl
def abC{k:Int}{s:Sl}{ts:List J}{b:Nat}(d:b∈(gC k s ts).fp):b∈(J.row s ts).fp\/b∈J.bc ts:=by
 match ts,d with
 |[],d=>exact J.gP.1 (show b∈(J.mk k 0 0 s []).fp from d)
 |[x],d=>exact .inr (J.bX.2 ⟨x,gs,d⟩)
 |x::e::l,d=>exact J.gP.1 (show b∈(J.mk k 0 0 s (x::e::l)).fp from d)
def Dr(k:Int)(s:Sl)(a:List J)(w:I)(h:bh 4 w s (a.flatMap J.c)):ai U AT #[.int .i64 k,s.v] w λr g=>r=ad (gC k s a).v/\af w g:=by
 have q:=J.cz h;refine Se.aq ((bM [J.row s a] (by intro z j;simp only[aF,aZ,a7]at j;subst j;exact h)).ax λm o b=>aw (λf=>⟨io,io,?_⟩) (λf=>b.ae λy d=>⟨?_,d.fr⟩))
 .have x:a.length=1:=io
  obtain⟨e,rfl⟩:=List.length_eq_one_iff.1 x;refine J.a6 (b.getD 0) (i:=0) (t:=e) rfl λp n c=>⟨_,_,_,_,c.c0,c.c1,c.c2,c.c3,b.ae λy d=>⟨rfl,d.fr⟩⟩
 .match a,q with
  |[],_=>rfl
  |[e],q=>grind
  |e::A::l,_=>rfl
section
variable {M:Nat->Prop} {w0 w:I} {L D:List En} {bs:List Nat}
def _root_.Go.W.O.node(H:O M w0 w L D)(i:Nat){ts ks:List J}{s:Sl}(k:Int)(g d:UInt8)(c:D[i]? =some (.trees ts))(f:J.row s ks∈D)(e:∀t∈ks,t∈ts):O M w0 w L [.trees (ts++[.mk k g d s ks])]:=by
 have q:J.Ps w ts:=H.getD i c;have y:=H.ef (.trees (ts++[.mk k g d s ks])) (Fr.refl _ _) (J.jV λt a=>?_) λb B=>.inr (.inr ?_)
 .exact y.forget _ gs
 .rcases aP.1 a with a|a
  .exact q.mem a
  .simp at a;subst a;unfold J.P;exact⟨H.rd _ f,J.jV λt a=>q.mem (e t a)⟩
 .obtain ⟨t,a,j⟩:=J.bX.1 (aW.1 B);rcases aP.1 a with a|a
  .exact ⟨_,aD c,aW.2 (J.bX.2 ⟨t,a,j⟩)⟩
  .simp at a;rw[a]at j;rcases J.gP.1 j with h|h
   .exact ⟨_,f,h⟩
   .obtain ⟨x,A,z⟩:=J.bX.1 h;exact⟨_,aD c,aW.2 (J.bX.2 ⟨x,e x A,z⟩)⟩
def _root_.Go.W.O.Qq(H:O M w0 w L D)(i:Nat){ts ks:List J}{s:Sl}(k:Int)(c:D[i]? =some (.trees ts))(e:J.row s ks∈D)(d:∀t∈ks,t∈ts):O M w0 w L [.trees (ts++[gC k s ks])]:=by
 match ks,e,d with
 |[],e,d=>exact H.node i k 0 0 c e d
 |h::z::l,e,d=>exact H.node i k 0 0 c e d
 |[h],e,d=>
  have x:J.Ps w ts:=H.getD i c;have q:=d h gs;have y:=H.ef (.trees (ts++[h])) (Fr.refl _ _) (J.jV λt a=>?_) λb f=>.inr (.inr ?_)
  .exact y.forget _ (by simp[gC])
  .rcases aP.1 a with a|a
   .exact x.mem a
   .simp at a;subst a;exact x.mem q
  .obtain ⟨t,a,j⟩:=J.bX.1 (aW.1 f);rcases aP.1 a with a|a
   .exact ⟨_,aD c,aW.2 (J.bX.2 ⟨t,a,j⟩)⟩
   .simp at a;rw[a]at j;exact⟨_,aD c,aW.2 (J.bX.2 ⟨h,q,j⟩)⟩
abbrev z4:List V:=[.int .i64 0,.int .u8 0,.int .u8 0,.slice none 0 0]
def zw(a u:List V)(n j:Nat)(v:V)(b:a.length=n):(a++u).set (n+j) v=a++u.set j v:=by grind
def _root_.Go.W.O.vI(H:O M w0 w L D)(i j n:Nat){h:List ee}{s:Sl}{vs:List V}{p:Addr}{K:I->Prop}(t:J)(u:L[i]? =some (.rows h))(T:h[j]? =some (s,vs++z4))(z:s.a=some p)(y:vs.length=n *4)(hK:∀w',O M w0 w' (L.set i (.rows (h.set j (s,vs++t.c)))) D->K w')(r:∀b∈bs,En.g b∈L):
  aN w (p.add (a0 (n:Int) *4)) (.int .i64 t.k) λo=>kept bs w o/\aN o ((p.add (a0 (n:Int) *4)).add 1) (.int .u8 (t.lo.toNat:Int)) λf=>kept bs o f/\aN f ((p.add (a0 (n:Int) *4)).add 2) (.int .u8 (t.hi.toNat:Int)) λl=>kept bs f l/\aN l ((p.add (a0 (n:Int) *4)).add 3) t.s.v λq=>kept bs l q/\K q:=by
 rw[bR];have ag:i<L.length:=(cL.1 u).1;have ah:j<h.length:=(cL.1 T).1;have C:∀{A:List En} (e:En),A.length=L.length->(A.set i e)[i]? =some e:=λ{A} e hl=>by grind
 have B:∀(d:List ee) (x:ee),d.length=h.length->(d.set j x)[j]? =some x:=λd x hl=>by grind
 have E:∀{b:Nat},En.g b∈L->∀(d:List ee),En.g b∈L.set i (.rows d):=λ{b} m d=>by
  obtain⟨Z,Y⟩:=iB.1 m;by_cases ab:i=Z
  .subst ab;exfalso;rw[u]at Y;have hP:(En.rows h).P w:=H.get i u;have S:En.rows h=En.g b:=ed Y;have af:(En.rows h).fp=[b]:=by rw[S];rfl
   have aa:b∈(En.rows h).fp:=by grind
   have ac:h≠[]:=by grind
   refine SI h ac w b aa ?_;rw[S];show b<_;simp
  .exact iB.2 ⟨Z,by grind⟩
 have ae:=H.BR (bs:=bs) i j (n *4) 0 (v:=.int .i64 t.k) (K:=λo=>aN o ((p.add (n *4)).add 1) (.int .u8 (t.lo.toNat:Int)) λf=>kept bs o f/\aN f ((p.add (n *4)).add 2) (.int .u8 (t.hi.toNat:Int)) λl=>kept bs f l/\aN l ((p.add (n *4)).add 3) t.s.v λq=>kept bs l q/\K q) u T z (by grind) ?_ r
 .rw [jD]at ae;omega
 intro o F;rw[zw vs z4 (n *4) 0 _ y]at F;refine F.BR (bs:=bs) i j (n *4) 1 (C _ rfl) (B _ _ rfl) z (by grind) ?_ (λb m=>E (r b m) _);intro f G;rw[zw vs _ (n *4) 1 _ y,List.set_set,List.set_set]at G;refine G.BR (bs:=bs) i j (n *4) 2 (C _ rfl) (B _ _ rfl) z (by grind) ?_ (λb m=>E (r b m) _);intro l N;rw[zw vs _ (n *4) 2 _ y,List.set_set,List.set_set]at N;refine N.BR (bs:=bs) i j (n *4) 3 (C _ rfl) (B _ _ rfl) z (by grind) ?_ (λb m=>E (r b m) _);intro q Q;rw[zw vs _ (n *4) 3 _ y,List.set_set,List.set_set]at Q;exact hK q Q
def _root_.Go.W.O.MC(H:O M w0 w L D)(i:Nat){sl:Sl}{e:List FM}{f:FM}{p:Addr}(b:L[i]? =some (.row iX 10 sl ((e++[f]).flatMap FM.c)))(d:sl.a=some p):
  w.cell? (((p.add (e.length *10)).add 6).add 0)=some (.int .i64 f.la.k)/\w.cell? (((p.add (e.length *10)).add 6).add 1)=some (.int .u8 (f.la.lo.toNat:Int))/\w.cell? (((p.add (e.length *10)).add 6).add 2)=some (.int .u8 (f.la.hi.toNat:Int))/\w.cell? (((p.add (e.length *10)).add 6).add 3)=some f.la.s.v:=by
 refine⟨?_,?_,?_,?_⟩
 .rw [jD];exact H.hc i b d 6
 .rw [add_add];exact H.hc i b d 7
 .rw [add_add];exact H.hc i b d 8
 .rw [add_add];exact H.hc i b d 9
end
def mA:Nat->Rx->Rx
 |0,r=>r
 |n+1,r=>mA n (.mk 6 0 0 [r])
def mj(f:FX):FX:=⟨f.k,f.ar,f.al,f.an,f.ca++[mA f.n f.la],0,f.la⟩
def Jy{w:I}{rb:Nat}{f0:Addr}{lo:List FX}{S:FX}{st wd:Int}{own:List Nat}{ts:List J}(z:St w rb f0 lo S st wd own ts)(hn:S.n<=1000000)(aA:S.ca.length<=1000000):
  ai U O1 #[.pointer (some f0)] w λr u=>r=ad (.tuple #[])/\i4 w own ts rb f0 lo (mj S) st wd (λ_=>True) u:=by
 obtain⟨sl,d,f,p,rfl,rfl,F,q,rfl,h6,h7,h8,h9,ay⟩:=z;have ac:=St.wO h6 h7 h8 h9 ay;have az:f.la∈ts:=F f gs _ (by simp[FM.ts]);have aC:f.ca.2.length<=1000000:=by
  have:f.x.ca.length=f.ca.2.length:=by show(J.ao f.ca.2).length=_;rw[J.fW];simp
  omega
 have loop:∀(m:Nat) (r:J) (j:List J) (i:Nat) (y:I),m<=1000000->(∀t∈ts,t∈j)->(∀b∈J.bc j,b∈J.bc ts\/b∈own\/w.heap.size<=b)->r∈j->mA m r.rx=mA f.n f.la.rx->
   O (·∈own) w y (SL rb sl st wd ((d++[(⟨f.k,f.ar,f.al,f.an,f.ca,m,f.la⟩:FM)]).flatMap FM.c) ((d++[f]).flatMap FM.rows)++[.g i]) [.trees j]->
   ys.a1 (p.add (d.length *10)) i r.k r.lo.toNat r.hi.toNat r.s y λr u=>r=ad (.tuple #[])/\i4 w own ts rb (p.add (d.length *10)) (d.map FM.x) (mj f.x) st wd (λ_=>True) u:=by
  intro m;induction m with
  |zero=>
   intro r j i y _ E Q hr Z v;refine ys.bS ⟨0,v.hc 1 rfl q 5,aQ rfl (v.ae λK B=>⟨_,B.hc 1 rfl q 4,?_⟩)⟩;have ap:((d++[f]).flatMap FM.rows)[d.length *4+3]? =some (f.ca.1,f.ca.2.flatMap J.c):=rv d f 3 _ rfl;have nr:f.ca.1.n=f.ca.2.length:=by have hp:(En.rows ((d++[f]).flatMap FM.rows)).P K:=B.get 2;exact J.cz (hp.1 _ (aD ap)).a3
   refine B.e9 (e:=aS) (sz:=4) (n:=1) (cs:=z4) rfl dl λw3 C=>⟨C.hc 1 rfl q 4,?_⟩;refine C.zu (bs:=[i]) 2 (d.length *4+3) (src:=⟨some (aa K.heap.size),1,1⟩) (news:=z4) rfl ap (aK.a3 (C.get 4)) (by simp[Value.oneCell']) (by grind) (λo T M ah am=>⟨io,by grind,?_⟩);obtain⟨ab,hq⟩:∃ab,o.a=some ab:=by
    cases hs:o.a with
    |none=>grind
    |some ab=>grind
   rw[hq];have ag:d.length *4+3<((d++[f]).flatMap FM.rows).length:=by grind
   have N:O (·∈own) w T (SL rb sl st wd ((d++[(⟨f.k,f.ar,f.al,f.an,f.ca,0,f.la⟩:FM)]).flatMap FM.c) (((d++[f]).flatMap FM.rows).set (d.length *4+3) (o,f.ca.2.flatMap J.c++z4))++[.g i]) [.trees j]:=M.take 4;have fin:∀{u:I},O (·∈own) w u (SL rb sl st wd ((d++[(⟨f.k,f.ar,f.al,f.an,(o,f.ca.2++[r]),0,f.la⟩:FM)]).flatMap FM.c) (((d++[f]).flatMap FM.rows).set (d.length *4+3) (o,f.ca.2.flatMap J.c++r.c))++[.g i]) [.trees j]->
     (Ending.returned (.tuple #[])=ad (.tuple #[])/\i4 w own ts rb (p.add (d.length *10)) (d.map FM.x) (mj f.x) st wd (λ_=>True) u):=λ{u} H'=>by
    refine⟨rfl,?_⟩;have e1:((d++[f]).flatMap FM.rows).set (d.length *4+3) (o,f.ca.2.flatMap J.c++r.c)=(d++[(⟨f.k,f.ar,f.al,f.an,(o,f.ca.2++[r]),0,f.la⟩:FM)]).flatMap FM.rows:=by rw[Hh d f 3 _ io,dK];congr 1;simp[FM.rows]
    rw[e1]at H';have:=St.of (ts:=ts) (A:=λ_=>True) (f0:=p.add (d.length *10)) (H'.take 3) 0 rfl (λg H t h=>?_) q rfl Q E trivial
    .have e2:(FM.x ⟨f.k,f.ar,f.al,f.an,(o,f.ca.2++[r]),0,f.la⟩)=mj f.x:=by
      unfold FM.x mj;simp only[k5];have:J.ao [r]=[mA f.n f.la.rx]:=by rw[<-Z];rfl
      grind
     grind
    .rcases aP.1 H with H|H
     .grind
     .simp at H;subst H;simp only[FM.ts,aP,aF,aZ,a7]at h;rcases h with(((h|h)|h)|(h|rfl))|rfl
      .exact E t (F f gs t (by simp[FM.ts,h]))
      .exact E t (F f gs t (by simp[FM.ts,h]))
      .exact E t (F f gs t (by simp[FM.ts,h]))
      .exact E t (F f gs t (by simp[FM.ts,h]))
      .exact hr
      grind
   refine⟨?_,?_⟩
   .rw [nr];refine N.vI (bs:=[i]) 2 (d.length *4+3) f.ca.2.length r rfl (mD ag) hq (J.hB _) (λu D=>?_) gs;rw[List.set_set]at D;exact D.jt (bs:=[i]) (f:=⟨f.k,f.ar,f.al,f.an,f.ca,0,f.la⟩) 1 ⟨f.k,f.ar,f.al,f.an,(o,f.ca.2++[r]),0,f.la⟩ 4 rfl q io rfl (λaj W=>fin W) gs
   .refine N.jt (bs:=[i]) (f:=⟨f.k,f.ar,f.al,f.an,f.ca,0,f.la⟩) 1 ⟨f.k,f.ar,f.al,f.an,(o,f.ca.2++[r]),0,f.la⟩ 4 rfl q io rfl (λu D=>?_) gs;rw[nr];refine O.vI (bs:=[i]) (L:=SL rb sl st wd ((d++[(⟨f.k,f.ar,f.al,f.an,(o,f.ca.2++[r]),0,f.la⟩:FM)]).flatMap FM.c) (((d++[f]).flatMap FM.rows).set (d.length *4+3) (o,f.ca.2.flatMap J.c++z4))++[.g i]) D 2 (d.length *4+3) f.ca.2.length r rfl (mD ag) hq (J.hB _) (λaj W=>?_) gs;rw[List.set_set]at W
    grind
  |succ m ih=>
   intro r j i y hm E Q hr Z v;refine ys.bS ⟨((m+1:Nat):Int),v.hc 1 rfl q 5,aR (a5 io) ?_⟩;refine v.e9 (e:=aS) (sz:=4) (n:=1) (cs:=r.c) rfl dl λK B=>B.ae (bs:=[i]) (λw3 C=>⟨_,C.hc 1 rfl q 5,?_⟩) gs;have aw:aB .i64 (((m+1:Nat):Int) - 1)=(m:Int):=by rw[bo _ io];omega
   show aN w3 _ (.int .i64 (aB .i64 (((m+1:Nat):Int) - 1))) _;rw[aw];refine C.jt (bs:=[i]) (f:=⟨f.k,f.ar,f.al,f.an,f.ca,m+1,f.la⟩) 1 ⟨f.k,f.ar,f.al,f.an,f.ca,m,f.la⟩ 5 rfl q io rfl (λT M=>?_) gs;have N:=M.freeze 4 (J.row ⟨some (aa y.heap.size),1,1⟩ [r]) rfl (by show bh 4 T _ ([r].flatMap J.c);rw[show[r].flatMap J.c=r.c by simp];exact aK.a3 (M.get 4)) (λb G=>gY (e:=aS) (vs:=[r].flatMap J.c) G);have D:=N.node 0 6 0 0 (s:=⟨some (aa y.heap.size),1,1⟩) (ks:=[r]) rfl gs (λt h=>by grind);refine ih (.mk 6 0 0 ⟨some (aa y.heap.size),1,1⟩ [r]) _ i T io (λt h=>by grind) (λb G=>?_) gs Z D;obtain⟨t,h,Y⟩:=J.bX.1 G;rcases aP.1 h with h|h
   .exact Q b (J.bX.2 ⟨t,h,Y⟩)
   .simp at h;rw[h]at Y;rcases J.gP.1 Y with z|z
    .have:=gY (e:=aS) z;simp[En.row,aG,J.s]at this;subst this;exact .inr (.inr v.fr.size)
    .obtain ⟨t',av,af⟩:=J.bX.1 z;simp[J.l]at av;rw[av]at af;exact Q b (J.bX.2 ⟨r,hr,af⟩)
 obtain⟨c0,c1,c2,c3⟩:=ac.MC 1 rfl q;have ah:f.n<=1000000:=hn;refine ys.aq ⟨_,_,_,_,c0,c1,c2,c3,ac.ax (λi y v=>v.ae (λK B=>?_) gs) gs⟩;exact loop f.n f.la ts i K ah (λ_ z=>z) (λb G=>.inl G) az rfl B
def FM.aU(f:FM)(j:Nat):Sl×List J:=if j=1 then f.ar else if j=2 then f.al else if j=3 then f.an else f.ca
def FM.put(f:FM)(j:Nat)(x:Sl×List J):FM:=⟨f.k,if j=1 then x else f.ar,if j=2 then x else f.al,if j=3 then x else f.an,if j=4 then x else f.ca,f.n,f.la⟩
def w2{j:Nat}(e:1<=j)(f:j<=4){p:Nat->Prop}(a:p 1)(b:p 2)(c:p 3)(d:p 4):p j:=by grind
def Ki(f:FM){j:Nat}(a:1<=j)(b:j<=4):f.c[j]? =some (f.aU j).1.v:=w2 (p:=λj=>f.c[j]? =some (f.aU j).1.v) a b rfl rfl rfl rfl
def uD(f:FM){j:Nat}(a:1<=j)(b:j<=4):f.rows[j - 1]? =some ((f.aU j).1,(f.aU j).2.flatMap J.c):=w2 (p:=λj=>f.rows[j - 1]? =some ((f.aU j).1,(f.aU j).2.flatMap J.c)) a b rfl rfl rfl rfl
def yn(f:FM)(x:Sl×List J){j:Nat}(a:1<=j)(b:j<=4):f.c.set j x.1.v=(f.put j x).c:=w2 (p:=λj=>f.c.set j x.1.v=(f.put j x).c) a b rfl rfl rfl rfl
def ab6(f:FM)(x:Sl×List J){j:Nat}(a:1<=j)(b:j<=4):f.rows.set (j - 1) (x.1,x.2.flatMap J.c)=(f.put j x).rows:=w2 (p:=λj=>f.rows.set (j - 1) (x.1,x.2.flatMap J.c)=(f.put j x).rows) a b rfl rfl rfl rfl
def Bm(f:FM)(x:Sl×List J){j:Nat}(b:1<=j)(c:j<=4){t:J}(a:t∈(f.put j x).ts):t∈f.ts\/t∈x.2:=by
 refine w2 (p:=λj=>t∈(f.put j x).ts->t∈f.ts\/t∈x.2) b c ?_ ?_ ?_ ?_ a<;>
 .intro a;simp[FM.put,FM.ts]at a ⊢
  grind
def pL(f:FM)(j:Nat){t:J}(a:t∈(f.aU j).2):t∈f.ts:=by
 unfold FM.aU at a;unfold FM.ts
 grind
def ab5(f:FM)(x:Sl×List J){j i:Nat}(b:i≠j)(c:1<=i)(a:i<=4):(f.put j x).aU i=f.aU i:=by
 have:i=1\/i=2\/i=3\/i=4:=io
 unfold FM.put FM.aU
 grind
section
variable {w0 w:I} {own:List Nat} {rb:Nat} {sl:Sl} {st wd:Int} {fs:List FM} {f:FM} {ts:List J} {p:Addr}
abbrev FS(a:List Nat)(k w:I)(d:Nat)(g:Sl)(i l:Int)(b:List FM)(f:FM)(e:List ee)(j:List J):Prop:=O (·∈a) k w (SL d g i l ((b++[f]).flatMap FM.c) e) [.trees j]
def u0(a:List FM)(f:FM)(x:Sl×List J){j:Nat}(b:1<=j)(d:j<=4):((a++[f]).flatMap FM.rows).set (a.length *4+(j - 1)) (x.1,x.2.flatMap J.c)=(a++[f.put j x]).flatMap FM.rows:=by rw[Hh a f (j - 1) _ io,ab6 f x b d,dK];simp
def RA(H:FS own w0 w rb sl st wd fs f ((fs++[f]).flatMap FM.rows) ts)(o:sl.a=some p)(d:Nat)(e:1<=d)(g:d<=4)(t:J)(hb:(f.aU d).2.length<=1000000){x:I}{src:Sl}(u:O (·∈own) w0 x (SL rb sl st wd ((fs++[f]).flatMap FM.c) ((fs++[f]).flatMap FM.rows)++[.row aS 4 src z4]) [.trees ts])(ah:src.n=1){K:I->Prop}(T:∀b j,FS own w0 j rb sl st wd fs (f.put d (b,(f.aU d).2++[t])) ((fs++[f.put d (b,(f.aU d).2++[t])]).flatMap FM.rows) ts->K j):
  ∃(i:Sl) (l:I),(fM #[jw,jw] jw #[(f.aU d).1.v,src.v]).run U x=.ok (i.v) l/\(0:Int)<=(((f.aU d).1.n:Nat):Int)/\(((f.aU d).1.n:Nat):Int)<(i.n:Int)/\dJ i.a λh=>((aN l (h.add (a0 (((f.aU d).1.n:Nat):Int) *4)) (.int .i64 t.k) λB=>aN B ((h.add (a0 (((f.aU d).1.n:Nat):Int) *4)).add 1) (.int .u8 (t.lo.toNat:Int)) λC=>aN C ((h.add (a0 (((f.aU d).1.n:Nat):Int) *4)).add 2) (.int .u8 (t.hi.toNat:Int)) λy=>aN y ((h.add (a0 (((f.aU d).1.n:Nat):Int) *4)).add 3) t.s.v λz=>aN z ((p.add (fs.length *10)).add d) i.v K)/\
   (aN l ((p.add (fs.length *10)).add d) i.v λN=>aN N (h.add (a0 (((f.aU d).1.n:Nat):Int) *4)) (.int .i64 t.k) λB=>aN B ((h.add (a0 (((f.aU d).1.n:Nat):Int) *4)).add 1) (.int .u8 (t.lo.toNat:Int)) λC=>aN C ((h.add (a0 (((f.aU d).1.n:Nat):Int) *4)).add 2) (.int .u8 (t.hi.toNat:Int)) λy=>aN y ((h.add (a0 (((f.aU d).1.n:Nat):Int) *4)).add 3) t.s.v K)):=by
 have G:((fs++[f]).flatMap FM.rows)[fs.length *4+(d - 1)]? =some ((f.aU d).1,(f.aU d).2.flatMap J.c):=rv fs f (d - 1) _ (uD f e g);have W:(f.aU d).1.n=(f.aU d).2.length:=by have o:(En.rows ((fs++[f]).flatMap FM.rows)).P x:=u.get 2;exact J.cz (o.1 _ (aD G)).a3
 obtain⟨b,l,Q,_,S⟩:=u.zu (bs:=[]) (ty:=jw) 2 (fs.length *4+(d - 1)) (src:=src) (news:=z4) (K:=λb j=>FS own w0 j rb sl st wd fs f (((fs++[f]).flatMap FM.rows).set (fs.length *4+(d - 1)) (b,(f.aU d).2.flatMap J.c++z4)) ts/\b.n=(f.aU d).1.n+1/\∃h,b.a=some h) rfl G (aK.a3 (u.get 3)) (by simp[Value.oneCell']) io (λb w4 M Z Y=>⟨M.take 3,io,by
  cases hs:b.a with
  |none=>grind
  |some h=>grind⟩) gs
 obtain⟨D,aa,h,q⟩:=S;refine⟨b,l,Q,io,io,?_⟩;rw[q];have F:fs.length *4+(d - 1)<((fs++[f]).flatMap FM.rows).length:=by grind
 have E:∀(f:FM) (t:J) (d:Nat),(f.aU d).2.flatMap J.c++t.c=((f.aU d).2++[t]).flatMap J.c:=λf t d=>gs
 rw[W];refine⟨?_,?_⟩
 .have st:=O.vI (bs:=[]) (K:=λz=>aN z ((p.add (fs.length *10)).add d) b.v K) D 2 (fs.length *4+(d - 1)) (f.aU d).2.length t rfl (mD F) q (J.hB _) (λj m=>?_) gs
  .grind
  .rw [List.set_set,E,u0 fs f (b,(f.aU d).2++[t]) e g]at m;exact HF (m.jt (bs:=[]) (f:=f) 1 (f.put d (b,(f.aU d).2++[t])) d rfl o io (yn f (b,(f.aU d).2++[t]) e g) (λr A=>T b r A) gs)
 .refine HF (D.jt (bs:=[]) (f:=f) 1 (f.put d (b,(f.aU d).2++[t])) d rfl o io (yn f (b,(f.aU d).2++[t]) e g) (λj m=>?_) gs);have st:=O.vI (bs:=[]) (K:=K) (L:=SL rb sl st wd ((fs++[f.put d (b,(f.aU d).2++[t])]).flatMap FM.c) (((fs++[f]).flatMap FM.rows).set (fs.length *4+(d - 1)) (b,(f.aU d).2.flatMap J.c++z4))) m 2 (fs.length *4+(d - 1)) (f.aU d).2.length t rfl (mD F) q (J.hB _) (λr A=>?_) gs
  .grind
  .rw [List.set_set,E,u0 fs f (b,(f.aU d).2++[t]) e g]at A
   grind
def shift(H:FS own w0 w rb sl st wd fs f ((fs++[f]).flatMap FM.rows) ts)(L:sl.a=some p)(k:Int)(d s:Nat)(Q:1<=d)(hs:s=d+1)(y:s<=4)(hb:(f.aU d).2.length<=1000000)(bb:∀t∈f.ts,t∈ts){R:aC}(hK:∀u r,FS own w0 r rb sl st wd fs ((f.put d (u,(f.aU d).2++[gC k (f.aU s).1 (f.aU s).2])).put s (⟨none,0,0⟩,[])) ((fs++[(f.put d (u,(f.aU d).2++[gC k (f.aU s).1 (f.aU s).2])).put s (⟨none,0,0⟩,[])]).flatMap FM.rows) (ts++[gC k (f.aU s).1 (f.aU s).2])->R (ad (.tuple #[])) r):
  uI w λq=>∃b:Sl,q.cell? ((p.add (fs.length *10)).add d)=some (b.v)/\∃M:Sl,q.cell? ((p.add (fs.length *10)).add s)=some (M.v)/\
   ((ai U AT #[.i k,M.v] q λr_ C=>∃g:Int,∃B:Int,∃l:Int,∃m:Sl,r_=ad (.agg #[.i g,.int .u8 B,.int .u8 l,m.v])/\
    C.cell? ((p.add (fs.length *10)).add d)=some (b.v)/\de C (.cells #[.i 0,.int .u8 0,.int .u8 0,.slice none 0 0] aS) λN=>
    N.cell? ((p.add (fs.length *10)).add d)=some (b.v)/\∃(o:Sl) (D:I),Sem.run U (fM #[jw,jw] jw #[b.v,.slice (some (nb C)) 1 1]) N=.ok (o.v) D/\oh o (b.n:Int) λh=>((aN D (h.add (a0 (b.n:Int) *4)) (.i g) λw6=>
    aN w6 ((h.add (a0 (b.n:Int) *4)).add 1) (.int .u8 B) λw7=>aN w7 ((h.add (a0 (b.n:Int) *4)).add 2) (.int .u8 l) λw8=>aN w8 ((h.add (a0 (b.n:Int) *4)).add 3) (m.v) λw9=>
    aN w9 ((p.add (fs.length *10)).add d) (o.v) λS=>aN S ((p.add (fs.length *10)).add s) (.slice none 0 0) λj=>R (ad (.tuple #[])) j)/\
    (aN D ((p.add (fs.length *10)).add d) (o.v) λT=>aN T (h.add (a0 (b.n:Int) *4)) (.i g) λal=>aN al ((h.add (a0 (b.n:Int) *4)).add 1) (.int .u8 B) λW=>
    aN W ((h.add (a0 (b.n:Int) *4)).add 2) (.int .u8 l) λY=>aN Y ((h.add (a0 (b.n:Int) *4)).add 3) (m.v) λZ=>aN Z ((p.add (fs.length *10)).add s) (.slice none 0 0) λj=>R (ad (.tuple #[])) j)))/\
   (de q (.cells #[.i 0,.int .u8 0,.int .u8 0,.slice none 0 0] aS) λap=>ap.cell? ((p.add (fs.length *10)).add s)=some (M.v)/\ap.cell? ((p.add (fs.length *10)).add d)=some (b.v)/\
    ai U AT #[.i k,M.v] ap λr_ ar=>∃g:Int,∃B:Int,∃l:Int,∃m:Sl,r_=ad (.agg #[.i g,.int .u8 B,.int .u8 l,m.v])/\
    ar.cell? ((p.add (fs.length *10)).add d)=some (b.v)/\∃(o:Sl) (D:I),Sem.run U (fM #[jw,jw] jw #[b.v,.slice (some (nb q)) 1 1]) ar=.ok (o.v) D/\oh o (b.n:Int) λh=>((aN D (h.add (a0 (b.n:Int) *4)) (.i g) λw6=>
    aN w6 ((h.add (a0 (b.n:Int) *4)).add 1) (.int .u8 B) λw7=>aN w7 ((h.add (a0 (b.n:Int) *4)).add 2) (.int .u8 l) λw8=>aN w8 ((h.add (a0 (b.n:Int) *4)).add 3) (m.v) λw9=>
    aN w9 ((p.add (fs.length *10)).add d) (o.v) λS=>aN S ((p.add (fs.length *10)).add s) (.slice none 0 0) λj=>R (ad (.tuple #[])) j)/\
    (aN D ((p.add (fs.length *10)).add d) (o.v) λT=>aN T (h.add (a0 (b.n:Int) *4)) (.i g) λal=>aN al ((h.add (a0 (b.n:Int) *4)).add 1) (.int .u8 B) λW=>
    aN W ((h.add (a0 (b.n:Int) *4)).add 2) (.int .u8 l) λY=>aN Y ((h.add (a0 (b.n:Int) *4)).add 3) (m.v) λZ=>aN Z ((p.add (fs.length *10)).add s) (.slice none 0 0) λj=>R (ad (.tuple #[])) j)))):=by
 subst hs;have E:1<=d+1:=io
 have ab:d<=4:=io
 have aq:((fs++[f]).flatMap FM.rows)[fs.length *4+(d+1 - 1)]? =some ((f.aU (d+1)).1,(f.aU (d+1)).2.flatMap J.c):=rv fs f (d+1 - 1) _ (uD f E y);have rd:∀{r:I} {G:List En},O (·∈own) w0 r (SL rb sl st wd ((fs++[f]).flatMap FM.c) ((fs++[f]).flatMap FM.rows)++G) [.trees ts]->bh 4 r (f.aU (d+1)).1 ((f.aU (d+1)).2.flatMap J.c):=λz=>by have hP:(En.rows ((fs++[f]).flatMap FM.rows)).P _:=z.get 2;exact(hP.1 _ (aD aq)).a3
 have fin:∀u r,FS own w0 r rb sl st wd fs (f.put d (u,(f.aU d).2++[gC k (f.aU (d+1)).1 (f.aU (d+1)).2])) ((fs++[f.put d (u,(f.aU d).2++[gC k (f.aU (d+1)).1 (f.aU (d+1)).2])]).flatMap FM.rows) ts->
   aN r ((p.add (fs.length *10)).add (d+1)) (.slice none 0 0) λj=>R (ad (.tuple #[])) j:=λu r z=>by
  have ag:(f.put d (u,(f.aU d).2++[gC k (f.aU (d+1)).1 (f.aU (d+1)).2])).aU (d+1)=f.aU (d+1):=ab5 f _ io E y;refine HF (z.jt (bs:=[]) 1 ((f.put d (u,(f.aU d).2++[gC k (f.aU (d+1)).1 (f.aU (d+1)).2])).put (d+1) (⟨none,0,0⟩,[])) (d+1) rfl L io (yn _ (⟨none,0,0⟩,[]) E y) (λj H1=>hK u j ?_) gs);have ae:=rv fs (f.put d (u,(f.aU d).2++[gC k (f.aU (d+1)).1 (f.aU (d+1)).2])) (d+1 - 1) _ (uD _ E y);rw[ag]at ae;have A:=H1.EC 2 (fs.length *4+(d+1 - 1)) rfl ae;have x:=A.Qq 0 k (s:=(f.aU (d+1)).1) (ks:=(f.aU (d+1)).2) rfl gs λt ht=>bb t (pL f _ ht);have av:=u0 fs (f.put d (u,(f.aU d).2++[gC k (f.aU (d+1)).1 (f.aU (d+1)).2])) (⟨none,0,0⟩,[]) E y
  grind
 have K:∀{r:I} {G:List En},O (·∈own) w0 r (SL rb sl st wd ((fs++[f]).flatMap FM.c) ((fs++[f]).flatMap FM.rows)++G) [.trees ts]->r.cell? ((p.add (fs.length *10)).add d)=some ((f.aU d).1.v):=λz=>z.hc 1 rfl L d (Ki f Q ab);have ac:∀{r:I} {G:List En},O (·∈own) w0 r (SL rb sl st wd ((fs++[f]).flatMap FM.c) ((fs++[f]).flatMap FM.rows)++G) [.trees ts]->r.cell? ((p.add (fs.length *10)).add (d+1))=some ((f.aU (d+1)).1.v):=λz=>z.hc 1 rfl L (d+1) (Ki f E y);refine H.dr λq A=>⟨_,K (G:=[]) A,_,ac (G:=[]) A,?_,A.e9 (e:=aS) (sz:=4) (n:=1) (cs:=z4) rfl dl λC x=>⟨ac x,K x,?_⟩⟩
 .refine A.call (Dr k _ _ q (rd (G:=[]) A)) ?_;rintro _ C rfl x;refine⟨_,_,_,_,rfl,K (G:=[]) x,x.e9 (e:=aS) (sz:=4) (n:=1) (cs:=z4) rfl dl λN F=>⟨K F,?_⟩⟩;exact RA H L d Q ab (gC k (f.aU (d+1)).1 (f.aU (d+1)).2) hb (src:=⟨some (aa C.heap.size),1,1⟩) F rfl fin
 .refine x.call (Dr k _ _ C (rd x)) ?_;rintro _ N rfl F;refine⟨_,_,_,_,rfl,K F,?_⟩;exact RA H L d Q ab (gC k (f.aU (d+1)).1 (f.aU (d+1)).2) hb (src:=⟨some (aa q.heap.size),1,1⟩) F rfl fin
end
def i5(w:I)(a:List Nat)(c:List J)(b:Nat)(Q:cW->Addr->List FX->FX->Int->Int->List J->Prop):aC:=λr q=>∃d e j h k,i4 w a c b d e j h k (Q r d e j h k) q
def lI(f:FX):FX:=⟨f.k,f.ar,f.al,f.an++[qk 3 (mj f).ca],[],0,f.la⟩
def lH(f:FX):FX:=⟨f.k,f.ar,f.al++[qk 5 (lI f).an],[],[],0,f.la⟩
def D8(f:FX):FX:=⟨f.k,f.ar,[],[],[],0,f.la⟩
def cI(f:FX):Rx:=qk 4 (lH f).al
def Hy{w0:I}{M:Nat->Prop}{w:I}{own:List Nat}{ts y:List J}{k:Int}{s:Sl}{ks:List J}(a:∀b∈J.bc ts,b∈J.bc y\/b∈own\/w.heap.size<=b)(f:∀b∈aG s,b∈own\/w.heap.size<=b)(d:∀t∈ks,t∈ts):∀b∈J.bc (ts++[gC k s ks]),b∈J.bc y\/b∈own\/w.heap.size<=b:=λb c=>by
 obtain⟨t,h,q⟩:=J.bX.1 c;rcases aP.1 h with h|h
 .exact a b (J.bX.2 ⟨t,h,q⟩)
 .simp at h;rw[h]at q;rcases abC q with j|j
  .exact .inr (f b (gY (e:=aS) j))
  .obtain ⟨x,A,z⟩:=J.bX.1 j;exact a b (J.bX.2 ⟨x,d x A,z⟩)
def SE{own:List Nat}{w0 w:I}{rb:Nat}{sl:Sl}{st wd:Int}{d:List FM}{f:FM}{ts:List J}(H:FS own w0 w rb sl st wd d f ((d++[f]).flatMap FM.rows) ts){j:Nat}(a:1<=j)(c:j<=4):∀b∈aG (f.aU j).1,b∈own\/w0.heap.size<=b:=λb e=>by have h:=rv d f (j - 1) _ (uD f a c);exact(H.new (.rows ((d++[f]).flatMap FM.rows)) gs b (aW.2 (ck.2 ⟨_,aD h,e⟩))).symm
def Tp{q:List FM}{f:FM}{ts:List J}{k:Int}{d s:Nat}{x:Sl}(i:∀g∈q++[f],∀t∈g.ts,t∈ts)(a:1<=d)(b:d<=4)(c:1<=s)(e:s<=4):∀g∈q++[(f.put d (x,(f.aU d).2++[gC k (f.aU s).1 (f.aU s).2])).put s (⟨none,0,0⟩,[])],∀t∈g.ts,t∈ts++[gC k (f.aU s).1 (f.aU s).2]:=by
 intro g j t w;rcases aP.1 j with j|j
 .grind
 .simp at j;subst j;rcases Bm _ _ c e w with h|h
  .rcases Bm _ _ a b h with h|h
   .grind
   .rcases aP.1 h with h|h
    .exact cm _ (i f gs t (pL f d h))
    grind
  grind
def Jz{w:I}{rb:Nat}{f0:Addr}{lo:List FX}{d:FX}{st wd:Int}{own:List Nat}{ts:List J}(F:St w rb f0 lo d st wd own ts)(j:d.n<=1000000)(i:d.ca.length<=1000000)(m:d.an.length<=1000000):
  ai U O2 #[.pointer (some f0)] w λr c=>r=ad (.tuple #[])/\i4 w own ts rb f0 lo (lI d) st wd (λ_=>True) c:=by
 refine Sc.ok ((Jy F j i).mono ?_);rintro _ w1 ⟨rfl,ac,ab,⟨sl,h,f,p,rfl,e,q,z,rfl,H,K,L,N,G⟩,E,o1,B,t1,_⟩;refine⟨rfl,?_⟩;have y:=St.wO H K L N G;have O:(f.aU 3).2.length<=1000000:=by
  have D:f.x.an.length=f.an.2.length:=by show(J.ao f.an.2).length=_;rw[J.fW];simp
  have e2:f.x.an=d.an:=by rw[e];rfl
  show f.an.2.length<=_
  grind
 refine shift (R:=λr c=>r=ad (.tuple #[])/\i4 w own ts rb (p.add (h.length *10)) (h.map FM.x) (lI d) st wd (λ_=>True) c) y z 3 3 4 io rfl io O (λt a=>q f gs t a) λl c C=>⟨rfl,i4.then E o1 B t1 ?_⟩;have:=St.of (ts:=ab) (A:=λ_=>True) (f0:=p.add (h.length *10)) C 0 rfl (Tp q io io io io) z rfl (Hy (w0:=w) (M:=F0) (λb g=>.inl g) (SE y io io) λt a=>q f gs t (pL f 4 a)) (λt a=>cm _ a) trivial;have D:((f.put 3 (l,(f.aU 3).2++[gC 3 (f.aU 4).1 (f.aU 4).2])).put 4 (⟨none,0,0⟩,[])).x=lI d:=by
  have W:f.x.k=d.k:=by rw[e];rfl
  have S:f.x.ar=d.ar:=by rw[e];rfl
  have P:f.x.al=d.al:=by rw[e];rfl
  have Q:f.x.an=d.an:=by rw[e];rfl
  have T:f.x.ca=(mj d).ca:=by rw[e]
  have aa:f.x.n=0:=by rw[e];rfl
  have Y:f.x.la=d.la:=by rw[e];rfl
  unfold lI;rw[<-W,<-S,<-P,<-Q,<-T,<-Y];show FX.mk f.k (f.ar.1,J.ao f.ar.2) (J.ao f.al.2) (J.ao (f.an.2++[gC 3 f.ca.1 f.ca.2])) (J.ao []) f.n f.la.rx=_;have Z:f.n=0:=aa;rw[Z,k5];simp[J.ao,Gs,FM.x]
 grind
def Jx{w:I}{rb:Nat}{f0:Addr}{lo:List FX}{d:FX}{st wd:Int}{own:List Nat}{ts:List J}(F:St w rb f0 lo d st wd own ts)(l:d.n<=1000000)(j:d.ca.length<=1000000)(g:d.an.length<=1000000)(o:d.al.length<=1000000):
  ai U O0 #[.pointer (some f0)] w λr c=>r=ad (.tuple #[])/\i4 w own ts rb f0 lo (lH d) st wd (λ_=>True) c:=by
 refine Sa.ok ((Jz F l j g).mono ?_);rintro _ w1 ⟨rfl,ae,ac,⟨sl,h,f,p,rfl,e,q,z,rfl,H,K,L,N,G⟩,E,o1,B,t1,_⟩;refine⟨rfl,?_⟩;have y:=St.wO H K L N G;have O:(f.aU 2).2.length<=1000000:=by
  have D:f.x.al.length=f.al.2.length:=by show(J.ao f.al.2).length=_;rw[J.fW];simp
  have e2:f.x.al=d.al:=by rw[e];rfl
  show f.al.2.length<=_
  grind
 refine shift (R:=λr c=>r=ad (.tuple #[])/\i4 w own ts rb (p.add (h.length *10)) (h.map FM.x) (lH d) st wd (λ_=>True) c) y z 5 2 3 io rfl io O (λt a=>q f gs t a) λm c C=>⟨rfl,i4.then E o1 B t1 ?_⟩;have:=St.of (ts:=ac) (A:=λ_=>True) (f0:=p.add (h.length *10)) C 0 rfl (Tp q io io io io) z rfl (Hy (w0:=w) (M:=F0) (λb i=>.inl i) (SE y io io) λt a=>q f gs t (pL f 3 a)) (λt a=>cm _ a) trivial;have D:((f.put 2 (m,(f.aU 2).2++[gC 5 (f.aU 3).1 (f.aU 3).2])).put 3 (⟨none,0,0⟩,[])).x=lH d:=by
  have Y:f.x.k=d.k:=by rw[e];rfl
  have S:f.x.ar=d.ar:=by rw[e];rfl
  have P:f.x.al=d.al:=by rw[e];rfl
  have Q:f.x.an=(lI d).an:=by rw[e]
  have W:f.x.ca=[]:=by rw[e];rfl
  have ab:f.x.n=0:=by rw[e];rfl
  have Z:f.x.la=d.la:=by rw[e];rfl
  unfold lH;rw[<-Y,<-S,<-P,<-Q,<-Z];show FX.mk f.k (f.ar.1,J.ao f.ar.2) (J.ao (f.al.2++[gC 5 f.an.1 f.an.2])) (J.ao []) (J.ao f.ca.2) f.n f.la.rx=_;have aa:f.n=0:=ab;have T:J.ao f.ca.2=[]:=W;rw[aa,T,k5];simp[J.ao,Gs,FM.x]
 grind
abbrev SF(M:Nat->Prop)(i w:I)(b:Nat)(d:Sl)(e j:Int)(a:List FM)(f:FM)(G:List En)(g:List J):Prop:=O M i w (SL b d e j ((a++[f]).flatMap FM.c) ((a++[f]).flatMap FM.rows)++G) [.trees g]
section
variable {M:Nat->Prop} {w0 w:I} {bs:List Nat} {G:List En} {rb:Nat} {sl:Sl} {st wd:Int} {fs:List FM} {f:FM} {ts:List J} {p:Addr}
def adm(H:SF M w0 w rb sl st wd fs f G ts)(i:∀g∈fs++[f],∀t∈g.ts,t∈ts)(l:sl.a=some p):
  St w rb (p.add (fs.length *10)) (fs.map FM.x) f.x st wd ((SL rb sl st wd ((fs++[f]).flatMap FM.c) ((fs++[f]).flatMap FM.rows)).flatMap (·.fp)) ts:=by have h:=H.nd;rw[dK,ff]at h;refine⟨sl,fs,f,p,rfl,rfl,i,l,rfl,rfl,h.1,λe d=>H.own e (cm _ d),H.getD 0,λb k q=>?_⟩;obtain⟨e,d,j⟩:=ck.1 q;exact H.dj (.trees ts) gs b (aW.2 k) e (cm _ d) j
def adl(H:SF M w0 w rb sl st wd fs f G ts){w':I}{C:Addr}{D:List FX}{K:FX}{F L:Int}{B:List Nat}{h:List J}(s:St w' rb C D K F L B h)(u:Fr (·∈(SL rb sl st wd ((fs++[f]).flatMap FM.c) ((fs++[f]).flatMap FM.rows)).flatMap (·.fp)) w w')(o:∀y∈B,y∈(SL rb sl st wd ((fs++[f]).flatMap FM.c) ((fs++[f]).flatMap FM.rows)).flatMap (·.fp)\/w.heap.size<=y)(i:∀b∈J.bc h,b∈J.bc ts\/b∈(SL rb sl st wd ((fs++[f]).flatMap FM.c) ((fs++[f]).flatMap FM.rows)).flatMap (·.fp)\/w.heap.size<=b):
  ∃(n:Sl) (j:List FM) (p:FM) (q:Addr),j.map FM.x=D/\p.x=K/\(∀g∈j++[p],∀t∈g.ts,t∈h)/\n.a=some q/\C=q.add (j.length *10)/\(∀b∈J.bc h,b∈J.bc ts\/w0.heap.size<=b\/M b)/\SF M w0 w' rb n F L j p G h:=by
 obtain⟨n,j,p,q,O,P,Q,S,T,W,Y,h8,Z,af⟩:=s;have A:=H.nd;rw[dK,ff]at A;have E:∀b∈(SL rb sl st wd ((fs++[f]).flatMap FM.c) ((fs++[f]).flatMap FM.rows)).flatMap (·.fp),w0.heap.size<=b\/M b:=λb i=>by obtain⟨e,d,l⟩:=ck.1 i;exact H.new e (cm _ d) b l
 have ae:∀e∈G,∀b∈e.fp,b<w.heap.size:=λe d b i=>e.lt w (H.own e (da _ d)) b i;have N:∀e∈G,∀b∈e.fp,b∉(SL rb sl st wd ((fs++[f]).flatMap FM.c) ((fs++[f]).flatMap FM.rows)).flatMap (·.fp):=λe d b i r=>A.2.2 b r b (ck.2 ⟨e,d,i⟩) rfl;have ab:=H.fr.size;have ag:∀b∈B,w0.heap.size<=b\/M b:=λb i=>(o b i).elim (E b) λk=>.inl (bB ab k);refine⟨n,j,p,q,O,P,Q,S,T,λb z=>?_,H.fr.trans u λy hx r=>(E y r).resolve_left io,λe d=>?_,λe d=>?_,λe d b z=>?_,?_,λe d b z ac m l=>?_⟩
 .grind
 .rcases aP.1 d with d|d
  .grind
  .exact e.st w w' (λb i hl=>u.cw b hl (N e d b i)) (H.own e (da _ d))
 .simp at d;subst d;exact Z
 .rcases aP.1 d with d|d
  .grind
  .exact H.new e (da _ d) b z
 .rw [dK,ff];refine⟨W▸Y,A.2.1,λy hx ah hy v=>?_⟩;subst v;obtain⟨e,d,l⟩:=ck.1 hy
  grind
 .simp at d;subst d;have aa:b∈J.bc h:=aW.1 z;rcases aP.1 m with m|m
  .grind
  .rcases i b aa with k|k|k
   .exact H.dj (.trees ts) gs b (aW.2 k) ac (da _ m) l
   .grind
   grind
def _root_.Go.W.O.mZ(H:SF M w0 w rb sl st wd fs f G ts)(u:∀g∈fs++[f],∀t∈g.ts,t∈ts)(F:sl.a=some p){g:b3}{args:Array V}{K:aC}{Q:cW->Addr->List FX->FX->Int->Int->List J->Prop}(y:∀own,St w rb (p.add (fs.length *10)) (fs.map FM.x) f.x st wd own ts->ai U g args w (i5 w own ts rb Q))(z:∀r h (i:Sl) (e:List FM) (l:FM) (m:Addr) (j k:Int) (d:List J),(∀t∈ts,t∈d)->(∀g∈e++[l],∀t∈g.ts,t∈d)->i.a=some m->(∀b∈J.bc d,b∈J.bc ts\/w0.heap.size<=b\/M b)->Q r (m.add (e.length *10)) (e.map FM.x) l.x j k d->SF M w0 h rb i j k e l G d->K r h)(n:∀b∈bs,En.g b∈G:=by simp):fF bs U g args w K:=by
 have A:=H.nd;rw[dK,ff]at A;refine⟨(·∈(SL rb sl st wd ((fs++[f]).flatMap FM.c) ((fs++[f]).flatMap FM.rows)).flatMap (·.fp)),λb v E=>?_,(y _ (adm H u F)).mono ?_⟩
 .exact A.2.2 b E b (ck.2 ⟨_,n b v,by simp[En.g]⟩) rfl
 .rintro r h ⟨P,S,Y,j,k,T,d,s,q,o,b,t,N⟩;obtain⟨i,e,l,m,rfl,rfl,C,L,rfl,D,B⟩:=adl H s q o b;exact⟨q,z r h i e l m j k d t C L D N B⟩
def _root_.Go.W.O.zS(H:SF M w0 w rb sl st wd fs f G ts)(n:∀g∈fs++[f],∀t∈g.ts,t∈ts)(s:sl.a=some p){g:b3}{args:Array V}{K:aC}{Q:cW->Addr->List FX->FX->Int->Int->List J->Prop}(o:∀own,St w rb (p.add (fs.length *10)) (fs.map FM.x) f.x st wd own ts->ai U g args w (i5 w own ts rb Q))(q:∀r l (e:Sl) (d:List FM) (k:FM) (m:Addr) (i j:Int) (c:List J),(∀t∈ts,t∈c)->(∀g∈d++[k],∀t∈g.ts,t∈c)->e.a=some m->(∀b∈J.bc c,b∈J.bc ts\/w0.heap.size<=b\/M b)->Q r (m.add (d.length *10)) (d.map FM.x) k.x i j c->SF M w0 l rb e i j d k G c->K r l):ai U g args w K:=by obtain⟨_,_,h⟩:=H.mZ (bs:=[]) n s o q gs;exact h.mono λr l h=>h.2
end
def EB(f:FM):f.x.ar.2.length=f.ar.2.length/\f.x.al.length=f.al.2.length/\f.x.an.length=f.an.2.length/\f.x.ca.length=f.ca.2.length:=by refine⟨?_,?_,?_,?_⟩<;>(show(J.ao _).length=_;rw[J.fW];simp)
def zB{w:I}{own:List Nat}{ts:List J}{rb:Nat}{f0:Addr}{lo:List FX}{d:FX}{st wd:Int}{g:b3}{args:Array V}(j:ai U g args w λr e=>r=ad (.tuple #[])/\i4 w own ts rb f0 lo d st wd (λ_=>True) e):
  ai U g args w (i5 w own ts rb λr a b h c f _=>r=ad (.tuple #[])/\a=f0/\b=lo/\h=d/\c=st/\f=wd):=
 j.mono λr e ⟨k,q⟩=>⟨f0,lo,d,st,wd,q.mono λ_ _=>⟨k,rfl,rfl,rfl,rfl,rfl⟩⟩
structure Small(f:FX)(n:Nat):Prop where
 n':f.n<=n
 ar:f.ar.2.length<=n
 al:f.al.length<=n
 an:f.an.length<=n
 ca:f.ca.length<=n
def zF{w:I}{rb:Nat}{f0:Addr}{lo:List FX}{z:FX}{st wd:Int}{own:List Nat}{ts:List J}(A:St w rb f0 lo z st wd own ts)(l:Small z 1000000):
  ai U FU #[.pointer (some f0)] w (i5 w own ts rb λr ay u aJ aI ab Z=>ay=f0/\u=lo/\aJ=D8 z/\aI=st/\ab=wd/\∃t∈Z,r=ad t.v/\t.rx=cI z):=by
 obtain⟨sl,E,f,p,rfl,rfl,h3,h4,rfl,h6,h7,h8,h9,ag⟩:=A;have G:SF (·∈own) w w rb sl st wd E f [] ts:=by
  have:=St.wO h6 h7 h8 h9 ag
  grind
 refine Sb.aq (G.ax (bs:=[]) (λq w1 H=>?_) gs);refine(show SF (·∈own) w w1 rb sl st wd E f [.g q] ts from H).mZ (bs:=[q]) h3 h4 (λah s1=>zB (Jx s1 l.n' l.ca l.an l.al)) ?_ gs;rintro _ D az e d p2 aA aH aC t2 F B ac ⟨rfl,aj,am,h,rfl,rfl⟩ y;rw[<-aj,<-am];have C:((e++[d]).flatMap FM.rows)[e.length *4+(2 - 1)]? =some ((d.aU 2).1,(d.aU 2).2.flatMap J.c):=rv e d 1 _ (uD d (j:=2) io io);have aw:bh 4 D d.al.1 (d.al.2.flatMap J.c):=by have hP:(En.rows ((e++[d]).flatMap FM.rows)).P D:=y.get 2;exact(hP.1 _ (aD C)).a3
 refine⟨rfl,d.al.1,y.hc 1 rfl B 2,y.av (Dr 4 _ _ D aw) ?_⟩;rintro _ w3 rfl L;refine⟨_,_,_,_,rfl,L.ax (bs:=[q]) (λm w4 N=>N.ae (bs:=[q,m]) (λw5 Q=>?_) gs) gs⟩;refine Q.jt (bs:=[q,m]) (f:=d) 1 (d.put 2 (⟨none,0,0⟩,[])) 2 rfl B io rfl (λw6 S=>S.ae (bs:=[q,m]) (λw7 T=>?_) gs) gs;have W:=T.EC 2 (e.length *4+(2 - 1)) rfl C;have Y:=W.Qq 0 4 (s:=d.al.1) (ks:=d.al.2) rfl (by simp[FM.aU]) λt a=>F d gs t (pL d 2 a);have er:=u0 e d (⟨none,0,0⟩,[]) (j:=2) io io;have e':(([]:List J).flatMap J.c)=[]:=rfl;rw[e']at er;simp only at er;have K:O (·∈own) w w7 (SL rb az aA aH ((e++[d.put 2 (⟨none,0,0⟩,[])]).flatMap FM.c) ((e++[d.put 2 (⟨none,0,0⟩,[])]).flatMap FM.rows)) [.trees (aC++[gC 4 d.al.1 d.al.2])]:=by rw[<-er];exact Y.take 3
 have ap:∀b∈aG d.al.1,b∈own\/w.heap.size<=b:=λb o=>(y.new (.rows ((e++[d]).flatMap FM.rows)) gs b (aW.2 (ck.2 ⟨_,aD C,o⟩))).symm;have ex:(d.put 2 (⟨none,0,0⟩,[])).x=D8 f.x:=by
  have e1:d.k=f.k:=by have:=congrArg FX.k h;exact this
  have e2:(d.ar.1,J.ao d.ar.2)=f.x.ar:=by have:=congrArg FX.ar h;exact this
  have e3:J.ao d.an.2=[]:=by have:=congrArg FX.an h;exact this
  have e4:J.ao d.ca.2=[]:=by have:=congrArg FX.ca h;exact this
  have e5:d.n=0:=by have:=congrArg FX.n h;exact this
  have e6:d.la.rx=f.x.la:=by have:=congrArg FX.la h;exact this
  show FX.mk d.k (d.ar.1,J.ao d.ar.2) (J.ao []) (J.ao d.an.2) (J.ao d.ca.2) d.n d.la.rx=_;rw[e1,e2,e3,e4,e5,e6];rfl
 refine⟨_,_,_,_,_,St.of (ts:=ts) (f0:=p2.add (e.length *10)) K 0 rfl (λg i t a=>?_) B rfl (Hy (w0:=w) (M:=F0) (λb o=>(ac b o).imp id Or.symm) ap λt a=>F d gs t (pL d 2 a)) (λt a=>cm _ (t2 t a)) ⟨rfl,rfl,ex,rfl,rfl,gC 4 d.al.1 d.al.2,gs,rfl,?_⟩⟩
 .rcases aP.1 i with i|i
  .grind
  .simp at i;subst i;rcases Bm _ _ io io a with A|A
   .grind
   grind
 .rw [Gs];have:=congrArg FX.al h;have af:J.ao d.al.2=(lH f.x).al:=this;rw[af];rfl
def ql{p:Addr}{K:Addr->Prop}(d:K p):dJ (some p) K:=d
def Yg:fO U aeV iX (.agg #[.int .i64 0,.slice none 0 0,.slice none 0 0,.slice none 0 0,.slice none 0 0,.int .i64 0,.int .i64 0,.int .u8 0,.int .u8 0,.slice none 0 0]) 10 152:=⟨by kernel_rfl,by kernel_rfl,rfl,dl,dl⟩
section
variable {M:Nat->Prop} {w0 w:I} {L D:List En} {bs:List Nat} {G:List En} {rb:Nat} {sl:Sl} {st wd:Int} {fs:List FM} {f:FM} {ts:List J} {p:Addr}
def _root_.Go.W.O.v9(H:O M w0 w L D)(i j:Nat){b:Nat}{vs:List V}{T:aE}{v:V}{K:I->Prop}(f:L[i]? =some (.c b vs T))(l:∀k,O M w0 k (L.set i (.c b (vs.set j v) T)) D->K k)(o:j<vs.length)(d:∀b∈bs,En.g b∈L:=by simp):aN w ((aa b).add j) v λh=>kept bs w h/\K h:=by
 obtain⟨y,z,A⟩:=H.set (v:=v) i j f o;refine⟨y,z,λe a=>?_,l _ A⟩;have x:e≠b:=by
  rintro rfl;refine xw H f (λn m=>?_) (d _ a) (by simp[En.ob]);have B:({w with heap:=gq (n+1) (.map #[] 0)}:I).heap[e]? =some (.cells vs.toArray T (0,0)):=m
  grind
 have q:Fr (·=b) w (w.setCell ((aa b).add j) v):=Fr.set _ _ _ (by rw[kG])
 exact q.cw e (H.own _ (d _ a)) x
def BJ(H:SF M w0 w rb sl st wd fs f G ts):sl.n=fs.length+1:=by
 have d:aK w iX 10 sl ((fs++[f]).flatMap FM.c):=H.get 1;have:=d.len;rw[q4]at this
 grind
def zJ(H:SF M w0 w rb sl st wd fs f G ts)(b:sl.a=some p)(d:fs.length<=1000000):ai U AU #[.pointer (some (aa rb))] w λr c=>r=ad (.pointer (some (p.add (fs.length *10))))/\af w c:=by
 have j:=BJ H;have h:aB .i64 ((sl.n:Int) - 1)=(fs.length:Int):=by rw[bo _ io];omega
 have e:SF M w0 w.drew rb sl st wd fs f G ts:=H.drew;refine G8.ok (show _ from⟨sl,e.ld 0 0,sl,e.ld 0 0,?_⟩);rw[h,b];exact⟨io,io,rfl,Fr.drew _ _⟩
def Hq(H:SF M w0 w rb sl st wd fs f G ts)(k:Int)(d c:UInt8):SF M w0 w rb sl st wd fs f G (ts++[.mk k d c ⟨none,0,0⟩ []]):=by
 have h:=H.ef (.trees (ts++[.mk k d c ⟨none,0,0⟩ []])) (Fr.refl _ _) (J.jV λt a=>?_) λb j=>.inr (.inr ⟨.trees ts,gs,?_⟩)
 .exact h.forget _ gs
 .rcases aP.1 a with a|a
  .exact J.Ps.mem (H.getD 0) a
  .simp at a;subst a;show J.P w _;unfold J.P J.Ps;exact⟨bh.nil 4 w,trivial⟩
 .obtain ⟨t,a,e⟩:=J.bX.1 (aW.1 j);rcases aP.1 a with a|a
  .exact aW.2 (J.bX.2 ⟨t,a,e⟩)
  .simp at a;rw[a]at e;unfold J.fp J.bc at e;simp[En.a3]at e
def Ao{k:Int}{lo hi:UInt8}{b:Nat}(h:b∈J.bc (ts++[.mk k lo hi ⟨none,0,0⟩ []])):b∈J.bc ts:=by
 obtain⟨t,d,e⟩:=J.bX.1 h;rcases aP.1 d with d|d
 .exact J.bX.2 ⟨t,d,e⟩
 .simp at d;rw[d]at e;unfold J.fp J.bc at e;simp[En.a3]at e
def acW(H:O M w0 w L D)(i:Nat){e:List ee}(c:L[i]? =some (.rows e))(n:Nat):O M w0 w (L.set i (.rows (e++List.replicate n (⟨none,0,0⟩,[])))) D:=by
 have h:(En.rows e).P w:=H.get i c;have k:(e++List.replicate n ((⟨none,0,0⟩,[]):ee)).flatMap (λd:ee=>aG d.1)=e.flatMap λd:ee=>aG d.1:=by
  rw[dK];have:(List.replicate n ((⟨none,0,0⟩,[]):ee)).flatMap (λd:ee=>aG d.1)=[]:=by
   induction n with
   |zero=>rfl
   |succ n q=>rw[List.replicate_succ,dz,q];rfl
  grind
 refine H.fx i _ c (Fr.refl _ _) ⟨λd a=>?_,by rw[k];exact h.2⟩ λb j=>.inl (aW.2 (by have:=aW.1 j;grind));rcases aP.1 a with a|a
 .exact h.1 d a
 .rw [List.eq_of_mem_replicate a];exact aK.nil _ _ _
end
def my(k:Int):FX:=⟨k,(⟨none,0,0⟩,[]),[],[],[],0,fU⟩
def jR(k:Int):FM:=⟨k,(⟨none,0,0⟩,[]),(⟨none,0,0⟩,[]),(⟨none,0,0⟩,[]),(⟨none,0,0⟩,[]),0,.mk 0 0 0 ⟨none,0,0⟩ []⟩
def A9{w:I}{rb:Nat}{f0:Addr}{lo:List FX}{d:FX}{st wd:Int}{own:List Nat}{ts:List J}(e:St w rb f0 lo d st wd own ts):∃(c:Sl) (b:List FM) (f:FM) (p:Addr),b.map FM.x=lo/\f.x=d/\(∀g∈b++[f],∀t∈g.ts,t∈ts)/\c.a=some p/\f0=p.add (b.length *10)/\SF (·∈own) w w rb c st wd b f [] ts:=by
 obtain⟨c,b,f,p,h,k,q,y,z,A,B,C,D,j⟩:=e;refine⟨c,b,f,p,h,k,q,y,z,?_⟩;have:=St.wO A B C D j
 grind
def JI{w:I}{rb:Nat}{f0:Addr}{lo:List FX}{y:FX}{st wd:Int}{own:List Nat}{ts:List J}(K:St w rb f0 lo y st wd own ts)(W:lo.length<=1000000)(d i:Int):
  ai U O6 #[.pointer (some (aa rb)),.int .i64 d,.int .i64 i] w (i5 w own ts rb λr _ o u s P _=>r=ad (.bool true)/\o=lo++[y]/\u=my d/\s=i/\P=wd):=by
 obtain⟨sl,h,f,p,rfl,rfl,S,T,rfl,x⟩:=A9 K;have Z:=BJ x;have Y:h.length<=1000000:=by grind
 refine Sj.ok ⟨sl,x.ld 0 0,x.e9 (e:=iX) (sz:=10) (n:=1) (cs:=(jR d).c) rfl dl λw1 m=>?_⟩;refine m.IL 1 Yg (src:=⟨some (aa w.heap.size),1,1⟩) (news:=(jR d).c) rfl (aK.a3 (m.get 3)).2.2 rfl (by simp[FM.c,jR,Value.oneCell']) (by grind) λj N A Q ab _=>?_;obtain⟨q,M⟩:∃q,j.a=some q:=by
  cases hs:j.a with
  |none=>grind
  |some q=>grind
 have B:O (·∈own) w N [.c rb [sl.v,.int .i64 st,.int .i64 wd] y3,.row iX 10 j ((h++[f]).flatMap FM.c++(jR d).c),.rows ((h++[f]).flatMap FM.rows)] [.trees ts]:=A.take 3;refine B.st 0 0 rfl (λw3 C=>C.st 0 1 rfl (λz D=>?_));have E:=acW D 2 rfl 4;have F:SF (·∈own) w z rb j i wd (h++[f]) (jR d) [] ts:=by show O _ _ _ (SL rb j i wd ((h++[f]++[jR d]).flatMap FM.c) ((h++[f]++[jR d]).flatMap FM.rows)++[]) _;rw[List.append_nil,dK (xs:=h++[f]),dK (xs:=h++[f])];simpa[show(jR d).rows=[(⟨none,0,0⟩,[]),(⟨none,0,0⟩,[]),(⟨none,0,0⟩,[]),(⟨none,0,0⟩,[])]from rfl]using E
 have G:=Hq F 0 0 0;have H:O (·∈own) w z (SL rb j i wd ((h++[f]++[jR d]).flatMap FM.c) ((h++[f]++[jR d]).flatMap FM.rows)) [.trees (ts++[.mk 0 0 0 ⟨none,0,0⟩ []])]:=G.take 3;refine⟨_,_,_,_,_,St.of (ts:=ts) (p:=q) (f0:=q.add ((h++[f]).length *10)) H 0 rfl (λg k t l=>?_) M rfl (λb L=>.inl (Ao L)) (λt l=>cm _ l) ⟨rfl,?_,rfl,rfl,rfl⟩⟩
 .rcases aP.1 k with k|k
  .grind
  .simp at k;subst k;simp[FM.ts,jR]at l
   grind
 .simp
def jG(a:FX)(x:Rx):FX:=⟨a.k,a.ar,a.al,a.an,a.ca,a.n,x⟩
def Dm{w:I}{rb:Nat}{f0:Addr}{lo:List FX}{z:FX}{st wd:Int}{own:List Nat}{ts:List J}(N:St w rb f0 lo z st wd own ts)(hl:lo.length<=1000000)(t:J)(j:t∈ts):
  ai U FY #[.pointer (some (aa rb)),t.v] w (i5 w own ts rb λr i m S o Y _=>r=ad (.bool true)/\i=f0/\m=lo/\S=jG z t.rx/\o=3/\Y=wd):=by
 obtain⟨sl,d,f,p,rfl,rfl,x,h,rfl,A⟩:=A9 N;have Q:d.length<=1000000:=by grind
 refine Sg.aq (A.ax (bs:=[]) (λe w1 Z=>Z.ae (bs:=[e]) (λT ab=>?_) gs) gs);have y:SF (·∈own) w T rb sl st wd d f [.g e] ts:=ab;refine y.av (zJ y h Q) ?_;rintro _ w3 rfl B;refine⟨_,rfl,ql ?_⟩;refine B.jt (bs:=[e]) (f:=f) 1 ⟨f.k,f.ar,f.al,f.an,f.ca,f.n,.mk t.k f.la.lo f.la.hi f.la.s f.la.l⟩ 6 rfl h io rfl (λw4 C=>?_) gs;have K:((p.add (d.length *10)).add 6).add 1=(p.add (d.length *10)).add 7:=add_add _ 6 1;have L:((p.add (d.length *10)).add 6).add 2=(p.add (d.length *10)).add 8:=add_add _ 6 2;have M:((p.add (d.length *10)).add 6).add 3=(p.add (d.length *10)).add 9:=add_add _ 6 3;rw[K,L,M];refine C.jt (bs:=[e]) (f:=⟨f.k,f.ar,f.al,f.an,f.ca,f.n,.mk t.k f.la.lo f.la.hi f.la.s f.la.l⟩) 1 ⟨f.k,f.ar,f.al,f.an,f.ca,f.n,.mk t.k t.lo f.la.hi f.la.s f.la.l⟩ 7 rfl h io rfl (λw5 D=>?_) gs;refine D.jt (bs:=[e]) (f:=⟨f.k,f.ar,f.al,f.an,f.ca,f.n,.mk t.k t.lo f.la.hi f.la.s f.la.l⟩) 1 ⟨f.k,f.ar,f.al,f.an,f.ca,f.n,.mk t.k t.lo t.hi f.la.s f.la.l⟩ 8 rfl h io rfl (λw6 E=>?_) gs;refine E.jt (bs:=[e]) (f:=⟨f.k,f.ar,f.al,f.an,f.ca,f.n,.mk t.k t.lo t.hi f.la.s f.la.l⟩) 1 ⟨f.k,f.ar,f.al,f.an,f.ca,f.n,t⟩ 9 rfl h io rfl (λw7 F=>?_) gs;refine F.v9 (bs:=[e]) 0 1 rfl (λW G=>?_) gs gs;have er:(d++[f]).flatMap FM.rows=(d++[(⟨f.k,f.ar,f.al,f.an,f.ca,f.n,t⟩:FM)]).flatMap FM.rows:=by simp[FM.rows]
 have H:O (·∈own) w W (SL rb sl 3 wd ((d++[(⟨f.k,f.ar,f.al,f.an,f.ca,f.n,t⟩:FM)]).flatMap FM.c) ((d++[(⟨f.k,f.ar,f.al,f.an,f.ca,f.n,t⟩:FM)]).flatMap FM.rows)) [.trees ts]:=by rw[<-er];exact G.take 3
 refine⟨_,_,_,_,_,St.of (ts:=ts) (f0:=p.add (d.length *10)) H 0 rfl (λg q u a=>?_) h rfl (λb P=>.inl P) (λt j=>j) ⟨rfl,rfl,rfl,rfl,rfl,rfl⟩⟩;rcases aP.1 q with q|q
 .grind
 .simp at q;subst q;simp only[FM.ts,aP,aF,aZ,a7]at a;rcases a with(((a|a)|a)|a)|rfl
  .exact x f gs u (by simp[FM.ts,a])
  .exact x f gs u (by simp[FM.ts,a])
  .exact x f gs u (by simp[FM.ts,a])
  .exact x f gs u (by simp[FM.ts,a])
  omega
structure Tk where
 k:UInt8
 lo:UInt8
 hi:UInt8
 s:List UInt8
 a:Int
abbrev Tk.v(t:Tk):V:=.agg #[.int .u8 (t.k.toNat:Int),.int .u8 (t.lo.toNat:Int),.int .u8 (t.hi.toNat:Int),.string (ba t.s),.int .i64 t.a]
structure SX where
 lo:List FX
 tp:FX
 st:Int
 wd:Int
def Cj:List UInt8:=[110,111,110,101]
def Ci:List UInt8:=[101,109,112,116,121]
def Cg:List UInt8:=[97,108,116]
def Cf:List UInt8:=[97,108,108]
def Ch:List UInt8:=[99,97,116]
def gg(t:Tk)(s:SX):Option SX:=
 if t.k=33 then some ⟨s.lo,⟨s.tp.k,s.tp.ar,s.tp.al,s.tp.an,s.tp.ca,s.tp.n+1,s.tp.la⟩,0,s.wd⟩
 else if t.k=40 then some ⟨s.lo++[s.tp],my (-1),0,s.wd⟩
 else if t.k=114 then some ⟨s.lo,jG s.tp (.mk 2 t.lo t.hi []),3,s.wd⟩
 else if t.k=119 then
  if t.s=Cj then some ⟨s.lo,jG s.tp (.mk 0 0 0 []),3,s.wd⟩
  else if t.s=Ci then some ⟨s.lo,jG s.tp (.mk 1 0 0 []),3,s.wd⟩
  else if t.s=Cg then some ⟨s.lo,s.tp,2,4⟩
  else if t.s=Cf then some ⟨s.lo,s.tp,2,5⟩
  else if t.s=Ch then some ⟨s.lo,s.tp,2,3⟩
  else none
 else none
def zm(o:Option SX):cW->Addr->List FX->FX->Int->Int->List J->Prop:=λr _ a c b d _=>(o=none/\r=ad (.bool false))\/(o=some ⟨a,c,b,d⟩/\r=ad (.bool true))
section
variable {w w':I} {own:List Nat} {G:List En} {rb:Nat} {sl:Sl} {st wd:Int} {fs:List FM} {f:FM} {ts y0:List J} {p:Addr}
def ib{Q:cW->Addr->List FX->FX->Int->Int->List J->Prop}{r:cW}(H:SF (·∈own) w w' rb sl st wd fs f G y0)(c:∀g∈fs++[f],∀t∈g.ts,t∈y0)(e:sl.a=some p)(d:∀b∈J.bc y0,b∈J.bc ts\/w.heap.size<=b\/b∈own)(i:∀t∈ts,t∈y0)(q:Q r (p.add (fs.length *10)) (fs.map FM.x) f.x st wd y0):i5 w own ts rb Q r w':=
 ⟨_,_,_,_,_,St.of (ts:=ts) (f0:=p.add (fs.length *10)) (H.take 3) 0 rfl c e rfl (λb h=>(d b h).imp id Or.symm) i q⟩
end
def aez(s:List UInt8):(ba s).toList=s:=by rw[ByteArray.toList_eq];rfl
def aeA(a:Array UInt8):(ByteArray.mk a).toList=a.toList:=by rw[ByteArray.toList_eq]
def yK{s:List UInt8}{a:Array UInt8}{A d:Prop}(b:s=a.toList->A)(c:s≠a.toList->d):bD ((ba s).toList==(ByteArray.mk a).toList) A d:=by rw[aez,aeA];exact bn (λe=>b (by grind)) (λe=>c (by grind))
def kz{x:UInt8}{n:Nat}{A d:Prop}(c:n<256)(a:x=cX n->A)(b:x≠cX n->d):bD ((x.toNat:Int)==(n:Int)) A d:=by
 have e:∀x:UInt8,x.toNat=n↔x=cX n:=λx=>by rw[<-UInt8.toNat_inj,UInt8.toNat_ofNat'];omega
 exact bn (λh=>a ((e x).1 (by grind))) (λh=>b λj=>by grind)
def WZ{w:I}{rb:Nat}{f0:Addr}{lo:List FX}{L:FX}{st wd:Int}{own:List Nat}{ts:List J}(e:St w rb f0 lo L st wd own ts)(S:lo.length<=1000000)(hn:L.n<=1000000)(t:Tk):
  ai U F2 #[.pointer (some (aa rb)),t.v] w (i5 w own ts rb (zm (gg t ⟨lo,L,st,wd⟩))):=by
 obtain⟨sl,d,f,p,rfl,rfl,A,j,rfl,W⟩:=A9 e;have aj:d.length<=1000000:=by grind
 have aH:f.n<=1000000:=hn;have base:∀b∈J.bc ts,b∈J.bc ts\/w.heap.size<=b\/b∈own:=λb hb=>.inl hb;refine G7.aq (W.ax (bs:=[]) (λc w1 q=>?_) gs);have q:SF (·∈own) w w1 rb sl st wd d f [.g c] ts:=q;have leaf:∀(k:Int) (a b:UInt8) {l:I} {T M:Int},SF (·∈own) w l rb sl T M d f [.g c] ts->gg t ⟨d.map FM.x,f.x,st,wd⟩=some ⟨d.map FM.x,jG f.x (.mk k a b []),3,M⟩->
   fF [c] U FY #[.pointer (some (aa rb)),.agg #[.i k,.int .u8 (a.toNat:Int),.int .u8 (b.toNat:Int),.slice none 0 0]] l λr_ w6=>∃N:Bool,r_=ad (.bool N)/\i5 w own ts rb (zm (gg t ⟨d.map FM.x,f.x,st,wd⟩)) (ad (.bool N)) w6:=by
  intro k a b l T M h G;have o:=Hq h k a b;refine o.mZ (bs:=[c]) (λg m u B=>cm _ (A g m u B)) j (λZ H=>Dm H S (.mk k a b ⟨none,0,0⟩ []) gs) ?_ gs;rintro _ C ao ah f3 p3 ap az ay K E F D ⟨rfl,aG,P,Q,rfl,rfl⟩ r;refine⟨true,rfl,ib r E F (λaA hx=>?_) (λu B=>K u (cm _ B)) (.inr ⟨?_,rfl⟩)⟩
  .rcases D aA hx with e|e
   .exact .inl (Ao e)
   grind
  .rw [G,P,Q];rfl
 refine kz (n:=33) io (λz:t.k=33=>q.av (zJ q j aj) ?_) (λaC:t.k≠33=>kz (n:=40) io (λz:t.k=40=>?_) (λaw:t.k≠40=>kz (n:=114) io (λz:t.k=114=>?_) (λak:t.k≠114=>kz (n:=119) io (λz:t.k=119=>?_) (λam:t.k≠119=>?_))))
 .rintro _ l rfl h;refine⟨_,rfl,ql ⟨_,h.hc 1 rfl j 5,ql ?_⟩⟩;have af:aB .i64 ((f.n:Int)+1)=((f.n+1:Nat):Int):=by rw[bo _ io];omega
  rw[af];refine h.jt (bs:=[c]) (f:=f) 1 ⟨f.k,f.ar,f.al,f.an,f.ca,f.n+1,f.la⟩ 5 rfl j io rfl (λC o=>?_) gs;refine o.v9 (bs:=[c]) 0 1 rfl (λw4 r=>?_) gs gs;have er:(d++[f]).flatMap FM.rows=(d++[(⟨f.k,f.ar,f.al,f.an,f.ca,f.n+1,f.la⟩:FM)]).flatMap FM.rows:=by simp[FM.rows]
  have Y:SF (·∈own) w w4 rb sl 0 wd d ⟨f.k,f.ar,f.al,f.an,f.ca,f.n+1,f.la⟩ [.g c] ts:=by grind
  refine ib Y (λg m u B=>?_) j base (λ_ e=>e) (.inr ⟨?_,rfl⟩)
  .rcases aP.1 m with m|m
   .grind
   .simp at m;subst m;exact A f gs u B
  .unfold gg;rw[ag z];rfl
 .refine q.mZ (bs:=[c]) A j (λZ H=>JI H S (-1) 0) ?_ gs;rintro _ C ao ah f3 p3 ap az ay K E F D ⟨rfl,P,Q,rfl,rfl⟩ r;refine⟨true,rfl,ib r E F D K (.inr ⟨?_,rfl⟩)⟩;unfold gg
  grind
 .exact leaf 2 t.lo t.hi q (by unfold gg;grind)
 .refine q.v9 (bs:=[c]) 0 1 rfl (λl h=>?_) gs gs;have h:SF (·∈own) w l rb sl 2 wd d f [.g c] ts:=h;have ei:gg t ⟨d.map FM.x,f.x,st,wd⟩=if t.s=Cj then some ⟨d.map FM.x,jG f.x (.mk 0 0 0 []),3,wd⟩else if t.s=Ci then some ⟨d.map FM.x,jG f.x (.mk 1 0 0 []),3,wd⟩else if t.s=Cg then some ⟨d.map FM.x,f.x,2,4⟩else if t.s=Cf then some ⟨d.map FM.x,f.x,2,5⟩else if t.s=Ch then some ⟨d.map FM.x,f.x,2,3⟩else none:=by
   unfold gg
   grind
  have word:∀(k:Int),gg t ⟨d.map FM.x,f.x,st,wd⟩=some ⟨d.map FM.x,f.x,2,k⟩->aN l ((aa rb).add 2) (.i k) λO=>kept [c] l O/\G7.aV O (i5 w own ts rb (zm (gg t ⟨d.map FM.x,f.x,st,wd⟩))):=λk G=>
   h.v9 (bs:=[c]) 0 2 rfl (λC o=>ib (show SF (·∈own) w C rb sl 2 k d f [.g c] ts from o) A j base (λ_ e=>e) (.inr ⟨G,rfl⟩)) gs gs
  refine yK (λy:t.s=Cj=>leaf 0 0 0 h (by grind)) (λn1:t.s≠Cj=>yK (λy:t.s=Ci=>leaf 1 0 0 h (by grind)) (λn2:t.s≠Ci=>yK (λy:t.s=Cg=>word 4 (by grind)) (λn3:t.s≠Cg=>yK (λy:t.s=Cf=>word 5 (by grind)) (λn4:t.s≠Cf=>yK (λy:t.s=Ch=>word 3 (by grind)) (λn5:t.s≠Ch=>?_)))));exact ib h A j base (λ_ e=>e) (.inl ⟨by grind,rfl⟩)
 .exact ib q A j base (λ_ e=>e) (.inl ⟨by unfold gg;grind,rfl⟩)
def abO{w:I}{e:aE}{sz:Nat}{s:Sl}{xs:List V}{p:Addr}(h:aK w e sz s xs)(d:s.a=some p)(n:Nat)(b:n<=s.n):aK w e sz ⟨s.a,n,s.c⟩ (xs.take (n *sz)):=by
 have A:=h.len;rcases h.cases with⟨rfl,_⟩|⟨g,cur,x,y,j,k,q,z⟩
 .cases d
 .have B:n *sz<=s.n *sz:=Nat.mul_le_mul_right _ b;refine⟨by grind,.inr ⟨g,s.c,cur,by rw[x],dc _,y,bB b j,k,q,?_⟩⟩
  grind
section
variable {M:Nat->Prop} {w0 w:I} {L D A:List En} {bs:List Nat} {G:List En} {rb:Nat} {ts:List J}
def SH(H:O M w0 w L D)(i:Nat){d j:List ee}(a:L[i]? =some (.rows (d++j))):O M w0 w (L.set i (.rows d)) D:=by have e:(En.rows (d++j)).P w:=H.get i a;have h:=e.2;rw[dK,ff]at h;refine H.fx i _ a (Fr.refl _ _) ⟨λq k=>e.1 q (cm _ k),h.1⟩ λb c=>.inl (aW.2 ?_);rw[dK];exact cm _ (aW.1 c)
def aaj(H:O M w0 w (A++G) [.trees ts]):O (·∈A.flatMap (·.fp)) w w A [.trees ts]:=by have e:=H.nd;rw[dK,ff]at e;refine O.o6 _ _ (λd a=>⟨H.own d (cm _ a),λb c=>ck.2 ⟨d,a,c⟩⟩) e.1 λd a=>?_;simp only[aF,aZ,a7]at a;subst a;exact⟨H.getD 0,λb c g f h=>H.dj (.trees ts) gs b c g (cm _ f) h⟩
def aag(H:O M w0 w (A++G) [.trees ts]){w':I}{D:Addr}{E:List FX}{L:FX}{K N:Int}{C:List Nat}{h:List J}(s:St w' rb D E L K N C h)(q:Fr (·∈A.flatMap (·.fp)) w w')(o:∀k∈C,k∈A.flatMap (·.fp)\/w.heap.size<=k)(d:∀b∈J.bc h,b∈J.bc ts\/b∈A.flatMap (·.fp)\/w.heap.size<=b):
  ∃(l:Sl) (f:List FM) (m:FM) (n:Addr),f.map FM.x=E/\m.x=L/\(∀g∈f++[m],∀t∈g.ts,t∈h)/\l.a=some n/\D=n.add (f.length *10)/\(∀b∈J.bc h,b∈J.bc ts\/w0.heap.size<=b\/M b)/\SF M w0 w' rb l K N f m G h:=by
 obtain⟨l,f,m,n,Q,S,T,W,Y,Z,h7,h8,h9,af⟩:=s;have B:=H.nd;rw[dK,ff]at B;have F:∀b∈A.flatMap (·.fp),w0.heap.size<=b\/M b:=λb d=>by obtain⟨e,c,y⟩:=ck.1 d;exact H.new e (cm _ c) b y
 have ae:∀e∈G,∀b∈e.fp,b<w.heap.size:=λe c b d=>e.lt w (H.own e (da _ c)) b d;have P:∀e∈G,∀b∈e.fp,b∉A.flatMap (·.fp):=λe c b d p=>B.2.2 b p b (ck.2 ⟨e,c,d⟩) rfl;have ab:=H.fr.size;have ag:∀b∈C,w0.heap.size<=b\/M b:=λb d=>(o b d).elim (F b) λj=>.inl (bB ab j);refine⟨l,f,m,n,Q,S,T,W,Y,λb i=>?_,H.fr.trans q λk ac p=>(F k p).resolve_left io,λe c=>?_,λe c=>?_,λe c b i=>?_,?_,λe c b i u z y=>?_⟩
 .grind
 .rcases aP.1 c with c|c
  .grind
  .exact e.st w w' (λb d v=>q.cw b v (P e c b d)) (H.own e (da _ c))
 .simp at c;subst c;exact h9
 .rcases aP.1 c with c|c
  .grind
  .exact H.new e (da _ c) b i
 .rw [dK,ff];refine⟨Z▸h7,B.2.1,λk ac ah hy r=>?_⟩;subst r;obtain⟨e,c,y⟩:=ck.1 hy
  grind
 .simp at c;subst c;have aa:b∈J.bc h:=aW.1 i;rcases aP.1 z with z|z
  .grind
  .rcases d b aa with j|j|j
   .exact H.dj (.trees ts) gs b (aW.2 j) u (da _ z) y
   .grind
   grind
def _root_.Go.W.O.X1(H:O M w0 w (A++G) [.trees ts]){g:b3}{args:Array V}{K:aC}{Q:cW->Addr->List FX->FX->Int->Int->List J->Prop}(n:∀own,O (·∈own) w w A [.trees ts]->ai U g args w (i5 w own ts rb Q))(u:∀r h (e:Sl) (d:List FM) (j:FM) (k:Addr) (f i:Int) (c:List J),(∀t∈ts,t∈c)->(∀g∈d++[j],∀t∈g.ts,t∈c)->e.a=some k->(∀b∈J.bc c,b∈J.bc ts\/w0.heap.size<=b\/M b)->Q r (k.add (d.length *10)) (d.map FM.x) j.x f i c->SF M w0 h rb e f i d j G c->K r h)(l:∀b∈bs,En.g b∈G:=by simp):fF bs U g args w K:=by
 have q:=H.nd;rw[dK,ff]at q;refine⟨(·∈A.flatMap (·.fp)),λb m p=>?_,(n _ (aaj H)).mono ?_⟩
 .exact q.2.2 b p b (ck.2 ⟨_,l b m,by simp[En.g]⟩) rfl
 .rintro r h ⟨B,F,P,f,i,L,c,s,y,o,b,t,N⟩;obtain⟨e,d,j,k,rfl,rfl,C,E,rfl,D,z⟩:=aag H s y o b
  grind
def aai(H:O M w0 w L [.trees ts])(T:J)(e:T∈ts)(k:Int)(d c:UInt8):O M w0 w L [.trees (ts++[.mk k d c T.s T.l])]:=by
 have j:J.Ps w ts:=H.getD 0;have q:=H.ef (.trees (ts++[.mk k d c T.s T.l])) (Fr.refl _ _) (J.jV λt a=>?_) λb f=>.inr (.inr ⟨.trees ts,gs,?_⟩)
 .exact q.forget _ gs
 .rcases aP.1 a with a|a
  .exact j.mem a
  .simp at a;subst a;unfold J.P;exact(j.mem e).parts
 .obtain ⟨t,a,h⟩:=J.bX.1 (aW.1 f);rcases aP.1 a with a|a
  .exact aW.2 (J.bX.2 ⟨t,a,h⟩)
  .simp at a;rw[a]at h;exact aW.2 (J.bX.2 ⟨T,e,J.gP.2 ((J.gP (t:=.mk k d c T.s T.l)).1 h)⟩)
def aam{T:J}(a:T∈ts){k:Int}{lo hi:UInt8}{b:Nat}(h:b∈J.bc (ts++[.mk k lo hi T.s T.l])):b∈J.bc ts:=by
 obtain⟨t,d,e⟩:=J.bX.1 h;rcases aP.1 d with d|d
 .exact J.bX.2 ⟨t,d,e⟩
 .simp at d;rw[d]at e;exact J.bX.2 ⟨T,a,J.gP.2 ((J.gP (t:=.mk k lo hi T.s T.l)).1 e)⟩
def aah(H:O M w0 w L [.trees ts])(T:J)(c:T∈ts):O M w0 w L [.trees (ts++T.l)]:=by
 have e:J.Ps w ts:=H.getD 0;have h:=H.ef (.trees (ts++T.l)) (Fr.refl _ _) (J.jV λt a=>?_) λb j=>.inr (.inr ⟨.trees ts,gs,?_⟩)
 .exact h.forget _ gs
 .rcases aP.1 a with a|a
  .exact e.mem a
  .exact (e.mem c).parts.2.mem a
 .obtain ⟨t,a,d⟩:=J.bX.1 (aW.1 j);rcases aP.1 a with a|a
  .exact aW.2 (J.bX.2 ⟨t,a,d⟩)
  .exact aW.2 (J.bX.2 ⟨T,c,J.gP.2 (.inr (J.bX.2 ⟨t,a,d⟩))⟩)
def ZK{T:J}(a:T∈ts){b:Nat}(h:b∈J.bc (ts++T.l)):b∈J.bc ts:=by
 obtain⟨t,d,e⟩:=J.bX.1 h;rcases aP.1 d with d|d
 .exact J.bX.2 ⟨t,d,e⟩
 .exact J.bX.2 ⟨T,a,J.gP.2 (.inr (J.bX.2 ⟨t,d,e⟩))⟩
end
def Xm{w:I}{rb:Nat}{sl:Sl}{p:Addr}{n:Nat}(b:w.cell? ((aa rb).add 0)=some sl.v)(f:sl.n=n+1)(c:sl.a=some p)(g:n<=1000000):ai U AU #[.pointer (some (aa rb))] w λr e=>r=ad (.pointer (some (p.add (n *10))))/\af w e:=by
 have h:aB .i64 ((sl.n:Int) - 1)=(n:Int):=by rw[bo _ io];omega
 have d:w.drew.cell? ((aa rb).add 0)=some sl.v:=b;refine G8.ok (show _ from⟨sl,d,sl,d,?_⟩);rw[h,c];exact⟨io,io,rfl,Fr.drew _ _⟩
def nR(k:Int)(l:List Rx):Rx:=if k<0 then l.headD fU else .mk k 0 0 l
def WM{w:I}{rb:Nat}{sl:Sl}{st wd:Int}{d:List FM}{g f:FM}{ts:List J}{p:Addr}{own:List Nat}(H:O (·∈own) w w [.c rb [sl.v,.int .i64 st,.int .i64 wd] y3,.row iX 10 sl (((d++[g])++[f]).flatMap FM.c),.rows ((d++[g]).flatMap FM.rows)] [.trees ts])(Y:∀q∈d++[g],∀t∈q.ts,t∈ts)(j:sl.a=some p)(hl:d.length<=999999)(T:J)(o:T∈ts)(hk:0<=f.k\/T.l≠[]):
  ai U FZ #[.pointer (some (aa rb)),T.s.v] w (i5 w own ts rb λr _ af ah aj am _=>r=ad (.bool true)/\af=d.map FM.x/\ah=jG g.x (nR f.k (J.ao T.l))/\aj=3/\am=wd):=by
 have hn:sl.n=(d++[g]).length+1:=by
  have h:aK w iX 10 sl (((d++[g])++[f]).flatMap FM.c):=H.get 1;have:=h.len;rw[q4]at this
  grind
 have az:1<=sl.c:=by have h:aK w iX 10 sl (((d++[g])++[f]).flatMap FM.c):=H.get 1;have:=h.cap;omega
 refine Si.ok (H.call (Xm (H.ld 0 0) hn j (by grind)) ?_);rintro _ w1 rfl S;refine⟨_,rfl,ql ⟨_,S.hc 1 rfl j 0,?_⟩⟩;have y:=S.drew;refine⟨sl,y.ld 0 0,sl,y.ld 0 0,?_⟩;have an:aB .i64 ((sl.n:Int) - 1)=(((d++[g]).length:Nat):Int):=by rw[bo _ (by grind)];omega
 rw[an];have h:aK w iX 10 sl (((d++[g])++[f]).flatMap FM.c):=H.get 1;have aC:=h.cap;refine⟨io,io,?_⟩;have ev:Value.slice (if sl.c=0 then sl.a else sl.a.map (·.add (0 *10))) ((a0 (((d++[g]).length:Nat):Int)) - 0) (sl.c - 0)=(⟨sl.a,(d++[g]).length,sl.c⟩:Sl).v:=by rw[ab io,j];show Value.slice (some (p.add 0)) _ _=Value.slice (some p) _ _;rw[jD];simp
 rw[ev];refine y.st 0 0 rfl λm W=>?_;have ar:aK m iX 10 sl (((d++[g])++[f]).flatMap FM.c):=W.get 1;have ac:=abO ar j (d++[g]).length io;have et:(((d++[g])++[f]).flatMap FM.c).take ((d++[g]).length *10)=(d++[g]).flatMap FM.c:=by rw[dK,<-q4,List.take_left'];rfl
 rw[et]at ac;have H4:=W.fx 1 (.row iX 10 ⟨sl.a,(d++[g]).length,sl.c⟩ ((d++[g]).flatMap FM.c)) rfl (Fr.refl _ _) ac λb u=>.inl u;have z:SF (·∈own) w m rb ⟨sl.a,(d++[g]).length,sl.c⟩ st wd d g [] ts:=by grind
 refine bn (λQ=>?_) (λQ=>?_)
 .have K:f.k<0:=e4 Q;have aq:T.l≠[]:=hk.resolve_left io;obtain⟨q,l,hx⟩:=List.exists_cons_of_ne_nil aq;have Z:bh 4 m T.s (T.l.flatMap J.c):=((show J.Ps m ts from z.getD 0).mem o).parts.1;have aA:=J.cz Z;refine⟨io,by grind,J.a6 Z (i:=0) (t:=q) (by grind) λaG hq c=>⟨_,_,_,_,c.c0,c.c1,c.c2,c.c3,?_⟩⟩;have A:=aah z T o;refine(show SF (·∈own) w m rb ⟨sl.a,(d++[g]).length,sl.c⟩ st wd d g [] (ts++T.l)from A).zS (λP L t e=>cm _ (Y P L t e)) j (λae M=>Dm M (by grind) q (by grind)) ?_;rintro _ w4 av ap f4 p4 aw ay ax N D E C ⟨rfl,_,F,G,rfl,rfl⟩ B;refine⟨true,rfl,ib B D E (λb u=>(C b u).imp (ZK o) id) (λt e=>N t (cm _ e)) ⟨rfl,F,?_,rfl,rfl⟩⟩;rw[G,hx];unfold nR;rw[ag K];rfl
 .have K:¬f.k<0:=l4 Q;have A:=aai z T o f.k 0 0;refine(show SF (·∈own) w m rb ⟨sl.a,(d++[g]).length,sl.c⟩ st wd d g [] (ts++[.mk f.k 0 0 T.s T.l])from A).zS (λP L t e=>cm _ (Y P L t e)) j (λae M=>Dm M (by grind) (.mk f.k 0 0 T.s T.l) gs) ?_;rintro _ w4 av ap f4 p4 aw ay ax N D E C ⟨rfl,_,F,G,rfl,rfl⟩ B;refine⟨true,rfl,ib B D E (λb u=>(C b u).imp (aam o) id) (λt e=>N t (cm _ e)) ⟨rfl,F,?_,rfl,rfl⟩⟩;rw[G];unfold nR;rw[ab K];rfl
def mY(s:SX)(l:List Rx):Option SX:=match s.lo.getLast? with
 |none=>none
 |some g=>some ⟨s.lo.dropLast,jG g (nR s.tp.k l),3,s.wd⟩
def IN(a:Sl)(f:FX):FX:=⟨f.k,(a,f.ar.2++[cI f]),[],[],[],0,f.la⟩
def gd(a:Sl)(t:Tk)(s:SX):Option SX:=
 if s.st=2 then(if t.k=40 then some ⟨s.lo++[s.tp],my s.wd,1,s.wd⟩else none)
 else if s.st=1 then(if t.k=41 then mY s []else gg t s)
 else if s.st=0 then gg t s
 else if t.k=42 then some ⟨s.lo,jG s.tp (.mk 7 0 0 [s.tp.la]),s.st,s.wd⟩
 else if t.k=38 then some ⟨s.lo,lI s.tp,0,s.wd⟩
 else if t.k=124 then some ⟨s.lo,lH s.tp,0,s.wd⟩
 else if t.k=44 then(if s.tp.k<0 then none else some ⟨s.lo,IN a s.tp,0,s.wd⟩)
 else if t.k=41 then(if s.lo=[]then none else mY s (s.tp.ar.2++[cI s.tp]))
 else if t.k=36 then(if s.lo=[]then some s else none)
 else gg t ⟨s.lo,mj s.tp,s.st,s.wd⟩
section
variable {M:Nat->Prop} {w0 w1:I} {bs:List Nat} {G:List En} {rb:Nat} {sl:Sl} {st wd:Int} {fs:List FM} {f:FM} {ts:List J} {p:Addr}
abbrev Il(M:Nat->Prop)(j w:I)(b:Nat)(e:Sl)(g k:Int)(a:List FM)(f:FM)(d:List ee)(G:List En)(i:List J):Prop:=O M j w (SL b e g k ((a++[f]).flatMap FM.c) d++G) [.trees i]
def Rz(C:SF M w0 w1 rb sl st wd fs f G ts)(i:Nat){src:Sl}(hi:(SL rb sl st wd ((fs++[f]).flatMap FM.c) ((fs++[f]).flatMap FM.rows)++G)[i]? =some (.row aS 4 src z4))(B:sl.a=some p)(d:Nat)(j:1<=d)(l:d<=4)(t:J)(S:(f.aU d).2.length<=1000000)(ao:src.n=1){K:I->Prop}(hK:∀e r,SF M w0 r rb sl st wd fs (f.put d (e,(f.aU d).2++[t])) G ts->K r)(Z:∀b∈bs,En.g b∈G:=by simp):
  ∃(m:Sl) (o:I),(fM #[jw,jw] jw #[(f.aU d).1.v,src.v]).run U w1=.ok (m.v) o/\kept bs w1 o/\(0:Int)<=(((f.aU d).1.n:Nat):Int)/\(((f.aU d).1.n:Nat):Int)<(m.n:Int)/\dJ m.a λh=>
   ((aN o (h.add (a0 (((f.aU d).1.n:Nat):Int) *4)) (.int .i64 t.k) λu=>kept bs o u/\aN u ((h.add (a0 (((f.aU d).1.n:Nat):Int) *4)).add 1) (.int .u8 (t.lo.toNat:Int)) λq=>kept bs u q/\aN q ((h.add (a0 (((f.aU d).1.n:Nat):Int) *4)).add 2) (.int .u8 (t.hi.toNat:Int)) λw=>kept bs q w/\aN w ((h.add (a0 (((f.aU d).1.n:Nat):Int) *4)).add 3) t.s.v λx=>kept bs w x/\aN x ((p.add (fs.length *10)).add d) m.v λN=>kept bs x N/\K N)/\
   (aN o ((p.add (fs.length *10)).add d) m.v λE=>kept bs o E/\aN E (h.add (a0 (((f.aU d).1.n:Nat):Int) *4)) (.int .i64 t.k) λu=>kept bs E u/\aN u ((h.add (a0 (((f.aU d).1.n:Nat):Int) *4)).add 1) (.int .u8 (t.lo.toNat:Int)) λq=>kept bs u q/\aN q ((h.add (a0 (((f.aU d).1.n:Nat):Int) *4)).add 2) (.int .u8 (t.hi.toNat:Int)) λw=>kept bs q w/\aN w ((h.add (a0 (((f.aU d).1.n:Nat):Int) *4)).add 3) t.s.v λx=>kept bs w x/\K x)):=by
 have W:((fs++[f]).flatMap FM.rows)[fs.length *4+(d - 1)]? =some ((f.aU d).1,(f.aU d).2.flatMap J.c):=rv fs f (d - 1) _ (uD f j l);have nr:(f.aU d).1.n=(f.aU d).2.length:=by have B:(En.rows ((fs++[f]).flatMap FM.rows)).P w1:=C.get 2;exact J.cz (B.1 _ (aD W)).a3
 have A:∀{L:List En},∀b∈bs,En.g b∈L++G:=λb S=>da _ (Z b S);obtain⟨e,o,h1,aa,h3⟩:=C.zu (bs:=bs) (ty:=jw) 2 (fs.length *4+(d - 1)) (src:=src) (news:=z4) (K:=λe r=>Il M w0 r rb sl st wd fs f (((fs++[f]).flatMap FM.rows).set (fs.length *4+(d - 1)) (e,(f.aU d).2.flatMap J.c++z4)) G ts/\e.n=(f.aU d).1.n+1/\∃h,e.a=some h) rfl W (aK.a3 (C.get i hi)) (by simp[Value.oneCell']) io (λe w4 Y an aj=>⟨Y,io,by
  cases hs:e.a with
  |none=>grind
  |some h=>grind⟩) A
 obtain⟨H,ab,h,F⟩:=h3;refine⟨e,o,h1,aa,io,io,?_⟩;rw[F];have T:fs.length *4+(d - 1)<((fs++[f]).flatMap FM.rows).length:=by grind
 have Q:∀(f:FM) (t:J) (d:Nat),(f.aU d).2.flatMap J.c++t.c=((f.aU d).2++[t]).flatMap J.c:=λf t d=>gs
 rw[nr];refine⟨?_,?_⟩
 .refine O.vI (bs:=bs) H 2 (fs.length *4+(d - 1)) (f.aU d).2.length t rfl (mD T) F (J.hB _) (λr y=>?_) A;have y:Il M w0 r rb sl st wd fs f ((((fs++[f]).flatMap FM.rows).set (fs.length *4+(d - 1)) (e,(f.aU d).2.flatMap J.c++z4)).set (fs.length *4+(d - 1)) (e,(f.aU d).2.flatMap J.c++t.c)) G ts:=y;rw[List.set_set,Q,u0 fs f (e,(f.aU d).2++[t]) j l]at y;exact y.jt (bs:=bs) (f:=f) 1 (f.put d (e,(f.aU d).2++[t])) d rfl B io (yn f (e,(f.aU d).2++[t]) j l) (λD z=>hK e D z) A
 .refine H.jt (bs:=bs) (f:=f) 1 (f.put d (e,(f.aU d).2++[t])) d rfl B io (yn f (e,(f.aU d).2++[t]) j l) (λr y=>?_) A;refine O.vI (bs:=bs) (L:=SL rb sl st wd ((fs++[f.put d (e,(f.aU d).2++[t])]).flatMap FM.c) (((fs++[f]).flatMap FM.rows).set (fs.length *4+(d - 1)) (e,(f.aU d).2.flatMap J.c++z4))++G) y 2 (fs.length *4+(d - 1)) (f.aU d).2.length t rfl (mD T) F (J.hB _) (λD z=>?_) A;have z:O M w0 D (SL rb sl st wd ((fs++[f.put d (e,(f.aU d).2++[t])]).flatMap FM.c) ((((fs++[f]).flatMap FM.rows).set (fs.length *4+(d - 1)) (e,(f.aU d).2.flatMap J.c++z4)).set (fs.length *4+(d - 1)) (e,(f.aU d).2.flatMap J.c++t.c))++G) [.trees ts]:=z;rw[List.set_set,Q,u0 fs f (e,(f.aU d).2++[t]) j l]at z
  grind
end
def s5{α:Type}(l:List α):l=[]\/∃a d,l=a++[d]:=by
 rcases List.eq_nil_or_concat l with e|⟨a,d,e⟩
 .grind
 grind
def J5(a:List FX)(g b:FX)(d c:Int)(l:List Rx):mY ⟨a++[g],b,d,c⟩ l=some ⟨a,jG g (nR b.k l),3,c⟩:=by unfold mY;simp
def tZ(t:Tk)(S:SX):cW->Addr->List FX->FX->Int->Int->List J->Prop:=λr a b d c f e=>∃h,zm (gd h t S) r a b d c f e
def WO{w:I}{rb:Nat}{f0:Addr}{lo:List FX}{tp:FX}{st wd:Int}{own:List Nat}{ts:List J}(F:St w rb f0 lo tp st wd own ts)(hl:lo.length<=999999)(hs:Small tp 999999)(h1:st=1->0<=tp.k/\lo≠[])(t:Tk):
  ai U F1 #[.pointer (some (aa rb)),t.v] w (i5 w own ts rb (tZ t ⟨lo,tp,st,wd⟩)):=by
 obtain⟨sl,h,f,p,rfl,rfl,M,B,rfl,bO⟩:=A9 F;have cn:h.length<=999999:=by grind
 have bj:f.n<=999999:=hs.n';have aC:Small f.x 1000000:=⟨by have:=hs.n';omega,by have:=hs.ar;omega,by have:=hs.al;omega,by have:=hs.an;omega,by have:=hs.ca;omega⟩;have base:∀b∈J.bc ts,b∈J.bc ts\/w.heap.size<=b\/b∈own:=λb m=>.inl m
 let ap:Sl:=⟨none,0,0⟩
 refine yu.aq (bO.ax (bs:=[]) (λq w1 H1=>?_) gs);have H1:SF (·∈own) w w1 rb sl st wd h f [.g q] ts:=H1;refine H1.av (zJ H1 B io) ?_;rintro _ W rfl y;have y:SF (·∈own) w W rb sl st wd h f [.g q] ts:=y;refine⟨_,rfl,st,y.ld 0 1,?_⟩;have item:∀{W:I} {aM:Sl} {bA bC:Int} {aA:List FM} {f2:FM} {aI:List J} {p2:Addr},SF (·∈own) w W rb aM bA bC aA f2 [.g q] aI->(∀g∈aA++[f2],∀t∈g.ts,t∈aI)->aM.a=some p2->(∀b∈J.bc aI,b∈J.bc ts\/w.heap.size<=b\/b∈own)->(∀t∈ts,t∈aI)->aA.length<=1000000->f2.n<=1000000->
   gd ap t ⟨h.map FM.x,f.x,st,wd⟩=gg t ⟨aA.map FM.x,f2.x,bA,bC⟩->fF [q] U F2 #[.pointer (some (aa rb)),t.v] W λr_ w5=>∃a4:Bool,r_=ad (.bool a4)/\i5 w own ts rb (tZ t ⟨h.map FM.x,f.x,st,wd⟩) (ad (.bool a4)) w5:=by
  intro W aM bA bC aA f2 aI p2 y bv bx bz bl bL b9 he;refine y.mZ (bs:=[q]) bv bx (λaL s1=>WZ s1 (by grind) b9 t) ?_ gs;rintro r w3 S L d p3 aH Y H Q E z N cc H4;have m:∀b∈J.bc H,b∈J.bc ts\/w.heap.size<=b\/b∈own:=λb m=>(N b m).elim (bz b) .inr;rcases cc with⟨hn,rfl⟩|⟨cg,rfl⟩
  .exact ⟨false,rfl,ib H4 E z m (λt ht=>Q t (bl t ht)) ⟨ap,.inl ⟨he.trans hn,rfl⟩⟩⟩
  .exact ⟨true,rfl,ib H4 E z m (λt ht=>Q t (bl t ht)) ⟨ap,.inr ⟨he.trans cg,rfl⟩⟩⟩
 have close:∀{W:I} {aM:Sl} {aA:List FM} {g2 f2:FM} {aI:List J} {p2:Addr} {j:Sl} (T:J),O (·∈own) w W ([.c rb [aM.v,.int .i64 st,.int .i64 wd] y3,.row iX 10 aM (((aA++[g2])++[f2]).flatMap FM.c),.rows ((aA++[g2]).flatMap FM.rows)]++[.g q]) [.trees aI]->(∀ah∈aA++[g2],∀t∈ah.ts,t∈aI)->aM.a=some p2->aA.length<=999999->T∈aI->(0<=f2.k\/T.l≠[])->(∀b∈J.bc aI,b∈J.bc ts\/w.heap.size<=b\/b∈own)->(∀t∈ts,t∈aI)->
   gd j t ⟨h.map FM.x,f.x,st,wd⟩=some ⟨aA.map FM.x,jG g2.x (nR f2.k (J.ao T.l)),3,wd⟩->fF [q] U FZ #[.pointer (some (aa rb)),T.s.v] W λr_ w5=>∃a4:Bool,r_=ad (.bool a4)/\i5 w own ts rb (tZ t ⟨h.map FM.x,f.x,st,wd⟩) (ad (.bool a4)) w5:=by
  intro W aM aA g2 f2 aI p2 j T y bv bx bL hT Z bz bl he;refine O.X1 (rb:=rb) (bs:=[q]) y (λaL HA=>WM HA bv bx bL T hT Z) ?_ gs;rintro r w3 S L d p3 aH Y H Q E z N ⟨rfl,aj,A,rfl,rfl⟩ H4;refine⟨true,rfl,ib H4 E z (λb m=>(N b m).elim (bz b) .inr) (λt ht=>Q t (bl t ht)) ⟨j,.inr ⟨?_,rfl⟩⟩⟩
  grind
 refine bn (λau=>?_) (λau=>?_)
 .have au:st=2:=eq_of_beq au;refine kz (n:=40) io (λZ:t.k=40=>⟨wd,y.ld 0 2,?_⟩) (λZ:t.k≠40=>?_)
  .refine y.mZ (bs:=[q]) M B (λaL s1=>JI s1 io wd 1) ?_ gs;rintro _ w3 S L d p3 aH Y H Q E z N ⟨rfl,aj,A,rfl,rfl⟩ H4;refine⟨true,rfl,ib H4 E z N Q ⟨ap,.inr ⟨?_,rfl⟩⟩⟩;rw[aj,A];unfold gd
   grind
  .refine ib y M B base (λ_ F=>F) ⟨ap,.inl ⟨?_,rfl⟩⟩;unfold gd
   grind
 have n2:st≠2:=λac=>by grind
 refine bn (λaf=>?_) (λaf=>?_)
 .have af:st=1:=eq_of_beq af;obtain⟨b6,co⟩:=h1 af;refine kz (n:=41) io (λZ:t.k=41=>?_) (λZ:t.k≠41=>?_)
  .rcases s5 h with rfl|⟨aO,g,rfl⟩
   .grind
   have H3:=Hq y 3 0 0;have er:(((aO++[g])++[f]).flatMap FM.rows)=(aO++[g]).flatMap FM.rows++f.rows:=by grind
   have H4:O (·∈own) w W (SL rb sl st wd (((aO++[g])++[f]).flatMap FM.c) ((aO++[g]).flatMap FM.rows++f.rows)++[.g q]) [.trees (ts++[.mk 3 0 0 ⟨none,0,0⟩ []])]:=by grind
   have H5:=SH H4 2 rfl;refine close (j:=ap) (.mk 3 0 0 ⟨none,0,0⟩ []) H5 (λah hx u i=>cm _ (M ah (cm _ hx) u i)) B (by grind) gs (.inl b6) (λb m=>.inl (Ao m)) (λu i=>cm _ i) ?_;unfold gd;refine(ab n2).trans ((ag af).trans ((ag Z).trans ?_));rw[ey];exact J5 _ _ _ _ _ _
  .refine item y M B base (λ_ F=>F) io io ?_;unfold gd
   grind
 have n1:st≠1:=λac=>by grind
 refine bn (λak=>?_) (λak=>?_)
 .have ak:st=0:=eq_of_beq ak;refine item y M B base (λ_ F=>F) io io ?_;unfold gd
  grind
 have n0:st≠0:=λac=>by grind
 have fe:∀j:Sl,gd j t ⟨h.map FM.x,f.x,st,wd⟩=(if t.k=42 then some ⟨h.map FM.x,jG f.x (.mk 7 0 0 [f.x.la]),st,wd⟩
   else if t.k=38 then some ⟨h.map FM.x,lI f.x,0,wd⟩
   else if t.k=124 then some ⟨h.map FM.x,lH f.x,0,wd⟩
   else if t.k=44 then(if f.x.k<0 then none else some ⟨h.map FM.x,IN j f.x,0,wd⟩)
   else if t.k=41 then(if h.map FM.x=[]then none else mY ⟨h.map FM.x,f.x,st,wd⟩ (f.x.ar.2++[cI f.x]))
   else if t.k=36 then(if h.map FM.x=[]then some ⟨h.map FM.x,f.x,st,wd⟩else none)
   else gg t ⟨h.map FM.x,mj f.x,st,wd⟩):=λj=>by
  unfold gd
  grind
 refine kz (n:=42) io (λZ:t.k=42=>?_) (λaw:t.k≠42=>kz (n:=38) io (λZ:t.k=38=>?_) (λbu:t.k≠38=>kz (n:=124) io (λZ:t.k=124=>?_) (λam:t.k≠124=>kz (n:=44) io (λZ:t.k=44=>?_) (λbk:t.k≠44=>kz (n:=41) io (λZ:t.k=41=>?_) (λce:t.k≠41=>kz (n:=36) io (λZ:t.k=36=>?_) (λcd:t.k≠36=>?_))))))
 .obtain ⟨c0,c1,c2,c3⟩:=y.MC 1 rfl B;refine ql ⟨_,_,_,_,c0,c1,c2,c3,?_⟩;refine y.e9 (e:=aS) (sz:=4) (n:=1) (cs:=f.la.c) rfl dl λw7 H7=>ql ?_;have a1:((p.add (h.length *10)).add 6).add 1=(p.add (h.length *10)).add 7:=add_add _ 6 1;have bW:((p.add (h.length *10)).add 6).add 2=(p.add (h.length *10)).add 8:=add_add _ 6 2;have bY:((p.add (h.length *10)).add 6).add 3=(p.add (h.length *10)).add 9:=add_add _ 6 3;rw[a1,bW,bY];refine H7.jt (bs:=[q]) (f:=f) 1 ⟨f.k,f.ar,f.al,f.an,f.ca,f.n,.mk 7 f.la.lo f.la.hi f.la.s f.la.l⟩ 6 rfl B io rfl (λw8 H8=>?_) gs;refine H8.jt (bs:=[q]) (f:=⟨f.k,f.ar,f.al,f.an,f.ca,f.n,.mk 7 f.la.lo f.la.hi f.la.s f.la.l⟩) 1 ⟨f.k,f.ar,f.al,f.an,f.ca,f.n,.mk 7 0 f.la.hi f.la.s f.la.l⟩ 7 rfl B io rfl (λw9 H9=>?_) gs;refine H9.jt (bs:=[q]) (f:=⟨f.k,f.ar,f.al,f.an,f.ca,f.n,.mk 7 0 f.la.hi f.la.s f.la.l⟩) 1 ⟨f.k,f.ar,f.al,f.an,f.ca,f.n,.mk 7 0 0 f.la.s f.la.l⟩ 8 rfl B io rfl (λcf bi=>?_) gs;refine bi.jt (bs:=[q]) (f:=⟨f.k,f.ar,f.al,f.an,f.ca,f.n,.mk 7 0 0 f.la.s f.la.l⟩) 1 ⟨f.k,f.ar,f.al,f.an,f.ca,f.n,.mk 7 0 0 ⟨some (aa W.heap.size),1,1⟩ [f.la]⟩ 9 rfl B io rfl (λbd ay=>?_) gs;have b8:f.la∈ts:=M f gs _ (by simp[FM.ts]);have bP:=ay.freeze 4 (J.row ⟨some (aa W.heap.size),1,1⟩ [f.la]) rfl (by show bh 4 bd _ ([f.la].flatMap J.c);rw[show[f.la].flatMap J.c=f.la.c by simp];exact aK.a3 (ay.get 4)) (λb m=>gY (e:=aS) (vs:=[f.la].flatMap J.c) m);have bQ:=bP.node 0 7 0 0 (s:=⟨some (aa W.heap.size),1,1⟩) (ks:=[f.la]) rfl gs (λt ht=>by grind);have er:(h++[f]).flatMap FM.rows=(h++[(⟨f.k,f.ar,f.al,f.an,f.ca,f.n,.mk 7 0 0 ⟨some (aa W.heap.size),1,1⟩ [f.la]⟩:FM)]).flatMap FM.rows:=by simp[FM.rows]
  have bS:SF (·∈own) w bd rb sl st wd h ⟨f.k,f.ar,f.al,f.an,f.ca,f.n,.mk 7 0 0 ⟨some (aa W.heap.size),1,1⟩ [f.la]⟩ [.g q] (ts++[.mk 7 0 0 ⟨some (aa W.heap.size),1,1⟩ [f.la]]):=by show O _ _ _ (SL rb sl st wd _ ((h++[(⟨f.k,f.ar,f.al,f.an,f.ca,f.n,.mk 7 0 0 ⟨some (aa W.heap.size),1,1⟩ [f.la]⟩:FM)]).flatMap FM.rows)++_) _;rw[<-er];exact bQ
  refine ib bS (λg hg u i=>?_) B (λb m=>?_) (λu i=>cm _ i) ⟨ap,.inr ⟨?_,rfl⟩⟩
  .rcases aP.1 hg with hg|hg
   .grind
   .simp at hg;subst hg;simp only[FM.ts,aP,aF,aZ,a7]at i;rcases i with(((i|i)|i)|i)|rfl
    .exact cm _ (M f gs u (by simp[FM.ts,i]))
    .exact cm _ (M f gs u (by simp[FM.ts,i]))
    .exact cm _ (M f gs u (by simp[FM.ts,i]))
    .exact cm _ (M f gs u (by simp[FM.ts,i]))
    .simp
  .obtain ⟨u,i,aT⟩:=J.bX.1 m;rcases aP.1 i with i|i
   .exact .inl (J.bX.2 ⟨u,i,aT⟩)
   .simp at i;rw[i]at aT;rcases J.gP.1 aT with aT|aT
    .have:=gY (e:=aS) aT;simp[En.row,aG,J.s]at this;subst this;exact .inr (.inl y.fr.size)
    .obtain ⟨t',aJ,ba⟩:=J.bX.1 aT;simp[J.l]at aJ;rw[aJ]at ba;exact .inl (J.bX.2 ⟨f.la,b8,ba⟩)
  .rw [fe,ag Z];rfl
 .refine y.mZ (bs:=[q]) M B (λaL s1=>zB (Jz s1 aC.n' aC.ca aC.an)) ?_ gs;rintro _ w3 S L d p3 aH Y H Q E z N ⟨rfl,bJ,aj,A,rfl,rfl⟩ H3;refine⟨rfl,H3.v9 (bs:=[q]) 0 1 rfl (λw4 H4=>?_) gs gs⟩;refine ib (show SF (·∈own) w w4 rb S 0 Y L d [.g q] H from H4) E z N Q ⟨ap,.inr ⟨?_,rfl⟩⟩
  grind
 .refine y.mZ (bs:=[q]) M B (λaL s1=>zB (Jx s1 aC.n' aC.ca aC.an aC.al)) ?_ gs;rintro _ w3 S L d p3 aH Y H Q E z N ⟨rfl,bJ,aj,A,rfl,rfl⟩ H3;refine⟨rfl,H3.v9 (bs:=[q]) 0 1 rfl (λw4 H4=>?_) gs gs⟩;refine ib (show SF (·∈own) w w4 rb S 0 Y L d [.g q] H from H4) E z N Q ⟨ap,.inr ⟨?_,rfl⟩⟩
  grind
 .refine ql ⟨f.k,y.hc 1 rfl B 0,bn (λh0=>?_) (λh0=>?_)⟩
  .refine ib y M B base (λ_ F=>F) ⟨ap,.inl ⟨?_,rfl⟩⟩;rw[fe,ab aw,ab bu,ab am,ag Z];exact ag (e4 h0)
  have fin:∀{w5:I} {S:Sl} {L:List FM} {d:FM} {p3:Addr} {H:List J} {j:Sl} {u:J} {G:List En},SF (·∈own) w w5 rb S st wd L (d.put 1 (j,(d.aU 1).2++[u])) G H->(∀g∈L++[d],∀t∈g.ts,t∈H)->S.a=some p3->(∀b∈J.bc H,b∈J.bc ts\/w.heap.size<=b\/b∈own)->(∀t∈ts,t∈H)->L.map FM.x=h.map FM.x->d.x=D8 f.x->u∈H->u.rx=cI f.x->
    yu.bg (aa rb) w5 (i5 w own ts rb (tZ t ⟨h.map FM.x,f.x,st,wd⟩)):=by
   intro w5 S L d p3 H j u G H5 E z b1 ci aj A i hx;refine H5.st 0 1 rfl λw6 H6=>?_;refine ib (show SF (·∈own) w w6 rb S 0 wd L (d.put 1 (j,(d.aU 1).2++[u])) G H from H6) (λg hg v o=>?_) z b1 ci ⟨j,.inr ⟨?_,rfl⟩⟩
   .rcases aP.1 hg with hg|hg
    .grind
    .simp at hg;subst hg;rcases Bm _ _ io io o with F|F
     .grind
     .rcases aP.1 F with F|F
      .exact E d gs v (pL d 1 F)
      grind
   .have e1:d.k=f.k:=by have:=congrArg FX.k A;exact this
    have e2:J.ao d.ar.2=J.ao f.ar.2:=by have:=congrArg (λah:FX=>ah.ar.2) A;exact this
    have e3:J.ao d.al.2=[]:=by have:=congrArg FX.al A;exact this
    have b0:J.ao d.an.2=[]:=by have:=congrArg FX.an A;exact this
    have e5:J.ao d.ca.2=[]:=by have:=congrArg FX.ca A;exact this
    have e6:d.n=0:=by have:=congrArg FX.n A;exact this
    have e7:d.la.rx=f.x.la:=by have:=congrArg FX.la A;exact this
    rw[fe,ab aw,ab bu,ab am,ag Z];refine(ab (l4 h0)).trans ?_;show some (SX.mk _ ⟨_,(j,J.ao f.ar.2++[cI f.x]),[],[],[],0,f.x.la⟩ 0 wd)=some (SX.mk (L.map FM.x) ⟨d.k,(j,J.ao (d.ar.2++[u])),J.ao d.al.2,J.ao d.an.2,J.ao d.ca.2,d.n,d.la.rx⟩ 0 wd);rw[aj,e1,e3,b0,e5,e6,e7,k5,e2];show some (SX.mk _ ⟨_,(j,J.ao f.ar.2++[cI f.x]),[],[],[],0,f.x.la⟩ 0 wd)=some (SX.mk _ ⟨_,(j,J.ao f.ar.2++[u.rx]),[],[],[],0,f.x.la⟩ 0 wd);rw[hx];rfl
  refine ql (y.ae (bs:=[q]) (λbe bt=>⟨f.ar.1,bt.hc 1 rfl B 1,?_,?_⟩) gs)
  .refine (show SF (·∈own) w be rb sl st wd h f [.g q] ts from bt).mZ (bs:=[q]) M B (λaL s1=>zF s1 aC) ?_ gs;rintro r bN S L d p3 aH Y H Q E z N ⟨a8,aj,A,rfl,rfl,u,i,rfl,hx⟩ aX;have a6:d.ar.1=f.ar.1:=by have:=congrArg (λah:FX=>ah.ar.1) A;exact this
   refine⟨u.k,u.lo.toNat,u.hi.toNat,u.s,rfl,?_⟩;rw[<-a8,<-a6];refine⟨aX.hc 1 rfl z 1,aX.e9 (e:=aS) (sz:=4) (n:=1) (cs:=z4) rfl dl λbm az=>⟨az.hc 1 rfl z 1,?_⟩⟩;have bf:(d.aU 1).2.length<=1000000:=by have ac:d.x.ar.2.length=d.ar.2.length:=(EB d).1;rw[A]at ac;have:f.x.ar.2.length<=999999:=hs.ar;show d.ar.2.length<=_;rw[<-ac];show f.x.ar.2.length<=_;omega
   exact Rz (bs:=[q]) (K:=λw5=>yu.bg (aa rb) w5 (i5 w own ts rb (tZ t ⟨h.map FM.x,f.x,aH,Y⟩))) (show SF (·∈own) w bm rb S aH Y L d ([.g q]++[.row aS 4 ⟨some (aa bN.heap.size),1,1⟩ z4]) H from az) 4 rfl z 1 io io u bf rfl (λj w5 H5=>fin H5 E z N Q aj A i hx) gs
  .refine bt.e9 (e:=aS) (sz:=4) (n:=1) (cs:=z4) rfl dl λbZ bb=>⟨bb.hc 1 rfl B 1,?_⟩;refine(show SF (·∈own) w bZ rb sl st wd h f ([.g q]++[.row aS 4 ⟨some (aa be.heap.size),1,1⟩ z4]) ts from bb).mZ (bs:=[q]) M B (λaL s1=>zF s1 aC) ?_ gs;rintro r bN S L d p3 aH Y H Q E z N ⟨a8,aj,A,rfl,rfl,u,i,rfl,hx⟩ aX;have a6:d.ar.1=f.ar.1:=by have:=congrArg (λah:FX=>ah.ar.1) A;exact this
   refine⟨u.k,u.lo.toNat,u.hi.toNat,u.s,rfl,?_⟩;rw[<-a8,<-a6];refine⟨aX.hc 1 rfl z 1,?_⟩;have bf:(d.aU 1).2.length<=1000000:=by have ac:d.x.ar.2.length=d.ar.2.length:=(EB d).1;rw[A]at ac;have:f.x.ar.2.length<=999999:=hs.ar;show d.ar.2.length<=_;rw[<-ac];show f.x.ar.2.length<=_;omega
   exact Rz (bs:=[q]) (K:=λw5=>yu.bg (aa rb) w5 (i5 w own ts rb (tZ t ⟨h.map FM.x,f.x,aH,Y⟩))) aX 4 rfl z 1 io io u bf rfl (λj w5 H5=>fin H5 E z N Q aj A i hx) gs
 .refine y.ae (bs:=[q]) (λbo aN=>⟨sl,aN.ld 0 0,?_⟩) gs;have aN:SF (·∈own) w bo rb sl st wd h f [.g q] ts:=aN;have ch:=BJ aN;rcases s5 h with rfl|⟨aO,g,rfl⟩
  .refine aQ (a2 (by grind)) ?_;refine ib aN M B base (λ_ F=>F) ⟨ap,.inl ⟨?_,rfl⟩⟩
   grind
  .refine aR (a5 (by grind)) (ql ⟨f.ar.1,aN.hc 1 rfl B 1,?_⟩);refine aN.mZ (bs:=[q]) M B (λaL s1=>zF s1 aC) ?_ gs;rintro r cl S L d p3 aH Y H Q E z N ⟨a8,aj,A,rfl,rfl,u,i,rfl,hx⟩ bE;have a6:d.ar.1=f.ar.1:=by have:=congrArg (λah:FX=>ah.ar.1) A;exact this
   refine⟨u.k,u.lo.toNat,u.hi.toNat,u.s,rfl,?_⟩;rw[<-a8,<-a6];refine⟨bE.hc 1 rfl z 1,bE.e9 (e:=aS) (sz:=4) (n:=1) (cs:=u.c) rfl dl λbp a9=>⟨a9.hc 1 rfl z 1,?_⟩⟩;have b4:∃C D,L=C++[D]/\C.map FM.x=aO.map FM.x/\D.x=g.x:=by
    rcases s5 L with rfl|⟨C,D,rfl⟩
    .grind
    .refine ⟨C,D,rfl,?_⟩;rw[ey,ey]at aj;have:=List.append_inj' aj rfl
     grind
   obtain⟨C,D,rfl,b2,b5⟩:=b4;have bM:(((C++[D])++[d]).flatMap FM.rows)[(C++[D]).length *4+0]? =some (d.ar.1,d.ar.2.flatMap J.c):=rv (C++[D]) d 0 _ rfl;have bf:d.ar.2.length<=999999:=by have ac:d.x.ar.2.length=d.ar.2.length:=(EB d).1;rw[A]at ac;have:f.x.ar.2.length<=999999:=hs.ar;rw[<-ac];exact this
   have nr:d.ar.1.n=d.ar.2.length:=by have hp:(En.rows (((C++[D])++[d]).flatMap FM.rows)).P bp:=a9.get 2;exact J.cz (hp.1 _ (aD bM)).a3
   refine a9.zu (bs:=[q]) 2 ((C++[D]).length *4+0) (src:=⟨some (aa cl.heap.size),1,1⟩) (news:=u.c) rfl bM (aK.a3 (a9.get 4)) (by simp[Value.oneCell',J.c]) (by grind) (λj bq bH bj br=>?_) gs;have bK:(C++[D]).length *4+0<(((C++[D])++[d]).flatMap FM.rows).length:=by grind
   have cb:∀b∈aG j,b∈own\/w.heap.size<=b:=λb m=>(bH.new (.rows ((((C++[D])++[d]).flatMap FM.rows).set ((C++[D]).length *4+0) (j,d.ar.2.flatMap J.c++u.c))) gs b (aW.2 (ck.2 ⟨_,aD (mD bK),m⟩))).symm;have bF:=bH.EC 2 ((C++[D]).length *4+0) rfl (mD bK);have ec:d.ar.2.flatMap J.c++u.c=(d.ar.2++[u]).flatMap J.c:=gs
   rw[ec]at bF;have bT:=bF.node 0 3 0 0 (s:=j) (ks:=d.ar.2++[u]) rfl (da _ (List.mem_singleton.2 rfl)) (λv o=>by
    rcases aP.1 o with o|o
    .exact E d gs v (pL d 1 o)
    grind)
   have er:(((((C++[D])++[d]).flatMap FM.rows).set ((C++[D]).length *4+0) (j,(d.ar.2++[u]).flatMap J.c)).set ((C++[D]).length *4+0) (⟨none,0,0⟩,[]))=(C++[D]).flatMap FM.rows++d.rows.set 0 (⟨none,0,0⟩,[]):=by rw[List.set_set];exact Hh (C++[D]) d 0 _ io
   have bU:O (·∈own) w bq (SL rb S aH Y (((C++[D])++[d]).flatMap FM.c) ((C++[D]).flatMap FM.rows++d.rows.set 0 (⟨none,0,0⟩,[]))++[.g q]) [.trees (H++[.mk 3 0 0 j (d.ar.2++[u])])]:=by rw[<-er];exact bT.take 4
   have bV:=SH bU 2 rfl;have b7:d.k=f.k:=by have:=congrArg FX.k A;exact this
   refine close (j:=ap) (.mk 3 0 0 j (d.ar.2++[u])) bV (λah hx v o=>cm _ (E ah (cm _ hx) v o)) z ?_ gs (.inr (by simp[J.l])) ?_ (λv o=>cm _ (Q v o)) ?_
   .grind
   .intro b m;obtain⟨v,o,aV⟩:=J.bX.1 m;rcases aP.1 o with o|o
    .exact N b (J.bX.2 ⟨v,o,aV⟩)
    .simp at o;rw[o]at aV;rcases J.gP.1 aV with aV|aV
     .exact .inr (cb b (gY (e:=aS) aV)).symm
     .obtain ⟨t',aJ,ba⟩:=J.bX.1 aV;have aJ:t'∈d.ar.2++[u]:=aJ;refine N b (J.bX.2 ⟨t',?_,ba⟩);rcases aP.1 aJ with aJ|aJ
      .exact E d gs t' (pL d 1 aJ)
      grind
   .rw [fe,ab aw,ab bu,ab am,ab bk,ag Z];refine(ab gs).trans ?_;rw[ey];refine(J5 _ _ _ _ _ _).trans ?_;have e2:J.ao d.ar.2=f.x.ar.2:=by have:=congrArg (λah:FX=>ah.ar.2) A;exact this
    rw[b2,b5,b7];show _=some (SX.mk _ (jG g.x (nR f.k (J.ao (d.ar.2++[u])))) 3 Y);rw[k5,e2];show _=some (SX.mk _ (jG g.x (nR f.k (f.x.ar.2++[u.rx]))) 3 Y);rw[hx];rfl
 .refine ⟨sl,y.ld 0 0,?_⟩;have ch:=BJ y;rcases s5 h with rfl|⟨aO,g,rfl⟩
  .have ac:((sl.n:Int)==1)=true:=by grind
   rw[ac];refine ib y M B base (λ_ F=>F) ⟨ap,.inr ⟨?_,rfl⟩⟩
   grind
  .have ac:((sl.n:Int)==1)=false:=by grind
   rw[ac];refine ib y M B base (λ_ F=>F) ⟨ap,.inl ⟨?_,rfl⟩⟩
   grind
 .refine y.mZ (bs:=[q]) M B (λaL s1=>zB (Jy s1 aC.n' aC.ca)) ?_ gs;rintro _ w3 S L d p3 aH Y H Q E z N ⟨rfl,bJ,aj,A,rfl,rfl⟩ H3;refine⟨rfl,item H3 E z N Q ?_ ?_ ?_⟩
  .grind
  .have e5:d.n=0:=by have:=congrArg FX.n A;exact this
   omega
  grind
def adf(s:ByteArray)(c:UInt8)(w:I):Sem.run U (callFunc vh #[.string s,.int .u8 (c.toNat:Int)]) w=.ok (.value (.int .i64 (Go.Lib.indexByte (bl s) c))) w:=by have d:=run_callFunc_indexByte (P:=U) (f:=vh) (fn:=(Tryz.prog.funcs[vh]?).getD default) (by kernel_rfl) (by kernel_rfl) (by kernel_rfl) (by kernel_rfl) (by kernel_rfl) #[.string s,.int .u8 (c.toNat:Int)] w;rw[d,Go.Lib.run_indexByteString];show Result.ok _ w=_;congr 4;simp
def Hn(s:ByteArray)(c:UInt8)(w:I):ai U F5 #[.string s,.int .u8 (c.toNat:Int)] w λr a=>r=ad (.int .i64 (Go.Lib.indexByte (bl s) c))/\af w a:=by
 refine HJ.ok ?_;refine(show ai U FA #[.string s,.int .u8 (c.toNat:Int)] w λr a=>r=ad (.int .i64 (Go.Lib.indexByte (bl s) c))/\w=a from ?_).mono ?_
 .exact EP.ok ⟨_,w,adf s c w,rfl,rfl⟩
 .rintro r d ⟨rfl,rfl⟩;exact⟨_,rfl,rfl,Fr.refl _ _⟩
def k9(c:UInt8):Bool:=ak (97<=c.toNat)&&ak (c.toNat<=122)
def vG(c:UInt8):Bool:=ak (32<=c.toNat)&&(ak (c.toNat<=126)&&(!decide (c=39)&&!decide (c=92)))
def zI(c:UInt8)(w:I):ai U O7 #[.int .u8 (c.toNat:Int)] w λr a=>r=ad (.bool (k9 c))/\af w a:=by
 refine Sk.ok (aT (λd=>⟨?_,Fr.refl _ _⟩) (λd=>⟨?_,Fr.refl _ _⟩))
 .unfold k9;rw[a5 (show 97<=c.toNat by omega),Bool.true_and];rw[show ak ((c.toNat:Int)<=122)=ak (c.toNat<=122)from decide_eq_decide.2 io]
 .unfold k9;rw[a2 (show ¬97<=c.toNat by omega),Bool.false_and]
def UL(c:UInt8)(n:Nat)(a:n<256):((c.toNat:Int)==(n:Int))=ak (c=cX n):=by
 have d:c.toNat=n↔c=cX n:=by rw[<-UInt8.toNat_inj,UInt8.toNat_ofNat'];omega
 rw[Bool.eq_iff_iff,beq_iff_eq,decide_eq_true_iff,<-d];omega
def JF(c:UInt8)(w:I):ai U O4 #[.int .u8 (c.toNat:Int)] w λr d=>r=ad (.bool (vG c))/\af w d:=by
 have e:((c.toNat:Int) !=39)= !decide (c=39):=by have:=UL c 39 io;show(!((c.toNat:Int)==((39:Nat):Int)))=_;rw[this];rfl
 have h:((c.toNat:Int) !=92)= !decide (c=92):=by have:=UL c 92 io;show(!((c.toNat:Int)==((92:Nat):Int)))=_;rw[this];rfl
 refine Sf.ok ?_;rw[e,h];unfold vG;refine aT (λj=>?_) (λj=>⟨?_,Fr.refl _ _⟩)
 .rw [a5 (show 32<=c.toNat by omega),Bool.true_and];refine aT (λb=>?_) (λb=>⟨?_,Fr.refl _ _⟩)
  .rw [a5 (show c.toNat<=126 by omega),Bool.true_and];refine bn (λa=>⟨?_,Fr.refl _ _⟩) (λa=>⟨?_,Fr.refl _ _⟩)
   .rw [a,Bool.true_and]
   .rw [a,Bool.false_and]
  .rw [a2 (show ¬c.toNat<=126 by omega),Bool.false_and]
 .rw [a2 (show ¬32<=c.toNat by omega),Bool.false_and]
def Wg{s:ByteArray}{l:List UInt8}(e:bl s=l)(i:Nat):s[i]? =l[i]?:=by
 subst e;by_cases d:i<s.size
 .rw [getElem?_pos s i d,aY (by rw[cR];exact d)];rfl
 .rw [getElem?_neg s i d,List.getElem?_eq_none (by rw[cR];omega)]
def mG{s:ByteArray}{i:Nat}(d:i<s.size):s[i]? =some ((bl s).getD i 0):=by
 rw[Wg (s:=s) (l:=bl s) rfl i];have e:i<(bl s).length:=by rw[cR];exact d
 rw[List.getD_eq_getElem?_getD,aY e];rfl
def q6:List UInt8:=[48,49,50,51,52,53,54,55,56,57,97,98,99,100,101,102]
def Zm(a b:Int):UInt8:=cX (aB .u8 (qQ .i64 (aB .i64 (a *2^4)) b)).toNat
def lF(l:List UInt8)(i:Nat):Option (UInt8×Nat):=
 if i+2<l.length/\l.getD i 0=39/\vG (l.getD (i+1) 0)=true/\l.getD (i+2) 0=39 then some (l.getD (i+1) 0,3)
 else if i+3<l.length/\l.getD i 0=92/\l.getD (i+1) 0=120/\0<=Go.Lib.indexByte q6 (l.getD (i+2) 0)/\0<=Go.Lib.indexByte q6 (l.getD (i+3) 0)then some (Zm (Go.Lib.indexByte q6 (l.getD (i+2) 0)) (Go.Lib.indexByte q6 (l.getD (i+3) 0)),4)
 else none
def Eg:Option (UInt8×Nat)->V
 |none=>.tuple #[.int .u8 0,.int .i64 0,.bool false]
 |some (b,n)=>.tuple #[.int .u8 (b.toNat:Int),.int .i64 (n:Int),.bool true]
def Ca{x:UInt8}{n:Nat}{A d:Prop}(c:n<256)(a:x=cX n->A)(b:x≠cX n->d):bD ((x.toNat:Int)==(n:Int)) A d:=kz c a b
def afi(x:Int):((cX (aB .u8 x).toNat).toNat:Int)=aB .u8 x:=by rw[UInt8.toNat_ofNat',IntKind.wrap_u8];omega
def Dn(s:ByteArray)(i:Nat)(q:i<=1000000)(w:I):ai U OV #[.string s,.int .i64 (i:Int)] w λr a=>r=ad (Eg (lF (bl s) i))/\af w a:=by
 have A:aB .i64 ((i:Int)+1)=((i+1:Nat):Int):=by rw[bo _ io];omega
 have B:aB .i64 ((i:Int)+2)=((i+2:Nat):Int):=by rw[bo _ io];omega
 have F:aB .i64 ((i:Int)+3)=((i+3:Nat):Int):=by rw[bo _ io];omega
 have H:(bl s).length=s.size:=cR s;have h:¬(i+2<(bl s).length/\(bl s).getD i 0=39/\vG ((bl s).getD (i+1) 0)=true/\(bl s).getD (i+2) 0=39)->∀a,af w a->Bq.S0 s i a (λr a=>r=ad (Eg (lF (bl s) i))/\af w a):=by
  intro C a c;have no:¬(i+3<(bl s).length/\(bl s).getD i 0=92/\(bl s).getD (i+1) 0=120/\0<=Go.Lib.indexByte q6 ((bl s).getD (i+2) 0)/\0<=Go.Lib.indexByte q6 ((bl s).getD (i+3) 0))->∀a,af w a->Bq.S1 a (λr a=>r=ad (Eg (lF (bl s) i))/\af w a):=λp a c=>by refine⟨?_,c⟩;unfold lF;rw[ab C,ab p];rfl
  show bD _ _ _;rw[F,B,A];refine aT (λo=>⟨io,_,mG (i:=i) io,Ca (n:=92) io (λb=>⟨io,_,mG (i:=i+1) io,Ca (n:=120) io (λy=>?_) (λy=>no (λd=>y d.2.2.1) a c)⟩) (λb=>no (λd=>b d.2.1) a c)⟩) (λo=>no (λd=>io) a c);refine(show O F0 w a [] []from((O.start (M:=F0) (w:=w) [] gs).cA c)).dr λz l=>⟨io,_,mG (i:=i+2) io,io,_,mG (i:=i+3) io,l.call (Hn _ _ _) ?_⟩;rintro _ J rfl E;refine⟨_,rfl,E.call (Hn _ _ _) ?_⟩;rintro _ D rfl j;refine⟨_,rfl,?_⟩;show bD (ak (Go.Lib.indexByte q6 _>=0)) (bD (ak (Go.Lib.indexByte q6 _>=0)) _ _) _;refine aT (λk=>aT (λf=>⟨?_,j.fr⟩) (λf=>no (λd=>f d.2.2.2.2) D j.fr)) (λk=>no (λd=>k d.2.2.2.1) D j.fr);unfold lF;rw[ab C,ag ⟨io,b,y,k,f⟩];exact congrArg (λG=>Ending.returned (.tuple #[.int .u8 G,.int .i64 4,.bool true])) (afi _).symm
 refine Bq.ok ?_;rw[B,A];refine aT (λm=>⟨io,_,mG (i:=i) io,Ca (n:=39) io (λb=>⟨io,_,mG (i:=i+1) io,(JF _ w).mono ?_⟩) (λb=>h (λd=>b d.2.1) w (Fr.refl _ _))⟩) (λm=>h (λd=>io) w (Fr.refl _ _));rintro _ z ⟨rfl,x⟩;refine⟨_,rfl,bn (λe=>⟨io,_,mG (i:=i+2) io,Ca (n:=39) io (λg=>⟨io,_,mG (i:=i+1) io,?_,x⟩) (λg=>h (λd=>g d.2.2.2) z x)⟩) (λe=>h (λd=>by rw[d.2.2.1]at e;cases e) z x)⟩;unfold lF;rw[ag ⟨io,b,e,g⟩];rfl
def Tt:List UInt8:=[40,41,44,124,38,33,42]
def e3(l:List UInt8)(i:Nat):Tk×Nat:=
 if 0<=Go.Lib.indexByte Tt (l.getD i 0)then(⟨l.getD i 0,0,0,[],i⟩,1)
 else if k9 (l.getD i 0)=true then(⟨119,0,0,(l.drop i).takeWhile k9,i⟩,((l.drop i).takeWhile k9).length)
 else if l.getD i 0=91 then
  match lF l (i+1)with
  |none=>(⟨63,0,0,[],i⟩,1)
  |some (lo,m)=>
   if i+1+m<l.length/\l.getD (i+1+m) 0=45 then
    match lF l (i+1+m+1)with
    |none=>(⟨63,0,0,[],i⟩,1)
    |some (e,d)=>if i+1+m+(1+d)<l.length/\l.getD (i+1+m+(1+d)) 0=93/\lo.toNat<=e.toNat then(⟨114,lo,e,[],i⟩,1+m+(1+d)+1)else(⟨63,0,0,[],i⟩,1)
   else(⟨63,0,0,[],i⟩,1)
 else match lF l i with
  |some (b,n)=>(⟨114,b,b,[],i⟩,n)
  |none=>(⟨63,0,0,[],i⟩,1)
def B3(x:Tk×Nat):V:=.tuple #[x.1.v,.int .i64 (x.2:Int)]
def Di{l:List UInt8}{i:Nat}{b:UInt8}{n:Nat}(d:lF l i=some (b,n)):(n=3\/n=4)/\i+n<=l.length:=by
 unfold lF at d
 grind
def Ub:∀(l:List UInt8) (m:Nat) (p:UInt8->Bool),m<=l.length->(∀h<m,p (l.getD h 0)=true)->(m<l.length->p (l.getD m 0)=false)->(l.takeWhile p)=l.take m
 |[],m,p,d,_,_=>gs
 |c::l,0,p,d,_,e=>by have:p c=false:=e gs;simp[this]
 |c::l,m+1,p,d,j,e=>by have k:p c=true:=j 0 io;rw[List.takeWhile_cons,ag k,List.take_succ_cons,Ub l m p (by grind) (λh a=>by grind) (λq=>by grind)]
def Zc(l:List UInt8)(i k:Nat):(l.drop i).getD k 0=l.getD (i+k) 0:=by grind
def Xl(s:ByteArray)(hs:s.size<=900000)(i:Nat)(hi:i<s.size)(w:I):ai U F3 #[.string s,.int .i64 (i:Int)] w λr a=>r=ad (B3 (e3 (bl s) i))/\af w a:=by
 have hl:(bl s).length=s.size:=cR s;refine vP.aq ((bM [] (λ_ e=>by cases e)).ax (bs:=[]) (λf w1 E=>⟨io,_,mG (i:=i) hi,?_⟩) gs);have E:O F0 w w1 [.g f] []:=E;have bad:∀a,O F0 w a [.g f] []->e3 (bl s) i=(⟨63,0,0,[],i⟩,1)->∀(u v x:Int) (y:ByteArray) (z:Int),vP.fB (i:Int) f u v x y z a λr a=>r=ad (B3 (e3 (bl s) i))/\af w a:=λa D he _ _ _ _ _=>D.ae (bs:=[f]) (λH o=>⟨by rw[he];rfl,o.fr⟩) gs;refine E.av (Hn _ _ _) ?_;rintro _ w2 rfl K;refine⟨_,rfl,?_⟩;show bD (ak (Go.Lib.indexByte Tt _>=0)) _ _;refine aT (λC=>K.ae (bs:=[f]) (λH o=>⟨?_,o.fr⟩) gs) (λC=>K.av (zI _ _) ?_)
 .unfold e3;rw[ag C];rfl
 rintro _ H rfl o;refine⟨_,rfl,bn (λM=>?_) (λM=>kz (n:=91) io (λL:(bl s).getD i 0=91=>?_) (λL:(bl s).getD i 0≠91=>?_))⟩
 .
  have loop:∀(n j:Nat) (a:I),s.size - j<n->i<=j->j<=s.size->(∀k,i<=k->k<j->k9 ((bl s).getD k 0)=true)->O F0 w a [.g f] []->∀(u v x:Int) (y:ByteArray) (z:Int),vP.cq s (i:Int) f u v x y z (j:Int) a λr a=>r=ad (B3 (e3 (bl s) i))/\af w a:=by
   intro n;induction n with
   |zero=>omega
   |succ n ih=>
    intro j a hn ay hj aw J u v x y z;have done:(j<s.size->k9 ((bl s).getD j 0)=false)->∀a,O F0 w a [.g f] []->vP.bH s (i:Int) f u v x y z (j:Int) a λr a=>r=ad (B3 (e3 (bl s) i))/\af w a:=λao a D=>by
     refine⟨io,io,io,io,D.ae (bs:=[f]) (λl d=>⟨?_,d.fr⟩) gs⟩;have Z:((bl s).drop i).takeWhile k9=((bl s).drop i).take (j - i):=by
      refine Ub _ _ _ (by grind) (λk hk=>?_) (λe=>?_)
      .rw [Zc];grind
      grind
     have Y:(((bl s).drop i).take (j - i)).length=j - i:=by grind
     have W:s.extract (a0 (i:Int)) (a0 (j:Int))=ba (((bl s).drop i).take (j - i)):=by
      have:bl (s.extract i j)=((bl s).drop i).take (j - i):=by unfold bl;rw[ByteArray.data_extract,Array.toList_extract,List.extract_eq_take_drop]
      rw[bR,bR,<-this,j8]
     have ew:aB .i64 ((j:Int) - (i:Int))=((j - i:Nat):Int):=by rw[bo _ io];omega
     rw[W,ew];unfold e3;rw[ab C,ag M,Z,Y];rfl
    refine vP.dF (aT (λe=>⟨io,_,mG (i:=j) io,J.av (zI _ _) ?_⟩) (λe=>done (λp=>io) a J));rintro _ l rfl d;refine⟨_,rfl,bn (λt=>?_) (λt=>done (λ_=>t) l d)⟩;rw[show aB .i64 ((j:Int)+1)=((j+1:Nat):Int)by rw[bo _ io];omega];refine ih (j+1) l io io io (λk h1 h2=>?_) d _ _ _ _ _
    grind
  exact loop (s.size+1) i H io (Nat.le_refl _) io (λk h1 h2=>io) o _ _ _ _ _
 .have N:¬k9 ((bl s).getD i 0)=true:=by grind
  rw[show aB .i64 ((i:Int)+1)=((i+1:Nat):Int)by rw[bo _ io];omega];refine o.av (Dn s (i+1) io _) ?_;rintro _ A rfl h;cases t:lF (bl s) (i+1)with
  |none=>
   refine⟨0,0,false,rfl,aR rfl (bad A h ?_ _ _ _ _ _)⟩;unfold e3
   grind
  |some q=>
   obtain⟨lo,m⟩:=q;obtain⟨hm,aA⟩:=Di t;refine⟨lo.toNat,m,true,rfl,?_⟩;try dsimp only
   rw[show aB .i64 (((i+1:Nat):Int)+(m:Int))=((i+1+m:Nat):Int)by rw[bo _ io];omega];have P:¬(i+1+m<(bl s).length/\(bl s).getD (i+1+m) 0=45)->e3 (bl s) i=(⟨63,0,0,[],i⟩,1):=λe=>by
    unfold e3
    grind
   refine aQ rfl (aT (λe=>bad A h (P (λp=>io)) _ _ _ _ _) (λe=>⟨io,_,mG (i:=i+1+m) io,?_⟩));refine bn (λF=>bad A h (P (λp=>?_)) _ _ _ _ _) (λap=>?_)
   .rw [p.2]at F;grind
   have ar:(bl s).getD (i+1+m) 0=45:=by
    have T:(((bl s).getD (i+1+m) 0).toNat:Int)=45:=by grind
    have:((bl s).getD (i+1+m) 0).toNat=(45:UInt8).toNat:=by grind
    exact UInt8.toNat_inj.1 this
   rw[show aB .i64 (((i+1+m:Nat):Int)+1)=((i+1+m+1:Nat):Int)by rw[bo _ io];omega];refine h.av (Dn s (i+1+m+1) io _) ?_;rintro _ l rfl d;cases an:lF (bl s) (i+1+m+1)with
   |none=>
    refine⟨0,0,false,rfl,aR rfl (bad l d ?_ _ _ _ _ _)⟩;unfold e3
    grind
   |some q=>
    obtain⟨G,c⟩:=q;obtain⟨az,aC⟩:=Di an;refine⟨G.toNat,c,true,rfl,?_⟩;try dsimp only
    rw[show aB .i64 (((i+1+m:Nat):Int)+aB .i64 (1+(c:Int)))=((i+1+m+(1+c):Nat):Int)by rw[bo (1+(c:Int)) io,bo _ io];omega];have B:e3 (bl s) i=if i+1+m+(1+c)<(bl s).length/\(bl s).getD (i+1+m+(1+c)) 0=93/\lo.toNat<=G.toNat then(⟨114,lo,G,[],i⟩,1+m+(1+c)+1)else(⟨63,0,0,[],i⟩,1):=by
     unfold e3
     grind
    refine aQ rfl (aT (λe=>bad l d (B.trans (ab λp=>io)) _ _ _ _ _) (λe=>⟨io,_,mG (i:=i+1+m+(1+c)) io,?_⟩));refine bn (λF=>bad l d (B.trans (ab λp=>?_)) _ _ _ _ _) (λam=>?_)
    .rw [p.2.1]at F;grind
    have aj:(bl s).getD (i+1+m+(1+c)) 0=93:=by
     have T:(((bl s).getD (i+1+m+(1+c)) 0).toNat:Int)=93:=by grind
     have:((bl s).getD (i+1+m+(1+c)) 0).toNat=(93:UInt8).toNat:=by grind
     exact UInt8.toNat_inj.1 this
    refine aT (λS=>bad l d (B.trans (ab λp=>io)) _ _ _ _ _) (λS=>d.ae (bs:=[f]) (λw6 Q=>⟨?_,Q.fr⟩) gs);rw[B,ag ⟨io,aj,io⟩];rw[show aB .i64 (aB .i64 (((i+1+m+(1+c):Nat):Int)+1) - (i:Int))=((1+m+(1+c)+1:Nat):Int)by rw[bo (((i+1+m+(1+c):Nat):Int)+1) io,bo _ io];omega];rfl
 .have N:¬k9 ((bl s).getD i 0)=true:=by grind
  refine o.av (Dn s i io _) ?_;rintro _ A rfl h;cases t:lF (bl s) i with
  |none=>
   refine⟨0,0,false,rfl,aQ rfl (bad A h ?_ _ _ _ _ _)⟩;unfold e3
   grind
  |some q=>
   obtain⟨b,n⟩:=q;refine⟨b.toNat,n,true,rfl,aR rfl (h.ae (bs:=[f]) (λl d=>⟨?_,d.fr⟩) gs)⟩;unfold e3;rw[ab C,ab N,ab L,t];rfl
structure Inv(S:SX)(m:Nat):Prop where
 lo:S.lo.length<=m
 sl:∀f∈S.lo,Small f m
 tp:Small S.tp m
 s1:S.st=1->0<=S.tp.k/\S.lo≠[]
 s2:S.st=2->0<=S.wd
def Small.mono{f:FX}{m n:Nat}(d:Small f m)(a:m<=n):Small f n:=⟨bB d.n' a,bB d.ar a,bB d.al a,bB d.an a,bB d.ca a⟩
def Hx(k:Int)(m:Nat):Small (my k) m:=⟨dc _,dc _,dc _,dc _,dc _⟩
def yI{f:FX}{m:Nat}(d:Small f m)(x:Rx):Small (jG f x) m:=⟨d.n',d.ar,d.al,d.an,d.ca⟩
def ET{t:Tk}{S j:SX}{m:Nat}(c:S.lo.length<=m)(b:∀f∈S.lo,Small f (m+1))(a:Small S.tp (m+1))(d:S.tp.n<=m)(e:gg t S=some j):Inv j (m+1):=by
 have k:∀f∈S.lo++[S.tp],Small f (m+1):=λf g=>by grind
 unfold gg at e;split at e
 .cases e;exact⟨by grind,b,⟨by grind,a.ar,a.al,a.an,a.ca⟩,λh=>(by grind),λh=>(by grind)⟩
 .split at e
  .cases e;exact⟨by grind,k,Hx _ _,λh=>(by grind),λh=>(by grind)⟩
  .split at e
   .cases e;exact⟨by grind,b,yI a _,λh=>(by grind),λh=>(by grind)⟩
   .split at e
    .split at e
     .cases e;exact⟨by grind,b,yI a _,λh=>(by grind),λh=>(by grind)⟩
     .split at e
      .cases e;exact⟨by grind,b,yI a _,λh=>(by grind),λh=>(by grind)⟩
      .split at e
       .cases e;exact⟨by grind,b,a,λh=>(by grind),λ_=>by grind⟩
       .split at e
        .cases e;exact⟨by grind,b,a,λh=>(by grind),λ_=>by grind⟩
        .split at e
         .cases e;exact⟨by grind,b,a,λh=>(by grind),λ_=>by grind⟩
         grind
    grind
def J7{S h:SX}{l:List Rx}{m:Nat}(b:Inv S m)(e:mY S l=some h):Inv h (m+1):=by
 unfold mY at e;rcases s5 S.lo with d|⟨a,g,d⟩
 .grind
 .rw [d]at e;simp at e;subst e;have j:=b.lo;rw[d]at j;simp at j;exact⟨by grind,λf c=>(b.sl f (by grind)).mono io,yI ((b.sl g (by grind)).mono io) _,λd=>(by grind),λd=>(by grind)⟩
def Ep{z:Sl}{t:Tk}{S w:SX}{m:Nat}(a:Inv S m)(d:gd z t S=some w):Inv w (m+1):=by
 have q:=a.lo;have j:∀f∈S.lo,Small f (m+1):=λf b=>(a.sl f b).mono io;have h:Small S.tp (m+1):=a.tp.mono io;have x:=a.tp.n';unfold gd at d;split at d
 .rename_i k;split at d
  .cases d;refine⟨by grind,λf b=>?_,Hx _ _,λ_=>⟨a.s2 k,gs⟩,λe=>(by grind)⟩
   grind
  grind
 .rename_i k;split at d
  .split at d
   .exact J7 a d
   .exact ET q j h x d
  .rename_i y;split at d
   .exact ET q j h x d
   .split at d
    .cases d;exact⟨by grind,j,yI h _,λe=>absurd e y,λe=>absurd e k⟩
    .split at d
     .cases d;refine⟨by grind,j,⟨dc _,h.ar,h.al,?_,dc _⟩,λe=>(by grind),λe=>(by grind)⟩;have:=a.tp.an;show(S.tp.an++[_]).length<=_
      grind
     .split at d
      .cases d;refine⟨by grind,j,⟨dc _,h.ar,?_,dc _,dc _⟩,λe=>(by grind),λe=>(by grind)⟩;have:=a.tp.al;show(S.tp.al++[_]).length<=_
       grind
      .split at d
       .split at d
        .cases d
        .cases d;refine⟨by grind,j,⟨dc _,?_,dc _,dc _,dc _⟩,λe=>(by grind),λe=>(by grind)⟩;have:=a.tp.ar;show(S.tp.ar.2++[_]).length<=_
         grind
       .split at d
        .split at d
         .cases d
         .exact J7 a d
        .split at d
         .split at d
          .cases d;exact⟨io,j,h,a.s1,a.s2⟩
          grind
         .refine ET (S:=⟨S.lo,mj S.tp,S.st,S.wd⟩) q j ⟨dc _,h.ar,h.al,h.an,?_⟩ (dc _) d;have:=a.tp.ca;show(S.tp.ca++[_]).length<=_
          grind
def Yz{d:Sl}{t:Tk}{S:SX}(e:t.k=63):gd d t S=none:=by
 have it:∀S,gg t S=none:=λS=>by
  unfold gg
  grind
 unfold gd
 grind
def kv(l:List UInt8):Nat->Nat->List Tk
 |0,_=>[]
 |n+1,i=>if i<l.length then(if l.getD i 0=32 then kv l n (i+1)else(e3 l i).1::kv l n (i+(e3 l i).2))else[⟨36,0,0,[],l.length⟩]
def rS:List Tk->SX->Int⊕SX->Prop
 |[],d,r=>r=.inr d
 |t::j,d,r=>∃h,(gd h t d=none/\r=.inl t.a)\/∃e,gd h t d=some e/\rS j e r
def UB{l:List UInt8}{i:Nat}(a:i<l.length):1<=(e3 l i).2/\i+(e3 l i).2<=l.length:=by
 unfold e3;split
 .omega
 .split
  .rename_i e;have d:(l.drop i)=l.getD i 0::l.drop (i+1):=by rw[List.drop_eq_getElem_cons a,List.getD_eq_getElem?_getD,aY a];rfl
   have j:1<=((l.drop i).takeWhile k9).length:=by rw[d,List.takeWhile_cons,ag e];simp
   have k:((l.drop i).takeWhile k9).length<=(l.drop i).length:=(List.takeWhile_prefix (p:=k9) (l:=l.drop i)).length_le
   grind
  .split
   .grind
   .split
    .rename_i h;have:=Di h;omega
    omega
abbrev HS(t:Tk):List V:=[.int .u8 (t.k.toNat:Int),.int .u8 (t.lo.toNat:Int),.int .u8 (t.hi.toNat:Int),.string (ba t.s),.int .i64 t.a]
def w9:En:=⟨[],λ_=>True,λ_ _ _ d=>d,λ_ _ b a=>by grind,gs⟩
abbrev nJ(d e f D b a:Nat)(s:ByteArray)(g i:V)(o:Obj):List En:=[.c d [.int .i64 0,.int .u8 0,.int .u8 0,.slice none 0 0] aS,.c e [g] bz,.c f [i] hr,.ob D (.deferred (some [])),.ob b o,.c a [.string s] eH]
def PS(i w:I)(j:Nat)(G:List En)(S:SX):Prop:=∃(e:Sl) (c:List FM) (f:FM) (d:List J) (p:Addr),c.map FM.x=S.lo/\f.x=S.tp/\(∀g∈c++[f],∀t∈g.ts,t∈d)/\e.a=some p/\(∀b∈J.bc d,i.heap.size<=b)/\SF F0 i w j e S.st S.wd c f G d
def PE(g w:I)(b:Nat)(G:List En):Prop:=∃(c:Sl) (a:List FM) (f:FM) (e:List J) (d i:Int),SF F0 g w b c d i a f G e
section
variable {s:ByteArray} {w0:I} {rb t2 t3 t4 D l_ bs:Nat} {o_:eQ->Option Code->Obj}
abbrev Im(s:ByteArray)(n o p q f l:Nat)(k:eQ->Option Code->Obj):Prop:=
 ∀(a b c:Int) (d:ByteArray) (e:Int) (g:I) (i:Bool->I->Prop),g.heap[f]? =some (k .ready none)->G4.rM f k s (aa o) (aa p) (aa q) (aa n) (aa l) a b c d e g (λm r=>∃h:Bool,m=ad (.bool h)/\i h r)->W.pd U f #[.agg #[.int .u8 a,.int .u8 b,.int .u8 c,.string d,.int .i64 e]] g i
def QT(Q:Im s rb t2 t3 t4 l_ bs o_){S:SX}{m:Nat}(i:Inv S m)(hm:m<=900000)(t:Tk){e:En}{w:I}(H:PS w0 w rb (nJ t2 t3 t4 D l_ bs s (.int .i64 0) (.int .i64 0) (o_ .ready none)++[e]) S){K:Bool->I->Prop}(j:∀k h,gd h t S=none->PE w0 k rb (nJ t2 t3 t4 D l_ bs s (.int .i64 t.a) (.int .i64 2) (o_ .done (some .ret))++[e])->K false k)(l:∀k h A,gd h t S=some A->PS w0 k rb (nJ t2 t3 t4 D l_ bs s (.int .i64 0) (.int .i64 0) (o_ .ready none)++[e]) A->K true k):W.pd U l_ #[t.v] w K:=by
 obtain⟨lo,ag,st,wd⟩:=S;obtain⟨sl,C,f,ts,p,q,y,M,O,hb,H⟩:=H;have q:C.map FM.x=lo:=q;have y:f.x=ag:=y;subst q y;refine Q _ _ _ _ _ w K (H.ob 7) ?_;refine H.nw λw1 _ o=>o.TH 10 rfl λw2 aa=>aa.pu 7 rfl λw3 d=>⟨_,_,_,_,_,d.ld 10 0,d.ld 10 1,d.ld 10 2,d.ld 10 3,d.ld 10 4,?_⟩;have L:SF F0 w0 w3 rb sl st wd C f (nJ t2 t3 t4 D l_ bs s (.int .i64 0) (.int .i64 0) (o_ .busy none)++[e,.c w.heap.size (HS t) pc]) ts:=d;refine L.zS M O (λab ac=>WO ac (bB i.lo io) (i.tp.mono io) i.s1 t) ?_;rintro r w4 G E B p4 ae ah J an N P b4 ⟨h,Z⟩ z;rcases Z with⟨T,rfl⟩|⟨Y,rfl⟩
 .refine ⟨false,rfl,aR rfl ?_⟩;refine z.dr λn g=>⟨t.a,g.ld 10 4,g.lj 3 rfl λw6 F=>⟨F.ld 10 4,F.fg 4 rfl λw7 u=>u.fg 5 rfl λw8 aj=>aj.pu 7 rfl λw9 am=>⟨false,rfl,j w9 h T ⟨G,E,B,J,ae,ah,?_⟩⟩⟩⟩;exact am.take 10
 .refine ⟨true,rfl,aQ rfl (z.pu 7 rfl λn g=>⟨true,rfl,l n h _ Y ⟨G,E,B,J,p4,rfl,rfl,N,P,λb af=>?_,g.take 10⟩⟩)⟩
  grind
def Vs(k:I)(e f g i D c b:Nat)(s:ByteArray)(d:eQ->Option Code->Obj)(j:I):Int⊕SX->Prop
 |.inl a=>PE k j e (nJ f g i D c b s (.int .i64 a) (.int .i64 2) (d .done (some .ret)))
 |.inr h=>PS k j e (nJ f g i D c b s (.int .i64 0) (.int .i64 0) (d .ready none)) h
def abQ(hs:s.size<=4096)(z:Im s rb t2 t3 t4 l_ bs o_)(R:aC):∀(n i m:Nat) (S:SX) (w:I),s.size - i<n->i<=s.size->Inv S m->m+n<=900000->
  PS w0 w rb (nJ t2 t3 t4 D l_ bs s (.int .i64 0) (.int .i64 0) (o_ .ready none)) S->
  (∀t g,rS (kv (bl s) n i) S g->Vs w0 rb t2 t3 t4 D l_ bs s o_ t g->R (ad (.tuple #[])) t)->Bs.L0 l_ (aa bs) (i:Int) w R:=by
 intro n;induction n with
 |zero=>omega
 |succ n ih=>
  intro i m S w hn hi F hm hP q;have hl:(bl s).length=s.size:=cR s;have aj:=hP;obtain⟨sl,K,f,W,p,ac,ae,h3,h4,G,C⟩:=aj;refine Bs.b' _ _ _ _ _ ⟨s,C.cB 8,aT (λah=>⟨s,C.cB 8,io,_,mG (i:=i) io,kz (n:=32) io (λhc:(bl s).getD i 0=32=>?_) (λhc:(bl s).getD i 0≠32=>⟨s,C.cB 8,C.call (Xl s io i io w) ?_⟩)⟩) (λah=>⟨s,C.cB 8,?_⟩)⟩
  .rw [show aB .i64 ((i:Int)+1)=((i+1:Nat):Int)by rw[bo _ io];omega];refine ih (i+1) m S w io io F io hP (λt g hr Z=>q t g ?_ Z);unfold kv
   grind
  .rintro _ w1 rfl H;have am:=UB (l:=bl s) (i:=i) io;have J:kv (bl s) (n+1) i=(e3 (bl s) i).1::kv (bl s) n (i+(e3 (bl s) i).2):=by rw[kv,ag io,ab hc]
   rw[J]at q;refine⟨_,_,_,_,_,_,rfl,H.nw λw2 _ H2=>H2.TH 9 rfl λw7 r=>⟨_,_,_,_,_,r.ld 9 0,r.ld 9 1,r.ld 9 2,r.ld 9 3,r.ld 9 4,?_⟩⟩;have af:SF F0 w0 w7 rb sl S.st S.wd K f (nJ t2 t3 t4 D l_ bs s (.int .i64 0) (.int .i64 0) (o_ .ready none)++[.c w1.heap.size (HS (e3 (bl s) i).1) pc]) W:=r;refine QT z F io (e3 (bl s) i).1 (e:=.c w1.heap.size (HS (e3 (bl s) i).1) pc) ⟨sl,K,f,W,p,ac,ae,h3,h4,G,af⟩ (λy o v x=>aR rfl (q y (.inl (e3 (bl s) i).1.a) ⟨o,.inl ⟨v,rfl⟩⟩ ?_)) (λy o u E x=>aQ rfl ?_)
   .obtain ⟨A,j,h,B,T,Y,d⟩:=x;exact⟨A,j,h,B,T,Y,d.take 9⟩
   .obtain ⟨A,j,h,B,Q,O,P,L,M,N,d⟩:=x;refine⟨_,d.ld 9 0,kz (n:=63) io (λhk:(e3 (bl s) i).1.k=63=>?_) (λhk=>?_)⟩
    .rw [Yz hk]at E;grind
    .rw [show aB .i64 ((i:Int)+((e3 (bl s) i).2:Int))=((i+(e3 (bl s) i).2:Nat):Int)by rw[bo _ io];omega];refine ih (i+(e3 (bl s) i).2) (m+1) u y io io (Ep F E) io ⟨A,j,h,B,Q,O,P,L,M,N,d.take 9⟩ (λt g hr Z=>q t g ⟨o,.inr ⟨u,E,hr⟩⟩ Z)
  .have J:kv (bl s) (n+1) i=[⟨36,0,0,[],(bl s).length⟩]:=by rw[kv,ab io]
   rw[J,hl]at q;have H:=C.push w9 (Fr.refl _ _) trivial (λb G=>by cases G);refine QT z F io ⟨36,0,0,[],(s.size:Int)⟩ (e:=w9) ⟨sl,K,f,W,p,ac,ae,h3,h4,G,H⟩ (λy o v x=>q y (.inl (s.size:Int)) ⟨o,.inl ⟨v,rfl⟩⟩ ?_) (λy o u E x=>q y (.inr u) ⟨o,.inr ⟨u,E,rfl⟩⟩ ?_)
   .obtain ⟨A,j,h,B,T,Y,d⟩:=x;exact⟨A,j,h,B,T,Y,d.take 9⟩
   .obtain ⟨A,j,h,B,Q,O,P,L,M,N,d⟩:=x;exact⟨A,j,h,B,Q,O,P,L,M,N,d.take 9⟩
end
def tt:∀(a b:List Rx),Rx.a4 (a++b)=Rx.a4 a+Rx.a4 b
 |[],b=>by simp[Rx.a4]
 |d::a,b=>by have:=tt a b;show d.sz+Rx.a4 (a++b)=(d.sz+Rx.a4 a)+Rx.a4 b;omega
def tE(x:Rx):Rx.a4 [x]=x.sz:=by simp[Rx.a4]
def Gu(k:Int)(l:List Rx):(qk k l).sz<=1+Rx.a4 l:=by
 unfold qk;split
 .rw [tE];omega
 .unfold Rx.sz;omega
def Gh:∀(n:Nat) (r:Rx),(mA n r).sz=n+r.sz
 |0,r=>by unfold mA;omega
 |n+1,r=>by unfold mA;rw[Gh n];unfold Rx.sz;rw[tE];cases r;simp only[Rx.sz];omega
def fz(f:FX):Nat:=Rx.a4 f.ar.2+Rx.a4 f.al+Rx.a4 f.an+Rx.a4 f.ca+f.n
def lz:List FX->Nat
 |[]=>0
 |f::l=>fz f+lz l
def AF:∀(a b:List FX),lz (a++b)=lz a+lz b
 |[],b=>by simp[lz]
 |d::a,b=>by have:=AF a b;show fz d+lz (a++b)=(fz d+lz a)+lz b;omega
def pz(S:SX):Nat:=lz S.lo+fz S.tp+(if S.st=0\/S.st=1\/S.st=2 then 0 else S.tp.la.sz)
def GL(S:SX):pz S<=lz S.lo+fz S.tp+S.tp.la.sz:=by unfold pz;grind
def ab8(S:SX):lz S.lo+fz S.tp<=pz S:=by unfold pz;omega
def qo{S:SX}(d:S.st=0\/S.st=1\/S.st=2):pz S=lz S.lo+fz S.tp:=by unfold pz;grind
def RJ{S:SX}(d:¬(S.st=0\/S.st=1\/S.st=2)):pz S=lz S.lo+fz S.tp+S.tp.la.sz:=by unfold pz;grind
def ZA(f:FX):fz (mj f)=fz f+f.la.sz:=by unfold fz mj;simp only[tt,tE,Gh];omega
def Tg(f:FX):fz (lI f)<=fz f+f.la.sz+1:=by have d:=Gu 3 (f.ca++[mA f.n f.la]);simp only[tt,tE,Gh]at d;show Rx.a4 f.ar.2+Rx.a4 f.al+Rx.a4 (f.an++[qk 3 (f.ca++[mA f.n f.la])])+Rx.a4 []+0<=_;unfold fz;simp only[tt,Rx.a4];omega
def Kk(f:FX):Rx.a4 f.ar.2+Rx.a4 (lH f).al<=fz f+f.la.sz+2:=by have e:=Gu 5 (lI f).an;have h:=Tg f;have d:fz (lI f)=Rx.a4 f.ar.2+Rx.a4 f.al+Rx.a4 (lI f).an+0+0:=rfl;show Rx.a4 f.ar.2+Rx.a4 (f.al++[qk 5 (lI f).an])<=_;simp only[tt,tE];omega
def XW(f:FX):fz (lH f)<=fz f+f.la.sz+2:=by have:=Kk f;show Rx.a4 f.ar.2+Rx.a4 (lH f).al+Rx.a4 []+Rx.a4 []+0<=_;simp only[Rx.a4];omega
def Eo(f:FX):Rx.a4 f.ar.2+(cI f).sz<=fz f+f.la.sz+3:=by have d:=Gu 4 (lH f).al;have:=Kk f;show _+(qk 4 (lH f).al).sz<=_;omega
def EU{t:Tk}{S e:SX}(d:gg t S=some e):pz e<=lz S.lo+fz S.tp+1:=by
 have leaf:∀(k:Int) (a b:UInt8),(Rx.mk k a b []).sz=1:=λk a b=>by unfold Rx.sz;simp[Rx.a4]
 unfold gg at d;split at d
 .cases d;rw[qo (.inl rfl)];show lz S.lo+(Rx.a4 S.tp.ar.2+Rx.a4 S.tp.al+Rx.a4 S.tp.an+Rx.a4 S.tp.ca+(S.tp.n+1))<=_;unfold fz;omega
 .split at d
  .cases d;rw[qo (.inl rfl)];show lz (S.lo++[S.tp])+fz (my (-1))<=_;rw[AF];have:fz (my (-1))=0:=rfl;simp only[lz];omega
  .have h:∀(k:Int) (a b:UInt8),pz ⟨S.lo,jG S.tp (.mk k a b []),3,S.wd⟩<=lz S.lo+fz S.tp+1:=λk a b=>by
    refine bB (GL _) ?_;show lz S.lo+fz S.tp+(Rx.mk k a b []).sz<=_
    grind
   split at d
   .grind
   .split at d
    .split at d
     .grind
     .split at d
      .grind
      .split at d
       .cases d;rw[qo (.inr (.inr rfl))];grind
       .split at d
        .cases d;rw[qo (.inr (.inr rfl))];grind
        .split at d
         .cases d;rw[qo (.inr (.inr rfl))];grind
         grind
    grind
def J8{S e:SX}{l:List Rx}(d:mY S l=some e):pz e<=lz S.lo+Rx.a4 l+1:=by
 unfold mY at d;rcases s5 S.lo with h|⟨a,g,h⟩
 .grind
 .rw [h]at d ⊢;simp at d;subst d;refine bB (GL _) ?_;show lz a+fz g+(nR S.tp.k l).sz<=_;rw[AF];have:(nR S.tp.k l).sz<=Rx.a4 l+1:=by
   unfold nR;split
   .cases l with
    |nil=>exact(by show fU.sz<=_;unfold fU Rx.sz;omega)
    |cons j l=>show j.sz<=_;unfold Rx.a4;omega
   .unfold Rx.sz;omega
  simp only[lz];omega
def YB{j:Sl}{t:Tk}{S e:SX}(d:gd j t S=some e):pz e<=pz S+4:=by
 have x:=ab8 S;unfold gd at d;split at d
 .split at d
  .cases d;rw[qo (.inr (.inl rfl))];show lz (S.lo++[S.tp])+fz (my S.wd)<=_;rw[AF];have:fz (my S.wd)=0:=rfl;simp only[lz];omega
  grind
 .rename_i w;split at d
  .split at d
   .have:=J8 d;simp only[Rx.a4]at this;omega
   .have:=EU d;omega
  .rename_i q;split at d
   .have:=EU d;omega
   .rename_i k;have y:=RJ (S:=S) io;split at d
    .cases d;refine bB (GL _) ?_;show lz S.lo+fz S.tp+(Rx.mk 7 0 0 [S.tp.la]).sz<=_;have:(Rx.mk 7 0 0 [S.tp.la]).sz=1+S.tp.la.sz:=by show 1+Rx.a4 [S.tp.la]=_;rw[tE]
     omega
    .split at d
     .cases d;rw[qo (.inl rfl)];show lz S.lo+fz (lI S.tp)<=_;have:=Tg S.tp;omega
     .split at d
      .cases d;rw[qo (.inl rfl)];show lz S.lo+fz (lH S.tp)<=_;have:=XW S.tp;omega
      .split at d
       .split at d
        .cases d
        .cases d;rw[qo (.inl rfl)];show lz S.lo+(Rx.a4 (S.tp.ar.2++[cI S.tp])+Rx.a4 []+Rx.a4 []+Rx.a4 []+0)<=_;have:=Eo S.tp;simp only[tt,Rx.a4];omega
       .split at d
        .split at d
         .cases d
         .have h:=J8 d;have:=Eo S.tp;simp only[tt,tE]at h;omega
        .split at d
         .grind
         .have h:=EU d;have:=ZA S.tp
          grind
def YA{h:Sl}{a:Int}{S d:SX}(e:gd h ⟨36,0,0,[],a⟩ S=some d):d=S/\¬(S.st=0\/S.st=1\/S.st=2):=by
 have it:∀S,gg ⟨36,0,0,[],a⟩ S=none:=λS=>rfl;unfold gd at e
 grind
def Hl(l:List UInt8):∀(n i:Nat) (S a:SX),l.length - i<n->rS (kv l n i) S (.inr a)->(cI a.tp).sz<=pz S+4 *n+4
 |0,i,S,a,y,_=>io
 |n+1,i,S,a,y,d=>by
  unfold kv at d;split at d
  .split at d
   .have:=Hl l n (i+1) S a io d;omega
   .rename_i z _;have B:=UB z;obtain⟨A,⟨_,k⟩|⟨e,h,j⟩⟩:=d
    .cases k
    .have:=Hl l n (i+(e3 l i).2) e a io j;have:=YB h;omega
  .obtain ⟨A,⟨_,k⟩|⟨e,h,j⟩⟩:=d
   .cases k
   .have q:a=e:=by have:Sum.inr a=(Sum.inr e:Int⊕SX):=j;grind
    obtain⟨w,x⟩:=YA h;subst q w;have:=RJ x;have:=Eo a.tp;omega
def aak{M:Nat->Prop}{w0 w:I}{L D:List En}(H:O M w0 w L D)(is d:List Nat)(j:is.Perm d)(i:d.map (λh=>L.getD h w9)=L):O M w0 w (is.map λh=>L.getD h w9) D:=by
 have k:(is.map λh=>L.getD h w9).Perm L:=by grind
 exact⟨H.fr,λe a=>H.own e (k.mem_iff.1 a),H.rd,λe a=>H.new e (k.mem_iff.1 a),((k.flatMap_right _).nodup_iff).2 H.nd,λe a b g f c=>H.dj e a b g f (k.mem_iff.1 c)⟩
def acu{d:I}{l:Nat}{o:eQ->Option Code->Obj}{N:I->Prop}{X:Nat->I->Prop}{T:I->Prop}(e:hG d l (o .ready none) (o .exhausted none) N):rR d l o N X T:=.inl e
def acv{d:I}{l:Nat}{o:eQ->Option Code->Obj}{N:I->Prop}{X:Nat->I->Prop}{T:I->Prop}(e:hG d l (o .done (some .ret)) (o .exhausted (some .ret)) T):rR d l o N X T:=.inr (.inr e)
def ME{b:Nat}(d:b∈J.bc [.mk 0 0 0 ⟨none,0,0⟩ []]):False:=by
 have:=Ao (ts:=[]) (k:=0) (lo:=0) (hi:=0) (b:=b) d;unfold J.bc at this
 grind
def wa:SX:=⟨[],my (-1),0,0⟩
def Mc:Inv wa 0:=by
 refine⟨Nat.le_refl _,λf a=>?_,Hx _ _,λd=>?_,λd=>?_⟩
 .cases a
 .have:(0:Int)=1:=d;omega
 .have:(0:Int)=2:=d;omega
def Hj(l:List UInt8):∀(n i m:Nat) (S c:SX),Inv S m->rS (kv l n i) S (.inr c)->Inv c (m+n)
 |0,i,m,S,c,h,d=>by
  have z:(Sum.inr c:Int⊕SX)=.inr S:=d
  grind
 |n+1,i,m,S,c,h,d=>by
  have y:∀{S:SX} {a b:Nat},Inv S a->a<=b->Inv S b:=λe k=>⟨bB e.lo k,λf g=>(e.sl f g).mono k,e.tp.mono k,e.s1,e.s2⟩;unfold kv at d;split at d
  .split at d
   .exact y (Hj l n _ m S c h d) io
   .obtain ⟨A,⟨_,x⟩|⟨j,q,w⟩⟩:=d
    .cases x
    .exact y (Hj l n _ (m+1) j c (Ep h q) w) io
  .obtain ⟨A,⟨_,x⟩|⟨j,q,w⟩⟩:=d
   .cases x
   .have z:(Sum.inr c:Int⊕SX)=.inr j:=w;cases z;exact y (Ep h q) io
def Vt(w:I)(s:ByteArray):aC:=λr c=>af w c/\
 ((4096<s.size/\r=ad (.tuple #[.agg #[.int .i64 0,.int .u8 0,.int .u8 0,.slice none 0 0],.int .i64 4096,.int .i64 4]))\/
  (s.size<=4096/\∃res,rS (kv (bl s) (s.size+1) 0) wa res/\((∃a,res=.inl a/\r=ad (.tuple #[.agg #[.int .i64 0,.int .u8 0,.int .u8 0,.slice none 0 0],.int .i64 a,.int .i64 2]))\/
   ∃d,res=.inr d/\((64<(cI d.tp).sz/\r=ad (.tuple #[.agg #[.int .i64 0,.int .u8 0,.int .u8 0,.slice none 0 0],.int .i64 (s.size:Int),.int .i64 4]))\/
    ((cI d.tp).sz<=64/\∃t:J,r=ad (.tuple #[t.v,.int .i64 0,.int .i64 0])/\t.rx=cI d.tp/\t.P c/\∀b∈t.fp,w.heap.size<=b)))))
def Jo(s:ByteArray)(w:I):ai U OR #[.string s] w (Vt w s):=by
 refine G4.ok _ w _ ((bM [] (λ_ h=>by cases h)).nw λG _ H1=>H1.nw λH _ H2=>H2.nw λw3 _ W=>aT (λh=>?_) (λh=>?_))
 .refine W.lj 0 rfl λw4 H4=>H4.fg 1 rfl λw5 M=>M.fg 2 rfl λw6 o=>⟨_,_,_,⟨none,0,0⟩,o.ld 0 0,o.ld 0 1,o.ld 0 2,o.ld 0 3,_,o.cB 1,_,o.cB 2,o.fr,.inl ⟨io,rfl⟩⟩
 have E:s.size<=4096:=io
 have hl:(bl s).length=s.size:=cR s;refine W.e9 (e:=iX) (sz:=10) (n:=1) (cs:=(jR (-1)).c) rfl dl λK al=>al.nw λar _ N=>?_;refine N.fg 4 rfl λau k=>k.st 4 1 rfl λae v=>v.st 4 2 rfl λm A=>?_;refine Sn.ok (A.nw λi _ j=>⟨_,rfl,?_⟩);show ∀x:eQ->Option Code->Obj,_;intro x hY;have e1:(i.alloc (.deferred (some []))).heap.size=i.heap.size+1:=size_alloc _ _;have Z:=(j.alloc (.deferred (some []))).alloc (x .ready none);rw[e1]at Z;have hP:(En.rows (([]++[jR (-1)]:List FM).flatMap FM.rows)).P ((i.alloc (.deferred (some []))).alloc (x .ready none)):=by refine⟨λax C=>?_,dl⟩;have C:ax∈[((⟨none,0,0⟩,[]):ee),(⟨none,0,0⟩,[]),(⟨none,0,0⟩,[]),(⟨none,0,0⟩,[])]:=C;simp only[aF,aZ,a7,or_self]at C;subst C;exact aK.nil _ _ _
 have Ha:=(Z.push (.rows (([]++[jR (-1)]:List FM).flatMap FM.rows)) (Fr.refl _ _) hP (λb l=>by
  have l:=aW.1 l;have l:b∈([]:List Nat):=l;cases l)).ef (.trees [.mk 0 0 0 ⟨none,0,0⟩ []]) (Fr.refl _ _) (J.jV λt F=>by
   simp at F;subst F;show J.P _ _;unfold J.P J.Ps;exact⟨bh.nil 4 _,trivial⟩) (λb l=>by exact(ME (aW.1 l)).elim)
 have Hb:=aak Ha [4,3,8,0,1,2,6,7,5] [0,1,2,3,4,5,6,7,8] dl rfl;have HS:SF F0 w ((i.alloc (.deferred (some []))).alloc (x .ready none)) K.heap.size ⟨some (aa w3.heap.size),1,1⟩ 0 0 [] (jR (-1)) (nJ w.heap.size G.heap.size H.heap.size i.heap.size (i.heap.size+1) m.heap.size s (.int .i64 0) (.int .i64 0) (x .ready none)) [.mk 0 0 0 ⟨none,0,0⟩ []]:=Hb;refine Bs.ok _ _ _ _ (abQ (w0:=w) (rb:=K.heap.size) (t2:=w.heap.size) (t3:=G.heap.size) (t4:=H.heap.size) (D:=i.heap.size) (l_:=i.heap.size+1) (bs:=m.heap.size) E hY _ (s.size+1) 0 0 wa _ io io Mc io
  ⟨_,[],jR (-1),_,_,rfl,rfl,λg hg t F=>?_,rfl,λb l=>?_,HS⟩ (λw' aq z he=>⟨⟨_,rfl⟩,?_⟩))
 .simp at hg;subst hg;simpa[FM.ts,jR]using F
 .exact (ME l).elim
 cases aq with
 |inl a=>
  obtain⟨sl,B,f,T,st,aN,L⟩:=he;refine acv (L.pu 7 rfl λar N=>N.pu 6 rfl λi j=>⟨_,_,_,⟨none,0,0⟩,j.ld 3 0,j.ld 3 1,j.ld 3 2,j.ld 3 3,_,j.cB 4,_,j.cB 5,j.fr,.inr ⟨E,_,z,.inl ⟨a,rfl,rfl⟩⟩⟩)
 |inr q=>
  obtain⟨sl,B,f,T,p,ap,af,h3,h4,l,L⟩:=he;have hI:=Hj _ _ _ _ _ _ Mc z;have aw:=Hl _ _ _ _ _ io z;rw[show pz wa=0 from rfl]at aw;have ao:B.length<=1000000:=by have:=hI.lo;rw[<-ap]at this;simp at this;omega
  refine acu (L.pu 7 rfl λw5 M=>?_);have Y:SF F0 w w5 K.heap.size sl q.st q.wd B f (nJ w.heap.size G.heap.size H.heap.size i.heap.size (i.heap.size+1) m.heap.size s (.int .i64 0) (.int .i64 0) (x .exhausted none)) T:=M;refine Y.call (zJ Y h4 ao) ?_;rintro _ w6 rfl o;have ah:SF F0 w w6 K.heap.size sl q.st q.wd B f (nJ w.heap.size G.heap.size H.heap.size i.heap.size (i.heap.size+1) m.heap.size s (.int .i64 0) (.int .i64 0) (x .exhausted none)) T:=o;refine⟨_,rfl,ah.zS h3 h4 (λbf s1=>zF s1 (by rw[af];exact hI.tp.mono io)) ?_⟩;rintro r w7 aJ ay f3 p3 aL aO ag aM az aA am ⟨aH,aC,aG,rfl,rfl,u,Q,rfl,S⟩ H7;rw[af]at S;have aI:u.sz=(cI q.tp).sz:=by rw[<-S,J.ez]
  refine⟨_,_,_,u.s,rfl,H7.nw λw8 _ H8=>H8.lj 9 rfl λw9 y=>⟨_,_,_,u.s,y.ld 9 0,y.ld 9 1,y.ld 9 2,y.ld 9 3,y.call (Dy u w9 io ((show J.Ps w9 ag from y.getD 0).mem Q)) ?_⟩⟩;rintro _ au rfl k;refine⟨_,rfl,aT (λbe=>?_) (λbi=>?_)⟩
  .refine k.lj 3 rfl λae v=>v.fg 4 rfl λm A=>A.fg 5 rfl λav O=>O.pu 6 rfl λaj d=>⟨_,_,_,⟨none,0,0⟩,d.ld 3 0,d.ld 3 1,d.ld 3 2,d.ld 3 3,_,d.cB 4,_,d.cB 5,d.fr,.inr ⟨E,_,z,.inr ⟨q,rfl,.inl ⟨io,rfl⟩⟩⟩⟩
  .refine ⟨_,_,_,u.s,k.ld 9 0,k.ld 9 1,k.ld 9 2,k.ld 9 3,k.lj 3 rfl λae v=>v.fg 4 rfl λm A=>A.fg 5 rfl λav O=>O.pu 6 rfl λaj d=>⟨_,_,_,u.s,d.ld 3 0,d.ld 3 1,d.ld 3 2,d.ld 3 3,_,d.cB 4,_,d.cB 5,d.fr,.inr ⟨E,_,z,.inr ⟨q,rfl,.inr ⟨io,u,rfl,S,(show J.Ps aj ag from d.getD 0).mem Q,λb an=>?_⟩⟩⟩⟩⟩;rcases am b (J.bX.2 ⟨u,Q,an⟩)with h|h|h
   .exact l b h
   .exact h
   .exact h.elim
def Ig:Sl:=⟨none,0,0⟩
def er(f:FX):FX:=⟨f.k,(Ig,f.ar.2),f.al,f.an,f.ca,f.n,f.la⟩
def fj(S:SX):SX:=⟨S.lo.map er,er S.tp,S.st,S.wd⟩
def ES(t:Tk)(S:SX):(gg t S).map fj=gg t (fj S):=by
 have d:er (my (-1))=my (-1):=rfl;have e:(S.lo++[S.tp]).map er=S.lo.map er++[er S.tp]:=gs
 unfold gg;split
 .rfl
 .split
  .simp only[Option.map_some,fj,d,e]
  .split
   .rfl
   .split
    .split
     .rfl
     .split
      .rfl
      .split
       .rfl
       .split
        .rfl
        .split<;>rfl
    .rfl
def J6(S:SX)(l:List Rx):(mY S l).map fj=mY (fj S) l:=by
 unfold mY;rcases s5 S.lo with d|⟨a,g,d⟩
 .simp [d,fj]
 .have e:(fj S).lo=a.map er++[er g]:=by simp[fj,d]
  rw[d,e];simp[fj];rfl
def Lq(a:Sl)(t:Tk)(S:SX):(gd a t S).map fj=gd Ig t (fj S):=by
 have q:(S.lo++[S.tp]).map er=S.lo.map er++[er S.tp]:=gs
 have h:(fj S).st=S.st:=rfl;have j:(fj S).tp.k=S.tp.k:=rfl;unfold gd;rw[h,j];by_cases e:S.st=2
 .rw [ag e,ag e];split
  .show some (fj ⟨S.lo++[S.tp],my S.wd,1,S.wd⟩)=some ⟨S.lo.map er++[er S.tp],my S.wd,1,S.wd⟩;rw[<-q];rfl
  .rfl
 rw[ab e,ab e];split
 .split
  .exact J6 S []
  .exact ES t S
 .split
  .exact ES t S
  .split
   .rfl
   .split
    .rfl
    .split
     .rfl
     .split
      .split<;>rfl
      .split
       .by_cases d:S.lo=[]
        .rw [ag d,ag (show(fj S).lo=[]by simp[fj,d])];rfl
        .rw [ab d,ab (show ¬(fj S).lo=[]by simp[fj,d])];exact J6 S _
       .split
        .by_cases d:S.lo=[]
         .rw [ag d,ag (show(fj S).lo=[]by simp[fj,d])];rfl
         .rw [ab d,ab (show ¬(fj S).lo=[]by simp[fj,d])];rfl
        .exact ES t ⟨S.lo,mj S.tp,S.st,S.wd⟩
def yz:List Tk->SX->Int⊕SX
 |[],d=>.inr d
 |t::h,d=>match gd Ig t d with
  |none=>.inl t.a
  |some e=>yz h e
def Ld:Int⊕SX->Int⊕SX
 |.inl a=>.inl a
 |.inr d=>.inr (fj d)
def SN:∀(a:List Tk) (S:SX) (r:Int⊕SX),rS a S r->Ld r=yz a (fj S)
 |[],S,r,d=>by have d:r=.inr S:=d;subst d;rfl
 |t::a,S,r,d=>by
  obtain⟨j,⟨e,h⟩|⟨k,e,h⟩⟩:=d
  .subst h;have:=Lq j t S;rw[e]at this;unfold yz;rw[<-this];rfl
  .have:=Lq j t S;rw[e]at this;unfold yz;rw[<-this];exact SN a k r h
def ie(l:List UInt8):Int⊕SX:=yz (kv l (l.length+1) 0) wa
def UF{s:ByteArray}{r:Int⊕SX}(d:rS (kv (bl s) (s.size+1) 0) wa r):Ld r=ie (bl s):=by have:=SN _ _ _ d;rw[this];unfold ie;rw[cR];rfl
def uW(S:SX):cI (fj S).tp=cI S.tp:=rfl
def lit(c:UInt8):Rx:=.mk 2 c c []
def jS(t:BL):Bool:=bif Nat.blt 4096 t.length then false else match ie t with
 |.inl _=>false
 |.inr d=>bif Nat.blt 64 (cI d.tp).sz then false else
  if k1 (cI d.tp)=0 then(if iY (gj (cI d.tp))=0 then cK 0 (gj (cI d.tp)) (a9 (gj (cI d.tp)))==t else false)else false
structure aM where
 k:Int
 n:Int
 x:Int
deriving DecidableEq
structure Nx where
 op:Int
 kids:List Int
 n:Int
 m:Int
 u:Int
 tx:ByteArray
 st:aM
deriving DecidableEq
def aX:aM:=⟨0,0,0⟩
def aO(n:Int):aM:=⟨0,n,0⟩
def dt(n:Int):aM:=⟨1,n,0⟩
def br(s:aM):Bool:=(s.k==0&&ak (1<=s.n)&&ak (s.n<=64)&&s.x==0)||(s.k==1&&ak (0<=s.n)&&ak (s.n<=64)&&s.x==0)||(s.k==2&&ak (1<=s.n)&&ak (s.n<=64)&&ak (1<=s.x)&&ak (s.x<=16))||(s.k==3&&ak (0<=s.n)&&ak (s.n<=64)&&ak (1<=s.x)&&ak (s.x<=16))
def gk(s:aM):Int:=if br s then 0 else 9
def eg(s:aM):Bool:=s.k==2||s.k==3
def b5(a:Int):Int:=if a<0\/34<a then -1 else if a<=3 then 0 else if a=4\/a=5\/a=21\/a=22\/a=23\/a=27\/a=28\/a=33\/a=34 then 1 else if a=19\/a=25\/a=30\/a=32 then 3 else 2
def mr(a:Int):Bool:=a==21||a==22||a==23||a==28
def mu(a:Int):Bool:=a==0||a==2||a==33
def fa(n:Nx):Bool:=(mr n.op||n.n==0)&&(n.op==21||n.m==0)&&(n.op==1||n.u==0)&&(mu n.op||ak (n.tx=ba []))
def dI(g:List Nx)(k:Int):Bool:=ak (0<=k)&&ak (k<(g.length:Int))
def gz(c:UInt8):Bool:=ak (97<=c.toNat)&&ak (c.toNat<=122)
def ea(c:UInt8):Bool:=gz c||(ak (48<=c.toNat)&&ak (c.toNat<=57))||c==45
def iS(l:List UInt8):Bool:=match l with
 |[]=>false
 |c::m=>ak (m.length<=15)&&gz c&&m.all ea
def ih:List Nx->ByteArray->Option aM
 |[],_=>none
 |d::g,t=>if d.op=0/\d.tx=t then some d.st else ih g t
def rE(g:List Nx)(n:Nx):Bool:=match ih g n.tx with
 |some s=>!decide (s=n.st)
 |none=>false
def mW(u n:Int):Bool:=ak (n<64)&&ak (2^n.toNat<=u)
def cb(g:List Nx)(n:Nx):aM×Int:=
 if n.op=2 then(if 64<n.tx.size then(aX,5)else(dt n.tx.size,0))else
 if n.op=0/\iS (bl n.tx)=false then(aX,6)else
 if br n.st=false then(aX,9)else
 if n.op=1/\n.st.k≠0\/n.op=3/\eg n.st=false then(aX,9)else
 if n.op=1/\mW n.u n.st.n=true then(aX,5)else
 if n.op=0/\rE g n=true then(aX,8)else(n.st,0)
def iN(s:aM):aM:=if s.k=2 then aO s.n else dt s.n
def eD(a:Int)(x y z:aM):Bool:=
 if a=4\/a=5\/a=21\/a=22\/a=23 then x.k==0 else
 if a=18 then ak (x=y)||(x.k==1&&y.k==1)else
 if a=19 then ak (x=aO 1)&&(ak (y=z)||(y.k==1&&z.k==1))else
 if a=20 then x.k==0&&y.k==0 else
 if a=24 then eg x&&ak (y=aO x.x)else
 if a=25 then eg x&&ak (y=aO x.x)&&(ak (z=iN x)||(x.k==3&&z.k==1&&ak (z.n<=x.n)))else
 if a=26 then eg x&&ak (x=y)else
 if a=27\/a=28\/a=33 then x.k==1 else
 if a=29\/a=31 then x.k==1&&y.k==1 else
 if a=30 then x.k==1&&ak (y=aO 7)&&ak (z=aO 7)else
 if a=32 then x.k==1&&y.k==1&&z.k==1 else
 if a=34 then ak (x=aO 8)else x.k==0&&ak (x=y)
def gZ(n:Nx)(x y z:aM):aM:=
 if n.op=16\/n.op=17\/n.op=18\/n.op=33 then aO 1 else
 if n.op=19 then(if y.k=1 then dt (if y.n<z.n then z.n else y.n)else y)else
 if n.op=20 then aO (x.n+y.n)else
 if n.op=21 then aO (n.n - n.m+1)else
 if n.op=22\/n.op=23 then aO (x.n+n.n)else
 if n.op=24 then iN x else
 if n.op=26 then aO x.x else
 if n.op=27\/n.op=31 then aO 7 else
 if n.op=28 then aO 8 else
 if n.op=29 then dt (x.n+y.n)else
 if n.op=32 then dt (x.n+z.n)else
 if n.op=34 then dt 1 else x
def iC(n:Nx)(x y z:aM):Bool:=
 if n.op=20\/n.op=29 then ak (x.n+y.n<=64)else
 if n.op=21 then ak (0<=n.m)&&ak (n.m<=n.n)&&ak (n.n<x.n)else
 if n.op=22\/n.op=23 then ak (1<=n.n)&&ak (n.n<=64 - x.n)else
 if n.op=28 then ak (0<=n.n)&&ak (n.n<=63)else
 if n.op=32 then ak (x.n+z.n<=64)else true
def bf(g:List Nx)(n:Nx)(i:Nat):aM:=match n.kids[i]? with
 |some e=>match g[e.toNat]? with
  |some d=>d.st
  |none=>aX
 |none=>aX
def mb(t:ByteArray):Bool:=jS (bl t)
def bA(g:List Nx)(n:Nx):aM×Int:=
 if(b5 n.op==(n.kids.length:Int)&&n.kids.all (dI g)&&fa n)=false then(aX,1)else
 if n.op<=3 then cb g n else
 if eD n.op (bf g n 0) (bf g n 1) (bf g n 2)=false then(aX,9)else
 if iC n (bf g n 0) (bf g n 1) (bf g n 2)=false then(aX,5)else
 if n.op=33/\mb n.tx=false then(aX,2)else(gZ n (bf g n 0) (bf g n 1) (bf g n 2),0)
def eo(n:Nx)(s:aM):Nx:={n with st:=s}
def fo(n:Nx):List Nx->Nat->Option Nat
 |[],_=>none
 |d::g,i=>if d=n then some i else fo n g (i+1)
def bb(g:List Nx)(n:Nx):List Nx×Int×Int:=
 if(bA g n).2≠0 then([],0,(bA g n).2)else
 match fo (eo n (bA g n).1) g 0 with
 |some i=>(g,i,0)
 |none=>if 4096<=g.length then([],0,4)else(g++[eo n (bA g n).1],g.length,0)
inductive Vg:List Nx->Prop
 |nil:Vg []
 |snoc {g:List Nx} {n:Nx}:Vg g->bA g n=(n.st,0)->n∉g->Vg (g++[n])
structure Nd where
 x:Nx
 ks:Sl
abbrev dg(s:aM):V:=.agg #[.i s.k,.i s.n,.i s.x]
namespace Nd
def c(d:Nd):List V:=[.i d.x.op,d.ks.v,.i d.x.n,.i d.x.m,.u d.x.u,.string d.x.tx,.i d.x.st.k,.i d.x.st.n,.i d.x.st.x]
abbrev v(d:Nd):V:=.agg #[.i d.x.op,d.ks.v,.i d.x.n,.i d.x.m,.u d.x.u,.string d.x.tx,.i d.x.st.k,.i d.x.st.n,.i d.x.st.x]
def qT(d:Nd):(c d).length=9:=rfl
def hB(l:List Nd):(l.flatMap c).length=l.length *9:=pV c 9 qT l
abbrev P(w:I)(d:Nd):Prop:=bF w d.ks d.x.kids
structure ik(w:I)(p:Addr)(i:Nat)(d:Nd):Prop where
 c0:w.cell? ((p.add (i *9)).add 0)=some (.i d.x.op)
 c1:w.cell? ((p.add (i *9)).add 1)=some d.ks.v
 c2:w.cell? ((p.add (i *9)).add 2)=some (.i d.x.n)
 c3:w.cell? ((p.add (i *9)).add 3)=some (.i d.x.m)
 c4:w.cell? ((p.add (i *9)).add 4)=some (.u d.x.u)
 c5:w.cell? ((p.add (i *9)).add 5)=some (.string d.x.tx)
 c6:w.cell? ((p.add (i *9)).add 6)=some (.i d.x.st.k)
 c7:w.cell? ((p.add (i *9)).add 7)=some (.i d.x.st.n)
 c8:w.cell? ((p.add (i *9)).add 8)=some (.i d.x.st.x)
def cz{w:I}{s:Sl}{l:List Nd}(d:bh 9 w s (l.flatMap c)):s.n=l.length:=by have:=d.1;rw[hB]at this;omega
def a6{w:I}{s:Sl}{l:List Nd}(h:bh 9 w s (l.flatMap c)){i:Nat}{d:Nd}(e:l[i]? =some d){K:Addr->Prop}(g:∀p,s.a=some p->ik w p i d->K p):dJ s.a K:=
 fN.elem (f:=c) (sz:=9) qT io h.2.2 e λp j b=>g p j ⟨b 0 _ rfl,b 1 _ rfl,b 2 _ rfl,b 3 _ rfl,b 4 _ rfl,b 5 _ rfl,b 6 _ rfl,b 7 _ rfl,b 8 _ rfl⟩
def again{w:I}{s:Sl}{l:List Nd}(x:bh 9 w s (l.flatMap c)){i:Nat}{d:Nd}(g:l[i]? =some d){p:Addr}(j:s.a=some p):ik w p i d:=by have h:=a6 x g (K:=λe=>∃k,s.a=some k/\ik w k i d) (λe b f=>⟨e,b,f⟩);rw[j]at h;obtain⟨e,b,q⟩:=h;cases b;exact q
end Nd
abbrev xs(l:List Nd):List Nx:=l.map Nd.x
def GP(w:I)(s:Sl)(l:List Nd):Prop:=bh 9 w s (l.flatMap Nd.c)/\∀d∈l,d.P w
abbrev bZ(d:Nd):En:=.rd d.ks (d.x.kids.map bC)
def _root_.Go.W.En.gr(s:Sl)(l:List Nd):En:=.all (.a3 9 s (l.flatMap Nd.c)::l.map bZ)
def a8{w:I}{s:Sl}{l:List Nd}:(En.gr s l).P w↔GP w s l:=by
 constructor
 .exact λd=>⟨d (.a3 9 s (l.flatMap Nd.c)) gs,λe a=>d (bZ e) (cP _ (dA.2 ⟨e,a,rfl⟩))⟩
 .intro d j h;rcases aF.1 h with rfl|h
  .exact d.1
  .obtain ⟨e,a,rfl⟩:=dA.1 h;exact d.2 e a
def q5{s:Sl}{l:List Nd}{b:Nat}:b∈(En.gr s l).fp↔b∈(En.a3 9 s (l.flatMap Nd.c)).fp\/∃e∈l,b∈(bZ e).fp:=by
 unfold En.gr En.all;rw[aW,ck];constructor
 .rintro ⟨k,j,d⟩;rcases aF.1 j with rfl|j
  .exact .inl d
  .obtain ⟨e,h,rfl⟩:=dA.1 j;exact .inr ⟨e,h,d⟩
 .rintro (d|⟨e,h,d⟩)
  .exact ⟨_,List.mem_cons_self ..,d⟩
  .exact ⟨_,cP _ (dA.2 ⟨e,h,rfl⟩),d⟩
def gx{w:I}{s:Sl}{l:List Nd}(d:GP w s l):s.n=l.length:=Nd.cz d.1
def eh{w:I}{s:Sl}{l:List Nd}(h:GP w s l){i:Nat}{d:Nd}{X:Int}(c:X=(i:Int))(b:l[i]? =some d){K:Addr->Prop}(e:∀p,s.a=some p->Nd.ik w p (a0 X) d->K p):oh s X K:=by have k:=gx h;have j:=(cL.1 b).1;subst c;exact⟨io,io,Nd.a6 h.1 b e⟩
def og{l:List Nd}{i:Nat}{d:Nd}(e:l[i]? =some d):(xs l)[i]? =some d.x:=by simp[xs,e]
namespace Nd
def ik.s0{w:I}{p:Addr}{i:Nat}{d:Nd}(e:ik w p i d):w.cell? (((p.add (i *9)).add 6).add 0)=some (.i d.x.st.k):=by rw[add_add];exact e.c6
def ik.s1{w:I}{p:Addr}{i:Nat}{d:Nd}(e:ik w p i d):w.cell? (((p.add (i *9)).add 6).add 1)=some (.i d.x.st.n):=by rw[add_add];exact e.c7
def ik.s2{w:I}{p:Addr}{i:Nat}{d:Nd}(e:ik w p i d):w.cell? (((p.add (i *9)).add 6).add 2)=some (.i d.x.st.x):=by rw[add_add];exact e.c8
end Nd
def xy{w:I}{s:Sl}{l:List Nd}(h:GP w s l){i:Nat}{d:Nd}(c:l[i]? =some d){p:Addr}(e:s.a=some p){X:Int}(b:X=(i:Int)):Nd.ik w p (a0 X) d:=by subst b;exact Nd.again h.1 c e
def g4(s:aM):List V:=[.i s.k,.i s.n,.i s.x]
def TG(l:List aM):(l.flatMap g4).length=l.length *3:=pV g4 3 (λ_=>rfl) l
structure CR(w:I)(p:Addr)(i:Nat)(s:aM):Prop where
 c0:w.cell? ((p.add (i *3)).add 0)=some (.i s.k)
 c1:w.cell? ((p.add (i *3)).add 1)=some (.i s.n)
 c2:w.cell? ((p.add (i *3)).add 2)=some (.i s.x)
def adP{w:I}{s:Sl}{l:List aM}(d:bh 3 w s (l.flatMap g4)):s.n=l.length:=by have:=d.1;rw[TG]at this;omega
def eG{w:I}{s:Sl}{l:List aM}(h:bh 3 w s (l.flatMap g4)){i:Nat}{x:aM}{X:Int}(d:X=(i:Int))(c:l[i]? =some x){K:Addr->Prop}(e:∀p,s.a=some p->CR w p (a0 X) x->K p):oh s X K:=by have k:=adP h;have j:=(cL.1 c).1;subst d;exact⟨io,io,fN.elem (f:=g4) (sz:=3) (λ_=>rfl) io h.2.2 c λp g b=>e p g ⟨b 0 _ rfl,b 1 _ rfl,b 2 _ rfl⟩⟩
def gH{w:I}{s:Sl}{l:List aM}(q:bh 3 w s (l.flatMap g4)){i:Nat}{x:aM}{X:Int}(c:X=(i:Int))(f:l[i]? =some x){p:Addr}(g:s.a=some p):CR w p (a0 X) x:=by have e:=(eG q c f (K:=λd=>∃h,s.a=some h/\CR w h (a0 X) x) (λd b j=>⟨d,b,j⟩)).2.2;rw[g]at e;obtain⟨d,b,k⟩:=e;cases b;exact k
def lZ(a b:aM):((a.k==b.k)&&((a.n==b.n)&&((a.x==b.x)&&true)))=ak (a=b):=by cases a;cases b;simp only[aM.mk.injEq,Bool.and_true,Bool.decide_and];rfl
def y1(a b:ByteArray):(a.toList==b.toList)=ak (a=b):=by
 rw[ByteArray.toList_eq,ByteArray.toList_eq];have d:(a.data.toList=b.data.toList)↔a=b:=⟨λd=>ByteArray.ext (Array.toList_inj.1 d),λd=>by rw[d]⟩;rw[<-decide_eq_decide.2 d];cases e:ak (a.data.toList=b.data.toList)with
 |true=>rw[e4 e];simp
 |false=>exact beq_eq_false_iff_ne.2 (l4 e)
section
variable {A B:Prop}
def BG{a b:ByteArray}(c:a=b->A)(d:a≠b->B):bD (a.toList==b.toList) A B:=by rw[y1];exact aT c d
def nk{a b:aM}(c:a=b->A)(d:a≠b->B):bD ((a.k==b.k)&&((a.n==b.n)&&((a.x==b.x)&&true))) A B:=by rw[lZ];exact aT c d
def vW{a b:aM}(c:a≠b->A)(d:a=b->B):bD (!((a.k==b.k)&&((a.n==b.n)&&((a.x==b.x)&&true)))) A B:=by rw[lZ];exact eU (λe=>c (l4 e)) (λe=>d (e4 e))
def Hp{s:aM}(a:br s=false->A)(b:br s=true->B):bD (gk s !=0) A B:=by
 unfold gk;cases d:br s with
 |true=>exact aQ rfl (b d)
 |false=>exact aR rfl (a d)
end
namespace KM
def ok:=aA (ay U Tryz.f169 [] []) NK [.I]
end KM
namespace KR
def ok:=aA (ay U Tryz.f168 [] []) NQ [.Y]
end KR
namespace xe
def L0:=bq (ay U Tryz.f229 [] []) [0,1,1,1,1] [(0,.Y),(3,.I)]
abbrev t1:=bp L0
def b':=bE t1 L0
def ok:=aA t1 NP [.Y]
end xe
namespace xd
abbrev S1:=ah (ay U Tryz.f209 [(4,ls [0,1,2,3,6,7,8,9,4,5,10,11,12,13,14])] []) [3] []
abbrev t1:=aj S1
abbrev S0:=ah t1 [2] [(0,.st),(1,.I)]
abbrev t2:=aj S0
def ok:=aA t2 NJ [.st,.I]
end xd
namespace uM
abbrev P0:Ps:=[(4,.l [.I,.Y,.Y,.s] aJ)]
abbrev bg:=ah (ay U Tryz.f172 [] [4]) [0,1,1,1,6] P0
abbrev t1:=aj bg
abbrev cG:=ah t1 [0,1,1,1,9] P0
abbrev t2:=aj cG
abbrev bH:=ah t2 [9] [(0,.st),(1,.I),(4,.l [.I,.Y,.Y,.s] aJ),(8,.Y),(11,.Y),(12,.I),(13,.I)]
abbrev t3:=aj bH
abbrev aV:=ah t3 [6] [(0,.st),(1,.I),(4,.l [.I,.Y,.Y,.s] aJ),(8,.Y),(9,.I),(10,.I)]
abbrev t4:=aj aV
def aq:=aA t4 NS [.st,.I]
end uM
namespace kP
def a1:=bq (ay U Tryz.f138 [(11,lr 13)] [5]) [0,1,1,1,2] [(0,.st),(3,.s),(4,.I)]
abbrev t1:=bp a1
abbrev P0:Ps:=[(0,.st),(3,.s),(4,.I),(5,.l [.I,.Y,.Y,.s] aJ),(6,.I)]
def cq:=bq t1 [0,1,1,1,1,1,2,1,1,2,1,1,2] P0
abbrev t2:=bp cq
abbrev bH:=ah t2 [3,1,1,2,1,1,2] P0
abbrev t3:=aj bH
def dF:=bE t3 cq
def bS:=bE t3 a1
def aq:=aA t3 NH [.st]
end kP
namespace KV
def ok:=aA (ay U Tryz.f211 [(3,lr 12)] []) NW [.r]
end KV
namespace KW
abbrev S0:=ah (ay U Tryz.f174 [] []) [3] []
abbrev t1:=aj S0
def ok:=aA t1 NX [.r,.st]
end KW
namespace KU
def ok:=aA (ay U Tryz.f140 [] []) NV [.r,.st]
end KU
namespace KO
def aq:=aA (ay U Tryz.f175 [] [4]) xT [.I,.s]
end KO
namespace KS
def ok:=aA (ay U Tryz.f231 [] []) NU [.r]
end KS
namespace xg
def a1:=bq (ay U Tryz.f139 [] [2]) [0,2,2] [(0,.r),(2,.l [.I,.Y,.Y,.s] aJ),(3,.s)]
abbrev t1:=bp a1
def bS:=bE t1 a1
def aq:=aA t1 Fy [.r]
end xg
namespace xf
def a1:=bq (ay U Tryz.f173 [] [2]) [0,2,2] [(0,.r),(2,.l [.I,.Y,.Y,.s] aJ),(3,.s)]
abbrev t1:=bp a1
def bS:=bE t1 a1
def aq:=aA t1 AM [.r]
end xf
namespace xi
def a1:=bq (ay U Tryz.f210 [] [2]) [0,2,2] [(0,.r),(2,.l [.I,.Y,.Y,.s] aJ),(3,.s)]
abbrev t1:=bp a1
def bS:=bE t1 a1
def aq:=aA t1 AO [.r]
end xi
namespace z0
def a1:=bq (ay U Tryz.f230 [] [2,4]) [0,2,4] [(0,.r),(2,.l [.I,.Y,.Y,.s] aJ),(4,.l [.I,.Y,.Y,.s] aJ)]
abbrev t1:=bp a1
def bS:=bE t1 a1
def aq:=aA t1 AN [.r]
end z0
namespace pS
abbrev P0:Ps:=[(0,.r),(2,.l [.I,.Y,.Y,.s] aJ),(3,.s),(4,.I)]
def cq:=bq (ay U Tryz.f246 [(1,lr 20),(3,lr 13),(8,ls [0,1,2,3,5,6,7,8,4,9,10])] [2,5,6]) [0,1,1,1,3] P0
abbrev t1:=bp cq
abbrev bH:=ah t1 [2,2,1,1,3] P0
abbrev t2:=aj bH
abbrev cG:=ah t2 [4,2,1,2,1,1,3] [(2,.l [.I,.Y,.Y,.s] aJ),(5,.l [.I,.Y,.Y,.s] aJ)]
abbrev t3:=aj cG
def dF:=bE t3 cq
abbrev aV:=ah t3 [2] [(0,.r),(2,.l [.I,.Y,.Y,.s] aJ)]
abbrev t4:=aj aV
def aq:=aA t4 Fw [.r]
end pS
namespace xh
abbrev S0:=ah (ay U Tryz.f256 [] []) [0,1,1,1,3] []
abbrev t1:=aj S0
def L1:=bq t1 [0,2,5] [(0,.r),(4,.s)]
abbrev t2:=bp L1
def iH:=bE t2 L1
def ok:=aA t2 Fz [.r]
end xh
namespace KJ
def aq:=aA (ay U Tryz.f117 [(7,lr 15)] [2,6]) ND [.st]
end KJ
namespace KF
def ok:=aA (ay U Tryz.f133 [] []) NA [.Y]
end KF
namespace D9
abbrev aV:=ah (ay U Tryz.f132 [] [1]) [0,1,1,1,2] []
abbrev t1:=aj aV
def aq:=aA t1 Fu [.a 4,.I,.Y,.Y,.s]
end D9
namespace KP
def ok:=aA (ay U Tryz.f134 [] []) NN [.Y]
end KP
namespace m0
abbrev aV:=ah (ay U Tryz.f111 [(11,ls [0,1,5,6,2,3,4,7,8,9,10])] [2]) [2,1,1,1,3] [(2,.l [.I,.Y,.Y,.s] aJ),(5,.st)]
abbrev t1:=aj aV
abbrev P0:Ps:=[(2,.l [.I,.Y,.Y,.s] aJ),(6,.st),(7,.I),(8,.st),(9,.I)]
def cq:=bq t1 [0,1,1,1,7] P0
abbrev t2:=bp cq
abbrev cG:=ah t2 [2,2,1,1,7] P0
abbrev t3:=aj cG
abbrev bH:=ah t3 [2,2,1,2,1,1,7] [(2,.l [.I,.Y,.Y,.s] aJ),(6,.st),(7,.I),(8,.st),(9,.I),(10,.st)]
abbrev t4:=aj bH
def dF:=bE t4 cq
def aq:=aA t4 q9 [.a 4,.I,.Y,.Y,.s,.I]
end m0
namespace Yt
noncomputable def C0:Code:=(Tryz.f75.body).getD .skip
noncomputable def C1:=C0.sn
noncomputable def C2:=C1.sn
noncomputable def C3:=C2.sn
noncomputable def C4:=C3.sn
noncomputable def C5:=C4.sn
noncomputable def C6:=C5.sn
noncomputable def C7:=C6.sn
noncomputable def C8:=C7.sn
abbrev Q0(R:aC):ly:=(bodyPost U Tryz.f75 R)
noncomputable def C9:=C8.sn
abbrev S0(o:Int)(b:Sl)(w:I)(R:aC):Prop:=
 (0:Int)<=(eI (aB .i64 (dV o 216)) 8)/\(eI (aB .i64 (dV o 216)) 8)<(b.n:Int)/\dJ b.a λc=>jM w (c.add (a0 (eI (aB .i64 (dV o 216)) 8) *4)) λd e f g=>zK xU #[.agg #[.i d,.int .u8 e,.int .u8 f,g.v]] w λh j l m k=>JV q9 #[.agg #[.i h,.int .u8 j,.int .u8 l,m.v],.i 0] k λp r=>R (ad (.string p)) r
def ub(E:Env)(w:I)(R:aC):Prop:=W.asInt .i64 (Env.get? E 3) λb=>W.asSlice (Env.get? E 9) λa=>S0 b a w R
end Yt
namespace KG
def aq:=aA (ay U Tryz.f83 [] [3,6]) NB [.st]
end KG
namespace KZ
def aq:=aA (ay U Tryz.f49 [] [2]) N0 [.I]
end KZ
namespace K4
def aq:=aA (ay U Tryz.f74 [] [2]) Ob [.I]
end K4
namespace K5
def ok:=aA (ay U Tryz.f114 [] []) Of [.s,.I]
end K5
namespace K2
abbrev P0:Ps:=[]
abbrev S0:=ah (ay U Tryz.f76 [] []) [0,1,1,1,1] P0
abbrev t1:=aj S0
abbrev S1:=ah t1 [0,1,1,1,1,1,3] P0
abbrev t2:=aj S1
abbrev S3:=ah t2 [0,1,3,1,1,1,3] P0
abbrev t3:=aj S3
abbrev S4:=ah t3 [4] P0
abbrev t4:=aj S4
abbrev S2:=ah t4 [2,1,1,1,3] [(11,.I)]
abbrev t5:=aj S2
def ok:=aA t5 N4 [.I]
end K2
namespace nU
abbrev S0:=ah (ay U Tryz.f115 [] []) [0,1,1,1,1] []
abbrev t1:=aj S0
abbrev P0:Ps:=[(0,.st),(3,.I)]
def L1:=bq t1 [0,1,1,1,2] P0
abbrev t2:=bp L1
abbrev S4:=ah t2 [2,2,1,1,2] P0
abbrev t3:=aj S4
abbrev S3:=ah t3 [2,2,1,2,1,1,2] [(0,.st),(3,.I),(4,.b),(5,.b)]
abbrev t4:=aj S3
abbrev S2:=ah t4 [1,2,1,2,1,1,2] [(0,.st),(3,.I),(4,.b)]
abbrev t5:=aj S2
def iH:=bE t5 L1
def ok:=aA t5 N7 [.st]
end nU
namespace KX
def ok:=aA (ay U Tryz.f137 [] []) xV [.I,.I,.I]
end KX
namespace sD
abbrev aV:=ah (ay U Tryz.f116 [] [1]) [3] [(3,.b)]
abbrev t1:=aj aV
def aq:=aA t1 NY [.a 3,.I,.I,.I]
end sD
namespace xm
def a1:=bq (ay U Tryz.f79 [(1,ls [0,1,3,4,5,2,6])] [3]) [0,1,1,1,2] [(0,.s),(3,.l [.I,.s,.I,.I,.U,.st,.I,.I,.I] bQ),(5,.I)]
abbrev t1:=bp a1
abbrev P0:Ps:=[]
abbrev bg:=ah t1 [0,1,1,2,1,2,1,1,2] P0
abbrev t2:=aj bg
abbrev bH:=ah t2 [0,1,1,1,5] P0
abbrev t3:=aj bH
abbrev cG:=ah t3 [6] P0
abbrev t4:=aj cG
def bS:=bE t4 a1
def aq:=aA t4 Od [.s,.a 9,.I,.s,.I,.I,.U,.st,.I,.I,.I]
end xm
namespace kQ
abbrev bH:=ah (ay U Tryz.f80 [(19,lr 31)] [3,4]) [0,1,1,1,7] [(4,.l [.I,.I,.I] cd)]
abbrev t1:=aj bH
abbrev P0:Ps:=[(0,.s),(3,.l [.I,.s,.I,.I,.U,.st,.I,.I,.I] bQ),(4,.l [.I,.I,.I] cd),(9,.I)]
def i2:=bq t1 [0,1,1,1,9] P0
abbrev t2:=bp i2
abbrev lC:=ah t2 [2,2,1,1,9] P0
abbrev t3:=aj lC
def mR:=bE t3 i2
abbrev P1:Ps:=[(0,.s),(3,.l [.I,.s,.I,.I,.U,.st,.I,.I,.I] bQ),(4,.l [.I,.I,.I] cd)]
abbrev fB:=ah t3 [9] P1
abbrev t4:=aj fB
abbrev cG:=ah t4 [8] P1
abbrev t5:=aj cG
abbrev bg:=ah t5 [7] [(0,.s),(3,.l [.I,.s,.I,.I,.U,.st,.I,.I,.I] bQ),(4,.l [.I,.I,.I] cd),(8,.b)]
abbrev t6:=aj bg
abbrev aV:=ah t6 [3] [(0,.s),(3,.l [.I,.s,.I,.I,.U,.st,.I,.I,.I] bQ),(4,.l [.I,.I,.I] cd),(6,.b)]
abbrev t7:=aj aV
def aq:=aA t7 Og [.s,.a 9,.I,.s,.I,.I,.U,.st,.I,.I,.I]
end kQ
namespace K0
def aq:=aA (ay U Tryz.f113 [] [1,2]) N2 [.a 3,.I,.I,.I]
end K0
namespace Ea
abbrev bg:=ah (ay U Tryz.f81 [(13,lr 16),(15,lr 27),(19,lr 11),(21,lr 11),(23,lr 28),(25,lr 9),(34,lr 16),(38,lr 4),(39,lr 9)] [5]) [0,1,1,1,1,1,5] [(6,.b)]
abbrev t1:=aj bg
abbrev cG:=ah t1 [0,1,1,2,11,1,1,1,5] []
abbrev t2:=aj cG
abbrev fB:=ah t2 [0,1,15,1,1,1,5] [(7,.b)]
abbrev t3:=aj fB
abbrev lC:=ah t3 [0,1,17,1,1,1,5] [(1,.s),(7,.b)]
abbrev t4:=aj lC
abbrev P0:Ps:=[(1,.s),(5,.l [.I,.I,.I] cd),(6,.b),(7,.b),(26,.I)]
abbrev nM:=ah t4 [18,1,1,1,5] P0
abbrev t5:=aj nM
abbrev rT:=ah t5 [16,1,1,1,5] P0
abbrev t6:=aj rT
abbrev bH:=ah t6 [2,1,1,1,5] [(1,.s),(5,.l [.I,.I,.I] cd),(6,.b),(7,.b),(8,.b),(26,.I)]
abbrev t7:=aj bH
abbrev aV:=ah t7 [5] [(0,.I),(1,.s),(5,.l [.I,.I,.I] cd),(6,.b),(7,.b),(8,.b)]
abbrev t8:=aj aV
def aq:=aA t8 Oe [.I,.s]
end Ea
namespace z2
abbrev P0:Ps:=[(4,.l [.I,.I,.I] cd)]
abbrev aV:=ah (ay U Tryz.f82 [(10,lr 12),(13,ls [0,1,2,3,4,5,6,8,9,10,11,12,13,14,15,7,16,17]),(15,ls [0,1,2,3,4,5,7,8,9,6,10,11,12,13,14,15,16,17,18,19,20,21,22,23,24,25]),(18,ls [0,1,2,3,4,6,7,8,5,9,10,11,12,13,14,15,16,17,18]),(27,ls [1,2,3,0,4,5,6,7,8,9,10]),(29,ls [0,1,2,3,4,5,6,8,9,10,11,12,13,14,15,7,16,17]),(31,ls [0,1,2,3,4,5,6,8,9,10,11,12,13,14,15,7,16,17])] [2,4,6]) [0,1,1,1,1,1,2] P0
abbrev t1:=aj aV
abbrev bH:=ah t1 [0,1,9,1,1,1,2] [(2,.l [.I,.s,.I,.I,.U,.st,.I,.I,.I] bQ),(4,.l [.I,.I,.I] cd),(6,.l [.I,.I,.I] cd)]
abbrev t2:=aj bH
abbrev fB:=ah t2 [0,1,15,1,1,1,2] P0
abbrev t3:=aj fB
abbrev P1:Ps:=[(1,.s),(2,.l [.I,.s,.I,.I,.U,.st,.I,.I,.I] bQ),(4,.l [.I,.I,.I] cd),(6,.l [.I,.I,.I] cd),(11,.I)]
abbrev rT:=ah t3 [16,1,1,1,2] P1
abbrev t4:=aj rT
abbrev cG:=ah t4 [10,1,1,1,2] P1
abbrev t5:=aj cG
abbrev bg:=ah t5 [2,1,1,1,2] P1
abbrev t6:=aj bg
def aq:=aA t6 Oi [.a 9,.I,.s,.I,.I,.U,.st,.I,.I,.I,.s]
end z2
namespace uN
def a1:=bq (ay U Tryz.f50 [] [3,4,10]) [0,1,1,1,5] [(0,.s),(3,.l [.I,.s,.I,.I,.U,.st,.I,.I,.I] bQ),(4,.l [.I,.I,.I] cd),(7,.s),(8,.I)]
abbrev t1:=bp a1
abbrev bg:=ah t1 [11] [(4,.l [.I,.I,.I] cd),(10,.l [.I,.I,.I] cd),(12,.b)]
abbrev t2:=aj bg
def bS:=bE t2 a1
def aq:=aA t2 Oa [.s,.a 9,.I,.s,.I,.I,.U,.st,.I,.I,.I]
end uN
namespace K3
def aq:=aA (ay U Tryz.f24 [] [2,3]) N9 [.a 9,.I,.s,.I,.I,.U,.st,.I,.I,.I,.a 9,.I,.s,.I,.I,.U,.st,.I,.I,.I]
end K3
namespace xk
def cq:=bq (ay U Tryz.f51 [(7,lr 7)] [3,5]) [0,1,1,1,3] [(0,.s),(3,.l [.I,.s,.I,.I,.U,.st,.I,.I,.I] bQ),(7,.I)]
abbrev t1:=bp cq
def dF:=bE t1 cq
abbrev aV:=ah t1 [3] [(0,.s),(3,.l [.I,.s,.I,.I,.U,.st,.I,.I,.I] bQ)]
abbrev t2:=aj aV
def aq:=aA t2 N3 [.s,.a 9,.I,.s,.I,.I,.U,.st,.I,.I,.I]
end xk
namespace KY
def aq:=aA (ay U Tryz.f28 [(10,(.sq [1,3,6,7] (.fork (.sq [0] (.fork (ls [2,4,5,8,9,10]) (ls [4,2,5,8,9,10]))) (ls [4,0,2,5,8,9,10]))))] [3,7]) NZ [.s,.a 9,.I,.s,.I,.I,.U,.st,.I,.I,.I]
end KY
namespace Eb
abbrev S1:=ah (ay U Tryz.f45 [] []) [4] [(3,.s)]
abbrev t1:=aj S1
abbrev S0:=ah t1 [3] [(0,.I),(3,.s)]
abbrev t2:=aj S0
def ok:=aA t2 Ol [.I]
end Eb
namespace sF
abbrev P0:Ps:=[(0,.s),(2,.I),(4,.l [.I,.I,.I] cd),(7,.s),(8,.I)]
def a1:=bq (ay U Tryz.f77 [(5,lr 7)] [4]) [0,1,1,1,2] P0
abbrev t1:=bp a1
abbrev bg:=ah t1 [2,2,1,1,2] P0
abbrev t2:=aj bg
def bS:=bE t2 a1
def aq:=aA t2 N5 [.s,.a 3,.I,.I,.I,.I]
end sF
namespace Ec
abbrev aV:=ah (ay U Tryz.f78 [] [10,11]) [0,1,11,1,1,1,2] [(4,.I),(10,.l [.I,.I,.I] cd)]
abbrev t1:=aj aV
abbrev bg:=ah t1 [3] [(10,.l [.I,.I,.I] cd),(11,.l [.I,.I,.I] cd)]
abbrev t2:=aj bg
def aq:=aA t2 Om [.s,.I,.I,.I,.I]
end Ec
namespace jJ
def i2:=bq (ay U Tryz.f46 [(38,lr 13)] [8,10,16]) [0,1,1,1,8] [(0,.s),(2,.I),(3,.I),(8,.l [.I,.s,.I,.I,.U,.st,.I,.I,.I] bQ),(10,.l [.I,.s,.I,.I,.U,.st,.I,.I,.I] bQ),(11,.I),(13,.I),(14,.I)]
abbrev t1:=bp i2
abbrev nM:=ah t1 [2,2,1,2,1,1,8] [(0,.s),(2,.I),(3,.I),(8,.l [.I,.s,.I,.I,.U,.st,.I,.I,.I] bQ),(10,.l [.I,.s,.I,.I,.U,.st,.I,.I,.I] bQ),(11,.I),(13,.I),(14,.I),(15,.I)]
abbrev t2:=aj nM
abbrev lC:=ah t2 [2,1,1,1,1,2,1,2,1,1,8] [(0,.s),(2,.I),(3,.I),(8,.l [.I,.s,.I,.I,.U,.st,.I,.I,.I] bQ),(10,.l [.I,.s,.I,.I,.U,.st,.I,.I,.I] bQ),(11,.I),(13,.I),(14,.I),(16,.l [.I,.I,.I] cd)]
abbrev t3:=aj lC
def mR:=bE t3 i2
abbrev fB:=ah t3 [8] [(0,.s),(2,.I),(3,.I),(8,.l [.I,.s,.I,.I,.U,.st,.I,.I,.I] bQ),(10,.l [.I,.s,.I,.I,.U,.st,.I,.I,.I] bQ),(11,.I),(13,.I)]
abbrev t4:=aj fB
abbrev cG:=ah t4 [7] [(0,.s),(1,.I),(2,.I),(3,.I),(8,.l [.I,.s,.I,.I,.U,.st,.I,.I,.I] bQ),(10,.l [.I,.s,.I,.I,.U,.st,.I,.I,.I] bQ),(11,.I),(13,.I)]
abbrev t5:=aj cG
abbrev P0:Ps:=[(0,.s),(1,.I),(2,.I),(3,.I),(8,.l [.I,.s,.I,.I,.U,.st,.I,.I,.I] bQ),(10,.l [.I,.s,.I,.I,.U,.st,.I,.I,.I] bQ),(11,.I)]
abbrev bH:=ah t5 [5] P0
abbrev t6:=aj bH
abbrev P1:Ps:=[(0,.s),(1,.I),(2,.I),(3,.I),(8,.l [.I,.s,.I,.I,.U,.st,.I,.I,.I] bQ),(10,.l [.I,.s,.I,.I,.U,.st,.I,.I,.I] bQ),(11,.I),(12,.I)]
abbrev bg:=ah t6 [2,1,1,1,1,1,4] P1
abbrev t7:=aj bg
abbrev aV:=ah t7 [1,1,1,1,1,1,4] P1
abbrev t8:=aj aV
abbrev rU:=ah t8 [0,1,9,1,1,1,4] P0
abbrev t9:=aj rU
abbrev VE:=ah t9 [10,1,1,1,4] [(0,.s),(1,.I),(2,.I),(3,.I),(8,.l [.I,.s,.I,.I,.U,.st,.I,.I,.I] bQ),(10,.l [.I,.s,.I,.I,.U,.st,.I,.I,.I] bQ),(11,.I),(32,.I)]
abbrev t10:=aj VE
def aq:=aA t10 Oh [.s,.I,.I,.I]
end jJ
namespace uO
abbrev P0:Ps:=[(0,.s),(1,.I),(5,.I),(6,.I)]
def L0:=bq (ay U Tryz.f48 [] []) [0,1,1,1,2] P0
abbrev t1:=bp L0
abbrev S1:=ah t1 [2,2,1,1,2] P0
abbrev t2:=aj S1
def b':=bE t2 L0
def ok:=aA t2 Oj [.s,.I]
end uO
namespace K6
def aq:=aA (ay U Tryz.f47 [] [3]) On [.I,.a 3,.I,.I,.I]
end K6
namespace oJ
abbrev P0:Ps:=[(0,.s),(1,.I),(2,.I),(7,.s),(8,.I)]
def a1:=bq (ay U Tryz.f26 [(5,(.sq [0,1,2,3,4,5,6,7,8,9,10,11,12,13,14] (.fork (ls [15,16,17]) (ls [16,15,17]))))] [9]) [0,1,1,1,2] P0
abbrev t1:=bp a1
abbrev bH:=ah t1 [2,2,1,1,2] P0
abbrev t2:=aj bH
abbrev bg:=ah t2 [1,2,1,2,1,1,2] [(0,.s),(1,.I),(2,.I),(7,.s),(8,.I),(9,.l [.I,.s,.I,.I,.U,.st,.I,.I,.I] bQ)]
abbrev t3:=aj bg
abbrev cG:=ah t3 [3] [(7,.s)]
abbrev t4:=aj cG
def bS:=bE t4 a1
def aq:=aA t4 N6 [.s,.I,.I]
end oJ
def fE(n:Int)(w:I):ai U N0 #[.i n] w λr d=>r=ad (dg (aO n))/\af w d:=
 KZ.aq ((bM [] gs).ax λb e a=>a.ae λf c=>⟨rfl,c.fr⟩)
def pF(n:Int)(w:I):ai U Ob #[.i n] w λr d=>r=ad (dg (dt n))/\af w d:=
 K4.aq ((bM [] gs).ax λb e a=>a.ae λf c=>⟨rfl,c.fr⟩)
def GS(s:aM)(w:I):ai U N2 #[dg s] w λr f=>r=ad (dg (iN s))/\af w f:=by
 refine K0.aq ((bM [] gs).ax λb q h=>h.ax λi e c=>aw (λj=>c.av (fE s.n e) ?_) (λj=>c.av (pF s.n e) ?_))
 .rintro _ k rfl d;exact⟨_,_,_,rfl,d.ae λg a=>⟨by unfold iN;grind,a.fr⟩⟩
 .rintro _ k rfl d;exact⟨_,_,_,rfl,d.ae λg a=>⟨by unfold iN;grind,a.fr⟩⟩
def vy{op:Int}(a:0<=op)(b:op<=34):op=0\/op=1\/op=2\/op=3\/op=4\/op=5\/op=6\/op=7\/op=8\/op=9\/op=10\/op=11\/op=12\/op=13\/op=14\/op=15\/op=16\/op=17\/op=18\/op=19\/op=20\/op=21\/op=22\/op=23\/op=24\/op=25\/op=26\/op=27\/op=28\/op=29\/op=30\/op=31\/op=32\/op=33\/op=34:=io
def Jl(a:Int)(w:I):ai U N4 #[.i a] w λr b=>r=ad (.i (b5 a))/\af w b:=by
 refine K2.ok ?_;by_cases d:a<0
 .exact aR (a5 d) ⟨by unfold b5;grind,Fr.refl _ _⟩
 refine aQ (a2 d) ?_;by_cases e:a>34
 .exact aR (a5 e) ⟨by unfold b5;grind,Fr.refl _ _⟩
 refine aQ (a2 e) ?_;rcases vy io (by omega:a<=34)with rfl|rfl|rfl|rfl|rfl|rfl|rfl|rfl|rfl|rfl|rfl|rfl|rfl|rfl|rfl|rfl|rfl|rfl|rfl|rfl|rfl|rfl|rfl|rfl|rfl|rfl|rfl|rfl|rfl|rfl|rfl|rfl|rfl|rfl|rfl<;>exact⟨rfl,Fr.refl _ _⟩
def LJ{s:ByteArray}{i:Nat}(d:i<s.size):s[i]? =some (gQ (bl s) i):=by
 have h:i<(bl s).length:=d;have e:gQ (bl s) i=(bl s)[i]:=by unfold gQ;grind
 rw[e,getElem?_pos s i d];rfl
def x'(c:UInt8)(m:List UInt8):iS (c::m)=(ak (m.length<=15)&&gz c&&m.all ea):=rfl
def Wz(s:ByteArray)(w:I):ai U N7 #[.string s] w λr a=>r=ad (.bool (iS (bl s)))/\af w a:=by
 have y:(bl s).length=s.size:=cR s;have no:iS (bl s)=false->(Ending.returned (.bool false)=ad (.bool (iS (bl s)))/\af w w):=λe=>⟨by rw[e],Fr.refl _ _⟩;cases k:bl s with
 |nil=>
  have j:s.size=0:=by grind
  exact nU.ok (aR (a5 io) ⟨rfl,Fr.refl _ _⟩)
 |cons c m=>
  have J:s.size=m.length+1:=by grind
  rw[k]at no;have B:gQ (bl s) 0=c:=by rw[k];rfl
  have j:s[a0 0]? =some c:=by rw[<-B];exact LJ io
  refine nU.ok (aQ (a2 io) (aT (λe=>no ?_) (λe=>⟨io,c,j,aT (λE=>no ?_) (λE=>⟨io,c,j,aT (λb=>no ?_) (λb=>?_)⟩)⟩)))
  .rw [x',a2 io];rfl
  .rw [x'];unfold gz;grind
  .rw [x'];unfold gz;grind
  have z:iS (c::m)=m.all ea:=by
   rw[x'];unfold gz
   grind
  have A:iS (c::m)=(bl s).all ea:=by
   rw[z,k,List.all_cons];unfold ea gz
   grind
  rw[A];have loop:∀(d i:Nat),i+d=s.size->(bl s).all ea=((bl s).drop i).all ea->nU.L1 s (i:Int) w λr a=>r=ad (.bool ((bl s).all ea))/\af w a:=by
   intro d;induction d with
   |zero=>
    intro i D h;rw[List.drop_of_length_le io]at h;exact nU.iH (aQ (a2 io) ⟨by grind,Fr.refl _ _⟩)
   |succ d L=>
    intro i D h;have C:=LJ (show i<s.size by omega);rw[List.drop_eq_getElem_cons (by omega:i<(bl s).length),List.all_cons,show(bl s)[i]'io=gQ (bl s) i by unfold gQ;grind]at h;generalize gQ (bl s) i=x at C h;have go:ea x=true->nU.S4 s (i:Int) w λr a=>r=ad (.bool ((bl s).all ea))/\af w a:=λe=>by
     show nU.L1 s (aB .i64 ((i:Int)+1)) w _;rw[bm _ io]
     grind
    have stop:ea x=false->(Ending.returned (.bool false)=ad (.bool ((bl s).all ea))/\af w w):=λe=>⟨by grind,Fr.refl _ _⟩;have G:gz x=false->∀o:Bool,o=((ak (48<=x.toNat)&&ak (x.toNat<=57))||x==45)->nU.S3 s (i:Int) false o w λr a=>r=ad (.bool ((bl s).all ea))/\af w a:=λf o F=>by
     refine aR rfl (eU (λe=>stop ?_) (λe=>go ?_))
     .unfold ea;grind
     .unfold ea;grind
    have H:(((x.toNat:Int)==45):Bool)=(x==45):=by
     by_cases e:x=45
     .subst e;rfl
     .rw [beq_eq_false_iff_ne.2 e,beq_eq_false_iff_ne];intro b;exact e (UInt8.toNat_inj.1 (by grind))
    have K:((i:Int)).toNat=i:=bR i;have q:∀l:Bool,l=gz x->nU.S2 s (i:Int) l w λr a=>r=ad (.bool ((bl s).all ea))/\af w a:=λl y=>by
     have fin:∀o:Bool,o=((ak (48<=x.toNat)&&ak (x.toNat<=57))||x==45)->nU.S3 s (i:Int) l o w λr a=>r=ad (.bool ((bl s).all ea))/\af w a:=λo F=>by
      cases f:gz x with
      |true=>rw[y,f];exact aQ rfl (go (by unfold ea;grind))
      |false=>grind
     refine⟨io,x,by grind,aT (λe=>⟨io,x,by grind,aT (λg=>fin true ?_) (λg=>⟨io,x,by grind,?_⟩)⟩) (λe=>⟨io,x,by grind,?_⟩)⟩
     .grind
     .grind
     grind
    refine nU.iH (aR (a5 io) ⟨io,x,by grind,aT (λe=>⟨io,x,by grind,q _ ?_⟩) (λe=>q _ ?_)⟩)
    .unfold gz
     grind
    .unfold gz
     grind
  exact loop s.size 0 io gs
def GW(n b a:Int)(w:I):ai U xV #[.int .i64 n,.int .i64 b,.int .i64 a] w λr c=>r=ad (.bool (ak (b<=n/\n<=a)))/\af w c:=by
 refine KX.ok (aT (λd=>⟨?_,Fr.refl _ _⟩) (λd=>⟨?_,Fr.refl _ _⟩))
 .grind
 grind
def acd(s:aM)(w:I):ai U NY #[dg s] w λr c=>r=ad (.int .i64 (gk s))/\af w c:=by
 refine sD.aq ((bM [] gs).ax λq g k=>?_);have fin:∀{a:I} {L:List En} (b:Bool),b=br s->O F0 w a L []->sD.aV b a λr c=>r=ad (.int .i64 (gk s))/\af w c:=by
  rintro a L b rfl y;refine eU (λj=>⟨?_,y.fr⟩) (λj=>⟨?_,y.fr⟩)
  .unfold gk;grind
  .unfold gk;grind
 have plain:∀d:Int,(br s=(ak (d<=s.n/\s.n<=64)&&(s.x==0)))->fF [q] U xV #[.int .i64 s.n,.int .i64 d,.int .i64 64] g λf a=>∃h:Bool,f=ad (.bool h)/\bD h (sD.aV (s.x==0) a λr c=>r=ad (.int .i64 (gk s))/\af w c) (sD.aV false a λr c=>r=ad (.int .i64 (gk s))/\af w c):=by
  intro d z;refine k.av (GW _ _ _ g) ?_;rintro _ a rfl e;refine⟨_,rfl,bn (λj=>fin _ ?_ e) (λj=>fin _ ?_ e)⟩
  .grind
  grind
 have array:∀d:Int,(br s=(ak (d<=s.n/\s.n<=64)&&ak (1<=s.x/\s.x<=16)))->fF [q] U xV #[.int .i64 s.n,.int .i64 d,.int .i64 64] g λf a=>∃h:Bool,f=ad (.bool h)/\bD h (fF [q] U xV #[.int .i64 s.x,.int .i64 1,.int .i64 16] a λf A=>∃i:Bool,f=ad (.bool i)/\sD.aV i A λr c=>r=ad (.int .i64 (gk s))/\af w c) (sD.aV false a λr c=>r=ad (.int .i64 (gk s))/\af w c):=by
  intro d z;refine k.av (GW _ _ _ g) ?_;rintro _ a rfl e;refine⟨_,rfl,bn (λj=>e.av (GW _ _ _ a) ?_) (λj=>fin _ ?_ e)⟩
  .grind
  grind
 refine aw (λp=>plain 1 ?_) (λp=>aw (λl=>plain 0 ?_) (λl=>aw (λm=>array 1 ?_) (λm=>aw (λo=>array 0 ?_) (λo=>fin _ ?_ k))))
 .unfold br;grind
 .unfold br;grind
 .unfold br;grind
 .unfold br;grind
 .unfold br;grind
section
variable {M:Nat->Prop} {w0 w:I} {L D:List En} {bs:List Nat}
def zH(w:I)(a:Nat)(e:List V)(d:aE)(b:Nat):¬(En.c a e d).P ({w with heap:=gq (b+1) (.map #[] 0)}):=by intro h;have h:({w with heap:=gq (b+1) (.map #[] 0)}:I).heap[a]? =some (.cells e.toArray d (0,0)):=h;simp[Array.getElem?_replicate]at h
def r7{d:Nat}{vs:List V}{ty:aE}{b:Nat}:b∈(En.c d vs ty).fp↔b=d:=by simp[En.c,En.ob]
def _root_.Go.W.O.Cb{d:Nat}{vs:List V}{ty:aE}(H:O M w0 w (.c d vs ty::L) D){w':I}(f:Fr (·=d) w w'){j:List V}(y:w'.heap[d]? =some (.cells j.toArray ty (0,0))):
  O M w0 w' (.c d j ty::L) D/\∀h:En,h.P w'->(∀b∈h.fp,w.heap.size<=b)->O M w0 w' (.c d j ty::L) (D++[h]):=by
 have e:O M w0 w' (.c d j ty::L) D:=H.zM 0 f y;refine⟨e,λh l m=>⟨e.fr,e.own,λk a=>?_,e.new,e.nd,λk a b x q i g=>?_⟩⟩
 .rcases aP.1 a with a|a
  .exact e.rd k a
  .simp at a;subst a;exact l
 .rcases aP.1 a with a|a
  .exact e.dj k a b x q i g
  .simp at a;subst a;have z:=m b x;have A:b<w.heap.size:=by
    rcases aF.1 i with rfl|i
    .have g:=r7.1 g;have:=(En.c d vs ty).lt w (H.get 0) d (r7.2 rfl);omega
    .exact q.lt w (H.own q (cP _ i)) b g
   omega
def _root_.Go.W.O.r'{e:Nat}{vs:List V}{ty:aE}(H:O M w0 w (.c e vs ty::L) D){P:Program}{g:b3}{args:Array V}{A:aC}{j:List V}{K:aC}(d:ai P g args w λr a=>(A r a/\a.heap[e]? =some (.cells j.toArray ty (0,0)))/\Fr (·=e) w a)(i:∀r a,A r a->O M w0 a (.c e j ty::L) D->(∀h:En,h.P a->(∀b∈h.fp,w.heap.size<=b)->O M w0 a (.c e j ty::L) (D++[h]))->K r a):ai P g args w K:=
 d.mono λr a ⟨⟨q,k⟩,f⟩=>i r a q (H.Cb f k).1 (H.Cb f k).2
def _root_.Go.W.O.i'{e:Nat}{vs:List V}{ty:aE}(H:O M w0 w (.c e vs ty::L) D){P:Program}{g:b3}{args:Array V}{A:aC}{j:List V}{K:aC}(k:ai P g args w λr a=>(A r a/\a.heap[e]? =some (.cells j.toArray ty (0,0)))/\Fr (·=e) w a)(l:∀r a,A r a->O M w0 a (.c e j ty::L) D->(∀h:En,h.P a->(∀b∈h.fp,w.heap.size<=b)->O M w0 a (.c e j ty::L) (D++[h]))->K r a)(d:∀b∈bs,En.g b∈(En.c e vs ty::L):=by simp):fF bs P g args w K:=
 ⟨(·=e),λb y m=>xw H (i:=0) rfl (zH w e vs ty) (d b y) (by rw[m];exact r7.2 rfl),k.mono λr a ⟨⟨x,q⟩,f⟩=>⟨f,l r a x (H.Cb f q).1 (H.Cb f q).2⟩⟩
end
end Go.Proofs.YtkbmpalepmakmabGreatDoor
end

import Derived.Test.YtkbmpalepmakmaaGreatDoorU
import Derived.Test.YtkbmpalepmakmaaGreatDoorN0
import Derived.Laws.StandIn
import Derived.Lib.Bytealg
import Derived.Test.YtkbmpalepmakmaaGreatDoorW
set_option linter.unusedVariables false
set_option maxRecDepth 100000
set_option maxHeartbeats 2000000
set_option linter.defProp false
noncomputable section
namespace Go.Proofs.YtkbmpalepmakmaaGreatDoor
open Go renaming World->I,Calls->ah,Value->V,TypeId->aD,Ending->cZ,FuncId->b5,LoopState->eN
open Go.IntKind renaming wrap->aE
open _root_.Int renaming toNat->aY,tdiv->fj,tmod->fA,toNat_natCast->cb
open Go.IntWalk renaming i64_in->bH
open Go.Builtin renaming append_->fL
open _root_.Nat renaming le_trans->bI,zero_le->dg
open _root_.UInt8 renaming ofNat->c9
open _root_.Option.some renaming inj->eU
open _root_.Array renaming replicate->gu
open Go.Proofs.Tryz renaming prog->U
open _root_.Decidable renaming decide->ak
open Go.Ending renaming returned->ab
open List renaming mem_append->aP,mem_cons->aF,not_mem_nil->aW,mem_of_getElem?->ay,getElem?_eq_getElem->a0,getElem?_eq_some_iff->cP,mem_append_left->cm,mem_append_right->db,mem_flatMap->b',mem_map->dn,flatMap_append->eg,flatMap_cons->dI,mem_iff_getElem?->iq,nodup_append->fh,mem_cons_of_mem->dJ,map_append->fv,getElem?_set_self->mC
open Go Go.W
namespace Sx
def ok:=aB (aA U Tryz.f219 [] []) Pj [.Y]
end Sx
namespace Sq
def ok:=aB (aA U Tryz.f237 [] []) Pf [.Y]
end Sq
namespace Bt
abbrev S1:=ai (aA U Tryz.f220 [(4,ls [0,1,2,3,5,6,7,8,4,9,10,11])] []) [3] []
abbrev t1:=aj S1
abbrev S0:=ai t1 [2] [(0,.st),(1,.I)]
abbrev t2:=aj S0
def ok:=aB t2 O7 [.st,.I]
end Bt
namespace vF
abbrev P0:Ps:=[(0,.st),(1,.I),(4,.l [.Y,.Y,.Y,.st,.I] o'),(7,.I)]
def cA:=bD (aA U Tryz.f193 [] [4]) [0,2,1,1,3,2,2] P0
abbrev t1:=bB cA
abbrev bL:=ai t1 [2,1,3,2,2] P0
abbrev t2:=aj bL
def dU:=bO t2 cA
abbrev gw:=ai t2 [3] [(1,.I),(4,.l [.Y,.Y,.Y,.st,.I] o')]
abbrev t3:=aj gw
abbrev pv:=ai t3 [5,1,5,2,2] [(0,.st),(1,.I),(4,.l [.Y,.Y,.Y,.st,.I] o'),(8,.Y),(10,.b),(11,.I),(12,.Y)]
abbrev t4:=aj pv
abbrev cM:=ai t4 [2,1,5,2,2] [(0,.st),(1,.I),(4,.l [.Y,.Y,.Y,.st,.I] o'),(8,.Y),(10,.b),(11,.I)]
abbrev t5:=aj cM
abbrev aV:=ai t5 [2] [(0,.st),(1,.I),(4,.l [.Y,.Y,.Y,.st,.I] o'),(6,.Y)]
abbrev t6:=aj aV
def aq:=aB t6 Gi [.st,.I]
end vF
namespace Bv
noncomputable def C0:Code:=(Tryz.f192.body).getD .skip
noncomputable def C1:=C0.fs
noncomputable def C2:=C1.sn
noncomputable def C3:=C2.fs
noncomputable def C4:=C3.fs
noncomputable def C5:=C0.sn
abbrev Q0(R:aC):ln:=(Exit.then (g2 U (cx 39) C5 (bodyPost U Tryz.f192 R)) (bodyPost U Tryz.f192 R))
abbrev Q1(R:aC):ln:=(Exit.inBlock 0 (Q0 R))
def L0(a:Nat)(c:Addr)(b:Int)(w:I)(R:aC):Prop:=LP U (cx 39) C4 (Q1 R) [(0,.func (.yield a) #[] #[]),(1,.pointer (some c)),(3,.i b)] w
def qE(E:Env)(w:I)(R:aC):Prop:=W.zw (Env.get? E 0) λa=>W.b7 (Env.get? E 1) λc=>W.asInt .i64 (Env.get? E 3) λb=>L0 a c b w R
def tW:IN U 39 qE C4 Q1:=by intro w q z e;obtain⟨A,h,h_1⟩:=W.Jd e;obtain⟨y,j,h_2⟩:=W.cr h_1;obtain⟨x,k,h_3⟩:=W.nS h_2;intro a d;exact h_3 a (d.cons h (d.cons j (d.cons k d.nil)))
noncomputable def C6:=C4.fs
noncomputable def C7:=C4.sn
noncomputable def C8:=C7.fs
noncomputable def C9:=C8.fs
noncomputable def kj:=C9.sn
noncomputable def ko:=kj.fs
noncomputable def l6:=C8.sn
noncomputable def nG:=l6.sn
noncomputable def pg:=nG.fs
noncomputable def qC:=nG.sn
noncomputable def mN:=C6.sn
noncomputable def ph:=mN.fs
noncomputable def nH:=ko.sn
noncomputable def pj:=kj.sn
noncomputable def ku:=pg.sn
noncomputable def nI:=ku.fs
noncomputable def rI:=ku.sn
noncomputable def qD:=mN.sn
def cH(d:Nat)(g:Addr)(f:Int)(w:I)(R:aC)(D:∃z:ByteArray,w.cell? g=some (.string z)/\
 bK (ak (f<(z.size:Int))) (∃B:ByteArray,w.cell? g=some (.string B)/\
 (0:Int)<=f/\∃y:UInt8,B[aY f]? =some y/\bK ((y.toNat:Int)==32) (L0 d g (aE .i64 (f+1)) w R) (∃k:ByteArray,w.cell? g=some (.string k)/\
 Xz Gi #[.string k,.i f] w λF l m o p G j=>dh j (.cells #[.int .u8 0,.int .u8 0,.int .u8 0,.s0,.i 0] o') λH=>
 T0 H (nb j) (.int .u8 F) (.int .u8 l) (.int .u8 m) (.string o) (.i p) λA=>MS A (nb j) λr s t u K=>pc U d #[.agg #[.int .u8 r,.int .u8 s,.int .u8 t,.string u,.i K]] A λ(C:Bool) h=>bK (!C) (R (ab (.tuple #[])) h) (∃q:Int,h.cell? ((nb j).add 0)=some (.int .u8 q)/\
 bK (q==63) (R (ab (.tuple #[])) h) (L0 d g (aE .i64 (f+G)) h R)))) (∃x:ByteArray,w.cell? g=some (.string x)/\
 pc U d #[.agg #[.int .u8 36,.int .u8 0,.int .u8 0,.s0,.i (x.size:Int)]] w λ(L:Bool) J=>R (ab (.tuple #[])) J)):L0 d g f w R:=
 LP.step (n:=(cx 39)) (c:=C4) (E:=[(0,.func (.yield d) #[] #[]),(1,.pointer (some g)),(3,.i f)]) (w:=w) (sq C4 (sr C6 (show(λ(E:Env) (w:I)=>eT U C6 (λE w=>iA (Env.val E (.tmp 9)) (eT U C9 (λE w=>iA (Env.val E (.tmp 13)) (eT U ko (λE w=>qE E w R) E w) (eT U l6 (λE w=>eT U pg (λE w=>iA (Env.val E (.tmp 30)) (lT U Tryz.f192 E w (λv=>R (ab v) w)) (By U qC (λE w=>qE E w R) E w)) E w) E w)) E w) (By U C5 (λE w=>lT U Tryz.f192 E w (λv=>R (ab v) w)) E w)) E w) [(0,.func (.yield d) #[] #[]),(1,.pointer (some g)),(3,.i f)] w from mp D) λ_ _ b=>(cn mN b (λb=>(sk ph λa e=>nx e (bk C7 1 (by kernel_rfl) (sq C8 (sr C9 b λ_ _ b=>(cn kj b (λb=>(sr ko b λ_ _ b=>(xt nH 1 (by kernel_rfl) λa e=>tW R _ _ b a e))) (λb=>(sk pj λa e=>nx e (sr l6 b λ_ _ b=>(sq nG (sr pg b λ_ _ b=>(cn ku b (λb=>(rt nI λa e=>yl e b)) (λb=>(sk rI λa e=>nx e (rg qC (by kernel_rfl) b λ_ _ a e b=>tW R _ _ b a e))))))))))))))) (λb=>(xt qD 0 (by kernel_rfl) λa e=>nx e (rg C5 (by kernel_rfl) b λ_ _ a e b=>yl e b))))))
def ok(a:Nat)(b:Addr)(w:I)(R:aC)(e:L0 a b 0 w R):ah U sN #[.func (.yield a) #[] #[],.pointer (some b)] w R:=
 wP (R:=R) (fn:=Tryz.f192) (c:=C0) (args:=[.func (.yield a) #[] #[],.pointer (some b)]) (by kernel_rfl) (by kernel_rfl) (by kernel_rfl) (sq C0 (sr C1 (show(λ(E:Env) (w:I)=>eT U C1 (λE w=>qE E w R) E w) (kL 0 [.func (.yield a) #[] #[],.pointer (some b)]) w from mp e) λ_ _ d=>(bk C2 0 (by kernel_rfl) (lp C3 (by kernel_rfl) (tW R _ _ d)))))
end Bv
namespace Sz
def ok:=aB (aA U Tryz.f175 [] []) Pl [.st]
end Sz
namespace So
def aq:=aB (aA U Tryz.f200 [] [4]) AS [.I,.s]
end So
namespace yi
def aX:=bD (aA U Tryz.f199 [(4,(.sq [0,1,2,3,4,5,6,7,8,10,11] (.fork (ls [9,12]) (ls [12,9]))))] [2]) [0,2,1] [(0,.r),(2,.l [.I,.Y,.Y,.s] aO)]
abbrev t1:=bB aX
def bR:=bO t1 aX
def aq:=aB t1 Pc [.r]
end yi
namespace Sm
abbrev S0:=ai (aA U Tryz.f197 [(1,(.sq [0,1,2,3,4,5,6,7,9] (.fork (.sq [8,10,11,12,14,15] (.fork (ls [13,16]) (ls [16,13]))) (.sq [10,8,11,12,14,15] (.fork (ls [13,16]) (ls [16,13]))))))] []) [2] [(0,.r)]
abbrev t1:=aj S0
def ok:=aB t1 Pd [.r]
end Sm
namespace Sj
abbrev S0:=ai (aA U Tryz.f198 [(1,(.sq [0,1,2,3,4,5,6,7,9] (.fork (.sq [8,10,11,12,14,15] (.fork (ls [13,16]) (ls [16,13]))) (.sq [10,8,11,12,14,15] (.fork (ls [13,16]) (ls [16,13]))))))] []) [2] [(0,.r)]
abbrev t1:=aj S0
def ok:=aB t1 Pb [.r]
end Sj
namespace Sk
def aq:=aB (aA U Tryz.f178 [] [2,3]) Gc [.r]
end Sk
namespace Hr
def ok:=aB (aA U Tryz.f177 [(1,lr 12)] []) AT [.r]
end Hr
namespace Sw
def ok:=aB (aA U Tryz.f194 [] []) Ph [.r,.I,.I]
end Sw
namespace Sr
def aq:=aB (aA U Tryz.f221 [(1,ls [0,2,1,3,4,5])] [3]) Ge [.r,.a 4,.I,.Y,.Y,.s]
end Sr
namespace Su
def ok:=aB (aA U Tryz.f195 [(2,lr 15)] []) Gf [.r,.s]
end Su
namespace Hq
abbrev aV:=ai (aA U Tryz.f196 [] [3]) [2,1,7,1,1,1,1] []
abbrev t1:=aj aV
def aq:=aB t1 Gh [.r,.a 5,.Y,.Y,.Y,.st,.I]
end Hq
namespace yk
abbrev aV:=ai (aA U Tryz.f176 [(25,(.sq [0,1,2,3,4,6] (.fork (.sq [5,7,8,9,11,12] (.fork (ls [10,13]) (ls [13,10]))) (.sq [7,5,8,9,11,12] (.fork (ls [10,13]) (ls [13,10])))))),(28,lr 19)] [3]) [4] []
abbrev t1:=aj aV
abbrev bg:=ai t1 [2,1,7,1,1,1,3] [(0,.r)]
abbrev t2:=aj bg
def aq:=aB t2 Gg [.r,.a 5,.Y,.Y,.Y,.st,.I]
end yk
namespace Hn
noncomputable def C0:Code:=(Tryz.f162.body).getD .skip
noncomputable def C1:=C0.sn
noncomputable def C2:=C1.sn
noncomputable def C3:=C2.sn
noncomputable def C4:=C3.fs
noncomputable def C5:=C4.sn
noncomputable def C6:=C5.fs
noncomputable def C7:=W.Code.Jg C6
noncomputable def C8:=W.Code.Jm C6
noncomputable def C9:=C8.fs
noncomputable def kj:=C9.sn
noncomputable def ko:=kj.fs
abbrev Q0(a:Nat)(b:Loop)(R:aC):Exit->Act->I->Prop:=(roundPost U a R)
abbrev Q1(b:Nat)(a:Loop)(R:aC):Exit->Act->I->Prop:=(Exit.inBlock 1 (Q0 b a R))
noncomputable def l6:=ko.fs
noncomputable def nG:=ko.sn
abbrev S3(f:Nat)(b:eN->Option Code->Obj)(g j k c:Addr)(w:I)(R:aC):Prop:=
 uE w λd=>∃a:Int,d.cell? (c.add 4)=some (.i a)/\
 oe d g (.i 0) (.int .u8 0) (.int .u8 0) (.slice none 0 0) λe=>e.cell? (c.add 4)=some (.i a)/\aL e j (.i a) λl=>
 aL l k (.i 2) λm=>
 hG m f (b .busy none) (b .done (some .ret)) λn=>R (ab (.bool false)) n
def wo(a:Nat)(b:eN->Option Code->Obj)(E:Env)(w:I)(R:aC):Prop:=W.b7 (Env.get? E 2) λc=>W.b7 (Env.get? E 3) λd=>W.b7 (Env.get? E 4) λe=>W.b7 (Env.get? E 6) λf=>S3 a b c d e f w R
def CM(d:Nat)(b:Loop)(R:aC)(E:Env)(w:I)(h:wo d (lo b) E w R):WP U ⟨32,[],some d⟩ ko (Q1 d b R) E w:=by obtain⟨B,k,h_1⟩:=W.cr h;obtain⟨C,q,h_2⟩:=W.cr h_1;obtain⟨D,z,h_3⟩:=W.cr h_2;obtain⟨F,A,j⟩:=W.cr h_3;exact λa e=>WP.at (n:=⟨32,[],some d⟩) (E:=[(2,.pointer (some B)),(3,.pointer (some C)),(4,.pointer (some D)),(6,.pointer (some F))]) (WP.seq (c:=ko) (x:=l6) (y:=nG) (by kernel_rfl)<|WP.draw (c:=l6) [0,1,2,3,4,5] (λE w=>hG w d ((lo b) .busy none) ((lo b) .done (some .ret)) λi=>R (ab (.bool false)) i) (by kernel_rfl) (mp j) λ_ _ a f g=>(WP.ret (c:=nG) (Q:=(Q1 d b R)) (by kernel_rfl) λa f=>(show roundPost U d R .ret a _ from SK (a:=a) (g).1 (g).2)) a f) (e.cons k (e.cons q (e.cons z (e.cons A e.nil))))
noncomputable def pg:=C9.fs
noncomputable def qC:=kj.sn
abbrev S2(g:Nat)(f:eN->Option Code->Obj)(n o p m k:Addr)(w:I)(R:aC):Prop:=
 MS w k λa b c d e=>J5 Gg #[.pointer (some m),.agg #[.int .u8 a,.int .u8 b,.int .u8 c,.string d,.i e]] w λh l=>bK (!h) (S3 g f n o p k l R) (hG l g (f .busy none) (f .ready none) λj=>R (ab (.bool true)) j)
def wm(a:Nat)(b:eN->Option Code->Obj)(E:Env)(w:I)(R:aC):Prop:=W.b7 (Env.get? E 2) λd=>W.b7 (Env.get? E 3) λe=>W.b7 (Env.get? E 4) λf=>W.b7 (Env.get? E 5) λc=>W.b7 (Env.get? E 6) λg=>S2 a b d e f c g w R
def CL(d:Nat)(b:Loop)(R:aC)(E:Env)(w:I)(h:wm d (lo b) E w R):WP U ⟨32,[],some d⟩ C9 (Q1 d b R) E w:=by obtain⟨F,q,h_1⟩:=W.cr h;obtain⟨G,z,h_2⟩:=W.cr h_1;obtain⟨H,A,h_3⟩:=W.cr h_2;obtain⟨D,B,j⟩:=W.cr h_3;obtain⟨J,C,k⟩:=W.cr j;exact λa f=>WP.at (n:=⟨32,[],some d⟩) (E:=[(2,.pointer (some F)),(3,.pointer (some G)),(4,.pointer (some H)),(5,.pointer (some D)),(6,.pointer (some J))]) (WP.seq (c:=C9) (x:=pg) (y:=kj) (by kernel_rfl)<|WP.mD (c:=pg) (λE w=>iA (Env.val E (.tmp 20)) (wo d (lo b) E w R) (hG w d ((lo b) .busy none) ((lo b) .ready none) λi=>R (ab (.bool true)) i)) (by kernel_rfl) (mp k) λ_ _ a g e=>(WP.iA (c:=kj) (x:=ko) (y:=qC) (o:=.tmp 20) (by kernel_rfl) (λe=>(CM d b R _ _ e)) (λe=>(WP.skip (c:=qC) (by kernel_rfl) λa g=>SJ (a:=a) (e).1 (e).2)) e) a g) (f.cons q (f.cons z (f.cons A (f.cons B (f.cons C f.nil)))))
abbrev Q2(b:Nat)(a:Loop)(R:aC):Exit->Act->I->Prop:=(wv U 32 b a C8 (roundPost U b R))
abbrev S1(g:Nat)(f:eN->Option Code->Obj)(k l m j:Addr)(a b c:Int)(d:ByteArray)(e:Int)(w:I)(R:aC):Prop:=
 dh w (.cells #[.int .u8 0,.int .u8 0,.int .u8 0,.s0,.i 0] o') λn=>
 T0 n (nb w) (.int .u8 a) (.int .u8 b) (.int .u8 c) (.string d) (.i e) λo=>hG o g (f .ready none) (f .busy none) λp=>S2 g f k l m j (nb w) p R
def CJ(r:Nat)(s:eN->Option Code->Obj)(E:Env)(w:I)(R:aC):Prop:=W.b7 (Env.get? E 2) λu=>W.b7 (Env.get? E 3) λv=>W.b7 (Env.get? E 4) λq=>W.b7 (Env.get? E 5) λt=>W.asAgg (Env.get? E 17) λa=>W.jq a λg b=>W.asInt .u8 (some g) λm=>W.jq b λi c=>W.asInt .u8 (some i) λn=>W.jq c λh d=>W.asInt .u8 (some h) λo=>W.jq d λj e=>W.qK (some j) λp=>W.jq e λl f=>W.asInt .i64 (some l) λk=>W.l9 f<|S1 r s u v q t m n o p k w R
def CK(d:Nat)(b:Loop)(R:aC)(E:Env)(w:I)(h:CJ d (lo b) E w R):WP U ⟨32,[],some d⟩ C7 (Q2 d b R) E w:=by obtain⟨t2,L,h_1⟩:=W.cr h;obtain⟨t3,M,h_2⟩:=W.cr h_1;obtain⟨t4,N,h_3⟩:=W.cr h_2;obtain⟨P,O,C⟩:=W.cr h_3;obtain⟨aa,K,D⟩:=W.zv C;obtain⟨ai,ac,rfl,F⟩:=W.lA D;obtain⟨Q,ex,G⟩:=W.nS F;obtain rfl:=eU ex;obtain⟨aj,ad,rfl,H⟩:=W.lA G;obtain⟨S,ex,J⟩:=W.nS H;obtain rfl:=eU ex;obtain⟨am,ae,rfl,j⟩:=W.lA J;obtain⟨T,ex,k⟩:=W.nS j;obtain rfl:=eU ex;obtain⟨an,af,rfl,q⟩:=W.lA k;obtain⟨Y,ex,y⟩:=W.uh q;obtain rfl:=eU ex;obtain⟨ao,ag,rfl,z⟩:=W.lA y;obtain⟨Z,ex,A⟩:=W.nS z;obtain rfl:=eU ex;obtain⟨rfl,B⟩:=W.qJ A;exact λa e=>WP.at (n:=⟨32,[],some d⟩) (E:=[(2,.pointer (some t2)),(3,.pointer (some t3)),(4,.pointer (some t4)),(5,.pointer (some P)),(17,.agg #[.int .u8 Q,.int .u8 S,.int .u8 T,.string Y,.i Z])]) (WP.mD (c:=C7) (λE w=>w.heap[d]? =some (lo b .ready none)/\((λw=>wm d (lo b) E w R) (w.putObj d (lo b .busy none)))) (by kernel_rfl) (mp B) λ_ _ a g f=>⟨(f).1,(WP.block (c:=C8) (x:=C9) (id:=1) (by kernel_rfl) (CL d b R _ _ (f).2)) a g⟩) (e.cons L (e.cons M (e.cons N (e.cons O (e.cons K e.nil)))))
abbrev rG(g:Nat)(i:eN->Option Code->Obj)(n:ByteArray)(k l m j f:Addr)(a b c:Int)(d:ByteArray)(e:Int)(w:I)(R:aC):Prop:=
 S1 g i k l m j a b c d e w R
def Dd(j:Nat)(b:Loop)(l:ByteArray)(m n o k a:Addr)(c d e:Int)(f:ByteArray)(g:Int)(w:I)(R:aC)(h:rG j (lo b) l m n o k a c d e f g w R):WP U ⟨32,[],some j⟩ C7 (wv U 32 j b C8 (roundPost U j R)) (qh [(0,.string l),(2,.pointer (some m)),(3,.pointer (some n)),(4,.pointer (some o)),(5,.pointer (some k)),(16,.func (.func sN) #[] #[.pointer (some a)])] [17] [.agg #[.int .u8 c,.int .u8 d,.int .u8 e,.string f,.i g]]) w:=
 (CK j b R _ _ (mp h))
noncomputable def mN:=C3.sn
noncomputable def ph:=mN.sn
noncomputable def nH:=ph.fs
noncomputable def pj:=nH.sn
noncomputable def ku:=pj.fs
noncomputable def nI:=ph.sn
abbrev Q3(R:aC):ln:=(Exit.then (g2 U (cx 32) nI (bodyPostM Fence.wide 0 U Tryz.f162 R)) (bodyPostM Fence.wide 0 U Tryz.f162 R))
noncomputable def rI:=ku.fs
noncomputable def qD:=ku.sn
abbrev S6(m:Nat)(n:ByteArray)(j k l:Addr)(w:I)(R:aC):Prop:=
 oe w j (.i 0) (.int .u8 0) (.int .u8 0) (.slice none 0 0) λo=>aL o k (.i (n.size:Int)) λp=>
 aL p l (.i 4) λh=>
 hG h m (.deferred (some [])) (.deferred none) λa=>jA a j λb c d e=>∃f:Int,a.cell? k=some (.i f)/\
 ∃g:Int,a.cell? l=some (.i g)/\
 R (ab (.tuple #[.agg #[.i b,.int .u8 c,.int .u8 d,e.v],.i f,.i g])) a
def y6(a:Nat)(E:Env)(w:I)(R:aC):Prop:=W.qK (Env.get? E 0) λb=>W.b7 (Env.get? E 2) λc=>W.b7 (Env.get? E 3) λd=>W.b7 (Env.get? E 4) λe=>S6 a b c d e w R
def CP(d:Nat)(R:aC)(E:Env)(w:I)(h:y6 d E w R):WP U (marked 32 d) ku (Q3 R) E w:=by obtain⟨B,k,h_1⟩:=W.uh h;obtain⟨C,q,h_2⟩:=W.cr h_1;obtain⟨D,z,h_3⟩:=W.cr h_2;obtain⟨F,A,j⟩:=W.cr h_3;exact λa b=>WP.at (n:=(marked 32 d)) (E:=[(0,.string B),(2,.pointer (some C)),(3,.pointer (some D)),(4,.pointer (some F))]) (WP.seq (c:=ku) (x:=rI) (y:=qD) (by kernel_rfl)<|WP.mD (c:=rI) (λE w=>Bx U Tryz.f162 E w d R) (by kernel_rfl) (mp j) λ_ _ a e f=>(WP.ret (c:=qD) (by kernel_rfl) λa e=>ym e f) a e) (b.cons k (b.cons q (b.cons z (b.cons A b.nil))))
abbrev Q4(R:aC):ln:=(bodyPostM Fence.wide 0 U Tryz.f162 R)
noncomputable def tR:=nI.fs
noncomputable def tS:=nI.sn
abbrev S7(q:Nat)(n o p u:Addr)(w:I)(R:aC):Prop:=
 jA w u λa b c e=>oe w n (.i a) (.int .u8 b) (.int .u8 c) (e.v) λr=>aL r o (.i 0) λs=>
 aL s p (.i 0) λt=>
 hG t q (.deferred (some [])) (.deferred none) λd=>jA d n λf g h j=>∃l:Int,d.cell? o=some (.i l)/\
 ∃m:Int,d.cell? p=some (.i m)/\
 R (ab (.tuple #[.agg #[.i f,.int .u8 g,.int .u8 h,j.v],.i l,.i m])) d
def II(a:Nat)(E:Env)(w:I)(R:aC):Prop:=W.b7 (Env.get? E 2) λb=>W.b7 (Env.get? E 3) λc=>W.b7 (Env.get? E 4) λd=>W.b7 (Env.get? E 7) λe=>S7 a b c d e w R
def Vw(d:Nat)(R:aC)(E:Env)(w:I)(h:II d E w R):WP U (marked 32 d) nI (Q4 R) E w:=by obtain⟨B,k,h_1⟩:=W.cr h;obtain⟨C,q,h_2⟩:=W.cr h_1;obtain⟨D,z,h_3⟩:=W.cr h_2;obtain⟨F,A,j⟩:=W.cr h_3;exact λa b=>WP.at (n:=(marked 32 d)) (E:=[(2,.pointer (some B)),(3,.pointer (some C)),(4,.pointer (some D)),(7,.pointer (some F))]) (WP.seq (c:=nI) (x:=tR) (y:=tS) (by kernel_rfl)<|WP.mD (c:=tR) (λE w=>Bx U Tryz.f162 E w d R) (by kernel_rfl) (mp j) λ_ _ a e f=>(WP.ret (c:=tS) (by kernel_rfl) λa e=>ym e f) a e) (b.cons k (b.cons q (b.cons z (b.cons A b.nil))))
noncomputable def y0:=nH.fs
noncomputable def y1:=pj.sn
abbrev S5(e:Nat)(n:ByteArray)(f j k m:Addr)(w:I)(R:aC):Prop:=
 jA w m λa b c d=>J5 Gj #[.agg #[.i a,.int .u8 b,.int .u8 c,d.v]] w λg l=>bK g (S6 e n f j k l R) (S7 e f j k m l R)
def wq(a:Nat)(E:Env)(w:I)(R:aC):Prop:=W.qK (Env.get? E 0) λb=>W.b7 (Env.get? E 2) λc=>W.b7 (Env.get? E 3) λd=>W.b7 (Env.get? E 4) λe=>W.b7 (Env.get? E 7) λf=>S5 a b c d e f w R
def CO(b:Nat)(R:aC)(E:Env)(w:I)(h:wq b E w R):WP U (marked 32 b) nH (Q3 R) E w:=by obtain⟨D,q,h_1⟩:=W.uh h;obtain⟨F,z,h_2⟩:=W.cr h_1;obtain⟨G,A,h_3⟩:=W.cr h_2;obtain⟨H,B,j⟩:=W.cr h_3;obtain⟨J,C,k⟩:=W.cr j;exact λa d=>WP.at (n:=(marked 32 b)) (E:=[(0,.string D),(2,.pointer (some F)),(3,.pointer (some G)),(4,.pointer (some H)),(7,.pointer (some J))]) (WP.seq (c:=nH) (x:=y0) (y:=pj) (by kernel_rfl)<|WP.mD (c:=y0) (λE w=>iA (Env.val E (.tmp 27)) (y6 b E w R) (II b E w R)) (by kernel_rfl) (mp k) λ_ _ a f e=>(WP.iA (c:=pj) (x:=ku) (y:=y1) (o:=.tmp 27) (by kernel_rfl) (λe=>(CP b R _ _ e)) (λe=>(WP.skip (c:=y1) (by kernel_rfl) λa f=>(Vw b R _ _ e) a f)) e) a f) (d.cons q (d.cons z (d.cons A (d.cons B (d.cons C d.nil)))))
noncomputable def ID:=mN.fs
abbrev S4(g:Nat)(k:ByteArray)(l m n j:Addr)(w:I)(R:aC):Prop:=
 XA AT #[.pointer (some j)] w λf o=>zJ Gc #[.pointer f] o λa b c e d=>dh d (.cells #[.i 0,.int .u8 0,.int .u8 0,.slice none 0 0] aO) λp=>
 oe p (nb d) (.i a) (.int .u8 b) (.int .u8 c) (e.v) λh=>S5 g k l m n (nb d) h R
def y5(a:Nat)(E:Env)(w:I)(R:aC):Prop:=W.qK (Env.get? E 0) λc=>W.b7 (Env.get? E 2) λd=>W.b7 (Env.get? E 3) λe=>W.b7 (Env.get? E 4) λf=>W.b7 (Env.get? E 5) λb=>S4 a c d e f b w R
def CN(d:Nat)(R:aC)(E:Env)(w:I)(h:y5 d E w R):WP U (marked 32 d) mN (Q4 R) E w:=by obtain⟨F,q,h_1⟩:=W.uh h;obtain⟨G,z,h_2⟩:=W.cr h_1;obtain⟨H,A,h_3⟩:=W.cr h_2;obtain⟨J,B,j⟩:=W.cr h_3;obtain⟨D,C,k⟩:=W.cr j;exact λa b=>WP.at (n:=(marked 32 d)) (E:=[(0,.string F),(2,.pointer (some G)),(3,.pointer (some H)),(4,.pointer (some J)),(5,.pointer (some D))]) (WP.seq (c:=mN) (x:=ID) (y:=ph) (by kernel_rfl)<|WP.mD (c:=ID) (λE w=>wq d E w R) (by kernel_rfl) (mp k) λ_ _ a e f=>(WP.seq (c:=ph) (x:=nH) (y:=nI) (by kernel_rfl) (CO d R _ _ f)) a e) (b.cons q (b.cons z (b.cons A (b.cons B (b.cons C b.nil)))))
abbrev S0(x:ByteArray)(q r s k a:Addr)(w:I)(R:aC):Prop:=
 ∀g:eN->Option Code->Obj,(∀(b c d:Int) (e:ByteArray) (f:Int) (t:I) (u:Bool->I->Prop),t.heap[w.heap.size+1]? =some (g .ready none)->rG (w.heap.size+1) g x q r s k a b c d e f t (λp C=>∃y:Bool,p=ab (.bool y)/\u y C)->pc U (w.heap.size+1) #[.agg #[.int .u8 b,.int .u8 c,.int .u8 d,.string e,.i f]] t u)->
 ah U sN #[.func (.yield (w.heap.size+1)) #[] #[],.pointer (some a)] ((w.alloc (.deferred (some []))).alloc (g .ready none)) λp D=>(∃B,p=ab B)/\rM D (w.heap.size+1) g (λh=>S4 w.heap.size x q r s k h R) (λE h=>False) (λh=>hG h w.heap.size (.deferred (some [])) (.deferred none) λj=>jA j q λl m n o=>∃z:Int,j.cell? r=some (.i z)/\
 ∃A:Int,j.cell? s=some (.i A)/\
 R (ab (.tuple #[.agg #[.i l,.int .u8 m,.int .u8 n,o.v],.i z,.i A])) j)
abbrev Q5(R:aC):ln:=(Exit.then (g2 U (cx 32) mN (bodyPostM Fence.wide 0 U Tryz.f162 R)) (bodyPostM Fence.wide 0 U Tryz.f162 R))
abbrev Q6(R:aC):ln:=(Exit.inBlock 0 (Q5 R))
def tX(E:Env)(w:I)(R:aC):Prop:=W.qK (Env.get? E 0) λg=>W.b7 (Env.get? E 2) λi=>W.b7 (Env.get? E 3) λh=>W.b7 (Env.get? E 4) λj=>W.b7 (Env.get? E 5) λf=>W.ug sN (Env.get? E 16) λc a=>W.l9 c<|W.jq a λd b=>W.b7 (some d) λe=>W.l9 b<|S0 g i h j f e w R
def CI:IJ U 32 tX C6 Q6:=by
 intro k ai z q;obtain⟨x,Q,h_1⟩:=W.uh q;obtain⟨e,T,h_2⟩:=W.cr h_1;obtain⟨h,Y,h_3⟩:=W.cr h_2;obtain⟨j,Z,K⟩:=W.cr h_3;obtain⟨w,ac,L⟩:=W.cr K;obtain⟨an,aj,S,M⟩:=W.Jc L;obtain⟨rfl,N⟩:=W.qJ M;obtain⟨ao,am,rfl,O⟩:=W.lA N;obtain⟨y,ex,P⟩:=W.cr O;obtain rfl:=eU ex;obtain⟨rfl,J⟩:=W.qJ P;exact λa b=>WP.at (n:=(cx 32)) (E:=[(0,.string x),(2,.pointer (some e)),(3,.pointer (some h)),(4,.pointer (some j)),(5,.pointer (some w)),(16,.func (.func sN) #[] #[.pointer (some y)])]) (WP.range (m:=32) (c:=C6) (g:=.tmp 16) (ps:=#[17]) (assign:=C7) (body:=C8) (gf:=sN) (lb:=#[.pointer (some y)]) (λl=>S4 z.heap.size x e h j w l k) (λae l=>False) (λl=>hG l z.heap.size (.deferred (some [])) (.deferred none) λd=>jA d e λs t u ad=>∃F:Int,d.cell? h=some (.i F)/\
 ∃G:Int,d.cell? j=some (.i G)/\
 k (ab (.tuple #[.agg #[.i s,.int .u8 t,.int .u8 u,ad.v],.i F,.i G])) d) (by kernel_rfl) rfl (by kernel_rfl)
  (λl o a r=>(CN z.heap.size k _ _ (mp o)) a r)
  (λ_ _ o=>o.elim)
  (λl o a r=>ym r (mp o))
  (λp H=>J (lo p) (λA B f C D w_ K_ ag af=>Vk (args:=[.agg #[.int .u8 A,.int .u8 B,.int .u8 f,.string C,.i D]]) H ag rfl (by kernel_rfl) (λ_ _ q=>q) (Dd _ p x e h j w y A B f C D w_ _ af)))) (b.cons Q (b.cons T (b.cons Y (b.cons Z (b.cons ac (b.cons S b.nil))))))
noncomputable def CD:=C1.fs
noncomputable def CE:=CD.sn
noncomputable def CF:=CE.fs
noncomputable def Vo:=CF.sn
noncomputable def Vp:=CE.sn
def ok(j:ByteArray)(w:I)(R:aC)(z:dh w (.cells #[.i 0,.int .u8 0,.int .u8 0,.slice none 0 0] aO) λm=>
 dh m (.cells #[.i 0] bF) λn=>
 dh n (.cells #[.i 0] hn) λu=>
 bK (ak ((j.size:Int)>4096)) (oe u (nb w) (.i 0) (.int .u8 0) (.int .u8 0) (.slice none 0 0) λC=>aL C (nb m) (.i 4096) λD=>
 aL D (nb n) (.i 4) λo=>
 jA o (nb w) λB r s t=>∃d:Int,o.cell? (nb m)=some (.i d)/\
 ∃e:Int,o.cell? (nb n)=some (.i e)/\
 R (ab (.tuple #[.agg #[.i B,.int .u8 r,.int .u8 s,t.v],.i d,.i e])) o) (dh u (.cells #[.i (-1),.slice none 0 0,.slice none 0 0,.slice none 0 0,.slice none 0 0,.i 0,.i 0,.int .u8 0,.int .u8 0,.slice none 0 0] iL) λl=>
 dh l (.cells #[.slice none 0 0,.i 0,.i 0] yS) λh=>
 BU h (nb l) (.slice (some (nb u)) 1 1) (.i 0) (.i 0) λk=>DS Pl #[.string j] k λF q=>W.ug sN (some F) λf x=>W.l9 f<|W.jq x λg y=>W.b7 (some g) λA=>W.l9 y<|S0 j (nb w) (nb m) (nb n) (nb l) A q R)):ah U O3 #[.string j] w R:=
 Kb (R:=R) (fn:=Tryz.f162) (c:=C0) (args:=[.string j]) (by kernel_rfl) (by kernel_rfl) (by kernel_rfl) (sr C0 (show(λ(E:Env) (w:I)=>eT U C0 (λE w=>eT U CD (λE w=>iA (Env.val E (.tmp 10)) (eT U CF (λE w=>lT U Tryz.f162 E w (λv=>R (ab v) w)) E w) (eT U C2 (λE w=>eT U C4 (λE w=>tX E w R) E w) E w)) E w) E w) (kL 0 [.string j]) w from mp z) λ_ _ b=>(sq C1 (sr CD b λ_ _ b=>(cn CE b (λb=>(sr CF b λ_ _ b=>(rt Vo λa p=>SG p b))) (λb=>(sk Vp λa p=>nx p (sr C2 b λ_ _ b=>(sq C3 (sr C4 b λ_ _ b=>(bk C5 0 (by kernel_rfl) (CI R _ _ b)))))))))))
end Hn
abbrev ee:=Sl×List V
def _root_.Go.W.En.rows(e:List ee):En:=⟨mz (e.flatMap λp:ee=>aG p.1),λh=>(∀p∈e,aJ h aO 4 p.1 p.2)/\(e.flatMap λp:ee=>aG p.1).Nodup,
 λh g j d=>⟨λp c=>(d.1 p c).cv λb a f=>j b (aU.2 (b'.2 ⟨p,c,a⟩)) f,d.2⟩,
 λh d b a=>by obtain⟨p,c,a⟩:=b'.1 (aU.1 a);exact(d.1 p c).lt b a,rf _⟩
def SY(c:List ee)(d:c≠[])(w:I)(b:Nat)(a:b∈(En.rows c).fp):¬(En.rows c).P ({w with heap:=gu (b+1) (.map #[] 0)}):=by
 rintro⟨e,_⟩;obtain⟨p,h,a⟩:=b'.1 (aU.1 a);obtain⟨j,f,k⟩:=(e p h).row.tF b a
 grind
section
variable {M:Nat->Prop} {w0 w:I} {L D:List En} {bs:List Nat}
def L8(H:O M w0 w L D){i:Nat}{d:List ee}(a:L[i]? =some (.rows d)){b:Nat}(c:En.g b∈L):b∉(En.rows d).fp:=by
 intro h;obtain⟨x,e⟩:=iq.1 c;by_cases j:i=x
 .subst j;rw[a]at e;have k:En.rows d=En.g b:=eU e;have q:d≠[]:=by rintro rfl;simp[En.rows,mz]at h
  refine SY d q w b h ?_;rw[k];show b<_;simp
 .exact jX H.nd a e j b h (by simp[En.g])
def YF{e:List ee}{j:Nat}{s h:Sl}{vs q:List V}(a:e[j]? =some (s,vs))(b:(e.flatMap λp:ee=>aG p.1).Nodup)(c:(aG h).Nodup)(d:∀k∈aG h,k∈aG s\/k∉e.flatMap λp:ee=>aG p.1):((e.set j (h,q)).flatMap λp:ee=>aG p.1).Nodup:=
 Gu (f:=λp:ee=>aG p.1) a b c d
def Wu(s:Sl):(aG s).Nodup:=by unfold aG;grind
def AF{α:Type}{l:List α}{j:Nat}{a x:α}(d:x∈l.set j a):x=a\/∃i,i≠j/\l[i]? =some x:=by
 obtain⟨i,e⟩:=iq.1 d
 grind
def SU{d:List ee}(c:(d.flatMap λp:ee=>aG p.1).Nodup):∀{i j:Nat} {p q:ee},d[i]? =some p->d[j]? =some q->i≠j->∀b∈aG p.1,b∉aG q.1:=by
 induction d with
 |nil=>grind
 |cons a l e=>
  rw[dI,fh]at c
  grind
def HB(H:O M w0 w L D){w':I}(i j:Nat){e:List ee}{s x:Sl}{vs z:List V}(m:L[i]? =some (.rows e))(d:e[j]? =some (s,vs))(f:Fr (λb=>b∈aG s) w w')(o:aJ w' aO 4 x z)(c:∀b∈aG x,b∈aG s\/w.heap.size<=b):
  O M w0 w' (L.set i (.rows (e.set j (x,z)))) D:=by
 have h:(En.rows e).P w:=H.get i m;have C:∀b∈aG s,b∈(En.rows e).fp:=λb c=>aU.2 (b'.2 ⟨_,ay d,c⟩);have G:∀b∈e.flatMap (λp:ee=>aG p.1),b<w.heap.size:=λb c=>(En.rows e).lt w h b (aU.2 c);refine H.fy i _ m (f.mono λy _ q=>C y q) ⟨λp a=>?_,YF d h.2 (Wu _) λy q=>(c y q).imp id λF a=>by grind⟩ λb a=>?_
 .rcases AF a with rfl|⟨E,B,k⟩
  .exact o
  .exact (h.1 p (ay k)).cv λb g n=>f.cv b n λl=>SU h.2 k d B b g l
 .obtain ⟨p,a,A⟩:=b'.1 (aU.1 a);rcases AF a with rfl|⟨E,_,k⟩
  .grind
  .exact .inl (aU.2 (b'.2 ⟨p,ay k,A⟩))
def _root_.Go.W.O.zq(H:O M w0 w L D)(i j:Nat){ty:aD}{x:List ee}{s src:Sl}{vs news:List V}{K:Sl->I->Prop}(e:L[i]? =some (.rows x))(f:x[j]? =some (s,vs))(k:bA 4 w src news)(l:∀u∈news,u.oneCell'=true)(o:(s.n+src.n) *40<=140737488355328)(m:∀h q,O M w0 q (L.set i (.rows (x.set j (h,vs++news)))) D->h.n=s.n+src.n->(h.a=none->s.a=none/\src.n=0)->K h q)(d:∀b∈bs,En.g b∈L:=by simp):
  ∃h q,(fL #[jh,jh] ty #[s.v,src.v]).run U w=.ok h.v q/\kept bs w q/\K h q:=by have F:(En.rows x).P w:=H.get i e;obtain⟨h,q,z,A,B,y,C,E⟩:=zu (ty:=ty) sa (F.1 _ (ay f)) k.2.2 k.1 l o;refine⟨h,q,z,λb c=>?_,m h q (HB H i j e f y A C) B E⟩;refine y.cv b (H.own _ (d b c)) λp=>?_;exact L8 H e (d b c) (aU.2 (b'.2 ⟨_,ay f,p⟩))
def _root_.Go.W.O.BT(H:O M w0 w L D)(i j a c:Nat){h:List ee}{s:Sl}{vs:List V}{v:V}{p:Addr}{K:I->Prop}(f:L[i]? =some (.rows h))(k:h[j]? =some (s,vs))(r:s.a=some p)(n:a+c<vs.length)(m:∀x,O M w0 x (L.set i (.rows (h.set j (s,vs.set (a+c) v)))) D->K x)(e:∀b∈bs,En.g b∈L:=by simp):aL w ((p.add a).add c) v λl=>kept bs w l/\K l:=by have z:(En.rows h).P w:=H.get i f;obtain⟨F,q,E,A,B,C,y⟩:=GQ (z.1 _ (ay k)) (a+c) n v;rw[r]at q;cases q;rw[add_add];refine⟨A,B,λb d=>?_,m _ (HB H i j f k y C λb d=>.inl d)⟩;exact y.cv b (H.own _ (e b d)) λo=>L8 H f (e b d) (aU.2 (b'.2 ⟨_,ay k,o⟩))
def _root_.Go.W.O.ER(H:O M w0 w L D)(i j:Nat){k:List ee}{s:Sl}{vs:List V}(f:L[i]? =some (.rows k))(g:k[j]? =some (s,vs)):O M w0 w (L.set i (.rows (k.set j (⟨none,0,0⟩,[])))) (D++[.a9 4 s vs]):=by
 have A:(En.rows k).P w:=H.get i f;have d:=HB H i j f g (Fr.refl _ _) (aJ.nil w aO 4) (λb c=>by simp[aG]at c);have F:∀b∈aG s,b∈(En.rows k).fp:=λb c=>aU.2 (b'.2 ⟨_,ay g,c⟩);have J:i<L.length:=(cP.1 f).1;refine⟨d.fr,d.own,λh a=>?_,d.new,d.nd,λh a b c m l q=>?_⟩
 .rcases aP.1 a with a|a
  .exact d.rd h a
  .simp at a;subst a;exact(A.1 _ (ay g)).a9
 .rcases aP.1 a with a|a
  .exact d.dj h a b c m l q
  .simp at a;subst a;have z:b∈aG s:=gY (e:=aO) c;rcases AF l with rfl|⟨G,x,B⟩
   .obtain ⟨K,E,y⟩:=b'.1 (aU.1 q);rcases AF E with rfl|⟨G,x,C⟩
    .simp [aG]at y
    .exact SU A.2 C g x b y z
   .exact jX H.nd f B (λh=>x h.symm) b (F b z) q
end
structure FX where
 k:Int
 ar:Sl×List Rx
 al:List Rx
 an:List Rx
 ca:List Rx
 n:Nat
 la:Rx
structure FM where
 k:Int
 ar:Sl×List J
 al:Sl×List J
 an:Sl×List J
 ca:Sl×List J
 n:Nat
 la:J
def FM.x(f:FM):FX:=⟨f.k,(f.ar.1,J.ao f.ar.2),J.ao f.al.2,J.ao f.an.2,J.ao f.ca.2,f.n,f.la.rx⟩
def FM.c(f:FM):List V:=[.int .i64 f.k,f.ar.1.v,f.al.1.v,f.an.1.v,f.ca.1.v,.int .i64 (f.n:Int),.int .i64 f.la.k,.int .u8 (f.la.lo.toNat:Int),.int .u8 (f.la.hi.toNat:Int),f.la.s.v]
def FM.rows(f:FM):List ee:=[(f.ar.1,f.ar.2.flatMap J.c),(f.al.1,f.al.2.flatMap J.c),(f.an.1,f.an.2.flatMap J.c),(f.ca.1,f.ca.2.flatMap J.c)]
def FM.ts(f:FM):List J:=f.ar.2++f.al.2++f.an.2++f.ca.2++[f.la]
def FM.qP(f:FM):f.c.length=10:=rfl
def q0(a:List FM):(a.flatMap FM.c).length=a.length *10:=pO FM.c 10 FM.qP a
abbrev SL(d:Nat)(a:Sl)(f g:Int)(b:List V)(e:List ee):List En:=[.c d [a.v,.int .i64 f,.int .i64 g] yS,.row iL 10 a b,.rows e]
def St(w:I)(l:Nat)(o:Addr)(q:List FX)(r:FX)(m n:Int)(i:List Nat)(k:List J):Prop:=
 ∃(j:Sl) (d:List FM) (f:FM) (p:Addr),d.map FM.x=q/\f.x=r/\(∀g∈d++[f],∀t∈g.ts,t∈k)/\j.a=some p/\o=p.add (d.length *10)/\
  i=(SL l j m n ((d++[f]).flatMap FM.c) ((d++[f]).flatMap FM.rows)).flatMap (·.fp)/\i.Nodup/\(∀e∈SL l j m n ((d++[f]).flatMap FM.c) ((d++[f]).flatMap FM.rows),e.P w)/\J.Ps w k/\∀b∈J.be k,b∉i
def iS(w:I)(a:List Nat)(c:List J)(g:Nat)(e:Addr)(f:List FX)(j:FX)(i k:Int)(A:List J->Prop)(d:I):Prop:=∃q h,St d g e f j i k q h/\Fr (·∈a) w d/\(∀x∈q,x∈a\/w.heap.size<=x)/\(∀b∈J.be h,b∈J.be c\/b∈a\/w.heap.size<=b)/\(∀t∈c,t∈h)/\A h
def iS.then{w x w':I}{own k:List Nat}{ts h:List J}{rb:Nat}{f0:Addr}{lo:List FX}{q:FX}{st wd:Int}{A:List J->Prop}(a:Fr (·∈own) w x)(g:∀e∈k,e∈own\/w.heap.size<=e)(j:∀b∈J.be h,b∈J.be ts\/b∈own\/w.heap.size<=b)(i:∀t∈ts,t∈h)(d:iS x k h rb f0 lo q st wd A w'):iS w own ts rb f0 lo q st wd A w':=by
 obtain⟨F,K,G,D,E,z,H,y⟩:=d;refine⟨F,K,G,a.trans D λe c C=>(g e C).resolve_right λd=>io,λe c=>?_,λb B=>?_,λt f=>H t (i t f),y⟩
 .rcases E e c with d|d
  .grind
  .exact .inr (bI a.size d)
 .rcases z b B with d|d|d
  .grind
  .grind
  .exact .inr (.inr (bI a.size d))
def iS.mono{w w':I}{own:List Nat}{ts:List J}{rb:Nat}{f0:Addr}{lo:List FX}{e:FX}{st wd:Int}{A d:List J->Prop}(q:iS w own ts rb f0 lo e st wd A w')(a:∀l,A l->d l):iS w own ts rb f0 lo e st wd d w':=by obtain⟨y,C,z,k,x,j,B,h⟩:=q;exact⟨y,C,z,k,x,j,B,a _ h⟩
def St.wH{w:I}{rb:Nat}{sl:Sl}{e:List FM}{f:FM}{ts:List J}{st wd:Int}{own:List Nat}(i:own=(SL rb sl st wd ((e++[f]).flatMap FM.c) ((e++[f]).flatMap FM.rows)).flatMap (·.fp))(j:own.Nodup)(k:∀h∈SL rb sl st wd ((e++[f]).flatMap FM.c) ((e++[f]).flatMap FM.rows),h.P w)(l:J.Ps w ts)(d:∀b∈J.be ts,b∉own):
  O (·∈own) w w (SL rb sl st wd ((e++[f]).flatMap FM.c) ((e++[f]).flatMap FM.rows)) [.trees ts]:=by
 refine O.og _ _ (λh a=>⟨k h a,λb g=>by grind⟩) (i▸j) λh a=>?_;simp only[aF,aW,a2]at a;subst a;refine⟨l,λb g o n m=>d b (aU.1 g) ?_⟩
 grind
def St.of{w w':I}{rb:Nat}{f0:Addr}{sl:Sl}{e:List FM}{f:FM}{ts h:List J}{st wd:Int}{own:List Nat}{p:Addr}{D:List En}{A:List J->Prop}(H:O (·∈own) w w' (SL rb sl st wd ((e++[f]).flatMap FM.c) ((e++[f]).flatMap FM.rows)) D)(i:Nat)(j:D[i]? =some (.trees h))(q:∀g∈e++[f],∀t∈g.ts,t∈h)(o:sl.a=some p)(l:f0=p.add (e.length *10))(d:∀b∈J.be h,b∈J.be ts\/b∈own\/w.heap.size<=b)(k:∀t∈ts,t∈h)(m:A h):
  iS w own ts rb f0 (e.map FM.x) f.x st wd A w':=by
 refine⟨_,h,⟨sl,e,f,p,rfl,rfl,q,o,l,rfl,H.nd,H.own,H.getD i j,λb d n=>?_⟩,H.fr,λC r=>?_,d,k,m⟩
 .obtain ⟨y,B,z⟩:=b'.1 n;exact H.dj _ (ay j) b (aU.2 d) y B z
 .obtain ⟨y,B,z⟩:=b'.1 r;exact(H.new y B C z).symm
section
variable {M:Nat->Prop} {w0 w:I} {L D:List En} {bs:List Nat}
def _root_.Go.W.O.g8(H:O M w0 w L D)(i:Nat){sl:Sl}{h:List FM}{f:FM}{p:Addr}(b:L[i]? =some (.row iL 10 sl ((h++[f]).flatMap FM.c)))(d:sl.a=some p)(j:Nat){v:V}(e:f.c[j]? =some v:=by rfl):w.cell? ((p.add (h.length *10)).add j)=some v:=by
 have y:aJ w iL 10 sl ((h++[f]).flatMap FM.c):=H.get i b;have x:((h++[f]).flatMap FM.c)[h.length *10+j]? =some v:=by
  rw[eg,List.getElem?_append_right (by rw[q0];omega),q0]
  grind
 obtain⟨z,k,q⟩:=y.a9.2.2.2 _ _ x;rw[d]at k;cases k;rw[add_add];exact q
def YO(a:List FM)(f b:FM)(j:Nat)(v:V)(d:j<10)(e:f.c.set j v=b.c):((a++[f]).flatMap FM.c).set (a.length *10+j) v=(a++[b]).flatMap FM.c:=by
 rw[eg,eg,List.set_append,ad (by rw[q0];omega),q0]
 grind
def _root_.Go.W.O.je(H:O M w0 w L D)(i:Nat){sl:Sl}{d:List FM}{f:FM}{p:Addr}{K:I->Prop}{v:V}(e:FM)(j:Nat)(q:L[i]? =some (.row iL 10 sl ((d++[f]).flatMap FM.c)))(s:sl.a=some p)(r:j<10)(o:f.c.set j v=e.c)(n:∀h,O M w0 h (L.set i (.row iL 10 sl ((d++[e]).flatMap FM.c))) D->K h)(l:∀b∈bs,En.g b∈L:=by simp):aL w ((p.add (d.length *10)).add j) v λm=>kept bs w m/\K m:=
 H.vV i (d.length *10) j q s (by rw[q0];grind) (λh k=>n h (by rw[YO d f e j v r o]at k;exact k)) l
def HY{w:I}{p:Addr}{v:V}{K:I->Prop}(d:aL w p v λa=>kept [] w a/\K a):aL w p v K:=adV d λ_ d=>d.2
end
def Hz:∀a:List FM,(a.flatMap FM.rows).length=a.length *4
 |[]=>rfl
 |f::a=>by have:=Hz a;simp only[dI,List.length_append,List.length_cons];have:f.rows.length=4:=rfl;omega
def HA(a:List FM)(f:FM)(j:Nat)(x:ee)(b:j<4):((a++[f]).flatMap FM.rows).set (a.length *4+j) x=a.flatMap FM.rows++f.rows.set j x:=by
 have d:=Hz a
 grind
def ru(a:List FM)(f:FM)(j:Nat)(x:ee)(b:f.rows[j]? =some x):((a++[f]).flatMap FM.rows)[a.length *4+j]? =some x:=by
 have d:=Hz a
 grind
def gC(k:Int)(s:Sl)(a:List J):J:=match a with |[d]=>d|l=>.mk k 0 0 s l
def qe(k:Int)(l:List Rx):Rx:=match l with |[d]=>d|l=>.mk k 0 0 l
def GJ(k:Int)(s:Sl)(a:List J):(gC k s a).rx=qe k (J.ao a):=by
 match a with
 |[]=>rfl
 |[d]=>rfl
 |d::e::l=>rfl
def abP{k:Int}{s:Sl}{ts:List J}{b:Nat}(d:b∈(gC k s ts).fp):b∈(J.row s ts).fp\/b∈J.be ts:=by
 match ts,d with
 |[],d=>exact J.gP.1 (show b∈(J.mk k 0 0 s []).fp from d)
 |[x],d=>exact .inr (J.b0.2 ⟨x,us,d⟩)
 |x::e::l,d=>exact J.gP.1 (show b∈(J.mk k 0 0 s (x::e::l)).fp from d)
def DG(k:Int)(s:Sl)(a:List J)(w:I)(h:bA 4 w s (a.flatMap J.c)):ah U AS #[.int .i64 k,s.v] w λr g=>r=ab (gC k s a).v/\af w g:=by
 have q:=J.cw h;refine So.aq ((bZ [J.row s a] (by intro z j;simp only[aF,aW,a2]at j;subst j;exact h)).aw λm o b=>ax (λf=>⟨io,io,?_⟩) (λf=>b.ae λy d=>⟨?_,d.fr⟩))
 .have x:a.length=1:=io
  obtain⟨e,rfl⟩:=List.length_eq_one_iff.1 x;refine J.a4 (b.getD 0) (i:=0) (t:=e) rfl λp n c=>⟨_,_,_,_,c.c0,c.c1,c.c2,c.c3,b.ae λy d=>⟨rfl,d.fr⟩⟩
 .match a,q with
  |[],_=>rfl
  |[e],q=>grind
  |e::A::l,_=>rfl
section
variable {M:Nat->Prop} {w0 w:I} {L D:List En} {bs:List Nat}
def _root_.Go.W.O.node(H:O M w0 w L D)(i:Nat){ts ks:List J}{s:Sl}(k:Int)(g d:UInt8)(c:D[i]? =some (.trees ts))(f:J.row s ks∈D)(e:∀t∈ks,t∈ts):O M w0 w L [.trees (ts++[.mk k g d s ks])]:=by
 have q:J.Ps w ts:=H.getD i c;have y:=H.eO (.trees (ts++[.mk k g d s ks])) (Fr.refl _ _) (J.jL λt a=>?_) λb B=>.inr (.inr ?_)
 .exact y.forget _ us
 .rcases aP.1 a with a|a
  .exact q.mem a
  .simp at a;subst a;unfold J.P;exact⟨H.rd _ f,J.jL λt a=>q.mem (e t a)⟩
 .obtain ⟨t,a,j⟩:=J.b0.1 (aU.1 B);rcases aP.1 a with a|a
  .exact ⟨_,ay c,aU.2 (J.b0.2 ⟨t,a,j⟩)⟩
  .simp at a;rw[a]at j;rcases J.gP.1 j with h|h
   .exact ⟨_,f,h⟩
   .obtain ⟨x,A,z⟩:=J.b0.1 h;exact⟨_,ay c,aU.2 (J.b0.2 ⟨x,e x A,z⟩)⟩
def _root_.Go.W.O.QE(H:O M w0 w L D)(i:Nat){ts ks:List J}{s:Sl}(k:Int)(c:D[i]? =some (.trees ts))(e:J.row s ks∈D)(d:∀t∈ks,t∈ts):O M w0 w L [.trees (ts++[gC k s ks])]:=by
 match ks,e,d with
 |[],e,d=>exact H.node i k 0 0 c e d
 |h::z::l,e,d=>exact H.node i k 0 0 c e d
 |[h],e,d=>
  have x:J.Ps w ts:=H.getD i c;have q:=d h us;have y:=H.eO (.trees (ts++[h])) (Fr.refl _ _) (J.jL λt a=>?_) λb f=>.inr (.inr ?_)
  .exact y.forget _ (by simp[gC])
  .rcases aP.1 a with a|a
   .exact x.mem a
   .simp at a;subst a;exact x.mem q
  .obtain ⟨t,a,j⟩:=J.b0.1 (aU.1 f);rcases aP.1 a with a|a
   .exact ⟨_,ay c,aU.2 (J.b0.2 ⟨t,a,j⟩)⟩
   .simp at a;rw[a]at j;exact⟨_,ay c,aU.2 (J.b0.2 ⟨h,q,j⟩)⟩
abbrev z4:List V:=[.int .i64 0,.int .u8 0,.int .u8 0,.slice none 0 0]
def zt(a u:List V)(n j:Nat)(v:V)(b:a.length=n):(a++u).set (n+j) v=a++u.set j v:=by grind
def _root_.Go.W.O.vA(H:O M w0 w L D)(i j n:Nat){h:List ee}{s:Sl}{vs:List V}{p:Addr}{K:I->Prop}(t:J)(u:L[i]? =some (.rows h))(T:h[j]? =some (s,vs++z4))(z:s.a=some p)(y:vs.length=n *4)(hK:∀w',O M w0 w' (L.set i (.rows (h.set j (s,vs++t.c)))) D->K w')(r:∀b∈bs,En.g b∈L):
  aL w (p.add (aY (n:Int) *4)) (.int .i64 t.k) λo=>kept bs w o/\aL o ((p.add (aY (n:Int) *4)).add 1) (.int .u8 (t.lo.toNat:Int)) λf=>kept bs o f/\aL f ((p.add (aY (n:Int) *4)).add 2) (.int .u8 (t.hi.toNat:Int)) λl=>kept bs f l/\aL l ((p.add (aY (n:Int) *4)).add 3) t.s.v λq=>kept bs l q/\K q:=by
 rw[cb];have ag:i<L.length:=(cP.1 u).1;have ai:j<h.length:=(cP.1 T).1;have C:∀{A:List En} (e:En),A.length=L.length->(A.set i e)[i]? =some e:=λ{A} e hl=>by grind
 have B:∀(d:List ee) (x:ee),d.length=h.length->(d.set j x)[j]? =some x:=λd x hl=>by grind
 have E:∀{b:Nat},En.g b∈L->∀(d:List ee),En.g b∈L.set i (.rows d):=λ{b} m d=>by
  obtain⟨Z,Y⟩:=iq.1 m;by_cases ac:i=Z
  .subst ac;exfalso;rw[u]at Y;have hP:(En.rows h).P w:=H.get i u;have S:En.rows h=En.g b:=eU Y;have af:(En.rows h).fp=[b]:=by rw[S];rfl
   have aa:b∈(En.rows h).fp:=by grind
   have ad:h≠[]:=by grind
   refine SY h ad w b aa ?_;rw[S];show b<_;simp
  .exact iq.2 ⟨Z,by grind⟩
 have ae:=H.BT (bs:=bs) i j (n *4) 0 (v:=.int .i64 t.k) (K:=λo=>aL o ((p.add (n *4)).add 1) (.int .u8 (t.lo.toNat:Int)) λf=>kept bs o f/\aL f ((p.add (n *4)).add 2) (.int .u8 (t.hi.toNat:Int)) λl=>kept bs f l/\aL l ((p.add (n *4)).add 3) t.s.v λq=>kept bs l q/\K q) u T z (by grind) ?_ r
 .rw [iV]at ae;omega
 intro o F;rw[zt vs z4 (n *4) 0 _ y]at F;refine F.BT (bs:=bs) i j (n *4) 1 (C _ rfl) (B _ _ rfl) z (by grind) ?_ (λb m=>E (r b m) _);intro f G;rw[zt vs _ (n *4) 1 _ y,List.set_set,List.set_set]at G;refine G.BT (bs:=bs) i j (n *4) 2 (C _ rfl) (B _ _ rfl) z (by grind) ?_ (λb m=>E (r b m) _);intro l N;rw[zt vs _ (n *4) 2 _ y,List.set_set,List.set_set]at N;refine N.BT (bs:=bs) i j (n *4) 3 (C _ rfl) (B _ _ rfl) z (by grind) ?_ (λb m=>E (r b m) _);intro q Q;rw[zt vs _ (n *4) 3 _ y,List.set_set,List.set_set]at Q;exact hK q Q
def _root_.Go.W.O.MT(H:O M w0 w L D)(i:Nat){sl:Sl}{e:List FM}{f:FM}{p:Addr}(b:L[i]? =some (.row iL 10 sl ((e++[f]).flatMap FM.c)))(d:sl.a=some p):
  w.cell? (((p.add (e.length *10)).add 6).add 0)=some (.int .i64 f.la.k)/\w.cell? (((p.add (e.length *10)).add 6).add 1)=some (.int .u8 (f.la.lo.toNat:Int))/\w.cell? (((p.add (e.length *10)).add 6).add 2)=some (.int .u8 (f.la.hi.toNat:Int))/\w.cell? (((p.add (e.length *10)).add 6).add 3)=some f.la.s.v:=by
 refine⟨?_,?_,?_,?_⟩
 .rw [iV];exact H.g8 i b d 6
 .rw [add_add];exact H.g8 i b d 7
 .rw [add_add];exact H.g8 i b d 8
 .rw [add_add];exact H.g8 i b d 9
end
def my:Nat->Rx->Rx
 |0,r=>r
 |n+1,r=>my n (.mk 6 0 0 [r])
def mi(f:FX):FX:=⟨f.k,f.ar,f.al,f.an,f.ca++[my f.n f.la],0,f.la⟩
def JL{w:I}{rb:Nat}{f0:Addr}{lo:List FX}{S:FX}{st wd:Int}{own:List Nat}{ts:List J}(z:St w rb f0 lo S st wd own ts)(hn:S.n<=1000000)(hc:S.ca.length<=1000000):
  ah U Pc #[.pointer (some f0)] w λr u=>r=ab (.tuple #[])/\iS w own ts rb f0 lo (mi S) st wd (λ_=>True) u:=by
 obtain⟨sl,d,f,p,rfl,rfl,F,q,rfl,h6,h7,h8,h9,az⟩:=z;have ad:=St.wH h6 h7 h8 h9 az;have aA:f.la∈ts:=F f us _ (by simp[FM.ts]);have aB:f.ca.2.length<=1000000:=by
  have:f.x.ca.length=f.ca.2.length:=by show(J.ao f.ca.2).length=_;rw[J.fY];simp
  omega
 have loop:∀(m:Nat) (r:J) (j:List J) (i:Nat) (y:I),m<=1000000->(∀t∈ts,t∈j)->(∀b∈J.be j,b∈J.be ts\/b∈own\/w.heap.size<=b)->r∈j->my m r.rx=my f.n f.la.rx->
   O (·∈own) w y (SL rb sl st wd ((d++[(⟨f.k,f.ar,f.al,f.an,f.ca,m,f.la⟩:FM)]).flatMap FM.c) ((d++[f]).flatMap FM.rows)++[.g i]) [.trees j]->
   yi.aX (p.add (d.length *10)) i r.k r.lo.toNat r.hi.toNat r.s y λr u=>r=ab (.tuple #[])/\iS w own ts rb (p.add (d.length *10)) (d.map FM.x) (mi f.x) st wd (λ_=>True) u:=by
  intro m;induction m with
  |zero=>
   intro r j i y _ E Q hr Z v;refine yi.bR ⟨0,v.g8 1 rfl q 5,aT rfl (v.ae λK B=>⟨_,B.g8 1 rfl q 4,?_⟩)⟩;have ap:((d++[f]).flatMap FM.rows)[d.length *4+3]? =some (f.ca.1,f.ca.2.flatMap J.c):=ru d f 3 _ rfl;have nr:f.ca.1.n=f.ca.2.length:=by have hp:(En.rows ((d++[f]).flatMap FM.rows)).P K:=B.get 2;exact J.cw (hp.1 _ (ay ap)).a9
   refine B.fe (e:=aO) (sz:=4) (n:=1) (cs:=z4) rfl dl λw3 C=>⟨C.g8 1 rfl q 4,?_⟩;refine C.zq (bs:=[i]) 2 (d.length *4+3) (src:=⟨some (aa K.heap.size),1,1⟩) (news:=z4) rfl ap (aJ.a9 (C.get 4)) (by simp[Value.oneCell']) (by grind) (λo T M af am=>⟨io,by grind,?_⟩);obtain⟨ac,hq⟩:∃ac,o.a=some ac:=by
    cases hs:o.a with
    |none=>grind
    |some ac=>grind
   rw[hq];have ai:d.length *4+3<((d++[f]).flatMap FM.rows).length:=by grind
   have N:O (·∈own) w T (SL rb sl st wd ((d++[(⟨f.k,f.ar,f.al,f.an,f.ca,0,f.la⟩:FM)]).flatMap FM.c) (((d++[f]).flatMap FM.rows).set (d.length *4+3) (o,f.ca.2.flatMap J.c++z4))++[.g i]) [.trees j]:=M.take 4;have fin:∀{u:I},O (·∈own) w u (SL rb sl st wd ((d++[(⟨f.k,f.ar,f.al,f.an,(o,f.ca.2++[r]),0,f.la⟩:FM)]).flatMap FM.c) (((d++[f]).flatMap FM.rows).set (d.length *4+3) (o,f.ca.2.flatMap J.c++r.c))++[.g i]) [.trees j]->
     (Ending.returned (.tuple #[])=ab (.tuple #[])/\iS w own ts rb (p.add (d.length *10)) (d.map FM.x) (mi f.x) st wd (λ_=>True) u):=λ{u} H'=>by
    refine⟨rfl,?_⟩;have e1:((d++[f]).flatMap FM.rows).set (d.length *4+3) (o,f.ca.2.flatMap J.c++r.c)=(d++[(⟨f.k,f.ar,f.al,f.an,(o,f.ca.2++[r]),0,f.la⟩:FM)]).flatMap FM.rows:=by rw[HA d f 3 _ io,eg];congr 1;simp[FM.rows]
    rw[e1]at H';have:=St.of (ts:=ts) (A:=λ_=>True) (f0:=p.add (d.length *10)) (H'.take 3) 0 rfl (λg H t h=>?_) q rfl Q E trivial
    .have e2:(FM.x ⟨f.k,f.ar,f.al,f.an,(o,f.ca.2++[r]),0,f.la⟩)=mi f.x:=by
      unfold FM.x mi;simp only[k0];have:J.ao [r]=[my f.n f.la.rx]:=by rw[<-Z];rfl
      grind
     grind
    .rcases aP.1 H with H|H
     .grind
     .simp at H;subst H;simp only[FM.ts,aP,aF,aW,a2]at h;rcases h with(((h|h)|h)|(h|rfl))|rfl
      .exact E t (F f us t (by simp[FM.ts,h]))
      .exact E t (F f us t (by simp[FM.ts,h]))
      .exact E t (F f us t (by simp[FM.ts,h]))
      .exact E t (F f us t (by simp[FM.ts,h]))
      .exact hr
      grind
   refine⟨?_,?_⟩
   .rw [nr];refine N.vA (bs:=[i]) 2 (d.length *4+3) f.ca.2.length r rfl (mC ai) hq (J.hU _) (λu D=>?_) us;rw[List.set_set]at D;exact D.je (bs:=[i]) (f:=⟨f.k,f.ar,f.al,f.an,f.ca,0,f.la⟩) 1 ⟨f.k,f.ar,f.al,f.an,(o,f.ca.2++[r]),0,f.la⟩ 4 rfl q io rfl (λaj W=>fin W) us
   .refine N.je (bs:=[i]) (f:=⟨f.k,f.ar,f.al,f.an,f.ca,0,f.la⟩) 1 ⟨f.k,f.ar,f.al,f.an,(o,f.ca.2++[r]),0,f.la⟩ 4 rfl q io rfl (λu D=>?_) us;rw[nr];refine O.vA (bs:=[i]) (L:=SL rb sl st wd ((d++[(⟨f.k,f.ar,f.al,f.an,(o,f.ca.2++[r]),0,f.la⟩:FM)]).flatMap FM.c) (((d++[f]).flatMap FM.rows).set (d.length *4+3) (o,f.ca.2.flatMap J.c++z4))++[.g i]) D 2 (d.length *4+3) f.ca.2.length r rfl (mC ai) hq (J.hU _) (λaj W=>?_) us;rw[List.set_set]at W
    grind
  |succ m ih=>
   intro r j i y hm E Q hr Z v;refine yi.bR ⟨((m+1:Nat):Int),v.g8 1 rfl q 5,aR (a6 io) ?_⟩;refine v.fe (e:=aO) (sz:=4) (n:=1) (cs:=r.c) rfl dl λK B=>B.ae (bs:=[i]) (λw3 C=>⟨_,C.g8 1 rfl q 5,?_⟩) us;have ax:aE .i64 (((m+1:Nat):Int) - 1)=(m:Int):=by rw[bH _ io];omega
   show aL w3 _ (.int .i64 (aE .i64 (((m+1:Nat):Int) - 1))) _;rw[ax];refine C.je (bs:=[i]) (f:=⟨f.k,f.ar,f.al,f.an,f.ca,m+1,f.la⟩) 1 ⟨f.k,f.ar,f.al,f.an,f.ca,m,f.la⟩ 5 rfl q io rfl (λT M=>?_) us;have N:=M.freeze 4 (J.row ⟨some (aa y.heap.size),1,1⟩ [r]) rfl (by show bA 4 T _ ([r].flatMap J.c);rw[show[r].flatMap J.c=r.c by simp];exact aJ.a9 (M.get 4)) (λb G=>gY (e:=aO) (vs:=[r].flatMap J.c) G);have D:=N.node 0 6 0 0 (s:=⟨some (aa y.heap.size),1,1⟩) (ks:=[r]) rfl us (λt h=>by grind);refine ih (.mk 6 0 0 ⟨some (aa y.heap.size),1,1⟩ [r]) _ i T io (λt h=>by grind) (λb G=>?_) us Z D;obtain⟨t,h,Y⟩:=J.b0.1 G;rcases aP.1 h with h|h
   .exact Q b (J.b0.2 ⟨t,h,Y⟩)
   .simp at h;rw[h]at Y;rcases J.gP.1 Y with z|z
    .have:=gY (e:=aO) z;simp[En.row,aG,J.s]at this;subst this;exact .inr (.inr v.fr.size)
    .obtain ⟨t',av,ag⟩:=J.b0.1 z;simp[J.l]at av;rw[av]at ag;exact Q b (J.b0.2 ⟨r,hr,ag⟩)
 obtain⟨c0,c1,c2,c3⟩:=ad.MT 1 rfl q;have af:f.n<=1000000:=hn;refine yi.aq ⟨_,_,_,_,c0,c1,c2,c3,ad.aw (λi y v=>v.ae (λK B=>?_) us) us⟩;exact loop f.n f.la ts i K af (λ_ z=>z) (λb G=>.inl G) aA rfl B
def FM.aQ(f:FM)(j:Nat):Sl×List J:=if j=1 then f.ar else if j=2 then f.al else if j=3 then f.an else f.ca
def FM.put(f:FM)(j:Nat)(x:Sl×List J):FM:=⟨f.k,if j=1 then x else f.ar,if j=2 then x else f.al,if j=3 then x else f.an,if j=4 then x else f.ca,f.n,f.la⟩
def wU{j:Nat}(e:1<=j)(f:j<=4){p:Nat->Prop}(a:p 1)(b:p 2)(c:p 3)(d:p 4):p j:=by grind
def Ky(f:FM){j:Nat}(a:1<=j)(b:j<=4):f.c[j]? =some (f.aQ j).1.v:=wU (p:=λj=>f.c[j]? =some (f.aQ j).1.v) a b rfl rfl rfl rfl
def uz(f:FM){j:Nat}(a:1<=j)(b:j<=4):f.rows[j - 1]? =some ((f.aQ j).1,(f.aQ j).2.flatMap J.c):=wU (p:=λj=>f.rows[j - 1]? =some ((f.aQ j).1,(f.aQ j).2.flatMap J.c)) a b rfl rfl rfl rfl
def yd(f:FM)(x:Sl×List J){j:Nat}(a:1<=j)(b:j<=4):f.c.set j x.1.v=(f.put j x).c:=wU (p:=λj=>f.c.set j x.1.v=(f.put j x).c) a b rfl rfl rfl rfl
def ach(f:FM)(x:Sl×List J){j:Nat}(a:1<=j)(b:j<=4):f.rows.set (j - 1) (x.1,x.2.flatMap J.c)=(f.put j x).rows:=wU (p:=λj=>f.rows.set (j - 1) (x.1,x.2.flatMap J.c)=(f.put j x).rows) a b rfl rfl rfl rfl
def Bq(f:FM)(x:Sl×List J){j:Nat}(b:1<=j)(c:j<=4){t:J}(a:t∈(f.put j x).ts):t∈f.ts\/t∈x.2:=by
 refine wU (p:=λj=>t∈(f.put j x).ts->t∈f.ts\/t∈x.2) b c ?_ ?_ ?_ ?_ a<;>
 .intro a;simp[FM.put,FM.ts]at a ⊢
  grind
def pD(f:FM)(j:Nat){t:J}(a:t∈(f.aQ j).2):t∈f.ts:=by
 unfold FM.aQ at a;unfold FM.ts
 grind
def acg(f:FM)(x:Sl×List J){j i:Nat}(b:i≠j)(c:1<=i)(a:i<=4):(f.put j x).aQ i=f.aQ i:=by
 have:i=1\/i=2\/i=3\/i=4:=io
 unfold FM.put FM.aQ
 grind
section
variable {w0 w:I} {own:List Nat} {rb:Nat} {sl:Sl} {st wd:Int} {fs:List FM} {f:FM} {ts:List J} {p:Addr}
abbrev FS(a:List Nat)(k w:I)(d:Nat)(g:Sl)(i l:Int)(b:List FM)(f:FM)(e:List ee)(j:List J):Prop:=O (·∈a) k w (SL d g i l ((b++[f]).flatMap FM.c) e) [.trees j]
def uV(a:List FM)(f:FM)(x:Sl×List J){j:Nat}(b:1<=j)(d:j<=4):((a++[f]).flatMap FM.rows).set (a.length *4+(j - 1)) (x.1,x.2.flatMap J.c)=(a++[f.put j x]).flatMap FM.rows:=by rw[HA a f (j - 1) _ io,ach f x b d,eg];simp
def RM(H:FS own w0 w rb sl st wd fs f ((fs++[f]).flatMap FM.rows) ts)(o:sl.a=some p)(d:Nat)(e:1<=d)(g:d<=4)(t:J)(hb:(f.aQ d).2.length<=1000000){x:I}{src:Sl}(u:O (·∈own) w0 x (SL rb sl st wd ((fs++[f]).flatMap FM.c) ((fs++[f]).flatMap FM.rows)++[.row aO 4 src z4]) [.trees ts])(ah:src.n=1){K:I->Prop}(T:∀b j,FS own w0 j rb sl st wd fs (f.put d (b,(f.aQ d).2++[t])) ((fs++[f.put d (b,(f.aQ d).2++[t])]).flatMap FM.rows) ts->K j):
  ∃(i:Sl) (l:I),(fL #[jh,jh] jh #[(f.aQ d).1.v,src.v]).run U x=.ok (i.v) l/\(0:Int)<=(((f.aQ d).1.n:Nat):Int)/\(((f.aQ d).1.n:Nat):Int)<(i.n:Int)/\ea i.a λh=>((aL l (h.add (aY (((f.aQ d).1.n:Nat):Int) *4)) (.int .i64 t.k) λB=>aL B ((h.add (aY (((f.aQ d).1.n:Nat):Int) *4)).add 1) (.int .u8 (t.lo.toNat:Int)) λC=>aL C ((h.add (aY (((f.aQ d).1.n:Nat):Int) *4)).add 2) (.int .u8 (t.hi.toNat:Int)) λy=>aL y ((h.add (aY (((f.aQ d).1.n:Nat):Int) *4)).add 3) t.s.v λz=>aL z ((p.add (fs.length *10)).add d) i.v K)/\
   (aL l ((p.add (fs.length *10)).add d) i.v λN=>aL N (h.add (aY (((f.aQ d).1.n:Nat):Int) *4)) (.int .i64 t.k) λB=>aL B ((h.add (aY (((f.aQ d).1.n:Nat):Int) *4)).add 1) (.int .u8 (t.lo.toNat:Int)) λC=>aL C ((h.add (aY (((f.aQ d).1.n:Nat):Int) *4)).add 2) (.int .u8 (t.hi.toNat:Int)) λy=>aL y ((h.add (aY (((f.aQ d).1.n:Nat):Int) *4)).add 3) t.s.v K)):=by
 have G:((fs++[f]).flatMap FM.rows)[fs.length *4+(d - 1)]? =some ((f.aQ d).1,(f.aQ d).2.flatMap J.c):=ru fs f (d - 1) _ (uz f e g);have W:(f.aQ d).1.n=(f.aQ d).2.length:=by have o:(En.rows ((fs++[f]).flatMap FM.rows)).P x:=u.get 2;exact J.cw (o.1 _ (ay G)).a9
 obtain⟨b,l,Q,_,S⟩:=u.zq (bs:=[]) (ty:=jh) 2 (fs.length *4+(d - 1)) (src:=src) (news:=z4) (K:=λb j=>FS own w0 j rb sl st wd fs f (((fs++[f]).flatMap FM.rows).set (fs.length *4+(d - 1)) (b,(f.aQ d).2.flatMap J.c++z4)) ts/\b.n=(f.aQ d).1.n+1/\∃h,b.a=some h) rfl G (aJ.a9 (u.get 3)) (by simp[Value.oneCell']) io (λb w4 M Z Y=>⟨M.take 3,io,by
  cases hs:b.a with
  |none=>grind
  |some h=>grind⟩) us
 obtain⟨D,aa,h,q⟩:=S;refine⟨b,l,Q,io,io,?_⟩;rw[q];have F:fs.length *4+(d - 1)<((fs++[f]).flatMap FM.rows).length:=by grind
 have E:∀(f:FM) (t:J) (d:Nat),(f.aQ d).2.flatMap J.c++t.c=((f.aQ d).2++[t]).flatMap J.c:=λf t d=>us
 rw[W];refine⟨?_,?_⟩
 .have st:=O.vA (bs:=[]) (K:=λz=>aL z ((p.add (fs.length *10)).add d) b.v K) D 2 (fs.length *4+(d - 1)) (f.aQ d).2.length t rfl (mC F) q (J.hU _) (λj m=>?_) us
  .grind
  .rw [List.set_set,E,uV fs f (b,(f.aQ d).2++[t]) e g]at m;exact HY (m.je (bs:=[]) (f:=f) 1 (f.put d (b,(f.aQ d).2++[t])) d rfl o io (yd f (b,(f.aQ d).2++[t]) e g) (λr A=>T b r A) us)
 .refine HY (D.je (bs:=[]) (f:=f) 1 (f.put d (b,(f.aQ d).2++[t])) d rfl o io (yd f (b,(f.aQ d).2++[t]) e g) (λj m=>?_) us);have st:=O.vA (bs:=[]) (K:=K) (L:=SL rb sl st wd ((fs++[f.put d (b,(f.aQ d).2++[t])]).flatMap FM.c) (((fs++[f]).flatMap FM.rows).set (fs.length *4+(d - 1)) (b,(f.aQ d).2.flatMap J.c++z4))) m 2 (fs.length *4+(d - 1)) (f.aQ d).2.length t rfl (mC F) q (J.hU _) (λr A=>?_) us
  .grind
  .rw [List.set_set,E,uV fs f (b,(f.aQ d).2++[t]) e g]at A
   grind
def shift(H:FS own w0 w rb sl st wd fs f ((fs++[f]).flatMap FM.rows) ts)(L:sl.a=some p)(k:Int)(d s:Nat)(Q:1<=d)(hs:s=d+1)(y:s<=4)(hb:(f.aQ d).2.length<=1000000)(bb:∀t∈f.ts,t∈ts){R:aC}(hK:∀u r,FS own w0 r rb sl st wd fs ((f.put d (u,(f.aQ d).2++[gC k (f.aQ s).1 (f.aQ s).2])).put s (⟨none,0,0⟩,[])) ((fs++[(f.put d (u,(f.aQ d).2++[gC k (f.aQ s).1 (f.aQ s).2])).put s (⟨none,0,0⟩,[])]).flatMap FM.rows) (ts++[gC k (f.aQ s).1 (f.aQ s).2])->R (ab (.tuple #[])) r):
  uE w λq=>∃b:Sl,q.cell? ((p.add (fs.length *10)).add d)=some (b.v)/\∃M:Sl,q.cell? ((p.add (fs.length *10)).add s)=some (M.v)/\
   ((ah U AS #[.i k,M.v] q λr_ C=>∃g:Int,∃B:Int,∃l:Int,∃m:Sl,r_=ab (.agg #[.i g,.int .u8 B,.int .u8 l,m.v])/\
    C.cell? ((p.add (fs.length *10)).add d)=some (b.v)/\dh C (.cells #[.i 0,.int .u8 0,.int .u8 0,.slice none 0 0] aO) λN=>
    N.cell? ((p.add (fs.length *10)).add d)=some (b.v)/\∃(o:Sl) (D:I),Sem.run U (fL #[jh,jh] jh #[b.v,.slice (some (nb C)) 1 1]) N=.ok (o.v) D/\ow o (b.n:Int) λh=>((aL D (h.add (aY (b.n:Int) *4)) (.i g) λw6=>
    aL w6 ((h.add (aY (b.n:Int) *4)).add 1) (.int .u8 B) λw7=>aL w7 ((h.add (aY (b.n:Int) *4)).add 2) (.int .u8 l) λw8=>aL w8 ((h.add (aY (b.n:Int) *4)).add 3) (m.v) λw9=>
    aL w9 ((p.add (fs.length *10)).add d) (o.v) λS=>aL S ((p.add (fs.length *10)).add s) (.slice none 0 0) λj=>R (ab (.tuple #[])) j)/\
    (aL D ((p.add (fs.length *10)).add d) (o.v) λT=>aL T (h.add (aY (b.n:Int) *4)) (.i g) λal=>aL al ((h.add (aY (b.n:Int) *4)).add 1) (.int .u8 B) λW=>
    aL W ((h.add (aY (b.n:Int) *4)).add 2) (.int .u8 l) λY=>aL Y ((h.add (aY (b.n:Int) *4)).add 3) (m.v) λZ=>aL Z ((p.add (fs.length *10)).add s) (.slice none 0 0) λj=>R (ab (.tuple #[])) j)))/\
   (dh q (.cells #[.i 0,.int .u8 0,.int .u8 0,.slice none 0 0] aO) λap=>ap.cell? ((p.add (fs.length *10)).add s)=some (M.v)/\ap.cell? ((p.add (fs.length *10)).add d)=some (b.v)/\
    ah U AS #[.i k,M.v] ap λr_ ar=>∃g:Int,∃B:Int,∃l:Int,∃m:Sl,r_=ab (.agg #[.i g,.int .u8 B,.int .u8 l,m.v])/\
    ar.cell? ((p.add (fs.length *10)).add d)=some (b.v)/\∃(o:Sl) (D:I),Sem.run U (fL #[jh,jh] jh #[b.v,.slice (some (nb q)) 1 1]) ar=.ok (o.v) D/\ow o (b.n:Int) λh=>((aL D (h.add (aY (b.n:Int) *4)) (.i g) λw6=>
    aL w6 ((h.add (aY (b.n:Int) *4)).add 1) (.int .u8 B) λw7=>aL w7 ((h.add (aY (b.n:Int) *4)).add 2) (.int .u8 l) λw8=>aL w8 ((h.add (aY (b.n:Int) *4)).add 3) (m.v) λw9=>
    aL w9 ((p.add (fs.length *10)).add d) (o.v) λS=>aL S ((p.add (fs.length *10)).add s) (.slice none 0 0) λj=>R (ab (.tuple #[])) j)/\
    (aL D ((p.add (fs.length *10)).add d) (o.v) λT=>aL T (h.add (aY (b.n:Int) *4)) (.i g) λal=>aL al ((h.add (aY (b.n:Int) *4)).add 1) (.int .u8 B) λW=>
    aL W ((h.add (aY (b.n:Int) *4)).add 2) (.int .u8 l) λY=>aL Y ((h.add (aY (b.n:Int) *4)).add 3) (m.v) λZ=>aL Z ((p.add (fs.length *10)).add s) (.slice none 0 0) λj=>R (ab (.tuple #[])) j)))):=by
 subst hs;have E:1<=d+1:=io
 have ac:d<=4:=io
 have ag:((fs++[f]).flatMap FM.rows)[fs.length *4+(d+1 - 1)]? =some ((f.aQ (d+1)).1,(f.aQ (d+1)).2.flatMap J.c):=ru fs f (d+1 - 1) _ (uz f E y);have rd:∀{r:I} {G:List En},O (·∈own) w0 r (SL rb sl st wd ((fs++[f]).flatMap FM.c) ((fs++[f]).flatMap FM.rows)++G) [.trees ts]->bA 4 r (f.aQ (d+1)).1 ((f.aQ (d+1)).2.flatMap J.c):=λz=>by have hP:(En.rows ((fs++[f]).flatMap FM.rows)).P _:=z.get 2;exact(hP.1 _ (ay ag)).a9
 have fin:∀u r,FS own w0 r rb sl st wd fs (f.put d (u,(f.aQ d).2++[gC k (f.aQ (d+1)).1 (f.aQ (d+1)).2])) ((fs++[f.put d (u,(f.aQ d).2++[gC k (f.aQ (d+1)).1 (f.aQ (d+1)).2])]).flatMap FM.rows) ts->
   aL r ((p.add (fs.length *10)).add (d+1)) (.slice none 0 0) λj=>R (ab (.tuple #[])) j:=λu r z=>by
  have hc:(f.put d (u,(f.aQ d).2++[gC k (f.aQ (d+1)).1 (f.aQ (d+1)).2])).aQ (d+1)=f.aQ (d+1):=acg f _ io E y;refine HY (z.je (bs:=[]) 1 ((f.put d (u,(f.aQ d).2++[gC k (f.aQ (d+1)).1 (f.aQ (d+1)).2])).put (d+1) (⟨none,0,0⟩,[])) (d+1) rfl L io (yd _ (⟨none,0,0⟩,[]) E y) (λj H1=>hK u j ?_) us);have ae:=ru fs (f.put d (u,(f.aQ d).2++[gC k (f.aQ (d+1)).1 (f.aQ (d+1)).2])) (d+1 - 1) _ (uz _ E y);rw[hc]at ae;have A:=H1.ER 2 (fs.length *4+(d+1 - 1)) rfl ae;have x:=A.QE 0 k (s:=(f.aQ (d+1)).1) (ks:=(f.aQ (d+1)).2) rfl us λt ht=>bb t (pD f _ ht);have ai:=uV fs (f.put d (u,(f.aQ d).2++[gC k (f.aQ (d+1)).1 (f.aQ (d+1)).2])) (⟨none,0,0⟩,[]) E y
  grind
 have K:∀{r:I} {G:List En},O (·∈own) w0 r (SL rb sl st wd ((fs++[f]).flatMap FM.c) ((fs++[f]).flatMap FM.rows)++G) [.trees ts]->r.cell? ((p.add (fs.length *10)).add d)=some ((f.aQ d).1.v):=λz=>z.g8 1 rfl L d (Ky f Q ac);have ad:∀{r:I} {G:List En},O (·∈own) w0 r (SL rb sl st wd ((fs++[f]).flatMap FM.c) ((fs++[f]).flatMap FM.rows)++G) [.trees ts]->r.cell? ((p.add (fs.length *10)).add (d+1))=some ((f.aQ (d+1)).1.v):=λz=>z.g8 1 rfl L (d+1) (Ky f E y);refine H.dr λq A=>⟨_,K (G:=[]) A,_,ad (G:=[]) A,?_,A.fe (e:=aO) (sz:=4) (n:=1) (cs:=z4) rfl dl λC x=>⟨ad x,K x,?_⟩⟩
 .refine A.call (DG k _ _ q (rd (G:=[]) A)) ?_;rintro _ C rfl x;refine⟨_,_,_,_,rfl,K (G:=[]) x,x.fe (e:=aO) (sz:=4) (n:=1) (cs:=z4) rfl dl λN F=>⟨K F,?_⟩⟩;exact RM H L d Q ac (gC k (f.aQ (d+1)).1 (f.aQ (d+1)).2) hb (src:=⟨some (aa C.heap.size),1,1⟩) F rfl fin
 .refine x.call (DG k _ _ C (rd x)) ?_;rintro _ N rfl F;refine⟨_,_,_,_,rfl,K F,?_⟩;exact RM H L d Q ac (gC k (f.aQ (d+1)).1 (f.aQ (d+1)).2) hb (src:=⟨some (aa q.heap.size),1,1⟩) F rfl fin
end
def iT(w:I)(a:List Nat)(c:List J)(b:Nat)(Q:cZ->Addr->List FX->FX->Int->Int->List J->Prop):aC:=λr q=>∃d e j h k,iS w a c b d e j h k (Q r d e j h k) q
def lF(f:FX):FX:=⟨f.k,f.ar,f.al,f.an++[qe 3 (mi f).ca],[],0,f.la⟩
def lE(f:FX):FX:=⟨f.k,f.ar,f.al++[qe 5 (lF f).an],[],[],0,f.la⟩
def Ek(f:FX):FX:=⟨f.k,f.ar,[],[],[],0,f.la⟩
def cO(f:FX):Rx:=qe 4 (lE f).al
def HQ{w0:I}{M:Nat->Prop}{w:I}{own:List Nat}{ts y:List J}{k:Int}{s:Sl}{ks:List J}(a:∀b∈J.be ts,b∈J.be y\/b∈own\/w.heap.size<=b)(f:∀b∈aG s,b∈own\/w.heap.size<=b)(d:∀t∈ks,t∈ts):∀b∈J.be (ts++[gC k s ks]),b∈J.be y\/b∈own\/w.heap.size<=b:=λb c=>by
 obtain⟨t,h,q⟩:=J.b0.1 c;rcases aP.1 h with h|h
 .exact a b (J.b0.2 ⟨t,h,q⟩)
 .simp at h;rw[h]at q;rcases abP q with j|j
  .exact .inr (f b (gY (e:=aO) j))
  .obtain ⟨x,A,z⟩:=J.b0.1 j;exact a b (J.b0.2 ⟨x,d x A,z⟩)
def SQ{own:List Nat}{w0 w:I}{rb:Nat}{sl:Sl}{st wd:Int}{d:List FM}{f:FM}{ts:List J}(H:FS own w0 w rb sl st wd d f ((d++[f]).flatMap FM.rows) ts){j:Nat}(a:1<=j)(c:j<=4):∀b∈aG (f.aQ j).1,b∈own\/w0.heap.size<=b:=λb e=>by have h:=ru d f (j - 1) _ (uz f a c);exact(H.new (.rows ((d++[f]).flatMap FM.rows)) us b (aU.2 (b'.2 ⟨_,ay h,e⟩))).symm
def TA{q:List FM}{f:FM}{ts:List J}{k:Int}{d s:Nat}{x:Sl}(i:∀g∈q++[f],∀t∈g.ts,t∈ts)(a:1<=d)(b:d<=4)(c:1<=s)(e:s<=4):∀g∈q++[(f.put d (x,(f.aQ d).2++[gC k (f.aQ s).1 (f.aQ s).2])).put s (⟨none,0,0⟩,[])],∀t∈g.ts,t∈ts++[gC k (f.aQ s).1 (f.aQ s).2]:=by
 intro g j t w;rcases aP.1 j with j|j
 .grind
 .simp at j;subst j;rcases Bq _ _ c e w with h|h
  .rcases Bq _ _ a b h with h|h
   .grind
   .rcases aP.1 h with h|h
    .exact cm _ (i f us t (pD f d h))
    grind
  grind
def JM{w:I}{rb:Nat}{f0:Addr}{lo:List FX}{d:FX}{st wd:Int}{own:List Nat}{ts:List J}(F:St w rb f0 lo d st wd own ts)(j:d.n<=1000000)(i:d.ca.length<=1000000)(m:d.an.length<=1000000):
  ah U Pd #[.pointer (some f0)] w λr c=>r=ab (.tuple #[])/\iS w own ts rb f0 lo (lF d) st wd (λ_=>True) c:=by
 refine Sm.ok ((JL F j i).mono ?_);rintro _ w1 ⟨rfl,ad,ac,⟨sl,h,f,p,rfl,e,q,z,rfl,H,K,L,N,G⟩,E,o1,B,t1,_⟩;refine⟨rfl,?_⟩;have y:=St.wH H K L N G;have O:(f.aQ 3).2.length<=1000000:=by
  have D:f.x.an.length=f.an.2.length:=by show(J.ao f.an.2).length=_;rw[J.fY];simp
  have e2:f.x.an=d.an:=by rw[e];rfl
  show f.an.2.length<=_
  grind
 refine shift (R:=λr c=>r=ab (.tuple #[])/\iS w own ts rb (p.add (h.length *10)) (h.map FM.x) (lF d) st wd (λ_=>True) c) y z 3 3 4 io rfl io O (λt a=>q f us t a) λl c C=>⟨rfl,iS.then E o1 B t1 ?_⟩;have:=St.of (ts:=ac) (A:=λ_=>True) (f0:=p.add (h.length *10)) C 0 rfl (TA q io io io io) z rfl (HQ (w0:=w) (M:=F0) (λb g=>.inl g) (SQ y io io) λt a=>q f us t (pD f 4 a)) (λt a=>cm _ a) trivial;have D:((f.put 3 (l,(f.aQ 3).2++[gC 3 (f.aQ 4).1 (f.aQ 4).2])).put 4 (⟨none,0,0⟩,[])).x=lF d:=by
  have W:f.x.k=d.k:=by rw[e];rfl
  have S:f.x.ar=d.ar:=by rw[e];rfl
  have P:f.x.al=d.al:=by rw[e];rfl
  have Q:f.x.an=d.an:=by rw[e];rfl
  have T:f.x.ca=(mi d).ca:=by rw[e]
  have aa:f.x.n=0:=by rw[e];rfl
  have Y:f.x.la=d.la:=by rw[e];rfl
  unfold lF;rw[<-W,<-S,<-P,<-Q,<-T,<-Y];show FX.mk f.k (f.ar.1,J.ao f.ar.2) (J.ao f.al.2) (J.ao (f.an.2++[gC 3 f.ca.1 f.ca.2])) (J.ao []) f.n f.la.rx=_;have Z:f.n=0:=aa;rw[Z,k0];simp[J.ao,GJ,FM.x]
 grind
def JK{w:I}{rb:Nat}{f0:Addr}{lo:List FX}{d:FX}{st wd:Int}{own:List Nat}{ts:List J}(F:St w rb f0 lo d st wd own ts)(l:d.n<=1000000)(j:d.ca.length<=1000000)(g:d.an.length<=1000000)(o:d.al.length<=1000000):
  ah U Pb #[.pointer (some f0)] w λr c=>r=ab (.tuple #[])/\iS w own ts rb f0 lo (lE d) st wd (λ_=>True) c:=by
 refine Sj.ok ((JM F l j g).mono ?_);rintro _ w1 ⟨rfl,ae,ad,⟨sl,h,f,p,rfl,e,q,z,rfl,H,K,L,N,G⟩,E,o1,B,t1,_⟩;refine⟨rfl,?_⟩;have y:=St.wH H K L N G;have O:(f.aQ 2).2.length<=1000000:=by
  have D:f.x.al.length=f.al.2.length:=by show(J.ao f.al.2).length=_;rw[J.fY];simp
  have e2:f.x.al=d.al:=by rw[e];rfl
  show f.al.2.length<=_
  grind
 refine shift (R:=λr c=>r=ab (.tuple #[])/\iS w own ts rb (p.add (h.length *10)) (h.map FM.x) (lE d) st wd (λ_=>True) c) y z 5 2 3 io rfl io O (λt a=>q f us t a) λm c C=>⟨rfl,iS.then E o1 B t1 ?_⟩;have:=St.of (ts:=ad) (A:=λ_=>True) (f0:=p.add (h.length *10)) C 0 rfl (TA q io io io io) z rfl (HQ (w0:=w) (M:=F0) (λb i=>.inl i) (SQ y io io) λt a=>q f us t (pD f 3 a)) (λt a=>cm _ a) trivial;have D:((f.put 2 (m,(f.aQ 2).2++[gC 5 (f.aQ 3).1 (f.aQ 3).2])).put 3 (⟨none,0,0⟩,[])).x=lE d:=by
  have Y:f.x.k=d.k:=by rw[e];rfl
  have S:f.x.ar=d.ar:=by rw[e];rfl
  have P:f.x.al=d.al:=by rw[e];rfl
  have Q:f.x.an=(lF d).an:=by rw[e]
  have W:f.x.ca=[]:=by rw[e];rfl
  have ac:f.x.n=0:=by rw[e];rfl
  have Z:f.x.la=d.la:=by rw[e];rfl
  unfold lE;rw[<-Y,<-S,<-P,<-Q,<-Z];show FX.mk f.k (f.ar.1,J.ao f.ar.2) (J.ao (f.al.2++[gC 5 f.an.1 f.an.2])) (J.ao []) (J.ao f.ca.2) f.n f.la.rx=_;have aa:f.n=0:=ac;have T:J.ao f.ca.2=[]:=W;rw[aa,T,k0];simp[J.ao,GJ,FM.x]
 grind
abbrev SF(M:Nat->Prop)(i w:I)(b:Nat)(d:Sl)(e j:Int)(a:List FM)(f:FM)(G:List En)(g:List J):Prop:=O M i w (SL b d e j ((a++[f]).flatMap FM.c) ((a++[f]).flatMap FM.rows)++G) [.trees g]
section
variable {M:Nat->Prop} {w0 w:I} {bs:List Nat} {G:List En} {rb:Nat} {sl:Sl} {st wd:Int} {fs:List FM} {f:FM} {ts:List J} {p:Addr}
def adw(H:SF M w0 w rb sl st wd fs f G ts)(i:∀g∈fs++[f],∀t∈g.ts,t∈ts)(l:sl.a=some p):
  St w rb (p.add (fs.length *10)) (fs.map FM.x) f.x st wd ((SL rb sl st wd ((fs++[f]).flatMap FM.c) ((fs++[f]).flatMap FM.rows)).flatMap (·.fp)) ts:=by have h:=H.nd;rw[eg,fh]at h;refine⟨sl,fs,f,p,rfl,rfl,i,l,rfl,rfl,h.1,λe d=>H.own e (cm _ d),H.getD 0,λb k q=>?_⟩;obtain⟨e,d,j⟩:=b'.1 q;exact H.dj (.trees ts) us b (aU.2 k) e (cm _ d) j
def adv(H:SF M w0 w rb sl st wd fs f G ts){w':I}{C:Addr}{D:List FX}{K:FX}{F L:Int}{B:List Nat}{h:List J}(s:St w' rb C D K F L B h)(u:Fr (·∈(SL rb sl st wd ((fs++[f]).flatMap FM.c) ((fs++[f]).flatMap FM.rows)).flatMap (·.fp)) w w')(o:∀y∈B,y∈(SL rb sl st wd ((fs++[f]).flatMap FM.c) ((fs++[f]).flatMap FM.rows)).flatMap (·.fp)\/w.heap.size<=y)(i:∀b∈J.be h,b∈J.be ts\/b∈(SL rb sl st wd ((fs++[f]).flatMap FM.c) ((fs++[f]).flatMap FM.rows)).flatMap (·.fp)\/w.heap.size<=b):
  ∃(n:Sl) (j:List FM) (p:FM) (q:Addr),j.map FM.x=D/\p.x=K/\(∀g∈j++[p],∀t∈g.ts,t∈h)/\n.a=some q/\C=q.add (j.length *10)/\(∀b∈J.be h,b∈J.be ts\/w0.heap.size<=b\/M b)/\SF M w0 w' rb n F L j p G h:=by
 obtain⟨n,j,p,q,O,P,Q,S,T,W,Y,h8,Z,af⟩:=s;have A:=H.nd;rw[eg,fh]at A;have E:∀b∈(SL rb sl st wd ((fs++[f]).flatMap FM.c) ((fs++[f]).flatMap FM.rows)).flatMap (·.fp),w0.heap.size<=b\/M b:=λb i=>by obtain⟨e,d,l⟩:=b'.1 i;exact H.new e (cm _ d) b l
 have ae:∀e∈G,∀b∈e.fp,b<w.heap.size:=λe d b i=>e.lt w (H.own e (db _ d)) b i;have N:∀e∈G,∀b∈e.fp,b∉(SL rb sl st wd ((fs++[f]).flatMap FM.c) ((fs++[f]).flatMap FM.rows)).flatMap (·.fp):=λe d b i r=>A.2.2 b r b (b'.2 ⟨e,d,i⟩) rfl;have ac:=H.fr.size;have ag:∀b∈B,w0.heap.size<=b\/M b:=λb i=>(o b i).elim (E b) λk=>.inl (bI ac k);refine⟨n,j,p,q,O,P,Q,S,T,λb z=>?_,H.fr.trans u λy hx r=>(E y r).resolve_left io,λe d=>?_,λe d=>?_,λe d b z=>?_,?_,λe d b z ad m l=>?_⟩
 .grind
 .rcases aP.1 d with d|d
  .grind
  .exact e.st w w' (λb i hl=>u.cv b hl (N e d b i)) (H.own e (db _ d))
 .simp at d;subst d;exact Z
 .rcases aP.1 d with d|d
  .grind
  .exact H.new e (db _ d) b z
 .rw [eg,fh];refine⟨W▸Y,A.2.1,λy hx ai hy v=>?_⟩;subst v;obtain⟨e,d,l⟩:=b'.1 hy
  grind
 .simp at d;subst d;have aa:b∈J.be h:=aU.1 z;rcases aP.1 m with m|m
  .grind
  .rcases i b aa with k|k|k
   .exact H.dj (.trees ts) us b (aU.2 k) ad (db _ m) l
   .grind
   grind
def _root_.Go.W.O.mY(H:SF M w0 w rb sl st wd fs f G ts)(u:∀g∈fs++[f],∀t∈g.ts,t∈ts)(E:sl.a=some p){g:b5}{args:Array V}{K:aC}{Q:cZ->Addr->List FX->FX->Int->Int->List J->Prop}(y:∀own,St w rb (p.add (fs.length *10)) (fs.map FM.x) f.x st wd own ts->ah U g args w (iT w own ts rb Q))(N:∀r h (i:Sl) (e:List FM) (l:FM) (m:Addr) (j k:Int) (d:List J),(∀t∈ts,t∈d)->(∀g∈e++[l],∀t∈g.ts,t∈d)->i.a=some m->(∀b∈J.be d,b∈J.be ts\/w0.heap.size<=b\/M b)->Q r (m.add (e.length *10)) (e.map FM.x) l.x j k d->SF M w0 h rb i j k e l G d->K r h)(n:∀b∈bs,En.g b∈G:=by simp):e8 bs U g args w K:=by
 have z:=H.nd;rw[eg,fh]at z;refine⟨(·∈(SL rb sl st wd ((fs++[f]).flatMap FM.c) ((fs++[f]).flatMap FM.rows)).flatMap (·.fp)),λb v D=>?_,(y _ (adw H u E)).mono ?_⟩
 .exact z.2.2 b D b (b'.2 ⟨_,n b v,by simp[En.g]⟩) rfl
 .rintro r h ⟨P,S,Y,j,k,T,d,s,q,o,b,t,L⟩;obtain⟨i,e,l,m,rfl,rfl,B,F,rfl,C,A⟩:=adv H s q o b;exact⟨q,N r h i e l m j k d t B F C L A⟩
def _root_.Go.W.O.zS(H:SF M w0 w rb sl st wd fs f G ts)(n:∀g∈fs++[f],∀t∈g.ts,t∈ts)(s:sl.a=some p){g:b5}{args:Array V}{K:aC}{Q:cZ->Addr->List FX->FX->Int->Int->List J->Prop}(o:∀own,St w rb (p.add (fs.length *10)) (fs.map FM.x) f.x st wd own ts->ah U g args w (iT w own ts rb Q))(q:∀r l (e:Sl) (d:List FM) (k:FM) (m:Addr) (i j:Int) (c:List J),(∀t∈ts,t∈c)->(∀g∈d++[k],∀t∈g.ts,t∈c)->e.a=some m->(∀b∈J.be c,b∈J.be ts\/w0.heap.size<=b\/M b)->Q r (m.add (d.length *10)) (d.map FM.x) k.x i j c->SF M w0 l rb e i j d k G c->K r l):ah U g args w K:=by obtain⟨_,_,h⟩:=H.mY (bs:=[]) n s o q us;exact h.mono λr l h=>h.2
end
def EP(f:FM):f.x.ar.2.length=f.ar.2.length/\f.x.al.length=f.al.2.length/\f.x.an.length=f.an.2.length/\f.x.ca.length=f.ca.2.length:=by refine⟨?_,?_,?_,?_⟩<;>(show(J.ao _).length=_;rw[J.fY];simp)
def zx{w:I}{own:List Nat}{ts:List J}{rb:Nat}{f0:Addr}{lo:List FX}{d:FX}{st wd:Int}{g:b5}{args:Array V}(j:ah U g args w λr e=>r=ab (.tuple #[])/\iS w own ts rb f0 lo d st wd (λ_=>True) e):
  ah U g args w (iT w own ts rb λr a b h c f _=>r=ab (.tuple #[])/\a=f0/\b=lo/\h=d/\c=st/\f=wd):=
 j.mono λr e ⟨k,q⟩=>⟨f0,lo,d,st,wd,q.mono λ_ _=>⟨k,rfl,rfl,rfl,rfl,rfl⟩⟩
structure Small(f:FX)(n:Nat):Prop where
 n':f.n<=n
 ar:f.ar.2.length<=n
 al:f.al.length<=n
 an:f.an.length<=n
 ca:f.ca.length<=n
def zE{w:I}{rb:Nat}{f0:Addr}{lo:List FX}{z:FX}{st wd:Int}{own:List Nat}{ts:List J}(A:St w rb f0 lo z st wd own ts)(l:Small z 1000000):
  ah U Gc #[.pointer (some f0)] w (iT w own ts rb λr ax u aI aH ac Z=>ax=f0/\u=lo/\aI=Ek z/\aH=st/\ac=wd/\∃t∈Z,r=ab t.v/\t.rx=cO z):=by
 obtain⟨sl,E,f,p,rfl,rfl,h3,h4,rfl,h6,h7,h8,h9,ag⟩:=A;have G:SF (·∈own) w w rb sl st wd E f [] ts:=by
  have:=St.wH h6 h7 h8 h9 ag
  grind
 refine Sk.aq (G.aw (bs:=[]) (λq w1 H=>?_) us);refine(show SF (·∈own) w w1 rb sl st wd E f [.g q] ts from H).mY (bs:=[q]) h3 h4 (λaJ s1=>zx (JK s1 l.n' l.ca l.an l.al)) ?_ us;rintro _ D az e d p2 aA aC aB t2 F B ad ⟨rfl,ai,aj,h,rfl,rfl⟩ y;rw[<-ai,<-aj];have C:((e++[d]).flatMap FM.rows)[e.length *4+(2 - 1)]? =some ((d.aQ 2).1,(d.aQ 2).2.flatMap J.c):=ru e d 1 _ (uz d (j:=2) io io);have ap:bA 4 D d.al.1 (d.al.2.flatMap J.c):=by have hP:(En.rows ((e++[d]).flatMap FM.rows)).P D:=y.get 2;exact(hP.1 _ (ay C)).a9
 refine⟨rfl,d.al.1,y.g8 1 rfl B 2,y.av (DG 4 _ _ D ap) ?_⟩;rintro _ w3 rfl L;refine⟨_,_,_,_,rfl,L.aw (bs:=[q]) (λm w4 N=>N.ae (bs:=[q,m]) (λw5 Q=>?_) us) us⟩;refine Q.je (bs:=[q,m]) (f:=d) 1 (d.put 2 (⟨none,0,0⟩,[])) 2 rfl B io rfl (λw6 S=>S.ae (bs:=[q,m]) (λw7 T=>?_) us) us;have W:=T.ER 2 (e.length *4+(2 - 1)) rfl C;have Y:=W.QE 0 4 (s:=d.al.1) (ks:=d.al.2) rfl (by simp[FM.aQ]) λt a=>F d us t (pD d 2 a);have er:=uV e d (⟨none,0,0⟩,[]) (j:=2) io io;have e':(([]:List J).flatMap J.c)=[]:=rfl;rw[e']at er;simp only at er;have K:O (·∈own) w w7 (SL rb az aA aC ((e++[d.put 2 (⟨none,0,0⟩,[])]).flatMap FM.c) ((e++[d.put 2 (⟨none,0,0⟩,[])]).flatMap FM.rows)) [.trees (aB++[gC 4 d.al.1 d.al.2])]:=by rw[<-er];exact Y.take 3
 have am:∀b∈aG d.al.1,b∈own\/w.heap.size<=b:=λb o=>(y.new (.rows ((e++[d]).flatMap FM.rows)) us b (aU.2 (b'.2 ⟨_,ay C,o⟩))).symm;have ex:(d.put 2 (⟨none,0,0⟩,[])).x=Ek f.x:=by
  have e1:d.k=f.k:=by have:=congrArg FX.k h;exact this
  have e2:(d.ar.1,J.ao d.ar.2)=f.x.ar:=by have:=congrArg FX.ar h;exact this
  have e3:J.ao d.an.2=[]:=by have:=congrArg FX.an h;exact this
  have e4:J.ao d.ca.2=[]:=by have:=congrArg FX.ca h;exact this
  have e5:d.n=0:=by have:=congrArg FX.n h;exact this
  have e6:d.la.rx=f.x.la:=by have:=congrArg FX.la h;exact this
  show FX.mk d.k (d.ar.1,J.ao d.ar.2) (J.ao []) (J.ao d.an.2) (J.ao d.ca.2) d.n d.la.rx=_;rw[e1,e2,e3,e4,e5,e6];rfl
 refine⟨_,_,_,_,_,St.of (ts:=ts) (f0:=p2.add (e.length *10)) K 0 rfl (λg i t a=>?_) B rfl (HQ (w0:=w) (M:=F0) (λb o=>(ad b o).imp id Or.symm) am λt a=>F d us t (pD d 2 a)) (λt a=>cm _ (t2 t a)) ⟨rfl,rfl,ex,rfl,rfl,gC 4 d.al.1 d.al.2,us,rfl,?_⟩⟩
 .rcases aP.1 i with i|i
  .grind
  .simp at i;subst i;rcases Bq _ _ io io a with A|A
   .grind
   grind
 .rw [GJ];have:=congrArg FX.al h;have af:J.ao d.al.2=(lE f.x).al:=this;rw[af];rfl
def qf{p:Addr}{K:Addr->Prop}(d:K p):ea (some p) K:=d
def Yf:gg U aeZ iL (.agg #[.int .i64 0,.slice none 0 0,.slice none 0 0,.slice none 0 0,.slice none 0 0,.int .i64 0,.int .i64 0,.int .u8 0,.int .u8 0,.slice none 0 0]) 10 152:=⟨by kernel_rfl,by kernel_rfl,rfl,dl,dl⟩
section
variable {M:Nat->Prop} {w0 w:I} {L D:List En} {bs:List Nat} {G:List En} {rb:Nat} {sl:Sl} {st wd:Int} {fs:List FM} {f:FM} {ts:List J} {p:Addr}
def _root_.Go.W.O.vU(H:O M w0 w L D)(i j:Nat){b:Nat}{vs:List V}{T:aD}{v:V}{K:I->Prop}(f:L[i]? =some (.c b vs T))(l:∀k,O M w0 k (L.set i (.c b (vs.set j v) T)) D->K k)(o:j<vs.length)(d:∀b∈bs,En.g b∈L:=by simp):aL w ((aa b).add j) v λh=>kept bs w h/\K h:=by
 obtain⟨y,z,A⟩:=H.set (v:=v) i j f o;refine⟨y,z,λe a=>?_,l _ A⟩;have x:e≠b:=by
  rintro rfl;refine u0 H f (λn m=>?_) (d _ a) (by simp[En.ob]);have B:({w with heap:=gu (n+1) (.map #[] 0)}:I).heap[e]? =some (.cells vs.toArray T (0,0)):=m
  grind
 have q:Fr (·=b) w (w.setCell ((aa b).add j) v):=Fr.set _ _ _ (by rw[kC])
 exact q.cv e (H.own _ (d _ a)) x
def BN(H:SF M w0 w rb sl st wd fs f G ts):sl.n=fs.length+1:=by
 have d:aJ w iL 10 sl ((fs++[f]).flatMap FM.c):=H.get 1;have:=d.len;rw[q0]at this
 grind
def zI(H:SF M w0 w rb sl st wd fs f G ts)(b:sl.a=some p)(d:fs.length<=1000000):ah U AT #[.pointer (some (aa rb))] w λr c=>r=ab (.pointer (some (p.add (fs.length *10))))/\af w c:=by
 have j:=BN H;have h:aE .i64 ((sl.n:Int) - 1)=(fs.length:Int):=by rw[bH _ io];omega
 have e:SF M w0 w.drew rb sl st wd fs f G ts:=H.drew;refine Hr.ok (show _ from⟨sl,e.ld 0 0,sl,e.ld 0 0,?_⟩);rw[h,b];exact⟨io,io,rfl,Fr.drew _ _⟩
def HK(H:SF M w0 w rb sl st wd fs f G ts)(k:Int)(d c:UInt8):SF M w0 w rb sl st wd fs f G (ts++[.mk k d c ⟨none,0,0⟩ []]):=by
 have h:=H.eO (.trees (ts++[.mk k d c ⟨none,0,0⟩ []])) (Fr.refl _ _) (J.jL λt a=>?_) λb j=>.inr (.inr ⟨.trees ts,us,?_⟩)
 .exact h.forget _ us
 .rcases aP.1 a with a|a
  .exact J.Ps.mem (H.getD 0) a
  .simp at a;subst a;show J.P w _;unfold J.P J.Ps;exact⟨bA.nil 4 w,trivial⟩
 .obtain ⟨t,a,e⟩:=J.b0.1 (aU.1 j);rcases aP.1 a with a|a
  .exact aU.2 (J.b0.2 ⟨t,a,e⟩)
  .simp at a;rw[a]at e;unfold J.fp J.be at e;simp[En.a9]at e
def An{k:Int}{lo hi:UInt8}{b:Nat}(h:b∈J.be (ts++[.mk k lo hi ⟨none,0,0⟩ []])):b∈J.be ts:=by
 obtain⟨t,d,e⟩:=J.b0.1 h;rcases aP.1 d with d|d
 .exact J.b0.2 ⟨t,d,e⟩
 .simp at d;rw[d]at e;unfold J.fp J.be at e;simp[En.a9]at e
def ac6(H:O M w0 w L D)(i:Nat){e:List ee}(c:L[i]? =some (.rows e))(n:Nat):O M w0 w (L.set i (.rows (e++List.replicate n (⟨none,0,0⟩,[])))) D:=by
 have h:(En.rows e).P w:=H.get i c;have k:(e++List.replicate n ((⟨none,0,0⟩,[]):ee)).flatMap (λd:ee=>aG d.1)=e.flatMap λd:ee=>aG d.1:=by
  rw[eg];have:(List.replicate n ((⟨none,0,0⟩,[]):ee)).flatMap (λd:ee=>aG d.1)=[]:=by
   induction n with
   |zero=>rfl
   |succ n q=>rw[List.replicate_succ,dI,q];rfl
  grind
 refine H.fy i _ c (Fr.refl _ _) ⟨λd a=>?_,by rw[k];exact h.2⟩ λb j=>.inl (aU.2 (by have:=aU.1 j;grind));rcases aP.1 a with a|a
 .exact h.1 d a
 .rw [List.eq_of_mem_replicate a];exact aJ.nil _ _ _
end
def mx(k:Int):FX:=⟨k,(⟨none,0,0⟩,[]),[],[],[],0,fT⟩
def jG(k:Int):FM:=⟨k,(⟨none,0,0⟩,[]),(⟨none,0,0⟩,[]),(⟨none,0,0⟩,[]),(⟨none,0,0⟩,[]),0,.mk 0 0 0 ⟨none,0,0⟩ []⟩
def Bc{w:I}{rb:Nat}{f0:Addr}{lo:List FX}{d:FX}{st wd:Int}{own:List Nat}{ts:List J}(e:St w rb f0 lo d st wd own ts):∃(c:Sl) (b:List FM) (f:FM) (p:Addr),b.map FM.x=lo/\f.x=d/\(∀g∈b++[f],∀t∈g.ts,t∈ts)/\c.a=some p/\f0=p.add (b.length *10)/\SF (·∈own) w w rb c st wd b f [] ts:=by
 obtain⟨c,b,f,p,h,k,q,y,z,A,B,C,D,j⟩:=e;refine⟨c,b,f,p,h,k,q,y,z,?_⟩;have:=St.wH A B C D j
 grind
def JV{w:I}{rb:Nat}{f0:Addr}{lo:List FX}{y:FX}{st wd:Int}{own:List Nat}{ts:List J}(K:St w rb f0 lo y st wd own ts)(W:lo.length<=1000000)(d i:Int):
  ah U Ph #[.pointer (some (aa rb)),.int .i64 d,.int .i64 i] w (iT w own ts rb λr _ o u s P _=>r=ab (.bool true)/\o=lo++[y]/\u=mx d/\s=i/\P=wd):=by
 obtain⟨sl,h,f,p,rfl,rfl,S,T,rfl,x⟩:=Bc K;have Z:=BN x;have Y:h.length<=1000000:=by grind
 refine Sw.ok ⟨sl,x.ld 0 0,x.fe (e:=iL) (sz:=10) (n:=1) (cs:=(jG d).c) rfl dl λw1 m=>?_⟩;refine m.I9 1 Yf (src:=⟨some (aa w.heap.size),1,1⟩) (news:=(jG d).c) rfl (aJ.a9 (m.get 3)).2.2 rfl (by simp[FM.c,jG,Value.oneCell']) (by grind) λj N A Q ac _=>?_;obtain⟨q,M⟩:∃q,j.a=some q:=by
  cases hs:j.a with
  |none=>grind
  |some q=>grind
 have B:O (·∈own) w N [.c rb [sl.v,.int .i64 st,.int .i64 wd] yS,.row iL 10 j ((h++[f]).flatMap FM.c++(jG d).c),.rows ((h++[f]).flatMap FM.rows)] [.trees ts]:=A.take 3;refine B.st 0 0 rfl (λw3 C=>C.st 0 1 rfl (λz D=>?_));have E:=ac6 D 2 rfl 4;have F:SF (·∈own) w z rb j i wd (h++[f]) (jG d) [] ts:=by show O _ _ _ (SL rb j i wd ((h++[f]++[jG d]).flatMap FM.c) ((h++[f]++[jG d]).flatMap FM.rows)++[]) _;rw[List.append_nil,eg (xs:=h++[f]),eg (xs:=h++[f])];simpa[show(jG d).rows=[(⟨none,0,0⟩,[]),(⟨none,0,0⟩,[]),(⟨none,0,0⟩,[]),(⟨none,0,0⟩,[])]from rfl]using E
 have G:=HK F 0 0 0;have H:O (·∈own) w z (SL rb j i wd ((h++[f]++[jG d]).flatMap FM.c) ((h++[f]++[jG d]).flatMap FM.rows)) [.trees (ts++[.mk 0 0 0 ⟨none,0,0⟩ []])]:=G.take 3;refine⟨_,_,_,_,_,St.of (ts:=ts) (p:=q) (f0:=q.add ((h++[f]).length *10)) H 0 rfl (λg k t l=>?_) M rfl (λb L=>.inl (An L)) (λt l=>cm _ l) ⟨rfl,?_,rfl,rfl,rfl⟩⟩
 .rcases aP.1 k with k|k
  .grind
  .simp at k;subst k;simp[FM.ts,jG]at l
   grind
 .simp
def jt(a:FX)(x:Rx):FX:=⟨a.k,a.ar,a.al,a.an,a.ca,a.n,x⟩
def DB{w:I}{rb:Nat}{f0:Addr}{lo:List FX}{z:FX}{st wd:Int}{own:List Nat}{ts:List J}(N:St w rb f0 lo z st wd own ts)(hl:lo.length<=1000000)(t:J)(j:t∈ts):
  ah U Ge #[.pointer (some (aa rb)),t.v] w (iT w own ts rb λr i m S o Y _=>r=ab (.bool true)/\i=f0/\m=lo/\S=jt z t.rx/\o=3/\Y=wd):=by
 obtain⟨sl,d,f,p,rfl,rfl,x,h,rfl,A⟩:=Bc N;have Q:d.length<=1000000:=by grind
 refine Sr.aq (A.aw (bs:=[]) (λe w1 Z=>Z.ae (bs:=[e]) (λT ac=>?_) us) us);have y:SF (·∈own) w T rb sl st wd d f [.g e] ts:=ac;refine y.av (zI y h Q) ?_;rintro _ w3 rfl B;refine⟨_,rfl,qf ?_⟩;refine B.je (bs:=[e]) (f:=f) 1 ⟨f.k,f.ar,f.al,f.an,f.ca,f.n,.mk t.k f.la.lo f.la.hi f.la.s f.la.l⟩ 6 rfl h io rfl (λw4 C=>?_) us;have K:((p.add (d.length *10)).add 6).add 1=(p.add (d.length *10)).add 7:=add_add _ 6 1;have L:((p.add (d.length *10)).add 6).add 2=(p.add (d.length *10)).add 8:=add_add _ 6 2;have M:((p.add (d.length *10)).add 6).add 3=(p.add (d.length *10)).add 9:=add_add _ 6 3;rw[K,L,M];refine C.je (bs:=[e]) (f:=⟨f.k,f.ar,f.al,f.an,f.ca,f.n,.mk t.k f.la.lo f.la.hi f.la.s f.la.l⟩) 1 ⟨f.k,f.ar,f.al,f.an,f.ca,f.n,.mk t.k t.lo f.la.hi f.la.s f.la.l⟩ 7 rfl h io rfl (λw5 D=>?_) us;refine D.je (bs:=[e]) (f:=⟨f.k,f.ar,f.al,f.an,f.ca,f.n,.mk t.k t.lo f.la.hi f.la.s f.la.l⟩) 1 ⟨f.k,f.ar,f.al,f.an,f.ca,f.n,.mk t.k t.lo t.hi f.la.s f.la.l⟩ 8 rfl h io rfl (λw6 E=>?_) us;refine E.je (bs:=[e]) (f:=⟨f.k,f.ar,f.al,f.an,f.ca,f.n,.mk t.k t.lo t.hi f.la.s f.la.l⟩) 1 ⟨f.k,f.ar,f.al,f.an,f.ca,f.n,t⟩ 9 rfl h io rfl (λw7 F=>?_) us;refine F.vU (bs:=[e]) 0 1 rfl (λW G=>?_) us us;have er:(d++[f]).flatMap FM.rows=(d++[(⟨f.k,f.ar,f.al,f.an,f.ca,f.n,t⟩:FM)]).flatMap FM.rows:=by simp[FM.rows]
 have H:O (·∈own) w W (SL rb sl 3 wd ((d++[(⟨f.k,f.ar,f.al,f.an,f.ca,f.n,t⟩:FM)]).flatMap FM.c) ((d++[(⟨f.k,f.ar,f.al,f.an,f.ca,f.n,t⟩:FM)]).flatMap FM.rows)) [.trees ts]:=by rw[<-er];exact G.take 3
 refine⟨_,_,_,_,_,St.of (ts:=ts) (f0:=p.add (d.length *10)) H 0 rfl (λg q u a=>?_) h rfl (λb P=>.inl P) (λt j=>j) ⟨rfl,rfl,rfl,rfl,rfl,rfl⟩⟩;rcases aP.1 q with q|q
 .grind
 .simp at q;subst q;simp only[FM.ts,aP,aF,aW,a2]at a;rcases a with(((a|a)|a)|a)|rfl
  .exact x f us u (by simp[FM.ts,a])
  .exact x f us u (by simp[FM.ts,a])
  .exact x f us u (by simp[FM.ts,a])
  .exact x f us u (by simp[FM.ts,a])
  omega
structure Tk where
 k:UInt8
 lo:UInt8
 hi:UInt8
 s:List UInt8
 a:Int
abbrev Tk.v(t:Tk):V:=.agg #[.int .u8 (t.k.toNat:Int),.int .u8 (t.lo.toNat:Int),.int .u8 (t.hi.toNat:Int),.string (ba t.s),.int .i64 t.a]
structure SX where
 lo:List FX
 tp:FX
 st:Int
 wd:Int
def Ct:List UInt8:=[110,111,110,101]
def Cs:List UInt8:=[101,109,112,116,121]
def Cq:List UInt8:=[97,108,116]
def Cp:List UInt8:=[97,108,108]
def Cr:List UInt8:=[99,97,116]
def gj(t:Tk)(s:SX):Option SX:=
 if t.k=33 then some ⟨s.lo,⟨s.tp.k,s.tp.ar,s.tp.al,s.tp.an,s.tp.ca,s.tp.n+1,s.tp.la⟩,0,s.wd⟩
 else if t.k=40 then some ⟨s.lo++[s.tp],mx (-1),0,s.wd⟩
 else if t.k=114 then some ⟨s.lo,jt s.tp (.mk 2 t.lo t.hi []),3,s.wd⟩
 else if t.k=119 then
  if t.s=Ct then some ⟨s.lo,jt s.tp (.mk 0 0 0 []),3,s.wd⟩
  else if t.s=Cs then some ⟨s.lo,jt s.tp (.mk 1 0 0 []),3,s.wd⟩
  else if t.s=Cq then some ⟨s.lo,s.tp,2,4⟩
  else if t.s=Cp then some ⟨s.lo,s.tp,2,5⟩
  else if t.s=Cr then some ⟨s.lo,s.tp,2,3⟩
  else none
 else none
def zc(o:Option SX):cZ->Addr->List FX->FX->Int->Int->List J->Prop:=λr _ a c b d _=>(o=none/\r=ab (.bool false))\/(o=some ⟨a,c,b,d⟩/\r=ab (.bool true))
section
variable {w w':I} {own:List Nat} {G:List En} {rb:Nat} {sl:Sl} {st wd:Int} {fs:List FM} {f:FM} {ts yP:List J} {p:Addr}
def hZ{Q:cZ->Addr->List FX->FX->Int->Int->List J->Prop}{r:cZ}(H:SF (·∈own) w w' rb sl st wd fs f G yP)(c:∀g∈fs++[f],∀t∈g.ts,t∈yP)(e:sl.a=some p)(d:∀b∈J.be yP,b∈J.be ts\/w.heap.size<=b\/b∈own)(i:∀t∈ts,t∈yP)(q:Q r (p.add (fs.length *10)) (fs.map FM.x) f.x st wd yP):iT w own ts rb Q r w':=
 ⟨_,_,_,_,_,St.of (ts:=ts) (f0:=p.add (fs.length *10)) (H.take 3) 0 rfl c e rfl (λb h=>(d b h).imp id Or.symm) i q⟩
end
def aeF(s:List UInt8):(ba s).toList=s:=by rw[ByteArray.toList_eq];rfl
def aeG(a:Array UInt8):(ByteArray.mk a).toList=a.toList:=by rw[ByteArray.toList_eq]
def yC{s:List UInt8}{a:Array UInt8}{A d:Prop}(b:s=a.toList->A)(c:s≠a.toList->d):bK ((ba s).toList==(ByteArray.mk a).toList) A d:=by rw[aeF,aeG];exact bm (λe=>b (by grind)) (λe=>c (by grind))
def kf{x:UInt8}{n:Nat}{A d:Prop}(c:n<256)(a:x=c9 n->A)(b:x≠c9 n->d):bK ((x.toNat:Int)==(n:Int)) A d:=by
 have e:∀x:UInt8,x.toNat=n↔x=c9 n:=λx=>by rw[<-UInt8.toNat_inj,UInt8.toNat_ofNat'];omega
 exact bm (λh=>a ((e x).1 (by grind))) (λh=>b λj=>by grind)
def W8{w:I}{rb:Nat}{f0:Addr}{lo:List FX}{L:FX}{st wd:Int}{own:List Nat}{ts:List J}(e:St w rb f0 lo L st wd own ts)(S:lo.length<=1000000)(hn:L.n<=1000000)(t:Tk):
  ah U Gh #[.pointer (some (aa rb)),t.v] w (iT w own ts rb (zc (gj t ⟨lo,L,st,wd⟩))):=by
 obtain⟨sl,d,f,p,rfl,rfl,A,j,rfl,W⟩:=Bc e;have ai:d.length<=1000000:=by grind
 have aG:f.n<=1000000:=hn;have base:∀b∈J.be ts,b∈J.be ts\/w.heap.size<=b\/b∈own:=λb hb=>.inl hb;refine Hq.aq (W.aw (bs:=[]) (λc w1 q=>?_) us);have q:SF (·∈own) w w1 rb sl st wd d f [.g c] ts:=q;have leaf:∀(k:Int) (a b:UInt8) {l:I} {T M:Int},SF (·∈own) w l rb sl T M d f [.g c] ts->gj t ⟨d.map FM.x,f.x,st,wd⟩=some ⟨d.map FM.x,jt f.x (.mk k a b []),3,M⟩->
   e8 [c] U Ge #[.pointer (some (aa rb)),.agg #[.i k,.int .u8 (a.toNat:Int),.int .u8 (b.toNat:Int),.slice none 0 0]] l λr_ w6=>∃N:Bool,r_=ab (.bool N)/\iT w own ts rb (zc (gj t ⟨d.map FM.x,f.x,st,wd⟩)) (ab (.bool N)) w6:=by
  intro k a b l T M h G;have o:=HK h k a b;refine o.mY (bs:=[c]) (λg m u B=>cm _ (A g m u B)) j (λZ H=>DB H S (.mk k a b ⟨none,0,0⟩ []) us) ?_ us;rintro _ C aj af f3 p3 ao ax ap K E F D ⟨rfl,aC,P,Q,rfl,rfl⟩ r;refine⟨true,rfl,hZ r E F (λaz hx=>?_) (λu B=>K u (cm _ B)) (.inr ⟨?_,rfl⟩)⟩
  .rcases D az hx with e|e
   .exact .inl (An e)
   grind
  .rw [G,P,Q];rfl
 refine kf (n:=33) io (λz:t.k=33=>q.av (zI q j ai) ?_) (λaA:t.k≠33=>kf (n:=40) io (λz:t.k=40=>?_) (λaB:t.k≠40=>kf (n:=114) io (λz:t.k=114=>?_) (λak:t.k≠114=>kf (n:=119) io (λz:t.k=119=>?_) (λam:t.k≠119=>?_))))
 .rintro _ l rfl h;refine⟨_,rfl,qf ⟨_,h.g8 1 rfl j 5,qf ?_⟩⟩;have ad:aE .i64 ((f.n:Int)+1)=((f.n+1:Nat):Int):=by rw[bH _ io];omega
  rw[ad];refine h.je (bs:=[c]) (f:=f) 1 ⟨f.k,f.ar,f.al,f.an,f.ca,f.n+1,f.la⟩ 5 rfl j io rfl (λC o=>?_) us;refine o.vU (bs:=[c]) 0 1 rfl (λw4 r=>?_) us us;have er:(d++[f]).flatMap FM.rows=(d++[(⟨f.k,f.ar,f.al,f.an,f.ca,f.n+1,f.la⟩:FM)]).flatMap FM.rows:=by simp[FM.rows]
  have Y:SF (·∈own) w w4 rb sl 0 wd d ⟨f.k,f.ar,f.al,f.an,f.ca,f.n+1,f.la⟩ [.g c] ts:=by grind
  refine hZ Y (λg m u B=>?_) j base (λ_ e=>e) (.inr ⟨?_,rfl⟩)
  .rcases aP.1 m with m|m
   .grind
   .simp at m;subst m;exact A f us u B
  .unfold gj;rw[ag z];rfl
 .refine q.mY (bs:=[c]) A j (λZ H=>JV H S (-1) 0) ?_ us;rintro _ C aj af f3 p3 ao ax ap K E F D ⟨rfl,P,Q,rfl,rfl⟩ r;refine⟨true,rfl,hZ r E F D K (.inr ⟨?_,rfl⟩)⟩;unfold gj
  grind
 .exact leaf 2 t.lo t.hi q (by unfold gj;grind)
 .refine q.vU (bs:=[c]) 0 1 rfl (λl h=>?_) us us;have h:SF (·∈own) w l rb sl 2 wd d f [.g c] ts:=h;have ei:gj t ⟨d.map FM.x,f.x,st,wd⟩=if t.s=Ct then some ⟨d.map FM.x,jt f.x (.mk 0 0 0 []),3,wd⟩else if t.s=Cs then some ⟨d.map FM.x,jt f.x (.mk 1 0 0 []),3,wd⟩else if t.s=Cq then some ⟨d.map FM.x,f.x,2,4⟩else if t.s=Cp then some ⟨d.map FM.x,f.x,2,5⟩else if t.s=Cr then some ⟨d.map FM.x,f.x,2,3⟩else none:=by
   unfold gj
   grind
  have word:∀(k:Int),gj t ⟨d.map FM.x,f.x,st,wd⟩=some ⟨d.map FM.x,f.x,2,k⟩->aL l ((aa rb).add 2) (.i k) λO=>kept [c] l O/\Hq.aV O (iT w own ts rb (zc (gj t ⟨d.map FM.x,f.x,st,wd⟩))):=λk G=>
   h.vU (bs:=[c]) 0 2 rfl (λC o=>hZ (show SF (·∈own) w C rb sl 2 k d f [.g c] ts from o) A j base (λ_ e=>e) (.inr ⟨G,rfl⟩)) us us
  refine yC (λy:t.s=Ct=>leaf 0 0 0 h (by grind)) (λn1:t.s≠Ct=>yC (λy:t.s=Cs=>leaf 1 0 0 h (by grind)) (λn2:t.s≠Cs=>yC (λy:t.s=Cq=>word 4 (by grind)) (λn3:t.s≠Cq=>yC (λy:t.s=Cp=>word 5 (by grind)) (λn4:t.s≠Cp=>yC (λy:t.s=Cr=>word 3 (by grind)) (λn5:t.s≠Cr=>?_)))));exact hZ h A j base (λ_ e=>e) (.inl ⟨by grind,rfl⟩)
 .exact hZ q A j base (λ_ e=>e) (.inl ⟨by unfold gj;grind,rfl⟩)
def ab4{w:I}{e:aD}{sz:Nat}{s:Sl}{xs:List V}{p:Addr}(h:aJ w e sz s xs)(d:s.a=some p)(n:Nat)(b:n<=s.n):aJ w e sz ⟨s.a,n,s.c⟩ (xs.take (n *sz)):=by
 have A:=h.len;rcases h.cases with⟨rfl,_⟩|⟨g,cur,x,y,j,k,q,z⟩
 .cases d
 .have B:n *sz<=s.n *sz:=Nat.mul_le_mul_right _ b;refine⟨by grind,.inr ⟨g,s.c,cur,by rw[x],dg _,y,bI b j,k,q,?_⟩⟩
  grind
section
variable {M:Nat->Prop} {w0 w:I} {L D A:List En} {bs:List Nat} {G:List En} {rb:Nat} {ts:List J}
def SV(H:O M w0 w L D)(i:Nat){d j:List ee}(a:L[i]? =some (.rows (d++j))):O M w0 w (L.set i (.rows d)) D:=by have e:(En.rows (d++j)).P w:=H.get i a;have h:=e.2;rw[eg,fh]at h;refine H.fy i _ a (Fr.refl _ _) ⟨λq k=>e.1 q (cm _ k),h.1⟩ λb c=>.inl (aU.2 ?_);rw[eg];exact cm _ (aU.1 c)
def aal(H:O M w0 w (A++G) [.trees ts]):O (·∈A.flatMap (·.fp)) w w A [.trees ts]:=by have e:=H.nd;rw[eg,fh]at e;refine O.og _ _ (λd a=>⟨H.own d (cm _ a),λb c=>b'.2 ⟨d,a,c⟩⟩) e.1 λd a=>?_;simp only[aF,aW,a2]at a;subst a;exact⟨H.getD 0,λb c g f h=>H.dj (.trees ts) us b c g (cm _ f) h⟩
def aai(H:O M w0 w (A++G) [.trees ts]){w':I}{D:Addr}{E:List FX}{L:FX}{K N:Int}{C:List Nat}{h:List J}(s:St w' rb D E L K N C h)(q:Fr (·∈A.flatMap (·.fp)) w w')(o:∀k∈C,k∈A.flatMap (·.fp)\/w.heap.size<=k)(d:∀b∈J.be h,b∈J.be ts\/b∈A.flatMap (·.fp)\/w.heap.size<=b):
  ∃(l:Sl) (f:List FM) (m:FM) (n:Addr),f.map FM.x=E/\m.x=L/\(∀g∈f++[m],∀t∈g.ts,t∈h)/\l.a=some n/\D=n.add (f.length *10)/\(∀b∈J.be h,b∈J.be ts\/w0.heap.size<=b\/M b)/\SF M w0 w' rb l K N f m G h:=by
 obtain⟨l,f,m,n,Q,S,T,W,Y,Z,h7,h8,h9,af⟩:=s;have B:=H.nd;rw[eg,fh]at B;have F:∀b∈A.flatMap (·.fp),w0.heap.size<=b\/M b:=λb d=>by obtain⟨e,c,y⟩:=b'.1 d;exact H.new e (cm _ c) b y
 have ae:∀e∈G,∀b∈e.fp,b<w.heap.size:=λe c b d=>e.lt w (H.own e (db _ c)) b d;have P:∀e∈G,∀b∈e.fp,b∉A.flatMap (·.fp):=λe c b d p=>B.2.2 b p b (b'.2 ⟨e,c,d⟩) rfl;have ac:=H.fr.size;have ag:∀b∈C,w0.heap.size<=b\/M b:=λb d=>(o b d).elim (F b) λj=>.inl (bI ac j);refine⟨l,f,m,n,Q,S,T,W,Y,λb i=>?_,H.fr.trans q λk ad p=>(F k p).resolve_left io,λe c=>?_,λe c=>?_,λe c b i=>?_,?_,λe c b i u z y=>?_⟩
 .grind
 .rcases aP.1 c with c|c
  .grind
  .exact e.st w w' (λb d v=>q.cv b v (P e c b d)) (H.own e (db _ c))
 .simp at c;subst c;exact h9
 .rcases aP.1 c with c|c
  .grind
  .exact H.new e (db _ c) b i
 .rw [eg,fh];refine⟨Z▸h7,B.2.1,λk ad ai hy r=>?_⟩;subst r;obtain⟨e,c,y⟩:=b'.1 hy
  grind
 .simp at c;subst c;have aa:b∈J.be h:=aU.1 i;rcases aP.1 z with z|z
  .grind
  .rcases d b aa with j|j|j
   .exact H.dj (.trees ts) us b (aU.2 j) u (db _ z) y
   .grind
   grind
def _root_.Go.W.O.XZ(H:O M w0 w (A++G) [.trees ts]){g:b5}{args:Array V}{K:aC}{Q:cZ->Addr->List FX->FX->Int->Int->List J->Prop}(n:∀own,O (·∈own) w w A [.trees ts]->ah U g args w (iT w own ts rb Q))(u:∀r h (e:Sl) (d:List FM) (j:FM) (k:Addr) (f i:Int) (c:List J),(∀t∈ts,t∈c)->(∀g∈d++[j],∀t∈g.ts,t∈c)->e.a=some k->(∀b∈J.be c,b∈J.be ts\/w0.heap.size<=b\/M b)->Q r (k.add (d.length *10)) (d.map FM.x) j.x f i c->SF M w0 h rb e f i d j G c->K r h)(l:∀b∈bs,En.g b∈G:=by simp):e8 bs U g args w K:=by
 have q:=H.nd;rw[eg,fh]at q;refine⟨(·∈A.flatMap (·.fp)),λb m p=>?_,(n _ (aal H)).mono ?_⟩
 .exact q.2.2 b p b (b'.2 ⟨_,l b m,by simp[En.g]⟩) rfl
 .rintro r h ⟨B,F,P,f,i,L,c,s,y,o,b,t,N⟩;obtain⟨e,d,j,k,rfl,rfl,C,E,rfl,D,z⟩:=aai H s y o b
  grind
def aak(H:O M w0 w L [.trees ts])(T:J)(e:T∈ts)(k:Int)(d c:UInt8):O M w0 w L [.trees (ts++[.mk k d c T.s T.l])]:=by
 have j:J.Ps w ts:=H.getD 0;have q:=H.eO (.trees (ts++[.mk k d c T.s T.l])) (Fr.refl _ _) (J.jL λt a=>?_) λb f=>.inr (.inr ⟨.trees ts,us,?_⟩)
 .exact q.forget _ us
 .rcases aP.1 a with a|a
  .exact j.mem a
  .simp at a;subst a;unfold J.P;exact(j.mem e).parts
 .obtain ⟨t,a,h⟩:=J.b0.1 (aU.1 f);rcases aP.1 a with a|a
  .exact aU.2 (J.b0.2 ⟨t,a,h⟩)
  .simp at a;rw[a]at h;exact aU.2 (J.b0.2 ⟨T,e,J.gP.2 ((J.gP (t:=.mk k d c T.s T.l)).1 h)⟩)
def aao{T:J}(a:T∈ts){k:Int}{lo hi:UInt8}{b:Nat}(h:b∈J.be (ts++[.mk k lo hi T.s T.l])):b∈J.be ts:=by
 obtain⟨t,d,e⟩:=J.b0.1 h;rcases aP.1 d with d|d
 .exact J.b0.2 ⟨t,d,e⟩
 .simp at d;rw[d]at e;exact J.b0.2 ⟨T,a,J.gP.2 ((J.gP (t:=.mk k lo hi T.s T.l)).1 e)⟩
def aaj(H:O M w0 w L [.trees ts])(T:J)(c:T∈ts):O M w0 w L [.trees (ts++T.l)]:=by
 have e:J.Ps w ts:=H.getD 0;have h:=H.eO (.trees (ts++T.l)) (Fr.refl _ _) (J.jL λt a=>?_) λb j=>.inr (.inr ⟨.trees ts,us,?_⟩)
 .exact h.forget _ us
 .rcases aP.1 a with a|a
  .exact e.mem a
  .exact (e.mem c).parts.2.mem a
 .obtain ⟨t,a,d⟩:=J.b0.1 (aU.1 j);rcases aP.1 a with a|a
  .exact aU.2 (J.b0.2 ⟨t,a,d⟩)
  .exact aU.2 (J.b0.2 ⟨T,c,J.gP.2 (.inr (J.b0.2 ⟨t,a,d⟩))⟩)
def ZJ{T:J}(a:T∈ts){b:Nat}(h:b∈J.be (ts++T.l)):b∈J.be ts:=by
 obtain⟨t,d,e⟩:=J.b0.1 h;rcases aP.1 d with d|d
 .exact J.b0.2 ⟨t,d,e⟩
 .exact J.b0.2 ⟨T,a,J.gP.2 (.inr (J.b0.2 ⟨t,d,e⟩))⟩
end
def Xv{w:I}{rb:Nat}{sl:Sl}{p:Addr}{n:Nat}(b:w.cell? ((aa rb).add 0)=some sl.v)(f:sl.n=n+1)(c:sl.a=some p)(g:n<=1000000):ah U AT #[.pointer (some (aa rb))] w λr e=>r=ab (.pointer (some (p.add (n *10))))/\af w e:=by
 have h:aE .i64 ((sl.n:Int) - 1)=(n:Int):=by rw[bH _ io];omega
 have d:w.drew.cell? ((aa rb).add 0)=some sl.v:=b;refine Hr.ok (show _ from⟨sl,d,sl,d,?_⟩);rw[h,c];exact⟨io,io,rfl,Fr.drew _ _⟩
def nV(k:Int)(l:List Rx):Rx:=if k<0 then l.headD fT else .mk k 0 0 l
def WV{w:I}{rb:Nat}{sl:Sl}{st wd:Int}{d:List FM}{g f:FM}{ts:List J}{p:Addr}{own:List Nat}(H:O (·∈own) w w [.c rb [sl.v,.int .i64 st,.int .i64 wd] yS,.row iL 10 sl (((d++[g])++[f]).flatMap FM.c),.rows ((d++[g]).flatMap FM.rows)] [.trees ts])(Y:∀q∈d++[g],∀t∈q.ts,t∈ts)(j:sl.a=some p)(hl:d.length<=999999)(T:J)(o:T∈ts)(hk:0<=f.k\/T.l≠[]):
  ah U Gf #[.pointer (some (aa rb)),T.s.v] w (iT w own ts rb λr _ af am aj ai _=>r=ab (.bool true)/\af=d.map FM.x/\am=jt g.x (nV f.k (J.ao T.l))/\aj=3/\ai=wd):=by
 have hn:sl.n=(d++[g]).length+1:=by
  have h:aJ w iL 10 sl (((d++[g])++[f]).flatMap FM.c):=H.get 1;have:=h.len;rw[q0]at this
  grind
 have aA:1<=sl.c:=by have h:aJ w iL 10 sl (((d++[g])++[f]).flatMap FM.c):=H.get 1;have:=h.cap;omega
 refine Su.ok (H.call (Xv (H.ld 0 0) hn j (by grind)) ?_);rintro _ w1 rfl S;refine⟨_,rfl,qf ⟨_,S.g8 1 rfl j 0,?_⟩⟩;have y:=S.drew;refine⟨sl,y.ld 0 0,sl,y.ld 0 0,?_⟩;have an:aE .i64 ((sl.n:Int) - 1)=(((d++[g]).length:Nat):Int):=by rw[bH _ (by grind)];omega
 rw[an];have h:aJ w iL 10 sl (((d++[g])++[f]).flatMap FM.c):=H.get 1;have aC:=h.cap;refine⟨io,io,?_⟩;have ev:Value.slice (if sl.c=0 then sl.a else sl.a.map (·.add (0 *10))) ((aY (((d++[g]).length:Nat):Int)) - 0) (sl.c - 0)=(⟨sl.a,(d++[g]).length,sl.c⟩:Sl).v:=by rw[ad io,j];show Value.slice (some (p.add 0)) _ _=Value.slice (some p) _ _;rw[iV];simp
 rw[ev];refine y.st 0 0 rfl λm W=>?_;have ar:aJ m iL 10 sl (((d++[g])++[f]).flatMap FM.c):=W.get 1;have ac:=ab4 ar j (d++[g]).length io;have et:(((d++[g])++[f]).flatMap FM.c).take ((d++[g]).length *10)=(d++[g]).flatMap FM.c:=by rw[eg,<-q0,List.take_left'];rfl
 rw[et]at ac;have H4:=W.fy 1 (.row iL 10 ⟨sl.a,(d++[g]).length,sl.c⟩ ((d++[g]).flatMap FM.c)) rfl (Fr.refl _ _) ac λb u=>.inl u;have z:SF (·∈own) w m rb ⟨sl.a,(d++[g]).length,sl.c⟩ st wd d g [] ts:=by grind
 refine bm (λQ=>?_) (λQ=>?_)
 .have K:f.k<0:=fk Q;have aq:T.l≠[]:=hk.resolve_left io;obtain⟨q,l,hx⟩:=List.exists_cons_of_ne_nil aq;have Z:bA 4 m T.s (T.l.flatMap J.c):=((show J.Ps m ts from z.getD 0).mem o).parts.1;have aB:=J.cw Z;refine⟨io,by grind,J.a4 Z (i:=0) (t:=q) (by grind) λaG hq c=>⟨_,_,_,_,c.c0,c.c1,c.c2,c.c3,?_⟩⟩;have A:=aaj z T o;refine(show SF (·∈own) w m rb ⟨sl.a,(d++[g]).length,sl.c⟩ st wd d g [] (ts++T.l)from A).zS (λP L t e=>cm _ (Y P L t e)) j (λae M=>DB M (by grind) q (by grind)) ?_;rintro _ w4 av ap f4 p4 aw az ax N D E C ⟨rfl,_,F,G,rfl,rfl⟩ B;refine⟨true,rfl,hZ B D E (λb u=>(C b u).imp (ZJ o) id) (λt e=>N t (cm _ e)) ⟨rfl,F,?_,rfl,rfl⟩⟩;rw[G,hx];unfold nV;rw[ag K];rfl
 .have K:¬f.k<0:=l5 Q;have A:=aak z T o f.k 0 0;refine(show SF (·∈own) w m rb ⟨sl.a,(d++[g]).length,sl.c⟩ st wd d g [] (ts++[.mk f.k 0 0 T.s T.l])from A).zS (λP L t e=>cm _ (Y P L t e)) j (λae M=>DB M (by grind) (.mk f.k 0 0 T.s T.l) us) ?_;rintro _ w4 av ap f4 p4 aw az ax N D E C ⟨rfl,_,F,G,rfl,rfl⟩ B;refine⟨true,rfl,hZ B D E (λb u=>(C b u).imp (aao o) id) (λt e=>N t (cm _ e)) ⟨rfl,F,?_,rfl,rfl⟩⟩;rw[G];unfold nV;rw[ad K];rfl
def mX(s:SX)(l:List Rx):Option SX:=match s.lo.getLast? with
 |none=>none
 |some g=>some ⟨s.lo.dropLast,jt g (nV s.tp.k l),3,s.wd⟩
def Ja(a:Sl)(f:FX):FX:=⟨f.k,(a,f.ar.2++[cO f]),[],[],[],0,f.la⟩
def gi(a:Sl)(t:Tk)(s:SX):Option SX:=
 if s.st=2 then(if t.k=40 then some ⟨s.lo++[s.tp],mx s.wd,1,s.wd⟩else none)
 else if s.st=1 then(if t.k=41 then mX s []else gj t s)
 else if s.st=0 then gj t s
 else if t.k=42 then some ⟨s.lo,jt s.tp (.mk 7 0 0 [s.tp.la]),s.st,s.wd⟩
 else if t.k=38 then some ⟨s.lo,lF s.tp,0,s.wd⟩
 else if t.k=124 then some ⟨s.lo,lE s.tp,0,s.wd⟩
 else if t.k=44 then(if s.tp.k<0 then none else some ⟨s.lo,Ja a s.tp,0,s.wd⟩)
 else if t.k=41 then(if s.lo=[]then none else mX s (s.tp.ar.2++[cO s.tp]))
 else if t.k=36 then(if s.lo=[]then some s else none)
 else gj t ⟨s.lo,mi s.tp,s.st,s.wd⟩
section
variable {M:Nat->Prop} {w0 w1:I} {bs:List Nat} {G:List En} {rb:Nat} {sl:Sl} {st wd:Int} {fs:List FM} {f:FM} {ts:List J} {p:Addr}
abbrev IF(M:Nat->Prop)(j w:I)(b:Nat)(e:Sl)(g k:Int)(a:List FM)(f:FM)(d:List ee)(G:List En)(i:List J):Prop:=O M j w (SL b e g k ((a++[f]).flatMap FM.c) d++G) [.trees i]
def RK(C:SF M w0 w1 rb sl st wd fs f G ts)(i:Nat){src:Sl}(hi:(SL rb sl st wd ((fs++[f]).flatMap FM.c) ((fs++[f]).flatMap FM.rows)++G)[i]? =some (.row aO 4 src z4))(B:sl.a=some p)(d:Nat)(j:1<=d)(l:d<=4)(t:J)(S:(f.aQ d).2.length<=1000000)(ao:src.n=1){K:I->Prop}(hK:∀e r,SF M w0 r rb sl st wd fs (f.put d (e,(f.aQ d).2++[t])) G ts->K r)(Z:∀b∈bs,En.g b∈G:=by simp):
  ∃(m:Sl) (o:I),(fL #[jh,jh] jh #[(f.aQ d).1.v,src.v]).run U w1=.ok (m.v) o/\kept bs w1 o/\(0:Int)<=(((f.aQ d).1.n:Nat):Int)/\(((f.aQ d).1.n:Nat):Int)<(m.n:Int)/\ea m.a λh=>
   ((aL o (h.add (aY (((f.aQ d).1.n:Nat):Int) *4)) (.int .i64 t.k) λu=>kept bs o u/\aL u ((h.add (aY (((f.aQ d).1.n:Nat):Int) *4)).add 1) (.int .u8 (t.lo.toNat:Int)) λq=>kept bs u q/\aL q ((h.add (aY (((f.aQ d).1.n:Nat):Int) *4)).add 2) (.int .u8 (t.hi.toNat:Int)) λw=>kept bs q w/\aL w ((h.add (aY (((f.aQ d).1.n:Nat):Int) *4)).add 3) t.s.v λx=>kept bs w x/\aL x ((p.add (fs.length *10)).add d) m.v λN=>kept bs x N/\K N)/\
   (aL o ((p.add (fs.length *10)).add d) m.v λE=>kept bs o E/\aL E (h.add (aY (((f.aQ d).1.n:Nat):Int) *4)) (.int .i64 t.k) λu=>kept bs E u/\aL u ((h.add (aY (((f.aQ d).1.n:Nat):Int) *4)).add 1) (.int .u8 (t.lo.toNat:Int)) λq=>kept bs u q/\aL q ((h.add (aY (((f.aQ d).1.n:Nat):Int) *4)).add 2) (.int .u8 (t.hi.toNat:Int)) λw=>kept bs q w/\aL w ((h.add (aY (((f.aQ d).1.n:Nat):Int) *4)).add 3) t.s.v λx=>kept bs w x/\K x)):=by
 have W:((fs++[f]).flatMap FM.rows)[fs.length *4+(d - 1)]? =some ((f.aQ d).1,(f.aQ d).2.flatMap J.c):=ru fs f (d - 1) _ (uz f j l);have nr:(f.aQ d).1.n=(f.aQ d).2.length:=by have B:(En.rows ((fs++[f]).flatMap FM.rows)).P w1:=C.get 2;exact J.cw (B.1 _ (ay W)).a9
 have A:∀{L:List En},∀b∈bs,En.g b∈L++G:=λb S=>db _ (Z b S);obtain⟨e,o,h1,aa,h3⟩:=C.zq (bs:=bs) (ty:=jh) 2 (fs.length *4+(d - 1)) (src:=src) (news:=z4) (K:=λe r=>IF M w0 r rb sl st wd fs f (((fs++[f]).flatMap FM.rows).set (fs.length *4+(d - 1)) (e,(f.aQ d).2.flatMap J.c++z4)) G ts/\e.n=(f.aQ d).1.n+1/\∃h,e.a=some h) rfl W (aJ.a9 (C.get i hi)) (by simp[Value.oneCell']) io (λe w4 Y an aj=>⟨Y,io,by
  cases hs:e.a with
  |none=>grind
  |some h=>grind⟩) A
 obtain⟨H,ae,h,F⟩:=h3;refine⟨e,o,h1,aa,io,io,?_⟩;rw[F];have T:fs.length *4+(d - 1)<((fs++[f]).flatMap FM.rows).length:=by grind
 have Q:∀(f:FM) (t:J) (d:Nat),(f.aQ d).2.flatMap J.c++t.c=((f.aQ d).2++[t]).flatMap J.c:=λf t d=>us
 rw[nr];refine⟨?_,?_⟩
 .refine O.vA (bs:=bs) H 2 (fs.length *4+(d - 1)) (f.aQ d).2.length t rfl (mC T) F (J.hU _) (λr y=>?_) A;have y:IF M w0 r rb sl st wd fs f ((((fs++[f]).flatMap FM.rows).set (fs.length *4+(d - 1)) (e,(f.aQ d).2.flatMap J.c++z4)).set (fs.length *4+(d - 1)) (e,(f.aQ d).2.flatMap J.c++t.c)) G ts:=y;rw[List.set_set,Q,uV fs f (e,(f.aQ d).2++[t]) j l]at y;exact y.je (bs:=bs) (f:=f) 1 (f.put d (e,(f.aQ d).2++[t])) d rfl B io (yd f (e,(f.aQ d).2++[t]) j l) (λD z=>hK e D z) A
 .refine H.je (bs:=bs) (f:=f) 1 (f.put d (e,(f.aQ d).2++[t])) d rfl B io (yd f (e,(f.aQ d).2++[t]) j l) (λr y=>?_) A;refine O.vA (bs:=bs) (L:=SL rb sl st wd ((fs++[f.put d (e,(f.aQ d).2++[t])]).flatMap FM.c) (((fs++[f]).flatMap FM.rows).set (fs.length *4+(d - 1)) (e,(f.aQ d).2.flatMap J.c++z4))++G) y 2 (fs.length *4+(d - 1)) (f.aQ d).2.length t rfl (mC T) F (J.hU _) (λD z=>?_) A;have z:O M w0 D (SL rb sl st wd ((fs++[f.put d (e,(f.aQ d).2++[t])]).flatMap FM.c) ((((fs++[f]).flatMap FM.rows).set (fs.length *4+(d - 1)) (e,(f.aQ d).2.flatMap J.c++z4)).set (fs.length *4+(d - 1)) (e,(f.aQ d).2.flatMap J.c++t.c))++G) [.trees ts]:=z;rw[List.set_set,Q,uV fs f (e,(f.aQ d).2++[t]) j l]at z
  grind
end
def sR{α:Type}(l:List α):l=[]\/∃a d,l=a++[d]:=by
 rcases List.eq_nil_or_concat l with e|⟨a,d,e⟩
 .grind
 grind
def Kg(a:List FX)(g b:FX)(d c:Int)(l:List Rx):mX ⟨a++[g],b,d,c⟩ l=some ⟨a,jt g (nV b.k l),3,c⟩:=by unfold mX;simp
def tU(t:Tk)(S:SX):cZ->Addr->List FX->FX->Int->Int->List J->Prop:=λr a b d c f e=>∃h,zc (gi h t S) r a b d c f e
def WX{w:I}{rb:Nat}{f0:Addr}{lo:List FX}{tp:FX}{st wd:Int}{own:List Nat}{ts:List J}(F:St w rb f0 lo tp st wd own ts)(hl:lo.length<=999999)(hs:Small tp 999999)(h1:st=1->0<=tp.k/\lo≠[])(t:Tk):
  ah U Gg #[.pointer (some (aa rb)),t.v] w (iT w own ts rb (tU t ⟨lo,tp,st,wd⟩)):=by
 obtain⟨sl,h,f,p,rfl,rfl,M,B,rfl,bT⟩:=Bc F;have cr:h.length<=999999:=by grind
 have bj:f.n<=999999:=hs.n';have aB:Small f.x 1000000:=⟨by have:=hs.n';omega,by have:=hs.ar;omega,by have:=hs.al;omega,by have:=hs.an;omega,by have:=hs.ca;omega⟩;have base:∀b∈J.be ts,b∈J.be ts\/w.heap.size<=b\/b∈own:=λb m=>.inl m
 let ax:Sl:=⟨none,0,0⟩
 refine yk.aq (bT.aw (bs:=[]) (λq w1 H1=>?_) us);have H1:SF (·∈own) w w1 rb sl st wd h f [.g q] ts:=H1;refine H1.av (zI H1 B io) ?_;rintro _ W rfl y;have y:SF (·∈own) w W rb sl st wd h f [.g q] ts:=y;refine⟨_,rfl,st,y.ld 0 1,?_⟩;have item:∀{W:I} {aL:Sl} {bD bE:Int} {aA:List FM} {f2:FM} {aH:List J} {p2:Addr},SF (·∈own) w W rb aL bD bE aA f2 [.g q] aH->(∀g∈aA++[f2],∀t∈g.ts,t∈aH)->aL.a=some p2->(∀b∈J.be aH,b∈J.be ts\/w.heap.size<=b\/b∈own)->(∀t∈ts,t∈aH)->aA.length<=1000000->f2.n<=1000000->
   gi ax t ⟨h.map FM.x,f.x,st,wd⟩=gj t ⟨aA.map FM.x,f2.x,bD,bE⟩->e8 [q] U Gh #[.pointer (some (aa rb)),t.v] W λr_ w5=>∃ai:Bool,r_=ab (.bool ai)/\iT w own ts rb (tU t ⟨h.map FM.x,f.x,st,wd⟩) (ab (.bool ai)) w5:=by
  intro W aL bD bE aA f2 aH p2 y bx bB bC bt bP ch he;refine y.mY (bs:=[q]) bx bB (λaK s1=>W8 s1 (by grind) ch t) ?_ us;rintro r w3 S L d p3 aC Y H Q E z N ck H4;have m:∀b∈J.be H,b∈J.be ts\/w.heap.size<=b\/b∈own:=λb m=>(N b m).elim (bC b) .inr;rcases ck with⟨hn,rfl⟩|⟨cl,rfl⟩
  .exact ⟨false,rfl,hZ H4 E z m (λt ht=>Q t (bt t ht)) ⟨ax,.inl ⟨he.trans hn,rfl⟩⟩⟩
  .exact ⟨true,rfl,hZ H4 E z m (λt ht=>Q t (bt t ht)) ⟨ax,.inr ⟨he.trans cl,rfl⟩⟩⟩
 have close:∀{W:I} {aL:Sl} {aA:List FM} {g2 f2:FM} {aH:List J} {p2:Addr} {j:Sl} (T:J),O (·∈own) w W ([.c rb [aL.v,.int .i64 st,.int .i64 wd] yS,.row iL 10 aL (((aA++[g2])++[f2]).flatMap FM.c),.rows ((aA++[g2]).flatMap FM.rows)]++[.g q]) [.trees aH]->(∀aj∈aA++[g2],∀t∈aj.ts,t∈aH)->aL.a=some p2->aA.length<=999999->T∈aH->(0<=f2.k\/T.l≠[])->(∀b∈J.be aH,b∈J.be ts\/w.heap.size<=b\/b∈own)->(∀t∈ts,t∈aH)->
   gi j t ⟨h.map FM.x,f.x,st,wd⟩=some ⟨aA.map FM.x,jt g2.x (nV f2.k (J.ao T.l)),3,wd⟩->e8 [q] U Gf #[.pointer (some (aa rb)),T.s.v] W λr_ w5=>∃ai:Bool,r_=ab (.bool ai)/\iT w own ts rb (tU t ⟨h.map FM.x,f.x,st,wd⟩) (ab (.bool ai)) w5:=by
  intro W aL aA g2 f2 aH p2 j T y bx bB bP hT Z bC bt he;refine O.XZ (rb:=rb) (bs:=[q]) y (λaK b1=>WV b1 bx bB bP T hT Z) ?_ us;rintro r w3 S L d p3 aC Y H Q E z N ⟨rfl,ap,A,rfl,rfl⟩ H4;refine⟨true,rfl,hZ H4 E z (λb m=>(N b m).elim (bC b) .inr) (λt ht=>Q t (bt t ht)) ⟨j,.inr ⟨?_,rfl⟩⟩⟩
  grind
 refine bm (λau=>?_) (λau=>?_)
 .have au:st=2:=eq_of_beq au;refine kf (n:=40) io (λZ:t.k=40=>⟨wd,y.ld 0 2,?_⟩) (λZ:t.k≠40=>?_)
  .refine y.mY (bs:=[q]) M B (λaK s1=>JV s1 io wd 1) ?_ us;rintro _ w3 S L d p3 aC Y H Q E z N ⟨rfl,ap,A,rfl,rfl⟩ H4;refine⟨true,rfl,hZ H4 E z N Q ⟨ax,.inr ⟨?_,rfl⟩⟩⟩;rw[ap,A];unfold gi
   grind
  .refine hZ y M B base (λ_ F=>F) ⟨ax,.inl ⟨?_,rfl⟩⟩;unfold gi
   grind
 have n2:st≠2:=λac=>by grind
 refine bm (λaf=>?_) (λaf=>?_)
 .have af:st=1:=eq_of_beq af;obtain⟨b9,ct⟩:=h1 af;refine kf (n:=41) io (λZ:t.k=41=>?_) (λZ:t.k≠41=>?_)
  .rcases sR h with rfl|⟨aN,g,rfl⟩
   .grind
   have H3:=HK y 3 0 0;have er:(((aN++[g])++[f]).flatMap FM.rows)=(aN++[g]).flatMap FM.rows++f.rows:=by grind
   have H4:O (·∈own) w W (SL rb sl st wd (((aN++[g])++[f]).flatMap FM.c) ((aN++[g]).flatMap FM.rows++f.rows)++[.g q]) [.trees (ts++[.mk 3 0 0 ⟨none,0,0⟩ []])]:=by grind
   have H5:=SV H4 2 rfl;refine close (j:=ax) (.mk 3 0 0 ⟨none,0,0⟩ []) H5 (λaj hx u i=>cm _ (M aj (cm _ hx) u i)) B (by grind) us (.inl b9) (λb m=>.inl (An m)) (λu i=>cm _ i) ?_;unfold gi;refine(ad n2).trans ((ag af).trans ((ag Z).trans ?_));rw[fv];exact Kg _ _ _ _ _ _
  .refine item y M B base (λ_ F=>F) io io ?_;unfold gi
   grind
 have n1:st≠1:=λac=>by grind
 refine bm (λak=>?_) (λak=>?_)
 .have ak:st=0:=eq_of_beq ak;refine item y M B base (λ_ F=>F) io io ?_;unfold gi
  grind
 have n0:st≠0:=λac=>by grind
 have a8:∀j:Sl,gi j t ⟨h.map FM.x,f.x,st,wd⟩=(if t.k=42 then some ⟨h.map FM.x,jt f.x (.mk 7 0 0 [f.x.la]),st,wd⟩
   else if t.k=38 then some ⟨h.map FM.x,lF f.x,0,wd⟩
   else if t.k=124 then some ⟨h.map FM.x,lE f.x,0,wd⟩
   else if t.k=44 then(if f.x.k<0 then none else some ⟨h.map FM.x,Ja j f.x,0,wd⟩)
   else if t.k=41 then(if h.map FM.x=[]then none else mX ⟨h.map FM.x,f.x,st,wd⟩ (f.x.ar.2++[cO f.x]))
   else if t.k=36 then(if h.map FM.x=[]then some ⟨h.map FM.x,f.x,st,wd⟩else none)
   else gj t ⟨h.map FM.x,mi f.x,st,wd⟩):=λj=>by
  unfold gi
  grind
 refine kf (n:=42) io (λZ:t.k=42=>?_) (λbw:t.k≠42=>kf (n:=38) io (λZ:t.k=38=>?_) (λbv:t.k≠38=>kf (n:=124) io (λZ:t.k=124=>?_) (λam:t.k≠124=>kf (n:=44) io (λZ:t.k=44=>?_) (λbk:t.k≠44=>kf (n:=41) io (λZ:t.k=41=>?_) (λce:t.k≠41=>kf (n:=36) io (λZ:t.k=36=>?_) (λcd:t.k≠36=>?_))))))
 .obtain ⟨c0,c1,c2,c3⟩:=y.MT 1 rfl B;refine qf ⟨_,_,_,_,c0,c1,c2,c3,?_⟩;refine y.fe (e:=aO) (sz:=4) (n:=1) (cs:=f.la.c) rfl dl λw7 H7=>qf ?_;have a1:((p.add (h.length *10)).add 6).add 1=(p.add (h.length *10)).add 7:=add_add _ 6 1;have b2:((p.add (h.length *10)).add 6).add 2=(p.add (h.length *10)).add 8:=add_add _ 6 2;have a3:((p.add (h.length *10)).add 6).add 3=(p.add (h.length *10)).add 9:=add_add _ 6 3;rw[a1,b2,a3];refine H7.je (bs:=[q]) (f:=f) 1 ⟨f.k,f.ar,f.al,f.an,f.ca,f.n,.mk 7 f.la.lo f.la.hi f.la.s f.la.l⟩ 6 rfl B io rfl (λw8 H8=>?_) us;refine H8.je (bs:=[q]) (f:=⟨f.k,f.ar,f.al,f.an,f.ca,f.n,.mk 7 f.la.lo f.la.hi f.la.s f.la.l⟩) 1 ⟨f.k,f.ar,f.al,f.an,f.ca,f.n,.mk 7 0 f.la.hi f.la.s f.la.l⟩ 7 rfl B io rfl (λw9 H9=>?_) us;refine H9.je (bs:=[q]) (f:=⟨f.k,f.ar,f.al,f.an,f.ca,f.n,.mk 7 0 f.la.hi f.la.s f.la.l⟩) 1 ⟨f.k,f.ar,f.al,f.an,f.ca,f.n,.mk 7 0 0 f.la.s f.la.l⟩ 8 rfl B io rfl (λcf bi=>?_) us;refine bi.je (bs:=[q]) (f:=⟨f.k,f.ar,f.al,f.an,f.ca,f.n,.mk 7 0 0 f.la.s f.la.l⟩) 1 ⟨f.k,f.ar,f.al,f.an,f.ca,f.n,.mk 7 0 0 ⟨some (aa W.heap.size),1,1⟩ [f.la]⟩ 9 rfl B io rfl (λbd bJ=>?_) us;have cg:f.la∈ts:=M f us _ (by simp[FM.ts]);have bU:=bJ.freeze 4 (J.row ⟨some (aa W.heap.size),1,1⟩ [f.la]) rfl (by show bA 4 bd _ ([f.la].flatMap J.c);rw[show[f.la].flatMap J.c=f.la.c by simp];exact aJ.a9 (bJ.get 4)) (λb m=>gY (e:=aO) (vs:=[f.la].flatMap J.c) m);have bV:=bU.node 0 7 0 0 (s:=⟨some (aa W.heap.size),1,1⟩) (ks:=[f.la]) rfl us (λt ht=>by grind);have er:(h++[f]).flatMap FM.rows=(h++[(⟨f.k,f.ar,f.al,f.an,f.ca,f.n,.mk 7 0 0 ⟨some (aa W.heap.size),1,1⟩ [f.la]⟩:FM)]).flatMap FM.rows:=by simp[FM.rows]
  have bW:SF (·∈own) w bd rb sl st wd h ⟨f.k,f.ar,f.al,f.an,f.ca,f.n,.mk 7 0 0 ⟨some (aa W.heap.size),1,1⟩ [f.la]⟩ [.g q] (ts++[.mk 7 0 0 ⟨some (aa W.heap.size),1,1⟩ [f.la]]):=by show O _ _ _ (SL rb sl st wd _ ((h++[(⟨f.k,f.ar,f.al,f.an,f.ca,f.n,.mk 7 0 0 ⟨some (aa W.heap.size),1,1⟩ [f.la]⟩:FM)]).flatMap FM.rows)++_) _;rw[<-er];exact bV
  refine hZ bW (λg hg u i=>?_) B (λb m=>?_) (λu i=>cm _ i) ⟨ax,.inr ⟨?_,rfl⟩⟩
  .rcases aP.1 hg with hg|hg
   .grind
   .simp at hg;subst hg;simp only[FM.ts,aP,aF,aW,a2]at i;rcases i with(((i|i)|i)|i)|rfl
    .exact cm _ (M f us u (by simp[FM.ts,i]))
    .exact cm _ (M f us u (by simp[FM.ts,i]))
    .exact cm _ (M f us u (by simp[FM.ts,i]))
    .exact cm _ (M f us u (by simp[FM.ts,i]))
    .simp
  .obtain ⟨u,i,aS⟩:=J.b0.1 m;rcases aP.1 i with i|i
   .exact .inl (J.b0.2 ⟨u,i,aS⟩)
   .simp at i;rw[i]at aS;rcases J.gP.1 aS with aS|aS
    .have:=gY (e:=aO) aS;simp[En.row,aG,J.s]at this;subst this;exact .inr (.inl y.fr.size)
    .obtain ⟨t',aI,ba⟩:=J.b0.1 aS;simp[J.l]at aI;rw[aI]at ba;exact .inl (J.b0.2 ⟨f.la,cg,ba⟩)
  .rw [a8,ag Z];rfl
 .refine y.mY (bs:=[q]) M B (λaK s1=>zx (JM s1 aB.n' aB.ca aB.an)) ?_ us;rintro _ w3 S L d p3 aC Y H Q E z N ⟨rfl,bN,ap,A,rfl,rfl⟩ H3;refine⟨rfl,H3.vU (bs:=[q]) 0 1 rfl (λw4 H4=>?_) us us⟩;refine hZ (show SF (·∈own) w w4 rb S 0 Y L d [.g q] H from H4) E z N Q ⟨ax,.inr ⟨?_,rfl⟩⟩
  grind
 .refine y.mY (bs:=[q]) M B (λaK s1=>zx (JK s1 aB.n' aB.ca aB.an aB.al)) ?_ us;rintro _ w3 S L d p3 aC Y H Q E z N ⟨rfl,bN,ap,A,rfl,rfl⟩ H3;refine⟨rfl,H3.vU (bs:=[q]) 0 1 rfl (λw4 H4=>?_) us us⟩;refine hZ (show SF (·∈own) w w4 rb S 0 Y L d [.g q] H from H4) E z N Q ⟨ax,.inr ⟨?_,rfl⟩⟩
  grind
 .refine qf ⟨f.k,y.g8 1 rfl B 0,bm (λh0=>?_) (λh0=>?_)⟩
  .refine hZ y M B base (λ_ F=>F) ⟨ax,.inl ⟨?_,rfl⟩⟩;rw[a8,ad bw,ad bv,ad am,ag Z];exact ag (fk h0)
  have fin:∀{w5:I} {S:Sl} {L:List FM} {d:FM} {p3:Addr} {H:List J} {j:Sl} {u:J} {G:List En},SF (·∈own) w w5 rb S st wd L (d.put 1 (j,(d.aQ 1).2++[u])) G H->(∀g∈L++[d],∀t∈g.ts,t∈H)->S.a=some p3->(∀b∈J.be H,b∈J.be ts\/w.heap.size<=b\/b∈own)->(∀t∈ts,t∈H)->L.map FM.x=h.map FM.x->d.x=Ek f.x->u∈H->u.rx=cO f.x->
    yk.bg (aa rb) w5 (iT w own ts rb (tU t ⟨h.map FM.x,f.x,st,wd⟩)):=by
   intro w5 S L d p3 H j u G H5 E z b4 co ap A i hx;refine H5.st 0 1 rfl λw6 H6=>?_;refine hZ (show SF (·∈own) w w6 rb S 0 wd L (d.put 1 (j,(d.aQ 1).2++[u])) G H from H6) (λg hg v o=>?_) z b4 co ⟨j,.inr ⟨?_,rfl⟩⟩
   .rcases aP.1 hg with hg|hg
    .grind
    .simp at hg;subst hg;rcases Bq _ _ io io o with F|F
     .grind
     .rcases aP.1 F with F|F
      .exact E d us v (pD d 1 F)
      grind
   .have e1:d.k=f.k:=by have:=congrArg FX.k A;exact this
    have e2:J.ao d.ar.2=J.ao f.ar.2:=by have:=congrArg (λaj:FX=>aj.ar.2) A;exact this
    have e3:J.ao d.al.2=[]:=by have:=congrArg FX.al A;exact this
    have e4:J.ao d.an.2=[]:=by have:=congrArg FX.an A;exact this
    have e5:J.ao d.ca.2=[]:=by have:=congrArg FX.ca A;exact this
    have e6:d.n=0:=by have:=congrArg FX.n A;exact this
    have e7:d.la.rx=f.x.la:=by have:=congrArg FX.la A;exact this
    rw[a8,ad bw,ad bv,ad am,ag Z];refine(ad (l5 h0)).trans ?_;show some (SX.mk _ ⟨_,(j,J.ao f.ar.2++[cO f.x]),[],[],[],0,f.x.la⟩ 0 wd)=some (SX.mk (L.map FM.x) ⟨d.k,(j,J.ao (d.ar.2++[u])),J.ao d.al.2,J.ao d.an.2,J.ao d.ca.2,d.n,d.la.rx⟩ 0 wd);rw[ap,e1,e3,e4,e5,e6,e7,k0,e2];show some (SX.mk _ ⟨_,(j,J.ao f.ar.2++[cO f.x]),[],[],[],0,f.x.la⟩ 0 wd)=some (SX.mk _ ⟨_,(j,J.ao f.ar.2++[u.rx]),[],[],[],0,f.x.la⟩ 0 wd);rw[hx];rfl
  refine qf (y.ae (bs:=[q]) (λbL bu=>⟨f.ar.1,bu.g8 1 rfl B 1,?_,?_⟩) us)
  .refine (show SF (·∈own) w bL rb sl st wd h f [.g q] ts from bu).mY (bs:=[q]) M B (λaK s1=>zE s1 aB) ?_ us;rintro r bS S L d p3 aC Y H Q E z N ⟨a4,ap,A,rfl,rfl,u,i,rfl,hx⟩ aX;have aZ:d.ar.1=f.ar.1:=by have:=congrArg (λaj:FX=>aj.ar.1) A;exact this
   refine⟨u.k,u.lo.toNat,u.hi.toNat,u.s,rfl,?_⟩;rw[<-a4,<-aZ];refine⟨aX.g8 1 rfl z 1,aX.fe (e:=aO) (sz:=4) (n:=1) (cs:=z4) rfl dl λb3 az=>⟨az.g8 1 rfl z 1,?_⟩⟩;have bl:(d.aQ 1).2.length<=1000000:=by have ac:d.x.ar.2.length=d.ar.2.length:=(EP d).1;rw[A]at ac;have:f.x.ar.2.length<=999999:=hs.ar;show d.ar.2.length<=_;rw[<-ac];show f.x.ar.2.length<=_;omega
   exact RK (bs:=[q]) (K:=λw5=>yk.bg (aa rb) w5 (iT w own ts rb (tU t ⟨h.map FM.x,f.x,aC,Y⟩))) (show SF (·∈own) w b3 rb S aC Y L d ([.g q]++[.row aO 4 ⟨some (aa bS.heap.size),1,1⟩ z4]) H from az) 4 rfl z 1 io io u bl rfl (λj w5 H5=>fin H5 E z N Q ap A i hx) us
  .refine bu.fe (e:=aO) (sz:=4) (n:=1) (cs:=z4) rfl dl λbn bb=>⟨bb.g8 1 rfl B 1,?_⟩;refine(show SF (·∈own) w bn rb sl st wd h f ([.g q]++[.row aO 4 ⟨some (aa bL.heap.size),1,1⟩ z4]) ts from bb).mY (bs:=[q]) M B (λaK s1=>zE s1 aB) ?_ us;rintro r bS S L d p3 aC Y H Q E z N ⟨a4,ap,A,rfl,rfl,u,i,rfl,hx⟩ aX;have aZ:d.ar.1=f.ar.1:=by have:=congrArg (λaj:FX=>aj.ar.1) A;exact this
   refine⟨u.k,u.lo.toNat,u.hi.toNat,u.s,rfl,?_⟩;rw[<-a4,<-aZ];refine⟨aX.g8 1 rfl z 1,?_⟩;have bl:(d.aQ 1).2.length<=1000000:=by have ac:d.x.ar.2.length=d.ar.2.length:=(EP d).1;rw[A]at ac;have:f.x.ar.2.length<=999999:=hs.ar;show d.ar.2.length<=_;rw[<-ac];show f.x.ar.2.length<=_;omega
   exact RK (bs:=[q]) (K:=λw5=>yk.bg (aa rb) w5 (iT w own ts rb (tU t ⟨h.map FM.x,f.x,aC,Y⟩))) aX 4 rfl z 1 io io u bl rfl (λj w5 H5=>fin H5 E z N Q ap A i hx) us
 .refine y.ae (bs:=[q]) (λbo aM=>⟨sl,aM.ld 0 0,?_⟩) us;have aM:SF (·∈own) w bo rb sl st wd h f [.g q] ts:=aM;have cn:=BN aM;rcases sR h with rfl|⟨aN,g,rfl⟩
  .refine aT (a7 (by grind)) ?_;refine hZ aM M B base (λ_ F=>F) ⟨ax,.inl ⟨?_,rfl⟩⟩
   grind
  .refine aR (a6 (by grind)) (qf ⟨f.ar.1,aM.g8 1 rfl B 1,?_⟩);refine aM.mY (bs:=[q]) M B (λaK s1=>zE s1 aB) ?_ us;rintro r cq S L d p3 aC Y H Q E z N ⟨a4,ap,A,rfl,rfl,u,i,rfl,hx⟩ bF;have aZ:d.ar.1=f.ar.1:=by have:=congrArg (λaj:FX=>aj.ar.1) A;exact this
   refine⟨u.k,u.lo.toNat,u.hi.toNat,u.s,rfl,?_⟩;rw[<-a4,<-aZ];refine⟨bF.g8 1 rfl z 1,bF.fe (e:=aO) (sz:=4) (n:=1) (cs:=u.c) rfl dl λbp a5=>⟨a5.g8 1 rfl z 1,?_⟩⟩;have b7:∃C D,L=C++[D]/\C.map FM.x=aN.map FM.x/\D.x=g.x:=by
    rcases sR L with rfl|⟨C,D,rfl⟩
    .grind
    .refine ⟨C,D,rfl,?_⟩;rw[fv,fv]at ap;have:=List.append_inj' ap rfl
     grind
   obtain⟨C,D,rfl,b6,b8⟩:=b7;have bR:(((C++[D])++[d]).flatMap FM.rows)[(C++[D]).length *4+0]? =some (d.ar.1,d.ar.2.flatMap J.c):=ru (C++[D]) d 0 _ rfl;have bl:d.ar.2.length<=999999:=by have ac:d.x.ar.2.length=d.ar.2.length:=(EP d).1;rw[A]at ac;have:f.x.ar.2.length<=999999:=hs.ar;rw[<-ac];exact this
   have nr:d.ar.1.n=d.ar.2.length:=by have hp:(En.rows (((C++[D])++[d]).flatMap FM.rows)).P bp:=a5.get 2;exact J.cw (hp.1 _ (ay bR)).a9
   refine a5.zq (bs:=[q]) 2 ((C++[D]).length *4+0) (src:=⟨some (aa cq.heap.size),1,1⟩) (news:=u.c) rfl bR (aJ.a9 (a5.get 4)) (by simp[Value.oneCell',J.c]) (by grind) (λj bq bc bj br=>?_) us;have bO:(C++[D]).length *4+0<(((C++[D])++[d]).flatMap FM.rows).length:=by grind
   have ci:∀b∈aG j,b∈own\/w.heap.size<=b:=λb m=>(bc.new (.rows ((((C++[D])++[d]).flatMap FM.rows).set ((C++[D]).length *4+0) (j,d.ar.2.flatMap J.c++u.c))) us b (aU.2 (b'.2 ⟨_,ay (mC bO),m⟩))).symm;have bG:=bc.ER 2 ((C++[D]).length *4+0) rfl (mC bO);have ec:d.ar.2.flatMap J.c++u.c=(d.ar.2++[u]).flatMap J.c:=us
   rw[ec]at bG;have bX:=bG.node 0 3 0 0 (s:=j) (ks:=d.ar.2++[u]) rfl (db _ (List.mem_singleton.2 rfl)) (λv o=>by
    rcases aP.1 o with o|o
    .exact E d us v (pD d 1 o)
    grind)
   have er:(((((C++[D])++[d]).flatMap FM.rows).set ((C++[D]).length *4+0) (j,(d.ar.2++[u]).flatMap J.c)).set ((C++[D]).length *4+0) (⟨none,0,0⟩,[]))=(C++[D]).flatMap FM.rows++d.rows.set 0 (⟨none,0,0⟩,[]):=by rw[List.set_set];exact HA (C++[D]) d 0 _ io
   have bY:O (·∈own) w bq (SL rb S aC Y (((C++[D])++[d]).flatMap FM.c) ((C++[D]).flatMap FM.rows++d.rows.set 0 (⟨none,0,0⟩,[]))++[.g q]) [.trees (H++[.mk 3 0 0 j (d.ar.2++[u])])]:=by rw[<-er];exact bX.take 4
   have bZ:=SV bY 2 rfl;have cc:d.k=f.k:=by have:=congrArg FX.k A;exact this
   refine close (j:=ax) (.mk 3 0 0 j (d.ar.2++[u])) bZ (λaj hx v o=>cm _ (E aj (cm _ hx) v o)) z ?_ us (.inr (by simp[J.l])) ?_ (λv o=>cm _ (Q v o)) ?_
   .grind
   .intro b m;obtain⟨v,o,aV⟩:=J.b0.1 m;rcases aP.1 o with o|o
    .exact N b (J.b0.2 ⟨v,o,aV⟩)
    .simp at o;rw[o]at aV;rcases J.gP.1 aV with aV|aV
     .exact .inr (ci b (gY (e:=aO) aV)).symm
     .obtain ⟨t',aI,ba⟩:=J.b0.1 aV;have aI:t'∈d.ar.2++[u]:=aI;refine N b (J.b0.2 ⟨t',?_,ba⟩);rcases aP.1 aI with aI|aI
      .exact E d us t' (pD d 1 aI)
      grind
   .rw [a8,ad bw,ad bv,ad am,ad bk,ag Z];refine(ad us).trans ?_;rw[fv];refine(Kg _ _ _ _ _ _).trans ?_;have e2:J.ao d.ar.2=f.x.ar.2:=by have:=congrArg (λaj:FX=>aj.ar.2) A;exact this
    rw[b6,b8,cc];show _=some (SX.mk _ (jt g.x (nV f.k (J.ao (d.ar.2++[u])))) 3 Y);rw[k0,e2];show _=some (SX.mk _ (jt g.x (nV f.k (f.x.ar.2++[u.rx]))) 3 Y);rw[hx];rfl
 .refine ⟨sl,y.ld 0 0,?_⟩;have cn:=BN y;rcases sR h with rfl|⟨aN,g,rfl⟩
  .have ac:((sl.n:Int)==1)=true:=by grind
   rw[ac];refine hZ y M B base (λ_ F=>F) ⟨ax,.inr ⟨?_,rfl⟩⟩
   grind
  .have ac:((sl.n:Int)==1)=false:=by grind
   rw[ac];refine hZ y M B base (λ_ F=>F) ⟨ax,.inl ⟨?_,rfl⟩⟩
   grind
 .refine y.mY (bs:=[q]) M B (λaK s1=>zx (JL s1 aB.n' aB.ca)) ?_ us;rintro _ w3 S L d p3 aC Y H Q E z N ⟨rfl,bN,ap,A,rfl,rfl⟩ H3;refine⟨rfl,item H3 E z N Q ?_ ?_ ?_⟩
  .grind
  .have e5:d.n=0:=by have:=congrArg FX.n A;exact this
   omega
  grind
def adp(s:ByteArray)(c:UInt8)(w:I):Sem.run U (callFunc vb #[.string s,.int .u8 (c.toNat:Int)]) w=.ok (.value (.int .i64 (Go.Lib.indexByte (bl s) c))) w:=by have d:=run_callFunc_indexByte (P:=U) (f:=vb) (fn:=(Tryz.prog.funcs[vb]?).getD default) (by kernel_rfl) (by kernel_rfl) (by kernel_rfl) (by kernel_rfl) (by kernel_rfl) #[.string s,.int .u8 (c.toNat:Int)] w;rw[d,Go.Lib.run_indexByteString];show Result.ok _ w=_;congr 4;simp
def HG(s:ByteArray)(c:UInt8)(w:I):ah U Gk #[.string s,.int .u8 (c.toNat:Int)] w λr a=>r=ab (.int .i64 (Go.Lib.indexByte (bl s) c))/\af w a:=by
 refine H2.ok ?_;refine(show ah U FT #[.string s,.int .u8 (c.toNat:Int)] w λr a=>r=ab (.int .i64 (Go.Lib.indexByte (bl s) c))/\w=a from ?_).mono ?_
 .exact E6.ok ⟨_,w,adp s c w,rfl,rfl⟩
 .rintro r d ⟨rfl,rfl⟩;exact⟨_,rfl,rfl,Fr.refl _ _⟩
def k6(c:UInt8):Bool:=ak (97<=c.toNat)&&ak (c.toNat<=122)
def vy(c:UInt8):Bool:=ak (32<=c.toNat)&&(ak (c.toNat<=126)&&(!decide (c=39)&&!decide (c=92)))
def zH(c:UInt8)(w:I):ah U Pj #[.int .u8 (c.toNat:Int)] w λr a=>r=ab (.bool (k6 c))/\af w a:=by
 refine Sx.ok (aS (λd=>⟨?_,Fr.refl _ _⟩) (λd=>⟨?_,Fr.refl _ _⟩))
 .unfold k6;rw[a6 (show 97<=c.toNat by omega),Bool.true_and];rw[show ak ((c.toNat:Int)<=122)=ak (c.toNat<=122)from decide_eq_decide.2 io]
 .unfold k6;rw[a7 (show ¬97<=c.toNat by omega),Bool.false_and]
def UZ(c:UInt8)(n:Nat)(a:n<256):((c.toNat:Int)==(n:Int))=ak (c=c9 n):=by
 have d:c.toNat=n↔c=c9 n:=by rw[<-UInt8.toNat_inj,UInt8.toNat_ofNat'];omega
 rw[Bool.eq_iff_iff,beq_iff_eq,decide_eq_true_iff,<-d];omega
def JS(c:UInt8)(w:I):ah U Pf #[.int .u8 (c.toNat:Int)] w λr d=>r=ab (.bool (vy c))/\af w d:=by
 have e:((c.toNat:Int) !=39)= !decide (c=39):=by have:=UZ c 39 io;show(!((c.toNat:Int)==((39:Nat):Int)))=_;rw[this];rfl
 have h:((c.toNat:Int) !=92)= !decide (c=92):=by have:=UZ c 92 io;show(!((c.toNat:Int)==((92:Nat):Int)))=_;rw[this];rfl
 refine Sq.ok ?_;rw[e,h];unfold vy;refine aS (λj=>?_) (λj=>⟨?_,Fr.refl _ _⟩)
 .rw [a6 (show 32<=c.toNat by omega),Bool.true_and];refine aS (λb=>?_) (λb=>⟨?_,Fr.refl _ _⟩)
  .rw [a6 (show c.toNat<=126 by omega),Bool.true_and];refine bm (λa=>⟨?_,Fr.refl _ _⟩) (λa=>⟨?_,Fr.refl _ _⟩)
   .rw [a,Bool.true_and]
   .rw [a,Bool.false_and]
  .rw [a7 (show ¬c.toNat<=126 by omega),Bool.false_and]
 .rw [a7 (show ¬32<=c.toNat by omega),Bool.false_and]
def Ws{s:ByteArray}{l:List UInt8}(e:bl s=l)(i:Nat):s[i]? =l[i]?:=by
 subst e;by_cases d:i<s.size
 .rw [getElem?_pos s i d,a0 (by rw[dd];exact d)];rfl
 .rw [getElem?_neg s i d,List.getElem?_eq_none (by rw[dd];omega)]
def mF{s:ByteArray}{i:Nat}(d:i<s.size):s[i]? =some ((bl s).getD i 0):=by
 rw[Ws (s:=s) (l:=bl s) rfl i];have e:i<(bl s).length:=by rw[dd];exact d
 rw[List.getD_eq_getElem?_getD,a0 e];rfl
def q3:List UInt8:=[48,49,50,51,52,53,54,55,56,57,97,98,99,100,101,102]
def Zh(a b:Int):UInt8:=c9 (aE .u8 (qM .i64 (aE .i64 (a *2^4)) b)).toNat
def lB(l:List UInt8)(i:Nat):Option (UInt8×Nat):=
 if i+2<l.length/\l.getD i 0=39/\vy (l.getD (i+1) 0)=true/\l.getD (i+2) 0=39 then some (l.getD (i+1) 0,3)
 else if i+3<l.length/\l.getD i 0=92/\l.getD (i+1) 0=120/\0<=Go.Lib.indexByte q3 (l.getD (i+2) 0)/\0<=Go.Lib.indexByte q3 (l.getD (i+3) 0)then some (Zh (Go.Lib.indexByte q3 (l.getD (i+2) 0)) (Go.Lib.indexByte q3 (l.getD (i+3) 0)),4)
 else none
def Eu:Option (UInt8×Nat)->V
 |none=>.tuple #[.int .u8 0,.int .i64 0,.bool false]
 |some (b,n)=>.tuple #[.int .u8 (b.toNat:Int),.int .i64 (n:Int),.bool true]
def Ch{x:UInt8}{n:Nat}{A d:Prop}(c:n<256)(a:x=c9 n->A)(b:x≠c9 n->d):bK ((x.toNat:Int)==(n:Int)) A d:=kf c a b
def afp(x:Int):((c9 (aE .u8 x).toNat).toNat:Int)=aE .u8 x:=by rw[UInt8.toNat_ofNat',IntKind.wrap_u8];omega
def DC(s:ByteArray)(i:Nat)(q:i<=1000000)(w:I):ah U O7 #[.string s,.int .i64 (i:Int)] w λr a=>r=ab (Eu (lB (bl s) i))/\af w a:=by
 have A:aE .i64 ((i:Int)+1)=((i+1:Nat):Int):=by rw[bH _ io];omega
 have B:aE .i64 ((i:Int)+2)=((i+2:Nat):Int):=by rw[bH _ io];omega
 have F:aE .i64 ((i:Int)+3)=((i+3:Nat):Int):=by rw[bH _ io];omega
 have H:(bl s).length=s.size:=dd s;have h:¬(i+2<(bl s).length/\(bl s).getD i 0=39/\vy ((bl s).getD (i+1) 0)=true/\(bl s).getD (i+2) 0=39)->∀a,af w a->Bt.S0 s i a (λr a=>r=ab (Eu (lB (bl s) i))/\af w a):=by
  intro C a c;have no:¬(i+3<(bl s).length/\(bl s).getD i 0=92/\(bl s).getD (i+1) 0=120/\0<=Go.Lib.indexByte q3 ((bl s).getD (i+2) 0)/\0<=Go.Lib.indexByte q3 ((bl s).getD (i+3) 0))->∀a,af w a->Bt.S1 a (λr a=>r=ab (Eu (lB (bl s) i))/\af w a):=λp a c=>by refine⟨?_,c⟩;unfold lB;rw[ad C,ad p];rfl
  show bK _ _ _;rw[F,B,A];refine aS (λo=>⟨io,_,mF (i:=i) io,Ch (n:=92) io (λb=>⟨io,_,mF (i:=i+1) io,Ch (n:=120) io (λy=>?_) (λy=>no (λd=>y d.2.2.1) a c)⟩) (λb=>no (λd=>b d.2.1) a c)⟩) (λo=>no (λd=>io) a c);refine(show O F0 w a [] []from((O.start (M:=F0) (w:=w) [] us).cB c)).dr λz l=>⟨io,_,mF (i:=i+2) io,io,_,mF (i:=i+3) io,l.call (HG _ _ _) ?_⟩;rintro _ J rfl E;refine⟨_,rfl,E.call (HG _ _ _) ?_⟩;rintro _ D rfl j;refine⟨_,rfl,?_⟩;show bK (ak (Go.Lib.indexByte q3 _>=0)) (bK (ak (Go.Lib.indexByte q3 _>=0)) _ _) _;refine aS (λk=>aS (λf=>⟨?_,j.fr⟩) (λf=>no (λd=>f d.2.2.2.2) D j.fr)) (λk=>no (λd=>k d.2.2.2.1) D j.fr);unfold lB;rw[ad C,ag ⟨io,b,y,k,f⟩];exact congrArg (λG=>Ending.returned (.tuple #[.int .u8 G,.int .i64 4,.bool true])) (afp _).symm
 refine Bt.ok ?_;rw[B,A];refine aS (λm=>⟨io,_,mF (i:=i) io,Ch (n:=39) io (λb=>⟨io,_,mF (i:=i+1) io,(JS _ w).mono ?_⟩) (λb=>h (λd=>b d.2.1) w (Fr.refl _ _))⟩) (λm=>h (λd=>io) w (Fr.refl _ _));rintro _ z ⟨rfl,x⟩;refine⟨_,rfl,bm (λe=>⟨io,_,mF (i:=i+2) io,Ch (n:=39) io (λg=>⟨io,_,mF (i:=i+1) io,?_,x⟩) (λg=>h (λd=>g d.2.2.2) z x)⟩) (λe=>h (λd=>by rw[d.2.2.1]at e;cases e) z x)⟩;unfold lB;rw[ag ⟨io,b,e,g⟩];rfl
def TD:List UInt8:=[40,41,44,124,38,33,42]
def e4(l:List UInt8)(i:Nat):Tk×Nat:=
 if 0<=Go.Lib.indexByte TD (l.getD i 0)then(⟨l.getD i 0,0,0,[],i⟩,1)
 else if k6 (l.getD i 0)=true then(⟨119,0,0,(l.drop i).takeWhile k6,i⟩,((l.drop i).takeWhile k6).length)
 else if l.getD i 0=91 then
  match lB l (i+1)with
  |none=>(⟨63,0,0,[],i⟩,1)
  |some (lo,m)=>
   if i+1+m<l.length/\l.getD (i+1+m) 0=45 then
    match lB l (i+1+m+1)with
    |none=>(⟨63,0,0,[],i⟩,1)
    |some (e,d)=>if i+1+m+(1+d)<l.length/\l.getD (i+1+m+(1+d)) 0=93/\lo.toNat<=e.toNat then(⟨114,lo,e,[],i⟩,1+m+(1+d)+1)else(⟨63,0,0,[],i⟩,1)
   else(⟨63,0,0,[],i⟩,1)
 else match lB l i with
  |some (b,n)=>(⟨114,b,b,[],i⟩,n)
  |none=>(⟨63,0,0,[],i⟩,1)
def B9(x:Tk×Nat):V:=.tuple #[x.1.v,.int .i64 (x.2:Int)]
def Dw{l:List UInt8}{i:Nat}{b:UInt8}{n:Nat}(d:lB l i=some (b,n)):(n=3\/n=4)/\i+n<=l.length:=by
 unfold lB at d
 grind
def Up:∀(l:List UInt8) (m:Nat) (p:UInt8->Bool),m<=l.length->(∀h<m,p (l.getD h 0)=true)->(m<l.length->p (l.getD m 0)=false)->(l.takeWhile p)=l.take m
 |[],m,p,d,_,_=>us
 |c::l,0,p,d,_,e=>by have:p c=false:=e us;simp[this]
 |c::l,m+1,p,d,j,e=>by have k:p c=true:=j 0 io;rw[List.takeWhile_cons,ag k,List.take_succ_cons,Up l m p (by grind) (λh a=>by grind) (λq=>by grind)]
def Y8(l:List UInt8)(i k:Nat):(l.drop i).getD k 0=l.getD (i+k) 0:=by grind
def Xu(s:ByteArray)(hs:s.size<=900000)(i:Nat)(hi:i<s.size)(w:I):ah U Gi #[.string s,.int .i64 (i:Int)] w λr a=>r=ab (B9 (e4 (bl s) i))/\af w a:=by
 have hl:(bl s).length=s.size:=dd s;refine vF.aq ((bZ [] (λ_ e=>by cases e)).aw (bs:=[]) (λf w1 E=>⟨io,_,mF (i:=i) hi,?_⟩) us);have E:O F0 w w1 [.g f] []:=E;have bad:∀a,O F0 w a [.g f] []->e4 (bl s) i=(⟨63,0,0,[],i⟩,1)->∀(u v x:Int) (y:ByteArray) (A:Int),vF.gw (i:Int) f u v x y A a λr a=>r=ab (B9 (e4 (bl s) i))/\af w a:=λa D he _ _ _ _ _=>D.ae (bs:=[f]) (λH o=>⟨by rw[he];rfl,o.fr⟩) us;refine E.av (HG _ _ _) ?_;rintro _ w2 rfl K;refine⟨_,rfl,?_⟩;show bK (ak (Go.Lib.indexByte TD _>=0)) _ _;refine aS (λC=>K.ae (bs:=[f]) (λH o=>⟨?_,o.fr⟩) us) (λC=>K.av (zH _ _) ?_)
 .unfold e4;rw[ag C];rfl
 rintro _ H rfl o;refine⟨_,rfl,bm (λM=>?_) (λM=>kf (n:=91) io (λL:(bl s).getD i 0=91=>?_) (λL:(bl s).getD i 0≠91=>?_))⟩
 .
  have loop:∀(n j:Nat) (a:I),s.size - j<n->i<=j->j<=s.size->(∀k,i<=k->k<j->k6 ((bl s).getD k 0)=true)->O F0 w a [.g f] []->∀(u v x:Int) (y:ByteArray) (A:Int),vF.cA s (i:Int) f u v x y A (j:Int) a λr a=>r=ab (B9 (e4 (bl s) i))/\af w a:=by
   intro n;induction n with
   |zero=>omega
   |succ n ih=>
    intro j a hn ax hj ar J u v x y A;have done:(j<s.size->k6 ((bl s).getD j 0)=false)->∀a,O F0 w a [.g f] []->vF.bL s (i:Int) f u v x y A (j:Int) a λr a=>r=ab (B9 (e4 (bl s) i))/\af w a:=λan a D=>by
     refine⟨io,io,io,io,D.ae (bs:=[f]) (λl d=>⟨?_,d.fr⟩) us⟩;have Z:((bl s).drop i).takeWhile k6=((bl s).drop i).take (j - i):=by
      refine Up _ _ _ (by grind) (λk hk=>?_) (λe=>?_)
      .rw [Y8];grind
      grind
     have Y:(((bl s).drop i).take (j - i)).length=j - i:=by grind
     have W:s.extract (aY (i:Int)) (aY (j:Int))=ba (((bl s).drop i).take (j - i)):=by
      have:bl (s.extract i j)=((bl s).drop i).take (j - i):=by unfold bl;rw[ByteArray.data_extract,Array.toList_extract,List.extract_eq_take_drop]
      rw[cb,cb,<-this,jW]
     have ew:aE .i64 ((j:Int) - (i:Int))=((j - i:Nat):Int):=by rw[bH _ io];omega
     rw[W,ew];unfold e4;rw[ad C,ag M,Z,Y];rfl
    refine vF.dU (aS (λe=>⟨io,_,mF (i:=j) io,J.av (zH _ _) ?_⟩) (λe=>done (λp=>io) a J));rintro _ l rfl d;refine⟨_,rfl,bm (λt=>?_) (λt=>done (λ_=>t) l d)⟩;rw[show aE .i64 ((j:Int)+1)=((j+1:Nat):Int)by rw[bH _ io];omega];refine ih (j+1) l io io io (λk h1 h2=>?_) d _ _ _ _ _
    grind
  exact loop (s.size+1) i H io (Nat.le_refl _) io (λk h1 h2=>io) o _ _ _ _ _
 .have N:¬k6 ((bl s).getD i 0)=true:=by grind
  rw[show aE .i64 ((i:Int)+1)=((i+1:Nat):Int)by rw[bH _ io];omega];refine o.av (DC s (i+1) io _) ?_;rintro _ z rfl h;cases t:lB (bl s) (i+1)with
  |none=>
   refine⟨0,0,false,rfl,aR rfl (bad z h ?_ _ _ _ _ _)⟩;unfold e4
   grind
  |some q=>
   obtain⟨lo,m⟩:=q;obtain⟨hm,aA⟩:=Dw t;refine⟨lo.toNat,m,true,rfl,?_⟩;try dsimp only
   rw[show aE .i64 (((i+1:Nat):Int)+(m:Int))=((i+1+m:Nat):Int)by rw[bH _ io];omega];have P:¬(i+1+m<(bl s).length/\(bl s).getD (i+1+m) 0=45)->e4 (bl s) i=(⟨63,0,0,[],i⟩,1):=λe=>by
    unfold e4
    grind
   refine aT rfl (aS (λe=>bad z h (P (λp=>io)) _ _ _ _ _) (λe=>⟨io,_,mF (i:=i+1+m) io,?_⟩));refine bm (λF=>bad z h (P (λp=>?_)) _ _ _ _ _) (λap=>?_)
   .rw [p.2]at F;grind
   have ao:(bl s).getD (i+1+m) 0=45:=by
    have T:(((bl s).getD (i+1+m) 0).toNat:Int)=45:=by grind
    have:((bl s).getD (i+1+m) 0).toNat=(45:UInt8).toNat:=by grind
    exact UInt8.toNat_inj.1 this
   rw[show aE .i64 (((i+1+m:Nat):Int)+1)=((i+1+m+1:Nat):Int)by rw[bH _ io];omega];refine h.av (DC s (i+1+m+1) io _) ?_;rintro _ l rfl d;cases aj:lB (bl s) (i+1+m+1)with
   |none=>
    refine⟨0,0,false,rfl,aR rfl (bad l d ?_ _ _ _ _ _)⟩;unfold e4
    grind
   |some q=>
    obtain⟨G,c⟩:=q;obtain⟨az,aB⟩:=Dw aj;refine⟨G.toNat,c,true,rfl,?_⟩;try dsimp only
    rw[show aE .i64 (((i+1+m:Nat):Int)+aE .i64 (1+(c:Int)))=((i+1+m+(1+c):Nat):Int)by rw[bH (1+(c:Int)) io,bH _ io];omega];have B:e4 (bl s) i=if i+1+m+(1+c)<(bl s).length/\(bl s).getD (i+1+m+(1+c)) 0=93/\lo.toNat<=G.toNat then(⟨114,lo,G,[],i⟩,1+m+(1+c)+1)else(⟨63,0,0,[],i⟩,1):=by
     unfold e4
     grind
    refine aT rfl (aS (λe=>bad l d (B.trans (ad λp=>io)) _ _ _ _ _) (λe=>⟨io,_,mF (i:=i+1+m+(1+c)) io,?_⟩));refine bm (λF=>bad l d (B.trans (ad λp=>?_)) _ _ _ _ _) (λam=>?_)
    .rw [p.2.1]at F;grind
    have ai:(bl s).getD (i+1+m+(1+c)) 0=93:=by
     have T:(((bl s).getD (i+1+m+(1+c)) 0).toNat:Int)=93:=by grind
     have:((bl s).getD (i+1+m+(1+c)) 0).toNat=(93:UInt8).toNat:=by grind
     exact UInt8.toNat_inj.1 this
    refine aS (λS=>bad l d (B.trans (ad λp=>io)) _ _ _ _ _) (λS=>d.ae (bs:=[f]) (λw6 Q=>⟨?_,Q.fr⟩) us);rw[B,ag ⟨io,ai,io⟩];rw[show aE .i64 (aE .i64 (((i+1+m+(1+c):Nat):Int)+1) - (i:Int))=((1+m+(1+c)+1:Nat):Int)by rw[bH (((i+1+m+(1+c):Nat):Int)+1) io,bH _ io];omega];rfl
 .have N:¬k6 ((bl s).getD i 0)=true:=by grind
  refine o.av (DC s i io _) ?_;rintro _ z rfl h;cases t:lB (bl s) i with
  |none=>
   refine⟨0,0,false,rfl,aT rfl (bad z h ?_ _ _ _ _ _)⟩;unfold e4
   grind
  |some q=>
   obtain⟨b,n⟩:=q;refine⟨b.toNat,n,true,rfl,aR rfl (h.ae (bs:=[f]) (λl d=>⟨?_,d.fr⟩) us)⟩;unfold e4;rw[ad C,ad N,ad L,t];rfl
structure Inv(S:SX)(m:Nat):Prop where
 lo:S.lo.length<=m
 sl:∀f∈S.lo,Small f m
 tp:Small S.tp m
 s1:S.st=1->0<=S.tp.k/\S.lo≠[]
 s2:S.st=2->0<=S.wd
def Small.mono{f:FX}{m n:Nat}(d:Small f m)(a:m<=n):Small f n:=⟨bI d.n' a,bI d.ar a,bI d.al a,bI d.an a,bI d.ca a⟩
def HP(k:Int)(m:Nat):Small (mx k) m:=⟨dg _,dg _,dg _,dg _,dg _⟩
def yz{f:FX}{m:Nat}(d:Small f m)(x:Rx):Small (jt f x) m:=⟨d.n',d.ar,d.al,d.an,d.ca⟩
def E9{t:Tk}{S j:SX}{m:Nat}(c:S.lo.length<=m)(b:∀f∈S.lo,Small f (m+1))(a:Small S.tp (m+1))(d:S.tp.n<=m)(e:gj t S=some j):Inv j (m+1):=by
 have k:∀f∈S.lo++[S.tp],Small f (m+1):=λf g=>by grind
 unfold gj at e;split at e
 .cases e;exact⟨by grind,b,⟨by grind,a.ar,a.al,a.an,a.ca⟩,λh=>(by grind),λh=>(by grind)⟩
 .split at e
  .cases e;exact⟨by grind,k,HP _ _,λh=>(by grind),λh=>(by grind)⟩
  .split at e
   .cases e;exact⟨by grind,b,yz a _,λh=>(by grind),λh=>(by grind)⟩
   .split at e
    .split at e
     .cases e;exact⟨by grind,b,yz a _,λh=>(by grind),λh=>(by grind)⟩
     .split at e
      .cases e;exact⟨by grind,b,yz a _,λh=>(by grind),λh=>(by grind)⟩
      .split at e
       .cases e;exact⟨by grind,b,a,λh=>(by grind),λ_=>by grind⟩
       .split at e
        .cases e;exact⟨by grind,b,a,λh=>(by grind),λ_=>by grind⟩
        .split at e
         .cases e;exact⟨by grind,b,a,λh=>(by grind),λ_=>by grind⟩
         grind
    grind
def Kj{S h:SX}{l:List Rx}{m:Nat}(b:Inv S m)(e:mX S l=some h):Inv h (m+1):=by
 unfold mX at e;rcases sR S.lo with d|⟨a,g,d⟩
 .grind
 .rw [d]at e;simp at e;subst e;have j:=b.lo;rw[d]at j;simp at j;exact⟨by grind,λf c=>(b.sl f (by grind)).mono io,yz ((b.sl g (by grind)).mono io) _,λd=>(by grind),λd=>(by grind)⟩
def EC{z:Sl}{t:Tk}{S w:SX}{m:Nat}(a:Inv S m)(d:gi z t S=some w):Inv w (m+1):=by
 have q:=a.lo;have j:∀f∈S.lo,Small f (m+1):=λf b=>(a.sl f b).mono io;have h:Small S.tp (m+1):=a.tp.mono io;have x:=a.tp.n';unfold gi at d;split at d
 .rename_i k;split at d
  .cases d;refine⟨by grind,λf b=>?_,HP _ _,λ_=>⟨a.s2 k,us⟩,λe=>(by grind)⟩
   grind
  grind
 .rename_i k;split at d
  .split at d
   .exact Kj a d
   .exact E9 q j h x d
  .rename_i y;split at d
   .exact E9 q j h x d
   .split at d
    .cases d;exact⟨by grind,j,yz h _,λe=>absurd e y,λe=>absurd e k⟩
    .split at d
     .cases d;refine⟨by grind,j,⟨dg _,h.ar,h.al,?_,dg _⟩,λe=>(by grind),λe=>(by grind)⟩;have:=a.tp.an;show(S.tp.an++[_]).length<=_
      grind
     .split at d
      .cases d;refine⟨by grind,j,⟨dg _,h.ar,?_,dg _,dg _⟩,λe=>(by grind),λe=>(by grind)⟩;have:=a.tp.al;show(S.tp.al++[_]).length<=_
       grind
      .split at d
       .split at d
        .cases d
        .cases d;refine⟨by grind,j,⟨dg _,?_,dg _,dg _,dg _⟩,λe=>(by grind),λe=>(by grind)⟩;have:=a.tp.ar;show(S.tp.ar.2++[_]).length<=_
         grind
       .split at d
        .split at d
         .cases d
         .exact Kj a d
        .split at d
         .split at d
          .cases d;exact⟨io,j,h,a.s1,a.s2⟩
          grind
         .refine E9 (S:=⟨S.lo,mi S.tp,S.st,S.wd⟩) q j ⟨dg _,h.ar,h.al,h.an,?_⟩ (dg _) d;have:=a.tp.ca;show(S.tp.ca++[_]).length<=_
          grind
def Yx{d:Sl}{t:Tk}{S:SX}(e:t.k=63):gi d t S=none:=by
 have it:∀S,gj t S=none:=λS=>by
  unfold gj
  grind
 unfold gi
 grind
def j'(l:List UInt8):Nat->Nat->List Tk
 |0,_=>[]
 |n+1,i=>if i<l.length then(if l.getD i 0=32 then j' l n (i+1)else(e4 l i).1::j' l n (i+(e4 l i).2))else[⟨36,0,0,[],l.length⟩]
def rN:List Tk->SX->Int⊕SX->Prop
 |[],d,r=>r=.inr d
 |t::j,d,r=>∃h,(gi h t d=none/\r=.inl t.a)\/∃e,gi h t d=some e/\rN j e r
def UP{l:List UInt8}{i:Nat}(a:i<l.length):1<=(e4 l i).2/\i+(e4 l i).2<=l.length:=by
 unfold e4;split
 .omega
 .split
  .rename_i e;have d:(l.drop i)=l.getD i 0::l.drop (i+1):=by rw[List.drop_eq_getElem_cons a,List.getD_eq_getElem?_getD,a0 a];rfl
   have j:1<=((l.drop i).takeWhile k6).length:=by rw[d,List.takeWhile_cons,ag e];simp
   have k:((l.drop i).takeWhile k6).length<=(l.drop i).length:=(List.takeWhile_prefix (p:=k6) (l:=l.drop i)).length_le
   grind
  .split
   .grind
   .split
    .rename_i h;have:=Dw h;omega
    omega
abbrev Ic(t:Tk):List V:=[.int .u8 (t.k.toNat:Int),.int .u8 (t.lo.toNat:Int),.int .u8 (t.hi.toNat:Int),.string (ba t.s),.int .i64 t.a]
def w2:En:=⟨[],λ_=>True,λ_ _ _ d=>d,λ_ _ b a=>by grind,us⟩
abbrev nL(d e f D b a:Nat)(s:ByteArray)(g i:V)(o:Obj):List En:=[.c d [.int .i64 0,.int .u8 0,.int .u8 0,.slice none 0 0] aO,.c e [g] bF,.c f [i] hn,.ob D (.deferred (some [])),.ob b o,.c a [.string s] eD]
def PS(i w:I)(j:Nat)(G:List En)(S:SX):Prop:=∃(e:Sl) (c:List FM) (f:FM) (d:List J) (p:Addr),c.map FM.x=S.lo/\f.x=S.tp/\(∀g∈c++[f],∀t∈g.ts,t∈d)/\e.a=some p/\(∀b∈J.be d,i.heap.size<=b)/\SF F0 i w j e S.st S.wd c f G d
def PE(g w:I)(b:Nat)(G:List En):Prop:=∃(c:Sl) (a:List FM) (f:FM) (e:List J) (d i:Int),SF F0 g w b c d i a f G e
section
variable {s:ByteArray} {w0:I} {rb t2 t3 t4 D l_ bs:Nat} {o_:eN->Option Code->Obj}
abbrev IG(s:ByteArray)(n o p q f l:Nat)(k:eN->Option Code->Obj):Prop:=
 ∀(a b c:Int) (d:ByteArray) (e:Int) (g:I) (i:Bool->I->Prop),g.heap[f]? =some (k .ready none)->Hn.rG f k s (aa o) (aa p) (aa q) (aa n) (aa l) a b c d e g (λm r=>∃h:Bool,m=ab (.bool h)/\i h r)->W.pc U f #[.agg #[.int .u8 a,.int .u8 b,.int .u8 c,.string d,.int .i64 e]] g i
def Rb(Q:IG s rb t2 t3 t4 l_ bs o_){S:SX}{m:Nat}(i:Inv S m)(hm:m<=900000)(t:Tk){e:En}{w:I}(H:PS w0 w rb (nL t2 t3 t4 D l_ bs s (.int .i64 0) (.int .i64 0) (o_ .ready none)++[e]) S){K:Bool->I->Prop}(j:∀k h,gi h t S=none->PE w0 k rb (nL t2 t3 t4 D l_ bs s (.int .i64 t.a) (.int .i64 2) (o_ .done (some .ret))++[e])->K false k)(l:∀k h A,gi h t S=some A->PS w0 k rb (nL t2 t3 t4 D l_ bs s (.int .i64 0) (.int .i64 0) (o_ .ready none)++[e]) A->K true k):W.pc U l_ #[t.v] w K:=by
 obtain⟨lo,ae,st,wd⟩:=S;obtain⟨sl,C,f,ts,p,q,y,M,O,hb,H⟩:=H;have q:C.map FM.x=lo:=q;have y:f.x=ae:=y;subst q y;refine Q _ _ _ _ _ w K (H.ob 7) ?_;refine H.nw λw1 _ o=>o.TX 10 rfl λw2 aa=>aa.pu 7 rfl λw3 d=>⟨_,_,_,_,_,d.ld 10 0,d.ld 10 1,d.ld 10 2,d.ld 10 3,d.ld 10 4,?_⟩;have L:SF F0 w0 w3 rb sl st wd C f (nL t2 t3 t4 D l_ bs s (.int .i64 0) (.int .i64 0) (o_ .busy none)++[e,.c w.heap.size (Ic t) o']) ts:=d;refine L.zS M O (λab ac=>WX ac (bI i.lo io) (i.tp.mono io) i.s1 t) ?_;rintro r w4 G E B p4 ad ag J am N P b4 ⟨h,Z⟩ z;rcases Z with⟨T,rfl⟩|⟨Y,rfl⟩
 .refine ⟨false,rfl,aR rfl ?_⟩;refine z.dr λn g=>⟨t.a,g.ld 10 4,g.k9 3 rfl λw6 F=>⟨F.ld 10 4,F.fi 4 rfl λw7 u=>u.fi 5 rfl λw8 ai=>ai.pu 7 rfl λw9 aj=>⟨false,rfl,j w9 h T ⟨G,E,B,J,ad,ag,?_⟩⟩⟩⟩;exact aj.take 10
 .refine ⟨true,rfl,aT rfl (z.pu 7 rfl λn g=>⟨true,rfl,l n h _ Y ⟨G,E,B,J,p4,rfl,rfl,N,P,λb af=>?_,g.take 10⟩⟩)⟩
  grind
def VB(k:I)(e f g i D c b:Nat)(s:ByteArray)(d:eN->Option Code->Obj)(j:I):Int⊕SX->Prop
 |.inl a=>PE k j e (nL f g i D c b s (.int .i64 a) (.int .i64 2) (d .done (some .ret)))
 |.inr h=>PS k j e (nL f g i D c b s (.int .i64 0) (.int .i64 0) (d .ready none)) h
def ab5(hs:s.size<=4096)(af:IG s rb t2 t3 t4 l_ bs o_)(R:aC):∀(n i m:Nat) (S:SX) (w:I),s.size - i<n->i<=s.size->Inv S m->m+n<=900000->
  PS w0 w rb (nL t2 t3 t4 D l_ bs s (.int .i64 0) (.int .i64 0) (o_ .ready none)) S->
  (∀t g,rN (j' (bl s) n i) S g->VB w0 rb t2 t3 t4 D l_ bs s o_ t g->R (ab (.tuple #[])) t)->Bv.L0 l_ (aa bs) (i:Int) w R:=by
 intro n;induction n with
 |zero=>omega
 |succ n ih=>
  intro i m S w hn hi E hm hP q;have hl:(bl s).length=s.size:=dd s;have am:=hP;obtain⟨sl,J,f,T,p,ac,ae,Z,h4,F,B⟩:=am;refine Bv.cH _ _ _ _ _ ⟨s,B.cC 8,aS (λaj=>⟨s,B.cC 8,io,_,mF (i:=i) io,kf (n:=32) io (λhc:(bl s).getD i 0=32=>?_) (λhc:(bl s).getD i 0≠32=>⟨s,B.cC 8,B.call (Xu s io i io w) ?_⟩)⟩) (λaj=>⟨s,B.cC 8,?_⟩)⟩
  .rw [show aE .i64 ((i:Int)+1)=((i+1:Nat):Int)by rw[bH _ io];omega];refine ih (i+1) m S w io io E io hP (λt g hr Y=>q t g ?_ Y);unfold j'
   grind
  .rintro _ w1 rfl G;have an:=UP (l:=bl s) (i:=i) io;have H:j' (bl s) (n+1) i=(e4 (bl s) i).1::j' (bl s) n (i+(e4 (bl s) i).2):=by rw[j',ag io,ad hc]
   rw[H]at q;refine⟨_,_,_,_,_,_,rfl,G.nw λao _ H2=>H2.TX 9 rfl λw7 r=>⟨_,_,_,_,_,r.ld 9 0,r.ld 9 1,r.ld 9 2,r.ld 9 3,r.ld 9 4,?_⟩⟩;have ai:SF F0 w0 w7 rb sl S.st S.wd J f (nL t2 t3 t4 D l_ bs s (.int .i64 0) (.int .i64 0) (o_ .ready none)++[.c w1.heap.size (Ic (e4 (bl s) i).1) o']) T:=r;refine Rb af E io (e4 (bl s) i).1 (e:=.c w1.heap.size (Ic (e4 (bl s) i).1) o') ⟨sl,J,f,T,p,ac,ae,Z,h4,F,ai⟩ (λy o v x=>aR rfl (q y (.inl (e4 (bl s) i).1.a) ⟨o,.inl ⟨v,rfl⟩⟩ ?_)) (λy o u C x=>aT rfl ?_)
   .obtain ⟨z,j,h,A,Q,W,d⟩:=x;exact⟨z,j,h,A,Q,W,d.take 9⟩
   .obtain ⟨z,j,h,A,P,N,O,K,L,M,d⟩:=x;refine⟨_,d.ld 9 0,kf (n:=63) io (λhk:(e4 (bl s) i).1.k=63=>?_) (λhk=>?_)⟩
    .rw [Yx hk]at C;grind
    .rw [show aE .i64 ((i:Int)+((e4 (bl s) i).2:Int))=((i+(e4 (bl s) i).2:Nat):Int)by rw[bH _ io];omega];refine ih (i+(e4 (bl s) i).2) (m+1) u y io io (EC E C) io ⟨z,j,h,A,P,N,O,K,L,M,d.take 9⟩ (λt g hr Y=>q t g ⟨o,.inr ⟨u,C,hr⟩⟩ Y)
  .have H:j' (bl s) (n+1) i=[⟨36,0,0,[],(bl s).length⟩]:=by rw[j',ad io]
   rw[H,hl]at q;have G:=B.push w2 (Fr.refl _ _) trivial (λb F=>by cases F);refine Rb af E io ⟨36,0,0,[],(s.size:Int)⟩ (e:=w2) ⟨sl,J,f,T,p,ac,ae,Z,h4,F,G⟩ (λy o v x=>q y (.inl (s.size:Int)) ⟨o,.inl ⟨v,rfl⟩⟩ ?_) (λy o u C x=>q y (.inr u) ⟨o,.inr ⟨u,C,rfl⟩⟩ ?_)
   .obtain ⟨z,j,h,A,Q,W,d⟩:=x;exact⟨z,j,h,A,Q,W,d.take 9⟩
   .obtain ⟨z,j,h,A,P,N,O,K,L,M,d⟩:=x;exact⟨z,j,h,A,P,N,O,K,L,M,d.take 9⟩
end
def tf:∀(a b:List Rx),Rx.a1 (a++b)=Rx.a1 a+Rx.a1 b
 |[],b=>by simp[Rx.a1]
 |d::a,b=>by have:=tf a b;show d.sz+Rx.a1 (a++b)=(d.sz+Rx.a1 a)+Rx.a1 b;omega
def tw(x:Rx):Rx.a1 [x]=x.sz:=by simp[Rx.a1]
def GL(k:Int)(l:List Rx):(qe k l).sz<=1+Rx.a1 l:=by
 unfold qe;split
 .rw [tw];omega
 .unfold Rx.sz;omega
def Gy:∀(n:Nat) (r:Rx),(my n r).sz=n+r.sz
 |0,r=>by unfold my;omega
 |n+1,r=>by unfold my;rw[Gy n];unfold Rx.sz;rw[tw];cases r;simp only[Rx.sz];omega
def fz(f:FX):Nat:=Rx.a1 f.ar.2+Rx.a1 f.al+Rx.a1 f.an+Rx.a1 f.ca+f.n
def lz:List FX->Nat
 |[]=>0
 |f::l=>fz f+lz l
def AE:∀(a b:List FX),lz (a++b)=lz a+lz b
 |[],b=>by simp[lz]
 |d::a,b=>by have:=AE a b;show fz d+lz (a++b)=(fz d+lz a)+lz b;omega
def pz(S:SX):Nat:=lz S.lo+fz S.tp+(if S.st=0\/S.st=1\/S.st=2 then 0 else S.tp.la.sz)
def Hb(S:SX):pz S<=lz S.lo+fz S.tp+S.tp.la.sz:=by unfold pz;grind
def acj(S:SX):lz S.lo+fz S.tp<=pz S:=by unfold pz;omega
def qi{S:SX}(d:S.st=0\/S.st=1\/S.st=2):pz S=lz S.lo+fz S.tp:=by unfold pz;grind
def RS{S:SX}(d:¬(S.st=0\/S.st=1\/S.st=2)):pz S=lz S.lo+fz S.tp+S.tp.la.sz:=by unfold pz;grind
def ZA(f:FX):fz (mi f)=fz f+f.la.sz:=by unfold fz mi;simp only[tf,tw,Gy];omega
def Ts(f:FX):fz (lF f)<=fz f+f.la.sz+1:=by have d:=GL 3 (f.ca++[my f.n f.la]);simp only[tf,tw,Gy]at d;show Rx.a1 f.ar.2+Rx.a1 f.al+Rx.a1 (f.an++[qe 3 (f.ca++[my f.n f.la])])+Rx.a1 []+0<=_;unfold fz;simp only[tf,Rx.a1];omega
def KC(f:FX):Rx.a1 f.ar.2+Rx.a1 (lE f).al<=fz f+f.la.sz+2:=by have e:=GL 5 (lF f).an;have h:=Ts f;have d:fz (lF f)=Rx.a1 f.ar.2+Rx.a1 f.al+Rx.a1 (lF f).an+0+0:=rfl;show Rx.a1 f.ar.2+Rx.a1 (f.al++[qe 5 (lF f).an])<=_;simp only[tf,tw];omega
def XV(f:FX):fz (lE f)<=fz f+f.la.sz+2:=by have:=KC f;show Rx.a1 f.ar.2+Rx.a1 (lE f).al+Rx.a1 []+Rx.a1 []+0<=_;simp only[Rx.a1];omega
def EB(f:FX):Rx.a1 f.ar.2+(cO f).sz<=fz f+f.la.sz+3:=by have d:=GL 4 (lE f).al;have:=KC f;show _+(qe 4 (lE f).al).sz<=_;omega
def Fa{t:Tk}{S e:SX}(d:gj t S=some e):pz e<=lz S.lo+fz S.tp+1:=by
 have leaf:∀(k:Int) (a b:UInt8),(Rx.mk k a b []).sz=1:=λk a b=>by unfold Rx.sz;simp[Rx.a1]
 unfold gj at d;split at d
 .cases d;rw[qi (.inl rfl)];show lz S.lo+(Rx.a1 S.tp.ar.2+Rx.a1 S.tp.al+Rx.a1 S.tp.an+Rx.a1 S.tp.ca+(S.tp.n+1))<=_;unfold fz;omega
 .split at d
  .cases d;rw[qi (.inl rfl)];show lz (S.lo++[S.tp])+fz (mx (-1))<=_;rw[AE];have:fz (mx (-1))=0:=rfl;simp only[lz];omega
  .have h:∀(k:Int) (a b:UInt8),pz ⟨S.lo,jt S.tp (.mk k a b []),3,S.wd⟩<=lz S.lo+fz S.tp+1:=λk a b=>by
    refine bI (Hb _) ?_;show lz S.lo+fz S.tp+(Rx.mk k a b []).sz<=_
    grind
   split at d
   .grind
   .split at d
    .split at d
     .grind
     .split at d
      .grind
      .split at d
       .cases d;rw[qi (.inr (.inr rfl))];grind
       .split at d
        .cases d;rw[qi (.inr (.inr rfl))];grind
        .split at d
         .cases d;rw[qi (.inr (.inr rfl))];grind
         grind
    grind
def Kk{S e:SX}{l:List Rx}(d:mX S l=some e):pz e<=lz S.lo+Rx.a1 l+1:=by
 unfold mX at d;rcases sR S.lo with h|⟨a,g,h⟩
 .grind
 .rw [h]at d ⊢;simp at d;subst d;refine bI (Hb _) ?_;show lz a+fz g+(nV S.tp.k l).sz<=_;rw[AE];have:(nV S.tp.k l).sz<=Rx.a1 l+1:=by
   unfold nV;split
   .cases l with
    |nil=>exact(by show fT.sz<=_;unfold fT Rx.sz;omega)
    |cons j l=>show j.sz<=_;unfold Rx.a1;omega
   .unfold Rx.sz;omega
  simp only[lz];omega
def Yz{j:Sl}{t:Tk}{S e:SX}(d:gi j t S=some e):pz e<=pz S+4:=by
 have x:=acj S;unfold gi at d;split at d
 .split at d
  .cases d;rw[qi (.inr (.inl rfl))];show lz (S.lo++[S.tp])+fz (mx S.wd)<=_;rw[AE];have:fz (mx S.wd)=0:=rfl;simp only[lz];omega
  grind
 .rename_i w;split at d
  .split at d
   .have:=Kk d;simp only[Rx.a1]at this;omega
   .have:=Fa d;omega
  .rename_i q;split at d
   .have:=Fa d;omega
   .rename_i k;have y:=RS (S:=S) io;split at d
    .cases d;refine bI (Hb _) ?_;show lz S.lo+fz S.tp+(Rx.mk 7 0 0 [S.tp.la]).sz<=_;have:(Rx.mk 7 0 0 [S.tp.la]).sz=1+S.tp.la.sz:=by show 1+Rx.a1 [S.tp.la]=_;rw[tw]
     omega
    .split at d
     .cases d;rw[qi (.inl rfl)];show lz S.lo+fz (lF S.tp)<=_;have:=Ts S.tp;omega
     .split at d
      .cases d;rw[qi (.inl rfl)];show lz S.lo+fz (lE S.tp)<=_;have:=XV S.tp;omega
      .split at d
       .split at d
        .cases d
        .cases d;rw[qi (.inl rfl)];show lz S.lo+(Rx.a1 (S.tp.ar.2++[cO S.tp])+Rx.a1 []+Rx.a1 []+Rx.a1 []+0)<=_;have:=EB S.tp;simp only[tf,Rx.a1];omega
       .split at d
        .split at d
         .cases d
         .have h:=Kk d;have:=EB S.tp;simp only[tf,tw]at h;omega
        .split at d
         .grind
         .have h:=Fa d;have:=ZA S.tp
          grind
def Yy{h:Sl}{a:Int}{S d:SX}(e:gi h ⟨36,0,0,[],a⟩ S=some d):d=S/\¬(S.st=0\/S.st=1\/S.st=2):=by
 have it:∀S,gj ⟨36,0,0,[],a⟩ S=none:=λS=>rfl;unfold gi at e
 grind
def HE(l:List UInt8):∀(n i:Nat) (S a:SX),l.length - i<n->rN (j' l n i) S (.inr a)->(cO a.tp).sz<=pz S+4 *n+4
 |0,i,S,a,y,_=>io
 |n+1,i,S,a,y,d=>by
  unfold j' at d;split at d
  .split at d
   .have:=HE l n (i+1) S a io d;omega
   .rename_i z _;have B:=UP z;obtain⟨A,⟨_,k⟩|⟨e,h,j⟩⟩:=d
    .cases k
    .have:=HE l n (i+(e4 l i).2) e a io j;have:=Yz h;omega
  .obtain ⟨A,⟨_,k⟩|⟨e,h,j⟩⟩:=d
   .cases k
   .have q:a=e:=by have:Sum.inr a=(Sum.inr e:Int⊕SX):=j;grind
    obtain⟨w,x⟩:=Yy h;subst q w;have:=RS x;have:=EB a.tp;omega
def aam{M:Nat->Prop}{w0 w:I}{L D:List En}(H:O M w0 w L D)(is d:List Nat)(j:is.Perm d)(i:d.map (λh=>L.getD h w2)=L):O M w0 w (is.map λh=>L.getD h w2) D:=by
 have k:(is.map λh=>L.getD h w2).Perm L:=by grind
 exact⟨H.fr,λe a=>H.own e (k.mem_iff.1 a),H.rd,λe a=>H.new e (k.mem_iff.1 a),((k.flatMap_right _).nodup_iff).2 H.nd,λe a b g f c=>H.dj e a b g f (k.mem_iff.1 c)⟩
def acF{d:I}{l:Nat}{o:eN->Option Code->Obj}{N:I->Prop}{X:Nat->I->Prop}{T:I->Prop}(e:hG d l (o .ready none) (o .exhausted none) N):rM d l o N X T:=.inl e
def acG{d:I}{l:Nat}{o:eN->Option Code->Obj}{N:I->Prop}{X:Nat->I->Prop}{T:I->Prop}(e:hG d l (o .done (some .ret)) (o .exhausted (some .ret)) T):rM d l o N X T:=.inr (.inr e)
def MV{b:Nat}(d:b∈J.be [.mk 0 0 0 ⟨none,0,0⟩ []]):False:=by
 have:=An (ts:=[]) (k:=0) (lo:=0) (hi:=0) (b:=b) d;unfold J.be at this
 grind
def vW:SX:=⟨[],mx (-1),0,0⟩
def Mt:Inv vW 0:=by
 refine⟨Nat.le_refl _,λf a=>?_,HP _ _,λd=>?_,λd=>?_⟩
 .cases a
 .have:(0:Int)=1:=d;omega
 .have:(0:Int)=2:=d;omega
def HC(l:List UInt8):∀(n i m:Nat) (S c:SX),Inv S m->rN (j' l n i) S (.inr c)->Inv c (m+n)
 |0,i,m,S,c,h,d=>by
  have z:(Sum.inr c:Int⊕SX)=.inr S:=d
  grind
 |n+1,i,m,S,c,h,d=>by
  have y:∀{S:SX} {a b:Nat},Inv S a->a<=b->Inv S b:=λe k=>⟨bI e.lo k,λf g=>(e.sl f g).mono k,e.tp.mono k,e.s1,e.s2⟩;unfold j' at d;split at d
  .split at d
   .exact y (HC l n _ m S c h d) io
   .obtain ⟨A,⟨_,x⟩|⟨j,q,w⟩⟩:=d
    .cases x
    .exact y (HC l n _ (m+1) j c (EC h q) w) io
  .obtain ⟨A,⟨_,x⟩|⟨j,q,w⟩⟩:=d
   .cases x
   .have z:(Sum.inr c:Int⊕SX)=.inr j:=w;cases z;exact y (EC h q) io
def VC(w:I)(s:ByteArray):aC:=λr c=>af w c/\
 ((4096<s.size/\r=ab (.tuple #[.agg #[.int .i64 0,.int .u8 0,.int .u8 0,.slice none 0 0],.int .i64 4096,.int .i64 4]))\/
  (s.size<=4096/\∃res,rN (j' (bl s) (s.size+1) 0) vW res/\((∃a,res=.inl a/\r=ab (.tuple #[.agg #[.int .i64 0,.int .u8 0,.int .u8 0,.slice none 0 0],.int .i64 a,.int .i64 2]))\/
   ∃d,res=.inr d/\((64<(cO d.tp).sz/\r=ab (.tuple #[.agg #[.int .i64 0,.int .u8 0,.int .u8 0,.slice none 0 0],.int .i64 (s.size:Int),.int .i64 4]))\/
    ((cO d.tp).sz<=64/\∃t:J,r=ab (.tuple #[t.v,.int .i64 0,.int .i64 0])/\t.rx=cO d.tp/\t.P c/\∀b∈t.fp,w.heap.size<=b)))))
def JD(s:ByteArray)(w:I):ah U O3 #[.string s] w (VC w s):=by
 refine Hn.ok _ w _ ((bZ [] (λ_ h=>by cases h)).nw λG _ H1=>H1.nw λH _ H2=>H2.nw λw3 _ W=>aS (λh=>?_) (λh=>?_))
 .refine W.k9 0 rfl λw4 H4=>H4.fi 1 rfl λw5 M=>M.fi 2 rfl λw6 o=>⟨_,_,_,⟨none,0,0⟩,o.ld 0 0,o.ld 0 1,o.ld 0 2,o.ld 0 3,_,o.cC 1,_,o.cC 2,o.fr,.inl ⟨io,rfl⟩⟩
 have E:s.size<=4096:=io
 have hl:(bl s).length=s.size:=dd s;refine W.fe (e:=iL) (sz:=10) (n:=1) (cs:=(jG (-1)).c) rfl dl λK al=>al.nw λar _ N=>?_;refine N.fi 4 rfl λau k=>k.st 4 1 rfl λai v=>v.st 4 2 rfl λm A=>?_;refine Sz.ok (A.nw λi _ j=>⟨_,rfl,?_⟩);show ∀x:eN->Option Code->Obj,_;intro x hY;have e1:(i.alloc (.deferred (some []))).heap.size=i.heap.size+1:=size_alloc _ _;have Z:=(j.alloc (.deferred (some []))).alloc (x .ready none);rw[e1]at Z;have hP:(En.rows (([]++[jG (-1)]:List FM).flatMap FM.rows)).P ((i.alloc (.deferred (some []))).alloc (x .ready none)):=by refine⟨λaw C=>?_,dl⟩;have C:aw∈[((⟨none,0,0⟩,[]):ee),(⟨none,0,0⟩,[]),(⟨none,0,0⟩,[]),(⟨none,0,0⟩,[])]:=C;simp only[aF,aW,a2,or_self]at C;subst C;exact aJ.nil _ _ _
 have Ha:=(Z.push (.rows (([]++[jG (-1)]:List FM).flatMap FM.rows)) (Fr.refl _ _) hP (λb l=>by
  have l:=aU.1 l;have l:b∈([]:List Nat):=l;cases l)).eO (.trees [.mk 0 0 0 ⟨none,0,0⟩ []]) (Fr.refl _ _) (J.jL λt F=>by
   simp at F;subst F;show J.P _ _;unfold J.P J.Ps;exact⟨bA.nil 4 _,trivial⟩) (λb l=>by exact(MV (aU.1 l)).elim)
 have Hb:=aam Ha [4,3,8,0,1,2,6,7,5] [0,1,2,3,4,5,6,7,8] dl rfl;have HS:SF F0 w ((i.alloc (.deferred (some []))).alloc (x .ready none)) K.heap.size ⟨some (aa w3.heap.size),1,1⟩ 0 0 [] (jG (-1)) (nL w.heap.size G.heap.size H.heap.size i.heap.size (i.heap.size+1) m.heap.size s (.int .i64 0) (.int .i64 0) (x .ready none)) [.mk 0 0 0 ⟨none,0,0⟩ []]:=Hb;refine Bv.ok _ _ _ _ (ab5 (w0:=w) (rb:=K.heap.size) (t2:=w.heap.size) (t3:=G.heap.size) (t4:=H.heap.size) (D:=i.heap.size) (l_:=i.heap.size+1) (bs:=m.heap.size) E hY _ (s.size+1) 0 0 vW _ io io Mt io
  ⟨_,[],jG (-1),_,_,rfl,rfl,λg hg t F=>?_,rfl,λb l=>?_,HS⟩ (λw' aq z he=>⟨⟨_,rfl⟩,?_⟩))
 .simp at hg;subst hg;simpa[FM.ts,jG]using F
 .exact (MV l).elim
 cases aq with
 |inl a=>
  obtain⟨sl,B,f,T,st,aM,L⟩:=he;refine acG (L.pu 7 rfl λar N=>N.pu 6 rfl λi j=>⟨_,_,_,⟨none,0,0⟩,j.ld 3 0,j.ld 3 1,j.ld 3 2,j.ld 3 3,_,j.cC 4,_,j.cC 5,j.fr,.inr ⟨E,_,z,.inl ⟨a,rfl,rfl⟩⟩⟩)
 |inr q=>
  obtain⟨sl,B,f,T,p,ao,ad,h3,h4,l,L⟩:=he;have hI:=HC _ _ _ _ _ _ Mt z;have ap:=HE _ _ _ _ _ io z;rw[show pz vW=0 from rfl]at ap;have am:B.length<=1000000:=by have:=hI.lo;rw[<-ao]at this;simp at this;omega
  refine acF (L.pu 7 rfl λw5 M=>?_);have Y:SF F0 w w5 K.heap.size sl q.st q.wd B f (nL w.heap.size G.heap.size H.heap.size i.heap.size (i.heap.size+1) m.heap.size s (.int .i64 0) (.int .i64 0) (x .exhausted none)) T:=M;refine Y.call (zI Y h4 am) ?_;rintro _ w6 rfl o;have af:SF F0 w w6 K.heap.size sl q.st q.wd B f (nL w.heap.size G.heap.size H.heap.size i.heap.size (i.heap.size+1) m.heap.size s (.int .i64 0) (.int .i64 0) (x .exhausted none)) T:=o;refine⟨_,rfl,af.zS h3 h4 (λbf s1=>zE s1 (by rw[ad];exact hI.tp.mono io)) ?_⟩;rintro r w7 aI ax f3 p3 aK aN ae aL az aA ag ⟨aG,aB,aC,rfl,rfl,u,Q,rfl,S⟩ H7;rw[ad]at S;have aH:u.sz=(cO q.tp).sz:=by rw[<-S,J.eu]
  refine⟨_,_,_,u.s,rfl,H7.nw λw8 _ H8=>H8.k9 9 rfl λw9 y=>⟨_,_,_,u.s,y.ld 9 0,y.ld 9 1,y.ld 9 2,y.ld 9 3,y.call (DR u w9 io ((show J.Ps w9 ae from y.getD 0).mem Q)) ?_⟩⟩;rintro _ au rfl k;refine⟨_,rfl,aS (λbe=>?_) (λbi=>?_)⟩
  .refine k.k9 3 rfl λai v=>v.fi 4 rfl λm A=>A.fi 5 rfl λav O=>O.pu 6 rfl λaj d=>⟨_,_,_,⟨none,0,0⟩,d.ld 3 0,d.ld 3 1,d.ld 3 2,d.ld 3 3,_,d.cC 4,_,d.cC 5,d.fr,.inr ⟨E,_,z,.inr ⟨q,rfl,.inl ⟨io,rfl⟩⟩⟩⟩
  .refine ⟨_,_,_,u.s,k.ld 9 0,k.ld 9 1,k.ld 9 2,k.ld 9 3,k.k9 3 rfl λai v=>v.fi 4 rfl λm A=>A.fi 5 rfl λav O=>O.pu 6 rfl λaj d=>⟨_,_,_,u.s,d.ld 3 0,d.ld 3 1,d.ld 3 2,d.ld 3 3,_,d.cC 4,_,d.cC 5,d.fr,.inr ⟨E,_,z,.inr ⟨q,rfl,.inr ⟨io,u,rfl,S,(show J.Ps aj ae from d.getD 0).mem Q,λb an=>?_⟩⟩⟩⟩⟩;rcases ag b (J.b0.2 ⟨u,Q,an⟩)with h|h|h
   .exact l b h
   .exact h
   .exact h.elim
def IA:Sl:=⟨none,0,0⟩
def er(f:FX):FX:=⟨f.k,(IA,f.ar.2),f.al,f.an,f.ca,f.n,f.la⟩
def fq(S:SX):SX:=⟨S.lo.map er,er S.tp,S.st,S.wd⟩
def E8(t:Tk)(S:SX):(gj t S).map fq=gj t (fq S):=by
 have d:er (mx (-1))=mx (-1):=rfl;have e:(S.lo++[S.tp]).map er=S.lo.map er++[er S.tp]:=us
 unfold gj;split
 .rfl
 .split
  .simp only[Option.map_some,fq,d,e]
  .split
   .rfl
   .split
    .split
     .rfl
     .split
      .rfl
      .split
       .rfl
       .split
        .rfl
        .split<;>rfl
    .rfl
def Ki(S:SX)(l:List Rx):(mX S l).map fq=mX (fq S) l:=by
 unfold mX;rcases sR S.lo with d|⟨a,g,d⟩
 .simp [d,fq]
 .have e:(fq S).lo=a.map er++[er g]:=by simp[fq,d]
  rw[d,e];simp[fq];rfl
def LJ(a:Sl)(t:Tk)(S:SX):(gi a t S).map fq=gi IA t (fq S):=by
 have q:(S.lo++[S.tp]).map er=S.lo.map er++[er S.tp]:=us
 have h:(fq S).st=S.st:=rfl;have j:(fq S).tp.k=S.tp.k:=rfl;unfold gi;rw[h,j];by_cases e:S.st=2
 .rw [ag e,ag e];split
  .show some (fq ⟨S.lo++[S.tp],mx S.wd,1,S.wd⟩)=some ⟨S.lo.map er++[er S.tp],mx S.wd,1,S.wd⟩;rw[<-q];rfl
  .rfl
 rw[ad e,ad e];split
 .split
  .exact Ki S []
  .exact E8 t S
 .split
  .exact E8 t S
  .split
   .rfl
   .split
    .rfl
    .split
     .rfl
     .split
      .split<;>rfl
      .split
       .by_cases d:S.lo=[]
        .rw [ag d,ag (show(fq S).lo=[]by simp[fq,d])];rfl
        .rw [ad d,ad (show ¬(fq S).lo=[]by simp[fq,d])];exact Ki S _
       .split
        .by_cases d:S.lo=[]
         .rw [ag d,ag (show(fq S).lo=[]by simp[fq,d])];rfl
         .rw [ad d,ad (show ¬(fq S).lo=[]by simp[fq,d])];rfl
        .exact E8 t ⟨S.lo,mi S.tp,S.st,S.wd⟩
def yp:List Tk->SX->Int⊕SX
 |[],d=>.inr d
 |t::h,d=>match gi IA t d with
  |none=>.inl t.a
  |some e=>yp h e
def Lt:Int⊕SX->Int⊕SX
 |.inl a=>.inl a
 |.inr d=>.inr (fq d)
def Tc:∀(a:List Tk) (S:SX) (r:Int⊕SX),rN a S r->Lt r=yp a (fq S)
 |[],S,r,d=>by have d:r=.inr S:=d;subst d;rfl
 |t::a,S,r,d=>by
  obtain⟨j,⟨e,h⟩|⟨k,e,h⟩⟩:=d
  .subst h;have:=LJ j t S;rw[e]at this;unfold yp;rw[<-this];rfl
  .have:=LJ j t S;rw[e]at this;unfold yp;rw[<-this];exact Tc a k r h
def h4(l:List UInt8):Int⊕SX:=yp (j' l (l.length+1) 0) vW
def UT{s:ByteArray}{r:Int⊕SX}(d:rN (j' (bl s) (s.size+1) 0) vW r):Lt r=h4 (bl s):=by have:=Tc _ _ _ d;rw[this];unfold h4;rw[dd];rfl
def uS(S:SX):cO (fq S).tp=cO S.tp:=rfl
def jH(t:BL):Bool:=bif Nat.blt 4096 t.length then false else match h4 t with
 |.inl _=>false
 |.inr d=>bif Nat.blt 64 (cO d.tp).sz then false else
  if kW (cO d.tp)=0 then(if iM (gl (cO d.tp))=0 then cR 0 (gl (cO d.tp)) (a' (gl (cO d.tp)))==t else false)else false
structure aM where
 k:Int
 n:Int
 x:Int
deriving DecidableEq
structure Nx where
 op:Int
 kids:List Int
 n:Int
 m:Int
 u:Int
 tx:ByteArray
 st:aM
deriving DecidableEq
def a5:aM:=⟨0,0,0⟩
def aZ(n:Int):aM:=⟨0,n,0⟩
def e0(n:Int):aM:=⟨1,n,0⟩
def bx(s:aM):Bool:=(s.k==0&&ak (1<=s.n)&&ak (s.n<=64)&&s.x==0)||(s.k==1&&ak (0<=s.n)&&ak (s.n<=64)&&s.x==0)||(s.k==2&&ak (1<=s.n)&&ak (s.n<=64)&&ak (1<=s.x)&&ak (s.x<=16))||(s.k==3&&ak (0<=s.n)&&ak (s.n<=64)&&ak (1<=s.x)&&ak (s.x<=16))
def gm(s:aM):Int:=if bx s then 0 else 9
def dV(s:aM):Bool:=s.k==2||s.k==3
def ck(a:Int):Int:=if a<0\/34<a then -1 else if a<=3 then 0 else if a=4\/a=5\/a=21\/a=22\/a=23\/a=27\/a=28\/a=33\/a=34 then 1 else if a=19\/a=25\/a=30\/a=32 then 3 else 2
def m6(a:Int):Bool:=a==21||a==22||a==23||a==28
def m7(a:Int):Bool:=a==0||a==2||a==33
def fU(n:Nx):Bool:=(m6 n.op||n.n==0)&&(n.op==21||n.m==0)&&(n.op==1||n.u==0)&&(m7 n.op||ak (n.tx=ba []))
def dx(g:List Nx)(k:Int):Bool:=ak (0<=k)&&ak (k<(g.length:Int))
def gB(c:UInt8):Bool:=ak (97<=c.toNat)&&ak (c.toNat<=122)
def dZ(c:UInt8):Bool:=gB c||(ak (48<=c.toNat)&&ak (c.toNat<=57))||c==45
def jE(l:List UInt8):Bool:=match l with
 |[]=>false
 |c::m=>ak (m.length<=15)&&gB c&&m.all dZ
def ga:List Nx->ByteArray->Option aM
 |[],_=>none
 |d::g,t=>if d.op=0/\d.tx=t then some d.st else ga g t
def oi(g:List Nx)(n:Nx):Bool:=match ga g n.tx with
 |some s=>!decide (s=n.st)
 |none=>false
def mU(u n:Int):Bool:=ak (n<64)&&ak (2^n.toNat<=u)
def b6(g:List Nx)(n:Nx):aM×Int:=
 if n.op=2 then(if 64<n.tx.size then(a5,5)else(e0 n.tx.size,0))else
 if n.op=0/\jE (bl n.tx)=false then(a5,6)else
 if bx n.st=false then(a5,9)else
 if n.op=1/\n.st.k≠0\/n.op=3/\dV n.st=false then(a5,9)else
 if n.op=1/\mU n.u n.st.n=true then(a5,5)else
 if n.op=0/\oi g n=true then(a5,8)else(n.st,0)
def ib(s:aM):aM:=if s.k=2 then aZ s.n else e0 s.n
def ek(a:Int)(x y d:aM):Bool:=
 if a=4\/a=5\/a=21\/a=22\/a=23 then x.k==0 else
 if a=18 then ak (x=y)||(x.k==1&&y.k==1)else
 if a=19 then ak (x=aZ 1)&&(ak (y=d)||(y.k==1&&d.k==1))else
 if a=20 then x.k==0&&y.k==0 else
 if a=24 then dV x&&ak (y=aZ x.x)else
 if a=25 then dV x&&ak (y=aZ x.x)&&(ak (d=ib x)||(x.k==3&&d.k==1&&ak (d.n<=x.n)))else
 if a=26 then dV x&&ak (x=y)else
 if a=27\/a=28\/a=33 then x.k==1 else
 if a=29\/a=31 then x.k==1&&y.k==1 else
 if a=30 then x.k==1&&ak (y=aZ 7)&&ak (d=aZ 7)else
 if a=32 then x.k==1&&y.k==1&&d.k==1 else
 if a=34 then ak (x=aZ 8)else x.k==0&&ak (x=y)
def fX(n:Nx)(x y d:aM):aM:=
 if n.op=16\/n.op=17\/n.op=18\/n.op=33 then aZ 1 else
 if n.op=19 then(if y.k=1 then e0 (if y.n<d.n then d.n else y.n)else y)else
 if n.op=20 then aZ (x.n+y.n)else
 if n.op=21 then aZ (n.n - n.m+1)else
 if n.op=22\/n.op=23 then aZ (x.n+n.n)else
 if n.op=24 then ib x else
 if n.op=26 then aZ x.x else
 if n.op=27\/n.op=31 then aZ 7 else
 if n.op=28 then aZ 8 else
 if n.op=29 then e0 (x.n+y.n)else
 if n.op=32 then e0 (x.n+d.n)else
 if n.op=34 then e0 1 else x
def jb(n:Nx)(x y d:aM):Bool:=
 if n.op=20\/n.op=29 then ak (x.n+y.n<=64)else
 if n.op=21 then ak (0<=n.m)&&ak (n.m<=n.n)&&ak (n.n<x.n)else
 if n.op=22\/n.op=23 then ak (1<=n.n)&&ak (n.n<=64 - x.n)else
 if n.op=28 then ak (0<=n.n)&&ak (n.n<=63)else
 if n.op=32 then ak (x.n+d.n<=64)else true
def a8(g:List Nx)(n:Nx)(i:Nat):aM:=match n.kids[i]? with
 |some e=>match g[e.toNat]? with
  |some d=>d.st
  |none=>a5
 |none=>a5
def mW(t:ByteArray):Bool:=jH (bl t)
def bo(g:List Nx)(n:Nx):aM×Int:=
 if(ck n.op==(n.kids.length:Int)&&n.kids.all (dx g)&&fU n)=false then(a5,1)else
 if n.op<=3 then b6 g n else
 if ek n.op (a8 g n 0) (a8 g n 1) (a8 g n 2)=false then(a5,9)else
 if jb n (a8 g n 0) (a8 g n 1) (a8 g n 2)=false then(a5,5)else
 if n.op=33/\mW n.tx=false then(a5,2)else(fX n (a8 g n 0) (a8 g n 1) (a8 g n 2),0)
def dc(n:Nx)(s:aM):Nx:={n with st:=s}
def eo(n:Nx):List Nx->Nat->Option Nat
 |[],_=>none
 |d::g,i=>if d=n then some i else eo n g (i+1)
def a3(g:List Nx)(n:Nx):List Nx×Int×Int:=
 if(bo g n).2≠0 then([],0,(bo g n).2)else
 match eo (dc n (bo g n).1) g 0 with
 |some i=>(g,i,0)
 |none=>if 4096<=g.length then([],0,4)else(g++[dc n (bo g n).1],g.length,0)
inductive Vg:List Nx->Prop
 |nil:Vg []
 |snoc {g:List Nx} {n:Nx}:Vg g->bo g n=(n.st,0)->n∉g->Vg (g++[n])
structure Nd where
 x:Nx
 ks:Sl
abbrev dk(s:aM):V:=.agg #[.i s.k,.i s.n,.i s.x]
namespace Nd
def c(d:Nd):List V:=[.i d.x.op,d.ks.v,.i d.x.n,.i d.x.m,.u d.x.u,.string d.x.tx,.i d.x.st.k,.i d.x.st.n,.i d.x.st.x]
abbrev v(d:Nd):V:=.agg #[.i d.x.op,d.ks.v,.i d.x.n,.i d.x.m,.u d.x.u,.string d.x.tx,.i d.x.st.k,.i d.x.st.n,.i d.x.st.x]
def qP(d:Nd):(c d).length=9:=rfl
def hU(l:List Nd):(l.flatMap c).length=l.length *9:=pO c 9 qP l
abbrev P(w:I)(d:Nd):Prop:=bJ w d.ks d.x.kids
structure h6(w:I)(p:Addr)(i:Nat)(d:Nd):Prop where
 c0:w.cell? ((p.add (i *9)).add 0)=some (.i d.x.op)
 c1:w.cell? ((p.add (i *9)).add 1)=some d.ks.v
 c2:w.cell? ((p.add (i *9)).add 2)=some (.i d.x.n)
 c3:w.cell? ((p.add (i *9)).add 3)=some (.i d.x.m)
 c4:w.cell? ((p.add (i *9)).add 4)=some (.u d.x.u)
 c5:w.cell? ((p.add (i *9)).add 5)=some (.string d.x.tx)
 c6:w.cell? ((p.add (i *9)).add 6)=some (.i d.x.st.k)
 c7:w.cell? ((p.add (i *9)).add 7)=some (.i d.x.st.n)
 c8:w.cell? ((p.add (i *9)).add 8)=some (.i d.x.st.x)
def cw{w:I}{s:Sl}{l:List Nd}(d:bA 9 w s (l.flatMap c)):s.n=l.length:=by have:=d.1;rw[hU]at this;omega
def a4{w:I}{s:Sl}{l:List Nd}(h:bA 9 w s (l.flatMap c)){i:Nat}{d:Nd}(e:l[i]? =some d){K:Addr->Prop}(g:∀p,s.a=some p->h6 w p i d->K p):ea s.a K:=
 gb.elem (f:=c) (sz:=9) qP io h.2.2 e λp j b=>g p j ⟨b 0 _ rfl,b 1 _ rfl,b 2 _ rfl,b 3 _ rfl,b 4 _ rfl,b 5 _ rfl,b 6 _ rfl,b 7 _ rfl,b 8 _ rfl⟩
def again{w:I}{s:Sl}{l:List Nd}(x:bA 9 w s (l.flatMap c)){i:Nat}{d:Nd}(g:l[i]? =some d){p:Addr}(j:s.a=some p):h6 w p i d:=by have h:=a4 x g (K:=λe=>∃k,s.a=some k/\h6 w k i d) (λe b f=>⟨e,b,f⟩);rw[j]at h;obtain⟨e,b,q⟩:=h;cases b;exact q
end Nd
abbrev xs(l:List Nd):List Nx:=l.map Nd.x
def GP(w:I)(s:Sl)(l:List Nd):Prop:=bA 9 w s (l.flatMap Nd.c)/\∀d∈l,d.P w
abbrev bE(d:Nd):En:=.rd d.ks (d.x.kids.map bX)
def _root_.Go.W.En.gr(s:Sl)(l:List Nd):En:=.all (.a9 9 s (l.flatMap Nd.c)::l.map bE)
def bd{w:I}{s:Sl}{l:List Nd}:(En.gr s l).P w↔GP w s l:=by
 constructor
 .exact λd=>⟨d (.a9 9 s (l.flatMap Nd.c)) us,λe a=>d (bE e) (dJ _ (dn.2 ⟨e,a,rfl⟩))⟩
 .intro d j h;rcases aF.1 h with rfl|h
  .exact d.1
  .obtain ⟨e,a,rfl⟩:=dn.1 h;exact d.2 e a
def n0{s:Sl}{l:List Nd}{b:Nat}:b∈(En.gr s l).fp↔b∈(En.a9 9 s (l.flatMap Nd.c)).fp\/∃e∈l,b∈(bE e).fp:=by
 unfold En.gr En.all;rw[aU,b'];constructor
 .rintro ⟨k,j,d⟩;rcases aF.1 j with rfl|j
  .exact .inl d
  .obtain ⟨e,h,rfl⟩:=dn.1 j;exact .inr ⟨e,h,d⟩
 .rintro (d|⟨e,h,d⟩)
  .exact ⟨_,List.mem_cons_self ..,d⟩
  .exact ⟨_,dJ _ (dn.2 ⟨e,h,rfl⟩),d⟩
def gz{w:I}{s:Sl}{l:List Nd}(d:GP w s l):s.n=l.length:=Nd.cw d.1
def eJ{w:I}{s:Sl}{l:List Nd}(h:GP w s l){i:Nat}{d:Nd}{X:Int}(c:X=(i:Int))(b:l[i]? =some d){K:Addr->Prop}(e:∀p,s.a=some p->Nd.h6 w p (aY X) d->K p):ow s X K:=by have k:=gz h;have j:=(cP.1 b).1;subst c;exact⟨io,io,Nd.a4 h.1 b e⟩
def pa{l:List Nd}{i:Nat}{d:Nd}(e:l[i]? =some d):(xs l)[i]? =some d.x:=by simp[xs,e]
namespace Nd
def h6.s0{w:I}{p:Addr}{i:Nat}{d:Nd}(e:h6 w p i d):w.cell? (((p.add (i *9)).add 6).add 0)=some (.i d.x.st.k):=by rw[add_add];exact e.c6
def h6.s1{w:I}{p:Addr}{i:Nat}{d:Nd}(e:h6 w p i d):w.cell? (((p.add (i *9)).add 6).add 1)=some (.i d.x.st.n):=by rw[add_add];exact e.c7
def h6.s2{w:I}{p:Addr}{i:Nat}{d:Nd}(e:h6 w p i d):w.cell? (((p.add (i *9)).add 6).add 2)=some (.i d.x.st.x):=by rw[add_add];exact e.c8
end Nd
def xk{w:I}{s:Sl}{l:List Nd}(h:GP w s l){i:Nat}{d:Nd}(c:l[i]? =some d){p:Addr}(e:s.a=some p){X:Int}(b:X=(i:Int)):Nd.h6 w p (aY X) d:=by subst b;exact Nd.again h.1 c e
def g1(s:aM):List V:=[.i s.k,.i s.n,.i s.x]
def TW(l:List aM):(l.flatMap g1).length=l.length *3:=pO g1 3 (λ_=>rfl) l
structure Db(w:I)(p:Addr)(i:Nat)(s:aM):Prop where
 c0:w.cell? ((p.add (i *3)).add 0)=some (.i s.k)
 c1:w.cell? ((p.add (i *3)).add 1)=some (.i s.n)
 c2:w.cell? ((p.add (i *3)).add 2)=some (.i s.x)
def adU{w:I}{s:Sl}{l:List aM}(d:bA 3 w s (l.flatMap g1)):s.n=l.length:=by have:=d.1;rw[TW]at this;omega
def eC{w:I}{s:Sl}{l:List aM}(h:bA 3 w s (l.flatMap g1)){i:Nat}{x:aM}{X:Int}(d:X=(i:Int))(c:l[i]? =some x){K:Addr->Prop}(e:∀p,s.a=some p->Db w p (aY X) x->K p):ow s X K:=by have k:=adU h;have j:=(cP.1 c).1;subst d;exact⟨io,io,gb.elem (f:=g1) (sz:=3) (λ_=>rfl) io h.2.2 c λp g b=>e p g ⟨b 0 _ rfl,b 1 _ rfl,b 2 _ rfl⟩⟩
def gG{w:I}{s:Sl}{l:List aM}(q:bA 3 w s (l.flatMap g1)){i:Nat}{x:aM}{X:Int}(c:X=(i:Int))(f:l[i]? =some x){p:Addr}(g:s.a=some p):Db w p (aY X) x:=by have e:=(eC q c f (K:=λd=>∃h,s.a=some h/\Db w h (aY X) x) (λd b j=>⟨d,b,j⟩)).2.2;rw[g]at e;obtain⟨d,b,k⟩:=e;cases b;exact k
def lX(a b:aM):((a.k==b.k)&&((a.n==b.n)&&((a.x==b.x)&&true)))=ak (a=b):=by cases a;cases b;simp only[aM.mk.injEq,Bool.and_true,Bool.decide_and];rfl
def yQ(a b:ByteArray):(a.toList==b.toList)=ak (a=b):=by
 rw[ByteArray.toList_eq,ByteArray.toList_eq];have d:(a.data.toList=b.data.toList)↔a=b:=⟨λd=>ByteArray.ext (Array.toList_inj.1 d),λd=>by rw[d]⟩;rw[<-decide_eq_decide.2 d];cases e:ak (a.data.toList=b.data.toList)with
 |true=>rw[fk e];simp
 |false=>exact beq_eq_false_iff_ne.2 (l5 e)
section
variable {A B:Prop}
def BJ{a b:ByteArray}(c:a=b->A)(d:a≠b->B):bK (a.toList==b.toList) A B:=by rw[yQ];exact aS c d
def nt{a b:aM}(c:a=b->A)(d:a≠b->B):bK ((a.k==b.k)&&((a.n==b.n)&&((a.x==b.x)&&true))) A B:=by rw[lX];exact aS c d
def yt{a b:aM}(c:a≠b->A)(d:a=b->B):bK (!((a.k==b.k)&&((a.n==b.n)&&((a.x==b.x)&&true)))) A B:=by rw[lX];exact eS (λe=>c (l5 e)) (λe=>d (fk e))
def HJ{s:aM}(a:bx s=false->A)(b:bx s=true->B):bK (gm s !=0) A B:=by
 unfold gm;cases d:bx s with
 |true=>exact aT rfl (b d)
 |false=>exact aR rfl (a d)
end
namespace K4
def ok:=aB (aA U Tryz.f107 [] []) N1 [.I]
end K4
namespace K8
def ok:=aB (aA U Tryz.f106 [] []) N7 [.Y]
end K8
namespace w6
def L0:=bD (aA U Tryz.f185 [] []) [0,1,1,1,1] [(0,.Y),(3,.I)]
abbrev t1:=bB L0
def cH:=bO t1 L0
def ok:=aB t1 N6 [.Y]
end w6
namespace w5
abbrev S1:=ai (aA U Tryz.f165 [(4,ls [0,1,2,3,6,7,8,9,4,5,10,11,12,13,14])] []) [3] []
abbrev t1:=aj S1
abbrev S0:=ai t1 [2] [(0,.st),(1,.I)]
abbrev t2:=aj S0
def ok:=aB t2 N0 [.st,.I]
end w5
namespace uI
abbrev P0:Ps:=[(4,.l [.I,.Y,.Y,.s] aI)]
abbrev bg:=ai (aA U Tryz.f143 [] [4]) [0,1,1,1,6] P0
abbrev t1:=aj bg
abbrev cM:=ai t1 [0,1,1,1,9] P0
abbrev t2:=aj cM
abbrev bL:=ai t2 [9] [(0,.st),(1,.I),(4,.l [.I,.Y,.Y,.s] aI),(8,.Y),(11,.Y),(12,.I),(13,.I)]
abbrev t3:=aj bL
abbrev aV:=ai t3 [6] [(0,.st),(1,.I),(4,.l [.I,.Y,.Y,.s] aI),(8,.Y),(9,.I),(10,.I)]
abbrev t4:=aj aV
def aq:=aB t4 N9 [.st,.I]
end uI
namespace kJ
def aX:=bD (aA U Tryz.f112 [(11,lr 13)] [5]) [0,1,1,1,2] [(0,.st),(3,.s),(4,.I)]
abbrev t1:=bB aX
abbrev P0:Ps:=[(0,.st),(3,.s),(4,.I),(5,.l [.I,.Y,.Y,.s] aI),(6,.I)]
def cA:=bD t1 [0,1,1,1,1,1,2,1,1,2,1,1,2] P0
abbrev t2:=bB cA
abbrev bL:=ai t2 [3,1,1,2,1,1,2] P0
abbrev t3:=aj bL
def dU:=bO t3 cA
def bR:=bO t3 aX
def aq:=aB t3 NY [.st]
end kJ
namespace Lc
def ok:=aB (aA U Tryz.f167 [(3,lr 12)] []) Ob [.r]
end Lc
namespace Ld
abbrev S0:=ai (aA U Tryz.f145 [] []) [3] []
abbrev t1:=aj S0
def ok:=aB t1 Od [.r,.st]
end Ld
namespace Lb
def ok:=aB (aA U Tryz.f114 [] []) Oa [.r,.st]
end Lb
namespace K6
def aq:=aB (aA U Tryz.f146 [] [4]) xH [.I,.s]
end K6
namespace La
def ok:=aB (aA U Tryz.f187 [] []) N' [.r]
end La
namespace w8
def aX:=bD (aA U Tryz.f113 [] [2]) [0,2,2] [(0,.r),(2,.l [.I,.Y,.Y,.s] aI),(3,.s)]
abbrev t1:=bB aX
def bR:=bO t1 aX
def aq:=aB t1 FQ [.r]
end w8
namespace w7
def aX:=bD (aA U Tryz.f144 [] [2]) [0,2,2] [(0,.r),(2,.l [.I,.Y,.Y,.s] aI),(3,.s)]
abbrev t1:=bB aX
def bR:=bO t1 aX
def aq:=aB t1 AL [.r]
end w7
namespace xa
def aX:=bD (aA U Tryz.f166 [] [2]) [0,2,2] [(0,.r),(2,.l [.I,.Y,.Y,.s] aI),(3,.s)]
abbrev t1:=bB aX
def bR:=bO t1 aX
def aq:=aB t1 AN [.r]
end xa
namespace zZ
def aX:=bD (aA U Tryz.f186 [] [2,4]) [0,2,4] [(0,.r),(2,.l [.I,.Y,.Y,.s] aI),(4,.l [.I,.Y,.Y,.s] aI)]
abbrev t1:=bB aX
def bR:=bO t1 aX
def aq:=aB t1 AM [.r]
end zZ
namespace pN
abbrev P0:Ps:=[(0,.r),(2,.l [.I,.Y,.Y,.s] aI),(3,.s),(4,.I)]
def cA:=bD (aA U Tryz.f217 [(1,lr 20),(3,lr 13),(8,ls [0,1,2,3,5,6,7,8,4,9,10])] [2,5,6]) [0,1,1,1,3] P0
abbrev t1:=bB cA
abbrev bL:=ai t1 [2,2,1,1,3] P0
abbrev t2:=aj bL
abbrev cM:=ai t2 [4,2,1,2,1,1,3] [(2,.l [.I,.Y,.Y,.s] aI),(5,.l [.I,.Y,.Y,.s] aI)]
abbrev t3:=aj cM
def dU:=bO t3 cA
abbrev aV:=ai t3 [2] [(0,.r),(2,.l [.I,.Y,.Y,.s] aI)]
abbrev t4:=aj aV
def aq:=aB t4 FP [.r]
end pN
namespace w9
abbrev S0:=ai (aA U Tryz.f232 [] []) [0,1,1,1,3] []
abbrev t1:=aj S0
def L1:=bD t1 [0,2,5] [(0,.r),(4,.s)]
abbrev t2:=bB L1
def jU:=bO t2 L1
def ok:=aB t2 FR [.r]
end w9
namespace K0
def aq:=aB (aA U Tryz.f85 [(7,lr 15)] [2,6]) NW [.st]
end K0
namespace KW
def ok:=aB (aA U Tryz.f79 [] []) NS [.Y]
end KW
namespace El
abbrev aV:=ai (aA U Tryz.f78 [] [1]) [0,1,1,1,2] []
abbrev t1:=aj aV
def aq:=aB t1 FO [.a 4,.I,.Y,.Y,.s]
end El
namespace K7
def ok:=aB (aA U Tryz.f80 [] []) N4 [.Y]
end K7
namespace m3
abbrev aV:=ai (aA U Tryz.f52 [(11,ls [0,1,5,6,2,3,4,7,8,9,10])] [2]) [2,1,1,1,3] [(2,.l [.I,.Y,.Y,.s] aI),(5,.st)]
abbrev t1:=aj aV
abbrev P0:Ps:=[(2,.l [.I,.Y,.Y,.s] aI),(6,.st),(7,.I),(8,.st),(9,.I)]
def cA:=bD t1 [0,1,1,1,7] P0
abbrev t2:=bB cA
abbrev cM:=ai t2 [2,2,1,1,7] P0
abbrev t3:=aj cM
abbrev bL:=ai t3 [2,2,1,2,1,1,7] [(2,.l [.I,.Y,.Y,.s] aI),(6,.st),(7,.I),(8,.st),(9,.I),(10,.st)]
abbrev t4:=aj bL
def dU:=bO t4 cA
def aq:=aB t4 q7 [.a 4,.I,.Y,.Y,.s,.I]
end m3
namespace Yr
noncomputable def C0:Code:=(Tryz.f33.body).getD .skip
noncomputable def C1:=C0.sn
noncomputable def C2:=C1.sn
noncomputable def C3:=C2.sn
noncomputable def C4:=C3.sn
noncomputable def C5:=C4.sn
noncomputable def C6:=C5.sn
noncomputable def C7:=C6.sn
noncomputable def C8:=C7.sn
abbrev Q0(R:aC):ln:=(bodyPost U Tryz.f33 R)
noncomputable def C9:=C8.sn
abbrev S0(o:Int)(b:Sl)(w:I)(R:aC):Prop:=
 (0:Int)<=(fA (aE .i64 (fj o 216)) 8)/\(fA (aE .i64 (fj o 216)) 8)<(b.n:Int)/\ea b.a λc=>jA w (c.add (aY (fA (aE .i64 (fj o 216)) 8) *4)) λd e f g=>zJ xI #[.agg #[.i d,.int .u8 e,.int .u8 f,g.v]] w λh j l m k=>J6 q7 #[.agg #[.i h,.int .u8 j,.int .u8 l,m.v],.i 0] k λp r=>R (ab (.string p)) r
def tX(E:Env)(w:I)(R:aC):Prop:=W.asInt .i64 (Env.get? E 3) λb=>W.asSlice (Env.get? E 9) λa=>S0 b a w R
end Yr
namespace KX
def aq:=aB (aA U Tryz.f59 [] [3,6]) NU [.st]
end KX
namespace Lg
def aq:=aB (aA U Tryz.f17 [] [2]) Og [.I]
end Lg
namespace Ll
def aq:=aB (aA U Tryz.f32 [] [2]) Ou [.I]
end Ll
namespace Lm
def ok:=aB (aA U Tryz.f82 [] []) Oy [.s,.I]
end Lm
namespace Li
abbrev P0:Ps:=[]
abbrev S0:=ai (aA U Tryz.f34 [] []) [0,1,1,1,1] P0
abbrev t1:=aj S0
abbrev S1:=ai t1 [0,1,1,1,1,1,3] P0
abbrev t2:=aj S1
abbrev S3:=ai t2 [0,1,3,1,1,1,3] P0
abbrev t3:=aj S3
abbrev S4:=ai t3 [4] P0
abbrev t4:=aj S4
abbrev S2:=ai t4 [2,1,1,1,3] [(11,.I)]
abbrev t5:=aj S2
def ok:=aB t5 Ol [.I]
end Li
namespace nZ
abbrev S0:=ai (aA U Tryz.f83 [] []) [0,1,1,1,1] []
abbrev t1:=aj S0
abbrev P0:Ps:=[(0,.st),(3,.I)]
def L1:=bD t1 [0,1,1,1,2] P0
abbrev t2:=bB L1
abbrev S4:=ai t2 [2,2,1,1,2] P0
abbrev t3:=aj S4
abbrev S3:=ai t3 [2,2,1,2,1,1,2] [(0,.st),(3,.I),(4,.b),(5,.b)]
abbrev t4:=aj S3
abbrev S2:=ai t4 [1,2,1,2,1,1,2] [(0,.st),(3,.I),(4,.b)]
abbrev t5:=aj S2
def jU:=bO t5 L1
def ok:=aB t5 Oo [.st]
end nZ
namespace Le
def ok:=aB (aA U Tryz.f111 [] []) xJ [.I,.I,.I]
end Le
namespace se
abbrev aV:=ai (aA U Tryz.f84 [] [1]) [3] [(3,.b)]
abbrev t1:=aj aV
def aq:=aB t1 Oe [.a 3,.I,.I,.I]
end se
namespace xd
def aX:=bD (aA U Tryz.f55 [(1,ls [0,1,3,4,5,2,6])] [3]) [0,1,1,1,2] [(0,.s),(3,.l [.I,.s,.I,.I,.U,.st,.I,.I,.I] bP),(5,.I)]
abbrev t1:=bB aX
abbrev P0:Ps:=[]
abbrev bg:=ai t1 [0,1,1,2,1,2,1,1,2] P0
abbrev t2:=aj bg
abbrev bL:=ai t2 [0,1,1,1,5] P0
abbrev t3:=aj bL
abbrev cM:=ai t3 [6] P0
abbrev t4:=aj cM
def bR:=bO t4 aX
def aq:=aB t4 Ov [.s,.a 9,.I,.s,.I,.I,.U,.st,.I,.I,.I]
end xd
namespace kK
abbrev bL:=ai (aA U Tryz.f56 [(19,lr 31)] [3,4]) [0,1,1,1,7] [(4,.l [.I,.I,.I] cd)]
abbrev t1:=aj bL
abbrev P0:Ps:=[(0,.s),(3,.l [.I,.s,.I,.I,.U,.st,.I,.I,.I] bP),(4,.l [.I,.I,.I] cd),(9,.I)]
def iQ:=bD t1 [0,1,1,1,9] P0
abbrev t2:=bB iQ
abbrev lu:=ai t2 [2,2,1,1,9] P0
abbrev t3:=aj lu
def mQ:=bO t3 iQ
abbrev P1:Ps:=[(0,.s),(3,.l [.I,.s,.I,.I,.U,.st,.I,.I,.I] bP),(4,.l [.I,.I,.I] cd)]
abbrev gw:=ai t3 [9] P1
abbrev t4:=aj gw
abbrev cM:=ai t4 [8] P1
abbrev t5:=aj cM
abbrev bg:=ai t5 [7] [(0,.s),(3,.l [.I,.s,.I,.I,.U,.st,.I,.I,.I] bP),(4,.l [.I,.I,.I] cd),(8,.b)]
abbrev t6:=aj bg
abbrev aV:=ai t6 [3] [(0,.s),(3,.l [.I,.s,.I,.I,.U,.st,.I,.I,.I] bP),(4,.l [.I,.I,.I] cd),(6,.b)]
abbrev t7:=aj aV
def aq:=aB t7 Oz [.s,.a 9,.I,.s,.I,.I,.U,.st,.I,.I,.I]
end kK
namespace Lh
def aq:=aB (aA U Tryz.f54 [] [1,2]) Oi [.a 3,.I,.I,.I]
end Lh
namespace Em
abbrev bg:=ai (aA U Tryz.f57 [(13,lr 16),(15,lr 27),(19,lr 11),(21,lr 11),(23,lr 28),(25,lr 9),(34,lr 16),(38,lr 4),(39,lr 9)] [5]) [0,1,1,1,1,1,5] [(6,.b)]
abbrev t1:=aj bg
abbrev cM:=ai t1 [0,1,1,2,11,1,1,1,5] []
abbrev t2:=aj cM
abbrev gw:=ai t2 [0,1,15,1,1,1,5] [(7,.b)]
abbrev t3:=aj gw
abbrev lu:=ai t3 [0,1,17,1,1,1,5] [(1,.s),(7,.b)]
abbrev t4:=aj lu
abbrev P0:Ps:=[(1,.s),(5,.l [.I,.I,.I] cd),(6,.b),(7,.b),(26,.I)]
abbrev nO:=ai t4 [18,1,1,1,5] P0
abbrev t5:=aj nO
abbrev pv:=ai t5 [16,1,1,1,5] P0
abbrev t6:=aj pv
abbrev bL:=ai t6 [2,1,1,1,5] [(1,.s),(5,.l [.I,.I,.I] cd),(6,.b),(7,.b),(8,.b),(26,.I)]
abbrev t7:=aj bL
abbrev aV:=ai t7 [5] [(0,.I),(1,.s),(5,.l [.I,.I,.I] cd),(6,.b),(7,.b),(8,.b)]
abbrev t8:=aj aV
def aq:=aB t8 Ox [.I,.s]
end Em
namespace z0
abbrev P0:Ps:=[(4,.l [.I,.I,.I] cd)]
abbrev aV:=ai (aA U Tryz.f58 [(10,lr 12),(13,ls [0,1,2,3,4,5,6,8,9,10,11,12,13,14,15,7,16,17]),(15,ls [0,1,2,3,4,5,7,8,9,6,10,11,12,13,14,15,16,17,18,19,20,21,22,23,24,25]),(18,ls [0,1,2,3,4,6,7,8,5,9,10,11,12,13,14,15,16,17,18]),(27,ls [1,2,3,0,4,5,6,7,8,9,10]),(29,ls [0,1,2,3,4,5,6,8,9,10,11,12,13,14,15,7,16,17]),(31,ls [0,1,2,3,4,5,6,8,9,10,11,12,13,14,15,7,16,17])] [2,4,6]) [0,1,1,1,1,1,2] P0
abbrev t1:=aj aV
abbrev bL:=ai t1 [0,1,9,1,1,1,2] [(2,.l [.I,.s,.I,.I,.U,.st,.I,.I,.I] bP),(4,.l [.I,.I,.I] cd),(6,.l [.I,.I,.I] cd)]
abbrev t2:=aj bL
abbrev gw:=ai t2 [0,1,15,1,1,1,2] P0
abbrev t3:=aj gw
abbrev P1:Ps:=[(1,.s),(2,.l [.I,.s,.I,.I,.U,.st,.I,.I,.I] bP),(4,.l [.I,.I,.I] cd),(6,.l [.I,.I,.I] cd),(11,.I)]
abbrev pv:=ai t3 [16,1,1,1,2] P1
abbrev t4:=aj pv
abbrev cM:=ai t4 [10,1,1,1,2] P1
abbrev t5:=aj cM
abbrev bg:=ai t5 [2,1,1,1,2] P1
abbrev t6:=aj bg
def aq:=aB t6 OB [.a 9,.I,.s,.I,.I,.U,.st,.I,.I,.I,.s]
end z0
namespace uJ
def aX:=bD (aA U Tryz.f37 [] [3,4,10]) [0,1,1,1,5] [(0,.s),(3,.l [.I,.s,.I,.I,.U,.st,.I,.I,.I] bP),(4,.l [.I,.I,.I] cd),(7,.s),(8,.I)]
abbrev t1:=bB aX
abbrev bg:=ai t1 [11] [(4,.l [.I,.I,.I] cd),(10,.l [.I,.I,.I] cd),(12,.b)]
abbrev t2:=aj bg
def bR:=bO t2 aX
def aq:=aB t2 Ot [.s,.a 9,.I,.s,.I,.I,.U,.st,.I,.I,.I]
end uJ
namespace Lj
def aq:=aB (aA U Tryz.f60 [] [2,3]) Oq [.a 9,.I,.s,.I,.I,.U,.st,.I,.I,.I,.a 9,.I,.s,.I,.I,.U,.st,.I,.I,.I]
end Lj
namespace xc
def cA:=bD (aA U Tryz.f38 [(7,lr 7)] [3,5]) [0,1,1,1,3] [(0,.s),(3,.l [.I,.s,.I,.I,.U,.st,.I,.I,.I] bP),(7,.I)]
abbrev t1:=bB cA
def dU:=bO t1 cA
abbrev aV:=ai t1 [3] [(0,.s),(3,.l [.I,.s,.I,.I,.U,.st,.I,.I,.I] bP)]
abbrev t2:=aj aV
def aq:=aB t2 Oj [.s,.a 9,.I,.s,.I,.I,.U,.st,.I,.I,.I]
end xc
namespace Lf
def aq:=aB (aA U Tryz.f14 [(10,(.sq [1,3,6,7] (.fork (.sq [0] (.fork (ls [2,4,5,8,9,10]) (ls [4,2,5,8,9,10]))) (ls [4,0,2,5,8,9,10]))))] [3,7]) Of [.s,.a 9,.I,.s,.I,.I,.U,.st,.I,.I,.I]
end Lf
namespace Eo
abbrev S1:=ai (aA U Tryz.f12 [] []) [4] [(3,.s)]
abbrev t1:=aj S1
abbrev S0:=ai t1 [3] [(0,.I),(3,.s)]
abbrev t2:=aj S0
def ok:=aB t2 OD [.I]
end Eo
namespace sh
abbrev P0:Ps:=[(0,.s),(2,.I),(4,.l [.I,.I,.I] cd),(7,.s),(8,.I)]
def aX:=bD (aA U Tryz.f35 [(5,lr 7)] [4]) [0,1,1,1,2] P0
abbrev t1:=bB aX
abbrev bg:=ai t1 [2,2,1,1,2] P0
abbrev t2:=aj bg
def bR:=bO t2 aX
def aq:=aB t2 Om [.s,.a 3,.I,.I,.I,.I]
end sh
namespace Ep
abbrev aV:=ai (aA U Tryz.f36 [] [10,11]) [0,1,11,1,1,1,2] [(4,.I),(10,.l [.I,.I,.I] cd)]
abbrev t1:=aj aV
abbrev bg:=ai t1 [3] [(10,.l [.I,.I,.I] cd),(11,.l [.I,.I,.I] cd)]
abbrev t2:=aj bg
def aq:=aB t2 OE [.s,.I,.I,.I,.I]
end Ep
namespace jv
def iQ:=bD (aA U Tryz.f13 [(38,lr 13)] [8,10,16]) [0,1,1,1,8] [(0,.s),(2,.I),(3,.I),(8,.l [.I,.s,.I,.I,.U,.st,.I,.I,.I] bP),(10,.l [.I,.s,.I,.I,.U,.st,.I,.I,.I] bP),(11,.I),(13,.I),(14,.I)]
abbrev t1:=bB iQ
abbrev nO:=ai t1 [2,2,1,2,1,1,8] [(0,.s),(2,.I),(3,.I),(8,.l [.I,.s,.I,.I,.U,.st,.I,.I,.I] bP),(10,.l [.I,.s,.I,.I,.U,.st,.I,.I,.I] bP),(11,.I),(13,.I),(14,.I),(15,.I)]
abbrev t2:=aj nO
abbrev lu:=ai t2 [2,1,1,1,1,2,1,2,1,1,8] [(0,.s),(2,.I),(3,.I),(8,.l [.I,.s,.I,.I,.U,.st,.I,.I,.I] bP),(10,.l [.I,.s,.I,.I,.U,.st,.I,.I,.I] bP),(11,.I),(13,.I),(14,.I),(16,.l [.I,.I,.I] cd)]
abbrev t3:=aj lu
def mQ:=bO t3 iQ
abbrev gw:=ai t3 [8] [(0,.s),(2,.I),(3,.I),(8,.l [.I,.s,.I,.I,.U,.st,.I,.I,.I] bP),(10,.l [.I,.s,.I,.I,.U,.st,.I,.I,.I] bP),(11,.I),(13,.I)]
abbrev t4:=aj gw
abbrev cM:=ai t4 [7] [(0,.s),(1,.I),(2,.I),(3,.I),(8,.l [.I,.s,.I,.I,.U,.st,.I,.I,.I] bP),(10,.l [.I,.s,.I,.I,.U,.st,.I,.I,.I] bP),(11,.I),(13,.I)]
abbrev t5:=aj cM
abbrev P0:Ps:=[(0,.s),(1,.I),(2,.I),(3,.I),(8,.l [.I,.s,.I,.I,.U,.st,.I,.I,.I] bP),(10,.l [.I,.s,.I,.I,.U,.st,.I,.I,.I] bP),(11,.I)]
abbrev bL:=ai t5 [5] P0
abbrev t6:=aj bL
abbrev P1:Ps:=[(0,.s),(1,.I),(2,.I),(3,.I),(8,.l [.I,.s,.I,.I,.U,.st,.I,.I,.I] bP),(10,.l [.I,.s,.I,.I,.U,.st,.I,.I,.I] bP),(11,.I),(12,.I)]
abbrev bg:=ai t6 [2,1,1,1,1,1,4] P1
abbrev t7:=aj bg
abbrev aV:=ai t7 [1,1,1,1,1,1,4] P1
abbrev t8:=aj aV
abbrev rO:=ai t8 [0,1,9,1,1,1,4] P0
abbrev t9:=aj rO
abbrev VN:=ai t9 [10,1,1,1,4] [(0,.s),(1,.I),(2,.I),(3,.I),(8,.l [.I,.s,.I,.I,.U,.st,.I,.I,.I] bP),(10,.l [.I,.s,.I,.I,.U,.st,.I,.I,.I] bP),(11,.I),(32,.I)]
abbrev t10:=aj VN
def aq:=aB t10 OA [.s,.I,.I,.I]
end jv
namespace uK
abbrev P0:Ps:=[(0,.s),(1,.I),(5,.I),(6,.I)]
def L0:=bD (aA U Tryz.f16 [] []) [0,1,1,1,2] P0
abbrev t1:=bB L0
abbrev S1:=ai t1 [2,2,1,1,2] P0
abbrev t2:=aj S1
def cH:=bO t2 L0
def ok:=aB t2 OC [.s,.I]
end uK
namespace Ln
def aq:=aB (aA U Tryz.f15 [] [3]) OF [.I,.a 3,.I,.I,.I]
end Ln
namespace oL
abbrev P0:Ps:=[(0,.s),(1,.I),(2,.I),(7,.s),(8,.I)]
def aX:=bD (aA U Tryz.f4 [(5,(.sq [0,1,2,3,4,5,6,7,8,9,10,11,12,13,14] (.fork (ls [15,16,17]) (ls [16,15,17]))))] [9]) [0,1,1,1,2] P0
abbrev t1:=bB aX
abbrev bL:=ai t1 [2,2,1,1,2] P0
abbrev t2:=aj bL
abbrev bg:=ai t2 [1,2,1,2,1,1,2] [(0,.s),(1,.I),(2,.I),(7,.s),(8,.I),(9,.l [.I,.s,.I,.I,.U,.st,.I,.I,.I] bP)]
abbrev t3:=aj bg
abbrev cM:=ai t3 [3] [(7,.s)]
abbrev t4:=aj cM
def bR:=bO t4 aX
def aq:=aB t4 On [.s,.I,.I]
end oL
def fD(n:Int)(w:I):ah U Og #[.i n] w λr d=>r=ab (dk (aZ n))/\af w d:=
 Lg.aq ((bZ [] us).aw λb e a=>a.ae λf c=>⟨rfl,c.fr⟩)
def pA(n:Int)(w:I):ah U Ou #[.i n] w λr d=>r=ab (dk (e0 n))/\af w d:=
 Ll.aq ((bZ [] us).aw λb e a=>a.ae λf c=>⟨rfl,c.fr⟩)
def Hf(s:aM)(w:I):ah U Oi #[dk s] w λr f=>r=ab (dk (ib s))/\af w f:=by
 refine Lh.aq ((bZ [] us).aw λb q h=>h.aw λi e c=>ax (λj=>c.av (fD s.n e) ?_) (λj=>c.av (pA s.n e) ?_))
 .rintro _ k rfl d;exact⟨_,_,_,rfl,d.ae λg a=>⟨by unfold ib;grind,a.fr⟩⟩
 .rintro _ k rfl d;exact⟨_,_,_,rfl,d.ae λg a=>⟨by unfold ib;grind,a.fr⟩⟩
def vp{op:Int}(a:0<=op)(b:op<=34):op=0\/op=1\/op=2\/op=3\/op=4\/op=5\/op=6\/op=7\/op=8\/op=9\/op=10\/op=11\/op=12\/op=13\/op=14\/op=15\/op=16\/op=17\/op=18\/op=19\/op=20\/op=21\/op=22\/op=23\/op=24\/op=25\/op=26\/op=27\/op=28\/op=29\/op=30\/op=31\/op=32\/op=33\/op=34:=io
def JA(a:Int)(w:I):ah U Ol #[.i a] w λr b=>r=ab (.i (ck a))/\af w b:=by
 refine Li.ok ?_;by_cases d:a<0
 .exact aR (a6 d) ⟨by unfold ck;grind,Fr.refl _ _⟩
 refine aT (a7 d) ?_;by_cases e:a>34
 .exact aR (a6 e) ⟨by unfold ck;grind,Fr.refl _ _⟩
 refine aT (a7 e) ?_;rcases vp io (by omega:a<=34)with rfl|rfl|rfl|rfl|rfl|rfl|rfl|rfl|rfl|rfl|rfl|rfl|rfl|rfl|rfl|rfl|rfl|rfl|rfl|rfl|rfl|rfl|rfl|rfl|rfl|rfl|rfl|rfl|rfl|rfl|rfl|rfl|rfl|rfl|rfl<;>exact⟨rfl,Fr.refl _ _⟩
def L7{s:ByteArray}{i:Nat}(d:i<s.size):s[i]? =some (gQ (bl s) i):=by
 have h:i<(bl s).length:=d;have e:gQ (bl s) i=(bl s)[i]:=by unfold gQ;grind
 rw[e,getElem?_pos s i d];rfl
def xP(c:UInt8)(m:List UInt8):jE (c::m)=(ak (m.length<=15)&&gB c&&m.all dZ):=rfl
def WL(s:ByteArray)(w:I):ah U Oo #[.string s] w λr a=>r=ab (.bool (jE (bl s)))/\af w a:=by
 have y:(bl s).length=s.size:=dd s;have no:jE (bl s)=false->(Ending.returned (.bool false)=ab (.bool (jE (bl s)))/\af w w):=λe=>⟨by rw[e],Fr.refl _ _⟩;cases k:bl s with
 |nil=>
  have j:s.size=0:=by grind
  exact nZ.ok (aR (a6 io) ⟨rfl,Fr.refl _ _⟩)
 |cons c m=>
  have J:s.size=m.length+1:=by grind
  rw[k]at no;have B:gQ (bl s) 0=c:=by rw[k];rfl
  have j:s[aY 0]? =some c:=by rw[<-B];exact L7 io
  refine nZ.ok (aT (a7 io) (aS (λe=>no ?_) (λe=>⟨io,c,j,aS (λE=>no ?_) (λE=>⟨io,c,j,aS (λb=>no ?_) (λb=>?_)⟩)⟩)))
  .rw [xP,a7 io];rfl
  .rw [xP];unfold gB;grind
  .rw [xP];unfold gB;grind
  have z:jE (c::m)=m.all dZ:=by
   rw[xP];unfold gB
   grind
  have A:jE (c::m)=(bl s).all dZ:=by
   rw[z,k,List.all_cons];unfold dZ gB
   grind
  rw[A];have loop:∀(d i:Nat),i+d=s.size->(bl s).all dZ=((bl s).drop i).all dZ->nZ.L1 s (i:Int) w λr a=>r=ab (.bool ((bl s).all dZ))/\af w a:=by
   intro d;induction d with
   |zero=>
    intro i D h;rw[List.drop_of_length_le io]at h;exact nZ.jU (aT (a7 io) ⟨by grind,Fr.refl _ _⟩)
   |succ d L=>
    intro i D h;have C:=L7 (show i<s.size by omega);rw[List.drop_eq_getElem_cons (by omega:i<(bl s).length),List.all_cons,show(bl s)[i]'io=gQ (bl s) i by unfold gQ;grind]at h;generalize gQ (bl s) i=x at C h;have go:dZ x=true->nZ.S4 s (i:Int) w λr a=>r=ab (.bool ((bl s).all dZ))/\af w a:=λe=>by
     show nZ.L1 s (aE .i64 ((i:Int)+1)) w _;rw[bt _ io]
     grind
    have stop:dZ x=false->(Ending.returned (.bool false)=ab (.bool ((bl s).all dZ))/\af w w):=λe=>⟨by grind,Fr.refl _ _⟩;have G:gB x=false->∀o:Bool,o=((ak (48<=x.toNat)&&ak (x.toNat<=57))||x==45)->nZ.S3 s (i:Int) false o w λr a=>r=ab (.bool ((bl s).all dZ))/\af w a:=λf o F=>by
     refine aR rfl (eS (λe=>stop ?_) (λe=>go ?_))
     .unfold dZ;grind
     .unfold dZ;grind
    have H:(((x.toNat:Int)==45):Bool)=(x==45):=by
     by_cases e:x=45
     .subst e;rfl
     .rw [beq_eq_false_iff_ne.2 e,beq_eq_false_iff_ne];intro b;exact e (UInt8.toNat_inj.1 (by grind))
    have K:((i:Int)).toNat=i:=cb i;have q:∀l:Bool,l=gB x->nZ.S2 s (i:Int) l w λr a=>r=ab (.bool ((bl s).all dZ))/\af w a:=λl y=>by
     have fin:∀o:Bool,o=((ak (48<=x.toNat)&&ak (x.toNat<=57))||x==45)->nZ.S3 s (i:Int) l o w λr a=>r=ab (.bool ((bl s).all dZ))/\af w a:=λo F=>by
      cases f:gB x with
      |true=>rw[y,f];exact aT rfl (go (by unfold dZ;grind))
      |false=>grind
     refine⟨io,x,by grind,aS (λe=>⟨io,x,by grind,aS (λg=>fin true ?_) (λg=>⟨io,x,by grind,?_⟩)⟩) (λe=>⟨io,x,by grind,?_⟩)⟩
     .grind
     .grind
     grind
    refine nZ.jU (aR (a6 io) ⟨io,x,by grind,aS (λe=>⟨io,x,by grind,q _ ?_⟩) (λe=>q _ ?_)⟩)
    .unfold gB
     grind
    .unfold gB
     grind
  exact loop s.size 0 io us
def Hi(n b a:Int)(w:I):ah U xJ #[.int .i64 n,.int .i64 b,.int .i64 a] w λr c=>r=ab (.bool (ak (b<=n/\n<=a)))/\af w c:=by
 refine Le.ok (aS (λd=>⟨?_,Fr.refl _ _⟩) (λd=>⟨?_,Fr.refl _ _⟩))
 .grind
 grind
def acp(s:aM)(w:I):ah U Oe #[dk s] w λr c=>r=ab (.int .i64 (gm s))/\af w c:=by
 refine se.aq ((bZ [] us).aw λq g k=>?_);have fin:∀{a:I} {L:List En} (b:Bool),b=bx s->O F0 w a L []->se.aV b a λr c=>r=ab (.int .i64 (gm s))/\af w c:=by
  rintro a L b rfl y;refine eS (λj=>⟨?_,y.fr⟩) (λj=>⟨?_,y.fr⟩)
  .unfold gm;grind
  .unfold gm;grind
 have plain:∀d:Int,(bx s=(ak (d<=s.n/\s.n<=64)&&(s.x==0)))->e8 [q] U xJ #[.int .i64 s.n,.int .i64 d,.int .i64 64] g λf a=>∃h:Bool,f=ab (.bool h)/\bK h (se.aV (s.x==0) a λr c=>r=ab (.int .i64 (gm s))/\af w c) (se.aV false a λr c=>r=ab (.int .i64 (gm s))/\af w c):=by
  intro d z;refine k.av (Hi _ _ _ g) ?_;rintro _ a rfl e;refine⟨_,rfl,bm (λj=>fin _ ?_ e) (λj=>fin _ ?_ e)⟩
  .grind
  grind
 have array:∀d:Int,(bx s=(ak (d<=s.n/\s.n<=64)&&ak (1<=s.x/\s.x<=16)))->e8 [q] U xJ #[.int .i64 s.n,.int .i64 d,.int .i64 64] g λf a=>∃h:Bool,f=ab (.bool h)/\bK h (e8 [q] U xJ #[.int .i64 s.x,.int .i64 1,.int .i64 16] a λf A=>∃i:Bool,f=ab (.bool i)/\se.aV i A λr c=>r=ab (.int .i64 (gm s))/\af w c) (se.aV false a λr c=>r=ab (.int .i64 (gm s))/\af w c):=by
  intro d z;refine k.av (Hi _ _ _ g) ?_;rintro _ a rfl e;refine⟨_,rfl,bm (λj=>e.av (Hi _ _ _ a) ?_) (λj=>fin _ ?_ e)⟩
  .grind
  grind
 refine ax (λp=>plain 1 ?_) (λp=>ax (λl=>plain 0 ?_) (λl=>ax (λm=>array 1 ?_) (λm=>ax (λo=>array 0 ?_) (λo=>fin _ ?_ k))))
 .unfold bx;grind
 .unfold bx;grind
 .unfold bx;grind
 .unfold bx;grind
 .unfold bx;grind
section
variable {M:Nat->Prop} {w0 w:I} {L D:List En} {bs:List Nat}
def zG(w:I)(a:Nat)(e:List V)(d:aD)(b:Nat):¬(En.c a e d).P ({w with heap:=gu (b+1) (.map #[] 0)}):=by intro h;have h:({w with heap:=gu (b+1) (.map #[] 0)}:I).heap[a]? =some (.cells e.toArray d (0,0)):=h;simp[Array.getElem?_replicate]at h
def r0{d:Nat}{vs:List V}{ty:aD}{b:Nat}:b∈(En.c d vs ty).fp↔b=d:=by simp[En.c,En.ob]
def _root_.Go.W.O.Ci{d:Nat}{vs:List V}{ty:aD}(H:O M w0 w (.c d vs ty::L) D){w':I}(f:Fr (·=d) w w'){j:List V}(y:w'.heap[d]? =some (.cells j.toArray ty (0,0))):
  O M w0 w' (.c d j ty::L) D/\∀h:En,h.P w'->(∀b∈h.fp,w.heap.size<=b)->O M w0 w' (.c d j ty::L) (D++[h]):=by
 have e:O M w0 w' (.c d j ty::L) D:=H.zL 0 f y;refine⟨e,λh l m=>⟨e.fr,e.own,λk a=>?_,e.new,e.nd,λk a b x q i g=>?_⟩⟩
 .rcases aP.1 a with a|a
  .exact e.rd k a
  .simp at a;subst a;exact l
 .rcases aP.1 a with a|a
  .exact e.dj k a b x q i g
  .simp at a;subst a;have z:=m b x;have A:b<w.heap.size:=by
    rcases aF.1 i with rfl|i
    .have g:=r0.1 g;have:=(En.c d vs ty).lt w (H.get 0) d (r0.2 rfl);omega
    .exact q.lt w (H.own q (dJ _ i)) b g
   omega
def _root_.Go.W.O.r3{e:Nat}{vs:List V}{ty:aD}(H:O M w0 w (.c e vs ty::L) D){P:Program}{g:b5}{args:Array V}{A:aC}{j:List V}{K:aC}(d:ah P g args w λr a=>(A r a/\a.heap[e]? =some (.cells j.toArray ty (0,0)))/\Fr (·=e) w a)(i:∀r a,A r a->O M w0 a (.c e j ty::L) D->(∀h:En,h.P a->(∀b∈h.fp,w.heap.size<=b)->O M w0 a (.c e j ty::L) (D++[h]))->K r a):ah P g args w K:=
 d.mono λr a ⟨⟨q,k⟩,f⟩=>i r a q (H.Ci f k).1 (H.Ci f k).2
def _root_.Go.W.O.iX{e:Nat}{vs:List V}{ty:aD}(H:O M w0 w (.c e vs ty::L) D){P:Program}{g:b5}{args:Array V}{A:aC}{j:List V}{K:aC}(k:ah P g args w λr a=>(A r a/\a.heap[e]? =some (.cells j.toArray ty (0,0)))/\Fr (·=e) w a)(l:∀r a,A r a->O M w0 a (.c e j ty::L) D->(∀h:En,h.P a->(∀b∈h.fp,w.heap.size<=b)->O M w0 a (.c e j ty::L) (D++[h]))->K r a)(d:∀b∈bs,En.g b∈(En.c e vs ty::L):=by simp):e8 bs P g args w K:=
 ⟨(·=e),λb y m=>u0 H (i:=0) rfl (zG w e vs ty) (d b y) (by rw[m];exact r0.2 rfl),k.mono λr a ⟨⟨x,q⟩,f⟩=>⟨f,l r a x (H.Ci f q).1 (H.Ci f q).2⟩⟩
end
end Go.Proofs.YtkbmpalepmakmaaGreatDoor
end

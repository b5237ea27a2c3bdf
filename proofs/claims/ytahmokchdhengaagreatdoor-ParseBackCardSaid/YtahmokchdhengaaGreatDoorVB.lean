import Derived.Test.YtahmokchdhengaaGreatDoorPR
import Derived.Test.YtahmokchdhengaaGreatDoorW
import Derived.Test.YtahmokchdhengaaGreatDoorN0
import Derived.Test.YtahmokchdhengaaGreatDoorU
set_option linter.unusedVariables false
set_option maxRecDepth 100000
set_option maxHeartbeats 2000000
set_option linter.defProp false
namespace Go.Proofs.YtahmokchdhengaaGreatDoor
open Go renaming World->J,Calls->aj,Value->aa,TypeId->aD,Ending->cA
open Go.IntKind renaming wrap->aG
open _root_.Int renaming toNat->a1,toNat_natCast->bZ
open _root_.ByteArray renaming mk->bj
open Go.IntWalk renaming i64_in->bm
open Go.Builtin renaming append_->g'
open _root_.Bool renaming and_eq_true->a9
open _root_.Nat renaming le_refl->be,le_trans->bp,beq->bG
open _root_.UInt8 renaming ofNat->dw
open _root_.Prod.mk renaming injEq->eQ
open _root_.Option.some renaming injEq->e0
open Go.Proofs.Tryz renaming prog->U
open _root_.Decidable renaming decide->ao
open Go.Ending renaming returned->ae
open List renaming mem_append->aL,mem_cons->aE,not_mem_nil->aZ,mem_of_getElem?->aB,getElem?_eq_getElem->a5,getElem?_eq_some_iff->cr,length_append->b',length_cons->cT,length_nil->n7,mem_cons_of_mem->cH,drop_eq_getElem_cons->dk,drop_of_length_le->de
open Go Go.W
namespace HE
noncomputable abbrev t0:=aA U Tryz.f30 [] [2]
def au:=aF t0 J7 [.I]
end HE
namespace HJ
noncomputable abbrev t0:=aA U Tryz.f31 [] [2]
def au:=aF t0 Kf [.I]
end HJ
namespace HK
noncomputable abbrev t0:=aA U Tryz.f91 [] []
def ok:=aF t0 Kj [.s,.I]
end HK
namespace HG
noncomputable abbrev t0:=aA U Tryz.f33 [] []
abbrev P0:Ps:=[]
noncomputable abbrev S0:=ai t0 [0,1,1,1,1] P0
noncomputable abbrev t1:=ak S0
noncomputable abbrev S1:=ai t1 [0,1,1,1,1,1,3] P0
noncomputable abbrev t2:=ak S1
noncomputable abbrev S3:=ai t2 [0,1,3,1,1,1,3] P0
noncomputable abbrev t3:=ak S3
noncomputable abbrev S4:=ai t3 [4] P0
noncomputable abbrev t4:=ak S4
noncomputable abbrev S2:=ai t4 [2,1,1,1,3] [(11,.v [.I])]
noncomputable abbrev t5:=ak S2
def ok:=aF t5 J' [.I]
end HG
namespace l3
noncomputable abbrev t0:=aA U Tryz.f92 [] []
noncomputable abbrev S0:=ai t0 [0,1,1,1,1] []
noncomputable abbrev t1:=ak S0
abbrev P0:Ps:=[(0,.v [.st]),(3,.v [.I])]
noncomputable def L1:=bu t1 [0,1,1,1,2] P0
noncomputable abbrev t2:=bt L1
noncomputable abbrev S4:=ai t2 [2,2,1,1,2] P0
noncomputable abbrev t3:=ak S4
noncomputable abbrev S3:=ai t3 [2,2,1,2,1,1,2] [(0,.v [.st]),(3,.v [.I]),(4,.v [.b]),(5,.v [.b])]
noncomputable abbrev t4:=ak S3
noncomputable abbrev S2:=ai t4 [1,2,1,2,1,1,2] [(0,.v [.st]),(3,.v [.I]),(4,.v [.b])]
noncomputable abbrev t5:=ak S2
def i1:=bH t5 L1
def ok:=aF t5 Kc [.st]
end l3
namespace HC
noncomputable abbrev t0:=aA U Tryz.f123 [] []
def ok:=aF t0 ve [.I,.I,.I]
end HC
namespace qb
noncomputable abbrev t0:=aA U Tryz.f93 [] [1]
noncomputable abbrev aX:=ai t0 [3] [(3,.v [.b])]
noncomputable abbrev t1:=ak aX
def au:=aF t1 J5 [.a 3,.I,.I,.I]
end qb
namespace uI
noncomputable abbrev t0:=aA U Tryz.f58 [(1,ls [0,1,3,4,5,2,6])] [3]
noncomputable def a0:=bu t0 [0,1,1,1,2] [(0,.v [.s]),(3,.l [.I,.s,.I,.I,.U,.st,.I,.I,.I] bI),(5,.v [.I])]
noncomputable abbrev t1:=bt a0
abbrev P0:Ps:=[]
noncomputable abbrev bb:=ai t1 [0,1,1,2,1,2,1,1,2] P0
noncomputable abbrev t2:=ak bb
noncomputable abbrev bA:=ai t2 [0,1,1,1,5] P0
noncomputable abbrev t3:=ak bA
noncomputable abbrev cv:=ai t3 [6] P0
noncomputable abbrev t4:=ak cv
def bJ:=bH t4 a0
def au:=aF t4 Kg [.s,.a 9,.I,.s,.I,.I,.U,.st,.I,.I,.I]
end uI
namespace jz
noncomputable abbrev t0:=aA U Tryz.f59 [(19,ls [0,1,2,3,4,5,6,7,8,9,10,11,12,13,14,15,16,17,18,19,20,21,22,23,24,25,26,27,28,29,30])] [3,4]
noncomputable abbrev bA:=ai t0 [0,1,1,1,7] [(4,.l [.I,.I,.I] bR)]
noncomputable abbrev t1:=ak bA
abbrev P0:Ps:=[(0,.v [.s]),(3,.l [.I,.s,.I,.I,.U,.st,.I,.I,.I] bI),(4,.l [.I,.I,.I] bR),(9,.v [.I])]
noncomputable def hU:=bu t1 [0,1,1,1,9] P0
noncomputable abbrev t2:=bt hU
noncomputable abbrev jV:=ai t2 [2,2,1,1,9] P0
noncomputable abbrev t3:=ak jV
def k8:=bH t3 hU
abbrev P1:Ps:=[(0,.v [.s]),(3,.l [.I,.s,.I,.I,.U,.st,.I,.I,.I] bI),(4,.l [.I,.I,.I] bR)]
noncomputable abbrev fG:=ai t3 [9] P1
noncomputable abbrev t4:=ak fG
noncomputable abbrev cv:=ai t4 [8] P1
noncomputable abbrev t5:=ak cv
noncomputable abbrev bb:=ai t5 [7] [(0,.v [.s]),(3,.l [.I,.s,.I,.I,.U,.st,.I,.I,.I] bI),(4,.l [.I,.I,.I] bR),(8,.v [.b])]
noncomputable abbrev t6:=ak bb
noncomputable abbrev aX:=ai t6 [3] [(0,.v [.s]),(3,.l [.I,.s,.I,.I,.U,.st,.I,.I,.I] bI),(4,.l [.I,.I,.I] bR),(6,.v [.b])]
noncomputable abbrev t7:=ak aX
def au:=aF t7 Kk [.s,.a 9,.I,.s,.I,.I,.U,.st,.I,.I,.I]
end jz
namespace HF
noncomputable abbrev t0:=aA U Tryz.f57 [] [1,2]
def au:=aF t0 J8 [.a 3,.I,.I,.I]
end HF
namespace Bj
noncomputable abbrev t0:=aA U Tryz.f60 [(13,ls [0,1,2,3,4,5,6,7,8,9,10,11,12,13,14,15]),(15,ls [0,1,2,3,4,5,6,7,8,9,10,11,12,13,14,15,16,17,18,19,20,21,22,23,24,25,26]),(19,ls [0,1,2,3,4,5,6,7,8,9,10]),(21,ls [0,1,2,3,4,5,6,7,8,9,10]),(23,ls [0,1,2,3,4,5,6,7,8,9,10,11,12,13,14,15,16,17,18,19,20,21,22,23,24,25,26,27]),(25,ls [0,1,2,3,4,5,6,7,8]),(34,ls [0,1,2,3,4,5,6,7,8,9,10,11,12,13,14,15]),(38,ls [0,1,2,3]),(39,ls [0,1,2,3,4,5,6,7,8])] [5]
noncomputable abbrev bb:=ai t0 [0,1,1,1,1,1,5] [(6,.v [.b])]
noncomputable abbrev t1:=ak bb
noncomputable abbrev cv:=ai t1 [0,1,1,2,11,1,1,1,5] []
noncomputable abbrev t2:=ak cv
noncomputable abbrev fG:=ai t2 [0,1,15,1,1,1,5] [(7,.v [.b])]
noncomputable abbrev t3:=ak fG
noncomputable abbrev jV:=ai t3 [0,1,17,1,1,1,5] [(1,.v [.s]),(7,.v [.b])]
noncomputable abbrev t4:=ak jV
abbrev P0:Ps:=[(1,.v [.s]),(5,.l [.I,.I,.I] bR),(6,.v [.b]),(7,.v [.b]),(26,.v [.I])]
noncomputable abbrev lX:=ai t4 [18,1,1,1,5] P0
noncomputable abbrev t5:=ak lX
noncomputable abbrev pH:=ai t5 [16,1,1,1,5] P0
noncomputable abbrev t6:=ak pH
noncomputable abbrev bA:=ai t6 [2,1,1,1,5] [(1,.v [.s]),(5,.l [.I,.I,.I] bR),(6,.v [.b]),(7,.v [.b]),(8,.v [.b]),(26,.v [.I])]
noncomputable abbrev t7:=ak bA
noncomputable abbrev aX:=ai t7 [5] [(0,.v [.I]),(1,.v [.s]),(5,.l [.I,.I,.I] bR),(6,.v [.b]),(7,.v [.b]),(8,.v [.b])]
noncomputable abbrev t8:=ak aX
def au:=aF t8 Ki [.I,.s]
end Bj
namespace xg
noncomputable abbrev t0:=aA U Tryz.f61 [(10,ls [0,1,2,3,4,5,6,7,8,9,10,11]),(13,ls [0,1,2,3,4,5,6,8,9,10,11,12,13,14,15,7,16,17]),(15,ls [0,1,2,3,4,5,7,8,9,6,10,11,12,13,14,15,16,17,18,19,20,21,22,23,24,25]),(18,ls [0,1,2,3,4,6,7,8,5,9,10,11,12,13,14,15,16,17,18]),(27,ls [1,2,3,0,4,5,6,7,8,9,10]),(29,ls [0,1,2,3,4,5,6,8,9,10,11,12,13,14,15,7,16,17]),(31,ls [0,1,2,3,4,5,6,8,9,10,11,12,13,14,15,7,16,17])] [2,4,6]
abbrev P0:Ps:=[(4,.l [.I,.I,.I] bR)]
noncomputable abbrev aX:=ai t0 [0,1,1,1,1,1,2] P0
noncomputable abbrev t1:=ak aX
noncomputable abbrev bA:=ai t1 [0,1,9,1,1,1,2] [(2,.l [.I,.s,.I,.I,.U,.st,.I,.I,.I] bI),(4,.l [.I,.I,.I] bR),(6,.l [.I,.I,.I] bR)]
noncomputable abbrev t2:=ak bA
noncomputable abbrev fG:=ai t2 [0,1,15,1,1,1,2] P0
noncomputable abbrev t3:=ak fG
abbrev P1:Ps:=[(1,.v [.s]),(2,.l [.I,.s,.I,.I,.U,.st,.I,.I,.I] bI),(4,.l [.I,.I,.I] bR),(6,.l [.I,.I,.I] bR),(11,.v [.I])]
noncomputable abbrev pH:=ai t3 [16,1,1,1,2] P1
noncomputable abbrev t4:=ak pH
noncomputable abbrev cv:=ai t4 [10,1,1,1,2] P1
noncomputable abbrev t5:=ak cv
noncomputable abbrev bb:=ai t5 [2,1,1,1,2] P1
noncomputable abbrev t6:=ak bb
def au:=aF t6 Km [.a 9,.I,.s,.I,.I,.U,.st,.I,.I,.I,.s]
end xg
namespace rZ
noncomputable abbrev t0:=aA U Tryz.f36 [] [3,4,10]
noncomputable def a0:=bu t0 [0,1,1,1,5] [(0,.v [.s]),(3,.l [.I,.s,.I,.I,.U,.st,.I,.I,.I] bI),(4,.l [.I,.I,.I] bR),(7,.v [.s]),(8,.v [.I])]
noncomputable abbrev t1:=bt a0
noncomputable abbrev bb:=ai t1 [11] [(4,.l [.I,.I,.I] bR),(10,.l [.I,.I,.I] bR),(12,.v [.b])]
noncomputable abbrev t2:=ak bb
def bJ:=bH t2 a0
def au:=aF t2 Ke [.s,.a 9,.I,.s,.I,.I,.U,.st,.I,.I,.I]
end rZ
namespace HH
noncomputable abbrev t0:=aA U Tryz.f63 [] [2,3]
def au:=aF t0 Kd [.a 9,.I,.s,.I,.I,.U,.st,.I,.I,.I,.a 9,.I,.s,.I,.I,.U,.st,.I,.I,.I]
end HH
namespace uH
noncomputable abbrev t0:=aA U Tryz.f37 [(7,ls [0,1,2,3,4,5,6])] [3,5]
noncomputable def b5:=bu t0 [0,1,1,1,3] [(0,.v [.s]),(3,.l [.I,.s,.I,.I,.U,.st,.I,.I,.I] bI),(7,.v [.I])]
noncomputable abbrev t1:=bt b5
def dy:=bH t1 b5
noncomputable abbrev aX:=ai t1 [3] [(0,.v [.s]),(3,.l [.I,.s,.I,.I,.U,.st,.I,.I,.I] bI)]
noncomputable abbrev t2:=ak aX
def au:=aF t2 J9 [.s,.a 9,.I,.s,.I,.I,.U,.st,.I,.I,.I]
end uH
namespace HD
noncomputable abbrev t0:=aA U Tryz.f12 [(10,(.sq [1,3,6,7] (.fork (.sq [0] (.fork (ls [2,4,5,8,9,10]) (ls [4,2,5,8,9,10]))) (ls [4,0,2,5,8,9,10]))))] [3,7]
def au:=aF t0 J6 [.s,.a 9,.I,.s,.I,.I,.U,.st,.I,.I,.I]
end HD
namespace Bk
noncomputable abbrev t0:=aA U Tryz.f10 [] []
noncomputable abbrev S1:=ai t0 [4] [(3,.v [.s])]
noncomputable abbrev t1:=ak S1
noncomputable abbrev S0:=ai t1 [3] [(0,.v [.I]),(3,.v [.s])]
noncomputable abbrev t2:=ak S0
def ok:=aF t2 Ko [.I]
end Bk
namespace qc
noncomputable abbrev t0:=aA U Tryz.f34 [(5,ls [0,1,2,3,4,5,6])] [4]
abbrev P0:Ps:=[(0,.v [.s]),(2,.v [.I]),(4,.l [.I,.I,.I] bR),(7,.v [.s]),(8,.v [.I])]
noncomputable def a0:=bu t0 [0,1,1,1,2] P0
noncomputable abbrev t1:=bt a0
noncomputable abbrev bb:=ai t1 [2,2,1,1,2] P0
noncomputable abbrev t2:=ak bb
def bJ:=bH t2 a0
def au:=aF t2 Ka [.s,.a 3,.I,.I,.I,.I]
end qc
namespace Bl
noncomputable abbrev t0:=aA U Tryz.f35 [] [10,11]
noncomputable abbrev aX:=ai t0 [0,1,11,1,1,1,2] [(4,.v [.I]),(10,.l [.I,.I,.I] bR)]
noncomputable abbrev t1:=ak aX
noncomputable abbrev bb:=ai t1 [3] [(10,.l [.I,.I,.I] bR),(11,.l [.I,.I,.I] bR)]
noncomputable abbrev t2:=ak bb
def au:=aF t2 Kp [.s,.I,.I,.I,.I]
end Bl
namespace iF
noncomputable abbrev t0:=aA U Tryz.f11 [(38,ls [0,1,2,3,4,5,6,7,8,9,10,11,12])] [8,10,16]
noncomputable def hU:=bu t0 [0,1,1,1,8] [(0,.v [.s]),(2,.v [.I]),(3,.v [.I]),(8,.l [.I,.s,.I,.I,.U,.st,.I,.I,.I] bI),(10,.l [.I,.s,.I,.I,.U,.st,.I,.I,.I] bI),(11,.v [.I]),(13,.v [.I]),(14,.v [.I])]
noncomputable abbrev t1:=bt hU
noncomputable abbrev lX:=ai t1 [2,2,1,2,1,1,8] [(0,.v [.s]),(2,.v [.I]),(3,.v [.I]),(8,.l [.I,.s,.I,.I,.U,.st,.I,.I,.I] bI),(10,.l [.I,.s,.I,.I,.U,.st,.I,.I,.I] bI),(11,.v [.I]),(13,.v [.I]),(14,.v [.I]),(15,.v [.I])]
noncomputable abbrev t2:=ak lX
noncomputable abbrev jV:=ai t2 [2,1,1,1,1,2,1,2,1,1,8] [(0,.v [.s]),(2,.v [.I]),(3,.v [.I]),(8,.l [.I,.s,.I,.I,.U,.st,.I,.I,.I] bI),(10,.l [.I,.s,.I,.I,.U,.st,.I,.I,.I] bI),(11,.v [.I]),(13,.v [.I]),(14,.v [.I]),(16,.l [.I,.I,.I] bR)]
noncomputable abbrev t3:=ak jV
def k8:=bH t3 hU
noncomputable abbrev fG:=ai t3 [8] [(0,.v [.s]),(2,.v [.I]),(3,.v [.I]),(8,.l [.I,.s,.I,.I,.U,.st,.I,.I,.I] bI),(10,.l [.I,.s,.I,.I,.U,.st,.I,.I,.I] bI),(11,.v [.I]),(13,.v [.I])]
noncomputable abbrev t4:=ak fG
noncomputable abbrev cv:=ai t4 [7] [(0,.v [.s]),(1,.v [.I]),(2,.v [.I]),(3,.v [.I]),(8,.l [.I,.s,.I,.I,.U,.st,.I,.I,.I] bI),(10,.l [.I,.s,.I,.I,.U,.st,.I,.I,.I] bI),(11,.v [.I]),(13,.v [.I])]
noncomputable abbrev t5:=ak cv
abbrev P0:Ps:=[(0,.v [.s]),(1,.v [.I]),(2,.v [.I]),(3,.v [.I]),(8,.l [.I,.s,.I,.I,.U,.st,.I,.I,.I] bI),(10,.l [.I,.s,.I,.I,.U,.st,.I,.I,.I] bI),(11,.v [.I])]
noncomputable abbrev bA:=ai t5 [5] P0
noncomputable abbrev t6:=ak bA
abbrev P1:Ps:=[(0,.v [.s]),(1,.v [.I]),(2,.v [.I]),(3,.v [.I]),(8,.l [.I,.s,.I,.I,.U,.st,.I,.I,.I] bI),(10,.l [.I,.s,.I,.I,.U,.st,.I,.I,.I] bI),(11,.v [.I]),(12,.v [.I])]
noncomputable abbrev bb:=ai t6 [2,1,1,1,1,1,4] P1
noncomputable abbrev t7:=ak bb
noncomputable abbrev aX:=ai t7 [1,1,1,1,1,1,4] P1
noncomputable abbrev t8:=ak aX
noncomputable abbrev pI:=ai t8 [0,1,9,1,1,1,4] P0
noncomputable abbrev t9:=ak pI
noncomputable abbrev QI:=ai t9 [10,1,1,1,4] [(0,.v [.s]),(1,.v [.I]),(2,.v [.I]),(3,.v [.I]),(8,.l [.I,.s,.I,.I,.U,.st,.I,.I,.I] bI),(10,.l [.I,.s,.I,.I,.U,.st,.I,.I,.I] bI),(11,.v [.I]),(32,.v [.I])]
noncomputable abbrev t10:=ak QI
def au:=aF t10 Kl [.s,.I,.I,.I]
end iF
namespace r0
noncomputable abbrev t0:=aA U Tryz.f14 [] []
abbrev P0:Ps:=[(0,.v [.s]),(1,.v [.I]),(5,.v [.I]),(6,.v [.I])]
noncomputable def L0:=bu t0 [0,1,1,1,2] P0
noncomputable abbrev t1:=bt L0
noncomputable abbrev S1:=ai t1 [2,2,1,1,2] P0
noncomputable abbrev t2:=ak S1
def cU:=bH t2 L0
def ok:=aF t2 Kn [.s,.I]
end r0
namespace HL
noncomputable abbrev t0:=aA U Tryz.f13 [] [3]
def au:=aF t0 Kq [.I,.a 3,.I,.I,.I]
end HL
namespace mP
noncomputable abbrev t0:=aA U Tryz.f4 [(5,(.sq [0,1,2,3,4,5,6,7,8,9,10,11,12,13,14] (.fork (ls [15,16,17]) (ls [16,15,17]))))] [9]
abbrev P0:Ps:=[(0,.v [.s]),(1,.v [.I]),(2,.v [.I]),(7,.v [.s]),(8,.v [.I])]
noncomputable def a0:=bu t0 [0,1,1,1,2] P0
noncomputable abbrev t1:=bt a0
noncomputable abbrev bA:=ai t1 [2,2,1,1,2] P0
noncomputable abbrev t2:=ak bA
noncomputable abbrev bb:=ai t2 [1,2,1,2,1,1,2] [(0,.v [.s]),(1,.v [.I]),(2,.v [.I]),(7,.v [.s]),(8,.v [.I]),(9,.l [.I,.s,.I,.I,.U,.st,.I,.I,.I] bI)]
noncomputable abbrev t3:=ak bb
noncomputable abbrev cv:=ai t3 [3] [(7,.v [.s])]
noncomputable abbrev t4:=ak cv
def bJ:=bH t4 a0
def au:=aF t4 Kb [.s,.I,.I]
end mP
def ff(n:Int)(w:J):aj U J7 #[.i n] w λr d=>r=ae (dq (a' n))/\ah w d:=
 HE.au _ w _ ((bO [] (by simp)).ay λb e a=>a.af λf c=>⟨rfl,c.fr⟩)
def nC(n:Int)(w:J):aj U Kf #[.i n] w λr d=>r=ae (dq (eN n))/\ah w d:=
 HJ.au _ w _ ((bO [] (by simp)).ay λb e a=>a.af λf c=>⟨rfl,c.fr⟩)
def DQ(s:aU)(w:J):aj U J8 #[dq s] w λr f=>r=ae (dq (hH s))/\ah w f:=by
 refine HF.au _ _ _ w _ ((bO [] (by simp)).ay λb q j=>j.ay λi h c=>ax (λe=>c.av (ff s.n h) ?_) (λe=>c.av (nC s.n h) ?_))
 .rintro _ k rfl d;exact⟨_,_,_,rfl,d.af λg a=>⟨by unfold hH;rw[ag e],a.fr⟩⟩
 .rintro _ k rfl d;exact⟨_,_,_,rfl,d.af λg a=>⟨by unfold hH;rw[ab e],a.fr⟩⟩
def sL{op:Int}(a:0<=op)(b:op<=34):op=0\/op=1\/op=2\/op=3\/op=4\/op=5\/op=6\/op=7\/op=8\/op=9\/op=10\/op=11\/op=12\/op=13\/op=14\/op=15\/op=16\/op=17\/op=18\/op=19\/op=20\/op=21\/op=22\/op=23\/op=24\/op=25\/op=26\/op=27\/op=28\/op=29\/op=30\/op=31\/op=32\/op=33\/op=34:=by omega
def F8(a:Int)(w:J):aj U J' #[.i a] w λr b=>r=ae (.i (cl a))/\ah w b:=by
 refine HG.ok a w _ ?_;by_cases d:a<0
 .exact aT (aM d) ⟨by unfold cl;rw[ag (.inl d)],Fr.refl _ _⟩
 refine aV (aP d) ?_;by_cases e:a>34
 .exact aT (aM e) ⟨by unfold cl;rw[ag (.inr e)],Fr.refl _ _⟩
 refine aV (aP e) ?_;rcases sL (by omega) (by omega:a<=34)with rfl|rfl|rfl|rfl|rfl|rfl|rfl|rfl|rfl|rfl|rfl|rfl|rfl|rfl|rfl|rfl|rfl|rfl|rfl|rfl|rfl|rfl|rfl|rfl|rfl|rfl|rfl|rfl|rfl|rfl|rfl|rfl|rfl|rfl|rfl<;>exact⟨rfl,Fr.refl _ _⟩
def Ih{s:ByteArray}{i:Nat}(d:i<s.size):s[i]? =some (gQ (bl s) i):=by
 have h:i<(bl s).length:=d;have e:gQ (bl s) i=(bl s)[i]:=by unfold gQ;rw[List.getD_eq_getElem?_getD,a5 h];rfl
 rw[e,getElem?_pos s i d];rfl
def qo(c:UInt8)(m:List UInt8):h8 (c::m)=(ao (m.length<=15)&&fJ c&&m.all dC):=rfl
def RA(s:ByteArray)(w:J):aj U Kc #[.string s] w λr a=>r=ae (.bool (h8 (bl s)))/\ah w a:=by
 have q:(bl s).length=s.size:=c9 s;have no:h8 (bl s)=false->(Ending.returned (.bool false)=ae (.bool (h8 (bl s)))/\ah w w):=λe=>⟨by rw[e],Fr.refl _ _⟩;cases y:bl s with
 |nil=>
  have z:s.size=0:=by rw[<-q,y];rfl
  exact l3.ok s w _ (aT (aM (by omega)) ⟨rfl,Fr.refl _ _⟩)
 |cons c m=>
  have L:s.size=m.length+1:=by rw[<-q,y];rfl
  rw[y]at no;have F:gQ (bl s) 0=c:=by rw[y];rfl
  have z:s[a1 0]? =some c:=by rw[<-F];exact Ih (by omega)
  refine l3.ok s w _ (aV (aP (by omega)) (aS (λe=>no ?_) (λe=>⟨by omega,c,z,aS (λK=>no ?_) (λK=>⟨by omega,c,z,aS (λg=>no ?_) (λg=>?_)⟩)⟩)))
  .rw [qo,aP (by omega)];rfl
  .rw [qo];unfold fJ;rw[aP (show ¬97<=c.toNat by omega)];simp
  .rw [qo];unfold fJ;rw[aP (show ¬c.toNat<=122 by omega)];simp
  have D:h8 (c::m)=m.all dC:=by rw[qo];unfold fJ;rw[aM (show m.length<=15 by omega),aM (show 97<=c.toNat by omega),aM (show c.toNat<=122 by omega)];simp
  have E:h8 (c::m)=(bl s).all dC:=by rw[D,y,List.all_cons];unfold dC fJ;rw[aM (show 97<=c.toNat by omega),aM (show c.toNat<=122 by omega)];simp
  rw[E];have loop:∀(d i:Nat),i+d=s.size->(bl s).all dC=((bl s).drop i).all dC->l3.L1 s (i:Int) w λr a=>r=ae (.bool ((bl s).all dC))/\ah w a:=by
   intro d;induction d with
   |zero=>
    intro i G h;rw[de (by omega)]at h;exact l3.i1 _ _ _ _ (aV (aP (by omega)) ⟨by rw[h];rfl,Fr.refl _ _⟩)
   |succ d H=>
    intro i G h;have j:=Ih (show i<s.size by omega);rw[dk (by omega:i<(bl s).length),List.all_cons,show(bl s)[i]'(by omega)=gQ (bl s) i by unfold gQ;rw[List.getD_eq_getElem?_getD,a5 (by omega:i<(bl s).length)];rfl]at h;generalize gQ (bl s) i=x at j h;have go:dC x=true->l3.S4 s (i:Int) w λr a=>r=ae (.bool ((bl s).all dC))/\ah w a:=λe=>by show l3.L1 s (aG .i64 ((i:Int)+1)) w _;rw[bw _ (by omega)];exact H (i+1) (by omega) (by rw[h,e,Bool.true_and])
    have stop:dC x=false->(Ending.returned (.bool false)=ae (.bool ((bl s).all dC))/\ah w w):=λe=>⟨by rw[h,e,Bool.false_and],Fr.refl _ _⟩;have C:fJ x=false->∀o:Bool,o=((ao (48<=x.toNat)&&ao (x.toNat<=57))||x==45)->l3.S3 s (i:Int) false o w λr a=>r=ae (.bool ((bl s).all dC))/\ah w a:=λb o f=>by
     refine aT rfl (ey (λe=>stop ?_) (λe=>go ?_))
     .unfold dC;rw[b,Bool.false_or,<-f,e]
     .unfold dC;rw[b,Bool.false_or,<-f,e]
    have B:((((x.toNat:Nat):Int)==45):Bool)=(x==45):=by
     by_cases e:x=45
     .subst e;rfl
     .rw [beq_eq_false_iff_ne.2 e,beq_eq_false_iff_ne];intro g;exact e (UInt8.toNat_inj.1 (by have:((45:UInt8).toNat:Int)=45:=rfl;omega))
    have k:((i:Int)).toNat=i:=bZ i;have A:∀l:Bool,l=fJ x->l3.S2 s (i:Int) l w λr a=>r=ae (.bool ((bl s).all dC))/\ah w a:=λl q=>by
     have fin:∀o:Bool,o=((ao (48<=x.toNat)&&ao (x.toNat<=57))||x==45)->l3.S3 s (i:Int) l o w λr a=>r=ae (.bool ((bl s).all dC))/\ah w a:=λo f=>by
      cases b:fJ x with
      |true=>rw[q,b];exact aV rfl (go (by unfold dC;rw[b];rfl))
      |false=>rw[q,b];exact C b o f
     refine⟨by omega,x,by rw[k];exact j,aS (λe=>⟨by omega,x,by rw[k];exact j,aS (λI=>fin true ?_) (λI=>⟨by omega,x,by rw[k];exact j,?_⟩)⟩) (λe=>⟨by omega,x,by rw[k];exact j,?_⟩)⟩
     .rw [aM (show 48<=x.toNat by omega),aM (show x.toNat<=57 by omega)];rfl
     .rw [B];exact fin _ (by rw[aP (show ¬x.toNat<=57 by omega)];simp)
     .rw [B];exact fin _ (by rw[aP (show ¬48<=x.toNat by omega)];simp)
    refine l3.i1 _ _ _ _ (aT (aM (by omega)) ⟨by omega,x,by rw[k];exact j,aS (λe=>⟨by omega,x,by rw[k];exact j,A _ ?_⟩) (λe=>A _ ?_)⟩)
    .unfold fJ;rw[aM (show 97<=x.toNat by omega),Bool.true_and];exact decide_eq_decide.2 (by omega)
    .unfold fJ;rw[aP (show ¬97<=x.toNat by omega),Bool.false_and]
  exact loop s.size 0 (by omega) (by simp)
def DT(n b a:Int)(w:J):aj U ve #[.int .i64 n,.int .i64 b,.int .i64 a] w λr e=>r=ae (.bool (ao (b<=n/\n<=a)))/\ah w e:=by
 refine HC.ok _ _ _ w _ (aS (λd=>⟨?_,Fr.refl _ _⟩) (λd=>⟨?_,Fr.refl _ _⟩))
 .have:(b<=n/\n<=a)↔n<=a:=⟨λd=>d.2,λc=>⟨d,c⟩⟩;simp only[this]
 .rw [aP (by omega)]
def Xn(s:aU)(w:J):aj U J5 #[dq s] w λr c=>r=ae (.int .i64 (fy s))/\ah w c:=by
 refine qb.au _ _ _ w _ ((bO [] (by simp)).ay λo y m=>?_);have fin:∀{a:J} {L:List En} (b:Bool),b=bo s->O F0 w a L []->qb.aX b a λr c=>r=ae (.int .i64 (fy s))/\ah w c:=by
  rintro a L b rfl z;refine ey (λd=>⟨?_,z.fr⟩) (λd=>⟨?_,z.fr⟩)
  .unfold fy;rw[ab (by simp[d])]
  .unfold fy;rw[ag d]
 have plain:∀e:Int,(bo s=(ao (e<=s.n/\s.n<=64)&&(s.x==0)))->fq [o] U ve #[.int .i64 s.n,.int .i64 e,.int .i64 64] y λq a=>∃j:Bool,q=ae (.bool j)/\bq j (qb.aX (s.x==0) a λr c=>r=ae (.int .i64 (fy s))/\ah w c) (qb.aX false a λr c=>r=ae (.int .i64 (fy s))/\ah w c):=by
  intro e k;refine m.av (DT _ _ _ y) ?_;rintro _ a rfl h;refine⟨_,rfl,bh (λd=>fin _ ?_ h) (λd=>fin _ ?_ h)⟩
  .rw [k,d];rfl
  .rw [k,d];rfl
 have array:∀e:Int,(bo s=(ao (e<=s.n/\s.n<=64)&&ao (1<=s.x/\s.x<=16)))->fq [o] U ve #[.int .i64 s.n,.int .i64 e,.int .i64 64] y λq a=>∃j:Bool,q=ae (.bool j)/\bq j (fq [o] U ve #[.int .i64 s.x,.int .i64 1,.int .i64 16] a λq B=>∃l:Bool,q=ae (.bool l)/\qb.aX l B λr c=>r=ae (.int .i64 (fy s))/\ah w c) (qb.aX false a λr c=>r=ae (.int .i64 (fy s))/\ah w c):=by
  intro e k;refine m.av (DT _ _ _ y) ?_;rintro _ a rfl h;refine⟨_,rfl,bh (λd=>h.av (DT _ _ _ a) ?_) (λd=>fin _ ?_ h)⟩
  .rintro _ C rfl A;exact⟨_,rfl,fin _ (by rw[k,d];rfl) A⟩
  .rw [k,d];rfl
 refine ax (λp=>plain 1 ?_) (λp=>ax (λf=>plain 0 ?_) (λf=>ax (λg=>array 1 ?_) (λg=>ax (λi=>array 0 ?_) (λi=>fin _ ?_ m))))
 .unfold bo;simp[p]
 .unfold bo;simp[f]
 .unfold bo;simp[g,Bool.and_assoc]
 .unfold bo;simp[i,Bool.and_assoc]
 .unfold bo;simp[p,f,g,i]
section
variable {M:Nat->Prop} {w0 w:J} {L D:List En} {bs:List Nat}
def AL(w:J)(a:Nat)(e:List aa)(d:aD)(b:Nat):¬(En.c a e d).P ({w with heap:=Array.replicate (b+1) (.map #[] 0)}):=by intro h;have h:({w with heap:=Array.replicate (b+1) (.map #[] 0)}:J).heap[a]? =some (.cells e.toArray d (0,0)):=h;simp[Array.getElem?_replicate]at h
def pP{d:Nat}{vs:List aa}{ty:aD}{b:Nat}:b∈(En.c d vs ty).fp↔b=d:=by simp[En.c,En.ob]
def _root_.Go.W.O.zA{d:Nat}{vs:List aa}{ty:aD}(H:O M w0 w (.c d vs ty::L) D){V:J}(f:Fr (·=d) w V){j:List aa}(y:V.heap[d]? =some (.cells j.toArray ty (0,0))):
  O M w0 V (.c d j ty::L) D/\∀h:En,h.P V->(∀b∈h.fp,w.heap.size<=b)->O M w0 V (.c d j ty::L) (D++[h]):=by
 have e:O M w0 V (.c d j ty::L) D:=H.w4 0 f y;refine⟨e,λh l m=>⟨e.fr,e.own,λk a=>?_,e.new,e.nd,λk a b x q i g=>?_⟩⟩
 .rcases aL.1 a with a|a
  .exact e.rd k a
  .simp at a;subst a;exact l
 .rcases aL.1 a with a|a
  .exact e.dj k a b x q i g
  .simp at a;subst a;have z:=m b x;have A:b<w.heap.size:=by
    rcases aE.1 i with rfl|i
    .have g:=pP.1 g;have:=(En.c d vs ty).lt w (H.get 0) d (pP.2 rfl);omega
    .exact q.lt w (H.own q (cH _ i)) b g
   omega
def _root_.Go.W.O.pS{e:Nat}{vs:List aa}{ty:aD}(H:O M w0 w (.c e vs ty::L) D){P:Program}{g:FuncId}{args:Array aa}{A:aC}{j:List aa}{K:aC}(d:aj P g args w λr a=>(A r a/\a.heap[e]? =some (.cells j.toArray ty (0,0)))/\Fr (·=e) w a)(i:∀r a,A r a->O M w0 a (.c e j ty::L) D->(∀h:En,h.P a->(∀b∈h.fp,w.heap.size<=b)->O M w0 a (.c e j ty::L) (D++[h]))->K r a):aj P g args w K:=
 d.mono λr a ⟨⟨q,k⟩,f⟩=>i r a q (H.zA f k).1 (H.zA f k).2
def _root_.Go.W.O.hY{e:Nat}{vs:List aa}{ty:aD}(H:O M w0 w (.c e vs ty::L) D){P:Program}{g:FuncId}{args:Array aa}{A:aC}{j:List aa}{K:aC}(k:aj P g args w λr a=>(A r a/\a.heap[e]? =some (.cells j.toArray ty (0,0)))/\Fr (·=e) w a)(l:∀r a,A r a->O M w0 a (.c e j ty::L) D->(∀h:En,h.P a->(∀b∈h.fp,w.heap.size<=b)->O M w0 a (.c e j ty::L) (D++[h]))->K r a)(d:∀b∈bs,En.g b∈(En.c e vs ty::L):=by simp):fq bs P g args w K:=
 ⟨(·=e),λb y m=>xv H (i:=0) rfl (AL w e vs ty) (d b y) (by rw[m];exact pP.2 rfl),k.mono λr a ⟨⟨x,q⟩,f⟩=>⟨f,l r a x (H.zA f q).1 (H.zA f q).2⟩⟩
end
def gi{s:ByteArray}{i:Nat}(d:i<s.size):s[i]? =some (gQ (bl s) i):=by rw[getElem?_pos s i d];unfold gQ;rw[List.getD_eq_getElem?_getD,a5 (show i<(bl s).length by rw[c9];exact d)];rfl
def wj{x:UInt8}{n:Nat}{A B:Prop}(c:n<256)(a:(x==dw n)=true->A)(b:(x==dw n)=false->B):bq (((x.toNat:Nat):Int)==(n:Int)) A B:=by
 have d:x.toNat=n↔x=dw n:=by rw[<-UInt8.toNat_inj,UInt8.toNat_ofNat'];omega
 refine ax (λe=>a (by rw[beq_iff_eq,<-d];omega)) (λe=>b (by rw[beq_eq_false_iff_ne,Ne,<-d];omega))
def wi{x:UInt8}{n:Nat}{A B:Prop}(c:n<256)(a:(x==dw n)=false->A)(b:(x==dw n)=true->B):bq (((x.toNat:Nat):Int) !=(n:Int)) A B:=by
 have d:x.toNat=n↔x=dw n:=by rw[<-UInt8.toNat_inj,UInt8.toNat_ofNat'];omega
 refine bY (λe=>a (by rw[beq_eq_false_iff_ne,Ne,<-d];omega)) (λe=>b (by rw[beq_iff_eq,<-d];omega))
def FE{p:UInt8->Prop}(d:∀e:Fin 256,p (dw e.val))(c:UInt8):p c:=by have:=d ⟨c.toNat,c.toNat_lt⟩;simpa using this
def Th:∀n:Fin 16,(bj #[48,49,50,51,52,53,54,55,56,57,97,98,99,100,101,102])[n.val]? =some (h0 n.val):=by decide+kernel
def AQ(n:Nat)(d:n<16)(w:J):aj U JR #[.i (n:Int)] w λr a=>r=ae (.int .u8 ((h0 n).toNat:Int))/\ah w a:=
 Ht.ok _ w _ ⟨by omega,_,Th ⟨n,d⟩,rfl,Fr.refl _ _⟩
def Gy(c:UInt8)(w:J):aj U JY #[.int .u8 (c.toNat:Int)] w λr f=>r=ae (.bool (m4 c))/\ah w f:=by
 refine Hx.ok _ w _ (aS (λb=>aS (λj=>wi (n:=39) (by omega) (λa=>⟨?_,Fr.refl _ _⟩) (λa=>⟨?_,Fr.refl _ _⟩)) (λj=>⟨?_,Fr.refl _ _⟩)) (λb=>⟨?_,Fr.refl _ _⟩))
 .have d:(((c.toNat:Nat):Int) !=92)= !(c==92):=by
   have:=@wi c 92 (((((c.toNat:Nat):Int) !=92)=true)/\(c==92)=false) (((((c.toNat:Nat):Int) !=92)=false)/\(c==92)=true);cases h:(((c.toNat:Nat):Int) !=92)with
   |true=>
    have e:c≠92:=λd=>by subst d;exact absurd h (by decide)
    rw[beq_eq_false_iff_ne.2 e];rfl
   |false=>
    have e:c=92:=by rw[<-UInt8.toNat_inj];have:=(bne_eq_false_iff_eq.1 h);show c.toNat=92;omega
    subst e;rfl
  rw[d];unfold m4;rw[aM (show 32<=c.toNat by omega),aM (show c.toNat<=126 by omega)];have a:(c==39)=false:=a;rw[a];rfl
 .have a:(c==39)=true:=a;unfold m4;rw[a];simp
 .unfold m4;rw[aP (show ¬c.toNat<=126 by omega)];simp
 .unfold m4;rw[aP (show ¬32<=c.toNat by omega)];simp
def WC:∀n:Fin 16,gg (h0 n.val)=(n.val:Int):=by decide+kernel
def WE:∀d:Fin 256,gg (dw d.val)=-1\/∃n:Fin 16,h0 n.val=dw d.val:=by decide+kernel
def WD:∀d:Fin 256,gg (dw d.val)<16:=by decide+kernel
def wX(c:UInt8)(w:J):aj U JX #[.int .u8 (c.toNat:Int)] w λr b=>r=ae (.int .i64 (gg c))/\ah w b:=by
 have loop:∀(d i:Nat) (a:J),i+d=16->(∀h,h<i->h0 h≠c)->ah w a->uB.L0 c.toNat (i:Int) a λr b=>r=ae (.int .i64 (gg c))/\ah w b:=by
  intro d;induction d with
  |zero=>
   intro i a x k f;refine uB.cU _ _ _ _ (aV (aP (by omega)) ⟨?_,f⟩);have:=FE (p:=λc=>gg c=-1\/∃n:Fin 16,h0 n.val=c) WE c;rcases this with e|⟨n,e⟩
   .rw [e]
   .exact absurd e (k n.val (by omega))
  |succ d z=>
   intro i a x k f;refine uB.cU _ _ _ _ (aT (aM (by omega)) ((AQ i (by omega) a).mono ?_));rintro _ A ⟨rfl,q⟩;refine⟨_,rfl,ax (λe=>⟨?_,f.gE q⟩) (λe=>?_)⟩
   .have j:h0 i=c:=by rw[<-UInt8.toNat_inj];omega
    have:=WC ⟨i,by omega⟩;rw[<-j];rw[this]
   .rw [bw _ (by omega)];refine z (i+1) A (by omega) (λh g=>?_) (f.gE q);by_cases y:h=i
    .subst y;intro j;subst j;exact e rfl
    .exact k h (by omega)
 exact uB.ok _ w _ (loop 16 0 w (by omega) (λh e=>by omega) (Fr.refl _ _))
def yC(x:UInt8×Nat):cA:=ae (.tuple #[.int .u8 (x.1.toNat:Int),.i (x.2:Int)])
def WH:∀d e:Fin 16,aG .u8 (aG .i64 ((aG .i64 (16 *(d.val:Int)))+(e.val:Int)))=((dw ((16 *(d.val:Int)+(e.val:Int)).toNat)).toNat:Int):=by decide+kernel
def Mn{c:UInt8}(e:0<=gg c):∃d:Fin 16,gg c=(d.val:Int):=by have:=FE (p:=λc=>gg c<16) WD c;exact⟨⟨(gg c).toNat,by omega⟩,by show gg c=(((gg c).toNat:Nat):Int);omega⟩
def AP(s:ByteArray)(i:Nat)(m:i<=1000000)(w:J):aj U JQ #[.string s,.i (i:Int)] w λr a=>r=yC (hh (bl s) i)/\ah w a:=by
 have y:aG .i64 ((i:Int)+1)=((i+1:Nat):Int):=by rw[bm _ (by omega)];omega
 have z:aG .i64 ((i:Int)+2)=((i+2:Nat):Int):=by rw[bm _ (by omega)];omega
 have A:aG .i64 ((i:Int)+3)=((i+3:Nat):Int):=by rw[bm _ (by omega)];omega
 have D:aG .i64 ((i:Int)+4)=((i+4:Nat):Int):=by rw[bm _ (by omega)];omega
 have P:(bl s).length=s.size:=c9 s;have no:∀a,ah w a->hh (bl s) i=(0,0)->uA.S1 a (λr a=>r=yC (hh (bl s) i)/\ah w a):=λa f q=>⟨by rw[q];rfl,f⟩;have st:∀a,ah w a->(ao (i+3<=(bl s).length)&&gQ (bl s) i==39&&gQ (bl s) (i+2)==39&&m4 (gQ (bl s) (i+1)))=false->uA.S0 s (i:Int) a (λr a=>r=yC (hh (bl s) i)/\ah w a):=by
  intro a f C;have h:(ao (i+4<=(bl s).length)&&gQ (bl s) i==92&&gQ (bl s) (i+1)==120&&ao (0<=gg (gQ (bl s) (i+2)))&&ao (0<=gg (gQ (bl s) (i+3))))=false->∀a,ah w a->uA.S1 a (λr a=>r=yC (hh (bl s) i)/\ah w a):=λq a f=>no a f (by unfold hh;rw[C,q];rfl)
  show bq _ _ _;rw[D,A,z,y];refine aS (λL=>⟨by omega,_,gi (i:=i) (by omega),wj (n:=92) (by omega) (λb=>⟨by omega,_,gi (i:=i+1) (by omega),wj (n:=120) (by omega) (λd=>⟨by omega,_,gi (i:=i+2) (by omega),(wX _ a).mono ?_⟩) (λd=>?_)⟩) (λb=>?_)⟩) (λL=>?_)
  rotate_left
  .exact h (by have d:(gQ (bl s) (i+1)==120)=false:=d;rw[d];simp) a f
  .exact h (by have b:(gQ (bl s) i==92)=false:=b;rw[b];simp) a f
  .exact h (by rw[aP (show ¬i+4<=(bl s).length by omega)];simp) a f
  rintro _ j ⟨rfl,e⟩;refine⟨_,rfl,aS (λM=>⟨by omega,_,gi (i:=i+3) (by omega),(wX _ j).mono ?_⟩) (λM=>h (by rw[aP (show ¬0<=gg (gQ (bl s) (i+2))by omega)];simp) j (f.gE e))⟩;rintro _ x ⟨rfl,B⟩;refine⟨_,rfl,aS (λl=>?_) (λl=>h (by rw[aP (show ¬0<=gg (gQ (bl s) (i+3))by omega)];simp) x ((f.gE e).gE B))⟩;have F:ah w x.drew:=((f.gE e).gE B).gE (Fr.drew _ _);refine(show rS x _ from ?_);refine⟨by omega,_,gi (i:=i+2) (by omega),by omega,_,gi (i:=i+3) (by omega),(wX _ _).mono ?_⟩;rintro _ Q ⟨rfl,G⟩;refine⟨_,rfl,(wX _ _).mono ?_⟩;rintro _ S ⟨rfl,H⟩;refine⟨_,rfl,?_,(F.gE G).gE H⟩;have b:(gQ (bl s) i==92)=true:=b;have d:(gQ (bl s) (i+1)==120)=true:=d;have E:hh (bl s) i=(dw ((16 *gg (gQ (bl s) (i+2))+gg (gQ (bl s) (i+3))).toNat),4):=by unfold hh;rw[C,b,d,aM (show i+4<=(bl s).length by omega),aM (show 0<=gg (gQ (bl s) (i+2))by omega),aM (show 0<=gg (gQ (bl s) (i+3))by omega)];rfl
  rw[E];obtain⟨N,I⟩:=Mn (c:=gQ (bl s) (i+2)) (by omega);obtain⟨O,K⟩:=Mn (c:=gQ (bl s) (i+3)) (by omega);rw[I,K,WH N O];rfl
 refine uA.ok _ _ w _ ?_;rw[A,z,y];refine aS (λg=>⟨by omega,_,gi (i:=i) (by omega),wj (n:=39) (by omega) (λb=>⟨by omega,_,gi (i:=i+2) (by omega),wj (n:=39) (by omega) (λd=>⟨by omega,_,gi (i:=i+1) (by omega),(Gy _ w).mono ?_⟩) (λd=>?_)⟩) (λb=>?_)⟩) (λg=>?_)
 rotate_left
 .exact st w (Fr.refl _ _) (by have d:(gQ (bl s) (i+2)==39)=false:=d;rw[d];simp)
 .exact st w (Fr.refl _ _) (by have b:(gQ (bl s) i==39)=false:=b;rw[b];simp)
 .exact st w (Fr.refl _ _) (by rw[aP (show ¬i+3<=(bl s).length by omega)];simp)
 rintro _ j ⟨rfl,e⟩;refine⟨_,rfl,bh (λk=>⟨by omega,_,gi (i:=i+1) (by omega),?_,e⟩) (λk=>st j e (by rw[k];simp))⟩;have b:(gQ (bl s) i==39)=true:=b;have d:(gQ (bl s) (i+2)==39)=true:=d;unfold hh;rw[b,d,k,aM (show i+3<=(bl s).length by omega)];rfl
def AB(s:BL)(i:Nat):(hh s i).2<=4/\(0<(hh s i).2->i+(hh s i).2<=s.length):=by
 unfold hh;split
 .rename_i d;simp only[a9,decide_eq_true_eq]at d;exact⟨by simp,λ_=>d.1.1.1⟩
 .split
  .rename_i d;simp only[a9,decide_eq_true_eq]at d;exact⟨by simp,λ_=>d.1.1.1.1⟩
  .exact ⟨by simp,λd=>by simp at d⟩
def D8(g:Ad):cA:=ae (.tuple #[.agg #[.i (g.k:Int),.int .u8 (g.lo.toNat:Int),.int .u8 (g.hi.toNat:Int),.slice none 0 0],.i (g.n:Int)])
def Nv(s:BL)(i:Nat):i+(jJ s i).n<=s.length\/(jJ s i).n=0:=by
 unfold jJ;simp only;have d:=AB s i;split
 .rename_i e;exact .inl (d.2 e)
 .split
  .exact .inr rfl
  .split
   .exact .inr rfl
   .split
    .exact .inr rfl
    .rename_i h;simp only[not_or]at h;left;show i+(_+1 - i)<=s.length;omega
def R9(s:ByteArray)(N:s.size<=100000)(i:Nat)(hi:i<s.size)(w:J):aj U J0 #[.string s,.i (i:Int)] w λr d=>r=D8 (jJ (bl s) i)/\ah w d:=by
 have M:(bl s).length=s.size:=c9 s;refine rY.au _ _ w _ ((bO [] (by simp)).ay λb G v=>v.av (AP s i (by omega) G) ?_);rintro _ H rfl z;refine⟨_,_,rfl,aS (λL=>z.af λk h=>⟨?_,h.fr⟩) (λL=>⟨by omega,_,gi (i:=i) hi,wi (n:=91) (by omega) (λj=>z.af λk h=>⟨?_,h.fr⟩) (λj=>?_)⟩)⟩
 .unfold jJ;simp only;rw[ag (by omega)];rfl
 .have j:(gQ (bl s) i==91)=false:=j;unfold jJ;simp only;rw[ab (by omega),ag (beq_eq_false_iff_ne.1 j)];rfl
 have j:gQ (bl s) i=91:=eq_of_beq j;rw[bw _ (by omega)];refine z.av (AP s (i+1) (by omega) H) ?_;rintro _ k rfl h;have B:=AB (bl s) (i+1);have bad:∀(d:J),O F0 w d [.g b] []->jJ (bl s) i=qx->rY.bb b 0 0 0 ⟨none,0,0⟩ d λr d=>r=D8 (jJ (bl s) i)/\ah w d:=λd m t=>m.af λu l=>⟨by rw[t];rfl,l.fr⟩;have y:∀(d:J),O F0 w d [.g b] []->jJ (bl s) i=qx->rY.cv b 0 0 0 ⟨none,0,0⟩ d λr d=>r=D8 (jJ (bl s) i)/\ah w d:=λd m t=>m.af λu l=>⟨by rw[t];rfl,l.fr⟩;have e:jJ (bl s) i=(let a:=hh (bl s) (i+1)
   let dash:=i+1+a.2
   if a.2=0\/(bl s).length<=dash\/gQ (bl s) dash≠45 then qx else
   let c:=hh (bl s) (dash+1)
   let fin:=dash+1+c.2
   if c.2=0\/(bl s).length<=fin\/gQ (bl s) fin≠93\/c.1.toNat<a.1.toNat then qx else⟨2,a.1,c.1,fin+1 - i⟩):=by
  conv=>lhs;unfold jJ
  simp only;rw[ab (by omega),ab (by rw[j];simp)]
 simp only at e;generalize hh (bl s) (i+1)=a at B e;refine⟨_,_,rfl,?_⟩;have D:aG .i64 (((i+1:Nat):Int)+(a.2:Int))=((i+1+a.2:Nat):Int):=by rw[bm _ (by omega)];omega
 show rY.aX s (i:Int) b 0 0 0 ⟨none,0,0⟩ (a.1.toNat:Int) (a.2:Int) (aG .i64 (((i+1:Nat):Int)+(a.2:Int))) k _;rw[D];refine ax (λo=>bad k h (by rw[e,ag (.inl (by omega))])) (λo=>aS (λp=>bad k h (by rw[e,ag (.inr (.inl (by omega)))])) (λp=>⟨by omega,_,gi (i:=i+1+a.2) (by omega),wi (n:=45) (by omega) (λf=>bad k h (by rw[e,ag (.inr (.inr (beq_eq_false_iff_ne.1 f)))])) (λf=>?_)⟩));have f:gQ (bl s) (i+1+a.2)=45:=eq_of_beq f;rw[ab (by rw[f];simp;omega)]at e;rw[bw _ (by omega)];refine h.av (AP s (i+1+a.2+1) (by omega) k) ?_;rintro _ x rfl q;have C:=AB (bl s) (i+1+a.2+1);generalize hh (bl s) (i+1+a.2+1)=c at C e;refine⟨_,_,rfl,?_⟩;have F:aG .i64 (((i+1+a.2+1:Nat):Int)+(c.2:Int))=((i+1+a.2+1+c.2:Nat):Int):=by rw[bm _ (by omega)];omega
 show rY.bA s (i:Int) b 0 0 0 ⟨none,0,0⟩ (a.1.toNat:Int) (c.1.toNat:Int) (c.2:Int) (aG .i64 (((i+1+a.2+1:Nat):Int)+(c.2:Int))) x _;rw[F];refine ax (λo=>y x q (by rw[e,ag (.inl (by omega))])) (λo=>aS (λp=>y x q (by rw[e,ag (.inr (.inl (by omega)))])) (λp=>⟨by omega,_,gi (i:=i+1+a.2+1+c.2) (by omega),wi (n:=93) (by omega) (λf=>y x q (by rw[e,ag (.inr (.inr (.inl (beq_eq_false_iff_ne.1 f))))])) (λA=>aS (λK=>y x q (by rw[e,ag (.inr (.inr (.inr (by omega))))])) (λK=>q.af λP I=>⟨?_,I.fr⟩))⟩));have A:gQ (bl s) (i+1+a.2+1+c.2)=93:=eq_of_beq A;rw[e,ab (by rw[A];simp;omega)];have E:aG .i64 ((aG .i64 (((i+1+a.2+1+c.2:Nat):Int)+1)) - (i:Int))=((i+1+a.2+1+c.2+1 - i:Nat):Int):=by rw[bw _ (by omega),bm _ (by omega)];omega
 rw[E];rfl
def du.c(t:du):List aa:=[.string (ba t.tx),.i (t.at_:Int),.i (t.k:Int),.int .u8 (t.lo.toNat:Int),.int .u8 (t.hi.toNat:Int),.slice none 0 0]
def PI(t:du):t.c.length=6:=rfl
def PJ(l:List du)(t:du):l.flatMap du.c++t.c=(l++[t]).flatMap du.c:=by simp
def v9{w:J}{s:Sl}{l:List du}(d:br 6 w s (l.flatMap du.c)):s.n=l.length:=by have:=d.1;rw[nJ du.c 6 PI]at this;omega
def Hi:fS U zx oq (.agg #[.s0,.i 0,.i 0,.int .u8 0,.int .u8 0,.slice none 0 0]) 6 64:=⟨by kernel_rfl,by kernel_rfl,rfl,by decide,by decide⟩
def Fu(w:J)(l:List du)(r:cA)(b:J):Prop:=∃a:Sl,r=ae a.v/\aK b oq 6 a (l.flatMap du.c)/\∀d∈aN a,w.heap.size<=d
def FR(s:ByteArray)(i j:Nat):s.extract i j=ba (((bl s).take j).drop i):=by
 have:bl (s.extract i j)=((bl s).take j).drop i:=by unfold bl;rw[ByteArray.data_extract,Array.toList_extract,List.extract_eq_take_drop];rw[List.drop_take]
 rw[<-this,jx]
def Jf(c:UInt8){A B:Prop}(b:ec c=true->A)(a:ec c=false->B):bq (ao (((c.toNat:Nat):Int)>=97)) (bq (ao (((c.toNat:Nat):Int)<=122)) A B) B:=
 aS (λd=>aS (λe=>b (by unfold ec;rw[aM (show 97<=c.toNat by omega),aM (show c.toNat<=122 by omega)];rfl)) (λe=>a (by unfold ec;rw[aP (show ¬c.toNat<=122 by omega)];simp))) (λd=>a (by unfold ec;rw[aP (show ¬97<=c.toNat by omega)];simp))
def Oi(s:BL)(i:Nat):∀(f n:Nat),i+n<=s.length->n<=m8 s i f n/\i+m8 s i f n<=s.length
 |0,n,d=>⟨be _,d⟩
 |f+1,n,d=>by
  unfold m8;split
  .rename_i e;simp only[a9,decide_eq_true_eq]at e;have:=Oi s i f (n+1) (by omega);exact⟨by omega,this.2⟩
  .exact ⟨be _,d⟩
def RF(s:ByteArray)(hs:s.size<=100000)(w:J):aj U JO #[.string s] w λr B=>Fu w (mr (bl s)) r B/\ah w B:=by
 have hl:(bl s).length=s.size:=c9 s
 let q:aC:=λr B=>Fu w (mr (bl s)) r B/\ah w B
 have fin:∀(a:List du) (d:Sl) (l:J),a.length<=s.size->mr (bl s)=a++[⟨[],(bl s).length,0,0,0⟩]->O F0 w l [.row oq 6 d (a.flatMap du.c)] []->
   cS l (.cells #[.s0,.i ((s.size:Nat):Int),.i 0,.int .u8 0,.int .u8 0,.slice none 0 0] oq) λw7=>
 ∃(M:Sl) (Q:J),Sem.run U (g' #[zx,zx] zx #[d.v,.slice (some (nb l)) 1 1]) w7=.ok (M.v) Q/\q (ae (M.v)) Q:=by intro a d l ha h y;have ad:=v9 (y.get 0:aK _ _ _ _ _).a7;refine y.wM 0 Hi rfl (λL w2 u _ _=>⟨⟨L,rfl,?_,λai hx=>(u.new _ (aB (i:=0) rfl) ai hx).resolve_right id⟩,u.fr⟩) (by omega);rw[h,<-PJ];exact u.get 0
 have loop:∀(f i:Nat) (a:List du) (d:Sl) (l:J),s.size<f+i->i<=s.size->a.length<=i->mr (bl s)=a++om (bl s) f i->O F0 w l [.row oq 6 d (a.flatMap du.c)] []->jy.a0 s d (i:Int) l q:=by
  intro f;induction f with
  |zero=>intro i a d l Y Z;omega
  |succ f N=>
   intro i a d l Y Z ak h y;refine jy.bJ _ _ _ _ _ (aS (λT=>⟨by omega,_,gi (i:=i) (by omega),?_⟩) (λT=>fin a d l (by omega) (by rw[h];unfold om;rw[ag (by omega)]) y))
   unfold om at h;rw[ab (by omega)]at h;refine wj (n:=32) (by omega) (λm=>?_) (λm=>?_)
   .have m:gQ (bl s) i=32:=eq_of_beq m;rw[ag m]at h;rw[bw _ (by omega)];exact N (i+1) a d l (by omega) (by omega) (by omega) h y
   have m:gQ (bl s) i≠32:=beq_eq_false_iff_ne.1 m;rw[ab m]at h;simp only at h;refine y.call (R9 s hs i (by omega) l) ?_;rintro _ w2 rfl u;have z:=Nv (bl s) i;generalize jJ (bl s) i=g at h z;refine⟨_,_,_,⟨none,0,0⟩,_,rfl,u.ay λb w3 E=>?_⟩;have E:O F0 w w3 [.row oq 6 d (a.flatMap du.c),.g b] []:=E;have one:∀(n:Nat) (p:J),1<=n->i+n<=s.size->mr (bl s)=a++⟨((bl s).take (i+n)).drop i,i,g.k,g.lo,g.hi⟩::om (bl s) f (i+n)->O F0 w p [.row oq 6 d (a.flatMap du.c),.g b] []->
     jy.bA s d (i:Int) b (g.k:Int) (g.lo.toNat:Int) (g.hi.toNat:Int) ⟨none,0,0⟩ (n:Int) p q:=by
    intro n p G F I C;show(0:Int)<=_/\_;have A:aG .i64 ((i:Int)+(n:Int))=((i+n:Nat):Int):=by rw[bm _ (by omega)];omega
    rw[A,bZ,bZ,FR];refine⟨by omega,by omega,by omega,by omega,C.af λj o=>?_⟩;have ad:=v9 (o.get 0:aK _ _ _ _ _).a7;refine o.iA 0 Hi rfl (λL w6 S=>?_) (by omega);refine N (i+n) (a++[⟨((bl s).take (i+n)).drop i,i,g.k,g.lo,g.hi⟩]) L w6 (by omega) (by omega) (by simp;omega) (by rw[I];simp) ?_;rw[<-PJ];exact S.take 1
   refine ax (λH=>E.af λp C=>?_) (λH=>E.af λp C=>one g.n p (by omega) (by omega) (by rw[h,ab (by omega)]) C);have H:g.n=0:=by omega
   rw[ag H]at h;have word:∀(e n:Nat) (j:J),s.size<=e+(i+n)->1<=n->i+n<=s.size->m8 (bl s) i (bl s).length 1=m8 (bl s) i e n->O F0 w j [.row oq 6 d (a.flatMap du.c),.g b] []->
     jy.b5 s d (i:Int) b (g.k:Int) (g.lo.toNat:Int) (g.hi.toNat:Int) ⟨none,0,0⟩ (n:Int) j q:=by
    intro e;induction e with
    |zero=>
     intro n j I G F z o;have stop:jy.bA s d (i:Int) b (g.k:Int) (g.lo.toNat:Int) (g.hi.toNat:Int) ⟨none,0,0⟩ (n:Int) j q:=one n j G F (by rw[h,z];rfl) o;have A:aG .i64 ((i:Int)+(n:Int))=((i+n:Nat):Int):=by rw[bm _ (by omega)];omega
     refine jy.dy _ _ _ _ _ _ _ _ _ _ _ ?_;rw[A];refine⟨by omega,_,gi (i:=i) (by omega),bh (λ_=>⟨by omega,_,gi (i:=i) (by omega),bh (λ_=>aV (aP (by omega)) stop) (λ_=>stop)⟩) (λ_=>stop)⟩
    |succ e aa=>
     intro n j I G F z o;have A:aG .i64 ((i:Int)+(n:Int))=((i+n:Nat):Int):=by rw[bm _ (by omega)];omega
     have stop:(ec (gQ (bl s) i)&&ao (i+n<(bl s).length)&&ec (gQ (bl s) (i+n)))=false->jy.bA s d (i:Int) b (g.k:Int) (g.lo.toNat:Int) (g.hi.toNat:Int) ⟨none,0,0⟩ (n:Int) j q:=λx=>one n j G F (by
      rw[h,z];conv=>lhs;unfold m8
      rw[x];rfl) o
     refine jy.dy _ _ _ _ _ _ _ _ _ _ _ ?_;rw[A];refine⟨by omega,_,gi (i:=i) (by omega),?_⟩;have go:ec (gQ (bl s) i)=true->bq (ao (((i+n:Nat):Int)<((s.size:Nat):Int))) ((0:Int)<=((i+n:Nat):Int)/\∃P:UInt8,s[a1 ((i+n:Nat):Int)]? =some P/\bq (ao (((P.toNat:Nat):Int)>=97)) ((0:Int)<=((i+n:Nat):Int)/\∃t:UInt8,s[a1 ((i+n:Nat):Int)]? =some t/\bq (ao (((t.toNat:Nat):Int)<=122)) (jy.b5 s d (i:Int) b (g.k:Int) (g.lo.toNat:Int) (g.hi.toNat:Int) ⟨none,0,0⟩ (aG .i64 ((n:Int)+1)) j q) (jy.bA s d (i:Int) b (g.k:Int) (g.lo.toNat:Int) (g.hi.toNat:Int) ⟨none,0,0⟩ (n:Int) j q)) (jy.bA s d (i:Int) b (g.k:Int) (g.lo.toNat:Int) (g.hi.toNat:Int) ⟨none,0,0⟩ (n:Int) j q)) (jy.bA s d (i:Int) b (g.k:Int) (g.lo.toNat:Int) (g.hi.toNat:Int) ⟨none,0,0⟩ (n:Int) j q):=by
      intro V;refine aS (λW=>⟨by omega,_,gi (i:=i+n) (by omega),?_⟩) (λW=>stop (by rw[aP (show ¬i+n<(bl s).length by omega)];simp));have key:ec (gQ (bl s) (i+n))=true->jy.b5 s d (i:Int) b (g.k:Int) (g.lo.toNat:Int) (g.hi.toNat:Int) ⟨none,0,0⟩ (aG .i64 ((n:Int)+1)) j q:=λD=>by
       rw[bw _ (by omega)];refine aa (n+1) j (by omega) (by omega) (by omega) ?_ o;rw[z];conv=>lhs;unfold m8
       rw[V,D,aM (show i+n<(bl s).length by omega)];rfl
      have K:ec (gQ (bl s) (i+n))=false->_:=λD=>stop (by rw[D];simp);have x:=Jf (gQ (bl s) (i+n)) key K;exact OA x (λx=>⟨by omega,_,gi (i:=i+n) (by omega),x⟩) id
     have K:ec (gQ (bl s) i)=false->_:=λD=>stop (by rw[D];simp);exact OA (Jf (gQ (bl s) i) go K) (λx=>⟨by omega,_,gi (i:=i) (by omega),x⟩) id
   exact word (bl s).length 1 p (by omega) (by omega) (by omega) rfl C
 refine jy.au _ w _ ?_;exact loop (s.size+1) 0 [] ⟨none,0,0⟩ w (by omega) (by omega) (by simp) (by unfold mr;rw[hl];rfl) ((bO [] (by simp)).h' oq 6)
abbrev Nw(s:Sl)(a:bD):List aa:=[s.v,.i (a.1:Int),.bool a.2]
abbrev cI(a:Nat)(s:Sl)(b:bD):En:=.c a (Nw s b) PV
abbrev cN(s:Sl)(l:List du):En:=.a7 6 s (l.flatMap du.c)
abbrev SA(b:Nat)(s:Sl)(w:J)(A:aC)(c:bD):aC:=λr a=>(A r a/\a.heap[b]? =some (.cells (Nw s c).toArray PV (0,0)))/\Fr (·=b) w a
abbrev iu(a:Nat)(s:Sl)(l:List du)(b:bD)(w:J):Prop:=O (·=a) w w [cI a s b] [cN s l]
def _root_.Go.W.O.fO{M:Nat->Prop}{w0 w:J}{L D:List En}{e:Nat}{s:Sl}{l:List du}{st:bD}(H:O M w0 w (cI e s st::L) (cN s l::D)):iu e s l st w:=
 O.og _ _ (by
  intro h d;simp only[aE,aZ,a2]at d;subst d;exact⟨H.get 0,λb c=>pP.1 c⟩) (by
  simp only[List.flatMap_cons,List.flatMap_nil,List.append_nil];exact(cI e s st).nd) (by
  intro h d;simp only[aE,aZ,a2]at d;subst d;exact⟨H.getD 0,λb c j a=>by simp only[aE,aZ,a2]at a;subst a;exact H.dj _ List.mem_cons_self b c _ List.mem_cons_self⟩)
structure Fw(w:J)(p:Addr)(i:Nat)(t:du):Prop where
 c0:w.cell? ((p.add (i *6)).add 0)=some (.string (ba t.tx))
 c1:w.cell? ((p.add (i *6)).add 1)=some (.i (t.at_:Int))
 c2:w.cell? ((p.add (i *6)).add 2)=some (.i (t.k:Int))
 c3:w.cell? ((p.add (i *6)).add 3)=some (.int .u8 (t.lo.toNat:Int))
 c4:w.cell? ((p.add (i *6)).add 4)=some (.int .u8 (t.hi.toNat:Int))
 c5:w.cell? ((p.add (i *6)).add 5)=some (.slice none 0 0)
def v'{w:J}{s:Sl}{l:List du}(h:br 6 w s (l.flatMap du.c)){i:Nat}(d:i<l.length){K:Addr->Prop}(e:∀p,s.a=some p->Fw w p i (fj l i)->K p):dJ s.a K:=by
 have j:l[i]? =some (fj l i):=by unfold fj;rw[List.getD_eq_getElem?_getD,a5 d];rfl
 exact fD.elem (f:=du.c) (sz:=6) PI (by omega) h.2.2 j λp g b=>e p g ⟨b 0 _ rfl,b 1 _ rfl,b 2 _ rfl,b 3 _ rfl,b 4 _ rfl,b 5 _ rfl⟩
def i2(l:List du):Prop:=0<l.length/\(fj l (l.length - 1)).tx=[]/\(fj l (l.length - 1)).k=0
section
variable {pb:Nat} {s:Sl} {l:List du} {st:bD} {w:J}
def AR(H:iu pb s l st w)(b:st.1<l.length):aj U J3 #[.pointer (some (ad pb))] w λr k=>r=ae (.string (ba (eX l st)))/\ah w k:=by
 have j:st.2=true->eX l st=[32]:=λe=>by unfold eX;rw[e];rfl
 have h:st.2=false->eX l st=(fj l st.1).tx:=λe=>by unfold eX;rw[e];rfl
 generalize eX l st=u at j h;refine HA.ok _ w _ ⟨st.2,H.ld 0 2,bh (λa=>⟨?_,Fr.refl _ _⟩) (λa=>?_)⟩
 .rw [j a];rfl
 rw[h a];have d:O (·=pb) w w.drew [cI pb s st] [cN s l]:=H.drew;have x:=v9 (d.getD 0:br _ _ _ _);refine⟨s,d.ld 0 0,_,d.ld 0 1,by omega,by omega,v' (d.getD 0) b λp q c=>⟨ba (fj l st.1).tx,?_,rfl,Fr.drew _ _⟩⟩;rw[bZ];exact c.c0
def rC(a b:BL):((ba a).toList==(ba b).toList)=(a==b):=by rw[ByteArray.toList_eq,ByteArray.toList_eq];rfl
def IV(b:i2 l)(d:st.1<l.length)(c:eX l st≠[])(a:st.2=false):st.1+1<l.length:=by
 rcases Nat.lt_or_ge (st.1+1) l.length with e|e
 .exact e
 .exfalso;apply c;have h:st.1=l.length - 1:=by omega
  unfold eX;rw[a,h];exact b.2.1
def qW(b:i2 l)(a:st.1<l.length)(u:BL)(c:u≠[32]):(eD l u st).2.1<l.length:=by
 unfold eD;cases d:eX l st==u with
 |false=>exact a
 |true=>
  have d:=eq_of_beq d;cases j:u.isEmpty with
  |true=>exact a
  |false=>
   show st.1+1<l.length;refine IV b a (λe=>?_) ?_
   .rw [e]at d;subst d;cases j
   .cases h:st.2 with
    |false=>rfl
    |true=>
     exfalso;apply c;rw[<-d];unfold eX;rw[h];rfl
def pR(H:iu pb s l st w)(d:st.1<l.length)(e:l.length<=1000000)(u:BL):aj U J4 #[.pointer (some (ad pb)),.string (ba u)] w (SA pb s w (λr _=>r=ae (.bool (eD l u st).1)) (eD l u st).2):=by
 refine HB.ok _ _ w _ (H.call (AR H d) ?_);rintro _ k rfl h;refine⟨_,rfl,?_⟩;try dsimp only
 rw[rC];have j:((ba u).toList==(bj #[]).toList)=u.isEmpty:=by have:bj #[]=ba []:=rfl;rw[this,rC];cases u<;>rfl
 rw[j];refine ey (λa=>⟨⟨?_,?_⟩,h.fr⟩) (λa=>ey (λb=>⟨_,h.ld 0 1,?_⟩) (λb=>⟨⟨?_,?_⟩,h.fr⟩))
 .unfold eD;rw[a];rfl
 .have:(eD l u st).2=st:=by unfold eD;rw[a];rfl
  rw[this];exact h.get 0
 .rw [bw _ (by omega)];refine h.st 0 1 rfl λf c=>⟨⟨?_,?_⟩,c.fr⟩
  .unfold eD;rw[a];rfl
  .have:(eD l u st).2=(st.1+1,st.2):=by unfold eD;rw[a,b];rfl
   rw[this];exact c.get 0
 .unfold eD;rw[a];rfl
 .have:(eD l u st).2=st:=by unfold eD;rw[a,b];rfl
  rw[this];exact h.get 0
def LV(u:BL):j6 l u st=bif (eD l u st).1 then(eD l u st).2 else((eD l u st).2.1,true):=by unfold j6;generalize eD l u st=x;obtain⟨b,d⟩:=x;cases b<;>rfl
def vj(b:i2 l)(a:st.1<l.length)(u:BL)(c:u≠[32]):(j6 l u st).1<l.length:=by rw[LV];have:=qW b a u c;cases(eD l u st).1<;>exact this
def ue(H:iu pb s l st w)(d:st.1<l.length)(c:l.length<=1000000)(u:BL):aj U J2 #[.pointer (some (ad pb)),.string (ba u)] w (SA pb s w (λr _=>r=ae (.tuple #[])) (j6 l u st)):=by
 refine Hz.ok _ _ w _ (H.pS (pR H d c u) ?_);rintro _ j rfl e _;rw[LV];refine⟨_,rfl,ey (λa=>e.st 0 2 rfl λh b=>⟨⟨rfl,?_⟩,b.fr⟩) (λa=>⟨⟨rfl,?_⟩,e.fr⟩)⟩
 .rw [a];exact b.get 0
 .rw [a];exact e.get 0
def RJ(H:iu pb s l st w)(a:st.1<l.length):aj U J1 #[.pointer (some (ad pb))] w λr b=>r=ae (.bool (wU l st))/\ah w b:=by refine Hy.ok _ w _ ((AR H a).mono ?_);rintro _ z ⟨rfl,e⟩;have h:=H.cd e;refine⟨_,rfl,st.2,h.ld 0 2,?_⟩;have d:∀u:List UInt8,((ba (eX l st)).toList==(ba u).toList)=(eX l st==u):=λu=>rC _ _;have j:=d [];have k:=d [41];have q:=d [44];have x:=d [124];have y:=d [38];unfold wU;show bq _ (bq (!((ba (eX l st)).toList==(ba []).toList)) (bq (!((ba (eX l st)).toList==(ba [41]).toList)) (bq (!((ba (eX l st)).toList==(ba [44]).toList)) (bq (!((ba (eX l st)).toList==(ba [124]).toList)) (Ending.returned (.bool (!((ba (eX l st)).toList==(ba [38]).toList)))=_/\ah w z) _) _) _) _) _;rw[j,k,q,x,y];cases st.2<;>cases eX l st==[]<;>cases eX l st==[41]<;>cases eX l st==[44]<;>cases eX l st==[124]<;>first |exact⟨rfl,e⟩|skip
end
def AK(k:Int)(s:Sl)(l:List I)(w:J)(j:(bE s l).P w):aj U vc #[.i k,s.v] w λr q=>fU (bE s l).fp w (qg k (I.aq l)) r q/\ah w q:=by
 have d:=I.cb (dd.1 j).1;refine Hv.au _ _ w _ ((ga j).ay λb o h=>ax (λn=>?_) (λn=>h.af λg e=>⟨⟨.mk k 0 0 s l,rfl,?_,?_,λb f=>.inr f⟩,e.fr⟩))
 .match l,d with
  |[],d=>simp at d;omega
  |a::b::m,d=>simp at d;omega
  |[a],d=>
   refine⟨by omega,by omega,I.a3 (dd.1 (show(bE s [a]).P o from h.getD 0)).1 (i:=0) rfl λp x c=>⟨_,_,_,_,c.c0,c.c1,c.c2,c.c3,h.af λg e=>⟨⟨a,rfl,rfl,?_,λb f=>.inr ?_⟩,e.fr⟩⟩⟩
   .exact (dd.1 (show(bE s [a]).P g from e.getD 0)).2.mem (by simp)
   .exact lB.2 (.inr (I.bK.2 ⟨a,by simp,f⟩))
 .show Rx.mk k 0 0 (I.aq l)=_
  match l,d with
  |[],d=>rfl
  |[a],d=>simp at d;omega
  |a::b::m,d=>rfl
 .have:=dd.1 (show(bE s l).P g from e.getD 0);unfold I.P;exact this
structure lW(s:Sl)(l:List du)(n:Nat):Prop where
 expr:∀(pb:Nat) (st:bD) (w:J) (x:Rx) (gC:bD),kH l n st=some (x,gC)->st.1<l.length->iu pb s l st w->aj U Cr #[.pointer (some (ad pb))] w (SA pb s w (λr V=>fF w x r V/\gC.1<l.length) gC)
 G8:∀(pb:Nat) (st:bD) (w:J) (x:Rx) (gC:bD),nF l n st=some (x,gC)->st.1<l.length->iu pb s l st w->aj U x' #[.pointer (some (ad pb))] w (SA pb s w (λr V=>fF w x r V/\gC.1<l.length) gC)
 seq:∀(pb:Nat) (st:bD) (w:J) (x:Rx) (gC:bD),oc l n st=some (x,gC)->st.1<l.length->iu pb s l st w->aj U yb #[.pointer (some (ad pb))] w (SA pb s w (λr V=>fF w x r V/\gC.1<l.length) gC)
 item:∀(pb:Nat) (st:bD) (w:J) (x:Rx) (gC:bD),l8 l n st=some (x,gC)->st.1<l.length->iu pb s l st w->aj U ya #[.pointer (some (ad pb))] w (SA pb s w (λr V=>fF w x r V/\gC.1<l.length) gC)
 atom:∀(pb:Nat) (st:bD) (w:J) (x:Rx) (gC:bD),pM l n st=some (x,gC)->st.1<l.length->iu pb s l st w->aj U Cq #[.pointer (some (ad pb))] w (SA pb s w (λr V=>fF w x r V/\gC.1<l.length) gC)
 kids:∀(pb:Nat) (st:bD) (w:J) (m:List Rx) (gC:bD),qh l n st=some (m,gC)->st.1<l.length->iu pb s l st w->aj U Cs #[.pointer (some (ad pb))] w (SA pb s w (λr V=>(∃(sl:Sl) (a:List I),r=ae sl.v/\I.aq a=m/\(bE sl a).P V/\∀b∈(bE sl a).fp,w.heap.size<=b)/\gC.1<l.length) gC)
def yB{M:Nat->Prop}{w0 w:J}{L D:List En}{d:Nat}{s:Sl}{st:bD}(H:O M w0 w (cI d s st::L) D)(i:Nat){e:En}(c:L[i]? =some e){b:Nat}(a:b∈e.fp):b≠d:=λh=>
 i5 H.nd (i:=i+1) (by simpa using c) (j:=0) rfl (by omega) b a (pP.2 h)
def _root_.Go.W.O.um{M:Nat->Prop}{w0 w:J}{L D:List En}(H:O M w0 w L D)(j:Nat){t:I}(c:D[j]? =some (.tree t):=by rfl):O M w0 w L (D++[.trees [t]]):=by
 refine H.ek _ (Fr.refl _ _) (I.iP λh a=>?_) λb e=>.inr (.inr ?_)
 .simp at a;subst a;exact H.getD j c
 .obtain ⟨h,a,d⟩:=I.bK.1 (a4.1 e);simp at a;rw[a]at d;exact⟨_,aB c,a4.2 d⟩
section
variable {s:Sl} {l:List du} {n:Nat}
def HZ(T:i2 l)(S:l.length<=1000000)(Z:∀m,m<=n->lW s l m)(j:Nat)(w:J)(x:Rx)(o:bD):∀(f:Nat),f<=n->∀(d:List I) (q:Sl) (p:Nat) (H:J) (st:bD),rr l f (I.aq d) st=some (x,o)->st.1<l.length->d.length+f<=1000000->(∀b∈I.a8 d,w.heap.size<=b)->
  O (·=j) w H [cI j s st,.g p,.row aH 4 q (d.flatMap I.c)] [cN s l,.trees d]->
  uD.a0 (ad j) p 0 0 0 ⟨none,0,0⟩ q H (SA j s w (λr E=>fF w x r E/\o.1<l.length) o)
 |0,_=>λd q p H st z=>by unfold rr at z;cases z
 |f+1,hf=>λd q p H st z Y bg Q K=>by
  have ah:=I.cb (K.get 2:aK _ _ _ _ _).a7;unfold rr at z;have fin:∀(k:J) (e:bD),e.1<l.length->some (qg 4 (I.aq d),e)=some (x,o)->O (·=j) w k [cI j s e,.g p,.row aH 4 q (d.flatMap I.c)] [cN s l,.trees d]->
    rK [p] vc #[.i 4,q.v] k λam an ao ap w8=>loc [p] w8 λbc=>SA j s w (λr E=>fF w x r E/\o.1<l.length) o (ae (.agg #[.i am,.int .u8 an,.int .u8 ao,ap.v])) bc:=by
   intro k e N A y;simp only[e0,eQ]at A;obtain⟨rfl,rfl⟩:=A;have ab:∀b∈(bE q d).fp,w.heap.size<=b:=λb h=>by
    rcases lB.1 h with h|h
    .exact (y.new _ (aB (i:=2) rfl) b (gh h)).resolve_right (yB y 1 rfl (gh h))
    .exact Q b h
   have L:O (·=j) w k [cI j s e,.g p] [cN s l,.trees d,I.row q d,.tree (bE q d)]:=y.qL 2 1 0 0 0;refine L.pU (AK 4 q d k (L.getD 3)) (λb h=>⟨_,aB (i:=3) rfl,a4.2 h⟩) λt w3 D B ft=>?_;refine⟨_,_,_,t.s,rfl,B.af λw4 C=>⟨⟨⟨⟨t,rfl,D,C.getD 4,λb h=>?_⟩,N⟩,C.get 0⟩,C.fr⟩⟩;rcases ft b h with h|h
   .exact bp L.fr.size h
   .exact ab b h
  have more:∀(k:J) (e:bD),e.1<l.length->(match nF l f e with
   |some (a,st)=>rr l f (I.aq d++[a]) st
   |none=>none)=some (x,o)->O (·=j) w k [cI j s e,.g p,.row aH 4 q (d.flatMap I.c)] [cN s l,.trees d]->
    rK [p] x' #[.pointer (some (ad j))] k λai aj ak al F=>cS F (.cells #[.i ai,.int .u8 aj,.int .u8 ak,al.v] aH) λw6=>
     ∃(V:Sl) (P:J),Sem.run U (g' #[cY,cY] cY #[q.v,.slice (some (nb F)) 1 1]) w6=.ok (V.v) P/\kept [p] w6 P/\uD.a0 (ad j) p 0 0 0 ⟨none,0,0⟩ V P (SA j s w (λr E=>fF w x r E/\o.1<l.length) o):=by
   intro k e N A y;cases M:nF l f e with
   |none=>rw[M]at A;cases A
   |some ag=>
    obtain⟨a,G⟩:=ag;rw[M]at A;refine y.hY ((Z f (by omega)).G8 j e k a G M N y.fO) ?_;rintro _ w3 ⟨⟨u,rfl,hu,pu,W⟩,aa⟩ _ F3;have B:=F3 (.tree u) pu λb h=>W b (a4.1 h);have B:O (·=j) w w3 [cI j s G,.g p,.row aH 4 q (d.flatMap I.c)] [cN s l,.trees d,.tree u]:=B;refine⟨_,_,_,u.s,rfl,B.iA 2 kF (xs:=d.flatMap I.c) rfl (λs' F C=>?_) (by omega)⟩;have H6:O (·=j) w F [cI j s G,.g p,.row aH 4 s' ((d++[u]).flatMap I.c)] [cN s l,.trees (d++[u])]:=by rw[lj];exact(C.qQ 1 2).forget _ (by simp)
    refine HZ T S Z j w x o f (by omega) (d++[u]) s' p F G ?_ aa (by simp;omega) (r7 Q λb h=>bp y.fr.size (W b h)) H6;rw[jK];have:I.aq [u]=[a]:=by simp[I.aq,hu]
    rw[this];exact A
  refine uD.bJ _ _ _ _ _ _ _ _ _ (K.hY (pR K.fO Y S [124]) ?_);have D:=qW T Y [124] (by decide);rintro _ k rfl y _;refine⟨_,rfl,?_⟩;cases hq:eD l [124] st with
  |mk ac e=>
   rw[hq]at z y D;cases ac with
   |true=>exact more k e D z y
   |false=>exact fin k e D z y
def TC(v:i2 l)(q:l.length<=1000000)(T:n<=100000)(E:∀m,m<=n->lW s l m)(d:Nat)(j:bD)(w:J)(x:Rx)(f:bD)(o:kH l (n+1) j=some (x,f))(hi:j.1<l.length)(H:iu d s l j w):
  aj U Cr #[.pointer (some (ad d))] w (SA d s w (λr Q=>fF w x r Q/\f.1<l.length) f):=by
 unfold kH at o;cases y:nF l n j with
 |none=>rw[y]at o;cases o
 |some S=>
  obtain⟨a,h⟩:=S;rw[y]at o;refine uD.au _ w _ (H.ay λp B e=>?_);have e:O (·=d) w B [cI d s j,.g p] [cN s l]:=e;refine e.hY ((E n (be _)).G8 d j B a h y hi e.fO) ?_;rintro _ C ⟨⟨u,rfl,N,P,z⟩,M⟩ _ F;have k:=F (.tree u) P λb i=>z b (a4.1 i);have k:O (·=d) w C [cI d s h,.g p] [cN s l,.tree u]:=k;refine⟨_,_,_,u.s,rfl,k.eK (n:=1) (sz:=4) (cs:=u.c) rfl (by decide) λD G=>?_⟩;have K:O (·=d) w D [cI d s h,.g p,.row aH 4 ⟨some (ad C.heap.size),1,1⟩ ([u].flatMap I.c)] [cN s l,.trees [u]]:=by
   have L:[u].flatMap I.c=u.c:=by simp
   rw[L];exact(G.um 1).forget _ (by simp)
  refine HZ v q E d w x f n (be _) [u] _ p D h ?_ M (by simp;omega) (λb i=>?_) K
  .have:I.aq [u]=[a]:=by simp[I.aq,N]
   rw[this];exact o
  .obtain ⟨t,A,i⟩:=I.bK.1 i;simp at A;rw[A]at i;exact bp e.fr.size (z b i)
def G'(T:i2 l)(S:l.length<=1000000)(Z:∀m,m<=n->lW s l m)(j:Nat)(w:J)(x:Rx)(o:bD):∀(f:Nat),f<=n->∀(d:List I) (q:Sl) (p:Nat) (H:J) (st:bD),ry l f (I.aq d) st=some (x,o)->st.1<l.length->d.length+f<=1000000->(∀b∈I.a8 d,w.heap.size<=b)->
  O (·=j) w H [cI j s st,.g p,.row aH 4 q (d.flatMap I.c)] [cN s l,.trees d]->
  uC.a0 (ad j) p 0 0 0 ⟨none,0,0⟩ q H (SA j s w (λr E=>fF w x r E/\o.1<l.length) o)
 |0,_=>λd q p H st z=>by unfold ry at z;cases z
 |f+1,hf=>λd q p H st z Y bg Q K=>by
  have ah:=I.cb (K.get 2:aK _ _ _ _ _).a7;unfold ry at z;have fin:∀(k:J) (e:bD),e.1<l.length->some (qg 5 (I.aq d),e)=some (x,o)->O (·=j) w k [cI j s e,.g p,.row aH 4 q (d.flatMap I.c)] [cN s l,.trees d]->
    rK [p] vc #[.i 5,q.v] k λam an ao ap w8=>loc [p] w8 λbc=>SA j s w (λr E=>fF w x r E/\o.1<l.length) o (ae (.agg #[.i am,.int .u8 an,.int .u8 ao,ap.v])) bc:=by
   intro k e N A y;simp only[e0,eQ]at A;obtain⟨rfl,rfl⟩:=A;have ab:∀b∈(bE q d).fp,w.heap.size<=b:=λb h=>by
    rcases lB.1 h with h|h
    .exact (y.new _ (aB (i:=2) rfl) b (gh h)).resolve_right (yB y 1 rfl (gh h))
    .exact Q b h
   have L:O (·=j) w k [cI j s e,.g p] [cN s l,.trees d,I.row q d,.tree (bE q d)]:=y.qL 2 1 0 0 0;refine L.pU (AK 5 q d k (L.getD 3)) (λb h=>⟨_,aB (i:=3) rfl,a4.2 h⟩) λt w3 D B ft=>?_;refine⟨_,_,_,t.s,rfl,B.af λw4 C=>⟨⟨⟨⟨t,rfl,D,C.getD 4,λb h=>?_⟩,N⟩,C.get 0⟩,C.fr⟩⟩;rcases ft b h with h|h
   .exact bp L.fr.size h
   .exact ab b h
  have more:∀(k:J) (e:bD),e.1<l.length->(match oc l f e with
   |some (a,st)=>ry l f (I.aq d++[a]) st
   |none=>none)=some (x,o)->O (·=j) w k [cI j s e,.g p,.row aH 4 q (d.flatMap I.c)] [cN s l,.trees d]->
    rK [p] yb #[.pointer (some (ad j))] k λai aj ak al F=>cS F (.cells #[.i ai,.int .u8 aj,.int .u8 ak,al.v] aH) λw6=>
     ∃(V:Sl) (P:J),Sem.run U (g' #[cY,cY] cY #[q.v,.slice (some (nb F)) 1 1]) w6=.ok (V.v) P/\kept [p] w6 P/\uC.a0 (ad j) p 0 0 0 ⟨none,0,0⟩ V P (SA j s w (λr E=>fF w x r E/\o.1<l.length) o):=by
   intro k e N A y;cases M:oc l f e with
   |none=>rw[M]at A;cases A
   |some ag=>
    obtain⟨a,G⟩:=ag;rw[M]at A;refine y.hY ((Z f (by omega)).seq j e k a G M N y.fO) ?_;rintro _ w3 ⟨⟨u,rfl,hu,pu,W⟩,aa⟩ _ F3;have B:=F3 (.tree u) pu λb h=>W b (a4.1 h);have B:O (·=j) w w3 [cI j s G,.g p,.row aH 4 q (d.flatMap I.c)] [cN s l,.trees d,.tree u]:=B;refine⟨_,_,_,u.s,rfl,B.iA 2 kF (xs:=d.flatMap I.c) rfl (λs' F C=>?_) (by omega)⟩;have H6:O (·=j) w F [cI j s G,.g p,.row aH 4 s' ((d++[u]).flatMap I.c)] [cN s l,.trees (d++[u])]:=by rw[lj];exact(C.qQ 1 2).forget _ (by simp)
    refine G' T S Z j w x o f (by omega) (d++[u]) s' p F G ?_ aa (by simp;omega) (r7 Q λb h=>bp y.fr.size (W b h)) H6;rw[jK];have:I.aq [u]=[a]:=by simp[I.aq,hu]
    rw[this];exact A
  refine uC.bJ _ _ _ _ _ _ _ _ _ (K.hY (pR K.fO Y S [38]) ?_);have D:=qW T Y [38] (by decide);rintro _ k rfl y _;refine⟨_,rfl,?_⟩;cases hq:eD l [38] st with
  |mk ac e=>
   rw[hq]at z y D;cases ac with
   |true=>exact more k e D z y
   |false=>exact fin k e D z y
def SU(v:i2 l)(q:l.length<=1000000)(T:n<=100000)(E:∀m,m<=n->lW s l m)(d:Nat)(j:bD)(w:J)(x:Rx)(f:bD)(o:nF l (n+1) j=some (x,f))(hi:j.1<l.length)(H:iu d s l j w):
  aj U x' #[.pointer (some (ad d))] w (SA d s w (λr Q=>fF w x r Q/\f.1<l.length) f):=by
 unfold nF at o;cases y:oc l n j with
 |none=>rw[y]at o;cases o
 |some S=>
  obtain⟨a,h⟩:=S;rw[y]at o;refine uC.au _ w _ (H.ay λp B e=>?_);have e:O (·=d) w B [cI d s j,.g p] [cN s l]:=e;refine e.hY ((E n (be _)).seq d j B a h y hi e.fO) ?_;rintro _ C ⟨⟨u,rfl,N,P,z⟩,M⟩ _ F;have k:=F (.tree u) P λb i=>z b (a4.1 i);have k:O (·=d) w C [cI d s h,.g p] [cN s l,.tree u]:=k;refine⟨_,_,_,u.s,rfl,k.eK (n:=1) (sz:=4) (cs:=u.c) rfl (by decide) λD G=>?_⟩;have K:O (·=d) w D [cI d s h,.g p,.row aH 4 ⟨some (ad C.heap.size),1,1⟩ ([u].flatMap I.c)] [cN s l,.trees [u]]:=by
   have L:[u].flatMap I.c=u.c:=by simp
   rw[L];exact(G.um 1).forget _ (by simp)
  refine G' v q E d w x f n (be _) [u] _ p D h ?_ M (by simp;omega) (λb i=>?_) K
  .have:I.aq [u]=[a]:=by simp[I.aq,N]
   rw[this];exact o
  .obtain ⟨t,A,i⟩:=I.bK.1 i;simp at A;rw[A]at i;exact bp e.fr.size (z b i)
def OD(aw:i2 l)(aa:l.length<=1000000)(W:∀m,m<=n->lW s l m)(e:Nat)(w:J)(x:Rx)(o:bD):∀(f:Nat),f<=n->∀(d:List I) (q:Sl) (p:Nat) (G:J) (st:bD),se l f (I.aq d) st=some (x,o)->st.1<l.length->d.length+f<=1000000->(∀b∈I.a8 d,w.heap.size<=b)->
  O (·=e) w G [cI e s st,.g p,.row aH 4 q (d.flatMap I.c)] [cN s l,.trees d]->
  uF.a0 (ad e) p 0 0 0 ⟨none,0,0⟩ q G (SA e s w (λr D=>fF w x r D/\o.1<l.length) o)
 |0,_=>λd q p G st z=>by unfold se at z;cases z
 |f+1,hf=>λd q p G st z M be Q H=>by
  have ar:=I.cb (H.get 2:aK _ _ _ _ _).a7;unfold se at z;have fin:∀(k:J) (j:bD),j.1<l.length->some (qg 3 (I.aq d),j)=some (x,o)->O (·=e) w k [cI e s j,.g p,.row aH 4 q (d.flatMap I.c)] [cN s l,.trees d]->
    rK [p] vc #[.i 3,q.v] k λak al am an w8=>loc [p] w8 λaz=>SA e s w (λr D=>fF w x r D/\o.1<l.length) o (ae (.agg #[.i ak,.int .u8 al,.int .u8 am,an.v])) az:=by
   intro k j N A y;simp only[e0,eQ]at A;obtain⟨rfl,rfl⟩:=A;have ac:∀b∈(bE q d).fp,w.heap.size<=b:=λb h=>by
    rcases lB.1 h with h|h
    .exact (y.new _ (aB (i:=2) rfl) b (gh h)).resolve_right (yB y 1 rfl (gh h))
    .exact Q b h
   have K:O (·=e) w k [cI e s j,.g p] [cN s l,.trees d,I.row q d,.tree (bE q d)]:=y.qL 2 1 0 0 0;refine K.pU (AK 3 q d k (K.getD 3)) (λb h=>⟨_,aB (i:=3) rfl,a4.2 h⟩) λt Z ht B ft=>?_;refine⟨_,_,_,t.s,rfl,B.af λw4 C=>⟨⟨⟨⟨t,rfl,ht,C.getD 4,λb h=>?_⟩,N⟩,C.get 0⟩,C.fr⟩⟩;rcases ft b h with h|h
   .exact bp K.fr.size h
   .exact ac b h
  have more:∀(k:J) (j:bD),j.1<l.length->(match l8 l f j with
   |some (a,st)=>se l f (I.aq d++[a]) st
   |none=>none)=some (x,o)->O (·=e) w k [cI e s j,.g p,.row aH 4 q (d.flatMap I.c)] [cN s l,.trees d]->
    rK [p] ya #[.pointer (some (ad e))] k λag ah ai aj E=>cS E (.cells #[.i ag,.int .u8 ah,.int .u8 ai,aj.v] aH) λw6=>
     ∃(S:Sl) (P:J),Sem.run U (g' #[cY,cY] cY #[q.v,.slice (some (nb E)) 1 1]) w6=.ok (S.v) P/\kept [p] w6 P/\uF.a0 (ad e) p 0 0 0 ⟨none,0,0⟩ S P (SA e s w (λr D=>fF w x r D/\o.1<l.length) o):=by
   intro k j N A y;cases L:l8 l f j with
   |none=>rw[L]at A;cases A
   |some ao=>
    obtain⟨a,F⟩:=ao;rw[L]at A;refine y.hY ((W f (by omega)).item e j k a F L N y.fO) ?_;rintro _ Z ⟨⟨u,rfl,hu,pu,T⟩,ab⟩ _ F3;have B:=F3 (.tree u) pu λb h=>T b (a4.1 h);have B:O (·=e) w Z [cI e s F,.g p,.row aH 4 q (d.flatMap I.c)] [cN s l,.trees d,.tree u]:=B;refine⟨_,_,_,u.s,rfl,B.iA 2 kF (xs:=d.flatMap I.c) rfl (λY E C=>?_) (by omega)⟩;have H6:O (·=e) w E [cI e s F,.g p,.row aH 4 Y ((d++[u]).flatMap I.c)] [cN s l,.trees (d++[u])]:=by rw[lj];exact(C.qQ 1 2).forget _ (by simp)
    refine OD aw aa W e w x o f (by omega) (d++[u]) Y p E F ?_ ab (by simp;omega) (r7 Q λb h=>bp y.fr.size (T b h)) H6;rw[jK];have:I.aq [u]=[a]:=by simp[I.aq,hu]
    rw[this];exact A
  refine uF.bJ _ _ _ _ _ _ _ _ _ (H.av (RJ H.fO M) ?_);rintro _ k rfl y;refine⟨_,rfl,?_⟩;cases V:wU l st with
  |true=>rw[V]at z;exact more k st M z y
  |false=>rw[V]at z;exact fin k st M z y
def Yn(v:i2 l)(q:l.length<=1000000)(T:n<=100000)(E:∀m,m<=n->lW s l m)(d:Nat)(j:bD)(w:J)(x:Rx)(f:bD)(o:oc l (n+1) j=some (x,f))(hi:j.1<l.length)(H:iu d s l j w):
  aj U yb #[.pointer (some (ad d))] w (SA d s w (λr Q=>fF w x r Q/\f.1<l.length) f):=by
 unfold oc at o;cases y:l8 l n j with
 |none=>rw[y]at o;cases o
 |some S=>
  obtain⟨a,h⟩:=S;rw[y]at o;refine uF.au _ w _ (H.ay λp B e=>?_);have e:O (·=d) w B [cI d s j,.g p] [cN s l]:=e;refine e.hY ((E n (be _)).item d j B a h y hi e.fO) ?_;rintro _ C ⟨⟨u,rfl,N,P,z⟩,M⟩ _ F;have k:=F (.tree u) P λb i=>z b (a4.1 i);have k:O (·=d) w C [cI d s h,.g p] [cN s l,.tree u]:=k;refine⟨_,_,_,u.s,rfl,k.eK (n:=1) (sz:=4) (cs:=u.c) rfl (by decide) λD G=>?_⟩;have K:O (·=d) w D [cI d s h,.g p,.row aH 4 ⟨some (ad C.heap.size),1,1⟩ ([u].flatMap I.c)] [cN s l,.trees [u]]:=by
   have L:[u].flatMap I.c=u.c:=by simp
   rw[L];exact(G.um 1).forget _ (by simp)
  refine OD v q E d w x f n (be _) [u] _ p D h ?_ M (by simp;omega) (λb i=>?_) K
  .have:I.aq [u]=[a]:=by simp[I.aq,N]
   rw[this];exact o
  .obtain ⟨t,A,i⟩:=I.bK.1 i;simp at A;rw[A]at i;exact bp e.fr.size (z b i)
end
def _root_.Go.W.O.O7{M:Nat->Prop}{w0 w:J}{L D:List En}{bs:List Nat}(H:O M w0 w L D)(i j:Nat){b:Nat}{vs:List aa}{T:aD}{v:aa}{K:J->Prop}(e:L[i]? =some (.c b vs T))(m:∀h,O M w0 h (L.set i (.c b (vs.set j v) T)) D->K h)(k:j<vs.length:=by simp)(a:∀b∈bs,En.g b∈L:=by simp):aJ w ((ad b).add j) v λl=>kept bs w l/\K l:=by obtain⟨q,x,y⟩:=H.set (v:=v) i j e k;obtain⟨_,_,_,z⟩:=y9 (H.ob i e) j (by simpa using k) v;refine⟨q,x,λd f=>?_,m _ y⟩;refine z.ck d (H.own _ (a d f)) λn=>xv H e (AL w b vs T) (a d f) ?_;rw[n];exact pP.2 rfl
def _root_.Go.W.O.one{M:Nat->Prop}{w0 w:J}{L D:List En}(H:O M w0 w L D)(i j:Nat){e:aD}{sl:Sl}{u:I}(k:Int)(g b:UInt8)(f:L[i]? =some (.row e 4 sl u.c):=by rfl)(l:D[j]? =some (.tree u):=by rfl):O M w0 w (L.eraseIdx i) (D++[.tree (.mk k g b sl [u])]):=by
 have d:=H.um j l;have e:[u].flatMap I.c=u.c:=by simp
 have h:=d.qL i D.length k g b (s:=sl) (ts:=[u]) (by rw[e];exact f) (by simp);exact h.forget _ (λq a=>by
  simp only[aL,aE,aZ,a2]at a ⊢;rcases a with a|a
  .exact .inl (.inl (.inl a))
  .exact .inr a)
def Dt{w:J}{sl:Sl}{u:I}{k:Int}{lo hi:UInt8}(c:∀b∈aN sl,w.heap.size<=b)(d:∀b∈u.fp,w.heap.size<=b):∀b∈(I.mk k lo hi sl [u]).fp,w.heap.size<=b:=λb a=>by
 unfold I.fp at a;rcases aL.1 a with a|a
 .exact o9 c b a
 .obtain ⟨t,e,a⟩:=I.bK.1 a;simp at e;rw[e]at a;exact d b a
section
variable {s:Sl} {l:List du} {n:Nat}
def IH(t:i2 l)(p:l.length<=1000000)(a:Nat)(w:J)(x:Rx)(d:bD):∀(f:Nat) (u:I) (e i:Nat) (o:J) (j:bD),vW l f u.rx j=some (x,d)->j.1<l.length->(∀b∈u.fp,w.heap.size<=b)->
  O (·=a) w o [cI a s j,.g e,.g i] [cN s l,.tree u]->
  xf.a0 (ad a) e 0 0 0 ⟨none,0,0⟩ i u.k (u.lo.toNat:Int) (u.hi.toNat:Int) u.s o (SA a s w (λr K=>fF w x r K/\d.1<l.length) d)
 |0,u,e,i,o,j,h,_,_,_=>by unfold vW at h;cases h
 |f+1,u,e,i,o,j,h,B,A,z=>by
  unfold vW at h;refine xf.bJ _ _ _ _ _ _ _ _ _ _ _ _ _ (z.hY (pR z.fO B p [42]) ?_);have q:=qW t B [42] (by decide);rintro _ D rfl y _;refine⟨_,rfl,?_⟩;cases G:eD l [42] j with
  |mk H C=>
   rw[G]at h y q;cases H with
   |true=>
    dsimp only at h q;refine aT rfl ?_;refine y.eK (n:=1) (sz:=4) (cs:=u.c) rfl (by decide) λL m=>m.af λE M=>?_;have F:O (·=a) w E [cI a s C,.g e,.g i] [cN s l,.tree (.mk 7 0 0 ⟨some (ad D.heap.size),1,1⟩ [u])]:=(M.one 3 1 7 0 0).forget _ (by simp);refine IH t p a w x d f (.mk 7 0 0 ⟨some (ad D.heap.size),1,1⟩ [u]) e i E C h q (Dt (λb v=>?_) A) F;simp only[aN,aE,aZ,a2]at v;rw[v];exact y.fr.size
   |false=>
    dsimp only at h q;simp only[e0,eQ]at h;obtain⟨h,rfl⟩:=h;refine aV rfl ?_;exact y.af λL m=>⟨⟨⟨⟨u,rfl,h,m.getD 1,A⟩,q⟩,m.get 0⟩,m.fr⟩
def UO(o:i2 l)(m:l.length<=1000000)(N:lW s l n)(f:Nat)(j:bD)(w:J)(x:Rx)(i:bD)(d:l8 l (n+1) j=some (x,i))(hi:j.1<l.length)(H:iu f s l j w):
  aj U ya #[.pointer (some (ad f))] w (SA f s w (λr V=>fF w x r V/\i.1<l.length) i):=by
 unfold l8 at d;refine xf.au _ w _ (H.ay λv W B=>?_);have B:O (·=f) w W [cI f s j,.g v] [cN s l]:=B;refine B.hY (pR B.fO hi m [33]) ?_;have y:=qW o hi [33] (by decide);rintro _ P rfl h _;refine⟨_,rfl,?_⟩;cases S:eD l [33] j with
 |mk T C=>
  rw[S]at d h y;cases T with
  |true=>
   dsimp only at d y;cases k:l8 l n C with
   |none=>rw[k]at d;cases d
   |some L=>
    obtain⟨a,z⟩:=L;rw[k]at d;simp only[e0,eQ]at d;obtain⟨d,rfl⟩:=d;refine aT rfl ?_;refine h.hY (N.item f C P a z k y h.fO) ?_;rintro _ K ⟨⟨u,rfl,G,I,q⟩,F⟩ _ D;have A:=D (.tree u) I λb e=>q b (a4.1 e);refine⟨_,_,_,u.s,rfl,A.eK (n:=1) (sz:=4) (cs:=u.c) rfl (by decide) λY p=>p.af λM t=>?_⟩;have E:O (·=f) w M [cI f s z,.g v] [cN s l,.tree (.mk 6 0 0 ⟨some (ad K.heap.size),1,1⟩ [u])]:=(t.one 2 1 6 0 0).forget _ (by simp);refine⟨⟨⟨⟨.mk 6 0 0 ⟨some (ad K.heap.size),1,1⟩ [u],rfl,?_,E.getD 1,Dt (λb e=>?_) (λb e=>bp h.fr.size (q b e))⟩,F⟩,E.get 0⟩,E.fr⟩
    .rw [<-d,<-G];rfl
    .simp only[aN,aE,aZ,a2]at e;rw[e];exact A.fr.size
  |false=>
   dsimp only at d y;cases k:pM l n C with
   |none=>rw[k]at d;cases d
   |some L=>
    obtain⟨a,z⟩:=L;rw[k]at d;refine aV rfl ?_;refine h.hY (N.atom f C P a z k y h.fO) ?_;rintro _ K ⟨⟨u,rfl,G,I,q⟩,F⟩ _ D;have A:=D (.tree u) I λb e=>q b (a4.1 e);refine⟨_,_,_,u.s,rfl,A.ay λQ Y p=>p.af λM t=>?_⟩;exact IH o m f w x i n u v Q M z (by rw[G];exact d) F (λb e=>bp h.fr.size (q b e)) t
def IP(x:i2 l)(t:l.length<=1000000)(H:∀m,m<=n->lW s l m)(j:Nat)(w:J)(m:List Rx)(o:bD):∀(f:Nat),f<=n->∀(d:List I) (k:Sl) (A:J) (p:bD),u9 l f (I.aq d) p=some (m,o)->p.1<l.length->d.length+f<=1000000->(∀b∈I.a8 d,w.heap.size<=b)->
  O (·=j) w A [cI j s p,.row aH 4 k (d.flatMap I.c)] [cN s l,.trees d]->
  uE.L1 (ad j) k A (SA j s w (λr w'=>(∃(k:Sl) (a:List I),r=ae k.v/\I.aq a=m/\(bE k a).P w'/\∀b∈(bE k a).fp,w.heap.size<=b)/\o.1<l.length) o)
 |0,_=>λd k A p e=>by unfold u9 at e;cases e
 |f+1,hf=>λd k A p e G ag E B=>by
  have af:=I.cb (B.get 1:aK _ _ _ _ _).a7;unfold u9 at e;refine uE.i1 _ _ _ _ (B.pS (pR B.fO G t [44]) ?_);have y:=qW x G [44] (by decide);rintro _ w2 rfl h _;refine⟨_,rfl,?_⟩;cases W:eD l [44] p with
  |mk ab L=>
   rw[W]at e h y;cases ab with
   |true=>
    dsimp only at e y;cases D:kH l f L with
    |none=>rw[D]at e;cases e
    |some ac=>
     obtain⟨a,z⟩:=ac;rw[D]at e;refine aT rfl ?_;refine h.pS ((H f (by omega)).expr j L w2 a z D y h.fO) ?_;rintro _ M ⟨⟨u,rfl,Y,Z,F⟩,V⟩ _ Q;have C:=Q (.tree u) Z λb g=>F b (a4.1 g);have C:O (·=j) w M [cI j s z,.row aH 4 k (d.flatMap I.c)] [cN s l,.trees d,.tree u]:=C;refine⟨_,_,_,u.s,rfl,C.wM 1 kF (xs:=d.flatMap I.c) rfl (λK N S _ _=>?_) (by omega)⟩;have T:O (·=j) w N [cI j s z,.row aH 4 K ((d++[u]).flatMap I.c)] [cN s l,.trees (d++[u])]:=by rw[lj];exact(S.qQ 1 2).forget _ (by simp)
     refine IP x t H j w m o f (by omega) (d++[u]) K N z ?_ V (by simp;omega) (r7 E λb g=>bp h.fr.size (F b g)) T;rw[jK];have:I.aq [u]=[a]:=by simp[I.aq,Y]
     rw[this];exact e
   |false=>
    dsimp only at e y;simp only[e0,eQ]at e;obtain⟨rfl,rfl⟩:=e;refine aV rfl ?_;refine h.pS (ue h.fO y t [41]) ?_;rintro _ M rfl q _;refine⟨rfl,⟨⟨⟨k,d,rfl,rfl,dd.2 ⟨(q.get 1:aK _ _ _ _ _).a7,q.getD 1⟩,λb g=>?_⟩,vj x y [41] (by decide)⟩,q.get 0⟩,q.fr⟩;rcases lB.1 g with g|g
    .exact (q.new _ (aB (i:=1) rfl) b (gh g)).resolve_right (yB q 0 rfl (gh g))
    .exact E b g
def UX(p:i2 l)(o:l.length<=1000000)(hn:n<=100000)(F:∀m,m<=n->lW s l m)(j:Nat)(x:bD)(w:J)(m:List Rx)(i:bD)(f:qh l (n+1) x=some (m,i))(hi:x.1<l.length)(H:iu j s l x w):
  aj U Cs #[.pointer (some (ad j))] w (SA j s w (λr B=>(∃(k:Sl) (a:List I),r=ae k.v/\I.aq a=m/\(bE k a).P B/\∀b∈(bE k a).fp,w.heap.size<=b)/\i.1<l.length) i):=by
 unfold qh at f;refine uE.ok _ w _ (H.pS (ue H hi o [40]) ?_);have E:=vj p hi [40] (by decide);rintro _ w1 rfl C _;refine⟨rfl,C.pS (pR C.fO E o [41]) ?_⟩;have h:=qW p E [41] (by decide);rintro _ A rfl e _;cases V:eD l [41] (j6 l [40] x)with
 |mk G q=>
  rw[V]at f e h;have none_:some (([]:List Rx),q)=some (m,i)->uE.S0 A (SA j s w (λr B=>(∃(k:Sl) (a:List I),r=ae k.v/\I.aq a=m/\(bE k a).P B/\∀b∈(bE k a).fp,w.heap.size<=b)/\i.1<l.length) i):=by
   intro f;simp only[e0,eQ]at f;obtain⟨rfl,rfl⟩:=f;refine⟨⟨⟨⟨⟨none,0,0⟩,[],rfl,rfl,dd.2 ⟨br.nil 4 A,by unfold I.Ps;trivial⟩,λb d=>?_⟩,h⟩,e.get 0⟩,e.fr⟩;rcases lB.1 d with d|d
   .simp [I.row,En.a7]at d
   .unfold I.a8 at d;cases d
  refine⟨_,rfl,q.2,e.ld 0 2,bh (λd=>none_ (by simpa[d]using f)) (λd=>bh (λg=>none_ (by have g:G=true:=g;simpa[g]using f)) (λg=>?_))⟩
  have g:G=false:=g;simp only[d,g,Bool.or_false,cond_false]at f;cases y:kH l n q with
  |none=>rw[y]at f;cases f
  |some aa=>
   obtain⟨a,z⟩:=aa;rw[y]at f;refine e.pS ((F n (be _)).expr j q A a z y h e.fO) ?_;rintro _ Z ⟨⟨u,rfl,W,Y,D⟩,T⟩ _ L;have M:=L (.tree u) Y λb d=>D b (a4.1 d);refine⟨_,_,_,u.s,rfl,M.eK (n:=1) (sz:=4) (cs:=u.c) rfl (by decide) λK N=>?_⟩;have Q:O (·=j) w K [cI j s z,.row aH 4 ⟨some (ad Z.heap.size),1,1⟩ ([u].flatMap I.c)] [cN s l,.trees [u]]:=by
    have S:[u].flatMap I.c=u.c:=by simp
    rw[S];exact(N.um 1).forget _ (by simp)
   refine IP p o F j w m i n (be _) [u] _ K z ?_ T (by simp;omega) (λb d=>?_) Q
   .have:I.aq [u]=[a]:=by simp[I.aq,W]
    rw[this];exact f
   .obtain ⟨t,h,d⟩:=I.bK.1 d;simp at h;rw[h]at d;exact bp e.fr.size (D b d)
end
def tI:List aa:=[.string (ba (mz 0)),.string (ba (mz 1)),.string (ba (mz 2)),.string (ba (mz 3)),.string (ba (mz 4)),.string (ba (mz 5))]
def Qf{k:Nat}(d:k<6):tI[k]? =some (.string (ba (mz k))):=by
 have:k=0\/k=1\/k=2\/k=3\/k=4\/k=5:=by omega
 rcases this with rfl|rfl|rfl|rfl|rfl|rfl<;>rfl
def Qe{k:Nat}(d:k<6)(a:k≠2):mz k≠[]/\mz k≠[32]:=by
 have:k=0\/k=1\/k=2\/k=3\/k=4\/k=5:=by omega
 rcases this with rfl|rfl|rfl|rfl|rfl|rfl<;>first |exact absurd rfl a|exact⟨by decide,by decide⟩
def l9(k:Int)(b a:UInt8):I:=.mk k b a ⟨none,0,0⟩ []
def qi(k:Int)(b a:UInt8)(w:J):(l9 k b a).P w:=by unfold l9 I.P I.Ps;exact⟨br.nil 4 w,trivial⟩
def qj{k:Int}{lo hi:UInt8}{b:Nat}:¬b∈(l9 k lo hi).fp:=λd=>by
 unfold l9 I.fp I.a8 at d;rcases aL.1 d with d|d
 .simp [I.row,En.a7]at d
 .cases d
section
variable {s:Sl} {l:List du} {n:Nat}
def Q'(Q:i2 l)(ap:l.length<=1000000)(ih:lW s l n)(q:Nat)(d:bD)(w:J)(x:Rx)(D:bD)(i:pM l (n+1) d=some (x,D))(hi:d.1<l.length)(H:iu q s l d w):
  aj U Cq #[.pointer (some (ad q))] w (SA q s w (λr w'=>fF w x r w'/\D.1<l.length) D):=by
 let R:aC:=SA q s w (λr w'=>fF w x r w'/\D.1<l.length) D
 have loop:∀(f k:Nat) (t z:Nat) (A:J),f+k=6->k4 l d 6 0=k4 l d f k->(match k4 l d 6 0 with
   |some k=>bif Nat.ble k 2 then some (Rx.mk k 0 0 [],(d.1+1,d.2))else match qh l n (d.1+1,d.2)with
    |some (m,d)=>some (Rx.mk k 0 0 m,d)
    |none=>none
   |none=>let d:=j6 l [40] d
    bif d.2 then some (fh,d)else match kH l n d with
    |some (a,d)=>some (a,j6 l [41] d)
    |none=>none)=some (x,D)->O (·=q) w A [cI q s d,.g t,.c z tI fk] [cN s l]->
   nI.b5 (ad q) t 0 0 0 ⟨none,0,0⟩ ⟨some (ad z),6,6⟩ (k:Int) A R:=by
  intro f;induction f with
  |zero=>
   intro k t z A hk W i B;have aD:k4 l d 0 k=none:=by unfold k4;rfl
   rw[W,aD]at i;dsimp only at i;have ac:=vj Q hi [40] (by decide);refine nI.dy _ _ _ _ _ _ _ _ _ _ (aV (aP (by omega)) (B.hY (ue B.fO hi ap [40]) ?_));rintro _ v rfl e _;generalize j6 l [40] d=iU at i ac e;refine⟨rfl,iU.2,e.ld 0 2,bh (λo=>?_) (λo=>?_)⟩
   .rw [o]at i;simp only[cond_true,e0,eQ]at i;obtain⟨rfl,rfl⟩:=i;exact e.af λN h=>⟨⟨⟨⟨bV,rfl,rfl,j8 _,λb o=>(j9 o).elim⟩,ac⟩,h.get 0⟩,h.fr⟩
   .rw [o]at i;dsimp only[cond_false]at i;cases E:kH l n iU with
    |none=>rw[E]at i;cases i
    |some ae=>
     obtain⟨a,Y⟩:=ae;rw[E]at i;simp only[e0,eQ]at i;obtain⟨rfl,rfl⟩:=i;refine e.hY (ih.expr q iU v a Y E ac e.fO) ?_;rintro _ N ⟨⟨u,rfl,hu,pu,fu⟩,T⟩ _ F3;have h:=F3 (.tree u) pu λb o=>fu b (a4.1 o);refine⟨_,_,_,u.s,rfl,h.ay λb6 w4 j=>j.af λw5 y=>?_⟩;have y:O (·=q) w w5 (cI q s Y::[.g t,.c z tI fk,.g b6]) [cN s l,.tree u]:=y;refine y.hY (ue y.fO T ap [41]) ?_;rintro _ w6 rfl Z _;exact⟨rfl,Z.af λw7 F=>⟨⟨⟨⟨u,rfl,hu,F.getD 1,λb o=>bp e.fr.size (fu b o)⟩,vj Q T [41] (by decide)⟩,F.get 0⟩,F.fr⟩⟩
  |succ f aF=>
   intro k t z A hk W i B;have next:k4 l d (f+1) k=k4 l d f (k+1)->∀v,O (·=q) w v [cI q s d,.g t,.c z tI fk] [cN s l]->nI.bA (ad q) t 0 0 0 ⟨none,0,0⟩ ⟨some (ad z),6,6⟩ (k:Int) v R:=by intro M v e;show nI.b5 _ _ _ _ _ _ _ _ _ _;rw[bw _ (by omega)];exact aF (k+1) t z v (by omega) (by rw[W,M]) i e
   refine nI.dy _ _ _ _ _ _ _ _ _ _ (aT (aM (by omega)) (ax (λL=>B.af λv e=>next (by
    have:k=2:=by omega
    subst this;conv=>lhs;unfold k4
    rfl) v e) (λL=>⟨by omega,by show(k:Int)<((6:Nat):Int);omega,?_⟩)))
   have L:k≠2:=by omega
   have ak:bG k 2=false:=by
    cases C:bG k 2 with
    |false=>rfl
    |true=>exact absurd (Nat.eq_of_beq_eq_true C) L
   refine ka (B.af λv e=>?_);rw[bZ,Nat.mul_one];refine⟨ba (mz k),e.ld 2 k rfl (Qf (by omega)),e.av (AR e.fO hi) ?_⟩;rintro _ N rfl h;refine⟨_,rfl,h.ld 2 k rfl (Qf (by omega)),?_⟩;rw[rC];refine ey (λV=>next (by
    conv=>lhs;unfold k4
    rw[ak,V];rfl) N h) (λV=>?_)
   have an:=eq_of_beq V;have aE:k4 l d 6 0=some k:=by
    rw[W];conv=>lhs;unfold k4
    rw[ak,V];rfl
   rw[aE]at i;dsimp only at i;have S:d.1+1<l.length:=by
    refine IV Q hi (by rw[an];exact(Qe (by omega) L).1) ?_;cases o:d.2 with
    |false=>rfl
    |true=>
     exfalso;refine(Qe (k:=k) (by omega) L).2 ?_;rw[<-an];unfold eX;rw[o];rfl
   refine⟨(d.1:Int),h.ld 0 1,?_⟩;rw[bw _ (by omega)];refine h.O7 0 1 rfl λw4 j=>?_;have j:O (·=q) w w4 [cI q s (d.1+1,d.2),.g t,.c z tI fk] [cN s l]:=j;refine j.ay λaA w5 y=>aS (λar=>?_) (λar=>?_)
   .have ab:Nat.ble k 2=false:=by
     cases C:Nat.ble k 2 with
     |false=>rfl
     |true=>have:=Nat.le_of_ble_eq_true C;omega
    rw[ab]at i;dsimp only[cond_false]at i;cases E:qh l n (d.1+1,d.2)with
    |none=>rw[E]at i;cases i
    |some ae=>
     obtain⟨m,Y⟩:=ae;rw[E]at i;simp only[e0,eQ]at i;obtain⟨M,rfl⟩:=i;refine y.af λw9 K=>?_;have K:O (·=q) w w9 (cI q s (d.1+1,d.2)::[.g t,.c z tI fk,.g aA]) [cN s l]:=K;refine K.hY (ih.kids q (d.1+1,d.2) w9 m Y E S K.fO) ?_;rintro _ aI ⟨⟨sl,a,rfl,ha,pa,fa⟩,T⟩ _ ao;have aq:=ao (.tree (bE sl a)) pa λb o=>fa b (a4.1 o);refine⟨sl,rfl,aq.af λaH aw=>aw.af λaz al=>?_⟩;refine⟨⟨⟨⟨.mk k 0 0 sl a,rfl,?_,?_,λb o=>?_⟩,T⟩,al.get 0⟩,al.fr⟩
     .rw [<-M,<-ha];rfl
     .have:=dd.1 (show(bE sl a).P az from al.getD 1);unfold I.P;exact this
     .refine bp K.fr.size (fa b ?_);unfold I.fp at o;unfold bE I.fp;exact o
   .have ab:Nat.ble k 2=true:=Nat.ble_eq_true_of_le (by omega);rw[ab]at i;simp only[cond_true,e0,eQ]at i;obtain⟨M,rfl⟩:=i;refine y.af λw6 Z=>Z.af λw7 F=>⟨⟨⟨⟨l9 k 0 0,rfl,?_,qi _ _ _ _,λb o=>(qj o).elim⟩,S⟩,F.get 0⟩,F.fr⟩;rw[<-M];rfl
 have s0:∀(t:Nat) (A:J),(!d.2&&bG (fj l d.1).k 2)=false->O (·=q) w A [cI q s d,.g t] [cN s l]->nI.aX (ad q) t 0 0 0 ⟨none,0,0⟩ A R:=by
  intro t A hq B;unfold pM at i;rw[hq]at i;dsimp only[cond_false]at i;try dsimp only[nI.aX,ai]
  refine B.nw λv _ e=>?_;exact loop 6 0 t A.heap.size v (by omega) rfl i e
 refine nI.au _ w _ (H.ay λt A B=>B.af λv e=>⟨d.2,e.ld 0 2,ey (λo=>?_) (λo=>s0 t v (by rw[o];rfl) e)⟩);have hn:=v9 (e.getD 0:br _ _ _ _);refine⟨s,e.ld 0 0,(d.1:Int),e.ld 0 1,by omega,by omega,v' (e.getD 0) hi λp hp c=>⟨((fj l d.1).k:Int),?_,ax (λG=>?_) (λG=>s0 t v (by
  have:bG (fj l d.1).k 2=false:=by
   cases C:bG (fj l d.1).k 2 with
   |false=>rfl
   |true=>have:=Nat.eq_of_beq_eq_true C;omega
  rw[this];simp) e)⟩⟩
 .rw [bZ,iz];exact c.c2
 have G:(fj l d.1).k=2:=by omega
 have S:d.1+1<l.length:=by
  rcases Nat.lt_or_ge (d.1+1) l.length with C|C
  .exact C
  .exfalso;have aB:d.1=l.length - 1:=by omega
   rw[aB,Q.2.2]at G;cases G
 refine⟨(d.1:Int),e.ld 0 1,?_⟩;rw[bw _ (by omega)];refine e.O7 0 1 rfl λN h=>?_;have h:O (·=q) w N [cI q s (d.1+1,d.2),.g t] [cN s l]:=h;refine h.af λw4 j=>⟨s,j.ld 0 0,((d.1+1:Nat):Int),j.ld 0 1,?_⟩;have em:aG .i64 (((d.1+1:Nat):Int) - 1)=(d.1:Int):=by rw[bm _ (by omega)];omega
 rw[em];unfold pM at i;rw[o,G]at i;have i:some (Rx.mk 2 (fj l d.1).lo (fj l d.1).hi [],(d.1+1,false))=some (x,D):=i;simp only[e0,eQ]at i;obtain⟨i,am⟩:=i;refine⟨by omega,by omega,v' (j.getD 0) hi λp hp c=>⟨2,(fj l d.1).lo.toNat,(fj l d.1).hi.toNat,⟨none,0,0⟩,?_,?_,?_,?_,j.af λw5 y=>⟨⟨⟨⟨l9 2 (fj l d.1).lo (fj l d.1).hi,rfl,i,qi _ _ _ _,λb o=>(qj o).elim⟩,by rw[<-am];exact S⟩,?_⟩,y.fr⟩⟩⟩
 .rw [bZ,iz,c.c2,G];rfl
 .rw [bZ,add_add];exact c.c3
 .rw [bZ,add_add];exact c.c4
 .rw [bZ,add_add];exact c.c5
 .have:=y.get 0;rw[<-am,<-o];exact this
def Mq(g:i2 l)(f:l.length<=1000000):∀n:Nat,n<=100000->∀m,m<=n->lW s l m
 |0,_=>λm i=>by
  have:m=0:=by omega
  subst this;exact⟨λc d e h b a=>(by unfold kH at a;cases a),λc d e h b a=>(by unfold nF at a;cases a),λc d e h b a=>(by unfold oc at a;cases a),λc d e h b a=>(by unfold l8 at a;cases a),λc d e h b a=>(by unfold pM at a;cases a),λc d e h b a=>(by unfold qh at a;cases a)⟩
 |n+1,x=>λm i=>by
  have q:=Mq g f n (by omega);rcases Nat.lt_or_ge m (n+1)with w|w
  .exact q m (by omega)
  have:m=n+1:=by omega
  subst this;exact⟨λc d e h b a k j=>TC g f (by omega) q c d e h b a k j,λc d e h b a k j=>SU g f (by omega) q c d e h b a k j,λc d e h b a k j=>Yn g f (by omega) q c d e h b a k j,λc d e h b a k j=>UO g f (q n (be _)) c d e h b a k j,λc d e h b a k j=>Q' g f (q n (be _)) c d e h b a k j,λc d e h b a k j=>UX g f (by omega) q c d e h b a k j⟩
end
def _root_.Go.W.O.perm{M:Nat->Prop}{w0 w:J}{L h D:List En}(H:O M w0 w L D)(e:L.Perm h):O M w0 w h D:=
 ⟨H.fr,λd a=>H.own d (e.mem_iff.2 a),H.rd,λd a=>H.new d (e.mem_iff.2 a),(e.flatMap_right (·.fp)).nodup_iff.1 H.nd,λd a b f j c=>H.dj d a b f j (e.mem_iff.2 c)⟩
def EN(s:BL):∀(f i:Nat),s.length<f+i->∃init,om s f i=init++[⟨[],s.length,0,0,0⟩]/\init.length+i<=max i s.length
 |0,i,h=>⟨[],rfl,by simp;omega⟩
 |f+1,i,h=>by
  unfold om;split
  .exact ⟨[],rfl,by simp;omega⟩
  .split
   .obtain ⟨init,d,j⟩:=EN s f (i+1) (by omega);exact⟨init,d,by omega⟩
   .simp only;have q:=Nv s i;have w:=Oi s i s.length 1 (by omega);generalize jJ s i=g at q;generalize m8 s i s.length 1=e at w;have k:1<=(if g.n=0 then e else g.n)/\i+(if g.n=0 then e else g.n)<=s.length:=by split<;>omega
    generalize(if g.n=0 then e else g.n)=n at k;obtain⟨init,d,j⟩:=EN s f (i+n) (by omega);exact⟨_::init,by rw[d];rfl,by simp only[cT];omega⟩
def ZB(s:BL):i2 (mr s)/\(mr s).length<=s.length+1:=by
 obtain⟨init,j,k⟩:=EN s (s.length+1) 0 (by omega);have h:mr s=init++[⟨[],s.length,0,0,0⟩]:=j;rw[h];have d:(init++[(⟨[],s.length,0,0,0⟩:du)]).length=init.length+1:=by simp
 have e:fj (init++[(⟨[],s.length,0,0,0⟩:du)]) init.length=⟨[],s.length,0,0,0⟩:=by unfold fj;simp[List.getD_eq_getElem?_getD]
 refine⟨⟨by omega,?_,?_⟩,by omega⟩
 .rw [d,Nat.add_sub_cancel,e]
 .rw [d,Nat.add_sub_cancel,e]
def QB(w:J)(x:Rx)(a:Nat)(e:Int)(r:cA)(c:J):Prop:=∃t:I,r=ae (.tuple #[t.v,.i (a:Int),.i e])/\t.rx=x/\t.P c/\∀b∈t.fp,w.heap.size<=b
def R8(s:ByteArray)(hs:s.size<=100000)(x:Rx)(a:Nat)(e:Int)(d:sN (bl s)=some (x,a,e))(w:J):aj U JM #[.string s] w λr Q=>QB w x a e r Q/\ah w Q:=by
 have hl:(bl s).length=s.size:=c9 s;obtain⟨k,hlen⟩:=ZB (bl s);unfold sN at d;refine Hr.au _ w _ ((bO [] (by simp)).ay λV w1 v=>aS (λf=>v.af λw2 Z=>?_) (λf=>v.gY (RF s hs w1) ?_))
 .rw [ag (by omega)]at d;simp only[e0,eQ]at d;obtain⟨rfl,rfl,rfl⟩:=d;exact⟨⟨bV,rfl,rfl,j8 _,λb f=>(j9 f).elim⟩,Z.fr⟩
 rw[ab (by omega)]at d;generalize mr (bl s)=l at d k hlen;dsimp only at d;rintro _ E ⟨h,rfl,ho,hf⟩ _ W;have H6:=W.rd (cN h l) ho.a7 (o9 hf);cases B:kH l 1000 (0,false)with
 |none=>rw[B]at d;cases d
 |some al=>
  obtain⟨N,D⟩:=al;rw[B]at d;dsimp only at d;refine⟨h,rfl,H6.nw λT _ n=>?_⟩;have n:O F0 w T (cI E.heap.size h (0,false)::[.g V]) [cN h l]:=n.perm (List.Perm.swap _ _ _);refine n.hY ((Mq k (by omega) 1000 (by omega) 1000 (be _)).expr E.heap.size (0,false) T N D B k.1 n.fO) ?_;rintro _ w8 ⟨⟨u,rfl,M,pu,G⟩,H⟩ _ Y;have H8:=Y (.tree u) pu λb f=>G b (a4.1 f);refine⟨_,_,_,u.s,rfl,H8.ay λb6 w9 H9=>H9.af λad q=>?_⟩;have q:O F0 w ad (cI E.heap.size h D::[.g V,.g b6]) [cN h l,.tree u]:=q;refine q.hY (ue q.fO H (by omega) []) ?_;have A:=vj k H [] (by decide);rintro _ S rfl j _;generalize j6 l [] D=qS at d A j;refine⟨rfl,qS.2,j.ld 0 2,bh (λo=>j.af λan i=>?_) (λo=>?_)⟩
  .rw [ag o]at d;simp only[e0,eQ]at d;obtain⟨rfl,rfl,rfl⟩:=d;have hn:=v9 (i.getD 0:br _ _ _ _);refine⟨h,i.ld 0 0,(qS.1:Int),i.ld 0 1,by omega,by omega,v' (i.getD 0) A λp hp c=>⟨((fj l qS.1).at_:Int),?_,i.af λae y=>⟨?_,y.ld 0 1,y.ld 0 0,⟨bV,rfl,rfl,j8 _,λb f=>(j9 f).elim⟩,y.fr⟩⟩⟩
   .rw [bZ];exact c.c1
   .rw [bZ];have:=v' (y.getD 0) A (K:=λz=>∃C,h.a=some C/\z=C/\Fw ae C qS.1 (fj l qS.1)) (λz L t=>⟨z,L,rfl,t⟩);rw[hp]at this;obtain⟨z,L,rfl,t⟩:=this;exact t.c1
  .rw [ab (by rw[o];simp)]at d;have ak:u.P S:=j.getD 1;have am:N.sz=u.sz:=by rw[<-M,I.dR]
   by_cases ai:u.sz<=1000000
   .rw [ab (by omega)]at d;refine j.av (AF u S ai ak) ?_;rintro _ ao rfl F;refine⟨_,rfl,aS (λaa=>F.af λac m=>?_) (λaa=>F.af λac m=>?_)⟩
    .rw [ag (by omega)]at d;simp only[e0,eQ]at d;obtain⟨rfl,rfl,rfl⟩:=d;exact⟨⟨bV,rfl,rfl,j8 _,λb f=>(j9 f).elim⟩,m.fr⟩
    .rw [ab (by omega)]at d;simp only[e0,eQ]at d;obtain⟨rfl,rfl,rfl⟩:=d;exact⟨⟨u,rfl,M,m.getD 1,λb f=>bp n.fr.size (G b f)⟩,m.fr⟩
   .rw [ag (by omega)]at d;cases d
def b7(a b:BL):ba a++ba b=ba (a++b):=by apply ByteArray.ext;rw[ByteArray.data_append];simp[ba]
def oH{w:J}{b n:Nat}{cs:List aa}{T:aD}(d:w.heap[b]? =some (.cells cs.toArray T (0,0)))(c:n=cs.length):Rd w ⟨some (ad b),n,n⟩ cs:=
 DU (s:=⟨some (ad b),n,n⟩) c (be _) (λd=>by cases d) λi v a=>⟨ad b,rfl,cellAt (p:=ad b) d rfl (by simpa using a)⟩
def Gx(c:UInt8)(w:J):aj U JV #[.int .u8 (c.toNat:Int)] w λr a=>r=ae (.bool (ec c))/\ah w a:=by
 refine Hw.ok _ w _ (aS (λd=>⟨?_,Fr.refl _ _⟩) (λd=>⟨?_,Fr.refl _ _⟩))
 .unfold ec;rw[aM (show 97<=c.toNat by omega),Bool.true_and,show ao ((c.toNat:Int)<=122)=ao (c.toNat<=122)from decide_eq_decide.2 (by omega)]
 .unfold ec;rw[aP (show ¬97<=c.toNat by omega),Bool.false_and]
def AN(c:UInt8)(w:J):aj U JJ #[.int .u8 (c.toNat:Int)] w λr g=>r=ae (.string (ba (dh c)))/\ah w g:=by
 have E:=c.toNat_lt;have x:O F0 w w [] []:=bO [] (by simp);refine Hn.ok _ w _ (x.call (Gy c w) ?_);rintro _ q rfl k;refine⟨_,rfl,bh (λd=>?_) (λd=>?_)⟩
 .refine k.sI (λe _ a b=>?_);have D:((39:UInt8).toNat:Int)=39:=rfl;have h:Bytes e ⟨some (ad q.heap.size),3,3⟩ [39,c,39]:=oH (T:=g7) b rfl;have j:=rE h;refine⟨ba [39,c,39],j,?_,a.fr⟩;unfold dh;rw[ag d]
 .have z:aG .i64 (c.toNat:Int)=(c.toNat:Int):=bm _ (by omega);have A:aG .i64 (Int.tdiv (c.toNat:Int) 16)=((c.toNat / 16:Nat):Int):=by rw[Int.tdiv_eq_ediv_of_nonneg (by omega),bm _ (by omega)];omega
  have B:Int.tmod (c.toNat:Int) 16=((c.toNat%16:Nat):Int):=by rw[Int.tmod_eq_emod_of_nonneg (by omega)];omega
  rw[z,A,B];refine k.call (AQ (c.toNat / 16) (by omega) q) ?_;rintro _ e rfl a;refine⟨_,rfl,a.call (AQ (c.toNat%16) (by omega) e) ?_⟩;rintro _ C rfl y;refine⟨_,rfl,y.sI (λi _ f b=>?_)⟩;have h:Bytes i ⟨some (ad C.heap.size),4,4⟩ [92,120,h0 (c.toNat / 16),h0 (c.toNat%16)]:=oH (T:=g7) b rfl;have j:=rE h;refine⟨ba [92,120,h0 (c.toNat / 16),h0 (c.toNat%16)],j,?_,f.fr⟩;unfold dh;rw[ab (by rw[d];simp)]
abbrev lE(s:Sl)(l:List Nd)(d:Nd):List En:=[.gr s l,cg d]
def u2{w:J}{s:Sl}{l:List Nd}{d:Nd}(h:GP w s l)(a:d.P w):O F0 w w [] (lE s l d):=bO _ (by
 intro j e;simp only[aE,aZ,a2]at e;rcases e with rfl|rfl
 .exact bc.2 h
 .exact a)
def Rv{w:J}{s:Sl}{l:List Int}(e:bW w s l)(c:l.length<=1000000000000)(n:Int):aj U JI #[s.v,.i n] w λr a=>r=ae (.bool (ao (n∈l)))/\ah w a:=by
 have z:=bW.len e;have loop:∀(d i:Nat),i+d=l.length->(n∈l↔n∈l.drop i)->uy.L0 s n (i:Int) w λr a=>r=ae (.bool (ao (n∈l)))/\ah w a:=by
  intro d;induction d with
  |zero=>
   intro i q h;rw[de (by omega)]at h;exact uy.cU _ _ _ _ _ (aV (aP (by omega)) ⟨by rw[aP (λe=>by have:=h.1 e;simp at this)],Fr.refl _ _⟩)
  |succ d y=>
   intro i q h;have k:l[i]? =some (l[i]'(by omega)):=a5 (by omega);rw[dk (by omega:i<l.length),aE]at h;generalize l[i]'(by omega)=x at k h;refine uy.cU _ _ _ _ _ (aT (aM (by omega)) ⟨by omega,by omega,e.cell k (by omega) λp f b=>⟨x,b,ax (λj=>⟨?_,Fr.refl _ _⟩) (λj=>?_)⟩⟩)
   .rw [aM (h.2 (.inl j.symm))]
   .rw [bw _ (by omega)];exact y (i+1) (by omega) (h.trans ⟨λe=>e.resolve_left (λe=>j e.symm),.inr⟩)
 exact uy.ok _ _ w _ (loop l.length 0 (by omega) (by simp))
def Gn{w:J}{s:Sl}{l:List Int}(d:bW w s l)(a:l.length<=1000000000000)(n:Int):aj U Kj #[s.v,.i n] w λr b=>r=ae (.bool (ao (n∈l)))/\ah w b:=by refine HK.ok _ _ w _ ((Rv d a n).mono ?_);rintro _ e ⟨rfl,f⟩;exact⟨_,rfl,rfl,f⟩
def Az{w:J}{b n:Nat}{l:List Int}{T:aD}(d:w.heap[b]? =some (.cells (l.map ct).toArray T (0,0)))(a:n=l.length):bW w ⟨some (ad b),n,n⟩ l:=
 oH d (by simpa using a)
def eF:Nat:=1000000000
def H7(a:Int):(ao (a∈[(21:Int),22,23,28])=lq a)/\(ao (a∈[(0:Int),2,33])=lr a):=by
 constructor
 .unfold lq;by_cases d:a=21
  .subst d;rfl
  by_cases e:a=22
  .subst e;rfl
  by_cases h:a=23
  .subst h;rfl
  by_cases j:a=28
  .subst j;rfl
  simp[d,e,h,j]
 .unfold lr;by_cases d:a=0
  .subst d;rfl
  by_cases e:a=2
  .subst e;rfl
  by_cases h:a=33
  .subst h;rfl
  simp[d,e,h]
def Tu(t:ByteArray):(t.toList==(bj #[]).toList)=ao (t=ba []):=wg _ _
def WN{n:Nx}{A B:Prop}(j:bq (hq n) B A):∀a b:Bool,a=lq n.op->b=lr n.op->
  let e:=bq (!b) (bq (!(n.tx.toList==(bj #[]).toList)) A B) B
  let h:=bq (n.op !=1) (bq (n.u !=0) A e) e
  let d:=bq (n.op !=21) (bq (n.m !=0) A h) h
  bq (!a) (bq (n.n !=0) A d) d:=by rintro a b rfl rfl;dsimp only;rw[Tu];unfold hq at j;have k:(n.op !=1)= !(n.op==1):=rfl;have q:(n.op !=21)= !(n.op==21):=rfl;have w:(n.n !=0)= !(n.n==0):=rfl;have x:(n.m !=0)= !(n.m==0):=rfl;have y:(n.u !=0)= !(n.u==0):=rfl;rw[k,q,w,x,y];generalize(n.op==1)=p1 at *;generalize(n.op==21)=p2 at *;generalize(n.n==0)=p3 at *;generalize(n.m==0)=p4 at *;generalize(n.u==0)=p5 at *;generalize ao (n.tx=ba [])=p6 at *;generalize lq n.op=p7 at *;generalize lr n.op=p8 at *;cases p1<;>cases p2<;>cases p3<;>cases p4<;>cases p5<;>cases p6<;>cases p7<;>cases p8<;>exact j
def mR(g:List Nx)(n:Nx):Int:=if(cl n.op==(n.kids.length:Int)&&n.kids.all (eu g)&&hq n)=true then 0 else 1
def RQ{w:J}{s:Sl}{l:List Nd}{d:Nd}(h:GP w s l)(t:d.P w)(T:d.x.kids.length<=eF):aj U Kg #[s.v,d.v] w λr B=>r=ae (.i (mR (xs l) d.x))/\ah w B:=by
 have hn:=h6 h;have E:d.ks.n=d.x.kids.length:=bW.len t;have G:(xs l).length=l.length:=by simp[xs]
 unfold eF at T;have loop:∀(m i:Nat) (c:Nat) (a:J),i+m=d.x.kids.length->(cl d.x.op==(d.x.kids.length:Int))=true->(d.x.kids.all (eu (xs l))=(d.x.kids.drop i).all (eu (xs l)))->O F0 w a [.g c] (lE s l d)->
   uI.a0 s c d.x.op d.ks d.x.n d.x.m d.x.u d.x.tx d.x.st.k d.x.st.n d.x.st.x (i:Int) a λr B=>r=ae (.i (mR (xs l) d.x))/\ah w B:=by
  intro m;induction m with
  |zero=>
   intro i c a S A e j;rw[de (by omega)]at e;refine uI.bJ _ _ _ _ _ _ _ _ _ _ _ _ _ _ (aV (aP (by omega)) (j.nw λI _ y=>y.av (Gn (l:=[21,22,23,28]) (Az (n:=4) (y.ob 1) rfl) (by decide) d.x.op) ?_));rintro _ H rfl q;refine⟨_,rfl,q.nw λw4 _ o=>o.av (Gn (l:=[0,2,33]) (Az (n:=3) (o.ob 2) rfl) (by decide) d.x.op) ?_⟩;rintro _ w5 rfl C;refine⟨_,rfl,?_⟩;have D:∀b:Bool,hq d.x=b->mR (xs l) d.x=if b=true then 0 else 1:=λb N=>by unfold mR;rw[A,e,N];rfl
   exact WN (n:=d.x) (bh (λh=>⟨by rw[D _ h];rfl,C.fr⟩) (λh=>⟨by rw[D _ h];rfl,C.fr⟩)) _ _ (H7 d.x.op).1 (H7 d.x.op).2
  |succ m W=>
   intro i c a S A e j;have z:d.x.kids[i]? =some (d.x.kids[i]'(by omega)):=a5 (by omega);rw[dk (by omega:i<d.x.kids.length),List.all_cons]at e;generalize d.x.kids[i]'(by omega)=x at z e;have bad:eu (xs l) x=false->(Ending.returned (.i 1)=ae (.i (mR (xs l) d.x))/\ah w a):=λV=>⟨by unfold mR;rw[e,V];simp,j.fr⟩;have F:bW a d.ks d.x.kids:=j.getD 1;refine uI.bJ _ _ _ _ _ _ _ _ _ _ _ _ _ _ (aT (aM (by omega)) ⟨by omega,by omega,F.cell z (by omega) λp hp Q=>⟨x,Q,aS (λL=>bad ?_) (λL=>⟨by omega,by omega,F.cell z (by omega) λp' aa Y=>⟨x,Y,aS (λM=>bad ?_) (λM=>?_)⟩⟩)⟩⟩)
   .unfold eu;rw[aP (by omega)];rfl
   .unfold eu;rw[aP (show ¬x<((xs l).length:Int)by rw[G];omega)];simp
   .rw [bw _ (by omega)];refine W (i+1) c a (by omega) A ?_ j;rw[e];unfold eu;rw[aM (show 0<=x by omega),aM (show x<((xs l).length:Int)by rw[G];omega)];rfl
 refine uI.au _ _ _ _ _ _ _ _ _ _ w _ ((u2 h t).ay λc a K=>K.af λI y=>y.av (F8 d.x.op I) ?_);rintro _ H rfl q;refine⟨_,rfl,bY (λf=>⟨?_,q.fr⟩) (λZ=>?_)⟩
 .unfold mR;rw[beq_eq_false_iff_ne.2 (by rw[E]at f;exact f)];rfl
 .exact loop d.x.kids.length 0 c H (by omega) (by rw[Z,E];simp) (by simp) q
def wJ(g:List Nx):Prop:=∀d∈g,d.op=0->∀e∈g,e.op=0->d.tx=e.tx->d.st=e.st
def tA(n d:Nx):Bool:=ao (d.op=0/\d.tx=n.tx/\d.st≠n.st)
def EY{t:ByteArray}{s:aU}:∀{g:List Nx},g8 g t=some s->∃e∈g,e.op=0/\e.tx=t/\e.st=s
 |e::g,d=>by
  unfold g8 at d;split at d
  .rename_i h;exact⟨e,by simp,h.1,h.2,Option.some.inj d⟩
  .obtain ⟨j,k,d⟩:=EY d;exact⟨j,cH _ k,d⟩
def P9{t:ByteArray}:∀{g:List Nx},g8 g t=none->∀d∈g,d.op=0->d.tx≠t
 |a::g,e,d,h,j,k=>by
  unfold g8 at e;split at e
  .cases e
  .rename_i q;rcases aE.1 h with rfl|h
   .exact q ⟨j,k⟩
   .exact P9 e d h j k
def PQ{g:List Nx}(a:wJ g)(n:Nx):lL g n=g.any (tA n):=by
 unfold lL;cases q:g8 g n.tx with
 |none=>
  symm;rw[List.any_eq_false];intro e h d;have d:=eZ d;exact P9 q e h d.1 d.2.1
 |some s=>
  obtain⟨e,h,w,x,y⟩:=EY q;by_cases j:s=n.st
  .simp only[j,decide_true,Bool.not_true];symm;rw[List.any_eq_false];intro k z d;have d:=eZ d;exact d.2.2 ((a k z d.1 e h w (d.2.1.trans x.symm)).trans (y.trans j))
  .simp only[j,decide_false,Bool.not_false];symm;rw[List.any_eq_true];exact⟨e,h,aM ⟨w,x,λk=>j (y.symm.trans k)⟩⟩
def W'(n:Int)(a:0<=n)(b:n<64):aG .u64 (1 *2^(min (a1 n) (IntKind.bits .u64)))=((2^n.toNat:Nat):Int):=by
 have d:min (a1 n) (IntKind.bits .u64)=n.toNat:=by show min n.toNat 64=_;omega
 have e:(2:Nat)^n.toNat<=2^63:=Nat.pow_le_pow_right (by omega) (by omega);rw[d,Int.one_mul,show((2:Int)^n.toNat)=((2^n.toNat:Nat):Int)from by rw[Int.natCast_pow];rfl];generalize(2:Nat)^n.toNat=m at e;exact IntWalk.u64_in _ (by omega)
abbrev gk(x:aU×Int):cA:=ae (.tuple #[dq x.1,.i x.2])
def tE{s:aU}(d:bo s=true)(a:s.k=0):1<=s.n/\s.n<=64/\s.x=0:=by unfold bo at d;simp[a]at d;omega
def lN{s:aU}(d:bo s=true):0<=s.n/\s.n<=64/\0<=s.x/\s.x<=16/\0<=s.k/\s.k<=3:=by unfold bo at d;simp at d;omega
def R0{w:J}{s:Sl}{l:List Nd}{d:Nd}(h:GP w s l)(hd:d.P w)(hl:l.length<=eF)(h0:0<=d.x.op)(S:d.x.op<=3)(hv:wJ (xs l)):aj U Kk #[s.v,d.v] w λr c=>r=gk (bQ (xs l) d.x)/\ah w c:=by
 have hn:=h6 h;have am:(xs l).length=l.length:=by simp[xs]
 unfold eF at hl;have e0:d.x.op=0\/d.x.op=1\/d.x.op=2\/d.x.op=3:=by omega
 refine jz.au _ _ _ _ _ _ _ _ _ _ w _ ((u2 h hd).ay λq w1 H1=>H1.ay λj w2 N=>ax (λQ=>?_) (λQ=>?_))
 .refine aS (λhs=>N.af λG C=>⟨?_,C.fr⟩) (λhs=>N.av (nC _ w2) ?_)
  .unfold bQ;rw[ag Q,ag (by omega)];rfl
  .rintro _ G rfl C;refine⟨_,_,_,rfl,C.af λT H=>⟨?_,H.fr⟩⟩;unfold bQ;rw[ag Q,ab (by omega)]
 have A:bQ (xs l) d.x=if d.x.op=0/\h8 (bl d.x.tx)=false then(bg,6)else
   if bo d.x.st=false then(bg,9)else
   if d.x.op=1/\d.x.st.k≠0\/d.x.op=3/\dP d.x.st=false then(bg,9)else
   if d.x.op=1/\kB d.x.u d.x.st.n=true then(bg,5)else
   if d.x.op=0/\(xs l).any (tA d.x)=true then(bg,8)else(d.x.st,0):=by unfold bQ;rw[ab Q,PQ hv]
 have S0:∀(nm:Bool) (G:J),nm=(!decide (d.x.op=0)||h8 (bl d.x.tx))->O F0 w G [.g q,.g j] (lE s l d)->jz.aX s q d.x.op d.ks d.x.n d.x.m d.x.u d.x.tx d.x.st.k d.x.st.n d.x.st.x j 0 0 0 nm G λr c=>r=gk (bQ (xs l) d.x)/\ah w c:=by
  intro nm G K C;refine ey (λE=>C.af λT H=>⟨?_,H.fr⟩) (λz=>?_)
  .rw [E]at K;have K:=K.symm;simp only[Bool.or_eq_false_iff,Bool.not_eq_false',decide_eq_true_eq]at K;rw[A,ag K];rfl
  have ae:¬(d.x.op=0/\h8 (bl d.x.tx)=false):=λhc=>by rw[z,hc.2,aM hc.1]at K;simp at K
  rw[ab ae]at A;refine C.av (Xn d.x.st G) ?_;rintro _ T rfl H;refine⟨_,rfl,Ei (λE=>H.af λb o=>⟨?_,o.fr⟩) (λz=>?_)⟩
  .rw [A,ag E];unfold fy;rw[E];rfl
  rw[ab (by rw[z];simp)]at A;have loop:∀(m i:Nat) (b:J),i+m=l.length->bQ (xs l) d.x=(if d.x.op=0/\((xs l).drop i).any (tA d.x)=true then(bg,8)else(d.x.st,0))->O F0 w b [.g q,.g j] (lE s l d)->
    jz.hU s q d.x.op d.ks d.x.n d.x.m d.x.u d.x.tx d.x.st.k d.x.st.n d.x.st.x j 0 0 0 (i:Int) b λr c=>r=gk (bQ (xs l) d.x)/\ah w c:=by
   intro m;induction m with
   |zero=>
    intro i b hi B o;rw[de (by omega)]at B;refine jz.k8 _ _ _ _ _ _ _ _ _ _ _ _ _ _ _ _ _ _ (aV (aP (by omega)) (o.af λt f=>⟨?_,f.fr⟩));rw[B,ab (by simp)]
   |succ m ih=>
    intro i b hi B o;have M:l[i]? =some (l[i]'(by omega)):=a5 (by omega);have hx:(xs l).drop i=(l[i]'(by omega)).x::(xs l).drop (i+1):=by rw[dk (by omega:i<(xs l).length)];simp[xs]
    rw[hx,List.any_cons]at B;generalize l[i]'(by omega)=e at M B;have next:∀t,O F0 w t [.g q,.g j] (lE s l d)->(d.x.op=0->tA d.x e.x=false)->jz.jV s q d.x.op d.ks d.x.n d.x.m d.x.u d.x.tx d.x.st.k d.x.st.n d.x.st.x j 0 0 0 (i:Int) t λr c=>r=gk (bQ (xs l) d.x)/\ah w c:=by
     intro t f z;show jz.hU s q d.x.op d.ks d.x.n d.x.m d.x.u d.x.tx d.x.st.k d.x.st.n d.x.st.x j 0 0 0 (aG .i64 ((i:Int)+1)) t _;rw[bw _ (by omega)];refine ih (i+1) t (by omega) ?_ f;rw[B];by_cases L:d.x.op=0
     .rw [z L,Bool.false_or]
     .rw [ab (λh=>L h.1),ab (λh=>L h.1)]
    have G5:GP b s l:=bc.1 (o.getD 0);refine jz.k8 _ _ _ _ _ _ _ _ _ _ _ _ _ _ _ _ _ _ (aT (aM (by omega)) (ax (λL=>?_) (λL=>o.af λt f=>next t f (λh=>absurd h L))));refine e4 G5 rfl M λp Z _=>o.af λt f=>?_;have c6:=BI (bc.1 (f.getD 0)) M Z (rfl:((i:Int))=(i:Int));refine⟨_,c6.c0,ax (λI=>?_) (λI=>next t f λ_=>aP λh=>I h.1)⟩;refine e4 (bc.1 (f.getD 0)) rfl M λp1 ai aw=>⟨_,aw.c5,y6 (λz=>?_) (λz=>next t f λ_=>aP λh=>z h.2.1)⟩;refine e4 (bc.1 (f.getD 0)) rfl M λp2 bh W=>⟨_,_,_,W.s0,W.s1,W.s2,vP (λE=>f.af λw7 H7=>⟨?_,H7.fr⟩) (λad=>next t f λ_=>aP λh=>h.2.2 ad)⟩;rw[B,ag ⟨L,by rw[show tA d.x e.x=true from aM ⟨I,z,E⟩];rfl⟩];rfl
  have V:∀b:J,bQ (xs l) d.x=(if d.x.op=0/\(xs l).any (tA d.x)=true then(bg,8)else(d.x.st,0))->O F0 w b [.g q,.g j] (lE s l d)->
    jz.fG s q d.x.op d.ks d.x.n d.x.m d.x.u d.x.tx d.x.st.k d.x.st.n d.x.st.x j 0 0 0 b λr c=>r=gk (bQ (xs l) d.x)/\ah w c:=λb B o=>loop l.length 0 b (by omega) B o
  have S1:∀(a:Bool) (b:J),a=dP d.x.st->O F0 w b [.g q,.g j] (lE s l d)->jz.bb s q d.x.op d.ks d.x.n d.x.m d.x.u d.x.tx d.x.st.k d.x.st.n d.x.st.x j 0 0 0 a b λr c=>r=gk (bQ (xs l) d.x)/\ah w c:=by
   rintro a b rfl o;have bad:(d.x.op=1/\d.x.st.k≠0\/d.x.op=3/\dP d.x.st=false)->jz.bA j 0 0 0 b λr c=>r=gk (bQ (xs l) d.x)/\ah w c:=λy=>o.af λt f=>⟨by rw[A,ag y];rfl,f.fr⟩;have S3:¬(d.x.op=1/\d.x.st.k≠0\/d.x.op=3/\dP d.x.st=false)->jz.cv s q d.x.op d.ks d.x.n d.x.m d.x.u d.x.tx d.x.st.k d.x.st.n d.x.st.x j 0 0 0 b λr c=>r=gk (bQ (xs l) d.x)/\ah w c:=λy=>by
    rw[ab y]at A;refine ax (λD=>?_) (λD=>V b (by rw[A,ab (λh=>D h.1)]) o);have F:d.x.st.k=0:=by
     rcases Int.decEq d.x.st.k 0 with h|h
     .exact absurd (.inl ⟨D,h⟩) y
     .exact h
    obtain⟨v1,v2,_⟩:=tE z F;have ew:aG .u64 d.x.st.n=d.x.st.n:=IntWalk.u64_in _ (by omega);refine aS (λY=>⟨by rw[ew];omega,?_⟩) (λY=>V b (by rw[A,ab];rintro⟨_,y⟩;unfold kB at y;rw[aP (by omega)]at y;cases y) o);rw[ew,W' _ (by omega) Y];have Z:((2^d.x.st.n.toNat:Nat):Int)=(2:Int)^d.x.st.n.toNat:=by rw[Int.natCast_pow];rfl
    rw[Z];refine aS (λaq=>o.af λt f=>⟨?_,f.fr⟩) (λaq=>V b ?_ o)
    .rw [A,ag ⟨D,by unfold kB;rw[aM Y,aM aq];rfl⟩];rfl
    .rw [A,ab];rintro⟨_,y⟩;unfold kB at y;rw[aP (by omega:¬(2:Int)^d.x.st.n.toNat<=d.x.u),Bool.and_false]at y;cases y
   have ac:¬(d.x.op=1/\d.x.st.k≠0)->bq (d.x.op==3) (bq (!dP d.x.st) (jz.bA j 0 0 0 b λr c=>r=gk (bQ (xs l) d.x)/\ah w c) (jz.cv s q d.x.op d.ks d.x.n d.x.m d.x.u d.x.tx d.x.st.k d.x.st.n d.x.st.x j 0 0 0 b λr c=>r=gk (bQ (xs l) d.x)/\ah w c)) (jz.cv s q d.x.op d.ks d.x.n d.x.m d.x.u d.x.tx d.x.st.k d.x.st.n d.x.st.x j 0 0 0 b λr c=>r=gk (bQ (xs l) d.x)/\ah w c):=λF=>
    ax (λS=>ey (λE=>bad (.inr ⟨S,E⟩)) (λz=>S3 (by rintro(h|h);exact F h;rw[z]at h;cases h.2))) (λS=>S3 (by rintro(h|h);exact F h;exact S h.1))
   exact ax (λD=>bY (λF=>bad (.inl ⟨D,F⟩)) (λF=>ac (λh=>h.2 F))) (λD=>ac (λh=>D h.1))
  refine ax (λal=>S1 true T ?_ H) (λal=>S1 _ T ?_ H)
  .unfold dP;rw[al];rfl
  .unfold dP;rw[beq_eq_false_iff_ne.2 al];rfl
 refine bY (λI=>S0 true w2 ?_ N) (λI=>N.av (RA d.x.tx w2) ?_)
 .rw [aP I];rfl
 .rintro _ G rfl C;exact⟨_,rfl,S0 _ G (by rw[aM I];rfl) C⟩
def zC{s:aU}(w:(s.k=0/\1<=s.n/\s.n<=64/\s.x=0)\/(s.k=1/\0<=s.n/\s.n<=64/\s.x=0)\/(s.k=2/\1<=s.n/\s.n<=64/\1<=s.x/\s.x<=16)\/(s.k=3/\0<=s.n/\s.n<=64/\1<=s.x/\s.x<=16)):bo s=true:=by unfold bo;rcases w with⟨d,e,h,j⟩|⟨d,e,h,j⟩|⟨d,e,h,j,q⟩|⟨d,e,h,j,q⟩<;>simp[d,e,h,j]<;>simp[q]
def P8{s:aU}:bo s=true↔(s.k=0/\1<=s.n/\s.n<=64/\s.x=0)\/(s.k=1/\0<=s.n/\s.n<=64/\s.x=0)\/(s.k=2/\1<=s.n/\s.n<=64/\1<=s.x/\s.x<=16)\/(s.k=3/\0<=s.n/\s.n<=64/\1<=s.x/\s.x<=16):=by refine⟨λd=>?_,zC⟩;unfold bo at d;simp only[Bool.or_eq_true,a9,beq_iff_eq,decide_eq_true_eq]at d;omega
structure pJ(g:List Nx)(n:Nx):Prop where
 kl:cl n.op=(n.kids.length:Int)
 ki:∀k∈n.kids,0<=k/\k<(g.length:Int)
 ok:hq n=true
def ze{g:List Nx}{n:Nx}(e:(bF g n).2=0):pJ g n:=by
 unfold bF at e;split at e
 .cases e
 .rename_i d;simp only[Bool.and_eq_false_iff,not_or,Bool.not_eq_false,beq_iff_eq]at d;refine⟨d.1.1,λh a=>?_,d.2⟩;have:=List.all_eq_true.1 d.1.2 h a;unfold eu at this;simpa using this
def IQ{g:List Nx}{n:Nx}(c:∀h∈g,bo h.st=true)(b:∀e∈n.kids,0<=e/\e<(g.length:Int)){i:Nat}(a:i<n.kids.length):bo (bx g n i)=true:=by
 have j:=b _ (List.getElem_mem a);unfold bx;rw[a5 a];dsimp only;have d:(n.kids[i]).toNat<g.length:=by omega
 rw[a5 d];exact c _ (List.getElem_mem d)
def Tt{x:aU}(d:bo x=true)(a:dP x=true):bo (hH x)=true:=by
 rw[P8]at d;unfold dP at a;simp only[Bool.or_eq_true,beq_iff_eq]at a;unfold hH;refine zC ?_;split
 .show (0=0/\1<=x.n/\x.n<=64/\0=0)\/_;left;omega
 .right;left;show(1:Int)=1/\0<=x.n/\x.n<=64/\(0:Int)=0;omega
def nB{n:Int}(a:1<=n)(b:n<=64):bo (a' n)=true:=zC (.inl ⟨rfl,a,b,rfl⟩)
def vY{n:Int}(a:0<=n)(b:n<=64):bo (eN n)=true:=zC (.inr (.inl ⟨rfl,a,b,rfl⟩))
def YM{g:List Nx}{n:Nx}(a:∀M∈g,bo M.st=true)(d:(bF g n).2=0):bo (bF g n).1=true:=by
 have D:=ze d;have C:∀i:Nat,(i:Int)<cl n.op->bo (bx g n i)=true:=λi b=>IQ a D.ki (by have:=D.kl;omega);unfold bF at d ⊢;split at d
 .cases d
 rename_i G;rw[ab G];split at d
 .rename_i F;rw[ag F];unfold bQ at d ⊢;split at d
  .rename_i w;rw[ag w];split at d
   .cases d
   .rename_i T;rw[ab T];exact vY (by omega) (by omega)
  .rename_i w;rw[ab w];split at d
   .cases d
   rename_i N;rw[ab N];split at d
   .cases d
   rename_i j;rw[ab j];split at d
   .cases d
   rename_i P;rw[ab P];split at d
   .cases d
   rename_i Q;rw[ab Q];split at d
   .cases d
   rename_i S;rw[ab S];simpa using j
 rename_i F;rw[ab F];split at d
 .cases d
 rename_i e;rw[ab e];split at d
 .cases d
 rename_i h;rw[ab h];split at d
 .cases d
 rename_i H;rw[ab H];simp only[Bool.not_eq_false]at e h;have O:n.op<=34:=by
  rcases Int.lt_or_le 34 n.op with d|d
  .have:=D.kl;unfold cl at this;rw[ag (.inr d)]at this;omega
  .exact d
 generalize I:bx g n 0=x at *;generalize K:bx g n 1=y at *;generalize L:bx g n 2=z at *;have q:bo x=true:=by rw[<-I];exact C 0 (by unfold cl;repeat' split<;>omega)
 have A:2<=cl n.op->bo y=true:=λd=>by rw[<-K];exact C 1 (by omega)
 have E:cl n.op=3->bo z=true:=λd=>by rw[<-L];exact C 2 (by omega)
 obtain⟨op,kids,B,m,u,V,st⟩:=n;simp only at *;clear I K L C D G H;rcases sL (by omega) O with rfl|rfl|rfl|rfl|rfl|rfl|rfl|rfl|rfl|rfl|rfl|rfl|rfl|rfl|rfl|rfl|rfl|rfl|rfl|rfl|rfl|rfl|rfl|rfl|rfl|rfl|rfl|rfl|rfl|rfl|rfl|rfl|rfl|rfl|rfl
 iterate 4 omega
 all_goals first |(have A:=A (by decide))|skip
 all_goals first |(have E:=E (by decide))|skip
 iterate 12 exact q
 iterate 3 exact nB (by omega) (by omega)
 .show bo (if y.k=1 then eN (if y.n<z.n then z.n else y.n)else y)=true;split
  .rename_i C;have e:(ao (x=a' 1)&&(ao (y=z)||(y.k==1&&z.k==1)))=true:=e;have j:=lN A;have w:=lN E;exact vY (by split<;>omega) (by split<;>omega)
  .exact A
 .have e:(x.k==0&&y.k==0)=true:=e;have h:ao (x.n+y.n<=64)=true:=h;simp only[a9,beq_iff_eq]at e;have j:=tE q e.1;have w:=tE A e.2;exact nB (by omega) (eZ h)
 .have e:(x.k==0)=true:=e;have h:(ao (0<=m)&&ao (m<=B)&&ao (B<x.n))=true:=h;simp only[a9,decide_eq_true_eq]at h;have j:=tE q (eq_of_beq e);show bo (a' (B - m+1))=true;exact nB (by omega) (by omega)
 iterate 2
  .have e:(x.k==0)=true:=e;have h:(ao (1<=B)&&ao (B<=64 - x.n))=true:=h;simp only[a9,decide_eq_true_eq]at h;have j:=tE q (eq_of_beq e);show bo (a' (x.n+B))=true;exact nB (by omega) (by omega)
 .have e:(dP x&&ao (y=a' x.x))=true:=e;simp only[a9]at e;exact Tt q e.1
 .exact q
 .have e:(dP x&&ao (x=y))=true:=e;simp only[a9]at e;have j:=e.1;unfold dP at j;simp only[Bool.or_eq_true,beq_iff_eq]at j;rw[P8]at q;exact nB (by omega) (by omega)
 .exact nB (by omega) (by omega)
 .exact nB (by omega) (by omega)
 .have h:ao (x.n+y.n<=64)=true:=h;have j:=lN q;have w:=lN A;exact vY (by omega) (eZ h)
 .exact q
 .exact nB (by omega) (by omega)
 .have h:ao (x.n+z.n<=64)=true:=h;have j:=lN q;have w:=lN E;exact vY (by omega) (eZ h)
 .exact nB (by omega) (by omega)
 .exact vY (by omega) (by omega)
def Vg.val{g:List Nx}(k:Vg g):∀e∈g,bo e.st=true:=by
 induction k with
 |nil=>simp
 |snoc q h w j=>
  intro e d;rcases aL.1 d with d|d
  .exact j e d
  .simp only[aE,aZ,a2]at d;subst d;have:=YM j (by rw[h])
   rwa[h]at this
def var_eq{g D:List Nx}{a b:Nx}(d:pJ g a)(f:pJ D b)(c:a.op=0)(e:b.op=0)(j:a.tx=b.tx)(i:a.st=b.st):a=b:=by
 have k:∀{g:List Nx} {a:Nx},pJ g a->a.op=0->a.kids=[]/\a.n=0/\a.m=0/\a.u=0:=by intro g a d c;have E:=d.kl;have h:=d.ok;rw[c]at E;unfold hq at h;rw[c]at h;refine⟨List.eq_nil_of_length_eq_zero (by have:cl 0=0:=rfl;omega),?_⟩;have:lq 0=false:=rfl;rw[this]at h;simp at h;exact⟨h.1.1.1,h.1.1.2,h.1.2⟩
 obtain⟨q,w,x,y⟩:=k d c;obtain⟨z,A,B,C⟩:=k f e;cases a;cases b;simp only at *;subst c e j i q w x y z A B C;rfl
def Vg.ok{g:List Nx}(j:Vg g):∀i e,g[i]? =some e->bF (g.take i) e=(e.st,0):=by
 induction j with
 |nil=>intro i e d;simp at d
 |@snoc g n w k x q=>
  intro i e d;rcases Nat.lt_or_ge i g.length with h|h
  .rw [List.getElem?_append_left h]at d;rw[List.take_append_of_le_length (by omega)];exact q i e d
  .rw [List.getElem?_append_right h]at d;have:i - g.length=0:=by have:=(cr.1 d).1;simp at this;omega
   rw[this]at d;simp at d;subst d;rw[show i=g.length by omega,List.take_left];exact k
def Vg.vV{g:List Nx}(e:Vg g):∀i d,g[i]? =some d->pJ (g.take i) d:=λi d a=>ze (by rw[e.ok i d a])
def Vg.kids{g:List Nx}(h:Vg g){i:Nat}{d:Nx}(a:g[i]? =some d):∀e∈d.kids,0<=e/\e<(i:Int):=λe b=>by have j:=(h.vV i d a).ki e b;have k:=(cr.1 a).1;rw[List.length_take]at j;omega
def Vg.vars{g:List Nx}(x:Vg g):wJ g:=by
 induction x with
 |nil=>intro j e;cases e
 |@snoc g n B d C A=>
  have one:∀j∈g,j.op=0->n.op=0->j.tx=n.tx->j.st=n.st:=by
   intro j e q w k;have D:pJ g n:=ze (by rw[d]);unfold bF at d;split at d
   .simp at d
   rw[ag (by omega:n.op<=3)]at d;unfold bQ at d;rw[ab (by omega)]at d;split at d
   .simp at d
   split at d
   .simp at d
   split at d
   .simp at d
   split at d
   .simp at d
   split at d
   .simp at d
   rename_i y;simp only[w,true_and,Bool.not_eq_true]at y;rw[PQ A,List.any_eq_false]at y;rcases decEq j.st n.st with x|x
   .exact absurd (aM ⟨q,k,x⟩) (y j e)
   .exact x
  intro j e q z h w k;have e:=aL.1 e;have h:=aL.1 h;simp only[aE,aZ,a2]at e h;rcases e with e|e
  .rcases h with h|h
   .exact A j e q z h w k
   .rw [h]at k w ⊢;exact one j e q w k
  .rw [e]at k q ⊢;rcases h with h|h
   .exact (one z h w q k.symm).symm
   .rw [h]
def xw{n:Nx}:∀{g:List Nx} {i:Nat},e5 n g i=none->n∉g
 |[],i,_=>by simp
 |j::g,i,d=>by
  unfold e5 at d;split at d
  .cases d
  .rename_i h;simp only[aE,not_or];exact⟨λe=>h e.symm,xw d⟩
def xy{n:Nx}:∀{g:List Nx} {i k:Nat},e5 n g i=some k->i<=k/\g[k - i]? =some n
 |h::g,i,k,d=>by
  unfold e5 at d;split at d
  .rename_i e;cases d;simp[e]
  .have:=xy d;refine⟨by omega,?_⟩;rw[show k - i=(k - (i+1))+1 by omega];simpa using this.2
def gU(a:List BL):Nat:=(a.map λt=>t.length+2).sum
def qD(b:Nat)(a:Rx)(t:BL):(cy b a t).length<=t.length+2/\t.length<=(cy b a t).length:=by
 unfold cy;split
 .simp;omega
 .simp
def BZ(k:Int):∀(b:List BL) (a:BL),(i' k a b).length<=a.length+gU b/\a.length<=(i' k a b).length
 |[],a=>by simp[i',gU]
 |t::b,a=>by
  unfold i';have h:=BZ k b ((if k=3/\ec (j5 a)=true/\ec (gQ t 0)=true then a++[32]else a)++gB k++t);have j:(gB k).length<=1:=by unfold gB;split<;>(try split)<;>simp
  have e:k=3->(gB k).length=0:=λd=>by unfold gB;rw[ag d];rfl
  have q:((if k=3/\ec (j5 a)=true/\ec (gQ t 0)=true then a++[32]else a):BL).length<=a.length+2 - (gB k).length/\a.length<=((if k=3/\ec (j5 a)=true/\ec (gQ t 0)=true then a++[32]else a):BL).length:=by
   split
   .rename_i d;rw[e d.1];simp
   .omega
  simp only[b']at h;have w:gU (t::b)=t.length+2+gU b:=by simp[gU]
  omega
mutual
def wo:∀w:Rx,(a6 w).length+4<=18 *w.sz
 |.mk d lo h l=>by
  have k:∀c,(dh c).length<=4:=λc=>by unfold dh;split<;>simp
  have C:=q2 3 l;have D:=q2 4 l;have B:=q2 0 l;have G:(qp d).length=4:=by unfold qp;split<;>(try split)<;>rfl
  have e:∀a,(jD (cZ a l)).length<=gU (cZ a l):=λa=>by
   cases cZ a l with
   |nil=>simp[jD]
   |cons t j=>simp[jD,gU];omega
  have z:=e 3;have A:=e 4;have y:=e 0;have F:=k lo;have E:=k h;unfold Rx.sz;unfold a6;split
  .simp;omega
  .split
   .simp;omega
   .split
    .split
     .omega
     .simp only[cT,b',n7];omega
    .split
     .simp only[cT];omega
     .split
      .simp only[b',cT,n7];omega
      .split
       .simp only[b',cT,n7];omega
       .have q:=q2 (cD (.mk d lo h l)+1) l;cases x:cZ (cD (.mk d lo h l)+1) l with
        |nil=>show 0+4<=_;omega
        |cons t j=>
         rw[x]at q;have:=(BZ d j t).1;simp only[gU,List.map_cons,List.sum_cons]at q;simp only[gU]at this;show(i' d t j).length+4<=_;omega
def q2(b:Nat):∀l:List Rx,gU (cZ b l)<=18 *Rx.aY l
 |[]=>by simp[cZ,gU]
 |a::l=>by have e:=wo a;have d:=q2 b l;have h:=(qD b a (a6 a)).1;unfold cZ Rx.aY;simp only[gU,List.map_cons,List.sum_cons]at d ⊢;omega
end
def yt{k:Int}{lo hi:UInt8}{l:List Rx}(d:ia (.mk k lo hi l)=true):0<=k/\k<=7/\(k=6\/k=7->l.length=1)/\m1 l=true:=by unfold ia at d;simp only[a9,decide_eq_true_eq,Bool.or_eq_true]at d;exact⟨d.1.1.1,d.1.1.2,λa=>by omega,d.2⟩
def yu:∀{l:List Rx} {a:Rx},m1 l=true->a∈l->ia a=true
 |b::l,a,d,e=>by
  unfold m1 at d;rw[a9]at d;rcases aE.1 e with rfl|e
  .exact d.1
  .exact yu d.2 e
def zN:∀k:Rx,ia k=true->0<(a6 k).length
 |.mk e lo j l=>λq=>by
  obtain⟨x,y,z,h⟩:=yt q;have w:∀c,0<(dh c).length:=λc=>by unfold dh;split<;>simp
  unfold a6;split
  .simp
  .split
   .simp
   .split
    .split
     .exact w lo
     .simp
    .split
     .simp
     .split
      .simp
      .split
       .simp only[b',cT];omega
       .rename_i d
        match l,h,d with
        |[],_,d=>simp at d
        |a::m,h,d=>
         have:=zN a (yu h (by simp));unfold cZ;show 0<(i' _ _ _).length;have A:=(BZ e (cZ (cD (.mk e lo j (a::m))+1) m) (cy (cD (.mk e lo j (a::m))+1) a (a6 a))).2;have B:=(qD (cD (.mk e lo j (a::m))+1) a (a6 a)).2;omega
def AO(x:I)(w:J)(q:0<=x.k)(s:x.k<=7)(o:x.P w):aj U Cp #[x.v] w λr c=>r=ae (.i (cD x.rx:Int))/\ah w c:=by
 have B:=I.cb o.parts.1;have A:(I.aq x.l).length=x.l.length:=by rw[I.fi,List.length_map]
 have y:cD x.rx=if x.k=6 then 3 else if x.k<3\/x.k=7\/x.l.length<2 then 4 else if x.k=3 then 2 else if x.k=4 then 0 else 1:=by rw[I.eW];unfold cD;dsimp only;rw[A]
 rw[y];have four:∀c,ah w c->x.k≠6->(x.k<3\/x.k=7\/x.l.length<2)->Bi.aX c λr c=>r=ae (.i ((if x.k=6 then 3 else if x.k<3\/x.k=7\/x.l.length<2 then 4 else if x.k=3 then 2 else if x.k=4 then 0 else 1:Nat):Int))/\ah w c:=λc f a z=>⟨by rw[ab a,ag z];rfl,f⟩;refine Bi.au _ _ _ _ w _ ((ga o).ay λb m g=>ax (λa=>⟨by rw[ag a];rfl,g.fr⟩) (λa=>aS (λn=>four m g.fr a (.inl n)) (λn=>ax (λh=>four m g.fr a (.inr (.inl h))) (λh=>aS (λp=>four m g.fr a (.inr (.inr (by omega)))) (λp=>?_)))));refine g.nw λt _ d=>?_;have e:x.k=3\/x.k=4\/x.k=5:=by omega
 have j:(if x.k=6 then 3 else if x.k<3\/x.k=7\/x.l.length<2 then 4 else if x.k=3 then 2 else if x.k=4 then 0 else 1:Nat)=if x.k=3 then 2 else if x.k=4 then 0 else 1:=by rw[ab a,ab (by omega)]
 rw[j];rcases e with e|e|e<;>rw[e]
 .exact ⟨by decide,by decide,ka ⟨2,d.ld 1 0,rfl,d.fr⟩⟩
 .exact ⟨by decide,by decide,ka ⟨0,d.ld 1 1,rfl,d.fr⟩⟩
 .exact ⟨by decide,by decide,ka ⟨1,d.ld 1 2,rfl,d.fr⟩⟩
def IU(t:BL)(d:0<t.length):gQ t (t.length - 1)=j5 t:=by unfold gQ j5;rw[List.getD_eq_getElem?_getD,List.getLastD_eq_getLast?,List.getLast?_eq_getElem?]
def Y9(l:List I)(i:Nat):Rx.aY (I.aq (l.drop i))<=I.aY l:=by
 rw[I.vO];induction l generalizing i with
 |nil=>simp
 |cons a l d=>
  cases i with
  |zero=>exact be _
  |succ i=>have:=d i;show _<=a.sz+I.aY l;exact bp this (by omega)
abbrev QM(n:Nat):Prop:=∀(x:I) (a:Nat) (w:J),x.sz<=n->a<=1000->ia x.rx=true->x.P w->aj U oW #[x.v,.i (a:Int)] w λr b=>r=ae (.string (ba (cy a x.rx (a6 x.rx))))/\ah w b
def Ge:∀n:Nat,n<=1000000->QM n
 |0,_=>λx D w q _ _ _=>absurd q (by have:=I.lJ x;omega)
 |n+1,hn=>by
  have ih:=Ge n (by omega);have core:∀(x:I) (D:Nat) (w:J),x.sz<=n+1->¬cD x.rx<D->ia x.rx=true->x.P w->aj U oW #[x.v,.i (D:Int)] w λr w'=>r=ae (.string (ba (a6 x.rx)))/\ah w w':=by
   intro x D w q bb Z px;have hs:=I.hP x;have hl:=I.fB x.l;have T:=I.cb px.parts.1;have aa:=Z;rw[I.eW]at aa;obtain⟨k0,k7,aK,a9⟩:=yt aa;have aJ:(I.aq x.l).length=x.l.length:=by rw[I.fi,List.length_map]
   rw[aJ]at aK;have aI:∀a∈x.l,ia a.rx=true:=λa p=>yu a9 (by rw[I.fi];exact List.mem_map.2 ⟨a,p,rfl⟩);have a3:∀a:I,a.sz<=1000000->(a6 a.rx).length<=18000000:=λa p=>by have:=wo a.rx;rw[I.dR]at this;omega
   have ad:∀(a:I) (D:Nat),a.sz<=1000000->(cy D a.rx (a6 a.rx)).length<=18000002:=λa D p=>by have B:=a3 a p;have:=(qD D a.rx (a6 a.rx)).1;omega
   have aQ:∀c,(dh c).length<=4:=λc=>by unfold dh;split<;>simp
   let M:aC:=λr w'=>r=ae (.string (ba (a6 x.rx)))/\ah w w'
   have one:∀(a:I) (Y:Nat) (F:J) (j:Nat) (K:ByteArray->J->Prop),Y<=1000->a∈x.l->O F0 w F [.g j] [.tree x]->(∀z,O F0 w z [.g j] [.tree x]->K (ba (cy Y a.rx (a6 a.rx))) z)->AW [j] oW #[.agg #[.i a.k,.int .u8 (a.lo.toNat:Int),.int .u8 (a.hi.toNat:Int),a.s.v],.i (Y:Int)] F K:=by intro a Y F j K be p E hK;have aA:=I.ef p;refine E.av (ih a Y F (by omega) be (aI a p) ((show x.P F from E.getD 0).parts.2.mem p)) ?_;rintro _ z rfl e;exact⟨_,rfl,hK z e⟩
   refine ll.au _ _ _ _ _ w _ ((ga px).ay λj F E=>?_);have E:O F0 w F [.g j] [.tree x]:=E;refine E.av (AO x F k0 k7 (E.getD 0)) ?_;rintro _ z rfl e;have L:a6 x.rx=a6 (.mk x.k x.lo x.hi (I.aq x.l)):=by rw[I.eW]
   refine⟨_,rfl,aV (aP (by omega)) (ax (λf=>⟨?_,e.fr⟩) (λN=>ax (λf=>⟨?_,e.fr⟩) (λV=>ax (λQ=>?_) (λQ=>ax (λS=>?_) (λS=>ax (λW=>?_) (λW=>aS (λbg=>?_) (λbg=>?_)))))))⟩
   .rw [L];unfold a6;rw[ag f];rfl
   .rw [L];unfold a6;rw[ab N,ag f];rfl
   .have e2:a6 x.rx=if x.lo=x.hi then dh x.lo else 91::(dh x.lo++45::(dh x.hi++[93])):=by rw[L];unfold a6;rw[ab N,ab V,ag Q]
    refine ax (λbc=>e.av (AN x.lo z) ?_) (λbc=>e.af λA G=>G.av (AN x.lo A) ?_)
    .rintro _ y rfl h;exact⟨_,rfl,by rw[e2,ag (UInt8.toNat_inj.1 (by omega))],h.fr⟩
    .rintro _ w6 rfl H6;have B:=aQ x.lo;have h2:=aQ x.hi;have s0:bj #[91]++ba (dh x.lo)++bj #[45]=ba (91::dh x.lo++[45]):=by show ba [91]++ba (dh x.lo)++ba [45]=_;rw[b7,b7];rfl
     refine⟨_,rfl,?_,?_,H6.av (AN x.hi w6) ?_⟩
     .rw [bC];show ¬(((1+_:Nat):Int)>9223372036854775807);omega
     .have:(bj #[91]++ba (dh x.lo)).size=1+(dh x.lo).length:=by show(ba [91]++_).size=_;rw[b7,bC];simp;omega
      rw[this];show ¬(((_+1:Nat):Int)>9223372036854775807);omega
     rintro _ w7 rfl H7;rw[s0];have:ba (91::dh x.lo++[45]++dh x.hi)++bj #[93]=ba (91::dh x.lo++[45]++dh x.hi++[93]):=by show _++ba [93]=_;rw[b7]
     refine⟨_,rfl,?_,?_,?_,H7.fr⟩
     .rw [bC,bC];simp only[b',cT,n7];show ¬(((_:Nat):Int)>9223372036854775807);omega
     .rw [b7,bC];simp only[b',cT,n7];show ¬(((_+1:Nat):Int)>9223372036854775807);omega
     .rw [b7,this,e2,ab (λq=>bc (by rw[q]))];simp
   .have B:=aK (.inl S);have e6:a6 x.rx=33::jD (cZ 3 (I.aq x.l)):=by rw[L];unfold a6;rw[ab N,ab V,ab Q,ag S]
    match dU:x.l,B with
    |[a],_=>
     have p:a∈x.l:=by rw[dU];simp
     have aA:=I.ef p;refine je (show x.P z from e.getD 0) (k:=0) rfl (by rw[dU];rfl) (one a 3 z j _ (by omega) p e λy h=>⟨?_,?_,h.fr⟩)
     .have:=ad a 3 (by omega);rw[bC];show ¬(((1+_:Nat):Int)>9223372036854775807);omega
     .have:bj #[33]++ba (cy 3 a.rx (a6 a.rx))=ba (33::cy 3 a.rx (a6 a.rx)):=by show ba [33]++_=_;rw[b7];rfl
      rw[this,e6,dU];rfl
   .have B:=aK (.inr W);have e7:a6 x.rx=jD (cZ 4 (I.aq x.l))++[42]:=by rw[L];unfold a6;rw[ab N,ab V,ab Q,ab S,ag W]
    match dU:x.l,B with
    |[a],_=>
     have p:a∈x.l:=by rw[dU];simp
     have aA:=I.ef p;refine je (show x.P z from e.getD 0) (k:=0) rfl (by rw[dU];rfl) (one a 4 z j _ (by omega) p e λy h=>⟨?_,?_,h.fr⟩)
     .have:=ad a 4 (by omega);rw[bC];show ¬(((_+1:Nat):Int)>9223372036854775807);omega
     .have:ba (cy 4 a.rx (a6 a.rx))++bj #[42]=ba (cy 4 a.rx (a6 a.rx)++[42]):=by show _++ba [42]=_;rw[b7]
      rw[this,e7,dU];rfl
   .
    have f:x.k=3\/x.k=4\/x.k=5:=by omega
    have aH:a6 x.rx=qp x.k++(jD (cZ 0 (I.aq x.l))++[41]):=by rw[L];unfold a6;rw[ab N,ab V,ab Q,ab S,ab W,ag (by rw[aJ];omega)]
    have fin:∀(t:BL) (y:J),t.length<=18000002->jD (cZ 0 (I.aq x.l))=t->O F0 w y [.g j] [.tree x]->ll.aX j x.k x.lo.toNat x.hi.toNat x.s (ba t) y M:=by
     intro t y ht C h;dsimp only[ll.aX,ai];refine h.nw λw4 _ H=>?_;have key:∀(u:BL),u.length=4->qp x.k=u->¬((((ba u).size+(ba t).size:Nat):Int)>IntKind.i64.max)/\¬((((ba u++ba t).size+(bj #[41]).size:Nat):Int)>IntKind.i64.max)/\M (ae (.string ((ba u++ba t)++(bj #[41])))) w4:=by
      intro u hu hn;refine⟨?_,?_,?_,H.fr⟩
      .rw [bC,bC];show ¬(((_:Nat):Int)>9223372036854775807);omega
      .rw [b7,bC];simp only[b'];show ¬(((_+1:Nat):Int)>9223372036854775807);omega
      .have:ba u++ba t++bj #[41]=ba (u++(t++[41])):=by show _++_++ba [41]=_;rw[b7,b7];simp
       rw[this,aH,hn,C]
     rcases f with f|f|f<;>rw[f]
     .exact ⟨by decide,by decide,ka ⟨ba [99,97,116,40],H.ld 1 0,key _ rfl (by rw[f];rfl)⟩⟩
     .exact ⟨by decide,by decide,ka ⟨ba [97,108,116,40],H.ld 1 1,key _ rfl (by rw[f];rfl)⟩⟩
     .exact ⟨by decide,by decide,ka ⟨ba [97,108,108,40],H.ld 1 2,key _ rfl (by rw[f];rfl)⟩⟩
    refine ax (λB=>?_) (λB=>?_)
    .match dU:x.l with
     |[]=>rw[dU]at T;simp at T;omega
     |_::_::_=>rw[dU]at T;simp at T;omega
     |[a]=>
      have p:a∈x.l:=by rw[dU];simp
      have aA:=I.ef p;refine je (show x.P z from e.getD 0) (k:=0) rfl (by rw[dU];rfl) (one a 0 z j _ (by omega) p e λy h=>?_);exact fin _ y (ad a 0 (by omega)) (by rw[dU];rfl) h
    .have:x.l=[]:=List.length_eq_zero_iff.1 (by omega);exact fin [] z (by simp) (by rw[this];rfl) e
   .
    have f:x.k=3\/x.k=4\/x.k=5:=by omega
    match dU:x.l with
    |[]=>rw[dU]at T;simp at T;omega
    |a::m=>
    have p:a∈x.l:=by rw[dU];simp
    have aA:=I.ef p;have bq:(gB x.k).length<=1:=by unfold gB;split<;>(try split)<;>simp
    have aH:a6 x.rx=i' x.k (cy (cD x.rx+1) a.rx (a6 a.rx)) (cZ (cD x.rx+1) (I.aq (x.l.drop 1))):=by
     have e1:a6 x.rx=xD x.k (cZ (cD x.rx+1) (I.aq x.l)):=by
      conv=>lhs;rw[L];unfold a6;rw[ab N,ab V,ab Q,ab S,ab W,ab (by rw[aJ];omega)]
      rw[<-I.eW]
     rw[e1,dU];rfl
    have bk:cD x.rx<=4:=by rw[I.eW];unfold cD;dsimp only;repeat (first |omega|split)
    have loop:∀(d i:Nat) (b:BL) (y:J),i+d=x.l.length->1<=i->0<b.length->b.length+gU (cZ (cD x.rx+1) (I.aq (x.l.drop i)))<=40000000->a6 x.rx=i' x.k b (cZ (cD x.rx+1) (I.aq (x.l.drop i)))->O F0 w y [.g j] [.tree x]->
      ll.b5 j x.k x.lo.toNat x.hi.toNat x.s (ba (gB x.k)) (cD x.rx:Int) (ba b) (i:Int) y M:=by
     intro d;induction d with
     |zero=>
      intro i b y a8 B aU am C h;refine ll.dy _ _ _ _ _ _ _ _ _ _ _ (aV (aP (by omega)) ⟨?_,h.fr⟩);rw[C,de (by omega)];rfl
     |succ d bi=>
      intro i b y a8 B aU am C h;have hg:x.l[i]? =some (x.l[i]'(by omega)):=a5 (by omega);have aR:x.l.drop i=(x.l[i]'(by omega))::x.l.drop (i+1):=dk (by omega);generalize x.l[i]'(by omega)=c at hg aR;have hc:=aB hg;have br:=I.ef hc;rw[aR]at C am;have am:b.length+((cy (cD x.rx+1) c.rx (a6 c.rx)).length+2+gU (cZ (cD x.rx+1) (I.aq (x.l.drop (i+1)))))<=40000000:=by
       have:gU (cZ (cD x.rx+1) (I.aq (c::x.l.drop (i+1))))=(cy (cD x.rx+1) c.rx (a6 c.rx)).length+2+gU (cZ (cD x.rx+1) (I.aq (x.l.drop (i+1)))):=by simp[I.aq,cZ,gU]
       omega
      have C:a6 x.rx=i' x.k ((if x.k=3/\ec (j5 b)=true/\ec (gQ (cy (cD x.rx+1) c.rx (a6 c.rx)) 0)=true then b++[32]else b)++gB x.k++cy (cD x.rx+1) c.rx (a6 c.rx)) (cZ (cD x.rx+1) (I.aq (x.l.drop (i+1)))):=by rw[C];rfl
      have a4:0<(cy (cD x.rx+1) c.rx (a6 c.rx)).length:=by have B:=zN c.rx (aI c hc);have:=(qD (cD x.rx+1) c.rx (a6 c.rx)).2;omega
      have aF:aG .i64 ((cD x.rx:Int)+1)=((cD x.rx+1:Nat):Int):=bw _ (by omega);refine ll.dy _ _ _ _ _ _ _ _ _ _ _ (aT (aM (by omega)) (je (show x.P y from h.getD 0) rfl hg ?_));rw[aF];refine one c (cD x.rx+1) y j _ (by omega) hc h λw4 H=>?_;generalize cy (cD x.rx+1) c.rx (a6 c.rx)=t at C am a4;have go:∀(o:BL) (A:J),o.length<=b.length+1->b.length<=o.length->o.length+(gB x.k).length<=b.length+1->a6 x.rx=i' x.k (o++gB x.k++t) (cZ (cD x.rx+1) (I.aq (x.l.drop (i+1))))->O F0 w A [.g j] [.tree x]->
        ll.bA j x.k x.lo.toNat x.hi.toNat x.s (ba (gB x.k)) (cD x.rx:Int) (ba o) (i:Int) (ba t) A M:=by
       intro o A bn bo bp a7 G;refine⟨?_,?_,?_⟩
       .rw [bC,bC];show ¬(((_:Nat):Int)>9223372036854775807);omega
       .rw [b7,bC,bC];simp only[b'];show ¬(((_:Nat):Int)>9223372036854775807);omega
       .show ll.b5 _ _ _ _ _ _ _ _ _ _ _;rw[b7,b7,bw _ (by omega)];refine bi (i+1) (o++gB x.k++t) A (by omega) (by omega) (by simp only[b'];omega) (by simp only[b'];omega) a7 G
      have aL:∀A,O F0 w A [.g j] [.tree x]->¬(x.k=3/\ec (j5 b)=true/\ec (gQ t 0)=true)->ll.bA j x.k x.lo.toNat x.hi.toNat x.s (ba (gB x.k)) (cD x.rx:Int) (ba b) (i:Int) (ba t) A M:=λA G q=>go b A (by omega) (by omega) (by omega) (by rw[ab q]at C;exact C) G;have eo:aG .i64 ((((ba b).size:Nat):Int) - 1)=((b.length - 1:Nat):Int):=by rw[bC,bm _ (by omega)];omega
      rw[eo];refine ax (λao=>⟨by omega,j5 b,?_,H.av (Gx (j5 b) w4) ?_⟩) (λao=>aL w4 H (λq=>ao q.1))
      .rw [bZ,gi (s:=ba b) (by rw[bC];omega),kC,IU b aU]
      rintro _ A rfl G;refine⟨_,rfl,bh (λap=>⟨by omega,gQ t 0,?_,G.av (Gx (gQ t 0) A) ?_⟩) (λap=>aL A G (λq=>by rw[q.2.1]at ap;cases ap))⟩
      .rw [show a1 0=0 from rfl,gi (s:=ba t) (by rw[bC];omega),kC]
      rintro _ w6 rfl H6;have s3:(gB x.k).length=0:=by unfold gB;rw[ag ao];rfl
      refine⟨_,rfl,bh (λac=>⟨?_,?_⟩) (λac=>aL w6 H6 (λq=>by rw[q.2.2]at ac;cases ac))⟩
      .rw [bC];show ¬(((_+1:Nat):Int)>9223372036854775807);omega
      .have a2:ba b++bj #[32]=ba (b++[32]):=by show _++ba [32]=_;rw[b7]
       rw[a2];refine go (b++[32]) w6 (by simp) (by simp) (by simp;omega) ?_ H6;rw[ag ⟨ao,ap,ac⟩]at C;exact C
    refine e.nw λar _ an=>?_;have aN:O F0 w ar [.g j] [.tree x]:=an.take 1;have rest:∀(u:BL),gB x.k=u->SD [j] Cp #[.agg #[.i x.k,.int .u8 (x.lo.toNat:Int),.int .u8 (x.hi.toNat:Int),x.s.v]] ar λbd al=>mA x.s 0 λaW=>iJ al (aW.add (a1 0 *4)) λaw aY aZ az=>AW [j] oW #[.agg #[.i aw,.int .u8 aY,.int .u8 aZ,az.v],.i (aG .i64 (bd+1))] al λa0 aD=>ll.b5 j x.k x.lo.toNat x.hi.toNat x.s (ba u) bd a0 1 aD M:=by
     intro u hu;refine aN.av (AO x ar k0 k7 (aN.getD 0)) ?_;rintro _ al rfl aO;refine⟨_,rfl,je (show x.P al from aO.getD 0) (k:=0) rfl (by rw[dU];rfl) ?_⟩;have aF:aG .i64 ((cD x.rx:Int)+1)=((cD x.rx+1:Nat):Int):=bw _ (by omega);rw[aF];refine one a (cD x.rx+1) al j _ (by omega) p aO λaD bf=>?_;rw[<-hu];refine loop (x.l.length - 1) 1 _ aD (by omega) (by omega) ?_ ?_ aH bf
     .have B:=zN a.rx (aI a p);have:=(qD (cD x.rx+1) a.rx (a6 a.rx)).2;omega
     .have B:=ad a (cD x.rx+1) (by omega);have h2:=q2 (cD x.rx+1) (I.aq (x.l.drop 1));have h3:=Y9 x.l 1;omega
    rcases f with f|f|f
    .exact ⟨by rw[f];decide,by rw[f];decide,ka ⟨ba [],by rw[f];exact an.ld 1 0,rest _ (by rw[f];rfl)⟩⟩
    .exact ⟨by rw[f];decide,by rw[f];decide,ka ⟨ba [124],by rw[f];exact an.ld 1 1,rest _ (by rw[f];rfl)⟩⟩
    .exact ⟨by rw[f];decide,by rw[f];decide,ka ⟨ba [38],by rw[f];exact an.ld 1 2,rest _ (by rw[f];rfl)⟩⟩
  intro x D w q bb Z px;by_cases hb:cD x.rx<D
  .have aa:=Z;rw[I.eW]at aa;obtain⟨k0,k7,_,_⟩:=yt aa;refine ll.au _ _ _ _ _ w _ ((ga px).ay λj F E=>E.av (AO x F k0 k7 (E.getD 0)) ?_);rintro _ z rfl e;refine⟨_,rfl,aT (aM (by omega)) (e.av (core x 0 z q (by omega) Z (e.getD 0)) ?_)⟩;rintro _ y rfl h;have bl:(a6 x.rx).length<=18000000:=by have:=wo x.rx;rw[I.dR]at this;omega
   have aE:bj #[40]++ba (a6 x.rx)++bj #[41]=ba (40::(a6 x.rx++[41])):=by show ba [40]++ba (a6 x.rx)++ba [41]=_;rw[b7,b7];simp
   refine⟨_,rfl,?_,?_,?_,h.fr⟩
   .rw [bC];show ¬(((1+_:Nat):Int)>9223372036854775807);omega
   .have:(bj #[40]++ba (a6 x.rx)).size=1+(a6 x.rx).length:=by show(ba [40]++_).size=_;rw[b7,bC];simp;omega
    rw[this];show ¬(((_+1:Nat):Int)>9223372036854775807);omega
   .rw [aE];unfold cy;rw[ag hb]
  .have:=core x D w q hb Z px;have aE:cy D x.rx (a6 x.rx)=a6 x.rx:=by unfold cy;rw[ab hb]
   rw[aE];exact this
def Gd(x:I)(a:Nat)(w:J)(h:x.sz<=1000000)(b:a<=1000)(c:ia x.rx=true)(d:x.P w):aj U oW #[x.v,.i (a:Int)] w λr e=>r=ae (.string (ba (cy a x.rx (a6 x.rx))))/\ah w e:=Ge 1000000 (be _) x a w h b c d
namespace zD
noncomputable abbrev t0:=aA U Tryz.f106 [] [1]
abbrev P0:Ps:=[]
noncomputable abbrev bb:=ai t0 [0,1,1,1,3] P0
noncomputable abbrev t1:=ak bb
noncomputable abbrev bA:=ai t1 [0,1,1,1,4] P0
noncomputable abbrev t2:=ak bA
noncomputable abbrev cv:=ai t2 [5] P0
noncomputable abbrev t3:=ak cv
noncomputable abbrev aX:=ai t3 [3] [(1,.l [.I,.I,.I] bR),(3,.v [.I]),(4,.v [.I]),(5,.v [.b])]
noncomputable abbrev t4:=ak aX
def au:=aF t4 LM [.a 3,.I,.I,.I]
end zD
namespace nc
noncomputable abbrev t0:=aA U Tryz.f105 [] []
abbrev P0:Ps:=[]
noncomputable abbrev S0:=ai t0 [0,1,1,1,1] P0
noncomputable abbrev t1:=ak S0
abbrev P1:Ps:=[(0,.v [.st]),(3,.v [.I])]
noncomputable def L1:=bu t1 [0,1,1,1,2] P1
noncomputable abbrev t2:=bt L1
noncomputable abbrev S4:=ai t2 [0,1,3,2,1,2,1,1,2] P0
noncomputable abbrev t3:=ak S4
noncomputable abbrev S5:=ai t3 [2,2,1,1,2] P1
noncomputable abbrev t4:=ak S5
noncomputable abbrev S3:=ai t4 [2,2,1,2,1,1,2] [(0,.v [.st]),(3,.v [.I]),(4,.v [.Y]),(5,.v [.b])]
noncomputable abbrev t5:=ak S3
noncomputable abbrev S2:=ai t5 [1,2,1,2,1,1,2] [(0,.v [.st]),(3,.v [.I]),(4,.v [.Y])]
noncomputable abbrev t6:=ak S2
def i1:=bH t6 L1
def ok:=aF t6 Ly [.st]
end nc
namespace v5
noncomputable abbrev t0:=aA U Tryz.f79 [] []
noncomputable abbrev S1:=ai t0 [3] [(0,.v [.r]),(3,.v [.b]),(4,.v [.b]),(5,.v [.b]),(6,.v [.b])]
noncomputable abbrev t1:=ak S1
noncomputable abbrev S0:=ai t1 [0,1,1,1,1,1,2] [(0,.v [.r]),(3,.v [.b]),(4,.v [.b]),(5,.v [.b])]
noncomputable abbrev t2:=ak S0
noncomputable abbrev S3:=ai t2 [0,1,7,1,1,1,2] [(0,.v [.r]),(4,.v [.b]),(5,.v [.b]),(6,.v [.b])]
noncomputable abbrev t3:=ak S3
noncomputable abbrev S2:=ai t3 [2,1,1,1,2] [(0,.v [.r]),(3,.v [.b]),(4,.v [.b]),(5,.v [.b]),(6,.v [.b]),(10,.v [.I])]
noncomputable abbrev t4:=ak S2
def ok:=aF t4 Lu [.r]
end v5
namespace Pw
noncomputable abbrev t0:=aA U Tryz.f111 [] [2]
def au:=aF t0 Lt [.I]
end Pw
namespace PF
noncomputable abbrev t0:=aA U Tryz.f107 [] [2]
def au:=aF t0 LL [.I]
end PF
namespace Py
noncomputable abbrev t0:=aA U Tryz.f110 [] [1]
def au:=aF t0 Lx [.a 3,.I,.I,.I]
end Py
namespace PA
noncomputable abbrev t0:=aA U Tryz.f113 [] [1]
def au:=aF t0 Lz [.a 3,.I,.I,.I]
end PA
namespace Px
noncomputable abbrev t0:=aA U Tryz.f108 [] [1]
def au:=aF t0 Lw [.a 3,.I,.I,.I]
end Px
namespace Pv
noncomputable abbrev t0:=aA U Tryz.f112 [] [2,3]
def au:=aF t0 Ls [.a 3,.I,.I,.I,.a 3,.I,.I,.I]
end Pv
namespace PB
noncomputable abbrev t0:=aA U Tryz.f109 [] [3,6]
def au:=aF t0 yj [.a 3,.I,.I,.I,.b,.b]
end PB
namespace EJ
noncomputable abbrev t0:=aA U Tryz.f80 [(7,ls [0,1,2,3,4,5,6,7,8])] []
noncomputable abbrev S0:=ai t0 [4] [(0,.v [.r]),(4,.v [.r])]
noncomputable abbrev t1:=ak S0
def ok:=aF t1 LK [.r,.f]
end EJ
namespace EI
noncomputable abbrev t0:=aA U Tryz.f81 [(14,ls [0,1,2,3,4,5,6,7,8,9,10,11,12,13,14,15,16,17,18])] [2]
noncomputable abbrev aX:=ai t0 [6] [(0,.v [.r]),(2,.l [.I,.I,.I] bR)]
noncomputable abbrev t1:=ak aX
def au:=aF t1 LI [.r]
end EI
namespace EH
noncomputable abbrev t0:=aA U Tryz.f82 [(4,ls [0,1,2,3,4,5,6,7]),(7,ls [1,0,2,3,4,5,6,7,8,9,10,11,12]),(9,ls [1,2,0,3,4,5,6,7,8]),(14,ls [0,1,2,3,4,5,6,7,8,9,10,11,12,13]),(16,ls [0,1,2,3,4,6,12,13,14,15,16,17,5,7,8,9,10,11,18,19,20,21,22]),(18,ls [0,1,2,3,4,5,6,7,8,9,11,13,14,15,16,17,10,12,18,19,20,21,22,23,24,25,26,27,28,29,30,31,32,33,34,35,36,37,38,39,40,41,42]),(21,ls [0,1,2,3,4,5,6,8,10,11,12,13,14,7,9,15,16,17,18,19,20,21,22,23,24,25,26,27,28,29]),(22,ls [0,1,2,3,4,5,6,7,8,9,10,11,12])] [5,6,7,8,10]
noncomputable abbrev aX:=ai t0 [0,1,1,1,1,1,1] [(5,.l [.I,.I,.I] bR),(8,.l [.I,.I,.I] bR)]
noncomputable abbrev t1:=ak aX
abbrev P0:Ps:=[(5,.l [.I,.I,.I] bR),(6,.l [.I,.I,.I] bR),(8,.l [.I,.I,.I] bR)]
noncomputable abbrev bA:=ai t1 [0,1,3,1,1,1,1] P0
noncomputable abbrev t2:=ak bA
noncomputable abbrev fG:=ai t2 [2,1,7,1,1,1,1] [(5,.l [.I,.I,.I] bR),(6,.l [.I,.I,.I] bR),(7,.l [.I,.I,.I] bR),(8,.l [.I,.I,.I] bR),(10,.l [.I,.I,.I] bR)]
noncomputable abbrev t3:=ak fG
noncomputable abbrev pH:=ai t3 [0,1,13,1,1,1,1] [(0,.v [.r]),(5,.l [.I,.I,.I] bR),(8,.l [.I,.I,.I] bR)]
noncomputable abbrev t4:=ak pH
noncomputable abbrev jV:=ai t4 [2] P0
noncomputable abbrev t5:=ak jV
abbrev P1:Ps:=[(0,.v [.r]),(5,.l [.I,.I,.I] bR),(6,.l [.I,.I,.I] bR),(7,.l [.I,.I,.I] bR),(8,.l [.I,.I,.I] bR),(14,.v [.I])]
noncomputable abbrev cv:=ai t5 [4,1,1,1,1] P1
noncomputable abbrev t6:=ak cv
noncomputable abbrev bb:=ai t6 [2,1,1,1,1] P1
noncomputable abbrev t7:=ak bb
def au:=aF t7 LG [.r,.a 3,.I,.I,.I,.a 3,.I,.I,.I,.a 3,.I,.I,.I]
end EH
namespace zp
noncomputable abbrev t0:=aA U Tryz.f83 [(2,ls [0,1,3,2,4,5,6,7,8,9,10,11,12,13,14]),(6,ls [0,1,2,3,4,5,6,7,8,9]),(10,ls [0,1,2,3,4,5,6,7,8,9,10,11,12,13,14,15,16,17]),(11,ls [0,1,2,3,4,5,6,7,8,9,10,11])] [5,6,7,8,10]
noncomputable abbrev bb:=ai t0 [5] [(0,.v [.r]),(5,.l [.I,.I,.I] bR),(7,.l [.I,.I,.I] bR),(8,.l [.I,.I,.I] bR),(10,.l [.I,.I,.I] bR),(11,.v [.b])]
noncomputable abbrev t1:=ak bb
noncomputable abbrev aX:=ai t1 [4] [(0,.v [.r]),(5,.l [.I,.I,.I] bR),(6,.l [.I,.I,.I] bR),(7,.l [.I,.I,.I] bR),(8,.l [.I,.I,.I] bR),(10,.l [.I,.I,.I] bR)]
noncomputable abbrev t2:=ak aX
def au:=aF t2 LF [.r,.a 3,.I,.I,.I,.a 3,.I,.I,.I,.a 3,.I,.I,.I]
end zp
namespace PD
noncomputable abbrev t0:=aA U Tryz.f84 [(3,ls [1,0,2,3,4,5,6,7]),(5,ls [1,3,4,5,6,7,0,2,8,9,10,11,12,13,14,15,16,17,18,19]),(7,ls [0,1,2,3,4,6,12,13,14,15,16,17,5,7,8,9,10,11,18,19,20,21,22]),(9,ls [0,1,2,3,4,5,6,7,8,9,10,11,12,13,14,15,16,17]),(11,ls [1,0,2,3,4,5,6,7,8,9,10,11]),(13,ls [0,1,2,3,4,6,16,17,18,19,20,21,5,7,8,9,10,11,12,13,14,15,22,23,24,25,26]),(15,ls [1,0,2,3,4,5,6,7,8])] [5,6,7,8]
def au:=aF t0 LJ [.r,.a 3,.I,.I,.I,.a 3,.I,.I,.I,.a 3,.I,.I,.I]
end PD
namespace po
noncomputable abbrev t0:=aA U Tryz.f50 [(1,ls [0,1,2,3,4,5,6,7,8,9,10,11,12,13,14,15,16,17])] [6,11]
abbrev P0:Ps:=[(6,.l [.I,.I,.I] bR)]
noncomputable abbrev aX:=ai t0 [0,1,1,1,1] P0
noncomputable abbrev t1:=ak aX
noncomputable def b5:=bu t1 [0,1,1,1,3] [(0,.v [.s]),(2,.v [.f]),(4,.v [.r]),(6,.l [.I,.I,.I] bR),(8,.v [.r]),(34,.v [.I]),(35,.v [.I])]
noncomputable abbrev t2:=bt b5
noncomputable abbrev bA:=ai t2 [0,1,1,1,2,2,2,2,1,1,3] P0
noncomputable abbrev t3:=ak bA
noncomputable abbrev cv:=ai t3 [8] [(6,.l [.I,.I,.I] bR),(11,.l [.I,.I,.I] bR),(12,.v [.I])]
noncomputable abbrev t4:=ak cv
def dy:=bH t4 b5
def au:=aF t4 LD [.s,.a 9,.I,.s,.I,.I,.U,.st,.I,.I,.I,.f]
end po
namespace qX
noncomputable abbrev t0:=aA U Tryz.f51 [] [3]
abbrev P0:Ps:=[(0,.v [.st]),(1,.v [.r]),(3,.l [.I,.I,.I] bR),(8,.v [.I]),(9,.v [.I])]
noncomputable def a0:=bu t0 [0,1,1,1,1] P0
noncomputable abbrev t1:=bt a0
noncomputable abbrev bb:=ai t1 [3,2,1,1,1] P0
noncomputable abbrev t2:=ak bb
def bJ:=bH t2 a0
def au:=aF t2 CW [.st,.r]
end qX
namespace Pu
noncomputable abbrev t0:=aA U Tryz.f26 [] [3,4]
def au:=aF t0 Lq [.a 1,.s,.a 9,.I,.s,.I,.I,.U,.st,.I,.I,.I]
end Pu
namespace vS
noncomputable abbrev t0:=aA U Tryz.f85 [(6,ls [0,1,2,3,4,5,6,7,8])] []
noncomputable def L0:=bu t0 [0,1,1,1,2] [(0,.v [.s]),(1,.v [.s]),(12,.v [.I]),(13,.v [.I])]
noncomputable abbrev t1:=bt L0
def cU:=bH t1 L0
def ok:=aF t1 Lf [.s,.s]
end vS
namespace PC
noncomputable abbrev t0:=aA U Tryz.f52 [(1,ls [0,1,2,3,4,5,6,7,8,9,10,11,12,13,14,15,16,17,18,19,20,21,22,23,24,25,26,27,28,29,30,31,32,33,34,35,36,37,38,39,40,41,42,43,44,45,46,47,48,49,50,51,52,53,54,55,56,57,58,59,60,61,62,63,64,65,66,67,68,69,70,71,72,73,74,75])] []
def ok:=aF t0 LA [.r,.r]
end PC
namespace v8
noncomputable abbrev t0:=aA U Tryz.f27 [] [2]
noncomputable def a0:=bu t0 [0,1,1,1,1] [(1,.v [.r]),(2,.l [.s] lM),(8,.v [.I]),(9,.v [.I])]
noncomputable abbrev t1:=bt a0
def bJ:=bH t1 a0
def au:=aF t1 LB [.a 1,.s,.r]
end v8
namespace OO
noncomputable abbrev t0:=aA U Tryz.f101 [] []
def ok:=aF t0 La [.s]
end OO
namespace Pr
noncomputable abbrev t0:=aA U Tryz.f75 [(14,ls [0,1,2,3,4,5,6,7])] [2,4,7]
def au:=aF t0 Lo [.a 1,.s,.a 9,.I,.s,.I,.I,.U,.st,.I,.I,.I]
end Pr
namespace qY
noncomputable abbrev t0:=aA U Tryz.f41 [] [1]
abbrev P0:Ps:=[(1,.l [.s] lM),(3,.v [.s]),(7,.v [.I]),(8,.v [.I])]
noncomputable def a0:=bu t0 [0,1,1,1,2] P0
noncomputable abbrev t1:=bt a0
noncomputable abbrev bb:=ai t1 [3,2,1,1,2] P0
noncomputable abbrev t2:=ak bb
def bJ:=bH t2 a0
def au:=aF t2 Lr [.a 1,.s]
end qY
namespace NH
noncomputable abbrev t0:=aA U Tryz.f213 [(3,ls [0,1,2,3,4,5,6,7,8])] []
def ok:=aF t0 KW [.Y]
end NH
namespace N0
noncomputable abbrev t0:=aA U Tryz.f166 [] [2]
def au:=aF t0 yi [.a 4,.I,.Y,.Y,.s,.I]
end N0
namespace pc
noncomputable abbrev t0:=aA U Tryz.f196 [(9,ls [0,1,5,6,2,3,4,7,8,9,10,11])] [1,9]
noncomputable def ku:=bu t0 [0,1,1,1,7] [(1,.l [.I,.Y,.Y,.s] aO),(5,.v [.st]),(6,.v [.I]),(7,.v [.st]),(79,.v [.s]),(80,.v [.I]),(81,.v [.I])]
noncomputable abbrev t1:=bt ku
noncomputable abbrev cv:=ai t1 [3,2,2,2,1,1,7] [(1,.l [.I,.Y,.Y,.s] aO),(5,.v [.st]),(6,.v [.I]),(7,.v [.st]),(10,.v [.st]),(79,.v [.s]),(80,.v [.I]),(81,.v [.I])]
noncomputable abbrev t2:=ak cv
def oB:=bH t2 ku
abbrev P0:Ps:=[(1,.l [.I,.Y,.Y,.s] aO),(4,.v [.st]),(5,.v [.st]),(6,.v [.I])]
noncomputable abbrev bb:=ai t2 [4] P0
noncomputable abbrev t3:=ak bb
noncomputable abbrev aX:=ai t3 [3] P0
noncomputable abbrev t4:=ak aX
def au:=aF t4 KU [.a 4,.I,.Y,.Y,.s]
end pc
namespace DZ
noncomputable abbrev t0:=aA U Tryz.f143 [] [1]
def au:=aF t0 KR [.a 4,.I,.Y,.Y,.s]
end DZ
namespace Pz
noncomputable abbrev t0:=aA U Tryz.f114 [] [3,6]
def au:=aF t0 CX [.st]
end Pz
set_option maxHeartbeats 1000000
def M2(c:UInt8):sT c=m4 c:=by unfold sT m4;rw[Bool.and_assoc,Bool.and_assoc];rfl
def OR(c:UInt8):jN c=ec c:=rfl
def QZ:(List.range 256).all (λn=>pN .u8 (n:Int) 15==((n%16:Nat):Int))=true:=by kernel_rfl
def Ip{n:Nat}(d:n<16):(bj #[48,49,50,51,52,53,54,55,56,57,97,98,99,100,101,102])[n]? =some (h0 n):=by
 have:n=0\/n=1\/n=2\/n=3\/n=4\/n=5\/n=6\/n=7\/n=8\/n=9\/n=10\/n=11\/n=12\/n=13\/n=14\/n=15:=by omega
 (repeat' rcases this with rfl|this)<;>(try subst this)<;>rfl
def Dz(c:UInt8)(w:J):aj U KW #[.int .u8 (c.toNat:Int)] w λr g=>r=ae (.string (ba (dh c)))/\ah w g:=by
 have y:=c.toNat_lt;have h:O F0 w w [] []:=bO [] (by simp);refine NH.ok _ w _ (h.call (Gt c w) ?_);rintro _ B rfl e;refine⟨_,rfl,bh (λa=>?_) (λa=>?_)⟩
 .rw [M2]at a;refine e.sI (λi _ j b=>?_);have d:Bytes i ⟨some (ad B.heap.size),3,3⟩ [39,c,39]:=oH (T:=g7) b rfl;refine⟨ba [39,c,39],rE d,?_,j.fr⟩;unfold dh;rw[ag a]
 .rw [M2]at a;have q:Int.fdiv (c.toNat:Int) (2^(4))=((c.toNat / 16:Nat):Int):=by rw[Int.fdiv_eq_ediv_of_nonneg _ (by decide)];omega
  have x:pN .u8 (c.toNat:Int) 15=((c.toNat%16:Nat):Int):=eq_of_beq (List.all_eq_true.1 QZ c.toNat (List.mem_range.2 y));refine e.dr λz k=>?_;rw[q,x];refine⟨by omega,_,Ip (by omega),by omega,_,Ip (by omega),k.sI (λA _ f b=>?_)⟩;have d:Bytes A ⟨some (ad z.heap.size),4,4⟩ [92,120,h0 (c.toNat / 16),h0 (c.toNat%16)]:=oH (T:=g7) b rfl;refine⟨ba [92,120,h0 (c.toNat / 16),h0 (c.toNat%16)],rE d,?_,f.fr⟩;unfold dh;rw[ab (by rw[a];simp)]
abbrev E7(n:Nat):Prop:=∀(x:I) (w:J),x.sz<=n->ia x.rx=true->x.P w->aj U KU #[x.v] w λr a=>r=ae (.tuple #[.string (ba (a6 x.rx)),.i (cD x.rx:Int)])/\ah w a
def MK{n:Nat}(o:n<=1000000)(f:E7 n)(x:I)(a:Nat)(w:J)(j:x.sz<=n)(l:a<=1000)(d:ia x.rx=true)(g:x.P w):aj U yi #[x.v,.i (a:Int)] w λr k=>r=ae (.string (ba (cy a x.rx (a6 x.rx))))/\ah w k:=by
 refine N0.au _ _ _ _ _ w _ ((ga g).ay λm q b=>b.av (f x q j d (b.getD 0)) ?_);rintro _ z rfl e;have y:(a6 x.rx).length<=18000000:=by have:=wo x.rx;rw[I.dR]at this;omega
 have h:bj #[40]++ba (a6 x.rx)++bj #[41]=ba (40::(a6 x.rx++[41])):=by show ba [40]++ba (a6 x.rx)++ba [41]=_;rw[b7,b7];simp
 refine⟨_,_,rfl,aS (λc=>⟨?_,?_,?_,e.fr⟩) (λc=>⟨?_,e.fr⟩)⟩
 .rw [bC];show ¬(((1+_:Nat):Int)>9223372036854775807);omega
 .have:(bj #[40]++ba (a6 x.rx)).size=1+(a6 x.rx).length:=by show(ba [40]++_).size=_;rw[b7,bC];simp;omega
  rw[this];show ¬(((_+1:Nat):Int)>9223372036854775807);omega
 .rw [h];unfold cy;rw[ag (by omega)]
 .unfold cy;rw[ab (by omega)]
def MG:∀n:Nat,n<=1000000->E7 n
 |0,_=>λh B w _ _=>absurd w (by have:=I.lJ h;omega)
 |n+1,hn=>by
  have ih:=MG n (by omega);intro h B w a2 px;have hs:=I.hP h;have hl:=I.fB h.l;have nr:=I.cb px.parts.1;have aO:=a2;rw[I.eW]at aO;obtain⟨k0,k7,az,aZ⟩:=yt aO;have ak:(I.aq h.l).length=h.l.length:=by rw[I.fi,List.length_map]
  rw[ak]at az;have aL:∀a∈h.l,ia a.rx=true:=λa u=>yu aZ (by rw[I.fi];exact List.mem_map.2 ⟨a,u,rfl⟩);have aA:∀(a:I) (lv:Nat),a.sz<=1000000->(cy lv a.rx (a6 a.rx)).length<=18000002:=λa lv u=>by have x:=wo a.rx;rw[I.dR]at x;have:=(qD lv a.rx (a6 a.rx)).1;omega
  have aI:∀c,(dh c).length<=4:=λc=>by unfold dh;split<;>simp
  let R:aC:=λr w'=>r=ae (.tuple #[.string (ba (a6 h.rx)),.i (cD h.rx:Int)])/\ah B w'
  have one:∀(a:I) (Y:Nat) (q:J) (L:List En) (bs:List Nat) (K:ByteArray->J->Prop),Y<=1000->a∈h.l->O F0 B q L [.tree h]->(∀w2,O F0 B w2 L [.tree h]->K (ba (cy Y a.rx (a6 a.rx))) w2)->AW bs yi #[.agg #[.i a.k,.int .u8 (a.lo.toNat:Int),.int .u8 (a.hi.toNat:Int),a.s.v],.i (Y:Int)] q K:=by intro a Y q L bs K a0 u m hK;have aE:=I.ef u;refine m.av (MK (by omega) ih a Y q (by omega) a0 (aL a u) ((show h.P q from m.getD 0).parts.2.mem u)) ?_;rintro _ w2 rfl H2;exact⟨_,rfl,hK w2 H2⟩
  have H:a6 h.rx=a6 (.mk h.k h.lo h.hi (I.aq h.l)):=by rw[I.eW]
  have aw:cD h.rx=if h.k=6 then 3 else if h.k<3\/h.k=7\/h.l.length<2 then 4 else if h.k=3 then 2 else if h.k=4 then 0 else 1:=by rw[I.eW];unfold cD;dsimp only;rw[ak]
  have T:(h.k<3\/h.k=7\/h.l.length<2)->h.k≠6->(4:Int)=(cD h.rx:Int):=λx z=>by rw[aw,ab z,ag x];rfl
  refine pc.au _ _ _ _ B _ ((ga px).ay λC q m=>?_);have m:O F0 B q [.g C] [.tree h]:=m;refine ax (λhk=>⟨?_,m.fr⟩) (λN=>ax (λhk=>⟨?_,m.fr⟩) (λW=>ax (λQ=>?_) (λQ=>ax (λp=>?_) (λp=>ax (λS=>?_) (λS=>?_)))))
  .rw [<-T (.inl (by omega)) (by omega),H];unfold a6;rw[ag hk];rfl
  .rw [<-T (.inl (by omega)) (by omega),H];unfold a6;rw[ab N,ag hk];rfl
  .have e2:a6 h.rx=if h.lo=h.hi then dh h.lo else 91::(dh h.lo++45::(dh h.hi++[93])):=by rw[H];unfold a6;rw[ab N,ab W,ag Q]
   rw[<-T (.inl (by omega)) (by omega)];refine ax (λaF=>m.av (Dz h.lo q) ?_) (λaF=>m.af λw5 H5=>H5.av (Dz h.lo w5) ?_)
   .rintro _ D rfl A;exact⟨_,rfl,by rw[e2,ag (UInt8.toNat_inj.1 (by omega))],A.fr⟩
   .rintro _ V rfl G;have x:=aI h.lo;have z:=aI h.hi;have s0:bj #[91]++ba (dh h.lo)++bj #[45]=ba (91::dh h.lo++[45]):=by show ba [91]++ba (dh h.lo)++ba [45]=_;rw[b7,b7];rfl
    refine⟨_,rfl,?_,?_,G.av (Dz h.hi V) ?_⟩
    .rw [bC];show ¬(((1+_:Nat):Int)>9223372036854775807);omega
    .have:(bj #[91]++ba (dh h.lo)).size=1+(dh h.lo).length:=by show(ba [91]++_).size=_;rw[b7,bC];simp;omega
     rw[this];show ¬(((_+1:Nat):Int)>9223372036854775807);omega
    rintro _ y rfl E;rw[s0];have:ba (91::dh h.lo++[45]++dh h.hi)++bj #[93]=ba (91::dh h.lo++[45]++dh h.hi++[93]):=by show _++ba [93]=_;rw[b7]
    refine⟨_,rfl,?_,?_,?_,E.fr⟩
    .rw [bC,bC];simp only[b',cT,n7];show ¬(((_:Nat):Int)>9223372036854775807);omega
    .rw [b7,bC];simp only[b',cT,n7];show ¬(((_+1:Nat):Int)>9223372036854775807);omega
    .rw [b7,this,e2,ab (λw=>aF (by rw[w]))];simp
  .have x:=az (.inl p);have e6:a6 h.rx=33::jD (cZ 3 (I.aq h.l)):=by rw[H];unfold a6;rw[ab N,ab W,ab Q,ag p]
   have e3:(3:Int)=(cD h.rx:Int):=by rw[aw,ag p];rfl
   match dU:h.l,x with
   |[a],_=>
    have u:a∈h.l:=by rw[dU];simp
    have aE:=I.ef u;refine je (show h.P q from m.getD 0) (k:=0) rfl (by rw[dU];rfl) (one a 3 q _ _ _ (by omega) u m λD A=>⟨?_,?_,A.fr⟩)
    .have:=aA a 3 (by omega);rw[bC];show ¬(((1+_:Nat):Int)>9223372036854775807);omega
    .have:bj #[33]++ba (cy 3 a.rx (a6 a.rx))=ba (33::cy 3 a.rx (a6 a.rx)):=by show ba [33]++_=_;rw[b7];rfl
     rw[this,e6,dU,<-e3];rfl
  .have x:=az (.inr S);have e7:a6 h.rx=jD (cZ 4 (I.aq h.l))++[42]:=by rw[H];unfold a6;rw[ab N,ab W,ab Q,ab p,ag S]
   match dU:h.l,x with
   |[a],_=>
    have u:a∈h.l:=by rw[dU];simp
    have aE:=I.ef u;refine je (show h.P q from m.getD 0) (k:=0) rfl (by rw[dU];rfl) (one a 4 q _ _ _ (by omega) u m λD A=>⟨?_,?_,A.fr⟩)
    .have:=aA a 4 (by omega);rw[bC];show ¬(((_+1:Nat):Int)>9223372036854775807);omega
    .have:ba (cy 4 a.rx (a6 a.rx))++bj #[42]=ba (cy 4 a.rx (a6 a.rx)++[42]):=by show _++ba [42]=_;rw[b7]
     rw[this,e7,dU,<-T (.inr (.inl S)) p];rfl
  have hk:h.k=3\/h.k=4\/h.k=5:=by omega
  have S1:∀(j f:BL) (b:Nat),j.length=3->qp h.k=j++[40]->gB h.k=f->b<=2->(2<=h.l.length->cD h.rx=b)->pc.bb C h.k h.lo.toNat h.hi.toNat h.s (ba j) (ba f) (b:Int) q R:=by
   intro j f b hw aN aD a4 aa;have aH:h.l.length<2->a6 h.rx=qp h.k++(jD (cZ 0 (I.aq h.l))++[41]):=λw=>by rw[H];unfold a6;rw[ab N,ab W,ab Q,ab p,ab S,ag (by rw[ak];omega)]
   refine ax (λh0=>?_) (λh0=>ax (λx=>?_) (λx=>?_))
   .have hx:h.l=[]:=List.length_eq_zero_iff.1 (by omega);refine⟨?_,?_,m.fr⟩
    .rw [bC];show ¬(((_+2:Nat):Int)>9223372036854775807);omega
    .have:ba j++bj #[40,41]=ba (j++[40,41]):=by show _++ba [40,41]=_;rw[b7]
     rw[this,<-T (.inr (.inr (by omega))) p,aH (by omega),aN,hx];simp[I.aq,cZ,jD]
   .match dU:h.l with
    |[]=>rw[dU]at nr;simp at nr;omega
    |_::_::_=>rw[dU]at nr;simp at nr;omega
    |[a]=>
     have u:a∈h.l:=by rw[dU];simp
     have aE:=I.ef u;have hp:=aA a 0 (by omega);refine⟨?_,je (show h.P q from m.getD 0) (k:=0) rfl (by rw[dU];rfl) (one a 0 q _ _ _ (by omega) u m λD A=>⟨?_,?_,?_,A.fr⟩)⟩
     .rw [bC];show ¬(((_+1:Nat):Int)>9223372036854775807);omega
     .have:ba j++bj #[40]=ba (j++[40]):=by show _++ba [40]=_;rw[b7]
      rw[this,bC,bC];simp only[b',cT,n7];show ¬(((_:Nat):Int)>9223372036854775807);omega
     .have:ba j++bj #[40]++ba (cy 0 a.rx (a6 a.rx))=ba (j++[40]++cy 0 a.rx (a6 a.rx)):=by show _++ba [40]++_=_;rw[b7,b7]
      rw[this,bC];simp only[b',cT,n7];show ¬(((_+1:Nat):Int)>9223372036854775807);omega
     .have:ba j++bj #[40]++ba (cy 0 a.rx (a6 a.rx))++bj #[41]=ba (j++[40]++cy 0 a.rx (a6 a.rx)++[41]):=by show _++ba [40]++_++ba [41]=_;rw[b7,b7,b7]
      rw[this,<-T (.inr (.inr (by rw[dU];simp))) p,aH (by rw[dU];simp),aN,dU];simp[I.aq,cZ,jD]
   .have z:2<=h.l.length:=by omega
    have aa:=aa z;have ej:a6 h.rx=xD h.k (cZ (b+1) (I.aq h.l)):=by
     conv=>lhs;rw[H];unfold a6;rw[ab N,ab W,ab Q,ab p,ab S,ab (by rw[ak];omega)]
     rw[<-I.eW,aa]
    have a7:f.length<=1:=by rw[<-aD];unfold gB;split<;>(try split)<;>simp
    have loop:∀(d i:Nat) (e:BL) (D:J),i+d=h.l.length->(1<=i->0<e.length)->(i=0->e=[])->e.length+gU (cZ (b+1) (I.aq (h.l.drop i)))<=40000000->a6 h.rx=(if i=0 then xD h.k (cZ (b+1) (I.aq (h.l.drop i)))else i' h.k e (cZ (b+1) (I.aq (h.l.drop i))))->O F0 B D [.g C] [.tree h]->
      pc.ku C h.k h.lo.toNat h.hi.toNat h.s (ba f) (b:Int) (ba e) h.s ((h.s.n:Nat):Int) (i:Int) D R:=by
     intro d;induction d with
     |zero=>
      intro i e D aX ao hz ap M A;refine pc.oB _ _ _ _ _ _ _ _ _ _ _ _ _ (aV (aP (by omega)) ⟨?_,A.fr⟩);rw[M,de (by omega),ab (by omega),aa];rfl
     |succ d a3=>
      intro i e D aX ao hz ap M A;have hg:h.l[i]? =some (h.l[i]'(by omega)):=a5 (by omega);have aJ:h.l.drop i=(h.l[i]'(by omega))::h.l.drop (i+1):=dk (by omega);generalize h.l[i]'(by omega)=c at hg aJ;have hc:=aB hg;have a8:=I.ef hc;rw[aJ]at M ap;have ap:e.length+((cy (b+1) c.rx (a6 c.rx)).length+2+gU (cZ (b+1) (I.aq (h.l.drop (i+1)))))<=40000000:=by
       have:gU (cZ (b+1) (I.aq (c::h.l.drop (i+1))))=(cy (b+1) c.rx (a6 c.rx)).length+2+gU (cZ (b+1) (I.aq (h.l.drop (i+1)))):=by simp[I.aq,cZ,gU]
       omega
      have aW:0<(cy (b+1) c.rx (a6 c.rx)).length:=by have x:=zN c.rx (aL c hc);have:=(qD (b+1) c.rx (a6 c.rx)).2;omega
      have aU:aG .i64 ((b:Int)+1)=((b+1:Nat):Int):=bw _ (by omega);have aK:i=0->a6 h.rx=i' h.k (cy (b+1) c.rx (a6 c.rx)) (cZ (b+1) (I.aq (h.l.drop (i+1)))):=λw=>by rw[ag w]at M;rw[M];rfl
      have F:i≠0->a6 h.rx=i' h.k ((if h.k=3/\ec (j5 e)=true/\ec (gQ (cy (b+1) c.rx (a6 c.rx)) 0)=true then e++[32]else e)++gB h.k++cy (b+1) c.rx (a6 c.rx)) (cZ (b+1) (I.aq (h.l.drop (i+1)))):=λw=>by rw[ab w]at M;rw[M];rfl
      refine pc.oB _ _ _ _ _ _ _ _ _ _ _ _ _ (aT (aM (by omega)) (je (show h.P D from A.getD 0) rfl hg (A.ay λb9 w4 H4=>H4.af λw5 H5=>?_)));rw[aU];refine one c (b+1) w5 _ _ _ (by omega) hc H5 λV G=>?_;have G:O F0 B V [.g C,.g b9] [.tree h]:=G;generalize cy (b+1) c.rx (a6 c.rx)=t at aK F ap aW;have go:∀(o:BL) (y:J),o.length<=e.length+1->e.length<=o.length->a6 h.rx=i' h.k (o++t) (cZ (b+1) (I.aq (h.l.drop (i+1))))->O F0 B y [.g C,.g b9] [.tree h]->pc.cv C h.k h.lo.toNat h.hi.toNat h.s (ba f) (b:Int) (ba o) (ba t) h.s ((h.s.n:Nat):Int) (i:Int) y R:=by
       intro o y x z h3 E;refine⟨?_,?_⟩
       .rw [bC,bC];show ¬(((_:Nat):Int)>9223372036854775807);omega
       .rw [b7,bw _ (by omega)];refine a3 (i+1) (o++t) y (by omega) (λ_=>by simp only[b'];omega) (λw=>by omega) (by simp only[b'];omega) (by rw[ab (by omega)];exact h3) (E.take 1)
      refine aS (λaQ=>⟨?_,?_⟩) (λaQ=>go e V (by omega) (be _) (by rw[hz (by omega)];exact aK (by omega)) G)
      .rw [bC,bC];show ¬(((_:Nat):Int)>9223372036854775807);omega
      have F:=F (by omega);have ao:=ao (by omega);rw[aD]at F;have ea:ba e++ba f=ba (e++f):=b7 _ _;have ar:∀y,O F0 B y [.g C,.g b9] [.tree h]->¬(h.k=3/\ec (j5 e)=true/\ec (gQ t 0)=true)->pc.cv C h.k h.lo.toNat h.hi.toNat h.s (ba f) (b:Int) (ba (e++f)) (ba t) h.s ((h.s.n:Nat):Int) (i:Int) y R:=λy E bc=>go (e++f) y (by simp only[b'];omega) (by simp only[b'];omega) (by rw[ab bc]at F;exact F) E;rw[ea];refine ax (λal=>?_) (λal=>ar V G (λw=>al w.1));have s3:f=[]:=by rw[<-aD];unfold gB;rw[ag al]
      have e9:e++f=e:=by rw[s3,List.append_nil]
      rw[e9]at ar ⊢;have eo:aG .i64 ((((ba e).size:Nat):Int) - 1)=((e.length - 1:Nat):Int):=by rw[bC,bm _ (by omega)];omega
      rw[eo];refine⟨by omega,j5 e,?_,G.av (wY (j5 e) V) ?_⟩
      .rw [bZ,gi (s:=ba e) (by rw[bC];omega),kC,IU e ao]
      rintro _ y rfl E;refine⟨_,rfl,bh (λam=>⟨by omega,gQ t 0,?_,E.av (wY (gQ t 0) y) ?_⟩) (λam=>ar y E (λw=>by rw[OR,w.2.1]at am;cases am))⟩
      .rw [show a1 0=0 from rfl,gi (s:=ba t) (by rw[bC];omega),kC]
      rintro _ w8 rfl H8;refine⟨_,rfl,bh (λan=>⟨?_,?_⟩) (λan=>ar w8 H8 (λw=>by rw[OR,w.2.2]at an;cases an))⟩
      .rw [bC];show ¬(((_+1:Nat):Int)>9223372036854775807);omega
      .have aR:ba e++bj #[32]=ba (e++[32]):=by show _++ba [32]=_;rw[b7]
       rw[aR];refine go (e++[32]) w8 (by simp) (by simp) ?_ H8;rw[ag ⟨al,am,an⟩,s3,List.append_nil]at F;exact F
    have h3:=q2 (b+1) (I.aq h.l);have Z:Rx.aY (I.aq h.l)=I.aY h.l:=I.vO h.l;exact loop h.l.length 0 [] q (by omega) (λw=>by omega) (λ_=>rfl) (by rw[List.drop_zero];simp;omega) (by rw[ag rfl,List.drop_zero];exact ej) m
  have bd:2<=h.l.length->cD h.rx=if h.k=3 then 2 else if h.k=4 then 0 else 1:=λz=>by rw[aw,ab p,ab (by omega)]
  refine ax (λZ=>S1 [97,108,116] [124] 0 rfl (by rw[Z];rfl) (by rw[Z];rfl) (by omega) (λz=>by rw[bd z,Z];rfl)) (λZ=>ax (λh5=>S1 [97,108,108] [38] 1 rfl (by rw[h5];rfl) (by rw[h5];rfl) (by omega) (λz=>by rw[bd z,h5];rfl)) (λh5=>S1 [99,97,116] [] 2 rfl (by rw[show h.k=3 by omega];rfl) (by rw[show h.k=3 by omega];rfl) (by omega) (λz=>by rw[bd z,show h.k=3 by omega];rfl)))
def MJ(x:I)(a:Nat)(w:J)(h:x.sz<=1000000)(b:a<=1000)(c:ia x.rx=true)(d:x.P w):aj U yi #[x.v,.i (a:Int)] w λr e=>r=ae (.string (ba (cy a x.rx (a6 x.rx))))/\ah w e:=MK (be _) (MG 1000000 (be _)) x a w h b c d
def dF(w:J)(p:Addr)(d:Nd):Prop:=∀i v,(Nd.c d)[i]? =some v->w.cell? (p.add i)=some v
def dF.st{w V:J}{p:Addr}{d:Nd}(j:dF w p d)(b:p.block<w.heap.size->V.heap[p.block]? =w.heap[p.block]?):dF V p d:=λi v a=>by have e:=j i v a;have h:=pV e;rw[jv]at h;unfold World.cell? at e ⊢;rw[jv]at e ⊢;rw[b h];exact e
def dF.lt{w:J}{p:Addr}{d:Nd}(e:dF w p d):p.block<w.heap.size:=by
 have:=pV (e 0 _ rfl)
 rwa[jv]at this
def _root_.Go.W.En.gb(p:Addr)(d:Nd):En:=⟨[p.block],λe=>dF e p d,λe j h a=>a.st (h p.block (by simp)),λe a b c=>by simp at c;subst c;exact dF.lt a,by simp⟩
def CY{w:J}{b:Nat}{d:Nd}{T:aD}(e:w.heap[b]? =some (.cells (Nd.c d).toArray T (0,0))):dF w (ad b) d:=λi v a=>cellAt (p:=ad b) e rfl (by simpa using a)
section
variable {w:J} {p:Addr} {d:Nd} (h:dF w p d)
include h
def dF.c0:w.cell? (p.add 0)=some (.i d.x.op):=h 0 _ rfl
def dF.c1:w.cell? (p.add 1)=some d.ks.v:=h 1 _ rfl
def dF.c2:w.cell? (p.add 2)=some (.i d.x.n):=h 2 _ rfl
def dF.c3:w.cell? (p.add 3)=some (.i d.x.m):=h 3 _ rfl
def dF.c4:w.cell? (p.add 4)=some (.u d.x.u):=h 4 _ rfl
def dF.c5:w.cell? (p.add 5)=some (.string d.x.tx):=h 5 _ rfl
def dF.s0:w.cell? ((p.add 6).add 0)=some (.i d.x.st.k):=by rw[add_add];exact h 6 _ rfl
def dF.s1:w.cell? ((p.add 6).add 1)=some (.i d.x.st.n):=by rw[add_add];exact h 7 _ rfl
def dF.s2:w.cell? ((p.add 6).add 2)=some (.i d.x.st.x):=by rw[add_add];exact h 8 _ rfl
end
def jg(n:Int)(w:J):aj U Lt #[.i n] w λr d=>r=ae (dq (a' n))/\ah w d:=
 Pw.au _ w _ ((bO [] (by simp)).ay λb e a=>a.af λf c=>⟨rfl,c.fr⟩)
def tv(n:Int)(w:J):aj U LL #[.i n] w λr d=>r=ae (dq (eN n))/\ah w d:=
 PF.au _ w _ ((bO [] (by simp)).ay λb e a=>a.af λf c=>⟨rfl,c.fr⟩)
def qV(s:aU)(w:J):aj U Lx #[dq s] w λr c=>r=ae (.bool (s.k==0))/\ah w c:=
 Py.au _ _ _ w _ ((bO [] (by simp)).ay λb d a=>⟨rfl,a.fr⟩)
def jh(s:aU)(w:J):aj U Lz #[dq s] w λr c=>r=ae (.bool (s.k==1))/\ah w c:=
 PA.au _ _ _ w _ ((bO [] (by simp)).ay λb d a=>⟨rfl,a.fr⟩)
def EG(s:aU)(w:J):aj U Lw #[dq s] w λr c=>r=ae (.bool (dP s))/\ah w c:=
 Px.au _ _ _ w _ ((bO [] (by simp)).ay λb e a=>ax (λd=>⟨by unfold dP;rw[d];rfl,a.fr⟩) (λd=>⟨by unfold dP;rw[beq_eq_false_iff_ne.2 d];rfl,a.fr⟩))
def Pj(x y:aU)(w:J):aj U Ls #[dq x,dq y] w λr g=>r=ae (.bool (ao (x=y)||(x.k==1&&y.k==1)))/\ah w g:=by refine Pv.au _ _ _ _ _ _ w _ ((bO [] (by simp)).ay λb l f=>f.ay λz i h=>mg (a:=x) (b:=y) (λc=>⟨by rw[aM c];rfl,h.fr⟩) (λc=>h.av (jh x i) ?_));rintro _ q rfl e;rw[aP c,Bool.false_or];refine⟨_,rfl,ax (λd=>e.av (jh y q) ?_) (λd=>⟨by rw[beq_eq_false_iff_ne.2 d];rfl,e.fr⟩)⟩;rintro _ A rfl j;exact⟨_,rfl,by rw[d];rfl,j.fr⟩
def D3(b a:Bool):Int:=if b=true then(if a=true then 0 else 5)else 9
def Zk(s:aU)(c a:Bool)(w:J):aj U yj #[dq s,.bool c,.bool a] w λr j=>r=gk (s,D3 c a)/\ah w j:=by refine PB.au _ _ _ _ _ w _ ((bO [] (by simp)).ay λb l i=>i.ay λk m h=>ey (λe=>h.af λg d=>⟨by rw[e];rfl,d.fr⟩) (λe=>ey (λf=>h.af λg d=>⟨by rw[e,f];rfl,d.fr⟩) (λf=>h.af λg d=>⟨by rw[e,f];rfl,d.fr⟩)))
def EE(s:aU)(w:J):aj U LM #[dq s] w λr h=>r=ae (.int .i64 (fy s))/\ah w h:=by
 refine zD.au _ _ _ w _ ((bO [] (by simp)).ay λy m p=>?_);have q:bo s=true->(Ending.returned (Value.int .i64 0)=ae (.int .i64 (fy s))/\ah w m):=λe=>⟨by unfold fy;rw[ag e],p.fr⟩;have bad:bo s=false->(Ending.returned (Value.int .i64 9)=ae (.int .i64 (fy s))/\ah w m):=λe=>⟨by unfold fy;rw[ab (by simp[e])],p.fr⟩;have plain:∀a:Int,(∀c:a<=s.n,s.n<=64->s.x=0->bo s=true)->(¬(a<=s.n/\s.n<=64/\s.x=0)->bo s=false)->zD.aX y s.k s.n s.x a 64 false m λr h=>r=ae (.int .i64 (fy s))/\ah w h:=by intro a c b;exact aS (λe=>bad (b (by omega))) (λe=>aS (λo=>bad (b (by omega))) (λo=>aV rfl (aT rfl (bY (λd=>bad (b (λt=>d t.2.2))) (λd=>q (c (by omega) (by omega) d))))))
 have array:∀a:Int,(∀c:a<=s.n,s.n<=64->1<=s.x->s.x<=16->bo s=true)->(¬(a<=s.n/\s.n<=64/\1<=s.x/\s.x<=16)->bo s=false)->zD.aX y s.k s.n s.x a 64 true m λr h=>r=ae (.int .i64 (fy s))/\ah w h:=by intro a c b;exact aS (λe=>bad (b (by omega))) (λe=>aS (λo=>bad (b (by omega))) (λo=>aT rfl (aS (λd=>bad (b (by omega))) (λd=>aS (λi=>bad (b (by omega))) (λi=>aV rfl (q (c (by omega) (by omega) (by omega) (by omega))))))))
 refine ax (λl=>plain 1 (λc b d=>?_) (λe=>?_)) (λl=>ax (λj=>plain 0 (λc b d=>?_) (λe=>?_)) (λj=>ax (λf=>array 1 (λc b d i=>?_) (λe=>?_)) (λf=>ax (λg=>array 0 (λc b d i=>?_) (λe=>?_)) (λg=>bad ?_))))
 .unfold bo;simp[l,c,b,d]
 .unfold bo;rw[l];simp;omega
 .unfold bo;simp[j,c,b,d]
 .unfold bo;rw[j];simp;omega
 .unfold bo;simp[f,c,b,d,i]
 .unfold bo;rw[f];simp;omega
 .unfold bo;simp[g,c,b,d,i]
 .unfold bo;rw[g];simp;omega
 .unfold bo;simp[l,j,f,g]
def Y1{s:ByteArray}{i:Nat}(d:i<s.size):s[i]? =some (gQ (bl s) i):=by
 have h:i<(bl s).length:=d;have e:gQ (bl s) i=(bl s)[i]:=by unfold gQ;rw[List.getD_eq_getElem?_getD,a5 h];rfl
 rw[e,getElem?_pos s i d];rfl
def Zg(s:ByteArray)(w:J):aj U Ly #[.string s] w λr a=>r=ae (.bool (h8 (bl s)))/\ah w a:=by
 have h:(bl s).length=s.size:=c9 s;have qo:∀(c:UInt8) (m:List UInt8),h8 (c::m)=(ao (m.length<=15)&&fJ c&&m.all dC):=λ_ _=>rfl;cases k:bl s with
 |nil=>
  have b:s.size=0:=by rw[<-h,k];rfl
  exact nc.ok s w _ (aT (aM (by omega)) ⟨rfl,Fr.refl _ _⟩)
 |cons c m=>
  have K:s.size=m.length+1:=by rw[<-h,k];rfl
  have B:gQ (bl s) 0=c:=by rw[k];rfl
  refine nc.ok s w _ (aV (aP (by omega)) (aS (λe=>⟨?_,Fr.refl _ _⟩) (λe=>?_)))
  .rw [qo,aP (by omega)];rfl
  have E:h8 (c::m)=(fJ c&&m.all dC):=by rw[qo,aM (by omega:m.length<=15),Bool.true_and]
  rw[E];have loop:∀(d i:Nat),i+d=s.size->(fJ c&&m.all dC)=(if i=0 then(fJ c&&m.all dC)else((bl s).drop i).all dC)->nc.L1 s (i:Int) w λr a=>r=ae (.bool (fJ c&&m.all dC))/\ah w a:=by
   intro d;induction d with
   |zero=>
    intro i F j;rw[de (by omega),ab (by omega)]at j;exact nc.i1 _ _ _ _ (aV (aP (by omega)) ⟨by rw[j];rfl,Fr.refl _ _⟩)
   |succ d H=>
    intro i F j;have C:=Y1 (show i<s.size by omega);have D:(bl s).drop i=gQ (bl s) i::(bl s).drop (i+1):=by rw[dk (by omega:i<(bl s).length)];unfold gQ;rw[List.getD_eq_getElem?_getD,a5 (by omega:i<(bl s).length)];rfl
    have go:(if i=0 then fJ (gQ (bl s) i)else dC (gQ (bl s) i))=true->nc.S5 s (i:Int) w λr a=>r=ae (.bool (fJ c&&m.all dC))/\ah w a:=λe=>by
     show nc.L1 s (aG .i64 ((i:Int)+1)) w _;rw[bw _ (by omega)];refine H (i+1) (by omega) ?_;rw[ab (by omega)];by_cases b:i=0
     .subst b;rw[ag rfl,B]at e;rw[e,Bool.true_and];rw[k];rfl
     .rw [ab b]at e j;rw[j,D,List.all_cons,e,Bool.true_and]
    have stop:(if i=0 then fJ (gQ (bl s) i)else dC (gQ (bl s) i))=false->nc.S4 w λr a=>r=ae (.bool (fJ c&&m.all dC))/\ah w a:=λe=>by
     refine⟨?_,Fr.refl _ _⟩;by_cases b:i=0
     .subst b;rw[ag rfl,B]at e;rw[e,Bool.false_and]
     .rw [ab b]at e j;rw[j,D,List.all_cons,e,Bool.false_and]
    generalize gQ (bl s) i=x at C go stop;have A:∀l:Bool,l=fJ x->nc.S3 s (i:Int) ((x.toNat:Nat):Int) l w λr a=>r=ae (.bool (fJ c&&m.all dC))/\ah w a:=by
     intro l h;refine ey (λn=>?_) (λz=>go ?_)
     .rw [n]at h;refine ax (λb=>stop ?_) (λb=>?_)
      .rw [ag (by omega),<-h]
      have G:i≠0:=by omega
      rw[ab G]at go stop;have q:dC x=((ao (48<=x.toNat)&&ao (x.toNat<=57))||x==45):=by unfold dC;rw[<-h,Bool.false_or]
      refine bY (λf=>aS (λg=>stop ?_) (λg=>aS (λI=>stop ?_) (λI=>go ?_))) (λf=>go ?_)
      .rw [q,aP (show ¬48<=x.toNat by omega)];have:(x==45)=false:=beq_eq_false_iff_ne.2 λy=>f (by subst y;rfl);rw[this];rfl
      .rw [q,aP (show ¬x.toNat<=57 by omega),Bool.and_false];have:(x==45)=false:=beq_eq_false_iff_ne.2 λy=>f (by subst y;rfl);rw[this];rfl
      .rw [q,aM (show 48<=x.toNat by omega),aM (show x.toNat<=57 by omega)];rfl
      .have:x=45:=UInt8.toNat_inj.1 (by have:((45:UInt8).toNat:Int)=45:=rfl;omega);rw[q,this];rfl
     .rw [z]at h;split
      .exact h.symm
      .unfold dC;rw[<-h];rfl
    have z:((i:Int)).toNat=i:=bZ i;refine nc.i1 _ _ _ _ (aT (aM (by omega)) ⟨by omega,x,by rw[z];exact C,aS (λg=>A _ ?_) (λg=>A _ ?_)⟩)
    .unfold fJ;rw[aM (show 97<=x.toNat by omega),Bool.true_and];exact decide_eq_decide.2 (by omega)
    .unfold fJ;rw[aP (show ¬97<=x.toNat by omega),Bool.false_and]
  exact loop s.size 0 (by omega) (by rw[ag rfl])
def Tv(t:ByteArray):(t.toList==(bj #[]).toList)=ao (t=ba []):=wg _ _
def Zf{w:J}{p:Addr}{d:Nd}(j:dF w p d):aj U Lu #[.pointer (some p)] w λr i=>r=ae (.bool (hq d.x))/\ah w i:=by
 have y:∀a b c e:Bool,v5.S1 p a b c e w λr i=>r=ae (.bool ((a||d.x.n==0)&&(b||d.x.m==0)&&(c||d.x.u==0)&&(e||ao (d.x.tx=ba []))))/\ah w i:=by
  intro a b c e;cases a<;>cases b<;>cases c<;>cases e;all_goals repeat (first |refine aV rfl ?_|refine aT rfl ?_|refine⟨_,j.c2,ax (λf=>?_) (λf=>⟨by rw[beq_eq_false_iff_ne.2 f];simp,Fr.refl _ _⟩)⟩|refine⟨_,j.c3,ax (λg=>?_) (λg=>⟨by rw[beq_eq_false_iff_ne.2 g];simp,Fr.refl _ _⟩)⟩|refine⟨_,j.c4,ax (λk=>?_) (λk=>⟨by rw[beq_eq_false_iff_ne.2 k];simp,Fr.refl _ _⟩)⟩|refine⟨_,j.c5,?_,Fr.refl _ _⟩)
  all_goals first |exact⟨by simp[*],Fr.refl _ _⟩|(rw[Tv];simp[*])
 have fin:∀a b c e:Bool,a=lq d.x.op->b=(d.x.op==21)->c=(d.x.op==1)->e=lr d.x.op->v5.S1 p a b c e w λr i=>r=ae (.bool (hq d.x))/\ah w i:=by rintro a b c e rfl rfl rfl rfl;exact y _ _ _ _
 have B:∀q:Int,d.x.op≠q->(d.x.op==q)=false:=λq s=>beq_eq_false_iff_ne.2 s;have z:∀e:Bool,e=lr d.x.op->v5.S2 p false false false e d.x.op w λr i=>r=ae (.bool (hq d.x))/\ah w i:=by intro e h;refine ax (λo=>fin _ _ _ _ ?_ ?_ ?_ h) (λo=>ax (λf=>fin _ _ _ _ ?_ ?_ ?_ h) (λf=>ax (λg=>aT (beq_iff_eq.2 g) (fin _ _ _ _ ?_ ?_ ?_ h)) (λg=>ax (λk=>aT (beq_iff_eq.2 k) (fin _ _ _ _ ?_ ?_ ?_ h)) (λk=>ax (λA=>fin _ _ _ _ ?_ ?_ ?_ h) (λA=>fin _ _ _ _ ?_ ?_ ?_ h)))));all_goals first |(rw[‹d.x.op=_›];rfl)|(simp[lq, *])
 refine v5.ok p w _ ⟨_,j.c0,ax (λl=>aT (beq_iff_eq.2 l) (fin _ _ _ _ ?_ ?_ ?_ ?_)) (λl=>ax (λf=>aT (beq_iff_eq.2 f) (fin _ _ _ _ ?_ ?_ ?_ ?_)) (λf=>ax (λg=>fin _ _ _ _ ?_ ?_ ?_ ?_) (λg=>z _ ?_)))⟩;all_goals first |(rw[‹d.x.op=_›];rfl)|(unfold lr;simp[*])
def iY(s:aU)(e:Int)(r:cA):Prop:=∃(t:aU) (a:Int),r=gk (t,a)/\a=e/\(e=0->t=s)
def xN{w:J}{p:Addr}{d:Nd}(h:dF w p d):O F0 w w [] [.gb p d]:=bO _ (by intro j e;simp only[aE,aZ,a2]at e;subst e;exact h)
def h5(n:Nx)(x y d:aU):Int:=if cR n.op x y d=false then 9 else if ie n x y d=false then 5 else if n.op=33/\kD n.tx=false then 2 else 0
def XN{n:Nx}{x y j t:aU}{e ranges:Bool}(c:n.op≠33)(a:e=cR n.op x y j)(b:e=true->ranges=ie n x y j)(d:e=true->ranges=true->t=hx n x y j):iY (hx n x y j) (h5 n x y j) (gk (t,D3 e ranges)):=by
 refine⟨t,_,rfl,?_,λh=>?_⟩
 .unfold D3 h5;rw[<-a];cases e with
  |false=>rfl
  |true=>
   rw[<-b rfl];cases ranges with
   |false=>rfl
   |true=>simp[c]
 .unfold h5 at h;rw[<-a]at h;cases e with
  |false=>simp at h
  |true=>
   rw[<-b rfl]at h;cases ranges with
   |false=>simp at h
   |true=>exact d rfl rfl
section
variable {M:Nat->Prop} {w0 w:J} {L D:List En} {bs Ro:List Nat}
def dN(H:O F0 w0 w L D){n:Nx}{x y e:aU}(t:aU)(f d:Bool)(j:n.op≠33)(m:f=cR n.op x y e)(o:f=true->d=ie n x y e)(p:f=true->d=true->t=hx n x y e)(k:∀b∈bs,En.g b∈L:=by simp):
  fq Ro U yj #[dq t,.bool f,.bool d] w λr z=>∃a b c h:Int,r=ae (.tuple #[.agg #[.i a,.i b,.i c],.i h])/\loc bs z λs=>iY (hx n x y e) (h5 n x y e) (ae (.tuple #[.agg #[.i a,.i b,.i c],.i h]))/\ah w0 s:=by refine H.av (Zk t f d w) ?_;rintro _ A rfl q;exact⟨_,_,_,_,rfl,q.af (λu l=>⟨XN j m o p,l.fr⟩) k⟩
end
def ox(s:aU):Prop:=0<=s.n/\s.n<=64
def ZQ{s:aU}(d:bo s=true):ox s:=⟨(lN d).1,(lN d).2.1⟩
def L':ox bg:=⟨by decide,by decide⟩
def Ze{w:J}{p:Addr}{d:Nd}{x y e:aU}(q:dF w p d)(h4:4<=d.x.op)(am:d.x.op<=23)(al:ox x)(hy:ox y)(hn:dx d.x.n)(hm:dx d.x.m):
  aj U LG #[.pointer (some p),dq x,dq y,dq e] w λr T=>iY (hx d.x x y e) (h5 d.x x y e) r/\ah w T:=by
 refine EH.au _ _ _ _ _ _ _ _ _ _ w _ ((xN q).ay λW w1 H1=>H1.ay λY w2 H2=>H2.ay λZ w3 H3=>H3.ay λb8 w4 B=>?_);obtain⟨⟨op,kids,n,m,u,F,st⟩,S⟩:=d;have A:∀{i:J} {L:List En},O F0 w i L [.gb p ⟨⟨op,kids,n,m,u,F,st⟩,S⟩]->dF i p ⟨⟨op,kids,n,m,u,F,st⟩,S⟩:=λai=>ai.getD 0;simp only at h4 am hn hm;refine⟨op,(A B).c0,?_⟩;obtain⟨aw,az⟩:=al;obtain⟨aA,aB⟩:=hy;obtain⟨aq,ar⟩:=hn;obtain⟨an,ap⟩:=hm;have two:∀(c:Bool),c=true->c=true:=λ_ q=>q;rcases sL (by omega) (by omega:op<=34)with rfl|rfl|rfl|rfl|rfl|rfl|rfl|rfl|rfl|rfl|rfl|rfl|rfl|rfl|rfl|rfl|rfl|rfl|rfl|rfl|rfl|rfl|rfl|rfl|rfl|rfl|rfl|rfl|rfl|rfl|rfl|rfl|rfl|rfl|rfl
 iterate 4 omega
 rotate_left 20
 iterate 11 omega
 all_goals repeat (first |refine aV rfl ?_|refine aT rfl ?_)
 iterate 2
  .refine B.af λi j=>j.av (qV x i) ?_;rintro _ l rfl f;exact⟨_,rfl,dN f x _ true (by simp) rfl (λ_=>rfl) (λ_ _=>rfl)⟩
 iterate 10
  .refine B.af λi j=>j.av (qV x i) ?_;rintro _ l rfl f;refine⟨_,rfl,ax (λz=>?_) (λz=>?_)⟩
   .refine dN f x _ true (by simp) ?_ (λ_=>rfl) (λ_ _=>rfl);rw[km];show _=(x.k==0&&ao (x=y));rw[z];rfl
   .refine dN f x _ true (by simp) ?_ (λ_=>rfl) (λ_ _=>rfl);show _=(x.k==0&&ao (x=y));rw[beq_eq_false_iff_ne.2 z];rfl
 iterate 2
  .refine B.af λi j=>j.av (jg 1 i) ?_;rintro _ l rfl f;refine⟨_,_,_,rfl,f.av (qV x l) ?_⟩;rintro _ C rfl h;refine⟨_,rfl,ax (λz=>?_) (λz=>?_)⟩
   .refine dN h (a' 1) _ true (by simp) ?_ (λ_=>rfl) (λ_ _=>rfl);rw[km];show _=(x.k==0&&ao (x=y));rw[z];rfl
   .refine dN h (a' 1) _ true (by simp) ?_ (λ_=>rfl) (λ_ _=>rfl);show _=(x.k==0&&ao (x=y));rw[beq_eq_false_iff_ne.2 z];rfl
 .refine B.af λi j=>j.av (jg 1 i) ?_;rintro _ l rfl f;refine⟨_,_,_,rfl,f.av (Pj x y l) ?_⟩;rintro _ C rfl h;exact⟨_,rfl,dN h (a' 1) _ true (by simp) rfl (λ_=>rfl) (λ_ _=>rfl)⟩
 .refine B.ay λV i j=>j.af λl f=>f.av (jh y l) ?_;rintro _ C rfl h;have M:∀(t:aU) (s:J),((ao (y=e)||(y.k==1&&e.k==1))=true->t=if y.k=1 then eN (if y.n<e.n then e.n else y.n)else y)->O F0 w s [.g W,.g Y,.g Z,.g b8,.g V] [.gb p ⟨⟨19,kids,n,m,u,F,st⟩,S⟩]->EH.fG W x.k x.n x.x Y y.k y.n y.x Z e.k e.n e.x b8 0 0 0 V t.k t.n t.x s λr T=>iY (hx ⟨19,kids,n,m,u,F,st⟩ x y e) (h5 ⟨19,kids,n,m,u,F,st⟩ x y e) r/\ah w T:=by
   intro t s ht D;refine D.af λw9 K=>K.av (jg 1 w9) ?_;rintro _ N rfl v;have G:cR 19 x y e=(ao (x=a' 1)&&(ao (y=e)||(y.k==1&&e.k==1))):=rfl;refine⟨_,_,_,rfl,mg (a:=x) (b:=a' 1) (λP=>v.av (Pj y e N) ?_) (λP=>?_)⟩
   .rintro _ aC rfl ak;refine⟨_,rfl,dN ak t _ true (by simp) ?_ (λ_=>rfl) (λq _=>ht q)⟩;show _=cR 19 x y e;rw[G,aM P];rfl
   .refine dN v t _ true (by simp) ?_ (λ_=>rfl) (λq _=>by cases q);show _=cR 19 x y e;rw[G,aP P];rfl
  have yes:∀t:aU,y.k=1->e.k=1->t=eN (if y.n<e.n then e.n else y.n)->((ao (y=e)||(y.k==1&&e.k==1))=true->t=if y.k=1 then eN (if y.n<e.n then e.n else y.n)else y):=λt h1 _ h3 _=>by rw[ag h1,h3]
  refine⟨_,rfl,ax (λz=>h.av (jh e C) ?_) (λz=>M y C (λ_=>by rw[ab z]) h)⟩;rintro _ s rfl D;refine⟨_,rfl,ax (λI=>D.av (tv _ s) ?_) (λI=>M y s (λhf=>?_) D)⟩
  .rintro _ w9 rfl K;exact⟨_,_,_,rfl,K.af λN v=>M (eN (if y.n<e.n then e.n else y.n)) N (yes _ z I rfl) v⟩
  .rw [beq_eq_false_iff_ne.2 I,Bool.and_false,Bool.or_false]at hf;have:=eZ hf;exact absurd (by rw[<-this];exact z) I
 .have e1:aG .i64 (x.n+y.n)=x.n+y.n:=bm _ (by omega);have G:cR 20 x y e=(x.k==0&&y.k==0):=rfl;refine B.af λi j=>?_;rw[e1];refine j.av (jg _ i) ?_;rintro _ l rfl f;refine⟨_,_,_,rfl,f.av (qV x l) ?_⟩;rintro _ C rfl h;refine⟨_,rfl,ax (λz=>h.av (qV y C) ?_) (λz=>?_)⟩
  .rintro _ s rfl D;refine⟨_,rfl,dN D (a' (x.n+y.n)) _ _ (by simp) ?_ (λ_=>rfl) (λ_ _=>rfl)⟩;show _=cR 20 x y e;rw[G,z];rfl
  .refine dN h (a' (x.n+y.n)) _ _ (by simp) ?_ (λq=>by cases q) (λq _=>by cases q);show _=cR 20 x y e;rw[G,beq_eq_false_iff_ne.2 z];rfl
 .have Q:ie ⟨21,kids,n,m,u,F,st⟩ x y e=(ao (0<=m)&&ao (m<=n)&&ao (n<x.n)):=rfl;refine B.af λi j=>⟨_,(A j).c2,_,(A j).c3,_,(A j).c3,j.av (jg _ i) ?_⟩;rintro _ l rfl f;refine⟨_,_,_,rfl,(A f).c3,f.av (qV x l) ?_⟩;rintro _ C rfl h;refine⟨_,rfl,(A h).c3,aS (λo=>⟨_,(A h).c3,_,(A h).c2,aS (λH=>⟨_,(A h).c2,dN h (a' _) _ _ (by simp) rfl (λ_=>?_) (λ_ E=>?_)⟩) (λH=>dN h (a' _) _ _ (by simp) rfl (λ_=>?_) (λ_ q=>by cases q))⟩) (λo=>dN h (a' _) _ _ (by simp) rfl (λ_=>?_) (λ_ q=>by cases q))⟩
  .rw [Q,aM (show 0<=m from o),aM (show m<=n from H)];rfl
  .have o:0<=m:=o;have H:m<=n:=H;have E:n<x.n:=eZ E;show a' (aG .i64 (aG .i64 (n - m)+1))=a' (n - m+1);rw[bm (n - m) (by omega),bm _ (by omega)]
  .rw [Q,aP (show ¬m<=n from H),Bool.and_false];rfl
  .rw [Q,aP (show ¬0<=m from o)];rfl
 iterate 2
  .have ac:aG .i64 (64 - x.n)=64 - x.n:=bm _ (by omega);refine B.af λi j=>⟨_,(A j).c2,_,(A j).c2,j.av (jg _ i) ?_⟩;rintro _ l rfl f;refine⟨_,_,_,rfl,(A f).c2,f.av (qV x l) ?_⟩;rintro _ C rfl h;refine⟨_,rfl,(A h).c2,aS (λo=>⟨_,(A h).c2,dN h (a' _) _ _ (by simp) rfl (λ_=>?_) (λ_ E=>?_)⟩) (λo=>dN h (a' _) _ _ (by simp) rfl (λ_=>?_) (λ_ q=>by cases q))⟩
   .show _=(ao (1<=n)&&ao (n<=64 - x.n));rw[ac,aM (show 1<=n from o)];rfl
   .have o:1<=n:=o;rw[ac]at E;have E:n<=64 - x.n:=eZ E;show a' (aG .i64 (x.n+n))=a' (x.n+n);rw[bm _ (by omega)]
   .show _=(ao (1<=n)&&ao (n<=64 - x.n));rw[aP (show ¬1<=n from o)];rfl
def YZ{x y d:aU}(a:dP x=true):cR 25 x y d=(ao (y=a' x.x)&&(if x.k=3 then d.k==1&&ao (d.n<=x.n)else ao (d=hH x))):=by
 show(dP x&&ao (y=a' x.x)&&(ao (d=hH x)||(x.k==3&&d.k==1&&ao (d.n<=x.n))))=_;rw[a,Bool.true_and];congr 1;by_cases e:x.k=3
 .rw [ag e,e];have j:hH x=eN x.n:=by unfold hH;rw[ab (by omega)]
  rw[j];by_cases h:d=eN x.n
  .subst h;simp[eN]
  .rw [aP h];rfl
 .rw [ab e,beq_eq_false_iff_ne.2 e];simp
def Zd{w:J}{p:Addr}{d:Nd}{x y e:aU}(C:dF w p d)(h4:24<=d.x.op)(ac:d.x.op<=26):
  aj U LF #[.pointer (some p),dq x,dq y,dq e] w λr s=>iY (hx d.x x y e) (h5 d.x x y e) r/\ah w s:=by
 refine zp.au _ _ _ _ _ _ _ _ _ _ w _ ((xN C).ay λv w1 H1=>H1.ay λN w2 H2=>H2.ay λE w3 H3=>H3.ay λF w4 K=>?_);have W:∀{H:J} {L:List En},O F0 w H L [.gb p d]->dF H p d:=λaa=>aa.getD 0;refine⟨_,(W K).c0,ax (λG=>K.af λH H5=>H5.av (jg x.x H) ?_) (λG=>K.av (jg x.n w4) ?_)⟩
 .rintro _ w6 rfl M;refine⟨_,_,_,rfl,M.av (EG x w6) ?_⟩;rintro _ j rfl b;have fe:cR d.x.op x y e=(dP x&&ao (x=y)):=by rw[G];rfl
  have z:ie d.x x y e=true:=by unfold ie;rw[G];rfl
  have A:hx d.x x y e=a' x.x:=by unfold hx;rw[G];rfl
  refine⟨_,rfl,bh (λh=>?_) (λh=>?_)⟩
  .refine dN b (a' x.x) _ true (by omega) ?_ (λ_=>z.symm) (λ_ _=>A.symm);rw[fe,km,h];rfl
  .refine dN b (a' x.x) _ true (by omega) ?_ (λ_=>z.symm) (λ_ _=>A.symm);rw[fe,h];rfl
 rintro _ w6 rfl M;have z:ie d.x x y e=true:=by unfold ie;rw[ab (by omega),ab (by omega),ab (by omega),ab (by omega),ab (by omega)]
 have Z:∀(t:aU) (a:Nat) (f:Bool) (j:J),f=(dP x&&ao (y=a' x.x))->(dP x=true->t=hH x)->O F0 w j [.g v,.g N,.g E,.g F,.g a] [.gb p d]->zp.bb p v x.k x.n x.x E e.k e.n e.x F 0 0 0 a t.k t.n t.x f j λr s=>iY (hx d.x x y e) (h5 d.x x y e) r/\ah w s:=by
  intro t a f j q D b;refine⟨_,(W b).c0,ax (λm=>?_) (λm=>?_)⟩
  .refine dN b t f true (by omega) ?_ (λ_=>z.symm) (λS _=>?_)
   .rw [q,m];rfl
   .rw [q]at S;simp only[a9]at S;rw[D S.1];unfold hx;rw[m];rfl
  have Q:d.x.op=25:=by omega
  have A:hx d.x x y e=x:=by unfold hx;rw[Q];rfl
  have ff:f=false->cR d.x.op x y e=false:=λC=>by rw[Q];show(dP x&&ao (y=a' x.x)&&(ao (e=hH x)||(x.k==3&&e.k==1&&ao (e.n<=x.n))))=_;rw[<-q,C];rfl
  have ft:f=true->dP x=true/\cR d.x.op x y e=(if x.k=3 then e.k==1&&ao (e.n<=x.n)else ao (e=hH x)):=λC=>by rw[C]at q;have q:=q.symm;simp only[a9]at q;refine⟨q.1,?_⟩;rw[Q,YZ q.1,q.2,Bool.true_and]
  refine ax (λh=>bh (λV=>b.af λi c=>c.av (jh e i) ?_) (λo=>b.af λi c=>dN c x _ true (by omega) (ff o).symm (λ_=>z.symm) (λ_ _=>A.symm))) (λh=>bh (λV=>b.af λi c=>dN c x _ true (by omega) ?_ (λ_=>z.symm) (λ_ _=>A.symm)) (λo=>b.af λi c=>dN c x _ true (by omega) (ff o).symm (λ_=>z.symm) (λ_ _=>A.symm)))
  .rintro _ I rfl B;have:=(ft V).2;rw[ag h]at this;refine⟨_,rfl,ax (λT=>dN B x _ true (by omega) ?_ (λ_=>z.symm) (λ_ _=>A.symm)) (λT=>dN B x _ true (by omega) ?_ (λ_=>z.symm) (λ_ _=>A.symm))⟩
   .rw [this,T];rfl
   .rw [this,beq_eq_false_iff_ne.2 T];rfl
  .have P:=ft V;rw[ab h]at P;rw[P.2,km,D P.1]
 have Y:∀(t:aU) (a:Nat) (j:J),(dP x=true->t=hH x)->O F0 w j [.g v,.g N,.g E,.g F,.g a] [.gb p d]->zp.aX p v x.k x.n x.x N y.k y.n y.x E e.k e.n e.x F 0 0 0 a t.k t.n t.x j λr s=>iY (hx d.x x y e) (h5 d.x x y e) r/\ah w s:=by intro t a j D b;refine b.af λi c=>c.av (EG x i) ?_;rintro _ I rfl B;refine⟨_,rfl,bh (λh=>B.av (jg x.x I) ?_) (λh=>Z t a false I (by rw[h];rfl) D B)⟩;rintro _ u rfl l;exact⟨_,_,_,rfl,Z t a _ u (by rw[h];exact km y (a' x.x)) D l⟩
 refine⟨_,_,_,rfl,M.ay λa j b=>ax (λh=>b.af λi c=>c.av (tv x.n i) ?_) (λh=>b.af λi c=>Y (a' x.n) a i (λha=>?_) c)⟩
 .rintro _ I rfl B;exact⟨_,_,_,rfl,B.af λu l=>Y (eN x.n) a u (λ_=>by unfold hH;rw[ab (by omega)]) l⟩
 .unfold dP at ha;simp only[Bool.or_eq_true,beq_iff_eq]at ha;unfold hH;rw[ag (by omega)]
def pE(t:ByteArray):Prop:=∀d,aj U CX #[.string t] d λr a=>r=ae (.bool (kD t))/\ah d a
def Zn{w:J}{p:Addr}{d:Nd}{x y e:aU}(j:dF w p d)(Y:27<=d.x.op)(Z:d.x.op<=34)(ak:ox x)(hy:ox y)(hz:ox e)(N:d.x.op=33->pE d.x.tx):
  aj U LJ #[.pointer (some p),dq x,dq y,dq e] w λr w'=>iY (hx d.x x y e) (h5 d.x x y e) r/\ah w w':=by
 refine PD.au _ _ _ _ _ _ _ _ _ _ w _ ((xN j).ay λb5 w1 S=>S.ay λb6 w2 T=>T.ay λb7 w3 V=>V.ay λb8 w4 B=>?_);obtain⟨⟨op,kids,n,m,u,A,st⟩,K⟩:=d;have E:∀{o:J} {L:List En},O F0 w o L [.gb p ⟨⟨op,kids,n,m,u,A,st⟩,K⟩]->dF o p ⟨⟨op,kids,n,m,u,A,st⟩,K⟩:=λQ=>Q.getD 0;simp only at Y Z N;refine⟨op,(E B).c0,?_⟩;obtain⟨al,am⟩:=ak;obtain⟨an,ap⟩:=hy;obtain⟨aq,ar⟩:=hz;have ai:op=27\/op=28\/op=29\/op=30\/op=31\/op=32\/op=33\/op=34:=by omega
 rcases ai with rfl|rfl|rfl|rfl|rfl|rfl|rfl|rfl;all_goals repeat (first |refine aV rfl ?_|refine aT rfl ?_)
 .refine B.af λo q=>q.av (jg 7 o) ?_;rintro _ s rfl h;refine⟨_,_,_,rfl,h.av (jh x s) ?_⟩;rintro _ v rfl f;exact⟨_,rfl,dN f (a' 7) _ true (by simp) rfl (λ_=>rfl) (λ_ _=>rfl)⟩
 .have P:ie ⟨28,kids,n,m,u,A,st⟩ x y e=(ao (0<=n)&&ao (n<=63)):=rfl;refine B.af λo q=>⟨_,(E q).c2,q.av (jg 8 o) ?_⟩;rintro _ s rfl h;refine⟨_,_,_,rfl,(E h).c2,h.av (jh x s) ?_⟩;rintro _ v rfl f;refine⟨_,rfl,(E f).c2,aS (λI=>⟨_,(E f).c2,dN f (a' 8) _ _ (by simp) rfl (λ_=>?_) (λ_ _=>rfl)⟩) (λI=>dN f (a' 8) _ _ (by simp) rfl (λ_=>?_) (λ_ j=>by cases j))⟩
  .rw [P,aM (show 0<=n from I),Bool.true_and];exact decide_eq_decide.2 (by show n<64↔n<=63;omega)
  .rw [P,aP (show ¬0<=n from I)];rfl
 .have H:aG .i64 (x.n+y.n)=x.n+y.n:=bm _ (by omega);have z:cR 29 x y e=(x.k==1&&y.k==1):=rfl;refine B.af λo q=>?_;rw[H];refine q.av (tv _ o) ?_;rintro _ s rfl h;refine⟨_,_,_,rfl,h.av (jh x s) ?_⟩;rintro _ v rfl f;refine⟨_,rfl,ax (λl=>f.av (jh y v) ?_) (λl=>?_)⟩
  .rintro _ C rfl t;refine⟨_,rfl,dN t (eN (x.n+y.n)) _ _ (by simp) ?_ (λ_=>rfl) (λ_ _=>rfl)⟩;show _=cR 29 x y e;rw[z,l];rfl
  .refine dN f (eN (x.n+y.n)) _ _ (by simp) ?_ (λj=>by cases j) (λj _=>by cases j);show _=cR 29 x y e;rw[z,beq_eq_false_iff_ne.2 l];rfl
 .have z:cR 30 x y e=(x.k==1&&ao (y=a' 7)&&ao (e=a' 7)):=rfl;refine B.af λo q=>q.av (jh x o) ?_;rintro _ s rfl h;refine⟨_,rfl,ax (λl=>h.av (jg 7 s) ?_) (λl=>dN h x _ true (by simp) ?_ (λ_=>rfl) (λ_ _=>rfl))⟩
  .rintro _ v rfl f;refine⟨_,_,_,rfl,mg (a:=y) (b:=a' 7) (λD=>f.av (jg 7 v) ?_) (λD=>dN f x _ true (by simp) ?_ (λ_=>rfl) (λ_ _=>rfl))⟩
   .rintro _ C rfl t;refine⟨_,_,_,rfl,dN t x _ true (by simp) ?_ (λ_=>rfl) (λ_ _=>rfl)⟩;show _=cR 30 x y e;rw[z,l,aM D];exact km e (a' 7)
   .show _=cR 30 x y e;rw[z,aP D,Bool.and_false];rfl
  .show _=cR 30 x y e;rw[z,beq_eq_false_iff_ne.2 l];rfl
 .have z:cR 31 x y e=(x.k==1&&y.k==1):=rfl;refine B.af λo q=>q.av (jg 7 o) ?_;rintro _ s rfl h;refine⟨_,_,_,rfl,h.av (jh x s) ?_⟩;rintro _ v rfl f;refine⟨_,rfl,ax (λl=>f.av (jh y v) ?_) (λl=>?_)⟩
  .rintro _ C rfl t;refine⟨_,rfl,dN t (a' 7) _ true (by simp) ?_ (λ_=>rfl) (λ_ _=>rfl)⟩;show _=cR 31 x y e;rw[z,l];rfl
  .refine dN f (a' 7) _ true (by simp) ?_ (λ_=>rfl) (λ_ _=>rfl);show _=cR 31 x y e;rw[z,beq_eq_false_iff_ne.2 l];rfl
 .have H:aG .i64 (x.n+e.n)=x.n+e.n:=bm _ (by omega);have z:cR 32 x y e=(x.k==1&&y.k==1&&e.k==1):=rfl;refine B.af λo q=>?_;rw[H];refine q.av (tv _ o) ?_;rintro _ s rfl h;refine⟨_,_,_,rfl,h.av (jh x s) ?_⟩;rintro _ v rfl f;have no:∀{C:J} {L:List En} {bs aa:List Nat},O F0 w C L [.gb p ⟨⟨32,kids,n,m,u,A,st⟩,K⟩]->(∀b∈bs,En.g b∈L)->cR 32 x y e=false->fq aa U yj #[dq (eN (x.n+e.n)),.bool false,.bool (ao (x.n+e.n<=64))] C λr o=>∃a b c M:Int,r=ae (.tuple #[.agg #[.i a,.i b,.i c],.i M])/\loc bs o λs=>iY (hx ⟨32,kids,n,m,u,A,st⟩ x y e) (h5 ⟨32,kids,n,m,u,A,st⟩ x y e) (ae (.tuple #[.agg #[.i a,.i b,.i c],.i M]))/\ah w s:=λt hb hf=>dN t _ _ _ (by simp) hf.symm (λj=>by cases j) (λj _=>by cases j) hb;refine⟨_,rfl,ax (λl=>f.av (jh y v) ?_) (λl=>no f (by simp) ?_)⟩
  .rintro _ C rfl t;refine⟨_,rfl,ax (λG=>t.av (jh e C) ?_) (λG=>no t (by simp) ?_)⟩
   .rintro _ w9 rfl W;refine⟨_,rfl,dN W (eN (x.n+e.n)) _ _ (by simp) ?_ (λ_=>rfl) (λ_ _=>rfl)⟩;show _=cR 32 x y e;rw[z,l,G];rfl
   .rw [z,beq_eq_false_iff_ne.2 G,Bool.and_false];rfl
  .rw [z,beq_eq_false_iff_ne.2 l];rfl
 .have z:cR 33 x y e=(x.k==1):=rfl;have ac:ie ⟨33,kids,n,m,u,A,st⟩ x y e=true:=rfl;refine B.av (jh x w4) ?_;rintro _ o rfl q;refine⟨_,rfl,ey (λl=>q.af λs h=>⟨⟨x,9,rfl,?_,λj=>?_⟩,h.fr⟩) (λl=>⟨A,(E q).c5,q.av (N rfl o) ?_⟩)⟩
  .unfold h5;rw[show cR (33:Int) x y e=false from l];rfl
  .unfold h5 at j;rw[show cR (33:Int) x y e=false from l]at j;cases j
  .rintro _ s rfl h;have D:h5 ⟨33,kids,n,m,u,A,st⟩ x y e=if kD A=false then 2 else 0:=by unfold h5;rw[show cR (33:Int) x y e=true from l,ac];simp
   refine⟨_,rfl,ey (λF=>h.af λv f=>⟨⟨x,2,rfl,?_,λj=>?_⟩,f.fr⟩) (λF=>h.av (jg 1 s) ?_)⟩
   .rw [D,ag F]
   .rw [D,ag F]at j;cases j
   .rintro _ v rfl f;exact⟨_,_,_,rfl,f.af λC t=>⟨⟨a' 1,0,rfl,by rw[D,ab (by rw[F];simp)],λ_=>rfl⟩,t.fr⟩⟩
 .refine B.af λo q=>q.av (tv 1 o) ?_;rintro _ s rfl h;refine⟨_,_,_,rfl,h.av (jg 8 s) ?_⟩;rintro _ v rfl f;exact⟨_,_,_,rfl,dN f (eN 1) _ true (by simp) (km x (a' 8)) (λ_=>rfl) (λ_ _=>rfl)⟩
def TD(u n:Int)(a:0<=u)(b:0<=n)(c:n<64):((Int.fdiv u (2^(min (a1 n) (IntKind.bits .u64)))) !=0)=ao (2^n.toNat<=u):=by
 have h:min (a1 n) (IntKind.bits .u64)=n.toNat:=by show min n.toNat 64=_;omega
 rw[h];have d:(0:Int)<2^n.toNat:=Int.pow_pos (by decide);generalize(2:Int)^n.toNat=q at d;have j:=Int.fdiv_eq_ediv_of_nonneg u (by omega:0<=q);rw[j];by_cases e:q<=u
 .rw [aM e];have:1<=u / q:=by rw[Int.le_ediv_iff_mul_le d];omega
  simp only[bne_iff_ne,ne_eq];omega
 .rw [aP e];rw[Int.ediv_eq_zero_of_lt a (by omega)];rfl
def Zi{w:J}{p:Addr}{d:Nd}(g:List Nx)(q:dF w p d)(D:1<=d.x.op)(N:d.x.op<=3)(T:0<=d.x.u):
  aj U LI #[.pointer (some p)] w λr G=>iY (bQ g d.x).1 (bQ g d.x).2 r/\ah w G:=by
 refine EI.au _ w _ ((xN q).ay λm H b=>?_);have h:∀{c:J} {L:List En},O F0 w c L [.gb p d]->dF c p d:=λP=>P.getD 0;have er:∀(t:aU) (e:Int) (c:J),e≠0->(bQ g d.x)=(bg,e)->O F0 w c [.g m] [.gb p d]->loc [m] c λA=>iY (bQ g d.x).1 (bQ g d.x).2 (ae (.tuple #[.agg #[.i t.k,.i t.n,.i t.x],.i e]))/\ah w A:=λt e c Q f I=>I.af λA K=>⟨⟨t,e,rfl,by rw[f],λq=>by rw[f]at q;exact absurd q Q⟩,K.fr⟩;have ok:∀(t:aU) (c:J),(bQ g d.x)=(t,0)->O F0 w c [.g m] [.gb p d]->loc [m] c λA=>iY (bQ g d.x).1 (bQ g d.x).2 (ae (.tuple #[.agg #[.i t.k,.i t.n,.i t.x],.i 0]))/\ah w A:=λt c f I=>I.af λA K=>⟨⟨t,0,rfl,by rw[f],λ_=>by rw[f]⟩,K.fr⟩;refine⟨_,(h b).c0,ax (λs=>?_) (λs=>?_)⟩
 .refine ⟨_,(h b).c5,aS (λS=>⟨_,_,_,(h b).s0,(h b).s1,(h b).s2,er d.x.st 5 H (by decide) ?_ b⟩) (λS=>⟨_,(h b).c5,b.av (tv _ H) ?_⟩)⟩
  .unfold bQ;rw[ag s,ag (by omega)]
  .rintro _ B rfl j;refine⟨_,_,_,rfl,ok (eN d.x.tx.size) B ?_ j⟩;unfold bQ;rw[ag s,ab (by omega)]
 have y:bQ g d.x=if bo d.x.st=false then(bg,9)else
   if d.x.op=1/\d.x.st.k≠0\/d.x.op=3/\dP d.x.st=false then(bg,9)else
   if d.x.op=1/\kB d.x.u d.x.st.n=true then(bg,5)else(d.x.st,0):=by
  unfold bQ;rw[ab s,ab (λq=>by omega)];have:¬(d.x.op=0/\lL g d.x=true):=λq=>by omega
  simp only[this,if_false]
 refine⟨_,_,_,(h b).s0,(h b).s1,(h b).s2,b.av (EE d.x.st H) ?_⟩;rintro _ B rfl j;refine⟨_,rfl,Ei (λo=>⟨_,_,_,(h j).s0,(h j).s1,(h j).s2,?_⟩) (λo=>?_)⟩
 .have:fy d.x.st=9:=by unfold fy;rw[o];rfl
  rw[this];exact er d.x.st 9 B (by decide) (by rw[y,ag o]) j
 rw[ab (by rw[o];simp)]at y;refine⟨_,(h j).c0,ax (λN=>⟨_,_,_,(h j).s0,(h j).s1,(h j).s2,j.av (EG d.x.st B) ?_⟩) (λV=>?_)⟩
 .rintro _ l rfl a;refine⟨_,rfl,ey (λE=>⟨_,_,_,(h a).s0,(h a).s1,(h a).s2,er d.x.st 9 l (by decide) ?_ a⟩) (λE=>⟨_,_,_,(h a).s0,(h a).s1,(h a).s2,ok d.x.st l ?_ a⟩)⟩
  .rw [y,ag (.inr ⟨N,E⟩)]
  .rw [y,ab (by rintro(q|q);omega;rw[E]at q;cases q.2),ab (by rintro⟨q,_⟩;omega)]
 have D:d.x.op=1:=by omega
 refine⟨_,(h j).s0,bY (λv=>⟨_,_,_,(h j).s0,(h j).s1,(h j).s2,er d.x.st 9 B (by decide) ?_ j⟩) (λv=>j.af λl a=>?_)⟩
 .rw [y,ag (.inl ⟨D,v⟩)]
 rw[ab (by rintro(q|q);exact q.2 v;omega)]at y;obtain⟨W,Y,_⟩:=tE o v;have M:bQ g d.x=(d.x.st,0)->EI.aX p m 0 0 0 l λr G=>iY (bQ g d.x).1 (bQ g d.x).2 r/\ah w G:=λf=>⟨_,_,_,(h a).s0,(h a).s1,(h a).s2,ok d.x.st l f a⟩;refine⟨_,(h a).s1,aS (λC=>⟨_,(h a).c4,_,(h a).s1,by omega,?_⟩) (λC=>M ?_)⟩
 .rw [TD _ _ T (by omega) C];refine aS (λF=>⟨_,_,_,(h a).s0,(h a).s1,(h a).s2,er d.x.st 5 l (by decide) ?_ a⟩) (λF=>M ?_)
  .rw [y,ag ⟨D,by unfold kB;rw[aM C,aM F];rfl⟩]
  .rw [y,ab];rintro⟨_,z⟩;unfold kB at z;rw[aP F,Bool.and_false]at z;cases z
 .rw [y,ab];rintro⟨_,z⟩;unfold kB at z;rw[aP C]at z;cases z
def oT(g:List Nx)(t:ByteArray):cA:=match g8 g t with
 |some s=>ae (.tuple #[dq s,.bool true])
 |none=>ae (.tuple #[dq bg,.bool false])
def Zo{w:J}{p:Addr}{d:Nd}{D:List En}(g:List Nx)(u:Fv)(H:O F0 w w [] (.gb p d::D))(hc:gI U u.n=true)(hl:∀m:J,(∀e∈D,e.P m)->aj U u.n (u.bs++#[.string d.x.tx]++u.cs) m λr af=>r=oT g d.x.tx/\ah m af)(h0:d.x.op=0):
  aj U LK #[.pointer (some p),u.v] w λr m=>iY (bQ g d.x).1 (bQ g d.x).2 r/\ah w m:=by
 have h:∀{j:J} {L:List En},O F0 w j L (.gb p d::D)->dF j p d:=λH=>H.getD 0;have y:bQ g d.x=if h8 (bl d.x.tx)=false then(bg,6)else if bo d.x.st=false then(bg,9)else if lL g d.x=true then(bg,8)else(d.x.st,0):=by unfold bQ;rw[ab (by omega)];simp[h0]
 have fin:∀(e:Int) (j:J) (L:List En) (i:Nat) (b:Nat) (o q s:aa),O F0 w j L (.gb p d::D)->L[i]? =some (.c b [o,q,s] bR)->bQ g d.x=(if e=0 then d.x.st else bg,e)->zg j (ad b) (.i d.x.st.k) (.i d.x.st.n) (.i d.x.st.x) λQ=>IW Q (ad b) λa0 a1 a2=>iY (bQ g d.x).1 (bQ g d.x).2 (ae (.tuple #[.agg #[.i a0,.i a1,.i a2],.i e]))/\ah w Q:=by
  intro e j L i b o q s l C I;refine l.jP i C λQ G=>?_;have M:(L.set i (.c b [Value.i d.x.st.k,.i d.x.st.n,.i d.x.st.x] bR))[i]? =some (.c b [Value.i d.x.st.k,.i d.x.st.n,.i d.x.st.x] bR):=by rw[List.getElem?_set_self (cr.1 C).1]
  refine⟨_,_,_,G.ld i 0 M,G.ld i 1 M,G.ld i 2 M,⟨d.x.st,e,rfl,by rw[I],λV=>?_⟩,G.fr⟩;rw[I]at V ⊢;rw[ag V]
 refine EJ.ok p u w _ (H.nw λw1 _ S=>⟨_,(h S).c5,S.call (Zg d.x.tx w1) ?_⟩);rintro _ Y rfl z;refine⟨_,rfl,ey (λN=>⟨_,_,_,(h z).s0,(h z).s1,(h z).s2,fin 6 Y _ 0 _ _ _ _ z rfl (by rw[y,ag N];rfl)⟩) (λN=>⟨_,_,_,(h z).s0,(h z).s1,(h z).s2,z.call (EE d.x.st Y) ?_⟩)⟩;rw[ab (by rw[N];simp)]at y;rintro _ Z rfl A;refine⟨_,rfl,Ei (λE=>⟨_,_,_,(h A).s0,(h A).s1,(h A).s2,?_⟩) (λE=>⟨_,(h A).c5,?_⟩)⟩
 .have:fy d.x.st=9:=by unfold fy;rw[E];rfl
  rw[this];exact fin 9 Z _ 0 _ _ _ _ A rfl (by rw[y,ag E];rfl)
 rw[ab (by rw[E];simp)]at y;rw[hc];refine(show cB true _ from ?_);refine A.call (hl Z (λe I=>A.rd e (cH _ I))) ?_;rintro _ w4 rfl T;have B:∀(j:J) (L:List En) (o q s:aa),O F0 w j L (.gb p d::D)->L[0]? =some (.c w.heap.size [o,q,s] bR)->lL g d.x=false->EJ.S0 p (ad w.heap.size) j λr m=>iY (bQ g d.x).1 (bQ g d.x).2 r/\ah w m:=λj L o q s l C ht=>⟨_,_,_,(h l).s0,(h l).s1,(h l).s2,fin 0 j L 0 _ o q s l C (by rw[y,ab (by rw[ht];simp)];rfl)⟩;unfold lL at y B;unfold oT;cases W:g8 g d.x.tx with
 |none=>
  rw[W]at y B;refine⟨bg.k,bg.n,bg.x,false,rfl,T.nw λj _ l=>l.jP 1 rfl λw8 K=>K.dr λF f=>aV rfl ?_⟩;exact B F _ _ _ _ f rfl rfl
 |some t=>
  rw[W]at y B;refine⟨t.k,t.n,t.x,true,rfl,T.nw λj _ l=>l.jP 1 rfl λw8 K=>K.dr λF f=>aT rfl ⟨_,_,_,f.ld 1 0,f.ld 1 1,f.ld 1 2,_,_,_,(h f).s0,(h f).s1,(h f).s2,vP (a:=t) (b:=d.x.st) (λai=>⟨_,_,_,(h f).s0,(h f).s1,(h f).s2,fin 8 F _ 0 _ _ _ _ f rfl ?_⟩) (λac=>B F _ _ _ _ f rfl ?_)⟩⟩
  .rw [y,ag (by simp[ai])];rfl
  .simp [ac]
def W7{s:BL}{x:Rx}{a:Nat}{e:Int}(d:sN s=some (x,a,e)):x.sz<=1000000:=by
 unfold sN at d;split at d
 .simp only[e0,eQ]at d;rw[<-d.1];decide
 .dsimp only at d;split at d
  .split at d
   .simp only[e0,eQ]at d;rw[<-d.1];decide
   .split at d
    .cases d
    .split at d
     .simp only[e0,eQ]at d;rw[<-d.1];decide
     .simp only[e0,eQ]at d;rw[<-d.1];omega
  .cases d
def Rp(s:ByteArray)(p:s.size<=100000)(b:Bool)(c:rJ (bl s)=some b)(w:J):aj U JK #[.string s] w λr M=>r=ae (.bool b)/\ah w M:=by
 unfold rJ at c;cases e:sN (bl s)with
 |none=>rw[e]at c;cases c
 |some Q=>
  obtain⟨P,a,E⟩:=Q;rw[e]at c;dsimp only at c;have H:=W7 e;have A:O F0 w w [] []:=bO [] (by simp);refine Ho.au _ w _ (A.w5 (R8 s p P a E e w) ?_);rintro _ S ⟨t,rfl,h,K,F⟩ _ z;have B:=z.rd (.tree t) K λb d=>F b (a4.1 d);have N:t.sz<=1000000:=by rw[<-I.dR,h];exact H
  refine⟨_,_,_,t.s,_,_,rfl,B.ay λv T l=>bY (λj=>l.af λn f=>⟨?_,f.fr⟩) (λj=>l.af λn f=>?_)⟩
  .rw [ab j]at c;cases c;rfl
  rw[ag j]at c;refine jZ ((R' t n N (f.getD 0)).mono ?_);rintro _ V ⟨⟨u,rfl,y,L,G⟩,q⟩;have C:=f.ek (.tree u) q L λb d=>(G b (a4.1 d)).imp id λd=>.inr ⟨_,aB (i:=0) rfl,a4.2 d⟩;rw[h]at y;refine⟨q,_,_,_,u.s,_,rfl,C.ay λZ W m=>?_⟩;rw[h];refine ax (λk=>m.af λo g=>?_) (λk=>m.af λo g=>⟨?_,g.fr⟩)
  .rw [ag k]at c;split at c
   .rename_i x;rw[<-y]at x c;refine g.av (Gd u 0 o (by rw[<-I.dR];omega) (by omega) x.1 (g.getD 1)) ?_;rintro _ Y rfl D;refine⟨_,rfl,?_,D.fr⟩;cases c;congr 2;have:=rC (cy 0 u.rx (a6 u.rx)) (bl s);rw[jx]at this;exact this
   .cases c
  .rw [ab k]at c;cases c;rfl
abbrev ti(k:Sl)(a:List aU):En:=.a7 3 k (a.flatMap gl)
def Jb{w:J}{k:Sl}{ks:List aU}(e:br 3 w k (ks.flatMap gl)):O F0 w w [] [ti k ks]:=bO _ (by intro h d;simp only[aE,aZ,a2]at d;subst d;exact e)
def RR{w:J}{k:Sl}{ks:List aU}{x y z:aU}(op:Int)(ab:br 3 w k (ks.flatMap gl))(hx:ks[0]? =some x)(l:2<=cl op->ks[1]? =some y)(s:cl op=3->ks[2]? =some z)(h4:4<=op)(aq:op<=34):
  aj U Ki #[.i op,k.v] w λr w'=>r=ae (.bool (cR op x y z))/\ah w w':=by
 refine Bj.au _ _ w _ (dY ab (rfl:(0:Int)=((0:Nat):Int)) hx λp0 az Q=>⟨x.k,x.n,x.x,Q.c0,Q.c1,Q.c2,(Jb ab).ay λb5 w1 H1=>?_⟩);have main:∀(a:Bool) (E:J),a=dP x->O F0 w E [.g b5] [ti k ks]->Bj.aX op k b5 x.k x.n x.x (x.k==0) (x.k==1) a E λr w'=>r=ae (.bool (cR op x y z))/\ah w w':=by
  rintro a E ha d;have h:∀{m:J} {L:List En},O F0 w m L [ti k ks]->br 3 m k (ks.flatMap gl):=λac=>ac.getD 0;have q:(1:Int)=((1:Nat):Int):=rfl;have C:(2:Int)=((2:Nat):Int):=rfl;rcases sL (by omega) aq with rfl|rfl|rfl|rfl|rfl|rfl|rfl|rfl|rfl|rfl|rfl|rfl|rfl|rfl|rfl|rfl|rfl|rfl|rfl|rfl|rfl|rfl|rfl|rfl|rfl|rfl|rfl|rfl|rfl|rfl|rfl|rfl|rfl|rfl|rfl
  iterate 4 omega
  all_goals repeat (first |refine aV rfl ?_|refine aT rfl ?_)
  all_goals first |(have l:=l (by decide))|skip
  all_goals first |(have s:=s (by decide))|skip
  iterate 2 exact⟨rfl,d.fr⟩
  iterate 12
   .refine ax (λf=>?_) (λf=>d.af λm e=>⟨?_,e.fr⟩)
    .refine dY (h d) q l λp o _=>d.af λm e=>?_;have c:=fP (h e) q l o;refine⟨_,_,_,c.c0,c.c1,c.c2,?_,e.fr⟩;rw[km];show _=Ending.returned (.bool (x.k==0&&ao (x=y)));rw[f];rfl
    .show _=Ending.returned (.bool (x.k==0&&ao (x=y)));rw[beq_eq_false_iff_ne.2 f];rfl
  .refine dY (h d) q l λp o _=>d.af λm e=>?_;have c:=fP (h e) q l o;have A:cR 18 x y z=(ao (x=y)||(x.k==1&&y.k==1)):=rfl;rw[A];refine⟨_,_,_,c.c0,c.c1,c.c2,mg (λt=>⟨by rw[aM t];rfl,e.fr⟩) (λt=>?_)⟩;rw[aP t,Bool.false_or];refine ax (λf=>dY (h e) q l λp' _ P=>⟨_,P.c0,?_,e.fr⟩) (λf=>⟨?_,e.fr⟩)
   .rw [f];rfl
   .rw [beq_eq_false_iff_ne.2 f];rfl
  .refine d.af λm e=>e.av (ff 1 m) ?_;rintro _ I rfl j;have A:cR 19 x y z=(ao (x=a' 1)&&(ao (y=z)||(y.k==1&&z.k==1))):=rfl;rw[A];refine⟨_,_,_,rfl,mg (b:=a' 1) (λt=>?_) (λt=>⟨by rw[aP t];rfl,j.fr⟩)⟩;rw[aM t,Bool.true_and];refine dY (h j) q l λp _ c=>⟨_,_,_,c.c0,c.c1,c.c2,dY (h j) C s λaa _ B=>⟨_,_,_,B.c0,B.c1,B.c2,mg (λZ=>⟨by rw[aM Z];rfl,j.fr⟩) (λZ=>?_)⟩⟩;rw[aP Z,Bool.false_or];refine dY (h j) q l λp' _ P=>⟨_,P.c0,ax (λf=>dY (h j) C s λq' _ V=>⟨_,V.c0,?_,j.fr⟩) (λf=>⟨?_,j.fr⟩)⟩
   .rw [f];rfl
   .rw [beq_eq_false_iff_ne.2 f];rfl
  .have A:cR 20 x y z=(x.k==0&&y.k==0):=rfl;rw[A];refine ax (λf=>dY (h d) q l λp _ c=>⟨_,c.c0,?_,d.fr⟩) (λf=>⟨?_,d.fr⟩)
   .rw [f];rfl
   .rw [beq_eq_false_iff_ne.2 f];rfl
  iterate 3 exact⟨rfl,d.fr⟩
  .have A:cR 24 x y z=(dP x&&ao (y=a' x.x)):=rfl;rw[A,<-ha];refine bh (λH=>?_) (λG=>d.af λm e=>⟨by rw[G];rfl,e.fr⟩);refine dY (h d) q l λp o _=>d.af λm e=>?_;have c:=fP (h e) q l o;refine⟨_,_,_,c.c0,c.c1,c.c2,e.av (ff x.x m) ?_⟩;rintro _ I rfl j;have B:=fP (h j) q l o;refine⟨_,_,_,rfl,B.c0,B.c1,B.c2,?_,j.fr⟩;rw[H,Bool.true_and];exact congrArg (λb=>Ending.returned (.bool b)) (km y (a' x.x))
  .have A:cR 25 x y z=(dP x&&ao (y=a' x.x)&&(ao (z=hH x)||(x.k==3&&z.k==1&&ao (z.n<=x.n)))):=rfl;rw[A,<-ha];refine ey (λG=>d.af λm e=>⟨by rw[G];rfl,e.fr⟩) (λH=>?_);rw[H,Bool.true_and];refine dY (h d) q l λp o _=>d.af λm e=>?_;have c:=fP (h e) q l o;refine⟨_,_,_,c.c0,c.c1,c.c2,e.av (ff x.x m) ?_⟩;rintro _ I rfl j;have B:=fP (h j) q l o;refine⟨_,_,_,rfl,B.c0,B.c1,B.c2,vP (a:=y) (b:=a' x.x) (λu=>⟨by rw[aP u];rfl,j.fr⟩) (λar=>?_)⟩;rw[aM ar,Bool.true_and];refine dY (h j) C s λaa K _=>j.af λw5 F=>?_;have T:=fP (h F) C s K;refine⟨_,_,_,T.c0,T.c1,T.c2,F.av (DQ x w5) ?_⟩;rintro _ w6 rfl D;have Y:=fP (h D) C s K;refine⟨_,_,_,rfl,Y.c0,Y.c1,Y.c2,mg (a:=z) (b:=hH x) (λt=>⟨by rw[aM t];rfl,D.fr⟩) (λu=>?_)⟩;rw[aP u,Bool.false_or];refine ax (λf=>dY (h D) C s λq' _ V=>⟨_,V.c0,ax (λN=>dY (h D) C s λq2 _ d2=>⟨_,d2.c1,?_,D.fr⟩) (λN=>⟨?_,D.fr⟩)⟩) (λf=>⟨?_,D.fr⟩)
   .rw [f,N];rfl
   .rw [beq_eq_false_iff_ne.2 N,Bool.and_false];rfl
   .rw [beq_eq_false_iff_ne.2 f];rfl
  .have A:cR 26 x y z=(dP x&&ao (x=y)):=rfl;rw[A,<-ha];refine bh (λH=>?_) (λG=>d.af λm e=>⟨by rw[G];rfl,e.fr⟩);refine dY (h d) q l λp o _=>d.af λm e=>?_;have c:=fP (h e) q l o;refine⟨_,_,_,c.c0,c.c1,c.c2,?_,e.fr⟩;rw[km,H];rfl
  iterate 2 exact⟨rfl,d.fr⟩
  .have A:cR 29 x y z=(x.k==1&&y.k==1):=rfl;rw[A];refine ax (λf=>dY (h d) q l λp _ c=>⟨_,c.c0,?_,d.fr⟩) (λf=>⟨?_,d.fr⟩)
   .rw [f];rfl
   .rw [beq_eq_false_iff_ne.2 f];rfl
  .have A:cR 30 x y z=(x.k==1&&ao (y=a' 7)&&ao (z=a' 7)):=rfl;rw[A];refine ax (λf=>?_) (λf=>d.af λm e=>⟨by rw[beq_eq_false_iff_ne.2 f];rfl,e.fr⟩);rw[f];refine dY (h d) q l λp o _=>d.af λm e=>?_;have c:=fP (h e) q l o;refine⟨_,_,_,c.c0,c.c1,c.c2,e.av (ff 7 m) ?_⟩;rintro _ I rfl j;have B:=fP (h j) q l o;refine⟨_,_,_,rfl,B.c0,B.c1,B.c2,mg (a:=y) (b:=a' 7) (λt=>?_) (λu=>⟨by rw[aP u];rfl,j.fr⟩)⟩;rw[aM t];refine dY (h j) C s λaa K S=>⟨_,_,_,S.c0,S.c1,S.c2,j.av (ff 7 I) ?_⟩;rintro _ w5 rfl F;have W:=fP (h F) C s K;exact⟨_,_,_,rfl,W.c0,W.c1,W.c2,congrArg (λb=>Ending.returned (.bool b)) (km z (a' 7)),F.fr⟩
  .have A:cR 31 x y z=(x.k==1&&y.k==1):=rfl;rw[A];refine ax (λf=>dY (h d) q l λp _ c=>⟨_,c.c0,?_,d.fr⟩) (λf=>⟨?_,d.fr⟩)
   .rw [f];rfl
   .rw [beq_eq_false_iff_ne.2 f];rfl
  .have A:cR 32 x y z=(x.k==1&&y.k==1&&z.k==1):=rfl;rw[A];refine ax (λf=>dY (h d) q l λp _ c=>⟨_,c.c0,ax (λM=>dY (h d) C s λaa _ B=>⟨_,B.c0,?_,d.fr⟩) (λM=>⟨?_,d.fr⟩)⟩) (λf=>⟨?_,d.fr⟩)
   .rw [f,M];rfl
   .rw [beq_eq_false_iff_ne.2 M,Bool.and_false];rfl
   .rw [beq_eq_false_iff_ne.2 f];rfl
  .exact ⟨rfl,d.fr⟩
  .refine d.af λm e=>e.av (ff 8 m) ?_;rintro _ I rfl j;exact⟨_,_,_,rfl,congrArg (λb=>Ending.returned (.bool b)) (km x (a' 8)),j.fr⟩
 refine ax (λf=>H1.af λE d=>main true E ?_ d) (λf=>H1.af λE d=>main _ E ?_ d)
 .unfold dP;rw[f];rfl
 .unfold dP;rw[beq_eq_false_iff_ne.2 f];rfl
end Go.Proofs.YtahmokchdhengaaGreatDoor

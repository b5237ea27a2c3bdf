import Derived.Test.YthnoidogkbbkhaaGreatDoorB
import Derived.Lib.Bytealg
import Derived.Test.YthnoidogkbbkhaaGreatDoorTP
import Derived.Test.YthnoidogkbbkhaaGreatDoorVDs
import Derived.Laws.StandIn
import Derived.Lib.BufferWrite
import Derived.Lib.UnsafeStr
set_option linter.unusedVariables false
set_option maxRecDepth 100000
namespace Go.Proofs.YthnoidogkbbkhaaGreatDoor
open List renaming mem_append->qmA,mem_cons->qmC,mem_of_getElem?->qmG,getElem?_eq_getElem->qgE,length_append->qlA,length_cons->qlC,length_nil->qlN,append_assoc->qaA,mem_singleton->qmS,flatMap_cons->qfC,length_map->qlM,getElem?_map->qgM,append_nil->qaN,nil_append->qnA0,cons_append->qcA,take_add_one->qtO,map_append->qmpA,take_length->qtL,take_of_length_le->qtOL,eq_nil_of_length_eq_zero->qeN,set_cons_zero->qsZ
open Go Go.W
def digB (d:Nat):UInt8:=UInt8.ofNat (48+d)
def isD (c:UInt8):Bool:=decide (48<=c.toNat)&&decide (c.toNat<=57)
def dcU (n:Nat):List UInt8:=if n<10 then [digB n] else dcU (n / 10)++[digB (n%10)]
termination_by n
def dcI (n:Int):List UInt8:=if n<0 then 45::dcU n.natAbs else dcU n.natAbs
theorem digB_nat:∀d<10,(digB d).toNat=48+d:=by decide
theorem digB_isD:∀d<10,isD (digB d)=true:=by decide
theorem dcU_lt {n:Nat} (h:n<10):dcU n=[digB n]:=by rw [dcU,if_pos h]
theorem dcU_ge {n:Nat} (h:¬n<10):dcU n=dcU (n / 10)++[digB (n%10)]:=by rw [dcU,if_neg h]
theorem dcU_all (n:Nat):∀c∈dcU n,isD c=true:=by
 induction n using Nat.strongRecOn with
 |_ n ih=>
  by_cases h:n<10
  .rw [dcU_lt h]
   intro c hc
   rw [qmS.1 hc]
   exact digB_isD n h
  .rw [dcU_ge h]
   intro c hc
   rcases qmA.1 hc with hc|hc
   .exact ih (n / 10) (by omega) c hc
   .rw [qmS.1 hc]
    exact digB_isD _ (Nat.mod_lt _ (by omega))
def valF (a:Nat) (l:List UInt8):Nat:=l.foldl (λa c=>10 *a+(c.toNat - 48)) a
theorem valF_snoc (a:Nat) (l:List UInt8) (c:UInt8):valF a (l++[c])=10 *valF a l+(c.toNat - 48):=by unfold valF;rw [List.foldl_append];rfl
theorem val_dcU (n:Nat):valF 0 (dcU n)=n:=by
 induction n using Nat.strongRecOn with
 |_ n ih=>
  by_cases h:n<10
  .rw [dcU_lt h]
   show 10 *0+((digB n).toNat - 48)=n
   rw [digB_nat n h]
   omega
  .rw [dcU_ge h,valF_snoc,ih (n / 10) (by omega),digB_nat _ (Nat.mod_lt _ (by omega))]
   omega
theorem dcU_ne (n:Nat):dcU n≠[]:=by
 by_cases h:n<10
 .rw [dcU_lt h];simp
 .rw [dcU_ge h];simp
theorem dcU_len {n k:Nat} (hk:1<=k) (h:n<10^k):(dcU n).length<=k:=by
 induction k generalizing n with
 |zero=>omega
 |succ k ih=>
  by_cases h10:n<10
  .rw [dcU_lt h10];simp
  .have hk1:1<=k:=by
    rcases Nat.eq_zero_or_pos k with h0|h0
    .subst h0;rw [Nat.zero_add,Nat.pow_one] at h;omega
    .exact h0
   have:n / 10<10^k:=by rw [Nat.div_lt_iff_lt_mul (by omega),<-Nat.pow_succ];exact h
   rw [dcU_ge h10,qlA]
   have:=ih hk1 this
   simp only [qlC,qlN]
   omega
theorem dcU_map (n:Nat):dcU n=(List.range (dcU n).length).map λj=>digB (n / 10^((dcU n).length - 1 - j)%10):=by
 induction n using Nat.strongRecOn with
 |_ n ih=>
  by_cases h:n<10
  .rw [dcU_lt h]
   show _=[digB (n / 10^0%10)]
   rw [Nat.pow_zero,Nat.div_one,Nat.mod_eq_of_lt h]
  .have i:=ih (n / 10) (by omega)
   rw [dcU_ge h,qlA,qlC,qlN,Nat.zero_add,List.range_succ,qmpA]
   have hl:1<=(dcU (n / 10)).length:=by
    cases hd:dcU (n / 10) with
    |nil=>exact absurd hd (dcU_ne _)
    |cons c l=>simp
   congr 1
   .conv=>lhs;rw [i]
    refine List.map_congr_left λj hj=>?_
    have hj:=List.mem_range.1 hj
    rw [Nat.div_div_eq_div_mul,<-Nat.pow_succ',show ((dcU (n / 10)).length - 1 - j).succ=(dcU (n / 10)).length+1 - 1 - j by omega]
   .simp
theorem valF_lt (l:List UInt8) (h:∀c∈l,isD c=true):valF 0 l<10^l.length:=by
 have gen:∀(r l:List UInt8),(∀c∈r,isD c=true)->∀a,a<10^l.length->valF a r<10^(l.length+r.length):=by
  intro r
  induction r with
  |nil=>intro l _ a ha;exact ha
  |cons c r ih=>
   intro l hr a ha
   have hc:=hr c (by simp)
   unfold isD at hc
   simp only [Bool.and_eq_true,decide_eq_true_eq] at hc
   have:=ih (l++[c]) (λd hd=>hr d (by simp [hd])) (10 *a+(c.toNat - 48)) (by rw [qlA,qlC,qlN,Nat.zero_add,Nat.pow_succ];omega)
   rw [qlA,qlC,qlN,Nat.zero_add,Nat.add_assoc,Nat.add_comm 1] at this
   exact this
 simpa using gen l [] h 0 (by simp)
theorem dcI_inj {m n:Int} (h:dcI m=dcI n):m=n:=by
 have no:∀k:Nat,∀l,45::l≠dcU k:=λk l e=>by
  have:=dcU_all k 45 (by rw [<-e];simp)
  exact absurd this (by decide)
 unfold dcI at h
 split at h<;>split at h
 .injection h with _ h
  have:=congrArg (valF 0) h
  rw [val_dcU,val_dcU] at this
  omega
 .exact absurd h (no _ _)
 .exact absurd h.symm (no _ _)
 .have:=congrArg (valF 0) h
  rw [val_dcU,val_dcU] at this
  omega
def isN (c:UInt8):Bool:=isD c||c==45
theorem dcI_all (n:Int):∀c∈dcI n,isN c=true:=by
 intro c hc
 unfold dcI at hc
 unfold isN
 split at hc
 .rcases qmC.1 hc with rfl|hc
  .rfl
  .rw [dcU_all _ c hc];rfl
 .rw [dcU_all _ c hc];rfl
theorem dcI_ne (n:Int):dcI n≠[]:=by
 unfold dcI
 split
 .simp
 .exact dcU_ne _
def itemsB:List Int->List UInt8
 |[]=>[]
 |[n]=>dcI n
 |n::m::r=>dcI n++32::itemsB (m::r)
def listB (l:List Int):List UInt8:=40::itemsB l++[41]
theorem items_cons (n m:Int) (r:List Int):itemsB (n::m::r)=dcI n++32::itemsB (m::r):=rfl
theorem items_all:∀l:List Int,∀c∈itemsB l,isN c=true\/c=32
 |[],c,h=>by cases h
 |[n],c,h=>.inl (dcI_all n c h)
 |n::m::r,c,h=>by
  rw [items_cons] at h
  rcases qmA.1 h with h|h
  .exact .inl (dcI_all n c h)
  .rcases qmC.1 h with h|h
   .exact .inr h
   .exact items_all (m::r) c h
structure Stp where
 kind:Int
 node:Int
 rule:Int
 params:List Int
 nm:ByteArray
 lits:List Int
 hints:List Int
def wordKL:List (List UInt8):=[[103,97,116,101],[97,115,115,101,114,116],[97,120,105,111,109],[101,113,117,97,108],[108,101,109,109,97],[114,101,115,111,108,118,101]]
def wordK (k:Int):List UInt8:=wordKL.getD k.toNat []
def nmB (s:Stp):List UInt8:=if bl s.nm=[] then [45] else bl s.nm
def lineB (s:Stp):List UInt8:=wordK s.kind++32::(dcI s.node++32::(dcI s.rule++32::(nmB s++32::(listB s.params++32::(listB s.hints++32::listB s.lits)))))
structure StpOk (s:Stp):Prop where
 kind:0<=s.kind/\s.kind<=5
 node:I64 s.node
 rule:I64 s.rule
 params:∀x∈s.params,I64 x
 lits:∀x∈s.lits,I64 x
 hints:∀x∈s.hints,I64 x
 nm1:32∉bl s.nm
 nm2:bl s.nm≠[45]
 nm3:∀l,bl s.nm≠40::l
theorem idx_of {c:UInt8} {b:List UInt8}:∀{a:List UInt8},c∉a->Go.Lib.indexByte (a++c::b) c=(a.length:Int)
 |[],_=>by simp [Go.Lib.indexByte]
 |d::a,h=>by
  simp only [qmC,not_or] at h
  have ih:=idx_of (b:=b) h.2
  rw [qcA,Go.Lib.indexByte,if_neg (by simpa using λe=>h.1 e.symm),ih]
  simp only [qlC]
  split
  .rename_i e;simp at e;try omega
  .omega
theorem idx_no {c:UInt8}:∀{l:List UInt8},c∉l->Go.Lib.indexByte l c=-1
 |[],_=>rfl
 |d::l,h=>by
  simp only [qmC,not_or] at h
  rw [Go.Lib.indexByte,if_neg (by simpa using λe=>h.1 e.symm),idx_no h.2]
  first |rfl|skip
theorem mem_cut {c:UInt8}:∀{l:List UInt8},c∈l->∃a b,l=a++c::b/\c∉a
 |d::l,h=>by
  by_cases e:d=c
  .exact ⟨[],l,by rw [e];rfl,by simp⟩
  .obtain ⟨a,b,rfl,ha⟩:=mem_cut ((qmC.1 h).resolve_left λe'=>e e'.symm)
   exact ⟨d::a,b,rfl,by simp only [qmC,not_or];exact ⟨λe'=>e e'.symm,ha⟩⟩
theorem cut_cases (c:UInt8) (l:List UInt8):(c∉l/\Go.Lib.indexByte l c=-1)\/∃a b,l=a++c::b/\c∉a/\Go.Lib.indexByte l c=(a.length:Int):=by
 by_cases h:c∈l
 .obtain ⟨a,b,e,ha⟩:=mem_cut h
  exact .inr ⟨a,b,e,ha,by rw [e];exact idx_of ha⟩
 .exact .inl ⟨h,idx_no h⟩
theorem cut_uni {c:UInt8} {a b a' b':List UInt8} (h:c∉a) (h':c∉a') (e:a++c::b=a'++c::b'):a=a'/\b=b':=by
 have h1:=idx_of (b:=b) h
 rw [e,idx_of h'] at h1
 have hl:a.length=a'.length:=by omega
 obtain ⟨e1,e2⟩:=List.append_inj e hl
 exact ⟨e1,by injection e2⟩
def splitB (c:UInt8):List UInt8->List (List UInt8)
 |[]=>[[]]
 |d::l=>if d=c then []::splitB c l else (d::(splitB c l).headD [])::(splitB c l).tail
theorem split_ne (c:UInt8):∀l,splitB c l≠[]
 |[]=>by simp [splitB]
 |d::l=>by unfold splitB;split<;>simp
theorem split_cut {c:UInt8} {b:List UInt8}:∀{a:List UInt8},c∉a->splitB c (a++c::b)=a::splitB c b
 |[],_=>by rw [qnA0,splitB,if_pos rfl]
 |d::a,h=>by
  simp only [qmC,not_or] at h
  rw [qcA,splitB,if_neg λe=>h.1 e.symm,split_cut h.2]
  rfl
theorem split_no {c:UInt8}:∀{l:List UInt8},c∉l->splitB c l=[l]
 |[],_=>rfl
 |d::l,h=>by
  simp only [qmC,not_or] at h
  rw [splitB,if_neg λe=>h.1 e.symm,split_no h.2]
  rfl
theorem count_no {c:UInt8} {l:List UInt8} (h:c∉l):Go.Lib.countByte l c=0:=List.count_eq_zero.2 h
theorem count_cut {c:UInt8} {a b:List UInt8} (h:c∉a):Go.Lib.countByte (a++c::b) c=Go.Lib.countByte b c+1:=by
 unfold Go.Lib.countByte
 rw [List.count_append,List.count_eq_zero.2 h,List.count_cons_self,Nat.zero_add]
theorem split_len (c:UInt8) (l:List UInt8):(splitB c l).length=Go.Lib.countByte l c+1:=by
 generalize hn:l.length=n
 induction n using Nat.strongRecOn generalizing l with
 |_ n ih=>
  rcases cut_cases c l with ⟨h,_⟩|⟨a,b,rfl,ha,_⟩
  .rw [split_no h,count_no h];rfl
  .rw [split_cut ha,count_cut ha,qlC,ih b.length (by simp at hn;omega) b rfl]
theorem dcI_no {n:Int} {c:UInt8} (h:isN c=false):c∉dcI n:=λhc=>by rw [dcI_all n c hc] at h;cases h
theorem items_split:∀{l:List Int},l≠[]->splitB 32 (itemsB l)=l.map dcI
 |[n],_=>split_no (dcI_no rfl)
 |n::m::r,_=>by rw [items_cons,split_cut (dcI_no rfl),items_split (by simp)];rfl
theorem split_items:∀{l:List Int} {t:List UInt8},splitB 32 t=l.map dcI->t=itemsB l
 |[],t,h=>absurd h (split_ne 32 t)
 |[n],t,h=>by
  rcases cut_cases 32 t with ⟨hn,_⟩|⟨a,b,rfl,ha,_⟩
  .rw [split_no hn] at h
   simpa [itemsB] using h
  .rw [split_cut ha] at h
   simp at h
   exact absurd h.2 (split_ne 32 b)
 |n::m::r,t,h=>by
  rcases cut_cases 32 t with ⟨hn,_⟩|⟨a,b,rfl,ha,_⟩
  .rw [split_no hn] at h
   simp at h
  .rw [split_cut ha,List.map_cons] at h
   injection h with h1 h2
   rw [items_cons,<-split_items h2,h1]
theorem items_nil {l:List Int}:itemsB l=[]↔l=[]:=by
 constructor
 .intro h
  cases l with
  |nil=>rfl
  |cons n r=>
   exfalso
   cases r with
   |nil=>exact dcI_ne n h
   |cons m r=>rw [items_cons] at h;simp at h
 .rintro rfl;rfl
theorem items_no {l:List Int} {c:UInt8} (h1:isN c=false) (h2:c≠32):c∉itemsB l:=λhc=>by
 rcases items_all l c hc with h|h
 .rw [h] at h1;cases h1
 .exact h2 h
set_option maxHeartbeats 1000000
theorem el_str:ElemOk Tryz.prog ty_sl_string ty_string (.string (ByteArray.mk #[])) 1 16:=⟨by kernel_rfl,by kernel_rfl,rfl,by decide,by decide⟩
theorem optP_of {a:Option Addr} {p:Addr} {K:Addr->Prop} (hp:a=some p) (h:K p):optP a K:=by rw [hp];exact h
theorem s_indexByteString (s:ByteArray) (c:UInt8) (w:World):Sem.run Tryz.prog (callFunc n_internal_bytealg_IndexByteString #[.string s,.int .u8 (c.toNat:Int)]) w=.ok (.value (.int .i64 (Go.Lib.indexByte (bl s) c))) w:=by
 have h:=run_callFunc_indexByte (P:=Tryz.prog) (f:=n_internal_bytealg_IndexByteString) (fn:=(Tryz.prog.funcs[n_internal_bytealg_IndexByteString]?).getD default) (by kernel_rfl) (by kernel_rfl) (by kernel_rfl) (by kernel_rfl) (by kernel_rfl) #[.string s,.int .u8 (c.toNat:Int)] w
 rw [h,Go.Lib.run_indexByteString]
 show Result.ok _ w=_
 congr 4
 simp
theorem s_countString (s:ByteArray) (c:UInt8) (w:World):Sem.run Tryz.prog (callFunc n_internal_bytealg_CountString #[.string s,.int .u8 (c.toNat:Int)]) w=.ok (.value (.i ((Go.Lib.countByte (bl s) c:Nat):Int))) w:=by
 have h:=run_callFunc_extern (P:=Tryz.prog) (f:=n_internal_bytealg_CountString) (fn:=(Tryz.prog.funcs[n_internal_bytealg_CountString]?).getD default) (e:=Extern.BytealgCount.count) (by kernel_rfl) (by kernel_rfl) (by kernel_rfl) (by kernel_rfl) (by kernel_rfl) #[.string s,.int .u8 (c.toNat:Int)] w
 rw [h,Go.Lib.run_countString]
 show Result.ok _ w=_
 congr 4
 simp
 rfl
theorem s_IndexByteL (s:ByteArray) (c:UInt8) (w:World):Calls Tryz.prog n_internal_stringslite_IndexByte #[.string s,.int .u8 (c.toNat:Int)] w λr w'=>r=.returned (.i (Go.Lib.indexByte (bl s) c))/\w'=w:=
 internal_stringslite_IndexByte.ok _ _ w _ ⟨_,w,s_indexByteString s c w,rfl,rfl⟩
theorem s_IndexByte (s:ByteArray) (c:UInt8) (w:World):Calls Tryz.prog n_strings_IndexByte #[.string s,.int .u8 (c.toNat:Int)] w λr w'=>r=.returned (.i (Go.Lib.indexByte (bl s) c))/\w'=w:=by
 refine strings_IndexByte.ok _ _ w _ ((s_IndexByteL s c w).mono ?_)
 rintro _ _ ⟨rfl,rfl⟩
 exact ⟨_,rfl,rfl,rfl⟩
theorem s_IndexL (s:ByteArray) (c:UInt8) (w:World):Calls Tryz.prog n_internal_stringslite_Index #[.string s,.string (ByteArray.mk #[c])] w λr w'=>r=.returned (.i (Go.Lib.indexByte (bl s) c))/\w'=w:=by
 refine internal_stringslite_Index.ok _ _ w _ (sel_false rfl (sel_tx (λh=>?_) (λh=>sel_true rfl ⟨by omega,c,rfl,(s_IndexByteL s c w).mono ?_⟩)))
 .subst h
  exact ⟨by simp [bl,Go.Lib.indexByte],rfl⟩
 .rintro _ _ ⟨rfl,rfl⟩
  exact ⟨_,rfl,rfl,rfl⟩
theorem s_Index (s:ByteArray) (c:UInt8) (w:World):Calls Tryz.prog n_strings_Index #[.string s,.string (ByteArray.mk #[c])] w λr w'=>r=.returned (.i (Go.Lib.indexByte (bl s) c))/\w'=w:=by
 refine strings_Index.ok _ _ w _ ((s_IndexL s c w).mono ?_)
 rintro _ _ ⟨rfl,rfl⟩
 exact ⟨_,rfl,rfl,rfl⟩
theorem bl_ext (s:ByteArray) (i j:Nat):s.extract i j=ba (((bl s).take j).drop i):=by
 apply ByteArray.ext
 apply Array.toList_inj.1
 simp [ba,bl,Array.toList_extract,List.drop_take]
inductive CutP (l:List UInt8) (c:UInt8):Ending->Prop
 |no:c∉l->CutP l c (.returned (.tuple #[.string (ba l),.string (ByteArray.mk #[]),.bool false]))
 |yes (a b:List UInt8):l=a++c::b->c∉a->CutP l c (.returned (.tuple #[.string (ba a),.string (ba b),.bool true]))
theorem cut_parts {s:ByteArray} {c:UInt8} {a b:List UInt8} (h:bl s=a++c::b):s.size=a.length+b.length+1/\s.extract 0 a.length=ba a/\s.extract (a.length+1) s.size=ba b:=by
 have hz:s.size=(bl s).length:=rfl
 refine ⟨by rw [hz,h];simp;omega,?_,?_⟩
 .rw [bl_ext,h];simp
 .rw [bl_ext,hz,qtL,h,show a++c::b=(a++[c])++b by simp,List.drop_left' (by simp)]
theorem s_Cut (s:ByteArray) (c:UInt8) (hs:s.size<=1000000000) (w:World):Calls Tryz.prog n_strings_Cut #[.string s,.string (ByteArray.mk #[c])] w λr w'=>CutP (bl s) c r/\Fr0 w w':=by
 refine strings_Cut.ok _ _ w _ ((show Calls Tryz.prog n_internal_stringslite_Cut #[.string s,.string (ByteArray.mk #[c])] w λr w'=>CutP (bl s) c r/\Fr0 w w' from internal_stringslite_Cut.ok _ _ w _ ((s_IndexL s c w).mono ?_)).mono ?_)
 .rintro _ w1 ⟨rfl,rfl⟩
  refine ⟨_,rfl,?_⟩
  rcases cut_cases c (bl s) with ⟨h,e⟩|⟨a,b,h,ha,e⟩
  .rw [e]
   exact sel_false rfl ⟨by have:=CutP.no h;rwa [ba_bl] at this,Fr.refl _ _⟩
  .obtain ⟨z,e1,e2⟩:=cut_parts h
   rw [e]
   refine sel_true (decide_eq_true (by omega)) ((lh0 (w:=w1) [] (by simp)).dr λw2 H=>?_)
   have hw:IntKind.wrap .i64 ((a.length:Int)+(((ByteArray.mk #[c]).size:Nat):Int))=((a.length+1:Nat):Int):=i64_next _ (by omega)
   rw [hw,Int.toNat_natCast,Int.toNat_natCast,e1,e2]
   exact ⟨by omega,by omega,by omega,by omega,.yes a b h ha,H.fr⟩
 .rintro _ w1 ⟨h,f⟩
  cases h with
  |no h=>exact ⟨_,_,_,rfl,.no h,f⟩
  |yes a b h ha=>exact ⟨_,_,_,rfl,.yes a b h ha,f⟩
inductive PfxP (l:List UInt8) (c:UInt8):Ending->Prop
 |no:(∀b,l≠c::b)->PfxP l c (.returned (.tuple #[.string (ba l),.bool false]))
 |yes (b:List UInt8):l=c::b->PfxP l c (.returned (.tuple #[.string (ba b),.bool true]))
theorem s_CutPrefix (s:ByteArray) (c:UInt8) (w:World):Calls Tryz.prog n_strings_CutPrefix #[.string s,.string (ByteArray.mk #[c])] w λr w'=>PfxP (bl s) c r/\Fr0 w w':=by
 have hz:s.size=(bl s).length:=rfl
 have pre:Calls Tryz.prog n_internal_stringslite_HasPrefix #[.string s,.string (ByteArray.mk #[c])] w λr w'=>(∃b:Bool,r=.returned (.bool b)/\(b=true↔∃l,bl s=c::l))/\w'=w:=by
  refine internal_stringslite_HasPrefix.ok _ _ w _ (sel_dec (λh=>⟨by omega,h,⟨_,rfl,?_⟩,rfl⟩) (λh=>⟨⟨_,rfl,⟨λh=>(by cases h),λ⟨l,e⟩=>?_⟩⟩,rfl⟩))
  .have h1:1<=s.size:=by
    have h:((1:Nat):Int)<=(s.size:Int):=h
    omega
   rw [tx_eq]
   cases hb:bl s with
   |nil=>rw [hz,hb] at h1;simp at h1
   |cons d l=>
    have e:s.extract 0 (Int.toNat (((ByteArray.mk #[c]).size:Nat):Int))=ba [d]:=by rw [bl_ext,hb];rfl
    rw [e,decide_eq_true_iff]
    constructor
    .intro h
     have:[d]=[c]:=congrArg (λb:ByteArray=>b.data.toList) h
     exact ⟨l,by rw [(List.cons.inj this).1]⟩
    .rintro ⟨m,e⟩
     rw [(List.cons.inj e).1];rfl
  .rw [hz,e] at h
   exact absurd (show ((1:Nat):Int)<=(((c::l).length:Nat):Int) by simp;omega) h
 refine strings_CutPrefix.ok _ _ w _ ((show Calls Tryz.prog n_internal_stringslite_CutPrefix #[.string s,.string (ByteArray.mk #[c])] w λr w'=>PfxP (bl s) c r/\Fr0 w w' from internal_stringslite_CutPrefix.ok _ _ w _ (pre.mono ?_)).mono ?_)
 .rintro _ w1 ⟨⟨b,rfl,hb⟩,rfl⟩
  refine ⟨_,rfl,?_⟩
  cases b with
  |false=>exact sel_true rfl ⟨by have:=PfxP.no (l:=bl s) (c:=c) (λb e=>by have:=hb.2 ⟨b,e⟩;cases this);rwa [ba_bl] at this,Fr.refl _ _⟩
  |true=>
   obtain ⟨l,e⟩:=hb.1 rfl
   have h1:s.size=l.length+1:=by rw [hz,e];rfl
   refine sel_false rfl ⟨by omega,?_,?_,Fr.refl _ _⟩
   .show ((1:Nat):Int)<=_;omega
   .have e2:s.extract (Int.toNat (((ByteArray.mk #[c]).size:Nat):Int)) s.size=ba l:=by
     rw [bl_ext,hz,qtL,e];rfl
    rw [e2]
    exact .yes l e
 .rintro _ w1 ⟨h,f⟩
  cases h with
  |no h=>exact ⟨_,_,rfl,.no h,f⟩
  |yes b h=>exact ⟨_,_,rfl,.yes b h,f⟩
def strV (l:List UInt8):Value:=.string (ba l)
theorem sub_all (s:Sl) (n:Nat) (h:n=s.n):Value.slice (if s.c=0 then s.a else s.a.map (·.add (0 *1))) (n - 0) (s.c - 0)=s.v:=by
 obtain ⟨a,m,c⟩:=s
 subst h
 cases a with
 |none=>simp
 |some p=>simp [Addr.add]
theorem s_Split (s:ByteArray) (c:UInt8) (hs:s.size<=1000000000) (w:World):Calls Tryz.prog n_strings_Split #[.string s,.string (ByteArray.mk #[c])] w λr w'=>(∃t:Sl,r=.returned t.v/\OwnRow w' ty_string 1 t ((splitB c (bl s)).map strV)/\∀b∈blkL t,w.heap.size<=b)/\Fr0 w w':=by
 have hz:s.size=(bl s).length:=rfl
 have cnt:Calls Tryz.prog n_strings_Count #[.string s,.string (ByteArray.mk #[c])] w λr w'=>r=.returned (.i ((Go.Lib.countByte (bl s) c:Nat):Int))/\w'=w:=
  strings_Count.ok _ _ w _ (sel_false rfl (sel_true rfl ⟨by omega,c,rfl,_,w,s_countString s c w,rfl,rfl⟩))
 have hcl:Go.Lib.countByte (bl s) c<=s.size:=by rw [hz];exact List.count_le_length
 generalize hn:Go.Lib.countByte (bl s) c=n at *
 have hsl:=split_len c (bl s)
 rw [hn] at hsl
 have loop:∀(m i:Nat) (cur:ByteArray) (a:Sl) (done:List (List UInt8)) (w1:World),i+m=n->cur.size<=s.size->done.length=i->splitB c (bl s)=done++splitB c (bl cur)->LH F0 w w1 [.row ty_string 1 a (done.map strV++List.replicate (m+1) (Value.string (ByteArray.mk #[])))] []->
   strings_genSplit.L3 cur (ByteArray.mk #[c]) 0 (n:Int) a (i:Int) w1 λr w'=>(∃t:Sl,r=.returned t.v/\OwnRow w' ty_string 1 t ((splitB c (bl s)).map strV)/\∀b∈blkL t,w.heap.size<=b)/\Fr0 w w':=by
  intro m
  induction m with
  |zero=>
   intro i cur a done w1 hi hcur hd he H
   have hal:a.n=n+1:=by
    have:=(H.get 0:OwnRow _ _ _ _ _).len
    simp at this
    omega
   have hl:(splitB c (bl cur)).length=1:=by
    have:=congrArg List.length he
    rw [qlA] at this
    omega
   have hno:c∉bl cur:=λhm=>by
    obtain ⟨x,y,e,hx⟩:=mem_cut hm
    rw [e,split_cut hx] at hl
    have:splitB c y=[]:=qeN (by simpa using hl)
    exact split_ne c y this
   refine strings_genSplit.L3_step _ _ _ _ _ _ _ _ (sel_false (decide_eq_false (by omega)) ?_)
   obtain ⟨p,hp⟩:∃p,a.a=some p:=by
    have h:=(row_at (H.get 0) rfl (i:=i) (v:=Value.string (ByteArray.mk #[])) (by rw [List.getElem?_append_right (by simp;omega)];simp [hd]) (K:=λq=>a.a=some q) λp hp _=>hp)
    obtain ⟨q,hq,h⟩:=optP_elim h.2.2
    exact ⟨q,hq⟩
   refine ⟨by omega,by omega,optP_of hp (st_plain (H.st1 (bs:=[]) 0 (i *1) rfl hp (by simp;omega) (λw2 H2=>?_) (by simp)))⟩
   have hw:IntKind.wrap .i64 ((i:Int)+1)=((i+1:Nat):Int):=i64_next _ (by omega)
   rw [hw,Int.toNat_natCast,sub_all _ _ (by omega)]
   have hcap:=(H2.get 0:OwnRow _ _ _ _ _).cap
   refine ⟨by omega,by omega,⟨a,rfl,?_,λb hb=>(H2.new _ (qmG (i:=0) rfl) b hb).resolve_right id⟩,H2.fr⟩
   have hr:OwnRow w2 ty_string 1 a ((done.map strV++List.replicate (0+1) (Value.string (ByteArray.mk #[]))).set (i *1) (.string cur)):=H2.get 0
   rw [Nat.mul_one] at hr
   rw [he,split_no hno,qmpA]
   rw [List.set_append_right _ _ (by simp;omega)] at hr
   simp only [qlM,hd,Nat.mul_one,Nat.sub_self,List.replicate_one,qsZ] at hr
   have e:List.map strV [bl cur]=[Value.string cur]:=by simp [strV,ba_bl]
   rw [e]
   exact hr
  |succ m ih=>
   intro i cur a done w1 hi hcur hd he H
   have hl:(splitB c (bl cur)).length=m+2:=by
    have:=congrArg List.length he
    rw [qlA] at this
    omega
   obtain ⟨x,y,e,hx⟩:∃x y,bl cur=x++c::y/\c∉x:=by
    rcases cut_cases c (bl cur) with ⟨h,_⟩|⟨x,y,e,hx,_⟩
    .rw [split_no h] at hl;simp at hl
    .exact ⟨x,y,e,hx⟩
   obtain ⟨z,e1,e2⟩:=cut_parts e
   have hal:a.n=n+1:=by
    have:=(H.get 0:OwnRow _ _ _ _ _).len
    simp at this
    omega
   refine strings_genSplit.L3_step _ _ _ _ _ _ _ _ (sel_true (decide_eq_true (by omega)) ((s_Index cur c w1).mono ?_))
   rintro _ _ ⟨rfl,rfl⟩
   rw [e,idx_of hx]
   refine ⟨_,rfl,sel_false (decide_eq_false (by omega)) ?_⟩
   have h0:IntKind.wrap .i64 ((x.length:Int)+0)=((x.length:Nat):Int):=by rw [Int.add_zero];exact IntWalk.i64_in _ (by omega)
   have h1:IntKind.wrap .i64 ((x.length:Int)+(((ByteArray.mk #[c]).size:Nat):Int))=((x.length+1:Nat):Int):=i64_next _ (by omega)
   simp only [h0,h1,Int.toNat_natCast,e1,e2]
   obtain ⟨p,hp⟩:∃p,a.a=some p:=by
    have h:=(row_at (H.get 0) rfl (i:=i) (v:=Value.string (ByteArray.mk #[])) (by rw [List.getElem?_append_right (by simp;omega)];simp [hd]) (K:=λq=>a.a=some q) λp hp _=>hp)
    obtain ⟨q,hq,h⟩:=optP_elim h.2.2
    exact ⟨q,hq⟩
   refine ⟨by omega,by omega,by omega,by omega,optP_of hp (st_plain (H.st1 (bs:=[]) 0 (i *1) rfl hp (by simp;omega) (λw2 H2=>?_) (by simp)))⟩
   refine ⟨by omega,by omega,?_⟩
   show strings_genSplit.L3 _ _ _ _ _ (IntKind.wrap .i64 ((i:Int)+1)) _ _
   rw [i64_next _ (by omega)]
   refine ih (i+1) (ba y) a (done++[x]) w2 (by omega) (by rw [ba_size];omega) (by simp [hd]) ?_ ?_
   .rw [he,e,split_cut hx,qaA];rfl
   .have hr:=H2
    rw [List.set_append_right _ _ (by simp;omega)] at hr
    simp only [qlM,hd,Nat.mul_one,Nat.sub_self] at hr
    rw [show m+1+1=(m+1)+1 from rfl,List.replicate_succ,qsZ] at hr
    rw [qmpA,qaA]
    exact hr
 refine strings_Split.ok _ _ w _ ((show Calls Tryz.prog n_strings_genSplit #[.string s,.string (ByteArray.mk #[c]),.i 0,.i (-1)] w λr w'=>(∃t:Sl,r=.returned t.v/\OwnRow w' ty_string 1 t ((splitB c (bl s)).map strV)/\∀b∈blkL t,w.heap.size<=b)/\Fr0 w w' from
  strings_genSplit.ok _ _ _ _ w _ (sel_false rfl (sel_tx (λh=>absurd (congrArg ByteArray.size h) (by show ¬(1:Nat)=0;omega)) (λ_=>sel_true rfl (cnt.mono ?_))))).mono ?_)
 .rintro _ w0 ⟨rfl,rfl⟩
  refine ⟨_,rfl,?_⟩
  have h1:IntKind.wrap .i64 ((n:Int)+1)=((n+1:Nat):Int):=i64_next _ (by omega)
  have h2:IntKind.wrap .i64 (((s.size:Nat):Int)+1)=((s.size+1:Nat):Int):=i64_next _ (by omega)
  dsimp only
  rw [h1]
  unfold strings_genSplit.S0
  rw [h2,if_neg (by omega)]
  obtain ⟨w1,r1,r2,r3⟩:=make_full el_str w0 (n+1) (by omega)
  have H:=(lh0 (w:=w0) [] (by simp)).pushg r3 r2 (by intro b hb;simp [blkL] at hb;omega)
  have h3:IntKind.wrap .i64 (((n+1:Nat):Int) - 1)=((n:Nat):Int):=by rw [IntWalk.i64_in _ (by omega)];omega
  refine ⟨⟨some ⟨w0.heap.size,0,none⟩,n+1,n+1⟩,w1,r1,?_⟩
  rw [h3]
  refine loop n 0 s _ [] w1 (by omega) (Nat.le_refl _) rfl rfl ?_
  rw [madeCells_one _ _ rfl] at H
  simpa using H
 .rintro _ w1 ⟨⟨t,rfl,h1,h2⟩,f⟩
  exact ⟨_,rfl,⟨_,rfl,h1,h2⟩,f⟩
def p10L:List Int:=[1,10,100,1000,10000,100000,1000000,10000000,100000000,1000000000,10000000000,100000000000,1000000000000,10000000000000,100000000000000,1000000000000000,10000000000000000,100000000000000000,1000000000000000000,10000000000000000000]
abbrev uintV (n:Int):Value:=.int .u64 n
abbrev p10E:En:=.rd ⟨some (at0 5),20,20⟩ (p10L.map uintV)
theorem p10_get:∀k<20,p10L[k]? =some ((10^k:Nat):Int):=by decide
def bits8 (x:Nat):Nat:=if x=0 then 0 else Nat.log2 x+1
theorem len8:∀x<256,litVS0[x]? =some (UInt8.ofNat (bits8 x))/\bits8 x<=8/\x<2^bits8 x/\(x≠0->2^(bits8 x - 1)<=x/\1<=bits8 x):=by decide+kernel
theorem c_Len64 {u:Nat} (h0:u≠0) (hu:u<2^64) (w:World):Calls Tryz.prog n_math_bits_Len64 #[.u (u:Int)] w λr w'=>(∃L:Nat,r=.returned (.i (L:Int))/\1<=L/\L<=64/\2^(L - 1)<=u/\u<2^L)/\w'=w:=by
 have fin:∀(x n:Nat),x≠0->x<256->n<=56->2^n *x<=u->u<2^n *(x+1)->math_bits_Len64.S2 (x:Int) (n:Int) w λr w'=>(∃L:Nat,r=.returned (.i (L:Int))/\1<=L/\L<=64/\2^(L - 1)<=u/\u<2^L)/\w'=w:=by
  intro x n hx0 hx hn h1 h2
  obtain ⟨a1,a2,a3,a4⟩:=len8 x hx
  obtain ⟨a5,a6⟩:=a4 hx0
  have e:IntKind.wrap .u8 (x:Int)=(x:Int):=by rw [IntKind.wrap_u8];omega
  have e2:((UInt8.ofNat (bits8 x)).toNat:Int)=(bits8 x:Int):=by
   rw [UInt8.toNat_ofNat'];omega
  unfold math_bits_Len64.S2
  rw [e,Int.toNat_natCast]
  refine ⟨by omega,_,a1,⟨n+bits8 x,?_,by omega,by omega,?_,?_⟩,rfl⟩
  .have e3:IntKind.wrap .i64 ((n:Int)+IntKind.wrap .i64 (bits8 x:Int))=((n+bits8 x:Nat):Int):=by rw [IntWalk.i64_in (bits8 x:Int) (by omega),IntWalk.i64_in _ (by omega)];omega
   rw [e2,e3]
  .rw [show n+bits8 x - 1=n+(bits8 x - 1) by omega,Nat.pow_add]
   exact Nat.le_trans (Nat.mul_le_mul_left _ a5) h1
  .rw [Nat.pow_add]
   exact Nat.lt_of_lt_of_le h2 (Nat.mul_le_mul_left _ a3)
 have sh:∀(x n k:Nat),2^n *x<=u->u<2^n *(x+1)->2^(n+k) *(x / 2^k)<=u/\u<2^(n+k) *(x / 2^k+1):=by
  intro x n k h1 h2
  have hp:=Nat.two_pow_pos k
  have hd:=Nat.div_add_mod x (2^k)
  have hm:=Nat.mod_lt x hp
  rw [Nat.pow_add,Nat.mul_assoc,Nat.mul_assoc]
  constructor
  .exact Nat.le_trans (Nat.mul_le_mul_left _ (Nat.mul_div_le x _)) h1
  .refine Nat.lt_of_lt_of_le h2 (Nat.mul_le_mul_left _ ?_)
   rw [Nat.mul_add,Nat.mul_one]
   omega
 have fd:∀x k:Nat,Int.fdiv (x:Int) (2^k)=((x / 2^k:Nat):Int):=λx k=>by
  have:=fdiv_nat x (2^k) (Nat.two_pow_pos k)
  rw [Int.natCast_pow] at this
  exact this
 have S1:∀(x n:Nat),x≠0->x<65536->n<=48->2^n *x<=u->u<2^n *(x+1)->math_bits_Len64.S1 (x:Int) (n:Int) w λr w'=>(∃L:Nat,r=.returned (.i (L:Int))/\1<=L/\L<=64/\2^(L - 1)<=u/\u<2^L)/\w'=w:=by
  intro x n hx0 hx hn h1 h2
  refine sel_dec (λh=>?_) (λh=>fin x n hx0 (by omega) (by omega) h1 h2)
  obtain ⟨g1,g2⟩:=sh x n 8 h1 h2
  rw [fd,show IntKind.wrap .i64 ((n:Int)+8)=((n+8:Nat):Int) by rw [IntWalk.i64_in _ (by omega)];omega]
  exact fin _ _ (by omega) (by omega) (by omega) g1 g2
 have S0:∀(x n:Nat),x≠0->x<4294967296->n<=32->2^n *x<=u->u<2^n *(x+1)->math_bits_Len64.S0 (x:Int) (n:Int) w λr w'=>(∃L:Nat,r=.returned (.i (L:Int))/\1<=L/\L<=64/\2^(L - 1)<=u/\u<2^L)/\w'=w:=by
  intro x n hx0 hx hn h1 h2
  refine sel_dec (λh=>?_) (λh=>S1 x n hx0 (by omega) (by omega) h1 h2)
  obtain ⟨g1,g2⟩:=sh x n 16 h1 h2
  rw [fd,show IntKind.wrap .i64 ((n:Int)+16)=((n+16:Nat):Int) by rw [IntWalk.i64_in _ (by omega)];omega]
  exact S1 _ _ (by omega) (by omega) (by omega) g1 g2
 refine math_bits_Len64.ok _ w _ (sel_dec (λh=>?_) (λh=>S0 u 0 h0 (by omega) (by omega) (by omega) (by omega)))
 obtain ⟨g1,g2⟩:=sh u 0 32 (by omega) (by omega)
 rw [fd]
 exact S0 _ 32 (by omega) (by omega) (by omega) g1 g2
theorem log_tab:∀L<65,1<=L->L *78913 / 2^18<20/\10^(L *78913 / 2^18 - 1)<=2^(L - 1)/\2^L<=10^(L *78913 / 2^18+1)/\(L *78913 / 2^18=0->L<=3):=by decide+kernel
theorem c_numDigits {u:Nat} (h0:u≠0) (hu:u<2^64) (w:World) (hk:p10E.P w):Calls Tryz.prog n_internal_strconv_numDigits #[.u (u:Int)] w λr w'=>r=.returned (.i (((dcU u).length:Nat):Int))/\w'=w:=by
 refine internal_strconv_numDigits.ok _ w _ ((c_Len64 h0 hu w).mono ?_)
 rintro _ w1 ⟨⟨L,rfl,l1,l2,l3,l4⟩,rfl⟩
 obtain ⟨t1,t2,t3,t4⟩:=log_tab L (by omega) l1
 have e:Int.fdiv (IntKind.wrap .i64 ((L:Int) *78913)) (2^18)=((L *78913 / 2^18:Nat):Int):=by
  rw [show IntKind.wrap .i64 ((L:Int) *78913)=((L *78913:Nat):Int) by rw [IntWalk.i64_in _ (by omega)];omega]
  have:=fdiv_nat (L *78913) (2^18) (Nat.two_pow_pos _)
  rw [Int.natCast_pow] at this
  exact this
 refine ⟨_,rfl,internal_strconv_log10Pow2.ok _ w1 _ ⟨_,rfl,?_⟩⟩
 rw [e]
 generalize hn:L *78913 / 2^18=n at *
 have hc:w1.cell? ((at0 5).add n)=some (.u ((10^n:Nat):Int)):=by
  have:=Rd.get (show Rd w1 ⟨some (at0 5),20,20⟩ (p10L.map uintV) from hk) (i:=n) (j:=n) (v:=uintV ((10^n:Nat):Int)) (by rw [qgM,p10_get n t1];rfl) (by omega) (K:=λp=>∃q,some q=some (at0 5)/\w1.cell? (q.add n)=some (.u ((10^n:Nat):Int))) (λp hp hc=>⟨p,hp.symm,hc⟩)
  obtain ⟨q,hq,h⟩:=optP_elim this
  obtain ⟨q',hq',h'⟩:=h
  cases hq'
  exact h'
 refine ⟨by omega,by omega,((10^n:Nat):Int),by rw [Int.toNat_natCast,Nat.mul_one];exact hc,?_⟩
 have hb:∀b:Bool,Calls Tryz.prog n_internal_strconv_bool2_int #[.bool b] w1 λr w'=>r=.returned (.i (if b then 1 else 0))/\w'=w1:=λb=>
  internal_strconv_bool2_int.ok _ w1 _ (by cases b<;>exact ⟨rfl,rfl⟩)
 refine (hb _).mono ?_
 rintro _ w2 ⟨rfl,rfl⟩
 refine ⟨_,rfl,?_,rfl⟩
 have main:(if decide ((u:Int)>=((10^n:Nat):Int))=true then (n:Int)+1 else (n:Int)+0)=(((dcU u).length:Nat):Int):=by
  have hne:1<=(dcU u).length:=by
   cases hd:dcU u with
   |nil=>exact absurd hd (dcU_ne _)
   |cons c l=>simp
  by_cases hge:10^n<=u
  .rw [if_pos (decide_eq_true (by omega))]
   have up:(dcU u).length<=n+1:=dcU_len (by omega) (Nat.lt_of_lt_of_le l4 t3)
   have lo:n+1<=(dcU u).length:=by
    rcases Nat.lt_or_ge (dcU u).length (n+1) with h|h
    .exfalso
     have h1:=valF_lt (dcU u) (dcU_all u)
     rw [val_dcU] at h1
     have:=Nat.pow_le_pow_right (n:=10) (by omega) (show (dcU u).length<=n by omega)
     omega
    .exact h
   omega
  .rw [if_neg (λh=>hge (by have:=of_decide_eq_true h;omega))]
   have hn1:1<=n:=by
    rcases Nat.eq_zero_or_pos n with h|h
    .subst h;rw [Nat.pow_zero] at hge;omega
    .exact h
   have up:(dcU u).length<=n:=dcU_len hn1 (by omega)
   have lo:n<=(dcU u).length:=by
    rcases Nat.lt_or_ge (dcU u).length n with h|h
    .exfalso
     have h1:=valF_lt (dcU u) (dcU_all u)
     rw [val_dcU] at h1
     have:=Nat.pow_le_pow_right (n:=10) (by omega) (show (dcU u).length<=n - 1 by omega)
     omega
    .exact h
   omega
 have hn20:(n:Int)<20:=by omega
 cases hbb:decide ((u:Int)>=((10^n:Nat):Int)) with
 |true=>
  rw [hbb,if_pos rfl] at main
  have e5:IntKind.wrap .i64 ((n:Int)+1)=(n:Int)+1:=IntWalk.i64_in _ (by omega)
  rw [if_pos rfl,<-main,e5]
 |false=>
  rw [hbb,if_neg (by decide)] at main
  have e5:IntKind.wrap .i64 ((n:Int)+0)=(n:Int)+0:=IntWalk.i64_in _ (by omega)
  rw [if_neg (by decide),<-main,e5]
theorem small_get:∀x<100,litVDn0[2 *x]? =some (digB (x / 10))/\litVDn0[2 *x+1]? =some (digB (x%10)):=by decide+kernel
def Dg (u nd o n:Nat) (vs:List Value):Prop:=vs.length=24/\∀j,n<=j->j<nd->vs[o+j]? =some (byteV (digB (u / 10^(nd - 1 - j)%10)))
theorem dg_at {u nd n i:Nat} (hn:n<=nd) (hi:i<n):u / 10^(nd - 1 - (n - 1 - i))%10=u / 10^(nd - n) / 10^i%10:=by
 rw [Nat.div_div_eq_div_mul,<-Nat.pow_add,show nd - n+i=nd - 1 - (n - 1 - i) by omega]
theorem Dg.put {u nd o n:Nat} {vs:List Value} (h:Dg u nd o (n+1) vs) (ho:o+nd<=24) (hn:n+1<=nd) {d:Nat} (hd:d=u / 10^(nd - 1 - n)%10):Dg u nd o n (vs.set (o+n) (byteV (digB d))):=by
 refine ⟨by rw [List.length_set];exact h.1,λj h1 h2=>?_⟩
 rcases Nat.eq_or_lt_of_le h1 with e|e
 .subst e
  rw [List.getElem?_set_self (by rw [h.1];omega),hd]
 .rw [List.getElem?_set_ne (by omega)]
  exact h.2 j e h2
section
variable {M:Nat->Prop} {w0 w:World} {D:List En} {a:Sl} {b o:Nat} {vs:List Value} {T:TypeId}
theorem put1 (ha:a.a=some ((at0 b).add o)) (H:LH M w0 w [.c b vs T] D) {X:Int} {n:Nat} (hX:X=(n:Int)) (hn:n<a.n) (hl:o+n<vs.length) {v:Value} {K:World->Prop} (hK:∀w',LH M w0 w' [.c b (vs.set (o+n) v) T] D->K w'):
  (0:Int)<=X/\X<((a.n:Nat):Int)/\optP a.a λp=>stV w (p.add (Int.toNat X *1)) v K:=by
 subst hX
 refine ⟨by omega,by omega,?_⟩
 rw [ha]
 show stV w (((at0 b).add o).add (Int.toNat (n:Int) *1)) v K
 rw [Int.toNat_natCast,Nat.mul_one,add_add]
 exact H.st 0 (o+n) rfl hK hl
theorem pair {x n:Nat} {nd c1 c2:Int} {u k:Nat} (ha:a.a=some ((at0 b).add o)) (hx:x<100) (h1:nd - c1=((n+1:Nat):Int)) (h2:nd - c2=(n:Int)) (hn:n+1<a.n) (han:o+a.n<=24) (hd:Dg u a.n o (n+2) vs) (e1:x%10=u / 10^(a.n - 1 - (n+1))%10) (e2:x / 10=u / 10^(a.n - 1 - n)%10)
  (H:LH M w0 w [.c b vs T] D) {K:World->Prop} (hK:∀w' vs',Dg u a.n o n vs'->LH M w0 w' [.c b vs' T] D->K w') {X:Int} (hX:X=((2 *x:Nat):Int)):
  drV w λw1=>(0:Int)<=(IntKind.wrap .u32 (X+1))/\∃t:UInt8,litVDn0[Int.toNat (IntKind.wrap .u32 (X+1))]? =some t/\(0:Int)<=X/\∃t':UInt8,litVDn0[Int.toNat X]? =some t'/\(0:Int)<=(IntKind.wrap .i64 (nd - c1))/\(IntKind.wrap .i64 (nd - c1))<((a.n:Nat):Int)/\optP a.a λp=>stV w1 (p.add (Int.toNat (IntKind.wrap .i64 (nd - c1)) *1)) (.int .u8 ((t.toNat:Nat):Int)) λw2=>
   (0:Int)<=(IntKind.wrap .i64 (nd - c2))/\(IntKind.wrap .i64 (nd - c2))<((a.n:Nat):Int)/\optP a.a λp=>stV w2 (p.add (Int.toNat (IntKind.wrap .i64 (nd - c2)) *1)) (.int .u8 ((t'.toNat:Nat):Int)) K:=by
 subst hX
 obtain ⟨s1,s2⟩:=small_get x hx
 have hw:IntKind.wrap .u32 (((2 *x:Nat):Int)+1)=((2 *x+1:Nat):Int):=by rw [IntKind.wrap_u32];omega
 refine H.dr λw1 H1=>?_
 rw [hw,h1,h2,IntWalk.i64_in ((n+1:Nat):Int) (by omega),IntWalk.i64_in (n:Int) (by omega),Int.toNat_natCast,Int.toNat_natCast]
 refine ⟨by omega,_,s2,by omega,_,s1,put1 ha H1 rfl (by omega) (by rw [hd.1];omega) λw2 H2=>put1 ha H2 rfl (by omega) (by rw [List.length_set,hd.1];omega) λw3 H3=>hK w3 _ ?_ H3⟩
 exact (hd.put han (n:=n+1) (by omega) e1).put han (by omega) e2
end
theorem u32_id {x:Nat} (h:x<4294967296):IntKind.wrap .u32 (x:Int)=(x:Int):=by rw [IntKind.wrap_u32];omega
section
variable {w0 w:World} {a:Sl} {b o u:Nat} {T:TypeId}
def FmtP (w0:World) (b o u nd:Nat) (T:TypeId) (r:Ending) (w':World):Prop:=r=.returned (.tuple #[])/\∃vs,LH (·=b) w0 w' [.c b vs T] []/\Dg u nd o 0 vs
theorem f_last {n:Nat} (ha:a.a=some ((at0 b).add o)) (han:o+a.n<=24) (hn:n<=1) (hna:n<=a.n) (hu:u<10^a.n) {vs:List Value} (hd:Dg u a.n o n vs) (H:LH (·=b) w0 w [.c b vs T] []):
  internal_strconv_formatBase10.S12 a (n:Int) ((u / 10^(a.n - n):Nat):Int) w (FmtP w0 b o u a.n T):=by
 refine sel_dec (λh=>?_) (λh=>?_)
 case' refine_2=>
  have h0:n=0:=by omega
  subst h0
  exact ⟨rfl,vs,H,hd⟩
 have:n=1:=by omega
 subst this
 have hlt:u / 10^(a.n - 1)<10:=by
  rw [Nat.div_lt_iff_lt_mul (Nat.pow_pos (by omega)),<-Nat.pow_succ',show (a.n - 1).succ=a.n by omega]
  exact hu
 generalize hx:u / 10^(a.n - 1)=x at *
 have e:(Value.int .u8 (IntKind.wrap .u8 (IntKind.wrap .u32 (48+(x:Int)))))=byteV (digB x):=by
  have h1:IntKind.wrap .u32 (48+(x:Int))=((48+x:Nat):Int):=by rw [IntKind.wrap_u32];omega
  have h2:IntKind.wrap .u8 ((48+x:Nat):Int)=((48+x:Nat):Int):=by rw [IntKind.wrap_u8];omega
  rw [h1,h2,byteV,digB_nat x hlt]
 rw [e]
 refine put1 ha H (X:=0) (n:=0) rfl (by omega) (by rw [hd.1];omega) λw1 H1=>⟨rfl,_,H1,hd.put han (by omega) ?_⟩
 rw [show a.n - 1 - 0=a.n - 1 by omega,hx,Nat.mod_eq_of_lt hlt]
theorem f_two {n:Nat} (ha:a.a=some ((at0 b).add o)) (han:o+a.n<=24) (hn:n<4) (hna:n<=a.n) (hu:u<10^a.n) {vs:List Value} (hd:Dg u a.n o n vs) (H:LH (·=b) w0 w [.c b vs T] []):
  internal_strconv_formatBase10.S9 a (n:Int) ((u / 10^(a.n - n):Nat):Int) w (FmtP w0 b o u a.n T):=by
 refine sel_dec (λh=>?_) (λh=>f_last ha han (by omega) hna hu hd H)
 obtain ⟨m,rfl⟩:∃m,n=m+2:=⟨n - 2,by omega⟩
 have hlt:u / 10^(a.n - (m+2))<10000:=by
  rw [Nat.div_lt_iff_lt_mul (Nat.pow_pos (by omega))]
  refine Nat.lt_of_lt_of_le hu ?_
  rw [show (10000:Nat)=10^4 from rfl,<-Nat.pow_add]
  exact Nat.pow_le_pow_right (by omega) (by omega)
 have d0:=dg_at (u:=u) hna (i:=0) (by omega)
 have d1:=dg_at (u:=u) hna (i:=1) (by omega)
 have eq:u / 10^(a.n - (m+2)) / 100=u / 10^(a.n - m):=by
  rw [Nat.div_div_eq_div_mul,show (100:Nat)=10^2 from rfl,<-Nat.pow_add,show a.n - (m+2)+2=a.n - m by omega]
 generalize hx:u / 10^(a.n - (m+2))=x at *
 rw [Nat.pow_zero,Nat.div_one] at d0
 rw [Nat.pow_one] at d1
 have e1:Int.tmod (x:Int) 100=((x%100:Nat):Int):=rfl
 have e2:Int.tdiv (x:Int) 100=((x / 100:Nat):Int):=rfl
 unfold internal_strconv_formatBase10.S10
 rw [e1,e2,u32_id (by omega),eq]
 have hw:IntKind.wrap .u32 (((x%100:Nat):Int) *2)=((2 *(x%100):Nat):Int):=by rw [IntKind.wrap_u32];omega
 rw [hw]
 refine pair (k:=0) ha (x:=x%100) (n:=m) (by omega) (by omega) (by omega) (by omega) han hd ?_ ?_ H (λw' vs' hd' H'=>?_) rfl
 .rw [show m+2 - 1 - 0=m+1 by omega] at d0
  rw [d0];omega
 .rw [show m+2 - 1 - 1=m by omega] at d1
  rw [d1];omega
 .rw [show ((m+2:Nat):Int) - 2=(m:Int) by omega,IntWalk.i64_in _ (by omega)]
  exact f_last ha han (by omega) (by omega) hu hd' H'
theorem f_loop (ha:a.a=some ((at0 b).add o)) (han:o+a.n<=24) (hu:u<10^a.n) (hu64:u<2^64):∀(n:Nat),n<=a.n->∀(w:World) (vs:List Value),Dg u a.n o n vs->LH (·=b) w0 w [.c b vs T] []->
  internal_strconv_formatBase10.L0 a ((u / 10^(a.n - n):Nat):Int) (n:Int) w (FmtP w0 b o u a.n T):=by
 intro n
 induction n using Nat.strongRecOn with
 |_ n ih=>
 intro hna w vs hd H
 have hq:u / 10^(a.n - n)<2^64:=Nat.lt_of_le_of_lt (Nat.div_le_self _ _) hu64
 have hlt:∀k,n<=k->u / 10^(a.n - n)<10^k:=λk hk=>by
  rw [Nat.div_lt_iff_lt_mul (Nat.pow_pos (by omega))]
  refine Nat.lt_of_lt_of_le hu ?_
  rw [<-Nat.pow_add]
  exact Nat.pow_le_pow_right (by omega) (by omega)
 have dig:∀i,i<n->u / 10^(a.n - 1 - (n - 1 - i))%10=u / 10^(a.n - n) / 10^i%10:=λi hi=>dg_at hna hi
 have step:∀i,i<=n->u / 10^(a.n - n) / 10^i=u / 10^(a.n - (n - i)):=λi hi=>by
  rw [Nat.div_div_eq_div_mul,<-Nat.pow_add,show a.n - n+i=a.n - (n - i) by omega]
 generalize hx:u / 10^(a.n - n)=x at *
 refine internal_strconv_formatBase10.L0_step _ _ _ _ _ (sel_dec (λh8=>?_) (λh8=>sel_dec (λh4=>?_) (λh4=>?_)))
 .obtain ⟨m,rfl⟩:∃m,n=m+8:=⟨n - 8,by omega⟩
  have e0:Int.tmod (x:Int) 100000000=((x%100000000:Nat):Int):=rfl
  have e1:Int.tdiv (x:Int) 100000000=((x / 100000000:Nat):Int):=rfl
  have e2:∀y:Nat,Int.tdiv (y:Int) 10000=((y / 10000:Nat):Int):=λ_=>rfl
  have e3:∀y:Nat,Int.tmod (y:Int) 10000=((y%10000:Nat):Int):=λ_=>rfl
  have e4:∀y:Nat,Int.tdiv (y:Int) 100=((y / 100:Nat):Int):=λ_=>rfl
  have e5:∀y:Nat,Int.tmod (y:Int) 100=((y%100:Nat):Int):=λ_=>rfl
  have dbl:∀y:Nat,y<100000->IntKind.wrap .u32 ((y:Int) *2)=((2 *y:Nat):Int):=λy hy=>by rw [IntKind.wrap_u32];omega
  have hu:IntKind.wrap .u64 ((x / 100000000:Nat):Int)=((x / 100000000:Nat):Int):=by rw [IntKind.wrap_u64];omega
  unfold internal_strconv_formatBase10.S1 internal_strconv_formatBase10.S2 internal_strconv_formatBase10.S3 internal_strconv_formatBase10.S4
  rw [e0,e1,hu,u32_id (x:=x%100000000) (by omega),e2,e3,u32_id (x:=x%100000000 / 10000) (by omega),e4,e5,e4,e5,u32_id (x:=x%100000000%10000 / 100) (by omega),u32_id (x:=x%100000000 / 10000 / 100) (by omega),dbl _ (by omega),dbl _ (by omega),dbl _ (by omega),dbl _ (by omega)]
  have g:∀i,i<8->u / 10^(a.n - 1 - (m+(7 - i)))%10=x / 10^i%10:=λi hi=>by
   have:=dig i (by omega)
   rwa [show m+8 - 1 - i=m+(7 - i) by omega] at this
  have g0:=g 0 (by omega)
  have g1:=g 1 (by omega)
  have g2:=g 2 (by omega)
  have g3:=g 3 (by omega)
  have g4:=g 4 (by omega)
  have g5:=g 5 (by omega)
  have g6:=g 6 (by omega)
  have g7:=g 7 (by omega)
  simp only [Nat.reducePow,Nat.reduceSub,Nat.div_one,Nat.add_zero] at g0 g1 g2 g3 g4 g5 g6 g7
  refine pair (k:=0) ha (x:=x%100000000%10000%100) (n:=m+6) (by omega) (by omega) (by omega) (by omega) han hd (by rw [g0];omega) (by rw [g1];omega) H (λw1 vs1 hd1 H1=>?_) rfl
  refine pair (k:=0) ha (x:=x%100000000%10000 / 100) (n:=m+4) (by omega) (by omega) (by omega) (by omega) han hd1 (by rw [g2];omega) (by rw [g3];omega) H1 (λw2 vs2 hd2 H2=>?_) rfl
  refine pair (k:=0) ha (x:=x%100000000 / 10000%100) (n:=m+2) (by omega) (by omega) (by omega) (by omega) han hd2 (by rw [g4];omega) (by rw [g5];omega) H2 (λw3 vs3 hd3 H3=>?_) rfl
  refine pair (k:=0) ha (x:=x%100000000 / 10000 / 100) (n:=m) (by omega) (by omega) (by omega) (by omega) han hd3 (by rw [g6];omega) (by rw [g7];omega) H3 (λw4 vs4 hd4 H4=>?_) rfl
  rw [show ((m+8:Nat):Int) - 8=(m:Int) by omega,IntWalk.i64_in _ (by omega)]
  have st:=step 8 (by omega)
  rw [show m+8 - 8=m by omega] at st
  simp only [Nat.reducePow] at st
  rw [st]
  exact ih m (by omega) (by omega) w4 vs4 hd4 H4
 .obtain ⟨m,rfl⟩:∃m,n=m+4:=⟨n - 4,by omega⟩
  have h7:=hlt 7 (by omega)
  simp only [Nat.reducePow] at h7
  have e2:∀y:Nat,Int.tdiv (y:Int) 10000=((y / 10000:Nat):Int):=λ_=>rfl
  have e3:∀y:Nat,Int.tmod (y:Int) 10000=((y%10000:Nat):Int):=λ_=>rfl
  have e4:∀y:Nat,Int.tdiv (y:Int) 100=((y / 100:Nat):Int):=λ_=>rfl
  have e5:∀y:Nat,Int.tmod (y:Int) 100=((y%100:Nat):Int):=λ_=>rfl
  have dbl:∀y:Nat,y<100000->IntKind.wrap .u32 ((y:Int) *2)=((2 *y:Nat):Int):=λy hy=>by rw [IntKind.wrap_u32];omega
  unfold internal_strconv_formatBase10.S6 internal_strconv_formatBase10.S7 internal_strconv_formatBase10.S8
  rw [u32_id (x:=x) (by omega),e2,e3,u32_id (x:=x / 10000) (by omega),e4,e5,u32_id (x:=x%10000 / 100) (by omega),dbl _ (by omega),dbl _ (by omega)]
  have g:∀i,i<4->u / 10^(a.n - 1 - (m+(3 - i)))%10=x / 10^i%10:=λi hi=>by
   have:=dig i (by omega)
   rwa [show m+4 - 1 - i=m+(3 - i) by omega] at this
  have g0:=g 0 (by omega)
  have g1:=g 1 (by omega)
  have g2:=g 2 (by omega)
  have g3:=g 3 (by omega)
  simp only [Nat.reducePow,Nat.reduceSub,Nat.div_one,Nat.add_zero] at g0 g1 g2 g3
  refine pair (k:=0) ha (x:=x%10000%100) (n:=m+2) (by omega) (by omega) (by omega) (by omega) han hd (by rw [g0];omega) (by rw [g1];omega) H (λw1 vs1 hd1 H1=>?_) rfl
  refine pair (k:=0) ha (x:=x%10000 / 100) (n:=m) (by omega) (by omega) (by omega) (by omega) han hd1 (by rw [g2];omega) (by rw [g3];omega) H1 (λw2 vs2 hd2 H2=>?_) rfl
  rw [show ((m+4:Nat):Int) - 4=(m:Int) by omega,IntWalk.i64_in _ (by omega)]
  have st:=step 4 (by omega)
  rw [show m+4 - 4=m by omega] at st
  simp only [Nat.reducePow] at st
  rw [st]
  exact f_two ha han (by omega) (by omega) hu hd2 H2
 .have h4':=hlt 4 (by omega)
  simp only [Nat.reducePow] at h4'
  rw [u32_id (x:=x) (by omega),<-hx]
  exact f_two ha han (by omega) hna hu hd H
end
theorem c_format {w:World} {b o u nd c:Nat} {vs:List Value} {T:TypeId} (hb:w.heap[b]? =some (.cells vs.toArray T (0,0))) (hvs:vs.length=24) (ho:o+nd<=24) (hu:u<10^nd) (hu64:u<2^64):
  Calls Tryz.prog n_internal_strconv_formatBase10 #[.slice (some ((at0 b).add o)) nd c,.u (u:Int)] w (FmtP w b o u nd T):=by
 have H:LH (·=b) w w [.c b vs T] []:=LH.start' _ _ (by
  intro e he
  rw [qmS.1 he]
  exact ⟨hb,λx hx=>by simpa [En.c,En.ob] using hx⟩) (by simp [En.c,En.ob]) (by simp)
 refine internal_strconv_formatBase10.ok ⟨some ((at0 b).add o),nd,c⟩ _ w _ ?_
 have:=f_loop (a:=⟨some ((at0 b).add o),nd,c⟩) (u:=u) (T:=T) rfl ho hu hu64 nd (Nat.le_refl _) w vs ⟨hvs,λj h1 h2=>absurd (show j<nd from h2) (by omega)⟩ H
 rw [Nat.sub_self,Nat.pow_zero,Nat.div_one] at this
 exact this
theorem dg_list {u nd o:Nat} {vs:List Value} (h:Dg u nd o 0 vs) (hn:nd=(dcU u).length) (ho:o+nd<=24):(vs.drop o).take nd=(dcU u).map byteV:=by
 refine List.ext_getElem? λj=>?_
 rw [List.getElem?_take]
 split
 .rename_i hj
  rw [List.getElem?_drop,h.2 j (by omega) hj,dcU_map u,List.map_map,qgM,List.getElem?_range (by omega),hn]
  rfl
 .rw [qgM,List.getElem?_eq_none (by omega)]
  rfl
theorem dcU_two {n:Nat} (h1:10<=n) (h2:n<100):dcU n=[digB (n / 10),digB (n%10)]:=by
 rw [dcU_ge (by omega),dcU_lt (by omega)]
 rfl
theorem sm_one:∀n<10,litVDn1.extract n (n+1)=ba [digB n]:=by decide+kernel
theorem sm_two:∀n<100,10<=n->litVDn0.extract (n *2) (n *2+2)=ba [digB (n / 10),digB (n%10)]:=by decide+kernel
theorem c_small (m:Nat) (hm:m<100) (w:World):Calls Tryz.prog n_internal_strconv_small #[.i (m:Int)] w λr w'=>r=.returned (.string (ba (dcU m)))/\w'=w:=by
 refine internal_strconv_small.ok _ w _ (sel_dec (λh=>?_) (λh=>?_))
 .rw [i64_next _ (by omega)]
  refine ⟨by omega,?_,by omega,by rw [Int.toNat_natCast];omega,by rw [Int.toNat_natCast,Int.toNat_natCast,sm_one m (by omega),dcU_lt (by omega)],rfl⟩
  show ((m+1:Nat):Int)<=((36:Nat):Int)
  omega
 .have e1:IntKind.wrap .i64 ((m:Int) *2)=((m *2:Nat):Int):=by rw [IntWalk.i64_in _ (by omega)];omega
  have e2:IntKind.wrap .i64 (((m *2:Nat):Int)+2)=((m *2+2:Nat):Int):=by rw [IntWalk.i64_in _ (by omega)];omega
  rw [e1,e2]
  refine ⟨by omega,?_,by omega,by rw [Int.toNat_natCast];omega,by rw [Int.toNat_natCast,Int.toNat_natCast,sm_two m (by omega) (by omega),dcU_two (by omega) (by omega)],rfl⟩
  show ((m *2+2:Nat):Int)<=((200:Nat):Int)
  omega
theorem u64_abs {n:Int} (h:I64 n):(n<0->IntKind.wrap .u64 (0 - IntKind.wrap .u64 n)=(n.natAbs:Int))/\(0<=n->IntKind.wrap .u64 n=(n.natAbs:Int))/\n.natAbs<2^64:=by
 refine ⟨λh0=>?_,λh0=>?_,?_⟩
 .rw [IntKind.wrap_u64,IntKind.wrap_u64];omega
 .rw [IntKind.wrap_u64];omega
 .omega
theorem dcU_20 {u:Nat} (h:u<2^64):1<=(dcU u).length/\(dcU u).length<=20/\u<10^(dcU u).length:=by
 refine ⟨?_,dcU_len (by omega) (by omega),?_⟩
 .cases hd:dcU u with
  |nil=>exact absurd hd (dcU_ne _)
  |cons c l=>simp
 .have:=valF_lt (dcU u) (dcU_all u)
  rwa [val_dcU] at this
abbrev zero24:List Value:=List.replicate 24 (.int .u8 0)
theorem part_bytes {w:World} {b o n c:Nat} {vs:List Value} {T:TypeId} {bs:List UInt8} (hb:w.heap[b]? =some (.cells vs.toArray T (0,0))) (hl:bs.length=n) (hc:n<=c) (h:(vs.drop o).take n=bs.map byteV):Bytes w ⟨some ((at0 b).add o),n,c⟩ bs:=by
 refine rd_in (by simp [hl]) hc (λh=>by cases h) (λi v hi=>⟨(at0 b).add o,rfl,?_⟩)
 rw [<-h,List.getElem?_take] at hi
 split at hi
 .rw [List.getElem?_drop] at hi
  rw [add_add]
  exact cellAt (p:=at0 b) hb rfl (by simpa using hi)
 .cases hi
theorem c_FormatInt {n:Int} (h:I64 n) {w:World} (hk:p10E.P w):Calls Tryz.prog n_internal_strconv_FormatInt #[.i n,.i 10] w λr w'=>r=.returned (.string (ba (dcI n)))/\Fr0 w w':=by
 obtain ⟨u1,u2,u3⟩:=u64_abs h
 have big:¬(0<=n/\n<100)->internal_strconv_FormatInt.S0 n w λr w'=>r=.returned (.string (ba (dcI n)))/\Fr0 w w':=by
  intro hbig
  obtain ⟨d1,d2,d3⟩:=dcU_20 u3
  have H0:LH F0 w w [] [p10E]:=lh0 _ (by
   intro e he
   rw [qmS.1 he]
   exact hk)
  have S1:∀w1,LH F0 w w1 [.c w.heap.size zero24 ty_24_uint8] [p10E]->internal_strconv_FormatInt.S1 n (at0 w.heap.size) (n.natAbs:Int) w1 λr w'=>r=.returned (.string (ba (dcI n)))/\Fr0 w w':=by
   intro w1 H1
   refine (c_numDigits (by omega) u3 w1 (H1.getD 0)).mono ?_
   rintro _ w2 ⟨rfl,rfl⟩
   have e1:IntKind.wrap .i64 (1+(((dcU n.natAbs).length:Nat):Int))=(((dcU n.natAbs).length+1:Nat):Int):=by rw [IntWalk.i64_in _ (by omega)];omega
   refine ⟨_,rfl,?_⟩
   dsimp only
   rw [e1,Int.toNat_natCast]
   have e2:(if 24=Int.toNat 1 then at0 w.heap.size else (at0 w.heap.size).add (Int.toNat 1 *1))=(at0 w.heap.size).add 1:=by rw [if_neg (by decide)];rfl
   rw [e2]
   have e3:(dcU n.natAbs).length+1 - Int.toNat 1=(dcU n.natAbs).length:=by show _ - 1=_;omega
   rw [e3]
   refine ⟨by omega,by omega,by omega,by omega,(c_format (vs:=zero24) (o:=1) (nd:=(dcU n.natAbs).length) (H1.get 0) rfl (by omega) d3 u3).mono ?_⟩
   rintro _ w3 ⟨rfl,vs,Hf,hd⟩
   have H2:LH F0 w w3 [.c w.heap.size vs ty_24_uint8] [p10E]:=H1.upd 0 (.c w.heap.size vs ty_24_uint8) rfl (Hf.fr.mono λx _ hx=>by simp [En.c,En.ob,hx]) (Hf.get 0) λb hb=>.inl hb
   have hdl:=dg_list hd rfl (by omega)
   refine ⟨rfl,sel_dec (λhneg=>?_) (λhneg=>?_)⟩
   .have ev:dcI n=45::dcU n.natAbs:=by unfold dcI;rw [if_pos hneg]
    refine ⟨by omega,by omega,?_⟩
    have st:stV w3 ((at0 w.heap.size).add 0) (.int .u8 45) λw4=>(0:Int)<=(((dcU n.natAbs).length+1:Nat):Int)/\(((dcU n.natAbs).length+1:Nat):Int)<=((24:Nat):Int)/\∃t:ByteArray,Sem.run Tryz.prog (Go.convert ty_sl_uint8 ty_string (.slice (some (if 24=0 then at0 w.heap.size else (at0 w.heap.size).add (0 *1))) ((dcU n.natAbs).length+1 - 0) (24 - 0))) w4=.ok (.string t) w4/\(λr w'=>r=Ending.returned (.string (ba (dcI n)))/\Fr0 w w') (.returned (.string t)) w4:=by
     refine H2.st 0 0 rfl (λw4 H4=>⟨by omega,by omega,ba (dcI n),?_,rfl,H4.fr⟩) (by rw [hd.1];omega)
     have hb:Bytes w4 ⟨some ((at0 w.heap.size).add 0),(dcU n.natAbs).length+1,24⟩ (dcI n):=part_bytes (H4.get 0) (by rw [ev];rfl) (by omega) (by
      rw [ev,List.drop_zero]
      have h1:=hd.1
      cases vs with
      |nil=>simp at h1
      |cons v vs=>
       rw [qsZ,List.take_succ_cons,List.map_cons]
       rw [show List.drop 1 (v::vs)=vs from rfl] at hdl
       rw [hdl]
       rfl)
     exact bytes_str hb
    exact st
   .have ev:dcI n=dcU n.natAbs:=by unfold dcI;rw [if_neg hneg]
    refine ⟨by omega,by omega,by omega,by omega,ba (dcI n),?_,rfl,H2.fr⟩
    have hb:Bytes w3 ⟨some ((at0 w.heap.size).add 1),(dcU n.natAbs).length,24 - Int.toNat 1⟩ (dcI n):=part_bytes (H2.get 0) (by rw [ev]) (by show _<=24 - 1;omega) (by rw [ev];exact hdl)
    exact bytes_str hb
  have e:(#[.int .u8 0,.int .u8 0,.int .u8 0,.int .u8 0,.int .u8 0,.int .u8 0,.int .u8 0,.int .u8 0,.int .u8 0,.int .u8 0,.int .u8 0,.int .u8 0,.int .u8 0,.int .u8 0,.int .u8 0,.int .u8 0,.int .u8 0,.int .u8 0,.int .u8 0,.int .u8 0,.int .u8 0,.int .u8 0,.int .u8 0,.int .u8 0]:Array Value)=zero24.toArray:=rfl
  unfold internal_strconv_FormatInt.S0
  rw [e]
  refine H0.nw λw1 hs1 H1=>?_
  refine sel_dec (λhn=>?_) (λhn=>?_)
  .rw [u1 hn];exact S1 w1 H1
  .rw [u2 (by omega)];exact S1 w1 H1
 refine internal_strconv_FormatInt.ok _ _ w _ (sel_true rfl (sel_dec (λh0=>sel_dec (λh1=>?_) (λh1=>big (by omega))) (λh0=>big (by omega))))
 obtain ⟨m,rfl⟩:=Int.eq_ofNat_of_zero_le h0
 refine (c_small m (by omega) w).mono ?_
 rintro _ _ ⟨rfl,rfl⟩
 refine ⟨_,rfl,?_,Fr.refl _ _⟩
 unfold dcI
 rw [if_neg (by omega)]
 rfl
theorem c_Itoa {n:Int} (h:I64 n) {w:World} (hk:p10E.P w):Calls Tryz.prog n_strconv_Itoa #[.i n] w λr w'=>r=.returned (.string (ba (dcI n)))/\Fr0 w w':=by
 refine strconv_Itoa.ok _ w _ ((show Calls Tryz.prog n_internal_strconv_Itoa #[.i n] w λr w'=>r=.returned (.string (ba (dcI n)))/\Fr0 w w' from internal_strconv_Itoa.ok _ w _ ((c_FormatInt h hk).mono ?_)).mono ?_)
 .rintro _ w1 ⟨rfl,f⟩
  exact ⟨_,rfl,rfl,f⟩
 .rintro _ w1 ⟨rfl,f⟩
  exact ⟨_,rfl,rfl,f⟩
theorem ifc_t:∃ms,Tryz.prog.underlying ty_error=some (.interface ms):=by
 have h:(match Tryz.prog.underlying ty_error with |some (.interface _)=>true|_=>false)=true:=by kernel_rfl
 split at h
 .rename_i ms hu;exact ⟨ms,hu⟩
 .cases h
theorem eq_run {t:TypeId} {x y:Value} {b:Bool} {w:World} (h:∀d,Sem.run Tryz.prog (Op.equalIn (d+1) t x y) w=.ok b w):Sem.run Tryz.prog (Op.equal t x y) w=.ok b w:=h (Op.maxDepth - 1)
theorem eq_nn (w:World):Sem.run Tryz.prog (Op.equal ty_error .nilIface .nilIface) w=.ok true w:=by
 obtain ⟨ms,hu⟩:=ifc_t
 refine eq_run λd=>?_
 rw [Op.equalIn]
 simp [run_underlying hu]
theorem eq_in (t:Nat) (x:Value) (w:World):Sem.run Tryz.prog (Op.equal ty_error (.iface t x) .nilIface) w=.ok false w:=by
 obtain ⟨ms,hu⟩:=ifc_t
 refine eq_run λd=>?_
 rw [Op.equalIn]
 simp [run_underlying hu]
theorem ifc_eqn (k:Nat) (w:World):Sem.run Tryz.prog (ifcS .eql ty_error (.tmp k) (.const .nilIface) .nilIface .nilIface) w=.ok (.bool true) w:=by
 simp [ifcS,eqGuard,binOp,eq_nn]
theorem ifc_eqi (k t:Nat) (x:Value) (w:World):Sem.run Tryz.prog (ifcS .eql ty_error (.tmp k) (.const .nilIface) (.iface t x) .nilIface) w=.ok (.bool false) w:=by
 simp [ifcS,eqGuard,binOp,eq_in]
theorem ifc_nen (k:Nat) (w:World):Sem.run Tryz.prog (ifcS .neq ty_error (.tmp k) (.const .nilIface) .nilIface .nilIface) w=.ok (.bool false) w:=by
 simp [ifcS,eqGuard,binOp,eq_nn]
theorem ifc_nei (k t:Nat) (x:Value) (w:World):Sem.run Tryz.prog (ifcS .neq ty_error (.tmp k) (.const .nilIface) (.iface t x) .nilIface) w=.ok (.bool true) w:=by
 simp [ifcS,eqGuard,binOp,eq_in]
abbrev errV (k:Int):Value:=.iface ty_strconv_Error (.i k)
theorem err_t:(∃i,Tryz.prog.info? ty_strconv_Error=some i/\i.comparable=true)/\∃kd,Tryz.prog.underlying ty_strconv_Error=some (.int kd):=by
 constructor
 .have h:(match Tryz.prog.info? ty_strconv_Error with |some i=>i.comparable|none=>false)=true:=by kernel_rfl
  split at h
  .rename_i i hi;exact ⟨i,hi,h⟩
  .cases h
 .have h:(match Tryz.prog.underlying ty_strconv_Error with |some (.int _)=>true|_=>false)=true:=by kernel_rfl
  split at h
  .rename_i kd hu;exact ⟨kd,hu⟩
  .cases h
theorem eq_ee (a b:Int) (w:World):Sem.run Tryz.prog (Op.equal ty_error (errV a) (errV b)) w=.ok (a==b) w:=by
 obtain ⟨ms,hu⟩:=ifc_t
 obtain ⟨⟨inf,hi,hc⟩,kd,hk⟩:=err_t
 have inner:∀d,Sem.run Tryz.prog (Op.equalIn (d+1) ty_strconv_Error (.i a) (.i b)) w=.ok (a==b) w:=λd=>by
  rw [Op.equalIn]
  simp [run_underlying hk]
 have outer:∀d,Sem.run Tryz.prog (Op.equalIn (d+1+1) ty_error (errV a) (errV b)) w=.ok (a==b) w:=λd=>by
  rw [Op.equalIn]
  simp [run_underlying hu,typeInfo,hi,hc,inner]
 exact outer (Op.maxDepth - 2)
theorem ifc_two (i j:Nat) (a b:Int) (w:World):Sem.run Tryz.prog (ifcS .eql ty_error (.tmp i) (.tmp j) (errV a) (errV b)) w=.ok (.bool (a==b)) w:=by
 simp [ifcS,eqGuard,binOp,eq_ee]
theorem ifc_twn (i j:Nat) (a b:Int) (w:World):Sem.run Tryz.prog (ifcS .neq ty_error (.tmp i) (.tmp j) (errV a) (errV b)) w=.ok (.bool (!(a==b))) w:=by
 simp [ifcS,eqGuard,binOp,eq_ee]
theorem fr_freeze {M:Nat->Prop} (w:World) (p:Addr) (n:Nat) (h:M p.block):Fr M w (w.freeze p n):=by
 unfold World.freeze
 split
 .exact Fr.refl _ _
 .refine ⟨rfl,rfl,rfl,by simp,λk hk hm=>?_⟩
  simp only [Array.getElem?_modify]
  rw [if_neg]
  rintro rfl
  exact hm h
theorem ba_nil {s:ByteArray} (h:s.size=0):s=ByteArray.mk #[]:=ByteArray.ext (Array.eq_empty_of_size_eq_zero h)
theorem s_CloneL (s:ByteArray) (hs:s.size<=1000000000) (w:World):Calls Tryz.prog n_internal_stringslite_Clone #[.string s] w λr w'=>r=.returned (.string s)/\Fr0 w w':=by
 have hz:(bl s).length=s.size:=rfl
 refine internal_stringslite_Clone.ok _ w _ (sel_eq (λh=>?_) (λh=>?_))
 .rw [ba_nil (s:=s) (by omega)]
  exact ⟨rfl,Fr.refl _ _⟩
 .obtain ⟨w1,e1,o1,f1⟩:=make_full el_bytes w s.size (by omega)
  have hn:s.size≠0:=by omega
  rcases o1.cases with ⟨h0,_⟩|⟨g,cur,ha,hg,h1,h2,h3,h4⟩
  .cases h0
  .have hgw:w.heap.size=g:=by injection ha with ha;injection ha
   subst hgw
   have hcur:cur.size=s.size:=by simpa using h3
   have hcp:=Lib.run_copy_row_string (P:=Tryz.prog) w1 ty_sl_uint8 ty_string ty_int ty_uint8 w.heap.size 0 s.size s.size s cur ty_uint8 el_bytes.ht (by kernel_rfl) hg (Nat.le_refl _) (by omega)
   have hY:(cur.toList.take 0++Lib.byteCells s.data.toList++cur.toList.drop (0+s.size)).toArray=((bl s).map byteV).toArray:=by
    rw [List.take_zero,qnA0,List.drop_of_length_le (by rw [Array.length_toList];omega),qaN]
    rfl
   rw [hY] at hcp
   have hg2:(w1.setRow w.heap.size ((bl s).map byteV).toArray).heap[w.heap.size]? =some (.cells ((bl s).map byteV).toArray ty_uint8 (0,0)):=setRow_heap _ _ cur _ ty_uint8 (0,0) hg
   have hne:bl s≠[]:=λe=>hn (by rw [<-hz,e];rfl)
   have hUS:=Lib.run_unsafeString_row (P:=Tryz.prog) (w1.setRow w.heap.size ((bl s).map byteV).toArray) ty_p_uint8 ty_int ty_string ty_uint8 (by kernel_rfl) (by kernel_rfl) w.heap.size (bl s).length (by unfold World.shape?;rw [hg2];simp) (bl s) hne (Nat.le_refl _) (by omega) (λj x hx=>cellAt (p:=at0 w.heap.size) hg2 rfl (by show _=some (byteV x);simp [hx]))
   refine ⟨⟨some ⟨w.heap.size,0,none⟩,s.size,s.size⟩,w1,e1,(s.size:Int),_,hcp,by omega,?_,optP_mk ⟨s,_,hUS,?_⟩⟩
   .show (0:Int)<((s.size:Nat):Int)
    omega
   .have f2:Fr (·=w.heap.size) w1 (w1.setRow w.heap.size ((bl s).map byteV).toArray):=⟨rfl,rfl,rfl,by simp,λk _ hk=>setRow_other _ _ _ _ (λe=>hk e)⟩
    exact ⟨rfl,f1.trn (f2.trans (fr_freeze (M:=(·=w.heap.size)) _ _ _ rfl) λ_ _ h=>h) λx e=>by omega⟩
abbrev synE (t:Nat) (x:Value):En:=.rd ⟨some (at0 3),1,1⟩ [.iface t x]
abbrev rngE (t:Nat) (x:Value):En:=.rd ⟨some (at0 4),1,1⟩ [.iface t x]
theorem rd_one {w:World} {b:Nat} {v:Value} (h:(En.rd ⟨some (at0 b),1,1⟩ [v]).P w):w.cell? (Addr.mk b 0 none)=some v:=by
 obtain ⟨p,hp,hc⟩:=(show Rd w _ _ from h).2.2.2 0 v rfl
 cases hp
 simpa [Addr.add] using hc
def Errs (w:World):Prop:=p10E.P w/\(∃t x,(synE t x).P w)/\∃t x,(rngE t x).P w
def errsE:En:=⟨[5,3,4],Errs,λw w' h hp=>(by
  obtain ⟨h1,⟨t,x,h2⟩,u,y,h3⟩:=hp
  exact ⟨En.st _ w w' (λb hb hl=>h b (by simp [En.rd,blkL,p10L] at hb;simp [hb]) hl) h1,⟨t,x,En.st _ w w' (λb hb hl=>h b (by simp [En.rd,blkL] at hb;simp [hb]) hl) h2⟩,u,y,En.st _ w w' (λb hb hl=>h b (by simp [En.rd,blkL] at hb;simp [hb]) hl) h3⟩),λw hp b hb=>(by
  obtain ⟨h1,⟨t,x,h2⟩,u,y,h3⟩:=hp
  simp only [qmC,List.not_mem_nil,or_false] at hb
  rcases hb with rfl|rfl|rfl
  .exact En.lt _ w h1 _ (by simp [En.rd,blkL,p10L])
  .exact En.lt _ w h2 _ (by simp [En.rd,blkL])
  .exact En.lt _ w h3 _ (by simp [En.rd,blkL])),by decide⟩
theorem Errs.fr0 {w w':World} (h:Errs w) (f:Fr0 w w'):Errs w':=errsE.st w w' (λb _ hl=>f.keep b hl id) h
theorem s_toError {s:ByteArray} (hs:s.size<=1000000000) {fn:ByteArray} {k:Int} (hk:k=1\/k=2) {w:World} (he:Errs w):Calls Tryz.prog n_strconv_toError #[.string fn,.string s,.i 0,.i 0,errV k] w λr w'=>(∃t x,r=.returned (.iface t x))/\Fr0 w w':=by
 obtain ⟨h1,⟨t,x,h2⟩,u,y,h3⟩:=he
 have H:LH F0 w w [] [synE t x,rngE u y]:=lh0 _ (by
  intro e he
  rcases qmC.1 he with rfl|he
  .exact h2
  .rw [qmS.1 he];exact h3)
 have syn:Calls Tryz.prog n_strconv_syntaxError #[.string fn,.string s] w λr w'=>(∃p,r=.returned (.pointer (some p)))/\Fr0 w w':=by
  refine strconv_syntaxError.ok _ _ w _ (H.dr λw1 H1=>.inl ⟨t,x,rd_one (H1.getD 0),H1.call (s_CloneL s hs w1) ?_⟩)
  rintro _ w2 rfl H2
  exact ⟨_,rfl,rd_one (H2.getD 0),H2.nwx λw3 _ H3 _=>⟨⟨_,rfl⟩,H3.fr⟩⟩
 have rng:Calls Tryz.prog n_strconv_rangeError #[.string fn,.string s] w λr w'=>(∃p,r=.returned (.pointer (some p)))/\Fr0 w w':=by
  refine strconv_rangeError.ok _ _ w _ (H.dr λw1 H1=>.inl ⟨u,y,rd_one (H1.getD 1),H1.call (s_CloneL s hs w1) ?_⟩)
  rintro _ w2 rfl H2
  exact ⟨_,rfl,rd_one (H2.getD 1),H2.nwx λw3 _ H3 _=>⟨⟨_,rfl⟩,H3.fr⟩⟩
 refine strconv_toError.ok _ _ _ _ _ w _ ⟨k==2,ifc_two 11 13 k 2 w,?_⟩
 rcases hk with rfl|rfl
 .refine sel_false rfl ⟨true,ifc_two 11 20 1 1 w,sel_true rfl (rng.mono ?_)⟩
  rintro _ w1 ⟨⟨p,rfl⟩,f⟩
  exact ⟨_,rfl,⟨_,_,rfl⟩,f⟩
 .refine sel_true rfl (syn.mono ?_)
  rintro _ w1 ⟨⟨p,rfl⟩,f⟩
  exact ⟨_,rfl,⟨_,_,rfl⟩,f⟩
theorem bl_ix {s:ByteArray} {l:List UInt8} (h:bl s=l) (i:Nat):s[i]? =l[i]?:=by
 subst h
 unfold bl
 rw [Array.getElem?_toList]
 rfl
theorem isD_le {c:UInt8} (h:isD c=true):48<=c.toNat/\c.toNat<=57:=by
 unfold isD at h
 simpa [Bool.and_eq_true,decide_eq_true_eq] using h
theorem isD_no {c:UInt8} (h:isD c=false):c.toNat<48\/57<c.toNat:=by
 unfold isD at h
 simp only [Bool.and_eq_false_iff,decide_eq_false_iff_not] at h
 omega
theorem valF_ge (l:List UInt8):∀a,a<=valF a l:=by
 induction l with
 |nil=>intro a;exact Nat.le_refl _
 |cons c l ih=>
  intro a
  have:=ih (10 *a+(c.toNat - 48))
  show a<=valF (10 *a+(c.toNat - 48)) l
  omega
theorem valF_split (a:Nat) (l r:List UInt8):valF a (l++r)=valF (valF a l) r:=List.foldl_append ..
theorem take_snoc {l:List UInt8} {i:Nat} {c:UInt8} (h:l[i]? =some c):l.take (i+1)=l.take i++[c]:=by
 rw [qtO,h];rfl
theorem all_take {l:List UInt8} {i:Nat} {c:UInt8} (h:l[i]? =some c) (ha:∀d∈l.take i,isD d=true) (hc:isD c=true):∀d∈l.take (i+1),isD d=true:=by
 rw [take_snoc h]
 intro d hd
 rcases qmA.1 hd with hd|hd
 .exact ha d hd
 .rw [qmS.1 hd];exact hc
theorem dcI_neg {m:Int} (h:m<0):dcI m=45::dcU m.natAbs:=by unfold dcI;rw [if_pos h]
theorem dcI_pos {m:Int} (h:¬m<0):dcI m=dcU m.natAbs:=by unfold dcI;rw [if_neg h]
def ErrI (v:Value):Prop:=v=.nilIface\/∃k,(k=1\/k=2)/\v=errV k
abbrev tup2 (a b:Value):Ending:=.returned (.tuple #[a,b])
def PuP (ds:List UInt8) (r:Ending):Prop:=∃(n:Nat) (v:Value),r=tup2 (.u (n:Int)) v/\n<18446744073709551616/\ErrI v/\(ds≠[]->(∀c∈ds,isD c=true)->valF 0 ds<18446744073709551616->n=valF 0 ds/\v=.nilIface)
theorem c_lower (c:UInt8) (w:World):Calls Tryz.prog n_internal_strconv_lower #[.int .u8 (c.toNat:Int)] w λr w'=>r=.returned (.int .u8 ((c.toNat|||32:Nat):Int))/\w'=w:=by
 have h2:∀x:Fin 256,bOr .u8 (x.val:Int) 32=((x.val|||32:Nat):Int):=by decide+kernel
 refine internal_strconv_lower.ok _ w _ ⟨?_,rfl⟩
 rw [<-h2 ⟨c.toNat,c.toNat_lt⟩]
theorem u8_sub {c:UInt8} (h:48<=c.toNat):IntKind.wrap .u8 ((c.toNat:Int) - 48)=((c.toNat - 48:Nat):Int):=by
 have:=c.toNat_lt
 rw [IntKind.wrap_u8];omega
theorem pu_loop (s09:ByteArray) {t:Sl} {ds:List UInt8} {w0:World} (hl:ds.length<=1000000000):∀(k i:Nat) (w:World),i+k=ds.length->Bytes w t ds->Fr0 w0 w->(∀c∈ds.take i,isD c=true)->valF 0 (ds.take i)<18446744073709551616->
  internal_strconv_ParseUint.L4 10 false s09 1844674407370955162 18446744073709551615 false (valF 0 (ds.take i):Nat) t (ds.length:Int) (i:Int) w λr w'=>PuP ds r/\Fr0 w0 w':=by
 intro k
 induction k with
 |zero=>
  intro i w hi hb hf ha hv
  refine internal_strconv_ParseUint.L4_step _ _ _ _ _ _ _ _ _ _ _ _ (sel_false (decide_eq_false (by omega)) (sel_false rfl ⟨⟨_,_,rfl,hv,.inl rfl,λ_ _ _=>?_⟩,hf⟩))
  rw [qtOL (by omega)]
  exact ⟨rfl,rfl⟩
 |succ k ih=>
  intro i w hi hb hf ha hv
  have hn:=Bytes.len hb
  have hlt:i<ds.length:=by omega
  have hg:ds[i]? =some ds[i]:=qgE hlt
  generalize ds[i]=c at hg
  have hmem:c∈ds:=qmG hg
  have bad:∀(n:Nat) (q:Int) (w1:World),n<18446744073709551616->(q=1\/q=2)->isD c=false->Fr0 w0 w1->PuP ds (tup2 (.u (n:Int)) (errV q))/\Fr0 w0 w1:=λn q w1 hn hq hc hf1=>
   ⟨⟨n,_,rfl,hn,.inr ⟨q,hq,rfl⟩,λ_ hd _=>by rw [hd c hmem] at hc;cases hc⟩,hf1⟩
  have s7:∀(d:Int) (w1:World),10<=d->isD c=false->Fr0 w0 w1->internal_strconv_ParseUint.S7 10 false s09 1844674407370955162 18446744073709551615 false (valF 0 (ds.take i):Nat) d t (ds.length:Int) (i:Int) w1 λr w'=>PuP ds r/\Fr0 w0 w':=by
   intro d w1 hd hc hf1
   refine sel_true (decide_eq_true ?_) (bad 0 2 w1 (by omega) (.inr rfl) hc hf1)
   show d>=IntKind.wrap .u8 10
   rw [IntKind.wrap_u8];omega
  have s11:isD c=false->internal_strconv_ParseUint.S11 10 false s09 1844674407370955162 18446744073709551615 false (valF 0 (ds.take i):Nat) (c.toNat:Int) t (ds.length:Int) (i:Int) w λr w'=>PuP ds r/\Fr0 w0 w':=by
   intro hc
   refine (c_lower c w).mono ?_
   rintro _ w1 ⟨rfl,e1⟩
   rw [e1]
   refine ⟨_,rfl,sel_dec (λh1=>(c_lower c w).mono ?_) (λ_=>bad 0 2 w (by omega) (.inr rfl) hc hf)⟩
   rintro _ w2 ⟨rfl,e2⟩
   rw [e2]
   refine ⟨_,rfl,sel_dec (λh2=>(c_lower c w).mono ?_) (λ_=>bad 0 2 w (by omega) (.inr rfl) hc hf)⟩
   rintro _ w3 ⟨rfl,e3⟩
   rw [e3]
   refine ⟨_,rfl,s7 _ w ?_ hc hf⟩
   rw [IntKind.wrap_u8,IntKind.wrap_u8]
   omega
  refine internal_strconv_ParseUint.L4_step _ _ _ _ _ _ _ _ _ _ _ _ (sel_true (decide_eq_true (by omega)) ⟨by omega,by omega,Bytes.cell hb hg (by rw [Int.toNat_natCast]) λp hp hc=>⟨_,hc,?_⟩⟩)
  have s6:internal_strconv_ParseUint.S6 10 false s09 1844674407370955162 18446744073709551615 false (valF 0 (ds.take i):Nat) (c.toNat:Int) t (ds.length:Int) (i:Int) w λr w'=>PuP ds r/\Fr0 w0 w':=by
   cases hd:isD c with
   |false=>
    refine sel_dec (λh1=>sel_dec (λh2=>absurd hd ?_) (λ_=>s11 hd)) (λ_=>s11 hd)
    have:=isD_no hd
    omega
   |true=>
    obtain ⟨h1,h2⟩:=isD_le hd
    refine sel_true (decide_eq_true (by omega)) (sel_true (decide_eq_true (by omega)) ?_)
    rw [u8_sub h1]
    refine sel_false (decide_eq_false ?_) ?_
    .show ¬(_>=IntKind.wrap .u8 10)
     rw [IntKind.wrap_u8];omega
    have ev:valF 0 (ds.take (i+1))=10 *valF 0 (ds.take i)+(c.toNat - 48):=by rw [take_snoc hg,valF_snoc]
    have ge:valF 0 (ds.take (i+1))<=valF 0 ds:=by
     conv=>rhs;rw [<-List.take_append_drop (i+1) ds,valF_split]
     exact valF_ge _ _
    generalize hN:valF 0 (ds.take i)=N at *
    have big:∀w1,Fr0 w0 w1->18446744073709551616<=valF 0 ds->PuP ds (tup2 (.u 18446744073709551615) (errV 1))/\Fr0 w0 w1:=λw1 hf1 hb=>⟨⟨18446744073709551615,_,rfl,by omega,.inr ⟨1,.inl rfl,rfl⟩,λ_ _ h=>by omega⟩,hf1⟩
    refine sel_dec (λh3=>big w hf (by omega)) (λh3=>?_)
    have e1:IntKind.wrap .u64 ((N:Int) *IntKind.wrap .u64 10)=((10 *N:Nat):Int):=by
     rw [IntWalk.u64_in 10 (by omega),IntWalk.u64_in _ (by omega)];omega
    have e2:IntKind.wrap .u64 ((c.toNat - 48:Nat):Int)=((c.toNat - 48:Nat):Int):=IntWalk.u64_in _ (by omega)
    show internal_strconv_ParseUint.S9 _ _ _ _ _ _ _ (IntKind.wrap .u64 (_+IntKind.wrap .u64 _)) _ _ _ _ _
    rw [e1,e2]
    by_cases h4:10 *N+(c.toNat - 48)<18446744073709551616
    .have e3:IntKind.wrap .u64 (((10 *N:Nat):Int)+((c.toNat - 48:Nat):Int))=((10 *N+(c.toNat - 48):Nat):Int):=by rw [IntWalk.u64_in _ (by omega)];omega
     rw [e3]
     refine sel_false (decide_eq_false (by omega)) (sel_false (decide_eq_false (by omega)) ?_)
     show internal_strconv_ParseUint.L4 _ _ _ _ _ _ _ _ _ (IntKind.wrap .i64 _) _ _
     rw [i64_next _ (by omega),<-ev]
     exact ih (i+1) w (by omega) hb hf (all_take hg ha hd) (by omega)
    .refine sel_true (decide_eq_true ?_) (big w hf (by omega))
     rw [IntKind.wrap_u64];omega
  refine sel_eq (λh=>sel_false rfl s6) (λh=>s6)
theorem c_ParseUint (s:ByteArray) (hs:s.size<=1000000000) (w:World):Calls Tryz.prog n_internal_strconv_ParseUint #[.string s,.i 10,.i 0] w λr w'=>PuP (bl s) r/\Fr0 w w':=by
 have hz:(bl s).length=s.size:=rfl
 refine internal_strconv_ParseUint.ok _ _ _ w _ (sel_tx (λh=>?_) (λh=>?_))
 .subst h
  exact ⟨⟨0,_,rfl,by omega,.inr ⟨2,.inr rfl,rfl⟩,λh=>absurd rfl h⟩,Fr.refl _ _⟩
 .refine sel_true rfl (sel_true rfl (sel_true rfl (sel_true rfl ⟨by decide,?_⟩)))
  obtain ⟨t,w1,e1,hb,f1,_⟩:=str_bytes w s
  refine ⟨t,w1,e1,?_⟩
  rw [Bytes.len hb]
  exact pu_loop s (by omega) (bl s).length 0 w1 (by omega) hb f1 (by simp) (by simp [valF])
def AtI (l:List UInt8) (r:Ending):Prop:=∃(n:Int) (v:Value),r=tup2 (.i n) v/\I64 n/\ErrI v/\∀m,I64 m->l=dcI m->n=m/\v=.nilIface
theorem dcI_digits {m:Int} (h:¬m<0) (c:UInt8) (l:List UInt8) (e:c::l=dcI m):isD c=true:=dcU_all m.natAbs c (by rw [dcI_pos h] at e;rw [<-e];simp)
theorem ext1 (s:ByteArray) {c:UInt8} {l:List UInt8} (h:bl s=c::l):s.extract (Int.toNat 1) s.size=ba l:=by
 rw [bl_ext,show s.size=(bl s).length from rfl,qtL,h];rfl
theorem c_ParseInt (s:ByteArray) (hs:s.size<=1000000000) (w:World):Calls Tryz.prog n_internal_strconv_ParseInt #[.string s,.i 10,.i 0] w λr w'=>AtI (bl s) r/\Fr0 w w':=by
 have hz:(bl s).length=s.size:=rfl
 refine internal_strconv_ParseInt.ok _ _ _ w _ (sel_tx (λh=>?_) (λh=>?_))
 .subst h
  exact ⟨⟨0,_,rfl,⟨by omega,by omega⟩,.inr ⟨2,.inr rfl,rfl⟩,λm _ e=>absurd e.symm (dcI_ne m)⟩,Fr.refl _ _⟩
 have hne:bl s≠[]:=λe=>h (ba_nil (by rw [<-hz,e];rfl))
 obtain ⟨c,l,hl⟩:∃c l,bl s=c::l:=by
  cases hb:bl s with
  |nil=>exact absurd hb hne
  |cons c l=>exact ⟨c,l,rfl⟩
 have h0:s[Int.toNat 0]? =some c:=bl_ix hl 0
 have S1:∀(neg:Bool) (t:ByteArray),t.size<=1000000000->(∀m,I64 m->bl s=dcI m->neg=decide (m<0)/\bl t=dcU m.natAbs)->internal_strconv_ParseInt.S1 t 10 0 neg w λr w'=>AtI (bl s) r/\Fr0 w w':=by
  intro neg t ht hm
  refine (c_ParseUint t ht w).mono ?_
  rintro _ w1 ⟨⟨n,v,rfl,hn,hv,hp⟩,f⟩
  have good:∀m,I64 m->bl s=dcI m->n=m.natAbs/\v=.nilIface:=λm hi e=>by
   have h1:=(hm m hi e).2
   have h2:=hp (by rw [h1];exact dcU_ne _) (by rw [h1];exact dcU_all _) (by rw [h1,val_dcU];have:=hi.1;have:=hi.2;omega)
   rw [h1,val_dcU] at h2
   exact h2
  have S2:(v=.nilIface\/v=errV 1)->internal_strconv_ParseInt.S2 0 neg (n:Int) w1 λr w'=>AtI (bl s) r/\Fr0 w w':=by
   intro hv
   refine sel_true rfl ⟨by decide,?_⟩
   have e63:IntKind.wrap .u64 (1 *2^(min (Int.toNat (IntKind.wrap .u64 (IntKind.wrap .i64 (64 - 1)))) (IntKind.bits .u64)))=9223372036854775808:=by decide
   rw [e63]
   refine sel_not (λhneg=>?_) (λhneg=>?_)
   .subst hneg
    refine sel_dec (λh1=>⟨⟨_,_,rfl,by decide,.inr ⟨1,.inl rfl,rfl⟩,λm hi e=>?_⟩,f⟩) (λh1=>sel_false rfl (sel_false rfl ⟨⟨_,_,rfl,?_,.inl rfl,λm hi e=>?_⟩,f⟩))
    .have h2:=(hm m hi e).1
     have h3:=good m hi e
     have:¬m<0:=of_decide_eq_false h2.symm
     have:=hi.2
     omega
    .rw [IntWalk.i64_in _ (by omega)]
     exact ⟨by omega,by omega⟩
    .have h2:=(hm m hi e).1
     have h3:=good m hi e
     have:¬m<0:=of_decide_eq_false h2.symm
     rw [IntWalk.i64_in _ (by omega)]
     exact ⟨by omega,rfl⟩
   .subst hneg
    refine sel_true rfl (sel_dec (λh1=>⟨⟨_,_,rfl,by decide,.inr ⟨1,.inl rfl,rfl⟩,λm hi e=>?_⟩,f⟩) (λh1=>sel_true rfl ⟨⟨_,_,rfl,?_,.inl rfl,λm hi e=>?_⟩,f⟩))
    .have h3:=good m hi e
     have:=hi.1
     omega
    .rw [IntKind.wrap_i64,IntKind.wrap_i64]
     exact ⟨by omega,by omega⟩
    .have h2:=of_decide_eq_true (hm m hi e).1.symm
     have h3:=good m hi e
     rw [IntKind.wrap_i64,IntKind.wrap_i64]
     exact ⟨by omega,rfl⟩
  rcases hv with rfl|⟨k,hk,rfl⟩
  .exact ⟨_,_,rfl,false,ifc_nen _ _,sel_false rfl (S2 (.inl rfl))⟩
  .refine ⟨_,_,rfl,true,ifc_nei _ _ _ _,sel_true rfl ⟨_,ifc_twn _ _ _ _ _,?_⟩⟩
   rcases hk with rfl|rfl
   .exact sel_false rfl (S2 (.inr rfl))
   .exact sel_true rfl ⟨⟨0,_,rfl,by decide,.inr ⟨2,.inr rfl,rfl⟩,λm hi e=>by cases (good m hi e).2⟩,f⟩
 have hsz:(1:Int)<=((s.size:Nat):Int):=by rw [<-hz,hl,qlC];omega
 have ht:(ba l).size<=1000000000:=by rw [ba_size];have:=congrArg List.length hl;rw [hz] at this;simp at this;omega
 refine ⟨by omega,c,h0,sel_eq (λh1=>⟨by omega,hsz,?_⟩) (λh1=>sel_eq (λh2=>⟨by omega,hsz,?_⟩) (λh2=>?_))⟩
 .rw [ext1 s hl]
  refine S1 false (ba l) ht λm hi e=>?_
  exfalso
  rw [hl] at e
  by_cases hm:m<0
  .rw [dcI_neg hm] at e
   injection e with e _
   subst e
   exact absurd h1 (by decide)
  .have:=isD_le (dcI_digits hm c l e)
   omega
 .rw [ext1 s hl]
  refine S1 true (ba l) ht λm hi e=>?_
  rw [hl] at e
  by_cases hm:m<0
  .rw [dcI_neg hm] at e
   injection e with _ e
   exact ⟨(decide_eq_true hm).symm,e⟩
  .have:=isD_le (dcI_digits hm c l e)
   omega
 .refine S1 false s hs λm hi e=>?_
  rw [hl] at e
  by_cases hm:m<0
  .rw [dcI_neg hm] at e
   injection e with e _
   subst e
   exact absurd rfl h2
  .exact ⟨(decide_eq_false hm).symm,by rw [hl,e,dcI_pos hm]⟩
theorem at_loop (s05:ByteArray) {l:List UInt8} (h5:bl s05=l) (hne:l≠[]) {t:Sl} {ds:List UInt8} (hl:ds.length<=18) (hd:∀m,I64 m->l=dcI m->ds=dcU m.natAbs) {w0:World}:∀(k i:Nat) (w:World),i+k=ds.length->Bytes w t ds->Fr0 w0 w->(∀c∈ds.take i,isD c=true)->
  internal_strconv_Atoi.L3 s05 (valF 0 (ds.take i):Nat) t (ds.length:Int) (i:Int) w λr w'=>AtI l r/\Fr0 w0 w':=by
 obtain ⟨c0,l0,rfl⟩:∃c0 l0,l=c0::l0:=by
  cases l with
  |nil=>exact absurd rfl hne
  |cons c0 l0=>exact ⟨c0,l0,rfl⟩
 have lt:∀i,(∀c∈ds.take i,isD c=true)->valF 0 (ds.take i)<1000000000000000000:=λi ha=>by
  have h1:=valF_lt _ ha
  have h2:(ds.take i).length<=18:=by rw [List.length_take];omega
  have h3:10^(ds.take i).length<=10^18:=Nat.pow_le_pow_right (by omega) h2
  omega
 intro k
 induction k with
 |zero=>
  intro i w hi hb hf ha
  have ht:ds.take i=ds:=qtOL (by omega)
  have hv:=lt i ha
  rw [ht] at hv ⊢
  refine internal_strconv_Atoi.L3_step _ _ _ _ _ _ _ (sel_false (decide_eq_false (by omega)) ⟨by omega,c0,bl_ix h5 0,sel_eq (λh=>⟨⟨_,_,rfl,?_,.inl rfl,λm hi e=>⟨?_,rfl⟩⟩,hf⟩) (λh=>⟨⟨_,_,rfl,⟨by omega,by omega⟩,.inl rfl,λm hi e=>⟨?_,rfl⟩⟩,hf⟩)⟩)
  .rw [IntWalk.i64_in _ (by omega)];exact ⟨by omega,by omega⟩
  .have h1:=hd m hi e
   rw [h1,val_dcU] at hv ⊢
   have:m<0:=by
    by_cases hm:m<0
    .exact hm
    .have:=isD_le (dcI_digits hm c0 l0 e)
     omega
   rw [IntWalk.i64_in _ (by omega)];omega
  .have h1:=hd m hi e
   rw [h1,val_dcU] at hv ⊢
   have:¬m<0:=λhm=>by
    rw [dcI_neg hm] at e
    injection e with e _
    subst e
    exact h rfl
   omega
 |succ k ih=>
  intro i w hi hb hf ha
  have hn:=Bytes.len hb
  have hlt:i<ds.length:=by omega
  have hg:ds[i]? =some ds[i]:=qgE hlt
  generalize ds[i]=c at hg
  have hmem:c∈ds:=qmG hg
  have hc8:=c.toNat_lt
  have hv:=lt i ha
  refine internal_strconv_Atoi.L3_step _ _ _ _ _ _ _ (sel_true (decide_eq_true (by omega)) ⟨by omega,by omega,Bytes.cell hb hg (by rw [Int.toNat_natCast]) λp hp hc=>⟨_,hc,?_⟩⟩)
  cases hdc:isD c with
  |false=>
   refine sel_true (decide_eq_true ?_) ⟨⟨0,_,rfl,by decide,.inr ⟨2,.inr rfl,rfl⟩,λm hi e=>?_⟩,hf⟩
   .have:=isD_no hdc
    rw [IntKind.wrap_u8];omega
   .have h1:=hd m hi e
    rw [h1] at hmem
    rw [dcU_all _ c hmem] at hdc
    cases hdc
  |true=>
   obtain ⟨h1,h2⟩:=isD_le hdc
   rw [u8_sub h1]
   refine sel_false (decide_eq_false (by omega)) ?_
   have ev:valF 0 (ds.take (i+1))=10 *valF 0 (ds.take i)+(c.toNat - 48):=by rw [take_snoc hg,valF_snoc]
   have hv1:=lt (i+1) (all_take hg ha hdc)
   rw [ev] at hv1
   have e1:IntKind.wrap .i64 (IntKind.wrap .i64 ((valF 0 (ds.take i):Nat) *10)+IntKind.wrap .i64 ((c.toNat - 48:Nat):Int))=((valF 0 (ds.take (i+1)):Nat):Int):=by
    rw [IntWalk.i64_in (_ *10) (by omega),IntWalk.i64_in ((c.toNat - 48:Nat):Int) (by omega),IntWalk.i64_in _ (by omega)];omega
   show internal_strconv_Atoi.L3 _ (IntKind.wrap .i64 _) _ _ (IntKind.wrap .i64 _) _ _
   rw [e1,i64_next _ (by omega)]
   exact ih (i+1) w (by omega) hb hf (all_take hg ha hdc)
theorem c_AtoiI (s:ByteArray) (hs:s.size<=1000000000) (w:World):Calls Tryz.prog n_internal_strconv_Atoi #[.string s] w λr w'=>AtI (bl s) r/\Fr0 w w':=by
 have hz:(bl s).length=s.size:=rfl
 have slow:internal_strconv_Atoi.S7 s w λr w'=>AtI (bl s) r/\Fr0 w w':=by
  refine (c_ParseInt s hs w).mono ?_
  rintro _ w1 ⟨⟨n,v,rfl,h⟩,f⟩
  exact ⟨_,_,rfl,⟨n,v,rfl,h⟩,f⟩
 refine internal_strconv_Atoi.ok _ w _ (sel_dec (λh=>sel_dec (λh19=>?_) (λ_=>slow)) (λ_=>slow))
 obtain ⟨c,l,hl⟩:∃c l,bl s=c::l:=by
  cases hb:bl s with
  |nil=>rw [<-hz,hb] at h;simp at h
  |cons c l=>exact ⟨c,l,rfl⟩
 have hll:l.length+1=s.size:=by rw [<-hz,hl];rfl
 have h0:s[Int.toNat 0]? =some c:=bl_ix hl 0
 have S2:∀t:ByteArray,t.size<=18->(∀m,I64 m->bl s=dcI m->bl t=dcU m.natAbs)->internal_strconv_Atoi.S2 t s w λr w'=>AtI (bl s) r/\Fr0 w w':=by
  intro t ht hm
  obtain ⟨a,w1,e1,hb,f1,_⟩:=str_bytes w t
  refine ⟨a,w1,e1,?_⟩
  rw [Bytes.len hb]
  exact at_loop s rfl (by rw [hl];simp) (by rw [bl_len];omega) hm (bl t).length 0 w1 (by omega) hb f1 (by simp)
 have S0:(∀m,I64 m->bl s=dcI m->l=dcU m.natAbs)->internal_strconv_Atoi.S0 s s w λr w'=>AtI (bl s) r/\Fr0 w w':=by
  intro hm
  refine ⟨by omega,by omega,?_⟩
  rw [ext1 s hl]
  refine sel_dec (λh1=>⟨⟨0,_,rfl,by decide,.inr ⟨2,.inr rfl,rfl⟩,λm hi e=>?_⟩,Fr.refl _ _⟩) (λh1=>S2 (ba l) (by rw [ba_size];omega) hm)
  have:=hm m hi e
  rw [ba_size,this] at h1
  exact absurd (qeN (by omega)) (dcU_ne m.natAbs)
 refine ⟨by omega,c,h0,sel_eq (λh1=>S0 λm hi e=>?_) (λh1=>⟨by omega,c,h0,sel_eq (λh2=>S0 λm hi e=>?_) (λh2=>S2 s (by omega) λm hi e=>?_)⟩)⟩
 .rw [hl] at e
  by_cases hm:m<0
  .rw [dcI_neg hm] at e
   injection e
  .have:=isD_le (dcI_digits hm c l e)
   omega
 .exfalso
  rw [hl] at e
  by_cases hm:m<0
  .rw [dcI_neg hm] at e
   injection e with e _
   subst e
   exact h1 rfl
  .have:=isD_le (dcI_digits hm c l e)
   omega
 .rw [hl] at e
  by_cases hm:m<0
  .rw [dcI_neg hm] at e
   injection e with e _
   subst e
   exact absurd rfl h1
  .rw [hl,e,dcI_pos hm]
def AtoP (l:List UInt8) (r:Ending):Prop:=∃(n:Int) (v:Value),r=tup2 (.i n) v/\I64 n/\(v=.nilIface\/∃t x,v=.iface t x)/\∀m,I64 m->l=dcI m->n=m/\v=.nilIface
theorem c_Atoi {s:ByteArray} (hs:s.size<=1000000000) {w:World} (he:Errs w):Calls Tryz.prog n_strconv_Atoi #[.string s] w λr w'=>AtoP (bl s) r/\Fr0 w w':=by
 refine strconv_Atoi.ok _ w _ ((c_AtoiI s hs w).mono ?_)
 rintro _ w1 ⟨⟨n,v,rfl,hn,hv,hp⟩,f⟩
 refine ⟨_,_,rfl,?_⟩
 rcases hv with rfl|⟨k,hk,rfl⟩
 .exact ⟨false,ifc_nen _ _,sel_false rfl ⟨⟨n,_,rfl,hn,.inl rfl,hp⟩,f⟩⟩
 .refine ⟨true,ifc_nei _ _ _ _,sel_true rfl ((s_toError hs hk (he.fr0 f)).mono ?_)⟩
  rintro _ w2 ⟨⟨t,x,rfl⟩,f2⟩
  exact ⟨_,rfl,⟨n,_,rfl,hn,.inr ⟨t,x,rfl⟩,λm hi e=>by cases (hp m hi e).2⟩,f.tr0 f2⟩
abbrev ctE (b:Nat) (l:List UInt8) (ok:Bool):En:=.c b [.string (ba l),.bool ok] ty_proof_cutter
inductive WordP (l:List UInt8) (ok:Bool):List UInt8->List UInt8->Bool->Prop
 |no:32∉l->WordP l ok l [] false
 |yes (a r:List UInt8):l=a++32::r->32∉a->WordP l ok a r ok
inductive SpaceP (l:List UInt8) (ok:Bool):List UInt8->Bool->Prop
 |no:(∀r,l≠32::r)->SpaceP l ok l false
 |yes (r:List UInt8):l=32::r->SpaceP l ok r ok
def NumP (t:List UInt8) (ok:Bool) (n:Int) (ok':Bool):Prop:=I64 n/\(ok'=true->ok=true/\t=dcI n)/\(∀m,I64 m->t=dcI m->n=m/\ok'=ok)
def ListP (l:List UInt8) (ok:Bool) (xs:List Int) (l':List UInt8) (ok':Bool):Prop:=
 (∀x∈xs,I64 x)/\l'.length<=l.length/\(ok'=true->ok=true/\l=listB xs++l')/\(∀(ys:List Int) (r:List UInt8),(∀y∈ys,I64 y)->l=listB ys++r->ok=true->xs=ys/\l'=r/\ok'=true)
section
variable {M:Nat->Prop} {w0 w:World} {L D:List En}
theorem _root_.Go.W.LH.ctC (H:LH M w0 w L D) (i:Nat) {b:Nat} {l:List UInt8} {ok:Bool} (hi:L[i]? =some (ctE b l ok)) {P:Program} {g:FuncId} {args:Array Value} {A:Ending->List UInt8->Bool->World->Prop} {K:Post}
  (hc:LH (·=b) w w [ctE b l ok] D->Calls P g args w λr w'=>∃l' ok',A r l' ok' w'/\LH (·=b) w w' [ctE b l' ok'] D)
  (hk:∀r w' l' ok',A r l' ok' w'->Fr (·=b) w w'->LH M w0 w' (L.set i (ctE b l' ok')) D->K r w'):Calls P g args w K:=by
 have hb:(ctE b l ok).P w:=H.get i hi
 have H1:LH (·=b) w w [ctE b l ok] D:=LH.start' _ _ (by
  intro e he
  rw [qmS.1 he]
  exact ⟨hb,λx hx=>by simpa [En.c,En.ob] using hx⟩) (by simp [En.c,En.ob]) (λe he=>⟨H.rd e he,λx hx e' he'=>by rw [qmS.1 he'];exact H.dj e he x hx _ (qmG hi)⟩)
 refine (hc H1).mono ?_
 rintro r w' ⟨l',ok',ha,H2⟩
 exact hk r w' l' ok' ha H2.fr (H.upd i (ctE b l' ok') hi (H2.fr.mono λx _ hx=>by simp [En.c,En.ob,hx]) (H2.get 0) λb hb=>.inl hb)
end
section
variable {w:World} {D:List En} {b:Nat} {l:List UInt8} {ok:Bool}
theorem k_word (hl:l.length<=1000000000) (H:LH (·=b) w w [ctE b l ok] D):Calls Tryz.prog n_proof_cutter_word #[.pointer (some (at0 b))] w λr w'=>∃l' ok',(∃a,r=.returned (.string (ba a))/\WordP l ok a l' ok')/\LH (·=b) w w' [ctE b l' ok'] D:=by
 have hz:=ba_size l
 refine proof_cutter_word.ok _ w _ ⟨ba l,H.ld 0 0,H.call (s_Cut (ba l) 32 (by omega) w) ?_⟩
 rintro _ w1 hc H1
 rw [bl_ba] at hc
 cases hc with
 |no h=>
  refine ⟨_,_,_,rfl,H1.st 0 0 rfl λw2 H2=>⟨ok,H2.ld 0 1,?_⟩⟩
  cases ok with
  |true=>exact sel_true rfl (H2.st 0 1 rfl λw3 H3=>⟨[],false,⟨l,rfl,.no h⟩,H3⟩)
  |false=>exact sel_false rfl (H2.st 0 1 rfl λw3 H3=>⟨[],false,⟨l,rfl,.no h⟩,H3⟩)
 |yes a r e h=>
  refine ⟨_,_,_,rfl,H1.st 0 0 rfl λw2 H2=>⟨ok,H2.ld 0 1,?_⟩⟩
  cases ok with
  |true=>exact sel_true rfl (H2.st 0 1 rfl λw3 H3=>⟨r,true,⟨a,rfl,.yes a r e h⟩,H3⟩)
  |false=>exact sel_false rfl (H2.st 0 1 rfl λw3 H3=>⟨r,false,⟨a,rfl,.yes a r e h⟩,H3⟩)
theorem k_space (H:LH (·=b) w w [ctE b l ok] D):Calls Tryz.prog n_proof_cutter_space #[.pointer (some (at0 b))] w λr w'=>∃l' ok',(r=.returned (.tuple #[])/\SpaceP l ok l' ok')/\LH (·=b) w w' [ctE b l' ok'] D:=by
 refine proof_cutter_space.ok _ w _ ⟨ba l,H.ld 0 0,H.call (s_CutPrefix (ba l) 32 w) ?_⟩
 rintro _ w1 hc H1
 rw [bl_ba] at hc
 cases hc with
 |no h=>
  refine ⟨_,_,rfl,H1.st 0 0 rfl λw2 H2=>⟨ok,H2.ld 0 1,?_⟩⟩
  cases ok with
  |true=>exact sel_true rfl (H2.st 0 1 rfl λw3 H3=>⟨l,false,⟨rfl,.no h⟩,H3⟩)
  |false=>exact sel_false rfl (H2.st 0 1 rfl λw3 H3=>⟨l,false,⟨rfl,.no h⟩,H3⟩)
 |yes r e=>
  refine ⟨_,_,rfl,H1.st 0 0 rfl λw2 H2=>⟨ok,H2.ld 0 1,?_⟩⟩
  cases ok with
  |true=>exact sel_true rfl (H2.st 0 1 rfl λw3 H3=>⟨r,true,⟨rfl,.yes r e⟩,H3⟩)
  |false=>exact sel_false rfl (H2.st 0 1 rfl λw3 H3=>⟨r,false,⟨rfl,.yes r e⟩,H3⟩)
end
theorem ba_ne {a b:List UInt8} (h:ba a≠ba b):a≠b:=λe=>h (by rw [e])
theorem ba_inj' {a b:List UInt8} (h:ba a=ba b):a=b:=congrArg bl h
section
variable {w:World} {D:List En} {b:Nat} {l:List UInt8} {ok:Bool}
theorem k_number (t:List UInt8) (ht:t.length<=1000000000) (hD:errsE∈D) (H:LH (·=b) w w [ctE b l ok] D):Calls Tryz.prog n_proof_cutter_number #[.pointer (some (at0 b)),.string (ba t)] w λr w'=>∃l' ok',(∃n,r=.returned (.i n)/\NumP t ok n ok'/\l'=l)/\LH (·=b) w w' [ctE b l' ok'] D:=by
 refine proof_cutter_number.ok _ _ w _ (H.call (c_Atoi (s:=ba t) (by rw [ba_size];omega) (H.rd _ hD)) ?_)
 rintro _ w1 ⟨n,v,rfl,hn,hv,hp⟩ H1
 have he1:Errs w1:=H1.rd _ hD
 refine ⟨_,_,rfl,ok,H1.ld 0 1,?_⟩
 cases ok with
 |false=>exact sel_false rfl (H1.st 0 1 rfl λw2 H2=>⟨l,false,⟨n,rfl,⟨hn,λh=>(by cases h),λm hi e=>⟨(hp m hi e).1,rfl⟩⟩,rfl⟩,H2⟩)
 |true=>
  refine sel_true rfl ?_
  rcases hv with rfl|⟨q,x,rfl⟩
  .refine ⟨true,ifc_eqn _ _,sel_true rfl (H1.call (c_Itoa hn he1.1) ?_)⟩
   rintro _ w2 rfl H2
   refine ⟨_,rfl,H2.st 0 1 rfl λw3 H3=>⟨l,_,⟨n,rfl,⟨hn,λh=>⟨rfl,?_⟩,λm hi e=>?_⟩,rfl⟩,H3⟩⟩
   .rw [tx_eq] at h
    exact (ba_inj' (of_decide_eq_true h)).symm
   .have:=(hp m hi e).1
    subst this
    exact ⟨rfl,by rw [tx_eq,e];exact decide_eq_true rfl⟩
  .refine ⟨false,ifc_eqi _ _ _ _,sel_false rfl (H1.st 0 1 rfl λw3 H3=>⟨l,false,⟨n,rfl,⟨hn,λh=>(by cases h),λm hi e=>by cases (hp m hi e).2⟩,rfl⟩,H3⟩)⟩
def RetN (w0:World) (xs:List Int) (r:Ending) (w':World):Prop:=∃s:Sl,r=.returned s.v/\Nums w' s xs/\∀x∈blkL s,w0.heap.size<=x
theorem RetN.nil (w0 w':World):RetN w0 [] (.returned (.slice none 0 0)) w':=⟨⟨none,0,0⟩,rfl,Rd.nil _,by simp [blkL]⟩
theorem listB_cut {ys:List Int} {a r r0:List UInt8} (ha:41∉a) (e:a++41::r=listB ys++r0):a=40::itemsB ys/\r=r0:=by
 have h41:41∉(40::itemsB ys):=by
  rw [qmC,not_or]
  exact ⟨by decide,items_no rfl (by decide)⟩
 unfold listB at e
 rw [qaA] at e
 exact cut_uni ha h41 e
theorem str_row {w:World} {s:Sl} {ts:List (List UInt8)} (h:OwnRow w ty_string 1 s (ts.map strV)) {i:Nat} {t:List UInt8} (hi:ts[i]? =some t) {K:Addr->Prop} (hk:∀p,w.cell? (p.add (Int.toNat (i:Int) *1))=some (.string (ba t))->K p):(0:Int)<=(i:Int)/\(i:Int)<((s.n:Nat):Int)/\optP s.a K:=
 row_at h rfl (i:=i) (v:=strV t) (by rw [qgM,hi];rfl) λp _ hc=>hk p hc
theorem kl_loop {w0:World} {t52:Sl} {ts:List (List UInt8)} {rest:List UInt8} (hts:∀t∈ts,t.length<=1000000000) (hn:ts.length<=2000000000) (hD:errsE∈D) {K:Post} (hK:∀r w' ok' xs,RetN w0 xs r w'->(∀x∈xs,I64 x)->(ok'=true->ts=xs.map dcI)->(∀ys:List Int,(∀y∈ys,I64 y)->ts=ys.map dcI->xs=ys/\ok'=true)->LH (·=b) w0 w' [ctE b rest ok'] D->K r w'):∀(k i:Nat) (ok:Bool) (xs:List Int) (l8:Sl) (w:World),i+k=ts.length->
  (∀x∈xs,I64 x)->xs.length=i->(ok=true->ts.take i=xs.map dcI)->(∀ys:List Int,(∀y∈ys,I64 y)->ts=ys.map dcI->xs=ys.take i/\ok=true)->
  LH (·=b) w0 w [ctE b rest ok,.row ty_string 1 t52 (ts.map strV),.row ty_int 1 l8 (xs.map intV)] D->
  proof_cutter_list.L2 (at0 b) l8 t52 (ts.length:Int) (i:Int) w K:=by
 intro k
 induction k with
 |zero=>
  intro i ok xs l8 w hi hx hxl h1 h2 H
  refine proof_cutter_list.L2_step _ _ _ _ _ _ _ (sel_false (decide_eq_false (by omega)) (hK _ _ ok xs ⟨l8,rfl,(H.get 2:OwnRow _ _ _ _ _).rd1,λx hx=>?_⟩ hx (λh=>?_) (λys hy e=>?_) (H.take 1)))
  .rcases H.new _ (qmG (i:=2) rfl) x hx with h|h
   .exact h
   .subst h
    exact absurd hx (disj_of H.nd (i:=0) (j:=2) rfl rfl (by omega) x (by simp [En.c,En.ob]))
  .have:=h1 h
   rwa [qtOL (by omega)] at this
  .have:=h2 ys hy e
   have hl:=congrArg List.length e
   rw [qlM] at hl
   rwa [qtOL (by omega)] at this
 |succ k ih=>
  intro i ok xs l8 w hi hx hxl h1 h2 H
  have hg:ts[i]? =some ts[i]:=qgE (by omega)
  generalize ts[i]=t at hg
  have hnr:=(H.get 1:OwnRow _ _ _ _ _).len
  have hnx:=(H.get 2:OwnRow _ _ _ _ _).len
  simp only [qlM,Nat.mul_one] at hnr hnx
  refine proof_cutter_list.L2_step _ _ _ _ _ _ _ (sel_true (decide_eq_true (by omega)) (str_row (H.get 1) hg λp hp=>⟨_,hp,H.ctC 0 rfl (λH=>k_number t (hts t (qmG hg)) hD H) ?_⟩))
  rintro _ w1 l' ok' ⟨n,rfl,⟨hn1,hn2,hn3⟩,rfl⟩ _ H1
  refine ⟨_,rfl,H1.ap1 2 el_ints rfl (λl9 w2 H2 _ _=>?_) (by omega)⟩
  rw [i64_next _ (by omega)]
  have em:(xs.map intV)++#[Value.i n].toList=(xs++[n]).map intV:=by rw [qmpA];rfl
  rw [em] at H2
  refine ih (i+1) ok' (xs++[n]) l9 w2 (by omega) ?_ (by rw [qlA,hxl];rfl) (λh=>?_) (λys hy e=>?_) H2
  .intro x hx'
   rcases qmA.1 hx' with h|h
   .exact hx x h
   .rw [qmS.1 h];exact hn1
  .obtain ⟨h3,h4⟩:=hn2 h
   rw [qtO,hg,h1 h3,qmpA,h4];rfl
  .obtain ⟨h3,h4⟩:=h2 ys hy e
   have hyi:(ys.map dcI)[i]? =some t:=by rw [<-e];exact hg
   rw [qgM] at hyi
   cases hy2:ys[i]? with
   |none=>rw [hy2] at hyi;cases hyi
   |some y=>
    rw [hy2] at hyi
    have hyt:dcI y=t:=Option.some.inj hyi
    obtain ⟨h5,h6⟩:=hn3 y (hy y (qmG hy2)) hyt.symm
    rw [qtO,hy2,<-h3,h5,h6]
    exact ⟨rfl,h4⟩
theorem split_small {c:UInt8} {n:Nat}:∀l:List UInt8,l.length<=n->∀t∈splitB c l,t.length<=n
 |[],_,t,ht=>by simp [splitB] at ht;simp [ht]
 |d::l,hl,t,ht=>by
  simp only [qlC] at hl
  have ih:=split_small (c:=c) (n:=n - 1) l (by omega)
  unfold splitB at ht
  split at ht
  .rcases qmC.1 ht with rfl|ht
   .simp
   .have:=ih t ht;omega
  .rcases qmC.1 ht with rfl|ht
   .have hne:=split_ne c l
    cases hs:splitB c l with
    |nil=>exact absurd hs hne
    |cons p q=>
     have:=ih p (by rw [hs];simp)
     simp;omega
   .have:=ih t (List.mem_of_mem_tail ht);omega
theorem k_list (hl:l.length<=1000000000) (hD:errsE∈D) (H:LH (·=b) w w [ctE b l ok] D):Calls Tryz.prog n_proof_cutter_list #[.pointer (some (at0 b))] w λr w'=>∃l' ok',(∃xs,RetN w xs r w'/\ListP l ok xs l' ok')/\LH (·=b) w w' [ctE b l' ok'] D:=by
 have hz:=ba_size l
 have fail:∀(l':List UInt8) (text:ByteArray) (w1:World),l'.length<=l.length->(∀(ys:List Int) (r:List UInt8),(∀y∈ys,I64 y)->l=listB ys++r->ok=true->False)->LH (·=b) w w1 [ctE b l' false] D->proof_cutter_list.S0 (at0 b) text w1 λr w'=>∃l' ok',(∃xs,RetN w xs r w'/\ListP l ok xs l' ok')/\LH (·=b) w w' [ctE b l' ok'] D:=by
  intro l' text w1 hl' hno H1
  exact ⟨false,H1.ld 0 1,sel_true rfl ⟨l',false,⟨[],RetN.nil _ _,by simp,hl',λh=>(by cases h),λys r hy e ho=>(hno ys r hy e ho).elim⟩,H1⟩⟩
 refine proof_cutter_list.ok _ w _ ⟨ba l,H.ld 0 0,H.call (s_Cut (ba l) 41 (by omega) w) ?_⟩
 rintro _ w1 hc H1
 rw [bl_ba] at hc
 cases hc with
 |no h=>
  refine ⟨_,_,_,rfl,H1.call (s_CutPrefix (ba l) 40 w1) ?_⟩
  rintro _ w2 hp H2
  have hno:∀(ys:List Int) (r:List UInt8),(∀y∈ys,I64 y)->l=listB ys++r->ok=true->False:=λys r _ e _=>h (by rw [e];simp [listB])
  have fin:∀(t:ByteArray) (o:Bool),stV w2 ((at0 b).add 0) (.string (ba [])) λw3=>∃t33:Bool,w3.cell? ((at0 b).add 1)=some (.bool t33)/\sel t33 (sel false (stV w3 ((at0 b).add 1) (.bool o) λw4=>proof_cutter_list.S0 (at0 b) t w4 λr w'=>∃l' ok',(∃xs,RetN w xs r w'/\ListP l ok xs l' ok')/\LH (·=b) w w' [ctE b l' ok'] D) (stV w3 ((at0 b).add 1) (.bool false) λw5=>proof_cutter_list.S0 (at0 b) t w5 λr w'=>∃l' ok',(∃xs,RetN w xs r w'/\ListP l ok xs l' ok')/\LH (·=b) w w' [ctE b l' ok'] D)) (stV w3 ((at0 b).add 1) (.bool false) λw6=>proof_cutter_list.S0 (at0 b) t w6 λr w'=>∃l' ok',(∃xs,RetN w xs r w'/\ListP l ok xs l' ok')/\LH (·=b) w w' [ctE b l' ok'] D):=by
   intro t o
   refine H2.st 0 0 rfl λw3 H3=>⟨ok,H3.ld 0 1,?_⟩
   cases ok with
   |true=>exact sel_true rfl (sel_false rfl (H3.st 0 1 rfl λw4 H4=>fail [] t w4 (by simp) hno H4))
   |false=>exact sel_false rfl (H3.st 0 1 rfl λw4 H4=>fail [] t w4 (by simp) hno H4)
  cases hp with
  |no _=>exact ⟨_,_,rfl,fin _ _⟩
  |yes _ _=>exact ⟨_,_,rfl,fin _ _⟩
 |yes a r e h=>
  refine ⟨_,_,_,rfl,H1.call (s_CutPrefix (ba a) 40 w1) ?_⟩
  rintro _ w2 hp H2
  rw [bl_ba] at hp
  have hll:r.length<=l.length:=by rw [e];simp;omega
  cases hp with
  |no hp=>
   have hno:∀(ys:List Int) (r':List UInt8),(∀y∈ys,I64 y)->l=listB ys++r'->ok=true->False:=λys r' _ e' _=>hp _ (listB_cut h (e▸e')).1
   refine ⟨_,_,rfl,H2.st 0 0 rfl λw3 H3=>⟨ok,H3.ld 0 1,?_⟩⟩
   cases ok with
   |true=>exact sel_true rfl (sel_true rfl (H3.st 0 1 rfl λw4 H4=>fail r _ w4 hll hno H4))
   |false=>exact sel_false rfl (H3.st 0 1 rfl λw4 H4=>fail r _ w4 hll hno H4)
  |yes text ha=>
   refine ⟨_,_,rfl,H2.st 0 0 rfl λw3 H3=>⟨ok,H3.ld 0 1,?_⟩⟩
   cases ok with
   |false=>exact sel_false rfl (H3.st 0 1 rfl λw4 H4=>fail r _ w4 hll (λ_ _ _ _ h=>by cases h) H4)
   |true=>
    have fwd:∀(ys:List Int) (r':List UInt8),l=listB ys++r'->text=itemsB ys/\r=r':=λys r' e'=>by
     obtain ⟨h1,h2⟩:=listB_cut h (e▸e')
     rw [ha] at h1
     exact ⟨(List.cons.inj h1).2,h2⟩
    refine sel_true rfl (sel_true rfl (H3.st 0 1 rfl λw4 H4=>⟨true,H4.ld 0 1,sel_false rfl (sel_tx (λht=>?_) (λht=>?_))⟩))
    .have ht:text=[]:=ba_inj' ht
     subst ht
     refine ⟨r,true,⟨[],RetN.nil _ _,by simp,hll,λ_=>⟨rfl,by rw [e,ha];rfl⟩,λys r' _ e' _=>?_⟩,H4⟩
     obtain ⟨h1,h2⟩:=fwd ys r' e'
     exact ⟨(items_nil.1 h1.symm).symm,h2,rfl⟩
    .have htl:text.length<=l.length:=by rw [e,ha];simp;omega
     have hz2:=ba_size text
     refine (s_Split (ba text) 32 (by omega) w4).mono ?_
     rintro _ w5 ⟨⟨t,rfl,ho,hnew⟩,f5⟩
     rw [bl_ba] at ho
     have hsl:=split_len 32 text
     have hcl:Go.Lib.countByte text 32<=text.length:=List.count_le_length
     have H5:=H4.push (.row ty_string 1 t ((splitB 32 text).map strV)) f5 ho hnew
     have htn:t.n=(splitB 32 text).length:=by have:=ho.len;simpa using this.symm
     refine ⟨t,rfl,?_⟩
     dsimp only
     rw [htn]
     refine kl_loop (D:=D) (b:=b) (w0:=w) (rest:=r) (t52:=t) (ts:=splitB 32 text) (λq hq=>split_small text (Nat.le_trans htl hl) q hq) (by omega) hD (λr' w' ok' xs h1 h2 h3 h4 H6=>?_) (splitB 32 text).length 0 true [] ⟨none,0,0⟩ w5 (by omega) (by simp) rfl (λ_=>rfl) (λys _ _=>⟨rfl,rfl⟩) (H5.nilrow ty_int 1)
     refine ⟨r,ok',⟨xs,h1,h2,hll,λho=>⟨rfl,?_⟩,λys r'' hy e' _=>?_⟩,H6⟩
     .rw [e,ha,split_items (h3 ho)]
      simp [listB]
     .obtain ⟨h5,h6⟩:=fwd ys r'' e'
      have hy0:ys≠[]:=λhy0=>by
       subst hy0
       exact ht (by rw [h5];rfl)
      obtain ⟨h7,h8⟩:=h4 ys hy (by rw [h5];exact items_split hy0)
      exact ⟨h7,h6,h8⟩
end
def kindTo:Nat->List UInt8->Int
 |0,_=>-1
 |i+1,a=>if wordKL.getD i []=a then (i:Int) else kindTo i a
theorem kind_word (k:Int) (h0:0<=k) (h5:k<=5):kindTo 6 (wordK k)=k:=by
 have:k=0\/k=1\/k=2\/k=3\/k=4\/k=5:=by omega
 rcases this with rfl|rfl|rfl|rfl|rfl|rfl<;>decide
theorem kind_of:∀(i:Nat) (a:List UInt8),i<=6->0<=kindTo i a->a=wordK (kindTo i a)/\kindTo i a<(i:Int)
 |0,a,_,h=>by simp [kindTo] at h
 |i+1,a,hi,h=>by
  unfold kindTo at h ⊢
  split
  .rename_i e
   exact ⟨by rw [<-e];simp [wordK],by omega⟩
  .rename_i e
   rw [if_neg e] at h
   obtain ⟨h1,h2⟩:=kind_of i a (by omega) h
   exact ⟨h1,by omega⟩
theorem word_no (k:Int):32∉wordK k:=by
 unfold wordK
 have h:∀i<6,32∉wordKL.getD i []:=by decide
 by_cases hk:k.toNat<6
 .exact h _ hk
 .rw [List.getD_eq_getElem?_getD,List.getElem?_eq_none (by show 6<=_;omega)];simp
def nmOf (a:List UInt8):ByteArray:=if a=[45] then ba [] else ba a
theorem nm_of {s:Stp} (h:StpOk s):nmOf (nmB s)=s.nm/\32∉nmB s/\nmB s≠[]/\∀l,nmB s≠40::l:=by
 unfold nmB nmOf
 by_cases hn:bl s.nm=[]
 .rw [if_pos hn,if_pos rfl]
  exact ⟨by rw [<-ba_bl s.nm,hn],by decide,by simp,by simp⟩
 .rw [if_neg hn,if_neg h.nm2]
  exact ⟨ba_bl _,h.nm1,hn,h.nm3⟩
theorem nmB_of {a:List UInt8} (h0:a≠[]) (k n r:Int) (p l g:List Int):nmB ⟨k,n,r,p,nmOf a,l,g⟩=a:=by
 unfold nmB nmOf
 by_cases h:a=[45]
 .rw [if_pos h];simp [bl_ba,h]
 .rw [if_neg h];simp [bl_ba,h0]
theorem stp_ok {a:List UInt8} {k n r:Int} {p l g:List Int} (hk:0<=k/\k<=5) (hn:I64 n) (hr:I64 r) (hp:∀x∈p,I64 x) (hl:∀x∈l,I64 x) (hg:∀x∈g,I64 x) (h1:32∉a) (h3:∀t,a≠40::t):StpOk ⟨k,n,r,p,nmOf a,l,g⟩:=by
 refine ⟨hk,hn,hr,hp,hl,hg,?_,?_,?_⟩<;>(show _;unfold nmOf;split)
 .simp [bl_ba]
 .rw [bl_ba];exact h1
 .simp [bl_ba]
 .rename_i h;rw [bl_ba];exact h
 .simp [bl_ba]
 .rw [bl_ba];exact h3
theorem word_fwd {l:List UInt8} {ok:Bool} {x l':List UInt8} {ok':Bool} (h:WordP l ok x l' ok') {a r:List UInt8} (e:l=a++32::r) (ha:32∉a):x=a/\l'=r/\ok'=ok:=by
 cases h with
 |no h=>exact absurd (by rw [e];simp) h
 |yes x l' e' hx=>
  obtain ⟨h1,h2⟩:=cut_uni hx ha (e'.symm.trans e)
  exact ⟨h1,h2,rfl⟩
theorem word_back {l:List UInt8} {ok:Bool} {x l':List UInt8} (h:WordP l ok x l' true):l=x++32::l'/\32∉x/\ok=true:=by
 cases h with
 |yes x l' e hx=>exact ⟨e,hx,rfl⟩
theorem space_fwd {l:List UInt8} {ok:Bool} {l':List UInt8} {ok':Bool} (h:SpaceP l ok l' ok') {r:List UInt8} (e:l=32::r):l'=r/\ok'=ok:=by
 cases h with
 |no h=>exact absurd e (h r)
 |yes r' e'=>rw [e'] at e;exact ⟨(List.cons.inj e).2,rfl⟩
theorem space_back {l:List UInt8} {ok:Bool} {l':List UInt8} (h:SpaceP l ok l' true):l=32::l'/\ok=true:=by
 cases h with
 |yes r e=>exact ⟨e,rfl⟩
structure StepR (l a1 a4:List UInt8) (n ru:Int) (ok6:Bool) (l4:List UInt8):Prop where
 r:∃l1 ok1 a2 l2 ok2 ok3 a3 l3 ok4 ok5,WordP l true a1 l1 ok1/\WordP l1 ok1 a2 l2 ok2/\NumP a2 ok2 n ok3/\WordP l2 ok3 a3 l3 ok4/\NumP a3 ok4 ru ok5/\WordP l3 ok5 a4 l4 ok6
theorem StepR.fwd {l a1 a4 l4:List UInt8} {n ru:Int} {ok6:Bool} (h:StepR l a1 a4 n ru ok6 l4) {s:Stp} (hs:StpOk s) (e:l=lineB s):
  a1=wordK s.kind/\n=s.node/\ru=s.rule/\a4=nmB s/\ok6=true/\l4=listB s.params++32::(listB s.hints++32::listB s.lits):=by
 obtain ⟨l1,ok1,a2,l2,ok2,ok3,a3,l3,ok4,ok5,h1,h2,h3,h4,h5,h6⟩:=h.r
 unfold lineB at e
 obtain ⟨rfl,rfl,rfl⟩:=word_fwd h1 e (word_no _)
 obtain ⟨rfl,rfl,rfl⟩:=word_fwd h2 rfl (dcI_no rfl)
 obtain ⟨rfl,rfl⟩:=h3.2.2 _ hs.node rfl
 obtain ⟨rfl,rfl,rfl⟩:=word_fwd h4 rfl (dcI_no rfl)
 obtain ⟨rfl,rfl⟩:=h5.2.2 _ hs.rule rfl
 obtain ⟨rfl,rfl,rfl⟩:=word_fwd h6 rfl (nm_of hs).2.1
 exact ⟨rfl,rfl,rfl,rfl,rfl,rfl⟩
theorem StepR.back {l a1 a4 l4:List UInt8} {n ru:Int} (h:StepR l a1 a4 n ru true l4):l=a1++32::(dcI n++32::(dcI ru++32::(a4++32::l4)))/\I64 n/\I64 ru/\32∉a4:=by
 obtain ⟨l1,ok1,a2,l2,ok2,ok3,a3,l3,ok4,ok5,h1,h2,h3,h4,h5,h6⟩:=h.r
 obtain ⟨e6,n6,rfl⟩:=word_back h6
 obtain ⟨rfl,e5⟩:=h5.2.1 rfl
 obtain ⟨e4,_,rfl⟩:=word_back h4
 obtain ⟨rfl,e3⟩:=h3.2.1 rfl
 obtain ⟨e2,_,rfl⟩:=word_back h2
 obtain ⟨e1,_,_⟩:=word_back h1
 exact ⟨by rw [e1,e2,e3,e4,e5,e6],h3.1,h5.1,n6⟩
structure TailR (l4:List UInt8) (ok6:Bool) (ps hs ls:List Int) (ok:Bool) (l9:List UInt8):Prop where
 r:∃l5 ok7 l6 ok8 l7 ok9 l8 ok10,ListP l4 ok6 ps l5 ok7/\SpaceP l5 ok7 l6 ok8/\ListP l6 ok8 hs l7 ok9/\SpaceP l7 ok9 l8 ok10/\ListP l8 ok10 ls l9 ok
theorem TailR.fwd {l4 l9:List UInt8} {ps hs ls:List Int} {ok:Bool} (h:TailR l4 true ps hs ls ok l9) {s:Stp} (hok:StpOk s) (e:l4=listB s.params++32::(listB s.hints++32::listB s.lits)):
  ps=s.params/\hs=s.hints/\ls=s.lits/\ok=true/\l9=[]:=by
 obtain ⟨l5,ok7,l6,ok8,l7,ok9,l8,ok10,h1,h2,h3,h4,h5⟩:=h.r
 obtain ⟨rfl,rfl,rfl⟩:=h1.2.2.2 _ _ hok.params e rfl
 obtain ⟨rfl,rfl⟩:=space_fwd h2 rfl
 obtain ⟨rfl,rfl,rfl⟩:=h3.2.2.2 _ _ hok.hints rfl rfl
 obtain ⟨rfl,rfl⟩:=space_fwd h4 rfl
 obtain ⟨rfl,rfl,rfl⟩:=h5.2.2.2 _ [] hok.lits (by rw [qaN]) rfl
 exact ⟨rfl,rfl,rfl,rfl,rfl⟩
theorem TailR.back {l4:List UInt8} {ok6:Bool} {ps hs ls:List Int} (h:TailR l4 ok6 ps hs ls true []):l4=listB ps++32::(listB hs++32::listB ls)/\ok6=true/\(∀x∈ps,I64 x)/\(∀x∈hs,I64 x)/\(∀x∈ls,I64 x):=by
 obtain ⟨l5,ok7,l6,ok8,l7,ok9,l8,ok10,h1,h2,h3,h4,h5⟩:=h.r
 obtain ⟨rfl,e5⟩:=h5.2.2.1 rfl
 obtain ⟨e4,rfl⟩:=space_back h4
 obtain ⟨rfl,e3⟩:=h3.2.2.1 rfl
 obtain ⟨e2,rfl⟩:=space_back h2
 obtain ⟨rfl,e1⟩:=h1.2.2.1 rfl
 rw [qaN] at e5
 exact ⟨by rw [e1,e2,e3,e4,e5],rfl,h1.1,h3.1,h5.1⟩
def NoLine (l:List UInt8):Prop:=∀s,StpOk s->l≠lineB s
theorem noline_32 {l:List UInt8} (h:32∉l):NoLine l:=λs _ e=>h (by rw [e];unfold lineB;simp)
theorem step_no {l a1 a4 l4:List UInt8} {n ru:Int} {ok6:Bool} (h:StepR l a1 a4 n ru ok6 l4) (hb:kindTo 6 a1<0\/a4=[]\/∃t,a4=40::t):NoLine l:=by
 intro s hs e
 obtain ⟨rfl,_,_,rfl,_,_⟩:=h.fwd hs e
 rw [kind_word _ hs.kind.1 hs.kind.2] at hb
 rcases hb with hb|hb|⟨t,hb⟩
 .have:=hs.kind.1;omega
 .exact (nm_of hs).2.2.1 hb
 .exact (nm_of hs).2.2.2 t hb
theorem step_no2 {l a1 a4 l4 l9:List UInt8} {n ru:Int} {ok6 ok:Bool} {ps hs ls:List Int} (h:StepR l a1 a4 n ru ok6 l4) (ht:TailR l4 ok6 ps hs ls ok l9) (hb:ok=false\/l9≠[]):NoLine l:=by
 intro s hok e
 obtain ⟨_,_,_,_,rfl,e4⟩:=h.fwd hok e
 obtain ⟨_,_,_,h1,h2⟩:=ht.fwd hok e4
 rcases hb with hb|hb
 .rw [hb] at h1;cases h1
 .exact hb h2
theorem step_yes {l a1 a4 l4:List UInt8} {n ru:Int} {ok6:Bool} {ps hs ls:List Int} (h:StepR l a1 a4 n ru ok6 l4) (ht:TailR l4 ok6 ps hs ls true []) (hk:0<=kindTo 6 a1) (h0:a4≠[]) (h40:∀t,a4≠40::t):
  StpOk ⟨kindTo 6 a1,n,ru,ps,nmOf a4,ls,hs⟩/\l=lineB ⟨kindTo 6 a1,n,ru,ps,nmOf a4,ls,hs⟩:=by
 obtain ⟨e4,rfl,hp,hh,hl⟩:=ht.back
 obtain ⟨e,hn,hr,h32⟩:=h.back
 obtain ⟨k1,k2⟩:=kind_of 6 a1 (by omega) hk
 refine ⟨stp_ok ⟨hk,by omega⟩ hn hr hp hl hh h32 h40,?_⟩
 unfold lineB
 rw [nmB_of h0]
 show l=wordK (kindTo 6 a1)++32::(dcI n++32::(dcI ru++32::(a4++32::(listB ps++32::(listB hs++32::listB ls)))))
 rw [<-k1,<-e4,e]
theorem list_uni {xs ys:List Int} {r r':List UInt8} (e:listB xs++r=listB ys++r'):xs=ys/\r=r':=by
 unfold listB at e
 rw [qaA,qaA] at e
 have h41:∀ys:List Int,41∉(40::itemsB ys):=λys=>by
  rw [qmC,not_or]
  exact ⟨by decide,items_no rfl (by decide)⟩
 obtain ⟨h1,h2⟩:=cut_uni (h41 xs) (h41 ys) e
 refine ⟨?_,h2⟩
 have h1:itemsB xs=itemsB ys:=(List.cons.inj h1).2
 by_cases hx:xs=[]
 .subst hx;exact (items_nil.1 h1.symm).symm
 .have hy:ys≠[]:=λhy=>by subst hy;exact hx (items_nil.1 h1)
  have:=congrArg (splitB 32) h1
  rw [items_split hx,items_split hy] at this
  exact (List.map_inj_right λx y h=>dcI_inj h).1 this
theorem stp_ext:∀{s t:Stp},s.kind=t.kind->s.node=t.node->s.rule=t.rule->s.params=t.params->s.nm=t.nm->s.lits=t.lits->s.hints=t.hints->s=t
 |⟨_,_,_,_,_,_,_⟩,⟨_,_,_,_,_,_,_⟩,rfl,rfl,rfl,rfl,rfl,rfl,rfl=>rfl
theorem line_inj {s t:Stp} (hs:StpOk s) (ht:StpOk t) (e:lineB s=lineB t):s=t:=by
 unfold lineB at e
 obtain ⟨e1,e⟩:=cut_uni (word_no _) (word_no _) e
 obtain ⟨e2,e⟩:=cut_uni (dcI_no rfl) (dcI_no rfl) e
 obtain ⟨e3,e⟩:=cut_uni (dcI_no rfl) (dcI_no rfl) e
 obtain ⟨e4,e⟩:=cut_uni (nm_of hs).2.1 (nm_of ht).2.1 e
 obtain ⟨e5,e⟩:=list_uni e
 obtain ⟨e6,e⟩:=list_uni (List.cons.inj e).2
 have e7:=(list_uni (xs:=s.lits) (ys:=t.lits) (r:=[]) (r':=[]) (by rw [qaN,qaN];exact (List.cons.inj e).2)).1
 have k:s.kind=t.kind:=by rw [<-kind_word _ hs.kind.1 hs.kind.2,e1,kind_word _ ht.kind.1 ht.kind.2]
 have m:s.nm=t.nm:=by rw [<-(nm_of hs).1,e4,(nm_of ht).1]
 exact stp_ext k (dcI_inj e2) (dcI_inj e3) e5 m e7 e6
def lineN (s:Stp):List UInt8:=lineB s++[10]
def Stuck (rest:List UInt8):Prop:=10∉rest\/∃a r,rest=a++10::r/\10∉a/\NoLine a
structure Reads (t:List UInt8) (ss:List Stp) (rest:List UInt8):Prop where
 eq:t=ss.flatMap lineN++rest
 ok:∀s∈ss,StpOk s/\10∉lineB s
 fin:rest=[]\/(rest≠[]/\Stuck rest)
theorem reads_uni {rest rest':List UInt8}:∀{ss ss':List Stp} {t:List UInt8},Reads t ss rest->Reads t ss' rest'->ss=ss'/\rest=rest'
 |[],[],t,h,h'=>⟨rfl,by have:=h.eq.symm.trans h'.eq;simpa using this⟩
 |s::ss,s'::ss',t,h,h'=>by
  have e:=h.eq.symm.trans h'.eq
  simp only [qfC,lineN,qaA,List.singleton_append,qcA,qnA0] at e
  have a1:=h.ok s (by simp)
  have a2:=h'.ok s' (by simp)
  obtain ⟨e1,e2⟩:=cut_uni a1.2 a2.2 e
  have hs:=line_inj a1.1 a2.1 e1
  obtain ⟨h1,h2⟩:=reads_uni (t:=ss.flatMap lineN++rest) ⟨rfl,λx hx=>h.ok x (by simp [hx]),h.fin⟩ ⟨e2,λx hx=>h'.ok x (by simp [hx]),h'.fin⟩
  exact ⟨by rw [hs,h1],h2⟩
 |[],s'::ss',t,h,h'=>by
  exfalso
  have e:=h.eq.symm.trans h'.eq
  simp only [List.flatMap_nil,qnA0,qfC,lineN,qaA,List.singleton_append,qcA] at e
  have a2:=h'.ok s' (by simp)
  rcases h.fin with h0|⟨_,h0|⟨a,r,e0,ha,hn⟩⟩
  .rw [h0] at e;simp at e
  .rw [e] at h0;simp at h0
  .rw [e0] at e
   obtain ⟨e1,_⟩:=cut_uni ha a2.2 e
   exact hn s' a2.1 e1
 |s::ss,[],t,h,h'=>by
  exfalso
  have e:=h'.eq.symm.trans h.eq
  simp only [List.flatMap_nil,qnA0,qfC,lineN,qaA,List.singleton_append,qcA] at e
  have a2:=h.ok s (by simp)
  rcases h'.fin with h0|⟨_,h0|⟨a,r,e0,ha,hn⟩⟩
  .rw [h0] at e;simp at e
  .rw [e] at h0;simp at h0
  .rw [e0] at e
   obtain ⟨e1,_⟩:=cut_uni ha a2.2 e
   exact hn s a2.1 e1
end Go.Proofs.YthnoidogkbbkhaaGreatDoor

import Derived.Test.YtnpkhgljhcnpcaaGreatDoorBK
import Derived.Test.YtnpkhgljhcnpcaaGreatDoorVB
import Derived.Lib.Builder
import Derived.Lib.MakeNoZero
import Derived.Lib.UnsafeStr
import Derived.Laws.Externs
import Derived.Laws.IdiomCopy
import Derived.Test.YtnpkhgljhcnpcaaGreatDoorTP
import Derived.Test.YtnpkhgljhcnpcaaGreatDoorE1
import Derived.Test.YtnpkhgljhcnpcaaGreatDoorR1
import Derived.Test.YtnpkhgljhcnpcaaGreatDoorB
import Derived.Test.YtnpkhgljhcnpcaaGreatDoorKC
import Derived.Test.YtnpkhgljhcnpcaaGreatDoorTM
set_option linter.unusedVariables false
set_option maxRecDepth 100000
set_option maxHeartbeats 1000000
set_option linter.defProp false
namespace Go.Proofs.YtnpkhgljhcnpcaaGreatDoor
open Go renaming World->aA,Calls->aH,Program->aQ,Value->aD,TypeId->aP
open Go.IntKind renaming wrap->aC
open _root_.Int renaming toNat->aF
open _root_.ByteArray renaming mk->aE
open Go.IntWalk renaming i64_in->aS
open Go.Proofs.Tryz renaming prog->aB
open Go.Ending renaming returned->aJ
open List renaming mem_append->gg,mem_cons->dT,not_mem_nil->gL,mem_of_getElem?->dI,getElem?_eq_getElem->ie,getElem?_eq_some_iff->nY,mem_append_left->qy,mem_append_right->wL,mem_flatMap->nG,mem_map->pN,length_append->nE,length_cons->xB,length_nil->JM,getElem?_append_left->KV,getElem?_append_right->qgR,append_assoc->tA,mem_singleton->IW,flatMap_append->rS,flatMap_cons->rT,nodup_append->zH,length_map->MG,getElem?_map->O1,all_eq_true->wo,append_nil->uL,nil_append->uI,cons_append->yK,map_append->sP,length_replicate->qlR,map_cons->AK,eq_nil_of_length_eq_zero->Zi
open Go Go.W
def rZ (w:aA) (b:Nat) (bs:List UInt8) (own:List Nat):Prop:=
 ∃(u:Option Addr) (s:Sl),(u=none\/u=some (bO b))/\own=b::bQ s/\w.heap[b]? =some (.cells #[.pointer u,s.v] cF (0,0))/\mH w s bs
def rZ.lt {w:aA} {b:Nat} {bs:List UInt8} {own:List Nat} (h:rZ w b bs own):∀x∈own,x<w.heap.size:=by
 obtain ⟨u,s,_,rfl,h1,h2⟩:=h
 intro x hx
 rcases dT.1 hx with rfl|hx
 .exact gh h1
 .exact h2.2.lt x hx
def rZ.st {w w':aA} {b:Nat} {bs:List UInt8} {own:List Nat} (h:rZ w b bs own) (k:∀x∈own,x<w.heap.size->w'.heap[x]? =w.heap[x]?):rZ w' b bs own:=by
 have jO:=h.lt
 obtain ⟨u,s,hu,rfl,h1,h2⟩:=h
 exact ⟨u,s,hu,rfl,(k b (by simp) (jO b (by simp))).trans h1,h2.1,h2.2.ic λx hx _=>k x (by simp [hx]) (jO x (by simp [hx]))⟩
def _root_.Go.W.En.bd (b:Nat) (own:List Nat) (bs:List UInt8):En:=⟨JL own,λw=>rZ w b bs own,λw w' h hp=>hp.st λb hb=>h b (aV.2 hb),λw hp b hb=>hp.lt b (aV.1 hb),kM _⟩
def Pz (w:aA) (bb:Nat) (own:List Nat) (l:List UInt8) (b:Nat):¬(En.bd bb own l).P ({w with heap:=Array.replicate (b+1) (.map #[] 0)}):=by
 rintro ⟨u,s,_,_,h,_⟩
 exact D1 w bb _ cF b h
def uz (w:aA) (b:Nat) (own:List Nat) (bs:List UInt8) (w':aA):Prop:=∃fF,rZ w' b bs fF/\Fr (·∈own) w w'/\∀x∈fF,x∈own\/w.heap.size<=x
def uz.refl {w:aA} {b:Nat} {own:List Nat} {bs:List UInt8} (h:rZ w b bs own):uz w b own bs w:=⟨own,h,Fr.refl _ _,λ_ h=>.inl h⟩
def uz.then {w w' wP:aA} {b:Nat} {own fF:List Nat} {bs:List UInt8} (h1:Fr (·∈own) w w') (h2:∀x∈fF,x∈own\/w.heap.size<=x) (h:uz w' b fF bs wP):uz w b own bs wP:=by
 obtain ⟨RE,r,f,o⟩:=h
 refine ⟨RE,r,h1.trans f λx hx hm=>?_,λx hx=>?_⟩
 .rcases h2 x hm with h|h
  .exact h
  .omega
 .rcases o x hx with h|h
  .exact h2 x h
  .exact .inr (Nat.le_trans h1.size h)
section
variable {M:Nat->Prop} {w0 w:aA} {L D:List En} {bs:List Nat}
def _root_.Go.W.LH.bdG (H:LH M w0 w L D) (i:Nat) {bb:Nat} {own:List Nat} {l l':List UInt8} {w':aA} (hi:L[i]? =some (.bd bb own l)) (h:uz w bb own l' w'):∃fF,LH M w0 w' (L.set i (.bd bb fF l')) D/\rZ w' bb l' fF:=by
 obtain ⟨fF,r,f,o⟩:=h
 exact ⟨fF,H.CX i (.bd bb fF l') hi (f.mono λx _ hx=>aV.2 hx) r (λb hb=>(o b (aV.1 hb)).imp aV.2 id),r⟩
def _root_.Go.W.LH.bdC (H:LH M w0 w L D) (i:Nat) {bb:Nat} {own:List Nat} {l l':List UInt8} {P:aQ} {g:FuncId} {args:Array aD} {A:Ending->Prop} {K:aT} (hi:L[i]? =some (.bd bb own l)) (hc:aH P g args w λr w'=>A r/\uz w bb own l' w')
  (hk:∀r w' fF,A r->LH M w0 w' (L.set i (.bd bb fF l')) D->K r w'):aH P g args w K:=
 hc.mono λr w' ⟨ha,h⟩=>by
  obtain ⟨fF,H',_⟩:=H.bdG i hi h
  exact hk r w' fF ha H'
def _root_.Go.W.LH.bdF (H:LH M w0 w L D) (i:Nat) {bb:Nat} {own:List Nat} {l l':List UInt8} {P:aQ} {g:FuncId} {args:Array aD} {A:Ending->Prop} {K:aT} (hi:L[i]? =some (.bd bb own l)) (hc:aH P g args w λr w'=>A r/\uz w bb own l' w')
  (hk:∀r w' fF,A r->LH M w0 w' (L.set i (.bd bb fF l')) D->K r w') (kS:∀b∈bs,En.g b∈L:=by simp):fZ bs P g args w K:=
 ⟨(·∈own),λb hb hm=>lW H hi (Pz w bb own l) (kS b hb) (aV.2 hm),hc.mono λr w' ⟨ha,h⟩=>by
  obtain ⟨_,_,f,_⟩:=id h
  obtain ⟨fF,H',_⟩:=H.bdG i hi h
  exact ⟨f,hk r w' fF ha H'⟩⟩
end
def Ts:(∃j,Tryz.prog.info? cF=some j/\j.size=2)/\liesAt aB Tryz.prog.depth cF (2 / Tryz.prog.cellsOf cF) 0 cF 1=true/\Tryz.prog.underlying j8=some (.pointer cF)/\Tryz.prog.underlying pK=some .unsafePointer:=by
 refine ⟨?_,by kernel_rfl,by kernel_rfl,by kernel_rfl⟩
 have h:(Tryz.prog.info? cF).map (·.size)=some 2:=by kernel_rfl
 obtain ⟨j,h1,h2⟩:=Option.map_eq_some_iff.1 h
 exact ⟨j,h1,h2⟩
def G6 {w:aA} {b:Nat} {u:Option Addr} {s:Sl} (hu:u=none\/u=some (bO b)) (hc:w.heap[b]? =some (.cells #[.pointer u,s.v] cF (0,0))):
  aH aB eJ #[.pointer (some (bO b))] w λr w'=>r=aJ (.tuple #[])/\w'.heap[b]? =some (.cells #[.pointer (some (bO b)),s.v] cF (0,0))/\Fr (·=b) w w':=by
 obtain ⟨⟨j,hj,hz⟩,acE,hp,DG⟩:=Ts
 have c0:w.cell? ((bO b).add 0)=some (.pointer u):=cellAt (p:=bO b) hc rfl rfl
 have hsh:w.shape? (bO b).block=some (cF,2):=by
  show w.shape? b=_
  simp [World.shape?,hc]
 refine strings_Builder_copyCheck.ok _ w _ ⟨u,c0,?_⟩
 rcases hu with rfl|rfl
 .refine bF rfl ⟨some (bO b),Lib.run_to_unsafe w (bO b) hp DG hj (by rw [hz];decide) hsh (Nat.zero_lt_succ 1),some (bO b),w,?_,some (bO b),Lib.run_from_unsafe w (bO b) DG hp hj hsh acE,?_⟩
  .rw [run_callFunc_extern (fn:=(Tryz.prog.funcs[oT]?).getD default) (by kernel_rfl) (by kernel_rfl) (by kernel_rfl) (by kernel_rfl) (e:=Extern.AbiNoEscape.same) (by kernel_rfl),Lib.run_noEscape]
   rfl
  .refine ⟨by rw [c0];rfl,frozenAt (p:=bO b) hc,rfl,?_,Fr.set _ _ _ rfl⟩
   exact setAt (p:=bO b) (i:=0) (v:=.pointer (some (bO b))) hc rfl
 .refine aX rfl ⟨some (bO b),c0,false,?_,aX rfl ⟨rfl,hc,Fr.refl _ _⟩⟩
  exact Lib.run_neq_ptr_same w (bO b) hp hj
def G7 {w w1 w2:aA} {b:Nat} {s s':Sl} {l l':List UInt8} (hc:w.heap[b]? =some (.cells #[.pointer (some (bO b)),s.v] cF (0,0))) (h0:mH w s l) (f1:bW w w1) (ho:mH w2 s' l') (f2:Fr (·∈bQ s) w1 w2) (BX:∀b∈bQ s',b∈bQ s\/w1.heap.size<=b):
  (w2.cell? ((bO b).add 1)).isSome=true/\w2.frozen? ((bO b).add 1)=false/\uz w b (b::bQ s) l' (w2.setCell ((bO b).add 1) s'.v):=by
 have jx:b∉bQ s:=IL h0 hc (by decide)
 have c2:=f2.at (f1.at hc id) jx
 have c3:(w2.setCell ((bO b).add 1) s'.v).heap[b]? =some (.cells #[.pointer (some (bO b)),s'.v] cF (0,0)):=setAt (p:=bO b) (i:=1) (v:=s'.v) c2 rfl
 have f3:Fr (·=b) w2 (w2.setCell ((bO b).add 1) s'.v):=Fr.set _ _ _ rfl
 have YG:b∉bQ s':=IL ho c2 (by decide)
 refine ⟨by rw [cellAt (p:=bO b) c2 rfl rfl];rfl,frozenAt (p:=bO b) c2,b::bQ s',⟨_,s',.inr rfl,rfl,c3,ho.fr f3 λx hx e=>YG (e▸hx)⟩,?_,?_⟩
 .exact ((f1.of0 (M:=(·∈b::bQ s))).trans f2 λx _ hx=>by simp [hx]).trans f3 λx _ hx=>by simp [hx]
 .intro x hx
  rcases dT.1 hx with rfl|hx
  .exact .inl (by simp)
  .rcases BX x hx with h|h
   .exact .inl (by simp [h])
   .exact .inr (Nat.le_trans f1.size h)
def Lx {w:aA} {b:Nat} {l:List UInt8} {own:List Nat} (h:rZ w b l own) {K:aT} (hk:∀(s:Sl) w',own=b::bQ s->w'.heap[b]? =some (.cells #[.pointer (some (bO b)),s.v] cF (0,0))->mH w' s l->Fr (·∈own) w w'->K (aJ (.tuple #[])) w'):
  aH aB eJ #[.pointer (some (bO b))] w K:=by
 obtain ⟨u,s,hu,rfl,h1,h2⟩:=h
 refine (G6 hu h1).mono ?_
 rintro _ w1 ⟨rfl,c,f⟩
 have jx:b∉bQ s:=IL h2 h1 (by decide)
 exact hk s w1 rfl c (h2.fr f λx hx e=>jx (e▸hx)) (f.mono λx _ e=>by simp [e])
def Lw {w:aA} {b:Nat} {s:Sl} (hc:w.heap[b]? =some (.cells #[.pointer (some (bO b)),s.v] cF (0,0))):w.cell? ((bO b).add 1)=some s.v:=cellAt (p:=bO b) hc rfl rfl
def Lu {w:aA} {b:Nat} {l:List UInt8} {own:List Nat} (h:rZ w b l own) (c:UInt8) (hl:l.length<=10000000000000):
  aH aB gO #[.pointer (some (bO b)),.int .u8 (c.toNat:Int)] w λr w'=>r=aJ .nilIface/\uz w b own (l++[c]) w':=by
 refine strings_Builder_WriteByte.ok _ _ w _ (Lx h λs w1 ho c1 b1 f=>?_)
 subst ho
 have f1:bW w1 (w1.alloc (.cells #[.int .u8 (c.toNat:Int)] bS)):=Fr.alloc _ _ _
 obtain ⟨s',w2,g1,g2,g3,g4,g5⟩:=tC (ty:=bB) (b1.qx f1) (IG w1 c) (by simp;omega)
 obtain ⟨a1,a2,a3⟩:=G7 c1 b1 f1 g2 g3 g4
 exact ⟨rfl,s,Lw c1,s',w2,g1,a1,a2,rfl,a3.then f λx hx=>.inl hx⟩
def X0 {w:aA} {b:Nat} {l:List UInt8} {own:List Nat} (h:rZ w b l own) (t:ByteArray) (hl:l.length+t.size<=10000000000000):
  aH aB iL #[.pointer (some (bO b)),.string t] w λr w'=>r=aJ (.tuple #[.i (t.size:Int),.nilIface])/\uz w b own (l++bl t) w':=by
 refine strings_Builder_WriteString.ok _ _ w _ (Lx h λs w1 ho c1 b1 f=>?_)
 subst ho
 obtain ⟨s',w2,g1,g2,g3,g4⟩:=Bf (ty:=bB) b1 t (by omega)
 obtain ⟨a1,a2,a3⟩:=G7 c1 b1 (Fr.refl _ w1) g2 g3 g4
 exact ⟨rfl,s,Lw c1,s',w2,g1,a1,a2,rfl,a3.then f λx hx=>.inl hx⟩
def Tq {w:aA} {b:Nat} (hc:w.heap[b]? =some (.cells #[.pointer (some (bO b)),.slice none 0 0] cF (0,0))) {n:Nat} (hn:n<=100000):
  aH aB lG #[.pointer (some (bO b)),.i (n:Int)] w λr w'=>r=aJ (.tuple #[])/\uz w b [b] [] w':=by
 have DG:Tryz.prog.underlying bB=some (.slice bS):=by kernel_rfl
 have hb:=gh hc
 refine strings_Builder_grow.ok _ _ w _ ?_
 obtain ⟨cs,mE,hle,acF⟩:=Lib.run_makeNoZero (P:=aB) w.drew #[cT] bB bS DG n (by omega)
 have e:aC .i64 ((aC .i64 (2 *((0:Nat):Int)))+(n:Int))=(n:Int):=by
  rw [aS (2 *((0:Nat):Int)) (by omega),aS _ (by omega)]
  omega
 have c1:w.drew.cell? ((bO b).add 1)=some (.slice none 0 0):=cellAt (p:=bO b) (show w.drew.heap[b]? =_ from hc) rfl rfl
 have f1:bW w (w.drew.drew.drew.alloc (.cells cs bS)):=(((Fr.drew _ w).Az (Fr.drew _ _)).Az (Fr.drew _ _)).Az (Fr.alloc _ _ _)
 have c2:=f1.at hc id
 refine ⟨⟨none,0,0⟩,c1,⟨none,0,0⟩,c1,⟨some ⟨w.drew.heap.size,0,none⟩,n,cs.size⟩,w.drew.drew.drew.alloc (.cells cs bS),?_,cellAt (p:=bO b) c2 rfl rfl,by simp,by simp,?_⟩
 .rw [e,run_callFunc_extern (fn:=(Tryz.prog.funcs[kV]?).getD default) (by kernel_rfl) (by kernel_rfl) (by kernel_rfl) (by kernel_rfl) (e:=Extern.BytealgMakeNoZero.makeNoZero #[cT] #[bB]) (by kernel_rfl),mE]
  rfl
 .have SY:(if cs.size=0 then some (⟨w.drew.heap.size,0,none⟩:Addr) else (some (⟨w.drew.heap.size,0,none⟩:Addr)).map (·.add (0 *1)))=some ⟨w.drew.heap.size,0,none⟩:=by
   split<;>rfl
  show strings_Builder_grow.S0 _ ⟨(if cs.size=0 then some (⟨w.drew.heap.size,0,none⟩:Addr) else (some (⟨w.drew.heap.size,0,none⟩:Addr)).map (·.add (0 *1))),0,cs.size⟩ _ _
  rw [SY]
  refine ⟨⟨none,0,0⟩,cellAt (p:=bO b) c2 rfl rfl,0,_,run_copy_none _ _ _ _ bS _ _ _ _ _ _ DG (by kernel_rfl) rfl,by rw [cellAt (p:=bO b) c2 rfl rfl];rfl,frozenAt (p:=bO b) c2,rfl,?_⟩
  have q5:(w.drew.drew.drew.alloc (.cells cs bS)).heap[w.heap.size]? =some (.cells cs bS (0,0)):=mM w.drew.drew.drew _
  have f3:Fr (·=b) (w.drew.drew.drew.alloc (.cells cs bS)) ((w.drew.drew.drew.alloc (.cells cs bS)).setCell ((bO b).add 1) (.slice (some ⟨w.drew.heap.size,0,none⟩) 0 cs.size)):=Fr.set _ _ _ rfl
  refine ⟨[b,w.heap.size],⟨_,⟨some ⟨w.drew.heap.size,0,none⟩,0,cs.size⟩,.inr rfl,rfl,setAt (p:=bO b) (i:=1) c2 rfl,rfl,?_⟩,(f1.of0 (M:=(·∈[b]))).trans f3 λx _ hx=>by simp [hx],λx hx=>?_⟩
  .refine ⟨rfl,.inr ⟨w.heap.size,cs.size,cs,rfl,Nat.zero_le _,f3.at q5 (λe=>by omega),Nat.zero_le _,acF (by unfold maxLen;omega),by simp,by simp⟩⟩
  .simp at hx
   rcases hx with rfl|rfl
   .exact .inl (by simp)
   .exact .inr (Nat.le_refl _)
def Tp {w:aA} {b:Nat} (hc:w.heap[b]? =some (.cells #[.pointer none,.slice none 0 0] cF (0,0))) {n:Nat} (hn:n<=100000):
  aH aB lF #[.pointer (some (bO b)),.i (n:Int)] w λr w'=>r=aJ (.tuple #[])/\uz w b [b] [] w':=by
 refine strings_Builder_Grow.ok _ _ w _ ((G6 (s:=⟨none,0,0⟩) (.inl rfl) hc).mono ?_)
 rintro _ w1 ⟨rfl,c1,f1⟩
 have f1':Fr (·∈[b]) w w1.drew:=(f1.Az (Fr.drew _ _)).mono λx _ e=>by simp [e]
 have hd:w1.drew.heap[b]? =some (.cells #[.pointer (some (bO b)),.slice none 0 0] cF (0,0)):=c1
 have cc:w1.drew.cell? ((bO b).add 1)=some (.slice none 0 0):=cellAt (p:=bO b) hd rfl rfl
 refine ⟨rfl,aX (aK (by omega)) ⟨⟨none,0,0⟩,cc,⟨none,0,0⟩,cc,bA (λ_=>(Tq hd hn).mono ?_) (λ_=>⟨rfl,uz.then (fF:=[b]) f1' (λx hx=>.inl hx) (uz.refl ⟨_,⟨none,0,0⟩,.inr rfl,rfl,hd,Ow.nil _ _⟩)⟩)⟩⟩
 rintro _ w2 ⟨rfl,h⟩
 exact ⟨rfl,rfl,h.then f1' λx hx=>.inl hx⟩
def Nn {w:aA} {b:Nat} {l:List UInt8} {own:List Nat} (h:rZ w b l own) (h0:l≠[]):
  aH aB kh #[.pointer (some (bO b))] w λr w'=>r=aJ (.string ⟨l.toArray⟩)/\Fr (·∈own) w w':=by
 obtain ⟨u,s,hu,rfl,h1,h2⟩:=h
 have hl:l.length≠0:=by simpa using h0
 have hn:=h2.1
 simp only [MG] at hn
 rcases h2.2.cases with ⟨rfl,he⟩|⟨g,cur,ha,hg,hc1,Wk,hc3,hc4⟩
 .simp at he
  exact absurd he h0
 have cc:w.drew.cell? ((bO b).add 1)=some s.v:=cellAt (p:=bO b) (show w.drew.heap[b]? =_ from h1) rfl rfl
 refine strings_Builder_String.ok _ w _ ⟨s,cc,s,cc,some ⟨g,0,none⟩,w.drew,?_,cc,⟨l.toArray⟩,w.drew.freeze ⟨g,0,none⟩ l.length,?_,rfl,?_⟩
 .show (Builtin.unsafeSliceData_ _ _ #[.slice s.a s.n s.c]).run _ _=_
  rw [ha]
  exact Lib.run_unsafeSliceData_row _ _ _ _ _ _ (by omega)
 .rw [hn]
  refine Lib.run_unsafeString_row w.drew _ _ _ bS (by kernel_rfl) (by kernel_rfl) g cur.size ?_ l h0 (by omega) (by unfold maxLen at Wk;omega) ?_
  .have nh:w.drew.heap[g]? =some (.cells cur bS (0,0)):=hg
   simp [World.shape?,nh]
  .intro j x hx
   have hj:cur[j]? =some (.int .u8 (x.toNat:Int)):=by
    have:(cur.toList.take (s.n *1))[j]? =some (W.hV x):=by rw [hc4,O1,hx];rfl
    rw [List.getElem?_take] at this
    split at this
    .show cur[j]? =some (W.hV x)
     simpa using this
    .cases this
   exact cellAt (p:=bO g) (show w.drew.heap[g]? =_ from hg) rfl (show cur[0+j]? =_ by rw [Nat.zero_add];exact hj)
 .refine ((Fr.drew _ w).trans (M':=(·∈b::bQ s)) ?_ λ_ _ h=>h)
  have hgm:g∈bQ s:=by unfold bQ;rw [ha];simp
  unfold World.freeze
  split
  .exact Fr.refl _ _
  .exact ⟨rfl,rfl,rfl,by simp,λk hk hm=>by
    simp only [Array.getElem?_modify]
    rw [aI (λe=>hm (by simp [<-e,hgm]))]⟩
def o8 (n:Nat):ByteArray:=if n<10 then ⟨#[UInt8.ofNat (48+n)]⟩ else ⟨#[UInt8.ofNat (48+n / 10),UInt8.ofNat (48+n%10)]⟩
def oR (n:Nat):(o8 n).size<=2:=by
 unfold o8
 split
 .show 1<=2
  omega
 .exact Nat.le_refl 2
def lT (a b:ByteArray):(a++b).size=a.size+b.size:=ByteArray.size_append
abbrev smB:ByteArray:=⟨#[48,48,48,49,48,50,48,51,48,52,48,53,48,54,48,55,48,56,48,57,49,48,49,49,49,50,49,51,49,52,49,53,49,54,49,55,49,56,49,57,50,48,50,49,50,50,50,51,50,52,50,53,50,54,50,55,50,56,50,57,51,48,51,49,51,50,51,51,51,52,51,53,51,54,51,55,51,56,51,57,52,48,52,49,52,50,52,51,52,52,52,53,52,54,52,55,52,56,52,57,53,48,53,49,53,50,53,51,53,52,53,53,53,54,53,55,53,56,53,57,54,48,54,49,54,50,54,51,54,52,54,53,54,54,54,55,54,56,54,57,55,48,55,49,55,50,55,51,55,52,55,53,55,54,55,55,55,56,55,57,56,48,56,49,56,50,56,51,56,52,56,53,56,54,56,55,56,56,56,57,57,48,57,49,57,50,57,51,57,52,57,53,57,54,57,55,57,56,57,57]⟩
abbrev diB:ByteArray:=⟨#[48,49,50,51,52,53,54,55,56,57,97,98,99,100,101,102,103,104,105,106,107,108,109,110,111,112,113,114,115,116,117,118,119,120,121,122]⟩
def Zr:∀n<10,diB.extract n (n+1)=o8 n:=by decide
def Zs:∀n<100,10<=n->smB.extract (n *2) (n *2+2)=o8 n:=by decide
def CC {w:aA} {n:Int} (h0:0<=n) (h1:n<100):aH aB jq #[.i n] w λr w'=>r=aJ (.string (o8 n.toNat))/\bW w w':=by
 obtain ⟨m,rfl⟩:=Int.eq_ofNat_of_zero_le h0
 rw [Int.toNat_natCast]
 have small:aH aB kg #[.i (m:Int)] w λr w'=>r=aJ (.string (o8 m))/\w'=w:=by
  refine internal_strconv_small.ok _ w _ (bA (λh=>?_) (λh=>?_))
  .rw [bP _ (by omega)]
   refine ⟨by omega,?_,by omega,by rw [Int.toNat_natCast];omega,by rw [Int.toNat_natCast,Int.toNat_natCast,Zr m (by omega)],rfl⟩
   show ((m+1:Nat):Int)<=((36:Nat):Int)
   omega
  .have e1:aC .i64 ((m:Int) *2)=((m *2:Nat):Int):=by rw [aS _ (by omega)];omega
   have e2:aC .i64 (((m *2:Nat):Int)+2)=((m *2+2:Nat):Int):=by rw [aS _ (by omega)];omega
   rw [e1,e2]
   refine ⟨by omega,?_,by omega,by rw [Int.toNat_natCast];omega,by rw [Int.toNat_natCast,Int.toNat_natCast,Zs m (by omega) (by omega)],rfl⟩
   show ((m *2+2:Nat):Int)<=((200:Nat):Int)
   omega
 refine strconv_Itoa.ok _ w _ ((internal_strconv_Itoa.ok _ w (λr w'=>r=aJ (.string (o8 m))/\w'=w) ((internal_strconv_FormatInt.ok _ _ w (λr w'=>r=aJ (.string (o8 m))/\w'=w) (bF rfl (bF (aO (by omega)) (bF (aO (by omega)) (small.mono ?_))))).mono ?_)).mono ?_)
 .rintro _ _ ⟨rfl,rfl⟩
  exact ⟨_,rfl,rfl,rfl⟩
 .rintro _ _ ⟨rfl,rfl⟩
  exact ⟨_,rfl,rfl,rfl⟩
 .rintro _ _ ⟨rfl,rfl⟩
  exact ⟨_,rfl,rfl,Fr.refl _ _⟩
def zO (s:iQ):ByteArray:=
 if s.k=0 then (aE #[40,98,118,32]++o8 s.n.toNat)++aE #[41]
 else if s.k=1 then (aE #[40,115,116,114,32]++o8 s.n.toNat)++aE #[41]
 else (((aE #[40,97,114,if s.k=2 then 114 else 115,32]++o8 s.x.toNat)++aE #[32])++o8 s.n.toNat)++aE #[41]
def zS {s:iQ} (h:cI s=true):0<=s.k/\s.k<=3/\0<=s.n/\s.n<100/\0<=s.x/\s.x<100:=by
 unfold cI at h
 simp at h
 omega
def nc {a b:ByteArray} (h:a.size+b.size<=1000000):¬(((a.size+b.size:Nat):Int)>IntKind.i64.max):=by
 show ¬_>(9223372036854775807:Int)
 omega
def z_1 (a:UInt8):(aE #[a]).size=1:=rfl
def z_2 (a b:UInt8):(aE #[a,b]).size=2:=rfl
def z_3 (a b c:UInt8):(aE #[a,b,c]).size=3:=rfl
def z_4 (a b c d:UInt8):(aE #[a,b,c,d]).size=4:=rfl
def z_5 (a b c d e:UInt8):(aE #[a,b,c,d,e]).size=5:=rfl
def KU {w:aA} {s:iQ} (h:cI s=true):aH aB pZ #[kQ s] w λr w'=>r=aJ (.string (zO s))/\bW w w':=by
 obtain ⟨h1,h2,h3,h4,h5,h6⟩:=zS h
 have z1:=oR s.n.toNat
 have z2:=oR s.x.toNat
 refine print_sortText.dQ _ _ _ w _ ((og [] (by simp)).cC λb1 w1 H1=>H1.bH λw2 H2=>H2.bC (CC h3 h4) ?_)
 rintro _ w3 rfl H3
 refine ⟨_,rfl,H3.bC (CC h5 h6) ?_⟩
 rintro _ w4 rfl H4
 refine ⟨_,rfl,aY (λh=>?_) (λh0=>aY (λh=>?_) (λh1=>aY (λh=>?_) (λh2=>?_)))⟩
 all_goals first
  |refine ⟨nc ?_,nc ?_,?_,H4.fr⟩
  |refine ⟨nc ?_,nc ?_,nc ?_,nc ?_,?_,H4.fr⟩
 all_goals first
  |(simp only [lT,z_1,z_2,z_3,z_4,z_5];omega)
  |(unfold zO;simp [*])
def DV (l:List Nat) (k:Int):Nat:=l.getD k.toNat 0
def wq (l:List Nat) (kids:List Int):Nat:=(kids.map (DV l)).sum
def vo (l:List Nat) (kids:List Int):Nat:=(kids.map (DV l)).foldl max 0
def iI (n:Nat):Nat:=min n 65537
def len1 (h:ByteArray) (kids:List Int) (ls:List Nat):Nat:=iI (h.size+kids.length+wq ls kids+if kids=[] then 0 else 1)
def AG (op:Int) (kids:List Int) (ds:List Nat):Nat:=if op=3 then 1 else if kids=[] then 0 else vo ds kids+1
def OF (l:List Nat) (a:List Int) (k:Int):wq l (a++[k])=wq l a+DV l k:=by unfold wq;simp
def N7 (l:List Nat) (a:List Int) (k:Int):vo l (a++[k])=max (vo l a) (DV l k):=by unfold vo;simp
def AV (a b:Nat):iI (iI a+b)=iI (a+b):=by unfold iI;omega
def LK (n:Nat):(if (65537:Int)<(n:Int) then 65537 else (n:Int))=((iI n:Nat):Int):=by
 unfold iI
 split<;>omega
def xd (n:Nat):iI n<=65537:=Nat.min_le_right _ _
def Lt {l:List Nat} {k:Int} {i n:Nat} (hk:k=(i:Int)) (h:l[i]? =some n):DV l k=n:=by
 subst hk
 unfold DV
 rw [Int.toNat_natCast,List.getD_eq_getElem?_getD,h]
 rfl
def J3 {l:List Nat} {m:Nat} (h:∀x∈l,x<=m) (k:Int):DV l k<=m:=by
 unfold DV
 rw [List.getD_eq_getElem?_getD]
 cases hg:l[k.toNat]? with
 |none=>exact Nat.zero_le _
 |some x=>exact h x (dI hg)
def Mo {l:List Nat} {m:Nat} (h:∀x∈l,x<=m) (kids:List Int):vo l kids<=m:=by
 unfold vo
 have:∀(ks:List Int) (a:Nat),a<=m->(ks.map (DV l)).foldl max a<=m:=by
  intro ks
  induction ks with
  |nil=>intro a ha;exact ha
  |cons k ks ih=>intro a ha;exact ih _ (Nat.max_le.2 ⟨ha,J3 h k⟩)
 exact this kids 0 (Nat.zero_le _)
abbrev iO (n:Nat):aD:=.int .i64 (n:Int)
abbrev Pk (b:Nat) (g sh sl sd:Sl) (m:Option Nat) (sr:Sl) (hs:List ByteArray) (ls ds:List Nat):List En:=
 [.c b [g.v,sh.v,sl.v,sd.v,.map m,sr.v] cO,.row cG 1 sh (hs.map Value.string),.row cT 1 sl (ls.map iO),.row cT 1 sd (ds.map iO)]
def ql (w:aA) (b:Nat) (g:Sl) (hs:List ByteArray) (ls ds:List Nat) (own:List Nat):Prop:=∃(sh sl sd:Sl) (m:Option Nat) (sr:Sl),own=(Pk b g sh sl sd m sr hs ls ds).flatMap (·.fp)/\own.Nodup/\∀e∈Pk b g sh sl sd m sr hs ls ds,e.P w
def Nh (w:aA) (b:Nat) (g:Sl) (own:List Nat) (hs:List ByteArray) (ls ds:List Nat) (w':aA):Prop:=∃fF,ql w' b g hs ls ds fF/\Fr (·∈own) w w'/\∀x∈fF,x∈own\/w.heap.size<=x
def ql.open {w:aA} {b:Nat} {g:Sl} {hs:List ByteArray} {ls ds:List Nat} {own:List Nat} (h:ql w b g hs ls ds own) (D:List En) (hD:∀e∈D,e.P w/\∀b∈e.fp,b∉own):
  ∃(sh sl sd:Sl) (m:Option Nat) (sr:Sl),LH (·∈own) w w (Pk b g sh sl sd m sr hs ls ds) D:=by
 obtain ⟨sh,sl,sd,m,sr,ho,hn,hP⟩:=h
 have vk:∀e∈Pk b g sh sl sd m sr hs ls ds,∀x∈e.fp,x∈own:=λe he b hb=>by rw [ho];exact nG.2 ⟨e,he,hb⟩
 exact ⟨sh,sl,sd,m,sr,LH.uf _ _ (λe he=>⟨hP e he,vk e he⟩) (ho▸hn) (λe he=>⟨(hD e he).1,λb hb e' lM hm=>(hD e he).2 b hb (vk e' lM b hm)⟩)⟩
def ql.close {w w':aA} {b:Nat} {g:Sl} {hs:List ByteArray} {ls ds:List Nat} {own:List Nat} {sh sl sd:Sl} {m:Option Nat} {sr:Sl} {D:List En} (H:LH (·∈own) w w' (Pk b g sh sl sd m sr hs ls ds) D):Nh w b g own hs ls ds w':=
 ⟨_,⟨sh,sl,sd,m,sr,rfl,H.nd,H.own⟩,H.fr,λx hx=>by
  obtain ⟨e,he,hb⟩:=nG.1 hx
  exact (H.new e he x hb).symm⟩
def sQ {w:aA} {e:aP} {s:Sl} {vs:List aD} (h:bD w e 1 s vs) {X:Int} {i:Nat} (hX:X=(i:Int)) {v:aD} (hi:vs[i]? =some v) {K:Addr->Prop} (hk:∀p,s.a=some p->w.cell? (p.add (aF X *1))=some v->K p):
  bY s X K:=by
 have hn:=h.len
 have hl:=(nY.1 hi).1
 subst hX
 exact ⟨by omega,by omega,Rd.get h.rd1 (i:=i) (v:=v) hi (by simp) hk⟩
section
variable {M:Nat->Prop} {w0 w:aA} {L D:List En} {bs:List Nat}
def Mm {w:aA} {c:Nat} {vs:List aD} (hc:w.heap[c]? =some (.cells vs.toArray ng (0,0))) {k a n:Nat} (hk:k<4) (hv:vs[k]? =some (iO a)) (ha:a<=100000) (hn:n<=1000000):
  aH aB dC #[.i (k:Int),.i (n:Int),.pointer (some (bO c))] w λr w'=>r=aJ (.tuple #[])/\w'.heap[c]? =some (.cells (vs.set k (iO (iI (a+n)))).toArray ng (0,0))/\Fr (·=c) w w':=by
 have hx:w.cell? ((bO c).add (aF (k:Int) *1))=some (iO a):=by
  rw [Int.toNat_natCast,Nat.mul_one]
  exact cellAt (p:=bO c) hc rfl (by simpa using hv)
 have e:aC .i64 ((a:Int)+(n:Int))=((a+n:Nat):Int):=by rw [aS _ (by omega)];omega
 obtain ⟨x1,x2,x3,x4⟩:=I7 hc k (by simpa using (nY.1 hv).1) (iO (iI (a+n)))
 refine print_printer_measure_1.ok _ _ _ w _ ⟨by omega,by omega,a,hx,print_capped.ok _ w _ ⟨_,rfl,by omega,by omega,?_⟩⟩
 rw [e,LK,Int.toNat_natCast,Nat.mul_one]
 exact ⟨x1,x2,rfl,by simpa using x3,x4.mono λx _ hx=>by simpa [En.ob] using hx⟩
def _root_.Go.W.LH.cnt (H:LH M w0 w L D) (i:Nat) {c:Nat} {vs:List aD} (hi:L[i]? =some (.c c vs ng)) {k a n:Nat} (hk:k<4) (hv:vs[k]? =some (iO a)) (ha:a<=100000) (hn:n<=1000000) {K:aT}
  (hK:∀w',LH M w0 w' (L.set i (.c c (vs.set k (iO (iI (a+n)))) ng)) D->K (aJ (.tuple #[])) w'):aH aB dC #[.i (k:Int),.i (n:Int),.pointer (some (bO c))] w K:=
 (Mm (H.ob i hi) hk hv ha hn).mono λr w' ⟨hr,h,f⟩=>by
  subst hr
  exact hK w' (H.CX i _ hi (f.mono λx _ e=>by simp [En.ob,e]) h λb hb=>.inl hb)
def _root_.Go.W.LH.acd (H:LH M w0 w L D) (i:Nat) {c:Nat} {vs:List aD} (hi:L[i]? =some (.c c vs ng)) {k a n:Nat} (hk:k<4) (hv:vs[k]? =some (iO a)) (ha:a<=100000) (hn:n<=1000000) {K:aT}
  (hK:∀w',LH M w0 w' (L.set i (.c c (vs.set k (iO (iI (a+n)))) ng)) D->K (aJ (.tuple #[])) w') (kS:∀b∈bs,En.g b∈L:=by simp):fZ bs aB dC #[.i (k:Int),.i (n:Int),.pointer (some (bO c))] w K:=
 ⟨(·=c),λb hb hm=>lW H hi (D1 w c vs ng) (kS b hb) (by simp [En.ob,hm]),(Mm (H.ob i hi) hk hv ha hn).mono λr w' ⟨hr,h,f⟩=>by
  subst hr
  exact ⟨f,hK w' (H.CX i _ hi (f.mono λx _ e=>by simp [En.ob,e]) h λb hb=>.inl hb)⟩⟩
end
def Jd {w:aA} {p:Addr} {v:aD} {K:aA->Prop} (h:cY w p v λw1=>kept [] w w1/\K w1):cY w p v K:=⟨h.1,h.2.1,h.2.2.2⟩
section
variable {w w2:aA} {own:List Nat} {b c i:Nat} {g sh sl sd sr:Sl} {m:Option Nat} {hs:List ByteArray} {ls ds:List Nat} {D:List En}
def It {M:Nat->Prop} {w0:aA} {L:List En} {bs:List Nat} (H:LH M w0 w2 L D) (j:Nat) {s:Sl} {l:List Nat} (hj:L[j]? =some (.row cT 1 s (l.map iO))) (hi:i<l.length) {n:Nat} {K:aA->Prop}
  (hK:∀w',LH M w0 w' (L.set j (.row cT 1 s ((l.set i n).map iO))) D->K w') (kS:∀b∈bs,En.g b∈L:=by simp):bY s (i:Int) λp=>cY w2 (p.add (aF (i:Int) *1)) (iO n) λw'=>kept bs w2 w'/\K w':=by
 refine sQ (H.get j hj) rfl (v:=iO l[i]) (by simp [hi]) λp hp hc=>?_
 rw [Int.toNat_natCast,Nat.mul_one]
 refine H.OB j i hj hp (by simpa using hi) (λw' H'=>hK w' ?_) kS
 rw [List.map_set]
 exact H'
def Mn {M:Nat->Prop} {w0:aA} {L:List En} (H:LH M w0 w2 L D) (j:Nat) {s:Sl} {l:List Nat} (hj:L[j]? =some (.row cT 1 s (l.map iO))) (hi:i<l.length) {n:Nat} {K:aA->Prop}
  (hK:∀w',LH M w0 w' (L.set j (.row cT 1 s ((l.set i n).map iO))) D->K w'):bY s (i:Int) λp=>cY w2 (p.add (aF (i:Int) *1)) (iO n) K:=by
 obtain ⟨h1,h2,h3⟩:=It (bs:=[]) H j hj hi hK (by simp)
 exact ⟨h1,h2,by
  cases hs:s.a with
  |none=>rw [hs] at h3;exact h3
  |some p=>rw [hs] at h3;exact Jd h3⟩
def Rm {b5 a0 a1 a2 a3:Nat} (H:LH (·∈own) w w2 (Pk b g sh sl sd m sr hs ls ds++[.g b5]++[.c c [iO a0,iO a1,iO a2,iO a3] ng]) D) (hi:i<ls.length) (h0:a0<=65537) (h1:a1<=65537) (h2:a2<=65537) (h3:a3<=65537):
  print_printer_measure.eX (bO b) (i:Int) (bO c) w2 λr w'=>r=aJ (.tuple #[])/\Nh w b g own hs (ls.set i (iI (a0+a1+a2+a3))) ds w':=by
 have e:∀x y:Nat,x<=65537->y<=65537->aC .i64 ((x:Int)+(y:Int))=((x+y:Nat):Int):=λx y hx hy=>by rw [aS _ (by omega)];omega
 have n:∀k:Nat,k<10->aC .i64 ((k:Int)+1)=((k+1:Nat):Int):=λk hk=>bP k (by omega)
 have step:∀(k s a:Nat) (K:aT),k<4->s<=65537->a<=65537->(#[iO a0,iO a1,iO a2,iO a3]:Array aD)[k]? =some (iO a)->
   print_printer_measure.mC (bO b) (i:Int) ((iI (s+a):Nat):Int) a0 a1 a2 a3 ((k+1:Nat):Int) w2 K->print_printer_measure.mC (bO b) (i:Int) (s:Int) a0 a1 a2 a3 (k:Int) w2 K:=by
  intro k s a K hk hs ha hg hn
  refine print_printer_measure.dR _ _ _ _ _ _ _ _ _ _ (bF (aO (by omega)) ⟨by omega,by omega,a,by rw [Int.toNat_natCast];exact hg,print_capped.ok _ _ _ ⟨_,rfl,?_⟩⟩)
  rw [e s a hs ha,LK,n k (by omega)]
  exact hn
 have hc:=λx=>xd x
 refine ⟨a0,a1,a2,a3,H.ld 5 0,H.ld 5 1,H.ld 5 2,H.ld 5 3,?_⟩
 refine step 0 0 a0 _ (by omega) (by omega) h0 rfl (step 1 _ a1 _ (by omega) (hc _) h1 rfl (step 2 _ a2 _ (by omega) (hc _) h2 rfl (step 3 _ a3 _ (by omega) (hc _) h3 rfl ?_)))
 have hz:iI (iI (iI (iI (0+a0)+a1)+a2)+a3)=iI (a0+a1+a2+a3):=by
  rw [AV,AV,show 0+a0=a0 by omega]
  unfold iI
  omega
 rw [hz]
 refine print_printer_measure.dR _ _ _ _ _ _ _ _ _ _ (aX (aK (by omega)) ⟨sl,H.ld 0 2,Mn H 2 rfl hi λw3 H3=>⟨rfl,?_⟩⟩)
 exact ql.close (H3.take 4)
def YX {b5 h:Nat} {d:Nd} (hh:h<=65537) (hi:i<ls.length) (hdi:i<ds.length) (hk:∀k∈d.x.kids,0<=k/\k<(ls.length:Int)) (hdl:ds.length=ls.length) (NT:d.x.kids.length<=1000) (hls:∀x∈ls,x<=65537) (hds:∀x∈ds,x<=1000000):
  ∀(r pre:List Int) (w2:aA),d.x.kids=pre++r->LH (·∈own) w w2 (Pk b g sh sl sd m sr hs ls ds++[.g b5]++[.c c [iO h,iO (iI pre.length),iO (iI (wq ls pre)),iO 0] ng]) [fV d]->
   print_printer_measure.OR (bO b) (i:Int) (bO c) (bO c) ((vo ds pre:Nat):Int) d.ks ((d.ks.n:Nat):Int) ((pre.length:Nat):Int) w2 λr w'=>r=aJ (.tuple #[])/\Nh w b g own hs (ls.set i (iI (h+iI d.x.kids.length+iI (wq ls d.x.kids)+1))) (ds.set i (vo ds d.x.kids+1)) w':=by
 intro r
 induction r with
 |nil=>
  intro pre w2 hp H
  rw [uL] at hp
  subst hp
  have hn:d.ks.n=d.x.kids.length:=by have h0:(fV d).P w2:=H.getD 0;simpa using h0.1
  have hm:=Mo hds d.x.kids
  refine print_printer_measure.uP _ _ _ _ _ _ _ _ _ _ (aX (aK (by omega)) (H.cnt (k:=3) (a:=0) (n:=1) 5 rfl (by omega) rfl (by omega) (by omega) λw3 H3=>⟨rfl,sd,H3.ld 0 3,?_⟩))
  have e:aC .i64 (((vo ds d.x.kids:Nat):Int)+1)=((vo ds d.x.kids+1:Nat):Int):=bP _ (by omega)
  rw [e]
  refine Mn H3 3 rfl hdi λw4 H4=>?_
  have c1:=xd d.x.kids.length
  have c2:=xd (wq ls d.x.kids)
  exact Rm (a3:=iI (0+1)) H4 hi hh c1 c2 (by decide)
 |cons k r ih=>
  intro pre w2 hp H
  have hn:d.ks.n=d.x.kids.length:=by have h0:(fV d).P w2:=H.getD 0;simpa using h0.1
  have hg:d.x.kids[pre.length]? =some k:=by rw [hp];simp
  have QU:pre.length<d.x.kids.length:=(nY.1 hg).1
  obtain ⟨k0,k1⟩:=hk k (dI hg)
  obtain ⟨j,rfl⟩:=Int.eq_ofNat_of_zero_le k0
  have hj1:ls[j]? =some (DV ls (j:Int)):=by
   have h:=ie (l:=ls) (i:=j) (by omega)
   rw [Lt rfl h];exact h
  have Uf:ds[j]? =some (DV ds (j:Int)):=by
   have h:=ie (l:=ds) (i:=j) (by omega)
   rw [Lt rfl h];exact h
  have b1:=J3 hls (j:Int)
  have b2:=J3 hds (j:Int)
  have c1:=xd pre.length
  have c2:=xd (wq ls pre)
  refine print_printer_measure.uP _ _ _ _ _ _ _ _ _ _ (bF (aO (by omega)) ⟨by omega,by omega,hU.cell (H.getD 0) hg (by simp) λp JH hc=>⟨_,hc,H.cnt (k:=1) (n:=1) 5 rfl (by omega) rfl (by omega) (by omega) λw3 H3=>⟨rfl,sl,H3.ld 0 2,sQ (H3.get 2) rfl (v:=iO (DV ls (j:Int))) (by simp [hj1]) λp2 _ Wk=>⟨_,Wk,H3.cnt (k:=2) 5 rfl (by omega) rfl (by omega) (by omega) λw4 H4=>⟨rfl,sd,H4.ld 0 3,sQ (H4.get 3) rfl (v:=iO (DV ds (j:Int))) (by simp [Uf]) λp3 _ hc3=>⟨_,hc3,?_⟩⟩⟩⟩⟩⟩)
  have em:(if ((vo ds pre:Nat):Int)<((DV ds (j:Int):Nat):Int) then ((DV ds (j:Int):Nat):Int) else ((vo ds pre:Nat):Int))=((vo ds (pre++[(j:Int)]):Nat):Int):=by
   rw [N7]
   split<;>omega
  rw [em]
  show print_printer_measure.OR _ _ _ _ _ _ _ (aC .i64 (((pre.length:Nat):Int)+1)) _ _
  rw [bP _ (by omega)]
  have:=ih (pre++[(j:Int)]) w4 (by rw [hp];simp) (by
   rw [OF,nE,<-AV (wq ls pre),<-AV pre.length]
   exact H4)
  rw [nE] at this
  exact this
def Ns {t:ByteArray} {d:Nd} (h:ql w b g hs ls ds own) (hd:d.P w) (YI:∀x∈(fV d).fp,x∉own) (hk:∀k∈d.x.kids,0<=k/\k<(ls.length:Int)) (hi:hs[i]? =some t) (hl:ls.length=hs.length) (hdl:ds.length=hs.length) (hd0:ds[i]? =some 0)
  (h3:d.x.op=3->d.x.kids=[]) (ht:t.size<=1000000) (NT:d.x.kids.length<=1000) (hls:∀x∈ls,x<=65537) (hds:∀x∈ds,x<=1000000):
  aH aB kJ #[.pointer (some (bO b)),.i (i:Int),d.v] w λr w'=>r=aJ (.tuple #[])/\Nh w b g own hs (ls.set i (len1 t d.x.kids ls)) (ds.set i (AG d.x.op d.x.kids ds)) w':=by
 have Yz:i<hs.length:=(nY.1 hi).1
 have hn:d.ks.n=d.x.kids.length:=by simpa using hd.1
 obtain ⟨sh,sl,sd,m,sr,H⟩:=h.open [fV d] (by
  intro e he
  simp only [dT,gL,or_false] at he
  subst he
  exact ⟨hd,YI⟩)
 refine print_printer_measure.dQ _ _ _ _ _ _ _ _ _ _ _ w _ (H.cC λb5 w1 H1=>H1.nw λw2 JJ H2=>⟨sh,H2.ld 0 1,sQ (H2.get 1) rfl (v:=.string t) (by simp [hi]) λp hp hc=>⟨t,hc,H2.acd (k:=0) (a:=0) (n:=t.size) 5 rfl (by omega) rfl (by omega) ht λw3 H3=>⟨rfl,?_⟩⟩⟩)
 have H3:LH (·∈own) w w3 (Pk b g sh sl sd m sr hs ls ds++[.g b5]++[.c w1.heap.size [iO (iI t.size),iO 0,iO 0,iO 0] ng]) [fV d]:=by
  have e:0+t.size=t.size:=by omega
  rw [e] at H3
  exact H3
 have hcs:=xd t.size
 have same:ds.set i 0=ds:=by
  have e0:ds[i]'(by omega)=0:=by
   have:=ie (l:=ds) (i:=i) (by omega)
   rw [this] at hd0
   simpa using hd0
  conv=>lhs;rw [<-e0]
  exact List.set_getElem_self _
 show aW (d.x.op==3) _ _
 refine aY (λh=>?_) (λh=>bA (λhp=>?_) (λhp=>?_))
 .have vU:=h3 h
  refine ⟨sd,H3.ld 0 3,It H3 3 rfl (n:=1) (by omega) λw4 H4=>?_⟩
  have:=Rm (i:=i) (ds:=ds.set i 1) H4 (by omega) hcs (by omega) (by omega) (by omega)
  rw [show iI (iI t.size+0+0+0)=len1 t d.x.kids ls by unfold len1 wq;rw [vU];unfold iI;simp] at this
  rw [show AG d.x.op d.x.kids ds=1 by unfold AG;rw [aN h]]
  exact this
 .have vU:d.x.kids≠[]:=λe=>by rw [e] at hn;simp at hn;omega
  have:=YX (h:=iI t.size) hcs (i:=i) (by omega) (by omega) hk (by omega) NT hls hds d.x.kids [] w3 rfl H3
  rw [show iI (iI t.size+iI d.x.kids.length+iI (wq ls d.x.kids)+1)=len1 t d.x.kids ls by unfold len1;rw [aI vU];unfold iI;omega] at this
  rw [show AG d.x.op d.x.kids ds=vo ds d.x.kids+1 by unfold AG;rw [aI h,aI vU]]
  exact this
 .have vU:d.x.kids=[]:=Zi (by omega)
  have:=Rm (i:=i) H3 (by omega) hcs (by omega) (by omega) (by omega)
  rw [show iI (iI t.size+0+0+0)=len1 t d.x.kids ls by unfold len1 wq;rw [vU];unfold iI;simp] at this
  rw [show AG d.x.op d.x.kids ds=0 by unfold AG;rw [aI h,aN vU],same]
  exact this
end
def Qn:jb aB nK cG (.string (aE #[])) 1 16:=⟨by kernel_rfl,by kernel_rfl,rfl,by decide,by decide⟩
def WO:List (Op×Option Nat×aP×List Nat):=[
 (.load cM (.tmp 1),some 11,cM,[]),
 (.move (.tmp 3),some 12,cT,[]),
 (.makeSlice nK (.tmp 12) (.tmp 12),some 13,nK,[1,1]),
 (.move (.tmp 3),some 14,cT,[]),
 (.makeSlice jj (.tmp 14) (.tmp 14),some 15,jj,[3,3]),
 (.move (.tmp 3),some 16,cT,[]),
 (.makeSlice jj (.tmp 16) (.tmp 16),some 17,jj,[5,5]),
 (.makeMap rO none,some 18,rO,[]),
 (.move (.tmp 3),some 19,cT,[]),
 (.makeSlice xI (.tmp 19) (.tmp 19),some 20,xI,[8,8]),
 (.build cO #[(0,.tmp 11),(1,.tmp 13),(2,.tmp 15),(3,.tmp 17),(4,.tmp 18),(5,.tmp 20)],some 21,cO,[0,2,4,6,7,9]),
 (.box cO (.tmp 21),some 22,rP,[10]),
 (.assign (.tmp 22),some 4,rP,[11,0,1,2,3,4,5,6,7,8,9,10,11])]
section
variable {P:aQ} {K:Env->aA->Prop} {E:Env} {w:aA}
def Vs {o:Oper} {T:aP} {t:Nat} {n:Int} (ho:o.op=.makeSlice T (.tmp t) (.tmp t)) (ht:E.get? t=some (.i n)) {s:Sl} {w':aA} (hr:(Instr.makeSlice T (.i n) (.i n)).run P w=.ok s.v w') (h:K (E.put o.dst s.v) w'):oq P o E w K:=by
 obtain ⟨dst,op,ty,pos,after,guard⟩:=o
 simp only at ho
 subst ho
 show (match E.val (.tmp t),E.val (.tmp t) with |some l,some c=>HD P (Instr.makeSlice T l c) (.slice none 0 0) w (λv w'=>K (E.put dst v) w')|_,_=>False)
 rw [show E.val (.tmp t)=some (.i n) from ht]
 exact ⟨s,w',hr,h⟩
def ZA {o:Oper} {T:aP} {t:Nat} {cs:Array aD} (ho:o.op=.box T (.tmp t)) (ht:E.get? t=some (.agg cs)) (h:K (E.put o.dst (.pointer (some (bO w.heap.size)))) (w.alloc (.cells cs T))):oq P o E w K:=by
 obtain ⟨dst,op,ty,pos,after,guard⟩:=o
 simp only at ho
 subst ho
 have hv:E.val (.tmp t)=some (.agg cs):=ht
 have hc:E.fT ⟨dst,.box T (.tmp t),ty,pos,after,guard⟩=true:=by simp [Env.fT,Op.operands,hv]
 have ev:E.ev (.tmp t)=.agg cs:=by simp [Env.ev,hv]
 have he:vc P ⟨dst,.box T (.tmp t),ty,pos,after,guard⟩ E w (λv w'=>K (E.put dst v) w'):=by
  unfold vc
  rw [hc]
  show (match (execOp E.ev ⟨dst,.box T (.tmp t),ty,pos,after,guard⟩).run P w with |.ok (.value v) w'=>K (E.put dst v) w'|.ok .skip w'=>K (E.put dst undef) w'|_=>False)
  have:(execOp E.ev ⟨dst,.box T (.tmp t),ty,pos,after,guard⟩).run P w=.ok (.value (.pointer (some (bO w.heap.size)))) (w.alloc (.cells cs T)):=by
   show (do pure (Next.value (<-Instr.box T (E.ev (.tmp t)))):Sem _).run P w=_
   rw [ev]
   rfl
  rw [this]
  exact h
 unfold oq
 simp only [calm,cond_false]
 unfold nO
 exact he
end
def Zz {K:Env->aA->Prop} {E:Env} {w:aA} {o:Oper} (ho:o.op=.build cO #[(0,.tmp 11),(1,.tmp 13),(2,.tmp 15),(3,.tmp 17),(4,.tmp 18),(5,.tmp 20)]) {g a b c d:Sl} {m:Option Nat}
  (h0:E.get? 11=some (.agg #[g.v])) (h1:E.get? 13=some a.v) (h2:E.get? 15=some b.v) (h3:E.get? 17=some c.v) (h4:E.get? 18=some (.map m)) (h5:E.get? 20=some d.v) (h:K (E.put o.dst (.agg #[g.v,a.v,b.v,c.v,.map m,d.v])) w):oq aB o E w K:=by
 obtain ⟨dst,op,ty,pos,after,guard⟩:=o
 simp only at ho
 subst ho
 show iU aB _ E (λv _=>K (E.put dst v) w)
 unfold iU
 have hc:E.fT ⟨dst,.build cO #[(0,.tmp 11),(1,.tmp 13),(2,.tmp 15),(3,.tmp 17),(4,.tmp 18),(5,.tmp 20)],ty,pos,after,guard⟩=true:=by simp [Env.fT,Op.operands,Env.val,h0,h1,h2,h3,h4,h5]
 rw [hc]
 have e:∀{t:Nat} {v:aD},E.get? t=some v->E.ev (.tmp t)=v:=λh=>by simp [Env.ev,Env.val,h]
 have hr:rh aB (execOp E.ev ⟨dst,.build cO #[(0,.tmp 11),(1,.tmp 13),(2,.tmp 15),(3,.tmp 17),(4,.tmp 18),(5,.tmp 20)],ty,pos,after,guard⟩)=some (Next.value (.agg #[g.v,a.v,b.v,c.v,.map m,d.v])):=by
  show rh aB (do pure (Next.value (<-Instr.build cO (#[(0,.tmp 11),(1,.tmp 13),(2,.tmp 15),(3,.tmp 17),(4,.tmp 18),(5,.tmp 20)].map λ(i,x)=>(i,E.ev x)))))=_
  simp only [List.map_toArray,AK,List.map_nil,e h0,e h1,e h2,e h3,e h4,e h5]
  kernel_rfl
 rw [hr]
 exact h
def Ds (n:Nat) (f:Nat->Nat) (i:Nat):Sl:=⟨some (bO (f i)),n,n⟩
def te (n:Nat) (f:Nat->Nat) (i:Nat):En:=
 if i=2 then .row cG 1 (Ds n f i) ((List.replicate n (aE #[])).map Value.string) else if i=4\/i=6 then .row cT 1 (Ds n f i) ((List.replicate n 0).map iO)
 else if i=7 then .ob (f i) (.map #[] 0) else aal (Ds n f i) (List.replicate n false)
def DI (n:Nat) (f:Nat->Nat) (i:Nat):aD:=if i=7 then .map (some (f i)) else (Ds n f i).v
def zw (i:Nat):Nat:=if i=2 then 13 else if i=4 then 15 else if i=6 then 17 else if i=7 then 18 else 20
abbrev vp:List Nat:=[2,4,6,7,9]
abbrev yx (g:Sl) (n:Nat) (f:Nat->Nat):List aD:=[g.v,(Ds n f 2).v,(Ds n f 4).v,(Ds n f 6).v,.map (some (f 7)),(Ds n f 9).v]
def nT (b1:Nat) (g:Sl) (n:Nat):List (Nat×Nat×aD):=[(0,1,ptr b1),(0,3,iO n),(1,11,.agg #[g.v]),(2,12,iO n),(4,14,iO n),(6,16,iO n),(9,19,iO n)]
def FT {j:Nat} (h:j∈vp):zw j∈[13,15,17,18,20]:=by
 simp at h
 rcases h with rfl|rfl|rfl|rfl|rfl<;>simp [zw]
def Rq {i j:Nat} (hi:i∈vp) (hj:j∈vp) (h:zw i=zw j):i=j:=by
 simp at hi hj
 rcases hi with rfl|rfl|rfl|rfl|rfl<;>rcases hj with rfl|rfl|rfl|rfl|rfl<;>first |rfl|(simp [zw] at h)
structure NJ (w0:aA) (b1:Nat) (g:Sl) (n:Nat) (D:List En) (L:Nat->Bool) (E:Env) (w:aA):Prop where
 st:uO (nT b1 g n) L E
 hp:∃(f:Nat->Nat) (od:List Nat) (X:List En),od.Nodup/\(∀i,i∈od↔i∈vp/\L i=true)/\(∀i∈od,E.get? (zw i)=some (DI n f i))/\LH F0 w0 w (.c b1 [g.v] cM::(od.map (te n f)++X)) D/\
  (L 10=true->(∀i∈vp,L i=true)/\E.get? 21=some (.agg (yx g n f).toArray))/\
  (L 11=true->L 10=true/\∃b,X=[.c b (yx g n f) cO]/\E.get? 22=some (ptr b)/\(L 12=true->E.get? 4=some (ptr b)))/\(L 12=true->L 11=true)/\(L 11=false->X=[])
section
variable {w0 w:aA} {b1 n:Nat} {g:Sl} {D:List En} {L:Nat->Bool} {E:Env}
def NJ.stat (h:NJ w0 b1 g n D L E w) {i d:Nat} {v:aD} (hf1:∀q∈nT b1 g n,q.1=i+1->q=(i+1,d,v)) (Z':∀q∈nT b1 g n,q.2.1=d->q.1=i+1) (hi:i=0\/i=1\/i=3\/i=5\/i=8) (hd:d=11\/d=12\/d=14\/d=16\/d=19):NJ w0 b1 g n D (iB L i) (E.put (some d) v) w:=by
 obtain ⟨f,od,X,h1,h2,h3,h4,h5,h6,h7,h8⟩:=h.hp
 have nb:∀j:Nat,j∈[2,4,6,7,9,10,11,12]->iB L i j=L j:=λj hj=>dX (by simp at hj;omega)
 have np:∀t:Nat,t∈[13,15,17,18,20,21,22,4]->(E.put (some d) v).get? t=E.get? t:=λt ht=>dS (by simp at ht;omega)
 refine ⟨h.st.fill hf1 Z',f,od,X,h1,λj=>?_,λj hj=>?_,h4,λh=>?_,λh=>?_,λh=>?_,λh=>?_⟩
 .rw [h2]
  constructor
  .rintro ⟨a,b⟩
   exact ⟨a,by rw [nb j (by simp at a ⊢;omega)];exact b⟩
  .rintro ⟨a,b⟩
   exact ⟨a,by rw [nb j (by simp at a ⊢;omega)] at b;exact b⟩
 .have hm:=((h2 j).1 hj).1
  rw [np _ (by have:=FT hm;simp at this ⊢;omega)]
  exact h3 j hj
 .rw [nb 10 (by simp)] at h
  rw [np 21 (by simp)]
  exact ⟨λj hj=>by rw [nb j (by simp at hj ⊢;omega)];exact (h5 h).1 j hj,(h5 h).2⟩
 .rw [nb 11 (by simp)] at h
  rw [nb 10 (by simp),nb 12 (by simp),np 22 (by simp),np 4 (by simp)]
  exact h6 h
 .rw [nb 12 (by simp)] at h
  rw [nb 11 (by simp)]
  exact h7 h
 .rw [nb 11 (by simp)] at h
  exact h8 h
def NJ.alloc (h:NJ w0 b1 g n D L E w) {i:Nat} (hi:i∈vp) (hL:L i=false) {w':aA} (hw:bW w w') (hP:∀f,f i=w.heap.size->(te n f i).P w'/\∀b∈(te n f i).fp,w.heap.size<=b) {v:aD} (hv:∀f,f i=w.heap.size->v=DI n f i) {d:Nat} (hd:d=zw i):
  NJ w0 b1 g n D (iB L i) (E.put (some d) v) w':=by
 subst hd
 obtain ⟨f,od,X,h1,h2,h3,h4,h5,h6,h7,h8⟩:=h.hp
 have tz:i∉od:=λhm=>by rw [((h2 i).1 hm).2] at hL;cases hL
 have vk:i=2\/i=4\/i=6\/i=7\/i=9:=by simpa using hi
 have hdn:=FT hi
 have nb:∀j:Nat,j≠i->iB L i j=L j:=λj hj=>dX hj
 have np:∀t:Nat,t≠zw i->(E.put (some (zw i)) v).get? t=E.get? t:=λt ht=>dS λe=>ht e.symm
 have ff:∀j,j≠i->(λj=>if j=i then w.heap.size else f j) j=f j:=λj hj=>aI hj
 have fi:(λj=>if j=i then w.heap.size else f j) i=w.heap.size:=aN rfl
 have enE:∀j,j≠i->te n (λj=>if j=i then w.heap.size else f j) j=te n f j:=λj hj=>by unfold te Ds;rw [ff j hj]
 have enV:∀j,j≠i->DI n (λj=>if j=i then w.heap.size else f j) j=DI n f j:=λj hj=>by unfold DI Ds;rw [ff j hj]
 have YF:L 10=false:=by
  cases yo:L 10 with
  |false=>rfl
  |true=>rw [(h5 yo).1 i hi] at hL;cases hL
 have aaQ:L 11=false:=by
  cases Ab:L 11 with
  |false=>rfl
  |true=>rw [(h6 Ab).1] at YF;cases YF
 have hX:=h8 aaQ
 subst hX
 refine ⟨h.st.pass (λq hq=>?_) (λq hq=>?_),λj=>if j=i then w.heap.size else f j,od++[i],[],?_,λj=>?_,λj hj=>?_,?_,λh=>?_,λh=>?_,λh=>?_,λ_=>rfl⟩
 .simp only [nT,dT,gL,or_false] at hq
  rcases hq with rfl|rfl|rfl|rfl|rfl|rfl|rfl<;>simp only<;>omega
 .simp at hdn
  simp only [nT,dT,gL,or_false] at hq
  rcases hq with rfl|rfl|rfl|rfl|rfl|rfl|rfl<;>simp only [ne_eq,Option.some.injEq]<;>omega
 .rw [zH]
  exact ⟨h1,by simp,λa ha b hb=>by simp at hb;subst hb;exact λe=>tz (e▸ha)⟩
 .rw [gg,IW]
  constructor
  .rintro (hj|rfl)
   .obtain ⟨a,b⟩:=(h2 j).1 hj
    refine ⟨a,?_⟩
    rw [nb j (λe=>tz (e▸hj)),b]
   .exact ⟨hi,yP⟩
  .rintro ⟨a,b⟩
   by_cases GH:j=i
   .exact .inr GH
   .rw [nb j GH] at b
    exact .inl ((h2 j).2 ⟨a,b⟩)
 .rcases gg.1 hj with hj|hj
  .have GH:j≠i:=λe=>tz (e▸hj)
   rw [np _ (λe=>GH (Rq ((h2 j).1 hj).1 hi e)),enV j GH]
   exact h3 j hj
  .simp at hj
   subst hj
   rw [qg,hv (λk=>if k=j then w.heap.size else f k) fi]
 .obtain ⟨p1,p2⟩:=hP (λj=>if j=i then w.heap.size else f j) fi
  have hm:(od++[i]).map (te n (λj=>if j=i then w.heap.size else f j))=od.map (te n f)++[te n (λj=>if j=i then w.heap.size else f j) i]:=by
   rw [sP,List.map_singleton]
   congr 1
   exact List.map_congr_left λj hj=>enE j λe=>tz (e▸hj)
  rw [hm,uL]
  rw [uL] at h4
  exact h4.push _ hw p1 p2
 .rw [nb 10 (by omega)] at h
  rw [YF] at h;cases h
 .rw [nb 11 (by omega)] at h
  rw [aaQ] at h;cases h
 .rw [nb 12 (by omega)] at h
  rw [nb 11 (by omega)]
  exact h7 h
def NJ.held (h:NJ w0 b1 g n D L E w) {i d:Nat} {v:aD} (hi:i=10\/i=11\/i=12) (hd:d=21\/d=22\/d=4):uO (nT b1 g n) (iB L i) (E.put (some d) v):=by
 refine h.st.pass (λq hq=>?_) (λq hq=>?_)
 .simp only [nT,dT,gL,or_false] at hq
  rcases hq with rfl|rfl|rfl|rfl|rfl|rfl|rfl<;>simp only<;>omega
 .simp only [nT,dT,gL,or_false] at hq
  rcases hq with rfl|rfl|rfl|rfl|rfl|rfl|rfl<;>simp only [ne_eq,Option.some.injEq]<;>omega
def NJ.ic {od:List Nat} {f:Nat->Nat} (h2:∀i,i∈od↔i∈vp/\L i=true) (h3:∀i∈od,E.get? (zw i)=some (DI n f i)) {i d:Nat} {v:aD} (hi:i=10\/i=11\/i=12) (hd:d=21\/d=22\/d=4):
  (∀j,j∈od↔j∈vp/\iB L i j=true)/\(∀j∈od,(E.put (some d) v).get? (zw j)=some (DI n f j))/\∀j∈vp,iB L i j=L j:=by
 have nb:∀j∈vp,iB L i j=L j:=λj hj=>dX (by simp at hj;omega)
 refine ⟨λj=>?_,λj hj=>?_,nb⟩
 .rw [h2]
  exact ⟨λh=>⟨h.1,by rw [nb j h.1];exact h.2⟩,λh=>⟨h.1,by rw [<-nb j h.1];exact h.2⟩⟩
 .have:=FT ((h2 j).1 hj).1
  rw [dS (by simp at this;omega)]
  exact h3 j hj
def NJ.bld (h:NJ w0 b1 g n D L E w) (hL:∀i∈vp,L i=true) (yo:L 10=false):∃f,E.get? 13=some (Ds n f 2).v/\E.get? 15=some (Ds n f 4).v/\E.get? 17=some (Ds n f 6).v/\E.get? 18=some (.map (some (f 7)))/\E.get? 20=some (Ds n f 9).v/\
  NJ w0 b1 g n D (iB L 10) (E.put (some 21) (.agg (yx g n f).toArray)) w:=by
 obtain ⟨f,od,X,h1,h2,h3,h4,h5,h6,h7,h8⟩:=h.hp
 have k:∀i,i∈vp->E.get? (zw i)=some (DI n f i):=λi hi=>h3 i ((h2 i).2 ⟨hi,hL i hi⟩)
 obtain ⟨a1,a2,a3⟩:=NJ.ic (v:=.agg (yx g n f).toArray) h2 h3 (i:=10) (d:=21) (.inl rfl) (.inl rfl)
 have n11:L 11=false:=by
  cases Ab:L 11 with
  |false=>rfl
  |true=>rw [(h6 Ab).1] at yo;cases yo
 refine ⟨f,k 2 (by simp),k 4 (by simp),k 6 (by simp),k 7 (by simp),k 9 (by simp),h.held (.inl rfl) (.inl rfl),f,od,X,h1,a1,a2,h4,λ_=>⟨λj hj=>by rw [a3 j hj];exact hL j hj,qg⟩,λh=>?_,λh=>?_,λh=>?_⟩
 .rw [dX (by omega),n11] at h;cases h
 .rw [dX (by omega)] at h ⊢
  exact h7 h
 .rw [dX (by omega)] at h
  exact h8 h
def NJ.box (h:NJ w0 b1 g n D L E w) (yo:L 10=true) (Ab:L 11=false):∃cs:Array aD,E.get? 21=some (.agg cs)/\NJ w0 b1 g n D (iB L 11) (E.put (some 22) (ptr w.heap.size)) (w.alloc (.cells cs cO)):=by
 obtain ⟨f,od,X,h1,h2,h3,h4,h5,h6,h7,h8⟩:=h.hp
 obtain ⟨a1,a2,a3⟩:=NJ.ic (v:=ptr w.heap.size) h2 h3 (i:=11) (d:=22) (.inr (.inl rfl)) (.inr (.inl rfl))
 obtain ⟨b1',b2⟩:=h5 yo
 have hX:=h8 Ab
 subst hX
 refine ⟨_,b2,h.held (.inr (.inl rfl)) (.inr (.inl rfl)),f,od,[.c w.heap.size (yx g n f) cO],h1,a1,a2,?_,λ_=>⟨λj hj=>by rw [a3 j hj];exact b1' j hj,by rw [dS (by omega)];exact b2⟩,λ_=>⟨by rw [dX (by omega)];exact yo,_,rfl,qg,λh=>?_⟩,λh=>?_,λh=>?_⟩
 .rw [uL] at h4
  exact h4.alloc _
 .rw [dX (by omega)] at h
  rw [h7 h] at Ab;cases Ab
 .exact yP
 .rw [yP] at h;cases h
def NJ.asg (h:NJ w0 b1 g n D L E w) (Ab:L 11=true):∃b,E.get? 22=some (ptr b)/\NJ w0 b1 g n D (iB L 12) (E.put (some 4) (ptr b)) w:=by
 obtain ⟨f,od,X,h1,h2,h3,h4,h5,h6,h7,h8⟩:=h.hp
 obtain ⟨yo,b,hX,b2,_⟩:=h6 Ab
 obtain ⟨a1,a2,a3⟩:=NJ.ic (v:=ptr b) h2 h3 (i:=12) (d:=4) (.inr (.inr rfl)) (.inr (.inr rfl))
 refine ⟨b,b2,h.held (.inr (.inr rfl)) (.inr (.inr rfl)),f,od,X,h1,a1,a2,h4,λh=>?_,λ_=>⟨by rw [dX (by omega)];exact yo,b,hX,by rw [dS (by omega)];exact b2,λ_=>qg⟩,λ_=>by rw [dX (by omega)];exact Ab,λh=>?_⟩
 .rw [dX (by omega)] at h
  exact ⟨λj hj=>by rw [a3 j hj];exact (h5 h).1 j hj,by rw [dS (by omega)];exact (h5 h).2⟩
 .rw [dX (by omega)] at h
  exact h8 h
def NJ.fin (h:NJ w0 b1 g n D L E w) (hL:∀i,i<13->L i=true):∃(f:Nat->Nat) (b:Nat),E.get? 1=some (ptr b1)/\E.get? 4=some (ptr b)/\LH F0 w0 w (.c b1 [g.v] cM::(vp.map (te n f)++[.c b (yx g n f) cO])) D:=by
 obtain ⟨f,od,X,h1,h2,h3,h4,h5,h6,h7,h8⟩:=h.hp
 obtain ⟨_,b,hX,_,b3⟩:=h6 (hL 11 (by omega))
 subst hX
 have hp:od.Perm vp:=(List.perm_ext_iff_of_nodup h1 (by decide)).2 λi=>by
  rw [h2]
  exact ⟨λh=>h.1,λh=>⟨h,hL i (by simp at h;omega)⟩⟩
 exact ⟨f,b,h.st.get (T:=nT b1 g n) (i:=0) (by simp [nT]) rfl,b3 (hL 12 (by omega)),EY h4 (((hp.map (te n f)).append_right _).cons _)⟩
end
section
variable {w0:aA} {b1 n:Nat} {g:Sl} {D:List En}
def Od {i d:Nat} {v:aD} (hi:i=1/\d=12\/i=3/\d=14\/i=5/\d=16\/i=8/\d=19) (hv:v=iO n):(∀q∈nT b1 g n,q.1=i+1->q=(i+1,d,v))/\∀q∈nT b1 g n,q.2.1=d->q.1=i+1:=by
 subst hv
 rcases hi with ⟨rfl,rfl⟩|⟨rfl,rfl⟩|⟨rfl,rfl⟩|⟨rfl,rfl⟩<;>exact ⟨by simp [nT],by simp [nT]⟩
def A1 {i d:Nat} {TO:List Nat} (hi:i=1/\d=12\/i=3/\d=14\/i=5/\d=16\/i=8/\d=19) (T:aP):Ni aB (NJ w0 b1 g n D) i (.move (.tmp 3),some d,T,TO):=by
 intro L E w o e1 e2 e3 e4 e5 hJ
 obtain ⟨s1,s2⟩:=Od (b1:=b1) (g:=g) (n:=n) (v:=iO n) hi rfl
 refine vH (.inl e1) (hJ.st.get (i:=0) (d:=3) (v:=iO n) (by simp [nT]) rfl) ?_
 rw [e2]
 exact hJ.stat s1 s2 (by omega) (by omega)
def yB {i d t:Nat} {TO:List Nat} {T e:aP} {z:aD} {bytes:Nat} (el:jb aB T e z 1 bytes) (hz:z.cells=#[z]) (hb:n *bytes<=140737488355328) (hi:i=2/\t=12\/i=4/\t=14\/i=6/\t=16\/i=9/\t=19) (hd:d=zw i) (hj:∃j∈TO,(j+1,t,iO n)∈nT b1 g n)
  (he:∀f,te n f i=.row e 1 (Ds n f i) (List.replicate n z)):Ni aB (NJ w0 b1 g n D) i (.makeSlice T (.tmp t) (.tmp t),some d,T,TO):=by
 intro L E w o e1 e2 e3 e4 e5 hJ
 obtain ⟨j,hj1,Uf⟩:=hj
 obtain ⟨w',r1,r2,r3⟩:=EA el w n hb
 rw [wH _ _ hz] at r2
 refine Vs e1 (hJ.st.get Uf (e5 j hj1)) (s:=⟨some (bO w.heap.size),n,n⟩) r1 ?_
 rw [e2]
 refine hJ.alloc (by simp;omega) e4 r3 (λf hf=>?_) (λf hf=>?_) hd
 .rw [he]
  unfold Ds
  rw [hf]
  exact ⟨r2,λb hb=>by
   have hb:b∈[w.heap.size]:=hb
   simp at hb
   omega⟩
 .unfold DI Ds
  rw [aI (by omega),hf]
def Oc {c:Code} (ht:(Code.ops c).toList.map rowOf=WO) {K:Env->aA->Prop} {E:Env} {w:aA} (hn:n<=1000000) (h1:E.get? 1=some (ptr b1)) (h3:E.get? 3=some (iO n)) (H:LH F0 w0 w [.c b1 [g.v] cM] D)
  (hK:∀f b E' w',E'.get? 1=some (ptr b1)->E'.get? 4=some (ptr b)->LH F0 w0 w' (.c b1 [g.v] cM::(vp.map (te n f)++[.c b (yx g n f) cO])) D->K E' w'):igK aB c K E w:=by
 refine KC WO ht (NJ w0 b1 g n D) ⟨λq hq he=>?_,⟨λ_=>0,[],[],?_⟩⟩ ?_ (λL E' w' hL hJ=>?_)
 .simp only [nT,dT,gL,or_false] at hq
  rcases hq with rfl|rfl|rfl|rfl|rfl|rfl|rfl<;>first |exact h1|exact h3|(simp at he)
 .exact ⟨List.nodup_nil,λi=>by simp,λi hi=>(by simp at hi),H.drew,λh=>Bool.noConfusion h,λh=>Bool.noConfusion h,λh=>Bool.noConfusion h,λ_=>rfl⟩
 .refine ⟨?_,A1 (.inl ⟨rfl,rfl⟩) _,yB Qn rfl (by omega) (.inl ⟨rfl,rfl⟩) rfl ⟨1,by simp,by simp [nT]⟩ (λf=>by unfold te;rw [aN rfl,List.map_replicate]),A1 (.inr (.inl ⟨rfl,rfl⟩)) _,yB vR rfl (by omega) (.inr (.inl ⟨rfl,rfl⟩)) rfl ⟨3,by simp,by simp [nT]⟩ (λf=>by unfold te;rw [aI (by omega),aN (by omega),List.map_replicate];rfl),
   A1 (.inr (.inr (.inl ⟨rfl,rfl⟩))) _,yB vR rfl (by omega) (.inr (.inr (.inl ⟨rfl,rfl⟩))) rfl ⟨5,by simp,by simp [nT]⟩ (λf=>by unfold te;rw [aI (by omega),aN (by omega),List.map_replicate];rfl),?_,A1 (.inr (.inr (.inr ⟨rfl,rfl⟩))) _,yB TP rfl (by omega) (.inr (.inr (.inr ⟨rfl,rfl⟩))) rfl ⟨8,by simp,by simp [nT]⟩ (λf=>by unfold te;rw [aI (by omega),aI (by omega),aI (by omega)];show En.row Gy 1 _ ((List.replicate n false).map Value.bool)=_;rw [List.map_replicate]),?_,?_,?_,trivial⟩
  .intro L E w o e1 e2 e3 e4 e5 hJ
   have hc:w.cell? ((bO b1).add 0)=some g.v:=by
    obtain ⟨f,od,X,_,_,_,h4,_⟩:=hJ.hp
    exact h4.ld 0 0
   refine Av (p:=bO b1) e1 (hJ.st.get (i:=0) (d:=1) (v:=ptr b1) (by simp [nT]) rfl) (mp (show ∃s:Sl,w.cell? ((bO b1).add 0)=some s.v/\NJ w0 b1 g n D (iB L 0) (E.put o.dst (.agg #[s.v])) w from ⟨g,hc,?_⟩))
   rw [e2]
   exact hJ.stat (by simp [nT]) (by simp [nT]) (by omega) (by omega)
  .intro L E w o e1 e2 e3 e4 e5 hJ
   refine Sc e1 ?_
   rw [e2]
   refine hJ.alloc (by simp) e4 (Fr.alloc _ _ _) (λf hf=>?_) (λf hf=>?_) rfl
   .unfold te
    rw [aI (by omega),aI (by omega),aN rfl,hf]
    exact ⟨mM w _,λb hb=>by simp [En.ob] at hb;omega⟩
   .unfold DI
    rw [aN rfl,hf]
  .intro L E w o e1 e2 e3 e4 e5 hJ
   obtain ⟨f,k1,k2,k3,k4,k5,vT⟩:=hJ.bld (λi hi=>e5 i (by simp at hi ⊢;omega)) e4
   refine Zz e1 (hJ.st.get (i:=1) (d:=11) (v:=.agg #[g.v]) (by simp [nT]) (e5 0 (by simp))) k1 k2 k3 k4 k5 ?_
   rw [e2]
   exact vT
  .intro L E w o e1 e2 e3 e4 e5 hJ
   obtain ⟨cs,k1,vT⟩:=hJ.box (e5 10 (by simp)) e4
   refine ZA e1 k1 ?_
   rw [e2]
   exact vT
  .intro L E w o e1 e2 e3 e4 e5 hJ
   obtain ⟨b,k1,vT⟩:=hJ.asg (e5 11 (by simp))
   refine vH (.inr e1) k1 ?_
   rw [e2]
   exact vT
 .obtain ⟨f,b,k1,k2,H'⟩:=hJ.fin hL
  exact hK f b E' w' k1 k2 H'
end
def ql.lt {w:aA} {b:Nat} {g:Sl} {hs:List ByteArray} {ls ds:List Nat} {own:List Nat} (h:ql w b g hs ls ds own):∀x∈own,x<w.heap.size:=by
 obtain ⟨sh,sl,sd,m,sr,ho,hn,hP⟩:=h
 intro x hx
 rw [ho] at hx
 obtain ⟨e,he,hx⟩:=nG.1 hx
 exact e.lt w (hP e he) x hx
def ql.st {w w':aA} {b:Nat} {g:Sl} {hs:List ByteArray} {ls ds:List Nat} {own:List Nat} (h:ql w b g hs ls ds own) (k:∀x∈own,x<w.heap.size->w'.heap[x]? =w.heap[x]?):ql w' b g hs ls ds own:=by
 obtain ⟨sh,sl,sd,m,sr,ho,hn,hP⟩:=h
 exact ⟨sh,sl,sd,m,sr,ho,hn,λe he=>e.st w w' (λb hb hl=>k b (by rw [ho];exact nG.2 ⟨e,he,hb⟩) hl) (hP e he)⟩
def _root_.Go.W.En.pr (b:Nat) (own:List Nat) (g:Sl) (hs:List ByteArray) (ls ds:List Nat):En:=⟨JL own,λw=>ql w b g hs ls ds own,λw w' h hp=>hp.st λb hb=>h b (aV.2 hb),λw hp b hb=>hp.lt b (aV.1 hb),kM _⟩
section
variable {M:Nat->Prop} {w0 w:aA} {L D A B:List En}
def _root_.Go.W.LH.group (H:LH M w0 w (A++B) D) (e:En) (hP:e.P w) (FD:∀x∈e.fp,x∈B.flatMap (·.fp)):LH M w0 w (A++[e]) D:=by
 have hnd:=H.nd
 rw [rS,zH] at hnd
 refine ⟨H.fr,λx hx=>?_,H.rd,λx hx y hy=>?_,?_,λd hd x hx e' lM hm=>?_⟩
 .rcases gg.1 hx with hx|hx
  .exact H.own x (qy _ hx)
  .rw [IW.1 hx];exact hP
 .rcases gg.1 hx with hx|hx
  .exact H.new x (qy _ hx) y hy
  .rw [IW.1 hx] at hy
   obtain ⟨e',lM,hy'⟩:=nG.1 (FD y hy)
   exact H.new e' (wL _ lM) y hy'
 .rw [rS,zH]
  refine ⟨hnd.1,by simpa using e.nd,λa ha b hb=>hnd.2.2 a ha b (FD b (by simpa using hb))⟩
 .rcases gg.1 lM with lM|lM
  .exact H.dj d hd x hx e' (qy _ lM) hm
  .rw [IW.1 lM] at hm
   obtain ⟨e'',acx,Ky⟩:=nG.1 (FD x hm)
   exact H.dj d hd x hx e'' (wL _ acx) Ky
def U5 {b1 b n:Nat} {g:Sl} {f:Nat->Nat} (H:LH M w0 w (.c b1 [g.v] cM::(vp.map (te n f)++[.c b (yx g n f) cO])) D):
  ∃own,LH M w0 w [.c b1 [g.v] cM,.pr b own g (List.replicate n (aE #[])) (List.replicate n 0) (List.replicate n 0)] D:=by
 have H1:LH M w0 w ([.c b1 [g.v] cM]++([.c b (yx g n f) cO]++vp.map (te n f))) D:=EY H (List.perm_append_comm.cons _)
 have H2:LH M w0 w ([.c b1 [g.v] cM]++Pk b g (Ds n f 2) (Ds n f 4) (Ds n f 6) (some (f 7)) (Ds n f 9) (List.replicate n (aE #[])) (List.replicate n 0) (List.replicate n 0)) D:=H1.take 5
 have hnd:=H2.nd
 rw [rS,zH] at hnd
 exact ⟨_,H2.group (.pr b _ g _ _ _) ⟨_,_,_,_,_,rfl,hnd.2.1,λe he=>H2.own e (wL _ he)⟩ λx hx=>aV.1 hx⟩
def _root_.Go.W.LH.prC (H:LH M w0 w L D) (i:Nat) {b:Nat} {own:List Nat} {g:Sl} {hs Up:List ByteArray} {ls ds ls' ds':List Nat} {P:aQ} {f:FuncId} {args:Array aD} {A:Ending->Prop} {K:aT} (hi:L[i]? =some (.pr b own g hs ls ds)) (hc:aH P f args w λr w'=>A r/\Nh w b g own Up ls' ds' w')
  (hk:∀r w' fF,A r->LH M w0 w' (L.set i (.pr b fF g Up ls' ds')) D->K r w'):aH P f args w K:=
 hc.mono λr w' ⟨ha,fF,hr,hf,ho⟩=>hk r w' fF ha (H.CX i (.pr b fF g Up ls' ds') hi (hf.mono λx _ hx=>aV.2 hx) hr λb hb=>(ho b (aV.1 hb)).imp aV.2 id)
end
def U4 {w:aA} {b:Nat} {g:Sl} {hs:List ByteArray} {ls ds:List Nat} {own:List Nat} (h:ql w b g hs ls ds own) {i:Nat} (hi:i<hs.length):
  ∃(sh:Sl) (q:Addr),sh.a=some q/\(i:Int)<((sh.n:Nat):Int)/\w.cell? ((bO b).add 1)=some sh.v/\∀w1,bW w w1->w1.cell? ((bO b).add 1)=some sh.v/\∀(t:ByteArray) (K:aA->Prop),(∀w2,Nh w1 b g own (hs.set i t) ls ds w2->K w2)->cY w1 (q.add i) (.string t) K:=by
 obtain ⟨sh,sl,sd,m,sr,ho,hn,hP⟩:=h
 have hc:(En.c b [g.v,sh.v,sl.v,sd.v,.map m,sr.v] cO).P w:=hP _ (dI (i:=0) rfl)
 have hr:bD w cG 1 sh (hs.map Value.string):=hP _ (dI (i:=1) rfl)
 obtain ⟨_,r2,r3⟩:=sQ hr rfl (v:=.string hs[i]) (i:=i) (by simp [hi]) (K:=λq=>sh.a=some q) (λp hp _=>hp)
 obtain ⟨q,hq,_⟩:=zB r3
 refine ⟨sh,q,hq,r2,cellAt (p:=bO b) hc rfl rfl,λw1 f=>?_⟩
 have hP1:∀e∈Pk b g sh sl sd m sr hs ls ds,e.P w1:=λe he=>e.st w w1 (λb _ hl=>f.ic b hl id) (hP e he)
 have hc1:(En.c b [g.v,sh.v,sl.v,sd.v,.map m,sr.v] cO).P w1:=hP1 _ (dI (i:=0) rfl)
 refine ⟨cellAt (p:=bO b) hc1 rfl rfl,λt K hK=>?_⟩
 have H:LH (·∈own) w1 w1 (Pk b g sh sl sd m sr hs ls ds) []:=LH.uf _ _ (λe he=>⟨hP1 e he,λx hx=>by rw [ho];exact nG.2 ⟨e,he,hx⟩⟩) (ho▸hn) (by simp)
 refine Jd (H.OB (bs:=[]) 1 i rfl hq (by simpa using hi) (λw2 H2=>hK w2 ?_) (by simp))
 rw [<-List.map_set] at H2
 exact ql.close H2
def XB:List (Int×List UInt8):=[(4,[110,111,116]),(5,[110,101,103]),(6,[97,110,100]),(7,[111,114]),(8,[120,111,114]),(9,[97,100,100]),(10,[109,117,108]),(11,[117,100,105,118]),(12,[117,114,101,109]),(13,[115,104,108]),(14,[108,115,104,114]),(15,[97,115,104,114]),(16,[117,108,116]),(17,[115,108,116]),(18,[101,113]),(19,[105,116,101]),(20,[99,111,110,99,97,116]),(21,[101,120,116,114,97,99,116]),(22,[122,101,120,116]),(23,[115,101,120,116]),(24,[115,101,108,101,99,116]),(25,[115,116,111,114,101]),(26,[100,105,102,102]),(27,[108,101,110]),(28,[98,121,116,101]),(29,[99,97,116]),(30,[115,117,98]),(31,[102,105,110,100]),(32,[114,101,112,108,97,99,101]),(33,[105,110]),(34,[99,104,97,114])]
def GD:List (Int×aD):=XB.map λp=>(p.1,.string ⟨p.2.toArray⟩)
def Iw:GW aB bJ cT cG .i64 (.string (aE #[])):=⟨by kernel_rfl,by kernel_rfl,by kernel_rfl⟩
def abJ {w0 w:aA} {m:Nat} {es:Array MapEntry} {clock:Nat} {ms:List (Int×aD)} (H:LH F0 w0 w [.ob m (.map es clock)] []) (hm:sV .i64 es ms) {k:Int} {v:aD} (tz:wm ms k=none) {K:aA->Prop}
  (hK:∀w' Ec c',LH F0 w0 w' [.ob m (.map Ec c')] []->sV .i64 Ec (ms++[(k,v)])->K w'):∃w',Sem.run aB (Instr.mapUpdate bJ (.map (some m)) (.i k) v) w=.ok () w'/\K w':=by
 obtain ⟨w',Ec,r1,r2,r3,r4,r5⟩:=wI Iw (H.ob 0) hm k v tz
 exact ⟨w',r1,hK w' Ec _ (H.CX 0 (.ob m (.map Ec (clock+1))) rfl (r4.mono λx _ e=>by simp [En.ob,e]) r2 λb hb=>.inl hb) r3⟩
def abc {M:Nat->Prop} {w0 w:aA} {L D:List En} (H:LH M w0 w L D) {o:Obj} {K:aA->Prop} (hK:∀w',LH M w0 w' (L++[.ob w.heap.size o]) D->K w'):gi w o K:=hK _ (H.alloc o)
def TE (w:aA):aH aB lD #[] w λr w'=>(∃m es c,r=aJ (.map (some m))/\w.heap.size<=m/\w'.heap[m]? =some (.map es c)/\sV .i64 es GD)/\bW w w':=by
 refine print_operationWords.ok w _ (abc (og [] (by simp)) λw1 H=>?_)
 have hm:sV .i64 #[] []:=rfl
 iterate 31 (refine abJ H hm ?_ ?_;rfl;clear H hm;intro w1 es c H hm)
 exact ⟨⟨_,es,c,rfl,Nat.le_refl _,H.ob 0,hm⟩,H.fr⟩
def tj {α:Type} {p:List α->Prop} (h0:p []) (h1:∀l a,p l->p (l++[a])) (l:List α):p l:=by
 have:∀r:List α,p r.reverse:=λr=>by
  induction r with
  |nil=>exact h0
  |cons a r ih=>rw [List.reverse_cons];exact h1 _ _ ih
 simpa using this l.reverse
section
variable (hd:Nx->ByteArray)
def tR (g:List Nx):List Nat:=g.foldl (λls n=>ls++[len1 (hd n) n.kids ls]) []
def oX (g:List Nx):List Nat:=g.foldl (λds n=>ds++[AG n.op n.kids ds]) []
def Cd (g:List Nx) (n:Nx):tR hd (g++[n])=tR hd g++[len1 (hd n) n.kids (tR hd g)]:=by unfold tR;rw [List.foldl_append];rfl
def BE (g:List Nx) (n:Nx):oX (g++[n])=oX g++[AG n.op n.kids (oX g)]:=by unfold oX;rw [List.foldl_append];rfl
def YT:∀g:List Nx,(tR hd g).length=g.length/\∀x∈tR hd g,x<=65537:=by
 refine tj ⟨rfl,by simp [tR]⟩ λg n ih=>?_
 rw [Cd]
 refine ⟨by simp [ih.1],λx hx=>?_⟩
 rcases gg.1 hx with hx|hx
 .exact ih.2 x hx
 .rw [IW.1 hx];exact xd _
def Fo:∀g:List Nx,(oX g).length=g.length/\∀x∈oX g,x<=g.length:=by
 refine tj ⟨rfl,by simp [oX]⟩ λg n ih=>?_
 rw [BE]
 refine ⟨by simp [ih.1],λx hx=>?_⟩
 rw [nE,List.length_singleton]
 rcases gg.1 hx with hx|hx
 .have:=ih.2 x hx;omega
 .rw [IW.1 hx]
  have:=Mo ih.2 n.kids
  unfold AG
  split
  .omega
  .split<;>omega
end
def Tm {A B:List Nat} {k:Int} (h:0<=k/\k<(A.length:Int)):DV (A++B) k=DV A k:=by
 unfold DV
 rw [List.getD_eq_getElem?_getD,List.getD_eq_getElem?_getD,KV (by omega)]
def I0 {A B:List Nat} {kids:List Int} (h:∀k∈kids,0<=k/\k<(A.length:Int)):wq (A++B) kids=wq A kids/\vo (A++B) kids=vo A kids:=by
 unfold wq vo
 rw [List.map_congr_left λk hk=>Tm (h k hk)]
 exact ⟨rfl,rfl⟩
def Gm {α:Type} {A:List α} {z x:α} {i m:Nat} (h:A.length=i):(A++List.replicate (m+1) z).set i x=(A++[x])++List.replicate m z:=by
 subst h
 rw [List.replicate_succ,List.set_append_right _ _ (Nat.le_refl _),Nat.sub_self]
 simp
section
variable {M:Nat->Prop} {w0 w:aA} {L D:List En}
def _root_.Go.W.LH.st9 (H:LH M w0 w L D) (i:Nat) {b:Nat} {a0 a1 a2 a3 a4 a5 a6 a7 a8:aD} {T:aP} {v0 v1 v2 v3 v4 v5 v6 v7 v8:aD} {K:aA->Prop} (hi:L[i]? =some (.c b [a0,a1,a2,a3,a4,a5,a6,a7,a8] T)) (hK:∀w',LH M w0 w' (L.set i (.c b [v0,v1,v2,v3,v4,v5,v6,v7,v8] T)) D->K w'):
  abr w (bO b) v0 v1 v2 v3 v4 v5 v6 v7 v8 K:=by
 have hl:=(nY.1 hi).1
 exact H.Gq i hi (λw1 H1=>H1.st (vs:=[v0,a1,a2,a3,a4,a5,a6,a7,a8]) (T:=T) i 1 (by simp [hl]) (λw2 H2=>H2.st (vs:=[v0,v1,a2,a3,a4,a5,a6,a7,a8]) (T:=T) i 2 (by simp [hl]) (λw3 H3=>H3.st (vs:=[v0,v1,v2,a3,a4,a5,a6,a7,a8]) (T:=T) i 3 (by simp [hl]) (λw4 H4=>H4.st (vs:=[v0,v1,v2,v3,a4,a5,a6,a7,a8]) (T:=T) i 4 (by simp [hl]) (λw5 H5=>H5.st (vs:=[v0,v1,v2,v3,v4,a5,a6,a7,a8]) (T:=T) i 5 (by simp [hl]) (λw6 H6=>H6.st (vs:=[v0,v1,v2,v3,v4,v5,a6,a7,a8]) (T:=T) i 6 (by simp [hl]) (λw7 H7=>H7.st (vs:=[v0,v1,v2,v3,v4,v5,v6,a7,a8]) (T:=T) i 7 (by simp [hl]) (λw8 H8=>H8.st (vs:=[v0,v1,v2,v3,v4,v5,v6,v7,a8]) (T:=T) i 8 (by simp [hl]) (λw9 H9=>hK w9 (by simpa using H9))))))))))
end
def aab (hd:Nx->ByteArray) (d:Nd):Prop:=∀(w:aA) (m:Nat) (es:Array MapEntry) (c:Nat),w.heap[m]? =some (.map es c)->sV .i64 es GD->aH aB pY #[d.v,.map (some m)] w λr w'=>r=aJ (.string (hd d.x))/\bW w w'
structure XP (hd:Nx->ByteArray) (l:List Nd):Prop where
 hdo:∀d∈l,aab hd d
 kids:∀(i:Nat) (d:Nd),l[i]? =some d->∀k∈d.x.kids,0<=k/\k<(i:Int)
 zero:∀d∈l,d.x.op=3->d.x.kids=[]
 few:∀d∈l,d.x.kids.length<=1000
 size:∀d∈l,(hd d.x).size<=100000
 len:l.length<=10000
def aaq {w:aA} {s:Sl} {l:List Nd} {hd:Nx->ByteArray} (h:GP w s l) (ho:XP hd l):
  aH aB oF #[.agg #[s.v]] w λr w'=>(∃b own,r=aJ (ptr b)/\ql w' b s ((xs l).map hd) (tR hd (xs l)) (oX (xs l)) own/\∀x∈own,w.heap.size<=x)/\bW w w':=by
 have hn:=tL h
 have hlen:=ho.len
 have H:LH F0 w w [] [.gr s l]:=og _ (by
  intro e he
  simp only [dT,gL,or_false] at he
  subst he
  exact eG.2 h)
 have loop:∀(m i b1 b mp c:Nat) (es:Array MapEntry) (own:List Nat) (w1:aA),i+m=l.length->sV .i64 es GD->
   LH F0 w w1 [.c b1 [s.v] cM,.pr b own s ((xs (l.take i)).map hd++List.replicate m (aE #[])) (tR hd (xs (l.take i))++List.replicate m 0) (oX (xs (l.take i))++List.replicate m 0),.ob mp (.map es c)] [.gr s l]->
   print_newPrinter.L1 (some (bO b)) (some mp) s ((s.n:Nat):Int) (i:Int) w1 λr w'=>(∃b own,r=aJ (ptr b)/\ql w' b s ((xs l).map hd) (tR hd (xs l)) (oX (xs l)) own/\∀x∈own,w.heap.size<=x)/\bW w w':=by
  intro m
  induction m with
  |zero=>
   intro i b1 b mp c es own w1 hi hm H1
   refine print_newPrinter.nk _ _ _ _ _ _ _ (aX (aK (by omega)) ⟨⟨b,own,rfl,?_,λx hx=>(H1.new _ (dI (i:=1) rfl) x (aV.2 hx)).resolve_right id⟩,H1.fr⟩)
   have:=H1.get 1
   rw [List.take_of_length_le (by omega),List.replicate_zero,List.replicate_zero,uL,uL,uL] at this
   exact this
  |succ m ih=>
   intro i b1 b mp c es own w1 hi hm H1
   have ga:l[i]? =some (l[i]'(by omega)):=ie (by omega)
   generalize l[i]'(by omega)=d at ga
   have Ac:=dI ga
   have jO:(xs (l.take i)).length=i:=by simp [xs];omega
   have l1:=YT hd (xs (l.take i))
   have l2:=Fo (xs (l.take i))
   have et:xs (l.take (i+1))=xs (l.take i)++[d.x]:=by rw [List.take_add_one,ga];simp [xs]
   refine print_newPrinter.nk _ _ _ _ _ _ _ (bF (aO (by omega)) (oc (eG.1 (H1.getD 0)) rfl ga λp hp c'=>⟨d.x.op,d.ks,d.x.n,d.x.m,d.x.u,d.x.tx,d.x.st.k,d.x.st.n,d.x.st.x,c'.c0,c'.c1,c'.c2,c'.c3,c'.c4,c'.c5,c'.c6,c'.c7,c'.c8,H1.nw λw2 JJ H2=>H2.st9 3 rfl λw3 H3=>H3.dr λw4 H4=>?_⟩))
   obtain ⟨sh,q,hq,r2,hc,If⟩:=U4 (H4.get 1) (i:=i) (by rw [nE,MG,jO,qlR];omega)
   refine ⟨sh,hc,d.x.op,d.ks,d.x.n,d.x.m,d.x.u,d.x.tx,d.x.st.k,d.x.st.n,d.x.st.x,H4.ld 3 0,H4.ld 3 1,H4.ld 3 2,H4.ld 3 3,H4.ld 3 4,H4.ld 3 5,H4.ld 3 6,H4.ld 3 7,H4.ld 3 8,(ho.hdo d Ac w4 mp es c (H4.ob 2) hm).mono ?_⟩
   rintro _ w5 ⟨rfl,f5⟩
   have H5:=H4.qx f5
   obtain ⟨hc5,If⟩:=If w5 f5
   refine ⟨_,rfl,hc5,by omega,r2,?_⟩
   rw [hq]
   refine sw ?_
   rw [Int.toNat_natCast,Nat.mul_one]
   refine If _ _ λw6 hw6=>?_
   obtain ⟨KN,hr6,hf6,ho6⟩:=hw6
   have H6:=H5.CX 1 (.pr b KN s _ _ _) rfl (hf6.mono λx _ hx=>aV.2 hx) hr6 λb hb=>(ho6 b (aV.1 hb)).imp aV.2 id
   rw [Gm (by rw [MG,jO])] at H6
   have HX:(fV d).P w6:=(eG.1 (H6.getD 0)).2 d Ac
   have YI:∀x∈(fV d).fp,x∉KN:=λx hx hm=>H6.dj (.gr s l) (by simp) x (vj.2 (.inr ⟨d,Ac,hx⟩)) (.pr b KN s _ _ _) (dI (i:=1) rfl) (aV.2 hm)
   have hk:=ho.kids i d ga
   refine ⟨d.x.op,d.ks,d.x.n,d.x.m,d.x.u,d.x.tx,d.x.st.k,d.x.st.n,d.x.st.x,H6.ld 3 0,H6.ld 3 1,H6.ld 3 2,H6.ld 3 3,H6.ld 3 4,H6.ld 3 5,H6.ld 3 6,H6.ld 3 7,H6.ld 3 8,H6.prC 1 rfl (Ns (i:=i) (t:=hd d.x) (H6.get 1) HX YI (λk xM=>⟨(hk k xM).1,by have:=(hk k xM).2;simp only [nE,MG,qlR,List.length_singleton,l1.1,l2.1,jO];omega⟩) ?_ ?_ ?_ ?_ (ho.zero d Ac) (by have:=ho.size d Ac;omega) (ho.few d Ac) ?_ ?_) ?_⟩
   .rw [tA,qgR (by rw [MG,jO];exact Nat.le_refl _),MG,jO,Nat.sub_self]
    rfl
   .simp only [nE,MG,qlR,List.length_singleton,l1.1,l2.1,jO];omega
   .simp only [nE,MG,qlR,List.length_singleton,l1.1,l2.1,jO];omega
   .rw [qgR (by rw [l2.1,jO];exact Nat.le_refl _),l2.1,jO,Nat.sub_self]
    rfl
   .intro x hx
    rcases gg.1 hx with hx|hx
    .exact l1.2 x hx
    .rw [(List.mem_replicate.1 hx).2];omega
   .intro x hx
    rcases gg.1 hx with hx|hx
    .have:=l2.2 x hx
     omega
    .rw [(List.mem_replicate.1 hx).2];omega
   rintro _ w7 ac2 rfl H7
   refine ⟨rfl,?_⟩
   rw [bP _ (by omega)]
   refine ih (i+1) b1 b mp c es ac2 w7 (by omega) hm ?_
   have k1:∀k∈d.x.kids,0<=k/\k<((tR hd (xs (l.take i))).length:Int):=λk xM=>by rw [l1.1,jO];exact hk k xM
   have k2:∀k∈d.x.kids,0<=k/\k<((oX (xs (l.take i))).length:Int):=λk xM=>by rw [l2.1,jO];exact hk k xM
   rw [et,Cd,BE,sP]
   rw [Gm (by rw [l1.1,jO]),Gm (by rw [l2.1,jO])] at H7
   unfold len1 AG at H7 ⊢
   rw [(I0 k1).1,(I0 k2).2] at H7
   exact H7.take 3
 refine print_newPrinter.ok _ w _ (H.nw λw1 zq H1=>⟨s,H1.ld 0 0,?_⟩)
 refine Oc (w0:=w) (b1:=w.heap.size) (n:=l.length) (g:=s) (D:=[.gr s l]) (by kernel_rfl) (by omega) rfl (by rw [hn];rfl) H1 λf b E' w2 e1 e4 H2=>?_
 obtain ⟨own,H3⟩:=U5 H2
 show W.gY (Env.get? E' 1) λg1=>W.G1 (Env.get? E' 4) λp4=>print_newPrinter.S0 g1 p4 w2 _
 rw [e1,e4]
 refine (TE w2).mono ?_
 rintro _ w3 ⟨⟨mp,es,c,rfl,hmp,hob,hm⟩,f3⟩
 have H4:=H3.push (.ob mp (.map es c)) f3 hob λb hb=>by simp [En.ob] at hb;omega
 exact ⟨_,rfl,s,H4.ld 0 0,loop l.length 0 _ b mp c es own w3 (by omega) hm H4⟩
section
variable (hd:Nx->ByteArray)
def sI (ts:List (List UInt8)) (k:Int):List UInt8:=32::ts.getD k.toNat []
def Ju (ts:List (List UInt8)) (n:Nx):List UInt8:=bl (hd n)++n.kids.flatMap (sI ts)++if n.kids=[] then [] else [41]
def ji (g:List Nx):List (List UInt8):=g.foldl (λts n=>ts++[Ju hd ts n]) []
def yU (g:List Nx) (n:Nx):ji hd (g++[n])=ji hd g++[Ju hd (ji hd g) n]:=by unfold ji;rw [List.foldl_append];rfl
def pH (g:List Nx):(ji hd g).length=g.length:=by
 induction g using tj with
 |h0=>rfl
 |h1 g n ih=>rw [yU];simp [ih]
def M4 (g r:List Nx):∃t,ji hd (g++r)=ji hd g++t:=by
 induction r using tj with
 |h0=>exact ⟨[],by simp⟩
 |h1 r n ih=>
  obtain ⟨t,ht⟩:=ih
  exact ⟨t++[Ju hd (ji hd (g++r)) n],by rw [<-tA,yU,ht,tA]⟩
def Q8 {ts t:List (List UInt8)} {k:Int} (h:0<=k/\k<(ts.length:Int)):sI (ts++t) k=sI ts k:=by
 unfold sI
 rw [List.getD_eq_getElem?_getD,List.getD_eq_getElem?_getD,KV (by omega)]
def BO {α β:Type} {f g:α->List β}:∀{l:List α},(∀a∈l,f a=g a)->l.flatMap f=l.flatMap g
 |[],_=>rfl
 |a::l,h=>by rw [rT,rT,h a (by simp),BO λb hb=>h b (by simp [hb])]
def VI {ts t:List (List UInt8)} {n:Nx} (h:∀k∈n.kids,0<=k/\k<(ts.length:Int)):Ju hd (ts++t) n=Ju hd ts n:=by
 unfold Ju
 rw [BO λk hk=>Q8 (h k hk)]
def yT {g:List Nx} (hg:Bc g) {i:Nat} {n:Nx} (hi:g[i]? =some n):(ji hd g)[i]? =some (Ju hd (ji hd g) n):=by
 have hl:=(nY.1 hi).1
 have e:g=g.take i++[n]++g.drop (i+1):=by
  have:=List.take_append_drop (i+1) g
  rw [List.take_add_one,hi] at this
  exact this.symm
 have Ur:(ji hd (g.take i)).length=i:=by rw [pH];simp;omega
 obtain ⟨t,ht⟩:=M4 hd (g.take i++[n]) (g.drop (i+1))
 rw [<-e,yU] at ht
 rw [ht,tA,VI hd (λk hk=>by rw [Ur];exact hg i n hi k hk),qgR (by omega),Ur,Nat.sub_self]
 rfl
end
def yG {w:aA} {b:Nat} {g:Sl} {hs:List ByteArray} {ls ds:List Nat} {own:List Nat} (h:ql w b g hs ls ds own):
  ∃sh sl sd:Sl,w.cell? ((bO b).add 0)=some g.v/\w.cell? ((bO b).add 1)=some sh.v/\w.cell? ((bO b).add 2)=some sl.v/\w.cell? ((bO b).add 3)=some sd.v/\bD w cG 1 sh (hs.map Value.string)/\bD w cT 1 sl (ls.map iO)/\bD w cT 1 sd (ds.map iO):=by
 obtain ⟨sh,sl,sd,m,sr,ho,hn,hP⟩:=h
 have hc:(En.c b [g.v,sh.v,sl.v,sd.v,.map m,sr.v] cO).P w:=hP _ (dI (i:=0) rfl)
 exact ⟨sh,sl,sd,cellAt (p:=bO b) hc rfl rfl,cellAt (p:=bO b) hc rfl rfl,cellAt (p:=bO b) hc rfl rfl,cellAt (p:=bO b) hc rfl rfl,hP _ (dI (i:=1) rfl),hP _ (dI (i:=2) rfl),hP _ (dI (i:=3) rfl)⟩
section
variable {hd:Nx->ByteArray} {s:Sl} {l:List Nd} {b:Nat} {ow:List Nat} {ls ds:List Nat}
def TF (hk:∀(i:Nat) (d:Nd),l[i]? =some d->∀k∈d.x.kids,0<=k/\k<(i:Int)) (hf:∀d∈l,d.x.kids.length<=1000) (i:Nat):∀(t:List UInt8) (w:aA) (bb:Nat) (own:List Nat) (bs:List UInt8),(ji hd (xs l))[i]? =some t->rZ w bb bs own->
  (∀e∈[En.gr s l,.pr b ow s ((xs l).map hd) ls ds],e.P w/\∀x∈e.fp,x∉own)->bs.length+t.length<=10000000->
  aH aB jC #[.pointer (some (bO b)),.pointer (some (bO bb)),.i (i:Int)] w λr w'=>r=aJ (.tuple #[])/\uz w bb own (bs++t) w':=by
 induction i using Nat.strongRecOn with
 |_ i ih=>
 intro t w bb own bs ht hr hD BX
 have hl:i<l.length:=by have:=(nY.1 ht).1;rw [pH] at this;simpa [xs] using this
 have ga:l[i]? =some (l[i]'hl):=ie hl
 generalize l[i]'hl=d at ga
 have Ac:=dI ga
 have gx:=um ga
 have HY:Bc (xs l):=by
  intro j n hj k xM
  have SV:(l.map Nd.x)[j]? =some n:=hj
  rw [O1] at SV
  obtain ⟨e,he,rfl⟩:=Option.map_eq_some_iff.1 SV
  exact hk j e he k xM
 rw [yT hd HY gx] at ht
 have ht:=Option.some.inj ht
 have H:LH (·∈own) w w [.bd bb own bs] [.gr s l,.pr b ow s ((xs l).map hd) ls ds]:=LH.uf _ _ (by
  intro e he
  rw [IW.1 he]
  exact ⟨hr,λx hx=>aV.1 hx⟩) (by simpa using (En.bd bb own bs).nd) (λe he=>⟨(hD e he).1,λx hx e' lM hm=>by
   rw [IW.1 lM] at hm
   exact (hD e he).2 x hx (aV.1 hm)⟩)
 obtain ⟨sh,sl,sd,c0,c1,c2,c3,r1,r2,r3⟩:=yG (H.getD 1)
 have L7:(bl (hd d.x)).length+(d.x.kids.flatMap (sI (ji hd (xs l)))).length<=t.length:=by
  rw [<-ht]
  unfold Ju
  simp only [nE]
  omega
 have ni:(hd d.x).size=(bl (hd d.x)).length:=rfl
 refine print_printer_write.ok _ _ _ w _ ⟨sh,c1,sQ r1 rfl (v:=.string (hd d.x)) (by rw [List.map_map,O1,gx];rfl) λp hp hc=>⟨_,hc,H.bdC 0 rfl (X0 (H.get 0) (hd d.x) (by omega)) ?_⟩⟩
 rintro _ w1 oo rfl H1
 obtain ⟨sh1,sl1,sd1,d0,d1,d2,d3,q1,q2,q3⟩:=yG (H1.getD 1)
 refine ⟨_,_,rfl,s,by rw [add_add];exact d0,oc (eG.1 (H1.getD 0)) rfl ga λp hp c'=>⟨d.ks,c'.c1,?_⟩⟩
 have OX:d.ks.n=d.x.kids.length:=by have h0:(fV d).P w1:=(eG.1 (H1.getD 0)).2 d Ac;simpa using h0.1
 have hfd:=hf d Ac
 have loop:∀(r pre:List Int) (w1:aA) (oo:List Nat),d.x.kids=pre++r->LH (·∈own) w w1 [.bd bb oo (bs++bl (hd d.x)++pre.flatMap (sI (ji hd (xs l))))] [.gr s l,.pr b ow s ((xs l).map hd) ls ds]->
   print_printer_write.L0 (bO b) (bO bb) d.ks d.ks ((d.ks.n:Nat):Int) ((pre.length:Nat):Int) w1 λr w'=>r=aJ (.tuple #[])/\uz w bb own (bs++t) w':=by
  intro r
  induction r with
  |nil=>
   intro pre w1 oo hp H1
   rw [uL] at hp
   subst hp
   have fin:∀{w2:aA} {Co:List Nat},LH (·∈own) w w2 [.bd bb Co (bs++t)] [.gr s l,.pr b ow s ((xs l).map hd) ls ds]->uz w bb own (bs++t) w2:=λH2=>⟨_,H2.get 0,H2.fr,λx hx=>(H2.new _ (dI (i:=0) rfl) x (aV.2 hx)).symm⟩
   refine print_printer_write.dE _ _ _ _ _ _ _ _ (aX (aK (by omega)) (bA (λh=>?_) (λh=>?_)))
   .have vU:d.x.kids≠[]:=λe=>by rw [e] at OX;simp at OX;omega
    have et:t=bl (hd d.x)++d.x.kids.flatMap (sI (ji hd (xs l)))++[41]:=by rw [<-ht];unfold Ju;rw [aI vU]
    refine H1.bdC 0 rfl (Lu (H1.get 0) 41 ?_) ?_
    .simp only [nE] at L7 ⊢
     omega
    rintro _ w2 Co rfl H2
    refine ⟨_,rfl,rfl,fin (Co:=Co) ?_⟩
    rw [et]
    simpa [tA] using H2
   .have vU:d.x.kids=[]:=Zi (by omega)
    have et:t=bl (hd d.x)++d.x.kids.flatMap (sI (ji hd (xs l))):=by rw [<-ht];unfold Ju;rw [aN vU,uL]
    refine ⟨rfl,fin (Co:=oo) ?_⟩
    rw [et,<-tA]
    exact H1
  |cons k r ihr=>
   intro pre w1 oo hp H1
   have hg:d.x.kids[pre.length]? =some k:=by rw [hp];simp
   have QU:pre.length<d.x.kids.length:=(nY.1 hg).1
   obtain ⟨k0,k1⟩:=hk i d ga k (dI hg)
   obtain ⟨j,rfl⟩:=Int.eq_ofNat_of_zero_le k0
   have GH:j<i:=by omega
   have hjt:(ji hd (xs l))[j]? =some ((ji hd (xs l)).getD j []):=by
    rw [List.getD_eq_getElem?_getD,ie (by rw [pH];simp [xs];omega)]
    rfl
   have ek:sI (ji hd (xs l)) (j:Int)=32::(ji hd (xs l)).getD j []:=by unfold sI;rw [Int.toNat_natCast]
   have AH:(pre.flatMap (sI (ji hd (xs l)))).length+(sI (ji hd (xs l)) (j:Int)).length<=(d.x.kids.flatMap (sI (ji hd (xs l)))).length:=by
    rw [hp,rS,rT]
    simp only [nE]
    omega
   rw [ek] at AH
   simp only [xB] at AH
   have hkd:(fV d).P w1:=(eG.1 (H1.getD 0)).2 d Ac
   refine print_printer_write.dE _ _ _ _ _ _ _ _ (bF (aO (by omega)) ⟨by omega,by omega,hU.cell hkd hg (by simp) λp JH hc=>⟨_,hc,H1.bdC 0 rfl (Lu (H1.get 0) 32 (by simp only [nE];omega)) ?_⟩⟩)
   rintro _ w2 Co rfl H2
   refine ⟨_,rfl,H2.bdC 0 rfl (ih j GH _ w2 bb Co _ hjt (H2.get 0) (λe he=>⟨H2.rd e he,λx hx hm=>H2.dj e he x hx _ (dI (i:=0) rfl) (aV.2 hm)⟩) (by simp only [nE,xB,JM];omega)) ?_⟩
   rintro _ w3 ac0 rfl H3
   refine ⟨rfl,?_⟩
   rw [bP _ (by omega)]
   have:=ihr (pre++[(j:Int)]) w3 ac0 (by rw [hp];simp) (by
    rw [rS,rT,List.flatMap_nil,uL,ek]
    simpa [tA] using H3)
   rw [nE] at this
   exact this
 exact loop d.x.kids [] w1 oo rfl (by simpa using H1)
end
def LL:∀(l:List Nat) (a:Nat),iI (a+(l.map iI).sum)=iI (a+l.sum)
 |[],_=>rfl
 |x::l,a=>by
  rw [AK,List.sum_cons,List.sum_cons,<-Nat.add_assoc,LL l,<-Nat.add_assoc]
  unfold iI
  omega
def Il (ts:List (List UInt8)):∀kids:List Int,(kids.flatMap (sI ts)).length=kids.length+(kids.map λk=>(ts.getD k.toNat []).length).sum
 |[]=>rfl
 |k::kids=>by
  rw [rT,nE,Il ts kids,AK,List.sum_cons]
  unfold sI
  simp only [xB]
  omega
def UJ (hd:Nx->ByteArray) (g:List Nx):tR hd g=(ji hd g).map λt=>iI t.length:=by
 induction g using tj with
 |h0=>rfl
 |h1 g n ih=>
  rw [Cd,yU,sP,ih]
  congr 1
  simp only [AK,List.map_nil,List.cons.injEq,and_true]
  have ea:(n.kids.map (DV ((ji hd g).map λt=>iI t.length))).sum=((n.kids.map λk=>((ji hd g).getD k.toNat []).length).map iI).sum:=by
   rw [List.map_map]
   congr 1
   refine List.map_congr_left λk _=>?_
   unfold DV
   rw [List.getD_eq_getElem?_getD,O1,Function.comp,List.getD_eq_getElem?_getD]
   cases (ji hd g)[k.toNat]?<;>rfl
  unfold len1 wq Ju
  rw [ea]
  have e1:(bl (hd n)++n.kids.flatMap (sI (ji hd g))++if n.kids=[] then [] else [41]).length=((hd n).size+n.kids.length+if n.kids=[] then 0 else 1)+(n.kids.map λk=>((ji hd g).getD k.toNat []).length).sum:=by
   rw [nE,nE,Il]
   have:(bl (hd n)).length=(hd n).size:=rfl
   rw [this]
   split<;>simp<;>omega
  rw [e1,<-LL]
  congr 1
  omega
section
variable {hd:Nx->ByteArray} {s:Sl} {l:List Nd}
def Sw (n:Nat) (t:List UInt8):aD:=if 64<n\/65536<t.length then .tuple #[.s0,.i 4] else .tuple #[.string ⟨t.toArray⟩,.i 0]
def PG {w:aA} (h:GP w s l) (hk:rV.P w) (hT:l.length<=4096->∀d∈l,XS d.x/\JZ d.x) (hv:Jx (xs l)=0) (ho:XP hd l) (Um:∀d∈l,0<(hd d.x).size) {i:Nat} {t:List UInt8} {n:Nat} (ht:(ji hd (xs l))[i]? =some t) (hn:(oX (xs l))[i]? =some n):
  aH aB nB #[.agg #[s.v],.i (i:Int)] w λr w'=>r=aJ (Sw n t)/\bW w w':=by
 have WA:=tL h
 have hl:i<l.length:=by have:=(nY.1 ht).1;rw [pH] at this;simpa [xs] using this
 have hlen:=ho.len
 have ga:l[i]? =some (l[i]'hl):=ie hl
 generalize l[i]'hl=d at ga
 have Ac:=dI ga
 have HY:Bc (xs l):=by
  intro j n hj k xM
  have SV:(l.map Nd.x)[j]? =some n:=hj
  rw [O1] at SV
  obtain ⟨e,he,rfl⟩:=Option.map_eq_some_iff.1 SV
  exact ho.kids j e he k xM
 have ht0:t≠[]:=λe=>by
  have h1:=yT hd HY (um ga)
  rw [ht] at h1
  have h1:=Option.some.inj h1
  have h2:=Um d Ac
  have h3:(bl (hd d.x)).length=(hd d.x).size:=rfl
  rw [e] at h1
  have:=congrArg List.length h1
  unfold Ju at this
  simp only [nE,JM] at this
  omega
 have rq:(tR hd (xs l))[i]? =some (iI t.length):=by rw [UJ,O1,ht];rfl
 have hdn:n<=10000:=by
  have:=(Fo (xs l)).2 n (dI hn)
  simp [xs] at this
  omega
 have H:LH F0 w w [] [.gr s l,rV]:=og _ (by
  intro e he
  simp only [dT,gL,or_false] at he
  rcases he with rfl|rfl
  .exact eG.2 h
  .exact hk)
 refine print_Term.dQ s _ w _ (H.cC λb2 w1 H1=>H1.bC (VB (eG.1 (H1.getD 0)) (H1.getD 1) hT) ?_)
 rintro _ w2 rfl H2
 rw [hv]
 refine ⟨_,rfl,aX rfl (aX (aK (by omega)) (aX (aK (by omega)) (H2.rC (aaq (eG.1 (H2.getD 0)) ho) ?_)))⟩
 rintro _ w3 ⟨b,own,rfl,hr,q5⟩ H3 fr
 have H3:LH F0 w w3 [.g b2] [.gr s l,rV,.pr b own s ((xs l).map hd) (tR hd (xs l)) (oX (xs l))]:=fr.rd (.pr b own s ((xs l).map hd) (tR hd (xs l)) (oX (xs l))) hr λx hx=>q5 x (aV.1 hx)
 obtain ⟨sh,sl,sd,c0,c1,c2,c3,r1,r2,r3⟩:=yG (H3.getD 2)
 refine ⟨_,rfl,sw ⟨sd,c3,sQ r3 rfl (v:=iO n) (by rw [O1,hn];rfl) λp hp hc=>⟨_,hc,bA (λEj=>?_) (λEj=>sw ⟨sl,c2,sQ r2 rfl (v:=iO (iI t.length)) (by rw [O1,rq];rfl) λp hp hc=>⟨_,hc,bA (λFC=>?_) (λFC=>?_)⟩⟩)⟩⟩⟩
 .exact ⟨by unfold Sw;rw [aN (.inl (by omega))],H3.fr⟩
 .exact ⟨by unfold Sw;rw [aN (.inr (by unfold iI at FC;omega))],H3.fr⟩
 have htl:t.length<=65536:=by unfold iI at FC;omega
 have NQ:iI t.length=t.length:=by unfold iI;omega
 refine H3.nw λw4 SZ H4=>?_
 obtain ⟨sh4,sl4,sd4,e0,e1,e2,e3,q1,q2,q3⟩:=yG (H4.getD 2)
 refine sw ⟨sl4,e2,sQ q2 rfl (v:=iO (iI t.length)) (by rw [O1,rq];rfl) λp hp hc=>⟨_,hc,?_⟩⟩
 have aaU:=H4.ob 1
 have H4':LH F0 w w4 ([.g b2]++[.bd w3.heap.size [w3.heap.size] []]) [.gr s l,rV,.pr b own s ((xs l).map hd) (tR hd (xs l)) (oX (xs l))]:=H4.group (.bd w3.heap.size [w3.heap.size] []) ⟨none,⟨none,0,0⟩,.inl rfl,rfl,aaU,Ow.nil _ _⟩ (λx hx=>by simpa [En.ob] using aV.1 hx)
 rw [NQ]
 refine H4'.bdF 1 rfl (Tp aaU (n:=t.length) (by omega)) ?_
 rintro _ w5 ac1 rfl H5
 have acw:∀{w:aA} {o:List Nat} {bs:List UInt8} {w':aA},LH F0 w w' ([.g b2,.bd w3.heap.size o bs]) [.gr s l,rV,.pr b own s ((xs l).map hd) (tR hd (xs l)) (oX (xs l))]->∀e∈[En.gr s l,.pr b own s ((xs l).map hd) (tR hd (xs l)) (oX (xs l))],e.P w'/\∀x∈e.fp,x∉o:=by
  intro w o bs w' H e he
  have hm:e∈[En.gr s l,rV,.pr b own s ((xs l).map hd) (tR hd (xs l)) (oX (xs l))]:=by
   simp only [dT,gL,or_false] at he ⊢
   rcases he with he|he
   .exact .inl he
   .exact .inr (.inr he)
  exact ⟨H.rd e hm,λx hx FK=>H.dj e hm x hx (.bd w3.heap.size o bs) (by simp) (aV.2 FK)⟩
 refine ⟨rfl,H5.bdF 1 rfl (TF (hd:=hd) ho.kids ho.few i t w5 _ ac1 [] ht (H5.get 1) (acw H5) (by simp;omega)) ?_⟩
 rintro _ w6 KN rfl H6
 rw [uI] at H6
 refine ⟨rfl,(·∈KN),λx hx hm=>lW H6 (i:=1) rfl (Pz w6 _ KN t) (b:=x) (by simp at hx;subst hx;simp) (aV.2 hm),(Nn (H6.get 1) ht0).mono ?_⟩
 rintro _ w7 ⟨rfl,f7⟩
 refine ⟨f7,_,rfl,by unfold Sw;rw [aI (by omega)],H6.fr.trans f7 λx hx hm=>?_⟩
 have:=H6.new (.bd w3.heap.size KN t) (dI (i:=1) rfl) x (aV.2 hm)
 rcases this with h|h
 .omega
 .exact h
end
abbrev hxB:ByteArray:=⟨#[48,49,50,51,52,53,54,55,56,57,97,98,99,100,101,102]⟩
def AZ (n:Nat):UInt8:=UInt8.ofNat (if n<10 then 48+n else 87+n)
def KB:∀n<16,hxB[n]? =some (AZ n):=by decide
def jJ (w:Nat):Nat:=if w%4=0 then 4 else 1
def Fl (u w i:Nat):UInt8:=AZ (u / 2^((w / jJ w - 1 - i) *jJ w)%2^jJ w)
def Cm (u w:Nat):List UInt8:=[35,if w%4=0 then 120 else 98]++(List.range (w / jJ w)).map (Fl u w)
def UL:∀w<65,18446744073709551615 / 2^(64 - w)=2^w - 1:=by decide
def PN {w:aA} {n:Nat} (h:n<=64):aH aB sj #[.i (n:Int)] w λr w'=>r=aJ (.u ((2^n - 1:Nat):Int))/\w'=w:=by
 have e:aC .i64 (64 - (n:Int))=((64 - n:Nat):Int):=by rw [aS _ (by omega)];omega
 refine bits_mask.ok _ w _ ?_
 rw [e]
 have e2:min (aF ((64 - n:Nat):Int)) (IntKind.bits .u64)=64 - n:=by
  rw [Int.toNat_natCast]
  show min (64 - n) 64=_
  omega
 have e3:Int.fdiv 18446744073709551615 (2^(64 - n))=((2^n - 1:Nat):Int):=by
  have:=yk 18446744073709551615 (2^(64 - n)) (Nat.two_pow_pos _)
  rw [UL n (by omega),Int.natCast_pow] at this
  exact this
 rw [e2,e3]
 exact ⟨by omega,rfl,rfl⟩
def J8 {w0:aA} {u w:Nat} (h1:1<=w) (h2:w<=64) (hu:u<2^w):aH aB vq #[.u (u:Int),.i (w:Int)] w0 λr w'=>r=aJ (.tuple #[.string (ba (Cm u w)),.i 0])/\bW w0 w':=by
 have hz:jJ w=4/\w%4=0\/jJ w=1/\w%4≠0:=by unfold jJ;split<;>simp [*]
 have acT:u<18446744073709551616:=Nat.lt_of_lt_of_le hu (Nat.pow_le_pow_right (n:=2) (by omega) h2)
 have valid:aH aB tS #[.u (u:Int),.i (w:Int)] w0 λr w'=>r=aJ (.i 0)/\w'=w0:=by
  refine bits_Valid.ok _ _ w0 _ (aX (aK (by omega)) (aX (aK (by omega)) ((PN h2).mono ?_)))
  rintro _ _ ⟨rfl,rfl⟩
  refine ⟨_,rfl,aX (aK ?_) ⟨rfl,rfl⟩⟩
  have:=Nat.two_pow_pos w
  omega
 have loop:∀(m i:Nat) (b:Sl) (w1:aA),i+m=w / jJ w->LH F0 w0 w1 [.row bS 1 b (([35,if w%4=0 then 120 else 98]++(List.range i).map (Fl u w)).map W.hV)] []->
   bits_Text.L2 (u:Int) ((jJ w:Nat):Int) ((w / jJ w:Nat):Int) b ((w / jJ w:Nat):Int) (i:Int) w1 λr w'=>r=aJ (.tuple #[.string (ba (Cm u w)),.i 0])/\bW w0 w':=by
  intro m
  induction m with
  |zero=>
   intro i b w1 hi H
   have hr:bD w1 bS 1 b (([35,if w%4=0 then 120 else 98]++(List.range i).map (Fl u w)).map W.hV):=H.get 0
   refine bits_Text.xP _ _ _ _ _ _ _ _ (aX (aK (by omega)) ⟨_,pT hr.ow1.rd,?_,H.fr⟩)
   unfold Cm
   rw [show i=w / jJ w by omega]
  |succ m ih=>
   intro i b w1 hi H
   have hwz:w / jJ w<=64:=Nat.le_trans (Nat.div_le_self _ _) h2
   have hmul:(w / jJ w) *jJ w<=w:=Nat.div_mul_le_self _ _
   have hs:(w / jJ w - 1 - i) *jJ w<64:=by
    have:(w / jJ w - 1 - i) *jJ w+jJ w<=(w / jJ w) *jJ w:=by
     rw [<-Nat.succ_mul]
     exact Nat.mul_le_mul_right _ (by omega)
    rcases hz with hz|hz<;>omega
   have e1:aC .i64 (((w / jJ w:Nat):Int) - 1)=((w / jJ w - 1:Nat):Int):=by rw [aS _ (by omega)];omega
   have e2:aC .i64 (((w / jJ w - 1:Nat):Int) - (i:Int))=((w / jJ w - 1 - i:Nat):Int):=by rw [aS _ (by omega)];omega
   have e3:aC .i64 (((w / jJ w - 1 - i:Nat):Int) *((jJ w:Nat):Int))=(((w / jJ w - 1 - i) *jJ w:Nat):Int):=by
    rw [<-Int.natCast_mul,aS _ (by omega)]
   have e4:min (aF (((w / jJ w - 1 - i) *jJ w:Nat):Int)) (IntKind.bits .u64)=(w / jJ w - 1 - i) *jJ w:=by
    rw [Int.toNat_natCast]
    show min _ 64=_
    omega
   have e5:Int.fdiv (u:Int) (2^((w / jJ w - 1 - i) *jJ w))=((u / 2^((w / jJ w - 1 - i) *jJ w):Nat):Int):=by
    have:=yk u (2^((w / jJ w - 1 - i) *jJ w)) (Nat.two_pow_pos _)
    rw [Int.natCast_pow] at this
    exact this
   have hq:u / 2^((w / jJ w - 1 - i) *jJ w)<18446744073709551616:=Nat.lt_of_le_of_lt (Nat.div_le_self _ _) acT
   have hz4:jJ w<=64:=by rcases hz with hz|hz<;>omega
   have acK:2^jJ w<=16:=by rcases hz with ⟨hz,_⟩|⟨hz,_⟩<;>rw [hz]<;>decide
   have hp0:=Nat.two_pow_pos (jJ w)
   have e6:za .u64 ((u / 2^((w / jJ w - 1 - i) *jJ w):Nat):Int) ((2^jJ w - 1:Nat):Int)=((u / 2^((w / jJ w - 1 - i) *jJ w)%2^jJ w:Nat):Int):=by
    rw [Pw _ _ hq (by omega),Nat.and_two_pow_sub_one_eq_mod]
   have jO:u / 2^((w / jJ w - 1 - i) *jJ w)%2^jJ w<16:=Nat.lt_of_lt_of_le (Nat.mod_lt _ hp0) acK
   refine bits_Text.xP _ _ _ _ _ _ _ _ (bF (aO (by omega)) (H.dr λw2 H2=>?_))
   rw [e1,e2,e3,e4,e5]
   refine ⟨by omega,(PN hz4).mono ?_⟩
   rintro _ _ ⟨rfl,rfl⟩
   refine ⟨_,rfl,?_⟩
   dsimp only
   rw [e6]
   refine ⟨by omega,Fl u w i,by rw [Int.toNat_natCast];exact KB _ jO,?_⟩
   have hbn:b.n=i+2:=by
    have h0:bD _ bS 1 b (([35,if w%4=0 then 120 else 98]++(List.range i).map (Fl u w)).map W.hV):=H2.get 0
    have:=h0.len
    simp at this
    omega
   refine H2.XW 0 iX rfl (λs' w3 H3 _ _=>?_) (by omega)
   rw [bP _ (by omega)]
   refine ih (i+1) s' w3 (by omega) ?_
   have er:(List.range (i+1)).map (Fl u w)=(List.range i).map (Fl u w)++[Fl u w i]:=by rw [List.range_succ,sP];rfl
   rw [er,<-tA,sP]
   exact H3
 have start:∀(mk:UInt8),(mk=if w%4=0 then 120 else 98)->bits_Text.S0 (u:Int) (w:Int) (mk.toNat:Int) ((jJ w:Nat):Int) w0 λr w'=>r=aJ (.tuple #[.string (ba (Cm u w)),.i 0])/\bW w0 w':=by
  intro mk hmk
  have QV:jJ w≠0:=by rcases hz with hz|hz<;>omega
  have ed:Int.tdiv (w:Int) ((jJ w:Nat):Int)=((w / jJ w:Nat):Int):=rfl
  have hwz:w / jJ w<=64:=Nat.le_trans (Nat.div_le_self _ _) h2
  have Mc:=Int.natCast_nonneg (w / jJ w)
  refine ⟨by omega,?_⟩
  rw [ed,aS _ (by omega)]
  have e2:aC .i64 (((w / jJ w:Nat):Int)+2)=((w / jJ w+2:Nat):Int):=by rw [aS _ (by omega)];omega
  unfold bits_Text.S1
  rw [e2]
  obtain ⟨w1,r1,r2,r3⟩:=Iu iX w0 .i64 .i64 (w / jJ w+2) (by omega)
  have H0:LH F0 w0 w0 [] []:=og _ (by simp)
  have H1:LH F0 w0 w1 [.row bS 1 ⟨some ⟨w0.heap.size,0,none⟩,0,w / jJ w+2⟩ ([]:List aD)] []:=H0.RM r3 r2.2 (by intro b hb;simp [bQ] at hb;omega)
  refine ⟨⟨some ⟨w0.heap.size,0,none⟩,0,w / jJ w+2⟩,w1,r1,H1.Y5 λw2 JJ H2 Dm=>?_⟩
  refine H2.ap 0 iX rfl (src:=⟨some (bO w1.heap.size),2,2⟩) (news:=[W.hV 35,W.hV mk]) (r8 (sz:=1) (n:=2) Dm rfl).2.2 rfl (by intro u hu;simp at hu;rcases hu with rfl|rfl<;>rfl) (by show (0+2) *1<=_;omega) λs' w3 H3 _ _=>?_
  refine loop (w / jJ w) 0 s' w3 (by omega) ?_
  rw [<-hmk]
  exact H3
 refine bits_Text.ok _ _ w0 _ (valid.mono ?_)
 rintro _ _ ⟨rfl,rfl⟩
 have hm:Int.tmod (w:Int) 4=((w%4:Nat):Int):=rfl
 refine ⟨_,rfl,aX rfl (aY (λh=>?_) (λh=>?_))⟩
 .rw [hm] at h
  have h0:w%4=0:=by omega
  have:=start 120 (by rw [aN h0])
  rw [show jJ w=4 by unfold jJ;rw [aN h0]] at this
  exact this
 .rw [hm] at h
  have h0:¬w%4=0:=by omega
  have:=start 98 (by rw [aI h0])
  rw [show jJ w=1 by unfold jJ;rw [aI h0]] at this
  exact this
def RQ (s:ByteArray) (i:Nat):s[i]? =(bl s)[i]?:=by
 by_cases hi:i<s.size
 .rw [getElem?_pos s i hi,ie (by rw [iH];exact hi)];rfl
 .rw [getElem?_neg s i hi,List.getElem?_eq_none (by rw [iH];omega)]
def z0 (c:UInt8):Bool:=decide (32<=c.toNat)&&decide (c.toNat<=126)&&!(c==34)&&!(c==92)
def A4 (c:UInt8):List UInt8:=if z0 c then [c] else if c=34\/c=92 then [92,c] else [92,120,AZ (c.toNat / 16),AZ (c.toNat%16)]
def ua (l:List UInt8):List UInt8:=34::l.flatMap A4++[34]
def Be {p:UInt8->Prop} (h:∀x:Fin 256,p (UInt8.ofNat x.val)) (c:UInt8):p c:=by
 have:=h ⟨c.toNat,c.toNat_lt⟩
 simpa using this
def Zh (c:UInt8):za .u8 (c.toNat:Int) 15=((c.toNat%16:Nat):Int):=Be (p:=λc=>za .u8 (c.toNat:Int) 15=((c.toNat%16:Nat):Int)) (by decide+kernel) c
def PJ (c:UInt8) (w:aA):aH aB q7 #[.int .u8 (c.toNat:Int)] w λr w'=>r=aJ (.bool (z0 c))/\w'=w:=by
 have e1:((c.toNat:Int) !=34)= !(c==34):=Be (p:=λc=>((c.toNat:Int) !=34)= !(c==34)) (by decide+kernel) c
 have e2:((c.toNat:Int) !=92)= !(c==92):=Be (p:=λc=>((c.toNat:Int) !=92)= !(c==92)) (by decide+kernel) c
 refine lexer_bare.ok _ w _ (bA (λh1=>bA (λh2=>?_) (λh2=>?_)) (λh1=>?_))
 .rw [e1,e2]
  refine bR (λh3=>⟨?_,rfl⟩) (λh3=>⟨?_,rfl⟩)
  .unfold z0
   rw [aO (show 32<=c.toNat by omega),aO (show c.toNat<=126 by omega),h3]
   rfl
  .unfold z0
   rw [h3,Bool.and_false,Bool.false_and]
 .exact ⟨by unfold z0;rw [aK (show ¬c.toNat<=126 by omega)];simp,rfl⟩
 .exact ⟨by unfold z0;rw [aK (show ¬32<=c.toNat by omega)];simp,rfl⟩
def Ge (c:UInt8):(A4 c).length<=4:=by
 unfold A4
 split
 .simp
 .split<;>simp
section
variable {w0:aA} {t:ByteArray} (ht:t.size<=64)
include ht
def Zg:∀(r pre:List UInt8) (b:Sl) (w:aA),bl t=pre++r->LH F0 w0 w [.row bS 1 b ((34::pre.flatMap A4).map W.hV)] []->
  lexer_Quote.L5 t b ((pre.length:Nat):Int) w λr w'=>r=aJ (.tuple #[.string (ba (ua (bl t))),.i 0])/\bW w0 w':=by
 have ni:t.size=(bl t).length:=rfl
 intro r
 induction r with
 |nil=>
  intro pre b w hp H
  rw [uL] at hp
  have hl:pre.length=t.size:=by rw [ni,hp]
  have Wn:∀l:List UInt8,(l.flatMap A4).length<=4 *l.length:=λl=>by
   induction l with
   |nil=>simp
   |cons c l ih=>have:=Ge c;rw [rT,nE,xB];omega
  have hbn:b.n<=1+4 *64:=by
   have h0:bD w bS 1 b ((34::pre.flatMap A4).map W.hV):=H.get 0
   have h1:=h0.len
   have h2:=Wn pre
   simp only [MG,xB] at h1
   omega
  refine lexer_Quote.Ln _ _ _ _ _ (aX (aK (by omega)) (H.XW 0 iX rfl (λs' w1 H1 _ _=>?_) (by omega)))
  have H1:LH F0 w0 w1 [.row bS 1 s' ((ua (bl t)).map W.hV)] []:=by
   rw [hp]
   unfold ua
   rw [sP]
   exact H1
  have h0:bD w1 bS 1 s' ((ua (bl t)).map W.hV):=H1.get 0
  exact ⟨_,pT h0.ow1.rd,rfl,H1.fr⟩
 |cons c r ih=>
  intro pre b w hp H
  have QU:pre.length<t.size:=by rw [ni,hp];simp
  have hg:t[pre.length]? =some c:=by
   rw [RQ,hp]
   simp
  have Wn:∀l:List UInt8,(l.flatMap A4).length<=4 *l.length:=λl=>by
   induction l with
   |nil=>simp
   |cons c l ih=>have:=Ge c;rw [rT,nE,xB];omega
  have hbn:b.n<=1+4 *64:=by
   have h0:bD w bS 1 b ((34::pre.flatMap A4).map W.hV):=H.get 0
   have h1:=h0.len
   have h2:=Wn pre
   simp only [MG,xB] at h1
   omega
  have next:∀(s':Sl) (w':aA),LH F0 w0 w' [.row bS 1 s' ((34::pre.flatMap A4).map W.hV++(A4 c).map W.hV)] []->lexer_Quote.S7 t s' ((pre.length:Nat):Int) w' λr w'=>r=aJ (.tuple #[.string (ba (ua (bl t))),.i 0])/\bW w0 w':=by
   intro s' w' H'
   show lexer_Quote.L5 t s' (aC .i64 (((pre.length:Nat):Int)+1)) w' _
   rw [bP _ (by omega)]
   have:=ih (pre++[c]) s' w' (by rw [hp];simp) (by
    rw [rS,rT,List.flatMap_nil,uL,<-yK,sP]
    exact H')
   rw [nE] at this
   exact this
  have two:A4 c=[92,c]->∀w,LH F0 w0 w [.row bS 1 b ((34::pre.flatMap A4).map W.hV)] []->lexer_Quote.S8 t b ((pre.length:Nat):Int) (c.toNat:Int) w λr w'=>r=aJ (.tuple #[.string (ba (ua (bl t))),.i 0])/\bW w0 w':=by
   intro he w H
   refine H.Y5 λw2 JJ H2 Dm=>H2.ap 0 iX rfl (src:=⟨some (bO w.heap.size),2,2⟩) (news:=[W.hV 92,W.hV c]) (r8 (sz:=1) (n:=2) Dm rfl).2.2 rfl (by intro u hu;simp at hu;rcases hu with rfl|rfl<;>rfl) (by show (b.n+2) *1<=_;omega) λs' w3 H3 _ _=>next s' w3 ?_
   rw [he]
   exact H3
  refine lexer_Quote.Ln _ _ _ _ _ (bF (aO (by omega)) ⟨by omega,c,by rw [Int.toNat_natCast];exact hg,(PJ c w).mono ?_⟩)
  rintro _ _ ⟨rfl,rfl⟩
  refine ⟨_,rfl,bR (λhb=>?_) (λhb=>aY (λh1=>?_) (λh1=>aY (λh2=>?_) (λh2=>H.dr λw2 H2=>?_)))⟩
  .refine H.XW 0 iX rfl (λs' w3 H3 _ _=>next s' w3 ?_) (by omega)
   unfold A4
   rw [aN hb]
   exact H3
  .have hc:c=34:=by apply UInt8.toNat_inj.1;show c.toNat=34;omega
   refine two ?_ _ H
   unfold A4
   rw [aI (by rw [hb];decide),aN (.inl hc)]
  .have hc:c=92:=by apply UInt8.toNat_inj.1;show c.toNat=92;omega
   refine two ?_ _ H
   unfold A4
   rw [aI (by rw [hb];decide),aN (.inr hc)]
  .have hc:¬(c=34\/c=92):=by
    rintro (rfl|rfl)
    .exact h1 rfl
    .exact h2 rfl
   have jO:=c.toNat_lt
   have e1:Int.fdiv (c.toNat:Int) (2^4)=((c.toNat / 16:Nat):Int):=yk c.toNat 16 (by omega)
   rw [e1,Zh]
   refine ⟨by omega,AZ (c.toNat / 16),by rw [Int.toNat_natCast];exact KB _ (by omega),by omega,AZ (c.toNat%16),by rw [Int.toNat_natCast];exact KB _ (by omega),?_⟩
   refine H2.Y5 λw3 hs3 H3 hb3=>H3.ap 0 iX rfl (src:=⟨some (bO w2.heap.size),4,4⟩) (news:=[W.hV 92,W.hV 120,W.hV (AZ (c.toNat / 16)),W.hV (AZ (c.toNat%16))]) (r8 (sz:=1) (n:=4) hb3 rfl).2.2 rfl (by intro u hu;simp at hu;rcases hu with rfl|rfl|rfl|rfl<;>rfl) (by show (b.n+4) *1<=_;omega) λs' w4 H4 _ _=>next s' w4 ?_
   unfold A4
   rw [aI (by rw [hb];decide),aI hc]
   exact H4
def Lz (w:aA) (h0:w0=w):aH aB qh #[.string t] w λr w'=>r=aJ (.tuple #[.string (ba (ua (bl t))),.i 0])/\bW w w':=by
 subst h0
 have ni:t.size=(bl t).length:=rfl
 have S4:∀(n:Nat),n<=1000->lexer_Quote.S4 t (n:Int) w0 λr w'=>r=aJ (.tuple #[.string (ba (ua (bl t))),.i 0])/\bW w0 w':=by
  intro n hn
  obtain ⟨w1,r1,r2,r3⟩:=Iu iX w0 .i64 .i64 n (by omega)
  have H0:LH F0 w0 w0 [] []:=og _ (by simp)
  have H1:LH F0 w0 w1 [.row bS 1 ⟨some ⟨w0.heap.size,0,none⟩,0,n⟩ ([]:List aD)] []:=H0.RM r3 r2.2 (by intro b hb;simp [bQ] at hb;omega)
  exact aX (aK (by omega)) ⟨⟨some ⟨w0.heap.size,0,none⟩,0,n⟩,w1,r1,H1.XW 0 iX rfl (λs' w3 H3 _ _=>Zg ht (bl t) [] s' w3 rfl H3) (by show (0+1) *1<=_;omega)⟩
 have loop:∀(m i n:Nat),i+m=t.size->n<=2+4 *i->lexer_Quote.L0 t (n:Int) (i:Int) w0 λr w'=>r=aJ (.tuple #[.string (ba (ua (bl t))),.i 0])/\bW w0 w':=by
  intro m
  induction m with
  |zero=>
   intro i n hi hn
   exact lexer_Quote.dE _ _ _ _ _ (aX (aK (by omega)) (S4 n (by omega)))
  |succ m ih=>
   intro i n hi hn
   have hg:(bl t)[i]? =some ((bl t)[i]'(by omega)):=ie (by omega)
   generalize (bl t)[i]'(by omega)=c at hg
   have next:∀k:Nat,k<=4->lexer_Quote.S2 t (aC .i64 ((n:Int)+(k:Int))) (i:Int) w0 λr w'=>r=aJ (.tuple #[.string (ba (ua (bl t))),.i 0])/\bW w0 w':=by
    intro k hk
    show lexer_Quote.L0 t (aC .i64 ((n:Int)+(k:Int))) (aC .i64 ((i:Int)+1)) w0 _
    rw [bP _ (by omega),aS _ (by omega)]
    exact ih (i+1) (n+k) (by omega) (by omega)
   refine lexer_Quote.dE _ _ _ _ _ (bF (aO (by omega)) (bF (aO (by omega)) ⟨by omega,c,by rw [Int.toNat_natCast,RQ];exact hg,(PJ c w0).mono ?_⟩))
   rintro _ _ ⟨rfl,rfl⟩
   exact ⟨_,rfl,bR (λ_=>next 1 (by omega)) (λ_=>aY (λ_=>next 2 (by omega)) (λ_=>aY (λ_=>next 2 (by omega)) (λ_=>next 4 (by omega))))⟩
 exact lexer_Quote.ok _ w0 _ (loop t.size 0 2 (by omega) (by omega))
end
def Cq (l:List UInt8):(ua l).length<=2+4 *l.length:=by
 have Wn:∀l:List UInt8,(l.flatMap A4).length<=4 *l.length:=λl=>by
  induction l with
  |nil=>simp
  |cons c l ih=>have:=Ge c;rw [rT,nE,xB];omega
 have:=Wn l
 unfold ua
 simp only [nE,xB,JM]
 omega
def EN (s:iQ):(zO s).size<=100:=by
 have z1:=oR s.n.toNat
 have z2:=oR s.x.toNat
 unfold zO
 split
 .simp only [lT,z_1,z_4];omega
 .split
  .simp only [lT,z_1,z_5];omega
  .simp only [lT,z_1,z_5];omega
def PB (a b:ByteArray):bl (a++b)=bl a++bl b:=by simp [bl]
def yZ (op:Int):List UInt8:=((XB.find? λp=>p.1==op).map (·.2)).getD []
def xU (n:Nx):List UInt8:=
 if n.op=21 then 32::bl (o8 n.n.toNat)++32::bl (o8 n.m.toNat) else if n.op=22\/n.op=23\/n.op=28 then 32::bl (o8 n.n.toNat) else if n.op=33 then 32::ua (bl n.tx) else []
def q0 (n:Nx):ByteArray:=
 if n.op=0 then n.tx else if n.op=1 then ba (Cm n.u.toNat n.st.n.toNat) else if n.op=2 then ba (ua (bl n.tx)) else
 if n.op=3 then ba ([40,122,101,114,111,32]++bl (zO n.st)++[41]) else ba (40::yZ n.op++xU n)
structure ZW (n:Nx):Prop where
 op:0<=n.op/\n.op<=34
 num:n.op=1->0<=n.u/\1<=n.st.n/\n.st.n<=64/\n.u.toNat<2^n.st.n.toNat
 st:n.op=3->cI n.st=true
 tx:n.op=2\/n.op=33->n.tx.size<=64
 nn:n.op=21\/n.op=22\/n.op=23\/n.op=28->0<=n.n/\n.n<100
 mm:n.op=21->0<=n.m/\n.m<100
def M9 {op:Int} (h1:4<=op) (h2:op<=34):wm GD op=some (.string (ba (yZ op)))/\(yZ op).length<=7:=by
 rcases tZ (by omega) h2 with rfl|rfl|rfl|rfl|rfl|rfl|rfl|rfl|rfl|rfl|rfl|rfl|rfl|rfl|rfl|rfl|rfl|rfl|rfl|rfl|rfl|rfl|rfl|rfl|rfl|rfl|rfl|rfl|rfl|rfl|rfl|rfl|rfl|rfl|rfl
 iterate 4 omega
 all_goals exact ⟨rfl,by decide⟩
def Ir {P:aQ} {T kt et:aP} {kd:IntKind} {z:aD} (mo:GW P T kt et kd z) {w:aA} {mb:Nat} {es:Array MapEntry} {clock:Nat} {ms:List (Int×aD)}
  (hm:w.heap[mb]? =some (.map es clock)) (wF:sV kd es ms) (k:Int):
  (Instr.lookup T (.map (some mb)) (.int kd k) false).run P w=.ok ((wm ms k).getD z) w:=by
 have hf:=se (k:=k) (i:=0) wF
 have hg:(getObj mb).run P w=.ok (.map es clock) w:=by simp [getObj,Sem.run,hm]
 have Ad:=Cg (ms:=ms) (k:=k) (i:=0)
 unfold Instr.lookup Instr.findKey
 simp only [Sem.run_bind,run_underlying mo.hT,Result.andThen_ok,hg,Sem.run_pure,tD mo.hk,run_underlying mo.hk,hf]
 cases hr:((ms.findIdx? λp=>p.1==k).bind λj=>(ms[j]?).map λp=>(0+j,p.2)) with
 |none=>rw [hr] at Ad;simp [<-Ad,sT mo.hz]
 |some q=>rw [hr] at Ad;simp [<-Ad]
def Wl {d:Nd} (h:ZW d.x):aab q0 d:=by
 intro w m es c hm wF
 have z1:=oR d.x.n.toNat
 have z2:=oR d.x.m.toNat
 have H:LH F0 w w [] [.ob m (.map es c)]:=og _ (by
  intro e he
  rw [IW.1 he]
  exact hm)
 refine print_nodeHead.dQ _ _ _ _ _ _ _ _ _ _ w _ (H.cC λb1 w1 H1=>aY (λh0=>⟨?_,H1.fr⟩) (λh0=>aY (λh1=>?_) (λh1=>aY (λh2=>?_) (λh2=>aY (λh3=>?_) (λh3=>?_)))))
 .unfold q0;rw [aN h0]
 .obtain ⟨a1,a2,a3,a4⟩:=h.num h1
  have eu:d.x.u=((d.x.u.toNat:Nat):Int):=by omega
  have en:d.x.st.n=((d.x.st.n.toNat:Nat):Int):=by omega
  rw [eu,en]
  refine H1.bC (J8 (by omega) (by omega) a4) ?_
  rintro _ w2 rfl H2
  exact ⟨_,_,rfl,by unfold q0;rw [aI h0,aN h1],H2.fr⟩
 .refine H1.bC (Lz (h.tx (.inl h2)) w1 rfl) ?_
  rintro _ w2 rfl H2
  exact ⟨_,_,rfl,by unfold q0;rw [aI h0,aI h1,aN h2],H2.fr⟩
 .refine H1.bC (KU (s:=d.x.st) (h.st h3)) ?_
  rintro _ w2 rfl H2
  have hs:(zO d.x.st).size<=100:=EN _
  refine ⟨_,rfl,nc ?_,nc ?_,?_,H2.fr⟩
  .show 6+_<=_;omega
  .rw [lT];show 6+_+1<=_;omega
  .unfold q0;rw [aI h0,aI h1,aI h2,aN h3,<-dW,<-dW,rA];rfl
 have h4:4<=d.x.op:=by have:=h.op;omega
 obtain ⟨hw,hwl⟩:=M9 h4 h.op.2
 have hl:=Ir (P:=aB) Iw (show w1.heap[m]? =some (.map es c) from H1.getD 0) wF d.x.op
 rw [hw] at hl
 have hwz:=cN (yZ d.x.op)
 have fin:∀(t:ByteArray) (w2:aA),t=ba (xU d.x)->bW w w2->(λr w'=>r=Ending.returned (.string (q0 d.x))/\bW w w') (aJ (.string ((aE #[40]++ba (yZ d.x.op))++t))) w2:=λt w2 ht f2=>⟨by
  unfold q0;rw [aI h0,aI h1,aI h2,aI h3,ht,<-dW];rfl,f2⟩
 have ach:∀(w2:aA),xU d.x=[]->bW w w2->(λr w'=>r=Ending.returned (.string (q0 d.x))/\bW w w') (aJ (.string (aE #[40]++ba (yZ d.x.op)))) w2:=λw2 ht f2=>⟨by
  unfold q0;rw [aI h0,aI h1,aI h2,aI h3,ht,uL];rfl,f2⟩
 have one:d.x.op=22\/d.x.op=23\/d.x.op=28->print_nodeHead.fN b1 d.x.op d.ks d.x.n d.x.m d.x.u d.x.tx d.x.st.k d.x.st.n d.x.st.x (aE #[40]++ba (yZ d.x.op)) w1 λr w'=>r=aJ (.string (q0 d.x))/\bW w w':=by
  intro ho
  obtain ⟨n1,n2⟩:=h.nn (.inr ho)
  refine H1.bC (CC n1 n2) ?_
  rintro _ w2 rfl H2
  refine ⟨_,rfl,nc ?_,nc ?_,fin _ w2 ?_ H2.fr⟩
  .show 1+_<=_;omega
  .rw [lT,lT,hwz];show 1+_+(1+_)<=_;omega
  .unfold xU;rw [aI (by omega),aN ho];rfl
 have last:d.x.op≠21->d.x.op≠22->d.x.op≠23->d.x.op≠28->print_nodeHead.ir b1 d.x.op d.ks d.x.n d.x.m d.x.u d.x.tx d.x.st.k d.x.st.n d.x.st.x (aE #[40]++ba (yZ d.x.op)) d.x.op w1 λr w'=>r=aJ (.string (q0 d.x))/\bW w w':=by
  intro o1 o2 o3 o4
  refine aY (λox=>?_) (λox=>ach _ ?_ H1.fr)
  .have ht:=h.tx (.inr ox)
   refine H1.bC (Lz ht w1 rfl) ?_
   rintro _ w2 rfl H2
   have hq:=Cq (bl d.x.tx)
   have hz:d.x.tx.size=(bl d.x.tx).length:=rfl
   refine ⟨_,_,rfl,nc ?_,nc ?_,fin _ w2 ?_ H2.fr⟩
   .rw [cN];show 1+_<=_;omega
   .rw [lT,lT,hwz,cN];show 1+_+(1+_)<=_;omega
   .unfold xU;rw [aI o1,aI (by omega),aN ox];exact dW [32] _
  .unfold xU;rw [aI o1,aI (by omega),aI ox]
 refine ⟨_,hl,nc (by rw [hwz];show 1+_<=_;omega),aY (λKq=>?_) (λKq=>aY (λh22=>bF (by rw [h22];rfl) (one (.inl h22))) (λh22=>aY (λZ4=>bF (by rw [Z4];rfl) (one (.inr (.inl Z4)))) (λZ4=>aY (λh28=>one (.inr (.inr h28))) (λh28=>last Kq h22 Z4 h28))))⟩
 obtain ⟨n1,n2⟩:=h.nn (.inl Kq)
 obtain ⟨m1,m2⟩:=h.mm Kq
 refine H1.bH λw2 H2=>H2.bC (CC n1 n2) ?_
 rintro _ w3 rfl H3
 refine ⟨_,rfl,nc ?_,nc ?_,H3.bC (CC m1 m2) ?_⟩
 .show 1+_<=_;omega
 .rw [lT];show 1+_+1<=_;omega
 rintro _ w4 rfl H4
 refine ⟨_,rfl,nc ?_,nc ?_,fin _ w4 ?_ H4.fr⟩
 .simp only [lT,z_1];omega
 .simp only [lT,z_1,hwz];omega
 .unfold xU;rw [aN Kq,<-rA (o8 d.x.n.toNat),<-rA (o8 d.x.m.toNat)]
  show ((ba [32]++_)++ba [32])++_=_
  rw [dW,dW,dW]
  simp [r7]
def QN {n:Nx} (h:ZW n) (h0:n.op=0->0<n.tx.size/\n.tx.size<=16):0<(q0 n).size/\(q0 n).size<=1000:=by
 have z1:=oR n.n.toNat
 have z2:=oR n.m.toNat
 have l1:(bl (o8 n.n.toNat)).length=(o8 n.n.toNat).size:=rfl
 have l2:(bl (o8 n.m.toNat)).length=(o8 n.m.toNat).size:=rfl
 unfold q0
 split
 .rename_i ho;have:=h0 ho;omega
 split
 .rename_i h1 ho
  obtain ⟨_,_,a3,_⟩:=h.num ho
  rw [cN]
  unfold Cm
  simp only [nE,xB,JM,MG,List.length_range]
  have:=Nat.div_le_self n.st.n.toNat (jJ n.st.n.toNat)
  have h0:0<=n.st.n.toNat / jJ n.st.n.toNat:=Nat.zero_le _
  generalize n.st.n.toNat / jJ n.st.n.toNat=q at *
  omega
 split
 .rename_i ho
  have:=h.tx (.inl ho)
  have hz:n.tx.size=(bl n.tx).length:=rfl
  have hq:=Cq (bl n.tx)
  rw [cN]
  have:0<(ua (bl n.tx)).length:=by unfold ua;simp
  omega
 split
 .have hs:=EN n.st
  have hz:(zO n.st).size=(bl (zO n.st)).length:=rfl
  rw [cN]
  simp only [nE,xB,JM]
  omega
 .have h4:4<=n.op:=by have:=h.op;omega
  obtain ⟨hw,hwl⟩:=M9 h4 h.op.2
  have ha:(xU n).length<=300:=by
   unfold xU
   split
   .simp only [nE,xB];omega
   split
   .simp only [xB];omega
   split
   .rename_i ox
    have:=h.tx (.inr ox)
    have hz:n.tx.size=(bl n.tx).length:=rfl
    have hq:=Cq (bl n.tx)
    simp only [xB];omega
   .simp
  rw [cN]
  simp only [nE,xB]
  omega
def Dl (r:List UInt8):Prop:=r=[]\/∃s,r=32::s\/r=41::s
def Wd (a:List UInt8):Prop:=∀c∈a,c≠32/\c≠41
def XA {d:UInt8} {b r s:List UInt8} (hb:Wd (d::b)) (hr:Dl r) (h:r=(d::b)++s):False:=by
 have hd:=hb d (by simp)
 rcases hr with rfl|⟨q,rfl|rfl⟩<;>rw [yK] at h
 .cases h
 .injection h with h1 _;exact hd.1 h1.symm
 .injection h with h1 _;exact hd.2 h1.symm
def tv:∀{a b r s:List UInt8},Wd a->Wd b->Dl r->Dl s->a++r=b++s->a=b/\r=s
 |[],[],_,_,_,_,_,_,h=>⟨rfl,h⟩
 |[],_::_,_,_,_,hb,hr,_,h=>(XA hb hr h).elim
 |_::_,[],_,_,ha,_,_,hs,h=>(XA ha hs h.symm).elim
 |c::a,d::b,r,s,ha,hb,hr,hs,h=>by
  rw [yK,yK] at h
  injection h with h1 h2
  obtain ⟨e,e2⟩:=tv (λx hx=>ha x (by simp [hx])) (λx hx=>hb x (by simp [hx])) hr hs h2
  exact ⟨by rw [h1,e],e2⟩
def FL:∀a<16,∀b<16,AZ a=AZ b->a=b:=by decide
def YN:∀a<16,AZ a≠32/\AZ a≠41:=by decide
def AS {c:UInt8} (h:z0 c=true):c≠34/\c≠92:=by
 unfold z0 at h
 simp at h
 exact ⟨h.1.2,h.2⟩
def IV (c:UInt8):∃d r,A4 c=d::r/\d≠34:=by
 unfold A4
 split
 .rename_i h;exact ⟨c,[],rfl,(AS h).1⟩
 .split
  .exact ⟨92,_,rfl,by decide⟩
  .exact ⟨92,_,rfl,by decide⟩
def Oh {c d:UInt8} {r s:List UInt8} (h:A4 c++r=A4 d++s):c=d/\r=s:=by
 have lc:=c.toNat_lt
 have ld:=d.toNat_lt
 unfold A4 at h
 split at h
 .rename_i hc
  obtain ⟨_,c2⟩:=AS hc
  split at h
  .simpa using h
  .split at h<;>simp at h<;>exact absurd h.1 c2
 .split at h
  .rename_i hc
   split at h
   .rename_i hd
    simp at h
    exact absurd h.1.symm (AS hd).2
   .split at h
    .simpa using h
    .simp at h
     rcases hc with rfl|rfl
     .exact absurd h.1 (by decide)
     .exact absurd h.1 (by decide)
  .split at h
   .rename_i hd
    simp at h
    exact absurd h.1.symm (AS hd).2
   .split at h
    .rename_i hd
     simp at h
     rcases hd with rfl|rfl
     .exact absurd h.1 (by decide)
     .exact absurd h.1 (by decide)
    .simp only [yK,uI,List.cons.injEq,true_and] at h
     have e1:=FL _ (by omega) _ (by omega) h.1
     have e2:=FL _ (by omega) _ (by omega) h.2.1
     exact ⟨UInt8.toNat_inj.1 (by omega),h.2.2⟩
def EF:∀{a b r s:List UInt8},a.flatMap A4++34::r=b.flatMap A4++34::s->a=b/\r=s
 |[],[],_,_,h=>⟨rfl,by simpa using h⟩
 |[],d::b,r,s,h=>by
  obtain ⟨x,y,e,hx⟩:=IV d
  rw [rT,e] at h
  simp at h
  exact absurd h.1.symm hx
 |c::a,[],r,s,h=>by
  obtain ⟨x,y,e,hx⟩:=IV c
  rw [rT,e] at h
  simp at h
  exact absurd h.1 hx
 |c::a,d::b,r,s,h=>by
  rw [rT,rT,tA,tA] at h
  obtain ⟨e1,h⟩:=Oh h
  obtain ⟨e2,h⟩:=EF h
  exact ⟨by rw [e1,e2],h⟩
def Cr {a b r s:List UInt8} (h:ua a++r=ua b++s):a=b/\r=s:=by
 unfold ua at h
 simp only [yK,tA,uI,List.cons.injEq,true_and] at h
 exact EF h
def LS {b:Nat} (hb:0<b):∀(k u v:Nat),u<b^k->v<b^k->(∀i<k,u / b^i%b=v / b^i%b)->u=v
 |0,u,v,hu,hv,_=>by rw [Nat.pow_zero] at hu hv;omega
 |k+1,u,v,hu,hv,h=>by
  have h0:=h 0 (by omega)
  rw [Nat.pow_zero,Nat.div_one,Nat.div_one] at h0
  have:=LS hb k (u / b) (v / b) (by rw [Nat.div_lt_iff_lt_mul hb,<-Nat.pow_succ];exact hu) (by rw [Nat.div_lt_iff_lt_mul hb,<-Nat.pow_succ];exact hv) (λi hi=>by
   have:=h (i+1) (by omega)
   rw [Nat.pow_succ',<-Nat.div_div_eq_div_mul,<-Nat.div_div_eq_div_mul] at this
   exact this)
  rw [<-Nat.div_add_mod u b,<-Nat.div_add_mod v b,this,h0]
def nZ (w:Nat):jJ w=4/\w%4=0\/jJ w=1/\w%4≠0:=by unfold jJ;split<;>simp [*]
def Rw (u w:Nat):Wd (Cm u w):=by
 have hs:=nZ w
 have hp:2^jJ w<=16/\0<2^jJ w:=by rcases hs with ⟨h,_⟩|⟨h,_⟩<;>rw [h]<;>decide
 intro c hc
 unfold Cm at hc
 rcases gg.1 hc with hc|hc
 .simp only [dT,gL,or_false] at hc
  rcases hc with rfl|rfl
  .decide
  .split<;>decide
 .obtain ⟨i,_,rfl⟩:=pN.1 hc
  exact YN _ (Nat.lt_of_lt_of_le (Nat.mod_lt _ hp.2) hp.1)
def UU {u v w x:Nat} (h1:u<2^w) (h2:v<2^x) (h:Cm u w=Cm v x):u=v/\w=x:=by
 have hw:=nZ w
 have hx:=nZ x
 unfold Cm at h
 rw [yK,yK,yK,yK,uI,uI] at h
 injection h with _ h
 injection h with hm h
 have h4:w%4=0↔x%4=0:=by
  by_cases a:w%4=0<;>by_cases b:x%4=0<;>simp [a,b] at hm ⊢
 have hz:jJ w=jJ x:=by omega
 have hl:w / jJ w=x / jJ x:=by simpa using congrArg List.length h
 have hwx:w=x:=by
  rcases hw with ⟨a,b⟩|⟨a,b⟩
  .rw [<-hz,a] at hl;omega
  .rw [<-hz,a] at hl;omega
 subst hwx
 refine ⟨?_,rfl⟩
 have hmul:w / jJ w *jJ w=w:=by
  rcases hw with ⟨a,b⟩|⟨a,b⟩<;>rw [a]<;>omega
 have hp:2^jJ w<=16/\0<2^jJ w:=by rcases hw with ⟨h,_⟩|⟨h,_⟩<;>rw [h]<;>decide
 have hpw:(2^jJ w)^(w / jJ w)=2^w:=by rw [<-Nat.pow_mul,Nat.mul_comm,hmul]
 refine LS hp.2 (w / jJ w) u v (by rw [hpw];exact h1) (by rw [hpw];exact h2) λi hi=>?_
 have hg:=congrArg (λl=>l[w / jJ w - 1 - i]?) h
 simp only [O1] at hg
 rw [List.getElem?_range (by omega)] at hg
 simp only [Option.map_some,Option.some.injEq] at hg
 unfold Fl at hg
 have:=FL _ (Nat.lt_of_lt_of_le (Nat.mod_lt _ hp.2) hp.1) _ (Nat.lt_of_lt_of_le (Nat.mod_lt _ hp.2) hp.1) hg
 rw [show w / jJ w - 1 - (w / jJ w - 1 - i)=i by omega,Nat.mul_comm i,Nat.pow_mul] at this
 exact this
def unB (l:List UInt8):Nat:=l.foldl (λa c=>10 *a+(c.toNat - 48)) 0
def Qm:∀a<100,unB (bl (o8 a))=a:=by decide
def LR:∀a<100,∀c∈bl (o8 a),c≠32/\c≠41:=by decide
def s5 {a b:Int} {r s:List UInt8} (ha:0<=a/\a<100) (hb:0<=b/\b<100) (hr:Dl r) (hs:Dl s) (h:bl (o8 a.toNat)++r=bl (o8 b.toNat)++s):a=b/\r=s:=by
 obtain ⟨e,e2⟩:=tv (LR a.toNat (by omega)) (LR b.toNat (by omega)) hr hs h
 have:=congrArg unB e
 rw [Qm _ (by omega),Qm _ (by omega)] at this
 exact ⟨by omega,e2⟩
def skW (k:Int):List UInt8:=if k=0 then [40,98,118] else if k=1 then [40,115,116,114] else [40,97,114,if k=2 then 114 else 115]
def Sb (s:iQ):bl (zO s)=skW s.k++32::((if s.k=0\/s.k=1 then [] else bl (o8 s.x.toNat)++[32])++(bl (o8 s.n.toNat)++[41])):=by
 have e:∀l:Array UInt8,bl (aE l)=l.toList:=λ_=>rfl
 unfold zO skW
 split
 .rename_i h
  simp only [aN (Or.inl h:s.k=0\/s.k=1),PB,e]
  rfl
 .split
  .rename_i h
   simp only [aN (Or.inr h:s.k=0\/s.k=1),PB,e]
   rfl
  .simp only [aI (show ¬(s.k=0\/s.k=1) by omega),PB,e]
   simp
def W2 (k:Int):Wd (skW k):=by
 unfold skW
 split
 .unfold Wd;decide
 .split
  .unfold Wd;decide
  .split<;>unfold Wd<;>decide
def Zp {a b:Int} (ha:0<=a/\a<=3) (hb:0<=b/\b<=3) (h:skW a=skW b):a=b:=by
 have h1:a=0\/a=1\/a=2\/a=3:=by omega
 have h2:b=0\/b=1\/b=2\/b=3:=by omega
 rcases h1 with rfl|rfl|rfl|rfl<;>rcases h2 with rfl|rfl|rfl|rfl<;>first |rfl|exact absurd h (by decide)
def OA {a b:iQ} {r s:List UInt8} (ha:cI a=true) (hb:cI b=true) (h:bl (zO a)++r=bl (zO b)++s):a=b/\r=s:=by
 obtain ⟨a1,a2,a3,a4,a5,a6⟩:=zS ha
 obtain ⟨b1,b2,b3,b4,b5,b6⟩:=zS hb
 have va:=nL.1 ha
 have vb:=nL.1 hb
 simp only [Sb,tA,yK,uI] at h
 obtain ⟨e,h⟩:=tv (W2 _) (W2 _) (.inr ⟨_,.inl rfl⟩) (.inr ⟨_,.inl rfl⟩) h
 have ek:=Zp ⟨a1,a2⟩ ⟨b1,b2⟩ e
 injection h with _ h
 have fin:∀{r s:List UInt8},bl (o8 a.n.toNat)++41::r=bl (o8 b.n.toNat)++41::s->a.n=b.n/\r=s:=λ{r s} h=>by
  obtain ⟨e,h⟩:=s5 ⟨a3,a4⟩ ⟨b3,b4⟩ (.inr ⟨_,.inr rfl⟩) (.inr ⟨_,.inr rfl⟩) h
  injection h with _ h
  exact ⟨e,h⟩
 have eq:a.n=b.n->a.x=b.x->a=b:=λh1 h2=>by
  cases a;cases b
  simp only at ek h1 h2
  subst ek h1 h2
  rfl
 by_cases hk:a.k=0\/a.k=1
 .rw [aN hk,aN (ek▸hk),uI,uI] at h
  obtain ⟨en,h⟩:=fin h
  exact ⟨eq en (by omega),h⟩
 .rw [aI hk,aI (ek▸hk)] at h
  simp only [tA,yK,uI] at h
  obtain ⟨ex,h⟩:=s5 ⟨a5,a6⟩ ⟨b5,b6⟩ (.inr ⟨_,.inl rfl⟩) (.inr ⟨_,.inl rfl⟩) h
  injection h with _ h
  obtain ⟨en,h⟩:=fin h
  exact ⟨eq en ex,h⟩
section
variable {ts:List (List UInt8)}
def B7 (a:List Int) (r:List UInt8):Dl (a.flatMap (sI ts)++41::r):=by
 cases a with
 |nil=>exact .inr ⟨r,.inr rfl⟩
 |cons k a=>exact .inr ⟨_,.inl rfl⟩
def B9 {i:Nat} (ih:∀m<i,∀(j:Nat) (t t' r s:List UInt8),ts[m]? =some t->ts[j]? =some t'->Dl r->Dl s->t++r=t'++s->m=j/\r=s) (hi:i<=ts.length):
  ∀(a b:List Int) (r s:List UInt8),(∀k∈a,0<=k/\k<(i:Int))->(∀k∈b,0<=k/\k<(ts.length:Int))->a.length=b.length->a.flatMap (sI ts)++41::r=b.flatMap (sI ts)++41::s->a=b/\r=s
 |[],[],r,s,_,_,_,h=>⟨rfl,by simpa using h⟩
 |[],_::_,_,_,_,_,hl,_=>by cases hl
 |_::_,[],_,_,_,_,hl,_=>by cases hl
 |k::a,m::b,r,s,ha,hb,hl,h=>by
  have hk:=ha k (by simp)
  have hm:=hb m (by simp)
  have gk:ts[k.toNat]? =some (ts[k.toNat]'(by omega)):=ie (by omega)
  have gm:ts[m.toNat]? =some (ts[m.toNat]'(by omega)):=ie (by omega)
  rw [rT,rT,tA,tA] at h
  unfold sI at h
  rw [yK,yK,List.getD_eq_getElem?_getD,List.getD_eq_getElem?_getD,gk,gm] at h
  injection h with _ h
  obtain ⟨e,h⟩:=ih k.toNat (by omega) m.toNat _ _ _ _ gk gm (B7 (ts:=ts) a r) (B7 (ts:=ts) b s) h
  obtain ⟨e2,h⟩:=B9 ih hi a b r s (λx hx=>ha x (by simp [hx])) (λx hx=>hb x (by simp [hx])) (by simpa using hl) h
  exact ⟨by rw [e2,show k=m by omega],h⟩
end
def Zw {g:List Nx} {n:Nx} {s:iQ} (h:3<n.op):eF g (gM n s)=eF g n:=by
 unfold eF
 rw [aI (show ¬(gM n s).op<=3 from Int.not_le.2 h),aI (Int.not_le.2 h)]
 rfl
structure NxP (n:Nx):Prop where
 kl:eO n.op=(n.kids.length:Int)
 nn:xj n.op=false->n.n=0
 mm:n.op≠21->n.m=0
 uu:n.op≠1->n.u=0
 tx:zm n.op=false->n.tx=ba []
def zZ.p {g:List Nx} {n:Nx} (h:zZ g n):NxP n:=by
 have ho:=h.ok
 unfold okF at ho
 simp only [Bool.and_eq_true,Bool.or_eq_true,beq_iff_eq,decide_eq_true_eq] at ho
 exact ⟨h.kl,λe=>ho.1.1.1.resolve_left (by rw [e];decide),λe=>ho.1.1.2.resolve_left e,λe=>ho.1.2.resolve_left e,λe=>ho.2.resolve_left (by rw [e];decide)⟩
def Vg.all {g:List Nx} (h:Vg g) {i:Nat} {d:Nx} (hd:g[i]? =some d):eF g d=(d.st,0):=by
 have eL:=h.ok i d hd
 have:=Vr (g:=g.take i) (r:=g.drop i) (n:=d) (by rw [eL]) λh0 e he e0 et=>h.vars e (List.mem_of_mem_drop he) e0 d (dI hd) h0 et
 rw [List.take_append_drop,eL] at this
 exact this
def Rz {g:List Nx} (hv:Vg g) {i j:Nat} {a b:Nx} (ha:g[i]? =some a) (hb:g[j]? =some b) (ho:a.op=b.op) (hk:a.kids=b.kids) (hn:xj a.op=true->a.n=b.n) (hm:a.op=21->a.m=b.m) (hu:a.op=1->a.u=b.u) (ht:zm a.op=true->a.tx=b.tx) (hs:a.op<=3->a.st=b.st):i=j:=by
 have pa:=(hv.O3 i a ha).p
 have pb:=(hv.O3 j b hb).p
 have en:a.n=b.n:=by
  cases h:xj a.op with
  |true=>exact hn h
  |false=>rw [pa.nn h,pb.nn (ho▸h)]
 have em:a.m=b.m:=by
  by_cases h:a.op=21
  .exact hm h
  .rw [pa.mm h,pb.mm (ho▸h)]
 have eu:a.u=b.u:=by
  by_cases h:a.op=1
  .exact hu h
  .rw [pa.uu h,pb.uu (ho▸h)]
 have et:a.tx=b.tx:=by
  cases h:zm a.op with
  |true=>exact ht h
  |false=>rw [pa.tx h,pb.tx (ho▸h)]
 have ew:gM b a.st=a:=by
  cases a;cases b
  simp only at *
  subst ho hk en em eu et
  rfl
 have es:a.st=b.st:=by
  by_cases h:a.op<=3
  .exact hs h
  .have h1:=hv.all ha
   have h2:=hv.all hb
   rw [<-ew,Zw (by omega),h2] at h1
   exact (congrArg Prod.fst h1).symm
 have e:a=b:=by
  rw [<-ew,es]
  rfl
 have h1:=Md hv ha
 have h2:=Md hv hb
 rw [e,h2] at h1
 exact (Option.some.inj h1).symm
def A0 {g:List Nx} {n:Nx} (h:eF g n=(n.st,0)):(n.op=0->qq (bl n.tx)=true)/\(n.op=1->n.st.k=0/\OU n.u n.st.n=false)/\(n.op=2->n.st=oM n.tx.size/\n.tx.size<=64):=by
 have lf:n.op<=3->dH g n=(n.st,0):=λh3=>by
  unfold eF at h
  split at h
  .simp at h
  .first |exact h|(rw [aN h3] at h;exact h)
 refine ⟨λho=>?_,λho=>?_,λho=>?_⟩
 .have:=lf (by omega)
  unfold dH at this
  rw [aI (by omega)] at this
  split at this
  .simp at this
  .rename_i hc
   simpa [ho] using hc
 .have:=lf (by omega)
  unfold dH at this
  rw [aI (by omega),aI (by omega)] at this
  split at this
  .simp at this
  split at this
  .simp at this
  rename_i h1
  split at this
  .simp at this
  rename_i h2
  refine ⟨?_,?_⟩
  .rcases Int.decEq n.st.k 0 with h|h
   .exact absurd (.inl ⟨ho,h⟩) h1
   .exact h
  .cases hb:OU n.u n.st.n with
   |false=>rfl
   |true=>exact absurd ⟨ho,hb⟩ h2
 .have:=lf (by omega)
  unfold dH at this
  rw [aN ho] at this
  split at this
  .simp at this
  .simp at this
   exact ⟨this.symm,by omega⟩
def wh.hd {g:List Nx} (h:wh g) {i:Nat} {n:Nx} (hi:g[i]? =some n):ZW n/\(n.op=0->0<n.tx.size/\n.tx.size<=16):=by
 have md:=h.nd n (dI hi)
 have O3:=h.vg.O3 i n hi
 have al:=h.vg.all hi
 obtain ⟨l0,l1,l2⟩:=A0 al
 have hv:=h.vg.val n (dI hi)
 have vi:=nL.1 hv
 have OX:-1<=eO n.op:=(Af n.op).1
 have op0:0<=n.op:=by
  rcases Int.lt_or_le n.op 0 with h0|h0
  .have:=O3.kl
   unfold eO at this
   rw [aN (.inl h0)] at this
   omega
  .exact h0
 have rg:3<n.op->uJ n (jL g n 0) (jL g n 1) (jL g n 2)=true:=λh3=>by
  unfold eF at al
  split at al
  .simp at al
  rw [aI (by omega)] at al
  split at al
  .simp at al
  split at al
  .simp at al
  .rename_i hr
   simpa using hr
 have k0:3<n.op->cI (jL g n 0)=true:=λh3=>by
  have hk:0<n.kids.length:=by
   have h1:=O3.kl
   have h2:=md.op2
   rcases tZ op0 h2 with h|h|h|h|h|h|h|h|h|h|h|h|h|h|h|h|h|h|h|h|h|h|h|h|h|h|h|h|h|h|h|h|h|h|h
   all_goals first
    |omega
    |(rw [h] at h1;have:(1:Int)<=n.kids.length:=by (rw [<-h1];decide)
      omega)
  refine Rc h.vg.val (λk xM=>?_) hk
  have:=h.vg.kids hi k xM
  have:=(nY.1 hi).1
  omega
 refine ⟨⟨⟨op0,md.op2⟩,λho=>?_,λ_=>hv,λho=>?_,λho=>?_,λho=>?_⟩,λho=>?_⟩
 .obtain ⟨sk,bg⟩:=l1 ho
  have hu:=md.u
  refine ⟨hu.1,by omega,by omega,?_⟩
  unfold OU at bg
  rcases Nat.lt_or_ge n.st.n.toNat 64 with Ej|Ej
  .simp [show n.st.n<64 by omega] at bg
   have e:((2^n.st.n.toNat:Nat):Int)=2^n.st.n.toNat:=Int.natCast_pow 2 _
   rw [<-e] at bg
   omega
  .have e:n.st.n.toNat=64:=by omega
   rw [e]
   omega
 .rcases ho with ho|ho
  .have:=md.tx (by omega);omega
  .obtain ⟨k,hk⟩:=md.re ho
   rw [hk,cN]
   exact CR k
 .have r:=rg (by omega)
  have v:=mB (k0 (by omega))
  generalize jL g n 0=x at r v
  generalize jL g n 1=y at r
  generalize jL g n 2=z at r
  unfold uJ at r
  rcases ho with ho|ho|ho|ho<;>rw [ho] at r<;>simp at r<;>omega
 .have r:=rg (by omega)
  have v:=mB (k0 (by omega))
  generalize jL g n 0=x at r v
  generalize jL g n 1=y at r
  generalize jL g n 2=z at r
  unfold uJ at r
  rw [ho] at r;simp at r;omega
 .have hn:=l0 ho
  have hz:n.tx.size=(bl n.tx).length:=rfl
  refine ⟨?_,md.tx (by omega)⟩
  rw [hz]
  cases hb:bl n.tx with
  |nil=>rw [hb] at hn;cases hn
  |cons c l=>simp
def xq {c:UInt8} (h:m9 c=true):c≠32/\c≠41/\c≠34/\c≠35/\c≠40:=by
 refine ⟨?_,?_,?_,?_,?_⟩<;>rintro rfl<;>exact absurd h (by decide)
def FU {l:List UInt8} (h:qq l=true):Wd l/\∃c m,l=c::m/\c≠34/\c≠35/\c≠40:=by
 cases l with
 |nil=>cases h
 |cons c m=>
  unfold qq at h
  simp only [Bool.and_eq_true] at h
  have hc:m9 c=true:=by unfold m9;rw [h.1.2];rfl
  refine ⟨λd hd=>?_,c,m,rfl,(xq hc).2.2.1,(xq hc).2.2.2.1,(xq hc).2.2.2.2⟩
  rcases dT.1 hd with rfl|hd
  .exact ⟨(xq hc).1,(xq hc).2.1⟩
  .have:=wo.1 h.2 d hd
   exact ⟨(xq this).1,(xq this).2.1⟩
def AD (op:Int):List UInt8:=40::if op=3 then [122,101,114,111] else yZ op
def unW (l:List UInt8):Nat:=((List.range 35).find? λk:Nat=>AD (k:Int)==l).getD 0
def Na:∀k:Nat,k<35->3<=k->unW (AD (k:Int))=k:=by decide+kernel
def VQ:∀k:Nat,k<35->3<=k->∀c∈AD (k:Int),c≠32/\c≠41:=by decide+kernel
def SG {a b:Int} (ha:3<=a/\a<=34) (hb:3<=b/\b<=34) (h:AD a=AD b):a=b:=by
 obtain ⟨k,rfl⟩:=Int.eq_ofNat_of_zero_le (show 0<=a by omega)
 obtain ⟨m,rfl⟩:=Int.eq_ofNat_of_zero_le (show 0<=b by omega)
 have:=congrArg unW h
 rw [Na k (by omega) (by omega),Na m (by omega) (by omega)] at this
 rw [this]
def Jp (ts:List (List UInt8)) (n:Nx) (r:List UInt8):List UInt8:=if n.op=3 then 32::(bl (zO n.st)++41::r) else xU n++(n.kids.flatMap (sI ts)++41::r)
def M3 {ts:List (List UInt8)} {n:Nx} {r:List UInt8} (h3:3<=n.op) (hk:n.op=3->n.kids=[]) (tN:n.op≠3->n.kids≠[]):Ju q0 ts n++r=AD n.op++Jp ts n r:=by
 unfold Ju q0 AD Jp
 rw [aI (by omega),aI (by omega),aI (by omega)]
 by_cases h:n.op=3
 .rw [aN h,aN h,aN h,hk h,aN rfl]
  simp [r7]
 .rw [aI h,aI h,aI h,aI (tN h)]
  simp [r7]
def M0 {ts:List (List UInt8)} {n:Nx} {r:List UInt8}:Dl (Jp ts n r):=by
 unfold Jp
 split
 .exact .inr ⟨_,.inl rfl⟩
 .unfold xU
  split
  .exact .inr ⟨_,.inl rfl⟩
  split
  .exact .inr ⟨_,.inl rfl⟩
  split
  .exact .inr ⟨_,.inl rfl⟩
  .exact B7 _ _
def Nl {a b:Nx} {r s:List UInt8} (ha:ZW a) (hb:ZW b) (ho:a.op=b.op) (hr:Dl r) (hs:Dl s) (h:xU a++r=xU b++s):(xj a.op=true->a.n=b.n)/\(a.op=21->a.m=b.m)/\(a.op=33->a.tx=b.tx)/\r=s:=by
 unfold xU at h
 rw [<-ho] at h
 by_cases Kq:a.op=21
 .rw [aN Kq,aN Kq] at h
  simp only [tA,yK] at h
  injection h with _ h
  obtain ⟨e1,h⟩:=s5 (ha.nn (.inl Kq)) (hb.nn (.inl (ho▸Kq))) (.inr ⟨_,.inl rfl⟩) (.inr ⟨_,.inl rfl⟩) h
  injection h with _ h
  obtain ⟨e2,h⟩:=s5 (ha.mm Kq) (hb.mm (ho▸Kq)) hr hs h
  exact ⟨λ_=>e1,λ_=>e2,λh=>by omega,h⟩
 rw [aI Kq,aI Kq] at h
 by_cases h1:a.op=22\/a.op=23\/a.op=28
 .rw [aN h1,aN h1,yK,yK] at h
  injection h with _ h
  obtain ⟨e1,h⟩:=s5 (ha.nn (.inr h1)) (hb.nn (.inr (ho▸h1))) hr hs h
  exact ⟨λ_=>e1,λh=>by omega,λh=>by omega,h⟩
 rw [aI h1,aI h1] at h
 have no:xj a.op=true->a.n=b.n:=λe=>by
  unfold xj at e
  simp only [Bool.or_eq_true,beq_iff_eq] at e
  omega
 by_cases ox:a.op=33
 .rw [aN ox,aN ox,yK,yK] at h
  injection h with _ h
  obtain ⟨e,h⟩:=Cr h
  exact ⟨no,λh=>by omega,λ_=>by rw [<-rA a.tx,e,rA],h⟩
 .rw [aI ox,aI ox,uI,uI] at h
  exact ⟨no,λh=>absurd h Kq,λh=>absurd h ox,h⟩
def CV {g:List Nx} (hg:wh g) {ts:List (List UInt8)} {i:Nat} {n:Nx} (hi:g[i]? =some n):
  ∃c t,Ju q0 ts n=c::t/\(c=35↔n.op=1)/\(c=34↔n.op=2)/\(c=40↔3<=n.op):=by
 obtain ⟨hd,_⟩:=hg.hd hi
 obtain ⟨l0,_,_⟩:=A0 (hg.vg.all hi)
 have op:=hd.op
 unfold Ju q0
 by_cases h0:n.op=0
 .obtain ⟨_,c,m,e,c1,c2,c3⟩:=FU (l0 h0)
  rw [aN h0,e]
  exact ⟨c,_,rfl,⟨λh=>absurd h c2,λh=>by omega⟩,⟨λh=>absurd h c1,λh=>by omega⟩,⟨λh=>absurd h c3,λh=>by omega⟩⟩
 rw [aI h0]
 by_cases h1:n.op=1
 .rw [aN h1]
  exact ⟨35,_,rfl,⟨λ_=>h1,λ_=>rfl⟩,⟨λh=>absurd h (by decide),λh=>by omega⟩,⟨λh=>absurd h (by decide),λh=>by omega⟩⟩
 rw [aI h1]
 by_cases h2:n.op=2
 .rw [aN h2]
  exact ⟨34,_,rfl,⟨λh=>absurd h (by decide),λh=>by omega⟩,⟨λ_=>h2,λ_=>rfl⟩,⟨λh=>absurd h (by decide),λh=>by omega⟩⟩
 rw [aI h2]
 have fin:∀t:List UInt8,∃c t',(40::t:List UInt8)=c::t'/\(c=35↔n.op=1)/\(c=34↔n.op=2)/\(c=40↔3<=n.op):=λt=>⟨40,t,rfl,⟨λh=>absurd h (by decide),λh=>by omega⟩,⟨λh=>absurd h (by decide),λh=>by omega⟩,⟨λ_=>by omega,λ_=>rfl⟩⟩
 by_cases h3:n.op=3
 .rw [aN h3];exact fin _
 .rw [aI h3];exact fin _
def Mq {g:List Nx} (hg:wh g) {i:Nat} {n:Nx} (hi:g[i]? =some n):(n.op<=3->n.kids=[])/\(3<n.op->n.kids≠[]):=by
 have h1:=(hg.vg.O3 i n hi).kl
 have h2:=(hg.hd hi).1.op
 refine ⟨λh=>Zi ?_,λh e=>?_⟩
 .have h3:n.op=0\/n.op=1\/n.op=2\/n.op=3:=by omega
  rcases h3 with h|h|h|h<;>rw [h] at h1<;>have:(0:Int)=n.kids.length:=h1<;>omega
 .rw [e] at h1
  rcases tZ h2.1 h2.2 with h|h|h|h|h|h|h|h|h|h|h|h|h|h|h|h|h|h|h|h|h|h|h|h|h|h|h|h|h|h|h|h|h|h|h
  all_goals first
   |omega
   |(rw [h] at h1;revert h1;decide)
def ZN {g:List Nx} (hg:wh g) (i:Nat):∀(j:Nat) (t t' r s:List UInt8),(ji q0 g)[i]? =some t->(ji q0 g)[j]? =some t'->Dl r->Dl s->t++r=t'++s->i=j/\r=s:=by
 induction i using Nat.strongRecOn with
 |_ i ih=>
 intro j t t' r s hi hj hr hs h
 have HY:Bc g:=λi n hi k hk=>hg.vg.kids hi k hk
 have li:i<g.length:=by have:=(nY.1 hi).1;rwa [pH] at this
 have lj:j<g.length:=by have:=(nY.1 hj).1;rwa [pH] at this
 have ga:g[i]? =some (g[i]'li):=ie li
 have gb:g[j]? =some (g[j]'lj):=ie lj
 generalize g[i]'li=a at ga
 generalize g[j]'lj=b at gb
 rw [yT q0 HY ga] at hi
 rw [yT q0 HY gb] at hj
 cases Option.some.inj hi
 cases Option.some.inj hj
 obtain ⟨c,u,e1,c1,c2,c3⟩:=CV hg (ts:=ji q0 g) ga
 obtain ⟨d,v,e2,d1,d2,d3⟩:=CV hg (ts:=ji q0 g) gb
 have ecd:c=d:=by rw [e1,e2,yK,yK] at h;injection h
 subst ecd
 clear e1 e2
 obtain ⟨ha,_⟩:=hg.hd ga
 obtain ⟨hb,_⟩:=hg.hd gb
 obtain ⟨ka,ka2⟩:=Mq hg ga
 obtain ⟨kb,kb2⟩:=Mq hg gb
 obtain ⟨a0,a1,a2⟩:=A0 (hg.vg.all ga)
 obtain ⟨b0,b1,b2⟩:=A0 (hg.vg.all gb)
 have va:=nL.1 (hg.vg.val a (dI ga))
 have vb:=nL.1 (hg.vg.val b (dI gb))
 have oa:=ha.op
 have ob:=hb.op
 by_cases h3:3<=a.op
 .have h3b:3<=b.op:=d3.1 (c3.2 h3)
  rw [M3 h3 (λh=>ka (by omega)) (λh=>ka2 (by omega)),M3 h3b (λh=>kb (by omega)) (λh=>kb2 (by omega))] at h
  have wa:∀{n:Nx},3<=n.op->n.op<=34->Wd (AD n.op):=λ{n} h1 h2=>by
   have:=VQ n.op.toNat (by omega) (by omega)
   rwa [Int.toNat_of_nonneg (by omega)] at this
  obtain ⟨ew,h⟩:=tv (wa h3 oa.2) (wa h3b ob.2) M0 M0 h
  have eo:=SG ⟨h3,oa.2⟩ ⟨h3b,ob.2⟩ ew
  unfold Jp at h
  by_cases hz:a.op=3
  .rw [aN hz,aN (eo▸hz)] at h
   injection h with _ h
   obtain ⟨es,h⟩:=OA (hg.vg.val a (dI ga)) (hg.vg.val b (dI gb)) h
   injection h with _ h
   exact ⟨Rz hg.vg ga gb eo (by rw [ka (by omega),kb (by omega)]) (λe=>by rw [hz] at e;cases e) (λe=>by omega) (λe=>by omega) (λe=>by rw [hz] at e;cases e) (λ_=>es),h⟩
  .rw [aI hz,aI (eo▸hz)] at h
   obtain ⟨en,em,et,h⟩:=Nl ha hb eo (B7 _ _) (B7 _ _) h
   have ekl:a.kids.length=b.kids.length:=by
    have h1:=(hg.vg.O3 i a ga).kl
    have h2:=(hg.vg.O3 j b gb).kl
    rw [eo] at h1
    omega
   obtain ⟨ek,h⟩:=B9 (i:=i) (λm hm j t t' r s h1 h2 h3 h4 h5=>ih m hm j t t' r s h1 h2 h3 h4 h5) (by rw [pH];omega) a.kids b.kids r s (λk hk=>hg.vg.kids ga k hk) (λk hk=>by have:=hg.vg.kids gb k hk;rw [pH];omega) ekl h
   refine ⟨Rz hg.vg ga gb eo ek en em (λe=>by omega) (λe=>?_) (λe=>by omega),h⟩
   unfold zm at e
   simp only [Bool.or_eq_true,beq_iff_eq] at e
   exact et (by omega)
 have h3b:¬3<=b.op:=λh=>h3 (c3.1 (d3.2 h))
 have na:=ka (by omega)
 have nb:=kb (by omega)
 unfold Ju at h
 simp only [na,nb,List.flatMap_nil,uL,if_true] at h
 have fin:a.op=b.op->(a.op=1->a.u=b.u)->(zm a.op=true->a.tx=b.tx)->a.st=b.st->i=j:=λeo eu et es=>
  Rz hg.vg ga gb eo (by rw [na,nb]) (λe=>by
   unfold xj at e
   simp only [Bool.or_eq_true,beq_iff_eq] at e
   omega) (λe=>by omega) eu et (λ_=>es)
 by_cases h1:a.op=1
 .have h1b:b.op=1:=d1.1 (c1.2 h1)
  unfold q0 at h
  rw [aI (by omega),aN h1,aI (by omega),aN h1b,r7,r7] at h
  obtain ⟨e,h⟩:=tv (Rw _ _) (Rw _ _) hr hs h
  obtain ⟨x1,x2,x3,x4⟩:=ha.num h1
  obtain ⟨y1,y2,y3,y4⟩:=hb.num h1b
  obtain ⟨eu,ew⟩:=UU x4 y4 e
  have ak:=(a1 h1).1
  have bk:=(b1 h1b).1
  refine ⟨fin (by omega) (λ_=>by omega) (λe=>by rw [h1] at e;cases e) ?_,h⟩
  cases B1:a.st;cases hsb:b.st
  rw [B1] at ak ew va x2;rw [hsb] at bk ew vb y2
  simp only at ak bk ew va vb x2 y2
  simp only [iQ.mk.injEq]
  omega
 by_cases h2:a.op=2
 .have h2b:b.op=2:=d2.1 (c2.2 h2)
  unfold q0 at h
  rw [aI (by omega),aI (by omega),aN h2,aI (by omega),aI (by omega),aN h2b,r7,r7] at h
  obtain ⟨e,h⟩:=Cr h
  have et:a.tx=b.tx:=by rw [<-rA a.tx,e,rA]
  exact ⟨fin (by omega) (λe=>by omega) (λ_=>et) (by rw [(a2 h2).1,(b2 h2b).1,et]),h⟩
 have h0:a.op=0:=by omega
 have h0b:b.op=0:=by
  have n1:¬b.op=1:=λh=>h1 (c1.1 (d1.2 h))
  have n2:¬b.op=2:=λh=>h2 (c2.1 (d2.2 h))
  omega
 unfold q0 at h
 rw [aN h0,aN h0b] at h
 obtain ⟨e,h⟩:=tv (FU (a0 h0)).1 (FU (b0 h0b)).1 hr hs h
 have et:a.tx=b.tx:=by rw [<-rA a.tx,e,rA]
 exact ⟨fin (by omega) (λe=>by omega) (λ_=>et) (hg.vg.vars a (dI ga) h0 b (dI gb) h0b et),h⟩
def E2 (kind:Int) (g:List Nx):Prop:=∀d∈g,d.op=0->d∈xs (gU kind)
def OD (kind:Int):∀d∈xs (gU kind),∀e∈xs (gU kind),d.tx=e.tx->d=e:=by
 have all:∀d∈xs (rK++rL++pE),∀e∈xs (rK++rL++pE),d.tx=e.tx->d=e:=by decide
 have sub:∀d∈xs (gU kind),d∈xs (rK++rL++pE):=λd hd=>by
  obtain ⟨a,ha,rfl⟩:=pN.1 hd
  refine pN.2 ⟨a,?_,rfl⟩
  unfold gU at ha
  rcases gg.1 ha with ha|ha
  .rcases gg.1 ha with ha|ha
   .simp [ha]
   .split at ha
    .simp [ha]
    .cases ha
  .split at ha
   .simp [ha]
   .cases ha
 exact λd hd e he h=>all d (sub d hd) e (sub e he) h
def Zv {kind:Int} {g p:List Nx} {n:Nx} {to:List Int} (hp:eF p n=(n.st,0)) (hl:to.length=p.length) (hvg:E2 kind g) (hvn:n.op=0->n∈xs (gU kind))
  (Us:∀(i:Nat) (d:Nx),p[i]? =some d->∃(t:Int) (e:Nx),to[i]? =some t/\0<=t/\g[t.toNat]? =some e/\e.st=d.st):eF g (qP n to)=(n.st,0):=by
 have ho:=CG (by rw [hp])
 have get:∀k∈n.kids,∃(d e:Nx),p[k.toNat]? =some d/\0<=to.getD k.toNat 0/\g[(to.getD k.toNat 0).toNat]? =some e/\e.st=d.st:=λk hk=>by
  have hr:=ho.ki k hk
  have hd:p[k.toNat]? =some (p[k.toNat]'(by omega)):=ie (by omega)
  obtain ⟨t,e,h1,h2,h3,h4⟩:=Us _ _ hd
  refine ⟨_,e,hd,?_,?_,h4⟩<;>rw [List.getD_eq_getElem?_getD,h1]<;>assumption
 have hk:∀i,jL g (qP n to) i=jL p n i:=λi=>by
  unfold jL
  show (match (n.kids.map λk=>to.getD k.toNat 0)[i]? with |some k=>_|none=>_)=_
  rw [O1]
  cases hi:n.kids[i]? with
  |none=>rfl
  |some k=>
   obtain ⟨d,e,h1,_,h3,h4⟩:=get k (dI hi)
   simp only [Option.map_some,h1,h3,h4]
 have ha:(qP n to).kids.all (iJ g)=true:=wo.2 λx hx=>by
  obtain ⟨k,xM,rfl⟩:=pN.1 hx
  obtain ⟨d,e,_,h2,h3,_⟩:=get k xM
  have:=(nY.1 h3).1
  show (decide (0<=to.getD k.toNat 0)&&decide (to.getD k.toNat 0<(g.length:Int)))=true
  rw [aO h2,aO (by omega)]
  rfl
 have NT:(eO (qP n to).op==((qP n to).kids.length:Int))=true:=by
  have:=ho.kl
  show (eO n.op==(((n.kids.map _).length:Nat):Int))=true
  rw [MG,this]
  exact beq_self_eq_true _
 have aaP:n.op<=3->dH g (qP n to)=dH p n:=λh3=>by
  by_cases h0:n.op=0
  .have h:=hp
   unfold eF at h
   split at h
   .simp at h
   have h:dH p n=(n.st,0):=by first |exact h|(rw [aN h3] at h;exact h)
   have f2:pG g (qP n to)=false:=by
    unfold pG
    show (match qL g n.tx with |some s=>_|none=>_)=_
    cases hv:qL g n.tx with
    |none=>rfl
    |some s=>
     obtain ⟨d,hd,d0,dt,ds⟩:=vJ hv
     have:=OD kind d (hvg d hd d0) n (hvn h0) dt
     show (!decide (s=n.st))=false
     rw [<-ds,this]
     simp
   have f1:pG p n=false:=by
    cases ht:pG p n with
    |false=>rfl
    |true=>
     exfalso
     unfold dH at h
     rw [aI (show ¬n.op=2 by omega)] at h
     rw [aN (show n.op=0/\pG p n=true from ⟨h0,ht⟩)] at h
     repeat' split at h
     all_goals simp at h
   unfold dH
   rw [f1,f2]
   rfl
  .unfold dH
   rw [aI (show ¬((qP n to).op=0/\pG g (qP n to)=true) from λh=>h0 h.1),aI (show ¬(n.op=0/\pG p n=true) from λh=>h0 h.1)]
   rfl
 rw [<-hp]
 have ha0:n.kids.all (iJ p)=true:=wo.2 λk xM=>by
  have:=ho.ki k xM
  unfold iJ
  simp [this]
 have acD:(eO n.op==(n.kids.length:Int))=true:=by rw [ho.kl];exact beq_self_eq_true _
 have hf:okF (qP n to)=okF n:=rfl
 unfold eF
 rw [ha,NT,hf,ha0,acD,hk,hk,hk]
 by_cases h3:n.op<=3
 .rw [aN h3,aN (show (qP n to).op<=3 from h3),aaP h3]
 .rw [aI h3,aI (show ¬(qP n to).op<=3 from h3)]
  rfl
def Mj {kind:Int}:∀{r g p:List Nx} {to:List Int},wh g->wh (p++r)->E2 kind g->E2 kind (p++r)->g.length+r.length<4096->to.length=p.length->
  (∀(i:Nat) (d:Nx),p[i]? =some d->∃(t:Int) (e:Nx),to[i]? =some t/\0<=t/\g[t.toNat]? =some e/\e.st=d.st)->(pj g to r).2.2=0
 |[],_,_,_,_,_,_,_,_,_,_=>rfl
 |n::r,g,p,to,hg,hm,vg,vm,hl,htl,Us=>by
  have hn:(p++n::r)[p.length]? =some n:=by simp
  have hs:=hm.vg.ok _ _ hn
  rw [List.take_left] at hs
  have hx:=Zv hs htl vg (λh=>vm n (by simp) h) Us
  have h0:(iN g (qP n to)).2.2=0:=by
   unfold iN
   rw [hx,aI (λh=>h rfl)]
   split
   .rfl
   .rw [aI (by simp at hl;omega)]
  rw [tP,aI (λh=>h h0)]
  obtain ⟨_,k,hk,Ma,h3⟩:=wU h0
  have hal:=xT g (qP n to)
  have rU:∃z,(iN g (qP n to)).1=g++z:=by
   rcases h3 with h3|⟨_,h5,_⟩
   .exact ⟨[],by rw [h3,uL]⟩
   .exact ⟨_,h5⟩
  obtain ⟨z,hz⟩:=rU
  have e:(p++[n])++r=p++n::r:=by simp
  refine Mj (p:=p++[n]) (Bd hg (Rp (hm.nd n (by simp))) h0) (by rw [e];exact hm) (λd hd d0=>?_) (by rw [e];exact vm) (by simp only [xB] at hl;omega) (by simp [htl]) (λi d hi=>?_)
  .rcases h3 with h3|⟨_,h5,_⟩
   .rw [h3] at hd;exact vg d hd d0
   .rw [h5] at hd
    rcases gg.1 hd with hd|hd
    .exact vg d hd d0
    .rw [IW.1 hd] at d0 ⊢
     have d0:n.op=0:=d0
     have OX:=(Mq hm hn).1 (by omega)
     have:gM (qP n to) (eF g (qP n to)).1=n:=by
      rw [hx]
      cases n
      simp only at OX
      subst OX
      rfl
     rw [this]
     exact vm n (by simp) d0
  .rcases Nat.lt_or_ge i p.length with h|h
   .rw [KV h] at hi
    obtain ⟨t,e,h1,h2,h4,h5⟩:=Us i d hi
    refine ⟨t,e,by rw [KV (by omega)];exact h1,h2,?_,h5⟩
    rw [hz,KV (nY.1 h4).1]
    exact h4
   .rw [qgR h] at hi
    have Yy:i - p.length=0:=by
     have:=(nY.1 hi).1
     simp at this
     omega
    rw [Yy] at hi
    simp at hi
    subst hi
    refine ⟨(iN g (qP n to)).2.1,gM (qP n to) (eF g (qP n to)).1,?_,by omega,by rw [hk,Int.toNat_natCast];exact Ma,by rw [hx];rfl⟩
    rw [qgR (by omega),show i - to.length=0 by omega]
    rfl
def zv {P:aQ} {a:String×DataW Unit} {r:List (String×DataW Unit)} {W:aA} (h:laidMet P (a::r) W):laidMet P r W:=by
 obtain ⟨n,d⟩:=a
 obtain ⟨ps,⟨g,t,cs,fuel,p,q,_,_,_,_,hr,rfl⟩,hn,hc⟩:=h
 exact ⟨q,hr,(zH.1 hn).2.1,λb off hm=>hc b off (by simp [hm])⟩
def YQ {W:aA} (h:laidMetH aB [("math/bits.deBruijn32tab",Rows.laid_math_bits_deBruijn32tab),("math/bits.deBruijn64tab",Rows.laid_math_bits_deBruijn64tab),("internal/strconv.uint64pow10",Rows.laid_internal_strconv_uint64pow10),("enthymeme/term.kidCounts",Rows.laid_enthymeme_term_kidCounts)] W):rV.P W:=by
 rw [MakeChecks.laidMetH_plain _ _ _ (by kernel_rfl)] at h
 have h:=zv (zv (zv h))
 rw [<-MakeChecks.laidMetH_plain _ _ _ (by kernel_rfl)] at h
 exact aa1 h
def WT:Nx:=⟨0,[],0,0,0,ba [120],⟨0,4,0⟩⟩
def WS:Nx:=⟨1,[],0,0,5,ba [],⟨0,4,0⟩⟩
def WR:Nx:=⟨6,[0,1],0,0,0,ba [],⟨0,4,0⟩⟩
abbrev plG (b:Nat):List Nd:=[⟨WT,⟨none,0,0⟩⟩,⟨WS,⟨none,0,0⟩⟩,⟨WR,⟨some (bO b),2,2⟩⟩]
def RJ:Jx [WT,WS,WR]=0:=by kernel_rfl
def U2:(ji q0 [WT,WS,WR])[2]? =some [40,97,110,100,32,120,32,35,120,53,41]:=by decide
def Zd:(oX [WT,WS,WR])[2]? =some 1:=by decide
def yF:∀n∈[WT,WS,WR],(n.op=3->n.kids=[])/\n.kids.length<=1000/\(q0 n).size<=100000/\0<(q0 n).size:=by decide
def IM {b:Nat} {d:Nd} (h:d∈plG b):d.x∈[WT,WS,WR]:=pN.2 ⟨d,h,rfl⟩
def abg:∀n∈[WT,WS,WR],ZW n:=by
 intro n hn
 simp only [dT,gL,or_false] at hn
 rcases hn with rfl|rfl|rfl<;>constructor<;>decide
def abh (b:Nat):XP q0 (plG b):=by
 refine ⟨λd hd=>Wl (abg _ (IM hd)),λi d hd=>?_,λd hd=>(yF _ (IM hd)).1,λd hd=>(yF _ (IM hd)).2.1,λd hd=>(yF _ (IM hd)).2.2.1,by simp⟩
 .rcases i with _|_|_|i
  .simp at hd;subst hd;intro k hk;cases hk
  .simp at hd;subst hd;intro k hk;cases hk
  .simp at hd;subst hd
   intro k hk
   have hk:k∈[(0:Int),1]:=hk
   simp at hk
   omega
  .simp at hd
def Ze:∀d∈[WT,WS,WR],XS d/\JZ d:=by
 intro d hd
 simp only [dT,gL,or_false] at hd
 rcases hd with rfl|rfl|rfl
 all_goals
  refine ⟨⟨by decide,by decide,by decide,by decide,λh=>absurd h (by decide)⟩,?_⟩
  constructor
  all_goals first
   |decide
   |(intro k hk;revert k;decide)
def Nr (w:aA) (hk:rV.P w):aH aB ln #[] w λr w'=>r=aJ (.bool true)/\bW w w':=by
 have H:LH F0 w w [] [rV]:=og _ (by
  intro e he
  simp only [dT,gL,or_false] at he
  subst he
  exact hk)
 refine enthymemelaw11_lives.dQ w _ (H.cC λb1 w1 H1=>H1.bH λw2 H2=>H2.nw λw3 hs3 H3=>H3.nw λw4 SZ H4=>H4.cC λb2 w5 H5=>H5.bH λw6 H6=>?_)
 have G:GP w6 ⟨some (bO w3.heap.size),3,3⟩ (plG w2.heap.size):=⟨r8 (H6.ob 2) rfl,λd hd=>by
  simp only [dT,gL,or_false] at hd
  rcases hd with rfl|rfl|rfl
  .exact Rd.nil w6
  .exact Rd.nil w6
  .exact xY (T:=cT) (H6.ob 1) rfl⟩
 refine H6.bC (PG (hd:=q0) (i:=2) G (H6.getD 0) (λ_ d hd=>Ze d.x (pN.2 ⟨d,hd,rfl⟩)) RJ (abh _) (λd hd=>(yF _ (IM hd)).2.2.2) U2 Zd) ?_
 .rintro _ w7 rfl H7
  exact ⟨_,_,rfl,bF rfl ⟨by simp,H7.fr⟩⟩
def vN (s:Sl) (w:aA):aH aB fW #[s.v] w λr w'=>r=aJ (.agg #[s.v])/\bW w w':=
 enthymemelaw11_graph.dQ s w _ ((og [] (by simp)).cC λb w1 H1=>H1.bH λw2 H2=>⟨rfl,H2.fr⟩)
def Y9 (n:Nat) (t:List UInt8):ByteArray:=if 64<n\/65536<t.length then aE #[] else ⟨t.toArray⟩
def TR (n:Nat) (t:List UInt8):Int:=if 64<n\/65536<t.length then 4 else 0
def zC (g:List Nx) (i:Nat):ByteArray:=Y9 ((oX g).getD i 0) ((ji q0 g).getD i [])
def Cn (g:List Nx) (i:Nat):Int:=TR ((oX g).getD i 0) ((ji q0 g).getD i [])
def Mp {w:aA} {s:Sl} {l:List Nd} (h:GP w s l) (hk:rV.P w) (mg:wh (xs l)) (hl:l.length<=500) {i:Nat} (hi:i<l.length):
  aH aB nB #[.agg #[s.v],.i (i:Int)] w λr w'=>r=aJ (.tuple #[.string (zC (xs l) i),.i (Cn (xs l) i)])/\bW w w':=by
 have hx:(xs l).length=l.length:=by simp [xs]
 have gd:=mg.gd (by omega)
 have mem:∀d∈l,∃j,(xs l)[j]? =some d.x:=λd hd=>List.mem_iff_getElem?.1 (pN.2 ⟨d,hd,rfl⟩)
 have lt:i<(ji q0 (xs l)).length:=by rw [pH];omega
 have ld:i<(oX (xs l)).length:=by rw [(Fo (xs l)).1];omega
 have et:(ji q0 (xs l))[i]? =some ((ji q0 (xs l)).getD i []):=by rw [List.getD_eq_getElem?_getD,ie lt];rfl
 have ed:(oX (xs l))[i]? =some ((oX (xs l)).getD i 0):=by rw [List.getD_eq_getElem?_getD,ie ld];rfl
 have sz:∀d∈l,0<(q0 d.x).size/\(q0 d.x).size<=1000:=λd hd=>by
  obtain ⟨j,hj⟩:=mem d hd
  exact QN (mg.hd hj).1 (mg.hd hj).2
 refine (PG h hk (λ_ d hd=>⟨(gd d.x (pN.2 ⟨d,hd,rfl⟩)).sp.tok (by omega),(gd d.x (pN.2 ⟨d,hd,rfl⟩)).wd⟩) (VK mg.vg (by omega)) ⟨λd hd=>?_,λj d hd=>mg.vg.kids (um hd),λd hd h3=>?_,λd hd=>?_,λd hd=>?_,by omega⟩ (λd hd=>(sz d hd).1) et ed).mono ?_
 .obtain ⟨j,hj⟩:=mem d hd
  exact Wl (mg.hd hj).1
 .obtain ⟨j,hj⟩:=mem d hd
  exact (Mq mg hj).1 (by omega)
 .have:=(mg.nd d.x (pN.2 ⟨d,hd,rfl⟩)).kl
  omega
 .have:=(sz d hd).2
  omega
 .rintro _ w' ⟨rfl,f⟩
  refine ⟨?_,f⟩
  unfold Sw zC Cn Y9 TR
  split<;>rfl
def Y' {g:List Nx} (mg:wh g) {i j:Nat} (hj:j<i) (hi:i<g.length) (he:Cn g i=0):zC g j≠zC g i:=by
 intro e
 have lt:∀k<g.length,(ji q0 g)[k]? =some ((ji q0 g).getD k []):=λk hk=>by
  rw [List.getD_eq_getElem?_getD,ie (by rw [pH];exact hk)];rfl
 have bi:¬(64<(oX g).getD i 0\/65536<((ji q0 g).getD i []).length):=λh=>by unfold Cn TR at he;rw [aN h] at he;cases he
 have HY:Bc g:=λi n hi k hk=>mg.vg.kids hi k hk
 have ga:g[i]? =some (g[i]'hi):=ie hi
 obtain ⟨c,t,e1,_⟩:=CV mg (ts:=ji q0 g) ga
 have Ur:=lt i hi
 rw [yT q0 HY ga,e1] at Ur
 have Ur:=Option.some.inj Ur
 unfold zC Y9 at e
 rw [aI bi] at e
 split at e
 .rw [<-Ur] at e
  have:=congrArg ByteArray.size e
  simp [ByteArray.size] at this
 .have e2:(ji q0 g).getD j []=(ji q0 g).getD i []:=by
   have:=congrArg (λb:ByteArray=>b.data.toList) e
   simpa using this
  have:=(ZN mg j i _ _ [] [] (lt j (by omega)) (lt i hi) (.inl rfl) (.inl rfl) (by rw [e2])).1
  omega
def U1 {g r:List Nx} {i:Nat} (hi:i<g.length):zC (g++r) i=zC g i/\Cn (g++r) i=Cn g i:=by
 have e1:(ji q0 (g++r)).getD i []=(ji q0 g).getD i []:=by
  obtain ⟨t,ht⟩:=M4 q0 g r
  rw [ht,List.getD_eq_getElem?_getD,List.getD_eq_getElem?_getD,KV (by rw [pH];exact hi)]
 have e2:(oX (g++r)).getD i 0=(oX g).getD i 0:=by
  have:∃t,oX (g++r)=oX g++t:=by
   clear e1
   induction r using tj with
   |h0=>exact ⟨[],by simp⟩
   |h1 r n ih=>
    obtain ⟨t,ht⟩:=ih
    exact ⟨t++[AG n.op n.kids (oX (g++r))],by rw [<-tA,BE,ht,tA]⟩
  obtain ⟨t,ht⟩:=this
  rw [ht,List.getD_eq_getElem?_getD,List.getD_eq_getElem?_getD,KV (by rw [(Fo g).1];exact hi)]
 unfold zC Cn
 rw [e1,e2]
 exact ⟨rfl,rfl⟩
section
variable {W:aA} {gs hs:Sl} {lg lh:List Nd} {b8 b9:Nat}
def U3 (mg:wh (xs lg)) (mh:wh (xs lh)) (lg1:lg.length<=100) (lh1:lh.length<=200) {e:List Nx} (he:xs lh=xs lg++e):∀(m i:Nat) (ts:Sl) (w:aA),i+m=lg.length->
  LH F0 W w [.g b8,.g b9,.row cG 1 ts ((List.range i).map λj=>.string (zC (xs lg) j))] [rV,.gr gs lg,.gr hs lh]->dA.mC b8 gs b9 hs ts (i:Int) w λr w'=>r=aJ (.bool true)/\bW W w':=by
 intro m
 induction m with
 |zero=>
  intro i ts w hi H
  have gn:=tL (eG.1 (H.getD 1))
  refine dA.dR _ _ _ _ _ _ _ _ (aX (aK (by omega)) (H.bC (Nr w (H.getD 0)) ?_))
  rintro _ w1 rfl H1
  exact ⟨_,rfl,rfl,H1.fr⟩
 |succ m ih=>
  intro i ts w hi H
  have gn:=tL (eG.1 (H.getD 1))
  have hxg:(xs lg).length=lg.length:=by simp [xs]
  have Kx:lg.length<=lh.length:=by
   have:=congrArg List.length he
   simp [xs] at this
   omega
  refine dA.dR _ _ _ _ _ _ _ _ (bF (aO (by omega)) (H.bC (Mp (eG.1 (H.getD 1)) (H.getD 0) mg (by omega) (i:=i) (by omega)) ?_))
  rintro _ w1 rfl H1
  refine ⟨_,_,rfl,H1.bC (Mp (eG.1 (H1.getD 2)) (H1.getD 0) mh (by omega) (i:=i) (by omega)) ?_⟩
  rintro _ w2 rfl H2
  obtain ⟨o1,o2⟩:=U1 (g:=xs lg) (r:=e) (i:=i) (by omega)
  rw [he,o1,o2]
  have jc:bD w2 cG 1 ts ((List.range i).map λj=>.string (zC (xs lg) j)):=H2.get 2
  have hn:=jc.len
  simp only [MG,List.length_range,Nat.mul_one] at hn
  have S5:dA.DQ b8 gs b9 hs ts (i:Int) (zC (xs lg) i) w2 λr w'=>r=aJ (.bool true)/\bW W w':=by
   refine H2.wV 2 Qn rfl (λs' w3 H3=>?_) (by omega)
   rw [bP _ (by omega)]
   refine ih (i+1) s' w3 (by omega) ?_
   rw [List.range_succ,sP]
   exact H3
  have inner:∀(k n:Nat),n+k=i->dA.L4T b8 gs b9 hs ts (i:Int) (zC (xs lg) i) (Cn (xs lg) i) (n:Int) w2 λr w'=>r=aJ (.bool true)/\bW W w':=by
   intro k
   induction k with
   |zero=>exact λn hn=>dA.GV _ _ _ _ _ _ _ _ _ _ _ (aX (aK (by omega)) S5)
   |succ k ihk=>
    intro n hnk
    refine dA.GV _ _ _ _ _ _ _ _ _ _ _ (bF (aO (by omega)) (aY (λh0=>sQ jc rfl (v:=.string (zC (xs lg) n)) (by rw [O1,List.getElem?_range (by omega)];rfl) λp hp hc=>⟨_,hc,La (λh=>absurd h (Y' mg (by omega) (by omega) h0)) (λ_=>?_)⟩) (λ_=>S5)))
    rw [bP _ (by omega)]
    exact ihk (n+1) (by omega)
  refine ⟨_,_,rfl,gB (λh=>absurd rfl h) (λ_=>aX (by rw [M2];simp) (gB (λh4=>gB (λh=>?_) (λ_=>inner i 0 (by omega))) (λ_=>inner i 0 (by omega))))⟩
  have h5:Cn (xs lg) i=0\/Cn (xs lg) i=4:=by unfold Cn TR;split<;>simp
  exact (h5.elim (λe=>h4 e) (λe=>h e)).elim
end
def printOnes_walk (W:aA) (hL:laidMetH aB [("math/bits.deBruijn32tab",Rows.laid_math_bits_deBruijn32tab),("math/bits.deBruijn64tab",Rows.laid_math_bits_deBruijn64tab),("internal/strconv.uint64pow10",Rows.laid_internal_strconv_uint64pow10),("enthymeme/term.kidCounts",Rows.laid_enthymeme_term_kidCounts)] W) (ls ms:Sl) (kind:Int) (w0:ArgNums W ls) (w1:ArgNums W ms) (w2:qS kind):
  aH aB mO #[ls.v,ms.v,.i kind] W λr w'=>r=aJ (.bool true)/\bW W w':=by
 obtain ⟨ns,Uk,hnl,hnr⟩:=w0
 obtain ⟨qs,hqs,hql,hqr⟩:=w1
 have hk:=YQ hL
 have H:LH F0 W W [] [.rd ls (ns.map l4),.rd ms (qs.map l4),rV]:=og _ (by
  intro e he
  simp only [dT,gL,or_false] at he
  rcases he with rfl|rfl|rfl
  .exact Uk
  .exact hqs
  .exact hk)
 refine dA.dQ ls ms kind W _ (H.call (jk kind 3 W (by omega) w2) ?_)
 generalize gX kind 3=z
 rintro _ v1 rfl H1
 refine ⟨_,rfl,H1.LJ (Fb (H1.getD 0) hnr hnl z 9 (by omega)) ?_⟩
 rintro _ v2 ⟨s,l,rfl,Ww,hl1,YC,G,F,hv⟩ _ F2
 have H2:=F2.rd (.gr s l) (eG.2 G) F
 refine ⟨s,rfl,H2.call (vN s v2) ?_⟩
 rintro _ v3 rfl H3
 refine ⟨s,rfl,H3.cC λb8 v4 H4=>?_⟩
 have fin:∀{b9:Nat} {x:Sl} {lx:List Nd} {w:aA} {L:List En} {D:List En} {e:List Nx},LH F0 W w [.g b8,.g b9] [rV,.gr s l,.gr x lx]->wh (xs lx)->lx.length<=200->xs lx=xs l++e->dA.eX b8 s b9 x 0 w λr w'=>r=aJ (.bool true)/\bW W w':=λ{b9 x lx w L D e} H mx Ui hx=>
  aX rfl (U3 Ww mx (by omega) Ui hx l.length 0 ⟨none,0,0⟩ w (by omega) (H.qb cG 1))
 have join:∀{w:aA} {t:Sl} {m:List Nd},GP w s l->GP w t m->rV.P w->wh (xs m)->1<=m.length->m.length<=19->E2 z (xs m)->aH aB mW #[.agg #[s.v],.agg #[t.v]] w λr w'=>(∃(x ts:Sl) (lx:List Nd) (e:List Nx),r=aJ (.tuple #[.agg #[x.v],ts.v,.i 0])/\wh (xs lx)/\lx.length<=200/\xs lx=xs l++e/\GP w' x lx/\∀b∈(En.gr x lx).fp,b∈(En.gr s l).fp\/w.heap.size<=b)/\bW w w':=by
  intro w t m hs ht hk mm m1 m2 YM
  have pQ:(xs l).length=l.length:=by simp [xs]
  have hxm:(xs m).length=m.length:=by simp [xs]
  have hj:(pj (xs l) [] (xs m)).2.2=0:=Mj (kind:=z) (p:=[]) Ww mm hv YM (by omega) rfl (λi d h=>by simp at h)
  have jm:=Mi (g:=xs l) (to:=[]) Ww mm.nd
  obtain ⟨⟨e,he⟩,_⟩:=Ik hj
  refine (ZG hs ht hk Ww mm (by omega) (by omega)).mono ?_
  rintro _ w' ⟨⟨x,ts,rfl,⟨⟨lx,xx,Gx,Fx⟩,_,_⟩⟩,f⟩
  refine ⟨⟨x,ts,lx,e,by rw [hj],by rw [xx];exact jm.1,?_,by rw [xx,he],Gx,Fx⟩,f⟩
  have:=jm.2
  rw [<-xx] at this
  simp only [xs,MG] at this
  omega
 refine ⟨H4.bH λv5 H5=>H5.rC (Fb (H5.getD 1) hqr hql z 9 (by omega)) ?_,?_⟩
 .rintro _ v6 ⟨t,m,rfl,hmm,NU,QT,G2,Fm,YM⟩ _ F6
  have H6:=F6.rd (.gr t m) (eG.2 G2) Fm
  refine ⟨t,rfl,⟨H6.bC (vN t v6) ?_,H6.cC λb9 v7 H7=>H7.bC (vN t v7) ?_⟩⟩
  .rintro _ v7 rfl H7
   refine ⟨t,rfl,⟨o7 ((join (eG.1 (H7.getD 3)) (eG.1 (H7.getD 4)) (H7.getD 2) hmm NU QT YM).mono ?_),H7.cC λb9 v8 H8=>o7 ((join (eG.1 (H8.getD 3)) (eG.1 (H8.getD 4)) (H8.getD 2) hmm NU QT YM).mono ?_)⟩⟩
   .rintro _ v8 ⟨⟨x,ts,lx,e,rfl,mx,Ui,hx,Gx,Fx⟩,f8⟩
    have H8:=(H7.pS (.gr x lx) f8 (eG.2 Gx) (λb hb=>(Fx b hb).elim (λh=>.inr (.inr ⟨.gr s l,by simp,h⟩)) .inl)).forget [rV,.gr s l,.gr x lx] (by simp)
    exact ⟨f8,x,ts,0,rfl,H8.cC λb9 v9 H9=>H9.bH λv10 qe=>fin (L:=[]) (D:=[]) qe mx Ui hx⟩
   .rintro _ v9 ⟨⟨x,ts,lx,e,rfl,mx,Ui,hx,Gx,Fx⟩,f8⟩
    have H9:=(H8.pS (.gr x lx) f8 (eG.2 Gx) (λb hb=>(Fx b hb).elim (λh=>.inr (.inr ⟨.gr s l,by simp,h⟩)) .inl)).forget [rV,.gr s l,.gr x lx] (by simp)
    exact ⟨f8,x,ts,0,rfl,H9.bH λv10 qe=>fin (L:=[]) (D:=[]) qe mx Ui hx⟩
  .rintro _ v8 rfl H8
   refine ⟨t,rfl,o7 ((join (eG.1 (H8.getD 3)) (eG.1 (H8.getD 4)) (H8.getD 2) hmm NU QT YM).mono ?_)⟩
   rintro _ v9 ⟨⟨x,ts,lx,e,rfl,mx,Ui,hx,Gx,Fx⟩,f8⟩
   have H9:=(H8.pS (.gr x lx) f8 (eG.2 Gx) (λb hb=>(Fx b hb).elim (λh=>.inr (.inr ⟨.gr s l,by simp,h⟩)) .inl)).forget [rV,.gr s l,.gr x lx] (by simp)
   exact ⟨f8,x,ts,0,rfl,H9.bH λv10 qe=>fin (L:=[]) (D:=[]) qe mx Ui hx⟩
 .refine H4.cC λb9 v5 H5=>H5.rC (Fb (H5.getD 1) hqr hql z 9 (by omega)) ?_
  rintro _ v6 ⟨t,m,rfl,hmm,NU,QT,G2,Fm,YM⟩ _ F6
  have H6:=F6.rd (.gr t m) (eG.2 G2) Fm
  refine ⟨t,rfl,H6.bC (vN t v6) ?_⟩
  rintro _ v8 rfl H8
  refine ⟨t,rfl,o7 ((join (eG.1 (H8.getD 3)) (eG.1 (H8.getD 4)) (H8.getD 2) hmm NU QT YM).mono ?_)⟩
  rintro _ v9 ⟨⟨x,ts,lx,e,rfl,mx,Ui,hx,Gx,Fx⟩,f8⟩
  have H9:=(H8.pS (.gr x lx) f8 (eG.2 Gx) (λb hb=>(Fx b hb).elim (λh=>.inr (.inr ⟨.gr s l,by simp,h⟩)) .inl)).forget [rV,.gr s l,.gr x lx] (by simp)
  exact ⟨f8,x,ts,0,rfl,H9.bH λv10 qe=>fin (L:=[]) (D:=[]) qe mx Ui hx⟩
end Go.Proofs.YtnpkhgljhcnpcaaGreatDoor

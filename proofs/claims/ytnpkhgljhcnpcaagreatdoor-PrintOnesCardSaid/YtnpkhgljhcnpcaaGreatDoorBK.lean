import Derived.Test.YtnpkhgljhcnpcaaGreatDoorW
import Derived.Test.YtnpkhgljhcnpcaaGreatDoorB
import Derived.Test.YtnpkhgljhcnpcaaGreatDoorVB
import Derived.Test.YtnpkhgljhcnpcaaGreatDoorE1
import Derived.MapKept
import Derived.Test.YtnpkhgljhcnpcaaGreatDoorTP
set_option linter.unusedVariables false
set_option linter.defProp false
namespace Go.Proofs.YtnpkhgljhcnpcaaGreatDoor
open Go renaming World->aA,Calls->aH,Program->aQ,Value->aD,TypeId->aP
open Go.IntKind renaming wrap->aC
open Go.Proofs.Tryz renaming prog->aB
open _root_.Decidable renaming decide->aR
open Go.Ending renaming returned->aJ
open List renaming mem_cons->dT,not_mem_nil->gL,mem_of_getElem?->dI,getElem?_eq_getElem->ie,mem_flatMap->nG,length_append->nE,mem_of_mem_take->U9,append_assoc->tA,length_take->A5,nil_append->uI,cons_append->yK,take_add_one->EE
open Go Go.W
def tG (n:Nat):List UInt8:=if n<128 then [UInt8.ofNat n] else UInt8.ofNat (n%128+128)::tG (n / 128)
termination_by n
decreasing_by omega
def mL {n:Nat} (h:n<128):tG n=[UInt8.ofNat n]:=by rw [tG,aN h]
def oC {n:Nat} (h:¬n<128):tG n=UInt8.ofNat (n%128+128)::tG (n / 128):=by rw [tG,aI h]
def HE:∀(d n:Nat),n<2 *128^d->(tG n).length<=d+1
 |0,n,h=>by rw [mL (by omega)];simp
 |d+1,n,h=>by
  by_cases hn:n<128
  .rw [mL hn];simp
  .rw [oC hn]
   have:=HE d (n / 128) (by rw [Nat.pow_succ] at h;omega)
   simp;omega
def zz (n:Int):Nat:=if 0<=n then (2 *n).toNat else (-(2 *n) - 1).toNat
def XJ (n:Int) (h1:-9223372036854775808<=n) (h2:n<=9223372036854775807):zz n<18446744073709551616:=by
 unfold zz;split<;>omega
def mI (w:aA) (wb:Nat) (bs:List UInt8) (own:List Nat):Prop:=
 ∃s:Sl,own=wb::bQ s/\w.heap[wb]? =some (.cells #[s.v] jv (0,0))/\mH w s bs
def IL {w:aA} {e T:aP} {s:Sl} {vs:List aD} (h:Ow w e s vs) {b:Nat} {cs:Array aD} {f:Nat×Nat} (hb:w.heap[b]? =some (.cells cs T f)) (hT:e≠T):b∉bQ s:=λhm=>by
 obtain ⟨Z0,f',hc⟩:=h.2.row.typ b hm
 rw [hc] at hb
 injection hb with hb
 injection hb with _ ht _
 exact hT ht
def mI.lt {w:aA} {wb:Nat} {bs:List UInt8} {own:List Nat} (h:mI w wb bs own):∀b∈own,b<w.heap.size:=by
 obtain ⟨s,rfl,h1,h2⟩:=h
 intro b hb
 rcases dT.1 hb with rfl|hb
 .exact gh h1
 .exact h2.lt b hb
def mI.fr {M:Nat->Prop} {w w':aA} {wb:Nat} {bs:List UInt8} {own:List Nat} (h:mI w wb bs own) (hf:Fr M w w') (hn:∀b∈own,¬M b):mI w' wb bs own:=by
 obtain ⟨s,rfl,h1,h2⟩:=h
 exact ⟨s,rfl,hf.at h1 (hn _ (by simp)),h2.fr hf λb hb=>hn b (by simp [hb])⟩
def mI.qx {w w':aA} {wb:Nat} {bs:List UInt8} {own:List Nat} (h:mI w wb bs own) (hf:bW w w'):mI w' wb bs own:=h.fr hf λ_ _ h=>h
def mI.new (w:aA):mI (w.alloc (.cells #[.slice none 0 0] jv)) w.heap.size [] [w.heap.size]:=⟨⟨none,0,0⟩,rfl,mM w _,Ow.nil _ _⟩
def uT (w:aA) (wb:Nat) (own:List Nat) (bs:List UInt8) (w':aA):Prop:=∃fF,mI w' wb bs fF/\Fr (·∈own) w w'/\∀x∈fF,x∈own\/w.heap.size<=x
def wS (w:aA) (wb:Nat) (own:List Nat) (bs:List UInt8):aT:=λr w'=>r=aJ (.tuple #[])/\uT w wb own bs w'
def uT.refl {w:aA} {wb:Nat} {own:List Nat} {bs:List UInt8} (h:mI w wb bs own):uT w wb own bs w:=⟨own,h,Fr.refl _ _,λ_ h=>.inl h⟩
def uT.then {w w' wP:aA} {wb:Nat} {own fF:List Nat} {JE:List UInt8} (h1:Fr (·∈own) w w') (h2:∀x∈fF,x∈own\/w.heap.size<=x) (h:uT w' wb fF JE wP):uT w wb own JE wP:=by
 obtain ⟨RE,r,f,o⟩:=h
 refine ⟨RE,r,h1.trans f λx hx hm=>?_,λx hx=>?_⟩
 .rcases h2 x hm with h|h
  .exact h
  .omega
 .rcases o x hx with h|h
  .exact h2 x h
  .exact .inr (Nat.le_trans h1.size h)
def JB {w w1 w2:aA} {wb:Nat} {s s':Sl} {bs JE:List UInt8} (hc:w.heap[wb]? =some (.cells #[s.v] jv (0,0))) (h0:mH w s bs) (f1:bW w w1) (ho:mH w2 s' JE) (f2:Fr (·∈bQ s) w1 w2) (BX:∀b∈bQ s',b∈bQ s\/w1.heap.size<=b):
  (w2.cell? ((bO wb).add 0)).isSome=true/\w2.frozen? ((bO wb).add 0)=false/\uT w wb (wb::bQ s) JE (w2.setCell ((bO wb).add 0) s'.v):=by
 have jx:wb∉bQ s:=IL h0 hc (by decide)
 have c2:=f2.at (f1.at hc id) jx
 have c3:(w2.setCell ((bO wb).add 0) s'.v).heap[wb]? =_:=setAt (p:=bO wb) (i:=0) (v:=s'.v) c2 rfl
 have f3:Fr (·=wb) w2 (w2.setCell ((bO wb).add 0) s'.v):=Fr.set _ _ _ rfl
 have YG:wb∉bQ s':=IL ho c2 (by decide)
 refine ⟨by rw [cellAt (p:=bO wb) c2 rfl rfl];rfl,frozenAt (p:=bO wb) c2,wb::bQ s',⟨s',rfl,c3,ho.fr f3 λb hb e=>YG (e▸hb)⟩,?_,?_⟩
 .exact ((f1.of0 (M:=(·∈wb::bQ s))).trans f2 λx _ hx=>by simp [hx]).trans f3 λx _ hx=>by simp [hx]
 .intro x hx
  rcases dT.1 hx with rfl|hx
  .exact .inl (by simp)
  .rcases BX x hx with h|h
   .exact .inl (by simp [h])
   .exact .inr (Nat.le_trans f1.size h)
def Ba {w:aA} {wb:Nat} {s:Sl} (hc:w.heap[wb]? =some (.cells #[s.v] jv (0,0))):w.cell? ((bO wb).add 0)=some s.v:=cellAt (p:=bO wb) hc rfl rfl
def AB {w:aA} {wb:Nat} {s:Sl} {bs:List UInt8} (hc:w.heap[wb]? =some (.cells #[s.v] jv (0,0))) (h0:mH w s bs) (hl:bs.length<100000000000000) (c:UInt8) (K:aA->Prop) (hK:∀w',uT w wb (wb::bQ s) (bs++[c]) w'->K w'):
  ∃(t15:W.Sl) (w2:aA),Sem.run aB (Builtin.append_ #[bB,bB] bB #[s.v,.slice (some (Addr.mk w.heap.size 0 none)) 1 1]) (w.alloc (.cells #[.int .u8 (c.toNat:Int)] bS))=.ok (t15.v) w2/\(w2.cell? ((bO wb).add 0)).isSome=true/\w2.frozen? ((bO wb).add 0)=false/\K (w2.setCell ((bO wb).add 0) (t15.v)):=by
 have f1:bW w (w.alloc (.cells #[.int .u8 (c.toNat:Int)] bS)):=Fr.alloc _ _ _
 obtain ⟨s',w2,g1,g2,g3,g4,g5⟩:=tC (ty:=bB) (h0.qx f1) (IG w c) (by simp;omega)
 obtain ⟨a1,a2,a3⟩:=JB hc h0 f1 g2 g3 g4
 exact ⟨s',w2,g1,a1,a2,hK _ a3⟩
def Jz {wb:Nat} (R:aT):∀(n:Nat) (w:aA) (bs:List UInt8) (own:List Nat),n<18446744073709551616->bs.length+(tG n).length<=100000000000000->mI w wb bs own->(∀w',uT w wb own (bs++tG n) w'->R (aJ (.tuple #[])) w')->
  wire_Writer_Uint.L0 (bO wb) (n:Int) w R:=by
 intro n
 induction n using Nat.strongRecOn with
 |_ n ih=>
  intro w bs own hn hl hr hR
  obtain ⟨s,rfl,h1,h2⟩:=hr
  refine wire_Writer_Uint.dE _ _ _ _ ?_
  refine bR (λh=>?_) (λh=>?_)
  .have zp:¬n<128:=by simp at h;omega
   rw [oC zp] at hl
   have e:aC .u8 (n:Int)=_:=Sy n
   refine ⟨s,Ba h1,?_⟩
   rw [e,J4 _ (by omega)]
   have e2:((n%256%128+128:Nat):Int)=((UInt8.ofNat (n%128+128)).toNat:Int):=by simp;omega
   rw [e2]
   refine AB h1 h2 (by simp at hl;omega) (UInt8.ofNat (n%128+128)) (λw'=>wire_Writer_Uint.L0 (bO wb) (Int.fdiv (n:Int) (2^7)) w' R) λw' hw=>?_
   show wire_Writer_Uint.L0 (bO wb) (Int.fdiv (n:Int) (2^7)) w' R
   rw [show ((2:Int)^7)=((128:Nat):Int) from rfl,yk n 128 (by omega)]
   obtain ⟨fF,r',f',o'⟩:=hw
   refine ih (n / 128) (by omega) w' _ fF (by omega) (by simp at hl ⊢;omega) r' λwP acV=>hR wP ?_
   rw [oC zp,show bs++UInt8.ofNat (n%128+128)::tG (n / 128)=(bs++[UInt8.ofNat (n%128+128)])++tG (n / 128) by simp]
   exact acV.then f' o'
  .have zp:n<128:=by simp at h;omega
   rw [mL zp] at hl
   have e:aC .u8 (n:Int)=((UInt8.ofNat n).toNat:Int):=by rw [Sy];simp
   refine ⟨s,Ba h1,?_⟩
   rw [e]
   refine AB h1 h2 (by simp at hl;omega) (UInt8.ofNat n) (λw'=>R (aJ (.tuple #[])) w') λw' hw=>hR w' ?_
   rw [mL zp];exact hw
def iy (n:Nat) (h:n<18446744073709551616):(tG n).length<=10:=HE 9 n (by simpa using h)
def Dd {w:aA} {wb:Nat} {bs:List UInt8} {own:List Nat} (hr:mI w wb bs own) (n:Nat) (hn:n<18446744073709551616) (hl:bs.length<=10000000000000):
  aH aB iA #[.pointer (some (bO wb)),.int .u64 (n:Int)] w (wS w wb own (bs++tG n)):=
 wire_Writer_Uint.ok _ _ w _ (Jz _ n w bs own hn (by have:=iy n hn;omega) hr λw' h=>⟨rfl,h⟩)
def VS (n:Int) (h:qS n):W.Tn .u64 (aC .u64 ((aC .u64 n) *2^1)) (aC .u64 (Int.fdiv n (2^63)))=(zz n:Int):=by
 obtain ⟨h1,h2⟩:=h
 have e63:((2:Int)^63)=9223372036854775808:=rfl
 rw [e63,Int.fdiv_eq_ediv_of_nonneg _ (by omega),IntKind.wrap_u64,IntKind.wrap_u64,IntKind.wrap_u64]
 by_cases h0:0<=n
 .have e1:(n / 9223372036854775808)%18446744073709551616=((0:Nat):Int):=by omega
  have e2:(n%18446744073709551616 *2^1)%18446744073709551616=((2 *n).toNat:Int):=by omega
  rw [e1,e2,G3 _ _ (by omega) (by omega),Nat.xor_zero]
  unfold zz;rw [aN h0]
 .have e1:(n / 9223372036854775808)%18446744073709551616=((18446744073709551615:Nat):Int):=by omega
  have e2:(n%18446744073709551616 *2^1)%18446744073709551616=((18446744073709551616+2 *n).toNat:Int):=by omega
  rw [e1,e2,G3 _ _ (by omega) (by omega),SH _ (by omega)]
  unfold zz;rw [aI h0]
  omega
def xf (n:Int):List UInt8:=tG (zz n)
def Dc {w:aA} {wb:Nat} {bs:List UInt8} {own:List Nat} (hr:mI w wb bs own) (n:Int) (hn:qS n) (hl:bs.length<=10000000000000):
  aH aB fL #[.pointer (some (bO wb)),.int .i64 n] w (wS w wb own (bs++xf n)):=by
 refine wire_Writer_Int.ok _ _ w _ ?_
 rw [VS n hn]
 refine (Dd hr (zz n) (XJ n hn.1 hn.2) hl).mono ?_
 rintro r w1 ⟨rfl,h⟩
 exact ⟨rfl,rfl,h⟩
def Fq (b:List UInt8):List UInt8:=tG b.length++b
def ZS {w:aA} {wb:Nat} {bs:List UInt8} {own:List Nat} (hr:mI w wb bs own) (t:ByteArray) (hl:bs.length+t.size<=10000000000000):
  aH aB oI #[.pointer (some (bO wb)),.string t] w (wS w wb own (bs++Fq (bl t))):=by
 refine wire_Writer_Text.ok _ _ w _ ?_
 rw [M5 _ (by omega)]
 refine (Dd hr t.size (by omega) (by omega)).mono ?_
 rintro r w1 ⟨rfl,oo,r1,f1,o1⟩
 have l10:=iy t.size (by omega)
 obtain ⟨s1,rfl,c1,b1⟩:=r1
 obtain ⟨s',w2,g1,g2,g3,g4⟩:=Bf (ty:=bB) b1 t (by simp;omega)
 obtain ⟨a1,a2,a3⟩:=JB c1 b1 (Fr.refl _ w1) g2 g3 g4
 rw [tA] at a3
 exact ⟨rfl,s1,Ba c1,s',w2,g1,a1,a2,rfl,a3.then f1 o1⟩
def BH (l:List Int):List UInt8:=tG l.length++l.flatMap xf
def gZ (n:Int) (h:qS n):(xf n).length<=10:=iy _ (XJ n h.1 h.2)
def yl:∀(l:List Int),(∀x∈l,qS x)->(l.flatMap xf).length<=10 *l.length
 |[],_=>by simp
 |x::l,h=>by
  have h1:=gZ x (h x (by simp))
  have h2:=yl l λy hy=>h y (by simp [hy])
  simp at h2 ⊢
  omega
def Jy {wb:Nat} {s:Sl} {l:List Int} (R:aT) (hi:∀x∈l,qS x) (hl:l.length<=100000000000):∀(d i:Nat),i+d=l.length->∀(w:aA) (bs:List UInt8) (own:List Nat),mI w wb bs own->hU w s l->(∀x∈bQ s,x∉own)->(∀x∈bQ s,x<w.heap.size)->bs.length+10 *d<=10000000000000->
  (∀w',uT w wb own (bs++(l.drop i).flatMap xf) w'->R (aJ (.tuple #[])) w')->wire_Writer_Ints.L0 (bO wb) s (l.length:Int) (i:Int) w R:=by
 intro d
 induction d with
 |zero=>
  intro i hd w bs own hr hs hx jO hb hR
  refine wire_Writer_Ints.dE _ _ _ _ _ _ ?_
  refine aX (by simp;omega) (hR w ?_)
  rw [List.drop_of_length_le (by omega)]
  simpa using uT.refl hr
 |succ d ih=>
  intro i hd w bs own hr hs hx jO hb hR
  have hg:l[i]? =some l[i]:=ie (by omega)
  have hm:l[i]∈l:=List.getElem_mem _
  refine wire_Writer_Ints.dE _ _ _ _ _ _ ?_
  refine bF (by simp;omega) ⟨by omega,by rw [hU.len hs];omega,hU.cell hs hg (by simp) λp _ hp=>⟨_,hp,(Dc hr _ (hi _ hm) (by omega)).mono ?_⟩⟩
  rintro r w1 ⟨rfl,oo,r1,f1,o1⟩
  refine ⟨rfl,?_⟩
  show wire_Writer_Ints.L0 (bO wb) s (l.length:Int) (aC .i64 ((i:Int)+1)) w1 R
  rw [bP i (by omega)]
  have l10:=gZ _ (hi _ hm)
  refine ih (i+1) (by omega) w1 _ oo r1 (hs.fr f1 hx) (λx FK Ky=>?_) (λx FK=>Nat.lt_of_lt_of_le (jO x FK) f1.size) (by simp;omega) λw2 h2=>hR w2 ?_
  .rcases o1 x Ky with h|h
   .exact hx x FK h
   .have:=jO x FK;omega
  .rw [List.drop_eq_getElem_cons (by omega),List.flatMap_cons,<-tA]
   exact h2.then f1 o1
def ZR {w:aA} {wb:Nat} {bs:List UInt8} {own:List Nat} (hr:mI w wb bs own) {s:Sl} {l:List Int} (hb:hU w s l) (hd:∀x∈bQ s,x∉own) (jO:∀x∈bQ s,x<w.heap.size) (hi:∀x∈l,qS x) (hl:bs.length+10 *l.length<=1000000000000):
  aH aB lH #[.pointer (some (bO wb)),s.v] w (wS w wb own (bs++BH l)):=by
 refine wire_Writer_Ints.ok _ _ w _ ?_
 rw [hU.len hb,M5 _ (by omega)]
 refine (Dd hr l.length (by omega) (by omega)).mono ?_
 rintro r w1 ⟨rfl,oo,r1,f1,o1⟩
 have l10:=iy l.length (by omega)
 refine ⟨rfl,?_⟩
 dsimp only
 refine Jy _ hi (by omega) l.length 0 (by omega) w1 _ oo r1 (hb.fr f1 hd) (λx FK Ky=>?_) (λx FK=>Nat.lt_of_lt_of_le (jO x FK) f1.size) (by simp;omega) λw2 h2=>⟨rfl,?_⟩
 .rcases o1 x Ky with h|h
  .exact hd x FK h
  .have:=jO x FK;omega
 .rw [List.drop_zero,tA] at h2
  exact h2.then f1 o1
def Hq (s:Sl) (bs:List UInt8) (w:aA) (hb:Bytes w s bs) (hl:bs.length<=140737488355328):aH aB jf #[s.v] w (λr w'=>∃s:Sl,r=aJ s.v/\mH w' s bs/\bW w w'/\∀b∈bQ s,w.heap.size<=b):=by
 refine slices_Clone_sl_byte_byte.ok s w _ ?_
 refine bR (λh=>?_) (λh=>?_)
 .have hn:bs=[]:=by
   have:=(hb.2.2.1 (by simpa using h)).1
   exact List.eq_nil_of_length_eq_zero (by rw [<-Bytes.len hb,this])
  subst hn
  exact ⟨⟨none,0,0⟩,rfl,Ow.nil w _,Fr.refl _ _,by simp [bQ]⟩
 .show (λw1:aA=>∃(t7:Sl) (w2:aA),Sem.run aB (Builtin.append_ #[bB,bB] bB #[.slice (some (nb w)) 0 0,s.v]) w1=.ok (t7.v) w2/\(∃s:Sl,Ending.returned t7.v=aJ s.v/\mH w2 s bs/\bW w w2/\∀b∈bQ s,w.heap.size<=b)) (w.alloc (.cells #[] bS))
  generalize hw1:w.alloc (.cells #[] bS)=w1
  subst hw1
  let w1:=w.alloc (.cells #[] bS)
  have ho:mH w1 ⟨some ⟨w.heap.size,0,none⟩,0,0⟩ []:=Ow.made w bS [] 0 rfl (by omega)
  have L7:Bytes w1 s bs:=hb.qx (Fr.alloc _ _ _)
  obtain ⟨s',w2,mE,DE,El,BX,_⟩:=tC (ty:=bB) ho L7 (by simp;omega)
  refine ⟨s',w2,mE,s',rfl,by simpa using DE,?_,?_⟩
  .refine (Fr.alloc (λ_=>False) w _).trans El λx hx hm=>?_
   simp [bQ] at hm
   omega
  .intro b fA
   rcases BX b fA with h|h
   .simp [bQ] at h;omega
   .have:w1.heap.size=w.heap.size+1:=size_alloc _ _
    omega
def ZQ {w:aA} {wb:Nat} {bs:List UInt8} {own:List Nat} (hr:mI w wb bs own) (hl:bs.length<=100000000000000):
  aH aB oH #[.pointer (some (bO wb))] w (Ph w bs):=by
 obtain ⟨s,rfl,h1,h2⟩:=hr
 refine wire_Writer_Done.ok _ w _ ⟨s,Ba h1,(Hq s bs w h2.rd (by omega)).mono ?_⟩
 rintro r w1 ⟨s',rfl,h⟩
 exact ⟨s',rfl,s',rfl,h⟩
set_option maxRecDepth 100000
set_option maxHeartbeats 1000000
def uo (n:Nx):List UInt8:=xf n.op++(BH n.kids++(xf n.n++(xf n.m++(tG n.u.toNat++(Fq (bl n.tx)++(xf n.st.k++(xf n.st.n++xf n.st.x)))))))
structure JZ (x:Nx):Prop where
 op:qS x.op
 ks:∀k∈x.kids,qS k
 kl:x.kids.length<=1000000000
 n:qS x.n
 m:qS x.m
 u:0<=x.u/\x.u<18446744073709551616
 tx:x.tx.size<=1000000000
 sk:qS x.st.k
 sn:qS x.st.n
 sx:qS x.st.x
def N' {n:Nx} (W:JZ n):(uo n).length<=20000000000:=by
 have h1:=gZ _ W.op
 have h2:=yl _ W.ks
 have h3:=gZ _ W.n
 have h4:=gZ _ W.m
 have h5:=iy n.u.toNat (by have:=W.u;omega)
 have h6:=gZ _ W.sk
 have h7:=gZ _ W.sn
 have h8:=gZ _ W.sx
 have h9:=iy n.kids.length (by have:=W.kl;omega)
 have h0:=iy (bl n.tx).length (by have:=W.tx;rw [iH];omega)
 have k1:=W.kl
 have k2:=W.tx
 have k3:=iH n.tx
 unfold uo BH Fq
 simp only [nE]
 omega
def rl {P:aQ} {f:FuncId} {args:Array aD} {w0 w:aA} {wb:Nat} {Za:List Nat} {bs JE:List UInt8} (h:uT w0 wb Za bs w) (hc:∀own,mI w wb bs own->(∀x∈own,x∈Za\/w0.heap.size<=x)->aH P f args w (wS w wb own JE)) {K:aA->Prop} (hK:∀w',uT w0 wb Za JE w'->K w'):
  aH P f args w λr w'=>r=aJ (.tuple #[])/\K w':=by
 obtain ⟨own,hr,hf,ho⟩:=h
 refine (hc own hr ho).mono ?_
 rintro r w' ⟨rfl,h'⟩
 exact ⟨rfl,hK w' (uT.then hf ho h')⟩
def VO {w:aA} {wb:Nat} {bs:List UInt8} {own:List Nat} (hr:mI w wb bs own) {s:Sl} {l:List Int} (hb:hU w s l) (hd:∀x∈(En.rd s (l.map l4)).fp,x∉own) (hi:∀x∈l,qS x) (hl:bs.length+10 *l.length<=1000000000000):
  aH aB lH #[.pointer (some (bO wb)),s.v] w (wS w wb own (bs++BH l)):=by
 by_cases h0:l=[]
 .subst h0
  have hn:s.n=0:=hU.len hb
  refine wire_Writer_Ints.ok _ _ w _ ?_
  rw [hn]
  refine (Dd hr 0 (by omega) (by omega)).mono ?_
  rintro r w1 ⟨rfl,h⟩
  refine ⟨rfl,wire_Writer_Ints.dE _ _ _ _ _ _ (aX (by decide) ⟨rfl,?_⟩)⟩
  simpa [BH] using h
 .have FD:(En.rd s (l.map l4)).fp=bQ s:=by
   show (if l.map l4=[] then [] else bQ s)=_
   rw [aI (by simpa using h0)]
  exact ZR hr hb (λx hx=>hd x (FD▸hx)) (λx hx=>(En.rd s (l.map l4)).lt w hb x (FD▸hx)) hi hl
def VE {w:aA} {wb:Nat} {bs:List UInt8} {own:List Nat} (hr:mI w wb bs own) {p:Addr} {d:Nd} (hp:nl w p d) (hd:d.P w) (h1:p.block∉own) (h2:∀x∈(fV d).fp,x∉own) (W:JZ d.x) (hl:bs.length<=100000000000):
  aH aB tX #[.pointer (some (bO wb)),.pointer (some p)] w (wS w wb own (bs++uo d.x)):=by
 have at_:∀{JE:List UInt8} {w':aA},uT w wb own JE w'->nl w' p d:=λ⟨_,_,f,_⟩=>hp.st λjO=>f.ic _ jO h1
 have kd:∀{JE:List UInt8} {w':aA},uT w wb own JE w'->hU w' d.ks d.x.kids:=λ⟨_,_,f,_⟩=>(fV d).st w _ (λb hb hl=>f.ic _ hl (h2 b hb)) hd
 have k1:=gZ _ W.op
 have k2:=yl _ W.ks
 have k3:=gZ _ W.n
 have k4:=gZ _ W.m
 have hu:d.x.u=((d.x.u.toNat:Nat):Int):=by have:=W.u;omega
 have k5:=iy d.x.u.toNat (by have:=W.u;omega)
 have k6:=gZ _ W.sk
 have k7:=gZ _ W.sn
 have k9:=iy d.x.kids.length (by have:=W.kl;omega)
 have k0:=iy (bl d.x.tx).length (by have:=W.tx;rw [iH];omega)
 have m1:=W.kl
 have m2:=W.tx
 have m3:=iH d.x.tx
 have lL:(BH d.x.kids).length<=10000000010:=by unfold BH;simp only [nE];omega
 have lR:(Fq (bl d.x.tx)).length<=1000000010:=by unfold Fq;simp only [nE];omega
 refine term_write.ok _ _ w _ ⟨_,hp.c0,rl (uT.refl hr) (λo r _=>Dc r _ W.op (by omega)) λw1 a1=>⟨_,(at_ a1).c1,rl a1 (λo r ho=>VO r (kd a1) (λx hx hm=>?_) W.ks (by simp only [nE];omega)) λw2 a2=>⟨_,(at_ a2).c2,rl a2 (λo r _=>Dc r _ W.n (by simp only [nE];omega)) λw3 a3=>⟨_,(at_ a3).c3,rl a3 (λo r _=>Dc r _ W.m (by simp only [nE];omega)) λw4 a4=>⟨_,(at_ a4).c4,?_⟩⟩⟩⟩⟩
 .rcases ho x hm with h|h
  .exact h2 x hx h
  .have:=(fV d).lt w hd x hx
   omega
 rw [hu]
 refine rl a4 (λo r _=>Dd r d.x.u.toNat (by have:=W.u;omega) (by simp only [nE];omega)) λw5 a5=>⟨_,(at_ a5).c5,rl a5 (λo r _=>ZS r d.x.tx (by simp only [nE];omega)) λw6 a6=>⟨_,(at_ a6).s0,rl a6 (λo r _=>Dc r _ W.sk (by simp only [nE];omega)) λw7 a7=>⟨_,(at_ a7).s1,rl a7 (λo r _=>Dc r _ W.sn (by simp only [nE];omega)) λw8 a8=>⟨_,(at_ a8).s2,rl a8 (λo r _=>Dc r _ W.sx (by simp only [nE];omega)) λw9 a9=>⟨rfl,?_⟩⟩⟩⟩⟩
 unfold uo
 simp only [tA] at a9
 exact a9
def MY {w:aA} {p:Addr} {d:Nd} (hp:nl w p d) (hd:d.P w) (W:JZ d.x):
  aH aB q9 #[.pointer (some p)] w λr w'=>r=aJ (.string (ba (uo d.x)))/\bW w w':=by
 refine term_keyOf.ok _ w _ ?_
 have f0:bW w (w.alloc (.cells #[.slice none 0 0] jv)):=Fr.alloc _ _ _
 have lt:=N' W
 refine (VE (mI.new w) (hp.st λjO=>f0.ic _ jO id) ((fV d).st w _ (λb hb hl=>f0.ic _ hl id) hd) (by have:=nl.lt hp;simp;omega) (λx hx=>by have:=(fV d).lt w hd x hx;simp;omega) W (by simp)).mono ?_
 rintro r w1 ⟨rfl,fF,r1,f1,o1⟩
 rw [uI] at r1
 refine ⟨rfl,(ZQ r1 (by omega)).mono ?_⟩
 rintro r w2 ⟨s,rfl,hs,f2,_⟩
 refine ⟨s,rfl,_,pT hs.rd,rfl,?_⟩
 exact (f0.trans f1 λx hx hm=>by simp at hm;omega).Az f2
def Gz {a b:Nat} (ha:a<256) (hb:b<256) (h:UInt8.ofNat a=UInt8.ofNat b):a=b:=by
 have:=congrArg UInt8.toNat h
 simp at this
 omega
def yh:∀(n m:Nat) (r s:List UInt8),tG n++r=tG m++s->n=m/\r=s:=by
 intro n
 induction n using Nat.strongRecOn with
 |_ n ih=>
  intro m r s h
  by_cases hn:n<128<;>by_cases hm:m<128
  .rw [mL hn,mL hm] at h
   simp only [yK,uI,List.cons.injEq] at h
   exact ⟨Gz (by omega) (by omega) h.1,h.2⟩
  .rw [mL hn,oC hm] at h
   simp only [yK,uI,List.cons.injEq] at h
   have:=Gz (by omega) (by omega) h.1
   omega
  .rw [oC hn,mL hm] at h
   simp only [yK,uI,List.cons.injEq] at h
   have:=Gz (by omega) (by omega) h.1
   omega
  .rw [oC hn,oC hm] at h
   simp only [yK,List.cons.injEq] at h
   have h1:=Gz (by omega) (by omega) h.1
   have h2:=ih (n / 128) (by omega) _ _ _ h.2
   exact ⟨by omega,h2.2⟩
def ZT {a b:Int} (h:zz a=zz b):a=b:=by
 unfold zz at h
 split at h<;>split at h<;>omega
def rD {n m:Int} {r s:List UInt8} (h:xf n++r=xf m++s):n=m/\r=s:=by
 have:=yh _ _ _ _ h
 exact ⟨ZT this.1,this.2⟩
def Ef:∀{a b:List Int} {r s:List UInt8},a.length=b.length->a.flatMap xf++r=b.flatMap xf++s->a=b/\r=s
 |[],[],_,_,_,h=>⟨rfl,h⟩
 |[],_::_,_,_,hl,_=>by simp at hl
 |_::_,[],_,_,hl,_=>by simp at hl
 |x::a,y::b,r,s,hl,h=>by
  simp only [List.flatMap_cons,tA] at h
  obtain ⟨h1,h2⟩:=rD h
  obtain ⟨h3,h4⟩:=Ef (a:=a) (b:=b) (by simpa using hl) h2
  exact ⟨by rw [h1,h3],h4⟩
def Qp {a b:List Int} {r s:List UInt8} (h:BH a++r=BH b++s):a=b/\r=s:=by
 unfold BH at h
 simp only [tA] at h
 obtain ⟨h1,h2⟩:=yh _ _ _ _ h
 exact Ef h1 h2
def Qq {a b:List UInt8} {r s:List UInt8} (h:Fq a++r=Fq b++s):a=b/\r=s:=by
 unfold Fq at h
 simp only [tA] at h
 obtain ⟨h1,h2⟩:=yh _ _ _ _ h
 exact List.append_inj h2 h1
def N9 {n m:Nx} (hn:0<=n.u) (hm:0<=m.u) (h:uo n=uo m):n=m:=by
 unfold uo at h
 obtain ⟨h1,h⟩:=rD h
 obtain ⟨h2,h⟩:=Qp h
 obtain ⟨h3,h⟩:=rD h
 obtain ⟨h4,h⟩:=rD h
 obtain ⟨h5,h⟩:=yh _ _ _ _ h
 obtain ⟨h6,h⟩:=Qq h
 obtain ⟨h7,h⟩:=rD h
 obtain ⟨h8,h⟩:=rD h
 have h9:=(rD (r:=[]) (s:=[]) (by simpa using h)).1
 have u5:n.u=m.u:=by omega
 have u6:n.tx=m.tx:=by
  have:=congrArg ba h6
  rwa [rA,rA] at this
 obtain ⟨a1,a2,a3,a4,a5,a6,⟨a7,a8,a9⟩⟩:=n
 obtain ⟨b1,b2,b3,b4,b5,b6,⟨b7,b8,b9⟩⟩:=m
 simp only at h1 h2 h3 h4 u5 u6 h7 h8 h9
 clear h5 h6
 subst h1 h2 h3 h4 u5 u6 h7 h8 h9
 rfl
def yt (n:Nx):ByteArray:=ba (uo n)
def Q7 {n m:Nx} (hn:0<=n.u) (hm:0<=m.u) (h:yt n=yt m):n=m:=by
 refine N9 hn hm ?_
 have:=congrArg bl h
 unfold yt at this
 rwa [r7,r7] at this
def oZ (es:Array MapEntry) (ms:List (ByteArray×aD)):Prop:=es.toList.map (λe=>(e.key,e.val))=ms.map λp=>(Value.string p.1,p.2)
def xE (ms:List (ByteArray×aD)) (k:ByteArray):Option aD:=(ms.find? λp=>aR (p.1=k)).map (·.2)
def Tt (a b:ByteArray):(a==b)=aR (b=a):=by
 cases h:aR (b=a) with
 |true=>rw [of_decide_eq_true h];exact (Go.MapKept.bytes_beq _ _).2 rfl
 |false=>
  cases hc:(a==b) with
  |false=>rfl
  |true=>exact absurd ((Go.MapKept.bytes_beq _ _).1 hc).symm (of_decide_eq_false h)
def ve {k:ByteArray}:∀{es:List MapEntry} {ms:List (ByteArray×aD)} {i:Nat},es.map (λe=>(e.key,e.val))=ms.map (λp=>(Value.string p.1,p.2))->
  Instr.findNow .string (.string k) es i=some ((ms.findIdx? λp=>aR (p.1=k)).bind λj=>(ms[j]?).map λp=>(i+j,p.2))
 |[],[],i,_=>rfl
 |[],_::_,_,h=>by simp at h
 |_::_,[],_,h=>by simp at h
 |e::es,p::ms,i,h=>by
  simp only [List.map_cons,List.cons.injEq,Prod.mk.injEq] at h
  obtain ⟨⟨h1,h2⟩,h3⟩:=h
  have ih:=ve (k:=k) (i:=i+1) h3
  unfold Instr.findNow
  simp only [h1,Instr.sameNow,Tt]
  by_cases hk:p.1=k
  .have e2:aR (p.1=k)=true:=aO hk
   simp [List.findIdx?_cons,hk,h2]
  .have e2:aR (p.1=k)=false:=aK hk
   simp only [ih,List.findIdx?_cons,e2,Bool.false_eq_true,if_false]
   congr 1
   cases hf:ms.findIdx? (λp=>aR (p.1=k)) with
   |none=>simp
   |some j=>simp [Nat.add_assoc,Nat.add_comm 1 j]
def I8 {ms:List (ByteArray×aD)} {k:ByteArray} {i:Nat}:(((ms.findIdx? λp=>aR (p.1=k)).bind λj=>(ms[j]?).map λp=>(i+j,p.2)).map (·.2))=xE ms k:=by
 unfold xE
 induction ms generalizing i with
 |nil=>rfl
 |cons p ms ih=>
  by_cases hk:p.1=k
  .simp [List.findIdx?_cons,hk]
  .have e2:aR (p.1=k)=false:=aK hk
   simp only [List.findIdx?_cons,e2,Bool.false_eq_true,if_false,List.find?_cons]
   rw [<-ih (i:=i+1)]
   cases hf:ms.findIdx? (λp=>aR (p.1=k)) with
   |none=>simp
   |some j=>simp [Function.comp_def]
structure E0 (P:aQ) (T kt et:aP) (z:aD):Prop where
 hT:P.underlying T=some (.map kt et)
 hk:P.underlying kt=some .string
 hz:(P.info? et).map (·.zero)=some (some z)
def yb {P:aQ} {kt:aP} (hk:P.underlying kt=some .string) (b:Bool) (k:ByteArray) (w:aA):(Instr.checkKey b 10000 kt (.string k)).run P w=.ok () w:=by
 unfold Instr.checkKey
 simp [run_underlying hk]
def Ce {P:aQ} {T kt et:aP} {z:aD} (mo:E0 P T kt et z) {w:aA} {mb:Nat} {es:Array MapEntry} {clock:Nat} {ms:List (ByteArray×aD)}
  (hm:w.heap[mb]? =some (.map es clock)) (wF:oZ es ms) (k:ByteArray):
  (Instr.lookup T (.map (some mb)) (.string k) true).run P w=.ok (.tuple #[(xE ms k).getD z,.bool (xE ms k).isSome]) w:=by
 have hf:=ve (k:=k) (i:=0) wF
 have hg:(getObj mb).run P w=.ok (.map es clock) w:=by simp [getObj,Sem.run,hm]
 have Ad:=I8 (ms:=ms) (k:=k) (i:=0)
 unfold Instr.lookup Instr.findKey
 simp only [Sem.run_bind,run_underlying mo.hT,Result.andThen_ok,hg,Sem.run_pure,yb mo.hk,run_underlying mo.hk,hf]
 cases hr:((ms.findIdx? λp=>aR (p.1=k)).bind λj=>(ms[j]?).map λp=>(0+j,p.2)) with
 |none=>rw [hr] at Ad;simp [<-Ad,sT mo.hz]
 |some q=>rw [hr] at Ad;simp [<-Ad]
def CY {P:aQ} {T kt et:aP} {z:aD} (mo:E0 P T kt et z) {w:aA} {mb:Nat} {es:Array MapEntry} {clock:Nat} {ms:List (ByteArray×aD)}
  (hm:w.heap[mb]? =some (.map es clock)) (wF:oZ es ms) (k:ByteArray) (v:aD) (tz:xE ms k=none):
  ∃w' Ec,(Instr.mapUpdate T (.map (some mb)) (.string k) v).run P w=.ok () w'/\w'.heap[mb]? =some (.map Ec (clock+1))/\oZ Ec (ms++[(k,v)])/\Fr (λb=>b=mb) w w'/\w'.heap.size=w.heap.size:=by
 have hf:=ve (k:=k) (i:=0) wF
 have hg:(getObj mb).run P w=.ok (.map es clock) w:=by simp [getObj,Sem.run,hm]
 have Ad:=I8 (ms:=ms) (k:=k) (i:=0)
 have jO:=gh hm
 have hr:((ms.findIdx? λp=>aR (p.1=k)).bind λj=>(ms[j]?).map λp=>(0+j,p.2))=none:=by
  rw [tz] at Ad;simpa using Ad
 refine ⟨{w with heap:=w.heap.setIfInBounds mb (.map (es.push {key:=.string k,val:=v,born:=clock}) (clock+1))},es.push {key:=.string k,val:=v,born:=clock},?_,by simp [jO],?_,Fr.setObj w mb _ rfl,by simp⟩
 .unfold Instr.mapUpdate Instr.findKey
  simp only [Sem.run_bind,run_underlying mo.hT,Result.andThen_ok,hg,yb mo.hk,run_underlying mo.hk,hf,hr]
  simp [setObj,Sem.run,hm]
 .unfold oZ at wF ⊢
  simp [wF]
def jZ:List Nx->Nat->List (ByteArray×aD)
 |[],_=>[]
 |d::g,i=>(yt d,.i (i:Int))::jZ g (i+1)
def Ap (n:Nx):∀(g:List Nx) (i:Nat),jZ (g++[n]) i=jZ g i++[(yt n,.i ((i+g.length:Nat):Int))]
 |[],i=>by simp [jZ]
 |d::g,i=>by
  have:=Ap n g (i+1)
  simp only [yK,jZ,this,List.length_cons]
  rw [show i+1+g.length=i+(g.length+1) by omega]
def xA {n:Nx} (hn:0<=n.u):∀{g:List Nx} {i:Nat},(∀d∈g,0<=d.u)->xE (jZ g i) (yt n)=(qB n g i).map λk:Nat=>.i (k:Int)
 |[],i,_=>rfl
 |d::g,i,h=>by
  have ih:=xA hn (g:=g) (i:=i+1) λe he=>h e (by simp [he])
  unfold xE at ih ⊢
  unfold jZ qB
  by_cases hd:d=n
  .subst hd
   simp
  .have hk:¬yt d=yt n:=λe=>hd (Q7 (h d (by simp)) hn e)
   rw [aI hd,List.find?_cons]
   simp only [aK hk]
   exact ih
def pL:List Nx->List (ByteArray×aD)
 |[]=>[]
 |d::g=>if d.op=0 then (d.tx,kQ d.st)::pL g else pL g
def CZ (n:Nx):∀(g:List Nx),pL (g++[n])=pL g++(if n.op=0 then [(n.tx,kQ n.st)] else [])
 |[]=>by
  unfold pL
  simp only [uI,pL]
 |d::g=>by
  have:=CZ n g
  simp only [yK,pL,this]
  split<;>simp
def zT (t:ByteArray):∀(g:List Nx),xE (pL g) t=(qL g t).map kQ
 |[]=>rfl
 |d::g=>by
  have ih:=zT t g
  unfold xE at ih ⊢
  unfold pL qL
  by_cases h0:d.op=0
  .rw [aN h0,List.find?_cons]
   by_cases ht:d.tx=t
   .rw [aN ⟨h0,ht⟩]
    simp [ht]
   .rw [aI (λh=>ht h.2)]
    simp only [aK ht]
    exact ih
  .rw [aI h0,aI (λh=>h0 h.1)]
   exact ih
abbrev OO (bb:Nat) (s:Sl) (mp mv:Nat) (l:List Nd) (xg:Array MapEntry) (c1:Nat) (wi:Array MapEntry) (c2:Nat):List En:=
 [.c bb [s.v,.map (some mp),.map (some mv)] ib,.row bE 9 s (l.flatMap Nd.c),.ob mp (.map xg c1),.ob mv (.map wi c2)]
def nM (w:aA) (bb:Nat) (l:List Nd) (own:List Nat):Prop:=∃(s:Sl) (mp mv:Nat) (xg:Array MapEntry) (c1:Nat) (wi:Array MapEntry) (c2:Nat),own=(OO bb s mp mv l xg c1 wi c2).flatMap (·.fp)/\own.Nodup/\(∀e∈OO bb s mp mv l xg c1 wi c2,e.P w)/\oZ xg (jZ (xs l) 0)/\oZ wi (pL (xs l))
def JP (w:aA) (bb:Nat) (own:List Nat) (l:List Nd) (w':aA):Prop:=∃fF,nM w' bb l fF/\Fr (·∈own) w w'/\∀x∈fF,x∈own\/w.heap.size<=x
def nM.open {w:aA} {bb:Nat} {l:List Nd} {own:List Nat} (h:nM w bb l own) (D:List En) (hD:∀e∈D,e.P w/\∀b∈e.fp,b∉own):
  ∃(s:Sl) (mp mv:Nat) (xg:Array MapEntry) (c1:Nat) (wi:Array MapEntry) (c2:Nat),oZ xg (jZ (xs l) 0)/\oZ wi (pL (xs l))/\LH (·∈own) w w (OO bb s mp mv l xg c1 wi c2) D:=by
 obtain ⟨s,mp,mv,xg,c1,wi,c2,ho,hn,hP,h1,h2⟩:=h
 have vk:∀e∈OO bb s mp mv l xg c1 wi c2,∀b∈e.fp,b∈own:=λe he b hb=>by rw [ho];exact nG.2 ⟨e,he,hb⟩
 exact ⟨s,mp,mv,xg,c1,wi,c2,h1,h2,LH.uf _ _ (λe he=>⟨hP e he,vk e he⟩) (ho▸hn) (λe he=>⟨(hD e he).1,λb hb e' lM hm=>(hD e he).2 b hb (vk e' lM b hm)⟩)⟩
def nM.close {w w':aA} {bb:Nat} {l:List Nd} {own:List Nat} {s:Sl} {mp mv:Nat} {xg:Array MapEntry} {c1:Nat} {wi:Array MapEntry} {c2:Nat} {D:List En} (H:LH (·∈own) w w' (OO bb s mp mv l xg c1 wi c2) D) (h1:oZ xg (jZ (xs l) 0)) (h2:oZ wi (pL (xs l))):JP w bb own l w':=
 ⟨_,⟨s,mp,mv,xg,c1,wi,c2,rfl,H.nd,H.own,h1,h2⟩,H.fr,λx hx=>by
  obtain ⟨e,he,hb⟩:=nG.1 hx
  exact (H.new e he x hb).symm⟩
def Cf:E0 aB pI cG cT (.int .i64 0):=⟨by kernel_rfl,by kernel_rfl,by kernel_rfl⟩
def Iv:E0 aB lK cG bI (.agg #[.int .i64 0,.int .i64 0,.int .i64 0]):=⟨by kernel_rfl,by kernel_rfl,by kernel_rfl⟩
def _root_.Go.W.En.cl (p:Addr) (v:aD):En:=⟨[p.block],λw=>w.cell? p=some v,λw w' h hp=>by
 have hl:=qW hp
 unfold World.cell? at hp ⊢
 rw [h p.block (by simp) hl]
 exact hp,λw hp b hb=>by simp at hb;subst hb;exact qW hp,by simp⟩
def look_eq {l:List Nd} (t:ByteArray):∃(a b c:Int) (y:Bool),((xE (pL (xs l)) t).getD (.agg #[.int .i64 0,.int .i64 0,.int .i64 0]))=.agg #[.i a,.i b,.i c]/\(xE (pL (xs l)) t).isSome=y/\Ey (xs l) t=aJ (.tuple #[.agg #[.i a,.i b,.i c],.bool y]):=by
 rw [zT]
 unfold Ey
 cases qL (xs l) t with
 |none=>exact ⟨0,0,0,false,rfl,rfl,rfl⟩
 |some s=>exact ⟨s.k,s.n,s.x,true,rfl,rfl,rfl⟩
def XY {w:aA} {bb:Nat} {l:List Nd} {s:Sl} {mp mv:Nat} {xg:Array MapEntry} {c1:Nat} {wi:Array MapEntry} {c2:Nat} {t1:Addr} (h:∀e∈OO bb s mp mv l xg c1 wi c2,e.P w) (h2:oZ wi (pL (xs l))) (ht:w.cell? t1=some (.pointer (some (bO bb)))) (t:ByteArray):
  aH aB iT #[.string t,.pointer (some t1)] w λr w'=>r=Ey (xs l) t/\bW w w':=by
 have H:LH F0 w w [] (OO bb s mp mv l xg c1 wi c2++[.cl t1 (.pointer (some (bO bb)))]):=og _ (by
  intro e he
  rcases List.mem_append.1 he with he|he
  .exact h e he
  .simp only [dT,gL,or_false] at he
   subst he
   exact ht)
 obtain ⟨a,b,c,y,e1,e2,e3⟩:=look_eq (l:=l) t
 refine term_builder_sortOf_1.dQ t t1 w _ (H.cC λb3 w1 H1=>⟨_,H1.getD 4,sw ⟨some mv,cellAt (p:=bO bb) (H1.getD 0) rfl rfl,a,b,c,y,?_,H1.cC λb5 w2 H2=>H2.bH λw3 H3=>⟨e3.symm,H3.fr⟩⟩⟩)
 rw [Ce Iv (H1.getD 3) h2 t,e1,e2]
def G4 {w:aA} {bb:Nat} {l:List Nd} {own:List Nat} {d:Nd} (h:nM w bb l own) (HX:∀e∈l,e.P w) (hd:d.P w) (hk:rV.P w) (ho:XS d.x) (Kx:l.length<=1000000000) (hv:∀e∈xs l,cI e.st=true):
  aH aB jF #[.pointer (some (bO bb)),d.v] w λr w'=>r=mw (eF (xs l) d.x)/\bW w w':=by
 obtain ⟨s,mp,mv,xg,c1,wi,c2,_,_,hP,_,h2⟩:=h
 have jc:bD w bE 9 s (l.flatMap Nd.c):=hP _ (dI (i:=1) rfl)
 have H:LH F0 w w [] (OO bb s mp mv l xg c1 wi c2++[.gr s l,fV d,rV]):=og _ (by
  intro e he
  rcases List.mem_append.1 he with he|he
  .exact hP e he
  .simp only [dT,gL,or_false] at he
   rcases he with rfl|rfl|rfl
   .exact eG.2 ⟨jc.jG,HX⟩
   .exact hd
   .exact hk)
 refine term_builder_sortOf.dQ _ _ _ _ _ _ _ _ _ _ w _ (H.nw λw1 _ H1=>H1.cC λb3 w2 H2=>H2.cC λb4 w3 H3=>H3.bH λw4 H4=>⟨_,H4.KG 0,sw ⟨s,cellAt (p:=bO bb) (H4.getD 0) rfl rfl,?_⟩⟩)
 have Hs:LH F0 w4 w4 [] (.gr s l::fV d::rV::(OO bb s mp mv l xg c1 wi c2++[.cl (bO w.heap.size) (.pointer (some (bO bb)))])):=og _ (by
  intro e he
  simp only [yK,uI,dT,gL,or_false] at he
  rcases he with rfl|rfl|rfl|rfl|rfl|rfl|rfl|rfl
  .exact H4.getD 4
  .exact H4.getD 5
  .exact H4.getD 6
  .exact H4.getD 0
  .exact H4.getD 1
  .exact H4.getD 2
  .exact H4.getD 3
  .exact H4.KG 0)
 refine H4.bC (Sr ⟨iT,#[],#[.pointer (some (bO w.heap.size))]⟩ Hs (by kernel_rfl) (λw' GK=>?_) ho Kx hv) ?_
 .exact XY (λe he=>GK e (List.mem_append_left _ he)) h2 (GK (.cl (bO w.heap.size) (.pointer (some (bO bb)))) (by simp)) d.x.tx
 .rintro _ w5 rfl H5
  exact ⟨_,_,_,_,rfl,H5.bH λw6 H6=>⟨rfl,H6.fr⟩⟩
def wA (g:List Nx) (n:Nx):Int×Bool:=match qB n g 0 with
 |some i=>((i:Int),true)
 |none=>(0,false)
def find_eq {g:List Nx} {n:Nx} (hn:0<=n.u) (hu:∀e∈g,0<=e.u):(xE (jZ g 0) (yt n)).getD (.int .i64 0)=.i (wA g n).1/\(xE (jZ g 0) (yt n)).isSome=(wA g n).2:=by
 rw [xA hn hu]
 unfold wA
 cases qB n g 0 with
 |none=>exact ⟨rfl,rfl⟩
 |some i=>exact ⟨rfl,rfl⟩
def Px {w:aA} {bb:Nat} {l:List Nd} {own:List Nat} {d:Nd} (h:nM w bb l own) (hd:d.P w) (W:JZ d.x) (hu:∀e∈xs l,0<=e.u):
  aH aB kr #[.pointer (some (bO bb)),d.v] w λr w'=>r=aJ (.tuple #[.i (wA (xs l) d.x).1,.bool (wA (xs l) d.x).2])/\bW w w':=by
 obtain ⟨s,mp,mv,xg,c1,wi,c2,_,_,hP,h1,_⟩:=h
 have H:LH F0 w w [] (OO bb s mp mv l xg c1 wi c2++[fV d]):=og _ (by
  intro e he
  rcases List.mem_append.1 he with he|he
  .exact hP e he
  .simp only [dT,gL,or_false] at he
   subst he
   exact hd)
 refine term_builder_find.ok _ _ _ _ _ _ _ _ _ _ w _ (H.nw λw1 _ H1=>H1.dr λw2 H2=>⟨some mp,cellAt (p:=bO bb) (H2.getD 0) rfl rfl,H2.call (MY (d:=d) (FV (H2.ob 0)) (H2.getD 4) W) ?_⟩)
 rintro _ w3 rfl H3
 obtain ⟨e1,e2⟩:=find_eq W.u.1 hu
 refine ⟨_,rfl,cellAt (p:=bO bb) (H3.getD 0) rfl rfl,(wA (xs l) d.x).1,(wA (xs l) d.x).2,?_,rfl,H3.fr⟩
 have:=Ce Cf (H3.getD 2) h1 (yt d.x)
 rw [e1,e2] at this
 exact this
def Py {w:aA} {bb:Nat} {l:List Nd} {own:List Nat} {d:Nd} (h:nM w bb l own) (hd:d.P w) (hdo:∀b∈(fV d).fp,b∉own) (W:JZ d.x) (hu:∀e∈xs l,0<=e.u) (hl:l.length<=100000) (tz:d.x∉xs l) (acU:d.x.op=0->qL (xs l) d.x.tx=none):
  aH aB jr #[.pointer (some (bO bb)),d.v] w λr w'=>r=aJ (.i (l.length:Int))/\JP w bb own (l++[d]) w':=by
 obtain ⟨s,mp,mv,xg,c1,wi,c2,h1,h2,H⟩:=h.open [fV d] (by
  intro e he
  simp only [dT,gL,or_false] at he
  subst he
  exact ⟨hd,hdo⟩)
 have hn:s.n=l.length:=Nd.cX (show lN 9 w s (l.flatMap Nd.c) from (show bD w bE 9 s (l.flatMap Nd.c) from H.get 1).jG)
 have g1:xE (jZ (xs l) 0) (yt d.x)=none:=by
  rw [xA W.u.1 hu]
  cases hi:qB d.x (xs l) 0 with
  |none=>rfl
  |some i=>
   have:=(rF hi).2
   exact absurd (dI this) tz
 have exs:xs (l++[d])=xs l++[d.x]:=by simp [xs]
 have p1:jZ (xs (l++[d])) 0=jZ (xs l) 0++[(yt d.x,.i (l.length:Int))]:=by rw [exs,Ap];simp [xs]
 have p2:pL (xs (l++[d]))=pL (xs l)++(if d.x.op=0 then [(d.x.tx,kQ d.x.st)] else []):=by rw [exs,CZ]
 have S0:∀(TT:Array MapEntry) (c1':Nat) (Ki:Array MapEntry) (c2' nbk:Nat) (w1:aA),oZ TT (jZ (xs (l++[d])) 0)->oZ Ki (pL (xs (l++[d])))->LH (·∈own) w w1 (OO bb s mp mv l TT c1' Ki c2'++[.c nbk d.c bE]) [fV d]->
   term_builder_put.S0 (bO bb) (bO nbk) w1 λr w'=>r=aJ (.i (l.length:Int))/\JP w bb own (l++[d]) w':=by
  intro TT c1' Ki c2' nbk w1 q1 q2 H1
  refine H1.dr λw2 H2=>⟨s,H2.ld 0 0,?_⟩
  refine ⟨d.x.op,d.ks,d.x.n,d.x.m,d.x.u,d.x.tx,d.x.st.k,d.x.st.n,d.x.st.x,H2.ld 4 0,H2.ld 4 1,H2.ld 4 2,H2.ld 4 3,H2.ld 4 4,H2.ld 4 5,H2.ld 4 6,H2.ld 4 7,H2.ld 4 8,H2.nw λw3 _ H3=>⟨H3.ld 0 0,?_⟩⟩
  have Ie:lN 9 w3 ⟨some (bO w2.heap.size),1,1⟩ ([d].flatMap Nd.c):=by
   rw [show [d].flatMap Nd.c=d.c by simp]
   exact r8 (T:=bE) (H3.ob 5) rfl
  refine H3.ap 1 qY (src:=⟨some (bO w2.heap.size),1,1⟩) rfl Ie.2.2 Ie.1 xr (by simp only;omega) (λs' w4 H4 Up _=>H4.st 0 0 rfl (λw5 H5=>⟨s',H5.ld 0 0,?_⟩))
  refine ⟨?_,nM.close (s:=s') (mp:=mp) (mv:=mv) (xg:=TT) (c1:=c1') (wi:=Ki) (c2:=c2') (D:=[fV d]) ?_ q1 q2⟩
  .rw [Up,IntWalk.i64_in _ (by simp only;omega)]
   simp only
   rw [hn]
   congr 2
   omega
  .have:=H5.take 4
   unfold OO
   rw [show (l++[d]).flatMap Nd.c=l.flatMap Nd.c++[d].flatMap Nd.c from List.flatMap_append]
   exact this
 refine term_builder_put.ok _ _ _ _ _ _ _ _ _ _ w _ (H.nw λw1 _ H1=>H1.dr λw2 H2=>⟨some mp,H2.ld 0 1,s,H2.ld 0 0,H2.call (MY (d:=d) (FV (H2.ob 4)) (H2.getD 0) W) ?_⟩)
 rintro _ w3 rfl H3
 obtain ⟨w4,Ec,u1,u2,u3,u4,_⟩:=CY Cf (H3.ob 2) h1 (yt d.x) (.i ((s.n:Nat):Int)) g1
 have H4:=H3.CX 2 (.ob mp (.map Ec (c1+1))) rfl (u4.mono λx _ e=>by simp [En.ob,e]) u2 (λb hb=>.inl hb)
 have q1:oZ Ec (jZ (xs (l++[d])) 0):=by rw [p1,<-hn];exact u3
 refine ⟨_,rfl,H3.ld 0 0,H3.ld 0 1,w4,u1,d.x.op,H4.ld 4 0,aY (λh0=>?_) (λh0=>?_)⟩
 .refine H4.dr λw5 H5=>⟨some mv,H5.ld 0 2,d.x.tx,H5.ld 4 5,?_⟩
  have g2:xE (pL (xs l)) d.x.tx=none:=by rw [zT,acU h0];rfl
  obtain ⟨w6,Ki,v1,v2,v3,v4,_⟩:=CY Iv (H5.ob 3) h2 d.x.tx (kQ d.x.st) g2
  have H6:=H5.CX 3 (.ob mv (.map Ki (c2+1))) rfl (v4.mono λx _ e=>by simp [En.ob,e]) v2 (λb hb=>.inl hb)
  have a:=FV (d:=d) (H5.ob 4)
  refine ⟨d.x.st.k,d.x.st.n,d.x.st.x,a.s0,a.s1,a.s2,w6,v1,S0 Ec (c1+1) Ki (c2+1) w.heap.size w6 q1 ?_ H6⟩
  rw [p2,aN h0]
  exact v3
 .refine S0 Ec (c1+1) wi c2 w.heap.size w4 q1 ?_ H4
  rw [p2,aI h0,List.append_nil]
  exact h2
def nM.st {w w':aA} {bb:Nat} {l:List Nd} {own:List Nat} (h:nM w bb l own) (k:∀b∈own,b<w.heap.size->w'.heap[b]? =w.heap[b]?):nM w' bb l own:=by
 obtain ⟨s,mp,mv,xg,c1,wi,c2,ho,hn,hP,h1,h2⟩:=h
 exact ⟨s,mp,mv,xg,c1,wi,c2,ho,hn,λe he=>e.st w w' (λb hb hl=>k b (by rw [ho];exact nG.2 ⟨e,he,hb⟩) hl) (hP e he),h1,h2⟩
def nM.lt {w:aA} {bb:Nat} {l:List Nd} {own:List Nat} (h:nM w bb l own):∀b∈own,b<w.heap.size:=by
 obtain ⟨s,mp,mv,xg,c1,wi,c2,ho,hn,hP,h1,h2⟩:=h
 intro b hb
 rw [ho] at hb
 obtain ⟨e,he,hb⟩:=nG.1 hb
 exact e.lt w (hP e he) b hb
def _root_.Go.W.En.bu (bb:Nat) (own:List Nat) (l:List Nd):En:=⟨JL own,λw=>nM w bb l own,λw w' h hp=>hp.st λb hb=>h b (aV.2 hb),λw hp b hb=>hp.lt b (aV.1 hb),kM _⟩
def PC (w:aA) (bb:Nat) (own:List Nat) (l:List Nd) (b:Nat):¬(En.bu bb own l).P ({w with heap:=Array.replicate (b+1) (.map #[] 0)}):=by
 rintro ⟨s,mp,mv,xg,c1,wi,c2,ho,hn,hP,h1,h2⟩
 have h:=hP _ (dI (i:=0) rfl)
 exact D1 w bb _ ib b h
section
variable {M:Nat->Prop} {w0 w:aA} {L D:List En} {bs:List Nat}
def _root_.Go.W.LH.buG (H:LH M w0 w L D) (i:Nat) {bb:Nat} {own:List Nat} {l l':List Nd} {w':aA} (hi:L[i]? =some (.bu bb own l)) (h:JP w bb own l' w'):∃fF,LH M w0 w' (L.set i (.bu bb fF l')) D/\nM w' bb l' fF:=by
 obtain ⟨fF,r,f,o⟩:=h
 exact ⟨fF,H.CX i (.bu bb fF l') hi (f.mono λx _ hx=>aV.2 hx) r (λb hb=>(o b (aV.1 hb)).imp aV.2 id),r⟩
def _root_.Go.W.LH.buC (H:LH M w0 w L D) (i:Nat) {bb:Nat} {own:List Nat} {l l':List Nd} {P:aQ} {g:FuncId} {args:Array aD} {A:Ending->Prop} {K:aT} (hi:L[i]? =some (.bu bb own l)) (hc:aH P g args w λr w'=>A r/\JP w bb own l' w')
  (hk:∀r w' fF,A r->LH M w0 w' (L.set i (.bu bb fF l')) D->K r w') (kS:∀b∈bs,En.g b∈L:=by simp):fZ bs P g args w K:=
 ⟨(·∈own),λb hb hm=>lW H hi (PC w bb own l) (kS b hb) (aV.2 hm),hc.mono λr w' ⟨ha,h⟩=>by
  obtain ⟨_,_,f,_⟩:=id h
  obtain ⟨fF,H',_⟩:=H.buG i hi h
  exact ⟨f,hk r w' fF ha H'⟩⟩
end
def nM.nil (w:aA):JP w (w.heap.size+2) [] [] ((((w.alloc (.map #[] 0)).alloc (.map #[] 0)).alloc (.cells #[.slice none 0 0,.map (some w.heap.size),.map (some (w.heap.size+1))] ib))):=by
 have s1:(w.alloc (.map #[] 0)).heap.size=w.heap.size+1:=size_alloc _ _
 have s2:((w.alloc (.map #[] 0)).alloc (.map #[] 0)).heap.size=w.heap.size+2:=by rw [size_alloc,s1]
 have m1:(w.alloc (.map #[] 0)).heap[w.heap.size]? =some (.map #[] 0):=mM w _
 have m1':=(Fr.alloc F0 (w.alloc (.map #[] 0)) (.map #[] 0)).at m1 id
 have m2:=mM (w.alloc (.map #[] 0)) (.map #[] 0)
 rw [s1] at m2
 have f3:=Fr.alloc F0 ((w.alloc (.map #[] 0)).alloc (.map #[] 0)) (.cells #[.slice none 0 0,.map (some w.heap.size),.map (some (w.heap.size+1))] ib)
 have c:=mM ((w.alloc (.map #[] 0)).alloc (.map #[] 0)) (.cells #[.slice none 0 0,.map (some w.heap.size),.map (some (w.heap.size+1))] ib)
 rw [s2] at c
 have f:bW w (((w.alloc (.map #[] 0)).alloc (.map #[] 0)).alloc (.cells #[.slice none 0 0,.map (some w.heap.size),.map (some (w.heap.size+1))] ib)):=((Fr.alloc F0 w _).Az (Fr.alloc F0 _ _)).Az f3
 refine ⟨_,⟨⟨none,0,0⟩,w.heap.size,w.heap.size+1,#[],0,#[],0,rfl,?_,λe he=>?_,rfl,rfl⟩,f.of0,λx hx=>?_⟩
 .show ([w.heap.size+2]++([]++([w.heap.size]++([w.heap.size+1]++[])))).Nodup
  simp
 .simp only [dT,gL,or_false] at he
  rcases he with rfl|rfl|rfl|rfl
  .exact c
  .exact bD.nil _ _ _
  .exact f3.at m1' id
  .exact f3.at m2 id
 .have hx:x∈[w.heap.size+2]++([]++([w.heap.size]++([w.heap.size+1]++[]))):=hx
  simp at hx
  right
  omega
def C' {g:List Nx} (h:Vg g):∀i d,g[i]? =some d->d∉g.take i:=by
 induction h with
 |nil=>intro i d hd;simp at hd
 |@snoc g n hg hs hn ih=>
  intro i d hd
  rcases Nat.lt_or_ge i g.length with hi|hi
  .rw [List.getElem?_append_left hi] at hd
   rw [List.take_append_of_le_length (by omega)]
   exact ih i d hd
  .rw [List.getElem?_append_right hi] at hd
   have:i - g.length=0:=by
    have:=(List.getElem?_eq_some_iff.1 hd).1
    simp at this
    omega
   rw [this] at hd
   simp at hd
   subst hd
   rw [show i=g.length by omega,List.take_left]
   exact hn
def Lj {g:List Nx} (h:Vg g) {i:Nat} {d:Nx} (hd:g[i]? =some d) (h0:d.op=0):qL (g.take i) d.tx=none:=by
 cases hv:qL (g.take i) d.tx with
 |none=>rfl
 |some s=>
  obtain ⟨e,he,e0,et,_⟩:=vJ hv
  obtain ⟨j,hj⟩:=List.mem_iff_getElem?.1 (U9 he)
  have If:=h.vars e (U9 he) e0 d (dI hd) h0 et
  have:=var_eq (h.O3 j e hj) (h.O3 i d hd) e0 h0 et If
  exact absurd (this▸he) (C' h i d hd)
def V9 {w:aA} {s:Sl} {l:List Nd} (h:GP w s l) (hg:Vg (xs l)) (hW:∀d∈xs l,JZ d) (hl:l.length<=100000):
  aH aB mq #[.agg #[s.v]] w λr w'=>(∃bb own,r=aJ (.pointer (some (bO bb)))/\nM w' bb l own/\∀x∈own,w.heap.size<=x)/\bW w w':=by
 have hn:=tL h
 have H:LH F0 w w [] [.gr s l]:=og _ (by
  intro e he
  simp only [dT,gL,or_false] at he
  subst he
  exact eG.2 h)
 have loop:∀(m i b1 bb:Nat) (own:List Nat) (w1:aA),i+m=l.length->LH F0 w w1 [.g b1,.bu bb own (l.take i)] [.gr s l]->
   term_newBuilder.fO (bO bb) s ((s.n:Nat):Int) (i:Int) w1 λr w'=>(∃bb own,r=aJ (.pointer (some (bO bb)))/\nM w' bb l own/\∀x∈own,w.heap.size<=x)/\bW w w':=by
  intro m
  induction m with
  |zero=>
   intro i b1 bb own w1 hi H1
   refine term_newBuilder.bT _ _ _ _ _ _ (aX (aK (by omega)) ⟨⟨bb,own,rfl,?_,λx hx=>(H1.new _ (dI (i:=1) rfl) x (aV.2 hx)).resolve_right id⟩,H1.fr⟩)
   have:=H1.get 1
   rw [List.take_of_length_le (by omega)] at this
   exact this
  |succ m ih=>
   intro i b1 bb own w1 hi H1
   have ga:l[i]? =some (l[i]'(by omega)):=ie (by omega)
   generalize l[i]'(by omega)=d at ga
   refine term_newBuilder.bT _ _ _ _ _ _ (bF (aO (by omega)) (oc (eG.1 (H1.getD 0)) rfl ga λp hp c=>⟨d.x.op,d.ks,d.x.n,d.x.m,d.x.u,d.x.tx,d.x.st.k,d.x.st.n,d.x.st.x,c.c0,c.c1,c.c2,c.c3,c.c4,c.c5,c.c6,c.c7,c.c8,H1.cC λb5 w2 H2=>H2.bH λw3 H3=>?_⟩))
   have Ac:=dI ga
   have gx:=um ga
   have et:xs (l.take i)=(xs l).take i:=by simp [xs,List.map_take]
   have es:l.take (i+1)=l.take i++[d]:=by rw [EE,ga];rfl
   refine H3.buC 1 rfl (Py (l:=l.take i) (d:=d) (H3.get 1) ((eG.1 (H3.getD 0)).2 d Ac) (λb hb hm=>H3.dj (.gr s l) (by simp) b (vj.2 (.inr ⟨d,Ac,hb⟩)) (.bu bb own (l.take i)) (by simp) (aV.2 hm)) (hW _ (List.mem_map.2 ⟨d,Ac,rfl⟩)) (λe he=>(hW e (by rw [et] at he;exact U9 he)).u.1) (by rw [A5];omega) (by rw [et];exact C' hg i d.x gx) (λh0=>by rw [et];exact Lj hg gx h0)) ?_
   rintro _ w4 fF rfl H4
   refine ⟨_,rfl,?_⟩
   rw [bP _ (by omega)]
   refine ih (i+1) b1 bb fF w4 (by omega) ?_
   rw [es]
   exact H4.take 2
 refine term_newBuilder.dQ s w _ (H.cC λb1 w1 H1=>?_)
 obtain ⟨own,r,f,o⟩:=nM.nil w1
 have H2:=(H1.fresh (f.mono λx _ hx=>by cases hx)).own (.bu (w1.heap.size+2) own []) r (λb hb=>(o b (aV.1 hb)).resolve_left (by simp))
 have e2:((w1.alloc (.map #[] 0)).alloc (.map #[] 0)).heap.size=w1.heap.size+2:=by rw [size_alloc,size_alloc]
 have:=loop l.length 0 b1 (w1.heap.size+2) own _ (by omega) H2
 have s1:(w1.alloc (.map #[] 0)).heap.size=w1.heap.size+1:=size_alloc _ _
 rw [<-e2,<-s1] at this
 exact this
def GA:List Nx->List Nx->Int
 |_,[]=>0
 |g,n::r=>if (eF g n).2≠0 then (eF g n).2 else if (eF g n).1≠n.st then 9 else if n∈g then 8 else GA (g++[n]) r
def EU (g:List Nx) (n:Nx) (r:List Nx):GA g (n::r)=if (eF g n).2≠0 then (eF g n).2 else if (eF g n).1≠n.st then 9 else if n∈g then 8 else GA (g++[n]) r:=rfl
def Jx (g:List Nx):Int:=if 4096<g.length then 4 else GA [] g
def Qw {g:List Nx} {n:Nx}:(wA g n).2=aR (n∈g):=by
 unfold wA
 cases hi:qB n g 0 with
 |none=>exact (aK (td hi)).symm
 |some i=>exact (aO (dI (rF hi).2)).symm
def VB {w:aA} {s:Sl} {l:List Nd} (h:GP w s l) (hk:rV.P w) (hT:l.length<=4096->∀d∈l,XS d.x/\JZ d.x):
  aH aB tV #[.agg #[s.v]] w λr w'=>r=aJ (.i (Jx (xs l)))/\bW w w':=by
 have hn:=tL h
 have pQ:(xs l).length=l.length:=by simp [xs]
 have H:LH F0 w w [] [.gr s l,rV]:=og _ (by
  intro e he
  simp only [dT,gL,or_false] at he
  rcases he with rfl|rfl
  .exact eG.2 h
  .exact hk)
 refine term_Valid.dQ s w _ (H.cC λb1 w1 H1=>bA (λFC=>⟨by unfold Jx;rw [aN (by omega)],H1.fr⟩) (λFC=>?_))
 have hT:=hT (by omega)
 have hvl:Jx (xs l)=GA [] (xs l):=by unfold Jx;rw [aI (by omega)]
 rw [hvl]
 have loop:∀(m i b1 bb:Nat) (own:List Nat) (w1:aA),i+m=l.length->Vg ((xs l).take i)->GA ((xs l).take i) ((xs l).drop i)=GA [] (xs l)->LH F0 w w1 [.g b1,.bu bb own (l.take i)] [.gr s l,rV]->
   term_Valid.fO (some (bO bb)) s ((s.n:Nat):Int) (i:Int) w1 λr w'=>r=aJ (.i (GA [] (xs l)))/\bW w w':=by
  intro m
  induction m with
  |zero=>
   intro i b1 bb own w1 hi hg hv H1
   refine term_Valid.bT _ _ _ _ _ _ (aX (aK (by omega)) ⟨?_,H1.fr⟩)
   rw [<-hv,List.drop_of_length_le (by omega)]
   rfl
  |succ m ih=>
   intro i b1 bb own w1 hi hg hv H1
   have ga:l[i]? =some (l[i]'(by omega)):=ie (by omega)
   have hx:(xs l).drop i=(l[i]'(by omega)).x::(xs l).drop (i+1):=by
    rw [List.drop_eq_getElem_cons (by omega:i<(xs l).length)]
    simp [xs]
   generalize l[i]'(by omega)=d at ga hx
   have Ac:=dI ga
   have gx:=um ga
   have et:xs (l.take i)=(xs l).take i:=by simp [xs,List.map_take]
   have es:l.take (i+1)=l.take i++[d]:=by rw [EE,ga];rfl
   have ex:(xs l).take (i+1)=(xs l).take i++[d.x]:=by rw [EE,gx];rfl
   rw [hx,EU] at hv
   have hu:∀e∈xs (l.take i),0<=e.u:=λe he=>by
    obtain ⟨a,ha,rfl⟩:=List.mem_map.1 he
    exact (hT a (U9 ha)).2.u.1
   refine term_Valid.bT _ _ _ _ _ _ (bF (aO (by omega)) (oc (eG.1 (H1.getD 0)) rfl ga λp hp c=>⟨d.x.op,d.ks,d.x.n,d.x.m,d.x.u,d.x.tx,d.x.st.k,d.x.st.n,d.x.st.x,c.c0,c.c1,c.c2,c.c3,c.c4,c.c5,c.c6,c.c7,c.c8,H1.cC λb5 w2 H2=>H2.bH λw3 H3=>?_⟩))
   refine H3.bC (G4 (l:=l.take i) (d:=d) (H3.get 1) (λe he=>(eG.1 (H3.getD 0)).2 e (U9 he)) ((eG.1 (H3.getD 0)).2 d Ac) (H3.getD 1) (hT d Ac).1 (by rw [A5];omega) (by rw [et];exact hg.val)) ?_
   rintro _ w4 rfl H4
   rw [et]
   refine ⟨_,_,_,_,rfl,H4.cC λb6 w5 H5=>gB (λh0=>H5.bH λw6 H6=>⟨by rw [<-hv,aN h0],H6.fr⟩) (λh0=>yO (a:=(eF ((xs l).take i) d.x).1) (b:=d.x.st) (λh1=>H5.bH λw6 H6=>⟨by rw [<-hv,aI (λh=>h h0),aN h1],H6.fr⟩) (λh1=>H5.bH λw6 H6=>?_))⟩
   rw [aI (λh=>h h0),aI (λh=>h h1)] at hv
   refine H6.bC (Px (l:=l.take i) (d:=d) (H6.get 1) ((eG.1 (H6.getD 0)).2 d Ac) (hT d Ac).2 hu) ?_
   rintro _ w7 rfl H7
   refine ⟨_,_,rfl,?_⟩
   rw [Qw,et]
   refine bA (λh2=>⟨by rw [<-hv,aN h2],H7.fr⟩) (λh2=>?_)
   rw [aI h2] at hv
   have nh:Vg ((xs l).take (i+1)):=by
    rw [ex]
    exact .snoc hg (by rw [<-h1,<-h0]) h2
   have gt:((xs l).take (i+1))[i]? =some d.x:=by rw [List.getElem?_take,aN (by omega)];exact gx
   have htt:((xs l).take (i+1)).take i=(xs l).take i:=by rw [List.take_take];congr 1;omega
   refine H7.buC 1 rfl (Py (l:=l.take i) (d:=d) (H7.get 1) ((eG.1 (H7.getD 0)).2 d Ac) (λb hb hm=>H7.dj (.gr s l) (by simp) b (vj.2 (.inr ⟨d,Ac,hb⟩)) (.bu bb own (l.take i)) (by simp) (aV.2 hm)) (hT d Ac).2 hu (by rw [A5];omega) (by rw [et];exact h2) (λh0=>by rw [et,<-htt];exact Lj nh gt h0)) ?_
   rintro _ w8 fF rfl H8
   refine ⟨_,rfl,?_⟩
   rw [bP _ (by omega)]
   refine ih (i+1) b1 bb fF w8 (by omega) nh (by rw [ex];exact hv) ?_
   rw [es]
   exact H8.take 2
 refine H1.rC (V9 (s:=⟨none,0,0⟩) (l:=[]) ⟨lN.nil 9 w1,by simp⟩ .nil (by simp [xs]) (by simp)) ?_
 rintro _ w2 ⟨bb,own,rfl,r,o⟩ _ F2
 have H2:=F2.own (.bu bb own []) r (λb hb=>o b (aV.1 hb))
 exact ⟨_,rfl,loop l.length 0 b1 bb own w2 (by omega) .nil rfl H2⟩
def IE {n:Nx} (W:JZ n) (hk:n.kids.length<=100) (ht:n.tx.size<=1000):(uo n).length<=1000000:=by
 have h1:=gZ _ W.op
 have h2:=yl _ W.ks
 have h3:=gZ _ W.n
 have h4:=gZ _ W.m
 have h5:=iy n.u.toNat (by have:=W.u;omega)
 have h6:=gZ _ W.sk
 have h7:=gZ _ W.sn
 have h8:=gZ _ W.sx
 have h9:=iy n.kids.length (by omega)
 have h0:=iy (bl n.tx).length (by rw [iH];omega)
 have k3:=iH n.tx
 unfold uo BH Fq
 simp only [nE]
 omega
end Go.Proofs.YtnpkhgljhcnpcaaGreatDoor

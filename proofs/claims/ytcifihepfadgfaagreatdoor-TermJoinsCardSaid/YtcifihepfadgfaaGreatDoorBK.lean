import Derived.Test.YtcifihepfadgfaaGreatDoorW
import Derived.Test.YtcifihepfadgfaaGreatDoorB
import Derived.Test.YtcifihepfadgfaaGreatDoorVB
import Derived.Test.YtcifihepfadgfaaGreatDoorE1
import Derived.MapKept
import Derived.Test.YtcifihepfadgfaaGreatDoorTP
set_option linter.unusedVariables false
namespace Go.Proofs.YtcifihepfadgfaaGreatDoor
open List renaming mem_cons->cS,not_mem_nil->fF,mem_of_getElem?->cR,mem_flatMap->mI,length_append->qq,mem_of_mem_take->Ti,append_assoc->AU,nil_append->La,cons_append->Vt
open Go Go.W
def rN (n:Nat):List UInt8:=if n<128 then [UInt8.ofNat n] else UInt8.ofNat (n%128+128)::rN (n / 128)
termination_by n
decreasing_by omega
theorem lE {n:Nat} (h:n<128):rN n=[UInt8.ofNat n]:=by rw [rN,if_pos h]
theorem ng {n:Nat} (h:¬n<128):rN n=UInt8.ofNat (n%128+128)::rN (n / 128):=by rw [rN,if_neg h]
theorem EG:∀(d n:Nat),n<2 *128^d->(rN n).length<=d+1
 |0,n,h=>by rw [lE (by omega)];simp
 |d+1,n,h=>by
  by_cases hn:n<128
  .rw [lE hn];simp
  .rw [ng hn]
   have:=EG d (n / 128) (by rw [Nat.pow_succ] at h;omega)
   simp;omega
def zz (n:Int):Nat:=if 0<=n then (2 *n).toNat else (-(2 *n) - 1).toNat
theorem TZ (n:Int) (h1:-9223372036854775808<=n) (h2:n<=9223372036854775807):zz n<18446744073709551616:=by
 unfold zz;split<;>omega
def lC (w:World) (wb:Nat) (bs:List UInt8) (own:List Nat):Prop:=
 ∃s:Sl,own=wb::aZ s/\w.heap[wb]? =some (.cells #[s.v] iF (0,0))/\ox w s bs
theorem Ta {w:World} {e T:TypeId} {s:Sl} {vs:List Value} (h:Ow w e s vs) {b:Nat} {cs:Array Value} {f:Nat×Nat} (hb:w.heap[b]? =some (.cells cs T f)) (hT:e≠T):b∉aZ s:=λhm=>by
 obtain ⟨V',f',hc⟩:=h.2.row.VT b hm
 rw [hc] at hb
 injection hb with hb
 injection hb with _ ht _
 exact hT ht
theorem lC.lt {w:World} {wb:Nat} {bs:List UInt8} {own:List Nat} (h:lC w wb bs own):∀b∈own,b<w.heap.size:=by
 obtain ⟨s,rfl,h1,h2⟩:=h
 intro b hb
 rcases cS.1 hb with rfl|hb
 .exact gq h1
 .exact h2.lt b hb
theorem lC.fr {M:Nat->Prop} {w w':World} {wb:Nat} {bs:List UInt8} {own:List Nat} (h:lC w wb bs own) (hf:Fr M w w') (hn:∀b∈own,¬M b):lC w' wb bs own:=by
 obtain ⟨s,rfl,h1,h2⟩:=h
 exact ⟨s,rfl,hf.at h1 (hn _ (by simp)),h2.fr hf λb hb=>hn b (by simp [hb])⟩
theorem lC.pI {w w':World} {wb:Nat} {bs:List UInt8} {own:List Nat} (h:lC w wb bs own) (hf:bG w w'):lC w' wb bs own:=h.fr hf λ_ _ h=>h
theorem lC.new (w:World):lC (w.alloc (.cells #[.slice none 0 0] iF)) w.heap.size [] [w.heap.size]:=⟨⟨none,0,0⟩,rfl,mO w _,Ow.nil _ _⟩
def sW (w:World) (wb:Nat) (own:List Nat) (bs:List UInt8) (w':World):Prop:=∃iZ,lC w' wb bs iZ/\Fr (·∈own) w w'/\∀x∈iZ,x∈own\/w.heap.size<=x
def uM (w:World) (wb:Nat) (own:List Nat) (bs:List UInt8):aD:=λr w'=>r=.returned (.tuple #[])/\sW w wb own bs w'
theorem sW.refl {w:World} {wb:Nat} {own:List Nat} {bs:List UInt8} (h:lC w wb bs own):sW w wb own bs w:=⟨own,h,Fr.refl _ _,λ_ h=>.inl h⟩
theorem sW.then {w w' uh:World} {wb:Nat} {own iZ:List Nat} {GH:List UInt8} (h1:Fr (·∈own) w w') (h2:∀x∈iZ,x∈own\/w.heap.size<=x) (h:sW w' wb iZ GH uh):sW w wb own GH uh:=by
 obtain ⟨Yf,r,f,o⟩:=h
 refine ⟨Yf,r,h1.trans f λx hx hm=>?_,λx hx=>?_⟩
 .rcases h2 x hm with h|h
  .exact h
  .omega
 .rcases o x hx with h|h
  .exact h2 x h
  .exact .inr (Nat.le_trans h1.size h)
theorem GC {w w1 w2:World} {wb:Nat} {s s':Sl} {bs GH:List UInt8} (hc:w.heap[wb]? =some (.cells #[s.v] iF (0,0))) (h0:ox w s bs) (f1:bG w w1) (ho:ox w2 s' GH) (f2:Fr (·∈aZ s) w1 w2) (BV:∀b∈aZ s',b∈aZ s\/w1.heap.size<=b):
  (w2.cell? ((bD wb).add 0)).isSome=true/\w2.frozen? ((bD wb).add 0)=false/\sW w wb (wb::aZ s) GH (w2.setCell ((bD wb).add 0) s'.v):=by
 have ie:wb∉aZ s:=Ta h0 hc (by decide)
 have c2:=f2.at (f1.at hc id) ie
 have c3:(w2.setCell ((bD wb).add 0) s'.v).heap[wb]? =_:=setAt (p:=bD wb) (i:=0) (v:=s'.v) c2 rfl
 have f3:Fr (·=wb) w2 (w2.setCell ((bD wb).add 0) s'.v):=Fr.set _ _ _ rfl
 have aaw:wb∉aZ s':=Ta ho c2 (by decide)
 refine ⟨by rw [cellAt (p:=bD wb) c2 rfl rfl];rfl,frozenAt (p:=bD wb) c2,wb::aZ s',⟨s',rfl,c3,ho.fr f3 λb hb e=>aaw (e▸hb)⟩,?_,?_⟩
 .exact ((f1.of0 (M:=(·∈wb::aZ s))).trans f2 λx _ hx=>by simp [hx]).trans f3 λx _ hx=>by simp [hx]
 .intro x hx
  rcases cS.1 hx with rfl|hx
  .exact .inl (by simp)
  .rcases BV x hx with h|h
   .exact .inl (by simp [h])
   .exact .inr (Nat.le_trans f1.size h)
theorem y4 {w:World} {wb:Nat} {s:Sl} (hc:w.heap[wb]? =some (.cells #[s.v] iF (0,0))):w.cell? ((bD wb).add 0)=some s.v:=cellAt (p:=bD wb) hc rfl rfl
theorem yB {w:World} {wb:Nat} {s:Sl} {bs:List UInt8} (hc:w.heap[wb]? =some (.cells #[s.v] iF (0,0))) (h0:ox w s bs) (hl:bs.length<100000000000000) (c:UInt8) (K:World->Prop) (hK:∀w',sW w wb (wb::aZ s) (bs++[c]) w'->K w'):
  ∃(t15:W.Sl) (w2:World),Sem.run Tryz.prog (Builtin.append_ #[bJ,bJ] bJ #[s.v,.slice (some (Addr.mk w.heap.size 0 none)) 1 1]) (w.alloc (.cells #[.int .u8 (c.toNat:Int)] dF))=.ok (t15.v) w2/\(w2.cell? ((bD wb).add 0)).isSome=true/\w2.frozen? ((bD wb).add 0)=false/\K (w2.setCell ((bD wb).add 0) (t15.v)):=by
 have f1:bG w (w.alloc (.cells #[.int .u8 (c.toNat:Int)] dF)):=Fr.alloc _ _ _
 obtain ⟨s',w2,g1,g2,g3,g4,g5⟩:=vE (ty:=bJ) (h0.pI f1) (NY w c) (by simp;omega)
 obtain ⟨a1,a2,a3⟩:=GC hc h0 f1 g2 g3 g4
 exact ⟨s',w2,g1,a1,a2,hK _ a3⟩
theorem GA {wb:Nat} (R:aD):∀(n:Nat) (w:World) (bs:List UInt8) (own:List Nat),n<18446744073709551616->bs.length+(rN n).length<=100000000000000->lC w wb bs own->(∀w',sW w wb own (bs++rN n) w'->R (.returned (.tuple #[])) w')->
  wire_Writer_Uint.L0 (bD wb) (n:Int) w R:=by
 intro n
 induction n using Nat.strongRecOn with
 |_ n ih=>
  intro w bs own hn hl hr hR
  obtain ⟨s,rfl,h1,h2⟩:=hr
  refine wire_Writer_Uint.cC _ _ _ _ ?_
  refine bA (λh=>?_) (λh=>?_)
  .have xw:¬n<128:=by simp at h;omega
   rw [ng xw] at hl
   have e:IntKind.wrap .u8 (n:Int)=_:=OM n
   refine ⟨s,y4 h1,?_⟩
   rw [e,G9 _ (by omega)]
   have e2:((n%256%128+128:Nat):Int)=((UInt8.ofNat (n%128+128)).toNat:Int):=by simp;omega
   rw [e2]
   refine yB h1 h2 (by simp at hl;omega) (UInt8.ofNat (n%128+128)) (λw'=>wire_Writer_Uint.L0 (bD wb) (Int.fdiv (n:Int) (2^7)) w' R) λw' hw=>?_
   show wire_Writer_Uint.L0 (bD wb) (Int.fdiv (n:Int) (2^7)) w' R
   rw [show ((2:Int)^7)=((128:Nat):Int) from rfl,M1 n 128 (by omega)]
   obtain ⟨iZ,r',f',o'⟩:=hw
   refine ih (n / 128) (by omega) w' _ iZ (by omega) (by simp at hl ⊢;omega) r' λuh aaG=>hR uh ?_
   rw [ng xw,show bs++UInt8.ofNat (n%128+128)::rN (n / 128)=(bs++[UInt8.ofNat (n%128+128)])++rN (n / 128) by simp]
   exact aaG.then f' o'
  .have xw:n<128:=by simp at h;omega
   rw [lE xw] at hl
   have e:IntKind.wrap .u8 (n:Int)=((UInt8.ofNat n).toNat:Int):=by rw [OM];simp
   refine ⟨s,y4 h1,?_⟩
   rw [e]
   refine yB h1 h2 (by simp at hl;omega) (UInt8.ofNat n) (λw'=>R (.returned (.tuple #[])) w') λw' hw=>hR w' ?_
   rw [lE xw];exact hw
theorem jv (n:Nat) (h:n<18446744073709551616):(rN n).length<=10:=EG 9 n (by simpa using h)
theorem AN {w:World} {wb:Nat} {bs:List UInt8} {own:List Nat} (hr:lC w wb bs own) (n:Nat) (hn:n<18446744073709551616) (hl:bs.length<=10000000000000):
  Calls Tryz.prog gT #[.pointer (some (bD wb)),.int .u64 (n:Int)] w (uM w wb own (bs++rN n)):=
 wire_Writer_Uint.ok _ _ w _ (GA _ n w bs own hn (by have:=jv n hn;omega) hr λw' h=>⟨rfl,h⟩)
theorem RQ (n:Int) (h:oo n):W.Pj .u64 (IntKind.wrap .u64 ((IntKind.wrap .u64 n) *2^1)) (IntKind.wrap .u64 (Int.fdiv n (2^63)))=(zz n:Int):=by
 obtain ⟨h1,h2⟩:=h
 have e63:((2:Int)^63)=9223372036854775808:=rfl
 rw [e63,Int.fdiv_eq_ediv_of_nonneg _ (by omega),IntKind.wrap_u64,IntKind.wrap_u64,IntKind.wrap_u64]
 by_cases h0:0<=n
 .have e1:(n / 9223372036854775808)%18446744073709551616=((0:Nat):Int):=by omega
  have e2:(n%18446744073709551616 *2^1)%18446744073709551616=((2 *n).toNat:Int):=by omega
  rw [e1,e2,Ec _ _ (by omega) (by omega),Nat.xor_zero]
  unfold zz;rw [if_pos h0]
 .have e1:(n / 9223372036854775808)%18446744073709551616=((18446744073709551615:Nat):Int):=by omega
  have e2:(n%18446744073709551616 *2^1)%18446744073709551616=((18446744073709551616+2 *n).toNat:Int):=by omega
  rw [e1,e2,Ec _ _ (by omega) (by omega),OS _ (by omega)]
  unfold zz;rw [if_neg h0]
  omega
def uU (n:Int):List UInt8:=rN (zz n)
theorem AM {w:World} {wb:Nat} {bs:List UInt8} {own:List Nat} (hr:lC w wb bs own) (n:Int) (hn:oo n) (hl:bs.length<=10000000000000):
  Calls Tryz.prog eR #[.pointer (some (bD wb)),.int .i64 n] w (uM w wb own (bs++uU n)):=by
 refine wire_Writer_Int.ok _ _ w _ ?_
 rw [RQ n hn]
 refine (AN hr (zz n) (TZ n hn.1 hn.2) hl).mono ?_
 rintro r w1 ⟨rfl,h⟩
 exact ⟨rfl,rfl,h⟩
def EF (b:List UInt8):List UInt8:=rN b.length++b
theorem VX {w:World} {wb:Nat} {bs:List UInt8} {own:List Nat} (hr:lC w wb bs own) (t:ByteArray) (hl:bs.length+t.size<=10000000000000):
  Calls Tryz.prog nl #[.pointer (some (bD wb)),.string t] w (uM w wb own (bs++EF (bl t))):=by
 refine wire_Writer_Text.ok _ _ w _ ?_
 rw [J8 _ (by omega)]
 refine (AN hr t.size (by omega) (by omega)).mono ?_
 rintro r w1 ⟨rfl,pA,r1,f1,o1⟩
 have l10:=jv t.size (by omega)
 obtain ⟨s1,rfl,c1,b1⟩:=r1
 obtain ⟨s',w2,g1,g2,g3,g4⟩:=G7 (ty:=bJ) b1 t (by simp;omega)
 obtain ⟨a1,a2,a3⟩:=GC c1 b1 (Fr.refl _ w1) g2 g3 g4
 rw [AU] at a3
 exact ⟨rfl,s1,y4 c1,s',w2,g1,a1,a2,rfl,a3.then f1 o1⟩
def A2 (l:List Int):List UInt8:=rN l.length++l.flatMap uU
theorem jH (n:Int) (h:oo n):(uU n).length<=10:=jv _ (TZ n h.1 h.2)
theorem zD:∀(l:List Int),(∀x∈l,oo x)->(l.flatMap uU).length<=10 *l.length
 |[],_=>by simp
 |x::l,h=>by
  have h1:=jH x (h x (by simp))
  have h2:=zD l λy hy=>h y (by simp [hy])
  simp at h2 ⊢
  omega
theorem Gw {wb:Nat} {s:Sl} {l:List Int} (R:aD) (hi:∀x∈l,oo x) (hl:l.length<=100000000000):∀(d i:Nat),i+d=l.length->∀(w:World) (bs:List UInt8) (own:List Nat),lC w wb bs own->cX w s l->(∀x∈aZ s,x∉own)->(∀x∈aZ s,x<w.heap.size)->bs.length+10 *d<=10000000000000->
  (∀w',sW w wb own (bs++(l.drop i).flatMap uU) w'->R (.returned (.tuple #[])) w')->wire_Writer_Ints.L0 (bD wb) s (l.length:Int) (i:Int) w R:=by
 intro d
 induction d with
 |zero=>
  intro i hd w bs own hr hs hx lV hb hR
  refine wire_Writer_Ints.cC _ _ _ _ _ _ ?_
  refine aI (by simp;omega) (hR w ?_)
  rw [List.drop_of_length_le (by omega)]
  simpa using sW.refl hr
 |succ d ih=>
  intro i hd w bs own hr hs hx lV hb hR
  have hg:l[i]? =some l[i]:=List.getElem?_eq_getElem (by omega)
  have hm:l[i]∈l:=List.getElem_mem _
  refine wire_Writer_Ints.cC _ _ _ _ _ _ ?_
  refine aQ (by simp;omega) ⟨by omega,by rw [cX.len hs];omega,cX.cell hs hg (by simp) λp _ hp=>⟨_,hp,(AM hr _ (hi _ hm) (by omega)).mono ?_⟩⟩
  rintro r w1 ⟨rfl,pA,r1,f1,o1⟩
  refine ⟨rfl,?_⟩
  show wire_Writer_Ints.L0 (bD wb) s (l.length:Int) (IntKind.wrap .i64 ((i:Int)+1)) w1 R
  rw [aX i (by omega)]
  have l10:=jH _ (hi _ hm)
  refine ih (i+1) (by omega) w1 _ pA r1 (hs.fr f1 hx) (λx E6 KI=>?_) (λx E6=>Nat.lt_of_lt_of_le (lV x E6) f1.size) (by simp;omega) λw2 h2=>hR w2 ?_
  .rcases o1 x KI with h|h
   .exact hx x E6 h
   .have:=lV x E6;omega
  .rw [List.drop_eq_getElem_cons (by omega),List.flatMap_cons,<-AU]
   exact h2.then f1 o1
theorem VW {w:World} {wb:Nat} {bs:List UInt8} {own:List Nat} (hr:lC w wb bs own) {s:Sl} {l:List Int} (hb:cX w s l) (hd:∀x∈aZ s,x∉own) (lV:∀x∈aZ s,x<w.heap.size) (hi:∀x∈l,oo x) (hl:bs.length+10 *l.length<=1000000000000):
  Calls Tryz.prog ku #[.pointer (some (bD wb)),s.v] w (uM w wb own (bs++A2 l)):=by
 refine wire_Writer_Ints.ok _ _ w _ ?_
 rw [cX.len hb,J8 _ (by omega)]
 refine (AN hr l.length (by omega) (by omega)).mono ?_
 rintro r w1 ⟨rfl,pA,r1,f1,o1⟩
 have l10:=jv l.length (by omega)
 refine ⟨rfl,?_⟩
 dsimp only
 refine Gw _ hi (by omega) l.length 0 (by omega) w1 _ pA r1 (hb.fr f1 hd) (λx E6 KI=>?_) (λx E6=>Nat.lt_of_lt_of_le (lV x E6) f1.size) (by simp;omega) λw2 h2=>⟨rfl,?_⟩
 .rcases o1 x KI with h|h
  .exact hd x E6 h
  .have:=lV x E6;omega
 .rw [List.drop_zero,AU] at h2
  exact h2.then f1 o1
theorem Ev (s:Sl) (bs:List UInt8) (w:World) (hb:Bytes w s bs) (hl:bs.length<=140737488355328):Calls Tryz.prog iq #[s.v] w (λr w'=>∃s:Sl,r=.returned s.v/\ox w' s bs/\bG w w'/\∀b∈aZ s,w.heap.size<=b):=by
 refine slices_Clone_sl_byte_byte.ok s w _ ?_
 refine bA (λh=>?_) (λh=>?_)
 .have hn:bs=[]:=by
   have:=(hb.2.2.1 (by simpa using h)).1
   exact List.eq_nil_of_length_eq_zero (by rw [<-Bytes.len hb,this])
  subst hn
  exact ⟨⟨none,0,0⟩,rfl,Ow.nil w _,Fr.refl _ _,by simp [aZ]⟩
 .show (λw1:World=>∃(t7:Sl) (w2:World),Sem.run Tryz.prog (Builtin.append_ #[bJ,bJ] bJ #[.slice (some (nb w)) 0 0,s.v]) w1=.ok (t7.v) w2/\(∃s:Sl,Ending.returned t7.v=.returned s.v/\ox w2 s bs/\bG w w2/\∀b∈aZ s,w.heap.size<=b)) (w.alloc (.cells #[] dF))
  generalize hw1:w.alloc (.cells #[] dF)=w1
  subst hw1
  let w1:=w.alloc (.cells #[] dF)
  have ho:ox w1 ⟨some ⟨w.heap.size,0,none⟩,0,0⟩ []:=Ow.made w dF [] 0 rfl (by omega)
  have LG:Bytes w1 s bs:=hb.pI (Fr.alloc _ _ _)
  obtain ⟨s',w2,l0,A9,BX,BV,_⟩:=vE (ty:=bJ) ho LG (by simp;omega)
  refine ⟨s',w2,l0,s',rfl,by simpa using A9,?_,?_⟩
  .refine (Fr.alloc (λ_=>False) w _).trans BX λx hx hm=>?_
   simp [aZ] at hm
   omega
  .intro b eG
   rcases BV b eG with h|h
   .simp [aZ] at h;omega
   .have:w1.heap.size=w.heap.size+1:=size_alloc _ _
    omega
theorem VV {w:World} {wb:Nat} {bs:List UInt8} {own:List Nat} (hr:lC w wb bs own) (hl:bs.length<=100000000000000):
  Calls Tryz.prog nk #[.pointer (some (bD wb))] w (L7 w bs):=by
 obtain ⟨s,rfl,h1,h2⟩:=hr
 refine wire_Writer_Done.ok _ w _ ⟨s,y4 h1,(Ev s bs w h2.rd (by omega)).mono ?_⟩
 rintro r w1 ⟨s',rfl,h⟩
 exact ⟨s',rfl,s',rfl,h⟩
set_option maxRecDepth 100000
set_option maxHeartbeats 1000000
def wq (n:Nx):List UInt8:=uU n.op++(A2 n.kids++(uU n.n++(uU n.m++(rN n.u.toNat++(EF (bl n.tx)++(uU n.st.k++(uU n.st.n++uU n.st.x)))))))
structure Mc (x:Nx):Prop where
 op:oo x.op
 ks:∀k∈x.kids,oo k
 kl:x.kids.length<=1000000000
 n:oo x.n
 m:oo x.m
 u:0<=x.u/\x.u<18446744073709551616
 tx:x.tx.size<=1000000000
 sk:oo x.st.k
 sn:oo x.st.n
 sx:oo x.st.x
theorem K3 {n:Nx} (W:Mc n):(wq n).length<=20000000000:=by
 have h1:=jH _ W.op
 have h2:=zD _ W.ks
 have h3:=jH _ W.n
 have h4:=jH _ W.m
 have h5:=jv n.u.toNat (by have:=W.u;omega)
 have h6:=jH _ W.sk
 have h7:=jH _ W.sn
 have h8:=jH _ W.sx
 have h9:=jv n.kids.length (by have:=W.kl;omega)
 have h0:=jv (bl n.tx).length (by have:=W.tx;rw [iS];omega)
 have k1:=W.kl
 have k2:=W.tx
 have k3:=iS n.tx
 unfold wq A2 EF
 simp only [qq]
 omega
theorem qa {P:Program} {f:FuncId} {args:Array Value} {w0 w:World} {wb:Nat} {Vo:List Nat} {bs GH:List UInt8} (h:sW w0 wb Vo bs w) (hc:∀own,lC w wb bs own->(∀x∈own,x∈Vo\/w0.heap.size<=x)->Calls P f args w (uM w wb own GH)) {K:World->Prop} (hK:∀w',sW w0 wb Vo GH w'->K w'):
  Calls P f args w λr w'=>r=.returned (.tuple #[])/\K w':=by
 obtain ⟨own,hr,hf,ho⟩:=h
 refine (hc own hr ho).mono ?_
 rintro r w' ⟨rfl,h'⟩
 exact ⟨rfl,hK w' (sW.then hf ho h')⟩
theorem RN {w:World} {wb:Nat} {bs:List UInt8} {own:List Nat} (hr:lC w wb bs own) {s:Sl} {l:List Int} (hb:cX w s l) (hd:∀x∈(En.rd s (l.map eI)).fp,x∉own) (hi:∀x∈l,oo x) (hl:bs.length+10 *l.length<=1000000000000):
  Calls Tryz.prog ku #[.pointer (some (bD wb)),s.v] w (uM w wb own (bs++A2 l)):=by
 by_cases h0:l=[]
 .subst h0
  have hn:s.n=0:=cX.len hb
  refine wire_Writer_Ints.ok _ _ w _ ?_
  rw [hn]
  refine (AN hr 0 (by omega) (by omega)).mono ?_
  rintro r w1 ⟨rfl,h⟩
  refine ⟨rfl,wire_Writer_Ints.cC _ _ _ _ _ _ (aI (by decide) ⟨rfl,?_⟩)⟩
  simpa [A2] using h
 .have HE:(En.rd s (l.map eI)).fp=aZ s:=by
   show (if l.map eI=[] then [] else aZ s)=_
   rw [if_neg (by simpa using h0)]
  exact VW hr hb (λx hx=>hd x (HE▸hx)) (λx hx=>(En.rd s (l.map eI)).lt w hb x (HE▸hx)) hi hl
theorem RD {w:World} {wb:Nat} {bs:List UInt8} {own:List Nat} (hr:lC w wb bs own) {p:Addr} {d:Nd} (hp:jV w p d) (hd:d.P w) (h1:p.block∉own) (h2:∀x∈(dG d).fp,x∉own) (W:Mc d.x) (hl:bs.length<=100000000000):
  Calls Tryz.prog rZ #[.pointer (some (bD wb)),.pointer (some p)] w (uM w wb own (bs++wq d.x)):=by
 have at_:∀{GH:List UInt8} {w':World},sW w wb own GH w'->jV w' p d:=λ⟨_,_,f,_⟩=>hp.st λlV=>f.gY _ lV h1
 have kd:∀{GH:List UInt8} {w':World},sW w wb own GH w'->cX w' d.ks d.x.kids:=λ⟨_,_,f,_⟩=>(dG d).st w _ (λb hb hl=>f.gY _ hl (h2 b hb)) hd
 have k1:=jH _ W.op
 have k2:=zD _ W.ks
 have k3:=jH _ W.n
 have k4:=jH _ W.m
 have hu:d.x.u=((d.x.u.toNat:Nat):Int):=by have:=W.u;omega
 have k5:=jv d.x.u.toNat (by have:=W.u;omega)
 have k6:=jH _ W.sk
 have k7:=jH _ W.sn
 have k9:=jv d.x.kids.length (by have:=W.kl;omega)
 have k0:=jv (bl d.x.tx).length (by have:=W.tx;rw [iS];omega)
 have m1:=W.kl
 have m2:=W.tx
 have m3:=iS d.x.tx
 have lL:(A2 d.x.kids).length<=10000000010:=by unfold A2;simp only [qq];omega
 have lR:(EF (bl d.x.tx)).length<=1000000010:=by unfold EF;simp only [qq];omega
 refine term_write.ok _ _ w _ ⟨_,hp.c0,qa (sW.refl hr) (λo r _=>AM r _ W.op (by omega)) λw1 a1=>⟨_,(at_ a1).c1,qa a1 (λo r ho=>RN r (kd a1) (λx hx hm=>?_) W.ks (by simp only [qq];omega)) λw2 a2=>⟨_,(at_ a2).c2,qa a2 (λo r _=>AM r _ W.n (by simp only [qq];omega)) λw3 a3=>⟨_,(at_ a3).c3,qa a3 (λo r _=>AM r _ W.m (by simp only [qq];omega)) λw4 a4=>⟨_,(at_ a4).c4,?_⟩⟩⟩⟩⟩
 .rcases ho x hm with h|h
  .exact h2 x hx h
  .have:=(dG d).lt w hd x hx
   omega
 rw [hu]
 refine qa a4 (λo r _=>AN r d.x.u.toNat (by have:=W.u;omega) (by simp only [qq];omega)) λw5 a5=>⟨_,(at_ a5).c5,qa a5 (λo r _=>VX r d.x.tx (by simp only [qq];omega)) λw6 a6=>⟨_,(at_ a6).s0,qa a6 (λo r _=>AM r _ W.sk (by simp only [qq];omega)) λw7 a7=>⟨_,(at_ a7).s1,qa a7 (λo r _=>AM r _ W.sn (by simp only [qq];omega)) λw8 a8=>⟨_,(at_ a8).s2,qa a8 (λo r _=>AM r _ W.sx (by simp only [qq];omega)) λw9 a9=>⟨rfl,?_⟩⟩⟩⟩⟩
 unfold wq
 simp only [AU] at a9
 exact a9
theorem J4 {w:World} {p:Addr} {d:Nd} (hp:jV w p d) (hd:d.P w) (W:Mc d.x):
  Calls Tryz.prog pV #[.pointer (some p)] w λr w'=>r=.returned (.string (ba (wq d.x)))/\bG w w':=by
 refine term_keyOf.ok _ w _ ?_
 have f0:bG w (w.alloc (.cells #[.slice none 0 0] iF)):=Fr.alloc _ _ _
 have lt:=K3 W
 refine (RD (lC.new w) (hp.st λlV=>f0.gY _ lV id) ((dG d).st w _ (λb hb hl=>f0.gY _ hl id) hd) (by have:=jV.lt hp;simp;omega) (λx hx=>by have:=(dG d).lt w hd x hx;simp;omega) W (by simp)).mono ?_
 rintro r w1 ⟨rfl,iZ,r1,f1,o1⟩
 rw [La] at r1
 refine ⟨rfl,(VV r1 (by omega)).mono ?_⟩
 rintro r w2 ⟨s,rfl,hs,f2,_⟩
 refine ⟨s,rfl,_,rh hs.rd,rfl,?_⟩
 exact (f0.trans f1 λx hx hm=>by simp at hm;omega).AV f2
theorem DR {a b:Nat} (ha:a<256) (hb:b<256) (h:UInt8.ofNat a=UInt8.ofNat b):a=b:=by
 have:=congrArg UInt8.toNat h
 simp at this
 omega
theorem vU:∀(n m:Nat) (r s:List UInt8),rN n++r=rN m++s->n=m/\r=s:=by
 intro n
 induction n using Nat.strongRecOn with
 |_ n ih=>
  intro m r s h
  by_cases hn:n<128<;>by_cases hm:m<128
  .rw [lE hn,lE hm] at h
   simp only [Vt,La,List.cons.injEq] at h
   exact ⟨DR (by omega) (by omega) h.1,h.2⟩
  .rw [lE hn,ng hm] at h
   simp only [Vt,La,List.cons.injEq] at h
   have:=DR (by omega) (by omega) h.1
   omega
  .rw [ng hn,lE hm] at h
   simp only [Vt,La,List.cons.injEq] at h
   have:=DR (by omega) (by omega) h.1
   omega
  .rw [ng hn,ng hm] at h
   simp only [Vt,List.cons.injEq] at h
   have h1:=DR (by omega) (by omega) h.1
   have h2:=ih (n / 128) (by omega) _ _ _ h.2
   exact ⟨by omega,h2.2⟩
theorem VY {a b:Int} (h:zz a=zz b):a=b:=by
 unfold zz at h
 split at h<;>split at h<;>omega
theorem qm {n m:Int} {r s:List UInt8} (h:uU n++r=uU m++s):n=m/\r=s:=by
 have:=vU _ _ _ _ h
 exact ⟨VY this.1,this.2⟩
theorem BQ:∀{a b:List Int} {r s:List UInt8},a.length=b.length->a.flatMap uU++r=b.flatMap uU++s->a=b/\r=s
 |[],[],_,_,_,h=>⟨rfl,h⟩
 |[],_::_,_,_,hl,_=>by simp at hl
 |_::_,[],_,_,hl,_=>by simp at hl
 |x::a,y::b,r,s,hl,h=>by
  simp only [List.flatMap_cons,AU] at h
  obtain ⟨h1,h2⟩:=qm h
  obtain ⟨h3,h4⟩:=BQ (a:=a) (b:=b) (by simpa using hl) h2
  exact ⟨by rw [h1,h3],h4⟩
theorem MW {a b:List Int} {r s:List UInt8} (h:A2 a++r=A2 b++s):a=b/\r=s:=by
 unfold A2 at h
 simp only [AU] at h
 obtain ⟨h1,h2⟩:=vU _ _ _ _ h
 exact BQ h1 h2
theorem MX {a b:List UInt8} {r s:List UInt8} (h:EF a++r=EF b++s):a=b/\r=s:=by
 unfold EF at h
 simp only [AU] at h
 obtain ⟨h1,h2⟩:=vU _ _ _ _ h
 exact List.append_inj h2 h1
theorem KZ {n m:Nx} (hn:0<=n.u) (hm:0<=m.u) (h:wq n=wq m):n=m:=by
 unfold wq at h
 obtain ⟨h1,h⟩:=qm h
 obtain ⟨h2,h⟩:=MW h
 obtain ⟨h3,h⟩:=qm h
 obtain ⟨h4,h⟩:=qm h
 obtain ⟨h5,h⟩:=vU _ _ _ _ h
 obtain ⟨h6,h⟩:=MX h
 obtain ⟨h7,h⟩:=qm h
 obtain ⟨h8,h⟩:=qm h
 have h9:=(qm (r:=[]) (s:=[]) (by simpa using h)).1
 have u5:n.u=m.u:=by omega
 have u6:n.tx=m.tx:=by
  have:=congrArg ba h6
  rwa [Bw,Bw] at this
 obtain ⟨a1,a2,a3,a4,a5,a6,⟨a7,a8,a9⟩⟩:=n
 obtain ⟨b1,b2,b3,b4,b5,b6,⟨b7,b8,b9⟩⟩:=m
 simp only at h1 h2 h3 h4 u5 u6 h7 h8 h9
 clear h5 h6
 subst h1 h2 h3 h4 u5 u6 h7 h8 h9
 rfl
def wh (n:Nx):ByteArray:=ba (wq n)
theorem Nz {n m:Nx} (hn:0<=n.u) (hm:0<=m.u) (h:wh n=wh m):n=m:=by
 refine KZ hn hm ?_
 have:=congrArg bl h
 unfold wh at this
 rwa [zd,zd] at this
def nL (es:Array MapEntry) (ms:List (ByteArray×Value)):Prop:=es.toList.map (λe=>(e.key,e.val))=ms.map λp=>(Value.string p.1,p.2)
def vk (ms:List (ByteArray×Value)) (k:ByteArray):Option Value:=(ms.find? λp=>decide (p.1=k)).map (·.2)
theorem Pl (a b:ByteArray):(a==b)=decide (b=a):=by
 cases h:decide (b=a) with
 |true=>rw [of_decide_eq_true h];exact (Go.MapKept.bytes_beq _ _).2 rfl
 |false=>
  cases hc:(a==b) with
  |false=>rfl
  |true=>exact absurd ((Go.MapKept.bytes_beq _ _).1 hc).symm (of_decide_eq_false h)
theorem tg {k:ByteArray}:∀{es:List MapEntry} {ms:List (ByteArray×Value)} {i:Nat},es.map (λe=>(e.key,e.val))=ms.map (λp=>(Value.string p.1,p.2))->
  Instr.findNow .string (.string k) es i=some ((ms.findIdx? λp=>decide (p.1=k)).bind λj=>(ms[j]?).map λp=>(i+j,p.2))
 |[],[],i,_=>rfl
 |[],_::_,_,h=>by simp at h
 |_::_,[],_,h=>by simp at h
 |e::es,p::ms,i,h=>by
  simp only [List.map_cons,List.cons.injEq,Prod.mk.injEq] at h
  obtain ⟨⟨h1,h2⟩,h3⟩:=h
  have ih:=tg (k:=k) (i:=i+1) h3
  unfold Instr.findNow
  simp only [h1,Instr.sameNow,Pl]
  by_cases hk:p.1=k
  .have e2:decide (p.1=k)=true:=decide_eq_true hk
   simp [List.findIdx?_cons,hk,h2]
  .have e2:decide (p.1=k)=false:=decide_eq_false hk
   simp only [ih,List.findIdx?_cons,e2,Bool.false_eq_true,if_false]
   congr 1
   cases hf:ms.findIdx? (λp=>decide (p.1=k)) with
   |none=>simp
   |some j=>simp [Nat.add_assoc,Nat.add_comm 1 j]
theorem FV {ms:List (ByteArray×Value)} {k:ByteArray} {i:Nat}:(((ms.findIdx? λp=>decide (p.1=k)).bind λj=>(ms[j]?).map λp=>(i+j,p.2)).map (·.2))=vk ms k:=by
 unfold vk
 induction ms generalizing i with
 |nil=>rfl
 |cons p ms ih=>
  by_cases hk:p.1=k
  .simp [List.findIdx?_cons,hk]
  .have e2:decide (p.1=k)=false:=decide_eq_false hk
   simp only [List.findIdx?_cons,e2,Bool.false_eq_true,if_false,List.find?_cons]
   rw [<-ih (i:=i+1)]
   cases hf:ms.findIdx? (λp=>decide (p.1=k)) with
   |none=>simp
   |some j=>simp [Function.comp_def]
structure CD (P:Program) (T kt et:TypeId) (z:Value):Prop where
 hT:P.underlying T=some (.map kt et)
 hk:P.underlying kt=some .string
 hz:(P.info? et).map (·.zero)=some (some z)
theorem vN {P:Program} {kt:TypeId} (hk:P.underlying kt=some .string) (b:Bool) (k:ByteArray) (w:World):(Instr.checkKey b 10000 kt (.string k)).run P w=.ok () w:=by
 unfold Instr.checkKey
 simp [run_underlying hk]
theorem zW {P:Program} {T kt et:TypeId} {z:Value} (mo:CD P T kt et z) {w:World} {mb:Nat} {es:Array MapEntry} {clock:Nat} {ms:List (ByteArray×Value)}
  (hm:w.heap[mb]? =some (.map es clock)) (wW:nL es ms) (k:ByteArray):
  (Instr.lookup T (.map (some mb)) (.string k) true).run P w=.ok (.tuple #[(vk ms k).getD z,.bool (vk ms k).isSome]) w:=by
 have hf:=tg (k:=k) (i:=0) wW
 have hg:(getObj mb).run P w=.ok (.map es clock) w:=by simp [getObj,Sem.run,hm]
 have A6:=FV (ms:=ms) (k:=k) (i:=0)
 unfold Instr.lookup Instr.findKey
 simp only [Sem.run_bind,run_underlying mo.hT,Result.andThen_ok,hg,Sem.run_pure,vN mo.hk,run_underlying mo.hk,hf]
 cases hr:((ms.findIdx? λp=>decide (p.1=k)).bind λj=>(ms[j]?).map λp=>(0+j,p.2)) with
 |none=>rw [hr] at A6;simp [<-A6,uJ mo.hz]
 |some q=>rw [hr] at A6;simp [<-A6]
theorem AI {P:Program} {T kt et:TypeId} {z:Value} (mo:CD P T kt et z) {w:World} {mb:Nat} {es:Array MapEntry} {clock:Nat} {ms:List (ByteArray×Value)}
  (hm:w.heap[mb]? =some (.map es clock)) (wW:nL es ms) (k:ByteArray) (v:Value) (tj:vk ms k=none):
  ∃w' I4,(Instr.mapUpdate T (.map (some mb)) (.string k) v).run P w=.ok () w'/\w'.heap[mb]? =some (.map I4 (clock+1))/\nL I4 (ms++[(k,v)])/\Fr (λb=>b=mb) w w'/\w'.heap.size=w.heap.size:=by
 have hf:=tg (k:=k) (i:=0) wW
 have hg:(getObj mb).run P w=.ok (.map es clock) w:=by simp [getObj,Sem.run,hm]
 have A6:=FV (ms:=ms) (k:=k) (i:=0)
 have lV:=gq hm
 have hr:((ms.findIdx? λp=>decide (p.1=k)).bind λj=>(ms[j]?).map λp=>(0+j,p.2))=none:=by
  rw [tj] at A6;simpa using A6
 refine ⟨{w with heap:=w.heap.setIfInBounds mb (.map (es.push {key:=.string k,val:=v,born:=clock}) (clock+1))},es.push {key:=.string k,val:=v,born:=clock},?_,by simp [lV],?_,Fr.setObj w mb _ rfl,by simp⟩
 .unfold Instr.mapUpdate Instr.findKey
  simp only [Sem.run_bind,run_underlying mo.hT,Result.andThen_ok,hg,vN mo.hk,run_underlying mo.hk,hf,hr]
  simp [setObj,Sem.run,hm]
 .unfold nL at wW ⊢
  simp [wW]
def jq:List Nx->Nat->List (ByteArray×Value)
 |[],_=>[]
 |d::g,i=>(wh d,.i (i:Int))::jq g (i+1)
theorem yr (n:Nx):∀(g:List Nx) (i:Nat),jq (g++[n]) i=jq g i++[(wh n,.i ((i+g.length:Nat):Int))]
 |[],i=>by simp [jq]
 |d::g,i=>by
  have:=yr n g (i+1)
  simp only [Vt,jq,this,List.length_cons]
  rw [show i+1+g.length=i+(g.length+1) by omega]
theorem vf {n:Nx} (hn:0<=n.u):∀{g:List Nx} {i:Nat},(∀d∈g,0<=d.u)->vk (jq g i) (wh n)=(l4 n g i).map λk:Nat=>.i (k:Int)
 |[],i,_=>rfl
 |d::g,i,h=>by
  have ih:=vf hn (g:=g) (i:=i+1) λe he=>h e (by simp [he])
  unfold vk at ih ⊢
  unfold jq l4
  by_cases hd:d=n
  .subst hd
   simp
  .have hk:¬wh d=wh n:=λe=>hd (Nz (h d (by simp)) hn e)
   rw [if_neg hd,List.find?_cons]
   simp only [decide_eq_false hk]
   exact ih
def oh:List Nx->List (ByteArray×Value)
 |[]=>[]
 |d::g=>if d.op=0 then (d.tx,kA d.st)::oh g else oh g
theorem AK (n:Nx):∀(g:List Nx),oh (g++[n])=oh g++(if n.op=0 then [(n.tx,kA n.st)] else [])
 |[]=>by
  unfold oh
  simp only [La,oh]
 |d::g=>by
  have:=AK n g
  simp only [Vt,oh,this]
  split<;>simp
theorem xW (t:ByteArray):∀(g:List Nx),vk (oh g) t=(oG g t).map kA
 |[]=>rfl
 |d::g=>by
  have ih:=xW t g
  unfold vk at ih ⊢
  unfold oh oG
  by_cases h0:d.op=0
  .rw [if_pos h0,List.find?_cons]
   by_cases ht:d.tx=t
   .rw [if_pos ⟨h0,ht⟩]
    simp [ht]
   .rw [if_neg (λh=>ht h.2)]
    simp only [decide_eq_false ht]
    exact ih
  .rw [if_neg h0,if_neg (λh=>h0 h.1)]
   exact ih
abbrev LA (bb:Nat) (s:Sl) (mp mv:Nat) (l:List Nd) (uV:Array MapEntry) (c1:Nat) (um:Array MapEntry) (c2:Nat):List En:=
 [.c bb [s.v,.map (some mp),.map (some mv)] gJ,.row aE 9 s (l.flatMap Nd.c),.ob mp (.map uV c1),.ob mv (.map um c2)]
def ml (w:World) (bb:Nat) (l:List Nd) (own:List Nat):Prop:=∃(s:Sl) (mp mv:Nat) (uV:Array MapEntry) (c1:Nat) (um:Array MapEntry) (c2:Nat),own=(LA bb s mp mv l uV c1 um c2).flatMap (·.fp)/\own.Nodup/\(∀e∈LA bb s mp mv l uV c1 um c2,e.P w)/\nL uV (jq (xs l) 0)/\nL um (oh (xs l))
def GS (w:World) (bb:Nat) (own:List Nat) (l:List Nd) (w':World):Prop:=∃iZ,ml w' bb l iZ/\Fr (·∈own) w w'/\∀x∈iZ,x∈own\/w.heap.size<=x
theorem ml.open {w:World} {bb:Nat} {l:List Nd} {own:List Nat} (h:ml w bb l own) (D:List En) (hD:∀e∈D,e.P w/\∀b∈e.fp,b∉own):
  ∃(s:Sl) (mp mv:Nat) (uV:Array MapEntry) (c1:Nat) (um:Array MapEntry) (c2:Nat),nL uV (jq (xs l) 0)/\nL um (oh (xs l))/\LH (·∈own) w w (LA bb s mp mv l uV c1 um c2) D:=by
 obtain ⟨s,mp,mv,uV,c1,um,c2,ho,hn,hP,h1,h2⟩:=h
 have u0:∀e∈LA bb s mp mv l uV c1 um c2,∀b∈e.fp,b∈own:=λe he b hb=>by rw [ho];exact mI.2 ⟨e,he,hb⟩
 exact ⟨s,mp,mv,uV,c1,um,c2,h1,h2,LH.xS _ _ (λe he=>⟨hP e he,u0 e he⟩) (ho▸hn) (λe he=>⟨(hD e he).1,λb hb e' mG hm=>(hD e he).2 b hb (u0 e' mG b hm)⟩)⟩
theorem ml.close {w w':World} {bb:Nat} {l:List Nd} {own:List Nat} {s:Sl} {mp mv:Nat} {uV:Array MapEntry} {c1:Nat} {um:Array MapEntry} {c2:Nat} {D:List En} (H:LH (·∈own) w w' (LA bb s mp mv l uV c1 um c2) D) (h1:nL uV (jq (xs l) 0)) (h2:nL um (oh (xs l))):GS w bb own l w':=
 ⟨_,⟨s,mp,mv,uV,c1,um,c2,rfl,H.nd,H.own,h1,h2⟩,H.fr,λx hx=>by
  obtain ⟨e,he,hb⟩:=mI.1 hx
  exact (H.new e he x hb).symm⟩
theorem zY:CD Tryz.prog oe cJ bP (.int .i64 0):=⟨by kernel_rfl,by kernel_rfl,by kernel_rfl⟩
theorem Fk:CD Tryz.prog kB cJ aS (.agg #[.int .i64 0,.int .i64 0,.int .i64 0]):=⟨by kernel_rfl,by kernel_rfl,by kernel_rfl⟩
def _root_.Go.W.En.cl (p:Addr) (v:Value):En:=⟨[p.block],λw=>w.cell? p=some v,λw w' h hp=>by
 have hl:=pP hp
 unfold World.cell? at hp ⊢
 rw [h p.block (by simp) hl]
 exact hp,λw hp b hb=>by simp at hb;subst hb;exact pP hp,by simp⟩
theorem look_eq {l:List Nd} (t:ByteArray):∃(a b c:Int) (y:Bool),((vk (oh (xs l)) t).getD (.agg #[.int .i64 0,.int .i64 0,.int .i64 0]))=.agg #[.i a,.i b,.i c]/\(vk (oh (xs l)) t).isSome=y/\tv (xs l) t=.returned (.tuple #[.agg #[.i a,.i b,.i c],.bool y]):=by
 rw [xW]
 unfold tv
 cases oG (xs l) t with
 |none=>exact ⟨0,0,0,false,rfl,rfl,rfl⟩
 |some s=>exact ⟨s.k,s.n,s.x,true,rfl,rfl,rfl⟩
theorem Ug {w:World} {bb:Nat} {l:List Nd} {s:Sl} {mp mv:Nat} {uV:Array MapEntry} {c1:Nat} {um:Array MapEntry} {c2:Nat} {t1:Addr} (h:∀e∈LA bb s mp mv l uV c1 um c2,e.P w) (h2:nL um (oh (xs l))) (ht:w.cell? t1=some (.pointer (some (bD bb)))) (t:ByteArray):
  Calls Tryz.prog hM #[.string t,.pointer (some t1)] w λr w'=>r=tv (xs l) t/\bG w w':=by
 have H:LH F0 w w [] (LA bb s mp mv l uV c1 um c2++[.cl t1 (.pointer (some (bD bb)))]):=mu _ (by
  intro e he
  rcases List.mem_append.1 he with he|he
  .exact h e he
  .simp only [cS,fF,or_false] at he
   subst he
   exact ht)
 obtain ⟨a,b,c,y,e1,e2,e3⟩:=look_eq (l:=l) t
 refine term_builder_sortOf_1.cU t t1 w _ (H.bF λb3 w1 H1=>⟨_,H1.getD 4,ub ⟨some mv,cellAt (p:=bD bb) (H1.getD 0) rfl rfl,a,b,c,y,?_,H1.bF λb5 w2 H2=>H2.aL λw3 H3=>⟨e3.symm,H3.fr⟩⟩⟩)
 rw [zW Fk (H1.getD 3) h2 t,e1,e2]
theorem Mj {w:World} {bb:Nat} {l:List Nd} {own:List Nat} {d:Nd} (h:ml w bb l own) (Nq:∀e∈l,e.P w) (hd:d.P w) (hk:pK.P w) (ho:LD d.x) (zJ:l.length<=1000000000) (hv:∀e∈xs l,bN e.st=true):
  Calls Tryz.prog kS #[.pointer (some (bD bb)),d.v] w λr w'=>r=kH (dI (xs l) d.x)/\bG w w':=by
 obtain ⟨s,mp,mv,uV,c1,um,c2,_,_,hP,_,h2⟩:=h
 have iO:aO w aE 9 s (l.flatMap Nd.c):=hP _ (cR (i:=1) rfl)
 have H:LH F0 w w [] (LA bb s mp mv l uV c1 um c2++[.gr s l,dG d,pK]):=mu _ (by
  intro e he
  rcases List.mem_append.1 he with he|he
  .exact hP e he
  .simp only [cS,fF,or_false] at he
   rcases he with rfl|rfl|rfl
   .exact cE.2 ⟨iO.iD,Nq⟩
   .exact hd
   .exact hk)
 refine term_builder_sortOf.cU _ _ _ _ _ _ _ _ _ _ w _ (H.nw λw1 _ H1=>H1.bF λb3 w2 H2=>H2.bF λb4 w3 H3=>H3.aL λw4 H4=>⟨_,H4.HR 0,ub ⟨s,cellAt (p:=bD bb) (H4.getD 0) rfl rfl,?_⟩⟩)
 have Hs:LH F0 w4 w4 [] (.gr s l::dG d::pK::(LA bb s mp mv l uV c1 um c2++[.cl (bD w.heap.size) (.pointer (some (bD bb)))])):=mu _ (by
  intro e he
  simp only [Vt,La,cS,fF,or_false] at he
  rcases he with rfl|rfl|rfl|rfl|rfl|rfl|rfl|rfl
  .exact H4.getD 4
  .exact H4.getD 5
  .exact H4.getD 6
  .exact H4.getD 0
  .exact H4.getD 1
  .exact H4.getD 2
  .exact H4.getD 3
  .exact H4.HR 0)
 refine H4.aK (Gm ⟨hM,#[],#[.pointer (some (bD w.heap.size))]⟩ Hs (by kernel_rfl) (λw' Bc=>?_) ho zJ hv) ?_
 .exact Ug (λe he=>Bc e (List.mem_append_left _ he)) h2 (Bc (.cl (bD w.heap.size) (.pointer (some (bD bb)))) (by simp)) d.x.tx
 .rintro _ w5 rfl H5
  exact ⟨_,_,_,_,rfl,H5.aL λw6 H6=>⟨rfl,H6.fr⟩⟩
def yh (g:List Nx) (n:Nx):Int×Bool:=match l4 n g 0 with
 |some i=>((i:Int),true)
 |none=>(0,false)
theorem find_eq {g:List Nx} {n:Nx} (hn:0<=n.u) (hu:∀e∈g,0<=e.u):(vk (jq g 0) (wh n)).getD (.int .i64 0)=.i (yh g n).1/\(vk (jq g 0) (wh n)).isSome=(yh g n).2:=by
 rw [vf hn hu]
 unfold yh
 cases l4 n g 0 with
 |none=>exact ⟨rfl,rfl⟩
 |some i=>exact ⟨rfl,rfl⟩
theorem Uf {w:World} {bb:Nat} {l:List Nd} {own:List Nat} {d:Nd} (h:ml w bb l own) (hd:d.P w) (W:Mc d.x) (hu:∀e∈xs l,0<=e.u):
  Calls Tryz.prog mz #[.pointer (some (bD bb)),d.v] w λr w'=>r=.returned (.tuple #[.i (yh (xs l) d.x).1,.bool (yh (xs l) d.x).2])/\bG w w':=by
 obtain ⟨s,mp,mv,uV,c1,um,c2,_,_,hP,h1,_⟩:=h
 have H:LH F0 w w [] (LA bb s mp mv l uV c1 um c2++[dG d]):=mu _ (by
  intro e he
  rcases List.mem_append.1 he with he|he
  .exact hP e he
  .simp only [cS,fF,or_false] at he
   subst he
   exact hd)
 refine term_builder_find.ok _ _ _ _ _ _ _ _ _ _ w _ (H.nw λw1 _ H1=>H1.dr λw2 H2=>⟨some mp,cellAt (p:=bD bb) (H2.getD 0) rfl rfl,H2.call (J4 (d:=d) (xE (H2.ob 0)) (H2.getD 4) W) ?_⟩)
 rintro _ w3 rfl H3
 obtain ⟨e1,e2⟩:=find_eq W.u.1 hu
 refine ⟨_,rfl,cellAt (p:=bD bb) (H3.getD 0) rfl rfl,(yh (xs l) d.x).1,(yh (xs l) d.x).2,?_,rfl,H3.fr⟩
 have:=zW zY (H3.getD 2) h1 (wh d.x)
 rw [e1,e2] at this
 exact this
theorem Sa {w:World} {bb:Nat} {l:List Nd} {own:List Nat} {d:Nd} (h:ml w bb l own) (hd:d.P w) (hdo:∀b∈(dG d).fp,b∉own) (W:Mc d.x) (hu:∀e∈xs l,0<=e.u) (hl:l.length<=100000) (tj:d.x∉xs l) (aaF:d.x.op=0->oG (xs l) d.x.tx=none):
  Calls Tryz.prog kr #[.pointer (some (bD bb)),d.v] w λr w'=>r=.returned (.i (l.length:Int))/\GS w bb own (l++[d]) w':=by
 obtain ⟨s,mp,mv,uV,c1,um,c2,h1,h2,H⟩:=h.open [dG d] (by
  intro e he
  simp only [cS,fF,or_false] at he
  subst he
  exact ⟨hd,hdo⟩)
 have hn:s.n=l.length:=Nd.b0 (show jU 9 w s (l.flatMap Nd.c) from (show aO w aE 9 s (l.flatMap Nd.c) from H.get 1).iD)
 have g1:vk (jq (xs l) 0) (wh d.x)=none:=by
  rw [vf W.u.1 hu]
  cases hi:l4 d.x (xs l) 0 with
  |none=>rfl
  |some i=>
   have:=(rv hi).2
   exact absurd (cR this) tj
 have exs:xs (l++[d])=xs l++[d.x]:=by simp [xs]
 have p1:jq (xs (l++[d])) 0=jq (xs l) 0++[(wh d.x,.i (l.length:Int))]:=by rw [exs,yr];simp [xs]
 have p2:oh (xs (l++[d]))=oh (xs l)++(if d.x.op=0 then [(d.x.tx,kA d.x.st)] else []):=by rw [exs,AK]
 have S0:∀(PH:Array MapEntry) (ZW:Nat) (Ho:Array MapEntry) (ZX nbk:Nat) (w1:World),nL PH (jq (xs (l++[d])) 0)->nL Ho (oh (xs (l++[d])))->LH (·∈own) w w1 (LA bb s mp mv l PH ZW Ho ZX++[.c nbk d.c aE]) [dG d]->
   term_builder_put.S0 (bD bb) (bD nbk) w1 λr w'=>r=.returned (.i (l.length:Int))/\GS w bb own (l++[d]) w':=by
  intro PH ZW Ho ZX nbk w1 q1 q2 H1
  refine H1.dr λw2 H2=>⟨s,H2.ld 0 0,?_⟩
  refine ⟨d.x.op,d.ks,d.x.n,d.x.m,d.x.u,d.x.tx,d.x.st.k,d.x.st.n,d.x.st.x,H2.ld 4 0,H2.ld 4 1,H2.ld 4 2,H2.ld 4 3,H2.ld 4 4,H2.ld 4 5,H2.ld 4 6,H2.ld 4 7,H2.ld 4 8,H2.nw λw3 _ H3=>⟨H3.ld 0 0,?_⟩⟩
  have E3:jU 9 w3 ⟨some (bD w2.heap.size),1,1⟩ ([d].flatMap Nd.c):=by
   rw [show [d].flatMap Nd.c=d.c by simp]
   exact vH (T:=aE) (H3.ob 5) rfl
  refine H3.ap 1 nO (src:=⟨some (bD w2.heap.size),1,1⟩) rfl E3.2.2 E3.1 tA (by simp only;omega) (λs' w4 H4 XM _=>H4.st 0 0 rfl (λw5 H5=>⟨s',H5.ld 0 0,?_⟩))
  refine ⟨?_,ml.close (s:=s') (mp:=mp) (mv:=mv) (uV:=PH) (c1:=ZW) (um:=Ho) (c2:=ZX) (D:=[dG d]) ?_ q1 q2⟩
  .rw [XM,IntWalk.i64_in _ (by simp only;omega)]
   simp only
   rw [hn]
   congr 2
   omega
  .have:=H5.take 4
   unfold LA
   rw [show (l++[d]).flatMap Nd.c=l.flatMap Nd.c++[d].flatMap Nd.c from List.flatMap_append]
   exact this
 refine term_builder_put.ok _ _ _ _ _ _ _ _ _ _ w _ (H.nw λw1 _ H1=>H1.dr λw2 H2=>⟨some mp,H2.ld 0 1,s,H2.ld 0 0,H2.call (J4 (d:=d) (xE (H2.ob 4)) (H2.getD 0) W) ?_⟩)
 rintro _ w3 rfl H3
 obtain ⟨w4,I4,u1,u2,u3,u4,_⟩:=AI zY (H3.ob 2) h1 (wh d.x) (.i ((s.n:Nat):Int)) g1
 have H4:=H3.D2 2 (.ob mp (.map I4 (c1+1))) rfl (u4.mono λx _ e=>by simp [En.ob,e]) u2 (λb hb=>.inl hb)
 have q1:nL I4 (jq (xs (l++[d])) 0):=by rw [p1,<-hn];exact u3
 refine ⟨_,rfl,H3.ld 0 0,H3.ld 0 1,w4,u1,d.x.op,H4.ld 4 0,aJ (λh0=>?_) (λh0=>?_)⟩
 .refine H4.dr λw5 H5=>⟨some mv,H5.ld 0 2,d.x.tx,H5.ld 4 5,?_⟩
  have g2:vk (oh (xs l)) d.x.tx=none:=by rw [xW,aaF h0];rfl
  obtain ⟨w6,Ho,v1,v2,v3,v4,_⟩:=AI Fk (H5.ob 3) h2 d.x.tx (kA d.x.st) g2
  have H6:=H5.D2 3 (.ob mv (.map Ho (c2+1))) rfl (v4.mono λx _ e=>by simp [En.ob,e]) v2 (λb hb=>.inl hb)
  have a:=xE (d:=d) (H5.ob 4)
  refine ⟨d.x.st.k,d.x.st.n,d.x.st.x,a.s0,a.s1,a.s2,w6,v1,S0 I4 (c1+1) Ho (c2+1) w.heap.size w6 q1 ?_ H6⟩
  rw [p2,if_pos h0]
  exact v3
 .refine S0 I4 (c1+1) um c2 w.heap.size w4 q1 ?_ H4
  rw [p2,if_neg h0,List.append_nil]
  exact h2
theorem ml.st {w w':World} {bb:Nat} {l:List Nd} {own:List Nat} (h:ml w bb l own) (k:∀b∈own,b<w.heap.size->w'.heap[b]? =w.heap[b]?):ml w' bb l own:=by
 obtain ⟨s,mp,mv,uV,c1,um,c2,ho,hn,hP,h1,h2⟩:=h
 exact ⟨s,mp,mv,uV,c1,um,c2,ho,hn,λe he=>e.st w w' (λb hb hl=>k b (by rw [ho];exact mI.2 ⟨e,he,hb⟩) hl) (hP e he),h1,h2⟩
theorem ml.lt {w:World} {bb:Nat} {l:List Nd} {own:List Nat} (h:ml w bb l own):∀b∈own,b<w.heap.size:=by
 obtain ⟨s,mp,mv,uV,c1,um,c2,ho,hn,hP,h1,h2⟩:=h
 intro b hb
 rw [ho] at hb
 obtain ⟨e,he,hb⟩:=mI.1 hb
 exact e.lt w (hP e he) b hb
def _root_.Go.W.En.bu (bb:Nat) (own:List Nat) (l:List Nd):En:=⟨Jy own,λw=>ml w bb l own,λw w' h hp=>hp.st λb hb=>h b (aH.2 hb),λw hp b hb=>hp.lt b (aH.1 hb),l8 _⟩
theorem Ml (w:World) (bb:Nat) (own:List Nat) (l:List Nd) (b:Nat):¬(En.bu bb own l).P ({w with heap:=Array.replicate (b+1) (.map #[] 0)}):=by
 rintro ⟨s,mp,mv,uV,c1,um,c2,ho,hn,hP,h1,h2⟩
 have h:=hP _ (cR (i:=0) rfl)
 exact IU w bb _ gJ b h
section
variable {M:Nat->Prop} {w0 w:World} {L D:List En} {bs:List Nat}
theorem _root_.Go.W.LH.buG (H:LH M w0 w L D) (i:Nat) {bb:Nat} {own:List Nat} {l l':List Nd} {w':World} (hi:L[i]? =some (.bu bb own l)) (h:GS w bb own l' w'):∃iZ,LH M w0 w' (L.set i (.bu bb iZ l')) D/\ml w' bb l' iZ:=by
 obtain ⟨iZ,r,f,o⟩:=h
 exact ⟨iZ,H.D2 i (.bu bb iZ l') hi (f.mono λx _ hx=>aH.2 hx) r (λb hb=>(o b (aH.1 hb)).imp aH.2 id),r⟩
theorem _root_.Go.W.LH.ZV (H:LH M w0 w L D) (i:Nat) {bb:Nat} {own:List Nat} {l l':List Nd} {P:Program} {g:FuncId} {args:Array Value} {A:Ending->Prop} {K:aD} (hi:L[i]? =some (.bu bb own l)) (hc:Calls P g args w λr w'=>A r/\GS w bb own l' w')
  (hk:∀r w' iZ,A r->LH M w0 w' (L.set i (.bu bb iZ l')) D->K r w') (ke:∀b∈bs,En.g b∈L:=by simp):fE bs P g args w K:=
 ⟨(·∈own),λb hb hm=>oB H hi (Ml w bb own l) (ke b hb) (aH.2 hm),hc.mono λr w' ⟨ha,h⟩=>by
  obtain ⟨_,_,f,_⟩:=id h
  obtain ⟨iZ,H',_⟩:=H.buG i hi h
  exact ⟨f,hk r w' iZ ha H'⟩⟩
end
theorem ml.nil (w:World):GS w (w.heap.size+2) [] [] ((((w.alloc (.map #[] 0)).alloc (.map #[] 0)).alloc (.cells #[.slice none 0 0,.map (some w.heap.size),.map (some (w.heap.size+1))] gJ))):=by
 have s1:(w.alloc (.map #[] 0)).heap.size=w.heap.size+1:=size_alloc _ _
 have s2:((w.alloc (.map #[] 0)).alloc (.map #[] 0)).heap.size=w.heap.size+2:=by rw [size_alloc,s1]
 have m1:(w.alloc (.map #[] 0)).heap[w.heap.size]? =some (.map #[] 0):=mO w _
 have m1':=(Fr.alloc F0 (w.alloc (.map #[] 0)) (.map #[] 0)).at m1 id
 have m2:=mO (w.alloc (.map #[] 0)) (.map #[] 0)
 rw [s1] at m2
 have f3:=Fr.alloc F0 ((w.alloc (.map #[] 0)).alloc (.map #[] 0)) (.cells #[.slice none 0 0,.map (some w.heap.size),.map (some (w.heap.size+1))] gJ)
 have c:=mO ((w.alloc (.map #[] 0)).alloc (.map #[] 0)) (.cells #[.slice none 0 0,.map (some w.heap.size),.map (some (w.heap.size+1))] gJ)
 rw [s2] at c
 have f:bG w (((w.alloc (.map #[] 0)).alloc (.map #[] 0)).alloc (.cells #[.slice none 0 0,.map (some w.heap.size),.map (some (w.heap.size+1))] gJ)):=((Fr.alloc F0 w _).AV (Fr.alloc F0 _ _)).AV f3
 refine ⟨_,⟨⟨none,0,0⟩,w.heap.size,w.heap.size+1,#[],0,#[],0,rfl,?_,λe he=>?_,rfl,rfl⟩,f.of0,λx hx=>?_⟩
 .show ([w.heap.size+2]++([]++([w.heap.size]++([w.heap.size+1]++[])))).Nodup
  simp
 .simp only [cS,fF,or_false] at he
  rcases he with rfl|rfl|rfl|rfl
  .exact c
  .exact aO.nil _ _ _
  .exact f3.at m1' id
  .exact f3.at m2 id
 .have hx:x∈[w.heap.size+2]++([]++([w.heap.size]++([w.heap.size+1]++[]))):=hx
  simp at hx
  right
  omega
theorem DS {g:List Nx} (h:Vg g):∀i d,g[i]? =some d->d∉g.take i:=by
 induction h with
 |nil=>intro i d hd;simp at hd
 |@snoc g n hg hs hn ih=>
  intro i d hd
  rcases Nat.lt_or_ge i g.length with hi|hi
  .rw [List.getElem?_append_left hi] at hd
   rw [List.take_append_of_le_length (by omega)]
   exact ih i d hd
  .rw [List.getElem?_append_right hi] at hd
   have:i - g.length=0:=by
    have:=(List.getElem?_eq_some_iff.1 hd).1
    simp at this
    omega
   rw [this] at hd
   simp at hd
   subst hd
   rw [show i=g.length by omega,List.take_left]
   exact hn
theorem OR {g:List Nx} (h:Vg g) {i:Nat} {d:Nx} (hd:g[i]? =some d) (h0:d.op=0):oG (g.take i) d.tx=none:=by
 cases hv:oG (g.take i) d.tx with
 |none=>rfl
 |some s=>
  obtain ⟨e,he,e0,et,_⟩:=wP hv
  obtain ⟨j,hj⟩:=List.mem_iff_getElem?.1 (Ti he)
  have GL:=h.vars e (Ti he) e0 d (cR hd) h0 et
  have:=var_eq (h.sok j e hj) (h.sok i d hd) e0 h0 et GL
  exact absurd (this▸he) (DS h i d hd)
theorem WK {w:World} {s:Sl} {l:List Nd} (h:GP w s l) (hg:Vg (xs l)) (hW:∀d∈xs l,Mc d) (hl:l.length<=100000):
  Calls Tryz.prog nX #[.agg #[s.v]] w λr w'=>(∃bb own,r=.returned (.pointer (some (bD bb)))/\ml w' bb l own/\∀x∈own,w.heap.size<=x)/\bG w w':=by
 have hn:=oT h
 have H:LH F0 w w [] [.gr s l]:=mu _ (by
  intro e he
  simp only [cS,fF,or_false] at he
  subst he
  exact cE.2 h)
 have loop:∀(m i b1 bb:Nat) (own:List Nat) (w1:World),i+m=l.length->LH F0 w w1 [.g b1,.bu bb own (l.take i)] [.gr s l]->
   term_newBuilder.eE (bD bb) s ((s.n:Nat):Int) (i:Int) w1 λr w'=>(∃bb own,r=.returned (.pointer (some (bD bb)))/\ml w' bb l own/\∀x∈own,w.heap.size<=x)/\bG w w':=by
  intro m
  induction m with
  |zero=>
   intro i b1 bb own w1 hi H1
   refine term_newBuilder.aY _ _ _ _ _ _ (aI (decide_eq_false (by omega)) ⟨⟨bb,own,rfl,?_,λx hx=>(H1.new _ (cR (i:=1) rfl) x (aH.2 hx)).resolve_right id⟩,H1.fr⟩)
   have:=H1.get 1
   rw [List.take_of_length_le (by omega)] at this
   exact this
  |succ m ih=>
   intro i b1 bb own w1 hi H1
   have ga:l[i]? =some (l[i]'(by omega)):=List.getElem?_eq_getElem (by omega)
   generalize l[i]'(by omega)=d at ga
   refine term_newBuilder.aY _ _ _ _ _ _ (aQ (decide_eq_true (by omega)) (kD (cE.1 (H1.getD 0)) rfl ga λp hp c=>⟨d.x.op,d.ks,d.x.n,d.x.m,d.x.u,d.x.tx,d.x.st.k,d.x.st.n,d.x.st.x,c.c0,c.c1,c.c2,c.c3,c.c4,c.c5,c.c6,c.c7,c.c8,H1.bF λb5 w2 H2=>H2.aL λw3 H3=>?_⟩))
   have Qa:=cR ga
   have gx:=sv ga
   have et:xs (l.take i)=(xs l).take i:=by simp [xs,List.map_take]
   have es:l.take (i+1)=l.take i++[d]:=by rw [List.take_add_one,ga];rfl
   refine H3.ZV 1 rfl (Sa (l:=l.take i) (d:=d) (H3.get 1) ((cE.1 (H3.getD 0)).2 d Qa) (λb hb hm=>H3.dj (.gr s l) (by simp) b (rp.2 (.inr ⟨d,Qa,hb⟩)) (.bu bb own (l.take i)) (by simp) (aH.2 hm)) (hW _ (List.mem_map.2 ⟨d,Qa,rfl⟩)) (λe he=>(hW e (by rw [et] at he;exact Ti he)).u.1) (by rw [List.length_take];omega) (by rw [et];exact DS hg i d.x gx) (λh0=>by rw [et];exact OR hg gx h0)) ?_
   rintro _ w4 iZ rfl H4
   refine ⟨_,rfl,?_⟩
   rw [aX _ (by omega)]
   refine ih (i+1) b1 bb iZ w4 (by omega) ?_
   rw [es]
   exact H4.take 2
 refine term_newBuilder.cU s w _ (H.bF λb1 w1 H1=>?_)
 obtain ⟨own,r,f,o⟩:=ml.nil w1
 have H2:=(H1.fresh (f.mono λx _ hx=>by cases hx)).own (.bu (w1.heap.size+2) own []) r (λb hb=>(o b (aH.1 hb)).resolve_left (by simp))
 have e2:((w1.alloc (.map #[] 0)).alloc (.map #[] 0)).heap.size=w1.heap.size+2:=by rw [size_alloc,size_alloc]
 have:=loop l.length 0 b1 (w1.heap.size+2) own _ (by omega) H2
 have s1:(w1.alloc (.map #[] 0)).heap.size=w1.heap.size+1:=size_alloc _ _
 rw [<-e2,<-s1] at this
 exact this
theorem UJ {w:World} {s:Sl} {l:List Nd} (h:GP w s l) (i:Nat) (hi:i<=l.length):GP w (Ay 9 s 0 i) (l.take i):=by
 have hn:=oT h
 have h1:=h.1.sub 0 i (Nat.zero_le _) (by omega)
 refine ⟨?_,λd hd=>h.2 d (Ti hd)⟩
 rw [Nat.zero_mul,List.drop_zero] at h1
 have:(l.take i).flatMap Nd.c=(l.flatMap Nd.c).take (i *9):=by
  have e:l.flatMap Nd.c=(l.take i).flatMap Nd.c++(l.drop i).flatMap Nd.c:=by rw [<-List.flatMap_append,List.take_append_drop]
  have hl:((l.take i).flatMap Nd.c).length=i *9:=by rw [Nd.iT,List.length_take,Nat.min_eq_left hi]
  rw [e,<-hl,List.take_left]
 rw [this]
 exact h1
end Go.Proofs.YtcifihepfadgfaaGreatDoor

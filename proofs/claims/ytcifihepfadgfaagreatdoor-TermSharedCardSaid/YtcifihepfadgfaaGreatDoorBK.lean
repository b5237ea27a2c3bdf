import Derived.Test.YtcifihepfadgfaaGreatDoorW
import Derived.Test.YtcifihepfadgfaaGreatDoorB
import Derived.Test.YtcifihepfadgfaaGreatDoorVB
import Derived.Test.YtcifihepfadgfaaGreatDoorE1
import Derived.MapKept
import Derived.Test.YtcifihepfadgfaaGreatDoorTP
set_option linter.unusedVariables false
namespace Go.Proofs.YtcifihepfadgfaaGreatDoor
open List renaming mem_cons->cU,not_mem_nil->qnM,mem_of_getElem?->cZ,getElem?_eq_getElem->gW,mem_flatMap->mY,length_append->qlA,mem_of_mem_take->IA,append_assoc->qaA,length_take->qlT,nil_append->qnA0,cons_append->qcA,take_add_one->qtO
open Go Go.W
def q0 (n:Nat):List UInt8:=if n<128 then [UInt8.ofNat n] else UInt8.ofNat (n%128+128)::q0 (n / 128)
termination_by n
decreasing_by omega
theorem k8 {n:Nat} (h:n<128):q0 n=[UInt8.ofNat n]:=by rw [q0,if_pos h]
theorem mF {n:Nat} (h:¬n<128):q0 n=UInt8.ofNat (n%128+128)::q0 (n / 128):=by rw [q0,if_neg h]
theorem DJ:∀(d n:Nat),n<2 *128^d->(q0 n).length<=d+1
 |0,n,h=>by rw [k8 (by omega)];simp
 |d+1,n,h=>by
  by_cases hn:n<128
  .rw [k8 hn];simp
  .rw [mF hn]
   have:=DJ d (n / 128) (by rw [Nat.pow_succ] at h;omega)
   simp;omega
def zz (n:Int):Nat:=if 0<=n then (2 *n).toNat else (-(2 *n) - 1).toNat
theorem Sx (n:Int) (h1:-9223372036854775808<=n) (h2:n<=9223372036854775807):zz n<18446744073709551616:=by
 unfold zz;split<;>omega
def kY (w:World) (wb:Nat) (bs:List UInt8) (own:List Nat):Prop:=
 ∃s:Sl,own=wb::bC s/\w.heap[wb]? =some (.cells #[s.v] iw (0,0))/\nO w s bs
theorem RI {w:World} {e T:TypeId} {s:Sl} {vs:List Value} (h:Ow w e s vs) {b:Nat} {cs:Array Value} {f:Nat×Nat} (hb:w.heap[b]? =some (.cells cs T f)) (hT:e≠T):b∉bC s:=λhm=>by
 obtain ⟨US,f',hc⟩:=h.2.row.UC b hm
 rw [hc] at hb
 injection hb with hb
 injection hb with _ ht _
 exact hT ht
theorem kY.lt {w:World} {wb:Nat} {bs:List UInt8} {own:List Nat} (h:kY w wb bs own):∀b∈own,b<w.heap.size:=by
 obtain ⟨s,rfl,h1,h2⟩:=h
 intro b hb
 rcases cU.1 hb with rfl|hb
 .exact gg h1
 .exact h2.lt b hb
theorem kY.fr {M:Nat->Prop} {w w':World} {wb:Nat} {bs:List UInt8} {own:List Nat} (h:kY w wb bs own) (hf:Fr M w w') (hn:∀b∈own,¬M b):kY w' wb bs own:=by
 obtain ⟨s,rfl,h1,h2⟩:=h
 exact ⟨s,rfl,hf.at h1 (hn _ (by simp)),h2.fr hf λb hb=>hn b (by simp [hb])⟩
theorem kY.oR {w w':World} {wb:Nat} {bs:List UInt8} {own:List Nat} (h:kY w wb bs own) (hf:bI w w'):kY w' wb bs own:=h.fr hf λ_ _ h=>h
theorem kY.new (w:World):kY (w.alloc (.cells #[.slice none 0 0] iw)) w.heap.size [] [w.heap.size]:=⟨⟨none,0,0⟩,rfl,nk w _,Ow.nil _ _⟩
def r9 (w:World) (wb:Nat) (own:List Nat) (bs:List UInt8) (w':World):Prop:=∃jo,kY w' wb bs jo/\Fr (·∈own) w w'/\∀x∈jo,x∈own\/w.heap.size<=x
def tQ (w:World) (wb:Nat) (own:List Nat) (bs:List UInt8):aD:=λr w'=>r=.returned (.tuple #[])/\r9 w wb own bs w'
theorem r9.refl {w:World} {wb:Nat} {own:List Nat} {bs:List UInt8} (h:kY w wb bs own):r9 w wb own bs w:=⟨own,h,Fr.refl _ _,λ_ h=>.inl h⟩
theorem r9.then {w w' tq:World} {wb:Nat} {own jo:List Nat} {Fq:List UInt8} (h1:Fr (·∈own) w w') (h2:∀x∈jo,x∈own\/w.heap.size<=x) (h:r9 w' wb jo Fq tq):r9 w wb own Fq tq:=by
 obtain ⟨WR,r,f,o⟩:=h
 refine ⟨WR,r,h1.trans f λx hx hm=>?_,λx hx=>?_⟩
 .rcases h2 x hm with h|h
  .exact h
  .omega
 .rcases o x hx with h|h
  .exact h2 x h
  .exact .inr (Nat.le_trans h1.size h)
theorem Fh {w w1 w2:World} {wb:Nat} {s s':Sl} {bs Fq:List UInt8} (hc:w.heap[wb]? =some (.cells #[s.v] iw (0,0))) (h0:nO w s bs) (f1:bI w w1) (ho:nO w2 s' Fq) (f2:Fr (·∈bC s) w1 w2) (A5:∀b∈bC s',b∈bC s\/w1.heap.size<=b):
  (w2.cell? ((bF wb).add 0)).isSome=true/\w2.frozen? ((bF wb).add 0)=false/\r9 w wb (wb::bC s) Fq (w2.setCell ((bF wb).add 0) s'.v):=by
 have hM:wb∉bC s:=RI h0 hc (by decide)
 have c2:=f2.at (f1.at hc id) hM
 have c3:(w2.setCell ((bF wb).add 0) s'.v).heap[wb]? =_:=setAt (p:=bF wb) (i:=0) (v:=s'.v) c2 rfl
 have f3:Fr (·=wb) w2 (w2.setCell ((bF wb).add 0) s'.v):=Fr.set _ _ _ rfl
 have Zz:wb∉bC s':=RI ho c2 (by decide)
 refine ⟨by rw [cellAt (p:=bF wb) c2 rfl rfl];rfl,frozenAt (p:=bF wb) c2,wb::bC s',⟨s',rfl,c3,ho.fr f3 λb hb e=>Zz (e▸hb)⟩,?_,?_⟩
 .exact ((f1.of0 (M:=(·∈wb::bC s))).trans f2 λx _ hx=>by simp [hx]).trans f3 λx _ hx=>by simp [hx]
 .intro x hx
  rcases cU.1 hx with rfl|hx
  .exact .inl (by simp)
  .rcases A5 x hx with h|h
   .exact .inl (by simp [h])
   .exact .inr (Nat.le_trans f1.size h)
theorem yh {w:World} {wb:Nat} {s:Sl} (hc:w.heap[wb]? =some (.cells #[s.v] iw (0,0))):w.cell? ((bF wb).add 0)=some s.v:=cellAt (p:=bF wb) hc rfl rfl
theorem xG {w:World} {wb:Nat} {s:Sl} {bs:List UInt8} (hc:w.heap[wb]? =some (.cells #[s.v] iw (0,0))) (h0:nO w s bs) (hl:bs.length<100000000000000) (c:UInt8) (K:World->Prop) (hK:∀w',r9 w wb (wb::bC s) (bs++[c]) w'->K w'):
  ∃(t15:W.Sl) (w2:World),Sem.run Tryz.prog (Builtin.append_ #[bL,bL] bL #[s.v,.slice (some (Addr.mk w.heap.size 0 none)) 1 1]) (w.alloc (.cells #[.int .u8 (c.toNat:Int)] dE))=.ok (t15.v) w2/\(w2.cell? ((bF wb).add 0)).isSome=true/\w2.frozen? ((bF wb).add 0)=false/\K (w2.setCell ((bF wb).add 0) (t15.v)):=by
 have f1:bI w (w.alloc (.cells #[.int .u8 (c.toNat:Int)] dE)):=Fr.alloc _ _ _
 obtain ⟨s',w2,g1,g2,g3,g4,g5⟩:=uJ (ty:=bL) (h0.oR f1) (MW w c) (by simp;omega)
 obtain ⟨a1,a2,a3⟩:=Fh hc h0 f1 g2 g3 g4
 exact ⟨s',w2,g1,a1,a2,hK _ a3⟩
theorem Ff {wb:Nat} (R:aD):∀(n:Nat) (w:World) (bs:List UInt8) (own:List Nat),n<18446744073709551616->bs.length+(q0 n).length<=100000000000000->kY w wb bs own->(∀w',r9 w wb own (bs++q0 n) w'->R (.returned (.tuple #[])) w')->
  wire_Writer_Uint.L0 (bF wb) (n:Int) w R:=by
 intro n
 induction n using Nat.strongRecOn with
 |_ n ih=>
  intro w bs own hn hl hr hR
  obtain ⟨s,rfl,h1,h2⟩:=hr
  refine wire_Writer_Uint.cF _ _ _ _ ?_
  refine aZ (λh=>?_) (λh=>?_)
  .have wu:¬n<128:=by simp at h;omega
   rw [mF wu] at hl
   have e:IntKind.wrap .u8 (n:Int)=_:=NL n
   refine ⟨s,yh h1,?_⟩
   rw [e,FN _ (by omega)]
   have e2:((n%256%128+128:Nat):Int)=((UInt8.ofNat (n%128+128)).toNat:Int):=by simp;omega
   rw [e2]
   refine xG h1 h2 (by simp at hl;omega) (UInt8.ofNat (n%128+128)) (λw'=>wire_Writer_Uint.L0 (bF wb) (Int.fdiv (n:Int) (2^7)) w' R) λw' hw=>?_
   show wire_Writer_Uint.L0 (bF wb) (Int.fdiv (n:Int) (2^7)) w' R
   rw [show ((2:Int)^7)=((128:Nat):Int) from rfl,LW n 128 (by omega)]
   obtain ⟨jo,r',f',o'⟩:=hw
   refine ih (n / 128) (by omega) w' _ jo (by omega) (by simp at hl ⊢;omega) r' λtq ZV=>hR tq ?_
   rw [mF wu,show bs++UInt8.ofNat (n%128+128)::q0 (n / 128)=(bs++[UInt8.ofNat (n%128+128)])++q0 (n / 128) by simp]
   exact ZV.then f' o'
  .have wu:n<128:=by simp at h;omega
   rw [k8 wu] at hl
   have e:IntKind.wrap .u8 (n:Int)=((UInt8.ofNat n).toNat:Int):=by rw [NL];simp
   refine ⟨s,yh h1,?_⟩
   rw [e]
   refine xG h1 h2 (by simp at hl;omega) (UInt8.ofNat n) (λw'=>R (.returned (.tuple #[])) w') λw' hw=>hR w' ?_
   rw [k8 wu];exact hw
theorem je (n:Nat) (h:n<18446744073709551616):(q0 n).length<=10:=DJ 9 n (by simpa using h)
theorem zT {w:World} {wb:Nat} {bs:List UInt8} {own:List Nat} (hr:kY w wb bs own) (n:Nat) (hn:n<18446744073709551616) (hl:bs.length<=10000000000000):
  Calls Tryz.prog gI #[.pointer (some (bF wb)),.int .u64 (n:Int)] w (tQ w wb own (bs++q0 n)):=
 wire_Writer_Uint.ok _ _ w _ (Ff _ n w bs own hn (by have:=je n hn;omega) hr λw' h=>⟨rfl,h⟩)
theorem QB (n:Int) (h:ow n):W.Oh .u64 (IntKind.wrap .u64 ((IntKind.wrap .u64 n) *2^1)) (IntKind.wrap .u64 (Int.fdiv n (2^63)))=(zz n:Int):=by
 obtain ⟨h1,h2⟩:=h
 have e63:((2:Int)^63)=9223372036854775808:=rfl
 rw [e63,Int.fdiv_eq_ediv_of_nonneg _ (by omega),IntKind.wrap_u64,IntKind.wrap_u64,IntKind.wrap_u64]
 by_cases h0:0<=n
 .have e1:(n / 9223372036854775808)%18446744073709551616=((0:Nat):Int):=by omega
  have e2:(n%18446744073709551616 *2^1)%18446744073709551616=((2 *n).toNat:Int):=by omega
  rw [e1,e2,Di _ _ (by omega) (by omega),Nat.xor_zero]
  unfold zz;rw [if_pos h0]
 .have e1:(n / 9223372036854775808)%18446744073709551616=((18446744073709551615:Nat):Int):=by omega
  have e2:(n%18446744073709551616 *2^1)%18446744073709551616=((18446744073709551616+2 *n).toNat:Int):=by omega
  rw [e1,e2,Di _ _ (by omega) (by omega),NR _ (by omega)]
  unfold zz;rw [if_neg h0]
  omega
def tY (n:Int):List UInt8:=q0 (zz n)
theorem zS {w:World} {wb:Nat} {bs:List UInt8} {own:List Nat} (hr:kY w wb bs own) (n:Int) (hn:ow n) (hl:bs.length<=10000000000000):
  Calls Tryz.prog eM #[.pointer (some (bF wb)),.int .i64 n] w (tQ w wb own (bs++tY n)):=by
 refine wire_Writer_Int.ok _ _ w _ ?_
 rw [QB n hn]
 refine (zT hr (zz n) (Sx n hn.1 hn.2) hl).mono ?_
 rintro r w1 ⟨rfl,h⟩
 exact ⟨rfl,rfl,h⟩
def DI (b:List UInt8):List UInt8:=q0 b.length++b
theorem UG {w:World} {wb:Nat} {bs:List UInt8} {own:List Nat} (hr:kY w wb bs own) (t:ByteArray) (hl:bs.length+t.size<=10000000000000):
  Calls Tryz.prog mK #[.pointer (some (bF wb)),.string t] w (tQ w wb own (bs++DI (bl t))):=by
 refine wire_Writer_Text.ok _ _ w _ ?_
 rw [I4 _ (by omega)]
 refine (zT hr t.size (by omega) (by omega)).mono ?_
 rintro r w1 ⟨rfl,oL,r1,f1,o1⟩
 have l10:=je t.size (by omega)
 obtain ⟨s1,rfl,c1,b1⟩:=r1
 obtain ⟨s',w2,g1,g2,g3,g4⟩:=FK (ty:=bL) b1 t (by simp;omega)
 obtain ⟨a1,a2,a3⟩:=Fh c1 b1 (Fr.refl _ w1) g2 g3 g4
 rw [qaA] at a3
 exact ⟨rfl,s1,yh c1,s',w2,g1,a1,a2,rfl,a3.then f1 o1⟩
def Aj (l:List Int):List UInt8:=q0 l.length++l.flatMap tY
theorem jv (n:Int) (h:ow n):(tY n).length<=10:=je _ (Sx n h.1 h.2)
theorem yQ:∀(l:List Int),(∀x∈l,ow x)->(l.flatMap tY).length<=10 *l.length
 |[],_=>by simp
 |x::l,h=>by
  have h1:=jv x (h x (by simp))
  have h2:=yQ l λy hy=>h y (by simp [hy])
  simp at h2 ⊢
  omega
theorem Fe {wb:Nat} {s:Sl} {l:List Int} (R:aD) (hi:∀x∈l,ow x) (hl:l.length<=100000000000):∀(d i:Nat),i+d=l.length->∀(w:World) (bs:List UInt8) (own:List Nat),kY w wb bs own->fB w s l->(∀x∈bC s,x∉own)->(∀x∈bC s,x<w.heap.size)->bs.length+10 *d<=10000000000000->
  (∀w',r9 w wb own (bs++(l.drop i).flatMap tY) w'->R (.returned (.tuple #[])) w')->wire_Writer_Ints.L0 (bF wb) s (l.length:Int) (i:Int) w R:=by
 intro d
 induction d with
 |zero=>
  intro i hd w bs own hr hs hx l6 hb hR
  refine wire_Writer_Ints.cF _ _ _ _ _ _ ?_
  refine aL (by simp;omega) (hR w ?_)
  rw [List.drop_of_length_le (by omega)]
  simpa using r9.refl hr
 |succ d ih=>
  intro i hd w bs own hr hs hx l6 hb hR
  have hg:l[i]? =some l[i]:=gW (by omega)
  have hm:l[i]∈l:=List.getElem_mem _
  refine wire_Writer_Ints.cF _ _ _ _ _ _ ?_
  refine aQ (by simp;omega) ⟨by omega,by rw [fB.len hs];omega,fB.cell hs hg (by simp) λp _ hp=>⟨_,hp,(zS hr _ (hi _ hm) (by omega)).mono ?_⟩⟩
  rintro r w1 ⟨rfl,oL,r1,f1,o1⟩
  refine ⟨rfl,?_⟩
  show wire_Writer_Ints.L0 (bF wb) s (l.length:Int) (IntKind.wrap .i64 ((i:Int)+1)) w1 R
  rw [aY i (by omega)]
  have l10:=jv _ (hi _ hm)
  refine ih (i+1) (by omega) w1 _ oL r1 (hs.fr f1 hx) (λx Eb JG=>?_) (λx Eb=>Nat.lt_of_lt_of_le (l6 x Eb) f1.size) (by simp;omega) λw2 h2=>hR w2 ?_
  .rcases o1 x JG with h|h
   .exact hx x Eb h
   .have:=l6 x Eb;omega
  .rw [List.drop_eq_getElem_cons (by omega),List.flatMap_cons,<-qaA]
   exact h2.then f1 o1
theorem UF {w:World} {wb:Nat} {bs:List UInt8} {own:List Nat} (hr:kY w wb bs own) {s:Sl} {l:List Int} (hb:fB w s l) (hd:∀x∈bC s,x∉own) (l6:∀x∈bC s,x<w.heap.size) (hi:∀x∈l,ow x) (hl:bs.length+10 *l.length<=1000000000000):
  Calls Tryz.prog kf #[.pointer (some (bF wb)),s.v] w (tQ w wb own (bs++Aj l)):=by
 refine wire_Writer_Ints.ok _ _ w _ ?_
 rw [fB.len hb,I4 _ (by omega)]
 refine (zT hr l.length (by omega) (by omega)).mono ?_
 rintro r w1 ⟨rfl,oL,r1,f1,o1⟩
 have l10:=je l.length (by omega)
 refine ⟨rfl,?_⟩
 dsimp only
 refine Fe _ hi (by omega) l.length 0 (by omega) w1 _ oL r1 (hb.fr f1 hd) (λx Eb JG=>?_) (λx Eb=>Nat.lt_of_lt_of_le (l6 x Eb) f1.size) (by simp;omega) λw2 h2=>⟨rfl,?_⟩
 .rcases o1 x JG with h|h
  .exact hd x Eb h
  .have:=l6 x Eb;omega
 .rw [List.drop_zero,qaA] at h2
  exact h2.then f1 o1
theorem Dz (s:Sl) (bs:List UInt8) (w:World) (hb:Bytes w s bs) (hl:bs.length<=140737488355328):Calls Tryz.prog ia #[s.v] w (λr w'=>∃s:Sl,r=.returned s.v/\nO w' s bs/\bI w w'/\∀b∈bC s,w.heap.size<=b):=by
 refine slices_Clone_sl_byte_byte.ok s w _ ?_
 refine aZ (λh=>?_) (λh=>?_)
 .have hn:bs=[]:=by
   have:=(hb.2.2.1 (by simpa using h)).1
   exact List.eq_nil_of_length_eq_zero (by rw [<-Bytes.len hb,this])
  subst hn
  exact ⟨⟨none,0,0⟩,rfl,Ow.nil w _,Fr.refl _ _,by simp [bC]⟩
 .show (λw1:World=>∃(t7:Sl) (w2:World),Sem.run Tryz.prog (Builtin.append_ #[bL,bL] bL #[.slice (some (nb w)) 0 0,s.v]) w1=.ok (t7.v) w2/\(∃s:Sl,Ending.returned t7.v=.returned s.v/\nO w2 s bs/\bI w w2/\∀b∈bC s,w.heap.size<=b)) (w.alloc (.cells #[] dE))
  generalize hw1:w.alloc (.cells #[] dE)=w1
  subst hw1
  let w1:=w.alloc (.cells #[] dE)
  have ho:nO w1 ⟨some ⟨w.heap.size,0,none⟩,0,0⟩ []:=Ow.made w dE [] 0 rfl (by omega)
  have Kz:Bytes w1 s bs:=hb.oR (Fr.alloc _ _ _)
  obtain ⟨s',w2,lI,Ap,A7,A5,_⟩:=uJ (ty:=bL) ho Kz (by simp;omega)
  refine ⟨s',w2,lI,s',rfl,by simpa using Ap,?_,?_⟩
  .refine (Fr.alloc (λ_=>False) w _).trans A7 λx hx hm=>?_
   simp [bC] at hm
   omega
  .intro b eD
   rcases A5 b eD with h|h
   .simp [bC] at h;omega
   .have:w1.heap.size=w.heap.size+1:=size_alloc _ _
    omega
theorem UE {w:World} {wb:Nat} {bs:List UInt8} {own:List Nat} (hr:kY w wb bs own) (hl:bs.length<=100000000000000):
  Calls Tryz.prog mJ #[.pointer (some (bF wb))] w (KV w bs):=by
 obtain ⟨s,rfl,h1,h2⟩:=hr
 refine wire_Writer_Done.ok _ w _ ⟨s,yh h1,(Dz s bs w h2.rd (by omega)).mono ?_⟩
 rintro r w1 ⟨s',rfl,h⟩
 exact ⟨s',rfl,s',rfl,h⟩
set_option maxRecDepth 100000
set_option maxHeartbeats 1000000
def vq (n:Nx):List UInt8:=tY n.op++(Aj n.kids++(tY n.n++(tY n.m++(q0 n.u.toNat++(DI (bl n.tx)++(tY n.st.k++(tY n.st.n++tY n.st.x)))))))
structure NW (x:Nx):Prop where
 op:ow x.op
 ks:∀k∈x.kids,ow k
 kl:x.kids.length<=1000000000
 n:ow x.n
 m:ow x.m
 u:0<=x.u/\x.u<18446744073709551616
 tx:x.tx.size<=1000000000
 sk:ow x.st.k
 sn:ow x.st.n
 sx:ow x.st.x
theorem JY {n:Nx} (W:NW n):(vq n).length<=20000000000:=by
 have h1:=jv _ W.op
 have h2:=yQ _ W.ks
 have h3:=jv _ W.n
 have h4:=jv _ W.m
 have h5:=je n.u.toNat (by have:=W.u;omega)
 have h6:=jv _ W.sk
 have h7:=jv _ W.sn
 have h8:=jv _ W.sx
 have h9:=je n.kids.length (by have:=W.kl;omega)
 have h0:=je (bl n.tx).length (by have:=W.tx;rw [iK];omega)
 have k1:=W.kl
 have k2:=W.tx
 have k3:=iK n.tx
 unfold vq Aj DI
 simp only [qlA]
 omega
theorem pj {P:Program} {f:FuncId} {args:Array Value} {w0 w:World} {wb:Nat} {T':List Nat} {bs Fq:List UInt8} (h:r9 w0 wb T' bs w) (hc:∀own,kY w wb bs own->(∀x∈own,x∈T'\/w0.heap.size<=x)->Calls P f args w (tQ w wb own Fq)) {K:World->Prop} (hK:∀w',r9 w0 wb T' Fq w'->K w'):
  Calls P f args w λr w'=>r=.returned (.tuple #[])/\K w':=by
 obtain ⟨own,hr,hf,ho⟩:=h
 refine (hc own hr ho).mono ?_
 rintro r w' ⟨rfl,h'⟩
 exact ⟨rfl,hK w' (r9.then hf ho h')⟩
theorem Qy {w:World} {wb:Nat} {bs:List UInt8} {own:List Nat} (hr:kY w wb bs own) {s:Sl} {l:List Int} (hb:fB w s l) (hd:∀x∈(En.rd s (l.map jm)).fp,x∉own) (hi:∀x∈l,ow x) (hl:bs.length+10 *l.length<=1000000000000):
  Calls Tryz.prog kf #[.pointer (some (bF wb)),s.v] w (tQ w wb own (bs++Aj l)):=by
 by_cases h0:l=[]
 .subst h0
  have hn:s.n=0:=fB.len hb
  refine wire_Writer_Ints.ok _ _ w _ ?_
  rw [hn]
  refine (zT hr 0 (by omega) (by omega)).mono ?_
  rintro r w1 ⟨rfl,h⟩
  refine ⟨rfl,wire_Writer_Ints.cF _ _ _ _ _ _ (aL (by decide) ⟨rfl,?_⟩)⟩
  simpa [Aj] using h
 .have Gp:(En.rd s (l.map jm)).fp=bC s:=by
   show (if l.map jm=[] then [] else bC s)=_
   rw [if_neg (by simpa using h0)]
  exact UF hr hb (λx hx=>hd x (Gp▸hx)) (λx hx=>(En.rd s (l.map jm)).lt w hb x (Gp▸hx)) hi hl
theorem Qp {w:World} {wb:Nat} {bs:List UInt8} {own:List Nat} (hr:kY w wb bs own) {p:Addr} {d:Nd} (hp:jL w p d) (hd:d.P w) (h1:p.block∉own) (h2:∀x∈(gv d).fp,x∉own) (W:NW d.x) (hl:bs.length<=100000000000):
  Calls Tryz.prog rm #[.pointer (some (bF wb)),.pointer (some p)] w (tQ w wb own (bs++vq d.x)):=by
 have at_:∀{Fq:List UInt8} {w':World},r9 w wb own Fq w'->jL w' p d:=λ⟨_,_,f,_⟩=>hp.st λl6=>f.gV _ l6 h1
 have kd:∀{Fq:List UInt8} {w':World},r9 w wb own Fq w'->fB w' d.ks d.x.kids:=λ⟨_,_,f,_⟩=>(gv d).st w _ (λb hb hl=>f.gV _ hl (h2 b hb)) hd
 have k1:=jv _ W.op
 have k2:=yQ _ W.ks
 have k3:=jv _ W.n
 have k4:=jv _ W.m
 have hu:d.x.u=((d.x.u.toNat:Nat):Int):=by have:=W.u;omega
 have k5:=je d.x.u.toNat (by have:=W.u;omega)
 have k6:=jv _ W.sk
 have k7:=jv _ W.sn
 have k9:=je d.x.kids.length (by have:=W.kl;omega)
 have k0:=je (bl d.x.tx).length (by have:=W.tx;rw [iK];omega)
 have m1:=W.kl
 have m2:=W.tx
 have m3:=iK d.x.tx
 have lL:(Aj d.x.kids).length<=10000000010:=by unfold Aj;simp only [qlA];omega
 have lR:(DI (bl d.x.tx)).length<=1000000010:=by unfold DI;simp only [qlA];omega
 refine term_write.ok _ _ w _ ⟨_,hp.c0,pj (r9.refl hr) (λo r _=>zS r _ W.op (by omega)) λw1 a1=>⟨_,(at_ a1).c1,pj a1 (λo r ho=>Qy r (kd a1) (λx hx hm=>?_) W.ks (by simp only [qlA];omega)) λw2 a2=>⟨_,(at_ a2).c2,pj a2 (λo r _=>zS r _ W.n (by simp only [qlA];omega)) λw3 a3=>⟨_,(at_ a3).c3,pj a3 (λo r _=>zS r _ W.m (by simp only [qlA];omega)) λw4 a4=>⟨_,(at_ a4).c4,?_⟩⟩⟩⟩⟩
 .rcases ho x hm with h|h
  .exact h2 x hx h
  .have:=(gv d).lt w hd x hx
   omega
 rw [hu]
 refine pj a4 (λo r _=>zT r d.x.u.toNat (by have:=W.u;omega) (by simp only [qlA];omega)) λw5 a5=>⟨_,(at_ a5).c5,pj a5 (λo r _=>UG r d.x.tx (by simp only [qlA];omega)) λw6 a6=>⟨_,(at_ a6).s0,pj a6 (λo r _=>zS r _ W.sk (by simp only [qlA];omega)) λw7 a7=>⟨_,(at_ a7).s1,pj a7 (λo r _=>zS r _ W.sn (by simp only [qlA];omega)) λw8 a8=>⟨_,(at_ a8).s2,pj a8 (λo r _=>zS r _ W.sx (by simp only [qlA];omega)) λw9 a9=>⟨rfl,?_⟩⟩⟩⟩⟩
 unfold vq
 simp only [qaA] at a9
 exact a9
theorem IY {w:World} {p:Addr} {d:Nd} (hp:jL w p d) (hd:d.P w) (W:NW d.x):
  Calls Tryz.prog o8 #[.pointer (some p)] w λr w'=>r=.returned (.string (ba (vq d.x)))/\bI w w':=by
 refine term_keyOf.ok _ w _ ?_
 have f0:bI w (w.alloc (.cells #[.slice none 0 0] iw)):=Fr.alloc _ _ _
 have lt:=JY W
 refine (Qp (kY.new w) (hp.st λl6=>f0.gV _ l6 id) ((gv d).st w _ (λb hb hl=>f0.gV _ hl id) hd) (by have:=jL.lt hp;simp;omega) (λx hx=>by have:=(gv d).lt w hd x hx;simp;omega) W (by simp)).mono ?_
 rintro r w1 ⟨rfl,jo,r1,f1,o1⟩
 rw [qnA0] at r1
 refine ⟨rfl,(UE r1 (by omega)).mono ?_⟩
 rintro r w2 ⟨s,rfl,hs,f2,_⟩
 refine ⟨s,rfl,_,qD hs.rd,rfl,?_⟩
 exact (f0.trans f1 λx hx hm=>by simp at hm;omega).Ab f2
theorem CK {a b:Nat} (ha:a<256) (hb:b<256) (h:UInt8.ofNat a=UInt8.ofNat b):a=b:=by
 have:=congrArg UInt8.toNat h
 simp at this
 omega
theorem u0:∀(n m:Nat) (r s:List UInt8),q0 n++r=q0 m++s->n=m/\r=s:=by
 intro n
 induction n using Nat.strongRecOn with
 |_ n ih=>
  intro m r s h
  by_cases hn:n<128<;>by_cases hm:m<128
  .rw [k8 hn,k8 hm] at h
   simp only [qcA,qnA0,List.cons.injEq] at h
   exact ⟨CK (by omega) (by omega) h.1,h.2⟩
  .rw [k8 hn,mF hm] at h
   simp only [qcA,qnA0,List.cons.injEq] at h
   have:=CK (by omega) (by omega) h.1
   omega
  .rw [mF hn,k8 hm] at h
   simp only [qcA,qnA0,List.cons.injEq] at h
   have:=CK (by omega) (by omega) h.1
   omega
  .rw [mF hn,mF hm] at h
   simp only [qcA,List.cons.injEq] at h
   have h1:=CK (by omega) (by omega) h.1
   have h2:=ih (n / 128) (by omega) _ _ _ h.2
   exact ⟨by omega,h2.2⟩
theorem UH {a b:Int} (h:zz a=zz b):a=b:=by
 unfold zz at h
 split at h<;>split at h<;>omega
theorem pJ {n m:Int} {r s:List UInt8} (h:tY n++r=tY m++s):n=m/\r=s:=by
 have:=u0 _ _ _ _ h
 exact ⟨UH this.1,this.2⟩
theorem A1:∀{a b:List Int} {r s:List UInt8},a.length=b.length->a.flatMap tY++r=b.flatMap tY++s->a=b/\r=s
 |[],[],_,_,_,h=>⟨rfl,h⟩
 |[],_::_,_,_,hl,_=>by simp at hl
 |_::_,[],_,_,hl,_=>by simp at hl
 |x::a,y::b,r,s,hl,h=>by
  simp only [List.flatMap_cons,qaA] at h
  obtain ⟨h1,h2⟩:=pJ h
  obtain ⟨h3,h4⟩:=A1 (a:=a) (b:=b) (by simpa using hl) h2
  exact ⟨by rw [h1,h3],h4⟩
theorem LQ {a b:List Int} {r s:List UInt8} (h:Aj a++r=Aj b++s):a=b/\r=s:=by
 unfold Aj at h
 simp only [qaA] at h
 obtain ⟨h1,h2⟩:=u0 _ _ _ _ h
 exact A1 h1 h2
theorem LR {a b:List UInt8} {r s:List UInt8} (h:DI a++r=DI b++s):a=b/\r=s:=by
 unfold DI at h
 simp only [qaA] at h
 obtain ⟨h1,h2⟩:=u0 _ _ _ _ h
 exact List.append_inj h2 h1
theorem JX {n m:Nx} (hn:0<=n.u) (hm:0<=m.u) (h:vq n=vq m):n=m:=by
 unfold vq at h
 obtain ⟨h1,h⟩:=pJ h
 obtain ⟨h2,h⟩:=LQ h
 obtain ⟨h3,h⟩:=pJ h
 obtain ⟨h4,h⟩:=pJ h
 obtain ⟨h5,h⟩:=u0 _ _ _ _ h
 obtain ⟨h6,h⟩:=LR h
 obtain ⟨h7,h⟩:=pJ h
 obtain ⟨h8,h⟩:=pJ h
 have h9:=(pJ (r:=[]) (s:=[]) (by simpa using h)).1
 have u5:n.u=m.u:=by omega
 have u6:n.tx=m.tx:=by
  have:=congrArg ba h6
  rwa [AK,AK] at this
 obtain ⟨a1,a2,a3,a4,a5,a6,⟨a7,a8,a9⟩⟩:=n
 obtain ⟨b1,b2,b3,b4,b5,b6,⟨b7,b8,b9⟩⟩:=m
 simp only at h1 h2 h3 h4 u5 u6 h7 h8 h9
 clear h5 h6
 subst h1 h2 h3 h4 u5 u6 h7 h8 h9
 rfl
def vk (n:Nx):ByteArray:=ba (vq n)
theorem MB {n m:Nx} (hn:0<=n.u) (hm:0<=m.u) (h:vk n=vk m):n=m:=by
 refine JX hn hm ?_
 have:=congrArg bl h
 unfold vk at this
 rwa [yq,yq] at this
def nc (es:Array MapEntry) (ms:List (ByteArray×Value)):Prop:=es.toList.map (λe=>(e.key,e.val))=ms.map λp=>(Value.string p.1,p.2)
def uq (ms:List (ByteArray×Value)) (k:ByteArray):Option Value:=(ms.find? λp=>decide (p.1=k)).map (·.2)
theorem Oj (a b:ByteArray):(a==b)=decide (b=a):=by
 cases h:decide (b=a) with
 |true=>rw [of_decide_eq_true h];exact (Go.MapKept.bytes_beq _ _).2 rfl
 |false=>
  cases hc:(a==b) with
  |false=>rfl
  |true=>exact absurd ((Go.MapKept.bytes_beq _ _).1 hc).symm (of_decide_eq_false h)
theorem sA {k:ByteArray}:∀{es:List MapEntry} {ms:List (ByteArray×Value)} {i:Nat},es.map (λe=>(e.key,e.val))=ms.map (λp=>(Value.string p.1,p.2))->
  Instr.findNow .string (.string k) es i=some ((ms.findIdx? λp=>decide (p.1=k)).bind λj=>(ms[j]?).map λp=>(i+j,p.2))
 |[],[],i,_=>rfl
 |[],_::_,_,h=>by simp at h
 |_::_,[],_,h=>by simp at h
 |e::es,p::ms,i,h=>by
  simp only [List.map_cons,List.cons.injEq,Prod.mk.injEq] at h
  obtain ⟨⟨h1,h2⟩,h3⟩:=h
  have ih:=sA (k:=k) (i:=i+1) h3
  unfold Instr.findNow
  simp only [h1,Instr.sameNow,Oj]
  by_cases hk:p.1=k
  .have e2:decide (p.1=k)=true:=decide_eq_true hk
   simp [List.findIdx?_cons,hk,h2]
  .have e2:decide (p.1=k)=false:=decide_eq_false hk
   simp only [ih,List.findIdx?_cons,e2,Bool.false_eq_true,if_false]
   congr 1
   cases hf:ms.findIdx? (λp=>decide (p.1=k)) with
   |none=>simp
   |some j=>simp [Nat.add_assoc,Nat.add_comm 1 j]
theorem EO {ms:List (ByteArray×Value)} {k:ByteArray} {i:Nat}:(((ms.findIdx? λp=>decide (p.1=k)).bind λj=>(ms[j]?).map λp=>(i+j,p.2)).map (·.2))=uq ms k:=by
 unfold uq
 induction ms generalizing i with
 |nil=>rfl
 |cons p ms ih=>
  by_cases hk:p.1=k
  .simp [List.findIdx?_cons,hk]
  .have e2:decide (p.1=k)=false:=decide_eq_false hk
   simp only [List.findIdx?_cons,e2,Bool.false_eq_true,if_false,List.find?_cons]
   rw [<-ih (i:=i+1)]
   cases hf:ms.findIdx? (λp=>decide (p.1=k)) with
   |none=>simp
   |some j=>simp [Function.comp_def]
structure BF (P:Program) (T kt et:TypeId) (z:Value):Prop where
 hT:P.underlying T=some (.map kt et)
 hk:P.underlying kt=some .string
 hz:(P.info? et).map (·.zero)=some (some z)
theorem uR {P:Program} {kt:TypeId} (hk:P.underlying kt=some .string) (b:Bool) (k:ByteArray) (w:World):(Instr.checkKey b 10000 kt (.string k)).run P w=.ok () w:=by
 unfold Instr.checkKey
 simp [run_underlying hk]
theorem zb {P:Program} {T kt et:TypeId} {z:Value} (mo:BF P T kt et z) {w:World} {mb:Nat} {es:Array MapEntry} {clock:Nat} {ms:List (ByteArray×Value)}
  (hm:w.heap[mb]? =some (.map es clock)) (vU:nc es ms) (k:ByteArray):
  (Instr.lookup T (.map (some mb)) (.string k) true).run P w=.ok (.tuple #[(uq ms k).getD z,.bool (uq ms k).isSome]) w:=by
 have hf:=sA (k:=k) (i:=0) vU
 have hg:(getObj mb).run P w=.ok (.map es clock) w:=by simp [getObj,Sem.run,hm]
 have An:=EO (ms:=ms) (k:=k) (i:=0)
 unfold Instr.lookup Instr.findKey
 simp only [Sem.run_bind,run_underlying mo.hT,Result.andThen_ok,hg,Sem.run_pure,uR mo.hk,run_underlying mo.hk,hf]
 cases hr:((ms.findIdx? λp=>decide (p.1=k)).bind λj=>(ms[j]?).map λp=>(0+j,p.2)) with
 |none=>rw [hr] at An;simp [<-An,tM mo.hz]
 |some q=>rw [hr] at An;simp [<-An]
theorem zP {P:Program} {T kt et:TypeId} {z:Value} (mo:BF P T kt et z) {w:World} {mb:Nat} {es:Array MapEntry} {clock:Nat} {ms:List (ByteArray×Value)}
  (hm:w.heap[mb]? =some (.map es clock)) (vU:nc es ms) (k:ByteArray) (v:Value) (wx:uq ms k=none):
  ∃w' HL,(Instr.mapUpdate T (.map (some mb)) (.string k) v).run P w=.ok () w'/\w'.heap[mb]? =some (.map HL (clock+1))/\nc HL (ms++[(k,v)])/\Fr (λb=>b=mb) w w'/\w'.heap.size=w.heap.size:=by
 have hf:=sA (k:=k) (i:=0) vU
 have hg:(getObj mb).run P w=.ok (.map es clock) w:=by simp [getObj,Sem.run,hm]
 have An:=EO (ms:=ms) (k:=k) (i:=0)
 have l6:=gg hm
 have hr:((ms.findIdx? λp=>decide (p.1=k)).bind λj=>(ms[j]?).map λp=>(0+j,p.2))=none:=by
  rw [wx] at An;simpa using An
 refine ⟨{w with heap:=w.heap.setIfInBounds mb (.map (es.push {key:=.string k,val:=v,born:=clock}) (clock+1))},es.push {key:=.string k,val:=v,born:=clock},?_,by simp [l6],?_,Fr.setObj w mb _ rfl,by simp⟩
 .unfold Instr.mapUpdate Instr.findKey
  simp only [Sem.run_bind,run_underlying mo.hT,Result.andThen_ok,hg,uR mo.hk,run_underlying mo.hk,hf,hr]
  simp [setObj,Sem.run,hm]
 .unfold nc at vU ⊢
  simp [vU]
def ja:List Nx->Nat->List (ByteArray×Value)
 |[],_=>[]
 |d::g,i=>(vk d,.i (i:Int))::ja g (i+1)
theorem xu (n:Nx):∀(g:List Nx) (i:Nat),ja (g++[n]) i=ja g i++[(vk n,.i ((i+g.length:Nat):Int))]
 |[],i=>by simp [ja]
 |d::g,i=>by
  have:=xu n g (i+1)
  simp only [qcA,ja,this,List.length_cons]
  rw [show i+1+g.length=i+(g.length+1) by omega]
theorem uk {n:Nx} (hn:0<=n.u):∀{g:List Nx} {i:Nat},(∀d∈g,0<=d.u)->uq (ja g i) (vk n)=(mg n g i).map λk:Nat=>.i (k:Int)
 |[],i,_=>rfl
 |d::g,i,h=>by
  have ih:=uk hn (g:=g) (i:=i+1) λe he=>h e (by simp [he])
  unfold uq at ih ⊢
  unfold ja mg
  by_cases hd:d=n
  .subst hd
   simp
  .have hk:¬vk d=vk n:=λe=>hd (MB (h d (by simp)) hn e)
   rw [if_neg hd,List.find?_cons]
   simp only [decide_eq_false hk]
   exact ih
def nK:List Nx->List (ByteArray×Value)
 |[]=>[]
 |d::g=>if d.op=0 then (d.tx,kj d.st)::nK g else nK g
theorem zQ (n:Nx):∀(g:List Nx),nK (g++[n])=nK g++(if n.op=0 then [(n.tx,kj n.st)] else [])
 |[]=>by
  unfold nK
  simp only [qnA0,nK]
 |d::g=>by
  have:=zQ n g
  simp only [qcA,nK,this]
  split<;>simp
theorem wU (t:ByteArray):∀(g:List Nx),uq (nK g) t=(nW g t).map kj
 |[]=>rfl
 |d::g=>by
  have ih:=wU t g
  unfold uq at ih ⊢
  unfold nK nW
  by_cases h0:d.op=0
  .rw [if_pos h0,List.find?_cons]
   by_cases ht:d.tx=t
   .rw [if_pos ⟨h0,ht⟩]
    simp [ht]
   .rw [if_neg (λh=>ht h.2)]
    simp only [decide_eq_false ht]
    exact ih
  .rw [if_neg h0,if_neg (λh=>h0 h.1)]
   exact ih
abbrev Kt (bb:Nat) (s:Sl) (mp mv:Nat) (l:List Nd) (u7:Array MapEntry) (c1:Nat) (tZ:Array MapEntry) (c2:Nat):List En:=
 [.c bb [s.v,.map (some mp),.map (some mv)] gY,.row aG 9 s (l.flatMap Nd.c),.ob mp (.map u7 c1),.ob mv (.map tZ c2)]
def m9 (w:World) (bb:Nat) (l:List Nd) (own:List Nat):Prop:=∃(s:Sl) (mp mv:Nat) (u7:Array MapEntry) (c1:Nat) (tZ:Array MapEntry) (c2:Nat),own=(Kt bb s mp mv l u7 c1 tZ c2).flatMap (·.fp)/\own.Nodup/\(∀e∈Kt bb s mp mv l u7 c1 tZ c2,e.P w)/\nc u7 (ja (xs l) 0)/\nc tZ (nK (xs l))
def I9 (w:World) (bb:Nat) (own:List Nat) (l:List Nd) (w':World):Prop:=∃jo,m9 w' bb l jo/\Fr (·∈own) w w'/\∀x∈jo,x∈own\/w.heap.size<=x
theorem m9.open {w:World} {bb:Nat} {l:List Nd} {own:List Nat} (h:m9 w bb l own) (D:List En) (hD:∀e∈D,e.P w/\∀b∈e.fp,b∉own):
  ∃(s:Sl) (mp mv:Nat) (u7:Array MapEntry) (c1:Nat) (tZ:Array MapEntry) (c2:Nat),nc u7 (ja (xs l) 0)/\nc tZ (nK (xs l))/\LH (·∈own) w w (Kt bb s mp mv l u7 c1 tZ c2) D:=by
 obtain ⟨s,mp,mv,u7,c1,tZ,c2,ho,hn,hP,h1,h2⟩:=h
 have vf:∀e∈Kt bb s mp mv l u7 c1 tZ c2,∀b∈e.fp,b∈own:=λe he b hb=>by rw [ho];exact mY.2 ⟨e,he,hb⟩
 exact ⟨s,mp,mv,u7,c1,tZ,c2,h1,h2,LH.zD _ _ (λe he=>⟨hP e he,vf e he⟩) (ho▸hn) (λe he=>⟨(hD e he).1,λb hb e' mI hm=>(hD e he).2 b hb (vf e' mI b hm)⟩)⟩
theorem m9.close {w w':World} {bb:Nat} {l:List Nd} {own:List Nat} {s:Sl} {mp mv:Nat} {u7:Array MapEntry} {c1:Nat} {tZ:Array MapEntry} {c2:Nat} {D:List En} (H:LH (·∈own) w w' (Kt bb s mp mv l u7 c1 tZ c2) D) (h1:nc u7 (ja (xs l) 0)) (h2:nc tZ (nK (xs l))):I9 w bb own l w':=
 ⟨_,⟨s,mp,mv,u7,c1,tZ,c2,rfl,H.nd,H.own,h1,h2⟩,H.fr,λx hx=>by
  obtain ⟨e,he,hb⟩:=mY.1 hx
  exact (H.new e he x hb).symm⟩
theorem zc:BF Tryz.prog nI cI bW (.int .i64 0):=⟨by kernel_rfl,by kernel_rfl,by kernel_rfl⟩
theorem Em:BF Tryz.prog km cI aR (.agg #[.int .i64 0,.int .i64 0,.int .i64 0]):=⟨by kernel_rfl,by kernel_rfl,by kernel_rfl⟩
def _root_.Go.W.En.cl (p:Addr) (v:Value):En:=⟨[p.block],λw=>w.cell? p=some v,λw w' h hp=>by
 have hl:=oY hp
 unfold World.cell? at hp ⊢
 rw [h p.block (by simp) hl]
 exact hp,λw hp b hb=>by simp at hb;subst hb;exact oY hp,by simp⟩
theorem look_eq {l:List Nd} (t:ByteArray):∃(a b c:Int) (y:Bool),((uq (nK (xs l)) t).getD (.agg #[.int .i64 0,.int .i64 0,.int .i64 0]))=.agg #[.i a,.i b,.i c]/\(uq (nK (xs l)) t).isSome=y/\sJ (xs l) t=.returned (.tuple #[.agg #[.i a,.i b,.i c],.bool y]):=by
 rw [wU]
 unfold sJ
 cases nW (xs l) t with
 |none=>exact ⟨0,0,0,false,rfl,rfl,rfl⟩
 |some s=>exact ⟨s.k,s.n,s.x,true,rfl,rfl,rfl⟩
theorem SQ {w:World} {bb:Nat} {l:List Nd} {s:Sl} {mp mv:Nat} {u7:Array MapEntry} {c1:Nat} {tZ:Array MapEntry} {c2:Nat} {t1:Addr} (h:∀e∈Kt bb s mp mv l u7 c1 tZ c2,e.P w) (h2:nc tZ (nK (xs l))) (ht:w.cell? t1=some (.pointer (some (bF bb)))) (t:ByteArray):
  Calls Tryz.prog gT #[.string t,.pointer (some t1)] w λr w'=>r=sJ (xs l) t/\bI w w':=by
 have H:LH F0 w w [] (Kt bb s mp mv l u7 c1 tZ c2++[.cl t1 (.pointer (some (bF bb)))]):=mu _ (by
  intro e he
  rcases List.mem_append.1 he with he|he
  .exact h e he
  .simp only [cU,qnM,or_false] at he
   subst he
   exact ht)
 obtain ⟨a,b,c,y,e1,e2,e3⟩:=look_eq (l:=l) t
 refine term_builder_sortOf_1.cV t t1 w _ (H.bJ λb3 w1 H1=>⟨_,H1.getD 4,yc ⟨some mv,cellAt (p:=bF bb) (H1.getD 0) rfl rfl,a,b,c,y,?_,H1.bJ λb5 w2 H2=>H2.aK λw3 H3=>⟨e3.symm,H3.fr⟩⟩⟩)
 rw [zb Em (H1.getD 3) h2 t,e1,e2]
theorem K8 {w:World} {bb:Nat} {l:List Nd} {own:List Nat} {d:Nd} (h:m9 w bb l own) (Mq:∀e∈l,e.P w) (hd:d.P w) (hk:vV.P w) (ho:Hp d.x) (xM:l.length<=1000000000) (hv:∀e∈xs l,bO e.st=true):
  Calls Tryz.prog kH #[.pointer (some (bF bb)),d.v] w λr w'=>r=ky (eI (xs l) d.x)/\bI w w':=by
 obtain ⟨s,mp,mv,u7,c1,tZ,c2,_,_,hP,_,h2⟩:=h
 have jN:aP w aG 9 s (l.flatMap Nd.c):=hP _ (cZ (i:=1) rfl)
 have H:LH F0 w w [] (Kt bb s mp mv l u7 c1 tZ c2++[.gr s l,gv d,vV]):=mu _ (by
  intro e he
  rcases List.mem_append.1 he with he|he
  .exact hP e he
  .simp only [cU,qnM,or_false] at he
   rcases he with rfl|rfl|rfl
   .exact cH.2 ⟨jN.jh,Mq⟩
   .exact hd
   .exact hk)
 refine term_builder_sortOf.cV _ _ _ _ _ _ _ _ _ _ w _ (H.nw λw1 _ H1=>H1.bJ λb3 w2 H2=>H2.bJ λb4 w3 H3=>H3.aK λw4 H4=>⟨_,H4.GB 0,yc ⟨s,cellAt (p:=bF bb) (H4.getD 0) rfl rfl,?_⟩⟩)
 have Hs:LH F0 w4 w4 [] (.gr s l::gv d::vV::(Kt bb s mp mv l u7 c1 tZ c2++[.cl (bF w.heap.size) (.pointer (some (bF bb)))])):=mu _ (by
  intro e he
  simp only [qcA,qnA0,cU,qnM,or_false] at he
  rcases he with rfl|rfl|rfl|rfl|rfl|rfl|rfl|rfl
  .exact H4.getD 4
  .exact H4.getD 5
  .exact H4.getD 6
  .exact H4.getD 0
  .exact H4.getD 1
  .exact H4.getD 2
  .exact H4.getD 3
  .exact H4.GB 0)
 refine H4.aJ (E5 ⟨gT,#[],#[.pointer (some (bF w.heap.size))]⟩ Hs (by kernel_rfl) (λw' As=>?_) ho xM hv) ?_
 .exact SQ (λe he=>As e (List.mem_append_left _ he)) h2 (As (.cl (bF w.heap.size) (.pointer (some (bF bb)))) (by simp)) d.x.tx
 .rintro _ w5 rfl H5
  exact ⟨_,_,_,_,rfl,H5.aK λw6 H6=>⟨rfl,H6.fr⟩⟩
def vb (g:List Nx) (n:Nx):Int×Bool:=match mg n g 0 with
 |some i=>((i:Int),true)
 |none=>(0,false)
theorem find_eq {g:List Nx} {n:Nx} (hn:0<=n.u) (hu:∀e∈g,0<=e.u):(uq (ja g 0) (vk n)).getD (.int .i64 0)=.i (vb g n).1/\(uq (ja g 0) (vk n)).isSome=(vb g n).2:=by
 rw [uk hn hu]
 unfold vb
 cases mg n g 0 with
 |none=>exact ⟨rfl,rfl⟩
 |some i=>exact ⟨rfl,rfl⟩
theorem SP {w:World} {bb:Nat} {l:List Nd} {own:List Nat} {d:Nd} (h:m9 w bb l own) (hd:d.P w) (W:NW d.x) (hu:∀e∈xs l,0<=e.u):
  Calls Tryz.prog lY #[.pointer (some (bF bb)),d.v] w λr w'=>r=.returned (.tuple #[.i (vb (xs l) d.x).1,.bool (vb (xs l) d.x).2])/\bI w w':=by
 obtain ⟨s,mp,mv,u7,c1,tZ,c2,_,_,hP,h1,_⟩:=h
 have H:LH F0 w w [] (Kt bb s mp mv l u7 c1 tZ c2++[gv d]):=mu _ (by
  intro e he
  rcases List.mem_append.1 he with he|he
  .exact hP e he
  .simp only [cU,qnM,or_false] at he
   subst he
   exact hd)
 refine term_builder_find.ok _ _ _ _ _ _ _ _ _ _ w _ (H.nw λw1 _ H1=>H1.dr λw2 H2=>⟨some mp,cellAt (p:=bF bb) (H2.getD 0) rfl rfl,H2.call (IY (d:=d) (zf (H2.ob 0)) (H2.getD 4) W) ?_⟩)
 rintro _ w3 rfl H3
 obtain ⟨e1,e2⟩:=find_eq W.u.1 hu
 refine ⟨_,rfl,cellAt (p:=bF bb) (H3.getD 0) rfl rfl,(vb (xs l) d.x).1,(vb (xs l) d.x).2,?_,rfl,H3.fr⟩
 have:=zb zc (H3.getD 2) h1 (vk d.x)
 rw [e1,e2] at this
 exact this
theorem QT {w:World} {bb:Nat} {l:List Nd} {own:List Nat} {d:Nd} (h:m9 w bb l own) (hd:d.P w) (hdo:∀b∈(gv d).fp,b∉own) (W:NW d.x) (hu:∀e∈xs l,0<=e.u) (hl:l.length<=100000) (wx:d.x∉xs l) (ZU:d.x.op=0->nW (xs l) d.x.tx=none):
  Calls Tryz.prog ke #[.pointer (some (bF bb)),d.v] w λr w'=>r=.returned (.i (l.length:Int))/\I9 w bb own (l++[d]) w':=by
 obtain ⟨s,mp,mv,u7,c1,tZ,c2,h1,h2,H⟩:=h.open [gv d] (by
  intro e he
  simp only [cU,qnM,or_false] at he
  subst he
  exact ⟨hd,hdo⟩)
 have hn:s.n=l.length:=Nd.cC (show jO 9 w s (l.flatMap Nd.c) from (show aP w aG 9 s (l.flatMap Nd.c) from H.get 1).jh)
 have g1:uq (ja (xs l) 0) (vk d.x)=none:=by
  rw [uk W.u.1 hu]
  cases hi:mg d.x (xs l) 0 with
  |none=>rfl
  |some i=>
   have:=(sG hi).2
   exact absurd (cZ this) wx
 have exs:xs (l++[d])=xs l++[d.x]:=by simp [xs]
 have p1:ja (xs (l++[d])) 0=ja (xs l) 0++[(vk d.x,.i (l.length:Int))]:=by rw [exs,xu];simp [xs]
 have p2:nK (xs (l++[d]))=nK (xs l)++(if d.x.op=0 then [(d.x.tx,kj d.x.st)] else []):=by rw [exs,zQ]
 have S0:∀(OH:Array MapEntry) (Yx:Nat) (Gc:Array MapEntry) (Yy Z8:Nat) (w1:World),nc OH (ja (xs (l++[d])) 0)->nc Gc (nK (xs (l++[d])))->LH (·∈own) w w1 (Kt bb s mp mv l OH Yx Gc Yy++[.c Z8 d.c aG]) [gv d]->
   term_builder_put.S0 (bF bb) (bF Z8) w1 λr w'=>r=.returned (.i (l.length:Int))/\I9 w bb own (l++[d]) w':=by
  intro OH Yx Gc Yy Z8 w1 q1 q2 H1
  refine H1.dr λw2 H2=>⟨s,H2.ld 0 0,?_⟩
  refine ⟨d.x.op,d.ks,d.x.n,d.x.m,d.x.u,d.x.tx,d.x.st.k,d.x.st.n,d.x.st.x,H2.ld 4 0,H2.ld 4 1,H2.ld 4 2,H2.ld 4 3,H2.ld 4 4,H2.ld 4 5,H2.ld 4 6,H2.ld 4 7,H2.ld 4 8,H2.nw λw3 _ H3=>⟨H3.ld 0 0,?_⟩⟩
  have D8:jO 9 w3 ⟨some (bF w2.heap.size),1,1⟩ ([d].flatMap Nd.c):=by
   rw [show [d].flatMap Nd.c=d.c by simp]
   exact xW (T:=aG) (H3.ob 5) rfl
  refine H3.ap 1 nh (src:=⟨some (bF w2.heap.size),1,1⟩) rfl D8.2.2 D8.1 sL (by simp only;omega) (λs' w4 H4 Wl _=>H4.st 0 0 rfl (λw5 H5=>⟨s',H5.ld 0 0,?_⟩))
  refine ⟨?_,m9.close (s:=s') (mp:=mp) (mv:=mv) (u7:=OH) (c1:=Yx) (tZ:=Gc) (c2:=Yy) (D:=[gv d]) ?_ q1 q2⟩
  .rw [Wl,IntWalk.i64_in _ (by simp only;omega)]
   simp only
   rw [hn]
   congr 2
   omega
  .have:=H5.take 4
   unfold Kt
   rw [show (l++[d]).flatMap Nd.c=l.flatMap Nd.c++[d].flatMap Nd.c from List.flatMap_append]
   exact this
 refine term_builder_put.ok _ _ _ _ _ _ _ _ _ _ w _ (H.nw λw1 _ H1=>H1.dr λw2 H2=>⟨some mp,H2.ld 0 1,s,H2.ld 0 0,H2.call (IY (d:=d) (zf (H2.ob 4)) (H2.getD 0) W) ?_⟩)
 rintro _ w3 rfl H3
 obtain ⟨w4,HL,u1,u2,u3,u4,_⟩:=zP zc (H3.ob 2) h1 (vk d.x) (.i ((s.n:Nat):Int)) g1
 have H4:=H3.CZ 2 (.ob mp (.map HL (c1+1))) rfl (u4.mono λx _ e=>by simp [En.ob,e]) u2 (λb hb=>.inl hb)
 have q1:nc HL (ja (xs (l++[d])) 0):=by rw [p1,<-hn];exact u3
 refine ⟨_,rfl,H3.ld 0 0,H3.ld 0 1,w4,u1,d.x.op,H4.ld 4 0,aH (λh0=>?_) (λh0=>?_)⟩
 .refine H4.dr λw5 H5=>⟨some mv,H5.ld 0 2,d.x.tx,H5.ld 4 5,?_⟩
  have g2:uq (nK (xs l)) d.x.tx=none:=by rw [wU,ZU h0];rfl
  obtain ⟨w6,Gc,v1,v2,v3,v4,_⟩:=zP Em (H5.ob 3) h2 d.x.tx (kj d.x.st) g2
  have H6:=H5.CZ 3 (.ob mv (.map Gc (c2+1))) rfl (v4.mono λx _ e=>by simp [En.ob,e]) v2 (λb hb=>.inl hb)
  have a:=zf (d:=d) (H5.ob 4)
  refine ⟨d.x.st.k,d.x.st.n,d.x.st.x,a.s0,a.s1,a.s2,w6,v1,S0 HL (c1+1) Gc (c2+1) w.heap.size w6 q1 ?_ H6⟩
  rw [p2,if_pos h0]
  exact v3
 .refine S0 HL (c1+1) tZ c2 w.heap.size w4 q1 ?_ H4
  rw [p2,if_neg h0,List.append_nil]
  exact h2
theorem m9.st {w w':World} {bb:Nat} {l:List Nd} {own:List Nat} (h:m9 w bb l own) (k:∀b∈own,b<w.heap.size->w'.heap[b]? =w.heap[b]?):m9 w' bb l own:=by
 obtain ⟨s,mp,mv,u7,c1,tZ,c2,ho,hn,hP,h1,h2⟩:=h
 exact ⟨s,mp,mv,u7,c1,tZ,c2,ho,hn,λe he=>e.st w w' (λb hb hl=>k b (by rw [ho];exact mY.2 ⟨e,he,hb⟩) hl) (hP e he),h1,h2⟩
theorem m9.lt {w:World} {bb:Nat} {l:List Nd} {own:List Nat} (h:m9 w bb l own):∀b∈own,b<w.heap.size:=by
 obtain ⟨s,mp,mv,u7,c1,tZ,c2,ho,hn,hP,h1,h2⟩:=h
 intro b hb
 rw [ho] at hb
 obtain ⟨e,he,hb⟩:=mY.1 hb
 exact e.lt w (hP e he) b hb
def _root_.Go.W.En.bu (bb:Nat) (own:List Nat) (l:List Nd):En:=⟨Is own,λw=>m9 w bb l own,λw w' h hp=>hp.st λb hb=>h b (aI.2 hb),λw hp b hb=>hp.lt b (aI.1 hb),mU _⟩
theorem SU (w:World) (bb:Nat) (own:List Nat) (l:List Nd) (b:Nat):¬(En.bu bb own l).P ({w with heap:=Array.replicate (b+1) (.map #[] 0)}):=by
 rintro ⟨s,mp,mv,u7,c1,tZ,c2,ho,hn,hP,h1,h2⟩
 have h:=hP _ (cZ (i:=0) rfl)
 exact HC w bb _ gY b h
section
variable {M:Nat->Prop} {w0 w:World} {L D:List En} {bs:List Nat}
theorem _root_.Go.W.LH.buG (H:LH M w0 w L D) (i:Nat) {bb:Nat} {own:List Nat} {l l':List Nd} {w':World} (hi:L[i]? =some (.bu bb own l)) (h:I9 w bb own l' w'):∃jo,LH M w0 w' (L.set i (.bu bb jo l')) D/\m9 w' bb l' jo:=by
 obtain ⟨jo,r,f,o⟩:=h
 exact ⟨jo,H.CZ i (.bu bb jo l') hi (f.mono λx _ hx=>aI.2 hx) r (λb hb=>(o b (aI.1 hb)).imp aI.2 id),r⟩
theorem _root_.Go.W.LH.buC (H:LH M w0 w L D) (i:Nat) {bb:Nat} {own:List Nat} {l l':List Nd} {P:Program} {g:FuncId} {args:Array Value} {A:Ending->Prop} {K:aD} (hi:L[i]? =some (.bu bb own l)) (hc:Calls P g args w λr w'=>A r/\I9 w bb own l' w')
  (hk:∀r w' jo,A r->LH M w0 w' (L.set i (.bu bb jo l')) D->K r w') (jf:∀b∈bs,En.g b∈L:=by simp):fV bs P g args w K:=
 ⟨(·∈own),λb hb hm=>pw H hi (SU w bb own l) (jf b hb) (aI.2 hm),hc.mono λr w' ⟨ha,h⟩=>by
  obtain ⟨_,_,f,_⟩:=id h
  obtain ⟨jo,H',_⟩:=H.buG i hi h
  exact ⟨f,hk r w' jo ha H'⟩⟩
end
theorem m9.nil (w:World):I9 w (w.heap.size+2) [] [] ((((w.alloc (.map #[] 0)).alloc (.map #[] 0)).alloc (.cells #[.slice none 0 0,.map (some w.heap.size),.map (some (w.heap.size+1))] gY))):=by
 have s1:(w.alloc (.map #[] 0)).heap.size=w.heap.size+1:=size_alloc _ _
 have s2:((w.alloc (.map #[] 0)).alloc (.map #[] 0)).heap.size=w.heap.size+2:=by rw [size_alloc,s1]
 have m1:(w.alloc (.map #[] 0)).heap[w.heap.size]? =some (.map #[] 0):=nk w _
 have m1':=(Fr.alloc F0 (w.alloc (.map #[] 0)) (.map #[] 0)).at m1 id
 have m2:=nk (w.alloc (.map #[] 0)) (.map #[] 0)
 rw [s1] at m2
 have f3:=Fr.alloc F0 ((w.alloc (.map #[] 0)).alloc (.map #[] 0)) (.cells #[.slice none 0 0,.map (some w.heap.size),.map (some (w.heap.size+1))] gY)
 have c:=nk ((w.alloc (.map #[] 0)).alloc (.map #[] 0)) (.cells #[.slice none 0 0,.map (some w.heap.size),.map (some (w.heap.size+1))] gY)
 rw [s2] at c
 have f:bI w (((w.alloc (.map #[] 0)).alloc (.map #[] 0)).alloc (.cells #[.slice none 0 0,.map (some w.heap.size),.map (some (w.heap.size+1))] gY)):=((Fr.alloc F0 w _).Ab (Fr.alloc F0 _ _)).Ab f3
 refine ⟨_,⟨⟨none,0,0⟩,w.heap.size,w.heap.size+1,#[],0,#[],0,rfl,?_,λe he=>?_,rfl,rfl⟩,f.of0,λx hx=>?_⟩
 .show ([w.heap.size+2]++([]++([w.heap.size]++([w.heap.size+1]++[])))).Nodup
  simp
 .simp only [cU,qnM,or_false] at he
  rcases he with rfl|rfl|rfl|rfl
  .exact c
  .exact aP.nil _ _ _
  .exact f3.at m1' id
  .exact f3.at m2 id
 .have hx:x∈[w.heap.size+2]++([]++([w.heap.size]++([w.heap.size+1]++[]))):=hx
  simp at hx
  right
  omega
theorem CL {g:List Nx} (h:Vg g):∀i d,g[i]? =some d->d∉g.take i:=by
 induction h with
 |nil=>intro i d hd;simp at hd
 |@snoc g n hg hs hn ih=>
  intro i d hd
  rcases Nat.lt_or_ge i g.length with hi|hi
  .rw [List.getElem?_append_left hi] at hd
   rw [List.take_append_of_le_length (by omega)]
   exact ih i d hd
  .rw [List.getElem?_append_right hi] at hd
   have:i - g.length=0:=by
    have:=(List.getElem?_eq_some_iff.1 hd).1
    simp at this
    omega
   rw [this] at hd
   simp at hd
   subst hd
   rw [show i=g.length by omega,List.take_left]
   exact hn
theorem NQ {g:List Nx} (h:Vg g) {i:Nat} {d:Nx} (hd:g[i]? =some d) (h0:d.op=0):nW (g.take i) d.tx=none:=by
 cases hv:nW (g.take i) d.tx with
 |none=>rfl
 |some s=>
  obtain ⟨e,he,e0,et,_⟩:=vO hv
  obtain ⟨j,hj⟩:=List.mem_iff_getElem?.1 (IA he)
  have Fw:=h.vars e (IA he) e0 d (cZ hd) h0 et
  have:=var_eq (h.sok j e hj) (h.sok i d hd) e0 h0 et Fw
  exact absurd (this▸he) (CL h i d hd)
theorem Vs {w:World} {s:Sl} {l:List Nd} (h:GP w s l) (hg:Vg (xs l)) (hW:∀d∈xs l,NW d) (hl:l.length<=100000):
  Calls Tryz.prog nA #[.agg #[s.v]] w λr w'=>(∃bb own,r=.returned (.pointer (some (bF bb)))/\m9 w' bb l own/\∀x∈own,w.heap.size<=x)/\bI w w':=by
 have hn:=mX h
 have H:LH F0 w w [] [.gr s l]:=mu _ (by
  intro e he
  simp only [cU,qnM,or_false] at he
  subst he
  exact cH.2 h)
 have loop:∀(m i b1 bb:Nat) (own:List Nat) (w1:World),i+m=l.length->LH F0 w w1 [.g b1,.bu bb own (l.take i)] [.gr s l]->
   term_newBuilder.eH (bF bb) s ((s.n:Nat):Int) (i:Int) w1 λr w'=>(∃bb own,r=.returned (.pointer (some (bF bb)))/\m9 w' bb l own/\∀x∈own,w.heap.size<=x)/\bI w w':=by
  intro m
  induction m with
  |zero=>
   intro i b1 bb own w1 hi H1
   refine term_newBuilder.bA _ _ _ _ _ _ (aL (decide_eq_false (by omega)) ⟨⟨bb,own,rfl,?_,λx hx=>(H1.new _ (cZ (i:=1) rfl) x (aI.2 hx)).resolve_right id⟩,H1.fr⟩)
   have:=H1.get 1
   rw [List.take_of_length_le (by omega)] at this
   exact this
  |succ m ih=>
   intro i b1 bb own w1 hi H1
   have ga:l[i]? =some (l[i]'(by omega)):=gW (by omega)
   generalize l[i]'(by omega)=d at ga
   refine term_newBuilder.bA _ _ _ _ _ _ (aQ (decide_eq_true (by omega)) (kO (cH.1 (H1.getD 0)) rfl ga λp hp c=>⟨d.x.op,d.ks,d.x.n,d.x.m,d.x.u,d.x.tx,d.x.st.k,d.x.st.n,d.x.st.x,c.c0,c.c1,c.c2,c.c3,c.c4,c.c5,c.c6,c.c7,c.c8,H1.bJ λb5 w2 H2=>H2.aK λw3 H3=>?_⟩))
   have HZ:=cZ ga
   have gx:=s5 ga
   have et:xs (l.take i)=(xs l).take i:=by simp [xs,List.map_take]
   have es:l.take (i+1)=l.take i++[d]:=by rw [qtO,ga];rfl
   refine H3.buC 1 rfl (QT (l:=l.take i) (d:=d) (H3.get 1) ((cH.1 (H3.getD 0)).2 d HZ) (λb hb hm=>H3.dj (.gr s l) (by simp) b (tC.2 (.inr ⟨d,HZ,hb⟩)) (.bu bb own (l.take i)) (by simp) (aI.2 hm)) (hW _ (List.mem_map.2 ⟨d,HZ,rfl⟩)) (λe he=>(hW e (by rw [et] at he;exact IA he)).u.1) (by rw [qlT];omega) (by rw [et];exact CL hg i d.x gx) (λh0=>by rw [et];exact NQ hg gx h0)) ?_
   rintro _ w4 jo rfl H4
   refine ⟨_,rfl,?_⟩
   rw [aY _ (by omega)]
   refine ih (i+1) b1 bb jo w4 (by omega) ?_
   rw [es]
   exact H4.take 2
 refine term_newBuilder.cV s w _ (H.bJ λb1 w1 H1=>?_)
 obtain ⟨own,r,f,o⟩:=m9.nil w1
 have H2:=(H1.fresh (f.mono λx _ hx=>by cases hx)).own (.bu (w1.heap.size+2) own []) r (λb hb=>(o b (aI.1 hb)).resolve_left (by simp))
 have e2:((w1.alloc (.map #[] 0)).alloc (.map #[] 0)).heap.size=w1.heap.size+2:=by rw [size_alloc,size_alloc]
 have:=loop l.length 0 b1 (w1.heap.size+2) own _ (by omega) H2
 have s1:(w1.alloc (.map #[] 0)).heap.size=w1.heap.size+1:=size_alloc _ _
 rw [<-e2,<-s1] at this
 exact this
def CM:List Nx->List Nx->Int
 |_,[]=>0
 |g,n::r=>if (eI g n).2≠0 then (eI g n).2 else if (eI g n).1≠n.st then 9 else if n∈g then 8 else CM (g++[n]) r
theorem BA (g:List Nx) (n:Nx) (r:List Nx):CM g (n::r)=if (eI g n).2≠0 then (eI g n).2 else if (eI g n).1≠n.st then 9 else if n∈g then 8 else CM (g++[n]) r:=rfl
def Hj (g:List Nx):Int:=if 4096<g.length then 4 else CM [] g
theorem LZ {g:List Nx} {n:Nx}:(vb g n).2=decide (n∈g):=by
 unfold vb
 cases hi:mg n g 0 with
 |none=>exact (decide_eq_false (yZ hi)).symm
 |some i=>exact (decide_eq_true (cZ (sG hi).2)).symm
theorem CG {w:World} {s:Sl} {l:List Nd} (h:GP w s l) (hk:vV.P w) (hT:l.length<=4096->∀d∈l,Hp d.x/\NW d.x):
  Calls Tryz.prog ny #[.agg #[s.v]] w λr w'=>r=.returned (.i (Hj (xs l)))/\bI w w':=by
 have hn:=mX h
 have nR:(xs l).length=l.length:=by simp [xs]
 have H:LH F0 w w [] [.gr s l,vV]:=mu _ (by
  intro e he
  simp only [cU,qnM,or_false] at he
  rcases he with rfl|rfl
  .exact cH.2 h
  .exact hk)
 refine term_Valid.cV s w _ (H.bJ λb1 w1 H1=>aM (λMh=>⟨by unfold Hj;rw [if_pos (by omega)],H1.fr⟩) (λMh=>?_))
 have hT:=hT (by omega)
 have Wo:Hj (xs l)=CM [] (xs l):=by unfold Hj;rw [if_neg (by omega)]
 rw [Wo]
 have loop:∀(m i b1 bb:Nat) (own:List Nat) (w1:World),i+m=l.length->Vg ((xs l).take i)->CM ((xs l).take i) ((xs l).drop i)=CM [] (xs l)->LH F0 w w1 [.g b1,.bu bb own (l.take i)] [.gr s l,vV]->
   term_Valid.eH (some (bF bb)) s ((s.n:Nat):Int) (i:Int) w1 λr w'=>r=.returned (.i (CM [] (xs l)))/\bI w w':=by
  intro m
  induction m with
  |zero=>
   intro i b1 bb own w1 hi hg hv H1
   refine term_Valid.bA _ _ _ _ _ _ (aL (decide_eq_false (by omega)) ⟨?_,H1.fr⟩)
   rw [<-hv,List.drop_of_length_le (by omega)]
   rfl
  |succ m ih=>
   intro i b1 bb own w1 hi hg hv H1
   have ga:l[i]? =some (l[i]'(by omega)):=gW (by omega)
   have hx:(xs l).drop i=(l[i]'(by omega)).x::(xs l).drop (i+1):=by
    rw [List.drop_eq_getElem_cons (by omega:i<(xs l).length)]
    simp [xs]
   generalize l[i]'(by omega)=d at ga hx
   have HZ:=cZ ga
   have gx:=s5 ga
   have et:xs (l.take i)=(xs l).take i:=by simp [xs,List.map_take]
   have es:l.take (i+1)=l.take i++[d]:=by rw [qtO,ga];rfl
   have ex:(xs l).take (i+1)=(xs l).take i++[d.x]:=by rw [qtO,gx];rfl
   rw [hx,BA] at hv
   have hu:∀e∈xs (l.take i),0<=e.u:=λe he=>by
    obtain ⟨a,ha,rfl⟩:=List.mem_map.1 he
    exact (hT a (IA ha)).2.u.1
   refine term_Valid.bA _ _ _ _ _ _ (aQ (decide_eq_true (by omega)) (kO (cH.1 (H1.getD 0)) rfl ga λp hp c=>⟨d.x.op,d.ks,d.x.n,d.x.m,d.x.u,d.x.tx,d.x.st.k,d.x.st.n,d.x.st.x,c.c0,c.c1,c.c2,c.c3,c.c4,c.c5,c.c6,c.c7,c.c8,H1.bJ λb5 w2 H2=>H2.aK λw3 H3=>?_⟩))
   refine H3.aJ (K8 (l:=l.take i) (d:=d) (H3.get 1) (λe he=>(cH.1 (H3.getD 0)).2 e (IA he)) ((cH.1 (H3.getD 0)).2 d HZ) (H3.getD 1) (hT d HZ).1 (by rw [qlT];omega) (by rw [et];exact hg.val)) ?_
   rintro _ w4 rfl H4
   rw [et]
   refine ⟨_,_,_,_,rfl,H4.bJ λb6 w5 H5=>eB (λh0=>H5.aK λw6 H6=>⟨by rw [<-hv,if_pos h0],H6.fr⟩) (λh0=>vG (a:=(eI ((xs l).take i) d.x).1) (b:=d.x.st) (λh1=>H5.aK λw6 H6=>⟨by rw [<-hv,if_neg (λh=>h h0),if_pos h1],H6.fr⟩) (λh1=>H5.aK λw6 H6=>?_))⟩
   rw [if_neg (λh=>h h0),if_neg (λh=>h h1)] at hv
   refine H6.aJ (SP (l:=l.take i) (d:=d) (H6.get 1) ((cH.1 (H6.getD 0)).2 d HZ) (hT d HZ).2 hu) ?_
   rintro _ w7 rfl H7
   refine ⟨_,_,rfl,?_⟩
   rw [LZ,et]
   refine aM (λh2=>⟨by rw [<-hv,if_pos h2],H7.fr⟩) (λh2=>?_)
   rw [if_neg h2] at hv
   have lQ:Vg ((xs l).take (i+1)):=by
    rw [ex]
    exact .snoc hg (by rw [<-h1,<-h0]) h2
   have gt:((xs l).take (i+1))[i]? =some d.x:=by rw [List.getElem?_take,if_pos (by omega)];exact gx
   have htt:((xs l).take (i+1)).take i=(xs l).take i:=by rw [List.take_take];congr 1;omega
   refine H7.buC 1 rfl (QT (l:=l.take i) (d:=d) (H7.get 1) ((cH.1 (H7.getD 0)).2 d HZ) (λb hb hm=>H7.dj (.gr s l) (by simp) b (tC.2 (.inr ⟨d,HZ,hb⟩)) (.bu bb own (l.take i)) (by simp) (aI.2 hm)) (hT d HZ).2 hu (by rw [qlT];omega) (by rw [et];exact h2) (λh0=>by rw [et,<-htt];exact NQ lQ gt h0)) ?_
   rintro _ w8 jo rfl H8
   refine ⟨_,rfl,?_⟩
   rw [aY _ (by omega)]
   refine ih (i+1) b1 bb jo w8 (by omega) lQ (by rw [ex];exact hv) ?_
   rw [es]
   exact H8.take 2
 refine H1.sh (Vs (s:=⟨none,0,0⟩) (l:=[]) ⟨jO.nil 9 w1,by simp⟩ .nil (by simp [xs]) (by simp)) ?_
 rintro _ w2 ⟨bb,own,rfl,r,o⟩ _ F2
 have H2:=F2.own (.bu bb own []) r (λb hb=>o b (aI.1 hb))
 exact ⟨_,rfl,loop l.length 0 b1 bb own w2 (by omega) .nil rfl H2⟩
theorem Mg {w:World} {s:Sl} {l:List Nd} (h:GP w s l) (i:Nat) (hi:i<=l.length):GP w (zF 9 s 0 i) (l.take i):=by
 have hn:=mX h
 have h1:=h.1.sub 0 i (Nat.zero_le _) (by omega)
 refine ⟨?_,λd hd=>h.2 d (IA hd)⟩
 rw [Nat.zero_mul,List.drop_zero] at h1
 have:(l.take i).flatMap Nd.c=(l.flatMap Nd.c).take (i *9):=by
  have e:l.flatMap Nd.c=(l.take i).flatMap Nd.c++(l.drop i).flatMap Nd.c:=by rw [<-List.flatMap_append,List.take_append_drop]
  have hl:((l.take i).flatMap Nd.c).length=i *9:=by rw [Nd.iL,qlT,Nat.min_eq_left hi]
  rw [e,<-hl,List.take_left]
 rw [this]
 exact h1
end Go.Proofs.YtcifihepfadgfaaGreatDoor

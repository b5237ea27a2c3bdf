import Derived.Test.YthnoidogkbbkhaaGreatDoorW
import Derived.Test.YthnoidogkbbkhaaGreatDoorB
import Derived.Test.YthnoidogkbbkhaaGreatDoorKR
import Derived.Test.YthnoidogkbbkhaaGreatDoorKF
import Derived.Test.YthnoidogkbbkhaaGreatDoorVDs
import Derived.Test.YthnoidogkbbkhaaGreatDoorRows
import Derived.Lib.LaidU8
import Derived.MakeChecks
import Derived.FnData
import Derived.OpenShut
set_option linter.unusedVariables false
namespace Go.Proofs.YthnoidogkbbkhaaGreatDoor
open List renaming mem_append->qmA,mem_cons->qmC,not_mem_nil->qnM,mem_of_getElem?->qmG,getElem?_eq_getElem->qgE,getElem?_eq_some_iff->qgS,mem_append_left->qmL,mem_append_right->qmR,mem_map->qmM,length_append->qlA,length_cons->qlC,length_nil->qlN,mem_of_mem_take->qmT,append_assoc->qaA,mem_singleton->qmS,length_take->qlT,flatMap_cons->qfC,length_pos_iff->qlP,length_map->qlM,getElem?_map->qgM,append_nil->qaN,take_add_one->qtO,map_append->qmpA,take_of_length_le->qtOL
open Go Go.W
def encU (n:Nat):List UInt8:=if n<128 then [UInt8.ofNat n] else UInt8.ofNat (n%128+128)::encU (n / 128)
termination_by n
decreasing_by omega
theorem encU_small {n:Nat} (h:n<128):encU n=[UInt8.ofNat n]:=by rw [encU,if_pos h]
theorem encU_large {n:Nat} (h:¬n<128):encU n=UInt8.ofNat (n%128+128)::encU (n / 128):=by rw [encU,if_neg h]
theorem encU_len:∀(d n:Nat),n<2 *128^d->(encU n).length<=d+1
 |0,n,h=>by rw [encU_small (by omega)];simp
 |d+1,n,h=>by
  by_cases hn:n<128
  .rw [encU_small hn];simp
  .rw [encU_large hn]
   have:=encU_len d (n / 128) (by rw [Nat.pow_succ] at h;omega)
   simp;omega
def zz (n:Int):Nat:=if 0<=n then (2 *n).toNat else (-(2 *n) - 1).toNat
theorem zz_lt (n:Int) (h1:-9223372036854775808<=n) (h2:n<=9223372036854775807):zz n<18446744073709551616:=by
 unfold zz;split<;>omega
def encI (n:Int):List UInt8:=encU (zz n)
def encR (b:List UInt8):List UInt8:=encU b.length++b
def encL (l:List Int):List UInt8:=encU l.length++l.flatMap encI
theorem encU_len10 (n:Nat) (h:n<18446744073709551616):(encU n).length<=10:=encU_len 9 n (by simpa using h)
theorem encI_len (n:Int) (h:I64 n):(encI n).length<=10:=encU_len10 _ (zz_lt n h.1 h.2)
set_option maxRecDepth 100000
set_option maxHeartbeats 1000000
theorem fr_own {w0 w w':World} {own:List Nat} (F:Fr0 w0 w) (n:∀x∈own,w0.heap.size<=x) (f:Fr (·∈own) w w'):Fr0 w0 w':=F.trn f n
theorem new_own {w0 w:World} {own own':List Nat} (F:Fr0 w0 w) (n:∀x∈own,w0.heap.size<=x) (o:∀x∈own',x∈own\/w.heap.size<=x):∀x∈own',w0.heap.size<=x:=λx hx=>by
 rcases o x hx with h|h
 .exact n x h
 .exact Nat.le_trans F.size h
theorem grow_bytes {w0 w:World} {s src:Sl} {xs ys:List UInt8} (F:Fr0 w0 w) (ho:BytesO w s xs) (hn:∀x∈blkL s,w0.heap.size<=x) (hr:Bytes w src ys) (hb:xs.length+ys.length<=100000000000000):
  ∃s' w',(Builtin.append_ #[ty_sl_uint8,ty_sl_uint8] ty_sl_uint8 #[s.v,src.v]).run Tryz.prog w=.ok s'.v w'/\BytesO w' s' (xs++ys)/\Fr0 w0 w'/\(∀x∈blkL s',w0.heap.size<=x):=by
 obtain ⟨s',w',g1,g2,g3,g4,_⟩:=append_bytes (ty:=ty_sl_uint8) ho hr (by omega)
 exact ⟨s',w',g1,g2,fr_own F hn g3,new_own F hn g4⟩
theorem grow_byte {w0 w:World} {s:Sl} {xs:List UInt8} (F:Fr0 w0 w) (ho:BytesO w s xs) (hn:∀x∈blkL s,w0.heap.size<=x) (c:UInt8) (hb:xs.length<=10000000000000):
  ∃s' w',(Builtin.append_ #[ty_sl_uint8,ty_sl_uint8] ty_sl_uint8 #[s.v,.slice (some (Addr.mk w.heap.size 0 none)) 1 1]).run Tryz.prog (w.alloc (.cells #[.int .u8 (c.toNat:Int)] ty_uint8))=.ok s'.v w'/\BytesO w' s' (xs++[c])/\Fr0 w0 w'/\(∀x∈blkL s',w0.heap.size<=x):=by
 have f1:Fr0 w (w.alloc (.cells #[.int .u8 (c.toNat:Int)] ty_uint8)):=Fr.alloc _ _ _
 exact grow_bytes (src:=⟨some ⟨w.heap.size,0,none⟩,1,1⟩) (F.tr0 f1) (ho.fr0 f1) hn (one_byte w c) (by simp;omega)
theorem e_uint_loop {w0:World}:∀(n:Nat) (w:World) (out:Sl) (bs:List UInt8),n<18446744073709551616->bs.length+(encU n).length<=100->Fr0 w0 w->BytesO w out bs->(∀x∈blkL out,w0.heap.size<=x)->
  enthymemeref02_Uint.L0 (n:Int) out w (NewBytes w0 (bs++encU n)):=by
 intro n
 induction n using Nat.strongRecOn with
 |_ n ih=>
  intro w out bs hn hl F ho hx
  refine enthymemeref02_Uint.L0_step _ _ _ _ (sel_intro (λh=>?_) (λh=>?_))
  .have hn':¬n<128:=by have:=of_decide_eq_true h;omega
   rw [encU_large hn'] at hl ⊢
   have e:IntKind.wrap .u8 (IntKind.wrap .u64 (128+(Int.tmod (n:Int) 128)))=((UInt8.ofNat (n%128+128)).toNat:Int):=by
    rw [IntWalk.rem_in _ _ (by omega),IntWalk.u64_in _ (by omega),IntWalk.u8_in _ (by omega)]
    simp
    omega
   rw [e]
   obtain ⟨s',w',g1,g2,g3,g4⟩:=grow_byte F ho hx (UInt8.ofNat (n%128+128)) (by simp at hl;omega)
   refine ⟨s',w',g1,?_⟩
   show enthymemeref02_Uint.L0 (IntKind.wrap .u64 (Int.tdiv (n:Int) 128)) s' w' _
   rw [IntWalk.u64_quo _ _ (by omega),show ((n:Int) / 128)=((n / 128:Nat):Int) from rfl,show bs++UInt8.ofNat (n%128+128)::encU (n / 128)=(bs++[UInt8.ofNat (n%128+128)])++encU (n / 128) by simp]
   exact ih (n / 128) (by omega) w' s' _ (by omega) (by simp at hl ⊢;omega) g3 g2 g4
  .have hn':n<128:=by have:=of_decide_eq_false h;omega
   rw [encU_small hn'] at hl ⊢
   rw [show IntKind.wrap .u8 (n:Int)=((UInt8.ofNat n).toNat:Int) from by rw [u8_nat];simp]
   obtain ⟨s',w',g1,g2,g3,g4⟩:=grow_byte F ho hx (UInt8.ofNat n) (by simp at hl;omega)
   exact ⟨s',w',g1,s',rfl,g2,g3,g4⟩
theorem e_uint (n:Nat) (hn:n<18446744073709551616) (w:World):Calls Tryz.prog n_enthymemeref02_Uint #[.int .u64 (n:Int)] w (NewBytes w (encU n)):=by
 have:=encU_len10 n hn
 exact enthymemeref02_Uint.ok _ w _ (e_uint_loop n w ⟨none,0,0⟩ [] hn (by simp;omega) (Fr.refl _ _) (Ow.nil _ _) (by simp [blkL]))
theorem e_zigzag (n:Int) (hn:I64 n) (w:World):Calls Tryz.prog n_enthymemeref02_Zigzag #[.int .i64 n] w λr w'=>r=.returned (.int .u64 (zz n:Int))/\w=w':=by
 obtain ⟨h1,h2⟩:=hn
 refine enthymemeref02_Zigzag.ok _ w _ (sel_intro (λh=>?_) (λh=>?_))
 .have h':=of_decide_eq_true h
  refine ⟨?_,rfl⟩
  rw [IntWalk.i64_in (n+1) (by omega),IntWalk.i64_in _ (by omega),IntWalk.u64_in (0 - (n+1)) (by omega),IntWalk.u64_in (2 *(0 - (n+1))) (by omega),IntWalk.u64_in _ (by omega)]
  congr 2
  unfold zz
  rw [if_neg (by omega)]
  omega
 .have h':=of_decide_eq_false h
  refine ⟨?_,rfl⟩
  rw [IntWalk.u64_in n (by omega),IntWalk.u64_in _ (by omega)]
  congr 2
  unfold zz
  rw [if_pos (by omega)]
  omega
theorem e_int (n:Int) (hn:I64 n) (w:World):Calls Tryz.prog n_enthymemeref02_Int #[.int .i64 n] w (NewBytes w (encI n)):=by
 refine enthymemeref02_Int.ok _ w _ ((e_zigzag n hn w).mono ?_)
 rintro r w1 ⟨rfl,rfl⟩
 refine ⟨_,rfl,(e_uint (zz n) (zz_lt n hn.1 hn.2) w).mono ?_⟩
 rintro r w1 ⟨s,rfl,h⟩
 exact ⟨s,rfl,s,rfl,h⟩
theorem e_raw {w:World} {s:Sl} {b:List UInt8} (hb:Bytes w s b) (hl:b.length<=1000000000):Calls Tryz.prog n_enthymemeref02_Raw #[s.v] w (NewBytes w (encR b)):=by
 refine enthymemeref02_Raw.ok _ w _ ?_
 rw [Bytes.len hb,u64_nat _ (by omega)]
 refine (e_uint b.length (by omega) w).mono ?_
 rintro r w1 ⟨t,rfl,t1,f1,n1⟩
 have:=encU_len10 b.length (by omega)
 obtain ⟨s',w2,g1,g2,g3,g4⟩:=grow_bytes f1 t1 n1 (hb.fr0 f1) (by omega)
 exact ⟨t,rfl,s',w2,g1,s',rfl,g2,g3,g4⟩
theorem e_ints_loop {w0:World} {s:Sl} {l:List Int} (hs:Nums w0 s l) (hi:∀x∈l,I64 x) (hl:l.length<=1000000000):∀(d i:Nat),i+d=l.length->∀(w:World) (out:Sl) (bs:List UInt8),bs.length<=10+10 *i->Fr0 w0 w->BytesO w out bs->(∀x∈blkL out,w0.heap.size<=x)->
  enthymemeref02_Ints.L0 s out (i:Int) w (NewBytes w0 (bs++(l.drop i).flatMap encI)):=by
 have hn:=Nums.len hs
 intro d
 induction d with
 |zero=>
  intro i hd w out bs hb F ho hx
  refine enthymemeref02_Ints.L0_step _ _ _ _ _ (sel_false (decide_eq_false (by omega)) ?_)
  rw [List.drop_of_length_le (by omega)]
  exact ⟨out,rfl,by simpa using ho,F,hx⟩
 |succ d ih=>
  intro i hd w out bs hb F ho hx
  have hlt:i<l.length:=by omega
  have hg:l[i]? =some l[i]:=qgE hlt
  have hxi:=hi _ (List.getElem_mem hlt)
  refine enthymemeref02_Ints.L0_step _ _ _ _ _ (sel_true (decide_eq_true (by omega)) ⟨by omega,by omega,Nums.cell (hs.fr0 F) hg (by rw [Int.toNat_natCast]) λp _ hp=>⟨_,hp,(e_int _ hxi w).mono ?_⟩⟩)
  rintro r w1 ⟨t,rfl,t1,f1,n1⟩
  have:=encI_len _ hxi
  obtain ⟨s',w2,g1,g2,g3,g4⟩:=grow_bytes (F.tr0 f1) (ho.fr0 f1) hx t1.rd (by omega)
  refine ⟨t,rfl,s',w2,g1,?_⟩
  show enthymemeref02_Ints.L0 s s' (IntKind.wrap .i64 ((i:Int)+1)) w2 _
  rw [i64_next i (by omega),List.drop_eq_getElem_cons hlt,qfC,<-qaA]
  exact ih (i+1) (by omega) w2 s' _ (by simp;omega) g3 g2 g4
theorem e_ints {w:World} {s:Sl} {l:List Int} (hs:Nums w s l) (hi:∀x∈l,I64 x) (hl:l.length<=1000000000):Calls Tryz.prog n_enthymemeref02_Ints #[s.v] w (NewBytes w (encL l)):=by
 refine enthymemeref02_Ints.ok _ w _ ?_
 rw [Nums.len hs,u64_nat _ (by omega)]
 refine (e_uint l.length (by omega) w).mono ?_
 rintro r w1 ⟨t,rfl,t1,f1,n1⟩
 have h10:=encU_len10 l.length (by omega)
 refine ⟨t,rfl,?_⟩
 have:=e_ints_loop hs hi hl l.length 0 (by omega) w1 t _ (by omega) f1 t1 n1
 rw [List.drop_zero] at this
 exact this
def stepEnc (s:Stp):List UInt8:=encI s.kind++encI s.node++encI s.rule++encL s.params++encR (bl s.nm)++encL s.lits++encL s.hints
def stepsEnc (ss:List Stp):List UInt8:=encI (ss.length:Int)++ss.flatMap stepEnc
structure EnOk (s:Stp):Prop where
 kind:I64 s.kind
 node:I64 s.node
 rule:I64 s.rule
 params:(∀x∈s.params,I64 x)/\s.params.length<=100000000
 lits:(∀x∈s.lits,I64 x)/\s.lits.length<=100000000
 hints:(∀x∈s.hints,I64 x)/\s.hints.length<=100000000
 nm:s.nm.size<=100000000
def RetB (w0:World) (bs:List UInt8) (r:Ending) (w':World):Prop:=∃s:Sl,r=.returned s.v/\BytesO w' s bs/\∀b∈blkL s,w0.heap.size<=b
theorem nb_ret {w:World} {bs:List UInt8} {P:Program} {f:FuncId} {args:Array Value} (h:Calls P f args w (NewBytes w bs)):Calls P f args w λr w'=>RetB w bs r w'/\Fr0 w w':=h.mono λr w' ⟨s,h1,h2,h3,h4⟩=>⟨⟨s,h1,h2,h4⟩,h3⟩
theorem byt_n {w:World} {s:Sl} {bs:List UInt8} (h:Bytes w s bs):RdN 1 w s (bs.map byteV):=⟨by rw [h.1,Nat.mul_one],h.2.1,h.2.2⟩
theorem encL_len {l:List Int} (hi:∀x∈l,I64 x) (hl:l.length<=100000000):(encL l).length<=1000000010:=by
 have h1:=encU_len10 l.length (by omega)
 have h2:∀l:List Int,(∀x∈l,I64 x)->(l.flatMap encI).length<=10 *l.length:=by
  intro l
  induction l with
  |nil=>intro _;exact Nat.le_refl _
  |cons x l ih=>
   intro h
   have a:=encI_len x (h x (by simp))
   have b:=ih λy hy=>h y (by simp [hy])
   rw [qfC,qlA,qlC];omega
 have:=h2 l hi
 unfold encL
 rw [qlA];omega
theorem encR_len {b:List UInt8} (hl:b.length<=100000000):(encR b).length<=100000010:=by
 have h1:=encU_len10 b.length (by omega)
 unfold encR
 rw [qlA];omega
theorem stepEnc_len {s:Stp} (h:EnOk s):(stepEnc s).length<=3200000000:=by
 have h1:=encI_len _ h.kind
 have h2:=encI_len _ h.node
 have h3:=encI_len _ h.rule
 have h4:=encL_len h.params.1 h.params.2
 have h5:=encL_len h.lits.1 h.lits.2
 have h6:=encL_len h.hints.1 h.hints.2
 have h7:=encR_len (b:=bl s.nm) (by rw [bl_len];exact h.nm)
 unfold stepEnc
 simp only [qlA]
 omega
section
variable {M:Nat->Prop} {w0 w:World} {L D:List En} {bs:List Nat}
theorem _root_.Go.W.LH.mkB (H:LH M w0 w L D) (i:Nat) {out:Sl} {xs ys:List UInt8} (hi:L[i]? =some (.row ty_uint8 1 out (xs.map byteV))) (hx:xs.length<=20000000000000) (hy:ys.length<=20000000000000) {f:FuncId} {args:Array Value} {K:Sl->World->Prop}
  (hc:Calls Tryz.prog f args w (NewBytes w ys)) (hK:∀s' w',LH M w0 w' (L.set i (.row ty_uint8 1 s' ((xs++ys).map byteV))) D->K s' w') (hbs:∀b∈bs,En.g b∈L:=by simp):
  callF bs Tryz.prog f args w λr w1=>∃t:Sl,r=.returned t.v/\∃(s':Sl) (w2:World),Sem.run Tryz.prog (Builtin.append_ #[ty_sl_uint8,ty_sl_uint8] ty_sl_uint8 #[out.v,t.v]) w1=.ok s'.v w2/\kept bs w1 w2/\K s' w2:=
 callF0 (hc.mono λr w1 ⟨t,hr,h2,f,_⟩=>by
  have H1:=H.fr0 f
  have hn:=(H1.get i hi:OwnRow _ _ _ _ _).len
  rw [qlM] at hn
  have ht:=Bytes.len h2.rd
  refine ⟨f,t,hr,H1.apT i el_bytes hi (byt_n h2.rd) (byteV_one _) (by omega) (λs' w2 H2=>hK s' w2 ?_) hbs⟩
  rw [qmpA];exact H2)
end
theorem c_steps {w:World} {s:Sl} {l:List Sp} (h:SPr w s l) (hs:∀d∈l,EnOk d.x) (hl:l.length<=2000):Calls Tryz.prog n_enthymemeref25_steps #[s.v] w (NewBytes w (stepsEnc (xsp l))):=by
 have hn:=h.n
 refine enthymemeref25_steps.okT _ w _ ((e_int ((s.n:Nat):Int) ⟨by omega,by omega⟩ w).mono ?_)
 rintro _ w1 ⟨t,rfl,t1,f1,n1⟩
 refine ⟨t,rfl,?_⟩
 have hsz:=encI_len ((s.n:Nat):Int) ⟨by omega,by omega⟩
 have H0:LH F0 w w1 [.row ty_uint8 1 t ((encI ((s.n:Nat):Int)).map byteV)] [.sp s l]:=((lh0 (w:=w) [.sp s l] (by
  intro e he
  rw [qmS.1 he]
  exact sp_P.2 h))).push (.row ty_uint8 1 t ((encI ((s.n:Nat):Int)).map byteV)) f1 t1.2 n1
 have loop:∀(k i:Nat) (out:Sl) (bs:List UInt8) (w':World),i+k=l.length->bs=encI ((s.n:Nat):Int)++((xsp l).take i).flatMap stepEnc->bs.length<=10+i *3200000000->LH F0 w w' [.row ty_uint8 1 out (bs.map byteV)] [.sp s l]->enthymemeref25_steps.L0T s out (i:Int) w' (NewBytes w (stepsEnc (xsp l))):=by
  intro k
  induction k with
  |zero=>
   intro i out bs w' hk hb hbl H
   refine enthymemeref25_steps.L0T_step _ _ _ _ _ (sel_false (decide_eq_false (by omega)) ⟨out,rfl,?_,H.fr,λx hx=>(H.new _ (qmG (i:=0) rfl) x hx).resolve_right id⟩)
   have:stepsEnc (xsp l)=bs:=by
    rw [hb,qtOL (by simp;omega)]
    unfold stepsEnc
    rw [qlM,<-hn]
   rw [this]
   exact (H.get 0:OwnRow _ _ _ _ _).ow1
  |succ k ih=>
   intro i out bs w' hk hb hbl H
   have hg:l[i]? =some l[i]:=qgE (by omega)
   generalize l[i]=d at hg
   have hd:=qmG hg
   have hok:=hs d hd
   have h':=sp_P.1 (H.getD 0)
   have z1:=encI_len _ hok.kind
   have z2:=encI_len _ hok.node
   have z3:=encI_len _ hok.rule
   have z4:=encL_len hok.params.1 hok.params.2
   have z5:=encL_len hok.lits.1 hok.lits.2
   have z6:=encL_len hok.hints.1 hok.hints.2
   have z7:=encR_len (b:=bl d.x.nm) (by rw [bl_len];exact hok.nm)
   have hbb:bs.length<=10000000000000:=by omega
   refine enthymemeref25_steps.L0T_step _ _ _ _ _ (sel_true (decide_eq_true (by omega)) ⟨by omega,by omega,h'.get hg λp hp=>?_⟩)
   rw [Int.toNat_natCast]
   refine ⟨_,_,_,_,_,_,_,hp.c0,hp.c1,hp.c2,hp.c3,hp.c4,hp.c5,hp.c6,H.newg λb w2 H2=>H2.locg λw3 H3=>?_⟩
   refine H3.mkB 0 rfl (by omega) (by omega) (e_int _ hok.kind w3) λs1 w4 H4=>H4.mkB 0 rfl (by rw [qlA];omega) (by omega) (e_int _ hok.node w4) λs2 w5 H5=>H5.locg λw6 H6=>?_
   refine H6.mkB 0 rfl (by simp only [qlA];omega) (by omega) (e_int _ hok.rule w6) λs3 w7 H7=>?_
   refine H7.mkB 0 rfl (by simp only [qlA];omega) (by omega) (e_ints (l:=d.x.params) ((sp_P.1 (H7.getD 0)).2 d hd).1 hok.params.1 (by have:=hok.params.2;omega)) λs4 w8 H8=>H8.locg λw9 H9=>?_
   obtain ⟨t',w10,e1,tb,f10,_⟩:=str_bytes w9 d.x.nm
   have H10:=H9.fr0 f10
   refine ⟨t',w10,e1,λq hq=>f10.keep q (by rw [qmS.1 hq];exact H9.get 1) id,?_⟩
   refine H10.mkB 0 rfl (by simp only [qlA];omega) (by omega) (e_raw tb (by rw [bl_len];have:=hok.nm;omega)) λs5 w11 H11=>?_
   refine H11.mkB 0 rfl (by simp only [qlA];omega) (by omega) (e_ints (l:=d.x.lits) ((sp_P.1 (H11.getD 0)).2 d hd).2.1 hok.lits.1 (by have:=hok.lits.2;omega)) λs6 w12 H12=>?_
   refine H12.mkB 0 rfl (by simp only [qlA];omega) (by omega) (e_ints (l:=d.x.hints) ((sp_P.1 (H12.getD 0)).2 d hd).2.2 hok.hints.1 (by have:=hok.hints.2;omega)) λs7 w13 H13=>?_
   rw [i64_next _ (by omega)]
   have hsl:=stepEnc_len hok
   have e2:bs++encI d.x.kind++encI d.x.node++encI d.x.rule++encL d.x.params++encR (bl d.x.nm)++encL d.x.lits++encL d.x.hints=bs++stepEnc d.x:=by unfold stepEnc;simp only [qaA]
   have ht:(xsp l).take (i+1)=(xsp l).take i++[d.x]:=by rw [qtO,qgM,hg];rfl
   refine ih (i+1) s7 (bs++stepEnc d.x) w13 (by omega) ?_ (by rw [qlA];omega) ?_
   .rw [ht,List.flatMap_append,hb];simp
   .rw [<-e2]
    exact H13.take 1
 exact loop l.length 0 t _ w1 (by omega) (by simp) (by omega) H0
def proofEnc (ss:List Stp):List UInt8:=encI 0++stepsEnc ss
theorem stepsEnc_len {ss:List Stp} (h:∀s∈ss,EnOk s) (hl:ss.length<=2000):(stepsEnc ss).length<=10+ss.length *3200000000:=by
 have h1:=encI_len (ss.length:Int) ⟨by omega,by omega⟩
 have h2:∀l:List Stp,(∀s∈l,EnOk s)->(l.flatMap stepEnc).length<=l.length *3200000000:=by
  intro l
  induction l with
  |nil=>intro _;exact Nat.le_refl _
  |cons x l ih=>
   intro h
   have a:=stepEnc_len (h x (by simp))
   have b:=ih λy hy=>h y (by simp [hy])
   rw [qfC,qlA,qlC];omega
 have:=h2 ss h
 unfold stepsEnc
 rw [qlA];omega
theorem c_Bytes {w:World} {s:Sl} {l:List Sp} (h:SPr w s l) (hs:∀d∈l,EnOk d.x) (hl:l.length<=2000):Calls Tryz.prog n_enthymemeref25_Bytes #[.agg #[(⟨none,0,0⟩:Sl).v,s.v]] w λr w'=>RetB w (proofEnc (xsp l)) r w'/\Fr0 w w':=by
 have z0:=encI_len 0 (by decide)
 have zs:=stepsEnc_len (ss:=xsp l) (λx hx=>by obtain ⟨d,hd,rfl⟩:=qmM.1 hx;exact hs d hd) (by simpa using hl)
 rw [qlM] at zs
 refine enthymemeref25_Bytes.okT _ _ w _ ((lh0 (w:=w) [.sp s l] (by
  intro e he
  rw [qmS.1 he]
  exact sp_P.2 h)).newg λb w1 H1=>callF0 ((e_int 0 (by decide) w1).mono ?_))
 rintro _ w2 ⟨t,rfl,t1,f1,n1⟩
 have H2:LH F0 w w2 [.g b,.row ty_uint8 1 t ((encI 0).map byteV)] [.sp s l]:=H1.push (.row ty_uint8 1 t ((encI 0).map byteV)) f1 t1.2 n1
 refine ⟨f1,t,rfl,enthymemeref25_Bytes.L0T_step _ _ _ _ _ _ _ (sel_false rfl (H2.mkB 1 rfl (by omega) (by omega) (c_steps (sp_P.1 (H2.getD 0)) hs hl) λs' w3 H3=>⟨⟨s',rfl,(H3.get 1:OwnRow _ _ _ _ _).ow1,λx hx=>(H3.new _ (qmG (i:=1) rfl) x hx).resolve_right id⟩,H3.fr⟩))⟩
theorem c_SameProof {w:World} {s t:Sl} {l m:List Sp} (h:SPr w s l) (k:SPr w t m) (hs:∀d∈l,EnOk d.x) (hl:l.length<=200) (e:xsp l=xsp m):Calls Tryz.prog n_enthymemeref25_SameProof #[.agg #[(⟨none,0,0⟩:Sl).v,s.v],.agg #[(⟨none,0,0⟩:Sl).v,t.v]] w λr w'=>r=.returned (.bool true)/\Fr0 w w':=by
 have hm:∀d∈m,EnOk d.x:=λd hd=>by
  have:d.x∈xsp l:=by rw [e];exact qmM.2 ⟨d,hd,rfl⟩
  obtain ⟨d',hd',he⟩:=qmM.1 this
  rw [<-he];exact hs d' hd'
 have hml:m.length=l.length:=by have:=congrArg List.length e;simpa using this.symm
 refine enthymemeref25_SameProof.okT _ _ _ _ w _ ((lh0 (w:=w) [.sp s l,.sp t m] (by
  intro e he
  simp only [qmC,qnM,or_false] at he
  rcases he with rfl|rfl
  .exact sp_P.2 h
  .exact sp_P.2 k)).newg λb w1 H1=>H1.newg λb3 w2 H2=>H2.locg λw3 H3=>H3.callr (c_Bytes (sp_P.1 (H3.getD 0)) hs (by omega)) ?_)
 rintro _ w4 ⟨t6,rfl,b6,n6⟩ H4 N4
 have H5:=N4.rd (.rd t6 ((proofEnc (xsp l)).map byteV)) b6.rd (rd_fp n6)
 refine ⟨t6,rfl,H5.callr (c_Bytes (sp_P.1 (H5.getD 1)) hm (by omega)) ?_⟩
 rintro _ w5 ⟨t8,rfl,b8,n8⟩ H6 _
 have zs:=stepsEnc_len (ss:=xsp l) (λx hx=>by obtain ⟨d,hd,rfl⟩:=qmM.1 hx;exact hs d hd) (by simp;omega)
 have z0:=encI_len 0 (by decide)
 rw [qlM] at zs
 refine ⟨t8,rfl,H6.callg (same_bytes (H6.getD 2) b8.rd (by unfold proofEnc;rw [qlA];omega)) ?_⟩
 rintro _ w6 rfl H7
 refine ⟨_,rfl,?_,H7.fr⟩
 rw [e,decide_eq_true rfl]
def badP (x y:UInt8):Bool:=(x==98&&y==101)||(x==101&&y==103)||(x==103&&y==105)||(x==105&&y==110)
def sfB (c:UInt8):Bool:=!(c==98||c==101||c==103||c==105||c==110)
theorem sf_l {x y:UInt8} (h:sfB x=true):badP x y=false:=by
 unfold sfB at h
 unfold badP
 simp only [Bool.not_eq_true',Bool.or_eq_false_iff] at h
 simp [h.1.1.1.1,h.1.1.1.2,h.1.1.2,h.1.2]
theorem sf_r {x y:UInt8} (h:sfB y=true):badP x y=false:=by
 unfold sfB at h
 unfold badP
 simp only [Bool.not_eq_true',Bool.or_eq_false_iff] at h
 simp [h.1.1.1.2,h.1.1.2,h.1.2,h.2]
def npB:List UInt8->Bool
 |x::y::r=>!badP x y&&npB (y::r)
 |_=>true
theorem np_sep {c:UInt8} (hc:sfB c=true):∀{a b:List UInt8},npB a=true->npB (c::b)=true->npB (a++c::b)=true
 |[],b,_,h=>h
 |[x],b,_,h=>by
  show (!badP x c&&npB (c::b))=true
  rw [sf_r hc,h];rfl
 |x::y::r,b,h1,h=>by
  have h1:(!badP x y&&npB (y::r))=true:=h1
  rw [Bool.and_eq_true] at h1
  show (!badP x y&&npB ((y::r)++c::b))=true
  rw [h1.1,np_sep hc h1.2 h];rfl
theorem np_cons {c:UInt8} (hc:sfB c=true) {b:List UInt8} (h:npB b=true):npB (c::b)=true:=by
 cases b with
 |nil=>rfl
 |cons y r=>
  show (!badP c y&&npB (y::r))=true
  rw [sf_l hc,h];rfl
theorem np_all:∀{l:List UInt8},(∀c∈l,sfB c=true)->npB l=true
 |[],_=>rfl
 |c::l,h=>np_cons (h c (by simp)) (np_all λx hx=>h x (by simp [hx]))
theorem isN_sf {c:UInt8} (h:isN c=true):sfB c=true:=by
 unfold isN isD at h
 simp only [Bool.or_eq_true,Bool.and_eq_true,decide_eq_true_eq,beq_iff_eq] at h
 have h1:c.toNat<=57:=by
  rcases h with h|h
  .exact h.2
  .rw [h];decide
 unfold sfB
 simp only [Bool.not_eq_true',Bool.or_eq_false_iff,beq_eq_false_iff_ne,ne_eq]
 refine ⟨⟨⟨⟨?_,?_⟩,?_⟩,?_⟩,?_⟩<;>(rintro rfl;revert h1;decide)
theorem dcI_sf (n:Int):∀c∈dcI n,sfB c=true:=λc hc=>isN_sf (dcI_all n c hc)
theorem list_sf (l:List Int):∀c∈listB l,sfB c=true:=λc hc=>by
 unfold listB at hc
 rcases qmA.1 hc with hc|hc
 .rcases qmC.1 hc with rfl|hc
  .decide
  .rcases items_all l c hc with h|rfl
   .exact isN_sf h
   .decide
 .rw [qmS.1 hc];decide
theorem word_np (k:Int):npB (wordK k)=true:=by
 unfold wordK
 have h:∀i<6,npB (wordKL.getD i [])=true:=by decide
 by_cases hk:k.toNat<6
 .exact h _ hk
 .rw [List.getD_eq_getElem?_getD,List.getElem?_eq_none (by show 6<=_;omega)];rfl
theorem nm_np {s:Stp} (h:s.nm∈nmsL):npB (nmB s)=true/\(nmB s).length<=2:=by
 have:∀n∈nmsL,npB (if bl n=[] then [45] else bl n)=true/\(if bl n=[] then [45] else bl n).length<=2:=by decide
 exact this _ h
structure WrS (s:Stp):Prop where
 kind:0<=s.kind/\s.kind<=5
 node:I64 s.node
 rule:I64 s.rule
 params:(∀x∈s.params,I64 x)/\s.params.length<=2
 lits:(∀x∈s.lits,I64 x)/\s.lits.length<=3
 hints:(∀x∈s.hints,I64 x)/\s.hints.length<=2
 nm:s.nm∈nmsL
theorem line_np {s:Stp} (h:WrS s):npB (lineB s)=true:=by
 have s32:sfB 32=true:=by decide
 refine np_sep s32 (word_np _) (np_cons s32 (np_sep s32 (np_all (dcI_sf _)) (np_cons s32 (np_sep s32 (np_all (dcI_sf _)) (np_cons s32 (np_sep s32 (nm_np h.nm).1 (np_all ?_)))))))
 intro c hc
 simp only [qmC,qmA] at hc
 rcases hc with rfl|hc|rfl|hc|rfl|hc
 .decide
 .exact list_sf _ c hc
 .decide
 .exact list_sf _ c hc
 .decide
 .exact list_sf _ c hc
theorem genline_len {s:Stp} (h:WrS s):(lineB s).length<=209:=by
 have l1:=dcI_le h.node
 have l2:=dcI_le h.rule
 have l3:=list_le h.params.1
 have l4:=list_le h.hints.1
 have l5:=list_le h.lits.1
 have m3:=h.params.2
 have m4:=h.hints.2
 have m5:=h.lits.2
 have m7:=(nm_np h.nm).2
 have m8:=word_le s.kind
 unfold lineB
 simp only [qlA,qlC]
 omega
theorem text_np:∀{ls:List (List UInt8)},(∀l∈ls,npB l=true)->npB (textB ls)=true
 |[],_=>rfl
 |l::ls,h=>by
  have e:textB (l::ls)=l++10::textB ls:=by simp [textB]
  rw [e]
  exact np_sep (by decide) (h l (by simp)) (np_cons (by decide) (text_np λx hx=>h x (by simp [hx])))
theorem txt_len {n:Nat}:∀{ls:List (List UInt8)},(∀l∈ls,l.length<=n)->(textB ls).length<=ls.length *(n+1)
 |[],_=>by simp [textB]
 |l::ls,h=>by
  have e:textB (l::ls)=l++10::textB ls:=by simp [textB]
  have h1:=h l (by simp)
  have h2:=txt_len (n:=n) (ls:=ls) λx hx=>h x (by simp [hx])
  rw [e,qlA,qlC,qlC,Nat.succ_mul]
  omega
theorem np_at:∀{t:List UInt8} {j:Nat} {x y:UInt8},npB t=true->t[j]? =some x->t[j+1]? =some y->badP x y=false
 |[],j,x,y,_,h,_=>by simp at h
 |[a],j,x,y,_,_,h=>by simp at h
 |a::b::r,0,x,y,h,h1,h2=>by
  simp only [List.getElem?_cons_zero,Option.some.injEq,List.getElem?_cons_succ,Nat.zero_add] at h1 h2
  have h:(!badP a b&&npB (b::r))=true:=h
  rw [Bool.and_eq_true,Bool.not_eq_true'] at h
  rw [<-h1,<-h2];exact h.1
 |a::b::r,j+1,x,y,h,h1,h2=>by
  have h:(!badP a b&&npB (b::r))=true:=h
  rw [Bool.and_eq_true] at h
  rw [List.getElem?_cons_succ] at h1 h2
  exact np_at h.2 h1 h2
theorem beg_at {a b:List UInt8} (k:Nat) (hk:k<5):(a++([98,101,103,105,110]++b))[a.length+k]? =([98,101,103,105,110]:List UInt8)[k]?:=by
 rw [List.getElem?_append_right (by omega),Nat.add_sub_cancel_left,List.getElem?_append_left (by simpa using hk)]
theorem np_beg {t:List UInt8} (h:npB t=true):NoBeg t:=λa b e=>by
 have:=np_at (j:=a.length+0) (x:=98) (y:=101) h (by rw [e,beg_at 0 (by omega)];rfl) (by rw [e,beg_at 1 (by omega)];rfl)
 revert this;decide
theorem set_beg {t:List UInt8} (h:npB t=true) (i:Nat) (c:UInt8):NoBeg (t.set i c):=λa b e=>by
 have g:∀k,k<5->a.length+k≠i->t[a.length+k]? =([98,101,103,105,110]:List UInt8)[k]?:=λk hk hi=>by
  rw [<-beg_at (b:=b) k hk,<-e,List.getElem?_set_ne (by omega)]
 by_cases hi:a.length+2<=i
 .have:=np_at (j:=a.length+0) (x:=98) (y:=101) h (g 0 (by omega) (by omega)) (g 1 (by omega) (by omega))
  revert this;decide
 .have:=np_at (j:=a.length+3) (x:=105) (y:=110) h (g 3 (by omega) (by omega)) (g 4 (by omega) (by omega))
  revert this;decide
theorem take_beg {t:List UInt8} (h:NoBeg t) (k:Nat):NoBeg (t.take k):=λa b e=>h a (b++t.drop k) ((List.take_append_drop k t).symm.trans (by rw [e];simp only [qaA]))
theorem stp_en {s:Stp} (h:StpOk s) (hl:(lineB s).length<=100000):EnOk s/\15<=(lineB s).length:=by
 have l1:=items_len s.params
 have l2:=items_len s.lits
 have l3:=items_len s.hints
 have d1:=qlP.2 (dcI_ne s.node)
 have d2:=qlP.2 (dcI_ne s.rule)
 have d3:s.nm.size<=(nmB s).length/\1<=(nmB s).length:=by
  unfold nmB
  split
  .rename_i e
   have:s.nm.size=0:=by rw [<-bl_len,e];rfl
   simp only [qlC,qlN]
   omega
  .rename_i e
   have:=qlP.2 e
   have e2:=bl_len s.nm
   omega
 have e:(lineB s).length=(wordK s.kind).length+((dcI s.node).length+((dcI s.rule).length+((nmB s).length+(((itemsB s.params).length+2)+(((itemsB s.hints).length+2)+(((itemsB s.lits).length+2)+1)+1)+1)+1)+1)+1):=by
  unfold lineB listB
  simp only [qlA,qlC,qlN]
 exact ⟨⟨by have:=h.kind;omega,h.node,h.rule,⟨h.params,by omega⟩,⟨h.lits,by omega⟩,⟨h.hints,by omega⟩,by omega⟩,by omega⟩
theorem reads_en {t rest:List UInt8} {ss:List Stp} (h:Reads t ss rest) (hl:t.length<=3000):(∀s∈ss,EnOk s)/\ss.length<=200:=by
 have e:=h.eq
 have hok:∀s∈ss,StpOk s:=λs hs=>(h.ok s hs).1
 clear h
 have key:∀(ss:List Stp) (u:List UInt8),(∀s∈ss,StpOk s)->u.length<=3000->u=ss.flatMap lineN++rest->(∀s∈ss,EnOk s)/\16 *ss.length<=u.length:=by
  intro ss
  induction ss with
  |nil=>intro u _ _ _;exact ⟨λs hs=>(qnM hs).elim,Nat.zero_le _⟩
  |cons s ss ih=>
   intro u hok hu e
   have el:u.length=(lineB s).length+1+(ss.flatMap lineN++rest).length:=by
    rw [e,qfC,lineN]
    simp only [qlA,qlC,qlN]
    omega
   obtain ⟨h1,h2⟩:=ih _ (λx hx=>hok x (List.mem_cons_of_mem _ hx)) (by omega) rfl
   obtain ⟨h3,h4⟩:=stp_en (hok s (List.mem_cons_self ..)) (by omega)
   refine ⟨λx hx=>?_,by rw [qlC];omega⟩
   rcases qmC.1 hx with rfl|hx
   .exact h3
   .exact h1 x hx
 obtain ⟨h1,h2⟩:=key ss t hok hl e
 exact ⟨h1,by omega⟩
abbrev byE (s:Sl) (xs:List UInt8):En:=.row ty_uint8 1 s (xs.map byteV)
section
variable {M:Nat->Prop} {w0 w:World} {L D:List En}
theorem by_len {s:Sl} {xs:List UInt8} (h:(byE s xs).P w):s.n=xs.length:=by
 have:=(show OwnRow w ty_uint8 1 s (xs.map byteV) from h).len
 simpa using this.symm
theorem _root_.Go.W.LH.apS (H:LH M w0 w L D) (i:Nat) {s:Sl} {xs:List UInt8} (hi:L[i]? =some (byE s xs)) (t:List UInt8) (hb:xs.length+t.length<=100000000000000) {K:Sl->World->Prop}
  (hK:∀s' w',LH M w0 w' (L.set i (byE s' (xs++t))) D->K s' w'):∃(s':Sl) (w':World),Sem.run Tryz.prog (Builtin.append_ #[ty_sl_uint8,ty_string] ty_sl_uint8 #[s.v,.string (ba t)]) w=.ok s'.v w'/\K s' w':=by
 have hz:=ba_size t
 obtain ⟨s',w',g1,g2,g3,g4⟩:=append_str (ty:=ty_sl_uint8) (OwnRow.ow1 (H.get i hi)) (ba t) (by omega)
 rw [bl_ba] at g2
 exact ⟨s',w',g1,hK s' w' (H.upd i (byE s' (xs++t)) hi g3 g2.2 g4)⟩
theorem _root_.Go.W.LH.apB (H:LH M w0 w L D) (i:Nat) {s:Sl} {xs:List UInt8} (hi:L[i]? =some (byE s xs)) (c:UInt8) (hb:xs.length<=100000000000000) {K:Sl->World->Prop}
  (hK:∀s' w',LH M w0 w' (L.set i (byE s' (xs++[c]))) D->K s' w'):nwV w (.cells #[.int .u8 (c.toNat:Int)] ty_uint8) λw1=>∃(s':Sl) (w':World),Sem.run Tryz.prog (Builtin.append_ #[ty_sl_uint8,ty_sl_uint8] ty_sl_uint8 #[s.v,.slice (some (nb w)) 1 1]) w1=.ok s'.v w'/\K s' w':=by
 have hn:=by_len (H.get i hi)
 refine H.ap1 i el_bytes hi (λs' w' H' _ _=>hK s' w' ?_) (by omega)
 unfold byE
 rw [qmpA]
 exact H'
theorem _root_.Go.W.LH.aU (H:LH M w0 w L D) (i:Nat) {s:Sl} {xs:List UInt8} (hi:L[i]? =some (byE s xs)) (hD:errsE∈D) {u:Nat} (hu:u<2^64) (hb:xs.length<=10000000000000) {K:Post}
  (hK:∀s' w',LH M w0 w' (L.set i (byE s' (xs++dcU u))) D->K (.returned s'.v) w'):Calls Tryz.prog n_internal_strconv_AppendUint #[s.v,.u (u:Int),.i 10] w K:=by
 obtain ⟨d1,d2,d3⟩:=dcU_20 hu
 have hil:=(qgS.1 hi).1
 refine internal_strconv_AppendUint.ok _ _ _ w _ (sel_true rfl (sel_dec (λh=>?_) (λh=>?_)))
 .rw [IntWalk.i64_in _ (by omega)]
  refine (c_small u (by omega) w).mono ?_
  rintro _ w1 ⟨rfl,e⟩
  subst e
  exact ⟨_,rfl,H.apS i hi _ (by omega) hK⟩
 .refine H.nw (cs:=zero24.toArray) λw1 hs1 H1=>(c_numDigits (by omega) hu w1 (H1.rd _ hD).1).mono ?_
  rintro _ w2 ⟨rfl,e⟩
  subst e
  have hL:(L++[En.c w.heap.size zero24.toArray.toList ty_24_uint8])[L.length]? =some (.c w.heap.size zero24 ty_24_uint8):=by simp
  have hg:(En.c w.heap.size zero24 ty_24_uint8).P w2:=H1.get L.length hL
  refine ⟨_,rfl,by omega,by omega,?_⟩
  rw [Int.toNat_natCast,Nat.sub_zero]
  have e2:(if 24=0 then at0 w.heap.size else (at0 w.heap.size).add (0 *1))=(at0 w.heap.size).add 0:=by rw [if_neg (by decide)]
  rw [e2]
  refine (c_format (vs:=zero24) (o:=0) (nd:=(dcU u).length) hg rfl (by omega) d3 hu).mono ?_
  rintro _ w3 ⟨rfl,vs,Hf,hd⟩
  have H2:LH M w0 w3 ((L++[En.c w.heap.size zero24.toArray.toList ty_24_uint8]).set L.length (.c w.heap.size vs ty_24_uint8)) D:=H1.upd L.length (.c w.heap.size vs ty_24_uint8) hL (Hf.fr.mono λx _ hx=>by simp [En.c,En.ob,hx]) (Hf.get 0) λb hb=>.inl hb
  have hdl:=dg_list hd rfl (by omega)
  have hb3:Bytes w3 ⟨some ((at0 w.heap.size).add 0),(dcU u).length,24⟩ (dcU u):=part_bytes (Hf.get 0) rfl (by omega) hdl
  have H3:=H2.take L.length
  rw [List.set_append_right _ _ (Nat.le_refl _),List.take_left' rfl] at H3
  refine ⟨rfl,by omega,by omega,?_⟩
  have hn:=by_len (H3.get i hi)
  refine H3.ap i el_bytes (src:=⟨some ((at0 w.heap.size).add 0),(dcU u).length,24⟩) (news:=(dcU u).map byteV) hi hb3.2.2 (by simp) (byteV_one _) (by show (_+(dcU u).length) *1<=_;omega) λs' w' H' _ _=>hK s' w' ?_
  unfold byE
  rw [qmpA]
  exact H'
theorem _root_.Go.W.LH.aI (H:LH M w0 w L D) (i:Nat) {s:Sl} {xs:List UInt8} (hi:L[i]? =some (byE s xs)) (hD:errsE∈D) {n:Int} (h:I64 n) (hb:xs.length<=1000000000000) {K:Post}
  (hK:∀s' w',LH M w0 w' (L.set i (byE s' (xs++dcI n))) D->K (.returned s'.v) w'):Calls Tryz.prog n_strconv_AppendInt #[s.v,.i n,.i 10] w K:=by
 obtain ⟨u1,u2,u3⟩:=u64_abs h
 have hil:=(qgS.1 hi).1
 have imp:Calls Tryz.prog n_internal_strconv_AppendInt #[s.v,.i n,.i 10] w λr w'=>∃s',r=.returned s'.v/\LH M w0 w' (L.set i (byE s' (xs++dcI n))) D:=by
  refine internal_strconv_AppendInt.ok _ _ _ w _ (sel_dec (λhn=>?_) (λhn=>?_))
  .rw [u1 hn,dcI_neg hn]
   refine H.apB i hi 45 (by omega) λs1 w1 H1=>H1.aU i (xs:=xs++[45]) (by simp [hil]) hD u3 (by simp;omega) λs2 w2 H2=>⟨_,rfl,s2,rfl,?_⟩
   rw [List.set_set,qaA] at H2
   exact H2
  .rw [u2 (by omega),dcI_pos hn]
   exact H.aU i hi hD u3 (by omega) λs2 w2 H2=>⟨_,rfl,s2,rfl,H2⟩
 refine strconv_AppendInt.ok _ _ _ w _ (imp.mono ?_)
 rintro _ w1 ⟨s',rfl,H1⟩
 exact ⟨_,rfl,hK s' w1 H1⟩
end
theorem p_listText {w:World} {s:Sl} {l:List Int} (hr:Nums w s l) (hi:∀x∈l,I64 x) (hl:l.length<=1000000) (he:Errs w):Calls Tryz.prog n_proof_listText #[s.v] w λr w'=>r=.returned (.string (ba (listB l)))/\Fr0 w w':=by
 have hn:=Nums.len hr
 have H:LH F0 w w [] [errsE,.rd s (l.map intV)]:=lh0 _ (by
  intro e h
  simp only [qmC,qnM,or_false] at h
  rcases h with rfl|rfl
  .exact he
  .exact hr)
 have loop:∀(k i:Nat) (out:Sl) (w':World),i+k=l.length->LH F0 w w' [byE out (40::itemsB (l.take i))] [errsE,.rd s (l.map intV)]->proof_listText.L0 out s ((s.n:Nat):Int) (i:Int) w' λr w'=>r=.returned (.string (ba (listB l)))/\Fr0 w w':=by
  intro k
  induction k with
  |zero=>
   intro i out w' hk H
   have hle:=items_le (l.take i) λx hx=>hi x (qmT hx)
   rw [qlT] at hle
   refine proof_listText.L0_step _ _ _ _ _ _ (sel_false (decide_eq_false (by omega)) (H.apB 0 rfl 41 (by simp only [qlC];omega) λs1 w1 H1=>⟨_,bytes_str (OwnRow.rd1 (H1.get 0)),?_,H1.fr⟩))
   rw [qtOL (by omega)];rfl
  |succ k ih=>
   intro i out w' hk H
   have hg:l[i]? =some l[i]:=qgE (by omega)
   generalize l[i]=x at hg
   have hx:=hi x (qmG hg)
   have hle:=items_le (l.take i) λx hx=>hi x (qmT hx)
   rw [qlT] at hle
   have ht:l.take (i+1)=l.take i++[x]:=by rw [qtO,hg];rfl
   have S1:∀(out:Sl) (xs:List UInt8) (w2:World),xs.length<=30000000->xs++dcI x=40::itemsB (l.take (i+1))->LH F0 w w2 [byE out xs] [errsE,.rd s (l.map intV)]->proof_listText.S1 out x s ((s.n:Nat):Int) (i:Int) w2 λr w'=>r=.returned (.string (ba (listB l)))/\Fr0 w w':=by
    intro out xs w2 hol he H2
    refine H2.aI 0 rfl (by simp) hx (by omega) λs3 w3 H3=>⟨_,rfl,?_⟩
    rw [i64_next _ (by omega)]
    rw [he] at H3
    exact ih (i+1) s3 w3 (by omega) H3
   refine proof_listText.L0_step _ _ _ _ _ _ (sel_true (decide_eq_true (by omega)) ⟨by omega,by omega,Nums.cell (H.getD 1) hg (by rw [Int.toNat_natCast]) λp _ hc=>⟨x,hc,sel_dec (λh0=>H.apB 0 rfl 32 (by simp only [qlC];omega) λs2 w2 H2=>S1 s2 _ w2 (by simp;omega) ?_ H2) (λh0=>S1 out _ w' (by simp only [qlC];omega) ?_ H)⟩⟩)
   .have hne:l.take i≠[]:=λe=>(List.take_eq_nil_iff.1 e).elim (λh=>by omega) λh=>by rw [h] at hk;simp at hk
    rw [ht,items_snoc,if_neg hne]
    simp
   .have h0:i=0:=by omega
    subst h0
    rw [ht];rfl
 exact proof_listText.ok _ w _ (H.nwrow (n:=1) (sz:=1) (cs:=[byteV 40]) rfl (by decide) λw1 H1=>loop l.length 0 _ w1 (by omega) H1)
def joinL:List (List UInt8)->List UInt8
 |[]=>[]
 |[p]=>p
 |p::q::r=>p++32::joinL (q::r)
theorem join_snoc (xs:List (List UInt8)) (p:List UInt8):joinL (xs++[p])=if xs=[] then p else joinL xs++32::p:=by
 induction xs with
 |nil=>rfl
 |cons x xs ih=>
  rw [if_neg (by simp)]
  cases xs with
  |nil=>rfl
  |cons y ys=>
   rw [if_neg (by simp)] at ih
   show joinL (x::((y::ys)++[p]))=_
   show x++32::joinL ((y::ys)++[p])=(x++32::joinL (y::ys))++32::p
   rw [ih]
   simp
section
variable {M:Nat->Prop} {w0 w:World} {D:List En}
theorem p_appendLine {s t:Sl} {xs:List UInt8} {ps:List (List UInt8)} (H:LH M w0 w [byE s xs] D) (hD:En.rd t (ps.map strV)∈D) (hx:xs.length<=10000000000) (hp:∀p∈ps,p.length<=100000000) (hl:ps.length<=10) {K:Post}
  (hK:∀s' w',LH M w0 w' [byE s' (xs++(joinL ps++[10]))] D->K (.returned s'.v) w'):Calls Tryz.prog n_proof_appendLine #[s.v,t.v] w K:=by
 have hn:t.n=ps.length:=by have:=(show Rd w t (ps.map strV) from H.rd _ hD).1;simpa using this
 have jl:∀i:Nat,(joinL (ps.take i)).length<=100000001 *i:=by
  intro i
  induction i with
  |zero=>exact Nat.le_refl _
  |succ i ih=>
   by_cases hi:i<ps.length
   .have hg:ps[i]? =some ps[i]:=qgE hi
    have hh:=hp _ (qmG hg)
    rw [qtO,hg]
    show (joinL (ps.take i++[ps[i]])).length<=_
    rw [join_snoc]
    split
    .omega
    .rw [qlA,qlC];omega
   .rw [qtOL (by omega)] at ih ⊢
    omega
 have loop:∀(k i:Nat) (out:Sl) (w':World),i+k=ps.length->LH M w0 w' [byE out (xs++joinL (ps.take i))] D->proof_appendLine.L0 out t ((t.n:Nat):Int) (i:Int) w' K:=by
  intro k
  induction k with
  |zero=>
   intro i out w' hk H
   have:=jl i
   refine proof_appendLine.L0_step _ _ _ _ _ _ (sel_false (decide_eq_false (by omega)) (H.apB 0 rfl 10 (by rw [qlA];omega) λs1 w1 H1=>hK s1 w1 ?_))
   rw [qtOL (by omega),qaA] at H1
   exact H1
  |succ k ih=>
   intro i out w' hk H
   have hj:=jl i
   have hg:ps[i]? =some ps[i]:=qgE (by omega)
   generalize ps[i]=p at hg
   have hpl:=hp p (qmG hg)
   have ht:ps.take (i+1)=ps.take i++[p]:=by rw [qtO,hg];rfl
   have S1:∀(out:Sl) (ys:List UInt8) (w2:World),ys.length<=20000000000->ys++p=xs++joinL (ps.take (i+1))->LH M w0 w2 [byE out ys] D->proof_appendLine.S1 out (ba p) t ((t.n:Nat):Int) (i:Int) w2 K:=by
    intro out ys w2 hy he H2
    refine H2.apS 0 rfl p (by omega) λs3 w3 H3=>?_
    rw [i64_next _ (by omega)]
    rw [he] at H3
    exact ih (i+1) s3 w3 (by omega) H3
   refine proof_appendLine.L0_step _ _ _ _ _ _ (sel_true (decide_eq_true (by omega)) ⟨by omega,by omega,Rd.get (H.rd _ hD) (i:=i) (v:=strV p) (by rw [qgM,hg];rfl) (by rw [Int.toNat_natCast]) λq _ hc=>⟨_,hc,sel_dec (λh0=>H.apB 0 rfl 32 (by rw [qlA];omega) λs2 w2 H2=>S1 s2 _ w2 (by simp only [qlA,qlC,qlN];omega) ?_ H2) (λh0=>S1 out _ w' (by rw [qlA];omega) ?_ H)⟩⟩)
   .have hne:ps.take i≠[]:=λe=>(List.take_eq_nil_iff.1 e).elim (λh=>by omega) λh=>by rw [h] at hk;simp at hk
    rw [ht,join_snoc,if_neg hne]
    simp
   .have h0:i=0:=by omega
    subst h0
    rw [ht];simp [joinL]
 refine proof_appendLine.ok _ _ w _ (loop ps.length 0 s w (by omega) ?_)
 rw [show joinL (ps.take 0)=[] from rfl,qaN]
 exact H
end
theorem line_join (s:Stp):joinL [wordK s.kind,dcI s.node,dcI s.rule,nmB s,listB s.params,listB s.hints,listB s.lits]=lineB s:=rfl
section
variable {M:Nat->Prop} {w0 w:World} {D:List En}
theorem p_appendSteps {out s:Sl} {xs:List UInt8} {l:List Sp} (H:LH M w0 w [byE out xs] D) (hD:errsE∈D) (hW:wordsE∈D) (hS:En.sp s l∈D) (hs:∀d∈l,LnOk d.x) (hl:l.length<=10) (hx:xs.length<=1000000000) {K:Post}
  (hK:∀s' w',LH M w0 w' [byE s' (xs++(xsp l).flatMap lineN)] D->K (.returned s'.v) w'):Calls Tryz.prog n_proof_appendSteps #[out.v,s.v] w K:=by
 have hn:=(sp_P.1 (H.rd _ hS)).n
 have fl:∀i,(((xsp l).take i).flatMap lineN).length<=70000001 *i:=by
  intro i
  induction i with
  |zero=>simp
  |succ i ih=>
   by_cases hi:i<l.length
   .have hg:l[i]? =some l[i]:=qgE hi
    have hh:=line_le (hs _ (qmG hg))
    rw [qtO,qgM,hg,List.flatMap_append]
    simp only [qlA,Option.map_some,Option.toList_some,qfC,List.flatMap_nil,qaN,lineN,qlC,qlN]
    omega
   .rw [qtOL (by simp;omega)] at ih ⊢
    omega
 have loop:∀(k i:Nat) (o:Sl) (w':World),i+k=l.length->LH M w0 w' [byE o (xs++((xsp l).take i).flatMap lineN)] D->proof_appendSteps.L0T o s ((s.n:Nat):Int) (i:Int) w' K:=by
  intro k
  induction k with
  |zero=>
   intro i o w' hk H
   refine proof_appendSteps.L0T_step _ _ _ _ _ _ (sel_false (decide_eq_false (by omega)) (hK o w' ?_))
   rw [qtOL (by simp;omega)] at H
   exact H
  |succ k ih=>
   intro i o w' hk H
   have hg:l[i]? =some l[i]:=qgE (by omega)
   generalize l[i]=d at hg
   have hd:=qmG hg
   have hok:=hs d hd
   have hfl:=fl i
   refine proof_appendSteps.L0T_step _ _ _ _ _ _ (sel_true (decide_eq_true (by omega)) ⟨by omega,by omega,(sp_P.1 (H.rd _ hS)).get hg λp hp=>?_⟩)
   rw [Int.toNat_natCast]
   refine ⟨_,_,_,_,_,_,_,hp.c0,hp.c1,hp.c2,hp.c3,hp.c4,hp.c5,hp.c6,H.newg λb w1 H1=>?_⟩
   have S1:∀nm w2,nm=ba (nmB d.x)->LH M w0 w2 ([byE o (xs++((xsp l).take i).flatMap lineN)]++[.g b]) D->proof_appendSteps.S1T o b d.x.kind d.x.node d.x.rule d.p d.x.nm d.l d.h nm s ((s.n:Nat):Int) (i:Int) w2 K:=by
    rintro _ w2 rfl H2
    obtain ⟨j,hj⟩:=Int.eq_ofNat_of_zero_le hok.kind.1
    have hj6:j<6:=by have:=hok.kind.2;omega
    have hw:wordKL.getD j []=wordK d.x.kind:=by unfold wordK;rw [hj];rfl
    have wl:∀{w':World},wordsE.P w'->w'.cell? ((Addr.mk 0 0 none).add (Int.toNat (j:Int) *1))=some (.string (ba (wordK d.x.kind))):=λh=>by rw [Int.toNat_natCast,Nat.mul_one,<-hw];exact words_ld h j hj6
    rw [hj]
    refine ⟨by omega,by show (j:Int)<6;omega,H2.locg λw3 H3=>⟨_,wl (H3.rd _ hW),H3.callg (c_Itoa hok.node (H3.rd _ hD).1) ?_⟩⟩
    rintro _ w4 rfl H4
    refine ⟨_,rfl,wl (H4.rd _ hW),H4.callg (c_Itoa hok.rule (H4.rd _ hD).1) ?_⟩
    rintro _ w5 rfl H5
    have sp:=λ{w':World} (H:LH M w0 w' ([byE o (xs++((xsp l).take i).flatMap lineN)]++[.g b]) D)=>(sp_P.1 (H.rd _ hS)).2 d hd
    refine ⟨_,rfl,wl (H5.rd _ hW),H5.callg (p_listText (l:=d.x.params) (sp H5).1 hok.params.1 hok.params.2 (H5.rd _ hD)) ?_⟩
    rintro _ w6 rfl H6
    refine ⟨_,rfl,wl (H6.rd _ hW),H6.callg (p_listText (l:=d.x.hints) (sp H6).2.2 hok.hints.1 hok.hints.2 (H6.rd _ hD)) ?_⟩
    rintro _ w7 rfl H7
    refine ⟨_,rfl,wl (H7.rd _ hW),H7.callg (p_listText (l:=d.x.lits) (sp H7).2.1 hok.lits.1 hok.lits.2 (H7.rd _ hD)) ?_⟩
    rintro _ w8 rfl H8
    refine ⟨_,rfl,wl (H8.rd _ hW),?_⟩
    obtain ⟨ps,hps⟩:∃ps,ps=[wordK d.x.kind,dcI d.x.node,dcI d.x.rule,nmB d.x,listB d.x.params,listB d.x.hints,listB d.x.lits]:=⟨_,rfl⟩
    have ecs:(#[.string (ba (wordK d.x.kind)),.string (ba (dcI d.x.node)),.string (ba (dcI d.x.rule)),.string (ba (nmB d.x)),.string (ba (listB d.x.params)),.string (ba (listB d.x.hints)),.string (ba (listB d.x.lits))]:Array Value)=(ps.map strV).toArray:=by rw [hps];rfl
    have hpl:ps.length=7:=by rw [hps];rfl
    rw [ecs]
    refine H8.nwrow (n:=7) (sz:=1) (cs:=ps.map strV) (by simp [hpl]) (by decide) λw9 H9=>?_
    have H9':LH M w0 w9 [byE o (xs++((xsp l).take i).flatMap lineN),En.g b] (D++[.rd ⟨some (at0 w8.heap.size),7,7⟩ (ps.map strV)]):=H9.freeze 2 (.rd ⟨some (at0 w8.heap.size),7,7⟩ (ps.map strV)) rfl (OwnRow.rd1 (H9.get 2)) λq hq=>row_fp' hq
    have H10:LH M w0 w9 ([En.g b]++[byE o (xs++((xsp l).take i).flatMap lineN)]) (D++[.rd ⟨some (at0 w8.heap.size),7,7⟩ (ps.map strV)]):=H9'.perm (List.Perm.swap _ _ _)
    refine ⟨_,g_off H10,p_appendLine (s:=o) (t:=⟨some (at0 w8.heap.size),7,7⟩) (xs:=xs++((xsp l).take i).flatMap lineN) (ps:=ps) H10.part (qmR _ (qmS.2 rfl)) (by rw [qlA];omega) ?_ (by omega) λs' w11 H11=>⟨H11.fr,s',rfl,?_⟩⟩
    .have l1:=dcI_le hok.node
     have l2:=dcI_le hok.rule
     have l3:=list_le hok.params.1
     have l4:=list_le hok.hints.1
     have l5:=list_le hok.lits.1
     have m3:=hok.params.2
     have m4:=hok.hints.2
     have m5:=hok.lits.2
     have m6:=nmB_le d.x
     have m7:=hok.nm
     have m8:=word_le d.x.kind
     intro p hp
     rw [hps] at hp
     simp only [qmC,qnM,or_false] at hp
     rcases hp with rfl|rfl|rfl|rfl|rfl|rfl|rfl<;>omega
    .have H12:=(H10.embed H11 λe he q hq=>.inr ⟨e,he,hq⟩).forget D λe he=>qmL _ he
     rw [i64_next _ (by omega)]
     refine ih (i+1) s' w11 (by omega) ?_
     have et:xs++((xsp l).take (i+1)).flatMap lineN=xs++((xsp l).take i).flatMap lineN++(joinL ps++[10]):=by
      rw [hps,line_join,qtO,qgM,hg]
      simp [lineN]
     rw [et]
     exact (H12.perm (List.Perm.swap _ _ _)).take 1
   exact sel_tx (λh=>H1.locg λw2 H2=>S1 _ w2 (by unfold nmB;rw [if_pos (nm_tx.1 h)];rfl) H2) (λh=>H1.locg λw2 H2=>S1 _ w2 (by unfold nmB;rw [if_neg (λe=>h (nm_tx.2 e)),ba_bl]) H2)
 refine proof_appendSteps.okT _ _ w _ (loop l.length 0 out w (by omega) ?_)
 rw [List.take_zero,List.flatMap_nil,qaN]
 exact H
theorem p_Print {s:Sl} {l:List Sp} (h:SPr w s l) (hs:∀d∈l,LnOk d.x) (hl:l.length<=10) (he:Errs w) (hw:wordsE.P w) (hv:proofE (xsp l)=0):
  Calls Tryz.prog n_proof_Print #[.agg #[(⟨none,0,0⟩:Sl).v,s.v]] w λr w'=>r=.returned (.tuple #[.string (ba ((xsp l).flatMap lineN)),.i 0])/\Fr0 w w':=by
 have hsl:∀d∈l,SpL d:=λd hd=>⟨by have:=(hs d hd).params.2;omega,by have:=(hs d hd).lits.2;omega,by have:=(hs d hd).hints.2;omega⟩
 refine proof_Print.okT _ _ w _ ((lh0 (w:=w) [errsE,wordsE,.sp s l] (by
  intro e h'
  simp only [qmC,qnM,or_false] at h'
  rcases h' with rfl|rfl|rfl
  .exact he
  .exact hw
  .exact sp_P.2 h)).newg λb w1 H1=>H1.callg (k_Valid (by omega) hsl (sp_P.1 (H1.getD 2))) ?_)
 rintro _ w2 rfl H2
 refine ⟨_,rfl,sel_ne (λh=>absurd hv h) (λ_=>proof_Print.L0T_step _ _ _ _ _ _ _ _ _ (sel_false rfl ?_))⟩
 have H3:=H2.nilrow ty_uint8 1
 refine ⟨_,g_off H3,p_appendSteps (xs:=[]) H3.part (by simp) (by simp) (by simp) hs hl (by simp) λs' w3 H4=>⟨H4.fr,s',rfl,?_⟩⟩
 have H5:=H3.embed H4 λe he q hq=>.inr ⟨e,he,hq⟩
 exact ⟨_,bytes_str (OwnRow.rd1 (H5.get 1)),rfl,H5.fr⟩
end
set_option maxHeartbeats 2000000
def lvS:Stp:=⟨0,-1,0,[0],ba [],[1],[]⟩
def lvT:Stp:=⟨5,0,0,[],ba [],[-3,4],[0,2]⟩
theorem dc_small {n:Int} (h:0<=n) (h9:n<10):dcI n=[digB n.natAbs]:=by unfold dcI;rw [if_neg (by omega),dcU_lt (by omega)]
theorem dc_neg {n:Int} (h:n<0) (h9:-10<n):dcI n=[45,digB n.natAbs]:=by unfold dcI;rw [if_pos h,dcU_lt (by omega)]
theorem lv_S:lineN lvS=[103,97,116,101,32,45,49,32,48,32,45,32,40,48,41,32,40,41,32,40,49,41,10]:=by
 have e1:dcI (-1)=[45,49]:=dc_neg (by decide) (by decide)
 have e0:dcI 0=[48]:=dc_small (by decide) (by decide)
 have e2:dcI 1=[49]:=dc_small (by decide) (by decide)
 show (wordK 0++32::(dcI (-1)++32::(dcI 0++32::([45]++32::((40::dcI 0++[41])++32::([40,41]++32::(40::dcI 1++[41])))))))++[10]=_
 rw [e1,e0,e2];rfl
theorem lv_T:lineN lvT=[114,101,115,111,108,118,101,32,48,32,48,32,45,32,40,41,32,40,48,32,50,41,32,40,45,51,32,52,41,10]:=by
 have e3:dcI (-3)=[45,51]:=dc_neg (by decide) (by decide)
 have e0:dcI 0=[48]:=dc_small (by decide) (by decide)
 have e2:dcI 2=[50]:=dc_small (by decide) (by decide)
 have e4:dcI 4=[52]:=dc_small (by decide) (by decide)
 show (wordK 5++32::(dcI 0++32::(dcI 0++32::([45]++32::([40,41]++32::((40::(dcI 0++32::dcI 2)++[41])++32::(40::(dcI (-3)++32::dcI 4)++[41])))))))++[10]=_
 rw [e3,e0,e2,e4];rfl
theorem lv_valid:proofE [lvS,lvS,lvS,lvT]=0:=by decide
theorem ln_lv:LnOk lvS/\LnOk lvT:=by
 constructor<;>exact ⟨by decide,by decide,by decide,⟨by decide,by decide⟩,⟨by decide,by decide⟩,⟨by decide,by decide⟩,by decide⟩
theorem lv_app (a l:List UInt8):ba (a++(a++(a++(l++[]))))=ba a++ba a++ba a++ba l:=by simp only [ba_app,qaN,qaA]
theorem c_lives25 {w:World} (he:Errs w) (hw:wordsE.P w):Calls Tryz.prog n_enthymemelaw25_lives #[] w λr w'=>r=.returned (.bool true)/\Fr0 w w':=by
 refine enthymemelaw25_lives.okT w _ ((lh0 (w:=w) [errsE,wordsE] (by
  intro e h
  simp only [qmC,qnM,or_false] at h
  rcases h with rfl|rfl
  .exact he
  .exact hw)).nwrow (n:=2) (sz:=1) (cs:=[.i 0,.i 2]) rfl (by decide) λw1 H1=>H1.nwrow (n:=2) (sz:=1) (cs:=[.i (-3),.i 4]) rfl (by decide) λw2 H2=>H2.newg λb1 w3 H3=>H3.locg λw10 H10=>H10.nwrow (n:=1) (sz:=1) (cs:=[.i 0]) rfl (by decide) λw11 H11=>H11.nwrow (n:=1) (sz:=1) (cs:=[.i 1]) rfl (by decide) λw12 H12=>H12.newg λb2 w13 H13=>H13.locg λw20 H20=>?_)
 let D:List Sp:=[⟨lvS,⟨some (at0 w10.heap.size),1,1⟩,⟨some (at0 w11.heap.size),1,1⟩,⟨none,0,0⟩⟩,⟨lvS,⟨some (at0 w10.heap.size),1,1⟩,⟨some (at0 w11.heap.size),1,1⟩,⟨none,0,0⟩⟩,⟨lvS,⟨some (at0 w10.heap.size),1,1⟩,⟨some (at0 w11.heap.size),1,1⟩,⟨none,0,0⟩⟩,⟨lvT,⟨none,0,0⟩,⟨some (at0 w1.heap.size),2,2⟩,⟨some (at0 w.heap.size),2,2⟩⟩]
 refine H20.nwx λw21 _ H21 hx=>?_
 have r0:Nums w21 ⟨some (at0 w.heap.size),2,2⟩ [0,2]:=OwnRow.rd1 (H21.get 0)
 have r1:Nums w21 ⟨some (at0 w1.heap.size),2,2⟩ [-3,4]:=OwnRow.rd1 (H21.get 1)
 have r2:Nums w21 ⟨some (at0 w10.heap.size),1,1⟩ [0]:=OwnRow.rd1 (H21.get 3)
 have r3:Nums w21 ⟨some (at0 w11.heap.size),1,1⟩ [1]:=OwnRow.rd1 (H21.get 4)
 have n0:Nums w21 ⟨none,0,0⟩ []:=Rd.nil w21
 have sp:SPr w21 ⟨some (at0 w20.heap.size),4,4⟩ D:=⟨row_n (cs:=D.flatMap Sp.c) hx rfl,λd hd=>by
  simp only [D,qmC,qnM,or_false] at hd
  rcases hd with rfl|rfl|rfl|rfl
  .exact ⟨r2,r3,n0⟩
  .exact ⟨r2,r3,n0⟩
  .exact ⟨r2,r3,n0⟩
  .exact ⟨n0,r1,r0⟩⟩
 have hln:∀d∈D,LnOk d.x:=λd hd=>by
  simp only [D,qmC,qnM,or_false] at hd
  rcases hd with rfl|rfl|rfl|rfl
  .exact ln_lv.1
  .exact ln_lv.1
  .exact ln_lv.1
  .exact ln_lv.2
 have hc:=p_Print (w:=w21) sp hln (Nat.le_of_ble_eq_true rfl) (H21.rd errsE (.head _)) (H21.rd wordsE (.tail _ (.head _))) lv_valid
 refine H21.callg hc ?_
 rintro _ w22 rfl H22
 refine ⟨_,_,rfl,sel_true rfl ⟨by decide,by decide,by decide,?_,H22.fr⟩⟩
 have e:(xsp D).flatMap lineN=lineN lvS++(lineN lvS++(lineN lvS++(lineN lvT++[]))):=rfl
 rw [e,lv_S,lv_T]
 exact congrArg (λb=>Ending.returned (.bool b)) (beq_iff_eq.2 (congrArg ByteArray.toList (lv_app [103,97,116,101,32,45,49,32,48,32,45,32,40,48,41,32,40,41,32,40,49,41,10] [114,101,115,111,108,118,101,32,48,32,48,32,45,32,40,41,32,40,48,32,50,41,32,40,45,51,32,52,41,10])))
theorem c_hasBegin (t:List UInt8) (ht:t.length<=1000000000) (w:World):Calls Tryz.prog n_enthymemelaw25_hasBegin #[.string (ba t)] w λr w'=>(∃b:Bool,r=.returned (.bool b))/\Fr0 w w':=by
 have hz:=ba_size t
 refine enthymemelaw25_hasBegin.ok _ w _ ?_
 have loop:∀(k i:Nat),i+k=t.length->enthymemelaw25_hasBegin.L0 (ba t) (i:Int) w λr w'=>(∃b:Bool,r=.returned (.bool b))/\Fr0 w w':=by
  intro k
  induction k with
  |zero=>
   intro i hk
   have e5:IntKind.wrap .i64 ((i:Int)+5)=((i+5:Nat):Int):=by rw [IntWalk.i64_in _ (by omega)];omega
   refine enthymemelaw25_hasBegin.L0_step _ _ _ _ ?_
   rw [e5]
   exact sel_false (decide_eq_false (by omega)) ⟨⟨_,rfl⟩,Fr.refl _ _⟩
  |succ k ih=>
   intro i hk
   have e5:IntKind.wrap .i64 ((i:Int)+5)=((i+5:Nat):Int):=by rw [IntWalk.i64_in _ (by omega)];omega
   refine enthymemelaw25_hasBegin.L0_step _ _ _ _ ?_
   rw [e5,i64_next _ (by omega)]
   exact sel_dec (λh=>⟨by omega,by omega,by omega,by rw [Int.toNat_natCast];omega,sel_intro (λ_=>⟨⟨_,rfl⟩,Fr.refl _ _⟩) (λ_=>ih (i+1) (by omega))⟩) (λ_=>⟨⟨_,rfl⟩,Fr.refl _ _⟩)
 exact loop t.length 0 (by omega)
def PR (t:List UInt8) (n e:Int) (xs:List Stp):Prop:=∃ss rest,Reads t ss rest/\
 ((rest≠[]/\n=((t.length - rest.length:Nat):Int)/\e=2/\xs=[])\/(rest=[]/\proofE ss≠0/\n=(t.length:Int)/\e=proofE ss/\xs=[])\/(rest=[]/\proofE ss=0/\n=0/\e=0/\xs=ss))
theorem PR.uni {t:List UInt8} {n e n' e':Int} {xs xs':List Stp} (h:PR t n e xs) (h':PR t n' e' xs'):n=n'/\e=e'/\xs=xs':=by
 obtain ⟨ss,rest,hr,h⟩:=h
 obtain ⟨ss',rest',hr',h'⟩:=h'
 obtain ⟨rfl,rfl⟩:=reads_uni hr hr'
 rcases h with ⟨a1,a2,a3,a4⟩|⟨a1,a2,a3,a4,a5⟩|⟨a1,a2,a3,a4,a5⟩<;>rcases h' with ⟨b1,b2,b3,b4⟩|⟨b1,b2,b3,b4,b5⟩|⟨b1,b2,b3,b4,b5⟩
 .exact ⟨by rw [a2,b2],by rw [a3,b3],by rw [a4,b4]⟩
 .exact absurd b1 a1
 .exact absurd b1 a1
 .exact absurd a1 b1
 .exact ⟨by rw [a3,b3],by rw [a4,b4],by rw [a5,b5]⟩
 .exact absurd b2 a2
 .exact absurd a1 b1
 .exact absurd a2 b2
 .exact ⟨by rw [a3,b3],by rw [a4,b4],by rw [a5,b5]⟩
theorem PR.nil {t:List UInt8} {n e:Int} {xs:List Stp} (h:PR t n e xs) (he:e≠0):xs=[]:=by
 obtain ⟨ss,rest,_,⟨_,_,_,h⟩|⟨_,_,_,_,h⟩|⟨_,_,_,h,_⟩⟩:=h
 .exact h
 .exact h
 .exact absurd h he
theorem PR.en {t:List UInt8} {n e:Int} {xs:List Stp} (h:PR t n e xs) (hl:t.length<=3000):(∀s∈xs,EnOk s)/\xs.length<=200:=by
 obtain ⟨ss,rest,hr,⟨_,_,_,rfl⟩|⟨_,_,_,_,rfl⟩|⟨_,_,_,_,rfl⟩⟩:=h
 .exact ⟨λs hs=>(qnM hs).elim,Nat.zero_le _⟩
 .exact ⟨λs hs=>(qnM hs).elim,Nat.zero_le _⟩
 .exact reads_en hr hl
def PRet (w0:World) (t:List UInt8) (r:Ending) (w':World):Prop:=∃(s:Sl) (ds:List Sp) (n e:Int),r=.returned (.tuple #[.agg #[(⟨none,0,0⟩:Sl).v,s.v],.i n,.i e])/\Fr0 w0 w'/\SPr w' s ds/\(∀b∈(En.sp s ds).fp,w0.heap.size<=b)/\PR t n e (xsp ds)
theorem p_ret {w0:World} {t:List UInt8} {r:Ending} {w':World} (h:ParseR w0 t r w'):PRet w0 t r w':=by
 have nil:SPr w' ⟨none,0,0⟩ []:=⟨RdN.nil 7 w',λd hd=>(qnM hd).elim⟩
 have fn:∀b∈(En.sp ⟨none,0,0⟩ []).fp,w0.heap.size<=b:=λb hb=>by
  rcases sp_fp.1 hb with h|h
  .have:b∈(if (([]:List Sp).flatMap Sp.c)=[] then [] else blkL ⟨none,0,0⟩):=h
   simp at this
  .obtain ⟨e,he,_⟩:=all_fp.1 h
   simp [spL] at he
 obtain ⟨ss,rest,hr,f,⟨h1,rfl⟩|⟨h1,h2,rfl⟩|⟨h1,h2,s,ds,h3,rfl,h4,h5⟩⟩:=h
 .exact ⟨⟨none,0,0⟩,[],_,_,rfl,f,nil,fn,ss,rest,hr,.inl ⟨h1,rfl,rfl,rfl⟩⟩
 .exact ⟨⟨none,0,0⟩,[],_,_,rfl,f,nil,fn,ss,rest,hr,.inr (.inl ⟨h1,h2,rfl,rfl,rfl⟩)⟩
 .exact ⟨s,ds,_,_,rfl,f,h4,h5,ss,rest,hr,.inr (.inr ⟨h1,h2,rfl,rfl,h3⟩)⟩
theorem rd_L4 {w0:World} {b:Nat} {ts:List (List UInt8)} (h4:ts.length=4) (hT:∀t∈ts,NoBeg t/\t.length<=3000):∀(k i:Nat) (w:World) (D:List En),i+k=4->errsE∈D->wordsE∈D->LH F0 w0 w [.c b (ts.map strV) ty_string] D->
  enthymemelaw25_ProofReads.L4T ⟨some (at0 b),4,4⟩ (i:Int) w λr w'=>r=.returned (.bool true)/\Fr0 w0 w':=by
 intro k
 induction k with
 |zero=>
  intro i w D hik he hw H
  refine enthymemelaw25_ProofReads.L4T_step _ _ _ _ (sel_false (decide_eq_false (by omega)) (H.call (c_lives25 (H.rd errsE he) (H.rd wordsE hw)) ?_))
  rintro _ w1 rfl H1
  exact ⟨_,rfl,rfl,H1.fr⟩
 |succ k ih=>
  intro i w D hik he hw H
  obtain ⟨t,hg⟩:∃t,ts[i]? =some t:=⟨ts[i],qgE (by omega)⟩
  obtain ⟨hb,hl⟩:=hT t (qmG hg)
  have hgs:(ts.map strV)[i]? =some (.string (ba t)):=by rw [qgM,hg];rfl
  have ce:∀{w':World} {Z D':List En},LH F0 w0 w' (.c b (ts.map strV) ty_string::Z) D'->w'.cell? ((at0 b).add (Int.toNat (i:Int) *1))=some (.string (ba t)):=λH'=>by
   rw [Int.toNat_natCast,Nat.mul_one];exact H'.ld 0 i rfl hgs
  have i0:(0:Int)<=(i:Int):=by omega
  have i4:(i:Int)<((4:Nat):Int):=by omega
  refine enthymemelaw25_ProofReads.L4T_step _ _ _ _ (sel_true (decide_eq_true (by omega)) ⟨i0,i4,optP_mk ⟨_,ce H,((k_Parse (t:=t) (by omega) hb he hw (lh0 D H.rd)).mono λr w' h=>p_ret h).mono ?_⟩⟩)
  rintro _ w6 ⟨s,ds,n,e,rfl,f6,hs6,hf6,p6⟩
  have H6:=(H.fresh f6).rd (.sp s ds) (sp_P.2 hs6) hf6
  refine ⟨_,_,_,_,rfl,H6.newg λb23 w7 H7=>⟨i0,i4,optP_mk (H7.locg λw9 H9=>⟨_,ce H9,callF0 (((c_Parse25 (t:=t) (by omega) w9).mono λr w' h=>p_ret h).mono ?_)⟩)⟩⟩
  rintro _ w10 ⟨s',ds',n',e',rfl,f10,hs10,hf10,p10⟩
  have H10:=(H9.fresh f10).rd (.sp s' ds') (sp_P.2 hs10) hf10
  refine ⟨f10,_,_,_,_,rfl,H10.newg λb26 w11 H11=>⟨i0,i4,optP_mk (H11.locg λw13 H13=>⟨_,ce H13,?_⟩)⟩⟩
  obtain ⟨rfl,rfl,hx⟩:=p6.uni p10
  have nx:∀w',LH F0 w0 w' [.c b (ts.map strV) ty_string,.g b23,.g b26] (D++[.sp s ds]++[.sp s' ds'])->enthymemelaw25_ProofReads.S5T ⟨some (at0 b),4,4⟩ (i:Int) w' λr w'=>r=.returned (.bool true)/\Fr0 w0 w':=λw' H'=>by
   show enthymemelaw25_ProofReads.L4T _ (IntKind.wrap .i64 ((i:Int)+1)) _ _
   rw [i64_next i (by omega)]
   exact ih (i+1) w' _ (by omega) (qmL _ (qmL _ he)) (qmL _ (qmL _ hw)) (H'.take 1)
  have nl:e≠0->s.n=0:=λh0=>by
   have:=p6.nil h0
   have hn:=hs6.n
   have hl0:(xsp ds).length=ds.length:=qlM ..
   rw [this] at hl0
   have hl1:0=ds.length:=hl0
   omega
  have S6:∀w',LH F0 w0 w' [.c b (ts.map strV) ty_string,.g b23,.g b26] (D++[.sp s ds]++[.sp s' ds'])->enthymemelaw25_ProofReads.S6T ⟨some (at0 b),4,4⟩ (i:Int) b23 ⟨none,0,0⟩ s n e b26 ⟨none,0,0⟩ s' n e w' λr w'=>r=.returned (.bool true)/\Fr0 w0 w':=λw' H'=>by
   refine sel_false (by simp) (sel_false (by simp) (sel_eq (λh0=>?_) (λh0=>sel_true (by simpa using h0) (sel_false (decide_eq_false (by rw [nl h0];omega)) (nx w' H')))))
   have hds:SPr w' s ds:=sp_P.1 (H'.rd (.sp s ds) (by simp))
   have hds':SPr w' s' ds':=sp_P.1 (H'.rd (.sp s' ds') (by simp))
   obtain ⟨hen,hlen⟩:=p6.en hl
   refine H'.callg (c_SameProof hds hds' (λd hd=>hen d.x (qmM.2 ⟨d,hd,rfl⟩)) (by rw [qlM] at hlen;exact hlen) hx) ?_
   rintro _ w2 rfl H2
   exact ⟨_,rfl,sel_false rfl (sel_false (by simp [h0]) (nx w2 H2))⟩
  refine sel_dec (λ_=>⟨i0,i4,optP_mk ⟨_,ce H13,H13.callg (c_hasBegin t (by omega) w13) ?_⟩⟩) (λ_=>S6 w13 H13)
  rintro _ w14 ⟨bb,rfl⟩ H14
  exact ⟨_,rfl,sel_intro (λ_=>nx w14 H14) (λ_=>S6 w14 H14)⟩
theorem str_setF (w:World) (t:ByteArray):∃s' w',(Go.convert ty_string ty_sl_uint8 (.string t)).run Tryz.prog w=.ok s'.v w'/\Fr0 w w'/\Bytes w' s' (bl t)/\s'.n=t.size/\(∀b∈blkL s',w.heap.size<=b)/\∀(m:Nat) (c:UInt8),m<t.size->∃p,s'.a=some p/\(w'.cell? (p.add m)).isSome=true/\w'.frozen? (p.add m)=false/\Bytes (w'.setCell (p.add m) (byteV c)) s' ((bl t).set m c)/\Fr0 w (w'.setCell (p.add m) (byteV c)):=by
 have hrow:∀(i:Nat) (v:Value),((bl t).map byteV)[i]? =some v->(bytesRow t (grownCap w t.size 0 ty_uint8))[i]? =some v:=λi v hi=>by
  rw [bytesRow,Array.getElem?_append]
  have hlt:i<t.data.size:=by
   have:=(qgS.1 hi).1
   simpa [bl] using this
  rw [if_pos (by simpa using hlt)]
  simpa [bl,byteV] using hi
 have hsz:t.size<=(bytesRow t (grownCap w t.size 0 ty_uint8)).size:=by
  unfold bytesRow
  rw [Array.size_append,Array.size_map]
  exact Nat.le_add_right _ _
 have hf:Fr0 w (w.drew.alloc (.cells (bytesRow t (grownCap w t.size 0 ty_uint8)) ty_uint8 ((bytesRow t (grownCap w t.size 0 ty_uint8)).size,(bytesRow t (grownCap w t.size 0 ty_uint8)).size+1))):=(Fr.drew _ w).tr0 (Fr.alloc _ _ _)
 have hnew:=heap_new w.drew (.cells (bytesRow t (grownCap w t.size 0 ty_uint8)) ty_uint8 ((bytesRow t (grownCap w t.size 0 ty_uint8)).size,(bytesRow t (grownCap w t.size 0 ty_uint8)).size+1))
 refine ⟨⟨some ⟨w.heap.size,0,none⟩,t.size,grownCap w t.size 0 ty_uint8⟩,_,run_bytes_of_string (P:=Tryz.prog) w ty_string ty_sl_uint8 ty_uint8 t str_und el_bytes.ht u8_und,hf,?_,rfl,λb hb=>(by simp [blkL] at hb;omega),?_⟩
 .refine rd_in (by simp [bl_len]) (grownCap_ge w t.size 0 _) (λh=>by cases h) λi v hi=>⟨_,rfl,?_⟩
  exact cellAt (p:=at0 w.heap.size) hnew rfl (by rw [show (at0 w.heap.size).off+i=i from Nat.zero_add _];exact hrow i v hi)
 .intro m c hm
  generalize (bytesRow t (grownCap w t.size 0 ty_uint8))=row at *
  generalize hw1:w.drew.alloc (.cells row ty_uint8 (row.size,row.size+1))=w1 at *
  have hnew':w1.heap[(at0 w.heap.size).block]? =some (.cells row ty_uint8 (row.size,row.size+1)):=hnew
  have ho:((at0 w.heap.size).add m).off=m:=by
   unfold Addr.add;split<;>simp_all
  have hset:=setAt (p:=at0 w.heap.size) (i:=m) (v:=byteV c) hnew' rfl
  refine ⟨at0 w.heap.size,rfl,?_,?_,?_,?_⟩
  .rw [cellAt (p:=at0 w.heap.size) (v:=row[m]'(by omega)) hnew' rfl (by simp)];rfl
  .unfold World.frozen?
   rw [add_block,hnew']
   simp only [ho]
   simp;omega
  .refine rd_in (by simp [bl_len]) (grownCap_ge w t.size 0 _) (λh=>by cases h) λi v hi=>⟨_,rfl,?_⟩
   refine cellAt (p:=at0 w.heap.size) hset rfl ?_
   rw [show (at0 w.heap.size).off+i=i from Nat.zero_add _,show (at0 w.heap.size).off+m=m from Nat.zero_add _,Array.getElem?_setIfInBounds]
   rw [List.map_set,List.getElem?_set] at hi
   split
   .rename_i e
    rw [if_pos e] at hi
    subst e
    rw [if_pos (by omega)]
    split at hi
    .exact hi
    .cases hi
   .rename_i e
    rw [if_neg e] at hi
    exact hrow i v hi
  .have hs:=Fr.set (M:=(·=w.heap.size)) w1 ((at0 w.heap.size).add m) (byteV c) (add_block _ _)
   exact hf.trans hs λx hx hxm=>by omega
theorem ext_0 (T:List UInt8) (n:Nat):(ba T).extract 0 n=ba (T.take n):=by
 by_cases h:n<=T.length
 .have e:=ext_mid (A:=[]) (a:=T.take n) (b:=T.drop n) (i:=0) (j:=n) rfl (by simp [qlT];omega)
  rwa [List.nil_append,List.take_append_drop] at e
 .have e:=ext_mid (A:=[]) (a:=T) (b:=[]) (i:=0) (j:=T.length) rfl (by simp)
  rw [List.nil_append,qaN] at e
  rw [qtOL (by omega)]
  refine Eq.trans ?_ e
  apply ByteArray.ext
  simp only [ByteArray.data_extract]
  apply Array.ext'
  have hz:(ba T).data.toList=T:=rfl
  simp only [Array.toList_extract,hz,List.extract_eq_take_drop,List.drop_zero,Nat.sub_zero]
  rw [qtOL (by omega),qtOL (by omega)]
section
variable {w0 w:World} {D:List En} {lines:Sl} {bw:Nat} {ls wl:List (List UInt8)} {at2:Int}
abbrev LnB (ls:List (List UInt8)):Prop:=∀l∈ls,npB l=true/\l.length<=209
theorem LnB.text {ls:List (List UInt8)} (h:LnB ls) (hn:ls.length<=8):npB (textB ls)=true/\(textB ls).length<=1680:=by
 have h1:=txt_len (n:=209) (ls:=ls) λl hl=>(h l hl).2
 refine ⟨text_np λl hl=>(h l hl).1,?_⟩
 have:ls.length *(209+1)<=8 *210:=Nat.mul_le_mul_right _ hn
 omega
theorem rd_S3 {k:Nat} {osl bs:Sl} {oth:List (List UInt8)} {j:Nat} {c:UInt8} (ha:I64 at2) (hls:LnB ls) (hll:ls.length<=7) (hk:k<ls.length) (hot:LnB oth) (hol:oth.length<=k+2) (hpos:1<=(textB ls).length) (he:errsE∈D) (hw:wordsE∈D)
  (hb:En.rd bs (((textB ls).set j c).map byteV)∈D) (H:LH F0 w0 w [.row ty_string 1 lines (ls.map strV),.c bw (wl.map strV) ty_string,.row ty_string 1 osl (oth.map strV)] D):
  enthymemelaw25_ProofReads.S3T at2 lines (ba (textB ls)) bs (k:Int) osl w λr w'=>r=.returned (.bool true)/\Fr0 w0 w':=by
 have hz:=ba_size (textB ls)
 obtain ⟨ht1,ht2⟩:=hls.text (by omega)
 have e1:IntKind.wrap .i64 ((k:Int)+1)=((k+1:Nat):Int):=i64_next k (by omega)
 have ho:OwnRow w ty_string 1 lines (ls.map strV):=H.get 0
 have hn:=ho.len
 have hq:OwnRow w ty_string 1 osl (oth.map strV):=H.get 2
 have hm:=hq.len
 simp only [qlM,Nat.mul_one] at hn hm
 show (0:Int)<=IntKind.wrap .i64 ((k:Int)+1)/\_
 rw [e1]
 have hsub:=RdN.sub ho.rdn (k+1) lines.n (by omega) (Nat.le_refl _)
 have esub:((ls.map strV).take (lines.n *1)).drop ((k+1) *1)=(ls.drop (k+1)).map strV:=by
  rw [Nat.mul_one,Nat.mul_one,qtOL (by simp;omega),List.map_drop]
 rw [esub] at hsub
 refine ⟨by omega,by omega,H.apk 2 el_str (src:=subN 1 lines (k+1) lines.n) (news:=(ls.drop (k+1)).map strV) rfl hsub.2.2 hsub.1 (λu hu=>by obtain ⟨x,_,rfl⟩:=qmM.1 hu;rfl) (by show (osl.n+(lines.n - (k+1))) *16<=_;omega) λosl' w1 H1 _ _ _=>H1.dr λw2 H2=>?_⟩
 have H2:LH F0 w0 w2 [.row ty_string 1 lines (ls.map strV),.c bw (wl.map strV) ty_string,.row ty_string 1 osl' ((oth++ls.drop (k+1)).map strV)] D:=by
  rw [qmpA];exact H2
 have hO:LnB (oth++ls.drop (k+1)):=λl hl=>by
  rcases qmA.1 hl with h|h
  .exact hot l h
  .exact hls l (List.mem_of_mem_drop h)
 have hOl:(oth++ls.drop (k+1)).length<=8:=by rw [qlA,List.length_drop];omega
 obtain ⟨ho1,ho2⟩:=hO.text hOl
 generalize oth++ls.drop (k+1)=O at *
 refine ⟨_,bytes_str (H2.rd _ hb),H2.call (c_TextL (OwnRow.rd1 (H2.get 2)) (λt ht=>by have:=(hO t ht).2;omega) (by omega)) ?_⟩
 rintro _ w3 rfl H3
 refine ⟨_,rfl,bytes_str (H3.rd _ hb),H3.call (n_around at2 _ w3 (by omega) ha) ?_⟩
 rintro _ w4 rfl H4
 obtain ⟨r1,r2⟩:=aroundI_range at2 (((ba (textB ls)).size:Nat):Int) (by omega)
 refine ⟨_,rfl,bytes_str (H4.rd _ hb),r1,by omega,H4.nw λw5 _ H5=>?_⟩
 rw [ext_0] at H5
 have H6:LH F0 w0 w5 [.c w4.heap.size (([textB ls,(textB ls).set j c,textB O,(textB ls).take (Int.toNat (aroundI at2 (((ba (textB ls)).size:Nat):Int)))]:List (List UInt8)).map strV) ty_string] D:=H5.sieve [false,false,false,true]
 refine rd_L4 rfl (λt ht=>?_) 4 0 w5 D rfl he hw H6
 simp only [qmC,qnM,or_false] at ht
 rcases ht with rfl|rfl|rfl|rfl
 .exact ⟨np_beg ht1,by omega⟩
 .exact ⟨set_beg ht1 j c,by rw [List.length_set];omega⟩
 .exact ⟨np_beg ho1,by omega⟩
 .exact ⟨take_beg (np_beg ht1) _,by rw [qlT];omega⟩
end
theorem rd_S2 {w0 w:World} {D:List En} {lines:Sl} {bw:Nat} {ls wl:List (List UInt8)} {at2 how3:Int} {c:UInt8} (ha:I64 at2) (hh:I64 how3) (hls:LnB ls) (hll:ls.length<=7) (hwl:LnB wl) (hw12:wl.length=12) (he:errsE∈D) (hw:wordsE∈D)
  (H:LH F0 w0 w [.row ty_string 1 lines (ls.map strV),.c bw (wl.map strV) ty_string] D):
  enthymemelaw25_ProofReads.S2T at2 how3 (c.toNat:Int) lines ⟨some (at0 bw),12,12⟩ w λr w'=>r=.returned (.bool true)/\Fr0 w0 w':=by
 have hz:=ba_size (textB ls)
 obtain ⟨ht1,ht2⟩:=hls.text (by omega)
 refine H.call (c_TextL (OwnRow.rd1 (H.get 0)) (λt ht=>by have:=(hls t ht).2;omega) (by omega)) ?_
 rintro _ w1 rfl H1
 refine ⟨_,rfl,sel_dec (λhpos=>?_) (λ_=>H1.call (c_lives25 (H1.rd errsE he) (H1.rd wordsE hw)) ?_)⟩
 case refine_2=>
  rintro _ w2 rfl H2
  exact ⟨_,rfl,rfl,H2.fr⟩
 obtain ⟨s',w2,cv,f2,_,sn,sf,st⟩:=str_setF w1 (ba (textB ls))
 refine ⟨s',w2,cv,(around_any at2 _ w2 (by omega) ha).mono ?_⟩
 rintro _ _ ⟨rfl,rfl⟩
 obtain ⟨r1,r2⟩:=aroundI_range at2 ((s'.n:Nat):Int) (by omega)
 refine ⟨_,rfl,r1,r2,?_⟩
 generalize aroundI at2 ((s'.n:Nat):Int)=j0 at *
 obtain ⟨j,rfl⟩:=Int.eq_ofNat_of_zero_le r1
 obtain ⟨p,hp,q1,q2,q3,q4⟩:=st j c (by omega)
 rw [hp,Int.toNat_natCast,Nat.mul_one]
 refine optP_mk ⟨q1,q2,?_⟩
 rw [bl_ba] at q3
 have hne:1<=ls.length:=by
  rcases Nat.eq_zero_or_pos ls.length with h|h
  .have:ls=[]:=List.eq_nil_of_length_eq_zero h
   rw [this] at hz
   have h0:(textB ([]:List (List UInt8))).length=0:=rfl
   rw [this] at hpos
   omega
  .exact h
 have H4:=(H1.fresh q4).rd (.rd s' (((textB ls).set j c).map byteV)) q3 (rd_fp sf)
 generalize hw4:w2.setCell (p.add j) (byteV c)=w4 at *
 show Calls _ _ _ (w2.setCell (p.add j) (byteV c)) _
 rw [hw4]
 have ho:OwnRow w4 ty_string 1 lines (ls.map strV):=H4.get 0
 have hn:=ho.len
 have hcap:=ho.cap
 simp only [qlM,Nat.mul_one] at hn
 refine H4.call (n_around at2 _ w4 (by omega) ha) ?_
 rintro _ w5 rfl H5
 obtain ⟨k1,k2⟩:=aroundI_range at2 ((lines.n:Nat):Int) (by omega)
 generalize aroundI at2 ((lines.n:Nat):Int)=k0 at *
 obtain ⟨k,rfl⟩:=Int.eq_ofNat_of_zero_le k1
 refine ⟨_,rfl,k1,by omega,?_⟩
 rw [Int.toNat_natCast]
 have hsub:=RdN.sub (H5.get 0:OwnRow w5 ty_string 1 lines (ls.map strV)).rdn 0 k (by omega) (by omega)
 have esub:((ls.map strV).take (k *1)).drop (0 *1)=(ls.take k).map strV:=by
  simp only [Nat.mul_one,List.drop_zero,List.map_take]
 rw [esub] at hsub
 refine (H5.nilrow ty_string 1).apk 2 el_str (s:=⟨none,0,0⟩) (src:=subN 1 lines 0 k) (news:=(ls.take k).map strV) rfl hsub.2.2 hsub.1 (λu hu=>by obtain ⟨x,_,rfl⟩:=qmM.1 hu;rfl) (by show (0+(k - 0)) *16<=_;omega) λosl w6 H6 hon _ _=>?_
 have H6:LH F0 w0 w6 [.row ty_string 1 lines (ls.map strV),.c bw (wl.map strV) ty_string,.row ty_string 1 osl ((ls.take k).map strV)] (D++[.rd s' (((textB ls).set j c).map byteV)]):=H6
 have hos:osl.n=k:=by rw [hon];show 0+(k - 0)=k;omega
 have hot:LnB (ls.take k):=λl hl=>hls l (qmT hl)
 have S3:∀(osl':Sl) (oth:List (List UInt8)) (w':World),LnB oth->oth.length<=k+2->LH F0 w0 w' [.row ty_string 1 lines (ls.map strV),.c bw (wl.map strV) ty_string,.row ty_string 1 osl' (oth.map strV)] (D++[.rd s' (((textB ls).set j c).map byteV)])->
   enthymemelaw25_ProofReads.S3T at2 lines (ba (textB ls)) s' (k:Int) osl' w' λr w'=>r=.returned (.bool true)/\Fr0 w0 w':=λosl' oth w' h1 h2 H'=>
  rd_S3 (j:=j) (c:=c) ha hls hll (by omega) h1 h2 (by omega) (qmL _ he) (qmL _ hw) (qmR _ (qmS.2 rfl)) H'
 refine H6.call (n_around how3 3 w6 (by omega) hh) ?_
 rintro _ w7 rfl H7
 have get:∀{w':World} {Z D':List En} {a:Nat} {t:List UInt8},LH F0 w0 w' (.row ty_string 1 lines (ls.map strV)::Z) D'->ls[a]? =some t->∀q,lines.a=some q->w'.cell? (q.add (Int.toNat (a:Int) *1))=some (.string (ba t)):=λ{w'} Z D' a t H' hg q hq=>by
  have hd:Rd w' lines (ls.map strV):=OwnRow.rd1 (H'.get 0)
  obtain ⟨q',hq',hc⟩:=hd.2.2.2 a (strV t) (by rw [qgM,hg];rfl)
  rw [hq] at hq'
  cases hq'
  rw [Int.toNat_natCast,Nat.mul_one];exact hc
 have hla:∃q,lines.a=some q:=by
  rcases ho.cases with ⟨_,h2⟩|⟨g,cur,hga,_⟩
  .rw [List.map_eq_nil_iff] at h2;rw [h2] at hne;simp at hne
  .exact ⟨_,hga⟩
 obtain ⟨q,hq⟩:=hla
 refine ⟨_,rfl,sel_eq (λ_=>?_) (λ_=>sel_eq (λ_=>?_) (λ_=>S3 osl _ w7 hot (by rw [qlT];omega) H7))⟩
 .refine H7.call (n_around _ _ w7 (by show (1:Int)<=((12:Nat):Int);omega) (wrap_I64 _)) ?_
  rintro _ w8 rfl H8
  obtain ⟨a1,a2⟩:=aroundI_range (IntKind.wrap .i64 (Int.tdiv how3 3)) ((12:Nat):Int) (by omega)
  refine ⟨_,rfl,a1,a2,?_⟩
  generalize aroundI (IntKind.wrap .i64 (Int.tdiv how3 3)) ((12:Nat):Int)=a0 at *
  obtain ⟨a,rfl⟩:=Int.eq_ofNat_of_zero_le a1
  obtain ⟨t,hg⟩:∃t,wl[a]? =some t:=⟨wl[a],qgE (by omega)⟩
  refine optP_mk ⟨ba t,?_,H8.ap1 2 el_str rfl (λosl' w10 H10 _ _=>S3 osl' (ls.take k++[t]) w10 (λl hl=>?_) (by simp;omega) ?_) (by omega)⟩
  .rw [Int.toNat_natCast,Nat.mul_one];exact H8.ld 1 a rfl (by rw [qgM,hg];rfl)
  .rcases qmA.1 hl with h|h
   .exact hot l h
   .rw [qmS.1 h];exact hwl t (qmG hg)
  .rw [qmpA];exact H10
 .refine H7.dr λw11 H11=>⟨by omega,by omega,optP_of hq ?_⟩
  obtain ⟨t,hg⟩:∃t,ls[k]? =some t:=⟨ls[k],qgE (by omega)⟩
  refine ⟨ba t,get H11 hg q hq,H11.call (n_around _ _ w11 (by omega) (wrap_I64 _)) ?_⟩
  rintro _ w12 rfl H12
  obtain ⟨a1,a2⟩:=aroundI_range (IntKind.wrap .i64 (Int.tdiv how3 3)) ((lines.n:Nat):Int) (by omega)
  generalize aroundI (IntKind.wrap .i64 (Int.tdiv how3 3)) ((lines.n:Nat):Int)=a0 at *
  obtain ⟨a,rfl⟩:=Int.eq_ofNat_of_zero_le a1
  obtain ⟨u,hu⟩:∃u,ls[a]? =some u:=⟨ls[a],qgE (by omega)⟩
  refine ⟨_,rfl,get H12 hg q hq,a1,a2,optP_of hq ⟨ba u,get H12 hu q hq,H12.nwx λw13 _ H13 hx=>H13.apk 2 el_str (src:=⟨some (at0 w12.heap.size),2,2⟩) (news:=([t,u]:List (List UInt8)).map strV) rfl (row_n (cs:=([t,u]:List (List UInt8)).map strV) (sz:=1) hx rfl).2.2 rfl (λv hv=>by obtain ⟨x,_,rfl⟩:=qmM.1 hv;rfl) (by show (osl.n+2) *16<=_;omega) λosl' w14 H14 _ _ _=>S3 osl' (ls.take k++[t,u]) w14 (λl hl=>?_) (by simp;omega) ?_⟩⟩
  .rcases qmA.1 hl with h|h
   .exact hot l h
   .simp only [qmC,qnM,or_false] at h
    rcases h with rfl|rfl
    .exact hls _ (qmG hg)
    .exact hls _ (qmG hu)
  .rw [qmpA];exact H14
def wlB:List (List UInt8):=[[],[101,110,100],[103,97,116,101,32,48,32,48,32,45,32,40,41,32,40,41],[103,97,116,101,32,48,48,32,48,32,45,32,40,41,32,40,41,32,40,41],[103,97,116,101,32,48,32,48,32,97,32,40,49,32,32,50,41,32,40,41,32,40,41],[103,97,116,101,32,48,32,48,32,97,32,40,49,32,50,41,32,40,41,32,40,41,32],[97,120,105,111,109,32,48,32,57,50,50,51,51,55,50,48,51,54,56,53,52,55,55,53,56,48,56,32,45,32,40,41,32,40,41,32,40,41],[114,101,115,111,108,118,101,32,48,32,48,32,65,32,40,41,32,40,41,32,40,50,41],[101,113,117,97,108,32,45,48,32,48,32,45,32,40,41,32,40,41,32,40,41],[108,101,109,109,97,32,48,32,48,32,45,32,40,41,32,40,41,32,40,41],[103,97,116,101,32,48,32,48,32,32,40,41,32,40,41,32,40,41],[103,97,116,101,32,48,32,48,32,45,32,40,45,41,32,40,41,32,40,41]]
theorem wl_ok:LnB wlB:=by
 have h:∀l∈wlB,npB l=true/\l.length<=209:=by decide
 exact h
def chg (d:Sp):Sp:=⟨⟨if d.x.kind=4 then 5 else d.x.kind,d.x.node,d.x.rule,d.x.params,d.x.nm,d.x.lits,d.x.hints⟩,d.p,d.l,d.h⟩
theorem chg_wr {d:Sp} {i lem:Nat} (hi:i<=1000) (h:GenS 2 i lem d.x):WrS (chg d).x:=by
 refine ⟨?_,h.node.1,h.rule,h.params,h.lits.2,⟨λx hx=>by have:=h.hints.1 x hx;omega,h.hints.2⟩,h.nm⟩
 show 0<=(if d.x.kind=4 then 5 else d.x.kind)/\(if d.x.kind=4 then 5 else d.x.kind)<=5
 have:=h.kind
 split<;>omega
theorem wr_ln {s:Stp} (h:WrS s):LnOk s:=by
 have hn:∀n∈nmsL,n.size<=2:=by decide
 have:=hn _ h.nm
 exact ⟨h.kind,h.node,h.rule,⟨h.params.1,by have:=h.params.2;omega⟩,⟨h.lits.1,by have:=h.lits.2;omega⟩,⟨h.hints.1,by have:=h.hints.2;omega⟩,by omega⟩
theorem rd_L0 {w0:World} {D:List En} {b11:Nat} {x0 x1:Sl} {ds:List Sp} {at2 how3:Int} {c:UInt8} (ha:I64 at2) (hh:I64 how3) (hd7:ds.length<=7) (hwr:∀d∈ds,WrS (chg d).x) (he:errsE∈D) (hw:wordsE∈D) (hs:slE ds∈D):
  ∀(k i:Nat) (s12:Sl) (w:World),i+k=ds.length->LH F0 w0 w [.row ty_api_Step 7 x1 (ds.flatMap Sp.c),.g b11,.row ty_api_Step 7 s12 (((ds.take i).map chg).flatMap Sp.c)] D->
  enthymemelaw25_ProofReads.L0T at2 how3 (c.toNat:Int) b11 x0 x1 s12 (i:Int) w λr w'=>r=.returned (.bool true)/\Fr0 w0 w':=by
 intro k
 induction k with
 |zero=>
  intro i s12 w hik H
  have hn:=(H.get 0:OwnRow _ _ _ _ _).len
  rw [Sp.cs_len] at hn
  have hsp:SPr w s12 (ds.map chg):=by
   have ho:OwnRow w ty_api_Step 7 s12 (((ds.take i).map chg).flatMap Sp.c):=H.get 2
   rw [qtOL (by omega)] at ho
   refine ⟨ho.rdn,λd hd=>?_⟩
   obtain ⟨d',hd',rfl⟩:=qmM.1 hd
   exact spL_P.1 (H.rd _ hs) d' hd'
  have hwr':∀d∈ds.map chg,WrS d.x:=λd hd=>by
   obtain ⟨d',hd',rfl⟩:=qmM.1 hd
   exact hwr d' hd'
  refine enthymemelaw25_ProofReads.L0T_step _ _ _ _ _ _ _ _ _ _ (sel_false (decide_eq_false (by omega)) (H.callr (c_Lines hsp (λd hd=>wr_ln (hwr' d hd)) (by rw [qlM];omega)) ?_))
  rintro _ w14 ⟨t,rfl,ht,hf⟩ H14 F14
  refine ⟨_,rfl,(F14.own (.row ty_string 1 t (((ds.map chg).map λd:Sp=>lineB d.x).map strV)) ht hf).nw λw15 _ H15=>?_⟩
  have H16:LH F0 w0 w15 [.row ty_string 1 t (((ds.map chg).map λd:Sp=>lineB d.x).map strV),.c w14.heap.size (wlB.map strV) ty_string] D:=H15.sieve [false,false,false,true,true]
  refine rd_S2 ha hh (λl hl=>?_) (by rw [qlM,qlM];exact hd7) wl_ok rfl he hw H16
  obtain ⟨d,hd,rfl⟩:=qmM.1 hl
  exact ⟨line_np (hwr' d hd),genline_len (hwr' d hd)⟩
 |succ k ih=>
  intro i s12 w hik H
  have ho:OwnRow w ty_api_Step 7 x1 (ds.flatMap Sp.c):=H.get 0
  have hn:=ho.len
  rw [Sp.cs_len] at hn
  have hs12:=(H.get 2:OwnRow w ty_api_Step 7 s12 (((ds.take i).map chg).flatMap Sp.c)).len
  rw [Sp.cs_len,qlM,qlT] at hs12
  obtain ⟨d,hi⟩:∃d,ds[i]? =some d:=⟨ds[i],qgE (by omega)⟩
  have nx:∀(a:Int) (b14:Nat) (w':World),a=(if d.x.kind=4 then 5 else d.x.kind)->LH F0 w0 w' [.row ty_api_Step 7 x1 (ds.flatMap Sp.c),.g b11,.row ty_api_Step 7 s12 (((ds.take i).map chg).flatMap Sp.c),.g b14] D->
    enthymemelaw25_ProofReads.S1T at2 how3 (c.toNat:Int) b11 x0 x1 s12 (i:Int) b14 a d.x.node d.x.rule d.p d.x.nm d.l d.h w' λr w'=>r=.returned (.bool true)/\Fr0 w0 w':=λa b14 w' hae H'=>by
   refine H'.ap1T 2 el_step rfl (λs' w2 H2=>?_) (by omega) (hbs:=λb h=>?_)
   .rw [i64_next _ (by omega)]
    refine ih (i+1) s' w2 (by omega) ?_
    have e:((ds.take (i+1)).map chg).flatMap Sp.c=((ds.take i).map chg).flatMap Sp.c++(chg d).c:=by
     rw [qtO,hi];simp
    rw [e]
    have e2:(chg d).c=[.i a,.i d.x.node,.i d.x.rule,d.p.v,.string d.x.nm,d.l.v,d.h.v]:=by rw [hae];rfl
    rw [e2]
    exact H2.take 3
   .simp only [qmC,qnM,or_false] at h
    rcases h with rfl|rfl<;>simp
  refine enthymemelaw25_ProofReads.L0T_step _ _ _ _ _ _ _ _ _ _ (sel_true (decide_eq_true (by omega)) ⟨by omega,by omega,CRow.elem (f:=Sp.c) (sz:=7) Sp.c_len (by omega) ho.rdn.2.2 hi λp hp hc=>⟨_,_,_,_,_,_,_,hc 0 _ rfl,hc 1 _ rfl,hc 2 _ rfl,hc 3 _ rfl,hc 4 _ rfl,hc 5 _ rfl,hc 6 _ rfl,H.newg λb14 w1 H1=>?_⟩⟩)
  exact sel_eq (λh4=>H1.locg λw2 H2=>nx 5 b14 w2 (by rw [if_pos h4]) H2) (λh4=>H1.locg λw2 H2=>nx d.x.kind b14 w2 (by rw [if_neg h4]) H2)
theorem proofReads_law {w:World} {l0 m1:Sl} {xs ms:List Int} {at2 how3:Int} {c:UInt8} (hx:∀y∈xs,I64 y) (hxl:xs.length<=9223372036854775807) (hy:∀y∈ms,I64 y) (hml:ms.length<=9223372036854775807) (hl:Nums w l0 xs) (hm:Nums w m1 ms) (ha:I64 at2) (hh:I64 how3) (he:Errs w) (hw:wordsE.P w):
  Calls Tryz.prog n_enthymemelaw25_ProofReads #[l0.v,m1.v,.i at2,.i how3,.int .u8 (c.toNat:Int)] w λr w'=>r=.returned (.bool true)/\Fr0 w w':=by
 have H:LH F0 w w [] [errsE,wordsE,.rd l0 (xs.map intV),.rd m1 (ms.map intV)]:=lh0 _ (by
  intro e h
  simp only [qmC,qnM,or_false] at h
  rcases h with rfl|rfl|rfl|rfl
  .exact he
  .exact hw
  .exact hl
  .exact hm)
 refine enthymemelaw25_ProofReads.okT _ _ _ _ _ w _ ((c_Some hx hxl hy hml (most:=7) (by omega) (.tail _ (.tail _ (.head _))) (.tail _ (.tail _ (.tail _ (.head _)))) H).mono ?_)
 rintro _ w1 ⟨lem,st,ls,ds,rfl,H1,J,hd⟩
 refine ⟨_,_,rfl,H1.newg λb11 w2 H2=>H2.locg λw4 H4=>?_⟩
 have H5:=(H4.nilrow ty_api_Step 7).sieve [false,true,true,true]
 refine rd_L0 (ds:=ds) ha hh hd (λd hd'=>?_) (qmL _ (.head _)) (qmL _ (.tail _ (.head _))) (qmR _ (qmS.2 rfl)) ds.length 0 ⟨none,0,0⟩ w4 (by omega) H5
 obtain ⟨i,hi⟩:=List.mem_iff_getElem?.1 hd'
 have hil:=(qgS.1 hi).1
 exact chg_wr (by omega) (J.g i d hi)
theorem var_rd {P:Program} {W:World} {n:String} {g m:Nat} {cs:Array Value} {vs:List Value} (hg:P.globalNamed n=some g) (hv:W.var? P n=some cs) (e:cs.toList=vs) (hm:m=vs.length):Rd W ⟨some (at0 g),m,m⟩ vs:=by
 refine rd_in hm (Nat.le_refl _) (λh=>by cases h) λi v hi=>⟨at0 g,rfl,?_⟩
 rw [show (at0 g).add i=⟨g,i,none⟩ from addz g i,World.var?_cell hg hv i,<-hi,<-e,Array.getElem?_toList]
theorem strs_of {P:Program} {w:World} {fuel n:Nat} {t e:TypeId} {cs:List Value} {ts:List (List UInt8)} {p:List MemPlace} (ht:P.underlying t=some (.array n e)) (he:P.underlying e=some .string) (hce:P.cellsOf e=1) (hct:P.cellsOf t=n)
  (h:DataW.trod (λ_=>()) P w 0 (λ_=>true) false fuel t cs=some (.agg (ts.map λs=>.lit (.string s)),p)):cs=ts.map strV:=by
 obtain ⟨xs,m,rfl,hx,hl,hxl,hall⟩:=DataW.trod_array ht h
 have hxs:xs.map (·.1)=ts.map λs=>(DataW.lit (.string s):DataW Unit):=by
  have:=congrArg Prod.fst hx
  simpa using this.symm
 have htl:ts.length=n:=by
  have:=congrArg List.length hxs
  simp at this
  omega
 apply List.ext_getElem?
 intro i
 by_cases hi:i<n
 .have h1:=hall i hi
  obtain ⟨b,hb⟩:∃b,xs[i]? =some b:=⟨xs[i]'(by omega),qgE (by omega)⟩
  rw [hb,hce,Nat.mul_one] at h1
  obtain ⟨s,hcz,rfl,_⟩:=DataW.trod_string he h1
  have h2:cs[i]? =some (.string s):=by
   have:=congrArg (·[0]?) hcz
   simpa [List.getElem?_take,List.getElem?_drop] using this
  have h3:(xs.map (·.1))[i]? =some (DataW.lit (.string s.data.toList):DataW Unit):=by simp [hb]
  rw [hxs] at h3
  simp only [qgM,Option.map_eq_some_iff,DataW.lit.injEq,Lit.string.injEq] at h3
  obtain ⟨s',hs',e'⟩:=h3
  rw [h2,qgM,hs']
  show _=some (Value.string (ba s'))
  rw [e']
  exact congrArg some (congrArg Value.string (ba_bl s).symm)
 .rw [List.getElem?_eq_none (by omega),List.getElem?_eq_none (by simp;omega)]
theorem err_of {P:Program} {w:World} {fuel:Nat} {t:TypeId} {ms:Array String} {cs:List Value} {nm:String} {d:DataW Unit} {p:List MemPlace} (hu:∃a,P.underlying t=some (.interface a))
  (h:DataW.trod (λ_=>()) P w 0 (λ_=>true) false fuel t cs=some (.iface nm d,p)):∃u v,cs=[.iface u v]:=by
 obtain ⟨a,hu⟩:=hu
 cases fuel with
 |zero=>simp [DataW.trod] at h
 |succ m=>
  unfold DataW.trod at h
  rw [hu] at h
  split at h<;>simp_all
abbrev rdLaid:List (String×DataW Unit):=[("math/bits.deBruijn32tab",Rows.laid_math_bits_deBruijn32tab),("math/bits.deBruijn64tab",Rows.laid_math_bits_deBruijn64tab),("internal/strconv.uint64pow10",Rows.laid_internal_strconv_uint64pow10),("unicode/utf8.acceptRanges",Rows.laid_unicode_utf8_acceptRanges),("strconv.ErrRange",Rows.laid_strconv_ErrRange),("strconv.ErrSyntax",Rows.laid_strconv_ErrSyntax),("enthymeme/term.kidCounts",Rows.laid_enthymeme_term_kidCounts),("enthymeme/proof.words",Rows.laid_enthymeme_proof_words),("unicode/utf8.first",Rows.laid_unicode_utf8_first)]
theorem rd_facts {W:World} (h:laidMetH Tryz.prog rdLaid W):Errs W/\wordsE.P W:=by
 rw [MakeChecks.laidMetH_plain _ _ _ (by kernel_rfl)] at h
 refine ⟨⟨?_,?_,?_⟩,?_⟩
 .obtain ⟨g,t,cs,fuel,p,e1,e2,e3,e4⟩:=Lib.laidMet.reads h (n:="internal/strconv.uint64pow10") (d:=Lib.tabData .u64 p10L) (.tail _ (.tail _ (.head _)))
  obtain rfl:=Option.some.inj ((show Tryz.prog.globalNamed "internal/strconv.uint64pow10"=some 5 by kernel_rfl).symm.trans e1)
  obtain rfl:=Option.some.inj ((show (Tryz.prog.globals[5]?).map (·.type)=some ty_20_uint64 by kernel_rfl).symm.trans e2)
  exact var_rd e1 e3 (Lib.cells_of_tab (e:=ty_uint64) (n:=20) (by kernel_rfl) (by kernel_rfl) (by kernel_rfl) (by kernel_rfl) e4) rfl
 .obtain ⟨g,t,cs,fuel,p,e1,e2,e3,e4⟩:=Lib.laidMet.reads h (n:="strconv.ErrSyntax") (d:=Rows.laid_strconv_ErrSyntax) (.tail _ (.tail _ (.tail _ (.tail _ (.tail _ (.head _))))))
  obtain rfl:=Option.some.inj ((show Tryz.prog.globalNamed "strconv.ErrSyntax"=some 3 by kernel_rfl).symm.trans e1)
  obtain rfl:=Option.some.inj ((show (Tryz.prog.globals[3]?).map (·.type)=some ty_error by kernel_rfl).symm.trans e2)
  obtain ⟨u,v,e⟩:=err_of (ms:=#[]) ⟨_,rfl⟩ e4
  exact ⟨u,v,var_rd e1 e3 e rfl⟩
 .obtain ⟨g,t,cs,fuel,p,e1,e2,e3,e4⟩:=Lib.laidMet.reads h (n:="strconv.ErrRange") (d:=Rows.laid_strconv_ErrRange) (.tail _ (.tail _ (.tail _ (.tail _ (.head _)))))
  obtain rfl:=Option.some.inj ((show Tryz.prog.globalNamed "strconv.ErrRange"=some 4 by kernel_rfl).symm.trans e1)
  obtain rfl:=Option.some.inj ((show (Tryz.prog.globals[4]?).map (·.type)=some ty_error by kernel_rfl).symm.trans e2)
  obtain ⟨u,v,e⟩:=err_of (ms:=#[]) ⟨_,rfl⟩ e4
  exact ⟨u,v,var_rd e1 e3 e rfl⟩
 .obtain ⟨g,t,cs,fuel,p,e1,e2,e3,e4⟩:=Lib.laidMet.reads h (n:="enthymeme/proof.words") (d:=.agg (wordKL.map λs=>.lit (.string s))) (.tail _ (.tail _ (.tail _ (.tail _ (.tail _ (.tail _ (.tail _ (.head _))))))))
  obtain rfl:=Option.some.inj ((show Tryz.prog.globalNamed "enthymeme/proof.words"=some 0 by kernel_rfl).symm.trans e1)
  obtain rfl:=Option.some.inj ((show (Tryz.prog.globals[0]?).map (·.type)=some ty_6_string by kernel_rfl).symm.trans e2)
  exact var_rd e1 e3 (strs_of (e:=ty_string) (n:=6) (by kernel_rfl) (by kernel_rfl) (by kernel_rfl) (by kernel_rfl) e4) rfl
theorem proofReads_walk (W:World) (hL:laidMetH Tryz.prog [("math/bits.deBruijn32tab",Rows.laid_math_bits_deBruijn32tab),("math/bits.deBruijn64tab",Rows.laid_math_bits_deBruijn64tab),("internal/strconv.uint64pow10",Rows.laid_internal_strconv_uint64pow10),("unicode/utf8.acceptRanges",Rows.laid_unicode_utf8_acceptRanges),("strconv.ErrRange",Rows.laid_strconv_ErrRange),("strconv.ErrSyntax",Rows.laid_strconv_ErrSyntax),("enthymeme/term.kidCounts",Rows.laid_enthymeme_term_kidCounts),("enthymeme/proof.words",Rows.laid_enthymeme_proof_words),("unicode/utf8.first",Rows.laid_unicode_utf8_first)] W) (ls ms:Sl) (at2 how3 c4:Int) (w0:ArgNums W ls) (w1:ArgNums W ms) (w2:I64 at2) (w3:I64 how3) (w4:IntKind.u8.min<=c4/\c4<=IntKind.u8.max):
  Calls Tryz.prog n_enthymemelaw25_ProofReads #[ls.v,ms.v,.i at2,.i how3,.int .u8 c4] W λr w'=>r=.returned (.bool true)/\Fr0 W w':=by
 obtain ⟨ns,hnr,hnl,hns⟩:=w0
 obtain ⟨qs,hqr,hql,hqs⟩:=w1
 obtain ⟨he,hw⟩:=rd_facts hL
 have h0:(0:Int)<=c4:=w4.1
 have h1:c4<=(255:Int):=w4.2
 have hc:c4=(((UInt8.ofNat c4.toNat).toNat:Nat):Int):=by
  rw [UInt8.toNat_ofNat'];omega
 rw [hc]
 exact proofReads_law hns (by omega) hqs (by omega) hnr hqr w2 w3 he hw
end Go.Proofs.YthnoidogkbbkhaaGreatDoor

import Derived.Test.YtcifihepfadgfaaGreatDoorE1
import Derived.Lib.LaidTab
import Derived.LaidByTextLater
import Derived.Test.YtcifihepfadgfaaGreatDoorRows
import Derived.Test.YtcifihepfadgfaaGreatDoorVB
import Derived.Test.YtcifihepfadgfaaGreatDoorT1
import Derived.Test.YtcifihepfadgfaaGreatDoorR3
import Derived.Test.YtcifihepfadgfaaGreatDoorTP
import Derived.Test.YtcifihepfadgfaaGreatDoorR1
import Derived.Test.YtcifihepfadgfaaGreatDoorTM
set_option linter.unusedVariables false
set_option maxRecDepth 100000
set_option maxHeartbeats 1000000
namespace Go.Proofs.YtcifihepfadgfaaGreatDoor
open Go Go.W
theorem kc_of {W:World} (h:laidMetH Tryz.prog [("enthymeme/term.kidCounts",Rows.laid_enthymeme_term_kidCounts)] W):kcE.P W:=by
 rw [MakeChecks.laidMetH_plain _ _ _ (by kernel_rfl)] at h
 have ht:=Go.Lib.tabIs_of_head (k:=.i64) (zs:=kcL) (g:=0) (t:=ty_35_int) (e:=ty_int) (n:=35) (by kernel_rfl) (by kernel_rfl) (by kernel_rfl) (by kernel_rfl) (by kernel_rfl) (by kernel_rfl) h
 refine rd_in rfl (Nat.le_refl _) (fun h=>by cases h) (fun i v hi=>⟨at0 0,rfl,?_⟩)
 have hl:i<kcL.length:=by
  have:=(List.getElem?_eq_some_iff.1 hi).1
  simpa using this
 have hc:=ht.cell (g:=0) (by kernel_rfl) i hl
 rw [List.getElem?_map,List.getElem?_eq_getElem hl] at hi
 rw [List.getD,List.getElem?_eq_getElem hl] at hc
 simp only [Option.map_some,Option.some.injEq] at hi
 rw [←hi]
 rw [show (at0 0).add i=⟨0,i,none⟩ from addz 0 i]
 exact hc
end Go.Proofs.YtcifihepfadgfaaGreatDoor
set_option maxRecDepth 100000
set_option maxHeartbeats 1000000
namespace Go.Proofs.YtcifihepfadgfaaGreatDoor
open Go Go.W
def liX:Nx:=⟨0,[],0,0,0,ba [120],⟨0,8,0⟩⟩
def liN:Nx:=⟨4,[0],0,0,0,ba [],noS⟩
def liM:Nx:=⟨4,[0],0,0,0,ba [],⟨0,8,0⟩⟩
def liC:Nx:=⟨20,[0,1],0,0,0,ba [],noS⟩
def liE:Nx:=⟨21,[0],8,0,0,ba [],noS⟩
theorem li1:addX [] liX=([liX],0,0):=by kernel_rfl
theorem li2:addX [liX] liN=([liX,liM],1,0):=by kernel_rfl
theorem li3:addX [liX,liM] liN=([liX,liM],1,0):=by kernel_rfl
theorem li4:srtX [liX,liM] liC=(⟨0,16,0⟩,0):=by kernel_rfl
theorem li5:srtX [liX,liM] liE=(noS,5):=by kernel_rfl
theorem tok_of {d:Nx} (h1:d.kids.length≤2) (h2:0≤d.n∧d.n≤8) (h3:d.m=0) (h4:d.u=0) (h5:d.op≠33):TOk d:=⟨by omega,⟨by omega,by omega⟩,⟨by omega,by omega⟩,by omega,fun h=>absurd h h5⟩
theorem tX:TOk liX:=tok_of (by decide) (by decide) rfl rfl (by decide)
theorem tN:TOk liN:=tok_of (by decide) (by decide) rfl rfl (by decide)
theorem tC7:TOk liC:=tok_of (by decide) (by decide) rfl rfl (by decide)
theorem tE:TOk liE:=tok_of (by decide) (by decide) rfl rfl (by decide)
theorem gr_small {g:List Nx} (h:∀d∈g,validS d.st=true∧d.kids.length≤1) {l:List Nd} (hl:xs l=g):(∀e∈xs l,validS e.st=true)∧∀e∈l,e.x.kids.length≤1000000000:=by
 subst hl
 exact ⟨fun e he=>(h e he).1,fun e he=>by have:=(h e.x (List.mem_map.2 ⟨e,he,rfl⟩)).2;omega⟩
theorem xs_len {g:List Nx} {l:List Nd} (h:xs l=g):l.length=g.length:=by
 rw [←h];simp [xs]
theorem c_lives (w:World) (hk:kcE.P w):Calls Tryz.prog n_enthymemelaw07_lives #[] w fun r w'=>r=.returned (.bool true)∧Fr0 w w':=by
 have H:LH F0 w w [] [kcE]:=lh0 _ (by
  intro e he
  simp only [List.mem_cons,List.not_mem_nil,or_false] at he
  subst he
  exact hk)
 have G0:∀w:World,GP w ⟨none,0,0⟩ []:=fun w=>⟨RdN.nil 9 w,by simp⟩
 have s1:∀d∈([liX]:List Nx),validS d.st=true∧d.kids.length≤1:=by decide
 have s2:∀d∈([liX,liM]:List Nx),validS d.st=true∧d.kids.length≤1:=by decide
 have q1:=t_Add (d:=⟨liX,⟨none,0,0⟩⟩) (G0 w) (Rd.nil w) hk tX (by decide) (by simp [xs]) (by simp)
 refine enthymemelaw07_lives.okT w _ (q1.mono ?_)
 rintro _ w1 ⟨⟨g1,rfl,⟨l1,x1,G1,F1⟩⟩,f1⟩
 rw [show xs []=([]:List Nx) from rfl,li1] at x1 ⊢
 have n1:=xs_len x1
 have H1:=H.addD (.gr g1 l1) f1 (gr_P.2 G1) (fun b hb=>.inl ((F1 b hb).resolve_left fun h=>by
  rcases gr_fp.1 h with h|⟨d,hd,_⟩
  ·cases h
  ·cases hd))
 refine ⟨_,_,_,rfl,H1.newg fun b1 w2 H2=>H2.locg fun w3 H3=>H3.nw fun w4 _ H4=>?_⟩
 have k0:Nums w4 ⟨some (at0 w3.heap.size),1,1⟩ [0]:=blk_nums (T:=ty_int) (H4.ob 1) rfl
 have q2:=t_Add (d:=⟨liN,⟨some (at0 w3.heap.size),1,1⟩⟩) (gr_P.1 (H4.getD 1)) k0 (H4.getD 0) tN (by rw [n1];decide) (gr_small s1 x1).1 (gr_small s1 x1).2
 refine callF0 (q2.mono ?_)
 rintro _ w5 ⟨⟨g2,rfl,⟨l2,x2,G2,F2⟩⟩,f5⟩
 rw [x1,li2] at x2 ⊢
 have n2:=xs_len x2
 have H5:=H4.addD (.gr g2 l2) f5 (gr_P.2 G2) (fun b hb=>(F2 b hb).elim (fun h=>.inr (.inr ⟨_,List.mem_of_getElem? (i:=1) rfl,h⟩)) .inl)
 refine ⟨f5,_,_,_,rfl,H5.newg fun b4 w6 H6=>H6.locg fun w7 H7=>H7.nw fun w8 _ H8=>?_⟩
 have k1:Nums w8 ⟨some (at0 w7.heap.size),1,1⟩ [0]:=blk_nums (T:=ty_int) (H8.ob 3) rfl
 have q3:=t_Add (d:=⟨liN,⟨some (at0 w7.heap.size),1,1⟩⟩) (gr_P.1 (H8.getD 2)) k1 (H8.getD 0) tN (by rw [n2];decide) (gr_small s2 x2).1 (gr_small s2 x2).2
 refine callF0 (q3.mono ?_)
 rintro _ w9 ⟨⟨g3,rfl,⟨l3,x3,G3,F3⟩⟩,f9⟩
 rw [x2,li3] at x3 ⊢
 have n3:=xs_len x3
 have H9:=H8.addD (.gr g3 l3) f9 (gr_P.2 G3) (fun b hb=>(F3 b hb).elim (fun h=>.inr (.inr ⟨_,List.mem_of_getElem? (i:=2) rfl,h⟩)) .inl)
 have hn3:=gr_n G3
 refine ⟨f9,_,_,_,rfl,H9.newg fun b7 w10 H10=>sel_false rfl (sel_false rfl (sel_false rfl (sel_false rfl (sel_false rfl (sel_ne (fun hne=>absurd (by rw [hn3,n3];rfl) hne) (fun _=>H10.locg fun w11 H11=>H11.nw fun w12 _ H12=>?_))))))⟩
 have k2:Nums w12 ⟨some (at0 w11.heap.size),2,2⟩ [0,1]:=blk_nums (T:=ty_int) (H12.ob 5) rfl
 have q4:=t_SortOf (d:=⟨liC,⟨some (at0 w11.heap.size),2,2⟩⟩) (gr_P.1 (H12.getD 3)) k2 (H12.getD 0) tC7 (by rw [n3];decide) (gr_small s2 x3).1
 refine H12.callg q4 ?_
 rintro _ w13 rfl H13
 rw [x3,li4]
 refine ⟨_,_,_,_,rfl,H13.newg fun b10 w14 H14=>H14.locg fun w17 H17=>H17.nw fun w18 _ H18=>?_⟩
 have k3:Nums w18 ⟨some (at0 w17.heap.size),1,1⟩ [0]:=blk_nums (T:=ty_int) (H18.ob 7) rfl
 have q5:=t_SortOf (d:=⟨liE,⟨some (at0 w17.heap.size),1,1⟩⟩) (gr_P.1 (H18.getD 3)) k3 (H18.getD 0) tE (by rw [n3];decide) (gr_small s2 x3).1
 refine H18.callg q5 ?_
 rintro _ w19 rfl H19
 rw [x3,li5]
 exact ⟨_,_,_,_,rfl,H19.newg fun b12 w20 H20=>sel_true rfl (sel_true rfl (H20.locg fun w23 H23=>⟨rfl,H23.fr⟩))⟩
end Go.Proofs.YtcifihepfadgfaaGreatDoor
set_option maxRecDepth 100000
set_option maxHeartbeats 1000000
namespace Go.Proofs.YtcifihepfadgfaaGreatDoor
open Go Go.W
theorem plain_eq (c:UInt8):plainB c=plQ c:=by
 unfold plainB plQ
 rw [Bool.and_assoc,Bool.and_assoc]
 rfl
theorem small_eq (c:UInt8):smallB c=loQ c:=rfl
theorem and15:(List.range 256).all (fun n=>bAnd .u8 (n:Int) 15==((n%16:Nat):Int))=true:=by kernel_rfl
theorem hex_at {n:Nat} (h:n<16):(ByteArray.mk #[48,49,50,51,52,53,54,55,56,57,97,98,99,100,101,102])[n]? =some (digQ n):=by
 have:n=0∨n=1∨n=2∨n=3∨n=4∨n=5∨n=6∨n=7∨n=8∨n=9∨n=10∨n=11∨n=12∨n=13∨n=14∨n=15:=by omega
 rcases this with rfl|rfl|rfl|rfl|rfl|rfl|rfl|rfl|rfl|rfl|rfl|rfl|rfl|rfl|rfl|rfl<;>rfl
theorem p_byteText (c:UInt8) (w:World):Calls Tryz.prog n_regex_byteText #[.int .u8 (c.toNat:Int)] w fun r w'=>r=.returned (.string (ba (byteTx c)))∧Fr0 w w':=by
 have hc:=c.toNat_lt
 have H:LH F0 w w [] []:=lh0 [] (by simp)
 refine regex_byteText.ok _ w _ (H.call (c_plain c w) ?_)
 rintro _ w1 rfl H1
 refine ⟨_,rfl,sel_intro (fun hp=>?_) (fun hp=>?_)⟩
 ·rw [plain_eq] at hp
  refine H1.nwx (fun w2 _ H2 hb=>?_)
  have hB:Bytes w2 ⟨some (at0 w1.heap.size),3,3⟩ [39,c,39]:=blk_rd (T:=ty_uint8) hb rfl
  refine ⟨ba [39,c,39],bytes_str hB,?_,H2.fr⟩
  unfold byteTx;rw [if_pos hp]
 ·rw [plain_eq] at hp
  have e2:Int.fdiv (c.toNat:Int) (2^(4))=((c.toNat / 16:Nat):Int):=by
   rw [Int.fdiv_eq_ediv_of_nonneg _ (by decide)];omega
  have e3:bAnd .u8 (c.toNat:Int) 15=((c.toNat%16:Nat):Int):=eq_of_beq (List.all_eq_true.1 and15 c.toNat (List.mem_range.2 hc))
  refine H1.dr fun w3 H3=>?_
  rw [e2,e3]
  refine ⟨by omega,_,hex_at (by omega),by omega,_,hex_at (by omega),H3.nwx (fun w4 _ H4 hb=>?_)⟩
  have hB:Bytes w4 ⟨some (at0 w3.heap.size),4,4⟩ [92,120,digQ (c.toNat / 16),digQ (c.toNat%16)]:=blk_rd (T:=ty_uint8) hb rfl
  refine ⟨ba [92,120,digQ (c.toNat / 16),digQ (c.toNat%16)],bytes_str hB,?_,H4.fr⟩
  unfold byteTx;rw [if_neg (by rw [hp];simp)]
abbrev BareOk (n:Nat):Prop:=∀(x:Rt) (w:World),x.sz≤n→okW x.rx=true→x.P w→Calls Tryz.prog n_regex_bare #[x.v] w fun r w'=>r=.returned (.tuple #[.string (ba (wrQ x.rx)),.i (bindsQ x.rx:Int)])∧Fr0 w w'
theorem p_textN {n:Nat} (hn:n≤1000000) (hb:BareOk n) (x:Rt) (lv:Nat) (w:World) (h:x.sz≤n) (hlv:lv≤1000) (hok:okW x.rx=true) (px:x.P w):Calls Tryz.prog n_regex_text #[x.v,.i (lv:Int)] w fun r w'=>r=.returned (.string (ba (parenQ lv x.rx (wrQ x.rx))))∧Fr0 w w':=by
 refine regex_text.okT _ _ _ _ _ w _ ((lhT px).newg fun b2 w1 H1=>H1.callg (hb x w1 h hok (H1.getD 0)) ?_)
 rintro _ w2 rfl H2
 have hln:(wrQ x.rx).length≤18000000:=by have:=wr_len x.rx;rw [Rt.rx_sz] at this;omega
 have e:ByteArray.mk #[40]++ba (wrQ x.rx)++ByteArray.mk #[41]=ba (40::(wrQ x.rx++[41])):=by
  show ba [40]++ba (wrQ x.rx)++ba [41]=_
  rw [ba_app,ba_app];simp
 refine ⟨_,_,rfl,sel_dec (fun hlt=>⟨?_,?_,?_,H2.fr⟩) (fun hlt=>⟨?_,H2.fr⟩)⟩
 ·rw [ba_size];show ¬(((1+_:Nat):Int)>9223372036854775807);omega
 ·have:(ByteArray.mk #[40]++ba (wrQ x.rx)).size=1+(wrQ x.rx).length:=by
   show (ba [40]++_).size=_
   rw [ba_app,ba_size];simp;omega
  rw [this];show ¬(((_+1:Nat):Int)>9223372036854775807);omega
 ·rw [e];unfold parenQ;rw [if_pos (by omega)]
 ·unfold parenQ;rw [if_neg (by omega)]
theorem p_bareN:∀n:Nat,n≤1000000→BareOk n
 |0,_=>fun x w h _ _=>absurd h (by have:=Rt.sz_pos x;omega)
 |n+1,hn=>by
  have ih:=p_bareN n (by omega)
  intro x w h hok px
  have hs:=Rt.sz_parts x
  have hl:=Rt.szs_len x.l
  have nr:=Rt.rows_n px.parts.1
  have hok':=hok
  rw [Rt.rx_parts] at hok'
  obtain ⟨k0,k7,hone,hks⟩:=okW_parts hok'
  have hll:(Rt.rxs x.l).length=x.l.length:=by rw [Rt.rxs_map,List.length_map]
  rw [hll] at hone
  have hkid:∀a∈x.l,okW a.rx=true:=fun a ha=>okWs_mem hks (by rw [Rt.rxs_map];exact List.mem_map.2 ⟨a,ha,rfl⟩)
  have hpl:∀(a:Rt) (lv:Nat),a.sz≤1000000→(parenQ lv a.rx (wrQ a.rx)).length≤18000002:=fun a lv ha=>by have h1:=wr_len a.rx;rw [Rt.rx_sz] at h1;have:=(paren_len lv a.rx (wrQ a.rx)).1;omega
  have hbt:∀c,(byteTx c).length≤4:=fun c=>by unfold byteTx;split<;>simp
  let R:Post:=fun r w'=>r=.returned (.tuple #[.string (ba (wrQ x.rx)),.i (bindsQ x.rx:Int)])∧Fr0 w w'
  have one:∀(a:Rt) (lv':Nat) (w1:World) (L:List En) (bs:List Nat) (K:ByteArray→World→Prop),lv'≤1000→a∈x.l→LH F0 w w1 L [.tree x]→(∀w2,LH F0 w w2 L [.tree x]→K (ba (parenQ lv' a.rx (wrQ a.rx))) w2)→cf15 bs n_regex_text #[.agg #[.i a.k,.int .u8 (a.lo.toNat:Int),.int .u8 (a.hi.toNat:Int),a.s.v],.i (lv':Int)] w1 K:=by
   intro a lv' w1 L bs K hlv' ha H1 hK
   have sza:=Rt.szs_mem ha
   refine H1.callg (p_textN (by omega) ih a lv' w1 (by omega) hlv' (hkid a ha) ((show x.P w1 from H1.getD 0).parts.2.mem ha)) ?_
   rintro _ w2 rfl H2
   exact ⟨_,rfl,hK w2 H2⟩
  have ewr:wrQ x.rx=wrQ (.mk x.k x.lo x.hi (Rt.rxs x.l)):=by rw [Rt.rx_parts]
  have ebd:bindsQ x.rx=if x.k=6 then 3 else if x.k<3∨x.k=7∨x.l.length<2 then 4 else if x.k=3 then 2 else if x.k=4 then 0 else 1:=by
   rw [Rt.rx_parts];unfold bindsQ;dsimp only;rw [hll]
  have b4:(x.k<3∨x.k=7∨x.l.length<2)→x.k≠6→(4:Int)=(bindsQ x.rx:Int):=fun h1 h2=>by rw [ebd,if_neg h2,if_pos h1];rfl
  refine regex_bare.okT _ _ _ _ w _ ((lhT px).newg fun b1 w1 H1=>?_)
  have H1:LH F0 w w1 [.g b1] [.tree x]:=H1
  refine sel_eq (fun hk=>⟨?_,H1.fr⟩) (fun hk0=>sel_eq (fun hk=>⟨?_,H1.fr⟩) (fun hk1=>sel_eq (fun hk2=>?_) (fun hk2=>sel_eq (fun hk6=>?_) (fun hk6=>sel_eq (fun hk7=>?_) (fun hk7=>?_)))))
  ·rw [←b4 (.inl (by omega)) (by omega),ewr];unfold wrQ;rw [if_pos hk];rfl
  ·rw [←b4 (.inl (by omega)) (by omega),ewr];unfold wrQ;rw [if_neg hk0,if_pos hk];rfl
  ·have e2:wrQ x.rx=if x.lo=x.hi then byteTx x.lo else 91::(byteTx x.lo++45::(byteTx x.hi++[93])):=by
    rw [ewr];unfold wrQ;rw [if_neg hk0,if_neg hk1,if_pos hk2]
   rw [←b4 (.inl (by omega)) (by omega)]
   refine sel_eq (fun hlh=>H1.callg (p_byteText x.lo w1) ?_) (fun hlh=>H1.locg fun w5 H5=>H5.callg (p_byteText x.lo w5) ?_)
   ·rintro _ w3 rfl H3
    exact ⟨_,rfl,by rw [e2,if_pos (UInt8.toNat_inj.1 (by omega))],H3.fr⟩
   ·rintro _ w6 rfl H6
    have h1:=hbt x.lo
    have h2:=hbt x.hi
    have s0:ByteArray.mk #[91]++ba (byteTx x.lo)++ByteArray.mk #[45]=ba (91::byteTx x.lo++[45]):=by
     show ba [91]++ba (byteTx x.lo)++ba [45]=_
     rw [ba_app,ba_app];rfl
    refine ⟨_,rfl,?_,?_,H6.callg (p_byteText x.hi w6) ?_⟩
    ·rw [ba_size];show ¬(((1+_:Nat):Int)>9223372036854775807);omega
    ·have:(ByteArray.mk #[91]++ba (byteTx x.lo)).size=1+(byteTx x.lo).length:=by
      show (ba [91]++_).size=_
      rw [ba_app,ba_size];simp;omega
     rw [this];show ¬(((_+1:Nat):Int)>9223372036854775807);omega
    rintro _ w7 rfl H7
    rw [s0]
    have:ba (91::byteTx x.lo++[45]++byteTx x.hi)++ByteArray.mk #[93]=ba (91::byteTx x.lo++[45]++byteTx x.hi++[93]):=by
     show _++ba [93]=_
     rw [ba_app]
    refine ⟨_,rfl,?_,?_,?_,H7.fr⟩
    ·rw [ba_size,ba_size];simp only [List.length_append,List.length_cons,List.length_nil];show ¬(((_:Nat):Int)>9223372036854775807);omega
    ·rw [ba_app,ba_size];simp only [List.length_append,List.length_cons,List.length_nil];show ¬(((_+1:Nat):Int)>9223372036854775807);omega
    ·rw [ba_app,this,e2,if_neg (fun h=>hlh (by rw [h]))]
     simp
  ·have h1:=hone (.inl hk6)
   have e6:wrQ x.rx=33::hdTx (wrsQ 3 (Rt.rxs x.l)):=by
    rw [ewr];unfold wrQ;rw [if_neg hk0,if_neg hk1,if_neg hk2,if_pos hk6]
   have e3:(3:Int)=(bindsQ x.rx:Int):=by rw [ebd,if_pos hk6];rfl
   match hxl:x.l,h1 with
   |[a],_=>
    have ha:a∈x.l:=by rw [hxl];simp
    have sza:=Rt.szs_mem ha
    refine part_el (show x.P w1 from H1.getD 0) (k:=0) rfl (by rw [hxl];rfl) (one a 3 w1 _ _ _ (by omega) ha H1 fun w3 H3=>⟨?_,?_,H3.fr⟩)
    ·have:=hpl a 3 (by omega)
     rw [ba_size];show ¬(((1+_:Nat):Int)>9223372036854775807);omega
    ·have:ByteArray.mk #[33]++ba (parenQ 3 a.rx (wrQ a.rx))=ba (33::parenQ 3 a.rx (wrQ a.rx)):=by
      show ba [33]++_=_
      rw [ba_app];rfl
     rw [this,e6,hxl,←e3]
     rfl
  ·have h1:=hone (.inr hk7)
   have e7:wrQ x.rx=hdTx (wrsQ 4 (Rt.rxs x.l))++[42]:=by
    rw [ewr];unfold wrQ;rw [if_neg hk0,if_neg hk1,if_neg hk2,if_neg hk6,if_pos hk7]
   match hxl:x.l,h1 with
   |[a],_=>
    have ha:a∈x.l:=by rw [hxl];simp
    have sza:=Rt.szs_mem ha
    refine part_el (show x.P w1 from H1.getD 0) (k:=0) rfl (by rw [hxl];rfl) (one a 4 w1 _ _ _ (by omega) ha H1 fun w3 H3=>⟨?_,?_,H3.fr⟩)
    ·have:=hpl a 4 (by omega)
     rw [ba_size];show ¬(((_+1:Nat):Int)>9223372036854775807);omega
    ·have:ba (parenQ 4 a.rx (wrQ a.rx))++ByteArray.mk #[42]=ba (parenQ 4 a.rx (wrQ a.rx)++[42]):=by
      show _++ba [42]=_
      rw [ba_app]
     rw [this,e7,hxl,←b4 (.inr (.inl hk7)) hk6]
     rfl
  have hk:x.k=3∨x.k=4∨x.k=5:=by omega
  have S1:∀(word sign:BL) (level:Nat),word.length=3→nameQ x.k=word++[40]→signQ x.k=sign→level≤2→(2≤x.l.length→bindsQ x.rx=level)→regex_bare.S1T b1 x.k x.lo.toNat x.hi.toNat x.s (ba word) (ba sign) (level:Int) w1 R:=by
   intro word sign level hw hnm hsg hlv hbd
   have ef:x.l.length<2→wrQ x.rx=nameQ x.k++(hdTx (wrsQ 0 (Rt.rxs x.l))++[41]):=fun h=>by
    rw [ewr];unfold wrQ;rw [if_neg hk0,if_neg hk1,if_neg hk2,if_neg hk6,if_neg hk7,if_pos (by rw [hll];omega)]
   refine sel_eq (fun h0=>?_) (fun h0=>sel_eq (fun h1=>?_) (fun h1=>?_))
   ·have hx:x.l=[]:=List.length_eq_zero_iff.1 (by omega)
    refine ⟨?_,?_,H1.fr⟩
    ·rw [ba_size];show ¬(((_+2:Nat):Int)>9223372036854775807);omega
    ·have:ba word++ByteArray.mk #[40,41]=ba (word++[40,41]):=by
      show _++ba [40,41]=_
      rw [ba_app]
     rw [this,←b4 (.inr (.inr (by omega))) hk6,ef (by omega),hnm,hx]
     simp [Rt.rxs,wrsQ,hdTx]
   ·match hxl:x.l with
    |[]=>rw [hxl] at nr;simp at nr;omega
    |_::_::_=>rw [hxl] at nr;simp at nr;omega
    |[a]=>
     have ha:a∈x.l:=by rw [hxl];simp
     have sza:=Rt.szs_mem ha
     have hp:=hpl a 0 (by omega)
     refine ⟨?_,part_el (show x.P w1 from H1.getD 0) (k:=0) rfl (by rw [hxl];rfl) (one a 0 w1 _ _ _ (by omega) ha H1 fun w3 H3=>⟨?_,?_,?_,H3.fr⟩)⟩
     ·rw [ba_size];show ¬(((_+1:Nat):Int)>9223372036854775807);omega
     ·have:ba word++ByteArray.mk #[40]=ba (word++[40]):=by
       show _++ba [40]=_
       rw [ba_app]
      rw [this,ba_size,ba_size];simp only [List.length_append,List.length_cons,List.length_nil];show ¬(((_:Nat):Int)>9223372036854775807);omega
     ·have:ba word++ByteArray.mk #[40]++ba (parenQ 0 a.rx (wrQ a.rx))=ba (word++[40]++parenQ 0 a.rx (wrQ a.rx)):=by
       show _++ba [40]++_=_
       rw [ba_app,ba_app]
      rw [this,ba_size];simp only [List.length_append,List.length_cons,List.length_nil];show ¬(((_+1:Nat):Int)>9223372036854775807);omega
     ·have:ba word++ByteArray.mk #[40]++ba (parenQ 0 a.rx (wrQ a.rx))++ByteArray.mk #[41]=ba (word++[40]++parenQ 0 a.rx (wrQ a.rx)++[41]):=by
       show _++ba [40]++_++ba [41]=_
       rw [ba_app,ba_app,ba_app]
      rw [this,←b4 (.inr (.inr (by rw [hxl];simp))) hk6,ef (by rw [hxl];simp),hnm,hxl]
      simp [Rt.rxs,wrsQ,hdTx]
   ·have h2:2≤x.l.length:=by omega
    have hbd:=hbd h2
    have ej:wrQ x.rx=jnTx x.k (wrsQ (level+1) (Rt.rxs x.l)):=by
     conv=>lhs;rw [ewr];unfold wrQ;rw [if_neg hk0,if_neg hk1,if_neg hk2,if_neg hk6,if_neg hk7,if_neg (by rw [hll];omega)]
     rw [←Rt.rx_parts,hbd]
    have sgl:sign.length≤1:=by rw [←hsg];unfold signQ;split<;>(try split)<;>simp
    have loop:∀(d i:Nat) (out:BL) (w3:World),i+d=x.l.length→(1≤i→0<out.length)→(i=0→out=[])→out.length+sumT (wrsQ (level+1) (Rt.rxs (x.l.drop i)))≤40000000→wrQ x.rx=(if i=0 then jnTx x.k (wrsQ (level+1) (Rt.rxs (x.l.drop i))) else joinTx x.k out (wrsQ (level+1) (Rt.rxs (x.l.drop i))))→LH F0 w w3 [.g b1] [.tree x]→
      regex_bare.L2T b1 x.k x.lo.toNat x.hi.toNat x.s (ba sign) (level:Int) (ba out) x.s ((x.s.n:Nat):Int) (i:Int) w3 R:=by
     intro d
     induction d with
     |zero=>
      intro i out w3 hi hout hz hsum he H3
      refine regex_bare.L2T_step _ _ _ _ _ _ _ _ _ _ _ _ _ (sel_false (decide_eq_false (by omega)) ⟨?_,H3.fr⟩)
      rw [he,List.drop_of_length_le (by omega),if_neg (by omega),hbd]
      rfl
     |succ d ihd=>
      intro i out w3 hi hout hz hsum he H3
      have hg:x.l[i]? =some (x.l[i]'(by omega)):=List.getElem?_eq_getElem (by omega)
      have hdr:x.l.drop i=(x.l[i]'(by omega))::x.l.drop (i+1):=List.drop_eq_getElem_cons (by omega)
      generalize x.l[i]'(by omega)=c at hg hdr
      have hc:=List.mem_of_getElem? hg
      have szc:=Rt.szs_mem hc
      rw [hdr] at he hsum
      have hsum:out.length+((parenQ (level+1) c.rx (wrQ c.rx)).length+2+sumT (wrsQ (level+1) (Rt.rxs (x.l.drop (i+1)))))≤40000000:=by
       have:sumT (wrsQ (level+1) (Rt.rxs (c::x.l.drop (i+1))))=(parenQ (level+1) c.rx (wrQ c.rx)).length+2+sumT (wrsQ (level+1) (Rt.rxs (x.l.drop (i+1)))):=by
        simp [Rt.rxs,wrsQ,sumT]
       omega
      have hcp:0<(parenQ (level+1) c.rx (wrQ c.rx)).length:=by
       have h1:=wr_pos c.rx (hkid c hc)
       have:=(paren_len (level+1) c.rx (wrQ c.rx)).2
       omega
      have eb1:IntKind.wrap .i64 ((level:Int)+1)=((level+1:Nat):Int):=i64_next _ (by omega)
      have he0:i=0→wrQ x.rx=joinTx x.k (parenQ (level+1) c.rx (wrQ c.rx)) (wrsQ (level+1) (Rt.rxs (x.l.drop (i+1)))):=fun h=>by
       rw [if_pos h] at he;rw [he];rfl
      have he1:i≠0→wrQ x.rx=joinTx x.k ((if x.k=3∧loQ (lastQ out)=true∧loQ (gQ (parenQ (level+1) c.rx (wrQ c.rx)) 0)=true then out++[32] else out)++signQ x.k++parenQ (level+1) c.rx (wrQ c.rx)) (wrsQ (level+1) (Rt.rxs (x.l.drop (i+1)))):=fun h=>by
       rw [if_neg h] at he;rw [he];rfl
      refine regex_bare.L2T_step _ _ _ _ _ _ _ _ _ _ _ _ _ (sel_true (decide_eq_true (by omega)) (part_el (show x.P w3 from H3.getD 0) rfl hg (H3.newg fun b9 w4 H4=>H4.locg fun w5 H5=>?_)))
      rw [eb1]
      refine one c (level+1) w5 _ _ _ (by omega) hc H5 fun w6 H6=>?_
      have H6:LH F0 w w6 [.g b1,.g b9] [.tree x]:=H6
      generalize parenQ (level+1) c.rx (wrQ c.rx)=t at he0 he1 hsum hcp
      have go:∀(o:BL) (w7:World),o.length≤out.length+1→out.length≤o.length→wrQ x.rx=joinTx x.k (o++t) (wrsQ (level+1) (Rt.rxs (x.l.drop (i+1))))→LH F0 w w7 [.g b1,.g b9] [.tree x]→regex_bare.S3T b1 x.k x.lo.toNat x.hi.toNat x.s (ba sign) (level:Int) (ba o) (ba t) x.s ((x.s.n:Nat):Int) (i:Int) w7 R:=by
       intro o w7 h1 h2 h3 H7
       refine ⟨?_,?_⟩
       ·rw [ba_size,ba_size];show ¬(((_:Nat):Int)>9223372036854775807);omega
       ·rw [ba_app,i64_next _ (by omega)]
        refine ihd (i+1) (o++t) w7 (by omega) (fun _=>by simp only [List.length_append];omega) (fun h=>by omega) (by simp only [List.length_append];omega) (by rw [if_neg (by omega)];exact h3) (H7.take 1)
      refine sel_dec (fun hi0=>⟨?_,?_⟩) (fun hi0=>go out w6 (by omega) (Nat.le_refl _) (by rw [hz (by omega)];exact he0 (by omega)) H6)
      ·rw [ba_size,ba_size];show ¬(((_:Nat):Int)>9223372036854775807);omega
      have he1:=he1 (by omega)
      have hout:=hout (by omega)
      rw [hsg] at he1
      have ea:ba out++ba sign=ba (out++sign):=ba_app _ _
      have plainGo:∀w7,LH F0 w w7 [.g b1,.g b9] [.tree x]→¬(x.k=3∧loQ (lastQ out)=true∧loQ (gQ t 0)=true)→regex_bare.S3T b1 x.k x.lo.toNat x.hi.toNat x.s (ba sign) (level:Int) (ba (out++sign)) (ba t) x.s ((x.s.n:Nat):Int) (i:Int) w7 R:=fun w7 H7 hno=>go (out++sign) w7 (by simp only [List.length_append];omega) (by simp only [List.length_append];omega) (by rw [if_neg hno] at he1;exact he1) H7
      rw [ea]
      refine sel_eq (fun hk3=>?_) (fun hk3=>plainGo w6 H6 (fun h=>hk3 h.1))
      have s3:sign=[]:=by rw [←hsg];unfold signQ;rw [if_pos hk3]
      have e9:out++sign=out:=by rw [s3,List.append_nil]
      rw [e9] at plainGo ⊢
      have eo:IntKind.wrap .i64 ((((ba out).size:Nat):Int) - 1)=((out.length - 1:Nat):Int):=by rw [ba_size,IntWalk.i64_in _ (by omega)];omega
      rw [eo]
      refine ⟨by omega,lastQ out,?_,H6.callg (c_small (lastQ out) w6) ?_⟩
      ·rw [Int.toNat_natCast,sb_at (s:=ba out) (by rw [ba_size];omega),bl_ba,last_at out hout]
      rintro _ w7 rfl H7
      refine ⟨_,rfl,sel_intro (fun hlo=>⟨by omega,gQ t 0,?_,H7.callg (c_small (gQ t 0) w7) ?_⟩) (fun hlo=>plainGo w7 H7 (fun h=>by rw [small_eq,h.2.1] at hlo;cases hlo))⟩
      ·rw [show Int.toNat 0=0 from rfl,sb_at (s:=ba t) (by rw [ba_size];omega),bl_ba]
      rintro _ w8 rfl H8
      refine ⟨_,rfl,sel_intro (fun hlt=>⟨?_,?_⟩) (fun hlt=>plainGo w8 H8 (fun h=>by rw [small_eq,h.2.2] at hlt;cases hlt))⟩
      ·rw [ba_size];show ¬(((_+1:Nat):Int)>9223372036854775807);omega
      ·have e32:ba out++ByteArray.mk #[32]=ba (out++[32]):=by
        show _++ba [32]=_
        rw [ba_app]
       rw [e32]
       refine go (out++[32]) w8 (by simp) (by simp) ?_ H8
       rw [if_pos ⟨hk3,hlo,hlt⟩,s3,List.append_nil] at he1
       exact he1
    have h3:=wrs_len (level+1) (Rt.rxs x.l)
    have h4:Rx.szs (Rt.rxs x.l)=Rt.szs x.l:=Rt.rxs_sz x.l
    exact loop x.l.length 0 [] w1 (by omega) (fun h=>by omega) (fun _=>rfl) (by rw [List.drop_zero];simp;omega) (by rw [if_pos rfl,List.drop_zero];exact ej) H1
  have bd:2≤x.l.length→bindsQ x.rx=if x.k=3 then 2 else if x.k=4 then 0 else 1:=fun h2=>by rw [ebd,if_neg hk6,if_neg (by omega)]
  refine sel_eq (fun h4=>S1 [97,108,116] [124] 0 rfl (by rw [h4];rfl) (by rw [h4];rfl) (by omega) (fun h2=>by rw [bd h2,h4];rfl)) (fun h4=>sel_eq (fun h5=>S1 [97,108,108] [38] 1 rfl (by rw [h5];rfl) (by rw [h5];rfl) (by omega) (fun h2=>by rw [bd h2,h5];rfl)) (fun h5=>S1 [99,97,116] [] 2 rfl (by rw [show x.k=3 by omega];rfl) (by rw [show x.k=3 by omega];rfl) (by omega) (fun h2=>by rw [bd h2,show x.k=3 by omega];rfl)))
theorem p_text (x:Rt) (lv:Nat) (w:World) (h:x.sz≤1000000) (hlv:lv≤1000) (hok:okW x.rx=true) (px:x.P w):Calls Tryz.prog n_regex_text #[x.v,.i (lv:Int)] w fun r w'=>r=.returned (.string (ba (parenQ lv x.rx (wrQ x.rx))))∧Fr0 w w':=p_textN (Nat.le_refl _) (p_bareN 1000000 (Nat.le_refl _)) x lv w h hlv hok px
end Go.Proofs.YtcifihepfadgfaaGreatDoor
set_option maxRecDepth 100000
set_option maxHeartbeats 1000000
namespace Go.Proofs.YtcifihepfadgfaaGreatDoor
open Go Go.W
theorem sort12:SortOk 12:=by
 intro s l w h12 hl ho pl hd
 have nr:=Rt.rows_n ho.rdn
 refine slices_SortFunc_sl_regex_Regex_regex_Regex.ok _ w _ ((c_Len _ w).mono ?_)
 rintro _ w1 ⟨⟨t,rfl⟩,f⟩
 refine ⟨t,rfl,slices_pdqsortCmpFunc_regex_Regex.ok _ _ _ _ w1 _ (pd_small hl (ho.fr f fun _ _ h=>h) (pl.fr0 f) hd [] l [] (by simp) h12 _ _ rfl (by simp [nr]) _ _ _ fun w' h2 f2=>?_)⟩
 exact ⟨rfl,⟨sortT l,rfl,sortT_perm l,sortT_asc l,by simpa using h2⟩,f.of0.trans f2 fun x _ h=>h⟩
theorem bltF {a b:Nat} (h:¬a<b):Nat.blt a b=false:=by
 cases hc:Nat.blt a b with
 |false=>rfl
 |true=>rw [Nat.blt_eq] at hc;exact absurd hc h
mutual
theorem good_okW:∀x:Rx,goodR x=true→okW x=true
 |.mk k lo hi l,h=>by
  unfold goodR at h
  simp only [Bool.and_eq_true] at h
  have h2:=h.2
  have hl:goodL l=true→okWs l=true:=goods_okW l
  unfold okW
  split at h2
  ·rename_i hk
   have:l=[]:=by simpa using h2
   subst this
   have hk:k=0∨k=1:=hk
   unfold okWs
   rcases hk with rfl|rfl<;>decide
  ·split at h2
   ·rename_i hk
    simp only [Bool.and_eq_true] at h2
    have:l=[]:=by simpa using h2.1
    subst this
    subst hk
    unfold okWs
    decide
   ·split at h2
    ·rename_i hk
     rw [hl h2]
     rcases hk with rfl|rfl|rfl<;>simp
    ·split at h2
     ·rename_i hk
      simp only [Bool.and_eq_true,beq_iff_eq] at h2
      rw [hl h2.2]
      rcases hk with rfl|rfl<;>simp [h2.1]
     ·cases h2
theorem goods_okW:∀l:List Rx,goodL l=true→okWs l=true
 |[],_=>rfl
 |a::l,h=>by
  unfold goodL at h
  unfold okWs
  simp only [Bool.and_eq_true] at h
  rw [good_okW a h.1,goods_okW l h.2]
  rfl
end
def normP (t:BL):Bool:=bif Nat.blt 4096 t.length then false else match txt t with
 |.inl _=>false
 |.inr S=>bif Nat.blt 64 (exprX S.tp).sz then false else
  if nmE (exprX S.tp)=0 then (if validR (nmR (exprX S.tp))=0 then parenQ 0 (nmR (exprX S.tp)) (wrQ (nmR (exprX S.tp)))==t else false) else false
theorem t_isNormal (s:ByteArray) (hf:∀S,txt (bl s)=.inr S→fewR 12 (exprX S.tp)) (w:World):Calls Tryz.prog n_term_isNormal #[.string s] w fun r w'=>r=.returned (.bool (normP (bl s)))∧Fr0 w w':=by
 have hl:(bl s).length=s.size:=bl_len s
 have H:LH F0 w w [] []:=lh0 [] (by simp)
 refine term_isNormal.okT s w _ ((c_Parse s w).mono ?_)
 rintro r w1 ⟨f1,hr⟩
 have H1:=H.fr0 f1
 have no:∀(a e:Int),e≠0→normP (bl s)=false→r=.returned (.tuple #[.agg #[.int .i64 0,.int .u8 0,.int .u8 0,.slice none 0 0],.int .i64 a,.int .i64 e])→∃(t0 t1 t2:Int) (t3:Sl) (t4 t5:Int),r=.returned (.tuple #[.agg #[.i t0,.int .u8 t1,.int .u8 t2,t3.v],.i t4,.i t5])∧newV [] w1 fun b3 w2=>sel (t5 !=0) (loc [b3] w2 fun w6=>(Ending.returned (.bool false)=.returned (.bool (normP (bl s)))∧Fr0 w w6)) (loc [b3] w2 fun w6=>cf11 [b3] n_regex_Normal #[.agg #[.i t0,.int .u8 t1,.int .u8 t2,t3.v]] w6 fun t18_0_0 t18_0_1 t18_0_2 t18_0_3 t18_1 w7=>newV [b3] w7 fun b6 w8=>
   sel (t18_1 !=0) (loc [b3,b6] w8 fun w12=>(Ending.returned (.bool false)=.returned (.bool (normP (bl s)))∧Fr0 w w12)) (loc [b3,b6] w8 fun w12=>cf24 [b3,b6] n_regex_Print #[.agg #[.i t18_0_0,.int .u8 t18_0_1,.int .u8 t18_0_2,t18_0_3.v]] w12 fun t25_0 t25_1 w13=>sel (t25_1==0) (Ending.returned (.bool (t25_0.toList==s.toList))=.returned (.bool (normP (bl s)))∧Fr0 w w13) (Ending.returned (.bool false)=.returned (.bool (normP (bl s)))∧Fr0 w w13))):=fun a e he hn hr=>⟨0,0,0,⟨none,0,0⟩,a,e,hr,H1.newg fun b3 w2 H2=>sel_ne (fun _=>H2.locg fun w3 H3=>⟨by rw [hn],H3.fr⟩) (fun h=>absurd h he)⟩
 rcases hr with ⟨h1,h2⟩|⟨h1,res,hrun,⟨a,rfl,h2⟩|⟨S',rfl,⟨h3,h2⟩|⟨h3,t,h2,ht,pt,ft⟩⟩⟩
 ·refine no _ _ (by decide) ?_ h2
  unfold normP
  rw [show Nat.blt 4096 (bl s).length=true from by rw [Nat.blt_eq];omega]
  rfl
 all_goals have hbl:Nat.blt 4096 (bl s).length=false:=bltF (by omega)
 all_goals have htx:=txt_of hrun
 ·have htx:Sum.inl a=txt (bl s):=htx
  refine no _ _ (by decide) ?_ h2
  unfold normP
  rw [hbl,←htx]
  rfl
 ·have htx:Sum.inr (erS S')=txt (bl s):=htx
  refine no _ _ (by decide) ?_ h2
  unfold normP
  rw [hbl,←htx]
  dsimp only [cond_false]
  rw [expr_er,show Nat.blt 64 (exprX S'.tp).sz=true from by rw [Nat.blt_eq];exact h3]
  rfl
 ·have htx:Sum.inr (erS S')=txt (bl s):=htx
  have hfew:=hf _ htx.symm
  rw [expr_er] at hfew
  have hnp:normP (bl s)=if nmE (exprX S'.tp)=0 then (if validR (nmR (exprX S'.tp))=0 then parenQ 0 (nmR (exprX S'.tp)) (wrQ (nmR (exprX S'.tp)))==bl s else false) else false:=by
   unfold normP
   rw [hbl,←htx]
   dsimp only [cond_false]
   have:Nat.blt 64 (exprX S'.tp).sz=false:=bltF (by omega)
   rw [expr_er,this]
   rfl
  generalize exprX S'.tp=x at ht hfew hnp h3
  have H1':=H.addD (.tree t) f1 pt (fun b hb=>.inl (ft b (mem_nub.1 hb)))
  have szt:t.sz≤64:=by rw [←Rt.rx_sz,ht];exact h3
  refine ⟨_,_,_,t.s,_,_,h2,H1'.newg fun b3 w2 H2=>sel_ne (fun h=>absurd rfl h) (fun _=>H2.locg fun w3 H3=>?_)⟩
  refine H3.callr (c_Normal sort12 (by omega) t w3 (by omega) (by rw [ht];exact hfew) (H3.getD 0)) ?_
  rintro _ w4 ⟨u,rfl,hu,pu,fu⟩ _ F4
  rw [ht] at hu
  rw [ht]
  have H4:=F4.rd (.tree u) pu fun b hb=>fu b (mem_nub.1 hb)
  refine ⟨_,_,_,u.s,_,rfl,H4.newg fun b6 w5 H5=>sel_ne (fun hne=>H5.locg fun w6 H6=>⟨by rw [hnp,if_neg hne],H6.fr⟩) (fun he=>H5.locg fun w6 H6=>?_)⟩
  rw [if_pos he] at hnp
  have szu:u.sz≤1000000:=by
   rw [←Rt.rx_sz,hu]
   have:nmE x=0:=he
   unfold nmE at this
   unfold nmR
   split at this
   ·rename_i hv
    rw [if_pos hv]
    unfold limE at this
    unfold limR
    split at this
    ·cases this
    ·rename_i h64
     rw [if_neg h64]
     omega
   ·rename_i hv
    exact absurd this hv
  refine callF0 (regex_Print.okT _ _ _ _ w6 _ ((lhT (H6.getD 1)).newg fun b1 w7 H7=>H7.callg (c_Valid u w7 szu (H7.getD 0)) ?_))
  rintro _ w8 rfl H8
  rw [hu]
  refine ⟨_,rfl,sel_ne (fun hne=>⟨H8.fr,_,_,rfl,sel_eq (fun h=>absurd h hne) (fun _=>⟨by rw [hnp,if_neg hne],(H6.fr0 H8.fr).fr⟩)⟩) (fun hv=>H8.callg (p_text u 0 w8 szu (by omega) ?_ (H8.getD 0)) ?_)⟩
  ·exact good_okW _ (by rw [hu];exact (valid_good hv).1)
  ·rintro _ w9 rfl H9
   refine ⟨_,rfl,H9.fr,_,_,rfl,sel_true rfl ⟨?_,(H6.fr0 H9.fr).fr⟩⟩
   rw [hnp,if_pos hv,hu]
   congr 2
   have:=ba_eq (parenQ 0 (nmR x) (wrQ (nmR x))) (bl s)
   rw [ba_bl] at this
   exact this
end Go.Proofs.YtcifihepfadgfaaGreatDoor
set_option maxRecDepth 100000
set_option maxHeartbeats 1000000
namespace Go.Proofs.YtcifihepfadgfaaGreatDoor
open Go Go.W
def fewT (t:BL):Bool:=match txt t with
 |.inr S=>Nat.ble (lvX (exprX S.tp)) 12
 |.inl _=>true
def chkT (t:BL):Bool:=(match canQ t with
 |some b=>normP t==b
 |none=>false)&&fewT t&&Nat.ble t.length 100
def chkR (i:Nat):Bool:=(List.range 108).all (fun k=>chkT (textQ (108 *i+k)))
theorem gen_ok0:chkR 0=true:=by kernel_rfl
theorem gen_ok1:chkR 1=true:=by kernel_rfl
theorem gen_ok2:chkR 2=true:=by kernel_rfl
theorem gen_ok3:chkR 3=true:=by kernel_rfl
theorem gen_ok4:chkR 4=true:=by kernel_rfl
theorem gen_ok5:chkR 5=true:=by kernel_rfl
theorem gen_ok6:chkR 6=true:=by kernel_rfl
theorem gen_ok7:chkR 7=true:=by kernel_rfl
theorem gen_ok8:chkR 8=true:=by kernel_rfl
theorem gen_ok9:chkR 9=true:=by kernel_rfl
theorem gen_ok10:chkR 10=true:=by kernel_rfl
theorem gen_ok11:chkR 11=true:=by kernel_rfl
theorem gen_ok12:chkR 12=true:=by kernel_rfl
theorem gen_ok13:chkR 13=true:=by kernel_rfl
theorem gen_ok14:chkR 14=true:=by kernel_rfl
theorem gen_ok15:chkR 15=true:=by kernel_rfl
theorem gen_ok:∀i,i<16→chkR i=true:=by
 intro i hi
 match i,hi with
 |0,_=>exact gen_ok0
 |1,_=>exact gen_ok1
 |2,_=>exact gen_ok2
 |3,_=>exact gen_ok3
 |4,_=>exact gen_ok4
 |5,_=>exact gen_ok5
 |6,_=>exact gen_ok6
 |7,_=>exact gen_ok7
 |8,_=>exact gen_ok8
 |9,_=>exact gen_ok9
 |10,_=>exact gen_ok10
 |11,_=>exact gen_ok11
 |12,_=>exact gen_ok12
 |13,_=>exact gen_ok13
 |14,_=>exact gen_ok14
 |15,_=>exact gen_ok15
 |n+16,h=>exact absurd h (by omega)
theorem gen_at (k:Nat) (h:k<1728):chkT (textQ k)=true:=by
 have h1:=gen_ok (k / 108) (by omega)
 have h2:=List.all_eq_true.1 h1 (k%108) (List.mem_range.2 (Nat.mod_lt _ (by omega)))
 rwa [Nat.div_add_mod] at h2
def fixL:List BL:=[[],[97],[65],[115,101,118,101,110,116,101,101,110,45,108,101,116,116,101,114,115],[97,45,49],[45],[40],[122,122],[97,98],[98],[0],[97,97],[99],[100],[109],[110],[115],[116],[105],[122]]
theorem fix_ok:fixL.all chkT=true:=by kernel_rfl
def OcT (t:ByteArray):Prop:=bl t∈fixL∨∃k,t=ba (textQ k)
theorem oc_chk {t:ByteArray} (h:OcT t):chkT (bl t)=true:=by
 rcases h with h|⟨k,rfl⟩
 ·exact List.all_eq_true.1 fix_ok _ h
 ·rw [bl_ba,textQ_mod]
  exact gen_at (k%1728) (Nat.mod_lt _ (by omega))
theorem oc_ok {t:ByteArray} (h:OcT t):TxOk t∧NormOk t∧t.size≤100:=by
 have hc:=oc_chk h
 unfold chkT at hc
 simp only [Bool.and_eq_true] at hc
 obtain ⟨⟨h1,h2⟩,h3⟩:=hc
 have h3:=Nat.le_of_ble_eq_true h3
 rw [bl_len] at h3
 cases hq:canQ (bl t) with
 |none=>rw [hq] at h1;cases h1
 |some b=>
  rw [hq] at h1
  have h1:=eq_of_beq h1
  have hx:TxOk t:=⟨by omega,b,hq⟩
  refine ⟨hx,fun w=>?_,h3⟩
  have hcan:canX t=b:=by
   have:=hx.can
   rw [hq] at this
   exact (Option.some.inj this).symm
  rw [hcan,←h1]
  refine t_isNormal t (fun S hS=>few_lv _ ?_) w
  unfold fewT at h2
  rw [hS] at h2
  exact Nat.le_of_ble_eq_true h2
end Go.Proofs.YtcifihepfadgfaaGreatDoor
set_option maxRecDepth 100000
set_option maxHeartbeats 1000000
namespace Go.Proofs.YtcifihepfadgfaaGreatDoor
open Go Go.W
structure SpN (c:Nat) (d:Nx):Prop where
 kl:d.kids.length≤c
 n:I64 d.n
 m:I64 d.m
 u:0≤d.u
 tx:d.op=33→OcT d.tx
theorem MdN.sp {d:Nx} (h:MdN d):SpN 3 d:=⟨h.kl,⟨by have:=h.n;omega,by have:=h.n;omega⟩,⟨by have:=h.m;omega,by have:=h.m;omega⟩,h.u.1,fun h33=>.inr (h.re h33)⟩
theorem SpN.le {c e:Nat} {d:Nx} (h:SpN c d) (hc:c≤e):SpN e d:=⟨by have:=h.kl;omega,h.n,h.m,h.u,h.tx⟩
theorem SpN.nok {c:Nat} {d:Nx} (h:SpN c d) (hc:c≤100):NOk d:=⟨by have:=h.kl;unfold MaxL;omega,h.n,h.m,fun h33=>(oc_ok (h.tx h33)).1⟩
theorem SpN.tok {c:Nat} {d:Nx} (h:SpN c d) (hc:c≤100):TOk d:=⟨by have:=h.kl;omega,h.n,h.m,h.u,fun h33=>(oc_ok (h.tx h33)).2.1⟩
def spL (by_:Int):List Int:=[by_,-1,0,1,63,64,65,1099511627776]
def spT:List ByteArray:=[ByteArray.mk #[],ByteArray.mk #[97],ByteArray.mk #[65],ByteArray.mk #[115,101,118,101,110,116,101,101,110,45,108,101,116,116,101,114,115],ByteArray.mk #[97,45,49],ByteArray.mk #[45],ByteArray.mk #[40],ByteArray.mk #[122,122]]
theorem spT_oc:∀t∈spT,OcT t:=by
 intro t ht
 refine .inl ?_
 revert t
 decide
theorem spL_33 {b:Int} {x:Int} (h:(spL b)[(aroundI b 8).toNat]? =some x) (hb:I64 b):I64 x∧x≠33:=by
 have hr:=aroundI_range b 8 (by omega)
 have h33:b=33→aroundI b 8=1:=fun e=>by rw [e];rfl
 generalize aroundI b 8=a at h hr h33
 have:a=0∨a=1∨a=2∨a=3∨a=4∨a=5∨a=6∨a=7:=by omega
 rcases this with rfl|rfl|rfl|rfl|rfl|rfl|rfl|rfl
 all_goals
  have h:=Option.some.inj h
  subst h
 ·exact ⟨hb,fun e=>absurd (h33 e) (by decide)⟩
 all_goals exact ⟨⟨by decide,by decide⟩,by decide⟩
theorem u64_nonneg (n:Int):0≤IntKind.wrap .u64 n:=by
 have:IntKind.wrap .u64 n=n%18446744073709551616:=by simp [IntKind.wrap,IntKind.bits,IntKind.signed]
 omega
theorem i64_wrap (n:Int):I64 (IntKind.wrap .i64 n):=by
 have:IntKind.wrap .i64 n=(n+9223372036854775808)%18446744073709551616 - 9223372036854775808:=by
  simp [IntKind.wrap,IntKind.bits,IntKind.signed]
  split<;>omega
 rw [this]
 constructor<;>omega
theorem rd_rdn {w:World} {s:Sl} {vs:List Value} (h:Rd w s vs):RdN 1 w s vs:=⟨by rw [Nat.mul_one];exact h.1.symm,h.2.1,h.2.2⟩
def RetNd (w:World) (c:Nat) (r:Ending) (w':World):Prop:=∃d:Nd,r=.returned d.v∧SpN c d.x∧d.P w'∧∀b∈(kidE d).fp,w.heap.size≤b
theorem c_Spoilt {w:World} {d:Nd} {c:Nat} (hd:d.P w) (hs:SpN c d.x) (hc:c≤100) (how by_:Int) (hh:I64 how) (hb:I64 by_):
  Calls Tryz.prog n_enthymemeref07_Spoilt #[d.v,.i how,.i by_] w fun r w'=>RetNd w (c+1) r w'∧Fr0 w w':=by
 have hkl:=hs.kl
 have hkn:=Nums.len hd
 have H:LH F0 w w [] [kidE d]:=lh0 _ (by
  intro e he
  simp only [List.mem_cons,List.not_mem_nil,or_false] at he
  subst he
  exact hd)
 refine enthymemeref07_Spoilt.okT _ _ _ _ _ _ _ _ _ _ _ w _ (H.newg fun b3 w1 H1=>H1.newg fun b6 w2 H2=>H2.nwrow (n:=0) (sz:=1) (cs:=[]) rfl (by decide) fun w3 H3=>?_)
 refine H3.apT 2 el_ints (s:=⟨some (at0 w2.heap.size),0,0⟩) (src:=d.ks) rfl (rd_rdn (H3.getD 0)) (intV_one _) (by simp only;omega) (fun t12 w4 H4=>?_)
 have H4:LH F0 w w4 [.g b3,.g b6,numR t12 d.x.kids] [kidE d]:=H4
 have fin:∀(L2:List En) (w5:World) (x:Nx) (ts:Sl),LH F0 w w5 ([.g b3,.g b6,numR ts x.kids]++L2) [kidE d]→SpN (c+1) x→
   enthymemeref07_Spoilt.S0T b3 x.op ts x.n x.m x.u x.tx x.st.k x.st.n x.st.x b6 0 ⟨none,0,0⟩ 0 0 0 (ByteArray.mk #[]) 0 0 0 w5 fun r w'=>RetNd w (c+1) r w'∧Fr0 w w':=fun L2 w5 x ts H5 hx=>
  H5.locg fun w6 H6=>⟨⟨⟨x,ts⟩,rfl,hx,num_own (H6.get 2),rd_fp fun b hb=>(H6.new _ (List.mem_of_getElem? (i:=2) rfl) b hb).resolve_right id⟩,H6.fr⟩
 refine H4.locg fun w5 H5=>H5.nw fun w6 _ H6=>H6.callg (n_around by_ 8 w6 (by omega) hb) ?_
 have hr:=aroundI_range by_ 8 (by omega)
 obtain ⟨k,hk⟩:∃k,(spL by_)[(aroundI by_ 8).toNat]? =some k:=⟨_,List.getElem?_eq_getElem (by show _<8;omega)⟩
 have hk33:=spL_33 hk hb
 rintro _ w7 rfl H7
 have k0:Nums w7 ⟨some (at0 w5.heap.size),8,8⟩ (spL by_):=blk_nums (T:=ty_int) (H7.ob 3) rfl
 refine ⟨_,rfl,hr.1,hr.2,k0.cell hk (by omega) fun p hp hc=>⟨k,hc,H7.callg (n_around how 10 w7 (by omega) hh) ?_⟩⟩
 rintro _ w8 rfl H8
 have e33:∀x:Nx,x.kids.length≤c+1→I64 x.n→I64 x.m→0≤x.u→(x.op=33→OcT x.tx)→SpN (c+1) x:=fun x h1 h2 h3 h4 h5=>⟨h1,h2,h3,h4,h5⟩
 refine ⟨_,rfl,?_⟩
 refine sel_eq (fun _=>H8.locg fun w9 H9=>fin _ w9 {d.x with op:=k} t12 H9 (e33 _ (by simp only;omega) hs.n hs.m hs.u fun h=>absurd h hk33.2)) (fun _=>?_)
 refine sel_eq (fun _=>H8.locg fun w9 H9=>fin _ w9 {d.x with n:=k} t12 H9 (e33 _ (by simp only;omega) hk33.1 hs.m hs.u hs.tx)) (fun _=>?_)
 refine sel_eq (fun _=>H8.locg fun w9 H9=>fin _ w9 {d.x with m:=k} t12 H9 (e33 _ (by simp only;omega) hs.n hk33.1 hs.u hs.tx)) (fun _=>?_)
 refine sel_eq (fun _=>H8.locg fun w9 H9=>fin _ w9 {d.x with u:=IntKind.wrap .u64 k} t12 H9 (e33 _ (by simp only;omega) hs.n hs.m (u64_nonneg k) hs.tx)) (fun _=>?_)
 refine sel_eq (fun _=>?_) (fun _=>?_)
 ·refine H8.nw fun w13 _ H13=>H13.callg (n_around by_ 8 w13 (by omega) hb) ?_
  rintro _ w14 rfl H14
  obtain ⟨t,ht⟩:∃t,spT[(aroundI by_ 8).toNat]? =some t:=⟨_,List.getElem?_eq_getElem (by show _<8;omega)⟩
  refine ⟨_,rfl,hr.1,hr.2,optP_mk ⟨t,?_,H14.locg fun w15 H15=>fin _ w15 {d.x with tx:=t} t12 H15 (e33 _ (by simp only;omega) hs.n hs.m hs.u fun _=>spT_oc _ (List.mem_of_getElem? ht))⟩⟩
  rw [Nat.mul_one]
  refine H14.ld 4 _ rfl ?_
  show (spT.map Value.string)[_]? =_
  rw [List.getElem?_map,ht]
  rfl
 refine sel_eq (fun _=>H8.locg fun w9 H9=>fin _ w9 {d.x with st:=⟨k,d.x.st.n,d.x.st.x⟩} t12 H9 (e33 _ (by simp only;omega) hs.n hs.m hs.u hs.tx)) (fun _=>?_)
 refine sel_eq (fun _=>H8.locg fun w9 H9=>fin _ w9 {d.x with st:=⟨d.x.st.k,k,d.x.st.x⟩} t12 H9 (e33 _ (by simp only;omega) hs.n hs.m hs.u hs.tx)) (fun _=>?_)
 refine sel_eq (fun _=>H8.locg fun w9 H9=>fin _ w9 {d.x with st:=⟨d.x.st.k,d.x.st.n,k⟩} t12 H9 (e33 _ (by simp only;omega) hs.n hs.m hs.u hs.tx)) (fun _=>?_)
 refine sel_eq (fun _=>H8.locg fun w9 H9=>H9.callg (n_around by_ 9 w9 (by omega) hb) ?_) (fun _=>?_)
 ·rintro _ w10 rfl H10
  have hs1:t12.n=d.x.kids.length:=num_len (show OwnRow w10 ty_int 1 t12 (d.x.kids.map intV) from H10.get 2)
  refine ⟨_,rfl,H10.ap1T 2 el_ints rfl (fun s2 w11 H11=>H11.locg fun w12 H12=>?_) (by omega)⟩
  have H12:LH F0 w w12 ([.g b3,.g b6,numR s2 (d.x.kids++[aroundI by_ 9])]++[.c w5.heap.size [.i by_,.i (-1),.i 0,.i 1,.i 63,.i 64,.i 65,.i 1099511627776] ty_int]) [kidE d]:=by
   rw [show numR s2 (d.x.kids++[aroundI by_ 9])=.row ty_int 1 s2 (d.x.kids.map intV++[intV (aroundI by_ 9)]) by rw [numR,List.map_append];rfl];exact H12
  exact fin _ w12 {d.x with kids:=d.x.kids++[aroundI by_ 9]} s2 H12 (e33 _ (by simp only [List.length_append,List.length_cons,List.length_nil];omega) hs.n hs.m hs.u hs.tx)
 have loop:∀(m i:Nat) (ks:List Int) (L2:List En) (w9:World),i+m=ks.length→ks.length=d.x.kids.length→LH F0 w w9 ([.g b3,.g b6,numR t12 ks]++L2) [kidE d]→
   enthymemeref07_Spoilt.L1T by_ b3 d.x.op t12 d.x.n d.x.m d.x.u d.x.tx d.x.st.k d.x.st.n d.x.st.x b6 0 ⟨none,0,0⟩ 0 0 0 (ByteArray.mk #[]) 0 0 0 (i:Int) w9 fun r w'=>RetNd w (c+1) r w'∧Fr0 w w':=by
  intro m
  induction m with
  |zero=>
   intro i ks L2 w9 hi hl H9
   have hs1:t12.n=ks.length:=num_len (show OwnRow w9 ty_int 1 t12 (ks.map intV) from H9.get 2)
   exact enthymemeref07_Spoilt.L1T_step _ _ _ _ _ _ _ _ _ _ _ _ _ _ _ _ _ _ _ _ _ _ _ _ (sel_false (decide_eq_false (by omega)) (fin L2 w9 {d.x with kids:=ks} t12 H9 (e33 _ (by simp only;omega) hs.n hs.m hs.u hs.tx)))
  |succ m ih=>
   intro i ks L2 w9 hi hl H9
   have hs1:t12.n=ks.length:=num_len (show OwnRow w9 ty_int 1 t12 (ks.map intV) from H9.get 2)
   have ho:OwnRow w9 ty_int 1 t12 (ks.map intV):=H9.get 2
   refine enthymemeref07_Spoilt.L1T_step _ _ _ _ _ _ _ _ _ _ _ _ _ _ _ _ _ _ _ _ _ _ _ _ (sel_true (decide_eq_true (by omega)) ?_)
   rw [i64_next _ (by omega)]
   refine ⟨by omega,H9.locg fun w10 H10=>H10.callg (n_around _ 12 w10 (by omega) (i64_wrap _)) ?_⟩
   rintro _ w11 rfl H11
   refine ⟨_,rfl,by omega,by omega,?_⟩
   obtain ⟨k1,hk1⟩:∃k1,ks[i]? =some k1:=⟨_,List.getElem?_eq_getElem (by omega)⟩
   refine (num_own (show OwnRow w11 ty_int 1 t12 (ks.map intV) from H11.get 2)).cell hk1 (j:=Int.toNat (i:Int) *1) (by omega) fun p hp _=>?_
   refine H11.st1 (bs:=[b3,b6]) 2 (Int.toNat (i:Int) *1) rfl hp (by simp;omega) (fun w12 H12=>?_)
   generalize aroundI _ 12=z at H12 ⊢
   have e1:Int.toNat (i:Int) *1=i:=by omega
   refine ih (i+1) (ks.set i z) L2 w12 (by rw [List.length_set];omega) (by rw [List.length_set];exact hl) ?_
   rw [e1] at H12
   rw [show numR t12 (ks.set i z)=.row ty_int 1 t12 ((ks.map intV).set i (intV z)) by rw [numR,List.map_set]]
   exact H12
 exact loop d.x.kids.length 0 d.x.kids _ w8 (by omega) rfl H8
def findX (g:List Nx) (n:Nx):Int×Bool:=if (srtX g n).2≠0 then (0,false) else match idxX (withS n (srtX g n).1) g 0 with
 |some i=>((i:Int),true)
 |none=>(0,false)
theorem find_add {g:List Nx} {n:Nx}:((addX g n).2.2=0∧(addX g n).2.1<(g.length:Int)∧(findX g n).2=true∧(findX g n).1=(addX g n).2.1)∨(¬((addX g n).2.2=0∧(addX g n).2.1<(g.length:Int))∧(findX g n).2=false∧(findX g n).1=0):=by
 unfold addX findX
 by_cases h0:(srtX g n).2≠0
 ·rw [if_pos h0,if_pos h0]
  exact .inr ⟨fun h=>h0 h.1,rfl,rfl⟩
 ·rw [if_neg h0,if_neg h0]
  cases hi:idxX (withS n (srtX g n).1) g 0 with
  |some i=>
   have:=idx_lt hi
   exact .inl ⟨rfl,by dsimp only;omega,rfl,rfl⟩
  |none=>
   refine .inr ⟨?_,rfl,rfl⟩
   dsimp only
   split
   ·exact fun h=>absurd h.1 (by decide)
   ·exact fun h=>absurd h.2 (by dsimp only;omega)
theorem t_Find {w:World} {s:Sl} {l:List Nd} {d:Nd} (h:GP w s l) (hd:d.P w) (hk:kcE.P w) (ho:TOk d.x) (hll:l.length≤1000000000) (hv:∀e∈xs l,validS e.st=true) (hgk:∀e∈l,e.x.kids.length≤1000000000):
  Calls Tryz.prog n_term_Find #[.agg #[s.v],d.v] w fun r w'=>r=.returned (.tuple #[.i (findX (xs l) d.x).1,.bool (findX (xs l) d.x).2])∧Fr0 w w':=by
 have H:LH F0 w w [] [.gr s l,kidE d,kcE]:=lh0 _ (by
  intro e he
  simp only [List.mem_cons,List.not_mem_nil,or_false] at he
  rcases he with rfl|rfl|rfl
  ·exact gr_P.2 h
  ·exact hd
  ·exact hk)
 refine term_Find.okT _ _ _ _ _ _ _ _ _ _ w _ (H.newg fun b2 w1 H1=>H1.nw fun w2 _ H2=>?_)
 have H2:LH F0 w w2 [.g b2,.c w1.heap.size d.c ty_api_Node] [.gr s l,kidE d,kcE]:=H2
 refine ⟨d.x.op,d.ks,d.x.n,d.x.m,d.x.u,d.x.tx,d.x.st.k,d.x.st.n,d.x.st.x,H2.ld 1 0,H2.ld 1 1,H2.ld 1 2,H2.ld 1 3,H2.ld 1 4,H2.ld 1 5,H2.ld 1 6,H2.ld 1 7,H2.ld 1 8,?_⟩
 refine H2.callg (t_SortOf (gr_P.1 (H2.getD 0)) (H2.getD 1) (H2.getD 2) ho hll hv) ?_
 rintro _ w4 rfl H4
 unfold findX
 refine ⟨_,_,_,_,rfl,H4.newg fun b7 w5 H5=>sel_ne (fun h0=>H5.locg fun w6 H6=>⟨by rw [if_pos h0],H6.fr⟩) (fun h0=>H5.locg fun w6 H6=>?_)⟩
 rw [if_neg (fun h=>h h0)]
 generalize (srtX (xs l) d.x).1=sr at *
 refine H6.stc0 1 6 rfl (fun w7 H7=>H7.stc 1 6 1 rfl (fun w8 H8=>H8.stc 1 6 2 rfl (fun w9 H9=>?_) (by simp [Nd.c])) (by simp [Nd.c])) (by simp [Nd.c])
 let e:Nd:=⟨withS d.x sr,d.ks⟩
 have H9:LH F0 w w9 [.g b2,.c w1.heap.size e.c ty_api_Node,.g b7] [.gr s l,kidE d,kcE]:=H9
 refine H9.callg (t_search (d:=e) (gr_P.1 (H9.getD 0)) (nda_ob (H9.ob 1)) (H9.getD 1) hll hgk) ?_
 rintro _ w10 rfl H10
 refine ⟨_,rfl,?_⟩
 have he:e.x=withS d.x sr:=rfl
 rw [he]
 cases hi:idxX (withS d.x sr) (xs l) 0 with
 |some i=>exact sel_true (decide_eq_true (Int.natCast_nonneg i)) ⟨rfl,H10.fr⟩
 |none=>exact sel_false (by decide) ⟨rfl,H10.fr⟩
theorem c_SameGraph {w:World} {s t:Sl} {l m:List Nd} (h:GP w s l) (g:GP w t m) (he:xs l=xs m) (hl:l.length≤MaxL) (hk:∀e∈l,e.x.kids.length≤MaxL):
  Calls Tryz.prog n_enthymemeref07_SameGraph #[s.v,t.v] w fun r w'=>r=.returned (.bool true)∧Fr0 w w':=by
 have hn:=gr_n h
 have hm:=gr_n g
 have hlm:l.length=m.length:=by have:=congrArg List.length he;simpa [xs] using this
 unfold MaxL at hl
 have H:LH F0 w w [] [.gr s l,.gr t m]:=lh0 _ (by
  intro e he
  simp only [List.mem_cons,List.not_mem_nil,or_false] at he
  rcases he with rfl|rfl
  ·exact gr_P.2 h
  ·exact gr_P.2 g)
 have loop:∀(k i:Nat) (w1:World),i+k=l.length→LH F0 w w1 [] [.gr s l,.gr t m]→enthymemeref07_SameGraph.L0 s t (i:Int) w1 fun r w'=>r=.returned (.bool true)∧Fr0 w w':=by
  intro k
  induction k with
  |zero=>
   intro i w1 hi H1
   exact enthymemeref07_SameGraph.L0_step _ _ _ _ _ (sel_false (decide_eq_false (by omega)) ⟨rfl,H1.fr⟩)
  |succ k ih=>
   intro i w1 hi H1
   have ga:l[i]? =some (l[i]'(by omega)):=List.getElem?_eq_getElem (by omega)
   have gb:m[i]? =some (m[i]'(by omega)):=List.getElem?_eq_getElem (by omega)
   generalize l[i]'(by omega)=a at ga
   generalize m[i]'(by omega)=b at gb
   have hab:a.x=b.x:=by
    have h1:=xs_get ga
    have h2:=xs_get gb
    rw [he,h2] at h1
    exact (Option.some.inj h1).symm
   refine enthymemeref07_SameGraph.L0_step _ _ _ _ _ (sel_true (decide_eq_true (by omega)) (H1.dr fun w2 H2=>gr_at (gr_P.1 (H2.getD 0)) rfl ga fun p hp c=>?_))
   refine ⟨a.x.op,a.ks,a.x.n,a.x.m,a.x.u,a.x.tx,a.x.st.k,a.x.st.n,a.x.st.x,c.c0,c.c1,c.c2,c.c3,c.c4,c.c5,c.c6,c.c7,c.c8,gr_at (gr_P.1 (H2.getD 1)) rfl gb fun q hq e=>?_⟩
   refine ⟨b.x.op,b.ks,b.x.n,b.x.m,b.x.u,b.x.tx,b.x.st.k,b.x.st.n,b.x.st.x,e.c0,e.c1,e.c2,e.c3,e.c4,e.c5,e.c6,e.c7,e.c8,?_⟩
   refine H2.call (c_Same ((gr_P.1 (H2.getD 0)).2 a (List.mem_of_getElem? ga)) ((gr_P.1 (H2.getD 1)).2 b (List.mem_of_getElem? gb)) (hk a (List.mem_of_getElem? ga))) ?_
   rintro _ w3 rfl H3
   refine ⟨_,rfl,sel_false (by rw [decide_eq_true hab];rfl) ?_⟩
   rw [i64_next _ (by omega)]
   exact ih (i+1) w3 (by omega) H3
 refine enthymemeref07_SameGraph.ok s t w _ (sel_ne (fun hne=>absurd (by omega) hne) (fun _=>loop l.length 0 w (by omega) H))
end Go.Proofs.YtcifihepfadgfaaGreatDoor
set_option maxRecDepth 100000
set_option maxHeartbeats 1000000
namespace Go.Proofs.YtcifihepfadgfaaGreatDoor
open Go Go.W
theorem sel_find {o m a n:Int} {is:Bool} {A B:Prop} (h:(o=0∧m<n∧is=true∧a=m)∨(¬(o=0∧m<n)∧is=false∧a=0)) (hB:B):
  sel (o==0) (sel (!(is==(decide (m<n)))) A (sel is (sel (a !=m) A (sel (!is) (sel (a !=0) A B) B)) (sel (!is) (sel (a !=0) A B) B))) (sel (!(is==false)) A (sel is (sel (a !=m) A (sel (!is) (sel (a !=0) A B) B)) (sel (!is) (sel (a !=0) A B) B))):=by
 rcases h with ⟨h1,h2,rfl,rfl⟩|⟨h1,rfl,rfl⟩
 ·exact sel_eq (fun _=>sel_false (by rw [decide_eq_true h2];rfl) (sel_true rfl (sel_ne (fun h=>absurd rfl h) (fun _=>sel_false rfl hB)))) (fun h=>absurd h1 h)
 ·exact sel_eq (fun h=>sel_false (by rw [decide_eq_false (fun e=>h1 ⟨h,e⟩)];rfl) (sel_false rfl (sel_true rfl (sel_false rfl hB)))) (fun _=>sel_false rfl (sel_false rfl (sel_true rfl (sel_false rfl hB))))
theorem mem_add {g:List Nx} {n e:Nx} (h:e∈(addX g n).1):e∈g∨e.kids=n.kids:=by
 unfold addX at h
 split at h
 ·cases h
 ·split at h
  ·exact .inl h
  ·split at h
   ·cases h
   ·rcases List.mem_append.1 h with h|h
    ·exact .inl h
    ·simp only [List.mem_cons,List.not_mem_nil,or_false] at h
     exact .inr (by rw [h];rfl)
section
variable {W:World} {s ts:Sl} {l ns:List Nd} {b12:Nat}
theorem so_2 (hmd:MdG (xs l)) (hll:l.length≤100) (hns:∀d∈ns,SpN 5 d.x) {i:Nat} {d:Nd} (hi:ns[i]? =some d) {L2 D2:List En} {y:Sl} {l1:List Nd} (hx:xs l1=(addX (xs l) d.x).1) {w:World}
  (H:LH F0 W w ([.g b12]++L2) ([.gr s l,kcE,.gr ts ns,.gr y l1]++D2)) (c0 c1 c2:Nat) (hc:En.g c0∈L2∧En.g c1∈L2∧En.g c2∈L2) {R:Post}
  (next:∀w',LH F0 W w' ([.g b12]++L2) ([.gr s l,kcE,.gr ts ns,.gr y l1]++D2)→enthymemelaw07_TermSorts.L0T s b12 s ts (IntKind.wrap .i64 ((i:Int)+1)) w' R):
  enthymemelaw07_TermSorts.S2T s b12 s ts (i:Int) c0 (srtX (xs l) d.x).1.k (srtX (xs l) d.x).1.n (srtX (xs l) d.x).1.x (srtX (xs l) d.x).2 c1 (srtX (xs l) d.x).1.k (srtX (xs l) d.x).1.n (srtX (xs l) d.x).1.x (srtX (xs l) d.x).2 c2 y (addX (xs l) d.x).2.1 (addX (xs l) d.x).2.2 w R:=by
 have hdm:=List.mem_of_getElem? hi
 have hsp:=hns d hdm
 have hsn:=gr_n (gr_P.1 (H.getD 0))
 have hxl:(xs l).length=l.length:=by simp [xs]
 have hgok:=hmd.ok (by rw [hxl];unfold MaxL;omega)
 have hkl:∀e∈l,e.x.kids.length≤1000000000:=fun e he=>by
  have:=(hmd.nd e.x (List.mem_map.2 ⟨e,he,rfl⟩)).kl
  omega
 have hbs:∀b∈[b12,c0,c1,c2],En.g b∈[En.g b12]++L2:=fun b hb=>by
  simp only [List.mem_cons,List.not_mem_nil,or_false] at hb
  rcases hb with rfl|rfl|rfl|rfl
  ·simp
  ·exact List.mem_append_right _ hc.1
  ·exact List.mem_append_right _ hc.2.1
  ·exact List.mem_append_right _ hc.2.2
 refine gr_at (gr_P.1 (H.getD 2)) rfl hi fun p hp c=>⟨d.x.op,d.ks,d.x.n,d.x.m,d.x.u,d.x.tx,d.x.st.k,d.x.st.n,d.x.st.x,c.c0,c.c1,c.c2,c.c3,c.c4,c.c5,c.c6,c.c7,c.c8,?_⟩
 refine H.callr (c_rAdd (gr_P.1 (H.getD 0)) ((gr_P.1 (H.getD 2)).2 d hdm) hgok (hsp.nok (by omega)) hmd.kl) ?_
 rintro _ w1 ⟨z,rfl,⟨l2,x2,G2,F2⟩⟩ H1 _
 refine ⟨_,_,_,rfl,sel_false (by simp) (sel_false (by simp) (sel_false (by simp) (sel_false (by simp) ?_)))⟩
 have hl1:l1.length≤MaxL:=by
  have:=add_len (xs l) d.x
  rw [←hx] at this
  simp only [xs,List.length_map] at this
  unfold MaxL
  omega
 have hk1:∀e∈l1,e.x.kids.length≤MaxL:=by
  intro e he
  have he:e.x∈xs l1:=List.mem_map.2 ⟨e,he,rfl⟩
  rw [hx] at he
  rcases mem_add he with h|h
  ·have:=(hmd.nd _ h).kl
   unfold MaxL
   omega
  ·rw [h]
   have:=hsp.kl
   unfold MaxL
   omega
 refine callF0 ((c_SameGraph (gr_P.1 (H1.getD 3)) G2 (hx.trans x2.symm) hl1 hk1).mono ?_)
 rintro _ w2 ⟨rfl,f2⟩
 have H2:=H1.fr0 f2
 refine ⟨f2,_,rfl,sel_false rfl ?_⟩
 refine gr_at (gr_P.1 (H2.getD 2)) rfl hi fun p hp _=>H2.locg (hbs:=hbs) fun w3 H3=>?_
 have c:=gr_again (gr_P.1 (H3.getD 2)) hi hp (X:=(i:Int)) rfl
 refine ⟨d.x.op,d.ks,d.x.n,d.x.m,d.x.u,d.x.tx,d.x.st.k,d.x.st.n,d.x.st.x,c.c0,c.c1,c.c2,c.c3,c.c4,c.c5,c.c6,c.c7,c.c8,?_⟩
 refine H3.callg (t_Find (gr_P.1 (H3.getD 0)) ((gr_P.1 (H3.getD 2)).2 d hdm) (H3.getD 1) (hsp.tok (by omega)) (by omega) hmd.vg.val hkl) ?_
 rintro _ w4 rfl H4
 refine ⟨_,_,rfl,?_⟩
 have hf:=find_add (g:=xs l) (n:=d.x)
 rw [hxl,←hsn] at hf
 exact sel_find hf (next w4 H4)
theorem so_1 (hmd:MdG (xs l)) (hll:l.length≤100) (hns:∀d∈ns,SpN 5 d.x) {i:Nat} {d:Nd} (hi:ns[i]? =some d) {L2:List En} {w:World}
  (H:LH F0 W w ([.g b12]++L2) [.gr s l,kcE,.gr ts ns]) (c0:Nat) (hc:En.g c0∈L2) {R:Post}
  (next:∀w',LH F0 W w' [.g b12] [.gr s l,kcE,.gr ts ns]→enthymemelaw07_TermSorts.L0T s b12 s ts (IntKind.wrap .i64 ((i:Int)+1)) w' R):
  enthymemelaw07_TermSorts.S1T s b12 s ts (i:Int) c0 (srtX (xs l) d.x).1.k (srtX (xs l) d.x).1.n (srtX (xs l) d.x).1.x (srtX (xs l) d.x).2 w R:=by
 have hdm:=List.mem_of_getElem? hi
 have hsp:=hns d hdm
 have hxl:(xs l).length=l.length:=by simp [xs]
 have hgok:=hmd.ok (by rw [hxl];unfold MaxL;omega)
 have hkl:∀e∈l,e.x.kids.length≤1000000000:=fun e he=>by
  have:=(hmd.nd e.x (List.mem_map.2 ⟨e,he,rfl⟩)).kl
  omega
 have hb2:∀b∈[b12,c0],En.g b∈[En.g b12]++L2:=fun b hb=>by
  simp only [List.mem_cons,List.not_mem_nil,or_false] at hb
  rcases hb with rfl|rfl
  ·simp
  ·exact List.mem_append_right _ hc
 have hb4:∀(c1 c2:Nat),∀b∈[b12,c0,c1,c2],En.g b∈[En.g b12]++(L2++[.g c1]++[.g c2]):=fun c1 c2 b hb=>by
  simp only [List.mem_cons,List.not_mem_nil,or_false] at hb
  rcases hb with rfl|rfl|rfl|rfl
  ·simp
  ·exact List.mem_append_right _ (List.mem_append_left _ (List.mem_append_left _ hc))
  ·simp
  ·simp
 have nxt:∀{L3 D3:List En} {w':World},LH F0 W w' ([.g b12]++L3) ([.gr s l,kcE,.gr ts ns]++D3)→enthymemelaw07_TermSorts.L0T s b12 s ts (IntKind.wrap .i64 ((i:Int)+1)) w' R:=fun {L3 D3 w'} H'=>
  next w' ((H'.forget [.gr s l,kcE,.gr ts ns] (fun e he=>List.mem_append_left _ he)).take 1)
 refine gr_at (gr_P.1 (H.getD 2)) rfl hi fun p hp c=>⟨d.x.op,d.ks,d.x.n,d.x.m,d.x.u,d.x.tx,d.x.st.k,d.x.st.n,d.x.st.x,c.c0,c.c1,c.c2,c.c3,c.c4,c.c5,c.c6,c.c7,c.c8,?_⟩
 refine H.callg (c_SortOf (gr_P.1 (H.getD 0)) ((gr_P.1 (H.getD 2)).2 d hdm) hgok (hsp.nok (by omega))) ?_
 rintro _ w1 rfl H1
 refine ⟨_,_,_,_,rfl,H1.newg (hbs:=hb2) fun c1 w2 H2=>?_⟩
 have H2:LH F0 W w2 ([.g b12]++(L2++[.g c1])) [.gr s l,kcE,.gr ts ns]:=by rw [←List.append_assoc];exact H2
 have hb3:∀b∈[b12,c0,c1],En.g b∈[En.g b12]++(L2++[.g c1]):=fun b hb=>by
  simp only [List.mem_cons,List.not_mem_nil,or_false] at hb
  rcases hb with rfl|rfl|rfl
  ·simp
  ·exact List.mem_append_right _ (List.mem_append_left _ hc)
  ·simp
 refine gr_at (gr_P.1 (H2.getD 2)) rfl hi fun q hq _=>H2.locg (hbs:=hb3) fun w3 H3=>?_
 have c:=gr_again (gr_P.1 (H3.getD 2)) hi hq (X:=(i:Int)) rfl
 refine ⟨d.x.op,d.ks,d.x.n,d.x.m,d.x.u,d.x.tx,d.x.st.k,d.x.st.n,d.x.st.x,c.c0,c.c1,c.c2,c.c3,c.c4,c.c5,c.c6,c.c7,c.c8,?_,?_⟩
 ·refine callF0 ((t_Add (gr_P.1 (H3.getD 0)) ((gr_P.1 (H3.getD 2)).2 d hdm) (H3.getD 1) (hsp.tok (by omega)) (by omega) hmd.vg.val hkl).mono ?_)
  rintro _ w4 ⟨⟨y,rfl,⟨l1,x1,G1,F1⟩⟩,f4⟩
  have H4:=H3.addD (.gr y l1) f4 (gr_P.2 G1) (fun b hb=>(F1 b hb).elim (fun h=>.inr (.inr ⟨_,List.mem_of_getElem? (i:=0) rfl,h⟩)) .inl)
  refine ⟨f4,_,_,_,rfl,H4.newg (hbs:=hb3) fun c2 w5 H5=>?_⟩
  have H5:LH F0 W w5 ([.g b12]++(L2++[.g c1]++[.g c2])) ([.gr s l,kcE,.gr ts ns,.gr y l1]++[]):=by rw [←List.append_assoc];exact H5
  refine H5.locg (hbs:=hb4 c1 c2) fun w6 H6=>?_
  exact so_2 hmd hll hns hi x1 H6 c0 c1 c2 ⟨by simp [hc],by simp,by simp⟩ fun w' H'=>nxt H'
 ·refine H3.newg (hbs:=hb3) fun c2 w4 H4=>?_
  have H4:LH F0 W w4 ([.g b12]++(L2++[.g c1]++[.g c2])) [.gr s l,kcE,.gr ts ns]:=by rw [←List.append_assoc];exact H4
  have c:=gr_again (gr_P.1 (H4.getD 2)) hi hq (X:=(i:Int)) rfl
  refine ⟨c.c0,c.c1,c.c2,c.c3,c.c4,c.c5,c.c6,c.c7,c.c8,?_⟩
  refine callF0 ((t_Add (gr_P.1 (H4.getD 0)) ((gr_P.1 (H4.getD 2)).2 d hdm) (H4.getD 1) (hsp.tok (by omega)) (by omega) hmd.vg.val hkl).mono ?_)
  rintro _ w5 ⟨⟨y,rfl,⟨l1,x1,G1,F1⟩⟩,f5⟩
  have H5:LH F0 W w5 ([.g b12]++(L2++[.g c1]++[.g c2])) ([.gr s l,kcE,.gr ts ns,.gr y l1]++[]):=H4.addD (.gr y l1) f5 (gr_P.2 G1) (fun b hb=>(F1 b hb).elim (fun h=>.inr (.inr ⟨_,List.mem_of_getElem? (i:=0) rfl,h⟩)) .inl)
  refine ⟨f5,_,_,_,rfl,H5.locg (hbs:=hb4 c1 c2) fun w6 H6=>?_⟩
  exact so_2 hmd hll hns hi x1 H6 c0 c1 c2 ⟨by simp [hc],by simp,by simp⟩ fun w' H'=>nxt H'
theorem so_loop (hmd:MdG (xs l)) (hll:l.length≤100) (hns:∀d∈ns,SpN 5 d.x) (h5:ns.length=5):∀(k i:Nat) (w:World),i+k=5→LH F0 W w [.g b12] [.gr s l,kcE,.gr ts ns]→
  enthymemelaw07_TermSorts.L0T s b12 s ts (i:Int) w fun r w'=>r=.returned (.bool true)∧Fr0 W w':=by
 intro k
 induction k with
 |zero=>
  intro i w hi H
  refine enthymemelaw07_TermSorts.L0T_step _ _ _ _ _ _ _ (sel_false (decide_eq_false (by omega)) (H.callg (c_lives w (H.getD 1)) ?_))
  rintro _ w1 rfl H1
  exact ⟨_,rfl,rfl,H1.fr⟩
 |succ k ih=>
  intro i w hi H
  have hg:ns[i]? =some (ns[i]'(by omega)):=List.getElem?_eq_getElem (by omega)
  generalize ns[i]'(by omega)=d at hg
  have hdm:=List.mem_of_getElem? hg
  have hsp:=hns d hdm
  have nxt:∀w',LH F0 W w' [.g b12] [.gr s l,kcE,.gr ts ns]→enthymemelaw07_TermSorts.L0T s b12 s ts (IntKind.wrap .i64 ((i:Int)+1)) w' fun r w'=>r=.returned (.bool true)∧Fr0 W w':=fun w' H'=>by
   rw [i64_next _ (by omega)]
   exact ih (i+1) w' (by omega) H'
  refine enthymemelaw07_TermSorts.L0T_step _ _ _ _ _ _ _ (sel_true (decide_eq_true (by omega)) (gr_at (gr_P.1 (H.getD 2)) rfl hg fun q hq _=>H.locg fun w1 H1=>?_))
  have c:=gr_again (gr_P.1 (H1.getD 2)) hg hq (X:=(i:Int)) rfl
  refine ⟨d.x.op,d.ks,d.x.n,d.x.m,d.x.u,d.x.tx,d.x.st.k,d.x.st.n,d.x.st.x,c.c0,c.c1,c.c2,c.c3,c.c4,c.c5,c.c6,c.c7,c.c8,?_,?_⟩
  ·refine H1.callg (t_SortOf (gr_P.1 (H1.getD 0)) ((gr_P.1 (H1.getD 2)).2 d hdm) (H1.getD 1) (hsp.tok (by omega)) (by omega) hmd.vg.val) ?_
   rintro _ w2 rfl H2
   exact ⟨_,_,_,_,rfl,H2.newg fun c0 w3 H3=>H3.locg fun w4 H4=>so_1 (L2:=[.g c0]) hmd hll hns hg H4 c0 (by simp) nxt⟩
  ·refine H1.newg fun c0 w2 H2=>?_
   have c:=gr_again (gr_P.1 (H2.getD 2)) hg hq (X:=(i:Int)) rfl
   refine ⟨c.c0,c.c1,c.c2,c.c3,c.c4,c.c5,c.c6,c.c7,c.c8,?_⟩
   refine H2.callg (t_SortOf (gr_P.1 (H2.getD 0)) ((gr_P.1 (H2.getD 2)).2 d hdm) (H2.getD 1) (hsp.tok (by omega)) (by omega) hmd.vg.val) ?_
   rintro _ w3 rfl H3
   exact ⟨_,_,_,_,rfl,H3.locg fun w4 H4=>so_1 (L2:=[.g c0]) hmd hll hns hg H4 c0 (by simp) nxt⟩
end
theorem termSorts_walk (W:World) (hL:laidMetH Tryz.prog [("enthymeme/term.kidCounts",Rows.laid_enthymeme_term_kidCounts)] W) (ls:Sl) (kind at_ how by_:Int) (w0:ArgNums W ls) (w1:I64 kind) (w2:I64 at_) (w3:I64 how) (w4:I64 by_):
  Calls Tryz.prog n_enthymemelaw07_TermSorts #[ls.v,.i kind,.i at_,.i how,.i by_] W fun r w'=>r=.returned (.bool true)∧Fr0 W w':=by
 obtain ⟨nsq,hns,hnl,hnr⟩:=w0
 have hk:=kc_of hL
 have H:LH F0 W W [] [.rd ls (nsq.map intV),kcE]:=lh0 _ (by
  intro e he
  simp only [List.mem_cons,List.not_mem_nil,or_false] at he
  rcases he with rfl|rfl
  ·exact hns
  ·exact hk)
 refine enthymemelaw07_TermSorts.okT ls kind at_ how by_ W _ (H.call (n_around kind 3 W (by omega) w1) ?_)
 rintro _ v1 rfl H1
 refine ⟨_,rfl,H1.callq (c_Made (H1.getD 0) hnr hnl (aroundI kind 3) 12 (by omega)) ?_⟩
 rintro _ v2 ⟨s,l,rfl,hmd,hl1,hl2,G,F⟩ _ F2
 have H2:=F2.rd (.gr s l) (gr_P.2 G) F
 have hsn:=gr_n G
 refine ⟨s,rfl,H2.newg fun b12 v3 H3=>H3.locg fun v4 H4=>H4.callg (n_around at_ _ v4 (by omega) w2) ?_⟩
 have hra:=aroundI_range at_ ((s.n:Nat):Int) (by omega)
 generalize aroundI at_ ((s.n:Nat):Int)=z at hra
 obtain ⟨d0,h0⟩:∃d0,l[z.toNat]? =some d0:=⟨_,List.getElem?_eq_getElem (by omega)⟩
 have sp0:SpN 3 d0.x:=(hmd.nd d0.x (List.mem_map.2 ⟨d0,List.mem_of_getElem? h0,rfl⟩)).sp
 have P0:∀{w:World} {L:List En} {D:List En},LH F0 W w L ([.rd ls (nsq.map intV),kcE,.gr s l]++D)→d0.P w:=fun H=>(gr_P.1 (H.getD 2)).2 d0 (List.mem_of_getElem? h0)
 rintro _ v5 rfl H5
 refine ⟨_,rfl,gr_at (gr_P.1 (H5.getD 2)) (by omega) h0 fun p hp c=>⟨d0.x.op,d0.ks,d0.x.n,d0.x.m,d0.x.u,d0.x.tx,d0.x.st.k,d0.x.st.n,d0.x.st.x,c.c0,c.c1,c.c2,c.c3,c.c4,c.c5,c.c6,c.c7,c.c8,H5.newg fun b13 v6 H6=>H6.locg fun v7 H7=>?_⟩⟩
 refine H7.callr (c_Spoilt (P0 (D:=[]) H7) sp0 (by omega) how by_ w3 w4) ?_
 rintro _ v8 ⟨d1,rfl,sp1,P1,F1⟩ _ F8
 have H8:=F8.rd (kidE d1) P1 F1
 refine ⟨d1.x.op,d1.ks,d1.x.n,d1.x.m,d1.x.u,d1.x.tx,d1.x.st.k,d1.x.st.n,d1.x.st.x,rfl,H8.newg fun b14 v9 H9=>H9.locg fun v10 H10=>?_⟩
 refine H10.callr (c_Spoilt (show d1.P v10 from H10.getD 3) sp1 (by omega) _ _ (i64_wrap _) (i64_wrap _)) ?_
 rintro _ v11 ⟨d2,rfl,sp2,P2,F2'⟩ _ F11
 have H11:=F11.rd (kidE d2) P2 F2'
 refine ⟨d2.x.op,d2.ks,d2.x.n,d2.x.m,d2.x.u,d2.x.tx,d2.x.st.k,d2.x.st.n,d2.x.st.x,rfl,H11.newg fun b15 v12 H12=>H12.locg fun v13 H13=>H13.callg (n_around kind 3 v13 (by omega) w1) ?_⟩
 rintro _ v14 rfl H14
 refine ⟨_,rfl,H14.callr (c_Made (H14.getD 0) hnr hnl (aroundI kind 3) 13 (by omega)) ?_⟩
 rintro _ v15 ⟨s2,l2,rfl,hmd2,hl3,hl4,G2,Fg⟩ _ F15
 have H15:=F15.rd (.gr s2 l2) (gr_P.2 G2) Fg
 have hsn2:=gr_n G2
 have e1:IntKind.wrap .i64 (((s2.n:Nat):Int) - 1)=((l2.length - 1:Nat):Int):=by rw [IntWalk.i64_in _ (by omega)];omega
 obtain ⟨d4,h4⟩:∃d4,l2[l2.length - 1]? =some d4:=⟨_,List.getElem?_eq_getElem (by omega)⟩
 have sp4:SpN 3 d4.x:=(hmd2.nd d4.x (List.mem_map.2 ⟨d4,List.mem_of_getElem? h4,rfl⟩)).sp
 refine ⟨s2,rfl,?_⟩
 dsimp only
 rw [e1]
 refine gr_at (gr_P.1 (H15.getD 5)) rfl h4 fun q hq _=>H15.locg fun v16 H16=>?_
 have c:=gr_again (gr_P.1 (H16.getD 5)) h4 hq (X:=((l2.length - 1:Nat):Int)) rfl
 refine ⟨d4.x.op,d4.ks,d4.x.n,d4.x.m,d4.x.u,d4.x.tx,d4.x.st.k,d4.x.st.n,d4.x.st.x,c.c0,c.c1,c.c2,c.c3,c.c4,c.c5,c.c6,c.c7,c.c8,?_⟩
 refine H16.callr (c_Spoilt (P0 (D:=[_,_,_]) H16) sp0 (by omega) _ _ (i64_wrap _) (i64_wrap _)) ?_
 rintro _ v17 ⟨d3,rfl,sp3,P3,F3⟩ _ F17
 have H17:=F17.rd (kidE d3) P3 F3
 refine ⟨d3.x.op,d3.ks,d3.x.n,d3.x.m,d3.x.u,d3.x.tx,d3.x.st.k,d3.x.st.n,d3.x.st.x,rfl,?_⟩
 have c:=gr_again (gr_P.1 (H17.getD 5)) h4 hq (X:=((l2.length - 1:Nat):Int)) rfl
 refine ⟨c.c0,c.c1,c.c2,c.c3,c.c4,c.c5,c.c6,c.c7,c.c8,?_⟩
 let ns:List Nd:=[d0,d1,d2,d3,d4]
 have hsp:∀d∈ns,SpN 5 d.x:=by
  intro d hd
  simp only [ns,List.mem_cons,List.not_mem_nil,or_false] at hd
  rcases hd with rfl|rfl|rfl|rfl|rfl
  ·exact sp0.le (by omega)
  ·exact sp1.le (by omega)
  ·exact sp2
  ·exact sp3.le (by omega)
  ·exact sp4.le (by omega)
 have fin:∀v18,Fr0 v17 v18→v18.heap[v17.heap.size]? =some (.cells (ns.flatMap Nd.c).toArray ty_api_Node (0,0))→enthymemelaw07_TermSorts.L0T s b12 s ⟨some (at0 v17.heap.size),5,5⟩ 0 v18 fun r w'=>r=.returned (.bool true)∧Fr0 W w':=by
  intro v18 f hb
  have H18:=H17.fr0 f
  have hR:RdN 9 v18 ⟨some (at0 v17.heap.size),5,5⟩ (ns.flatMap Nd.c):=blk_rdn (T:=ty_api_Node) hb rfl
  have Gn:GP v18 ⟨some (at0 v17.heap.size),5,5⟩ ns:=⟨hR,fun d hd=>by
   simp only [ns,List.mem_cons,List.not_mem_nil,or_false] at hd
   rcases hd with rfl|rfl|rfl|rfl|rfl
   ·exact P0 (D:=[_,_,_,_]) H18
   ·exact H18.getD 3
   ·exact H18.getD 4
   ·exact H18.getD 6
   ·exact (gr_P.1 (H18.getD 5)).2 d (List.mem_of_getElem? h4)⟩
  have H19:=H17.addD (.gr ⟨some (at0 v17.heap.size),5,5⟩ ns) f (gr_P.2 Gn) (fun b hb=>by
   rcases gr_fp.1 hb with h|⟨d,hd,hx⟩
   ·exact .inl (rdn_fp (fun b hb=>by simp [blkL] at hb;omega) b h)
   ·refine .inr (.inr ?_)
    simp only [ns,List.mem_cons,List.not_mem_nil,or_false] at hd
    rcases hd with rfl|rfl|rfl|rfl|rfl
    ·exact ⟨.gr s l,by simp,gr_fp.2 (.inr ⟨d,List.mem_of_getElem? h0,hx⟩)⟩
    ·exact ⟨kidE d,by simp,hx⟩
    ·exact ⟨kidE d,by simp,hx⟩
    ·exact ⟨kidE d,by simp,hx⟩
    ·exact ⟨.gr s2 l2,by simp,gr_fp.2 (.inr ⟨d,List.mem_of_getElem? h4,hx⟩)⟩)
  exact so_loop hmd (by omega) hsp rfl 5 0 v18 (by omega) ((H19.forget [.gr s l,kcE,.gr ⟨some (at0 v17.heap.size),5,5⟩ ns] (by simp)).take 1)
 exact fin _ (Fr.alloc _ _ _) (heap_new _ _)
end Go.Proofs.YtcifihepfadgfaaGreatDoor

import Derived.Test.YthnoidogkbbkhaaGreatDoorDP
import Derived.Test.YthnoidogkbbkhaaGreatDoorT1
import Derived.Test.YthnoidogkbbkhaaGreatDoorTP
import Derived.Test.YthnoidogkbbkhaaGreatDoorVB
set_option linter.unusedVariables false
set_option maxRecDepth 100000
set_option maxHeartbeats 1000000
namespace Go.Proofs.YthnoidogkbbkhaaGreatDoor
open List renaming mem_append->qmA,mem_cons->qmC,not_mem_nil->qnM,mem_of_getElem?->qmG,getElem?_eq_getElem->qgE,mem_append_left->qmL,mem_append_right->qmR,mem_flatMap->qmF,length_append->qlA,length_cons->qlC,length_nil->qlN,append_assoc->qaA,mem_singleton->qmS,length_take->qlT,length_drop->qlD,flatMap_append->qfA,flatMap_cons->qfC,nodup_append->qnA,length_pos_iff->qlP,drop_eq_getElem_cons->qdG,append_nil->qaN,cons_append->qcA,take_add_one->qtO,drop_of_length_le->qdO,take_of_length_le->qtOL,eq_nil_of_length_eq_zero->qeN
open Go Go.W
theorem set_fp {b:Nat} {l l':List UInt8} {ok ok':Bool}:∀{L:List En} {i:Nat},L[i]? =some (ctE b l ok)->(L.set i (ctE b l' ok')).flatMap (·.fp)=L.flatMap (·.fp)
 |a::L,0,h=>by simp only [List.getElem?_cons_zero,Option.some.injEq] at h;subst h;rfl
 |a::L,i+1,h=>by
  simp only [List.getElem?_cons_succ] at h
  simp only [List.set_cons_succ,qfC,set_fp h]
section
variable {M:Nat->Prop} {w0 w:World} {L D:List En}
theorem _root_.Go.W.LH.newD' {w':World} {L':List En} (H':LH M w0 w' L' D) (hL:∀b∈L'.flatMap (·.fp),b<w.heap.size) (e:En) (hP:e.P w') (hn:∀b∈e.fp,w.heap.size<=b):LH M w0 w' L' (D++[e]):=
 ⟨H'.fr,H'.own,λg hg=>(qmA.1 hg).elim (H'.rd g) λh=>by rw [qmS.1 h];exact hP,H'.new,H'.nd,λg hg b hb g' hg' hb'=>by
  rcases qmA.1 hg with hg|hg
  .exact H'.dj g hg b hb g' hg' hb'
  .rw [qmS.1 hg] at hb
   have h1:=hn b hb
   have h2:=hL b (qmF.2 ⟨g',hg',hb'⟩)
   omega⟩
theorem _root_.Go.W.LH.ctF (H:LH M w0 w L D) (i:Nat) {bs:List Nat} {b:Nat} {l:List UInt8} {ok:Bool} (hi:L[i]? =some (ctE b l ok)) {P:Program} {g:FuncId} {args:Array Value} {A:Ending->List UInt8->Bool->World->Prop} {K:Post}
  (hc:LH (·=b) w w [ctE b l ok] D->Calls P g args w λr w'=>∃l' ok',A r l' ok' w'/\LH (·=b) w w' [ctE b l' ok'] D)
  (hk:∀r w' l' ok',A r l' ok' w'->LH M w0 w' (L.set i (ctE b l' ok')) D->(∀e:En,e.P w'->(∀x∈e.fp,w.heap.size<=x)->LH M w0 w' (L.set i (ctE b l' ok')) (D++[e]))->K r w') (hbs:∀b∈bs,En.g b∈L:=by simp):callF bs P g args w K:=
 ⟨(·=b),λq hq hm=>ghost_off H hi (c_off w b _ _) (hbs q hq) (by subst hm;exact c_fp.2 rfl),H.ctC i hi hc λr w' l' ok' ha f H'=>⟨f,hk r w' l' ok' ha H' λe he hn=>H'.newD' (w:=w) (by rw [set_fp hi];exact H.own_lt) e he hn⟩⟩
end
theorem list_stay {l l':List UInt8} {xs:List Int} {ok':Bool} (h:ListP l false xs l' ok'):ok'=false:=by
 cases ok' with
 |false=>rfl
 |true=>cases (h.2.2.1 rfl).1
theorem space_stay {l l':List UInt8} {ok':Bool} (h:SpaceP l false l' ok'):ok'=false/\l'.length<=l.length:=by
 cases h with
 |no _=>exact ⟨rfl,Nat.le_refl _⟩
 |yes r e=>exact ⟨rfl,by rw [e];simp⟩
theorem space_len {l l':List UInt8} {ok ok':Bool} (h:SpaceP l ok l' ok'):l'.length<=l.length:=by
 cases h with
 |no _=>exact Nat.le_refl _
 |yes r e=>rw [e];simp
theorem word_len {l a l':List UInt8} {ok ok':Bool} (h:WordP l ok a l' ok'):l'.length<=l.length/\a.length<=l.length:=by
 cases h with
 |no _=>exact ⟨by simp,Nat.le_refl _⟩
 |yes _ _ e _=>rw [e];simp;omega
theorem c_readBegin {line:List UInt8} (hl:line.length<=1000000000) (hno:∀r,line≠[98,101,103,105,110]++32::r) {w:World} {D:List En} (hD:errsE∈D) (H:LH F0 w w [] D):
  Calls Tryz.prog n_proof_readBegin #[.string (ba line)] w λr w'=>r=.returned (.tuple #[.agg #[.slice none 0 0,.slice none 0 0,.slice none 0 0,.slice none 0 0],.bool false])/\Fr0 w w':=by
 refine proof_readBegin.okT _ w _ (H.newg λb2 w1 H1=>H1.nw λw2 _ H2=>H2.ctF 1 rfl (λH=>k_word hl H) ?_)
 rintro _ w3 l1 ok1 ⟨a,rfl,hw⟩ H3 _
 have S0:∀(l1:List UInt8) (w4:World),l1.length<=1000000000->LH F0 w w4 [.g b2,ctE w1.heap.size l1 false] D->proof_readBegin.S0T b2 ⟨none,0,0⟩ ⟨none,0,0⟩ ⟨none,0,0⟩ ⟨none,0,0⟩ (at0 w1.heap.size) w4 λr w'=>r=.returned (.tuple #[.agg #[.slice none 0 0,.slice none 0 0,.slice none 0 0,.slice none 0 0],.bool false])/\Fr0 w w':=by
  intro l1 w4 h1 H4
  refine H4.ctF 1 rfl (λH=>k_list h1 hD H) ?_
  rintro _ w5 l2 ok2 ⟨xs,⟨s,rfl,_⟩,hp⟩ H5 _
  obtain rfl:=list_stay hp
  refine ⟨_,rfl,H5.ctF 1 rfl (λH=>k_space H) ?_⟩
  rintro _ w6 l3 ok3 ⟨rfl,hs⟩ H6 _
  obtain ⟨rfl,h3⟩:=space_stay hs
  refine ⟨rfl,H6.ctF 1 rfl (λH=>k_list (by have:=hp.2.1;omega) hD H) ?_⟩
  rintro _ w7 l4 ok4 ⟨xs',⟨s',rfl,_⟩,hp'⟩ H7 _
  obtain rfl:=list_stay hp'
  refine ⟨_,rfl,H7.ctF 1 rfl (λH=>k_space H) ?_⟩
  rintro _ w8 l5 ok5 ⟨rfl,hs'⟩ H8 _
  obtain ⟨rfl,_⟩:=space_stay hs'
  exact ⟨rfl,false,H8.ld 1 1,sel_true rfl (H8.locg λw9 H9=>⟨rfl,H9.fr⟩)⟩
 have hll:=word_len hw
 have no:stV w3 ((at0 w1.heap.size).add 1) (.bool false) λw5=>kept [b2] w3 w5/\proof_readBegin.S0T b2 ⟨none,0,0⟩ ⟨none,0,0⟩ ⟨none,0,0⟩ ⟨none,0,0⟩ (at0 w1.heap.size) w5 λr w'=>r=.returned (.tuple #[.agg #[.slice none 0 0,.slice none 0 0,.slice none 0 0,.slice none 0 0],.bool false])/\Fr0 w w':=
  H3.stq 1 1 rfl λw5 H5=>S0 l1 w5 (by omega) H5
 refine ⟨_,rfl,sel_tx (λhe=>?_) (λ_=>no)⟩
 cases hw with
 |no h=>exact ⟨false,H3.ld 1 1,no⟩
 |yes a r e ha=>
  have:a=[98,101,103,105,110]:=ba_inj' he
  exact absurd (by rw [e,this]) (hno l1)
abbrev wordsE:En:=.rd ⟨some (at0 0),6,6⟩ (wordKL.map strV)
abbrev wB (i:Nat):ByteArray:=ba (wordKL.getD i [])
theorem words_ld {w:World} (h:wordsE.P w) (i:Nat) (hi:i<6):w.cell? ((Addr.mk 0 0 none).add i)=some (.string (wB i)):=by
 have h6:∀i<6,(wordKL.map strV)[i]? =some (.string (wB i)):=by
  intro i hi
  match i,hi with
  |0,_=>rfl
  |1,_=>rfl
  |2,_=>rfl
  |3,_=>rfl
  |4,_=>rfl
  |5,_=>rfl
 obtain ⟨p,hp,hc⟩:=(show Rd w _ _ from h).2.2.2 i _ (h6 i hi)
 cases hp
 exact hc
theorem wB_get:∀i<6,(#[.string (wB 0),.string (wB 1),.string (wB 2),.string (wB 3),.string (wB 4),.string (wB 5)]:Array Value)[i]? =some (.string (wB i)):=by
 intro i hi
 match i,hi with
 |0,_=>rfl
 |1,_=>rfl
 |2,_=>rfl
 |3,_=>rfl
 |4,_=>rfl
 |5,_=>rfl
theorem rs_loop {b2:Nat} {cp:Addr} {a1:List UInt8} {w:World} {K:Post} (hfin:proof_readStep.L0T b2 0 0 0 ⟨none,0,0⟩ (ByteArray.mk #[]) ⟨none,0,0⟩ ⟨none,0,0⟩ cp (kindTo 6 a1) (ba a1) (wB 0) (wB 1) (wB 2) (wB 3) (wB 4) (wB 5) 6 w K):∀k i:Nat,i+k=6->
  proof_readStep.L0T b2 0 0 0 ⟨none,0,0⟩ (ByteArray.mk #[]) ⟨none,0,0⟩ ⟨none,0,0⟩ cp (kindTo i a1) (ba a1) (wB 0) (wB 1) (wB 2) (wB 3) (wB 4) (wB 5) (i:Int) w K:=by
 intro k
 induction k with
 |zero=>
  intro i hi
  obtain rfl:i=6:=by omega
  exact hfin
 |succ k ih=>
  intro i hi
  have h1:=ih (i+1) (by omega)
  refine proof_readStep.L0T_step _ _ _ _ _ _ _ _ _ _ _ _ _ _ _ _ _ _ _ _ (sel_true (decide_eq_true (by omega)) ⟨by omega,by show (i:Int)<6;omega,wB i,by rw [Int.toNat_natCast];exact wB_get i (by omega),?_⟩)
  have h1':=h1
  unfold kindTo at h1'
  refine sel_tx (λh=>?_) (λh=>?_)
  .rw [if_pos (ba_inj' h)] at h1'
   show proof_readStep.L0T _ _ _ _ _ _ _ _ _ _ _ _ _ _ _ _ _ (IntKind.wrap .i64 _) _ _
   rw [i64_next _ (by omega)]
   exact h1'
  .rw [if_neg (ba_ne h)] at h1'
   show proof_readStep.L0T _ _ _ _ _ _ _ _ _ _ _ _ _ _ _ _ _ (IntKind.wrap .i64 _) _ _
   rw [i64_next _ (by omega)]
   exact h1'
structure Sp where
 x:Stp
 p:Sl
 l:Sl
 h:Sl
namespace Sp
def c (d:Sp):List Value:=[.i d.x.kind,.i d.x.node,.i d.x.rule,d.p.v,.string d.x.nm,d.l.v,d.h.v]
abbrev v (d:Sp):Value:=.agg #[.i d.x.kind,.i d.x.node,.i d.x.rule,d.p.v,.string d.x.nm,d.l.v,d.h.v]
abbrev pE (d:Sp):En:=.rd d.p (d.x.params.map intV)
abbrev lE (d:Sp):En:=.rd d.l (d.x.lits.map intV)
abbrev hE (d:Sp):En:=.rd d.h (d.x.hints.map intV)
end Sp
def StepP (w0:World) (line:List UInt8) (r:Ending) (w':World):Prop:=
 (∃d:Sp,NoLine line/\r=.returned (.tuple #[d.v,.bool false]))\/∃d:Sp,StpOk d.x/\line=lineB d.x/\r=.returned (.tuple #[d.v,.bool true])/\(∀e∈[d.pE,d.hE,d.lE],e.P w'/\∀b∈e.fp,w0.heap.size<=b)
theorem u8_of {c d:UInt8} (h:((c.toNat:Nat):Int)=((d.toNat:Nat):Int)):c=d:=UInt8.toNat_inj.1 (by omega)
theorem u8_head {a:List UInt8} (h:a≠[]):∃c t,a=c::t:=by
 cases a with
 |nil=>exact absurd rfl h
 |cons c t=>exact ⟨c,t,rfl⟩
theorem c_readStep0 {line:List UInt8} (hl:line.length<=1000000000) {w:World} {D:List En} (hD:errsE∈D) (hW:wordsE∈D) (H:LH F0 w w [] D):
  Calls Tryz.prog n_proof_readStep #[.string (ba line)] w λr w'=>StepP w line r w'/\Fr0 w w':=by
 refine proof_readStep.okT _ w _ (H.newg λb2 w1 H1=>H1.nw λw2 _ H2=>H2.ctF 1 rfl (λH=>k_word hl H) ?_)
 rintro _ w3 l1 ok1 ⟨a1,rfl,r1⟩ H3 _
 have hw:=H3.rd _ hW
 refine ⟨_,rfl,wB 0,wB 1,wB 2,wB 3,wB 4,wB 5,words_ld hw 0 (by omega),words_ld hw 1 (by omega),words_ld hw 2 (by omega),words_ld hw 3 (by omega),words_ld hw 4 (by omega),words_ld hw 5 (by omega),rs_loop ?_ 6 0 rfl⟩
 have ll1:=word_len r1
 refine proof_readStep.L0T_step _ _ _ _ _ _ _ _ _ _ _ _ _ _ _ _ _ _ _ _ (sel_false rfl (H3.ctF 1 rfl (λH=>k_word (by omega) H) ?_))
 rintro _ w4 l2 ok2 ⟨a2,rfl,r2⟩ H4 _
 have ll2:=word_len r2
 refine ⟨_,rfl,H4.ctF 1 rfl (λH=>k_number a2 (by omega) hD H) ?_⟩
 rintro _ w5 l2' ok3 ⟨n,rfl,r3,e2⟩ H5 _
 have e2:=e2.symm
 subst e2
 refine ⟨_,rfl,H5.ctF 1 rfl (λH=>k_word (by omega) H) ?_⟩
 rintro _ w6 l3 ok4 ⟨a3,rfl,r4⟩ H6 _
 have ll3:=word_len r4
 refine ⟨_,rfl,H6.ctF 1 rfl (λH=>k_number a3 (by omega) hD H) ?_⟩
 rintro _ w7 l3' ok5 ⟨ru,rfl,r5,e3⟩ H7 _
 have e3:=e3.symm
 subst e3
 refine ⟨_,rfl,H7.ctF 1 rfl (λH=>k_word (by omega) H) ?_⟩
 rintro _ w8 l4 ok6 ⟨a4,rfl,r6⟩ H8 _
 have ll4:=word_len r6
 have sr:StepR line a1 a4 n ru ok6 l4:=⟨⟨l1,ok1,a2,l2,ok2,ok3,a3,l3,ok4,ok5,r1,r2,r3,r4,r5,r6⟩⟩
 have bad:(kindTo 6 a1<0\/a4=[]\/∃t,a4=40::t)->∀{bs:List Nat} {w':World} {L:List En},LH F0 w w' L D->(∀b∈bs,En.g b∈L)->En.g b2∈L->loc bs w' λw''=>proof_readStep.S2T b2 0 0 0 ⟨none,0,0⟩ (ByteArray.mk #[]) ⟨none,0,0⟩ ⟨none,0,0⟩ w'' λr w'=>StepP w line r w'/\Fr0 w w':=λhb bs w' L H h1 h2=>
  H.locg (λw1 H1=>H1.locg (λw2 H2=>⟨.inl ⟨⟨⟨0,0,0,[],ByteArray.mk #[],[],[]⟩,⟨none,0,0⟩,⟨none,0,0⟩,⟨none,0,0⟩⟩,step_no sr hb,rfl⟩,H2.fr⟩) (by simp [h2])) h1
 refine ⟨_,rfl,H8.newg λb9 w9 H9=>sel_dec (λhk=>bad (.inl hk) H9 (by simp) (by simp)) (λhk=>sel_tx (λh0=>bad (.inr (.inl (ba_inj' h0))) H9 (by simp) (by simp)) (λh0=>?_))⟩
 have h0:a4≠[]:=λe=>h0 (by rw [e];rfl)
 obtain ⟨c,t,hct⟩:=u8_head h0
 refine ⟨by omega,c,bl_ix (s:=ba a4) (l:=c::t) (by rw [bl_ba,hct]) 0,sel_eq (λh40=>bad (.inr (.inr ⟨t,by rw [hct];congr 1;exact u8_of h40⟩)) H9 (by simp) (by simp)) (λh40=>?_)⟩
 have h40':∀t',a4≠40::t':=λt' e=>by
  rw [hct] at e
  injection e with e _
  subst e
  exact h40 rfl
 have S3:∀w10,LH F0 w w10 [.g b2,ctE w1.heap.size l4 ok6,.g b9] D->proof_readStep.S3T b2 0 0 0 ⟨none,0,0⟩ (ByteArray.mk #[]) ⟨none,0,0⟩ ⟨none,0,0⟩ (at0 w1.heap.size) b9 (kindTo 6 a1) n ru ⟨none,0,0⟩ (nmOf a4) ⟨none,0,0⟩ ⟨none,0,0⟩ w10 λr w'=>StepP w line r w'/\Fr0 w w':=by
  intro w10 H10
  refine H10.ctF 1 rfl (λH=>k_list (by omega) hD H) ?_
  rintro _ w11 l5 ok7 ⟨ps,⟨sp,rfl,p1,p2⟩,r7⟩ H11 N11
  have D11:=N11 (.rd sp (ps.map intV)) p1 (rd_fp p2)
  have ll5:=r7.2.1
  refine ⟨_,rfl,D11.locg λw12 H12=>H12.ctF 1 rfl (λH=>k_space H) ?_⟩
  rintro _ w13 l6 ok8 ⟨rfl,r8⟩ H13 _
  have ll6:=space_len r8
  refine ⟨rfl,H13.ctF 1 rfl (λH=>k_list (by omega) (qmL _ hD) H) ?_⟩
  rintro _ w14 l7 ok9 ⟨hs,⟨sh,rfl,q1,q2⟩,r9⟩ H14 N14
  have D14:=N14 (.rd sh (hs.map intV)) q1 (rd_fp q2)
  have ll7:=r9.2.1
  refine ⟨_,rfl,D14.locg λw15 H15=>H15.ctF 1 rfl (λH=>k_space H) ?_⟩
  rintro _ w16 l8 ok10 ⟨rfl,r10⟩ H16 _
  have ll8:=space_len r10
  refine ⟨rfl,H16.ctF 1 rfl (λH=>k_list (by omega) (qmL _ (qmL _ hD)) H) ?_⟩
  rintro _ w17 l9 ok ⟨ls,⟨sl,rfl,u1,u2⟩,r11⟩ H17 N17
  have D17:=N17 (.rd sl (ls.map intV)) u1 (rd_fp u2)
  have tr:TailR l4 ok6 ps hs ls ok l9:=⟨⟨l5,ok7,l6,ok8,l7,ok9,l8,ok10,r7,r8,r9,r10,r11⟩⟩
  refine ⟨_,rfl,D17.locg λw18 H18=>⟨ok,H18.ld 1 1,?_⟩⟩
  cases ok with
  |false=>exact sel_false rfl (H18.locg λw19 H19=>⟨.inl ⟨⟨⟨kindTo 6 a1,n,ru,ps,nmOf a4,ls,hs⟩,sp,sl,sh⟩,step_no2 sr tr (.inl rfl),rfl⟩,H19.fr⟩)
  |true=>
   refine sel_true rfl ⟨_,H18.ld 1 0,H18.locg λw19 H19=>⟨H19.ld 1 0,?_,H19.fr⟩⟩
   rw [tx_eq]
   by_cases h9:l9=[]
   .subst h9
    rw [decide_eq_true (show ba []=ByteArray.mk #[] from rfl)]
    obtain ⟨y1,y2⟩:=step_yes sr tr (by omega) h0 h40'
    refine .inr ⟨⟨⟨kindTo 6 a1,n,ru,ps,nmOf a4,ls,hs⟩,sp,sl,sh⟩,y1,y2,rfl,λe he=>?_⟩
    simp only [qmC,qnM,or_false] at he
    rcases he with rfl|rfl|rfl
    .exact ⟨H19.rd _ (by simp),rd_fp λb hb=>Nat.le_trans H10.fr.size (p2 b hb)⟩
    .exact ⟨H19.rd _ (by simp),rd_fp λb hb=>Nat.le_trans H13.fr.size (q2 b hb)⟩
    .exact ⟨H19.rd _ (by simp),rd_fp λb hb=>Nat.le_trans H16.fr.size (u2 b hb)⟩
   .rw [decide_eq_false (λe:ba l9=ByteArray.mk #[]=>h9 (ba_inj' e))]
    exact .inl ⟨⟨⟨kindTo 6 a1,n,ru,ps,nmOf a4,ls,hs⟩,sp,sl,sh⟩,step_no2 sr tr (.inr h9),rfl⟩
 refine sel_tx (λh45=>?_) (λh45=>?_)
 .have h45:a4=[45]:=ba_inj' h45
  have e:nmOf a4=ByteArray.mk #[]:=by unfold nmOf;rw [if_pos h45];rfl
  rw [e] at S3
  exact H9.locg λw10 H10=>S3 w10 H10
 .have e:nmOf a4=ba a4:=by unfold nmOf;rw [if_neg (λe=>h45 (by rw [e];rfl))]
  rw [e] at S3
  exact H9.locg λw10 H10=>S3 w10 H10
theorem c_readStep {line:List UInt8} (hl:line.length<=1000000000) {M:Nat->Prop} {w0 w:World} {L D:List En} (hD:errsE∈D) (hW:wordsE∈D) (H:LH M w0 w L D) {bs:List Nat} {K:Post}
  (hno:∀(d:Sp) w',NoLine line->LH M w0 w' L D->K (.returned (.tuple #[d.v,.bool false])) w')
  (hyes:∀(d:Sp) w',StpOk d.x->line=lineB d.x->LH M w0 w' L (D++[d.pE]++[d.hE]++[d.lE])->(∀e∈[d.pE,d.hE,d.lE],∀b∈e.fp,w.heap.size<=b)->K (.returned (.tuple #[d.v,.bool true])) w'):
  callF bs Tryz.prog n_proof_readStep #[.string (ba line)] w K:=by
 refine callF0 ((c_readStep0 hl hD hW (LH.start D H.rd)).mono ?_)
 rintro r w' ⟨⟨v,hn,rfl⟩|⟨d,h1,h2,rfl,h3⟩,f⟩
 .exact ⟨f,hno v w' hn (H.fr0 f)⟩
 .obtain ⟨p1,p2⟩:=h3 d.pE (by simp)
  obtain ⟨q1,q2⟩:=h3 d.hE (by simp)
  obtain ⟨s1,s2⟩:=h3 d.lE (by simp)
  exact ⟨f,hyes d w' h1 h2 ((((H.fr0 f).newD' H.own_lt _ p1 p2).newD' H.own_lt _ q1 q2).newD' H.own_lt _ s1 s2) λe he=>(h3 e he).2⟩
def litB (x:Int):Bool:=decide (x≠0)&&decide (-1073741824<=x)&&decide (x<=1073741824)
def incB:List Int->Bool
 |a::b::r=>decide (a.natAbs<b.natAbs)&&incB (b::r)
 |_=>true
def listE (l:List Int):Int:=if l.length>65536 then 4 else if l.all litB then 0 else 1
def clauseE (l:List Int):Int:=if listE l≠0 then listE l else if incB l then 0 else 10
abbrev RetE (w0:World) (n:Int):Post:=λr w'=>r=.returned (.i n)/\Fr0 w0 w'
theorem drop_at {l:List Int} {i:Nat} {x:Int} (h:l[i]? =some x):l.drop i=x::l.drop (i+1):=by
 obtain ⟨hl,rfl⟩:=List.getElem?_eq_some_iff.1 h
 exact qdG hl
theorem litB_iff {x:Int}:litB x=true↔x≠0/\-1073741824<=x/\x<=1073741824:=by
 unfold litB
 simp only [Bool.and_eq_true,decide_eq_true_eq,and_assoc]
section
variable {w0:World} {s:Sl} {l:List Int}
theorem k_listError {w:World} (h:Nums w s l) (hl:l.length<=9223372036854775806):Calls Tryz.prog n_clause_listError #[s.v] w (RetE w (listE l)):=by
 have hn:=Nums.len h
 by_cases h5:l.length>65536
 .exact clause_listError.ok _ w _ (sel_true (decide_eq_true (by omega)) ⟨by unfold listE;rw [if_pos h5],Fr.refl _ _⟩)
 refine clause_listError.ok _ w _ (sel_false (decide_eq_false (by omega)) ?_)
 have e:listE l=if l.all litB then 0 else 1:=by unfold listE;rw [if_neg h5]
 have loop:∀(k i:Nat) (w':World),i+k=l.length->Fr0 w w'->l.all litB=(l.drop i).all litB->clause_listError.L0 s ((s.n:Nat):Int) (i:Int) w' (RetE w (listE l)):=by
  intro k
  induction k with
  |zero=>
   intro i w' hi f ha
   rw [qdO (by omega)] at ha
   exact clause_listError.L0_step _ _ _ _ _ (sel_false (decide_eq_false (by omega)) ⟨by rw [e,ha];rfl,f⟩)
  |succ k ih=>
   intro i w' hi f ha
   have hg:l[i]? =some l[i]:=qgE (by omega)
   generalize l[i]=x at hg
   rw [drop_at hg,List.all_cons] at ha
   refine clause_listError.L0_step _ _ _ _ _ (sel_true (decide_eq_true (by omega)) ⟨by omega,by omega,Nums.cell (h.fr0 f) hg (by rw [Int.toNat_natCast]) λp _ hc=>⟨x,hc,?_⟩⟩)
   have go:litB x=true->clause_listError.L0 s ((s.n:Nat):Int) (IntKind.wrap .i64 ((i:Int)+1)) w' (RetE w (listE l)):=λhx=>by
    rw [i64_next _ (by omega)]
    exact ih (i+1) w' (by omega) f (by rw [ha,hx,Bool.true_and])
   have stop:litB x=false->RetE w (listE l) (.returned (.i 1)) w':=λhx=>⟨by rw [e,ha,hx];rfl,f⟩
   have no:¬(x≠0/\-1073741824<=x/\x<=1073741824)->litB x=false:=λhx=>Bool.eq_false_iff.2 λh=>hx (litB_iff.1 h)
   refine clause_isLiteral.ok _ w' _ (sel_ne (λh1=>sel_dec (λh2=>⟨_,rfl,sel_not (λh3=>stop (no ?_)) (λh3=>go (litB_iff.2 ?_))⟩) (λh2=>⟨_,rfl,sel_true rfl (stop (no ?_))⟩)) (λh1=>⟨_,rfl,sel_true rfl (stop (no ?_))⟩))
   .have:=of_decide_eq_false h3;omega
   .have:=of_decide_eq_true h3;omega
   .omega
   .omega
 exact loop l.length 0 w (by omega) (Fr.refl _ _) rfl
theorem c_List14 {w:World} (h:Nums w s l) (hl:l.length<=9223372036854775806):Calls Tryz.prog n_enthymemeref14_List #[s.v] w (RetE w (listE l)):=by
 have hn:=Nums.len h
 by_cases h5:l.length>65536
 .exact enthymemeref14_List.ok _ w _ (sel_true (decide_eq_true (by omega)) ⟨by unfold listE;rw [if_pos h5],Fr.refl _ _⟩)
 refine enthymemeref14_List.ok _ w _ (sel_false (decide_eq_false (by omega)) ?_)
 have e:listE l=if l.all litB then 0 else 1:=by unfold listE;rw [if_neg h5]
 have loop:∀(k i:Nat),i+k=l.length->l.all litB=(l.drop i).all litB->enthymemeref14_List.L0 s (i:Int) w (RetE w (listE l)):=by
  intro k
  induction k with
  |zero=>
   intro i hi ha
   rw [qdO (by omega)] at ha
   exact enthymemeref14_List.L0_step _ _ _ _ (sel_false (decide_eq_false (by omega)) ⟨by rw [e,ha];rfl,Fr.refl _ _⟩)
  |succ k ih=>
   intro i hi ha
   have hg:l[i]? =some l[i]:=qgE (by omega)
   generalize l[i]=x at hg
   rw [drop_at hg,List.all_cons] at ha
   have ld:∀{K:Addr->Prop},(∀p,w.cell? (p.add (Int.toNat (i:Int) *1))=some (.i x)->K p)->(0:Int)<=(i:Int)/\(i:Int)<((s.n:Nat):Int)/\optP s.a K:=λhk=>⟨by omega,by omega,Nums.cell h hg (by rw [Int.toNat_natCast]) λp _ hc=>hk p hc⟩
   have stop:¬(x≠0/\-1073741824<=x/\x<=1073741824)->enthymemeref14_List.S1 w (RetE w (listE l)):=λhx=>⟨by rw [e,ha,Bool.eq_false_iff.2 λh=>hx (litB_iff.1 h)];rfl,Fr.refl _ _⟩
   refine enthymemeref14_List.L0_step _ _ _ _ (sel_true (decide_eq_true (by omega)) (ld λp hp=>⟨x,hp,sel_eq (λh1=>stop (by omega)) (λh1=>ld λp hp=>⟨x,hp,sel_dec (λh2=>stop (by omega)) (λh2=>ld λp hp=>⟨x,hp,sel_dec (λh3=>stop (by omega)) (λh3=>?_)⟩)⟩)⟩))
   rw [i64_next _ (by omega)]
   exact ih (i+1) (by omega) (by rw [ha,litB_iff.2 (by omega),Bool.true_and])
 exact loop l.length 0 (by omega) rfl
theorem k_variable {x:Int} (hx:-1073741824<=x/\x<=1073741824) (w:World):Calls Tryz.prog n_clause_variable #[.i x] w (RetE w (x.natAbs:Int)):=by
 refine clause_variable.ok _ w _ ⟨?_,Fr.refl _ _⟩
 rw [IntWalk.i64_in _ (by omega)]
 congr 3
 split<;>omega
theorem c_Var14 {x:Int} (hx:-1073741824<=x/\x<=1073741824) (w:World):Calls Tryz.prog n_enthymemeref14_Var #[.i x] w (RetE w (x.natAbs:Int)):=by
 refine enthymemeref14_Var.ok _ w _ (sel_dec (λh=>⟨?_,Fr.refl _ _⟩) (λh=>⟨?_,Fr.refl _ _⟩))
 .rw [IntWalk.i64_in _ (by omega)];congr 3;omega
 .congr 3;omega
theorem k_clause {w:World} (h:Nums w s l) (hl:l.length<=9223372036854775806):Calls Tryz.prog n_clause_Valid #[s.v] w (RetE w (clauseE l)):=by
 have hn:=Nums.len h
 refine clause_Valid.ok _ w _ ((k_listError h hl).mono ?_)
 rintro _ w1 ⟨rfl,f1⟩
 refine ⟨_,rfl,sel_ne (λh0=>⟨by unfold clauseE;rw [if_pos h0],f1⟩) (λh0=>?_)⟩
 have e:clauseE l=if incB l then 0 else 10:=by unfold clauseE;rw [if_neg (by omega)]
 have hall:∀x∈l,-1073741824<=x/\x<=1073741824:=λx hx=>by
  unfold listE at h0
  split at h0
  .omega
  .split at h0
   .rename_i ha;exact (litB_iff.1 (List.all_eq_true.1 ha x hx)).2
   .omega
 have loop:∀(k i:Nat) (w':World),i+1+k=l.length->Fr0 w w'->incB l=incB (l.drop i)->clause_Valid.L0 s ((i+1:Nat):Int) w' (RetE w (clauseE l)):=by
  intro k
  induction k with
  |zero=>
   intro i w' hi f ha
   have h1:∃x,l.drop i=[x]:=by
    have:(l.drop i).length=1:=by rw [qlD];omega
    exact List.length_eq_one_iff.1 this
   obtain ⟨x,hx⟩:=h1
   rw [hx] at ha
   exact clause_Valid.L0_step _ _ _ _ (sel_false (decide_eq_false (by omega)) ⟨by rw [e,ha];rfl,f⟩)
  |succ k ih=>
   intro i w' hi f ha
   have hg:l[i]? =some l[i]:=qgE (by omega)
   have hg1:l[i+1]? =some l[i+1]:=qgE (by omega)
   generalize l[i]=x at hg
   generalize l[i+1]=y at hg1
   rw [drop_at hg,drop_at hg1] at ha
   have hx:=hall x (qmG hg)
   have hy:=hall y (qmG hg1)
   have e1:IntKind.wrap .i64 (((i+1:Nat):Int) - 1)=(i:Int):=by rw [IntWalk.i64_in _ (by omega)];omega
   refine clause_Valid.L0_step _ _ _ _ (sel_true (decide_eq_true (by omega)) ((lh0 (w:=w') [] (by simp)).dr λw2 H2=>?_))
   rw [e1]
   have h2:=h.fr0 (f.tr0 H2.fr)
   refine ⟨by omega,by omega,Nums.cell h2 hg1 (by rw [Int.toNat_natCast]) λp hp hc=>⟨y,hc,by omega,by omega,Nums.cell h2 hg (by rw [Int.toNat_natCast]) λq hq hd=>⟨x,hd,(k_variable hy w2).mono ?_⟩⟩⟩
   rintro _ w3 ⟨rfl,f3⟩
   refine ⟨_,rfl,?_,(k_variable hx w3).mono ?_⟩
   .exact cell_fr f3 hd λh=>h
   rintro _ w4 ⟨rfl,f4⟩
   have ff:=((f.tr0 H2.fr).tr0 f3).tr0 f4
   refine ⟨_,rfl,sel_dec (λh3=>⟨?_,ff⟩) (λh3=>?_)⟩
   .rw [e,ha];unfold incB;rw [decide_eq_false (by omega)];rfl
   .rw [i64_next _ (by omega)]
    refine ih (i+1) w4 (by omega) ff ?_
    rw [ha,drop_at hg1];conv=>lhs;unfold incB
    rw [decide_eq_true (by omega),Bool.true_and]
 cases hl0:l with
 |nil=>rw [hl0] at hn;exact clause_Valid.L0_step _ _ _ _ (sel_false (decide_eq_false (by simp at hn;omega)) ⟨rfl,f1⟩)
 |cons x r=>rw [<-hl0];exact loop r.length 0 w1 (by rw [hl0];simp;omega) f1 rfl
theorem c_clause14 {w:World} (h:Nums w s l) (hl:l.length<=9223372036854775806):Calls Tryz.prog n_enthymemeref14_Valid #[s.v] w (RetE w (clauseE l)):=by
 have hn:=Nums.len h
 refine enthymemeref14_Valid.ok _ w _ ((c_List14 h hl).mono ?_)
 rintro _ w1 ⟨rfl,f1⟩
 refine ⟨_,rfl,sel_ne (λh0=>⟨by unfold clauseE;rw [if_pos h0],f1⟩) (λh0=>?_)⟩
 have e:clauseE l=if incB l then 0 else 10:=by unfold clauseE;rw [if_neg (by omega)]
 have hall:∀x∈l,-1073741824<=x/\x<=1073741824:=λx hx=>by
  unfold listE at h0
  split at h0
  .omega
  .split at h0
   .rename_i ha;exact (litB_iff.1 (List.all_eq_true.1 ha x hx)).2
   .omega
 have loop:∀(k i:Nat) (w':World),i+1+k=l.length->Fr0 w w'->incB l=incB (l.drop i)->enthymemeref14_Valid.L0 s ((i+1:Nat):Int) w' (RetE w (clauseE l)):=by
  intro k
  induction k with
  |zero=>
   intro i w' hi f ha
   obtain ⟨x,hx⟩:∃x,l.drop i=[x]:=List.length_eq_one_iff.1 (by rw [qlD];omega)
   rw [hx] at ha
   exact enthymemeref14_Valid.L0_step _ _ _ _ (sel_false (decide_eq_false (by omega)) ⟨by rw [e,ha];rfl,f⟩)
  |succ k ih=>
   intro i w' hi f ha
   have hg:l[i]? =some l[i]:=qgE (by omega)
   have hg1:l[i+1]? =some l[i+1]:=qgE (by omega)
   generalize l[i]=x at hg
   generalize l[i+1]=y at hg1
   rw [drop_at hg,drop_at hg1] at ha
   have hx:=hall x (qmG hg)
   have hy:=hall y (qmG hg1)
   have e1:IntKind.wrap .i64 (((i+1:Nat):Int) - 1)=(i:Int):=by rw [IntWalk.i64_in _ (by omega)];omega
   refine enthymemeref14_Valid.L0_step _ _ _ _ (sel_true (decide_eq_true (by omega)) ((lh0 (w:=w') [] (by simp)).dr λw2 H2=>?_))
   rw [e1]
   have h2:=h.fr0 (f.tr0 H2.fr)
   refine ⟨by omega,by omega,Nums.cell h2 hg (by rw [Int.toNat_natCast]) λp hp hc=>⟨x,hc,by omega,by omega,Nums.cell h2 hg1 (by rw [Int.toNat_natCast]) λq hq hd=>⟨y,hd,(c_Var14 hx w2).mono ?_⟩⟩⟩
   rintro _ w3 ⟨rfl,f3⟩
   refine ⟨_,rfl,cell_fr f3 hd λh=>h,(c_Var14 hy w3).mono ?_⟩
   rintro _ w4 ⟨rfl,f4⟩
   have ff:=((f.tr0 H2.fr).tr0 f3).tr0 f4
   refine ⟨_,rfl,sel_dec (λh3=>⟨?_,ff⟩) (λh3=>?_)⟩
   .rw [e,ha];unfold incB;rw [decide_eq_false (by omega)];rfl
   .rw [i64_next _ (by omega)]
    refine ih (i+1) w4 (by omega) ff ?_
    rw [ha,drop_at hg1];conv=>lhs;unfold incB
    rw [decide_eq_true (by omega),Bool.true_and]
 cases hl0:l with
 |nil=>rw [hl0] at hn;exact enthymemeref14_Valid.L0_step _ _ _ _ (sel_false (decide_eq_false (by simp at hn;omega)) ⟨rfl,f1⟩)
 |cons x r=>rw [<-hl0];exact loop r.length 0 w1 (by rw [hl0];simp;omega) f1 rfl
end
theorem k_isName (s:ByteArray) (w:World):Calls Tryz.prog n_proof_isName #[.string s] w λr w'=>r=.returned (.bool (nameB (bl s)))/\Fr0 w w':=by
 have hl:(bl s).length=s.size:=bl_len s
 have no:nameB (bl s)=false->(Ending.returned (.bool false)=.returned (.bool (nameB (bl s)))/\Fr0 w w):=λh=>⟨by rw [h],Fr.refl _ _⟩
 cases hs:bl s with
 |nil=>
  have h0:s.size=0:=by rw [<-hl,hs];rfl
  exact proof_isName.ok s w _ (sel_true (by rw [h0];rfl) ⟨rfl,Fr.refl _ _⟩)
 |cons c m=>
  have hm:s.size=m.length+1:=by rw [<-hl,hs];rfl
  rw [hs] at no
  have h0:s[Int.toNat 0]? =some c:=bl_ix hs 0
  refine proof_isName.ok s w _ (sel_eq (λh=>by omega) (λ_=>sel_dec (λh=>no ?_) (λh=>⟨by omega,c,h0,sel_dec (λh1=>no ?_) (λh1=>⟨by omega,c,h0,sel_dec (λh2=>no ?_) (λh2=>?_)⟩)⟩)))
  .rw [nameB_cons,decide_eq_false (by omega)];rfl
  .rw [nameB_cons];unfold letQ;rw [decide_eq_false (show ¬97<=c.toNat by omega)];simp
  .rw [nameB_cons];unfold letQ;rw [decide_eq_false (show ¬c.toNat<=122 by omega)];simp
  have e1:nameB (c::m)=(bl s).all namQ:=by
   rw [nameB_cons,hs,List.all_cons]
   unfold namQ letQ
   rw [decide_eq_true (show m.length<=15 by omega),decide_eq_true (show 97<=c.toNat by omega),decide_eq_true (show c.toNat<=122 by omega)]
   simp [namQ,letQ]
  rw [e1]
  have loop:∀(d i:Nat),i+d=s.size->(bl s).all namQ=((bl s).drop i).all namQ->proof_isName.L1 s ((s.size:Nat):Int) (i:Int) w λr w'=>r=.returned (.bool ((bl s).all namQ))/\Fr0 w w':=by
   intro d
   induction d with
   |zero=>
    intro i hi he
    rw [qdO (by omega)] at he
    exact proof_isName.L1_step _ _ _ _ _ (sel_false (decide_eq_false (by omega)) ⟨by rw [he];rfl,Fr.refl _ _⟩)
   |succ d ih=>
    intro i hi he
    have hg:(bl s)[i]? =some (bl s)[i]:=qgE (by omega)
    have hd:(bl s).drop i=(bl s)[i]::(bl s).drop (i+1):=qdG (by omega)
    rw [hd,List.all_cons] at he
    generalize (bl s)[i]=x at hg he
    have hx:=x.toNat_lt
    have go:namQ x=true->proof_isName.S4 s ((s.size:Nat):Int) (i:Int) w λr w'=>r=.returned (.bool ((bl s).all namQ))/\Fr0 w w':=λh=>by
     show proof_isName.L1 s _ (IntKind.wrap .i64 ((i:Int)+1)) w _
     rw [i64_next _ (by omega)]
     exact ih (i+1) (by omega) (by rw [he,h,Bool.true_and])
    have stop:namQ x=false->(Ending.returned (.bool false)=.returned (.bool ((bl s).all namQ))/\Fr0 w w):=λh=>⟨by rw [he,h,Bool.false_and],Fr.refl _ _⟩
    have q:namQ x=true↔(97<=x.toNat/\x.toNat<=122)\/(48<=x.toNat/\x.toNat<=57)\/x.toNat=45:=by
     have h45:(x==45)=true↔x.toNat=45:=by rw [beq_iff_eq];exact ⟨λh=>by rw [h];rfl,λh=>UInt8.toNat_inj.1 h⟩
     unfold namQ letQ
     simp only [Bool.or_eq_true,Bool.and_eq_true,decide_eq_true_eq,h45,or_assoc]
    have nq:¬((97<=x.toNat/\x.toNat<=122)\/(48<=x.toNat/\x.toNat<=57)\/x.toNat=45)->namQ x=false:=λh=>Bool.eq_false_iff.2 λh2=>h (q.1 h2)
    have digs:¬(97<=x.toNat/\x.toNat<=122)->sel (decide (((x.toNat:Nat):Int)<48)) (sel (((x.toNat:Nat):Int) !=45) (proof_isName.S3 w λr w'=>r=.returned (.bool ((bl s).all namQ))/\Fr0 w w') (proof_isName.S4 s ((s.size:Nat):Int) (i:Int) w λr w'=>r=.returned (.bool ((bl s).all namQ))/\Fr0 w w')) (sel (decide (((x.toNat:Nat):Int)>57)) (sel (((x.toNat:Nat):Int) !=45) (proof_isName.S3 w λr w'=>r=.returned (.bool ((bl s).all namQ))/\Fr0 w w') (proof_isName.S4 s ((s.size:Nat):Int) (i:Int) w λr w'=>r=.returned (.bool ((bl s).all namQ))/\Fr0 w w')) (proof_isName.S4 s ((s.size:Nat):Int) (i:Int) w λr w'=>r=.returned (.bool ((bl s).all namQ))/\Fr0 w w')):=λhn=>
     sel_dec (λh1=>sel_ne (λh2=>stop (nq (by omega))) (λh2=>go (q.2 (by omega)))) (λh1=>sel_dec (λh3=>sel_ne (λh2=>stop (nq (by omega))) (λh2=>go (q.2 (by omega)))) (λh3=>go (q.2 (by omega))))
    refine proof_isName.L1_step _ _ _ _ _ (sel_true (decide_eq_true (by omega)) ⟨by omega,x,by rw [Int.toNat_natCast];exact (bl_ix rfl i).trans hg,sel_dec (λh1=>digs (by omega)) (λh1=>sel_dec (λh2=>digs (by omega)) (λh2=>go (q.2 (by omega))))⟩)
  exact loop s.size 0 (by omega) rfl
def stepE (s:Stp) (i lem:Int):Int:=
 if s.kind<0\/s.kind>5 then 1 else if clauseE s.lits≠0 then clauseE s.lits else if bl s.nm≠[]/\nameB (bl s.nm)=false then 6
 else if s.hints.all (λh=>decide (0<=h)&&decide (h<i)) then (if s.kind=4/\(s.node<0\/s.node>=lem) then 7 else 0) else 14
def SpP (w:World) (d:Sp):Prop:=Nums w d.p d.x.params/\Nums w d.l d.x.lits/\Nums w d.h d.x.hints
theorem SpP.fr0 {w w':World} {d:Sp} (h:SpP w d) (f:Fr0 w w'):SpP w' d:=⟨h.1.fr0 f,h.2.1.fr0 f,h.2.2.fr0 f⟩
def SpL (d:Sp):Prop:=d.x.params.length<=1000000000/\d.x.lits.length<=1000000000/\d.x.hints.length<=1000000000
theorem stepE_k {s:Stp} {i lem:Int} (h:s.kind<0\/s.kind>5):stepE s i lem=1:=by unfold stepE;rw [if_pos h]
theorem stepE_c {s:Stp} {i lem:Int} (h:¬(s.kind<0\/s.kind>5)) (hc:clauseE s.lits≠0):stepE s i lem=clauseE s.lits:=by unfold stepE;rw [if_neg h,if_pos hc]
theorem stepE_n {s:Stp} {i lem:Int} (h:¬(s.kind<0\/s.kind>5)) (hc:clauseE s.lits=0) (hn:bl s.nm≠[]/\nameB (bl s.nm)=false):stepE s i lem=6:=by unfold stepE;rw [if_neg h,if_neg (by omega),if_pos hn]
theorem stepE_h {s:Stp} {i lem:Int} (h:¬(s.kind<0\/s.kind>5)) (hc:clauseE s.lits=0) (hn:¬(bl s.nm≠[]/\nameB (bl s.nm)=false)):stepE s i lem=if s.hints.all (λh=>decide (0<=h)&&decide (h<i)) then (if s.kind=4/\(s.node<0\/s.node>=lem) then 7 else 0) else 14:=by unfold stepE;rw [if_neg h,if_neg (by omega),if_neg hn]
theorem nm_tx {t:ByteArray}:t=ByteArray.mk #[]↔bl t=[]:=⟨λh=>by rw [h];rfl,λh=>by rw [<-ba_bl t,h];rfl⟩
theorem k_validStep {d:Sp} (hs:SpL d) {i lem:Int} {w:World} (hd:SpP w d):Calls Tryz.prog n_proof_validStep #[d.v,.i i,.i lem] w (RetE w (stepE d.x i lem)):=by
 refine proof_validStep.okT _ _ _ _ _ _ _ _ _ w _ ((lh0 (w:=w) [d.hE,d.lE] (by
  intro e he
  simp only [qmC,qnM,or_false] at he
  rcases he with rfl|rfl
  .exact hd.2.2
  .exact hd.2.1)).newg λb w1 H1=>?_)
 refine sel_dec (λh=>⟨by rw [stepE_k (.inl h)],H1.fr⟩) (λh1=>sel_dec (λh=>⟨by rw [stepE_k (.inr h)],H1.fr⟩) (λh2=>H1.callg (k_clause (l:=d.x.lits) (H1.getD 1) (by have:=hs.2.1;omega)) ?_))
 have hk:¬(d.x.kind<0\/d.x.kind>5):=by omega
 rintro _ w2 rfl H2
 refine ⟨_,rfl,sel_ne (λh=>⟨by rw [stepE_c hk h],H2.fr⟩) (λhc=>?_)⟩
 have S1:¬(bl d.x.nm≠[]/\nameB (bl d.x.nm)=false)->∀w3,LH F0 w w3 [.g b] [d.hE,d.lE]->proof_validStep.S1T i lem b d.x.kind d.x.node d.x.rule d.p d.x.nm d.l d.h w3 (RetE w (stepE d.x i lem)):=by
  intro hn w3 H3
  have hh:Nums w3 d.h d.x.hints:=H3.getD 0
  have hln:=Nums.len hh
  have e:=stepE_h (i:=i) (lem:=lem) hk hc hn
  have loop:∀(k j:Nat),j+k=d.x.hints.length->d.x.hints.all (λh=>decide (0<=h)&&decide (h<i))=(d.x.hints.drop j).all (λh=>decide (0<=h)&&decide (h<i))->proof_validStep.L2T i lem b d.x.kind d.x.node d.x.rule d.p d.x.nm d.l d.h d.h ((d.h.n:Nat):Int) (j:Int) w3 (RetE w (stepE d.x i lem)):=by
   intro k
   induction k with
   |zero=>
    intro j hj ha
    rw [qdO (by omega),List.all_nil] at ha
    rw [ha,if_pos rfl] at e
    refine proof_validStep.L2T_step _ _ _ _ _ _ _ _ _ _ _ _ _ _ _ (sel_false (decide_eq_false (by omega)) (sel_eq (λh4=>sel_dec (λh=>⟨by rw [e,if_pos ⟨h4,.inl h⟩],H3.fr⟩) (λh5=>sel_dec (λh=>⟨by rw [e,if_pos ⟨h4,.inr h⟩],H3.fr⟩) (λh6=>⟨by rw [e,if_neg (by omega)],H3.fr⟩))) (λh4=>⟨by rw [e,if_neg (by omega)],H3.fr⟩)))
   |succ k ih=>
    intro j hj ha
    have hg:d.x.hints[j]? =some d.x.hints[j]:=qgE (by omega)
    generalize d.x.hints[j]=x at hg
    rw [drop_at hg,List.all_cons] at ha
    refine proof_validStep.L2T_step _ _ _ _ _ _ _ _ _ _ _ _ _ _ _ (sel_true (decide_eq_true (by omega)) ⟨by omega,by omega,Nums.cell hh hg (by rw [Int.toNat_natCast]) λp _ hc=>⟨x,hc,sel_dec (λh=>⟨?_,H3.fr⟩) (λh5=>sel_dec (λh=>⟨?_,H3.fr⟩) (λh6=>?_))⟩⟩)
    .rw [e,ha,decide_eq_false (by omega)];rfl
    .rw [e,ha,decide_eq_false (show ¬x<i by omega)];simp
    .rw [i64_next _ (by have:=hs.2.2;omega)]
     exact ih (j+1) (by omega) (by rw [ha,decide_eq_true (show 0<=x by omega),decide_eq_true (show x<i by omega)];rfl)
  exact loop d.x.hints.length 0 (by omega) rfl
 rw [tx_eq]
 refine sel_not (λhn=>?_) (λhn=>S1 (λh=>h.1 (nm_tx.1 (of_decide_eq_true hn))) w2 H2)
 refine H2.callg (k_isName d.x.nm w2) ?_
 rintro _ w3 rfl H3
 refine ⟨_,rfl,sel_not (λh=>⟨by rw [stepE_n hk hc ⟨λh0=>of_decide_eq_false hn (nm_tx.2 h0),h⟩],H3.fr⟩) (λh=>S1 (λh'=>by rw [h] at h';cases h'.2) w3 H3)⟩
theorem c_Step25 {d:Sp} (hs:SpL d) {i lem:Int} {w:World} (hd:SpP w d):Calls Tryz.prog n_enthymemeref25_Step #[d.v,.i i,.i lem] w (RetE w (stepE d.x i lem)):=by
 refine enthymemeref25_Step.okT _ _ _ _ _ _ _ _ _ w _ ((lh0 (w:=w) [d.hE,d.lE] (by
  intro e he
  simp only [qmC,qnM,or_false] at he
  rcases he with rfl|rfl
  .exact hd.2.2
  .exact hd.2.1)).newg λb w1 H1=>?_)
 refine sel_dec (λh=>⟨by rw [stepE_k (.inl h)],H1.fr⟩) (λh1=>sel_dec (λh=>⟨by rw [stepE_k (.inr h)],H1.fr⟩) (λh2=>H1.callg (c_clause14 (l:=d.x.lits) (H1.getD 1) (by have:=hs.2.1;omega)) ?_))
 have hk:¬(d.x.kind<0\/d.x.kind>5):=by omega
 rintro _ w2 rfl H2
 refine ⟨_,rfl,sel_ne (λh=>⟨by rw [stepE_c hk h],H2.fr⟩) (λhc=>?_)⟩
 have S1:∀nm:Bool,(nm=false↔(bl d.x.nm≠[]/\nameB (bl d.x.nm)=false))->∀w3,LH F0 w w3 [.g b] [d.hE,d.lE]->enthymemeref25_Step.S1T i lem b d.x.kind d.x.node d.x.rule d.p d.x.nm d.l d.h nm w3 (RetE w (stepE d.x i lem)):=by
  intro nm hnm w3 H3
  refine sel_not (λhn=>⟨by rw [stepE_n hk hc (hnm.1 hn)],H3.fr⟩) (λhn=>?_)
  have hn:¬(bl d.x.nm≠[]/\nameB (bl d.x.nm)=false):=λh=>by rw [hnm.2 h] at hn;cases hn
  have hh:Nums w3 d.h d.x.hints:=H3.getD 0
  have hln:=Nums.len hh
  have e:=stepE_h (i:=i) (lem:=lem) hk hc hn
  have loop:∀(k j:Nat),j+k=d.x.hints.length->d.x.hints.all (λh=>decide (0<=h)&&decide (h<i))=(d.x.hints.drop j).all (λh=>decide (0<=h)&&decide (h<i))->enthymemeref25_Step.L2T i lem b d.x.kind d.x.node d.x.rule d.p d.x.nm d.l d.h (j:Int) w3 (RetE w (stepE d.x i lem)):=by
   intro k
   induction k with
   |zero=>
    intro j hj ha
    rw [qdO (by omega),List.all_nil] at ha
    rw [ha,if_pos rfl] at e
    refine enthymemeref25_Step.L2T_step _ _ _ _ _ _ _ _ _ _ _ _ _ (sel_false (decide_eq_false (by omega)) (sel_eq (λh4=>sel_dec (λh=>⟨by rw [e,if_pos ⟨h4,.inl h⟩],H3.fr⟩) (λh5=>sel_dec (λh=>⟨by rw [e,if_pos ⟨h4,.inr h⟩],H3.fr⟩) (λh6=>⟨by rw [e,if_neg (by omega)],H3.fr⟩))) (λh4=>⟨by rw [e,if_neg (by omega)],H3.fr⟩)))
   |succ k ih=>
    intro j hj ha
    have hg:d.x.hints[j]? =some d.x.hints[j]:=qgE (by omega)
    generalize d.x.hints[j]=x at hg
    rw [drop_at hg,List.all_cons] at ha
    refine enthymemeref25_Step.L2T_step _ _ _ _ _ _ _ _ _ _ _ _ _ (sel_true (decide_eq_true (by omega)) ⟨by omega,by omega,Nums.cell hh hg (by rw [Int.toNat_natCast]) λp _ hc=>⟨x,hc,sel_dec (λh=>⟨?_,H3.fr⟩) (λh5=>⟨by omega,by omega,Nums.cell hh hg (by rw [Int.toNat_natCast]) λp _ hc=>⟨x,hc,sel_dec (λh=>⟨?_,H3.fr⟩) (λh6=>?_)⟩⟩)⟩⟩)
    .rw [e,ha,decide_eq_false (by omega)];rfl
    .rw [e,ha,decide_eq_false (show ¬x<i by omega)];simp
    .rw [i64_next _ (by have:=hs.2.2;omega)]
     exact ih (j+1) (by omega) (by rw [ha,decide_eq_true (show 0<=x by omega),decide_eq_true (show x<i by omega)];rfl)
  exact loop d.x.hints.length 0 (by omega) rfl
 refine sel_tx (λhn=>S1 true ⟨λh=>(by cases h),λh=>absurd (nm_tx.1 hn) h.1⟩ w2 H2) (λhn=>H2.callg (c_Named d.x.nm w2) ?_)
 rintro _ w3 rfl H3
 exact ⟨_,rfl,S1 _ ⟨λh=>⟨λh0=>hn (nm_tx.2 h0),h⟩,λh=>h.2⟩ w3 H3⟩
theorem el_step:ElemOk Tryz.prog ty_sl_api_Step ty_api_Step (.agg #[.int .i64 0,.int .i64 0,.int .i64 0,.slice none 0 0,.string (ByteArray.mk #[]),.slice none 0 0,.slice none 0 0]) 7 112:=⟨by kernel_rfl,by kernel_rfl,rfl,by decide,by decide⟩
namespace Sp
theorem c_len (d:Sp):(c d).length=7:=rfl
theorem cs_len (l:List Sp):(l.flatMap c).length=l.length *7:=flat_length c 7 c_len l
theorem one {l:List Sp}:∀u∈l.flatMap c,u.oneCell'=true:=by
 intro u hu
 obtain ⟨d,_,hu⟩:=qmF.1 hu
 simp only [c,qmC,qnM,or_false] at hu
 rcases hu with rfl|rfl|rfl|rfl|rfl|rfl|rfl<;>rfl
structure Cells (w:World) (p:Addr) (i:Nat) (d:Sp):Prop where
 c0:w.cell? ((p.add (i *7)).add 0)=some (.i d.x.kind)
 c1:w.cell? ((p.add (i *7)).add 1)=some (.i d.x.node)
 c2:w.cell? ((p.add (i *7)).add 2)=some (.i d.x.rule)
 c3:w.cell? ((p.add (i *7)).add 3)=some d.p.v
 c4:w.cell? ((p.add (i *7)).add 4)=some (.string d.x.nm)
 c5:w.cell? ((p.add (i *7)).add 5)=some d.l.v
 c6:w.cell? ((p.add (i *7)).add 6)=some d.h.v
end Sp
def SPr (w:World) (s:Sl) (l:List Sp):Prop:=RdN 7 w s (l.flatMap Sp.c)/\∀d∈l,SpP w d
theorem SPr.fr0 {w w':World} {s:Sl} {l:List Sp} (h:SPr w s l) (f:Fr0 w w'):SPr w' s l:=⟨h.1.fr0 f,λd hd=>(h.2 d hd).fr0 f⟩
theorem SPr.n {w:World} {s:Sl} {l:List Sp} (h:SPr w s l):s.n=l.length:=by
 have:=h.1.1
 rw [Sp.cs_len] at this
 omega
theorem SPr.get' {w:World} {s:Sl} {l:List Sp} (h:SPr w s l) {i:Nat} {d:Sp} (hi:l[i]? =some d) {K:Addr->Prop} (hk:∀p,s.a=some p->Sp.Cells w p i d->K p):optP s.a K:=
 CRow.elem (f:=Sp.c) (sz:=7) Sp.c_len (by omega) h.1.2.2 hi λp hp hc=>hk p hp ⟨hc 0 _ rfl,hc 1 _ rfl,hc 2 _ rfl,hc 3 _ rfl,hc 4 _ rfl,hc 5 _ rfl,hc 6 _ rfl⟩
theorem SPr.again {w:World} {s:Sl} {l:List Sp} (h:SPr w s l) {i:Nat} {d:Sp} (hi:l[i]? =some d) {p:Addr} (hp:s.a=some p):Sp.Cells w p i d:=by
 have hk:=h.get' hi (K:=λq=>∃q',s.a=some q'/\Sp.Cells w q' i d) (λq hq hc=>⟨q,hq,hc⟩)
 rw [hp] at hk
 obtain ⟨q,hq,e⟩:=hk
 cases hq
 exact e
theorem SPr.get {w:World} {s:Sl} {l:List Sp} (h:SPr w s l) {i:Nat} {d:Sp} (hi:l[i]? =some d) {K:Addr->Prop} (hk:∀p,Sp.Cells w p i d->K p):optP s.a K:=
 CRow.elem (f:=Sp.c) (sz:=7) Sp.c_len (by omega) h.1.2.2 hi λp hp hc=>hk p ⟨hc 0 _ rfl,hc 1 _ rfl,hc 2 _ rfl,hc 3 _ rfl,hc 4 _ rfl,hc 5 _ rfl,hc 6 _ rfl⟩
abbrev spL (l:List Sp):List En:=l.flatMap λd=>[d.pE,d.hE,d.lE]
def _root_.Go.W.En.sp (s:Sl) (l:List Sp):En:=.all (.rdn 7 s (l.flatMap Sp.c)::spL l)
theorem spL_P {w:World} {l:List Sp}:(∀e∈spL l,e.P w)↔∀d∈l,SpP w d:=by
 constructor
 .intro h d hd
  have g:∀e∈[d.pE,d.hE,d.lE],e.P w:=λe he=>h e (qmF.2 ⟨d,hd,he⟩)
  exact ⟨g d.pE (by simp),g d.lE (by simp),g d.hE (by simp)⟩
 .intro h e he
  obtain ⟨d,hd,he⟩:=qmF.1 he
  simp only [qmC,qnM,or_false] at he
  rcases he with rfl|rfl|rfl
  .exact (h d hd).1
  .exact (h d hd).2.2
  .exact (h d hd).2.1
theorem sp_P {w:World} {s:Sl} {l:List Sp}:(En.sp s l).P w↔SPr w s l:=by
 constructor
 .exact λh=>⟨h (.rdn 7 s (l.flatMap Sp.c)) (by simp),spL_P.1 λe he=>h e (List.mem_cons_of_mem _ he)⟩
 .intro h e he
  rcases qmC.1 he with rfl|he
  .exact h.1
  .exact spL_P.2 h.2 e he
abbrev xsp (l:List Sp):List Stp:=l.map Sp.x
def stepsE:List Stp->Int->Int->Int
 |[],_,_=>0
 |s::r,i,lem=>if stepE s i lem≠0 then stepE s i lem else stepsE r (i+1) lem
def proofE (ss:List Stp):Int:=if ss.length>1048576 then 4 else stepsE ss 0 0
theorem steps_cons {l:List Sp} {i:Nat} {d:Sp} (h:l[i]? =some d):(xsp l).drop i=d.x::(xsp l).drop (i+1):=by
 have h1:(xsp l)[i]? =some d.x:=by rw [List.getElem?_map,h];rfl
 obtain ⟨hl,e⟩:=List.getElem?_eq_some_iff.1 h1
 rw [<-e]
 exact qdG hl
section
variable {w0:World} {s ls:Sl} {l:List Sp} {b:Nat}
theorem k_valid_steps (hl:l.length<=1048576) (hs:∀d∈l,SpL d) {E:Int} {D:List En} (hD:En.sp s l∈D):∀(k i:Nat) (w:World) (L:List En),i+k=l.length->En.g b∈L->LH F0 w0 w L D->E=stepsE ((xsp l).drop i) (i:Int) ((ls.n:Nat):Int)->
  proof_Valid.L2T b ls s s ((s.n:Nat):Int) (i:Int) w (RetE w0 E):=by
 intro k
 induction k with
 |zero=>
  intro i w L hi hb H e
  have hn:=(sp_P.1 (H.rd _ hD)).n
  rw [qdO (by simp;omega)] at e
  exact proof_Valid.L2T_step _ _ _ _ _ _ _ _ (sel_false (decide_eq_false (by omega)) ⟨by rw [e];rfl,H.fr⟩)
 |succ k ih=>
  intro i w L hi hb H e
  have h:=sp_P.1 (H.rd _ hD)
  have hn:=h.n
  have hg:l[i]? =some l[i]:=qgE (by omega)
  generalize l[i]=d at hg
  have hd:=qmG hg
  rw [steps_cons hg] at e
  refine proof_Valid.L2T_step _ _ _ _ _ _ _ _ (sel_true (decide_eq_true (by omega)) ⟨by omega,by omega,h.get hg λp hp=>?_⟩)
  rw [Int.toNat_natCast]
  refine ⟨_,_,_,_,_,_,_,hp.c0,hp.c1,hp.c2,hp.c3,hp.c4,hp.c5,hp.c6,H.newg (λb7 w1 H1=>H1.locg (λw2 H2=>H2.callg (k_validStep (d:=d) (hs d hd) ((sp_P.1 (H2.rd _ hD)).2 d hd)) ?_) (by simp [hb])) (by simp [hb])⟩
  rintro _ w3 rfl H3
  refine ⟨_,rfl,sel_ne (λh0=>⟨by rw [e];unfold stepsE;rw [if_pos h0],H3.fr⟩) (λh0=>?_)⟩
  rw [i64_next _ (by omega)]
  refine ih (i+1) w3 _ (by omega) (by simp [hb]) H3 ?_
  rw [e]
  conv=>lhs;unfold stepsE
  rw [if_neg (by omega)]
  rfl
theorem k_Valid (hl:l.length<=1000000000) (hs:∀d∈l,SpL d) {w:World} (h:SPr w s l):Calls Tryz.prog n_proof_Valid #[.agg #[(⟨none,0,0⟩:Sl).v,s.v]] w (RetE w (proofE (xsp l))):=by
 have hn:=h.n
 refine proof_Valid.okT _ _ w _ ((lh0 (w:=w) [.sp s l] (by
  intro e he
  rw [qmS.1 he]
  exact sp_P.2 h)).newg λb w1 H1=>sel_false rfl (sel_dec (λh1=>⟨?_,H1.fr⟩) (λh1=>?_)))
 .unfold proofE;rw [if_pos (by simp;omega)]
 .refine proof_Valid.L1T_step _ _ _ _ _ _ _ _ (sel_false rfl ?_)
  refine k_valid_steps (by omega) hs (D:=[.sp s l]) (by simp) l.length 0 w1 _ (by omega) (by simp) H1 ?_
  unfold proofE
  rw [if_neg (by simp;omega),List.drop_zero]
  rfl
theorem c_valid_steps (hl:l.length<=1048576) (hs:∀d∈l,SpL d) {E:Int} {D:List En} (hD:En.sp s l∈D):∀(k i:Nat) (w:World) (L:List En),i+k=l.length->En.g b∈L->LH F0 w0 w L D->E=stepsE ((xsp l).drop i) (i:Int) ((ls.n:Nat):Int)->
  enthymemeref25_Valid.L2T b ls s (i:Int) w (RetE w0 E):=by
 intro k
 induction k with
 |zero=>
  intro i w L hi hb H e
  have hn:=(sp_P.1 (H.rd _ hD)).n
  rw [qdO (by simp;omega)] at e
  exact enthymemeref25_Valid.L2T_step _ _ _ _ _ _ (sel_false (decide_eq_false (by omega)) ⟨by rw [e];rfl,H.fr⟩)
 |succ k ih=>
  intro i w L hi hb H e
  have hn:=(sp_P.1 (H.rd _ hD)).n
  have hg:l[i]? =some l[i]:=qgE (by omega)
  generalize l[i]=d at hg
  have hd:=qmG hg
  rw [steps_cons hg] at e
  have h:=sp_P.1 (H.rd _ hD)
  refine enthymemeref25_Valid.L2T_step _ _ _ _ _ _ (sel_true (decide_eq_true (by omega)) ⟨by omega,by omega,h.get' hg λp ha _=>H.locg (λw1 H1=>?_) (by simp [hb])⟩)
  have h1:=sp_P.1 (H1.rd _ hD)
  have hp:=h1.again hg ha
  rw [Int.toNat_natCast]
  refine ⟨_,_,_,_,_,_,_,hp.c0,hp.c1,hp.c2,hp.c3,hp.c4,hp.c5,hp.c6,H1.callg (c_Step25 (d:=d) (hs d hd) (h1.2 d hd)) ?_⟩
  rintro _ w3 rfl H3
  refine ⟨_,rfl,sel_ne (λh0=>⟨by rw [e];unfold stepsE;rw [if_pos h0],H3.fr⟩) (λh0=>?_)⟩
  rw [i64_next _ (by omega)]
  refine ih (i+1) w3 _ (by omega) hb H3 ?_
  rw [e]
  conv=>lhs;unfold stepsE
  rw [if_neg (by omega)]
  rfl
theorem c_Valid25 (hl:l.length<=1000000000) (hs:∀d∈l,SpL d) {w:World} (h:SPr w s l):Calls Tryz.prog n_enthymemeref25_Valid #[.agg #[(⟨none,0,0⟩:Sl).v,s.v]] w (RetE w (proofE (xsp l))):=by
 have hn:=h.n
 refine enthymemeref25_Valid.okT _ _ w _ ((lh0 (w:=w) [.sp s l] (by
  intro e he
  rw [qmS.1 he]
  exact sp_P.2 h)).newg λb w1 H1=>sel_false rfl (sel_dec (λh1=>⟨?_,H1.fr⟩) (λh1=>?_)))
 .unfold proofE;rw [if_pos (by simp;omega)]
 .refine enthymemeref25_Valid.L1T_step _ _ _ _ _ _ (sel_false rfl ?_)
  refine c_valid_steps (by omega) hs (D:=[.sp s l]) (by simp) l.length 0 w1 _ (by omega) (by simp) H1 ?_
  unfold proofE
  rw [if_neg (by simp;omega),List.drop_zero]
  rfl
end
theorem _root_.Go.W.LH.mapD {M:Nat->Prop} {w0 w:World} {L D:List En} (H:LH M w0 w L D) (D':List En) (h:∀e∈D',((∀d∈D,d.P w)->e.P w)/\∀b∈e.fp,∃d∈D,b∈d.fp):LH M w0 w L D':=
 ⟨H.fr,H.own,λe he=>(h e he).1 H.rd,H.new,H.nd,λe he b hb e' he'=>by
  obtain ⟨d,hd,hbd⟩:=(h e he).2 b hb
  exact H.dj d hd b hbd e' he'⟩
abbrev slE (l:List Sp):En:=.all (spL l)
theorem all_fp {es:List En} {b:Nat}:b∈(En.all es).fp↔∃e∈es,b∈e.fp:=by
 unfold En.all
 rw [mem_nub,qmF]
theorem sl_more {M:Nat->Prop} {w0 w:World} {L D:List En} {l:List Sp} {d:Sp} (i:Nat) (H:LH M w0 w L (D++[d.pE]++[d.hE]++[d.lE])) (hi:D[i]? =some (slE l)):LH M w0 w L (D.set i (slE (l++[d]))):=by
 have hm:=qmG hi
 have hnew:∀e∈spL (l++[d]),e∈spL l\/e∈[d.pE,d.hE,d.lE]:=λe he=>by
  simp only [spL,qfA,qmA,qfC,List.flatMap_nil,qaN] at he
  exact he
 refine H.mapD _ λe he=>?_
 rcases List.mem_or_eq_of_mem_set he with he|rfl
 .exact ⟨λh=>h e (by simp [he]),λb hb=>⟨e,by simp [he],hb⟩⟩
 .refine ⟨λh e he=>?_,λb hb=>?_⟩
  .rcases hnew e he with he|he
   .exact h (slE l) (by simp [hm]) e he
   .exact h e (by simp only [qmC,qnM,or_false] at he;rcases he with rfl|rfl|rfl<;>simp)
  .obtain ⟨e,he,hbe⟩:=all_fp.1 hb
   rcases hnew e he with he|he
   .exact ⟨slE l,by simp [hm],all_fp.2 ⟨e,he,hbe⟩⟩
   .exact ⟨e,by simp only [qmC,qnM,or_false] at he;rcases he with rfl|rfl|rfl<;>simp,hbe⟩
theorem row_n {w:World} {b n sz:Nat} {cs:List Value} {T:TypeId} (h:w.heap[b]? =some (.cells cs.toArray T (0,0))) (hn:cs.length=n *sz):RdN sz w ⟨some (at0 b),n,n⟩ cs:=blk_rdn h hn
abbrev paL (bp bw:Nat) (s:Sl) (l:List Sp):List En:=[.c bp [(⟨none,0,0⟩:Sl).v,s.v] ty_api_Proof,.c bw [.bool false] ty_bool,.row ty_api_Step 7 s (l.flatMap Sp.c)]
abbrev paD (l:List Sp):List En:=[errsE,wordsE,slE l]
theorem _root_.Go.W.LH.embed {M:Nat->Prop} {w0 w w':World} {G L L' D D':List En} (H:LH M w0 w (G++L) D) (H':LH (λb=>∃e∈L,b∈e.fp) w w' L' D') (hD:∀e∈D',∀b∈e.fp,w.heap.size<=b\/∃d∈D,b∈d.fp):LH M w0 w' (G++L') D':=by
 have hnd:=H.nd
 rw [qfA,qnA] at hnd
 have hG:∀e∈G,∀b∈e.fp,b<w.heap.size/\∀g∈L,b∉g.fp:=λe he b hb=>⟨e.lt w (H.own e (qmL _ he)) b hb,λg hg hbg=>hnd.2.2 b (qmF.2 ⟨e,he,hb⟩) b (qmF.2 ⟨g,hg,hbg⟩) rfl⟩
 have hL:∀e∈L',∀b∈e.fp,∀g∈G,b∉g.fp:=λe he b hb g hg hbg=>by
  obtain ⟨h1,h2⟩:=hG g hg b hbg
  rcases H'.new e he b hb with h|⟨q,hq,h⟩
  .omega
  .exact h2 q hq h
 refine ⟨H.fr.trans H'.fr λx hx hm=>?_,λe he=>?_,H'.rd,λe he b hb=>?_,?_,λe he b hb g hg hbg=>?_⟩
 .obtain ⟨e,he,hb⟩:=hm
  exact (H.new e (qmR _ he) x hb).resolve_left (by omega)
 .rcases qmA.1 he with he|he
  .exact e.st w w' (λb hb hl=>H'.fr.keep b hl λ⟨g,hg,hbg⟩=>(hG e he b hb).2 g hg hbg) (H.own e (qmL _ he))
  .exact H'.own e he
 .rcases qmA.1 he with he|he
  .exact H.new e (qmL _ he) b hb
  .rcases H'.new e he b hb with h|⟨q,hq,h⟩
   .exact .inl (Nat.le_trans H.fr.size h)
   .exact H.new q (qmR _ hq) b h
 .rw [qfA,qnA]
  refine ⟨hnd.1,H'.nd,λx hx y hy e=>?_⟩
  subst e
  obtain ⟨g,hg,hbg⟩:=qmF.1 hx
  obtain ⟨q,hq,hbq⟩:=qmF.1 hy
  exact hL q hq x hbq g hg hbg
 .rcases qmA.1 hg with hg|hg
  .rcases hD e he b hb with h|⟨d,hd,hbd⟩
   .have:=(hG g hg b hbg).1;omega
   .exact H.dj d hd b hbd g (qmL _ hg) hbg
  .exact H'.dj e he b hb g hg hbg
theorem _root_.Go.W.LH.part {M:Nat->Prop} {w0 w:World} {G L D:List En} (H:LH M w0 w (G++L) D):LH (λb=>∃e∈L,b∈e.fp) w w L D:=by
 have hnd:=H.nd
 rw [qfA,qnA] at hnd
 exact ⟨Fr.refl _ _,λe he=>H.own e (qmR _ he),H.rd,λe he b hb=>.inr ⟨e,he,hb⟩,hnd.2.1,λe he b hb g hg=>H.dj e he b hb g (qmR _ hg)⟩
theorem c_readLine {line:List UInt8} (hl:line.length<=1000000000) (hb:∀r,line≠[98,101,103,105,110]++32::r) {M:Nat->Prop} {w:World} {bp bw:Nat} {s:Sl} {l:List Sp} (hll:l.length<=1000000000) (H:LH M w w (paL bp bw s l) (paD l)) {K:Post}
  (hno:∀w',NoLine line->LH M w w' (paL bp bw s l) (paD l)->K (.returned (.bool false)) w')
  (hyes:∀(d:Sp) s' w',StpOk d.x->line=lineB d.x->LH M w w' (paL bp bw s' (l++[d])) (paD (l++[d]))->(∀e∈[d.pE,d.hE,d.lE],∀b∈e.fp,w.heap.size<=b)->K (.returned (.bool true)) w'):
  Calls Tryz.prog n_proof_readLine #[.pointer (some (at0 bp)),.pointer (some (at0 bw)),.string (ba line)] w K:=by
 refine proof_readLine.okT _ _ _ w _ (sel_tx (λhe=>?_) (λhe=>?_))
 .have he:line=[101,110,100]:=ba_inj' he
  refine ⟨false,H.ld0 1 rfl rfl,H.st0 1 rfl (λw1 H1=>hno w1 (noline_32 (by rw [he];decide)) H1) (by simp)⟩
 .refine (c_readBegin hl hb (D:=paD l) (by simp) (LH.start _ H.rd)).mono ?_
  rintro _ w1 ⟨rfl,f1⟩
  have H1:=H.fr0 f1
  refine ⟨⟨none,0,0⟩,⟨none,0,0⟩,⟨none,0,0⟩,⟨none,0,0⟩,false,rfl,H1.newg λb8 w3 H3=>sel_false rfl (H3.locg λw7 H7=>c_readStep hl (by simp) (by simp) H7 (λd w8 hn H8=>?_) (λd w8 hok hd H8 hf=>?_))⟩
  .exact ⟨_,_,_,_,_,_,_,_,rfl,H8.newg λb10 w9 H9=>sel_true rfl (H9.locg λw10 H10=>hno w10 hn (H10.take 3))⟩
  .refine ⟨_,_,_,_,_,_,_,_,rfl,H8.newg λb10 w9 H9=>sel_false rfl (H9.locg λw10 H10=>?_)⟩
   refine ⟨false,H10.ld0 1 rfl rfl,sel_false rfl (H10.locg λw11 H11=>?_)⟩
   refine ⟨s,H11.ld 0 1 rfl rfl,H11.nwx λw12 _ H12 hx=>?_⟩
   refine ⟨H12.ld 0 1 rfl rfl,H12.apT 2 el_step (src:=⟨some (at0 w11.heap.size),1,1⟩) (news:=d.c) rfl (row_n (cs:=d.c) hx rfl) (λu hu=>Sp.one (l:=[d]) u (by simpa using hu)) ?_ λs' w13 H13=>H13.stq 0 1 rfl λw14 H14=>?_⟩
   .have hn:=(H12.get 2:OwnRow _ _ _ _ _).len
    rw [Sp.cs_len] at hn
    show (s.n+1) *112<=_
    omega
   .have H15:=sl_more 2 (H14.take 3) rfl
    refine hyes d s' w14 hok hd ?_ λe he b hb=>Nat.le_trans H7.fr.size (hf e he b hb)
    have e:(l++[d]).flatMap Sp.c=l.flatMap Sp.c++d.c:=by simp
    unfold paL
    rw [e]
    exact H15
theorem items_len:∀l:List Int,l.length<=(itemsB l).length
 |[]=>Nat.le_refl _
 |[n]=>by
  have:=dcI_ne n
  have h:0<(dcI n).length:=qlP.2 this
  show 1<=(dcI n).length
  omega
 |n::m::r=>by
  have:=items_len (m::r)
  rw [items_cons,qlA,qlC]
  simp only [qlC] at this ⊢
  omega
theorem line_len (s:Stp):s.params.length<=(lineB s).length/\s.lits.length<=(lineB s).length/\s.hints.length<=(lineB s).length:=by
 have h1:=items_len s.params
 have h2:=items_len s.lits
 have h3:=items_len s.hints
 unfold lineB listB
 simp only [qlA,qlC]
 omega
def NoBeg (t:List UInt8):Prop:=∀a b,t≠a++([98,101,103,105,110]++b)
abbrev errR (at_ e:Int):Ending:=.returned (.tuple #[.agg #[.slice none 0 0,.slice none 0 0],.i at_,.i e])
def ParseR (w0:World) (t:List UInt8):Post:=λr w'=>∃ss rest,Reads t ss rest/\Fr0 w0 w'/\
 ((rest≠[]/\r=errR ((t.length - rest.length:Nat):Int) 2)\/(rest=[]/\proofE ss≠0/\r=errR (t.length:Int) (proofE ss))\/
  (rest=[]/\proofE ss=0/\∃(s:Sl) (ds:List Sp),xsp ds=ss/\r=.returned (.tuple #[.agg #[(⟨none,0,0⟩:Sl).v,s.v],.i 0,.i 0])/\SPr w' s ds/\∀b∈(En.sp s ds).fp,w0.heap.size<=b))
theorem _root_.Go.W.LH.stq0 {M:Nat->Prop} {w0 w:World} {L D:List En} {bs:List Nat} (H:LH M w0 w L D) (i:Nat) {b:Nat} {vs:List Value} {T:TypeId} {v:Value} {K:World->Prop} (hi:L[i]? =some (.c b vs T)) (hK:∀w',LH M w0 w' (L.set i (.c b (vs.set 0 v) T)) D->K w') (hj:0<vs.length:=by simp) (hbs:∀b∈bs,En.g b∈L:=by simp):stV w (at0 b) v λw1=>kept bs w w1/\K w1:=by
 have:=H.stq (v:=v) (K:=K) i 0 hi hK hj hbs
 rwa [add0] at this
theorem sp_fp {s:Sl} {l:List Sp} {b:Nat}:b∈(En.sp s l).fp↔b∈(En.rdn 7 s (l.flatMap Sp.c)).fp\/b∈(slE l).fp:=by
 unfold En.sp
 rw [all_fp,all_fp]
 constructor
 .rintro ⟨e,he,hb⟩
  rcases qmC.1 he with rfl|he
  .exact .inl hb
  .exact .inr ⟨e,he,hb⟩
 .rintro (hb|⟨e,he,hb⟩)
  .exact ⟨_,List.mem_cons_self ..,hb⟩
  .exact ⟨e,List.mem_cons_of_mem _ he,hb⟩
theorem ext_mid {A a b:List UInt8} {i j:Nat} (hi:i=A.length) (hj:j=A.length+a.length):(ba (A++(a++b))).extract i j=ba a:=by
 subst hi hj
 rw [bl_ext,bl_ba,List.take_append,qtOL (by omega),List.drop_append_of_le_length (by omega),List.drop_length,List.nil_append,show A.length+a.length - A.length=a.length by omega,List.take_left']
 rfl
theorem g_off {M:Nat->Prop} {w0 w:World} {L D:List En} {b:Nat} (H:LH M w0 w ([.g b]++L) D):∀q∈[b],¬∃e∈L,q∈e.fp:=λq hq ⟨e,he,hqe⟩=>by
 have hnd:=H.nd
 rw [qfA,qnA] at hnd
 exact hnd.2.2 q (by simpa [En.g] using hq) q (qmF.2 ⟨e,he,hqe⟩) rfl
theorem row_fp {e:TypeId} {sz:Nat} {s:Sl} {vs:List Value} {b:Nat} (h:b∈(En.rdn sz s vs).fp):b∈(En.row e sz s vs).fp:=by
 have h:b∈(if vs=[] then [] else blkL s):=h
 split at h
 .cases h
 .exact h
theorem row_fp' {e:TypeId} {s:Sl} {vs:List Value} {b:Nat} (h:b∈(En.rd s vs).fp):b∈(En.row e 1 s vs).fp:=by
 have h:b∈(if vs=[] then [] else blkL s):=h
 split at h
 .cases h
 .exact h
theorem line_beg {t A a b:List UInt8} (hb:NoBeg t) (ht:t=A++(a++10::b)):∀r,a≠[98,101,103,105,110]++32::r:=λr e=>hb A (32::r++10::b) (by rw [ht,e];simp)
theorem kp_loop {t:List UInt8} (htl:t.length<=16777216) (hb:NoBeg t) {b2 bp bw:Nat} {w0:World}:∀(n:Nat) (rest:List UInt8) (ds:List Sp) (s:Sl) (w:World),rest.length=n->t=(xsp ds).flatMap lineN++rest->(∀x∈xsp ds,StpOk x/\10∉lineB x)->(∀b∈(slE ds).fp,w0.heap.size<=b)->(∀d∈ds,SpL d)->
  ds.length+rest.length<=t.length->LH F0 w0 w ([.g b2]++paL bp bw s ds) (paD ds)->proof_Parse.L0T (ba t) b2 ⟨none,0,0⟩ ⟨none,0,0⟩ (at0 bp) (at0 bw) ((t.length - rest.length:Nat):Int) w (ParseR w0 t):=by
 have hz:=ba_size t
 intro n
 induction n using Nat.strongRecOn with
 |_ n ih=>
  intro rest ds s w hr ht hok hf hsl hdl H
  have hl:t.length=((xsp ds).flatMap lineN).length+rest.length:=by conv=>lhs;rw [ht,qlA]
  generalize hA:(xsp ds).flatMap lineN=A at *
  have hat:t.length - rest.length=A.length:=by omega
  rw [hat]
  have stop:∀{w':World},rest≠[]->Stuck rest->LH F0 w0 w' ([.g b2]++paL bp bw s ds) (paD ds)->proof_Parse.S1T b2 ⟨none,0,0⟩ ⟨none,0,0⟩ (A.length:Int) w' (ParseR w0 t):=λhne hst H'=>
   H'.locg λw'' H''=>⟨xsp ds,rest,⟨by rw [hA];exact ht,hok,.inr ⟨hne,hst⟩⟩,H''.fr,.inl ⟨hne,by rw [hat]⟩⟩
  refine proof_Parse.L0T_step _ _ _ _ _ _ _ _ _ (sel_dec (λh=>?_) (λh=>?_))
  .have hne:rest≠[]:=λe=>by rw [e] at hl;simp at hl;omega
   refine ⟨by omega,by omega,?_⟩
   have e1:(ba t).extract (Int.toNat (A.length:Int)) (ba t).size=ba rest:=by
    rw [Int.toNat_natCast,hz,ht]
    have:=ext_mid (A:=A) (a:=rest) (b:=[]) rfl (j:=A.length+rest.length) rfl
    rw [qaN] at this
    rw [qlA];exact this
   rw [e1]
   refine H.callg ((s_IndexByte (ba rest) 10 w).mono λr w' h=>⟨h.1,h.2▸Fr.refl _ _⟩) ?_
   rintro _ w1 rfl H1
   rw [bl_ba]
   rcases cut_cases 10 rest with ⟨hno,e⟩|⟨a,b,e,ha,e'⟩
   .rw [e]
    exact ⟨_,rfl,sel_true rfl (stop hne (.inl hno) H1)⟩
   .rw [e']
    have hrl:rest.length=a.length+b.length+1:=by rw [e];simp;omega
    have w1e:IntKind.wrap .i64 ((A.length:Int)+(a.length:Int))=((A.length+a.length:Nat):Int):=by rw [IntWalk.i64_in _ (by omega)];omega
    have w2e:IntKind.wrap .i64 ((A.length:Int)+IntKind.wrap .i64 ((a.length:Int)+1))=((A.length+a.length+1:Nat):Int):=by rw [i64_next _ (by omega),IntWalk.i64_in _ (by omega)];omega
    have ht2:t=A++(a++10::b):=by rw [ht,e]
    refine ⟨_,rfl,sel_false (decide_eq_false (by omega)) ?_⟩
    rw [w1e,w2e,Int.toNat_natCast,Int.toNat_natCast]
    have e2:(ba t).extract A.length (A.length+a.length)=ba a:=by rw [ht2];exact ext_mid rfl rfl
    rw [e2]
    refine ⟨by omega,by omega,by omega,by omega,_,g_off H1,c_readLine (by omega) (line_beg hb ht2) (by omega) H1.part (λw2 hn H2=>?_) (λd s' w2 hd1 hd2 H2 hfr=>?_)⟩
    .have H3:=H1.embed H2 λe he b hb=>.inr ⟨e,he,hb⟩
     exact ⟨H2.fr,_,rfl,sel_true rfl (stop hne (.inr ⟨a,b,e,ha,hn⟩) H3)⟩
    .have hsp:∀q∈(slE (ds++[d])).fp,q∈(slE ds).fp\/w1.heap.size<=q:=λq hq=>by
      obtain ⟨x,hx,hqx⟩:=all_fp.1 hq
      simp only [spL,qfA,qmA,qfC,List.flatMap_nil,qaN] at hx
      rcases hx with hx|hx
      .exact .inl (all_fp.2 ⟨x,hx,hqx⟩)
      .exact .inr (hfr x hx q hqx)
     have H3:=H1.embed H2 λe he q hq=>by
      simp only [qmC,qnM,or_false] at he
      rcases he with rfl|rfl|rfl
      .exact .inr ⟨_,by simp,hq⟩
      .exact .inr ⟨wordsE,by simp,hq⟩
      .rcases hsp q hq with h|h
       .exact .inr ⟨slE ds,by simp,h⟩
       .exact .inl h
     refine ⟨H2.fr,_,rfl,sel_false rfl ?_⟩
     have e3:A.length+a.length+1=t.length - b.length:=by omega
     rw [e3]
     have hll:=line_len d.x
     rw [<-hd2] at hll
     have hx:xsp (ds++[d])=xsp ds++[d.x]:=by simp
     refine ih b.length (by omega) b (ds++[d]) s' w2 rfl ?_ ?_ ?_ ?_ ?_ H3
     .rw [hx,qfA,hA,ht2]
      simp [lineN,<-hd2]
     .intro x hx'
      rw [hx] at hx'
      rcases qmA.1 hx' with h|h
      .exact hok x h
      .rw [qmS.1 h,<-hd2];exact ⟨hd1,ha⟩
     .intro q hq
      rcases hsp q hq with h|h
      .exact hf q h
      .exact Nat.le_trans H1.fr.size h
     .intro d' hd'
      rcases qmA.1 hd' with h|h
      .exact hsl d' h
      .rw [qmS.1 h]
       exact ⟨by omega,by omega,by omega⟩
     .simp;omega
  .have h0:rest=[]:=qeN (by omega)
   subst h0
   have hsp:∀{w':World},LH F0 w0 w' ([.g b2]++paL bp bw s ds) (paD ds)->SPr w' s ds:=λH'=>⟨(H'.get 3:OwnRow _ _ _ _ _).rdn,spL_P.1 (H'.getD 2)⟩
   refine ⟨false,H.ld0 2 rfl rfl,sel_false rfl ⟨⟨none,0,0⟩,s,H.ld 1 0 rfl rfl,H.ld 1 1 rfl rfl,H.callg (k_Valid (by omega) hsl (hsp H)) ?_⟩⟩
   rintro _ w1 rfl H1
   have rd:Reads t (xsp ds) []:=⟨by rw [hA];exact ht,hok,.inl rfl⟩
   refine ⟨_,rfl,sel_ne (λh1=>H1.locg λw2 H2=>⟨xsp ds,[],rd,H2.fr,.inr (.inl ⟨rfl,h1,by rw [hz]⟩)⟩) (λh1=>⟨⟨none,0,0⟩,s,H1.ld 1 0 rfl rfl,H1.ld 1 1 rfl rfl,H1.locg λw2 H2=>⟨xsp ds,[],rd,H2.fr,.inr (.inr ⟨rfl,h1,s,ds,rfl,rfl,hsp H2,λq hq=>?_⟩)⟩⟩)⟩
   rcases sp_fp.1 hq with h|h
   .exact (H2.new _ (qmG (i:=3) rfl) q (row_fp h)).resolve_right id
   .exact hf q h
theorem k_Parse {t:List UInt8} (htl:t.length<=16777216) (hb:NoBeg t) {w:World} {D:List En} (he:errsE∈D) (hw:wordsE∈D) (H:LH F0 w w [] D):Calls Tryz.prog n_proof_Parse #[.string (ba t)] w (ParseR w t):=by
 have hz:=ba_size t
 refine proof_Parse.okT _ w _ (H.newg λb2 w1 H1=>sel_false (decide_eq_false (by omega)) (H1.nw λw4 h4 H4=>H4.nw λw5 h5 H5=>H5.stq0 2 rfl λw6 H6=>?_))
 have H7:LH F0 w w6 ([.g b2]++paL w1.heap.size w4.heap.size ⟨none,0,0⟩ []) (paD []):=(H6.nilrow ty_api_Step 7).mapD _ λe he'=>by
  simp only [qmC,qnM,or_false] at he'
  rcases he' with rfl|rfl|rfl
  .exact ⟨λh=>h _ he,λb hb=>⟨_,he,hb⟩⟩
  .exact ⟨λh=>h _ hw,λb hb=>⟨_,hw,hb⟩⟩
  .exact ⟨λ_=>λe he=>by simp [spL] at he,λb hb=>by
    obtain ⟨e,he,_⟩:=all_fp.1 hb
    simp [spL] at he⟩
 have:=kp_loop htl hb (b2:=b2) (w0:=w) t.length t [] ⟨none,0,0⟩ w6 rfl rfl (by simp) (λb hb=>by
  obtain ⟨e,he,_⟩:=all_fp.1 hb
  simp [spL] at he) (by simp) (by simp) H7
 rw [Nat.sub_self] at this
 exact this
abbrev dgX:ByteArray:=⟨#[48,49,50,51,52,53,54,55,56,57]⟩
theorem dg_ext:∀d<10,dgX.extract d (d+1)=ba [digB d]:=by decide
theorem c_Decimal {n:Int} (h:I64 n) (w:World):Calls Tryz.prog n_enthymemeref01_Decimal #[.i n] w λr w'=>r=.returned (.string (ba (dcI n)))/\Fr0 w w':=by
 obtain ⟨hn1,hn2⟩:=h
 refine enthymemeref01_Decimal.ok _ w _ (sel_eq (λh=>⟨by subst h;rw [dcI_pos (by omega),show (0:Int).natAbs=0 from rfl,dcU_lt (by omega)];rfl,Fr.refl _ _⟩) (λh0=>?_))
 have loop:∀(m:Nat) (k:Int) (s:List UInt8),k.natAbs=m->(k<0->n<0)->(0<k->0<n)->m<=9223372036854775808->(k=0->s≠[])->(dcU n.natAbs=if m=0 then s else dcU m++s)->
   enthymemeref01_Decimal.L1 n dgX (ba s) k w λr w'=>r=.returned (.string (ba (dcI n)))/\Fr0 w w':=by
  intro m
  induction m using Nat.strongRecOn with
  |_ m ih=>
   intro k s hk hneg hpos hm hs hd
   have hsz:=ba_size s
   have h20:s.length<=20:=by
    have h1:=(dcU_20 (u:=n.natAbs) (by omega)).2.1
    rw [hd] at h1
    split at h1
    .exact h1
    .rw [qlA] at h1;omega
   refine enthymemeref01_Decimal.L1_step _ _ _ _ _ _ (sel_ne (λh=>?_) (λh=>?_))
   .have hm0:m≠0:=by omega
    have hd10:m%10<10:=Nat.mod_lt _ (by omega)
    rw [if_neg hm0] at hd
    have S2:∀d:Int,d=((m%10:Nat):Int)->enthymemeref01_Decimal.S2 n dgX (ba s) k d w λr w'=>r=.returned (.string (ba (dcI n)))/\Fr0 w w':=by
     rintro _ rfl
     have e1:IntKind.wrap .i64 (((m%10:Nat):Int)+1)=((m%10+1:Nat):Int):=i64_next _ (by omega)
     unfold enthymemeref01_Decimal.S2
     rw [e1,Int.toNat_natCast,Int.toNat_natCast,dg_ext _ hd10]
     refine ⟨by omega,?_,by omega,by omega,?_,?_⟩
     .show ((m%10+1:Nat):Int)<=((10:Nat):Int);omega
     .rw [ba_size,hsz,IntKind.max_i64];simp only [List.length_singleton];omega
     .rw [ba_app]
      have hk2:(Int.tdiv k 10).natAbs=m / 10:=by rw [Int.natAbs_tdiv,hk];rfl
      have e2:IntKind.wrap .i64 (Int.tdiv k 10)=Int.tdiv k 10:=IntWalk.i64_in _ (by omega)
      unfold enthymemeref01_Decimal.S3
      rw [e2]
      refine ih (m / 10) (by omega) _ (digB (m%10)::s) hk2 (λhl=>hneg ?_) (λhl=>hpos ?_) (by omega) (by simp) ?_
      .rcases Int.lt_or_le k 0 with h1|h1
       .exact h1
       .have:=Int.tdiv_nonneg h1 (by omega:(0:Int)<=10);omega
      .rcases Int.lt_or_le 0 k with h1|h1
       .exact h1
       .have:=Int.tdiv_nonneg (by omega:0<=-k) (by omega:(0:Int)<=10)
        rw [Int.neg_tdiv] at this
        omega
      .rw [hd]
       by_cases h9:m<10
       .rw [dcU_lt h9,if_pos (by omega),Nat.mod_eq_of_lt h9];rfl
       .rw [dcU_ge h9,if_neg (by omega),qaA];rfl
    have hmod:(Int.tmod k 10).natAbs=m%10:=by rw [Int.natAbs_tmod,hk];rfl
    refine sel_dec (λh1=>S2 _ ?_) (λh1=>S2 _ ?_)
    .rw [IntWalk.i64_in _ (by omega)];omega
    .omega
   .have hm0:m=0:=by omega
    rw [if_pos hm0] at hd
    refine sel_dec (λh1=>⟨?_,?_,Fr.refl _ _⟩) (λh1=>⟨?_,Fr.refl _ _⟩)
    .rw [hsz,IntKind.max_i64];show ¬(((1+s.length:Nat):Int)>_);omega
    .rw [dcI_neg h1,hd,show ByteArray.mk #[45]=ba [45] from rfl,ba_app];rfl
    .rw [dcI_pos h1,hd]
 exact loop n.natAbs n [] rfl id id (by omega) (λh=>absurd h h0) (by rw [if_neg (by omega),qaN])
theorem c_Pick {w:World} {s:Sl} {l:List Int} (hr:Nums w s l) (hl:∀x∈l,I64 x) (i m:Int) (hm:1<=m):Calls Tryz.prog n_enthymemeref01_Pick #[s.v,.i i,.i m] w λr w'=>(∃k:Int,r=.returned (.i k)/\0<=k/\k<m)/\Fr0 w w':=by
 have hn:=Nums.len hr
 refine enthymemeref01_Pick.ok _ _ _ w _ (sel_dec (λh=>⟨⟨0,rfl,by omega,by omega⟩,Fr.refl _ _⟩) (λh1=>sel_dec (λh=>⟨⟨0,rfl,by omega,by omega⟩,Fr.refl _ _⟩) (λh2=>?_)))
 obtain ⟨j,rfl⟩:=Int.eq_ofNat_of_zero_le (by omega:0<=i)
 have hg:l[j]? =some l[j]:=qgE (by omega)
 generalize l[j]=x at hg
 have hx:=hl x (qmG hg)
 refine ⟨by omega,by omega,Nums.cell hr hg (by rw [Int.toNat_natCast]) λp _ hc=>⟨x,hc,(around_any x m w hm hx).mono ?_⟩⟩
 rintro _ w1 ⟨rfl,f⟩
 exact ⟨_,rfl,⟨_,rfl,aroundI_range x m hm⟩,f▸Fr.refl _ _⟩
abbrev crE (b:Nat) (l:List UInt8) (at_:Nat) (bad:Bool):En:=.c b [.string (ba l),.i (at_:Int),.bool bad] ty_enthymemeref25_cursor
theorem cr_fp {b:Nat} {l:List UInt8} {at_ at':Nat} {ok ok':Bool}:∀{L:List En} {i:Nat},L[i]? =some (crE b l at_ ok)->(L.set i (crE b l at' ok')).flatMap (·.fp)=L.flatMap (·.fp)
 |a::L,0,h=>by simp only [List.getElem?_cons_zero,Option.some.injEq] at h;subst h;rfl
 |a::L,i+1,h=>by
  simp only [List.getElem?_cons_succ] at h
  simp only [List.set_cons_succ,qfC,cr_fp h]
section
variable {M:Nat->Prop} {w0 w:World} {L D:List En}
theorem _root_.Go.W.LH.crC (H:LH M w0 w L D) (i:Nat) {b:Nat} {l:List UInt8} {at_:Nat} {bad:Bool} (hi:L[i]? =some (crE b l at_ bad)) {P:Program} {g:FuncId} {args:Array Value} {A:Ending->Nat->Bool->World->Prop} {K:Post}
  (hc:LH (·=b) w w [crE b l at_ bad] D->Calls P g args w λr w'=>∃at' bad',A r at' bad' w'/\LH (·=b) w w' [crE b l at' bad'] D)
  (hk:∀r w' at' bad',A r at' bad' w'->Fr (·=b) w w'->LH M w0 w' (L.set i (crE b l at' bad')) D->K r w'):Calls P g args w K:=by
 have hb:(crE b l at_ bad).P w:=H.get i hi
 have H1:LH (·=b) w w [crE b l at_ bad] D:=LH.start' _ _ (by
  intro e he
  rw [qmS.1 he]
  exact ⟨hb,λx hx=>by simpa [En.c,En.ob] using hx⟩) (by simp [En.c,En.ob]) (λe he=>⟨H.rd e he,λx hx e' he'=>by rw [qmS.1 he'];exact H.dj e he x hx _ (qmG hi)⟩)
 refine (hc H1).mono ?_
 rintro r w' ⟨at',bad',ha,H2⟩
 exact hk r w' at' bad' ha H2.fr (H.upd i (crE b l at' bad') hi (H2.fr.mono λx _ hx=>by simp [En.c,En.ob,hx]) (H2.get 0) λb hb=>.inl hb)
theorem _root_.Go.W.LH.crF (H:LH M w0 w L D) (i:Nat) {bs:List Nat} {b:Nat} {l:List UInt8} {at_:Nat} {bad:Bool} (hi:L[i]? =some (crE b l at_ bad)) {P:Program} {g:FuncId} {args:Array Value} {A:Ending->Nat->Bool->World->Prop} {K:Post}
  (hc:LH (·=b) w w [crE b l at_ bad] D->Calls P g args w λr w'=>∃at' bad',A r at' bad' w'/\LH (·=b) w w' [crE b l at' bad'] D)
  (hk:∀r w' at' bad',A r at' bad' w'->LH M w0 w' (L.set i (crE b l at' bad')) D->(∀e:En,e.P w'->(∀x∈e.fp,w.heap.size<=x)->LH M w0 w' (L.set i (crE b l at' bad')) (D++[e]))->K r w') (hbs:∀b∈bs,En.g b∈L:=by simp):callF bs P g args w K:=
 ⟨(·=b),λq hq hm=>ghost_off H hi (c_off w b _ _) (hbs q hq) (by subst hm;exact c_fp.2 rfl),H.crC i hi hc λr w' at' bad' ha f H'=>⟨f,hk r w' at' bad' ha H' λe he hn=>H'.newD' (w:=w) (by rw [cr_fp hi];exact H.own_lt) e he hn⟩⟩
end
section
variable {w:World} {D:List En} {b:Nat} {l:List UInt8} {at_:Nat} {bad:Bool}
def TakeP (l:List UInt8) (at_:Nat) (bad:Bool) (t:List UInt8) (at':Nat) (bad':Bool):Prop:=
 at_<=at'/\at'<=l.length/\(bad'=false->bad=false/\l.drop at_=t++l.drop at')/\(bad=false->∀r,l.drop at_=t++r->bad'=false/\l.drop at'=r)
theorem x_take (t:List UInt8) (ht:t.length<=1000) (hl:l.length<=1000000000) (ha:at_<=l.length) (H:LH (·=b) w w [crE b l at_ bad] D):
  Calls Tryz.prog n_enthymemeref25_cursor_take #[.pointer (some (at0 b)),.string (ba t)] w λr w'=>∃at' bad',(r=.returned (.tuple #[])/\TakeP l at_ bad t at' bad')/\LH (·=b) w w' [crE b l at' bad'] D:=by
 have hz:=ba_size l
 have ht2:=ba_size t
 have fail:∀w1,LH (·=b) w w1 [crE b l at_ bad] D->(bad=false->∀r,l.drop at_≠t++r)->enthymemeref25_cursor_take.S0 (at0 b) w1 λr w'=>∃at' bad',(r=.returned (.tuple #[])/\TakeP l at_ bad t at' bad')/\LH (·=b) w w' [crE b l at' bad'] D:=λw1 H1 hno=>
  H1.st 0 2 rfl λw2 H2=>⟨at_,true,⟨rfl,Nat.le_refl _,ha,λh=>(by cases h),λhb r e=>absurd e (hno hb r)⟩,H2⟩
 refine enthymemeref25_cursor_take.ok _ _ w _ (H.dr λw1 H1=>⟨bad,H1.ld 0 2,?_⟩)
 cases bad with
 |true=>exact sel_true rfl (fail w1 H1 λh=>by cases h)
 |false=>
  have e1:IntKind.wrap .i64 ((at_:Int)+(((ba t).size:Nat):Int))=((at_+t.length:Nat):Int):=by rw [ht2,IntWalk.i64_in _ (by omega)];omega
  refine sel_false rfl ⟨_,H1.ld 0 0,_,H1.ld 0 1,?_⟩
  rw [e1,hz]
  refine sel_dec (λh=>fail w1 H1 λ_ r e=>?_) (λh=>⟨_,H1.ld 0 0,_,H1.ld 0 1,_,H1.ld 0 1,?_⟩)
  .have:=congrArg List.length e
   rw [qlD,qlA] at this
   omega
  rw [e1,hz,Int.toNat_natCast,Int.toNat_natCast,tx_eq,bl_ext,bl_ba]
  refine ⟨by omega,by omega,by omega,by omega,sel_not (λh2=>fail w1 H1 λ_ r e=>?_) (λh2=>⟨_,H1.ld 0 1,?_⟩)⟩
  .refine of_decide_eq_false h2 ?_
   rw [List.drop_take,e,Nat.add_sub_cancel_left,List.take_left' rfl]
  .have he:(l.take (at_+t.length)).drop at_=t:=ba_inj' (of_decide_eq_true h2)
   rw [List.drop_take,Nat.add_sub_cancel_left] at he
   have hd:l.drop at_=t++l.drop (at_+t.length):=by
    conv=>lhs;rw [<-List.take_append_drop t.length (l.drop at_),he,List.drop_drop]
   refine H1.st 0 1 rfl λw2 H2=>⟨at_+t.length,false,⟨rfl,by omega,by omega,λ_=>⟨rfl,hd⟩,λ_ r e=>⟨rfl,?_⟩⟩,?_⟩
   .rw [hd] at e
    exact List.append_cancel_left e
   .rw [e1] at H2
    exact H2
def runD (l:List UInt8):Nat:=(l.takeWhile isD).length
def runL:List UInt8->Nat
 |[]=>0
 |c::t=>if isN c then 1+runD t else 0
theorem runL_cons (c:UInt8) (t:List UInt8):runL (c::t)=if isN c then 1+runD t else 0:=rfl
theorem runD_cons (c:UInt8) (t:List UInt8):runD (c::t)=if isD c then 1+runD t else 0:=by
 unfold runD
 rw [List.takeWhile_cons]
 split
 .rw [qlC,Nat.add_comm]
 .rfl
theorem runD_app {a r:List UInt8} (ha:∀c∈a,isD c=true) (hr:∀c t,r=c::t->isD c=false):runD (a++r)=a.length:=by
 induction a with
 |nil=>
  cases r with
  |nil=>rfl
  |cons c t=>rw [List.nil_append,runD_cons,hr c t rfl];rfl
 |cons c a ih=>rw [qcA,runD_cons,ha c (by simp),ih λd hd=>ha d (by simp [hd]),qlC];simp [Nat.add_comm]
theorem runL_dcI {m:Int} {r:List UInt8} (hr:∀c t,r=c::t->isD c=false):runL (dcI m++r)=(dcI m).length:=by
 by_cases hm:m<0
 .rw [dcI_neg hm,qcA,runL_cons,if_pos (show isN 45=true from rfl),runD_app (dcU_all _) hr,qlC,Nat.add_comm]
 .rw [dcI_pos hm]
  have hall:=dcU_all m.natAbs
  cases hd:dcU m.natAbs with
  |nil=>exact absurd hd (dcU_ne _)
  |cons c t=>
   rw [hd] at hall
   rw [qcA,runL_cons,if_pos (by unfold isN;rw [hall c (by simp)];rfl),runD_app (λd hd=>hall d (by simp [hd])) hr,qlC,Nat.add_comm]
def stepN (n:Int) (c:UInt8):Int:=if c=45 then n else IntKind.wrap .i64 (IntKind.wrap .i64 (10 *n) - IntKind.wrap .i64 (IntKind.wrap .u8 ((c.toNat:Int) - 48)))
theorem wrap_I64 (x:Int):I64 (IntKind.wrap .i64 x):=by rw [IntKind.wrap_i64];exact ⟨by omega,by omega⟩
theorem stepN_I64 {n:Int} (h:I64 n) (c:UInt8):I64 (stepN n c):=by
 unfold stepN
 split
 .exact h
 .exact wrap_I64 _
theorem stepN_dig:∀(l:List UInt8) (a:Nat),(∀c∈l,isD c=true)->valF a l<=9223372036854775808->l.foldl stepN (-(a:Int))=-((valF a l:Nat):Int)
 |[],a,_,_=>rfl
 |c::l,a,hl,hv=>by
  have hc:=hl c (by simp)
  obtain ⟨h1,h2⟩:=isD_le hc
  have hv':valF (10 *a+(c.toNat - 48)) l<=9223372036854775808:=hv
  have hge:=valF_ge l (10 *a+(c.toNat - 48))
  have e:stepN (-(a:Int)) c=-((10 *a+(c.toNat - 48):Nat):Int):=by
   unfold stepN
   rw [if_neg (λe=>by subst e;exact absurd hc (by decide)),u8_sub h1,IntWalk.i64_in (10 *_) (by omega),IntWalk.i64_in ((c.toNat - 48:Nat):Int) (by omega),IntWalk.i64_in _ (by omega)]
   omega
  rw [List.foldl_cons,e,stepN_dig l _ (λd hd=>hl d (by simp [hd])) hv']
  rfl
def NumX (l:List UInt8) (at_:Nat) (bad:Bool) (n:Int) (at':Nat) (bad':Bool):Prop:=
 at_<=at'/\at'<=l.length/\I64 n/\(bad'=false->bad=false/\l.drop at_=dcI n++l.drop at')/\
  (bad=false->∀(m:Int) (r:List UInt8),I64 m->l.drop at_=dcI m++r->(∀c t,r=c::t->isD c=false)->n=m/\l.drop at'=r/\bad'=false)
theorem dcI_len {m:Int} (h:I64 m):(dcI m).length<21:=by
 have h1:=h.1
 have h2:=h.2
 have:(dcU m.natAbs).length<=19:=dcU_len (by omega) (by omega)
 unfold dcI
 split
 .rw [qlC];omega
 .omega
theorem x_number (hl:l.length<=1000000000) (ha:at_<=l.length) (H:LH (·=b) w w [crE b l at_ bad] D):
  Calls Tryz.prog n_enthymemeref25_cursor_number #[.pointer (some (at0 b))] w λr w'=>∃at' bad',(∃n,r=.returned (.i n)/\NumX l at_ bad n at' bad')/\LH (·=b) w w' [crE b l at' bad'] D:=by
 have hz:=ba_size l
 have S7:∀(W:List UInt8) (n:Int) (at':Nat) (w1:World),at_<=at'->at'<=l.length->l.drop at_=W++l.drop at'->I64 n->(∀(m:Int) (r:List UInt8),I64 m->l.drop at_=dcI m++r->(∀c t,r=c::t->isD c=false)->W=dcI m/\n=m)->LH (·=b) w w1 [crE b l at' bad] D->
   enthymemeref25_cursor_number.S7 (at0 b) (ba W) n w1 λr w'=>∃at' bad',(∃n,r=.returned (.i n)/\NumX l at_ bad n at' bad')/\LH (·=b) w w' [crE b l at' bad'] D:=by
  intro W n at' w1 h1 h2 hW hn hf H1
  refine H1.call (c_Decimal hn w1) ?_
  rintro _ w2 rfl H2
  refine ⟨_,rfl,?_⟩
  dsimp only
  rw [tx_eq]
  refine sel_not (λh=>H2.st 0 2 rfl λw3 H3=>⟨at',true,⟨n,rfl,h1,h2,hn,λh=>(by cases h),λ_ m r hm e hr=>?_⟩,H3⟩) (λh=>⟨at',bad,⟨n,rfl,h1,h2,hn,λhb=>⟨hb,?_⟩,λhb m r hm e hr=>?_⟩,H2⟩)
  .obtain ⟨h3,h4⟩:=hf m r hm e hr
   exact absurd (by rw [h3,h4]) (of_decide_eq_false h)
  .rw [ba_inj' (of_decide_eq_true h)];exact hW
  .obtain ⟨h3,h4⟩:=hf m r hm e hr
   refine ⟨h4,?_,hb⟩
   rw [hW,h3] at e
   exact List.append_cancel_left e
 have S3:∀(W:List UInt8) (at':Nat) (w1:World),at_<=at'->at'<=l.length->l.drop at_=W++l.drop at'->W.length=runL (l.drop at_)->LH (·=b) w w1 [crE b l at' bad] D->
   enthymemeref25_cursor_number.S3 (at0 b) (ba W) w1 λr w'=>∃at' bad',(∃n,r=.returned (.i n)/\NumX l at_ bad n at' bad')/\LH (·=b) w w' [crE b l at' bad'] D:=by
  intro W at' w1 h1 h2 hW hrun H1
  have hzw:=ba_size W
  have hWl:W.length<=l.length:=by have:=congrArg List.length hW;rw [qlD,qlA] at this;omega
  have fwd:∀(m:Int) (r:List UInt8),l.drop at_=dcI m++r->(∀c t,r=c::t->isD c=false)->W=dcI m:=λm r e hr=>by
   rw [e,runL_dcI hr] at hrun
   rw [hW] at e
   exact (List.append_inj e hrun).1
  have S6:∀n:Int,I64 n->(n=W.foldl stepN 0\/21<=W.length)->enthymemeref25_cursor_number.S6 (at0 b) (ba W) n w1 λr w'=>∃at' bad',(∃n,r=.returned (.i n)/\NumX l at_ bad n at' bad')/\LH (·=b) w w' [crE b l at' bad'] D:=by
   intro n hn hnf
   have val:∀(m:Int) (r:List UInt8),I64 m->l.drop at_=dcI m++r->(∀c t,r=c::t->isD c=false)->W=dcI m/\n=-(m.natAbs:Int):=λm r hm e hr=>by
    have h3:=fwd m r e hr
    refine ⟨h3,?_⟩
    have h4:=dcI_len hm
    rcases hnf with hnf|hnf
    .have hm1:=hm.1
     have hm2:=hm.2
     have hv:(dcU m.natAbs).foldl stepN (-((0:Nat):Int))=-((valF 0 (dcU m.natAbs):Nat):Int):=stepN_dig _ 0 (dcU_all _) (by rw [val_dcU];omega)
     rw [val_dcU] at hv
     rw [hnf,h3]
     by_cases hm0:m<0
     .rw [dcI_neg hm0,List.foldl_cons]
      exact hv
     .rw [dcI_pos hm0]
      exact hv
    .rw [h3] at hnf;omega
   cases hWc:W with
   |nil=>
    refine sel_false rfl (S7 [] n at' w1 h1 h2 (hWc▸hW) hn (λm r hm e hr=>?_) H1)
    have:=(val m r hm e hr).1
    rw [hWc] at this
    exact absurd this.symm (dcI_ne m)
   |cons c t=>
    have hx:(ba (c::t))[Int.toNat 0]? =some c:=bl_ix (s:=ba (c::t)) rfl 0
    refine sel_true (decide_eq_true (by rw [ba_size];simp)) ⟨by omega,c,hx,sel_ne (λh=>S7 (c::t) _ at' w1 h1 h2 (hWc▸hW) (wrap_I64 _) (λm r hm e hr=>?_) H1) (λh=>S7 (c::t) _ at' w1 h1 h2 (hWc▸hW) hn (λm r hm e hr=>?_) H1)⟩
    .obtain ⟨h3,h4⟩:=val m r hm e hr
     rw [hWc] at h3
     refine ⟨h3,?_⟩
     have hm0:¬m<0:=λhm0=>by
      rw [dcI_neg hm0] at h3
      injection h3 with h3 _
      subst h3
      exact h rfl
     have:=hm.2
     rw [h4,IntWalk.i64_in _ (by omega)];omega
    .obtain ⟨h3,h4⟩:=val m r hm e hr
     rw [hWc] at h3
     refine ⟨h3,?_⟩
     have hm0:m<0:=by
      by_cases hm0:m<0
      .exact hm0
      .have:=isD_le (dcI_digits hm0 c t h3)
       omega
     omega
  by_cases h21:W.length<21
  .have loop:∀(k i:Nat),i+k=W.length->enthymemeref25_cursor_number.L4 (at0 b) (ba W) ((W.take i).foldl stepN 0) (i:Int) w1 λr w'=>∃at' bad',(∃n,r=.returned (.i n)/\NumX l at_ bad n at' bad')/\LH (·=b) w w' [crE b l at' bad'] D:=by
    intro k
    have i64f:∀(l:List UInt8) (n:Int),I64 n->I64 (l.foldl stepN n):=by
     intro l
     induction l with
     |nil=>exact λn h=>h
     |cons c l ih=>exact λn h=>ih _ (stepN_I64 h c)
    induction k with
    |zero=>
     intro i hi
     refine enthymemeref25_cursor_number.L4_step _ _ _ _ _ _ (sel_false (decide_eq_false (by omega)) ?_)
     rw [qtOL (by omega)]
     exact S6 _ (i64f W 0 (by decide)) (.inl rfl)
    |succ k ih=>
     intro i hi
     have hg:W[i]? =some W[i]:=qgE (by omega)
     generalize W[i]=c at hg
     have hx:(ba W)[Int.toNat (i:Int)]? =some c:=by rw [Int.toNat_natCast];exact (bl_ix (s:=ba W) rfl i).trans hg
     have ih1:=ih (i+1) (by omega)
     rw [take_snoc hg,List.foldl_append] at ih1
     have ih1:enthymemeref25_cursor_number.L4 (at0 b) (ba W) (stepN ((W.take i).foldl stepN 0) c) ((i+1:Nat):Int) w1 λr w'=>∃at' bad',(∃n,r=.returned (.i n)/\NumX l at_ bad n at' bad')/\LH (·=b) w w' [crE b l at' bad'] D:=ih1
     refine enthymemeref25_cursor_number.L4_step _ _ _ _ _ _ (sel_true (decide_eq_true (by omega)) (sel_true (decide_eq_true (by omega)) ⟨by omega,c,hx,sel_ne (λh=>⟨by omega,c,hx,?_⟩) (λh=>?_)⟩))
     .show enthymemeref25_cursor_number.L4 _ _ _ (IntKind.wrap .i64 _) _ _
      rw [i64_next _ (by omega)]
      unfold stepN at ih1
      rw [if_neg (λe=>by subst e;exact h rfl)] at ih1
      exact ih1
     .show enthymemeref25_cursor_number.L4 _ _ _ (IntKind.wrap .i64 _) _ _
      rw [i64_next _ (by omega)]
      unfold stepN at ih1
      rw [if_pos (u8_of h)] at ih1
      exact ih1
   exact loop W.length 0 (by omega)
  .refine enthymemeref25_cursor_number.L4_step _ _ _ _ _ _ (sel_dec (λ_=>sel_false (decide_eq_false (by omega)) (S6 0 (by decide) (.inr (by omega)))) (λh=>by omega))
 have S2:∀(a:Nat) (w1:World),at_<=a->a<=l.length->a - at_=runL (l.drop at_)->LH (·=b) w w1 [crE b l a bad] D->
   enthymemeref25_cursor_number.S2 (at0 b) (at_:Int) w1 λr w'=>∃at' bad',(∃n,r=.returned (.i n)/\NumX l at_ bad n at' bad')/\LH (·=b) w w' [crE b l at' bad'] D:=by
  intro a w1 h1 h2 hrun H1
  refine H1.dr λw2 H2=>⟨_,H2.ld 0 0,_,H2.ld 0 1,by omega,by omega,by omega,by omega,?_⟩
  rw [Int.toNat_natCast,Int.toNat_natCast,bl_ext,bl_ba,List.drop_take]
  refine S3 _ a w2 h1 h2 ?_ ?_ H2
  .conv=>lhs;rw [<-List.take_append_drop (a - at_) (l.drop at_),List.drop_drop,show at_+(a - at_)=a by omega]
  .rw [qlT,qlD];omega
 have loop:∀(k a:Nat) (w1:World),a+k=l.length->at_<=a->(a - at_)+(if a=at_ then runL (l.drop a) else runD (l.drop a))=runL (l.drop at_)->LH (·=b) w w1 [crE b l a bad] D->
   enthymemeref25_cursor_number.L0 (at0 b) (at_:Int) w1 λr w'=>∃at' bad',(∃n,r=.returned (.i n)/\NumX l at_ bad n at' bad')/\LH (·=b) w w' [crE b l at' bad'] D:=by
  intro k
  induction k with
  |zero=>
   intro a w1 hk h1 hr H1
   rw [qdO (by omega:l.length<=a)] at hr
   refine enthymemeref25_cursor_number.L0_step _ _ _ _ (H1.dr λw2 H2=>⟨_,H2.ld 0 1,_,H2.ld 0 0,sel_false (decide_eq_false (by omega)) (S2 a w2 h1 (by omega) ?_ H2)⟩)
   rw [<-hr]
   split<;>simp [runL,runD]
  |succ k ih=>
   intro a w1 hk h1 hr H1
   have hg:l[a]? =some l[a]:=qgE (by omega)
   have hd:l.drop a=l[a]::l.drop (a+1):=qdG (by omega)
   generalize l[a]=c at hg hd
   rw [hd] at hr
   have hx:(ba l)[Int.toNat (a:Int)]? =some c:=by rw [Int.toNat_natCast];exact (bl_ix (s:=ba l) rfl a).trans hg
   have hc8:=c.toNat_lt
   have go:(if a=at_ then isN c else isD c)=true->∀w2,LH (·=b) w w2 [crE b l a bad] D->enthymemeref25_cursor_number.S1 (at0 b) (at_:Int) w2 λr w'=>∃at' bad',(∃n,r=.returned (.i n)/\NumX l at_ bad n at' bad')/\LH (·=b) w w' [crE b l at' bad'] D:=by
    intro hc w2 H2
    refine ⟨_,H2.ld 0 1,?_⟩
    rw [i64_next _ (by omega)]
    refine H2.st 0 1 rfl λw3 H3=>ih (a+1) w3 (by omega) (by omega) ?_ H3
    rw [if_neg (by omega)]
    by_cases he:a=at_
    .rw [if_pos he] at hr hc
     rw [runL_cons,if_pos hc] at hr
     rw [<-hr]
     omega
    .rw [if_neg he] at hr hc
     rw [runD_cons,if_pos hc] at hr
     omega
   have stop:(if a=at_ then isN c else isD c)=false->∀w2,LH (·=b) w w2 [crE b l a bad] D->enthymemeref25_cursor_number.S2 (at0 b) (at_:Int) w2 λr w'=>∃at' bad',(∃n,r=.returned (.i n)/\NumX l at_ bad n at' bad')/\LH (·=b) w w' [crE b l at' bad'] D:=by
    intro hc w2 H2
    refine S2 a w2 h1 (by omega) ?_ H2
    by_cases he:a=at_
    .rw [if_pos he] at hr hc
     rw [runL_cons,hc] at hr
     simpa using hr
    .rw [if_neg he] at hr hc
     rw [runD_cons,hc] at hr
     simpa using hr
   have dash:isD c=false->∀w2,LH (·=b) w w2 [crE b l a bad] D->∃t48:ByteArray,w2.cell? ((at0 b).add 0)=some (.string t48)/\∃t52:Int,w2.cell? ((at0 b).add 1)=some (.i t52)/\(0:Int)<=t52/\∃t53_b:UInt8,t48[Int.toNat t52]? =some t53_b/\sel (((t53_b.toNat:Nat):Int)==45) (∃t59:Int,w2.cell? ((at0 b).add 1)=some (.i t59)/\sel (t59==(at_:Int)) (enthymemeref25_cursor_number.S1 (at0 b) (at_:Int) w2 λr w'=>∃at' bad',(∃n,r=.returned (.i n)/\NumX l at_ bad n at' bad')/\LH (·=b) w w' [crE b l at' bad'] D) (enthymemeref25_cursor_number.S2 (at0 b) (at_:Int) w2 λr w'=>∃at' bad',(∃n,r=.returned (.i n)/\NumX l at_ bad n at' bad')/\LH (·=b) w w' [crE b l at' bad'] D)) (enthymemeref25_cursor_number.S2 (at0 b) (at_:Int) w2 λr w'=>∃at' bad',(∃n,r=.returned (.i n)/\NumX l at_ bad n at' bad')/\LH (·=b) w w' [crE b l at' bad'] D):=by
    intro hdc w2 H2
    refine ⟨_,H2.ld 0 0,_,H2.ld 0 1,by omega,c,hx,sel_eq (λh=>⟨_,H2.ld 0 1,sel_eq (λh2=>go ?_ w2 H2) (λh2=>stop ?_ w2 H2)⟩) (λh=>stop ?_ w2 H2)⟩
    .have:c=45:=u8_of h
     rw [if_pos (by omega),this];rfl
    .rw [if_neg (by omega)];exact hdc
    .have h45:(c==45)=false:=beq_eq_false_iff_ne.2 λe=>h (by rw [e];rfl)
     split
     .unfold isN;rw [hdc,h45];rfl
     .exact hdc
   have dig:48<=c.toNat->c.toNat<=57->isD c=true:=λh1 h2=>by unfold isD;rw [decide_eq_true h1,decide_eq_true h2];rfl
   have nodig:¬(48<=c.toNat/\c.toNat<=57)->isD c=false:=λh=>Bool.eq_false_iff.2 λh2=>h (isD_le h2)
   refine enthymemeref25_cursor_number.L0_step _ _ _ _ (H1.dr λw2 H2=>⟨_,H2.ld 0 1,_,H2.ld 0 0,sel_true (decide_eq_true (by omega)) ⟨_,H2.ld 0 0,_,H2.ld 0 1,by omega,c,hx,sel_dec (λh3=>⟨_,H2.ld 0 0,_,H2.ld 0 1,by omega,c,hx,sel_dec (λh4=>go ?_ w2 H2) (λh4=>dash (nodig (by omega)) w2 H2)⟩) (λh3=>dash (nodig (by omega)) w2 H2)⟩⟩)
   have hdd:=dig (by omega) (by omega)
   split
   .unfold isN;rw [hdd];rfl
   .exact hdd
 refine enthymemeref25_cursor_number.ok _ w _ ⟨_,H.ld 0 1,loop (l.length - at_) at_ w (by omega) (Nat.le_refl _) ?_ H⟩
 rw [if_pos rfl,Nat.sub_self,Nat.zero_add]
def WordX (l:List UInt8) (at_:Nat) (bad:Bool) (a:List UInt8) (at':Nat) (bad':Bool):Prop:=
 at_<=at'/\at'<=l.length/\bad'=bad/\l.drop at_=a++l.drop at'/\32∉a/\(l.drop at'=[]\/∃t,l.drop at'=32::t)
theorem x_word (hl:l.length<=1000000000) (ha:at_<=l.length) (H:LH (·=b) w w [crE b l at_ bad] D):
  Calls Tryz.prog n_enthymemeref25_cursor_word #[.pointer (some (at0 b))] w λr w'=>∃at' bad',(∃a,r=.returned (.string (ba a))/\WordX l at_ bad a at' bad')/\LH (·=b) w w' [crE b l at' bad'] D:=by
 have hz:=ba_size l
 have stop:∀(a:Nat) (x:List UInt8) (w1:World),at_<=a->a<=l.length->l.drop at_=x++l.drop a->32∉x->(l.drop a=[]\/∃t,l.drop a=32::t)->LH (·=b) w w1 [crE b l a bad] D->
   enthymemeref25_cursor_word.S1 (at0 b) (at_:Int) w1 λr w'=>∃at' bad',(∃a,r=.returned (.string (ba a))/\WordX l at_ bad a at' bad')/\LH (·=b) w w' [crE b l at' bad'] D:=by
  intro a x w1 h1 h2 hx h32 hf H1
  refine H1.dr λw2 H2=>⟨_,H2.ld 0 0,_,H2.ld 0 1,by omega,by omega,by omega,by omega,a,bad,⟨x,?_,h1,h2,rfl,hx,h32,hf⟩,H2⟩
  rw [Int.toNat_natCast,Int.toNat_natCast,bl_ext,bl_ba,List.drop_take,hx]
  have:a - at_=x.length:=by have:=congrArg List.length hx;rw [qlA,qlD,qlD] at this;omega
  rw [this,List.take_left' rfl]
 have loop:∀(k a:Nat) (x:List UInt8) (w1:World),a+k=l.length->at_<=a->l.drop at_=x++l.drop a->32∉x->LH (·=b) w w1 [crE b l a bad] D->
   enthymemeref25_cursor_word.L0 (at0 b) (at_:Int) w1 λr w'=>∃at' bad',(∃a,r=.returned (.string (ba a))/\WordX l at_ bad a at' bad')/\LH (·=b) w w' [crE b l at' bad'] D:=by
  intro k
  induction k with
  |zero=>
   intro a x w1 hk h1 hx h32 H1
   exact enthymemeref25_cursor_word.L0_step _ _ _ _ (H1.dr λw2 H2=>⟨_,H2.ld 0 1,_,H2.ld 0 0,sel_false (decide_eq_false (by omega)) (stop a x w2 h1 (by omega) hx h32 (.inl (qdO (by omega))) H2)⟩)
  |succ k ih=>
   intro a x w1 hk h1 hx h32 H1
   have hg:l[a]? =some l[a]:=qgE (by omega)
   have hd:l.drop a=l[a]::l.drop (a+1):=qdG (by omega)
   generalize l[a]=c at hg hd
   have hxx:(ba l)[Int.toNat (a:Int)]? =some c:=by rw [Int.toNat_natCast];exact (bl_ix (s:=ba l) rfl a).trans hg
   refine enthymemeref25_cursor_word.L0_step _ _ _ _ (H1.dr λw2 H2=>⟨_,H2.ld 0 1,_,H2.ld 0 0,sel_true (decide_eq_true (by omega)) ⟨_,H2.ld 0 0,_,H2.ld 0 1,by omega,c,hxx,sel_ne (λh=>⟨_,H2.ld 0 1,?_⟩) (λh=>stop a x w2 h1 (by omega) hx h32 (.inr ⟨l.drop (a+1),by rw [hd,show c=32 from u8_of h]⟩) H2)⟩⟩)
   rw [i64_next _ (by omega)]
   refine H2.st 0 1 rfl λw3 H3=>ih (a+1) (x++[c]) w3 (by omega) (by omega) ?_ ?_ H3
   .rw [hx,hd,qaA];rfl
   .rw [qmA,not_or]
    exact ⟨h32,λhm=>h (by rw [<-qmS.1 hm];rfl)⟩
 exact enthymemeref25_cursor_word.ok _ w _ ⟨_,H.ld 0 1,loop (l.length - at_) at_ [] w (by omega) (Nat.le_refl _) rfl (by simp) H⟩
end
theorem items_snoc (xs:List Int) (n:Int):itemsB (xs++[n])=if xs=[] then dcI n else itemsB xs++32::dcI n:=by
 induction xs with
 |nil=>rfl
 |cons x xs ih=>
  rw [if_neg (by simp)]
  cases xs with
  |nil=>rfl
  |cons y ys=>
   rw [if_neg (by simp)] at ih
   rw [qcA,qcA,items_cons,<-qcA,ih,items_cons]
   simp
def sepB (xs more:List Int):List UInt8:=if xs=[] then itemsB more else if more=[] then [] else 32::itemsB more
theorem sep_head {xs more:List Int} (h:more≠[]):∀r t,sepB xs more++r≠41::t:=by
 intro r t e
 unfold sepB at e
 rw [if_neg h] at e
 have h41:41∉itemsB more:=items_no rfl (by decide)
 have hne:itemsB more≠[]:=λh'=>h (items_nil.1 h')
 cases hi:itemsB more with
 |nil=>exact hne hi
 |cons c u=>
  rw [hi] at e h41
  split at e
  .injection e with e _
   exact h41 (by rw [e];simp)
  .injection e with e _
   exact absurd e (by decide)
theorem nodig_after {more:List Int} {r:List UInt8}:∀c t,(if more=[] then [] else 32::itemsB more)++41::r=c::t->isD c=false:=by
 intro c t e
 split at e
 .injection e with e _;rw [<-e];rfl
 .injection e with e _;rw [<-e];rfl
theorem items_two (y:Int) (more:List Int):itemsB (y::more)=dcI y++(if more=[] then [] else 32::itemsB more):=by
 cases more with
 |nil=>simp [itemsB]
 |cons z r=>rw [items_cons,if_neg (by simp)]
def ListX (l:List UInt8) (at_:Nat) (bad:Bool) (xs:List Int) (at':Nat) (bad':Bool):Prop:=
 at_<=at'/\at'<=l.length/\(∀x∈xs,I64 x)/\(bad'=false->bad=false/\l.drop at_=listB xs++l.drop at')/\
  (bad=false->∀(ys:List Int) (r:List UInt8),(∀y∈ys,I64 y)->l.drop at_=listB ys++r->xs=ys/\l.drop at'=r/\bad'=false)
section
variable {w:World} {D:List En} {b:Nat} {l:List UInt8} {at_:Nat} {bad:Bool}
theorem x_list (hl:l.length<=1000000000) (ha:at_<=l.length) (H:LH (·=b) w w [crE b l at_ bad] D):
  Calls Tryz.prog n_enthymemeref25_cursor_list #[.pointer (some (at0 b))] w λr w'=>∃at' bad',(∃xs,RetN w xs r w'/\ListX l at_ bad xs at' bad')/\LH (·=b) w w' [crE b l at' bad'] D:=by
 have hz:=ba_size l
 let I:Nat->Bool->List Int->Prop:=λa bd xs=>at_<=a/\a<=l.length/\(∀x∈xs,I64 x)/\(bd=false->bad=false/\l.drop at_=(40::itemsB xs)++l.drop a)/\
  (bad=false->∀(ys:List Int) (r:List UInt8),(∀y∈ys,I64 y)->l.drop at_=listB ys++r->bd=false/\∃more,ys=xs++more/\l.drop a=sepB xs more++41::r)
 have S2:∀(a:Nat) (bd:Bool) (xs:List Int) (out:Sl) (w1:World),I a bd xs->(bd=true\/l.length<=a\/∃t,l.drop a=41::t)->LH (·=b) w w1 [crE b l a bd,.row ty_int 1 out (xs.map intV)] D->
   enthymemeref25_cursor_list.S2 (at0 b) out w1 λr w'=>∃at' bad',(∃xs,RetN w xs r w'/\ListX l at_ bad xs at' bad')/\LH (·=b) w w' [crE b l at' bad'] D:=by
  intro a bd xs out w1 ⟨i1,i2,i3,i4,i5⟩ hx H1
  refine H1.crC 0 rfl (λH=>x_take [41] (by simp) hl i2 H) ?_
  rintro _ w2 a' bd' ⟨rfl,t1,t2,t3,t4⟩ _ H2
  refine ⟨rfl,a',bd',⟨xs,⟨out,rfl,(H2.get 1:OwnRow _ _ _ _ _).rd1,λx hx=>?_⟩,by omega,t2,i3,λhb=>?_,λhb ys r hy e=>?_⟩,H2.take 1⟩
  .rcases H2.new _ (qmG (i:=1) rfl) x hx with h|h
   .exact h
   .subst h
    exact absurd hx (disj_of H2.nd (i:=0) (j:=1) rfl rfl (by omega) x (by simp [En.c,En.ob]))
  .obtain ⟨h1,h2⟩:=t3 hb
   obtain ⟨h3,h4⟩:=i4 h1
   refine ⟨h3,?_⟩
   rw [h4,h2]
   simp [listB]
  .obtain ⟨h1,more,h2,h3⟩:=i5 hb ys r hy e
   have hm:more=[]:=by
    rcases hx with hx|hx|⟨t,hx⟩
    .rw [h1] at hx;cases hx
    .rw [qdO hx] at h3;simp at h3
    .by_cases hm:more=[]
     .exact hm
     .exact absurd (h3.symm.trans hx) (sep_head hm _ _)
   rw [hm,qaN] at h2
   have hs:sepB xs more=[]:=by rw [hm];unfold sepB;split<;>rfl
   rw [hs] at h3
   obtain ⟨h4,h5⟩:=t4 h1 r h3
   exact ⟨h2.symm,h5,h4⟩
 have loop:∀(n a:Nat) (bd:Bool) (xs:List Int) (out:Sl) (w1:World),(bd=false->l.length - a<n)->xs.length+n<=l.length+2->I a bd xs->LH (·=b) w w1 [crE b l a bd,.row ty_int 1 out (xs.map intV)] D->
   enthymemeref25_cursor_list.L0 (at0 b) out w1 λr w'=>∃at' bad',(∃xs,RetN w xs r w'/\ListX l at_ bad xs at' bad')/\LH (·=b) w w' [crE b l at' bad'] D:=by
  intro n
  induction n with
  |zero=>
   intro a bd xs out w1 hn hx hI H1
   have hb:bd=true:=by
    cases bd with
    |true=>rfl
    |false=>exact absurd (hn rfl) (by omega)
   subst hb
   exact enthymemeref25_cursor_list.L0_step _ _ _ _ (H1.dr λw2 H2=>⟨true,H2.ld 0 2,sel_false rfl (S2 a true xs out w2 hI (.inl rfl) H2)⟩)
  |succ n ih=>
   intro a bd xs out w1 hn hx hI H1
   refine enthymemeref25_cursor_list.L0_step _ _ _ _ (H1.dr λw2 H2=>⟨bd,H2.ld 0 2,sel_not (λhb=>?_) (λhb=>S2 a bd xs out w2 hI (.inl hb) H2)⟩)
   subst hb
   have hI':=hI
   obtain ⟨i1,i2,i3,i4,i5⟩:=hI'
   refine ⟨_,H2.ld 0 1,_,H2.ld 0 0,?_⟩
   rw [hz]
   refine sel_dec (λhlt=>?_) (λhlt=>S2 a false xs out w2 hI (.inr (.inl (by omega))) H2)
   have hg:l[a]? =some l[a]:=qgE (by omega)
   have hd:l.drop a=l[a]::l.drop (a+1):=qdG (by omega)
   generalize l[a]=c at hg hd
   refine ⟨_,H2.ld 0 0,_,H2.ld 0 1,by omega,c,by rw [Int.toNat_natCast];exact (bl_ix (s:=ba l) rfl a).trans hg,sel_ne (λh41=>?_) (λh41=>S2 a false xs out w2 hI (.inr (.inr ⟨l.drop (a+1),by rw [hd,show c=41 from u8_of h41]⟩)) H2)⟩
   have hc41:c≠41:=λe=>h41 (by rw [e];rfl)
   have hxn:out.n=xs.length:=by have:=(H2.get 1:OwnRow _ _ _ _ _).len;simpa using this.symm
   have S1:∀(a1:Nat) (b1:Bool) (w3:World),a<=a1->a1<=l.length->(b1=false->l.drop a=(if xs=[] then [] else [32])++l.drop a1)->
     (bad=false->∀(ys:List Int) (r:List UInt8),(∀y∈ys,I64 y)->l.drop at_=listB ys++r->b1=false/\∃y more,ys=xs++y::more/\l.drop a1=dcI y++((if more=[] then [] else 32::itemsB more)++41::r))->
     LH (·=b) w w3 [crE b l a1 b1,.row ty_int 1 out (xs.map intV)] D->enthymemeref25_cursor_list.S1 (at0 b) out w3 λr w'=>∃at' bad',(∃xs,RetN w xs r w'/\ListX l at_ bad xs at' bad')/\LH (·=b) w w' [crE b l at' bad'] D:=by
    intro a1 b1 w3 h1 h2 hB hF H3
    refine H3.crC 0 rfl (λH=>x_number hl h2 H) ?_
    rintro _ w4 a2 b2 ⟨y,rfl,n1,n2,n3,n4,n5⟩ _ H4
    refine ⟨_,rfl,H4.ap1 1 el_ints rfl (λout' w5 H5 _ _=>?_) (by omega)⟩
    have em:(xs.map intV)++#[Value.i y].toList=(xs++[y]).map intV:=by rw [List.map_append];rfl
    rw [em] at H5
    refine ih a2 b2 (xs++[y]) out' w5 (λhb2=>?_) (by simp;omega) ⟨by omega,n2,λx hx=>?_,λhb2=>?_,λhbad ys r hy e=>?_⟩ H5
    .obtain ⟨_,h4⟩:=n4 hb2
     have h5:=congrArg List.length h4
     have h6:0<(dcI y).length:=qlP.2 (dcI_ne y)
     rw [qlA,qlD,qlD] at h5
     have:=hn rfl
     omega
    .rcases qmA.1 hx with h|h
     .exact i3 x h
     .rw [qmS.1 h];exact n3
    .obtain ⟨h3,h4⟩:=n4 hb2
     obtain ⟨h5,h6⟩:=i4 rfl
     refine ⟨h5,?_⟩
     rw [h6,hB h3,h4,items_snoc]
     by_cases hx0:xs=[]
     .rw [if_pos hx0,if_pos hx0,hx0];simp [itemsB]
     .rw [if_neg hx0,if_neg hx0];simp
    .obtain ⟨h3,z,more,h4,h5⟩:=hF hbad ys r hy e
     have hz:I64 z:=hy z (by rw [h4];simp)
     obtain ⟨h6,h7,h8⟩:=n5 h3 z _ hz h5 nodig_after
     refine ⟨h8,more,by rw [h4,h6];simp,?_⟩
     rw [h7]
     unfold sepB
     rw [if_neg (by simp:¬xs++[y]=[])]
   have fmore:bad=false->∀(ys:List Int) (r:List UInt8),(∀y∈ys,I64 y)->l.drop at_=listB ys++r->∃y more,ys=xs++y::more/\l.drop a=sepB xs (y::more)++41::r:=λhbad ys r hy e=>by
    obtain ⟨_,more,h2,h3⟩:=i5 hbad ys r hy e
    cases more with
    |nil=>
     exfalso
     have hs:sepB xs []=[]:=by unfold sepB;split<;>rfl
     rw [hs,hd] at h3
     injection h3 with h3 _
     exact hc41 h3
    |cons y more=>exact ⟨y,more,h2,h3⟩
   by_cases hx0:xs=[]
   .refine sel_false (decide_eq_false (by rw [hxn,hx0];simp)) (S1 a false w2 (Nat.le_refl _) i2 (λ_=>by rw [if_pos hx0];rfl) (λhbad ys r hy e=>⟨rfl,?_⟩) H2)
    obtain ⟨y,more,h2,h3⟩:=fmore hbad ys r hy e
    refine ⟨y,more,h2,?_⟩
    unfold sepB at h3
    rw [if_pos hx0,items_two,qaA] at h3
    exact h3
   .refine sel_true (decide_eq_true (by rw [hxn];have:=qlP.2 hx0;omega)) (H2.crC 0 rfl (λH=>x_take [32] (by simp) hl i2 H) ?_)
    rintro _ w3 a1 b1 ⟨rfl,t1,t2,t3,t4⟩ _ H3
    refine ⟨rfl,S1 a1 b1 w3 t1 t2 (λhb1=>by rw [if_neg hx0];exact (t3 hb1).2) (λhbad ys r hy e=>?_) H3⟩
    obtain ⟨y,more,h2,h3⟩:=fmore hbad ys r hy e
    unfold sepB at h3
    rw [if_neg hx0,if_neg (by simp)] at h3
    obtain ⟨h4,h5⟩:=t4 rfl (itemsB (y::more)++41::r) h3
    refine ⟨h4,y,more,h2,?_⟩
    rw [h5,items_two,qaA]
 refine enthymemeref25_cursor_list.ok _ w _ (H.crC 0 rfl (λH=>x_take [40] (by simp) hl ha H) ?_)
 rintro _ w1 a bd ⟨rfl,t1,t2,t3,t4⟩ _ H1
 refine ⟨rfl,loop (l.length+1) a bd [] ⟨none,0,0⟩ w1 (λ_=>by omega) (by simp only [qlN];omega) ⟨t1,t2,by simp,λhb=>?_,λhb ys r hy e=>?_⟩ (H1.nilrow ty_int 1)⟩
 .obtain ⟨h1,h2⟩:=t3 hb
  exact ⟨h1,h2⟩
 .obtain ⟨h1,h2⟩:=t4 hb (itemsB ys++41::r) (by rw [e];simp [listB])
  exact ⟨h1,ys,rfl,h2⟩
end
structure ReadX (l a1 a4:List UInt8) (n ru:Int) (ps hs ls:List Int) (at':Nat) (bad:Bool):Prop where
 r:∃p1 b1 p2 b2 p3 b3 p4 b4 p5 b5 p6 b6 p7 b7 p8 b8 p9 b9 p10 b10 p11 b11 p12 b12,WordX l 0 false a1 p1 b1/\TakeP l p1 b1 [32] p2 b2/\NumX l p2 b2 n p3 b3/\TakeP l p3 b3 [32] p4 b4/\NumX l p4 b4 ru p5 b5/\TakeP l p5 b5 [32] p6 b6/\
  WordX l p6 b6 a4 p7 b7/\TakeP l p7 b7 [32] p8 b8/\ListX l p8 b8 ps p9 b9/\TakeP l p9 b9 [32] p10 b10/\ListX l p10 b10 hs p11 b11/\TakeP l p11 b11 [32] p12 b12/\ListX l p12 b12 ls at' bad
theorem wordx_fwd {l:List UInt8} {p:Nat} {bad:Bool} {x:List UInt8} {p':Nat} {bad':Bool} (h:WordX l p bad x p' bad') {a r:List UInt8} (e:l.drop p=a++32::r) (ha:32∉a):x=a/\l.drop p'=32::r/\bad'=bad:=by
 obtain ⟨_,_,h3,h4,h5,h6⟩:=h
 rcases h6 with h6|⟨t,h6⟩
 .rw [h6,qaN] at h4
  rw [h4] at e
  exact absurd (by rw [e];simp) h5
 .rw [h6] at h4
  obtain ⟨e1,e2⟩:=cut_uni h5 ha (h4.symm.trans e)
  exact ⟨e1,by rw [h6,e2],h3⟩
theorem nd32 {r:List UInt8}:∀c t,32::r=c::t->isD c=false:=λc t e=>by injection e with e _;rw [<-e];rfl
theorem ReadX.fwd {l a1 a4:List UInt8} {n ru:Int} {ps hs ls:List Int} {at':Nat} {bad:Bool} (h:ReadX l a1 a4 n ru ps hs ls at' bad) {s:Stp} (hs':StpOk s) (e:l=lineB s):
  a1=wordK s.kind/\n=s.node/\ru=s.rule/\a4=nmB s/\ps=s.params/\hs=s.hints/\ls=s.lits/\bad=false/\at'=l.length:=by
 obtain ⟨p1,b1,p2,b2,p3,b3,p4,b4,p5,b5,p6,b6,p7,b7,p8,b8,p9,b9,p10,b10,p11,b11,p12,b12,h1,h2,h3,h4,h5,h6,h7,h8,h9,h10,h11,h12,h13⟩:=h.r
 have e0:l.drop 0=wordK s.kind++32::(dcI s.node++32::(dcI s.rule++32::(nmB s++32::(listB s.params++32::(listB s.hints++32::listB s.lits))))):=e
 obtain ⟨rfl,e1,rfl⟩:=wordx_fwd h1 e0 (word_no _)
 obtain ⟨rfl,e2⟩:=h2.2.2.2 rfl _ e1
 obtain ⟨rfl,e3,rfl⟩:=h3.2.2.2.2 rfl _ _ hs'.node e2 nd32
 obtain ⟨rfl,e4⟩:=h4.2.2.2 rfl _ e3
 obtain ⟨rfl,e5,rfl⟩:=h5.2.2.2.2 rfl _ _ hs'.rule e4 nd32
 obtain ⟨rfl,e6⟩:=h6.2.2.2 rfl _ e5
 obtain ⟨rfl,e7,rfl⟩:=wordx_fwd h7 e6 (nm_of hs').2.1
 obtain ⟨rfl,e8⟩:=h8.2.2.2 rfl _ e7
 obtain ⟨rfl,e9,rfl⟩:=h9.2.2.2.2 rfl _ _ hs'.params e8
 obtain ⟨rfl,e10⟩:=h10.2.2.2 rfl _ e9
 obtain ⟨rfl,e11,rfl⟩:=h11.2.2.2.2 rfl _ _ hs'.hints e10
 obtain ⟨rfl,e12⟩:=h12.2.2.2 rfl _ e11
 obtain ⟨rfl,e13,rfl⟩:=h13.2.2.2.2 rfl s.lits [] hs'.lits (by rw [qaN];exact e12)
 have:=congrArg List.length e13
 rw [qlD] at this
 have h2:=h13.2.1
 exact ⟨rfl,rfl,rfl,rfl,rfl,rfl,rfl,rfl,by simp at this;omega⟩
theorem ReadX.back {l a1 a4:List UInt8} {n ru:Int} {ps hs ls:List Int} (h:ReadX l a1 a4 n ru ps hs ls l.length false):
  l=a1++32::(dcI n++32::(dcI ru++32::(a4++32::(listB ps++32::(listB hs++32::listB ls)))))/\I64 n/\I64 ru/\32∉a4/\(∀x∈ps,I64 x)/\(∀x∈hs,I64 x)/\(∀x∈ls,I64 x):=by
 obtain ⟨p1,b1,p2,b2,p3,b3,p4,b4,p5,b5,p6,b6,p7,b7,p8,b8,p9,b9,p10,b10,p11,b11,p12,b12,h1,h2,h3,h4,h5,h6,h7,h8,h9,h10,h11,h12,h13⟩:=h.r
 obtain ⟨rfl,e13⟩:=h13.2.2.2.1 rfl
 obtain ⟨rfl,e12⟩:=h12.2.2.1 rfl
 obtain ⟨rfl,e11⟩:=h11.2.2.2.1 rfl
 obtain ⟨rfl,e10⟩:=h10.2.2.1 rfl
 obtain ⟨rfl,e9⟩:=h9.2.2.2.1 rfl
 obtain ⟨e8',e8⟩:=h8.2.2.1 rfl
 subst e8'
 have e7':=h7.2.2.1
 have e7:=h7.2.2.2.1
 obtain ⟨rfl,e6⟩:=h6.2.2.1 e7'.symm
 obtain ⟨rfl,e5⟩:=h5.2.2.2.1 rfl
 obtain ⟨rfl,e4⟩:=h4.2.2.1 rfl
 obtain ⟨rfl,e3⟩:=h3.2.2.2.1 rfl
 obtain ⟨rfl,e2⟩:=h2.2.2.1 rfl
 have e1:=h1.2.2.2.1
 rw [List.drop_zero] at e1
 rw [List.drop_length,qaN] at e13
 refine ⟨?_,h3.2.2.1,h5.2.2.1,h7.2.2.2.2.1,h9.2.2.1,h11.2.2.1,h13.2.2.1⟩
 conv=>lhs;rw [e1,e2,e3,e4,e5,e6,e7,e8,e9,e10,e11,e12,e13]
 simp
theorem readx_no {l a1 a4:List UInt8} {n ru:Int} {ps hs ls:List Int} {at':Nat} {bad:Bool} (h:ReadX l a1 a4 n ru ps hs ls at' bad) (hb:bad=true\/at'≠l.length\/kindTo 6 a1<0\/a4=[]\/∃t,a4=40::t):NoLine l:=by
 intro s hs' e
 obtain ⟨rfl,_,_,rfl,_,_,_,h1,h2⟩:=h.fwd hs' e
 rw [kind_word _ hs'.kind.1 hs'.kind.2] at hb
 rcases hb with hb|hb|hb|hb|⟨t,hb⟩
 .rw [h1] at hb;cases hb
 .exact hb h2
 .have:=hs'.kind.1;omega
 .exact (nm_of hs').2.2.1 hb
 .exact (nm_of hs').2.2.2 t hb
theorem readx_yes {l a1 a4:List UInt8} {n ru:Int} {ps hs ls:List Int} (h:ReadX l a1 a4 n ru ps hs ls l.length false) (hk:0<=kindTo 6 a1) (h0:a4≠[]) (h40:∀t,a4≠40::t):
  StpOk ⟨kindTo 6 a1,n,ru,ps,nmOf a4,ls,hs⟩/\l=lineB ⟨kindTo 6 a1,n,ru,ps,nmOf a4,ls,hs⟩:=by
 obtain ⟨e,hn,hr,h32,hp,hh,hl⟩:=h.back
 obtain ⟨k1,k2⟩:=kind_of 6 a1 (by omega) hk
 refine ⟨stp_ok ⟨hk,by omega⟩ hn hr hp hl hh h32 h40,?_⟩
 unfold lineB
 rw [nmB_of h0]
 show l=wordK (kindTo 6 a1)++32::(dcI n++32::(dcI ru++32::(a4++32::(listB ps++32::(listB hs++32::listB ls)))))
 rw [<-k1,<-e]
theorem c_words (w:World):Calls Tryz.prog n_enthymemeref25_words #[] w λr w'=>(∃t:Sl,r=.returned t.v/\OwnRow w' ty_string 1 t (wordKL.map strV))/\Fr0 w w':=
 enthymemeref25_words.ok w _ ((lh0 (w:=w) [] (by simp)).nwrow (n:=6) (sz:=1) (cs:=wordKL.map strV) rfl (by decide) λw1 H1=>⟨⟨_,rfl,H1.get 0⟩,H1.fr⟩)
theorem wK_get:∀i<6,wordKL[i]? =some (wordKL.getD i []):=by decide
theorem c_Read0 {line:List UInt8} (hl:line.length<=1000000000) (w:World):Calls Tryz.prog n_enthymemeref25_Read #[.string (ba line)] w λr w'=>StepP w line r w'/\Fr0 w w':=by
 have hz:=ba_size line
 refine enthymemeref25_Read.okT _ w _ ((lh0 (w:=w) [] (by simp)).newg λb2 w1 H1=>H1.nw λw2 _ H2=>H2.newg λb5 w3 H3=>H3.locg λw10 H4=>H4.crF (l:=line) (at_:=0) (bad:=false) 1 rfl (λH=>x_word hl (by omega) H) ?_)
 rintro _ w11 p1 b1 ⟨a1,rfl,r1⟩ H5 _
 refine ⟨_,rfl,?_⟩
 have loop:∀(k i:Nat) (w':World),i+k=6->LH F0 w w' [.g b2,crE w1.heap.size line p1 b1,.g b5] []->enthymemeref25_Read.L0T (ba line) b2 0 0 0 ⟨none,0,0⟩ (ByteArray.mk #[]) ⟨none,0,0⟩ ⟨none,0,0⟩ (at0 w1.heap.size) b5 (kindTo i a1) 0 0 ⟨none,0,0⟩ (ByteArray.mk #[]) ⟨none,0,0⟩ ⟨none,0,0⟩ (ba a1) (i:Int) w' λr w'=>StepP w line r w'/\Fr0 w w':=by
  intro k
  induction k with
  |zero=>
   intro i w' hi H6
   obtain rfl:i=6:=by omega
   refine enthymemeref25_Read.L0T_step _ _ _ _ _ _ _ _ _ _ _ _ _ _ _ _ _ _ _ _ _ _ (sel_false rfl (H6.crF 1 rfl (λH=>x_take [32] (by simp) hl r1.2.1 H) ?_))
   rintro _ w14 p2 b2' ⟨rfl,r2⟩ H7 _
   refine ⟨rfl,H7.crF 1 rfl (λH=>x_number hl r2.2.1 H) ?_⟩
   rintro _ w15 p3 b3 ⟨n,rfl,r3⟩ H8 _
   refine ⟨_,rfl,H8.locg λw16 H9=>H9.crF 1 rfl (λH=>x_take [32] (by simp) hl r3.2.1 H) ?_⟩
   rintro _ w17 p4 b4 ⟨rfl,r4⟩ H10 _
   refine ⟨rfl,H10.crF 1 rfl (λH=>x_number hl r4.2.1 H) ?_⟩
   rintro _ w18 p5 b5' ⟨ru,rfl,r5⟩ H11 _
   refine ⟨_,rfl,H11.locg λw19 H12=>H12.crF 1 rfl (λH=>x_take [32] (by simp) hl r5.2.1 H) ?_⟩
   rintro _ w20 p6 b6 ⟨rfl,r6⟩ H13 _
   refine ⟨rfl,H13.crF 1 rfl (λH=>x_word hl r6.2.1 H) ?_⟩
   rintro _ w21 p7 b7 ⟨a4,rfl,r7⟩ H14 _
   refine ⟨_,rfl,H14.locg λw22 H15=>H15.crF 1 rfl (λH=>x_take [32] (by simp) hl r7.2.1 H) ?_⟩
   rintro _ w23 p8 b8 ⟨rfl,r8⟩ H16 _
   refine ⟨rfl,H16.crF 1 rfl (λH=>x_list hl r8.2.1 H) ?_⟩
   rintro _ w24 p9 b9 ⟨ps,⟨sp,rfl,q1,q2⟩,r9⟩ H17 N17
   have D17:=N17 (.rd sp (ps.map intV)) q1 (rd_fp q2)
   refine ⟨_,rfl,D17.locg λw25 H18=>H18.crF 1 rfl (λH=>x_take [32] (by simp) hl r9.2.1 H) ?_⟩
   rintro _ w26 p10 b10 ⟨rfl,r10⟩ H19 _
   refine ⟨rfl,H19.crF 1 rfl (λH=>x_list hl r10.2.1 H) ?_⟩
   rintro _ w27 p11 b11 ⟨hs,⟨sh,rfl,u1,u2⟩,r11⟩ H20 N20
   have D20:=N20 (.rd sh (hs.map intV)) u1 (rd_fp u2)
   refine ⟨_,rfl,D20.locg λw28 H21=>H21.crF 1 rfl (λH=>x_take [32] (by simp) hl r11.2.1 H) ?_⟩
   rintro _ w29 p12 b12 ⟨rfl,r12⟩ H22 _
   refine ⟨rfl,H22.crF 1 rfl (λH=>x_list hl r12.2.1 H) ?_⟩
   rintro _ w30 p13 b13 ⟨ls,⟨sl,rfl,v1,v2⟩,r13⟩ H23 N23
   have D23:=N23 (.rd sl (ls.map intV)) v1 (rd_fp v2)
   have rx:ReadX line a1 a4 n ru ps hs ls p13 b13:=⟨⟨p1,b1,p2,b2',p3,b3,p4,b4,p5,b5',p6,b6,p7,b7,p8,b8,p9,b9,p10,b10,p11,b11,p12,b12,r1,r2,r3,r4,r5,r6,r7,r8,r9,r10,r11,r12,r13⟩⟩
   refine ⟨_,rfl,D23.locg λw31 H24=>⟨b13,H24.ld 1 2,?_⟩⟩
   have S2:∀fine:Bool,(fine=false->NoLine line)->(fine=true->b13=false/\p13=line.length/\0<=kindTo 6 a1/\a4≠[]/\∀t,a4≠40::t)->enthymemeref25_Read.S2T b2 0 0 0 ⟨none,0,0⟩ (ByteArray.mk #[]) ⟨none,0,0⟩ ⟨none,0,0⟩ b5 (kindTo 6 a1) n ru sp (ba a4) sl sh fine w31 λr w'=>StepP w line r w'/\Fr0 w w':=by
    intro fine hno hyes
    have fin:∀nm,nm=nmOf a4->∀{L:List En} (w32:World),LH F0 w w32 L ([]++[.rd sp (ps.map intV)]++[.rd sh (hs.map intV)]++[.rd sl (ls.map intV)])->StepP w line (.returned (.tuple #[.agg #[.i (kindTo 6 a1),.i n,.i ru,sp.v,.string nm,sl.v,sh.v],.bool fine])) w32:=by
     rintro _ rfl L w32 H25
     cases fine with
     |false=>exact .inl ⟨⟨⟨kindTo 6 a1,n,ru,ps,nmOf a4,ls,hs⟩,sp,sl,sh⟩,hno rfl,rfl⟩
     |true=>
      obtain ⟨h1,h2,h3,h4,h5⟩:=hyes rfl
      rw [h1,h2] at rx
      obtain ⟨y1,y2⟩:=readx_yes rx h3 h4 h5
      refine .inr ⟨⟨⟨kindTo 6 a1,n,ru,ps,nmOf a4,ls,hs⟩,sp,sl,sh⟩,y1,y2,rfl,λe he=>?_⟩
      simp only [qmC,qnM,or_false] at he
      rcases he with rfl|rfl|rfl
      .exact ⟨H25.getD 0,rd_fp λb hb=>Nat.le_trans H16.fr.size (q2 b hb)⟩
      .exact ⟨H25.getD 1,rd_fp λb hb=>Nat.le_trans H19.fr.size (u2 b hb)⟩
      .exact ⟨H25.getD 2,rd_fp λb hb=>Nat.le_trans H22.fr.size (v2 b hb)⟩
    refine sel_tx (λh45=>H24.locg λw32 H25=>H25.locg λw33 H26=>⟨fin _ ?_ w33 H26,H26.fr⟩) (λh45=>H24.locg λw32 H25=>⟨fin _ ?_ w32 H25,H25.fr⟩)
    .have h45:a4=[45]:=ba_inj' h45
     unfold nmOf;rw [if_pos h45];rfl
    .unfold nmOf;rw [if_neg (λe=>h45 (by rw [e];rfl))]
   refine sel_not (λhb=>⟨_,H24.ld 1 1,?_⟩) (λhb=>S2 false (λ_=>readx_no rx (.inl hb)) (λh=>by cases h))
   rw [hz]
   refine sel_eq (λhp=>sel_dec (λhk=>?_) (λhk=>S2 false (λ_=>readx_no rx (.inr (.inr (.inl (by omega))))) (λh=>by cases h))) (λhp=>S2 false (λ_=>readx_no rx (.inr (.inl (by omega)))) (λh=>by cases h))
   rw [tx_eq]
   refine sel_not (λh0=>?_) (λh0=>S2 false (λ_=>readx_no rx (.inr (.inr (.inr (.inl (ba_inj' (of_decide_eq_true h0))))))) (λh=>by cases h))
   have h0:a4≠[]:=λe=>of_decide_eq_false h0 (by rw [e];rfl)
   obtain ⟨c,t,hct⟩:=u8_head h0
   refine ⟨by omega,c,bl_ix (s:=ba a4) (l:=c::t) (by rw [bl_ba,hct]) 0,S2 _ (λh=>?_) (λh=>⟨hb,by omega,by omega,h0,λt' e=>?_⟩)⟩
   .refine readx_no rx (.inr (.inr (.inr (.inr ⟨t,?_⟩))))
    have h:=bne_eq_false_iff_eq.1 h
    rw [hct,show c=40 from u8_of h]
   .rw [hct] at e
    injection e with e _
    subst e
    exact absurd h (by decide)
  |succ k ih=>
   intro i w' hi H6
   refine enthymemeref25_Read.L0T_step _ _ _ _ _ _ _ _ _ _ _ _ _ _ _ _ _ _ _ _ _ _ (sel_true (decide_eq_true (by omega)) (H6.callg (c_words w') ?_))
   rintro _ w12 ⟨t,rfl,ho⟩ H7
   have hi1:kindTo (i+1) a1=if wordKL.getD i []=a1 then (i:Int) else kindTo i a1:=rfl
   refine ⟨_,rfl,str_row ho (wK_get i (by omega)) λp hp=>⟨_,hp,sel_tx (λh=>H7.locg λw13 H8=>?_) (λh=>?_)⟩⟩
   .rw [if_pos (ba_inj' h)] at hi1
    show enthymemeref25_Read.L0T _ _ _ _ _ _ _ _ _ _ _ _ _ _ _ _ _ _ _ (IntKind.wrap .i64 _) _ _
    rw [i64_next _ (by omega)]
    have:=ih (i+1) w13 (by omega) H8
    rw [hi1] at this
    exact this
   .rw [if_neg (ba_ne h)] at hi1
    show enthymemeref25_Read.L0T _ _ _ _ _ _ _ _ _ _ _ _ _ _ _ _ _ _ _ (IntKind.wrap .i64 _) _ _
    rw [i64_next _ (by omega)]
    have:=ih (i+1) w12 (by omega) H7
    rw [hi1] at this
    exact this
 exact loop 6 0 w11 rfl H5
theorem c_Read {line:List UInt8} (hl:line.length<=1000000000) {M:Nat->Prop} {w0 w:World} {L D:List En} (H:LH M w0 w L D) {bs:List Nat} {K:Post}
  (hno:∀(d:Sp) w',NoLine line->LH M w0 w' L D->K (.returned (.tuple #[d.v,.bool false])) w')
  (hyes:∀(d:Sp) w',StpOk d.x->line=lineB d.x->LH M w0 w' L (D++[d.pE]++[d.hE]++[d.lE])->(∀e∈[d.pE,d.hE,d.lE],∀b∈e.fp,w.heap.size<=b)->K (.returned (.tuple #[d.v,.bool true])) w'):
  callF bs Tryz.prog n_enthymemeref25_Read #[.string (ba line)] w K:=by
 refine callF0 ((c_Read0 hl w).mono ?_)
 rintro r w' ⟨⟨v,hn,rfl⟩|⟨d,h1,h2,rfl,h3⟩,f⟩
 .exact ⟨f,hno v w' hn (H.fr0 f)⟩
 .obtain ⟨p1,p2⟩:=h3 d.pE (by simp)
  obtain ⟨q1,q2⟩:=h3 d.hE (by simp)
  obtain ⟨s1,s2⟩:=h3 d.lE (by simp)
  exact ⟨f,hyes d w' h1 h2 ((((H.fr0 f).newD' H.own_lt _ p1 p2).newD' H.own_lt _ q1 q2).newD' H.own_lt _ s1 s2) λe he=>(h3 e he).2⟩
theorem cq_loop {t:List UInt8} (htl:t.length<=16777216) {b2 b5:Nat} {w0:World}:∀(n:Nat) (rest:List UInt8) (ds:List Sp) (s:Sl) (w:World),rest.length=n->t=(xsp ds).flatMap lineN++rest->(∀x∈xsp ds,StpOk x/\10∉lineB x)->(∀b∈(slE ds).fp,w0.heap.size<=b)->(∀d∈ds,SpL d)->
  ds.length+rest.length<=t.length->LH F0 w0 w [.g b2,.g b5,.row ty_api_Step 7 s (ds.flatMap Sp.c)] [slE ds]->enthymemeref25_Parse.L0T (ba t) b2 ⟨none,0,0⟩ ⟨none,0,0⟩ b5 ⟨none,0,0⟩ s ((t.length - rest.length:Nat):Int) w (ParseR w0 t):=by
 have hz:=ba_size t
 intro n
 induction n using Nat.strongRecOn with
 |_ n ih=>
  intro rest ds s w hr ht hok hf hsl hdl H
  have hl:t.length=((xsp ds).flatMap lineN).length+rest.length:=by conv=>lhs;rw [ht,qlA]
  generalize hA:(xsp ds).flatMap lineN=A at *
  have hat:t.length - rest.length=A.length:=by omega
  rw [hat]
  refine enthymemeref25_Parse.L0T_step _ _ _ _ _ _ _ _ _ _ (sel_dec (λh=>?_) (λh=>?_))
  .have hne:rest≠[]:=λe=>by rw [e] at hl;simp at hl;omega
   have stop:∀{bs:List Nat} {L D:List En} {w':World},Stuck rest->LH F0 w0 w' L D->(∀b∈bs,En.g b∈L)->En.g b2∈L->loc bs w' λw9=>enthymemeref25_Parse.S3T b2 ⟨none,0,0⟩ ⟨none,0,0⟩ (A.length:Int) w9 (ParseR w0 t):=λhst H' h1 h2=>
    H'.locg (λw1 H1=>H1.locg (λw'' H''=>⟨xsp ds,rest,⟨by rw [hA];exact ht,hok,.inr ⟨hne,hst⟩⟩,H''.fr,.inl ⟨hne,by rw [hat]⟩⟩) (by simp [h2])) h1
   have S2:∀(a b:List UInt8),rest=a++b->10∉a->(b=[]\/∃r,b=10::r)->enthymemeref25_Parse.S2T (ba t) b2 ⟨none,0,0⟩ ⟨none,0,0⟩ b5 ⟨none,0,0⟩ s (A.length:Int) ((A.length+a.length:Nat):Int) w (ParseR w0 t):=by
    intro a b e ha hb
    have hrl:rest.length=a.length+b.length:=by rw [e];simp
    have ht2:t=A++(a++b):=by rw [ht,e]
    refine ⟨by omega,by omega,by omega,by omega,?_⟩
    have e2:(ba t).extract A.length (A.length+a.length)=ba a:=by rw [ht2];exact ext_mid rfl rfl
    rw [Int.toNat_natCast,Int.toNat_natCast,e2]
    refine c_Read (by omega) H (λd w1 hn H1=>?_) (λd w1 hd1 hd2 H1 hfr=>?_)
    .refine ⟨_,_,_,_,_,_,_,_,rfl,H1.newg λb8 w2 H2=>sel_true rfl (stop ?_ H2 (by simp) (by simp))⟩
     rcases hb with hb|⟨r,hb⟩
     .rw [hb,qaN] at e
      exact .inl (by rw [e];exact ha)
     .exact .inr ⟨a,r,by rw [e,hb],ha,hn⟩
    .refine ⟨_,_,_,_,_,_,_,_,rfl,H1.newg λb8 w2 H2=>sel_false rfl ?_⟩
     refine sel_eq (λhe=>stop (.inl ?_) H2 (by simp) (by simp)) (λhe=>H2.locg λw9 H9=>?_)
     .have hb0:b=[]:=qeN (by omega)
      rw [hb0,qaN] at e
      rw [e];exact ha
     .obtain ⟨r,hb⟩:∃r,b=10::r:=hb.resolve_left λhb=>by rw [hb] at hrl;simp at hrl;omega
      have hrl2:b.length=r.length+1:=by rw [hb];rfl
      have w1e:IntKind.wrap .i64 (((A.length+a.length:Nat):Int)+1)=((t.length - r.length:Nat):Int):=by rw [i64_next _ (by omega)];omega
      have hn:=(H9.get 2:OwnRow _ _ _ _ _).len
      rw [Sp.cs_len] at hn
      refine H9.nwx λw10 _ H10 hx=>H10.apT 2 el_step (src:=⟨some (at0 w9.heap.size),1,1⟩) (news:=d.c) rfl (row_n (cs:=d.c) hx rfl) (λu hu=>Sp.one (l:=[d]) u (by simpa using hu)) (by show (s.n+1) *112<=_;omega) λs' w11 H11=>H11.locg λw12 H12=>?_
      rw [w1e]
      have hsp:∀q∈(slE (ds++[d])).fp,q∈(slE ds).fp\/w.heap.size<=q:=λq hq=>by
       obtain ⟨x,hx,hqx⟩:=all_fp.1 hq
       simp only [spL,qfA,qmA,qfC,List.flatMap_nil,qaN] at hx
       rcases hx with hx|hx
       .exact .inl (all_fp.2 ⟨x,hx,hqx⟩)
       .exact .inr (hfr x hx q hqx)
      have hll:=line_len d.x
      rw [<-hd2] at hll
      have hx:xsp (ds++[d])=xsp ds++[d.x]:=by simp
      refine ih r.length (by omega) r (ds++[d]) s' w12 rfl ?_ ?_ ?_ ?_ ?_ ?_
      .rw [hx,qfA,hA,ht2,hb]
       simp [lineN,<-hd2]
      .intro x hx'
       rw [hx] at hx'
       rcases qmA.1 hx' with h|h
       .exact hok x h
       .rw [qmS.1 h,<-hd2];exact ⟨hd1,ha⟩
      .intro q hq
       rcases hsp q hq with h|h
       .exact hf q h
       .exact Nat.le_trans H.fr.size h
      .intro d' hd'
       rcases qmA.1 hd' with h|h
       .exact hsl d' h
       .rw [qmS.1 h]
        exact ⟨by omega,by omega,by omega⟩
      .simp;omega
      .have e:(ds++[d]).flatMap Sp.c=ds.flatMap Sp.c++d.c:=by simp
       rw [e]
       exact sl_more 0 (D:=[slE ds]) (H12.take 3) rfl
   have loop:∀(k:Nat) (a b:List UInt8),b.length=k->rest=a++b->10∉a->enthymemeref25_Parse.L1T (ba t) b2 ⟨none,0,0⟩ ⟨none,0,0⟩ b5 ⟨none,0,0⟩ s (A.length:Int) ((A.length+a.length:Nat):Int) w (ParseR w0 t):=by
    intro k
    induction k with
    |zero=>
     intro a b hb e ha
     have hb:b=[]:=qeN hb
     have hrl:rest.length=a.length:=by rw [e,hb];simp
     exact enthymemeref25_Parse.L1T_step _ _ _ _ _ _ _ _ _ _ _ (sel_false (decide_eq_false (by omega)) (S2 a b e ha (.inl hb)))
    |succ k ih2=>
     intro a b hb e ha
     obtain ⟨c,r,rfl⟩:∃c r,b=c::r:=u8_head λh=>by rw [h] at hb;cases hb
     have hrl:rest.length=a.length+(r.length+1):=by rw [e];simp
     have hx:(ba t)[Int.toNat ((A.length+a.length:Nat):Int)]? =some c:=by
      rw [Int.toNat_natCast,bl_ix (s:=ba t) rfl]
      show t[A.length+a.length]? =some c
      rw [ht,e,List.getElem?_append_right (by omega),List.getElem?_append_right (by omega)]
      simp
     refine enthymemeref25_Parse.L1T_step _ _ _ _ _ _ _ _ _ _ _ (sel_true (decide_eq_true (by omega)) ⟨by omega,c,hx,sel_ne (λh10=>?_) (λh10=>S2 a (c::r) e ha (.inr ⟨r,by rw [show c=10 from u8_of h10]⟩))⟩)
     rw [i64_next _ (by omega)]
     have:=ih2 (a++[c]) r (by simpa using hb) (by rw [e];simp) (by
      rw [qmA,not_or]
      exact ⟨ha,λhm=>h10 (by rw [<-qmS.1 hm];rfl)⟩)
     rw [show A.length+(a++[c]).length=A.length+a.length+1 by simp;omega] at this
     exact this
   exact loop rest.length [] rest rfl rfl (by simp)
  .have h0:rest=[]:=qeN (by omega)
   subst h0
   have hsp:∀{w':World},LH F0 w0 w' [.g b2,.g b5,.row ty_api_Step 7 s (ds.flatMap Sp.c)] [slE ds]->SPr w' s ds:=λH'=>⟨(H'.get 2:OwnRow _ _ _ _ _).rdn,spL_P.1 (H'.getD 0)⟩
   refine H.callg (c_Valid25 (by omega) hsl (hsp H)) ?_
   rintro _ w1 rfl H1
   have rd:Reads t (xsp ds) []:=⟨by rw [hA];exact ht,hok,.inl rfl⟩
   refine ⟨_,rfl,sel_ne (λh1=>H1.locg λw2 H2=>⟨xsp ds,[],rd,H2.fr,.inr (.inl ⟨rfl,h1,by rw [hz]⟩)⟩) (λh1=>H1.locg λw2 H2=>⟨xsp ds,[],rd,H2.fr,.inr (.inr ⟨rfl,h1,s,ds,rfl,rfl,hsp H2,λq hq=>?_⟩)⟩)⟩
   rcases sp_fp.1 hq with h|h
   .exact (H2.new _ (qmG (i:=2) rfl) q (row_fp h)).resolve_right id
   .exact hf q h
theorem c_Parse25 {t:List UInt8} (htl:t.length<=16777216) (w:World):Calls Tryz.prog n_enthymemeref25_Parse #[.string (ba t)] w (ParseR w t):=by
 refine enthymemeref25_Parse.okT _ w _ ((lh0 (w:=w) [] (by simp)).newg λb2 w1 H1=>H1.newg λb5 w2 H2=>H2.locg λw4 H4=>?_)
 have H7:LH F0 w w4 [.g b2,.g b5,.row ty_api_Step 7 ⟨none,0,0⟩ []] [slE []]:=(H4.nilrow ty_api_Step 7).mapD _ λe he'=>by
  rw [qmS.1 he']
  exact ⟨λ_=>λe he=>by simp [spL] at he,λb hb=>by
    obtain ⟨e,he,_⟩:=all_fp.1 hb
    simp [spL] at he⟩
 have:=cq_loop htl (b2:=b2) (b5:=b5) (w0:=w) t.length t [] ⟨none,0,0⟩ w4 rfl rfl (by simp) (λb hb=>by
  obtain ⟨e,he,_⟩:=all_fp.1 hb
  simp [spL] at he) (by simp) (by simp) H7
 rw [Nat.sub_self] at this
 exact this
theorem dcI_le {n:Int} (h:I64 n):(dcI n).length<=20:=by have:=dcI_len h;omega
theorem items_le:∀l:List Int,(∀x∈l,I64 x)->(itemsB l).length<=21 *l.length
 |[],_=>Nat.le_refl _
 |[n],h=>by have:=dcI_le (h n (by simp));show (dcI n).length<=21;omega
 |n::m::r,h=>by
  have h1:=dcI_le (h n (by simp))
  have h2:=items_le (m::r) λx hx=>h x (by simp at hx ⊢;exact .inr hx)
  rw [items_cons,qlA,qlC]
  simp only [qlC] at h2 ⊢
  omega
theorem list_le {l:List Int} (h:∀x∈l,I64 x):(listB l).length<=21 *l.length+2:=by
 have:=items_le l h
 unfold listB
 simp only [qcA,qlC,qlA,qlN]
 omega
structure LnOk (s:Stp):Prop where
 kind:0<=s.kind/\s.kind<=5
 node:I64 s.node
 rule:I64 s.rule
 params:(∀x∈s.params,I64 x)/\s.params.length<=1000000
 lits:(∀x∈s.lits,I64 x)/\s.lits.length<=1000000
 hints:(∀x∈s.hints,I64 x)/\s.hints.length<=1000000
 nm:s.nm.size<=1000000
theorem nmB_le (s:Stp):(nmB s).length<=s.nm.size+1:=by
 unfold nmB
 split
 .simp
 .rw [bl_len];omega
theorem word_le (k:Int):(wordK k).length<=7:=by
 unfold wordK
 have h:∀i<6,(wordKL.getD i []).length<=7:=by decide
 by_cases hk:k.toNat<6
 .exact h _ hk
 .rw [List.getD_eq_getElem?_getD,List.getElem?_eq_none (by show 6<=_;omega)];simp
theorem c_list25 {w:World} {s:Sl} {l:List Int} (hr:Nums w s l) (hi:∀x∈l,I64 x) (hl:l.length<=1000000):Calls Tryz.prog n_enthymemeref25_list #[s.v] w λr w'=>r=.returned (.string (ba (listB l)))/\Fr0 w w':=by
 have hn:=Nums.len hr
 refine enthymemeref25_list.ok _ w _ ?_
 have loop:∀(k i:Nat) (w':World),i+k=l.length->Fr0 w w'->enthymemeref25_list.L0 s (ba (40::itemsB (l.take i))) (i:Int) w' λr w'=>r=.returned (.string (ba (listB l)))/\Fr0 w w':=by
  intro k
  induction k with
  |zero=>
   intro i w' hk f
   have hle:=items_le (l.take i) λx hx=>hi x (List.mem_of_mem_take hx)
   rw [qlT] at hle
   refine enthymemeref25_list.L0_step _ _ _ _ _ (sel_false (decide_eq_false (by omega)) ⟨?_,?_,f⟩)
   .rw [ba_size,IntKind.max_i64];simp only [qlC];show ¬(((_+1:Nat):Int)>_);omega
   .rw [show ByteArray.mk #[41]=ba [41] from rfl,ba_app,qtOL (by omega)];rfl
  |succ k ih=>
   intro i w' hk f
   have hg:l[i]? =some l[i]:=qgE (by omega)
   generalize l[i]=x at hg
   have hx:=hi x (qmG hg)
   have hle:=items_le (l.take i) λx hx=>hi x (List.mem_of_mem_take hx)
   rw [qlT] at hle
   have ht:l.take (i+1)=l.take i++[x]:=by rw [qtO,hg];rfl
   have S1:∀out:List UInt8,out.length<=30000000->out++dcI x=40::itemsB (l.take (i+1))->enthymemeref25_list.S1 s (ba out) (i:Int) w' λr w'=>r=.returned (.string (ba (listB l)))/\Fr0 w w':=by
    intro out hol he
    refine ⟨by omega,by omega,Nums.cell (hr.fr0 f) hg (by rw [Int.toNat_natCast]) λp _ hc=>⟨x,hc,(c_Decimal hx w').mono ?_⟩⟩
    rintro _ w2 ⟨rfl,f2⟩
    have:=dcI_le hx
    refine ⟨_,rfl,?_,?_⟩
    .rw [ba_size,ba_size,IntKind.max_i64];omega
    .rw [ba_app,he,i64_next _ (by omega)]
     exact ih (i+1) w2 (by omega) (f.tr0 f2)
   refine enthymemeref25_list.L0_step _ _ _ _ _ (sel_true (decide_eq_true (by omega)) (sel_dec (λh0=>⟨?_,?_⟩) (λh0=>S1 _ (by simp only [qlC];omega) ?_)))
   .rw [ba_size,IntKind.max_i64];simp only [qlC];show ¬(((_+1:Nat):Int)>_);omega
   .rw [show ByteArray.mk #[32]=ba [32] from rfl,ba_app]
    refine S1 _ (by simp;omega) ?_
    have hne:l.take i≠[]:=λe=>(List.take_eq_nil_iff.1 e).elim (λh=>by omega) λh=>by rw [h] at hk;simp at hk
    rw [ht,items_snoc,if_neg hne]
    simp
   .have h0:i=0:=by omega
    subst h0
    rw [ht];rfl
 exact loop l.length 0 w (by omega) (Fr.refl _ _)
theorem c_Line {d:Sp} (h:LnOk d.x) {w:World} (hd:SpP w d):Calls Tryz.prog n_enthymemeref25_Line #[d.v] w λr w'=>r=.returned (.string (ba (lineB d.x)))/\Fr0 w w':=by
 have l1:=dcI_le h.node
 have l2:=dcI_le h.rule
 have l3:=list_le h.params.1
 have l4:=list_le h.hints.1
 have l5:=list_le h.lits.1
 have m3:=h.params.2
 have m4:=h.hints.2
 have m5:=h.lits.2
 have m6:=nmB_le d.x
 have m7:=h.nm
 have m8:=word_le d.x.kind
 have e32:ByteArray.mk #[32]=ba [32]:=rfl
 refine enthymemeref25_Line.okT _ _ _ _ _ _ _ w _ ((lh0 (w:=w) [d.pE,d.hE,d.lE] (by
  intro e he
  simp only [qmC,qnM,or_false] at he
  rcases he with rfl|rfl|rfl
  .exact hd.1
  .exact hd.2.2
  .exact hd.2.1)).newg λb w1 H1=>?_)
 have S0:∀nm,nm=ba (nmB d.x)->enthymemeref25_Line.S0T b d.x.kind d.x.node d.x.rule d.p d.x.nm d.l d.h nm w1 λr w'=>r=.returned (.string (ba (lineB d.x)))/\Fr0 w w':=by
  rintro _ rfl
  refine H1.locg λw2 H2=>H2.callg (c_Decimal h.node w2) ?_
  rintro _ w3 rfl H3
  refine ⟨_,rfl,?_⟩
  simp only [e32,ba_app,ba_size]
  refine ⟨?_,H3.callg (c_Decimal h.rule w3) ?_⟩
  .rw [IntKind.max_i64];simp only [qlC,qlN];omega
  rintro _ w4 rfl H4
  refine ⟨_,rfl,?_⟩
  simp only [ba_app,ba_size]
  refine ⟨?_,H4.locg λw5 H5=>H5.callg (c_words w5) ?_⟩
  .rw [IntKind.max_i64];simp only [qlA,qlC,qlN];omega
  rintro _ w6 ⟨t,rfl,ho⟩ H6
  obtain ⟨j,hj⟩:=Int.eq_ofNat_of_zero_le h.kind.1
  have hj6:j<6:=by have:=h.kind.2;omega
  rw [hj]
  refine ⟨_,rfl,str_row ho (wK_get j hj6) λp hp=>⟨_,hp,?_⟩⟩
  have hw:wordKL.getD j []=wordK d.x.kind:=by unfold wordK;rw [hj];rfl
  rw [hw] at hp ⊢
  simp only [e32,ba_app,ba_size]
  have big:∀x:Nat,x<=100000000->¬((x:Int)>IntKind.i64.max):=λx hx=>by rw [IntKind.max_i64];omega
  refine ⟨big _ ?_,big _ ?_,big _ ?_,big _ ?_,big _ ?_,callF0 ((c_list25 (l:=d.x.params) (H6.getD 0) h.params.1 h.params.2).mono ?_)⟩
  case' refine_6=>
   rintro _ w7 ⟨rfl,f7⟩
   have hp7:=cell_fr f7 hp λh=>h
   have H7:=H6.fr0 f7
   refine ⟨f7,_,rfl,hp7,?_⟩
   simp only [ba_app,ba_size]
   refine ⟨big _ ?_,big _ ?_,callF0 ((c_list25 (l:=d.x.hints) (H7.getD 1) h.hints.1 h.hints.2).mono ?_)⟩
  case' refine_6.refine_3=>
   rintro _ w8 ⟨rfl,f8⟩
   have hp8:=cell_fr f8 hp7 λh=>h
   have H8:=H7.fr0 f8
   refine ⟨f8,_,rfl,hp8,?_⟩
   simp only [ba_app,ba_size]
   refine ⟨big _ ?_,big _ ?_,callF0 ((c_list25 (l:=d.x.lits) (H8.getD 2) h.lits.1 h.lits.2).mono ?_)⟩
  case' refine_6.refine_3.refine_3=>
   rintro _ w9 ⟨rfl,f9⟩
   have hp9:=cell_fr f9 hp8 λh=>h
   have H9:=H8.fr0 f9
   refine ⟨f9,_,rfl,hp9,?_⟩
   simp only [ba_app,ba_size]
   refine ⟨big _ ?_,?_,H9.fr⟩
  case' refine_6.refine_3.refine_3.refine_2=>
   unfold lineB
   simp
  all_goals (simp only [qlA,qlC,qlN];omega)
 exact sel_tx (λhn=>S0 _ (by unfold nmB;rw [if_pos (nm_tx.1 hn)];rfl)) (λhn=>S0 _ (by unfold nmB;rw [if_neg (λe=>hn (nm_tx.2 e)),ba_bl]))
theorem line_le {s:Stp} (h:LnOk s):(lineB s).length<=70000000:=by
 have l1:=dcI_le h.node
 have l2:=dcI_le h.rule
 have l3:=list_le h.params.1
 have l4:=list_le h.hints.1
 have l5:=list_le h.lits.1
 have m3:=h.params.2
 have m4:=h.hints.2
 have m5:=h.lits.2
 have m6:=nmB_le s
 have m7:=h.nm
 have m8:=word_le s.kind
 unfold lineB
 simp only [qlA,qlC]
 omega
theorem c_Lines {w:World} {s:Sl} {l:List Sp} (h:SPr w s l) (hs:∀d∈l,LnOk d.x) (hl:l.length<=1000000):
  Calls Tryz.prog n_enthymemeref25_Lines #[.agg #[(⟨none,0,0⟩:Sl).v,s.v]] w λr w'=>(∃t:Sl,r=.returned t.v/\OwnRow w' ty_string 1 t ((l.map λd=>lineB d.x).map strV)/\∀b∈blkL t,w.heap.size<=b)/\Fr0 w w':=by
 have hn:=h.n
 refine enthymemeref25_Lines.okT _ _ w _ ((lh0 (w:=w) [.sp s l] (by
  intro e he
  rw [qmS.1 he]
  exact sp_P.2 h)).newg λb w1 H1=>enthymemeref25_Lines.L0T_step _ _ _ _ _ _ _ (sel_false rfl ?_))
 have loop:∀(k i:Nat) (out:Sl) (w':World),i+k=l.length->LH F0 w w' [.g b,.row ty_string 1 out (((l.take i).map λd=>lineB d.x).map strV)] [.sp s l]->enthymemeref25_Lines.L2T b ⟨none,0,0⟩ s out (i:Int) w' λr w'=>(∃t:Sl,r=.returned t.v/\OwnRow w' ty_string 1 t ((l.map λd=>lineB d.x).map strV)/\∀b∈blkL t,w.heap.size<=b)/\Fr0 w w':=by
  intro k
  induction k with
  |zero=>
   intro i out w' hk H
   refine enthymemeref25_Lines.L2T_step _ _ _ _ _ _ _ (sel_false (decide_eq_false (by omega)) ⟨⟨out,rfl,?_,λx hx=>(H.new _ (qmG (i:=1) rfl) x hx).resolve_right id⟩,H.fr⟩)
   have:=H.get 1
   rw [qtOL (by omega)] at this
   exact this
  |succ k ih=>
   intro i out w' hk H
   have hg:l[i]? =some l[i]:=qgE (by omega)
   generalize l[i]=d at hg
   have hd:=qmG hg
   have h':=sp_P.1 (H.getD 0)
   have hno:=(H.get 1:OwnRow _ _ _ _ _).len
   simp only [List.length_map,qlT] at hno
   refine enthymemeref25_Lines.L2T_step _ _ _ _ _ _ _ (sel_true (decide_eq_true (by omega)) ⟨by omega,by omega,h'.get hg λp hp=>?_⟩)
   rw [Int.toNat_natCast]
   refine ⟨_,_,_,_,_,_,_,hp.c0,hp.c1,hp.c2,hp.c3,hp.c4,hp.c5,hp.c6,H.callg (c_Line (d:=d) (hs d hd) (h'.2 d hd)) ?_⟩
   rintro _ w2 rfl H2
   refine ⟨_,rfl,H2.ap1T 1 el_str rfl (λout' w3 H3=>?_) (by omega)⟩
   rw [i64_next _ (by omega)]
   have em:((l.take i).map λd=>lineB d.x).map strV++#[Value.string (ba (lineB d.x))].toList=((l.take (i+1)).map λd=>lineB d.x).map strV:=by
    rw [qtO,hg];simp [strV]
   rw [em] at H3
   exact ih (i+1) out' w3 (by omega) H3
 exact loop l.length 0 ⟨none,0,0⟩ w1 (by omega) (H1.nilrow ty_string 1)
abbrev textB (ls:List (List UInt8)):List UInt8:=ls.flatMap (·++[10])
theorem c_TextL {w:World} {s:Sl} {ls:List (List UInt8)} (h:Rd w s (ls.map strV)) (hb:∀t∈ls,t.length<=1000000000) (hl:ls.length<=1000000):
  Calls Tryz.prog n_enthymemeref25_Text #[s.v] w λr w'=>r=.returned (.string (ba (textB ls)))/\Fr0 w w':=by
 have hn:=h.1
 simp only [List.length_map] at hn
 refine enthymemeref25_Text.ok _ w _ ?_
 have loop:∀(k i:Nat),i+k=ls.length->(textB (ls.take i)).length<=i *2000000000->enthymemeref25_Text.L0 s (ba (textB (ls.take i))) (i:Int) w λr w'=>r=.returned (.string (ba (textB ls)))/\Fr0 w w':=by
  intro k
  induction k with
  |zero=>
   intro i hk _
   refine enthymemeref25_Text.L0_step _ _ _ _ _ (sel_false (decide_eq_false (by omega)) ⟨?_,Fr.refl _ _⟩)
   rw [qtOL (by omega)]
  |succ k ih=>
   intro i hk hlen
   have hg:ls[i]? =some ls[i]:=qgE (by omega)
   generalize ls[i]=t at hg
   have ht:=hb t (qmG hg)
   have et:textB (ls.take (i+1))=textB (ls.take i)++(t++[10]):=by
    rw [qtO,hg]
    simp [textB]
   refine enthymemeref25_Text.L0_step _ _ _ _ _ (sel_true (decide_eq_true (by omega)) ⟨by omega,by omega,Rd.get h (i:=i) (v:=strV t) (by rw [List.getElem?_map,hg];rfl) (by rw [Int.toNat_natCast]) λp _ hc=>⟨_,hc,?_,?_,?_⟩⟩)
   .rw [ba_size,ba_size,IntKind.max_i64];omega
   .rw [ba_app,ba_size,IntKind.max_i64,qlA];show ¬(((_+1:Nat):Int)>_);omega
   .rw [show ByteArray.mk #[10]=ba [10] from rfl,ba_app,ba_app,qaA,<-et]
    show enthymemeref25_Text.L0 _ _ (IntKind.wrap .i64 _) _ _
    rw [i64_next _ (by omega)]
    refine ih (i+1) (by omega) ?_
    rw [et,qlA,qlA]
    show _+(t.length+1)<=_
    omega
 exact loop ls.length 0 (by omega) (by simp [textB])
end Go.Proofs.YthnoidogkbbkhaaGreatDoor

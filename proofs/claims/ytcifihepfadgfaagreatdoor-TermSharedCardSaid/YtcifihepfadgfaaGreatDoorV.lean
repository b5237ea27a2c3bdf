import Derived.Test.YtcifihepfadgfaaGreatDoorU
import Derived.Test.YtcifihepfadgfaaGreatDoorProg
import Derived.KernelRfl
set_option linter.unusedVariables false
set_option maxRecDepth 100000
set_option maxHeartbeats 2000000
namespace Go.Proofs.YtcifihepfadgfaaGreatDoor
open Go Go.W
theorem mp {a b:Prop} (h:a) (e:a=b:=by kernel_rfl):b:=e▸h
abbrev QG:=Exit->Act->World->Prop
abbrev KOk (P:Program) (n:Nat) (K:Env->World->aD->Prop) (c:Code) (Q:aD->QG):Prop:=∀(R:aD) (E:Env) (w:World),K E w R->WP P (cx n) c (Q R) E w
abbrev LOk (P:Program) (n:Nat) (K:Env->World->aD->Prop) (c:Code) (Q:aD->QG):Prop:=∀(R:aD) (E:Env) (w:World),K E w R->LP P (cx n) c (Q R) E w
abbrev cB (w:World) (p:Addr) (K:Int->Int->Int->Sl->Prop):Prop:=∃a:Int,∃b:Int,∃c:Int,∃d:Sl,w.cell? (p.add 0)=some (.i a)/\w.cell? (p.add 1)=some (.int .u8 b)/\w.cell? (p.add 2)=some (.int .u8 c)/\w.cell? (p.add 3)=some (d.v)/\K a b c d
abbrev RB (w:World) (p:Addr) (K:Int->Int->Int->ByteArray->Int->Prop):Prop:=∃a:Int,∃b:Int,∃c:Int,∃d:ByteArray,∃e:Int,w.cell? (p.add 0)=some (.int .u8 a)/\w.cell? (p.add 1)=some (.int .u8 b)/\w.cell? (p.add 2)=some (.int .u8 c)/\w.cell? (p.add 3)=some (.string d)/\w.cell? (p.add 4)=some (.i e)/\K a b c d e
abbrev dK (w:World) (p:Addr) (K:Int->Int->Int->Prop):Prop:=∃a:Int,∃b:Int,∃c:Int,w.cell? (p.add 0)=some (.i a)/\w.cell? (p.add 1)=some (.i b)/\w.cell? (p.add 2)=some (.i c)/\K a b c
abbrev qL (w:World) (p:Addr) (K:Int->Sl->Int->Int->Int->ByteArray->Int->Int->Int->Prop):Prop:=∃a:Int,∃b:Sl,∃c:Int,∃d:Int,∃e:Int,∃f:ByteArray,∃g:Int,∃j:Int,∃k:Int,w.cell? (p.add 0)=some (.i a)/\w.cell? (p.add 1)=some (b.v)/\w.cell? (p.add 2)=some (.i c)/\w.cell? (p.add 3)=some (.i d)/\w.cell? (p.add 4)=some (.u e)/\w.cell? (p.add 5)=some (.string f)/\w.cell? (p.add 6)=some (.i g)/\w.cell? (p.add 7)=some (.i j)/\w.cell? (p.add 8)=some (.i k)/\K a b c d e f g j k
abbrev zY (f:FuncId) (d:Array Value) (w:World) (K:Bool->World->Prop):Prop:=Calls Tryz.prog f d w λb c=>∃a:Bool,b=.returned (.bool a)/\K a c
abbrev jK (b:List Nat) (f:FuncId) (e:Array Value) (w:World) (K:Bool->World->Prop):Prop:=fV b Tryz.prog f e w λc d=>∃a:Bool,c=.returned (.bool a)/\K a d
abbrev BW (f:FuncId) (d:Array Value) (w:World) (K:Int->World->Prop):Prop:=Calls Tryz.prog f d w λb c=>∃a:Int,b=.returned (.i a)/\K a c
abbrev mW (b:List Nat) (f:FuncId) (e:Array Value) (w:World) (K:Int->World->Prop):Prop:=fV b Tryz.prog f e w λc d=>∃a:Int,c=.returned (.i a)/\K a d
abbrev NX (f:FuncId) (j:Array Value) (w:World) (K:Int->Int->Int->Sl->World->Prop):Prop:=Calls Tryz.prog f j w λe g=>∃a:Int,∃b:Int,∃c:Int,∃d:Sl,e=.returned (.agg #[.i a,.int .u8 b,.int .u8 c,d.v])/\K a b c d g
abbrev uA (e:List Nat) (f:FuncId) (k:Array Value) (w:World) (K:Int->Int->Int->Sl->World->Prop):Prop:=fV e Tryz.prog f k w λg j=>∃a:Int,∃b:Int,∃c:Int,∃d:Sl,g=.returned (.agg #[.i a,.int .u8 b,.int .u8 c,d.v])/\K a b c d j
abbrev VC (f:FuncId) (d:Array Value) (w:World) (K:Sl->World->Prop):Prop:=Calls Tryz.prog f d w λb c=>∃a:Sl,b=.returned (a.v)/\K a c
abbrev Ti (b:List Nat) (f:FuncId) (e:Array Value) (w:World) (K:Sl->World->Prop):Prop:=fV b Tryz.prog f e w λc d=>∃a:Sl,c=.returned (a.v)/\K a d
abbrev xI (f:FuncId) (c:Array Value) (w:World) (K:World->Prop):Prop:=Calls Tryz.prog f c w λa b=>a=.returned (.tuple #[])/\K b
abbrev QW (a:List Nat) (f:FuncId) (d:Array Value) (w:World) (K:World->Prop):Prop:=fV a Tryz.prog f d w λb c=>b=.returned (.tuple #[])/\K c
abbrev ca5 (f:FuncId) (e:Array Value) (w:World) (K:Int->Int->World->Prop):Prop:=Calls Tryz.prog f e w λc d=>∃a:Int,∃b:Int,c=.returned (.tuple #[.i a,.i b])/\K a b d
abbrev ca6 (f:FuncId) (e:Array Value) (w:World) (K:Int->Bool->World->Prop):Prop:=Calls Tryz.prog f e w λc d=>∃a:Int,∃b:Bool,c=.returned (.tuple #[.i a,.bool b])/\K a b d
abbrev cf6 (c:List Nat) (f:FuncId) (g:Array Value) (w:World) (K:Int->Bool->World->Prop):Prop:=fV c Tryz.prog f g w λd e=>∃a:Int,∃b:Bool,d=.returned (.tuple #[.i a,.bool b])/\K a b e
abbrev YI (d:List Nat) (f:FuncId) (j:Array Value) (w:World) (K:Int->Int->Bool->World->Prop):Prop:=fV d Tryz.prog f j w λe g=>∃a:Int,∃b:Int,∃c:Bool,e=.returned (.tuple #[.int .u8 a,.i b,.bool c])/\K a b c g
abbrev ca8 (f:FuncId) (l:Array Value) (w:World) (K:Int->Int->Int->ByteArray->Int->Int->World->Prop):Prop:=Calls Tryz.prog f l w λj k=>∃a:Int,∃b:Int,∃c:Int,∃d:ByteArray,∃e:Int,∃g:Int,j=.returned (.tuple #[.agg #[.int .u8 a,.int .u8 b,.int .u8 c,.string d,.i e],.i g])/\K a b c d e g k
abbrev ca9 (f:FuncId) (d:Array Value) (w:World) (K:(Option Addr)->World->Prop):Prop:=Calls Tryz.prog f d w λb c=>∃a:Option Addr,b=.returned (.pointer a)/\K a c
abbrev Xy (b:List Nat) (f:FuncId) (e:Array Value) (w:World) (K:(Option Addr)->World->Prop):Prop:=fV b Tryz.prog f e w λc d=>∃a:Option Addr,c=.returned (.pointer a)/\K a d
abbrev YA (f:FuncId) (d:Array Value) (w:World) (K:Value->World->Prop):Prop:=Calls Tryz.prog f d w λb c=>∃a:Value,b=.returned (a)/\K a c
abbrev YB (f:FuncId) (k:Array Value) (w:World) (K:Int->Int->Int->Sl->Int->World->Prop):Prop:=Calls Tryz.prog f k w λg j=>∃a:Int,∃b:Int,∃c:Int,∃d:Sl,∃e:Int,g=.returned (.tuple #[.agg #[.i a,.int .u8 b,.int .u8 c,d.v],.i e])/\K a b c d e j
abbrev Ly (g:List Nat) (f:FuncId) (l:Array Value) (w:World) (K:Int->Int->Int->Sl->Int->World->Prop):Prop:=fV g Tryz.prog f l w λj k=>∃a:Int,∃b:Int,∃c:Int,∃d:Sl,∃e:Int,j=.returned (.tuple #[.agg #[.i a,.int .u8 b,.int .u8 c,d.v],.i e])/\K a b c d e k
abbrev YE (b:List Nat) (f:FuncId) (e:Array Value) (w:World) (K:(Option Nat)->World->Prop):Prop:=fV b Tryz.prog f e w λc d=>∃a:Option Nat,c=.returned (.map a)/\K a d
abbrev Tf (f:FuncId) (d:Array Value) (w:World) (K:Int->World->Prop):Prop:=Calls Tryz.prog f d w λb c=>∃a:Int,b=.returned (.int .u8 a)/\K a c
abbrev Tg (c:List Nat) (f:FuncId) (g:Array Value) (w:World) (K:Int->Int->World->Prop):Prop:=fV c Tryz.prog f g w λd e=>∃a:Int,∃b:Int,d=.returned (.tuple #[.int .u8 a,.i b])/\K a b e
abbrev Lt (f:FuncId) (d:Array Value) (w:World) (K:ByteArray->World->Prop):Prop:=Calls Tryz.prog f d w λb c=>∃a:ByteArray,b=.returned (.string a)/\K a c
abbrev pG (b:List Nat) (f:FuncId) (e:Array Value) (w:World) (K:ByteArray->World->Prop):Prop:=fV b Tryz.prog f e w λc d=>∃a:ByteArray,c=.returned (.string a)/\K a d
abbrev VB (f:FuncId) (l:Array Value) (w:World) (K:Int->Int->Int->Sl->Int->Int->World->Prop):Prop:=Calls Tryz.prog f l w λj k=>∃a:Int,∃b:Int,∃c:Int,∃d:Sl,∃e:Int,∃g:Int,j=.returned (.tuple #[.agg #[.i a,.int .u8 b,.int .u8 c,d.v],.i e,.i g])/\K a b c d e g k
abbrev FZ (f:FuncId) (g:Array Value) (w:World) (K:Int->Int->Int->World->Prop):Prop:=Calls Tryz.prog f g w λd e=>∃a:Int,∃b:Int,∃c:Int,d=.returned (.agg #[.i a,.i b,.i c])/\K a b c e
abbrev gM (d:List Nat) (f:FuncId) (j:Array Value) (w:World) (K:Int->Int->Int->World->Prop):Prop:=fV d Tryz.prog f j w λe g=>∃a:Int,∃b:Int,∃c:Int,e=.returned (.agg #[.i a,.i b,.i c])/\K a b c g
abbrev YF (e:List Nat) (f:FuncId) (k:Array Value) (w:World) (K:Int->Int->Int->Bool->World->Prop):Prop:=fV e Tryz.prog f k w λg j=>∃a:Int,∃b:Int,∃c:Int,∃d:Bool,g=.returned (.tuple #[.agg #[.i a,.i b,.i c],.bool d])/\K a b c d j
abbrev gU (e:List Nat) (f:FuncId) (k:Array Value) (w:World) (K:Int->Int->Int->Int->World->Prop):Prop:=fV e Tryz.prog f k w λg j=>∃a:Int,∃b:Int,∃c:Int,∃d:Int,g=.returned (.tuple #[.agg #[.i a,.i b,.i c],.i d])/\K a b c d j
abbrev YG (d:List Nat) (f:FuncId) (j:Array Value) (w:World) (K:Sl->Int->Int->World->Prop):Prop:=fV d Tryz.prog f j w λe g=>∃a:Sl,∃b:Int,∃c:Int,e=.returned (.tuple #[a.v,.i b,.i c])/\K a b c g
abbrev YC (f:FuncId) (o:Array Value) (w:World) (K:Int->Sl->Int->Int->Int->ByteArray->Int->Int->Int->World->Prop):Prop:=Calls Tryz.prog f o w λm n=>∃a:Int,∃b:Sl,∃c:Int,∃d:Int,∃e:Int,∃g:ByteArray,∃j:Int,∃k:Int,∃l:Int,m=.returned (.agg #[.i a,b.v,.i c,.i d,.u e,.string g,.i j,.i k,.i l])/\K a b c d e g j k l n
abbrev YH (m:List Nat) (f:FuncId) (p:Array Value) (w:World) (K:Int->Sl->Int->Int->Int->ByteArray->Int->Int->Int->World->Prop):Prop:=fV m Tryz.prog f p w λn o=>∃a:Int,∃b:Sl,∃c:Int,∃d:Int,∃e:Int,∃g:ByteArray,∃j:Int,∃k:Int,∃l:Int,n=.returned (.agg #[.i a,b.v,.i c,.i d,.u e,.string g,.i j,.i k,.i l])/\K a b c d e g j k l o
abbrev YD (f:FuncId) (g:Array Value) (w:World) (K:Sl->Int->Int->World->Prop):Prop:=Calls Tryz.prog f g w λd e=>∃a:Sl,∃b:Int,∃c:Int,d=.returned (.tuple #[.agg #[a.v],.i b,.i c])/\K a b c e
abbrev xJ (d:List Nat) (f:FuncId) (j:Array Value) (w:World) (K:Sl->Int->Int->World->Prop):Prop:=fV d Tryz.prog f j w λe g=>∃a:Sl,∃b:Int,∃c:Int,e=.returned (.tuple #[.agg #[a.v],.i b,.i c])/\K a b c g
abbrev Th (c:List Nat) (f:FuncId) (g:Array Value) (w:World) (K:ByteArray->Int->World->Prop):Prop:=fV c Tryz.prog f g w λd e=>∃a:ByteArray,∃b:Int,d=.returned (.tuple #[.string a,.i b])/\K a b e
abbrev Mj (w:World) (p:Addr) (a b c:Value) (K:Unit->Prop):Prop:=w.cell? (p.add 0)=some a/\w.cell? (p.add 1)=some b/\w.cell? (p.add 2)=some c/\K ()
abbrev Mk (w:World) (p:Addr) (a b c d e f g i j:Value) (K:Unit->Prop):Prop:=w.cell? (p.add 0)=some a/\w.cell? (p.add 1)=some b/\w.cell? (p.add 2)=some c/\w.cell? (p.add 3)=some d/\w.cell? (p.add 4)=some e/\w.cell? (p.add 5)=some f/\w.cell? (p.add 6)=some g/\w.cell? (p.add 7)=some i/\w.cell? (p.add 8)=some j/\K ()
abbrev Hc (w:World) (p:Addr) (a b c:Value) (K:World->Prop):Prop:=bX w p a λw=>bX w (p.add 1) b λw=>bX w (p.add 2) c λw=>K w
abbrev qx (w:World) (p:Addr) (a b c d:Value) (K:World->Prop):Prop:=bX w p a λw=>bX w (p.add 1) b λw=>bX w (p.add 2) c λw=>bX w (p.add 3) d λw=>K w
abbrev W5 (w:World) (p:Addr) (a b c d e:Value) (K:World->Prop):Prop:=bX w p a λw=>bX w (p.add 1) b λw=>bX w (p.add 2) c λw=>bX w (p.add 3) d λw=>bX w (p.add 4) e λw=>K w
abbrev Km:Nat:=0
abbrev bW:Nat:=3
abbrev dE:Nat:=5
abbrev cI:Nat:=9
abbrev gq:Nat:=22
abbrev bB:Nat:=23
abbrev aW:Nat:=27
abbrev aR:Nat:=30
abbrev aG:Nat:=32
abbrev vL:Nat:=34
abbrev bL:Nat:=65
abbrev nJ:Nat:=87
abbrev vM:Nat:=99
abbrev iw:Nat:=108
abbrev Ko:Nat:=132
abbrev mn:Nat:=133
abbrev aC:Nat:=140
abbrev aA:Nat:=142
abbrev nI:Nat:=149
abbrev km:Nat:=150
abbrev gY:Nat:=152
abbrev bT:Nat:=171
abbrev jk:Nat:=174
abbrev b0:Nat:=176
abbrev aE:Nat:=182
abbrev aB:Nat:=184
abbrev cA:Nat:=198
abbrev kU:Nat:=199
abbrev gX:Nat:=201
abbrev fG:Nat:=206
abbrev aN:Nat:=214
abbrev bG:Nat:=226
abbrev cD:Nat:=233
abbrev kP:Nat:=5
abbrev iA:Nat:=9
abbrev aS:Nat:=10
abbrev mT:Nat:=11
abbrev mj:Nat:=12
abbrev gS:Nat:=13
abbrev fN:Nat:=14
abbrev ln:Nat:=15
abbrev dP:Nat:=16
abbrev jW:Nat:=18
abbrev iN:Nat:=20
abbrev ny:Nat:=24
abbrev aU:Nat:=25
abbrev j9:Nat:=38
abbrev iC:Nat:=39
abbrev jE:Nat:=40
abbrev iD:Nat:=41
abbrev n9:Nat:=42
abbrev my:Nat:=43
abbrev jB:Nat:=44
abbrev kF:Nat:=45
abbrev lq:Nat:=46
abbrev jC:Nat:=47
abbrev il:Nat:=48
abbrev qw:Nat:=49
abbrev iO:Nat:=50
abbrev jZ:Nat:=51
abbrev iB:Nat:=52
abbrev iV:Nat:=53
abbrev nA:Nat:=54
abbrev kH:Nat:=55
abbrev lY:Nat:=56
abbrev ke:Nat:=57
abbrev eM:Nat:=61
abbrev rm:Nat:=62
abbrev mJ:Nat:=63
abbrev ia:Nat:=72
abbrev bS:Nat:=75
abbrev kE:Nat:=76
abbrev iz:Nat:=77
abbrev gE:Nat:=78
abbrev jD:Nat:=79
abbrev nT:Nat:=80
abbrev nU:Nat:=81
abbrev nC:Nat:=82
abbrev nB:Nat:=83
abbrev lZ:Nat:=84
abbrev lC:Nat:=85
abbrev j8:Nat:=86
abbrev im:Nat:=87
abbrev fF:Nat:=88
abbrev jX:Nat:=89
abbrev jy:Nat:=90
abbrev bN:Nat:=91
abbrev oI:Nat:=92
abbrev lg:Nat:=93
abbrev gT:Nat:=94
abbrev o8:Nat:=95
abbrev gI:Nat:=97
abbrev kf:Nat:=98
abbrev mK:Nat:=99
abbrev bR:Nat:=106
abbrev eP:Nat:=107
abbrev qv:Nat:=108
abbrev kR:Nat:=109
abbrev lD:Nat:=110
abbrev lB:Nat:=111
abbrev aV:Nat:=112
abbrev iZ:Nat:=113
abbrev fA:Nat:=114
abbrev o7:Nat:=115
abbrev cT:Nat:=116
abbrev mz:Nat:=117
abbrev bZ:Nat:=118
abbrev jz:Nat:=119
abbrev cM:Nat:=120
abbrev cO:Nat:=121
abbrev dX:Nat:=122
abbrev jY:Nat:=123
abbrev lh:Nat:=124
abbrev gh:Nat:=125
abbrev gD:Nat:=126
abbrev iU:Nat:=127
abbrev iP:Nat:=128
abbrev jA:Nat:=129
abbrev qq:Nat:=130
abbrev nu:Nat:=131
abbrev qt:Nat:=132
abbrev jg:Nat:=133
abbrev cY:Nat:=134
abbrev bV:Nat:=135
abbrev dA:Nat:=136
abbrev iy:Nat:=137
abbrev hO:Nat:=138
abbrev gi:Nat:=139
abbrev cG:Nat:=140
abbrev lj:Nat:=141
abbrev sK:Nat:=142
abbrev lV:Nat:=143
abbrev eT:Nat:=144
abbrev e8:Nat:=145
abbrev jG:Nat:=146
abbrev n7:Nat:=147
abbrev oG:Nat:=148
abbrev lu:Nat:=149
abbrev qu:Nat:=150
abbrev hU:Nat:=151
abbrev fO:Nat:=152
abbrev dH:Nat:=153
abbrev eL:Nat:=154
abbrev fP:Nat:=155
abbrev oH:Nat:=156
abbrev jr:Nat:=157
abbrev gN:Nat:=158
abbrev gp:Nat:=159
abbrev iX:Nat:=160
abbrev iE:Nat:=161
abbrev iF:Nat:=162
abbrev iY:Nat:=163
abbrev kQ:Nat:=164
abbrev nv:Nat:=165
abbrev mi:Nat:=166
abbrev kq:Nat:=167
abbrev mw:Nat:=168
abbrev iW:Nat:=169
abbrev rl:Nat:=170
abbrev cW:Nat:=171
abbrev jq:Nat:=172
abbrev eF:Nat:=173
abbrev dQ:Nat:=174
abbrev aT:Nat:=175
abbrev dB:Nat:=176
abbrev iR:Nat:=177
abbrev iS:Nat:=178
abbrev rk:Nat:=179
abbrev eO:Nat:=180
abbrev cN:Nat:=181
abbrev gH:Nat:=182
abbrev g8:Nat:=183
abbrev kB:Nat:=184
abbrev lr:Nat:=185
abbrev eG:Nat:=186
abbrev dF:Nat:=187
abbrev gk:Nat:=188
abbrev cK:Nat:=189
abbrev dS:Nat:=190
abbrev oF:Nat:=191
abbrev o4:Nat:=192
abbrev nt:Nat:=193
abbrev jV:Nat:=194
abbrev bP:Nat:=195
abbrev jF:Nat:=196
abbrev fH:Nat:=197
abbrev gj:Nat:=198
abbrev n8:Nat:=199
abbrev dZ:Nat:=200
abbrev lW:Nat:=201
abbrev kr:Nat:=202
abbrev kW:Nat:=203
abbrev kG:Nat:=204
abbrev iQ:Nat:=205
abbrev kc:Nat:=206
abbrev lK:Nat:=207
abbrev qb:Nat:=209
abbrev oE:Nat:=210
abbrev nS:Nat:=211
abbrev fI:Nat:=212
abbrev dY:Nat:=213
namespace enthymemeref01_Around
noncomputable abbrev X:Fx:=⟨Tryz.prog,Tryz.f10,[],[]⟩
abbrev P0:Ps:=[(0,.v [.I]),(1,.v [.I])]
abbrev S0 (b a:Int) (w:World) (R:aD):Prop:=
 a≠0/\R (.returned (.i (Int.tmod b a))) w
noncomputable def eV:=bK X [] (bH [2]) P0 S0
theorem ok (b a:Int) (w:World) (R:aD) (h:aF (decide (b<0)) (S0 (IntKind.wrap .i64 (0 - (IntKind.wrap .i64 (b+1)))) a w R) (S0 b a w R)):Calls Tryz.prog aS #[.i b,.i a] w R:=aO X [eV] h
end enthymemeref01_Around
namespace enthymemeref01_Has
noncomputable abbrev X:Fx:=⟨Tryz.prog,Tryz.f93,[],[]⟩
abbrev P0:Ps:=[(0,.v [.s]),(1,.v [.I]),(5,.v [.I])]
def L0 (b:Sl) (c a:Int) (w:World) (R:aD):Prop:=cJ P0 0 (X.Sem (bH [0,1,1,1,1])) b c a w R
noncomputable def eC:=fZ X (bH [0,1,1,1,1]) P0 L0
theorem cF:∀(c:Sl) (f b:Int) (w:World) (R:aD) (h:aF (decide (b<((c.n:Nat):Int))) ((0:Int)<=b/\b<((c.n:Nat):Int)/\aX c.a λd=>∃e:Int,w.cell? (d.add (Int.toNat b *1))=some (.i e)/\
 aF (e==f) (R (.returned (.bool true)) w) (L0 c f (IntKind.wrap .i64 (b+1)) w R)) (R (.returned (.bool false)) w)),L0 c f b w R:=mp (dD (X:=X) [eC] (bH [0,1,1,1,1]) P0)
theorem ok (a:Sl) (b:Int) (w:World) (R:aD) (h:L0 a b 0 w R):Calls Tryz.prog lg #[a.v,.i b] w R:=aO X [eC] h
end enthymemeref01_Has
namespace enthymemeref01_SameInts
noncomputable abbrev X:Fx:=⟨Tryz.prog,Tryz.f20,[(6,ls [0,1,2,3,4,5,6,7,8])],[]⟩
abbrev P0:Ps:=[(0,.v [.s]),(1,.v [.s]),(5,.v [.I])]
def L0 (a b:Sl) (c:Int) (w:World) (R:aD):Prop:=cJ P0 0 (X.Sem (bH [0,1,1,1,2])) a b c w R
noncomputable def eC:=fZ X (bH [0,1,1,1,2]) P0 L0
theorem cF:∀(c d:Sl) (b:Int) (w:World) (R:aD) (h:aF (decide (b<((c.n:Nat):Int))) (uU w λg=>(0:Int)<=b/\b<((c.n:Nat):Int)/\aX c.a λe=>∃j:Int,g.cell? (e.add (Int.toNat b *1))=some (.i j)/\
 (0:Int)<=b/\b<((d.n:Nat):Int)/\aX d.a λf=>∃k:Int,g.cell? (f.add (Int.toNat b *1))=some (.i k)/\
 aF (j !=k) (R (.returned (.bool false)) g) (L0 c d (IntKind.wrap .i64 (b+1)) g R)) (R (.returned (.bool true)) w)),L0 c d b w R:=mp (dD (X:=X) [eC] (bH [0,1,1,1,2]) P0)
theorem ok (a b:Sl) (w:World) (R:aD) (h:aF (((a.n:Nat):Int) !=((b.n:Nat):Int)) (R (.returned (.bool false)) w) (L0 a b 0 w R)):Calls Tryz.prog iN #[a.v,b.v] w R:=aO X [eC] h
end enthymemeref01_SameInts
namespace cmp_isNaN_int
noncomputable abbrev X:Fx:=⟨Tryz.prog,Tryz.f210,[],[]⟩
theorem ok (a:Int) (w:World) (R:aD) (h:R (.returned (.bool (a !=a))) w):Calls Tryz.prog oE #[.i a] w R:=aO X [] h
end cmp_isNaN_int
namespace cmp_isNaN_byte
noncomputable abbrev X:Fx:=⟨Tryz.prog,Tryz.f211,[],[]⟩
theorem ok (a:Int) (w:World) (R:aD) (h:R (.returned (.bool (a !=a))) w):Calls Tryz.prog nS #[.int .u8 a] w R:=aO X [] h
end cmp_isNaN_byte
namespace cmp_Compare_int
noncomputable abbrev X:Fx:=⟨Tryz.prog,Tryz.f193,[],[]⟩
theorem ok (b c:Int) (w:World) (R:aD) (h:zY oE #[.i b] w λe f=>zY oE #[.i c] f λd a=>aF e (aF d (R (.returned (.i 0)) a) (R (.returned (.i (-1))) a)) (aF d (R (.returned (.i 1)) a) (aF (decide (b<c)) (R (.returned (.i (-1))) a) (aF (decide (b>c)) (R (.returned (.i 1)) a) (R (.returned (.i 0)) a))))):Calls Tryz.prog nt #[.i b,.i c] w R:=aO X [] h
end cmp_Compare_int
namespace cmp_Compare_byte
noncomputable abbrev X:Fx:=⟨Tryz.prog,Tryz.f194,[],[]⟩
theorem ok (b c:Int) (w:World) (R:aD) (h:zY nS #[.int .u8 b] w λe f=>zY nS #[.int .u8 c] f λd a=>aF e (aF d (R (.returned (.i 0)) a) (R (.returned (.i (-1))) a)) (aF d (R (.returned (.i 1)) a) (aF (decide (b<c)) (R (.returned (.i (-1))) a) (aF (decide (b>c)) (R (.returned (.i 1)) a) (R (.returned (.i 0)) a))))):Calls Tryz.prog jV #[.int .u8 b,.int .u8 c] w R:=aO X [] h
end cmp_Compare_byte
namespace cmp_Or_int
noncomputable abbrev X:Fx:=⟨Tryz.prog,Tryz.f192,[],[]⟩
abbrev P0:Ps:=[(3,.v [.I]),(6,.v [.s]),(7,.v [.I]),(8,.v [.I])]
def L0 (a:Int) (b:Sl) (c d:Int) (w:World) (R:aD):Prop:=cJ P0 0 (X.Sem (bH [0,1,1,1,2])) a b c d w R
noncomputable def eC:=fZ X (bH [0,1,1,1,2]) P0 L0
theorem cF:∀(b:Int) (f:Sl) (g c:Int) (w:World) (R:aD) (h:aF (decide (c<g)) ((0:Int)<=c/\c<((f.n:Nat):Int)/\aX f.a λe=>∃d:Int,w.cell? (e.add (Int.toNat c *1))=some (.i d)/\
 aF (d !=b) (R (.returned (.i d)) w) (L0 b f g (IntKind.wrap .i64 (c+1)) w R)) (R (.returned (.i b)) w)),L0 b f g c w R:=mp (dD (X:=X) [eC] (bH [0,1,1,1,2]) P0)
theorem ok (a:Sl) (w:World) (R:aD) (h:L0 0 a ((a.n:Nat):Int) 0 w R):Calls Tryz.prog o4 #[a.v] w R:=aO X [eC] h
end cmp_Or_int
namespace regex_Compare
noncomputable abbrev X:Fx:=⟨Tryz.prog,Tryz.f175,[(1,ls [0,1,2,3,5,6,7,8,10,11,12,13,4,9,14,15,16,17])],[2,3]⟩
theorem cV (c d e:Int) (f:Sl) (g j k:Int) (l:Sl) (w:World) (R:aD) (h:bE [] w λa t=>
 bE [a] t λb u=>
 loc [a,b] u λx=>mW [a,b] nt #[.i c,.i g] x λn y=>mW [a,b] jV #[.int .u8 d,.int .u8 j] y λo z=>mW [a,b] jV #[.int .u8 e,.int .u8 k] z λp r=>fJ r (.cells #[.i n,.i o,.i p] bW) λw7=>
 mW [a,b] o4 #[.slice (some (nb r)) 3 3] w7 λm s=>aF (m !=0) (R (.returned (.i m)) s) (mW [a,b] bP #[f.v,l.v,.func (.func aT) #[] #[]] s λq w9=>R (.returned (.i q)) w9)):Calls Tryz.prog aT #[.agg #[.i c,.int .u8 d,.int .u8 e,f.v],.agg #[.i g,.int .u8 j,.int .u8 k,l.v]] w R:=aO X [] h
end regex_Compare
namespace slices_CompareFunc_sl_regex_Regex_sl_regex_Regex_regex_Regex_regex_Regex
noncomputable abbrev X:Fx:=⟨Tryz.prog,Tryz.f195,[],[8,9]⟩
abbrev P0:Ps:=[(0,.v [.s]),(1,.v [.s]),(2,.v [.g aT 0 0]),(11,.v [.s]),(12,.v [.I]),(13,.v [.I])]
def eH (a b c:Sl) (d e:Int) (w:World) (R:aD):Prop:=cJ P0 0 (X.Sem (bH [0,1,1,1,1])) a b c d e w R
noncomputable def eC:=fZ X (bH [0,1,1,1,1]) P0 eH
theorem bA:∀(f c d:Sl) (g b:Int) (w:World) (R:aD) (h:aF (decide (b<g)) ((0:Int)<=b/\b<((d.n:Nat):Int)/\aX d.a λj=>cB w (j.add (Int.toNat b *4)) λk l m o=>bE [] w λe w1=>
 aF (decide (b>=((c.n:Nat):Int))) (loc [e] w1 λu=>R (.returned (.i 1)) u) ((0:Int)<=b/\b<((c.n:Nat):Int)/\aX c.a λp=>loc [e] w1 λu=>cB u (p.add (Int.toNat b *4)) λq r s t=>bE [e] u λz w6=>
 loc [e,z] w6 λab=>mW [e,z] aT #[.agg #[.i k,.int .u8 l,.int .u8 m,o.v],.agg #[.i q,.int .u8 r,.int .u8 s,t.v]] ab λx y=>aF (x !=0) (R (.returned (.i x)) y) (eH f c d g (IntKind.wrap .i64 (b+1)) y R))) (aF (decide (((f.n:Nat):Int)<((c.n:Nat):Int))) (R (.returned (.i (-1))) w) (R (.returned (.i 0)) w))),eH f c d g b w R:=mp (dD (X:=X) [eC] (bH [0,1,1,1,1]) P0)
theorem cV (a b:Sl) (w:World) (R:aD) (h:eH a b a ((a.n:Nat):Int) 0 w R):Calls Tryz.prog bP #[a.v,b.v,.func (.func aT) #[] #[]] w R:=aO X [eC] h
end slices_CompareFunc_sl_regex_Regex_sl_regex_Regex_regex_Regex_regex_Regex
namespace regex_equal
noncomputable abbrev X:Fx:=⟨Tryz.prog,Tryz.f173,[],[2,3]⟩
theorem cV (a b c:Int) (d:Sl) (e f g:Int) (j:Sl) (w:World) (R:aD) (h:bE [] w λk n=>
 bE [k] n λl o=>
 mW [k,l] aT #[.agg #[.i a,.int .u8 b,.int .u8 c,d.v],.agg #[.i e,.int .u8 f,.int .u8 g,j.v]] o λm p=>R (.returned (.bool (m==0))) p):Calls Tryz.prog eF #[.agg #[.i a,.int .u8 b,.int .u8 c,d.v],.agg #[.i e,.int .u8 f,.int .u8 g,j.v]] w R:=aO X [] h
end regex_equal
namespace regex_countdown
noncomputable abbrev X:Fx:=⟨Tryz.prog,Tryz.f164,[],[2]⟩
abbrev P0:Ps:=[(1,.v [.I]),(2,.l [.I,.Y,.Y,.s] aB),(5,.v [.I])]
def l4 (a:Int) (g:Nat) (b c d:Int) (e:Sl) (f:Int) (w:World) (R:aD):Prop:=cJ P0 0 (X.Sem (bH [0,1,1,1,2])) a g b c d e f w R
noncomputable def kX:=fZ X (bH [0,1,1,1,2]) P0 l4
abbrev P1:Ps:=[(1,.v [.I])]
abbrev eY (a:Int) (w:World) (R:aD):Prop:=
 R (.returned (.i a)) w
noncomputable def fL:=bK X [kX] (bH [3]) P1 eY
theorem dJ:∀(b:Int) (p:Nat) (e f g:Int) (c:Sl) (d:Int) (w:World) (R:aD) (h:aF (decide (d<((c.n:Nat):Int))) (aF (decide (b>=0)) ((0:Int)<=d/\d<((c.n:Nat):Int)/\aX c.a λj=>cB w (j.add (Int.toNat d *4)) λk l m o=>mW [p] kQ #[.agg #[.i k,.int .u8 l,.int .u8 m,o.v],.i b] w λq r=>l4 q p e f g c (IntKind.wrap .i64 (d+1)) r R) (eY b w R)) (eY b w R)),l4 b p e f g c d w R:=mp (dD (X:=X) [fL,kX] (bH [0,1,1,1,2]) P0)
abbrev P2:Ps:=[(1,.v [.I]),(2,.l [.I,.Y,.Y,.s] aB)]
abbrev dV (a:Int) (f:Nat) (b c d:Int) (e:Sl) (w:World) (R:aD):Prop:=
 l4 a f b c d e 0 w R
noncomputable def eV:=bK X [fL,kX] (bH [2]) P2 dV
theorem cV (b c d:Int) (e:Sl) (a:Int) (w:World) (R:aD) (h:bE [] w λf g=>
 dV (IntKind.wrap .i64 (a - 1)) f b c d e g R):Calls Tryz.prog kQ #[.agg #[.i b,.int .u8 c,.int .u8 d,e.v],.i a] w R:=aO X [eV,fL,kX] h
end regex_countdown
namespace regex_tooLarge
noncomputable abbrev X:Fx:=⟨Tryz.prog,Tryz.f146,[],[1]⟩
theorem cV (a b c:Int) (d:Sl) (w:World) (R:aD) (h:bE [] w λe g=>
 mW [e] kQ #[.agg #[.i a,.int .u8 b,.int .u8 c,d.v],.i 64] g λf j=>R (.returned (.bool (decide (f<0)))) j):Calls Tryz.prog jG #[.agg #[.i a,.int .u8 b,.int .u8 c,d.v]] w R:=aO X [] h
end regex_tooLarge
namespace regex_proper
noncomputable abbrev X:Fx:=⟨Tryz.prog,Tryz.f165,[],[1,4]⟩
abbrev P0:Ps:=[]
abbrev dV (w:World) (R:aD):Prop:=
 R (.returned (.bool false)) w
noncomputable def eV:=bK X [] (bH [0,1,1,1,1]) P0 dV
abbrev P1:Ps:=[(1,.l [.I,.Y,.Y,.s] aB)]
abbrev eY (e:Nat) (b c d:Int) (a:Sl) (w:World) (R:aD):Prop:=
 R (.returned (.bool (((a.n:Nat):Int)==0))) w
noncomputable def fL:=bK X [eV] (bH [0,1,1,1,1,1,2]) P1 eY
abbrev P2:Ps:=[(52,.v [.s]),(53,.v [.I]),(54,.v [.I])]
def wY (a:Sl) (b c:Int) (w:World) (R:aD):Prop:=cJ P2 0 (X.Sem (bH [0,1,1,1,3])) a b c w R
noncomputable def rX:=fZ X (bH [0,1,1,1,3]) P2 wY
theorem ko:∀(c:Sl) (d b:Int) (w:World) (R:aD) (h:aF (decide (b<d)) ((0:Int)<=b/\b<((c.n:Nat):Int)/\aX c.a λe=>cB w (e.add (Int.toNat b *4)) λf g j k=>bE [] w λl p=>
 loc [l] p λq=>jK [l] nv #[.agg #[.i f,.int .u8 g,.int .u8 j,k.v]] q λm o=>aF (!m) (R (.returned (.bool false)) o) (wY c d (IntKind.wrap .i64 (b+1)) o R)) (R (.returned (.bool true)) w)),wY c d b w R:=mp (dD (X:=X) [rX,fL,eV] (bH [0,1,1,1,3]) P2)
abbrev ox (e:Nat) (b c d:Int) (a:Sl) (w:World) (R:aD):Prop:=
 wY a ((a.n:Nat):Int) 0 w R
noncomputable def kK:=bK X [rX,fL,eV] (bH [3]) P1 ox
abbrev CS (e:Nat) (b c d:Int) (a:Sl) (w:World) (R:aD):Prop:=
 aF (((a.n:Nat):Int) !=1) (R (.returned (.bool false)) w) (ox e b c d a w R)
noncomputable def sv:=bK X [kK,rX,fL,eV] (bH [0,1,7,1,1,1,2]) P1 CS
abbrev Ku (w:World) (R:aD):Prop:=
 R (.returned (.bool false)) w
noncomputable def yI:=bK X [sv,kK,rX,fL,eV] (bH [8,1,1,1,2]) P0 Ku
abbrev P3:Ps:=[(1,.l [.I,.Y,.Y,.s] aB),(19,.v [.I])]
abbrev uz (f:Nat) (a b c:Int) (d:Sl) (e:Int) (w:World) (R:aD):Prop:=
 aF (e==6) (aF (e==6) (CS f a b c d w R) (Ku w R)) (aF (e==7) (CS f a b c d w R) (Ku w R))
noncomputable def qz:=bK X [yI,sv,kK,rX,fL,eV] (bH [6,1,1,1,2]) P3 uz
abbrev gO (f:Nat) (e a b:Int) (c:Sl) (d:Int) (w:World) (R:aD):Prop:=
 aF (d==2) (aF (((c.n:Nat):Int)==0) (R (.returned (.bool (decide (a<=b)))) w) (R (.returned (.bool false)) w)) (aF (d==3) (aF (d==3) (ox f e a b c w R) (uz f e a b c d w R)) (aF (d==4) (aF (d==4) (ox f e a b c w R) (uz f e a b c d w R)) (aF (d==5) (ox f e a b c w R) (uz f e a b c d w R))))
noncomputable def hC:=bK X [qz,yI,sv,kK,rX,fL,eV] (bH [2,1,1,1,2]) P3 gO
abbrev fY (e:Nat) (a b c:Int) (d:Sl) (w:World) (R:aD):Prop:=
 aF (a==0) (aF (a==0) (eY e a b c d w R) (gO e a b c d a w R)) (aF (a==1) (eY e a b c d w R) (gO e a b c d a w R))
noncomputable def gn:=bK X [hC,qz,yI,sv,kK,rX,fL,eV] (bH [2]) P1 fY
theorem cV (a b c:Int) (d:Sl) (w:World) (R:aD) (h:bE [] w λf e=>
 aF (a !=2) (aF (b !=0) (dV e R) (aF (c !=0) (dV e R) (fY f a b c d e R))) (fY f a b c d e R)):Calls Tryz.prog nv #[.agg #[.i a,.int .u8 b,.int .u8 c,d.v]] w R:=aO X [gn,hC,qz,yI,sv,kK,rX,fL,eV] h
end regex_proper
namespace regex_Valid
noncomputable abbrev X:Fx:=⟨Tryz.prog,Tryz.f147,[],[1]⟩
theorem cV (a b c:Int) (d:Sl) (w:World) (R:aD) (h:bE [] w λe l=>
 jK [e] jG #[.agg #[.i a,.int .u8 b,.int .u8 c,d.v]] l λj f=>aF j (R (.returned (.i 4)) f) (jK [e] nv #[.agg #[.i a,.int .u8 b,.int .u8 c,d.v]] f λk g=>aF (!k) (R (.returned (.i 1)) g) (R (.returned (.i 0)) g))):Calls Tryz.prog n7 #[.agg #[.i a,.int .u8 b,.int .u8 c,d.v]] w R:=aO X [] h
end regex_Valid
namespace regex_clone
noncomputable abbrev X:Fx:=⟨Tryz.prog,Tryz.f166,[],[1,2,5]⟩
abbrev P0:Ps:=[(1,.l [.I,.Y,.Y,.s] aB),(2,.l [.I,.Y,.Y,.s] aB),(3,.v [.s]),(7,.v [.s]),(8,.v [.I]),(9,.v [.I])]
def eH (k:Nat) (b c d:Int) (e:Sl) (l:Nat) (f g i:Int) (j a m:Sl) (n o:Int) (w:World) (R:aD):Prop:=cJ P0 0 (X.Sem (bH [0,1,1,1,2])) k b c d e l f g i j a m n o w R
noncomputable def eC:=fZ X (bH [0,1,1,1,2]) P0 eH
theorem bA:∀(c:Nat) (d e f:Int) (k:Sl) (g:Nat) (l m o:Int) (p b t7:Sl) (t8 j:Int) (w:World) (R:aD) (h:aF (decide (j<t8)) ((0:Int)<=j/\j<((t7.n:Nat):Int)/\aX t7.a λr=>cB w (r.add (Int.toNat j *4)) λs t u x=>bE [c,g] w λb5 w3=>
 loc [c,g,b5] w3 λw7=>uA [c,g,b5] mi #[.agg #[.i s,.int .u8 t,.int .u8 u,x.v]] w7 λy z aa ab w8=>fJ w8 (.cells #[.i y,.int .u8 z,.int .u8 aa,ab.v] aB) λw9=>
 ∃(ad:Sl) (q:World),Sem.run Tryz.prog (Builtin.append_ #[aE,aE] aE #[b.v,.slice (some (nb w8)) 1 1]) w9=.ok (ad.v) q/\kept [c,g,b5] w9 q/\eH c d e f k g l m o p ad t7 t8 (IntKind.wrap .i64 (j+1)) q R) (loc [c,g] w λag=>R (.returned (.agg #[.i d,.int .u8 e,.int .u8 f,b.v])) ag)),eH c d e f k g l m o p b t7 t8 j w R:=mp (dD (X:=X) [eC] (bH [0,1,1,1,2]) P0)
theorem cV (b c d:Int) (a:Sl) (w:World) (R:aD) (h:bE [] w λe g=>
 bE [e] g λf j=>
 eH e b c d a f 0 0 0 ⟨none,0,0⟩ ⟨none,0,0⟩ a ((a.n:Nat):Int) 0 j R):Calls Tryz.prog mi #[.agg #[.i b,.int .u8 c,.int .u8 d,a.v]] w R:=aO X [eC] h
end regex_clone
namespace regex_limited
noncomputable abbrev X:Fx:=⟨Tryz.prog,Tryz.f148,[],[1,2]⟩
theorem cV (a b c:Int) (d:Sl) (w:World) (R:aD) (h:bE [] w λe p=>
 bE [e] p λf q=>
 jK [e,f] jG #[.agg #[.i a,.int .u8 b,.int .u8 c,d.v]] q λo n=>aF o (loc [e,f] n λr=>R (.returned (.tuple #[.agg #[.i 0,.int .u8 0,.int .u8 0,.slice none 0 0],.i 4])) r) (uA [e,f] mi #[.agg #[.i a,.int .u8 b,.int .u8 c,d.v]] n λg j k l s=>loc [e,f] s λm=>R (.returned (.tuple #[.agg #[.i g,.int .u8 j,.int .u8 k,l.v],.i 0])) m)):Calls Tryz.prog oG #[.agg #[.i a,.int .u8 b,.int .u8 c,d.v]] w R:=aO X [] h
end regex_limited
namespace regex_flat_1
noncomputable abbrev X:Fx:=⟨Tryz.prog,Tryz.f188,[],[2]⟩
theorem cV (a b c:Int) (d:Sl) (k:Addr) (w:World) (R:aD) (h:bE [] w λm l=>
 cB l k λe f g j=>jK [m] eF #[.agg #[.i a,.int .u8 b,.int .u8 c,d.v],.agg #[.i e,.int .u8 f,.int .u8 g,j.v]] l λn o=>R (.returned (.bool n)) o):Calls Tryz.prog gk #[.agg #[.i a,.int .u8 b,.int .u8 c,d.v],.pointer (some k)] w R:=aO X [] h
end regex_flat_1
namespace slices_IndexFunc_sl_regex_Regex_regex_Regex
noncomputable abbrev X:Fx:=⟨Tryz.prog,Tryz.f189,[],[]⟩
abbrev P0:Ps:=[(0,.v [.s]),(1,.v [.f]),(7,.v [.I]),(8,.v [.I])]
def L0 (b:Sl) (a:Fv) (c d:Int) (w:World) (R:aD):Prop:=cJ P0 0 (X.Sem (bH [0,1,1,1,1])) b a c d w R
noncomputable def eC:=fZ X (bH [0,1,1,1,1]) P0 L0
theorem cF:∀(d:Sl) (c:Fv) (m b:Int) (w:World) (R:aD) (h:aF (decide (b<m)) ((0:Int)<=b/\b<((d.n:Nat):Int)/\aX d.a λe=>cB w (e.add (Int.toNat b *4)) λf g j k=>hG (fC Tryz.prog c.n) (Calls Tryz.prog c.n (c.bs++#[.agg #[.i f,.int .u8 g,.int .u8 j,k.v]]++c.cs) w λp o=>∃l:Bool,p=.returned (.bool l)/\
 aF l (R (.returned (.i b)) o) (L0 d c m (IntKind.wrap .i64 (b+1)) o R))) (R (.returned (.i (-1))) w)),L0 d c m b w R:=mp (dD (X:=X) [eC] (bH [0,1,1,1,1]) P0)
theorem ok (a:Sl) (b:Fv) (w:World) (R:aD) (h:L0 a b ((a.n:Nat):Int) 0 w R):Calls Tryz.prog cK #[a.v,b.v] w R:=aO X [eC] h
end slices_IndexFunc_sl_regex_Regex_regex_Regex
namespace slices_ContainsFunc_sl_regex_Regex_regex_Regex
noncomputable abbrev X:Fx:=⟨Tryz.prog,Tryz.f171,[],[]⟩
theorem ok (b:Sl) (a:Fv) (w:World) (R:aD) (h:BW cK #[b.v,a.v] w λc d=>R (.returned (.bool (decide (c>=0)))) d):Calls Tryz.prog cW #[b.v,a.v] w R:=aO X [] h
end slices_ContainsFunc_sl_regex_Regex_regex_Regex
namespace slices_DeleteFunc_sl_regex_Regex_regex_Regex
noncomputable abbrev X:Fx:=⟨Tryz.prog,Tryz.f187,[],[7]⟩
abbrev P0:Ps:=[(0,.v [.s]),(1,.v [.g gk 0 1,.r]),(5,.v [.I]),(6,.v [.I])]
def eH (d:Sl) (a:Addr) (b c:Int) (w:World) (R:aD):Prop:=cJ P0 0 (X.Sem (bH [0,1,1,1,3])) d a b c w R
noncomputable def eC:=fZ X (bH [0,1,1,1,3]) P0 eH
abbrev fY (d:Sl) (a:Addr) (b c:Int) (w:World) (R:aD):Prop:=
 eH d a b (IntKind.wrap .i64 (c+1)) w R
noncomputable def gn:=bK X [eC] (bH [2,2,1,1,3]) P0 fY
theorem bA:∀(b:Sl) (e:Addr) (d g:Int) (w:World) (R:aD) (h:aF (decide (g<((b.n:Nat):Int))) ((0:Int)<=g/\g<((b.n:Nat):Int)/\aX b.a λq=>cB w (q.add (Int.toNat g *4)) λj k l m=>bE [] w λo z=>
 loc [o] z λw6=>jK [o] gk #[.agg #[.i j,.int .u8 k,.int .u8 l,m.v],.pointer (some e)] w6 λy t=>aF (!y) ((0:Int)<=d/\d<((b.n:Nat):Int)/\aX b.a λf=>bX t (f.add (Int.toNat d *4)) (.i j) λu=>kept [o] t u/\
 bX u ((f.add (Int.toNat d *4)).add 1) (.int .u8 k) λx=>kept [o] u x/\
 bX x ((f.add (Int.toNat d *4)).add 2) (.int .u8 l) λp=>kept [o] x p/\
 bX p ((f.add (Int.toNat d *4)).add 3) (m.v) λr=>kept [o] p r/\
 fY b e (IntKind.wrap .i64 (d+1)) g r R) (fY b e d g t R)) ((0:Int)<=d/\d<=((b.n:Nat):Int)/\∃(s:World),Sem.run Tryz.prog (Builtin.clear_ #[aE] Km #[.slice (if b.c=(Int.toNat d) then b.a else b.a.map (·.add ((Int.toNat d) *4))) (b.n - (Int.toNat d)) (b.c - (Int.toNat d))]) w=.ok (.tuple #[]) s/\(0:Int)<=d/\d<=((b.c:Nat):Int)/\R (.returned (.slice (if b.c=0 then b.a else b.a.map (·.add (0 *4))) ((Int.toNat d) - 0) (b.c - 0))) s)),eH b e d g w R:=mp (dD (X:=X) [gn,eC] (bH [0,1,1,1,3]) P0)
theorem cV (c:Sl) (a:Addr) (w:World) (R:aD) (h:BW cK #[c.v,.func (.func gk) #[] #[.pointer (some a)]] w λb d=>aF (b==(-1)) (R (.returned (c.v)) d) (eH c a b (IntKind.wrap .i64 (b+1)) d R)):Calls Tryz.prog dF #[c.v,.func (.func gk) #[] #[.pointer (some a)]] w R:=aO X [gn,eC] h
end slices_DeleteFunc_sl_regex_Regex_regex_Regex
namespace slices_CompactFunc_sl_regex_Regex_regex_Regex
noncomputable abbrev X:Fx:=⟨Tryz.prog,Tryz.f176,[(6,ls [0,1,2,3,4,5,6,7,8,9,10]),(11,ls [0,1,2,3,4,5,6,7,8,9,10,11])],[]⟩
abbrev P0:Ps:=[(0,.v [.s]),(1,.v [.g eF 0 0]),(5,.v [.I])]
def L0 (b:Sl) (a:Int) (w:World) (R:aD):Prop:=cJ P0 0 (X.Sem (bH [0,1,1,1,2])) b a w R
noncomputable def eC:=fZ X (bH [0,1,1,1,2]) P0 L0
abbrev P1:Ps:=[(0,.v [.s]),(1,.v [.g eF 0 0]),(5,.v [.I]),(6,.v [.s]),(7,.v [.I])]
def L2 (d:Sl) (c:Int) (b:Sl) (a:Int) (w:World) (R:aD):Prop:=cJ P1 0 (X.Sem (bH [0,1,1,1,1,1,1,2,1,2,1,1,2])) d c b a w R
noncomputable def LN:=fZ X (bH [0,1,1,1,1,1,1,2,1,2,1,1,2]) P1 L2
abbrev S3 (d:Sl) (c:Int) (b:Sl) (a:Int) (w:World) (R:aD):Prop:=
 L2 d c b (IntKind.wrap .i64 (a+1)) w R
noncomputable def hC:=bK X [LN,eC] (bH [2,2,1,1,1,1,1,2,1,2,1,1,2]) P1 S3
theorem Hn:∀(d:Sl) (f:Int) (e:Sl) (b:Int) (w:World) (R:aD) (h:aF (decide (b<((e.n:Nat):Int))) (uU w λw1=>(0:Int)<=b/\b<((e.n:Nat):Int)/\aX e.a λg=>cB w1 (g.add (Int.toNat b *4)) λj k l m=>(0:Int)<=(IntKind.wrap .i64 (b - 1))/\(IntKind.wrap .i64 (b - 1))<((e.n:Nat):Int)/\aX e.a λo=>cB w1 (o.add (Int.toNat (IntKind.wrap .i64 (b - 1)) *4)) λp q r s=>zY eF #[.agg #[.i j,.int .u8 k,.int .u8 l,m.v],.agg #[.i p,.int .u8 q,.int .u8 r,s.v]] w1 λad w2=>aF (!ad) ((0:Int)<=b/\b<((e.n:Nat):Int)/\aX e.a λt=>cB w2 (t.add (Int.toNat b *4)) λu x y z=>(0:Int)<=f/\f<((d.n:Nat):Int)/\aX d.a λaa=>qx w2 (aa.add (Int.toNat f *4)) (.i u) (.int .u8 x) (.int .u8 y) (z.v) λw6=>S3 d (IntKind.wrap .i64 (f+1)) e b w6 R) (S3 d f e b w2 R)) ((0:Int)<=f/\f<=((d.n:Nat):Int)/\∃(w7:World),Sem.run Tryz.prog (Builtin.clear_ #[aE] Km #[.slice (if d.c=(Int.toNat f) then d.a else d.a.map (·.add ((Int.toNat f) *4))) (d.n - (Int.toNat f)) (d.c - (Int.toNat f))]) w=.ok (.tuple #[]) w7/\(0:Int)<=f/\f<=((d.c:Nat):Int)/\R (.returned (.slice (if d.c=0 then d.a else d.a.map (·.add (0 *4))) ((Int.toNat f) - 0) (d.c - 0))) w7)),L2 d f e b w R:=mp (dD (X:=X) [hC,LN,eC] (bH [0,1,1,1,1,1,1,2,1,2,1,1,2]) P1)
abbrev P2:Ps:=[(0,.v [.s]),(1,.v [.g eF 0 0]),(5,.v [.I]),(6,.v [.s])]
abbrev S1 (c:Sl) (b:Int) (a:Sl) (w:World) (R:aD):Prop:=
 L2 c b a 1 w R
noncomputable def gn:=bK X [hC,LN,eC] (bH [1,1,1,2,1,2,1,1,2]) P2 S1
theorem cF:∀(d:Sl) (b:Int) (w:World) (R:aD) (h:aF (decide (b<((d.n:Nat):Int))) (uU w λr=>(0:Int)<=b/\b<((d.n:Nat):Int)/\aX d.a λe=>cB r (e.add (Int.toNat b *4)) λf g j k=>(0:Int)<=(IntKind.wrap .i64 (b - 1))/\(IntKind.wrap .i64 (b - 1))<((d.n:Nat):Int)/\aX d.a λl=>cB r (l.add (Int.toNat (IntKind.wrap .i64 (b - 1)) *4)) λm o p q=>zY eF #[.agg #[.i f,.int .u8 g,.int .u8 j,k.v],.agg #[.i m,.int .u8 o,.int .u8 p,q.v]] r λs t=>aF s ((0:Int)<=b/\b<=((d.n:Nat):Int)/\S1 d b ⟨(if d.c=(Int.toNat b) then d.a else d.a.map (·.add ((Int.toNat b) *4))),(d.n - (Int.toNat b)),(d.c - (Int.toNat b))⟩ t R) (L0 d (IntKind.wrap .i64 (b+1)) t R)) (R (.returned (d.v)) w)),L0 d b w R:=mp (dD (X:=X) [gn,hC,LN,eC] (bH [0,1,1,1,2]) P0)
theorem ok (a:Sl) (w:World) (R:aD) (h:aF (decide (((a.n:Nat):Int)<2)) (R (.returned (a.v)) w) (L0 a 1 w R)):Calls Tryz.prog dB #[a.v,.func (.func eF) #[] #[]] w R:=aO X [gn,hC,LN,eC] h
end slices_CompactFunc_sl_regex_Regex_regex_Regex
namespace regex_flat
noncomputable abbrev X:Fx:=⟨Tryz.prog,Tryz.f170,[],[2,7]⟩
abbrev P0:Ps:=[(2,.l [.I,.Y,.Y,.s] aB),(3,.v [.r]),(5,.v [.s]),(9,.v [.s]),(10,.v [.I]),(11,.v [.I])]
def eH (j:Nat) (b c d:Int) (e:Sl) (a:Addr) (i k:Sl) (f g:Int) (w:World) (R:aD):Prop:=cJ P0 0 (X.Sem (bH [0,1,1,1,2])) j b c d e a i k f g w R
noncomputable def eC:=fZ X (bH [0,1,1,1,2]) P0 eH
abbrev fY (j:Nat) (b c d:Int) (e:Sl) (a:Addr) (i k:Sl) (f g:Int) (w:World) (R:aD):Prop:=
 eH j b c d e a i k f (IntKind.wrap .i64 (g+1)) w R
noncomputable def gn:=bK X [eC] (bH [3,2,1,1,2]) P0 fY
theorem bA:∀(d:Nat) (e f g:Int) (j:Sl) (b:Addr) (s o:Sl) (k c:Int) (w:World) (R:aD) (h:aF (decide (c<k)) ((0:Int)<=c/\c<((o.n:Nat):Int)/\aX o.a λt=>cB w (t.add (Int.toNat c *4)) λl u x m=>bE [d] w λr w3=>
 aF (l==e) (loc [d,r] w3 λq=>∃(y:Sl) (w8:World),Sem.run Tryz.prog (Builtin.append_ #[aE,aE] aE #[s.v,m.v]) q=.ok (y.v) w8/\kept [d,r] q w8/\fY d e f g j b y o k c w8 R) (loc [d,r] w3 λq=>fJ q (.cells #[.i l,.int .u8 u,.int .u8 x,m.v] aB) λw9=>
 ∃(z:Sl) (p:World),Sem.run Tryz.prog (Builtin.append_ #[aE,aE] aE #[s.v,.slice (some (nb q)) 1 1]) w9=.ok (z.v) p/\kept [d,r] w9 p/\fY d e f g j b z o k c p R)) (Ti [d] dF #[s.v,.func (.func gk) #[] #[.pointer (some b)]] w λab ac=>R (.returned (ab.v)) ac)),eH d e f g j b s o k c w R:=mp (dD (X:=X) [gn,eC] (bH [0,1,1,1,2]) P0)
theorem cV (f g j:Int) (e:Sl) (a b c:Int) (d:Sl) (w:World) (R:aD) (h:bE [] w λl k=>
 fJ k (.cells #[.i a,.int .u8 b,.int .u8 c,d.v] aB) λm=>
 eH l f g j e (nb k) ⟨none,0,0⟩ e ((e.n:Nat):Int) 0 m R):Calls Tryz.prog rl #[.agg #[.i f,.int .u8 g,.int .u8 j,e.v],.agg #[.i a,.int .u8 b,.int .u8 c,d.v]] w R:=aO X [gn,eC] h
end regex_flat
namespace regex_forms_1
noncomputable abbrev X:Fx:=⟨Tryz.prog,Tryz.f167,[],[1,2]⟩
theorem cV (a b c:Int) (d:Sl) (w:World) (R:aD) (h:bE [] w λe g=>
 bE [e] g λf j=>
 loc [e,f] j λk=>R (.returned (.agg #[.i a,.int .u8 b,.int .u8 c,d.v])) k):Calls Tryz.prog kq #[.agg #[.i a,.int .u8 b,.int .u8 c,d.v]] w R:=aO X [] h
end regex_forms_1
namespace regex_forms_2
noncomputable abbrev X:Fx:=⟨Tryz.prog,Tryz.f168,[],[]⟩
theorem ok (a b c:Int) (d:Sl) (e f g:Int) (j:Sl) (w:World) (R:aD) (h:fJ w (.cells #[.i a,.int .u8 b,.int .u8 c,d.v] aB) λk=>
 fJ k (.cells #[.i e,.int .u8 f,.int .u8 g,j.v] aB) λl=>
 R (.returned (.func (.func iW) #[] #[.pointer (some (nb w)),.pointer (some (nb k))])) l):Calls Tryz.prog mw #[.agg #[.i a,.int .u8 b,.int .u8 c,d.v],.agg #[.i e,.int .u8 f,.int .u8 g,j.v]] w R:=aO X [] h
end regex_forms_2
namespace regex_forms_2_1
noncomputable abbrev X:Fx:=⟨Tryz.prog,Tryz.f169,[],[3,4]⟩
abbrev P0:Ps:=[(1,.v [.r]),(3,.l [.I,.Y,.Y,.s] aB),(4,.l [.I,.Y,.Y,.s] aB),(5,.v [.s])]
abbrev dV (x:Addr) (o:Nat) (p s t:Int) (u:Sl) (q:Nat) (y z aa:Int) (ab b:Sl) (w:World) (R:aD):Prop:=
 aF (((b.n:Nat):Int)==0) (cB w x λc d e f=>loc [o,q] w λw4=>R (.returned (.agg #[.i c,.int .u8 d,.int .u8 e,f.v])) w4) (aF (((b.n:Nat):Int)==1) ((0:Int)<=0/\0<((b.n:Nat):Int)/\aX b.a λg=>cB w (g.add (Int.toNat 0 *4)) λj k l m=>loc [o,q] w λw8=>R (.returned (.agg #[.i j,.int .u8 k,.int .u8 l,m.v])) w8) (loc [o,q] w λr=>R (.returned (.agg #[.i p,.int .u8 0,.int .u8 0,b.v])) r))
noncomputable def eV:=bK X [] (bH [4]) P0 dV
theorem cV (a b c:Int) (d:Sl) (g p:Addr) (w:World) (R:aD) (h:bE [] w λe w1=>
 bE [e] w1 λf z=>
 cB z g λq r s t=>Ti [e,f] rl #[.agg #[.i a,.int .u8 b,.int .u8 c,d.v],.agg #[.i q,.int .u8 r,.int .u8 s,t.v]] z λn w3=>jK [e,f] cW #[n.v,.func (.func jq) #[] #[.pointer (some p)]] w3 λu o=>aF u (cB o p λj k l m=>loc [e,f] o λw8=>R (.returned (.agg #[.i j,.int .u8 k,.int .u8 l,m.v])) w8) (aF (a !=3) (QW [e,f] dQ #[n.v,.func (.func aT) #[] #[]] o λw9=>Ti [e,f] dB #[n.v,.func (.func eF) #[] #[]] w9 λx y=>dV g e a b c d f 0 0 0 ⟨none,0,0⟩ x y R) (dV g e a b c d f 0 0 0 ⟨none,0,0⟩ n o R))):Calls Tryz.prog iW #[.agg #[.i a,.int .u8 b,.int .u8 c,d.v],.pointer (some g),.pointer (some p)] w R:=aO X [eV] h
end regex_forms_2_1
namespace regex_forms_2_1_1
noncomputable abbrev X:Fx:=⟨Tryz.prog,Tryz.f172,[],[2]⟩
theorem cV (a b c:Int) (d:Sl) (k:Addr) (w:World) (R:aD) (h:bE [] w λm l=>
 cB l k λe f g j=>jK [m] eF #[.agg #[.i a,.int .u8 b,.int .u8 c,d.v],.agg #[.i e,.int .u8 f,.int .u8 g,j.v]] l λn o=>R (.returned (.bool n)) o):Calls Tryz.prog jq #[.agg #[.i a,.int .u8 b,.int .u8 c,d.v],.pointer (some k)] w R:=aO X [] h
end regex_forms_2_1_1
namespace regex_forms_3
noncomputable abbrev X:Fx:=⟨Tryz.prog,Tryz.f177,[],[1,2]⟩
theorem cV (c d e:Int) (b:Sl) (w:World) (R:aD) (h:bE [] w λq x=>
 bE [q] x λs g=>
 (0:Int)<=0/\0<((b.n:Nat):Int)/\aX b.a λr=>∃t:Int,g.cell? ((r.add (Int.toNat 0 *4)).add 0)=some (.i t)/\
 aF (t==6) ((0:Int)<=0/\0<((b.n:Nat):Int)/\aX b.a λj=>∃f:Sl,g.cell? ((j.add (Int.toNat 0 *4)).add 3)=some (f.v)/\
 (0:Int)<=0/\0<((f.n:Nat):Int)/\aX f.a λk=>cB g (k.add (Int.toNat 0 *4)) λl m o p=>loc [q,s] g λy=>R (.returned (.agg #[.i l,.int .u8 m,.int .u8 o,p.v])) y) (loc [q,s] g λu=>R (.returned (.agg #[.i c,.int .u8 d,.int .u8 e,b.v])) u)):Calls Tryz.prog iR #[.agg #[.i c,.int .u8 d,.int .u8 e,b.v]] w R:=aO X [] h
end regex_forms_3
namespace regex_forms_4
noncomputable abbrev X:Fx:=⟨Tryz.prog,Tryz.f178,[],[3,4,5]⟩
abbrev P0:Ps:=[(1,.v [.r]),(4,.l [.I,.Y,.Y,.s] aB)]
abbrev dV (e:Addr) (f:Nat) (g j k:Int) (l:Sl) (w:World) (R:aD):Prop:=
 cB w e λa b c d=>loc [f] w λm=>R (.returned (.agg #[.i a,.int .u8 b,.int .u8 c,d.v])) m
noncomputable def eV:=bK X [] (bH [0,1,1,1,2]) P0 dV
abbrev P1:Ps:=[(4,.l [.I,.Y,.Y,.s] aB),(5,.l [.I,.Y,.Y,.s] aB)]
abbrev fY (f:Nat) (g j k:Int) (l:Sl) (e:Nat) (a b c:Int) (d:Sl) (w:World) (R:aD):Prop:=
 loc [f,e] w λm=>R (.returned (.agg #[.i a,.int .u8 b,.int .u8 c,d.v])) m
noncomputable def gn:=bK X [eV] (bH [0,1,1,1,3]) P1 fY
theorem cV (m o p:Int) (d:Sl) (x z:Addr) (w:World) (R:aD) (h:bE [] w λe w1=>
 bE [e] w1 λc w2=>
 (0:Int)<=0/\0<((d.n:Nat):Int)/\aX d.a λy=>cB w2 (y.add (Int.toNat 0 *4)) λb j k l=>bE [e,c] w2 λf u=>
 aF (b==0) (loc [e,c,f] u λg=>dV x c 0 0 0 ⟨none,0,0⟩ g R) (aF (b==1) (loc [e,c,f] u λg=>dV x c 0 0 0 ⟨none,0,0⟩ g R) (aF (b==7) (loc [e,c,f] u λg=>fY c 0 0 0 ⟨none,0,0⟩ f b j k l g R) (loc [e,c,f] u λg=>cB g z λq r s t=>jK [e,c,f] eF #[.agg #[.i b,.int .u8 j,.int .u8 k,l.v],.agg #[.i q,.int .u8 r,.int .u8 s,t.v]] g λaa w8=>aF aa (fY c 0 0 0 ⟨none,0,0⟩ f b j k l w8 R) (loc [e,c,f] w8 λab=>R (.returned (.agg #[.i m,.int .u8 o,.int .u8 p,d.v])) ab))))):Calls Tryz.prog iS #[.agg #[.i m,.int .u8 o,.int .u8 p,d.v],.pointer (some x),.pointer (some z)] w R:=aO X [gn,eV] h
end regex_forms_4
namespace regex_normal
noncomputable abbrev X:Fx:=⟨Tryz.prog,Tryz.f149,[(5,ls [0,1,2,3,4,5,6,7,8])],[]⟩
abbrev P0:Ps:=[(0,.v [.m]),(3,.v [.r]),(4,.v [.r]),(5,.v [.r]),(16,.v [.s]),(17,.v [.I]),(18,.v [.I])]
def L0 (d:Option Nat) (f g e:Addr) (a:Sl) (b c:Int) (w:World) (R:aD):Prop:=cJ P0 0 (X.Sem (bH [0,1,1,1,2])) d f g e a b c w R
noncomputable def eC:=fZ X (bH [0,1,1,1,2]) P0 L0
theorem cF:∀(q:Option Nat) (r3 t4 d:Addr) (e:Sl) (m c:Int) (w:World) (R:aD) (h:aF (decide (c<m)) ((0:Int)<=c/\c<((e.n:Nat):Int)/\aX e.a λr=>cB w (r.add (Int.toNat c *4)) λs t u x=>fJ w (.cells #[.i 0,.int .u8 0,.int .u8 0,.slice none 0 0] aB) λw8=>
 qx w8 (nb w) (.i s) (.int .u8 t) (.int .u8 u) (x.v) λax=>uU ax λo=>∃f:Sl,o.cell? (d.add 3)=some (f.v)/\
 cB o (nb w) λy z aa ab=>NX lu #[.map q,.agg #[.i y,.int .u8 z,.int .u8 aa,ab.v]] o λac ad ae af p=>p.cell? (d.add 3)=some (f.v)/\fJ p (.cells #[.i ac,.int .u8 ad,.int .u8 ae,af.v] aB) λan=>
 an.cell? (d.add 3)=some (f.v)/\∃(al:Sl) (ao:World),Sem.run Tryz.prog (Builtin.append_ #[aE,aE] aE #[f.v,.slice (some (nb p)) 1 1]) an=.ok (al.v) ao/\bX ao (d.add 3) (al.v) λay=>
 L0 q r3 t4 d e m (IntKind.wrap .i64 (c+1)) ay R) (∃am:Int,w.cell? (r3.add 0)=some (.i am)/\
 ∃b:Fv,Sem.run Tryz.prog (Instr.lookup aN (.map q) (.i am) false) w=.ok (b.v) w/\cB w d λag ah ai aj=>hG (fC Tryz.prog b.n) (Calls Tryz.prog b.n (b.bs++#[.agg #[.i ag,.int .u8 ah,.int .u8 ai,aj.v]]++b.cs) w λr_ az=>∃g:Int,∃j:Int,∃k:Int,∃l:Sl,r_=.returned (.agg #[.i g,.int .u8 j,.int .u8 k,l.v])/\
 qx az t4 (.i g) (.int .u8 j) (.int .u8 k) (l.v) λap=>cB ap t4 λar au av aw=>R (.returned (.agg #[.i ar,.int .u8 au,.int .u8 av,aw.v])) ap))),L0 q r3 t4 d e m c w R:=mp (dD (X:=X) [eC] (bH [0,1,1,1,2]) P0)
theorem ok (k:Option Nat) (b c d:Int) (e:Sl) (w:World) (R:aD) (h:fJ w (.cells #[.i b,.int .u8 c,.int .u8 d,e.v] aB) λm=>
 fJ m (.cells #[.i 0,.int .u8 0,.int .u8 0,.slice none 0 0] aB) λa=>
 ∃l:Int,a.cell? ((nb w).add 0)=some (.i l)/\
 ∃g:Int,a.cell? ((nb w).add 1)=some (.int .u8 g)/\
 ∃j:Int,a.cell? ((nb w).add 2)=some (.int .u8 j)/\
 fJ a (.cells #[.i 0,.int .u8 0,.int .u8 0,.slice none 0 0] aB) λp=>
 qx p (nb a) (.i l) (.int .u8 g) (.int .u8 j) (.slice none 0 0) λo=>∃f:Sl,o.cell? ((nb w).add 3)=some (f.v)/\
 L0 k (nb w) (nb m) (nb a) f ((f.n:Nat):Int) 0 o R):Calls Tryz.prog lu #[.map k,.agg #[.i b,.int .u8 c,.int .u8 d,e.v]] w R:=aO X [eC] h
end regex_normal
namespace regex_forms
noncomputable def C0:Code:=(Tryz.f150.body).getD .skip
noncomputable def C1:=C0.sn
noncomputable def C2:=C1.sn
noncomputable def C3:=C2.sn
noncomputable def C4:=C3.sn
noncomputable def C5:=C4.sn
noncomputable def C6:=C5.sn
theorem ok (w:World) (R:aD) (h:fJ w (.cells #[.i 0,.int .u8 0,.int .u8 0,.slice none 0 0] aB) λe=>
 fJ e (.cells #[.i 0,.int .u8 0,.int .u8 0,.slice none 0 0] aB) λp=>
 qx p (nb w) (.i 0) (.int .u8 0) (.int .u8 0) (.slice none 0 0) λq=>bX q (nb e) (.i 1) λr=>
 bX r ((nb e).add 1) (.int .u8 0) λs=>
 bX s ((nb e).add 2) (.int .u8 0) λt=>
 bX t ((nb e).add 3) (.slice none 0 0) λd=>
 cB d (nb w) λf g j k=>fJ d (.cells #[.i f,.int .u8 g,.int .u8 j,k.v] aB) λl=>
 fJ l (.cells #[.i 0,.int .u8 0,.int .u8 0,.slice none 0 0] aB) λm=>
 qx m (nb l) (.i 6) (.int .u8 0) (.int .u8 0) (.slice (some (nb d)) 1 1) λn=>W0 Tryz.prog C5 (λE w=>rJ Tryz.prog Tryz.f150 E w (λv=>R (.returned v) w)) [(5,.func (.func mw) #[] #[]),(4,.func (.func kq) #[] #[]),(3,.pointer (some (nb l))),(10,.agg #[.i 6,.int .u8 0,.int .u8 0,.slice (some (nb d)) 1 1]),(9,.slice (some (nb d)) 1 1),(8,.agg #[.i f,.int .u8 g,.int .u8 j,k.v]),(2,.pointer (some (nb e))),(1,.pointer (some (nb w))),(7,.agg #[.i 1,.int .u8 0,.int .u8 0,.slice none 0 0]),(6,.agg #[.i 0,.int .u8 0,.int .u8 0,.slice none 0 0]),(0,.map none)] n):Calls Tryz.prog qu #[] w R:=
 oW (R:=R) (fn:=Tryz.f150) (c:=C0) (args:=[]) (by kernel_rfl) (by kernel_rfl) (by kernel_rfl) (sr C0 (show (λ(E:Env) (w:World)=>xQ Tryz.prog C0 (λE w=>xQ Tryz.prog C1 (λE w=>xQ Tryz.prog C2 (λE w=>xQ Tryz.prog C3 (λE w=>xQ Tryz.prog C4 (λE w=>W0 Tryz.prog C5 (λE w=>rJ Tryz.prog Tryz.f150 E w (λv=>R (.returned v) w)) E w) E w) E w) E w) E w) E w) (rF 0 []) w from mp h) λ_ _ b=>(sr C1 b λ_ _ b=>(sr C2 b λ_ _ b=>(sr C3 b λ_ _ b=>(sr C4 b λ_ _ b=>(si C5 (by kernel_rfl) b λ_ _ b=>(rt C6 λa o=>qg o b)))))))
end regex_forms
namespace math_bits_Len64
noncomputable abbrev X:Fx:=⟨Tryz.prog,Tryz.f209,[],[]⟩
abbrev P0:Ps:=[(0,.v [.U]),(2,.v [.I])]
abbrev S2 (b c:Int) (w:World) (R:aD):Prop:=
 (0:Int)<=(IntKind.wrap .u8 b)/\∃a:UInt8,(ByteArray.mk #[0,1,2,2,3,3,3,3,4,4,4,4,4,4,4,4,5,5,5,5,5,5,5,5,5,5,5,5,5,5,5,5,6,6,6,6,6,6,6,6,6,6,6,6,6,6,6,6,6,6,6,6,6,6,6,6,6,6,6,6,6,6,6,6,7,7,7,7,7,7,7,7,7,7,7,7,7,7,7,7,7,7,7,7,7,7,7,7,7,7,7,7,7,7,7,7,7,7,7,7,7,7,7,7,7,7,7,7,7,7,7,7,7,7,7,7,7,7,7,7,7,7,7,7,7,7,7,7,8,8,8,8,8,8,8,8,8,8,8,8,8,8,8,8,8,8,8,8,8,8,8,8,8,8,8,8,8,8,8,8,8,8,8,8,8,8,8,8,8,8,8,8,8,8,8,8,8,8,8,8,8,8,8,8,8,8,8,8,8,8,8,8,8,8,8,8,8,8,8,8,8,8,8,8,8,8,8,8,8,8,8,8,8,8,8,8,8,8,8,8,8,8,8,8,8,8,8,8,8,8,8,8,8,8,8,8,8,8,8,8,8,8,8,8,8,8,8,8,8,8,8,8,8,8,8,8])[Int.toNat (IntKind.wrap .u8 b)]? =some a/\R (.returned (.i (IntKind.wrap .i64 (c+(IntKind.wrap .i64 ((a.toNat:Nat):Int)))))) w
noncomputable def fL:=bK X [] (bH [4]) P0 S2
abbrev S1 (a b:Int) (w:World) (R:aD):Prop:=
 aF (decide (a>=256)) (S2 (Int.fdiv a (2^(8))) (IntKind.wrap .i64 (b+8)) w R) (S2 a b w R)
noncomputable def gn:=bK X [fL] (bH [3]) P0 S1
abbrev S0 (a b:Int) (w:World) (R:aD):Prop:=
 aF (decide (a>=65536)) (S1 (Int.fdiv a (2^(16))) (IntKind.wrap .i64 (b+16)) w R) (S1 a b w R)
noncomputable def eV:=bK X [gn,fL] (bH [2]) P0 S0
theorem ok (a:Int) (w:World) (R:aD) (h:aF (decide (a>=4294967296)) (S0 (Int.fdiv a (2^(32))) 32 w R) (S0 a 0 w R)):Calls Tryz.prog qb #[.u a] w R:=aO X [eV,gn,fL] h
end math_bits_Len64
namespace math_bits_Len
noncomputable abbrev X:Fx:=⟨Tryz.prog,Tryz.f191,[],[]⟩
theorem ok (a:Int) (w:World) (R:aD) (h:BW qb #[.u a] w λb c=>R (.returned (.i b)) c):Calls Tryz.prog oF #[.u a] w R:=aO X [] h
end math_bits_Len
namespace slices_insertionSortCmpFunc_regex_Regex
noncomputable abbrev X:Fx:=⟨Tryz.prog,Tryz.f200,[(4,ls [0,1,2,3,4,5,6,7,8,9,10,11,12,13,14,15,16]),(6,ls [0,1,2,3,4,5,6,7,8,9,10,11,12,13,14,15,16,17])],[]⟩
abbrev P0:Ps:=[(0,.v [.s]),(1,.v [.I]),(2,.v [.I]),(3,.v [.g aT 0 0]),(8,.v [.I])]
def L0 (a:Sl) (b c d:Int) (w:World) (R:aD):Prop:=cJ P0 0 (X.Sem (bH [0,1,1])) a b c d w R
noncomputable def eC:=fZ X (bH [0,1,1]) P0 L0
abbrev P1:Ps:=[(0,.v [.s]),(1,.v [.I]),(2,.v [.I]),(3,.v [.g aT 0 0]),(8,.v [.I]),(9,.v [.I])]
def L1 (a:Sl) (b c d e:Int) (w:World) (R:aD):Prop:=cJ P1 0 (X.Sem (bH [0,1,1,2,1,2,1])) a b c d e w R
noncomputable def kX:=fZ X (bH [0,1,1,2,1,2,1]) P1 L1
abbrev S2 (a:Sl) (b c d:Int) (w:World) (R:aD):Prop:=
 L0 a b c (IntKind.wrap .i64 (d+1)) w R
noncomputable def fL:=bK X [kX,eC] (bH [2,2,1]) P0 S2
theorem nY:∀(b:Sl) (d e f c:Int) (w:World) (R:aD) (h:uU w λw1=>aF (decide (c>d)) ((0:Int)<=c/\c<((b.n:Nat):Int)/\aX b.a λg=>cB w1 (g.add (Int.toNat c *4)) λj k l m=>(0:Int)<=(IntKind.wrap .i64 (c - 1))/\(IntKind.wrap .i64 (c - 1))<((b.n:Nat):Int)/\aX b.a λo=>cB w1 (o.add (Int.toNat (IntKind.wrap .i64 (c - 1)) *4)) λp q r s=>BW aT #[.agg #[.i j,.int .u8 k,.int .u8 l,m.v],.agg #[.i p,.int .u8 q,.int .u8 r,s.v]] w1 λaj w2=>aF (decide (aj<0)) (uU w2 λw3=>(0:Int)<=(IntKind.wrap .i64 (c - 1))/\(IntKind.wrap .i64 (c - 1))<((b.n:Nat):Int)/\aX b.a λt=>cB w3 (t.add (Int.toNat (IntKind.wrap .i64 (c - 1)) *4)) λu x y z=>(0:Int)<=c/\c<((b.n:Nat):Int)/\aX b.a λaa=>cB w3 (aa.add (Int.toNat c *4)) λab ac ad ae=>(0:Int)<=c/\c<((b.n:Nat):Int)/\aX b.a λaf=>qx w3 (af.add (Int.toNat c *4)) (.i u) (.int .u8 x) (.int .u8 y) (z.v) λw7=>(0:Int)<=(IntKind.wrap .i64 (c - 1))/\(IntKind.wrap .i64 (c - 1))<((b.n:Nat):Int)/\aX b.a λag=>qx w7 (ag.add (Int.toNat (IntKind.wrap .i64 (c - 1)) *4)) (.i ab) (.int .u8 ac) (.int .u8 ad) (ae.v) λak=>L1 b d e f (IntKind.wrap .i64 (c - 1)) ak R) (S2 b d e f w2 R)) (S2 b d e f w1 R)),L1 b d e f c w R:=mp (dD (X:=X) [fL,kX,eC] (bH [0,1,1,2,1,2,1]) P1)
theorem cF:∀(a:Sl) (d c b:Int) (w:World) (R:aD) (h:aF (decide (b<c)) (L1 a d c b b w R) (R (.returned (.tuple #[])) w)),L0 a d c b w R:=mp (dD (X:=X) [fL,kX,eC] (bH [0,1,1]) P0)
theorem ok (a:Sl) (b c:Int) (w:World) (R:aD) (h:L0 a b c (IntKind.wrap .i64 (b+1)) w R):Calls Tryz.prog dZ #[a.v,.i b,.i c,.func (.func aT) #[] #[]] w R:=aO X [fL,kX,eC] h
end slices_insertionSortCmpFunc_regex_Regex
namespace slices_pdqsortCmpFunc_regex_Regex
noncomputable abbrev X:Fx:=⟨Tryz.prog,Tryz.f190,[(17,ls [0,1,2,3,4,5,6,7,8,9,10,11,12,13,14,15,16])],[]⟩
abbrev P0:Ps:=[(0,.v [.s]),(1,.v [.I]),(2,.v [.I]),(3,.v [.I]),(4,.v [.g aT 0 0]),(10,.v [.b]),(11,.v [.b])]
def L0 (d:Sl) (e f c:Int) (b a:Bool) (w:World) (R:aD):Prop:=cJ P0 0 (X.Sem (bH [0,1,2])) d e f c b a w R
noncomputable def eC:=fZ X (bH [0,1,2]) P0 L0
abbrev P1:Ps:=[(0,.v [.s]),(1,.v [.I]),(2,.v [.I]),(3,.v [.I]),(4,.v [.g aT 0 0]),(10,.v [.b]),(11,.v [.b]),(16,.v [.I])]
abbrev S9 (d:Sl) (f g c:Int) (b a:Bool) (e:Int) (w:World) (R:aD):Prop:=
 xI dS #[d.v,.i f,.i e,.i c,.func (.func aT) #[] #[]] w λj=>L0 d (IntKind.wrap .i64 (e+1)) g c b a j R
noncomputable def AX:=bK X [eC] (bH [1,1,13,3,2]) P1 S9
abbrev S10 (d:Sl) (f g c:Int) (b a:Bool) (e:Int) (w:World) (R:aD):Prop:=
 xI dS #[d.v,.i (IntKind.wrap .i64 (e+1)),.i g,.i c,.func (.func aT) #[] #[]] w λj=>L0 d f e c b a j R
noncomputable def Ai:=bK X [AX,eC] (bH [15,3,2]) P1 S10
abbrev P2:Ps:=[(0,.v [.s]),(1,.v [.I]),(2,.v [.I]),(3,.v [.I]),(4,.v [.g aT 0 0]),(11,.v [.b]),(16,.v [.I]),(18,.v [.I]),(19,.v [.I]),(20,.v [.I])]
abbrev S8 (f:Sl) (i j e:Int) (b:Bool) (g d c a:Int) (w:World) (R:aD):Prop:=
 aF (decide (d<c)) (S9 f i j e (decide (d>=a)) b g w R) (S10 f i j e (decide (c>=a)) b g w R)
noncomputable def yI:=bK X [Ai,AX,eC] (bH [12,3,2]) P2 S8
abbrev P3:Ps:=[(0,.v [.s]),(1,.v [.I]),(2,.v [.I]),(3,.v [.I]),(4,.v [.g aT 0 0]),(11,.v [.b]),(12,.v [.I]),(16,.v [.I]),(18,.v [.I]),(19,.v [.I])]
abbrev S7 (f:Sl) (i j e:Int) (a:Bool) (d g c b:Int) (w:World) (R:aD):Prop:=
 S8 f i j e a g c b (IntKind.wrap .i64 (Int.tdiv d 8)) w R
noncomputable def sv:=bK X [yI,Ai,AX,eC] (bH [11,3,2]) P3 S7
abbrev P4:Ps:=[(0,.v [.s]),(1,.v [.I]),(2,.v [.I]),(3,.v [.I]),(4,.v [.g aT 0 0]),(12,.v [.I]),(13,.v [.I])]
abbrev S6 (c:Sl) (g j e b d:Int) (w:World) (R:aD):Prop:=
 ca6 lK #[c.v,.i g,.i j,.i d,.func (.func aT) #[] #[]] w λa f k=>S7 c g j e f b a (IntKind.wrap .i64 (a - g)) (IntKind.wrap .i64 (j - a)) k R
noncomputable def qz:=bK X [sv,yI,Ai,AX,eC] (bH [8,3,2]) P4 S6
abbrev P5:Ps:=[(0,.v [.s]),(1,.v [.I]),(2,.v [.I]),(3,.v [.I]),(4,.v [.g aT 0 0]),(10,.v [.b]),(11,.v [.b]),(12,.v [.I]),(13,.v [.I])]
abbrev S5 (c:Sl) (j k g:Int) (e d:Bool) (f b:Int) (w:World) (R:aD):Prop:=
 uU w λy=>aF (decide (j>0)) ((0:Int)<=(IntKind.wrap .i64 (j - 1))/\(IntKind.wrap .i64 (j - 1))<((c.n:Nat):Int)/\aX c.a λl=>cB y (l.add (Int.toNat (IntKind.wrap .i64 (j - 1)) *4)) λm o p q=>(0:Int)<=b/\b<((c.n:Nat):Int)/\aX c.a λr=>cB y (r.add (Int.toNat b *4)) λs t u x=>BW aT #[.agg #[.i m,.int .u8 o,.int .u8 p,q.v],.agg #[.i s,.int .u8 t,.int .u8 u,x.v]] y λaa w2=>aF (!(decide (aa<0))) (BW kc #[c.v,.i j,.i k,.i b,.func (.func aT) #[] #[]] w2 λz w3=>L0 c z k g e d w3 R) (S6 c j k g f b w2 R)) (S6 c j k g f b y R)
noncomputable def vQ:=bK X [qz,sv,yI,Ai,AX,eC] (bH [7,3,2]) P5 S5
abbrev P6:Ps:=[(0,.v [.s]),(1,.v [.I]),(2,.v [.I]),(3,.v [.I]),(4,.v [.g aT 0 0]),(10,.v [.b]),(11,.v [.b]),(12,.v [.I]),(13,.v [.I]),(14,.v [.I])]
abbrev S4 (e:Sl) (g j f:Int) (b a:Bool) (c d k:Int) (w:World) (R:aD):Prop:=
 aF b (aF a (aF (k==1) (zY iQ #[e.v,.i g,.i j,.func (.func aT) #[] #[]] w λl m=>aF l (R (.returned (.tuple #[])) m) (S5 e g j f b a c d m R)) (S5 e g j f b a c d w R)) (S5 e g j f b a c d w R)) (S5 e g j f b a c d w R)
noncomputable def kK:=bK X [vQ,qz,sv,yI,Ai,AX,eC] (bH [6,3,2]) P6 S4
abbrev S3 (f:Sl) (g i e:Int) (b a:Bool) (c d:Int) (w:World) (R:aD):Prop:=
 S4 f g i e b a c d 1 w R
noncomputable def hC:=bK X [kK,vQ,qz,sv,yI,Ai,AX,eC] (bH [2,1,1,1,5,3,2]) P5 S3
abbrev P7:Ps:=[(0,.v [.s]),(1,.v [.I]),(2,.v [.I]),(3,.v [.I]),(4,.v [.g aT 0 0]),(10,.v [.b]),(11,.v [.b]),(12,.v [.I])]
abbrev S2 (c:Sl) (j k e:Int) (b a:Bool) (d:Int) (w:World) (R:aD):Prop:=
 ca5 kW #[c.v,.i j,.i k,.func (.func aT) #[] #[]] w λf g l=>aF (g==2) (xI kG #[c.v,.i j,.i k,.func (.func aT) #[] #[]] l λm=>S3 c j k e b a d (IntKind.wrap .i64 ((IntKind.wrap .i64 (k - 1)) - (IntKind.wrap .i64 (f - j)))) m R) (S4 c j k e b a d f g l R)
noncomputable def fL:=bK X [hC,kK,vQ,qz,sv,yI,Ai,AX,eC] (bH [4,3,2]) P7 S2
abbrev S1 (d:Sl) (f g e:Int) (a b:Bool) (c:Int) (w:World) (R:aD):Prop:=
 aF (decide (c<=12)) (xI dZ #[d.v,.i f,.i g,.func (.func aT) #[] #[]] w λj=>R (.returned (.tuple #[])) j) (aF (e==0) (xI lW #[d.v,.i f,.i g,.func (.func aT) #[] #[]] w λk=>R (.returned (.tuple #[])) k) (aF (!a) (xI kr #[d.v,.i f,.i g,.func (.func aT) #[] #[]] w λl=>S2 d f g (IntKind.wrap .i64 (e - 1)) a b c l R) (S2 d f g e a b c w R)))
noncomputable def gn:=bK X [fL,hC,kK,vQ,qz,sv,yI,Ai,AX,eC] (bH [1,3,2]) P7 S1
theorem cF:∀(d:Sl) (e f c:Int) (b a:Bool) (w:World) (R:aD) (h:S1 d e f c b a (IntKind.wrap .i64 (f - e)) w R),L0 d e f c b a w R:=mp (dD (X:=X) [gn,fL,hC,kK,vQ,qz,sv,yI,Ai,AX,eC] (bH [0,1,2]) P0)
theorem ok (b:Sl) (c d a:Int) (w:World) (R:aD) (h:L0 b c d a true true w R):Calls Tryz.prog dS #[b.v,.i c,.i d,.i a,.func (.func aT) #[] #[]] w R:=aO X [gn,fL,hC,kK,vQ,qz,sv,yI,Ai,AX,eC] h
end slices_pdqsortCmpFunc_regex_Regex
namespace slices_SortFunc_sl_regex_Regex_regex_Regex
noncomputable abbrev X:Fx:=⟨Tryz.prog,Tryz.f174,[],[]⟩
theorem ok (a:Sl) (w:World) (R:aD) (h:BW oF #[.u (IntKind.wrap .u64 ((a.n:Nat):Int))] w λb c=>xI dS #[a.v,.i 0,.i ((a.n:Nat):Int),.i b,.func (.func aT) #[] #[]] c λd=>R (.returned (.tuple #[])) d):Calls Tryz.prog dQ #[a.v,.func (.func aT) #[] #[]] w R:=aO X [] h
end slices_SortFunc_sl_regex_Regex_regex_Regex
namespace enthymemeref04_Compare
noncomputable abbrev X:Fx:=⟨Tryz.prog,Tryz.f140,[(6,ls [0,1,2,3,4,5,6,7,8]),(8,ls [0,1,2,3,4,5,6,7,8]),(13,ls [0,1,2,3,4,5,6,7,8,9,10,11])],[2,3]⟩
abbrev P0:Ps:=[(2,.l [.I,.Y,.Y,.s] aA),(3,.l [.I,.Y,.Y,.s] aA),(5,.v [.s]),(6,.v [.s]),(7,.v [.I])]
def eH (j:Nat) (a b c:Int) (d:Sl) (k:Nat) (e f g:Int) (i m n:Sl) (l:Int) (w:World) (R:aD):Prop:=cJ P0 0 (X.Sem (bH [0,1,1,1,3])) j a b c d k e f g i m n l w R
noncomputable def eC:=fZ X (bH [0,1,1,1,3]) P0 eH
abbrev P1:Ps:=[(2,.l [.I,.Y,.Y,.s] aA),(3,.l [.I,.Y,.Y,.s] aA),(8,.v [.I])]
def l4 (j:Nat) (a b c:Int) (d:Sl) (k:Nat) (e f g:Int) (i:Sl) (l:Int) (w:World) (R:aD):Prop:=cJ P1 0 (X.Sem (bH [0,1,1,1,4])) j a b c d k e f g i l w R
noncomputable def kX:=fZ X (bH [0,1,1,1,4]) P1 l4
abbrev P2:Ps:=[(2,.l [.I,.Y,.Y,.s] aA),(3,.l [.I,.Y,.Y,.s] aA)]
abbrev eY (k:Nat) (c d e:Int) (a:Sl) (l:Nat) (f g j:Int) (b:Sl) (w:World) (R:aD):Prop:=
 aF (decide (((a.n:Nat):Int)<((b.n:Nat):Int))) (R (.returned (.i (-1))) w) (aF (decide (((a.n:Nat):Int)>((b.n:Nat):Int))) (R (.returned (.i 1)) w) (R (.returned (.i 0)) w))
noncomputable def fL:=bK X [kX,eC] (bH [5]) P2 eY
theorem dJ:∀(m:Nat) (e f g:Int) (b:Sl) (o:Nat) (j k l:Int) (c:Sl) (d:Int) (w:World) (R:aD) (h:aF (decide (d<((b.n:Nat):Int))) (aF (decide (d<((c.n:Nat):Int))) ((0:Int)<=d/\d<((b.n:Nat):Int)/\aX b.a λp=>loc [m,o] w λw7=>cB w7 (p.add (Int.toNat d *4)) λq r s t=>(0:Int)<=d/\d<((c.n:Nat):Int)/\aX c.a λu=>cB w7 (u.add (Int.toNat d *4)) λx y z aa=>mW [m,o] cG #[.agg #[.i q,.int .u8 r,.int .u8 s,t.v],.agg #[.i x,.int .u8 y,.int .u8 z,aa.v]] w7 λab w8=>aF (ab !=0) (R (.returned (.i ab)) w8) (l4 m e f g b o j k l c (IntKind.wrap .i64 (d+1)) w8 R)) (eY m e f g b o j k l c w R)) (eY m e f g b o j k l c w R)),l4 m e f g b o j k l c d w R:=mp (dD (X:=X) [fL,kX,eC] (bH [0,1,1,1,4]) P1)
theorem bA:∀(p:Nat) (c d e:Int) (f:Sl) (q:Nat) (g j k:Int) (l m o:Sl) (b:Int) (w:World) (R:aD) (h:aF (decide (b<3)) ((0:Int)<=b/\b<((m.n:Nat):Int)/\aX m.a λr=>loc [p,q] w λv=>∃y:Int,v.cell? (r.add (Int.toNat b *1))=some (.i y)/\
 (0:Int)<=b/\b<((o.n:Nat):Int)/\aX o.a λs=>∃z:Int,v.cell? (s.add (Int.toNat b *1))=some (.i z)/\
 aF (decide (y<z)) (R (.returned (.i (-1))) v) ((0:Int)<=b/\b<((m.n:Nat):Int)/\aX m.a λt=>loc [p,q] v λx=>∃aa:Int,x.cell? (t.add (Int.toNat b *1))=some (.i aa)/\
 (0:Int)<=b/\b<((o.n:Nat):Int)/\aX o.a λu=>∃ab:Int,x.cell? (u.add (Int.toNat b *1))=some (.i ab)/\
 aF (decide (aa>ab)) (R (.returned (.i 1)) x) (eH p c d e f q g j k l m o (IntKind.wrap .i64 (b+1)) x R))) (l4 p c d e f q g j k l 0 w R)),eH p c d e f q g j k l m o b w R:=mp (dD (X:=X) [fL,kX,eC] (bH [0,1,1,1,3]) P0)
theorem cV (a b c:Int) (g:Sl) (d e f:Int) (j:Sl) (w:World) (R:aD) (h:bE [] w λk o=>
 bE [k] o λn l=>
 fJ l (.cells #[.i a,.i (IntKind.wrap .i64 b),.i (IntKind.wrap .i64 c)] bW) λm=>
 fJ m (.cells #[.i d,.i (IntKind.wrap .i64 e),.i (IntKind.wrap .i64 f)] bW) λp=>
 eH k a b c g n d e f j ⟨some (nb l),3,3⟩ ⟨some (nb m),3,3⟩ 0 p R):Calls Tryz.prog cG #[.agg #[.i a,.int .u8 b,.int .u8 c,g.v],.agg #[.i d,.int .u8 e,.int .u8 f,j.v]] w R:=aO X [fL,kX,eC] h
end enthymemeref04_Compare
namespace enthymemeref04_Nodes
noncomputable abbrev X:Fx:=⟨Tryz.prog,Tryz.f122,[],[1]⟩
abbrev P0:Ps:=[(1,.l [.I,.Y,.Y,.s] aA),(3,.v [.I]),(4,.v [.I])]
def eH (g:Nat) (a b c:Int) (d:Sl) (f e:Int) (w:World) (R:aD):Prop:=cJ P0 0 (X.Sem (bH [0,1,1,1,2])) g a b c d f e w R
noncomputable def eC:=fZ X (bH [0,1,1,1,2]) P0 eH
abbrev fY (g:Nat) (a b c:Int) (d:Sl) (f e:Int) (w:World) (R:aD):Prop:=
 eH g a b c d f (IntKind.wrap .i64 (e+1)) w R
noncomputable def gn:=bK X [eC] (bH [2,2,1,1,2]) P0 fY
theorem bA:∀(p:Nat) (d e f:Int) (b:Sl) (o c:Int) (w:World) (R:aD) (h:aF (decide (c<((b.n:Nat):Int))) ((0:Int)<=c/\c<((b.n:Nat):Int)/\aX b.a λg=>cB w (g.add (Int.toNat c *4)) λj k l m=>mW [p] dX #[.agg #[.i j,.int .u8 k,.int .u8 l,m.v]] w λq r=>fY p d e f b (IntKind.wrap .i64 (o+q)) c r R) (R (.returned (.i o)) w)),eH p d e f b o c w R:=mp (dD (X:=X) [gn,eC] (bH [0,1,1,1,2]) P0)
theorem cV (a b c:Int) (d:Sl) (w:World) (R:aD) (h:bE [] w λe f=>
 eH e a b c d 1 0 f R):Calls Tryz.prog dX #[.agg #[.i a,.int .u8 b,.int .u8 c,d.v]] w R:=aO X [gn,eC] h
end enthymemeref04_Nodes
namespace enthymemeref04_good
noncomputable abbrev X:Fx:=⟨Tryz.prog,Tryz.f137,[(3,ls [0,1,2,3,4,5,6,7,8,9,10,11,12,13,14,15,16,17,18,19,20,21,22,23,24,25,26,27,28,29])],[1]⟩
abbrev P0:Ps:=[]
abbrev dV (w:World) (R:aD):Prop:=
 R (.returned (.bool false)) w
noncomputable def eV:=bK X [] (bH [0,1,1,1,3]) P0 dV
abbrev fY (w:World) (R:aD):Prop:=
 R (.returned (.bool false)) w
noncomputable def gn:=bK X [eV] (bH [0,1,1,1,4]) P0 fY
abbrev P1:Ps:=[(1,.l [.I,.Y,.Y,.s] aA),(5,.v [.I])]
def Dc (f:Nat) (a b c:Int) (d:Sl) (e:Int) (w:World) (R:aD):Prop:=cJ P1 0 (X.Sem (bH [0,1,1,1,5])) f a b c d e w R
noncomputable def QY:=fZ X (bH [0,1,1,1,5]) P1 Dc
theorem pB:∀(o:Nat) (d e f:Int) (b:Sl) (c:Int) (w:World) (R:aD) (h:aF (decide (c<((b.n:Nat):Int))) ((0:Int)<=c/\c<((b.n:Nat):Int)/\aX b.a λg=>cB w (g.add (Int.toNat c *4)) λj k l m=>jK [o] iy #[.agg #[.i j,.int .u8 k,.int .u8 l,m.v]] w λp q=>aF (!p) (R (.returned (.bool false)) q) (Dc o d e f b (IntKind.wrap .i64 (c+1)) q R)) (R (.returned (.bool true)) w)),Dc o d e f b c w R:=mp (dD (X:=X) [QY,gn,eV] (bH [0,1,1,1,5]) P1)
abbrev P2:Ps:=[(1,.l [.I,.Y,.Y,.s] aA)]
abbrev eY (e:Nat) (a b c:Int) (d:Sl) (w:World) (R:aD):Prop:=
 Dc e a b c d 0 w R
noncomputable def fL:=bK X [QY,gn,eV] (bH [5]) P2 eY
theorem cV (a e c:Int) (d:Sl) (w:World) (R:aD) (h:bE [] w λf o=>
 fJ o (.cells #[.i 0,.i 0,.i 0,.i 64,.i 64,.i 64,.i 1,.i 1] bW) λp=>
 fJ p (.cells #[.i 0,.i 0,.i 0,.i 0,.i 0,.i 0,.i 1,.i 1] bW) λm=>
 aF (decide (a<0)) (loc [f] m λb=>dV b R) (aF (decide (a>7)) (loc [f] m λb=>dV b R) ((0:Int)<=a/\a<((8:Nat):Int)/\aX (some (nb p)) λg=>loc [f] m λb=>∃k:Int,b.cell? (g.add (Int.toNat a *1))=some (.i k)/\
 aF (decide (((d.n:Nat):Int)<k)) (dV b R) ((0:Int)<=a/\a<((8:Nat):Int)/\aX (some (nb o)) λj=>∃l:Int,b.cell? (j.add (Int.toNat a *1))=some (.i l)/\
 aF (decide (((d.n:Nat):Int)>l)) (dV b R) (aF (decide (e>c)) (fY b R) (aF (a !=2) (aF (decide (c>0)) (fY b R) (eY f a e c d b R)) (eY f a e c d b R))))))):Calls Tryz.prog iy #[.agg #[.i a,.int .u8 e,.int .u8 c,d.v]] w R:=aO X [fL,QY,gn,eV] h
end enthymemeref04_good
namespace enthymemeref04_Valid
noncomputable abbrev X:Fx:=⟨Tryz.prog,Tryz.f123,[],[1]⟩
theorem cV (a b c:Int) (d:Sl) (w:World) (R:aD) (h:bE [] w λe l=>
 mW [e] dX #[.agg #[.i a,.int .u8 b,.int .u8 c,d.v]] l λj f=>aF (decide (j>64)) (R (.returned (.i 4)) f) (jK [e] iy #[.agg #[.i a,.int .u8 b,.int .u8 c,d.v]] f λk g=>aF (!k) (R (.returned (.i 1)) g) (R (.returned (.i 0)) g))):Calls Tryz.prog jY #[.agg #[.i a,.int .u8 b,.int .u8 c,d.v]] w R:=aO X [] h
end enthymemeref04_Valid
namespace enthymemeref04_Everything
noncomputable abbrev X:Fx:=⟨Tryz.prog,Tryz.f106,[],[0]⟩
theorem cV (w:World) (R:aD) (h:bE [] w λb a=>
 fJ a (.cells #[.i 0,.int .u8 0,.int .u8 0,.slice none 0 0] aA) λc=>
 loc [b] c λd=>R (.returned (.agg #[.i 6,.int .u8 0,.int .u8 0,.slice (some (nb a)) 1 1])) d):Calls Tryz.prog bR #[] w R:=aO X [] h
end enthymemeref04_Everything
namespace enthymemeref04_put
noncomputable abbrev X:Fx:=⟨Tryz.prog,Tryz.f141,[(2,ls [0,1,2,3,4,5,6,7,8,9,10,11,12]),(4,ls [0,1,2,3,4,5,6,7,8,9,10,11,12]),(7,(.sq [0,1,2,3,5] (.fork (ls [4,6,7,8]) (ls [6,4,7,8]))))],[3]⟩
abbrev P0:Ps:=[(0,.v [.s]),(3,.l [.I,.Y,.Y,.s] aA),(5,.v [.I])]
def eH (f:Sl) (g:Nat) (a b c:Int) (d:Sl) (e:Int) (w:World) (R:aD):Prop:=cJ P0 0 (X.Sem (bH [0,2,2])) f g a b c d e w R
noncomputable def eC:=fZ X (bH [0,2,2]) P0 eH
abbrev P1:Ps:=[(0,.v [.s]),(5,.v [.I]),(6,.v [.s])]
abbrev gO (d:Sl) (b:Int) (f:Sl) (w:World) (R:aD):Prop:=
 (0:Int)<=b/\b<=((d.n:Nat):Int)/\∃(e:Sl) (g:World),Sem.run Tryz.prog (Builtin.append_ #[aC,aC] aC #[f.v,.slice (if d.c=(Int.toNat b) then d.a else d.a.map (·.add ((Int.toNat b) *4))) (d.n - (Int.toNat b)) (d.c - (Int.toNat b))]) w=.ok (e.v) g/\R (.returned (e.v)) g
noncomputable def hC:=bK X [eC] (bH [6]) P1 gO
abbrev eY (b:Sl) (g:Nat) (j k l:Int) (m:Sl) (f:Int) (w:World) (R:aD):Prop:=
 (0:Int)<=f/\f<=((b.c:Nat):Int)/\((loc [g] w λn=>∃(q:Sl) (o:World),Sem.run Tryz.prog (Builtin.append_ #[aC,aC] aC #[.slice none 0 0,.slice (if b.c=0 then b.a else b.a.map (·.add (0 *4))) ((Int.toNat f) - 0) (b.c - 0)]) n=.ok (q.v) o/\kept [g] n o/\fJ o (.cells #[.i j,.int .u8 k,.int .u8 l,m.v] aA) λu=>
 ∃(r:Sl) (s:World),Sem.run Tryz.prog (Builtin.append_ #[aC,aC] aC #[q.v,.slice (some (nb o)) 1 1]) u=.ok (r.v) s/\kept [g] u s/\gO b f r s R)/\(loc [g] w λn=>fJ n (.cells #[.i j,.int .u8 k,.int .u8 l,m.v] aA) λx=>
 ∃(d:Sl) (p:World),Sem.run Tryz.prog (Builtin.append_ #[aC,aC] aC #[.slice none 0 0,.slice (if b.c=0 then b.a else b.a.map (·.add (0 *4))) ((Int.toNat f) - 0) (b.c - 0)]) x=.ok (d.v) p/\kept [g] x p/\∃(e:Sl) (t:World),Sem.run Tryz.prog (Builtin.append_ #[aC,aC] aC #[d.v,.slice (some (nb n)) 1 1]) p=.ok (e.v) t/\kept [g] p t/\gO b f e t R))
noncomputable def fL:=bK X [hC,eC] (bH [4]) P0 eY
abbrev fY (g:Sl) (j:Nat) (b c d:Int) (e:Sl) (f:Int) (w:World) (R:aD):Prop:=
 aF (decide (f<((g.n:Nat):Int))) ((0:Int)<=f/\f<((g.n:Nat):Int)/\aX g.a λk=>loc [j] w λq=>cB q (k.add (Int.toNat f *4)) λl m o p=>mW [j] cG #[.agg #[.i l,.int .u8 m,.int .u8 o,p.v],.agg #[.i b,.int .u8 c,.int .u8 d,e.v]] q λr s=>aF (r==0) (R (.returned (g.v)) s) (eY g j b c d e f s R)) (loc [j] w λq=>eY g j b c d e f q R)
noncomputable def gn:=bK X [fL,hC,eC] (bH [3]) P0 fY
theorem bA:∀(g:Sl) (j:Nat) (b c d:Int) (e:Sl) (f:Int) (w:World) (R:aD) (h:aF (decide (f<((g.n:Nat):Int))) ((0:Int)<=f/\f<((g.n:Nat):Int)/\aX g.a λk=>loc [j] w λq=>cB q (k.add (Int.toNat f *4)) λl m o p=>mW [j] cG #[.agg #[.i l,.int .u8 m,.int .u8 o,p.v],.agg #[.i b,.int .u8 c,.int .u8 d,e.v]] q λr s=>aF (decide (r<0)) (eH g j b c d e (IntKind.wrap .i64 (f+1)) s R) (fY g j b c d e f s R)) (loc [j] w λq=>fY g j b c d e f q R)),eH g j b c d e f w R:=mp (dD (X:=X) [gn,fL,hC,eC] (bH [0,2,2]) P0)
theorem cV (e:Sl) (a b c:Int) (d:Sl) (w:World) (R:aD) (h:bE [] w λf g=>
 eH e f a b c d 0 g R):Calls Tryz.prog lj #[e.v,.agg #[.i a,.int .u8 b,.int .u8 c,d.v]] w R:=aO X [gn,fL,hC,eC] h
end enthymemeref04_put
namespace enthymemeref04_normal
noncomputable abbrev X:Fx:=⟨Tryz.prog,Tryz.f129,[(9,ls [0,1,2,3,4,5,6,7,8,9,10,11,12]),(25,ls [0,1,2,3,4,5,6]),(27,ls [0,1,2,3,4,5,6])],[4,5,8,9]⟩
abbrev P0:Ps:=[(1,.v [.s]),(4,.l [.I,.Y,.Y,.s] aA)]
abbrev dV (b:Sl) (j:Nat) (k l m:Int) (o:Sl) (w:World) (R:aD):Prop:=
 (0:Int)<=0/\0<((b.n:Nat):Int)/\aX b.a λc=>cB w (c.add (Int.toNat 0 *4)) λd e f g=>loc [j] w λp=>R (.returned (.agg #[.i d,.int .u8 e,.int .u8 f,g.v])) p
noncomputable def eV:=bK X [] (bH [0,1,1,1,1,1,1,1,3]) P0 dV
abbrev P1:Ps:=[(0,.v [.I]),(1,.v [.s]),(4,.l [.I,.Y,.Y,.s] aA),(5,.l [.I,.Y,.Y,.s] aA),(6,.v [.s]),(7,.v [.I])]
def l4 (g:Int) (f:Sl) (o:Nat) (j k l:Int) (m:Sl) (i:Nat) (a b c:Int) (d e:Sl) (n:Int) (w:World) (R:aD):Prop:=cJ P1 0 (X.Sem (bH [0,1,1,1,5])) g f o j k l m i a b c d e n w R
noncomputable def kX:=fZ X (bH [0,1,1,1,5]) P1 l4
abbrev eY (g:Int) (f:Sl) (o:Nat) (j k l:Int) (m:Sl) (i:Nat) (a b c:Int) (d e:Sl) (n:Int) (w:World) (R:aD):Prop:=
 l4 g f o j k l m i a b c d e (IntKind.wrap .i64 (n+1)) w R
noncomputable def fL:=bK X [kX,eV] (bH [2,2,1,1,5]) P1 eY
abbrev P2:Ps:=[(0,.v [.I]),(4,.l [.I,.Y,.Y,.s] aA),(6,.v [.s]),(8,.l [.I,.Y,.Y,.s] aA),(9,.l [.I,.Y,.Y,.s] aA),(10,.v [.s]),(11,.v [.I])]
def Dc (m:Int) (t:Nat) (o p q:Int) (r l:Sl) (k:Nat) (e f g:Int) (i:Sl) (j:Nat) (a b c:Int) (d n:Sl) (s:Int) (w:World) (R:aD):Prop:=cJ P2 0 (X.Sem (bH [0,1,1,1,9])) m t o p q r l k e f g i j a b c d n s w R
noncomputable def QY:=fZ X (bH [0,1,1,1,9]) P2 Dc
abbrev ox (m:Int) (t:Nat) (o p q:Int) (r l:Sl) (k:Nat) (e f g:Int) (i:Sl) (j:Nat) (a b c:Int) (d n:Sl) (s:Int) (w:World) (R:aD):Prop:=
 Dc m t o p q r l k e f g i j a b c d n (IntKind.wrap .i64 (s+1)) w R
noncomputable def kK:=bK X [QY,fL,kX,eV] (bH [2,2,1,1,9]) P2 ox
theorem pB:∀(r:Int) (s:Nat) (u x y:Int) (z j:Sl) (c:Nat) (k l m:Int) (o:Sl) (b:Nat) (d e f:Int) (g q:Sl) (p:Int) (w:World) (R:aD) (h:aF (decide (p<((j.n:Nat):Int))) ((0:Int)<=p/\p<((j.n:Nat):Int)/\aX j.a λaa=>loc [s,c,b] w λbe=>cB be (aa.add (Int.toNat p *4)) λab ac ad ae=>mW [s,c,b] cG #[.agg #[.i ab,.int .u8 ac,.int .u8 ad,ae.v],.agg #[.i d,.int .u8 e,.int .u8 f,g.v]] be λbi bf=>aF (bi==0) (loc [s,c,b] bf λbm=>R (.returned (.agg #[.i d,.int .u8 e,.int .u8 f,g.v])) bm) ((0:Int)<=p/\p<((j.n:Nat):Int)/\aX j.a λaf=>loc [s,c,b] bf λbg=>cB bg (af.add (Int.toNat p *4)) λag ah ai aj=>mW [s,c,b] cG #[.agg #[.i ag,.int .u8 ah,.int .u8 ai,aj.v],.agg #[.i k,.int .u8 l,.int .u8 m,o.v]] bg λbj t=>aF (bj==0) (ox r s u x y z j c k l m o b d e f g q p t R) (aF (r==3) ((0:Int)<=p/\p<((j.n:Nat):Int)/\aX j.a λak=>cB t (ak.add (Int.toNat p *4)) λal am an ao=>fJ t (.cells #[.i al,.int .u8 am,.int .u8 an,ao.v] aA) λbh=>
 ∃(ap:Sl) (bd:World),Sem.run Tryz.prog (Builtin.append_ #[aC,aC] aC #[q.v,.slice (some (nb t)) 1 1]) bh=.ok (ap.v) bd/\kept [s,c,b] bh bd/\ox r s u x y z j c k l m o b d e f g ap p bd R) ((0:Int)<=p/\p<((j.n:Nat):Int)/\aX j.a λaq=>cB t (aq.add (Int.toNat p *4)) λar au av aw=>Ti [s,c,b] lj #[q.v,.agg #[.i ar,.int .u8 au,.int .u8 av,aw.v]] t λbk bn=>ox r s u x y z j c k l m o b d e f g bk p bn R)))) (aF (((q.n:Nat):Int)==0) (loc [s,c,b] w λbo=>R (.returned (.agg #[.i k,.int .u8 l,.int .u8 m,o.v])) bo) (aF (((q.n:Nat):Int)==1) ((0:Int)<=0/\0<((q.n:Nat):Int)/\aX q.a λax=>cB w (ax.add (Int.toNat 0 *4)) λay az bb bc=>loc [s,c,b] w λbp=>R (.returned (.agg #[.i ay,.int .u8 az,.int .u8 bb,bc.v])) bp) (loc [s,c,b] w λbq=>R (.returned (.agg #[.i r,.int .u8 0,.int .u8 0,q.v])) bq)))),Dc r s u x y z j c k l m o b d e f g q p w R:=mp (dD (X:=X) [kK,QY,fL,kX,eV] (bH [0,1,1,1,9]) P2)
theorem dJ:∀(b:Int) (c:Sl) (m:Nat) (o p q:Int) (r:Sl) (d:Nat) (e f g:Int) (j l:Sl) (k:Int) (w:World) (R:aD) (h:aF (decide (k<((c.n:Nat):Int))) ((0:Int)<=k/\k<((c.n:Nat):Int)/\aX c.a λx=>∃ao:Int,w.cell? ((x.add (Int.toNat k *4)).add 0)=some (.i ao)/\
 aF (ao==b) ((0:Int)<=k/\k<((c.n:Nat):Int)/\aX c.a λy=>∃ap:Sl,w.cell? ((y.add (Int.toNat k *4)).add 3)=some (ap.v)/\
 ∃(aq:Sl) (s:World),Sem.run Tryz.prog (Builtin.append_ #[aC,aC] aC #[l.v,ap.v]) w=.ok (aq.v) s/\kept [m,d] w s/\eY b c m o p q r d e f g j aq k s R) ((0:Int)<=k/\k<((c.n:Nat):Int)/\aX c.a λz=>cB w (z.add (Int.toNat k *4)) λaa ab ac ad=>fJ w (.cells #[.i aa,.int .u8 ab,.int .u8 ac,ad.v] aA) λau=>
 ∃(ar:Sl) (t:World),Sem.run Tryz.prog (Builtin.append_ #[aC,aC] aC #[l.v,.slice (some (nb w)) 1 1]) au=.ok (ar.v) t/\kept [m,d] au t/\eY b c m o p q r d e f g j ar k t R)) (fJ w (.cells #[.i 1,.int .u8 0,.int .u8 0,.slice none 0 0,.i 0,.int .u8 0,.int .u8 0,.slice none 0 0,.i e,.int .u8 f,.int .u8 g,j.v] aA) λav=>
 (0:Int)<=(IntKind.wrap .i64 (b - 3))/\(IntKind.wrap .i64 (b - 3))<((3:Nat):Int)/\aX (some (nb w)) λae=>cB av (ae.add (Int.toNat (IntKind.wrap .i64 (b - 3)) *4)) λaf ag ah ai=>bE [m,d] av λu az=>
 loc [m,d,u] az λaw=>fJ aw (.cells #[.i 0,.int .u8 0,.int .u8 0,.slice none 0 0,.i e,.int .u8 f,.int .u8 g,j.v,.i 0,.int .u8 0,.int .u8 0,.slice none 0 0] aA) λax=>
 (0:Int)<=(IntKind.wrap .i64 (b - 3))/\(IntKind.wrap .i64 (b - 3))<((3:Nat):Int)/\aX (some (nb aw)) λaj=>cB ax (aj.add (Int.toNat (IntKind.wrap .i64 (b - 3)) *4)) λak al am an=>bE [m,d,u] ax λb9 bb=>
 loc [m,d,u,b9] bb λbc=>Dc b m o p q r l u af ag ah ai b9 ak al am an ⟨none,0,0⟩ 0 bc R)),l4 b c m o p q r d e f g j l k w R:=mp (dD (X:=X) [kK,QY,fL,kX,eV] (bH [0,1,1,1,5]) P1)
theorem cV (d:Int) (b:Sl) (w:World) (R:aD) (h:bE [] w λc w1=>
 uA [c] bR #[] w1 λg j k l w2=>bE [c] w2 λf w3=>
 aF (d==6) ((0:Int)<=0/\0<((b.n:Nat):Int)/\aX b.a λp=>loc [c,f] w3 λe=>∃af:Int,e.cell? ((p.add (Int.toNat 0 *4)).add 0)=some (.i af)/\
 aF (af==6) ((0:Int)<=0/\0<((b.n:Nat):Int)/\aX b.a λq=>∃o:Sl,e.cell? ((q.add (Int.toNat 0 *4)).add 3)=some (o.v)/\
 (0:Int)<=0/\0<((o.n:Nat):Int)/\aX o.a λr=>cB e (r.add (Int.toNat 0 *4)) λs t u x=>loc [c,f] e λal=>R (.returned (.agg #[.i s,.int .u8 t,.int .u8 u,x.v])) al) (loc [c,f] e λam=>R (.returned (.agg #[.i 6,.int .u8 0,.int .u8 0,b.v])) am)) (aF (d==7) ((0:Int)<=0/\0<((b.n:Nat):Int)/\aX b.a λy=>loc [c,f] w3 λe=>∃ag:Int,e.cell? ((y.add (Int.toNat 0 *4)).add 0)=some (.i ag)/\
 aF (decide (ag<2)) (loc [c,f] e λan=>R (.returned (.agg #[.i 1,.int .u8 0,.int .u8 0,.slice none 0 0])) an) ((0:Int)<=0/\0<((b.n:Nat):Int)/\aX b.a λz=>loc [c,f] e λm=>∃ah:Int,m.cell? ((z.add (Int.toNat 0 *4)).add 0)=some (.i ah)/\
 aF (ah==7) (dV b c 0 0 0 ⟨none,0,0⟩ m R) ((0:Int)<=0/\0<((b.n:Nat):Int)/\aX b.a λaa=>cB m (aa.add (Int.toNat 0 *4)) λab ac ad ae=>mW [c,f] cG #[.agg #[.i ab,.int .u8 ac,.int .u8 ad,ae.v],.agg #[.i g,.int .u8 j,.int .u8 k,l.v]] m λak ai=>aF (ak==0) (dV b c 0 0 0 ⟨none,0,0⟩ ai R) (loc [c,f] ai λao=>R (.returned (.agg #[.i 7,.int .u8 0,.int .u8 0,b.v])) ao)))) (loc [c,f] w3 λe=>l4 d b c 0 0 0 ⟨none,0,0⟩ f g j k l ⟨none,0,0⟩ 0 e R))):Calls Tryz.prog jA #[.i d,b.v] w R:=aO X [kK,QY,fL,kX,eV] h
end enthymemeref04_normal
namespace enthymemeref04_simple
noncomputable abbrev X:Fx:=⟨Tryz.prog,Tryz.f107,[],[1,2]⟩
abbrev P0:Ps:=[(1,.l [.I,.Y,.Y,.s] aA),(2,.l [.I,.Y,.Y,.s] aA),(3,.v [.s]),(4,.v [.I])]
def eH (l:Nat) (b c d:Int) (e:Sl) (m:Nat) (f g i:Int) (j a:Sl) (k:Int) (w:World) (R:aD):Prop:=cJ P0 0 (X.Sem (bH [0,1,1,1,3])) l b c d e m f g i j a k w R
noncomputable def eC:=fZ X (bH [0,1,1,1,3]) P0 eH
theorem bA:∀(f:Nat) (d j k:Int) (b:Sl) (g:Nat) (l m o:Int) (p c:Sl) (e:Int) (w:World) (R:aD) (h:aF (decide (e<((b.n:Nat):Int))) ((0:Int)<=e/\e<((b.n:Nat):Int)/\aX b.a λq=>cB w (q.add (Int.toNat e *4)) λr s t u=>uA [f,g] eP #[.agg #[.i r,.int .u8 s,.int .u8 t,u.v]] w λx y z aa w7=>fJ w7 (.cells #[.i x,.int .u8 y,.int .u8 z,aa.v] aA) λw8=>
 ∃(af:Sl) (w9:World),Sem.run Tryz.prog (Builtin.append_ #[aC,aC] aC #[c.v,.slice (some (nb w7)) 1 1]) w8=.ok (af.v) w9/\kept [f,g] w8 w9/\eH f d j k b g l m o p af (IntKind.wrap .i64 (e+1)) w9 R) (uA [f,g] jA #[.i d,c.v] w λab ac ad ae ah=>loc [f,g] ah λai=>R (.returned (.agg #[.i ab,.int .u8 ac,.int .u8 ad,ae.v])) ai)),eH f d j k b g l m o p c e w R:=mp (dD (X:=X) [eC] (bH [0,1,1,1,3]) P0)
theorem cV (a b c:Int) (d:Sl) (w:World) (R:aD) (h:bE [] w λe j=>
 bE [e] j λf g=>
 aF (decide (a<3)) (loc [e,f] g λk=>R (.returned (.agg #[.i a,.int .u8 b,.int .u8 c,d.v])) k) (eH e a b c d f 0 0 0 ⟨none,0,0⟩ ⟨none,0,0⟩ 0 g R)):Calls Tryz.prog eP #[.agg #[.i a,.int .u8 b,.int .u8 c,d.v]] w R:=aO X [eC] h
end enthymemeref04_simple
namespace enthymemeref04_few
noncomputable abbrev X:Fx:=⟨Tryz.prog,Tryz.f124,[],[1,2]⟩
theorem cV (a b c:Int) (d:Sl) (w:World) (R:aD) (h:bE [] w λe l=>
 bE [e] l λf m=>
 mW [e,f] dX #[.agg #[.i a,.int .u8 b,.int .u8 c,d.v]] m λk j=>aF (decide (k>64)) (loc [e,f] j λn=>R (.returned (.tuple #[.agg #[.i 0,.int .u8 0,.int .u8 0,.slice none 0 0],.i 4])) n) (loc [e,f] j λg=>R (.returned (.tuple #[.agg #[.i a,.int .u8 b,.int .u8 c,d.v],.i 0])) g)):Calls Tryz.prog lh #[.agg #[.i a,.int .u8 b,.int .u8 c,d.v]] w R:=aO X [] h
end enthymemeref04_few
namespace enthymemeref04_Normal
noncomputable abbrev X:Fx:=⟨Tryz.prog,Tryz.f90,[],[1,2]⟩
theorem cV (a b c:Int) (d:Sl) (w:World) (R:aD) (h:bE [] w λe u=>
 bE [e] u λl x=>
 mW [e,l] jY #[.agg #[.i a,.int .u8 b,.int .u8 c,d.v]] x λr t=>aF (r !=0) (loc [e,l] t λy=>R (.returned (.tuple #[.agg #[.i 0,.int .u8 0,.int .u8 0,.slice none 0 0],.i r])) y) (uA [e,l] eP #[.agg #[.i a,.int .u8 b,.int .u8 c,d.v]] t λm n o p z=>Ly [e,l] lh #[.agg #[.i m,.int .u8 n,.int .u8 o,p.v]] z λf g j k q w9=>loc [e,l] w9 λs=>R (.returned (.tuple #[.agg #[.i f,.int .u8 g,.int .u8 j,k.v],.i q])) s)):Calls Tryz.prog jy #[.agg #[.i a,.int .u8 b,.int .u8 c,d.v]] w R:=aO X [] h
end enthymemeref04_Normal
namespace regex_Normal
noncomputable abbrev X:Fx:=⟨Tryz.prog,Tryz.f131,[(4,ls [1,0,2,3,4,5,6,7])],[1,2]⟩
theorem cV (c d e:Int) (f:Sl) (w:World) (R:aD) (h:bE [] w λa z=>
 bE [a] z λb w2=>
 mW [a,b] n7 #[.agg #[.i c,.int .u8 d,.int .u8 e,f.v]] w2 λs y=>aF (s !=0) (loc [a,b] y λw7=>R (.returned (.tuple #[.agg #[.i 0,.int .u8 0,.int .u8 0,.slice none 0 0],.i s])) w7) (loc [a,b] y λw8=>YE [a,b] qu #[] w8 λr w9=>uA [a,b] lu #[.map r,.agg #[.i c,.int .u8 d,.int .u8 e,f.v]] w9 λm n o p t=>Ly [a,b] oG #[.agg #[.i m,.int .u8 n,.int .u8 o,p.v]] t λg j k l q u=>loc [a,b] u λx=>R (.returned (.tuple #[.agg #[.i g,.int .u8 j,.int .u8 k,l.v],.i q])) x)):Calls Tryz.prog nu #[.agg #[.i c,.int .u8 d,.int .u8 e,f.v]] w R:=aO X [] h
end regex_Normal
namespace enthymemeref04_digit
noncomputable abbrev X:Fx:=⟨Tryz.prog,Tryz.f139,[],[]⟩
theorem ok (b:Int) (w:World) (R:aD) (h:(0:Int)<=b/\∃a:UInt8,(ByteArray.mk #[48,49,50,51,52,53,54,55,56,57,97,98,99,100,101,102])[Int.toNat b]? =some a/\R (.returned (.int .u8 ((a.toNat:Nat):Int))) w):Calls Tryz.prog gi #[.i b] w R:=aO X [] h
end enthymemeref04_digit
namespace enthymemeref04_plain
noncomputable abbrev X:Fx:=⟨Tryz.prog,Tryz.f138,[],[]⟩
theorem ok (a:Int) (w:World) (R:aD) (h:aF (decide (a>=32)) (aF (decide (a<=126)) (aF (a !=39) (R (.returned (.bool (a !=92))) w) (R (.returned (.bool false)) w)) (R (.returned (.bool false)) w)) (R (.returned (.bool false)) w)):Calls Tryz.prog hO #[.int .u8 a] w R:=aO X [] h
end enthymemeref04_plain
namespace enthymemeref04_number
noncomputable abbrev X:Fx:=⟨Tryz.prog,Tryz.f180,[],[]⟩
abbrev P0:Ps:=[(0,.v [.Y]),(3,.v [.I])]
def L0 (a b:Int) (w:World) (R:aD):Prop:=cJ P0 0 (X.Sem (bH [0,1,1,1,1])) a b w R
noncomputable def eC:=fZ X (bH [0,1,1,1,1]) P0 L0
theorem cF:∀(b a:Int) (w:World) (R:aD) (h:aF (decide (a<16)) (Tf gi #[.i a] w λd c=>aF (d==b) (R (.returned (.i a)) c) (L0 b (IntKind.wrap .i64 (a+1)) c R)) (R (.returned (.i (-1))) w)),L0 b a w R:=mp (dD (X:=X) [eC] (bH [0,1,1,1,1]) P0)
theorem ok (a:Int) (w:World) (R:aD) (h:L0 a 0 w R):Calls Tryz.prog eO #[.int .u8 a] w R:=aO X [eC] h
end enthymemeref04_number
namespace enthymemeref04_byteAt
noncomputable abbrev X:Fx:=⟨Tryz.prog,Tryz.f152,[(4,ls [0,1,2,3,6,7,8,9,4,5,10,11,12,13,14])],[]⟩
abbrev P0:Ps:=[]
abbrev S1 (w:World) (R:aD):Prop:=
 R (.returned (.tuple #[.int .u8 0,.i 0])) w
noncomputable def gn:=bK X [] (bH [3]) P0 S1
abbrev P1:Ps:=[(0,.v [.st]),(1,.v [.I])]
abbrev S0 (b:ByteArray) (a:Int) (w:World) (R:aD):Prop:=
 aF (decide ((IntKind.wrap .i64 (a+4))<=((b.size:Nat):Int))) ((0:Int)<=a/\∃c:UInt8,b[Int.toNat a]? =some c/\aF (((c.toNat:Nat):Int)==92) ((0:Int)<=(IntKind.wrap .i64 (a+1))/\∃d:UInt8,b[Int.toNat (IntKind.wrap .i64 (a+1))]? =some d/\aF (((d.toNat:Nat):Int)==120) ((0:Int)<=(IntKind.wrap .i64 (a+2))/\∃e:UInt8,b[Int.toNat (IntKind.wrap .i64 (a+2))]? =some e/\BW eO #[.int .u8 ((e.toNat:Nat):Int)] w λk o=>aF (decide (k>=0)) ((0:Int)<=(IntKind.wrap .i64 (a+3))/\∃f:UInt8,b[Int.toNat (IntKind.wrap .i64 (a+3))]? =some f/\BW eO #[.int .u8 ((f.toNat:Nat):Int)] o λl p=>aF (decide (l>=0)) (uU p λq=>(0:Int)<=(IntKind.wrap .i64 (a+2))/\∃g:UInt8,b[Int.toNat (IntKind.wrap .i64 (a+2))]? =some g/\(0:Int)<=(IntKind.wrap .i64 (a+3))/\∃j:UInt8,b[Int.toNat (IntKind.wrap .i64 (a+3))]? =some j/\BW eO #[.int .u8 ((g.toNat:Nat):Int)] q λm r=>BW eO #[.int .u8 ((j.toNat:Nat):Int)] r λn s=>R (.returned (.tuple #[.int .u8 (IntKind.wrap .u8 (IntKind.wrap .i64 ((IntKind.wrap .i64 (16 *m))+n))),.i 4])) s) (S1 p R)) (S1 o R)) (S1 w R)) (S1 w R)) (S1 w R)
noncomputable def eV:=bK X [gn] (bH [2]) P1 S0
theorem ok (b:ByteArray) (a:Int) (w:World) (R:aD) (h:aF (decide ((IntKind.wrap .i64 (a+3))<=((b.size:Nat):Int))) ((0:Int)<=a/\∃c:UInt8,b[Int.toNat a]? =some c/\aF (((c.toNat:Nat):Int)==39) ((0:Int)<=(IntKind.wrap .i64 (a+2))/\∃d:UInt8,b[Int.toNat (IntKind.wrap .i64 (a+2))]? =some d/\aF (((d.toNat:Nat):Int)==39) ((0:Int)<=(IntKind.wrap .i64 (a+1))/\∃e:UInt8,b[Int.toNat (IntKind.wrap .i64 (a+1))]? =some e/\zY hO #[.int .u8 ((e.toNat:Nat):Int)] w λg j=>aF g ((0:Int)<=(IntKind.wrap .i64 (a+1))/\∃f:UInt8,b[Int.toNat (IntKind.wrap .i64 (a+1))]? =some f/\R (.returned (.tuple #[.int .u8 ((f.toNat:Nat):Int),.i 3])) j) (S0 b a j R)) (S0 b a w R)) (S0 b a w R)) (S0 b a w R)):Calls Tryz.prog fO #[.string b,.i a] w R:=aO X [eV,gn] h
end enthymemeref04_byteAt
namespace enthymemeref04_rangeAt
noncomputable abbrev X:Fx:=⟨Tryz.prog,Tryz.f133,[],[4]⟩
abbrev P0:Ps:=[(4,.l [.I,.Y,.Y,.s] aA)]
abbrev fY (a:Nat) (b c d:Int) (e:Sl) (w:World) (R:aD):Prop:=
 loc [a] w λf=>R (.returned (.tuple #[.agg #[.i 0,.int .u8 0,.int .u8 0,.slice none 0 0],.i 0])) f
noncomputable def gn:=bK X [] (bH [0,1,1,1,6]) P0 fY
abbrev gO (a:Nat) (b c d:Int) (e:Sl) (w:World) (R:aD):Prop:=
 loc [a] w λf=>R (.returned (.tuple #[.agg #[.i 0,.int .u8 0,.int .u8 0,.slice none 0 0],.i 0])) f
noncomputable def hC:=bK X [gn] (bH [0,1,1,1,9]) P0 gO
abbrev P1:Ps:=[(0,.v [.st]),(1,.v [.I]),(4,.l [.I,.Y,.Y,.s] aA),(8,.v [.Y]),(11,.v [.Y]),(12,.v [.I]),(13,.v [.I])]
abbrev eY (n:ByteArray) (l:Int) (j:Nat) (b c d:Int) (e:Sl) (k g m a:Int) (w:World) (R:aD):Prop:=
 aF (m==0) (gO j b c d e w R) (aF (decide (a>=((n.size:Nat):Int))) (gO j b c d e w R) ((0:Int)<=a/\∃f:UInt8,n[Int.toNat a]? =some f/\aF (((f.toNat:Nat):Int) !=93) (gO j b c d e w R) (aF (decide (k>g)) (gO j b c d e w R) (loc [j] w λo=>R (.returned (.tuple #[.agg #[.i 2,.int .u8 k,.int .u8 g,.slice none 0 0],.i (IntKind.wrap .i64 ((IntKind.wrap .i64 (a+1)) - l))])) o))))
noncomputable def fL:=bK X [hC,gn] (bH [9]) P1 eY
abbrev P2:Ps:=[(0,.v [.st]),(1,.v [.I]),(4,.l [.I,.Y,.Y,.s] aA),(8,.v [.Y]),(9,.v [.I]),(10,.v [.I])]
abbrev dV (k:ByteArray) (m:Int) (j:Nat) (b c d:Int) (e:Sl) (n o a:Int) (w:World) (R:aD):Prop:=
 aF (o==0) (fY j b c d e w R) (aF (decide (a>=((k.size:Nat):Int))) (fY j b c d e w R) ((0:Int)<=a/\∃f:UInt8,k[Int.toNat a]? =some f/\aF (((f.toNat:Nat):Int) !=45) (fY j b c d e w R) (Tg [j] fO #[.string k,.i (IntKind.wrap .i64 (a+1))] w λl g p=>eY k m j b c d e n l g (IntKind.wrap .i64 ((IntKind.wrap .i64 (a+1))+g)) p R)))
noncomputable def eV:=bK X [fL,hC,gn] (bH [6]) P2 dV
theorem cV (g:ByteArray) (a:Int) (w:World) (R:aD) (h:bE [] w λf n=>
 Tg [f] fO #[.string g,.i a] n λb c k=>aF (decide (c>0)) (loc [f] k λo=>R (.returned (.tuple #[.agg #[.i 2,.int .u8 b,.int .u8 b,.slice none 0 0],.i c])) o) ((0:Int)<=a/\∃d:UInt8,g[Int.toNat a]? =some d/\aF (((d.toNat:Nat):Int) !=91) (loc [f] k λl=>R (.returned (.tuple #[.agg #[.i 0,.int .u8 0,.int .u8 0,.slice none 0 0],.i 0])) l) (Tg [f] fO #[.string g,.i (IntKind.wrap .i64 (a+1))] k λj e m=>dV g a f 0 0 0 ⟨none,0,0⟩ j e (IntKind.wrap .i64 ((IntKind.wrap .i64 (a+1))+e)) m R))):Calls Tryz.prog jg #[.string g,.i a] w R:=aO X [eV,fL,hC,gn] h
end enthymemeref04_rangeAt
namespace enthymemeref04_Tokens
noncomputable abbrev X:Fx:=⟨Tryz.prog,Tryz.f119,[(11,ls [0,1,2,3,4,5,6,7,8,9,10,11,12])],[5]⟩
abbrev P0:Ps:=[(0,.v [.st]),(3,.v [.s]),(4,.v [.I])]
def eH (c:ByteArray) (a:Sl) (b:Int) (w:World) (R:aD):Prop:=cJ P0 0 (X.Sem (bH [0,1,1,1,2])) c a b w R
noncomputable def eC:=fZ X (bH [0,1,1,1,2]) P0 eH
abbrev P1:Ps:=[(0,.v [.st]),(3,.v [.s]),(4,.v [.I]),(5,.l [.I,.Y,.Y,.s] aA),(6,.v [.I])]
def l4 (j:ByteArray) (a:Sl) (f:Int) (i:Nat) (b c d:Int) (e:Sl) (g:Int) (w:World) (R:aD):Prop:=cJ P1 0 (X.Sem (bH [0,1,1,1,1,1,2,1,1,2,1,1,2])) j a f i b c d e g w R
noncomputable def kX:=fZ X (bH [0,1,1,1,1,1,2,1,1,2,1,1,2]) P1 l4
abbrev eY (k:ByteArray) (d:Sl) (a:Int) (m:Nat) (e f g:Int) (j:Sl) (b:Int) (w:World) (R:aD):Prop:=
 (0:Int)<=(IntKind.wrap .i64 (a+b))/\(IntKind.wrap .i64 (a+b))<=((k.size:Nat):Int)/\(0:Int)<=a/\a<=(((Int.toNat (IntKind.wrap .i64 (a+b))):Nat):Int)/\loc [m] w λn=>fJ n (.cells #[.string (k.extract (Int.toNat a) (Int.toNat (IntKind.wrap .i64 (a+b)))),.i a,.i e,.int .u8 f,.int .u8 g,j.v] b0) λo=>
 ∃(c:Sl) (l:World),Sem.run Tryz.prog (Builtin.append_ #[bT,bT] bT #[d.v,.slice (some (nb n)) 1 1]) o=.ok (c.v) l/\kept [m] o l/\eH k c (IntKind.wrap .i64 (a+b)) l R
noncomputable def fL:=bK X [kX,eC] (bH [3,1,1,2,1,1,2]) P1 eY
theorem dJ:∀(i:ByteArray) (b:Sl) (a:Int) (j:Nat) (c d e:Int) (f:Sl) (g:Int) (w:World) (R:aD) (h:(0:Int)<=a/\∃k:UInt8,i[Int.toNat a]? =some k/\aF (decide (((k.toNat:Nat):Int)>=97)) ((0:Int)<=a/\∃l:UInt8,i[Int.toNat a]? =some l/\aF (decide (((l.toNat:Nat):Int)<=122)) (aF (decide ((IntKind.wrap .i64 (a+g))<((i.size:Nat):Int))) ((0:Int)<=(IntKind.wrap .i64 (a+g))/\∃m:UInt8,i[Int.toNat (IntKind.wrap .i64 (a+g))]? =some m/\aF (decide (((m.toNat:Nat):Int)>=97)) ((0:Int)<=(IntKind.wrap .i64 (a+g))/\∃n:UInt8,i[Int.toNat (IntKind.wrap .i64 (a+g))]? =some n/\aF (decide (((n.toNat:Nat):Int)<=122)) (l4 i b a j c d e f (IntKind.wrap .i64 (g+1)) w R) (eY i b a j c d e f g w R)) (eY i b a j c d e f g w R)) (eY i b a j c d e f g w R)) (eY i b a j c d e f g w R)) (eY i b a j c d e f g w R)),l4 i b a j c d e f g w R:=mp (dD (X:=X) [fL,kX,eC] (bH [0,1,1,1,1,1,2,1,1,2,1,1,2]) P1)
theorem bA:∀(g:ByteArray) (a:Sl) (f:Int) (w:World) (R:aD) (h:aF (decide (f<((g.size:Nat):Int))) ((0:Int)<=f/\∃j:UInt8,g[Int.toNat f]? =some j/\aF (((j.toNat:Nat):Int)==32) (eH g a (IntKind.wrap .i64 (f+1)) w R) (YB jg #[.string g,.i f] w λb c d e k q=>bE [] q λl o=>
 aF (k==0) (loc [l] o λn=>l4 g a f l b c d e 1 n R) (loc [l] o λn=>eY g a f l b c d e k n R))) (fJ w (.cells #[.s0,.i ((g.size:Nat):Int),.i 0,.int .u8 0,.int .u8 0,.slice none 0 0] b0) λr=>
 ∃(m:Sl) (p:World),Sem.run Tryz.prog (Builtin.append_ #[bT,bT] bT #[a.v,.slice (some (nb w)) 1 1]) r=.ok (m.v) p/\R (.returned (m.v)) p)),eH g a f w R:=mp (dD (X:=X) [fL,kX,eC] (bH [0,1,1,1,2]) P0)
theorem cV (a:ByteArray) (w:World) (R:aD) (h:eH a ⟨none,0,0⟩ 0 w R):Calls Tryz.prog jz #[.string a] w R:=aO X [fL,kX,eC] h
end enthymemeref04_Tokens
namespace enthymemeref04_reader_see
noncomputable abbrev X:Fx:=⟨Tryz.prog,Tryz.f154,[(3,ls [0,1,2,3,4,5,6,7,8,9,10,11])],[]⟩
theorem ok (d:Addr) (w:World) (R:aD) (h:∃j:Bool,w.cell? (d.add 2)=some (.bool j)/\
 aF j (R (.returned (.string (ByteArray.mk #[32]))) w) (uU w λf=>∃c:Sl,f.cell? (d.add 0)=some (c.v)/\
 ∃b:Int,f.cell? (d.add 1)=some (.i b)/\
 (0:Int)<=b/\b<((c.n:Nat):Int)/\aX c.a λe=>∃g:ByteArray,f.cell? ((e.add (Int.toNat b *6)).add 0)=some (.string g)/\
 R (.returned (.string g)) f)):Calls Tryz.prog eL #[.pointer (some d)] w R:=aO X [] h
end enthymemeref04_reader_see
namespace enthymemeref04_reader_take
noncomputable abbrev X:Fx:=⟨Tryz.prog,Tryz.f135,[],[]⟩
abbrev P0:Ps:=[]
abbrev S0 (w:World) (R:aD):Prop:=
 R (.returned (.bool true)) w
noncomputable def eV:=bK X [] (bH [3]) P0 S0
theorem ok (a:Addr) (d:ByteArray) (w:World) (R:aD) (h:Lt eL #[.pointer (some a)] w λe b=>aF (!(e.toList==d.toList)) (R (.returned (.bool false)) b) (aF (!(d.toList==(ByteArray.mk #[]).toList)) (∃c:Int,b.cell? (a.add 1)=some (.i c)/\
 bX b (a.add 1) (.i (IntKind.wrap .i64 (c+1))) λf=>
 S0 f R) (S0 b R))):Calls Tryz.prog bV #[.pointer (some a),.string d] w R:=aO X [eV] h
end enthymemeref04_reader_take
namespace enthymemeref04_reader_need
noncomputable abbrev X:Fx:=⟨Tryz.prog,Tryz.f121,[],[]⟩
theorem ok (a:Addr) (b:ByteArray) (w:World) (R:aD) (h:zY bV #[.pointer (some a),.string b] w λd c=>aF (!d) (bX c (a.add 2) (.bool true) λe=>
 R (.returned (.tuple #[])) e) (R (.returned (.tuple #[])) c)):Calls Tryz.prog cO #[.pointer (some a),.string b] w R:=aO X [] h
end enthymemeref04_reader_need
namespace enthymemeref04_group
noncomputable abbrev X:Fx:=⟨Tryz.prog,Tryz.f136,[],[4]⟩
theorem cV (b:Int) (c:Sl) (w:World) (R:aD) (h:bE [] w λl k=>
 aF (((c.n:Nat):Int)==1) ((0:Int)<=0/\0<((c.n:Nat):Int)/\aX c.a λj=>cB k (j.add (Int.toNat 0 *4)) λd e f g=>loc [l] k λm=>R (.returned (.agg #[.i d,.int .u8 e,.int .u8 f,g.v])) m) (loc [l] k λo=>R (.returned (.agg #[.i b,.int .u8 0,.int .u8 0,c.v])) o)):Calls Tryz.prog dA #[.i b,c.v] w R:=aO X [] h
end enthymemeref04_group
namespace enthymemeref04_reader_begins
noncomputable abbrev X:Fx:=⟨Tryz.prog,Tryz.f182,[],[]⟩
theorem ok (c:Addr) (w:World) (R:aD) (h:Lt eL #[.pointer (some c)] w λb a=>∃d:Bool,a.cell? (c.add 2)=some (.bool d)/\
 aF (!d) (aF (!(b.toList==(ByteArray.mk #[]).toList)) (aF (!(b.toList==(ByteArray.mk #[41]).toList)) (aF (!(b.toList==(ByteArray.mk #[44]).toList)) (aF (!(b.toList==(ByteArray.mk #[124]).toList)) (R (.returned (.bool (!(b.toList==(ByteArray.mk #[38]).toList)))) a) (R (.returned (.bool false)) a)) (R (.returned (.bool false)) a)) (R (.returned (.bool false)) a)) (R (.returned (.bool false)) a)) (R (.returned (.bool false)) a)):Calls Tryz.prog gH #[.pointer (some c)] w R:=aO X [] h
end enthymemeref04_reader_begins
namespace enthymemeref04_reader_expr
noncomputable abbrev X:Fx:=⟨Tryz.prog,Tryz.f120,[],[2]⟩
abbrev P0:Ps:=[(0,.v [.r]),(2,.l [.I,.Y,.Y,.s] aA),(3,.v [.s])]
def eH (f:Addr) (g:Nat) (a b c:Int) (d e:Sl) (w:World) (R:aD):Prop:=cJ P0 0 (X.Sem (bH [0,2,2])) f g a b c d e w R
noncomputable def eC:=fZ X (bH [0,2,2]) P0 eH
theorem bA:∀(f:Addr) (a:Nat) (b c d:Int) (e r:Sl) (w:World) (R:aD) (h:jK [a] bV #[.pointer (some f),.string (ByteArray.mk #[124])] w λz u=>aF z (uA [a] cY #[.pointer (some f)] u λg j k l x=>fJ x (.cells #[.i g,.int .u8 j,.int .u8 k,l.v] aA) λy=>
 ∃(q:Sl) (s:World),Sem.run Tryz.prog (Builtin.append_ #[aC,aC] aC #[r.v,.slice (some (nb x)) 1 1]) y=.ok (q.v) s/\kept [a] y s/\eH f a b c d e q s R) (uA [a] dA #[.i 4,r.v] u λm n o p w8=>loc [a] w8 λt=>R (.returned (.agg #[.i m,.int .u8 n,.int .u8 o,p.v])) t)),eH f a b c d e r w R:=mp (dD (X:=X) [eC] (bH [0,2,2]) P0)
theorem cV (a:Addr) (w:World) (R:aD) (h:bE [] w λf j=>
 uA [f] cY #[.pointer (some a)] j λb c d e g=>fJ g (.cells #[.i b,.int .u8 c,.int .u8 d,e.v] aA) λk=>
 eH a f 0 0 0 ⟨none,0,0⟩ ⟨some (nb g),1,1⟩ k R):Calls Tryz.prog cM #[.pointer (some a)] w R:=aO X [eC] h
end enthymemeref04_reader_expr
namespace enthymemeref04_reader_conj
noncomputable abbrev X:Fx:=⟨Tryz.prog,Tryz.f134,[],[2]⟩
abbrev P0:Ps:=[(0,.v [.r]),(2,.l [.I,.Y,.Y,.s] aA),(3,.v [.s])]
def eH (f:Addr) (g:Nat) (a b c:Int) (d e:Sl) (w:World) (R:aD):Prop:=cJ P0 0 (X.Sem (bH [0,2,2])) f g a b c d e w R
noncomputable def eC:=fZ X (bH [0,2,2]) P0 eH
theorem bA:∀(f:Addr) (a:Nat) (b c d:Int) (e r:Sl) (w:World) (R:aD) (h:jK [a] bV #[.pointer (some f),.string (ByteArray.mk #[38])] w λz u=>aF z (uA [a] dH #[.pointer (some f)] u λg j k l x=>fJ x (.cells #[.i g,.int .u8 j,.int .u8 k,l.v] aA) λy=>
 ∃(q:Sl) (s:World),Sem.run Tryz.prog (Builtin.append_ #[aC,aC] aC #[r.v,.slice (some (nb x)) 1 1]) y=.ok (q.v) s/\kept [a] y s/\eH f a b c d e q s R) (uA [a] dA #[.i 5,r.v] u λm n o p w8=>loc [a] w8 λt=>R (.returned (.agg #[.i m,.int .u8 n,.int .u8 o,p.v])) t)),eH f a b c d e r w R:=mp (dD (X:=X) [eC] (bH [0,2,2]) P0)
theorem cV (a:Addr) (w:World) (R:aD) (h:bE [] w λf j=>
 uA [f] dH #[.pointer (some a)] j λb c d e g=>fJ g (.cells #[.i b,.int .u8 c,.int .u8 d,e.v] aA) λk=>
 eH a f 0 0 0 ⟨none,0,0⟩ ⟨some (nb g),1,1⟩ k R):Calls Tryz.prog cY #[.pointer (some a)] w R:=aO X [eC] h
end enthymemeref04_reader_conj
namespace enthymemeref04_reader_seq
noncomputable abbrev X:Fx:=⟨Tryz.prog,Tryz.f153,[],[2]⟩
abbrev P0:Ps:=[(0,.v [.r]),(2,.l [.I,.Y,.Y,.s] aA),(3,.v [.s])]
def eH (f:Addr) (g:Nat) (a b c:Int) (d e:Sl) (w:World) (R:aD):Prop:=cJ P0 0 (X.Sem (bH [0,2,2])) f g a b c d e w R
noncomputable def eC:=fZ X (bH [0,2,2]) P0 eH
theorem bA:∀(f:Addr) (a:Nat) (b c d:Int) (e r:Sl) (w:World) (R:aD) (h:jK [a] gH #[.pointer (some f)] w λz u=>aF z (uA [a] cN #[.pointer (some f)] u λg j k l x=>fJ x (.cells #[.i g,.int .u8 j,.int .u8 k,l.v] aA) λy=>
 ∃(q:Sl) (s:World),Sem.run Tryz.prog (Builtin.append_ #[aC,aC] aC #[r.v,.slice (some (nb x)) 1 1]) y=.ok (q.v) s/\kept [a] y s/\eH f a b c d e q s R) (uA [a] dA #[.i 3,r.v] u λm n o p w8=>loc [a] w8 λt=>R (.returned (.agg #[.i m,.int .u8 n,.int .u8 o,p.v])) t)),eH f a b c d e r w R:=mp (dD (X:=X) [eC] (bH [0,2,2]) P0)
theorem cV (a:Addr) (w:World) (R:aD) (h:bE [] w λf j=>
 uA [f] cN #[.pointer (some a)] j λb c d e g=>fJ g (.cells #[.i b,.int .u8 c,.int .u8 d,e.v] aA) λk=>
 eH a f 0 0 0 ⟨none,0,0⟩ ⟨some (nb g),1,1⟩ k R):Calls Tryz.prog dH #[.pointer (some a)] w R:=aO X [eC] h
end enthymemeref04_reader_seq
namespace enthymemeref04_reader_item
noncomputable abbrev X:Fx:=⟨Tryz.prog,Tryz.f181,[],[2,4]⟩
abbrev P0:Ps:=[(0,.v [.r]),(2,.l [.I,.Y,.Y,.s] aA),(4,.l [.I,.Y,.Y,.s] aA)]
def eH (j:Addr) (l:Nat) (e f g:Int) (i:Sl) (k:Nat) (a b c:Int) (d:Sl) (w:World) (R:aD):Prop:=cJ P0 0 (X.Sem (bH [0,2,4])) j l e f g i k a b c d w R
noncomputable def eC:=fZ X (bH [0,2,4]) P0 eH
theorem bA:∀(n:Addr) (f:Nat) (g j k:Int) (l:Sl) (e:Nat) (a b c:Int) (d:Sl) (w:World) (R:aD) (h:jK [f,e] bV #[.pointer (some n),.string (ByteArray.mk #[42])] w λo m=>aF o (fJ m (.cells #[.i a,.int .u8 b,.int .u8 c,d.v] aA) λp=>
 loc [f,e] p λq=>eH n f g j k l e 7 0 0 ⟨some (nb m),1,1⟩ q R) (loc [f,e] m λr=>R (.returned (.agg #[.i a,.int .u8 b,.int .u8 c,d.v])) r)),eH n f g j k l e a b c d w R:=mp (dD (X:=X) [eC] (bH [0,2,4]) P0)
theorem cV (b:Addr) (w:World) (R:aD) (h:bE [] w λa s=>
 jK [a] bV #[.pointer (some b),.string (ByteArray.mk #[33])] s λr p=>aF r (uA [a] cN #[.pointer (some b)] p λg j k l q=>fJ q (.cells #[.i g,.int .u8 j,.int .u8 k,l.v] aA) λt=>
 loc [a] t λu=>R (.returned (.agg #[.i 6,.int .u8 0,.int .u8 0,.slice (some (nb q)) 1 1])) u) (uA [a] fH #[.pointer (some b)] p λc d e f x=>bE [a] x λm n=>
 loc [a,m] n λo=>eH b a 0 0 0 ⟨none,0,0⟩ m c d e f o R)):Calls Tryz.prog cN #[.pointer (some b)] w R:=aO X [eC] h
end enthymemeref04_reader_item
namespace enthymemeref04_reader_atom
noncomputable abbrev X:Fx:=⟨Tryz.prog,Tryz.f197,[(1,ls [0,1,2,3,4,5,6,7,8,9,10,11,12,13,14,15,16,17,18,19]),(3,ls [0,1,2,3,4,5,6,7,8,9,10,11,12]),(8,ls [0,1,2,3,5,6,7,8,4,9,10])],[2,5,6]⟩
abbrev P0:Ps:=[(0,.v [.r]),(2,.l [.I,.Y,.Y,.s] aA),(3,.v [.s]),(4,.v [.I])]
def l4 (g:Addr) (i:Nat) (b c d:Int) (e a:Sl) (f:Int) (w:World) (R:aD):Prop:=cJ P0 0 (X.Sem (bH [0,1,1,1,3])) g i b c d e a f w R
noncomputable def kX:=fZ X (bH [0,1,1,1,3]) P0 l4
abbrev eY (g:Addr) (i:Nat) (b c d:Int) (e a:Sl) (f:Int) (w:World) (R:aD):Prop:=
 l4 g i b c d e a (IntKind.wrap .i64 (f+1)) w R
noncomputable def fL:=bK X [kX] (bH [2,2,1,1,3]) P0 eY
abbrev P1:Ps:=[(2,.l [.I,.Y,.Y,.s] aA),(5,.l [.I,.Y,.Y,.s] aA)]
abbrev gO (f:Nat) (g j k:Int) (l:Sl) (e:Nat) (a b c:Int) (d:Sl) (w:World) (R:aD):Prop:=
 loc [f,e] w λm=>R (.returned (.agg #[.i a,.int .u8 b,.int .u8 c,d.v])) m
noncomputable def hC:=bK X [fL,kX] (bH [4,2,1,2,1,1,3]) P1 gO
theorem dJ:∀(e:Addr) (b:Nat) (f g j:Int) (k c:Sl) (d:Int) (w:World) (R:aD) (h:aF (decide (d<6)) (aF (d==2) (loc [b] w λx=>eY e b f g j k c d x R) ((0:Int)<=d/\d<((c.n:Nat):Int)/\aX c.a λl=>loc [b] w λx=>∃o:ByteArray,x.cell? (l.add (Int.toNat d *1))=some (.string o)/\
 pG [b] eL #[.pointer (some e)] x λac q=>q.cell? (l.add (Int.toNat d *1))=some (.string o)/\aF (!(ac.toList==o.toList)) (eY e b f g j k c d q R) (∃y:Int,q.cell? (e.add 1)=some (.i y)/\
 bX q (e.add 1) (.i (IntKind.wrap .i64 (y+1))) λw4=>kept [b] q w4/\
 bE [b] w4 λm w5=>
 aF (decide (d>2)) (loc [b,m] w5 λw9=>Ti [b,m] fI #[.pointer (some e)] w9 λad ae=>loc [b,m] ae λaf=>gO b f g j k m d 0 0 ad af R) (loc [b,m] w5 λw9=>gO b f g j k m d 0 0 ⟨none,0,0⟩ w9 R)))) (QW [b] cO #[.pointer (some e),.string (ByteArray.mk #[40])] w λp=>∃z:Bool,p.cell? (e.add 2)=some (.bool z)/\
 aF z (loc [b] p λag=>R (.returned (.agg #[.i 0,.int .u8 0,.int .u8 0,.slice none 0 0])) ag) (uA [b] cM #[.pointer (some e)] p λr s t u ah=>bE [b] ah λb6 ai=>
 loc [b,b6] ai λaj=>QW [b,b6] cO #[.pointer (some e),.string (ByteArray.mk #[41])] aj λak=>loc [b,b6] ak λal=>R (.returned (.agg #[.i r,.int .u8 s,.int .u8 t,u.v])) al))),l4 e b f g j k c d w R:=mp (dD (X:=X) [hC,fL,kX] (bH [0,1,1,1,3]) P0)
abbrev P2:Ps:=[(0,.v [.r]),(2,.l [.I,.Y,.Y,.s] aA)]
abbrev dV (e:Addr) (f:Nat) (a b c:Int) (d:Sl) (w:World) (R:aD):Prop:=
 fJ w (.cells #[.string (ByteArray.mk #[110,111,110,101]),.string (ByteArray.mk #[101,109,112,116,121]),.s0,.string (ByteArray.mk #[99,97,116]),.string (ByteArray.mk #[97,108,116]),.string (ByteArray.mk #[97,108,108])] cI) λg=>
 l4 e f a b c d ⟨some (nb w),6,6⟩ 0 g R
noncomputable def eV:=bK X [hC,fL,kX] (bH [2]) P2 dV
theorem cV (b:Addr) (w:World) (R:aD) (h:bE [] w λf y=>
 loc [f] y λc=>∃s:Bool,c.cell? (b.add 2)=some (.bool s)/\
 aF (!s) (∃g:Sl,c.cell? (b.add 0)=some (g.v)/\
 ∃d:Int,c.cell? (b.add 1)=some (.i d)/\
 (0:Int)<=d/\d<((g.n:Nat):Int)/\aX g.a λk=>∃t:Int,c.cell? (((k.add (Int.toNat d *6)).add 2).add 0)=some (.i t)/\
 aF (t==2) (∃u:Int,c.cell? (b.add 1)=some (.i u)/\
 bX c (b.add 1) (.i (IntKind.wrap .i64 (u+1))) λx=>kept [f] c x/\
 loc [f] x λr=>∃j:Sl,r.cell? (b.add 0)=some (j.v)/\
 ∃e:Int,r.cell? (b.add 1)=some (.i e)/\
 (0:Int)<=(IntKind.wrap .i64 (e - 1))/\(IntKind.wrap .i64 (e - 1))<((j.n:Nat):Int)/\aX j.a λl=>cB r ((l.add (Int.toNat (IntKind.wrap .i64 (e - 1)) *6)).add 2) λm o p q=>loc [f] r λz=>R (.returned (.agg #[.i m,.int .u8 o,.int .u8 p,q.v])) z) (dV b f 0 0 0 ⟨none,0,0⟩ c R)) (dV b f 0 0 0 ⟨none,0,0⟩ c R)):Calls Tryz.prog fH #[.pointer (some b)] w R:=aO X [eV,hC,fL,kX] h
end enthymemeref04_reader_atom
namespace enthymemeref04_reader_kids
noncomputable abbrev X:Fx:=⟨Tryz.prog,Tryz.f212,[],[]⟩
abbrev P0:Ps:=[]
abbrev S0 (w:World) (R:aD):Prop:=
 R (.returned (.slice none 0 0)) w
noncomputable def eV:=bK X [] (bH [0,1,1,1,3]) P0 S0
abbrev P1:Ps:=[(0,.v [.r]),(4,.v [.s])]
def L1 (b:Addr) (a:Sl) (w:World) (R:aD):Prop:=cJ P1 0 (X.Sem (bH [0,2,5])) b a w R
noncomputable def kX:=fZ X (bH [0,2,5]) P1 L1
theorem nY:∀(b:Addr) (a:Sl) (w:World) (R:aD) (h:zY bV #[.pointer (some b),.string (ByteArray.mk #[44])] w λj k=>aF j (NX cM #[.pointer (some b)] k λc d e f l=>fJ l (.cells #[.i c,.int .u8 d,.int .u8 e,f.v] aA) λn=>
 ∃(g:Sl) (m:World),Sem.run Tryz.prog (Builtin.append_ #[aC,aC] aC #[a.v,.slice (some (nb l)) 1 1]) n=.ok (g.v) m/\L1 b g m R) (xI cO #[.pointer (some b),.string (ByteArray.mk #[41])] k λo=>R (.returned (a.v)) o)),L1 b a w R:=mp (dD (X:=X) [kX,eV] (bH [0,2,5]) P1)
theorem ok (a:Addr) (w:World) (R:aD) (h:xI cO #[.pointer (some a),.string (ByteArray.mk #[40])] w λl=>zY bV #[.pointer (some a),.string (ByteArray.mk #[41])] l λk f=>∃g:Bool,f.cell? (a.add 2)=some (.bool g)/\
 aF g (S0 f R) (aF k (S0 f R) (NX cM #[.pointer (some a)] f λb c d e j=>fJ j (.cells #[.i b,.int .u8 c,.int .u8 d,e.v] aA) λm=>
 L1 a ⟨some (nb j),1,1⟩ m R))):Calls Tryz.prog fI #[.pointer (some a)] w R:=aO X [kX,eV] h
end enthymemeref04_reader_kids
namespace enthymemeref04_Parse
noncomputable abbrev X:Fx:=⟨Tryz.prog,Tryz.f89,[(7,ls [0,1,2,3,4,5,6,7,8,9,10,11,12,13,14])],[2,6]⟩
theorem cV (s:ByteArray) (w:World) (R:aD) (h:bE [] w λb z=>
 aF (decide (((s.size:Nat):Int)>4096)) (loc [b] z λw5=>R (.returned (.tuple #[.agg #[.i 0,.int .u8 0,.int .u8 0,.slice none 0 0],.i 4096,.i 4])) w5) (Ti [b] jz #[.string s] z λx d=>fJ d (.cells #[x.v,.i 0,.bool false] jk) λw7=>
 uA [b] cM #[.pointer (some (nb d))] w7 λf g j k w8=>bE [b] w8 λe w9=>
 loc [b,e] w9 λaa=>QW [b,e] cO #[.pointer (some (nb d)),.s0] aa λr=>∃t:Bool,r.cell? ((nb d).add 2)=some (.bool t)/\
 aF t (loc [b,e] r λo=>∃l:Sl,o.cell? ((nb d).add 0)=some (l.v)/\
 ∃c:Int,o.cell? ((nb d).add 1)=some (.i c)/\
 (0:Int)<=c/\c<((l.n:Nat):Int)/\aX l.a λm=>∃q:Int,o.cell? ((m.add (Int.toNat c *6)).add 1)=some (.i q)/\
 loc [b,e] o λp=>p.cell? ((m.add (Int.toNat c *6)).add 1)=some (.i q)/\p.cell? ((nb d).add 1)=some (.i c)/\p.cell? ((nb d).add 0)=some (l.v)/\R (.returned (.tuple #[.agg #[.i 0,.int .u8 0,.int .u8 0,.slice none 0 0],.i q,.i 2])) p) (mW [b,e] dX #[.agg #[.i f,.int .u8 g,.int .u8 j,k.v]] r λy u=>aF (decide (y>64)) (loc [b,e] u λab=>R (.returned (.tuple #[.agg #[.i 0,.int .u8 0,.int .u8 0,.slice none 0 0],.i ((s.size:Nat):Int),.i 4])) ab) (loc [b,e] u λac=>R (.returned (.tuple #[.agg #[.i f,.int .u8 g,.int .u8 j,k.v],.i 0,.i 0])) ac)))):Calls Tryz.prog jX #[.string s] w R:=aO X [] h
end enthymemeref04_Parse
namespace enthymemeref04_Byte
noncomputable abbrev X:Fx:=⟨Tryz.prog,Tryz.f126,[],[]⟩
theorem ok (a:Int) (w:World) (R:aD) (h:zY hO #[.int .u8 a] w λl c=>aF l (fJ c (.cells #[.int .u8 39,.int .u8 a,.int .u8 39] dE) λd=>
 ∃j:ByteArray,Sem.run Tryz.prog (Go.convert bL cI (.slice (some (nb c)) 3 3)) d=.ok (.string j) d/\R (.returned (.string j)) d) (Tf gi #[.i (IntKind.wrap .i64 (Int.tdiv (IntKind.wrap .i64 a) 16))] c λf m=>Tf gi #[.i (Int.tmod (IntKind.wrap .i64 a) 16)] m λg k=>fJ k (.cells #[.int .u8 92,.int .u8 120,.int .u8 f,.int .u8 g] dE) λe=>
 ∃b:ByteArray,Sem.run Tryz.prog (Go.convert bL cI (.slice (some (nb k)) 4 4)) e=.ok (.string b) e/\R (.returned (.string b)) e)):Calls Tryz.prog gD #[.int .u8 a] w R:=aO X [] h
end enthymemeref04_Byte
namespace enthymemeref04_binds
noncomputable abbrev X:Fx:=⟨Tryz.prog,Tryz.f125,[],[1]⟩
abbrev P0:Ps:=[]
abbrev dV (w:World) (R:aD):Prop:=
 R (.returned (.i 4)) w
noncomputable def eV:=bK X [] (bH [0,1,1,1,2]) P0 dV
theorem cV (a f g:Int) (c:Sl) (w:World) (R:aD) (h:bE [] w λk b=>
 aF (a==6) (R (.returned (.i 3)) b) (aF (decide (a<3)) (dV b R) (aF (a==7) (dV b R) (aF (decide (((c.n:Nat):Int)<2)) (dV b R) (fJ b (.cells #[.i 2,.i 0,.i 1] bW) λj=>
 (0:Int)<=(IntKind.wrap .i64 (a - 3))/\(IntKind.wrap .i64 (a - 3))<((3:Nat):Int)/\aX (some (nb b)) λd=>∃e:Int,j.cell? (d.add (Int.toNat (IntKind.wrap .i64 (a - 3)) *1))=some (.i e)/\
 R (.returned (.i e)) j))))):Calls Tryz.prog gh #[.agg #[.i a,.int .u8 f,.int .u8 g,c.v]] w R:=aO X [eV] h
end enthymemeref04_binds
namespace enthymemeref04_low
noncomputable abbrev X:Fx:=⟨Tryz.prog,Tryz.f127,[],[]⟩
theorem ok (a:Int) (w:World) (R:aD) (h:aF (decide (a>=97)) (R (.returned (.bool (decide (a<=122)))) w) (R (.returned (.bool false)) w)):Calls Tryz.prog iU #[.int .u8 a] w R:=aO X [] h
end enthymemeref04_low
namespace enthymemeref04_Write
noncomputable abbrev X:Fx:=⟨Tryz.prog,Tryz.f91,[(11,ls [0,1,5,6,2,3,4,7,8,9,10])],[2]⟩
abbrev P0:Ps:=[(2,.l [.I,.Y,.Y,.s] aA),(5,.v [.st])]
abbrev dV (j:Nat) (b f g:Int) (i:Sl) (a:ByteArray) (w:World) (R:aD):Prop:=
 fJ w (.cells #[.string (ByteArray.mk #[99,97,116,40]),.string (ByteArray.mk #[97,108,116,40]),.string (ByteArray.mk #[97,108,108,40])] cI) λe=>
 (0:Int)<=(IntKind.wrap .i64 (b - 3))/\(IntKind.wrap .i64 (b - 3))<((3:Nat):Int)/\aX (some (nb w)) λd=>∃c:ByteArray,e.cell? (d.add (Int.toNat (IntKind.wrap .i64 (b - 3)) *1))=some (.string c)/\
 ¬(((c.size+a.size:Nat):Int)>IntKind.i64.max)/\¬((((c++a).size+(ByteArray.mk #[41]).size:Nat):Int)>IntKind.i64.max)/\R (.returned (.string ((c++a)++(ByteArray.mk #[41])))) e
noncomputable def eV:=bK X [] (bH [2,1,1,1,3]) P0 dV
abbrev P1:Ps:=[(2,.l [.I,.Y,.Y,.s] aA),(6,.v [.st]),(7,.v [.I]),(8,.v [.st]),(9,.v [.I])]
def l4 (j:Nat) (d e f:Int) (g:Sl) (a:ByteArray) (c:Int) (b:ByteArray) (i:Int) (w:World) (R:aD):Prop:=cJ P1 0 (X.Sem (bH [0,1,1,1,7])) j d e f g a c b i w R
noncomputable def kX:=fZ X (bH [0,1,1,1,7]) P1 l4
abbrev gO (j:Nat) (d e f:Int) (g:Sl) (a:ByteArray) (c:Int) (b:ByteArray) (i:Int) (w:World) (R:aD):Prop:=
 l4 j d e f g a c b (IntKind.wrap .i64 (i+1)) w R
noncomputable def hC:=bK X [kX,eV] (bH [2,2,1,1,7]) P1 gO
abbrev P2:Ps:=[(2,.l [.I,.Y,.Y,.s] aA),(6,.v [.st]),(7,.v [.I]),(8,.v [.st]),(9,.v [.I]),(10,.v [.st])]
abbrev eY (k:Nat) (e f g:Int) (i:Sl) (a:ByteArray) (d:Int) (c:ByteArray) (j:Int) (b:ByteArray) (w:World) (R:aD):Prop:=
 ¬(((c.size+a.size:Nat):Int)>IntKind.i64.max)/\¬((((c++a).size+b.size:Nat):Int)>IntKind.i64.max)/\gO k e f g i a d ((c++a)++b) j w R
noncomputable def fL:=bK X [hC,kX,eV] (bH [2,2,1,2,1,1,7]) P2 eY
theorem dJ:∀(m:Nat) (f g j:Int) (c:Sl) (d:ByteArray) (e:Int) (b:ByteArray) (l:Int) (w:World) (R:aD) (h:aF (decide (l<((c.n:Nat):Int))) ((0:Int)<=l/\l<((c.n:Nat):Int)/\aX c.a λq=>cB w (q.add (Int.toNat l *4)) λr s t u=>pG [m] bN #[.agg #[.i r,.int .u8 s,.int .u8 t,u.v],.i (IntKind.wrap .i64 (e+1))] w λk x=>aF (f==3) ((0:Int)<=(IntKind.wrap .i64 (((b.size:Nat):Int) - 1))/\∃o:UInt8,b[Int.toNat (IntKind.wrap .i64 (((b.size:Nat):Int) - 1))]? =some o/\jK [m] iU #[.int .u8 ((o.toNat:Nat):Int)] x λaa y=>aF aa ((0:Int)<=0/\∃p:UInt8,k[Int.toNat 0]? =some p/\jK [m] iU #[.int .u8 ((p.toNat:Nat):Int)] y λab z=>aF ab (¬(((b.size+(ByteArray.mk #[32]).size:Nat):Int)>IntKind.i64.max)/\eY m f g j c d e (b++(ByteArray.mk #[32])) l k z R) (eY m f g j c d e b l k z R)) (eY m f g j c d e b l k y R)) (eY m f g j c d e b l k x R)) (R (.returned (.string b)) w)),l4 m f g j c d e b l w R:=mp (dD (X:=X) [fL,hC,kX,eV] (bH [0,1,1,1,7]) P1)
theorem cV (c d e:Int) (b:Sl) (j:Int) (w:World) (R:aD) (h:bE [] w λf w1=>
 mW [f] gh #[.agg #[.i c,.int .u8 d,.int .u8 e,b.v]] w1 λar g=>aF (decide (ar<j)) (pG [f] bN #[.agg #[.i c,.int .u8 d,.int .u8 e,b.v],.i 0] g λl w3=>¬((((ByteArray.mk #[40]).size+l.size:Nat):Int)>IntKind.i64.max)/\¬(((((ByteArray.mk #[40])++l).size+(ByteArray.mk #[41]).size:Nat):Int)>IntKind.i64.max)/\R (.returned (.string (((ByteArray.mk #[40])++l)++(ByteArray.mk #[41])))) w3) (aF (c==0) (R (.returned (.string (ByteArray.mk #[110,111,110,101]))) g) (aF (c==1) (R (.returned (.string (ByteArray.mk #[101,109,112,116,121]))) g) (aF (c==2) (aF (d==e) (pG [f] gD #[.int .u8 d] g λau w4=>R (.returned (.string au)) w4) (loc [f] g λw5=>pG [f] gD #[.int .u8 d] w5 λk w6=>¬((((ByteArray.mk #[91]).size+k.size:Nat):Int)>IntKind.i64.max)/\¬(((((ByteArray.mk #[91])++k).size+(ByteArray.mk #[45]).size:Nat):Int)>IntKind.i64.max)/\pG [f] gD #[.int .u8 e] w6 λm w7=>¬((((((ByteArray.mk #[91])++k)++(ByteArray.mk #[45])).size+m.size:Nat):Int)>IntKind.i64.max)/\¬(((((((ByteArray.mk #[91])++k)++(ByteArray.mk #[45]))++m).size+(ByteArray.mk #[93]).size:Nat):Int)>IntKind.i64.max)/\R (.returned (.string (((((ByteArray.mk #[91])++k)++(ByteArray.mk #[45]))++m)++(ByteArray.mk #[93])))) w7)) (aF (c==6) ((0:Int)<=0/\0<((b.n:Nat):Int)/\aX b.a λo=>cB g (o.add (Int.toNat 0 *4)) λp q r s=>pG [f] bN #[.agg #[.i p,.int .u8 q,.int .u8 r,s.v],.i 3] g λal w8=>¬((((ByteArray.mk #[33]).size+al.size:Nat):Int)>IntKind.i64.max)/\R (.returned (.string ((ByteArray.mk #[33])++al))) w8) (aF (c==7) ((0:Int)<=0/\0<((b.n:Nat):Int)/\aX b.a λt=>cB g (t.add (Int.toNat 0 *4)) λu x y z=>pG [f] bN #[.agg #[.i u,.int .u8 x,.int .u8 y,z.v],.i 4] g λam w9=>¬(((am.size+(ByteArray.mk #[42]).size:Nat):Int)>IntKind.i64.max)/\R (.returned (.string (am++(ByteArray.mk #[42])))) w9) (aF (decide (((b.n:Nat):Int)<2)) (aF (((b.n:Nat):Int)==1) ((0:Int)<=0/\0<((b.n:Nat):Int)/\aX b.a λaa=>cB g (aa.add (Int.toNat 0 *4)) λab ac ad ae=>pG [f] bN #[.agg #[.i ab,.int .u8 ac,.int .u8 ad,ae.v],.i 0] g λav ax=>dV f c d e b av ax R) (dV f c d e b (ByteArray.mk #[]) g R)) (fJ g (.cells #[.s0,.string (ByteArray.mk #[124]),.string (ByteArray.mk #[38])] cI) λap=>
 (0:Int)<=(IntKind.wrap .i64 (c - 3))/\(IntKind.wrap .i64 (c - 3))<((3:Nat):Int)/\aX (some (nb g)) λaf=>∃an:ByteArray,ap.cell? (af.add (Int.toNat (IntKind.wrap .i64 (c - 3)) *1))=some (.string an)/\
 mW [f] gh #[.agg #[.i c,.int .u8 d,.int .u8 e,b.v]] ap λao aq=>(0:Int)<=0/\0<((b.n:Nat):Int)/\aX b.a λag=>cB aq (ag.add (Int.toNat 0 *4)) λah ai aj ak=>pG [f] bN #[.agg #[.i ah,.int .u8 ai,.int .u8 aj,ak.v],.i (IntKind.wrap .i64 (ao+1))] aq λaw ay=>l4 f c d e b an ao aw 1 ay R)))))))):Calls Tryz.prog bN #[.agg #[.i c,.int .u8 d,.int .u8 e,b.v],.i j] w R:=aO X [fL,hC,kX,eV] h
end enthymemeref04_Write
namespace enthymemeref04_Text
noncomputable def C0:Code:=(Tryz.f76.body).getD .skip
noncomputable def C1:=C0.sn
noncomputable def C2:=C1.sn
noncomputable def C3:=C2.sn
noncomputable def C4:=C3.sn
noncomputable def C5:=C4.sn
noncomputable def C6:=C5.sn
noncomputable def C7:=C6.sn
noncomputable def C8:=C7.sn
end enthymemeref04_Text
namespace enthymemeref04_Canonical
noncomputable abbrev X:Fx:=⟨Tryz.prog,Tryz.f48,[],[3,6]⟩
theorem cV (p:ByteArray) (w:World) (R:aD) (h:VB jX #[.string p] w λb c d e x m y=>bE [] y λa t=>
 aF (m !=0) (loc [a] t λq=>R (.returned (.bool false)) q) (loc [a] t λq=>Ly [a] jy #[.agg #[.i b,.int .u8 c,.int .u8 d,e.v]] q λf g j k n z=>bE [a] z λo u=>
 aF (n==0) (loc [a,o] u λl=>pG [a,o] bN #[.agg #[.i f,.int .u8 g,.int .u8 j,k.v],.i 0] l λr s=>R (.returned (.bool (r.toList==p.toList))) s) (loc [a,o] u λl=>R (.returned (.bool false)) l))):Calls Tryz.prog il #[.string p] w R:=aO X [] h
end enthymemeref04_Canonical
end Go.Proofs.YtcifihepfadgfaaGreatDoor

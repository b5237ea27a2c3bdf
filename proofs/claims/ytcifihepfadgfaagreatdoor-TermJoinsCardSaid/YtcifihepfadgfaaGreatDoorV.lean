import Derived.Test.YtcifihepfadgfaaGreatDoorU
import Derived.Test.YtcifihepfadgfaaGreatDoorProg
import Derived.KernelRfl
set_option linter.unusedVariables false
set_option maxRecDepth 100000
set_option maxHeartbeats 2000000
namespace Go.Proofs.YtcifihepfadgfaaGreatDoor
open Go Go.W
theorem mp {a b:Prop} (h:a) (e:a=b:=by kernel_rfl):b:=e▸h
abbrev Pb:=Exit->Act->World->Prop
abbrev KOk (P:Program) (n:Nat) (K:Env->World->aD->Prop) (c:Code) (Q:aD->Pb):Prop:=∀(R:aD) (E:Env) (w:World),K E w R->WP P (cx n) c (Q R) E w
abbrev LOk (P:Program) (n:Nat) (K:Env->World->aD->Prop) (c:Code) (Q:aD->Pb):Prop:=∀(R:aD) (E:Env) (w:World),K E w R->LP P (cx n) c (Q R) E w
abbrev bY (w:World) (p:Addr) (K:Int->Int->Int->Sl->Prop):Prop:=∃a:Int,∃b:Int,∃c:Int,∃d:Sl,w.cell? (p.add 0)=some (.i a)/\w.cell? (p.add 1)=some (.int .u8 b)/\w.cell? (p.add 2)=some (.int .u8 c)/\w.cell? (p.add 3)=some (d.v)/\K a b c d
abbrev SR (w:World) (p:Addr) (K:Int->Int->Int->ByteArray->Int->Prop):Prop:=∃a:Int,∃b:Int,∃c:Int,∃d:ByteArray,∃e:Int,w.cell? (p.add 0)=some (.int .u8 a)/\w.cell? (p.add 1)=some (.int .u8 b)/\w.cell? (p.add 2)=some (.int .u8 c)/\w.cell? (p.add 3)=some (.string d)/\w.cell? (p.add 4)=some (.i e)/\K a b c d e
abbrev dN (w:World) (p:Addr) (K:Int->Int->Int->Prop):Prop:=∃a:Int,∃b:Int,∃c:Int,w.cell? (p.add 0)=some (.i a)/\w.cell? (p.add 1)=some (.i b)/\w.cell? (p.add 2)=some (.i c)/\K a b c
abbrev tt (w:World) (p:Addr) (K:Int->Sl->Int->Int->Int->ByteArray->Int->Int->Int->Prop):Prop:=∃a:Int,∃b:Sl,∃c:Int,∃d:Int,∃e:Int,∃f:ByteArray,∃g:Int,∃j:Int,∃k:Int,w.cell? (p.add 0)=some (.i a)/\w.cell? (p.add 1)=some (b.v)/\w.cell? (p.add 2)=some (.i c)/\w.cell? (p.add 3)=some (.i d)/\w.cell? (p.add 4)=some (.u e)/\w.cell? (p.add 5)=some (.string f)/\w.cell? (p.add 6)=some (.i g)/\w.cell? (p.add 7)=some (.i j)/\w.cell? (p.add 8)=some (.i k)/\K a b c d e f g j k
abbrev AR (f:FuncId) (d:Array Value) (w:World) (K:Bool->World->Prop):Prop:=Calls Tryz.prog f d w λb c=>∃a:Bool,b=.returned (.bool a)/\K a c
abbrev jW (b:List Nat) (f:FuncId) (e:Array Value) (w:World) (K:Bool->World->Prop):Prop:=fE b Tryz.prog f e w λc d=>∃a:Bool,c=.returned (.bool a)/\K a d
abbrev BF (f:FuncId) (d:Array Value) (w:World) (K:Int->World->Prop):Prop:=Calls Tryz.prog f d w λb c=>∃a:Int,b=.returned (.i a)/\K a c
abbrev nJ (b:List Nat) (f:FuncId) (e:Array Value) (w:World) (K:Int->World->Prop):Prop:=fE b Tryz.prog f e w λc d=>∃a:Int,c=.returned (.i a)/\K a d
abbrev MF (f:FuncId) (j:Array Value) (w:World) (K:Int->Int->Int->Sl->World->Prop):Prop:=Calls Tryz.prog f j w λe g=>∃a:Int,∃b:Int,∃c:Int,∃d:Sl,e=.returned (.agg #[.i a,.int .u8 b,.int .u8 c,d.v])/\K a b c d g
abbrev vq (e:List Nat) (f:FuncId) (k:Array Value) (w:World) (K:Int->Int->Int->Sl->World->Prop):Prop:=fE e Tryz.prog f k w λg j=>∃a:Int,∃b:Int,∃c:Int,∃d:Sl,g=.returned (.agg #[.i a,.int .u8 b,.int .u8 c,d.v])/\K a b c d j
abbrev WW (f:FuncId) (d:Array Value) (w:World) (K:Sl->World->Prop):Prop:=Calls Tryz.prog f d w λb c=>∃a:Sl,b=.returned (a.v)/\K a c
abbrev Sd (b:List Nat) (f:FuncId) (e:Array Value) (w:World) (K:Sl->World->Prop):Prop:=fE b Tryz.prog f e w λc d=>∃a:Sl,c=.returned (a.v)/\K a d
abbrev yE (f:FuncId) (c:Array Value) (w:World) (K:World->Prop):Prop:=Calls Tryz.prog f c w λa b=>a=.returned (.tuple #[])/\K b
abbrev Se (a:List Nat) (f:FuncId) (d:Array Value) (w:World) (K:World->Prop):Prop:=fE a Tryz.prog f d w λb c=>b=.returned (.tuple #[])/\K c
abbrev ca5 (f:FuncId) (e:Array Value) (w:World) (K:Int->Int->World->Prop):Prop:=Calls Tryz.prog f e w λc d=>∃a:Int,∃b:Int,c=.returned (.tuple #[.i a,.i b])/\K a b d
abbrev cf5 (c:List Nat) (f:FuncId) (g:Array Value) (w:World) (K:Int->Int->World->Prop):Prop:=fE c Tryz.prog f g w λd e=>∃a:Int,∃b:Int,d=.returned (.tuple #[.i a,.i b])/\K a b e
abbrev ca6 (f:FuncId) (e:Array Value) (w:World) (K:Int->Bool->World->Prop):Prop:=Calls Tryz.prog f e w λc d=>∃a:Int,∃b:Bool,c=.returned (.tuple #[.i a,.bool b])/\K a b d
abbrev cf6 (c:List Nat) (f:FuncId) (g:Array Value) (w:World) (K:Int->Bool->World->Prop):Prop:=fE c Tryz.prog f g w λd e=>∃a:Int,∃b:Bool,d=.returned (.tuple #[.i a,.bool b])/\K a b e
abbrev Z' (d:List Nat) (f:FuncId) (j:Array Value) (w:World) (K:Int->Int->Bool->World->Prop):Prop:=fE d Tryz.prog f j w λe g=>∃a:Int,∃b:Int,∃c:Bool,e=.returned (.tuple #[.int .u8 a,.i b,.bool c])/\K a b c g
abbrev ca8 (f:FuncId) (l:Array Value) (w:World) (K:Int->Int->Int->ByteArray->Int->Int->World->Prop):Prop:=Calls Tryz.prog f l w λj k=>∃a:Int,∃b:Int,∃c:Int,∃d:ByteArray,∃e:Int,∃g:Int,j=.returned (.tuple #[.agg #[.int .u8 a,.int .u8 b,.int .u8 c,.string d,.i e],.i g])/\K a b c d e g k
abbrev ca9 (f:FuncId) (d:Array Value) (w:World) (K:(Option Addr)->World->Prop):Prop:=Calls Tryz.prog f d w λb c=>∃a:Option Addr,b=.returned (.pointer a)/\K a c
abbrev YU (b:List Nat) (f:FuncId) (e:Array Value) (w:World) (K:(Option Addr)->World->Prop):Prop:=fE b Tryz.prog f e w λc d=>∃a:Option Addr,c=.returned (.pointer a)/\K a d
abbrev ZZ (f:FuncId) (d:Array Value) (w:World) (K:Value->World->Prop):Prop:=Calls Tryz.prog f d w λb c=>∃a:Value,b=.returned (a)/\K a c
abbrev Z0 (f:FuncId) (k:Array Value) (w:World) (K:Int->Int->Int->Sl->Int->World->Prop):Prop:=Calls Tryz.prog f k w λg j=>∃a:Int,∃b:Int,∃c:Int,∃d:Sl,∃e:Int,g=.returned (.tuple #[.agg #[.i a,.int .u8 b,.int .u8 c,d.v],.i e])/\K a b c d e j
abbrev MJ (g:List Nat) (f:FuncId) (l:Array Value) (w:World) (K:Int->Int->Int->Sl->Int->World->Prop):Prop:=fE g Tryz.prog f l w λj k=>∃a:Int,∃b:Int,∃c:Int,∃d:Sl,∃e:Int,j=.returned (.tuple #[.agg #[.i a,.int .u8 b,.int .u8 c,d.v],.i e])/\K a b c d e k
abbrev Z4 (b:List Nat) (f:FuncId) (e:Array Value) (w:World) (K:(Option Nat)->World->Prop):Prop:=fE b Tryz.prog f e w λc d=>∃a:Option Nat,c=.returned (.map a)/\K a d
abbrev Ur (f:FuncId) (d:Array Value) (w:World) (K:Int->World->Prop):Prop:=Calls Tryz.prog f d w λb c=>∃a:Int,b=.returned (.int .u8 a)/\K a c
abbrev Us (c:List Nat) (f:FuncId) (g:Array Value) (w:World) (K:Int->Int->World->Prop):Prop:=fE c Tryz.prog f g w λd e=>∃a:Int,∃b:Int,d=.returned (.tuple #[.int .u8 a,.i b])/\K a b e
abbrev Km (f:FuncId) (d:Array Value) (w:World) (K:ByteArray->World->Prop):Prop:=Calls Tryz.prog f d w λb c=>∃a:ByteArray,b=.returned (.string a)/\K a c
abbrev qj (b:List Nat) (f:FuncId) (e:Array Value) (w:World) (K:ByteArray->World->Prop):Prop:=fE b Tryz.prog f e w λc d=>∃a:ByteArray,c=.returned (.string a)/\K a d
abbrev WU (f:FuncId) (l:Array Value) (w:World) (K:Int->Int->Int->Sl->Int->Int->World->Prop):Prop:=Calls Tryz.prog f l w λj k=>∃a:Int,∃b:Int,∃c:Int,∃d:Sl,∃e:Int,∃g:Int,j=.returned (.tuple #[.agg #[.i a,.int .u8 b,.int .u8 c,d.v],.i e,.i g])/\K a b c d e g k
abbrev Eo (f:FuncId) (g:Array Value) (w:World) (K:Int->Int->Int->World->Prop):Prop:=Calls Tryz.prog f g w λd e=>∃a:Int,∃b:Int,∃c:Int,d=.returned (.agg #[.i a,.i b,.i c])/\K a b c e
abbrev gX (d:List Nat) (f:FuncId) (j:Array Value) (w:World) (K:Int->Int->Int->World->Prop):Prop:=fE d Tryz.prog f j w λe g=>∃a:Int,∃b:Int,∃c:Int,e=.returned (.agg #[.i a,.i b,.i c])/\K a b c g
abbrev Z5 (e:List Nat) (f:FuncId) (k:Array Value) (w:World) (K:Int->Int->Int->Bool->World->Prop):Prop:=fE e Tryz.prog f k w λg j=>∃a:Int,∃b:Int,∃c:Int,∃d:Bool,g=.returned (.tuple #[.agg #[.i a,.i b,.i c],.bool d])/\K a b c d j
abbrev g7 (e:List Nat) (f:FuncId) (k:Array Value) (w:World) (K:Int->Int->Int->Int->World->Prop):Prop:=fE e Tryz.prog f k w λg j=>∃a:Int,∃b:Int,∃c:Int,∃d:Int,g=.returned (.tuple #[.agg #[.i a,.i b,.i c],.i d])/\K a b c d j
abbrev Z1 (f:FuncId) (g:Array Value) (w:World) (K:Sl->Int->Int->World->Prop):Prop:=Calls Tryz.prog f g w λd e=>∃a:Sl,∃b:Int,∃c:Int,d=.returned (.tuple #[a.v,.i b,.i c])/\K a b c e
abbrev Z6 (d:List Nat) (f:FuncId) (j:Array Value) (w:World) (K:Sl->Int->Int->World->Prop):Prop:=fE d Tryz.prog f j w λe g=>∃a:Sl,∃b:Int,∃c:Int,e=.returned (.tuple #[a.v,.i b,.i c])/\K a b c g
abbrev WV (f:FuncId) (o:Array Value) (w:World) (K:Int->Sl->Int->Int->Int->ByteArray->Int->Int->Int->World->Prop):Prop:=Calls Tryz.prog f o w λm n=>∃a:Int,∃b:Sl,∃c:Int,∃d:Int,∃e:Int,∃g:ByteArray,∃j:Int,∃k:Int,∃l:Int,m=.returned (.agg #[.i a,b.v,.i c,.i d,.u e,.string g,.i j,.i k,.i l])/\K a b c d e g j k l n
abbrev Ut (m:List Nat) (f:FuncId) (p:Array Value) (w:World) (K:Int->Sl->Int->Int->Int->ByteArray->Int->Int->Int->World->Prop):Prop:=fE m Tryz.prog f p w λn o=>∃a:Int,∃b:Sl,∃c:Int,∃d:Int,∃e:Int,∃g:ByteArray,∃j:Int,∃k:Int,∃l:Int,n=.returned (.agg #[.i a,b.v,.i c,.i d,.u e,.string g,.i j,.i k,.i l])/\K a b c d e g j k l o
abbrev Z2 (f:FuncId) (g:Array Value) (w:World) (K:Sl->Int->Int->World->Prop):Prop:=Calls Tryz.prog f g w λd e=>∃a:Sl,∃b:Int,∃c:Int,d=.returned (.tuple #[.agg #[a.v],.i b,.i c])/\K a b c e
abbrev WZ (d:List Nat) (f:FuncId) (j:Array Value) (w:World) (K:Sl->Int->Int->World->Prop):Prop:=fE d Tryz.prog f j w λe g=>∃a:Sl,∃b:Int,∃c:Int,e=.returned (.tuple #[.agg #[a.v],.i b,.i c])/\K a b c g
abbrev Uu (c:List Nat) (f:FuncId) (g:Array Value) (w:World) (K:ByteArray->Int->World->Prop):Prop:=fE c Tryz.prog f g w λd e=>∃a:ByteArray,∃b:Int,d=.returned (.tuple #[.string a,.i b])/\K a b e
abbrev Z7 (b:List Nat) (f:FuncId) (e:Array Value) (w:World) (K:Sl->World->Prop):Prop:=fE b Tryz.prog f e w λc d=>∃a:Sl,c=.returned (.agg #[a.v])/\K a d
abbrev Z3 (f:FuncId) (g:Array Value) (w:World) (K:Sl->Sl->Int->World->Prop):Prop:=Calls Tryz.prog f g w λd e=>∃a:Sl,∃b:Sl,∃c:Int,d=.returned (.tuple #[.agg #[a.v],b.v,.i c])/\K a b c e
abbrev Z8 (d:List Nat) (f:FuncId) (j:Array Value) (w:World) (K:Sl->Sl->Int->World->Prop):Prop:=fE d Tryz.prog f j w λe g=>∃a:Sl,∃b:Sl,∃c:Int,e=.returned (.tuple #[.agg #[a.v],b.v,.i c])/\K a b c g
abbrev Z9 (d:List Nat) (f:FuncId) (j:Array Value) (w:World) (K:Sl->Sl->Int->World->Prop):Prop:=fE d Tryz.prog f j w λe g=>∃a:Sl,∃b:Sl,∃c:Int,e=.returned (.tuple #[a.v,b.v,.i c])/\K a b c g
abbrev Nk (w:World) (p:Addr) (a b c:Value) (K:Unit->Prop):Prop:=w.cell? (p.add 0)=some a/\w.cell? (p.add 1)=some b/\w.cell? (p.add 2)=some c/\K ()
abbrev Iw (w:World) (p:Addr) (a b c:Value) (K:World->Prop):Prop:=bT w p a λw=>bT w (p.add 1) b λw=>bT w (p.add 2) c λw=>K w
abbrev q7 (w:World) (p:Addr) (a b c d:Value) (K:World->Prop):Prop:=bT w p a λw=>bT w (p.add 1) b λw=>bT w (p.add 2) c λw=>bT w (p.add 3) d λw=>K w
abbrev Yt (w:World) (p:Addr) (a b c d e:Value) (K:World->Prop):Prop:=bT w p a λw=>bT w (p.add 1) b λw=>bT w (p.add 2) c λw=>bT w (p.add 3) d λw=>bT w (p.add 4) e λw=>K w
abbrev Lt:Nat:=0
abbrev bP:Nat:=3
abbrev dF:Nat:=5
abbrev cJ:Nat:=9
abbrev dK:Nat:=22
abbrev bB:Nat:=23
abbrev eZ:Nat:=27
abbrev aS:Nat:=30
abbrev aE:Nat:=32
abbrev wM:Nat:=34
abbrev bJ:Nat:=65
abbrev og:Nat:=87
abbrev wN:Nat:=99
abbrev iF:Nat:=108
abbrev Lu:Nat:=132
abbrev mU:Nat:=133
abbrev aC:Nat:=140
abbrev aA:Nat:=142
abbrev oe:Nat:=149
abbrev kB:Nat:=150
abbrev gJ:Nat:=152
abbrev bU:Nat:=171
abbrev jA:Nat:=174
abbrev cA:Nat:=176
abbrev aF:Nat:=182
abbrev aB:Nat:=184
abbrev cB:Nat:=198
abbrev lj:Nat:=199
abbrev hO:Nat:=201
abbrev fN:Nat:=206
abbrev aP:Nat:=214
abbrev bI:Nat:=226
abbrev cF:Nat:=233
abbrev lH:Nat:=6
abbrev iI:Nat:=9
abbrev aR:Nat:=10
abbrev nG:Nat:=11
abbrev kL:Nat:=12
abbrev hG:Nat:=13
abbrev qo:Nat:=14
abbrev jg:Nat:=15
abbrev gA:Nat:=16
abbrev tz:Nat:=17
abbrev kg:Nat:=18
abbrev gK:Nat:=20
abbrev aT:Nat:=25
abbrev qJ:Nat:=26
abbrev kP:Nat:=27
abbrev il:Nat:=28
abbrev ko:Nat:=38
abbrev iK:Nat:=39
abbrev jP:Nat:=40
abbrev iL:Nat:=41
abbrev oN:Nat:=42
abbrev mY:Nat:=43
abbrev jM:Nat:=44
abbrev kQ:Nat:=45
abbrev lM:Nat:=46
abbrev jN:Nat:=47
abbrev iz:Nat:=48
abbrev oM:Nat:=49
abbrev iV:Nat:=50
abbrev km:Nat:=51
abbrev iJ:Nat:=52
abbrev jh:Nat:=53
abbrev nX:Nat:=54
abbrev kS:Nat:=55
abbrev mz:Nat:=56
abbrev kr:Nat:=57
abbrev nj:Nat:=58
abbrev rY:Nat:=59
abbrev lP:Nat:=60
abbrev eR:Nat:=61
abbrev rZ:Nat:=62
abbrev nk:Nat:=63
abbrev iq:Nat:=72
abbrev bS:Nat:=75
abbrev kO:Nat:=76
abbrev iH:Nat:=77
abbrev gO:Nat:=78
abbrev jO:Nat:=79
abbrev oD:Nat:=80
abbrev oE:Nat:=81
abbrev nZ:Nat:=82
abbrev nY:Nat:=83
abbrev mB:Nat:=84
abbrev lS:Nat:=85
abbrev kn:Nat:=86
abbrev iA:Nat:=87
abbrev fM:Nat:=88
abbrev kh:Nat:=89
abbrev jJ:Nat:=90
abbrev bL:Nat:=91
abbrev pw:Nat:=92
abbrev lI:Nat:=93
abbrev hM:Nat:=94
abbrev pV:Nat:=95
abbrev fT:Nat:=96
abbrev gT:Nat:=97
abbrev ku:Nat:=98
abbrev nl:Nat:=99
abbrev bR:Nat:=106
abbrev dS:Nat:=107
abbrev q6:Nat:=108
abbrev kY:Nat:=109
abbrev lT:Nat:=110
abbrev lQ:Nat:=111
abbrev aV:Nat:=112
abbrev jo:Nat:=113
abbrev fJ:Nat:=114
abbrev pU:Nat:=115
abbrev cV:Nat:=116
abbrev mZ:Nat:=117
abbrev bZ:Nat:=118
abbrev jK:Nat:=119
abbrev cM:Nat:=120
abbrev cO:Nat:=121
abbrev eC:Nat:=122
abbrev kj:Nat:=123
abbrev lJ:Nat:=124
abbrev gv:Nat:=125
abbrev gN:Nat:=126
abbrev je:Nat:=127
abbrev iW:Nat:=128
abbrev jL:Nat:=129
abbrev qY:Nat:=130
abbrev nV:Nat:=131
abbrev qZ:Nat:=132
abbrev jx:Nat:=133
abbrev c9:Nat:=134
abbrev bW:Nat:=135
abbrev dC:Nat:=136
abbrev iG:Nat:=137
abbrev ik:Nat:=138
abbrev gw:Nat:=139
abbrev cI:Nat:=140
abbrev lK:Nat:=141
abbrev tw:Nat:=142
abbrev mw:Nat:=143
abbrev eY:Nat:=144
abbrev fI:Nat:=145
abbrev jR:Nat:=146
abbrev oK:Nat:=147
abbrev po:Nat:=148
abbrev lO:Nat:=149
abbrev q0:Nat:=150
abbrev im:Nat:=151
abbrev fV:Nat:=152
abbrev dJ:Nat:=153
abbrev eQ:Nat:=154
abbrev fW:Nat:=155
abbrev pq:Nat:=156
abbrev jD:Nat:=157
abbrev gZ:Nat:=158
abbrev gF:Nat:=159
abbrev jj:Nat:=160
abbrev iM:Nat:=161
abbrev iN:Nat:=162
abbrev jk:Nat:=163
abbrev kX:Nat:=164
abbrev nW:Nat:=165
abbrev mR:Nat:=166
abbrev kE:Nat:=167
abbrev mX:Nat:=168
abbrev ji:Nat:=169
abbrev rX:Nat:=170
abbrev cZ:Nat:=171
abbrev jC:Nat:=172
abbrev eK:Nat:=173
abbrev dT:Nat:=174
abbrev aU:Nat:=175
abbrev dD:Nat:=176
abbrev ja:Nat:=177
abbrev jb:Nat:=178
abbrev rW:Nat:=179
abbrev eS:Nat:=180
abbrev cN:Nat:=181
abbrev gS:Nat:=182
abbrev ia:Nat:=183
abbrev kK:Nat:=184
abbrev lN:Nat:=185
abbrev eL:Nat:=186
abbrev dH:Nat:=187
abbrev gC:Nat:=188
abbrev cK:Nat:=189
abbrev dW:Nat:=190
abbrev pn:Nat:=191
abbrev pT:Nat:=192
abbrev nU:Nat:=193
abbrev kf:Nat:=194
abbrev bO:Nat:=195
abbrev jQ:Nat:=196
abbrev fO:Nat:=197
abbrev gB:Nat:=198
abbrev oL:Nat:=199
abbrev eF:Nat:=200
abbrev my:Nat:=201
abbrev kF:Nat:=202
abbrev lq:Nat:=203
abbrev kR:Nat:=204
abbrev iX:Nat:=205
abbrev kq:Nat:=206
abbrev l6:Nat:=207
abbrev qI:Nat:=209
abbrev pj:Nat:=210
abbrev oC:Nat:=211
abbrev fP:Nat:=212
abbrev eD:Nat:=213
namespace enthymemeref01_Around
noncomputable abbrev X:Fx:=⟨Tryz.prog,Tryz.f10,[],[]⟩
abbrev P0:Ps:=[(0,.v [.I]),(1,.v [.I])]
abbrev S0 (b a:Int) (w:World) (R:aD):Prop:=
 a≠0/\R (.returned (.i (Int.tmod b a))) w
noncomputable def fA:=bK X [] (bH [2]) P0 S0
theorem ok (b a:Int) (w:World) (R:aD) (h:aG (decide (b<0)) (S0 (IntKind.wrap .i64 (0 - (IntKind.wrap .i64 (b+1)))) a w R) (S0 b a w R)):Calls Tryz.prog aR #[.i b,.i a] w R:=aM X [fA] h
end enthymemeref01_Around
namespace enthymemeref01_Has
noncomputable abbrev X:Fx:=⟨Tryz.prog,Tryz.f93,[],[]⟩
abbrev P0:Ps:=[(0,.v [.s]),(1,.v [.I]),(5,.v [.I])]
def L0 (b:Sl) (c a:Int) (w:World) (R:aD):Prop:=cG P0 0 (X.Sem (bH [0,1,1,1,1])) b c a w R
noncomputable def eN:=fU X (bH [0,1,1,1,1]) P0 L0
theorem cC:∀(c:Sl) (f b:Int) (w:World) (R:aD) (h:aG (decide (b<((c.n:Nat):Int))) ((0:Int)<=b/\b<((c.n:Nat):Int)/\aW c.a λd=>∃e:Int,w.cell? (d.add (Int.toNat b *1))=some (.i e)/\
 aG (e==f) (R (.returned (.bool true)) w) (L0 c f (IntKind.wrap .i64 (b+1)) w R)) (R (.returned (.bool false)) w)),L0 c f b w R:=mp (cW (X:=X) [eN] (bH [0,1,1,1,1]) P0)
theorem ok (a:Sl) (b:Int) (w:World) (R:aD) (h:L0 a b 0 w R):Calls Tryz.prog lI #[a.v,.i b] w R:=aM X [eN] h
end enthymemeref01_Has
namespace enthymemeref01_SameInts
noncomputable abbrev X:Fx:=⟨Tryz.prog,Tryz.f20,[(6,ls [0,1,2,3,4,5,6,7,8])],[]⟩
abbrev P0:Ps:=[(0,.v [.s]),(1,.v [.s]),(5,.v [.I])]
def L0 (a b:Sl) (c:Int) (w:World) (R:aD):Prop:=cG P0 0 (X.Sem (bH [0,1,1,1,2])) a b c w R
noncomputable def eN:=fU X (bH [0,1,1,1,2]) P0 L0
theorem cC:∀(c d:Sl) (b:Int) (w:World) (R:aD) (h:aG (decide (b<((c.n:Nat):Int))) (vQ w λg=>(0:Int)<=b/\b<((c.n:Nat):Int)/\aW c.a λe=>∃j:Int,g.cell? (e.add (Int.toNat b *1))=some (.i j)/\
 (0:Int)<=b/\b<((d.n:Nat):Int)/\aW d.a λf=>∃k:Int,g.cell? (f.add (Int.toNat b *1))=some (.i k)/\
 aG (j !=k) (R (.returned (.bool false)) g) (L0 c d (IntKind.wrap .i64 (b+1)) g R)) (R (.returned (.bool true)) w)),L0 c d b w R:=mp (cW (X:=X) [eN] (bH [0,1,1,1,2]) P0)
theorem ok (a b:Sl) (w:World) (R:aD) (h:aG (((a.n:Nat):Int) !=((b.n:Nat):Int)) (R (.returned (.bool false)) w) (L0 a b 0 w R)):Calls Tryz.prog gK #[a.v,b.v] w R:=aM X [eN] h
end enthymemeref01_SameInts
namespace cmp_isNaN_int
noncomputable abbrev X:Fx:=⟨Tryz.prog,Tryz.f210,[],[]⟩
theorem ok (a:Int) (w:World) (R:aD) (h:R (.returned (.bool (a !=a))) w):Calls Tryz.prog pj #[.i a] w R:=aM X [] h
end cmp_isNaN_int
namespace cmp_isNaN_byte
noncomputable abbrev X:Fx:=⟨Tryz.prog,Tryz.f211,[],[]⟩
theorem ok (a:Int) (w:World) (R:aD) (h:R (.returned (.bool (a !=a))) w):Calls Tryz.prog oC #[.int .u8 a] w R:=aM X [] h
end cmp_isNaN_byte
namespace cmp_Compare_int
noncomputable abbrev X:Fx:=⟨Tryz.prog,Tryz.f193,[],[]⟩
theorem ok (b c:Int) (w:World) (R:aD) (h:AR pj #[.i b] w λe f=>AR pj #[.i c] f λd a=>aG e (aG d (R (.returned (.i 0)) a) (R (.returned (.i (-1))) a)) (aG d (R (.returned (.i 1)) a) (aG (decide (b<c)) (R (.returned (.i (-1))) a) (aG (decide (b>c)) (R (.returned (.i 1)) a) (R (.returned (.i 0)) a))))):Calls Tryz.prog nU #[.i b,.i c] w R:=aM X [] h
end cmp_Compare_int
namespace cmp_Compare_byte
noncomputable abbrev X:Fx:=⟨Tryz.prog,Tryz.f194,[],[]⟩
theorem ok (b c:Int) (w:World) (R:aD) (h:AR oC #[.int .u8 b] w λe f=>AR oC #[.int .u8 c] f λd a=>aG e (aG d (R (.returned (.i 0)) a) (R (.returned (.i (-1))) a)) (aG d (R (.returned (.i 1)) a) (aG (decide (b<c)) (R (.returned (.i (-1))) a) (aG (decide (b>c)) (R (.returned (.i 1)) a) (R (.returned (.i 0)) a))))):Calls Tryz.prog kf #[.int .u8 b,.int .u8 c] w R:=aM X [] h
end cmp_Compare_byte
namespace cmp_Or_int
noncomputable abbrev X:Fx:=⟨Tryz.prog,Tryz.f192,[],[]⟩
abbrev P0:Ps:=[(3,.v [.I]),(6,.v [.s]),(7,.v [.I]),(8,.v [.I])]
def L0 (a:Int) (b:Sl) (c d:Int) (w:World) (R:aD):Prop:=cG P0 0 (X.Sem (bH [0,1,1,1,2])) a b c d w R
noncomputable def eN:=fU X (bH [0,1,1,1,2]) P0 L0
theorem cC:∀(b:Int) (f:Sl) (g c:Int) (w:World) (R:aD) (h:aG (decide (c<g)) ((0:Int)<=c/\c<((f.n:Nat):Int)/\aW f.a λe=>∃d:Int,w.cell? (e.add (Int.toNat c *1))=some (.i d)/\
 aG (d !=b) (R (.returned (.i d)) w) (L0 b f g (IntKind.wrap .i64 (c+1)) w R)) (R (.returned (.i b)) w)),L0 b f g c w R:=mp (cW (X:=X) [eN] (bH [0,1,1,1,2]) P0)
theorem ok (a:Sl) (w:World) (R:aD) (h:L0 0 a ((a.n:Nat):Int) 0 w R):Calls Tryz.prog pT #[a.v] w R:=aM X [eN] h
end cmp_Or_int
namespace regex_Compare
noncomputable abbrev X:Fx:=⟨Tryz.prog,Tryz.f175,[(1,ls [0,1,2,3,5,6,7,8,10,11,12,13,4,9,14,15,16,17])],[2,3]⟩
theorem cU (c d e:Int) (f:Sl) (g j k:Int) (l:Sl) (w:World) (R:aD) (h:bE [] w λa t=>
 bE [a] t λb u=>
 loc [a,b] u λx=>nJ [a,b] nU #[.i c,.i g] x λn y=>nJ [a,b] kf #[.int .u8 d,.int .u8 j] y λo z=>nJ [a,b] kf #[.int .u8 e,.int .u8 k] z λp r=>fH r (.cells #[.i n,.i o,.i p] bP) λw7=>
 nJ [a,b] pT #[.slice (some (nb r)) 3 3] w7 λm s=>aG (m !=0) (R (.returned (.i m)) s) (nJ [a,b] bO #[f.v,l.v,.func (.func aU) #[] #[]] s λq w9=>R (.returned (.i q)) w9)):Calls Tryz.prog aU #[.agg #[.i c,.int .u8 d,.int .u8 e,f.v],.agg #[.i g,.int .u8 j,.int .u8 k,l.v]] w R:=aM X [] h
end regex_Compare
namespace slices_CompareFunc_sl_regex_Regex_sl_regex_Regex_regex_Regex_regex_Regex
noncomputable abbrev X:Fx:=⟨Tryz.prog,Tryz.f195,[],[8,9]⟩
abbrev P0:Ps:=[(0,.v [.s]),(1,.v [.s]),(2,.v [.g aU 0 0]),(11,.v [.s]),(12,.v [.I]),(13,.v [.I])]
def eE (a b c:Sl) (d e:Int) (w:World) (R:aD):Prop:=cG P0 0 (X.Sem (bH [0,1,1,1,1])) a b c d e w R
noncomputable def eN:=fU X (bH [0,1,1,1,1]) P0 eE
theorem aY:∀(f c d:Sl) (g b:Int) (w:World) (R:aD) (h:aG (decide (b<g)) ((0:Int)<=b/\b<((d.n:Nat):Int)/\aW d.a λj=>bY w (j.add (Int.toNat b *4)) λk l m o=>bE [] w λe w1=>
 aG (decide (b>=((c.n:Nat):Int))) (loc [e] w1 λu=>R (.returned (.i 1)) u) ((0:Int)<=b/\b<((c.n:Nat):Int)/\aW c.a λp=>loc [e] w1 λu=>bY u (p.add (Int.toNat b *4)) λq r s t=>bE [e] u λz w6=>
 loc [e,z] w6 λab=>nJ [e,z] aU #[.agg #[.i k,.int .u8 l,.int .u8 m,o.v],.agg #[.i q,.int .u8 r,.int .u8 s,t.v]] ab λx y=>aG (x !=0) (R (.returned (.i x)) y) (eE f c d g (IntKind.wrap .i64 (b+1)) y R))) (aG (decide (((f.n:Nat):Int)<((c.n:Nat):Int))) (R (.returned (.i (-1))) w) (R (.returned (.i 0)) w))),eE f c d g b w R:=mp (cW (X:=X) [eN] (bH [0,1,1,1,1]) P0)
theorem cU (a b:Sl) (w:World) (R:aD) (h:eE a b a ((a.n:Nat):Int) 0 w R):Calls Tryz.prog bO #[a.v,b.v,.func (.func aU) #[] #[]] w R:=aM X [eN] h
end slices_CompareFunc_sl_regex_Regex_sl_regex_Regex_regex_Regex_regex_Regex
namespace regex_equal
noncomputable abbrev X:Fx:=⟨Tryz.prog,Tryz.f173,[],[2,3]⟩
theorem cU (a b c:Int) (d:Sl) (e f g:Int) (j:Sl) (w:World) (R:aD) (h:bE [] w λk n=>
 bE [k] n λl o=>
 nJ [k,l] aU #[.agg #[.i a,.int .u8 b,.int .u8 c,d.v],.agg #[.i e,.int .u8 f,.int .u8 g,j.v]] o λm p=>R (.returned (.bool (m==0))) p):Calls Tryz.prog eK #[.agg #[.i a,.int .u8 b,.int .u8 c,d.v],.agg #[.i e,.int .u8 f,.int .u8 g,j.v]] w R:=aM X [] h
end regex_equal
namespace regex_countdown
noncomputable abbrev X:Fx:=⟨Tryz.prog,Tryz.f164,[],[2]⟩
abbrev P0:Ps:=[(1,.v [.I]),(2,.l [.I,.Y,.Y,.s] aB),(5,.v [.I])]
def mD (a:Int) (g:Nat) (b c d:Int) (e:Sl) (f:Int) (w:World) (R:aD):Prop:=cG P0 0 (X.Sem (bH [0,1,1,1,2])) a g b c d e f w R
noncomputable def lu:=fU X (bH [0,1,1,1,2]) P0 mD
abbrev P1:Ps:=[(1,.v [.I])]
abbrev fB (a:Int) (w:World) (R:aD):Prop:=
 R (.returned (.i a)) w
noncomputable def fX:=bK X [lu] (bH [3]) P1 fB
theorem dM:∀(b:Int) (p:Nat) (e f g:Int) (c:Sl) (d:Int) (w:World) (R:aD) (h:aG (decide (d<((c.n:Nat):Int))) (aG (decide (b>=0)) ((0:Int)<=d/\d<((c.n:Nat):Int)/\aW c.a λj=>bY w (j.add (Int.toNat d *4)) λk l m o=>nJ [p] kX #[.agg #[.i k,.int .u8 l,.int .u8 m,o.v],.i b] w λq r=>mD q p e f g c (IntKind.wrap .i64 (d+1)) r R) (fB b w R)) (fB b w R)),mD b p e f g c d w R:=mp (cW (X:=X) [fX,lu] (bH [0,1,1,1,2]) P0)
abbrev P2:Ps:=[(1,.v [.I]),(2,.l [.I,.Y,.Y,.s] aB)]
abbrev dV (a:Int) (f:Nat) (b c d:Int) (e:Sl) (w:World) (R:aD):Prop:=
 mD a f b c d e 0 w R
noncomputable def fA:=bK X [fX,lu] (bH [2]) P2 dV
theorem cU (b c d:Int) (e:Sl) (a:Int) (w:World) (R:aD) (h:bE [] w λf g=>
 dV (IntKind.wrap .i64 (a - 1)) f b c d e g R):Calls Tryz.prog kX #[.agg #[.i b,.int .u8 c,.int .u8 d,e.v],.i a] w R:=aM X [fA,fX,lu] h
end regex_countdown
namespace regex_tooLarge
noncomputable abbrev X:Fx:=⟨Tryz.prog,Tryz.f146,[],[1]⟩
theorem cU (a b c:Int) (d:Sl) (w:World) (R:aD) (h:bE [] w λe g=>
 nJ [e] kX #[.agg #[.i a,.int .u8 b,.int .u8 c,d.v],.i 64] g λf j=>R (.returned (.bool (decide (f<0)))) j):Calls Tryz.prog jR #[.agg #[.i a,.int .u8 b,.int .u8 c,d.v]] w R:=aM X [] h
end regex_tooLarge
namespace regex_proper
noncomputable abbrev X:Fx:=⟨Tryz.prog,Tryz.f165,[],[1,4]⟩
abbrev P0:Ps:=[]
abbrev dV (w:World) (R:aD):Prop:=
 R (.returned (.bool false)) w
noncomputable def fA:=bK X [] (bH [0,1,1,1,1]) P0 dV
abbrev P1:Ps:=[(1,.l [.I,.Y,.Y,.s] aB)]
abbrev fB (e:Nat) (b c d:Int) (a:Sl) (w:World) (R:aD):Prop:=
 R (.returned (.bool (((a.n:Nat):Int)==0))) w
noncomputable def fX:=bK X [fA] (bH [0,1,1,1,1,1,2]) P1 fB
abbrev P2:Ps:=[(52,.v [.s]),(53,.v [.I]),(54,.v [.I])]
def CA (a:Sl) (b c:Int) (w:World) (R:aD):Prop:=cG P2 0 (X.Sem (bH [0,1,1,1,3])) a b c w R
noncomputable def wR:=fU X (bH [0,1,1,1,3]) P2 CA
theorem nK:∀(c:Sl) (d b:Int) (w:World) (R:aD) (h:aG (decide (b<d)) ((0:Int)<=b/\b<((c.n:Nat):Int)/\aW c.a λe=>bY w (e.add (Int.toNat b *4)) λf g j k=>bE [] w λl p=>
 loc [l] p λq=>jW [l] nW #[.agg #[.i f,.int .u8 g,.int .u8 j,k.v]] q λm o=>aG (!m) (R (.returned (.bool false)) o) (CA c d (IntKind.wrap .i64 (b+1)) o R)) (R (.returned (.bool true)) w)),CA c d b w R:=mp (cW (X:=X) [wR,fX,fA] (bH [0,1,1,1,3]) P2)
abbrev qb (e:Nat) (b c d:Int) (a:Sl) (w:World) (R:aD):Prop:=
 CA a ((a.n:Nat):Int) 0 w R
noncomputable def mE:=bK X [wR,fX,fA] (bH [3]) P1 qb
abbrev II (e:Nat) (b c d:Int) (a:Sl) (w:World) (R:aD):Prop:=
 aG (((a.n:Nat):Int) !=1) (R (.returned (.bool false)) w) (qb e b c d a w R)
noncomputable def vr:=bK X [mE,wR,fX,fA] (bH [0,1,7,1,1,1,2]) P1 II
abbrev R8 (w:World) (R:aD):Prop:=
 R (.returned (.bool false)) w
noncomputable def EE:=bK X [vr,mE,wR,fX,fA] (bH [8,1,1,1,2]) P0 R8
abbrev P3:Ps:=[(1,.l [.I,.Y,.Y,.s] aB),(19,.v [.I])]
abbrev x9 (f:Nat) (a b c:Int) (d:Sl) (e:Int) (w:World) (R:aD):Prop:=
 aG (e==6) (aG (e==6) (II f a b c d w R) (R8 w R)) (aG (e==7) (II f a b c d w R) (R8 w R))
noncomputable def sw:=bK X [EE,vr,mE,wR,fX,fA] (bH [6,1,1,1,2]) P3 x9
abbrev ic (f:Nat) (e a b:Int) (c:Sl) (d:Int) (w:World) (R:aD):Prop:=
 aG (d==2) (aG (((c.n:Nat):Int)==0) (R (.returned (.bool (decide (a<=b)))) w) (R (.returned (.bool false)) w)) (aG (d==3) (aG (d==3) (qb f e a b c w R) (x9 f e a b c d w R)) (aG (d==4) (aG (d==4) (qb f e a b c w R) (x9 f e a b c d w R)) (aG (d==5) (qb f e a b c w R) (x9 f e a b c d w R))))
noncomputable def jc:=bK X [sw,EE,vr,mE,wR,fX,fA] (bH [2,1,1,1,2]) P3 ic
abbrev gm (e:Nat) (a b c:Int) (d:Sl) (w:World) (R:aD):Prop:=
 aG (a==0) (aG (a==0) (fB e a b c d w R) (ic e a b c d a w R)) (aG (a==1) (fB e a b c d w R) (ic e a b c d a w R))
noncomputable def gG:=bK X [jc,sw,EE,vr,mE,wR,fX,fA] (bH [2]) P1 gm
theorem cU (a b c:Int) (d:Sl) (w:World) (R:aD) (h:bE [] w λf e=>
 aG (a !=2) (aG (b !=0) (dV e R) (aG (c !=0) (dV e R) (gm f a b c d e R))) (gm f a b c d e R)):Calls Tryz.prog nW #[.agg #[.i a,.int .u8 b,.int .u8 c,d.v]] w R:=aM X [gG,jc,sw,EE,vr,mE,wR,fX,fA] h
end regex_proper
namespace regex_Valid
noncomputable abbrev X:Fx:=⟨Tryz.prog,Tryz.f147,[],[1]⟩
theorem cU (a b c:Int) (d:Sl) (w:World) (R:aD) (h:bE [] w λe l=>
 jW [e] jR #[.agg #[.i a,.int .u8 b,.int .u8 c,d.v]] l λj f=>aG j (R (.returned (.i 4)) f) (jW [e] nW #[.agg #[.i a,.int .u8 b,.int .u8 c,d.v]] f λk g=>aG (!k) (R (.returned (.i 1)) g) (R (.returned (.i 0)) g))):Calls Tryz.prog oK #[.agg #[.i a,.int .u8 b,.int .u8 c,d.v]] w R:=aM X [] h
end regex_Valid
namespace regex_clone
noncomputable abbrev X:Fx:=⟨Tryz.prog,Tryz.f166,[],[1,2,5]⟩
abbrev P0:Ps:=[(1,.l [.I,.Y,.Y,.s] aB),(2,.l [.I,.Y,.Y,.s] aB),(3,.v [.s]),(7,.v [.s]),(8,.v [.I]),(9,.v [.I])]
def eE (k:Nat) (b c d:Int) (e:Sl) (l:Nat) (f g i:Int) (j a m:Sl) (n o:Int) (w:World) (R:aD):Prop:=cG P0 0 (X.Sem (bH [0,1,1,1,2])) k b c d e l f g i j a m n o w R
noncomputable def eN:=fU X (bH [0,1,1,1,2]) P0 eE
theorem aY:∀(c:Nat) (d e f:Int) (k:Sl) (g:Nat) (l m o:Int) (p b t7:Sl) (t8 j:Int) (w:World) (R:aD) (h:aG (decide (j<t8)) ((0:Int)<=j/\j<((t7.n:Nat):Int)/\aW t7.a λr=>bY w (r.add (Int.toNat j *4)) λs t u x=>bE [c,g] w λb5 w3=>
 loc [c,g,b5] w3 λw7=>vq [c,g,b5] mR #[.agg #[.i s,.int .u8 t,.int .u8 u,x.v]] w7 λy z aa ab w8=>fH w8 (.cells #[.i y,.int .u8 z,.int .u8 aa,ab.v] aB) λw9=>
 ∃(ad:Sl) (q:World),Sem.run Tryz.prog (Builtin.append_ #[aF,aF] aF #[b.v,.slice (some (nb w8)) 1 1]) w9=.ok (ad.v) q/\kept [c,g,b5] w9 q/\eE c d e f k g l m o p ad t7 t8 (IntKind.wrap .i64 (j+1)) q R) (loc [c,g] w λag=>R (.returned (.agg #[.i d,.int .u8 e,.int .u8 f,b.v])) ag)),eE c d e f k g l m o p b t7 t8 j w R:=mp (cW (X:=X) [eN] (bH [0,1,1,1,2]) P0)
theorem cU (b c d:Int) (a:Sl) (w:World) (R:aD) (h:bE [] w λe g=>
 bE [e] g λf j=>
 eE e b c d a f 0 0 0 ⟨none,0,0⟩ ⟨none,0,0⟩ a ((a.n:Nat):Int) 0 j R):Calls Tryz.prog mR #[.agg #[.i b,.int .u8 c,.int .u8 d,a.v]] w R:=aM X [eN] h
end regex_clone
namespace regex_limited
noncomputable abbrev X:Fx:=⟨Tryz.prog,Tryz.f148,[],[1,2]⟩
theorem cU (a b c:Int) (d:Sl) (w:World) (R:aD) (h:bE [] w λe p=>
 bE [e] p λf q=>
 jW [e,f] jR #[.agg #[.i a,.int .u8 b,.int .u8 c,d.v]] q λo n=>aG o (loc [e,f] n λr=>R (.returned (.tuple #[.agg #[.i 0,.int .u8 0,.int .u8 0,.slice none 0 0],.i 4])) r) (vq [e,f] mR #[.agg #[.i a,.int .u8 b,.int .u8 c,d.v]] n λg j k l s=>loc [e,f] s λm=>R (.returned (.tuple #[.agg #[.i g,.int .u8 j,.int .u8 k,l.v],.i 0])) m)):Calls Tryz.prog po #[.agg #[.i a,.int .u8 b,.int .u8 c,d.v]] w R:=aM X [] h
end regex_limited
namespace regex_flat_1
noncomputable abbrev X:Fx:=⟨Tryz.prog,Tryz.f188,[],[2]⟩
theorem cU (a b c:Int) (d:Sl) (k:Addr) (w:World) (R:aD) (h:bE [] w λm l=>
 bY l k λe f g j=>jW [m] eK #[.agg #[.i a,.int .u8 b,.int .u8 c,d.v],.agg #[.i e,.int .u8 f,.int .u8 g,j.v]] l λn o=>R (.returned (.bool n)) o):Calls Tryz.prog gC #[.agg #[.i a,.int .u8 b,.int .u8 c,d.v],.pointer (some k)] w R:=aM X [] h
end regex_flat_1
namespace slices_IndexFunc_sl_regex_Regex_regex_Regex
noncomputable abbrev X:Fx:=⟨Tryz.prog,Tryz.f189,[],[]⟩
abbrev P0:Ps:=[(0,.v [.s]),(1,.v [.f]),(7,.v [.I]),(8,.v [.I])]
def L0 (b:Sl) (a:Fv) (c d:Int) (w:World) (R:aD):Prop:=cG P0 0 (X.Sem (bH [0,1,1,1,1])) b a c d w R
noncomputable def eN:=fU X (bH [0,1,1,1,1]) P0 L0
theorem cC:∀(d:Sl) (c:Fv) (m b:Int) (w:World) (R:aD) (h:aG (decide (b<m)) ((0:Int)<=b/\b<((d.n:Nat):Int)/\aW d.a λe=>bY w (e.add (Int.toNat b *4)) λf g j k=>hU (fK Tryz.prog c.n) (Calls Tryz.prog c.n (c.bs++#[.agg #[.i f,.int .u8 g,.int .u8 j,k.v]]++c.cs) w λp o=>∃l:Bool,p=.returned (.bool l)/\
 aG l (R (.returned (.i b)) o) (L0 d c m (IntKind.wrap .i64 (b+1)) o R))) (R (.returned (.i (-1))) w)),L0 d c m b w R:=mp (cW (X:=X) [eN] (bH [0,1,1,1,1]) P0)
theorem ok (a:Sl) (b:Fv) (w:World) (R:aD) (h:L0 a b ((a.n:Nat):Int) 0 w R):Calls Tryz.prog cK #[a.v,b.v] w R:=aM X [eN] h
end slices_IndexFunc_sl_regex_Regex_regex_Regex
namespace slices_ContainsFunc_sl_regex_Regex_regex_Regex
noncomputable abbrev X:Fx:=⟨Tryz.prog,Tryz.f171,[],[]⟩
theorem ok (b:Sl) (a:Fv) (w:World) (R:aD) (h:BF cK #[b.v,a.v] w λc d=>R (.returned (.bool (decide (c>=0)))) d):Calls Tryz.prog cZ #[b.v,a.v] w R:=aM X [] h
end slices_ContainsFunc_sl_regex_Regex_regex_Regex
namespace slices_DeleteFunc_sl_regex_Regex_regex_Regex
noncomputable abbrev X:Fx:=⟨Tryz.prog,Tryz.f187,[],[7]⟩
abbrev P0:Ps:=[(0,.v [.s]),(1,.v [.g gC 0 1,.r]),(5,.v [.I]),(6,.v [.I])]
def eE (d:Sl) (a:Addr) (b c:Int) (w:World) (R:aD):Prop:=cG P0 0 (X.Sem (bH [0,1,1,1,3])) d a b c w R
noncomputable def eN:=fU X (bH [0,1,1,1,3]) P0 eE
abbrev gm (d:Sl) (a:Addr) (b c:Int) (w:World) (R:aD):Prop:=
 eE d a b (IntKind.wrap .i64 (c+1)) w R
noncomputable def gG:=bK X [eN] (bH [2,2,1,1,3]) P0 gm
theorem aY:∀(b:Sl) (e:Addr) (d g:Int) (w:World) (R:aD) (h:aG (decide (g<((b.n:Nat):Int))) ((0:Int)<=g/\g<((b.n:Nat):Int)/\aW b.a λq=>bY w (q.add (Int.toNat g *4)) λj k l m=>bE [] w λo z=>
 loc [o] z λw6=>jW [o] gC #[.agg #[.i j,.int .u8 k,.int .u8 l,m.v],.pointer (some e)] w6 λy t=>aG (!y) ((0:Int)<=d/\d<((b.n:Nat):Int)/\aW b.a λf=>bT t (f.add (Int.toNat d *4)) (.i j) λu=>kept [o] t u/\
 bT u ((f.add (Int.toNat d *4)).add 1) (.int .u8 k) λx=>kept [o] u x/\
 bT x ((f.add (Int.toNat d *4)).add 2) (.int .u8 l) λp=>kept [o] x p/\
 bT p ((f.add (Int.toNat d *4)).add 3) (m.v) λr=>kept [o] p r/\
 gm b e (IntKind.wrap .i64 (d+1)) g r R) (gm b e d g t R)) ((0:Int)<=d/\d<=((b.n:Nat):Int)/\∃(s:World),Sem.run Tryz.prog (Builtin.clear_ #[aF] Lt #[.slice (if b.c=(Int.toNat d) then b.a else b.a.map (·.add ((Int.toNat d) *4))) (b.n - (Int.toNat d)) (b.c - (Int.toNat d))]) w=.ok (.tuple #[]) s/\(0:Int)<=d/\d<=((b.c:Nat):Int)/\R (.returned (.slice (if b.c=0 then b.a else b.a.map (·.add (0 *4))) ((Int.toNat d) - 0) (b.c - 0))) s)),eE b e d g w R:=mp (cW (X:=X) [gG,eN] (bH [0,1,1,1,3]) P0)
theorem cU (c:Sl) (a:Addr) (w:World) (R:aD) (h:BF cK #[c.v,.func (.func gC) #[] #[.pointer (some a)]] w λb d=>aG (b==(-1)) (R (.returned (c.v)) d) (eE c a b (IntKind.wrap .i64 (b+1)) d R)):Calls Tryz.prog dH #[c.v,.func (.func gC) #[] #[.pointer (some a)]] w R:=aM X [gG,eN] h
end slices_DeleteFunc_sl_regex_Regex_regex_Regex
namespace slices_CompactFunc_sl_regex_Regex_regex_Regex
noncomputable abbrev X:Fx:=⟨Tryz.prog,Tryz.f176,[(6,ls [0,1,2,3,4,5,6,7,8,9,10]),(11,ls [0,1,2,3,4,5,6,7,8,9,10,11])],[]⟩
abbrev P0:Ps:=[(0,.v [.s]),(1,.v [.g eK 0 0]),(5,.v [.I])]
def L0 (b:Sl) (a:Int) (w:World) (R:aD):Prop:=cG P0 0 (X.Sem (bH [0,1,1,1,2])) b a w R
noncomputable def eN:=fU X (bH [0,1,1,1,2]) P0 L0
abbrev P1:Ps:=[(0,.v [.s]),(1,.v [.g eK 0 0]),(5,.v [.I]),(6,.v [.s]),(7,.v [.I])]
def L2 (d:Sl) (c:Int) (b:Sl) (a:Int) (w:World) (R:aD):Prop:=cG P1 0 (X.Sem (bH [0,1,1,1,1,1,1,2,1,2,1,1,2])) d c b a w R
noncomputable def MU:=fU X (bH [0,1,1,1,1,1,1,2,1,2,1,1,2]) P1 L2
abbrev S3 (d:Sl) (c:Int) (b:Sl) (a:Int) (w:World) (R:aD):Prop:=
 L2 d c b (IntKind.wrap .i64 (a+1)) w R
noncomputable def jc:=bK X [MU,eN] (bH [2,2,1,1,1,1,1,2,1,2,1,1,2]) P1 S3
theorem IG:∀(d:Sl) (f:Int) (e:Sl) (b:Int) (w:World) (R:aD) (h:aG (decide (b<((e.n:Nat):Int))) (vQ w λw1=>(0:Int)<=b/\b<((e.n:Nat):Int)/\aW e.a λg=>bY w1 (g.add (Int.toNat b *4)) λj k l m=>(0:Int)<=(IntKind.wrap .i64 (b - 1))/\(IntKind.wrap .i64 (b - 1))<((e.n:Nat):Int)/\aW e.a λo=>bY w1 (o.add (Int.toNat (IntKind.wrap .i64 (b - 1)) *4)) λp q r s=>AR eK #[.agg #[.i j,.int .u8 k,.int .u8 l,m.v],.agg #[.i p,.int .u8 q,.int .u8 r,s.v]] w1 λad w2=>aG (!ad) ((0:Int)<=b/\b<((e.n:Nat):Int)/\aW e.a λt=>bY w2 (t.add (Int.toNat b *4)) λu x y z=>(0:Int)<=f/\f<((d.n:Nat):Int)/\aW d.a λaa=>q7 w2 (aa.add (Int.toNat f *4)) (.i u) (.int .u8 x) (.int .u8 y) (z.v) λw6=>S3 d (IntKind.wrap .i64 (f+1)) e b w6 R) (S3 d f e b w2 R)) ((0:Int)<=f/\f<=((d.n:Nat):Int)/\∃(w7:World),Sem.run Tryz.prog (Builtin.clear_ #[aF] Lt #[.slice (if d.c=(Int.toNat f) then d.a else d.a.map (·.add ((Int.toNat f) *4))) (d.n - (Int.toNat f)) (d.c - (Int.toNat f))]) w=.ok (.tuple #[]) w7/\(0:Int)<=f/\f<=((d.c:Nat):Int)/\R (.returned (.slice (if d.c=0 then d.a else d.a.map (·.add (0 *4))) ((Int.toNat f) - 0) (d.c - 0))) w7)),L2 d f e b w R:=mp (cW (X:=X) [jc,MU,eN] (bH [0,1,1,1,1,1,1,2,1,2,1,1,2]) P1)
abbrev P2:Ps:=[(0,.v [.s]),(1,.v [.g eK 0 0]),(5,.v [.I]),(6,.v [.s])]
abbrev S1 (c:Sl) (b:Int) (a:Sl) (w:World) (R:aD):Prop:=
 L2 c b a 1 w R
noncomputable def gG:=bK X [jc,MU,eN] (bH [1,1,1,2,1,2,1,1,2]) P2 S1
theorem cC:∀(d:Sl) (b:Int) (w:World) (R:aD) (h:aG (decide (b<((d.n:Nat):Int))) (vQ w λr=>(0:Int)<=b/\b<((d.n:Nat):Int)/\aW d.a λe=>bY r (e.add (Int.toNat b *4)) λf g j k=>(0:Int)<=(IntKind.wrap .i64 (b - 1))/\(IntKind.wrap .i64 (b - 1))<((d.n:Nat):Int)/\aW d.a λl=>bY r (l.add (Int.toNat (IntKind.wrap .i64 (b - 1)) *4)) λm o p q=>AR eK #[.agg #[.i f,.int .u8 g,.int .u8 j,k.v],.agg #[.i m,.int .u8 o,.int .u8 p,q.v]] r λs t=>aG s ((0:Int)<=b/\b<=((d.n:Nat):Int)/\S1 d b ⟨(if d.c=(Int.toNat b) then d.a else d.a.map (·.add ((Int.toNat b) *4))),(d.n - (Int.toNat b)),(d.c - (Int.toNat b))⟩ t R) (L0 d (IntKind.wrap .i64 (b+1)) t R)) (R (.returned (d.v)) w)),L0 d b w R:=mp (cW (X:=X) [gG,jc,MU,eN] (bH [0,1,1,1,2]) P0)
theorem ok (a:Sl) (w:World) (R:aD) (h:aG (decide (((a.n:Nat):Int)<2)) (R (.returned (a.v)) w) (L0 a 1 w R)):Calls Tryz.prog dD #[a.v,.func (.func eK) #[] #[]] w R:=aM X [gG,jc,MU,eN] h
end slices_CompactFunc_sl_regex_Regex_regex_Regex
namespace regex_flat
noncomputable abbrev X:Fx:=⟨Tryz.prog,Tryz.f170,[],[2,7]⟩
abbrev P0:Ps:=[(2,.l [.I,.Y,.Y,.s] aB),(3,.v [.r]),(5,.v [.s]),(9,.v [.s]),(10,.v [.I]),(11,.v [.I])]
def eE (j:Nat) (b c d:Int) (e:Sl) (a:Addr) (i k:Sl) (f g:Int) (w:World) (R:aD):Prop:=cG P0 0 (X.Sem (bH [0,1,1,1,2])) j b c d e a i k f g w R
noncomputable def eN:=fU X (bH [0,1,1,1,2]) P0 eE
abbrev gm (j:Nat) (b c d:Int) (e:Sl) (a:Addr) (i k:Sl) (f g:Int) (w:World) (R:aD):Prop:=
 eE j b c d e a i k f (IntKind.wrap .i64 (g+1)) w R
noncomputable def gG:=bK X [eN] (bH [3,2,1,1,2]) P0 gm
theorem aY:∀(d:Nat) (e f g:Int) (j:Sl) (b:Addr) (s o:Sl) (k c:Int) (w:World) (R:aD) (h:aG (decide (c<k)) ((0:Int)<=c/\c<((o.n:Nat):Int)/\aW o.a λt=>bY w (t.add (Int.toNat c *4)) λl u x m=>bE [d] w λr w3=>
 aG (l==e) (loc [d,r] w3 λq=>∃(y:Sl) (w8:World),Sem.run Tryz.prog (Builtin.append_ #[aF,aF] aF #[s.v,m.v]) q=.ok (y.v) w8/\kept [d,r] q w8/\gm d e f g j b y o k c w8 R) (loc [d,r] w3 λq=>fH q (.cells #[.i l,.int .u8 u,.int .u8 x,m.v] aB) λw9=>
 ∃(z:Sl) (p:World),Sem.run Tryz.prog (Builtin.append_ #[aF,aF] aF #[s.v,.slice (some (nb q)) 1 1]) w9=.ok (z.v) p/\kept [d,r] w9 p/\gm d e f g j b z o k c p R)) (Sd [d] dH #[s.v,.func (.func gC) #[] #[.pointer (some b)]] w λab ac=>R (.returned (ab.v)) ac)),eE d e f g j b s o k c w R:=mp (cW (X:=X) [gG,eN] (bH [0,1,1,1,2]) P0)
theorem cU (f g j:Int) (e:Sl) (a b c:Int) (d:Sl) (w:World) (R:aD) (h:bE [] w λl k=>
 fH k (.cells #[.i a,.int .u8 b,.int .u8 c,d.v] aB) λm=>
 eE l f g j e (nb k) ⟨none,0,0⟩ e ((e.n:Nat):Int) 0 m R):Calls Tryz.prog rX #[.agg #[.i f,.int .u8 g,.int .u8 j,e.v],.agg #[.i a,.int .u8 b,.int .u8 c,d.v]] w R:=aM X [gG,eN] h
end regex_flat
namespace regex_forms_1
noncomputable abbrev X:Fx:=⟨Tryz.prog,Tryz.f167,[],[1,2]⟩
theorem cU (a b c:Int) (d:Sl) (w:World) (R:aD) (h:bE [] w λe g=>
 bE [e] g λf j=>
 loc [e,f] j λk=>R (.returned (.agg #[.i a,.int .u8 b,.int .u8 c,d.v])) k):Calls Tryz.prog kE #[.agg #[.i a,.int .u8 b,.int .u8 c,d.v]] w R:=aM X [] h
end regex_forms_1
namespace regex_forms_2
noncomputable abbrev X:Fx:=⟨Tryz.prog,Tryz.f168,[],[]⟩
theorem ok (a b c:Int) (d:Sl) (e f g:Int) (j:Sl) (w:World) (R:aD) (h:fH w (.cells #[.i a,.int .u8 b,.int .u8 c,d.v] aB) λk=>
 fH k (.cells #[.i e,.int .u8 f,.int .u8 g,j.v] aB) λl=>
 R (.returned (.func (.func ji) #[] #[.pointer (some (nb w)),.pointer (some (nb k))])) l):Calls Tryz.prog mX #[.agg #[.i a,.int .u8 b,.int .u8 c,d.v],.agg #[.i e,.int .u8 f,.int .u8 g,j.v]] w R:=aM X [] h
end regex_forms_2
namespace regex_forms_2_1
noncomputable abbrev X:Fx:=⟨Tryz.prog,Tryz.f169,[],[3,4]⟩
abbrev P0:Ps:=[(1,.v [.r]),(3,.l [.I,.Y,.Y,.s] aB),(4,.l [.I,.Y,.Y,.s] aB),(5,.v [.s])]
abbrev dV (x:Addr) (o:Nat) (p s t:Int) (u:Sl) (q:Nat) (y z aa:Int) (ab b:Sl) (w:World) (R:aD):Prop:=
 aG (((b.n:Nat):Int)==0) (bY w x λc d e f=>loc [o,q] w λw4=>R (.returned (.agg #[.i c,.int .u8 d,.int .u8 e,f.v])) w4) (aG (((b.n:Nat):Int)==1) ((0:Int)<=0/\0<((b.n:Nat):Int)/\aW b.a λg=>bY w (g.add (Int.toNat 0 *4)) λj k l m=>loc [o,q] w λw8=>R (.returned (.agg #[.i j,.int .u8 k,.int .u8 l,m.v])) w8) (loc [o,q] w λr=>R (.returned (.agg #[.i p,.int .u8 0,.int .u8 0,b.v])) r))
noncomputable def fA:=bK X [] (bH [4]) P0 dV
theorem cU (a b c:Int) (d:Sl) (g p:Addr) (w:World) (R:aD) (h:bE [] w λe w1=>
 bE [e] w1 λf z=>
 bY z g λq r s t=>Sd [e,f] rX #[.agg #[.i a,.int .u8 b,.int .u8 c,d.v],.agg #[.i q,.int .u8 r,.int .u8 s,t.v]] z λn w3=>jW [e,f] cZ #[n.v,.func (.func jC) #[] #[.pointer (some p)]] w3 λu o=>aG u (bY o p λj k l m=>loc [e,f] o λw8=>R (.returned (.agg #[.i j,.int .u8 k,.int .u8 l,m.v])) w8) (aG (a !=3) (Se [e,f] dT #[n.v,.func (.func aU) #[] #[]] o λw9=>Sd [e,f] dD #[n.v,.func (.func eK) #[] #[]] w9 λx y=>dV g e a b c d f 0 0 0 ⟨none,0,0⟩ x y R) (dV g e a b c d f 0 0 0 ⟨none,0,0⟩ n o R))):Calls Tryz.prog ji #[.agg #[.i a,.int .u8 b,.int .u8 c,d.v],.pointer (some g),.pointer (some p)] w R:=aM X [fA] h
end regex_forms_2_1
namespace regex_forms_2_1_1
noncomputable abbrev X:Fx:=⟨Tryz.prog,Tryz.f172,[],[2]⟩
theorem cU (a b c:Int) (d:Sl) (k:Addr) (w:World) (R:aD) (h:bE [] w λm l=>
 bY l k λe f g j=>jW [m] eK #[.agg #[.i a,.int .u8 b,.int .u8 c,d.v],.agg #[.i e,.int .u8 f,.int .u8 g,j.v]] l λn o=>R (.returned (.bool n)) o):Calls Tryz.prog jC #[.agg #[.i a,.int .u8 b,.int .u8 c,d.v],.pointer (some k)] w R:=aM X [] h
end regex_forms_2_1_1
namespace regex_forms_3
noncomputable abbrev X:Fx:=⟨Tryz.prog,Tryz.f177,[],[1,2]⟩
theorem cU (c d e:Int) (b:Sl) (w:World) (R:aD) (h:bE [] w λq x=>
 bE [q] x λs g=>
 (0:Int)<=0/\0<((b.n:Nat):Int)/\aW b.a λr=>∃t:Int,g.cell? ((r.add (Int.toNat 0 *4)).add 0)=some (.i t)/\
 aG (t==6) ((0:Int)<=0/\0<((b.n:Nat):Int)/\aW b.a λj=>∃f:Sl,g.cell? ((j.add (Int.toNat 0 *4)).add 3)=some (f.v)/\
 (0:Int)<=0/\0<((f.n:Nat):Int)/\aW f.a λk=>bY g (k.add (Int.toNat 0 *4)) λl m o p=>loc [q,s] g λy=>R (.returned (.agg #[.i l,.int .u8 m,.int .u8 o,p.v])) y) (loc [q,s] g λu=>R (.returned (.agg #[.i c,.int .u8 d,.int .u8 e,b.v])) u)):Calls Tryz.prog ja #[.agg #[.i c,.int .u8 d,.int .u8 e,b.v]] w R:=aM X [] h
end regex_forms_3
namespace regex_forms_4
noncomputable abbrev X:Fx:=⟨Tryz.prog,Tryz.f178,[],[3,4,5]⟩
abbrev P0:Ps:=[(1,.v [.r]),(4,.l [.I,.Y,.Y,.s] aB)]
abbrev dV (e:Addr) (f:Nat) (g j k:Int) (l:Sl) (w:World) (R:aD):Prop:=
 bY w e λa b c d=>loc [f] w λm=>R (.returned (.agg #[.i a,.int .u8 b,.int .u8 c,d.v])) m
noncomputable def fA:=bK X [] (bH [0,1,1,1,2]) P0 dV
abbrev P1:Ps:=[(4,.l [.I,.Y,.Y,.s] aB),(5,.l [.I,.Y,.Y,.s] aB)]
abbrev gm (f:Nat) (g j k:Int) (l:Sl) (e:Nat) (a b c:Int) (d:Sl) (w:World) (R:aD):Prop:=
 loc [f,e] w λm=>R (.returned (.agg #[.i a,.int .u8 b,.int .u8 c,d.v])) m
noncomputable def gG:=bK X [fA] (bH [0,1,1,1,3]) P1 gm
theorem cU (m o p:Int) (d:Sl) (x z:Addr) (w:World) (R:aD) (h:bE [] w λe w1=>
 bE [e] w1 λc w2=>
 (0:Int)<=0/\0<((d.n:Nat):Int)/\aW d.a λy=>bY w2 (y.add (Int.toNat 0 *4)) λb j k l=>bE [e,c] w2 λf u=>
 aG (b==0) (loc [e,c,f] u λg=>dV x c 0 0 0 ⟨none,0,0⟩ g R) (aG (b==1) (loc [e,c,f] u λg=>dV x c 0 0 0 ⟨none,0,0⟩ g R) (aG (b==7) (loc [e,c,f] u λg=>gm c 0 0 0 ⟨none,0,0⟩ f b j k l g R) (loc [e,c,f] u λg=>bY g z λq r s t=>jW [e,c,f] eK #[.agg #[.i b,.int .u8 j,.int .u8 k,l.v],.agg #[.i q,.int .u8 r,.int .u8 s,t.v]] g λaa w8=>aG aa (gm c 0 0 0 ⟨none,0,0⟩ f b j k l w8 R) (loc [e,c,f] w8 λab=>R (.returned (.agg #[.i m,.int .u8 o,.int .u8 p,d.v])) ab))))):Calls Tryz.prog jb #[.agg #[.i m,.int .u8 o,.int .u8 p,d.v],.pointer (some x),.pointer (some z)] w R:=aM X [gG,fA] h
end regex_forms_4
namespace regex_normal
noncomputable abbrev X:Fx:=⟨Tryz.prog,Tryz.f149,[(5,ls [0,1,2,3,4,5,6,7,8])],[]⟩
abbrev P0:Ps:=[(0,.v [.m]),(3,.v [.r]),(4,.v [.r]),(5,.v [.r]),(16,.v [.s]),(17,.v [.I]),(18,.v [.I])]
def L0 (d:Option Nat) (f g e:Addr) (a:Sl) (b c:Int) (w:World) (R:aD):Prop:=cG P0 0 (X.Sem (bH [0,1,1,1,2])) d f g e a b c w R
noncomputable def eN:=fU X (bH [0,1,1,1,2]) P0 L0
theorem cC:∀(q:Option Nat) (r3 t4 d:Addr) (e:Sl) (m c:Int) (w:World) (R:aD) (h:aG (decide (c<m)) ((0:Int)<=c/\c<((e.n:Nat):Int)/\aW e.a λr=>bY w (r.add (Int.toNat c *4)) λs t u x=>fH w (.cells #[.i 0,.int .u8 0,.int .u8 0,.slice none 0 0] aB) λw8=>
 q7 w8 (nb w) (.i s) (.int .u8 t) (.int .u8 u) (x.v) λax=>vQ ax λo=>∃f:Sl,o.cell? (d.add 3)=some (f.v)/\
 bY o (nb w) λy z aa ab=>MF lO #[.map q,.agg #[.i y,.int .u8 z,.int .u8 aa,ab.v]] o λac ad ae af p=>p.cell? (d.add 3)=some (f.v)/\fH p (.cells #[.i ac,.int .u8 ad,.int .u8 ae,af.v] aB) λan=>
 an.cell? (d.add 3)=some (f.v)/\∃(al:Sl) (ao:World),Sem.run Tryz.prog (Builtin.append_ #[aF,aF] aF #[f.v,.slice (some (nb p)) 1 1]) an=.ok (al.v) ao/\bT ao (d.add 3) (al.v) λay=>
 L0 q r3 t4 d e m (IntKind.wrap .i64 (c+1)) ay R) (∃am:Int,w.cell? (r3.add 0)=some (.i am)/\
 ∃b:Fv,Sem.run Tryz.prog (Instr.lookup aP (.map q) (.i am) false) w=.ok (b.v) w/\bY w d λag ah ai aj=>hU (fK Tryz.prog b.n) (Calls Tryz.prog b.n (b.bs++#[.agg #[.i ag,.int .u8 ah,.int .u8 ai,aj.v]]++b.cs) w λr_ az=>∃g:Int,∃j:Int,∃k:Int,∃l:Sl,r_=.returned (.agg #[.i g,.int .u8 j,.int .u8 k,l.v])/\
 q7 az t4 (.i g) (.int .u8 j) (.int .u8 k) (l.v) λap=>bY ap t4 λar au av aw=>R (.returned (.agg #[.i ar,.int .u8 au,.int .u8 av,aw.v])) ap))),L0 q r3 t4 d e m c w R:=mp (cW (X:=X) [eN] (bH [0,1,1,1,2]) P0)
theorem ok (k:Option Nat) (b c d:Int) (e:Sl) (w:World) (R:aD) (h:fH w (.cells #[.i b,.int .u8 c,.int .u8 d,e.v] aB) λm=>
 fH m (.cells #[.i 0,.int .u8 0,.int .u8 0,.slice none 0 0] aB) λa=>
 ∃l:Int,a.cell? ((nb w).add 0)=some (.i l)/\
 ∃g:Int,a.cell? ((nb w).add 1)=some (.int .u8 g)/\
 ∃j:Int,a.cell? ((nb w).add 2)=some (.int .u8 j)/\
 fH a (.cells #[.i 0,.int .u8 0,.int .u8 0,.slice none 0 0] aB) λp=>
 q7 p (nb a) (.i l) (.int .u8 g) (.int .u8 j) (.slice none 0 0) λo=>∃f:Sl,o.cell? ((nb w).add 3)=some (f.v)/\
 L0 k (nb w) (nb m) (nb a) f ((f.n:Nat):Int) 0 o R):Calls Tryz.prog lO #[.map k,.agg #[.i b,.int .u8 c,.int .u8 d,e.v]] w R:=aM X [eN] h
end regex_normal
namespace regex_forms
noncomputable def C0:Code:=(Tryz.f150.body).getD .skip
noncomputable def C1:=C0.sn
noncomputable def C2:=C1.sn
noncomputable def C3:=C2.sn
noncomputable def C4:=C3.sn
noncomputable def C5:=C4.sn
noncomputable def C6:=C5.sn
theorem ok (w:World) (R:aD) (h:fH w (.cells #[.i 0,.int .u8 0,.int .u8 0,.slice none 0 0] aB) λe=>
 fH e (.cells #[.i 0,.int .u8 0,.int .u8 0,.slice none 0 0] aB) λp=>
 q7 p (nb w) (.i 0) (.int .u8 0) (.int .u8 0) (.slice none 0 0) λq=>bT q (nb e) (.i 1) λr=>
 bT r ((nb e).add 1) (.int .u8 0) λs=>
 bT s ((nb e).add 2) (.int .u8 0) λt=>
 bT t ((nb e).add 3) (.slice none 0 0) λd=>
 bY d (nb w) λf g j k=>fH d (.cells #[.i f,.int .u8 g,.int .u8 j,k.v] aB) λl=>
 fH l (.cells #[.i 0,.int .u8 0,.int .u8 0,.slice none 0 0] aB) λm=>
 q7 m (nb l) (.i 6) (.int .u8 0) (.int .u8 0) (.slice (some (nb d)) 1 1) λn=>Yp Tryz.prog C5 (λE w=>rC Tryz.prog Tryz.f150 E w (λv=>R (.returned v) w)) [(5,.func (.func mX) #[] #[]),(4,.func (.func kE) #[] #[]),(3,.pointer (some (nb l))),(10,.agg #[.i 6,.int .u8 0,.int .u8 0,.slice (some (nb d)) 1 1]),(9,.slice (some (nb d)) 1 1),(8,.agg #[.i f,.int .u8 g,.int .u8 j,k.v]),(2,.pointer (some (nb e))),(1,.pointer (some (nb w))),(7,.agg #[.i 1,.int .u8 0,.int .u8 0,.slice none 0 0]),(6,.agg #[.i 0,.int .u8 0,.int .u8 0,.slice none 0 0]),(0,.map none)] n):Calls Tryz.prog q0 #[] w R:=
 pN (R:=R) (fn:=Tryz.f150) (c:=C0) (args:=[]) (by kernel_rfl) (by kernel_rfl) (by kernel_rfl) (sr C0 (show (λ(E:Env) (w:World)=>yL Tryz.prog C0 (λE w=>yL Tryz.prog C1 (λE w=>yL Tryz.prog C2 (λE w=>yL Tryz.prog C3 (λE w=>yL Tryz.prog C4 (λE w=>Yp Tryz.prog C5 (λE w=>rC Tryz.prog Tryz.f150 E w (λv=>R (.returned v) w)) E w) E w) E w) E w) E w) E w) (sy 0 []) w from mp h) λ_ _ b=>(sr C1 b λ_ _ b=>(sr C2 b λ_ _ b=>(sr C3 b λ_ _ b=>(sr C4 b λ_ _ b=>(si C5 (by kernel_rfl) b λ_ _ b=>(rt C6 λa o=>oY o b)))))))
end regex_forms
namespace math_bits_Len64
noncomputable abbrev X:Fx:=⟨Tryz.prog,Tryz.f209,[],[]⟩
abbrev P0:Ps:=[(0,.v [.U]),(2,.v [.I])]
abbrev S2 (b c:Int) (w:World) (R:aD):Prop:=
 (0:Int)<=(IntKind.wrap .u8 b)/\∃a:UInt8,(ByteArray.mk #[0,1,2,2,3,3,3,3,4,4,4,4,4,4,4,4,5,5,5,5,5,5,5,5,5,5,5,5,5,5,5,5,6,6,6,6,6,6,6,6,6,6,6,6,6,6,6,6,6,6,6,6,6,6,6,6,6,6,6,6,6,6,6,6,7,7,7,7,7,7,7,7,7,7,7,7,7,7,7,7,7,7,7,7,7,7,7,7,7,7,7,7,7,7,7,7,7,7,7,7,7,7,7,7,7,7,7,7,7,7,7,7,7,7,7,7,7,7,7,7,7,7,7,7,7,7,7,7,8,8,8,8,8,8,8,8,8,8,8,8,8,8,8,8,8,8,8,8,8,8,8,8,8,8,8,8,8,8,8,8,8,8,8,8,8,8,8,8,8,8,8,8,8,8,8,8,8,8,8,8,8,8,8,8,8,8,8,8,8,8,8,8,8,8,8,8,8,8,8,8,8,8,8,8,8,8,8,8,8,8,8,8,8,8,8,8,8,8,8,8,8,8,8,8,8,8,8,8,8,8,8,8,8,8,8,8,8,8,8,8,8,8,8,8,8,8,8,8,8,8,8,8,8,8,8,8])[Int.toNat (IntKind.wrap .u8 b)]? =some a/\R (.returned (.i (IntKind.wrap .i64 (c+(IntKind.wrap .i64 ((a.toNat:Nat):Int)))))) w
noncomputable def fX:=bK X [] (bH [4]) P0 S2
abbrev S1 (a b:Int) (w:World) (R:aD):Prop:=
 aG (decide (a>=256)) (S2 (Int.fdiv a (2^(8))) (IntKind.wrap .i64 (b+8)) w R) (S2 a b w R)
noncomputable def gG:=bK X [fX] (bH [3]) P0 S1
abbrev S0 (a b:Int) (w:World) (R:aD):Prop:=
 aG (decide (a>=65536)) (S1 (Int.fdiv a (2^(16))) (IntKind.wrap .i64 (b+16)) w R) (S1 a b w R)
noncomputable def fA:=bK X [gG,fX] (bH [2]) P0 S0
theorem ok (a:Int) (w:World) (R:aD) (h:aG (decide (a>=4294967296)) (S0 (Int.fdiv a (2^(32))) 32 w R) (S0 a 0 w R)):Calls Tryz.prog qI #[.u a] w R:=aM X [fA,gG,fX] h
end math_bits_Len64
namespace math_bits_Len
noncomputable abbrev X:Fx:=⟨Tryz.prog,Tryz.f191,[],[]⟩
theorem ok (a:Int) (w:World) (R:aD) (h:BF qI #[.u a] w λb c=>R (.returned (.i b)) c):Calls Tryz.prog pn #[.u a] w R:=aM X [] h
end math_bits_Len
namespace slices_insertionSortCmpFunc_regex_Regex
noncomputable abbrev X:Fx:=⟨Tryz.prog,Tryz.f200,[(4,ls [0,1,2,3,4,5,6,7,8,9,10,11,12,13,14,15,16]),(6,ls [0,1,2,3,4,5,6,7,8,9,10,11,12,13,14,15,16,17])],[]⟩
abbrev P0:Ps:=[(0,.v [.s]),(1,.v [.I]),(2,.v [.I]),(3,.v [.g aU 0 0]),(8,.v [.I])]
def L0 (a:Sl) (b c d:Int) (w:World) (R:aD):Prop:=cG P0 0 (X.Sem (bH [0,1,1])) a b c d w R
noncomputable def eN:=fU X (bH [0,1,1]) P0 L0
abbrev P1:Ps:=[(0,.v [.s]),(1,.v [.I]),(2,.v [.I]),(3,.v [.g aU 0 0]),(8,.v [.I]),(9,.v [.I])]
def L1 (a:Sl) (b c d e:Int) (w:World) (R:aD):Prop:=cG P1 0 (X.Sem (bH [0,1,1,2,1,2,1])) a b c d e w R
noncomputable def lu:=fU X (bH [0,1,1,2,1,2,1]) P1 L1
abbrev S2 (a:Sl) (b c d:Int) (w:World) (R:aD):Prop:=
 L0 a b c (IntKind.wrap .i64 (d+1)) w R
noncomputable def fX:=bK X [lu,eN] (bH [2,2,1]) P0 S2
theorem oI:∀(b:Sl) (d e f c:Int) (w:World) (R:aD) (h:vQ w λw1=>aG (decide (c>d)) ((0:Int)<=c/\c<((b.n:Nat):Int)/\aW b.a λg=>bY w1 (g.add (Int.toNat c *4)) λj k l m=>(0:Int)<=(IntKind.wrap .i64 (c - 1))/\(IntKind.wrap .i64 (c - 1))<((b.n:Nat):Int)/\aW b.a λo=>bY w1 (o.add (Int.toNat (IntKind.wrap .i64 (c - 1)) *4)) λp q r s=>BF aU #[.agg #[.i j,.int .u8 k,.int .u8 l,m.v],.agg #[.i p,.int .u8 q,.int .u8 r,s.v]] w1 λaj w2=>aG (decide (aj<0)) (vQ w2 λw3=>(0:Int)<=(IntKind.wrap .i64 (c - 1))/\(IntKind.wrap .i64 (c - 1))<((b.n:Nat):Int)/\aW b.a λt=>bY w3 (t.add (Int.toNat (IntKind.wrap .i64 (c - 1)) *4)) λu x y z=>(0:Int)<=c/\c<((b.n:Nat):Int)/\aW b.a λaa=>bY w3 (aa.add (Int.toNat c *4)) λab ac ad ae=>(0:Int)<=c/\c<((b.n:Nat):Int)/\aW b.a λaf=>q7 w3 (af.add (Int.toNat c *4)) (.i u) (.int .u8 x) (.int .u8 y) (z.v) λw7=>(0:Int)<=(IntKind.wrap .i64 (c - 1))/\(IntKind.wrap .i64 (c - 1))<((b.n:Nat):Int)/\aW b.a λag=>q7 w7 (ag.add (Int.toNat (IntKind.wrap .i64 (c - 1)) *4)) (.i ab) (.int .u8 ac) (.int .u8 ad) (ae.v) λak=>L1 b d e f (IntKind.wrap .i64 (c - 1)) ak R) (S2 b d e f w2 R)) (S2 b d e f w1 R)),L1 b d e f c w R:=mp (cW (X:=X) [fX,lu,eN] (bH [0,1,1,2,1,2,1]) P1)
theorem cC:∀(a:Sl) (d c b:Int) (w:World) (R:aD) (h:aG (decide (b<c)) (L1 a d c b b w R) (R (.returned (.tuple #[])) w)),L0 a d c b w R:=mp (cW (X:=X) [fX,lu,eN] (bH [0,1,1]) P0)
theorem ok (a:Sl) (b c:Int) (w:World) (R:aD) (h:L0 a b c (IntKind.wrap .i64 (b+1)) w R):Calls Tryz.prog eF #[a.v,.i b,.i c,.func (.func aU) #[] #[]] w R:=aM X [fX,lu,eN] h
end slices_insertionSortCmpFunc_regex_Regex
namespace slices_pdqsortCmpFunc_regex_Regex
noncomputable abbrev X:Fx:=⟨Tryz.prog,Tryz.f190,[(17,ls [0,1,2,3,4,5,6,7,8,9,10,11,12,13,14,15,16])],[]⟩
abbrev P0:Ps:=[(0,.v [.s]),(1,.v [.I]),(2,.v [.I]),(3,.v [.I]),(4,.v [.g aU 0 0]),(10,.v [.b]),(11,.v [.b])]
def L0 (d:Sl) (e f c:Int) (b a:Bool) (w:World) (R:aD):Prop:=cG P0 0 (X.Sem (bH [0,1,2])) d e f c b a w R
noncomputable def eN:=fU X (bH [0,1,2]) P0 L0
abbrev P1:Ps:=[(0,.v [.s]),(1,.v [.I]),(2,.v [.I]),(3,.v [.I]),(4,.v [.g aU 0 0]),(10,.v [.b]),(11,.v [.b]),(16,.v [.I])]
abbrev S9 (d:Sl) (f g c:Int) (b a:Bool) (e:Int) (w:World) (R:aD):Prop:=
 yE dW #[d.v,.i f,.i e,.i c,.func (.func aU) #[] #[]] w λj=>L0 d (IntKind.wrap .i64 (e+1)) g c b a j R
noncomputable def Kr:=bK X [eN] (bH [1,1,13,3,2]) P1 S9
abbrev S10 (d:Sl) (f g c:Int) (b a:Bool) (e:Int) (w:World) (R:aD):Prop:=
 yE dW #[d.v,.i (IntKind.wrap .i64 (e+1)),.i g,.i c,.func (.func aU) #[] #[]] w λj=>L0 d f e c b a j R
noncomputable def A1:=bK X [Kr,eN] (bH [15,3,2]) P1 S10
abbrev P2:Ps:=[(0,.v [.s]),(1,.v [.I]),(2,.v [.I]),(3,.v [.I]),(4,.v [.g aU 0 0]),(11,.v [.b]),(16,.v [.I]),(18,.v [.I]),(19,.v [.I]),(20,.v [.I])]
abbrev S8 (f:Sl) (i j e:Int) (b:Bool) (g d c a:Int) (w:World) (R:aD):Prop:=
 aG (decide (d<c)) (S9 f i j e (decide (d>=a)) b g w R) (S10 f i j e (decide (c>=a)) b g w R)
noncomputable def EE:=bK X [A1,Kr,eN] (bH [12,3,2]) P2 S8
abbrev P3:Ps:=[(0,.v [.s]),(1,.v [.I]),(2,.v [.I]),(3,.v [.I]),(4,.v [.g aU 0 0]),(11,.v [.b]),(12,.v [.I]),(16,.v [.I]),(18,.v [.I]),(19,.v [.I])]
abbrev S7 (f:Sl) (i j e:Int) (a:Bool) (d g c b:Int) (w:World) (R:aD):Prop:=
 S8 f i j e a g c b (IntKind.wrap .i64 (Int.tdiv d 8)) w R
noncomputable def vr:=bK X [EE,A1,Kr,eN] (bH [11,3,2]) P3 S7
abbrev P4:Ps:=[(0,.v [.s]),(1,.v [.I]),(2,.v [.I]),(3,.v [.I]),(4,.v [.g aU 0 0]),(12,.v [.I]),(13,.v [.I])]
abbrev S6 (c:Sl) (g j e b d:Int) (w:World) (R:aD):Prop:=
 ca6 l6 #[c.v,.i g,.i j,.i d,.func (.func aU) #[] #[]] w λa f k=>S7 c g j e f b a (IntKind.wrap .i64 (a - g)) (IntKind.wrap .i64 (j - a)) k R
noncomputable def sw:=bK X [vr,EE,A1,Kr,eN] (bH [8,3,2]) P4 S6
abbrev P5:Ps:=[(0,.v [.s]),(1,.v [.I]),(2,.v [.I]),(3,.v [.I]),(4,.v [.g aU 0 0]),(10,.v [.b]),(11,.v [.b]),(12,.v [.I]),(13,.v [.I])]
abbrev S5 (c:Sl) (j k g:Int) (e d:Bool) (f b:Int) (w:World) (R:aD):Prop:=
 vQ w λy=>aG (decide (j>0)) ((0:Int)<=(IntKind.wrap .i64 (j - 1))/\(IntKind.wrap .i64 (j - 1))<((c.n:Nat):Int)/\aW c.a λl=>bY y (l.add (Int.toNat (IntKind.wrap .i64 (j - 1)) *4)) λm o p q=>(0:Int)<=b/\b<((c.n:Nat):Int)/\aW c.a λr=>bY y (r.add (Int.toNat b *4)) λs t u x=>BF aU #[.agg #[.i m,.int .u8 o,.int .u8 p,q.v],.agg #[.i s,.int .u8 t,.int .u8 u,x.v]] y λaa w2=>aG (!(decide (aa<0))) (BF kq #[c.v,.i j,.i k,.i b,.func (.func aU) #[] #[]] w2 λz w3=>L0 c z k g e d w3 R) (S6 c j k g f b w2 R)) (S6 c j k g f b y R)
noncomputable def uk:=bK X [sw,vr,EE,A1,Kr,eN] (bH [7,3,2]) P5 S5
abbrev P6:Ps:=[(0,.v [.s]),(1,.v [.I]),(2,.v [.I]),(3,.v [.I]),(4,.v [.g aU 0 0]),(10,.v [.b]),(11,.v [.b]),(12,.v [.I]),(13,.v [.I]),(14,.v [.I])]
abbrev S4 (e:Sl) (g j f:Int) (b a:Bool) (c d k:Int) (w:World) (R:aD):Prop:=
 aG b (aG a (aG (k==1) (AR iX #[e.v,.i g,.i j,.func (.func aU) #[] #[]] w λl m=>aG l (R (.returned (.tuple #[])) m) (S5 e g j f b a c d m R)) (S5 e g j f b a c d w R)) (S5 e g j f b a c d w R)) (S5 e g j f b a c d w R)
noncomputable def mE:=bK X [uk,sw,vr,EE,A1,Kr,eN] (bH [6,3,2]) P6 S4
abbrev S3 (f:Sl) (g i e:Int) (b a:Bool) (c d:Int) (w:World) (R:aD):Prop:=
 S4 f g i e b a c d 1 w R
noncomputable def jc:=bK X [mE,uk,sw,vr,EE,A1,Kr,eN] (bH [2,1,1,1,5,3,2]) P5 S3
abbrev P7:Ps:=[(0,.v [.s]),(1,.v [.I]),(2,.v [.I]),(3,.v [.I]),(4,.v [.g aU 0 0]),(10,.v [.b]),(11,.v [.b]),(12,.v [.I])]
abbrev S2 (c:Sl) (j k e:Int) (b a:Bool) (d:Int) (w:World) (R:aD):Prop:=
 ca5 lq #[c.v,.i j,.i k,.func (.func aU) #[] #[]] w λf g l=>aG (g==2) (yE kR #[c.v,.i j,.i k,.func (.func aU) #[] #[]] l λm=>S3 c j k e b a d (IntKind.wrap .i64 ((IntKind.wrap .i64 (k - 1)) - (IntKind.wrap .i64 (f - j)))) m R) (S4 c j k e b a d f g l R)
noncomputable def fX:=bK X [jc,mE,uk,sw,vr,EE,A1,Kr,eN] (bH [4,3,2]) P7 S2
abbrev S1 (d:Sl) (f g e:Int) (a b:Bool) (c:Int) (w:World) (R:aD):Prop:=
 aG (decide (c<=12)) (yE eF #[d.v,.i f,.i g,.func (.func aU) #[] #[]] w λj=>R (.returned (.tuple #[])) j) (aG (e==0) (yE my #[d.v,.i f,.i g,.func (.func aU) #[] #[]] w λk=>R (.returned (.tuple #[])) k) (aG (!a) (yE kF #[d.v,.i f,.i g,.func (.func aU) #[] #[]] w λl=>S2 d f g (IntKind.wrap .i64 (e - 1)) a b c l R) (S2 d f g e a b c w R)))
noncomputable def gG:=bK X [fX,jc,mE,uk,sw,vr,EE,A1,Kr,eN] (bH [1,3,2]) P7 S1
theorem cC:∀(d:Sl) (e f c:Int) (b a:Bool) (w:World) (R:aD) (h:S1 d e f c b a (IntKind.wrap .i64 (f - e)) w R),L0 d e f c b a w R:=mp (cW (X:=X) [gG,fX,jc,mE,uk,sw,vr,EE,A1,Kr,eN] (bH [0,1,2]) P0)
theorem ok (b:Sl) (c d a:Int) (w:World) (R:aD) (h:L0 b c d a true true w R):Calls Tryz.prog dW #[b.v,.i c,.i d,.i a,.func (.func aU) #[] #[]] w R:=aM X [gG,fX,jc,mE,uk,sw,vr,EE,A1,Kr,eN] h
end slices_pdqsortCmpFunc_regex_Regex
namespace slices_SortFunc_sl_regex_Regex_regex_Regex
noncomputable abbrev X:Fx:=⟨Tryz.prog,Tryz.f174,[],[]⟩
theorem ok (a:Sl) (w:World) (R:aD) (h:BF pn #[.u (IntKind.wrap .u64 ((a.n:Nat):Int))] w λb c=>yE dW #[a.v,.i 0,.i ((a.n:Nat):Int),.i b,.func (.func aU) #[] #[]] c λd=>R (.returned (.tuple #[])) d):Calls Tryz.prog dT #[a.v,.func (.func aU) #[] #[]] w R:=aM X [] h
end slices_SortFunc_sl_regex_Regex_regex_Regex
namespace enthymemeref04_Compare
noncomputable abbrev X:Fx:=⟨Tryz.prog,Tryz.f140,[(6,ls [0,1,2,3,4,5,6,7,8]),(8,ls [0,1,2,3,4,5,6,7,8]),(13,ls [0,1,2,3,4,5,6,7,8,9,10,11])],[2,3]⟩
abbrev P0:Ps:=[(2,.l [.I,.Y,.Y,.s] aA),(3,.l [.I,.Y,.Y,.s] aA),(5,.v [.s]),(6,.v [.s]),(7,.v [.I])]
def eE (j:Nat) (a b c:Int) (d:Sl) (k:Nat) (e f g:Int) (i m n:Sl) (l:Int) (w:World) (R:aD):Prop:=cG P0 0 (X.Sem (bH [0,1,1,1,3])) j a b c d k e f g i m n l w R
noncomputable def eN:=fU X (bH [0,1,1,1,3]) P0 eE
abbrev P1:Ps:=[(2,.l [.I,.Y,.Y,.s] aA),(3,.l [.I,.Y,.Y,.s] aA),(8,.v [.I])]
def mD (j:Nat) (a b c:Int) (d:Sl) (k:Nat) (e f g:Int) (i:Sl) (l:Int) (w:World) (R:aD):Prop:=cG P1 0 (X.Sem (bH [0,1,1,1,4])) j a b c d k e f g i l w R
noncomputable def lu:=fU X (bH [0,1,1,1,4]) P1 mD
abbrev P2:Ps:=[(2,.l [.I,.Y,.Y,.s] aA),(3,.l [.I,.Y,.Y,.s] aA)]
abbrev fB (k:Nat) (c d e:Int) (a:Sl) (l:Nat) (f g j:Int) (b:Sl) (w:World) (R:aD):Prop:=
 aG (decide (((a.n:Nat):Int)<((b.n:Nat):Int))) (R (.returned (.i (-1))) w) (aG (decide (((a.n:Nat):Int)>((b.n:Nat):Int))) (R (.returned (.i 1)) w) (R (.returned (.i 0)) w))
noncomputable def fX:=bK X [lu,eN] (bH [5]) P2 fB
theorem dM:∀(m:Nat) (e f g:Int) (b:Sl) (o:Nat) (j k l:Int) (c:Sl) (d:Int) (w:World) (R:aD) (h:aG (decide (d<((b.n:Nat):Int))) (aG (decide (d<((c.n:Nat):Int))) ((0:Int)<=d/\d<((b.n:Nat):Int)/\aW b.a λp=>loc [m,o] w λw7=>bY w7 (p.add (Int.toNat d *4)) λq r s t=>(0:Int)<=d/\d<((c.n:Nat):Int)/\aW c.a λu=>bY w7 (u.add (Int.toNat d *4)) λx y z aa=>nJ [m,o] cI #[.agg #[.i q,.int .u8 r,.int .u8 s,t.v],.agg #[.i x,.int .u8 y,.int .u8 z,aa.v]] w7 λab w8=>aG (ab !=0) (R (.returned (.i ab)) w8) (mD m e f g b o j k l c (IntKind.wrap .i64 (d+1)) w8 R)) (fB m e f g b o j k l c w R)) (fB m e f g b o j k l c w R)),mD m e f g b o j k l c d w R:=mp (cW (X:=X) [fX,lu,eN] (bH [0,1,1,1,4]) P1)
theorem aY:∀(p:Nat) (c d e:Int) (f:Sl) (q:Nat) (g j k:Int) (l m o:Sl) (b:Int) (w:World) (R:aD) (h:aG (decide (b<3)) ((0:Int)<=b/\b<((m.n:Nat):Int)/\aW m.a λr=>loc [p,q] w λv=>∃y:Int,v.cell? (r.add (Int.toNat b *1))=some (.i y)/\
 (0:Int)<=b/\b<((o.n:Nat):Int)/\aW o.a λs=>∃z:Int,v.cell? (s.add (Int.toNat b *1))=some (.i z)/\
 aG (decide (y<z)) (R (.returned (.i (-1))) v) ((0:Int)<=b/\b<((m.n:Nat):Int)/\aW m.a λt=>loc [p,q] v λx=>∃aa:Int,x.cell? (t.add (Int.toNat b *1))=some (.i aa)/\
 (0:Int)<=b/\b<((o.n:Nat):Int)/\aW o.a λu=>∃ab:Int,x.cell? (u.add (Int.toNat b *1))=some (.i ab)/\
 aG (decide (aa>ab)) (R (.returned (.i 1)) x) (eE p c d e f q g j k l m o (IntKind.wrap .i64 (b+1)) x R))) (mD p c d e f q g j k l 0 w R)),eE p c d e f q g j k l m o b w R:=mp (cW (X:=X) [fX,lu,eN] (bH [0,1,1,1,3]) P0)
theorem cU (a b c:Int) (g:Sl) (d e f:Int) (j:Sl) (w:World) (R:aD) (h:bE [] w λk o=>
 bE [k] o λn l=>
 fH l (.cells #[.i a,.i (IntKind.wrap .i64 b),.i (IntKind.wrap .i64 c)] bP) λm=>
 fH m (.cells #[.i d,.i (IntKind.wrap .i64 e),.i (IntKind.wrap .i64 f)] bP) λp=>
 eE k a b c g n d e f j ⟨some (nb l),3,3⟩ ⟨some (nb m),3,3⟩ 0 p R):Calls Tryz.prog cI #[.agg #[.i a,.int .u8 b,.int .u8 c,g.v],.agg #[.i d,.int .u8 e,.int .u8 f,j.v]] w R:=aM X [fX,lu,eN] h
end enthymemeref04_Compare
namespace enthymemeref04_Nodes
noncomputable abbrev X:Fx:=⟨Tryz.prog,Tryz.f122,[],[1]⟩
abbrev P0:Ps:=[(1,.l [.I,.Y,.Y,.s] aA),(3,.v [.I]),(4,.v [.I])]
def eE (g:Nat) (a b c:Int) (d:Sl) (f e:Int) (w:World) (R:aD):Prop:=cG P0 0 (X.Sem (bH [0,1,1,1,2])) g a b c d f e w R
noncomputable def eN:=fU X (bH [0,1,1,1,2]) P0 eE
abbrev gm (g:Nat) (a b c:Int) (d:Sl) (f e:Int) (w:World) (R:aD):Prop:=
 eE g a b c d f (IntKind.wrap .i64 (e+1)) w R
noncomputable def gG:=bK X [eN] (bH [2,2,1,1,2]) P0 gm
theorem aY:∀(p:Nat) (d e f:Int) (b:Sl) (o c:Int) (w:World) (R:aD) (h:aG (decide (c<((b.n:Nat):Int))) ((0:Int)<=c/\c<((b.n:Nat):Int)/\aW b.a λg=>bY w (g.add (Int.toNat c *4)) λj k l m=>nJ [p] eC #[.agg #[.i j,.int .u8 k,.int .u8 l,m.v]] w λq r=>gm p d e f b (IntKind.wrap .i64 (o+q)) c r R) (R (.returned (.i o)) w)),eE p d e f b o c w R:=mp (cW (X:=X) [gG,eN] (bH [0,1,1,1,2]) P0)
theorem cU (a b c:Int) (d:Sl) (w:World) (R:aD) (h:bE [] w λe f=>
 eE e a b c d 1 0 f R):Calls Tryz.prog eC #[.agg #[.i a,.int .u8 b,.int .u8 c,d.v]] w R:=aM X [gG,eN] h
end enthymemeref04_Nodes
namespace enthymemeref04_good
noncomputable abbrev X:Fx:=⟨Tryz.prog,Tryz.f137,[(3,ls [0,1,2,3,4,5,6,7,8,9,10,11,12,13,14,15,16,17,18,19,20,21,22,23,24,25,26,27,28,29])],[1]⟩
abbrev P0:Ps:=[]
abbrev dV (w:World) (R:aD):Prop:=
 R (.returned (.bool false)) w
noncomputable def fA:=bK X [] (bH [0,1,1,1,3]) P0 dV
abbrev gm (w:World) (R:aD):Prop:=
 R (.returned (.bool false)) w
noncomputable def gG:=bK X [fA] (bH [0,1,1,1,4]) P0 gm
abbrev P1:Ps:=[(1,.l [.I,.Y,.Y,.s] aA),(5,.v [.I])]
def y6 (f:Nat) (a b c:Int) (d:Sl) (e:Int) (w:World) (R:aD):Prop:=cG P1 0 (X.Sem (bH [0,1,1,1,5])) f a b c d e w R
noncomputable def I3:=fU X (bH [0,1,1,1,5]) P1 y6
theorem mK:∀(o:Nat) (d e f:Int) (b:Sl) (c:Int) (w:World) (R:aD) (h:aG (decide (c<((b.n:Nat):Int))) ((0:Int)<=c/\c<((b.n:Nat):Int)/\aW b.a λg=>bY w (g.add (Int.toNat c *4)) λj k l m=>jW [o] iG #[.agg #[.i j,.int .u8 k,.int .u8 l,m.v]] w λp q=>aG (!p) (R (.returned (.bool false)) q) (y6 o d e f b (IntKind.wrap .i64 (c+1)) q R)) (R (.returned (.bool true)) w)),y6 o d e f b c w R:=mp (cW (X:=X) [I3,gG,fA] (bH [0,1,1,1,5]) P1)
abbrev P2:Ps:=[(1,.l [.I,.Y,.Y,.s] aA)]
abbrev fB (e:Nat) (a b c:Int) (d:Sl) (w:World) (R:aD):Prop:=
 y6 e a b c d 0 w R
noncomputable def fX:=bK X [I3,gG,fA] (bH [5]) P2 fB
theorem cU (a e c:Int) (d:Sl) (w:World) (R:aD) (h:bE [] w λf o=>
 fH o (.cells #[.i 0,.i 0,.i 0,.i 64,.i 64,.i 64,.i 1,.i 1] bP) λp=>
 fH p (.cells #[.i 0,.i 0,.i 0,.i 0,.i 0,.i 0,.i 1,.i 1] bP) λm=>
 aG (decide (a<0)) (loc [f] m λb=>dV b R) (aG (decide (a>7)) (loc [f] m λb=>dV b R) ((0:Int)<=a/\a<((8:Nat):Int)/\aW (some (nb p)) λg=>loc [f] m λb=>∃k:Int,b.cell? (g.add (Int.toNat a *1))=some (.i k)/\
 aG (decide (((d.n:Nat):Int)<k)) (dV b R) ((0:Int)<=a/\a<((8:Nat):Int)/\aW (some (nb o)) λj=>∃l:Int,b.cell? (j.add (Int.toNat a *1))=some (.i l)/\
 aG (decide (((d.n:Nat):Int)>l)) (dV b R) (aG (decide (e>c)) (gm b R) (aG (a !=2) (aG (decide (c>0)) (gm b R) (fB f a e c d b R)) (fB f a e c d b R))))))):Calls Tryz.prog iG #[.agg #[.i a,.int .u8 e,.int .u8 c,d.v]] w R:=aM X [fX,I3,gG,fA] h
end enthymemeref04_good
namespace enthymemeref04_Valid
noncomputable abbrev X:Fx:=⟨Tryz.prog,Tryz.f123,[],[1]⟩
theorem cU (a b c:Int) (d:Sl) (w:World) (R:aD) (h:bE [] w λe l=>
 nJ [e] eC #[.agg #[.i a,.int .u8 b,.int .u8 c,d.v]] l λj f=>aG (decide (j>64)) (R (.returned (.i 4)) f) (jW [e] iG #[.agg #[.i a,.int .u8 b,.int .u8 c,d.v]] f λk g=>aG (!k) (R (.returned (.i 1)) g) (R (.returned (.i 0)) g))):Calls Tryz.prog kj #[.agg #[.i a,.int .u8 b,.int .u8 c,d.v]] w R:=aM X [] h
end enthymemeref04_Valid
namespace enthymemeref04_Everything
noncomputable abbrev X:Fx:=⟨Tryz.prog,Tryz.f106,[],[0]⟩
theorem cU (w:World) (R:aD) (h:bE [] w λb a=>
 fH a (.cells #[.i 0,.int .u8 0,.int .u8 0,.slice none 0 0] aA) λc=>
 loc [b] c λd=>R (.returned (.agg #[.i 6,.int .u8 0,.int .u8 0,.slice (some (nb a)) 1 1])) d):Calls Tryz.prog bR #[] w R:=aM X [] h
end enthymemeref04_Everything
namespace enthymemeref04_put
noncomputable abbrev X:Fx:=⟨Tryz.prog,Tryz.f141,[(2,ls [0,1,2,3,4,5,6,7,8,9,10,11,12]),(4,ls [0,1,2,3,4,5,6,7,8,9,10,11,12]),(7,(.sq [0,1,2,3,5] (.fork (ls [4,6,7,8]) (ls [6,4,7,8]))))],[3]⟩
abbrev P0:Ps:=[(0,.v [.s]),(3,.l [.I,.Y,.Y,.s] aA),(5,.v [.I])]
def eE (f:Sl) (g:Nat) (a b c:Int) (d:Sl) (e:Int) (w:World) (R:aD):Prop:=cG P0 0 (X.Sem (bH [0,2,2])) f g a b c d e w R
noncomputable def eN:=fU X (bH [0,2,2]) P0 eE
abbrev P1:Ps:=[(0,.v [.s]),(5,.v [.I]),(6,.v [.s])]
abbrev ic (d:Sl) (b:Int) (f:Sl) (w:World) (R:aD):Prop:=
 (0:Int)<=b/\b<=((d.n:Nat):Int)/\∃(e:Sl) (g:World),Sem.run Tryz.prog (Builtin.append_ #[aC,aC] aC #[f.v,.slice (if d.c=(Int.toNat b) then d.a else d.a.map (·.add ((Int.toNat b) *4))) (d.n - (Int.toNat b)) (d.c - (Int.toNat b))]) w=.ok (e.v) g/\R (.returned (e.v)) g
noncomputable def jc:=bK X [eN] (bH [6]) P1 ic
abbrev fB (b:Sl) (g:Nat) (j k l:Int) (m:Sl) (f:Int) (w:World) (R:aD):Prop:=
 (0:Int)<=f/\f<=((b.c:Nat):Int)/\((loc [g] w λn=>∃(q:Sl) (o:World),Sem.run Tryz.prog (Builtin.append_ #[aC,aC] aC #[.slice none 0 0,.slice (if b.c=0 then b.a else b.a.map (·.add (0 *4))) ((Int.toNat f) - 0) (b.c - 0)]) n=.ok (q.v) o/\kept [g] n o/\fH o (.cells #[.i j,.int .u8 k,.int .u8 l,m.v] aA) λu=>
 ∃(r:Sl) (s:World),Sem.run Tryz.prog (Builtin.append_ #[aC,aC] aC #[q.v,.slice (some (nb o)) 1 1]) u=.ok (r.v) s/\kept [g] u s/\ic b f r s R)/\(loc [g] w λn=>fH n (.cells #[.i j,.int .u8 k,.int .u8 l,m.v] aA) λx=>
 ∃(d:Sl) (p:World),Sem.run Tryz.prog (Builtin.append_ #[aC,aC] aC #[.slice none 0 0,.slice (if b.c=0 then b.a else b.a.map (·.add (0 *4))) ((Int.toNat f) - 0) (b.c - 0)]) x=.ok (d.v) p/\kept [g] x p/\∃(e:Sl) (t:World),Sem.run Tryz.prog (Builtin.append_ #[aC,aC] aC #[d.v,.slice (some (nb n)) 1 1]) p=.ok (e.v) t/\kept [g] p t/\ic b f e t R))
noncomputable def fX:=bK X [jc,eN] (bH [4]) P0 fB
abbrev gm (g:Sl) (j:Nat) (b c d:Int) (e:Sl) (f:Int) (w:World) (R:aD):Prop:=
 aG (decide (f<((g.n:Nat):Int))) ((0:Int)<=f/\f<((g.n:Nat):Int)/\aW g.a λk=>loc [j] w λq=>bY q (k.add (Int.toNat f *4)) λl m o p=>nJ [j] cI #[.agg #[.i l,.int .u8 m,.int .u8 o,p.v],.agg #[.i b,.int .u8 c,.int .u8 d,e.v]] q λr s=>aG (r==0) (R (.returned (g.v)) s) (fB g j b c d e f s R)) (loc [j] w λq=>fB g j b c d e f q R)
noncomputable def gG:=bK X [fX,jc,eN] (bH [3]) P0 gm
theorem aY:∀(g:Sl) (j:Nat) (b c d:Int) (e:Sl) (f:Int) (w:World) (R:aD) (h:aG (decide (f<((g.n:Nat):Int))) ((0:Int)<=f/\f<((g.n:Nat):Int)/\aW g.a λk=>loc [j] w λq=>bY q (k.add (Int.toNat f *4)) λl m o p=>nJ [j] cI #[.agg #[.i l,.int .u8 m,.int .u8 o,p.v],.agg #[.i b,.int .u8 c,.int .u8 d,e.v]] q λr s=>aG (decide (r<0)) (eE g j b c d e (IntKind.wrap .i64 (f+1)) s R) (gm g j b c d e f s R)) (loc [j] w λq=>gm g j b c d e f q R)),eE g j b c d e f w R:=mp (cW (X:=X) [gG,fX,jc,eN] (bH [0,2,2]) P0)
theorem cU (e:Sl) (a b c:Int) (d:Sl) (w:World) (R:aD) (h:bE [] w λf g=>
 eE e f a b c d 0 g R):Calls Tryz.prog lK #[e.v,.agg #[.i a,.int .u8 b,.int .u8 c,d.v]] w R:=aM X [gG,fX,jc,eN] h
end enthymemeref04_put
namespace enthymemeref04_normal
noncomputable abbrev X:Fx:=⟨Tryz.prog,Tryz.f129,[(9,ls [0,1,2,3,4,5,6,7,8,9,10,11,12]),(25,ls [0,1,2,3,4,5,6]),(27,ls [0,1,2,3,4,5,6])],[4,5,8,9]⟩
abbrev P0:Ps:=[(1,.v [.s]),(4,.l [.I,.Y,.Y,.s] aA)]
abbrev dV (b:Sl) (j:Nat) (k l m:Int) (o:Sl) (w:World) (R:aD):Prop:=
 (0:Int)<=0/\0<((b.n:Nat):Int)/\aW b.a λc=>bY w (c.add (Int.toNat 0 *4)) λd e f g=>loc [j] w λp=>R (.returned (.agg #[.i d,.int .u8 e,.int .u8 f,g.v])) p
noncomputable def fA:=bK X [] (bH [0,1,1,1,1,1,1,1,3]) P0 dV
abbrev P1:Ps:=[(0,.v [.I]),(1,.v [.s]),(4,.l [.I,.Y,.Y,.s] aA),(5,.l [.I,.Y,.Y,.s] aA),(6,.v [.s]),(7,.v [.I])]
def mD (g:Int) (f:Sl) (o:Nat) (j k l:Int) (m:Sl) (i:Nat) (a b c:Int) (d e:Sl) (n:Int) (w:World) (R:aD):Prop:=cG P1 0 (X.Sem (bH [0,1,1,1,5])) g f o j k l m i a b c d e n w R
noncomputable def lu:=fU X (bH [0,1,1,1,5]) P1 mD
abbrev fB (g:Int) (f:Sl) (o:Nat) (j k l:Int) (m:Sl) (i:Nat) (a b c:Int) (d e:Sl) (n:Int) (w:World) (R:aD):Prop:=
 mD g f o j k l m i a b c d e (IntKind.wrap .i64 (n+1)) w R
noncomputable def fX:=bK X [lu,fA] (bH [2,2,1,1,5]) P1 fB
abbrev P2:Ps:=[(0,.v [.I]),(4,.l [.I,.Y,.Y,.s] aA),(6,.v [.s]),(8,.l [.I,.Y,.Y,.s] aA),(9,.l [.I,.Y,.Y,.s] aA),(10,.v [.s]),(11,.v [.I])]
def y6 (m:Int) (t:Nat) (o p q:Int) (r l:Sl) (k:Nat) (e f g:Int) (i:Sl) (j:Nat) (a b c:Int) (d n:Sl) (s:Int) (w:World) (R:aD):Prop:=cG P2 0 (X.Sem (bH [0,1,1,1,9])) m t o p q r l k e f g i j a b c d n s w R
noncomputable def I3:=fU X (bH [0,1,1,1,9]) P2 y6
abbrev qb (m:Int) (t:Nat) (o p q:Int) (r l:Sl) (k:Nat) (e f g:Int) (i:Sl) (j:Nat) (a b c:Int) (d n:Sl) (s:Int) (w:World) (R:aD):Prop:=
 y6 m t o p q r l k e f g i j a b c d n (IntKind.wrap .i64 (s+1)) w R
noncomputable def mE:=bK X [I3,fX,lu,fA] (bH [2,2,1,1,9]) P2 qb
theorem mK:∀(r:Int) (s:Nat) (u x y:Int) (z j:Sl) (c:Nat) (k l m:Int) (o:Sl) (b:Nat) (d e f:Int) (g q:Sl) (p:Int) (w:World) (R:aD) (h:aG (decide (p<((j.n:Nat):Int))) ((0:Int)<=p/\p<((j.n:Nat):Int)/\aW j.a λaa=>loc [s,c,b] w λbe=>bY be (aa.add (Int.toNat p *4)) λab ac ad ae=>nJ [s,c,b] cI #[.agg #[.i ab,.int .u8 ac,.int .u8 ad,ae.v],.agg #[.i d,.int .u8 e,.int .u8 f,g.v]] be λbi bf=>aG (bi==0) (loc [s,c,b] bf λbm=>R (.returned (.agg #[.i d,.int .u8 e,.int .u8 f,g.v])) bm) ((0:Int)<=p/\p<((j.n:Nat):Int)/\aW j.a λaf=>loc [s,c,b] bf λbg=>bY bg (af.add (Int.toNat p *4)) λag ah ai aj=>nJ [s,c,b] cI #[.agg #[.i ag,.int .u8 ah,.int .u8 ai,aj.v],.agg #[.i k,.int .u8 l,.int .u8 m,o.v]] bg λbj t=>aG (bj==0) (qb r s u x y z j c k l m o b d e f g q p t R) (aG (r==3) ((0:Int)<=p/\p<((j.n:Nat):Int)/\aW j.a λak=>bY t (ak.add (Int.toNat p *4)) λal am an ao=>fH t (.cells #[.i al,.int .u8 am,.int .u8 an,ao.v] aA) λbh=>
 ∃(ap:Sl) (bd:World),Sem.run Tryz.prog (Builtin.append_ #[aC,aC] aC #[q.v,.slice (some (nb t)) 1 1]) bh=.ok (ap.v) bd/\kept [s,c,b] bh bd/\qb r s u x y z j c k l m o b d e f g ap p bd R) ((0:Int)<=p/\p<((j.n:Nat):Int)/\aW j.a λaq=>bY t (aq.add (Int.toNat p *4)) λar au av aw=>Sd [s,c,b] lK #[q.v,.agg #[.i ar,.int .u8 au,.int .u8 av,aw.v]] t λbk bn=>qb r s u x y z j c k l m o b d e f g bk p bn R)))) (aG (((q.n:Nat):Int)==0) (loc [s,c,b] w λbo=>R (.returned (.agg #[.i k,.int .u8 l,.int .u8 m,o.v])) bo) (aG (((q.n:Nat):Int)==1) ((0:Int)<=0/\0<((q.n:Nat):Int)/\aW q.a λax=>bY w (ax.add (Int.toNat 0 *4)) λay az bb bc=>loc [s,c,b] w λbp=>R (.returned (.agg #[.i ay,.int .u8 az,.int .u8 bb,bc.v])) bp) (loc [s,c,b] w λbq=>R (.returned (.agg #[.i r,.int .u8 0,.int .u8 0,q.v])) bq)))),y6 r s u x y z j c k l m o b d e f g q p w R:=mp (cW (X:=X) [mE,I3,fX,lu,fA] (bH [0,1,1,1,9]) P2)
theorem dM:∀(b:Int) (c:Sl) (m:Nat) (o p q:Int) (r:Sl) (d:Nat) (e f g:Int) (j l:Sl) (k:Int) (w:World) (R:aD) (h:aG (decide (k<((c.n:Nat):Int))) ((0:Int)<=k/\k<((c.n:Nat):Int)/\aW c.a λx=>∃ao:Int,w.cell? ((x.add (Int.toNat k *4)).add 0)=some (.i ao)/\
 aG (ao==b) ((0:Int)<=k/\k<((c.n:Nat):Int)/\aW c.a λy=>∃ap:Sl,w.cell? ((y.add (Int.toNat k *4)).add 3)=some (ap.v)/\
 ∃(aq:Sl) (s:World),Sem.run Tryz.prog (Builtin.append_ #[aC,aC] aC #[l.v,ap.v]) w=.ok (aq.v) s/\kept [m,d] w s/\fB b c m o p q r d e f g j aq k s R) ((0:Int)<=k/\k<((c.n:Nat):Int)/\aW c.a λz=>bY w (z.add (Int.toNat k *4)) λaa ab ac ad=>fH w (.cells #[.i aa,.int .u8 ab,.int .u8 ac,ad.v] aA) λau=>
 ∃(ar:Sl) (t:World),Sem.run Tryz.prog (Builtin.append_ #[aC,aC] aC #[l.v,.slice (some (nb w)) 1 1]) au=.ok (ar.v) t/\kept [m,d] au t/\fB b c m o p q r d e f g j ar k t R)) (fH w (.cells #[.i 1,.int .u8 0,.int .u8 0,.slice none 0 0,.i 0,.int .u8 0,.int .u8 0,.slice none 0 0,.i e,.int .u8 f,.int .u8 g,j.v] aA) λav=>
 (0:Int)<=(IntKind.wrap .i64 (b - 3))/\(IntKind.wrap .i64 (b - 3))<((3:Nat):Int)/\aW (some (nb w)) λae=>bY av (ae.add (Int.toNat (IntKind.wrap .i64 (b - 3)) *4)) λaf ag ah ai=>bE [m,d] av λu az=>
 loc [m,d,u] az λaw=>fH aw (.cells #[.i 0,.int .u8 0,.int .u8 0,.slice none 0 0,.i e,.int .u8 f,.int .u8 g,j.v,.i 0,.int .u8 0,.int .u8 0,.slice none 0 0] aA) λax=>
 (0:Int)<=(IntKind.wrap .i64 (b - 3))/\(IntKind.wrap .i64 (b - 3))<((3:Nat):Int)/\aW (some (nb aw)) λaj=>bY ax (aj.add (Int.toNat (IntKind.wrap .i64 (b - 3)) *4)) λak al am an=>bE [m,d,u] ax λb9 bb=>
 loc [m,d,u,b9] bb λbc=>y6 b m o p q r l u af ag ah ai b9 ak al am an ⟨none,0,0⟩ 0 bc R)),mD b c m o p q r d e f g j l k w R:=mp (cW (X:=X) [mE,I3,fX,lu,fA] (bH [0,1,1,1,5]) P1)
theorem cU (d:Int) (b:Sl) (w:World) (R:aD) (h:bE [] w λc w1=>
 vq [c] bR #[] w1 λg j k l w2=>bE [c] w2 λf w3=>
 aG (d==6) ((0:Int)<=0/\0<((b.n:Nat):Int)/\aW b.a λp=>loc [c,f] w3 λe=>∃af:Int,e.cell? ((p.add (Int.toNat 0 *4)).add 0)=some (.i af)/\
 aG (af==6) ((0:Int)<=0/\0<((b.n:Nat):Int)/\aW b.a λq=>∃o:Sl,e.cell? ((q.add (Int.toNat 0 *4)).add 3)=some (o.v)/\
 (0:Int)<=0/\0<((o.n:Nat):Int)/\aW o.a λr=>bY e (r.add (Int.toNat 0 *4)) λs t u x=>loc [c,f] e λal=>R (.returned (.agg #[.i s,.int .u8 t,.int .u8 u,x.v])) al) (loc [c,f] e λam=>R (.returned (.agg #[.i 6,.int .u8 0,.int .u8 0,b.v])) am)) (aG (d==7) ((0:Int)<=0/\0<((b.n:Nat):Int)/\aW b.a λy=>loc [c,f] w3 λe=>∃ag:Int,e.cell? ((y.add (Int.toNat 0 *4)).add 0)=some (.i ag)/\
 aG (decide (ag<2)) (loc [c,f] e λan=>R (.returned (.agg #[.i 1,.int .u8 0,.int .u8 0,.slice none 0 0])) an) ((0:Int)<=0/\0<((b.n:Nat):Int)/\aW b.a λz=>loc [c,f] e λm=>∃ah:Int,m.cell? ((z.add (Int.toNat 0 *4)).add 0)=some (.i ah)/\
 aG (ah==7) (dV b c 0 0 0 ⟨none,0,0⟩ m R) ((0:Int)<=0/\0<((b.n:Nat):Int)/\aW b.a λaa=>bY m (aa.add (Int.toNat 0 *4)) λab ac ad ae=>nJ [c,f] cI #[.agg #[.i ab,.int .u8 ac,.int .u8 ad,ae.v],.agg #[.i g,.int .u8 j,.int .u8 k,l.v]] m λak ai=>aG (ak==0) (dV b c 0 0 0 ⟨none,0,0⟩ ai R) (loc [c,f] ai λao=>R (.returned (.agg #[.i 7,.int .u8 0,.int .u8 0,b.v])) ao)))) (loc [c,f] w3 λe=>mD d b c 0 0 0 ⟨none,0,0⟩ f g j k l ⟨none,0,0⟩ 0 e R))):Calls Tryz.prog jL #[.i d,b.v] w R:=aM X [mE,I3,fX,lu,fA] h
end enthymemeref04_normal
namespace enthymemeref04_simple
noncomputable abbrev X:Fx:=⟨Tryz.prog,Tryz.f107,[],[1,2]⟩
abbrev P0:Ps:=[(1,.l [.I,.Y,.Y,.s] aA),(2,.l [.I,.Y,.Y,.s] aA),(3,.v [.s]),(4,.v [.I])]
def eE (l:Nat) (b c d:Int) (e:Sl) (m:Nat) (f g i:Int) (j a:Sl) (k:Int) (w:World) (R:aD):Prop:=cG P0 0 (X.Sem (bH [0,1,1,1,3])) l b c d e m f g i j a k w R
noncomputable def eN:=fU X (bH [0,1,1,1,3]) P0 eE
theorem aY:∀(f:Nat) (d j k:Int) (b:Sl) (g:Nat) (l m o:Int) (p c:Sl) (e:Int) (w:World) (R:aD) (h:aG (decide (e<((b.n:Nat):Int))) ((0:Int)<=e/\e<((b.n:Nat):Int)/\aW b.a λq=>bY w (q.add (Int.toNat e *4)) λr s t u=>vq [f,g] dS #[.agg #[.i r,.int .u8 s,.int .u8 t,u.v]] w λx y z aa w7=>fH w7 (.cells #[.i x,.int .u8 y,.int .u8 z,aa.v] aA) λw8=>
 ∃(af:Sl) (w9:World),Sem.run Tryz.prog (Builtin.append_ #[aC,aC] aC #[c.v,.slice (some (nb w7)) 1 1]) w8=.ok (af.v) w9/\kept [f,g] w8 w9/\eE f d j k b g l m o p af (IntKind.wrap .i64 (e+1)) w9 R) (vq [f,g] jL #[.i d,c.v] w λab ac ad ae ah=>loc [f,g] ah λai=>R (.returned (.agg #[.i ab,.int .u8 ac,.int .u8 ad,ae.v])) ai)),eE f d j k b g l m o p c e w R:=mp (cW (X:=X) [eN] (bH [0,1,1,1,3]) P0)
theorem cU (a b c:Int) (d:Sl) (w:World) (R:aD) (h:bE [] w λe j=>
 bE [e] j λf g=>
 aG (decide (a<3)) (loc [e,f] g λk=>R (.returned (.agg #[.i a,.int .u8 b,.int .u8 c,d.v])) k) (eE e a b c d f 0 0 0 ⟨none,0,0⟩ ⟨none,0,0⟩ 0 g R)):Calls Tryz.prog dS #[.agg #[.i a,.int .u8 b,.int .u8 c,d.v]] w R:=aM X [eN] h
end enthymemeref04_simple
namespace enthymemeref04_few
noncomputable abbrev X:Fx:=⟨Tryz.prog,Tryz.f124,[],[1,2]⟩
theorem cU (a b c:Int) (d:Sl) (w:World) (R:aD) (h:bE [] w λe l=>
 bE [e] l λf m=>
 nJ [e,f] eC #[.agg #[.i a,.int .u8 b,.int .u8 c,d.v]] m λk j=>aG (decide (k>64)) (loc [e,f] j λn=>R (.returned (.tuple #[.agg #[.i 0,.int .u8 0,.int .u8 0,.slice none 0 0],.i 4])) n) (loc [e,f] j λg=>R (.returned (.tuple #[.agg #[.i a,.int .u8 b,.int .u8 c,d.v],.i 0])) g)):Calls Tryz.prog lJ #[.agg #[.i a,.int .u8 b,.int .u8 c,d.v]] w R:=aM X [] h
end enthymemeref04_few
namespace enthymemeref04_Normal
noncomputable abbrev X:Fx:=⟨Tryz.prog,Tryz.f90,[],[1,2]⟩
theorem cU (a b c:Int) (d:Sl) (w:World) (R:aD) (h:bE [] w λe u=>
 bE [e] u λl x=>
 nJ [e,l] kj #[.agg #[.i a,.int .u8 b,.int .u8 c,d.v]] x λr t=>aG (r !=0) (loc [e,l] t λy=>R (.returned (.tuple #[.agg #[.i 0,.int .u8 0,.int .u8 0,.slice none 0 0],.i r])) y) (vq [e,l] dS #[.agg #[.i a,.int .u8 b,.int .u8 c,d.v]] t λm n o p z=>MJ [e,l] lJ #[.agg #[.i m,.int .u8 n,.int .u8 o,p.v]] z λf g j k q w9=>loc [e,l] w9 λs=>R (.returned (.tuple #[.agg #[.i f,.int .u8 g,.int .u8 j,k.v],.i q])) s)):Calls Tryz.prog jJ #[.agg #[.i a,.int .u8 b,.int .u8 c,d.v]] w R:=aM X [] h
end enthymemeref04_Normal
namespace regex_Normal
noncomputable abbrev X:Fx:=⟨Tryz.prog,Tryz.f131,[(4,ls [1,0,2,3,4,5,6,7])],[1,2]⟩
theorem cU (c d e:Int) (f:Sl) (w:World) (R:aD) (h:bE [] w λa z=>
 bE [a] z λb w2=>
 nJ [a,b] oK #[.agg #[.i c,.int .u8 d,.int .u8 e,f.v]] w2 λs y=>aG (s !=0) (loc [a,b] y λw7=>R (.returned (.tuple #[.agg #[.i 0,.int .u8 0,.int .u8 0,.slice none 0 0],.i s])) w7) (loc [a,b] y λw8=>Z4 [a,b] q0 #[] w8 λr w9=>vq [a,b] lO #[.map r,.agg #[.i c,.int .u8 d,.int .u8 e,f.v]] w9 λm n o p t=>MJ [a,b] po #[.agg #[.i m,.int .u8 n,.int .u8 o,p.v]] t λg j k l q u=>loc [a,b] u λx=>R (.returned (.tuple #[.agg #[.i g,.int .u8 j,.int .u8 k,l.v],.i q])) x)):Calls Tryz.prog nV #[.agg #[.i c,.int .u8 d,.int .u8 e,f.v]] w R:=aM X [] h
end regex_Normal
namespace enthymemeref04_digit
noncomputable abbrev X:Fx:=⟨Tryz.prog,Tryz.f139,[],[]⟩
theorem ok (b:Int) (w:World) (R:aD) (h:(0:Int)<=b/\∃a:UInt8,(ByteArray.mk #[48,49,50,51,52,53,54,55,56,57,97,98,99,100,101,102])[Int.toNat b]? =some a/\R (.returned (.int .u8 ((a.toNat:Nat):Int))) w):Calls Tryz.prog gw #[.i b] w R:=aM X [] h
end enthymemeref04_digit
namespace enthymemeref04_plain
noncomputable abbrev X:Fx:=⟨Tryz.prog,Tryz.f138,[],[]⟩
theorem ok (a:Int) (w:World) (R:aD) (h:aG (decide (a>=32)) (aG (decide (a<=126)) (aG (a !=39) (R (.returned (.bool (a !=92))) w) (R (.returned (.bool false)) w)) (R (.returned (.bool false)) w)) (R (.returned (.bool false)) w)):Calls Tryz.prog ik #[.int .u8 a] w R:=aM X [] h
end enthymemeref04_plain
namespace enthymemeref04_number
noncomputable abbrev X:Fx:=⟨Tryz.prog,Tryz.f180,[],[]⟩
abbrev P0:Ps:=[(0,.v [.Y]),(3,.v [.I])]
def L0 (a b:Int) (w:World) (R:aD):Prop:=cG P0 0 (X.Sem (bH [0,1,1,1,1])) a b w R
noncomputable def eN:=fU X (bH [0,1,1,1,1]) P0 L0
theorem cC:∀(b a:Int) (w:World) (R:aD) (h:aG (decide (a<16)) (Ur gw #[.i a] w λd c=>aG (d==b) (R (.returned (.i a)) c) (L0 b (IntKind.wrap .i64 (a+1)) c R)) (R (.returned (.i (-1))) w)),L0 b a w R:=mp (cW (X:=X) [eN] (bH [0,1,1,1,1]) P0)
theorem ok (a:Int) (w:World) (R:aD) (h:L0 a 0 w R):Calls Tryz.prog eS #[.int .u8 a] w R:=aM X [eN] h
end enthymemeref04_number
namespace enthymemeref04_byteAt
noncomputable abbrev X:Fx:=⟨Tryz.prog,Tryz.f152,[(4,ls [0,1,2,3,6,7,8,9,4,5,10,11,12,13,14])],[]⟩
abbrev P0:Ps:=[]
abbrev S1 (w:World) (R:aD):Prop:=
 R (.returned (.tuple #[.int .u8 0,.i 0])) w
noncomputable def gG:=bK X [] (bH [3]) P0 S1
abbrev P1:Ps:=[(0,.v [.st]),(1,.v [.I])]
abbrev S0 (b:ByteArray) (a:Int) (w:World) (R:aD):Prop:=
 aG (decide ((IntKind.wrap .i64 (a+4))<=((b.size:Nat):Int))) ((0:Int)<=a/\∃c:UInt8,b[Int.toNat a]? =some c/\aG (((c.toNat:Nat):Int)==92) ((0:Int)<=(IntKind.wrap .i64 (a+1))/\∃d:UInt8,b[Int.toNat (IntKind.wrap .i64 (a+1))]? =some d/\aG (((d.toNat:Nat):Int)==120) ((0:Int)<=(IntKind.wrap .i64 (a+2))/\∃e:UInt8,b[Int.toNat (IntKind.wrap .i64 (a+2))]? =some e/\BF eS #[.int .u8 ((e.toNat:Nat):Int)] w λk o=>aG (decide (k>=0)) ((0:Int)<=(IntKind.wrap .i64 (a+3))/\∃f:UInt8,b[Int.toNat (IntKind.wrap .i64 (a+3))]? =some f/\BF eS #[.int .u8 ((f.toNat:Nat):Int)] o λl p=>aG (decide (l>=0)) (vQ p λq=>(0:Int)<=(IntKind.wrap .i64 (a+2))/\∃g:UInt8,b[Int.toNat (IntKind.wrap .i64 (a+2))]? =some g/\(0:Int)<=(IntKind.wrap .i64 (a+3))/\∃j:UInt8,b[Int.toNat (IntKind.wrap .i64 (a+3))]? =some j/\BF eS #[.int .u8 ((g.toNat:Nat):Int)] q λm r=>BF eS #[.int .u8 ((j.toNat:Nat):Int)] r λn s=>R (.returned (.tuple #[.int .u8 (IntKind.wrap .u8 (IntKind.wrap .i64 ((IntKind.wrap .i64 (16 *m))+n))),.i 4])) s) (S1 p R)) (S1 o R)) (S1 w R)) (S1 w R)) (S1 w R)
noncomputable def fA:=bK X [gG] (bH [2]) P1 S0
theorem ok (b:ByteArray) (a:Int) (w:World) (R:aD) (h:aG (decide ((IntKind.wrap .i64 (a+3))<=((b.size:Nat):Int))) ((0:Int)<=a/\∃c:UInt8,b[Int.toNat a]? =some c/\aG (((c.toNat:Nat):Int)==39) ((0:Int)<=(IntKind.wrap .i64 (a+2))/\∃d:UInt8,b[Int.toNat (IntKind.wrap .i64 (a+2))]? =some d/\aG (((d.toNat:Nat):Int)==39) ((0:Int)<=(IntKind.wrap .i64 (a+1))/\∃e:UInt8,b[Int.toNat (IntKind.wrap .i64 (a+1))]? =some e/\AR ik #[.int .u8 ((e.toNat:Nat):Int)] w λg j=>aG g ((0:Int)<=(IntKind.wrap .i64 (a+1))/\∃f:UInt8,b[Int.toNat (IntKind.wrap .i64 (a+1))]? =some f/\R (.returned (.tuple #[.int .u8 ((f.toNat:Nat):Int),.i 3])) j) (S0 b a j R)) (S0 b a w R)) (S0 b a w R)) (S0 b a w R)):Calls Tryz.prog fV #[.string b,.i a] w R:=aM X [fA,gG] h
end enthymemeref04_byteAt
namespace enthymemeref04_rangeAt
noncomputable abbrev X:Fx:=⟨Tryz.prog,Tryz.f133,[],[4]⟩
abbrev P0:Ps:=[(4,.l [.I,.Y,.Y,.s] aA)]
abbrev gm (a:Nat) (b c d:Int) (e:Sl) (w:World) (R:aD):Prop:=
 loc [a] w λf=>R (.returned (.tuple #[.agg #[.i 0,.int .u8 0,.int .u8 0,.slice none 0 0],.i 0])) f
noncomputable def gG:=bK X [] (bH [0,1,1,1,6]) P0 gm
abbrev ic (a:Nat) (b c d:Int) (e:Sl) (w:World) (R:aD):Prop:=
 loc [a] w λf=>R (.returned (.tuple #[.agg #[.i 0,.int .u8 0,.int .u8 0,.slice none 0 0],.i 0])) f
noncomputable def jc:=bK X [gG] (bH [0,1,1,1,9]) P0 ic
abbrev P1:Ps:=[(0,.v [.st]),(1,.v [.I]),(4,.l [.I,.Y,.Y,.s] aA),(8,.v [.Y]),(11,.v [.Y]),(12,.v [.I]),(13,.v [.I])]
abbrev fB (n:ByteArray) (l:Int) (j:Nat) (b c d:Int) (e:Sl) (k g m a:Int) (w:World) (R:aD):Prop:=
 aG (m==0) (ic j b c d e w R) (aG (decide (a>=((n.size:Nat):Int))) (ic j b c d e w R) ((0:Int)<=a/\∃f:UInt8,n[Int.toNat a]? =some f/\aG (((f.toNat:Nat):Int) !=93) (ic j b c d e w R) (aG (decide (k>g)) (ic j b c d e w R) (loc [j] w λo=>R (.returned (.tuple #[.agg #[.i 2,.int .u8 k,.int .u8 g,.slice none 0 0],.i (IntKind.wrap .i64 ((IntKind.wrap .i64 (a+1)) - l))])) o))))
noncomputable def fX:=bK X [jc,gG] (bH [9]) P1 fB
abbrev P2:Ps:=[(0,.v [.st]),(1,.v [.I]),(4,.l [.I,.Y,.Y,.s] aA),(8,.v [.Y]),(9,.v [.I]),(10,.v [.I])]
abbrev dV (k:ByteArray) (m:Int) (j:Nat) (b c d:Int) (e:Sl) (n o a:Int) (w:World) (R:aD):Prop:=
 aG (o==0) (gm j b c d e w R) (aG (decide (a>=((k.size:Nat):Int))) (gm j b c d e w R) ((0:Int)<=a/\∃f:UInt8,k[Int.toNat a]? =some f/\aG (((f.toNat:Nat):Int) !=45) (gm j b c d e w R) (Us [j] fV #[.string k,.i (IntKind.wrap .i64 (a+1))] w λl g p=>fB k m j b c d e n l g (IntKind.wrap .i64 ((IntKind.wrap .i64 (a+1))+g)) p R)))
noncomputable def fA:=bK X [fX,jc,gG] (bH [6]) P2 dV
theorem cU (g:ByteArray) (a:Int) (w:World) (R:aD) (h:bE [] w λf n=>
 Us [f] fV #[.string g,.i a] n λb c k=>aG (decide (c>0)) (loc [f] k λo=>R (.returned (.tuple #[.agg #[.i 2,.int .u8 b,.int .u8 b,.slice none 0 0],.i c])) o) ((0:Int)<=a/\∃d:UInt8,g[Int.toNat a]? =some d/\aG (((d.toNat:Nat):Int) !=91) (loc [f] k λl=>R (.returned (.tuple #[.agg #[.i 0,.int .u8 0,.int .u8 0,.slice none 0 0],.i 0])) l) (Us [f] fV #[.string g,.i (IntKind.wrap .i64 (a+1))] k λj e m=>dV g a f 0 0 0 ⟨none,0,0⟩ j e (IntKind.wrap .i64 ((IntKind.wrap .i64 (a+1))+e)) m R))):Calls Tryz.prog jx #[.string g,.i a] w R:=aM X [fA,fX,jc,gG] h
end enthymemeref04_rangeAt
namespace enthymemeref04_Tokens
noncomputable abbrev X:Fx:=⟨Tryz.prog,Tryz.f119,[(11,ls [0,1,2,3,4,5,6,7,8,9,10,11,12])],[5]⟩
abbrev P0:Ps:=[(0,.v [.st]),(3,.v [.s]),(4,.v [.I])]
def eE (c:ByteArray) (a:Sl) (b:Int) (w:World) (R:aD):Prop:=cG P0 0 (X.Sem (bH [0,1,1,1,2])) c a b w R
noncomputable def eN:=fU X (bH [0,1,1,1,2]) P0 eE
abbrev P1:Ps:=[(0,.v [.st]),(3,.v [.s]),(4,.v [.I]),(5,.l [.I,.Y,.Y,.s] aA),(6,.v [.I])]
def mD (j:ByteArray) (a:Sl) (f:Int) (i:Nat) (b c d:Int) (e:Sl) (g:Int) (w:World) (R:aD):Prop:=cG P1 0 (X.Sem (bH [0,1,1,1,1,1,2,1,1,2,1,1,2])) j a f i b c d e g w R
noncomputable def lu:=fU X (bH [0,1,1,1,1,1,2,1,1,2,1,1,2]) P1 mD
abbrev fB (k:ByteArray) (d:Sl) (a:Int) (m:Nat) (e f g:Int) (j:Sl) (b:Int) (w:World) (R:aD):Prop:=
 (0:Int)<=(IntKind.wrap .i64 (a+b))/\(IntKind.wrap .i64 (a+b))<=((k.size:Nat):Int)/\(0:Int)<=a/\a<=(((Int.toNat (IntKind.wrap .i64 (a+b))):Nat):Int)/\loc [m] w λn=>fH n (.cells #[.string (k.extract (Int.toNat a) (Int.toNat (IntKind.wrap .i64 (a+b)))),.i a,.i e,.int .u8 f,.int .u8 g,j.v] cA) λo=>
 ∃(c:Sl) (l:World),Sem.run Tryz.prog (Builtin.append_ #[bU,bU] bU #[d.v,.slice (some (nb n)) 1 1]) o=.ok (c.v) l/\kept [m] o l/\eE k c (IntKind.wrap .i64 (a+b)) l R
noncomputable def fX:=bK X [lu,eN] (bH [3,1,1,2,1,1,2]) P1 fB
theorem dM:∀(i:ByteArray) (b:Sl) (a:Int) (j:Nat) (c d e:Int) (f:Sl) (g:Int) (w:World) (R:aD) (h:(0:Int)<=a/\∃k:UInt8,i[Int.toNat a]? =some k/\aG (decide (((k.toNat:Nat):Int)>=97)) ((0:Int)<=a/\∃l:UInt8,i[Int.toNat a]? =some l/\aG (decide (((l.toNat:Nat):Int)<=122)) (aG (decide ((IntKind.wrap .i64 (a+g))<((i.size:Nat):Int))) ((0:Int)<=(IntKind.wrap .i64 (a+g))/\∃m:UInt8,i[Int.toNat (IntKind.wrap .i64 (a+g))]? =some m/\aG (decide (((m.toNat:Nat):Int)>=97)) ((0:Int)<=(IntKind.wrap .i64 (a+g))/\∃n:UInt8,i[Int.toNat (IntKind.wrap .i64 (a+g))]? =some n/\aG (decide (((n.toNat:Nat):Int)<=122)) (mD i b a j c d e f (IntKind.wrap .i64 (g+1)) w R) (fB i b a j c d e f g w R)) (fB i b a j c d e f g w R)) (fB i b a j c d e f g w R)) (fB i b a j c d e f g w R)) (fB i b a j c d e f g w R)),mD i b a j c d e f g w R:=mp (cW (X:=X) [fX,lu,eN] (bH [0,1,1,1,1,1,2,1,1,2,1,1,2]) P1)
theorem aY:∀(g:ByteArray) (a:Sl) (f:Int) (w:World) (R:aD) (h:aG (decide (f<((g.size:Nat):Int))) ((0:Int)<=f/\∃j:UInt8,g[Int.toNat f]? =some j/\aG (((j.toNat:Nat):Int)==32) (eE g a (IntKind.wrap .i64 (f+1)) w R) (Z0 jx #[.string g,.i f] w λb c d e k q=>bE [] q λl o=>
 aG (k==0) (loc [l] o λn=>mD g a f l b c d e 1 n R) (loc [l] o λn=>fB g a f l b c d e k n R))) (fH w (.cells #[.s0,.i ((g.size:Nat):Int),.i 0,.int .u8 0,.int .u8 0,.slice none 0 0] cA) λr=>
 ∃(m:Sl) (p:World),Sem.run Tryz.prog (Builtin.append_ #[bU,bU] bU #[a.v,.slice (some (nb w)) 1 1]) r=.ok (m.v) p/\R (.returned (m.v)) p)),eE g a f w R:=mp (cW (X:=X) [fX,lu,eN] (bH [0,1,1,1,2]) P0)
theorem cU (a:ByteArray) (w:World) (R:aD) (h:eE a ⟨none,0,0⟩ 0 w R):Calls Tryz.prog jK #[.string a] w R:=aM X [fX,lu,eN] h
end enthymemeref04_Tokens
namespace enthymemeref04_reader_see
noncomputable abbrev X:Fx:=⟨Tryz.prog,Tryz.f154,[(3,ls [0,1,2,3,4,5,6,7,8,9,10,11])],[]⟩
theorem ok (d:Addr) (w:World) (R:aD) (h:∃j:Bool,w.cell? (d.add 2)=some (.bool j)/\
 aG j (R (.returned (.string (ByteArray.mk #[32]))) w) (vQ w λf=>∃c:Sl,f.cell? (d.add 0)=some (c.v)/\
 ∃b:Int,f.cell? (d.add 1)=some (.i b)/\
 (0:Int)<=b/\b<((c.n:Nat):Int)/\aW c.a λe=>∃g:ByteArray,f.cell? ((e.add (Int.toNat b *6)).add 0)=some (.string g)/\
 R (.returned (.string g)) f)):Calls Tryz.prog eQ #[.pointer (some d)] w R:=aM X [] h
end enthymemeref04_reader_see
namespace enthymemeref04_reader_take
noncomputable abbrev X:Fx:=⟨Tryz.prog,Tryz.f135,[],[]⟩
abbrev P0:Ps:=[]
abbrev S0 (w:World) (R:aD):Prop:=
 R (.returned (.bool true)) w
noncomputable def fA:=bK X [] (bH [3]) P0 S0
theorem ok (a:Addr) (d:ByteArray) (w:World) (R:aD) (h:Km eQ #[.pointer (some a)] w λe b=>aG (!(e.toList==d.toList)) (R (.returned (.bool false)) b) (aG (!(d.toList==(ByteArray.mk #[]).toList)) (∃c:Int,b.cell? (a.add 1)=some (.i c)/\
 bT b (a.add 1) (.i (IntKind.wrap .i64 (c+1))) λf=>
 S0 f R) (S0 b R))):Calls Tryz.prog bW #[.pointer (some a),.string d] w R:=aM X [fA] h
end enthymemeref04_reader_take
namespace enthymemeref04_reader_need
noncomputable abbrev X:Fx:=⟨Tryz.prog,Tryz.f121,[],[]⟩
theorem ok (a:Addr) (b:ByteArray) (w:World) (R:aD) (h:AR bW #[.pointer (some a),.string b] w λd c=>aG (!d) (bT c (a.add 2) (.bool true) λe=>
 R (.returned (.tuple #[])) e) (R (.returned (.tuple #[])) c)):Calls Tryz.prog cO #[.pointer (some a),.string b] w R:=aM X [] h
end enthymemeref04_reader_need
namespace enthymemeref04_group
noncomputable abbrev X:Fx:=⟨Tryz.prog,Tryz.f136,[],[4]⟩
theorem cU (b:Int) (c:Sl) (w:World) (R:aD) (h:bE [] w λl k=>
 aG (((c.n:Nat):Int)==1) ((0:Int)<=0/\0<((c.n:Nat):Int)/\aW c.a λj=>bY k (j.add (Int.toNat 0 *4)) λd e f g=>loc [l] k λm=>R (.returned (.agg #[.i d,.int .u8 e,.int .u8 f,g.v])) m) (loc [l] k λo=>R (.returned (.agg #[.i b,.int .u8 0,.int .u8 0,c.v])) o)):Calls Tryz.prog dC #[.i b,c.v] w R:=aM X [] h
end enthymemeref04_group
namespace enthymemeref04_reader_begins
noncomputable abbrev X:Fx:=⟨Tryz.prog,Tryz.f182,[],[]⟩
theorem ok (c:Addr) (w:World) (R:aD) (h:Km eQ #[.pointer (some c)] w λb a=>∃d:Bool,a.cell? (c.add 2)=some (.bool d)/\
 aG (!d) (aG (!(b.toList==(ByteArray.mk #[]).toList)) (aG (!(b.toList==(ByteArray.mk #[41]).toList)) (aG (!(b.toList==(ByteArray.mk #[44]).toList)) (aG (!(b.toList==(ByteArray.mk #[124]).toList)) (R (.returned (.bool (!(b.toList==(ByteArray.mk #[38]).toList)))) a) (R (.returned (.bool false)) a)) (R (.returned (.bool false)) a)) (R (.returned (.bool false)) a)) (R (.returned (.bool false)) a)) (R (.returned (.bool false)) a)):Calls Tryz.prog gS #[.pointer (some c)] w R:=aM X [] h
end enthymemeref04_reader_begins
namespace enthymemeref04_reader_expr
noncomputable abbrev X:Fx:=⟨Tryz.prog,Tryz.f120,[],[2]⟩
abbrev P0:Ps:=[(0,.v [.r]),(2,.l [.I,.Y,.Y,.s] aA),(3,.v [.s])]
def eE (f:Addr) (g:Nat) (a b c:Int) (d e:Sl) (w:World) (R:aD):Prop:=cG P0 0 (X.Sem (bH [0,2,2])) f g a b c d e w R
noncomputable def eN:=fU X (bH [0,2,2]) P0 eE
theorem aY:∀(f:Addr) (a:Nat) (b c d:Int) (e r:Sl) (w:World) (R:aD) (h:jW [a] bW #[.pointer (some f),.string (ByteArray.mk #[124])] w λz u=>aG z (vq [a] c9 #[.pointer (some f)] u λg j k l x=>fH x (.cells #[.i g,.int .u8 j,.int .u8 k,l.v] aA) λy=>
 ∃(q:Sl) (s:World),Sem.run Tryz.prog (Builtin.append_ #[aC,aC] aC #[r.v,.slice (some (nb x)) 1 1]) y=.ok (q.v) s/\kept [a] y s/\eE f a b c d e q s R) (vq [a] dC #[.i 4,r.v] u λm n o p w8=>loc [a] w8 λt=>R (.returned (.agg #[.i m,.int .u8 n,.int .u8 o,p.v])) t)),eE f a b c d e r w R:=mp (cW (X:=X) [eN] (bH [0,2,2]) P0)
theorem cU (a:Addr) (w:World) (R:aD) (h:bE [] w λf j=>
 vq [f] c9 #[.pointer (some a)] j λb c d e g=>fH g (.cells #[.i b,.int .u8 c,.int .u8 d,e.v] aA) λk=>
 eE a f 0 0 0 ⟨none,0,0⟩ ⟨some (nb g),1,1⟩ k R):Calls Tryz.prog cM #[.pointer (some a)] w R:=aM X [eN] h
end enthymemeref04_reader_expr
namespace enthymemeref04_reader_conj
noncomputable abbrev X:Fx:=⟨Tryz.prog,Tryz.f134,[],[2]⟩
abbrev P0:Ps:=[(0,.v [.r]),(2,.l [.I,.Y,.Y,.s] aA),(3,.v [.s])]
def eE (f:Addr) (g:Nat) (a b c:Int) (d e:Sl) (w:World) (R:aD):Prop:=cG P0 0 (X.Sem (bH [0,2,2])) f g a b c d e w R
noncomputable def eN:=fU X (bH [0,2,2]) P0 eE
theorem aY:∀(f:Addr) (a:Nat) (b c d:Int) (e r:Sl) (w:World) (R:aD) (h:jW [a] bW #[.pointer (some f),.string (ByteArray.mk #[38])] w λz u=>aG z (vq [a] dJ #[.pointer (some f)] u λg j k l x=>fH x (.cells #[.i g,.int .u8 j,.int .u8 k,l.v] aA) λy=>
 ∃(q:Sl) (s:World),Sem.run Tryz.prog (Builtin.append_ #[aC,aC] aC #[r.v,.slice (some (nb x)) 1 1]) y=.ok (q.v) s/\kept [a] y s/\eE f a b c d e q s R) (vq [a] dC #[.i 5,r.v] u λm n o p w8=>loc [a] w8 λt=>R (.returned (.agg #[.i m,.int .u8 n,.int .u8 o,p.v])) t)),eE f a b c d e r w R:=mp (cW (X:=X) [eN] (bH [0,2,2]) P0)
theorem cU (a:Addr) (w:World) (R:aD) (h:bE [] w λf j=>
 vq [f] dJ #[.pointer (some a)] j λb c d e g=>fH g (.cells #[.i b,.int .u8 c,.int .u8 d,e.v] aA) λk=>
 eE a f 0 0 0 ⟨none,0,0⟩ ⟨some (nb g),1,1⟩ k R):Calls Tryz.prog c9 #[.pointer (some a)] w R:=aM X [eN] h
end enthymemeref04_reader_conj
namespace enthymemeref04_reader_seq
noncomputable abbrev X:Fx:=⟨Tryz.prog,Tryz.f153,[],[2]⟩
abbrev P0:Ps:=[(0,.v [.r]),(2,.l [.I,.Y,.Y,.s] aA),(3,.v [.s])]
def eE (f:Addr) (g:Nat) (a b c:Int) (d e:Sl) (w:World) (R:aD):Prop:=cG P0 0 (X.Sem (bH [0,2,2])) f g a b c d e w R
noncomputable def eN:=fU X (bH [0,2,2]) P0 eE
theorem aY:∀(f:Addr) (a:Nat) (b c d:Int) (e r:Sl) (w:World) (R:aD) (h:jW [a] gS #[.pointer (some f)] w λz u=>aG z (vq [a] cN #[.pointer (some f)] u λg j k l x=>fH x (.cells #[.i g,.int .u8 j,.int .u8 k,l.v] aA) λy=>
 ∃(q:Sl) (s:World),Sem.run Tryz.prog (Builtin.append_ #[aC,aC] aC #[r.v,.slice (some (nb x)) 1 1]) y=.ok (q.v) s/\kept [a] y s/\eE f a b c d e q s R) (vq [a] dC #[.i 3,r.v] u λm n o p w8=>loc [a] w8 λt=>R (.returned (.agg #[.i m,.int .u8 n,.int .u8 o,p.v])) t)),eE f a b c d e r w R:=mp (cW (X:=X) [eN] (bH [0,2,2]) P0)
theorem cU (a:Addr) (w:World) (R:aD) (h:bE [] w λf j=>
 vq [f] cN #[.pointer (some a)] j λb c d e g=>fH g (.cells #[.i b,.int .u8 c,.int .u8 d,e.v] aA) λk=>
 eE a f 0 0 0 ⟨none,0,0⟩ ⟨some (nb g),1,1⟩ k R):Calls Tryz.prog dJ #[.pointer (some a)] w R:=aM X [eN] h
end enthymemeref04_reader_seq
namespace enthymemeref04_reader_item
noncomputable abbrev X:Fx:=⟨Tryz.prog,Tryz.f181,[],[2,4]⟩
abbrev P0:Ps:=[(0,.v [.r]),(2,.l [.I,.Y,.Y,.s] aA),(4,.l [.I,.Y,.Y,.s] aA)]
def eE (j:Addr) (l:Nat) (e f g:Int) (i:Sl) (k:Nat) (a b c:Int) (d:Sl) (w:World) (R:aD):Prop:=cG P0 0 (X.Sem (bH [0,2,4])) j l e f g i k a b c d w R
noncomputable def eN:=fU X (bH [0,2,4]) P0 eE
theorem aY:∀(n:Addr) (f:Nat) (g j k:Int) (l:Sl) (e:Nat) (a b c:Int) (d:Sl) (w:World) (R:aD) (h:jW [f,e] bW #[.pointer (some n),.string (ByteArray.mk #[42])] w λo m=>aG o (fH m (.cells #[.i a,.int .u8 b,.int .u8 c,d.v] aA) λp=>
 loc [f,e] p λq=>eE n f g j k l e 7 0 0 ⟨some (nb m),1,1⟩ q R) (loc [f,e] m λr=>R (.returned (.agg #[.i a,.int .u8 b,.int .u8 c,d.v])) r)),eE n f g j k l e a b c d w R:=mp (cW (X:=X) [eN] (bH [0,2,4]) P0)
theorem cU (b:Addr) (w:World) (R:aD) (h:bE [] w λa s=>
 jW [a] bW #[.pointer (some b),.string (ByteArray.mk #[33])] s λr p=>aG r (vq [a] cN #[.pointer (some b)] p λg j k l q=>fH q (.cells #[.i g,.int .u8 j,.int .u8 k,l.v] aA) λt=>
 loc [a] t λu=>R (.returned (.agg #[.i 6,.int .u8 0,.int .u8 0,.slice (some (nb q)) 1 1])) u) (vq [a] fO #[.pointer (some b)] p λc d e f x=>bE [a] x λm n=>
 loc [a,m] n λo=>eE b a 0 0 0 ⟨none,0,0⟩ m c d e f o R)):Calls Tryz.prog cN #[.pointer (some b)] w R:=aM X [eN] h
end enthymemeref04_reader_item
namespace enthymemeref04_reader_atom
noncomputable abbrev X:Fx:=⟨Tryz.prog,Tryz.f197,[(1,ls [0,1,2,3,4,5,6,7,8,9,10,11,12,13,14,15,16,17,18,19]),(3,ls [0,1,2,3,4,5,6,7,8,9,10,11,12]),(8,ls [0,1,2,3,5,6,7,8,4,9,10])],[2,5,6]⟩
abbrev P0:Ps:=[(0,.v [.r]),(2,.l [.I,.Y,.Y,.s] aA),(3,.v [.s]),(4,.v [.I])]
def mD (g:Addr) (i:Nat) (b c d:Int) (e a:Sl) (f:Int) (w:World) (R:aD):Prop:=cG P0 0 (X.Sem (bH [0,1,1,1,3])) g i b c d e a f w R
noncomputable def lu:=fU X (bH [0,1,1,1,3]) P0 mD
abbrev fB (g:Addr) (i:Nat) (b c d:Int) (e a:Sl) (f:Int) (w:World) (R:aD):Prop:=
 mD g i b c d e a (IntKind.wrap .i64 (f+1)) w R
noncomputable def fX:=bK X [lu] (bH [2,2,1,1,3]) P0 fB
abbrev P1:Ps:=[(2,.l [.I,.Y,.Y,.s] aA),(5,.l [.I,.Y,.Y,.s] aA)]
abbrev ic (f:Nat) (g j k:Int) (l:Sl) (e:Nat) (a b c:Int) (d:Sl) (w:World) (R:aD):Prop:=
 loc [f,e] w λm=>R (.returned (.agg #[.i a,.int .u8 b,.int .u8 c,d.v])) m
noncomputable def jc:=bK X [fX,lu] (bH [4,2,1,2,1,1,3]) P1 ic
theorem dM:∀(e:Addr) (b:Nat) (f g j:Int) (k c:Sl) (d:Int) (w:World) (R:aD) (h:aG (decide (d<6)) (aG (d==2) (loc [b] w λx=>fB e b f g j k c d x R) ((0:Int)<=d/\d<((c.n:Nat):Int)/\aW c.a λl=>loc [b] w λx=>∃o:ByteArray,x.cell? (l.add (Int.toNat d *1))=some (.string o)/\
 qj [b] eQ #[.pointer (some e)] x λac q=>q.cell? (l.add (Int.toNat d *1))=some (.string o)/\aG (!(ac.toList==o.toList)) (fB e b f g j k c d q R) (∃y:Int,q.cell? (e.add 1)=some (.i y)/\
 bT q (e.add 1) (.i (IntKind.wrap .i64 (y+1))) λw4=>kept [b] q w4/\
 bE [b] w4 λm w5=>
 aG (decide (d>2)) (loc [b,m] w5 λw9=>Sd [b,m] fP #[.pointer (some e)] w9 λad ae=>loc [b,m] ae λaf=>ic b f g j k m d 0 0 ad af R) (loc [b,m] w5 λw9=>ic b f g j k m d 0 0 ⟨none,0,0⟩ w9 R)))) (Se [b] cO #[.pointer (some e),.string (ByteArray.mk #[40])] w λp=>∃z:Bool,p.cell? (e.add 2)=some (.bool z)/\
 aG z (loc [b] p λag=>R (.returned (.agg #[.i 0,.int .u8 0,.int .u8 0,.slice none 0 0])) ag) (vq [b] cM #[.pointer (some e)] p λr s t u ah=>bE [b] ah λb6 ai=>
 loc [b,b6] ai λaj=>Se [b,b6] cO #[.pointer (some e),.string (ByteArray.mk #[41])] aj λak=>loc [b,b6] ak λal=>R (.returned (.agg #[.i r,.int .u8 s,.int .u8 t,u.v])) al))),mD e b f g j k c d w R:=mp (cW (X:=X) [jc,fX,lu] (bH [0,1,1,1,3]) P0)
abbrev P2:Ps:=[(0,.v [.r]),(2,.l [.I,.Y,.Y,.s] aA)]
abbrev dV (e:Addr) (f:Nat) (a b c:Int) (d:Sl) (w:World) (R:aD):Prop:=
 fH w (.cells #[.string (ByteArray.mk #[110,111,110,101]),.string (ByteArray.mk #[101,109,112,116,121]),.s0,.string (ByteArray.mk #[99,97,116]),.string (ByteArray.mk #[97,108,116]),.string (ByteArray.mk #[97,108,108])] cJ) λg=>
 mD e f a b c d ⟨some (nb w),6,6⟩ 0 g R
noncomputable def fA:=bK X [jc,fX,lu] (bH [2]) P2 dV
theorem cU (b:Addr) (w:World) (R:aD) (h:bE [] w λf y=>
 loc [f] y λc=>∃s:Bool,c.cell? (b.add 2)=some (.bool s)/\
 aG (!s) (∃g:Sl,c.cell? (b.add 0)=some (g.v)/\
 ∃d:Int,c.cell? (b.add 1)=some (.i d)/\
 (0:Int)<=d/\d<((g.n:Nat):Int)/\aW g.a λk=>∃t:Int,c.cell? (((k.add (Int.toNat d *6)).add 2).add 0)=some (.i t)/\
 aG (t==2) (∃u:Int,c.cell? (b.add 1)=some (.i u)/\
 bT c (b.add 1) (.i (IntKind.wrap .i64 (u+1))) λx=>kept [f] c x/\
 loc [f] x λr=>∃j:Sl,r.cell? (b.add 0)=some (j.v)/\
 ∃e:Int,r.cell? (b.add 1)=some (.i e)/\
 (0:Int)<=(IntKind.wrap .i64 (e - 1))/\(IntKind.wrap .i64 (e - 1))<((j.n:Nat):Int)/\aW j.a λl=>bY r ((l.add (Int.toNat (IntKind.wrap .i64 (e - 1)) *6)).add 2) λm o p q=>loc [f] r λz=>R (.returned (.agg #[.i m,.int .u8 o,.int .u8 p,q.v])) z) (dV b f 0 0 0 ⟨none,0,0⟩ c R)) (dV b f 0 0 0 ⟨none,0,0⟩ c R)):Calls Tryz.prog fO #[.pointer (some b)] w R:=aM X [fA,jc,fX,lu] h
end enthymemeref04_reader_atom
namespace enthymemeref04_reader_kids
noncomputable abbrev X:Fx:=⟨Tryz.prog,Tryz.f212,[],[]⟩
abbrev P0:Ps:=[]
abbrev S0 (w:World) (R:aD):Prop:=
 R (.returned (.slice none 0 0)) w
noncomputable def fA:=bK X [] (bH [0,1,1,1,3]) P0 S0
abbrev P1:Ps:=[(0,.v [.r]),(4,.v [.s])]
def L1 (b:Addr) (a:Sl) (w:World) (R:aD):Prop:=cG P1 0 (X.Sem (bH [0,2,5])) b a w R
noncomputable def lu:=fU X (bH [0,2,5]) P1 L1
theorem oI:∀(b:Addr) (a:Sl) (w:World) (R:aD) (h:AR bW #[.pointer (some b),.string (ByteArray.mk #[44])] w λj k=>aG j (MF cM #[.pointer (some b)] k λc d e f l=>fH l (.cells #[.i c,.int .u8 d,.int .u8 e,f.v] aA) λn=>
 ∃(g:Sl) (m:World),Sem.run Tryz.prog (Builtin.append_ #[aC,aC] aC #[a.v,.slice (some (nb l)) 1 1]) n=.ok (g.v) m/\L1 b g m R) (yE cO #[.pointer (some b),.string (ByteArray.mk #[41])] k λo=>R (.returned (a.v)) o)),L1 b a w R:=mp (cW (X:=X) [lu,fA] (bH [0,2,5]) P1)
theorem ok (a:Addr) (w:World) (R:aD) (h:yE cO #[.pointer (some a),.string (ByteArray.mk #[40])] w λl=>AR bW #[.pointer (some a),.string (ByteArray.mk #[41])] l λk f=>∃g:Bool,f.cell? (a.add 2)=some (.bool g)/\
 aG g (S0 f R) (aG k (S0 f R) (MF cM #[.pointer (some a)] f λb c d e j=>fH j (.cells #[.i b,.int .u8 c,.int .u8 d,e.v] aA) λm=>
 L1 a ⟨some (nb j),1,1⟩ m R))):Calls Tryz.prog fP #[.pointer (some a)] w R:=aM X [lu,fA] h
end enthymemeref04_reader_kids
namespace enthymemeref04_Parse
noncomputable abbrev X:Fx:=⟨Tryz.prog,Tryz.f89,[(7,ls [0,1,2,3,4,5,6,7,8,9,10,11,12,13,14])],[2,6]⟩
theorem cU (s:ByteArray) (w:World) (R:aD) (h:bE [] w λb z=>
 aG (decide (((s.size:Nat):Int)>4096)) (loc [b] z λw5=>R (.returned (.tuple #[.agg #[.i 0,.int .u8 0,.int .u8 0,.slice none 0 0],.i 4096,.i 4])) w5) (Sd [b] jK #[.string s] z λx d=>fH d (.cells #[x.v,.i 0,.bool false] jA) λw7=>
 vq [b] cM #[.pointer (some (nb d))] w7 λf g j k w8=>bE [b] w8 λe w9=>
 loc [b,e] w9 λaa=>Se [b,e] cO #[.pointer (some (nb d)),.s0] aa λr=>∃t:Bool,r.cell? ((nb d).add 2)=some (.bool t)/\
 aG t (loc [b,e] r λo=>∃l:Sl,o.cell? ((nb d).add 0)=some (l.v)/\
 ∃c:Int,o.cell? ((nb d).add 1)=some (.i c)/\
 (0:Int)<=c/\c<((l.n:Nat):Int)/\aW l.a λm=>∃q:Int,o.cell? ((m.add (Int.toNat c *6)).add 1)=some (.i q)/\
 loc [b,e] o λp=>p.cell? ((m.add (Int.toNat c *6)).add 1)=some (.i q)/\p.cell? ((nb d).add 1)=some (.i c)/\p.cell? ((nb d).add 0)=some (l.v)/\R (.returned (.tuple #[.agg #[.i 0,.int .u8 0,.int .u8 0,.slice none 0 0],.i q,.i 2])) p) (nJ [b,e] eC #[.agg #[.i f,.int .u8 g,.int .u8 j,k.v]] r λy u=>aG (decide (y>64)) (loc [b,e] u λab=>R (.returned (.tuple #[.agg #[.i 0,.int .u8 0,.int .u8 0,.slice none 0 0],.i ((s.size:Nat):Int),.i 4])) ab) (loc [b,e] u λac=>R (.returned (.tuple #[.agg #[.i f,.int .u8 g,.int .u8 j,k.v],.i 0,.i 0])) ac)))):Calls Tryz.prog kh #[.string s] w R:=aM X [] h
end enthymemeref04_Parse
namespace enthymemeref04_Byte
noncomputable abbrev X:Fx:=⟨Tryz.prog,Tryz.f126,[],[]⟩
theorem ok (a:Int) (w:World) (R:aD) (h:AR ik #[.int .u8 a] w λl c=>aG l (fH c (.cells #[.int .u8 39,.int .u8 a,.int .u8 39] dF) λd=>
 ∃j:ByteArray,Sem.run Tryz.prog (Go.convert bJ cJ (.slice (some (nb c)) 3 3)) d=.ok (.string j) d/\R (.returned (.string j)) d) (Ur gw #[.i (IntKind.wrap .i64 (Int.tdiv (IntKind.wrap .i64 a) 16))] c λf m=>Ur gw #[.i (Int.tmod (IntKind.wrap .i64 a) 16)] m λg k=>fH k (.cells #[.int .u8 92,.int .u8 120,.int .u8 f,.int .u8 g] dF) λe=>
 ∃b:ByteArray,Sem.run Tryz.prog (Go.convert bJ cJ (.slice (some (nb k)) 4 4)) e=.ok (.string b) e/\R (.returned (.string b)) e)):Calls Tryz.prog gN #[.int .u8 a] w R:=aM X [] h
end enthymemeref04_Byte
namespace enthymemeref04_binds
noncomputable abbrev X:Fx:=⟨Tryz.prog,Tryz.f125,[],[1]⟩
abbrev P0:Ps:=[]
abbrev dV (w:World) (R:aD):Prop:=
 R (.returned (.i 4)) w
noncomputable def fA:=bK X [] (bH [0,1,1,1,2]) P0 dV
theorem cU (a f g:Int) (c:Sl) (w:World) (R:aD) (h:bE [] w λk b=>
 aG (a==6) (R (.returned (.i 3)) b) (aG (decide (a<3)) (dV b R) (aG (a==7) (dV b R) (aG (decide (((c.n:Nat):Int)<2)) (dV b R) (fH b (.cells #[.i 2,.i 0,.i 1] bP) λj=>
 (0:Int)<=(IntKind.wrap .i64 (a - 3))/\(IntKind.wrap .i64 (a - 3))<((3:Nat):Int)/\aW (some (nb b)) λd=>∃e:Int,j.cell? (d.add (Int.toNat (IntKind.wrap .i64 (a - 3)) *1))=some (.i e)/\
 R (.returned (.i e)) j))))):Calls Tryz.prog gv #[.agg #[.i a,.int .u8 f,.int .u8 g,c.v]] w R:=aM X [fA] h
end enthymemeref04_binds
namespace enthymemeref04_low
noncomputable abbrev X:Fx:=⟨Tryz.prog,Tryz.f127,[],[]⟩
theorem ok (a:Int) (w:World) (R:aD) (h:aG (decide (a>=97)) (R (.returned (.bool (decide (a<=122)))) w) (R (.returned (.bool false)) w)):Calls Tryz.prog je #[.int .u8 a] w R:=aM X [] h
end enthymemeref04_low
namespace enthymemeref04_Write
noncomputable abbrev X:Fx:=⟨Tryz.prog,Tryz.f91,[(11,ls [0,1,5,6,2,3,4,7,8,9,10])],[2]⟩
abbrev P0:Ps:=[(2,.l [.I,.Y,.Y,.s] aA),(5,.v [.st])]
abbrev dV (j:Nat) (b f g:Int) (i:Sl) (a:ByteArray) (w:World) (R:aD):Prop:=
 fH w (.cells #[.string (ByteArray.mk #[99,97,116,40]),.string (ByteArray.mk #[97,108,116,40]),.string (ByteArray.mk #[97,108,108,40])] cJ) λe=>
 (0:Int)<=(IntKind.wrap .i64 (b - 3))/\(IntKind.wrap .i64 (b - 3))<((3:Nat):Int)/\aW (some (nb w)) λd=>∃c:ByteArray,e.cell? (d.add (Int.toNat (IntKind.wrap .i64 (b - 3)) *1))=some (.string c)/\
 ¬(((c.size+a.size:Nat):Int)>IntKind.i64.max)/\¬((((c++a).size+(ByteArray.mk #[41]).size:Nat):Int)>IntKind.i64.max)/\R (.returned (.string ((c++a)++(ByteArray.mk #[41])))) e
noncomputable def fA:=bK X [] (bH [2,1,1,1,3]) P0 dV
abbrev P1:Ps:=[(2,.l [.I,.Y,.Y,.s] aA),(6,.v [.st]),(7,.v [.I]),(8,.v [.st]),(9,.v [.I])]
def mD (j:Nat) (d e f:Int) (g:Sl) (a:ByteArray) (c:Int) (b:ByteArray) (i:Int) (w:World) (R:aD):Prop:=cG P1 0 (X.Sem (bH [0,1,1,1,7])) j d e f g a c b i w R
noncomputable def lu:=fU X (bH [0,1,1,1,7]) P1 mD
abbrev ic (j:Nat) (d e f:Int) (g:Sl) (a:ByteArray) (c:Int) (b:ByteArray) (i:Int) (w:World) (R:aD):Prop:=
 mD j d e f g a c b (IntKind.wrap .i64 (i+1)) w R
noncomputable def jc:=bK X [lu,fA] (bH [2,2,1,1,7]) P1 ic
abbrev P2:Ps:=[(2,.l [.I,.Y,.Y,.s] aA),(6,.v [.st]),(7,.v [.I]),(8,.v [.st]),(9,.v [.I]),(10,.v [.st])]
abbrev fB (k:Nat) (e f g:Int) (i:Sl) (a:ByteArray) (d:Int) (c:ByteArray) (j:Int) (b:ByteArray) (w:World) (R:aD):Prop:=
 ¬(((c.size+a.size:Nat):Int)>IntKind.i64.max)/\¬((((c++a).size+b.size:Nat):Int)>IntKind.i64.max)/\ic k e f g i a d ((c++a)++b) j w R
noncomputable def fX:=bK X [jc,lu,fA] (bH [2,2,1,2,1,1,7]) P2 fB
theorem dM:∀(m:Nat) (f g j:Int) (c:Sl) (d:ByteArray) (e:Int) (b:ByteArray) (l:Int) (w:World) (R:aD) (h:aG (decide (l<((c.n:Nat):Int))) ((0:Int)<=l/\l<((c.n:Nat):Int)/\aW c.a λq=>bY w (q.add (Int.toNat l *4)) λr s t u=>qj [m] bL #[.agg #[.i r,.int .u8 s,.int .u8 t,u.v],.i (IntKind.wrap .i64 (e+1))] w λk x=>aG (f==3) ((0:Int)<=(IntKind.wrap .i64 (((b.size:Nat):Int) - 1))/\∃o:UInt8,b[Int.toNat (IntKind.wrap .i64 (((b.size:Nat):Int) - 1))]? =some o/\jW [m] je #[.int .u8 ((o.toNat:Nat):Int)] x λaa y=>aG aa ((0:Int)<=0/\∃p:UInt8,k[Int.toNat 0]? =some p/\jW [m] je #[.int .u8 ((p.toNat:Nat):Int)] y λab z=>aG ab (¬(((b.size+(ByteArray.mk #[32]).size:Nat):Int)>IntKind.i64.max)/\fB m f g j c d e (b++(ByteArray.mk #[32])) l k z R) (fB m f g j c d e b l k z R)) (fB m f g j c d e b l k y R)) (fB m f g j c d e b l k x R)) (R (.returned (.string b)) w)),mD m f g j c d e b l w R:=mp (cW (X:=X) [fX,jc,lu,fA] (bH [0,1,1,1,7]) P1)
theorem cU (c d e:Int) (b:Sl) (j:Int) (w:World) (R:aD) (h:bE [] w λf w1=>
 nJ [f] gv #[.agg #[.i c,.int .u8 d,.int .u8 e,b.v]] w1 λar g=>aG (decide (ar<j)) (qj [f] bL #[.agg #[.i c,.int .u8 d,.int .u8 e,b.v],.i 0] g λl w3=>¬((((ByteArray.mk #[40]).size+l.size:Nat):Int)>IntKind.i64.max)/\¬(((((ByteArray.mk #[40])++l).size+(ByteArray.mk #[41]).size:Nat):Int)>IntKind.i64.max)/\R (.returned (.string (((ByteArray.mk #[40])++l)++(ByteArray.mk #[41])))) w3) (aG (c==0) (R (.returned (.string (ByteArray.mk #[110,111,110,101]))) g) (aG (c==1) (R (.returned (.string (ByteArray.mk #[101,109,112,116,121]))) g) (aG (c==2) (aG (d==e) (qj [f] gN #[.int .u8 d] g λau w4=>R (.returned (.string au)) w4) (loc [f] g λw5=>qj [f] gN #[.int .u8 d] w5 λk w6=>¬((((ByteArray.mk #[91]).size+k.size:Nat):Int)>IntKind.i64.max)/\¬(((((ByteArray.mk #[91])++k).size+(ByteArray.mk #[45]).size:Nat):Int)>IntKind.i64.max)/\qj [f] gN #[.int .u8 e] w6 λm w7=>¬((((((ByteArray.mk #[91])++k)++(ByteArray.mk #[45])).size+m.size:Nat):Int)>IntKind.i64.max)/\¬(((((((ByteArray.mk #[91])++k)++(ByteArray.mk #[45]))++m).size+(ByteArray.mk #[93]).size:Nat):Int)>IntKind.i64.max)/\R (.returned (.string (((((ByteArray.mk #[91])++k)++(ByteArray.mk #[45]))++m)++(ByteArray.mk #[93])))) w7)) (aG (c==6) ((0:Int)<=0/\0<((b.n:Nat):Int)/\aW b.a λo=>bY g (o.add (Int.toNat 0 *4)) λp q r s=>qj [f] bL #[.agg #[.i p,.int .u8 q,.int .u8 r,s.v],.i 3] g λal w8=>¬((((ByteArray.mk #[33]).size+al.size:Nat):Int)>IntKind.i64.max)/\R (.returned (.string ((ByteArray.mk #[33])++al))) w8) (aG (c==7) ((0:Int)<=0/\0<((b.n:Nat):Int)/\aW b.a λt=>bY g (t.add (Int.toNat 0 *4)) λu x y z=>qj [f] bL #[.agg #[.i u,.int .u8 x,.int .u8 y,z.v],.i 4] g λam w9=>¬(((am.size+(ByteArray.mk #[42]).size:Nat):Int)>IntKind.i64.max)/\R (.returned (.string (am++(ByteArray.mk #[42])))) w9) (aG (decide (((b.n:Nat):Int)<2)) (aG (((b.n:Nat):Int)==1) ((0:Int)<=0/\0<((b.n:Nat):Int)/\aW b.a λaa=>bY g (aa.add (Int.toNat 0 *4)) λab ac ad ae=>qj [f] bL #[.agg #[.i ab,.int .u8 ac,.int .u8 ad,ae.v],.i 0] g λav ax=>dV f c d e b av ax R) (dV f c d e b (ByteArray.mk #[]) g R)) (fH g (.cells #[.s0,.string (ByteArray.mk #[124]),.string (ByteArray.mk #[38])] cJ) λap=>
 (0:Int)<=(IntKind.wrap .i64 (c - 3))/\(IntKind.wrap .i64 (c - 3))<((3:Nat):Int)/\aW (some (nb g)) λaf=>∃an:ByteArray,ap.cell? (af.add (Int.toNat (IntKind.wrap .i64 (c - 3)) *1))=some (.string an)/\
 nJ [f] gv #[.agg #[.i c,.int .u8 d,.int .u8 e,b.v]] ap λao aq=>(0:Int)<=0/\0<((b.n:Nat):Int)/\aW b.a λag=>bY aq (ag.add (Int.toNat 0 *4)) λah ai aj ak=>qj [f] bL #[.agg #[.i ah,.int .u8 ai,.int .u8 aj,ak.v],.i (IntKind.wrap .i64 (ao+1))] aq λaw ay=>mD f c d e b an ao aw 1 ay R)))))))):Calls Tryz.prog bL #[.agg #[.i c,.int .u8 d,.int .u8 e,b.v],.i j] w R:=aM X [fX,jc,lu,fA] h
end enthymemeref04_Write
namespace enthymemeref04_Text
noncomputable def C0:Code:=(Tryz.f76.body).getD .skip
noncomputable def C1:=C0.sn
noncomputable def C2:=C1.sn
noncomputable def C3:=C2.sn
noncomputable def C4:=C3.sn
noncomputable def C5:=C4.sn
noncomputable def C6:=C5.sn
noncomputable def C7:=C6.sn
noncomputable def C8:=C7.sn
abbrev Q0 (R:aD):Pb:=(bodyPost Tryz.prog Tryz.f76 R)
noncomputable def C9:=C8.sn
abbrev S0 (o:Int) (b:Sl) (w:World) (R:aD):Prop:=
 (0:Int)<=(Int.tmod (IntKind.wrap .i64 (Int.tdiv o 216)) 8)/\(Int.tmod (IntKind.wrap .i64 (Int.tdiv o 216)) 8)<((b.n:Nat):Int)/\aW b.a λc=>bY w (c.add (Int.toNat (Int.tmod (IntKind.wrap .i64 (Int.tdiv o 216)) 8) *4)) λd e f g=>MF dS #[.agg #[.i d,.int .u8 e,.int .u8 f,g.v]] w λj k l m q=>Km bL #[.agg #[.i j,.int .u8 k,.int .u8 l,m.v],.i 0] q λp r=>R (.returned (.string p)) r
def IF (E:Env) (w:World) (R:aD):Prop:=W.asInt .i64 (Env.get? E 3) λb=>W.asSlice (Env.get? E 9) λa=>S0 b a w R
theorem D5:KOk Tryz.prog 87 IF C8 Q0:=by
 intro R E w h
 obtain ⟨k3,Dk,De⟩:=W.oy h
 obtain ⟨UF,hq9,Df⟩:=W.CJ De
 exact λa b=>WP.at (E:=[(3,.i k3),(9,UF.v)]) (sr C8 (K:=λE w=>rC Tryz.prog Tryz.f76 E w (λv=>R (.returned v) w)) (mp Df) λ_ _ d=>(rt C9 λa c=>oY c d)) (b.cons Dk (b.cons hq9 b.nil))
end enthymemeref04_Text
namespace enthymemeref04_Canonical
noncomputable abbrev X:Fx:=⟨Tryz.prog,Tryz.f48,[],[3,6]⟩
theorem cU (p:ByteArray) (w:World) (R:aD) (h:WU kh #[.string p] w λb c d e x m y=>bE [] y λa t=>
 aG (m !=0) (loc [a] t λq=>R (.returned (.bool false)) q) (loc [a] t λq=>MJ [a] jJ #[.agg #[.i b,.int .u8 c,.int .u8 d,e.v]] q λf g j k n z=>bE [a] z λo u=>
 aG (n==0) (loc [a,o] u λl=>qj [a,o] bL #[.agg #[.i f,.int .u8 g,.int .u8 j,k.v],.i 0] l λr s=>R (.returned (.bool (r.toList==p.toList))) s) (loc [a,o] u λl=>R (.returned (.bool false)) l))):Calls Tryz.prog iz #[.string p] w R:=aM X [] h
end enthymemeref04_Canonical
end Go.Proofs.YtcifihepfadgfaaGreatDoor

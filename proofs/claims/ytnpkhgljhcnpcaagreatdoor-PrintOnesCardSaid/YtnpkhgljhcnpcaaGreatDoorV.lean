import Derived.Test.YtnpkhgljhcnpcaaGreatDoorU
import Derived.Test.YtnpkhgljhcnpcaaGreatDoorProg
import Derived.KernelRfl
set_option linter.unusedVariables false
set_option maxRecDepth 100000
set_option maxHeartbeats 2000000
noncomputable section
set_option linter.defProp false
namespace Go.Proofs.YtnpkhgljhcnpcaaGreatDoor
open Go renaming World->aA,Calls->aH,Value->aD
open Go.IntKind renaming wrap->aC
open _root_.Int renaming toNat->aF
open _root_.ByteArray renaming mk->aE
open Go.Proofs.Tryz renaming prog->aB
open _root_.Decidable renaming decide->aR
open Go.Ending renaming returned->aJ
open Go Go.W
def mp {a b:Prop} (h:a) (e:a=b:=by kernel_rfl):b:=e▸h
abbrev OQ:=Exit->Act->aA->Prop
abbrev KOk (P:Program) (n:Nat) (K:Env->aA->aT->Prop) (c:Code) (Q:aT->OQ):Prop:=∀(R:aT) (E:Env) (w:aA),K E w R->WP P (cx n) c (Q R) E w
abbrev LOk (P:Program) (n:Nat) (K:Env->aA->aT->Prop) (c:Code) (Q:aT->OQ):Prop:=∀(R:aT) (E:Env) (w:aA),K E w R->LP P (cx n) c (Q R) E w
abbrev cV (w:aA) (p:Addr) (K:Int->Int->Int->Sl->Prop):Prop:=∃a:Int,∃b:Int,∃c:Int,∃d:Sl,w.cell? (p.add 0)=some (.i a)/\w.cell? (p.add 1)=some (.int .u8 b)/\w.cell? (p.add 2)=some (.int .u8 c)/\w.cell? (p.add 3)=some (d.v)/\K a b c d
abbrev WI (w:aA) (p:Addr) (K:Int->Int->Int->ByteArray->Int->Prop):Prop:=∃a:Int,∃b:Int,∃c:Int,∃d:ByteArray,∃e:Int,w.cell? (p.add 0)=some (.int .u8 a)/\w.cell? (p.add 1)=some (.int .u8 b)/\w.cell? (p.add 2)=some (.int .u8 c)/\w.cell? (p.add 3)=some (.string d)/\w.cell? (p.add 4)=some (.i e)/\K a b c d e
abbrev eS (w:aA) (p:Addr) (K:Int->Int->Int->Prop):Prop:=∃a:Int,∃b:Int,∃c:Int,w.cell? (p.add 0)=some (.i a)/\w.cell? (p.add 1)=some (.i b)/\w.cell? (p.add 2)=some (.i c)/\K a b c
abbrev Ah (w:aA) (p:Addr) (K:Int->Sl->Int->Int->Int->ByteArray->Int->Int->Int->Prop):Prop:=∃a:Int,∃b:Sl,∃c:Int,∃d:Int,∃e:Int,∃f:ByteArray,∃g:Int,∃j:Int,∃k:Int,w.cell? (p.add 0)=some (.i a)/\w.cell? (p.add 1)=some (b.v)/\w.cell? (p.add 2)=some (.i c)/\w.cell? (p.add 3)=some (.i d)/\w.cell? (p.add 4)=some (.u e)/\w.cell? (p.add 5)=some (.string f)/\w.cell? (p.add 6)=some (.i g)/\w.cell? (p.add 7)=some (.i j)/\w.cell? (p.add 8)=some (.i k)/\K a b c d e f g j k
abbrev aa2 (w:aA) (p:Addr) (K:Int->Int->Int->Int->Prop):Prop:=∃a:Int,∃b:Int,∃c:Int,∃d:Int,w.cell? (p.add 0)=some (.i a)/\w.cell? (p.add 1)=some (.i b)/\w.cell? (p.add 2)=some (.i c)/\w.cell? (p.add 3)=some (.i d)/\K a b c d
abbrev Dj (f:FuncId) (d:Array aD) (w:aA) (K:Bool->aA->Prop):Prop:=aH aB f d w λb c=>∃a:Bool,b=aJ (.bool a)/\K a c
abbrev lO (b:List Nat) (f:FuncId) (e:Array aD) (w:aA) (K:Bool->aA->Prop):Prop:=fZ b aB f e w λc d=>∃a:Bool,c=aJ (.bool a)/\K a d
abbrev Dv (f:FuncId) (d:Array aD) (w:aA) (K:Int->aA->Prop):Prop:=aH aB f d w λb c=>∃a:Int,b=aJ (.i a)/\K a c
abbrev qf (b:List Nat) (f:FuncId) (e:Array aD) (w:aA) (K:Int->aA->Prop):Prop:=fZ b aB f e w λc d=>∃a:Int,c=aJ (.i a)/\K a d
abbrev PZ (f:FuncId) (j:Array aD) (w:aA) (K:Int->Int->Int->Sl->aA->Prop):Prop:=aH aB f j w λe g=>∃a:Int,∃b:Int,∃c:Int,∃d:Sl,e=aJ (.agg #[.i a,.int .u8 b,.int .u8 c,d.v])/\K a b c d g
abbrev xK (e:List Nat) (f:FuncId) (k:Array aD) (w:aA) (K:Int->Int->Int->Sl->aA->Prop):Prop:=fZ e aB f k w λg j=>∃a:Int,∃b:Int,∃c:Int,∃d:Sl,g=aJ (.agg #[.i a,.int .u8 b,.int .u8 c,d.v])/\K a b c d j
abbrev ca3 (f:FuncId) (d:Array aD) (w:aA) (K:Sl->aA->Prop):Prop:=aH aB f d w λb c=>∃a:Sl,b=aJ (a.v)/\K a c
abbrev TK (b:List Nat) (f:FuncId) (e:Array aD) (w:aA) (K:Sl->aA->Prop):Prop:=fZ b aB f e w λc d=>∃a:Sl,c=aJ (a.v)/\K a d
abbrev vO (f:FuncId) (c:Array aD) (w:aA) (K:aA->Prop):Prop:=aH aB f c w λa b=>a=aJ (.tuple #[])/\K b
abbrev Qc (a:List Nat) (f:FuncId) (d:Array aD) (w:aA) (K:aA->Prop):Prop:=fZ a aB f d w λb c=>b=aJ (.tuple #[])/\K c
abbrev ca5 (f:FuncId) (e:Array aD) (w:aA) (K:Int->Int->aA->Prop):Prop:=aH aB f e w λc d=>∃a:Int,∃b:Int,c=aJ (.tuple #[.i a,.i b])/\K a b d
abbrev cf5 (c:List Nat) (f:FuncId) (g:Array aD) (w:aA) (K:Int->Int->aA->Prop):Prop:=fZ c aB f g w λd e=>∃a:Int,∃b:Int,d=aJ (.tuple #[.i a,.i b])/\K a b e
abbrev ca6 (f:FuncId) (e:Array aD) (w:aA) (K:Int->Bool->aA->Prop):Prop:=aH aB f e w λc d=>∃a:Int,∃b:Bool,c=aJ (.tuple #[.i a,.bool b])/\K a b d
abbrev cf6 (c:List Nat) (f:FuncId) (g:Array aD) (w:aA) (K:Int->Bool->aA->Prop):Prop:=fZ c aB f g w λd e=>∃a:Int,∃b:Bool,d=aJ (.tuple #[.i a,.bool b])/\K a b e
abbrev cf7 (d:List Nat) (f:FuncId) (j:Array aD) (w:aA) (K:Int->Int->Bool->aA->Prop):Prop:=fZ d aB f j w λe g=>∃a:Int,∃b:Int,∃c:Bool,e=aJ (.tuple #[.int .u8 a,.i b,.bool c])/\K a b c g
abbrev ca8 (f:FuncId) (l:Array aD) (w:aA) (K:Int->Int->Int->ByteArray->Int->Int->aA->Prop):Prop:=aH aB f l w λj k=>∃a:Int,∃b:Int,∃c:Int,∃d:ByteArray,∃e:Int,∃g:Int,j=aJ (.tuple #[.agg #[.int .u8 a,.int .u8 b,.int .u8 c,.string d,.i e],.i g])/\K a b c d e g k
abbrev ca9 (f:FuncId) (d:Array aD) (w:aA) (K:(Option Addr)->aA->Prop):Prop:=aH aB f d w λb c=>∃a:Option Addr,b=aJ (.pointer a)/\K a c
abbrev ZZ (b:List Nat) (f:FuncId) (e:Array aD) (w:aA) (K:(Option Addr)->aA->Prop):Prop:=fZ b aB f e w λc d=>∃a:Option Addr,c=aJ (.pointer a)/\K a d
abbrev Yc (f:FuncId) (d:Array aD) (w:aA) (K:aD->aA->Prop):Prop:=aH aB f d w λb c=>∃a:aD,b=aJ (a)/\K a c
abbrev ab4 (f:FuncId) (k:Array aD) (w:aA) (K:Int->Int->Int->Sl->Int->aA->Prop):Prop:=aH aB f k w λg j=>∃a:Int,∃b:Int,∃c:Int,∃d:Sl,∃e:Int,g=aJ (.tuple #[.agg #[.i a,.int .u8 b,.int .u8 c,d.v],.i e])/\K a b c d e j
abbrev Qb (g:List Nat) (f:FuncId) (l:Array aD) (w:aA) (K:Int->Int->Int->Sl->Int->aA->Prop):Prop:=fZ g aB f l w λj k=>∃a:Int,∃b:Int,∃c:Int,∃d:Sl,∃e:Int,j=aJ (.tuple #[.agg #[.i a,.int .u8 b,.int .u8 c,d.v],.i e])/\K a b c d e k
abbrev ab5 (f:FuncId) (d:Array aD) (w:aA) (K:(Option Nat)->aA->Prop):Prop:=aH aB f d w λb c=>∃a:Option Nat,b=aJ (.map a)/\K a c
abbrev ab9 (b:List Nat) (f:FuncId) (e:Array aD) (w:aA) (K:(Option Nat)->aA->Prop):Prop:=fZ b aB f e w λc d=>∃a:Option Nat,c=aJ (.map a)/\K a d
abbrev Yd (f:FuncId) (d:Array aD) (w:aA) (K:Int->aA->Prop):Prop:=aH aB f d w λb c=>∃a:Int,b=aJ (.int .u8 a)/\K a c
abbrev Ye (c:List Nat) (f:FuncId) (g:Array aD) (w:aA) (K:Int->Int->aA->Prop):Prop:=fZ c aB f g w λd e=>∃a:Int,∃b:Int,d=aJ (.tuple #[.int .u8 a,.i b])/\K a b e
abbrev Dw (f:FuncId) (d:Array aD) (w:aA) (K:ByteArray->aA->Prop):Prop:=aH aB f d w λb c=>∃a:ByteArray,b=aJ (.string a)/\K a c
abbrev oW (b:List Nat) (f:FuncId) (e:Array aD) (w:aA) (K:ByteArray->aA->Prop):Prop:=fZ b aB f e w λc d=>∃a:ByteArray,c=aJ (.string a)/\K a d
abbrev aau (f:FuncId) (l:Array aD) (w:aA) (K:Int->Int->Int->Sl->Int->Int->aA->Prop):Prop:=aH aB f l w λj k=>∃a:Int,∃b:Int,∃c:Int,∃d:Sl,∃e:Int,∃g:Int,j=aJ (.tuple #[.agg #[.i a,.int .u8 b,.int .u8 c,d.v],.i e,.i g])/\K a b c d e g k
abbrev Kd (f:FuncId) (g:Array aD) (w:aA) (K:Int->Int->Int->aA->Prop):Prop:=aH aB f g w λd e=>∃a:Int,∃b:Int,∃c:Int,d=aJ (.agg #[.i a,.i b,.i c])/\K a b c e
abbrev iF (d:List Nat) (f:FuncId) (j:Array aD) (w:aA) (K:Int->Int->Int->aA->Prop):Prop:=fZ d aB f j w λe g=>∃a:Int,∃b:Int,∃c:Int,e=aJ (.agg #[.i a,.i b,.i c])/\K a b c g
abbrev ab' (e:List Nat) (f:FuncId) (k:Array aD) (w:aA) (K:Int->Int->Int->Bool->aA->Prop):Prop:=fZ e aB f k w λg j=>∃a:Int,∃b:Int,∃c:Int,∃d:Bool,g=aJ (.tuple #[.agg #[.i a,.i b,.i c],.bool d])/\K a b c d j
abbrev jh (e:List Nat) (f:FuncId) (k:Array aD) (w:aA) (K:Int->Int->Int->Int->aA->Prop):Prop:=fZ e aB f k w λg j=>∃a:Int,∃b:Int,∃c:Int,∃d:Int,g=aJ (.tuple #[.agg #[.i a,.i b,.i c],.i d])/\K a b c d j
abbrev aca (d:List Nat) (f:FuncId) (j:Array aD) (w:aA) (K:Sl->Int->Int->aA->Prop):Prop:=fZ d aB f j w λe g=>∃a:Sl,∃b:Int,∃c:Int,e=aJ (.tuple #[a.v,.i b,.i c])/\K a b c g
abbrev ab6 (f:FuncId) (o:Array aD) (w:aA) (K:Int->Sl->Int->Int->Int->ByteArray->Int->Int->Int->aA->Prop):Prop:=aH aB f o w λm n=>∃a:Int,∃b:Sl,∃c:Int,∃d:Int,∃e:Int,∃g:ByteArray,∃j:Int,∃k:Int,∃l:Int,m=aJ (.agg #[.i a,b.v,.i c,.i d,.u e,.string g,.i j,.i k,.i l])/\K a b c d e g j k l n
abbrev aay (m:List Nat) (f:FuncId) (p:Array aD) (w:aA) (K:Int->Sl->Int->Int->Int->ByteArray->Int->Int->Int->aA->Prop):Prop:=fZ m aB f p w λn o=>∃a:Int,∃b:Sl,∃c:Int,∃d:Int,∃e:Int,∃g:ByteArray,∃j:Int,∃k:Int,∃l:Int,n=aJ (.agg #[.i a,b.v,.i c,.i d,.u e,.string g,.i j,.i k,.i l])/\K a b c d e g j k l o
abbrev Ho (c:List Nat) (f:FuncId) (g:Array aD) (w:aA) (K:ByteArray->Int->aA->Prop):Prop:=fZ c aB f g w λd e=>∃a:ByteArray,∃b:Int,d=aJ (.tuple #[.string a,.i b])/\K a b e
abbrev ab7 (f:FuncId) (d:Array aD) (w:aA) (K:Sl->aA->Prop):Prop:=aH aB f d w λb c=>∃a:Sl,b=aJ (.agg #[a.v])/\K a c
abbrev TI (b:List Nat) (f:FuncId) (e:Array aD) (w:aA) (K:Sl->aA->Prop):Prop:=fZ b aB f e w λc d=>∃a:Sl,c=aJ (.agg #[a.v])/\K a d
abbrev aav (f:FuncId) (d:Array aD) (w:aA) (K:Int->aA->Prop):Prop:=aH aB f d w λb c=>∃a:Int,b=aJ (.u a)/\K a c
abbrev ab8 (f:FuncId) (e:Array aD) (w:aA) (K:Int->aD->aA->Prop):Prop:=aH aB f e w λc d=>∃a:Int,∃b:aD,c=aJ (.tuple #[.i a,b])/\K a b d
abbrev TJ (d:List Nat) (f:FuncId) (j:Array aD) (w:aA) (K:Sl->Sl->Int->aA->Prop):Prop:=fZ d aB f j w λe g=>∃a:Sl,∃b:Sl,∃c:Int,e=aJ (.tuple #[.agg #[a.v],b.v,.i c])/\K a b c g
abbrev QM (w:aA) (p:Addr) (a b c:aD) (K:Unit->Prop):Prop:=w.cell? (p.add 0)=some a/\w.cell? (p.add 1)=some b/\w.cell? (p.add 2)=some c/\K ()
abbrev Le (w:aA) (p:Addr) (a b c:aD) (K:aA->Prop):Prop:=cY w p a λw=>cY w (p.add 1) b λw=>cY w (p.add 2) c λw=>K w
abbrev sR (w:aA) (p:Addr) (a b c d:aD) (K:aA->Prop):Prop:=cY w p a λw=>cY w (p.add 1) b λw=>cY w (p.add 2) c λw=>cY w (p.add 3) d λw=>K w
abbrev abq (w:aA) (p:Addr) (a b c d e:aD) (K:aA->Prop):Prop:=cY w p a λw=>cY w (p.add 1) b λw=>cY w (p.add 2) c λw=>cY w (p.add 3) d λw=>cY w (p.add 4) e λw=>K w
abbrev abr (w:aA) (p:Addr) (a b c d e f g i j:aD) (K:aA->Prop):Prop:=cY w p a λw=>cY w (p.add 1) b λw=>cY w (p.add 2) c λw=>cY w (p.add 3) d λw=>cY w (p.add 4) e λw=>cY w (p.add 5) f λw=>cY w (p.add 6) g λw=>cY w (p.add 7) i λw=>cY w (p.add 8) j λw=>K w
abbrev OK:Nat:=0
abbrev cT:Nat:=3
abbrev Gy:Nat:=4
abbrev bS:Nat:=5
abbrev cG:Nat:=9
abbrev jj:Nat:=22
abbrev bI:Nat:=25
abbrev yV:Nat:=26
abbrev cA:Nat:=31
abbrev cM:Nat:=33
abbrev nK:Nat:=38
abbrev bE:Nat:=45
abbrev yW:Nat:=52
abbrev rP:Nat:=59
abbrev rO:Nat:=61
abbrev xI:Nat:=62
abbrev cO:Nat:=64
abbrev j8:Nat:=65
abbrev bB:Nat:=66
abbrev cF:Nat:=68
abbrev pJ:Nat:=75
abbrev pI:Nat:=82
abbrev lK:Nat:=83
abbrev ib:Nat:=85
abbrev bJ:Nat:=91
abbrev CW:Nat:=100
abbrev aM:Nat:=101
abbrev aG:Nat:=103
abbrev ng:Nat:=120
abbrev pK:Nat:=122
abbrev jv:Nat:=137
abbrev OL:Nat:=141
abbrev ot:Nat:=142
abbrev cQ:Nat:=158
abbrev km:Nat:=161
abbrev cZ:Nat:=164
abbrev aU:Nat:=181
abbrev aL:Nat:=183
abbrev c9:Nat:=193
abbrev mz:Nat:=194
abbrev iV:Nat:=196
abbrev gC:Nat:=201
abbrev bG:Nat:=209
abbrev bZ:Nat:=222
abbrev dB:Nat:=229
abbrev mO:Nat:=4
abbrev bN:Nat:=5
abbrev ln:Nat:=8
abbrev fW:Nat:=9
abbrev iq:Nat:=10
abbrev mW:Nat:=11
abbrev nB:Nat:=12
abbrev mr:Nat:=13
abbrev pZ:Nat:=14
abbrev jo:Nat:=15
abbrev lC:Nat:=17
abbrev jA:Nat:=18
abbrev mS:Nat:=19
abbrev kI:Nat:=20
abbrev jB:Nat:=21
abbrev mq:Nat:=22
abbrev oG:Nat:=23
abbrev tW:Nat:=24
abbrev mX:Nat:=25
abbrev tV:Nat:=26
abbrev oF:Nat:=27
abbrev lF:Nat:=28
abbrev jC:Nat:=29
abbrev kh:Nat:=30
abbrev jq:Nat:=31
abbrev cW:Nat:=32
abbrev bL:Nat:=34
abbrev cP:Nat:=35
abbrev l5:Nat:=36
abbrev jz:Nat:=37
abbrev im:Nat:=38
abbrev kH:Nat:=39
abbrev iS:Nat:=40
abbrev lu:Nat:=41
abbrev jr:Nat:=42
abbrev jF:Nat:=43
abbrev kr:Nat:=44
abbrev gH:Nat:=45
abbrev lD:Nat:=46
abbrev pY:Nat:=47
abbrev kJ:Nat:=48
abbrev eJ:Nat:=49
abbrev lG:Nat:=50
abbrev iL:Nat:=51
abbrev gO:Nat:=52
abbrev oU:Nat:=53
abbrev cL:Nat:=54
abbrev cE:Nat:=55
abbrev eP:Nat:=56
abbrev gA:Nat:=57
abbrev kF:Nat:=58
abbrev l8:Nat:=59
abbrev mT:Nat:=60
abbrev kG:Nat:=61
abbrev jl:Nat:=62
abbrev l6:Nat:=63
abbrev q9:Nat:=64
abbrev sO:Nat:=65
abbrev iT:Nat:=66
abbrev vq:Nat:=67
abbrev qh:Nat:=68
abbrev dC:Nat:=69
abbrev rG:Nat:=70
abbrev oT:Nat:=71
abbrev kV:Nat:=72
abbrev lP:Nat:=73
abbrev g7:Nat:=74
abbrev il:Nat:=75
abbrev jT:Nat:=76
abbrev kE:Nat:=77
abbrev jU:Nat:=78
abbrev lB:Nat:=79
abbrev lq:Nat:=80
abbrev kC:Nat:=81
abbrev jM:Nat:=82
abbrev tX:Nat:=83
abbrev oH:Nat:=84
abbrev p9:Nat:=85
abbrev qa:Nat:=86
abbrev py:Nat:=87
abbrev pw:Nat:=88
abbrev nX:Nat:=89
abbrev mZ:Nat:=90
abbrev tS:Nat:=91
abbrev sj:Nat:=92
abbrev q7:Nat:=93
abbrev kg:Nat:=94
abbrev jd:Nat:=98
abbrev g8:Nat:=99
abbrev dF:Nat:=100
abbrev mR:Nat:=101
abbrev mP:Nat:=102
abbrev kD:Nat:=103
abbrev dK:Nat:=104
abbrev dM:Nat:=105
abbrev eY:Nat:=106
abbrev lr:Nat:=107
abbrev mQ:Nat:=108
abbrev fL:Nat:=109
abbrev lH:Nat:=110
abbrev iA:Nat:=111
abbrev oI:Nat:=112
abbrev jf:Nat:=113
abbrev sN:Nat:=114
abbrev m8:Nat:=115
abbrev mY:Nat:=116
abbrev bM:Nat:=117
abbrev jY:Nat:=118
abbrev gp:Nat:=119
abbrev q8:Nat:=120
abbrev dU:Nat:=121
abbrev oz:Nat:=122
abbrev sm:Nat:=124
abbrev kf:Nat:=128
abbrev dZ:Nat:=129
abbrev cS:Nat:=130
abbrev eC:Nat:=131
abbrev jy:Nat:=132
abbrev sK:Nat:=133
abbrev po:Nat:=134
abbrev sL:Nat:=135
abbrev gJ:Nat:=138
abbrev eI:Nat:=139
abbrev fK:Nat:=140
abbrev vr:Nat:=141
abbrev nV:Nat:=142
abbrev fR:Nat:=143
abbrev gl:Nat:=144
abbrev kL:Nat:=145
abbrev qi:Nat:=146
abbrev qG:Nat:=147
abbrev mV:Nat:=148
abbrev sM:Nat:=149
abbrev je:Nat:=150
abbrev fM:Nat:=151
abbrev dL:Nat:=152
abbrev iz:Nat:=153
abbrev gK:Nat:=154
abbrev qH:Nat:=155
abbrev kq:Nat:=156
abbrev iK:Nat:=157
abbrev hO:Nat:=158
abbrev jW:Nat:=159
abbrev jD:Nat:=160
abbrev jE:Nat:=161
abbrev jX:Nat:=162
abbrev mn:Nat:=163
abbrev pq:Nat:=164
abbrev om:Nat:=165
abbrev lQ:Nat:=166
abbrev oy:Nat:=167
abbrev jV:Nat:=168
abbrev tU:Nat:=169
abbrev dY:Nat:=170
abbrev kp:Nat:=171
abbrev fE:Nat:=172
abbrev eQ:Nat:=173
abbrev bK:Nat:=174
abbrev eD:Nat:=175
abbrev jP:Nat:=176
abbrev jQ:Nat:=177
abbrev tT:Nat:=178
abbrev gD:Nat:=179
abbrev iZ:Nat:=180
abbrev lZ:Nat:=181
abbrev mU:Nat:=182
abbrev fG:Nat:=183
abbrev eH:Nat:=184
abbrev hC:Nat:=185
abbrev dG:Nat:=186
abbrev eT:Nat:=187
abbrev qF:Nat:=188
abbrev q6:Nat:=189
abbrev pn:Nat:=190
abbrev k8:Nat:=191
abbrev cK:Nat:=192
abbrev kK:Nat:=193
abbrev gE:Nat:=194
abbrev g9:Nat:=195
abbrev qj:Nat:=196
abbrev e8:Nat:=197
abbrev nW:Nat:=198
abbrev lS:Nat:=199
abbrev mF:Nat:=200
abbrev l9:Nat:=201
abbrev jN:Nat:=202
abbrev lE:Nat:=203
abbrev nC:Nat:=204
abbrev qE:Nat:=206
abbrev pX:Nat:=207
abbrev eZ:Nat:=208
namespace enthymemeref01_Around
abbrev X:Fx:=⟨aB,Tryz.f5,[],[]⟩
abbrev P0:Ps:=[(0,.v [.I]),(1,.v [.I])]
abbrev S0 (b a:Int) (w:aA) (R:aT):Prop:=
 a≠0/\R (aJ (.i (Int.tmod b a))) w
def fH:=bX X [] (bV [2]) P0 S0
def ok (b a:Int) (w:aA) (R:aT) (h:aW (aR (b<0)) (S0 (aC .i64 (0 - (aC .i64 (b+1)))) a w R) (S0 b a w R)):aH aB bN #[.i b,.i a] w R:=aZ X [fH] h
end enthymemeref01_Around
namespace enthymemeref01_Has
abbrev X:Fx:=⟨aB,Tryz.f102,[],[]⟩
abbrev P0:Ps:=[(0,.v [.s]),(1,.v [.I]),(5,.v [.I])]
def L0 (b:Sl) (c a:Int) (w:aA) (R:aT):Prop:=dD P0 0 (X.Sem (bV [0,1,1,1,1])) b c a w R
def fI:=gI X (bV [0,1,1,1,1]) P0 L0
def dE:∀(c:Sl) (f b:Int) (w:aA) (R:aT) (h:aW (aR (b<((c.n:Nat):Int))) (bY c b λd=>∃e:Int,w.cell? (d.add (aF b *1))=some (.i e)/\
 aW (e==f) (R (aJ (.bool true)) w) (L0 c f (aC .i64 (b+1)) w R)) (R (aJ (.bool false)) w)),L0 c f b w R:=mp (dV (X:=X) [fI] (bV [0,1,1,1,1]) P0)
def ok (a:Sl) (b:Int) (w:aA) (R:aT) (h:L0 a b 0 w R):aH aB mP #[a.v,.i b] w R:=aZ X [fI] h
end enthymemeref01_Has
namespace enthymemeref01_SameInts
abbrev X:Fx:=⟨aB,Tryz.f82,[(6,ls [0,1,2,3,4,5,6,7,8])],[]⟩
abbrev P0:Ps:=[(0,.v [.s]),(1,.v [.s]),(5,.v [.I])]
def L0 (a b:Sl) (c:Int) (w:aA) (R:aT):Prop:=dD P0 0 (X.Sem (bV [0,1,1,1,2])) a b c w R
def fI:=gI X (bV [0,1,1,1,2]) P0 L0
def dE:∀(c d:Sl) (b:Int) (w:aA) (R:aT) (h:aW (aR (b<((c.n:Nat):Int))) (wy w λg=>bY c b λe=>∃j:Int,g.cell? (e.add (aF b *1))=some (.i j)/\
 bY d b λf=>∃k:Int,g.cell? (f.add (aF b *1))=some (.i k)/\
 aW (j !=k) (R (aJ (.bool false)) g) (L0 c d (aC .i64 (b+1)) g R)) (R (aJ (.bool true)) w)),L0 c d b w R:=mp (dV (X:=X) [fI] (bV [0,1,1,1,2]) P0)
def ok (a b:Sl) (w:aA) (R:aT) (h:aW (((a.n:Nat):Int) !=((b.n:Nat):Int)) (R (aJ (.bool false)) w) (L0 a b 0 w R)):aH aB jM #[a.v,b.v] w R:=aZ X [fI] h
end enthymemeref01_SameInts
namespace cmp_isNaN_int
abbrev X:Fx:=⟨aB,Tryz.f206,[],[]⟩
def ok (a:Int) (w:aA) (R:aT) (h:R (aJ (.bool (a !=a))) w):aH aB qE #[.i a] w R:=aZ X [] h
end cmp_isNaN_int
namespace cmp_isNaN_byte
abbrev X:Fx:=⟨aB,Tryz.f207,[],[]⟩
def ok (a:Int) (w:aA) (R:aT) (h:R (aJ (.bool (a !=a))) w):aH aB pX #[.int .u8 a] w R:=aZ X [] h
end cmp_isNaN_byte
namespace cmp_Compare_int
abbrev X:Fx:=⟨aB,Tryz.f190,[],[]⟩
def ok (b c:Int) (w:aA) (R:aT) (h:Dj qE #[.i b] w λe f=>Dj qE #[.i c] f λd a=>aW e (aW d (R (aJ (.i 0)) a) (R (aJ (.i (-1))) a)) (aW d (R (aJ (.i 1)) a) (aW (aR (b<c)) (R (aJ (.i (-1))) a) (aW (aR (b>c)) (R (aJ (.i 1)) a) (R (aJ (.i 0)) a))))):aH aB pn #[.i b,.i c] w R:=aZ X [] h
end cmp_Compare_int
namespace cmp_Compare_byte
abbrev X:Fx:=⟨aB,Tryz.f191,[],[]⟩
def ok (b c:Int) (w:aA) (R:aT) (h:Dj pX #[.int .u8 b] w λe f=>Dj pX #[.int .u8 c] f λd a=>aW e (aW d (R (aJ (.i 0)) a) (R (aJ (.i (-1))) a)) (aW d (R (aJ (.i 1)) a) (aW (aR (b<c)) (R (aJ (.i (-1))) a) (aW (aR (b>c)) (R (aJ (.i 1)) a) (R (aJ (.i 0)) a))))):aH aB k8 #[.int .u8 b,.int .u8 c] w R:=aZ X [] h
end cmp_Compare_byte
namespace cmp_Or_int
abbrev X:Fx:=⟨aB,Tryz.f189,[],[]⟩
abbrev P0:Ps:=[(3,.v [.I]),(6,.v [.s]),(7,.v [.I]),(8,.v [.I])]
def L0 (a:Int) (b:Sl) (c d:Int) (w:aA) (R:aT):Prop:=dD P0 0 (X.Sem (bV [0,1,1,1,2])) a b c d w R
def fI:=gI X (bV [0,1,1,1,2]) P0 L0
def dE:∀(b:Int) (f:Sl) (g c:Int) (w:aA) (R:aT) (h:aW (aR (c<g)) (bY f c λe=>∃d:Int,w.cell? (e.add (aF c *1))=some (.i d)/\
 aW (d !=b) (R (aJ (.i d)) w) (L0 b f g (aC .i64 (c+1)) w R)) (R (aJ (.i b)) w)),L0 b f g c w R:=mp (dV (X:=X) [fI] (bV [0,1,1,1,2]) P0)
def ok (a:Sl) (w:aA) (R:aT) (h:L0 0 a ((a.n:Nat):Int) 0 w R):aH aB q6 #[a.v] w R:=aZ X [fI] h
end cmp_Or_int
namespace regex_Compare
abbrev X:Fx:=⟨aB,Tryz.f174,[(1,ls [0,1,2,3,5,6,7,8,10,11,12,13,4,9,14,15,16,17])],[2,3]⟩
def dQ (c d e:Int) (f:Sl) (g j k:Int) (l:Sl) (w:aA) (R:aT) (h:cB [] w λa t=>
 cB [a] t λb u=>
 loc [a,b] u λx=>qf [a,b] pn #[.i c,.i g] x λn y=>qf [a,b] k8 #[.int .u8 d,.int .u8 j] y λo z=>qf [a,b] k8 #[.int .u8 e,.int .u8 k] z λp r=>gi r (.cells #[.i n,.i o,.i p] cT) λw7=>
 qf [a,b] q6 #[.slice (some (nb r)) 3 3] w7 λm s=>aW (m !=0) (R (aJ (.i m)) s) (qf [a,b] cK #[f.v,l.v,.func (.func bK) #[] #[]] s λq w9=>R (aJ (.i q)) w9)):aH aB bK #[.agg #[.i c,.int .u8 d,.int .u8 e,f.v],.agg #[.i g,.int .u8 j,.int .u8 k,l.v]] w R:=aZ X [] h
end regex_Compare
namespace slices_CompareFunc_sl_regex_Regex_sl_regex_Regex_regex_Regex_regex_Regex
abbrev X:Fx:=⟨aB,Tryz.f192,[],[8,9]⟩
abbrev P0:Ps:=[(0,.v [.s]),(1,.v [.s]),(2,.v [.g bK 0 0]),(11,.v [.s]),(12,.v [.I]),(13,.v [.I])]
def fO (a b c:Sl) (d e:Int) (w:aA) (R:aT):Prop:=dD P0 0 (X.Sem (bV [0,1,1,1,1])) a b c d e w R
def fI:=gI X (bV [0,1,1,1,1]) P0 fO
def bT:∀(f c d:Sl) (g b:Int) (w:aA) (R:aT) (h:aW (aR (b<g)) (bY d b λj=>cV w (j.add (aF b *4)) λk l m o=>cB [] w λe w1=>
 aW (aR (b>=((c.n:Nat):Int))) (loc [e] w1 λu=>R (aJ (.i 1)) u) (bY c b λp=>loc [e] w1 λu=>cV u (p.add (aF b *4)) λq r s t=>cB [e] u λz w6=>
 loc [e,z] w6 λab=>qf [e,z] bK #[.agg #[.i k,.int .u8 l,.int .u8 m,o.v],.agg #[.i q,.int .u8 r,.int .u8 s,t.v]] ab λx y=>aW (x !=0) (R (aJ (.i x)) y) (fO f c d g (aC .i64 (b+1)) y R))) (aW (aR (((f.n:Nat):Int)<((c.n:Nat):Int))) (R (aJ (.i (-1))) w) (R (aJ (.i 0)) w))),fO f c d g b w R:=mp (dV (X:=X) [fI] (bV [0,1,1,1,1]) P0)
def dQ (a b:Sl) (w:aA) (R:aT) (h:fO a b a ((a.n:Nat):Int) 0 w R):aH aB cK #[a.v,b.v,.func (.func bK) #[] #[]] w R:=aZ X [fI] h
end slices_CompareFunc_sl_regex_Regex_sl_regex_Regex_regex_Regex_regex_Regex
namespace regex_equal
abbrev X:Fx:=⟨aB,Tryz.f172,[],[2,3]⟩
def dQ (a b c:Int) (d:Sl) (e f g:Int) (j:Sl) (w:aA) (R:aT) (h:cB [] w λk n=>
 cB [k] n λl o=>
 qf [k,l] bK #[.agg #[.i a,.int .u8 b,.int .u8 c,d.v],.agg #[.i e,.int .u8 f,.int .u8 g,j.v]] o λm p=>R (aJ (.bool (m==0))) p):aH aB fE #[.agg #[.i a,.int .u8 b,.int .u8 c,d.v],.agg #[.i e,.int .u8 f,.int .u8 g,j.v]] w R:=aZ X [] h
end regex_equal
namespace regex_countdown
abbrev X:Fx:=⟨aB,Tryz.f163,[],[2]⟩
abbrev P0:Ps:=[(1,.v [.I]),(2,.l [.I,.Y,.Y,.s] aL),(5,.v [.I])]
def mC (a:Int) (g:Nat) (b c d:Int) (e:Sl) (f:Int) (w:aA) (R:aT):Prop:=dD P0 0 (X.Sem (bV [0,1,1,1,2])) a g b c d e f w R
def kA:=gI X (bV [0,1,1,1,2]) P0 mC
abbrev P1:Ps:=[(1,.v [.I])]
abbrev fN (a:Int) (w:aA) (R:aT):Prop:=
 R (aJ (.i a)) w
def fU:=bX X [kA] (bV [3]) P1 fN
def dR:∀(b:Int) (p:Nat) (e f g:Int) (c:Sl) (d:Int) (w:aA) (R:aT) (h:aW (aR (d<((c.n:Nat):Int))) (aW (aR (b>=0)) (bY c d λj=>cV w (j.add (aF d *4)) λk l m o=>qf [p] mn #[.agg #[.i k,.int .u8 l,.int .u8 m,o.v],.i b] w λq r=>mC q p e f g c (aC .i64 (d+1)) r R) (fN b w R)) (fN b w R)),mC b p e f g c d w R:=mp (dV (X:=X) [fU,kA] (bV [0,1,1,1,2]) P0)
abbrev P2:Ps:=[(1,.v [.I]),(2,.l [.I,.Y,.Y,.s] aL)]
abbrev eX (a:Int) (f:Nat) (b c d:Int) (e:Sl) (w:aA) (R:aT):Prop:=
 mC a f b c d e 0 w R
def fH:=bX X [fU,kA] (bV [2]) P2 eX
def dQ (b c d:Int) (e:Sl) (a:Int) (w:aA) (R:aT) (h:cB [] w λf g=>
 eX (aC .i64 (a - 1)) f b c d e g R):aH aB mn #[.agg #[.i b,.int .u8 c,.int .u8 d,e.v],.i a] w R:=aZ X [fH,fU,kA] h
end regex_countdown
namespace regex_tooLarge
abbrev X:Fx:=⟨aB,Tryz.f145,[],[1]⟩
def dQ (a b c:Int) (d:Sl) (w:aA) (R:aT) (h:cB [] w λe g=>
 qf [e] mn #[.agg #[.i a,.int .u8 b,.int .u8 c,d.v],.i 64] g λf j=>R (aJ (.bool (aR (f<0)))) j):aH aB kL #[.agg #[.i a,.int .u8 b,.int .u8 c,d.v]] w R:=aZ X [] h
end regex_tooLarge
namespace regex_proper
abbrev X:Fx:=⟨aB,Tryz.f164,[],[1,4]⟩
abbrev P0:Ps:=[]
abbrev eX (w:aA) (R:aT):Prop:=
 R (aJ (.bool false)) w
def fH:=bX X [] (bV [0,1,1,1,1]) P0 eX
abbrev P1:Ps:=[(1,.l [.I,.Y,.Y,.s] aL)]
abbrev fN (e:Nat) (b c d:Int) (a:Sl) (w:aA) (R:aT):Prop:=
 R (aJ (.bool (((a.n:Nat):Int)==0))) w
def fU:=bX X [fH] (bV [0,1,1,1,1,1,2]) P1 fN
abbrev P2:Ps:=[(52,.v [.s]),(53,.v [.I]),(54,.v [.I])]
def EX (a:Sl) (b c:Int) (w:aA) (R:aT):Prop:=dD P2 0 (X.Sem (bV [0,1,1,1,3])) a b c w R
def uK:=gI X (bV [0,1,1,1,3]) P2 EX
def oY:∀(c:Sl) (d b:Int) (w:aA) (R:aT) (h:aW (aR (b<d)) (bY c b λe=>cV w (e.add (aF b *4)) λf g j k=>cB [] w λl p=>
 loc [l] p λq=>lO [l] pq #[.agg #[.i f,.int .u8 g,.int .u8 j,k.v]] q λm o=>aW (!m) (R (aJ (.bool false)) o) (EX c d (aC .i64 (b+1)) o R)) (R (aJ (.bool true)) w)),EX c d b w R:=mp (dV (X:=X) [uK,fU,fH] (bV [0,1,1,1,3]) P2)
abbrev rm (e:Nat) (b c d:Int) (a:Sl) (w:aA) (R:aT):Prop:=
 EX a ((a.n:Nat):Int) 0 w R
def ny:=bX X [uK,fU,fH] (bV [3]) P1 rm
abbrev Lp (e:Nat) (b c d:Int) (a:Sl) (w:aA) (R:aT):Prop:=
 aW (((a.n:Nat):Int) !=1) (R (aJ (.bool false)) w) (rm e b c d a w R)
def uC:=bX X [ny,uK,fU,fH] (bV [0,1,7,1,1,1,2]) P1 Lp
abbrev V7 (w:aA) (R:aT):Prop:=
 R (aJ (.bool false)) w
def BF:=bX X [uC,ny,uK,fU,fH] (bV [8,1,1,1,2]) P0 V7
abbrev P3:Ps:=[(1,.l [.I,.Y,.Y,.s] aL),(19,.v [.I])]
abbrev zY (f:Nat) (a b c:Int) (d:Sl) (e:Int) (w:aA) (R:aT):Prop:=
 aW (e==6) (aW (e==6) (Lp f a b c d w R) (V7 w R)) (aW (e==7) (Lp f a b c d w R) (V7 w R))
def sE:=bX X [BF,uC,ny,uK,fU,fH] (bV [6,1,1,1,2]) P3 zY
abbrev ir (f:Nat) (e a b:Int) (c:Sl) (d:Int) (w:aA) (R:aT):Prop:=
 aW (d==2) (aW (((c.n:Nat):Int)==0) (R (aJ (.bool (aR (a<=b)))) w) (R (aJ (.bool false)) w)) (aW (d==3) (aW (d==3) (rm f e a b c w R) (zY f e a b c d w R)) (aW (d==4) (aW (d==4) (rm f e a b c w R) (zY f e a b c d w R)) (aW (d==5) (rm f e a b c w R) (zY f e a b c d w R))))
def iG:=bX X [sE,BF,uC,ny,uK,fU,fH] (bV [2,1,1,1,2]) P3 ir
abbrev gW (e:Nat) (a b c:Int) (d:Sl) (w:aA) (R:aT):Prop:=
 aW (a==0) (aW (a==0) (fN e a b c d w R) (ir e a b c d a w R)) (aW (a==1) (fN e a b c d w R) (ir e a b c d a w R))
def gN:=bX X [iG,sE,BF,uC,ny,uK,fU,fH] (bV [2]) P1 gW
def dQ (a b c:Int) (d:Sl) (w:aA) (R:aT) (h:cB [] w λf e=>
 aW (a !=2) (aW (b !=0) (eX e R) (aW (c !=0) (eX e R) (gW f a b c d e R))) (gW f a b c d e R)):aH aB pq #[.agg #[.i a,.int .u8 b,.int .u8 c,d.v]] w R:=aZ X [gN,iG,sE,BF,uC,ny,uK,fU,fH] h
end regex_proper
namespace regex_Valid
abbrev X:Fx:=⟨aB,Tryz.f146,[],[1]⟩
def dQ (a b c:Int) (d:Sl) (w:aA) (R:aT) (h:cB [] w λe l=>
 lO [e] kL #[.agg #[.i a,.int .u8 b,.int .u8 c,d.v]] l λj f=>aW j (R (aJ (.i 4)) f) (lO [e] pq #[.agg #[.i a,.int .u8 b,.int .u8 c,d.v]] f λk g=>aW (!k) (R (aJ (.i 1)) g) (R (aJ (.i 0)) g))):aH aB qi #[.agg #[.i a,.int .u8 b,.int .u8 c,d.v]] w R:=aZ X [] h
end regex_Valid
namespace regex_clone
abbrev X:Fx:=⟨aB,Tryz.f165,[],[1,2,5]⟩
abbrev P0:Ps:=[(1,.l [.I,.Y,.Y,.s] aL),(2,.l [.I,.Y,.Y,.s] aL),(3,.v [.s]),(7,.v [.s]),(8,.v [.I]),(9,.v [.I])]
def fO (k:Nat) (b c d:Int) (e:Sl) (l:Nat) (f g i:Int) (j a m:Sl) (n o:Int) (w:aA) (R:aT):Prop:=dD P0 0 (X.Sem (bV [0,1,1,1,2])) k b c d e l f g i j a m n o w R
def fI:=gI X (bV [0,1,1,1,2]) P0 fO
def bT:∀(c:Nat) (d e f:Int) (k:Sl) (g:Nat) (l m o:Int) (p b t7:Sl) (t8 j:Int) (w:aA) (R:aT) (h:aW (aR (j<t8)) (bY t7 j λr=>cV w (r.add (aF j *4)) λs t u x=>cB [c,g] w λb5 w3=>
 loc [c,g,b5] w3 λw7=>xK [c,g,b5] om #[.agg #[.i s,.int .u8 t,.int .u8 u,x.v]] w7 λy z aa ab w8=>gi w8 (.cells #[.i y,.int .u8 z,.int .u8 aa,ab.v] aL) λw9=>
 ∃(ad:Sl) (q:aA),Sem.run aB (Builtin.append_ #[aU,aU] aU #[b.v,.slice (some (nb w8)) 1 1]) w9=.ok (ad.v) q/\kept [c,g,b5] w9 q/\fO c d e f k g l m o p ad t7 t8 (aC .i64 (j+1)) q R) (loc [c,g] w λag=>R (aJ (.agg #[.i d,.int .u8 e,.int .u8 f,b.v])) ag)),fO c d e f k g l m o p b t7 t8 j w R:=mp (dV (X:=X) [fI] (bV [0,1,1,1,2]) P0)
def dQ (b c d:Int) (a:Sl) (w:aA) (R:aT) (h:cB [] w λe g=>
 cB [e] g λf j=>
 fO e b c d a f 0 0 0 ⟨none,0,0⟩ ⟨none,0,0⟩ a ((a.n:Nat):Int) 0 j R):aH aB om #[.agg #[.i b,.int .u8 c,.int .u8 d,a.v]] w R:=aZ X [fI] h
end regex_clone
namespace regex_limited
abbrev X:Fx:=⟨aB,Tryz.f147,[],[1,2]⟩
def dQ (a b c:Int) (d:Sl) (w:aA) (R:aT) (h:cB [] w λe p=>
 cB [e] p λf q=>
 lO [e,f] kL #[.agg #[.i a,.int .u8 b,.int .u8 c,d.v]] q λo n=>aW o (loc [e,f] n λr=>R (aJ (.tuple #[.agg #[.i 0,.int .u8 0,.int .u8 0,.slice none 0 0],.i 4])) r) (xK [e,f] om #[.agg #[.i a,.int .u8 b,.int .u8 c,d.v]] n λg j k l s=>loc [e,f] s λm=>R (aJ (.tuple #[.agg #[.i g,.int .u8 j,.int .u8 k,l.v],.i 0])) m)):aH aB qG #[.agg #[.i a,.int .u8 b,.int .u8 c,d.v]] w R:=aZ X [] h
end regex_limited
namespace regex_flat_1
abbrev X:Fx:=⟨aB,Tryz.f185,[],[2]⟩
def dQ (a b c:Int) (d:Sl) (k:Addr) (w:aA) (R:aT) (h:cB [] w λm l=>
 cV l k λe f g j=>lO [m] fE #[.agg #[.i a,.int .u8 b,.int .u8 c,d.v],.agg #[.i e,.int .u8 f,.int .u8 g,j.v]] l λn o=>R (aJ (.bool n)) o):aH aB hC #[.agg #[.i a,.int .u8 b,.int .u8 c,d.v],.pointer (some k)] w R:=aZ X [] h
end regex_flat_1
namespace slices_IndexFunc_sl_regex_Regex_regex_Regex
abbrev X:Fx:=⟨aB,Tryz.f186,[],[]⟩
abbrev P0:Ps:=[(0,.v [.s]),(1,.v [.f]),(7,.v [.I]),(8,.v [.I])]
def L0 (b:Sl) (a:Fv) (c d:Int) (w:aA) (R:aT):Prop:=dD P0 0 (X.Sem (bV [0,1,1,1,1])) b a c d w R
def fI:=gI X (bV [0,1,1,1,1]) P0 L0
def dE:∀(d:Sl) (c:Fv) (m b:Int) (w:aA) (R:aT) (h:aW (aR (b<m)) (bY d b λe=>cV w (e.add (aF b *4)) λf g j k=>iW (gq aB c.n) (aH aB c.n (c.bs++#[.agg #[.i f,.int .u8 g,.int .u8 j,k.v]]++c.cs) w λp o=>∃l:Bool,p=aJ (.bool l)/\
 aW l (R (aJ (.i b)) o) (L0 d c m (aC .i64 (b+1)) o R))) (R (aJ (.i (-1))) w)),L0 d c m b w R:=mp (dV (X:=X) [fI] (bV [0,1,1,1,1]) P0)
def ok (a:Sl) (b:Fv) (w:aA) (R:aT) (h:L0 a b ((a.n:Nat):Int) 0 w R):aH aB dG #[a.v,b.v] w R:=aZ X [fI] h
end slices_IndexFunc_sl_regex_Regex_regex_Regex
namespace slices_ContainsFunc_sl_regex_Regex_regex_Regex
abbrev X:Fx:=⟨aB,Tryz.f170,[],[]⟩
def ok (b:Sl) (a:Fv) (w:aA) (R:aT) (h:Dv dG #[b.v,a.v] w λc d=>R (aJ (.bool (aR (c>=0)))) d):aH aB dY #[b.v,a.v] w R:=aZ X [] h
end slices_ContainsFunc_sl_regex_Regex_regex_Regex
namespace slices_DeleteFunc_sl_regex_Regex_regex_Regex
abbrev X:Fx:=⟨aB,Tryz.f184,[],[7]⟩
abbrev P0:Ps:=[(0,.v [.s]),(1,.v [.g hC 0 1,.r]),(5,.v [.I]),(6,.v [.I])]
def fO (d:Sl) (a:Addr) (b c:Int) (w:aA) (R:aT):Prop:=dD P0 0 (X.Sem (bV [0,1,1,1,3])) d a b c w R
def fI:=gI X (bV [0,1,1,1,3]) P0 fO
abbrev gW (d:Sl) (a:Addr) (b c:Int) (w:aA) (R:aT):Prop:=
 fO d a b (aC .i64 (c+1)) w R
def gN:=bX X [fI] (bV [2,2,1,1,3]) P0 gW
def bT:∀(b:Sl) (e:Addr) (d g:Int) (w:aA) (R:aT) (h:aW (aR (g<((b.n:Nat):Int))) (bY b g λq=>cV w (q.add (aF g *4)) λj k l m=>cB [] w λo z=>
 loc [o] z λw6=>lO [o] hC #[.agg #[.i j,.int .u8 k,.int .u8 l,m.v],.pointer (some e)] w6 λy t=>aW (!y) (bY b d λf=>cY t (f.add (aF d *4)) (.i j) λu=>kept [o] t u/\
 cY u ((f.add (aF d *4)).add 1) (.int .u8 k) λx=>kept [o] u x/\
 cY x ((f.add (aF d *4)).add 2) (.int .u8 l) λp=>kept [o] x p/\
 cY p ((f.add (aF d *4)).add 3) (m.v) λr=>kept [o] p r/\
 gW b e (aC .i64 (d+1)) g r R) (gW b e d g t R)) ((0:Int)<=d/\d<=((b.n:Nat):Int)/\∃(s:aA),Sem.run aB (Builtin.clear_ #[aU] OK #[.slice (if b.c=(aF d) then b.a else b.a.map (·.add ((aF d) *4))) (b.n - (aF d)) (b.c - (aF d))]) w=.ok (.tuple #[]) s/\(0:Int)<=d/\d<=((b.c:Nat):Int)/\R (aJ (.slice (if b.c=0 then b.a else b.a.map (·.add (0 *4))) ((aF d) - 0) (b.c - 0))) s)),fO b e d g w R:=mp (dV (X:=X) [gN,fI] (bV [0,1,1,1,3]) P0)
def dQ (c:Sl) (a:Addr) (w:aA) (R:aT) (h:Dv dG #[c.v,.func (.func hC) #[] #[.pointer (some a)]] w λb d=>aW (b==(-1)) (R (aJ (c.v)) d) (fO c a b (aC .i64 (b+1)) d R)):aH aB eH #[c.v,.func (.func hC) #[] #[.pointer (some a)]] w R:=aZ X [gN,fI] h
end slices_DeleteFunc_sl_regex_Regex_regex_Regex
namespace slices_CompactFunc_sl_regex_Regex_regex_Regex
abbrev X:Fx:=⟨aB,Tryz.f175,[(6,ls [0,1,2,3,4,5,6,7,8,9,10]),(11,ls [0,1,2,3,4,5,6,7,8,9,10,11])],[]⟩
abbrev P0:Ps:=[(0,.v [.s]),(1,.v [.g fE 0 0]),(5,.v [.I])]
def L0 (b:Sl) (a:Int) (w:aA) (R:aT):Prop:=dD P0 0 (X.Sem (bV [0,1,1,1,2])) b a w R
def fI:=gI X (bV [0,1,1,1,2]) P0 L0
abbrev P1:Ps:=[(0,.v [.s]),(1,.v [.g fE 0 0]),(5,.v [.I]),(6,.v [.s]),(7,.v [.I])]
def L2 (d:Sl) (c:Int) (b:Sl) (a:Int) (w:aA) (R:aT):Prop:=dD P1 0 (X.Sem (bV [0,1,1,1,1,1,1,2,1,2,1,1,2])) d c b a w R
def Ea:=gI X (bV [0,1,1,1,1,1,1,2,1,2,1,1,2]) P1 L2
abbrev S3 (d:Sl) (c:Int) (b:Sl) (a:Int) (w:aA) (R:aT):Prop:=
 L2 d c b (aC .i64 (a+1)) w R
def iG:=bX X [Ea,fI] (bV [2,2,1,1,1,1,1,2,1,2,1,1,2]) P1 S3
def xP:∀(d:Sl) (f:Int) (e:Sl) (b:Int) (w:aA) (R:aT) (h:aW (aR (b<((e.n:Nat):Int))) (wy w λw1=>bY e b λg=>cV w1 (g.add (aF b *4)) λj k l m=>bY e (aC .i64 (b - 1)) λo=>cV w1 (o.add (aF (aC .i64 (b - 1)) *4)) λp q r s=>Dj fE #[.agg #[.i j,.int .u8 k,.int .u8 l,m.v],.agg #[.i p,.int .u8 q,.int .u8 r,s.v]] w1 λad w2=>aW (!ad) (bY e b λt=>cV w2 (t.add (aF b *4)) λu x y z=>bY d f λaa=>sR w2 (aa.add (aF f *4)) (.i u) (.int .u8 x) (.int .u8 y) (z.v) λw6=>S3 d (aC .i64 (f+1)) e b w6 R) (S3 d f e b w2 R)) ((0:Int)<=f/\f<=((d.n:Nat):Int)/\∃(w7:aA),Sem.run aB (Builtin.clear_ #[aU] OK #[.slice (if d.c=(aF f) then d.a else d.a.map (·.add ((aF f) *4))) (d.n - (aF f)) (d.c - (aF f))]) w=.ok (.tuple #[]) w7/\(0:Int)<=f/\f<=((d.c:Nat):Int)/\R (aJ (.slice (if d.c=0 then d.a else d.a.map (·.add (0 *4))) ((aF f) - 0) (d.c - 0))) w7)),L2 d f e b w R:=mp (dV (X:=X) [iG,Ea,fI] (bV [0,1,1,1,1,1,1,2,1,2,1,1,2]) P1)
abbrev P2:Ps:=[(0,.v [.s]),(1,.v [.g fE 0 0]),(5,.v [.I]),(6,.v [.s])]
abbrev S1 (c:Sl) (b:Int) (a:Sl) (w:aA) (R:aT):Prop:=
 L2 c b a 1 w R
def gN:=bX X [iG,Ea,fI] (bV [1,1,1,2,1,2,1,1,2]) P2 S1
def dE:∀(d:Sl) (b:Int) (w:aA) (R:aT) (h:aW (aR (b<((d.n:Nat):Int))) (wy w λr=>bY d b λe=>cV r (e.add (aF b *4)) λf g j k=>bY d (aC .i64 (b - 1)) λl=>cV r (l.add (aF (aC .i64 (b - 1)) *4)) λm o p q=>Dj fE #[.agg #[.i f,.int .u8 g,.int .u8 j,k.v],.agg #[.i m,.int .u8 o,.int .u8 p,q.v]] r λs t=>aW s ((0:Int)<=b/\b<=((d.n:Nat):Int)/\S1 d b ⟨(if d.c=(aF b) then d.a else d.a.map (·.add ((aF b) *4))),(d.n - (aF b)),(d.c - (aF b))⟩ t R) (L0 d (aC .i64 (b+1)) t R)) (R (aJ (d.v)) w)),L0 d b w R:=mp (dV (X:=X) [gN,iG,Ea,fI] (bV [0,1,1,1,2]) P0)
def ok (a:Sl) (w:aA) (R:aT) (h:aW (aR (((a.n:Nat):Int)<2)) (R (aJ (a.v)) w) (L0 a 1 w R)):aH aB eD #[a.v,.func (.func fE) #[] #[]] w R:=aZ X [gN,iG,Ea,fI] h
end slices_CompactFunc_sl_regex_Regex_regex_Regex
namespace regex_flat
abbrev X:Fx:=⟨aB,Tryz.f169,[],[2,7]⟩
abbrev P0:Ps:=[(2,.l [.I,.Y,.Y,.s] aL),(3,.v [.r]),(5,.v [.s]),(9,.v [.s]),(10,.v [.I]),(11,.v [.I])]
def fO (j:Nat) (b c d:Int) (e:Sl) (a:Addr) (i k:Sl) (f g:Int) (w:aA) (R:aT):Prop:=dD P0 0 (X.Sem (bV [0,1,1,1,2])) j b c d e a i k f g w R
def fI:=gI X (bV [0,1,1,1,2]) P0 fO
abbrev gW (j:Nat) (b c d:Int) (e:Sl) (a:Addr) (i k:Sl) (f g:Int) (w:aA) (R:aT):Prop:=
 fO j b c d e a i k f (aC .i64 (g+1)) w R
def gN:=bX X [fI] (bV [3,2,1,1,2]) P0 gW
def bT:∀(d:Nat) (e f g:Int) (j:Sl) (b:Addr) (s o:Sl) (k c:Int) (w:aA) (R:aT) (h:aW (aR (c<k)) (bY o c λt=>cV w (t.add (aF c *4)) λl u x m=>cB [d] w λr w3=>
 aW (l==e) (loc [d,r] w3 λq=>∃(y:Sl) (w8:aA),Sem.run aB (Builtin.append_ #[aU,aU] aU #[s.v,m.v]) q=.ok (y.v) w8/\kept [d,r] q w8/\gW d e f g j b y o k c w8 R) (loc [d,r] w3 λq=>gi q (.cells #[.i l,.int .u8 u,.int .u8 x,m.v] aL) λw9=>
 ∃(z:Sl) (p:aA),Sem.run aB (Builtin.append_ #[aU,aU] aU #[s.v,.slice (some (nb q)) 1 1]) w9=.ok (z.v) p/\kept [d,r] w9 p/\gW d e f g j b z o k c p R)) (TK [d] eH #[s.v,.func (.func hC) #[] #[.pointer (some b)]] w λab ac=>R (aJ (ab.v)) ac)),fO d e f g j b s o k c w R:=mp (dV (X:=X) [gN,fI] (bV [0,1,1,1,2]) P0)
def dQ (f g j:Int) (e:Sl) (a b c:Int) (d:Sl) (w:aA) (R:aT) (h:cB [] w λl k=>
 gi k (.cells #[.i a,.int .u8 b,.int .u8 c,d.v] aL) λm=>
 fO l f g j e (nb k) ⟨none,0,0⟩ e ((e.n:Nat):Int) 0 m R):aH aB tU #[.agg #[.i f,.int .u8 g,.int .u8 j,e.v],.agg #[.i a,.int .u8 b,.int .u8 c,d.v]] w R:=aZ X [gN,fI] h
end regex_flat
namespace regex_forms_1
abbrev X:Fx:=⟨aB,Tryz.f166,[],[1,2]⟩
def dQ (a b c:Int) (d:Sl) (w:aA) (R:aT) (h:cB [] w λe g=>
 cB [e] g λf j=>
 loc [e,f] j λk=>R (aJ (.agg #[.i a,.int .u8 b,.int .u8 c,d.v])) k):aH aB lQ #[.agg #[.i a,.int .u8 b,.int .u8 c,d.v]] w R:=aZ X [] h
end regex_forms_1
namespace regex_forms_2
abbrev X:Fx:=⟨aB,Tryz.f167,[],[]⟩
def ok (a b c:Int) (d:Sl) (e f g:Int) (j:Sl) (w:aA) (R:aT) (h:gi w (.cells #[.i a,.int .u8 b,.int .u8 c,d.v] aL) λk=>
 gi k (.cells #[.i e,.int .u8 f,.int .u8 g,j.v] aL) λl=>
 R (aJ (.func (.func jV) #[] #[.pointer (some (nb w)),.pointer (some (nb k))])) l):aH aB oy #[.agg #[.i a,.int .u8 b,.int .u8 c,d.v],.agg #[.i e,.int .u8 f,.int .u8 g,j.v]] w R:=aZ X [] h
end regex_forms_2
namespace regex_forms_2_1
abbrev X:Fx:=⟨aB,Tryz.f168,[],[3,4]⟩
abbrev P0:Ps:=[(1,.v [.r]),(3,.l [.I,.Y,.Y,.s] aL),(4,.l [.I,.Y,.Y,.s] aL),(5,.v [.s])]
abbrev eX (x:Addr) (o:Nat) (p s t:Int) (u:Sl) (q:Nat) (y z aa:Int) (ab b:Sl) (w:aA) (R:aT):Prop:=
 aW (((b.n:Nat):Int)==0) (cV w x λc d e f=>loc [o,q] w λw4=>R (aJ (.agg #[.i c,.int .u8 d,.int .u8 e,f.v])) w4) (aW (((b.n:Nat):Int)==1) (bY b 0 λg=>cV w (g.add (aF 0 *4)) λj k l m=>loc [o,q] w λw8=>R (aJ (.agg #[.i j,.int .u8 k,.int .u8 l,m.v])) w8) (loc [o,q] w λr=>R (aJ (.agg #[.i p,.int .u8 0,.int .u8 0,b.v])) r))
def fH:=bX X [] (bV [4]) P0 eX
def dQ (a b c:Int) (d:Sl) (g p:Addr) (w:aA) (R:aT) (h:cB [] w λe w1=>
 cB [e] w1 λf z=>
 cV z g λq r s t=>TK [e,f] tU #[.agg #[.i a,.int .u8 b,.int .u8 c,d.v],.agg #[.i q,.int .u8 r,.int .u8 s,t.v]] z λn w3=>lO [e,f] dY #[n.v,.func (.func kp) #[] #[.pointer (some p)]] w3 λu o=>aW u (cV o p λj k l m=>loc [e,f] o λw8=>R (aJ (.agg #[.i j,.int .u8 k,.int .u8 l,m.v])) w8) (aW (a !=3) (Qc [e,f] eQ #[n.v,.func (.func bK) #[] #[]] o λw9=>TK [e,f] eD #[n.v,.func (.func fE) #[] #[]] w9 λx y=>eX g e a b c d f 0 0 0 ⟨none,0,0⟩ x y R) (eX g e a b c d f 0 0 0 ⟨none,0,0⟩ n o R))):aH aB jV #[.agg #[.i a,.int .u8 b,.int .u8 c,d.v],.pointer (some g),.pointer (some p)] w R:=aZ X [fH] h
end regex_forms_2_1
namespace regex_forms_2_1_1
abbrev X:Fx:=⟨aB,Tryz.f171,[],[2]⟩
def dQ (a b c:Int) (d:Sl) (k:Addr) (w:aA) (R:aT) (h:cB [] w λm l=>
 cV l k λe f g j=>lO [m] fE #[.agg #[.i a,.int .u8 b,.int .u8 c,d.v],.agg #[.i e,.int .u8 f,.int .u8 g,j.v]] l λn o=>R (aJ (.bool n)) o):aH aB kp #[.agg #[.i a,.int .u8 b,.int .u8 c,d.v],.pointer (some k)] w R:=aZ X [] h
end regex_forms_2_1_1
namespace regex_forms_3
abbrev X:Fx:=⟨aB,Tryz.f176,[],[1,2]⟩
def dQ (c d e:Int) (b:Sl) (w:aA) (R:aT) (h:cB [] w λq x=>
 cB [q] x λs g=>
 bY b 0 λr=>∃t:Int,g.cell? ((r.add (aF 0 *4)).add 0)=some (.i t)/\
 aW (t==6) (bY b 0 λj=>∃f:Sl,g.cell? ((j.add (aF 0 *4)).add 3)=some (f.v)/\
 bY f 0 λk=>cV g (k.add (aF 0 *4)) λl m o p=>loc [q,s] g λy=>R (aJ (.agg #[.i l,.int .u8 m,.int .u8 o,p.v])) y) (loc [q,s] g λu=>R (aJ (.agg #[.i c,.int .u8 d,.int .u8 e,b.v])) u)):aH aB jP #[.agg #[.i c,.int .u8 d,.int .u8 e,b.v]] w R:=aZ X [] h
end regex_forms_3
namespace regex_forms_4
abbrev X:Fx:=⟨aB,Tryz.f177,[],[3,4,5]⟩
abbrev P0:Ps:=[(1,.v [.r]),(4,.l [.I,.Y,.Y,.s] aL)]
abbrev eX (e:Addr) (f:Nat) (g j k:Int) (l:Sl) (w:aA) (R:aT):Prop:=
 cV w e λa b c d=>loc [f] w λm=>R (aJ (.agg #[.i a,.int .u8 b,.int .u8 c,d.v])) m
def fH:=bX X [] (bV [0,1,1,1,2]) P0 eX
abbrev P1:Ps:=[(4,.l [.I,.Y,.Y,.s] aL),(5,.l [.I,.Y,.Y,.s] aL)]
abbrev gW (f:Nat) (g j k:Int) (l:Sl) (e:Nat) (a b c:Int) (d:Sl) (w:aA) (R:aT):Prop:=
 loc [f,e] w λm=>R (aJ (.agg #[.i a,.int .u8 b,.int .u8 c,d.v])) m
def gN:=bX X [fH] (bV [0,1,1,1,3]) P1 gW
def dQ (m o p:Int) (d:Sl) (x z:Addr) (w:aA) (R:aT) (h:cB [] w λe w1=>
 cB [e] w1 λc w2=>
 bY d 0 λy=>cV w2 (y.add (aF 0 *4)) λb j k l=>cB [e,c] w2 λf u=>
 aW (b==0) (loc [e,c,f] u λg=>eX x c 0 0 0 ⟨none,0,0⟩ g R) (aW (b==1) (loc [e,c,f] u λg=>eX x c 0 0 0 ⟨none,0,0⟩ g R) (aW (b==7) (loc [e,c,f] u λg=>gW c 0 0 0 ⟨none,0,0⟩ f b j k l g R) (loc [e,c,f] u λg=>cV g z λq r s t=>lO [e,c,f] fE #[.agg #[.i b,.int .u8 j,.int .u8 k,l.v],.agg #[.i q,.int .u8 r,.int .u8 s,t.v]] g λaa w8=>aW aa (gW c 0 0 0 ⟨none,0,0⟩ f b j k l w8 R) (loc [e,c,f] w8 λab=>R (aJ (.agg #[.i m,.int .u8 o,.int .u8 p,d.v])) ab))))):aH aB jQ #[.agg #[.i m,.int .u8 o,.int .u8 p,d.v],.pointer (some x),.pointer (some z)] w R:=aZ X [gN,fH] h
end regex_forms_4
namespace regex_normal
abbrev X:Fx:=⟨aB,Tryz.f148,[(5,ls [0,1,2,3,4,5,6,7,8])],[]⟩
abbrev P0:Ps:=[(0,.v [.m]),(3,.v [.r]),(4,.v [.r]),(5,.v [.r]),(16,.v [.s]),(17,.v [.I]),(18,.v [.I])]
def L0 (d:Option Nat) (f g e:Addr) (a:Sl) (b c:Int) (w:aA) (R:aT):Prop:=dD P0 0 (X.Sem (bV [0,1,1,1,2])) d f g e a b c w R
def fI:=gI X (bV [0,1,1,1,2]) P0 L0
def dE:∀(q:Option Nat) (r3 t4 d:Addr) (e:Sl) (m c:Int) (w:aA) (R:aT) (h:aW (aR (c<m)) (bY e c λr=>cV w (r.add (aF c *4)) λs t u x=>gi w (.cells #[.i 0,.int .u8 0,.int .u8 0,.slice none 0 0] aL) λw8=>
 sR w8 (nb w) (.i s) (.int .u8 t) (.int .u8 u) (x.v) λax=>wy ax λo=>∃f:Sl,o.cell? (d.add 3)=some (f.v)/\
 cV o (nb w) λy z aa ab=>PZ mV #[.map q,.agg #[.i y,.int .u8 z,.int .u8 aa,ab.v]] o λac ad ae af p=>p.cell? (d.add 3)=some (f.v)/\gi p (.cells #[.i ac,.int .u8 ad,.int .u8 ae,af.v] aL) λan=>
 an.cell? (d.add 3)=some (f.v)/\∃(al:Sl) (ao:aA),Sem.run aB (Builtin.append_ #[aU,aU] aU #[f.v,.slice (some (nb p)) 1 1]) an=.ok (al.v) ao/\cY ao (d.add 3) (al.v) λay=>
 L0 q r3 t4 d e m (aC .i64 (c+1)) ay R) (∃am:Int,w.cell? (r3.add 0)=some (.i am)/\
 ∃b:Fv,Sem.run aB (Instr.lookup bG (.map q) (.i am) false) w=.ok (b.v) w/\cV w d λag ah ai aj=>iW (gq aB b.n) (aH aB b.n (b.bs++#[.agg #[.i ag,.int .u8 ah,.int .u8 ai,aj.v]]++b.cs) w λr_ az=>∃g:Int,∃j:Int,∃k:Int,∃l:Sl,r_=aJ (.agg #[.i g,.int .u8 j,.int .u8 k,l.v])/\
 sR az t4 (.i g) (.int .u8 j) (.int .u8 k) (l.v) λap=>cV ap t4 λar au av aw=>R (aJ (.agg #[.i ar,.int .u8 au,.int .u8 av,aw.v])) ap))),L0 q r3 t4 d e m c w R:=mp (dV (X:=X) [fI] (bV [0,1,1,1,2]) P0)
def ok (k:Option Nat) (b c d:Int) (e:Sl) (w:aA) (R:aT) (h:gi w (.cells #[.i b,.int .u8 c,.int .u8 d,e.v] aL) λm=>
 gi m (.cells #[.i 0,.int .u8 0,.int .u8 0,.slice none 0 0] aL) λa=>
 ∃l:Int,a.cell? ((nb w).add 0)=some (.i l)/\
 ∃g:Int,a.cell? ((nb w).add 1)=some (.int .u8 g)/\
 ∃j:Int,a.cell? ((nb w).add 2)=some (.int .u8 j)/\
 gi a (.cells #[.i 0,.int .u8 0,.int .u8 0,.slice none 0 0] aL) λp=>
 sR p (nb a) (.i l) (.int .u8 g) (.int .u8 j) (.slice none 0 0) λo=>∃f:Sl,o.cell? ((nb w).add 3)=some (f.v)/\
 L0 k (nb w) (nb m) (nb a) f ((f.n:Nat):Int) 0 o R):aH aB mV #[.map k,.agg #[.i b,.int .u8 c,.int .u8 d,e.v]] w R:=aZ X [fI] h
end regex_normal
namespace regex_forms
def C0:Code:=(Tryz.f149.body).getD .skip
def C1:=C0.sn
def C2:=C1.sn
def C3:=C2.sn
def C4:=C3.sn
def C5:=C4.sn
def C6:=C5.sn
def ok (w:aA) (R:aT) (h:gi w (.cells #[.i 0,.int .u8 0,.int .u8 0,.slice none 0 0] aL) λe=>
 gi e (.cells #[.i 0,.int .u8 0,.int .u8 0,.slice none 0 0] aL) λp=>
 sR p (nb w) (.i 0) (.int .u8 0) (.int .u8 0) (.slice none 0 0) λq=>cY q (nb e) (.i 1) λr=>
 cY r ((nb e).add 1) (.int .u8 0) λs=>
 cY s ((nb e).add 2) (.int .u8 0) λt=>
 cY t ((nb e).add 3) (.slice none 0 0) λd=>
 cV d (nb w) λf g j k=>gi d (.cells #[.i f,.int .u8 g,.int .u8 j,k.v] aL) λl=>
 gi l (.cells #[.i 0,.int .u8 0,.int .u8 0,.slice none 0 0] aL) λm=>
 sR m (nb l) (.i 6) (.int .u8 0) (.int .u8 0) (.slice (some (nb d)) 1 1) λn=>Zo aB C5 (λE w=>pB aB Tryz.f149 E w (λv=>R (aJ v) w)) [(5,.func (.func oy) #[] #[]),(4,.func (.func lQ) #[] #[]),(3,.pointer (some (nb l))),(10,.agg #[.i 6,.int .u8 0,.int .u8 0,.slice (some (nb d)) 1 1]),(9,.slice (some (nb d)) 1 1),(8,.agg #[.i f,.int .u8 g,.int .u8 j,k.v]),(2,.pointer (some (nb e))),(1,.pointer (some (nb w))),(7,.agg #[.i 1,.int .u8 0,.int .u8 0,.slice none 0 0]),(6,.agg #[.i 0,.int .u8 0,.int .u8 0,.slice none 0 0]),(0,.map none)] n):aH aB sM #[] w R:=
 jR (R:=R) (fn:=Tryz.f149) (c:=C0) (args:=[]) (by kernel_rfl) (by kernel_rfl) (by kernel_rfl) (sr C0 (show (λ(E:Env) (w:aA)=>ue aB C0 (λE w=>ue aB C1 (λE w=>ue aB C2 (λE w=>ue aB C3 (λE w=>ue aB C4 (λE w=>Zo aB C5 (λE w=>pB aB Tryz.f149 E w (λv=>R (aJ v) w)) E w) E w) E w) E w) E w) E w) (qN 0 []) w from mp h) λ_ _ b=>(sr C1 b λ_ _ b=>(sr C2 b λ_ _ b=>(sr C3 b λ_ _ b=>(sr C4 b λ_ _ b=>(si C5 (by kernel_rfl) b λ_ _ b=>(rt C6 λa o=>iM o b)))))))
end regex_forms
namespace math_bits_Len64
abbrev X:Fx:=⟨aB,Tryz.f124,[],[]⟩
abbrev P0:Ps:=[(0,.v [.U]),(2,.v [.I])]
abbrev S2 (b c:Int) (w:aA) (R:aT):Prop:=
 (0:Int)<=(aC .u8 b)/\∃a:UInt8,(aE #[0,1,2,2,3,3,3,3,4,4,4,4,4,4,4,4,5,5,5,5,5,5,5,5,5,5,5,5,5,5,5,5,6,6,6,6,6,6,6,6,6,6,6,6,6,6,6,6,6,6,6,6,6,6,6,6,6,6,6,6,6,6,6,6,7,7,7,7,7,7,7,7,7,7,7,7,7,7,7,7,7,7,7,7,7,7,7,7,7,7,7,7,7,7,7,7,7,7,7,7,7,7,7,7,7,7,7,7,7,7,7,7,7,7,7,7,7,7,7,7,7,7,7,7,7,7,7,7,8,8,8,8,8,8,8,8,8,8,8,8,8,8,8,8,8,8,8,8,8,8,8,8,8,8,8,8,8,8,8,8,8,8,8,8,8,8,8,8,8,8,8,8,8,8,8,8,8,8,8,8,8,8,8,8,8,8,8,8,8,8,8,8,8,8,8,8,8,8,8,8,8,8,8,8,8,8,8,8,8,8,8,8,8,8,8,8,8,8,8,8,8,8,8,8,8,8,8,8,8,8,8,8,8,8,8,8,8,8,8,8,8,8,8,8,8,8,8,8,8,8,8,8,8,8,8,8])[aF (aC .u8 b)]? =some a/\R (aJ (.i (aC .i64 (c+(aC .i64 ((a.toNat:Nat):Int)))))) w
def fU:=bX X [] (bV [4]) P0 S2
abbrev S1 (a b:Int) (w:aA) (R:aT):Prop:=
 aW (aR (a>=256)) (S2 (Int.fdiv a (2^(8))) (aC .i64 (b+8)) w R) (S2 a b w R)
def gN:=bX X [fU] (bV [3]) P0 S1
abbrev S0 (a b:Int) (w:aA) (R:aT):Prop:=
 aW (aR (a>=65536)) (S1 (Int.fdiv a (2^(16))) (aC .i64 (b+16)) w R) (S1 a b w R)
def fH:=bX X [gN,fU] (bV [2]) P0 S0
def ok (a:Int) (w:aA) (R:aT) (h:aW (aR (a>=4294967296)) (S0 (Int.fdiv a (2^(32))) 32 w R) (S0 a 0 w R)):aH aB sm #[.u a] w R:=aZ X [fH,gN,fU] h
end math_bits_Len64
namespace math_bits_Len
abbrev X:Fx:=⟨aB,Tryz.f188,[],[]⟩
def ok (a:Int) (w:aA) (R:aT) (h:Dv sm #[.u a] w λb c=>R (aJ (.i b)) c):aH aB qF #[.u a] w R:=aZ X [] h
end math_bits_Len
namespace slices_insertionSortCmpFunc_regex_Regex
abbrev X:Fx:=⟨aB,Tryz.f197,[(4,ls [0,1,2,3,4,5,6,7,8,9,10,11,12,13,14,15,16]),(6,ls [0,1,2,3,4,5,6,7,8,9,10,11,12,13,14,15,16,17])],[]⟩
abbrev P0:Ps:=[(0,.v [.s]),(1,.v [.I]),(2,.v [.I]),(3,.v [.g bK 0 0]),(8,.v [.I])]
def L0 (a:Sl) (b c d:Int) (w:aA) (R:aT):Prop:=dD P0 0 (X.Sem (bV [0,1,1])) a b c d w R
def fI:=gI X (bV [0,1,1]) P0 L0
abbrev P1:Ps:=[(0,.v [.s]),(1,.v [.I]),(2,.v [.I]),(3,.v [.g bK 0 0]),(8,.v [.I]),(9,.v [.I])]
def L1 (a:Sl) (b c d e:Int) (w:aA) (R:aT):Prop:=dD P1 0 (X.Sem (bV [0,1,1,2,1,2,1])) a b c d e w R
def kA:=gI X (bV [0,1,1,2,1,2,1]) P1 L1
abbrev S2 (a:Sl) (b c d:Int) (w:aA) (R:aT):Prop:=
 L0 a b c (aC .i64 (d+1)) w R
def fU:=bX X [kA,fI] (bV [2,2,1]) P0 S2
def nk:∀(b:Sl) (d e f c:Int) (w:aA) (R:aT) (h:wy w λw1=>aW (aR (c>d)) (bY b c λg=>cV w1 (g.add (aF c *4)) λj k l m=>bY b (aC .i64 (c - 1)) λo=>cV w1 (o.add (aF (aC .i64 (c - 1)) *4)) λp q r s=>Dv bK #[.agg #[.i j,.int .u8 k,.int .u8 l,m.v],.agg #[.i p,.int .u8 q,.int .u8 r,s.v]] w1 λaj w2=>aW (aR (aj<0)) (wy w2 λw3=>bY b (aC .i64 (c - 1)) λt=>cV w3 (t.add (aF (aC .i64 (c - 1)) *4)) λu x y z=>bY b c λaa=>cV w3 (aa.add (aF c *4)) λab ac ad ae=>bY b c λaf=>sR w3 (af.add (aF c *4)) (.i u) (.int .u8 x) (.int .u8 y) (z.v) λw7=>bY b (aC .i64 (c - 1)) λag=>sR w7 (ag.add (aF (aC .i64 (c - 1)) *4)) (.i ab) (.int .u8 ac) (.int .u8 ad) (ae.v) λak=>L1 b d e f (aC .i64 (c - 1)) ak R) (S2 b d e f w2 R)) (S2 b d e f w1 R)),L1 b d e f c w R:=mp (dV (X:=X) [fU,kA,fI] (bV [0,1,1,2,1,2,1]) P1)
def dE:∀(a:Sl) (d c b:Int) (w:aA) (R:aT) (h:aW (aR (b<c)) (L1 a d c b b w R) (R (aJ (.tuple #[])) w)),L0 a d c b w R:=mp (dV (X:=X) [fU,kA,fI] (bV [0,1,1]) P0)
def ok (a:Sl) (b c:Int) (w:aA) (R:aT) (h:L0 a b c (aC .i64 (b+1)) w R):aH aB e8 #[a.v,.i b,.i c,.func (.func bK) #[] #[]] w R:=aZ X [fU,kA,fI] h
end slices_insertionSortCmpFunc_regex_Regex
namespace slices_pdqsortCmpFunc_regex_Regex
abbrev X:Fx:=⟨aB,Tryz.f187,[(17,ls [0,1,2,3,4,5,6,7,8,9,10,11,12,13,14,15,16])],[]⟩
abbrev P0:Ps:=[(0,.v [.s]),(1,.v [.I]),(2,.v [.I]),(3,.v [.I]),(4,.v [.g bK 0 0]),(10,.v [.b]),(11,.v [.b])]
def L0 (d:Sl) (e f c:Int) (b a:Bool) (w:aA) (R:aT):Prop:=dD P0 0 (X.Sem (bV [0,1,2])) d e f c b a w R
def fI:=gI X (bV [0,1,2]) P0 L0
abbrev P1:Ps:=[(0,.v [.s]),(1,.v [.I]),(2,.v [.I]),(3,.v [.I]),(4,.v [.g bK 0 0]),(10,.v [.b]),(11,.v [.b]),(16,.v [.I])]
abbrev S9 (d:Sl) (f g c:Int) (b a:Bool) (e:Int) (w:aA) (R:aT):Prop:=
 vO eT #[d.v,.i f,.i e,.i c,.func (.func bK) #[] #[]] w λj=>L0 d (aC .i64 (e+1)) g c b a j R
def NA:=bX X [fI] (bV [1,1,13,3,2]) P1 S9
abbrev S10 (d:Sl) (f g c:Int) (b a:Bool) (e:Int) (w:aA) (R:aT):Prop:=
 vO eT #[d.v,.i (aC .i64 (e+1)),.i g,.i c,.func (.func bK) #[] #[]] w λj=>L0 d f e c b a j R
def Dy:=bX X [NA,fI] (bV [15,3,2]) P1 S10
abbrev P2:Ps:=[(0,.v [.s]),(1,.v [.I]),(2,.v [.I]),(3,.v [.I]),(4,.v [.g bK 0 0]),(11,.v [.b]),(16,.v [.I]),(18,.v [.I]),(19,.v [.I]),(20,.v [.I])]
abbrev S8 (f:Sl) (i j e:Int) (b:Bool) (g d c a:Int) (w:aA) (R:aT):Prop:=
 aW (aR (d<c)) (S9 f i j e (aR (d>=a)) b g w R) (S10 f i j e (aR (c>=a)) b g w R)
def BF:=bX X [Dy,NA,fI] (bV [12,3,2]) P2 S8
abbrev P3:Ps:=[(0,.v [.s]),(1,.v [.I]),(2,.v [.I]),(3,.v [.I]),(4,.v [.g bK 0 0]),(11,.v [.b]),(12,.v [.I]),(16,.v [.I]),(18,.v [.I]),(19,.v [.I])]
abbrev S7 (f:Sl) (i j e:Int) (a:Bool) (d g c b:Int) (w:aA) (R:aT):Prop:=
 S8 f i j e a g c b (aC .i64 (Int.tdiv d 8)) w R
def uC:=bX X [BF,Dy,NA,fI] (bV [11,3,2]) P3 S7
abbrev P4:Ps:=[(0,.v [.s]),(1,.v [.I]),(2,.v [.I]),(3,.v [.I]),(4,.v [.g bK 0 0]),(12,.v [.I]),(13,.v [.I])]
abbrev S6 (c:Sl) (g j e b d:Int) (w:aA) (R:aT):Prop:=
 ca6 nC #[c.v,.i g,.i j,.i d,.func (.func bK) #[] #[]] w λa f k=>S7 c g j e f b a (aC .i64 (a - g)) (aC .i64 (j - a)) k R
def sE:=bX X [uC,BF,Dy,NA,fI] (bV [8,3,2]) P4 S6
abbrev P5:Ps:=[(0,.v [.s]),(1,.v [.I]),(2,.v [.I]),(3,.v [.I]),(4,.v [.g bK 0 0]),(10,.v [.b]),(11,.v [.b]),(12,.v [.I]),(13,.v [.I])]
abbrev S5 (c:Sl) (j k g:Int) (e d:Bool) (f b:Int) (w:aA) (R:aT):Prop:=
 wy w λy=>aW (aR (j>0)) (bY c (aC .i64 (j - 1)) λl=>cV y (l.add (aF (aC .i64 (j - 1)) *4)) λm o p q=>bY c b λr=>cV y (r.add (aF b *4)) λs t u x=>Dv bK #[.agg #[.i m,.int .u8 o,.int .u8 p,q.v],.agg #[.i s,.int .u8 t,.int .u8 u,x.v]] y λaa w2=>aW (!(aR (aa<0))) (Dv lE #[c.v,.i j,.i k,.i b,.func (.func bK) #[] #[]] w2 λz w3=>L0 c z k g e d w3 R) (S6 c j k g f b w2 R)) (S6 c j k g f b y R)
def vQ:=bX X [sE,uC,BF,Dy,NA,fI] (bV [7,3,2]) P5 S5
abbrev P6:Ps:=[(0,.v [.s]),(1,.v [.I]),(2,.v [.I]),(3,.v [.I]),(4,.v [.g bK 0 0]),(10,.v [.b]),(11,.v [.b]),(12,.v [.I]),(13,.v [.I]),(14,.v [.I])]
abbrev S4 (e:Sl) (g j f:Int) (b a:Bool) (c d k:Int) (w:aA) (R:aT):Prop:=
 aW b (aW a (aW (k==1) (Dj jN #[e.v,.i g,.i j,.func (.func bK) #[] #[]] w λl m=>aW l (R (aJ (.tuple #[])) m) (S5 e g j f b a c d m R)) (S5 e g j f b a c d w R)) (S5 e g j f b a c d w R)) (S5 e g j f b a c d w R)
def ny:=bX X [vQ,sE,uC,BF,Dy,NA,fI] (bV [6,3,2]) P6 S4
abbrev S3 (f:Sl) (g i e:Int) (b a:Bool) (c d:Int) (w:aA) (R:aT):Prop:=
 S4 f g i e b a c d 1 w R
def iG:=bX X [ny,vQ,sE,uC,BF,Dy,NA,fI] (bV [2,1,1,1,5,3,2]) P5 S3
abbrev P7:Ps:=[(0,.v [.s]),(1,.v [.I]),(2,.v [.I]),(3,.v [.I]),(4,.v [.g bK 0 0]),(10,.v [.b]),(11,.v [.b]),(12,.v [.I])]
abbrev S2 (c:Sl) (j k e:Int) (b a:Bool) (d:Int) (w:aA) (R:aT):Prop:=
 ca5 mF #[c.v,.i j,.i k,.func (.func bK) #[] #[]] w λf g l=>aW (g==2) (vO l9 #[c.v,.i j,.i k,.func (.func bK) #[] #[]] l λm=>S3 c j k e b a d (aC .i64 ((aC .i64 (k - 1)) - (aC .i64 (f - j)))) m R) (S4 c j k e b a d f g l R)
def fU:=bX X [iG,ny,vQ,sE,uC,BF,Dy,NA,fI] (bV [4,3,2]) P7 S2
abbrev S1 (d:Sl) (f g e:Int) (a b:Bool) (c:Int) (w:aA) (R:aT):Prop:=
 aW (aR (c<=12)) (vO e8 #[d.v,.i f,.i g,.func (.func bK) #[] #[]] w λj=>R (aJ (.tuple #[])) j) (aW (e==0) (vO nW #[d.v,.i f,.i g,.func (.func bK) #[] #[]] w λk=>R (aJ (.tuple #[])) k) (aW (!a) (vO lS #[d.v,.i f,.i g,.func (.func bK) #[] #[]] w λl=>S2 d f g (aC .i64 (e - 1)) a b c l R) (S2 d f g e a b c w R)))
def gN:=bX X [fU,iG,ny,vQ,sE,uC,BF,Dy,NA,fI] (bV [1,3,2]) P7 S1
def dE:∀(d:Sl) (e f c:Int) (b a:Bool) (w:aA) (R:aT) (h:S1 d e f c b a (aC .i64 (f - e)) w R),L0 d e f c b a w R:=mp (dV (X:=X) [gN,fU,iG,ny,vQ,sE,uC,BF,Dy,NA,fI] (bV [0,1,2]) P0)
def ok (b:Sl) (c d a:Int) (w:aA) (R:aT) (h:L0 b c d a true true w R):aH aB eT #[b.v,.i c,.i d,.i a,.func (.func bK) #[] #[]] w R:=aZ X [gN,fU,iG,ny,vQ,sE,uC,BF,Dy,NA,fI] h
end slices_pdqsortCmpFunc_regex_Regex
namespace slices_SortFunc_sl_regex_Regex_regex_Regex
abbrev X:Fx:=⟨aB,Tryz.f173,[],[]⟩
def ok (a:Sl) (w:aA) (R:aT) (h:Dv qF #[.u (aC .u64 ((a.n:Nat):Int))] w λb c=>vO eT #[a.v,.i 0,.i ((a.n:Nat):Int),.i b,.func (.func bK) #[] #[]] c λd=>R (aJ (.tuple #[])) d):aH aB eQ #[a.v,.func (.func bK) #[] #[]] w R:=aZ X [] h
end slices_SortFunc_sl_regex_Regex_regex_Regex
namespace enthymemeref04_Compare
abbrev X:Fx:=⟨aB,Tryz.f100,[(6,ls [0,1,2,3,4,5,6,7,8]),(8,ls [0,1,2,3,4,5,6,7,8]),(13,ls [0,1,2,3,4,5,6,7,8,9,10,11])],[2,3]⟩
abbrev P0:Ps:=[(2,.l [.I,.Y,.Y,.s] aG),(3,.l [.I,.Y,.Y,.s] aG),(5,.v [.s]),(6,.v [.s]),(7,.v [.I])]
def fO (j:Nat) (a b c:Int) (d:Sl) (k:Nat) (e f g:Int) (i m n:Sl) (l:Int) (w:aA) (R:aT):Prop:=dD P0 0 (X.Sem (bV [0,1,1,1,3])) j a b c d k e f g i m n l w R
def fI:=gI X (bV [0,1,1,1,3]) P0 fO
abbrev P1:Ps:=[(2,.l [.I,.Y,.Y,.s] aG),(3,.l [.I,.Y,.Y,.s] aG),(8,.v [.I])]
def mC (j:Nat) (a b c:Int) (d:Sl) (k:Nat) (e f g:Int) (i:Sl) (l:Int) (w:aA) (R:aT):Prop:=dD P1 0 (X.Sem (bV [0,1,1,1,4])) j a b c d k e f g i l w R
def kA:=gI X (bV [0,1,1,1,4]) P1 mC
abbrev P2:Ps:=[(2,.l [.I,.Y,.Y,.s] aG),(3,.l [.I,.Y,.Y,.s] aG)]
abbrev fN (k:Nat) (c d e:Int) (a:Sl) (l:Nat) (f g j:Int) (b:Sl) (w:aA) (R:aT):Prop:=
 aW (aR (((a.n:Nat):Int)<((b.n:Nat):Int))) (R (aJ (.i (-1))) w) (aW (aR (((a.n:Nat):Int)>((b.n:Nat):Int))) (R (aJ (.i 1)) w) (R (aJ (.i 0)) w))
def fU:=bX X [kA,fI] (bV [5]) P2 fN
def dR:∀(m:Nat) (e f g:Int) (b:Sl) (o:Nat) (j k l:Int) (c:Sl) (d:Int) (w:aA) (R:aT) (h:aW (aR (d<((b.n:Nat):Int))) (aW (aR (d<((c.n:Nat):Int))) (bY b d λp=>loc [m,o] w λw7=>cV w7 (p.add (aF d *4)) λq r s t=>bY c d λu=>cV w7 (u.add (aF d *4)) λx y z aa=>qf [m,o] dF #[.agg #[.i q,.int .u8 r,.int .u8 s,t.v],.agg #[.i x,.int .u8 y,.int .u8 z,aa.v]] w7 λab w8=>aW (ab !=0) (R (aJ (.i ab)) w8) (mC m e f g b o j k l c (aC .i64 (d+1)) w8 R)) (fN m e f g b o j k l c w R)) (fN m e f g b o j k l c w R)),mC m e f g b o j k l c d w R:=mp (dV (X:=X) [fU,kA,fI] (bV [0,1,1,1,4]) P1)
def bT:∀(p:Nat) (c d e:Int) (f:Sl) (q:Nat) (g j k:Int) (l m o:Sl) (b:Int) (w:aA) (R:aT) (h:aW (aR (b<3)) (bY m b λr=>loc [p,q] w λv=>∃y:Int,v.cell? (r.add (aF b *1))=some (.i y)/\
 bY o b λs=>∃z:Int,v.cell? (s.add (aF b *1))=some (.i z)/\
 aW (aR (y<z)) (R (aJ (.i (-1))) v) (bY m b λt=>loc [p,q] v λx=>∃aa:Int,x.cell? (t.add (aF b *1))=some (.i aa)/\
 bY o b λu=>∃ab:Int,x.cell? (u.add (aF b *1))=some (.i ab)/\
 aW (aR (aa>ab)) (R (aJ (.i 1)) x) (fO p c d e f q g j k l m o (aC .i64 (b+1)) x R))) (mC p c d e f q g j k l 0 w R)),fO p c d e f q g j k l m o b w R:=mp (dV (X:=X) [fU,kA,fI] (bV [0,1,1,1,3]) P0)
def dQ (a b c:Int) (g:Sl) (d e f:Int) (j:Sl) (w:aA) (R:aT) (h:cB [] w λk o=>
 cB [k] o λn l=>
 gi l (.cells #[.i a,.i (aC .i64 b),.i (aC .i64 c)] cT) λm=>
 gi m (.cells #[.i d,.i (aC .i64 e),.i (aC .i64 f)] cT) λp=>
 fO k a b c g n d e f j ⟨some (nb l),3,3⟩ ⟨some (nb m),3,3⟩ 0 p R):aH aB dF #[.agg #[.i a,.int .u8 b,.int .u8 c,g.v],.agg #[.i d,.int .u8 e,.int .u8 f,j.v]] w R:=aZ X [fU,kA,fI] h
end enthymemeref04_Compare
namespace enthymemeref04_Nodes
abbrev X:Fx:=⟨aB,Tryz.f106,[],[1]⟩
abbrev P0:Ps:=[(1,.l [.I,.Y,.Y,.s] aG),(3,.v [.I]),(4,.v [.I])]
def fO (g:Nat) (a b c:Int) (d:Sl) (f e:Int) (w:aA) (R:aT):Prop:=dD P0 0 (X.Sem (bV [0,1,1,1,2])) g a b c d f e w R
def fI:=gI X (bV [0,1,1,1,2]) P0 fO
abbrev gW (g:Nat) (a b c:Int) (d:Sl) (f e:Int) (w:aA) (R:aT):Prop:=
 fO g a b c d f (aC .i64 (e+1)) w R
def gN:=bX X [fI] (bV [2,2,1,1,2]) P0 gW
def bT:∀(p:Nat) (d e f:Int) (b:Sl) (o c:Int) (w:aA) (R:aT) (h:aW (aR (c<((b.n:Nat):Int))) (bY b c λg=>cV w (g.add (aF c *4)) λj k l m=>qf [p] eY #[.agg #[.i j,.int .u8 k,.int .u8 l,m.v]] w λq r=>gW p d e f b (aC .i64 (o+q)) c r R) (R (aJ (.i o)) w)),fO p d e f b o c w R:=mp (dV (X:=X) [gN,fI] (bV [0,1,1,1,2]) P0)
def dQ (a b c:Int) (d:Sl) (w:aA) (R:aT) (h:cB [] w λe f=>
 fO e a b c d 1 0 f R):aH aB eY #[.agg #[.i a,.int .u8 b,.int .u8 c,d.v]] w R:=aZ X [gN,fI] h
end enthymemeref04_Nodes
namespace enthymemeref04_good
abbrev X:Fx:=⟨aB,Tryz.f132,[(3,ls [0,1,2,3,4,5,6,7,8,9,10,11,12,13,14,15,16,17,18,19,20,21,22,23,24,25,26,27,28,29])],[1]⟩
abbrev P0:Ps:=[]
abbrev eX (w:aA) (R:aT):Prop:=
 R (aJ (.bool false)) w
def fH:=bX X [] (bV [0,1,1,1,3]) P0 eX
abbrev gW (w:aA) (R:aT):Prop:=
 R (aJ (.bool false)) w
def gN:=bX X [fH] (bV [0,1,1,1,4]) P0 gW
abbrev P1:Ps:=[(1,.l [.I,.Y,.Y,.s] aG),(5,.v [.I])]
def GU (f:Nat) (a b c:Int) (d:Sl) (e:Int) (w:aA) (R:aT):Prop:=dD P1 0 (X.Sem (bV [0,1,1,1,5])) f a b c d e w R
def Wc:=gI X (bV [0,1,1,1,5]) P1 GU
def ry:∀(o:Nat) (d e f:Int) (b:Sl) (c:Int) (w:aA) (R:aT) (h:aW (aR (c<((b.n:Nat):Int))) (bY b c λg=>cV w (g.add (aF c *4)) λj k l m=>lO [o] jy #[.agg #[.i j,.int .u8 k,.int .u8 l,m.v]] w λp q=>aW (!p) (R (aJ (.bool false)) q) (GU o d e f b (aC .i64 (c+1)) q R)) (R (aJ (.bool true)) w)),GU o d e f b c w R:=mp (dV (X:=X) [Wc,gN,fH] (bV [0,1,1,1,5]) P1)
abbrev P2:Ps:=[(1,.l [.I,.Y,.Y,.s] aG)]
abbrev fN (e:Nat) (a b c:Int) (d:Sl) (w:aA) (R:aT):Prop:=
 GU e a b c d 0 w R
def fU:=bX X [Wc,gN,fH] (bV [5]) P2 fN
def dQ (a e c:Int) (d:Sl) (w:aA) (R:aT) (h:cB [] w λf o=>
 gi o (.cells #[.i 0,.i 0,.i 0,.i 64,.i 64,.i 64,.i 1,.i 1] cT) λp=>
 gi p (.cells #[.i 0,.i 0,.i 0,.i 0,.i 0,.i 0,.i 1,.i 1] cT) λm=>
 aW (aR (a<0)) (loc [f] m λb=>eX b R) (aW (aR (a>7)) (loc [f] m λb=>eX b R) ((0:Int)<=a/\a<((8:Nat):Int)/\gT (some (nb p)) λg=>loc [f] m λb=>∃k:Int,b.cell? (g.add (aF a *1))=some (.i k)/\
 aW (aR (((d.n:Nat):Int)<k)) (eX b R) ((0:Int)<=a/\a<((8:Nat):Int)/\gT (some (nb o)) λj=>∃l:Int,b.cell? (j.add (aF a *1))=some (.i l)/\
 aW (aR (((d.n:Nat):Int)>l)) (eX b R) (aW (aR (e>c)) (gW b R) (aW (a !=2) (aW (aR (c>0)) (gW b R) (fN f a e c d b R)) (fN f a e c d b R))))))):aH aB jy #[.agg #[.i a,.int .u8 e,.int .u8 c,d.v]] w R:=aZ X [fU,Wc,gN,fH] h
end enthymemeref04_good
namespace enthymemeref04_Valid
abbrev X:Fx:=⟨aB,Tryz.f107,[],[1]⟩
def dQ (a b c:Int) (d:Sl) (w:aA) (R:aT) (h:cB [] w λe l=>
 qf [e] eY #[.agg #[.i a,.int .u8 b,.int .u8 c,d.v]] l λj f=>aW (aR (j>64)) (R (aJ (.i 4)) f) (lO [e] jy #[.agg #[.i a,.int .u8 b,.int .u8 c,d.v]] f λk g=>aW (!k) (R (aJ (.i 1)) g) (R (aJ (.i 0)) g))):aH aB lr #[.agg #[.i a,.int .u8 b,.int .u8 c,d.v]] w R:=aZ X [] h
end enthymemeref04_Valid
namespace enthymemeref04_Everything
abbrev X:Fx:=⟨aB,Tryz.f54,[],[0]⟩
def dQ (w:aA) (R:aT) (h:cB [] w λb a=>
 gi a (.cells #[.i 0,.int .u8 0,.int .u8 0,.slice none 0 0] aG) λc=>
 loc [b] c λd=>R (aJ (.agg #[.i 6,.int .u8 0,.int .u8 0,.slice (some (nb a)) 1 1])) d):aH aB cL #[] w R:=aZ X [] h
end enthymemeref04_Everything
namespace enthymemeref04_put
abbrev X:Fx:=⟨aB,Tryz.f101,[(2,ls [0,1,2,3,4,5,6,7,8,9,10,11,12]),(4,ls [0,1,2,3,4,5,6,7,8,9,10,11,12]),(7,(.sq [0,1,2,3,5] (.fork (ls [4,6,7,8]) (ls [6,4,7,8]))))],[3]⟩
abbrev P0:Ps:=[(0,.v [.s]),(3,.l [.I,.Y,.Y,.s] aG),(5,.v [.I])]
def fO (f:Sl) (g:Nat) (a b c:Int) (d:Sl) (e:Int) (w:aA) (R:aT):Prop:=dD P0 0 (X.Sem (bV [0,2,2])) f g a b c d e w R
def fI:=gI X (bV [0,2,2]) P0 fO
abbrev P1:Ps:=[(0,.v [.s]),(5,.v [.I]),(6,.v [.s])]
abbrev ir (d:Sl) (b:Int) (f:Sl) (w:aA) (R:aT):Prop:=
 (0:Int)<=b/\b<=((d.n:Nat):Int)/\∃(e:Sl) (g:aA),Sem.run aB (Builtin.append_ #[aM,aM] aM #[f.v,.slice (if d.c=(aF b) then d.a else d.a.map (·.add ((aF b) *4))) (d.n - (aF b)) (d.c - (aF b))]) w=.ok (e.v) g/\R (aJ (e.v)) g
def iG:=bX X [fI] (bV [6]) P1 ir
abbrev fN (b:Sl) (g:Nat) (j k l:Int) (m:Sl) (f:Int) (w:aA) (R:aT):Prop:=
 (0:Int)<=f/\f<=((b.c:Nat):Int)/\((loc [g] w λn=>∃(q:Sl) (o:aA),Sem.run aB (Builtin.append_ #[aM,aM] aM #[.slice none 0 0,.slice (if b.c=0 then b.a else b.a.map (·.add (0 *4))) ((aF f) - 0) (b.c - 0)]) n=.ok (q.v) o/\kept [g] n o/\gi o (.cells #[.i j,.int .u8 k,.int .u8 l,m.v] aG) λu=>
 ∃(r:Sl) (s:aA),Sem.run aB (Builtin.append_ #[aM,aM] aM #[q.v,.slice (some (nb o)) 1 1]) u=.ok (r.v) s/\kept [g] u s/\ir b f r s R)/\(loc [g] w λn=>gi n (.cells #[.i j,.int .u8 k,.int .u8 l,m.v] aG) λx=>
 ∃(d:Sl) (p:aA),Sem.run aB (Builtin.append_ #[aM,aM] aM #[.slice none 0 0,.slice (if b.c=0 then b.a else b.a.map (·.add (0 *4))) ((aF f) - 0) (b.c - 0)]) x=.ok (d.v) p/\kept [g] x p/\∃(e:Sl) (t:aA),Sem.run aB (Builtin.append_ #[aM,aM] aM #[d.v,.slice (some (nb n)) 1 1]) p=.ok (e.v) t/\kept [g] p t/\ir b f e t R))
def fU:=bX X [iG,fI] (bV [4]) P0 fN
abbrev gW (g:Sl) (j:Nat) (b c d:Int) (e:Sl) (f:Int) (w:aA) (R:aT):Prop:=
 aW (aR (f<((g.n:Nat):Int))) (bY g f λk=>loc [j] w λq=>cV q (k.add (aF f *4)) λl m o p=>qf [j] dF #[.agg #[.i l,.int .u8 m,.int .u8 o,p.v],.agg #[.i b,.int .u8 c,.int .u8 d,e.v]] q λr s=>aW (r==0) (R (aJ (g.v)) s) (fN g j b c d e f s R)) (loc [j] w λq=>fN g j b c d e f q R)
def gN:=bX X [fU,iG,fI] (bV [3]) P0 gW
def bT:∀(g:Sl) (j:Nat) (b c d:Int) (e:Sl) (f:Int) (w:aA) (R:aT) (h:aW (aR (f<((g.n:Nat):Int))) (bY g f λk=>loc [j] w λq=>cV q (k.add (aF f *4)) λl m o p=>qf [j] dF #[.agg #[.i l,.int .u8 m,.int .u8 o,p.v],.agg #[.i b,.int .u8 c,.int .u8 d,e.v]] q λr s=>aW (aR (r<0)) (fO g j b c d e (aC .i64 (f+1)) s R) (gW g j b c d e f s R)) (loc [j] w λq=>gW g j b c d e f q R)),fO g j b c d e f w R:=mp (dV (X:=X) [gN,fU,iG,fI] (bV [0,2,2]) P0)
def dQ (e:Sl) (a b c:Int) (d:Sl) (w:aA) (R:aT) (h:cB [] w λf g=>
 fO e f a b c d 0 g R):aH aB mR #[e.v,.agg #[.i a,.int .u8 b,.int .u8 c,d.v]] w R:=aZ X [gN,fU,iG,fI] h
end enthymemeref04_put
namespace enthymemeref04_normal
abbrev X:Fx:=⟨aB,Tryz.f77,[(9,ls [0,1,2,3,4,5,6,7,8,9,10,11,12]),(25,ls [0,1,2,3,4,5,6]),(27,ls [0,1,2,3,4,5,6])],[4,5,8,9]⟩
abbrev P0:Ps:=[(1,.v [.s]),(4,.l [.I,.Y,.Y,.s] aG)]
abbrev eX (b:Sl) (j:Nat) (k l m:Int) (o:Sl) (w:aA) (R:aT):Prop:=
 bY b 0 λc=>cV w (c.add (aF 0 *4)) λd e f g=>loc [j] w λp=>R (aJ (.agg #[.i d,.int .u8 e,.int .u8 f,g.v])) p
def fH:=bX X [] (bV [0,1,1,1,1,1,1,1,3]) P0 eX
abbrev P1:Ps:=[(0,.v [.I]),(1,.v [.s]),(4,.l [.I,.Y,.Y,.s] aG),(5,.l [.I,.Y,.Y,.s] aG),(6,.v [.s]),(7,.v [.I])]
def mC (g:Int) (f:Sl) (o:Nat) (j k l:Int) (m:Sl) (i:Nat) (a b c:Int) (d e:Sl) (n:Int) (w:aA) (R:aT):Prop:=dD P1 0 (X.Sem (bV [0,1,1,1,5])) g f o j k l m i a b c d e n w R
def kA:=gI X (bV [0,1,1,1,5]) P1 mC
abbrev fN (g:Int) (f:Sl) (o:Nat) (j k l:Int) (m:Sl) (i:Nat) (a b c:Int) (d e:Sl) (n:Int) (w:aA) (R:aT):Prop:=
 mC g f o j k l m i a b c d e (aC .i64 (n+1)) w R
def fU:=bX X [kA,fH] (bV [2,2,1,1,5]) P1 fN
abbrev P2:Ps:=[(0,.v [.I]),(4,.l [.I,.Y,.Y,.s] aG),(6,.v [.s]),(8,.l [.I,.Y,.Y,.s] aG),(9,.l [.I,.Y,.Y,.s] aG),(10,.v [.s]),(11,.v [.I])]
def GU (m:Int) (t:Nat) (o p q:Int) (r l:Sl) (k:Nat) (e f g:Int) (i:Sl) (j:Nat) (a b c:Int) (d n:Sl) (s:Int) (w:aA) (R:aT):Prop:=dD P2 0 (X.Sem (bV [0,1,1,1,9])) m t o p q r l k e f g i j a b c d n s w R
def Wc:=gI X (bV [0,1,1,1,9]) P2 GU
abbrev rm (m:Int) (t:Nat) (o p q:Int) (r l:Sl) (k:Nat) (e f g:Int) (i:Sl) (j:Nat) (a b c:Int) (d n:Sl) (s:Int) (w:aA) (R:aT):Prop:=
 GU m t o p q r l k e f g i j a b c d n (aC .i64 (s+1)) w R
def ny:=bX X [Wc,fU,kA,fH] (bV [2,2,1,1,9]) P2 rm
def ry:∀(r:Int) (s:Nat) (u x y:Int) (z j:Sl) (c:Nat) (k l m:Int) (o:Sl) (b:Nat) (d e f:Int) (g q:Sl) (p:Int) (w:aA) (R:aT) (h:aW (aR (p<((j.n:Nat):Int))) (bY j p λaa=>loc [s,c,b] w λbe=>cV be (aa.add (aF p *4)) λab ac ad ae=>qf [s,c,b] dF #[.agg #[.i ab,.int .u8 ac,.int .u8 ad,ae.v],.agg #[.i d,.int .u8 e,.int .u8 f,g.v]] be λbi bf=>aW (bi==0) (loc [s,c,b] bf λbm=>R (aJ (.agg #[.i d,.int .u8 e,.int .u8 f,g.v])) bm) (bY j p λaf=>loc [s,c,b] bf λbg=>cV bg (af.add (aF p *4)) λag ah ai aj=>qf [s,c,b] dF #[.agg #[.i ag,.int .u8 ah,.int .u8 ai,aj.v],.agg #[.i k,.int .u8 l,.int .u8 m,o.v]] bg λbj t=>aW (bj==0) (rm r s u x y z j c k l m o b d e f g q p t R) (aW (r==3) (bY j p λak=>cV t (ak.add (aF p *4)) λal am an ao=>gi t (.cells #[.i al,.int .u8 am,.int .u8 an,ao.v] aG) λbh=>
 ∃(ap:Sl) (bd:aA),Sem.run aB (Builtin.append_ #[aM,aM] aM #[q.v,.slice (some (nb t)) 1 1]) bh=.ok (ap.v) bd/\kept [s,c,b] bh bd/\rm r s u x y z j c k l m o b d e f g ap p bd R) (bY j p λaq=>cV t (aq.add (aF p *4)) λar au av aw=>TK [s,c,b] mR #[q.v,.agg #[.i ar,.int .u8 au,.int .u8 av,aw.v]] t λbk bn=>rm r s u x y z j c k l m o b d e f g bk p bn R)))) (aW (((q.n:Nat):Int)==0) (loc [s,c,b] w λbo=>R (aJ (.agg #[.i k,.int .u8 l,.int .u8 m,o.v])) bo) (aW (((q.n:Nat):Int)==1) (bY q 0 λax=>cV w (ax.add (aF 0 *4)) λay az bb bc=>loc [s,c,b] w λbp=>R (aJ (.agg #[.i ay,.int .u8 az,.int .u8 bb,bc.v])) bp) (loc [s,c,b] w λbq=>R (aJ (.agg #[.i r,.int .u8 0,.int .u8 0,q.v])) bq)))),GU r s u x y z j c k l m o b d e f g q p w R:=mp (dV (X:=X) [ny,Wc,fU,kA,fH] (bV [0,1,1,1,9]) P2)
def dR:∀(b:Int) (c:Sl) (m:Nat) (o p q:Int) (r:Sl) (d:Nat) (e f g:Int) (j l:Sl) (k:Int) (w:aA) (R:aT) (h:aW (aR (k<((c.n:Nat):Int))) (bY c k λx=>∃ao:Int,w.cell? ((x.add (aF k *4)).add 0)=some (.i ao)/\
 aW (ao==b) (bY c k λy=>∃ap:Sl,w.cell? ((y.add (aF k *4)).add 3)=some (ap.v)/\
 ∃(aq:Sl) (s:aA),Sem.run aB (Builtin.append_ #[aM,aM] aM #[l.v,ap.v]) w=.ok (aq.v) s/\kept [m,d] w s/\fN b c m o p q r d e f g j aq k s R) (bY c k λz=>cV w (z.add (aF k *4)) λaa ab ac ad=>gi w (.cells #[.i aa,.int .u8 ab,.int .u8 ac,ad.v] aG) λau=>
 ∃(ar:Sl) (t:aA),Sem.run aB (Builtin.append_ #[aM,aM] aM #[l.v,.slice (some (nb w)) 1 1]) au=.ok (ar.v) t/\kept [m,d] au t/\fN b c m o p q r d e f g j ar k t R)) (gi w (.cells #[.i 1,.int .u8 0,.int .u8 0,.slice none 0 0,.i 0,.int .u8 0,.int .u8 0,.slice none 0 0,.i e,.int .u8 f,.int .u8 g,j.v] aG) λav=>
 (0:Int)<=(aC .i64 (b - 3))/\(aC .i64 (b - 3))<((3:Nat):Int)/\gT (some (nb w)) λae=>cV av (ae.add (aF (aC .i64 (b - 3)) *4)) λaf ag ah ai=>cB [m,d] av λu az=>
 loc [m,d,u] az λaw=>gi aw (.cells #[.i 0,.int .u8 0,.int .u8 0,.slice none 0 0,.i e,.int .u8 f,.int .u8 g,j.v,.i 0,.int .u8 0,.int .u8 0,.slice none 0 0] aG) λax=>
 (0:Int)<=(aC .i64 (b - 3))/\(aC .i64 (b - 3))<((3:Nat):Int)/\gT (some (nb aw)) λaj=>cV ax (aj.add (aF (aC .i64 (b - 3)) *4)) λak al am an=>cB [m,d,u] ax λb9 bb=>
 loc [m,d,u,b9] bb λbc=>GU b m o p q r l u af ag ah ai b9 ak al am an ⟨none,0,0⟩ 0 bc R)),mC b c m o p q r d e f g j l k w R:=mp (dV (X:=X) [ny,Wc,fU,kA,fH] (bV [0,1,1,1,5]) P1)
def dQ (d:Int) (b:Sl) (w:aA) (R:aT) (h:cB [] w λc w1=>
 xK [c] cL #[] w1 λg j k l w2=>cB [c] w2 λf w3=>
 aW (d==6) (bY b 0 λp=>loc [c,f] w3 λe=>∃af:Int,e.cell? ((p.add (aF 0 *4)).add 0)=some (.i af)/\
 aW (af==6) (bY b 0 λq=>∃o:Sl,e.cell? ((q.add (aF 0 *4)).add 3)=some (o.v)/\
 bY o 0 λr=>cV e (r.add (aF 0 *4)) λs t u x=>loc [c,f] e λal=>R (aJ (.agg #[.i s,.int .u8 t,.int .u8 u,x.v])) al) (loc [c,f] e λam=>R (aJ (.agg #[.i 6,.int .u8 0,.int .u8 0,b.v])) am)) (aW (d==7) (bY b 0 λy=>loc [c,f] w3 λe=>∃ag:Int,e.cell? ((y.add (aF 0 *4)).add 0)=some (.i ag)/\
 aW (aR (ag<2)) (loc [c,f] e λan=>R (aJ (.agg #[.i 1,.int .u8 0,.int .u8 0,.slice none 0 0])) an) (bY b 0 λz=>loc [c,f] e λm=>∃ah:Int,m.cell? ((z.add (aF 0 *4)).add 0)=some (.i ah)/\
 aW (ah==7) (eX b c 0 0 0 ⟨none,0,0⟩ m R) (bY b 0 λaa=>cV m (aa.add (aF 0 *4)) λab ac ad ae=>qf [c,f] dF #[.agg #[.i ab,.int .u8 ac,.int .u8 ad,ae.v],.agg #[.i g,.int .u8 j,.int .u8 k,l.v]] m λak ai=>aW (ak==0) (eX b c 0 0 0 ⟨none,0,0⟩ ai R) (loc [c,f] ai λao=>R (aJ (.agg #[.i 7,.int .u8 0,.int .u8 0,b.v])) ao)))) (loc [c,f] w3 λe=>mC d b c 0 0 0 ⟨none,0,0⟩ f g j k l ⟨none,0,0⟩ 0 e R))):aH aB kE #[.i d,b.v] w R:=aZ X [ny,Wc,fU,kA,fH] h
end enthymemeref04_normal
namespace enthymemeref04_simple
abbrev X:Fx:=⟨aB,Tryz.f56,[],[1,2]⟩
abbrev P0:Ps:=[(1,.l [.I,.Y,.Y,.s] aG),(2,.l [.I,.Y,.Y,.s] aG),(3,.v [.s]),(4,.v [.I])]
def fO (l:Nat) (b c d:Int) (e:Sl) (m:Nat) (f g i:Int) (j a:Sl) (k:Int) (w:aA) (R:aT):Prop:=dD P0 0 (X.Sem (bV [0,1,1,1,3])) l b c d e m f g i j a k w R
def fI:=gI X (bV [0,1,1,1,3]) P0 fO
def bT:∀(f:Nat) (d j k:Int) (b:Sl) (g:Nat) (l m o:Int) (p c:Sl) (e:Int) (w:aA) (R:aT) (h:aW (aR (e<((b.n:Nat):Int))) (bY b e λq=>cV w (q.add (aF e *4)) λr s t u=>xK [f,g] eP #[.agg #[.i r,.int .u8 s,.int .u8 t,u.v]] w λx y z aa w7=>gi w7 (.cells #[.i x,.int .u8 y,.int .u8 z,aa.v] aG) λw8=>
 ∃(af:Sl) (w9:aA),Sem.run aB (Builtin.append_ #[aM,aM] aM #[c.v,.slice (some (nb w7)) 1 1]) w8=.ok (af.v) w9/\kept [f,g] w8 w9/\fO f d j k b g l m o p af (aC .i64 (e+1)) w9 R) (xK [f,g] kE #[.i d,c.v] w λab ac ad ae ah=>loc [f,g] ah λai=>R (aJ (.agg #[.i ab,.int .u8 ac,.int .u8 ad,ae.v])) ai)),fO f d j k b g l m o p c e w R:=mp (dV (X:=X) [fI] (bV [0,1,1,1,3]) P0)
def dQ (a b c:Int) (d:Sl) (w:aA) (R:aT) (h:cB [] w λe j=>
 cB [e] j λf g=>
 aW (aR (a<3)) (loc [e,f] g λk=>R (aJ (.agg #[.i a,.int .u8 b,.int .u8 c,d.v])) k) (fO e a b c d f 0 0 0 ⟨none,0,0⟩ ⟨none,0,0⟩ 0 g R)):aH aB eP #[.agg #[.i a,.int .u8 b,.int .u8 c,d.v]] w R:=aZ X [fI] h
end enthymemeref04_simple
namespace enthymemeref04_few
abbrev X:Fx:=⟨aB,Tryz.f108,[],[1,2]⟩
def dQ (a b c:Int) (d:Sl) (w:aA) (R:aT) (h:cB [] w λe l=>
 cB [e] l λf m=>
 qf [e,f] eY #[.agg #[.i a,.int .u8 b,.int .u8 c,d.v]] m λk j=>aW (aR (k>64)) (loc [e,f] j λn=>R (aJ (.tuple #[.agg #[.i 0,.int .u8 0,.int .u8 0,.slice none 0 0],.i 4])) n) (loc [e,f] j λg=>R (aJ (.tuple #[.agg #[.i a,.int .u8 b,.int .u8 c,d.v],.i 0])) g)):aH aB mQ #[.agg #[.i a,.int .u8 b,.int .u8 c,d.v]] w R:=aZ X [] h
end enthymemeref04_few
namespace enthymemeref04_Normal
abbrev X:Fx:=⟨aB,Tryz.f81,[],[1,2]⟩
def dQ (a b c:Int) (d:Sl) (w:aA) (R:aT) (h:cB [] w λe u=>
 cB [e] u λl x=>
 qf [e,l] lr #[.agg #[.i a,.int .u8 b,.int .u8 c,d.v]] x λr t=>aW (r !=0) (loc [e,l] t λy=>R (aJ (.tuple #[.agg #[.i 0,.int .u8 0,.int .u8 0,.slice none 0 0],.i r])) y) (xK [e,l] eP #[.agg #[.i a,.int .u8 b,.int .u8 c,d.v]] t λm n o p z=>Qb [e,l] mQ #[.agg #[.i m,.int .u8 n,.int .u8 o,p.v]] z λf g j k q w9=>loc [e,l] w9 λs=>R (aJ (.tuple #[.agg #[.i f,.int .u8 g,.int .u8 j,k.v],.i q])) s)):aH aB kC #[.agg #[.i a,.int .u8 b,.int .u8 c,d.v]] w R:=aZ X [] h
end enthymemeref04_Normal
namespace regex_Normal
abbrev X:Fx:=⟨aB,Tryz.f134,[(4,ls [1,0,2,3,4,5,6,7])],[1,2]⟩
def dQ (c d e:Int) (f:Sl) (w:aA) (R:aT) (h:cB [] w λa z=>
 cB [a] z λb w2=>
 qf [a,b] qi #[.agg #[.i c,.int .u8 d,.int .u8 e,f.v]] w2 λs y=>aW (s !=0) (loc [a,b] y λw7=>R (aJ (.tuple #[.agg #[.i 0,.int .u8 0,.int .u8 0,.slice none 0 0],.i s])) w7) (loc [a,b] y λw8=>ab9 [a,b] sM #[] w8 λr w9=>xK [a,b] mV #[.map r,.agg #[.i c,.int .u8 d,.int .u8 e,f.v]] w9 λm n o p t=>Qb [a,b] qG #[.agg #[.i m,.int .u8 n,.int .u8 o,p.v]] t λg j k l q u=>loc [a,b] u λx=>R (aJ (.tuple #[.agg #[.i g,.int .u8 j,.int .u8 k,l.v],.i q])) x)):aH aB po #[.agg #[.i c,.int .u8 d,.int .u8 e,f.v]] w R:=aZ X [] h
end regex_Normal
namespace enthymemeref04_digit
abbrev X:Fx:=⟨aB,Tryz.f99,[],[]⟩
def ok (b:Int) (w:aA) (R:aT) (h:(0:Int)<=b/\∃a:UInt8,(aE #[48,49,50,51,52,53,54,55,56,57,97,98,99,100,101,102])[aF b]? =some a/\R (aJ (.int .u8 ((a.toNat:Nat):Int))) w):aH aB g8 #[.i b] w R:=aZ X [] h
end enthymemeref04_digit
namespace enthymemeref04_plain
abbrev X:Fx:=⟨aB,Tryz.f98,[],[]⟩
def ok (a:Int) (w:aA) (R:aT) (h:aW (aR (a>=32)) (aW (aR (a<=126)) (aW (a !=39) (R (aJ (.bool (a !=92))) w) (R (aJ (.bool false)) w)) (R (aJ (.bool false)) w)) (R (aJ (.bool false)) w)):aH aB jd #[.int .u8 a] w R:=aZ X [] h
end enthymemeref04_plain
namespace enthymemeref04_number
abbrev X:Fx:=⟨aB,Tryz.f151,[],[]⟩
abbrev P0:Ps:=[(0,.v [.Y]),(3,.v [.I])]
def L0 (a b:Int) (w:aA) (R:aT):Prop:=dD P0 0 (X.Sem (bV [0,1,1,1,1])) a b w R
def fI:=gI X (bV [0,1,1,1,1]) P0 L0
def dE:∀(b a:Int) (w:aA) (R:aT) (h:aW (aR (a<16)) (Yd g8 #[.i a] w λd c=>aW (d==b) (R (aJ (.i a)) c) (L0 b (aC .i64 (a+1)) c R)) (R (aJ (.i (-1))) w)),L0 b a w R:=mp (dV (X:=X) [fI] (bV [0,1,1,1,1]) P0)
def ok (a:Int) (w:aA) (R:aT) (h:L0 a 0 w R):aH aB fM #[.int .u8 a] w R:=aZ X [fI] h
end enthymemeref04_number
namespace enthymemeref04_byteAt
abbrev X:Fx:=⟨aB,Tryz.f138,[(4,ls [0,1,2,3,6,7,8,9,4,5,10,11,12,13,14])],[]⟩
abbrev P0:Ps:=[]
abbrev S1 (w:aA) (R:aT):Prop:=
 R (aJ (.tuple #[.int .u8 0,.i 0])) w
def gN:=bX X [] (bV [3]) P0 S1
abbrev P1:Ps:=[(0,.v [.st]),(1,.v [.I])]
abbrev S0 (b:ByteArray) (a:Int) (w:aA) (R:aT):Prop:=
 aW (aR ((aC .i64 (a+4))<=((b.size:Nat):Int))) ((0:Int)<=a/\∃c:UInt8,b[aF a]? =some c/\aW (((c.toNat:Nat):Int)==92) ((0:Int)<=(aC .i64 (a+1))/\∃d:UInt8,b[aF (aC .i64 (a+1))]? =some d/\aW (((d.toNat:Nat):Int)==120) ((0:Int)<=(aC .i64 (a+2))/\∃e:UInt8,b[aF (aC .i64 (a+2))]? =some e/\Dv fM #[.int .u8 ((e.toNat:Nat):Int)] w λk o=>aW (aR (k>=0)) ((0:Int)<=(aC .i64 (a+3))/\∃f:UInt8,b[aF (aC .i64 (a+3))]? =some f/\Dv fM #[.int .u8 ((f.toNat:Nat):Int)] o λl p=>aW (aR (l>=0)) (wy p λq=>(0:Int)<=(aC .i64 (a+2))/\∃g:UInt8,b[aF (aC .i64 (a+2))]? =some g/\(0:Int)<=(aC .i64 (a+3))/\∃j:UInt8,b[aF (aC .i64 (a+3))]? =some j/\Dv fM #[.int .u8 ((g.toNat:Nat):Int)] q λm r=>Dv fM #[.int .u8 ((j.toNat:Nat):Int)] r λn s=>R (aJ (.tuple #[.int .u8 (aC .u8 (aC .i64 ((aC .i64 (16 *m))+n))),.i 4])) s) (S1 p R)) (S1 o R)) (S1 w R)) (S1 w R)) (S1 w R)
def fH:=bX X [gN] (bV [2]) P1 S0
def ok (b:ByteArray) (a:Int) (w:aA) (R:aT) (h:aW (aR ((aC .i64 (a+3))<=((b.size:Nat):Int))) ((0:Int)<=a/\∃c:UInt8,b[aF a]? =some c/\aW (((c.toNat:Nat):Int)==39) ((0:Int)<=(aC .i64 (a+2))/\∃d:UInt8,b[aF (aC .i64 (a+2))]? =some d/\aW (((d.toNat:Nat):Int)==39) ((0:Int)<=(aC .i64 (a+1))/\∃e:UInt8,b[aF (aC .i64 (a+1))]? =some e/\Dj jd #[.int .u8 ((e.toNat:Nat):Int)] w λg j=>aW g ((0:Int)<=(aC .i64 (a+1))/\∃f:UInt8,b[aF (aC .i64 (a+1))]? =some f/\R (aJ (.tuple #[.int .u8 ((f.toNat:Nat):Int),.i 3])) j) (S0 b a j R)) (S0 b a w R)) (S0 b a w R)) (S0 b a w R)):aH aB gJ #[.string b,.i a] w R:=aZ X [fH,gN] h
end enthymemeref04_byteAt
namespace enthymemeref04_rangeAt
abbrev X:Fx:=⟨aB,Tryz.f128,[],[4]⟩
abbrev P0:Ps:=[(4,.l [.I,.Y,.Y,.s] aG)]
abbrev gW (a:Nat) (b c d:Int) (e:Sl) (w:aA) (R:aT):Prop:=
 loc [a] w λf=>R (aJ (.tuple #[.agg #[.i 0,.int .u8 0,.int .u8 0,.slice none 0 0],.i 0])) f
def gN:=bX X [] (bV [0,1,1,1,6]) P0 gW
abbrev ir (a:Nat) (b c d:Int) (e:Sl) (w:aA) (R:aT):Prop:=
 loc [a] w λf=>R (aJ (.tuple #[.agg #[.i 0,.int .u8 0,.int .u8 0,.slice none 0 0],.i 0])) f
def iG:=bX X [gN] (bV [0,1,1,1,9]) P0 ir
abbrev P1:Ps:=[(0,.v [.st]),(1,.v [.I]),(4,.l [.I,.Y,.Y,.s] aG),(8,.v [.Y]),(11,.v [.Y]),(12,.v [.I]),(13,.v [.I])]
abbrev fN (n:ByteArray) (l:Int) (j:Nat) (b c d:Int) (e:Sl) (k g m a:Int) (w:aA) (R:aT):Prop:=
 aW (m==0) (ir j b c d e w R) (aW (aR (a>=((n.size:Nat):Int))) (ir j b c d e w R) ((0:Int)<=a/\∃f:UInt8,n[aF a]? =some f/\aW (((f.toNat:Nat):Int) !=93) (ir j b c d e w R) (aW (aR (k>g)) (ir j b c d e w R) (loc [j] w λo=>R (aJ (.tuple #[.agg #[.i 2,.int .u8 k,.int .u8 g,.slice none 0 0],.i (aC .i64 ((aC .i64 (a+1)) - l))])) o))))
def fU:=bX X [iG,gN] (bV [9]) P1 fN
abbrev P2:Ps:=[(0,.v [.st]),(1,.v [.I]),(4,.l [.I,.Y,.Y,.s] aG),(8,.v [.Y]),(9,.v [.I]),(10,.v [.I])]
abbrev eX (k:ByteArray) (m:Int) (j:Nat) (b c d:Int) (e:Sl) (n o a:Int) (w:aA) (R:aT):Prop:=
 aW (o==0) (gW j b c d e w R) (aW (aR (a>=((k.size:Nat):Int))) (gW j b c d e w R) ((0:Int)<=a/\∃f:UInt8,k[aF a]? =some f/\aW (((f.toNat:Nat):Int) !=45) (gW j b c d e w R) (Ye [j] gJ #[.string k,.i (aC .i64 (a+1))] w λl g p=>fN k m j b c d e n l g (aC .i64 ((aC .i64 (a+1))+g)) p R)))
def fH:=bX X [fU,iG,gN] (bV [6]) P2 eX
def dQ (g:ByteArray) (a:Int) (w:aA) (R:aT) (h:cB [] w λf n=>
 Ye [f] gJ #[.string g,.i a] n λb c k=>aW (aR (c>0)) (loc [f] k λo=>R (aJ (.tuple #[.agg #[.i 2,.int .u8 b,.int .u8 b,.slice none 0 0],.i c])) o) ((0:Int)<=a/\∃d:UInt8,g[aF a]? =some d/\aW (((d.toNat:Nat):Int) !=91) (loc [f] k λl=>R (aJ (.tuple #[.agg #[.i 0,.int .u8 0,.int .u8 0,.slice none 0 0],.i 0])) l) (Ye [f] gJ #[.string g,.i (aC .i64 (a+1))] k λj e m=>eX g a f 0 0 0 ⟨none,0,0⟩ j e (aC .i64 ((aC .i64 (a+1))+e)) m R))):aH aB kf #[.string g,.i a] w R:=aZ X [fH,fU,iG,gN] h
end enthymemeref04_rangeAt
namespace enthymemeref04_Tokens
abbrev X:Fx:=⟨aB,Tryz.f103,[(11,ls [0,1,2,3,4,5,6,7,8,9,10,11,12])],[5]⟩
abbrev P0:Ps:=[(0,.v [.st]),(3,.v [.s]),(4,.v [.I])]
def fO (c:ByteArray) (a:Sl) (b:Int) (w:aA) (R:aT):Prop:=dD P0 0 (X.Sem (bV [0,1,1,1,2])) c a b w R
def fI:=gI X (bV [0,1,1,1,2]) P0 fO
abbrev P1:Ps:=[(0,.v [.st]),(3,.v [.s]),(4,.v [.I]),(5,.l [.I,.Y,.Y,.s] aG),(6,.v [.I])]
def mC (j:ByteArray) (a:Sl) (f:Int) (i:Nat) (b c d:Int) (e:Sl) (g:Int) (w:aA) (R:aT):Prop:=dD P1 0 (X.Sem (bV [0,1,1,1,1,1,2,1,1,2,1,1,2])) j a f i b c d e g w R
def kA:=gI X (bV [0,1,1,1,1,1,2,1,1,2,1,1,2]) P1 mC
abbrev fN (k:ByteArray) (d:Sl) (a:Int) (m:Nat) (e f g:Int) (j:Sl) (b:Int) (w:aA) (R:aT):Prop:=
 (0:Int)<=(aC .i64 (a+b))/\(aC .i64 (a+b))<=((k.size:Nat):Int)/\(0:Int)<=a/\a<=(((aF (aC .i64 (a+b))):Nat):Int)/\loc [m] w λn=>gi n (.cells #[.string (k.extract (aF a) (aF (aC .i64 (a+b)))),.i a,.i e,.int .u8 f,.int .u8 g,j.v] cZ) λo=>
 ∃(c:Sl) (l:aA),Sem.run aB (Builtin.append_ #[cQ,cQ] cQ #[d.v,.slice (some (nb n)) 1 1]) o=.ok (c.v) l/\kept [m] o l/\fO k c (aC .i64 (a+b)) l R
def fU:=bX X [kA,fI] (bV [3,1,1,2,1,1,2]) P1 fN
def dR:∀(i:ByteArray) (b:Sl) (a:Int) (j:Nat) (c d e:Int) (f:Sl) (g:Int) (w:aA) (R:aT) (h:(0:Int)<=a/\∃k:UInt8,i[aF a]? =some k/\aW (aR (((k.toNat:Nat):Int)>=97)) ((0:Int)<=a/\∃l:UInt8,i[aF a]? =some l/\aW (aR (((l.toNat:Nat):Int)<=122)) (aW (aR ((aC .i64 (a+g))<((i.size:Nat):Int))) ((0:Int)<=(aC .i64 (a+g))/\∃m:UInt8,i[aF (aC .i64 (a+g))]? =some m/\aW (aR (((m.toNat:Nat):Int)>=97)) ((0:Int)<=(aC .i64 (a+g))/\∃n:UInt8,i[aF (aC .i64 (a+g))]? =some n/\aW (aR (((n.toNat:Nat):Int)<=122)) (mC i b a j c d e f (aC .i64 (g+1)) w R) (fN i b a j c d e f g w R)) (fN i b a j c d e f g w R)) (fN i b a j c d e f g w R)) (fN i b a j c d e f g w R)) (fN i b a j c d e f g w R)),mC i b a j c d e f g w R:=mp (dV (X:=X) [fU,kA,fI] (bV [0,1,1,1,1,1,2,1,1,2,1,1,2]) P1)
def bT:∀(g:ByteArray) (a:Sl) (f:Int) (w:aA) (R:aT) (h:aW (aR (f<((g.size:Nat):Int))) ((0:Int)<=f/\∃j:UInt8,g[aF f]? =some j/\aW (((j.toNat:Nat):Int)==32) (fO g a (aC .i64 (f+1)) w R) (ab4 kf #[.string g,.i f] w λb c d e k q=>cB [] q λl o=>
 aW (k==0) (loc [l] o λn=>mC g a f l b c d e 1 n R) (loc [l] o λn=>fN g a f l b c d e k n R))) (gi w (.cells #[.s0,.i ((g.size:Nat):Int),.i 0,.int .u8 0,.int .u8 0,.slice none 0 0] cZ) λr=>
 ∃(m:Sl) (p:aA),Sem.run aB (Builtin.append_ #[cQ,cQ] cQ #[a.v,.slice (some (nb w)) 1 1]) r=.ok (m.v) p/\R (aJ (m.v)) p)),fO g a f w R:=mp (dV (X:=X) [fU,kA,fI] (bV [0,1,1,1,2]) P0)
def dQ (a:ByteArray) (w:aA) (R:aT) (h:fO a ⟨none,0,0⟩ 0 w R):aH aB kD #[.string a] w R:=aZ X [fU,kA,fI] h
end enthymemeref04_Tokens
namespace enthymemeref04_reader_see
abbrev X:Fx:=⟨aB,Tryz.f140,[(3,ls [0,1,2,3,4,5,6,7,8,9,10,11])],[]⟩
def ok (d:Addr) (w:aA) (R:aT) (h:∃j:Bool,w.cell? (d.add 2)=some (.bool j)/\
 aW j (R (aJ (.string (aE #[32]))) w) (wy w λf=>∃c:Sl,f.cell? (d.add 0)=some (c.v)/\
 ∃b:Int,f.cell? (d.add 1)=some (.i b)/\
 bY c b λe=>∃g:ByteArray,f.cell? ((e.add (aF b *6)).add 0)=some (.string g)/\
 R (aJ (.string g)) f)):aH aB fK #[.pointer (some d)] w R:=aZ X [] h
end enthymemeref04_reader_see
namespace enthymemeref04_reader_take
abbrev X:Fx:=⟨aB,Tryz.f130,[],[]⟩
abbrev P0:Ps:=[]
abbrev S0 (w:aA) (R:aT):Prop:=
 R (aJ (.bool true)) w
def fH:=bX X [] (bV [3]) P0 S0
def ok (a:Addr) (d:ByteArray) (w:aA) (R:aT) (h:Dw fK #[.pointer (some a)] w λe b=>aW (!(e.toList==d.toList)) (R (aJ (.bool false)) b) (aW (!(d.toList==(aE #[]).toList)) (∃c:Int,b.cell? (a.add 1)=some (.i c)/\
 cY b (a.add 1) (.i (aC .i64 (c+1))) λf=>
 S0 f R) (S0 b R))):aH aB cS #[.pointer (some a),.string d] w R:=aZ X [fH] h
end enthymemeref04_reader_take
namespace enthymemeref04_reader_need
abbrev X:Fx:=⟨aB,Tryz.f105,[],[]⟩
def ok (a:Addr) (b:ByteArray) (w:aA) (R:aT) (h:Dj cS #[.pointer (some a),.string b] w λd c=>aW (!d) (cY c (a.add 2) (.bool true) λe=>
 R (aJ (.tuple #[])) e) (R (aJ (.tuple #[])) c)):aH aB dM #[.pointer (some a),.string b] w R:=aZ X [] h
end enthymemeref04_reader_need
namespace enthymemeref04_group
abbrev X:Fx:=⟨aB,Tryz.f131,[],[4]⟩
def dQ (b:Int) (c:Sl) (w:aA) (R:aT) (h:cB [] w λl k=>
 aW (((c.n:Nat):Int)==1) (bY c 0 λj=>cV k (j.add (aF 0 *4)) λd e f g=>loc [l] k λm=>R (aJ (.agg #[.i d,.int .u8 e,.int .u8 f,g.v])) m) (loc [l] k λo=>R (aJ (.agg #[.i b,.int .u8 0,.int .u8 0,c.v])) o)):aH aB eC #[.i b,c.v] w R:=aZ X [] h
end enthymemeref04_group
namespace enthymemeref04_reader_begins
abbrev X:Fx:=⟨aB,Tryz.f153,[],[]⟩
def ok (c:Addr) (w:aA) (R:aT) (h:Dw fK #[.pointer (some c)] w λb a=>∃d:Bool,a.cell? (c.add 2)=some (.bool d)/\
 aW (!d) (aW (!(b.toList==(aE #[]).toList)) (aW (!(b.toList==(aE #[41]).toList)) (aW (!(b.toList==(aE #[44]).toList)) (aW (!(b.toList==(aE #[124]).toList)) (R (aJ (.bool (!(b.toList==(aE #[38]).toList)))) a) (R (aJ (.bool false)) a)) (R (aJ (.bool false)) a)) (R (aJ (.bool false)) a)) (R (aJ (.bool false)) a)) (R (aJ (.bool false)) a)):aH aB iz #[.pointer (some c)] w R:=aZ X [] h
end enthymemeref04_reader_begins
namespace enthymemeref04_reader_expr
abbrev X:Fx:=⟨aB,Tryz.f104,[],[2]⟩
abbrev P0:Ps:=[(0,.v [.r]),(2,.l [.I,.Y,.Y,.s] aG),(3,.v [.s])]
def fO (f:Addr) (g:Nat) (a b c:Int) (d e:Sl) (w:aA) (R:aT):Prop:=dD P0 0 (X.Sem (bV [0,2,2])) f g a b c d e w R
def fI:=gI X (bV [0,2,2]) P0 fO
def bT:∀(f:Addr) (a:Nat) (b c d:Int) (e r:Sl) (w:aA) (R:aT) (h:lO [a] cS #[.pointer (some f),.string (aE #[124])] w λz u=>aW z (xK [a] dZ #[.pointer (some f)] u λg j k l x=>gi x (.cells #[.i g,.int .u8 j,.int .u8 k,l.v] aG) λy=>
 ∃(q:Sl) (s:aA),Sem.run aB (Builtin.append_ #[aM,aM] aM #[r.v,.slice (some (nb x)) 1 1]) y=.ok (q.v) s/\kept [a] y s/\fO f a b c d e q s R) (xK [a] eC #[.i 4,r.v] u λm n o p w8=>loc [a] w8 λt=>R (aJ (.agg #[.i m,.int .u8 n,.int .u8 o,p.v])) t)),fO f a b c d e r w R:=mp (dV (X:=X) [fI] (bV [0,2,2]) P0)
def dQ (a:Addr) (w:aA) (R:aT) (h:cB [] w λf j=>
 xK [f] dZ #[.pointer (some a)] j λb c d e g=>gi g (.cells #[.i b,.int .u8 c,.int .u8 d,e.v] aG) λk=>
 fO a f 0 0 0 ⟨none,0,0⟩ ⟨some (nb g),1,1⟩ k R):aH aB dK #[.pointer (some a)] w R:=aZ X [fI] h
end enthymemeref04_reader_expr
namespace enthymemeref04_reader_conj
abbrev X:Fx:=⟨aB,Tryz.f129,[],[2]⟩
abbrev P0:Ps:=[(0,.v [.r]),(2,.l [.I,.Y,.Y,.s] aG),(3,.v [.s])]
def fO (f:Addr) (g:Nat) (a b c:Int) (d e:Sl) (w:aA) (R:aT):Prop:=dD P0 0 (X.Sem (bV [0,2,2])) f g a b c d e w R
def fI:=gI X (bV [0,2,2]) P0 fO
def bT:∀(f:Addr) (a:Nat) (b c d:Int) (e r:Sl) (w:aA) (R:aT) (h:lO [a] cS #[.pointer (some f),.string (aE #[38])] w λz u=>aW z (xK [a] eI #[.pointer (some f)] u λg j k l x=>gi x (.cells #[.i g,.int .u8 j,.int .u8 k,l.v] aG) λy=>
 ∃(q:Sl) (s:aA),Sem.run aB (Builtin.append_ #[aM,aM] aM #[r.v,.slice (some (nb x)) 1 1]) y=.ok (q.v) s/\kept [a] y s/\fO f a b c d e q s R) (xK [a] eC #[.i 5,r.v] u λm n o p w8=>loc [a] w8 λt=>R (aJ (.agg #[.i m,.int .u8 n,.int .u8 o,p.v])) t)),fO f a b c d e r w R:=mp (dV (X:=X) [fI] (bV [0,2,2]) P0)
def dQ (a:Addr) (w:aA) (R:aT) (h:cB [] w λf j=>
 xK [f] eI #[.pointer (some a)] j λb c d e g=>gi g (.cells #[.i b,.int .u8 c,.int .u8 d,e.v] aG) λk=>
 fO a f 0 0 0 ⟨none,0,0⟩ ⟨some (nb g),1,1⟩ k R):aH aB dZ #[.pointer (some a)] w R:=aZ X [fI] h
end enthymemeref04_reader_conj
namespace enthymemeref04_reader_seq
abbrev X:Fx:=⟨aB,Tryz.f139,[],[2]⟩
abbrev P0:Ps:=[(0,.v [.r]),(2,.l [.I,.Y,.Y,.s] aG),(3,.v [.s])]
def fO (f:Addr) (g:Nat) (a b c:Int) (d e:Sl) (w:aA) (R:aT):Prop:=dD P0 0 (X.Sem (bV [0,2,2])) f g a b c d e w R
def fI:=gI X (bV [0,2,2]) P0 fO
def bT:∀(f:Addr) (a:Nat) (b c d:Int) (e r:Sl) (w:aA) (R:aT) (h:lO [a] iz #[.pointer (some f)] w λz u=>aW z (xK [a] dL #[.pointer (some f)] u λg j k l x=>gi x (.cells #[.i g,.int .u8 j,.int .u8 k,l.v] aG) λy=>
 ∃(q:Sl) (s:aA),Sem.run aB (Builtin.append_ #[aM,aM] aM #[r.v,.slice (some (nb x)) 1 1]) y=.ok (q.v) s/\kept [a] y s/\fO f a b c d e q s R) (xK [a] eC #[.i 3,r.v] u λm n o p w8=>loc [a] w8 λt=>R (aJ (.agg #[.i m,.int .u8 n,.int .u8 o,p.v])) t)),fO f a b c d e r w R:=mp (dV (X:=X) [fI] (bV [0,2,2]) P0)
def dQ (a:Addr) (w:aA) (R:aT) (h:cB [] w λf j=>
 xK [f] dL #[.pointer (some a)] j λb c d e g=>gi g (.cells #[.i b,.int .u8 c,.int .u8 d,e.v] aG) λk=>
 fO a f 0 0 0 ⟨none,0,0⟩ ⟨some (nb g),1,1⟩ k R):aH aB eI #[.pointer (some a)] w R:=aZ X [fI] h
end enthymemeref04_reader_seq
namespace enthymemeref04_reader_item
abbrev X:Fx:=⟨aB,Tryz.f152,[],[2,4]⟩
abbrev P0:Ps:=[(0,.v [.r]),(2,.l [.I,.Y,.Y,.s] aG),(4,.l [.I,.Y,.Y,.s] aG)]
def fO (j:Addr) (l:Nat) (e f g:Int) (i:Sl) (k:Nat) (a b c:Int) (d:Sl) (w:aA) (R:aT):Prop:=dD P0 0 (X.Sem (bV [0,2,4])) j l e f g i k a b c d w R
def fI:=gI X (bV [0,2,4]) P0 fO
def bT:∀(n:Addr) (f:Nat) (g j k:Int) (l:Sl) (e:Nat) (a b c:Int) (d:Sl) (w:aA) (R:aT) (h:lO [f,e] cS #[.pointer (some n),.string (aE #[42])] w λo m=>aW o (gi m (.cells #[.i a,.int .u8 b,.int .u8 c,d.v] aG) λp=>
 loc [f,e] p λq=>fO n f g j k l e 7 0 0 ⟨some (nb m),1,1⟩ q R) (loc [f,e] m λr=>R (aJ (.agg #[.i a,.int .u8 b,.int .u8 c,d.v])) r)),fO n f g j k l e a b c d w R:=mp (dV (X:=X) [fI] (bV [0,2,4]) P0)
def dQ (b:Addr) (w:aA) (R:aT) (h:cB [] w λa s=>
 lO [a] cS #[.pointer (some b),.string (aE #[33])] s λr p=>aW r (xK [a] dL #[.pointer (some b)] p λg j k l q=>gi q (.cells #[.i g,.int .u8 j,.int .u8 k,l.v] aG) λt=>
 loc [a] t λu=>R (aJ (.agg #[.i 6,.int .u8 0,.int .u8 0,.slice (some (nb q)) 1 1])) u) (xK [a] gD #[.pointer (some b)] p λc d e f x=>cB [a] x λm n=>
 loc [a,m] n λo=>fO b a 0 0 0 ⟨none,0,0⟩ m c d e f o R)):aH aB dL #[.pointer (some b)] w R:=aZ X [fI] h
end enthymemeref04_reader_item
namespace enthymemeref04_reader_atom
abbrev X:Fx:=⟨aB,Tryz.f179,[(1,ls [0,1,2,3,4,5,6,7,8,9,10,11,12,13,14,15,16,17,18,19]),(3,ls [0,1,2,3,4,5,6,7,8,9,10,11,12]),(8,ls [0,1,2,3,5,6,7,8,4,9,10])],[2,5,6]⟩
abbrev P0:Ps:=[(0,.v [.r]),(2,.l [.I,.Y,.Y,.s] aG),(3,.v [.s]),(4,.v [.I])]
def mC (g:Addr) (i:Nat) (b c d:Int) (e a:Sl) (f:Int) (w:aA) (R:aT):Prop:=dD P0 0 (X.Sem (bV [0,1,1,1,3])) g i b c d e a f w R
def kA:=gI X (bV [0,1,1,1,3]) P0 mC
abbrev fN (g:Addr) (i:Nat) (b c d:Int) (e a:Sl) (f:Int) (w:aA) (R:aT):Prop:=
 mC g i b c d e a (aC .i64 (f+1)) w R
def fU:=bX X [kA] (bV [2,2,1,1,3]) P0 fN
abbrev P1:Ps:=[(2,.l [.I,.Y,.Y,.s] aG),(5,.l [.I,.Y,.Y,.s] aG)]
abbrev ir (f:Nat) (g j k:Int) (l:Sl) (e:Nat) (a b c:Int) (d:Sl) (w:aA) (R:aT):Prop:=
 loc [f,e] w λm=>R (aJ (.agg #[.i a,.int .u8 b,.int .u8 c,d.v])) m
def iG:=bX X [fU,kA] (bV [4,2,1,2,1,1,3]) P1 ir
def dR:∀(e:Addr) (b:Nat) (f g j:Int) (k c:Sl) (d:Int) (w:aA) (R:aT) (h:aW (aR (d<6)) (aW (d==2) (loc [b] w λx=>fN e b f g j k c d x R) (bY c d λl=>loc [b] w λx=>∃o:ByteArray,x.cell? (l.add (aF d *1))=some (.string o)/\
 oW [b] fK #[.pointer (some e)] x λac q=>q.cell? (l.add (aF d *1))=some (.string o)/\aW (!(ac.toList==o.toList)) (fN e b f g j k c d q R) (∃y:Int,q.cell? (e.add 1)=some (.i y)/\
 cY q (e.add 1) (.i (aC .i64 (y+1))) λw4=>kept [b] q w4/\
 cB [b] w4 λm w5=>
 aW (aR (d>2)) (loc [b,m] w5 λw9=>TK [b,m] gE #[.pointer (some e)] w9 λad ae=>loc [b,m] ae λaf=>ir b f g j k m d 0 0 ad af R) (loc [b,m] w5 λw9=>ir b f g j k m d 0 0 ⟨none,0,0⟩ w9 R)))) (Qc [b] dM #[.pointer (some e),.string (aE #[40])] w λp=>∃z:Bool,p.cell? (e.add 2)=some (.bool z)/\
 aW z (loc [b] p λag=>R (aJ (.agg #[.i 0,.int .u8 0,.int .u8 0,.slice none 0 0])) ag) (xK [b] dK #[.pointer (some e)] p λr s t u ah=>cB [b] ah λb6 ai=>
 loc [b,b6] ai λaj=>Qc [b,b6] dM #[.pointer (some e),.string (aE #[41])] aj λak=>loc [b,b6] ak λal=>R (aJ (.agg #[.i r,.int .u8 s,.int .u8 t,u.v])) al))),mC e b f g j k c d w R:=mp (dV (X:=X) [iG,fU,kA] (bV [0,1,1,1,3]) P0)
abbrev P2:Ps:=[(0,.v [.r]),(2,.l [.I,.Y,.Y,.s] aG)]
abbrev eX (e:Addr) (f:Nat) (a b c:Int) (d:Sl) (w:aA) (R:aT):Prop:=
 gi w (.cells #[.string (aE #[110,111,110,101]),.string (aE #[101,109,112,116,121]),.s0,.string (aE #[99,97,116]),.string (aE #[97,108,116]),.string (aE #[97,108,108])] cG) λg=>
 mC e f a b c d ⟨some (nb w),6,6⟩ 0 g R
def fH:=bX X [iG,fU,kA] (bV [2]) P2 eX
def dQ (b:Addr) (w:aA) (R:aT) (h:cB [] w λf y=>
 loc [f] y λc=>∃s:Bool,c.cell? (b.add 2)=some (.bool s)/\
 aW (!s) (∃g:Sl,c.cell? (b.add 0)=some (g.v)/\
 ∃d:Int,c.cell? (b.add 1)=some (.i d)/\
 bY g d λk=>∃t:Int,c.cell? (((k.add (aF d *6)).add 2).add 0)=some (.i t)/\
 aW (t==2) (∃u:Int,c.cell? (b.add 1)=some (.i u)/\
 cY c (b.add 1) (.i (aC .i64 (u+1))) λx=>kept [f] c x/\
 loc [f] x λr=>∃j:Sl,r.cell? (b.add 0)=some (j.v)/\
 ∃e:Int,r.cell? (b.add 1)=some (.i e)/\
 bY j (aC .i64 (e - 1)) λl=>cV r ((l.add (aF (aC .i64 (e - 1)) *6)).add 2) λm o p q=>loc [f] r λz=>R (aJ (.agg #[.i m,.int .u8 o,.int .u8 p,q.v])) z) (eX b f 0 0 0 ⟨none,0,0⟩ c R)) (eX b f 0 0 0 ⟨none,0,0⟩ c R)):aH aB gD #[.pointer (some b)] w R:=aZ X [fH,iG,fU,kA] h
end enthymemeref04_reader_atom
namespace enthymemeref04_reader_kids
abbrev X:Fx:=⟨aB,Tryz.f194,[],[]⟩
abbrev P0:Ps:=[]
abbrev S0 (w:aA) (R:aT):Prop:=
 R (aJ (.slice none 0 0)) w
def fH:=bX X [] (bV [0,1,1,1,3]) P0 S0
abbrev P1:Ps:=[(0,.v [.r]),(4,.v [.s])]
def L1 (b:Addr) (a:Sl) (w:aA) (R:aT):Prop:=dD P1 0 (X.Sem (bV [0,2,5])) b a w R
def kA:=gI X (bV [0,2,5]) P1 L1
def nk:∀(b:Addr) (a:Sl) (w:aA) (R:aT) (h:Dj cS #[.pointer (some b),.string (aE #[44])] w λj k=>aW j (PZ dK #[.pointer (some b)] k λc d e f l=>gi l (.cells #[.i c,.int .u8 d,.int .u8 e,f.v] aG) λn=>
 ∃(g:Sl) (m:aA),Sem.run aB (Builtin.append_ #[aM,aM] aM #[a.v,.slice (some (nb l)) 1 1]) n=.ok (g.v) m/\L1 b g m R) (vO dM #[.pointer (some b),.string (aE #[41])] k λo=>R (aJ (a.v)) o)),L1 b a w R:=mp (dV (X:=X) [kA,fH] (bV [0,2,5]) P1)
def ok (a:Addr) (w:aA) (R:aT) (h:vO dM #[.pointer (some a),.string (aE #[40])] w λl=>Dj cS #[.pointer (some a),.string (aE #[41])] l λk f=>∃g:Bool,f.cell? (a.add 2)=some (.bool g)/\
 aW g (S0 f R) (aW k (S0 f R) (PZ dK #[.pointer (some a)] f λb c d e j=>gi j (.cells #[.i b,.int .u8 c,.int .u8 d,e.v] aG) λm=>
 L1 a ⟨some (nb j),1,1⟩ m R))):aH aB gE #[.pointer (some a)] w R:=aZ X [kA,fH] h
end enthymemeref04_reader_kids
namespace enthymemeref04_Parse
abbrev X:Fx:=⟨aB,Tryz.f80,[(7,ls [0,1,2,3,4,5,6,7,8,9,10,11,12,13,14])],[2,6]⟩
def dQ (s:ByteArray) (w:aA) (R:aT) (h:cB [] w λb z=>
 aW (aR (((s.size:Nat):Int)>4096)) (loc [b] z λw5=>R (aJ (.tuple #[.agg #[.i 0,.int .u8 0,.int .u8 0,.slice none 0 0],.i 4096,.i 4])) w5) (TK [b] kD #[.string s] z λx d=>gi d (.cells #[x.v,.i 0,.bool false] km) λw7=>
 xK [b] dK #[.pointer (some (nb d))] w7 λf g j k w8=>cB [b] w8 λe w9=>
 loc [b,e] w9 λaa=>Qc [b,e] dM #[.pointer (some (nb d)),.s0] aa λr=>∃t:Bool,r.cell? ((nb d).add 2)=some (.bool t)/\
 aW t (loc [b,e] r λo=>∃l:Sl,o.cell? ((nb d).add 0)=some (l.v)/\
 ∃c:Int,o.cell? ((nb d).add 1)=some (.i c)/\
 bY l c λm=>∃q:Int,o.cell? ((m.add (aF c *6)).add 1)=some (.i q)/\
 loc [b,e] o λp=>p.cell? ((m.add (aF c *6)).add 1)=some (.i q)/\p.cell? ((nb d).add 1)=some (.i c)/\p.cell? ((nb d).add 0)=some (l.v)/\R (aJ (.tuple #[.agg #[.i 0,.int .u8 0,.int .u8 0,.slice none 0 0],.i q,.i 2])) p) (qf [b,e] eY #[.agg #[.i f,.int .u8 g,.int .u8 j,k.v]] r λy u=>aW (aR (y>64)) (loc [b,e] u λab=>R (aJ (.tuple #[.agg #[.i 0,.int .u8 0,.int .u8 0,.slice none 0 0],.i ((s.size:Nat):Int),.i 4])) ab) (loc [b,e] u λac=>R (aJ (.tuple #[.agg #[.i f,.int .u8 g,.int .u8 j,k.v],.i 0,.i 0])) ac)))):aH aB lq #[.string s] w R:=aZ X [] h
end enthymemeref04_Parse
namespace enthymemeref04_Byte
abbrev X:Fx:=⟨aB,Tryz.f75,[],[]⟩
def ok (a:Int) (w:aA) (R:aT) (h:Dj jd #[.int .u8 a] w λl c=>aW l (gi c (.cells #[.int .u8 39,.int .u8 a,.int .u8 39] bS) λd=>
 ∃j:ByteArray,Sem.run aB (Go.convert bB cG (.slice (some (nb c)) 3 3)) d=.ok (.string j) d/\R (aJ (.string j)) d) (Yd g8 #[.i (aC .i64 (Int.tdiv (aC .i64 a) 16))] c λf m=>Yd g8 #[.i (Int.tmod (aC .i64 a) 16)] m λg k=>gi k (.cells #[.int .u8 92,.int .u8 120,.int .u8 f,.int .u8 g] bS) λe=>
 ∃b:ByteArray,Sem.run aB (Go.convert bB cG (.slice (some (nb k)) 4 4)) e=.ok (.string b) e/\R (aJ (.string b)) e)):aH aB il #[.int .u8 a] w R:=aZ X [] h
end enthymemeref04_Byte
namespace enthymemeref04_binds
abbrev X:Fx:=⟨aB,Tryz.f74,[],[1]⟩
abbrev P0:Ps:=[]
abbrev eX (w:aA) (R:aT):Prop:=
 R (aJ (.i 4)) w
def fH:=bX X [] (bV [0,1,1,1,2]) P0 eX
def dQ (a f g:Int) (c:Sl) (w:aA) (R:aT) (h:cB [] w λk b=>
 aW (a==6) (R (aJ (.i 3)) b) (aW (aR (a<3)) (eX b R) (aW (a==7) (eX b R) (aW (aR (((c.n:Nat):Int)<2)) (eX b R) (gi b (.cells #[.i 2,.i 0,.i 1] cT) λj=>
 (0:Int)<=(aC .i64 (a - 3))/\(aC .i64 (a - 3))<((3:Nat):Int)/\gT (some (nb b)) λd=>∃e:Int,j.cell? (d.add (aF (aC .i64 (a - 3)) *1))=some (.i e)/\
 R (aJ (.i e)) j))))):aH aB g7 #[.agg #[.i a,.int .u8 f,.int .u8 g,c.v]] w R:=aZ X [fH] h
end enthymemeref04_binds
namespace enthymemeref04_low
abbrev X:Fx:=⟨aB,Tryz.f76,[],[]⟩
def ok (a:Int) (w:aA) (R:aT) (h:aW (aR (a>=97)) (R (aJ (.bool (aR (a<=122)))) w) (R (aJ (.bool false)) w)):aH aB jT #[.int .u8 a] w R:=aZ X [] h
end enthymemeref04_low
namespace enthymemeref04_Write
abbrev X:Fx:=⟨aB,Tryz.f55,[(11,ls [0,1,5,6,2,3,4,7,8,9,10])],[2]⟩
abbrev P0:Ps:=[(2,.l [.I,.Y,.Y,.s] aG),(5,.v [.st])]
abbrev eX (j:Nat) (b f g:Int) (i:Sl) (a:ByteArray) (w:aA) (R:aT):Prop:=
 gi w (.cells #[.string (aE #[99,97,116,40]),.string (aE #[97,108,116,40]),.string (aE #[97,108,108,40])] cG) λe=>
 (0:Int)<=(aC .i64 (b - 3))/\(aC .i64 (b - 3))<((3:Nat):Int)/\gT (some (nb w)) λd=>∃c:ByteArray,e.cell? (d.add (aF (aC .i64 (b - 3)) *1))=some (.string c)/\
 ¬(((c.size+a.size:Nat):Int)>IntKind.i64.max)/\¬((((c++a).size+(aE #[41]).size:Nat):Int)>IntKind.i64.max)/\R (aJ (.string ((c++a)++(aE #[41])))) e
def fH:=bX X [] (bV [2,1,1,1,3]) P0 eX
abbrev P1:Ps:=[(2,.l [.I,.Y,.Y,.s] aG),(6,.v [.st]),(7,.v [.I]),(8,.v [.st]),(9,.v [.I])]
def mC (j:Nat) (d e f:Int) (g:Sl) (a:ByteArray) (c:Int) (b:ByteArray) (i:Int) (w:aA) (R:aT):Prop:=dD P1 0 (X.Sem (bV [0,1,1,1,7])) j d e f g a c b i w R
def kA:=gI X (bV [0,1,1,1,7]) P1 mC
abbrev ir (j:Nat) (d e f:Int) (g:Sl) (a:ByteArray) (c:Int) (b:ByteArray) (i:Int) (w:aA) (R:aT):Prop:=
 mC j d e f g a c b (aC .i64 (i+1)) w R
def iG:=bX X [kA,fH] (bV [2,2,1,1,7]) P1 ir
abbrev P2:Ps:=[(2,.l [.I,.Y,.Y,.s] aG),(6,.v [.st]),(7,.v [.I]),(8,.v [.st]),(9,.v [.I]),(10,.v [.st])]
abbrev fN (k:Nat) (e f g:Int) (i:Sl) (a:ByteArray) (d:Int) (c:ByteArray) (j:Int) (b:ByteArray) (w:aA) (R:aT):Prop:=
 ¬(((c.size+a.size:Nat):Int)>IntKind.i64.max)/\¬((((c++a).size+b.size:Nat):Int)>IntKind.i64.max)/\ir k e f g i a d ((c++a)++b) j w R
def fU:=bX X [iG,kA,fH] (bV [2,2,1,2,1,1,7]) P2 fN
def dR:∀(m:Nat) (f g j:Int) (c:Sl) (d:ByteArray) (e:Int) (b:ByteArray) (l:Int) (w:aA) (R:aT) (h:aW (aR (l<((c.n:Nat):Int))) (bY c l λq=>cV w (q.add (aF l *4)) λr s t u=>oW [m] cE #[.agg #[.i r,.int .u8 s,.int .u8 t,u.v],.i (aC .i64 (e+1))] w λk x=>aW (f==3) ((0:Int)<=(aC .i64 (((b.size:Nat):Int) - 1))/\∃o:UInt8,b[aF (aC .i64 (((b.size:Nat):Int) - 1))]? =some o/\lO [m] jT #[.int .u8 ((o.toNat:Nat):Int)] x λaa y=>aW aa ((0:Int)<=0/\∃p:UInt8,k[aF 0]? =some p/\lO [m] jT #[.int .u8 ((p.toNat:Nat):Int)] y λab z=>aW ab (¬(((b.size+(aE #[32]).size:Nat):Int)>IntKind.i64.max)/\fN m f g j c d e (b++(aE #[32])) l k z R) (fN m f g j c d e b l k z R)) (fN m f g j c d e b l k y R)) (fN m f g j c d e b l k x R)) (R (aJ (.string b)) w)),mC m f g j c d e b l w R:=mp (dV (X:=X) [fU,iG,kA,fH] (bV [0,1,1,1,7]) P1)
def dQ (c d e:Int) (b:Sl) (j:Int) (w:aA) (R:aT) (h:cB [] w λf w1=>
 qf [f] g7 #[.agg #[.i c,.int .u8 d,.int .u8 e,b.v]] w1 λar g=>aW (aR (ar<j)) (oW [f] cE #[.agg #[.i c,.int .u8 d,.int .u8 e,b.v],.i 0] g λl w3=>¬((((aE #[40]).size+l.size:Nat):Int)>IntKind.i64.max)/\¬(((((aE #[40])++l).size+(aE #[41]).size:Nat):Int)>IntKind.i64.max)/\R (aJ (.string (((aE #[40])++l)++(aE #[41])))) w3) (aW (c==0) (R (aJ (.string (aE #[110,111,110,101]))) g) (aW (c==1) (R (aJ (.string (aE #[101,109,112,116,121]))) g) (aW (c==2) (aW (d==e) (oW [f] il #[.int .u8 d] g λau w4=>R (aJ (.string au)) w4) (loc [f] g λw5=>oW [f] il #[.int .u8 d] w5 λk w6=>¬((((aE #[91]).size+k.size:Nat):Int)>IntKind.i64.max)/\¬(((((aE #[91])++k).size+(aE #[45]).size:Nat):Int)>IntKind.i64.max)/\oW [f] il #[.int .u8 e] w6 λm w7=>¬((((((aE #[91])++k)++(aE #[45])).size+m.size:Nat):Int)>IntKind.i64.max)/\¬(((((((aE #[91])++k)++(aE #[45]))++m).size+(aE #[93]).size:Nat):Int)>IntKind.i64.max)/\R (aJ (.string (((((aE #[91])++k)++(aE #[45]))++m)++(aE #[93])))) w7)) (aW (c==6) (bY b 0 λo=>cV g (o.add (aF 0 *4)) λp q r s=>oW [f] cE #[.agg #[.i p,.int .u8 q,.int .u8 r,s.v],.i 3] g λal w8=>¬((((aE #[33]).size+al.size:Nat):Int)>IntKind.i64.max)/\R (aJ (.string ((aE #[33])++al))) w8) (aW (c==7) (bY b 0 λt=>cV g (t.add (aF 0 *4)) λu x y z=>oW [f] cE #[.agg #[.i u,.int .u8 x,.int .u8 y,z.v],.i 4] g λam w9=>¬(((am.size+(aE #[42]).size:Nat):Int)>IntKind.i64.max)/\R (aJ (.string (am++(aE #[42])))) w9) (aW (aR (((b.n:Nat):Int)<2)) (aW (((b.n:Nat):Int)==1) (bY b 0 λaa=>cV g (aa.add (aF 0 *4)) λab ac ad ae=>oW [f] cE #[.agg #[.i ab,.int .u8 ac,.int .u8 ad,ae.v],.i 0] g λav ax=>eX f c d e b av ax R) (eX f c d e b (aE #[]) g R)) (gi g (.cells #[.s0,.string (aE #[124]),.string (aE #[38])] cG) λap=>
 (0:Int)<=(aC .i64 (c - 3))/\(aC .i64 (c - 3))<((3:Nat):Int)/\gT (some (nb g)) λaf=>∃an:ByteArray,ap.cell? (af.add (aF (aC .i64 (c - 3)) *1))=some (.string an)/\
 qf [f] g7 #[.agg #[.i c,.int .u8 d,.int .u8 e,b.v]] ap λao aq=>bY b 0 λag=>cV aq (ag.add (aF 0 *4)) λah ai aj ak=>oW [f] cE #[.agg #[.i ah,.int .u8 ai,.int .u8 aj,ak.v],.i (aC .i64 (ao+1))] aq λaw ay=>mC f c d e b an ao aw 1 ay R)))))))):aH aB cE #[.agg #[.i c,.int .u8 d,.int .u8 e,b.v],.i j] w R:=aZ X [fU,iG,kA,fH] h
end enthymemeref04_Write
namespace enthymemeref04_Text
def C0:Code:=(Tryz.f36.body).getD .skip
def C1:=C0.sn
def C2:=C1.sn
def C3:=C2.sn
def C4:=C3.sn
def C5:=C4.sn
def C6:=C5.sn
def C7:=C6.sn
def C8:=C7.sn
abbrev Q0 (R:aT):OQ:=(bodyPost aB Tryz.f36 R)
def C9:=C8.sn
abbrev S0 (o:Int) (b:Sl) (w:aA) (R:aT):Prop:=
 (0:Int)<=(Int.tmod (aC .i64 (Int.tdiv o 216)) 8)/\(Int.tmod (aC .i64 (Int.tdiv o 216)) 8)<((b.n:Nat):Int)/\gT b.a λc=>cV w (c.add (aF (Int.tmod (aC .i64 (Int.tdiv o 216)) 8) *4)) λd e f g=>PZ eP #[.agg #[.i d,.int .u8 e,.int .u8 f,g.v]] w λj k l m q=>Dw cE #[.agg #[.i j,.int .u8 k,.int .u8 l,m.v],.i 0] q λp r=>R (aJ (.string p)) r
def zW (E:Env) (w:aA) (R:aT):Prop:=W.asInt .i64 (Env.get? E 3) λb=>W.asSlice (Env.get? E 9) λa=>S0 b a w R
def xO:KOk aB 87 zW C8 Q0:=by
 intro R E w h
 obtain ⟨k3,FG,BV⟩:=W.mK h
 obtain ⟨Yo,hq9,BW⟩:=W.xV BV
 exact λa b=>WP.at (E:=[(3,.i k3),(9,Yo.v)]) (sr C8 (K:=λE w=>pB aB Tryz.f36 E w (λv=>R (aJ v) w)) (mp BW) λ_ _ d=>(rt C9 λa c=>iM c d)) (b.cons FG (b.cons hq9 b.nil))
end enthymemeref04_Text
namespace enthymemeref04_Canonical
abbrev X:Fx:=⟨aB,Tryz.f62,[],[3,6]⟩
def dQ (p:ByteArray) (w:aA) (R:aT) (h:aau lq #[.string p] w λb c d e x m y=>cB [] y λa t=>
 aW (m !=0) (loc [a] t λq=>R (aJ (.bool false)) q) (loc [a] t λq=>Qb [a] kC #[.agg #[.i b,.int .u8 c,.int .u8 d,e.v]] q λf g j k n z=>cB [a] z λo u=>
 aW (n==0) (loc [a,o] u λl=>oW [a,o] cE #[.agg #[.i f,.int .u8 g,.int .u8 j,k.v],.i 0] l λr s=>R (aJ (.bool (r.toList==p.toList))) s) (loc [a,o] u λl=>R (aJ (.bool false)) l))):aH aB jl #[.string p] w R:=aZ X [] h
end enthymemeref04_Canonical
end Go.Proofs.YtnpkhgljhcnpcaaGreatDoor
end

import Derived.Test.YtpmimbgkiindbaaGreatAV3
set_option linter.unusedVariables false
set_option linter.unusedSimpArgs false
set_option linter.unusedSectionVars false
open Go.IntKind (wrap)
namespace Go.G
open Go Go.V
abbrev DX:=Den ctx
abbrev KT(k:Nat):=Ex->St->Option (Out ctx k)
noncomputable abbrev LF(D:DX)(n:Nat)(k:Nat):=LQ (C:=ctx) v_ D n k
noncomputable abbrev CF(D:DX)(n:Nat)(k:Nat):=CQ (C:=ctx) v_ D n k
noncomputable abbrev KF(D:DX)(n:Nat)(k:Nat):=LK (C:=ctx) v_ D n k
noncomputable abbrev lF(k:Nat):=B6 (C:=ctx) v_ k
noncomputable abbrev rF(D:DX)(n:Nat)(k:Nat):=KP (C:=ctx) v_ D n k
noncomputable abbrev bF(k:Nat):=CA v_ k
theorem DV{t0 t1 R:Type}{A B:Nat->t0->t1->R}(b:(t0->t1->R)->t0->t1->R)(h0:∀x0 x1,A 0 x0 x1=B 0 x0 x1:=by intros;exact sK ..)(ha:∀m x0 x1,A (m+1) x0 x1=b (A m) x0 x1:=by intros;kernel_rfl)(hb:∀m x0 x1,B (m+1) x0 x1=b (B m) x0 x1:=by intros;rfl):∀m x0 x1,A m x0 x1=B m x0 x1
| 0=>h0
| m+1=>fun x0 x1=>by rw[ha,hb,show A m=B m from funext fun x0=>funext fun x1=>DV b h0 ha hb m x0 x1]
theorem pJ{t0 t1 t2 R:Type}{A B:Nat->t0->t1->t2->R}(b:(t0->t1->t2->R)->t0->t1->t2->R)(h0:∀x0 x1 x2,A 0 x0 x1 x2=B 0 x0 x1 x2:=by intros;exact sK ..)(ha:∀m x0 x1 x2,A (m+1) x0 x1 x2=b (A m) x0 x1 x2:=by intros;kernel_rfl)(hb:∀m x0 x1 x2,B (m+1) x0 x1 x2=b (B m) x0 x1 x2:=by intros;rfl):∀m x0 x1 x2,A m x0 x1 x2=B m x0 x1 x2
| 0=>h0
| m+1=>fun x0 x1 x2=>by rw[ha,hb,show A m=B m from funext fun x0=>funext fun x1=>funext fun x2=>pJ b h0 ha hb m x0 x1 x2]
theorem z9{t0 t1 t2 t3 R:Type}{A B:Nat->t0->t1->t2->t3->R}(b:(t0->t1->t2->t3->R)->t0->t1->t2->t3->R)(h0:∀x0 x1 x2 x3,A 0 x0 x1 x2 x3=B 0 x0 x1 x2 x3:=by intros;exact sK ..)(ha:∀m x0 x1 x2 x3,A (m+1) x0 x1 x2 x3=b (A m) x0 x1 x2 x3:=by intros;kernel_rfl)(hb:∀m x0 x1 x2 x3,B (m+1) x0 x1 x2 x3=b (B m) x0 x1 x2 x3:=by intros;rfl):∀m x0 x1 x2 x3,A m x0 x1 x2 x3=B m x0 x1 x2 x3
| 0=>h0
| m+1=>fun x0 x1 x2 x3=>by rw[ha,hb,show A m=B m from funext fun x0=>funext fun x1=>funext fun x2=>funext fun x3=>z9 b h0 ha hb m x0 x1 x2 x3]
theorem oz{t0 t1 t2 t3 t4 R:Type}{A B:Nat->t0->t1->t2->t3->t4->R}(b:(t0->t1->t2->t3->t4->R)->t0->t1->t2->t3->t4->R)(h0:∀x0 x1 x2 x3 x4,A 0 x0 x1 x2 x3 x4=B 0 x0 x1 x2 x3 x4:=by intros;exact sK ..)(ha:∀m x0 x1 x2 x3 x4,A (m+1) x0 x1 x2 x3 x4=b (A m) x0 x1 x2 x3 x4:=by intros;kernel_rfl)(hb:∀m x0 x1 x2 x3 x4,B (m+1) x0 x1 x2 x3 x4=b (B m) x0 x1 x2 x3 x4:=by intros;rfl):∀m x0 x1 x2 x3 x4,A m x0 x1 x2 x3 x4=B m x0 x1 x2 x3 x4
| 0=>h0
| m+1=>fun x0 x1 x2 x3 x4=>by rw[ha,hb,show A m=B m from funext fun x0=>funext fun x1=>funext fun x2=>funext fun x3=>funext fun x4=>oz b h0 ha hb m x0 x1 x2 x3 x4]
theorem JC{t0 t1 t2 t3 t4 t5 R:Type}{A B:Nat->t0->t1->t2->t3->t4->t5->R}(b:(t0->t1->t2->t3->t4->t5->R)->t0->t1->t2->t3->t4->t5->R)(h0:∀x0 x1 x2 x3 x4 x5,A 0 x0 x1 x2 x3 x4 x5=B 0 x0 x1 x2 x3 x4 x5:=by intros;exact sK ..)(ha:∀m x0 x1 x2 x3 x4 x5,A (m+1) x0 x1 x2 x3 x4 x5=b (A m) x0 x1 x2 x3 x4 x5:=by intros;kernel_rfl)(hb:∀m x0 x1 x2 x3 x4 x5,B (m+1) x0 x1 x2 x3 x4 x5=b (B m) x0 x1 x2 x3 x4 x5:=by intros;rfl):∀m x0 x1 x2 x3 x4 x5,A m x0 x1 x2 x3 x4 x5=B m x0 x1 x2 x3 x4 x5
| 0=>h0
| m+1=>fun x0 x1 x2 x3 x4 x5=>by rw[ha,hb,show A m=B m from funext fun x0=>funext fun x1=>funext fun x2=>funext fun x3=>funext fun x4=>funext fun x5=>JC b h0 ha hb m x0 x1 x2 x3 x4 x5]
theorem W6{t0 t1 t2 t3 t4 t5 t6 R:Type}{A B:Nat->t0->t1->t2->t3->t4->t5->t6->R}(b:(t0->t1->t2->t3->t4->t5->t6->R)->t0->t1->t2->t3->t4->t5->t6->R)(h0:∀x0 x1 x2 x3 x4 x5 x6,A 0 x0 x1 x2 x3 x4 x5 x6=B 0 x0 x1 x2 x3 x4 x5 x6:=by intros;exact sK ..)(ha:∀m x0 x1 x2 x3 x4 x5 x6,A (m+1) x0 x1 x2 x3 x4 x5 x6=b (A m) x0 x1 x2 x3 x4 x5 x6:=by intros;kernel_rfl)(hb:∀m x0 x1 x2 x3 x4 x5 x6,B (m+1) x0 x1 x2 x3 x4 x5 x6=b (B m) x0 x1 x2 x3 x4 x5 x6:=by intros;rfl):∀m x0 x1 x2 x3 x4 x5 x6,A m x0 x1 x2 x3 x4 x5 x6=B m x0 x1 x2 x3 x4 x5 x6
| 0=>h0
| m+1=>fun x0 x1 x2 x3 x4 x5 x6=>by rw[ha,hb,show A m=B m from funext fun x0=>funext fun x1=>funext fun x2=>funext fun x3=>funext fun x4=>funext fun x5=>funext fun x6=>W6 b h0 ha hb m x0 x1 x2 x3 x4 x5 x6]
theorem eL8{t0 t1 t2 t3 t4 t5 t6 t7 R:Type}{A B:Nat->t0->t1->t2->t3->t4->t5->t6->t7->R}(b:(t0->t1->t2->t3->t4->t5->t6->t7->R)->t0->t1->t2->t3->t4->t5->t6->t7->R)(h0:∀x0 x1 x2 x3 x4 x5 x6 x7,A 0 x0 x1 x2 x3 x4 x5 x6 x7=B 0 x0 x1 x2 x3 x4 x5 x6 x7:=by intros;exact sK ..)(ha:∀m x0 x1 x2 x3 x4 x5 x6 x7,A (m+1) x0 x1 x2 x3 x4 x5 x6 x7=b (A m) x0 x1 x2 x3 x4 x5 x6 x7:=by intros;kernel_rfl)(hb:∀m x0 x1 x2 x3 x4 x5 x6 x7,B (m+1) x0 x1 x2 x3 x4 x5 x6 x7=b (B m) x0 x1 x2 x3 x4 x5 x6 x7:=by intros;rfl):∀m x0 x1 x2 x3 x4 x5 x6 x7,A m x0 x1 x2 x3 x4 x5 x6 x7=B m x0 x1 x2 x3 x4 x5 x6 x7
| 0=>h0
| m+1=>fun x0 x1 x2 x3 x4 x5 x6 x7=>by rw[ha,hb,show A m=B m from funext fun x0=>funext fun x1=>funext fun x2=>funext fun x3=>funext fun x4=>funext fun x5=>funext fun x6=>funext fun x7=>eL8 b h0 ha hb m x0 x1 x2 x3 x4 x5 x6 x7]
theorem UX{t0 t1 t2 t3 t4 t5 t6 t7 t8 R:Type}{A B:Nat->t0->t1->t2->t3->t4->t5->t6->t7->t8->R}(b:(t0->t1->t2->t3->t4->t5->t6->t7->t8->R)->t0->t1->t2->t3->t4->t5->t6->t7->t8->R)(h0:∀x0 x1 x2 x3 x4 x5 x6 x7 x8,A 0 x0 x1 x2 x3 x4 x5 x6 x7 x8=B 0 x0 x1 x2 x3 x4 x5 x6 x7 x8:=by intros;exact sK ..)(ha:∀m x0 x1 x2 x3 x4 x5 x6 x7 x8,A (m+1) x0 x1 x2 x3 x4 x5 x6 x7 x8=b (A m) x0 x1 x2 x3 x4 x5 x6 x7 x8:=by intros;kernel_rfl)(hb:∀m x0 x1 x2 x3 x4 x5 x6 x7 x8,B (m+1) x0 x1 x2 x3 x4 x5 x6 x7 x8=b (B m) x0 x1 x2 x3 x4 x5 x6 x7 x8:=by intros;rfl):∀m x0 x1 x2 x3 x4 x5 x6 x7 x8,A m x0 x1 x2 x3 x4 x5 x6 x7 x8=B m x0 x1 x2 x3 x4 x5 x6 x7 x8
| 0=>h0
| m+1=>fun x0 x1 x2 x3 x4 x5 x6 x7 x8=>by rw[ha,hb,show A m=B m from funext fun x0=>funext fun x1=>funext fun x2=>funext fun x3=>funext fun x4=>funext fun x5=>funext fun x6=>funext fun x7=>funext fun x8=>UX b h0 ha hb m x0 x1 x2 x3 x4 x5 x6 x7 x8]
abbrev bZ:List mU:=[.r,.r,.l,.r,.l]
abbrev eN:List mU:=[.r,.r,.r,.l,.r,.l]
abbrev eJ:List mU:=[.r,.l,.r,.l]
abbrev j4:List mU:=[.r,.r,.r,.r,.l,.r,.l]
abbrev xN:List mU:=[.r,.r,.r,.r,.r,.r,.l,.r,.l]
abbrev Mn:List mU:=[.r,.r,.l,.r,.l,.r,.r,.r,.r,.r,.r,.r,.r,.r,.l,.r,.l]
abbrev zI:List mU:=[.r,.r,.r,.r,.r,.l,.r,.l]
abbrev JT:List mU:=[.r,.r,.l,.r,.l,.l,.r,.l,.l,.r,.l,.r,.l]
abbrev Mo:List mU:=[.r,.r,.r,.r,.r,.r,.r,.r,.r,.r,.r,.l,.r,.l]
abbrev YU:List mU:=[.r,.r,.r,.r,.r,.r,.l,.r,.l,.l,.r,.l,.l,.r,.r,.l]
abbrev uB:List mU:=[.r,.l,.l,.r,.l,.l,.r,.l]
abbrev h_:List mU:=[.r,.l]
abbrev EL:List mU:=[.r,.r,.l,.r,.l,.l,.r,.r,.l,.l,.r,.r,.r,.l]
abbrev EM:List mU:=[.r,.r,.r,.l,.r,.l,.l,.r,.l,.l,.r,.r,.r,.l]
abbrev uC:List mU:=[.r,.r,.l,.r,.l,.l]
abbrev n8:List mU:=[.r,.r,.l]
abbrev AE:List mU:=[.r,.l,.l,.r,.l,.r,.l]
abbrev gR:=Bool×Unit
abbrev bE:=Int×Int×Unit
abbrev aF:=(Int×Unit)×Unit
abbrev ag:=gR×Unit
abbrev eP:=Int×List Int×Unit
abbrev aB:=List Int×Int×Unit
abbrev cS:=Unit×List Int×Unit
abbrev aj:=Int×bE
abbrev cr:=(List Int×Unit)×Unit
abbrev lB:=(Int×gR)×Unit
abbrev bt:=List Int×bE
abbrev cF:=Int×aj
abbrev vI:=List aj×Unit
abbrev sU:=bt×Unit
abbrev jA:=(aB×Unit)×Unit
abbrev cE:=Unit×vI
abbrev mO:=vI×Unit
abbrev nG:=sU×Unit
abbrev nF:=(aB×gR)×Unit
abbrev kr:=(aj×gR)×Unit
abbrev pn:=(Int×Unit)×sU
abbrev cW:=List bE×List Int×Int×gR
abbrev zg:=cW×Unit
abbrev jl:=Bool×eP×vI
abbrev jz:=Unit×zg
abbrev nE:=(aB×Unit)×sU
abbrev mb:=zg×Unit
abbrev bH:=Int×Int×List aj×eP×Unit
abbrev bz:=Int×aj×Int×Int×Int×eP×Unit
abbrev gQ:=(List (List aj)×Unit)×sU
abbrev gP:=(aB×List (List aj)×List Int×Unit)×Unit
abbrev nD:=(jl×gR)×Unit
abbrev aN:=List aj×Int×Bool×List bE×List cF×Unit
abbrev aT:=List aj×List bH×Unit
abbrev jk:=(aN×Unit)×Unit
abbrev nC:=(aT×Unit)×Unit
abbrev nY:=(aT×gR)×Unit
abbrev tq8:=(aT×cF×gR)×Unit
abbrev tq7:=(cF×cF×Int×Unit)×aT×Unit
abbrev tq6:=(aT×cF×cF×Int×Unit)×Unit
abbrev aD:=aT×List aN×Int×List bz×List Int×aB×Unit
abbrev wE:=Unit×aD×Unit
abbrev ga:=(aD×Unit)×Unit
abbrev tV:=(Int×Unit)×aD×Unit
abbrev tq1:=gR×aD×Unit
abbrev mE:=(aD×gR)×Unit
noncomputable def Sl(D:Den ctx)(a0:List Int):Option ag:=D 5 (a0,())
noncomputable def Gx(D:Den ctx)(a0:List Int):Option ag:=D 12 (a0,())
noncomputable def qqb(D:Den ctx)(a0:List Int):Option gP:=D 13 (a0,())
noncomputable def qtv(D:Den ctx)(a0:aB)(a1:List (List aj)):Option mE:=D 14 (a0,(a1,()))
noncomputable def qtw(D:Den ctx)(a0:aB)(a1:List (List aj)):Option mE:=D 15 (a0,(a1,()))
noncomputable def Gi(D:Den ctx)(a0:aD)(a1:List Int):Option ga:=D 16 (a0,(a1,()))
noncomputable def Wb(D:Den ctx)(a0:aN):Option ag:=D 17 (a0,())
noncomputable def qxl(D:Den ctx)(a0:aD):Option ag:=D 20 (a0,())
noncomputable def IX(D:Den ctx)(a0:aD)(a1:Int):Option ga:=D 22 (a0,(a1,()))
noncomputable def Vv(D:Den ctx)(a0:List aj)(a1:List bH):Option cr:=D 23 (a0,(a1,()))
noncomputable def VH(D:Den ctx)(a0:aD):Option ag:=D 24 (a0,())
noncomputable def HY(D:Den ctx)(a0:aT):Option ag:=D 25 (a0,())
noncomputable def Iz(D:Den ctx)(a0:List Int):Option ag:=D 26 (a0,())
noncomputable def Im(D:Den ctx)(a0:List Int):Option cr:=D 27 (a0,())
noncomputable def P6(D:Den ctx)(a0 a1:bz):Option ag:=D 29 (a0,(a1,()))
noncomputable def qtt(D:Den ctx)(a0:aD):Option ag:=D 30 (a0,())
noncomputable def A3(D:Den ctx)(a0:List Int):Option jA:=D 31 (a0,())
noncomputable def WM(D:Den ctx)(a0:aB)(a1:Int):Option aF:=D 34 (a0,(a1,()))
noncomputable def v5(D:Den ctx)(a0:Int):Option aF:=D 35 (a0,())
noncomputable def Y5(D:Den ctx)(a0:aB)(a1:Int):Option aF:=D 37 (a0,(a1,()))
noncomputable def WK(D:Den ctx)(a0:aB)(a1:aj)(a2:eP):Option jA:=D 38 (a0,(a1,(a2,())))
noncomputable def WC(D:Den ctx)(a0:aD):Option nF:=D 39 (a0,())
noncomputable def yA(D:Den ctx)(a0:aD):Option ag:=D 40 (a0,())
noncomputable def Y6(D:Den ctx)(a0:aD):Option ag:=D 42 (a0,())
noncomputable def q7z(D:Den ctx)(a0:List Int):Option nG:=D 44 (a0,())
noncomputable def qrr(D:Den ctx)(a0:bt):Option nE:=D 45 (a0,())
noncomputable def qvw(D:Den ctx)(a0:bt):Option gQ:=D 46 (a0,())
noncomputable def rT(D:Den ctx)(a0:bt)(a1:Int):Option pn:=D 47 (a0,(a1,()))
noncomputable def q4q(D:Den ctx)(a0:List Int)(a1 a2:Int):Option aF:=D 48 (a0,(a1,(a2,())))
noncomputable def q4k(D:Den ctx)(a0:aB)(a1:Int):Option nY:=D 49 (a0,(a1,()))
noncomputable def Ks(D:Den ctx)(a0:aB):Option jA:=D 50 (a0,())
noncomputable def q7u(D:Den ctx)(a0:List aj):Option jk:=D 51 (a0,())
noncomputable def q4p(D:Den ctx)(a0:aB)(a1:Int):Option nY:=D 52 (a0,(a1,()))
noncomputable def q4r(D:Den ctx)(a0:aB):Option jA:=D 53 (a0,())
noncomputable def q7x(D:Den ctx)(a0:List aj):Option jk:=D 54 (a0,())
noncomputable def qvv(D:Den ctx)(a0:aD):Option ag:=D 55 (a0,())
noncomputable def Ko(D:Den ctx)(a0:aD):Option ga:=D 56 (a0,())
noncomputable def KB(D:Den ctx)(a0:aD)(a1:Int):Option mE:=D 57 (a0,(a1,()))
noncomputable def k_(D:Den ctx)(a0 a1 a2:Int):Option ag:=D 58 (a0,(a1,(a2,())))
noncomputable def qtu(D:Den ctx)(a0:aD):Option ag:=D 59 (a0,())
noncomputable def Y7(D:Den ctx)(a0:List aj)(a1:List bH)(a2:Int):Option aF:=D 60 (a0,(a1,(a2,())))
noncomputable def qh9(D:Den ctx)(a0:List aN)(a1:a_):Option ag:=D 61 (a0,(a1,()))
noncomputable def Q3(D:Den ctx)(a0:aN):Option ag:=D 62 (a0,())
noncomputable def Dp(D:Den ctx)(a0:aT):Option ag:=D 63 (a0,())
noncomputable def VS(D:Den ctx)(a0:List aj)(a1:a_):Option ag:=D 64 (a0,(a1,()))
noncomputable def To(D:Den ctx)(a0:aj):Option ag:=D 65 (a0,())
noncomputable def KE(D:Den ctx)(a0:aB):Option ag:=D 66 (a0,())
noncomputable def TO(D:Den ctx)(a0 a1:List Int):Option ag:=D 67 (a0,(a1,()))
noncomputable def Jc(D:Den ctx)(a0:aB):Option cr:=D 68 (a0,())
noncomputable def Km(D:Den ctx)(a0:List Int):Option cr:=D 69 (a0,())
noncomputable def sH(D:Den ctx):Option aF:=D 70 ()
noncomputable def KC(D:Den ctx)(a0:aB):Option ag:=D 71 (a0,())
noncomputable def yD(D:Den ctx)(a0:Int):Option aF:=D 73 (a0,())
noncomputable def V4(D:Den ctx)(a0:List Int)(a1:Int):Option aF:=D 74 (a0,(a1,()))
noncomputable def Kx(D:Den ctx)(a0:Bool)(a1:Int):Option aF:=D 75 (a0,(a1,()))
noncomputable def zN(D:Den ctx)(a0:Int):Option ag:=D 76 (a0,())
noncomputable def tE(D:Den ctx)(a0:Int):Option aF:=D 77 (a0,())
noncomputable def Wu(D:Den ctx)(a0:aB)(a1:aj)(a2:eP):Option ag:=D 78 (a0,(a1,(a2,())))
noncomputable def V9(D:Den ctx)(a0:bz)(a1:Int)(a2:aD):Option ag:=D 79 (a0,(a1,(a2,())))
noncomputable def Dq(D:Den ctx)(a0:aj):Option ag:=D 80 (a0,())
noncomputable def qxn(D:Den ctx)(a0:aN)(a1:Int):Option ag:=D 81 (a0,(a1,()))
noncomputable def Y8(D:Den ctx)(a0:aD)(a1:Int):Option ag:=D 82 (a0,(a1,()))
noncomputable def Y9(D:Den ctx)(a0:aD):Option ag:=D 83 (a0,())
noncomputable def I_(D:Den ctx)(a0:eP):Option ((eP×Unit)×Unit):=D 85 (a0,())
noncomputable def Zd(D:Den ctx):Option jA:=D 90 ()
noncomputable def WO(D:Den ctx)(a0:aB)(a1:Int):Option aF:=D 91 (a0,(a1,()))
noncomputable def Wj(D:Den ctx)(a0:bt)(a1:List Int):Option pn:=D 92 (a0,(a1,()))
noncomputable def qrs(D:Den ctx)(a0:bt):Option ((aj×Unit)×sU):=D 93 (a0,())
noncomputable def Ja(D:Den ctx)(a0:bt):Option pn:=D 94 (a0,())
noncomputable def VY(D:Den ctx)(a0:List aj):Option mO:=D 95 (a0,())
noncomputable def Ze(D:Den ctx)(a0:aB):Option cr:=D 96 (a0,())
noncomputable def lZ(D:Den ctx)(a0 a1 a2:Int):Option ag:=D 97 (a0,(a1,(a2,())))
noncomputable def Uv(D:Den ctx)(a0:aT):Option ag:=D 98 (a0,())
noncomputable def WD(D:Den ctx)(a0:aB):Option ag:=D 99 (a0,())
noncomputable def Zf(D:Den ctx)(a0:aD):Option ag:=D 100 (a0,())
noncomputable def qxr(D:Den ctx)(a0:aN)(a1:Int):Option ag:=D 101 (a0,(a1,()))
noncomputable def qxt(D:Den ctx)(a0:aD)(a1:Int):Option ag:=D 102 (a0,(a1,()))
noncomputable def Kv(D:Den ctx)(a0:aT):Option nC:=D 103 (a0,())
noncomputable def Kq(D:Den ctx)(a0:aN):Option jk:=D 104 (a0,())
noncomputable def qng(D:Den ctx)(a0:aD)(a1:Int):Option wE:=D 105 (a0,(a1,()))
noncomputable def qqa(D:Den ctx)(a0:aD)(a1:Int):Option tq1:=D 106 (a0,(a1,()))
noncomputable def Wv(D:Den ctx)(a0:bH)(a1:Int):Option kr:=D 107 (a0,(a1,()))
noncomputable def q1h(D:Den ctx)(a0:List aN)(a1:a_):Option aF:=D 108 (a0,(a1,()))
noncomputable def qd3(D:Den ctx)(a0:List bH)(a1:a_):Option ag:=D 109 (a0,(a1,()))
noncomputable def Pk(D:Den ctx)(a0:bH):Option ag:=D 110 (a0,())
noncomputable def q4j(D:Den ctx)(a0:bH):Option ag:=D 111 (a0,())
noncomputable def q4l(D:Den ctx)(a0:aj)(a1:Int):Option ag:=D 112 (a0,(a1,()))
noncomputable def qiq(D:Den ctx)(a0:List aj)(a1:a_):Option aF:=D 113 (a0,(a1,()))
noncomputable def V1(D:Den ctx)(a0:List Int)(a1:Int):Option ag:=D 114 (a0,(a1,()))
noncomputable def yC(D:Den ctx)(a0:Int):Option aF:=D 115 (a0,())
noncomputable def Pm(D:Den ctx)(a0:aB)(a1:aj)(a2:Int):Option ag:=D 116 (a0,(a1,(a2,())))
noncomputable def Pn(D:Den ctx)(a0:aB)(a1:aj):Option ((List Int×gR)×Unit):=D 117 (a0,(a1,()))
noncomputable def Uu(D:Den ctx)(a0:Int):Option ag:=D 118 (a0,())
noncomputable def Wx(D:Den ctx)(a0:Int):Option ag:=D 119 (a0,())
noncomputable def qfn(D:Den ctx)(a0:List aj)(a1:a_):Option ag:=D 120 (a0,(a1,()))
noncomputable def q54(D:Den ctx)(a0:aj):Option ag:=D 121 (a0,())
noncomputable def VN(D:Den ctx)(a0:List bE)(a1:a_):Option ag:=D 122 (a0,(a1,()))
noncomputable def q55(D:Den ctx)(a0:bE):Option ag:=D 123 (a0,())
noncomputable def Wy(D:Den ctx)(a0:Int):Option ag:=D 124 (a0,())
noncomputable def Kr(D:Den ctx)(a0:Int):Option ag:=D 125 (a0,())
noncomputable def VM(D:Den ctx)(a0:List cF)(a1:a_):Option ag:=D 126 (a0,(a1,()))
noncomputable def q56(D:Den ctx)(a0:cF)(a1:Int):Option ag:=D 127 (a0,(a1,()))
noncomputable def WR(D:Den ctx)(a0:Int):Option ag:=D 132 (a0,())
noncomputable def Cf(D:Den ctx)(a0:Int):Option ag:=D 133 (a0,())
noncomputable def q7w(D:Den ctx)(a0:Int):Option aF:=D 134 (a0,())
noncomputable def Zc(D:Den ctx)(a0:Int):Option aF:=D 135 (a0,())
noncomputable def q7y(D:Den ctx)(a0:Int):Option aF:=D 136 (a0,())
noncomputable def Zb(D:Den ctx)(a0:aB)(a1:Int):Option aF:=D 137 (a0,(a1,()))
noncomputable def Za(D:Den ctx)(a0:Int):Option aF:=D 138 (a0,())
noncomputable def Wz(D:Den ctx):Option aF:=D 139 ()
noncomputable def q4o(D:Den ctx)(a0:bH):Option ag:=D 140 (a0,())
noncomputable def PI(D:Den ctx)(a0:aj)(a1:Int):Option ag:=D 141 (a0,(a1,()))
noncomputable def ag0(D:Den ctx)(a0:bH)(a1:Int):Option kr:=D 142 (a0,(a1,()))
noncomputable def Dl(D:Den ctx)(a0:Int):Option ag:=D 143 (a0,())
noncomputable def ah6(D:Den ctx)(a0:aD)(a1:bz):Option ag:=D 144 (a0,(a1,()))
noncomputable def Uw(D:Den ctx)(a0:Bool):Option aF:=D 145 (a0,())
noncomputable def Vw(D:Den ctx)(a0:aj):Option ag:=D 146 (a0,())
noncomputable def q4s(D:Den ctx)(a0:aD)(a1:Int):Option aF:=D 147 (a0,(a1,()))
noncomputable def qgi(D:Den ctx)(a0:List aj):Option mO:=D 148 (a0,())
noncomputable def VU(D:Den ctx)(a0:List aj):Option mO:=D 149 (a0,())
noncomputable def qgh(D:Den ctx)(a0:List bE):Option ((List bE×Unit)×Unit):=D 150 (a0,())
noncomputable def qgg(D:Den ctx)(a0:List cF):Option ((List cF×Unit)×Unit):=D 151 (a0,())
noncomputable def Gw(D:Den ctx)(a0:aN):Option ((cF×gR)×Unit):=D 152 (a0,())
noncomputable def q4i(D:Den ctx)(a0:aT)(a1:cF):Option tq6:=D 153 (a0,(a1,()))
noncomputable def KA(D:Den ctx)(a0:aN)(a1:cF):Option jk:=D 154 (a0,(a1,()))
noncomputable def UA(D:Den ctx)(a0:aN)(a1:cF):Option jk:=D 155 (a0,(a1,()))
noncomputable def Gv(D:Den ctx)(a0:aN):Option jk:=D 156 (a0,())
noncomputable def TP(D:Den ctx)(a0:aD)(a1:Int)(a2:eP):Option wE:=D 157 (a0,(a1,(a2,())))
noncomputable def TM(D:Den ctx)(a0:aD)(a1:Int)(a2:eP):Option wE:=D 158 (a0,(a1,(a2,())))
noncomputable def Gh(D:Den ctx)(a0:aj)(a1:List bE):Option aF:=D 159 (a0,(a1,()))
noncomputable def WB(D:Den ctx)(a0:aj)(a1:List bE):Option nD:=D 160 (a0,(a1,()))
noncomputable def WL(D:Den ctx)(a0:aT)(a1:Int)(a2:List aj)(a3:eP):Option tq8:=D 161 (a0,(a1,(a2,(a3,()))))
noncomputable def qin(D:Den ctx)(a0:List bH)(a1:a_):Option aF:=D 162 (a0,(a1,()))
noncomputable def qj8(D:Den ctx)(a0:List aj)(a1:a_):Option aF:=D 163 (a0,(a1,()))
noncomputable def qip(D:Den ctx)(a0:List bE)(a1:a_):Option aF:=D 164 (a0,(a1,()))
noncomputable def qio(D:Den ctx)(a0:List cF)(a1:a_):Option aF:=D 165 (a0,(a1,()))
noncomputable def WQ(D:Den ctx)(a0:Int):Option ag:=D 166 (a0,())
noncomputable def Y_(D:Den ctx)(a0:Int):Option aF:=D 167 (a0,())
noncomputable def VC(D:Den ctx)(a0:aT)(a1:cF):Option tq7:=D 168 (a0,(a1,()))
noncomputable def V2(D:Den ctx)(a0:aD)(a1:Int):Option tV:=D 169 (a0,(a1,()))
noncomputable def WN(D:Den ctx)(a0:aj)(a1:List bE):Option mb:=D 170 (a0,(a1,()))
noncomputable def q4m(D:Den ctx)(a0:aj)(a1:List bE):Option ((eP×gR)×Unit):=D 171 (a0,(a1,()))
noncomputable def u_(D:Den ctx)(a0:List bE)(a1:Int):Option lB:=D 172 (a0,(a1,()))
noncomputable def yG(D:Den ctx)(a0:Int):Option aF:=D 173 (a0,())
noncomputable def Ww(D:Den ctx)(a0:aj)(a1:List bE)(a2 a3:Int):Option mO:=D 174 (a0,(a1,(a2,(a3,()))))
noncomputable def V3(D:Den ctx)(a0:List Int):Option cS:=D 175 (a0,())
noncomputable def q4n(D:Den ctx)(a0:aj)(a1 a2 a3 a4:Int):Option aF:=D 176 (a0,(a1,(a2,(a3,(a4,())))))
noncomputable def O7(D:Den ctx)(a0:aj)(a1:Int):Option ag:=D 177 (a0,(a1,()))
noncomputable def TG(D:Den ctx)(a0:cW)(a1:aj):Option jz:=D 178 (a0,(a1,()))
noncomputable def qy(D:Den ctx)(a0:cW)(a1:Int):Option ((Int×Unit)×zg):=D 179 (a0,(a1,()))
noncomputable def tD(D:Den ctx)(a0:cW)(a1:Bool):Option jz:=D 180 (a0,(a1,()))
noncomputable def vW(D:Den ctx)(a0 a1 a2:Int)(a3:List bE)(a4:List aj):Option cE:=D 181 (a0,(a1,(a2,(a3,(a4,())))))
noncomputable def VT(D:Den ctx)(a0:List aj)(a1:a_):Option cE:=D 182 (a0,(a1,()))
noncomputable def q7v(D:Den ctx)(a0 a1:aj):Option aF:=D 183 (a0,(a1,()))
noncomputable def qz(D:Den ctx)(a0:List Int)(a1 a2 a3:Int):Option cS:=D 184 (a0,(a1,(a2,(a3,()))))
noncomputable def Ws(D:Den ctx)(a0:Int):Option aF:=D 185 (a0,())
noncomputable def I6(D:Den ctx)(a0:cW)(a1:Int)(a2:List Int):Option jz:=D 186 (a0,(a1,(a2,())))
noncomputable def qo(D:Den ctx)(a0:List aj)(a1 a2 a3:Int)(a4:a_):Option cE:=D 187 (a0,(a1,(a2,(a3,(a4,())))))
noncomputable def qkn(D:Den ctx)(a0:List Int)(a1 a2:Int):Option cS:=D 188 (a0,(a1,(a2,())))
noncomputable def q0o(D:Den ctx)(a0:List Int)(a1 a2:Int):Option cS:=D 189 (a0,(a1,(a2,())))
noncomputable def qva(D:Den ctx)(a0:List Int)(a1 a2:Int):Option cS:=D 190 (a0,(a1,(a2,())))
noncomputable def qll(D:Den ctx)(a0:List Int)(a1 a2:Int):Option (bE×Unit):=D 191 (a0,(a1,(a2,())))
noncomputable def qk7(D:Den ctx)(a0:List Int)(a1 a2:Int):Option cS:=D 192 (a0,(a1,(a2,())))
noncomputable def VP(D:Den ctx)(a0:List Int)(a1 a2:Int):Option (gR×List Int×Unit):=D 193 (a0,(a1,(a2,())))
noncomputable def yB(D:Den ctx)(a0 a1:Int):Option ag:=D 194 (a0,(a1,()))
noncomputable def Dg(D:Den ctx)(a0:List Int)(a1 a2 a3:Int):Option ((Int×Unit)×List Int×Unit):=D 195 (a0,(a1,(a2,(a3,()))))
noncomputable def Dh(D:Den ctx)(a0:List Int)(a1 a2 a3:Int):Option ((Int×gR)×List Int×Unit):=D 196 (a0,(a1,(a2,(a3,()))))
noncomputable def q57(D:Den ctx)(a0:Int):Option aF:=D 198 (a0,())
noncomputable def qhy(D:Den ctx)(a0:List aj)(a1 a2:Int)(a3:a_):Option cE:=D 199 (a0,(a1,(a2,(a3,()))))
noncomputable def qtb(D:Den ctx)(a0:List aj)(a1 a2:Int)(a3:a_):Option cE:=D 200 (a0,(a1,(a2,(a3,()))))
noncomputable def qoo(D:Den ctx)(a0:List aj)(a1 a2:Int)(a3:a_):Option cE:=D 201 (a0,(a1,(a2,(a3,()))))
noncomputable def qir(D:Den ctx)(a0:List aj)(a1 a2:Int)(a3:a_):Option (bE×Unit):=D 202 (a0,(a1,(a2,(a3,()))))
noncomputable def qig(D:Den ctx)(a0:List aj)(a1 a2:Int)(a3:a_):Option cE:=D 203 (a0,(a1,(a2,(a3,()))))
noncomputable def VQ(D:Den ctx)(a0:List aj)(a1 a2:Int)(a3:a_):Option (gR×vI):=D 204 (a0,(a1,(a2,(a3,()))))
noncomputable def De(D:Den ctx)(a0:List aj)(a1 a2 a3:Int)(a4:a_):Option ((Int×Unit)×vI):=D 205 (a0,(a1,(a2,(a3,(a4,())))))
noncomputable def Df(D:Den ctx)(a0:List aj)(a1 a2 a3:Int)(a4:a_):Option ((Int×gR)×vI):=D 206 (a0,(a1,(a2,(a3,(a4,())))))
noncomputable def qxh(D:Den ctx)(a0:Int):Option ag:=D 212 (a0,())
set_option maxRecDepth 100000
set_option maxHeartbeats 0
noncomputable section
def Tj(D:DX)(n:Nat)(a0:List Int):Option ag:=qd (Gx D a0) fun p7=>br p7.1.1 (some ((true,()),())) (qd (qqb D a0) fun p0=>qd (qtv D p0.1.1 p0.1.2.1) fun p2=>qd (qtw D p0.1.1 p0.1.2.1) fun p8=>br (bif !decide (p2.1.2.1=p8.1.2.1) then true else !p2.1.2.1) (some ((false,()),())) (qd (Gi D p2.1.1 p0.1.2.2.1) fun p9=>qd (IX D p9.1.1 2000) fun p1=>qd (Vv D p1.1.1.1.1 p1.1.1.1.2.1) fun p3=>qd (VH D p1.1.1) fun jx=>br jx.1.1 (qd (HY D p1.1.1.1) fun jR=>br jR.1.1 (qd (qxl D p1.1.1) fun p4=>br p4.1.1 (qd (Iz D p3.1.1) fun p5=>br p5.1.1 (qd (Im D p3.1.1) fun p6=>some ((decide ((p6.1.1.length:Int)=0),()),())) (some ((false,()),()))) (some ((false,()),()))) (some ((false,()),()))) (some ((false,()),()))))
def GP(D:DX)(n:Nat)(a0:List Int):Option ag:=Tj D n a0
theorem ali(D:DX)(n:Nat)(a0:List Int):rF D n 5 (a0,())=GP D n a0:=by kernel_rfl
def abe(D:DX)(n:Nat)(a0:List Int):Option ag:=some ((decide ((a0.length:Int)>1048576),()),())
def QL(D:DX)(n:Nat)(a0:List Int):Option ag:=abe D n a0
theorem aa0(D:DX)(n:Nat)(a0:List Int):rF D n 12 (a0,())=QL D n a0:=by kernel_rfl
def qpa(D:DX)(n:Nat)(go:Int->Int->Int->Int->aB->aB->List (List aj)->List Int->bt->Option gP)(K0:Int->Int->aB->aB->List (List aj)->List Int->bt->Option gP)(c d e f:Int)(g h:aB)(i:List (List aj))(a:List Int)(j:bt):Option gP:=qd (rT D j 6) fun b=>br (decide (f<wrap .i64 (1+b.1.1))) (br (decide (a.length+1<=f_)) (go c d e (wrap .i64 (f+1)) g h i (a++[e]) b.2.1) none) (K0 c d g h i a b.2.1)
def TF(D:DX)(n:Nat)(K0:Int->Int->aB->aB->List (List aj)->List Int->bt->Option gP):Nat->Int->Int->Int->Int->aB->aB->(List (List aj))->(List Int)->bt->Option gP | 0=>(fun a b c d e f g h i=>none) | m+1=>(fun a b c d e f g h i=>qpa D n (TF D n K0 m) K0 a b c d e f g h i)
def qm1(D:DX)(n:Nat)(go:Int->Int->aB->aB->List (List aj)->List Int->bt->Option gP)(K0:aB->aB->List (List aj)->List Int->Option gP)(a b:Int)(c d:aB)(e:List (List aj))(f:List Int)(g:bt):Option gP:=go a (wrap .i64 (b+1)) c d e f g
def qn4(D:DX)(n:Nat)(go:Int->Int->aB->aB->List (List aj)->List Int->bt->Option gP)(K0:aB->aB->List (List aj)->List Int->Option gP):(Int)->(Int)->(Int)->(Int)->aB->aB->(List (List aj))->(List Int)->bt->Option gP:=(fun a i j k l m o p q=>TF D n (fun b c d e f g h=>qm1 D n go K0 b c d e f g h) n a i j k l m o p q)
def qo9(D:DX)(n:Nat)(go:Int->Int->aB->aB->List (List aj)->List Int->bt->Option gP)(K0:aB->aB->List (List aj)->List Int->Option gP)(mJ:Int->Int->Int->Int->aB->aB->List (List aj)->List Int->bt->Option gP)(x0 x1:Int)(x2 x3:aB)(x4:List (List aj))(x5:List Int)(x6:bt):Option gP:=br (decide (x1<x0)) (qd (rT D x6 (x4.length:Int)) fun b=>mJ x0 x1 b.1.1 0 x2 x3 x4 x5 b.2.1) (K0 x2 x3 x4 x5)
def Di(D:DX)(n:Nat)(K0:aB->aB->List (List aj)->List Int->Option gP):Nat->Int->Int->aB->aB->(List (List aj))->(List Int)->bt->Option gP | 0=>(fun x0 x1 x2 x3 x4 x5 x6=>none) | m+1=>(fun x0 x1 x2 x3 x4 x5 x6=>qo9 D n (Di D n K0 m) K0 (qn4 D n (Di D n K0 m) K0) x0 x1 x2 x3 x4 x5 x6)
def qvj(D:DX)(n:Nat)(d a:aB)(b:List (List aj))(c:List Int):Option gP:=some (((a.1,a.2),b,c,()),())
def qn3(D:DX)(n:Nat):(Int)->(Int)->aB->aB->(List (List aj))->(List Int)->bt->Option gP:=(fun x0 x1 x2 x3 x4 x5 x6=>Di D n (fun a b c d=>qvj D n a b c d) n x0 x1 x2 x3 x4 x5 x6)
def qqy(D:DX)(n:Nat)(cz:Int->Int->aB->aB->List (List aj)->List Int->bt->Option gP)(a0:List Int):Option gP:=qd (q7z D a0) fun b=>qd (qrr D b.1.1) fun b=>qd (qvw D b.2.1) fun b_1=>qd (q4q D a0 60 120) fun b_2=>qd (rT D b_1.2.1 b_2.1.1) fun UW=>cz UW.1.1 0 ([],0,()) (b.1.1.1,b.1.1.2) b_1.1.1 [] UW.2.1
def qqh(D:DX)(n:Nat)(a0:List Int):Option gP:=qqy D n (qn3 D n) a0
def I3(x0 x1:Int)(x2 x3:aB)(x4:List (List aj))(x5:List Int)(x6:bt):St:=bq 47 [(2,AV.addr 2 []),(5,AV.addr 14 []),(6,AV.addr 6 []),(7,AV.b8 7 [] 0),(8,AV.b8 8 [] 0),(9,AV.val ah x0),(10,AV.val ah x1)] [(2,aC.mk bO iB x2 true),(6,aC.mk bO iB x3 true),(7,aC.mk jV qH x4 false),(8,aC.mk bu eL x5 false),(14,aC.mk jm Mk.no x6 true)]
def V6(a b:aB)(c:List (List aj))(d:List Int):St:=bq 47 [(2,AV.addr 2 []),(6,AV.addr 6 []),(7,AV.b8 7 [] 0),(8,AV.b8 8 [] 0)] [(2,aC.mk bO iB a true),(6,aC.mk bO iB b true),(7,aC.mk jV qH c false),(8,aC.mk bu eL d false)]
def qo8(a b c d:Int)(e f:aB)(g:List (List aj))(h:List Int)(i:bt):St:=bq 47 [(2,AV.addr 2 []),(5,AV.addr 14 []),(6,AV.addr 6 []),(7,AV.b8 7 [] 0),(8,AV.b8 8 [] 0),(9,AV.val ah a),(10,AV.val ah b),(11,AV.val ah c),(12,AV.val ah d)] [(2,aC.mk bO iB e true),(6,aC.mk bO iB f true),(7,aC.mk jV qH g false),(8,aC.mk bu eL h false),(14,aC.mk jm Mk.no i true)]
def qvi(a b:Int)(c d:aB)(e:List (List aj))(f:List Int)(g:bt):St:=bq 47 [(2,AV.addr 2 []),(5,AV.addr 14 []),(6,AV.addr 6 []),(7,AV.b8 7 [] 0),(8,AV.b8 8 [] 0),(9,AV.val ah a),(10,AV.val ah b)] [(2,aC.mk bO iB c true),(6,aC.mk bO iB d true),(7,aC.mk jV qH e false),(8,aC.mk bu eL f false),(14,aC.mk jm Mk.no g true)]
theorem adI(D:DX)(n:Nat)(K:KT 13):∀(m:Nat)(h i j k:Int)(l o:aB)(p:List (List aj))(q:List Int)(r:bt),LF D n 13 YU m (qo8 h i j k l o p q r) K=TF D n (fun a b c d e f g=>K (Ex.exit 2) (qvi a b c d e f g)) m h i j k l o p q r:=UX (fun F=>qpa D n F (fun a b c d e f g=>K (Ex.exit 2) (qvi a b c d e f g)))
theorem adt(D:DX)(n:Nat)(m:Nat)(K:KT 13)(a b c d:Int)(e f:aB)(g:List (List aj))(h:List Int)(i:bt):LF D n 13 YU n (qo8 a b c d e f g h i) (CF D n 13 [.r,.r,.r,.r,.r,.r,.l,.r,.l,.l] [.r,.l,.l,.r,.r,.l] (KF D n 13 xN m K))=qn4 D n (fun x0 x1 x2 x3 x4 x5 x6=>LF D n 13 xN m (I3 x0 x1 x2 x3 x4 x5 x6) K) (fun j k o p=>K (Ex.exit 0) (V6 j k o p)) a b c d e f g h i :=by rw[adI];kernel_rfl
theorem adJ(D:DX)(n:Nat)(m:Nat)(K:KT 13)(x0)(x1)(x2)(x3)(x4:List (List aj))(x5)(x6):LF D n 13 xN (m+1) (I3 x0 x1 x2 x3 x4 x5 x6) K=qo9 D n (fun x0 x1 x2 x3 x4 x5 x6=>LF D n 13 xN m (I3 x0 x1 x2 x3 x4 x5 x6) K) (fun a b c d=>K (Ex.exit 0) (V6 a b c d)) (fun e f g h i j k o p=>LF D n 13 YU n (qo8 e f g h i j k o p) (CF D n 13 [.r,.r,.r,.r,.r,.r,.l,.r,.l,.l] [.r,.l,.l,.r,.r,.l] (KF D n 13 xN m K))) x0 x1 x2 x3 x4 x5 x6:=by kernel_rfl
theorem qxe(D:DX)(n:Nat)(K:KT 13):∀(m:Nat)(x0 x1:Int)(x2 x3:aB)(x4:List (List aj))(x5:List Int)(x6:bt),LF D n 13 xN m (I3 x0 x1 x2 x3 x4 x5 x6) K=Di D n (fun a b c d=>K (Ex.exit 0) (V6 a b c d)) m x0 x1 x2 x3 x4 x5 x6
 | 0,x0,x1,x2,x3,x4,x5,x6=>sK ..
 | m+1,x0,x1,x2,x3,x4,x5,x6=>by
  have ih:(fun x0 x1 x2 x3 x4 x5 x6=>LF D n 13 xN m (I3 x0 x1 x2 x3 x4 x5 x6) K)=Di D n (fun a b c d=>K (Ex.exit 0) (V6 a b c d)) m:=by funext x0 x1 x2 x3 x4 x5 x6;exact qxe D n K m x0 x1 x2 x3 x4 x5 x6
  rw[adJ];simp only[adt];rw[ih];rfl
theorem ads(D:DX)(n:Nat)(x0)(x1)(x2)(x3)(x4:List (List aj))(x5)(x6):LF D n 13 xN n (I3 x0 x1 x2 x3 x4 x5 x6) (CF D n 13 [] xN (lF 13))=qn3 D n x0 x1 x2 x3 x4 x5 x6 :=by rw[qxe];kernel_rfl
theorem ad9(D:DX)(n:Nat)(a0:List Int):rF D n 13 (a0,())=qqh D n a0:=by
 have h:rF D n 13 (a0,())=qqy D n (fun x0 x1 x2 x3 x4 x5 x6=>LF D n 13 xN n (I3 x0 x1 x2 x3 x4 x5 x6) (CF D n 13 [] xN (lF 13))) a0:=by kernel_rfl
 rw[h];simp only[ads];rfl
def qsc(D:DX)(n:Nat)(go:Bool->List (List aj)->Int->Int->aD->aD->Option mE)(K0:Bool->aD->aD->Option mE)(x0:Bool)(x1:List (List aj))(x2 x3:Int)(x4 x5:aD):Option mE:=br (decide (x3<x2)) (br (decide (0<=x3)&&decide (x3<(x1.length:Int))) (qd (q7u D (List.getD x1 x3.toNat [])) fun p0=>br (decide (x5.2.1.length+1<=f_)) (go x0 x1 x2 (wrap .i64 (x3+1)) x4 (x5.1,x5.2.1++[(p0.1.1.1,p0.1.1.2.1,p0.1.1.2.2.1,p0.1.1.2.2.2.1,p0.1.1.2.2.2.2.1,())],x5.2.2)) none) none) (K0 x0 x4 x5)
def TR(D:DX)(n:Nat)(K0:Bool->aD->aD->Option mE):Nat->Bool->(List (List aj))->Int->Int->aD->aD->Option mE | 0=>(fun x0 x1 x2 x3 x4 x5=>none) | m+1=>(fun x0 x1 x2 x3 x4 x5=>qsc D n (TR D n K0 m) K0 x0 x1 x2 x3 x4 x5)
def qyl(D:DX)(n:Nat)(b:Bool)(c a:aD):Option mE:=br (!b) (some (((([],[],()),[],0,[],[],([],0,()),()),false,()),())) (qd (yA D ((a.1.1,a.1.2.1,()),a.2.1,a.2.2.1,a.2.2.2.1,a.2.2.2.2.1,(a.2.2.2.2.2.1.1,a.2.2.2.2.2.1.2),())) fun p0=>br (!p0.1.1) (some (((([],[],()),[],0,[],[],([],0,()),()),false,()),())) (some ((((a.1.1,a.1.2.1,()),a.2.1,a.2.2.1,a.2.2.2.1,a.2.2.2.2.1,(a.2.2.2.2.2.1.1,a.2.2.2.2.2.1.2),()),true,()),())))
def qqp(D:DX)(n:Nat):(Bool)->(List (List aj))->(Int)->(Int)->aD->aD->Option mE:=(fun x0 x1 x2 x3 x4 x5=>TR D n (fun a b c=>qyl D n a b c) n x0 x1 x2 x3 x4 x5)
def qui(D:DX)(n:Nat)(cz:Bool->List (List aj)->Int->Int->aD->aD->Option mE)(a0:aB)(a1:List (List aj)):Option mE:=qd (q4k D a0 (a1.length:Int)) fun b=>qd (Ks D a0) fun b_1=>cz b.1.2.1 a1 (a1.length:Int) 0 (([],[],()),[],0,[],[],([],0,()),()) ((b.1.1.1,b.1.1.2.1,()),[],0,[],[],(b_1.1.1.1,b_1.1.1.2),())
def qt4(D:DX)(n:Nat)(a0:aB)(a1:List (List aj)):Option mE:=qui D n (qqp D n) a0 a1
def qsb(x0:Bool)(x1:List (List aj))(x2 x3:Int)(x4 x5:aD):St:=bq 45 [(4,AV.addr 4 []),(7,AV.val Ty.bool x0),(8,AV.addr 8 []),(22,AV.val jV x1),(23,AV.val ah x2),(24,AV.val ah x3)] [(4,aC.mk cP rR x4 true),(8,aC.mk cP JQ x5 true)]
def qyk(a:Bool)(b c:aD):St:=bq 45 [(4,AV.addr 4 []),(7,AV.val Ty.bool a),(8,AV.addr 8 [])] [(4,aC.mk cP rR b true),(8,aC.mk cP JQ c true)]
theorem aed(D:DX)(n:Nat)(K:KT 14):∀(m:Nat)(x0:Bool)(x1:List (List aj))(x2 x3:Int)(x4 x5:aD),LF D n 14 eN m (qsb x0 x1 x2 x3 x4 x5) K=TR D n (fun a b c=>K (Ex.exit 0) (qyk a b c)) m x0 x1 x2 x3 x4 x5:=JC (fun F=>qsc D n F (fun a b c=>K (Ex.exit 0) (qyk a b c)))
theorem adS(D:DX)(n:Nat)(x0)(x1:List (List aj))(x2)(x3)(x4)(x5):LF D n 14 eN n (qsb x0 x1 x2 x3 x4 x5) (CF D n 14 [] eN (lF 14))=qqp D n x0 x1 x2 x3 x4 x5 :=by rw[aed];kernel_rfl
theorem aeU(D:DX)(n:Nat)(a0:aB)(a1:List (List aj)):rF D n 14 (a0,(a1,()))=qt4 D n a0 a1:=by
 have h:rF D n 14 (a0,(a1,()))=qui D n (fun x0 x1 x2 x3 x4 x5=>LF D n 14 eN n (qsb x0 x1 x2 x3 x4 x5) (CF D n 14 [] eN (lF 14))) a0 a1:=by kernel_rfl
 rw[h];simp only[adS];rfl
def qsu(D:DX)(n:Nat)(go:List (List aj)->Bool->Int->aD->aD->Option mE)(K0:Bool->aD->aD->Option mE)(x0:List (List aj))(x1:Bool)(x2:Int)(x3 x4:aD):Option mE:=br (decide (x2<(x0.length:Int))) (br (decide (0<=x2)&&decide (x2<(x0.length:Int))) (qd (q7x D (List.getD x0 x2.toNat [])) fun p0=>br (decide (x4.2.1.length+1<=f_)) (go x0 x1 (wrap .i64 (x2+1)) x3 (x4.1,x4.2.1++[(p0.1.1.1,p0.1.1.2.1,p0.1.1.2.2.1,p0.1.1.2.2.2.1,p0.1.1.2.2.2.2.1,())],x4.2.2)) none) none) (K0 x1 x3 x4)
def TS(D:DX)(n:Nat)(K0:Bool->aD->aD->Option mE):Nat->(List (List aj))->Bool->Int->aD->aD->Option mE | 0=>(fun x0 x1 x2 x3 x4=>none) | m+1=>(fun x0 x1 x2 x3 x4=>qsu D n (TS D n K0 m) K0 x0 x1 x2 x3 x4)
def qzj(D:DX)(n:Nat)(b:Bool)(c a:aD):Option mE:=br (!b) (some (((([],[],()),[],0,[],[],([],0,()),()),false,()),())) (qd (qvv D ((a.1.1,a.1.2.1,()),a.2.1,a.2.2.1,a.2.2.2.1,a.2.2.2.2.1,(a.2.2.2.2.2.1.1,a.2.2.2.2.2.1.2),())) fun p0=>br (!p0.1.1) (some (((([],[],()),[],0,[],[],([],0,()),()),false,()),())) (some ((((a.1.1,a.1.2.1,()),a.2.1,a.2.2.1,a.2.2.2.1,a.2.2.2.2.1,(a.2.2.2.2.2.1.1,a.2.2.2.2.2.1.2),()),true,()),())))
def qqz(D:DX)(n:Nat):(List (List aj))->(Bool)->(Int)->aD->aD->Option mE:=(fun x0 x1 x2 x3 x4=>TS D n (fun a b c=>qzj D n a b c) n x0 x1 x2 x3 x4)
def quu(D:DX)(n:Nat)(cz:List (List aj)->Bool->Int->aD->aD->Option mE)(a0:aB)(a1:List (List aj)):Option mE:=qd (q4p D a0 (a1.length:Int)) fun b=>qd (q4r D a0) fun b_1=>cz a1 b.1.2.1 0 (([],[],()),[],0,[],[],([],0,()),()) ((b.1.1.1,b.1.1.2.1,()),[],0,[],[],(b_1.1.1.1,b_1.1.1.2),())
def qua(D:DX)(n:Nat)(a0:aB)(a1:List (List aj)):Option mE:=quu D n (qqz D n) a0 a1
def qst(x0:List (List aj))(x1:Bool)(x2:Int)(x3 x4:aD):St:=bq 46 [(1,AV.val jV x0),(4,AV.addr 4 []),(7,AV.val Ty.bool x1),(8,AV.addr 8 []),(9,AV.val ah x2)] [(4,aC.mk cP rR x3 true),(8,aC.mk cP rR x4 true)]
def qzi(a:Bool)(b c:aD):St:=bq 46 [(4,AV.addr 4 []),(7,AV.val Ty.bool a),(8,AV.addr 8 [])] [(4,aC.mk cP rR b true),(8,aC.mk cP rR c true)]
theorem ad4(D:DX)(n:Nat)(K:KT 15):∀(m:Nat)(x0:List (List aj))(x1:Bool)(x2:Int)(x3 x4:aD),LF D n 15 eN m (qst x0 x1 x2 x3 x4) K=TS D n (fun a b c=>K (Ex.exit 0) (qzi a b c)) m x0 x1 x2 x3 x4:=oz (fun F=>qsu D n F (fun a b c=>K (Ex.exit 0) (qzi a b c)))
theorem adL(D:DX)(n:Nat)(x0:List (List aj))(x1)(x2)(x3)(x4):LF D n 15 eN n (qst x0 x1 x2 x3 x4) (CF D n 15 [] eN (lF 15))=qqz D n x0 x1 x2 x3 x4 :=by rw[ad4];kernel_rfl
theorem ae3(D:DX)(n:Nat)(a0:aB)(a1:List (List aj)):rF D n 15 (a0,(a1,()))=qua D n a0 a1:=by
 have h:rF D n 15 (a0,(a1,()))=quu D n (fun x0 x1 x2 x3 x4=>LF D n 15 eN n (qst x0 x1 x2 x3 x4) (CF D n 15 [] eN (lF 15))) a0 a1:=by kernel_rfl
 rw[h];simp only[adL];rfl
def q82(D:DX)(n:Nat)(go:List Int->Int->Int->aD->aD->Option ga)(K0:aD->aD->Option ga)(x0:List Int)(x1 x2:Int)(x3 x4:aD):Option ga:=br (decide (x2<x1)) (br (decide (0<=x2)&&decide (x2<(x0.length:Int))) (qd (KB D x3 (List.getD x0 x2.toNat 0)) fun b=>go x0 x1 (wrap .i64 (x2+1)) b.1.1 x4) none) (K0 x3 x4)
def Ux(D:DX)(n:Nat)(K0:aD->aD->Option ga):Nat->(List Int)->Int->Int->aD->aD->Option ga | 0=>(fun x0 x1 x2 x3 x4=>none) | m+1=>(fun x0 x1 x2 x3 x4=>q82 D n (Ux D n K0 m) K0 x0 x1 x2 x3 x4)
def ah0(D:DX)(n:Nat)(a b:aD):Option ga:=some ((a,()),())
def q5k(D:DX)(n:Nat):(List Int)->(Int)->(Int)->aD->aD->Option ga:=(fun x0 x1 x2 x3 x4=>Ux D n (fun a b=>ah0 D n a b) n x0 x1 x2 x3 x4)
def Gr(D:DX)(n:Nat)(cz:List Int->Int->Int->aD->aD->Option ga)(a0:aD)(a1:List Int):Option ga:=qd (Ko D a0) fun p0=>br (decide ((a1.length:Int)>2000)) (some ((((p0.1.1.1.1,p0.1.1.1.2.1,()),p0.1.1.2.1,p0.1.1.2.2.1,p0.1.1.2.2.2.1,p0.1.1.2.2.2.2.1,p0.1.1.2.2.2.2.2),()),())) (cz a1 (a1.length:Int) 0 ((p0.1.1.1.1,p0.1.1.1.2.1,()),p0.1.1.2.1,p0.1.1.2.2.1,p0.1.1.2.2.2.1,p0.1.1.2.2.2.2.1,p0.1.1.2.2.2.2.2) (([],[],()),[],0,[],[],([],0,()),()))
def Gl(D:DX)(n:Nat)(a0:aD)(a1:List Int):Option ga:=Gr D n (q5k D n) a0 a1
def q81(x0:List Int)(x1 x2:Int)(x3 x4:aD):St:=bq 27 [(2,AV.addr 2 []),(4,AV.addr 4 []),(13,AV.val bu x0),(14,AV.val ah x1),(15,AV.val ah x2)] [(2,aC.mk cP Mk.no x3 true),(4,aC.mk cP rR x4 true)]
def Pd(a b:aD):St:=bq 27 [(2,AV.addr 2 []),(4,AV.addr 4 [])] [(2,aC.mk cP Mk.no a true),(4,aC.mk cP rR b true)]
theorem aiS(D:DX)(n:Nat)(K:KT 16):∀(m:Nat)(x0:List Int)(x1 x2:Int)(x3 x4:aD),LF D n 16 eN m (q81 x0 x1 x2 x3 x4) K=Ux D n (fun a b=>K (Ex.exit 0) (Pd a b)) m x0 x1 x2 x3 x4:=oz (fun F=>q82 D n F (fun a b=>K (Ex.exit 0) (Pd a b)))
theorem ahZ(D:DX)(n:Nat)(x0)(x1)(x2)(x3)(x4):LF D n 16 eN n (q81 x0 x1 x2 x3 x4) (CF D n 16 [] eN (lF 16))=q5k D n x0 x1 x2 x3 x4 :=by rw[aiS];kernel_rfl
theorem aab(D:DX)(n:Nat)(a0:aD)(a1:List Int):rF D n 16 (a0,(a1,()))=Gl D n a0 a1:=by
 have h:rF D n 16 (a0,(a1,()))=Gr D n (fun x0 x1 x2 x3 x4=>LF D n 16 eN n (q81 x0 x1 x2 x3 x4) (CF D n 16 [] eN (lF 16))) a0 a1:=by kernel_rfl
 rw[h];simp only[ahZ];rfl
def qun(D:DX)(n:Nat)(a0:aN):Option ag:=some ((decide (a0.2.1=(a0.1.length:Int)),()),())
def Wc(D:DX)(n:Nat)(a0:aN):Option ag:=qun D n a0
theorem aeW(D:DX)(n:Nat)(a0:aN):rF D n 17 (a0,())=Wc D n a0:=by kernel_rfl
def OX(D:DX)(n:Nat)(a0:aD):Option ag:=qd (Y6 D a0) fun b=>br b.1.1 (qd (qtu D a0) fun b=>br b.1.1 (qd (qtt D a0) fun b=>some ((b.1.1,()),())) (some ((false,()),()))) (some ((false,()),()))
def qxw(D:DX)(n:Nat)(a0:aD):Option ag:=OX D n a0
theorem ago(D:DX)(n:Nat)(a0:aD):rF D n 20 (a0,())=qxw D n a0:=by kernel_rfl
def F6(D:DX)(n:Nat)(go:Int->Int->Bool->Int->Int->aD->aD->Option ga)(K0:Int->Int->Bool->aD->aD->Option ga)(c d:Int)(e:Bool)(f a:Int)(g h:aD):Option ga:=br (decide (a<f)) (qd (KB D g a) fun b=>go c d (bif e then true else b.1.2.1) f (wrap .i64 (a+1)) b.1.1 h) (K0 c d e g h)
def MH(D:DX)(n:Nat)(K0:Int->Int->Bool->aD->aD->Option ga):Nat->Int->Int->Bool->Int->Int->aD->aD->Option ga | 0=>(fun a b c d e f g=>none) | m+1=>(fun a b c d e f g=>F6 D n (MH D n K0 m) K0 a b c d e f g)
def Hr(D:DX)(n:Nat)(go:Int->Int->aD->aD->Option ga)(K0:aD->aD->Option ga)(c d:Int)(e:Bool)(a b:aD):Option ga:=br (!e) (K0 a b) (go c (wrap .i64 (d+1)) a b)
def HL(D:DX)(n:Nat)(go:Int->Int->aD->aD->Option ga)(K0:aD->aD->Option ga):(Int)->(Int)->(Bool)->(Int)->(Int)->aD->aD->Option ga:=(fun a g h i j k l=>MH D n (fun b c d e f=>Hr D n go K0 b c d e f) n a g h i j k l)
def Fw(D:DX)(n:Nat)(go:Int->Int->aD->aD->Option ga)(K0:aD->aD->Option ga)(mJ:Int->Int->Bool->Int->Int->aD->aD->Option ga)(x0 x1:Int)(x2 x3:aD):Option ga:=br (bif decide (x1<x0) then decide (x1<2000) else false) (qd (VH D x2) fun b=>br (!b.1.1) (mJ x0 x1 false (x2.2.1.length:Int) 0 x2 x3) (K0 x2 x3)) (K0 x2 x3)
def Da(D:DX)(n:Nat)(K0:aD->aD->Option ga):Nat->Int->Int->aD->aD->Option ga | 0=>(fun x0 x1 x2 x3=>none) | m+1=>(fun x0 x1 x2 x3=>Fw D n (Da D n K0 m) K0 (HL D n (Da D n K0 m) K0) x0 x1 x2 x3)
def Ts(D:DX)(n:Nat)(a b:aD):Option ga:=some ((a,()),())
def Hu(D:DX)(n:Nat):(Int)->(Int)->aD->aD->Option ga:=(fun x0 x1 x2 x3=>Da D n (fun a b=>Ts D n a b) n x0 x1 x2 x3)
def IZ(D:DX)(n:Nat)(cz:Int->Int->aD->aD->Option ga)(a0:aD)(a1:Int):Option ga:=qd (Ko D a0) fun b=>cz a1 0 ((b.1.1.1.1,b.1.1.1.2.1,()),b.1.1.2.1,b.1.1.2.2.1,b.1.1.2.2.2.1,b.1.1.2.2.2.2.1,b.1.1.2.2.2.2.2) (([],[],()),[],0,[],[],([],0,()),())
def IY(D:DX)(n:Nat)(a0:aD)(a1:Int):Option ga:=IZ D n (Hu D n) a0 a1
def E_(x0 x1:Int)(x2 x3:aD):St:=bq 47 [(1,AV.val ah x0),(2,AV.addr 2 []),(4,AV.addr 4 []),(5,AV.val ah x1)] [(2,aC.mk cP Mk.no x2 true),(4,aC.mk cP rR x3 true)]
def VL(a b:aD):St:=bq 47 [(2,AV.addr 2 []),(4,AV.addr 4 [])] [(2,aC.mk cP Mk.no a true),(4,aC.mk cP rR b true)]
def Fy(a b:Int)(c:Bool)(d e:Int)(f g:aD):St:=bq 47 [(1,AV.val ah a),(2,AV.addr 2 []),(4,AV.addr 4 []),(5,AV.val ah b),(6,AV.val Ty.bool c),(28,AV.val ah d),(29,AV.val ah e)] [(2,aC.mk cP Mk.no f true),(4,aC.mk cP rR g true)]
def Tq(a b:Int)(c:Bool)(d e:aD):St:=bq 47 [(1,AV.val ah a),(2,AV.addr 2 []),(4,AV.addr 4 []),(5,AV.val ah b),(6,AV.val Ty.bool c)] [(2,aC.mk cP Mk.no d true),(4,aC.mk cP rR e true)]
theorem alS(D:DX)(n:Nat)(K:KT 22):∀(m:Nat)(f g:Int)(h:Bool)(i j:Int)(k l:aD),LF D n 22 JT m (Fy f g h i j k l) K=MH D n (fun a b c d e=>K (Ex.exit 2) (Tq a b c d e)) m f g h i j k l:=W6 (fun F=>F6 D n F (fun a b c d e=>K (Ex.exit 2) (Tq a b c d e)))
theorem alM(D:DX)(n:Nat)(m:Nat)(K:KT 22)(a b:Int)(c:Bool)(d e:Int)(f g:aD):LF D n 22 JT n (Fy a b c d e f g) (CF D n 22 uC AE (KF D n 22 bZ m K))=HL D n (fun x0 x1 x2 x3=>LF D n 22 bZ m (E_ x0 x1 x2 x3) K) (fun h i=>K (Ex.exit 0) (VL h i)) a b c d e f g :=by rw[alS];kernel_rfl
theorem alT(D:DX)(n:Nat)(m:Nat)(K:KT 22)(x0)(x1)(x2)(x3):LF D n 22 bZ (m+1) (E_ x0 x1 x2 x3) K=Fw D n (fun x0 x1 x2 x3=>LF D n 22 bZ m (E_ x0 x1 x2 x3) K) (fun a b=>K (Ex.exit 0) (VL a b)) (fun c d e f g h i=>LF D n 22 JT n (Fy c d e f g h i) (CF D n 22 uC AE (KF D n 22 bZ m K))) x0 x1 x2 x3:=by kernel_rfl
theorem Tt(D:DX)(n:Nat)(K:KT 22):∀(m:Nat)(x0 x1:Int)(x2 x3:aD),LF D n 22 bZ m (E_ x0 x1 x2 x3) K=Da D n (fun a b=>K (Ex.exit 0) (VL a b)) m x0 x1 x2 x3
 | 0,x0,x1,x2,x3=>sK ..
 | m+1,x0,x1,x2,x3=>by
  have ih:(fun x0 x1 x2 x3=>LF D n 22 bZ m (E_ x0 x1 x2 x3) K)=Da D n (fun a b=>K (Ex.exit 0) (VL a b)) m:=by funext x0 x1 x2 x3;exact Tt D n K m x0 x1 x2 x3
  rw[alT];simp only[alM];rw[ih];rfl
theorem alL(D:DX)(n:Nat)(x0)(x1)(x2)(x3):LF D n 22 bZ n (E_ x0 x1 x2 x3) (CF D n 22 [] bZ (lF 22))=Hu D n x0 x1 x2 x3 :=by rw[Tt];kernel_rfl
theorem al0(D:DX)(n:Nat)(a0:aD)(a1:Int):rF D n 22 (a0,(a1,()))=IY D n a0 a1:=by
 have h:rF D n 22 (a0,(a1,()))=IZ D n (fun x0 x1 x2 x3=>LF D n 22 bZ n (E_ x0 x1 x2 x3) (CF D n 22 [] bZ (lF 22))) a0 a1:=by kernel_rfl
 rw[h];simp only[alL];rfl
def qyo(D:DX)(n:Nat)(go:List aj->List bH->Int->Int->List Int->Option cr)(K0:List Int->Option cr)(x0:List aj)(x1:List bH)(x2 x3:Int)(x4:List Int):Option cr:=br (decide (x3<x2)) (qd (Y7 D x0 x1 x3) fun b=>br (decide (x4.length+1<=f_)) (go x0 x1 x2 (wrap .i64 (x3+1)) (x4++[b.1.1])) none) (K0 x4)
def T4(D:DX)(n:Nat)(K0:List Int->Option cr):Nat->(List aj)->(List bH)->Int->Int->(List Int)->Option cr | 0=>(fun x0 x1 x2 x3 x4=>none) | m+1=>(fun x0 x1 x2 x3 x4=>qyo D n (T4 D n K0 m) K0 x0 x1 x2 x3 x4)
def aeK(D:DX)(n:Nat)(a:List Int):Option cr:=some ((a,()),())
def qwc(D:DX)(n:Nat):(List aj)->(List bH)->(Int)->(Int)->(List Int)->Option cr:=(fun x0 x1 x2 x3 x4=>T4 D n (fun a=>aeK D n a) n x0 x1 x2 x3 x4)
def Zn(D:DX)(n:Nat)(cz:List aj->List bH->Int->Int->List Int->Option cr)(a0:List aj)(a1:List bH):Option cr:=cz a0 a1 (a0.length:Int) 0 []
def Y0(D:DX)(n:Nat)(a0:List aj)(a1:List bH):Option cr:=Zn D n (qwc D n) a0 a1
def qyn(x0:List aj)(x1:List bH)(x2 x3:Int)(x4:List Int):St:=bq 22 [(0,AV.val bV x0),(1,AV.val CJ x1),(5,AV.b8 5 [] 0),(9,AV.val ah x2),(10,AV.val ah x3)] [(5,aC.mk bu eL x4 false)]
def q6h(a:List Int):St:=bq 22 [(5,AV.b8 5 [] 0)] [(5,aC.mk bu eL a false)]
theorem afX(D:DX)(n:Nat)(K:KT 23):∀(m:Nat)(x0:List aj)(x1:List bH)(x2 x3:Int)(x4:List Int),LF D n 23 bZ m (qyn x0 x1 x2 x3 x4) K=T4 D n (fun a=>K (Ex.exit 0) (q6h a)) m x0 x1 x2 x3 x4:=oz (fun F=>qyo D n F (fun a=>K (Ex.exit 0) (q6h a)))
theorem aeJ(D:DX)(n:Nat)(x0)(x1)(x2)(x3)(x4):LF D n 23 bZ n (qyn x0 x1 x2 x3 x4) (CF D n 23 [] bZ (lF 23))=qwc D n x0 x1 x2 x3 x4 :=by rw[afX];kernel_rfl
theorem ag9(D:DX)(n:Nat)(a0:List aj)(a1:List bH):rF D n 23 (a0,(a1,()))=Y0 D n a0 a1:=by
 have h:rF D n 23 (a0,(a1,()))=Zn D n (fun x0 x1 x2 x3 x4=>LF D n 23 bZ n (qyn x0 x1 x2 x3 x4) (CF D n 23 [] bZ (lF 23))) a0 a1:=by kernel_rfl
 rw[h];simp only[aeJ];rfl
def Tk(D:DX)(n:Nat)(a0:aD):Option ag:=qd (yA D a0) fun b=>br b.1.1 (qd (qh9 D a0.2.1 (a_.mk 62 [])) fun b=>some ((!b.1.1,()),())) (some ((false,()),()))
def Hq(D:DX)(n:Nat)(a0:aD):Option ag:=Tk D n a0
theorem alm(D:DX)(n:Nat)(a0:aD):rF D n 24 (a0,())=Hq D n a0:=by kernel_rfl
def Tv(D:DX)(n:Nat)(a0:aT):Option ag:=qd (Dp D a0) fun b=>br b.1.1 (qd (VS D a0.1 (a_.mk 65 [])) fun b=>some ((!b.1.1,()),())) (some ((false,()),()))
def IE(D:DX)(n:Nat)(a0:aT):Option ag:=Tv D n a0
theorem alU(D:DX)(n:Nat)(a0:aT):rF D n 25 (a0,())=IE D n a0:=by kernel_rfl
def Tw(D:DX)(n:Nat)(a0:List Int):Option ag:=qd (A3 D a0) fun b=>qd (KE D (b.1.1.1,b.1.1.2)) fun b_1=>br b_1.1.1 (qd (Jc D (b.1.1.1,b.1.1.2)) fun b=>qd (TO D b.1.1 a0) fun b=>some ((b.1.1,()),())) (some ((false,()),()))
def IG(D:DX)(n:Nat)(a0:List Int):Option ag:=Tw D n a0
theorem alW(D:DX)(n:Nat)(a0:List Int):rF D n 26 (a0,())=IG D n a0:=by kernel_rfl
def HU(D:DX)(n:Nat)(go:List Int->Int->Int->List Int->List Int->Option cr)(K0:List Int->Option cr)(x0:List Int)(x1 x2:Int)(x3 x4:List Int):Option cr:=br (decide (x2<x1)) (br (decide (0<=x2)&&decide (x2<(x4.length:Int))) (br (decide (0<=x2)&&decide (x2<(x0.length:Int))) (br (List.getD x0 x2.toNat 0 != List.getD x4 x2.toNat 0) (br (decide (x3.length+1<=f_)) (go x0 x1 (wrap .i64 (x2+1)) (x3++[x2]) x4) none) (go x0 x1 (wrap .i64 (x2+1)) x3 x4)) none) none) (K0 x3)
def MA(D:DX)(n:Nat)(K0:List Int->Option cr):Nat->(List Int)->Int->Int->(List Int)->(List Int)->Option cr | 0=>(fun x0 x1 x2 x3 x4=>none) | m+1=>(fun x0 x1 x2 x3 x4=>HU D n (MA D n K0 m) K0 x0 x1 x2 x3 x4)
def alI(D:DX)(n:Nat)(a:List Int):Option cr:=some ((a,()),())
def Hs(D:DX)(n:Nat):(List Int)->(Int)->(Int)->(List Int)->(List Int)->Option cr:=(fun x0 x1 x2 x3 x4=>MA D n (fun a=>alI D n a) n x0 x1 x2 x3 x4)
def F7(D:DX)(n:Nat)(cz:List Int->Int->Int->List Int->List Int->Option cr)(a0:List Int):Option cr:=qd (A3 D a0) fun b=>qd (Jc D (b.1.1.1,b.1.1.2)) fun b=>cz a0 (b.1.1.length:Int) 0 [] b.1.1
def IF(D:DX)(n:Nat)(a0:List Int):Option cr:=F7 D n (Hs D n) a0
def HM(x0:List Int)(x1 x2:Int)(x3 x4:List Int):St:=bq 28 [(0,AV.val bu x0),(3,AV.b8 3 [] 0),(9,AV.b8 9 [] 0),(10,AV.val ah x1),(11,AV.val ah x2)] [(3,aC.mk bu eL x3 false),(9,aC.mk bu eL x4 false)]
def Tn(a:List Int):St:=bq 28 [(3,AV.b8 3 [] 0)] [(3,aC.mk bu eL a false)]
theorem alO(D:DX)(n:Nat)(K:KT 27):∀(m:Nat)(x0:List Int)(x1 x2:Int)(x3 x4:List Int),LF D n 27 bZ m (HM x0 x1 x2 x3 x4) K=MA D n (fun a=>K (Ex.exit 0) (Tn a)) m x0 x1 x2 x3 x4:=oz (fun F=>HU D n F (fun a=>K (Ex.exit 0) (Tn a)))
theorem alo(D:DX)(n:Nat)(x0)(x1)(x2)(x3)(x4):LF D n 27 bZ n (HM x0 x1 x2 x3 x4) (CF D n 27 [] bZ (lF 27))=Hs D n x0 x1 x2 x3 x4 :=by rw[alO];kernel_rfl
theorem alV(D:DX)(n:Nat)(a0:List Int):rF D n 27 (a0,())=IF D n a0:=by
 have h:rF D n 27 (a0,())=F7 D n (fun x0 x1 x2 x3 x4=>LF D n 27 bZ n (HM x0 x1 x2 x3 x4) (CF D n 27 [] bZ (lF 27))) a0:=by kernel_rfl
 rw[h];simp only[alo];rfl
def Qa(D:DX)(n:Nat)(a0 a1:bz):Option ag:=some ((bif decide (a0.2.2.2.2.1>=0) then decide (a0.2.2.2.2.1<a1.2.2.1) else false,()),())
def q71(D:DX)(n:Nat)(a0 a1:bz):Option ag:=Qa D n a0 a1
theorem aiM(D:DX)(n:Nat)(a0 a1:bz):rF D n 29 (a0,(a1,()))=q71 D n a0 a1:=by kernel_rfl
def qsa(D:DX)(n:Nat)(go:List bz->Int->Int->List bz->Int->Int->aD->bz->Option ag)(K0:Bool->List bz->Int->Int->aD->Option ag)(K1:List bz->Int->Int->aD->Option ag)(b:List bz)(c d:Int)(e:List bz)(h a:Int)(f:aD)(g:bz):Option ag:=let y0:=List.getD e a.toNat (0,(0,0,0,()),0,0,0,(0,[],()),());br (decide (a<h)) (br (decide (0<=a)&&decide (a<(e.length:Int))) (br (decide (y0.1=g.1)) (qd (P6 D y0 g) fun p0=>br (!p0.1.1) (K0 false b c d f) (go b c d e h (wrap .i64 (a+1)) f g)) (go b c d e h (wrap .i64 (a+1)) f g)) none) (K1 b c d f)
def TQ(D:DX)(n:Nat)(K0:Bool->List bz->Int->Int->aD->Option ag)(K1:List bz->Int->Int->aD->Option ag):Nat->(List bz)->Int->Int->(List bz)->Int->Int->aD->bz->Option ag | 0=>(fun a b c d e f g h=>none) | m+1=>(fun a b c d e f g h=>qsa D n (TQ D n K0 K1 m) K0 K1 a b c d e f g h)
def adR(D:DX)(n:Nat)(go:List bz->Int->Int->aD->Option ag)(K0:Bool->Option ag)(K1:Option ag)(a:Bool)(b:List bz)(c d:Int)(e:aD):Option ag:=K0 a
def qyj(D:DX)(n:Nat)(go:List bz->Int->Int->aD->Option ag)(K0:Bool->Option ag)(K1:Option ag)(a:List bz)(b c:Int)(d:aD):Option ag:=go a b (wrap .i64 (c+1)) d
def qqo(D:DX)(n:Nat)(go:List bz->Int->Int->aD->Option ag)(K0:Bool->Option ag)(K1:Option ag):(List bz)->(Int)->(Int)->(List bz)->(Int)->(Int)->aD->bz->Option ag:=(fun a b l m o p q r=>TQ D n (fun c d e f g=>adR D n go K0 K1 c d e f g) (fun h i j k=>qyj D n go K0 K1 h i j k) n a b l m o p q r)
def qr9(D:DX)(n:Nat)(go:List bz->Int->Int->aD->Option ag)(K0:Bool->Option ag)(K1:Option ag)(mJ:List bz->Int->Int->List bz->Int->Int->aD->bz->Option ag)(x0:List bz)(x1 x2:Int)(x3:aD):Option ag:=let y0:=List.getD x0 x2.toNat (0,(0,0,0,()),0,0,0,(0,[],()),());let y1:=List.drop (Int.toNat 0) (List.take x2.toNat x3.2.2.2.1);br (decide (x2<x1)) (br (decide (0<=x2)&&decide (x2<(x0.length:Int))) (br (bif decide (y0.2.2.2.2.1>=0) then bif decide (y0.2.2.2.1<0) then true else decide (y0.2.2.2.1>y0.2.2.2.2.1) else false) (K0 false) (br (decide (0<=0)&&decide (0<=x2)&&decide (x2<=(x3.2.2.2.1.length:Int))) (mJ x0 x1 x2 y1 (y1.length:Int) 0 x3 y0) none)) none) K1
def I4(D:DX)(n:Nat)(K0:Bool->Option ag)(K1:Option ag):Nat->(List bz)->Int->Int->aD->Option ag | 0=>(fun x0 x1 x2 x3=>none) | m+1=>(fun x0 x1 x2 x3=>qr9 D n (I4 D n K0 K1 m) K0 K1 (qqo D n (I4 D n K0 K1 m) K0 K1) x0 x1 x2 x3)
def adP(D:DX)(n:Nat)(a:Bool):Option ag:=some ((a,()),())
def adQ(D:DX)(n:Nat):Option ag:=some ((true,()),())
def qqn(D:DX)(n:Nat):(List bz)->(Int)->(Int)->aD->Option ag:=(fun x0 x1 x2 x3=>I4 D n (fun a=>adP D n a) (adQ D n) n x0 x1 x2 x3)
def quh(D:DX)(n:Nat)(cz:List bz->Int->Int->aD->Option ag)(a0:aD):Option ag:=qd (yA D a0) fun b=>br (!b.1.1) (some ((false,()),())) (cz a0.2.2.2.1 (a0.2.2.2.1.length:Int) 0 a0)
def qt2(D:DX)(n:Nat)(a0:aD):Option ag:=quh D n (qqn D n) a0
def I5(x0:List bz)(x1 x2:Int)(x3:aD):St:=bq 55 [(1,AV.addr 1 []),(11,AV.val zm x0),(12,AV.val ah x1),(13,AV.val ah x2)] [(1,aC.mk cP Mk.no x3 true)]
def V7(a:Bool):St:=bq 55 [(2,AV.val Ty.bool a)] []
def V8:St:=bq 55 [] []
def qr8(a:List bz)(b c:Int)(d:List bz)(e f:Int)(g:aD)(h:bz):St:=bq 55 [(1,AV.addr 1 []),(4,AV.addr 4 []),(11,AV.val zm a),(12,AV.val ah b),(13,AV.val ah c),(36,AV.val zm d),(37,AV.val ah e),(38,AV.val ah f)] [(1,aC.mk cP Mk.no g true),(4,aC.mk DN Mk.no h true)]
def qyh(a:Bool)(b:List bz)(c d:Int)(e:aD):St:=bq 55 [(1,AV.addr 1 []),(2,AV.val Ty.bool a),(11,AV.val zm b),(12,AV.val ah c),(13,AV.val ah d)] [(1,aC.mk cP Mk.no e true)]
def qyi(a:List bz)(b c:Int)(d:aD):St:=bq 55 [(1,AV.addr 1 []),(11,AV.val zm a),(12,AV.val ah b),(13,AV.val ah c)] [(1,aC.mk cP Mk.no d true)]
theorem aeb(D:DX)(n:Nat)(K:KT 30):∀(m:Nat)(j:List bz)(k l:Int)(o:List bz)(p q:Int)(r:aD)(s:bz),LF D n 30 EL m (qr8 j k l o p q r s) K=TQ D n (fun a b c d e=>K (Ex.ret) (qyh a b c d e)) (fun f g h i=>K (Ex.exit 2) (qyi f g h i)) m j k l o p q r s:=eL8 (fun F=>qsa D n F (fun a b c d e=>K (Ex.ret) (qyh a b c d e)) (fun f g h i=>K (Ex.exit 2) (qyi f g h i)))
theorem adO(D:DX)(n:Nat)(m:Nat)(K:KT 30)(a:List bz)(b c:Int)(d:List bz)(e f:Int)(g:aD)(h:bz):LF D n 30 EL n (qr8 a b c d e f g h) (CF D n 30 uC [.r,.r,.l,.l,.r,.r,.r,.l] (KF D n 30 bZ m K))=qqo D n (fun x0 x1 x2 x3=>LF D n 30 bZ m (I5 x0 x1 x2 x3) K) (fun i=>K (Ex.ret) (V7 i)) (K (Ex.exit 0) (V8)) a b c d e f g h :=by rw[aeb];kernel_rfl
theorem aec(D:DX)(n:Nat)(m:Nat)(K:KT 30)(x0)(x1)(x2)(x3):LF D n 30 bZ (m+1) (I5 x0 x1 x2 x3) K=qr9 D n (fun x0 x1 x2 x3=>LF D n 30 bZ m (I5 x0 x1 x2 x3) K) (fun a=>K (Ex.ret) (V7 a)) (K (Ex.exit 0) (V8)) (fun b c d e f g h i=>LF D n 30 EL n (qr8 b c d e f g h i) (CF D n 30 uC [.r,.r,.l,.l,.r,.r,.r,.l] (KF D n 30 bZ m K))) x0 x1 x2 x3:=by kernel_rfl
theorem qz6(D:DX)(n:Nat)(K:KT 30):∀(m:Nat)(x0:List bz)(x1 x2:Int)(x3:aD),LF D n 30 bZ m (I5 x0 x1 x2 x3) K=I4 D n (fun a=>K (Ex.ret) (V7 a)) (K (Ex.exit 0) (V8)) m x0 x1 x2 x3
 | 0,x0,x1,x2,x3=>sK ..
 | m+1,x0,x1,x2,x3=>by
  have ih:(fun x0 x1 x2 x3=>LF D n 30 bZ m (I5 x0 x1 x2 x3) K)=I4 D n (fun a=>K (Ex.ret) (V7 a)) (K (Ex.exit 0) (V8)) m:=by funext x0 x1 x2 x3;exact qz6 D n K m x0 x1 x2 x3
  rw[aec];simp only[adO];rw[ih];rfl
theorem adN(D:DX)(n:Nat)(x0)(x1)(x2)(x3):LF D n 30 bZ n (I5 x0 x1 x2 x3) (CF D n 30 [] bZ (lF 30))=qqn D n x0 x1 x2 x3 :=by rw[qz6];kernel_rfl
theorem aeS(D:DX)(n:Nat)(a0:aD):rF D n 30 (a0,())=qt2 D n a0:=by
 have h:rF D n 30 (a0,())=quh D n (fun x0 x1 x2 x3=>LF D n 30 bZ n (I5 x0 x1 x2 x3) (CF D n 30 [] bZ (lF 30))) a0:=by kernel_rfl
 rw[h];simp only[adN];rfl
def Tu(D:DX)(n:Nat)(a0:List Int):Option jA:=br ((a0.length:Int) != 20) (some ((([],0,()),()),())) (br (decide (0<=0)&&decide (0<=4)&&decide (4<=(a0.length:Int))) (qd (Km D (List.drop (Int.toNat 0) (List.take (Int.toNat 4) a0))) fun p1=>qd (sH D) fun p0=>br (decide (0<=p0.1.1)&&decide (p0.1.1<(a0.length:Int))) (some (((p1.1.1,List.getD a0 p0.1.1.toNat 0,()),()),())) none) none)
def Ht(D:DX)(n:Nat)(a0:List Int):Option jA:=Tu D n a0
theorem alP(D:DX)(n:Nat)(a0:List Int):rF D n 31 (a0,())=Ht D n a0:=by kernel_rfl
def P1(D:DX)(n:Nat)(a0:aB)(a1:Int):Option aF:=qd (V4 D a0.1 a1) fun b=>some ((b.1.1,()),())
def q75(D:DX)(n:Nat)(a0:aB)(a1:Int):Option aF:=P1 D n a0 a1
theorem aiO(D:DX)(n:Nat)(a0:aB)(a1:Int):rF D n 34 (a0,(a1,()))=q75 D n a0 a1:=by kernel_rfl
def P5(D:DX)(n:Nat)(a0:Int):Option aF:=qd (zN D a0) fun b=>qd (sH D) fun b_1=>qd (Kx D b.1.1 (wrap .i64 (b_1.1.1+a0))) fun b=>some ((b.1.1,()),())
def q8a(D:DX)(n:Nat)(a0:Int):Option aF:=P5 D n a0
theorem ai_(D:DX)(n:Nat)(a0:Int):rF D n 35 (a0,())=q8a D n a0:=by kernel_rfl
def qyg(D:DX)(n:Nat)(go:Int->Int->List Int->Int->Int->Option aF)(K0:Int->Option aF)(x0 x1:Int)(x2:List Int)(x3 x4:Int):Option aF:=let y0:=wrap .i64 (x4+1);br (decide (x4<x3)) (br (decide (0<=x4)&&decide (x4<(x2.length:Int))) (qd (zN D (List.getD x2 x4.toNat 0)) fun p0=>br p0.1.1 (qd (tE D (List.getD x2 x4.toNat 0)) fun p1=>br (decide (p1.1.1=x0)) (go x0 (wrap .i64 (x1+1)) x2 x3 y0) (go x0 x1 x2 x3 y0)) (go x0 x1 x2 x3 y0)) none) (K0 x1)
def TZ(D:DX)(n:Nat)(K0:Int->Option aF):Nat->Int->Int->(List Int)->Int->Int->Option aF | 0=>(fun x0 x1 x2 x3 x4=>none) | m+1=>(fun x0 x1 x2 x3 x4=>qyg D n (TZ D n K0 m) K0 x0 x1 x2 x3 x4)
def q6e(D:DX)(n:Nat)(a:Int):Option aF:=some ((a,()),())
def qwa(D:DX)(n:Nat):(Int)->(Int)->(List Int)->(Int)->(Int)->Option aF:=(fun x0 x1 x2 x3 x4=>TZ D n (fun a=>q6e D n a) n x0 x1 x2 x3 x4)
def Zm(D:DX)(n:Nat)(cz:Int->Int->List Int->Int->Int->Option aF)(a0:aB)(a1:Int):Option aF:=cz a1 0 a0.1 (a0.1.length:Int) 0
def YY(D:DX)(n:Nat)(a0:aB)(a1:Int):Option aF:=Zm D n (qwa D n) a0 a1
def qyf(x0 x1:Int)(x2:List Int)(x3 x4:Int):St:=bq 27 [(1,AV.val ah x0),(5,AV.val ah x1),(9,AV.val bu x2),(10,AV.val ah x3),(11,AV.val ah x4)] []
def q6d(a:Int):St:=bq 27 [(5,AV.val ah a)] []
theorem afW(D:DX)(n:Nat)(K:KT 37):∀(m:Nat)(x0 x1:Int)(x2:List Int)(x3 x4:Int),LF D n 37 bZ m (qyf x0 x1 x2 x3 x4) K=TZ D n (fun a=>K (Ex.exit 0) (q6d a)) m x0 x1 x2 x3 x4:=oz (fun F=>qyg D n F (fun a=>K (Ex.exit 0) (q6d a)))
theorem aeI(D:DX)(n:Nat)(x0)(x1)(x2)(x3)(x4):LF D n 37 bZ n (qyf x0 x1 x2 x3 x4) (CF D n 37 [] bZ (lF 37))=qwa D n x0 x1 x2 x3 x4 :=by rw[afW];kernel_rfl
theorem ag7(D:DX)(n:Nat)(a0:aB)(a1:Int):rF D n 37 (a0,(a1,()))=YY D n a0 a1:=by
 have h:rF D n 37 (a0,(a1,()))=Zm D n (fun x0 x1 x2 x3 x4=>LF D n 37 bZ n (qyf x0 x1 x2 x3 x4) (CF D n 37 [] bZ (lF 37))) a0 a1:=by kernel_rfl
 rw[h];simp only[aeI];rfl
def P_(D:DX)(n:Nat)(a0:aB)(a1:aj)(a2:eP):Option jA:=qd (Ks D a0) fun p0=>let y0:Option jA:=br (decide (a1.1=3)) (br (decide (0<=a1.2.1)&&decide (a1.2.1<(p0.1.1.1.length:Int))) (some (((List.set p0.1.1.1 a1.2.1.toNat 0,p0.1.1.2),()),())) none) (br (decide (a1.1=8)) (br (decide (a1.1=8)) (some (((p0.1.1.1,wrap .i64 (p0.1.1.2.1+1),p0.1.1.2.2),()),())) (some (((p0.1.1.1,p0.1.1.2),()),()))) (br (decide (a1.1=9)) (some (((p0.1.1.1,wrap .i64 (p0.1.1.2.1+1),p0.1.1.2.2),()),())) (some (((p0.1.1.1,p0.1.1.2),()),()))));let y1:Option jA:=br (decide (0<=a1.2.1)&&decide (a1.2.1<(p0.1.1.1.length:Int))) (some (((List.set p0.1.1.1 a1.2.1.toNat a1.2.2.1,p0.1.1.2),()),())) none;qd (Wu D a0 a1 a2) fun p1=>br (bif !p1.1.1 then true else a2.1 != 0) (some (((p0.1.1.1,p0.1.1.2),()),())) (br (decide (a1.1=1)) (br (decide (a1.1=1)) y1 y0) (br (decide (a1.1=2)) y1 y0))
def q70(D:DX)(n:Nat)(a0:aB)(a1:aj)(a2:eP):Option jA:=P_ D n a0 a1 a2
theorem aiL(D:DX)(n:Nat)(a0:aB)(a1:aj)(a2:eP):rF D n 38 (a0,(a1,(a2,())))=q70 D n a0 a1 a2:=by kernel_rfl
def ZS(D:DX)(n:Nat)(go:Bool->List Int->Int->Int->aD->aB->aB->Option nF)(K0:Bool->aB->aB->Option nF)(x0:Bool)(x1:List Int)(x2 x3:Int)(x4:aD)(x5 x6:aB):Option nF:=let y0:=List.getD x4.2.2.2.1 (Int.toNat (List.getD x1 x3.toNat 0)) (0,(0,0,0,()),0,0,0,(0,[],()),());br (decide (x3<x2)) (br (decide (0<=x3)&&decide (x3<(x1.length:Int))) (br (decide (0<=List.getD x1 x3.toNat 0)&&decide (List.getD x1 x3.toNat 0<(x4.2.2.2.1.length:Int))) (br x0 (qd (Wu D (x6.1,x6.2) y0.2.1 y0.2.2.2.2.2.1) fun p2=>qd (WK D (x6.1,x6.2) y0.2.1 y0.2.2.2.2.2.1) fun p0=>go p2.1.1 x1 x2 (wrap .i64 (x3+1)) x4 x5 (p0.1.1.1,p0.1.1.2)) (qd (WK D (x6.1,x6.2) y0.2.1 y0.2.2.2.2.2.1) fun p1=>go false x1 x2 (wrap .i64 (x3+1)) x4 x5 (p1.1.1.1,p1.1.1.2))) none) none) (K0 x0 x5 x6)
def Ui(D:DX)(n:Nat)(K0:Bool->aB->aB->Option nF):Nat->Bool->(List Int)->Int->Int->aD->aB->aB->Option nF | 0=>(fun x0 x1 x2 x3 x4 x5 x6=>none) | m+1=>(fun x0 x1 x2 x3 x4 x5 x6=>ZS D n (Ui D n K0 m) K0 x0 x1 x2 x3 x4 x5 x6)
def af1(D:DX)(n:Nat)(b:Bool)(c a:aB):Option nF:=some (((a.1,a.2),b,()),())
def qyr(D:DX)(n:Nat):(Bool)->(List Int)->(Int)->(Int)->aD->aB->aB->Option nF:=(fun x0 x1 x2 x3 x4 x5 x6=>Ui D n (fun a b c=>af1 D n a b c) n x0 x1 x2 x3 x4 x5 x6)
def q5m(D:DX)(n:Nat)(cz:Bool->List Int->Int->Int->aD->aB->aB->Option nF)(a0:aD):Option nF:=qd (yA D a0) fun b=>br (!b.1.1) (some ((([],0,()),false,()),())) (qd (Ks D a0.2.2.2.2.2.1) fun b=>cz true a0.2.2.2.2.1 (a0.2.2.2.2.1.length:Int) 0 a0 ([],0,()) (b.1.1.1,b.1.1.2))
def q4x(D:DX)(n:Nat)(a0:aD):Option nF:=q5m D n (qyr D n) a0
def ZR(x0:Bool)(x1:List Int)(x2 x3:Int)(x4:aD)(x5 x6:aB):St:=bq 46 [(1,AV.addr 1 []),(2,AV.addr 2 []),(4,AV.addr 4 []),(5,AV.val Ty.bool x0),(17,AV.val bu x1),(18,AV.val ah x2),(19,AV.val ah x3)] [(1,aC.mk cP Mk.no x4 true),(2,aC.mk bO iB x5 true),(4,aC.mk bO iB x6 true)]
def q85(a:Bool)(b c:aB):St:=bq 46 [(2,AV.addr 2 []),(4,AV.addr 4 []),(5,AV.val Ty.bool a)] [(2,aC.mk bO iB b true),(4,aC.mk bO iB c true)]
theorem agC(D:DX)(n:Nat)(K:KT 39):∀(m:Nat)(x0:Bool)(x1:List Int)(x2 x3:Int)(x4:aD)(x5 x6:aB),LF D n 39 j4 m (ZR x0 x1 x2 x3 x4 x5 x6) K=Ui D n (fun a b c=>K (Ex.exit 0) (q85 a b c)) m x0 x1 x2 x3 x4 x5 x6:=W6 (fun F=>ZS D n F (fun a b c=>K (Ex.exit 0) (q85 a b c)))
theorem af0(D:DX)(n:Nat)(x0)(x1)(x2)(x3)(x4)(x5)(x6):LF D n 39 j4 n (ZR x0 x1 x2 x3 x4 x5 x6) (CF D n 39 [] j4 (lF 39))=qyr D n x0 x1 x2 x3 x4 x5 x6 :=by rw[agC];kernel_rfl
theorem ail(D:DX)(n:Nat)(a0:aD):rF D n 39 (a0,())=q4x D n a0:=by
 have h:rF D n 39 (a0,())=q5m D n (fun x0 x1 x2 x3 x4 x5 x6=>LF D n 39 j4 n (ZR x0 x1 x2 x3 x4 x5 x6) (CF D n 39 [] j4 (lF 39))) a0:=by kernel_rfl
 rw[h];simp only[af0];rfl
def qul(D:DX)(n:Nat)(go:Int->List bz->Int->Int->aD->Option ag)(K0:Bool->Int->aD->Option ag)(K1:Int->aD->Option ag)(x0:Int)(x1:List bz)(x2 x3:Int)(x4:aD):Option ag:=let y0:=List.getD x1 x3.toNat (0,(0,0,0,()),0,0,0,(0,[],()),());br (decide (x3<x2)) (br (decide (0<=x3)&&decide (x3<(x1.length:Int))) (qd (k_ D y0.1 0 (wrap .i64 (x0-1))) fun p0=>br (!p0.1.1) (K0 false x0 x4) (qd (Dq D y0.2.1) fun p1=>br (!p1.1.1) (K0 false x0 x4) (qd (k_ D y0.2.2.1 0 x4.2.2.1) fun p2=>br (!p2.1.1) (K0 false x0 x4) (qd (V9 D y0 y0.2.2.2.1 x4) fun p3=>br (!p3.1.1) (K0 false x0 x4) (qd (V9 D y0 y0.2.2.2.2.1 x4) fun p4=>br (!p4.1.1) (K0 false x0 x4) (go x0 x1 x2 (wrap .i64 (x3+1)) x4)))))) none) (K1 x0 x4)
def TN(D:DX)(n:Nat)(K0:Bool->Int->aD->Option ag)(K1:Int->aD->Option ag):Nat->Int->(List bz)->Int->Int->aD->Option ag | 0=>(fun x0 x1 x2 x3 x4=>none) | m+1=>(fun x0 x1 x2 x3 x4=>qul D n (TN D n K0 K1 m) K0 K1 x0 x1 x2 x3 x4)
def qz9(D:DX)(n:Nat)(a:Bool)(b:Int)(c:aD):Option ag:=some ((a,()),())
def qum(D:DX)(n:Nat)(go:Int->List aN->Int->Int->aD->Option ag)(K0:Bool->aD->Option ag)(K1:aD->Option ag)(d:Int)(c:List aN)(e a:Int)(b:aD):Option ag:=br (decide (a<e)) (br (decide (0<=a)&&decide (a<(c.length:Int))) (qd (qxn D (List.getD c a.toNat ([],0,false,[],[],())) d) fun p0=>br (!p0.1.1) (K0 false b) (qd (Y8 D b a) fun p1=>br (!p1.1.1) (K0 false b) (go d c e (wrap .i64 (a+1)) b))) none) (K1 b)
def TV(D:DX)(n:Nat)(K0:Bool->aD->Option ag)(K1:aD->Option ag):Nat->Int->(List aN)->Int->Int->aD->Option ag | 0=>(fun a b c d e=>none) | m+1=>(fun a b c d e=>qum D n (TV D n K0 K1 m) K0 K1 a b c d e)
def adZ(D:DX)(n:Nat)(a:Bool)(b:aD):Option ag:=some ((a,()),())
def q0a(D:DX)(n:Nat)(a:aD):Option ag:=qd (Y9 D a) fun b=>some ((b.1.1,()),())
def qse(D:DX)(n:Nat):(Int)->(List aN)->(Int)->(Int)->aD->Option ag:=(fun a b f g h=>TV D n (fun c d=>adZ D n c d) (fun e=>q0a D n e) n a b f g h)
def qqs(D:DX)(n:Nat)(mJ:Int->List aN->Int->Int->aD->Option ag)(b:Int)(a:aD):Option ag:=mJ b a.2.1 (a.2.1.length:Int) 0 a
def qsd(D:DX)(n:Nat):(Int)->(List bz)->(Int)->(Int)->aD->Option ag:=(fun x0 x1 x2 x3 x4=>TN D n (fun a b c=>qz9 D n a b c) (fun d e=>qqs D n (qse D n) d e) n x0 x1 x2 x3 x4)
def qwb(D:DX)(n:Nat)(cz:Int->List bz->Int->Int->aD->Option ag)(a0:aD):Option ag:=qd (Dp D a0.1) fun p0=>br (bif !p0.1.1 then true else (a0.1.2.1.length:Int) != (a0.2.1.length:Int)) (some ((false,()),())) (qd (k_ D a0.2.2.1 0 100000) fun p1=>br (bif !p1.1.1 then true else decide ((a0.2.2.2.1.length:Int)>40)) (some ((false,()),())) (qd (KE D a0.2.2.2.2.2.1) fun p2=>br (!p2.1.1) (some ((false,()),())) (cz (a0.2.1.length:Int) a0.2.2.2.1 (a0.2.2.2.1.length:Int) 0 a0)))
def qvx(D:DX)(n:Nat)(a0:aD):Option ag:=qwb D n (qsd D n) a0
def quj(x0:Int)(x1:List bz)(x2 x3:Int)(x4:aD):St:=bq 108 [(1,AV.addr 1 []),(3,AV.val ah x0),(4,AV.gI 79 (AV.pair (AV.addr 1 []) AV.unit)),(44,AV.val zm x1),(45,AV.val ah x2),(46,AV.val ah x3)] [(1,aC.mk cP Mk.no x4 true)]
def qqq(a:Bool)(b:Int)(c:aD):St:=bq 108 [(1,AV.addr 1 []),(2,AV.val Ty.bool a),(3,AV.val ah b)] [(1,aC.mk cP Mk.no c true)]
def qqr(a:Int)(b:aD):St:=bq 108 [(1,AV.addr 1 []),(3,AV.val ah a)] [(1,aC.mk cP Mk.no b true)]
def quk(a:Int)(b:List aN)(c d:Int)(e:aD):St:=bq 108 [(1,AV.addr 1 []),(3,AV.val ah a),(88,AV.val Jz b),(89,AV.val ah c),(90,AV.val ah d)] [(1,aC.mk cP Mk.no e true)]
def qz7(a:Bool)(b:aD):St:=bq 108 [(1,AV.addr 1 []),(2,AV.val Ty.bool a)] [(1,aC.mk cP Mk.no b true)]
def qz8(a:aD):St:=bq 108 [(1,AV.addr 1 [])] [(1,aC.mk cP Mk.no a true)]
theorem aee(D:DX)(n:Nat)(K:KT 40):∀(m:Nat)(x0:Int)(x1:List bz)(x2 x3:Int)(x4:aD),LF D n 40 j4 m (quj x0 x1 x2 x3 x4) K=TN D n (fun a b c=>K (Ex.ret) (qqq a b c)) (fun d e=>K (Ex.exit 0) (qqr d e)) m x0 x1 x2 x3 x4:=oz (fun F=>qul D n F (fun a b c=>K (Ex.ret) (qqq a b c)) (fun d e=>K (Ex.exit 0) (qqr d e)))
theorem aef(D:DX)(n:Nat)(K:KT 40):∀(m:Nat)(d:Int)(e:List aN)(f g:Int)(h:aD),LF D n 40 zI m (quk d e f g h) K=TV D n (fun a b=>K (Ex.ret) (qz7 a b)) (fun c=>K (Ex.exit 2) (qz8 c)) m d e f g h:=oz (fun F=>qum D n F (fun a b=>K (Ex.ret) (qz7 a b)) (fun c=>K (Ex.exit 2) (qz8 c)))
theorem adW(D:DX)(n:Nat)(a:Int)(b:List aN)(c d:Int)(e:aD):LF D n 40 zI n (quk a b c d e) (CF D n 40 [] zI (lF 40))=qse D n a b c d e :=by rw[aef];kernel_rfl
theorem adX(D:DX)(n:Nat)(a:Bool)(b:Int)(c:aD):(CF D n 40 [] j4 (lF 40)) (Ex.ret) (qqq a b c)=qz9 D n a b c:=by kernel_rfl
theorem adY(D:DX)(n:Nat)(a:Int)(b:aD):(CF D n 40 [] j4 (lF 40)) (Ex.exit 0) (qqr a b)=qqs D n (fun c d e f g=>LF D n 40 zI n (quk c d e f g) (CF D n 40 [] zI (lF 40))) a b:=by kernel_rfl
theorem adV(D:DX)(n:Nat)(x0)(x1)(x2)(x3)(x4):LF D n 40 j4 n (quj x0 x1 x2 x3 x4) (CF D n 40 [] j4 (lF 40))=qsd D n x0 x1 x2 x3 x4:=by rw[aee];simp only[adX,adY,adW];rfl
theorem afF(D:DX)(n:Nat)(a0:aD):rF D n 40 (a0,())=qvx D n a0:=by
 have h:rF D n 40 (a0,())=qwb D n (fun x0 x1 x2 x3 x4=>LF D n 40 j4 n (quj x0 x1 x2 x3 x4) (CF D n 40 [] j4 (lF 40))) a0:=by kernel_rfl
 rw[h];simp only[adV];rfl
def Pa(D:DX)(n:Nat)(a0:aD):Option ag:=qd (WC D a0) fun b=>some ((b.1.2.1,()),())
def YZ(D:DX)(n:Nat)(a0:aD):Option ag:=Pa D n a0
theorem ag8(D:DX)(n:Nat)(a0:aD):rF D n 42 (a0,())=YZ D n a0:=by kernel_rfl
def q52(D:DX)(n:Nat)(go:List Int->Int->Int->Option nG)(K0:List Int->Int->Option nG)(x0:List Int)(x1 x2:Int):Option nG:=br (bif decide (x2<(x0.length:Int)) then decide (x2<4000) else false) (br (decide (0<=x2)&&decide (x2<(x0.length:Int))) (go x0 (wrap .i64 (↑(BitVec.toNat (BitVec.and (BitVec.ofInt (IntKind.bits IntKind.i64) (wrap .i64 (wrap .i64 (wrap .i64 (x1 * 131)+wrap .i64 (List.getD x0 x2.toNat 0))+7))) (BitVec.ofInt (IntKind.bits IntKind.i64) 1073741823))):Int)) (wrap .i64 (x2+1))) none) (K0 x0 x1)
def Uk(D:DX)(n:Nat)(K0:List Int->Int->Option nG):Nat->(List Int)->Int->Int->Option nG | 0=>(fun x0 x1 x2=>none) | m+1=>(fun x0 x1 x2=>q52 D n (Uk D n K0 m) K0 x0 x1 x2)
def O9(D:DX)(n:Nat)(a:List Int)(b:Int):Option nG:=some (((a,0,b,()),()),())
def Z2(D:DX)(n:Nat):(List Int)->(Int)->(Int)->Option nG:=(fun x0 x1 x2=>Uk D n (fun a b=>O9 D n a b) n x0 x1 x2)
def q92(D:DX)(n:Nat)(cz:List Int->Int->Int->Option nG)(a0:List Int):Option nG:=cz a0 (wrap .i64 (27323+(a0.length:Int))) 0
def q8i(D:DX)(n:Nat)(a0:List Int):Option nG:=q92 D n (Z2 D n) a0
def q51(x0:List Int)(x1 x2:Int):St:=bq 32 [(0,AV.val pq x0),(3,AV.val ah x1),(4,AV.val ah x2)] []
def O8(a:List Int)(b:Int):St:=bq 32 [(0,AV.val pq a),(3,AV.val ah b)] []
theorem ah4(D:DX)(n:Nat)(K:KT 44):∀(m:Nat)(x0:List Int)(x1 x2:Int),LF D n 44 bZ m (q51 x0 x1 x2) K=Uk D n (fun a b=>K (Ex.exit 0) (O8 a b)) m x0 x1 x2:=pJ (fun F=>q52 D n F (fun a b=>K (Ex.exit 0) (O8 a b)))
theorem agP(D:DX)(n:Nat)(x0)(x1)(x2):LF D n 44 bZ n (q51 x0 x1 x2) (CF D n 44 [] bZ (lF 44))=Z2 D n x0 x1 x2 :=by rw[ah4];kernel_rfl
theorem aji(D:DX)(n:Nat)(a0:List Int):rF D n 44 (a0,())=q8i D n a0:=by
 have h:rF D n 44 (a0,())=q92 D n (fun x0 x1 x2=>LF D n 44 bZ n (q51 x0 x1 x2) (CF D n 44 [] bZ (lF 44))) a0:=by kernel_rfl
 rw[h];simp only[agP];rfl
def qq1(D:DX)(n:Nat)(go:Int->bt->aB->aB->Option nE)(K0:bt->aB->aB->Option nE)(x0:Int)(x1:bt)(x2 x3:aB):Option nE:=br (decide (x0<4)) (qd (rT D x1 7) fun p0=>qd (WO D (x3.1,x3.2) p0.1.1) fun p1=>br (decide (p1.1.1<0)) (br (decide (0<=x0)&&decide (x0<(x3.1.length:Int))) (go (wrap .i64 (x0+1)) p0.2.1 x2 (List.set x3.1 x0.toNat p0.1.1,x3.2)) none) (go (wrap .i64 (x0+1)) p0.2.1 x2 x3)) (K0 x1 x2 x3)
def TL(D:DX)(n:Nat)(K0:bt->aB->aB->Option nE):Nat->Int->bt->aB->aB->Option nE | 0=>(fun x0 x1 x2 x3=>none) | m+1=>(fun x0 x1 x2 x3=>qq1 D n (TL D n K0 m) K0 x0 x1 x2 x3)
def qn7(D:DX)(n:Nat)(c:bt)(d a:aB):Option nE:=qd (Wj D c [0,0,1,3,5]) fun b=>some (((a.1,b.1.1,a.2.2),()),b.2.1,())
def qpe(D:DX)(n:Nat):(Int)->bt->aB->aB->Option nE:=(fun x0 x1 x2 x3=>TL D n (fun a b c=>qn7 D n a b c) n x0 x1 x2 x3)
def qs2(D:DX)(n:Nat)(cz:Int->bt->aB->aB->Option nE)(a0:bt):Option nE:=qd (Zd D) fun b=>cz 0 a0 ([],0,()) (b.1.1.1,b.1.1.2)
def qrx(D:DX)(n:Nat)(a0:bt):Option nE:=qs2 D n (qpe D n) a0
def qq0(x0:Int)(x1:bt)(x2 x3:aB):St:=bq 27 [(0,AV.addr 0 []),(2,AV.addr 2 []),(3,AV.addr 3 []),(4,AV.val ah x0)] [(0,aC.mk jm Mk.no x1 true),(2,aC.mk bO iB x2 true),(3,aC.mk bO iB x3 true)]
def qxf(a:bt)(b c:aB):St:=bq 27 [(0,AV.addr 0 []),(2,AV.addr 2 []),(3,AV.addr 3 [])] [(0,aC.mk jm Mk.no a true),(2,aC.mk bO iB b true),(3,aC.mk bO iB c true)]
theorem adM(D:DX)(n:Nat)(K:KT 45):∀(m:Nat)(x0:Int)(x1:bt)(x2 x3:aB),LF D n 45 bZ m (qq0 x0 x1 x2 x3) K=TL D n (fun a b c=>K (Ex.exit 0) (qxf a b c)) m x0 x1 x2 x3:=z9 (fun F=>qq1 D n F (fun a b c=>K (Ex.exit 0) (qxf a b c)))
theorem adK(D:DX)(n:Nat)(x0)(x1)(x2)(x3):LF D n 45 bZ n (qq0 x0 x1 x2 x3) (CF D n 45 [] bZ (lF 45))=qpe D n x0 x1 x2 x3 :=by rw[adM];kernel_rfl
theorem aen(D:DX)(n:Nat)(a0:bt):rF D n 45 (a0,())=qrx D n a0:=by
 have h:rF D n 45 (a0,())=qs2 D n (fun x0 x1 x2 x3=>LF D n 45 bZ n (qq0 x0 x1 x2 x3) (CF D n 45 [] bZ (lF 45))) a0:=by kernel_rfl
 rw[h];simp only[adK];rfl
def qu7(D:DX)(n:Nat)(go:Int->Int->bt->List (List aj)->List aj->Option gQ)(K0:Int->bt->List (List aj)->List aj->Option gQ)(c d:Int)(f:bt)(e:List (List aj))(a:List aj):Option gQ:=qd (rT D f 4) fun b=>br (decide (d<wrap .i64 (1+b.1.1))) (qd (qrs D b.2.1) fun b=>br (decide (a.length+1<=f_)) (go c (wrap .i64 (d+1)) b.2.1 e (a++[b.1.1])) none) (K0 c b.2.1 e a)
def TX(D:DX)(n:Nat)(K0:Int->bt->List (List aj)->List aj->Option gQ):Nat->Int->Int->bt->(List (List aj))->(List aj)->Option gQ | 0=>(fun a b c d e=>none) | m+1=>(fun a b c d e=>qu7 D n (TX D n K0 m) K0 a b c d e)
def qq2(D:DX)(n:Nat)(go:Int->bt->List (List aj)->Option gQ)(K0:bt->List (List aj)->Option gQ)(b:Int)(c:bt)(a:List (List aj))(d:List aj):Option gQ:=br (decide (a.length+1<=f_)) (go (wrap .i64 (b+1)) c (a++[d])) none
def qs4(D:DX)(n:Nat)(go:Int->bt->List (List aj)->Option gQ)(K0:bt->List (List aj)->Option gQ):(Int)->(Int)->bt->(List (List aj))->(List aj)->Option gQ:=(fun a f g h i=>TX D n (fun b c d e=>qq2 D n go K0 b c d e) n a f g h i)
def qu6(D:DX)(n:Nat)(go:Int->bt->List (List aj)->Option gQ)(K0:bt->List (List aj)->Option gQ)(mJ:Int->Int->bt->List (List aj)->List aj->Option gQ)(x0:Int)(x1:bt)(x2:List (List aj)):Option gQ:=qd (rT D x1 3) fun b=>br (decide (x0<wrap .i64 (1+b.1.1))) (mJ x0 0 b.2.1 x2 []) (K0 b.2.1 x2)
def Dj(D:DX)(n:Nat)(K0:bt->List (List aj)->Option gQ):Nat->Int->bt->(List (List aj))->Option gQ | 0=>(fun x0 x1 x2=>none) | m+1=>(fun x0 x1 x2=>qu6 D n (Dj D n K0 m) K0 (qs4 D n (Dj D n K0 m) K0) x0 x1 x2)
def q0h(D:DX)(n:Nat)(a:bt)(b:List (List aj)):Option gQ:=some ((b,()),a,())
def qs3(D:DX)(n:Nat):(Int)->bt->(List (List aj))->Option gQ:=(fun x0 x1 x2=>Dj D n (fun a b=>q0h D n a b) n x0 x1 x2)
def qw0(D:DX)(n:Nat)(cz:Int->bt->List (List aj)->Option gQ)(a0:bt):Option gQ:=cz 0 a0 []
def qv4(D:DX)(n:Nat)(a0:bt):Option gQ:=qw0 D n (qs3 D n) a0
def I8(x0:Int)(x1:bt)(x2:List (List aj)):St:=bq 33 [(0,AV.addr 0 []),(3,AV.b8 3 [] 0),(4,AV.val ah x0)] [(0,aC.mk jm Mk.no x1 true),(3,aC.mk jV qH x2 false)]
def Wa(a:bt)(b:List (List aj)):St:=bq 33 [(0,AV.addr 0 []),(3,AV.b8 3 [] 0)] [(0,aC.mk jm Mk.no a true),(3,aC.mk jV qH b false)]
def qu5(a b:Int)(c:bt)(d:List (List aj))(e:List aj):St:=bq 33 [(0,AV.addr 0 []),(3,AV.b8 3 [] 0),(4,AV.val ah a),(5,AV.b8 5 [] 0),(6,AV.val ah b)] [(0,aC.mk jm Mk.no c true),(3,aC.mk jV qH d false),(5,aC.mk bV eL e false)]
def q0g(a:Int)(b:bt)(c:List (List aj))(d:List aj):St:=bq 33 [(0,AV.addr 0 []),(3,AV.b8 3 [] 0),(4,AV.val ah a),(5,AV.b8 5 [] 0)] [(0,aC.mk jm Mk.no b true),(3,aC.mk jV qH c false),(5,aC.mk bV eL d false)]
theorem aeA(D:DX)(n:Nat)(K:KT 46):∀(m:Nat)(e f:Int)(g:bt)(h:List (List aj))(i:List aj),LF D n 46 JT m (qu5 e f g h i) K=TX D n (fun a b c d=>K (Ex.exit 2) (q0g a b c d)) m e f g h i:=oz (fun F=>qu7 D n F (fun a b c d=>K (Ex.exit 2) (q0g a b c d)))
theorem aej(D:DX)(n:Nat)(m:Nat)(K:KT 46)(a b:Int)(c:bt)(d:List (List aj))(e:List aj):LF D n 46 JT n (qu5 a b c d e) (CF D n 46 uC AE (KF D n 46 bZ m K))=qs4 D n (fun x0 x1 x2=>LF D n 46 bZ m (I8 x0 x1 x2) K) (fun f g=>K (Ex.exit 0) (Wa f g)) a b c d e :=by rw[aeA];kernel_rfl
theorem aeF(D:DX)(n:Nat)(m:Nat)(K:KT 46)(x0)(x1)(x2:List (List aj)):LF D n 46 bZ (m+1) (I8 x0 x1 x2) K=qu6 D n (fun x0 x1 x2=>LF D n 46 bZ m (I8 x0 x1 x2) K) (fun a b=>K (Ex.exit 0) (Wa a b)) (fun c d e f g=>LF D n 46 JT n (qu5 c d e f g) (CF D n 46 uC AE (KF D n 46 bZ m K))) x0 x1 x2:=by kernel_rfl
theorem q4b(D:DX)(n:Nat)(K:KT 46):∀(m:Nat)(x0:Int)(x1:bt)(x2:List (List aj)),LF D n 46 bZ m (I8 x0 x1 x2) K=Dj D n (fun a b=>K (Ex.exit 0) (Wa a b)) m x0 x1 x2
 | 0,x0,x1,x2=>sK ..
 | m+1,x0,x1,x2=>by
  have ih:(fun x0 x1 x2=>LF D n 46 bZ m (I8 x0 x1 x2) K)=Dj D n (fun a b=>K (Ex.exit 0) (Wa a b)) m:=by funext x0 x1 x2;exact q4b D n K m x0 x1 x2
  rw[aeF];simp only[aej];rw[ih];rfl
theorem aei(D:DX)(n:Nat)(x0)(x1)(x2:List (List aj)):LF D n 46 bZ n (I8 x0 x1 x2) (CF D n 46 [] bZ (lF 46))=qs3 D n x0 x1 x2 :=by rw[q4b];kernel_rfl
theorem afP(D:DX)(n:Nat)(a0:bt):rF D n 46 (a0,())=qv4 D n a0:=by
 have h:rF D n 46 (a0,())=qw0 D n (fun x0 x1 x2=>LF D n 46 bZ n (I8 x0 x1 x2) (CF D n 46 [] bZ (lF 46))) a0:=by kernel_rfl
 rw[h];simp only[aei];rfl
def PF(D:DX)(n:Nat)(a0:bt)(a1:Int):Option pn:=br (decide (a1<=0)) (some ((0,()),a0,())) (br (decide (a1<=256)) (qd (Ja D a0) fun p0=>br (decide (a1=0)) none (some ((Int.tmod p0.1.1 a1,()),p0.2.1,()))) (qd (Ja D a0) fun p1=>qd (Ja D p1.2.1) fun p2=>qd (Ja D p2.2.1) fun p3=>qd (Ja D p3.2.1) fun p4=>br (decide (a1=0)) none (some ((Int.tmod (wrap .i64 (wrap .i64 (wrap .i64 (wrap .i64 (p1.1.1 * 16777216)+wrap .i64 (p2.1.1 * 65536))+wrap .i64 (p3.1.1 * 256))+p4.1.1)) a1,()),p4.2.1,()))))
def ZD(D:DX)(n:Nat)(a0:bt)(a1:Int):Option pn:=PF D n a0 a1
theorem ahu(D:DX)(n:Nat)(a0:bt)(a1:Int):rF D n 47 (a0,(a1,()))=ZD D n a0 a1:=by kernel_rfl
def PW(D:DX)(n:Nat)(a0:List Int)(a1 a2:Int):Option aF:=br (decide (wrap .i64 (a1+wrap .i64 (Int.tdiv (a0.length:Int) 4))>a2)) (some ((a2,()),())) (some ((wrap .i64 (a1+wrap .i64 (Int.tdiv (a0.length:Int) 4)),()),()))
def q47(D:DX)(n:Nat)(a0:List Int)(a1 a2:Int):Option aF:=PW D n a0 a1 a2
theorem aiw(D:DX)(n:Nat)(a0:List Int)(a1 a2:Int):rF D n 48 (a0,(a1,(a2,())))=q47 D n a0 a1 a2:=by kernel_rfl
def Zp(D:DX)(n:Nat)(go:Int->Int->aT->aT->List Int->Option nY)(K0:aT->aT->Option nY)(x0 x1:Int)(x2 x3:aT)(x4:List Int):Option nY:=br (decide (x1<x0)) (br (decide (0<=x1)&&decide (x1<(x4.length:Int))) (br (decide (x3.1.length+1<=f_)) (go x0 (wrap .i64 (x1+1)) x2 (x3.1++[(List.getD x4 x1.toNat 0,0,0,())],x3.2) x4) none) none) (K0 x2 x3)
def Uh(D:DX)(n:Nat)(K0:aT->aT->Option nY):Nat->Int->Int->aT->aT->(List Int)->Option nY | 0=>(fun x0 x1 x2 x3 x4=>none) | m+1=>(fun x0 x1 x2 x3 x4=>Zp D n (Uh D n K0 m) K0 x0 x1 x2 x3 x4)
def q8y(D:DX)(n:Nat)(c a:aT):Option nY:=qd (Dp D (a.1,a.2.1,())) fun b=>br (!b.1.1) (some ((([],[],()),false,()),())) (some (((a.1,a.2.1,()),true,()),()))
def qyp(D:DX)(n:Nat):(Int)->(Int)->aT->aT->(List Int)->Option nY:=(fun x0 x1 x2 x3 x4=>Uh D n (fun a b=>q8y D n a b) n x0 x1 x2 x3 x4)
def q5g(D:DX)(n:Nat)(cz:Int->Int->aT->aT->List Int->Option nY)(a0:aB)(a1:Int):Option nY:=qd (k_ D a1 1 4) fun p1=>br (!p1.1.1) (some ((([],[],()),false,()),())) (br (decide (0<=a1)&&decide (a1<=a1)&&decide (a1<=(↑f_:Int))) (qd (Jc D a0) fun p0=>cz (p0.1.1.length:Int) 0 ([],[],()) ([],List.replicate a1.toNat (0,0,[],(0,[],()),()),()) p0.1.1) none)
def q4v(D:DX)(n:Nat)(a0:aB)(a1:Int):Option nY:=q5g D n (qyp D n) a0 a1
def Zo(x0 x1:Int)(x2 x3:aT)(x4:List Int):St:=bq 36 [(4,AV.addr 4 []),(6,AV.addr 6 []),(17,AV.b8 17 [] 0),(18,AV.val ah x0),(19,AV.val ah x1)] [(4,aC.mk jW lV x2 true),(6,aC.mk jW lV x3 true),(17,aC.mk bu eL x4 false)]
def q8x(a b:aT):St:=bq 36 [(4,AV.addr 4 []),(6,AV.addr 6 [])] [(4,aC.mk jW lV a true),(6,aC.mk jW lV b true)]
theorem agz(D:DX)(n:Nat)(K:KT 49):∀(m:Nat)(x0 x1:Int)(x2 x3:aT)(x4:List Int),LF D n 49 eN m (Zo x0 x1 x2 x3 x4) K=Uh D n (fun a b=>K (Ex.exit 0) (q8x a b)) m x0 x1 x2 x3 x4:=oz (fun F=>Zp D n F (fun a b=>K (Ex.exit 0) (q8x a b)))
theorem afY(D:DX)(n:Nat)(x0)(x1)(x2)(x3)(x4):LF D n 49 eN n (Zo x0 x1 x2 x3 x4) (CF D n 49 [] eN (lF 49))=qyp D n x0 x1 x2 x3 x4 :=by rw[agz];kernel_rfl
theorem ah9(D:DX)(n:Nat)(a0:aB)(a1:Int):rF D n 49 (a0,(a1,()))=q4v D n a0 a1:=by
 have h:rF D n 49 (a0,(a1,()))=q5g D n (fun x0 x1 x2 x3 x4=>LF D n 49 eN n (Zo x0 x1 x2 x3 x4) (CF D n 49 [] eN (lF 49))) a0 a1:=by kernel_rfl
 rw[h];simp only[afY];rfl
def O5(D:DX)(n:Nat)(a0:aB):Option jA:=qd (Km D a0.1) fun b=>some (((b.1.1,a0.2.1,()),()),())
def qxy(D:DX)(n:Nat)(a0:aB):Option jA:=O5 D n a0
theorem agq(D:DX)(n:Nat)(a0:aB):rF D n 50 (a0,())=qxy D n a0:=by kernel_rfl
def q89(D:DX)(n:Nat)(a0:List aj):Option jk:=qd (VY D a0) fun b=>some (((b.1.1,0,false,[],[],()),()),())
def qvy(D:DX)(n:Nat)(a0:List aj):Option jk:=q89 D n a0
theorem afG(D:DX)(n:Nat)(a0:List aj):rF D n 51 (a0,())=qvy D n a0:=by kernel_rfl
def ZK(D:DX)(n:Nat)(go:Int->Int->aT->aT->List Int->Option nY)(K0:Int->aT->aT->Option nY)(x0 x1:Int)(x2 x3:aT)(x4:List Int):Option nY:=br (decide (x1<(x4.length:Int))) (br (decide (0<=x1)&&decide (x1<(x4.length:Int))) (br (decide (x3.1.length+1<=f_)) (go x0 (wrap .i64 (x1+1)) x2 (x3.1++[(List.getD x4 x1.toNat 0,0,0,())],x3.2) x4) none) none) (K0 x0 x2 x3)
def Ue(D:DX)(n:Nat)(K0:Int->aT->aT->Option nY):Nat->Int->Int->aT->aT->(List Int)->Option nY | 0=>(fun x0 x1 x2 x3 x4=>none) | m+1=>(fun x0 x1 x2 x3 x4=>ZK D n (Ue D n K0 m) K0 x0 x1 x2 x3 x4)
def q9w(D:DX)(n:Nat)(a:Int)(c b:aT):Option nY:=qd (lZ D a 1 4) fun p0=>br p0.1.1 (br (decide (0<=a)&&decide (a<=a)&&decide (a<=(↑f_:Int))) (qd (Uv D (b.1,List.replicate a.toNat (0,0,[],(0,[],()),()),())) fun p1=>br (!p1.1.1) (some ((([],[],()),false,()),())) (some (((b.1,List.replicate a.toNat (0,0,[],(0,[],()),()),()),true,()),()))) none) (qd (Uv D (b.1,b.2.1,())) fun p2=>br (!p2.1.1) (some ((([],[],()),false,()),())) (some (((b.1,b.2.1,()),true,()),())))
def qzk(D:DX)(n:Nat):(Int)->(Int)->aT->aT->(List Int)->Option nY:=(fun x0 x1 x2 x3 x4=>Ue D n (fun a b c=>q9w D n a b c) n x0 x1 x2 x3 x4)
def q5v(D:DX)(n:Nat)(cz:Int->Int->aT->aT->List Int->Option nY)(a0:aB)(a1:Int):Option nY:=qd (Ze D a0) fun b=>cz a1 0 ([],[],()) ([],[],()) b.1.1
def q43(D:DX)(n:Nat)(a0:aB)(a1:Int):Option nY:=q5v D n (qzk D n) a0 a1
def ZJ(x0 x1:Int)(x2 x3:aT)(x4:List Int):St:=bq 38 [(1,AV.val ah x0),(4,AV.addr 4 []),(6,AV.addr 6 []),(7,AV.b8 7 [] 0),(8,AV.val ah x1)] [(4,aC.mk jW lV x2 true),(6,aC.mk jW lV x3 true),(7,aC.mk bu eL x4 false)]
def q9v(a:Int)(b c:aT):St:=bq 38 [(1,AV.val ah a),(4,AV.addr 4 []),(6,AV.addr 6 [])] [(4,aC.mk jW lV b true),(6,aC.mk jW lV c true)]
theorem agH(D:DX)(n:Nat)(K:KT 52):∀(m:Nat)(x0 x1:Int)(x2 x3:aT)(x4:List Int),LF D n 52 eN m (ZJ x0 x1 x2 x3 x4) K=Ue D n (fun a b c=>K (Ex.exit 0) (q9v a b c)) m x0 x1 x2 x3 x4:=oz (fun F=>ZK D n F (fun a b c=>K (Ex.exit 0) (q9v a b c)))
theorem agc(D:DX)(n:Nat)(x0)(x1)(x2)(x3)(x4):LF D n 52 eN n (ZJ x0 x1 x2 x3 x4) (CF D n 52 [] eN (lF 52))=qzk D n x0 x1 x2 x3 x4 :=by rw[agH];kernel_rfl
theorem ais(D:DX)(n:Nat)(a0:aB)(a1:Int):rF D n 52 (a0,(a1,()))=q43 D n a0 a1:=by
 have h:rF D n 52 (a0,(a1,()))=q5v D n (fun x0 x1 x2 x3 x4=>LF D n 52 eN n (ZJ x0 x1 x2 x3 x4) (CF D n 52 [] eN (lF 52))) a0 a1:=by kernel_rfl
 rw[h];simp only[agc];rfl
def PX(D:DX)(n:Nat)(a0:aB):Option jA:=br (decide (0+a0.1.length<=f_)) (some ((([]++a0.1,a0.2.1,()),()),())) none
def q48(D:DX)(n:Nat)(a0:aB):Option jA:=PX D n a0
theorem aix(D:DX)(n:Nat)(a0:aB):rF D n 53 (a0,())=q48 D n a0:=by kernel_rfl
def q91(D:DX)(n:Nat)(a0:List aj):Option jk:=br (decide (0+a0.length<=f_)) (some ((([]++a0,0,false,[],[],()),()),())) none
def qv2(D:DX)(n:Nat)(a0:List aj):Option jk:=q91 D n a0
theorem afN(D:DX)(n:Nat)(a0:List aj):rF D n 54 (a0,())=qv2 D n a0:=by kernel_rfl
def quw(D:DX)(n:Nat)(go:Int->aD->Option ag)(K0:Bool->Option ag)(K1:Option ag)(x0:Int)(x1:aD):Option ag:=br (decide (x0<(x1.2.1.length:Int))) (br (decide (0<=x0)&&decide (x0<(x1.2.1.length:Int))) (qd (qxr D (List.getD x1.2.1 x0.toNat ([],0,false,[],[],())) (x1.2.1.length:Int)) fun p0=>br (!p0.1.1) (K0 false) (qd (qxt D x1 x0) fun p1=>br (!p1.1.1) (K0 false) (go (wrap .i64 (x0+1)) x1))) none) K1
def TW(D:DX)(n:Nat)(K0:Bool->Option ag)(K1:Option ag):Nat->Int->aD->Option ag | 0=>(fun x0 x1=>none) | m+1=>(fun x0 x1=>quw D n (TW D n K0 K1 m) K0 K1 x0 x1)
def ad6(D:DX)(n:Nat)(a:Bool):Option ag:=some ((a,()),())
def aeh(D:DX)(n:Nat):Option ag:=some ((true,()),())
def qsv(D:DX)(n:Nat):(Int)->aD->Option ag:=(fun x0 x1=>TW D n (fun a=>ad6 D n a) (aeh D n) n x0 x1)
def qwp(D:DX)(n:Nat)(cz:Int->aD->Option ag)(a0:aD):Option ag:=qd (Uv D a0.1) fun p0=>br (bif !p0.1.1 then true else (a0.1.2.1.length:Int) != (a0.2.1.length:Int)) (some ((false,()),())) (qd (lZ D a0.2.2.1 0 100000) fun p1=>br (!p1.1.1) (some ((false,()),())) (qd (WD D a0.2.2.2.2.2.1) fun p2=>br (!p2.1.1) (some ((false,()),())) (qd (Zf D a0) fun p3=>br (!p3.1.1) (some ((false,()),())) (cz 0 a0))))
def qv1(D:DX)(n:Nat)(a0:aD):Option ag:=qwp D n (qsv D n) a0
def quv(x0:Int)(x1:aD):St:=bq 58 [(1,AV.addr 1 []),(3,AV.val ah x0)] [(1,aC.mk cP Mk.no x1 true)]
def q0e(a:Bool):St:=bq 58 [(2,AV.val Ty.bool a)] []
def q0f:St:=bq 58 [] []
theorem aeB(D:DX)(n:Nat)(K:KT 55):∀(m:Nat)(x0:Int)(x1:aD),LF D n 55 bZ m (quv x0 x1) K=TW D n (fun a=>K (Ex.ret) (q0e a)) (K (Ex.exit 0) (q0f)) m x0 x1:=DV (fun F=>quw D n F (fun a=>K (Ex.ret) (q0e a)) (K (Ex.exit 0) (q0f)))
theorem ad5(D:DX)(n:Nat)(x0)(x1):LF D n 55 bZ n (quv x0 x1) (CF D n 55 [] bZ (lF 55))=qsv D n x0 x1 :=by rw[aeB];kernel_rfl
theorem afM(D:DX)(n:Nat)(a0:aD):rF D n 55 (a0,())=qv1 D n a0:=by
 have h:rF D n 55 (a0,())=qwp D n (fun x0 x1=>LF D n 55 bZ n (quv x0 x1) (CF D n 55 [] bZ (lF 55))) a0:=by kernel_rfl
 rw[h];simp only[ad5];rfl
def qqw(D:DX)(n:Nat)(go:List aN->Int->Int->aD->aD->aD->Option ga)(K0:aD->aD->aD->Option ga)(x0:List aN)(x1 x2:Int)(x3 x4 x5:aD):Option ga:=br (decide (x2<x1)) (br (decide (0<=x2)&&decide (x2<(x0.length:Int))) (qd (Kq D (List.getD x0 x2.toNat ([],0,false,[],[],()))) fun p0=>br (decide (x5.2.1.length+1<=f_)) (go x0 x1 (wrap .i64 (x2+1)) x3 x4 (x5.1,x5.2.1++[(p0.1.1.1,p0.1.1.2.1,p0.1.1.2.2.1,p0.1.1.2.2.2.1,p0.1.1.2.2.2.2.1,())],x5.2.2)) none) none) (K0 x3 x4 x5)
def TJ(D:DX)(n:Nat)(K0:aD->aD->aD->Option ga):Nat->(List aN)->Int->Int->aD->aD->aD->Option ga | 0=>(fun x0 x1 x2 x3 x4 x5=>none) | m+1=>(fun x0 x1 x2 x3 x4 x5=>qqw D n (TJ D n K0 m) K0 x0 x1 x2 x3 x4 x5)
def qqx(D:DX)(n:Nat)(go:List bz->Int->Int->aD->aD->Option ga)(K0:aD->aD->Option ga)(c:List bz)(d b:Int)(e a:aD):Option ga:=let y0:=List.getD c b.toNat (0,(0,0,0,()),0,0,0,(0,[],()),());br (decide (b<d)) (br (decide (0<=b)&&decide (b<(c.length:Int))) (qd (I_ D y0.2.2.2.2.2.1) fun p0=>br (decide (a.2.2.2.1.length+1<=f_)) (go c d (wrap .i64 (b+1)) e (a.1,a.2.1,a.2.2.1,a.2.2.2.1++[(y0.1,y0.2.1,y0.2.2.1,y0.2.2.2.1,y0.2.2.2.2.1,(p0.1.1.1,p0.1.1.2.1,()),())],a.2.2.2.2)) none) none) (K0 e a)
def TK(D:DX)(n:Nat)(K0:aD->aD->Option ga):Nat->(List bz)->Int->Int->aD->aD->Option ga | 0=>(fun a b c d e=>none) | m+1=>(fun a b c d e=>qqx D n (TK D n K0 m) K0 a b c d e)
def adH(D:DX)(n:Nat)(b a:aD):Option ga:=some ((((a.1.1,a.1.2.1,()),a.2.1,a.2.2.1,a.2.2.2.1,a.2.2.2.2.1,(a.2.2.2.2.2.1.1,a.2.2.2.2.2.1.2),()),()),())
def qoz(D:DX)(n:Nat):(List bz)->(Int)->(Int)->aD->aD->Option ga:=(fun a d e f g=>TK D n (fun b c=>adH D n b c) n a d e f g)
def qnt(D:DX)(n:Nat)(mJ:List bz->Int->Int->aD->aD->Option ga)(a b c:aD):Option ga:=mJ a.2.2.2.1 (a.2.2.2.1.length:Int) 0 b c
def qoy(D:DX)(n:Nat):(List aN)->(Int)->(Int)->aD->aD->aD->Option ga:=(fun x0 x1 x2 x3 x4 x5=>TJ D n (fun a b c=>qnt D n (qoz D n) a b c) n x0 x1 x2 x3 x4 x5)
def qsi(D:DX)(n:Nat)(cz:List aN->Int->Int->aD->aD->aD->Option ga)(a0:aD):Option ga:=qd (Kv D a0.1) fun p0=>qd (Km D a0.2.2.2.2.1) fun p2=>qd (Ks D a0.2.2.2.2.2.1) fun p1=>cz a0.2.1 (a0.2.1.length:Int) 0 a0 (([],[],()),[],0,[],[],([],0,()),()) ((p0.1.1.1,p0.1.1.2.1,()),[],a0.2.2.1,[],p2.1.1,(p1.1.1.1,p1.1.1.2),())
def qrw(D:DX)(n:Nat)(a0:aD):Option ga:=qsi D n (qoy D n) a0
def qqu(x0:List aN)(x1 x2:Int)(x3 x4 x5:aD):St:=bq 54 [(1,AV.addr 1 []),(2,AV.addr 2 []),(3,AV.addr 3 []),(21,AV.val Jz x0),(22,AV.val ah x1),(23,AV.val ah x2)] [(1,aC.mk cP Mk.no x3 true),(2,aC.mk cP rR x4 true),(3,aC.mk cP JQ x5 true)]
def qns(a b c:aD):St:=bq 54 [(1,AV.addr 1 []),(2,AV.addr 2 []),(3,AV.addr 3 [])] [(1,aC.mk cP Mk.no a true),(2,aC.mk cP rR b true),(3,aC.mk cP JQ c true)]
def qqv(a:List bz)(b c:Int)(d e:aD):St:=bq 54 [(2,AV.addr 2 []),(3,AV.addr 3 []),(36,AV.val zm a),(37,AV.val ah b),(38,AV.val ah c)] [(2,aC.mk cP rR d true),(3,aC.mk cP JQ e true)]
def qw9(a b:aD):St:=bq 54 [(2,AV.addr 2 []),(3,AV.addr 3 [])] [(2,aC.mk cP rR a true),(3,aC.mk cP JQ b true)]
theorem adT(D:DX)(n:Nat)(K:KT 56):∀(m:Nat)(x0:List aN)(x1 x2:Int)(x3 x4 x5:aD),LF D n 56 bZ m (qqu x0 x1 x2 x3 x4 x5) K=TJ D n (fun a b c=>K (Ex.exit 0) (qns a b c)) m x0 x1 x2 x3 x4 x5:=JC (fun F=>qqw D n F (fun a b c=>K (Ex.exit 0) (qns a b c)))
theorem adU(D:DX)(n:Nat)(K:KT 56):∀(m:Nat)(c:List bz)(d e:Int)(f g:aD),LF D n 56 eN m (qqv c d e f g) K=TK D n (fun a b=>K (Ex.exit 2) (qw9 a b)) m c d e f g:=oz (fun F=>qqx D n F (fun a b=>K (Ex.exit 2) (qw9 a b)))
theorem adF(D:DX)(n:Nat)(a:List bz)(b c:Int)(d e:aD):LF D n 56 eN n (qqv a b c d e) (CF D n 56 [] eN (lF 56))=qoz D n a b c d e :=by rw[adU];kernel_rfl
theorem adG(D:DX)(n:Nat)(a b c:aD):(CF D n 56 [] bZ (lF 56)) (Ex.exit 0) (qns a b c)=qnt D n (fun d e f g h=>LF D n 56 eN n (qqv d e f g h) (CF D n 56 [] eN (lF 56))) a b c:=by kernel_rfl
theorem adE(D:DX)(n:Nat)(x0)(x1)(x2)(x3)(x4)(x5):LF D n 56 bZ n (qqu x0 x1 x2 x3 x4 x5) (CF D n 56 [] bZ (lF 56))=qoy D n x0 x1 x2 x3 x4 x5:=by rw[adT];simp only[adG,adF];rfl
theorem aem(D:DX)(n:Nat)(a0:aD):rF D n 56 (a0,())=qrw D n a0:=by
 have h:rF D n 56 (a0,())=qsi D n (fun x0 x1 x2 x3 x4 x5=>LF D n 56 bZ n (qqu x0 x1 x2 x3 x4 x5) (CF D n 56 [] bZ (lF 56))) a0:=by kernel_rfl
 rw[h];simp only[adE];rfl
def Gb(D:DX)(n:Nat)(a0:aD)(a1:Int):Option mE:=let y0:Option mE:=(qd (Ko D a0) fun p3=>some ((((p3.1.1.1.1,p3.1.1.1.2.1,()),p3.1.1.2.1,p3.1.1.2.2.1,p3.1.1.2.2.2.1,p3.1.1.2.2.2.2.1,p3.1.1.2.2.2.2.2),false,()),()));qd (yA D a0) fun p6=>br (!p6.1.1) y0 (qd (k_ D a1 0 (wrap .i64 ((a0.2.1.length:Int)-1))) fun p7=>br (!p7.1.1) y0 (br (decide (0<=a1)&&decide (a1<(a0.2.1.length:Int))) (qd (Wb D (List.getD a0.2.1 a1.toNat ([],0,false,[],[],()))) fun p8=>br (bif p8.1.1 then true else decide (a0.2.2.1=100000)) y0 (qd (Ko D a0) fun p0=>let y1:=List.getD p0.1.1.2.1 a1.toNat ([],0,false,[],[],());br (decide (0<=a1)&&decide (a1<(p0.1.1.2.1.length:Int))) (br (!y1.2.2.1) (br (decide (0<=y1.2.1)&&decide (y1.2.1<(y1.1.length:Int))) (br (decide (p0.1.1.2.2.2.1.length+1<=f_)) (qd (yA D ((p0.1.1.1.1,p0.1.1.1.2.1,()),List.set p0.1.1.2.1 a1.toNat (y1.1,y1.2.1,true,y1.2.2.2),wrap .i64 (p0.1.1.2.2.1+1),p0.1.1.2.2.2.1++[(a1,List.getD y1.1 (Int.toNat y1.2.1) (0,0,0,()),wrap .i64 (p0.1.1.2.2.1+1),-1,-1,(0,[],()),())],p0.1.1.2.2.2.2.1,p0.1.1.2.2.2.2.2)) fun p9=>br (!p9.1.1) y0 (some ((((p0.1.1.1.1,p0.1.1.1.2.1,()),List.set p0.1.1.2.1 a1.toNat (y1.1,y1.2.1,true,y1.2.2.2),wrap .i64 (p0.1.1.2.2.1+1),p0.1.1.2.2.2.1++[(a1,List.getD y1.1 (Int.toNat y1.2.1) (0,0,0,()),wrap .i64 (p0.1.1.2.2.1+1),-1,-1,(0,[],()),())],p0.1.1.2.2.2.2.1,p0.1.1.2.2.2.2.2),true,()),()))) none) none) (br (decide ((y1.2.2.2.2.1.length:Int)>0)) (qd (qng D ((p0.1.1.1.1,p0.1.1.1.2.1,()),p0.1.1.2.1,wrap .i64 (p0.1.1.2.2.1+1),p0.1.1.2.2.2.1,p0.1.1.2.2.2.2.1,p0.1.1.2.2.2.2.2) a1) fun p2=>qd (yA D ((p2.2.1.1.1,p2.2.1.1.2.1,()),p2.2.1.2.1,p2.2.1.2.2.1,p2.2.1.2.2.2.1,p2.2.1.2.2.2.2.1,p2.2.1.2.2.2.2.2)) fun p4=>br (!p4.1.1) y0 (some ((((p2.2.1.1.1,p2.2.1.1.2.1,()),p2.2.1.2.1,p2.2.1.2.2.1,p2.2.1.2.2.2.1,p2.2.1.2.2.2.2.1,p2.2.1.2.2.2.2.2),true,()),()))) (qd (qqa D ((p0.1.1.1.1,p0.1.1.1.2.1,()),p0.1.1.2.1,wrap .i64 (p0.1.1.2.2.1+1),p0.1.1.2.2.2.1,p0.1.1.2.2.2.2.1,p0.1.1.2.2.2.2.2) a1) fun p1=>br (!p1.1.1) y0 (qd (yA D ((p1.2.1.1.1,p1.2.1.1.2.1,()),p1.2.1.2.1,p1.2.1.2.2.1,p1.2.1.2.2.2.1,p1.2.1.2.2.2.2.1,p1.2.1.2.2.2.2.2)) fun p5=>br (!p5.1.1) y0 (some ((((p1.2.1.1.1,p1.2.1.1.2.1,()),p1.2.1.2.1,p1.2.1.2.2.1,p1.2.1.2.2.2.1,p1.2.1.2.2.2.2.1,p1.2.1.2.2.2.2.2),true,()),())))))) none)) none))
def Vx(D:DX)(n:Nat)(a0:aD)(a1:Int):Option mE:=Gb D n a0 a1
theorem aae(D:DX)(n:Nat)(a0:aD)(a1:Int):rF D n 57 (a0,(a1,()))=Vx D n a0 a1:=by kernel_rfl
def aaI(D:DX)(n:Nat)(a0 a1 a2:Int):Option ag:=some ((bif decide (a0>=a1) then decide (a0<=a2) else false,()),())
def Qt(D:DX)(n:Nat)(a0 a1 a2:Int):Option ag:=aaI D n a0 a1 a2
theorem aag(D:DX)(n:Nat)(a0 a1 a2:Int):rF D n 58 (a0,(a1,(a2,())))=Qt D n a0 a1 a2:=by kernel_rfl
def q6f(D:DX)(n:Nat)(a0:aD):Option ag:=qd (WC D a0) fun b=>qd (yA D a0) fun b_1=>br b_1.1.1 (qd (Vv D a0.1.1 a0.1.2.1) fun b_2=>qd (Jc D (b.1.1.1,b.1.1.2)) fun b=>qd (TO D b_2.1.1 b.1.1) fun b=>some ((b.1.1,()),())) (some ((false,()),()))
def qt3(D:DX)(n:Nat)(a0:aD):Option ag:=q6f D n a0
theorem aeT(D:DX)(n:Nat)(a0:aD):rF D n 59 (a0,())=qt3 D n a0:=by kernel_rfl
def Pj(D:DX)(n:Nat)(a0:List aj)(a1:List bH)(a2:Int):Option aF:=let y0:=List.getD a0 a2.toNat (0,0,0,());let y1:=List.getD a1 (Int.toNat (wrap .i64 (y0.2.1-1))) (0,0,[],(0,[],()),());qd (k_ D a2 0 (wrap .i64 ((a0.length:Int)-1))) fun p1=>br (!p1.1.1) (some ((0,()),())) (br (decide (0<=a2)&&decide (a2<(a0.length:Int))) (br (decide (y0.2.1=0)) (some ((y0.1,()),())) (qd (k_ D y0.2.1 1 (a1.length:Int)) fun p2=>br (!p2.1.1) (some ((0,()),())) (br (decide (0<=wrap .i64 (y0.2.1-1))&&decide (wrap .i64 (y0.2.1-1)<(a1.length:Int))) (qd (Wv D y1 a2) fun p0=>br (bif decide (y1.1=y0.2.2.1) then decide (y1.2.1=2) else false) (some ((p0.1.1.2.2.1,()),())) (some ((p0.1.1.2.1,()),()))) none))) none)
def Y3(D:DX)(n:Nat)(a0:List aj)(a1:List bH)(a2:Int):Option aF:=Pj D n a0 a1 a2
theorem ahc(D:DX)(n:Nat)(a0:List aj)(a1:List bH)(a2:Int):rF D n 60 (a0,(a1,(a2,())))=Y3 D n a0 a1 a2:=by kernel_rfl
def qy3(D:DX)(n:Nat)(a1:a_)(a0:List aN):Option ag:=qd (q1h D a0 a1) fun b=>some ((decide (b.1.1>=0),()),())
def qmg(D:DX)(n:Nat)(a0:List aN)(a1:a_):Option ag:=qy3 D n a1 a0
theorem q5a(D:DX)(n:Nat)(a0:List aN)(a1:a_):rF D n 61 (a0,(a1,()))=qmg D n a0 a1:=by kernel_rfl
def Rg(D:DX)(n:Nat)(a0:aN):Option ag:=qd (Wb D a0) fun b=>some ((!b.1.1,()),())
def Ga(D:DX)(n:Nat)(a0:aN):Option ag:=Rg D n a0
theorem alg(D:DX)(n:Nat)(a0:aN):rF D n 62 (a0,())=Ga D n a0:=by kernel_rfl
def q5i(D:DX)(n:Nat)(go:List aj->Int->Int->aT->Option ag)(K0:Bool->Option ag)(K1:Option ag)(x0:List aj)(x1 x2:Int)(x3:aT):Option ag:=let y0:=List.getD x0 x2.toNat (0,0,0,());let y1:=List.getD x3.2.1 (Int.toNat (wrap .i64 (y0.2.1-1))) (0,0,[],(0,[],()),());br (decide (x2<x1)) (br (decide (0<=x2)&&decide (x2<(x0.length:Int))) (qd (q4l D y0 (x3.2.1.length:Int)) fun p0=>br (!p0.1.1) (K0 false) (br (decide (y0.2.1=0)) (go x0 x1 (wrap .i64 (x2+1)) x3) (br (decide (0<=wrap .i64 (y0.2.1-1))&&decide (wrap .i64 (y0.2.1-1)<(x3.2.1.length:Int))) (qd (Wv D y1 x2) fun p1=>br (bif !p1.1.2.1 then true else y1.1 != y0.2.2.1) (K0 false) (go x0 x1 (wrap .i64 (x2+1)) x3)) none))) none) K1
def Um(D:DX)(n:Nat)(K0:Bool->Option ag)(K1:Option ag):Nat->(List aj)->Int->Int->aT->Option ag | 0=>(fun x0 x1 x2 x3=>none) | m+1=>(fun x0 x1 x2 x3=>q5i D n (Um D n K0 K1 m) K0 K1 x0 x1 x2 x3)
def O0(D:DX)(n:Nat)(a:Bool):Option ag:=some ((a,()),())
def O1(D:DX)(n:Nat):Option ag:=some ((true,()),())
def Zq(D:DX)(n:Nat):(List aj)->(Int)->(Int)->aT->Option ag:=(fun x0 x1 x2 x3=>Um D n (fun a=>O0 D n a) (O1 D n) n x0 x1 x2 x3)
def q8z(D:DX)(n:Nat)(cz:List aj->Int->Int->aT->Option ag)(a0:aT):Option ag:=br ((a0.1.length:Int) != 20) (some ((false,()),())) (qd (k_ D (a0.2.1.length:Int) 1 4) fun b=>br (!b.1.1) (some ((false,()),())) (qd (qd3 D a0.2.1 (a_.mk 110 [])) fun b=>br b.1.1 (some ((false,()),())) (cz a0.1 (a0.1.length:Int) 0 a0)))
def q77(D:DX)(n:Nat)(a0:aT):Option ag:=q8z D n (Zq D n) a0
def q5h(x0:List aj)(x1 x2:Int)(x3:aT):St:=bq 64 [(1,AV.addr 1 []),(25,AV.val bV x0),(26,AV.val ah x1),(27,AV.val ah x2)] [(1,aC.mk jW Mk.no x3 true)]
def OY(a:Bool):St:=bq 64 [(2,AV.val Ty.bool a)] []
def OZ:St:=bq 64 [] []
theorem ahY(D:DX)(n:Nat)(K:KT 63):∀(m:Nat)(x0:List aj)(x1 x2:Int)(x3:aT),LF D n 63 bZ m (q5h x0 x1 x2 x3) K=Um D n (fun a=>K (Ex.ret) (OY a)) (K (Ex.exit 0) (OZ)) m x0 x1 x2 x3:=z9 (fun F=>q5i D n F (fun a=>K (Ex.ret) (OY a)) (K (Ex.exit 0) (OZ)))
theorem agA(D:DX)(n:Nat)(x0)(x1)(x2)(x3):LF D n 63 bZ n (q5h x0 x1 x2 x3) (CF D n 63 [] bZ (lF 63))=Zq D n x0 x1 x2 x3 :=by rw[ahY];kernel_rfl
theorem ai7(D:DX)(n:Nat)(a0:aT):rF D n 63 (a0,())=q77 D n a0:=by
 have h:rF D n 63 (a0,())=q8z D n (fun x0 x1 x2 x3=>LF D n 63 bZ n (q5h x0 x1 x2 x3) (CF D n 63 [] bZ (lF 63))) a0:=by kernel_rfl
 rw[h];simp only[agA];rfl
def qhp(D:DX)(n:Nat)(a1:a_)(a0:List aj):Option ag:=qd (qiq D a0 a1) fun b=>some ((decide (b.1.1>=0),()),())
def qd8(D:DX)(n:Nat)(a0:List aj)(a1:a_):Option ag:=qhp D n a1 a0
theorem qoc(D:DX)(n:Nat)(a0:List aj)(a1:a_):rF D n 64 (a0,(a1,()))=qd8 D n a0 a1:=by kernel_rfl
def alN(D:DX)(n:Nat)(a0:aj):Option ag:=some ((a0.2.1 != 0,()),())
def Tp(D:DX)(n:Nat)(a0:aj):Option ag:=alN D n a0
theorem alJ(D:DX)(n:Nat)(a0:aj):rF D n 65 (a0,())=Tp D n a0:=by kernel_rfl
def ZU(D:DX)(n:Nat)(go:List Int->Int->Int->aB->Option ag)(K0:Bool->aB->Option ag)(K1:aB->Option ag)(x0:List Int)(x1 x2:Int)(x3:aB):Option ag:=br (decide (x2<x1)) (br (decide (0<=x2)&&decide (x2<(x0.length:Int))) (br (List.getD x0 x2.toNat 0 != 0) (qd (zN D (List.getD x0 x2.toNat 0)) fun p0=>br (!p0.1.1) (K0 false x3) (br (decide (0<=0)&&decide (0<=x2)&&decide (x2<=(x3.1.length:Int))) (qd (V1 D (List.drop (Int.toNat 0) (List.take x2.toNat x3.1)) (List.getD x0 x2.toNat 0)) fun p1=>br p1.1.1 (K0 false x3) (go x0 x1 (wrap .i64 (x2+1)) x3)) none)) (go x0 x1 (wrap .i64 (x2+1)) x3)) none) (K1 x3)
def Uj(D:DX)(n:Nat)(K0:Bool->aB->Option ag)(K1:aB->Option ag):Nat->(List Int)->Int->Int->aB->Option ag | 0=>(fun x0 x1 x2 x3=>none) | m+1=>(fun x0 x1 x2 x3=>ZU D n (Uj D n K0 K1 m) K0 K1 x0 x1 x2 x3)
def q88(D:DX)(n:Nat)(a:Bool)(b:aB):Option ag:=some ((a,()),())
def qwd(D:DX)(n:Nat)(a:aB):Option ag:=br (decide ((a.1.length:Int)=4)) (qd (k_ D a.2.1 0 5) fun b=>some ((b.1.1,()),())) (some ((false,()),()))
def qys(D:DX)(n:Nat):(List Int)->(Int)->(Int)->aB->Option ag:=(fun x0 x1 x2 x3=>Uj D n (fun a b=>q88 D n a b) (fun c=>qwd D n c) n x0 x1 x2 x3)
def q5n(D:DX)(n:Nat)(cz:List Int->Int->Int->aB->Option ag)(a0:aB):Option ag:=cz a0.1 (a0.1.length:Int) 0 a0
def q4y(D:DX)(n:Nat)(a0:aB):Option ag:=q5n D n (qys D n) a0
def ZT(x0:List Int)(x1 x2:Int)(x3:aB):St:=bq 38 [(1,AV.addr 1 []),(6,AV.val bu x0),(7,AV.val ah x1),(8,AV.val ah x2)] [(1,aC.mk bO Mk.no x3 true)]
def q86(a:Bool)(b:aB):St:=bq 38 [(1,AV.addr 1 []),(2,AV.val Ty.bool a)] [(1,aC.mk bO Mk.no b true)]
def q87(a:aB):St:=bq 38 [(1,AV.addr 1 [])] [(1,aC.mk bO Mk.no a true)]
theorem agD(D:DX)(n:Nat)(K:KT 66):∀(m:Nat)(x0:List Int)(x1 x2:Int)(x3:aB),LF D n 66 eJ m (ZT x0 x1 x2 x3) K=Uj D n (fun a b=>K (Ex.ret) (q86 a b)) (fun c=>K (Ex.exit 0) (q87 c)) m x0 x1 x2 x3:=z9 (fun F=>ZU D n F (fun a b=>K (Ex.ret) (q86 a b)) (fun c=>K (Ex.exit 0) (q87 c)))
theorem af2(D:DX)(n:Nat)(x0)(x1)(x2)(x3):LF D n 66 eJ n (ZT x0 x1 x2 x3) (CF D n 66 [] eJ (lF 66))=qys D n x0 x1 x2 x3 :=by rw[agD];kernel_rfl
theorem aim(D:DX)(n:Nat)(a0:aB):rF D n 66 (a0,())=q4y D n a0:=by
 have h:rF D n 66 (a0,())=q5n D n (fun x0 x1 x2 x3=>LF D n 66 eJ n (ZT x0 x1 x2 x3) (CF D n 66 [] eJ (lF 66))) a0:=by kernel_rfl
 rw[h];simp only[af2];rfl
def qlp(D:DX)(n:Nat)(go:List Int->List Int->Int->Int->Option ag)(K0:Bool->Option ag)(K1:Option ag)(x0 x1:List Int)(x2 x3:Int):Option ag:=br (decide (x3<x2)) (br (decide (0<=x3)&&decide (x3<(x0.length:Int))) (br (decide (0<=x3)&&decide (x3<(x1.length:Int))) (br (List.getD x0 x3.toNat 0 != List.getD x1 x3.toNat 0) (K0 false) (go x0 x1 x2 (wrap .i64 (x3+1)))) none) none) K1
def TD(D:DX)(n:Nat)(K0:Bool->Option ag)(K1:Option ag):Nat->(List Int)->(List Int)->Int->Int->Option ag | 0=>(fun x0 x1 x2 x3=>none) | m+1=>(fun x0 x1 x2 x3=>qlp D n (TD D n K0 K1 m) K0 K1 x0 x1 x2 x3)
def qrb(D:DX)(n:Nat)(a:Bool):Option ag:=some ((a,()),())
def qrc(D:DX)(n:Nat):Option ag:=some ((true,()),())
def qle(D:DX)(n:Nat):(List Int)->(List Int)->(Int)->(Int)->Option ag:=(fun x0 x1 x2 x3=>TD D n (fun a=>qrb D n a) (qrc D n) n x0 x1 x2 x3)
def qmz(D:DX)(n:Nat)(cz:List Int->List Int->Int->Int->Option ag)(a0 a1:List Int):Option ag:=br ((a0.length:Int) != (a1.length:Int)) (some ((false,()),())) (cz a0 a1 (a0.length:Int) 0)
def qms(D:DX)(n:Nat)(a0 a1:List Int):Option ag:=qmz D n (qle D n) a0 a1
def qlo(x0 x1:List Int)(x2 x3:Int):St:=bq 26 [(0,AV.val bu x0),(1,AV.val bu x1),(12,AV.val ah x2),(13,AV.val ah x3)] []
def qq9(a:Bool):St:=bq 26 [(4,AV.val Ty.bool a)] []
def qra:St:=bq 26 [] []
theorem q9q(D:DX)(n:Nat)(K:KT 67):∀(m:Nat)(x0 x1:List Int)(x2 x3:Int),LF D n 67 bZ m (qlo x0 x1 x2 x3) K=TD D n (fun a=>K (Ex.ret) (qq9 a)) (K (Ex.exit 0) (qra)) m x0 x1 x2 x3:=z9 (fun F=>qlp D n F (fun a=>K (Ex.ret) (qq9 a)) (K (Ex.exit 0) (qra)))
theorem q7c(D:DX)(n:Nat)(x0)(x1)(x2)(x3):LF D n 67 bZ n (qlo x0 x1 x2 x3) (CF D n 67 [] bZ (lF 67))=qle D n x0 x1 x2 x3 :=by rw[q9q];kernel_rfl
theorem adv(D:DX)(n:Nat)(a0 a1:List Int):rF D n 67 (a0,(a1,()))=qms D n a0 a1:=by
 have h:rF D n 67 (a0,(a1,()))=qmz D n (fun x0 x1 x2 x3=>LF D n 67 bZ n (qlo x0 x1 x2 x3) (CF D n 67 [] bZ (lF 67))) a0 a1:=by kernel_rfl
 rw[h];simp only[q7c];rfl
def qyu(D:DX)(n:Nat)(go:List Int->Int->Int->aB->List Int->Option cr)(K0:aB->List Int->Option cr)(x0:List Int)(x1 x2:Int)(x3:aB)(x4:List Int):Option cr:=let y0:=wrap .i64 (x2+1);let y1:=List.getD x0 x2.toNat 0;br (decide (x2<x1)) (br (decide (0<=x2)&&decide (x2<(x0.length:Int))) (br (decide (y1=0)) (go x0 x1 y0 x3 x4) (qd (yD D y1) fun p1=>let y2:=List.set x4 p1.1.1.toNat y0;br (decide (0<=p1.1.1)&&decide (p1.1.1<(x4.length:Int))) (qd (tE D y1) fun p3=>qd (yC D p3.1.1) fun p0=>let y3:=List.set y2 p0.1.1.toNat (wrap .i64 (List.getD y2 p0.1.1.toNat 0+1));br (decide (0<=p0.1.1)&&decide (p0.1.1<(y2.length:Int))) (br (decide (0<=p0.1.1)&&decide (p0.1.1<(y2.length:Int))) (br (decide (x2<wrap .i64 (x3.2.1-1))) (qd (v5 D y1) fun p2=>br (decide (0<=p2.1.1)&&decide (p2.1.1<(y3.length:Int))) (go x0 x1 y0 x3 (List.set y3 p2.1.1.toNat y0)) none) (go x0 x1 y0 x3 y3)) none) none) none)) none) (K0 x3 x4)
def T7(D:DX)(n:Nat)(K0:aB->List Int->Option cr):Nat->(List Int)->Int->Int->aB->(List Int)->Option cr | 0=>(fun x0 x1 x2 x3 x4=>none) | m+1=>(fun x0 x1 x2 x3 x4=>qyu D n (T7 D n K0 m) K0 x0 x1 x2 x3 x4)
def qup(D:DX)(n:Nat)(c:aB)(a:List Int):Option cr:=qd (sH D) fun b=>br (decide (0<=b.1.1)&&decide (b.1.1<(a.length:Int))) (some ((List.set a b.1.1.toNat c.2.1,()),())) none
def qwe(D:DX)(n:Nat):(List Int)->(Int)->(Int)->aB->(List Int)->Option cr:=(fun x0 x1 x2 x3 x4=>T7 D n (fun a b=>qup D n a b) n x0 x1 x2 x3 x4)
def ZV(D:DX)(n:Nat)(cz:List Int->Int->Int->aB->List Int->Option cr)(a0:aB):Option cr:=qd (KE D a0) fun p0=>br (!p0.1.1) (some (([],()),())) (br (decide (0<a0.1.length)&&decide (0<(List.replicate (Int.toNat 20) 0).length)) (cz a0.1 (a0.1.length:Int) 0 a0 (wo ah (List.replicate (Int.toNat 20) 0) a0.1)) (cz a0.1 (a0.1.length:Int) 0 a0 (List.replicate (Int.toNat 20) 0)))
def Y4(D:DX)(n:Nat)(a0:aB):Option cr:=ZV D n (qwe D n) a0
def qyt(x0:List Int)(x1 x2:Int)(x3:aB)(x4:List Int):St:=bq 56 [(1,AV.addr 1 []),(3,AV.b8 3 [] 0),(15,AV.val bu x0),(16,AV.val ah x1),(17,AV.val ah x2)] [(1,aC.mk bO Mk.no x3 true),(3,aC.mk bu eL x4 false)]
def q6l(a:aB)(b:List Int):St:=bq 56 [(1,AV.addr 1 []),(3,AV.b8 3 [] 0)] [(1,aC.mk bO Mk.no a true),(3,aC.mk bu eL b false)]
theorem af3(D:DX)(n:Nat)(K:KT 68):∀(m:Nat)(x0:List Int)(x1 x2:Int)(x3:aB)(x4:List Int),LF D n 68 j4 m (qyt x0 x1 x2 x3 x4) K=T7 D n (fun a b=>K (Ex.exit 0) (q6l a b)) m x0 x1 x2 x3 x4:=oz (fun F=>qyu D n F (fun a b=>K (Ex.exit 0) (q6l a b)))
theorem aeL(D:DX)(n:Nat)(x0)(x1)(x2)(x3)(x4):LF D n 68 j4 n (qyt x0 x1 x2 x3 x4) (CF D n 68 [] j4 (lF 68))=qwe D n x0 x1 x2 x3 x4 :=by rw[af3];kernel_rfl
theorem ahd(D:DX)(n:Nat)(a0:aB):rF D n 68 (a0,())=Y4 D n a0:=by
 have h:rF D n 68 (a0,())=ZV D n (fun x0 x1 x2 x3 x4=>LF D n 68 j4 n (qyt x0 x1 x2 x3 x4) (CF D n 68 [] j4 (lF 68))) a0:=by kernel_rfl
 rw[h];simp only[aeL];rfl
def qmy(D:DX)(n:Nat)(a0:List Int):Option cr:=br (decide (Int.toNat (a0.length:Int)=0)) (both (some (([],()),())) (br (decide (0+a0.length<=f_)) (some (([]++a0,()),())) none)) (br (decide (0+a0.length<=f_)) (some (([]++a0,()),())) none)
def V5(D:DX)(n:Nat)(a0:List Int):Option cr:=qmy D n a0
theorem adu(D:DX)(n:Nat)(a0:List Int):rF D n 69 (a0,())=V5 D n a0:=by kernel_rfl
def Rk(D:DX)(n:Nat):Option aF:=some ((13,()),())
def Gu(D:DX)(n:Nat):Option aF:=Rk D n
theorem ahb(D:DX)(n:Nat):rF D n 70 ()=Gu D n:=by kernel_rfl
def aaJ(D:DX)(n:Nat)(a0:aB):Option ag:=some ((decide (a0.2.1=5),()),())
def Qu(D:DX)(n:Nat)(a0:aB):Option ag:=aaJ D n a0
theorem aah(D:DX)(n:Nat)(a0:aB):rF D n 71 (a0,())=Qu D n a0:=by kernel_rfl
def Pc(D:DX)(n:Nat)(a0:Int):Option aF:=qd (zN D a0) fun b=>qd (Kx D b.1.1 (wrap .i64 (3+a0))) fun b=>some ((b.1.1,()),())
def Y2(D:DX)(n:Nat)(a0:Int):Option aF:=Pc D n a0
theorem aha(D:DX)(n:Nat)(a0:Int):rF D n 73 (a0,())=Y2 D n a0:=by kernel_rfl
def qlr(D:DX)(n:Nat)(go:List Int->Int->Int->Int->Option aF)(K0:Int->Option aF)(K1:Option aF)(x0:List Int)(x1 x2 x3:Int):Option aF:=br (decide (x3<x2)) (br (decide (0<=x3)&&decide (x3<(x0.length:Int))) (br (decide (x1=List.getD x0 x3.toNat 0)) (K0 x3) (go x0 x1 x2 (wrap .i64 (x3+1)))) none) K1
def TE(D:DX)(n:Nat)(K0:Int->Option aF)(K1:Option aF):Nat->(List Int)->Int->Int->Int->Option aF | 0=>(fun x0 x1 x2 x3=>none) | m+1=>(fun x0 x1 x2 x3=>qlr D n (TE D n K0 K1 m) K0 K1 x0 x1 x2 x3)
def qrf(D:DX)(n:Nat)(a:Int):Option aF:=some ((a,()),())
def qrg(D:DX)(n:Nat):Option aF:=some ((-1,()),())
def qlf(D:DX)(n:Nat):(List Int)->(Int)->(Int)->(Int)->Option aF:=(fun x0 x1 x2 x3=>TE D n (fun a=>qrf D n a) (qrg D n) n x0 x1 x2 x3)
def qm0(D:DX)(n:Nat)(cz:List Int->Int->Int->Int->Option aF)(a0:List Int)(a1:Int):Option aF:=cz a0 a1 (a0.length:Int) 0
def qmt(D:DX)(n:Nat)(a0:List Int)(a1:Int):Option aF:=qm0 D n (qlf D n) a0 a1
def qlq(x0:List Int)(x1 x2 x3:Int):St:=bq 19 [(0,AV.val bu x0),(1,AV.val ah x1),(7,AV.val ah x2),(8,AV.val ah x3)] []
def qrd(a:Int):St:=bq 19 [(4,AV.val ah a)] []
def qre:St:=bq 19 [] []
theorem q9r(D:DX)(n:Nat)(K:KT 74):∀(m:Nat)(x0:List Int)(x1 x2 x3:Int),LF D n 74 eJ m (qlq x0 x1 x2 x3) K=TE D n (fun a=>K (Ex.ret) (qrd a)) (K (Ex.exit 0) (qre)) m x0 x1 x2 x3:=z9 (fun F=>qlr D n F (fun a=>K (Ex.ret) (qrd a)) (K (Ex.exit 0) (qre)))
theorem q7d(D:DX)(n:Nat)(x0)(x1)(x2)(x3):LF D n 74 eJ n (qlq x0 x1 x2 x3) (CF D n 74 [] eJ (lF 74))=qlf D n x0 x1 x2 x3 :=by rw[q9r];kernel_rfl
theorem adw(D:DX)(n:Nat)(a0:List Int)(a1:Int):rF D n 74 (a0,(a1,()))=qmt D n a0 a1:=by
 have h:rF D n 74 (a0,(a1,()))=qm0 D n (fun x0 x1 x2 x3=>LF D n 74 eJ n (qlq x0 x1 x2 x3) (CF D n 74 [] eJ (lF 74))) a0 a1:=by kernel_rfl
 rw[h];simp only[q7d];rfl
def aiU(D:DX)(n:Nat)(a0:Bool)(a1:Int):Option aF:=br (!a0) (some ((-1,()),())) (some ((a1,()),()))
def PJ(D:DX)(n:Nat)(a0:Bool)(a1:Int):Option aF:=aiU D n a0 a1
theorem aiq(D:DX)(n:Nat)(a0:Bool)(a1:Int):rF D n 75 (a0,(a1,()))=PJ D n a0 a1:=by kernel_rfl
def P4(D:DX)(n:Nat)(a0:Int):Option ag:=qd (k_ D a0 1 6) fun b=>some ((b.1.1,()),())
def q79(D:DX)(n:Nat)(a0:Int):Option ag:=P4 D n a0
theorem ai9(D:DX)(n:Nat)(a0:Int):rF D n 76 (a0,())=q79 D n a0:=by kernel_rfl
def Pv(D:DX)(n:Nat)(a0:Int):Option aF:=qd (zN D a0) fun b=>br (!b.1.1) (some ((-1,()),())) (some ((Int.tmod a0 3,()),()))
def YV(D:DX)(n:Nat)(a0:Int):Option aF:=Pv D n a0
theorem ag4(D:DX)(n:Nat)(a0:Int):rF D n 77 (a0,())=YV D n a0:=by kernel_rfl
def Pt(D:DX)(n:Nat)(a0:aB)(a1:aj)(a2:eP):Option ag:=qd (KE D a0) fun p1=>br (!p1.1.1) (some ((false,()),())) (qd (Dq D a1) fun p2=>br (!p2.1.1) (some ((false,()),())) (br (a2.1 != 0) (br (decide ((a2.2.1.length:Int)=0)) (qd (Pm D a0 a1 a2.1) fun p3=>some ((p3.1.1,()),())) (some ((false,()),()))) (qd (Pn D a0 a1) fun p0=>br p0.1.2.1 (qd (TO D p0.1.1 a2.2.1) fun p4=>some ((p4.1.1,()),())) (some ((false,()),())))))
def Zh(D:DX)(n:Nat)(a0:aB)(a1:aj)(a2:eP):Option ag:=Pt D n a0 a1 a2
theorem ag2(D:DX)(n:Nat)(a0:aB)(a1:aj)(a2:eP):rF D n 78 (a0,(a1,(a2,())))=Zh D n a0 a1 a2:=by kernel_rfl
def q32(D:DX)(n:Nat)(a0:bz)(a1:Int)(a2:aD):Option ag:=br (decide (a1 = -1)) (some ((true,()),())) (qd (k_ D a1 a0.2.2.1 a2.2.2.1) fun b=>some ((b.1.1,()),()))
def qru(D:DX)(n:Nat)(a0:bz)(a1:Int)(a2:aD):Option ag:=q32 D n a0 a1 a2
theorem aek(D:DX)(n:Nat)(a0:bz)(a1:Int)(a2:aD):rF D n 79 (a0,(a1,(a2,())))=qru D n a0 a1 a2:=by kernel_rfl
def Qw(D:DX)(n:Nat)(a0:aj):Option ag:=let y3:Option ag:=(qd (zN D a0.2.2.1) fun p1=>some ((p1.1.1,()),()));let y6:Option ag:=br (decide (a0.2.1=0)) y3 (some ((false,()),()));let y1:Option ag:=(br (decide (a0.1=6)) (qd (Wx D a0.2.1) fun p3=>some ((bif p3.1.1 then decide (a0.2.2.1=0) else false,()),())) (br (decide (a0.1=7)) (br (decide (a0.1=7)) (some ((bif decide (a0.2.1=0) then decide (a0.2.2.1=0) else false,()),())) (some ((false,()),()))) (br (decide (a0.1=8)) (br (decide (a0.1=8)) (some ((bif decide (a0.2.1=0) then decide (a0.2.2.1=0) else false,()),())) (some ((false,()),()))) (br (decide (a0.1=9)) (some ((bif decide (a0.2.1=0) then decide (a0.2.2.1=0) else false,()),())) (some ((false,()),()))))));let y0:Option ag:=br (decide (a0.1=5)) (br (decide (a0.1=5)) y6 y1) (br (decide (a0.1=10)) y6 y1);let y2:Option ag:=(qd (Uu D a0.2.1) fun p2=>some ((bif p2.1.1 then decide (a0.2.2.1=0) else false,()),()));let y4:Option ag:=br (decide (a0.1=3)) (br (decide (a0.1=3)) y2 y0) (br (decide (a0.1=4)) y2 y0);let y5:Option ag:=(qd (Uu D a0.2.1) fun p0=>br p0.1.1 y3 (some ((false,()),())));br (decide (a0.1=1)) (br (decide (a0.1=1)) y5 y4) (br (decide (a0.1=2)) y5 y4)
def Gk(D:DX)(n:Nat)(a0:aj):Option ag:=Qw D n a0
theorem aaa(D:DX)(n:Nat)(a0:aj):rF D n 80 (a0,())=Gk D n a0:=by kernel_rfl
def O2(D:DX)(n:Nat)(a0:aN)(a1:Int):Option ag:=let y0:Option ag:=(qd (VN D a0.2.2.2.1 (a_.mk 123 [])) fun p2=>br p2.1.1 (some ((false,()),())) (qd (VM D a0.2.2.2.2.1 (a_.mk 127 [bC.cq ah a1])) fun p3=>some ((!p3.1.1,()),())));br (decide ((a0.1.length:Int)>8)) (some ((false,()),())) (qd (qfn D a0.1 (a_.mk 121 [])) fun p0=>br p0.1.1 (some ((false,()),())) (qd (k_ D a0.2.1 0 (a0.1.length:Int)) fun p1=>br (bif bif bif !p1.1.1 then true else bif a0.2.2.1 then decide (a0.2.1=(a0.1.length:Int)) else false then true else decide ((a0.2.2.2.1.length:Int)>12) then true else decide ((a0.2.2.2.2.1.length:Int)>2)) (some ((false,()),())) (br (!a0.2.2.1) (br (decide (wrap .i64 ((a0.2.2.2.1.length:Int)+(a0.2.2.2.2.1.length:Int))>0)) (some ((false,()),())) y0) y0)))
def qxx(D:DX)(n:Nat)(a0:aN)(a1:Int):Option ag:=O2 D n a0 a1
theorem agp(D:DX)(n:Nat)(a0:aN)(a1:Int):rF D n 81 (a0,(a1,()))=qxx D n a0 a1:=by kernel_rfl
def qyw(D:DX)(n:Nat)(go:Int->Int->Int->Int->List bz->Int->Int->aD->aN->Option ag)(K0:Int->Int->Int->aD->aN->Option ag)(x0 x1 x2 x3:Int)(x4:List bz)(x5 x6:Int)(x7:aD)(x8:aN):Option ag:=let y0:=List.getD x4 x6.toNat (0,(0,0,0,()),0,0,0,(0,[],()),());let y1:=wrap .i64 (x6+1);br (decide (x6<x5)) (br (decide (0<=x6)&&decide (x6<(x4.length:Int))) (br (y0.1 != x0) (go x0 x1 x2 x3 x4 x5 y1 x7 x8) (br (decide (y0.2.2.2.2.1>=0)) (go x0 x6 (wrap .i64 (x2+1)) x3 x4 x5 y1 x7 x8) (go x0 x6 x2 (wrap .i64 (x3+1)) x4 x5 y1 x7 x8))) none) (K0 x1 x2 x3 x7 x8)
def T8(D:DX)(n:Nat)(K0:Int->Int->Int->aD->aN->Option ag):Nat->Int->Int->Int->Int->(List bz)->Int->Int->aD->aN->Option ag | 0=>(fun x0 x1 x2 x3 x4 x5 x6 x7 x8=>none) | m+1=>(fun x0 x1 x2 x3 x4 x5 x6 x7 x8=>qyw D n (T8 D n K0 m) K0 x0 x1 x2 x3 x4 x5 x6 x7 x8)
def qur(D:DX)(n:Nat)(b e d:Int)(c:aD)(a:aN):Option ag:=let y0:=List.getD c.2.2.2.1 b.toNat (0,(0,0,0,()),0,0,0,(0,[],()),());br (e != a.2.1) (some ((false,()),())) (br (!a.2.2.1) (some ((decide (d=0),()),())) (br (bif decide (b>=0) then decide (d=1) else false) (br (decide (0<=b)&&decide (b<(c.2.2.2.1.length:Int))) (br (decide (y0.2.2.2.2.1 = -1)) (br (decide (0<=b)&&decide (b<(c.2.2.2.1.length:Int))) (br (decide (0<=a.2.1)&&decide (a.2.1<(a.1.length:Int))) (some ((pP bT y0.2.1 (List.getD a.1 a.2.1.toNat (0,0,0,())),()),())) none) none) (some ((false,()),()))) none) (some ((false,()),()))))
def qwf(D:DX)(n:Nat):(Int)->(Int)->(Int)->(Int)->(List bz)->(Int)->(Int)->aD->aN->Option ag:=(fun x0 x1 x2 x3 x4 x5 x6 x7 x8=>T8 D n (fun a b c d e=>qur D n a b c d e) n x0 x1 x2 x3 x4 x5 x6 x7 x8)
def ZX(D:DX)(n:Nat)(cz:Int->Int->Int->Int->List bz->Int->Int->aD->aN->Option ag)(a0:aD)(a1:Int):Option ag:=br (decide (0<=a1)&&decide (a1<(a0.2.1.length:Int))) (cz a1 (-1) 0 0 a0.2.2.2.1 (a0.2.2.2.1.length:Int) 0 a0 (List.getD a0.2.1 a1.toNat ([],0,false,[],[],()))) none
def Zr(D:DX)(n:Nat)(a0:aD)(a1:Int):Option ag:=ZX D n (qwf D n) a0 a1
def qyv(x0 x1 x2 x3:Int)(x4:List bz)(x5 x6:Int)(x7:aD)(x8:aN):St:=bq 76 [(1,AV.val ah x0),(2,AV.addr 2 []),(5,AV.addr 5 []),(6,AV.val ah x1),(7,AV.val ah x2),(8,AV.val ah x3),(17,AV.val zm x4),(18,AV.val ah x5),(19,AV.val ah x6)] [(2,aC.mk cP Mk.no x7 true),(5,aC.mk jK Mk.no x8 true)]
def q6m(a b c:Int)(d:aD)(e:aN):St:=bq 76 [(2,AV.addr 2 []),(5,AV.addr 5 []),(6,AV.val ah a),(7,AV.val ah b),(8,AV.val ah c)] [(2,aC.mk cP Mk.no d true),(5,aC.mk jK Mk.no e true)]
theorem af4(D:DX)(n:Nat)(K:KT 82):∀(m:Nat)(x0 x1 x2 x3:Int)(x4:List bz)(x5 x6:Int)(x7:aD)(x8:aN),LF D n 82 zI m (qyv x0 x1 x2 x3 x4 x5 x6 x7 x8) K=T8 D n (fun a b c d e=>K (Ex.exit 0) (q6m a b c d e)) m x0 x1 x2 x3 x4 x5 x6 x7 x8:=UX (fun F=>qyw D n F (fun a b c d e=>K (Ex.exit 0) (q6m a b c d e)))
theorem aeN(D:DX)(n:Nat)(x0)(x1)(x2)(x3)(x4)(x5)(x6)(x7)(x8):LF D n 82 zI n (qyv x0 x1 x2 x3 x4 x5 x6 x7 x8) (CF D n 82 [] zI (lF 82))=qwf D n x0 x1 x2 x3 x4 x5 x6 x7 x8 :=by rw[af4];kernel_rfl
theorem ahe(D:DX)(n:Nat)(a0:aD)(a1:Int):rF D n 82 (a0,(a1,()))=Zr D n a0 a1:=by
 have h:rF D n 82 (a0,(a1,()))=ZX D n (fun x0 x1 x2 x3 x4 x5 x6 x7 x8=>LF D n 82 zI n (qyv x0 x1 x2 x3 x4 x5 x6 x7 x8) (CF D n 82 [] zI (lF 82))) a0 a1:=by kernel_rfl
 rw[h];simp only[aeN];rfl
def qy1(D:DX)(n:Nat)(go:Int->List bz->Int->Int->aD->Option ag)(K0:Int->aD->Option ag)(x0:Int)(x1:List bz)(x2 x3:Int)(x4:aD):Option ag:=br (decide (x3<x2)) (br (decide (0<=x3)&&decide (x3<(x1.length:Int))) (br (decide ((List.getD x1 x3.toNat (0,(0,0,0,()),0,0,0,(0,[],()),())).2.2.2.1>=0)) (go (wrap .i64 (x0+1)) x1 x2 (wrap .i64 (x3+1)) x4) (go x0 x1 x2 (wrap .i64 (x3+1)) x4)) none) (K0 x0 x4)
def T_(D:DX)(n:Nat)(K0:Int->aD->Option ag):Nat->Int->(List bz)->Int->Int->aD->Option ag | 0=>(fun x0 x1 x2 x3 x4=>none) | m+1=>(fun x0 x1 x2 x3 x4=>qy1 D n (T_ D n K0 m) K0 x0 x1 x2 x3 x4)
def qy2(D:DX)(n:Nat)(go:Int->List Int->Int->Int->aD->Option ag)(K0:Bool->Int->aD->Option ag)(K1:Int->aD->Option ag)(c:Int)(d:List Int)(e b:Int)(a:aD):Option ag:=let y2:=List.getD d b.toNat 0;let y0:=List.getD a.2.2.2.1 (Int.toNat y2) (0,(0,0,0,()),0,0,0,(0,[],()),());let y1:=Int.toNat (wrap .i64 (b-1));br (decide (b<e)) (br (decide (0<=b)&&decide (b<(d.length:Int))) (qd (k_ D y2 0 (wrap .i64 ((a.2.2.2.1.length:Int)-1))) fun p0=>br (!p0.1.1) (K0 false c a) (br (decide (0<=y2)&&decide (y2<(a.2.2.2.1.length:Int))) (br (decide (y0.2.2.2.1<0)) (K0 false c a) (br (decide (0<=0)&&decide (0<=b)&&decide (b<=(a.2.2.2.2.1.length:Int))) (qd (V1 D (List.drop (Int.toNat 0) (List.take b.toNat a.2.2.2.2.1)) y2) fun p1=>br p1.1.1 (K0 false c a) (br (decide (b>0)) (br (decide (0<=wrap .i64 (b-1))&&decide (wrap .i64 (b-1)<(a.2.2.2.2.1.length:Int))) (br (decide (0<=List.getD a.2.2.2.2.1 y1 0)&&decide (List.getD a.2.2.2.2.1 y1 0<(a.2.2.2.1.length:Int))) (br (decide (0<=y2)&&decide (y2<(a.2.2.2.1.length:Int))) (br (decide ((List.getD a.2.2.2.1 (Int.toNat (List.getD a.2.2.2.2.1 y1 0)) (0,(0,0,0,()),0,0,0,(0,[],()),())).2.2.2.1>y0.2.2.2.1)) (K0 false c a) (go c d e (wrap .i64 (b+1)) a)) none) none) none) (go c d e (wrap .i64 (b+1)) a))) none)) none)) none) (K1 c a)
def Ua(D:DX)(n:Nat)(K0:Bool->Int->aD->Option ag)(K1:Int->aD->Option ag):Nat->Int->(List Int)->Int->Int->aD->Option ag | 0=>(fun a b c d e=>none) | m+1=>(fun a b c d e=>qy2 D n (Ua D n K0 K1 m) K0 K1 a b c d e)
def afg(D:DX)(n:Nat)(a:Bool)(b:Int)(c:aD):Option ag:=some ((a,()),())
def q6r(D:DX)(n:Nat)(a:Int)(b:aD):Option ag:=some ((decide (a=(b.2.2.2.2.1.length:Int)),()),())
def qwi(D:DX)(n:Nat):(Int)->(List Int)->(Int)->(Int)->aD->Option ag:=(fun a b h i j=>Ua D n (fun c d e=>afg D n c d e) (fun f g=>q6r D n f g) n a b h i j)
def qut(D:DX)(n:Nat)(mJ:Int->List Int->Int->Int->aD->Option ag)(b:Int)(a:aD):Option ag:=mJ b a.2.2.2.2.1 (a.2.2.2.2.1.length:Int) 0 a
def qwh(D:DX)(n:Nat):(Int)->(List bz)->(Int)->(Int)->aD->Option ag:=(fun x0 x1 x2 x3 x4=>T_ D n (fun a b=>qut D n (qwi D n) a b) n x0 x1 x2 x3 x4)
def ZZ(D:DX)(n:Nat)(cz:Int->List bz->Int->Int->aD->Option ag)(a0:aD):Option ag:=cz 0 a0.2.2.2.1 (a0.2.2.2.1.length:Int) 0 a0
def Zx(D:DX)(n:Nat)(a0:aD):Option ag:=ZZ D n (qwh D n) a0
def qyz(x0:Int)(x1:List bz)(x2 x3:Int)(x4:aD):St:=bq 83 [(1,AV.addr 1 []),(3,AV.val ah x0),(9,AV.val zm x1),(10,AV.val ah x2),(11,AV.val ah x3)] [(1,aC.mk cP Mk.no x4 true)]
def qus(a:Int)(b:aD):St:=bq 83 [(1,AV.addr 1 []),(3,AV.val ah a)] [(1,aC.mk cP Mk.no b true)]
def qy0(a:Int)(b:List Int)(c d:Int)(e:aD):St:=bq 83 [(1,AV.addr 1 []),(3,AV.val ah a),(22,AV.val bu b),(23,AV.val ah c),(24,AV.val ah d)] [(1,aC.mk cP Mk.no e true)]
def q6p(a:Bool)(b:Int)(c:aD):St:=bq 83 [(1,AV.addr 1 []),(2,AV.val Ty.bool a),(3,AV.val ah b)] [(1,aC.mk cP Mk.no c true)]
def q6q(a:Int)(b:aD):St:=bq 83 [(1,AV.addr 1 []),(3,AV.val ah a)] [(1,aC.mk cP Mk.no b true)]
theorem af6(D:DX)(n:Nat)(K:KT 83):∀(m:Nat)(x0:Int)(x1:List bz)(x2 x3:Int)(x4:aD),LF D n 83 bZ m (qyz x0 x1 x2 x3 x4) K=T_ D n (fun a b=>K (Ex.exit 0) (qus a b)) m x0 x1 x2 x3 x4:=oz (fun F=>qy1 D n F (fun a b=>K (Ex.exit 0) (qus a b)))
theorem af7(D:DX)(n:Nat)(K:KT 83):∀(m:Nat)(f:Int)(g:List Int)(h i:Int)(j:aD),LF D n 83 eN m (qy0 f g h i j) K=Ua D n (fun a b c=>K (Ex.ret) (q6p a b c)) (fun d e=>K (Ex.exit 2) (q6q d e)) m f g h i j:=oz (fun F=>qy2 D n F (fun a b c=>K (Ex.ret) (q6p a b c)) (fun d e=>K (Ex.exit 2) (q6q d e)))
theorem aeR(D:DX)(n:Nat)(a:Int)(b:List Int)(c d:Int)(e:aD):LF D n 83 eN n (qy0 a b c d e) (CF D n 83 [] eN (lF 83))=qwi D n a b c d e :=by rw[af7];kernel_rfl
theorem aff(D:DX)(n:Nat)(a:Int)(b:aD):(CF D n 83 [] bZ (lF 83)) (Ex.exit 0) (qus a b)=qut D n (fun c d e f g=>LF D n 83 eN n (qy0 c d e f g) (CF D n 83 [] eN (lF 83))) a b:=by kernel_rfl
theorem aeQ(D:DX)(n:Nat)(x0)(x1)(x2)(x3)(x4):LF D n 83 bZ n (qyz x0 x1 x2 x3 x4) (CF D n 83 [] bZ (lF 83))=qwh D n x0 x1 x2 x3 x4:=by rw[af6];simp only[aff,aeR];rfl
theorem agV(D:DX)(n:Nat)(a0:aD):rF D n 83 (a0,())=Zx D n a0:=by
 have h:rF D n 83 (a0,())=ZZ D n (fun x0 x1 x2 x3 x4=>LF D n 83 bZ n (qyz x0 x1 x2 x3 x4) (CF D n 83 [] bZ (lF 83))) a0:=by kernel_rfl
 rw[h];simp only[aeQ];rfl
def Py(D:DX)(n:Nat)(a0:eP):Option ((eP×Unit)×Unit):=qd (Km D a0.2.1) fun b=>some (((a0.1,b.1.1,()),()),())
def Zu(D:DX)(n:Nat)(a0:eP):Option ((eP×Unit)×Unit):=Py D n a0
theorem agS(D:DX)(n:Nat)(a0:eP):rF D n 85 (a0,())=Zu D n a0:=by kernel_rfl
def ahR(D:DX)(n:Nat):Option jA:=some (((List.replicate (Int.toNat 4) 0,0,()),()),())
def Po(D:DX)(n:Nat):Option jA:=ahR D n
theorem ahr(D:DX)(n:Nat):rF D n 90 ()=Po D n:=by kernel_rfl
def q5u(D:DX)(n:Nat)(go:Int->Int->aB->Option aF)(K0:Int->Option aF)(K1:Option aF)(x0 x1:Int)(x2:aB):Option aF:=br (decide (x1<(x2.1.length:Int))) (br (decide (0<=x1)&&decide (x1<(x2.1.length:Int))) (br (decide (List.getD x2.1 x1.toNat 0=x0)) (K0 x1) (go x0 (wrap .i64 (x1+1)) x2)) none) K1
def Uq(D:DX)(n:Nat)(K0:Int->Option aF)(K1:Option aF):Nat->Int->Int->aB->Option aF | 0=>(fun x0 x1 x2=>none) | m+1=>(fun x0 x1 x2=>q5u D n (Uq D n K0 K1 m) K0 K1 x0 x1 x2)
def OR(D:DX)(n:Nat)(a:Int):Option aF:=some ((a,()),())
def OS(D:DX)(n:Nat):Option aF:=some ((-1,()),())
def ZI(D:DX)(n:Nat):(Int)->(Int)->aB->Option aF:=(fun x0 x1 x2=>Uq D n (fun a=>OR D n a) (OS D n) n x0 x1 x2)
def q9u(D:DX)(n:Nat)(cz:Int->Int->aB->Option aF)(a0:aB)(a1:Int):Option aF:=cz a1 0 a0
def q8c(D:DX)(n:Nat)(a0:aB)(a1:Int):Option aF:=q9u D n (ZI D n) a0 a1
def q5t(x0 x1:Int)(x2:aB):St:=bq 21 [(1,AV.val ah x0),(2,AV.addr 2 []),(5,AV.val ah x1)] [(2,aC.mk bO Mk.no x2 true)]
def OP(a:Int):St:=bq 21 [(4,AV.val ah a)] []
def OQ:St:=bq 21 [] []
theorem ahO(D:DX)(n:Nat)(K:KT 91):∀(m:Nat)(x0 x1:Int)(x2:aB),LF D n 91 eJ m (q5t x0 x1 x2) K=Uq D n (fun a=>K (Ex.ret) (OP a)) (K (Ex.exit 0) (OQ)) m x0 x1 x2:=pJ (fun F=>q5u D n F (fun a=>K (Ex.ret) (OP a)) (K (Ex.exit 0) (OQ)))
theorem agG(D:DX)(n:Nat)(x0)(x1)(x2):LF D n 91 eJ n (q5t x0 x1 x2) (CF D n 91 [] eJ (lF 91))=ZI D n x0 x1 x2 :=by rw[ahO];kernel_rfl
theorem ajb(D:DX)(n:Nat)(a0:aB)(a1:Int):rF D n 91 (a0,(a1,()))=q8c D n a0 a1:=by
 have h:rF D n 91 (a0,(a1,()))=q9u D n (fun x0 x1 x2=>LF D n 91 eJ n (q5t x0 x1 x2) (CF D n 91 [] eJ (lF 91))) a0 a1:=by kernel_rfl
 rw[h];simp only[agG];rfl
def q93(D:DX)(n:Nat)(a0:bt)(a1:List Int):Option pn:=qd (rT D a0 (a1.length:Int)) fun b=>br (decide (0<=b.1.1)&&decide (b.1.1<(a1.length:Int))) (some ((List.getD a1 b.1.1.toNat 0,()),b.2.1,())) none
def qv3(D:DX)(n:Nat)(a0:bt)(a1:List Int):Option pn:=q93 D n a0 a1
theorem afO(D:DX)(n:Nat)(a0:bt)(a1:List Int):rF D n 92 (a0,(a1,()))=qv3 D n a0 a1:=by kernel_rfl
def q4a(D:DX)(n:Nat)(a0:bt):Option ((aj×Unit)×sU):=qd (Wj D a0 (List.set (List.set (List.set (List.set (List.set (List.set (List.set (List.set (List.set (List.set (List.set (List.set (List.set (List.set (List.replicate 14 0) 0 1) 1 1) 2 1) 3 2) 4 2) 5 3) 6 4) 7 5) 8 6) 9 7) 10 8) 11 9) 12 9) 13 10)) fun p0=>qd (WR D p0.1.1) fun jx=>br jx.1.1 (qd (rT D p0.2.1 4) fun p1=>br (decide (p0.1.1=6)) (qd (rT D p1.2.1 3) fun p2=>qd (Cf D p0.1.1) fun jR=>br jR.1.1 (qd (rT D p2.2.1 4) fun p6=>some (((p0.1.1,p2.1.1,wrap .i64 (1+p6.1.1),()),()),p6.2.1,())) (some (((p0.1.1,p2.1.1,0,()),()),p2.2.1,()))) (qd (Cf D p0.1.1) fun kY=>br kY.1.1 (qd (rT D p1.2.1 4) fun p7=>some (((p0.1.1,p1.1.1,wrap .i64 (1+p7.1.1),()),()),p7.2.1,())) (some (((p0.1.1,p1.1.1,0,()),()),p1.2.1,())))) (br (decide (p0.1.1=6)) (qd (rT D p0.2.1 3) fun p3=>qd (Cf D p0.1.1) fun p8=>br p8.1.1 (qd (rT D p3.2.1 4) fun p4=>some (((p0.1.1,p3.1.1,wrap .i64 (1+p4.1.1),()),()),p4.2.1,())) (some (((p0.1.1,p3.1.1,0,()),()),p3.2.1,()))) (qd (Cf D p0.1.1) fun p9=>br p9.1.1 (qd (rT D p0.2.1 4) fun p5=>some (((p0.1.1,0,wrap .i64 (1+p5.1.1),()),()),p5.2.1,())) (some (((p0.1.1,0,0,()),()),p0.2.1,()))))
def qry(D:DX)(n:Nat)(a0:bt):Option ((aj×Unit)×sU):=q4a D n a0
theorem aeo(D:DX)(n:Nat)(a0:bt):rF D n 93 (a0,())=qry D n a0:=by kernel_rfl
def PV(D:DX)(n:Nat)(a0:bt):Option pn:=let y1:=wrap .i64 (a0.2.2.1 * 6364136223846793005)+1442695040888963407;let y0:=wrap .i64 (↑(BitVec.toNat (BitVec.xor (BitVec.ofInt (IntKind.bits IntKind.i64) (Int.fdiv (wrap .i64 y1) (Int.pow 2 (if Int.toNat 33<=IntKind.bits IntKind.i64 then Int.toNat 33 else IntKind.bits IntKind.i64)))) (BitVec.ofInt (IntKind.bits IntKind.i64) (Int.fdiv (wrap .i64 y1) (Int.pow 2 (if Int.toNat 45<=IntKind.bits IntKind.i64 then Int.toNat 45 else IntKind.bits IntKind.i64)))))):Int);br (decide (a0.2.1<(a0.1.length:Int))) (br (decide (0<=a0.2.1)&&decide (a0.2.1<(a0.1.length:Int))) (some ((wrap .i64 (↑(BitVec.toNat (BitVec.and (BitVec.ofInt (IntKind.bits IntKind.i64) (wrap .i64 (wrap .i64 (↑(BitVec.toNat (BitVec.and (BitVec.ofInt (IntKind.bits IntKind.i64) y0) (BitVec.ofInt (IntKind.bits IntKind.i64) 255))):Int)+wrap .i64 (List.getD a0.1 a0.2.1.toNat 0)))) (BitVec.ofInt (IntKind.bits IntKind.i64) 255))):Int),()),(a0.1,wrap .i64 (a0.2.1+1),wrap .i64 y1,a0.2.2.2),())) none) (some ((wrap .i64 (↑(BitVec.toNat (BitVec.and (BitVec.ofInt (IntKind.bits IntKind.i64) y0) (BitVec.ofInt (IntKind.bits IntKind.i64) 255))):Int),()),(a0.1,a0.2.1,wrap .i64 y1,a0.2.2.2),()))
def q46(D:DX)(n:Nat)(a0:bt):Option pn:=PV D n a0
theorem aiv(D:DX)(n:Nat)(a0:bt):rF D n 94 (a0,())=q46 D n a0:=by kernel_rfl
def qmm(D:DX)(n:Nat)(a0:List aj):Option mO:=br (decide (Int.toNat (a0.length:Int)=0)) (both (some (([],()),())) (br (decide (0+a0.length<=f_)) (some (([]++a0,()),())) none)) (br (decide (0+a0.length<=f_)) (some (([]++a0,()),())) none)
def qh2(D:DX)(n:Nat)(a0:List aj):Option mO:=qmm D n a0
theorem qxu(D:DX)(n:Nat)(a0:List aj):rF D n 95 (a0,())=qh2 D n a0:=by kernel_rfl
def qzs(D:DX)(n:Nat)(go:Int->aB->List Int->Option cr)(K0:aB->List Int->Option cr)(x0:Int)(x1:aB)(x2:List Int):Option cr:=let y0:=List.getD x1.1 x0.toNat 0;let y1:=wrap .i64 (x0+1);br (decide (x0<4)) (br (decide (0<=x0)&&decide (x0<(x1.1.length:Int))) (qd (q7w D x0) fun p0=>let y2:=List.set x2 p0.1.1.toNat y0;br (decide (0<=p0.1.1)&&decide (p0.1.1<(x2.length:Int))) (br (decide (y0=0)) (go y1 x1 y2) (qd (Zc D y0) fun p1=>let y3:=List.set y2 p1.1.1.toNat y1;br (decide (0<=p1.1.1)&&decide (p1.1.1<(y2.length:Int))) (br (decide (x0<wrap .i64 (x1.2.1-1))) (qd (q7y D y0) fun p2=>br (decide (0<=p2.1.1)&&decide (p2.1.1<(y3.length:Int))) (go y1 x1 (List.set y3 p2.1.1.toNat y1)) none) (go y1 x1 y3)) none)) none) none) (K0 x1 x2)
def Uc(D:DX)(n:Nat)(K0:aB->List Int->Option cr):Nat->Int->aB->(List Int)->Option cr | 0=>(fun x0 x1 x2=>none) | m+1=>(fun x0 x1 x2=>qzs D n (Uc D n K0 m) K0 x0 x1 x2)
def qzt(D:DX)(n:Nat)(go:Int->aB->List Int->Option cr)(K0:aB->List Int->Option cr)(a:Int)(c:aB)(d:List Int):Option cr:=br (decide (a<3)) (qd (Za D a) fun b=>qd (Zb D c a) fun b_1=>br (decide (0<=b.1.1)&&decide (b.1.1<(d.length:Int))) (go (wrap .i64 (a+1)) c (List.set d b.1.1.toNat b_1.1.1)) none) (K0 c d)
def Ud(D:DX)(n:Nat)(K0:aB->List Int->Option cr):Nat->Int->aB->(List Int)->Option cr | 0=>(fun a b c=>none) | m+1=>(fun a b c=>qzt D n (Ud D n K0 m) K0 a b c)
def qu1(D:DX)(n:Nat)(c:aB)(a:List Int):Option cr:=qd (Wz D) fun b=>br (decide (0<=b.1.1)&&decide (b.1.1<(a.length:Int))) (some ((List.set a b.1.1.toNat c.2.1,()),())) none
def Wq(D:DX)(n:Nat):(Int)->aB->(List Int)->Option cr:=(fun a d e=>Ud D n (fun b c=>qu1 D n b c) n a d e)
def Wg(D:DX)(n:Nat)(mJ:Int->aB->List Int->Option cr)(a:aB)(b:List Int):Option cr:=mJ 0 a b
def qwx(D:DX)(n:Nat):(Int)->aB->(List Int)->Option cr:=(fun x0 x1 x2=>Uc D n (fun a b=>Wg D n (Wq D n) a b) n x0 x1 x2)
def Z1(D:DX)(n:Nat)(cz:Int->aB->List Int->Option cr)(a0:aB):Option cr:=qd (WD D a0) fun b=>br (!b.1.1) (some (([],()),())) (cz 0 a0 (List.replicate (Int.toNat 20) 0))
def ZC(D:DX)(n:Nat)(a0:aB):Option cr:=Z1 D n (qwx D n) a0
def qzq(x0:Int)(x1:aB)(x2:List Int):St:=bq 62 [(1,AV.addr 1 []),(3,AV.b8 3 [] 0),(4,AV.val ah x0)] [(1,aC.mk bO Mk.no x1 true),(3,aC.mk bu eL x2 false)]
def qu0(a:aB)(b:List Int):St:=bq 62 [(1,AV.addr 1 []),(3,AV.b8 3 [] 0)] [(1,aC.mk bO Mk.no a true),(3,aC.mk bu eL b false)]
def qzr(a:Int)(b:aB)(c:List Int):St:=bq 62 [(1,AV.addr 1 []),(3,AV.b8 3 [] 0),(6,AV.val ah a)] [(1,aC.mk bO Mk.no b true),(3,aC.mk bu eL c false)]
def q6x(a:aB)(b:List Int):St:=bq 62 [(1,AV.addr 1 []),(3,AV.b8 3 [] 0)] [(1,aC.mk bO Mk.no a true),(3,aC.mk bu eL b false)]
theorem age(D:DX)(n:Nat)(K:KT 96):∀(m:Nat)(x0:Int)(x1:aB)(x2:List Int),LF D n 96 eN m (qzq x0 x1 x2) K=Uc D n (fun a b=>K (Ex.exit 0) (qu0 a b)) m x0 x1 x2:=pJ (fun F=>qzs D n F (fun a b=>K (Ex.exit 0) (qu0 a b)))
theorem agf(D:DX)(n:Nat)(K:KT 96):∀(m:Nat)(c:Int)(d:aB)(e:List Int),LF D n 96 j4 m (qzr c d e) K=Ud D n (fun a b=>K (Ex.exit 2) (q6x a b)) m c d e:=pJ (fun F=>qzt D n F (fun a b=>K (Ex.exit 2) (q6x a b)))
theorem afn(D:DX)(n:Nat)(a:Int)(b:aB)(c:List Int):LF D n 96 j4 n (qzr a b c) (CF D n 96 [] j4 (lF 96))=Wq D n a b c :=by rw[agf];kernel_rfl
theorem afo(D:DX)(n:Nat)(a:aB)(b:List Int):(CF D n 96 [] eN (lF 96)) (Ex.exit 0) (qu0 a b)=Wg D n (fun c d e=>LF D n 96 j4 n (qzr c d e) (CF D n 96 [] j4 (lF 96))) a b:=by kernel_rfl
theorem afm(D:DX)(n:Nat)(x0)(x1)(x2):LF D n 96 eN n (qzq x0 x1 x2) (CF D n 96 [] eN (lF 96))=qwx D n x0 x1 x2:=by rw[age];simp only[afo,afn];rfl
theorem aht(D:DX)(n:Nat)(a0:aB):rF D n 96 (a0,())=ZC D n a0:=by
 have h:rF D n 96 (a0,())=Z1 D n (fun x0 x1 x2=>LF D n 96 eN n (qzq x0 x1 x2) (CF D n 96 [] eN (lF 96))) a0:=by kernel_rfl
 rw[h];simp only[afm];rfl
def aao(D:DX)(n:Nat)(a0 a1 a2:Int):Option ag:=some ((bif decide (a0>=a1) then decide (a0<=a2) else false,()),())
def Qj(D:DX)(n:Nat)(a0 a1 a2:Int):Option ag:=aao D n a0 a1 a2
theorem aaj(D:DX)(n:Nat)(a0 a1 a2:Int):rF D n 97 (a0,(a1,(a2,())))=Qj D n a0 a1 a2:=by kernel_rfl
def q5y(D:DX)(n:Nat)(go:Int->aT->Option ag)(K0:Bool->aT->Option ag)(K1:aT->Option ag)(x0:Int)(x1:aT):Option ag:=br (decide (x0<(x1.2.1.length:Int))) (br (decide (0<=x0)&&decide (x0<(x1.2.1.length:Int))) (qd (q4o D (List.getD x1.2.1 x0.toNat (0,0,[],(0,[],()),()))) fun b=>br (!b.1.1) (K0 false x1) (go (wrap .i64 (x0+1)) x1)) none) (K1 x1)
def Ur(D:DX)(n:Nat)(K0:Bool->aT->Option ag)(K1:aT->Option ag):Nat->Int->aT->Option ag | 0=>(fun x0 x1=>none) | m+1=>(fun x0 x1=>q5y D n (Ur D n K0 K1 m) K0 K1 x0 x1)
def OV(D:DX)(n:Nat)(a:Bool)(b:aT):Option ag:=some ((a,()),())
def q5z(D:DX)(n:Nat)(go:Int->aT->Option ag)(K0:Bool->Option ag)(K1:Option ag)(b:Int)(a:aT):Option ag:=let y0:=List.getD a.1 b.toNat (0,0,0,());let y1:=List.getD a.2.1 (Int.toNat (wrap .i64 (y0.2.1-1))) (0,0,[],(0,[],()),());br (decide (b<(a.1.length:Int))) (br (decide (0<=b)&&decide (b<(a.1.length:Int))) (qd (PI D y0 (a.2.1.length:Int)) fun p0=>br (!p0.1.1) (K0 false) (br (decide (y0.2.1>0)) (br (decide (0<=wrap .i64 (y0.2.1-1))&&decide (wrap .i64 (y0.2.1-1)<(a.2.1.length:Int))) (qd (ag0 D y1 b) fun p1=>br (!p1.1.2.1) (K0 false) (br (decide (0<=wrap .i64 (y0.2.1-1))&&decide (wrap .i64 (y0.2.1-1)<(a.2.1.length:Int))) (br (y1.1 != y0.2.2.1) (K0 false) (go (wrap .i64 (b+1)) a)) none)) none) (go (wrap .i64 (b+1)) a))) none) K1
def Us(D:DX)(n:Nat)(K0:Bool->Option ag)(K1:Option ag):Nat->Int->aT->Option ag | 0=>(fun a b=>none) | m+1=>(fun a b=>q5z D n (Us D n K0 K1 m) K0 K1 a b)
def agM(D:DX)(n:Nat)(a:Bool):Option ag:=some ((a,()),())
def agN(D:DX)(n:Nat):Option ag:=some ((true,()),())
def ZM(D:DX)(n:Nat):(Int)->aT->Option ag:=(fun a b=>Us D n (fun c=>agM D n c) (agN D n) n a b)
def qzn(D:DX)(n:Nat)(mJ:Int->aT->Option ag)(a:aT):Option ag:=mJ 0 a
def ZL(D:DX)(n:Nat):(Int)->aT->Option ag:=(fun x0 x1=>Ur D n (fun a b=>OV D n a b) (fun c=>qzn D n (ZM D n) c) n x0 x1)
def q9x(D:DX)(n:Nat)(cz:Int->aT->Option ag)(a0:aT):Option ag:=br ((a0.1.length:Int) != 20) (some ((false,()),())) (qd (lZ D (a0.2.1.length:Int) 1 4) fun b=>br (!b.1.1) (some ((false,()),())) (cz 0 a0))
def q8e(D:DX)(n:Nat)(a0:aT):Option ag:=q9x D n (ZL D n) a0
def q5w(x0:Int)(x1:aT):St:=bq 81 [(1,AV.addr 1 []),(3,AV.val ah x0)] [(1,aC.mk jW Mk.no x1 true)]
def qzl(a:Bool)(b:aT):St:=bq 81 [(1,AV.addr 1 []),(2,AV.val Ty.bool a)] [(1,aC.mk jW Mk.no b true)]
def qzm(a:aT):St:=bq 81 [(1,AV.addr 1 [])] [(1,aC.mk jW Mk.no a true)]
def q5x(a:Int)(b:aT):St:=bq 81 [(1,AV.addr 1 []),(4,AV.val ah a)] [(1,aC.mk jW Mk.no b true)]
def OT(a:Bool):St:=bq 81 [(2,AV.val Ty.bool a)] []
def OU:St:=bq 81 [] []
theorem ahP(D:DX)(n:Nat)(K:KT 98):∀(m:Nat)(x0:Int)(x1:aT),LF D n 98 bZ m (q5w x0 x1) K=Ur D n (fun a b=>K (Ex.ret) (qzl a b)) (fun c=>K (Ex.exit 0) (qzm c)) m x0 x1:=DV (fun F=>q5y D n F (fun a b=>K (Ex.ret) (qzl a b)) (fun c=>K (Ex.exit 0) (qzm c)))
theorem ahQ(D:DX)(n:Nat)(K:KT 98):∀(m:Nat)(b:Int)(c:aT),LF D n 98 eN m (q5x b c) K=Us D n (fun a=>K (Ex.ret) (OT a)) (K (Ex.exit 2) (OU)) m b c:=DV (fun F=>q5z D n F (fun a=>K (Ex.ret) (OT a)) (K (Ex.exit 2) (OU)))
theorem agJ(D:DX)(n:Nat)(a:Int)(b:aT):LF D n 98 eN n (q5x a b) (CF D n 98 [] eN (lF 98))=ZM D n a b :=by rw[ahQ];kernel_rfl
theorem agK(D:DX)(n:Nat)(a:Bool)(b:aT):(CF D n 98 [] bZ (lF 98)) (Ex.ret) (qzl a b)=OV D n a b:=by kernel_rfl
theorem agL(D:DX)(n:Nat)(a:aT):(CF D n 98 [] bZ (lF 98)) (Ex.exit 0) (qzm a)=qzn D n (fun b c=>LF D n 98 eN n (q5x b c) (CF D n 98 [] eN (lF 98))) a:=by kernel_rfl
theorem agI(D:DX)(n:Nat)(x0)(x1):LF D n 98 bZ n (q5w x0 x1) (CF D n 98 [] bZ (lF 98))=ZL D n x0 x1:=by rw[ahP];simp only[agK,agL,agJ];rfl
theorem ajd(D:DX)(n:Nat)(a0:aT):rF D n 98 (a0,())=q8e D n a0:=by
 have h:rF D n 98 (a0,())=q9x D n (fun x0 x1=>LF D n 98 bZ n (q5w x0 x1) (CF D n 98 [] bZ (lF 98))) a0:=by kernel_rfl
 rw[h];simp only[agI];rfl
def ZO(D:DX)(n:Nat)(go:Int->aB->Option ag)(K0:Bool->aB->Option ag)(K1:aB->Option ag)(x0:Int)(x1:aB):Option ag:=br (decide (x0<(x1.1.length:Int))) (br (decide (0<=x0)&&decide (x0<(x1.1.length:Int))) (br (List.getD x1.1 x0.toNat 0 != 0) (br (decide (0<=x0)&&decide (x0<(x1.1.length:Int))) (qd (Dl D (List.getD x1.1 x0.toNat 0)) fun p0=>br (!p0.1.1) (K0 false x1) (br (decide (0<=x0)&&decide (x0<(x1.1.length:Int))) (qd (WO D x1 (List.getD x1.1 x0.toNat 0)) fun p1=>br (p1.1.1 != x0) (K0 false x1) (go (wrap .i64 (x0+1)) x1)) none)) none) (go (wrap .i64 (x0+1)) x1)) none) (K1 x1)
def Uf(D:DX)(n:Nat)(K0:Bool->aB->Option ag)(K1:aB->Option ag):Nat->Int->aB->Option ag | 0=>(fun x0 x1=>none) | m+1=>(fun x0 x1=>ZO D n (Uf D n K0 K1 m) K0 K1 x0 x1)
def q90(D:DX)(n:Nat)(a:Bool)(b:aB):Option ag:=some ((a,()),())
def qwq(D:DX)(n:Nat)(a:aB):Option ag:=br (decide ((a.1.length:Int)=4)) (qd (lZ D a.2.1 0 5) fun b=>some ((b.1.1,()),())) (some ((false,()),()))
def qzo(D:DX)(n:Nat):(Int)->aB->Option ag:=(fun x0 x1=>Uf D n (fun a b=>q90 D n a b) (fun c=>qwq D n c) n x0 x1)
def q50(D:DX)(n:Nat)(cz:Int->aB->Option ag)(a0:aB):Option ag:=cz 0 a0
def q44(D:DX)(n:Nat)(a0:aB):Option ag:=q50 D n (qzo D n) a0
def ZN(x0:Int)(x1:aB):St:=bq 46 [(1,AV.addr 1 []),(3,AV.val ah x0)] [(1,aC.mk bO Mk.no x1 true)]
def q9y(a:Bool)(b:aB):St:=bq 46 [(1,AV.addr 1 []),(2,AV.val Ty.bool a)] [(1,aC.mk bO Mk.no b true)]
def q9z(a:aB):St:=bq 46 [(1,AV.addr 1 [])] [(1,aC.mk bO Mk.no a true)]
theorem agO(D:DX)(n:Nat)(K:KT 99):∀(m:Nat)(x0:Int)(x1:aB),LF D n 99 eJ m (ZN x0 x1) K=Uf D n (fun a b=>K (Ex.ret) (q9y a b)) (fun c=>K (Ex.exit 0) (q9z c)) m x0 x1:=DV (fun F=>ZO D n F (fun a b=>K (Ex.ret) (q9y a b)) (fun c=>K (Ex.exit 0) (q9z c)))
theorem agd(D:DX)(n:Nat)(x0)(x1):LF D n 99 eJ n (ZN x0 x1) (CF D n 99 [] eJ (lF 99))=qzo D n x0 x1 :=by rw[agO];kernel_rfl
theorem ait(D:DX)(n:Nat)(a0:aB):rF D n 99 (a0,())=q44 D n a0:=by
 have h:rF D n 99 (a0,())=q50 D n (fun x0 x1=>LF D n 99 eJ n (ZN x0 x1) (CF D n 99 [] eJ (lF 99))) a0:=by kernel_rfl
 rw[h];simp only[agd];rfl
def qzx(D:DX)(n:Nat)(go:Int->Int->aD->Option ag)(K0:Bool->Int->aD->Option ag)(K1:Int->aD->Option ag)(x0 x1:Int)(x2:aD):Option ag:=let y0:=List.getD x2.2.2.2.1 x1.toNat (0,(0,0,0,()),0,0,0,(0,[],()),());br (decide (x1<(x2.2.2.2.1.length:Int))) (br (decide (0<=x1)&&decide (x1<(x2.2.2.2.1.length:Int))) (qd (ah6 D x2 y0) fun p0=>br (!p0.1.1) (K0 false x0 x2) (br (decide (0<=x1)&&decide (x1<(x2.2.2.2.1.length:Int))) (qd (Uw D (decide (y0.2.2.2.1>=0))) fun p1=>go (wrap .i64 (x0+p1.1.1)) (wrap .i64 (x1+1)) x2) none)) none) (K1 x0 x2)
def Wt(D:DX)(n:Nat)(K0:Bool->Int->aD->Option ag)(K1:Int->aD->Option ag):Nat->Int->Int->aD->Option ag | 0=>(fun x0 x1 x2=>none) | m+1=>(fun x0 x1 x2=>qzx D n (Wt D n K0 K1 m) K0 K1 x0 x1 x2)
def q60(D:DX)(n:Nat)(a:Bool)(b:Int)(c:aD):Option ag:=some ((a,()),())
def O_(D:DX)(n:Nat)(go:Int->Int->Int->Int->aD->Option ag)(K0:Bool->Int->Int->aD->Option ag)(K1:Int->Int->aD->Option ag)(d c e a:Int)(b:aD):Option ag:=br (decide (a<c)) (br (decide (0<=a)&&decide (a<(b.2.2.2.2.1.length:Int))) (br (decide (List.getD b.2.2.2.2.1 a.toNat 0=e)) (K0 false d c b) (go d c e (wrap .i64 (a+1)) b)) none) (K1 d c b)
def qzu(D:DX)(n:Nat)(K0:Bool->Int->Int->aD->Option ag)(K1:Int->Int->aD->Option ag):Nat->Int->Int->Int->Int->aD->Option ag | 0=>(fun a b c d e=>none) | m+1=>(fun a b c d e=>O_ D n (qzu D n K0 K1 m) K0 K1 a b c d e)
def afv(D:DX)(n:Nat)(go:Int->Int->aD->Option ag)(K0:Bool->Int->aD->Option ag)(K1:Int->aD->Option ag)(a:Bool)(b d:Int)(c:aD):Option ag:=K0 a b c
def afw(D:DX)(n:Nat)(go:Int->Int->aD->Option ag)(K0:Bool->Int->aD->Option ag)(K1:Int->aD->Option ag)(a b:Int)(c:aD):Option ag:=go a (wrap .i64 (b+1)) c
def q95(D:DX)(n:Nat)(go:Int->Int->aD->Option ag)(K0:Bool->Int->aD->Option ag)(K1:Int->aD->Option ag):(Int)->(Int)->(Int)->(Int)->aD->Option ag:=(fun a b j k l=>qzu D n (fun c d e f=>afv D n go K0 K1 c d e f) (fun g h i=>afw D n go K0 K1 g h i) n a b j k l)
def qzy(D:DX)(n:Nat)(go:Int->Int->aD->Option ag)(K0:Bool->Int->aD->Option ag)(K1:Int->aD->Option ag)(Vs:Int->Int->Int->Int->aD->Option ag)(c b:Int)(a:aD):Option ag:=let y0:=List.getD a.2.2.2.2.1 b.toNat 0;let y1:=List.getD a.2.2.2.1 (Int.toNat y0) (0,(0,0,0,()),0,0,0,(0,[],()),());let y2:=Int.toNat (wrap .i64 (b-1));br (decide (b<(a.2.2.2.2.1.length:Int))) (br (decide (0<=b)&&decide (b<(a.2.2.2.2.1.length:Int))) (qd (lZ D y0 0 (wrap .i64 ((a.2.2.2.1.length:Int)-1))) fun p0=>br (!p0.1.1) (K0 false c a) (br (decide (0<=y0)&&decide (y0<(a.2.2.2.1.length:Int))) (br (decide (y1.2.2.2.1<0)) (K0 false c a) (br (decide (b>0)) (br (decide (0<=wrap .i64 (b-1))&&decide (wrap .i64 (b-1)<(a.2.2.2.2.1.length:Int))) (br (decide (0<=List.getD a.2.2.2.2.1 y2 0)&&decide (List.getD a.2.2.2.2.1 y2 0<(a.2.2.2.1.length:Int))) (br (decide (0<=y0)&&decide (y0<(a.2.2.2.1.length:Int))) (br (decide ((List.getD a.2.2.2.1 (Int.toNat (List.getD a.2.2.2.2.1 y2 0)) (0,(0,0,0,()),0,0,0,(0,[],()),())).2.2.2.1>y1.2.2.2.1)) (K0 false c a) (Vs c b y0 0 a)) none) none) none) (Vs c b y0 0 a))) none)) none) (K1 c a)
def Kt(D:DX)(n:Nat)(K0:Bool->Int->aD->Option ag)(K1:Int->aD->Option ag):Nat->Int->Int->aD->Option ag | 0=>(fun a b c=>none) | m+1=>(fun a b c=>qzy D n (Kt D n K0 K1 m) K0 K1 (q95 D n (Kt D n K0 K1 m) K0 K1) a b c)
def afu(D:DX)(n:Nat)(a:Bool)(b:Int)(c:aD):Option ag:=some ((a,()),())
def q61(D:DX)(n:Nat)(b:Int)(a:aD):Option ag:=some ((bif decide ((a.2.2.2.1.length:Int)<=40) then decide (b=(a.2.2.2.2.1.length:Int)) else false,()),())
def qwz(D:DX)(n:Nat):(Int)->(Int)->aD->Option ag:=(fun a b h=>Kt D n (fun c d e=>afu D n c d e) (fun f g=>q61 D n f g) n a b h)
def qu4(D:DX)(n:Nat)(mJ:Int->Int->aD->Option ag)(a:Int)(b:aD):Option ag:=mJ a 0 b
def qwy(D:DX)(n:Nat):(Int)->(Int)->aD->Option ag:=(fun x0 x1 x2=>Wt D n (fun a b c=>q60 D n a b c) (fun d e=>qu4 D n (qwz D n) d e) n x0 x1 x2)
def Z3(D:DX)(n:Nat)(cz:Int->Int->aD->Option ag)(a0:aD):Option ag:=cz 0 0 a0
def ZE(D:DX)(n:Nat)(a0:aD):Option ag:=Z3 D n (qwy D n) a0
def qzv(x0 x1:Int)(x2:aD):St:=bq 108 [(1,AV.addr 1 []),(3,AV.val ah x0),(4,AV.val ah x1)] [(1,aC.mk cP Mk.no x2 true)]
def qu2(a:Bool)(b:Int)(c:aD):St:=bq 108 [(1,AV.addr 1 []),(2,AV.val Ty.bool a),(3,AV.val ah b)] [(1,aC.mk cP Mk.no c true)]
def qu3(a:Int)(b:aD):St:=bq 108 [(1,AV.addr 1 []),(3,AV.val ah a)] [(1,aC.mk cP Mk.no b true)]
def I9(a b:Int)(c:aD):St:=bq 108 [(1,AV.addr 1 []),(3,AV.val ah a),(5,AV.val ah b)] [(1,aC.mk cP Mk.no c true)]
def Wh(a:Bool)(b:Int)(c:aD):St:=bq 108 [(1,AV.addr 1 []),(2,AV.val Ty.bool a),(3,AV.val ah b)] [(1,aC.mk cP Mk.no c true)]
def Wi(a:Int)(b:aD):St:=bq 108 [(1,AV.addr 1 []),(3,AV.val ah a)] [(1,aC.mk cP Mk.no b true)]
def qzw(a b c d:Int)(e:aD):St:=bq 108 [(1,AV.addr 1 []),(3,AV.val ah a),(5,AV.val ah b),(6,AV.val ah c),(7,AV.val ah d)] [(1,aC.mk cP Mk.no e true)]
def q6y(a:Bool)(b c:Int)(d:aD):St:=bq 108 [(1,AV.addr 1 []),(2,AV.val Ty.bool a),(3,AV.val ah b),(5,AV.val ah c)] [(1,aC.mk cP Mk.no d true)]
def q6z(a b:Int)(c:aD):St:=bq 108 [(1,AV.addr 1 []),(3,AV.val ah a),(5,AV.val ah b)] [(1,aC.mk cP Mk.no c true)]
theorem agh(D:DX)(n:Nat)(K:KT 100):∀(m:Nat)(x0 x1:Int)(x2:aD),LF D n 100 bZ m (qzv x0 x1 x2) K=Wt D n (fun a b c=>K (Ex.ret) (qu2 a b c)) (fun d e=>K (Ex.exit 0) (qu3 d e)) m x0 x1 x2:=pJ (fun F=>qzx D n F (fun a b c=>K (Ex.ret) (qu2 a b c)) (fun d e=>K (Ex.exit 0) (qu3 d e)))
theorem agi(D:DX)(n:Nat)(K:KT 100):∀(m:Nat)(h i j k:Int)(l:aD),LF D n 100 EM m (qzw h i j k l) K=qzu D n (fun a b c d=>K (Ex.ret) (q6y a b c d)) (fun e f g=>K (Ex.exit 4) (q6z e f g)) m h i j k l:=oz (fun F=>O_ D n F (fun a b c d=>K (Ex.ret) (q6y a b c d)) (fun e f g=>K (Ex.exit 4) (q6z e f g)))
theorem afr(D:DX)(n:Nat)(m:Nat)(K:KT 100)(a b c d:Int)(e:aD):LF D n 100 EM n (qzw a b c d e) (CF D n 100 [.r,.r,.r,.l,.r,.l,.l] [.r,.l,.l,.r,.r,.r,.l] (KF D n 100 eN m K))=q95 D n (fun k o p=>LF D n 100 eN m (I9 k o p) K) (fun f g h=>K (Ex.ret) (Wh f g h)) (fun i j=>K (Ex.exit 2) (Wi i j)) a b c d e :=by rw[agi];kernel_rfl
theorem agj(D:DX)(n:Nat)(m:Nat)(K:KT 100)(a b:Int)(c:aD):LF D n 100 eN (m+1) (I9 a b c) K=qzy D n (fun a b c=>LF D n 100 eN m (I9 a b c) K) (fun d e f=>K (Ex.ret) (Wh d e f)) (fun g h=>K (Ex.exit 2) (Wi g h)) (fun i j k o p=>LF D n 100 EM n (qzw i j k o p) (CF D n 100 [.r,.r,.r,.l,.r,.l,.l] [.r,.l,.l,.r,.r,.r,.l] (KF D n 100 eN m K))) a b c:=by kernel_rfl
theorem q94(D:DX)(n:Nat)(K:KT 100):∀(m:Nat)(a b:Int)(c:aD),LF D n 100 eN m (I9 a b c) K=Kt D n (fun d e f=>K (Ex.ret) (Wh d e f)) (fun g h=>K (Ex.exit 2) (Wi g h)) m a b c
 | 0,a,b,c=>sK ..
 | m+1,a,b,c=>by
  have ih:(fun a b c=>LF D n 100 eN m (I9 a b c) K)=Kt D n (fun d e f=>K (Ex.ret) (Wh d e f)) (fun g h=>K (Ex.exit 2) (Wi g h)) m:=by funext a b c;exact q94 D n K m a b c
  rw[agj];simp only[afr];rw[ih];rfl
theorem afq(D:DX)(n:Nat)(a b:Int)(c:aD):LF D n 100 eN n (I9 a b c) (CF D n 100 [] eN (lF 100))=qwz D n a b c :=by rw[q94];kernel_rfl
theorem afs(D:DX)(n:Nat)(a:Bool)(b:Int)(c:aD):(CF D n 100 [] bZ (lF 100)) (Ex.ret) (qu2 a b c)=q60 D n a b c:=by kernel_rfl
theorem aft(D:DX)(n:Nat)(a:Int)(b:aD):(CF D n 100 [] bZ (lF 100)) (Ex.exit 0) (qu3 a b)=qu4 D n (fun c d e=>LF D n 100 eN n (I9 c d e) (CF D n 100 [] eN (lF 100))) a b:=by kernel_rfl
theorem afp(D:DX)(n:Nat)(x0)(x1)(x2):LF D n 100 bZ n (qzv x0 x1 x2) (CF D n 100 [] bZ (lF 100))=qwy D n x0 x1 x2:=by rw[agh];simp only[afs,aft,afq];rfl
theorem ahv(D:DX)(n:Nat)(a0:aD):rF D n 100 (a0,())=ZE D n a0:=by
 have h:rF D n 100 (a0,())=Z3 D n (fun x0 x1 x2=>LF D n 100 bZ n (qzv x0 x1 x2) (CF D n 100 [] bZ (lF 100))) a0:=by kernel_rfl
 rw[h];simp only[afp];rfl
def qwu(D:DX)(n:Nat)(go:Int->Int->aN->Option ag)(K0:Int->Bool->aN->Option ag)(K1:Int->aN->Option ag)(x0 x1:Int)(x2:aN):Option ag:=br (decide (x1<(x2.1.length:Int))) (br (decide (0<=x1)&&decide (x1<(x2.1.length:Int))) (qd (Vw D (List.getD x2.1 x1.toNat (0,0,0,()))) fun b=>br (!b.1.1) (K0 x0 false x2) (go x0 (wrap .i64 (x1+1)) x2)) none) (K1 x0 x2)
def T6(D:DX)(n:Nat)(K0:Int->Bool->aN->Option ag)(K1:Int->aN->Option ag):Nat->Int->Int->aN->Option ag | 0=>(fun x0 x1 x2=>none) | m+1=>(fun x0 x1 x2=>qwu D n (T6 D n K0 K1 m) K0 K1 x0 x1 x2)
def q38(D:DX)(n:Nat)(b:Int)(a:Bool)(c:aN):Option ag:=some ((a,()),())
def qwv(D:DX)(n:Nat)(go:Int->Int->aN->Option ag)(K0:Int->Bool->aN->Option ag)(K1:Int->aN->Option ag)(c b:Int)(a:aN):Option ag:=let y0:=List.getD a.2.2.2.1 b.toNat (0,0,());br (decide (b<(a.2.2.2.1.length:Int))) (br (decide (0<=b)&&decide (b<(a.2.2.2.1.length:Int))) (qd (lZ D y0.1 0 19) fun p0=>br (!p0.1.1) (K0 c false a) (br (decide (0<=b)&&decide (b<(a.2.2.2.1.length:Int))) (qd (lZ D y0.2.1 0 1000) fun p1=>br (!p1.1.1) (K0 c false a) (go c (wrap .i64 (b+1)) a)) none)) none) (K1 c a)
def Wo(D:DX)(n:Nat)(K0:Int->Bool->aN->Option ag)(K1:Int->aN->Option ag):Nat->Int->Int->aN->Option ag | 0=>(fun a b c=>none) | m+1=>(fun a b c=>qwv D n (Wo D n K0 K1 m) K0 K1 a b c)
def q39(D:DX)(n:Nat)(b:Int)(a:Bool)(c:aN):Option ag:=some ((a,()),())
def qww(D:DX)(n:Nat)(go:Int->Int->aN->Option ag)(K0:Bool->Option ag)(K1:Option ag)(c a:Int)(b:aN):Option ag:=let y0:=List.getD b.2.2.2.2.1 a.toNat (0,0,0,0,());br (decide (a<(b.2.2.2.2.1.length:Int))) (br (decide (0<=a)&&decide (a<(b.2.2.2.2.1.length:Int))) (br (bif decide (y0.1<0) then true else decide (y0.1>=c)) (K0 false) (qd (lZ D y0.2.1 1 1000000) fun p0=>br (!p0.1.1) (K0 false) (qd (lZ D y0.2.2.1 0 20) fun p1=>br (!p1.1.1) (K0 false) (qd (lZ D y0.2.2.2.1 0 20) fun p2=>br (!p2.1.1) (K0 false) (go c (wrap .i64 (a+1)) b))))) none) K1
def Wp(D:DX)(n:Nat)(K0:Bool->Option ag)(K1:Option ag):Nat->Int->Int->aN->Option ag | 0=>(fun a b c=>none) | m+1=>(fun a b c=>qww D n (Wp D n K0 K1 m) K0 K1 a b c)
def aey(D:DX)(n:Nat)(a:Bool):Option ag:=some ((a,()),())
def aez(D:DX)(n:Nat):Option ag:=some ((true,()),())
def quz(D:DX)(n:Nat):(Int)->(Int)->aN->Option ag:=(fun a b d=>Wp D n (fun c=>aey D n c) (aez D n) n a b d)
def qs1(D:DX)(n:Nat)(Vs:Int->Int->aN->Option ag)(a:Int)(b:aN):Option ag:=Vs a 0 b
def quy(D:DX)(n:Nat):(Int)->(Int)->aN->Option ag:=(fun a b h=>Wo D n (fun c d e=>q39 D n c d e) (fun f g=>qs1 D n (quz D n) f g) n a b h)
def qs0(D:DX)(n:Nat)(mJ:Int->Int->aN->Option ag)(a:Int)(b:aN):Option ag:=mJ a 0 b
def qux(D:DX)(n:Nat):(Int)->(Int)->aN->Option ag:=(fun x0 x1 x2=>T6 D n (fun a b c=>q38 D n a b c) (fun d e=>qs0 D n (quy D n) d e) n x0 x1 x2)
def qzp(D:DX)(n:Nat)(cz:Int->Int->aN->Option ag)(a0:aN)(a1:Int):Option ag:=br (decide ((a0.1.length:Int)>8)) (some ((false,()),())) (qd (lZ D a0.2.1 0 (a0.1.length:Int)) fun p0=>br (bif !p0.1.1 then true else bif a0.2.2.1 then decide (a0.2.1>=(a0.1.length:Int)) else false) (some ((false,()),())) (br (!a0.2.2.1) (br (bif bif decide (wrap .i64 ((a0.2.2.2.1.length:Int)+(a0.2.2.2.2.1.length:Int))>0) then true else decide ((a0.2.2.2.1.length:Int)>12) then true else decide ((a0.2.2.2.2.1.length:Int)>2)) (some ((false,()),())) (cz a1 0 a0)) (br (bif bif false then true else decide ((a0.2.2.2.1.length:Int)>12) then true else decide ((a0.2.2.2.2.1.length:Int)>2)) (some ((false,()),())) (cz a1 0 a0))))
def qx0(D:DX)(n:Nat)(a0:aN)(a1:Int):Option ag:=qzp D n (qux D n) a0 a1
def qwr(x0 x1:Int)(x2:aN):St:=bq 139 [(1,AV.val ah x0),(2,AV.addr 2 []),(5,AV.val ah x1)] [(2,aC.mk jK Mk.no x2 true)]
def qsw(a:Int)(b:Bool)(c:aN):St:=bq 139 [(1,AV.val ah a),(2,AV.addr 2 []),(4,AV.val Ty.bool b)] [(2,aC.mk jK Mk.no c true)]
def qsx(a:Int)(b:aN):St:=bq 139 [(1,AV.val ah a),(2,AV.addr 2 [])] [(2,aC.mk jK Mk.no b true)]
def qws(a b:Int)(c:aN):St:=bq 139 [(1,AV.val ah a),(2,AV.addr 2 []),(6,AV.val ah b)] [(2,aC.mk jK Mk.no c true)]
def qsy(a:Int)(b:Bool)(c:aN):St:=bq 139 [(1,AV.val ah a),(2,AV.addr 2 []),(4,AV.val Ty.bool b)] [(2,aC.mk jK Mk.no c true)]
def qsz(a:Int)(b:aN):St:=bq 139 [(1,AV.val ah a),(2,AV.addr 2 [])] [(2,aC.mk jK Mk.no b true)]
def qwt(a b:Int)(c:aN):St:=bq 139 [(1,AV.val ah a),(2,AV.addr 2 []),(7,AV.val ah b)] [(2,aC.mk jK Mk.no c true)]
def q36(a:Bool):St:=bq 139 [(4,AV.val Ty.bool a)] []
def q37:St:=bq 139 [] []
theorem afj(D:DX)(n:Nat)(K:KT 101):∀(m:Nat)(x0 x1:Int)(x2:aN),LF D n 101 bZ m (qwr x0 x1 x2) K=T6 D n (fun a b c=>K (Ex.ret) (qsw a b c)) (fun d e=>K (Ex.exit 0) (qsx d e)) m x0 x1 x2:=pJ (fun F=>qwu D n F (fun a b c=>K (Ex.ret) (qsw a b c)) (fun d e=>K (Ex.exit 0) (qsx d e)))
theorem afk(D:DX)(n:Nat)(K:KT 101):∀(m:Nat)(f g:Int)(h:aN),LF D n 101 eN m (qws f g h) K=Wo D n (fun a b c=>K (Ex.ret) (qsy a b c)) (fun d e=>K (Ex.exit 2) (qsz d e)) m f g h:=pJ (fun F=>qwv D n F (fun a b c=>K (Ex.ret) (qsy a b c)) (fun d e=>K (Ex.exit 2) (qsz d e)))
theorem afl(D:DX)(n:Nat)(K:KT 101):∀(m:Nat)(b c:Int)(d:aN),LF D n 101 j4 m (qwt b c d) K=Wp D n (fun a=>K (Ex.ret) (q36 a)) (K (Ex.exit 4) (q37)) m b c d:=pJ (fun F=>qww D n F (fun a=>K (Ex.ret) (q36 a)) (K (Ex.exit 4) (q37)))
theorem aeE(D:DX)(n:Nat)(a b:Int)(c:aN):LF D n 101 j4 n (qwt a b c) (CF D n 101 [] j4 (lF 101))=quz D n a b c :=by rw[afl];kernel_rfl
theorem aew(D:DX)(n:Nat)(a:Int)(b:Bool)(c:aN):(CF D n 101 [] eN (lF 101)) (Ex.ret) (qsy a b c)=q39 D n a b c:=by kernel_rfl
theorem aex(D:DX)(n:Nat)(a:Int)(b:aN):(CF D n 101 [] eN (lF 101)) (Ex.exit 2) (qsz a b)=qs1 D n (fun c d e=>LF D n 101 j4 n (qwt c d e) (CF D n 101 [] j4 (lF 101))) a b:=by kernel_rfl
theorem aeD(D:DX)(n:Nat)(a b:Int)(c:aN):LF D n 101 eN n (qws a b c) (CF D n 101 [] eN (lF 101))=quy D n a b c:=by rw[afk];simp only[aew,aex,aeE];rfl
theorem aeu(D:DX)(n:Nat)(a:Int)(b:Bool)(c:aN):(CF D n 101 [] bZ (lF 101)) (Ex.ret) (qsw a b c)=q38 D n a b c:=by kernel_rfl
theorem aev(D:DX)(n:Nat)(a:Int)(b:aN):(CF D n 101 [] bZ (lF 101)) (Ex.exit 0) (qsx a b)=qs0 D n (fun c d e=>LF D n 101 eN n (qws c d e) (CF D n 101 [] eN (lF 101))) a b:=by kernel_rfl
theorem aeC(D:DX)(n:Nat)(x0)(x1)(x2):LF D n 101 bZ n (qwr x0 x1 x2) (CF D n 101 [] bZ (lF 101))=qux D n x0 x1 x2:=by rw[afj];simp only[aeu,aev,aeD];rfl
theorem ags(D:DX)(n:Nat)(a0:aN)(a1:Int):rF D n 101 (a0,(a1,()))=qx0 D n a0 a1:=by
 have h:rF D n 101 (a0,(a1,()))=qzp D n (fun x0 x1 x2=>LF D n 101 bZ n (qwr x0 x1 x2) (CF D n 101 [] bZ (lF 101))) a0 a1:=by kernel_rfl
 rw[h];simp only[aeC];rfl
def qw2(D:DX)(n:Nat)(go:Int->Int->Int->Int->aD->aN->Option ag)(K0:Bool->Int->Int->aD->aN->Option ag)(K1:Int->Int->aD->aN->Option ag)(x0 x1 x2 x3:Int)(x4:aD)(x5:aN):Option ag:=let y0:=List.getD x4.2.2.2.1 x3.toNat (0,(0,0,0,()),0,0,0,(0,[],()),());let y1:=wrap .i64 (x3+1);br (decide (x3<(x4.2.2.2.1.length:Int))) (br (decide (0<=x3)&&decide (x3<(x4.2.2.2.1.length:Int))) (br (y0.1 != x0) (go x0 x1 x2 y1 x4 x5) (br (decide (0<=x3)&&decide (x3<(x4.2.2.2.1.length:Int))) (br (decide (y0.2.2.2.2.1>=0)) (go x0 x1 (wrap .i64 (x2+1)) y1 x4 x5) (br (bif !x5.2.2.1 then true else x3 != x1) (K0 false x1 x2 x4 x5) (go x0 x1 x2 y1 x4 x5))) none)) none) (K1 x1 x2 x4 x5)
def Wr(D:DX)(n:Nat)(K0:Bool->Int->Int->aD->aN->Option ag)(K1:Int->Int->aD->aN->Option ag):Nat->Int->Int->Int->Int->aD->aN->Option ag | 0=>(fun x0 x1 x2 x3 x4 x5=>none) | m+1=>(fun x0 x1 x2 x3 x4 x5=>qw2 D n (Wr D n K0 K1 m) K0 K1 x0 x1 x2 x3 x4 x5)
def aeH(D:DX)(n:Nat)(a:Bool)(b c:Int)(d:aD)(e:aN):Option ag:=some ((a,()),())
def q4e(D:DX)(n:Nat)(b d:Int)(c:aD)(a:aN):Option ag:=let y0:=List.getD c.2.2.2.1 b.toNat (0,(0,0,0,()),0,0,0,(0,[],()),());br (d != a.2.1) (some ((false,()),())) (br (!a.2.2.1) (some ((true,()),())) (br (decide (b>=0)) (br (decide (0<=b)&&decide (b<(c.2.2.2.1.length:Int))) (br (decide (y0.2.2.2.2.1 = -1)) (br (decide (0<=b)&&decide (b<(c.2.2.2.1.length:Int))) (br (decide (0<=a.2.1)&&decide (a.2.1<(a.1.length:Int))) (some ((pP bT y0.2.1 (List.getD a.1 a.2.1.toNat (0,0,0,())),()),())) none) none) (some ((false,()),()))) none) (some ((false,()),()))))
def qu8(D:DX)(n:Nat):(Int)->(Int)->(Int)->(Int)->aD->aN->Option ag:=(fun x0 x1 x2 x3 x4 x5=>Wr D n (fun a b c d e=>aeH D n a b c d e) (fun f g h i=>q4e D n f g h i) n x0 x1 x2 x3 x4 x5)
def qz0(D:DX)(n:Nat)(cz:Int->Int->Int->Int->aD->aN->Option ag)(a0:aD)(a1:Int):Option ag:=br (decide (0<=a1)&&decide (a1<(a0.2.1.length:Int))) (qd (q4s D a0 a1) fun b=>cz a1 b.1.1 0 0 a0 (List.getD a0.2.1 a1.toNat ([],0,false,[],[],()))) none
def qx1(D:DX)(n:Nat)(a0:aD)(a1:Int):Option ag:=qz0 D n (qu8 D n) a0 a1
def qw1(x0 x1 x2 x3:Int)(x4:aD)(x5:aN):St:=bq 84 [(1,AV.val ah x0),(2,AV.addr 2 []),(5,AV.addr 5 []),(6,AV.val ah x1),(7,AV.val ah x2),(8,AV.val ah x3)] [(2,aC.mk cP Mk.no x4 true),(5,aC.mk jK Mk.no x5 true)]
def q4c(a:Bool)(b c:Int)(d:aD)(e:aN):St:=bq 84 [(2,AV.addr 2 []),(4,AV.val Ty.bool a),(5,AV.addr 5 []),(6,AV.val ah b),(7,AV.val ah c)] [(2,aC.mk cP Mk.no d true),(5,aC.mk jK Mk.no e true)]
def q4d(a b:Int)(c:aD)(d:aN):St:=bq 84 [(2,AV.addr 2 []),(5,AV.addr 5 []),(6,AV.val ah a),(7,AV.val ah b)] [(2,aC.mk cP Mk.no c true),(5,aC.mk jK Mk.no d true)]
theorem afx(D:DX)(n:Nat)(K:KT 102):∀(m:Nat)(x0 x1 x2 x3:Int)(x4:aD)(x5:aN),LF D n 102 j4 m (qw1 x0 x1 x2 x3 x4 x5) K=Wr D n (fun a b c d e=>K (Ex.ret) (q4c a b c d e)) (fun f g h i=>K (Ex.exit 0) (q4d f g h i)) m x0 x1 x2 x3 x4 x5:=JC (fun F=>qw2 D n F (fun a b c d e=>K (Ex.ret) (q4c a b c d e)) (fun f g h i=>K (Ex.exit 0) (q4d f g h i)))
theorem aeG(D:DX)(n:Nat)(x0)(x1)(x2)(x3)(x4)(x5):LF D n 102 j4 n (qw1 x0 x1 x2 x3 x4 x5) (CF D n 102 [] j4 (lF 102))=qu8 D n x0 x1 x2 x3 x4 x5 :=by rw[afx];kernel_rfl
theorem agt(D:DX)(n:Nat)(a0:aD)(a1:Int):rF D n 102 (a0,(a1,()))=qx1 D n a0 a1:=by
 have h:rF D n 102 (a0,(a1,()))=qz0 D n (fun x0 x1 x2 x3 x4 x5=>LF D n 102 j4 n (qw1 x0 x1 x2 x3 x4 x5) (CF D n 102 [] j4 (lF 102))) a0 a1:=by kernel_rfl
 rw[h];simp only[aeG];rfl
def qyy(D:DX)(n:Nat)(go:List bH->Int->Int->aT->aT->Option nC)(K0:aT->aT->Option nC)(x0:List bH)(x1 x2:Int)(x3 x4:aT):Option nC:=let y0:=List.getD x0 x2.toNat (0,0,[],(0,[],()),());br (decide (x2<x1)) (br (decide (0<=x2)&&decide (x2<(x0.length:Int))) (qd (VU D y0.2.2.1) fun p1=>qd (I_ D y0.2.2.2.1) fun p0=>br (decide (x4.2.1.length+1<=f_)) (go x0 x1 (wrap .i64 (x2+1)) x3 (x4.1,x4.2.1++[(y0.1,y0.2.1,p1.1.1,(p0.1.1.1,p0.1.1.2.1,()),())],x4.2.2)) none) none) (K0 x3 x4)
def T9(D:DX)(n:Nat)(K0:aT->aT->Option nC):Nat->(List bH)->Int->Int->aT->aT->Option nC | 0=>(fun x0 x1 x2 x3 x4=>none) | m+1=>(fun x0 x1 x2 x3 x4=>qyy D n (T9 D n K0 m) K0 x0 x1 x2 x3 x4)
def aeP(D:DX)(n:Nat)(b a:aT):Option nC:=some (((a.1,a.2.1,()),()),())
def qwg(D:DX)(n:Nat):(List bH)->(Int)->(Int)->aT->aT->Option nC:=(fun x0 x1 x2 x3 x4=>T9 D n (fun a b=>aeP D n a b) n x0 x1 x2 x3 x4)
def ZY(D:DX)(n:Nat)(cz:List bH->Int->Int->aT->aT->Option nC)(a0:aT):Option nC:=qd (qgi D a0.1) fun b=>cz a0.2.1 (a0.2.1.length:Int) 0 ([],[],()) (b.1.1,[],())
def Zt(D:DX)(n:Nat)(a0:aT):Option nC:=ZY D n (qwg D n) a0
def qyx(x0:List bH)(x1 x2:Int)(x3 x4:aT):St:=bq 33 [(2,AV.addr 2 []),(3,AV.addr 3 []),(11,AV.val CJ x0),(12,AV.val ah x1),(13,AV.val ah x2)] [(2,aC.mk jW lV x3 true),(3,aC.mk jW lV x4 true)]
def q6n(a b:aT):St:=bq 33 [(2,AV.addr 2 []),(3,AV.addr 3 [])] [(2,aC.mk jW lV a true),(3,aC.mk jW lV b true)]
theorem af5(D:DX)(n:Nat)(K:KT 103):∀(m:Nat)(x0:List bH)(x1 x2:Int)(x3 x4:aT),LF D n 103 bZ m (qyx x0 x1 x2 x3 x4) K=T9 D n (fun a b=>K (Ex.exit 0) (q6n a b)) m x0 x1 x2 x3 x4:=oz (fun F=>qyy D n F (fun a b=>K (Ex.exit 0) (q6n a b)))
theorem aeO(D:DX)(n:Nat)(x0)(x1)(x2)(x3)(x4):LF D n 103 bZ n (qyx x0 x1 x2 x3 x4) (CF D n 103 [] bZ (lF 103))=qwg D n x0 x1 x2 x3 x4 :=by rw[af5];kernel_rfl
theorem agR(D:DX)(n:Nat)(a0:aT):rF D n 103 (a0,())=Zt D n a0:=by
 have h:rF D n 103 (a0,())=ZY D n (fun x0 x1 x2 x3 x4=>LF D n 103 bZ n (qyx x0 x1 x2 x3 x4) (CF D n 103 [] bZ (lF 103))) a0:=by kernel_rfl
 rw[h];simp only[aeO];rfl
def q6o(D:DX)(n:Nat)(a0:aN):Option jk:=qd (VY D a0.1) fun b=>qd (qgh D a0.2.2.2.1) fun b_1=>qd (qgg D a0.2.2.2.2.1) fun b_2=>some (((b.1.1,a0.2.1,a0.2.2.1,b_1.1.1,b_2.1.1,()),()),())
def qt9(D:DX)(n:Nat)(a0:aN):Option jk:=q6o D n a0
theorem ae1(D:DX)(n:Nat)(a0:aN):rF D n 104 (a0,())=qt9 D n a0:=by kernel_rfl
def qw8(D:DX)(n:Nat)(a0:aD)(a1:Int):Option wE:=let y0:=List.getD a0.2.1 a1.toNat ([],0,false,[],[],());br (decide (0<=a1)&&decide (a1<(a0.2.1.length:Int))) (qd (Gw D y0) fun p2=>qd (q4i D (a0.1.1,a0.1.2.1,()) p2.1.1) fun p0=>let y1:=List.getD p0.1.1.2.1 a1.toNat (0,0,[],(0,[],()),());br (decide (p0.1.2.2.2.1=1)) (br (bif decide (p2.1.1.1=a1) then decide ((y0.2.2.2.2.1.length:Int)=1) else false) (qd (KA D y0 p0.1.2.2.1) fun p3=>br (decide (0<=a1)&&decide (a1<(a0.2.1.length:Int))) (some ((),((p0.1.1.1,p0.1.1.2.1,()),List.set a0.2.1 a1.toNat (p3.1.1.1,p3.1.1.2.1,p3.1.1.2.2.1,p3.1.1.2.2.2.1,p3.1.1.2.2.2.2.1,()),a0.2.2),())) none) (qd (UA D y0 p0.1.2.2.1) fun p4=>br (decide (0<=a1)&&decide (a1<(a0.2.1.length:Int))) (some ((),((p0.1.1.1,p0.1.1.2.1,()),List.set a0.2.1 a1.toNat (p4.1.1.1,p4.1.1.2.1,p4.1.1.2.2.1,p4.1.1.2.2.2.1,p4.1.1.2.2.2.2.1,()),a0.2.2),())) none)) (br (decide (p0.1.2.2.2.1=2)) (qd (Gv D y0) fun p1=>let y4:=List.set a0.2.1 a1.toNat (p1.1.1.1,p1.1.1.2.1,p1.1.1.2.2.1,p1.1.1.2.2.2.1,p1.1.1.2.2.2.2.1,());let y2:=List.getD y4 a1.toNat ([],0,false,[],[],());let y3:=List.set y4 a1.toNat (y2.1,y2.2.1,y2.2.2.1,y2.2.2.2.1,[],y2.2.2.2.2.2);let y5:=List.getD y3 a1.toNat ([],0,false,[],[],());br (decide (0<=a1)&&decide (a1<(a0.2.1.length:Int))) (br (p2.1.1.1 != a1) (some ((),((p0.1.1.1,p0.1.1.2.1,()),List.set a0.2.1 a1.toNat (p1.1.1.1,p1.1.1.2.1,p1.1.1.2.2.1,p1.1.1.2.2.2.1,p1.1.1.2.2.2.2.1,()),a0.2.2),())) (br (decide (0<=a1)&&decide (a1<(y4.length:Int))) (br (decide (0<=a1)&&decide (a1<(p0.1.1.2.1.length:Int))) (br (decide (y1.2.1=2)) (qd (TP D ((p0.1.1.1,p0.1.1.2.1,()),List.set y4 a1.toNat (y2.1,y2.2.1,y2.2.2.1,y2.2.2.2.1,[],y2.2.2.2.2.2),a0.2.2) a1 y1.2.2.2.1) fun p8=>some ((),p8.2.1,())) (br (decide (0<=a1)&&decide (a1<(y3.length:Int))) (some ((),((p0.1.1.1,p0.1.1.2.1,()),List.set y3 a1.toNat (y5.1,y5.2.1,y5.2.2.1,[],y5.2.2.2.2),a0.2.2),())) none)) none) none)) none) (br (decide (p0.1.2.2.2.1=3)) (br (decide (0<=p2.1.1.1)&&decide (p2.1.1.1<(p0.1.1.2.1.length:Int))) (qd (TM D ((p0.1.1.1,p0.1.1.2.1,()),a0.2) p2.1.1.1 (List.getD p0.1.1.2.1 p2.1.1.1.toNat (0,0,[],(0,[],()),())).2.2.2.1) fun p7=>qd (UA D y0 p0.1.2.1) fun p5=>br (decide (0<=a1)&&decide (a1<(p7.2.1.2.1.length:Int))) (some ((),(p7.2.1.1,List.set p7.2.1.2.1 a1.toNat (p5.1.1.1,p5.1.1.2.1,p5.1.1.2.2.1,p5.1.1.2.2.2.1,p5.1.1.2.2.2.2.1,()),p7.2.1.2.2),())) none) none) (qd (UA D y0 p0.1.2.1) fun p6=>br (decide (0<=a1)&&decide (a1<(a0.2.1.length:Int))) (some ((),((p0.1.1.1,p0.1.1.2.1,()),List.set a0.2.1 a1.toNat (p6.1.1.1,p6.1.1.2.1,p6.1.1.2.2.1,p6.1.1.2.2.2.1,p6.1.1.2.2.2.2.1,()),a0.2.2),())) none)))) none
def qni(D:DX)(n:Nat)(a0:aD)(a1:Int):Option wE:=qw8 D n a0 a1
theorem adA(D:DX)(n:Nat)(a0:aD)(a1:Int):rF D n 105 (a0,(a1,()))=qni D n a0 a1:=by kernel_rfl
def q0c(D:DX)(n:Nat)(a0:aD)(a1:Int):Option tq1:=let y1:=List.getD a0.2.1 a1.toNat ([],0,false,[],[],());let y0:=List.set a0.2.1 a1.toNat (y1.1,y1.2.1,y1.2.2.1,y1.2.2.2.1,y1.2.2.2.2);let y2:=List.getD y0 a1.toNat ([],0,false,[],[],());let y3:=List.getD y1.1 (Int.toNat y1.2.1) (0,0,0,());br (decide (0<=a1)&&decide (a1<(a0.2.1.length:Int))) (br (decide (0<=y1.2.1)&&decide (y1.2.1<(y1.1.length:Int))) (qd (Gh D y3 y1.2.2.2.1) fun p2=>let y4:=List.getD a0.1.1 p2.1.1.toNat (0,0,0,());let y5:=List.set y0 a1.toNat (y2.1,y2.2.1,y2.2.2.1,y1.2.2.2.1++[(p2.1.1,y4.1,())],y2.2.2.2.2);let y6:=List.getD y5 a1.toNat ([],0,false,[],[],());br (decide (p2.1.1>=0)) (br (decide (0<=p2.1.1)&&decide (p2.1.1<(a0.1.1.length:Int))) (br (y4.2.1 != 0) (qd (KA D (y1.1,y1.2.1,y1.2.2.1,y1.2.2.2.1,y1.2.2.2.2) (wrap .i64 (y4.2.1-1),y4.2.2.1,0,0,())) fun p5=>some ((true,()),(a0.1,List.set a0.2.1 a1.toNat (p5.1.1.1,p5.1.1.2.1,p5.1.1.2.2.1,p5.1.1.2.2.2.1,p5.1.1.2.2.2.2.1,()),a0.2.2),())) (br (decide (y1.2.2.2.1.length+1<=f_)) (qd (WB D y3 y6.2.2.2.1) fun p0=>br (!p0.1.2.1) (some ((true,()),(a0.1,List.set y0 a1.toNat (y2.1,y2.2.1,y2.2.2.1,y1.2.2.2.1++[(p2.1.1,y4.1,())],y2.2.2.2.2),a0.2.2),())) (br p0.1.1.1 (qd (TM D (a0.1,List.set y0 a1.toNat (y2.1,y2.2.1,y2.2.2.1,y1.2.2.2.1++[(p2.1.1,y4.1,())],y2.2.2.2.2),a0.2.2) a1 (p0.1.1.2.1.1,p0.1.1.2.1.2.1,())) fun p9=>qd (TP D p9.2.1 a1 (p0.1.1.2.1.1,p0.1.1.2.1.2.1,())) fun jx=>some ((true,()),jx.2.1,())) (qd (WL D (a0.1.1,a0.1.2.1,()) a1 p0.1.1.2.2.1 (p0.1.1.2.1.1,p0.1.1.2.1.2.1,())) fun p6=>br p6.1.2.2.1 (qd (KA D y6 p6.1.2.1) fun p7=>some ((p6.1.2.2.1,()),((p6.1.1.1,p6.1.1.2.1,()),List.set y5 a1.toNat (p7.1.1.1,p7.1.1.2.1,p7.1.1.2.2.1,p7.1.1.2.2.2.1,p7.1.1.2.2.2.2.1,()),a0.2.2),())) none))) none)) none) (qd (WB D y3 y1.2.2.2.1) fun p1=>br (!p1.1.2.1) (some ((true,()),a0,())) (br p1.1.1.1 (qd (TM D a0 a1 (p1.1.1.2.1.1,p1.1.1.2.1.2.1,())) fun jR=>qd (TP D jR.2.1 a1 (p1.1.1.2.1.1,p1.1.1.2.1.2.1,())) fun p8=>some ((true,()),p8.2.1,())) (qd (WL D (a0.1.1,a0.1.2.1,()) a1 p1.1.1.2.2.1 (p1.1.1.2.1.1,p1.1.1.2.1.2.1,())) fun p3=>br p3.1.2.2.1 (qd (KA D (y1.1,y1.2.1,y1.2.2.1,y1.2.2.2.1,y1.2.2.2.2) p3.1.2.1) fun p4=>some ((p3.1.2.2.1,()),((p3.1.1.1,p3.1.1.2.1,()),List.set a0.2.1 a1.toNat (p4.1.1.1,p4.1.1.2.1,p4.1.1.2.2.1,p4.1.1.2.2.2.1,p4.1.1.2.2.2.2.1,()),a0.2.2),())) none)))) none) none
def qqg(D:DX)(n:Nat)(a0:aD)(a1:Int):Option tq1:=q0c D n a0 a1
theorem ad7(D:DX)(n:Nat)(a0:aD)(a1:Int):rF D n 106 (a0,(a1,()))=qqg D n a0 a1:=by kernel_rfl
def qye(D:DX)(n:Nat)(go:Int->List aj->Int->Int->aj->Option kr)(K0:Bool->aj->Option kr)(K1:aj->Option kr)(x0:Int)(x1:List aj)(x2 x3:Int)(x4:aj):Option kr:=br (decide (x3<x2)) (br (decide (0<=x3)&&decide (x3<(x1.length:Int))) (br (decide ((List.getD x1 x3.toNat (0,0,0,())).1=x0)) (K0 true (List.getD x1 x3.toNat (0,0,0,()))) (go x0 x1 x2 (wrap .i64 (x3+1)) x4)) none) (K1 x4)
def TY(D:DX)(n:Nat)(K0:Bool->aj->Option kr)(K1:aj->Option kr):Nat->Int->(List aj)->Int->Int->aj->Option kr | 0=>(fun x0 x1 x2 x3 x4=>none) | m+1=>(fun x0 x1 x2 x3 x4=>qye D n (TY D n K0 K1 m) K0 K1 x0 x1 x2 x3 x4)
def q6b(D:DX)(n:Nat)(a:Bool)(b:aj):Option kr:=some ((b,a,()),())
def q6c(D:DX)(n:Nat)(a:aj):Option kr:=some (((0,0,0,()),false,()),())
def qv9(D:DX)(n:Nat):(Int)->(List aj)->(Int)->(Int)->aj->Option kr:=(fun x0 x1 x2 x3 x4=>TY D n (fun a b=>q6b D n a b) (fun c=>q6c D n c) n x0 x1 x2 x3 x4)
def Zl(D:DX)(n:Nat)(cz:Int->List aj->Int->Int->aj->Option kr)(a0:bH)(a1:Int):Option kr:=cz a1 a0.2.2.1 (a0.2.2.1.length:Int) 0 (0,0,0,())
def YX(D:DX)(n:Nat)(a0:bH)(a1:Int):Option kr:=Zl D n (qv9 D n) a0 a1
def qyd(x0:Int)(x1:List aj)(x2 x3:Int)(x4:aj):St:=bq 22 [(1,AV.val ah x0),(4,AV.addr 4 []),(9,AV.val bV x1),(10,AV.val ah x2),(11,AV.val ah x3)] [(4,aC.mk bT Mk.no x4 true)]
def q59(a:Bool)(b:aj):St:=bq 22 [(4,AV.addr 4 []),(5,AV.val Ty.bool a)] [(4,aC.mk bT Mk.no b true)]
def q6a(a:aj):St:=bq 22 [(4,AV.addr 4 [])] [(4,aC.mk bT Mk.no a true)]
theorem afV(D:DX)(n:Nat)(K:KT 107):∀(m:Nat)(x0:Int)(x1:List aj)(x2 x3:Int)(x4:aj),LF D n 107 eJ m (qyd x0 x1 x2 x3 x4) K=TY D n (fun a b=>K (Ex.ret) (q59 a b)) (fun c=>K (Ex.exit 0) (q6a c)) m x0 x1 x2 x3 x4:=oz (fun F=>qye D n F (fun a b=>K (Ex.ret) (q59 a b)) (fun c=>K (Ex.exit 0) (q6a c)))
theorem afe(D:DX)(n:Nat)(x0)(x1)(x2)(x3)(x4):LF D n 107 eJ n (qyd x0 x1 x2 x3 x4) (CF D n 107 [] eJ (lF 107))=qv9 D n x0 x1 x2 x3 x4 :=by rw[afV];kernel_rfl
theorem ag6(D:DX)(n:Nat)(a0:bH)(a1:Int):rF D n 107 (a0,(a1,()))=YX D n a0 a1:=by
 have h:rF D n 107 (a0,(a1,()))=Zl D n (fun x0 x1 x2 x3 x4=>LF D n 107 eJ n (qyd x0 x1 x2 x3 x4) (CF D n 107 [] eJ (lF 107))) a0 a1:=by kernel_rfl
 rw[h];simp only[afe];rfl
def qwk(D:DX)(n:Nat)(a1:a_)(go:List aN->Int->Int->Option aF)(K0:Int->Option aF)(K1:Option aF)(x0:List aN)(x1 x2:Int):Option aF:=br (decide (x2<x1)) (br (decide (0<=x2)&&decide (x2<(x0.length:Int))) (qd (gF ctx D a1 [bC.val jK (List.getD x0 x2.toNat ([],0,false,[],[],()))] Ty.bool) fun b=>br b (K0 x2) (go x0 x1 (wrap .i64 (x2+1)))) none) K1
def Kn(D:DX)(n:Nat)(a1:a_)(K0:Int->Option aF)(K1:Option aF):Nat->(List aN)->Int->Int->Option aF | 0=>(fun x0 x1 x2=>none) | m+1=>(fun x0 x1 x2=>qwk D n a1 (Kn D n a1 K0 K1 m) K0 K1 x0 x1 x2)
def qnb(D:DX)(n:Nat)(a1:a_)(a:Int):Option aF:=some ((a,()),())
def qnc(D:DX)(n:Nat)(a1:a_):Option aF:=some ((-1,()),())
def qpq(D:DX)(n:Nat)(a1:a_):(List aN)->(Int)->(Int)->Option aF:=(fun x0 x1 x2=>Kn D n a1 (fun a=>qnb D n a1 a) (qnc D n a1) n x0 x1 x2)
def qxk(D:DX)(n:Nat)(a1:a_)(cz:List aN->Int->Int->Option aF)(a0:List aN):Option aF:=cz a0 (a0.length:Int) 0
def qwl(D:DX)(n:Nat)(a0:List aN)(a1:a_):Option aF:=qxk D n a1 (qpq D n a1) a0
def qvf(a1:a_)(x0:List aN)(x1 x2:Int):St:=bq 19 [(0,AV.val Jz x0),(1,AV.ep a1),(7,AV.val ah x1),(8,AV.val ah x2)] []
def qy4(a1:a_)(a:Int):St:=bq 19 [(4,AV.val ah a)] []
def qy5(a1:a_):St:=bq 19 [] []
theorem q6t(D:DX)(n:Nat)(a1:a_)(K:KT 108):∀(m:Nat)(x0:List aN)(x1 x2:Int),LF D n 108 eJ m (qvf a1 x0 x1 x2) K=Kn D n a1 (fun a=>K (Ex.ret) (qy4 a1 a)) (K (Ex.exit 0) (qy5 a1)) m x0 x1 x2:=pJ (fun F=>qwk D n a1 F (fun a=>K (Ex.ret) (qy4 a1 a)) (K (Ex.exit 0) (qy5 a1)))
theorem q6s(D:DX)(n:Nat)(a1:a_)(x0)(x1)(x2):LF D n 108 eJ n (qvf a1 x0 x1 x2) (CF D n 108 [] eJ (lF 108))=qpq D n a1 x0 x1 x2 :=by rw[q6t];kernel_rfl
theorem q6u(D:DX)(n:Nat)(a0:List aN)(a1:a_):rF D n 108 (a0,(a1,()))=qwl D n a0 a1:=by
 have h:rF D n 108 (a0,(a1,()))=qxk D n a1 (fun x0 x1 x2=>LF D n 108 eJ n (qvf a1 x0 x1 x2) (CF D n 108 [] eJ (lF 108))) a0:=by kernel_rfl
 rw[h];simp only[q6s];rfl
def qhm(D:DX)(n:Nat)(a1:a_)(a0:List bH):Option ag:=qd (qin D a0 a1) fun b=>some ((decide (b.1.1>=0),()),())
def qd5(D:DX)(n:Nat)(a0:List bH)(a1:a_):Option ag:=qhm D n a1 a0
theorem qn9(D:DX)(n:Nat)(a0:List bH)(a1:a_):rF D n 109 (a0,(a1,()))=qd5 D n a0 a1:=by kernel_rfl
def Pb(D:DX)(n:Nat)(a0:bH):Option ag:=qd (q4j D a0) fun b=>some ((!b.1.1,()),())
def Y1(D:DX)(n:Nat)(a0:bH):Option ag:=Pb D n a0
theorem ag_(D:DX)(n:Nat)(a0:bH):rF D n 110 (a0,())=Y1 D n a0:=by kernel_rfl
def Zk(D:DX)(n:Nat)(go:List aj->Int->Int->bH->Option ag)(K0:Bool->bH->Option ag)(K1:bH->Option ag)(x0:List aj)(x1 x2:Int)(x3:bH):Option ag:=let y0:=List.getD x0 x2.toNat (0,0,0,());br (decide (x2<x1)) (br (decide (0<=x2)&&decide (x2<(x0.length:Int))) (qd (Wy D y0.1) fun p0=>br (!p0.1.1) (K0 false x3) (qd (Kr D y0.2.1) fun p1=>br (!p1.1.1) (K0 false x3) (qd (Kr D y0.2.2.1) fun p2=>br (!p2.1.1) (K0 false x3) (br (decide (x2>0)) (br (decide (0<=wrap .i64 (x2-1))&&decide (wrap .i64 (x2-1)<(x3.2.2.1.length:Int))) (br (decide ((List.getD x3.2.2.1 (Int.toNat (wrap .i64 (x2-1))) (0,0,0,())).1>=y0.1)) (K0 false x3) (go x0 x1 (wrap .i64 (x2+1)) x3)) none) (go x0 x1 (wrap .i64 (x2+1)) x3))))) none) (K1 x3)
def Ug(D:DX)(n:Nat)(K0:Bool->bH->Option ag)(K1:bH->Option ag):Nat->(List aj)->Int->Int->bH->Option ag | 0=>(fun x0 x1 x2 x3=>none) | m+1=>(fun x0 x1 x2 x3=>Zk D n (Ug D n K0 K1 m) K0 K1 x0 x1 x2 x3)
def q8w(D:DX)(n:Nat)(a:Bool)(b:bH):Option ag:=some ((a,()),())
def qv8(D:DX)(n:Nat)(a:bH):Option ag:=qd (k_ D a.1 1 1000000) fun b=>br b.1.1 (qd (k_ D a.2.1 1 3) fun b=>some ((bif b.1.1 then decide ((a.2.2.1.length:Int)<=20) else false,()),())) (some ((false,()),()))
def qyc(D:DX)(n:Nat):(List aj)->(Int)->(Int)->bH->Option ag:=(fun x0 x1 x2 x3=>Ug D n (fun a b=>q8w D n a b) (fun c=>qv8 D n c) n x0 x1 x2 x3)
def q5c(D:DX)(n:Nat)(cz:List aj->Int->Int->bH->Option ag)(a0:bH):Option ag:=br (decide (a0.1=0)) (some ((bif bif bif decide (a0.2.1=0) then decide ((a0.2.2.1.length:Int)=0) else false then decide (a0.2.2.2.1.1=0) else false then decide ((a0.2.2.2.1.2.1.length:Int)=0) else false,()),())) (cz a0.2.2.1 (a0.2.2.1.length:Int) 0 a0)
def q4u(D:DX)(n:Nat)(a0:bH):Option ag:=q5c D n (qyc D n) a0
def Zj(x0:List aj)(x1 x2:Int)(x3:bH):St:=bq 85 [(1,AV.addr 1 []),(31,AV.val bV x0),(32,AV.val ah x1),(33,AV.val ah x2)] [(1,aC.mk wF Mk.no x3 true)]
def q8u(a:Bool)(b:bH):St:=bq 85 [(1,AV.addr 1 []),(2,AV.val Ty.bool a)] [(1,aC.mk wF Mk.no b true)]
def q8v(a:bH):St:=bq 85 [(1,AV.addr 1 [])] [(1,aC.mk wF Mk.no a true)]
theorem agy(D:DX)(n:Nat)(K:KT 111):∀(m:Nat)(x0:List aj)(x1 x2:Int)(x3:bH),LF D n 111 bZ m (Zj x0 x1 x2 x3) K=Ug D n (fun a b=>K (Ex.ret) (q8u a b)) (fun c=>K (Ex.exit 0) (q8v c)) m x0 x1 x2 x3:=z9 (fun F=>Zk D n F (fun a b=>K (Ex.ret) (q8u a b)) (fun c=>K (Ex.exit 0) (q8v c)))
theorem afU(D:DX)(n:Nat)(x0)(x1)(x2)(x3):LF D n 111 bZ n (Zj x0 x1 x2 x3) (CF D n 111 [] bZ (lF 111))=qyc D n x0 x1 x2 x3 :=by rw[agy];kernel_rfl
theorem ah8(D:DX)(n:Nat)(a0:bH):rF D n 111 (a0,())=q4u D n a0:=by
 have h:rF D n 111 (a0,())=q5c D n (fun x0 x1 x2 x3=>LF D n 111 bZ n (Zj x0 x1 x2 x3) (CF D n 111 [] bZ (lF 111))) a0:=by kernel_rfl
 rw[h];simp only[afU];rfl
def PN(D:DX)(n:Nat)(a0:aj)(a1:Int):Option ag:=br (decide (a0.2.1=0)) (qd (Kr D a0.1) fun p0=>some ((bif p0.1.1 then decide (a0.2.2.1=0) else false,()),())) (br (decide (a0.1=0)) (qd (k_ D a0.2.1 1 a1) fun p1=>br p1.1.1 (qd (k_ D a0.2.2.1 1 1000000) fun p2=>some ((p2.1.1,()),())) (some ((false,()),()))) (some ((false,()),())))
def q4z(D:DX)(n:Nat)(a0:aj)(a1:Int):Option ag:=PN D n a0 a1
theorem ain(D:DX)(n:Nat)(a0:aj)(a1:Int):rF D n 112 (a0,(a1,()))=q4z D n a0 a1:=by kernel_rfl
def qe5(D:DX)(n:Nat)(a1:a_)(go:List aj->Int->Int->Option aF)(K0:Int->Option aF)(K1:Option aF)(x0:List aj)(x1 x2:Int):Option aF:=br (decide (x2<x1)) (br (decide (0<=x2)&&decide (x2<(x0.length:Int))) (qd (gF ctx D a1 [bC.val bT (List.getD x0 x2.toNat (0,0,0,()))] Ty.bool) fun b=>br b (K0 x2) (go x0 x1 (wrap .i64 (x2+1)))) none) K1
def Ki(D:DX)(n:Nat)(a1:a_)(K0:Int->Option aF)(K1:Option aF):Nat->(List aj)->Int->Int->Option aF | 0=>(fun x0 x1 x2=>none) | m+1=>(fun x0 x1 x2=>qe5 D n a1 (Ki D n a1 K0 K1 m) K0 K1 x0 x1 x2)
def qef(D:DX)(n:Nat)(a1:a_)(a:Int):Option aF:=some ((a,()),())
def qeg(D:DX)(n:Nat)(a1:a_):Option aF:=some ((-1,()),())
def qes(D:DX)(n:Nat)(a1:a_):(List aj)->(Int)->(Int)->Option aF:=(fun x0 x1 x2=>Ki D n a1 (fun a=>qef D n a1 a) (qeg D n a1) n x0 x1 x2)
def qfi(D:DX)(n:Nat)(a1:a_)(cz:List aj->Int->Int->Option aF)(a0:List aj):Option aF:=cz a0 (a0.length:Int) 0
def qfd(D:DX)(n:Nat)(a0:List aj)(a1:a_):Option aF:=qfi D n a1 (qes D n a1) a0
def qe4(a1:a_)(x0:List aj)(x1 x2:Int):St:=bq 19 [(0,AV.val bV x0),(1,AV.ep a1),(7,AV.val ah x1),(8,AV.val ah x2)] []
def qhw(a1:a_)(a:Int):St:=bq 19 [(4,AV.val ah a)] []
def qhx(a1:a_):St:=bq 19 [] []
theorem qo6(D:DX)(n:Nat)(a1:a_)(K:KT 113):∀(m:Nat)(x0:List aj)(x1 x2:Int),LF D n 113 eJ m (qe4 a1 x0 x1 x2) K=Ki D n a1 (fun a=>K (Ex.ret) (qhw a1 a)) (K (Ex.exit 0) (qhx a1)) m x0 x1 x2:=pJ (fun F=>qe5 D n a1 F (fun a=>K (Ex.ret) (qhw a1 a)) (K (Ex.exit 0) (qhx a1)))
theorem qok(D:DX)(n:Nat)(a1:a_)(x0)(x1)(x2):LF D n 113 eJ n (qe4 a1 x0 x1 x2) (CF D n 113 [] eJ (lF 113))=qes D n a1 x0 x1 x2 :=by rw[qo6];kernel_rfl
theorem qqf(D:DX)(n:Nat)(a0:List aj)(a1:a_):rF D n 113 (a0,(a1,()))=qfd D n a0 a1:=by
 have h:rF D n 113 (a0,(a1,()))=qfi D n a1 (fun x0 x1 x2=>LF D n 113 eJ n (qe4 a1 x0 x1 x2) (CF D n 113 [] eJ (lF 113))) a0:=by kernel_rfl
 rw[h];simp only[qok];rfl
def qq8(D:DX)(n:Nat)(a0:List Int)(a1:Int):Option ag:=qd (V4 D a0 a1) fun b=>some ((decide (b.1.1>=0),()),())
def qkg(D:DX)(n:Nat)(a0:List Int)(a1:Int):Option ag:=qq8 D n a0 a1
theorem q63(D:DX)(n:Nat)(a0:List Int)(a1:Int):rF D n 114 (a0,(a1,()))=qkg D n a0 a1:=by kernel_rfl
def Pw(D:DX)(n:Nat)(a0:Int):Option aF:=qd (Wx D a0) fun b=>qd (Kx D b.1.1 (wrap .i64 (10+a0))) fun b=>some ((b.1.1,()),())
def YW(D:DX)(n:Nat)(a0:Int):Option aF:=Pw D n a0
theorem ag5(D:DX)(n:Nat)(a0:Int):rF D n 115 (a0,())=YW D n a0:=by kernel_rfl
def vX(D:DX)(n:Nat)(a0:aB)(a1:aj)(a2:Int):Option ag:=let y0:Option ag:=(qd (KC D a0) fun p1=>some ((p1.1.1,()),()));qd (WM D a0 a1.2.2.1) fun p0=>br (decide (a2=1)) (br (decide (a1.1=1)) (br (decide (0<=a1.2.1)&&decide (a1.2.1<(a0.1.length:Int))) (some ((List.getD a0.1 a1.2.1.toNat 0 != 0,()),())) none) (some ((false,()),()))) (br (decide (a2=2)) (some ((bif bif decide (a1.1=1) then true else decide (a1.1=2) then decide (p0.1.1>=0) else false,()),())) (br (bif decide (a2=3) then bif bif decide (a1.1=2) then true else decide (a1.1=3) then true else decide (a1.1=4) else false) (br (decide (0<=a1.2.1)&&decide (a1.2.1<(a0.1.length:Int))) (some ((decide (List.getD a0.1 a1.2.1.toNat 0=0),()),())) none) (br (decide (a2=3)) (br (decide (p0.1.1<0)) (br (decide (a1.1=5)) (some ((true,()),())) (br (decide (a1.1=10)) y0 (some ((false,()),())))) (some ((false,()),()))) (br (bif decide (a2=4) then decide (a1.1=8) else false) (some ((a0.2.1 != 0,()),())) (br (bif decide (a2=4) then decide (a1.1=9) else false) (br (decide (a0.2.1=0)) (some ((true,()),())) y0) (br (bif decide (a2=4) then decide (a1.1=10) else false) (qd (KC D a0) fun p2=>some ((!p2.1.1,()),())) (some ((false,()),()))))))))
def u7(D:DX)(n:Nat)(a0:aB)(a1:aj)(a2:Int):Option ag:=vX D n a0 a1 a2
theorem agW(D:DX)(n:Nat)(a0:aB)(a1:aj)(a2:Int):rF D n 116 (a0,(a1,(a2,())))=u7 D n a0 a1 a2:=by kernel_rfl
def vY(D:DX)(n:Nat)(a0:aB)(a1:aj):Option ((List Int×gR)×Unit):=qd (WM D a0 a1.2.2.1) fun p0=>br (decide (a1.1=1)) (br (decide (0<=a1.2.1)&&decide (a1.2.1<(a0.1.length:Int))) (some (([],bif decide (List.getD a0.1 a1.2.1.toNat 0=0) then decide (p0.1.1<0) else false,()),())) none) (br (decide (a1.1=2)) (br (decide (0<=a1.2.1)&&decide (a1.2.1<(a0.1.length:Int))) (some (([],bif List.getD a0.1 a1.2.1.toNat 0 != 0 then bif decide (p0.1.1<0) then true else decide (p0.1.1=a1.2.1) else false,()),())) none) (br (decide (a1.1=3)) (br (decide (0<=a1.2.1)&&decide (a1.2.1<(a0.1.length:Int))) (some (([],List.getD a0.1 a1.2.1.toNat 0 != 0,()),())) none) (br (decide (a1.1=4)) (br (decide (0<=a1.2.1)&&decide (a1.2.1<(a0.1.length:Int))) (br (decide (0<=a1.2.1)&&decide (a1.2.1<(a0.1.length:Int))) (some (([List.getD a0.1 a1.2.1.toNat 0],List.getD a0.1 a1.2.1.toNat 0 != 0,()),())) none) none) (br (decide (a1.1=5)) (some (([p0.1.1],decide (p0.1.1>=0),()),())) (br (decide (a1.1=6)) (qd (Y5 D a0 a1.2.1) fun p1=>some (([p1.1.1],true,()),())) (br (decide (a1.1=7)) (some ((a0.1,true,()),())) (br (decide (a1.1=8)) (some (([],decide (a0.2.1=0),()),())) (br (decide (a1.1=9)) (br (a0.2.1 != 0) (qd (KC D a0) fun p2=>some (([],!p2.1.1,()),())) (some (([],false,()),()))) (br (decide (p0.1.1>=0)) (qd (KC D a0) fun p3=>some (([p0.1.1],p3.1.1,()),())) (some (([p0.1.1],false,()),())))))))))))
def u9(D:DX)(n:Nat)(a0:aB)(a1:aj):Option ((List Int×gR)×Unit):=vY D n a0 a1
theorem agX(D:DX)(n:Nat)(a0:aB)(a1:aj):rF D n 117 (a0,(a1,()))=u9 D n a0 a1:=by kernel_rfl
def P2(D:DX)(n:Nat)(a0:Int):Option ag:=qd (k_ D a0 0 3) fun b=>some ((b.1.1,()),())
def q76(D:DX)(n:Nat)(a0:Int):Option ag:=P2 D n a0
theorem ai6(D:DX)(n:Nat)(a0:Int):rF D n 118 (a0,())=q76 D n a0:=by kernel_rfl
def Pz(D:DX)(n:Nat)(a0:Int):Option ag:=qd (k_ D a0 0 2) fun b=>some ((b.1.1,()),())
def Zv(D:DX)(n:Nat)(a0:Int):Option ag:=Pz D n a0
theorem agT(D:DX)(n:Nat)(a0:Int):rF D n 119 (a0,())=Zv D n a0:=by kernel_rfl
def qi8(D:DX)(n:Nat)(a1:a_)(a0:List aj):Option ag:=qd (qj8 D a0 a1) fun b=>some ((decide (b.1.1>=0),()),())
def qfo(D:DX)(n:Nat)(a0:List aj)(a1:a_):Option ag:=qi8 D n a1 a0
theorem qri(D:DX)(n:Nat)(a0:List aj)(a1:a_):rF D n 120 (a0,(a1,()))=qfo D n a0 a1:=by kernel_rfl
def q6i(D:DX)(n:Nat)(a0:aj):Option ag:=qd (Dq D a0) fun b=>some ((!b.1.1,()),())
def qt6(D:DX)(n:Nat)(a0:aj):Option ag:=q6i D n a0
theorem aeX(D:DX)(n:Nat)(a0:aj):rF D n 121 (a0,())=qt6 D n a0:=by kernel_rfl
def qho(D:DX)(n:Nat)(a1:a_)(a0:List bE):Option ag:=qd (qip D a0 a1) fun b=>some ((decide (b.1.1>=0),()),())
def qd7(D:DX)(n:Nat)(a0:List bE)(a1:a_):Option ag:=qho D n a1 a0
theorem qob(D:DX)(n:Nat)(a0:List bE)(a1:a_):rF D n 122 (a0,(a1,()))=qd7 D n a0 a1:=by kernel_rfl
def q6j(D:DX)(n:Nat)(a0:bE):Option ag:=qd (Wy D a0.1) fun b=>br (!b.1.1) (some ((true,()),())) (qd (Kr D a0.2.1) fun b=>some ((!b.1.1,()),()))
def qt7(D:DX)(n:Nat)(a0:bE):Option ag:=q6j D n a0
theorem aeY(D:DX)(n:Nat)(a0:bE):rF D n 123 (a0,())=qt7 D n a0:=by kernel_rfl
def PA(D:DX)(n:Nat)(a0:Int):Option ag:=qd (k_ D a0 0 19) fun b=>some ((b.1.1,()),())
def Zw(D:DX)(n:Nat)(a0:Int):Option ag:=PA D n a0
theorem agU(D:DX)(n:Nat)(a0:Int):rF D n 124 (a0,())=Zw D n a0:=by kernel_rfl
def q9c(D:DX)(n:Nat)(a0:Int):Option ag:=qd (k_ D a0 0 1000) fun b=>some ((b.1.1,()),())
def qv0(D:DX)(n:Nat)(a0:Int):Option ag:=q9c D n a0
theorem afL(D:DX)(n:Nat)(a0:Int):rF D n 125 (a0,())=qv0 D n a0:=by kernel_rfl
def qhn(D:DX)(n:Nat)(a1:a_)(a0:List cF):Option ag:=qd (qio D a0 a1) fun b=>some ((decide (b.1.1>=0),()),())
def qd6(D:DX)(n:Nat)(a0:List cF)(a1:a_):Option ag:=qhn D n a1 a0
theorem qoa(D:DX)(n:Nat)(a0:List cF)(a1:a_):rF D n 126 (a0,(a1,()))=qd6 D n a0 a1:=by kernel_rfl
def q6k(D:DX)(n:Nat)(a0:cF)(a1:Int):Option ag:=qd (k_ D a0.1 0 (wrap .i64 (a1-1))) fun p0=>br (!p0.1.1) (some ((true,()),())) (qd (k_ D a0.2.1 1 1000000) fun p1=>br (!p1.1.1) (some ((true,()),())) (qd (k_ D a0.2.2.1 0 20) fun p2=>br (!p2.1.1) (some ((true,()),())) (qd (k_ D a0.2.2.2.1 0 20) fun p3=>some ((!p3.1.1,()),()))))
def qt8(D:DX)(n:Nat)(a0:cF)(a1:Int):Option ag:=q6k D n a0 a1
theorem aeZ(D:DX)(n:Nat)(a0:cF)(a1:Int):rF D n 127 (a0,(a1,()))=qt8 D n a0 a1:=by kernel_rfl
def Qd(D:DX)(n:Nat)(a0:Int):Option ag:=qd (lZ D a0 1 4) fun b=>some ((b.1.1,()),())
def q8j(D:DX)(n:Nat)(a0:Int):Option ag:=Qd D n a0
theorem ajj(D:DX)(n:Nat)(a0:Int):rF D n 132 (a0,())=q8j D n a0:=by kernel_rfl
def aal(D:DX)(n:Nat)(a0:Int):Option ag:=some ((bif bif bif decide (a0=1) then true else decide (a0=2) then true else decide (a0=5) then true else decide (a0=10),()),())
def P8(D:DX)(n:Nat)(a0:Int):Option ag:=aal D n a0
theorem ajk(D:DX)(n:Nat)(a0:Int):rF D n 133 (a0,())=P8 D n a0:=by kernel_rfl
def Qi(D:DX)(n:Nat)(a0:Int):Option aF:=qd (WQ D a0) fun b=>br (!b.1.1) (some ((-1,()),())) (some ((a0,()),()))
def q8f(D:DX)(n:Nat)(a0:Int):Option aF:=Qi D n a0
theorem aje(D:DX)(n:Nat)(a0:Int):rF D n 134 (a0,())=q8f D n a0:=by kernel_rfl
def PE(D:DX)(n:Nat)(a0:Int):Option aF:=qd (Dl D a0) fun b=>br (!b.1.1) (some ((-1,()),())) (some ((wrap .i64 (3+a0),()),()))
def ZB(D:DX)(n:Nat)(a0:Int):Option aF:=PE D n a0
theorem ahq(D:DX)(n:Nat)(a0:Int):rF D n 135 (a0,())=ZB D n a0:=by kernel_rfl
def Qc(D:DX)(n:Nat)(a0:Int):Option aF:=qd (Dl D a0) fun b=>br (!b.1.1) (some ((-1,()),())) (qd (Wz D) fun b=>some ((wrap .i64 (b.1.1+a0),()),()))
def q8h(D:DX)(n:Nat)(a0:Int):Option aF:=Qc D n a0
theorem ajg(D:DX)(n:Nat)(a0:Int):rF D n 136 (a0,())=q8h D n a0:=by kernel_rfl
def qzh(D:DX)(n:Nat)(go:Int->Int->Int->aB->Option aF)(K0:Int->Option aF)(x0 x1 x2:Int)(x3:aB):Option aF:=br (decide (x2<(x3.1.length:Int))) (br (decide (0<=x2)&&decide (x2<(x3.1.length:Int))) (qd (Dl D (List.getD x3.1 x2.toNat 0)) fun p0=>br p0.1.1 (br (decide (0<=x2)&&decide (x2<(x3.1.length:Int))) (qd (Y_ D (List.getD x3.1 x2.toNat 0)) fun p1=>qd (Uw D (decide (p1.1.1=x0))) fun p2=>go x0 (wrap .i64 (x1+p2.1.1)) (wrap .i64 (x2+1)) x3) none) (qd (Uw D false) fun p3=>go x0 (wrap .i64 (x1+p3.1.1)) (wrap .i64 (x2+1)) x3)) none) (K0 x1)
def Ub(D:DX)(n:Nat)(K0:Int->Option aF):Nat->Int->Int->Int->aB->Option aF | 0=>(fun x0 x1 x2 x3=>none) | m+1=>(fun x0 x1 x2 x3=>qzh D n (Ub D n K0 m) K0 x0 x1 x2 x3)
def q6w(D:DX)(n:Nat)(a:Int):Option aF:=some ((a,()),())
def qwo(D:DX)(n:Nat):(Int)->(Int)->(Int)->aB->Option aF:=(fun x0 x1 x2 x3=>Ub D n (fun a=>q6w D n a) n x0 x1 x2 x3)
def ZH(D:DX)(n:Nat)(cz:Int->Int->Int->aB->Option aF)(a0:aB)(a1:Int):Option aF:=cz a1 0 0 a0
def ZA(D:DX)(n:Nat)(a0:aB)(a1:Int):Option aF:=ZH D n (qwo D n) a0 a1
def qzg(x0 x1 x2:Int)(x3:aB):St:=bq 34 [(1,AV.val ah x0),(2,AV.addr 2 []),(5,AV.val ah x1),(6,AV.val ah x2)] [(2,aC.mk bO Mk.no x3 true)]
def q6v(a:Int):St:=bq 34 [(5,AV.val ah a)] []
theorem agb(D:DX)(n:Nat)(K:KT 137):∀(m:Nat)(x0 x1 x2:Int)(x3:aB),LF D n 137 bZ m (qzg x0 x1 x2 x3) K=Ub D n (fun a=>K (Ex.exit 0) (q6v a)) m x0 x1 x2 x3:=z9 (fun F=>qzh D n F (fun a=>K (Ex.exit 0) (q6v a)))
theorem afi(D:DX)(n:Nat)(x0)(x1)(x2)(x3):LF D n 137 bZ n (qzg x0 x1 x2 x3) (CF D n 137 [] bZ (lF 137))=qwo D n x0 x1 x2 x3 :=by rw[agb];kernel_rfl
theorem ahp(D:DX)(n:Nat)(a0:aB)(a1:Int):rF D n 137 (a0,(a1,()))=ZA D n a0 a1:=by
 have h:rF D n 137 (a0,(a1,()))=ZH D n (fun x0 x1 x2 x3=>LF D n 137 bZ n (qzg x0 x1 x2 x3) (CF D n 137 [] bZ (lF 137))) a0 a1:=by kernel_rfl
 rw[h];simp only[afi];rfl
def PC(D:DX)(n:Nat)(a0:Int):Option aF:=qd (lZ D a0 0 2) fun b=>br (!b.1.1) (some ((-1,()),())) (some ((wrap .i64 (10+a0),()),()))
def Zz(D:DX)(n:Nat)(a0:Int):Option aF:=PC D n a0
theorem agZ(D:DX)(n:Nat)(a0:Int):rF D n 138 (a0,())=Zz D n a0:=by kernel_rfl
def ah3(D:DX)(n:Nat):Option aF:=some ((13,()),())
def Pp(D:DX)(n:Nat):Option aF:=ah3 D n
theorem ahs(D:DX)(n:Nat):rF D n 139 ()=Pp D n:=by kernel_rfl
def PD(D:DX)(n:Nat)(go:Int->bH->Option ag)(K0:Bool->Option ag)(K1:Option ag)(x0:Int)(x1:bH):Option ag:=let y0:=List.getD x1.2.2.1 x0.toNat (0,0,0,());br (decide (x0<(x1.2.2.1.length:Int))) (br (decide (0<=x0)&&decide (x0<(x1.2.2.1.length:Int))) (qd (lZ D y0.1 0 19) fun p0=>br (!p0.1.1) (K0 false) (qd (lZ D y0.2.1 0 1000) fun p1=>br (!p1.1.1) (K0 false) (qd (lZ D y0.2.2.1 0 1000) fun p2=>br (!p2.1.1) (K0 false) (br (decide (x0>0)) (br (decide (0<=wrap .i64 (x0-1))&&decide (wrap .i64 (x0-1)<(x1.2.2.1.length:Int))) (br (decide ((List.getD x1.2.2.1 (Int.toNat (wrap .i64 (x0-1))) (0,0,0,())).1>=y0.1)) (K0 false) (go (wrap .i64 (x0+1)) x1)) none) (go (wrap .i64 (x0+1)) x1))))) none) K1
def ZF(D:DX)(n:Nat)(K0:Bool->Option ag)(K1:Option ag):Nat->Int->bH->Option ag | 0=>(fun x0 x1=>none) | m+1=>(fun x0 x1=>PD D n (ZF D n K0 K1 m) K0 K1 x0 x1)
def afS(D:DX)(n:Nat)(a:Bool):Option ag:=some ((a,()),())
def afT(D:DX)(n:Nat):Option ag:=some ((true,()),())
def OO(D:DX)(n:Nat):(Int)->bH->Option ag:=(fun x0 x1=>ZF D n (fun a=>afS D n a) (afT D n) n x0 x1)
def q5s(D:DX)(n:Nat)(cz:Int->bH->Option ag)(a0:bH):Option ag:=br (decide (a0.1=0)) (some ((bif bif bif decide (a0.2.1=0) then decide ((a0.2.2.1.length:Int)=0) else false then decide (a0.2.2.2.1.1=0) else false then decide ((a0.2.2.2.1.2.1.length:Int)=0) else false,()),())) (qd (lZ D a0.1 1 1000000) fun p0=>br (!p0.1.1) (some ((false,()),())) (qd (lZ D a0.2.1 1 3) fun p1=>br (bif !p1.1.1 then true else decide ((a0.2.2.1.length:Int)>20)) (some ((false,()),())) (cz 0 a0)))
def Z_(D:DX)(n:Nat)(a0:bH):Option ag:=q5s D n (OO D n) a0
def ZG(x0:Int)(x1:bH):St:=bq 90 [(1,AV.addr 1 []),(3,AV.val ah x0)] [(1,aC.mk wF Mk.no x1 true)]
def q9s(a:Bool):St:=bq 90 [(2,AV.val Ty.bool a)] []
def q9t:St:=bq 90 [] []
theorem agF(D:DX)(n:Nat)(K:KT 140):∀(m:Nat)(x0:Int)(x1:bH),LF D n 140 eN m (ZG x0 x1) K=ZF D n (fun a=>K (Ex.ret) (q9s a)) (K (Ex.exit 0) (q9t)) m x0 x1:=DV (fun F=>PD D n F (fun a=>K (Ex.ret) (q9s a)) (K (Ex.exit 0) (q9t)))
theorem afR(D:DX)(n:Nat)(x0)(x1):LF D n 140 eN n (ZG x0 x1) (CF D n 140 [] eN (lF 140))=OO D n x0 x1 :=by rw[agF];kernel_rfl
theorem air(D:DX)(n:Nat)(a0:bH):rF D n 140 (a0,())=Z_ D n a0:=by
 have h:rF D n 140 (a0,())=q5s D n (fun x0 x1=>LF D n 140 eN n (ZG x0 x1) (CF D n 140 [] eN (lF 140))) a0:=by kernel_rfl
 rw[h];simp only[afR];rfl
end
end Go.G

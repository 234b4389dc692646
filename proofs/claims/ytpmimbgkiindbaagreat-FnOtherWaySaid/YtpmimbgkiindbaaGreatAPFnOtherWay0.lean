import Derived.Test.YtpmimbgkiindbaaGreatAV3
set_option linter.unusedVariables false
set_option linter.unusedSimpArgs false
set_option linter.unusedSectionVars false
open Go.IntKind (wrap)
namespace Go.G
open Go Go.V
abbrev DX:=Den ctx
abbrev KT(k:Nat):=Ex->St->Option (Out ctx k)
noncomputable abbrev LF(D:DX)(n:Nat)(k:Nat):=LQ (C:=ctx) vS D n k
noncomputable abbrev CF(D:DX)(n:Nat)(k:Nat):=CQ (C:=ctx) vS D n k
noncomputable abbrev KF(D:DX)(n:Nat)(k:Nat):=LK (C:=ctx) vS D n k
noncomputable abbrev lF(k:Nat):=BJ (C:=ctx) vS k
noncomputable abbrev rF(D:DX)(n:Nat)(k:Nat):=Ka (C:=ctx) vS D n k
noncomputable abbrev bF(k:Nat):=Cg vS k
theorem Dw{t0 t1 R:Type}{A B:Nat->t0->t1->R}(b:(t0->t1->R)->t0->t1->R)(h0:∀x0 x1,A 0 x0 x1=B 0 x0 x1:=by intros;exact uU ..)(ha:∀m x0 x1,A (m+1) x0 x1=b (A m) x0 x1:=by intros;kernel_rfl)(hb:∀m x0 x1,B (m+1) x0 x1=b (B m) x0 x1:=by intros;rfl):∀m x0 x1,A m x0 x1=B m x0 x1
| 0=>h0
| m+1=>fun x0 x1=>by rw[ha,hb,show A m=B m from funext fun x0=>funext fun x1=>Dw b h0 ha hb m x0 x1]
theorem oP{t0 t1 t2 R:Type}{A B:Nat->t0->t1->t2->R}(b:(t0->t1->t2->R)->t0->t1->t2->R)(h0:∀x0 x1 x2,A 0 x0 x1 x2=B 0 x0 x1 x2:=by intros;exact uU ..)(ha:∀m x0 x1 x2,A (m+1) x0 x1 x2=b (A m) x0 x1 x2:=by intros;kernel_rfl)(hb:∀m x0 x1 x2,B (m+1) x0 x1 x2=b (B m) x0 x1 x2:=by intros;rfl):∀m x0 x1 x2,A m x0 x1 x2=B m x0 x1 x2
| 0=>h0
| m+1=>fun x0 x1 x2=>by rw[ha,hb,show A m=B m from funext fun x0=>funext fun x1=>funext fun x2=>oP b h0 ha hb m x0 x1 x2]
theorem y_{t0 t1 t2 t3 R:Type}{A B:Nat->t0->t1->t2->t3->R}(b:(t0->t1->t2->t3->R)->t0->t1->t2->t3->R)(h0:∀x0 x1 x2 x3,A 0 x0 x1 x2 x3=B 0 x0 x1 x2 x3:=by intros;exact uU ..)(ha:∀m x0 x1 x2 x3,A (m+1) x0 x1 x2 x3=b (A m) x0 x1 x2 x3:=by intros;kernel_rfl)(hb:∀m x0 x1 x2 x3,B (m+1) x0 x1 x2 x3=b (B m) x0 x1 x2 x3:=by intros;rfl):∀m x0 x1 x2 x3,A m x0 x1 x2 x3=B m x0 x1 x2 x3
| 0=>h0
| m+1=>fun x0 x1 x2 x3=>by rw[ha,hb,show A m=B m from funext fun x0=>funext fun x1=>funext fun x2=>funext fun x3=>y_ b h0 ha hb m x0 x1 x2 x3]
theorem pJ{t0 t1 t2 t3 t4 R:Type}{A B:Nat->t0->t1->t2->t3->t4->R}(b:(t0->t1->t2->t3->t4->R)->t0->t1->t2->t3->t4->R)(h0:∀x0 x1 x2 x3 x4,A 0 x0 x1 x2 x3 x4=B 0 x0 x1 x2 x3 x4:=by intros;exact uU ..)(ha:∀m x0 x1 x2 x3 x4,A (m+1) x0 x1 x2 x3 x4=b (A m) x0 x1 x2 x3 x4:=by intros;kernel_rfl)(hb:∀m x0 x1 x2 x3 x4,B (m+1) x0 x1 x2 x3 x4=b (B m) x0 x1 x2 x3 x4:=by intros;rfl):∀m x0 x1 x2 x3 x4,A m x0 x1 x2 x3 x4=B m x0 x1 x2 x3 x4
| 0=>h0
| m+1=>fun x0 x1 x2 x3 x4=>by rw[ha,hb,show A m=B m from funext fun x0=>funext fun x1=>funext fun x2=>funext fun x3=>funext fun x4=>pJ b h0 ha hb m x0 x1 x2 x3 x4]
theorem IW{t0 t1 t2 t3 t4 t5 R:Type}{A B:Nat->t0->t1->t2->t3->t4->t5->R}(b:(t0->t1->t2->t3->t4->t5->R)->t0->t1->t2->t3->t4->t5->R)(h0:∀x0 x1 x2 x3 x4 x5,A 0 x0 x1 x2 x3 x4 x5=B 0 x0 x1 x2 x3 x4 x5:=by intros;exact uU ..)(ha:∀m x0 x1 x2 x3 x4 x5,A (m+1) x0 x1 x2 x3 x4 x5=b (A m) x0 x1 x2 x3 x4 x5:=by intros;kernel_rfl)(hb:∀m x0 x1 x2 x3 x4 x5,B (m+1) x0 x1 x2 x3 x4 x5=b (B m) x0 x1 x2 x3 x4 x5:=by intros;rfl):∀m x0 x1 x2 x3 x4 x5,A m x0 x1 x2 x3 x4 x5=B m x0 x1 x2 x3 x4 x5
| 0=>h0
| m+1=>fun x0 x1 x2 x3 x4 x5=>by rw[ha,hb,show A m=B m from funext fun x0=>funext fun x1=>funext fun x2=>funext fun x3=>funext fun x4=>funext fun x5=>IW b h0 ha hb m x0 x1 x2 x3 x4 x5]
theorem eL7{t0 t1 t2 t3 t4 t5 t6 R:Type}{A B:Nat->t0->t1->t2->t3->t4->t5->t6->R}(b:(t0->t1->t2->t3->t4->t5->t6->R)->t0->t1->t2->t3->t4->t5->t6->R)(h0:∀x0 x1 x2 x3 x4 x5 x6,A 0 x0 x1 x2 x3 x4 x5 x6=B 0 x0 x1 x2 x3 x4 x5 x6:=by intros;exact uU ..)(ha:∀m x0 x1 x2 x3 x4 x5 x6,A (m+1) x0 x1 x2 x3 x4 x5 x6=b (A m) x0 x1 x2 x3 x4 x5 x6:=by intros;kernel_rfl)(hb:∀m x0 x1 x2 x3 x4 x5 x6,B (m+1) x0 x1 x2 x3 x4 x5 x6=b (B m) x0 x1 x2 x3 x4 x5 x6:=by intros;rfl):∀m x0 x1 x2 x3 x4 x5 x6,A m x0 x1 x2 x3 x4 x5 x6=B m x0 x1 x2 x3 x4 x5 x6
| 0=>h0
| m+1=>fun x0 x1 x2 x3 x4 x5 x6=>by rw[ha,hb,show A m=B m from funext fun x0=>funext fun x1=>funext fun x2=>funext fun x3=>funext fun x4=>funext fun x5=>funext fun x6=>eL7 b h0 ha hb m x0 x1 x2 x3 x4 x5 x6]
theorem T8{t0 t1 t2 t3 t4 t5 t6 t7 t8 R:Type}{A B:Nat->t0->t1->t2->t3->t4->t5->t6->t7->t8->R}(b:(t0->t1->t2->t3->t4->t5->t6->t7->t8->R)->t0->t1->t2->t3->t4->t5->t6->t7->t8->R)(h0:∀x0 x1 x2 x3 x4 x5 x6 x7 x8,A 0 x0 x1 x2 x3 x4 x5 x6 x7 x8=B 0 x0 x1 x2 x3 x4 x5 x6 x7 x8:=by intros;exact uU ..)(ha:∀m x0 x1 x2 x3 x4 x5 x6 x7 x8,A (m+1) x0 x1 x2 x3 x4 x5 x6 x7 x8=b (A m) x0 x1 x2 x3 x4 x5 x6 x7 x8:=by intros;kernel_rfl)(hb:∀m x0 x1 x2 x3 x4 x5 x6 x7 x8,B (m+1) x0 x1 x2 x3 x4 x5 x6 x7 x8=b (B m) x0 x1 x2 x3 x4 x5 x6 x7 x8:=by intros;rfl):∀m x0 x1 x2 x3 x4 x5 x6 x7 x8,A m x0 x1 x2 x3 x4 x5 x6 x7 x8=B m x0 x1 x2 x3 x4 x5 x6 x7 x8
| 0=>h0
| m+1=>fun x0 x1 x2 x3 x4 x5 x6 x7 x8=>by rw[ha,hb,show A m=B m from funext fun x0=>funext fun x1=>funext fun x2=>funext fun x3=>funext fun x4=>funext fun x5=>funext fun x6=>funext fun x7=>funext fun x8=>T8 b h0 ha hb m x0 x1 x2 x3 x4 x5 x6 x7 x8]
abbrev cG:List mC:=[.r,.r,.l,.r,.l]
abbrev eL:List mC:=[.r,.r,.r,.l,.r,.l]
abbrev eI:List mC:=[.r,.l,.r,.l]
abbrev lS:List mC:=[.r,.r,.r,.r,.l,.r,.l]
abbrev xz:List mC:=[.r,.r,.r,.r,.r,.r,.l,.r,.l]
abbrev LP:List mC:=[.r,.r,.l,.r,.l,.r,.r,.r,.r,.r,.r,.r,.r,.r,.l,.r,.l]
abbrev En:List mC:=[.r,.r,.r,.r,.r,.r,.r,.r,.r,.l,.r,.l]
abbrev zm:List mC:=[.r,.r,.r,.r,.r,.l,.r,.l]
abbrev Je:List mC:=[.r,.r,.l,.r,.l,.l,.r,.l,.l,.r,.l,.r,.l]
abbrev LR:List mC:=[.r,.r,.r,.r,.r,.r,.r,.r,.r,.r,.r,.l,.r,.l]
abbrev xy:List mC:=[.r,.r,.r,.r,.r,.r,.r,.r,.r,.r,.l,.r,.l]
abbrev Ek:List mC:=[.r,.r,.r,.r,.r,.r,.l,.r,.l,.l,.r,.l,.l,.r,.r,.l]
abbrev uu:List mC:=[.r,.l,.l,.r,.l,.l,.r,.l]
abbrev hJ:List mC:=[.r,.l]
abbrev Em:List mC:=[.r,.r,.r,.l,.r,.l,.l,.r,.l,.l,.r,.r,.r,.l]
abbrev n5:List mC:=[.r,.r,.l]
abbrev Ak:List mC:=[.r,.l,.l,.r,.l,.r,.l]
abbrev Al:List mC:=[.r,.r,.l,.r,.l,.l]
abbrev iW:=Bool×Unit
abbrev bB:=Int×Int×Unit
abbrev aF:=(Int×Unit)×Unit
abbrev ah:=iW×Unit
abbrev f9:=Int×List Int×Unit
abbrev aC:=List Int×Int×Unit
abbrev cP:=Unit×List Int×Unit
abbrev ak:=Int×bB
abbrev cZ:=(List Int×Unit)×Unit
abbrev gN:=(Int×iW)×Unit
abbrev bq:=List Int×bB
abbrev cA:=Int×ak
abbrev vv:=List ak×Unit
abbrev sU:=bq×Unit
abbrev mN:=(aC×Unit)×Unit
abbrev cz:=Unit×vv
abbrev mM:=vv×Unit
abbrev nD:=sU×Unit
abbrev ki:=(ak×iW)×Unit
abbrev pq:=(Int×Unit)×sU
abbrev cT:=List bB×List Int×Int×iW
abbrev yQ:=cT×Unit
abbrev jk:=Bool×f9×vv
abbrev jv:=Unit×yQ
abbrev nC:=(aC×Unit)×sU
abbrev lY:=yQ×Unit
abbrev bE:=Int×Int×List ak×f9×Unit
abbrev eF:=Int×ak×Int×Int×Int×f9×Unit
abbrev gM:=(List (List ak)×Unit)×sU
abbrev gK:=(aC×List (List ak)×List Int×Unit)×Unit
abbrev nB:=(jk×iW)×Unit
abbrev aM:=List ak×Int×Bool×List bB×List cA×Unit
abbrev aW:=List ak×List bE×Unit
abbrev jj:=(aM×Unit)×Unit
abbrev nA:=(aW×Unit)×Unit
abbrev nV:=(aW×iW)×Unit
abbrev tq8:=(aW×cA×iW)×Unit
abbrev tq7:=(cA×cA×Int×Unit)×aW×Unit
abbrev tq6:=(aW×cA×cA×Int×Unit)×Unit
abbrev aE:=aW×List aM×Int×List eF×List Int×aC×Unit
abbrev wk:=Unit×aE×Unit
abbrev f7:=(aE×Unit)×Unit
abbrev tR:=(Int×Unit)×aE×Unit
abbrev tq1:=iW×aE×Unit
abbrev mB:=(aE×iW)×Unit
noncomputable def qtt(D:Den ctx)(a0:List Int):Option ah:=D 8 (a0,())
noncomputable def Gd(D:Den ctx)(a0:List Int):Option ah:=D 12 (a0,())
noncomputable def qqb(D:Den ctx)(a0:List Int):Option gK:=D 13 (a0,())
noncomputable def qtv(D:Den ctx)(a0:aC)(a1:List (List ak)):Option mB:=D 14 (a0,(a1,()))
noncomputable def qtw(D:Den ctx)(a0:aC)(a1:List (List ak)):Option mB:=D 15 (a0,(a1,()))
noncomputable def FX(D:Den ctx)(a0:aE)(a1:List Int):Option f7:=D 16 (a0,(a1,()))
noncomputable def Vh(D:Den ctx)(a0:aM):Option ah:=D 17 (a0,())
noncomputable def Ik(D:Den ctx)(a0:aE)(a1:Int):Option f7:=D 22 (a0,(a1,()))
noncomputable def X3(D:Den ctx)(a0:List ak)(a1:List bE):Option cZ:=D 23 (a0,(a1,()))
noncomputable def ZR(D:Den ctx)(a0:aE):Option ah:=D 24 (a0,())
noncomputable def HZ(D:Den ctx)(a0:List Int):Option ah:=D 26 (a0,())
noncomputable def xB(D:Den ctx)(a0:List Int):Option mN:=D 31 (a0,())
noncomputable def qsa(D:Den ctx)(a0:List Int)(a1:Int):Option gN:=D 32 (a0,(a1,()))
noncomputable def qt2(D:Den ctx)(a0:List Int)(a1:Int):Option gN:=D 33 (a0,(a1,()))
noncomputable def qxm(D:Den ctx)(a0:aC)(a1:Int):Option aF:=D 34 (a0,(a1,()))
noncomputable def sI(D:Den ctx)(a0:Int):Option aF:=D 35 (a0,())
noncomputable def C2(D:Den ctx)(a0:aE):Option ah:=D 40 (a0,())
noncomputable def ZZ(D:Den ctx)(a0:List Int):Option nD:=D 44 (a0,())
noncomputable def qrr(D:Den ctx)(a0:bq):Option nC:=D 45 (a0,())
noncomputable def qvw(D:Den ctx)(a0:bq):Option gM:=D 46 (a0,())
noncomputable def rT(D:Den ctx)(a0:bq)(a1:Int):Option pq:=D 47 (a0,(a1,()))
noncomputable def Zj(D:Den ctx)(a0:List Int)(a1 a2:Int):Option aF:=D 48 (a0,(a1,(a2,())))
noncomputable def Zd(D:Den ctx)(a0:aC)(a1:Int):Option nV:=D 49 (a0,(a1,()))
noncomputable def U_(D:Den ctx)(a0:aC):Option mN:=D 50 (a0,())
noncomputable def q7u(D:Den ctx)(a0:List ak):Option jj:=D 51 (a0,())
noncomputable def Zi(D:Den ctx)(a0:aC)(a1:Int):Option nV:=D 52 (a0,(a1,()))
noncomputable def Zk(D:Den ctx)(a0:aC):Option mN:=D 53 (a0,())
noncomputable def q7x(D:Den ctx)(a0:List ak):Option jj:=D 54 (a0,())
noncomputable def qvv(D:Den ctx)(a0:aE):Option ah:=D 55 (a0,())
noncomputable def JM(D:Den ctx)(a0:aE):Option f7:=D 56 (a0,())
noncomputable def JY(D:Den ctx)(a0:aE)(a1:Int):Option mB:=D 57 (a0,(a1,()))
noncomputable def kZ(D:Den ctx)(a0 a1 a2:Int):Option ah:=D 58 (a0,(a1,(a2,())))
noncomputable def X4(D:Den ctx)(a0:List ak)(a1:List bE)(a2:Int):Option aF:=D 60 (a0,(a1,(a2,())))
noncomputable def qh9(D:Den ctx)(a0:List aM)(a1:bf):Option ah:=D 61 (a0,(a1,()))
noncomputable def Qf(D:Den ctx)(a0:aM):Option ah:=D 62 (a0,())
noncomputable def Ix(D:Den ctx)(a0:aW):Option ah:=D 63 (a0,())
noncomputable def qd4(D:Den ctx)(a0:List ak)(a1:bf):Option ah:=D 64 (a0,(a1,()))
noncomputable def To(D:Den ctx)(a0:aC):Option ah:=D 66 (a0,())
noncomputable def qjc(D:Den ctx)(a0 a1:List Int):Option ah:=D 67 (a0,(a1,()))
noncomputable def Tj(D:Den ctx)(a0:aC):Option cZ:=D 68 (a0,())
noncomputable def JK(D:Den ctx)(a0:List Int):Option cZ:=D 69 (a0,())
noncomputable def sH(D:Den ctx):Option aF:=D 70 ()
noncomputable def qp3(D:Den ctx)(a0:aC):Option ah:=D 71 (a0,())
noncomputable def Vy(D:Den ctx)(a0:List Int)(a1:Int):Option gN:=D 72 (a0,(a1,()))
noncomputable def vN(D:Den ctx)(a0:Int):Option aF:=D 73 (a0,())
noncomputable def Vb(D:Den ctx)(a0:List Int)(a1:Int):Option aF:=D 74 (a0,(a1,()))
noncomputable def JT(D:Den ctx)(a0:Bool)(a1:Int):Option aF:=D 75 (a0,(a1,()))
noncomputable def BT(D:Den ctx)(a0:Int):Option ah:=D 76 (a0,())
noncomputable def uQ(D:Den ctx)(a0:Int):Option aF:=D 77 (a0,())
noncomputable def Ve(D:Den ctx)(a0:eF)(a1:Int)(a2:aE):Option ah:=D 79 (a0,(a1,(a2,())))
noncomputable def Iy(D:Den ctx)(a0:ak):Option ah:=D 80 (a0,())
noncomputable def qxn(D:Den ctx)(a0:aM)(a1:Int):Option ah:=D 81 (a0,(a1,()))
noncomputable def X5(D:Den ctx)(a0:aE)(a1:Int):Option ah:=D 82 (a0,(a1,()))
noncomputable def X6(D:Den ctx)(a0:aE):Option ah:=D 83 (a0,())
noncomputable def Iv(D:Den ctx)(a0:f9):Option ((f9×Unit)×Unit):=D 85 (a0,())
noncomputable def Ya(D:Den ctx):Option mN:=D 90 ()
noncomputable def VQ(D:Den ctx)(a0:aC)(a1:Int):Option aF:=D 91 (a0,(a1,()))
noncomputable def Vo(D:Den ctx)(a0:bq)(a1:List Int):Option pq:=D 92 (a0,(a1,()))
noncomputable def qrs(D:Den ctx)(a0:bq):Option ((ak×Unit)×sU):=D 93 (a0,())
noncomputable def Iw(D:Den ctx)(a0:bq):Option pq:=D 94 (a0,())
noncomputable def U5(D:Den ctx)(a0:List ak):Option mM:=D 95 (a0,())
noncomputable def Yb(D:Den ctx)(a0:aC):Option cZ:=D 96 (a0,())
noncomputable def lU(D:Den ctx)(a0 a1 a2:Int):Option ah:=D 97 (a0,(a1,(a2,())))
noncomputable def TA(D:Den ctx)(a0:aW):Option ah:=D 98 (a0,())
noncomputable def VH(D:Den ctx)(a0:aC):Option ah:=D 99 (a0,())
noncomputable def Yc(D:Den ctx)(a0:aE):Option ah:=D 100 (a0,())
noncomputable def qxr(D:Den ctx)(a0:aM)(a1:Int):Option ah:=D 101 (a0,(a1,()))
noncomputable def qxt(D:Den ctx)(a0:aE)(a1:Int):Option ah:=D 102 (a0,(a1,()))
noncomputable def JR(D:Den ctx)(a0:aW):Option nA:=D 103 (a0,())
noncomputable def JN(D:Den ctx)(a0:aM):Option jj:=D 104 (a0,())
noncomputable def qng(D:Den ctx)(a0:aE)(a1:Int):Option wk:=D 105 (a0,(a1,()))
noncomputable def qqa(D:Den ctx)(a0:aE)(a1:Int):Option tq1:=D 106 (a0,(a1,()))
noncomputable def VA(D:Den ctx)(a0:bE)(a1:Int):Option ki:=D 107 (a0,(a1,()))
noncomputable def q1h(D:Den ctx)(a0:List aM)(a1:bf):Option aF:=D 108 (a0,(a1,()))
noncomputable def qd3(D:Den ctx)(a0:List bE)(a1:bf):Option ah:=D 109 (a0,(a1,()))
noncomputable def OF(D:Den ctx)(a0:bE):Option ah:=D 110 (a0,())
noncomputable def Zc(D:Den ctx)(a0:bE):Option ah:=D 111 (a0,())
noncomputable def Ze(D:Den ctx)(a0:ak)(a1:Int):Option ah:=D 112 (a0,(a1,()))
noncomputable def qiq(D:Den ctx)(a0:List ak)(a1:bf):Option aF:=D 113 (a0,(a1,()))
noncomputable def U8(D:Den ctx)(a0:List Int)(a1:Int):Option ah:=D 114 (a0,(a1,()))
noncomputable def yl(D:Den ctx)(a0:Int):Option aF:=D 115 (a0,())
noncomputable def Tz(D:Den ctx)(a0:Int):Option ah:=D 118 (a0,())
noncomputable def VC(D:Den ctx)(a0:Int):Option ah:=D 119 (a0,())
noncomputable def qfn(D:Den ctx)(a0:List ak)(a1:bf):Option ah:=D 120 (a0,(a1,()))
noncomputable def q54(D:Den ctx)(a0:ak):Option ah:=D 121 (a0,())
noncomputable def US(D:Den ctx)(a0:List bB)(a1:bf):Option ah:=D 122 (a0,(a1,()))
noncomputable def q55(D:Den ctx)(a0:bB):Option ah:=D 123 (a0,())
noncomputable def VD(D:Den ctx)(a0:Int):Option ah:=D 124 (a0,())
noncomputable def JO(D:Den ctx)(a0:Int):Option ah:=D 125 (a0,())
noncomputable def UR(D:Den ctx)(a0:List cA)(a1:bf):Option ah:=D 126 (a0,(a1,()))
noncomputable def q56(D:Den ctx)(a0:cA)(a1:Int):Option ah:=D 127 (a0,(a1,()))
noncomputable def VS(D:Den ctx)(a0:Int):Option ah:=D 132 (a0,())
noncomputable def BU(D:Den ctx)(a0:Int):Option ah:=D 133 (a0,())
noncomputable def ZX(D:Den ctx)(a0:Int):Option aF:=D 134 (a0,())
noncomputable def X_(D:Den ctx)(a0:Int):Option aF:=D 135 (a0,())
noncomputable def ZY(D:Den ctx)(a0:Int):Option aF:=D 136 (a0,())
noncomputable def X9(D:Den ctx)(a0:aC)(a1:Int):Option aF:=D 137 (a0,(a1,()))
noncomputable def X8(D:Den ctx)(a0:Int):Option aF:=D 138 (a0,())
noncomputable def VE(D:Den ctx):Option aF:=D 139 ()
noncomputable def Zh(D:Den ctx)(a0:bE):Option ah:=D 140 (a0,())
noncomputable def OV(D:Den ctx)(a0:ak)(a1:Int):Option ah:=D 141 (a0,(a1,()))
noncomputable def agG(D:Den ctx)(a0:bE)(a1:Int):Option ki:=D 142 (a0,(a1,()))
noncomputable def C5(D:Den ctx)(a0:Int):Option ah:=D 143 (a0,())
noncomputable def ahH(D:Den ctx)(a0:aE)(a1:eF):Option ah:=D 144 (a0,(a1,()))
noncomputable def TB(D:Den ctx)(a0:Bool):Option aF:=D 145 (a0,())
noncomputable def UF(D:Den ctx)(a0:ak):Option ah:=D 146 (a0,())
noncomputable def Zl(D:Den ctx)(a0:aE)(a1:Int):Option aF:=D 147 (a0,(a1,()))
noncomputable def qgi(D:Den ctx)(a0:List ak):Option mM:=D 148 (a0,())
noncomputable def UZ(D:Den ctx)(a0:List ak):Option mM:=D 149 (a0,())
noncomputable def qgh(D:Den ctx)(a0:List bB):Option ((List bB×Unit)×Unit):=D 150 (a0,())
noncomputable def qgg(D:Den ctx)(a0:List cA):Option ((List cA×Unit)×Unit):=D 151 (a0,())
noncomputable def Gc(D:Den ctx)(a0:aM):Option ((cA×iW)×Unit):=D 152 (a0,())
noncomputable def Zb(D:Den ctx)(a0:aW)(a1:cA):Option tq6:=D 153 (a0,(a1,()))
noncomputable def JX(D:Den ctx)(a0:aM)(a1:cA):Option jj:=D 154 (a0,(a1,()))
noncomputable def TF(D:Den ctx)(a0:aM)(a1:cA):Option jj:=D 155 (a0,(a1,()))
noncomputable def Gb(D:Den ctx)(a0:aM):Option jj:=D 156 (a0,())
noncomputable def SU(D:Den ctx)(a0:aE)(a1:Int)(a2:f9):Option wk:=D 157 (a0,(a1,(a2,())))
noncomputable def SR(D:Den ctx)(a0:aE)(a1:Int)(a2:f9):Option wk:=D 158 (a0,(a1,(a2,())))
noncomputable def FW(D:Den ctx)(a0:ak)(a1:List bB):Option aF:=D 159 (a0,(a1,()))
noncomputable def VG(D:Den ctx)(a0:ak)(a1:List bB):Option nB:=D 160 (a0,(a1,()))
noncomputable def VO(D:Den ctx)(a0:aW)(a1:Int)(a2:List ak)(a3:f9):Option tq8:=D 161 (a0,(a1,(a2,(a3,()))))
noncomputable def qin(D:Den ctx)(a0:List bE)(a1:bf):Option aF:=D 162 (a0,(a1,()))
noncomputable def qj8(D:Den ctx)(a0:List ak)(a1:bf):Option aF:=D 163 (a0,(a1,()))
noncomputable def qip(D:Den ctx)(a0:List bB)(a1:bf):Option aF:=D 164 (a0,(a1,()))
noncomputable def qio(D:Den ctx)(a0:List cA)(a1:bf):Option aF:=D 165 (a0,(a1,()))
noncomputable def VR(D:Den ctx)(a0:Int):Option ah:=D 166 (a0,())
noncomputable def X7(D:Den ctx)(a0:Int):Option aF:=D 167 (a0,())
noncomputable def UL(D:Den ctx)(a0:aW)(a1:cA):Option tq7:=D 168 (a0,(a1,()))
noncomputable def U9(D:Den ctx)(a0:aE)(a1:Int):Option tR:=D 169 (a0,(a1,()))
noncomputable def VP(D:Den ctx)(a0:ak)(a1:List bB):Option lY:=D 170 (a0,(a1,()))
noncomputable def Zf(D:Den ctx)(a0:ak)(a1:List bB):Option ((f9×iW)×Unit):=D 171 (a0,(a1,()))
noncomputable def uR(D:Den ctx)(a0:List bB)(a1:Int):Option gN:=D 172 (a0,(a1,()))
noncomputable def ym(D:Den ctx)(a0:Int):Option aF:=D 173 (a0,())
noncomputable def VB(D:Den ctx)(a0:ak)(a1:List bB)(a2 a3:Int):Option mM:=D 174 (a0,(a1,(a2,(a3,()))))
noncomputable def Va(D:Den ctx)(a0:List Int):Option cP:=D 175 (a0,())
noncomputable def Zg(D:Den ctx)(a0:ak)(a1 a2 a3 a4:Int):Option aF:=D 176 (a0,(a1,(a2,(a3,(a4,())))))
noncomputable def Ot(D:Den ctx)(a0:ak)(a1:Int):Option ah:=D 177 (a0,(a1,()))
noncomputable def SL(D:Den ctx)(a0:cT)(a1:ak):Option jv:=D 178 (a0,(a1,()))
noncomputable def qy(D:Den ctx)(a0:cT)(a1:Int):Option ((Int×Unit)×yQ):=D 179 (a0,(a1,()))
noncomputable def tD(D:Den ctx)(a0:cT)(a1:Bool):Option jv:=D 180 (a0,(a1,()))
noncomputable def vL(D:Den ctx)(a0 a1 a2:Int)(a3:List bB)(a4:List ak):Option cz:=D 181 (a0,(a1,(a2,(a3,(a4,())))))
noncomputable def UY(D:Den ctx)(a0:List ak)(a1:bf):Option cz:=D 182 (a0,(a1,()))
noncomputable def q7v(D:Den ctx)(a0 a1:ak):Option aF:=D 183 (a0,(a1,()))
noncomputable def qz(D:Den ctx)(a0:List Int)(a1 a2 a3:Int):Option cP:=D 184 (a0,(a1,(a2,(a3,()))))
noncomputable def Vx(D:Den ctx)(a0:Int):Option aF:=D 185 (a0,())
noncomputable def Ir(D:Den ctx)(a0:cT)(a1:Int)(a2:List Int):Option jv:=D 186 (a0,(a1,(a2,())))
noncomputable def qo(D:Den ctx)(a0:List ak)(a1 a2 a3:Int)(a4:bf):Option cz:=D 187 (a0,(a1,(a2,(a3,(a4,())))))
noncomputable def qkn(D:Den ctx)(a0:List Int)(a1 a2:Int):Option cP:=D 188 (a0,(a1,(a2,())))
noncomputable def q0o(D:Den ctx)(a0:List Int)(a1 a2:Int):Option cP:=D 189 (a0,(a1,(a2,())))
noncomputable def qva(D:Den ctx)(a0:List Int)(a1 a2:Int):Option cP:=D 190 (a0,(a1,(a2,())))
noncomputable def qll(D:Den ctx)(a0:List Int)(a1 a2:Int):Option (bB×Unit):=D 191 (a0,(a1,(a2,())))
noncomputable def qk7(D:Den ctx)(a0:List Int)(a1 a2:Int):Option cP:=D 192 (a0,(a1,(a2,())))
noncomputable def UU(D:Den ctx)(a0:List Int)(a1 a2:Int):Option (iW×List Int×Unit):=D 193 (a0,(a1,(a2,())))
noncomputable def yj(D:Den ctx)(a0 a1:Int):Option ah:=D 194 (a0,(a1,()))
noncomputable def CZ(D:Den ctx)(a0:List Int)(a1 a2 a3:Int):Option ((Int×Unit)×List Int×Unit):=D 195 (a0,(a1,(a2,(a3,()))))
noncomputable def C0(D:Den ctx)(a0:List Int)(a1 a2 a3:Int):Option ((Int×iW)×List Int×Unit):=D 196 (a0,(a1,(a2,(a3,()))))
noncomputable def q57(D:Den ctx)(a0:Int):Option aF:=D 198 (a0,())
noncomputable def qhy(D:Den ctx)(a0:List ak)(a1 a2:Int)(a3:bf):Option cz:=D 199 (a0,(a1,(a2,(a3,()))))
noncomputable def qtb(D:Den ctx)(a0:List ak)(a1 a2:Int)(a3:bf):Option cz:=D 200 (a0,(a1,(a2,(a3,()))))
noncomputable def qoo(D:Den ctx)(a0:List ak)(a1 a2:Int)(a3:bf):Option cz:=D 201 (a0,(a1,(a2,(a3,()))))
noncomputable def qir(D:Den ctx)(a0:List ak)(a1 a2:Int)(a3:bf):Option (bB×Unit):=D 202 (a0,(a1,(a2,(a3,()))))
noncomputable def qig(D:Den ctx)(a0:List ak)(a1 a2:Int)(a3:bf):Option cz:=D 203 (a0,(a1,(a2,(a3,()))))
noncomputable def UW(D:Den ctx)(a0:List ak)(a1 a2:Int)(a3:bf):Option (iW×vv):=D 204 (a0,(a1,(a2,(a3,()))))
noncomputable def CX(D:Den ctx)(a0:List ak)(a1 a2 a3:Int)(a4:bf):Option ((Int×Unit)×vv):=D 205 (a0,(a1,(a2,(a3,(a4,())))))
noncomputable def CY(D:Den ctx)(a0:List ak)(a1 a2 a3:Int)(a4:bf):Option ((Int×iW)×vv):=D 206 (a0,(a1,(a2,(a3,(a4,())))))
noncomputable def qxh(D:Den ctx)(a0:Int):Option ah:=D 212 (a0,())
set_option maxRecDepth 100000
set_option maxHeartbeats 0
noncomputable section
def qki(D:DX)(n:Nat)(go:Int->aE->List Int->aC->Option ah)(K0:Bool->aE->aC->Option ah)(K1:aE->aC->Option ah)(x0:Int)(x1:aE)(x2:List Int)(x3:aC):Option ah:=br (decide (x0<=6)) (qd (qsa D x2 x0) fun p1=>qd (qt2 D x2 x0) fun p0=>br (bif !decide (p1.1.2.1=bif p0.1.2.1 then decide (x3.2.1=5) else false) then true else bif p1.1.2.1 then p1.1.1 != p0.1.1 else false) (K0 false x1 x3) (qd (qxm D (x3.1,x3.2) x0) fun p3=>br (!decide (p0.1.2.1=decide (p3.1.1>=0))) (K0 false x1 x3) (br (bif p0.1.2.1 then decide (p0.1.1<wrap .i64 (x3.2.1-1)) else false) (qd (sI D x0) fun p2=>br (decide (0<=p2.1.1)&&decide (p2.1.1<(x2.length:Int))) (br (List.getD x2 p2.1.1.toNat 0 != wrap .i64 (p0.1.1+1)) (K0 false x1 x3) (go (wrap .i64 (x0+1)) x1 x2 x3)) none) (go (wrap .i64 (x0+1)) x1 x2 x3)))) (K1 x1 x3)
def Sl(D:DX)(n:Nat)(K0:Bool->aE->aC->Option ah)(K1:aE->aC->Option ah):Nat->Int->aE->(List Int)->aC->Option ah | 0=>(fun x0 x1 x2 x3=>none) | m+1=>(fun x0 x1 x2 x3=>qki D n (Sl D n K0 K1 m) K0 K1 x0 x1 x2 x3)
def qr9(D:DX)(n:Nat)(a:Bool)(b:aE)(c:aC):Option ah:=some ((a,()),())
def qkj(D:DX)(n:Nat)(go:Int->aE->aC->Option ah)(K0:Bool->Option ah)(K1:Option ah)(a:Int)(b:aE)(c:aC):Option ah:=let y0:=List.getD b.2.2.2.1 a.toNat (0,(0,0,0,()),0,0,0,(0,[],()),());br (decide (a<(b.2.2.2.1.length:Int))) (br (decide (0<=a)&&decide (a<(b.2.2.2.1.length:Int))) (br (decide (y0.2.1.1=10)) (br (decide (0<=a)&&decide (a<(b.2.2.2.1.length:Int))) (br (bif decide (y0.2.2.2.2.2.1.1=0) then c.2.1 != 5 else false) (K0 false) (go (wrap .i64 (a+1)) b c)) none) (go (wrap .i64 (a+1)) b c)) none) K1
def SH(D:DX)(n:Nat)(K0:Bool->Option ah)(K1:Option ah):Nat->Int->aE->aC->Option ah | 0=>(fun a b c=>none) | m+1=>(fun a b c=>qkj D n (SH D n K0 K1 m) K0 K1 a b c)
def qxw(D:DX)(n:Nat)(a:Bool):Option ah:=some ((a,()),())
def qyf(D:DX)(n:Nat):Option ah:=some ((true,()),())
def qfx(D:DX)(n:Nat):(Int)->aE->aC->Option ah:=(fun a b d=>SH D n (fun c=>qxw D n c) (qyf D n) n a b d)
def qdv(D:DX)(n:Nat)(mH:Int->aE->aC->Option ah)(a:aE)(b:aC):Option ah:=mH 0 a b
def qdw(D:DX)(n:Nat):(Int)->aE->(List Int)->aC->Option ah:=(fun x0 x1 x2 x3=>Sl D n (fun a b c=>qr9 D n a b c) (fun d e=>qdv D n (qfx D n) d e) n x0 x1 x2 x3)
def qnq(D:DX)(n:Nat)(cC:Int->aE->List Int->aC->Option ah)(a0:List Int):Option ah:=qd (Gd D a0) fun p5=>br p5.1.1 (some ((true,()),())) (qd (qqb D a0) fun p0=>qd (qtv D p0.1.1 p0.1.2.1) fun p1=>qd (qtw D p0.1.1 p0.1.2.1) fun p6=>br (bif !decide (p1.1.2.1=p6.1.2.1) then true else !p1.1.2.1) (some ((false,()),())) (qd (FX D p1.1.1 p0.1.2.2.1) fun p7=>qd (Ik D p7.1.1 2000) fun p2=>qd (X3 D p2.1.1.1.1 p2.1.1.1.2.1) fun p3=>qd (xB D p3.1.1) fun p4=>cC 1 p2.1.1 p3.1.1 (p4.1.1.1,p4.1.1.2)))
def ql8(D:DX)(n:Nat)(a0:List Int):Option ah:=qnq D n (qdw D n) a0
def qfy(x0:Int)(x1:aE)(x2:List Int)(x3:aC):St:=bu 147 [(10,AV.addr 10 []),(11,AV.b7 11 [] 0),(12,AV.addr 12 []),(13,AV.val ag x0)] [(10,aB.mk cU Mk.no x1 true),(11,aB.mk bG eZ x2 false),(12,aB.mk bZ iA x3 true)]
def qde(a:Bool)(b:aE)(c:aC):St:=bu 147 [(2,AV.val Ty.bool a),(10,AV.addr 10 []),(12,AV.addr 12 [])] [(10,aB.mk cU Mk.no b true),(12,aB.mk bZ iA c true)]
def qdf(a:aE)(b:aC):St:=bu 147 [(10,AV.addr 10 []),(12,AV.addr 12 [])] [(10,aB.mk cU Mk.no a true),(12,aB.mk bZ iA b true)]
def qjs(a:Int)(b:aE)(c:aC):St:=bu 147 [(10,AV.addr 10 []),(12,AV.addr 12 []),(18,AV.val ag a)] [(10,aB.mk cU Mk.no b true),(12,aB.mk bZ iA c true)]
def qqo(a:Bool):St:=bu 147 [(2,AV.val Ty.bool a)] []
def qr8:St:=bu 147 [] []
theorem qyg(D:DX)(n:Nat)(K:KT 8):∀(m:Nat)(x0:Int)(x1:aE)(x2:List Int)(x3:aC),LF D n 8 En m (qfy x0 x1 x2 x3) K=Sl D n (fun a b c=>K (Ex.ret) (qde a b c)) (fun d e=>K (Ex.exit 0) (qdf d e)) m x0 x1 x2 x3:=y_ (fun F=>qki D n F (fun a b c=>K (Ex.ret) (qde a b c)) (fun d e=>K (Ex.exit 0) (qdf d e)))
theorem qyh(D:DX)(n:Nat)(K:KT 8):∀(m:Nat)(b:Int)(c:aE)(d:aC),LF D n 8 xy m (qjs b c d) K=SH D n (fun a=>K (Ex.ret) (qqo a)) (K (Ex.exit 2) (qr8)) m b c d:=oP (fun F=>qkj D n F (fun a=>K (Ex.ret) (qqo a)) (K (Ex.exit 2) (qr8)))
theorem qwa(D:DX)(n:Nat)(a:Int)(b:aE)(c:aC):LF D n 8 xy n (qjs a b c) (CF D n 8 [] xy (lF 8))=qfx D n a b c :=by rw[qyh];kernel_rfl
theorem qxi(D:DX)(n:Nat)(a:Bool)(b:aE)(c:aC):(CF D n 8 [] En (lF 8)) (Ex.ret) (qde a b c)=qr9 D n a b c:=by kernel_rfl
theorem qxl(D:DX)(n:Nat)(a:aE)(b:aC):(CF D n 8 [] En (lF 8)) (Ex.exit 0) (qdf a b)=qdv D n (fun c d e=>LF D n 8 xy n (qjs c d e) (CF D n 8 [] xy (lF 8))) a b:=by kernel_rfl
theorem qvm(D:DX)(n:Nat)(x0)(x1)(x2)(x3):LF D n 8 En n (qfy x0 x1 x2 x3) (CF D n 8 [] En (lF 8))=qdw D n x0 x1 x2 x3:=by rw[qyg];simp only[qxi,qxl,qwa];rfl
theorem qyj(D:DX)(n:Nat)(a0:List Int):rF D n 8 (a0,())=ql8 D n a0:=by
 have h:rF D n 8 (a0,())=qnq D n (fun x0 x1 x2 x3=>LF D n 8 En n (qfy x0 x1 x2 x3) (CF D n 8 [] En (lF 8))) a0:=by kernel_rfl
 rw[h];simp only[qvm];rfl
def abe(D:DX)(n:Nat)(a0:List Int):Option ah:=some ((decide ((a0.length:Int)>1048576),()),())
def P1(D:DX)(n:Nat)(a0:List Int):Option ah:=abe D n a0
theorem aa1(D:DX)(n:Nat)(a0:List Int):rF D n 12 (a0,())=P1 D n a0:=by kernel_rfl
def qpa(D:DX)(n:Nat)(go:Int->Int->Int->Int->aC->aC->List (List ak)->List Int->bq->Option gK)(K0:Int->Int->aC->aC->List (List ak)->List Int->bq->Option gK)(c d e f:Int)(g h:aC)(i:List (List ak))(a:List Int)(j:bq):Option gK:=qd (rT D j 6) fun b=>br (decide (f<wrap .i64 (1+b.1.1))) (br (decide (a.length+1<=f_)) (go c d e (wrap .i64 (f+1)) g h i (a++[e]) b.2.1) none) (K0 c d g h i a b.2.1)
def SK(D:DX)(n:Nat)(K0:Int->Int->aC->aC->List (List ak)->List Int->bq->Option gK):Nat->Int->Int->Int->Int->aC->aC->(List (List ak))->(List Int)->bq->Option gK | 0=>(fun a b c d e f g h i=>none) | m+1=>(fun a b c d e f g h i=>qpa D n (SK D n K0 m) K0 a b c d e f g h i)
def qm1(D:DX)(n:Nat)(go:Int->Int->aC->aC->List (List ak)->List Int->bq->Option gK)(K0:aC->aC->List (List ak)->List Int->Option gK)(a b:Int)(c d:aC)(e:List (List ak))(f:List Int)(g:bq):Option gK:=go a (wrap .i64 (b+1)) c d e f g
def qn4(D:DX)(n:Nat)(go:Int->Int->aC->aC->List (List ak)->List Int->bq->Option gK)(K0:aC->aC->List (List ak)->List Int->Option gK):(Int)->(Int)->(Int)->(Int)->aC->aC->(List (List ak))->(List Int)->bq->Option gK:=(fun a i j k l m o p q=>SK D n (fun b c d e f g h=>qm1 D n go K0 b c d e f g h) n a i j k l m o p q)
def qo9(D:DX)(n:Nat)(go:Int->Int->aC->aC->List (List ak)->List Int->bq->Option gK)(K0:aC->aC->List (List ak)->List Int->Option gK)(mH:Int->Int->Int->Int->aC->aC->List (List ak)->List Int->bq->Option gK)(x0 x1:Int)(x2 x3:aC)(x4:List (List ak))(x5:List Int)(x6:bq):Option gK:=br (decide (x1<x0)) (qd (rT D x6 (x4.length:Int)) fun b=>mH x0 x1 b.1.1 0 x2 x3 x4 x5 b.2.1) (K0 x2 x3 x4 x5)
def C1(D:DX)(n:Nat)(K0:aC->aC->List (List ak)->List Int->Option gK):Nat->Int->Int->aC->aC->(List (List ak))->(List Int)->bq->Option gK | 0=>(fun x0 x1 x2 x3 x4 x5 x6=>none) | m+1=>(fun x0 x1 x2 x3 x4 x5 x6=>qo9 D n (C1 D n K0 m) K0 (qn4 D n (C1 D n K0 m) K0) x0 x1 x2 x3 x4 x5 x6)
def qvj(D:DX)(n:Nat)(d a:aC)(b:List (List ak))(c:List Int):Option gK:=some (((a.1,a.2),b,c,()),())
def qn3(D:DX)(n:Nat):(Int)->(Int)->aC->aC->(List (List ak))->(List Int)->bq->Option gK:=(fun x0 x1 x2 x3 x4 x5 x6=>C1 D n (fun a b c d=>qvj D n a b c d) n x0 x1 x2 x3 x4 x5 x6)
def qqy(D:DX)(n:Nat)(cC:Int->Int->aC->aC->List (List ak)->List Int->bq->Option gK)(a0:List Int):Option gK:=qd (ZZ D a0) fun b=>qd (qrr D b.1.1) fun b=>qd (qvw D b.2.1) fun b_1=>qd (Zj D a0 60 120) fun b_2=>qd (rT D b_1.2.1 b_2.1.1) fun T7=>cC T7.1.1 0 ([],0,()) (b.1.1.1,b.1.1.2) b_1.1.1 [] T7.2.1
def qqh(D:DX)(n:Nat)(a0:List Int):Option gK:=qqy D n (qn3 D n) a0
def Iq(x0 x1:Int)(x2 x3:aC)(x4:List (List ak))(x5:List Int)(x6:bq):St:=bu 47 [(2,AV.addr 2 []),(5,AV.addr 14 []),(6,AV.addr 6 []),(7,AV.b7 7 [] 0),(8,AV.b7 8 [] 0),(9,AV.val ag x0),(10,AV.val ag x1)] [(2,aB.mk bZ iA x2 true),(6,aB.mk bZ iA x3 true),(7,aB.mk jS qH x4 false),(8,aB.mk bG eZ x5 false),(14,aB.mk jl Mk.no x6 true)]
def Vd(a b:aC)(c:List (List ak))(d:List Int):St:=bu 47 [(2,AV.addr 2 []),(6,AV.addr 6 []),(7,AV.b7 7 [] 0),(8,AV.b7 8 [] 0)] [(2,aB.mk bZ iA a true),(6,aB.mk bZ iA b true),(7,aB.mk jS qH c false),(8,aB.mk bG eZ d false)]
def qo8(a b c d:Int)(e f:aC)(g:List (List ak))(h:List Int)(i:bq):St:=bu 47 [(2,AV.addr 2 []),(5,AV.addr 14 []),(6,AV.addr 6 []),(7,AV.b7 7 [] 0),(8,AV.b7 8 [] 0),(9,AV.val ag a),(10,AV.val ag b),(11,AV.val ag c),(12,AV.val ag d)] [(2,aB.mk bZ iA e true),(6,aB.mk bZ iA f true),(7,aB.mk jS qH g false),(8,aB.mk bG eZ h false),(14,aB.mk jl Mk.no i true)]
def qvi(a b:Int)(c d:aC)(e:List (List ak))(f:List Int)(g:bq):St:=bu 47 [(2,AV.addr 2 []),(5,AV.addr 14 []),(6,AV.addr 6 []),(7,AV.b7 7 [] 0),(8,AV.b7 8 [] 0),(9,AV.val ag a),(10,AV.val ag b)] [(2,aB.mk bZ iA c true),(6,aB.mk bZ iA d true),(7,aB.mk jS qH e false),(8,aB.mk bG eZ f false),(14,aB.mk jl Mk.no g true)]
theorem adI(D:DX)(n:Nat)(K:KT 13):∀(m:Nat)(h i j k:Int)(l o:aC)(p:List (List ak))(q:List Int)(r:bq),LF D n 13 Ek m (qo8 h i j k l o p q r) K=SK D n (fun a b c d e f g=>K (Ex.exit 2) (qvi a b c d e f g)) m h i j k l o p q r:=T8 (fun F=>qpa D n F (fun a b c d e f g=>K (Ex.exit 2) (qvi a b c d e f g)))
theorem adt(D:DX)(n:Nat)(m:Nat)(K:KT 13)(a b c d:Int)(e f:aC)(g:List (List ak))(h:List Int)(i:bq):LF D n 13 Ek n (qo8 a b c d e f g h i) (CF D n 13 [.r,.r,.r,.r,.r,.r,.l,.r,.l,.l] [.r,.l,.l,.r,.r,.l] (KF D n 13 xz m K))=qn4 D n (fun x0 x1 x2 x3 x4 x5 x6=>LF D n 13 xz m (Iq x0 x1 x2 x3 x4 x5 x6) K) (fun j k o p=>K (Ex.exit 0) (Vd j k o p)) a b c d e f g h i :=by rw[adI];kernel_rfl
theorem adJ(D:DX)(n:Nat)(m:Nat)(K:KT 13)(x0)(x1)(x2)(x3)(x4:List (List ak))(x5)(x6):LF D n 13 xz (m+1) (Iq x0 x1 x2 x3 x4 x5 x6) K=qo9 D n (fun x0 x1 x2 x3 x4 x5 x6=>LF D n 13 xz m (Iq x0 x1 x2 x3 x4 x5 x6) K) (fun a b c d=>K (Ex.exit 0) (Vd a b c d)) (fun e f g h i j k o p=>LF D n 13 Ek n (qo8 e f g h i j k o p) (CF D n 13 [.r,.r,.r,.r,.r,.r,.l,.r,.l,.l] [.r,.l,.l,.r,.r,.l] (KF D n 13 xz m K))) x0 x1 x2 x3 x4 x5 x6:=by kernel_rfl
theorem qxe(D:DX)(n:Nat)(K:KT 13):∀(m:Nat)(x0 x1:Int)(x2 x3:aC)(x4:List (List ak))(x5:List Int)(x6:bq),LF D n 13 xz m (Iq x0 x1 x2 x3 x4 x5 x6) K=C1 D n (fun a b c d=>K (Ex.exit 0) (Vd a b c d)) m x0 x1 x2 x3 x4 x5 x6
 | 0,x0,x1,x2,x3,x4,x5,x6=>uU ..
 | m+1,x0,x1,x2,x3,x4,x5,x6=>by
  have ih:(fun x0 x1 x2 x3 x4 x5 x6=>LF D n 13 xz m (Iq x0 x1 x2 x3 x4 x5 x6) K)=C1 D n (fun a b c d=>K (Ex.exit 0) (Vd a b c d)) m:=by funext x0 x1 x2 x3 x4 x5 x6;exact qxe D n K m x0 x1 x2 x3 x4 x5 x6
  rw[adJ];simp only[adt];rw[ih];rfl
theorem ads(D:DX)(n:Nat)(x0)(x1)(x2)(x3)(x4:List (List ak))(x5)(x6):LF D n 13 xz n (Iq x0 x1 x2 x3 x4 x5 x6) (CF D n 13 [] xz (lF 13))=qn3 D n x0 x1 x2 x3 x4 x5 x6 :=by rw[qxe];kernel_rfl
theorem ad4(D:DX)(n:Nat)(a0:List Int):rF D n 13 (a0,())=qqh D n a0:=by
 have h:rF D n 13 (a0,())=qqy D n (fun x0 x1 x2 x3 x4 x5 x6=>LF D n 13 xz n (Iq x0 x1 x2 x3 x4 x5 x6) (CF D n 13 [] xz (lF 13))) a0:=by kernel_rfl
 rw[h];simp only[ads];rfl
def qsc(D:DX)(n:Nat)(go:Bool->List (List ak)->Int->Int->aE->aE->Option mB)(K0:Bool->aE->aE->Option mB)(x0:Bool)(x1:List (List ak))(x2 x3:Int)(x4 x5:aE):Option mB:=br (decide (x3<x2)) (br (decide (0<=x3)&&decide (x3<(x1.length:Int))) (qd (q7u D (List.getD x1 x3.toNat [])) fun p0=>br (decide (x5.2.1.length+1<=f_)) (go x0 x1 x2 (wrap .i64 (x3+1)) x4 (x5.1,x5.2.1++[(p0.1.1.1,p0.1.1.2.1,p0.1.1.2.2.1,p0.1.1.2.2.2.1,p0.1.1.2.2.2.2.1,())],x5.2.2)) none) none) (K0 x0 x4 x5)
def SV(D:DX)(n:Nat)(K0:Bool->aE->aE->Option mB):Nat->Bool->(List (List ak))->Int->Int->aE->aE->Option mB | 0=>(fun x0 x1 x2 x3 x4 x5=>none) | m+1=>(fun x0 x1 x2 x3 x4 x5=>qsc D n (SV D n K0 m) K0 x0 x1 x2 x3 x4 x5)
def qyl(D:DX)(n:Nat)(b:Bool)(c a:aE):Option mB:=br (!b) (some (((([],[],()),[],0,[],[],([],0,()),()),false,()),())) (qd (C2 D ((a.1.1,a.1.2.1,()),a.2.1,a.2.2.1,a.2.2.2.1,a.2.2.2.2.1,(a.2.2.2.2.2.1.1,a.2.2.2.2.2.1.2),())) fun p0=>br (!p0.1.1) (some (((([],[],()),[],0,[],[],([],0,()),()),false,()),())) (some ((((a.1.1,a.1.2.1,()),a.2.1,a.2.2.1,a.2.2.2.1,a.2.2.2.2.1,(a.2.2.2.2.2.1.1,a.2.2.2.2.2.1.2),()),true,()),())))
def qqp(D:DX)(n:Nat):(Bool)->(List (List ak))->(Int)->(Int)->aE->aE->Option mB:=(fun x0 x1 x2 x3 x4 x5=>SV D n (fun a b c=>qyl D n a b c) n x0 x1 x2 x3 x4 x5)
def qui(D:DX)(n:Nat)(cC:Bool->List (List ak)->Int->Int->aE->aE->Option mB)(a0:aC)(a1:List (List ak)):Option mB:=qd (Zd D a0 (a1.length:Int)) fun b=>qd (U_ D a0) fun b_1=>cC b.1.2.1 a1 (a1.length:Int) 0 (([],[],()),[],0,[],[],([],0,()),()) ((b.1.1.1,b.1.1.2.1,()),[],0,[],[],(b_1.1.1.1,b_1.1.1.2),())
def qt4(D:DX)(n:Nat)(a0:aC)(a1:List (List ak)):Option mB:=qui D n (qqp D n) a0 a1
def qsb(x0:Bool)(x1:List (List ak))(x2 x3:Int)(x4 x5:aE):St:=bu 45 [(4,AV.addr 4 []),(7,AV.val Ty.bool x0),(8,AV.addr 8 []),(22,AV.val jS x1),(23,AV.val ag x2),(24,AV.val ag x3)] [(4,aB.mk cU rR x4 true),(8,aB.mk cU Jb x5 true)]
def qyk(a:Bool)(b c:aE):St:=bu 45 [(4,AV.addr 4 []),(7,AV.val Ty.bool a),(8,AV.addr 8 [])] [(4,aB.mk cU rR b true),(8,aB.mk cU Jb c true)]
theorem ad7(D:DX)(n:Nat)(K:KT 14):∀(m:Nat)(x0:Bool)(x1:List (List ak))(x2 x3:Int)(x4 x5:aE),LF D n 14 eL m (qsb x0 x1 x2 x3 x4 x5) K=SV D n (fun a b c=>K (Ex.exit 0) (qyk a b c)) m x0 x1 x2 x3 x4 x5:=IW (fun F=>qsc D n F (fun a b c=>K (Ex.exit 0) (qyk a b c)))
theorem adN(D:DX)(n:Nat)(x0)(x1:List (List ak))(x2)(x3)(x4)(x5):LF D n 14 eL n (qsb x0 x1 x2 x3 x4 x5) (CF D n 14 [] eL (lF 14))=qqp D n x0 x1 x2 x3 x4 x5 :=by rw[ad7];kernel_rfl
theorem aeK(D:DX)(n:Nat)(a0:aC)(a1:List (List ak)):rF D n 14 (a0,(a1,()))=qt4 D n a0 a1:=by
 have h:rF D n 14 (a0,(a1,()))=qui D n (fun x0 x1 x2 x3 x4 x5=>LF D n 14 eL n (qsb x0 x1 x2 x3 x4 x5) (CF D n 14 [] eL (lF 14))) a0 a1:=by kernel_rfl
 rw[h];simp only[adN];rfl
def qsu(D:DX)(n:Nat)(go:List (List ak)->Bool->Int->aE->aE->Option mB)(K0:Bool->aE->aE->Option mB)(x0:List (List ak))(x1:Bool)(x2:Int)(x3 x4:aE):Option mB:=br (decide (x2<(x0.length:Int))) (br (decide (0<=x2)&&decide (x2<(x0.length:Int))) (qd (q7x D (List.getD x0 x2.toNat [])) fun p0=>br (decide (x4.2.1.length+1<=f_)) (go x0 x1 (wrap .i64 (x2+1)) x3 (x4.1,x4.2.1++[(p0.1.1.1,p0.1.1.2.1,p0.1.1.2.2.1,p0.1.1.2.2.2.1,p0.1.1.2.2.2.2.1,())],x4.2.2)) none) none) (K0 x1 x3 x4)
def SW(D:DX)(n:Nat)(K0:Bool->aE->aE->Option mB):Nat->(List (List ak))->Bool->Int->aE->aE->Option mB | 0=>(fun x0 x1 x2 x3 x4=>none) | m+1=>(fun x0 x1 x2 x3 x4=>qsu D n (SW D n K0 m) K0 x0 x1 x2 x3 x4)
def qzj(D:DX)(n:Nat)(b:Bool)(c a:aE):Option mB:=br (!b) (some (((([],[],()),[],0,[],[],([],0,()),()),false,()),())) (qd (qvv D ((a.1.1,a.1.2.1,()),a.2.1,a.2.2.1,a.2.2.2.1,a.2.2.2.2.1,(a.2.2.2.2.2.1.1,a.2.2.2.2.2.1.2),())) fun p0=>br (!p0.1.1) (some (((([],[],()),[],0,[],[],([],0,()),()),false,()),())) (some ((((a.1.1,a.1.2.1,()),a.2.1,a.2.2.1,a.2.2.2.1,a.2.2.2.2.1,(a.2.2.2.2.2.1.1,a.2.2.2.2.2.1.2),()),true,()),())))
def qqz(D:DX)(n:Nat):(List (List ak))->(Bool)->(Int)->aE->aE->Option mB:=(fun x0 x1 x2 x3 x4=>SW D n (fun a b c=>qzj D n a b c) n x0 x1 x2 x3 x4)
def quu(D:DX)(n:Nat)(cC:List (List ak)->Bool->Int->aE->aE->Option mB)(a0:aC)(a1:List (List ak)):Option mB:=qd (Zi D a0 (a1.length:Int)) fun b=>qd (Zk D a0) fun b_1=>cC a1 b.1.2.1 0 (([],[],()),[],0,[],[],([],0,()),()) ((b.1.1.1,b.1.1.2.1,()),[],0,[],[],(b_1.1.1.1,b_1.1.1.2),())
def qua(D:DX)(n:Nat)(a0:aC)(a1:List (List ak)):Option mB:=quu D n (qqz D n) a0 a1
def qst(x0:List (List ak))(x1:Bool)(x2:Int)(x3 x4:aE):St:=bu 46 [(1,AV.val jS x0),(4,AV.addr 4 []),(7,AV.val Ty.bool x1),(8,AV.addr 8 []),(9,AV.val ag x2)] [(4,aB.mk cU rR x3 true),(8,aB.mk cU rR x4 true)]
def qzi(a:Bool)(b c:aE):St:=bu 46 [(4,AV.addr 4 []),(7,AV.val Ty.bool a),(8,AV.addr 8 [])] [(4,aB.mk cU rR b true),(8,aB.mk cU rR c true)]
theorem adX(D:DX)(n:Nat)(K:KT 15):∀(m:Nat)(x0:List (List ak))(x1:Bool)(x2:Int)(x3 x4:aE),LF D n 15 eL m (qst x0 x1 x2 x3 x4) K=SW D n (fun a b c=>K (Ex.exit 0) (qzi a b c)) m x0 x1 x2 x3 x4:=pJ (fun F=>qsu D n F (fun a b c=>K (Ex.exit 0) (qzi a b c)))
theorem adL(D:DX)(n:Nat)(x0:List (List ak))(x1)(x2)(x3)(x4):LF D n 15 eL n (qst x0 x1 x2 x3 x4) (CF D n 15 [] eL (lF 15))=qqz D n x0 x1 x2 x3 x4 :=by rw[adX];kernel_rfl
theorem aeT(D:DX)(n:Nat)(a0:aC)(a1:List (List ak)):rF D n 15 (a0,(a1,()))=qua D n a0 a1:=by
 have h:rF D n 15 (a0,(a1,()))=quu D n (fun x0 x1 x2 x3 x4=>LF D n 15 eL n (qst x0 x1 x2 x3 x4) (CF D n 15 [] eL (lF 15))) a0 a1:=by kernel_rfl
 rw[h];simp only[adL];rfl
def Z1(D:DX)(n:Nat)(go:List Int->Int->Int->aE->aE->Option f7)(K0:aE->aE->Option f7)(x0:List Int)(x1 x2:Int)(x3 x4:aE):Option f7:=br (decide (x2<x1)) (br (decide (0<=x2)&&decide (x2<(x0.length:Int))) (qd (JY D x3 (List.getD x0 x2.toNat 0)) fun b=>go x0 x1 (wrap .i64 (x2+1)) b.1.1 x4) none) (K0 x3 x4)
def TC(D:DX)(n:Nat)(K0:aE->aE->Option f7):Nat->(List Int)->Int->Int->aE->aE->Option f7 | 0=>(fun x0 x1 x2 x3 x4=>none) | m+1=>(fun x0 x1 x2 x3 x4=>Z1 D n (TC D n K0 m) K0 x0 x1 x2 x3 x4)
def ahB(D:DX)(n:Nat)(a b:aE):Option f7:=some ((a,()),())
def ZB(D:DX)(n:Nat):(List Int)->(Int)->(Int)->aE->aE->Option f7:=(fun x0 x1 x2 x3 x4=>TC D n (fun a b=>ahB D n a b) n x0 x1 x2 x3 x4)
def F9(D:DX)(n:Nat)(cC:List Int->Int->Int->aE->aE->Option f7)(a0:aE)(a1:List Int):Option f7:=qd (JM D a0) fun p0=>br (decide ((a1.length:Int)>2000)) (some ((((p0.1.1.1.1,p0.1.1.1.2.1,()),p0.1.1.2.1,p0.1.1.2.2.1,p0.1.1.2.2.2.1,p0.1.1.2.2.2.2.1,p0.1.1.2.2.2.2.2),()),())) (cC a1 (a1.length:Int) 0 ((p0.1.1.1.1,p0.1.1.1.2.1,()),p0.1.1.2.1,p0.1.1.2.2.1,p0.1.1.2.2.2.1,p0.1.1.2.2.2.2.1,p0.1.1.2.2.2.2.2) (([],[],()),[],0,[],[],([],0,()),()))
def F4(D:DX)(n:Nat)(a0:aE)(a1:List Int):Option f7:=F9 D n (ZB D n) a0 a1
def Z0(x0:List Int)(x1 x2:Int)(x3 x4:aE):St:=bu 27 [(2,AV.addr 2 []),(4,AV.addr 4 []),(13,AV.val bG x0),(14,AV.val ag x1),(15,AV.val ag x2)] [(2,aB.mk cU Mk.no x3 true),(4,aB.mk cU rR x4 true)]
def Oz(a b:aE):St:=bu 27 [(2,AV.addr 2 []),(4,AV.addr 4 [])] [(2,aB.mk cU Mk.no a true),(4,aB.mk cU rR b true)]
theorem aio(D:DX)(n:Nat)(K:KT 16):∀(m:Nat)(x0:List Int)(x1 x2:Int)(x3 x4:aE),LF D n 16 eL m (Z0 x0 x1 x2 x3 x4) K=TC D n (fun a b=>K (Ex.exit 0) (Oz a b)) m x0 x1 x2 x3 x4:=pJ (fun F=>Z1 D n F (fun a b=>K (Ex.exit 0) (Oz a b)))
theorem ahA(D:DX)(n:Nat)(x0)(x1)(x2)(x3)(x4):LF D n 16 eL n (Z0 x0 x1 x2 x3 x4) (CF D n 16 [] eL (lF 16))=ZB D n x0 x1 x2 x3 x4 :=by rw[aio];kernel_rfl
theorem aab(D:DX)(n:Nat)(a0:aE)(a1:List Int):rF D n 16 (a0,(a1,()))=F4 D n a0 a1:=by
 have h:rF D n 16 (a0,(a1,()))=F9 D n (fun x0 x1 x2 x3 x4=>LF D n 16 eL n (Z0 x0 x1 x2 x3 x4) (CF D n 16 [] eL (lF 16))) a0 a1:=by kernel_rfl
 rw[h];simp only[ahA];rfl
def qun(D:DX)(n:Nat)(a0:aM):Option ah:=some ((decide (a0.2.1=(a0.1.length:Int)),()),())
def Vi(D:DX)(n:Nat)(a0:aM):Option ah:=qun D n a0
theorem aeM(D:DX)(n:Nat)(a0:aM):rF D n 17 (a0,())=Vi D n a0:=by kernel_rfl
def FL(D:DX)(n:Nat)(go:Int->Int->Bool->Int->Int->aE->aE->Option f7)(K0:Int->Int->Bool->aE->aE->Option f7)(c d:Int)(e:Bool)(f a:Int)(g h:aE):Option f7:=br (decide (a<f)) (qd (JY D g a) fun b=>go c d (bif e then true else b.1.2.1) f (wrap .i64 (a+1)) b.1.1 h) (K0 c d e g h)
def Mc(D:DX)(n:Nat)(K0:Int->Int->Bool->aE->aE->Option f7):Nat->Int->Int->Bool->Int->Int->aE->aE->Option f7 | 0=>(fun a b c d e f g=>none) | m+1=>(fun a b c d e f g=>FL D n (Mc D n K0 m) K0 a b c d e f g)
def GS(D:DX)(n:Nat)(go:Int->Int->aE->aE->Option f7)(K0:aE->aE->Option f7)(c d:Int)(e:Bool)(a b:aE):Option f7:=br (!e) (K0 a b) (go c (wrap .i64 (d+1)) a b)
def Ho(D:DX)(n:Nat)(go:Int->Int->aE->aE->Option f7)(K0:aE->aE->Option f7):(Int)->(Int)->(Bool)->(Int)->(Int)->aE->aE->Option f7:=(fun a g h i j k l=>Mc D n (fun b c d e f=>GS D n go K0 b c d e f) n a g h i j k l)
def ET(D:DX)(n:Nat)(go:Int->Int->aE->aE->Option f7)(K0:aE->aE->Option f7)(mH:Int->Int->Bool->Int->Int->aE->aE->Option f7)(x0 x1:Int)(x2 x3:aE):Option f7:=br (bif decide (x1<x0) then decide (x1<2000) else false) (qd (ZR D x2) fun b=>br (!b.1.1) (mH x0 x1 false (x2.2.1.length:Int) 0 x2 x3) (K0 x2 x3)) (K0 x2 x3)
def CT(D:DX)(n:Nat)(K0:aE->aE->Option f7):Nat->Int->Int->aE->aE->Option f7 | 0=>(fun x0 x1 x2 x3=>none) | m+1=>(fun x0 x1 x2 x3=>ET D n (CT D n K0 m) K0 (Ho D n (CT D n K0 m) K0) x0 x1 x2 x3)
def SA(D:DX)(n:Nat)(a b:aE):Option f7:=some ((a,()),())
def GV(D:DX)(n:Nat):(Int)->(Int)->aE->aE->Option f7:=(fun x0 x1 x2 x3=>CT D n (fun a b=>SA D n a b) n x0 x1 x2 x3)
def Im(D:DX)(n:Nat)(cC:Int->Int->aE->aE->Option f7)(a0:aE)(a1:Int):Option f7:=qd (JM D a0) fun b=>cC a1 0 ((b.1.1.1.1,b.1.1.1.2.1,()),b.1.1.2.1,b.1.1.2.2.1,b.1.1.2.2.2.1,b.1.1.2.2.2.2.1,b.1.1.2.2.2.2.2) (([],[],()),[],0,[],[],([],0,()),())
def Il(D:DX)(n:Nat)(a0:aE)(a1:Int):Option f7:=Im D n (GV D n) a0 a1
def EA(x0 x1:Int)(x2 x3:aE):St:=bu 47 [(1,AV.val ag x0),(2,AV.addr 2 []),(4,AV.addr 4 []),(5,AV.val ag x1)] [(2,aB.mk cU Mk.no x2 true),(4,aB.mk cU rR x3 true)]
def UQ(a b:aE):St:=bu 47 [(2,AV.addr 2 []),(4,AV.addr 4 [])] [(2,aB.mk cU Mk.no a true),(4,aB.mk cU rR b true)]
def EU(a b:Int)(c:Bool)(d e:Int)(f g:aE):St:=bu 47 [(1,AV.val ag a),(2,AV.addr 2 []),(4,AV.addr 4 []),(5,AV.val ag b),(6,AV.val Ty.bool c),(28,AV.val ag d),(29,AV.val ag e)] [(2,aB.mk cU Mk.no f true),(4,aB.mk cU rR g true)]
def Sz(a b:Int)(c:Bool)(d e:aE):St:=bu 47 [(1,AV.val ag a),(2,AV.addr 2 []),(4,AV.addr 4 []),(5,AV.val ag b),(6,AV.val Ty.bool c)] [(2,aB.mk cU Mk.no d true),(4,aB.mk cU rR e true)]
theorem ak6(D:DX)(n:Nat)(K:KT 22):∀(m:Nat)(f g:Int)(h:Bool)(i j:Int)(k l:aE),LF D n 22 Je m (EU f g h i j k l) K=Mc D n (fun a b c d e=>K (Ex.exit 2) (Sz a b c d e)) m f g h i j k l:=eL7 (fun F=>FL D n F (fun a b c d e=>K (Ex.exit 2) (Sz a b c d e)))
theorem ak3(D:DX)(n:Nat)(m:Nat)(K:KT 22)(a b:Int)(c:Bool)(d e:Int)(f g:aE):LF D n 22 Je n (EU a b c d e f g) (CF D n 22 Al Ak (KF D n 22 cG m K))=Ho D n (fun x0 x1 x2 x3=>LF D n 22 cG m (EA x0 x1 x2 x3) K) (fun h i=>K (Ex.exit 0) (UQ h i)) a b c d e f g :=by rw[ak6];kernel_rfl
theorem ak7(D:DX)(n:Nat)(m:Nat)(K:KT 22)(x0)(x1)(x2)(x3):LF D n 22 cG (m+1) (EA x0 x1 x2 x3) K=ET D n (fun x0 x1 x2 x3=>LF D n 22 cG m (EA x0 x1 x2 x3) K) (fun a b=>K (Ex.exit 0) (UQ a b)) (fun c d e f g h i=>LF D n 22 Je n (EU c d e f g h i) (CF D n 22 Al Ak (KF D n 22 cG m K))) x0 x1 x2 x3:=by kernel_rfl
theorem SB(D:DX)(n:Nat)(K:KT 22):∀(m:Nat)(x0 x1:Int)(x2 x3:aE),LF D n 22 cG m (EA x0 x1 x2 x3) K=CT D n (fun a b=>K (Ex.exit 0) (UQ a b)) m x0 x1 x2 x3
 | 0,x0,x1,x2,x3=>uU ..
 | m+1,x0,x1,x2,x3=>by
  have ih:(fun x0 x1 x2 x3=>LF D n 22 cG m (EA x0 x1 x2 x3) K)=CT D n (fun a b=>K (Ex.exit 0) (UQ a b)) m:=by funext x0 x1 x2 x3;exact SB D n K m x0 x1 x2 x3
  rw[ak7];simp only[ak3];rw[ih];rfl
theorem ak2(D:DX)(n:Nat)(x0)(x1)(x2)(x3):LF D n 22 cG n (EA x0 x1 x2 x3) (CF D n 22 [] cG (lF 22))=GV D n x0 x1 x2 x3 :=by rw[SB];kernel_rfl
theorem ak_(D:DX)(n:Nat)(a0:aE)(a1:Int):rF D n 22 (a0,(a1,()))=Il D n a0 a1:=by
 have h:rF D n 22 (a0,(a1,()))=Im D n (fun x0 x1 x2 x3=>LF D n 22 cG n (EA x0 x1 x2 x3) (CF D n 22 [] cG (lF 22))) a0 a1:=by kernel_rfl
 rw[h];simp only[ak2];rfl
def qyo(D:DX)(n:Nat)(go:List ak->List bE->Int->Int->List Int->Option cZ)(K0:List Int->Option cZ)(x0:List ak)(x1:List bE)(x2 x3:Int)(x4:List Int):Option cZ:=br (decide (x3<x2)) (qd (X4 D x0 x1 x3) fun b=>br (decide (x4.length+1<=f_)) (go x0 x1 x2 (wrap .i64 (x3+1)) (x4++[b.1.1])) none) (K0 x4)
def S6(D:DX)(n:Nat)(K0:List Int->Option cZ):Nat->(List ak)->(List bE)->Int->Int->(List Int)->Option cZ | 0=>(fun x0 x1 x2 x3 x4=>none) | m+1=>(fun x0 x1 x2 x3 x4=>qyo D n (S6 D n K0 m) K0 x0 x1 x2 x3 x4)
def aeC(D:DX)(n:Nat)(a:List Int):Option cZ:=some ((a,()),())
def qwc(D:DX)(n:Nat):(List ak)->(List bE)->(Int)->(Int)->(List Int)->Option cZ:=(fun x0 x1 x2 x3 x4=>S6 D n (fun a=>aeC D n a) n x0 x1 x2 x3 x4)
def Yi(D:DX)(n:Nat)(cC:List ak->List bE->Int->Int->List Int->Option cZ)(a0:List ak)(a1:List bE):Option cZ:=cC a0 a1 (a0.length:Int) 0 []
def XY(D:DX)(n:Nat)(a0:List ak)(a1:List bE):Option cZ:=Yi D n (qwc D n) a0 a1
def qyn(x0:List ak)(x1:List bE)(x2 x3:Int)(x4:List Int):St:=bu 22 [(0,AV.val bQ x0),(1,AV.val Co x1),(5,AV.b7 5 [] 0),(9,AV.val ag x2),(10,AV.val ag x3)] [(5,aB.mk bG eZ x4 false)]
def q6h(a:List Int):St:=bu 22 [(5,AV.b7 5 [] 0)] [(5,aB.mk bG eZ a false)]
theorem afK(D:DX)(n:Nat)(K:KT 23):∀(m:Nat)(x0:List ak)(x1:List bE)(x2 x3:Int)(x4:List Int),LF D n 23 cG m (qyn x0 x1 x2 x3 x4) K=S6 D n (fun a=>K (Ex.exit 0) (q6h a)) m x0 x1 x2 x3 x4:=pJ (fun F=>qyo D n F (fun a=>K (Ex.exit 0) (q6h a)))
theorem aeB(D:DX)(n:Nat)(x0)(x1)(x2)(x3)(x4):LF D n 23 cG n (qyn x0 x1 x2 x3 x4) (CF D n 23 [] cG (lF 23))=qwc D n x0 x1 x2 x3 x4 :=by rw[afK];kernel_rfl
theorem agM(D:DX)(n:Nat)(a0:List ak)(a1:List bE):rF D n 23 (a0,(a1,()))=XY D n a0 a1:=by
 have h:rF D n 23 (a0,(a1,()))=Yi D n (fun x0 x1 x2 x3 x4=>LF D n 23 cG n (qyn x0 x1 x2 x3 x4) (CF D n 23 [] cG (lF 23))) a0 a1:=by kernel_rfl
 rw[h];simp only[aeB];rfl
def Sx(D:DX)(n:Nat)(a0:aE):Option ah:=qd (C2 D a0) fun b=>br b.1.1 (qd (qh9 D a0.2.1 (bf.mk 62 [])) fun b=>some ((!b.1.1,()),())) (some ((false,()),()))
def GR(D:DX)(n:Nat)(a0:aE):Option ah:=Sx D n a0
theorem akK(D:DX)(n:Nat)(a0:aE):rF D n 24 (a0,())=GR D n a0:=by kernel_rfl
def SD(D:DX)(n:Nat)(a0:List Int):Option ah:=qd (xB D a0) fun b=>qd (To D (b.1.1.1,b.1.1.2)) fun b_1=>br b_1.1.1 (qd (Tj D (b.1.1.1,b.1.1.2)) fun b=>qd (qjc D b.1.1 a0) fun b=>some ((b.1.1,()),())) (some ((false,()),()))
def H_(D:DX)(n:Nat)(a0:List Int):Option ah:=SD D n a0
theorem ak8(D:DX)(n:Nat)(a0:List Int):rF D n 26 (a0,())=H_ D n a0:=by kernel_rfl
def SC(D:DX)(n:Nat)(a0:List Int):Option mN:=br ((a0.length:Int) != 20) (some ((([],0,()),()),())) (br (decide (0<=0)&&decide (0<=4)&&decide (4<=(a0.length:Int))) (qd (JK D (List.drop (Int.toNat 0) (List.take (Int.toNat 4) a0))) fun p1=>qd (sH D) fun p0=>br (decide (0<=p0.1.1)&&decide (p0.1.1<(a0.length:Int))) (some (((p1.1.1,List.getD a0 p0.1.1.toNat 0,()),()),())) none) none)
def GU(D:DX)(n:Nat)(a0:List Int):Option mN:=SC D n a0
theorem ak4(D:DX)(n:Nat)(a0:List Int):rF D n 31 (a0,())=GU D n a0:=by kernel_rfl
def quh(D:DX)(n:Nat)(a0:List Int)(a1:Int):Option gN:=qd (xB D a0) fun b=>qd (qp3 D (b.1.1.1,b.1.1.2)) fun b=>br (!b.1.1) (some ((0,false,()),())) (qd (sI D a1) fun b=>qd (Vy D a0 b.1.1) fun b=>some ((b.1.1,b.1.2.1,()),()))
def qs6(D:DX)(n:Nat)(a0:List Int)(a1:Int):Option gN:=quh D n a0 a1
theorem q0i(D:DX)(n:Nat)(a0:List Int)(a1:Int):rF D n 32 (a0,(a1,()))=qs6 D n a0 a1:=by kernel_rfl
def qz6(D:DX)(n:Nat)(a0:List Int)(a1:Int):Option gN:=qd (vN D a1) fun b=>qd (Vy D a0 b.1.1) fun b=>some ((b.1.1,b.1.2.1,()),())
def qt3(D:DX)(n:Nat)(a0:List Int)(a1:Int):Option gN:=qz6 D n a0 a1
theorem q15(D:DX)(n:Nat)(a0:List Int)(a1:Int):rF D n 33 (a0,(a1,()))=qt3 D n a0 a1:=by kernel_rfl
def O9(D:DX)(n:Nat)(a0:aC)(a1:Int):Option aF:=qd (Vb D a0.1 a1) fun b=>some ((b.1.1,()),())
def ZS(D:DX)(n:Nat)(a0:aC)(a1:Int):Option aF:=O9 D n a0 a1
theorem aik(D:DX)(n:Nat)(a0:aC)(a1:Int):rF D n 34 (a0,(a1,()))=ZS D n a0 a1:=by kernel_rfl
def Pc(D:DX)(n:Nat)(a0:Int):Option aF:=qd (BT D a0) fun b=>qd (sH D) fun b_1=>qd (JT D b.1.1 (wrap .i64 (b_1.1.1+a0))) fun b=>some ((b.1.1,()),())
def Z4(D:DX)(n:Nat)(a0:Int):Option aF:=Pc D n a0
theorem aiG(D:DX)(n:Nat)(a0:Int):rF D n 35 (a0,())=Z4 D n a0:=by kernel_rfl
def qul(D:DX)(n:Nat)(go:Int->List eF->Int->Int->aE->Option ah)(K0:Bool->Int->aE->Option ah)(K1:Int->aE->Option ah)(x0:Int)(x1:List eF)(x2 x3:Int)(x4:aE):Option ah:=let y0:=List.getD x1 x3.toNat (0,(0,0,0,()),0,0,0,(0,[],()),());br (decide (x3<x2)) (br (decide (0<=x3)&&decide (x3<(x1.length:Int))) (qd (kZ D y0.1 0 (wrap .i64 (x0-1))) fun p0=>br (!p0.1.1) (K0 false x0 x4) (qd (Iy D y0.2.1) fun p1=>br (!p1.1.1) (K0 false x0 x4) (qd (kZ D y0.2.2.1 0 x4.2.2.1) fun p2=>br (!p2.1.1) (K0 false x0 x4) (qd (Ve D y0 y0.2.2.2.1 x4) fun p3=>br (!p3.1.1) (K0 false x0 x4) (qd (Ve D y0 y0.2.2.2.2.1 x4) fun p4=>br (!p4.1.1) (K0 false x0 x4) (go x0 x1 x2 (wrap .i64 (x3+1)) x4)))))) none) (K1 x0 x4)
def SS(D:DX)(n:Nat)(K0:Bool->Int->aE->Option ah)(K1:Int->aE->Option ah):Nat->Int->(List eF)->Int->Int->aE->Option ah | 0=>(fun x0 x1 x2 x3 x4=>none) | m+1=>(fun x0 x1 x2 x3 x4=>qul D n (SS D n K0 K1 m) K0 K1 x0 x1 x2 x3 x4)
def qz9(D:DX)(n:Nat)(a:Bool)(b:Int)(c:aE):Option ah:=some ((a,()),())
def qum(D:DX)(n:Nat)(go:Int->List aM->Int->Int->aE->Option ah)(K0:Bool->aE->Option ah)(K1:aE->Option ah)(d:Int)(c:List aM)(e a:Int)(b:aE):Option ah:=br (decide (a<e)) (br (decide (0<=a)&&decide (a<(c.length:Int))) (qd (qxn D (List.getD c a.toNat ([],0,false,[],[],())) d) fun p0=>br (!p0.1.1) (K0 false b) (qd (X5 D b a) fun p1=>br (!p1.1.1) (K0 false b) (go d c e (wrap .i64 (a+1)) b))) none) (K1 b)
def SZ(D:DX)(n:Nat)(K0:Bool->aE->Option ah)(K1:aE->Option ah):Nat->Int->(List aM)->Int->Int->aE->Option ah | 0=>(fun a b c d e=>none) | m+1=>(fun a b c d e=>qum D n (SZ D n K0 K1 m) K0 K1 a b c d e)
def adU(D:DX)(n:Nat)(a:Bool)(b:aE):Option ah:=some ((a,()),())
def q0a(D:DX)(n:Nat)(a:aE):Option ah:=qd (X6 D a) fun b=>some ((b.1.1,()),())
def qse(D:DX)(n:Nat):(Int)->(List aM)->(Int)->(Int)->aE->Option ah:=(fun a b f g h=>SZ D n (fun c d=>adU D n c d) (fun e=>q0a D n e) n a b f g h)
def qqs(D:DX)(n:Nat)(mH:Int->List aM->Int->Int->aE->Option ah)(b:Int)(a:aE):Option ah:=mH b a.2.1 (a.2.1.length:Int) 0 a
def qsd(D:DX)(n:Nat):(Int)->(List eF)->(Int)->(Int)->aE->Option ah:=(fun x0 x1 x2 x3 x4=>SS D n (fun a b c=>qz9 D n a b c) (fun d e=>qqs D n (qse D n) d e) n x0 x1 x2 x3 x4)
def qwb(D:DX)(n:Nat)(cC:Int->List eF->Int->Int->aE->Option ah)(a0:aE):Option ah:=qd (Ix D a0.1) fun p0=>br (bif !p0.1.1 then true else (a0.1.2.1.length:Int) != (a0.2.1.length:Int)) (some ((false,()),())) (qd (kZ D a0.2.2.1 0 100000) fun p1=>br (bif !p1.1.1 then true else decide ((a0.2.2.2.1.length:Int)>40)) (some ((false,()),())) (qd (To D a0.2.2.2.2.2.1) fun p2=>br (!p2.1.1) (some ((false,()),())) (cC (a0.2.1.length:Int) a0.2.2.2.1 (a0.2.2.2.1.length:Int) 0 a0)))
def qvx(D:DX)(n:Nat)(a0:aE):Option ah:=qwb D n (qsd D n) a0
def quj(x0:Int)(x1:List eF)(x2 x3:Int)(x4:aE):St:=bu 108 [(1,AV.addr 1 []),(3,AV.val ag x0),(4,AV.gE 79 (AV.pair (AV.addr 1 []) AV.unit)),(44,AV.val Kb x1),(45,AV.val ag x2),(46,AV.val ag x3)] [(1,aB.mk cU Mk.no x4 true)]
def qqq(a:Bool)(b:Int)(c:aE):St:=bu 108 [(1,AV.addr 1 []),(2,AV.val Ty.bool a),(3,AV.val ag b)] [(1,aB.mk cU Mk.no c true)]
def qqr(a:Int)(b:aE):St:=bu 108 [(1,AV.addr 1 []),(3,AV.val ag a)] [(1,aB.mk cU Mk.no b true)]
def quk(a:Int)(b:List aM)(c d:Int)(e:aE):St:=bu 108 [(1,AV.addr 1 []),(3,AV.val ag a),(88,AV.val IT b),(89,AV.val ag c),(90,AV.val ag d)] [(1,aB.mk cU Mk.no e true)]
def qz7(a:Bool)(b:aE):St:=bu 108 [(1,AV.addr 1 []),(2,AV.val Ty.bool a)] [(1,aB.mk cU Mk.no b true)]
def qz8(a:aE):St:=bu 108 [(1,AV.addr 1 [])] [(1,aB.mk cU Mk.no a true)]
theorem ad8(D:DX)(n:Nat)(K:KT 40):∀(m:Nat)(x0:Int)(x1:List eF)(x2 x3:Int)(x4:aE),LF D n 40 lS m (quj x0 x1 x2 x3 x4) K=SS D n (fun a b c=>K (Ex.ret) (qqq a b c)) (fun d e=>K (Ex.exit 0) (qqr d e)) m x0 x1 x2 x3 x4:=pJ (fun F=>qul D n F (fun a b c=>K (Ex.ret) (qqq a b c)) (fun d e=>K (Ex.exit 0) (qqr d e)))
theorem ad9(D:DX)(n:Nat)(K:KT 40):∀(m:Nat)(d:Int)(e:List aM)(f g:Int)(h:aE),LF D n 40 zm m (quk d e f g h) K=SZ D n (fun a b=>K (Ex.ret) (qz7 a b)) (fun c=>K (Ex.exit 2) (qz8 c)) m d e f g h:=pJ (fun F=>qum D n F (fun a b=>K (Ex.ret) (qz7 a b)) (fun c=>K (Ex.exit 2) (qz8 c)))
theorem adR(D:DX)(n:Nat)(a:Int)(b:List aM)(c d:Int)(e:aE):LF D n 40 zm n (quk a b c d e) (CF D n 40 [] zm (lF 40))=qse D n a b c d e :=by rw[ad9];kernel_rfl
theorem adS(D:DX)(n:Nat)(a:Bool)(b:Int)(c:aE):(CF D n 40 [] lS (lF 40)) (Ex.ret) (qqq a b c)=qz9 D n a b c:=by kernel_rfl
theorem adT(D:DX)(n:Nat)(a:Int)(b:aE):(CF D n 40 [] lS (lF 40)) (Ex.exit 0) (qqr a b)=qqs D n (fun c d e f g=>LF D n 40 zm n (quk c d e f g) (CF D n 40 [] zm (lF 40))) a b:=by kernel_rfl
theorem adQ(D:DX)(n:Nat)(x0)(x1)(x2)(x3)(x4):LF D n 40 lS n (quj x0 x1 x2 x3 x4) (CF D n 40 [] lS (lF 40))=qsd D n x0 x1 x2 x3 x4:=by rw[ad8];simp only[adS,adT,adR];rfl
theorem aft(D:DX)(n:Nat)(a0:aE):rF D n 40 (a0,())=qvx D n a0:=by
 have h:rF D n 40 (a0,())=qwb D n (fun x0 x1 x2 x3 x4=>LF D n 40 lS n (quj x0 x1 x2 x3 x4) (CF D n 40 [] lS (lF 40))) a0:=by kernel_rfl
 rw[h];simp only[adQ];rfl
def Zu(D:DX)(n:Nat)(go:List Int->Int->Int->Option nD)(K0:List Int->Int->Option nD)(x0:List Int)(x1 x2:Int):Option nD:=br (bif decide (x2<(x0.length:Int)) then decide (x2<4000) else false) (br (decide (0<=x2)&&decide (x2<(x0.length:Int))) (go x0 (wrap .i64 (↑(BitVec.toNat (BitVec.and (BitVec.ofInt (IntKind.bits IntKind.i64) (wrap .i64 (wrap .i64 (wrap .i64 (x1 * 131)+wrap .i64 (List.getD x0 x2.toNat 0))+7))) (BitVec.ofInt (IntKind.bits IntKind.i64) 1073741823))):Int)) (wrap .i64 (x2+1))) none) (K0 x0 x1)
def Tn(D:DX)(n:Nat)(K0:List Int->Int->Option nD):Nat->(List Int)->Int->Int->Option nD | 0=>(fun x0 x1 x2=>none) | m+1=>(fun x0 x1 x2=>Zu D n (Tn D n K0 m) K0 x0 x1 x2)
def Ov(D:DX)(n:Nat)(a:List Int)(b:Int):Option nD:=some (((a,0,b,()),()),())
def YW(D:DX)(n:Nat):(List Int)->(Int)->(Int)->Option nD:=(fun x0 x1 x2=>Tn D n (fun a b=>Ov D n a b) n x0 x1 x2)
def q92(D:DX)(n:Nat)(cC:List Int->Int->Int->Option nD)(a0:List Int):Option nD:=cC a0 (wrap .i64 (27323+(a0.length:Int))) 0
def q8i(D:DX)(n:Nat)(a0:List Int):Option nD:=q92 D n (YW D n) a0
def Zt(x0:List Int)(x1 x2:Int):St:=bu 32 [(0,AV.val pz x0),(3,AV.val ag x1),(4,AV.val ag x2)] []
def Ou(a:List Int)(b:Int):St:=bu 32 [(0,AV.val pz a),(3,AV.val ag b)] []
theorem ahF(D:DX)(n:Nat)(K:KT 44):∀(m:Nat)(x0:List Int)(x1 x2:Int),LF D n 44 cG m (Zt x0 x1 x2) K=Tn D n (fun a b=>K (Ex.exit 0) (Ou a b)) m x0 x1 x2:=oP (fun F=>Zu D n F (fun a b=>K (Ex.exit 0) (Ou a b)))
theorem agx(D:DX)(n:Nat)(x0)(x1)(x2):LF D n 44 cG n (Zt x0 x1 x2) (CF D n 44 [] cG (lF 44))=YW D n x0 x1 x2 :=by rw[ahF];kernel_rfl
theorem aiP(D:DX)(n:Nat)(a0:List Int):rF D n 44 (a0,())=q8i D n a0:=by
 have h:rF D n 44 (a0,())=q92 D n (fun x0 x1 x2=>LF D n 44 cG n (Zt x0 x1 x2) (CF D n 44 [] cG (lF 44))) a0:=by kernel_rfl
 rw[h];simp only[agx];rfl
def qq1(D:DX)(n:Nat)(go:Int->bq->aC->aC->Option nC)(K0:bq->aC->aC->Option nC)(x0:Int)(x1:bq)(x2 x3:aC):Option nC:=br (decide (x0<4)) (qd (rT D x1 7) fun p0=>qd (VQ D (x3.1,x3.2) p0.1.1) fun p1=>br (decide (p1.1.1<0)) (br (decide (0<=x0)&&decide (x0<(x3.1.length:Int))) (go (wrap .i64 (x0+1)) p0.2.1 x2 (List.set x3.1 x0.toNat p0.1.1,x3.2)) none) (go (wrap .i64 (x0+1)) p0.2.1 x2 x3)) (K0 x1 x2 x3)
def SQ(D:DX)(n:Nat)(K0:bq->aC->aC->Option nC):Nat->Int->bq->aC->aC->Option nC | 0=>(fun x0 x1 x2 x3=>none) | m+1=>(fun x0 x1 x2 x3=>qq1 D n (SQ D n K0 m) K0 x0 x1 x2 x3)
def qn7(D:DX)(n:Nat)(c:bq)(d a:aC):Option nC:=qd (Vo D c [0,0,1,3,5]) fun b=>some (((a.1,b.1.1,a.2.2),()),b.2.1,())
def qpe(D:DX)(n:Nat):(Int)->bq->aC->aC->Option nC:=(fun x0 x1 x2 x3=>SQ D n (fun a b c=>qn7 D n a b c) n x0 x1 x2 x3)
def qs2(D:DX)(n:Nat)(cC:Int->bq->aC->aC->Option nC)(a0:bq):Option nC:=qd (Ya D) fun b=>cC 0 a0 ([],0,()) (b.1.1.1,b.1.1.2)
def qrx(D:DX)(n:Nat)(a0:bq):Option nC:=qs2 D n (qpe D n) a0
def qq0(x0:Int)(x1:bq)(x2 x3:aC):St:=bu 27 [(0,AV.addr 0 []),(2,AV.addr 2 []),(3,AV.addr 3 []),(4,AV.val ag x0)] [(0,aB.mk jl Mk.no x1 true),(2,aB.mk bZ iA x2 true),(3,aB.mk bZ iA x3 true)]
def qxf(a:bq)(b c:aC):St:=bu 27 [(0,AV.addr 0 []),(2,AV.addr 2 []),(3,AV.addr 3 [])] [(0,aB.mk jl Mk.no a true),(2,aB.mk bZ iA b true),(3,aB.mk bZ iA c true)]
theorem adM(D:DX)(n:Nat)(K:KT 45):∀(m:Nat)(x0:Int)(x1:bq)(x2 x3:aC),LF D n 45 cG m (qq0 x0 x1 x2 x3) K=SQ D n (fun a b c=>K (Ex.exit 0) (qxf a b c)) m x0 x1 x2 x3:=y_ (fun F=>qq1 D n F (fun a b c=>K (Ex.exit 0) (qxf a b c)))
theorem adK(D:DX)(n:Nat)(x0)(x1)(x2)(x3):LF D n 45 cG n (qq0 x0 x1 x2 x3) (CF D n 45 [] cG (lF 45))=qpe D n x0 x1 x2 x3 :=by rw[adM];kernel_rfl
theorem aeg(D:DX)(n:Nat)(a0:bq):rF D n 45 (a0,())=qrx D n a0:=by
 have h:rF D n 45 (a0,())=qs2 D n (fun x0 x1 x2 x3=>LF D n 45 cG n (qq0 x0 x1 x2 x3) (CF D n 45 [] cG (lF 45))) a0:=by kernel_rfl
 rw[h];simp only[adK];rfl
def qu7(D:DX)(n:Nat)(go:Int->Int->bq->List (List ak)->List ak->Option gM)(K0:Int->bq->List (List ak)->List ak->Option gM)(c d:Int)(f:bq)(e:List (List ak))(a:List ak):Option gM:=qd (rT D f 4) fun b=>br (decide (d<wrap .i64 (1+b.1.1))) (qd (qrs D b.2.1) fun b=>br (decide (a.length+1<=f_)) (go c (wrap .i64 (d+1)) b.2.1 e (a++[b.1.1])) none) (K0 c b.2.1 e a)
def S4(D:DX)(n:Nat)(K0:Int->bq->List (List ak)->List ak->Option gM):Nat->Int->Int->bq->(List (List ak))->(List ak)->Option gM | 0=>(fun a b c d e=>none) | m+1=>(fun a b c d e=>qu7 D n (S4 D n K0 m) K0 a b c d e)
def qq2(D:DX)(n:Nat)(go:Int->bq->List (List ak)->Option gM)(K0:bq->List (List ak)->Option gM)(b:Int)(c:bq)(a:List (List ak))(d:List ak):Option gM:=br (decide (a.length+1<=f_)) (go (wrap .i64 (b+1)) c (a++[d])) none
def qs4(D:DX)(n:Nat)(go:Int->bq->List (List ak)->Option gM)(K0:bq->List (List ak)->Option gM):(Int)->(Int)->bq->(List (List ak))->(List ak)->Option gM:=(fun a f g h i=>S4 D n (fun b c d e=>qq2 D n go K0 b c d e) n a f g h i)
def qu6(D:DX)(n:Nat)(go:Int->bq->List (List ak)->Option gM)(K0:bq->List (List ak)->Option gM)(mH:Int->Int->bq->List (List ak)->List ak->Option gM)(x0:Int)(x1:bq)(x2:List (List ak)):Option gM:=qd (rT D x1 3) fun b=>br (decide (x0<wrap .i64 (1+b.1.1))) (mH x0 0 b.2.1 x2 []) (K0 b.2.1 x2)
def C3(D:DX)(n:Nat)(K0:bq->List (List ak)->Option gM):Nat->Int->bq->(List (List ak))->Option gM | 0=>(fun x0 x1 x2=>none) | m+1=>(fun x0 x1 x2=>qu6 D n (C3 D n K0 m) K0 (qs4 D n (C3 D n K0 m) K0) x0 x1 x2)
def q0h(D:DX)(n:Nat)(a:bq)(b:List (List ak)):Option gM:=some ((b,()),a,())
def qs3(D:DX)(n:Nat):(Int)->bq->(List (List ak))->Option gM:=(fun x0 x1 x2=>C3 D n (fun a b=>q0h D n a b) n x0 x1 x2)
def qw0(D:DX)(n:Nat)(cC:Int->bq->List (List ak)->Option gM)(a0:bq):Option gM:=cC 0 a0 []
def qv4(D:DX)(n:Nat)(a0:bq):Option gM:=qw0 D n (qs3 D n) a0
def It(x0:Int)(x1:bq)(x2:List (List ak)):St:=bu 33 [(0,AV.addr 0 []),(3,AV.b7 3 [] 0),(4,AV.val ag x0)] [(0,aB.mk jl Mk.no x1 true),(3,aB.mk jS qH x2 false)]
def Vg(a:bq)(b:List (List ak)):St:=bu 33 [(0,AV.addr 0 []),(3,AV.b7 3 [] 0)] [(0,aB.mk jl Mk.no a true),(3,aB.mk jS qH b false)]
def qu5(a b:Int)(c:bq)(d:List (List ak))(e:List ak):St:=bu 33 [(0,AV.addr 0 []),(3,AV.b7 3 [] 0),(4,AV.val ag a),(5,AV.b7 5 [] 0),(6,AV.val ag b)] [(0,aB.mk jl Mk.no c true),(3,aB.mk jS qH d false),(5,aB.mk bQ eZ e false)]
def q0g(a:Int)(b:bq)(c:List (List ak))(d:List ak):St:=bu 33 [(0,AV.addr 0 []),(3,AV.b7 3 [] 0),(4,AV.val ag a),(5,AV.b7 5 [] 0)] [(0,aB.mk jl Mk.no b true),(3,aB.mk jS qH c false),(5,aB.mk bQ eZ d false)]
theorem aet(D:DX)(n:Nat)(K:KT 46):∀(m:Nat)(e f:Int)(g:bq)(h:List (List ak))(i:List ak),LF D n 46 Je m (qu5 e f g h i) K=S4 D n (fun a b c d=>K (Ex.exit 2) (q0g a b c d)) m e f g h i:=pJ (fun F=>qu7 D n F (fun a b c d=>K (Ex.exit 2) (q0g a b c d)))
theorem aec(D:DX)(n:Nat)(m:Nat)(K:KT 46)(a b:Int)(c:bq)(d:List (List ak))(e:List ak):LF D n 46 Je n (qu5 a b c d e) (CF D n 46 Al Ak (KF D n 46 cG m K))=qs4 D n (fun x0 x1 x2=>LF D n 46 cG m (It x0 x1 x2) K) (fun f g=>K (Ex.exit 0) (Vg f g)) a b c d e :=by rw[aet];kernel_rfl
theorem aey(D:DX)(n:Nat)(m:Nat)(K:KT 46)(x0)(x1)(x2:List (List ak)):LF D n 46 cG (m+1) (It x0 x1 x2) K=qu6 D n (fun x0 x1 x2=>LF D n 46 cG m (It x0 x1 x2) K) (fun a b=>K (Ex.exit 0) (Vg a b)) (fun c d e f g=>LF D n 46 Je n (qu5 c d e f g) (CF D n 46 Al Ak (KF D n 46 cG m K))) x0 x1 x2:=by kernel_rfl
theorem q4b(D:DX)(n:Nat)(K:KT 46):∀(m:Nat)(x0:Int)(x1:bq)(x2:List (List ak)),LF D n 46 cG m (It x0 x1 x2) K=C3 D n (fun a b=>K (Ex.exit 0) (Vg a b)) m x0 x1 x2
 | 0,x0,x1,x2=>uU ..
 | m+1,x0,x1,x2=>by
  have ih:(fun x0 x1 x2=>LF D n 46 cG m (It x0 x1 x2) K)=C3 D n (fun a b=>K (Ex.exit 0) (Vg a b)) m:=by funext x0 x1 x2;exact q4b D n K m x0 x1 x2
  rw[aey];simp only[aec];rw[ih];rfl
theorem aeb(D:DX)(n:Nat)(x0)(x1)(x2:List (List ak)):LF D n 46 cG n (It x0 x1 x2) (CF D n 46 [] cG (lF 46))=qs3 D n x0 x1 x2 :=by rw[q4b];kernel_rfl
theorem afD(D:DX)(n:Nat)(a0:bq):rF D n 46 (a0,())=qv4 D n a0:=by
 have h:rF D n 46 (a0,())=qw0 D n (fun x0 x1 x2=>LF D n 46 cG n (It x0 x1 x2) (CF D n 46 [] cG (lF 46))) a0:=by kernel_rfl
 rw[h];simp only[aeb];rfl
def OU(D:DX)(n:Nat)(a0:bq)(a1:Int):Option pq:=br (decide (a1<=0)) (some ((0,()),a0,())) (br (decide (a1<=256)) (qd (Iw D a0) fun p0=>br (decide (a1=0)) none (some ((Int.tmod p0.1.1 a1,()),p0.2.1,()))) (qd (Iw D a0) fun p1=>qd (Iw D p1.2.1) fun p2=>qd (Iw D p2.2.1) fun p3=>qd (Iw D p3.2.1) fun p4=>br (decide (a1=0)) none (some ((Int.tmod (wrap .i64 (wrap .i64 (wrap .i64 (wrap .i64 (p1.1.1 * 16777216)+wrap .i64 (p2.1.1 * 65536))+wrap .i64 (p3.1.1 * 256))+p4.1.1)) a1,()),p4.2.1,()))))
def Yz(D:DX)(n:Nat)(a0:bq)(a1:Int):Option pq:=OU D n a0 a1
theorem ag8(D:DX)(n:Nat)(a0:bq)(a1:Int):rF D n 47 (a0,(a1,()))=Yz D n a0 a1:=by kernel_rfl
def O5(D:DX)(n:Nat)(a0:List Int)(a1 a2:Int):Option aF:=br (decide (wrap .i64 (a1+wrap .i64 (Int.tdiv (a0.length:Int) 4))>a2)) (some ((a2,()),())) (some ((wrap .i64 (a1+wrap .i64 (Int.tdiv (a0.length:Int) 4)),()),()))
def Y9(D:DX)(n:Nat)(a0:List Int)(a1 a2:Int):Option aF:=O5 D n a0 a1 a2
theorem ah5(D:DX)(n:Nat)(a0:List Int)(a1 a2:Int):rF D n 48 (a0,(a1,(a2,())))=Y9 D n a0 a1 a2:=by kernel_rfl
def Yk(D:DX)(n:Nat)(go:Int->Int->aW->aW->List Int->Option nV)(K0:aW->aW->Option nV)(x0 x1:Int)(x2 x3:aW)(x4:List Int):Option nV:=br (decide (x1<x0)) (br (decide (0<=x1)&&decide (x1<(x4.length:Int))) (br (decide (x3.1.length+1<=f_)) (go x0 (wrap .i64 (x1+1)) x2 (x3.1++[(List.getD x4 x1.toNat 0,0,0,())],x3.2) x4) none) none) (K0 x2 x3)
def Tl(D:DX)(n:Nat)(K0:aW->aW->Option nV):Nat->Int->Int->aW->aW->(List Int)->Option nV | 0=>(fun x0 x1 x2 x3 x4=>none) | m+1=>(fun x0 x1 x2 x3 x4=>Yk D n (Tl D n K0 m) K0 x0 x1 x2 x3 x4)
def q8y(D:DX)(n:Nat)(c a:aW):Option nV:=qd (Ix D (a.1,a.2.1,())) fun b=>br (!b.1.1) (some ((([],[],()),false,()),())) (some (((a.1,a.2.1,()),true,()),()))
def qyp(D:DX)(n:Nat):(Int)->(Int)->aW->aW->(List Int)->Option nV:=(fun x0 x1 x2 x3 x4=>Tl D n (fun a b=>q8y D n a b) n x0 x1 x2 x3 x4)
def Zx(D:DX)(n:Nat)(cC:Int->Int->aW->aW->List Int->Option nV)(a0:aC)(a1:Int):Option nV:=qd (kZ D a1 1 4) fun p1=>br (!p1.1.1) (some ((([],[],()),false,()),())) (br (decide (0<=a1)&&decide (a1<=a1)&&decide (a1<=(↑f_:Int))) (qd (Tj D a0) fun p0=>cC (p0.1.1.length:Int) 0 ([],[],()) ([],List.replicate a1.toNat (0,0,[],(0,[],()),()),()) p0.1.1) none)
def Zo(D:DX)(n:Nat)(a0:aC)(a1:Int):Option nV:=Zx D n (qyp D n) a0 a1
def Yj(x0 x1:Int)(x2 x3:aW)(x4:List Int):St:=bu 36 [(4,AV.addr 4 []),(6,AV.addr 6 []),(17,AV.b7 17 [] 0),(18,AV.val ag x0),(19,AV.val ag x1)] [(4,aB.mk jX lO x2 true),(6,aB.mk jX lO x3 true),(17,aB.mk bG eZ x4 false)]
def q8x(a b:aW):St:=bu 36 [(4,AV.addr 4 []),(6,AV.addr 6 [])] [(4,aB.mk jX lO a true),(6,aB.mk jX lO b true)]
theorem agi(D:DX)(n:Nat)(K:KT 49):∀(m:Nat)(x0 x1:Int)(x2 x3:aW)(x4:List Int),LF D n 49 eL m (Yj x0 x1 x2 x3 x4) K=Tl D n (fun a b=>K (Ex.exit 0) (q8x a b)) m x0 x1 x2 x3 x4:=pJ (fun F=>Yk D n F (fun a b=>K (Ex.exit 0) (q8x a b)))
theorem afL(D:DX)(n:Nat)(x0)(x1)(x2)(x3)(x4):LF D n 49 eL n (Yj x0 x1 x2 x3 x4) (CF D n 49 [] eL (lF 49))=qyp D n x0 x1 x2 x3 x4 :=by rw[agi];kernel_rfl
theorem ahK(D:DX)(n:Nat)(a0:aC)(a1:Int):rF D n 49 (a0,(a1,()))=Zo D n a0 a1:=by
 have h:rF D n 49 (a0,(a1,()))=Zx D n (fun x0 x1 x2 x3 x4=>LF D n 49 eL n (Yj x0 x1 x2 x3 x4) (CF D n 49 [] eL (lF 49))) a0 a1:=by kernel_rfl
 rw[h];simp only[afL];rfl
def Oo(D:DX)(n:Nat)(a0:aC):Option mN:=qd (JK D a0.1) fun b=>some (((b.1.1,a0.2.1,()),()),())
def qxy(D:DX)(n:Nat)(a0:aC):Option mN:=Oo D n a0
theorem af_(D:DX)(n:Nat)(a0:aC):rF D n 50 (a0,())=qxy D n a0:=by kernel_rfl
def q89(D:DX)(n:Nat)(a0:List ak):Option jj:=qd (U5 D a0) fun b=>some (((b.1.1,0,false,[],[],()),()),())
def qvy(D:DX)(n:Nat)(a0:List ak):Option jj:=q89 D n a0
theorem afu(D:DX)(n:Nat)(a0:List ak):rF D n 51 (a0,())=qvy D n a0:=by kernel_rfl
def YG(D:DX)(n:Nat)(go:Int->Int->aW->aW->List Int->Option nV)(K0:Int->aW->aW->Option nV)(x0 x1:Int)(x2 x3:aW)(x4:List Int):Option nV:=br (decide (x1<(x4.length:Int))) (br (decide (0<=x1)&&decide (x1<(x4.length:Int))) (br (decide (x3.1.length+1<=f_)) (go x0 (wrap .i64 (x1+1)) x2 (x3.1++[(List.getD x4 x1.toNat 0,0,0,())],x3.2) x4) none) none) (K0 x0 x2 x3)
def Th(D:DX)(n:Nat)(K0:Int->aW->aW->Option nV):Nat->Int->Int->aW->aW->(List Int)->Option nV | 0=>(fun x0 x1 x2 x3 x4=>none) | m+1=>(fun x0 x1 x2 x3 x4=>YG D n (Th D n K0 m) K0 x0 x1 x2 x3 x4)
def q9w(D:DX)(n:Nat)(a:Int)(c b:aW):Option nV:=qd (lU D a 1 4) fun p0=>br p0.1.1 (br (decide (0<=a)&&decide (a<=a)&&decide (a<=(↑f_:Int))) (qd (TA D (b.1,List.replicate a.toNat (0,0,[],(0,[],()),()),())) fun p1=>br (!p1.1.1) (some ((([],[],()),false,()),())) (some (((b.1,List.replicate a.toNat (0,0,[],(0,[],()),()),()),true,()),()))) none) (qd (TA D (b.1,b.2.1,())) fun p2=>br (!p2.1.1) (some ((([],[],()),false,()),())) (some (((b.1,b.2.1,()),true,()),())))
def qzk(D:DX)(n:Nat):(Int)->(Int)->aW->aW->(List Int)->Option nV:=(fun x0 x1 x2 x3 x4=>Th D n (fun a b c=>q9w D n a b c) n x0 x1 x2 x3 x4)
def ZL(D:DX)(n:Nat)(cC:Int->Int->aW->aW->List Int->Option nV)(a0:aC)(a1:Int):Option nV:=qd (Yb D a0) fun b=>cC a1 0 ([],[],()) ([],[],()) b.1.1
def Y5(D:DX)(n:Nat)(a0:aC)(a1:Int):Option nV:=ZL D n (qzk D n) a0 a1
def YF(x0 x1:Int)(x2 x3:aW)(x4:List Int):St:=bu 38 [(1,AV.val ag x0),(4,AV.addr 4 []),(6,AV.addr 6 []),(7,AV.b7 7 [] 0),(8,AV.val ag x1)] [(4,aB.mk jX lO x2 true),(6,aB.mk jX lO x3 true),(7,aB.mk bG eZ x4 false)]
def q9v(a:Int)(b c:aW):St:=bu 38 [(1,AV.val ag a),(4,AV.addr 4 []),(6,AV.addr 6 [])] [(4,aB.mk jX lO b true),(6,aB.mk jX lO c true)]
theorem agp(D:DX)(n:Nat)(K:KT 52):∀(m:Nat)(x0 x1:Int)(x2 x3:aW)(x4:List Int),LF D n 52 eL m (YF x0 x1 x2 x3 x4) K=Th D n (fun a b c=>K (Ex.exit 0) (q9v a b c)) m x0 x1 x2 x3 x4:=pJ (fun F=>YG D n F (fun a b c=>K (Ex.exit 0) (q9v a b c)))
theorem afY(D:DX)(n:Nat)(x0)(x1)(x2)(x3)(x4):LF D n 52 eL n (YF x0 x1 x2 x3 x4) (CF D n 52 [] eL (lF 52))=qzk D n x0 x1 x2 x3 x4 :=by rw[agp];kernel_rfl
theorem ah1(D:DX)(n:Nat)(a0:aC)(a1:Int):rF D n 52 (a0,(a1,()))=Y5 D n a0 a1:=by
 have h:rF D n 52 (a0,(a1,()))=ZL D n (fun x0 x1 x2 x3 x4=>LF D n 52 eL n (YF x0 x1 x2 x3 x4) (CF D n 52 [] eL (lF 52))) a0 a1:=by kernel_rfl
 rw[h];simp only[afY];rfl
def O6(D:DX)(n:Nat)(a0:aC):Option mN:=br (decide (0+a0.1.length<=f_)) (some ((([]++a0.1,a0.2.1,()),()),())) none
def Y_(D:DX)(n:Nat)(a0:aC):Option mN:=O6 D n a0
theorem ah6(D:DX)(n:Nat)(a0:aC):rF D n 53 (a0,())=Y_ D n a0:=by kernel_rfl
def q91(D:DX)(n:Nat)(a0:List ak):Option jj:=br (decide (0+a0.length<=f_)) (some ((([]++a0,0,false,[],[],()),()),())) none
def qv2(D:DX)(n:Nat)(a0:List ak):Option jj:=q91 D n a0
theorem afB(D:DX)(n:Nat)(a0:List ak):rF D n 54 (a0,())=qv2 D n a0:=by kernel_rfl
def quw(D:DX)(n:Nat)(go:Int->aE->Option ah)(K0:Bool->Option ah)(K1:Option ah)(x0:Int)(x1:aE):Option ah:=br (decide (x0<(x1.2.1.length:Int))) (br (decide (0<=x0)&&decide (x0<(x1.2.1.length:Int))) (qd (qxr D (List.getD x1.2.1 x0.toNat ([],0,false,[],[],())) (x1.2.1.length:Int)) fun p0=>br (!p0.1.1) (K0 false) (qd (qxt D x1 x0) fun p1=>br (!p1.1.1) (K0 false) (go (wrap .i64 (x0+1)) x1))) none) K1
def S0(D:DX)(n:Nat)(K0:Bool->Option ah)(K1:Option ah):Nat->Int->aE->Option ah | 0=>(fun x0 x1=>none) | m+1=>(fun x0 x1=>quw D n (S0 D n K0 K1 m) K0 K1 x0 x1)
def adZ(D:DX)(n:Nat)(a:Bool):Option ah:=some ((a,()),())
def aea(D:DX)(n:Nat):Option ah:=some ((true,()),())
def qsv(D:DX)(n:Nat):(Int)->aE->Option ah:=(fun x0 x1=>S0 D n (fun a=>adZ D n a) (aea D n) n x0 x1)
def qwp(D:DX)(n:Nat)(cC:Int->aE->Option ah)(a0:aE):Option ah:=qd (TA D a0.1) fun p0=>br (bif !p0.1.1 then true else (a0.1.2.1.length:Int) != (a0.2.1.length:Int)) (some ((false,()),())) (qd (lU D a0.2.2.1 0 100000) fun p1=>br (!p1.1.1) (some ((false,()),())) (qd (VH D a0.2.2.2.2.2.1) fun p2=>br (!p2.1.1) (some ((false,()),())) (qd (Yc D a0) fun p3=>br (!p3.1.1) (some ((false,()),())) (cC 0 a0))))
def qv1(D:DX)(n:Nat)(a0:aE):Option ah:=qwp D n (qsv D n) a0
def quv(x0:Int)(x1:aE):St:=bu 58 [(1,AV.addr 1 []),(3,AV.val ag x0)] [(1,aB.mk cU Mk.no x1 true)]
def q0e(a:Bool):St:=bu 58 [(2,AV.val Ty.bool a)] []
def q0f:St:=bu 58 [] []
theorem aeu(D:DX)(n:Nat)(K:KT 55):∀(m:Nat)(x0:Int)(x1:aE),LF D n 55 cG m (quv x0 x1) K=S0 D n (fun a=>K (Ex.ret) (q0e a)) (K (Ex.exit 0) (q0f)) m x0 x1:=Dw (fun F=>quw D n F (fun a=>K (Ex.ret) (q0e a)) (K (Ex.exit 0) (q0f)))
theorem adY(D:DX)(n:Nat)(x0)(x1):LF D n 55 cG n (quv x0 x1) (CF D n 55 [] cG (lF 55))=qsv D n x0 x1 :=by rw[aeu];kernel_rfl
theorem afA(D:DX)(n:Nat)(a0:aE):rF D n 55 (a0,())=qv1 D n a0:=by
 have h:rF D n 55 (a0,())=qwp D n (fun x0 x1=>LF D n 55 cG n (quv x0 x1) (CF D n 55 [] cG (lF 55))) a0:=by kernel_rfl
 rw[h];simp only[adY];rfl
def qqw(D:DX)(n:Nat)(go:List aM->Int->Int->aE->aE->aE->Option f7)(K0:aE->aE->aE->Option f7)(x0:List aM)(x1 x2:Int)(x3 x4 x5:aE):Option f7:=br (decide (x2<x1)) (br (decide (0<=x2)&&decide (x2<(x0.length:Int))) (qd (JN D (List.getD x0 x2.toNat ([],0,false,[],[],()))) fun p0=>br (decide (x5.2.1.length+1<=f_)) (go x0 x1 (wrap .i64 (x2+1)) x3 x4 (x5.1,x5.2.1++[(p0.1.1.1,p0.1.1.2.1,p0.1.1.2.2.1,p0.1.1.2.2.2.1,p0.1.1.2.2.2.2.1,())],x5.2.2)) none) none) (K0 x3 x4 x5)
def SO(D:DX)(n:Nat)(K0:aE->aE->aE->Option f7):Nat->(List aM)->Int->Int->aE->aE->aE->Option f7 | 0=>(fun x0 x1 x2 x3 x4 x5=>none) | m+1=>(fun x0 x1 x2 x3 x4 x5=>qqw D n (SO D n K0 m) K0 x0 x1 x2 x3 x4 x5)
def qqx(D:DX)(n:Nat)(go:List eF->Int->Int->aE->aE->Option f7)(K0:aE->aE->Option f7)(c:List eF)(d b:Int)(e a:aE):Option f7:=let y0:=List.getD c b.toNat (0,(0,0,0,()),0,0,0,(0,[],()),());br (decide (b<d)) (br (decide (0<=b)&&decide (b<(c.length:Int))) (qd (Iv D y0.2.2.2.2.2.1) fun p0=>br (decide (a.2.2.2.1.length+1<=f_)) (go c d (wrap .i64 (b+1)) e (a.1,a.2.1,a.2.2.1,a.2.2.2.1++[(y0.1,y0.2.1,y0.2.2.1,y0.2.2.2.1,y0.2.2.2.2.1,(p0.1.1.1,p0.1.1.2.1,()),())],a.2.2.2.2)) none) none) (K0 e a)
def SP(D:DX)(n:Nat)(K0:aE->aE->Option f7):Nat->(List eF)->Int->Int->aE->aE->Option f7 | 0=>(fun a b c d e=>none) | m+1=>(fun a b c d e=>qqx D n (SP D n K0 m) K0 a b c d e)
def adH(D:DX)(n:Nat)(b a:aE):Option f7:=some ((((a.1.1,a.1.2.1,()),a.2.1,a.2.2.1,a.2.2.2.1,a.2.2.2.2.1,(a.2.2.2.2.2.1.1,a.2.2.2.2.2.1.2),()),()),())
def qoz(D:DX)(n:Nat):(List eF)->(Int)->(Int)->aE->aE->Option f7:=(fun a d e f g=>SP D n (fun b c=>adH D n b c) n a d e f g)
def qnt(D:DX)(n:Nat)(mH:List eF->Int->Int->aE->aE->Option f7)(a b c:aE):Option f7:=mH a.2.2.2.1 (a.2.2.2.1.length:Int) 0 b c
def qoy(D:DX)(n:Nat):(List aM)->(Int)->(Int)->aE->aE->aE->Option f7:=(fun x0 x1 x2 x3 x4 x5=>SO D n (fun a b c=>qnt D n (qoz D n) a b c) n x0 x1 x2 x3 x4 x5)
def qsi(D:DX)(n:Nat)(cC:List aM->Int->Int->aE->aE->aE->Option f7)(a0:aE):Option f7:=qd (JR D a0.1) fun p0=>qd (JK D a0.2.2.2.2.1) fun p2=>qd (U_ D a0.2.2.2.2.2.1) fun p1=>cC a0.2.1 (a0.2.1.length:Int) 0 a0 (([],[],()),[],0,[],[],([],0,()),()) ((p0.1.1.1,p0.1.1.2.1,()),[],a0.2.2.1,[],p2.1.1,(p1.1.1.1,p1.1.1.2),())
def qrw(D:DX)(n:Nat)(a0:aE):Option f7:=qsi D n (qoy D n) a0
def qqu(x0:List aM)(x1 x2:Int)(x3 x4 x5:aE):St:=bu 54 [(1,AV.addr 1 []),(2,AV.addr 2 []),(3,AV.addr 3 []),(21,AV.val IT x0),(22,AV.val ag x1),(23,AV.val ag x2)] [(1,aB.mk cU Mk.no x3 true),(2,aB.mk cU rR x4 true),(3,aB.mk cU Jb x5 true)]
def qns(a b c:aE):St:=bu 54 [(1,AV.addr 1 []),(2,AV.addr 2 []),(3,AV.addr 3 [])] [(1,aB.mk cU Mk.no a true),(2,aB.mk cU rR b true),(3,aB.mk cU Jb c true)]
def qqv(a:List eF)(b c:Int)(d e:aE):St:=bu 54 [(2,AV.addr 2 []),(3,AV.addr 3 []),(36,AV.val Kb a),(37,AV.val ag b),(38,AV.val ag c)] [(2,aB.mk cU rR d true),(3,aB.mk cU Jb e true)]
def qw9(a b:aE):St:=bu 54 [(2,AV.addr 2 []),(3,AV.addr 3 [])] [(2,aB.mk cU rR a true),(3,aB.mk cU Jb b true)]
theorem adO(D:DX)(n:Nat)(K:KT 56):∀(m:Nat)(x0:List aM)(x1 x2:Int)(x3 x4 x5:aE),LF D n 56 cG m (qqu x0 x1 x2 x3 x4 x5) K=SO D n (fun a b c=>K (Ex.exit 0) (qns a b c)) m x0 x1 x2 x3 x4 x5:=IW (fun F=>qqw D n F (fun a b c=>K (Ex.exit 0) (qns a b c)))
theorem adP(D:DX)(n:Nat)(K:KT 56):∀(m:Nat)(c:List eF)(d e:Int)(f g:aE),LF D n 56 eL m (qqv c d e f g) K=SP D n (fun a b=>K (Ex.exit 2) (qw9 a b)) m c d e f g:=pJ (fun F=>qqx D n F (fun a b=>K (Ex.exit 2) (qw9 a b)))
theorem adF(D:DX)(n:Nat)(a:List eF)(b c:Int)(d e:aE):LF D n 56 eL n (qqv a b c d e) (CF D n 56 [] eL (lF 56))=qoz D n a b c d e :=by rw[adP];kernel_rfl
theorem adG(D:DX)(n:Nat)(a b c:aE):(CF D n 56 [] cG (lF 56)) (Ex.exit 0) (qns a b c)=qnt D n (fun d e f g h=>LF D n 56 eL n (qqv d e f g h) (CF D n 56 [] eL (lF 56))) a b c:=by kernel_rfl
theorem adE(D:DX)(n:Nat)(x0)(x1)(x2)(x3)(x4)(x5):LF D n 56 cG n (qqu x0 x1 x2 x3 x4 x5) (CF D n 56 [] cG (lF 56))=qoy D n x0 x1 x2 x3 x4 x5:=by rw[adO];simp only[adG,adF];rfl
theorem aef(D:DX)(n:Nat)(a0:aE):rF D n 56 (a0,())=qrw D n a0:=by
 have h:rF D n 56 (a0,())=qsi D n (fun x0 x1 x2 x3 x4 x5=>LF D n 56 cG n (qqu x0 x1 x2 x3 x4 x5) (CF D n 56 [] cG (lF 56))) a0:=by kernel_rfl
 rw[h];simp only[adE];rfl
def FP(D:DX)(n:Nat)(a0:aE)(a1:Int):Option mB:=let y0:Option mB:=(qd (JM D a0) fun p3=>some ((((p3.1.1.1.1,p3.1.1.1.2.1,()),p3.1.1.2.1,p3.1.1.2.2.1,p3.1.1.2.2.2.1,p3.1.1.2.2.2.2.1,p3.1.1.2.2.2.2.2),false,()),()));qd (C2 D a0) fun p6=>br (!p6.1.1) y0 (qd (kZ D a1 0 (wrap .i64 ((a0.2.1.length:Int)-1))) fun p7=>br (!p7.1.1) y0 (br (decide (0<=a1)&&decide (a1<(a0.2.1.length:Int))) (qd (Vh D (List.getD a0.2.1 a1.toNat ([],0,false,[],[],()))) fun p8=>br (bif p8.1.1 then true else decide (a0.2.2.1=100000)) y0 (qd (JM D a0) fun p0=>let y1:=List.getD p0.1.1.2.1 a1.toNat ([],0,false,[],[],());br (decide (0<=a1)&&decide (a1<(p0.1.1.2.1.length:Int))) (br (!y1.2.2.1) (br (decide (0<=y1.2.1)&&decide (y1.2.1<(y1.1.length:Int))) (br (decide (p0.1.1.2.2.2.1.length+1<=f_)) (qd (C2 D ((p0.1.1.1.1,p0.1.1.1.2.1,()),List.set p0.1.1.2.1 a1.toNat (y1.1,y1.2.1,true,y1.2.2.2),wrap .i64 (p0.1.1.2.2.1+1),p0.1.1.2.2.2.1++[(a1,List.getD y1.1 (Int.toNat y1.2.1) (0,0,0,()),wrap .i64 (p0.1.1.2.2.1+1),-1,-1,(0,[],()),())],p0.1.1.2.2.2.2.1,p0.1.1.2.2.2.2.2)) fun p9=>br (!p9.1.1) y0 (some ((((p0.1.1.1.1,p0.1.1.1.2.1,()),List.set p0.1.1.2.1 a1.toNat (y1.1,y1.2.1,true,y1.2.2.2),wrap .i64 (p0.1.1.2.2.1+1),p0.1.1.2.2.2.1++[(a1,List.getD y1.1 (Int.toNat y1.2.1) (0,0,0,()),wrap .i64 (p0.1.1.2.2.1+1),-1,-1,(0,[],()),())],p0.1.1.2.2.2.2.1,p0.1.1.2.2.2.2.2),true,()),()))) none) none) (br (decide ((y1.2.2.2.2.1.length:Int)>0)) (qd (qng D ((p0.1.1.1.1,p0.1.1.1.2.1,()),p0.1.1.2.1,wrap .i64 (p0.1.1.2.2.1+1),p0.1.1.2.2.2.1,p0.1.1.2.2.2.2.1,p0.1.1.2.2.2.2.2) a1) fun p2=>qd (C2 D ((p2.2.1.1.1,p2.2.1.1.2.1,()),p2.2.1.2.1,p2.2.1.2.2.1,p2.2.1.2.2.2.1,p2.2.1.2.2.2.2.1,p2.2.1.2.2.2.2.2)) fun p4=>br (!p4.1.1) y0 (some ((((p2.2.1.1.1,p2.2.1.1.2.1,()),p2.2.1.2.1,p2.2.1.2.2.1,p2.2.1.2.2.2.1,p2.2.1.2.2.2.2.1,p2.2.1.2.2.2.2.2),true,()),()))) (qd (qqa D ((p0.1.1.1.1,p0.1.1.1.2.1,()),p0.1.1.2.1,wrap .i64 (p0.1.1.2.2.1+1),p0.1.1.2.2.2.1,p0.1.1.2.2.2.2.1,p0.1.1.2.2.2.2.2) a1) fun p1=>br (!p1.1.1) y0 (qd (C2 D ((p1.2.1.1.1,p1.2.1.1.2.1,()),p1.2.1.2.1,p1.2.1.2.2.1,p1.2.1.2.2.2.1,p1.2.1.2.2.2.2.1,p1.2.1.2.2.2.2.2)) fun p5=>br (!p5.1.1) y0 (some ((((p1.2.1.1.1,p1.2.1.1.2.1,()),p1.2.1.2.1,p1.2.1.2.2.1,p1.2.1.2.2.2.1,p1.2.1.2.2.2.2.1,p1.2.1.2.2.2.2.2),true,()),())))))) none)) none))
def UG(D:DX)(n:Nat)(a0:aE)(a1:Int):Option mB:=FP D n a0 a1
theorem aae(D:DX)(n:Nat)(a0:aE)(a1:Int):rF D n 57 (a0,(a1,()))=UG D n a0 a1:=by kernel_rfl
def aaJ(D:DX)(n:Nat)(a0 a1 a2:Int):Option ah:=some ((bif decide (a0>=a1) then decide (a0<=a2) else false,()),())
def PC(D:DX)(n:Nat)(a0 a1 a2:Int):Option ah:=aaJ D n a0 a1 a2
theorem aag(D:DX)(n:Nat)(a0 a1 a2:Int):rF D n 58 (a0,(a1,(a2,())))=PC D n a0 a1 a2:=by kernel_rfl
def OE(D:DX)(n:Nat)(a0:List ak)(a1:List bE)(a2:Int):Option aF:=let y0:=List.getD a0 a2.toNat (0,0,0,());let y1:=List.getD a1 (Int.toNat (wrap .i64 (y0.2.1-1))) (0,0,[],(0,[],()),());qd (kZ D a2 0 (wrap .i64 ((a0.length:Int)-1))) fun p1=>br (!p1.1.1) (some ((0,()),())) (br (decide (0<=a2)&&decide (a2<(a0.length:Int))) (br (decide (y0.2.1=0)) (some ((y0.1,()),())) (qd (kZ D y0.2.1 1 (a1.length:Int)) fun p2=>br (!p2.1.1) (some ((0,()),())) (br (decide (0<=wrap .i64 (y0.2.1-1))&&decide (wrap .i64 (y0.2.1-1)<(a1.length:Int))) (qd (VA D y1 a2) fun p0=>br (bif decide (y1.1=y0.2.2.1) then decide (y1.2.1=2) else false) (some ((p0.1.1.2.2.1,()),())) (some ((p0.1.1.2.1,()),()))) none))) none)
def X1(D:DX)(n:Nat)(a0:List ak)(a1:List bE)(a2:Int):Option aF:=OE D n a0 a1 a2
theorem agQ(D:DX)(n:Nat)(a0:List ak)(a1:List bE)(a2:Int):rF D n 60 (a0,(a1,(a2,())))=X1 D n a0 a1 a2:=by kernel_rfl
def qy3(D:DX)(n:Nat)(a1:bf)(a0:List aM):Option ah:=qd (q1h D a0 a1) fun b=>some ((decide (b.1.1>=0),()),())
def qmg(D:DX)(n:Nat)(a0:List aM)(a1:bf):Option ah:=qy3 D n a1 a0
theorem q5a(D:DX)(n:Nat)(a0:List aM)(a1:bf):rF D n 61 (a0,(a1,()))=qmg D n a0 a1:=by kernel_rfl
def Qt(D:DX)(n:Nat)(a0:aM):Option ah:=qd (Vh D a0) fun b=>some ((!b.1.1,()),())
def FO(D:DX)(n:Nat)(a0:aM):Option ah:=Qt D n a0
theorem akH(D:DX)(n:Nat)(a0:aM):rF D n 62 (a0,())=FO D n a0:=by kernel_rfl
def Zz(D:DX)(n:Nat)(go:List ak->Int->Int->aW->Option ah)(K0:Bool->Option ah)(K1:Option ah)(x0:List ak)(x1 x2:Int)(x3:aW):Option ah:=let y0:=List.getD x0 x2.toNat (0,0,0,());let y1:=List.getD x3.2.1 (Int.toNat (wrap .i64 (y0.2.1-1))) (0,0,[],(0,[],()),());br (decide (x2<x1)) (br (decide (0<=x2)&&decide (x2<(x0.length:Int))) (qd (Ze D y0 (x3.2.1.length:Int)) fun p0=>br (!p0.1.1) (K0 false) (br (decide (y0.2.1=0)) (go x0 x1 (wrap .i64 (x2+1)) x3) (br (decide (0<=wrap .i64 (y0.2.1-1))&&decide (wrap .i64 (y0.2.1-1)<(x3.2.1.length:Int))) (qd (VA D y1 x2) fun p1=>br (bif !p1.1.2.1 then true else y1.1 != y0.2.2.1) (K0 false) (go x0 x1 (wrap .i64 (x2+1)) x3)) none))) none) K1
def Tq(D:DX)(n:Nat)(K0:Bool->Option ah)(K1:Option ah):Nat->(List ak)->Int->Int->aW->Option ah | 0=>(fun x0 x1 x2 x3=>none) | m+1=>(fun x0 x1 x2 x3=>Zz D n (Tq D n K0 K1 m) K0 K1 x0 x1 x2 x3)
def Oj(D:DX)(n:Nat)(a:Bool):Option ah:=some ((a,()),())
def Ok(D:DX)(n:Nat):Option ah:=some ((true,()),())
def Yl(D:DX)(n:Nat):(List ak)->(Int)->(Int)->aW->Option ah:=(fun x0 x1 x2 x3=>Tq D n (fun a=>Oj D n a) (Ok D n) n x0 x1 x2 x3)
def q8z(D:DX)(n:Nat)(cC:List ak->Int->Int->aW->Option ah)(a0:aW):Option ah:=br ((a0.1.length:Int) != 20) (some ((false,()),())) (qd (kZ D (a0.2.1.length:Int) 1 4) fun b=>br (!b.1.1) (some ((false,()),())) (qd (qd3 D a0.2.1 (bf.mk 110 [])) fun b=>br b.1.1 (some ((false,()),())) (cC a0.1 (a0.1.length:Int) 0 a0)))
def ZU(D:DX)(n:Nat)(a0:aW):Option ah:=q8z D n (Yl D n) a0
def Zy(x0:List ak)(x1 x2:Int)(x3:aW):St:=bu 64 [(1,AV.addr 1 []),(25,AV.val bQ x0),(26,AV.val ag x1),(27,AV.val ag x2)] [(1,aB.mk jX Mk.no x3 true)]
def Oh(a:Bool):St:=bu 64 [(2,AV.val Ty.bool a)] []
def Oi:St:=bu 64 [] []
theorem ahz(D:DX)(n:Nat)(K:KT 63):∀(m:Nat)(x0:List ak)(x1 x2:Int)(x3:aW),LF D n 63 cG m (Zy x0 x1 x2 x3) K=Tq D n (fun a=>K (Ex.ret) (Oh a)) (K (Ex.exit 0) (Oi)) m x0 x1 x2 x3:=y_ (fun F=>Zz D n F (fun a=>K (Ex.ret) (Oh a)) (K (Ex.exit 0) (Oi)))
theorem agj(D:DX)(n:Nat)(x0)(x1)(x2)(x3):LF D n 63 cG n (Zy x0 x1 x2 x3) (CF D n 63 [] cG (lF 63))=Yl D n x0 x1 x2 x3 :=by rw[ahz];kernel_rfl
theorem aiD(D:DX)(n:Nat)(a0:aW):rF D n 63 (a0,())=ZU D n a0:=by
 have h:rF D n 63 (a0,())=q8z D n (fun x0 x1 x2 x3=>LF D n 63 cG n (Zy x0 x1 x2 x3) (CF D n 63 [] cG (lF 63))) a0:=by kernel_rfl
 rw[h];simp only[agj];rfl
def qhp(D:DX)(n:Nat)(a1:bf)(a0:List ak):Option ah:=qd (qiq D a0 a1) fun b=>some ((decide (b.1.1>=0),()),())
def qd8(D:DX)(n:Nat)(a0:List ak)(a1:bf):Option ah:=qhp D n a1 a0
theorem qoc(D:DX)(n:Nat)(a0:List ak)(a1:bf):rF D n 64 (a0,(a1,()))=qd8 D n a0 a1:=by kernel_rfl
def YO(D:DX)(n:Nat)(go:List Int->Int->Int->aC->Option ah)(K0:Bool->aC->Option ah)(K1:aC->Option ah)(x0:List Int)(x1 x2:Int)(x3:aC):Option ah:=br (decide (x2<x1)) (br (decide (0<=x2)&&decide (x2<(x0.length:Int))) (br (List.getD x0 x2.toNat 0 != 0) (qd (BT D (List.getD x0 x2.toNat 0)) fun p0=>br (!p0.1.1) (K0 false x3) (br (decide (0<=0)&&decide (0<=x2)&&decide (x2<=(x3.1.length:Int))) (qd (U8 D (List.drop (Int.toNat 0) (List.take x2.toNat x3.1)) (List.getD x0 x2.toNat 0)) fun p1=>br p1.1.1 (K0 false x3) (go x0 x1 (wrap .i64 (x2+1)) x3)) none)) (go x0 x1 (wrap .i64 (x2+1)) x3)) none) (K1 x3)
def Tm(D:DX)(n:Nat)(K0:Bool->aC->Option ah)(K1:aC->Option ah):Nat->(List Int)->Int->Int->aC->Option ah | 0=>(fun x0 x1 x2 x3=>none) | m+1=>(fun x0 x1 x2 x3=>YO D n (Tm D n K0 K1 m) K0 K1 x0 x1 x2 x3)
def q88(D:DX)(n:Nat)(a:Bool)(b:aC):Option ah:=some ((a,()),())
def qwd(D:DX)(n:Nat)(a:aC):Option ah:=br (decide ((a.1.length:Int)=4)) (qd (kZ D a.2.1 0 5) fun b=>some ((b.1.1,()),())) (some ((false,()),()))
def qys(D:DX)(n:Nat):(List Int)->(Int)->(Int)->aC->Option ah:=(fun x0 x1 x2 x3=>Tm D n (fun a b=>q88 D n a b) (fun c=>qwd D n c) n x0 x1 x2 x3)
def ZD(D:DX)(n:Nat)(cC:List Int->Int->Int->aC->Option ah)(a0:aC):Option ah:=cC a0.1 (a0.1.length:Int) 0 a0
def Zq(D:DX)(n:Nat)(a0:aC):Option ah:=ZD D n (qys D n) a0
def YN(x0:List Int)(x1 x2:Int)(x3:aC):St:=bu 38 [(1,AV.addr 1 []),(6,AV.val bG x0),(7,AV.val ag x1),(8,AV.val ag x2)] [(1,aB.mk bZ Mk.no x3 true)]
def q86(a:Bool)(b:aC):St:=bu 38 [(1,AV.addr 1 []),(2,AV.val Ty.bool a)] [(1,aB.mk bZ Mk.no b true)]
def q87(a:aC):St:=bu 38 [(1,AV.addr 1 [])] [(1,aB.mk bZ Mk.no a true)]
theorem agl(D:DX)(n:Nat)(K:KT 66):∀(m:Nat)(x0:List Int)(x1 x2:Int)(x3:aC),LF D n 66 eI m (YN x0 x1 x2 x3) K=Tm D n (fun a b=>K (Ex.ret) (q86 a b)) (fun c=>K (Ex.exit 0) (q87 c)) m x0 x1 x2 x3:=y_ (fun F=>YO D n F (fun a b=>K (Ex.ret) (q86 a b)) (fun c=>K (Ex.exit 0) (q87 c)))
theorem afN(D:DX)(n:Nat)(x0)(x1)(x2)(x3):LF D n 66 eI n (YN x0 x1 x2 x3) (CF D n 66 [] eI (lF 66))=qys D n x0 x1 x2 x3 :=by rw[agl];kernel_rfl
theorem ahV(D:DX)(n:Nat)(a0:aC):rF D n 66 (a0,())=Zq D n a0:=by
 have h:rF D n 66 (a0,())=ZD D n (fun x0 x1 x2 x3=>LF D n 66 eI n (YN x0 x1 x2 x3) (CF D n 66 [] eI (lF 66))) a0:=by kernel_rfl
 rw[h];simp only[afN];rfl
def qlp(D:DX)(n:Nat)(go:List Int->List Int->Int->Int->Option ah)(K0:Bool->Option ah)(K1:Option ah)(x0 x1:List Int)(x2 x3:Int):Option ah:=br (decide (x3<x2)) (br (decide (0<=x3)&&decide (x3<(x0.length:Int))) (br (decide (0<=x3)&&decide (x3<(x1.length:Int))) (br (List.getD x0 x3.toNat 0 != List.getD x1 x3.toNat 0) (K0 false) (go x0 x1 x2 (wrap .i64 (x3+1)))) none) none) K1
def SI(D:DX)(n:Nat)(K0:Bool->Option ah)(K1:Option ah):Nat->(List Int)->(List Int)->Int->Int->Option ah | 0=>(fun x0 x1 x2 x3=>none) | m+1=>(fun x0 x1 x2 x3=>qlp D n (SI D n K0 K1 m) K0 K1 x0 x1 x2 x3)
def qrb(D:DX)(n:Nat)(a:Bool):Option ah:=some ((a,()),())
def qrc(D:DX)(n:Nat):Option ah:=some ((true,()),())
def qle(D:DX)(n:Nat):(List Int)->(List Int)->(Int)->(Int)->Option ah:=(fun x0 x1 x2 x3=>SI D n (fun a=>qrb D n a) (qrc D n) n x0 x1 x2 x3)
def qmz(D:DX)(n:Nat)(cC:List Int->List Int->Int->Int->Option ah)(a0 a1:List Int):Option ah:=br ((a0.length:Int) != (a1.length:Int)) (some ((false,()),())) (cC a0 a1 (a0.length:Int) 0)
def qms(D:DX)(n:Nat)(a0 a1:List Int):Option ah:=qmz D n (qle D n) a0 a1
def qlo(x0 x1:List Int)(x2 x3:Int):St:=bu 26 [(0,AV.val bG x0),(1,AV.val bG x1),(12,AV.val ag x2),(13,AV.val ag x3)] []
def qq9(a:Bool):St:=bu 26 [(4,AV.val Ty.bool a)] []
def qra:St:=bu 26 [] []
theorem q9q(D:DX)(n:Nat)(K:KT 67):∀(m:Nat)(x0 x1:List Int)(x2 x3:Int),LF D n 67 cG m (qlo x0 x1 x2 x3) K=SI D n (fun a=>K (Ex.ret) (qq9 a)) (K (Ex.exit 0) (qra)) m x0 x1 x2 x3:=y_ (fun F=>qlp D n F (fun a=>K (Ex.ret) (qq9 a)) (K (Ex.exit 0) (qra)))
theorem q7c(D:DX)(n:Nat)(x0)(x1)(x2)(x3):LF D n 67 cG n (qlo x0 x1 x2 x3) (CF D n 67 [] cG (lF 67))=qle D n x0 x1 x2 x3 :=by rw[q9q];kernel_rfl
theorem adv(D:DX)(n:Nat)(a0 a1:List Int):rF D n 67 (a0,(a1,()))=qms D n a0 a1:=by
 have h:rF D n 67 (a0,(a1,()))=qmz D n (fun x0 x1 x2 x3=>LF D n 67 cG n (qlo x0 x1 x2 x3) (CF D n 67 [] cG (lF 67))) a0 a1:=by kernel_rfl
 rw[h];simp only[q7c];rfl
def qyu(D:DX)(n:Nat)(go:List Int->Int->Int->aC->List Int->Option cZ)(K0:aC->List Int->Option cZ)(x0:List Int)(x1 x2:Int)(x3:aC)(x4:List Int):Option cZ:=let y0:=wrap .i64 (x2+1);let y1:=List.getD x0 x2.toNat 0;br (decide (x2<x1)) (br (decide (0<=x2)&&decide (x2<(x0.length:Int))) (br (decide (y1=0)) (go x0 x1 y0 x3 x4) (qd (vN D y1) fun p1=>let y2:=List.set x4 p1.1.1.toNat y0;br (decide (0<=p1.1.1)&&decide (p1.1.1<(x4.length:Int))) (qd (uQ D y1) fun p3=>qd (yl D p3.1.1) fun p0=>let y3:=List.set y2 p0.1.1.toNat (wrap .i64 (List.getD y2 p0.1.1.toNat 0+1));br (decide (0<=p0.1.1)&&decide (p0.1.1<(y2.length:Int))) (br (decide (0<=p0.1.1)&&decide (p0.1.1<(y2.length:Int))) (br (decide (x2<wrap .i64 (x3.2.1-1))) (qd (sI D y1) fun p2=>br (decide (0<=p2.1.1)&&decide (p2.1.1<(y3.length:Int))) (go x0 x1 y0 x3 (List.set y3 p2.1.1.toNat y0)) none) (go x0 x1 y0 x3 y3)) none) none) none)) none) (K0 x3 x4)
def S9(D:DX)(n:Nat)(K0:aC->List Int->Option cZ):Nat->(List Int)->Int->Int->aC->(List Int)->Option cZ | 0=>(fun x0 x1 x2 x3 x4=>none) | m+1=>(fun x0 x1 x2 x3 x4=>qyu D n (S9 D n K0 m) K0 x0 x1 x2 x3 x4)
def qup(D:DX)(n:Nat)(c:aC)(a:List Int):Option cZ:=qd (sH D) fun b=>br (decide (0<=b.1.1)&&decide (b.1.1<(a.length:Int))) (some ((List.set a b.1.1.toNat c.2.1,()),())) none
def qwe(D:DX)(n:Nat):(List Int)->(Int)->(Int)->aC->(List Int)->Option cZ:=(fun x0 x1 x2 x3 x4=>S9 D n (fun a b=>qup D n a b) n x0 x1 x2 x3 x4)
def YP(D:DX)(n:Nat)(cC:List Int->Int->Int->aC->List Int->Option cZ)(a0:aC):Option cZ:=qd (To D a0) fun p0=>br (!p0.1.1) (some (([],()),())) (br (decide (0<a0.1.length)&&decide (0<(List.replicate (Int.toNat 20) 0).length)) (cC a0.1 (a0.1.length:Int) 0 a0 (vZ ag (List.replicate (Int.toNat 20) 0) a0.1)) (cC a0.1 (a0.1.length:Int) 0 a0 (List.replicate (Int.toNat 20) 0)))
def X2(D:DX)(n:Nat)(a0:aC):Option cZ:=YP D n (qwe D n) a0
def qyt(x0:List Int)(x1 x2:Int)(x3:aC)(x4:List Int):St:=bu 56 [(1,AV.addr 1 []),(3,AV.b7 3 [] 0),(15,AV.val bG x0),(16,AV.val ag x1),(17,AV.val ag x2)] [(1,aB.mk bZ Mk.no x3 true),(3,aB.mk bG eZ x4 false)]
def q6l(a:aC)(b:List Int):St:=bu 56 [(1,AV.addr 1 []),(3,AV.b7 3 [] 0)] [(1,aB.mk bZ Mk.no a true),(3,aB.mk bG eZ b false)]
theorem afO(D:DX)(n:Nat)(K:KT 68):∀(m:Nat)(x0:List Int)(x1 x2:Int)(x3:aC)(x4:List Int),LF D n 68 lS m (qyt x0 x1 x2 x3 x4) K=S9 D n (fun a b=>K (Ex.exit 0) (q6l a b)) m x0 x1 x2 x3 x4:=pJ (fun F=>qyu D n F (fun a b=>K (Ex.exit 0) (q6l a b)))
theorem aeD(D:DX)(n:Nat)(x0)(x1)(x2)(x3)(x4):LF D n 68 lS n (qyt x0 x1 x2 x3 x4) (CF D n 68 [] lS (lF 68))=qwe D n x0 x1 x2 x3 x4 :=by rw[afO];kernel_rfl
theorem agR(D:DX)(n:Nat)(a0:aC):rF D n 68 (a0,())=X2 D n a0:=by
 have h:rF D n 68 (a0,())=YP D n (fun x0 x1 x2 x3 x4=>LF D n 68 lS n (qyt x0 x1 x2 x3 x4) (CF D n 68 [] lS (lF 68))) a0:=by kernel_rfl
 rw[h];simp only[aeD];rfl
def qmy(D:DX)(n:Nat)(a0:List Int):Option cZ:=br (decide (Int.toNat (a0.length:Int)=0)) (both (some (([],()),())) (br (decide (0+a0.length<=f_)) (some (([]++a0,()),())) none)) (br (decide (0+a0.length<=f_)) (some (([]++a0,()),())) none)
def Vc(D:DX)(n:Nat)(a0:List Int):Option cZ:=qmy D n a0
theorem adu(D:DX)(n:Nat)(a0:List Int):rF D n 69 (a0,())=Vc D n a0:=by kernel_rfl
def Qw(D:DX)(n:Nat):Option aF:=some ((13,()),())
def Ga(D:DX)(n:Nat):Option aF:=Qw D n
theorem agP(D:DX)(n:Nat):rF D n 70 ()=Ga D n:=by kernel_rfl
def aaK(D:DX)(n:Nat)(a0:aC):Option ah:=some ((decide (a0.2.1=5),()),())
def PD(D:DX)(n:Nat)(a0:aC):Option ah:=aaK D n a0
theorem aah(D:DX)(n:Nat)(a0:aC):rF D n 71 (a0,())=PD D n a0:=by kernel_rfl
def qyi(D:DX)(n:Nat)(a0:List Int)(a1:Int):Option gN:=qd (HZ D a0) fun p0=>br (bif !p0.1.1 then true else decide (a1<0)) (some ((0,false,()),())) (br (decide (0<=a1)&&decide (a1<(a0.length:Int))) (br (decide (List.getD a0 a1.toNat 0=0)) (some ((0,false,()),())) (br (decide (0<=a1)&&decide (a1<(a0.length:Int))) (some ((wrap .i64 (List.getD a0 a1.toNat 0-1),true,()),())) none)) none)
def qtu(D:DX)(n:Nat)(a0:List Int)(a1:Int):Option gN:=qyi D n a0 a1
theorem q03(D:DX)(n:Nat)(a0:List Int)(a1:Int):rF D n 72 (a0,(a1,()))=qtu D n a0 a1:=by kernel_rfl
def Oy(D:DX)(n:Nat)(a0:Int):Option aF:=qd (BT D a0) fun b=>qd (JT D b.1.1 (wrap .i64 (3+a0))) fun b=>some ((b.1.1,()),())
def X0(D:DX)(n:Nat)(a0:Int):Option aF:=Oy D n a0
theorem agO(D:DX)(n:Nat)(a0:Int):rF D n 73 (a0,())=X0 D n a0:=by kernel_rfl
def qlr(D:DX)(n:Nat)(go:List Int->Int->Int->Int->Option aF)(K0:Int->Option aF)(K1:Option aF)(x0:List Int)(x1 x2 x3:Int):Option aF:=br (decide (x3<x2)) (br (decide (0<=x3)&&decide (x3<(x0.length:Int))) (br (decide (x1=List.getD x0 x3.toNat 0)) (K0 x3) (go x0 x1 x2 (wrap .i64 (x3+1)))) none) K1
def SJ(D:DX)(n:Nat)(K0:Int->Option aF)(K1:Option aF):Nat->(List Int)->Int->Int->Int->Option aF | 0=>(fun x0 x1 x2 x3=>none) | m+1=>(fun x0 x1 x2 x3=>qlr D n (SJ D n K0 K1 m) K0 K1 x0 x1 x2 x3)
def qrf(D:DX)(n:Nat)(a:Int):Option aF:=some ((a,()),())
def qrg(D:DX)(n:Nat):Option aF:=some ((-1,()),())
def qlf(D:DX)(n:Nat):(List Int)->(Int)->(Int)->(Int)->Option aF:=(fun x0 x1 x2 x3=>SJ D n (fun a=>qrf D n a) (qrg D n) n x0 x1 x2 x3)
def qm0(D:DX)(n:Nat)(cC:List Int->Int->Int->Int->Option aF)(a0:List Int)(a1:Int):Option aF:=cC a0 a1 (a0.length:Int) 0
def qmt(D:DX)(n:Nat)(a0:List Int)(a1:Int):Option aF:=qm0 D n (qlf D n) a0 a1
def qlq(x0:List Int)(x1 x2 x3:Int):St:=bu 19 [(0,AV.val bG x0),(1,AV.val ag x1),(7,AV.val ag x2),(8,AV.val ag x3)] []
def qrd(a:Int):St:=bu 19 [(4,AV.val ag a)] []
def qre:St:=bu 19 [] []
theorem q9r(D:DX)(n:Nat)(K:KT 74):∀(m:Nat)(x0:List Int)(x1 x2 x3:Int),LF D n 74 eI m (qlq x0 x1 x2 x3) K=SJ D n (fun a=>K (Ex.ret) (qrd a)) (K (Ex.exit 0) (qre)) m x0 x1 x2 x3:=y_ (fun F=>qlr D n F (fun a=>K (Ex.ret) (qrd a)) (K (Ex.exit 0) (qre)))
theorem q7d(D:DX)(n:Nat)(x0)(x1)(x2)(x3):LF D n 74 eI n (qlq x0 x1 x2 x3) (CF D n 74 [] eI (lF 74))=qlf D n x0 x1 x2 x3 :=by rw[q9r];kernel_rfl
theorem adw(D:DX)(n:Nat)(a0:List Int)(a1:Int):rF D n 74 (a0,(a1,()))=qmt D n a0 a1:=by
 have h:rF D n 74 (a0,(a1,()))=qm0 D n (fun x0 x1 x2 x3=>LF D n 74 eI n (qlq x0 x1 x2 x3) (CF D n 74 [] eI (lF 74))) a0 a1:=by kernel_rfl
 rw[h];simp only[q7d];rfl
def aiq(D:DX)(n:Nat)(a0:Bool)(a1:Int):Option aF:=br (!a0) (some ((-1,()),())) (some ((a1,()),()))
def OW(D:DX)(n:Nat)(a0:Bool)(a1:Int):Option aF:=aiq D n a0 a1
theorem ahZ(D:DX)(n:Nat)(a0:Bool)(a1:Int):rF D n 75 (a0,(a1,()))=OW D n a0 a1:=by kernel_rfl
def Pb(D:DX)(n:Nat)(a0:Int):Option ah:=qd (kZ D a0 1 6) fun b=>some ((b.1.1,()),())
def ZW(D:DX)(n:Nat)(a0:Int):Option ah:=Pb D n a0
theorem aiF(D:DX)(n:Nat)(a0:Int):rF D n 76 (a0,())=ZW D n a0:=by kernel_rfl
def OK(D:DX)(n:Nat)(a0:Int):Option aF:=qd (BT D a0) fun b=>br (!b.1.1) (some ((-1,()),())) (some ((Int.tmod a0 3,()),()))
def XV(D:DX)(n:Nat)(a0:Int):Option aF:=OK D n a0
theorem agJ(D:DX)(n:Nat)(a0:Int):rF D n 77 (a0,())=XV D n a0:=by kernel_rfl
def q32(D:DX)(n:Nat)(a0:eF)(a1:Int)(a2:aE):Option ah:=br (decide (a1 = -1)) (some ((true,()),())) (qd (kZ D a1 a0.2.2.1 a2.2.2.1) fun b=>some ((b.1.1,()),()))
def qru(D:DX)(n:Nat)(a0:eF)(a1:Int)(a2:aE):Option ah:=q32 D n a0 a1 a2
theorem aed(D:DX)(n:Nat)(a0:eF)(a1:Int)(a2:aE):rF D n 79 (a0,(a1,(a2,())))=qru D n a0 a1 a2:=by kernel_rfl
def PF(D:DX)(n:Nat)(a0:ak):Option ah:=let y3:Option ah:=(qd (BT D a0.2.2.1) fun p1=>some ((p1.1.1,()),()));let y6:Option ah:=br (decide (a0.2.1=0)) y3 (some ((false,()),()));let y1:Option ah:=(br (decide (a0.1=6)) (qd (VC D a0.2.1) fun p3=>some ((bif p3.1.1 then decide (a0.2.2.1=0) else false,()),())) (br (decide (a0.1=7)) (br (decide (a0.1=7)) (some ((bif decide (a0.2.1=0) then decide (a0.2.2.1=0) else false,()),())) (some ((false,()),()))) (br (decide (a0.1=8)) (br (decide (a0.1=8)) (some ((bif decide (a0.2.1=0) then decide (a0.2.2.1=0) else false,()),())) (some ((false,()),()))) (br (decide (a0.1=9)) (some ((bif decide (a0.2.1=0) then decide (a0.2.2.1=0) else false,()),())) (some ((false,()),()))))));let y0:Option ah:=br (decide (a0.1=5)) (br (decide (a0.1=5)) y6 y1) (br (decide (a0.1=10)) y6 y1);let y2:Option ah:=(qd (Tz D a0.2.1) fun p2=>some ((bif p2.1.1 then decide (a0.2.2.1=0) else false,()),()));let y4:Option ah:=br (decide (a0.1=3)) (br (decide (a0.1=3)) y2 y0) (br (decide (a0.1=4)) y2 y0);let y5:Option ah:=(qd (Tz D a0.2.1) fun p0=>br p0.1.1 y3 (some ((false,()),())));br (decide (a0.1=1)) (br (decide (a0.1=1)) y5 y4) (br (decide (a0.1=2)) y5 y4)
def FZ(D:DX)(n:Nat)(a0:ak):Option ah:=PF D n a0
theorem aaa(D:DX)(n:Nat)(a0:ak):rF D n 80 (a0,())=FZ D n a0:=by kernel_rfl
def Ol(D:DX)(n:Nat)(a0:aM)(a1:Int):Option ah:=let y0:Option ah:=(qd (US D a0.2.2.2.1 (bf.mk 123 [])) fun p2=>br p2.1.1 (some ((false,()),())) (qd (UR D a0.2.2.2.2.1 (bf.mk 127 [bD.cj ag a1])) fun p3=>some ((!p3.1.1,()),())));br (decide ((a0.1.length:Int)>8)) (some ((false,()),())) (qd (qfn D a0.1 (bf.mk 121 [])) fun p0=>br p0.1.1 (some ((false,()),())) (qd (kZ D a0.2.1 0 (a0.1.length:Int)) fun p1=>br (bif bif bif !p1.1.1 then true else bif a0.2.2.1 then decide (a0.2.1=(a0.1.length:Int)) else false then true else decide ((a0.2.2.2.1.length:Int)>12) then true else decide ((a0.2.2.2.2.1.length:Int)>2)) (some ((false,()),())) (br (!a0.2.2.1) (br (decide (wrap .i64 ((a0.2.2.2.1.length:Int)+(a0.2.2.2.2.1.length:Int))>0)) (some ((false,()),())) y0) y0)))
def qxx(D:DX)(n:Nat)(a0:aM)(a1:Int):Option ah:=Ol D n a0 a1
theorem af9(D:DX)(n:Nat)(a0:aM)(a1:Int):rF D n 81 (a0,(a1,()))=qxx D n a0 a1:=by kernel_rfl
def qyw(D:DX)(n:Nat)(go:Int->Int->Int->Int->List eF->Int->Int->aE->aM->Option ah)(K0:Int->Int->Int->aE->aM->Option ah)(x0 x1 x2 x3:Int)(x4:List eF)(x5 x6:Int)(x7:aE)(x8:aM):Option ah:=let y0:=List.getD x4 x6.toNat (0,(0,0,0,()),0,0,0,(0,[],()),());let y1:=wrap .i64 (x6+1);br (decide (x6<x5)) (br (decide (0<=x6)&&decide (x6<(x4.length:Int))) (br (y0.1 != x0) (go x0 x1 x2 x3 x4 x5 y1 x7 x8) (br (decide (y0.2.2.2.2.1>=0)) (go x0 x6 (wrap .i64 (x2+1)) x3 x4 x5 y1 x7 x8) (go x0 x6 x2 (wrap .i64 (x3+1)) x4 x5 y1 x7 x8))) none) (K0 x1 x2 x3 x7 x8)
def S_(D:DX)(n:Nat)(K0:Int->Int->Int->aE->aM->Option ah):Nat->Int->Int->Int->Int->(List eF)->Int->Int->aE->aM->Option ah | 0=>(fun x0 x1 x2 x3 x4 x5 x6 x7 x8=>none) | m+1=>(fun x0 x1 x2 x3 x4 x5 x6 x7 x8=>qyw D n (S_ D n K0 m) K0 x0 x1 x2 x3 x4 x5 x6 x7 x8)
def qur(D:DX)(n:Nat)(b e d:Int)(c:aE)(a:aM):Option ah:=let y0:=List.getD c.2.2.2.1 b.toNat (0,(0,0,0,()),0,0,0,(0,[],()),());br (e != a.2.1) (some ((false,()),())) (br (!a.2.2.1) (some ((decide (d=0),()),())) (br (bif decide (b>=0) then decide (d=1) else false) (br (decide (0<=b)&&decide (b<(c.2.2.2.1.length:Int))) (br (decide (y0.2.2.2.2.1 = -1)) (br (decide (0<=b)&&decide (b<(c.2.2.2.1.length:Int))) (br (decide (0<=a.2.1)&&decide (a.2.1<(a.1.length:Int))) (some ((pP bW y0.2.1 (List.getD a.1 a.2.1.toNat (0,0,0,())),()),())) none) none) (some ((false,()),()))) none) (some ((false,()),()))))
def qwf(D:DX)(n:Nat):(Int)->(Int)->(Int)->(Int)->(List eF)->(Int)->(Int)->aE->aM->Option ah:=(fun x0 x1 x2 x3 x4 x5 x6 x7 x8=>S_ D n (fun a b c d e=>qur D n a b c d e) n x0 x1 x2 x3 x4 x5 x6 x7 x8)
def YR(D:DX)(n:Nat)(cC:Int->Int->Int->Int->List eF->Int->Int->aE->aM->Option ah)(a0:aE)(a1:Int):Option ah:=br (decide (0<=a1)&&decide (a1<(a0.2.1.length:Int))) (cC a1 (-1) 0 0 a0.2.2.2.1 (a0.2.2.2.1.length:Int) 0 a0 (List.getD a0.2.1 a1.toNat ([],0,false,[],[],()))) none
def Ym(D:DX)(n:Nat)(a0:aE)(a1:Int):Option ah:=YR D n (qwf D n) a0 a1
def qyv(x0 x1 x2 x3:Int)(x4:List eF)(x5 x6:Int)(x7:aE)(x8:aM):St:=bu 76 [(1,AV.val ag x0),(2,AV.addr 2 []),(5,AV.addr 5 []),(6,AV.val ag x1),(7,AV.val ag x2),(8,AV.val ag x3),(17,AV.val Kb x4),(18,AV.val ag x5),(19,AV.val ag x6)] [(2,aB.mk cU Mk.no x7 true),(5,aB.mk jG Mk.no x8 true)]
def q6m(a b c:Int)(d:aE)(e:aM):St:=bu 76 [(2,AV.addr 2 []),(5,AV.addr 5 []),(6,AV.val ag a),(7,AV.val ag b),(8,AV.val ag c)] [(2,aB.mk cU Mk.no d true),(5,aB.mk jG Mk.no e true)]
theorem afP(D:DX)(n:Nat)(K:KT 82):∀(m:Nat)(x0 x1 x2 x3:Int)(x4:List eF)(x5 x6:Int)(x7:aE)(x8:aM),LF D n 82 zm m (qyv x0 x1 x2 x3 x4 x5 x6 x7 x8) K=S_ D n (fun a b c d e=>K (Ex.exit 0) (q6m a b c d e)) m x0 x1 x2 x3 x4 x5 x6 x7 x8:=T8 (fun F=>qyw D n F (fun a b c d e=>K (Ex.exit 0) (q6m a b c d e)))
theorem aeF(D:DX)(n:Nat)(x0)(x1)(x2)(x3)(x4)(x5)(x6)(x7)(x8):LF D n 82 zm n (qyv x0 x1 x2 x3 x4 x5 x6 x7 x8) (CF D n 82 [] zm (lF 82))=qwf D n x0 x1 x2 x3 x4 x5 x6 x7 x8 :=by rw[afP];kernel_rfl
theorem agS(D:DX)(n:Nat)(a0:aE)(a1:Int):rF D n 82 (a0,(a1,()))=Ym D n a0 a1:=by
 have h:rF D n 82 (a0,(a1,()))=YR D n (fun x0 x1 x2 x3 x4 x5 x6 x7 x8=>LF D n 82 zm n (qyv x0 x1 x2 x3 x4 x5 x6 x7 x8) (CF D n 82 [] zm (lF 82))) a0 a1:=by kernel_rfl
 rw[h];simp only[aeF];rfl
def qy1(D:DX)(n:Nat)(go:Int->List eF->Int->Int->aE->Option ah)(K0:Int->aE->Option ah)(x0:Int)(x1:List eF)(x2 x3:Int)(x4:aE):Option ah:=br (decide (x3<x2)) (br (decide (0<=x3)&&decide (x3<(x1.length:Int))) (br (decide ((List.getD x1 x3.toNat (0,(0,0,0,()),0,0,0,(0,[],()),())).2.2.2.1>=0)) (go (wrap .i64 (x0+1)) x1 x2 (wrap .i64 (x3+1)) x4) (go x0 x1 x2 (wrap .i64 (x3+1)) x4)) none) (K0 x0 x4)
def Tb(D:DX)(n:Nat)(K0:Int->aE->Option ah):Nat->Int->(List eF)->Int->Int->aE->Option ah | 0=>(fun x0 x1 x2 x3 x4=>none) | m+1=>(fun x0 x1 x2 x3 x4=>qy1 D n (Tb D n K0 m) K0 x0 x1 x2 x3 x4)
def qy2(D:DX)(n:Nat)(go:Int->List Int->Int->Int->aE->Option ah)(K0:Bool->Int->aE->Option ah)(K1:Int->aE->Option ah)(c:Int)(d:List Int)(e b:Int)(a:aE):Option ah:=let y2:=List.getD d b.toNat 0;let y0:=List.getD a.2.2.2.1 (Int.toNat y2) (0,(0,0,0,()),0,0,0,(0,[],()),());let y1:=Int.toNat (wrap .i64 (b-1));br (decide (b<e)) (br (decide (0<=b)&&decide (b<(d.length:Int))) (qd (kZ D y2 0 (wrap .i64 ((a.2.2.2.1.length:Int)-1))) fun p0=>br (!p0.1.1) (K0 false c a) (br (decide (0<=y2)&&decide (y2<(a.2.2.2.1.length:Int))) (br (decide (y0.2.2.2.1<0)) (K0 false c a) (br (decide (0<=0)&&decide (0<=b)&&decide (b<=(a.2.2.2.2.1.length:Int))) (qd (U8 D (List.drop (Int.toNat 0) (List.take b.toNat a.2.2.2.2.1)) y2) fun p1=>br p1.1.1 (K0 false c a) (br (decide (b>0)) (br (decide (0<=wrap .i64 (b-1))&&decide (wrap .i64 (b-1)<(a.2.2.2.2.1.length:Int))) (br (decide (0<=List.getD a.2.2.2.2.1 y1 0)&&decide (List.getD a.2.2.2.2.1 y1 0<(a.2.2.2.1.length:Int))) (br (decide (0<=y2)&&decide (y2<(a.2.2.2.1.length:Int))) (br (decide ((List.getD a.2.2.2.1 (Int.toNat (List.getD a.2.2.2.2.1 y1 0)) (0,(0,0,0,()),0,0,0,(0,[],()),())).2.2.2.1>y0.2.2.2.1)) (K0 false c a) (go c d e (wrap .i64 (b+1)) a)) none) none) none) (go c d e (wrap .i64 (b+1)) a))) none)) none)) none) (K1 c a)
def Tc(D:DX)(n:Nat)(K0:Bool->Int->aE->Option ah)(K1:Int->aE->Option ah):Nat->Int->(List Int)->Int->Int->aE->Option ah | 0=>(fun a b c d e=>none) | m+1=>(fun a b c d e=>qy2 D n (Tc D n K0 K1 m) K0 K1 a b c d e)
def ae5(D:DX)(n:Nat)(a:Bool)(b:Int)(c:aE):Option ah:=some ((a,()),())
def q6r(D:DX)(n:Nat)(a:Int)(b:aE):Option ah:=some ((decide (a=(b.2.2.2.2.1.length:Int)),()),())
def qwi(D:DX)(n:Nat):(Int)->(List Int)->(Int)->(Int)->aE->Option ah:=(fun a b h i j=>Tc D n (fun c d e=>ae5 D n c d e) (fun f g=>q6r D n f g) n a b h i j)
def qut(D:DX)(n:Nat)(mH:Int->List Int->Int->Int->aE->Option ah)(b:Int)(a:aE):Option ah:=mH b a.2.2.2.2.1 (a.2.2.2.2.1.length:Int) 0 a
def qwh(D:DX)(n:Nat):(Int)->(List eF)->(Int)->(Int)->aE->Option ah:=(fun x0 x1 x2 x3 x4=>Tb D n (fun a b=>qut D n (qwi D n) a b) n x0 x1 x2 x3 x4)
def YT(D:DX)(n:Nat)(cC:Int->List eF->Int->Int->aE->Option ah)(a0:aE):Option ah:=cC 0 a0.2.2.2.1 (a0.2.2.2.1.length:Int) 0 a0
def Ys(D:DX)(n:Nat)(a0:aE):Option ah:=YT D n (qwh D n) a0
def qyz(x0:Int)(x1:List eF)(x2 x3:Int)(x4:aE):St:=bu 83 [(1,AV.addr 1 []),(3,AV.val ag x0),(9,AV.val Kb x1),(10,AV.val ag x2),(11,AV.val ag x3)] [(1,aB.mk cU Mk.no x4 true)]
def qus(a:Int)(b:aE):St:=bu 83 [(1,AV.addr 1 []),(3,AV.val ag a)] [(1,aB.mk cU Mk.no b true)]
def qy0(a:Int)(b:List Int)(c d:Int)(e:aE):St:=bu 83 [(1,AV.addr 1 []),(3,AV.val ag a),(22,AV.val bG b),(23,AV.val ag c),(24,AV.val ag d)] [(1,aB.mk cU Mk.no e true)]
def q6p(a:Bool)(b:Int)(c:aE):St:=bu 83 [(1,AV.addr 1 []),(2,AV.val Ty.bool a),(3,AV.val ag b)] [(1,aB.mk cU Mk.no c true)]
def q6q(a:Int)(b:aE):St:=bu 83 [(1,AV.addr 1 []),(3,AV.val ag a)] [(1,aB.mk cU Mk.no b true)]
theorem afR(D:DX)(n:Nat)(K:KT 83):∀(m:Nat)(x0:Int)(x1:List eF)(x2 x3:Int)(x4:aE),LF D n 83 cG m (qyz x0 x1 x2 x3 x4) K=Tb D n (fun a b=>K (Ex.exit 0) (qus a b)) m x0 x1 x2 x3 x4:=pJ (fun F=>qy1 D n F (fun a b=>K (Ex.exit 0) (qus a b)))
theorem afS(D:DX)(n:Nat)(K:KT 83):∀(m:Nat)(f:Int)(g:List Int)(h i:Int)(j:aE),LF D n 83 eL m (qy0 f g h i j) K=Tc D n (fun a b c=>K (Ex.ret) (q6p a b c)) (fun d e=>K (Ex.exit 2) (q6q d e)) m f g h i j:=pJ (fun F=>qy2 D n F (fun a b c=>K (Ex.ret) (q6p a b c)) (fun d e=>K (Ex.exit 2) (q6q d e)))
theorem aeJ(D:DX)(n:Nat)(a:Int)(b:List Int)(c d:Int)(e:aE):LF D n 83 eL n (qy0 a b c d e) (CF D n 83 [] eL (lF 83))=qwi D n a b c d e :=by rw[afS];kernel_rfl
theorem ae4(D:DX)(n:Nat)(a:Int)(b:aE):(CF D n 83 [] cG (lF 83)) (Ex.exit 0) (qus a b)=qut D n (fun c d e f g=>LF D n 83 eL n (qy0 c d e f g) (CF D n 83 [] eL (lF 83))) a b:=by kernel_rfl
theorem aeI(D:DX)(n:Nat)(x0)(x1)(x2)(x3)(x4):LF D n 83 cG n (qyz x0 x1 x2 x3 x4) (CF D n 83 [] cG (lF 83))=qwh D n x0 x1 x2 x3 x4:=by rw[afR];simp only[ae4,aeJ];rfl
theorem agD(D:DX)(n:Nat)(a0:aE):rF D n 83 (a0,())=Ys D n a0:=by
 have h:rF D n 83 (a0,())=YT D n (fun x0 x1 x2 x3 x4=>LF D n 83 cG n (qyz x0 x1 x2 x3 x4) (CF D n 83 [] cG (lF 83))) a0:=by kernel_rfl
 rw[h];simp only[aeI];rfl
def ON(D:DX)(n:Nat)(a0:f9):Option ((f9×Unit)×Unit):=qd (JK D a0.2.1) fun b=>some (((a0.1,b.1.1,()),()),())
def Yp(D:DX)(n:Nat)(a0:f9):Option ((f9×Unit)×Unit):=ON D n a0
theorem agA(D:DX)(n:Nat)(a0:f9):rF D n 85 (a0,())=Yp D n a0:=by kernel_rfl
def ahr(D:DX)(n:Nat):Option mN:=some (((List.replicate (Int.toNat 4) 0,0,()),()),())
def OG(D:DX)(n:Nat):Option mN:=ahr D n
theorem ag5(D:DX)(n:Nat):rF D n 90 ()=OG D n:=by kernel_rfl
def ZK(D:DX)(n:Nat)(go:Int->Int->aC->Option aF)(K0:Int->Option aF)(K1:Option aF)(x0 x1:Int)(x2:aC):Option aF:=br (decide (x1<(x2.1.length:Int))) (br (decide (0<=x1)&&decide (x1<(x2.1.length:Int))) (br (decide (List.getD x2.1 x1.toNat 0=x0)) (K0 x1) (go x0 (wrap .i64 (x1+1)) x2)) none) K1
def Tu(D:DX)(n:Nat)(K0:Int->Option aF)(K1:Option aF):Nat->Int->Int->aC->Option aF | 0=>(fun x0 x1 x2=>none) | m+1=>(fun x0 x1 x2=>ZK D n (Tu D n K0 K1 m) K0 K1 x0 x1 x2)
def N_(D:DX)(n:Nat)(a:Int):Option aF:=some ((a,()),())
def Oc(D:DX)(n:Nat):Option aF:=some ((-1,()),())
def YE(D:DX)(n:Nat):(Int)->(Int)->aC->Option aF:=(fun x0 x1 x2=>Tu D n (fun a=>N_ D n a) (Oc D n) n x0 x1 x2)
def q9u(D:DX)(n:Nat)(cC:Int->Int->aC->Option aF)(a0:aC)(a1:Int):Option aF:=cC a1 0 a0
def Z6(D:DX)(n:Nat)(a0:aC)(a1:Int):Option aF:=q9u D n (YE D n) a0 a1
def ZJ(x0 x1:Int)(x2:aC):St:=bu 21 [(1,AV.val ag x0),(2,AV.addr 2 []),(5,AV.val ag x1)] [(2,aB.mk bZ Mk.no x2 true)]
def N8(a:Int):St:=bu 21 [(4,AV.val ag a)] []
def N9:St:=bu 21 [] []
theorem aho(D:DX)(n:Nat)(K:KT 91):∀(m:Nat)(x0 x1:Int)(x2:aC),LF D n 91 eI m (ZJ x0 x1 x2) K=Tu D n (fun a=>K (Ex.ret) (N8 a)) (K (Ex.exit 0) (N9)) m x0 x1 x2:=oP (fun F=>ZK D n F (fun a=>K (Ex.ret) (N8 a)) (K (Ex.exit 0) (N9)))
theorem ago(D:DX)(n:Nat)(x0)(x1)(x2):LF D n 91 eI n (ZJ x0 x1 x2) (CF D n 91 [] eI (lF 91))=YE D n x0 x1 x2 :=by rw[aho];kernel_rfl
theorem aiI(D:DX)(n:Nat)(a0:aC)(a1:Int):rF D n 91 (a0,(a1,()))=Z6 D n a0 a1:=by
 have h:rF D n 91 (a0,(a1,()))=q9u D n (fun x0 x1 x2=>LF D n 91 eI n (ZJ x0 x1 x2) (CF D n 91 [] eI (lF 91))) a0 a1:=by kernel_rfl
 rw[h];simp only[ago];rfl
def q93(D:DX)(n:Nat)(a0:bq)(a1:List Int):Option pq:=qd (rT D a0 (a1.length:Int)) fun b=>br (decide (0<=b.1.1)&&decide (b.1.1<(a1.length:Int))) (some ((List.getD a1 b.1.1.toNat 0,()),b.2.1,())) none
def qv3(D:DX)(n:Nat)(a0:bq)(a1:List Int):Option pq:=q93 D n a0 a1
theorem afC(D:DX)(n:Nat)(a0:bq)(a1:List Int):rF D n 92 (a0,(a1,()))=qv3 D n a0 a1:=by kernel_rfl
def q4a(D:DX)(n:Nat)(a0:bq):Option ((ak×Unit)×sU):=qd (Vo D a0 (List.set (List.set (List.set (List.set (List.set (List.set (List.set (List.set (List.set (List.set (List.set (List.set (List.set (List.set (List.replicate 14 0) 0 1) 1 1) 2 1) 3 2) 4 2) 5 3) 6 4) 7 5) 8 6) 9 7) 10 8) 11 9) 12 9) 13 10)) fun p0=>qd (VS D p0.1.1) fun jO=>br jO.1.1 (qd (rT D p0.2.1 4) fun p1=>br (decide (p0.1.1=6)) (qd (rT D p1.2.1 3) fun p2=>qd (BU D p0.1.1) fun j8=>br j8.1.1 (qd (rT D p2.2.1 4) fun p6=>some (((p0.1.1,p2.1.1,wrap .i64 (1+p6.1.1),()),()),p6.2.1,())) (some (((p0.1.1,p2.1.1,0,()),()),p2.2.1,()))) (qd (BU D p0.1.1) fun kX=>br kX.1.1 (qd (rT D p1.2.1 4) fun p7=>some (((p0.1.1,p1.1.1,wrap .i64 (1+p7.1.1),()),()),p7.2.1,())) (some (((p0.1.1,p1.1.1,0,()),()),p1.2.1,())))) (br (decide (p0.1.1=6)) (qd (rT D p0.2.1 3) fun p3=>qd (BU D p0.1.1) fun p8=>br p8.1.1 (qd (rT D p3.2.1 4) fun p4=>some (((p0.1.1,p3.1.1,wrap .i64 (1+p4.1.1),()),()),p4.2.1,())) (some (((p0.1.1,p3.1.1,0,()),()),p3.2.1,()))) (qd (BU D p0.1.1) fun p9=>br p9.1.1 (qd (rT D p0.2.1 4) fun p5=>some (((p0.1.1,0,wrap .i64 (1+p5.1.1),()),()),p5.2.1,())) (some (((p0.1.1,0,0,()),()),p0.2.1,()))))
def qry(D:DX)(n:Nat)(a0:bq):Option ((ak×Unit)×sU):=q4a D n a0
theorem aeh(D:DX)(n:Nat)(a0:bq):rF D n 93 (a0,())=qry D n a0:=by kernel_rfl
def O4(D:DX)(n:Nat)(a0:bq):Option pq:=let y1:=wrap .i64 (a0.2.2.1 * 6364136223846793005)+1442695040888963407;let y0:=wrap .i64 (↑(BitVec.toNat (BitVec.xor (BitVec.ofInt (IntKind.bits IntKind.i64) (Int.fdiv (wrap .i64 y1) (Int.pow 2 (if Int.toNat 33<=IntKind.bits IntKind.i64 then Int.toNat 33 else IntKind.bits IntKind.i64)))) (BitVec.ofInt (IntKind.bits IntKind.i64) (Int.fdiv (wrap .i64 y1) (Int.pow 2 (if Int.toNat 45<=IntKind.bits IntKind.i64 then Int.toNat 45 else IntKind.bits IntKind.i64)))))):Int);br (decide (a0.2.1<(a0.1.length:Int))) (br (decide (0<=a0.2.1)&&decide (a0.2.1<(a0.1.length:Int))) (some ((wrap .i64 (↑(BitVec.toNat (BitVec.and (BitVec.ofInt (IntKind.bits IntKind.i64) (wrap .i64 (wrap .i64 (↑(BitVec.toNat (BitVec.and (BitVec.ofInt (IntKind.bits IntKind.i64) y0) (BitVec.ofInt (IntKind.bits IntKind.i64) 255))):Int)+wrap .i64 (List.getD a0.1 a0.2.1.toNat 0)))) (BitVec.ofInt (IntKind.bits IntKind.i64) 255))):Int),()),(a0.1,wrap .i64 (a0.2.1+1),wrap .i64 y1,a0.2.2.2),())) none) (some ((wrap .i64 (↑(BitVec.toNat (BitVec.and (BitVec.ofInt (IntKind.bits IntKind.i64) y0) (BitVec.ofInt (IntKind.bits IntKind.i64) 255))):Int),()),(a0.1,a0.2.1,wrap .i64 y1,a0.2.2.2),()))
def Y8(D:DX)(n:Nat)(a0:bq):Option pq:=O4 D n a0
theorem ah4(D:DX)(n:Nat)(a0:bq):rF D n 94 (a0,())=Y8 D n a0:=by kernel_rfl
def qmm(D:DX)(n:Nat)(a0:List ak):Option mM:=br (decide (Int.toNat (a0.length:Int)=0)) (both (some (([],()),())) (br (decide (0+a0.length<=f_)) (some (([]++a0,()),())) none)) (br (decide (0+a0.length<=f_)) (some (([]++a0,()),())) none)
def qh2(D:DX)(n:Nat)(a0:List ak):Option mM:=qmm D n a0
theorem qxu(D:DX)(n:Nat)(a0:List ak):rF D n 95 (a0,())=qh2 D n a0:=by kernel_rfl
def qzs(D:DX)(n:Nat)(go:Int->aC->List Int->Option cZ)(K0:aC->List Int->Option cZ)(x0:Int)(x1:aC)(x2:List Int):Option cZ:=let y0:=List.getD x1.1 x0.toNat 0;let y1:=wrap .i64 (x0+1);br (decide (x0<4)) (br (decide (0<=x0)&&decide (x0<(x1.1.length:Int))) (qd (ZX D x0) fun p0=>let y2:=List.set x2 p0.1.1.toNat y0;br (decide (0<=p0.1.1)&&decide (p0.1.1<(x2.length:Int))) (br (decide (y0=0)) (go y1 x1 y2) (qd (X_ D y0) fun p1=>let y3:=List.set y2 p1.1.1.toNat y1;br (decide (0<=p1.1.1)&&decide (p1.1.1<(y2.length:Int))) (br (decide (x0<wrap .i64 (x1.2.1-1))) (qd (ZY D y0) fun p2=>br (decide (0<=p2.1.1)&&decide (p2.1.1<(y3.length:Int))) (go y1 x1 (List.set y3 p2.1.1.toNat y1)) none) (go y1 x1 y3)) none)) none) none) (K0 x1 x2)
def Te(D:DX)(n:Nat)(K0:aC->List Int->Option cZ):Nat->Int->aC->(List Int)->Option cZ | 0=>(fun x0 x1 x2=>none) | m+1=>(fun x0 x1 x2=>qzs D n (Te D n K0 m) K0 x0 x1 x2)
def qzt(D:DX)(n:Nat)(go:Int->aC->List Int->Option cZ)(K0:aC->List Int->Option cZ)(a:Int)(c:aC)(d:List Int):Option cZ:=br (decide (a<3)) (qd (X8 D a) fun b=>qd (X9 D c a) fun b_1=>br (decide (0<=b.1.1)&&decide (b.1.1<(d.length:Int))) (go (wrap .i64 (a+1)) c (List.set d b.1.1.toNat b_1.1.1)) none) (K0 c d)
def Tf(D:DX)(n:Nat)(K0:aC->List Int->Option cZ):Nat->Int->aC->(List Int)->Option cZ | 0=>(fun a b c=>none) | m+1=>(fun a b c=>qzt D n (Tf D n K0 m) K0 a b c)
def qu1(D:DX)(n:Nat)(c:aC)(a:List Int):Option cZ:=qd (VE D) fun b=>br (decide (0<=b.1.1)&&decide (b.1.1<(a.length:Int))) (some ((List.set a b.1.1.toNat c.2.1,()),())) none
def Vv(D:DX)(n:Nat):(Int)->aC->(List Int)->Option cZ:=(fun a d e=>Tf D n (fun b c=>qu1 D n b c) n a d e)
def Vl(D:DX)(n:Nat)(mH:Int->aC->List Int->Option cZ)(a:aC)(b:List Int):Option cZ:=mH 0 a b
def qwx(D:DX)(n:Nat):(Int)->aC->(List Int)->Option cZ:=(fun x0 x1 x2=>Te D n (fun a b=>Vl D n (Vv D n) a b) n x0 x1 x2)
def YV(D:DX)(n:Nat)(cC:Int->aC->List Int->Option cZ)(a0:aC):Option cZ:=qd (VH D a0) fun b=>br (!b.1.1) (some (([],()),())) (cC 0 a0 (List.replicate (Int.toNat 20) 0))
def Yy(D:DX)(n:Nat)(a0:aC):Option cZ:=YV D n (qwx D n) a0
def qzq(x0:Int)(x1:aC)(x2:List Int):St:=bu 62 [(1,AV.addr 1 []),(3,AV.b7 3 [] 0),(4,AV.val ag x0)] [(1,aB.mk bZ Mk.no x1 true),(3,aB.mk bG eZ x2 false)]
def qu0(a:aC)(b:List Int):St:=bu 62 [(1,AV.addr 1 []),(3,AV.b7 3 [] 0)] [(1,aB.mk bZ Mk.no a true),(3,aB.mk bG eZ b false)]
def qzr(a:Int)(b:aC)(c:List Int):St:=bu 62 [(1,AV.addr 1 []),(3,AV.b7 3 [] 0),(6,AV.val ag a)] [(1,aB.mk bZ Mk.no b true),(3,aB.mk bG eZ c false)]
def q6x(a:aC)(b:List Int):St:=bu 62 [(1,AV.addr 1 []),(3,AV.b7 3 [] 0)] [(1,aB.mk bZ Mk.no a true),(3,aB.mk bG eZ b false)]
theorem af0(D:DX)(n:Nat)(K:KT 96):∀(m:Nat)(x0:Int)(x1:aC)(x2:List Int),LF D n 96 eL m (qzq x0 x1 x2) K=Te D n (fun a b=>K (Ex.exit 0) (qu0 a b)) m x0 x1 x2:=oP (fun F=>qzs D n F (fun a b=>K (Ex.exit 0) (qu0 a b)))
theorem af1(D:DX)(n:Nat)(K:KT 96):∀(m:Nat)(c:Int)(d:aC)(e:List Int),LF D n 96 lS m (qzr c d e) K=Tf D n (fun a b=>K (Ex.exit 2) (q6x a b)) m c d e:=oP (fun F=>qzt D n F (fun a b=>K (Ex.exit 2) (q6x a b)))
theorem afb(D:DX)(n:Nat)(a:Int)(b:aC)(c:List Int):LF D n 96 lS n (qzr a b c) (CF D n 96 [] lS (lF 96))=Vv D n a b c :=by rw[af1];kernel_rfl
theorem afc(D:DX)(n:Nat)(a:aC)(b:List Int):(CF D n 96 [] eL (lF 96)) (Ex.exit 0) (qu0 a b)=Vl D n (fun c d e=>LF D n 96 lS n (qzr c d e) (CF D n 96 [] lS (lF 96))) a b:=by kernel_rfl
theorem afa(D:DX)(n:Nat)(x0)(x1)(x2):LF D n 96 eL n (qzq x0 x1 x2) (CF D n 96 [] eL (lF 96))=qwx D n x0 x1 x2:=by rw[af0];simp only[afc,afb];rfl
theorem ag7(D:DX)(n:Nat)(a0:aC):rF D n 96 (a0,())=Yy D n a0:=by
 have h:rF D n 96 (a0,())=YV D n (fun x0 x1 x2=>LF D n 96 eL n (qzq x0 x1 x2) (CF D n 96 [] eL (lF 96))) a0:=by kernel_rfl
 rw[h];simp only[afa];rfl
def aao(D:DX)(n:Nat)(a0 a1 a2:Int):Option ah:=some ((bif decide (a0>=a1) then decide (a0<=a2) else false,()),())
def Pq(D:DX)(n:Nat)(a0 a1 a2:Int):Option ah:=aao D n a0 a1 a2
theorem aaj(D:DX)(n:Nat)(a0 a1 a2:Int):rF D n 97 (a0,(a1,(a2,())))=Pq D n a0 a1 a2:=by kernel_rfl
def ZO(D:DX)(n:Nat)(go:Int->aW->Option ah)(K0:Bool->aW->Option ah)(K1:aW->Option ah)(x0:Int)(x1:aW):Option ah:=br (decide (x0<(x1.2.1.length:Int))) (br (decide (0<=x0)&&decide (x0<(x1.2.1.length:Int))) (qd (Zh D (List.getD x1.2.1 x0.toNat (0,0,[],(0,[],()),()))) fun b=>br (!b.1.1) (K0 false x1) (go (wrap .i64 (x0+1)) x1)) none) (K1 x1)
def Tv(D:DX)(n:Nat)(K0:Bool->aW->Option ah)(K1:aW->Option ah):Nat->Int->aW->Option ah | 0=>(fun x0 x1=>none) | m+1=>(fun x0 x1=>ZO D n (Tv D n K0 K1 m) K0 K1 x0 x1)
def Of(D:DX)(n:Nat)(a:Bool)(b:aW):Option ah:=some ((a,()),())
def ZP(D:DX)(n:Nat)(go:Int->aW->Option ah)(K0:Bool->Option ah)(K1:Option ah)(b:Int)(a:aW):Option ah:=let y0:=List.getD a.1 b.toNat (0,0,0,());let y1:=List.getD a.2.1 (Int.toNat (wrap .i64 (y0.2.1-1))) (0,0,[],(0,[],()),());br (decide (b<(a.1.length:Int))) (br (decide (0<=b)&&decide (b<(a.1.length:Int))) (qd (OV D y0 (a.2.1.length:Int)) fun p0=>br (!p0.1.1) (K0 false) (br (decide (y0.2.1>0)) (br (decide (0<=wrap .i64 (y0.2.1-1))&&decide (wrap .i64 (y0.2.1-1)<(a.2.1.length:Int))) (qd (agG D y1 b) fun p1=>br (!p1.1.2.1) (K0 false) (br (decide (0<=wrap .i64 (y0.2.1-1))&&decide (wrap .i64 (y0.2.1-1)<(a.2.1.length:Int))) (br (y1.1 != y0.2.2.1) (K0 false) (go (wrap .i64 (b+1)) a)) none)) none) (go (wrap .i64 (b+1)) a))) none) K1
def Tw(D:DX)(n:Nat)(K0:Bool->Option ah)(K1:Option ah):Nat->Int->aW->Option ah | 0=>(fun a b=>none) | m+1=>(fun a b=>ZP D n (Tw D n K0 K1 m) K0 K1 a b)
def agu(D:DX)(n:Nat)(a:Bool):Option ah:=some ((a,()),())
def agv(D:DX)(n:Nat):Option ah:=some ((true,()),())
def YI(D:DX)(n:Nat):(Int)->aW->Option ah:=(fun a b=>Tw D n (fun c=>agu D n c) (agv D n) n a b)
def qzn(D:DX)(n:Nat)(mH:Int->aW->Option ah)(a:aW):Option ah:=mH 0 a
def YH(D:DX)(n:Nat):(Int)->aW->Option ah:=(fun x0 x1=>Tv D n (fun a b=>Of D n a b) (fun c=>qzn D n (YI D n) c) n x0 x1)
def q9x(D:DX)(n:Nat)(cC:Int->aW->Option ah)(a0:aW):Option ah:=br ((a0.1.length:Int) != 20) (some ((false,()),())) (qd (lU D (a0.2.1.length:Int) 1 4) fun b=>br (!b.1.1) (some ((false,()),())) (cC 0 a0))
def Z8(D:DX)(n:Nat)(a0:aW):Option ah:=q9x D n (YH D n) a0
def ZM(x0:Int)(x1:aW):St:=bu 81 [(1,AV.addr 1 []),(3,AV.val ag x0)] [(1,aB.mk jX Mk.no x1 true)]
def qzl(a:Bool)(b:aW):St:=bu 81 [(1,AV.addr 1 []),(2,AV.val Ty.bool a)] [(1,aB.mk jX Mk.no b true)]
def qzm(a:aW):St:=bu 81 [(1,AV.addr 1 [])] [(1,aB.mk jX Mk.no a true)]
def ZN(a:Int)(b:aW):St:=bu 81 [(1,AV.addr 1 []),(4,AV.val ag a)] [(1,aB.mk jX Mk.no b true)]
def Od(a:Bool):St:=bu 81 [(2,AV.val Ty.bool a)] []
def Oe:St:=bu 81 [] []
theorem ahp(D:DX)(n:Nat)(K:KT 98):∀(m:Nat)(x0:Int)(x1:aW),LF D n 98 cG m (ZM x0 x1) K=Tv D n (fun a b=>K (Ex.ret) (qzl a b)) (fun c=>K (Ex.exit 0) (qzm c)) m x0 x1:=Dw (fun F=>ZO D n F (fun a b=>K (Ex.ret) (qzl a b)) (fun c=>K (Ex.exit 0) (qzm c)))
theorem ahq(D:DX)(n:Nat)(K:KT 98):∀(m:Nat)(b:Int)(c:aW),LF D n 98 eL m (ZN b c) K=Tw D n (fun a=>K (Ex.ret) (Od a)) (K (Ex.exit 2) (Oe)) m b c:=Dw (fun F=>ZP D n F (fun a=>K (Ex.ret) (Od a)) (K (Ex.exit 2) (Oe)))
theorem agr(D:DX)(n:Nat)(a:Int)(b:aW):LF D n 98 eL n (ZN a b) (CF D n 98 [] eL (lF 98))=YI D n a b :=by rw[ahq];kernel_rfl
theorem ags(D:DX)(n:Nat)(a:Bool)(b:aW):(CF D n 98 [] cG (lF 98)) (Ex.ret) (qzl a b)=Of D n a b:=by kernel_rfl
theorem agt(D:DX)(n:Nat)(a:aW):(CF D n 98 [] cG (lF 98)) (Ex.exit 0) (qzm a)=qzn D n (fun b c=>LF D n 98 eL n (ZN b c) (CF D n 98 [] eL (lF 98))) a:=by kernel_rfl
theorem agq(D:DX)(n:Nat)(x0)(x1):LF D n 98 cG n (ZM x0 x1) (CF D n 98 [] cG (lF 98))=YH D n x0 x1:=by rw[ahp];simp only[ags,agt,agr];rfl
theorem aiK(D:DX)(n:Nat)(a0:aW):rF D n 98 (a0,())=Z8 D n a0:=by
 have h:rF D n 98 (a0,())=q9x D n (fun x0 x1=>LF D n 98 cG n (ZM x0 x1) (CF D n 98 [] cG (lF 98))) a0:=by kernel_rfl
 rw[h];simp only[agq];rfl
def YK(D:DX)(n:Nat)(go:Int->aC->Option ah)(K0:Bool->aC->Option ah)(K1:aC->Option ah)(x0:Int)(x1:aC):Option ah:=br (decide (x0<(x1.1.length:Int))) (br (decide (0<=x0)&&decide (x0<(x1.1.length:Int))) (br (List.getD x1.1 x0.toNat 0 != 0) (br (decide (0<=x0)&&decide (x0<(x1.1.length:Int))) (qd (C5 D (List.getD x1.1 x0.toNat 0)) fun p0=>br (!p0.1.1) (K0 false x1) (br (decide (0<=x0)&&decide (x0<(x1.1.length:Int))) (qd (VQ D x1 (List.getD x1.1 x0.toNat 0)) fun p1=>br (p1.1.1 != x0) (K0 false x1) (go (wrap .i64 (x0+1)) x1)) none)) none) (go (wrap .i64 (x0+1)) x1)) none) (K1 x1)
def Ti(D:DX)(n:Nat)(K0:Bool->aC->Option ah)(K1:aC->Option ah):Nat->Int->aC->Option ah | 0=>(fun x0 x1=>none) | m+1=>(fun x0 x1=>YK D n (Ti D n K0 K1 m) K0 K1 x0 x1)
def q90(D:DX)(n:Nat)(a:Bool)(b:aC):Option ah:=some ((a,()),())
def qwq(D:DX)(n:Nat)(a:aC):Option ah:=br (decide ((a.1.length:Int)=4)) (qd (lU D a.2.1 0 5) fun b=>some ((b.1.1,()),())) (some ((false,()),()))
def qzo(D:DX)(n:Nat):(Int)->aC->Option ah:=(fun x0 x1=>Ti D n (fun a b=>q90 D n a b) (fun c=>qwq D n c) n x0 x1)
def Zs(D:DX)(n:Nat)(cC:Int->aC->Option ah)(a0:aC):Option ah:=cC 0 a0
def Y6(D:DX)(n:Nat)(a0:aC):Option ah:=Zs D n (qzo D n) a0
def YJ(x0:Int)(x1:aC):St:=bu 46 [(1,AV.addr 1 []),(3,AV.val ag x0)] [(1,aB.mk bZ Mk.no x1 true)]
def q9y(a:Bool)(b:aC):St:=bu 46 [(1,AV.addr 1 []),(2,AV.val Ty.bool a)] [(1,aB.mk bZ Mk.no b true)]
def q9z(a:aC):St:=bu 46 [(1,AV.addr 1 [])] [(1,aB.mk bZ Mk.no a true)]
theorem agw(D:DX)(n:Nat)(K:KT 99):∀(m:Nat)(x0:Int)(x1:aC),LF D n 99 eI m (YJ x0 x1) K=Ti D n (fun a b=>K (Ex.ret) (q9y a b)) (fun c=>K (Ex.exit 0) (q9z c)) m x0 x1:=Dw (fun F=>YK D n F (fun a b=>K (Ex.ret) (q9y a b)) (fun c=>K (Ex.exit 0) (q9z c)))
theorem afZ(D:DX)(n:Nat)(x0)(x1):LF D n 99 eI n (YJ x0 x1) (CF D n 99 [] eI (lF 99))=qzo D n x0 x1 :=by rw[agw];kernel_rfl
theorem ah2(D:DX)(n:Nat)(a0:aC):rF D n 99 (a0,())=Y6 D n a0:=by
 have h:rF D n 99 (a0,())=Zs D n (fun x0 x1=>LF D n 99 eI n (YJ x0 x1) (CF D n 99 [] eI (lF 99))) a0:=by kernel_rfl
 rw[h];simp only[afZ];rfl
def qzx(D:DX)(n:Nat)(go:Int->Int->aE->Option ah)(K0:Bool->Int->aE->Option ah)(K1:Int->aE->Option ah)(x0 x1:Int)(x2:aE):Option ah:=let y0:=List.getD x2.2.2.2.1 x1.toNat (0,(0,0,0,()),0,0,0,(0,[],()),());br (decide (x1<(x2.2.2.2.1.length:Int))) (br (decide (0<=x1)&&decide (x1<(x2.2.2.2.1.length:Int))) (qd (ahH D x2 y0) fun p0=>br (!p0.1.1) (K0 false x0 x2) (br (decide (0<=x1)&&decide (x1<(x2.2.2.2.1.length:Int))) (qd (TB D (decide (y0.2.2.2.1>=0))) fun p1=>go (wrap .i64 (x0+p1.1.1)) (wrap .i64 (x1+1)) x2) none)) none) (K1 x0 x2)
def Vz(D:DX)(n:Nat)(K0:Bool->Int->aE->Option ah)(K1:Int->aE->Option ah):Nat->Int->Int->aE->Option ah | 0=>(fun x0 x1 x2=>none) | m+1=>(fun x0 x1 x2=>qzx D n (Vz D n K0 K1 m) K0 K1 x0 x1 x2)
def q60(D:DX)(n:Nat)(a:Bool)(b:Int)(c:aE):Option ah:=some ((a,()),())
def Ow(D:DX)(n:Nat)(go:Int->Int->Int->Int->aE->Option ah)(K0:Bool->Int->Int->aE->Option ah)(K1:Int->Int->aE->Option ah)(d c e a:Int)(b:aE):Option ah:=br (decide (a<c)) (br (decide (0<=a)&&decide (a<(b.2.2.2.2.1.length:Int))) (br (decide (List.getD b.2.2.2.2.1 a.toNat 0=e)) (K0 false d c b) (go d c e (wrap .i64 (a+1)) b)) none) (K1 d c b)
def qzu(D:DX)(n:Nat)(K0:Bool->Int->Int->aE->Option ah)(K1:Int->Int->aE->Option ah):Nat->Int->Int->Int->Int->aE->Option ah | 0=>(fun a b c d e=>none) | m+1=>(fun a b c d e=>Ow D n (qzu D n K0 K1 m) K0 K1 a b c d e)
def afj(D:DX)(n:Nat)(go:Int->Int->aE->Option ah)(K0:Bool->Int->aE->Option ah)(K1:Int->aE->Option ah)(a:Bool)(b d:Int)(c:aE):Option ah:=K0 a b c
def afk(D:DX)(n:Nat)(go:Int->Int->aE->Option ah)(K0:Bool->Int->aE->Option ah)(K1:Int->aE->Option ah)(a b:Int)(c:aE):Option ah:=go a (wrap .i64 (b+1)) c
def q95(D:DX)(n:Nat)(go:Int->Int->aE->Option ah)(K0:Bool->Int->aE->Option ah)(K1:Int->aE->Option ah):(Int)->(Int)->(Int)->(Int)->aE->Option ah:=(fun a b j k l=>qzu D n (fun c d e f=>afj D n go K0 K1 c d e f) (fun g h i=>afk D n go K0 K1 g h i) n a b j k l)
def qzy(D:DX)(n:Nat)(go:Int->Int->aE->Option ah)(K0:Bool->Int->aE->Option ah)(K1:Int->aE->Option ah)(UC:Int->Int->Int->Int->aE->Option ah)(c b:Int)(a:aE):Option ah:=let y0:=List.getD a.2.2.2.2.1 b.toNat 0;let y1:=List.getD a.2.2.2.1 (Int.toNat y0) (0,(0,0,0,()),0,0,0,(0,[],()),());let y2:=Int.toNat (wrap .i64 (b-1));br (decide (b<(a.2.2.2.2.1.length:Int))) (br (decide (0<=b)&&decide (b<(a.2.2.2.2.1.length:Int))) (qd (lU D y0 0 (wrap .i64 ((a.2.2.2.1.length:Int)-1))) fun p0=>br (!p0.1.1) (K0 false c a) (br (decide (0<=y0)&&decide (y0<(a.2.2.2.1.length:Int))) (br (decide (y1.2.2.2.1<0)) (K0 false c a) (br (decide (b>0)) (br (decide (0<=wrap .i64 (b-1))&&decide (wrap .i64 (b-1)<(a.2.2.2.2.1.length:Int))) (br (decide (0<=List.getD a.2.2.2.2.1 y2 0)&&decide (List.getD a.2.2.2.2.1 y2 0<(a.2.2.2.1.length:Int))) (br (decide (0<=y0)&&decide (y0<(a.2.2.2.1.length:Int))) (br (decide ((List.getD a.2.2.2.1 (Int.toNat (List.getD a.2.2.2.2.1 y2 0)) (0,(0,0,0,()),0,0,0,(0,[],()),())).2.2.2.1>y1.2.2.2.1)) (K0 false c a) (UC c b y0 0 a)) none) none) none) (UC c b y0 0 a))) none)) none) (K1 c a)
def JP(D:DX)(n:Nat)(K0:Bool->Int->aE->Option ah)(K1:Int->aE->Option ah):Nat->Int->Int->aE->Option ah | 0=>(fun a b c=>none) | m+1=>(fun a b c=>qzy D n (JP D n K0 K1 m) K0 K1 (q95 D n (JP D n K0 K1 m) K0 K1) a b c)
def afi(D:DX)(n:Nat)(a:Bool)(b:Int)(c:aE):Option ah:=some ((a,()),())
def q61(D:DX)(n:Nat)(b:Int)(a:aE):Option ah:=some ((bif decide ((a.2.2.2.1.length:Int)<=40) then decide (b=(a.2.2.2.2.1.length:Int)) else false,()),())
def qwz(D:DX)(n:Nat):(Int)->(Int)->aE->Option ah:=(fun a b h=>JP D n (fun c d e=>afi D n c d e) (fun f g=>q61 D n f g) n a b h)
def qu4(D:DX)(n:Nat)(mH:Int->Int->aE->Option ah)(a:Int)(b:aE):Option ah:=mH a 0 b
def qwy(D:DX)(n:Nat):(Int)->(Int)->aE->Option ah:=(fun x0 x1 x2=>Vz D n (fun a b c=>q60 D n a b c) (fun d e=>qu4 D n (qwz D n) d e) n x0 x1 x2)
def YX(D:DX)(n:Nat)(cC:Int->Int->aE->Option ah)(a0:aE):Option ah:=cC 0 0 a0
def YA(D:DX)(n:Nat)(a0:aE):Option ah:=YX D n (qwy D n) a0
def qzv(x0 x1:Int)(x2:aE):St:=bu 108 [(1,AV.addr 1 []),(3,AV.val ag x0),(4,AV.val ag x1)] [(1,aB.mk cU Mk.no x2 true)]
def qu2(a:Bool)(b:Int)(c:aE):St:=bu 108 [(1,AV.addr 1 []),(2,AV.val Ty.bool a),(3,AV.val ag b)] [(1,aB.mk cU Mk.no c true)]
def qu3(a:Int)(b:aE):St:=bu 108 [(1,AV.addr 1 []),(3,AV.val ag a)] [(1,aB.mk cU Mk.no b true)]
def Iu(a b:Int)(c:aE):St:=bu 108 [(1,AV.addr 1 []),(3,AV.val ag a),(5,AV.val ag b)] [(1,aB.mk cU Mk.no c true)]
def Vm(a:Bool)(b:Int)(c:aE):St:=bu 108 [(1,AV.addr 1 []),(2,AV.val Ty.bool a),(3,AV.val ag b)] [(1,aB.mk cU Mk.no c true)]
def Vn(a:Int)(b:aE):St:=bu 108 [(1,AV.addr 1 []),(3,AV.val ag a)] [(1,aB.mk cU Mk.no b true)]
def qzw(a b c d:Int)(e:aE):St:=bu 108 [(1,AV.addr 1 []),(3,AV.val ag a),(5,AV.val ag b),(6,AV.val ag c),(7,AV.val ag d)] [(1,aB.mk cU Mk.no e true)]
def q6y(a:Bool)(b c:Int)(d:aE):St:=bu 108 [(1,AV.addr 1 []),(2,AV.val Ty.bool a),(3,AV.val ag b),(5,AV.val ag c)] [(1,aB.mk cU Mk.no d true)]
def q6z(a b:Int)(c:aE):St:=bu 108 [(1,AV.addr 1 []),(3,AV.val ag a),(5,AV.val ag b)] [(1,aB.mk cU Mk.no c true)]
theorem af2(D:DX)(n:Nat)(K:KT 100):∀(m:Nat)(x0 x1:Int)(x2:aE),LF D n 100 cG m (qzv x0 x1 x2) K=Vz D n (fun a b c=>K (Ex.ret) (qu2 a b c)) (fun d e=>K (Ex.exit 0) (qu3 d e)) m x0 x1 x2:=oP (fun F=>qzx D n F (fun a b c=>K (Ex.ret) (qu2 a b c)) (fun d e=>K (Ex.exit 0) (qu3 d e)))
theorem af3(D:DX)(n:Nat)(K:KT 100):∀(m:Nat)(h i j k:Int)(l:aE),LF D n 100 Em m (qzw h i j k l) K=qzu D n (fun a b c d=>K (Ex.ret) (q6y a b c d)) (fun e f g=>K (Ex.exit 4) (q6z e f g)) m h i j k l:=pJ (fun F=>Ow D n F (fun a b c d=>K (Ex.ret) (q6y a b c d)) (fun e f g=>K (Ex.exit 4) (q6z e f g)))
theorem aff(D:DX)(n:Nat)(m:Nat)(K:KT 100)(a b c d:Int)(e:aE):LF D n 100 Em n (qzw a b c d e) (CF D n 100 [.r,.r,.r,.l,.r,.l,.l] [.r,.l,.l,.r,.r,.r,.l] (KF D n 100 eL m K))=q95 D n (fun k o p=>LF D n 100 eL m (Iu k o p) K) (fun f g h=>K (Ex.ret) (Vm f g h)) (fun i j=>K (Ex.exit 2) (Vn i j)) a b c d e :=by rw[af3];kernel_rfl
theorem af4(D:DX)(n:Nat)(m:Nat)(K:KT 100)(a b:Int)(c:aE):LF D n 100 eL (m+1) (Iu a b c) K=qzy D n (fun a b c=>LF D n 100 eL m (Iu a b c) K) (fun d e f=>K (Ex.ret) (Vm d e f)) (fun g h=>K (Ex.exit 2) (Vn g h)) (fun i j k o p=>LF D n 100 Em n (qzw i j k o p) (CF D n 100 [.r,.r,.r,.l,.r,.l,.l] [.r,.l,.l,.r,.r,.r,.l] (KF D n 100 eL m K))) a b c:=by kernel_rfl
theorem q94(D:DX)(n:Nat)(K:KT 100):∀(m:Nat)(a b:Int)(c:aE),LF D n 100 eL m (Iu a b c) K=JP D n (fun d e f=>K (Ex.ret) (Vm d e f)) (fun g h=>K (Ex.exit 2) (Vn g h)) m a b c
 | 0,a,b,c=>uU ..
 | m+1,a,b,c=>by
  have ih:(fun a b c=>LF D n 100 eL m (Iu a b c) K)=JP D n (fun d e f=>K (Ex.ret) (Vm d e f)) (fun g h=>K (Ex.exit 2) (Vn g h)) m:=by funext a b c;exact q94 D n K m a b c
  rw[af4];simp only[aff];rw[ih];rfl
theorem afe(D:DX)(n:Nat)(a b:Int)(c:aE):LF D n 100 eL n (Iu a b c) (CF D n 100 [] eL (lF 100))=qwz D n a b c :=by rw[q94];kernel_rfl
theorem afg(D:DX)(n:Nat)(a:Bool)(b:Int)(c:aE):(CF D n 100 [] cG (lF 100)) (Ex.ret) (qu2 a b c)=q60 D n a b c:=by kernel_rfl
theorem afh(D:DX)(n:Nat)(a:Int)(b:aE):(CF D n 100 [] cG (lF 100)) (Ex.exit 0) (qu3 a b)=qu4 D n (fun c d e=>LF D n 100 eL n (Iu c d e) (CF D n 100 [] eL (lF 100))) a b:=by kernel_rfl
theorem afd(D:DX)(n:Nat)(x0)(x1)(x2):LF D n 100 cG n (qzv x0 x1 x2) (CF D n 100 [] cG (lF 100))=qwy D n x0 x1 x2:=by rw[af2];simp only[afg,afh,afe];rfl
theorem ag9(D:DX)(n:Nat)(a0:aE):rF D n 100 (a0,())=YA D n a0:=by
 have h:rF D n 100 (a0,())=YX D n (fun x0 x1 x2=>LF D n 100 cG n (qzv x0 x1 x2) (CF D n 100 [] cG (lF 100))) a0:=by kernel_rfl
 rw[h];simp only[afd];rfl
def qwu(D:DX)(n:Nat)(go:Int->Int->aM->Option ah)(K0:Int->Bool->aM->Option ah)(K1:Int->aM->Option ah)(x0 x1:Int)(x2:aM):Option ah:=br (decide (x1<(x2.1.length:Int))) (br (decide (0<=x1)&&decide (x1<(x2.1.length:Int))) (qd (UF D (List.getD x2.1 x1.toNat (0,0,0,()))) fun b=>br (!b.1.1) (K0 x0 false x2) (go x0 (wrap .i64 (x1+1)) x2)) none) (K1 x0 x2)
def S8(D:DX)(n:Nat)(K0:Int->Bool->aM->Option ah)(K1:Int->aM->Option ah):Nat->Int->Int->aM->Option ah | 0=>(fun x0 x1 x2=>none) | m+1=>(fun x0 x1 x2=>qwu D n (S8 D n K0 K1 m) K0 K1 x0 x1 x2)
def q38(D:DX)(n:Nat)(b:Int)(a:Bool)(c:aM):Option ah:=some ((a,()),())
def qwv(D:DX)(n:Nat)(go:Int->Int->aM->Option ah)(K0:Int->Bool->aM->Option ah)(K1:Int->aM->Option ah)(c b:Int)(a:aM):Option ah:=let y0:=List.getD a.2.2.2.1 b.toNat (0,0,());br (decide (b<(a.2.2.2.1.length:Int))) (br (decide (0<=b)&&decide (b<(a.2.2.2.1.length:Int))) (qd (lU D y0.1 0 19) fun p0=>br (!p0.1.1) (K0 c false a) (br (decide (0<=b)&&decide (b<(a.2.2.2.1.length:Int))) (qd (lU D y0.2.1 0 1000) fun p1=>br (!p1.1.1) (K0 c false a) (go c (wrap .i64 (b+1)) a)) none)) none) (K1 c a)
def Vt(D:DX)(n:Nat)(K0:Int->Bool->aM->Option ah)(K1:Int->aM->Option ah):Nat->Int->Int->aM->Option ah | 0=>(fun a b c=>none) | m+1=>(fun a b c=>qwv D n (Vt D n K0 K1 m) K0 K1 a b c)
def q39(D:DX)(n:Nat)(b:Int)(a:Bool)(c:aM):Option ah:=some ((a,()),())
def qww(D:DX)(n:Nat)(go:Int->Int->aM->Option ah)(K0:Bool->Option ah)(K1:Option ah)(c a:Int)(b:aM):Option ah:=let y0:=List.getD b.2.2.2.2.1 a.toNat (0,0,0,0,());br (decide (a<(b.2.2.2.2.1.length:Int))) (br (decide (0<=a)&&decide (a<(b.2.2.2.2.1.length:Int))) (br (bif decide (y0.1<0) then true else decide (y0.1>=c)) (K0 false) (qd (lU D y0.2.1 1 1000000) fun p0=>br (!p0.1.1) (K0 false) (qd (lU D y0.2.2.1 0 20) fun p1=>br (!p1.1.1) (K0 false) (qd (lU D y0.2.2.2.1 0 20) fun p2=>br (!p2.1.1) (K0 false) (go c (wrap .i64 (a+1)) b))))) none) K1
def Vu(D:DX)(n:Nat)(K0:Bool->Option ah)(K1:Option ah):Nat->Int->Int->aM->Option ah | 0=>(fun a b c=>none) | m+1=>(fun a b c=>qww D n (Vu D n K0 K1 m) K0 K1 a b c)
def aer(D:DX)(n:Nat)(a:Bool):Option ah:=some ((a,()),())
def aes(D:DX)(n:Nat):Option ah:=some ((true,()),())
def quz(D:DX)(n:Nat):(Int)->(Int)->aM->Option ah:=(fun a b d=>Vu D n (fun c=>aer D n c) (aes D n) n a b d)
def qs1(D:DX)(n:Nat)(UC:Int->Int->aM->Option ah)(a:Int)(b:aM):Option ah:=UC a 0 b
def quy(D:DX)(n:Nat):(Int)->(Int)->aM->Option ah:=(fun a b h=>Vt D n (fun c d e=>q39 D n c d e) (fun f g=>qs1 D n (quz D n) f g) n a b h)
def qs0(D:DX)(n:Nat)(mH:Int->Int->aM->Option ah)(a:Int)(b:aM):Option ah:=mH a 0 b
def qux(D:DX)(n:Nat):(Int)->(Int)->aM->Option ah:=(fun x0 x1 x2=>S8 D n (fun a b c=>q38 D n a b c) (fun d e=>qs0 D n (quy D n) d e) n x0 x1 x2)
def qzp(D:DX)(n:Nat)(cC:Int->Int->aM->Option ah)(a0:aM)(a1:Int):Option ah:=br (decide ((a0.1.length:Int)>8)) (some ((false,()),())) (qd (lU D a0.2.1 0 (a0.1.length:Int)) fun p0=>br (bif !p0.1.1 then true else bif a0.2.2.1 then decide (a0.2.1>=(a0.1.length:Int)) else false) (some ((false,()),())) (br (!a0.2.2.1) (br (bif bif decide (wrap .i64 ((a0.2.2.2.1.length:Int)+(a0.2.2.2.2.1.length:Int))>0) then true else decide ((a0.2.2.2.1.length:Int)>12) then true else decide ((a0.2.2.2.2.1.length:Int)>2)) (some ((false,()),())) (cC a1 0 a0)) (br (bif bif false then true else decide ((a0.2.2.2.1.length:Int)>12) then true else decide ((a0.2.2.2.2.1.length:Int)>2)) (some ((false,()),())) (cC a1 0 a0))))
def qx0(D:DX)(n:Nat)(a0:aM)(a1:Int):Option ah:=qzp D n (qux D n) a0 a1
def qwr(x0 x1:Int)(x2:aM):St:=bu 139 [(1,AV.val ag x0),(2,AV.addr 2 []),(5,AV.val ag x1)] [(2,aB.mk jG Mk.no x2 true)]
def qsw(a:Int)(b:Bool)(c:aM):St:=bu 139 [(1,AV.val ag a),(2,AV.addr 2 []),(4,AV.val Ty.bool b)] [(2,aB.mk jG Mk.no c true)]
def qsx(a:Int)(b:aM):St:=bu 139 [(1,AV.val ag a),(2,AV.addr 2 [])] [(2,aB.mk jG Mk.no b true)]
def qws(a b:Int)(c:aM):St:=bu 139 [(1,AV.val ag a),(2,AV.addr 2 []),(6,AV.val ag b)] [(2,aB.mk jG Mk.no c true)]
def qsy(a:Int)(b:Bool)(c:aM):St:=bu 139 [(1,AV.val ag a),(2,AV.addr 2 []),(4,AV.val Ty.bool b)] [(2,aB.mk jG Mk.no c true)]
def qsz(a:Int)(b:aM):St:=bu 139 [(1,AV.val ag a),(2,AV.addr 2 [])] [(2,aB.mk jG Mk.no b true)]
def qwt(a b:Int)(c:aM):St:=bu 139 [(1,AV.val ag a),(2,AV.addr 2 []),(7,AV.val ag b)] [(2,aB.mk jG Mk.no c true)]
def q36(a:Bool):St:=bu 139 [(4,AV.val Ty.bool a)] []
def q37:St:=bu 139 [] []
theorem ae8(D:DX)(n:Nat)(K:KT 101):∀(m:Nat)(x0 x1:Int)(x2:aM),LF D n 101 cG m (qwr x0 x1 x2) K=S8 D n (fun a b c=>K (Ex.ret) (qsw a b c)) (fun d e=>K (Ex.exit 0) (qsx d e)) m x0 x1 x2:=oP (fun F=>qwu D n F (fun a b c=>K (Ex.ret) (qsw a b c)) (fun d e=>K (Ex.exit 0) (qsx d e)))
theorem ae9(D:DX)(n:Nat)(K:KT 101):∀(m:Nat)(f g:Int)(h:aM),LF D n 101 eL m (qws f g h) K=Vt D n (fun a b c=>K (Ex.ret) (qsy a b c)) (fun d e=>K (Ex.exit 2) (qsz d e)) m f g h:=oP (fun F=>qwv D n F (fun a b c=>K (Ex.ret) (qsy a b c)) (fun d e=>K (Ex.exit 2) (qsz d e)))
theorem ae_(D:DX)(n:Nat)(K:KT 101):∀(m:Nat)(b c:Int)(d:aM),LF D n 101 lS m (qwt b c d) K=Vu D n (fun a=>K (Ex.ret) (q36 a)) (K (Ex.exit 4) (q37)) m b c d:=oP (fun F=>qww D n F (fun a=>K (Ex.ret) (q36 a)) (K (Ex.exit 4) (q37)))
theorem aex(D:DX)(n:Nat)(a b:Int)(c:aM):LF D n 101 lS n (qwt a b c) (CF D n 101 [] lS (lF 101))=quz D n a b c :=by rw[ae_];kernel_rfl
theorem aep(D:DX)(n:Nat)(a:Int)(b:Bool)(c:aM):(CF D n 101 [] eL (lF 101)) (Ex.ret) (qsy a b c)=q39 D n a b c:=by kernel_rfl
theorem aeq(D:DX)(n:Nat)(a:Int)(b:aM):(CF D n 101 [] eL (lF 101)) (Ex.exit 2) (qsz a b)=qs1 D n (fun c d e=>LF D n 101 lS n (qwt c d e) (CF D n 101 [] lS (lF 101))) a b:=by kernel_rfl
theorem aew(D:DX)(n:Nat)(a b:Int)(c:aM):LF D n 101 eL n (qws a b c) (CF D n 101 [] eL (lF 101))=quy D n a b c:=by rw[ae9];simp only[aep,aeq,aex];rfl
theorem aen(D:DX)(n:Nat)(a:Int)(b:Bool)(c:aM):(CF D n 101 [] cG (lF 101)) (Ex.ret) (qsw a b c)=q38 D n a b c:=by kernel_rfl
theorem aeo(D:DX)(n:Nat)(a:Int)(b:aM):(CF D n 101 [] cG (lF 101)) (Ex.exit 0) (qsx a b)=qs0 D n (fun c d e=>LF D n 101 eL n (qws c d e) (CF D n 101 [] eL (lF 101))) a b:=by kernel_rfl
theorem aev(D:DX)(n:Nat)(x0)(x1)(x2):LF D n 101 cG n (qwr x0 x1 x2) (CF D n 101 [] cG (lF 101))=qux D n x0 x1 x2:=by rw[ae8];simp only[aen,aeo,aew];rfl
theorem agb(D:DX)(n:Nat)(a0:aM)(a1:Int):rF D n 101 (a0,(a1,()))=qx0 D n a0 a1:=by
 have h:rF D n 101 (a0,(a1,()))=qzp D n (fun x0 x1 x2=>LF D n 101 cG n (qwr x0 x1 x2) (CF D n 101 [] cG (lF 101))) a0 a1:=by kernel_rfl
 rw[h];simp only[aev];rfl
def qw2(D:DX)(n:Nat)(go:Int->Int->Int->Int->aE->aM->Option ah)(K0:Bool->Int->Int->aE->aM->Option ah)(K1:Int->Int->aE->aM->Option ah)(x0 x1 x2 x3:Int)(x4:aE)(x5:aM):Option ah:=let y0:=List.getD x4.2.2.2.1 x3.toNat (0,(0,0,0,()),0,0,0,(0,[],()),());let y1:=wrap .i64 (x3+1);br (decide (x3<(x4.2.2.2.1.length:Int))) (br (decide (0<=x3)&&decide (x3<(x4.2.2.2.1.length:Int))) (br (y0.1 != x0) (go x0 x1 x2 y1 x4 x5) (br (decide (0<=x3)&&decide (x3<(x4.2.2.2.1.length:Int))) (br (decide (y0.2.2.2.2.1>=0)) (go x0 x1 (wrap .i64 (x2+1)) y1 x4 x5) (br (bif !x5.2.2.1 then true else x3 != x1) (K0 false x1 x2 x4 x5) (go x0 x1 x2 y1 x4 x5))) none)) none) (K1 x1 x2 x4 x5)
def Vw(D:DX)(n:Nat)(K0:Bool->Int->Int->aE->aM->Option ah)(K1:Int->Int->aE->aM->Option ah):Nat->Int->Int->Int->Int->aE->aM->Option ah | 0=>(fun x0 x1 x2 x3 x4 x5=>none) | m+1=>(fun x0 x1 x2 x3 x4 x5=>qw2 D n (Vw D n K0 K1 m) K0 K1 x0 x1 x2 x3 x4 x5)
def aeA(D:DX)(n:Nat)(a:Bool)(b c:Int)(d:aE)(e:aM):Option ah:=some ((a,()),())
def q4e(D:DX)(n:Nat)(b d:Int)(c:aE)(a:aM):Option ah:=let y0:=List.getD c.2.2.2.1 b.toNat (0,(0,0,0,()),0,0,0,(0,[],()),());br (d != a.2.1) (some ((false,()),())) (br (!a.2.2.1) (some ((true,()),())) (br (decide (b>=0)) (br (decide (0<=b)&&decide (b<(c.2.2.2.1.length:Int))) (br (decide (y0.2.2.2.2.1 = -1)) (br (decide (0<=b)&&decide (b<(c.2.2.2.1.length:Int))) (br (decide (0<=a.2.1)&&decide (a.2.1<(a.1.length:Int))) (some ((pP bW y0.2.1 (List.getD a.1 a.2.1.toNat (0,0,0,())),()),())) none) none) (some ((false,()),()))) none) (some ((false,()),()))))
def qu8(D:DX)(n:Nat):(Int)->(Int)->(Int)->(Int)->aE->aM->Option ah:=(fun x0 x1 x2 x3 x4 x5=>Vw D n (fun a b c d e=>aeA D n a b c d e) (fun f g h i=>q4e D n f g h i) n x0 x1 x2 x3 x4 x5)
def qz0(D:DX)(n:Nat)(cC:Int->Int->Int->Int->aE->aM->Option ah)(a0:aE)(a1:Int):Option ah:=br (decide (0<=a1)&&decide (a1<(a0.2.1.length:Int))) (qd (Zl D a0 a1) fun b=>cC a1 b.1.1 0 0 a0 (List.getD a0.2.1 a1.toNat ([],0,false,[],[],()))) none
def qx1(D:DX)(n:Nat)(a0:aE)(a1:Int):Option ah:=qz0 D n (qu8 D n) a0 a1
def qw1(x0 x1 x2 x3:Int)(x4:aE)(x5:aM):St:=bu 84 [(1,AV.val ag x0),(2,AV.addr 2 []),(5,AV.addr 5 []),(6,AV.val ag x1),(7,AV.val ag x2),(8,AV.val ag x3)] [(2,aB.mk cU Mk.no x4 true),(5,aB.mk jG Mk.no x5 true)]
def q4c(a:Bool)(b c:Int)(d:aE)(e:aM):St:=bu 84 [(2,AV.addr 2 []),(4,AV.val Ty.bool a),(5,AV.addr 5 []),(6,AV.val ag b),(7,AV.val ag c)] [(2,aB.mk cU Mk.no d true),(5,aB.mk jG Mk.no e true)]
def q4d(a b:Int)(c:aE)(d:aM):St:=bu 84 [(2,AV.addr 2 []),(5,AV.addr 5 []),(6,AV.val ag a),(7,AV.val ag b)] [(2,aB.mk cU Mk.no c true),(5,aB.mk jG Mk.no d true)]
theorem afl(D:DX)(n:Nat)(K:KT 102):∀(m:Nat)(x0 x1 x2 x3:Int)(x4:aE)(x5:aM),LF D n 102 lS m (qw1 x0 x1 x2 x3 x4 x5) K=Vw D n (fun a b c d e=>K (Ex.ret) (q4c a b c d e)) (fun f g h i=>K (Ex.exit 0) (q4d f g h i)) m x0 x1 x2 x3 x4 x5:=IW (fun F=>qw2 D n F (fun a b c d e=>K (Ex.ret) (q4c a b c d e)) (fun f g h i=>K (Ex.exit 0) (q4d f g h i)))
theorem aez(D:DX)(n:Nat)(x0)(x1)(x2)(x3)(x4)(x5):LF D n 102 lS n (qw1 x0 x1 x2 x3 x4 x5) (CF D n 102 [] lS (lF 102))=qu8 D n x0 x1 x2 x3 x4 x5 :=by rw[afl];kernel_rfl
theorem agc(D:DX)(n:Nat)(a0:aE)(a1:Int):rF D n 102 (a0,(a1,()))=qx1 D n a0 a1:=by
 have h:rF D n 102 (a0,(a1,()))=qz0 D n (fun x0 x1 x2 x3 x4 x5=>LF D n 102 lS n (qw1 x0 x1 x2 x3 x4 x5) (CF D n 102 [] lS (lF 102))) a0 a1:=by kernel_rfl
 rw[h];simp only[aez];rfl
def qyy(D:DX)(n:Nat)(go:List bE->Int->Int->aW->aW->Option nA)(K0:aW->aW->Option nA)(x0:List bE)(x1 x2:Int)(x3 x4:aW):Option nA:=let y0:=List.getD x0 x2.toNat (0,0,[],(0,[],()),());br (decide (x2<x1)) (br (decide (0<=x2)&&decide (x2<(x0.length:Int))) (qd (UZ D y0.2.2.1) fun p1=>qd (Iv D y0.2.2.2.1) fun p0=>br (decide (x4.2.1.length+1<=f_)) (go x0 x1 (wrap .i64 (x2+1)) x3 (x4.1,x4.2.1++[(y0.1,y0.2.1,p1.1.1,(p0.1.1.1,p0.1.1.2.1,()),())],x4.2.2)) none) none) (K0 x3 x4)
def Ta(D:DX)(n:Nat)(K0:aW->aW->Option nA):Nat->(List bE)->Int->Int->aW->aW->Option nA | 0=>(fun x0 x1 x2 x3 x4=>none) | m+1=>(fun x0 x1 x2 x3 x4=>qyy D n (Ta D n K0 m) K0 x0 x1 x2 x3 x4)
def aeH(D:DX)(n:Nat)(b a:aW):Option nA:=some (((a.1,a.2.1,()),()),())
def qwg(D:DX)(n:Nat):(List bE)->(Int)->(Int)->aW->aW->Option nA:=(fun x0 x1 x2 x3 x4=>Ta D n (fun a b=>aeH D n a b) n x0 x1 x2 x3 x4)
def YS(D:DX)(n:Nat)(cC:List bE->Int->Int->aW->aW->Option nA)(a0:aW):Option nA:=qd (qgi D a0.1) fun b=>cC a0.2.1 (a0.2.1.length:Int) 0 ([],[],()) (b.1.1,[],())
def Yo(D:DX)(n:Nat)(a0:aW):Option nA:=YS D n (qwg D n) a0
def qyx(x0:List bE)(x1 x2:Int)(x3 x4:aW):St:=bu 33 [(2,AV.addr 2 []),(3,AV.addr 3 []),(11,AV.val Co x0),(12,AV.val ag x1),(13,AV.val ag x2)] [(2,aB.mk jX lO x3 true),(3,aB.mk jX lO x4 true)]
def q6n(a b:aW):St:=bu 33 [(2,AV.addr 2 []),(3,AV.addr 3 [])] [(2,aB.mk jX lO a true),(3,aB.mk jX lO b true)]
theorem afQ(D:DX)(n:Nat)(K:KT 103):∀(m:Nat)(x0:List bE)(x1 x2:Int)(x3 x4:aW),LF D n 103 cG m (qyx x0 x1 x2 x3 x4) K=Ta D n (fun a b=>K (Ex.exit 0) (q6n a b)) m x0 x1 x2 x3 x4:=pJ (fun F=>qyy D n F (fun a b=>K (Ex.exit 0) (q6n a b)))
theorem aeG(D:DX)(n:Nat)(x0)(x1)(x2)(x3)(x4):LF D n 103 cG n (qyx x0 x1 x2 x3 x4) (CF D n 103 [] cG (lF 103))=qwg D n x0 x1 x2 x3 x4 :=by rw[afQ];kernel_rfl
theorem agz(D:DX)(n:Nat)(a0:aW):rF D n 103 (a0,())=Yo D n a0:=by
 have h:rF D n 103 (a0,())=YS D n (fun x0 x1 x2 x3 x4=>LF D n 103 cG n (qyx x0 x1 x2 x3 x4) (CF D n 103 [] cG (lF 103))) a0:=by kernel_rfl
 rw[h];simp only[aeG];rfl
def q6o(D:DX)(n:Nat)(a0:aM):Option jj:=qd (U5 D a0.1) fun b=>qd (qgh D a0.2.2.2.1) fun b_1=>qd (qgg D a0.2.2.2.2.1) fun b_2=>some (((b.1.1,a0.2.1,a0.2.2.1,b_1.1.1,b_2.1.1,()),()),())
def qt9(D:DX)(n:Nat)(a0:aM):Option jj:=q6o D n a0
theorem aeR(D:DX)(n:Nat)(a0:aM):rF D n 104 (a0,())=qt9 D n a0:=by kernel_rfl
def qw8(D:DX)(n:Nat)(a0:aE)(a1:Int):Option wk:=let y0:=List.getD a0.2.1 a1.toNat ([],0,false,[],[],());br (decide (0<=a1)&&decide (a1<(a0.2.1.length:Int))) (qd (Gc D y0) fun p2=>qd (Zb D (a0.1.1,a0.1.2.1,()) p2.1.1) fun p0=>let y1:=List.getD p0.1.1.2.1 a1.toNat (0,0,[],(0,[],()),());br (decide (p0.1.2.2.2.1=1)) (br (bif decide (p2.1.1.1=a1) then decide ((y0.2.2.2.2.1.length:Int)=1) else false) (qd (JX D y0 p0.1.2.2.1) fun p3=>br (decide (0<=a1)&&decide (a1<(a0.2.1.length:Int))) (some ((),((p0.1.1.1,p0.1.1.2.1,()),List.set a0.2.1 a1.toNat (p3.1.1.1,p3.1.1.2.1,p3.1.1.2.2.1,p3.1.1.2.2.2.1,p3.1.1.2.2.2.2.1,()),a0.2.2),())) none) (qd (TF D y0 p0.1.2.2.1) fun p4=>br (decide (0<=a1)&&decide (a1<(a0.2.1.length:Int))) (some ((),((p0.1.1.1,p0.1.1.2.1,()),List.set a0.2.1 a1.toNat (p4.1.1.1,p4.1.1.2.1,p4.1.1.2.2.1,p4.1.1.2.2.2.1,p4.1.1.2.2.2.2.1,()),a0.2.2),())) none)) (br (decide (p0.1.2.2.2.1=2)) (qd (Gb D y0) fun p1=>let y4:=List.set a0.2.1 a1.toNat (p1.1.1.1,p1.1.1.2.1,p1.1.1.2.2.1,p1.1.1.2.2.2.1,p1.1.1.2.2.2.2.1,());let y2:=List.getD y4 a1.toNat ([],0,false,[],[],());let y3:=List.set y4 a1.toNat (y2.1,y2.2.1,y2.2.2.1,y2.2.2.2.1,[],y2.2.2.2.2.2);let y5:=List.getD y3 a1.toNat ([],0,false,[],[],());br (decide (0<=a1)&&decide (a1<(a0.2.1.length:Int))) (br (p2.1.1.1 != a1) (some ((),((p0.1.1.1,p0.1.1.2.1,()),List.set a0.2.1 a1.toNat (p1.1.1.1,p1.1.1.2.1,p1.1.1.2.2.1,p1.1.1.2.2.2.1,p1.1.1.2.2.2.2.1,()),a0.2.2),())) (br (decide (0<=a1)&&decide (a1<(y4.length:Int))) (br (decide (0<=a1)&&decide (a1<(p0.1.1.2.1.length:Int))) (br (decide (y1.2.1=2)) (qd (SU D ((p0.1.1.1,p0.1.1.2.1,()),List.set y4 a1.toNat (y2.1,y2.2.1,y2.2.2.1,y2.2.2.2.1,[],y2.2.2.2.2.2),a0.2.2) a1 y1.2.2.2.1) fun p8=>some ((),p8.2.1,())) (br (decide (0<=a1)&&decide (a1<(y3.length:Int))) (some ((),((p0.1.1.1,p0.1.1.2.1,()),List.set y3 a1.toNat (y5.1,y5.2.1,y5.2.2.1,[],y5.2.2.2.2),a0.2.2),())) none)) none) none)) none) (br (decide (p0.1.2.2.2.1=3)) (br (decide (0<=p2.1.1.1)&&decide (p2.1.1.1<(p0.1.1.2.1.length:Int))) (qd (SR D ((p0.1.1.1,p0.1.1.2.1,()),a0.2) p2.1.1.1 (List.getD p0.1.1.2.1 p2.1.1.1.toNat (0,0,[],(0,[],()),())).2.2.2.1) fun p7=>qd (TF D y0 p0.1.2.1) fun p5=>br (decide (0<=a1)&&decide (a1<(p7.2.1.2.1.length:Int))) (some ((),(p7.2.1.1,List.set p7.2.1.2.1 a1.toNat (p5.1.1.1,p5.1.1.2.1,p5.1.1.2.2.1,p5.1.1.2.2.2.1,p5.1.1.2.2.2.2.1,()),p7.2.1.2.2),())) none) none) (qd (TF D y0 p0.1.2.1) fun p6=>br (decide (0<=a1)&&decide (a1<(a0.2.1.length:Int))) (some ((),((p0.1.1.1,p0.1.1.2.1,()),List.set a0.2.1 a1.toNat (p6.1.1.1,p6.1.1.2.1,p6.1.1.2.2.1,p6.1.1.2.2.2.1,p6.1.1.2.2.2.2.1,()),a0.2.2),())) none)))) none
def qni(D:DX)(n:Nat)(a0:aE)(a1:Int):Option wk:=qw8 D n a0 a1
theorem adA(D:DX)(n:Nat)(a0:aE)(a1:Int):rF D n 105 (a0,(a1,()))=qni D n a0 a1:=by kernel_rfl
def q0c(D:DX)(n:Nat)(a0:aE)(a1:Int):Option tq1:=let y1:=List.getD a0.2.1 a1.toNat ([],0,false,[],[],());let y0:=List.set a0.2.1 a1.toNat (y1.1,y1.2.1,y1.2.2.1,y1.2.2.2.1,y1.2.2.2.2);let y2:=List.getD y0 a1.toNat ([],0,false,[],[],());let y3:=List.getD y1.1 (Int.toNat y1.2.1) (0,0,0,());br (decide (0<=a1)&&decide (a1<(a0.2.1.length:Int))) (br (decide (0<=y1.2.1)&&decide (y1.2.1<(y1.1.length:Int))) (qd (FW D y3 y1.2.2.2.1) fun p2=>let y4:=List.getD a0.1.1 p2.1.1.toNat (0,0,0,());let y5:=List.set y0 a1.toNat (y2.1,y2.2.1,y2.2.2.1,y1.2.2.2.1++[(p2.1.1,y4.1,())],y2.2.2.2.2);let y6:=List.getD y5 a1.toNat ([],0,false,[],[],());br (decide (p2.1.1>=0)) (br (decide (0<=p2.1.1)&&decide (p2.1.1<(a0.1.1.length:Int))) (br (y4.2.1 != 0) (qd (JX D (y1.1,y1.2.1,y1.2.2.1,y1.2.2.2.1,y1.2.2.2.2) (wrap .i64 (y4.2.1-1),y4.2.2.1,0,0,())) fun p5=>some ((true,()),(a0.1,List.set a0.2.1 a1.toNat (p5.1.1.1,p5.1.1.2.1,p5.1.1.2.2.1,p5.1.1.2.2.2.1,p5.1.1.2.2.2.2.1,()),a0.2.2),())) (br (decide (y1.2.2.2.1.length+1<=f_)) (qd (VG D y3 y6.2.2.2.1) fun p0=>br (!p0.1.2.1) (some ((true,()),(a0.1,List.set y0 a1.toNat (y2.1,y2.2.1,y2.2.2.1,y1.2.2.2.1++[(p2.1.1,y4.1,())],y2.2.2.2.2),a0.2.2),())) (br p0.1.1.1 (qd (SR D (a0.1,List.set y0 a1.toNat (y2.1,y2.2.1,y2.2.2.1,y1.2.2.2.1++[(p2.1.1,y4.1,())],y2.2.2.2.2),a0.2.2) a1 (p0.1.1.2.1.1,p0.1.1.2.1.2.1,())) fun p9=>qd (SU D p9.2.1 a1 (p0.1.1.2.1.1,p0.1.1.2.1.2.1,())) fun jO=>some ((true,()),jO.2.1,())) (qd (VO D (a0.1.1,a0.1.2.1,()) a1 p0.1.1.2.2.1 (p0.1.1.2.1.1,p0.1.1.2.1.2.1,())) fun p6=>br p6.1.2.2.1 (qd (JX D y6 p6.1.2.1) fun p7=>some ((p6.1.2.2.1,()),((p6.1.1.1,p6.1.1.2.1,()),List.set y5 a1.toNat (p7.1.1.1,p7.1.1.2.1,p7.1.1.2.2.1,p7.1.1.2.2.2.1,p7.1.1.2.2.2.2.1,()),a0.2.2),())) none))) none)) none) (qd (VG D y3 y1.2.2.2.1) fun p1=>br (!p1.1.2.1) (some ((true,()),a0,())) (br p1.1.1.1 (qd (SR D a0 a1 (p1.1.1.2.1.1,p1.1.1.2.1.2.1,())) fun j8=>qd (SU D j8.2.1 a1 (p1.1.1.2.1.1,p1.1.1.2.1.2.1,())) fun p8=>some ((true,()),p8.2.1,())) (qd (VO D (a0.1.1,a0.1.2.1,()) a1 p1.1.1.2.2.1 (p1.1.1.2.1.1,p1.1.1.2.1.2.1,())) fun p3=>br p3.1.2.2.1 (qd (JX D (y1.1,y1.2.1,y1.2.2.1,y1.2.2.2.1,y1.2.2.2.2) p3.1.2.1) fun p4=>some ((p3.1.2.2.1,()),((p3.1.1.1,p3.1.1.2.1,()),List.set a0.2.1 a1.toNat (p4.1.1.1,p4.1.1.2.1,p4.1.1.2.2.1,p4.1.1.2.2.2.1,p4.1.1.2.2.2.2.1,()),a0.2.2),())) none)))) none) none
def qqg(D:DX)(n:Nat)(a0:aE)(a1:Int):Option tq1:=q0c D n a0 a1
theorem ad0(D:DX)(n:Nat)(a0:aE)(a1:Int):rF D n 106 (a0,(a1,()))=qqg D n a0 a1:=by kernel_rfl
def qye(D:DX)(n:Nat)(go:Int->List ak->Int->Int->ak->Option ki)(K0:Bool->ak->Option ki)(K1:ak->Option ki)(x0:Int)(x1:List ak)(x2 x3:Int)(x4:ak):Option ki:=br (decide (x3<x2)) (br (decide (0<=x3)&&decide (x3<(x1.length:Int))) (br (decide ((List.getD x1 x3.toNat (0,0,0,())).1=x0)) (K0 true (List.getD x1 x3.toNat (0,0,0,()))) (go x0 x1 x2 (wrap .i64 (x3+1)) x4)) none) (K1 x4)
def S5(D:DX)(n:Nat)(K0:Bool->ak->Option ki)(K1:ak->Option ki):Nat->Int->(List ak)->Int->Int->ak->Option ki | 0=>(fun x0 x1 x2 x3 x4=>none) | m+1=>(fun x0 x1 x2 x3 x4=>qye D n (S5 D n K0 K1 m) K0 K1 x0 x1 x2 x3 x4)
def q6b(D:DX)(n:Nat)(a:Bool)(b:ak):Option ki:=some ((b,a,()),())
def q6c(D:DX)(n:Nat)(a:ak):Option ki:=some (((0,0,0,()),false,()),())
def qv9(D:DX)(n:Nat):(Int)->(List ak)->(Int)->(Int)->ak->Option ki:=(fun x0 x1 x2 x3 x4=>S5 D n (fun a b=>q6b D n a b) (fun c=>q6c D n c) n x0 x1 x2 x3 x4)
def Yh(D:DX)(n:Nat)(cC:Int->List ak->Int->Int->ak->Option ki)(a0:bE)(a1:Int):Option ki:=cC a1 a0.2.2.1 (a0.2.2.1.length:Int) 0 (0,0,0,())
def XX(D:DX)(n:Nat)(a0:bE)(a1:Int):Option ki:=Yh D n (qv9 D n) a0 a1
def qyd(x0:Int)(x1:List ak)(x2 x3:Int)(x4:ak):St:=bu 22 [(1,AV.val ag x0),(4,AV.addr 4 []),(9,AV.val bQ x1),(10,AV.val ag x2),(11,AV.val ag x3)] [(4,aB.mk bW Mk.no x4 true)]
def q59(a:Bool)(b:ak):St:=bu 22 [(4,AV.addr 4 []),(5,AV.val Ty.bool a)] [(4,aB.mk bW Mk.no b true)]
def q6a(a:ak):St:=bu 22 [(4,AV.addr 4 [])] [(4,aB.mk bW Mk.no a true)]
theorem afJ(D:DX)(n:Nat)(K:KT 107):∀(m:Nat)(x0:Int)(x1:List ak)(x2 x3:Int)(x4:ak),LF D n 107 eI m (qyd x0 x1 x2 x3 x4) K=S5 D n (fun a b=>K (Ex.ret) (q59 a b)) (fun c=>K (Ex.exit 0) (q6a c)) m x0 x1 x2 x3 x4:=pJ (fun F=>qye D n F (fun a b=>K (Ex.ret) (q59 a b)) (fun c=>K (Ex.exit 0) (q6a c)))
theorem ae3(D:DX)(n:Nat)(x0)(x1)(x2)(x3)(x4):LF D n 107 eI n (qyd x0 x1 x2 x3 x4) (CF D n 107 [] eI (lF 107))=qv9 D n x0 x1 x2 x3 x4 :=by rw[afJ];kernel_rfl
theorem agL(D:DX)(n:Nat)(a0:bE)(a1:Int):rF D n 107 (a0,(a1,()))=XX D n a0 a1:=by
 have h:rF D n 107 (a0,(a1,()))=Yh D n (fun x0 x1 x2 x3 x4=>LF D n 107 eI n (qyd x0 x1 x2 x3 x4) (CF D n 107 [] eI (lF 107))) a0 a1:=by kernel_rfl
 rw[h];simp only[ae3];rfl
def qwk(D:DX)(n:Nat)(a1:bf)(go:List aM->Int->Int->Option aF)(K0:Int->Option aF)(K1:Option aF)(x0:List aM)(x1 x2:Int):Option aF:=br (decide (x2<x1)) (br (decide (0<=x2)&&decide (x2<(x0.length:Int))) (qd (gZ ctx D a1 [bD.val jG (List.getD x0 x2.toNat ([],0,false,[],[],()))] Ty.bool) fun b=>br b (K0 x2) (go x0 x1 (wrap .i64 (x2+1)))) none) K1
def JL(D:DX)(n:Nat)(a1:bf)(K0:Int->Option aF)(K1:Option aF):Nat->(List aM)->Int->Int->Option aF | 0=>(fun x0 x1 x2=>none) | m+1=>(fun x0 x1 x2=>qwk D n a1 (JL D n a1 K0 K1 m) K0 K1 x0 x1 x2)
def qnb(D:DX)(n:Nat)(a1:bf)(a:Int):Option aF:=some ((a,()),())
def qnc(D:DX)(n:Nat)(a1:bf):Option aF:=some ((-1,()),())
def qpq(D:DX)(n:Nat)(a1:bf):(List aM)->(Int)->(Int)->Option aF:=(fun x0 x1 x2=>JL D n a1 (fun a=>qnb D n a1 a) (qnc D n a1) n x0 x1 x2)
def qxk(D:DX)(n:Nat)(a1:bf)(cC:List aM->Int->Int->Option aF)(a0:List aM):Option aF:=cC a0 (a0.length:Int) 0
def qwl(D:DX)(n:Nat)(a0:List aM)(a1:bf):Option aF:=qxk D n a1 (qpq D n a1) a0
def qvf(a1:bf)(x0:List aM)(x1 x2:Int):St:=bu 19 [(0,AV.val IT x0),(1,AV.d9 a1),(7,AV.val ag x1),(8,AV.val ag x2)] []
def qy4(a1:bf)(a:Int):St:=bu 19 [(4,AV.val ag a)] []
def qy5(a1:bf):St:=bu 19 [] []
theorem q6t(D:DX)(n:Nat)(a1:bf)(K:KT 108):∀(m:Nat)(x0:List aM)(x1 x2:Int),LF D n 108 eI m (qvf a1 x0 x1 x2) K=JL D n a1 (fun a=>K (Ex.ret) (qy4 a1 a)) (K (Ex.exit 0) (qy5 a1)) m x0 x1 x2:=oP (fun F=>qwk D n a1 F (fun a=>K (Ex.ret) (qy4 a1 a)) (K (Ex.exit 0) (qy5 a1)))
theorem q6s(D:DX)(n:Nat)(a1:bf)(x0)(x1)(x2):LF D n 108 eI n (qvf a1 x0 x1 x2) (CF D n 108 [] eI (lF 108))=qpq D n a1 x0 x1 x2 :=by rw[q6t];kernel_rfl
theorem q6u(D:DX)(n:Nat)(a0:List aM)(a1:bf):rF D n 108 (a0,(a1,()))=qwl D n a0 a1:=by
 have h:rF D n 108 (a0,(a1,()))=qxk D n a1 (fun x0 x1 x2=>LF D n 108 eI n (qvf a1 x0 x1 x2) (CF D n 108 [] eI (lF 108))) a0:=by kernel_rfl
 rw[h];simp only[q6s];rfl
def qhm(D:DX)(n:Nat)(a1:bf)(a0:List bE):Option ah:=qd (qin D a0 a1) fun b=>some ((decide (b.1.1>=0),()),())
def qd5(D:DX)(n:Nat)(a0:List bE)(a1:bf):Option ah:=qhm D n a1 a0
theorem qn9(D:DX)(n:Nat)(a0:List bE)(a1:bf):rF D n 109 (a0,(a1,()))=qd5 D n a0 a1:=by kernel_rfl
def Ox(D:DX)(n:Nat)(a0:bE):Option ah:=qd (Zc D a0) fun b=>some ((!b.1.1,()),())
def XZ(D:DX)(n:Nat)(a0:bE):Option ah:=Ox D n a0
theorem agN(D:DX)(n:Nat)(a0:bE):rF D n 110 (a0,())=XZ D n a0:=by kernel_rfl
def Yg(D:DX)(n:Nat)(go:List ak->Int->Int->bE->Option ah)(K0:Bool->bE->Option ah)(K1:bE->Option ah)(x0:List ak)(x1 x2:Int)(x3:bE):Option ah:=let y0:=List.getD x0 x2.toNat (0,0,0,());br (decide (x2<x1)) (br (decide (0<=x2)&&decide (x2<(x0.length:Int))) (qd (VD D y0.1) fun p0=>br (!p0.1.1) (K0 false x3) (qd (JO D y0.2.1) fun p1=>br (!p1.1.1) (K0 false x3) (qd (JO D y0.2.2.1) fun p2=>br (!p2.1.1) (K0 false x3) (br (decide (x2>0)) (br (decide (0<=wrap .i64 (x2-1))&&decide (wrap .i64 (x2-1)<(x3.2.2.1.length:Int))) (br (decide ((List.getD x3.2.2.1 (Int.toNat (wrap .i64 (x2-1))) (0,0,0,())).1>=y0.1)) (K0 false x3) (go x0 x1 (wrap .i64 (x2+1)) x3)) none) (go x0 x1 (wrap .i64 (x2+1)) x3))))) none) (K1 x3)
def Tk(D:DX)(n:Nat)(K0:Bool->bE->Option ah)(K1:bE->Option ah):Nat->(List ak)->Int->Int->bE->Option ah | 0=>(fun x0 x1 x2 x3=>none) | m+1=>(fun x0 x1 x2 x3=>Yg D n (Tk D n K0 K1 m) K0 K1 x0 x1 x2 x3)
def q8w(D:DX)(n:Nat)(a:Bool)(b:bE):Option ah:=some ((a,()),())
def qv8(D:DX)(n:Nat)(a:bE):Option ah:=qd (kZ D a.1 1 1000000) fun b=>br b.1.1 (qd (kZ D a.2.1 1 3) fun b=>some ((bif b.1.1 then decide ((a.2.2.1.length:Int)<=20) else false,()),())) (some ((false,()),()))
def qyc(D:DX)(n:Nat):(List ak)->(Int)->(Int)->bE->Option ah:=(fun x0 x1 x2 x3=>Tk D n (fun a b=>q8w D n a b) (fun c=>qv8 D n c) n x0 x1 x2 x3)
def Zw(D:DX)(n:Nat)(cC:List ak->Int->Int->bE->Option ah)(a0:bE):Option ah:=br (decide (a0.1=0)) (some ((bif bif bif decide (a0.2.1=0) then decide ((a0.2.2.1.length:Int)=0) else false then decide (a0.2.2.2.1.1=0) else false then decide ((a0.2.2.2.1.2.1.length:Int)=0) else false,()),())) (cC a0.2.2.1 (a0.2.2.1.length:Int) 0 a0)
def Zn(D:DX)(n:Nat)(a0:bE):Option ah:=Zw D n (qyc D n) a0
def Yf(x0:List ak)(x1 x2:Int)(x3:bE):St:=bu 85 [(1,AV.addr 1 []),(31,AV.val bQ x0),(32,AV.val ag x1),(33,AV.val ag x2)] [(1,aB.mk wm Mk.no x3 true)]
def q8u(a:Bool)(b:bE):St:=bu 85 [(1,AV.addr 1 []),(2,AV.val Ty.bool a)] [(1,aB.mk wm Mk.no b true)]
def q8v(a:bE):St:=bu 85 [(1,AV.addr 1 [])] [(1,aB.mk wm Mk.no a true)]
theorem agh(D:DX)(n:Nat)(K:KT 111):∀(m:Nat)(x0:List ak)(x1 x2:Int)(x3:bE),LF D n 111 cG m (Yf x0 x1 x2 x3) K=Tk D n (fun a b=>K (Ex.ret) (q8u a b)) (fun c=>K (Ex.exit 0) (q8v c)) m x0 x1 x2 x3:=y_ (fun F=>Yg D n F (fun a b=>K (Ex.ret) (q8u a b)) (fun c=>K (Ex.exit 0) (q8v c)))
theorem afI(D:DX)(n:Nat)(x0)(x1)(x2)(x3):LF D n 111 cG n (Yf x0 x1 x2 x3) (CF D n 111 [] cG (lF 111))=qyc D n x0 x1 x2 x3 :=by rw[agh];kernel_rfl
theorem ahJ(D:DX)(n:Nat)(a0:bE):rF D n 111 (a0,())=Zn D n a0:=by
 have h:rF D n 111 (a0,())=Zw D n (fun x0 x1 x2 x3=>LF D n 111 cG n (Yf x0 x1 x2 x3) (CF D n 111 [] cG (lF 111))) a0:=by kernel_rfl
 rw[h];simp only[afI];rfl
def OZ(D:DX)(n:Nat)(a0:ak)(a1:Int):Option ah:=br (decide (a0.2.1=0)) (qd (JO D a0.1) fun p0=>some ((bif p0.1.1 then decide (a0.2.2.1=0) else false,()),())) (br (decide (a0.1=0)) (qd (kZ D a0.2.1 1 a1) fun p1=>br p1.1.1 (qd (kZ D a0.2.2.1 1 1000000) fun p2=>some ((p2.1.1,()),())) (some ((false,()),()))) (some ((false,()),())))
def Zr(D:DX)(n:Nat)(a0:ak)(a1:Int):Option ah:=OZ D n a0 a1
theorem ahW(D:DX)(n:Nat)(a0:ak)(a1:Int):rF D n 112 (a0,(a1,()))=Zr D n a0 a1:=by kernel_rfl
def qe5(D:DX)(n:Nat)(a1:bf)(go:List ak->Int->Int->Option aF)(K0:Int->Option aF)(K1:Option aF)(x0:List ak)(x1 x2:Int):Option aF:=br (decide (x2<x1)) (br (decide (0<=x2)&&decide (x2<(x0.length:Int))) (qd (gZ ctx D a1 [bD.val bW (List.getD x0 x2.toNat (0,0,0,()))] Ty.bool) fun b=>br b (K0 x2) (go x0 x1 (wrap .i64 (x2+1)))) none) K1
def JG(D:DX)(n:Nat)(a1:bf)(K0:Int->Option aF)(K1:Option aF):Nat->(List ak)->Int->Int->Option aF | 0=>(fun x0 x1 x2=>none) | m+1=>(fun x0 x1 x2=>qe5 D n a1 (JG D n a1 K0 K1 m) K0 K1 x0 x1 x2)
def qef(D:DX)(n:Nat)(a1:bf)(a:Int):Option aF:=some ((a,()),())
def qeg(D:DX)(n:Nat)(a1:bf):Option aF:=some ((-1,()),())
def qes(D:DX)(n:Nat)(a1:bf):(List ak)->(Int)->(Int)->Option aF:=(fun x0 x1 x2=>JG D n a1 (fun a=>qef D n a1 a) (qeg D n a1) n x0 x1 x2)
def qfi(D:DX)(n:Nat)(a1:bf)(cC:List ak->Int->Int->Option aF)(a0:List ak):Option aF:=cC a0 (a0.length:Int) 0
def qfd(D:DX)(n:Nat)(a0:List ak)(a1:bf):Option aF:=qfi D n a1 (qes D n a1) a0
def qe4(a1:bf)(x0:List ak)(x1 x2:Int):St:=bu 19 [(0,AV.val bQ x0),(1,AV.d9 a1),(7,AV.val ag x1),(8,AV.val ag x2)] []
def qhw(a1:bf)(a:Int):St:=bu 19 [(4,AV.val ag a)] []
def qhx(a1:bf):St:=bu 19 [] []
theorem qo6(D:DX)(n:Nat)(a1:bf)(K:KT 113):∀(m:Nat)(x0:List ak)(x1 x2:Int),LF D n 113 eI m (qe4 a1 x0 x1 x2) K=JG D n a1 (fun a=>K (Ex.ret) (qhw a1 a)) (K (Ex.exit 0) (qhx a1)) m x0 x1 x2:=oP (fun F=>qe5 D n a1 F (fun a=>K (Ex.ret) (qhw a1 a)) (K (Ex.exit 0) (qhx a1)))
theorem qok(D:DX)(n:Nat)(a1:bf)(x0)(x1)(x2):LF D n 113 eI n (qe4 a1 x0 x1 x2) (CF D n 113 [] eI (lF 113))=qes D n a1 x0 x1 x2 :=by rw[qo6];kernel_rfl
theorem qqf(D:DX)(n:Nat)(a0:List ak)(a1:bf):rF D n 113 (a0,(a1,()))=qfd D n a0 a1:=by
 have h:rF D n 113 (a0,(a1,()))=qfi D n a1 (fun x0 x1 x2=>LF D n 113 eI n (qe4 a1 x0 x1 x2) (CF D n 113 [] eI (lF 113))) a0:=by kernel_rfl
 rw[h];simp only[qok];rfl
def qq8(D:DX)(n:Nat)(a0:List Int)(a1:Int):Option ah:=qd (Vb D a0 a1) fun b=>some ((decide (b.1.1>=0),()),())
def qkg(D:DX)(n:Nat)(a0:List Int)(a1:Int):Option ah:=qq8 D n a0 a1
theorem q63(D:DX)(n:Nat)(a0:List Int)(a1:Int):rF D n 114 (a0,(a1,()))=qkg D n a0 a1:=by kernel_rfl
def OL(D:DX)(n:Nat)(a0:Int):Option aF:=qd (VC D a0) fun b=>qd (JT D b.1.1 (wrap .i64 (10+a0))) fun b=>some ((b.1.1,()),())
def XW(D:DX)(n:Nat)(a0:Int):Option aF:=OL D n a0
theorem agK(D:DX)(n:Nat)(a0:Int):rF D n 115 (a0,())=XW D n a0:=by kernel_rfl
def O_(D:DX)(n:Nat)(a0:Int):Option ah:=qd (kZ D a0 0 3) fun b=>some ((b.1.1,()),())
def ZT(D:DX)(n:Nat)(a0:Int):Option ah:=O_ D n a0
theorem aiC(D:DX)(n:Nat)(a0:Int):rF D n 118 (a0,())=ZT D n a0:=by kernel_rfl
def OO(D:DX)(n:Nat)(a0:Int):Option ah:=qd (kZ D a0 0 2) fun b=>some ((b.1.1,()),())
def Yq(D:DX)(n:Nat)(a0:Int):Option ah:=OO D n a0
theorem agB(D:DX)(n:Nat)(a0:Int):rF D n 119 (a0,())=Yq D n a0:=by kernel_rfl
def qi8(D:DX)(n:Nat)(a1:bf)(a0:List ak):Option ah:=qd (qj8 D a0 a1) fun b=>some ((decide (b.1.1>=0),()),())
def qfo(D:DX)(n:Nat)(a0:List ak)(a1:bf):Option ah:=qi8 D n a1 a0
theorem qri(D:DX)(n:Nat)(a0:List ak)(a1:bf):rF D n 120 (a0,(a1,()))=qfo D n a0 a1:=by kernel_rfl
def q6i(D:DX)(n:Nat)(a0:ak):Option ah:=qd (Iy D a0) fun b=>some ((!b.1.1,()),())
def qt6(D:DX)(n:Nat)(a0:ak):Option ah:=q6i D n a0
theorem aeN(D:DX)(n:Nat)(a0:ak):rF D n 121 (a0,())=qt6 D n a0:=by kernel_rfl
def qho(D:DX)(n:Nat)(a1:bf)(a0:List bB):Option ah:=qd (qip D a0 a1) fun b=>some ((decide (b.1.1>=0),()),())
def qd7(D:DX)(n:Nat)(a0:List bB)(a1:bf):Option ah:=qho D n a1 a0
theorem qob(D:DX)(n:Nat)(a0:List bB)(a1:bf):rF D n 122 (a0,(a1,()))=qd7 D n a0 a1:=by kernel_rfl
def q6j(D:DX)(n:Nat)(a0:bB):Option ah:=qd (VD D a0.1) fun b=>br (!b.1.1) (some ((true,()),())) (qd (JO D a0.2.1) fun b=>some ((!b.1.1,()),()))
def qt7(D:DX)(n:Nat)(a0:bB):Option ah:=q6j D n a0
theorem aeO(D:DX)(n:Nat)(a0:bB):rF D n 123 (a0,())=qt7 D n a0:=by kernel_rfl
def OP(D:DX)(n:Nat)(a0:Int):Option ah:=qd (kZ D a0 0 19) fun b=>some ((b.1.1,()),())
def Yr(D:DX)(n:Nat)(a0:Int):Option ah:=OP D n a0
theorem agC(D:DX)(n:Nat)(a0:Int):rF D n 124 (a0,())=Yr D n a0:=by kernel_rfl
def q9c(D:DX)(n:Nat)(a0:Int):Option ah:=qd (kZ D a0 0 1000) fun b=>some ((b.1.1,()),())
def qv0(D:DX)(n:Nat)(a0:Int):Option ah:=q9c D n a0
theorem afz(D:DX)(n:Nat)(a0:Int):rF D n 125 (a0,())=qv0 D n a0:=by kernel_rfl
def qhn(D:DX)(n:Nat)(a1:bf)(a0:List cA):Option ah:=qd (qio D a0 a1) fun b=>some ((decide (b.1.1>=0),()),())
def qd6(D:DX)(n:Nat)(a0:List cA)(a1:bf):Option ah:=qhn D n a1 a0
theorem qoa(D:DX)(n:Nat)(a0:List cA)(a1:bf):rF D n 126 (a0,(a1,()))=qd6 D n a0 a1:=by kernel_rfl
def q6k(D:DX)(n:Nat)(a0:cA)(a1:Int):Option ah:=qd (kZ D a0.1 0 (wrap .i64 (a1-1))) fun p0=>br (!p0.1.1) (some ((true,()),())) (qd (kZ D a0.2.1 1 1000000) fun p1=>br (!p1.1.1) (some ((true,()),())) (qd (kZ D a0.2.2.1 0 20) fun p2=>br (!p2.1.1) (some ((true,()),())) (qd (kZ D a0.2.2.2.1 0 20) fun p3=>some ((!p3.1.1,()),()))))
def qt8(D:DX)(n:Nat)(a0:cA)(a1:Int):Option ah:=q6k D n a0 a1
theorem aeP(D:DX)(n:Nat)(a0:cA)(a1:Int):rF D n 127 (a0,(a1,()))=qt8 D n a0 a1:=by kernel_rfl
def Pj(D:DX)(n:Nat)(a0:Int):Option ah:=qd (lU D a0 1 4) fun b=>some ((b.1.1,()),())
def q8j(D:DX)(n:Nat)(a0:Int):Option ah:=Pj D n a0
theorem aiQ(D:DX)(n:Nat)(a0:Int):rF D n 132 (a0,())=q8j D n a0:=by kernel_rfl
def aal(D:DX)(n:Nat)(a0:Int):Option ah:=some ((bif bif bif decide (a0=1) then true else decide (a0=2) then true else decide (a0=5) then true else decide (a0=10),()),())
def Pe(D:DX)(n:Nat)(a0:Int):Option ah:=aal D n a0
theorem aiR(D:DX)(n:Nat)(a0:Int):rF D n 133 (a0,())=Pe D n a0:=by kernel_rfl
def Pp(D:DX)(n:Nat)(a0:Int):Option aF:=qd (VR D a0) fun b=>br (!b.1.1) (some ((-1,()),())) (some ((a0,()),()))
def Z9(D:DX)(n:Nat)(a0:Int):Option aF:=Pp D n a0
theorem aiL(D:DX)(n:Nat)(a0:Int):rF D n 134 (a0,())=Z9 D n a0:=by kernel_rfl
def OT(D:DX)(n:Nat)(a0:Int):Option aF:=qd (C5 D a0) fun b=>br (!b.1.1) (some ((-1,()),())) (some ((wrap .i64 (3+a0),()),()))
def Yx(D:DX)(n:Nat)(a0:Int):Option aF:=OT D n a0
theorem ag4(D:DX)(n:Nat)(a0:Int):rF D n 135 (a0,())=Yx D n a0:=by kernel_rfl
def Ph(D:DX)(n:Nat)(a0:Int):Option aF:=qd (C5 D a0) fun b=>br (!b.1.1) (some ((-1,()),())) (qd (VE D) fun b=>some ((wrap .i64 (b.1.1+a0),()),()))
def q8h(D:DX)(n:Nat)(a0:Int):Option aF:=Ph D n a0
theorem aiN(D:DX)(n:Nat)(a0:Int):rF D n 136 (a0,())=q8h D n a0:=by kernel_rfl
def qzh(D:DX)(n:Nat)(go:Int->Int->Int->aC->Option aF)(K0:Int->Option aF)(x0 x1 x2:Int)(x3:aC):Option aF:=br (decide (x2<(x3.1.length:Int))) (br (decide (0<=x2)&&decide (x2<(x3.1.length:Int))) (qd (C5 D (List.getD x3.1 x2.toNat 0)) fun p0=>br p0.1.1 (br (decide (0<=x2)&&decide (x2<(x3.1.length:Int))) (qd (X7 D (List.getD x3.1 x2.toNat 0)) fun p1=>qd (TB D (decide (p1.1.1=x0))) fun p2=>go x0 (wrap .i64 (x1+p2.1.1)) (wrap .i64 (x2+1)) x3) none) (qd (TB D false) fun p3=>go x0 (wrap .i64 (x1+p3.1.1)) (wrap .i64 (x2+1)) x3)) none) (K0 x1)
def Td(D:DX)(n:Nat)(K0:Int->Option aF):Nat->Int->Int->Int->aC->Option aF | 0=>(fun x0 x1 x2 x3=>none) | m+1=>(fun x0 x1 x2 x3=>qzh D n (Td D n K0 m) K0 x0 x1 x2 x3)
def q6w(D:DX)(n:Nat)(a:Int):Option aF:=some ((a,()),())
def qwo(D:DX)(n:Nat):(Int)->(Int)->(Int)->aC->Option aF:=(fun x0 x1 x2 x3=>Td D n (fun a=>q6w D n a) n x0 x1 x2 x3)
def YD(D:DX)(n:Nat)(cC:Int->Int->Int->aC->Option aF)(a0:aC)(a1:Int):Option aF:=cC a1 0 0 a0
def Yw(D:DX)(n:Nat)(a0:aC)(a1:Int):Option aF:=YD D n (qwo D n) a0 a1
def qzg(x0 x1 x2:Int)(x3:aC):St:=bu 34 [(1,AV.val ag x0),(2,AV.addr 2 []),(5,AV.val ag x1),(6,AV.val ag x2)] [(2,aB.mk bZ Mk.no x3 true)]
def q6v(a:Int):St:=bu 34 [(5,AV.val ag a)] []
theorem afX(D:DX)(n:Nat)(K:KT 137):∀(m:Nat)(x0 x1 x2:Int)(x3:aC),LF D n 137 cG m (qzg x0 x1 x2 x3) K=Td D n (fun a=>K (Ex.exit 0) (q6v a)) m x0 x1 x2 x3:=y_ (fun F=>qzh D n F (fun a=>K (Ex.exit 0) (q6v a)))
theorem ae7(D:DX)(n:Nat)(x0)(x1)(x2)(x3):LF D n 137 cG n (qzg x0 x1 x2 x3) (CF D n 137 [] cG (lF 137))=qwo D n x0 x1 x2 x3 :=by rw[afX];kernel_rfl
theorem ag3(D:DX)(n:Nat)(a0:aC)(a1:Int):rF D n 137 (a0,(a1,()))=Yw D n a0 a1:=by
 have h:rF D n 137 (a0,(a1,()))=YD D n (fun x0 x1 x2 x3=>LF D n 137 cG n (qzg x0 x1 x2 x3) (CF D n 137 [] cG (lF 137))) a0 a1:=by kernel_rfl
 rw[h];simp only[ae7];rfl
def OR(D:DX)(n:Nat)(a0:Int):Option aF:=qd (lU D a0 0 2) fun b=>br (!b.1.1) (some ((-1,()),())) (some ((wrap .i64 (10+a0),()),()))
def Yu(D:DX)(n:Nat)(a0:Int):Option aF:=OR D n a0
theorem agF(D:DX)(n:Nat)(a0:Int):rF D n 138 (a0,())=Yu D n a0:=by kernel_rfl
def ahE(D:DX)(n:Nat):Option aF:=some ((13,()),())
def OH(D:DX)(n:Nat):Option aF:=ahE D n
theorem ag6(D:DX)(n:Nat):rF D n 139 ()=OH D n:=by kernel_rfl
def OS(D:DX)(n:Nat)(go:Int->bE->Option ah)(K0:Bool->Option ah)(K1:Option ah)(x0:Int)(x1:bE):Option ah:=let y0:=List.getD x1.2.2.1 x0.toNat (0,0,0,());br (decide (x0<(x1.2.2.1.length:Int))) (br (decide (0<=x0)&&decide (x0<(x1.2.2.1.length:Int))) (qd (lU D y0.1 0 19) fun p0=>br (!p0.1.1) (K0 false) (qd (lU D y0.2.1 0 1000) fun p1=>br (!p1.1.1) (K0 false) (qd (lU D y0.2.2.1 0 1000) fun p2=>br (!p2.1.1) (K0 false) (br (decide (x0>0)) (br (decide (0<=wrap .i64 (x0-1))&&decide (wrap .i64 (x0-1)<(x1.2.2.1.length:Int))) (br (decide ((List.getD x1.2.2.1 (Int.toNat (wrap .i64 (x0-1))) (0,0,0,())).1>=y0.1)) (K0 false) (go (wrap .i64 (x0+1)) x1)) none) (go (wrap .i64 (x0+1)) x1))))) none) K1
def YB(D:DX)(n:Nat)(K0:Bool->Option ah)(K1:Option ah):Nat->Int->bE->Option ah | 0=>(fun x0 x1=>none) | m+1=>(fun x0 x1=>OS D n (YB D n K0 K1 m) K0 K1 x0 x1)
def afG(D:DX)(n:Nat)(a:Bool):Option ah:=some ((a,()),())
def afH(D:DX)(n:Nat):Option ah:=some ((true,()),())
def N7(D:DX)(n:Nat):(Int)->bE->Option ah:=(fun x0 x1=>YB D n (fun a=>afG D n a) (afH D n) n x0 x1)
def ZI(D:DX)(n:Nat)(cC:Int->bE->Option ah)(a0:bE):Option ah:=br (decide (a0.1=0)) (some ((bif bif bif decide (a0.2.1=0) then decide ((a0.2.2.1.length:Int)=0) else false then decide (a0.2.2.2.1.1=0) else false then decide ((a0.2.2.2.1.2.1.length:Int)=0) else false,()),())) (qd (lU D a0.1 1 1000000) fun p0=>br (!p0.1.1) (some ((false,()),())) (qd (lU D a0.2.1 1 3) fun p1=>br (bif !p1.1.1 then true else decide ((a0.2.2.1.length:Int)>20)) (some ((false,()),())) (cC 0 a0)))
def Y4(D:DX)(n:Nat)(a0:bE):Option ah:=ZI D n (N7 D n) a0
def YC(x0:Int)(x1:bE):St:=bu 90 [(1,AV.addr 1 []),(3,AV.val ag x0)] [(1,aB.mk wm Mk.no x1 true)]
def q9s(a:Bool):St:=bu 90 [(2,AV.val Ty.bool a)] []
def q9t:St:=bu 90 [] []
theorem agn(D:DX)(n:Nat)(K:KT 140):∀(m:Nat)(x0:Int)(x1:bE),LF D n 140 eL m (YC x0 x1) K=YB D n (fun a=>K (Ex.ret) (q9s a)) (K (Ex.exit 0) (q9t)) m x0 x1:=Dw (fun F=>OS D n F (fun a=>K (Ex.ret) (q9s a)) (K (Ex.exit 0) (q9t)))
theorem afF(D:DX)(n:Nat)(x0)(x1):LF D n 140 eL n (YC x0 x1) (CF D n 140 [] eL (lF 140))=N7 D n x0 x1 :=by rw[agn];kernel_rfl
theorem ah0(D:DX)(n:Nat)(a0:bE):rF D n 140 (a0,())=Y4 D n a0:=by
 have h:rF D n 140 (a0,())=ZI D n (fun x0 x1=>LF D n 140 eL n (YC x0 x1) (CF D n 140 [] eL (lF 140))) a0:=by kernel_rfl
 rw[h];simp only[afF];rfl
def O3(D:DX)(n:Nat)(a0:ak)(a1:Int):Option ah:=br (decide (a0.2.1=0)) (br (decide (a0.2.2.1=0)) (qd (lU D a0.1 0 1000) fun p0=>some ((p0.1.1,()),())) (some ((false,()),()))) (br (decide (a0.1=0)) (qd (lU D a0.2.1 1 a1) fun p1=>br p1.1.1 (qd (lU D a0.2.2.1 1 1000000) fun p2=>some ((p2.1.1,()),())) (some ((false,()),()))) (some ((false,()),())))
def Y7(D:DX)(n:Nat)(a0:ak)(a1:Int):Option ah:=O3 D n a0 a1
theorem ah3(D:DX)(n:Nat)(a0:ak)(a1:Int):rF D n 141 (a0,(a1,()))=Y7 D n a0 a1:=by kernel_rfl
def Pg(D:DX)(n:Nat)(a0:Int):Option ah:=qd (lU D a0 1 6) fun b=>some ((b.1.1,()),())
def Z_(D:DX)(n:Nat)(a0:Int):Option ah:=Pg D n a0
theorem aiM(D:DX)(n:Nat)(a0:Int):rF D n 143 (a0,())=Z_ D n a0:=by kernel_rfl
def aak(D:DX)(n:Nat)(a0:Bool):Option aF:=br a0 (some ((1,()),())) (some ((0,()),()))
def Pd(D:DX)(n:Nat)(a0:Bool):Option aF:=aak D n a0
theorem aiO(D:DX)(n:Nat)(a0:Bool):rF D n 145 (a0,())=Pd D n a0:=by kernel_rfl
def PW(D:DX)(n:Nat)(a0:ak):Option ah:=let y1:Option ah:=(qd (C5 D a0.2.2.1) fun p7=>some ((p7.1.1,()),()));let y0:Option ah:=(qd (lU D a0.2.1 0 2) fun p1=>qd (BU D a0.1) fun p5=>br p5.1.1 (br p1.1.1 y1 (some ((false,()),()))) (some ((bif p1.1.1 then decide (a0.2.2.1=0) else false,()),())));qd (lU D a0.1 1 10) fun p3=>br (!p3.1.1) (some ((false,()),())) (qd (VS D a0.1) fun p4=>br p4.1.1 (qd (VR D a0.2.1) fun p0=>br (decide (a0.1=6)) y0 (qd (BU D a0.1) fun p6=>br p6.1.1 (br p0.1.1 y1 (some ((false,()),()))) (some ((bif p0.1.1 then decide (a0.2.2.1=0) else false,()),())))) (br (decide (a0.1=6)) y0 (qd (BU D a0.1) fun p2=>br p2.1.1 (br (decide (a0.2.1=0)) y1 (some ((false,()),()))) (some ((bif decide (a0.2.1=0) then decide (a0.2.2.1=0) else false,()),())))))
def F8(D:DX)(n:Nat)(a0:ak):Option ah:=PW D n a0
theorem aai(D:DX)(n:Nat)(a0:ak):rF D n 146 (a0,())=F8 D n a0:=by kernel_rfl
def YZ(D:DX)(n:Nat)(go:Int->Int->aE->Option aF)(K0:Int->Option aF)(K1:Option aF)(x0 x1:Int)(x2:aE):Option aF:=br (decide (x1>=0)) (br (decide (0<=x1)&&decide (x1<(x2.2.2.2.1.length:Int))) (br (decide ((List.getD x2.2.2.2.1 x1.toNat (0,(0,0,0,()),0,0,0,(0,[],()),())).1=x0)) (K0 x1) (go x0 (wrap .i64 (x1-1)) x2)) none) K1
def VF(D:DX)(n:Nat)(K0:Int->Option aF)(K1:Option aF):Nat->Int->Int->aE->Option aF | 0=>(fun x0 x1 x2=>none) | m+1=>(fun x0 x1 x2=>YZ D n (VF D n K0 K1 m) K0 K1 x0 x1 x2)
def af6(D:DX)(n:Nat)(a:Int):Option aF:=some ((a,()),())
def af7(D:DX)(n:Nat):Option aF:=some ((-1,()),())
def qzz(D:DX)(n:Nat):(Int)->(Int)->aE->Option aF:=(fun x0 x1 x2=>VF D n (fun a=>af6 D n a) (af7 D n) n x0 x1 x2)
def Zv(D:DX)(n:Nat)(cC:Int->Int->aE->Option aF)(a0:aE)(a1:Int):Option aF:=cC a1 (wrap .i64 ((a0.2.2.2.1.length:Int)-1)) a0
def Za(D:DX)(n:Nat)(a0:aE)(a1:Int):Option aF:=Zv D n (qzz D n) a0 a1
def YY(x0 x1:Int)(x2:aE):St:=bu 23 [(1,AV.val ag x0),(2,AV.addr 2 []),(5,AV.val ag x1)] [(2,aB.mk cU Mk.no x2 true)]
def q96(a:Int):St:=bu 23 [(4,AV.val ag a)] []
def q97:St:=bu 23 [] []
theorem agy(D:DX)(n:Nat)(K:KT 147):∀(m:Nat)(x0 x1:Int)(x2:aE),LF D n 147 eI m (YY x0 x1 x2) K=VF D n (fun a=>K (Ex.ret) (q96 a)) (K (Ex.exit 0) (q97)) m x0 x1 x2:=oP (fun F=>YZ D n F (fun a=>K (Ex.ret) (q96 a)) (K (Ex.exit 0) (q97)))
theorem af5(D:DX)(n:Nat)(x0)(x1)(x2):LF D n 147 eI n (YY x0 x1 x2) (CF D n 147 [] eI (lF 147))=qzz D n x0 x1 x2 :=by rw[agy];kernel_rfl
theorem ah7(D:DX)(n:Nat)(a0:aE)(a1:Int):rF D n 147 (a0,(a1,()))=Za D n a0 a1:=by
 have h:rF D n 147 (a0,(a1,()))=Zv D n (fun x0 x1 x2=>LF D n 147 eI n (YY x0 x1 x2) (CF D n 147 [] eI (lF 147))) a0 a1:=by kernel_rfl
 rw[h];simp only[af5];rfl
def qkd(D:DX)(n:Nat)(a0:List ak):Option mM:=br (decide (Int.toNat (a0.length:Int)=0)) (both (some (([],()),())) (br (decide (0+a0.length<=f_)) (some (([]++a0,()),())) none)) (br (decide (0+a0.length<=f_)) (some (([]++a0,()),())) none)
def qgl(D:DX)(n:Nat)(a0:List ak):Option mM:=qkd D n a0
theorem qtz(D:DX)(n:Nat)(a0:List ak):rF D n 148 (a0,())=qgl D n a0:=by kernel_rfl
def qjv(D:DX)(n:Nat)(a0:List ak):Option mM:=br (decide (Int.toNat (a0.length:Int)=0)) (both (some (([],()),())) (br (decide (0+a0.length<=f_)) (some (([]++a0,()),())) none)) (br (decide (0+a0.length<=f_)) (some (([]++a0,()),())) none)
def qfw(D:DX)(n:Nat)(a0:List ak):Option mM:=qjv D n a0
theorem qrt(D:DX)(n:Nat)(a0:List ak):rF D n 149 (a0,())=qfw D n a0:=by kernel_rfl
def qkc(D:DX)(n:Nat)(a0:List bB):Option ((List bB×Unit)×Unit):=br (decide (Int.toNat (a0.length:Int)=0)) (both (some (([],()),())) (br (decide (0+a0.length<=f_)) (some (([]++a0,()),())) none)) (br (decide (0+a0.length<=f_)) (some (([]++a0,()),())) none)
def qgk(D:DX)(n:Nat)(a0:List bB):Option ((List bB×Unit)×Unit):=qkc D n a0
theorem qty(D:DX)(n:Nat)(a0:List bB):rF D n 150 (a0,())=qgk D n a0:=by kernel_rfl
def qkb(D:DX)(n:Nat)(a0:List cA):Option ((List cA×Unit)×Unit):=br (decide (Int.toNat (a0.length:Int)=0)) (both (some (([],()),())) (br (decide (0+a0.length<=f_)) (some (([]++a0,()),())) none)) (br (decide (0+a0.length<=f_)) (some (([]++a0,()),())) none)
def qgj(D:DX)(n:Nat)(a0:List cA):Option ((List cA×Unit)×Unit):=qkb D n a0
theorem qtx(D:DX)(n:Nat)(a0:List cA):rF D n 151 (a0,())=qgj D n a0:=by kernel_rfl
def Qh(D:DX)(n:Nat)(a0:aM):Option ((cA×iW)×Unit):=br (decide ((a0.2.2.2.2.1.length:Int)=0)) (some (((0,0,0,0,()),false,()),())) (br (decide (0<=wrap .i64 ((a0.2.2.2.2.1.length:Int)-1))&&decide (wrap .i64 ((a0.2.2.2.2.1.length:Int)-1)<(a0.2.2.2.2.1.length:Int))) (some ((List.getD a0.2.2.2.2.1 (Int.toNat (wrap .i64 ((a0.2.2.2.2.1.length:Int)-1))) (0,0,0,0,()),true,()),())) none)
def Gf(D:DX)(n:Nat)(a0:aM):Option ((cA×iW)×Unit):=Qh D n a0
theorem aaZ(D:DX)(n:Nat)(a0:aM):rF D n 152 (a0,())=Gf D n a0:=by kernel_rfl
def OY(D:DX)(n:Nat)(a0:aW)(a1:cA):Option tq6:=let y0:=Int.toNat (if 0>a1.2.2.2.1 then 0 else a1.2.2.2.1);qd (JR D a0) fun p0=>let y1:=List.getD p0.1.1.2.1 a1.1.toNat (0,0,[],(0,[],()),());let y2:=List.getD y1.2.2.1 a1.2.2.2.1.toNat (0,0,0,());let y3:=List.getD y1.2.2.1 y0 (0,0,0,());let y4:=Int.toNat y3.1;let y5:=Int.toNat y2.1;let y6:=List.set p0.1.1.1 y4 (y3.2.1,0,0,());let y7:=List.set p0.1.1.1 y5 (y2.2.1,0,0,());qd (Ix D (p0.1.1.1,p0.1.1.2.1,())) fun p3=>br (!p3.1.1) (some (((p0.1.1.1,p0.1.1.2.1,()),a1,(0,0,0,0,()),2,()),())) (qd (kZ D a1.1 0 (wrap .i64 ((p0.1.1.2.1.length:Int)-1))) fun p4=>br (bif !p4.1.1 then true else decide (a1.2.1<1)) (some (((p0.1.1.1,p0.1.1.2.1,()),a1,(0,0,0,0,()),2,()),())) (br (decide (0<=a1.1)&&decide (a1.1<(p0.1.1.2.1.length:Int))) (br (y1.1 != a1.2.1) (some (((p0.1.1.1,p0.1.1.2.1,()),a1,(0,0,0,0,()),2,()),())) (br (decide (0<=a1.1)&&decide (a1.1<(p0.1.1.2.1.length:Int))) (br (bif y1.2.1 != 0 then bif decide (y1.2.1=1) then true else decide (a1.2.2.2.1<(y1.2.2.1.length:Int)) else false) (br (decide (y1.2.1=1)) (qd (UL D (p0.1.1.1,p0.1.1.2.1,()) (a1.1,a1.2.1,if 0>a1.2.2.1 then 0 else a1.2.2.1,if 0>a1.2.2.2.1 then 0 else a1.2.2.2.1,a1.2.2.2.2)) fun p1=>some (((p1.2.1.1,p1.2.1.2.1,()),p1.1.1,p1.1.2.1,p1.1.2.2.1,()),())) (br (bif decide (y1.2.1=0) then true else decide ((if 0>a1.2.2.2.1 then 0 else a1.2.2.2.1)>=(y1.2.2.1.length:Int))) (some (((p0.1.1.1,p0.1.1.2.1,()),(a1.1,a1.2.1,if 0>a1.2.2.1 then 0 else a1.2.2.1,if 0>a1.2.2.2.1 then 0 else a1.2.2.2.1,a1.2.2.2.2),(0,0,0,0,()),2,()),())) (br (decide (0<=if 0>a1.2.2.2.1 then 0 else a1.2.2.2.1)&&decide ((if 0>a1.2.2.2.1 then 0 else a1.2.2.2.1)<(y1.2.2.1.length:Int))) (br (decide (0<=y3.1)&&decide (y3.1<(p0.1.1.1.length:Int))) (br (pP bW (List.getD p0.1.1.1 y4 (0,0,0,())) (0,wrap .i64 (a1.1+1),a1.2.1,())) (br (decide (y1.2.1=2)) (some (((List.set y6 y4 (y3.2.2.1,(List.getD y6 y4 (0,0,0,())).2),p0.1.1.2.1,()),(a1.1,a1.2.1,if 0>a1.2.2.1 then 0 else a1.2.2.1,wrap .i64 ((if 0>a1.2.2.2.1 then 0 else a1.2.2.2.1)+1),a1.2.2.2.2),(0,0,0,0,()),0,()),())) (some (((y6,p0.1.1.2.1,()),(a1.1,a1.2.1,if 0>a1.2.2.1 then 0 else a1.2.2.1,wrap .i64 ((if 0>a1.2.2.2.1 then 0 else a1.2.2.2.1)+1),a1.2.2.2.2),(0,0,0,0,()),0,()),()))) (some (((p0.1.1.1,p0.1.1.2.1,()),(a1.1,a1.2.1,if 0>a1.2.2.1 then 0 else a1.2.2.1,wrap .i64 ((if 0>a1.2.2.2.1 then 0 else a1.2.2.2.1)+1),a1.2.2.2.2),(0,0,0,0,()),0,()),()))) none) none))) (br (decide (y1.2.1=1)) (qd (UL D (p0.1.1.1,p0.1.1.2.1,()) a1) fun p2=>some (((p2.2.1.1,p2.2.1.2.1,()),p2.1.1,p2.1.2.1,p2.1.2.2.1,()),())) (br (bif decide (y1.2.1=0) then true else decide (a1.2.2.2.1>=(y1.2.2.1.length:Int))) (some (((p0.1.1.1,p0.1.1.2.1,()),a1,(0,0,0,0,()),2,()),())) (br (decide (0<=a1.2.2.2.1)&&decide (a1.2.2.2.1<(y1.2.2.1.length:Int))) (br (decide (0<=y2.1)&&decide (y2.1<(p0.1.1.1.length:Int))) (br (pP bW (List.getD p0.1.1.1 y5 (0,0,0,())) (0,wrap .i64 (a1.1+1),a1.2.1,())) (br (decide (y1.2.1=2)) (some (((List.set y7 y5 (y2.2.2.1,(List.getD y7 y5 (0,0,0,())).2),p0.1.1.2.1,()),(a1.1,a1.2.1,a1.2.2.1,wrap .i64 (a1.2.2.2.1+1),a1.2.2.2.2),(0,0,0,0,()),0,()),())) (some (((y7,p0.1.1.2.1,()),(a1.1,a1.2.1,a1.2.2.1,wrap .i64 (a1.2.2.2.1+1),a1.2.2.2.2),(0,0,0,0,()),0,()),()))) (some (((p0.1.1.1,p0.1.1.2.1,()),(a1.1,a1.2.1,a1.2.2.1,wrap .i64 (a1.2.2.2.1+1),a1.2.2.2.2),(0,0,0,0,()),0,()),()))) none) none)))) none)) none))
def Zm(D:DX)(n:Nat)(a0:aW)(a1:cA):Option tq6:=OY D n a0 a1
theorem ahI(D:DX)(n:Nat)(a0:aW)(a1:cA):rF D n 153 (a0,(a1,()))=Zm D n a0 a1:=by kernel_rfl
def PI(D:DX)(n:Nat)(a0:aM)(a1:cA):Option jj:=qd (JN D a0) fun b=>br (decide (b.1.1.2.2.2.2.1.length+1<=f_)) (some (((b.1.1.1,b.1.1.2.1,b.1.1.2.2.1,b.1.1.2.2.2.1,b.1.1.2.2.2.2.1++[a1],()),()),())) none
def F5(D:DX)(n:Nat)(a0:aM)(a1:cA):Option jj:=PI D n a0 a1
theorem aac(D:DX)(n:Nat)(a0:aM)(a1:cA):rF D n 154 (a0,(a1,()))=F5 D n a0 a1:=by kernel_rfl
def PJ(D:DX)(n:Nat)(a0:aM)(a1:cA):Option jj:=qd (JN D a0) fun p0=>br (decide ((p0.1.1.2.2.2.2.1.length:Int)>0)) (br (decide (0<=wrap .i64 ((p0.1.1.2.2.2.2.1.length:Int)-1))&&decide (wrap .i64 ((p0.1.1.2.2.2.2.1.length:Int)-1)<(p0.1.1.2.2.2.2.1.length:Int))) (some (((p0.1.1.1,p0.1.1.2.1,p0.1.1.2.2.1,p0.1.1.2.2.2.1,List.set p0.1.1.2.2.2.2.1 (Int.toNat (wrap .i64 ((p0.1.1.2.2.2.2.1.length:Int)-1))) a1,()),()),())) none) (some (((p0.1.1.1,p0.1.1.2.1,p0.1.1.2.2.1,p0.1.1.2.2.2.1,p0.1.1.2.2.2.2.1,()),()),()))
def F7(D:DX)(n:Nat)(a0:aM)(a1:cA):Option jj:=PJ D n a0 a1
theorem aaf(D:DX)(n:Nat)(a0:aM)(a1:cA):rF D n 155 (a0,(a1,()))=F7 D n a0 a1:=by kernel_rfl
def Qg(D:DX)(n:Nat)(a0:aM):Option jj:=qd (JN D a0) fun p0=>br (decide ((p0.1.1.2.2.2.2.1.length:Int)>0)) (br (decide (0<=wrap .i64 ((p0.1.1.2.2.2.2.1.length:Int)-1))&&decide (wrap .i64 ((p0.1.1.2.2.2.2.1.length:Int)-1)<=(p0.1.1.2.2.2.2.1.length:Int))) (some (((p0.1.1.1,p0.1.1.2.1,p0.1.1.2.2.1,p0.1.1.2.2.2.1,List.take (Int.toNat (wrap .i64 ((p0.1.1.2.2.2.2.1.length:Int)-1))) p0.1.1.2.2.2.2.1,()),()),())) none) (some (((p0.1.1.1,p0.1.1.2.1,p0.1.1.2.2.1,p0.1.1.2.2.2.1,p0.1.1.2.2.2.2.1,()),()),()))
def Ge(D:DX)(n:Nat)(a0:aM):Option jj:=Qg D n a0
theorem aaY(D:DX)(n:Nat)(a0:aM):rF D n 156 (a0,())=Ge D n a0:=by kernel_rfl
def q0b(D:DX)(n:Nat)(z0:Int)(z1:aE):Option wk:=let y5:=List.getD z1.2.1 z0.toNat ([],0,false,[],[],());let y2:=List.set z1.2.1 z0.toNat (y5.1,wrap .i64 (y5.2.1+1),y5.2.2);let y6:=List.getD y2 z0.toNat ([],0,false,[],[],());let y0:=List.set y2 z0.toNat (y6.1,y6.2.1,false,y6.2.2.2);let y4:=List.getD y0 z0.toNat ([],0,false,[],[],());let y1:=List.set y0 z0.toNat (y4.1,y4.2.1,y4.2.2.1,[],y4.2.2.2.2);let y3:=List.getD y1 z0.toNat ([],0,false,[],[],());br (decide (0<=z0)&&decide (z0<(z1.2.1.length:Int))) (some ((),(z1.1,List.set y1 z0.toNat (y3.1,y3.2.1,y3.2.2.1,y3.2.2.2.1,[],y3.2.2.2.2.2),z1.2.2),())) none
def qqt(D:DX)(n:Nat)(z0:Int)(z1:aE):Option wk:=q0b D n z0 z1
def qsf(D:DX)(n:Nat)(j0:Int->aE->Option wk)(a0:aE)(a1:Int)(a2:f9):Option wk:=qd (U9 D a0 a1) fun p0=>let y2:=List.getD p0.2.1.2.2.2.1 p0.1.1.toNat (0,(0,0,0,()),0,0,0,(0,[],()),());let y0:=List.set p0.2.1.2.2.2.1 p0.1.1.toNat (y2.1,y2.2.1,y2.2.2.1,y2.2.2.2.1,p0.2.1.2.2.1,y2.2.2.2.2.2);let y1:=List.getD y0 p0.1.1.toNat (0,(0,0,0,()),0,0,0,(0,[],()),());br (decide (p0.1.1>=0)) (br (decide (0<=p0.1.1)&&decide (p0.1.1<(p0.2.1.2.2.2.1.length:Int))) (qd (Iv D a2) fun p1=>br (decide (0<=p0.1.1)&&decide (p0.1.1<(y0.length:Int))) (j0 a1 (p0.2.1.1,p0.2.1.2.1,p0.2.1.2.2.1,List.set y0 p0.1.1.toNat (y1.1,y1.2.1,y1.2.2.1,y1.2.2.2.1,y1.2.2.2.2.1,(p1.1.1.1,p1.1.1.2.1,()),y1.2.2.2.2.2.2),p0.2.1.2.2.2.2)) none) none) (j0 a1 p0.2.1)
def qrv(D:DX)(n:Nat)(a0:aE)(a1:Int)(a2:f9):Option wk:=qsf D n (fun z0 z1=>qqt D n z0 z1) a0 a1 a2
def qym(z0:Int)(z1:aE):St:=bu 55 [(0,AV.addr 0 []),(1,AV.val ag z0)] [(0,aB.mk cU Ae z1 true)]
theorem adz(D:DX)(n:Nat)(z0)(z1):mZ ctx D (ctx.hints 157) n (tI (bF 157) [.r,.r]) (qym z0 z1) (lF 157)=qqt D n z0 z1:=by kernel_rfl
theorem adV(D:DX)(n:Nat)(K:St->Option (Out ctx 157))(a0:aE)(a1:Int)(a2:f9):uA ctx D (ctx.hints 157) n 2 (bF 157) (HP (C:=ctx) vS 157 (a0,(a1,(a2,())))) K (lF 157)=qsf D n (fun z0 z1=>K (qym z0 z1)) a0 a1 a2:=by kernel_rfl
theorem aee(D:DX)(n:Nat)(a0:aE)(a1:Int)(a2:f9):rF D n 157 (a0,(a1,(a2,())))=qrv D n a0 a1 a2:=
 (ade vS D n 157 _ (by kernel_rfl)).trans ((acR ctx D (ctx.hints 157) n 2 (lF 157) (bF 157) [.r,.r] _ rfl (by kernel_rfl)).symm.trans ((adV D n (fun S=>mZ ctx D (ctx.hints 157) n (tI (bF 157) [.r,.r]) S (lF 157)) a0 a1 a2).trans (by simp only[adz];rfl)))
end
end Go.G
